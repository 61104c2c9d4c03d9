/-
  posternkeep.Code's last instruction of a block: six cells written anew, rows laid behind; a region of which two operations may come up.
-/
import Derived.Test.YthgmaapebplimaaRawMem
import Derived.Test.YthgmaapebplimaaTail
namespace Go.Pst
open Go Go.RowKit
section
variable {P : Program} {ops : Array Oper} {Q : Exit → Act → World → Prop} {md : Region.Mode} {S : World → Prop} {t : Nat}
/-- Two operations may come up. -/
theorem WpT.two {i j : Nat} {o o' : Oper} {n : Nat} {l : Array Bool} {a : Act} {w : World} (hr : Region.ready md ops l = [i, j]) (ho : ops[i]? = some o) (ho' : ops[j]? = some o')
    (h : ∀ K, ThenT P md ops Q S t n i l K → if Region.wanted o (yielded ops a.tmps) = true then Oper.wp P o a w K Q else K (a.put o.dst undef) w)
    (h' : ∀ K, ThenT P md ops Q S t n j l K → if Region.wanted o' (yielded ops a.tmps) = true then Oper.wp P o' a w K Q else K (a.put o'.dst undef) w) : WpT P md ops Q S t (n + 1) l a w := by
  refine ⟨fun h0 => (by rw [hr] at h0; cases h0), fun q hq => ?_⟩
  rw [hr] at hq
  have key : ∀ (i : Nat) (o : Oper), ops[i]? = some o → (∀ K, ThenT P md ops Q S t n i l K → if Region.wanted o (yielded ops a.tmps) = true then Oper.wp P o a w K Q else K (a.put o.dst undef) w) →
      wpOp P ops Q i (fun a' w' => (i ≠ t → l.getD t true = false → S w') ∧ WpT P md ops Q S t n (l.setIfInBounds i true) a' w') a w := by
    intro j o ho h
    unfold wpOp
    simp only [ho]
    have hk := h (fun a' w' => (j ≠ t → l.getD t true = false → S w') ∧ WpT P md ops Q S t n (l.setIfInBounds j true) a' w') (fun a' w' hS hW => ⟨hS, hW⟩)
    by_cases hw : Region.wanted o (yielded ops a.tmps) = true
    · rw [if_pos hw] at hk ⊢
      exact Or.inl hk
    · rw [if_neg hw] at hk ⊢
      exact hk
  rcases List.mem_cons.1 hq with e | e
  · subst e; exact key _ _ ho h
  · rw [List.mem_singleton] at e; subst e; exact key _ _ ho' h'
end

/-- Six cells of a box are written, then rows are laid. -/
theorem six_rows {w : World} {b : Nat} (hb : b < w.heap.size) {c0 c1 c2 c3 c4 c5 : Value} (g0 : w.cell? ⟨b, 0, none⟩ = some c0) (g1 : w.cell? ⟨b, 1, none⟩ = some c1) (g2 : w.cell? ⟨b, 2, none⟩ = some c2) (g3 : w.cell? ⟨b, 3, none⟩ = some c3) (g4 : w.cell? ⟨b, 4, none⟩ = some c4) (g5 : w.cell? ⟨b, 5, none⟩ = some c5)
    (u0 u1 u2 u3 u4 u5 : Value) (rows : List Obj) (W : World) (hW : W = rows.foldl World.alloc ((((((w.setCell ⟨b, 0, none⟩ u0).setCell ⟨b, 1, none⟩ u1).setCell ⟨b, 2, none⟩ u2).setCell ⟨b, 3, none⟩ u3).setCell ⟨b, 4, none⟩ u4).setCell ⟨b, 5, none⟩ u5)) :
    (W.cell? ⟨b, 0, none⟩ = some u0 ∧ W.cell? ⟨b, 1, none⟩ = some u1 ∧ W.cell? ⟨b, 2, none⟩ = some u2 ∧ W.cell? ⟨b, 3, none⟩ = some u3 ∧ W.cell? ⟨b, 4, none⟩ = some u4 ∧ W.cell? ⟨b, 5, none⟩ = some u5) ∧ Since (fun k => k = b) w W ∧
      ∀ k, k < rows.length → W.heap[w.heap.size + k]? = rows[k]? := by
  have ne : ∀ i j : Nat, i ≠ j → (⟨b, i, none⟩ : Addr) ≠ ⟨b, j, none⟩ := fun i j h e => h (by injection e)
  generalize hZ : (((((w.setCell ⟨b, 0, none⟩ u0).setCell ⟨b, 1, none⟩ u1).setCell ⟨b, 2, none⟩ u2).setCell ⟨b, 3, none⟩ u3).setCell ⟨b, 4, none⟩ u4).setCell ⟨b, 5, none⟩ u5 = Z at hW
  have hsz : Z.heap.size = w.heap.size := by rw [← hZ]; simp
  have hs : Since (fun k => k = b) w Z := by
    rw [← hZ]
    have st : ∀ (w' : World) (i : Nat) (u : Value), Since (fun k => k = b) w w' → Since (fun k => k = b) w (w'.setCell ⟨b, i, none⟩ u) := fun w' i u h => h.trans (Since.setCell w' ⟨b, i, none⟩ u)
    exact st _ _ _ (st _ _ _ (st _ _ _ (st _ _ _ (st _ _ _ (st _ _ _ (Since.refl _ _))))))
  have hz : Z.cell? ⟨b, 0, none⟩ = some u0 ∧ Z.cell? ⟨b, 1, none⟩ = some u1 ∧ Z.cell? ⟨b, 2, none⟩ = some u2 ∧ Z.cell? ⟨b, 3, none⟩ = some u3 ∧ Z.cell? ⟨b, 4, none⟩ = some u4 ∧ Z.cell? ⟨b, 5, none⟩ = some u5 := by
    have far : ∀ (w : World) (i j : Nat) (u : Value) (x : Option Value), i ≠ j → w.cell? ⟨b, i, none⟩ = x → (w.setCell ⟨b, j, none⟩ u).cell? ⟨b, i, none⟩ = x := fun w i j u x h e => (World.cell?_setCell_other _ _ _ _ (ne j i (Ne.symm h))).trans e
    rw [← hZ]
    refine ⟨?_, ?_, ?_, ?_, ?_, ?_⟩
    · exact far _ _ _ _ _ (by decide) (far _ _ _ _ _ (by decide) (far _ _ _ _ _ (by decide) (far _ _ _ _ _ (by decide) (far _ _ _ _ _ (by decide) (World.cell?_setCell_same _ _ _ g0)))))
    · exact far _ _ _ _ _ (by decide) (far _ _ _ _ _ (by decide) (far _ _ _ _ _ (by decide) (far _ _ _ _ _ (by decide) (World.cell?_setCell_same _ _ _ (far _ _ _ _ _ (by decide) g1)))))
    · exact far _ _ _ _ _ (by decide) (far _ _ _ _ _ (by decide) (far _ _ _ _ _ (by decide) (World.cell?_setCell_same _ _ _ (far _ _ _ _ _ (by decide) (far _ _ _ _ _ (by decide) g2)))))
    · exact far _ _ _ _ _ (by decide) (far _ _ _ _ _ (by decide) (World.cell?_setCell_same _ _ _ (far _ _ _ _ _ (by decide) (far _ _ _ _ _ (by decide) (far _ _ _ _ _ (by decide) g3)))))
    · exact far _ _ _ _ _ (by decide) (World.cell?_setCell_same _ _ _ (far _ _ _ _ _ (by decide) (far _ _ _ _ _ (by decide) (far _ _ _ _ _ (by decide) (far _ _ _ _ _ (by decide) g4)))))
    · exact World.cell?_setCell_same _ _ _ (far _ _ _ _ _ (by decide) (far _ _ _ _ _ (by decide) (far _ _ _ _ _ (by decide) (far _ _ _ _ _ (by decide) (far _ _ _ _ _ (by decide) g5)))))
  have hall : ∀ (rows : List Obj) (Z : World), Since (fun _ => False) Z (rows.foldl World.alloc Z) := fun rows => by
    induction rows with
    | nil => exact fun Z => Since.refl _ _
    | cons o r ih => exact fun Z => (Since.alloc _ _ _).trans (ih _)
  have h2 := hall rows Z
  have hc := fun o => h2.cell (b := b) (o := o) (by omega) (fun f => f)
  subst hW
  refine ⟨⟨(hc 0).trans hz.1, (hc 1).trans hz.2.1, (hc 2).trans hz.2.2.1, (hc 3).trans hz.2.2.2.1, (hc 4).trans hz.2.2.2.2.1, (hc 5).trans hz.2.2.2.2.2⟩, hs.trans (h2.mono fun _ f => f.elim), fun k hk => ?_⟩
  rw [← hsz]
  exact allocs_get rows Z k hk
theorem six_rowsD {w : World} {b : Nat} (hb : b < w.heap.size) {c0 c1 c2 c3 c4 c5 : Value} (g0 : w.cell? ⟨b, 0, none⟩ = some c0) (g1 : w.cell? ⟨b, 1, none⟩ = some c1) (g2 : w.cell? ⟨b, 2, none⟩ = some c2) (g3 : w.cell? ⟨b, 3, none⟩ = some c3) (g4 : w.cell? ⟨b, 4, none⟩ = some c4) (g5 : w.cell? ⟨b, 5, none⟩ = some c5)
    (u0 u1 u2 u3 u4 u5 : Value) (rows : List Obj) (W : World) (hW : W = rows.foldl World.alloc ((((((w.setCell ⟨b, 0, none⟩ u0).setCell ⟨b, 1, none⟩ u1).setCell ⟨b, 2, none⟩ u2).setCell ⟨b, 3, none⟩ u3).setCell ⟨b, 4, none⟩ u4).setCell ⟨b, 5, none⟩ u5)) :
    (W.drew.cell? ⟨b, 0, none⟩ = some u0 ∧ W.drew.cell? ⟨b, 1, none⟩ = some u1 ∧ W.drew.cell? ⟨b, 2, none⟩ = some u2 ∧ W.drew.cell? ⟨b, 3, none⟩ = some u3 ∧ W.drew.cell? ⟨b, 4, none⟩ = some u4 ∧ W.drew.cell? ⟨b, 5, none⟩ = some u5) ∧ Since (fun k => k = b) w W.drew ∧
      ∀ k, k < rows.length → W.drew.heap[w.heap.size + k]? = rows[k]? := by
  obtain ⟨h1, h2, h3⟩ := six_rows hb g0 g1 g2 g3 g4 g5 u0 u1 u2 u3 u4 u5 rows W hW
  exact ⟨h1, h2.trans (Since.drew _ _), h3⟩
end Go.Pst

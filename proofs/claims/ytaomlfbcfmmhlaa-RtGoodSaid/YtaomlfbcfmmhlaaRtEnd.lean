/-
  rt's functions: what is told at the end; invoke, walked.
-/
import Derived.Test.YtaomlfbcfmmhlaaRtStart
namespace Go.Proofs.Ytaomlfbcfmmhlaa
open Go.RowKit Go.Pst
set_option linter.unusedVariables false
set_option linter.unusedSimpArgs false

variable {B bm n k : Nat} {w0 w : World} {l : List (Nat × Nat × Value)} {c : PCode}
theorem env_end (h : Env B w0 bm l n c k w) : B ≤ bm ∧ bm < w.heap.size ∧ ∃ gB cB, (w.cell? ⟨bm, 0, none⟩ = some (.string c.name) ∧ w.cell? ⟨bm, 1, none⟩ = some (.int .i64 c.params) ∧ w.cell? ⟨bm, 2, none⟩ = some (.int .i64 c.results) ∧ w.cell? ⟨bm, 3, none⟩ = some (.int .i64 c.vars) ∧ w.cell? ⟨bm, 4, none⟩ = some (.int .i64 c.slots) ∧ w.cell? ⟨bm, 5, none⟩ = some (.slice (some ⟨gB, 0, none⟩) c.blocks.length cB)) ∧
    rCode (fun x => B ≤ x) w [.string c.name, .int .i64 c.params, .int .i64 c.results, .int .i64 c.vars, .int .i64 c.slots, .slice (some ⟨gB, 0, none⟩) c.blocks.length cB] c := by
  obtain ⟨X, M, ⟨gB, cB, vs, hc⟩, -, -, -, -, hM⟩ := h
  refine ⟨Nat.le_of_not_lt fun h => hc.x_.1 (hM _ h), hc.lt, gB, cB, ⟨by simpa using hc.c0, by simpa using hc.c1, by simpa using hc.c2, by simpa using hc.c3, by simpa using hc.c4, by simpa using hc.c5⟩, _, rfl, hc.fit, ?_⟩
  have hX : ∀ x, ¬ M x → B ≤ x := fun x hm => Nat.le_of_not_lt (fun h => hm ((hc.mine x).2 (Or.inr (Or.inr (Or.inr (hM _ h))))))
  exact rSlice_own hc.row (fun x hx => by
    simp [Value.ownBlock] at hx
    rw [← hx]
    exact Nat.le_of_not_lt fun h => hc.x_.2.1 (hM _ h)) (fun i hi => ⟨vs[i]'(by rw [hc.len]; exact hi), by simp [hc.len, hi], (hc.blk i hi (by rw [hc.len]; exact hi)).reads' (fun x hx => by
      exact Nat.le_of_not_lt fun h => (hc.own _ (List.getElem_mem (by rw [hc.len]; exact hi))).2.2 x hx (hM _ h)) hX⟩)
/-- Six cells of one block written anew. -/
theorem box_six {W : World} {b : Nat} {x0 x1 x2 x3 x4 x5 : Value} (u0 u1 u2 u3 u4 u5 : Value) (h0 : W.cell? ⟨b, 0, none⟩ = some x0) (h1 : W.cell? ⟨b, 1, none⟩ = some x1) (h2 : W.cell? ⟨b, 2, none⟩ = some x2) (h3 : W.cell? ⟨b, 3, none⟩ = some x3) (h4 : W.cell? ⟨b, 4, none⟩ = some x4) (h5 : W.cell? ⟨b, 5, none⟩ = some x5) :
    ∃ V, V = (((((W.setCell ⟨b, 0, none⟩ u0).setCell ⟨b, 1, none⟩ u1).setCell ⟨b, 2, none⟩ u2).setCell ⟨b, 3, none⟩ u3).setCell ⟨b, 4, none⟩ u4).setCell ⟨b, 5, none⟩ u5 ∧
      V.cell? ⟨b, 0, none⟩ = some u0 ∧ V.cell? ⟨b, 1, none⟩ = some u1 ∧ V.cell? ⟨b, 2, none⟩ = some u2 ∧ V.cell? ⟨b, 3, none⟩ = some u3 ∧ V.cell? ⟨b, 4, none⟩ = some u4 ∧ V.cell? ⟨b, 5, none⟩ = some u5 ∧ Since (fun k => k = b) W V := by
  have o : ∀ (X : World) (i j : Nat) (u : Value), j ≠ i → (X.setCell ⟨b, i, none⟩ u).cell? ⟨b, j, none⟩ = X.cell? ⟨b, j, none⟩ := fun X i j u hne => World.cell?_setCell_other _ _ _ _ (fun e => hne (by injection e with _ h1 _; exact h1.symm))
  have s : ∀ (X : World) (i : Nat) (x u : Value), X.cell? ⟨b, i, none⟩ = some x → (X.setCell ⟨b, i, none⟩ u).cell? ⟨b, i, none⟩ = some u := fun X i x u h => World.cell?_setCell_same _ _ _ h
  have q : ∀ (X : World) (i : Nat) (u : Value), Since (fun k => k = b) X (X.setCell ⟨b, i, none⟩ u) := fun X i u => Since.setCell X ⟨b, i, none⟩ u
  refine ⟨_, rfl, ?_, ?_, ?_, ?_, ?_, ?_, ((((q _ _ _).trans (q _ _ _)).trans (q _ _ _)).trans (q _ _ _)).trans (q _ _ _) |>.trans (q _ _ _)⟩
  · rw [o _ 5 0 _ (by decide), o _ 4 0 _ (by decide), o _ 3 0 _ (by decide), o _ 2 0 _ (by decide), o _ 1 0 _ (by decide)]
    exact s _ _ _ _ h0
  · rw [o _ 5 1 _ (by decide), o _ 4 1 _ (by decide), o _ 3 1 _ (by decide), o _ 2 1 _ (by decide)]
    exact s _ _ _ _ ((o _ 0 1 _ (by decide)).trans h1)
  · rw [o _ 5 2 _ (by decide), o _ 4 2 _ (by decide), o _ 3 2 _ (by decide)]
    exact s _ _ _ _ ((o _ 1 2 _ (by decide)).trans ((o _ 0 2 _ (by decide)).trans h2))
  · rw [o _ 5 3 _ (by decide), o _ 4 3 _ (by decide)]
    exact s _ _ _ _ ((o _ 2 3 _ (by decide)).trans ((o _ 1 3 _ (by decide)).trans ((o _ 0 3 _ (by decide)).trans h3)))
  · rw [o _ 5 4 _ (by decide)]
    exact s _ _ _ _ ((o _ 3 4 _ (by decide)).trans ((o _ 2 4 _ (by decide)).trans ((o _ 1 4 _ (by decide)).trans ((o _ 0 4 _ (by decide)).trans h4))))
  · exact s _ _ _ _ ((o _ 4 5 _ (by decide)).trans ((o _ 3 5 _ (by decide)).trans ((o _ 2 5 _ (by decide)).trans ((o _ 1 5 _ (by decide)).trans ((o _ 0 5 _ (by decide)).trans h5)))))

/-- The ways through a region meet again: one, two boxes more. -/
def Cut1 (A : Nat → Act) (R : Nat → World → Prop) : Exit → Act → World → Prop
  | .normal, a, w => ∃ x, a = A x ∧ R x w
  | _, _, _ => False
def Cut2 (A : Nat → Nat → Act) (R : Nat → Nat → World → Prop) : Exit → Act → World → Prop
  | .normal, a, w => ∃ x y, a = A x y ∧ R x y w
  | _, _, _ => False
theorem cut1 {P : Program} {c : Code} {Q : Exit → Act → World → Prop} {a : Act} {w : World} (A : Nat → Act) (R : Nat → World → Prop) (h : c.wp P (Cut1 A R) a w) (k : ∀ x w', R x w' → Q .normal (A x) w') : c.wp P Q a w :=
  Code.wp_mono (fun e a' w' hq => by
    cases e <;> first | exact (hq : False).elim | skip
    obtain ⟨x, ha, hr⟩ := hq
    subst ha; exact k x w' hr) h
theorem cut2 {P : Program} {c : Code} {Q : Exit → Act → World → Prop} {a : Act} {w : World} (A : Nat → Nat → Act) (R : Nat → Nat → World → Prop) (h : c.wp P (Cut2 A R) a w) (k : ∀ x y w', R x y w' → Q .normal (A x y) w') : c.wp P Q a w :=
  Code.wp_mono (fun e a' w' hq => by
    cases e <;> first | exact (hq : False).elim | skip
    obtain ⟨x, y, ha, hr⟩ := hq
    subst ha; exact k x y w' hr) h
/-- The result's box, as the function begins. -/
def zeroCode : Array Value := #[.string ⟨#[]⟩, .int .i64 0, .int .i64 0, .int .i64 0, .int .i64 0, .slice none 0 0]
def CodePost (w : World) (c : PCode) (e : Ending) (w' : World) : Prop :=
  ∃ v5, e = .returned (.agg #[.string c.name, .int .i64 c.params, .int .i64 c.results, .int .i64 c.vars, .int .i64 c.slots, v5]) ∧ rCode (fun _ => True) w' [.string c.name, .int .i64 c.params, .int .i64 c.results, .int .i64 c.vars, .int .i64 c.slots, v5] c ∧ Below w.heap.size w w'
theorem zero_cells (w : World) {t : TypeId} (h : Env (w.heap.size + 1) (w.alloc (.cells zeroCode t)) bm l n c k w0) : (∀ j, w0.cell? ⟨w.heap.size, j, none⟩ = zeroCode[j]?) ∧ ∀ j, w0.frozen? ⟨w.heap.size, j, none⟩ = false := by
  have hb := h.below
  exact ⟨fun j => by rw [hb.cell (p := ⟨w.heap.size, j, none⟩) (by simp), World.cell?_alloc_new], fun j => by rw [hb.frozen (p := ⟨w.heap.size, j, none⟩) (by simp), World.frozen?_alloc_new]⟩
theorem code_post (w : World) {W V : World} {t : TypeId} {gB cB : Nat} (h : Env (w.heap.size + 1) (w.alloc (.cells zeroCode t)) bm l n c k W) (hs : Since (fun x => x = w.heap.size) W V)
    (hr : rCode (fun x => w.heap.size + 1 ≤ x) W [.string c.name, .int .i64 c.params, .int .i64 c.results, .int .i64 c.vars, .int .i64 c.slots, .slice (some ⟨gB, 0, none⟩) c.blocks.length cB] c) :
    CodePost w c (.returned (.agg #[.string c.name, .int .i64 c.params, .int .i64 c.results, .int .i64 c.vars, .int .i64 c.slots, .slice (some ⟨gB, 0, none⟩) c.blocks.length cB])) V := by
  refine ⟨_, rfl, Good.keep (S := fun x => w.heap.size + 1 ≤ x) ⟨hs.size, fun x hx hS => hs.block x hx (by omega)⟩ (fun _ _ _ => trivial) hr, ?_⟩
  have hb := h.below
  have h1 : Below w.heap.size w (w.alloc (.cells zeroCode t)) := (Below.refl _ _).alloc (Nat.le_refl _) _
  have h2 := h1.trans (hb.mono (by omega))
  exact h2.trans (hs.below h2.size (fun x hx => by omega))
end Go.Proofs.Ytaomlfbcfmmhlaa

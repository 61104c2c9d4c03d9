/-
  Texts joined: TailW.
-/
import Derived.Test.YtkopjgnjflhkeaaDoorRG

/-
  Plain law: in a region walked by XTail the condition on worlds may be sharpened on the way; two operations may come up.
-/
set_option linter.unusedVariables false
namespace Go.Pst
open Go
section
variable {P : Program} {ops : Array Oper} {Q : Exit → Act → World → Prop} {md : Region.Mode} {S S' : World → Prop} {t : Nat}
theorem WpT.weaken (hS : ∀ w, S' w → S w) : ∀ (n : Nat) (l : Array Bool) (a : Act) (w : World), WpT P md ops Q S' t n l a w → WpT P md ops Q S t n l a w
  | 0, _, _, _, h => h
  | n + 1, l, a, w, h => ⟨h.1, fun i hi => wpOp_mono (fun a' w' h' => ⟨fun h1 h2 => hS _ (h'.1 h1 h2), WpT.weaken hS n _ _ _ h'.2⟩) (h.2 i hi)⟩
/-- Two operations may come up. -/
theorem WpT.both {i j : Nat} {o o' : Oper} {n : Nat} {l : Array Bool} {a : Act} {w : World} (hr : Region.ready md ops l = [i, j]) (ho : ops[i]? = some o) (ho' : ops[j]? = some o')
    (h : ∀ K, ThenT P md ops Q S t n i l K → if Region.wanted o (yielded ops a.tmps) = true then Oper.wp P o a w K Q else K (a.put o.dst undef) w)
    (h' : ∀ K, ThenT P md ops Q S t n j l K → if Region.wanted o' (yielded ops a.tmps) = true then Oper.wp P o' a w K Q else K (a.put o'.dst undef) w) : WpT P md ops Q S t (n + 1) l a w := by
  refine ⟨fun h0 => (by rw [hr] at h0; cases h0), fun q hq => ?_⟩
  rw [hr] at hq
  have key : ∀ (i : Nat) (o : Oper), ops[i]? = some o → (∀ K, ThenT P md ops Q S t n i l K → if Region.wanted o (yielded ops a.tmps) = true then Oper.wp P o a w K Q else K (a.put o.dst undef) w) →
      wpOp P ops Q i (fun a' w' => (i ≠ t → l.getD t true = false → S w') ∧ WpT P md ops Q S t n (l.setIfInBounds i true) a' w') a w := by
    intro j o ho h
    unfold wpOp
    simp only [ho]
    have hk := h (fun a' w' => (j ≠ t → l.getD t true = false → S w') ∧ WpT P md ops Q S t n (l.setIfInBounds j true) a' w') (fun a' w' hS hW => ⟨hS, hW⟩)
    by_cases hw : Region.wanted o (yielded ops a.tmps) = true
    · rw [if_pos hw] at hk ⊢
      exact Or.inl hk
    · rw [if_neg hw] at hk ⊢
      exact hk
  rcases List.mem_cons.1 hq with e | e
  · subst e; exact key _ _ ho h
  · rw [List.mem_singleton] at e; subst e; exact key _ _ ho' h'
end
end Go.Pst

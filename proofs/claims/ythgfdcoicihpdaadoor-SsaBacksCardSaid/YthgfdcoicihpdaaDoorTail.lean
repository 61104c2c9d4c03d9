/-
  Plain law on regions that draw their order: reads may be taken first where a condition S holds of the worlds until operation t comes up (t waits for all of them); behind t nothing is asked of the world. For 'x.f = append(x.f, g(y))': the last store hits a cell that the region reads.
-/
import Derived.WalkKit
import Derived.Deep.RegionHeld3
import Derived.Deep.RegionLaw
import Derived.Deep.AppendLies
namespace Go.Pst
open Go
section
variable {P : Program} {ops : Array Oper} {Q : Exit → Act → World → Prop} {md : Region.Mode} {S : World → Prop} {t : Nat}

def WpT (P : Program) (md : Region.Mode) (ops : Array Oper) (Q : Exit → Act → World → Prop) (S : World → Prop) (t : Nat) : Nat → Array Bool → Act → World → Prop
  | 0, l, a, w => Region.ready md ops l = [] ∧ Q .normal a w
  | n + 1, l, a, w => (Region.ready md ops l = [] → Q .normal a w) ∧ ∀ i ∈ Region.ready md ops l, wpOp P ops Q i (fun a' w' => (i ≠ t → l.getD t true = false → S w') ∧ WpT P md ops Q S t n (l.setIfInBounds i true) a' w') a w
theorem WpT.any : ∀ (n : Nat) (l : Array Bool) (a : Act) (w : World), WpT P md ops Q S t n l a w → wpAny P md ops Q n l a w
  | 0, _, _, _, h => h
  | n + 1, _, _, _, h => ⟨h.1, fun i hi => wpOp_mono (fun a' w' h' => WpT.any n _ a' w' h'.2) (h.2 i hi)⟩

theorem WpT.first {i : Nat} {oi ot : Oper} {v : Value} (hi : ops[i]? = some oi) (ht : ops[t]? = some ot) (hw : ∃ e ∈ ot.after, Region.binds md e = true ∧ e.on = i) (hti : t ≠ i)
    (hsel : ∀ (j : Nat) (o : Oper) cs b, ops[j]? = some o → o.op ≠ .select cs b) (hQ : ∀ c a w, Q (.panic c) (a.put oi.dst v) w → Q (.panic c) a w) :
    ∀ (n : Nat) (l : Array Bool) (a : Act) (w : World),
      (∀ j oj, ops[j]? = some oj → j ≠ i → l.getD j true = false → (∀ e ∈ oj.after, Region.binds md e = true → e.on ≠ i) → oi.apart ops oj = true) →
      i ∈ Region.ready md ops l → l.getD t true = false → YieldsIf P ops S oi v a → S w →
      WpT P md ops Q S t n (l.setIfInBounds i true) (a.put oi.dst v) w → WpT P md ops Q S t (n + 1) l a w := by
  -- whoever comes up ahead of i does not wait for it, so is not t
  have wait : ∀ {l : Array Bool} {j : Nat} {oj : Oper}, i ∈ Region.ready md ops l → j ∈ Region.ready md ops l → ops[j]? = some oj → ∀ e ∈ oj.after, Region.binds md e = true → e.on ≠ i := by
    intro l j oj hr hj hoj e he hb heq
    obtain ⟨_, oj', hoj', hall⟩ := mem_ready.1 hj
    obtain rfl : oj = oj' := by rw [hoj] at hoj'; exact Option.some.inj hoj'
    have h1 := hall e he hb
    have h0 := (mem_ready.1 hr).1
    rw [heq] at h1
    rcases Nat.lt_or_ge i l.size with h' | h'
    · simp [h'] at h0 h1; rw [h0] at h1; cases h1
    · simp [Array.getElem?_eq_none h'] at h1
  intro n
  induction n with
  | zero =>
    intro l a w _ hr _ hy hS H
    refine ⟨fun h => (by rw [h] at hr; cases hr), fun j hj => ?_⟩
    by_cases hji : j = i
    · subst hji; exact hy.wpOp hi hS ⟨fun _ _ => hS, H⟩
    · have := ready_mono hj hji
      rw [H.1] at this
      cases this
  | succ n ih =>
    intro l a w hfree hr hlt hy hS H
    refine ⟨fun h => (by rw [h] at hr; cases hr), fun j hj => ?_⟩
    by_cases hji : j = i
    · subst hji; exact hy.wpOp hi hS ⟨fun _ _ => hS, H⟩
    · obtain ⟨hjun, oj, hoj, _⟩ := mem_ready.1 hj
      have hno := wait hr hj hoj
      have hjt : j ≠ t := by
        rintro rfl
        obtain ⟨e, he, hb, heq⟩ := hw
        obtain rfl : oj = ot := by rw [hoj] at ht; exact Option.some.inj ht
        exact hno e he hb heq
      have h2 := wpOp_putIf hoj (hfree j oj hoj hji hjun hno) (fun cs b => hsel i oi cs b hi) (fun cs b => hsel j oj cs b hoj) hQ hy (H.2 j (ready_mono hj hji))
      have hl : (l.setIfInBounds i true).getD t true = false := by rw [getD_set_ne true (Ne.symm hti)]; exact hlt
      have hl' : (l.setIfInBounds j true).getD t true = false := by rw [getD_set_ne true hjt]; exact hlt
      refine wpOp_mono (fun a' w' h3 => ?_) h2
      have hS' := h3.2.1 hjt hl
      refine ⟨fun _ _ => hS', ih (l.setIfInBounds j true) a' w' (fun k ok hk hki hun hn => hfree k ok hk hki ?_ hn) (ready_mono hr (Ne.symm hji)) hl' h3.1 hS' ?_⟩
      · by_cases hjk : j = k
        · subst hjk; exact hjun
        · rw [getD_set_ne true hjk] at hun; exact hun
      · rw [Array.setIfInBounds_comm _ _ hji]
        exact h3.2.2

/-- Does operation t wait for operation i? -/
def waitsFor (md : Region.Mode) (ops : Array Oper) (t i : Nat) : Bool := match ops[t]? with | some o => o.after.any fun e => Region.binds md e && e.on == i | none => false
/-- Take number i first. -/
theorem WpT.take {i : Nat} {oi : Oper} {v : Value} {n : Nat} {l : Array Bool} {a : Act} {w : World} (hi : ops[i]? = some oi)
    (hs : Region.noSelect ops = true) (hf : Region.free md ops l i = true) (hr : (Region.ready md ops l).contains i = true) (hwt : (waitsFor md ops t i && !(t == i) && !(l.getD t true)) = true)
    (hQ : ∀ c a w, Q (.panic c) (a.put oi.dst v) w → Q (.panic c) a w) (hy : YieldsIf P ops S oi v a) (hS : S w)
    (h : WpT P md ops Q S t n (l.setIfInBounds i true) (a.put oi.dst v) w) : WpT P md ops Q S t (n + 1) l a w := by
  simp only [Bool.and_eq_true, Bool.not_eq_true', beq_eq_false_iff_ne] at hwt
  obtain ⟨⟨h1, h2⟩, h3⟩ := hwt
  unfold waitsFor at h1
  cases ht : ops[t]? with
  | none => rw [ht] at h1; cases h1
  | some ot =>
    rw [ht] at h1
    simp only [Array.any_eq_true', Bool.and_eq_true, beq_iff_eq] at h1
    obtain ⟨e, he, hb, heq⟩ := h1
    exact WpT.first hi ht ⟨e, he, hb, heq⟩ h2 (Region.noSelect_spec hs) hQ n l a w (Region.free_spec hi hf) (by simpa using hr) h3 hy hS h
theorem WpT.start {id : Nat} {a : Act} {w : World} (S : World → Prop) (t : Nat) (hm : P.follows .mixedOrders = true) (h : WpT P .any ops Q S t ops.size (Array.replicate ops.size false) a w.drew) : (Code.region id ops true).wp P Q a w :=
  wp_region_any hm (WpT.any _ _ _ _ h)
theorem WpT.done {l : Array Bool} {a : Act} {w : World} (hr : Region.ready md ops l = []) (h : Q .normal a w) : ∀ n, WpT P md ops Q S t n l a w
  | 0 => ⟨hr, h⟩
  | _ + 1 => ⟨fun _ => h, by rw [hr]; simp⟩
/-- What is left behind an operation, its text put away. -/
def ThenT (P : Program) (md : Region.Mode) (ops : Array Oper) (Q : Exit → Act → World → Prop) (S : World → Prop) (t n i : Nat) (l : Array Bool) (K : Act → World → Prop) : Prop :=
  ∀ a' w', (i ≠ t → l.getD t true = false → S w') → WpT P md ops Q S t n (l.setIfInBounds i true) a' w' → K a' w'
/-- One operation alone may come up. -/
theorem WpT.one {i : Nat} {o : Oper} {n : Nat} {l : Array Bool} {a : Act} {w : World} (hr : Region.ready md ops l = [i]) (ho : ops[i]? = some o)
    (h : ∀ K, ThenT P md ops Q S t n i l K → if Region.wanted o (yielded ops a.tmps) = true then Oper.wp P o a w K Q else K (a.put o.dst undef) w) : WpT P md ops Q S t (n + 1) l a w := by
  refine ⟨fun h0 => (by rw [hr] at h0; cases h0), fun j hj => ?_⟩
  rw [hr, List.mem_singleton] at hj
  subst hj
  unfold wpOp
  simp only [ho]
  have hk := h (fun a' w' => (j ≠ t → l.getD t true = false → S w') ∧ WpT P md ops Q S t n (l.setIfInBounds j true) a' w') (fun a' w' hS hW => ⟨hS, hW⟩)
  by_cases hw : Region.wanted o (yielded ops a.tmps) = true
  · rw [if_pos hw] at hk ⊢
    exact Or.inl hk
  · rw [if_neg hw] at hk ⊢
    exact hk
theorem ThenT.out {i n : Nat} {l : Array Bool} {K : Act → World → Prop} (h : ThenT P md ops Q S t n i l K) (a' : Act) (w' : World) (hS : i ≠ t → l.getD t true = false → S w') (hW : WpT P md ops Q S t n (l.setIfInBounds i true) a' w') : K a' w' := h a' w' hS hW
end
end Go.Pst

/-
  What is above all that lead to a block is above it: plain law on the blocks on every way to a block.
-/
import Derived.Test.YthgmaapebplimaaReach
namespace Go.Pst
open Go.RowKit
set_option linter.unusedVariables false

theorem mem_aboveRow_iff (c : PCode) (i : Nat) (x : Int) : x ∈ aboveRow c c.blocks.length i ↔ ∃ k : Nat, x = (k : Int) ∧ k < c.blocks.length ∧ Reach c none i ∧ Reach c none k ∧ ¬ Reach c (some k) i := by
  unfold aboveRow
  rw [List.mem_map]
  constructor
  · rintro ⟨k, hk, rfl⟩
    rw [List.mem_filter, List.mem_range] at hk
    obtain ⟨h1, h2⟩ := hk
    simp only [Bool.and_eq_true, Bool.not_eq_true', reachB_iff] at h2
    refine ⟨k, rfl, h1, h2.1.1, h2.1.2, fun h => ?_⟩
    rw [(reachB_iff c (some k) i).2 h] at h2
    cases h2.2
  · rintro ⟨k, rfl, h1, h2, h3, h4⟩
    refine ⟨k, ?_, rfl⟩
    rw [List.mem_filter, List.mem_range]
    refine ⟨h1, ?_⟩
    have : reachB c (some k) i = false := by
      cases h : reachB c (some k) i with
      | false => rfl
      | true => exact absurd ((reachB_iff _ _ _).1 h) h4
    rw [(reachB_iff c none i).2 h2, (reachB_iff c none k).2 h3, this]
    rfl
theorem mem_aboveRow_nat (c : PCode) (i k : Nat) : (k : Int) ∈ aboveRow c c.blocks.length i ↔ k < c.blocks.length ∧ Reach c none i ∧ Reach c none k ∧ ¬ Reach c (some k) i := by
  rw [mem_aboveRow_iff]
  constructor
  · rintro ⟨k', e, h⟩
    obtain rfl : k = k' := Int.ofNat.inj e
    exact h
  · exact fun h => ⟨k, rfl, h⟩
theorem Reach.zero_not {c : PCode} {i : Nat} (h : Reach c (some 0) i) : False := by
  generalize hx : some 0 = x at h
  induction h with
  | zero hx' _ => exact hx' hx.symm
  | step _ _ _ ih => exact ih
theorem above_reach {c : PCode} {i : Nat} (h : aboveRow c c.blocks.length i ≠ []) : Reach c none i := by
  obtain ⟨x, hx⟩ := List.exists_mem_of_ne_nil _ h
  obtain ⟨k, _, _, h1, _⟩ := (mem_aboveRow_iff c i x).1 hx
  exact h1
/-- The first block is above each one that can be done; each is above itself. -/
theorem above_zero {c : PCode} {i : Nat} (h : Reach c none i) : (0 : Int) ∈ aboveRow c c.blocks.length i :=
  (mem_aboveRow_nat c i 0).2 ⟨by have := h.lt; omega, h, .zero (by simp) (by have := h.lt; omega), fun h => h.zero_not⟩
theorem above_self {c : PCode} {i : Nat} (h : Reach c none i) : (i : Int) ∈ aboveRow c c.blocks.length i :=
  (mem_aboveRow_nat c i i).2 ⟨h.lt, h, h, fun h => h.not⟩
theorem above_ne {c : PCode} {i : Nat} : aboveRow c c.blocks.length i ≠ [] ↔ Reach c none i :=
  ⟨above_reach, fun h e => by have := above_zero h; rw [e] at this; cases this⟩
/-- Nothing but the first block is above it. -/
theorem above_first {c : PCode} (h : 0 < c.blocks.length) : aboveRow c c.blocks.length 0 = [0] := by
  have h0 : Reach c none 0 := .zero (by simp) h
  have hk : ∀ k, (reachB c none 0 && reachB c none k && !reachB c (some k) 0) = decide (k = 0) := by
    intro k
    by_cases e : k = 0
    · subst e
      have : reachB c (some 0) 0 = false := by
        cases hr : reachB c (some 0) 0 with
        | false => rfl
        | true => exact ((reachB_iff _ _ _).1 hr).zero_not.elim
      rw [(reachB_iff c none 0).2 h0, this]
      rfl
    · have : reachB c (some k) 0 = true := (reachB_iff _ _ _).2 (.zero (by simpa using e) h)
      rw [this]
      simp [e]
  unfold aboveRow
  simp only [hk]
  obtain ⟨m, hm⟩ : ∃ m, c.blocks.length = m + 1 := ⟨c.blocks.length - 1, by omega⟩
  rw [hm, List.range_succ_eq_map, List.filter_cons]
  have : (List.map Nat.succ (List.range m)).filter (fun k => decide (k = 0)) = [] := by
    rw [List.filter_eq_nil_iff]
    intro a ha
    obtain ⟨b, _, rfl⟩ := List.mem_map.1 ha
    simp
  rw [this]
  rfl
/-- What is above all that lead to a block (and can be done) is above it. -/
theorem above_iff {c : PCode} {i k : Nat} (hi : 1 ≤ i) (hr : Reach c none i) (hk : k < c.blocks.length) (hne : k ≠ i) (A : List Int)
    (hA : ∀ x, x ∈ A ↔ ∃ q : Nat, x = (q : Int) ∧ q < c.blocks.length ∧ (i : Int) ∈ leadsF c q) :
    (∀ x ∈ A, aboveRow c c.blocks.length x.toNat = [] ∨ (k : Int) ∈ aboveRow c c.blocks.length x.toNat) ↔ (k : Int) ∈ aboveRow c c.blocks.length i := by
  rw [mem_aboveRow_nat]
  -- somebody who can be done leads to i
  have hpred : ∃ q, Reach c none q ∧ (i : Int) ∈ leadsF c q := by
    cases hr with
    | zero _ _ => omega
    | step h ht _ => exact ⟨_, h, ht⟩
  constructor
  · intro h
    have all : ∀ q, Reach c none q → (i : Int) ∈ leadsF c q → Reach c none k ∧ ¬ Reach c (some k) q := by
      intro q hq hl
      rcases h (q : Int) ((hA _).2 ⟨q, rfl, hq.lt, hl⟩) with h1 | h1
      · exact absurd h1 (above_ne.2 hq)
      · rw [Int.toNat_natCast, mem_aboveRow_nat] at h1
        exact ⟨h1.2.2.1, h1.2.2.2⟩
    obtain ⟨q0, hq0, hl0⟩ := hpred
    refine ⟨hk, hr, (all q0 hq0 hl0).1, fun hx => ?_⟩
    generalize hxx : some k = x at hx
    cases hx with
    | zero _ _ => omega
    | step h2 ht _ =>
      subst hxx
      exact (all _ h2.live ht).2 h2
  · rintro ⟨_, _, h3, h4⟩ x hx
    obtain ⟨q, rfl, hq, hl⟩ := (hA x).1 hx
    rw [Int.toNat_natCast]
    by_cases hz : aboveRow c c.blocks.length q = []
    · exact Or.inl hz
    · right
      have hqr := above_reach hz
      exact (mem_aboveRow_nat c q k).2 ⟨hk, hqr, h3, fun h => h4 (.step h hl (by simpa using fun e => hne e))⟩
end Go.Pst

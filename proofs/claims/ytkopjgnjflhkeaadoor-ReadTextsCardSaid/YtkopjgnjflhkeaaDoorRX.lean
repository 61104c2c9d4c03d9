/-
  Texts joined: RdNum.
-/
import Derived.Test.YtkopjgnjflhkeaaDoorRA
import Derived.Lib.AtoiAllCases
import Derived.Lib.ItoaNum
import Derived.Lib.ItoaMem

/-
  Numerals of digits alone: what strconv.Atoi and strconv.Itoa say of them (plain laws).
-/
namespace Go.Pst
open Go.RowKit
set_option linter.unusedVariables false
set_option linter.unusedSimpArgs false
def AllDig (l : List UInt8) : Prop := ∀ c ∈ l, 48 ≤ c.toNat ∧ c.toNat ≤ 57
theorem numOf_ge : ∀ (l : List UInt8) (a : Nat), a ≤ numOf l a
  | [], a => Nat.le_refl _
  | c :: r, a => by
    have := numOf_ge r (10 * a + (c.toNat - 48))
    unfold numOf
    omega
theorem numOf_snoc (c : UInt8) : ∀ (l : List UInt8) (a : Nat), numOf (l ++ [c]) a = 10 * numOf l a + (c.toNat - 48)
  | [], a => rfl
  | d :: r, a => numOf_snoc c r _
theorem parse_num : ∀ (l : List UInt8) (a : Nat), AllDig l → a < 18446744073709551616 → Lib.parseUint10 a l = if numOf l a < 18446744073709551616 then .ok (numOf l a) else .range
  | [], a, _, h => by unfold Lib.parseUint10 numOf; rw [if_pos h]
  | c :: r, a, hd, h => by
    have hc := hd c (by simp)
    have hr : AllDig r := fun x hx => hd x (by simp [hx])
    unfold Lib.parseUint10 numOf
    rw [if_pos hc]
    have hge := numOf_ge r (10 * a + (c.toNat - 48))
    by_cases h1 : 1844674407370955162 ≤ a
    · rw [if_pos h1, if_neg (by omega)]
    · rw [if_neg h1]
      by_cases h2 : 18446744073709551616 ≤ a * 10 + (c.toNat - 48)
      · rw [if_pos h2, if_neg (by omega)]
      · rw [if_neg h2, show a * 10 + (c.toNat - 48) = 10 * a + (c.toNat - 48) by omega]
        exact parse_num r _ hr (by omega)
theorem atoi_ok (l : List UInt8) (h : AllDig l) (h0 : l ≠ []) (hn : numOf l 0 < 9223372036854775808) : Lib.atoiAll l = .ok ((numOf l 0 : Nat) : Int) := by
  cases l with
  | nil => exact absurd rfl h0
  | cons c r =>
    have hc := h c (by simp)
    rw [Lib.atoiAll_plain c r (by omega) (by omega)]
    unfold Lib.parseMag
    rw [if_neg (by simp), parse_num _ 0 h (by decide), if_pos (by omega)]
    simp [Lib.signless]
    omega
theorem atoi_range (l : List UInt8) (h : AllDig l) (h0 : l ≠ []) (hn : 9223372036854775808 ≤ numOf l 0) : Lib.atoiAll l = .range := by
  cases l with
  | nil => exact absurd rfl h0
  | cons c r =>
    have hc := h c (by simp)
    rw [Lib.atoiAll_plain c r (by omega) (by omega)]
    unfold Lib.parseMag
    rw [if_neg (by simp), parse_num _ 0 h (by decide)]
    by_cases hb : numOf (c :: r) 0 < 18446744073709551616
    · rw [if_pos hb]
      simp [Lib.signless]
      omega
    · rw [if_neg hb]
      rfl
theorem atoiSat_dig (l : List UInt8) (h : AllDig l) (h0 : l ≠ []) : Lib.atoiSat l = 9223372036854775807 := by
  cases l with
  | nil => exact absurd rfl h0
  | cons c r =>
    have hc := h c (by simp)
    exact Lib.atoiSat_other c r (by omega)
theorem dig_of (c : UInt8) (h : 48 ≤ c.toNat ∧ c.toNat ≤ 57) : UInt8.ofNat (48 + (c.toNat - 48)) = c := by
  apply UInt8.toNat_inj.1
  simp
  omega
/-- Digits that begin with no 0 are what the number is written as. -/
theorem dec_num (n : Nat) : ∀ (l : List UInt8), l.length = n → AllDig l → (∃ c r, l = c :: r ∧ (c.toNat ≠ 48 ∨ r = [])) → Lib.decDigits (numOf l 0) = l := by
  induction n using Nat.strongRecOn with
  | _ n ih =>
    intro l hn hd hh
    rcases List.eq_nil_or_concat l with rfl | ⟨l', c, rfl⟩
    · obtain ⟨c, r, h, -⟩ := hh
      cases h
    · rw [List.concat_eq_append] at hn hd hh ⊢
      have hc := hd c (by simp)
      have hd' : AllDig l' := fun x hx => hd x (by simp [hx])
      rw [numOf_snoc]
      cases l' with
      | nil =>
        show Lib.decDigits (10 * 0 + (c.toNat - 48)) = [c]
        rw [Lib.decDigits_one (by omega)]
        congr 1
        rw [show 10 * 0 + (c.toNat - 48) = c.toNat - 48 by omega]
        exact dig_of c hc
      | cons x r =>
        obtain ⟨c', r', h1, h2⟩ := hh
        injection h1 with h3 h4
        subst h3
        have hx : x.toNat ≠ 48 := by
          rcases h2 with h2 | h2
          · exact h2
          · rw [h2] at h4; simp at h4
        have hxd := hd x (by simp)
        have hpos : 1 ≤ numOf (x :: r) 0 := by
          have := numOf_ge r (10 * 0 + (x.toNat - 48))
          show 1 ≤ numOf r (10 * 0 + (x.toNat - 48))
          omega
        have ihl := ih (x :: r).length (by rw [← hn]; simp) (x :: r) rfl hd' ⟨x, r, rfl, Or.inl hx⟩
        rw [Lib.decDigits, dif_neg (by omega)]
        rw [show (10 * numOf (x :: r) 0 + (c.toNat - 48)) / 10 = numOf (x :: r) 0 by omega, ihl, show (10 * numOf (x :: r) 0 + (c.toNat - 48)) % 10 = c.toNat - 48 by omega, dig_of c hc]
/-- What a number is written as begins with no 0, but for 0 itself. -/
theorem dec_head0 (u : Nat) : ∀ r, Lib.decDigits u = 48 :: r → r = [] := by
  induction u using Nat.strongRecOn with
  | _ u ih =>
    intro r h
    rw [Lib.decDigits] at h
    split at h
    · injection h with h1 h2
      exact h2.symm
    · rename_i h10
      have hne : Lib.decDigits (u / 10) ≠ [] := by
        intro e
        have := Lib.decDigits_length (u / 10)
        rw [e] at this
        have h2 : Lib.nDigits (u / 10) ≥ 1 := by
          rw [Lib.nDigits]
          split <;> omega
        simp at this
        omega
      cases hd : Lib.decDigits (u / 10) with
      | nil => exact absurd hd hne
      | cons c r' =>
        rw [hd] at h
        injection h with h1 h2
        subst h1
        have hr := ih (u / 10) (by omega) r' hd
        subst hr
        exfalso
        have hz : u / 10 < 10 := by
          apply Classical.byContradiction
          intro hbig
          rw [Lib.decDigits, dif_neg hbig] at hd
          have hl := congrArg List.length hd
          simp at hl
          have := Lib.decDigits_length (u / 10 / 10)
          have h2 : Lib.nDigits (u / 10 / 10) ≥ 1 := by
            rw [Lib.nDigits]
            split <;> omega
          rw [hl] at this
          simp at this
          omega
        rw [Lib.decDigits_one hz] at hd
        injection hd with hd1 _
        have := congrArg UInt8.toNat hd1
        simp at this
        omega
/-- Is a numeral written as its number is? -/
theorem itoa_same (c : UInt8) (r : List UInt8) (h : AllDig (c :: r)) : Lib.itoa ((numOf (c :: r) 0 : Nat) : Int) = c :: r ↔ ¬ (c = 48 ∧ r ≠ []) := by
  rw [Lib.itoa_nonneg]
  constructor
  · rintro e ⟨rfl, h2⟩
    exact h2 (dec_head0 _ _ e)
  · intro hn
    refine dec_num _ _ rfl h ⟨c, r, rfl, ?_⟩
    by_cases hc : c.toNat = 48
    · right
      apply Classical.byContradiction
      intro hr
      exact hn ⟨UInt8.toNat_inj.1 hc, hr⟩
    · exact Or.inl hc
theorem digLen_all : ∀ (l : List UInt8), AllDig (l.take (digLen l))
  | [] => fun c h => by simp [digLen] at h
  | c :: r => by
    unfold digLen
    by_cases h : digitB c = true
    · rw [if_pos h]
      intro x hx
      rw [List.take_succ_cons] at hx
      rcases List.mem_cons.1 hx with rfl | hx
      · unfold digitB at h
        simp [UInt8.le_iff_toNat_le] at h
        exact h
      · exact digLen_all r x hx
    · rw [if_neg h]
      intro x hx
      simp at hx
theorem digLen_le : ∀ (l : List UInt8), digLen l ≤ l.length
  | [] => Nat.le_refl _
  | c :: r => by
    unfold digLen
    have := digLen_le r
    split <;> simp <;> omega
theorem wordLen_le : ∀ (l : List UInt8), wordLen l ≤ l.length
  | [] => Nat.le_refl _
  | c :: r => by
    unfold wordLen
    have := wordLen_le r
    split <;> simp <;> omega
end Go.Pst

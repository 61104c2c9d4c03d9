/-
  Contracts of slices.Index, slices.Contains at ints, and of the law's own sameInts, sameLists at equal lists.
-/
import Derived.Test.YthgmaapebplimaaRows
import Derived.Test.YthgmaapebplimaaData
namespace Go.Proofs.Ythgmaapebplimaa
open Go.RowKit Go.Pst
set_option linter.unusedVariables false

/-- The first place of a number, or -1. -/
def firstAt (x : Int) : List Int → Nat → Int
  | [], _ => -1
  | y :: r, k => if x = y then (k : Int) else firstAt x r (k + 1)
theorem firstAt_ge (x : Int) : ∀ (l : List Int) (k : Nat), (0 ≤ firstAt x l k ↔ x ∈ l)
  | [], k => by simp [firstAt]
  | y :: r, k => by
    unfold firstAt
    by_cases h : x = y
    · simp [h]
    · simp [h, firstAt_ge x r (k + 1)]

set_option maxHeartbeats 400000 in
theorem index_any (x : Int) (a : Option Addr) (l : List Int) (cap : Nat) (w : World) (hl : l.length ≤ 9223372036854775807) (hat : IntsAt w a l) :
    Calls Try.prog 32 #[.slice a l.length cap, .int .i64 x] w fun e w' => e = .returned (.int .i64 (firstAt x l 0)) ∧ w = w' := by
  go_enter Try.func32, Try.ntmps32
  go_wp2
  go_loop [8] (fun i => ∃ k : Nat, k ≤ l.length ∧ i = .int .i64 k ∧ firstAt x l 0 = firstAt x (l.drop k) k) (fun i => l.length - (intOf i).toNat)
  case atStart => exact ⟨0, Nat.zero_le _, rfl, by simp⟩
  case round =>
    obtain ⟨k, hk, rfl, hf⟩ := hrel
    have Hf := Lib.hid hf
    clear hf
    by_cases hlt : k < l.length
    · obtain ⟨b, off, rfl, hb, hc⟩ := hat k hlt
      have hlt1 : (k : Int) < (l.length : Int) := by omega
      have hd : l.drop k = l[k] :: l.drop (k + 1) := List.drop_eq_getElem_cons hlt
      have Hd := Lib.hid hd
      clear hd hat
      generalize l[k] = y at *
      by_cases hxy : x = y
      · subst hxy
        go_wp2
        go_ret
        exact ⟨by rw [Hf.out, Hd.out]; simp [firstAt], rfl⟩
      · have hne : (x == y) = false := by simpa using hxy
        go_wp2
        go_round
        case rel => exact ⟨k + 1, by omega, by go_num, by rw [Hf.out, Hd.out]; simp [firstAt, hxy]⟩
        case measure => simp [intOf]; omega
    · have hke : k = l.length := by omega
      subst hke
      go_wp2
      go_ret
      exact ⟨by rw [Hf.out]; simp [firstAt], rfl⟩

theorem contains_any (x : Int) (a : Option Addr) (l : List Int) (cap : Nat) (w : World) (hl : l.length ≤ 9223372036854775807) (hat : IntsAt w a l) :
    Calls Try.prog 21 #[.slice a l.length cap, .int .i64 x] w fun e w' => e = .returned (.bool (decide (x ∈ l))) ∧ w = w' := by
  have hge := firstAt_ge x l 0
  go_enter Try.func21, Try.ntmps21
  go_wp2_with (go_at_call 32; refine (index_any _ _ _ _ _ hl hat).mono ?_; rintro e w' ⟨rfl, rfl⟩)
  all_goals
    go_ret
    exact ⟨by simp_all, rfl⟩

set_option maxHeartbeats 400000 in
theorem sameInts_eq (a1 a2 : Option Addr) (l : List Int) (cap1 cap2 : Nat) (w : World) (hl : l.length ≤ 9223372036854775807) (hat1 : IntsAt w a1 l) (hat2 : IntsAt w a2 l) :
    Calls Try.prog 25 #[.slice a1 l.length cap1, .slice a2 l.length cap2] w fun e w' => e = .returned (.bool true) ∧ Drawn w w' := by
  go_enter Try.func25, Try.ntmps25
  go_wp2
  go_loopw [5] (fun i wr => ∃ k : Nat, k ≤ l.length ∧ i = .int .i64 k ∧ Drawn w wr) (fun i _ => l.length - (intOf i).toNat)
  case atStart => exact ⟨0, Nat.zero_le _, rfl, Drawn.refl _⟩
  case round =>
    obtain ⟨k, hk, rfl, hdr⟩ := hrel
    by_cases hlt : k < l.length
    · obtain ⟨b1, off1, rfl, hb1, hc1⟩ := hat1 k hlt
      obtain ⟨b2, off2, rfl, hb2, hc2⟩ := hat2 k hlt
      have hlt1 : (k : Int) < (l.length : Int) := by omega
      clear hat1 hat2
      have hx1 : wr.cell? ⟨b1, off1 + k, none⟩ = some (.int .i64 l[k]) := by rw [hdr.cell]; exact hc1
      have hx2 : wr.cell? ⟨b2, off2 + k, none⟩ = some (.int .i64 l[k]) := by rw [hdr.cell]; exact hc2
      generalize l[k] = y at *
      go_wp2
      go_quiet (fail)
      go_wp2
      go_roundw
      case rel => exact ⟨k + 1, by omega, by go_num, hdr.more _⟩
      case measure => simp [intOf]; omega
    · have hke : k = l.length := by omega
      subst hke
      go_wp2
      go_ret
      exact ⟨rfl, hdr⟩

set_option maxHeartbeats 400000 in
theorem sameLists_eq (a1 a2 : Option Addr) (l : List (List Int)) (cap1 cap2 : Nat) (w : World) (hl : l.length ≤ 9223372036854775807) (hat1 : IntssAt w a1 l) (hat2 : IntssAt w a2 l) :
    Calls Try.prog 16 #[.slice a1 l.length cap1, .slice a2 l.length cap2] w fun e w' => e = .returned (.bool true) ∧ Drawn w w' := by
  go_enter Try.func16, Try.ntmps16
  go_wp2
  go_loopw [5] (fun i wr => ∃ k : Nat, k ≤ l.length ∧ i = .int .i64 k ∧ Drawn w wr) (fun i _ => l.length - (intOf i).toNat)
  case atStart => exact ⟨0, Nat.zero_le _, rfl, Drawn.refl _⟩
  case round =>
    obtain ⟨k, hk, rfl, hdr⟩ := hrel
    by_cases hlt : k < l.length
    · obtain ⟨b1, off1, c1, cc1, rfl, hb1, hc1, hll, hi1⟩ := hat1 k hlt
      obtain ⟨b2, off2, c2, cc2, rfl, hb2, hc2, _, hi2⟩ := hat2 k hlt
      have hlt1 : (k : Int) < (l.length : Int) := by omega
      clear hat1 hat2
      have hx1 : wr.cell? ⟨b1, off1 + k, none⟩ = some (.slice c1 l[k].length cc1) := by rw [hdr.cell]; exact hc1
      have hx2 : wr.cell? ⟨b2, off2 + k, none⟩ = some (.slice c2 l[k].length cc2) := by rw [hdr.cell]; exact hc2
      have hj1 := hi1.heap hdr.heap
      have hj2 := hi2.heap hdr.heap
      generalize l[k] = y at *
      go_wp2
      go_quiet ((go_at_call 25; go_must (refine Calls.quiet_of (sameInts_eq _ _ _ _ _ _ hll (hj1.heap rfl) (hj2.heap rfl)))))
      go_wp2
      go_roundw
      case rel => exact ⟨k + 1, by omega, by go_num, hdr.more _⟩
      case measure => simp [intOf]; omega
    · have hke : k = l.length := by omega
      subst hke
      go_wp2
      go_ret
      exact ⟨rfl, hdr⟩
end Go.Proofs.Ythgmaapebplimaa

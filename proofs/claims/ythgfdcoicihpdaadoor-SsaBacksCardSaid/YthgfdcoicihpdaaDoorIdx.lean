/-
  Contracts of slices.Index, slices.Contains at ints.
-/
import Derived.Test.YthgfdcoicihpdaaDoorRows
import Derived.Test.YthgfdcoicihpdaaDoorData
namespace Go.Proofs.YthgfdcoicihpdaaDoor
open Go.RowKit Go.Pst
set_option linter.unusedVariables false

/-- The first place of a number, or -1. -/
def firstAt (x : Int) : List Int → Nat → Int
  | [], _ => -1
  | y :: r, k => if x = y then (k : Int) else firstAt x r (k + 1)
theorem firstAt_ge (x : Int) : ∀ (l : List Int) (k : Nat), (0 ≤ firstAt x l k ↔ x ∈ l)
  | [], k => by simp [firstAt]
  | y :: r, k => by
    unfold firstAt
    by_cases h : x = y
    · simp [h]
    · simp [h, firstAt_ge x r (k + 1)]

set_option maxHeartbeats 400000 in
theorem index_any (x : Int) (a : Option Addr) (l : List Int) (cap : Nat) (w : World) (hl : l.length ≤ 9223372036854775807) (hat : IntsAt w a l) :
    Calls Tryd.prog 43 #[.slice a l.length cap, .int .i64 x] w fun e w' => e = .returned (.int .i64 (firstAt x l 0)) ∧ w = w' := by
  go_enter Tryd.func43, Tryd.ntmps43
  go_wp2
  go_loop [8] (fun i => ∃ k : Nat, k ≤ l.length ∧ i = .int .i64 k ∧ firstAt x l 0 = firstAt x (l.drop k) k) (fun i => l.length - (intOf i).toNat)
  case atStart => exact ⟨0, Nat.zero_le _, rfl, by simp⟩
  case round =>
    obtain ⟨k, hk, rfl, hf⟩ := hrel
    have Hf := Lib.hid hf
    clear hf
    by_cases hlt : k < l.length
    · obtain ⟨b, off, rfl, hb, hc⟩ := hat k hlt
      have hlt1 : (k : Int) < (l.length : Int) := by omega
      have hd : l.drop k = l[k] :: l.drop (k + 1) := List.drop_eq_getElem_cons hlt
      have Hd := Lib.hid hd
      clear hd hat
      generalize l[k] = y at *
      by_cases hxy : x = y
      · subst hxy
        go_wp2
        go_ret
        exact ⟨by rw [Hf.out, Hd.out]; simp [firstAt], rfl⟩
      · have hne : (x == y) = false := by simpa using hxy
        go_wp2
        go_round
        case rel => exact ⟨k + 1, by omega, by go_num, by rw [Hf.out, Hd.out]; simp [firstAt, hxy]⟩
        case measure => simp [intOf]; omega
    · have hke : k = l.length := by omega
      subst hke
      go_wp2
      go_ret
      exact ⟨by rw [Hf.out]; simp [firstAt], rfl⟩

theorem contains_any (x : Int) (a : Option Addr) (l : List Int) (cap : Nat) (w : World) (hl : l.length ≤ 9223372036854775807) (hat : IntsAt w a l) :
    Calls Tryd.prog 32 #[.slice a l.length cap, .int .i64 x] w fun e w' => e = .returned (.bool (decide (x ∈ l))) ∧ w = w' := by
  have hge := firstAt_ge x l 0
  go_enter Tryd.func32, Tryd.ntmps32
  go_wp2_with (go_at_call 43; refine (index_any _ _ _ _ _ hl hat).mono ?_; rintro e w' ⟨rfl, rfl⟩)
  all_goals
    go_ret
    exact ⟨by simp_all, rfl⟩

end Go.Proofs.YthgfdcoicihpdaaDoor

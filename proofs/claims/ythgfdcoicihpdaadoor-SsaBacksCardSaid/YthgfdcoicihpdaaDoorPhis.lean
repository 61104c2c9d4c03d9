/-
  ssa.phis, posternref.phisOf: how many Phis a block begins with.
-/
import Derived.Test.YthgfdcoicihpdaaDoorOnceF
import Derived.Test.YthgfdcoicihpdaaDoorRows
namespace Go.Proofs.YthgfdcoicihpdaaDoor
open Go.RowKit Go.Pst
set_option linter.unusedVariables false

theorem phis_any (b : List PInstr) (v : Value) (w : World) (hb : rBlock (fun _ => True) w [v] b) :
    Calls Tryd.prog 12 #[v] w fun e w' => e = .returned (.int .i64 (phisN b)) ∧ w = w' := by
  obtain ⟨a, cap, rfl, hcap, hmax, hat⟩ := rBlock_val hb
  unfold maxLen at hmax
  have hle := phisN_le b
  have Hat := Lib.hid hat
  clear hat hb
  go_enter Tryd.func12, Tryd.ntmps12
  go_wp2_with fail
  go_loopw [3] (fun n wr => ∃ k : Nat, k ≤ phisN b ∧ n = .int .i64 k ∧ wr = w) (fun n _ => b.length - (intOf n).toNat)
  case atStart => exact ⟨0, Nat.zero_le _, rfl, rfl⟩
  case round =>
    obtain ⟨k, hk, rfl, rfl⟩ := hrel
    by_cases hlt : k < b.length
    · have hlt1 : (k : Int) < (b.length : Int) := by omega
      obtain ⟨bb, off, v1, v2, v5, rfl, -, hbb, hc, -⟩ := Hat.out k hlt
      by_cases ho : b[k].op = 14
      · have hs := phisN_step hlt hk ho
        rw [ho] at hc
        go_wp2_with fail
        exact ⟨⟨k + 1, hs, by simp⟩, by simp [intOf]; omega⟩
      · have hs := phisN_stop hlt hk ho
        go_wp2_with fail
        go_ret
        rw [hs]; exact ⟨rfl, rfl⟩
    · have hs : phisN b = k := by omega
      go_wp2_with fail
      go_ret
      rw [hs]; exact ⟨rfl, rfl⟩
theorem phisOf_any (b : List PInstr) (v : Value) (w : World) (hb : rBlock (fun _ => True) w [v] b) :
    Calls Tryd.prog 15 #[v] w fun e w' => e = .returned (.int .i64 (phisN b)) ∧ w = w' := by
  obtain ⟨a, cap, rfl, hcap, hmax, hat⟩ := rBlock_val hb
  unfold maxLen at hmax
  have hle := phisN_le b
  have Hat := Lib.hid hat
  clear hat hb
  go_enter Tryd.func15, Tryd.ntmps15
  go_wp2_with fail
  go_loopw [3] (fun n wr => ∃ k : Nat, k ≤ phisN b ∧ n = .int .i64 k ∧ wr = w) (fun n _ => b.length - (intOf n).toNat)
  case atStart => exact ⟨0, Nat.zero_le _, rfl, rfl⟩
  case round =>
    obtain ⟨k, hk, rfl, rfl⟩ := hrel
    by_cases hlt : k < b.length
    · have hlt1 : (k : Int) < (b.length : Int) := by omega
      obtain ⟨bb, off, v1, v2, v5, rfl, -, hbb, hc, -⟩ := Hat.out k hlt
      by_cases ho : b[k].op = 14
      · have hs := phisN_step hlt hk ho
        rw [ho] at hc
        go_wp2_with fail
        exact ⟨⟨k + 1, hs, by simp⟩, by simp [intOf]; omega⟩
      · have hs := phisN_stop hlt hk ho
        go_wp2_with fail
        go_ret
        rw [hs]; exact ⟨rfl, rfl⟩
    · have hs : phisN b = k := by omega
      go_wp2_with fail
      go_ret
      rw [hs]; exact ⟨rfl, rfl⟩
end Go.Proofs.YthgfdcoicihpdaaDoor

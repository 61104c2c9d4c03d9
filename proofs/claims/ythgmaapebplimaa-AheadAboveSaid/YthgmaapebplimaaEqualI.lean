/-
  slices.Equal at equal lists of ints.
-/
import Derived.Test.YthgmaapebplimaaData
import Derived.Test.YthgmaapebplimaaProg
import Derived.Deep.QuietTactic
import Derived.BigQuiet
namespace Go.Proofs.Ythgmaapebplimaa
open Go.RowKit Go.Pst
set_option linter.unusedVariables false

set_option maxHeartbeats 400000 in
theorem equal_eq (a1 a2 : Option Addr) (l : List Int) (cap1 cap2 : Nat) (w : World) (hl : l.length ≤ 9223372036854775807) (hat1 : IntsAt w a1 l) (hat2 : IntsAt w a2 l) :
    Calls Try.prog 20 #[.slice a1 l.length cap1, .slice a2 l.length cap2] w fun e w' => e = .returned (.bool true) ∧ Drawn w w' := by
  go_enter Try.func20, Try.ntmps20
  go_wp2
  go_loopw [13] (fun i wr => ∃ k : Nat, k ≤ l.length ∧ i = .int .i64 k ∧ Drawn w wr) (fun i _ => l.length - (intOf i).toNat)
  case atStart => exact ⟨0, Nat.zero_le _, rfl, Drawn.refl _⟩
  case round =>
    obtain ⟨k, hk, rfl, hdr⟩ := hrel
    by_cases hlt : k < l.length
    · obtain ⟨b1, off1, rfl, hb1, hc1⟩ := hat1 k hlt
      obtain ⟨b2, off2, rfl, hb2, hc2⟩ := hat2 k hlt
      have hlt1 : (k : Int) < (l.length : Int) := by omega
      clear hat1 hat2
      have hx1 : wr.cell? ⟨b1, off1 + k, none⟩ = some (.int .i64 l[k]) := by rw [hdr.cell]; exact hc1
      have hx2 : wr.cell? ⟨b2, off2 + k, none⟩ = some (.int .i64 l[k]) := by rw [hdr.cell]; exact hc2
      generalize l[k] = y at *
      go_wp2
      go_quiet (fail)
      go_wp2
      go_roundw
      case rel => exact ⟨k + 1, by omega, by go_num, hdr.more _⟩
      case measure => simp [intOf]; omega
    · have hke : k = l.length := by omega
      subst hke
      go_wp2
      go_ret
      exact ⟨rfl, hdr⟩
end Go.Proofs.Ythgmaapebplimaa

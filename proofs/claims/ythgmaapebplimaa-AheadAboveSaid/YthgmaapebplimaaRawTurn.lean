/-
  posternkeep.Code's closure t: picked of its number and of 'many', which lies in a box.
-/
import Derived.Test.YthgmaapebplimaaPicked
import Derived.Deep.QuietTactic
import Derived.BigQuiet
namespace Go.Proofs.Ythgmaapebplimaa
open Go.RowKit Go.Pst
set_option linter.unusedVariables false

theorem turn_any (n many : Int) (bx : Nat) (w : World) (hc : w.cell? ⟨bx, 0, none⟩ = some (.int .i64 many)) (hn : InI n) (hm : 0 < many) (hm' : InI many) :
    Calls Try.prog 31 #[.int .i64 n, .pointer (some ⟨bx, 0, none⟩)] w fun e w' => e = .returned (.int .i64 (pickF n many)) ∧ w = w' := by
  go_enter Try.func31, Try.ntmps31
  go_wp2_with fail
  refine (picked_any n many w hn hm hm').mono ?_
  rintro e w' ⟨rfl, rfl⟩
  go_wp2_with fail
  go_ret
  exact ⟨rfl, rfl⟩
end Go.Proofs.Ythgmaapebplimaa

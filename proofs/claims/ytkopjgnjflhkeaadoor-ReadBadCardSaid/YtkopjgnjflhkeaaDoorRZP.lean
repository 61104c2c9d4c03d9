/-
  Texts joined: Picked.
-/
import Derived.Test.YtkopjgnjflhkeaaDoorRA
import Derived.Test.YtkopjgnjflhkeaaDoorProg

/-
  picked: a number from 0 to many - 1 (posternkeep).
-/
namespace Go.Proofs.YtkopjgnjflhkeaaDoor
open Go.RowKit Go.Pst
set_option linter.unusedVariables false
set_option linter.unusedSimpArgs false

def pickF (n many : Int) : Int := if n < 0 then (-(n + 1)).tmod many else n.tmod many
theorem pickF_in {n many : Int} (h : 0 < many) : 0 ≤ pickF n many ∧ pickF n many < many := by
  unfold pickF
  split
  · exact ⟨Int.tmod_nonneg _ (by omega), Int.tmod_lt_of_pos _ h⟩
  · exact ⟨Int.tmod_nonneg _ (by omega), Int.tmod_lt_of_pos _ h⟩

theorem picked_any (n many : Int) (w : World) (hn : InI n) (hm : 0 < many) (hm' : InI many) :
    Calls Tryd.prog 7 #[.int .i64 n, .int .i64 many] w fun e w' => e = .returned (.int .i64 (pickF n many)) ∧ w = w' := by
  obtain ⟨h1, h2⟩ := hn
  obtain ⟨h3, h4⟩ := hm'
  have hne : (many == 0) = false := by simp; omega
  by_cases h0 : n < 0
  · have H := Lib.hid (show pickF n many = (-(n + 1)).tmod many by unfold pickF; rw [if_pos h0])
    go_enter Tryd.func7, Tryd.ntmps7
    go_wp2_with fail
    go_ret
    rw [H.out, Int.neg_tmod]
    exact ⟨rfl, rfl⟩
  · have H := Lib.hid (show pickF n many = n.tmod many by unfold pickF; rw [if_neg h0])
    go_enter Tryd.func7, Tryd.ntmps7
    go_wp2_with fail
    go_ret
    rw [H.out, Int.tmod_eq_emod_of_nonneg (by omega)]
    exact ⟨rfl, rfl⟩
end Go.Proofs.YtkopjgnjflhkeaaDoor

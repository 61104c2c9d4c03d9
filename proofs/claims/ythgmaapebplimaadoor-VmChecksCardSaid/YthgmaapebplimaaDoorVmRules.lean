/-
  vm.rules (a map that each call makes), vm.ends, vm.function, the closures of vm's checks: contracts.
-/
import Derived.Test.YthgmaapebplimaaDoorIMap
import Derived.Test.YthgmaapebplimaaDoorIrInvoke
import Derived.Test.YthgmaapebplimaaDoorWholeFault
namespace Go.Proofs.YthgmaapebplimaaDoor
open Go.RowKit Go.Pst
set_option linter.unusedVariables false

/-- vm.rules: how many results, arguments, places (-1: as many as it says); none: there is no such operator. -/
def ruleM (k : Nat) : Option (Int × Int × Int) :=
  if 1 ≤ k ∧ k ≤ 13 then some (ruleF k) else if k = 21 then some (1, 0, 0) else if k = 22 then some (0, 1, 0) else none
def row3 (r : Int × Int × Int) : Value := .agg #[.int .i64 r.1, .int .i64 r.2.1, .int .i64 r.2.2]
def rulesI : IMap Int := [(1, row3 (1, 0, 0)), (2, row3 (1, 1, 0)), (3, row3 (1, 2, 0)), (4, row3 (1, 1, 0)), (5, row3 (0, 2, 0)), (6, row3 (1, 1, 0)), (7, row3 (-1, -1, 0)), (8, row3 (0, -1, 0)), (9, row3 (0, 0, 1)), (10, row3 (0, 1, 2)), (11, row3 (0, 1, -1)), (12, row3 (0, -1, 0)), (13, row3 (0, 0, 0)), (21, row3 (1, 0, 0)), (22, row3 (0, 1, 0))]
theorem rulesI_at (k : Nat) : getI rulesI (k : Int) = (ruleM k).map row3 := by
  by_cases h : k ≤ 22
  · have : k = 0 ∨ k = 1 ∨ k = 2 ∨ k = 3 ∨ k = 4 ∨ k = 5 ∨ k = 6 ∨ k = 7 ∨ k = 8 ∨ k = 9 ∨ k = 10 ∨ k = 11 ∨ k = 12 ∨ k = 13 ∨ k = 14 ∨ k = 15 ∨ k = 16 ∨ k = 17 ∨ k = 18 ∨ k = 19 ∨ k = 20 ∨ k = 21 ∨ k = 22 := by omega
    rcases this with rfl | rfl | rfl | rfl | rfl | rfl | rfl | rfl | rfl | rfl | rfl | rfl | rfl | rfl | rfl | rfl | rfl | rfl | rfl | rfl | rfl | rfl | rfl <;> rfl
  · have hm : ruleM k = none := by unfold ruleM; rw [if_neg (by omega), if_neg (by omega), if_neg (by omega)]
    rw [hm]
    unfold rulesI
    repeat (unfold getI; rw [if_neg (by omega)])
    rfl
theorem rulesI_neg (x : Int) (h : x < 0) : getI rulesI x = none := by
  unfold rulesI
  repeat (unfold getI; rw [if_neg (by omega)])
  rfl

set_option maxRecDepth 4000 in
set_option maxHeartbeats 2000000 in
theorem vmRules_any (w : World) :
    Calls Tryd.prog 40 #[] w fun e w' => e = .returned (.map (some w.heap.size)) ∧ MapI w' w.heap.size rulesI ∧ Below w.heap.size w w' ∧ w.heap.size < w'.heap.size := by
  have hmk := @run_makeMap Tryd.prog
  have hm := MapI.made Int w
  have hb : Below w.heap.size w (w.alloc (.map #[] 0)) := (Below.refl _ _).alloc (Nat.le_refl _) _
  have hlt : w.heap.size < (w.alloc (.map #[] 0)).heap.size := by simp
  go_enter Tryd.func40, Tryd.ntmps40
  go_wp2_with (first | (refine wpList_insertI (κ := Int) rfl _ _ _ 58 rfl Tryd.underlying58 Tryd.underlying3 w.heap.size _ rfl hm _ _ rfl rfl ?_; clear hm; intro w1 hm hgr; replace hb := hb.grown hgr (Nat.le_of_lt hlt) (fun k hk => by cases hk; exact Nat.le_refl _); replace hlt := Nat.lt_of_lt_of_le hlt hgr.size; clear hgr))
  go_ret
  exact ⟨rfl, hm, hb, hlt⟩
end Go.Proofs.YthgmaapebplimaaDoor

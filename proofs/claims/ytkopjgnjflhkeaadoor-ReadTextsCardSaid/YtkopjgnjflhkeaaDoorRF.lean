/-
  Texts joined: RdCounts.
-/
import Derived.Test.YtkopjgnjflhkeaaDoorRA
import Derived.Test.YtkopjgnjflhkeaaDoorRE
import Derived.Test.YtkopjgnjflhkeaaDoorProg

/-
  read.counts: the words that look like calls, as a map.
-/
namespace Go.Proofs.YtkopjgnjflhkeaaDoor
open Go.RowKit Go.Pst
set_option linter.unusedVariables false
set_option linter.unusedSimpArgs false

def countsM : IMap ByteArray := putI (putI (putI (putI [] ⟨#[108, 101, 110]⟩ (.agg #[.int .i64 8, .int .i64 1])) ⟨#[97, 112, 112, 101, 110, 100]⟩ (.agg #[.int .i64 10, .int .i64 2])) ⟨#[115, 108, 105, 99, 101]⟩ (.agg #[.int .i64 11, .int .i64 (-1)])) ⟨#[109, 97, 112]⟩ (.agg #[.int .i64 12, .int .i64 0])
theorem lookI_countsM (y : ByteArray) : lookI countsM y = (countR y).map fun p => .agg #[.int .i64 p.1, .int .i64 p.2] := by
  unfold countsM countR
  by_cases h1 : y = ⟨#[108, 101, 110]⟩
  · subst h1; rfl
  by_cases h2 : y = ⟨#[97, 112, 112, 101, 110, 100]⟩
  · subst h2; rfl
  by_cases h3 : y = ⟨#[115, 108, 105, 99, 101]⟩
  · subst h3; rfl
  by_cases h4 : y = ⟨#[109, 97, 112]⟩
  · subst h4; rfl
  rw [if_neg h1, if_neg h2, if_neg h3, if_neg h4, lookI_put_other _ _ (fun e => h4 e.symm), lookI_put_other _ _ (fun e => h3 e.symm), lookI_put_other _ _ (fun e => h2 e.symm), lookI_put_other _ _ (fun e => h1 e.symm)]
  rfl

set_option maxRecDepth 10000 in
set_option maxHeartbeats 4000000 in
theorem readCounts_any (w : World) :
    Calls Tryd.prog 93 #[] w fun e w' => e = .returned (.map (some w.heap.size)) ∧ MapI w' w.heap.size countsM ∧ Since (fun _ => False) w w' := by
  have hmk := @run_makeMap Tryd.prog
  have hm : MapI (w.alloc (.map #[] 0)) w.heap.size ([] : IMap ByteArray) := MapI.made ByteArray w
  have hb : Below w.heap.size w (w.alloc (.map #[] 0)) := (Below.refl _ _).alloc (Nat.le_refl _) _
  have hlt : w.heap.size < (w.alloc (.map #[] 0)).heap.size := by simp
  go_enter Tryd.func93, Tryd.ntmps93
  go_wp2_with (first | (refine wpList_insertI (κ := ByteArray) rfl _ _ _ 138 rfl Tryd.underlying138 Tryd.underlying9 _ _ rfl hm _ _ rfl rfl ?_; clear hm; intro w1 hm hgr; replace hb := hb.grown hgr (Nat.le_of_lt hlt) (fun k hk => by cases hk; exact Nat.le_refl _); replace hlt := Nat.lt_of_lt_of_le hlt hgr.size; clear hgr))
  go_ret
  exact ⟨rfl, hm, ⟨hb.os, hb.tape, hb.output, hb.size, fun k hk _ => hb.block k hk⟩⟩
end Go.Proofs.YtkopjgnjflhkeaaDoor

/-
  A block of code under way: one instruction more.
-/
import Derived.Test.YthgmaapebplimaaMk
namespace Go.Pst
open Go.RowKit
set_option linter.unusedVariables false
set_option linter.unusedSimpArgs false

/-- One instruction is put behind: it was laid by itself first (w to w1), then appended (w1 to w2). -/
theorem Blk.push {M M' : Nat → Prop} {w w1 w2 : World} {v v' : Value} {l : List PInstr} {i : PInstr} {ess : List (List Value)} {es : List Value}
    (hall : rAll 6 rInstr (fun k => ¬ M k) w ess l) (hb : Since (fun _ => False) w w1) (hl : es.length = 6) (hi : rInstr (fun k => ¬ M' k) w1 es i)
    (hown : w2.ownsRow 0 57 6 v' (l.length + 1) (ess.flatten ++ es)) (hg : w1.grownBy w2 v.ownBlock) (hv : ∀ k, v.ownBlock = some k → M k) (hv' : ∀ k, v.ownBlock = some k → M' k)
    (hM : ∀ k, k < w.heap.size → M' k → M k) : Blk M' w2 v' (l ++ [i]) := by
  refine ⟨ess ++ [es], by rw [List.length_append, List.length_singleton, List.flatten_append]; simpa using hown, rAll_snoc hl ?_ ?_⟩
  · exact Good.keep ⟨hg.size, fun k hk hS => hg.block k hk (fun e => hS (hv' k e.symm))⟩ (fun k _ h => h) hi
  · exact rAll_keep ⟨Nat.le_trans hb.size hg.size, fun k hk hS => (hg.block k (Nat.lt_of_lt_of_le hk hb.size) (fun e => hS (hv k e.symm))).trans (hb.block k hk (fun f => f))⟩ (fun k hk hS m => hS (hM k hk m)) hall
end Go.Pst

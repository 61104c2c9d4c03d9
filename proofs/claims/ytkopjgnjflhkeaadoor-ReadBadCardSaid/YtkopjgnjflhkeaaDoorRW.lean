/-
  Texts joined: RdKnot.
-/
import Derived.Test.YtkopjgnjflhkeaaDoorRR
import Derived.Test.YtkopjgnjflhkeaaDoorRT
import Derived.Test.YtkopjgnjflhkeaaDoorRV
import Derived.Test.YtkopjgnjflhkeaaDoorRI

/-
  The reader's knot: expressions, statements, blocks at every depth.
-/
namespace Go.Proofs.YtkopjgnjflhkeaaDoor
open Go.RowKit Go.Pst
set_option linter.unusedVariables false
theorem exprUnary_all : ∀ d, d ≤ 30 → ExprOK d ∧ UnaryOK d
  | 0, h => by
    have hE : ExprOK 0 := readExpr_any 0 h (fun d' e => by omega)
    exact ⟨hE, readUnary_any 0 h (fun w br bT cap base T st h hL h0 hd => readPrim_any 0 hE (readWord_any 0 hE) w br bT cap base T st h hL h0 hd) hE (fun d' e => by omega)⟩
  | d + 1, h => by
    obtain ⟨hE', hU'⟩ := exprUnary_all d (by omega)
    have hE : ExprOK (d + 1) := readExpr_any (d + 1) h (fun d' e => by
      obtain rfl : d = d' := by omega
      exact readLevel_any d hU' 0 (by decide))
    exact ⟨hE, readUnary_any (d + 1) h (fun w br bT cap base T st h hL h0 hd => readPrim_any (d + 1) hE (readWord_any (d + 1) hE) w br bT cap base T st h hL h0 hd) hE (fun d' e => by
      obtain rfl : d = d' := by omega
      exact hU')⟩
theorem exprOK_all (d : Nat) (h : d ≤ 30) : ExprOK d := (exprUnary_all d h).1
theorem blockIf_all : ∀ d, d ≤ 30 → BlockOK d ∧ IfOK d
  | 0, h => by
    have hK : BlockOK 0 := readBlock_any 0 h (fun d' e => by omega)
    exact ⟨hK, readIf_any 0 h (exprOK_all 0 h) hK (fun d' e => by omega)⟩
  | d + 1, h => by
    obtain ⟨hK', hI'⟩ := blockIf_all d (by omega)
    have hK : BlockOK (d + 1) := readBlock_any (d + 1) h (fun d' e => by
      obtain rfl : d = d' := by omega
      exact readStmt_any d (exprOK_all d (by omega)) hK' hI')
    exact ⟨hK, readIf_any (d + 1) h (exprOK_all (d + 1) h) hK (fun d' e => by
      obtain rfl : d = d' := by omega
      exact hI')⟩
theorem blockOK_all (d : Nat) (h : d ≤ 30) : BlockOK d := (blockIf_all d h).1
end Go.Proofs.YtkopjgnjflhkeaaDoor

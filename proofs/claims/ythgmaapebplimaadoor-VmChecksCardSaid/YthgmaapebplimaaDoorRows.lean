/-
  NARROWER THAN 'FOR EVERY INPUT', by the rows' own cells (each row's printed sentence says how): IrCodes: laid · IrChecks: laid · VmChecks: laid.
  DERIVED. THE GIVEN ROWS OF THIS SEAT. 3 by the template 'for every input the law returns true; each argument reads behind the call as it read before'; 0 by the template 'total and deterministic' (their statements: YthgmaapebplimaaDoorTotals.lean).
  GIVEN WITH THE SEED: the statements are not yours to turn. If you find one false, say at which input.
  Laid BY PROGRAM, IN A SANDBOX (cutbox-rows.mjs): the forced cells as the released guide's own fill.sh prints them over the translation a8cc13ec4f2576d8… (all of the seat's roots in one cut). By AI agents, Wed Nov 11 2026. No macro, syntax, notation, axiom, sorry.
-/
import Derived.Test.YthgmaapebplimaaDoorChecked
import GoSem.Claim
import GoSem.ClaimJoined
import GoSem.ClaimMapViews
import Derived.JoinedTies
import Derived.KernelRfl
namespace Go.Proofs.YthgmaapebplimaaDoor
/- THE CELL 'sum', in the pinned program and in every row, IS THE sha256 OF THE DUMP (.gsa) THAT YthgmaapebplimaaDoorProg.lean LOADS. Nothing in Lean hashes anything: it is a label: what it is worth is what the hold of that sum in a sandbox is worth. -/
noncomputable def Tryd.pinned : Pinned := { name := "ythgmaapebplimaadoor", sum := "a8cc13ec4f2576d8d8d2568d6680e18bd06473fcc587917fd54214dcea6e81f4", checked := Tryd.checked }
namespace Rows
def none {H : Type} : Left H := { results := [], args := [] }

/- WHAT THE LISTED PACKAGE-LEVEL VARIABLES READ AS WHEN THE CALL BEGINS. Each datum BY PROGRAM (the guide's laid-datum.mjs) off the statement by which the dump's own 'gosem.cut.vars' lays the variable. In a bare row this is a premise. The card (YthgmaapebplimaaDoorCards.lean) ties it to the program's text. -/
def laid_postern_ir_rules {H : Type} : DataW H := .agg [.agg [.lit (.int .i64 0), .lit (.int .i64 0), .lit (.int .i64 0)], .agg [.lit (.int .i64 1), .lit (.int .i64 0), .lit (.int .i64 0)], .agg [.lit (.int .i64 1), .lit (.int .i64 1), .lit (.int .i64 0)], .agg [.lit (.int .i64 1), .lit (.int .i64 2), .lit (.int .i64 0)], .agg [.lit (.int .i64 1), .lit (.int .i64 1), .lit (.int .i64 0)], .agg [.lit (.int .i64 0), .lit (.int .i64 2), .lit (.int .i64 0)], .agg [.lit (.int .i64 1), .lit (.int .i64 1), .lit (.int .i64 0)], .agg [.lit (.int .i64 (-1)), .lit (.int .i64 (-1)), .lit (.int .i64 0)], .agg [.lit (.int .i64 0), .lit (.int .i64 (-1)), .lit (.int .i64 0)], .agg [.lit (.int .i64 0), .lit (.int .i64 0), .lit (.int .i64 1)], .agg [.lit (.int .i64 0), .lit (.int .i64 1), .lit (.int .i64 2)], .agg [.lit (.int .i64 0), .lit (.int .i64 1), .lit (.int .i64 (-1))], .agg [.lit (.int .i64 0), .lit (.int .i64 (-1)), .lit (.int .i64 0)], .agg [.lit (.int .i64 0), .lit (.int .i64 0), .lit (.int .i64 0)]]
def laid_postern_ir_maths {H : Type} : DataW H := .slice [.lit (.string [43]), .lit (.string [45]), .lit (.string [42]), .lit (.string [47]), .lit (.string [37]), .lit (.string [61, 61]), .lit (.string [33, 61]), .lit (.string [60]), .lit (.string [60, 61]), .lit (.string [62]), .lit (.string [62, 61])] []
def laid_postern_vm_maths {H : Type} : DataW H := .slice [.lit (.string [43]), .lit (.string [45]), .lit (.string [42]), .lit (.string [47]), .lit (.string [37]), .lit (.string [61, 61]), .lit (.string [33, 61]), .lit (.string [60]), .lit (.string [60, 61]), .lit (.string [62]), .lit (.string [62, 61])] []

/-- 'posternlaw.IrCodes': WHATEVER THE INPUT: true; the input reads as it did. -/
def irCodesSpec : ChangeSpec := { name := "irCodes", fn := fun _ => fun
  | [d1, d2] => { results := [.lit (.bool true)], args := [d1, d2] }
  | _ => none }
def irCodesRow : OpenClaim := { program := "ythgmaapebplimaadoor", sum := "a8cc13ec4f2576d8d8d2568d6680e18bd06473fcc587917fd54214dcea6e81f4", func := "postern/posternlaw.IrCodes", spec := "irCodes", unfollowed := true, recurses := true, named := ["postern/ir.rules", "postern/ir.maths"], apart := false, laid := [("postern/ir.rules", laid_postern_ir_rules), ("postern/ir.maths", laid_postern_ir_maths)] }
def IrCodesSaid : Prop := irCodesRow.holds Tryd.pinned (OpenSpec.ofChange irCodesSpec)

/-- ITS FALSE NEIGHBOUR: 'it returns false'. Refute it at one input. -/
def irCodesWrong : ChangeSpec := { name := "irCodes", fn := fun _ => fun
  | [d1, d2] => { results := [.lit (.bool false)], args := [d1, d2] }
  | _ => none }
def IrCodesWrongFalsely : Prop := irCodesRow.holds Tryd.pinned (OpenSpec.ofChange irCodesWrong)

/-- 'posternlaw.IrChecks': WHATEVER THE INPUT: true; the input reads as it did. -/
def irChecksSpec : ChangeSpec := { name := "irChecks", fn := fun _ => fun
  | [d] => { results := [.lit (.bool true)], args := [d] }
  | _ => none }
def irChecksRow : OpenClaim := { program := "ythgmaapebplimaadoor", sum := "a8cc13ec4f2576d8d8d2568d6680e18bd06473fcc587917fd54214dcea6e81f4", func := "postern/posternlaw.IrChecks", spec := "irChecks", unfollowed := true, recurses := true, named := ["postern/ir.rules", "postern/ir.maths"], apart := false, laid := [("postern/ir.rules", laid_postern_ir_rules), ("postern/ir.maths", laid_postern_ir_maths)] }
def IrChecksSaid : Prop := irChecksRow.holds Tryd.pinned (OpenSpec.ofChange irChecksSpec)

/-- ITS FALSE NEIGHBOUR: 'it returns false'. Refute it at one input. -/
def irChecksWrong : ChangeSpec := { name := "irChecks", fn := fun _ => fun
  | [d] => { results := [.lit (.bool false)], args := [d] }
  | _ => none }
def IrChecksWrongFalsely : Prop := irChecksRow.holds Tryd.pinned (OpenSpec.ofChange irChecksWrong)

/-- 'posternlaw.VmChecks': WHATEVER THE INPUT: true; the input reads as it did. -/
def vmChecksSpec : ChangeSpec := { name := "vmChecks", fn := fun _ => fun
  | [d] => { results := [.lit (.bool true)], args := [d] }
  | _ => none }
def vmChecksRow : OpenClaim := { program := "ythgmaapebplimaadoor", sum := "a8cc13ec4f2576d8d8d2568d6680e18bd06473fcc587917fd54214dcea6e81f4", func := "postern/posternlaw.VmChecks", spec := "vmChecks", unfollowed := true, recurses := true, named := ["postern/vm.maths"], apart := false, laid := [("postern/vm.maths", laid_postern_vm_maths)] }
def VmChecksSaid : Prop := vmChecksRow.holds Tryd.pinned (OpenSpec.ofChange vmChecksSpec)

/-- ITS FALSE NEIGHBOUR: 'it returns false'. Refute it at one input. -/
def vmChecksWrong : ChangeSpec := { name := "vmChecks", fn := fun _ => fun
  | [d] => { results := [.lit (.bool false)], args := [d] }
  | _ => none }
def VmChecksWrongFalsely : Prop := vmChecksRow.holds Tryd.pinned (OpenSpec.ofChange vmChecksWrong)

/- THE SECOND FORM. 'bulk': how many values and letters a reading holds, each counted each time it is reached (what is shared counts as often as it is met; a slice's spare places count too). A statement '..UptoSaid' is the law's where the arguments, and the package variables that the reading takes, are together of bulk at most 1048576: NARROWER than '..Said'. Prove '..Said' where nothing that the law and all that it calls make is longer than what came in: it says more and counts as full. Else prove '..UptoSaid'. A law counts once. -/
mutual
def uptoBulk {H : Type} : DataW H → Nat
  | .lit (.string bytes) => bytes.length + 1
  | .lit _ => 1
  | .nil => 1
  | .ptr d => uptoBulk d + 1
  | .slice elems spare => uptoBulkAll elems + uptoBulkAll spare + 1
  | .agg parts => uptoBulkAll parts + 1
  | .iface _ d => uptoBulk d + 1
  | .map entries => uptoBulkEntries entries + 1
  | .held _ => 1
def uptoBulkAll {H : Type} : List (DataW H) → Nat
  | [] => 0
  | d :: r => uptoBulk d + uptoBulkAll r
def uptoBulkEntries {H : Type} : List (Lit × DataW H) → Nat
  | [] => 0
  | x :: r => uptoBulkEntry x + uptoBulkEntries r
def uptoBulkEntry {H : Type} : Lit × DataW H → Nat
  | (.string bytes, d) => bytes.length + uptoBulk d + 1
  | (_, d) => uptoBulk d + 1
 end
def uptoSmall : (H : Type) → List (DataW H) → Bool := fun _ ds => decide (uptoBulkAll ds ≤ 1048576)
def OpenSpec.upto (s : _root_.Go.ChangeSpec) : _root_.Go.OpenSpec := { _root_.Go.OpenSpec.ofChange s with cond := some uptoSmall }

/-- 'posternlaw.IrCodes', WHERE WHAT IT READS IS OF BULK AT MOST 1048576: true; the input reads as it did. -/
def irCodesUptoRow : OpenClaim := { program := "ythgmaapebplimaadoor", sum := "a8cc13ec4f2576d8d8d2568d6680e18bd06473fcc587917fd54214dcea6e81f4", func := "postern/posternlaw.IrCodes", spec := "irCodes", unfollowed := true, recurses := true, named := ["postern/ir.rules", "postern/ir.maths"], apart := false, laid := [("postern/ir.rules", laid_postern_ir_rules), ("postern/ir.maths", laid_postern_ir_maths)], narrowed := true }
def IrCodesUptoSaid : Prop := irCodesUptoRow.holds Tryd.pinned (OpenSpec.upto irCodesSpec)

/-- 'posternlaw.IrChecks', WHERE WHAT IT READS IS OF BULK AT MOST 1048576: true; the input reads as it did. -/
def irChecksUptoRow : OpenClaim := { program := "ythgmaapebplimaadoor", sum := "a8cc13ec4f2576d8d8d2568d6680e18bd06473fcc587917fd54214dcea6e81f4", func := "postern/posternlaw.IrChecks", spec := "irChecks", unfollowed := true, recurses := true, named := ["postern/ir.rules", "postern/ir.maths"], apart := false, laid := [("postern/ir.rules", laid_postern_ir_rules), ("postern/ir.maths", laid_postern_ir_maths)], narrowed := true }
def IrChecksUptoSaid : Prop := irChecksUptoRow.holds Tryd.pinned (OpenSpec.upto irChecksSpec)

/-- 'posternlaw.VmChecks', WHERE WHAT IT READS IS OF BULK AT MOST 1048576: true; the input reads as it did. -/
def vmChecksUptoRow : OpenClaim := { program := "ythgmaapebplimaadoor", sum := "a8cc13ec4f2576d8d8d2568d6680e18bd06473fcc587917fd54214dcea6e81f4", func := "postern/posternlaw.VmChecks", spec := "vmChecks", unfollowed := true, recurses := true, named := ["postern/vm.maths"], apart := false, laid := [("postern/vm.maths", laid_postern_vm_maths)], narrowed := true }
def VmChecksUptoSaid : Prop := vmChecksUptoRow.holds Tryd.pinned (OpenSpec.upto vmChecksSpec)

end Rows
end Go.Proofs.YthgmaapebplimaaDoor

/-
  NARROWER THAN 'FOR EVERY INPUT', by the rows' own cells (each row's printed sentence says how): SsaChecks: laid · TypedChecks: loops, laid · SsaBacks: laid · IrRuns: laid · CodeMath: laid · CodeHeap: laid · VmRuns: laid · CodeParts: laid.
  DERIVED. THE GIVEN ROWS OF THIS SEAT. 8 by the template 'for every input the law returns true; each argument reads behind the call as it read before'; 0 by the template 'total and deterministic' (their statements: YtaomlfbcfmmhlaaDoorTotals.lean).
  GIVEN WITH THE SEED: the statements are not yours to turn. If you find one false, say at which input.
  Laid BY PROGRAM, IN A SANDBOX (cutbox-rows.mjs): the forced cells as the released guide's own fill.sh prints them over the translation 38229b188755a3a1… (all of the seat's roots in one cut). By AI agents, Wed Nov 11 2026. No macro, syntax, notation, axiom, sorry.
-/
import Derived.Test.YtaomlfbcfmmhlaaDoorChecked
import GoSem.Claim
import GoSem.ClaimJoined
import GoSem.ClaimMapViews
import Derived.JoinedTies
import Derived.KernelRfl
namespace Go.Proofs.YtaomlfbcfmmhlaaDoor
/- THE CELL 'sum', in the pinned program and in every row, IS THE sha256 OF THE DUMP (.gsa) THAT YtaomlfbcfmmhlaaDoorProg.lean LOADS. Nothing in Lean hashes anything: it is a label: what it is worth is what the hold of that sum in a sandbox is worth. -/
noncomputable def Tryd.pinned : Pinned := { name := "ytaomlfbcfmmhlaadoor", sum := "38229b188755a3a1d9012bdbcf37ad933999b4bbbd4686cb64f24cbf078b59da", checked := Tryd.checked }
namespace Rows
def none {H : Type} : Left H := { results := [], args := [] }

/- WHAT THE LISTED PACKAGE-LEVEL VARIABLES READ AS WHEN THE CALL BEGINS. Each datum BY PROGRAM (the guide's laid-datum.mjs) off the statement by which the dump's own 'gosem.cut.vars' lays the variable. In a bare row this is a premise. The card (YtaomlfbcfmmhlaaDoorCards.lean) ties it to the program's text. -/
def laid_postern_ir_rules {H : Type} : DataW H := .agg [.agg [.lit (.int .i64 0), .lit (.int .i64 0), .lit (.int .i64 0)], .agg [.lit (.int .i64 1), .lit (.int .i64 0), .lit (.int .i64 0)], .agg [.lit (.int .i64 1), .lit (.int .i64 1), .lit (.int .i64 0)], .agg [.lit (.int .i64 1), .lit (.int .i64 2), .lit (.int .i64 0)], .agg [.lit (.int .i64 1), .lit (.int .i64 1), .lit (.int .i64 0)], .agg [.lit (.int .i64 0), .lit (.int .i64 2), .lit (.int .i64 0)], .agg [.lit (.int .i64 1), .lit (.int .i64 1), .lit (.int .i64 0)], .agg [.lit (.int .i64 (-1)), .lit (.int .i64 (-1)), .lit (.int .i64 0)], .agg [.lit (.int .i64 0), .lit (.int .i64 (-1)), .lit (.int .i64 0)], .agg [.lit (.int .i64 0), .lit (.int .i64 0), .lit (.int .i64 1)], .agg [.lit (.int .i64 0), .lit (.int .i64 1), .lit (.int .i64 2)], .agg [.lit (.int .i64 0), .lit (.int .i64 1), .lit (.int .i64 (-1))], .agg [.lit (.int .i64 0), .lit (.int .i64 (-1)), .lit (.int .i64 0)], .agg [.lit (.int .i64 0), .lit (.int .i64 0), .lit (.int .i64 0)]]
def laid_postern_ir_maths {H : Type} : DataW H := .slice [.lit (.string [43]), .lit (.string [45]), .lit (.string [42]), .lit (.string [47]), .lit (.string [37]), .lit (.string [61, 61]), .lit (.string [33, 61]), .lit (.string [60]), .lit (.string [60, 61]), .lit (.string [62]), .lit (.string [62, 61])] []
def laid_postern_typed_counts {H : Type} : DataW H := .agg [.lit (.int .i64 0), .lit (.int .i64 0), .lit (.int .i64 0), .lit (.int .i64 0), .lit (.int .i64 0), .lit (.int .i64 2), .lit (.int .i64 1), .lit (.int .i64 (-1)), .lit (.int .i64 1), .lit (.int .i64 2), .lit (.int .i64 2), .lit (.int .i64 (-1)), .lit (.int .i64 0)]
def laid_postern_typed_exprCount {H : Type} : DataW H := .agg [.lit (.int .i64 0), .lit (.int .i64 1), .lit (.int .i64 1), .lit (.int .i64 2), .lit (.int .i64 1), .lit (.int .i64 1), .lit (.int .i64 1), .lit (.int .i64 1), .lit (.int .i64 (-1)), .lit (.int .i64 1), .lit (.int .i64 0), .lit (.int .i64 0), .lit (.int .i64 1), .lit (.int .i64 1)]
def laid_math_bits_deBruijn32tab {H : Type} : DataW H := .agg [.lit (.int .u8 0), .lit (.int .u8 1), .lit (.int .u8 28), .lit (.int .u8 2), .lit (.int .u8 29), .lit (.int .u8 14), .lit (.int .u8 24), .lit (.int .u8 3), .lit (.int .u8 30), .lit (.int .u8 22), .lit (.int .u8 20), .lit (.int .u8 15), .lit (.int .u8 25), .lit (.int .u8 17), .lit (.int .u8 4), .lit (.int .u8 8), .lit (.int .u8 31), .lit (.int .u8 27), .lit (.int .u8 13), .lit (.int .u8 23), .lit (.int .u8 21), .lit (.int .u8 19), .lit (.int .u8 16), .lit (.int .u8 7), .lit (.int .u8 26), .lit (.int .u8 12), .lit (.int .u8 18), .lit (.int .u8 6), .lit (.int .u8 11), .lit (.int .u8 5), .lit (.int .u8 10), .lit (.int .u8 9)]
def laid_math_bits_deBruijn64tab {H : Type} : DataW H := .agg [.lit (.int .u8 0), .lit (.int .u8 1), .lit (.int .u8 56), .lit (.int .u8 2), .lit (.int .u8 57), .lit (.int .u8 49), .lit (.int .u8 28), .lit (.int .u8 3), .lit (.int .u8 61), .lit (.int .u8 58), .lit (.int .u8 42), .lit (.int .u8 50), .lit (.int .u8 38), .lit (.int .u8 29), .lit (.int .u8 17), .lit (.int .u8 4), .lit (.int .u8 62), .lit (.int .u8 47), .lit (.int .u8 59), .lit (.int .u8 36), .lit (.int .u8 45), .lit (.int .u8 43), .lit (.int .u8 51), .lit (.int .u8 22), .lit (.int .u8 53), .lit (.int .u8 39), .lit (.int .u8 33), .lit (.int .u8 30), .lit (.int .u8 24), .lit (.int .u8 18), .lit (.int .u8 12), .lit (.int .u8 5), .lit (.int .u8 63), .lit (.int .u8 55), .lit (.int .u8 48), .lit (.int .u8 27), .lit (.int .u8 60), .lit (.int .u8 41), .lit (.int .u8 37), .lit (.int .u8 16), .lit (.int .u8 46), .lit (.int .u8 35), .lit (.int .u8 44), .lit (.int .u8 21), .lit (.int .u8 52), .lit (.int .u8 32), .lit (.int .u8 23), .lit (.int .u8 11), .lit (.int .u8 54), .lit (.int .u8 26), .lit (.int .u8 40), .lit (.int .u8 15), .lit (.int .u8 34), .lit (.int .u8 20), .lit (.int .u8 31), .lit (.int .u8 10), .lit (.int .u8 25), .lit (.int .u8 14), .lit (.int .u8 19), .lit (.int .u8 9), .lit (.int .u8 13), .lit (.int .u8 8), .lit (.int .u8 7), .lit (.int .u8 6)]
def laid_internal_strconv_uint64pow10 {H : Type} : DataW H := .agg [.lit (.int .u64 1), .lit (.int .u64 10), .lit (.int .u64 100), .lit (.int .u64 1000), .lit (.int .u64 10000), .lit (.int .u64 100000), .lit (.int .u64 1000000), .lit (.int .u64 10000000), .lit (.int .u64 100000000), .lit (.int .u64 1000000000), .lit (.int .u64 10000000000), .lit (.int .u64 100000000000), .lit (.int .u64 1000000000000), .lit (.int .u64 10000000000000), .lit (.int .u64 100000000000000), .lit (.int .u64 1000000000000000), .lit (.int .u64 10000000000000000), .lit (.int .u64 100000000000000000), .lit (.int .u64 1000000000000000000), .lit (.int .u64 10000000000000000000)]
def laid_postern_vm_maths {H : Type} : DataW H := .slice [.lit (.string [43]), .lit (.string [45]), .lit (.string [42]), .lit (.string [47]), .lit (.string [37]), .lit (.string [61, 61]), .lit (.string [33, 61]), .lit (.string [60]), .lit (.string [60, 61]), .lit (.string [62]), .lit (.string [62, 61])] []
def laid_strconv_ErrRange {H : Type} : DataW H := .iface "*errors.errorString" (.ptr (.agg [.lit (.string [118, 97, 108, 117, 101, 32, 111, 117, 116, 32, 111, 102, 32, 114, 97, 110, 103, 101])]))
def laid_strconv_ErrSyntax {H : Type} : DataW H := .iface "*errors.errorString" (.ptr (.agg [.lit (.string [105, 110, 118, 97, 108, 105, 100, 32, 115, 121, 110, 116, 97, 120])]))

/-- 'posternlaw.SsaChecks': WHATEVER THE INPUT: true; the input reads as it did. -/
def ssaChecksSpec : ChangeSpec := { name := "ssaChecks", fn := fun _ => fun
  | [d1, d2] => { results := [.lit (.bool true)], args := [d1, d2] }
  | _ => none }
def ssaChecksRow : OpenClaim := { program := "ytaomlfbcfmmhlaadoor", sum := "38229b188755a3a1d9012bdbcf37ad933999b4bbbd4686cb64f24cbf078b59da", func := "postern/posternlaw.SsaChecks", spec := "ssaChecks", unfollowed := true, recurses := true, named := ["postern/ir.rules", "postern/ir.maths"], apart := false, laid := [("postern/ir.rules", laid_postern_ir_rules), ("postern/ir.maths", laid_postern_ir_maths)] }
def SsaChecksSaid : Prop := ssaChecksRow.holds Tryd.pinned (OpenSpec.ofChange ssaChecksSpec)

/-- ITS FALSE NEIGHBOUR: 'it returns false'. Refute it at one input. -/
def ssaChecksWrong : ChangeSpec := { name := "ssaChecks", fn := fun _ => fun
  | [d1, d2] => { results := [.lit (.bool false)], args := [d1, d2] }
  | _ => none }
def SsaChecksWrongFalsely : Prop := ssaChecksRow.holds Tryd.pinned (OpenSpec.ofChange ssaChecksWrong)

/-- 'posternlaw.TypedChecks': WHATEVER THE INPUT: true; the input reads as it did. -/
def typedChecksSpec : ChangeSpec := { name := "typedChecks", fn := fun _ => fun
  | [d] => { results := [.lit (.bool true)], args := [d] }
  | _ => none }
def typedChecksRow : OpenClaim := { program := "ytaomlfbcfmmhlaadoor", sum := "38229b188755a3a1d9012bdbcf37ad933999b4bbbd4686cb64f24cbf078b59da", func := "postern/posternlaw.TypedChecks", spec := "typedChecks", unfollowed := true, recurses := true, named := ["postern/typed.exprCount", "postern/typed.counts"], loops := true, apart := false, laid := [("postern/typed.counts", laid_postern_typed_counts), ("postern/typed.exprCount", laid_postern_typed_exprCount)] }
def TypedChecksSaid : Prop := typedChecksRow.holds Tryd.pinned (OpenSpec.ofChange typedChecksSpec)

/-- ITS FALSE NEIGHBOUR: 'it returns false'. Refute it at one input. -/
def typedChecksWrong : ChangeSpec := { name := "typedChecks", fn := fun _ => fun
  | [d] => { results := [.lit (.bool false)], args := [d] }
  | _ => none }
def TypedChecksWrongFalsely : Prop := typedChecksRow.holds Tryd.pinned (OpenSpec.ofChange typedChecksWrong)

/-- 'posternlaw.SsaBacks': WHATEVER THE INPUT: true; the input reads as it did. -/
def ssaBacksSpec : ChangeSpec := { name := "ssaBacks", fn := fun _ => fun
  | [d1, d2] => { results := [.lit (.bool true)], args := [d1, d2] }
  | _ => none }
def ssaBacksRow : OpenClaim := { program := "ytaomlfbcfmmhlaadoor", sum := "38229b188755a3a1d9012bdbcf37ad933999b4bbbd4686cb64f24cbf078b59da", func := "postern/posternlaw.SsaBacks", spec := "ssaBacks", unfollowed := true, recurses := true, named := ["postern/ir.rules", "postern/ir.maths"], apart := false, laid := [("postern/ir.rules", laid_postern_ir_rules), ("postern/ir.maths", laid_postern_ir_maths)] }
def SsaBacksSaid : Prop := ssaBacksRow.holds Tryd.pinned (OpenSpec.ofChange ssaBacksSpec)

/-- ITS FALSE NEIGHBOUR: 'it returns false'. Refute it at one input. -/
def ssaBacksWrong : ChangeSpec := { name := "ssaBacks", fn := fun _ => fun
  | [d1, d2] => { results := [.lit (.bool false)], args := [d1, d2] }
  | _ => none }
def SsaBacksWrongFalsely : Prop := ssaBacksRow.holds Tryd.pinned (OpenSpec.ofChange ssaBacksWrong)

/-- 'posternlaw.IrRuns': WHATEVER THE INPUT: true; the input reads as it did. -/
def irRunsSpec : ChangeSpec := { name := "irRuns", fn := fun _ => fun
  | [d1, d2, d3] => { results := [.lit (.bool true)], args := [d1, d2, d3] }
  | _ => none }
def irRunsRow : OpenClaim := { program := "ytaomlfbcfmmhlaadoor", sum := "38229b188755a3a1d9012bdbcf37ad933999b4bbbd4686cb64f24cbf078b59da", func := "postern/posternlaw.IrRuns", spec := "irRuns", inPlace := ["internal/abi.NoEscape"], unfollowed := true, recurses := true, named := ["postern/ir.rules", "postern/ir.maths", "internal/strconv.uint64pow10", "math/bits.deBruijn32tab", "math/bits.deBruijn64tab"], apart := false, laid := [("math/bits.deBruijn32tab", laid_math_bits_deBruijn32tab), ("math/bits.deBruijn64tab", laid_math_bits_deBruijn64tab), ("internal/strconv.uint64pow10", laid_internal_strconv_uint64pow10), ("postern/ir.rules", laid_postern_ir_rules), ("postern/ir.maths", laid_postern_ir_maths)] }
def IrRunsSaid : Prop := irRunsRow.holds Tryd.pinned (OpenSpec.ofChange irRunsSpec)

/-- ITS FALSE NEIGHBOUR: 'it returns false'. Refute it at one input. -/
def irRunsWrong : ChangeSpec := { name := "irRuns", fn := fun _ => fun
  | [d1, d2, d3] => { results := [.lit (.bool false)], args := [d1, d2, d3] }
  | _ => none }
def IrRunsWrongFalsely : Prop := irRunsRow.holds Tryd.pinned (OpenSpec.ofChange irRunsWrong)

/-- 'posternkeep.CodeMath': WHATEVER THE INPUT: true; the input reads as it did. -/
def codeMathSpec : ChangeSpec := { name := "codeMath", fn := fun _ => fun
  | [d1, d2, d3] => { results := [.lit (.bool true)], args := [d1, d2, d3] }
  | _ => none }
def codeMathRow : OpenClaim := { program := "ytaomlfbcfmmhlaadoor", sum := "38229b188755a3a1d9012bdbcf37ad933999b4bbbd4686cb64f24cbf078b59da", func := "postern/posternkeep.CodeMath", spec := "codeMath", inPlace := ["internal/abi.NoEscape"], unfollowed := true, recurses := true, named := ["postern/ir.rules", "postern/ir.maths", "internal/strconv.uint64pow10", "math/bits.deBruijn32tab", "math/bits.deBruijn64tab"], apart := false, laid := [("math/bits.deBruijn32tab", laid_math_bits_deBruijn32tab), ("math/bits.deBruijn64tab", laid_math_bits_deBruijn64tab), ("internal/strconv.uint64pow10", laid_internal_strconv_uint64pow10), ("postern/ir.rules", laid_postern_ir_rules), ("postern/ir.maths", laid_postern_ir_maths)] }
def CodeMathSaid : Prop := codeMathRow.holds Tryd.pinned (OpenSpec.ofChange codeMathSpec)

/-- ITS FALSE NEIGHBOUR: 'it returns false'. Refute it at one input. -/
def codeMathWrong : ChangeSpec := { name := "codeMath", fn := fun _ => fun
  | [d1, d2, d3] => { results := [.lit (.bool false)], args := [d1, d2, d3] }
  | _ => none }
def CodeMathWrongFalsely : Prop := codeMathRow.holds Tryd.pinned (OpenSpec.ofChange codeMathWrong)

/-- 'posternkeep.CodeHeap': WHATEVER THE INPUT: true; the input reads as it did. -/
def codeHeapSpec : ChangeSpec := { name := "codeHeap", fn := fun _ => fun
  | [d1, d2, d3] => { results := [.lit (.bool true)], args := [d1, d2, d3] }
  | _ => none }
def codeHeapRow : OpenClaim := { program := "ytaomlfbcfmmhlaadoor", sum := "38229b188755a3a1d9012bdbcf37ad933999b4bbbd4686cb64f24cbf078b59da", func := "postern/posternkeep.CodeHeap", spec := "codeHeap", inPlace := ["internal/abi.NoEscape"], unfollowed := true, recurses := true, named := ["postern/ir.rules", "postern/ir.maths", "internal/strconv.uint64pow10", "math/bits.deBruijn32tab", "math/bits.deBruijn64tab"], apart := false, laid := [("math/bits.deBruijn32tab", laid_math_bits_deBruijn32tab), ("math/bits.deBruijn64tab", laid_math_bits_deBruijn64tab), ("internal/strconv.uint64pow10", laid_internal_strconv_uint64pow10), ("postern/ir.rules", laid_postern_ir_rules), ("postern/ir.maths", laid_postern_ir_maths)] }
def CodeHeapSaid : Prop := codeHeapRow.holds Tryd.pinned (OpenSpec.ofChange codeHeapSpec)

/-- ITS FALSE NEIGHBOUR: 'it returns false'. Refute it at one input. -/
def codeHeapWrong : ChangeSpec := { name := "codeHeap", fn := fun _ => fun
  | [d1, d2, d3] => { results := [.lit (.bool false)], args := [d1, d2, d3] }
  | _ => none }
def CodeHeapWrongFalsely : Prop := codeHeapRow.holds Tryd.pinned (OpenSpec.ofChange codeHeapWrong)

/-- 'posternlaw.VmRuns': WHATEVER THE INPUT: true; the input reads as it did. -/
def vmRunsSpec : ChangeSpec := { name := "vmRuns", fn := fun _ => fun
  | [d1, d2, d3] => { results := [.lit (.bool true)], args := [d1, d2, d3] }
  | _ => none }
def vmRunsRow : OpenClaim := { program := "ytaomlfbcfmmhlaadoor", sum := "38229b188755a3a1d9012bdbcf37ad933999b4bbbd4686cb64f24cbf078b59da", func := "postern/posternlaw.VmRuns", spec := "vmRuns", inPlace := ["internal/abi.NoEscape"], unfollowed := true, recurses := true, named := ["postern/vm.maths", "internal/strconv.uint64pow10", "math/bits.deBruijn32tab", "math/bits.deBruijn64tab"], apart := false, laid := [("math/bits.deBruijn32tab", laid_math_bits_deBruijn32tab), ("math/bits.deBruijn64tab", laid_math_bits_deBruijn64tab), ("internal/strconv.uint64pow10", laid_internal_strconv_uint64pow10), ("postern/vm.maths", laid_postern_vm_maths)] }
def VmRunsSaid : Prop := vmRunsRow.holds Tryd.pinned (OpenSpec.ofChange vmRunsSpec)

/-- ITS FALSE NEIGHBOUR: 'it returns false'. Refute it at one input. -/
def vmRunsWrong : ChangeSpec := { name := "vmRuns", fn := fun _ => fun
  | [d1, d2, d3] => { results := [.lit (.bool false)], args := [d1, d2, d3] }
  | _ => none }
def VmRunsWrongFalsely : Prop := vmRunsRow.holds Tryd.pinned (OpenSpec.ofChange vmRunsWrong)

/-- 'posternkeep.CodeParts': WHATEVER THE INPUT: true; the input reads as it did. -/
def codePartsSpec : ChangeSpec := { name := "codeParts", fn := fun _ => fun
  | [d1, d2] => { results := [.lit (.bool true)], args := [d1, d2] }
  | _ => none }
def codePartsRow : OpenClaim := { program := "ytaomlfbcfmmhlaadoor", sum := "38229b188755a3a1d9012bdbcf37ad933999b4bbbd4686cb64f24cbf078b59da", func := "postern/posternkeep.CodeParts", spec := "codeParts", inPlace := ["internal/abi.NoEscape"], unfollowed := true, recurses := true, named := ["postern/ir.rules", "postern/ir.maths", "internal/strconv.uint64pow10", "math/bits.deBruijn32tab", "math/bits.deBruijn64tab", "strconv.ErrSyntax", "strconv.ErrRange"], apart := false, laid := [("math/bits.deBruijn32tab", laid_math_bits_deBruijn32tab), ("math/bits.deBruijn64tab", laid_math_bits_deBruijn64tab), ("internal/strconv.uint64pow10", laid_internal_strconv_uint64pow10), ("strconv.ErrRange", laid_strconv_ErrRange), ("strconv.ErrSyntax", laid_strconv_ErrSyntax), ("postern/ir.rules", laid_postern_ir_rules), ("postern/ir.maths", laid_postern_ir_maths)] }
def CodePartsSaid : Prop := codePartsRow.holds Tryd.pinned (OpenSpec.ofChange codePartsSpec)

/-- ITS FALSE NEIGHBOUR: 'it returns false'. Refute it at one input. -/
def codePartsWrong : ChangeSpec := { name := "codeParts", fn := fun _ => fun
  | [d1, d2] => { results := [.lit (.bool false)], args := [d1, d2] }
  | _ => none }
def CodePartsWrongFalsely : Prop := codePartsRow.holds Tryd.pinned (OpenSpec.ofChange codePartsWrong)

/- THE SECOND FORM. 'bulk': how many values and letters a reading holds, each counted each time it is reached (what is shared counts as often as it is met; a slice's spare places count too). A statement '..UptoSaid' is the law's where the arguments, and the package variables that the reading takes, are together of bulk at most 1048576: NARROWER than '..Said'. Prove '..Said' where nothing that the law and all that it calls make is longer than what came in: it says more and counts as full. Else prove '..UptoSaid'. A law counts once. -/
mutual
def uptoBulk {H : Type} : DataW H → Nat
  | .lit (.string bytes) => bytes.length + 1
  | .lit _ => 1
  | .nil => 1
  | .ptr d => uptoBulk d + 1
  | .slice elems spare => uptoBulkAll elems + uptoBulkAll spare + 1
  | .agg parts => uptoBulkAll parts + 1
  | .iface _ d => uptoBulk d + 1
  | .map entries => uptoBulkEntries entries + 1
  | .held _ => 1
def uptoBulkAll {H : Type} : List (DataW H) → Nat
  | [] => 0
  | d :: r => uptoBulk d + uptoBulkAll r
def uptoBulkEntries {H : Type} : List (Lit × DataW H) → Nat
  | [] => 0
  | x :: r => uptoBulkEntry x + uptoBulkEntries r
def uptoBulkEntry {H : Type} : Lit × DataW H → Nat
  | (.string bytes, d) => bytes.length + uptoBulk d + 1
  | (_, d) => uptoBulk d + 1
 end
def uptoSmall : (H : Type) → List (DataW H) → Bool := fun _ ds => decide (uptoBulkAll ds ≤ 1048576)
def OpenSpec.upto (s : _root_.Go.ChangeSpec) : _root_.Go.OpenSpec := { _root_.Go.OpenSpec.ofChange s with cond := some uptoSmall }

/-- 'posternlaw.SsaChecks', WHERE WHAT IT READS IS OF BULK AT MOST 1048576: true; the input reads as it did. -/
def ssaChecksUptoRow : OpenClaim := { program := "ytaomlfbcfmmhlaadoor", sum := "38229b188755a3a1d9012bdbcf37ad933999b4bbbd4686cb64f24cbf078b59da", func := "postern/posternlaw.SsaChecks", spec := "ssaChecks", unfollowed := true, recurses := true, named := ["postern/ir.rules", "postern/ir.maths"], apart := false, laid := [("postern/ir.rules", laid_postern_ir_rules), ("postern/ir.maths", laid_postern_ir_maths)], narrowed := true }
def SsaChecksUptoSaid : Prop := ssaChecksUptoRow.holds Tryd.pinned (OpenSpec.upto ssaChecksSpec)

/-- 'posternlaw.TypedChecks', WHERE WHAT IT READS IS OF BULK AT MOST 1048576: true; the input reads as it did. -/
def typedChecksUptoRow : OpenClaim := { program := "ytaomlfbcfmmhlaadoor", sum := "38229b188755a3a1d9012bdbcf37ad933999b4bbbd4686cb64f24cbf078b59da", func := "postern/posternlaw.TypedChecks", spec := "typedChecks", unfollowed := true, recurses := true, named := ["postern/typed.exprCount", "postern/typed.counts"], loops := true, apart := false, laid := [("postern/typed.counts", laid_postern_typed_counts), ("postern/typed.exprCount", laid_postern_typed_exprCount)], narrowed := true }
def TypedChecksUptoSaid : Prop := typedChecksUptoRow.holds Tryd.pinned (OpenSpec.upto typedChecksSpec)

/-- 'posternlaw.SsaBacks', WHERE WHAT IT READS IS OF BULK AT MOST 1048576: true; the input reads as it did. -/
def ssaBacksUptoRow : OpenClaim := { program := "ytaomlfbcfmmhlaadoor", sum := "38229b188755a3a1d9012bdbcf37ad933999b4bbbd4686cb64f24cbf078b59da", func := "postern/posternlaw.SsaBacks", spec := "ssaBacks", unfollowed := true, recurses := true, named := ["postern/ir.rules", "postern/ir.maths"], apart := false, laid := [("postern/ir.rules", laid_postern_ir_rules), ("postern/ir.maths", laid_postern_ir_maths)], narrowed := true }
def SsaBacksUptoSaid : Prop := ssaBacksUptoRow.holds Tryd.pinned (OpenSpec.upto ssaBacksSpec)

/-- 'posternlaw.IrRuns', WHERE WHAT IT READS IS OF BULK AT MOST 1048576: true; the input reads as it did. -/
def irRunsUptoRow : OpenClaim := { program := "ytaomlfbcfmmhlaadoor", sum := "38229b188755a3a1d9012bdbcf37ad933999b4bbbd4686cb64f24cbf078b59da", func := "postern/posternlaw.IrRuns", spec := "irRuns", inPlace := ["internal/abi.NoEscape"], unfollowed := true, recurses := true, named := ["postern/ir.rules", "postern/ir.maths", "internal/strconv.uint64pow10", "math/bits.deBruijn32tab", "math/bits.deBruijn64tab"], apart := false, laid := [("math/bits.deBruijn32tab", laid_math_bits_deBruijn32tab), ("math/bits.deBruijn64tab", laid_math_bits_deBruijn64tab), ("internal/strconv.uint64pow10", laid_internal_strconv_uint64pow10), ("postern/ir.rules", laid_postern_ir_rules), ("postern/ir.maths", laid_postern_ir_maths)], narrowed := true }
def IrRunsUptoSaid : Prop := irRunsUptoRow.holds Tryd.pinned (OpenSpec.upto irRunsSpec)

/-- 'posternkeep.CodeMath', WHERE WHAT IT READS IS OF BULK AT MOST 1048576: true; the input reads as it did. -/
def codeMathUptoRow : OpenClaim := { program := "ytaomlfbcfmmhlaadoor", sum := "38229b188755a3a1d9012bdbcf37ad933999b4bbbd4686cb64f24cbf078b59da", func := "postern/posternkeep.CodeMath", spec := "codeMath", inPlace := ["internal/abi.NoEscape"], unfollowed := true, recurses := true, named := ["postern/ir.rules", "postern/ir.maths", "internal/strconv.uint64pow10", "math/bits.deBruijn32tab", "math/bits.deBruijn64tab"], apart := false, laid := [("math/bits.deBruijn32tab", laid_math_bits_deBruijn32tab), ("math/bits.deBruijn64tab", laid_math_bits_deBruijn64tab), ("internal/strconv.uint64pow10", laid_internal_strconv_uint64pow10), ("postern/ir.rules", laid_postern_ir_rules), ("postern/ir.maths", laid_postern_ir_maths)], narrowed := true }
def CodeMathUptoSaid : Prop := codeMathUptoRow.holds Tryd.pinned (OpenSpec.upto codeMathSpec)

/-- 'posternkeep.CodeHeap', WHERE WHAT IT READS IS OF BULK AT MOST 1048576: true; the input reads as it did. -/
def codeHeapUptoRow : OpenClaim := { program := "ytaomlfbcfmmhlaadoor", sum := "38229b188755a3a1d9012bdbcf37ad933999b4bbbd4686cb64f24cbf078b59da", func := "postern/posternkeep.CodeHeap", spec := "codeHeap", inPlace := ["internal/abi.NoEscape"], unfollowed := true, recurses := true, named := ["postern/ir.rules", "postern/ir.maths", "internal/strconv.uint64pow10", "math/bits.deBruijn32tab", "math/bits.deBruijn64tab"], apart := false, laid := [("math/bits.deBruijn32tab", laid_math_bits_deBruijn32tab), ("math/bits.deBruijn64tab", laid_math_bits_deBruijn64tab), ("internal/strconv.uint64pow10", laid_internal_strconv_uint64pow10), ("postern/ir.rules", laid_postern_ir_rules), ("postern/ir.maths", laid_postern_ir_maths)], narrowed := true }
def CodeHeapUptoSaid : Prop := codeHeapUptoRow.holds Tryd.pinned (OpenSpec.upto codeHeapSpec)

/-- 'posternlaw.VmRuns', WHERE WHAT IT READS IS OF BULK AT MOST 1048576: true; the input reads as it did. -/
def vmRunsUptoRow : OpenClaim := { program := "ytaomlfbcfmmhlaadoor", sum := "38229b188755a3a1d9012bdbcf37ad933999b4bbbd4686cb64f24cbf078b59da", func := "postern/posternlaw.VmRuns", spec := "vmRuns", inPlace := ["internal/abi.NoEscape"], unfollowed := true, recurses := true, named := ["postern/vm.maths", "internal/strconv.uint64pow10", "math/bits.deBruijn32tab", "math/bits.deBruijn64tab"], apart := false, laid := [("math/bits.deBruijn32tab", laid_math_bits_deBruijn32tab), ("math/bits.deBruijn64tab", laid_math_bits_deBruijn64tab), ("internal/strconv.uint64pow10", laid_internal_strconv_uint64pow10), ("postern/vm.maths", laid_postern_vm_maths)], narrowed := true }
def VmRunsUptoSaid : Prop := vmRunsUptoRow.holds Tryd.pinned (OpenSpec.upto vmRunsSpec)

/-- 'posternkeep.CodeParts', WHERE WHAT IT READS IS OF BULK AT MOST 1048576: true; the input reads as it did. -/
def codePartsUptoRow : OpenClaim := { program := "ytaomlfbcfmmhlaadoor", sum := "38229b188755a3a1d9012bdbcf37ad933999b4bbbd4686cb64f24cbf078b59da", func := "postern/posternkeep.CodeParts", spec := "codeParts", inPlace := ["internal/abi.NoEscape"], unfollowed := true, recurses := true, named := ["postern/ir.rules", "postern/ir.maths", "internal/strconv.uint64pow10", "math/bits.deBruijn32tab", "math/bits.deBruijn64tab", "strconv.ErrSyntax", "strconv.ErrRange"], apart := false, laid := [("math/bits.deBruijn32tab", laid_math_bits_deBruijn32tab), ("math/bits.deBruijn64tab", laid_math_bits_deBruijn64tab), ("internal/strconv.uint64pow10", laid_internal_strconv_uint64pow10), ("strconv.ErrRange", laid_strconv_ErrRange), ("strconv.ErrSyntax", laid_strconv_ErrSyntax), ("postern/ir.rules", laid_postern_ir_rules), ("postern/ir.maths", laid_postern_ir_maths)], narrowed := true }
def CodePartsUptoSaid : Prop := codePartsUptoRow.holds Tryd.pinned (OpenSpec.upto codePartsSpec)

end Rows
end Go.Proofs.YtaomlfbcfmmhlaaDoor

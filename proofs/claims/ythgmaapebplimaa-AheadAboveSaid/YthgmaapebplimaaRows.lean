/-
  NARROWER THAN 'FOR EVERY INPUT', by the rows' own cells (each row's printed sentence says how): TypedEnds: loops.
  DERIVED. THE GIVEN ROWS OF THIS SEAT. 7 by the template 'for every input the law returns true; each argument reads behind the call as it read before'; 0 by the template 'total and deterministic' (their statements: YthgmaapebplimaaTotals.lean).
  GIVEN WITH THE SEED: the statements are not yours to turn. If you find one false, say at which input.
  Laid BY PROGRAM, IN A SANDBOX (cutbox-rows.mjs): the forced cells as the released guide's own fill.sh prints them over the translation 00c0210e7eb9ed59… (all of the seat's roots in one cut). By AI agents, Wed Nov 11 2026. No macro, syntax, notation, axiom, sorry.
-/
import Derived.Test.YthgmaapebplimaaChecked
import GoSem.Claim
import GoSem.ClaimJoined
import GoSem.ClaimMapViews
import Derived.JoinedTies
import Derived.KernelRfl
namespace Go.Proofs.Ythgmaapebplimaa
/- THE CELL 'sum', in the pinned program and in every row, IS THE sha256 OF THE DUMP (.gsa) THAT YthgmaapebplimaaProg.lean LOADS. Nothing in Lean hashes anything: it is a label: what it is worth is what the hold of that sum in a sandbox is worth. -/
noncomputable def Try.pinned : Pinned := { name := "ythgmaapebplimaa", sum := "00c0210e7eb9ed59559a7b1a010980c8dffc018608a32284d621b8a0f4c3ccb3", checked := Try.checked }
namespace Rows
def none {H : Type} : Left H := { results := [], args := [] }

/-- 'posternlaw.Names': WHATEVER THE INPUT: true; the input reads as it did. -/
def namesSpec : ChangeSpec := { name := "names", fn := fun _ => fun
  | [] => { results := [.lit (.bool true)], args := [] }
  | _ => none }
def namesRow : OpenClaim := { program := "ythgmaapebplimaa", sum := "00c0210e7eb9ed59559a7b1a010980c8dffc018608a32284d621b8a0f4c3ccb3", func := "postern/posternlaw.Names", spec := "names", apart := false }
def NamesSaid : Prop := namesRow.holds Try.pinned (OpenSpec.ofChange namesSpec)

/-- ITS FALSE NEIGHBOUR: 'it returns false'. Refute it at one input. -/
def namesWrong : ChangeSpec := { name := "names", fn := fun _ => fun
  | [] => { results := [.lit (.bool false)], args := [] }
  | _ => none }
def NamesWrongFalsely : Prop := namesRow.holds Try.pinned (OpenSpec.ofChange namesWrong)

/-- 'posternlaw.IrEnds': WHATEVER THE INPUT: true; the input reads as it did. -/
def irEndsSpec : ChangeSpec := { name := "irEnds", fn := fun _ => fun
  | [d] => { results := [.lit (.bool true)], args := [d] }
  | _ => none }
def irEndsRow : OpenClaim := { program := "ythgmaapebplimaa", sum := "00c0210e7eb9ed59559a7b1a010980c8dffc018608a32284d621b8a0f4c3ccb3", func := "postern/posternlaw.IrEnds", spec := "irEnds", apart := false }
def IrEndsSaid : Prop := irEndsRow.holds Try.pinned (OpenSpec.ofChange irEndsSpec)

/-- ITS FALSE NEIGHBOUR: 'it returns false'. Refute it at one input. -/
def irEndsWrong : ChangeSpec := { name := "irEnds", fn := fun _ => fun
  | [d] => { results := [.lit (.bool false)], args := [d] }
  | _ => none }
def IrEndsWrongFalsely : Prop := irEndsRow.holds Try.pinned (OpenSpec.ofChange irEndsWrong)

/-- 'posternlaw.LowerWords': WHATEVER THE INPUT: true; the input reads as it did. -/
def lowerWordsSpec : ChangeSpec := { name := "lowerWords", fn := fun _ => fun
  | [d] => { results := [.lit (.bool true)], args := [d] }
  | _ => none }
def lowerWordsRow : OpenClaim := { program := "ythgmaapebplimaa", sum := "00c0210e7eb9ed59559a7b1a010980c8dffc018608a32284d621b8a0f4c3ccb3", func := "postern/posternlaw.LowerWords", spec := "lowerWords", apart := false }
def LowerWordsSaid : Prop := lowerWordsRow.holds Try.pinned (OpenSpec.ofChange lowerWordsSpec)

/-- ITS FALSE NEIGHBOUR: 'it returns false'. Refute it at one input. -/
def lowerWordsWrong : ChangeSpec := { name := "lowerWords", fn := fun _ => fun
  | [d] => { results := [.lit (.bool false)], args := [d] }
  | _ => none }
def LowerWordsWrongFalsely : Prop := lowerWordsRow.holds Try.pinned (OpenSpec.ofChange lowerWordsWrong)

/-- 'posternlaw.TypedEnds': WHATEVER THE INPUT: true; the input reads as it did. -/
def typedEndsSpec : ChangeSpec := { name := "typedEnds", fn := fun _ => fun
  | [d] => { results := [.lit (.bool true)], args := [d] }
  | _ => none }
def typedEndsRow : OpenClaim := { program := "ythgmaapebplimaa", sum := "00c0210e7eb9ed59559a7b1a010980c8dffc018608a32284d621b8a0f4c3ccb3", func := "postern/posternlaw.TypedEnds", spec := "typedEnds", unfollowed := true, recurses := true, loops := true, apart := false }
def TypedEndsSaid : Prop := typedEndsRow.holds Try.pinned (OpenSpec.ofChange typedEndsSpec)

/-- ITS FALSE NEIGHBOUR: 'it returns false'. Refute it at one input. -/
def typedEndsWrong : ChangeSpec := { name := "typedEnds", fn := fun _ => fun
  | [d] => { results := [.lit (.bool false)], args := [d] }
  | _ => none }
def TypedEndsWrongFalsely : Prop := typedEndsRow.holds Try.pinned (OpenSpec.ofChange typedEndsWrong)

/-- 'posternlaw.SsaAhead': WHATEVER THE INPUT: true; the input reads as it did. -/
def ssaAheadSpec : ChangeSpec := { name := "ssaAhead", fn := fun _ => fun
  | [d] => { results := [.lit (.bool true)], args := [d] }
  | _ => none }
def ssaAheadRow : OpenClaim := { program := "ythgmaapebplimaa", sum := "00c0210e7eb9ed59559a7b1a010980c8dffc018608a32284d621b8a0f4c3ccb3", func := "postern/posternlaw.SsaAhead", spec := "ssaAhead", apart := false }
def SsaAheadSaid : Prop := ssaAheadRow.holds Try.pinned (OpenSpec.ofChange ssaAheadSpec)

/-- ITS FALSE NEIGHBOUR: 'it returns false'. Refute it at one input. -/
def ssaAheadWrong : ChangeSpec := { name := "ssaAhead", fn := fun _ => fun
  | [d] => { results := [.lit (.bool false)], args := [d] }
  | _ => none }
def SsaAheadWrongFalsely : Prop := ssaAheadRow.holds Try.pinned (OpenSpec.ofChange ssaAheadWrong)

/-- 'posternlaw.SsaAbove': WHATEVER THE INPUT: true; the input reads as it did. -/
def ssaAboveSpec : ChangeSpec := { name := "ssaAbove", fn := fun _ => fun
  | [d] => { results := [.lit (.bool true)], args := [d] }
  | _ => none }
def ssaAboveRow : OpenClaim := { program := "ythgmaapebplimaa", sum := "00c0210e7eb9ed59559a7b1a010980c8dffc018608a32284d621b8a0f4c3ccb3", func := "postern/posternlaw.SsaAbove", spec := "ssaAbove", unfollowed := true, recurses := true, apart := false }
def SsaAboveSaid : Prop := ssaAboveRow.holds Try.pinned (OpenSpec.ofChange ssaAboveSpec)

/-- ITS FALSE NEIGHBOUR: 'it returns false'. Refute it at one input. -/
def ssaAboveWrong : ChangeSpec := { name := "ssaAbove", fn := fun _ => fun
  | [d] => { results := [.lit (.bool false)], args := [d] }
  | _ => none }
def SsaAboveWrongFalsely : Prop := ssaAboveRow.holds Try.pinned (OpenSpec.ofChange ssaAboveWrong)

/-- 'posternkeep.AheadAbove': WHATEVER THE INPUT: true; the input reads as it did. -/
def aheadAboveSpec : ChangeSpec := { name := "aheadAbove", fn := fun _ => fun
  | [d] => { results := [.lit (.bool true)], args := [d] }
  | _ => none }
def aheadAboveRow : OpenClaim := { program := "ythgmaapebplimaa", sum := "00c0210e7eb9ed59559a7b1a010980c8dffc018608a32284d621b8a0f4c3ccb3", func := "postern/posternkeep.AheadAbove", spec := "aheadAbove", unfollowed := true, recurses := true, apart := false }
def AheadAboveSaid : Prop := aheadAboveRow.holds Try.pinned (OpenSpec.ofChange aheadAboveSpec)

/-- ITS FALSE NEIGHBOUR: 'it returns false'. Refute it at one input. -/
def aheadAboveWrong : ChangeSpec := { name := "aheadAbove", fn := fun _ => fun
  | [d] => { results := [.lit (.bool false)], args := [d] }
  | _ => none }
def AheadAboveWrongFalsely : Prop := aheadAboveRow.holds Try.pinned (OpenSpec.ofChange aheadAboveWrong)

/- THE SECOND FORM. 'bulk': how many values and letters a reading holds, each counted each time it is reached (what is shared counts as often as it is met; a slice's spare places count too). A statement '..UptoSaid' is the law's where the arguments, and the package variables that the reading takes, are together of bulk at most 1048576: NARROWER than '..Said'. Prove '..Said' where nothing that the law and all that it calls make is longer than what came in: it says more and counts as full. Else prove '..UptoSaid'. A law counts once. -/
mutual
def uptoBulk {H : Type} : DataW H → Nat
  | .lit (.string bytes) => bytes.length + 1
  | .lit _ => 1
  | .nil => 1
  | .ptr d => uptoBulk d + 1
  | .slice elems spare => uptoBulkAll elems + uptoBulkAll spare + 1
  | .agg parts => uptoBulkAll parts + 1
  | .iface _ d => uptoBulk d + 1
  | .map entries => uptoBulkEntries entries + 1
  | .held _ => 1
def uptoBulkAll {H : Type} : List (DataW H) → Nat
  | [] => 0
  | d :: r => uptoBulk d + uptoBulkAll r
def uptoBulkEntries {H : Type} : List (Lit × DataW H) → Nat
  | [] => 0
  | x :: r => uptoBulkEntry x + uptoBulkEntries r
def uptoBulkEntry {H : Type} : Lit × DataW H → Nat
  | (.string bytes, d) => bytes.length + uptoBulk d + 1
  | (_, d) => uptoBulk d + 1
 end
def uptoSmall : (H : Type) → List (DataW H) → Bool := fun _ ds => decide (uptoBulkAll ds ≤ 1048576)
def OpenSpec.upto (s : _root_.Go.ChangeSpec) : _root_.Go.OpenSpec := { _root_.Go.OpenSpec.ofChange s with cond := some uptoSmall }

/-- 'posternlaw.Names', WHERE WHAT IT READS IS OF BULK AT MOST 1048576: true; the input reads as it did. -/
def namesUptoRow : OpenClaim := { program := "ythgmaapebplimaa", sum := "00c0210e7eb9ed59559a7b1a010980c8dffc018608a32284d621b8a0f4c3ccb3", func := "postern/posternlaw.Names", spec := "names", apart := false, narrowed := true }
def NamesUptoSaid : Prop := namesUptoRow.holds Try.pinned (OpenSpec.upto namesSpec)

/-- 'posternlaw.IrEnds', WHERE WHAT IT READS IS OF BULK AT MOST 1048576: true; the input reads as it did. -/
def irEndsUptoRow : OpenClaim := { program := "ythgmaapebplimaa", sum := "00c0210e7eb9ed59559a7b1a010980c8dffc018608a32284d621b8a0f4c3ccb3", func := "postern/posternlaw.IrEnds", spec := "irEnds", apart := false, narrowed := true }
def IrEndsUptoSaid : Prop := irEndsUptoRow.holds Try.pinned (OpenSpec.upto irEndsSpec)

/-- 'posternlaw.LowerWords', WHERE WHAT IT READS IS OF BULK AT MOST 1048576: true; the input reads as it did. -/
def lowerWordsUptoRow : OpenClaim := { program := "ythgmaapebplimaa", sum := "00c0210e7eb9ed59559a7b1a010980c8dffc018608a32284d621b8a0f4c3ccb3", func := "postern/posternlaw.LowerWords", spec := "lowerWords", apart := false, narrowed := true }
def LowerWordsUptoSaid : Prop := lowerWordsUptoRow.holds Try.pinned (OpenSpec.upto lowerWordsSpec)

/-- 'posternlaw.TypedEnds', WHERE WHAT IT READS IS OF BULK AT MOST 1048576: true; the input reads as it did. -/
def typedEndsUptoRow : OpenClaim := { program := "ythgmaapebplimaa", sum := "00c0210e7eb9ed59559a7b1a010980c8dffc018608a32284d621b8a0f4c3ccb3", func := "postern/posternlaw.TypedEnds", spec := "typedEnds", unfollowed := true, recurses := true, loops := true, apart := false, narrowed := true }
def TypedEndsUptoSaid : Prop := typedEndsUptoRow.holds Try.pinned (OpenSpec.upto typedEndsSpec)

/-- 'posternlaw.SsaAhead', WHERE WHAT IT READS IS OF BULK AT MOST 1048576: true; the input reads as it did. -/
def ssaAheadUptoRow : OpenClaim := { program := "ythgmaapebplimaa", sum := "00c0210e7eb9ed59559a7b1a010980c8dffc018608a32284d621b8a0f4c3ccb3", func := "postern/posternlaw.SsaAhead", spec := "ssaAhead", apart := false, narrowed := true }
def SsaAheadUptoSaid : Prop := ssaAheadUptoRow.holds Try.pinned (OpenSpec.upto ssaAheadSpec)

/-- 'posternlaw.SsaAbove', WHERE WHAT IT READS IS OF BULK AT MOST 1048576: true; the input reads as it did. -/
def ssaAboveUptoRow : OpenClaim := { program := "ythgmaapebplimaa", sum := "00c0210e7eb9ed59559a7b1a010980c8dffc018608a32284d621b8a0f4c3ccb3", func := "postern/posternlaw.SsaAbove", spec := "ssaAbove", unfollowed := true, recurses := true, apart := false, narrowed := true }
def SsaAboveUptoSaid : Prop := ssaAboveUptoRow.holds Try.pinned (OpenSpec.upto ssaAboveSpec)

/-- 'posternkeep.AheadAbove', WHERE WHAT IT READS IS OF BULK AT MOST 1048576: true; the input reads as it did. -/
def aheadAboveUptoRow : OpenClaim := { program := "ythgmaapebplimaa", sum := "00c0210e7eb9ed59559a7b1a010980c8dffc018608a32284d621b8a0f4c3ccb3", func := "postern/posternkeep.AheadAbove", spec := "aheadAbove", unfollowed := true, recurses := true, apart := false, narrowed := true }
def AheadAboveUptoSaid : Prop := aheadAboveUptoRow.holds Try.pinned (OpenSpec.upto aheadAboveSpec)

end Rows
end Go.Proofs.Ythgmaapebplimaa

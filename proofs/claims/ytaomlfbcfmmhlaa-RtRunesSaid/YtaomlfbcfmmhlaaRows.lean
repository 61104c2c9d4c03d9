/-
  No cell of these rows narrows 'for every input' (looked for: loops, veiled, ifaces, maps, wideKeys, modest, calm, conditions, laid).
  DERIVED. THE GIVEN ROWS OF THIS SEAT. 4 by the template 'for every input the law returns true; each argument reads behind the call as it read before'; 0 by the template 'total and deterministic' (their statements: YtaomlfbcfmmhlaaTotals.lean).
  GIVEN WITH THE SEED: the statements are not yours to turn. If you find one false, say at which input.
  Laid BY PROGRAM, IN A SANDBOX (cutbox-rows.mjs): the forced cells as the released guide's own fill.sh prints them over the translation 20c370d9e33567eb… (all of the seat's roots in one cut). By AI agents, Wed Nov 11 2026. No macro, syntax, notation, axiom, sorry.
-/
import Derived.Test.YtaomlfbcfmmhlaaChecked
import GoSem.Claim
import GoSem.ClaimJoined
import GoSem.ClaimMapViews
import Derived.JoinedTies
import Derived.KernelRfl
namespace Go.Proofs.Ytaomlfbcfmmhlaa
/- THE CELL 'sum', in the pinned program and in every row, IS THE sha256 OF THE DUMP (.gsa) THAT YtaomlfbcfmmhlaaProg.lean LOADS. Nothing in Lean hashes anything: it is a label: what it is worth is what the hold of that sum in a sandbox is worth. -/
noncomputable def Try.pinned : Pinned := { name := "ytaomlfbcfmmhlaa", sum := "20c370d9e33567eb0d024b1bb3fa7c110163b8a9fdd31cd6852d19f63f475098", checked := Try.checked }
namespace Rows
def none {H : Type} : Left H := { results := [], args := [] }

/-- 'posternlaw.RtGood': WHATEVER THE INPUT: true; the input reads as it did. -/
def rtGoodSpec : ChangeSpec := { name := "rtGood", fn := fun _ => fun
  | [d] => { results := [.lit (.bool true)], args := [d] }
  | _ => none }
def rtGoodRow : OpenClaim := { program := "ytaomlfbcfmmhlaa", sum := "20c370d9e33567eb0d024b1bb3fa7c110163b8a9fdd31cd6852d19f63f475098", func := "postern/posternlaw.RtGood", spec := "rtGood", unfollowed := true, recurses := true, apart := false }
def RtGoodSaid : Prop := rtGoodRow.holds Try.pinned (OpenSpec.ofChange rtGoodSpec)

/-- ITS FALSE NEIGHBOUR: 'it returns false'. Refute it at one input. -/
def rtGoodWrong : ChangeSpec := { name := "rtGood", fn := fun _ => fun
  | [d] => { results := [.lit (.bool false)], args := [d] }
  | _ => none }
def RtGoodWrongFalsely : Prop := rtGoodRow.holds Try.pinned (OpenSpec.ofChange rtGoodWrong)

/-- 'posternlaw.RtTexts': WHATEVER THE INPUT: true; the input reads as it did. -/
def rtTextsSpec : ChangeSpec := { name := "rtTexts", fn := fun _ => fun
  | [d1, d2] => { results := [.lit (.bool true)], args := [d1, d2] }
  | _ => none }
def rtTextsRow : OpenClaim := { program := "ytaomlfbcfmmhlaa", sum := "20c370d9e33567eb0d024b1bb3fa7c110163b8a9fdd31cd6852d19f63f475098", func := "postern/posternlaw.RtTexts", spec := "rtTexts", unfollowed := true, recurses := true, apart := false }
def RtTextsSaid : Prop := rtTextsRow.holds Try.pinned (OpenSpec.ofChange rtTextsSpec)

/-- ITS FALSE NEIGHBOUR: 'it returns false'. Refute it at one input. -/
def rtTextsWrong : ChangeSpec := { name := "rtTexts", fn := fun _ => fun
  | [d1, d2] => { results := [.lit (.bool false)], args := [d1, d2] }
  | _ => none }
def RtTextsWrongFalsely : Prop := rtTextsRow.holds Try.pinned (OpenSpec.ofChange rtTextsWrong)

/-- 'posternlaw.RtRunes': WHATEVER THE INPUT: true; the input reads as it did. -/
def rtRunesSpec : ChangeSpec := { name := "rtRunes", fn := fun _ => fun
  | [d1, d2] => { results := [.lit (.bool true)], args := [d1, d2] }
  | _ => none }
def rtRunesRow : OpenClaim := { program := "ytaomlfbcfmmhlaa", sum := "20c370d9e33567eb0d024b1bb3fa7c110163b8a9fdd31cd6852d19f63f475098", func := "postern/posternlaw.RtRunes", spec := "rtRunes", unfollowed := true, recurses := true, apart := false }
def RtRunesSaid : Prop := rtRunesRow.holds Try.pinned (OpenSpec.ofChange rtRunesSpec)

/-- ITS FALSE NEIGHBOUR: 'it returns false'. Refute it at one input. -/
def rtRunesWrong : ChangeSpec := { name := "rtRunes", fn := fun _ => fun
  | [d1, d2] => { results := [.lit (.bool false)], args := [d1, d2] }
  | _ => none }
def RtRunesWrongFalsely : Prop := rtRunesRow.holds Try.pinned (OpenSpec.ofChange rtRunesWrong)

/-- 'posternlaw.RtAdds': WHATEVER THE INPUT: true; the input reads as it did. -/
def rtAddsSpec : ChangeSpec := { name := "rtAdds", fn := fun _ => fun
  | [d1, d2, d3] => { results := [.lit (.bool true)], args := [d1, d2, d3] }
  | _ => none }
def rtAddsRow : OpenClaim := { program := "ytaomlfbcfmmhlaa", sum := "20c370d9e33567eb0d024b1bb3fa7c110163b8a9fdd31cd6852d19f63f475098", func := "postern/posternlaw.RtAdds", spec := "rtAdds", unfollowed := true, recurses := true, apart := false }
def RtAddsSaid : Prop := rtAddsRow.holds Try.pinned (OpenSpec.ofChange rtAddsSpec)

/-- ITS FALSE NEIGHBOUR: 'it returns false'. Refute it at one input. -/
def rtAddsWrong : ChangeSpec := { name := "rtAdds", fn := fun _ => fun
  | [d1, d2, d3] => { results := [.lit (.bool false)], args := [d1, d2, d3] }
  | _ => none }
def RtAddsWrongFalsely : Prop := rtAddsRow.holds Try.pinned (OpenSpec.ofChange rtAddsWrong)

/- THE SECOND FORM. 'bulk': how many values and letters a reading holds, each counted each time it is reached (what is shared counts as often as it is met; a slice's spare places count too). A statement '..UptoSaid' is the law's where the arguments, and the package variables that the reading takes, are together of bulk at most 1048576: NARROWER than '..Said'. Prove '..Said' where nothing that the law and all that it calls make is longer than what came in: it says more and counts as full. Else prove '..UptoSaid'. A law counts once. -/
mutual
def uptoBulk {H : Type} : DataW H → Nat
  | .lit (.string bytes) => bytes.length + 1
  | .lit _ => 1
  | .nil => 1
  | .ptr d => uptoBulk d + 1
  | .slice elems spare => uptoBulkAll elems + uptoBulkAll spare + 1
  | .agg parts => uptoBulkAll parts + 1
  | .iface _ d => uptoBulk d + 1
  | .map entries => uptoBulkEntries entries + 1
  | .held _ => 1
def uptoBulkAll {H : Type} : List (DataW H) → Nat
  | [] => 0
  | d :: r => uptoBulk d + uptoBulkAll r
def uptoBulkEntries {H : Type} : List (Lit × DataW H) → Nat
  | [] => 0
  | x :: r => uptoBulkEntry x + uptoBulkEntries r
def uptoBulkEntry {H : Type} : Lit × DataW H → Nat
  | (.string bytes, d) => bytes.length + uptoBulk d + 1
  | (_, d) => uptoBulk d + 1
 end
def uptoSmall : (H : Type) → List (DataW H) → Bool := fun _ ds => decide (uptoBulkAll ds ≤ 1048576)
def OpenSpec.upto (s : _root_.Go.ChangeSpec) : _root_.Go.OpenSpec := { _root_.Go.OpenSpec.ofChange s with cond := some uptoSmall }

/-- 'posternlaw.RtGood', WHERE WHAT IT READS IS OF BULK AT MOST 1048576: true; the input reads as it did. -/
def rtGoodUptoRow : OpenClaim := { program := "ytaomlfbcfmmhlaa", sum := "20c370d9e33567eb0d024b1bb3fa7c110163b8a9fdd31cd6852d19f63f475098", func := "postern/posternlaw.RtGood", spec := "rtGood", unfollowed := true, recurses := true, apart := false, narrowed := true }
def RtGoodUptoSaid : Prop := rtGoodUptoRow.holds Try.pinned (OpenSpec.upto rtGoodSpec)

/-- 'posternlaw.RtTexts', WHERE WHAT IT READS IS OF BULK AT MOST 1048576: true; the input reads as it did. -/
def rtTextsUptoRow : OpenClaim := { program := "ytaomlfbcfmmhlaa", sum := "20c370d9e33567eb0d024b1bb3fa7c110163b8a9fdd31cd6852d19f63f475098", func := "postern/posternlaw.RtTexts", spec := "rtTexts", unfollowed := true, recurses := true, apart := false, narrowed := true }
def RtTextsUptoSaid : Prop := rtTextsUptoRow.holds Try.pinned (OpenSpec.upto rtTextsSpec)

/-- 'posternlaw.RtRunes', WHERE WHAT IT READS IS OF BULK AT MOST 1048576: true; the input reads as it did. -/
def rtRunesUptoRow : OpenClaim := { program := "ytaomlfbcfmmhlaa", sum := "20c370d9e33567eb0d024b1bb3fa7c110163b8a9fdd31cd6852d19f63f475098", func := "postern/posternlaw.RtRunes", spec := "rtRunes", unfollowed := true, recurses := true, apart := false, narrowed := true }
def RtRunesUptoSaid : Prop := rtRunesUptoRow.holds Try.pinned (OpenSpec.upto rtRunesSpec)

/-- 'posternlaw.RtAdds', WHERE WHAT IT READS IS OF BULK AT MOST 1048576: true; the input reads as it did. -/
def rtAddsUptoRow : OpenClaim := { program := "ytaomlfbcfmmhlaa", sum := "20c370d9e33567eb0d024b1bb3fa7c110163b8a9fdd31cd6852d19f63f475098", func := "postern/posternlaw.RtAdds", spec := "rtAdds", unfollowed := true, recurses := true, apart := false, narrowed := true }
def RtAddsUptoSaid : Prop := rtAddsUptoRow.holds Try.pinned (OpenSpec.upto rtAddsSpec)

end Rows
end Go.Proofs.Ytaomlfbcfmmhlaa

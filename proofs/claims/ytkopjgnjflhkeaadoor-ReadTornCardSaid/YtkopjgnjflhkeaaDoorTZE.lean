import Derived.Test.YtkopjgnjflhkeaaDoorTA
namespace Go.Pst
open Go.RowKit
set_option linter.unusedVariables false
set_option linter.unusedSimpArgs false
def rParam:Rep (ByteArray × Int):=fun _ _ cs x=>cs=[.string x.1, .int .i64 x.2]∧x.1.size≤maxLen∧InI x.2
instance:Good rParam:=⟨fun _ _ h=>h⟩
def rFunc (d:Nat):Rep PFunc:=fun S w cs x=> ∃ v1 v3,cs=[.string x.name,v1, .int .i64 x.result,v3]∧(x.name.size≤maxLen∧InI x.result)∧rSlice 2 rParam S w [v1] x.params∧rSlice 7 (rStmt d) S w [v3] x.body
instance good_func (d:Nat):Good (rFunc d):=⟨by
 rintro S S' w w' cs x hk hs ⟨v1,v3,h1,h2,h3,h4⟩
 exact ⟨v1,v3,h1,h2,Good.keep hk hs h3,Good.keep hk hs h4⟩⟩
abbrev rFuncs (d:Nat):Rep (List PFunc):=rSlice 4 (rFunc d)
end Go.Pst

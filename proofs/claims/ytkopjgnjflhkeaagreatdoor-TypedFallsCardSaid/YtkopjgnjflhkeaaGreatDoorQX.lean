import Derived.Test.YtkopjgnjflhkeaaGreatDoorQA
namespace Go.Pst
open Go.RowKit
set_option linter.unusedVariables false
set_option linter.unusedSimpArgs false
def rParam:Rep (ByteArray × Int):=fun _ _ cs x=>cs=[.string x.1, .int .i64 x.2]∧x.1.size≤maxLen∧InI x.2
instance:Good rParam:=⟨fun _ _ h=>h⟩
def rFunc (d:Nat):Rep PFunc:=fun S w cs x=> ∃ v1 v3,cs=[.string x.name,v1, .int .i64 x.result,v3]∧(x.name.size≤maxLen∧InI x.result)∧rSlice 2 rParam S w [v1] x.params∧rSlice 7 (rStmt d) S w [v3] x.body
instance good_func (d:Nat):Good (rFunc d):=⟨by
 rintro S S' w w' cs x hk hs ⟨v1,v3,h1,h2,h3,h4⟩
 exact ⟨v1,v3,h1,h2,Good.keep hk hs h3,Good.keep hk hs h4⟩⟩
abbrev rFuncs (d:Nat):Rep (List PFunc):=rSlice 4 (rFunc d)
theorem rFuncs_val {d:Nat} {S:Nat→Prop} {w:World} {v:Value} {l:List PFunc} (h:rFuncs d S w [v] l):
 ∃ a cap,v= .slice a l.length cap∧l.length≤cap∧cap≤maxLen∧
 ∀ i (h:i<l.length),∃ b off v1 v3,a=some ⟨b,off,none⟩∧S b∧b<w.heap.size∧
  w.cell? ⟨b,off+i*4,none⟩=some (.string l[i].name)∧w.cell? ⟨b,off+i*4+1,none⟩=some v1∧w.cell? ⟨b,off+i*4+2,none⟩=some (.int .i64 l[i].result)∧w.cell? ⟨b,off+i*4+3,none⟩=some v3∧
  l[i].name.size≤maxLen∧InI l[i].result∧rSlice 2 rParam S w [v1] l[i].params∧rSlice 7 (rStmt d) S w [v3] l[i].body:=by
 obtain ⟨a,cap,h1,h2,h3,h4⟩:=rSlice_val h
 refine ⟨a,cap,h1,h2,h3,fun i hi=>?_⟩
 obtain ⟨b,off,es,ha,hS,hb,hl,hc,v1,v3,rfl,h5,h6,h7⟩:=h4 i hi
 exact ⟨b,off,v1,v3,ha,hS,hb,hc 0 (by decide),hc 1 (by decide),hc 2 (by decide),hc 3 (by decide),h5.1,h5.2,h6,h7⟩
theorem rParams_val {S:Nat→Prop} {w:World} {v:Value} {l:List (ByteArray × Int)} (h:rSlice 2 rParam S w [v] l):
 ∃ a cap,v= .slice a l.length cap∧l.length≤cap∧cap≤maxLen∧
 ∀ i (h:i<l.length),∃ b off,a=some ⟨b,off,none⟩∧S b∧b<w.heap.size∧
  w.cell? ⟨b,off+i*2,none⟩=some (.string l[i].1)∧w.cell? ⟨b,off+i*2+1,none⟩=some (.int .i64 l[i].2)∧l[i].1.size≤maxLen∧InI l[i].2:=by
 obtain ⟨a,cap,h1,h2,h3,h4⟩:=rSlice_val h
 refine ⟨a,cap,h1,h2,h3,fun i hi=>?_⟩
 obtain ⟨b,off,es,ha,hS,hb,hl,hc,rfl,h5,h6⟩:=h4 i hi
 exact ⟨b,off,ha,hS,hb,hc 0 (by decide),hc 1 (by decide),h5,h6⟩
end Go.Pst

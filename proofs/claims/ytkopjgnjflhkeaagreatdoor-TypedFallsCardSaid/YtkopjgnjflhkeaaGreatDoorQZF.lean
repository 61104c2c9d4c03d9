import Derived.Test.YtkopjgnjflhkeaaGreatDoorQZE
import Derived.Lib.LaidTab
import Derived.ProofKit
import Derived.LaidMore
import Derived.OpenShut
import Derived.Stop.Joined
import Derived.Stop.LaidErr
import Derived.Test.YtkopjgnjflhkeaaGreatDoorRows
namespace Go.Proofs.YtkopjgnjflhkeaaGreatDoor
open Go.ChangeShapes Go.WideShapes Go.ChangeAt Go.RowKit Go.Pst
set_option linter.unusedVariables false
theorem array_open {H:Type} {enc:TypeId × Value→H} {P:Program} {w:World} {base:Nat} {sp:Nat→Bool} {held:Bool} {t e:TypeId} {n fuel:Nat} {cs:List Value} {ds:List (DataW H)} {p:List MemPlace}
 (ht:P.underlying t=some (.array n e)) (hc:P.cellsOf e=1) (hct:P.cellsOf t=n) (h:DataW.trod enc P w base sp held fuel t cs=some (.agg ds,p)):
 ∀ (i:Nat) (d:DataW H),ds[i]?=some d→ ∃ v m q,cs[i]?=some v∧DataW.trod enc P w base sp held m e [v]=some (d,q):=by
 obtain ⟨xs,m,rfl,hx,hcl,hn,hel⟩:=DataW.trod_array ht h
 simp only [Prod.mk.injEq,DataW.agg.injEq] at hx
 intro i d hd
 rw [hx.1,List.getElem?_map] at hd
 cases hy:xs[i]? with
 |none=>simp [hy] at hd
 |some y=>
  have hi:i<n:=by rw [←hn];exact (List.getElem?_eq_some_iff.1 hy).1
  have h0:=hel i hi
  rw [hc,Nat.mul_one,hy] at h0
  rw [hy] at hd
  obtain rfl:y.1=d:=by simpa using hd
  have hil:i<cs.length:=by rw [hcl,hct];exact hi
  have e1:(cs.drop i).take 1=[cs[i]]:=by
   rw [List.drop_eq_getElem_cons hil]
   rfl
  rw [e1] at h0
  exact ⟨cs[i],m,y.2,List.getElem?_eq_getElem hil,h0⟩
theorem rd_lt_of_cell {W:World} {b o:Nat} {v:Value} (h:W.cell? ⟨b,o,none⟩=some v):b<W.heap.size:=by
 rcases Nat.lt_or_ge b W.heap.size with h'|h'
 ·
  exact h'
 ·
  simp [World.cell?,Array.getElem?_eq_none h'] at h
def litS (s:ByteArray):DataW Unit:= .lit (.string s.data.toList)
theorem texts_open {W:World} {base:Nat} {sp:Nat→Bool} {held:Bool} {fuel:Nat} {cs:List Value} {L:List ByteArray} {p:List MemPlace} (hne:0<L.length)
 (hd:DataW.trod (fun _=>()) Tryz.prog W base sp held fuel 38 cs=some (.slice (L.map litS) [],p)):
 ∃ a cap,cs=[.slice a L.length cap]∧StrsL W W.heap.size a L:=by
 obtain ⟨a,cap,hcs,hle,hrow⟩:=open_row Tryz.underlying38 (by kernel_rfl) hd
 have key: ∀ i (h:i<L.length),W.cell? (a.add i)=some (.string L[i]):=by
  intro i hi
  obtain ⟨v,n,q,hv,ht⟩:=hrow i (litS L[i]) (by rw [List.getElem?_map,List.getElem?_eq_getElem hi];rfl)
  unfold litS at ht
  obtain ⟨t,e1,e2,_⟩:=DataW.trod_string Tryz.underlying9 ht
  simp only [Prod.mk.injEq,DataW.lit.injEq,Lit.string.injEq,List.cons.injEq,and_true] at e1 e2
  rw [hv,e1]
  congr 2
  exact ByteArray.ext (Array.toList_inj.mp e2.1.symm)
 obtain ⟨b,off,spot⟩:=a
 have hspot:spot=none:=by
  have:=key 0 hne
  simpa [Addr.add] using World.cell?_spot this
 subst hspot
 have hadd: ∀ k,(⟨b,off,none⟩:Addr).add k=⟨b,off+k,none⟩:=by intro k;unfold Addr.add;split<;>simp_all
 refine ⟨some ⟨b,off,none⟩,cap,by rw [hcs,List.length_map],fun i hi=>⟨b,off,rfl,?_,?_⟩⟩
 ·
  have:=key i hi
  rw [hadd] at this
  exact rd_lt_of_cell this
 ·
  have:=key i hi
  rw [hadd] at this
  exact this
theorem gPow:Tryz.prog.globalNamed "internal/strconv.uint64pow10"=some 8:=by kernel_rfl
theorem tPow:(Tryz.prog.globals[8]?).map (·.type)=some 257:=by kernel_rfl
theorem powData:(Rows.laid_internal_strconv_uint64pow10:DataW Unit)=Lib.tabData .u64 Lib.pow10Tab:=by
 unfold Rows.laid_internal_strconv_uint64pow10 Lib.tabData Lib.pow10Tab
 simp [List.range,List.range.loop]
theorem gRng:Tryz.prog.globalNamed "strconv.ErrRange"=some 6:=by kernel_rfl
theorem tRng:(Tryz.prog.globals[6]?).map (·.type)=some 114:=by kernel_rfl
theorem rdStar:"*"++"errors.errorString"="*errors.errorString":=by decide
theorem rowES (u:TypeId) (h:Tryz.prog.typeName? 3 u=some "*errors.errorString"):u=253:=
 typeName_ptr_named (nm:="errors.errorString") (by rw [rdStar];kernel_rfl) (by kernel_rfl) (by decide) u (by rw [rdStar];exact h)
theorem gMarks:Tryz.prog.globalNamed "postern/read.marks"=some 0:=by kernel_rfl
theorem gWords:Tryz.prog.globalNamed "postern/read.keywords"=some 1:=by kernel_rfl
theorem gLevels:Tryz.prog.globalNamed "postern/read.levels"=some 10:=by kernel_rfl
theorem tMarks:(Tryz.prog.globals[0]?).map (·.type)=some 120:=by kernel_rfl
theorem tWords:(Tryz.prog.globals[1]?).map (·.type)=some 38:=by kernel_rfl
theorem tLevels:(Tryz.prog.globals[10]?).map (·.type)=some 259:=by kernel_rfl
theorem dMarks:(Rows.laid_postern_read_marks:DataW Unit)= .agg (marksR.map fun l=> .lit (.string l)):=rfl
theorem dWords:(Rows.laid_postern_read_keywords:DataW Unit)= .slice (wordsR.map litS) []:=rfl
theorem dLevels:(Rows.laid_postern_read_levels:DataW Unit)= .agg (opsR.map fun L=> .slice (L.map litS) []):=rfl
end Go.Proofs.YtkopjgnjflhkeaaGreatDoor

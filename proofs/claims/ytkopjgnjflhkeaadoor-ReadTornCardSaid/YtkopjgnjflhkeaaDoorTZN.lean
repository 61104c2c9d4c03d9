import Derived.Test.YtkopjgnjflhkeaaDoorTZL
import Derived.Lib.LaidTab
import Derived.ProofKit
import Derived.LaidMore
import Derived.OpenShut
import Derived.Stop.Joined
import Derived.Stop.LaidErr
import Derived.Test.YtkopjgnjflhkeaaDoorRows
namespace Go.Proofs.YtkopjgnjflhkeaaDoor
open Go.ChangeShapes Go.WideShapes Go.ChangeAt Go.RowKit Go.Pst
set_option linter.unusedVariables false
theorem array_open {H:Type} {enc:TypeId × Value→H} {P:Program} {w:World} {base:Nat} {sp:Nat→Bool} {held:Bool} {t e:TypeId} {n fuel:Nat} {cs:List Value} {ds:List (DataW H)} {p:List MemPlace}
 (ht:P.underlying t=some (.array n e)) (hc:P.cellsOf e=1) (hct:P.cellsOf t=n) (h:DataW.trod enc P w base sp held fuel t cs=some (.agg ds,p)):
 ∀ (i:Nat) (d:DataW H),ds[i]?=some d→ ∃ v m q,cs[i]?=some v∧DataW.trod enc P w base sp held m e [v]=some (d,q):=by
 obtain ⟨xs,m,rfl,hx,hcl,hn,hel⟩:=DataW.trod_array ht h
 simp only [Prod.mk.injEq,DataW.agg.injEq] at hx
 intro i d hd
 rw [hx.1,List.getElem?_map] at hd
 cases hy:xs[i]? with
 |none=>simp [hy] at hd
 |some y=>
  have hi:i<n:=by rw [←hn];exact (List.getElem?_eq_some_iff.1 hy).1
  have h0:=hel i hi
  rw [hc,Nat.mul_one,hy] at h0
  rw [hy] at hd
  obtain rfl:y.1=d:=by simpa using hd
  have hil:i<cs.length:=by rw [hcl,hct];exact hi
  have e1:(cs.drop i).take 1=[cs[i]]:=by
   rw [List.drop_eq_getElem_cons hil]
   rfl
  rw [e1] at h0
  exact ⟨cs[i],m,y.2,List.getElem?_eq_getElem hil,h0⟩
theorem rd_lt_of_cell {W:World} {b o:Nat} {v:Value} (h:W.cell? ⟨b,o,none⟩=some v):b<W.heap.size:=by
 rcases Nat.lt_or_ge b W.heap.size with h'|h'
 ·
  exact h'
 ·
  simp [World.cell?,Array.getElem?_eq_none h'] at h
def litS (s:ByteArray):DataW Unit:= .lit (.string s.data.toList)
theorem texts_open {W:World} {base:Nat} {sp:Nat→Bool} {held:Bool} {fuel:Nat} {cs:List Value} {L:List ByteArray} {p:List MemPlace} (hne:0<L.length)
 (hd:DataW.trod (fun _=>()) Tryd.prog W base sp held fuel 37 cs=some (.slice (L.map litS) [],p)):
 ∃ a cap,cs=[.slice a L.length cap]∧StrsL W W.heap.size a L:=by
 obtain ⟨a,cap,hcs,hle,hrow⟩:=open_row Tryd.underlying37 (by kernel_rfl) hd
 have key: ∀ i (h:i<L.length),W.cell? (a.add i)=some (.string L[i]):=by
  intro i hi
  obtain ⟨v,n,q,hv,ht⟩:=hrow i (litS L[i]) (by rw [List.getElem?_map,List.getElem?_eq_getElem hi];rfl)
  unfold litS at ht
  obtain ⟨t,e1,e2,_⟩:=DataW.trod_string Tryd.underlying9 ht
  simp only [Prod.mk.injEq,DataW.lit.injEq,Lit.string.injEq,List.cons.injEq,and_true] at e1 e2
  rw [hv,e1]
  congr 2
  exact ByteArray.ext (Array.toList_inj.mp e2.1.symm)
 obtain ⟨b,off,spot⟩:=a
 have hspot:spot=none:=by
  have:=key 0 hne
  simpa [Addr.add] using World.cell?_spot this
 subst hspot
 have hadd: ∀ k,(⟨b,off,none⟩:Addr).add k=⟨b,off+k,none⟩:=by intro k;unfold Addr.add;split<;>simp_all
 refine ⟨some ⟨b,off,none⟩,cap,by rw [hcs,List.length_map],fun i hi=>⟨b,off,rfl,?_,?_⟩⟩
 ·
  have:=key i hi
  rw [hadd] at this
  exact rd_lt_of_cell this
 ·
  have:=key i hi
  rw [hadd] at this
  exact this
abbrev readTables:List (String × DataW Unit):=[("math/bits.deBruijn32tab",Rows.laid_math_bits_deBruijn32tab),("math/bits.deBruijn64tab",Rows.laid_math_bits_deBruijn64tab),("internal/strconv.uint64pow10",Rows.laid_internal_strconv_uint64pow10),("strconv.ErrRange",Rows.laid_strconv_ErrRange),("strconv.ErrSyntax",Rows.laid_strconv_ErrSyntax),("postern/read.marks",Rows.laid_postern_read_marks),("postern/read.keywords",Rows.laid_postern_read_keywords),("postern/read.levels",Rows.laid_postern_read_levels)]
theorem gPow:Tryd.prog.globalNamed "internal/strconv.uint64pow10"=some 5:=by kernel_rfl
theorem tPow:(Tryd.prog.globals[5]?).map (·.type)=some 128:=by kernel_rfl
theorem powData:(Rows.laid_internal_strconv_uint64pow10:DataW Unit)=Lib.tabData .u64 Lib.pow10Tab:=by
 unfold Rows.laid_internal_strconv_uint64pow10 Lib.tabData Lib.pow10Tab
 simp [List.range,List.range.loop]
theorem gRng:Tryd.prog.globalNamed "strconv.ErrRange"=some 4:=by kernel_rfl
theorem tRng:(Tryd.prog.globals[4]?).map (·.type)=some 62:=by kernel_rfl
theorem rdStar:"*"++"errors.errorString"="*errors.errorString":=by decide
theorem rowES (u:TypeId) (h:Tryd.prog.typeName? 3 u=some "*errors.errorString"):u=124:=
 typeName_ptr_named (nm:="errors.errorString") (by rw [rdStar];kernel_rfl) (by kernel_rfl) (by decide) u (by rw [rdStar];exact h)
theorem gMarks:Tryd.prog.globalNamed "postern/read.marks"=some 0:=by kernel_rfl
theorem gWords:Tryd.prog.globalNamed "postern/read.keywords"=some 2:=by kernel_rfl
theorem gLevels:Tryd.prog.globalNamed "postern/read.levels"=some 6:=by kernel_rfl
theorem tMarks:(Tryd.prog.globals[0]?).map (·.type)=some 68:=by kernel_rfl
theorem tWords:(Tryd.prog.globals[2]?).map (·.type)=some 37:=by kernel_rfl
theorem tLevels:(Tryd.prog.globals[6]?).map (·.type)=some 131:=by kernel_rfl
theorem dMarks:(Rows.laid_postern_read_marks:DataW Unit)= .agg (marksR.map fun l=> .lit (.string l)):=rfl
theorem dWords:(Rows.laid_postern_read_keywords:DataW Unit)= .slice (wordsR.map litS) []:=rfl
theorem dLevels:(Rows.laid_postern_read_levels:DataW Unit)= .agg (opsR.map fun L=> .slice (L.map litS) []):=rfl
set_option maxRecDepth 100000 in
theorem readLaid_of {W:World} (h:laidMetH Tryd.prog readTables W):ReadLaid W:=by
 rw [MakeChecks.laidMetH_plain _ _ _ (by kernel_rfl)] at h
 have h3:=h.tail.tail
 have h4:=h3.tail
 have h6:=h4.tail.tail
 clear h
 rw [powData] at h3
 have ht:=Lib.tabIs_of_head gPow tPow Tryd.underlying128 Tryd.underlying105 (by kernel_rfl) (by kernel_rfl) h3
 clear h3
 have he:ErrOK W:=by
  obtain ⟨a0,s0,hv0,-,-,-⟩:=laid_sentinel h4 gRng tRng Tryd.underlying62 rowES Tryd.underlying124 Tryd.underlying126 rfl rfl Tryd.underlying9 (by kernel_rfl) (by kernel_rfl)
  have hc:=World.var?_cell gRng hv0 0
  exact ⟨⟨_,by simpa using hc,Or.inr ⟨_,_,rfl⟩⟩,rd_lt_of_cell hc⟩
 clear h4
 obtain ⟨ps,⟨g0,t0,cs0,f0,p0,q0,hg0,ht0,hv0,hd0,⟨g1,t1,cs1,f1,p1,q1,hg1,ht1,hv1,hd1,⟨g2,t2,cs2,f2,p2,q2,hg2,ht2,hv2,hd2,_,_⟩,_⟩,_⟩,_,_⟩:=h6
 obtain rfl:=Option.some.inj (gMarks.symm.trans hg0)
 obtain rfl:=Option.some.inj (gWords.symm.trans hg1)
 obtain rfl:=Option.some.inj (gLevels.symm.trans hg2)
 obtain rfl:=Option.some.inj (tMarks.symm.trans ht0)
 obtain rfl:=Option.some.inj (tWords.symm.trans ht1)
 obtain rfl:=Option.some.inj (tLevels.symm.trans ht2)
 simp only [dMarks] at hd0
 simp only [dWords] at hd1
 simp only [dLevels] at hd2
 have marks: ∀ k (h:k<marksR.length),W.cell? ⟨0,k,none⟩=some (.string ⟨marksR[k].toArray⟩):=by
  intro k hk
  obtain ⟨v,m,q,hv,hd⟩:=array_open Tryd.underlying68 (by kernel_rfl) (by kernel_rfl) hd0 k (.lit (.string marksR[k])) (by rw [List.getElem?_map,List.getElem?_eq_getElem hk];rfl)
  obtain ⟨t,e1,e2,_⟩:=DataW.trod_string Tryd.underlying9 hd
  simp only [Prod.mk.injEq,DataW.lit.injEq,Lit.string.injEq,List.cons.injEq,and_true] at e1 e2
  rw [World.var?_cell gMarks hv0 k,←Array.getElem?_toList,hv,e1]
  congr 2
  rw [e2.1]
 have words: ∃ a cap,W.cell? ⟨2,0,none⟩=some (.slice a 22 cap)∧StrsL W W.heap.size a wordsR:=by
  obtain ⟨a,cap,hcs,hs⟩:=texts_open (L:=wordsR) (by decide) hd1
  refine ⟨a,cap,?_,hs⟩
  rw [World.var?_cell gWords hv1 0,←Array.getElem?_toList,hcs]
  rfl
 have levels: ∀ n (h:n<opsR.length),∃ a cap,W.cell? ⟨6,n,none⟩=some (.slice a opsR[n].length cap)∧StrsL W W.heap.size a opsR[n]:=by
  intro n hn
  obtain ⟨v,m,q,hv,hd⟩:=array_open Tryd.underlying131 (by kernel_rfl) (by kernel_rfl) hd2 n (.slice (opsR[n].map litS) []) (by rw [List.getElem?_map,List.getElem?_eq_getElem hn];rfl)
  have hne:0<opsR[n].length:=(show ∀ L∈opsR,0<L.length by decide) _ (List.getElem_mem hn)
  obtain ⟨a,cap,hcs,hs⟩:=texts_open hne hd
  obtain rfl:=List.cons.inj hcs |>.1
  exact ⟨a,cap,by rw [World.var?_cell gLevels hv2 n,←Array.getElem?_toList,hv],hs⟩
 have hw:2<W.heap.size:=by obtain ⟨a,cap,h,_⟩:=words;exact rd_lt_of_cell h
 have hl:6<W.heap.size:=by obtain ⟨a,cap,h,_⟩:=levels 0 (by decide);exact rd_lt_of_cell h
 exact ⟨⟨⟨Nat.le_refl _,Nat.le_refl _⟩,⟨rd_lt_of_cell (marks 0 (by decide)),hw,hl⟩,words,marks,levels⟩,⟨ht,rd_lt_of_cell (ht.cell gPow 0 (by rw [Lib.pow10Tab_length];decide))⟩,he⟩
theorem read_door_met (os:Os) (args:Array Value):laidMetH Tryd.prog readTables ((World.doorLaid Tryd.prog 400 os).forCall (fun _ _=>0) ⟨#[],args,[]⟩).memory:=
 laidMetH_of_parts3 (fuel:=8) (laidMet_of_run' 8 (by kernel_rfl) (by kernel_rfl)) (by kernel_rfl) (by kernel_rfl)
end Go.Proofs.YtkopjgnjflhkeaaDoor

import Derived.Test.YtkopjgnjflhkeaaDoorTH
import Derived.Test.YtkopjgnjflhkeaaDoorTO
namespace Go.Proofs.YtkopjgnjflhkeaaDoor
open Go.RowKit Go.Pst
set_option linter.unusedVariables false
set_option linter.unusedSimpArgs false
def needleL:ByteArray:=⟨#[10,125,10,102,117,110,99,32,102]⟩
set_option maxRecDepth 100000 in
set_option maxHeartbeats 8000000 in
theorem readTorn_any (l:List PRaw) (v:Value) (n:Int) (w:World) (h:rRaws (fun _=>True) w [v] l) (hn:InI n) (hL:ReadLaid w) {mx:Int} (hM:w.cell? ⟨1,0,none⟩=some (.int .i64 mx)) (hMl:1<w.heap.size)
 (hz:(sourceB l).size≤1000000) (E:Nat) (hE:0<E) (hEs:E≤(sourceB l).size) (hI:Lib.index (sourceB l).data.toList needleL.data.toList=(E:Int)) (hbad: ∀ k,1≤k→k≤E→ ∃ q,readR ((sourceB l).data.toList.take k)= .error q):
 Calls Tryd.prog 5 #[v, .int .i64 n] w fun e w'=>e= .returned (.bool true)∧Below w.heap.size w w':=by
 have hsrc:=source_any l v w h hL.tab
 obtain ⟨src,hs⟩: ∃ src,src=sourceB l:=⟨_,rfl⟩
 rw [←hs] at hsrc hz hEs hI hbad
 have hEI:(0:Int)<(E:Int):=by omega
 have hp:= @pickF_in n (E:Int) hEI
 obtain ⟨q,hq⟩: ∃ q:Nat,pickF n (E:Int)=(q:Int):=⟨(pickF n (E:Int)).toNat,by omega⟩
 have hqE:q<E:=by omega
 obtain ⟨⟨qp,qe⟩,hb⟩:=hbad (1+q) (by omega) (by omega)
 have hx:(src.extract 0 (1+q)).data.toList=src.data.toList.take (1+q):=by
  rw [ByteArray.data_extract,Array.toList_extract,List.extract_eq_take_drop]
  simp
 have hxz:(src.extract 0 (1+q)).size≤4294967296:=by
  have:(src.extract 0 (1+q)).size=(src.data.toList.take (1+q)).length:=by rw [←hx];exact Array.length_toList.symm
  rw [this,List.length_take]
  omega
 rw [←hx] at hb
 have hq1:(q:Int)+1≤(src.size:Int):=by omega
 have hsz:(src.size:Int)≤1000000:=by omega
 have Hsrc:=zh hsrc
 have HI:=zh hI
 have Hq:=zh hq
 have Hb:=zh hb
 have HL:=zh hL
 have HM:=zh hM
 clear hsrc hI hq hb hL hM hs h hbad hp hx
 go_enter Tryd.func5,Tryd.ntmps5
 go_wp2_with fail
 refine Hsrc.out.mono ?_
 rintro e w1 ⟨rfl,hs1⟩
 have hz1:=hs1.size
 have hm1:w1.cell? ⟨1,0,none⟩=some (.int .i64 mx):=(hs1.cell hMl (fun f=>f)).trans HM.out
 go_wp2_with fail
 refine (Tryd.strings_Index src needleL mx w1 (by omega) hm1).mono ?_
 rintro e w2 ⟨rfl,rfl⟩
 rw [HI.out]
 go_wp2_with fail
 refine (picked_any n (E:Int) _ hn hEI (by unfold InI;omega)).mono ?_
 rintro e w2 ⟨rfl,rfl⟩
 rw [Hq.out]
 go_wp2_with fail
 refine (read_any (src.extract 0 (1+q)) (by omega) _ (HL.out.later hs1)).mono ?_
 rintro en w4 ⟨v4,p,x,rfl,hs4,hres⟩
 rw [Hb.out] at hres
 obtain ⟨rfl,rfl,rfl,hne⟩:=hres
 have hx0:(x !=0)=true:=by simpa using hne
 have hE0:decide ((0:Int)<(E:Int))=true:=by simpa using hEI
 go_wp2_with fail
 go_ret
 exact ⟨rfl,(hs1.trans hs4).below (Nat.le_refl _) (fun k f=>f.elim)⟩
end Go.Proofs.YtkopjgnjflhkeaaDoor

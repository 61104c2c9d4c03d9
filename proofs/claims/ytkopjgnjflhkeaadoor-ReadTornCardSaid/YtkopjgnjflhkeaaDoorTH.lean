import Derived.Test.YtkopjgnjflhkeaaDoorTA
import Derived.Test.YtkopjgnjflhkeaaDoorProg
import Derived.Test.YtkopjgnjflhkeaaDoorTZL
namespace Go.Proofs.YtkopjgnjflhkeaaDoor
open Go.RowKit Go.Pst
set_option linter.unusedVariables false
set_option linter.unusedSimpArgs false
def pickF (n many:Int):Int:=if n<0 then (-(n+1)).tmod many else n.tmod many
theorem pickF_in {n many:Int} (h:0<many):0≤pickF n many∧pickF n many<many:=by
 unfold pickF
 split
 ·
  exact ⟨Int.tmod_nonneg _ (by omega),Int.tmod_lt_of_pos _ h⟩
 ·
  exact ⟨Int.tmod_nonneg _ (by omega),Int.tmod_lt_of_pos _ h⟩
theorem picked_any (n many:Int) (w:World) (hn:InI n) (hm:0<many) (hm':InI many):
 Calls Tryd.prog 7 #[.int .i64 n, .int .i64 many] w fun e w'=>e= .returned (.int .i64 (pickF n many))∧w=w':=by
 obtain ⟨h1,h2⟩:=hn
 obtain ⟨h3,h4⟩:=hm'
 have hne:(many==0)=false:=by simp;omega
 by_cases h0:n<0
 ·
  have H:=zh (show pickF n many=(-(n+1)).tmod many by unfold pickF;rw [if_pos h0])
  go_enter Tryd.func7,Tryd.ntmps7
  go_wp2_with fail
  go_ret
  rw [H.out,Int.neg_tmod]
  exact ⟨rfl,rfl⟩
 ·
  have H:=zh (show pickF n many=n.tmod many by unfold pickF;rw [if_neg h0])
  go_enter Tryd.func7,Tryd.ntmps7
  go_wp2_with fail
  go_ret
  rw [H.out,Int.tmod_eq_emod_of_nonneg (by omega)]
  exact ⟨rfl,rfl⟩
end Go.Proofs.YtkopjgnjflhkeaaDoor
namespace Go.Proofs.YtkopjgnjflhkeaaDoor
open Go.RowKit Go.Pst
set_option linter.unusedVariables false
theorem RdLaid.up {w:World} {base br base' br':Nat} (h:RdLaid w base br) (h1:base≤base') (h2:base'≤br') (h3:base'≤w.heap.size):RdLaid w base' br':=by
 have hl:=h.lt
 refine ⟨⟨h2,h3⟩,⟨by omega,by omega,by omega⟩,?_,h.marks,fun n hn=>?_⟩
 ·
  obtain ⟨a,cap,e1,e2⟩:=h.words
  exact ⟨a,cap,e1,fun i hi=>by obtain ⟨b,off,e,hb,hc⟩:=e2 i hi;exact ⟨b,off,e,by omega,hc⟩⟩
 ·
  obtain ⟨a,cap,e1,e2⟩:=h.levels n hn
  exact ⟨a,cap,e1,fun i hi=>by obtain ⟨b,off,e,hb,hc⟩:=e2 i hi;exact ⟨b,off,e,by omega,hc⟩⟩
theorem ReadLaid.later {w w':World} (h:ReadLaid w) (hs:Since (fun _=>False) w w'):ReadLaid w':=
 ⟨(h.rd.since hs (fun _ f=>f.elim)).up hs.size (Nat.le_refl _) (Nat.le_refl _),h.tab.since hs (fun f=>f),h.err.since hs (fun f=>f)⟩
end Go.Proofs.YtkopjgnjflhkeaaDoor

import Derived.Test.YtkopjgnjflhkeaaGreatDoorQA
import Derived.Test.YtkopjgnjflhkeaaGreatDoorQB
import Derived.Test.YtkopjgnjflhkeaaGreatDoorProg
import Derived.Lib.ConvBytes
import Derived.Test.YtkopjgnjflhkeaaGreatDoorQH
import Derived.Deep.QuietTactic
import Derived.BigQuiet
import Derived.RangeFuncFrom
import Derived.RangeFuncNested
import Derived.RangeFuncBound
import Derived.RangeFuncCalls
import Derived.RangeFuncLeaves
import Derived.Shelf.Abstract
import Derived.WalkKit
import Derived.OwnWalkIn
import Derived.TacticsInMore
import Derived.LoopNIn
import Derived.LoopIn
namespace Go.Proofs.YtkopjgnjflhkeaaGreatDoor
open Go.RowKit Go.Pst
set_option linter.unusedVariables false
set_option linter.unusedSimpArgs false
def MapK (w:World) (b:Nat) (ws:List ByteArray):Prop:= ∃ m:IMap ByteArray,MapI w b m∧ ∀ y,lookI m y=if (ws.any fun x=>decide (x=y))=true then some (.bool true) else none
theorem MapK.made (w:World):MapK (w.alloc (.map #[] 0)) w.heap.size []:=⟨[],MapI.made ByteArray w,fun y=>by simp [lookI]⟩
theorem wpList_insertK {P:Program} {w:World} {b:Nat} {kt et:TypeId} {ops:Array Oper} {rest:List Oper} {o:Oper} {a:Act} {Q:Exit→Act→World→Prop}
 (hg:o.guard=none) (mo xo vo:Operand) (t:TypeId) (hop:o.op=Op.insert t mo xo vo) (ht:P.underlying t=some (.map kt et)) (hk:P.underlying kt=some .string)
 (ws:List ByteArray) (hm:a.eval mo= .map (some b)) (h:MapK w b ws) (x:ByteArray) (hx:a.eval xo= .string x) (hv:a.eval vo= .bool true)
 (hK: ∀ w',MapK w' b (x::ws)→w.grownBy w' (some b)→wpList P ops Q rest (a.put o.dst undef) w'):wpList P ops Q (o::rest) a w:=by
 obtain ⟨m,h1,h2⟩:=h
 refine wpList_insertI (κ:=ByteArray) hg mo xo vo t hop ht hk b m hm h1 x (.bool true) hx hv (fun w' h3 hgr=>hK w' ⟨_,h3,fun y=>?_⟩ hgr)
 by_cases e:x=y
 ·
  subst e
  rw [lookI_put_same]
  simp
 ·
  have e':decide (x=y)=false:=decide_eq_false e
  rw [lookI_put_other _ _ e,h2,List.any_cons,e',Bool.false_or]
def wordsB:List ByteArray:=wordsT.map fun l=>⟨l.toArray⟩
theorem any_wordsB (y:ByteArray):(wordsB.any fun x=>decide (x=y))=wordsT.contains y.toList:=by
 unfold wordsB
 rw [List.any_map,List.contains_eq_any_beq]
 congr 1
 funext l
 show decide ((⟨l.toArray⟩:ByteArray)=y)=(y.toList==l)
 by_cases e:(⟨l.toArray⟩:ByteArray)=y
 ·
  subst e
  simp [ByteArray.toList_mk]
 ·
  have: ¬y.toList=l:=fun h=>e (by rw [←h,ByteArray.toList_eq])
  simp [e,this]
set_option maxRecDepth 10000 in
set_option maxHeartbeats 4000000 in
theorem typedKeywords_any (w:World):
 Calls Tryz.prog 79 #[] w fun e w'=>e= .returned (.map (some w.heap.size))∧(∃ m:IMap ByteArray,MapI w' w.heap.size m∧ ∀ y,lookI m y=if wordsT.contains y.toList=true then some (.bool true) else none)∧Below w.heap.size w w':=by
 have hmk:= @run_makeMap Tryz.prog
 have hm:=MapK.made w
 have hb:Below w.heap.size w (w.alloc (.map #[] 0)):=(Below.refl _ _).alloc (Nat.le_refl _) _
 have hlt:w.heap.size<(w.alloc (.map #[] 0)).heap.size:=by simp
 go_enter Tryz.func79,Tryz.ntmps79
 go_wp2_with (first|(refine wpList_insertK rfl _ _ _ 131 rfl Tryz.underlying131 Tryz.underlying9 _ rfl hm _ rfl rfl ?_;clear hm;intro w1 hm hgr;replace hb:=hb.grown hgr (Nat.le_of_lt hlt) (fun k hk=>by cases hk;exact Nat.le_refl _);replace hlt:=Nat.lt_of_lt_of_le hlt hgr.size;clear hgr))
 go_ret
 obtain ⟨m,h1,h2⟩:=hm
 refine ⟨rfl,⟨m,h1,fun y=>?_⟩,hb⟩
 rw [h2 y,←any_wordsB y,←List.any_reverse]
 rfl
def oddB (c:UInt8):Bool:= !(smallB c||digitB c)
theorem typedName1_any (c:UInt8) (w:World):
 Calls Tryz.prog 81 #[.int .u8 c.toNat] w fun e w'=>e= .returned (.bool (oddB c))∧w=w':=by
 have h255:c.toNat<256:=c.toNat_lt
 go_enter Tryz.func81,Tryz.ntmps81
 go_wp2_with fail
 all_goals go_ret
 all_goals refine ⟨?_,rfl⟩
 all_goals congr 2
 all_goals unfold oddB smallB digitB
 all_goals
  show Value.bool _=Value.bool _
  congr 1
  rw [Bool.eq_iff_iff]
  simp only [Bool.not_eq_true',Bool.or_eq_false_iff,Bool.and_eq_false_iff,Bool.and_eq_true,Bool.or_eq_true,decide_eq_true_eq,decide_eq_false_iff_not,iff_true,true_iff,false_iff,iff_false,Bool.false_eq_true] at *
  omega
theorem indexBytes_any (b:Nat) (l:List UInt8) (n cap:Nat) (w:World) (hn:n=l.length) (hl:n≤9223372036854775807) (hat: ∀ i (h:i<l.length),w.cell? ⟨b,i,none⟩=some (.int .u8 l[i].toNat)):
 Calls Tryz.prog 135 #[.slice (some ⟨b,0,none⟩) n cap, .func (.func 81) #[] #[]] w fun e w'=>(∃ k:Int,e= .returned (.int .i64 k)∧decide (0≤k)=l.any oddB)∧w=w':=by
 have Hat:=zh hat
 clear hat
 go_enter Tryz.func135,Tryz.ntmps135
 go_wp2_with fail
 go_loop [8] (fun i=> ∃ k:Nat,k≤l.length∧i= .int .i64 k∧(l.take k).any oddB=false) (fun i=>l.length - (intOf i).toNat)
 case atStart=>exact ⟨0,Nat.zero_le _,rfl,by simp⟩
 case round=>
  obtain ⟨k,hk,rfl,hf⟩:=hrel
  have Hf:=zh hf
  have Hn:=zh hn
  clear hf
  by_cases hlt:k<l.length
  ·
   have hlt1:(k:Int)<(n:Int):=by omega
   have hk0:(0:Int)≤k:=by omega
   have hc:=Hat.out k hlt
   have Ht:=zh (show (l.take (k+1)).any oddB=oddB l[k] by rw [List.take_succ_eq_append_getElem hlt,List.any_append,Hf.out];simp)
   have Hm:=zh (List.getElem_mem hlt)
   have hwk:IntKind.i64.wrap ((k:Int)+1)=(k:Int)+1:=IntWalk.i64_in _ (by omega)
   clear hn
   generalize l[k]=c at *
   cases ho:oddB c with
   |false=>
    go_wp2_with (first|(go_at_call 81;refine (typedName1_any c _).mono ?_;rintro e w' ⟨rfl,rfl⟩;rw [ho]))
    exact ⟨⟨k+1,by omega,by simp,by rw [Ht.out,ho]⟩,by simp only [intOf];omega⟩
   |true=>
    go_wp2_with (first|(go_at_call 81;refine (typedName1_any c _).mono ?_;rintro e w' ⟨rfl,rfl⟩;rw [ho]))
    go_ret
    refine ⟨⟨_,rfl,?_⟩,rfl⟩
    rw [List.any_eq_true.2 ⟨c,Hm.out,ho⟩]
    simp
  ·
   have hke:k=l.length:=by omega
   have hlt1: ¬((k:Int)<(n:Int)):=by omega
   clear hn
   go_wp2_with fail
   go_ret
   refine ⟨⟨_,rfl,?_⟩,rfl⟩
   have:=Hf.out
   rw [hke,List.take_length] at this
   rw [this]
   rfl
theorem containsBytes_any (b:Nat) (l:List UInt8) (n cap:Nat) (w:World) (hn:n=l.length) (hl:n≤9223372036854775807) (hat: ∀ i (h:i<l.length),w.cell? ⟨b,i,none⟩=some (.int .u8 l[i].toNat)):
 Calls Tryz.prog 80 #[.slice (some ⟨b,0,none⟩) n cap, .func (.func 81) #[] #[]] w fun e w'=>e= .returned (.bool (l.any oddB))∧w=w':=by
 have hc:=indexBytes_any b l n cap w hn hl hat
 have Hc:=zh hc
 clear hc hn hat
 go_enter Tryz.func80,Tryz.ntmps80
 go_wp2_with fail
 refine Hc.out.mono ?_
 rintro e w1 ⟨⟨k,rfl,hk⟩,rfl⟩
 go_wp2_with fail
 go_ret
 exact ⟨by rw [←hk];rfl,rfl⟩
theorem zero_bool (w:World):(zeroValue 4).run Tryz.prog w= .ok (.bool false) w:=by kernel_rfl
theorem nameB_no {l:List UInt8} {c:UInt8} {r:List UInt8} (h:l=c::r) (hc:smallB c=false):nameB l=false:=by
 subst h
 unfold nameB
 simp only [hc,Bool.and_false,Bool.false_and]
theorem nameB_yes {l:List UInt8} {c:UInt8} {r:List UInt8} (h1:1≤l.length) (h2:l.length≤12) (hk:wordsT.contains l=false) (h:l=c::r) (hc:smallB c=true):nameB l= !(l.any oddB):=by
 unfold nameB
 rw [decide_eq_true h1,decide_eq_true h2,hk]
 subst h
 simp only [hc,Bool.and_true,Bool.true_and,Bool.not_false,←List.all_eq_not_any_not] at *
 rw [List.not_any_eq_all_not]
 congr 1
 funext x
 unfold oddB
 simp
theorem bytesWorld_below (w:World) (e:TypeId) (s:ByteArray):Below w.heap.size w (Lib.bytesWorld w e s):=
 ⟨rfl,rfl,rfl,by rw [Lib.bytesWorld_size];omega,fun k hk=>Lib.bytesWorld_at_old w e s k hk⟩
set_option maxRecDepth 10000 in
set_option maxHeartbeats 1000000 in
theorem typedName_any (s:ByteArray) (w:World) (hs:s.size≤maxLen):
 Calls Tryz.prog 31 #[.string s] w fun e w'=>e= .returned (.bool (nameB s.toList))∧Below w.heap.size w w':=by
 have hl:s.toList.length=s.size:=by rw [ByteArray.toList_eq];simp
 by_cases h0:s.size=0
 ·
  have hz:s.toList.isEmpty=true:=by rw [List.isEmpty_iff];exact List.eq_nil_of_length_eq_zero (by omega)
  have hr:nameB s.toList=false:=by unfold nameB;rw [decide_eq_false (by omega: ¬1≤s.toList.length)];simp
  have Hr:=zh hr
  clear hr
  go_enter Tryz.func31,Tryz.ntmps31
  go_wp2_with fail
  go_ret
  exact ⟨by rw [Hr.out];rfl,Below.refl _ _⟩
 have hz:s.toList.isEmpty=false:=by
  cases hh:s.toList.isEmpty with
  |false=>rfl
  |true=>rw [List.isEmpty_iff] at hh;rw [hh] at hl;simp at hl;omega
 by_cases h12:12<s.size
 ·
  have d1:decide ((s.size:Int) > 12)=true:=decide_eq_true (by omega)
  have hr:nameB s.toList=false:=by unfold nameB;rw [decide_eq_false (by omega: ¬s.toList.length≤12)];simp
  have Hr:=zh hr
  clear hr
  go_enter Tryz.func31,Tryz.ntmps31
  go_wp2_with fail
  go_ret
  exact ⟨by rw [Hr.out];rfl,Below.refl _ _⟩
 have d1:decide ((s.size:Int) > 12)=false:=decide_eq_false (by omega)
 obtain ⟨c,r,hcr⟩: ∃ c r,s.toList=c::r:=by
  cases hh:s.toList with
  |nil=>rw [hh] at hl;simp at hl;omega
  |cons c r=>exact ⟨c,r,rfl⟩
 cases hk:wordsT.contains s.toList with
 |true=>
  have hr:nameB s.toList=false:=by unfold nameB;rw [hk];simp
  have Hr:=zh hr
  clear hr hcr
  go_enter Tryz.func31,Tryz.ntmps31
  go_wp2_with (first|(go_at_call 79;refine (typedKeywords_any _).mono ?_;rintro e w1 ⟨rfl,⟨m,hm,hlook⟩,hb⟩;have hlk:(lookI m s).getD (.bool false)= .bool true:=(by simp only [hlook,hk,if_true,Option.getD_some]);clear hlook;have hrun:(Instr.lookup 131 (.map (some w.heap.size)) (.string s) false).run Tryz.prog w1= .ok (.bool true) w1:=(hm.lookup (κ:=ByteArray) Tryz.underlying131 Tryz.underlying9 (zero_bool w1) s false).trans (by simp only [Bool.false_eq_true,if_false,hlk]);have Hb:=zh hb;clear hb hm hlk))
  go_ret
  exact ⟨by rw [Hr.out];rfl,Hb.out⟩
 |false=>
  have Hdl:=zh (show s.size=s.data.toList.length by simp)
  have Hs0:=zh (show ∀ h:0<s.size,s[0]=c from fun h=>by
   have h1:s.data.toList[0]?=some c:=by rw [←ByteArray.toList_eq,hcr];rfl
   have h2:s.data.toList[0]?=some s[0]:=by
    rw [List.getElem?_eq_getElem (by simpa using h)]
    rfl
   rw [h1] at h2
   exact (Option.some.inj h2).symm)
  obtain ⟨bb,hbb⟩: ∃ bb,bb=s.data.toList.any oddB:=⟨_,rfl⟩
  have Hbb:=zh hbb
  have Hl:=zh hl
  have Hk:=zh hk
  have Hcr:=zh hcr
  clear hl hcr hbb
  go_enter Tryz.func31,Tryz.ntmps31
  go_wp2_with (first|(go_at_call 79;refine (typedKeywords_any _).mono ?_;rintro e w1 ⟨rfl,⟨m,hm,hlook⟩,hb⟩;have hlk:(lookI m s).getD (.bool false)= .bool false:=(by simp only [hlook,hk,Bool.false_eq_true,if_false,Option.getD_none]);clear hlook;have hrun:(Instr.lookup 131 (.map (some w.heap.size)) (.string s) false).run Tryz.prog w1= .ok (.bool false) w1:=(hm.lookup (κ:=ByteArray) Tryz.underlying131 Tryz.underlying9 (zero_bool w1) s false).trans (by simp only [Bool.false_eq_true,if_false,hlk]);have Hb:=zh hb;have hconv:=Lib.run_convert_string_bytes (P:=Tryz.prog) w1 9 134 5 s Tryz.underlying9 Tryz.underlying134 Tryz.underlying5;have Hcb:=zh (containsBytes_any w1.heap.size s.data.toList s.size (grownCap w1 s.size 0 5) (Lib.bytesWorld w1 5 s) Hdl.out (by unfold maxLen at hs;omega) (fun i hi=>(by rw [Lib.bytesWorld_cell w1 5 s i (by have:=Hdl.out;omega),List.getD_eq_getElem?_getD,List.getElem?_eq_getElem hi];rfl)));rw [←Hbb.out] at Hcb;clear hb hm hlk)|(go_at_call 80;refine Hcb.out.mono ?_;rintro e w2 ⟨rfl,rfl⟩))
  all_goals go_ret
  ·
   rename_i z0 z1 z2
   rw [Hs0.out z0] at z1 z2
   refine ⟨?_,Hb.out⟩
   rw [nameB_no Hcr.out (by unfold smallB;simp only [Bool.and_eq_false_iff,decide_eq_false_iff_not];omega)]
   rfl
  ·
   rename_i z0 z1 z2
   rw [Hs0.out z0] at z1 z2
   refine ⟨?_,Hb.out.trans ((bytesWorld_below w1 5 s).mono Hb.out.size)⟩
   rw [nameB_yes (by rw [Hl.out];omega) (by rw [Hl.out];omega) Hk.out Hcr.out (by unfold smallB;simp only [Bool.and_eq_true,decide_eq_true_eq];omega),ByteArray.toList_eq,←Hbb.out]
   rfl
  ·
   rename_i z0 z1
   rw [Hs0.out z0] at z1
   refine ⟨?_,Hb.out⟩
   rw [nameB_no Hcr.out (by unfold smallB;simp only [Bool.and_eq_false_iff,decide_eq_false_iff_not];omega)]
   rfl
end Go.Proofs.YtkopjgnjflhkeaaGreatDoor
namespace Go.Proofs.YtkopjgnjflhkeaaGreatDoor
open Go.RowKit Go.Pst
set_option linter.unusedVariables false
set_option linter.unusedSimpArgs false
def DeclPost (st:Chk) (s:ByteArray) (t:Int) (st':Chk):Prop:=
 (∃ g',st'.G=g'::st.G.tail)∧st'.loops=st.loops∧st'.depth=st.depth∧(st.fault≠0→st'.fault=st.fault)∧
 (st.fault=0→match declT st.G s t with| .ok G'=>st'.fault=0∧st'.G=G'| .error e=>st'.fault=e)
theorem declT_form {g:Scope} {r:List Scope} {s:ByteArray} {t:Int} (h:nameB s.toList=false):declT (g::r) s t= .error 4:=by simp [declT,h]
theorem declT_twice {g:Scope} {r:List Scope} {s:ByteArray} {t u:Int} (h:nameB s.toList=true) (h1:lookT g s=some u):declT (g::r) s t= .error 7:=by simp [declT,h,h1]
theorem declT_type {g:Scope} {r:List Scope} {s:ByteArray} {t:Int} (h:nameB s.toList=true) (h1:lookT g s=none) (h2: ¬(1≤t∧t≤5)):declT (g::r) s t= .error 9:=by
 unfold declT
 simp only [h,h1,h2,Bool.true_eq_false,if_false,Option.isSome_none,Bool.false_eq_true,not_false_eq_true,if_true]
theorem declT_ok {g:Scope} {r:List Scope} {s:ByteArray} {t:Int} (h:nameB s.toList=true) (h1:lookT g s=none) (h2:1≤t∧t≤5):declT (g::r) s t= .ok ((g++[(s,t)])::r):=by
 unfold declT
 simp only [h,h1,h2,Bool.true_eq_false,if_false,Option.isSome_none,Bool.false_eq_true,not_true_eq_false,and_self]
theorem zero_int (w:World):(zeroValue 3).run Tryz.prog w= .ok (.int .i64 0) w:=by kernel_rfl
set_option maxHeartbeats 2000000 in
theorem typedDeclare_any (w:World) (base bc:Nat) (vf:Value) (cf:List Value) (vS:Value) (bs:List Nat) (st:Chk) (h:ChkAt w base bc vf cf vS bs st) (g:Scope) (r:List Scope) (hG:st.G=g::r) (hl:r.length≤100000) (s:ByteArray) (hs:s.size≤maxLen) (t:Int):
 Calls Tryz.prog 85 #[.pointer (some ⟨bc,0,none⟩), .string s, .int .i64 t] w fun en w'=>en= .returned (.tuple #[])∧ ∃ st',ChkAt w' base bc vf cf vS bs st'∧Since (ChkM bc vS bs) w w'∧DeclPost st s t st':=by
 have hmaps:=h.maps
 rw [hG] at hmaps
 cases bs with
 |nil=>exact hmaps.elim
 |cons b bs'=>
 obtain ⟨⟨hb1,hb2,m,hm,hsc⟩,-⟩:=hmaps
 have hrow:=h.row
 rw [hG] at hrow
 have hlenr:bs'.length=r.length:=by have:=h.maps.len;rw [hG] at this;simpa using this
 obtain ⟨gS,cap,rfl,-,-,hgl,hgc,-⟩:=rowGet hrow (i:=r.length) (u:= .map (some b)) (by
  show (mapRow bs'++[_])[r.length]?=_
  rw [List.getElem?_append_right (by rw [mapRow_length];omega),mapRow_length,hlenr,Nat.sub_self]
  rfl)
 have c5:=h.c5
 have hlt:=h.lb.2
 have H:=zh h
 have HG:=zh hG
 have Hsc:=zh hsc
 have Hm:=zh hm
 obtain ⟨m1,hm1⟩: ∃ m1,m1=r.length+1:=⟨_,rfl⟩
 have hw0:IntKind.i64.wrap ((m1:Int) - 1)=(r.length:Int):=by rw [show ((m1:Nat):Int) - 1=r.length by omega];exact IntWalk.i64_in _ (by omega)
 have hj0:(0:Int)≤(r.length:Int):=by omega
 have hj1:(r.length:Int)<(m1:Int):=by omega
 simp only [List.length_cons] at c5
 rw [←hm1] at c5
 have Hname:=zh (fun w'=>typedName_any s w' hs)
 have hlk:=fun n=>hm.heap (w':=w.drewN n) rfl |>.lookup (κ:=ByteArray) Tryz.underlying153 Tryz.underlying9 (zero_int _) s true
 have hlk': ∀ n,(Instr.lookup 153 (.map (some b)) (.string s) true).run Tryz.prog (w.drewN n)= .ok (.tuple #[.int .i64 ((lookT g s).getD 0), .bool (lookT g s).isSome]) (w.drewN n):=fun n=>by
  refine (hlk n).trans ?_
  rw [if_pos rfl,hsc s]
  cases lookT g s<;>rfl
 have Hput:=zh (show ∀ (W W':World) (st1:Chk),ChkAt W base bc vf cf (.slice (some ⟨gS,0,none⟩) m1 cap) (b::bs') st1→st1.G=g::r→W.grownBy W' (some b)→MapI W' b (putI m s (.int .i64 t))→ ∃ g',ChkAt W' base bc vf cf (.slice (some ⟨gS,0,none⟩) m1 cap) (b::bs') {st1 with G:=g'::r}∧Since (ChkM bc (.slice (some ⟨gS,0,none⟩) m1 cap) (b::bs')) W W'∧(lookT g s=none→g'=g++[(s,t)]) from fun W W' st1 h1 h2 h3 h4=>by
  cases hh:lookT g s with
  |none=>exact ⟨_,(h1.put rfl h2 h3 h4 (hsc.put s t hh)).1,(h1.put rfl h2 h3 h4 (hsc.put s t hh)).2,fun _=>rfl⟩
  |some u=>exact ⟨_,(h1.put rfl h2 h3 h4 (hsc.over s t)).1,(h1.put rfl h2 h3 h4 (hsc.over s t)).2,fun e=>by cases e⟩)
 rw [show (g::r).length=m1 by simp [hm1]] at *
 clear hlk h hrow hsc hm1 hG
 go_enter Tryz.func85,Tryz.ntmps85
 go_wp2_with fail
 go_quiet (fail)
 have hlkq:=hlk' nq
 clear hlk'
 go_wp2_with fail
 refine (Hname.out _).mono ?_
 rintro e w1 ⟨rfl,hbw⟩
 have hs1:Since (fun _=>False) w w1:=(Since.drewN _ _ _).trans ⟨hbw.os,hbw.tape,hbw.output,hbw.size,fun k hk _=>hbw.block k hk⟩
 have hc1:=H.out.since hs1 (fun _ e=>e.elim)
 have hm1:=Hm.out.heap (hs1.block b Hm.out.lt id)
 have HC1:=zh hc1
 have HS1:=zh (hs1.mono (G:=ChkM bc (.slice (some ⟨gS,0,none⟩) m1 cap) (b::bs')) (fun _ e=>e.elim))
 clear hs1 hc1 hbw hlkq
 cases hn:nameB s.toList with
 |false=>
  have Hn:=zh hn
  clear hn
  go_wp2_with fail
  refine (typedWrong_any w1 base bc vf cf _ _ st HC1.out 4).mono ?_
  rintro e w2 ⟨rfl,hc2,hs2⟩
  have hm2:=hm1.heap (hs2.block b hm1.lt (by have:=(HC1.out.map_ne (k:=b) (by simp)).1;exact this))
  have HC2:=zh hc2
  have HS2:=zh (hs2.mono (G:=ChkM bc (.slice (some ⟨gS,0,none⟩) m1 cap) (b::bs')) (fun _ e=>Or.inl e))
  clear hc2 hs2
  go_wp2_with (first|(refine wpList_updateI (κ:=ByteArray) rfl _ _ _ 153 rfl Tryz.underlying153 Tryz.underlying9 _ m rfl hm2 s (.int .i64 t) rfl rfl ?_;intro w3 hm3 hg3))
  obtain ⟨g',p1,p2,p3⟩:=Hput.out _ w3 _ HC2.out (by show st.G=_;exact HG.out) hg3 hm3
  go_end0
  refine ⟨rfl,_,p1,HS1.out.trans (HS2.out.trans p2),⟨g',by simp [HG.out]⟩,rfl,rfl,fun hf=>by simp [Chk.bad,hf],fun hf=>?_⟩
  rw [HG.out,declT_form Hn.out]
  simp [Chk.bad,hf]
 |true=>
  have Hn:=zh hn
  clear hn
  cases hh:lookT g s with
  |some u=>
   have Hh:=zh hh
   go_wp2_with fail
   refine (typedWrong_any w1 base bc vf cf _ _ st HC1.out 7).mono ?_
   rintro e w2 ⟨rfl,hc2,hs2⟩
   have hm2:=hm1.heap (hs2.block b hm1.lt (by have:=(HC1.out.map_ne (k:=b) (by simp)).1;exact this))
   have HC2:=zh hc2
   have HS2:=zh (hs2.mono (G:=ChkM bc (.slice (some ⟨gS,0,none⟩) m1 cap) (b::bs')) (fun _ e=>Or.inl e))
   clear hc2 hs2
   go_wp2_with (first|(refine wpList_updateI (κ:=ByteArray) rfl _ _ _ 153 rfl Tryz.underlying153 Tryz.underlying9 _ m rfl hm2 s (.int .i64 t) rfl rfl ?_;intro w3 hm3 hg3))
   obtain ⟨g',p1,p2,p3⟩:=Hput.out _ w3 _ HC2.out (by show st.G=_;exact HG.out) hg3 hm3
   go_end0
   refine ⟨rfl,_,p1,HS1.out.trans (HS2.out.trans p2),⟨g',by simp [HG.out]⟩,rfl,rfl,fun hf=>by simp [Chk.bad,hf],fun hf=>?_⟩
   rw [HG.out,declT_twice Hn.out Hh.out]
   simp [Chk.bad,hf]
  |none=>
   have Hh:=zh hh
   by_cases ht:1≤t∧t≤5
   ·
    have hd:decide (1≤t∧t≤5)=true:=decide_eq_true ht
    have Ht:=zh ht
    clear ht
    go_wp2_with (first|(go_at_call 136;refine (typedValue_any t _).mono ?_;rintro e w' ⟨rfl,rfl⟩;rw [hd])|(refine wpList_updateI (κ:=ByteArray) rfl _ _ _ 153 rfl Tryz.underlying153 Tryz.underlying9 _ m rfl hm1 s (.int .i64 t) rfl rfl ?_;intro w3 hm3 hg3))
    obtain ⟨g',p1,p2,p3⟩:=Hput.out _ w3 _ HC1.out (by show st.G=_;exact HG.out) hg3 hm3
    obtain rfl:=p3 Hh.out
    go_end0
    refine ⟨rfl,_,p1,HS1.out.trans p2,⟨g++[(s,t)],by simp [HG.out]⟩,rfl,rfl,fun hf=>rfl,fun hf=>?_⟩
    rw [HG.out,declT_ok Hn.out Hh.out Ht.out]
    exact ⟨hf,rfl⟩
   ·
    have hd:decide (1≤t∧t≤5)=false:=decide_eq_false ht
    have Ht:=zh ht
    clear ht
    go_wp2_with (first|(go_at_call 136;refine (typedValue_any t _).mono ?_;rintro e w' ⟨rfl,rfl⟩;rw [hd]))
    refine (typedWrong_any w1 base bc vf cf _ _ st HC1.out 9).mono ?_
    rintro e w2 ⟨rfl,hc2,hs2⟩
    have hm2:=hm1.heap (hs2.block b hm1.lt (by have:=(HC1.out.map_ne (k:=b) (by simp)).1;exact this))
    have HC2:=zh hc2
    have HS2:=zh (hs2.mono (G:=ChkM bc (.slice (some ⟨gS,0,none⟩) m1 cap) (b::bs')) (fun _ e=>Or.inl e))
    clear hc2 hs2
    go_wp2_with (first|(refine wpList_updateI (κ:=ByteArray) rfl _ _ _ 153 rfl Tryz.underlying153 Tryz.underlying9 _ m rfl hm2 s (.int .i64 t) rfl rfl ?_;intro w3 hm3 hg3))
    obtain ⟨g',p1,p2,p3⟩:=Hput.out _ w3 _ HC2.out (by show st.G=_;exact HG.out) hg3 hm3
    go_end0
    refine ⟨rfl,_,p1,HS1.out.trans (HS2.out.trans p2),⟨g',by simp [HG.out]⟩,rfl,rfl,fun hf=>by simp [Chk.bad,hf],fun hf=>?_⟩
    rw [HG.out,declT_type Hn.out Hh.out Ht.out]
    simp [Chk.bad,hf]
end Go.Proofs.YtkopjgnjflhkeaaGreatDoor
namespace Go.Proofs.YtkopjgnjflhkeaaGreatDoor
open Go.RowKit Go.Pst Go.Shelf
set_option linter.unusedVariables false
set_option linter.unusedSimpArgs false
attribute [local go_sem] Oper.semAt_some
theorem finRange_take_succ {n k:Nat} (h:k<n):(List.finRange n).take (k+1)=(List.finRange n).take k++[⟨k,h⟩]:=by
 rw [List.take_succ_eq_append_getElem (by simpa using h)]
 simp
set_option maxRecDepth 100000 in
set_option maxHeartbeats 2000000 in
theorem backward1 (N:Nat) (hn:1≤N) (l Bs n₀ g len cap:Nat) (bk:Fin len→Nat) (hg:g<n₀) (hB:Bs<n₀) (hlen:len≤200000) (J Jx:List (Fin len)→World→Prop)
 (hY: ∀ pre x W,J pre W→pre.length<len→YieldAt Fence.wide (N - 1) Tryz.prog l #[.int .i64 ((len - 1 - x.1:Nat):Int), .map (some (bk x))] W fun e W'=>
  (e= .returned (.bool true)∧J (pre++[x]) W'∧Below n₀ W W')∨(e= .returned (.bool false)∧Jx (pre++[x]) W'))
 (W:World) (hBs:W.cell? ⟨Bs,0,none⟩=some (.slice (some ⟨g,0,none⟩) len cap)) (hc: ∀ x:Fin len,W.cell? ⟨g,len - 1 - x.1,none⟩=some (.map (some (bk x)))) (h0:J [] W):
 CallsIn Fence.wide N Tryz.prog 230 #[.func (.yield l) #[] #[], .pointer (some ⟨Bs,0,none⟩)] W fun e W'=>(∃ v,e= .returned v)∧
  (J (List.finRange len) W'∨ ∃ k,k≤len∧Jx ((List.finRange len).take k) W'):=by
 refine callsIn_of_wp Tryz.func230 rfl trivial ?_ rfl
 simp only [Tryz.ntmps230,List.size_toArray,List.length_cons,List.length_nil,Nat.reduceAdd,Nat.reduceSub,Array.replicate_succ,Array.replicate_zero,List.push_toArray,List.append_toArray,List.nil_append,List.cons_append]
 have hw0:IntKind.i64.wrap ((len:Int) - 1)=(len:Int) - 1:=IntWalk.i64_in _ (by omega)
 gi_wp2
 gi_loopw [3] (fun i wr=> ∃ k:Nat,k≤len∧i= .int .i64 ((len:Int) - 1 - k)∧J ((List.finRange len).take k) wr∧Below n₀ W wr)
  (fun i _=>((intOf i)+1).toNat)
 case atStart=>exact ⟨0,Nat.zero_le _,by simp,h0,Below.refl _ _⟩
 case round=>
  obtain ⟨k,hk,rfl,hJs,hnx⟩:=hrel
  by_cases hlt:k<len
  ·
   obtain ⟨j,hj⟩: ∃ j,j=len - 1 - k:=⟨_,rfl⟩
   have hji:(len:Int) - 1 - k=(j:Int):=by omega
   have hj0:(0:Int)≤(j:Int):=by omega
   have hj1:(j:Int)<(len:Int):=by omega
   have hwj:IntKind.i64.wrap ((j:Int) - 1)=(j:Int) - 1:=IntWalk.i64_in _ (by omega)
   have hcB:=(hnx.cell (p:=⟨Bs,0,none⟩) hB).trans hBs
   have hcx:=(hnx.cell (p:=⟨g,j,none⟩) hg).trans (show W.cell? ⟨g,j,none⟩=some (.map (some (bk ⟨k,hlt⟩))) by rw [hj];exact hc ⟨k,hlt⟩)
   obtain ⟨fn,tmps,assign,body,hy,hR⟩:=hY _ ⟨k,hlt⟩ wr hJs (by simp;omega)
   dsimp only at hy hR
   rw [←hj] at hy
   have Hk:=zh (show (len:Int) - 1 - ((k+1:Nat):Int)=(j:Int) - 1 by omega)
   rw [hji]
   clear hj hji
   gi_wp2
   refine hR.mono ?_
   rintro e W3 (⟨rfl,hJ3,hk3⟩|⟨rfl,hJx3⟩)
   ·
    gi_wp2
    go_roundw
    case rel=>exact ⟨k+1,by omega,by rw [Hk.out],by rw [finRange_take_succ hlt];exact hJ3,hnx.trans hk3⟩
    case measure=>simp [intOf]
   ·
    gi_wp2
    refine bodyPost_ret (results_none rfl _ _ _) rfl ?_
    exact ⟨⟨_,rfl⟩, .inr ⟨k+1,by omega,by rw [finRange_take_succ hlt];exact hJx3⟩⟩
  ·
   obtain rfl:k=len:=by omega
   have hneg:(k:Int) - 1 - k= -1:=by omega
   rw [hneg]
   gi_wp2
   go_end0
   refine ⟨⟨_,rfl⟩, .inl ?_⟩
   have:=hJs
   rwa [List.take_of_length_le (by simp)] at this
theorem backward_stops (N:Nat) (hn:1≤N) (Bs n₀ g len cap:Nat) (bk:Fin len→Nat) (hg:g<n₀) (hB:Bs<n₀) (hlen:len≤200000) (w:World) (hn₀:n₀≤w.heap.size)
 (hBs:w.cell? ⟨Bs,0,none⟩=some (.slice (some ⟨g,0,none⟩) len cap)) (hc: ∀ x:Fin len,w.cell? ⟨g,len - 1 - x.1,none⟩=some (.map (some (bk x)))):
 SeqStopsK Fence.wide N Tryz.prog 230 #[.pointer (some ⟨Bs,0,none⟩)] (fun x:Fin len=> #[Value.int .i64 ((len - 1 - x.1:Nat):Int), .map (some (bk x))]) (Below n₀) (fun ys=>ys=List.finRange len) (fun pre=> ∃ k,k≤len∧pre=(List.finRange len).take k) len w:=fun l J Jx W hW _ _ hY h0=>by
 refine (backward1 N hn l Bs n₀ g len cap bk hg hB hlen J Jx hY W ((hW.cell (p:=⟨Bs,0,none⟩) (by show Bs<_;omega)).trans hBs) (fun x=>(hW.cell (p:=⟨g,len - 1 - x.1,none⟩) (by show g<_;omega)).trans (hc x)) h0).mono ?_
 rintro e W' ⟨he,hj|⟨k,hk,hj⟩⟩
 ·
  exact ⟨he, .inl ⟨_,rfl,hj⟩⟩
 ·
  exact ⟨he, .inr ⟨_,⟨k,hk,rfl⟩,hj⟩⟩
theorem backward_any (N:Nat) (a:Option Addr) (len cap:Nat) (w:World):
 CallsIn Fence.wide N Tryz.prog 210 #[.slice a len cap] w fun e w'=>e= .returned (.func (.func 230) #[] #[.pointer (some ⟨w.heap.size,0,none⟩)])∧w'=w.alloc (.cells #[.slice a len cap] 85):=by
 refine callsIn_of_wp Tryz.func210 rfl trivial ?_ rfl
 simp only [Tryz.ntmps210,List.size_toArray,List.length_cons,List.length_nil,Nat.reduceAdd,Nat.reduceSub,Array.replicate_succ,Array.replicate_zero,List.push_toArray,List.append_toArray,List.nil_append,List.cons_append]
 gi_wp2
 go_ret
 exact ⟨rfl,rfl⟩
theorem findT_none {s:ByteArray}: ∀ {G:List Scope},(∀ g∈G,lookT g s=none)→findT G s=none
 |[],_=>rfl
 |g::r,h=>by
  unfold findT
  rw [h g (by simp)]
  exact findT_none (fun x hx=>h x (by simp [hx]))
theorem findT_some {s:ByteArray} {t:Int}: ∀ {G:List Scope} (k:Nat) (hk:k<G.length),(∀ j (h:j<k),lookT (G[j]'(by omega)) s=none)→lookT G[k] s=some t→findT G s=some t
 |g::r,0,_,_,h=>by
  unfold findT
  rw [show lookT g s=some t from h]
 |g::r,k+1,hk,h1,h2=>by
  unfold findT
  rw [show lookT g s=none from h1 0 (by omega)]
  exact findT_some k (by simpa using hk) (fun j hj=>by have:=h1 (j+1) (by omega);simpa using this) (by simpa using h2)
theorem mapsGet {w:World} {base:Nat}: ∀ {bs:List Nat} {G:List Scope},MapsAt w base bs G→ ∀ k (h:k<bs.length) (h':k<G.length),∃ m:IMap ByteArray,MapI w bs[k] m∧ScopeIs m G[k]
 |b::bs,g::G,h,0,_,_=>h.1.2.2
 |b::bs,g::G,h,k+1,h1,h2=>mapsGet h.2 k (by simpa using h1) (by simpa using h2)
 |[],_::_,h,_,_,_=>h.elim
 |_::_,[],h,_,_,_=>h.elim
 |[],[],_,k,h1,_=>absurd h1 (by simp)
theorem mapRow_get: ∀ {bs:List Nat} (k:Nat) (h:k<bs.length),(mapRow bs)[bs.length - 1 - k]?=some (.map (some bs[k]))
 |b::bs,0,_=>by
  show (mapRow bs++[_])[bs.length+1 - 1 - 0]?=_
  rw [List.getElem?_append_right (by rw [mapRow_length];omega),mapRow_length]
  simp
 |b::bs,k+1,h=>by
  have hk:k<bs.length:=by simpa using h
  show (mapRow bs++[_])[bs.length+1 - 1 - (k+1)]?=_
  rw [List.getElem?_append_left (by rw [mapRow_length];omega),show bs.length+1 - 1 - (k+1)=bs.length - 1 - k by omega]
  exact mapRow_get k hk
theorem cells_old (w:World) (v:Value) (t:TypeId):(w.alloc (.cells #[v] t)).cell? ⟨w.heap.size,0,none⟩=some v∧(w.alloc (.cells #[v] t)).frozen? ⟨w.heap.size,0,none⟩=false:=by
 constructor
 ·
  rw [World.cell?_alloc_at _ _ _ _ rfl];rfl
 ·
  rw [World.frozen?_alloc_at _ _ _ _ rfl]
set_option maxRecDepth 100000 in
set_option maxHeartbeats 4000000 in
theorem typedFind_any (w:World) (base bc:Nat) (vf:Value) (cf:List Value) (vS:Value) (bs:List Nat) (st:Chk) (h:ChkAt w base bc vf cf vS bs st) (h0:st.fault=0) (hl:st.G.length≤200000) (hl0:0<st.G.length) (s:ByteArray):
 Calls Tryz.prog 174 #[.pointer (some ⟨bc,0,none⟩), .string s] w (OpPost w base bc vf cf vS bs st (match findT st.G s with|some t=> .ok t|none=> .error 6)):=by
 have hlen:=h.maps.len
 have hget:=mapsGet h.maps
 have hrow:=h.row
 obtain ⟨gS,cap,rfl,-,-,hgl,-,-⟩:=rowGet hrow (i:=0) (u:=(mapRow bs)[0]'(by rw [mapRow_length];omega)) (by simp)
 have hbk: ∀ x:Fin st.G.length,w.cell? ⟨gS,st.G.length - 1 - x.1,none⟩=some (.map (some (bs[x.1]'(by omega)))):=fun x=>by
  obtain ⟨g',c',hv,-,-,-,hc,-⟩:=rowGet hrow (i:=st.G.length - 1 - x.1) (u:= .map (some (bs[x.1]'(by omega)))) (by rw [show st.G.length - 1 - x.1=bs.length - 1 - x.1 by omega];exact mapRow_get x.1 (by omega))
  obtain ⟨rfl,-⟩:gS=g'∧_:=by simpa using hv
  exact hc
 obtain ⟨bk,hbkd⟩: ∃ bk:Fin st.G.length→Nat,bk=fun x=>bs[x.1]'(by omega):=⟨_,rfl⟩
 have hbk': ∀ x:Fin st.G.length,w.cell? ⟨gS,st.G.length - 1 - x.1,none⟩=some (.map (some (bk x))):=fun x=>by rw [hbkd];exact hbk x
 have hmap: ∀ x:Fin st.G.length,∃ m:IMap ByteArray,MapI w (bk x) m∧ScopeIs m st.G[x.1]:=fun x=>by rw [hbkd];exact hget x.1 (by omega) x.2
 have c5:=h.c5
 have hlt:=h.lb.2
 have H:=zh h
 have H0:=zh h0
 have Hmap:=zh hmap
 obtain ⟨R,hR⟩: ∃ R:Except Int Int,R=match findT st.G s with|some t=> .ok t|none=> .error 6:=⟨_,rfl⟩
 rw [←hR]
 have HR:=zh hR
 clear h h0 hR hbk hbkd hget hrow hmap
 refine (callsIn_wide (n:=8)).1 ?_
 refine callsIn_of_wp_marks Tryz.func174 rfl trivial ?_ rfl
 simp only [Tryz.ntmps174,List.size_toArray,List.length_cons,List.length_nil,Nat.reduceAdd,Nat.reduceSub,Array.replicate_succ,Array.replicate_zero,List.push_toArray,List.append_toArray,List.nil_append,List.cons_append]
 have e0:=cells_old w (.string s) 9
 have e1:=cells_old (w.alloc (.cells #[.string s] 9)) (.int .i64 0) 3
 have e2:=cells_old ((w.alloc (.cells #[.string s] 9)).alloc (.cells #[.int .i64 0] 3)) (.slice (some ⟨gS,0,none⟩) st.G.length cap) 85
 simp only [World.size_alloc] at e1 e2
 have c5':((w.alloc (.cells #[.string s] 9)).alloc (.cells #[.int .i64 0] 3)).cell? ⟨bc,5,none⟩=some (.slice (some ⟨gS,0,none⟩) st.G.length cap):=(World.cell?_alloc_lt _ _ _ (by simp;omega)).trans ((World.cell?_alloc_lt _ _ _ hlt).trans c5)
 gi_wp2_with (refine ⟨trivial,?_⟩;gi_at_call 210;refine (backward_any _ _ _ _ _).mono ?_;rintro e w' ⟨rfl,rfl⟩)
 obtain ⟨W0,hW0⟩: ∃ W0,((w.alloc (.cells #[.string s] 9)).alloc (.cells #[.int .i64 0] 3)).alloc (.cells #[.slice (some ⟨gS,0,none⟩) st.G.length cap] 85)=W0:=⟨_,rfl⟩
 have hs0:W0.heap.size=w.heap.size+3:=by rw [←hW0];simp
 have hB0:Below w.heap.size w W0:=by rw [←hW0];exact (((Below.refl _ w).alloc (Nat.le_refl _) _).alloc (by simp) _).alloc (by simp;omega) _
 have f0:W0.cell? ⟨w.heap.size,0,none⟩=some (.string s):=by rw [←hW0,World.cell?_alloc_lt _ _ _ (by simp;omega),World.cell?_alloc_lt _ _ _ (by simp)];exact e0.1
 have f1:W0.cell? ⟨w.heap.size+1,0,none⟩=some (.int .i64 0):=by rw [←hW0,World.cell?_alloc_lt _ _ _ (by simp)];exact e1.1
 have f1z:W0.frozen? ⟨w.heap.size+1,0,none⟩=false:=by rw [←hW0,World.frozen?_alloc_past _ _ _ (by simp)];exact e1.2
 have f2:W0.cell? ⟨w.heap.size+1+1,0,none⟩=some (.slice (some ⟨gS,0,none⟩) st.G.length cap):=by rw [←hW0];exact e2.1
 have fk: ∀ x:Fin st.G.length,W0.cell? ⟨gS,st.G.length - 1 - x.1,none⟩=some (.map (some (bk x))):=fun x=>(hB0.cell (p:=⟨gS,st.G.length - 1 - x.1,none⟩) hgl).trans (hbk' x)
 rw [hW0]
 clear hW0 e0 e1 e2 c5' hbk'
 refine wpIn_rangeFunc_ownF (α:=Fin st.G.length) rfl (by decide) (gf:=230) (lb:= #[.pointer (some ⟨w.heap.size+1+1,0,none⟩)]) rfl trivial (enters_of Tryz.func230 (by kernel_rfl) rfl)
  (backward_stops 7 (by decide) (w.heap.size+1+1) W0.heap.size gS st.G.length cap bk (by omega) (by omega) hl W0 (Nat.le_refl _) f2 fk) belowK_t (belowK_b (Nat.le_refl _)) (Below.refl _ _) (fun _=>rfl)
  (fun pre W=>((∀ y∈pre,lookT st.G[y.1] s=none)∧W.cell? ⟨w.heap.size,0,none⟩=some (.string s)∧W.cell? ⟨w.heap.size+1,0,none⟩=some (.int .i64 0)∧W.frozen? ⟨w.heap.size+1,0,none⟩=false)∧Below w.heap.size w W)
  (fun c q W=>(c= .ret∧ ∃ pre x t,q=pre++[x]∧(∀ y∈pre,lookT st.G[y.1] s=none)∧lookT st.G[x.1] s=some t∧W.cell? ⟨w.heap.size+1,0,none⟩=some (.int .i64 t))∧Below w.heap.size w W)
  (OwnFrom.and (Own.from (fun s A B row hs hg hr=>⟨hs.1,cell_kept hs.2.1 hg hr,cell_kept hs.2.2.1 hg hr,(frozen_kept hs.2.2.1 hg hr).trans hs.2.2.2⟩) _) (ownFrom_below (Nat.le_refl _) (by omega)))
  (fun c=>OwnFrom.and (Own.from (fun s A B row hs hg hr=>⟨hs.1,by obtain ⟨_,pre,x,t,q1,q2,q3,q4⟩:=hs;exact ⟨pre,x,t,q1,q2,q3,cell_kept q4 hg hr⟩⟩) _) (ownFrom_below (Nat.le_refl _) (by omega)))
  ⟨⟨by simp,f0,f1,f1z⟩,hB0⟩
  (fun x=>{tmps:= #[.pointer (some ⟨bc,0,none⟩), .string s,undef, .pointer (some ⟨w.heap.size,0,none⟩), .pointer (some ⟨w.heap.size+1,0,none⟩),undef, .map (some (bk x)),undef,undef, .pointer (some ⟨bc,0,none⟩), .pointer (some ⟨bc,0,none⟩), .pointer (some ⟨bc,5,none⟩), .slice (some ⟨gS,0,none⟩) st.G.length cap, .func (.func 230) #[] #[.pointer (some ⟨w.heap.size+1+1,0,none⟩)], .int .i64 ((st.G.length - 1 - x.1:Nat):Int), .map (some (bk x)),undef,undef,undef,undef,undef,undef,undef,undef,undef,undef],defers:=[]}) ?assign ?body ?done ?stop
 case assign=>
  intro l x W K hK
  gi_wp2
  exact hK
 case body=>
  rintro l pre x W ⟨⟨hp,hcw,hcr,hfr⟩,hB⟩ _
  obtain ⟨m,hm,hsc⟩:=Hmap.out x
  have hlk:(Instr.lookup 153 (.map (some (bk x))) (.string s) true).run Tryz.prog W= .ok (.tuple #[.int .i64 ((lookT st.G[x.1] s).getD 0), .bool (lookT st.G[x.1] s).isSome]) W:=by
   refine ((hm.below hB hm.lt).lookup (κ:=ByteArray) Tryz.underlying153 Tryz.underlying9 (zero_int _) s true).trans ?_
   rw [if_pos rfl,hsc s]
   cases lookT st.G[x.1] s<;>rfl
  cases hh:lookT st.G[x.1] s with
  |some t=>
   rw [hh] at hlk
   simp only [Option.getD_some,Option.isSome_some] at hlk
   gi_wp2
   exact ⟨KeepsOthers.setCell _ _ _,⟨rfl,pre,x,t,rfl,hp,hh,World.cell?_setCell_same' _ _ _ (by rw [hcr];rfl)⟩,hB.setCell (p:=⟨w.heap.size+1,0,none⟩) (by simp) _⟩
  |none=>
   rw [hh] at hlk
   simp only [Option.getD_none,Option.isSome_none] at hlk
   gi_wp2
   exact ⟨KeepsOthers.refl _,Below.refl _ _,⟨fun y hy=>(List.mem_append.1 hy).elim (hp y) (fun e=>by simp at e;rw [e];exact hh),hcw,hcr,hfr⟩,hB⟩
 case done=>
  rintro D ys W hD rfl ⟨⟨hne,_,hcr,hfr⟩,hB⟩ hK
  have hsW:Since (fun _=>False) w W:=⟨hB.os,hB.tape,hB.output,hB.size,fun k hk _=>hB.block k hk⟩
  have HCW:=zh (H.out.since hsW (fun _ e=>e.elim))
  have hwr:=typedWrong_any W base bc vf cf _ bs st HCW.out 6
  have Hwr:=zh hwr
  have HsW:=zh hsW
  have hsz:w.heap.size+1<W.heap.size:=by
   rcases Nat.lt_or_ge (w.heap.size+1) W.heap.size with h'|h'
   ·
    exact h'
   ·
    simp [World.cell?,Array.getElem?_eq_none h'] at hcr
  have Hne:=zh hne
  clear hwr hsW hB hne
  gi_wp2_with (refine ⟨trivial,?_⟩;gi_at_call 84;refine (callsIn_wide.2 Hwr.out).mono ?_;rintro en W2 ⟨rfl,hc2,hs2⟩;have hcr2:=(hs2.cell (o:=0) hsz (by omega)).trans hcr;have hfr2:=(hs2.frozen (o:=0) hsz (by omega)).trans hfr;have hK2:=(hs2.block D (Array.getElem?_eq_some_iff.1 hK).1 (by omega)).trans hK)
  have hK':=(KeepsOthers.setCell W2 ⟨w.heap.size+1,0,none⟩ (.int .i64 0)).same D _ hK2 rfl
  have HC2:=zh hc2
  have HS2:=zh hs2
  clear hc2 hs2
  have hc5:=cell_kept (World.cell?_setCell_same' W2 ⟨w.heap.size+1,0,none⟩ (.int .i64 0) (by rw [hcr2];rfl)) (grownBy_putObj' _ D (.deferred none)) (fun r e=>by cases e;exact ⟨_,hK',rfl⟩)
  have s3:Since (fun k=>k=w.heap.size+1) W2 (W2.setCell ⟨w.heap.size+1,0,none⟩ (.int .i64 0)):=Since.setCell W2 ⟨w.heap.size+1,0,none⟩ (.int .i64 0)
  have s4:Since (fun k=>some D=some k) (W2.setCell ⟨w.heap.size+1,0,none⟩ (.int .i64 0)) ((W2.setCell ⟨w.heap.size+1,0,none⟩ (.int .i64 0)).putObj D (.deferred none)):=Since.grown (grownBy_putObj' _ D (.deferred none))
  have hlow: ∀ k,ChkM bc (.slice (some ⟨gS,0,none⟩) st.G.length cap) bs k→k<w.heap.size:=fun k hk=>(H.out.mem_lt hk).2
  refine ⟨by simp, .inl ⟨_,_,rfl,run_takeDeferred hK',?_⟩⟩
  refine ⟨.int .i64 0,?_,?_⟩
  ·
   simp [results,Tryz.f174,go_sem,hc5]
  ·
   refine ⟨0,st.bad 6,rfl,(HC2.out.since s3 (fun k e hk=>by have:=hlow k hk;omega)).since s4 (fun k e hk=>by have:=hlow k hk;have:=Option.some.inj e;omega),?_,?_⟩
   ·
    exact (((HsW.out.mono (fun _ e=>e.elim)).trans HS2.out).then_new s3 (fun k e=>Or.inr (by omega))).then_new s4 (fun k e=>Or.inr (by have:=Option.some.inj e;omega))
   ·
    rw [HR.out,findT_none (fun g hg=>by obtain ⟨j,hj,rfl⟩:=List.mem_iff_getElem.1 hg;exact Hne.out ⟨j,hj⟩ (by simp))]
    exact KindEnd.bad H0.out _ (by decide)
 case stop=>
  rintro D c q W hD ⟨k,hk,rfl⟩ ⟨⟨rfl,pre,x,t,q1,q2,q3,hcr⟩,hB⟩ hK
  have hsW:Since (fun _=>False) w W:=⟨hB.os,hB.tape,hB.output,hB.size,fun k hk _=>hB.block k hk⟩
  have HCW:=zh (H.out.since hsW (fun _ e=>e.elim))
  have HsW:=zh hsW
  have Hq:=zh (show findT st.G s=some t by
   have hl1:pre.length+1=k:=by have:=congrArg List.length q1;simp at this;omega
   subst hl1
   rw [finRange_take_succ (show pre.length<st.G.length by omega)] at q1
   obtain ⟨p1,p2⟩:=List.append_inj' q1 rfl
   have hx:x=⟨pre.length,by omega⟩:=by simpa using p2.symm
   subst hx
   refine findT_some pre.length (by omega) (fun j hj=>q2 ⟨j,by omega⟩ ?_) q3
   have e:=congrArg (fun l=>l[j]?) p1
   exact List.mem_of_getElem? (e.symm.trans (by
    show (List.take pre.length (List.finRange st.G.length))[j]?=_
    rw [List.getElem?_take,if_pos hj,List.getElem?_eq_getElem (by simp;omega)]
    simp)))
  clear hsW hB q1 q2 q3
  gi_wp2
  have hc5:=cell_kept hcr (grownBy_putObj' _ D (.deferred none)) (fun r e=>by cases e;exact ⟨_,hK,rfl⟩)
  have s4:Since (fun k=>some D=some k) W (W.putObj D (.deferred none)):=Since.grown (grownBy_putObj' _ D (.deferred none))
  have hlow: ∀ k,ChkM bc (.slice (some ⟨gS,0,none⟩) st.G.length cap) bs k→k<w.heap.size:=fun k hk=>(H.out.mem_lt hk).2
  refine ⟨by simp, .inl ⟨_,_,rfl,run_takeDeferred hK,?_⟩⟩
  refine ⟨.int .i64 t,?_,?_⟩
  ·
   simp [results,Tryz.f174,go_sem,hc5]
  ·
   refine ⟨t,st,rfl,HCW.out.since s4 (fun k e hk=>by have:=hlow k hk;have:=Option.some.inj e;omega),?_,?_⟩
   ·
    exact (HsW.out.mono (fun _ e=>e.elim)).then_new s4 (fun k e=>Or.inr (by have:=Option.some.inj e;omega))
   ·
    rw [HR.out,Hq.out]
    exact ⟨rfl,rfl⟩
end Go.Proofs.YtkopjgnjflhkeaaGreatDoor
namespace Go.Proofs.YtkopjgnjflhkeaaGreatDoor
open Go.RowKit Go.Pst
set_option linter.unusedVariables false
set_option linter.unusedSimpArgs false
set_option maxRecDepth 10000 in
set_option maxHeartbeats 2000000 in
theorem kind_1 (w:World) (base bc:Nat) (vf:Value) (cf:List Value) (vS:Value) (bs:List Nat) (st:Chk) (h:ChkAt w base bc vf cf vS bs st) (h0:st.fault=0) (n:Int) (s:ByteArray) (a3:Option Addr) (l3 c3:Nat) (aT:Option Addr) (lT cT:Nat) (R:Except Int Int) (hR:R=if -1099511627776≤n∧n≤1099511627776 then .ok 1 else .error 2):
 Calls Tryz.prog 211 #[.pointer (some ⟨bc,0,none⟩), .agg #[.int .i64 1, .int .i64 n, .string s, .slice a3 l3 c3], .slice aT lT cT] w (OpPost w base bc vf cf vS bs st R):=by
 have H0:=zh h0
 have HR:=zh hR
 have hlt:=h.lb.2
 have sB:=Since.alloc (fun k=>k=bc) w (.cells #[.int .i64 1, .int .i64 n, .string s, .slice a3 l3 c3] 173)
 have HB:=zh (h.since (Since.alloc (fun _=>False) w (.cells #[.int .i64 1, .int .i64 n, .string s, .slice a3 l3 c3] 173)) (fun _ e=>e.elim))
 have SB:=zh sB
 clear h h0 hR sB
 go_enter Tryz.func211,Tryz.ntmps211
 go_wp2_with (first|(go_at_call 84;refine (typedWrong_any _ base bc vf cf vS bs st HB.out 2).mono ?_;rintro en w1 ⟨rfl,hc1,hs1⟩))
 all_goals go_ret
 all_goals simp only [bne_iff_ne,ne_eq,bne_eq_false_iff_eq,Decidable.not_not] at *
 all_goals first
  |exact ⟨_,_,rfl,hc1,SB.out.trans hs1,by rw [HR.out,if_neg (by omega)];exact KindEnd.bad H0.out _ (by decide)⟩
  |exact ⟨_,_,rfl,HB.out,SB.out,by rw [HR.out,if_pos (by omega)];exact ⟨rfl,rfl⟩⟩
set_option maxRecDepth 10000 in
set_option maxHeartbeats 2000000 in
theorem kind_2 (w:World) (base bc:Nat) (vf:Value) (cf:List Value) (vS:Value) (bs:List Nat) (st:Chk) (h:ChkAt w base bc vf cf vS bs st) (h0:st.fault=0) (n:Int) (s:ByteArray) (a3:Option Addr) (l3 c3:Nat) (aT:Option Addr) (lT cT:Nat) (R:Except Int Int) (hR:R=if (s.size:Int)≤4000 then .ok 3 else .error 1):
 Calls Tryz.prog 211 #[.pointer (some ⟨bc,0,none⟩), .agg #[.int .i64 2, .int .i64 n, .string s, .slice a3 l3 c3], .slice aT lT cT] w (OpPost w base bc vf cf vS bs st R):=by
 have H0:=zh h0
 have HR:=zh hR
 have hlt:=h.lb.2
 have sB:=Since.alloc (fun k=>k=bc) w (.cells #[.int .i64 2, .int .i64 n, .string s, .slice a3 l3 c3] 173)
 have HB:=zh (h.since (Since.alloc (fun _=>False) w (.cells #[.int .i64 2, .int .i64 n, .string s, .slice a3 l3 c3] 173)) (fun _ e=>e.elim))
 have SB:=zh sB
 clear h h0 hR sB
 go_enter Tryz.func211,Tryz.ntmps211
 go_wp2_with (first|(go_at_call 84;refine (typedWrong_any _ base bc vf cf vS bs st HB.out 1).mono ?_;rintro en w1 ⟨rfl,hc1,hs1⟩))
 all_goals go_ret
 all_goals simp only [bne_iff_ne,ne_eq,bne_eq_false_iff_eq,Decidable.not_not] at *
 all_goals first
  |exact ⟨_,_,rfl,hc1,SB.out.trans hs1,by rw [HR.out,if_neg (by omega)];exact KindEnd.bad H0.out _ (by decide)⟩
  |exact ⟨_,_,rfl,HB.out,SB.out,by rw [HR.out,if_pos (by omega)];exact ⟨rfl,rfl⟩⟩
set_option maxRecDepth 10000 in
set_option maxHeartbeats 2000000 in
theorem kind_3 (w:World) (base bc:Nat) (vf:Value) (cf:List Value) (vS:Value) (bs:List Nat) (st:Chk) (h:ChkAt w base bc vf cf vS bs st) (h0:st.fault=0) (n:Int) (s:ByteArray) (a3:Option Addr) (l3 c3:Nat) (aT:Option Addr) (lT cT:Nat) (R:Except Int Int) (hR:R=if 0≤n∧n≤1 then .ok 2 else .error 2):
 Calls Tryz.prog 211 #[.pointer (some ⟨bc,0,none⟩), .agg #[.int .i64 3, .int .i64 n, .string s, .slice a3 l3 c3], .slice aT lT cT] w (OpPost w base bc vf cf vS bs st R):=by
 have H0:=zh h0
 have HR:=zh hR
 have hlt:=h.lb.2
 have sB:=Since.alloc (fun k=>k=bc) w (.cells #[.int .i64 3, .int .i64 n, .string s, .slice a3 l3 c3] 173)
 have HB:=zh (h.since (Since.alloc (fun _=>False) w (.cells #[.int .i64 3, .int .i64 n, .string s, .slice a3 l3 c3] 173)) (fun _ e=>e.elim))
 have SB:=zh sB
 clear h h0 hR sB
 go_enter Tryz.func211,Tryz.ntmps211
 go_wp2_with (first|(go_at_call 84;refine (typedWrong_any _ base bc vf cf vS bs st HB.out 2).mono ?_;rintro en w1 ⟨rfl,hc1,hs1⟩))
 all_goals go_ret
 all_goals simp only [bne_iff_ne,ne_eq,bne_eq_false_iff_eq,Decidable.not_not] at *
 all_goals first
  |exact ⟨_,_,rfl,hc1,SB.out.trans hs1,by rw [HR.out,if_neg (by omega)];exact KindEnd.bad H0.out _ (by decide)⟩
  |exact ⟨_,_,rfl,HB.out,SB.out,by rw [HR.out,if_pos (by omega)];exact ⟨rfl,rfl⟩⟩
set_option maxRecDepth 10000 in
set_option maxHeartbeats 2000000 in
theorem kind_4 (w:World) (base bc:Nat) (vf:Value) (cf:List Value) (vS:Value) (bs:List Nat) (st:Chk) (h:ChkAt w base bc vf cf vS bs st) (h0:st.fault=0) (n:Int) (s:ByteArray) (a3:Option Addr) (l3 c3:Nat) (aT:Option Addr) (lT cT:Nat) (hl:st.G.length≤200000) (hl0:0<st.G.length) (R:Except Int Int) (hR:R=(match findT st.G s with|some t=> .ok t|none=> .error 6)):
 Calls Tryz.prog 211 #[.pointer (some ⟨bc,0,none⟩), .agg #[.int .i64 4, .int .i64 n, .string s, .slice a3 l3 c3], .slice aT lT cT] w (OpPost w base bc vf cf vS bs st R):=by
 have H0:=zh h0
 have HR:=zh hR
 have hlt:=h.lb.2
 have sB:=Since.alloc (fun k=>k=bc) w (.cells #[.int .i64 4, .int .i64 n, .string s, .slice a3 l3 c3] 173)
 have HB:=zh (h.since (Since.alloc (fun _=>False) w (.cells #[.int .i64 4, .int .i64 n, .string s, .slice a3 l3 c3] 173)) (fun _ e=>e.elim))
 have SB:=zh sB
 clear h h0 hR sB
 go_enter Tryz.func211,Tryz.ntmps211
 go_wp2_with fail
 refine (typedFind_any _ base bc vf cf vS bs st HB.out H0.out hl hl0 s).mono ?_
 rintro en w1 ⟨x,st',rfl,hc1,hs1,hk1⟩
 have HC1:=zh hc1
 have HS1:=zh hs1
 have HK1:=zh hk1
 clear hc1 hs1 hk1
 go_wp2_with fail
 go_ret
 exact ⟨_,_,rfl,HC1.out,SB.out.trans (HS1.out),by rw [HR.out];exact HK1.out⟩
set_option maxRecDepth 10000 in
set_option maxHeartbeats 2000000 in
theorem kind_5 (w:World) (base bc:Nat) (vf:Value) (cf:List Value) (vS:Value) (bs:List Nat) (st:Chk) (h:ChkAt w base bc vf cf vS bs st) (h0:st.fault=0) (n:Int) (s:ByteArray) (a3:Option Addr) (l3 c3:Nat) (gT cT:Nat) (a b:Int) (hT:w.cell? ⟨gT,0,none⟩=some (.int .i64 a)) (hT2:w.cell? ⟨gT,1,none⟩=some (.int .i64 b)) (hgT:gT<w.heap.size) (hnT:gT≠bc) (R:Except Int Int) (hR:R=opT s.toList a b):
 Calls Tryz.prog 211 #[.pointer (some ⟨bc,0,none⟩), .agg #[.int .i64 5, .int .i64 n, .string s, .slice a3 l3 c3], .slice (some ⟨gT,0,none⟩) 2 cT] w (OpPost w base bc vf cf vS bs st R):=by
 have H0:=zh h0
 have HR:=zh hR
 have hlt:=h.lb.2
 have sB:=Since.alloc (fun k=>k=bc) w (.cells #[.int .i64 5, .int .i64 n, .string s, .slice a3 l3 c3] 173)
 have HB:=zh (h.since (Since.alloc (fun _=>False) w (.cells #[.int .i64 5, .int .i64 n, .string s, .slice a3 l3 c3] 173)) (fun _ e=>e.elim))
 have SB:=zh sB
 have hT':(w.alloc (.cells #[.int .i64 5, .int .i64 n, .string s, .slice a3 l3 c3] 173)).cell? ⟨gT,0,none⟩=some (.int .i64 a):=(World.cell?_alloc_lt _ _ _ hgT).trans hT
 have hT2':(w.alloc (.cells #[.int .i64 5, .int .i64 n, .string s, .slice a3 l3 c3] 173)).cell? ⟨gT,1,none⟩=some (.int .i64 b):=(World.cell?_alloc_lt _ _ _ hgT).trans hT2
 clear h h0 hR sB
 go_enter Tryz.func211,Tryz.ntmps211
 have hgW:gT<(w.alloc (.cells #[.int .i64 5, .int .i64 n, .string s, .slice a3 l3 c3] 173)).heap.size:=by simp;omega
 have hlW:w.heap.size<(w.alloc (.cells #[.int .i64 5, .int .i64 n, .string s, .slice a3 l3 c3] 173)).heap.size:=by simp
 have hwb:w.heap.size≠bc:=by omega
 have hq2:(w.alloc (.cells #[.int .i64 5, .int .i64 n, .string s, .slice a3 l3 c3] 173)).cell? ⟨w.heap.size,2,none⟩=some (.string s):=by rw [World.cell?_alloc_at _ _ _ _ rfl];rfl
 go_wp2_with fail
 have hS0:(fun w':World=>w'.cell? ⟨gT,0,none⟩=some (.int .i64 a)∧w'.cell? ⟨gT,1,none⟩=some (.int .i64 b)∧w'.cell? ⟨w.heap.size,2,none⟩=some (.string s)) (w.alloc (.cells #[.int .i64 5, .int .i64 n, .string s, .slice a3 l3 c3] 173)):=⟨hT',hT2',hq2⟩
 have HSS:=zh (show ∀ w3,Since (fun k=>k=bc) (w.alloc (.cells #[.int .i64 5, .int .i64 n, .string s, .slice a3 l3 c3] 173)).drew w3→(fun w':World=>w'.cell? ⟨gT,0,none⟩=some (.int .i64 a)∧w'.cell? ⟨gT,1,none⟩=some (.int .i64 b)∧w'.cell? ⟨w.heap.size,2,none⟩=some (.string s)) w3 from fun w3 hs=>⟨(hs.cell (o:=0) hgW hnT).trans hT',(hs.cell (o:=1) hgW hnT).trans hT2',(hs.cell (o:=2) hlW hwb).trans hq2⟩)
 have Hcall:=zh (typedTwo_any (w.alloc (.cells #[.int .i64 5, .int .i64 n, .string s, .slice a3 l3 c3] 173)).drew base bc vf cf vS bs st (HB.out.since (Since.drew (fun _=>False) _) (fun _ e=>e.elim)) H0.out s a b)
 go_region_held3 (fun w':World=>w'.cell? ⟨gT,0,none⟩=some (.int .i64 a)∧w'.cell? ⟨gT,1,none⟩=some (.int .i64 b)∧w'.cell? ⟨w.heap.size,2,none⟩=some (.string s)) (first|exact hS0|exact hS2)
  (first|(go_at_call 231;refine Hcall.out.mono ?_;rintro en w1 ⟨x,st',rfl,hc1,hs1,hk1⟩;have hS2:=HSS.out w1 hs1))
 have HC1:=zh hc1
 have HS1:=zh hs1
 have HK1:=zh hk1
 clear hc1 hs1 hk1
 all_goals go_wp2_with fail
 go_ret
 exact ⟨_,_,rfl,HC1.out,SB.out.trans ((Since.drew _ _).trans HS1.out),by rw [HR.out];exact HK1.out⟩
set_option maxRecDepth 10000 in
set_option maxHeartbeats 2000000 in
theorem kind_6 (w:World) (base bc:Nat) (vf:Value) (cf:List Value) (vS:Value) (bs:List Nat) (st:Chk) (h:ChkAt w base bc vf cf vS bs st) (h0:st.fault=0) (n:Int) (s:ByteArray) (a3:Option Addr) (l3 c3:Nat) (gT cT:Nat) (a:Int) (hT:w.cell? ⟨gT,0,none⟩=some (.int .i64 a)) (hgT:gT<w.heap.size) (hnT:gT≠bc) (R:Except Int Int) (hR:R=oneT s.toList a):
 Calls Tryz.prog 211 #[.pointer (some ⟨bc,0,none⟩), .agg #[.int .i64 6, .int .i64 n, .string s, .slice a3 l3 c3], .slice (some ⟨gT,0,none⟩) 1 cT] w (OpPost w base bc vf cf vS bs st R):=by
 have H0:=zh h0
 have HR:=zh hR
 have hlt:=h.lb.2
 have sB:=Since.alloc (fun k=>k=bc) w (.cells #[.int .i64 6, .int .i64 n, .string s, .slice a3 l3 c3] 173)
 have HB:=zh (h.since (Since.alloc (fun _=>False) w (.cells #[.int .i64 6, .int .i64 n, .string s, .slice a3 l3 c3] 173)) (fun _ e=>e.elim))
 have SB:=zh sB
 have hT':(w.alloc (.cells #[.int .i64 6, .int .i64 n, .string s, .slice a3 l3 c3] 173)).cell? ⟨gT,0,none⟩=some (.int .i64 a):=(World.cell?_alloc_lt _ _ _ hgT).trans hT
 clear h h0 hR sB
 go_enter Tryz.func211,Tryz.ntmps211
 have hgW:gT<(w.alloc (.cells #[.int .i64 6, .int .i64 n, .string s, .slice a3 l3 c3] 173)).heap.size:=by simp;omega
 have hlW:w.heap.size<(w.alloc (.cells #[.int .i64 6, .int .i64 n, .string s, .slice a3 l3 c3] 173)).heap.size:=by simp
 have hwb:w.heap.size≠bc:=by omega
 have hq2:(w.alloc (.cells #[.int .i64 6, .int .i64 n, .string s, .slice a3 l3 c3] 173)).cell? ⟨w.heap.size,2,none⟩=some (.string s):=by rw [World.cell?_alloc_at _ _ _ _ rfl];rfl
 go_wp2_with fail
 have hS0:(fun w':World=>w'.cell? ⟨gT,0,none⟩=some (.int .i64 a)∧w'.cell? ⟨w.heap.size,2,none⟩=some (.string s)) (w.alloc (.cells #[.int .i64 6, .int .i64 n, .string s, .slice a3 l3 c3] 173)):=⟨hT',hq2⟩
 have HSS:=zh (show ∀ w3,Since (fun k=>k=bc) (w.alloc (.cells #[.int .i64 6, .int .i64 n, .string s, .slice a3 l3 c3] 173)).drew w3→(fun w':World=>w'.cell? ⟨gT,0,none⟩=some (.int .i64 a)∧w'.cell? ⟨w.heap.size,2,none⟩=some (.string s)) w3 from fun w3 hs=>⟨(hs.cell (o:=0) hgW hnT).trans hT',(hs.cell (o:=2) hlW hwb).trans hq2⟩)
 have Hcall:=zh (typedOne_any (w.alloc (.cells #[.int .i64 6, .int .i64 n, .string s, .slice a3 l3 c3] 173)).drew base bc vf cf vS bs st (HB.out.since (Since.drew (fun _=>False) _) (fun _ e=>e.elim)) H0.out s a)
 go_region_held3 (fun w':World=>w'.cell? ⟨gT,0,none⟩=some (.int .i64 a)∧w'.cell? ⟨w.heap.size,2,none⟩=some (.string s)) (first|exact hS0|exact hS2)
  (first|(go_at_call 232;refine Hcall.out.mono ?_;rintro en w1 ⟨x,st',rfl,hc1,hs1,hk1⟩;have hS2:=HSS.out w1 hs1))
 have HC1:=zh hc1
 have HS1:=zh hs1
 have HK1:=zh hk1
 clear hc1 hs1 hk1
 all_goals go_wp2_with fail
 go_ret
 exact ⟨_,_,rfl,HC1.out,SB.out.trans ((Since.drew _ _).trans HS1.out),by rw [HR.out];exact HK1.out⟩
set_option maxRecDepth 10000 in
set_option maxHeartbeats 2000000 in
theorem kind_7 (w:World) (base bc:Nat) (vf:Value) (cf:List Value) (vS:Value) (bs:List Nat) (st:Chk) (h:ChkAt w base bc vf cf vS bs st) (h0:st.fault=0) (n:Int) (s:ByteArray) (a3:Option Addr) (l3 c3:Nat) (d:Nat) (fs:List PFunc) (ts:List Int) (aT:Option Addr) (cT:Nat) (hf:rFuncs d (· <base) w [vf] fs) (hts:w.ownsRow base 3 1 (.slice aT ts.length cT) ts.length (ts.map (Value.int .i64))) (hnT:(Value.slice aT ts.length cT).ownBlock≠some bc) (R:Except Int Int) (hR:R=callT fs s ts):
 Calls Tryz.prog 211 #[.pointer (some ⟨bc,0,none⟩), .agg #[.int .i64 7, .int .i64 n, .string s, .slice a3 l3 c3], .slice aT ts.length cT] w (OpPost w base bc vf cf vS bs st R):=by
 have H0:=zh h0
 have HR:=zh hR
 have hlt:=h.lb.2
 have sB:=Since.alloc (fun k=>k=bc) w (.cells #[.int .i64 7, .int .i64 n, .string s, .slice a3 l3 c3] 173)
 have HB:=zh (h.since (Since.alloc (fun _=>False) w (.cells #[.int .i64 7, .int .i64 n, .string s, .slice a3 l3 c3] 173)) (fun _ e=>e.elim))
 have SB:=zh sB
 have Hf:=zh (Good.kept ((Since.alloc (fun _=>False) w (.cells #[.int .i64 7, .int .i64 n, .string s, .slice a3 l3 c3] 173)).keep.weaken (fun _ _ _ e=>e.elim)) hf)
 have Hts:=zh (hts.alloc (.cells #[.int .i64 7, .int .i64 n, .string s, .slice a3 l3 c3] 173))
 clear h h0 hR sB
 go_enter Tryz.func211,Tryz.ntmps211
 go_wp2_with fail
 refine (typedCall_any d fs _ base bc vf cf vS bs st HB.out H0.out s ts _ Hf.out Hts.out hnT).mono ?_
 rintro en w1 ⟨x,st',rfl,hc1,hs1,hk1⟩
 have HC1:=zh hc1
 have HS1:=zh hs1
 have HK1:=zh hk1
 clear hc1 hs1 hk1
 go_wp2_with fail
 go_ret
 exact ⟨_,_,rfl,HC1.out,SB.out.trans (HS1.out),by rw [HR.out];exact HK1.out⟩
set_option maxRecDepth 10000 in
set_option maxHeartbeats 2000000 in
theorem kind_8 (w:World) (base bc:Nat) (vf:Value) (cf:List Value) (vS:Value) (bs:List Nat) (st:Chk) (h:ChkAt w base bc vf cf vS bs st) (h0:st.fault=0) (n:Int) (s:ByteArray) (a3:Option Addr) (l3 c3:Nat) (gT cT:Nat) (a:Int) (hT:w.cell? ⟨gT,0,none⟩=some (.int .i64 a)) (hgT:gT<w.heap.size) (hnT:gT≠bc) (R:Except Int Int) (hR:R=if 3≤a∧a≤5 then .ok 1 else .error 9):
 Calls Tryz.prog 211 #[.pointer (some ⟨bc,0,none⟩), .agg #[.int .i64 8, .int .i64 n, .string s, .slice a3 l3 c3], .slice (some ⟨gT,0,none⟩) 1 cT] w (OpPost w base bc vf cf vS bs st R):=by
 have H0:=zh h0
 have HR:=zh hR
 have hlt:=h.lb.2
 have sB:=Since.alloc (fun k=>k=bc) w (.cells #[.int .i64 8, .int .i64 n, .string s, .slice a3 l3 c3] 173)
 have HB:=zh (h.since (Since.alloc (fun _=>False) w (.cells #[.int .i64 8, .int .i64 n, .string s, .slice a3 l3 c3] 173)) (fun _ e=>e.elim))
 have SB:=zh sB
 have hT':(w.alloc (.cells #[.int .i64 8, .int .i64 n, .string s, .slice a3 l3 c3] 173)).cell? ⟨gT,0,none⟩=some (.int .i64 a):=(World.cell?_alloc_lt _ _ _ hgT).trans hT
 clear h h0 hR sB
 go_enter Tryz.func211,Tryz.ntmps211
 go_wp2_with (first|(go_at_call 84;refine (typedWrong_any _ base bc vf cf vS bs st HB.out 9).mono ?_;rintro en w1 ⟨rfl,hc1,hs1⟩))
 all_goals go_ret
 all_goals simp only [bne_iff_ne,ne_eq,bne_eq_false_iff_eq,Decidable.not_not] at *
 all_goals first
  |exact ⟨_,_,rfl,hc1,SB.out.trans hs1,by rw [HR.out,if_neg (by omega)];exact KindEnd.bad H0.out _ (by decide)⟩
  |exact ⟨_,_,rfl,HB.out,SB.out,by rw [HR.out,if_pos (by omega)];exact ⟨rfl,rfl⟩⟩
set_option maxRecDepth 10000 in
set_option maxHeartbeats 2000000 in
theorem kind_9 (w:World) (base bc:Nat) (vf:Value) (cf:List Value) (vS:Value) (bs:List Nat) (st:Chk) (h:ChkAt w base bc vf cf vS bs st) (h0:st.fault=0) (n:Int) (s:ByteArray) (a3:Option Addr) (l3 c3:Nat) (gT cT:Nat) (a b:Int) (hT:w.cell? ⟨gT,0,none⟩=some (.int .i64 a)) (hT2:w.cell? ⟨gT,1,none⟩=some (.int .i64 b)) (hgT:gT<w.heap.size) (hnT:gT≠bc) (R:Except Int Int) (hR:R=if (3≤a∧a≤5)∧b=1 then .ok 1 else .error 9):
 Calls Tryz.prog 211 #[.pointer (some ⟨bc,0,none⟩), .agg #[.int .i64 9, .int .i64 n, .string s, .slice a3 l3 c3], .slice (some ⟨gT,0,none⟩) 2 cT] w (OpPost w base bc vf cf vS bs st R):=by
 have H0:=zh h0
 have HR:=zh hR
 have hlt:=h.lb.2
 have sB:=Since.alloc (fun k=>k=bc) w (.cells #[.int .i64 9, .int .i64 n, .string s, .slice a3 l3 c3] 173)
 have HB:=zh (h.since (Since.alloc (fun _=>False) w (.cells #[.int .i64 9, .int .i64 n, .string s, .slice a3 l3 c3] 173)) (fun _ e=>e.elim))
 have SB:=zh sB
 have hT':(w.alloc (.cells #[.int .i64 9, .int .i64 n, .string s, .slice a3 l3 c3] 173)).cell? ⟨gT,0,none⟩=some (.int .i64 a):=(World.cell?_alloc_lt _ _ _ hgT).trans hT
 have hT2':(w.alloc (.cells #[.int .i64 9, .int .i64 n, .string s, .slice a3 l3 c3] 173)).cell? ⟨gT,1,none⟩=some (.int .i64 b):=(World.cell?_alloc_lt _ _ _ hgT).trans hT2
 clear h h0 hR sB
 go_enter Tryz.func211,Tryz.ntmps211
 go_wp2_with (first|(go_at_call 84;refine (typedWrong_any _ base bc vf cf vS bs st HB.out 9).mono ?_;rintro en w1 ⟨rfl,hc1,hs1⟩)|(go_at_call 173;refine (typedWant_any _ base bc vf cf vS bs st HB.out b 1).mono ?_;rintro en w1 ⟨rfl,hc1,hs1⟩))
 all_goals go_ret
 all_goals simp only [bne_iff_ne,ne_eq,bne_eq_false_iff_eq,Decidable.not_not] at *
 all_goals first
  |exact ⟨_,_,rfl,hc1,SB.out.trans hs1,by rw [HR.out,if_neg (by omega)];exact KindEnd.bad H0.out _ (by decide)⟩
  |(
   refine ⟨_,_,rfl,hc1,SB.out.trans hs1,?_⟩
   rw [HR.out,show (if (3≤a∧a≤5)∧b=1 then (Except.ok 1:Except Int Int) else .error 9)=if b=1 then .ok 1 else .error 9 by by_cases hb:b=1<;>simp [hb]<;>omega]
   exact KindEnd.want1 H0.out b 1 1)
set_option maxRecDepth 10000 in
set_option maxHeartbeats 2000000 in
theorem kind_10 (w:World) (base bc:Nat) (vf:Value) (cf:List Value) (vS:Value) (bs:List Nat) (st:Chk) (h:ChkAt w base bc vf cf vS bs st) (h0:st.fault=0) (n:Int) (s:ByteArray) (a3:Option Addr) (l3 c3:Nat) (gT cT:Nat) (a b:Int) (hT:w.cell? ⟨gT,0,none⟩=some (.int .i64 a)) (hT2:w.cell? ⟨gT,1,none⟩=some (.int .i64 b)) (hgT:gT<w.heap.size) (hnT:gT≠bc) (R:Except Int Int) (hR:R=if a=4∧b=1 then .ok 4 else .error 9):
 Calls Tryz.prog 211 #[.pointer (some ⟨bc,0,none⟩), .agg #[.int .i64 10, .int .i64 n, .string s, .slice a3 l3 c3], .slice (some ⟨gT,0,none⟩) 2 cT] w (OpPost w base bc vf cf vS bs st R):=by
 have H0:=zh h0
 have HR:=zh hR
 have hlt:=h.lb.2
 have sB:=Since.alloc (fun k=>k=bc) w (.cells #[.int .i64 10, .int .i64 n, .string s, .slice a3 l3 c3] 173)
 have HB:=zh (h.since (Since.alloc (fun _=>False) w (.cells #[.int .i64 10, .int .i64 n, .string s, .slice a3 l3 c3] 173)) (fun _ e=>e.elim))
 have SB:=zh sB
 have hT':(w.alloc (.cells #[.int .i64 10, .int .i64 n, .string s, .slice a3 l3 c3] 173)).cell? ⟨gT,0,none⟩=some (.int .i64 a):=(World.cell?_alloc_lt _ _ _ hgT).trans hT
 have hT2':(w.alloc (.cells #[.int .i64 10, .int .i64 n, .string s, .slice a3 l3 c3] 173)).cell? ⟨gT,1,none⟩=some (.int .i64 b):=(World.cell?_alloc_lt _ _ _ hgT).trans hT2
 clear h h0 hR sB
 go_enter Tryz.func211,Tryz.ntmps211
 have hgW:gT<(w.alloc (.cells #[.int .i64 10, .int .i64 n, .string s, .slice a3 l3 c3] 173)).heap.size:=by simp;omega
 go_wp2_with fail
 refine (typedWant_any _ base bc vf cf vS bs st HB.out a 4).mono ?_
 rintro en w1 ⟨rfl,hc1,hs1⟩
 have hT2w:=(hs1.cell (o:=1) hgW hnT).trans hT2'
 have HC1:=zh hc1
 have HS1:=zh hs1
 clear hc1 hs1
 go_wp2_with fail
 refine (typedWant_any w1 base bc vf cf vS bs _ HC1.out b 1).mono ?_
 rintro en w2 ⟨rfl,hc2,hs2⟩
 have HC2:=zh hc2
 have HS2:=zh hs2
 clear hc2 hs2
 go_wp2_with fail
 go_ret
 exact ⟨_,_,rfl,HC2.out,SB.out.trans (HS1.out.trans HS2.out),by rw [HR.out];exact KindEnd.want2 H0.out a b 4 1 4⟩
noncomputable def listSt (st:Chk) (ts:List Int) (k:Nat):Chk:=if ∀ t∈ts.take k,t=1 then st else st.bad 9
theorem listSt_zero (st:Chk) (ts:List Int):listSt st ts 0=st:=by unfold listSt;rw [if_pos (by simp)]
theorem listSt_succ (st:Chk) {ts:List Int} {k:Nat} (h:k<ts.length):listSt st ts (k+1)=if ts[k]=1 then listSt st ts k else (listSt st ts k).bad 9:=by
 unfold listSt
 rw [List.take_succ_eq_append_getElem h]
 by_cases hk: ∀ t∈ts.take k,t=1
 ·
  by_cases he:ts[k]=1
  ·
   rw [if_pos (by intro t ht;rcases List.mem_append.1 ht with ht|ht;exact hk t ht;simp at ht;rw [ht];exact he),if_pos he,if_pos hk]
  ·
   rw [if_neg (fun e=>he (e _ (List.mem_append.2 (Or.inr (by simp))))),if_neg he,if_pos hk]
 ·
  rw [if_neg (fun e=>hk (fun t ht=>e t (List.mem_append.2 (Or.inl ht)))),if_neg hk,Chk.bad_bad st (by decide)]
  split<;>rfl
theorem listSt_end {st:Chk} (h0:st.fault=0) (ts:List Int):KindEnd st (if ∀ t∈ts,t=1 then .ok 4 else .error 9) 4 (listSt st ts ts.length):=by
 unfold listSt
 rw [List.take_length]
 by_cases he: ∀ t∈ts,t=1
 ·
  rw [if_pos he,if_pos he];exact ⟨rfl,rfl⟩
 ·
  rw [if_neg he,if_neg he];exact KindEnd.bad h0 _ (by decide)
set_option maxRecDepth 10000 in
set_option maxHeartbeats 2000000 in
theorem kind_11 (w:World) (base bc:Nat) (vf:Value) (cf:List Value) (vS:Value) (bs:List Nat) (st:Chk) (h:ChkAt w base bc vf cf vS bs st) (h0:st.fault=0) (n:Int) (s:ByteArray) (a3:Option Addr) (l3 c3:Nat) (ts:List Int) (aT:Option Addr) (cT:Nat) (hts:w.ownsRow base 3 1 (.slice aT ts.length cT) ts.length (ts.map (Value.int .i64))) (hnT:(Value.slice aT ts.length cT).ownBlock≠some bc) (R:Except Int Int) (hR:R=if 4000<ts.length then .error 1 else if ∀ t∈ts,t=1 then .ok 4 else .error 9):
 Calls Tryz.prog 211 #[.pointer (some ⟨bc,0,none⟩), .agg #[.int .i64 11, .int .i64 n, .string s, .slice a3 l3 c3], .slice aT ts.length cT] w (OpPost w base bc vf cf vS bs st R):=by
 have H0:=zh h0
 have HR:=zh hR
 have hlt:=h.lb.2
 have sB:=Since.alloc (fun k=>k=bc) w (.cells #[.int .i64 11, .int .i64 n, .string s, .slice a3 l3 c3] 173)
 have HB:=zh (h.since (Since.alloc (fun _=>False) w (.cells #[.int .i64 11, .int .i64 n, .string s, .slice a3 l3 c3] 173)) (fun _ e=>e.elim))
 have SB:=zh sB
 have hts':=hts.alloc (.cells #[.int .i64 11, .int .i64 n, .string s, .slice a3 l3 c3] 173)
 have Hts:=zh hts'
 have HnT:=zh hnT
 clear hts hts' hnT
 clear h h0 hR sB
 go_enter Tryz.func211,Tryz.ntmps211
 by_cases hbig:4000<ts.length
 ·
  have d1:decide ((ts.length:Int) > 4000)=true:=decide_eq_true (by omega)
  have Hb:=zh hbig
  go_wp2_with (first|(go_at_call 84;refine (typedWrong_any _ base bc vf cf vS bs st HB.out 1).mono ?_;rintro en w1 ⟨rfl,hc1,hs1⟩))
  go_ret
  exact ⟨_,_,rfl,hc1,SB.out.trans hs1,by rw [HR.out,if_pos Hb.out];exact KindEnd.bad H0.out _ (by decide)⟩
 ·
  have d1:decide ((ts.length:Int) > 4000)=false:=decide_eq_false (by omega)
  have Hb:=zh hbig
  clear hbig
  go_wp2_with fail
  generalize hW:w.alloc (.cells #[.int .i64 11, .int .i64 n, .string s, .slice a3 l3 c3] 173)=W at *
  clear hW
  go_loopw [8,143] (fun s8 s143 wr=> ∃ k:Nat,k≤ts.length∧s143= .int .i64 k∧ChkAt wr base bc vf cf vS bs (listSt st ts k)∧Since (fun k=>k=bc) W wr) (fun _ s143 _=>ts.length - (intOf s143).toNat)
  case atStart=>exact ⟨0,Nat.zero_le _,rfl,by rw [listSt_zero];exact HB.out,Since.refl _ _⟩
  case round=>
   obtain ⟨k,hk,rfl,hcr,hsr⟩:=hrel
   have HCr:=zh hcr
   have HSr:=zh hsr
   clear hcr hsr
   by_cases hlt2:k<ts.length
   ·
    have hlt1:(k:Int)<(ts.length:Int):=by omega
    have hk0:(0:Int)≤k:=by omega
    obtain ⟨gT,cT',hvT,-,-,hgl,hTc,-⟩:=rowGet Hts.out (i:=k) (u:= .int .i64 ts[k]) (by simp [hlt2])
    obtain rfl:aT=some ⟨gT,0,none⟩:=(Value.slice.inj hvT).1
    have hTn:gT≠bc:=fun e=>HnT.out (by rw [←e];rfl)
    have hTc':=(HSr.out.cell (o:=k) hgl hTn).trans hTc
    have Hsu:=zh (listSt_succ st hlt2)
    have hwk:IntKind.i64.wrap ((k:Int)+1)=(k:Int)+1:=IntWalk.i64_in _ (by have:=Hb.out;omega)
    clear hTc hvT
    generalize ts[k]=tk at *
    go_wp2_with fail
    refine (typedWant_any wr base bc vf cf vS bs _ HCr.out tk 1).mono ?_
    rintro en w3 ⟨rfl,hc3,hs3⟩
    have HC3:=zh hc3
    have HS3:=zh hs3
    clear hc3 hs3
    go_wp2_with fail
    go_roundw
    case rel=>exact ⟨k+1,by omega,by go_num,by rw [Hsu.out];exact HC3.out,HSr.out.trans HS3.out⟩
    case measure=>simp [intOf];omega
   ·
    have hke:k=ts.length:=by omega
    subst hke
    go_wp2_with fail
    go_ret
    exact ⟨_,_,rfl,HCr.out,SB.out.trans HSr.out,by rw [HR.out,if_neg Hb.out];exact listSt_end H0.out ts⟩
set_option maxRecDepth 10000 in
set_option maxHeartbeats 2000000 in
theorem kind_12 (w:World) (base bc:Nat) (vf:Value) (cf:List Value) (vS:Value) (bs:List Nat) (st:Chk) (h:ChkAt w base bc vf cf vS bs st) (h0:st.fault=0) (n:Int) (s:ByteArray) (a3:Option Addr) (l3 c3:Nat) (aT:Option Addr) (lT cT:Nat) (R:Except Int Int) (hR:R= .ok 5):
 Calls Tryz.prog 211 #[.pointer (some ⟨bc,0,none⟩), .agg #[.int .i64 12, .int .i64 n, .string s, .slice a3 l3 c3], .slice aT lT cT] w (OpPost w base bc vf cf vS bs st R):=by
 have H0:=zh h0
 have HR:=zh hR
 have hlt:=h.lb.2
 have sB:=Since.alloc (fun k=>k=bc) w (.cells #[.int .i64 12, .int .i64 n, .string s, .slice a3 l3 c3] 173)
 have HB:=zh (h.since (Since.alloc (fun _=>False) w (.cells #[.int .i64 12, .int .i64 n, .string s, .slice a3 l3 c3] 173)) (fun _ e=>e.elim))
 have SB:=zh sB
 clear h h0 hR sB
 go_enter Tryz.func211,Tryz.ntmps211
 go_wp2_with fail
 go_ret
 exact ⟨_,_,rfl,HB.out,SB.out,by rw [HR.out];exact ⟨rfl,rfl⟩⟩
end Go.Proofs.YtkopjgnjflhkeaaGreatDoor

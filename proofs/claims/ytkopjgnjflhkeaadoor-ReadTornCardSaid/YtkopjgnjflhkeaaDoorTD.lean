import Derived.Test.YtkopjgnjflhkeaaDoorTA
import Derived.Lib.AtoiAllCases
import Derived.Lib.ItoaNum
import Derived.Lib.ItoaMem
import Derived.Test.YtkopjgnjflhkeaaDoorProg
import Derived.Lib.Builder
import Derived.Test.YtkopjgnjflhkeaaDoorShelf
import Derived.Deep.Cut
import Derived.Deep.DeepCutAuto
import Derived.Lib.LaidTab
namespace Go.Pst
open Go.RowKit
set_option linter.unusedVariables false
set_option linter.unusedSimpArgs false
def AllDig (l:List UInt8):Prop:= ∀ c∈l,48≤c.toNat∧c.toNat≤57
theorem numOf_ge: ∀ (l:List UInt8) (a:Nat),a≤numOf l a
 |[],a=>Nat.le_refl _
 |c::r,a=>by
  have:=numOf_ge r (10*a+(c.toNat - 48))
  unfold numOf
  omega
theorem numOf_snoc (c:UInt8): ∀ (l:List UInt8) (a:Nat),numOf (l++[c]) a=10*numOf l a+(c.toNat - 48)
 |[],a=>rfl
 |d::r,a=>numOf_snoc c r _
theorem parse_num: ∀ (l:List UInt8) (a:Nat),AllDig l→a<18446744073709551616→Lib.parseUint10 a l=if numOf l a<18446744073709551616 then .ok (numOf l a) else .range
 |[],a,_,h=>by unfold Lib.parseUint10 numOf;rw [if_pos h]
 |c::r,a,hd,h=>by
  have hc:=hd c (by simp)
  have hr:AllDig r:=fun x hx=>hd x (by simp [hx])
  unfold Lib.parseUint10 numOf
  rw [if_pos hc]
  have hge:=numOf_ge r (10*a+(c.toNat - 48))
  by_cases h1:1844674407370955162≤a
  ·
   rw [if_pos h1,if_neg (by omega)]
  ·
   rw [if_neg h1]
   by_cases h2:18446744073709551616≤a*10+(c.toNat - 48)
   ·
    rw [if_pos h2,if_neg (by omega)]
   ·
    rw [if_neg h2,show a*10+(c.toNat - 48)=10*a+(c.toNat - 48) by omega]
    exact parse_num r _ hr (by omega)
theorem atoi_ok (l:List UInt8) (h:AllDig l) (h0:l≠[]) (hn:numOf l 0<9223372036854775808):Lib.atoiAll l= .ok ((numOf l 0:Nat):Int):=by
 cases l with
 |nil=>exact absurd rfl h0
 |cons c r=>
  have hc:=h c (by simp)
  rw [Lib.atoiAll_plain c r (by omega) (by omega)]
  unfold Lib.parseMag
  rw [if_neg (by simp),parse_num _ 0 h (by decide),if_pos (by omega)]
  simp [Lib.signless]
  omega
theorem atoi_range (l:List UInt8) (h:AllDig l) (h0:l≠[]) (hn:9223372036854775808≤numOf l 0):Lib.atoiAll l= .range:=by
 cases l with
 |nil=>exact absurd rfl h0
 |cons c r=>
  have hc:=h c (by simp)
  rw [Lib.atoiAll_plain c r (by omega) (by omega)]
  unfold Lib.parseMag
  rw [if_neg (by simp),parse_num _ 0 h (by decide)]
  by_cases hb:numOf (c::r) 0<18446744073709551616
  ·
   rw [if_pos hb]
   simp [Lib.signless]
   omega
  ·
   rw [if_neg hb]
   rfl
theorem atoiSat_dig (l:List UInt8) (h:AllDig l) (h0:l≠[]):Lib.atoiSat l=9223372036854775807:=by
 cases l with
 |nil=>exact absurd rfl h0
 |cons c r=>
  have hc:=h c (by simp)
  exact Lib.atoiSat_other c r (by omega)
theorem dig_of (c:UInt8) (h:48≤c.toNat∧c.toNat≤57):UInt8.ofNat (48+(c.toNat - 48))=c:=by
 apply UInt8.toNat_inj.1
 simp
 omega
theorem dec_num (n:Nat): ∀ (l:List UInt8),l.length=n→AllDig l→(∃ c r,l=c::r∧(c.toNat≠48∨r=[]))→Lib.decDigits (numOf l 0)=l:=by
 induction n using Nat.strongRecOn with
 |_ n ih=>
  intro l hn hd hh
  rcases List.eq_nil_or_concat l with rfl|⟨l',c,rfl⟩
  ·
   obtain ⟨c,r,h,-⟩:=hh
   cases h
  ·
   rw [List.concat_eq_append] at hn hd hh ⊢
   have hc:=hd c (by simp)
   have hd':AllDig l':=fun x hx=>hd x (by simp [hx])
   rw [numOf_snoc]
   cases l' with
   |nil=>
    show Lib.decDigits (10*0+(c.toNat - 48))=[c]
    rw [Lib.decDigits_one (by omega)]
    congr 1
    rw [show 10*0+(c.toNat - 48)=c.toNat - 48 by omega]
    exact dig_of c hc
   |cons x r=>
    obtain ⟨c',r',h1,h2⟩:=hh
    injection h1 with h3 h4
    subst h3
    have hx:x.toNat≠48:=by
     rcases h2 with h2|h2
     ·
      exact h2
     ·
      rw [h2] at h4;simp at h4
    have hxd:=hd x (by simp)
    have hpos:1≤numOf (x::r) 0:=by
     have:=numOf_ge r (10*0+(x.toNat - 48))
     show 1≤numOf r (10*0+(x.toNat - 48))
     omega
    have ihl:=ih (x::r).length (by rw [←hn];simp) (x::r) rfl hd' ⟨x,r,rfl,Or.inl hx⟩
    rw [Lib.decDigits,dif_neg (by omega)]
    rw [show (10*numOf (x::r) 0+(c.toNat - 48)) / 10=numOf (x::r) 0 by omega,ihl,show (10*numOf (x::r) 0+(c.toNat - 48)) % 10=c.toNat - 48 by omega,dig_of c hc]
theorem dec_head0 (u:Nat): ∀ r,Lib.decDigits u=48::r→r=[]:=by
 induction u using Nat.strongRecOn with
 |_ u ih=>
  intro r h
  rw [Lib.decDigits] at h
  split at h
  ·
   injection h with h1 h2
   exact h2.symm
  ·
   rename_i h10
   have hne:Lib.decDigits (u / 10)≠[]:=by
    intro e
    have:=Lib.decDigits_length (u / 10)
    rw [e] at this
    have h2:Lib.nDigits (u / 10)≥1:=by
     rw [Lib.nDigits]
     split<;>omega
    simp at this
    omega
   cases hd:Lib.decDigits (u / 10) with
   |nil=>exact absurd hd hne
   |cons c r'=>
    rw [hd] at h
    injection h with h1 h2
    subst h1
    have hr:=ih (u / 10) (by omega) r' hd
    subst hr
    exfalso
    have hz:u / 10<10:=by
     apply Classical.byContradiction
     intro hbig
     rw [Lib.decDigits,dif_neg hbig] at hd
     have hl:=congrArg List.length hd
     simp at hl
     have:=Lib.decDigits_length (u / 10 / 10)
     have h2:Lib.nDigits (u / 10 / 10)≥1:=by
      rw [Lib.nDigits]
      split<;>omega
     rw [hl] at this
     simp at this
     omega
    rw [Lib.decDigits_one hz] at hd
    injection hd with hd1 _
    have:=congrArg UInt8.toNat hd1
    simp at this
    omega
theorem itoa_same (c:UInt8) (r:List UInt8) (h:AllDig (c::r)):Lib.itoa ((numOf (c::r) 0:Nat):Int)=c::r↔ ¬(c=48∧r≠[]):=by
 rw [Lib.itoa_nonneg]
 constructor
 ·
  rintro e ⟨rfl,h2⟩
  exact h2 (dec_head0 _ _ e)
 ·
  intro hn
  refine dec_num _ _ rfl h ⟨c,r,rfl,?_⟩
  by_cases hc:c.toNat=48
  ·
   right
   apply Classical.byContradiction
   intro hr
   exact hn ⟨UInt8.toNat_inj.1 hc,hr⟩
  ·
   exact Or.inl hc
theorem digLen_all: ∀ (l:List UInt8),AllDig (l.take (digLen l))
 |[]=>fun c h=>by simp [digLen] at h
 |c::r=>by
  unfold digLen
  by_cases h:digitB c=true
  ·
   rw [if_pos h]
   intro x hx
   rw [List.take_succ_cons] at hx
   rcases List.mem_cons.1 hx with rfl|hx
   ·
    unfold digitB at h
    simp [UInt8.le_iff_toNat_le] at h
    exact h
   ·
    exact digLen_all r x hx
  ·
   rw [if_neg h]
   intro x hx
   simp at hx
theorem digLen_le: ∀ (l:List UInt8),digLen l≤l.length
 |[]=>Nat.le_refl _
 |c::r=>by
  unfold digLen
  have:=digLen_le r
  split<;>simp<;>omega
end Go.Pst
namespace Go.Proofs.YtkopjgnjflhkeaaDoor
open Go.RowKit Go.Pst
set_option linter.unusedVariables false
set_option linter.unusedSimpArgs false
theorem info_builder:(Tryd.prog.info? 86).map (·.size)=some 2:=by kernel_rfl
theorem info_byte:(Tryd.prog.info? 5).map (fun i=>(i.zero,i.size,i.bytes))=some (some (.int .u8 0),1,1):=by kernel_rfl
theorem lies_builder:liesAt Tryd.prog Tryd.prog.depth 86 (2 / Tryd.prog.cellsOf 86) 0 86 1=true:=by kernel_rfl
set_option maxRecDepth 100000 in
theorem copyCheck_any (B b:Nat) (bs:List Value) (w:World) (h:Lib.IsBuilder 86 5 B b bs w):
 Calls Tryd.prog 59 #[.pointer (some ⟨b,0,none⟩)] w fun e w'=>e= .returned (.tuple #[])∧Lib.BuilderAt 86 5 B b (.pointer (some ⟨b,0,none⟩)) bs w'∧Below B w w':=by
 obtain ⟨j,hj,hjs⟩:=Option.map_eq_some_iff.1 info_builder
 rcases h with h|h
 ·
  have c0:=h.cell0
  have hsh:=h.shape
  have f0:=h.frozen0
  have H:=zh h
  have Hsh:=zh hsh
  clear h hsh
  go_enter Tryd.func59,Tryd.ntmps59
  go_wp2_with fail
  rw [Lib.run_to_unsafe w ⟨b,0,none⟩ Tryd.underlying83 Tryd.underlying117 hj (by rw [hjs];decide) Hsh.out (Nat.zero_lt_succ 1)]
  simp only [Result.andThen]
  rw [Oper.upon_value]
  go_wp2_with fail
  rw [run_callFunc_extern Tryd.func74 (by kernel_rfl) (by kernel_rfl) (by kernel_rfl) (e:=Extern.AbiNoEscape.same) (by kernel_rfl),Lib.run_noEscape]
  simp only [Result.andThen]
  rw [Oper.upon_value]
  go_wp2_with fail
  rw [Lib.run_from_unsafe w ⟨b,0,none⟩ Tryd.underlying117 Tryd.underlying83 hj Hsh.out lies_builder]
  simp only [Result.andThen]
  rw [Oper.upon_value]
  go_wp2_with fail
  go_end0
  exact ⟨rfl,H.out.used _,(Below.refl B w).setCell (p:=⟨b,0,none⟩) H.out.1 _⟩
 ·
  have c0:=h.cell0
  have H:=zh h
  clear h
  go_enter Tryd.func59,Tryd.ntmps59
  go_wp2_with fail
  rw [Lib.run_neq_ptr_same w _ Tryd.underlying83 hj]
  go_wp2_with fail
  go_end0
  exact ⟨rfl,H.out,Below.refl B _⟩
set_option maxRecDepth 100000 in
theorem writeByte_any (B b:Nat) (bs:List Value) (c:Int) (w:World) (h:Lib.IsBuilder 86 5 B b bs w) (hlen:bs.length+1≤140737488355328) (hBw:B≤w.heap.size):
 Calls Tryd.prog 44 #[.pointer (some ⟨b,0,none⟩), .int .u8 c] w fun e w'=>e= .returned .nilIface∧Lib.BuilderAt 86 5 B b (.pointer (some ⟨b,0,none⟩)) (bs++[.int .u8 c]) w'∧Below B w w':=by
 obtain ⟨i0,hi,hz0,hz1,hz2⟩:=info_parts info_byte
 have Hh:=zh h
 clear h
 go_enter Tryd.func44,Tryd.ntmps44
 go_wp2_with fail
 refine (copyCheck_any B b bs w Hh.out).mono ?_
 rintro e w1 ⟨rfl,h1,hb1⟩
 have hlt:=h1.lt
 have c0:=h1.cell0
 obtain ⟨hB,v,hbk,hown,hne⟩:=h1
 have c1:w1.cell? ⟨b,1,none⟩=some v:=by rw [Lib.cell_of_heap hbk];rfl
 obtain ⟨ao,co,rfl,-,-⟩:=row_slice hown
 have hz:=hb1.size
 have Hbk:=zh hbk
 have Hb1:=zh hb1
 have Hne:=zh hne
 have Hown:=zh hown
 clear hbk hb1 hne
 go_wp2_with (at_builtin;refine wpList_append_own _ rfl _ _ 84 rfl B 5 i0 (.int .u8 0) 1 1 Tryd.underlying84 hi hz0 hz1 hz2 rfl (by decide) _ _ _ rfl (hown.alloc _) ⟨w1.heap.size,0,none⟩ 1 1 [.int .u8 c] rfl rfl (cell_one_new _ _ _) (by intro u hu;simp at hu;subst hu;rfl) (by unfold maxLen;omega) (by omega) (by simp;omega) ?_)
 intro v' w2 hown' hgrow _
 have sg:Since (fun k=>(Value.slice ao bs.length co).ownBlock=some k) w1 w2:=(Since.alloc _ _ _).trans (Since.grown hgrow)
 have hb2:=(sg.block b hlt Hne.out).trans Hbk.out
 have d0:=(sg.cell (o:=0) hlt Hne.out).trans c0
 have d1:w2.cell? ⟨b,1,none⟩=some (.slice ao bs.length co):=by rw [Lib.cell_of_heap hb2];rfl
 have f1:w2.frozen? ⟨b,1,none⟩=false:=Lib.frozen_of_heap hb2 1
 obtain ⟨g,cap,rfl⟩: ∃ g cap,v'= .slice (some ⟨g,0,none⟩) (bs.length+1) cap:=by
  rcases hown'.2 with ⟨_,h0⟩|⟨g,cap,cur,hv,_⟩
  ·
   omega
  ·
   exact ⟨g,cap,hv⟩
 have Hb2:=zh hb2
 have Hown':=zh hown'
 have Hsg:=zh sg
 clear hb2 hown' sg hgrow hown c0 c1
 go_wp2_with fail
 go_ret
 refine ⟨rfl,Lib.BuilderAt.put (T:=86) (e:=5) hB Hb2.out (bs':=bs++[.int .u8 c]) (by simpa using Hown'.out) (by decide),?_⟩
 exact (Hb1.out.trans (Hsg.out.below (by omega) (fun k e=>(Hown.out.lt k e).1))).setCell (p:=⟨b,1,none⟩) hB _
end Go.Proofs.YtkopjgnjflhkeaaDoor
namespace Go.Proofs.YtkopjgnjflhkeaaDoor
open Go.RowKit Go.Pst
set_option linter.unusedVariables false
set_option linter.unusedSimpArgs false
def byteV (l:List UInt8):List Value:=l.map fun b=>Value.int .u8 (b.toNat:Int)
def TextEnd (p:Nat) (res:Except Int (List UInt8 × Nat)) (w:World) (en:Ending) (w':World):Prop:=
 ∃ (t:ByteArray) (k e:Int),en= .returned (.tuple #[.string t, .int .i64 k, .int .i64 e])∧Since (fun _=>False) w w'∧(match res with
  | .ok (l,n)=>t=⟨l.toArray⟩∧k=((p+1+n:Nat):Int)∧e=0
  | .error x=>e=x)
theorem drop_get (s:ByteArray) (k:Nat) (h:k<s.size):s.data.toList.drop k=s[k]::s.data.toList.drop (k+1):=by
 have hl:k<s.data.toList.length:=by rw [show s.data.toList.length=s.size from Array.length_toList];exact h
 rw [List.drop_eq_getElem_cons hl]
 rfl
theorem drop_end (s:ByteArray) (k:Nat) (h:s.size≤k):s.data.toList.drop k=[]:=List.drop_eq_nil_of_le (by rw [show s.data.toList.length=s.size from Array.length_toList];exact h)
theorem byteV_snoc (l:List UInt8) (b:UInt8):byteV (l++[b])=byteV l++[Value.int .u8 (b.toNat:Int)]:=by simp [byteV]
theorem text_byte (b:UInt8) (n:Nat) (h:b.toNat=n) (hn:n<256):b=UInt8.ofNat n:=by
 apply UInt8.toNat_inj.1
 rw [h]
 simp
 omega
theorem textR_quote (c:UInt8) (r acc:List UInt8) (k:Nat) (h:c.toNat=34):textR (c::r) acc k= .ok (acc,k+1):=by
 obtain rfl:c=34:=text_byte c 34 h (by decide)
 unfold textR
 rw [if_pos rfl]
theorem textR_line (c:UInt8) (r acc:List UInt8) (k:Nat) (h:c.toNat=10):textR (c::r) acc k= .error 4:=by
 obtain rfl:c=10:=text_byte c 10 h (by decide)
 unfold textR
 rw [if_neg (by decide),if_neg (by decide),if_pos rfl]
theorem textR_byte (c:UInt8) (r acc:List UInt8) (k:Nat) (h1:c.toNat≠34) (h2:c.toNat≠92) (h3:c.toNat≠10):textR (c::r) acc k=textR r (acc++[c]) (k+1):=by
 rw [textR.eq_def]
 dsimp only
 rw [if_neg (fun e=>h1 (by rw [e];rfl)),if_neg (fun e=>h2 (by rw [e];rfl)),if_neg (fun e=>h3 (by rw [e];rfl))]
theorem textR_esc0 (c:UInt8) (acc:List UInt8) (k:Nat) (h:c.toNat=92):textR [c] acc k= .error 5:=by
 obtain rfl:c=92:=text_byte c 92 h (by decide)
 rfl
def escV (b:UInt8):Option UInt8:=if b=34∨b=92 then some b else if b=110 then some 10 else none
theorem textR_esc1 (c b:UInt8) (r acc:List UInt8) (k:Nat) (h:c.toNat=92):textR (c::b::r) acc k=match escV b with|some x=>textR r (acc++[x]) (k+2)|none=> .error 4:=by
 obtain rfl:c=92:=text_byte c 92 h (by decide)
 rw [textR.eq_def]
 dsimp only
 rw [if_neg (by decide),if_pos rfl]
 unfold escV
 by_cases h1:b=34∨b=92
 ·
  rw [if_pos h1,if_pos h1]
 ·
  rw [if_neg h1,if_neg h1]
  by_cases h2:b=110
  ·
   rw [if_pos h2,if_pos h2]
  ·
   rw [if_neg h2,if_neg h2]
theorem index_esc (b:UInt8):(Lib.indexByte [34,92,110] b=0∧escV b=some 34)∨(Lib.indexByte [34,92,110] b=1∧escV b=some 92)∨(Lib.indexByte [34,92,110] b=2∧escV b=some 10)∨(Lib.indexByte [34,92,110] b= -1∧escV b=none):=by
 by_cases h1:b=34
 ·
  subst h1;exact Or.inl ⟨by decide,by decide⟩
 by_cases h2:b=92
 ·
  subst h2;exact Or.inr (Or.inl ⟨by decide,by decide⟩)
 by_cases h3:b=110
 ·
  subst h3;exact Or.inr (Or.inr (Or.inl ⟨by decide,by decide⟩))
 refine Or.inr (Or.inr (Or.inr ⟨?_,?_⟩))
 ·
  simp [Lib.indexByte,Ne.symm h1,Ne.symm h2,Ne.symm h3]
 ·
  simp [escV,h1,h2,h3]
set_option maxRecDepth 100000 in
set_option maxHeartbeats 4000000 in
theorem readText_any (s:ByteArray) (p:Nat) (w:World) (hp:p<s.size) (hs:s.size≤4000):
 Calls Tryd.prog 20 #[.string s, .int .i64 p] w (TextEnd p (textR (s.data.toList.drop (p+1)) [] 0) w):=by
 obtain ⟨Res,hres⟩: ∃ Res,Res=textR (s.data.toList.drop (p+1)) [] 0:=⟨_,rfl⟩
 rw [←hres]
 have hpI:(p:Int)≤4000:=by omega
 have hsI:(s.size:Int)≤4000:=by omega
 obtain ⟨q,hq⟩: ∃ q:Nat,(p:Int)+1=(q:Int):=⟨p+1,by omega⟩
 have hqp:q=p+1:=by omega
 rw [←hqp] at hres
 have hb0:=Lib.fresh_isBuilder 86 5 w
 have hbl:Below w.heap.size w (w.alloc (.cells #[.pointer none, .slice none 0 0] 86)):=(Below.refl _ _).alloc (Nat.le_refl _) _
 have Hb0:=zh hb0
 have Hbl:=zh hbl
 have Hres:=zh hres
 have Hqp:=zh hqp
 clear hb0 hbl hres hqp
 go_enter Tryd.func20,Tryd.ntmps20
 go_wp2_with fail
 generalize w.alloc (.cells #[.pointer none, .slice none 0 0] 86)=w0 at *
 go_loopw [8] (fun v wr=> ∃ (i:Nat) (l:List UInt8),v= .int .i64 i∧q≤i∧i≤s.size∧l.length≤i∧Lib.IsBuilder 86 5 w.heap.size w.heap.size (byteV l) wr∧Below w.heap.size w wr∧Res=textR (s.data.toList.drop i) l (i - q)) (fun v _=>s.size - (intOf v).toNat)
 case atStart=>exact ⟨q,[],rfl,Nat.le_refl _,by have:=Hqp.out;omega,Nat.zero_le _,Hb0.out,Hbl.out,by rw [Hres.out];simp⟩
 case round=>
  obtain ⟨i,l,rfl,hqi,his,hll,hB,hbw,hR⟩:=hrel
  have HB:=zh hB
  have Hbw:=zh hbw
  have HR:=zh hR
  have hsz:=hbw.size
  clear hB hbw hR
  by_cases hlt:i<s.size
  ·
   have hlt1:(i:Int)<s.size:=by omega
   have hd:=drop_get s i hlt
   have hx:=(s[i]'hlt).toNat_lt
   have HR2:=zh (HR.out.trans (by rw [hd]))
   have Hd:=zh hd
   clear hd
   have hci:((s[i]'hlt).toNat:Int)<256:=by omega
   obtain ⟨c,hc⟩: ∃ c,c=s[i]'hlt:=⟨_,rfl⟩
   rw [←hc] at HR2 hci hx
   have Hc:=zh hc
   by_cases e1:c.toNat=34
   ·
    have f1:((s[i]'hlt).toNat:Int)=34:=by rw [←hc,e1];rfl
    have E1:=zh e1
    clear e1 hc
    have hstr:=Tryd.Builder_String_any w.heap.size w.heap.size l wr HB.out hsz
    have Hstr:=zh hstr
    clear hstr
    go_wp2_with fail
    refine Hstr.out.mono ?_
    rintro en w1 ⟨rfl,hb1⟩
    have hbA:=Hbw.out.trans hb1
    have HbA:=zh hbA
    clear hb1 hbA
    go_wp2_with fail
    refine bodyPost_ret (v:= .tuple #[.string ⟨l.toArray⟩, .int .i64 ((i:Int)+1), .int .i64 0]) (by simp [results,Tryd.results20,go_sem]) rfl ⟨_,_,0,rfl,(Since.mk (F:=fun _=>False) HbA.out.os HbA.out.tape HbA.out.output HbA.out.size (fun k hk _=>HbA.out.block k hk)),?_⟩
    rw [HR2.out,textR_quote _ _ _ _ E1.out];exact ⟨rfl,by have:=Hqp.out;push_cast;omega,rfl⟩
   have f1: ¬((s[i]'hlt).toNat:Int)=34:=by rw [←hc];omega
   by_cases e2:c.toNat=92
   ·
    have f2:((s[i]'hlt).toNat:Int)=92:=by rw [←hc,e2];rfl
    have E2:=zh e2
    clear e2 hc
    obtain ⟨i1,hi1⟩: ∃ i1:Nat,(i:Int)+1=(i1:Int):=⟨i+1,by omega⟩
    have hi1e:i1=i+1:=by omega
    by_cases hlt2:i1<s.size
    ·
     have hd2:=drop_get s i1 hlt2
     obtain ⟨b,hb⟩: ∃ b,b=s[i1]'hlt2:=⟨_,rfl⟩
     have hbx:=(s[i1]'hlt2).toNat_lt
     have HR3:Res=textR (c::b::s.data.toList.drop (i+2)) l (i - q):=by rw [HR2.out,←hi1e,hd2,hb,show i1+1=i+2 by omega]
     rw [textR_esc1 _ _ _ _ _ E2.out] at HR3
     have HR4:=zh HR3
     have hlt21:(i1:Int)<s.size:=by omega
     have hne2: ¬(i1:Int)=(s.size:Int):=by omega
     have hib:=Tryd.strings_IndexByte ⟨#[34,92,110]⟩ ((s[i1]'hlt2).toNat:Int) wr
     have hun:((s[i1]'hlt2).toNat:Int).toNat.toUInt8=b:=by rw [hb];simp
     rw [hun] at hib
     have hix:=index_esc b
     have Hi1e:=zh hi1e
     clear hd2 HR3 hun hi1e hb
     rcases hix with ⟨hx1,hx2⟩|⟨hx1,hx2⟩|⟨hx1,hx2⟩|⟨hx1,hx2⟩
     ·
      rw [show Lib.indexByte (ByteArray.mk #[34,92,110]).data.toList b=0 from hx1] at hib
      have Hib:=zh hib
      have Hx2:=zh hx2
      have Hwb:=zh (writeByte_any w.heap.size w.heap.size (byteV l) 34 wr HB.out (by simp [byteV];omega) hsz)
      clear hib hx1 hx2
      go_wp2_with fail
      refine Hib.out.mono ?_
      rintro en w1 ⟨rfl,rfl⟩
      go_wp2_with fail
      refine Hwb.out.mono ?_
      rintro en w2 ⟨rfl,hb1,hbw1⟩
      have HB1:=zh (show Lib.IsBuilder 86 5 w.heap.size w.heap.size (byteV (l++[34])) w2 from Or.inr (by rw [byteV_snoc];exact hb1))
      have Hbw1:=zh (Hbw.out.trans hbw1)
      clear hb1 hbw1
      go_wp2_with fail
      go_roundw
      case rel=>exact ⟨i+2,l++[34],by have:=Hi1e.out;subst this;go_num,by omega,by have:=Hi1e.out;omega,by simp;omega,HB1.out,Hbw1.out,by rw [HR4.out,Hx2.out];dsimp only;congr 1;omega⟩
      all_goals (simp [intOf];omega)
     ·
      rw [show Lib.indexByte (ByteArray.mk #[34,92,110]).data.toList b=1 from hx1] at hib
      have Hib:=zh hib
      have Hx2:=zh hx2
      have Hwb:=zh (writeByte_any w.heap.size w.heap.size (byteV l) 92 wr HB.out (by simp [byteV];omega) hsz)
      clear hib hx1 hx2
      go_wp2_with fail
      refine Hib.out.mono ?_
      rintro en w1 ⟨rfl,rfl⟩
      go_wp2_with fail
      refine Hwb.out.mono ?_
      rintro en w2 ⟨rfl,hb1,hbw1⟩
      have HB1:=zh (show Lib.IsBuilder 86 5 w.heap.size w.heap.size (byteV (l++[92])) w2 from Or.inr (by rw [byteV_snoc];exact hb1))
      have Hbw1:=zh (Hbw.out.trans hbw1)
      clear hb1 hbw1
      go_wp2_with fail
      go_roundw
      case rel=>exact ⟨i+2,l++[92],by have:=Hi1e.out;subst this;go_num,by omega,by have:=Hi1e.out;omega,by simp;omega,HB1.out,Hbw1.out,by rw [HR4.out,Hx2.out];dsimp only;congr 1;omega⟩
      all_goals (simp [intOf];omega)
     ·
      rw [show Lib.indexByte (ByteArray.mk #[34,92,110]).data.toList b=2 from hx1] at hib
      have Hib:=zh hib
      have Hx2:=zh hx2
      have Hwb:=zh (writeByte_any w.heap.size w.heap.size (byteV l) 10 wr HB.out (by simp [byteV];omega) hsz)
      clear hib hx1 hx2
      go_wp2_with fail
      refine Hib.out.mono ?_
      rintro en w1 ⟨rfl,rfl⟩
      go_wp2_with fail
      refine Hwb.out.mono ?_
      rintro en w2 ⟨rfl,hb1,hbw1⟩
      have HB1:=zh (show Lib.IsBuilder 86 5 w.heap.size w.heap.size (byteV (l++[10])) w2 from Or.inr (by rw [byteV_snoc];exact hb1))
      have Hbw1:=zh (Hbw.out.trans hbw1)
      clear hb1 hbw1
      go_wp2_with fail
      go_roundw
      case rel=>exact ⟨i+2,l++[10],by have:=Hi1e.out;subst this;go_num,by omega,by have:=Hi1e.out;omega,by simp;omega,HB1.out,Hbw1.out,by rw [HR4.out,Hx2.out];dsimp only;congr 1;omega⟩
      all_goals (simp [intOf];omega)
     ·
      rw [show Lib.indexByte (ByteArray.mk #[34,92,110]).data.toList b= -1 from hx1] at hib
      have Hib:=zh hib
      have Hx2:=zh hx2
      clear hib hx1 hx2
      go_wp2_with fail
      refine Hib.out.mono ?_
      rintro en w1 ⟨rfl,rfl⟩
      go_wp2_with fail
      refine bodyPost_ret (v:= .tuple #[.string ⟨#[]⟩, .int .i64 0, .int .i64 4]) (by simp [results,Tryd.results20,go_sem]) rfl ⟨_,_,4,rfl,(Since.mk (F:=fun _=>False) Hbw.out.os Hbw.out.tape Hbw.out.output Hbw.out.size (fun k hk _=>Hbw.out.block k hk)),?_⟩
      rw [HR4.out,Hx2.out]
    ·
     have hsz1:i1=s.size:=by omega
     have HR3:Res=textR [c] l (i - q):=by rw [HR2.out,drop_end s _ (by omega)]
     have HR4:=zh HR3
     clear HR3
     subst hsz1
     clear hi1e hlt2
     go_wp2_with fail
     refine bodyPost_ret (v:= .tuple #[.string ⟨#[]⟩, .int .i64 0, .int .i64 5]) (by simp [results,Tryd.results20,go_sem]) rfl ⟨_,_,5,rfl,(Since.mk (F:=fun _=>False) Hbw.out.os Hbw.out.tape Hbw.out.output Hbw.out.size (fun k hk _=>Hbw.out.block k hk)),?_⟩
     rw [HR4.out,textR_esc0 _ _ _ E2.out]
   have f2: ¬((s[i]'hlt).toNat:Int)=92:=by rw [←hc];omega
   by_cases e3:c.toNat=10
   ·
    have f3:((s[i]'hlt).toNat:Int)=10:=by rw [←hc,e3];rfl
    have E3:=zh e3
    clear e3 hc
    go_wp2_with fail
    refine bodyPost_ret (v:= .tuple #[.string ⟨#[]⟩, .int .i64 (0), .int .i64 4]) (by simp [results,Tryd.results20,go_sem]) rfl ⟨_,_,4,rfl,(Since.mk (F:=fun _=>False) Hbw.out.os Hbw.out.tape Hbw.out.output Hbw.out.size (fun k hk _=>Hbw.out.block k hk)),?_⟩
    rw [HR2.out,textR_line _ _ _ _ E3.out]
   have f3: ¬((s[i]'hlt).toNat:Int)=10:=by rw [←hc];omega
   have HE:=zh (textR_byte c (s.data.toList.drop (i+1)) l (i - q) e1 e2 e3)
   have hwb:=writeByte_any w.heap.size w.heap.size (byteV l) ((s[i]'hlt).toNat:Int) wr HB.out (by simp [byteV];omega) hsz
   have Hwb:=zh hwb
   clear e1 e2 e3 hc hwb
   go_wp2_with fail
   refine Hwb.out.mono ?_
   rintro en w1 ⟨rfl,hb1,hbw1⟩
   have HB1:=zh (show Lib.IsBuilder 86 5 w.heap.size w.heap.size (byteV (l++[c])) w1 from Or.inr (by rw [byteV_snoc,Hc.out];exact hb1))
   have Hbw1:=zh (Hbw.out.trans hbw1)
   clear hb1 hbw1
   go_wp2_with fail
   go_roundw
   case rel=>exact ⟨i+1,l++[c],by go_num,by omega,by omega,by simp;omega,HB1.out,Hbw1.out,by rw [HR2.out,HE.out];congr 1;omega⟩
   all_goals (simp [intOf];omega)
  ·
   have hie:i=s.size:=by omega
   subst hie
   go_wp2_with fail
   refine bodyPost_ret (v:= .tuple #[.string ⟨#[]⟩, .int .i64 (0), .int .i64 5]) (by simp [results,Tryd.results20,go_sem]) rfl ⟨_,_,5,rfl,(Since.mk (F:=fun _=>False) Hbw.out.os Hbw.out.tape Hbw.out.output Hbw.out.size (fun k hk _=>Hbw.out.block k hk)),?_⟩
   rw [HR.out,drop_end s _ (Nat.le_refl _)];rfl
end Go.Proofs.YtkopjgnjflhkeaaDoor
namespace Go.Proofs.YtkopjgnjflhkeaaDoor
open Go.RowKit Go.Pst
set_option linter.unusedVariables false
set_option linter.unusedSimpArgs false
def markIx (r:List UInt8):List (List UInt8)→Int→Int
 |[],_=> -1
 |m::ms,k=>if m.isPrefixOf r=true then k else markIx r ms (k+1)
theorem markIx_none (r:List UInt8): ∀ (ms:List (List UInt8)) (k:Int),markR r ms=none→markIx r ms k= -1
 |[],k,_=>rfl
 |m::ms,k,h=>by
  unfold markR at h
  unfold markIx
  split at h
  ·
   cases h
  ·
   rename_i hm
   rw [if_neg hm]
   exact markIx_none r ms _ h
theorem markIx_some (r m:List UInt8): ∀ (ms:List (List UInt8)) (k:Nat),markR r ms=some m→ ∃ j:Nat,j<ms.length∧markIx r ms k=((k+j:Nat):Int)∧ms[j]?=some m
 |[],k,h=>by cases h
 |x::ms,k,h=>by
  unfold markR at h
  unfold markIx
  split at h
  ·
   rename_i hm
   injection h with h
   subst h
   exact ⟨0,by simp,by rw [if_pos hm];simp,by simp⟩
  ·
   rename_i hm
   obtain ⟨j,h1,h2,h3⟩:=markIx_some r m ms (k+1) h
   refine ⟨j+1,by simp;omega,?_,by simpa using h3⟩
   rw [if_neg hm,show ((k:Int)+1)=((k+1:Nat):Int) by omega,h2]
   congr 1
   omega
theorem extract_list (s:ByteArray) (i:Nat) (h:i≤s.size):(s.extract i s.size).data.toList=s.data.toList.drop i:=by
 rw [ByteArray.data_extract]
 simp
 exact List.take_of_length_le (by simp)
set_option maxHeartbeats 1000000 in
theorem cutHas_any (s m:ByteArray) (i bs bi:Nat) (w:World) (hi:i≤s.size) (h1:w.cell? ⟨bs,0,none⟩=some (.string s)) (h2:w.cell? ⟨bi,0,none⟩=some (.int .i64 i)) (hs:s.size≤4000):
 Calls Tryd.prog 22 #[.string m, .pointer (some ⟨bs,0,none⟩), .pointer (some ⟨bi,0,none⟩)] w fun e w'=>e= .returned (.bool (m.data.toList.isPrefixOf (s.data.toList.drop i)))∧w'=w:=by
 have hiI:(i:Int)≤(s.size:Int):=by omega
 have hp:=Tryd.strings_HasPrefix (s.extract i s.size) m w
 have Hp:=zh hp
 clear hp
 go_enter Tryd.func22,Tryd.ntmps22
 go_wp2_with fail
 refine Hp.out.mono ?_
 rintro en w1 ⟨rfl,rfl⟩
 go_wp2_with fail
 go_ret
 refine ⟨?_,rfl⟩
 have e:=extract_list s i hi
 have e2:(s.data.toList.drop i).take (s.size - i)=s.data.toList.drop i:=List.take_of_length_le (by rw [List.length_drop,show s.data.toList.length=s.size from Array.length_toList];exact Nat.le_refl _)
 first
  |(rw [e,e2];rfl)
  |(rw [e];rfl)
  |(simp only [e,e2];rfl)
theorem letter_any (c:UInt8) (w:World):Calls Tryd.prog 16 #[.int .u8 (c.toNat:Int)] w fun e w'=>e= .returned (.bool (smallB c))∧w'=w:=by
 have hx:=c.toNat_lt
 have h:smallB c=(decide ((97:Int)≤(c.toNat:Int))&&decide ((c.toNat:Int)≤122)):=by
  unfold smallB
  rw [Bool.eq_iff_iff]
  simp [UInt8.le_iff_toNat_le]
  try omega
 have Hh:=zh h
 clear h
 by_cases h1:(97:Int)≤(c.toNat:Int)
 ·
  by_cases h2:(c.toNat:Int)≤122
  ·
   go_enter Tryd.func16,Tryd.ntmps16
   go_wp2_with fail
   go_ret
   exact ⟨by rw [Hh.out];simp [h1,h2],rfl⟩
  ·
   go_enter Tryd.func16,Tryd.ntmps16
   go_wp2_with fail
   go_ret
   exact ⟨by rw [Hh.out];simp [h1,h2],rfl⟩
 ·
  go_enter Tryd.func16,Tryd.ntmps16
  go_wp2_with fail
  go_ret
  exact ⟨by rw [Hh.out];simp [h1];try omega,rfl⟩
theorem digit_any (c:UInt8) (w:World):Calls Tryd.prog 17 #[.int .u8 (c.toNat:Int)] w fun e w'=>e= .returned (.bool (digitB c))∧w'=w:=by
 have hx:=c.toNat_lt
 have h:digitB c=(decide ((48:Int)≤(c.toNat:Int))&&decide ((c.toNat:Int)≤57)):=by
  unfold digitB
  rw [Bool.eq_iff_iff]
  simp [UInt8.le_iff_toNat_le]
  try omega
 have Hh:=zh h
 clear h
 by_cases h1:(48:Int)≤(c.toNat:Int)
 ·
  by_cases h2:(c.toNat:Int)≤57
  ·
   go_enter Tryd.func17,Tryd.ntmps17
   go_wp2_with fail
   go_ret
   exact ⟨by rw [Hh.out];simp [h1,h2],rfl⟩
  ·
   go_enter Tryd.func17,Tryd.ntmps17
   go_wp2_with fail
   go_ret
   exact ⟨by rw [Hh.out];simp [h1,h2],rfl⟩
 ·
  go_enter Tryd.func17,Tryd.ntmps17
  go_wp2_with fail
  go_ret
  exact ⟨by rw [Hh.out];simp [h1];try omega,rfl⟩
set_option maxHeartbeats 1000000 in
theorem markIndex_any (s:ByteArray) (i bs bi bm:Nat) (w:World) (hi:i≤s.size) (h1:w.cell? ⟨bs,0,none⟩=some (.string s)) (h2:w.cell? ⟨bi,0,none⟩=some (.int .i64 i)) (hs:s.size≤4000)
 (hm: ∀ k (h:k<marksR.length),w.cell? ⟨bm,k,none⟩=some (.string ⟨marksR[k].toArray⟩)):
 Calls Tryd.prog 21 #[.slice (some ⟨bm,0,none⟩) 24 24, .func (.func 22) #[] #[.pointer (some ⟨bs,0,none⟩), .pointer (some ⟨bi,0,none⟩)]] w fun e w'=>e= .returned (.int .i64 (markIx (s.data.toList.drop i) marksR 0))∧w'=w:=by
 have hl:marksR.length=24:=rfl
 have Hm:=zh hm
 have H1:=zh h1
 have H2:=zh h2
 clear hm h1 h2
 obtain ⟨Res,hres⟩: ∃ Res,Res=markIx (s.data.toList.drop i) marksR 0:=⟨_,rfl⟩
 rw [←hres]
 have Hres:=zh hres
 clear hres
 go_enter Tryd.func21,Tryd.ntmps21
 go_wp2_with fail
 go_loopw [8] (fun v wr=> ∃ k:Nat,k≤24∧v= .int .i64 k∧Res=markIx (s.data.toList.drop i) (marksR.drop k) k∧wr=w) (fun v _=>24 - (intOf v).toNat)
 case atStart=>exact ⟨0,by decide,rfl,by rw [Hres.out];rfl,rfl⟩
 case round=>
  obtain ⟨k,hk,rfl,hf,rfl⟩:=hrel
  have Hf:=zh hf
  clear hf
  by_cases hlt:k<24
  ·
   have hlt1:(k:Int)<24:=by omega
   have hk0:(0:Int)≤k:=by omega
   have hkl:k<marksR.length:=by rw [hl];exact hlt
   have x0:=Hm.out k hkl
   have Hd:=zh (List.drop_eq_getElem_cons hkl:marksR.drop k=marksR[k]::marksR.drop (k+1))
   have Hcall:=zh (cutHas_any s ⟨marksR[k].toArray⟩ i bs bi wr hi H1.out H2.out hs)
   have hwk:IntKind.i64.wrap ((k:Int)+1)=(k:Int)+1:=IntWalk.i64_in _ (by omega)
   generalize marksR[k]=m at *
   go_wp2_with fail
   refine Hcall.out.mono ?_
   rintro en w1 ⟨rfl,rfl⟩
   by_cases he:m.isPrefixOf (s.data.toList.drop i)=true
   ·
    rw [show (ByteArray.mk m.toArray).data.toList.isPrefixOf (s.data.toList.drop i)=true by simpa using he]
    go_wp2_with fail
    go_ret
    exact ⟨by rw [Hf.out,Hd.out];unfold markIx;rw [if_pos he];rfl,rfl⟩
   ·
    rw [show (ByteArray.mk m.toArray).data.toList.isPrefixOf (s.data.toList.drop i)=false from Bool.eq_false_iff.2 (fun e=>he (by simpa using e))]
    go_wp2_with fail
    go_roundw
    case rel=>exact ⟨k+1,by omega,by go_num,by rw [Hf.out,Hd.out,markIx,if_neg he];congr 1,by first|rfl|trivial⟩
    case measure=>simp [intOf];omega
  ·
   have hke:k=24:=by omega
   subst hke
   go_wp2_with fail
   go_ret
   exact ⟨by rw [Hf.out];rfl,rfl⟩
end Go.Proofs.YtkopjgnjflhkeaaDoor
namespace Go.Proofs.YtkopjgnjflhkeaaDoor
open Go.RowKit Go.Pst
set_option linter.unusedVariables false
set_option linter.unusedSimpArgs false
structure TabOK (w:World):Prop where
 is_:Lib.TabIs Tryd.prog w "internal/strconv.uint64pow10" .u64 Lib.pow10Tab
 lt:5<w.heap.size
theorem TabOK.since {F:Nat→Prop} {w w':World} (h:TabOK w) (hs:Since F w w') (hF: ¬F 5):TabOK w':=by
 refine ⟨?_,Nat.lt_of_lt_of_le h.lt hs.size⟩
 have h1:=h.is_
 have hg:Tryd.prog.globalNamed "internal/strconv.uint64pow10"=some 5:=by kernel_rfl
 unfold Lib.TabIs World.var? at *
 rw [hg] at h1 ⊢
 simp only [Option.bind_some] at h1 ⊢
 rw [hs.block _ h.lt hF]
 exact h1
end Go.Proofs.YtkopjgnjflhkeaaDoor
namespace Go.Proofs.YtkopjgnjflhkeaaDoor
open Go.RowKit Go.Pst
set_option linter.unusedVariables false
set_option linter.unusedSimpArgs false
structure ErrOK (w:World):Prop where
 is_: ∃ ev,w.cell? ⟨4,0,none⟩=some ev∧(ev= .nilIface∨ ∃ te pe,ev= .iface te pe)
 lt:4<w.heap.size
theorem ErrOK.since {F:Nat→Prop} {w w':World} (h:ErrOK w) (hs:Since F w w') (hF: ¬F 4):ErrOK w':=by
 obtain ⟨ev,h1,h2⟩:=h.is_
 exact ⟨⟨ev,(hs.cell h.lt hF).trans h1,h2⟩,Nat.lt_of_lt_of_le h.lt hs.size⟩
theorem since_below {w w':World} (h:Below w.heap.size w w'):Since (fun _=>False) w w':=Since.mk (F:=fun _=>False) h.os h.tape h.output h.size (fun k hk _=>h.block k hk)
theorem atoi_small (s:ByteArray) (w:World) (hd:AllDig s.data.toList) (h0:s.data.toList≠[]) (hs:s.size≤4000) (hn:numOf s.data.toList 0<9223372036854775808):
 Calls Tryd.prog 18 #[.string s] w fun e w'=>e= .returned (.tuple #[.int .i64 ((numOf s.data.toList 0:Nat):Int), .nilIface])∧Since (fun _=>False) w w':=by
 refine (Tryd.strconv_Atoi_ok s (by omega) _ (atoi_ok _ hd h0 hn) w).mono ?_
 rintro e w' ⟨rfl,h|⟨t,h⟩⟩
 ·
  exact ⟨rfl,h ▸ Since.refl _ _⟩
 ·
  refine ⟨rfl,h ▸ since_below ?_⟩
  exact ⟨rfl,rfl,rfl,by rw [Lib.bytesWorld_size];omega,fun k hk=>Lib.bytesWorld_at_old w _ t k hk⟩
theorem atoi_great (s:ByteArray) (w:World) (hd:AllDig s.data.toList) (h0:s.data.toList≠[]) (hs:s.size≤4000) (hn:9223372036854775808≤numOf s.data.toList 0) (hE:ErrOK w):
 Calls Tryd.prog 18 #[.string s] w fun e w'=> ∃ b:Nat,e= .returned (.tuple #[.int .i64 9223372036854775807, .iface 97 (.pointer (some ⟨b,0,none⟩))])∧Since (fun _=>False) w w':=by
 obtain ⟨ev,h1,h2⟩:=hE.is_
 refine (Tryd.strconv_Atoi_range s (by omega) (atoi_range _ hd h0 hn) ev w h1 h2).mono ?_
 rintro e w' ⟨N,rfl,-,-,h⟩
 rw [atoiSat_dig _ hd h0]
 exact ⟨N,rfl,since_below h⟩
theorem grow_below {w w':World} {k:Nat} {os:Array Obj} (h:w'=Go.Sort.grow (w.drewN k) os):Below w.heap.size w w':=by
 subst h
 exact ⟨rfl,rfl,rfl,by simp [Go.Sort.grow,World.drewN],fun k hk=>by simp [Go.Sort.grow,World.drewN];rw [Array.getElem?_append_left hk]⟩
theorem itoa_any (n:Nat) (w:World) (hn:n≤1099511627776) (hT:TabOK w):
 Calls Tryd.prog 19 #[.int .i64 (n:Int)] w fun e w'=>e= .returned (.string ⟨(Lib.itoa (n:Int)).toArray⟩)∧Since (fun _=>False) w w':=by
 refine (Tryd.strconv_Itoa n (by omega) (by omega) w hT.is_).mono ?_
 rintro e w' ⟨rfl,k,os,hw⟩
 exact ⟨rfl,since_below (grow_below hw)⟩
end Go.Proofs.YtkopjgnjflhkeaaDoor

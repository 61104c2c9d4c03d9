import Derived.Test.YtkopjgnjflhkeaaDoorTG
namespace Go.Proofs.YtkopjgnjflhkeaaDoor
open Go.RowKit Go.Pst
set_option linter.unusedVariables false
set_option linter.unusedSimpArgs false
set_option maxRecDepth 100000 in
set_option maxHeartbeats 40000000 in
theorem cut_quote {s:ByteArray} {w:World} {br base:Nat} {Res:Except (Int × Int) (List Tok)} {gk:Nat} {t:Array Value} {wr:World} {i bi:Nat} {acc:List Tok} {vT:Value} (hin:CutIn s w br base)
 (hrel:t.size=205∧slotOf t 0= .pointer (some ⟨br,0,none⟩)∧slotOf t 3= .pointer (some ⟨w.heap.size,0,none⟩)∧slotOf t 4= .pointer (some ⟨bi,0,none⟩)∧wr.heap[bi]?=some (.cells #[.int .i64 i] 3 (0,0))∧w.heap.size<bi∧wr.heap[w.heap.size]?=some (.cells #[.string s] 9 (0,0))∧wr.heap[br]?=some (.cells #[vT, .int .i64 0, .int .i64 0, .int .i64 0, .int .i64 0] 49 (0,0))∧wr.ownsRow (w.heap.size+1) 52 4 vT acc.length (rowT acc)∧vT.ownBlock≠some bi∧Since (fun k=>k=br) w wr∧RdLaid wr base br∧TabOK wr∧ErrOK wr∧i≤s.size∧acc.length≤i∧s.size - i≤gk∧Res=cutR gk (s.data.toList.drop i) i acc∧ ∀ t∈acc,TokOK t)
 (hlt:i<s.size) (e1: ¬(s[i]'hlt=32∨s[i]'hlt=10∨s[i]'hlt=9)) (e2:smallB (s[i]'hlt)=false) (e3:digitB (s[i]'hlt)=false) (e4:s[i]'hlt=34):CutTo s w br base Res gk ⟨t,[]⟩ wr:=by
 obtain ⟨ix,ii0,iz0,iz1,iz2⟩:=info_parts infoT
 obtain ⟨hs,hbr,hlb,hgl⟩:=hin
 intro J K _ hJ hKK
 have hsI:(s.size:Int)≤4000:=by omega
 obtain ⟨wo,hwo⟩: ∃ wo,wo=wr:=⟨_,rfl⟩
 subst hwo
 obtain ⟨hsize,h0,h3,h4,ki,hbi,ks,kb,hown,hne,hS,hL,hT,hE,his,hai,hk,hR,hok⟩:=hrel
 obtain ⟨aT,cT,rfl,hc1,hc2⟩:=row_slice hown
 have hlti:=(Array.getElem?_eq_some_iff.1 ki).1
 have gi:=ca0 ki
 have gs:=ca0 ks
 have giz:=cz ki
 have Ki:=zh ki
 have Ks:=zh ks
 have Kb:=zh kb
 have Hown:=zh hown
 have Hne:=zh hne
 have HS:=zh hS
 have HL:=zh hL
 have HT:=zh hT
 have HE:=zh hE
 have HR:=zh hR
 have Hok:=zh hok
 clear ki ks kb hown hne hS hL hT hE hR hok
 obtain ⟨k',rfl⟩: ∃ k',gk=k'+1:=⟨gk - 1,by omega⟩
 have hlt1:(i:Int)<s.size:=by omega
 have hd:=drop_get s i hlt
 have hx:=(s[i]'hlt).toNat_lt
 obtain ⟨c,hc⟩: ∃ c,c=s[i]'hlt:=⟨_,rfl⟩
 have HR2:=zh (show Res=match tokR (c::s.data.toList.drop (i+1)) i with
  | .error e=> .error ((i:Int),e)
  | .ok (none,n)=>cutR k' ((c::s.data.toList.drop (i+1)).drop n) (i+n) acc
  | .ok (some t,n)=>cutR k' ((c::s.data.toList.drop (i+1)).drop n) (i+n) (acc++[t]) from HR.out.trans (by rw [hd,←hc];rfl))
 have Hd:=zh (show s.data.toList.drop i=c::s.data.toList.drop (i+1) by rw [hd,←hc])
 have Hc:=zh hc
 have hci:((s[i]'hlt).toNat:Int)=(c.toNat:Int):=by rw [hc]
 have hcx:c.toNat<256:=by rw [hc];exact hx
 clear hd hc hx HR
 rw [←Hc.out] at e1
 rw [←Hc.out] at e2
 rw [←Hc.out] at e3
 have Z3:=zh e3
 clear e3
 rw [←Hc.out] at e4
 have Z4:=zh e4
 clear e4
 unfold cutBody
 conv=>arg 2;whnf
 rw [frame205 t hsize,h0,h3,h4]
 clear hsize h0 h3 h4
 have hn32: ¬(c.toNat:Int)=32:=byte_ne c 32 (by decide) (fun e=>e1 (Or.inl e))
 have hn10: ¬(c.toNat:Int)=10:=byte_ne c 10 (by decide) (fun e=>e1 (Or.inr (Or.inl e)))
 have hn9: ¬(c.toNat:Int)=9:=byte_ne c 9 (by decide) (fun e=>e1 (Or.inr (Or.inr e)))
 have fb32:((c.toNat:Int)==32)=false:=by simpa using hn32
 have fb10:((c.toNat:Int)==10)=false:=by simpa using hn10
 have fb9:((c.toNat:Int)==9)=false:=by simpa using hn9
 have Hlet:=zh (letter_any c wo)
 have Hdig:=zh (digit_any c wo)
 have E1:=zh e1
 clear e1
 have E2:=zh e2
 clear e2
 go_wp2_with fail
 refine Hlet.out.mono ?_
 rintro en w1 ⟨rfl,rfl⟩
 rw [E2.out]
 go_wp2_with fail
 refine Hdig.out.mono ?_
 rintro en w2 ⟨rfl,rfl⟩
 clear Hlet Hdig
 have e3:=Z3.out
 have E3:=zh e3
 clear e3
 obtain ⟨wo,hwo⟩: ∃ wo,wo=w2:=⟨_,rfl⟩
 subst hwo
 have e4:=Z4.out
 subst e4
 replace hci:((s[i]'hlt).toNat:Int)=34:=by rw [hci];rfl
 obtain ⟨X,hX⟩: ∃ X,X=textR (s.data.toList.drop (i+1)) [] 0:=⟨_,rfl⟩
 have hct:=readText_any s i wo hlt hs
 rw [←hX] at hct
 have Hct:=zh hct
 have Htok:=zh (show tokR (34::s.data.toList.drop (i+1)) i=textTok (i:Int) X from by rw [hX];exact tokR_text _ _)
 have HX:=zh hX
 clear hct hX
 go_wp2_with fail
 refine Hct.out.mono ?_
 rintro en w2 ⟨t,kk,e,rfl,hs2,hm⟩
 have hzm:=hs2.size
 replace Ki:=zh ((hs2.block bi (by omega) (fun f=>f)).trans Ki.out)
 replace Ks:=zh ((hs2.block w.heap.size (by omega) (fun f=>f)).trans Ks.out)
 replace Kb:=zh ((hs2.block br (by omega) (fun f=>f)).trans Kb.out)
 replace Hown:=zh (hs2.row Hown.out (fun k e f=>f))
 replace HS:=zh (show Since (fun k=>k=br) w w2 from HS.out.trans (hs2.mono (fun _ f=>f.elim)))
 replace HL:=zh (HL.out.later hs2)
 replace HT:=zh (HT.out.since hs2 (fun f=>f))
 replace HE:=zh (HE.out.since hs2 (fun f=>f))
 replace gi:w2.cell? ⟨bi,0,none⟩=some (.int .i64 i):=by have k:=Ki.out;simp [World.cell?,k]
 replace gs:w2.cell? ⟨w.heap.size,0,none⟩=some (.string s):=by have k:=Ks.out;simp [World.cell?,k]
 replace giz: ∀ j,w2.frozen? ⟨bi,j,none⟩=false:=fun j=>by have k:=Ki.out;simp [World.frozen?,k]
 replace hlti:=Nat.lt_of_lt_of_le hlti hzm
 clear hzm
 clear hs2
 match X,hm,Htok,HX with
 | .error x,hm,Htok,HX=>
  have hm2:e=x:=hm
  have HE9:=zh (show tokR (34::s.data.toList.drop (i+1)) i= .error x from Htok.out)
  subst hm2
  have hx45:=textR_err _ _ _ _ HX.out.symm
  have fe:(e==0)=false:=by rcases hx45 with h|h<;>rw [h]<;>rfl
  have hne0:e≠0:=by rcases hx45 with h|h<;>rw [h]<;>decide
  have Hne0:=zh hne0
  clear hm hx45 hne0
  go_wp2_with fail
  refine (wrongC (.slice aT acc.length cT) (i:Int) e _ Kb.out).mono ?_
  rintro en w9 ⟨rfl,hw9,hs9⟩
  have Hw9:=zh hw9
  have Hs9:=zh (HS.out.trans hs9)
  clear hw9 hs9
  go_wp2_with fail
  go_end0
  refine ⟨rfl,Hs9.out,?_⟩
  rw [HR2.out,HE9.out]
  exact ⟨Hw9.out.1,Hw9.out.2,Hne0.out⟩
 | .ok (l,m),hm,Htok,HX=>
  have HE9:=zh (show tokR (34::s.data.toList.drop (i+1)) i= .ok (some ⟨116,⟨l.toArray⟩,0,(i:Int)⟩,m+1) from Htok.out)
  obtain ⟨rfl,hk,rfl⟩:=(show t=⟨l.toArray⟩∧kk=((i+1+m:Nat):Int)∧e=0 from hm)
  obtain ⟨k,hkk⟩: ∃ k:Nat,k=i+1+m:=⟨_,rfl⟩
  rw [←hkk] at hk
  subst hk
  have hbd:=textR_len _ _ _ _ _ HX.out.symm
  have hdl:(s.data.toList.drop (i+1)).length=s.size - (i+1):=by rw [List.length_drop,show s.data.toList.length=s.size from Array.length_toList]
  rw [hdl] at hbd
  have hks:k≤s.size:=by omega
  have hik1:i+1≤k:=by omega
  have hkI2:(k:Int)≤(s.size:Int):=by omega
  have Hnk:=zh (show i+(m+1)=k by omega)
  have HtokOK:=zh (show TokOK ⟨116,⟨l.toArray⟩,0,(i:Int)⟩ from tokOK_mk (by decide) (by show l.toArray.size≤maxLen;simp [maxLen];simp at hbd;omega) (by decide) (by omega))
  clear hm hkk hbd hdl
  go_upto_region 34 with fail
  have hS0:(fun w'=>w'.cell? ⟨br,0,none⟩=some (.slice aT acc.length cT)∧w'.cell? ⟨w.heap.size,0,none⟩=some (.string s)∧w'.cell? ⟨bi,0,none⟩=some (.int .i64 i)∧True) w2.drew:=by
   have kb:=Kb.out
   have ks:=Ks.out
   have ki:=Ki.out
   exact ⟨by show w2.cell? _=_;simp [World.cell?,kb],by show w2.cell? _=_;simp [World.cell?,ks],by show w2.cell? _=_;simp [World.cell?,ki],trivial⟩
  refine WpT.start (fun w'=>w'.cell? ⟨br,0,none⟩=some (.slice aT acc.length cT)∧w'.cell? ⟨w.heap.size,0,none⟩=some (.string s)∧w'.cell? ⟨bi,0,none⟩=some (.int .i64 i)∧True) 12 (by as_aux_lemma=>kernel_rfl) ?_
  refine WpT.tk (i:=0) (v:=?_) rfl (by as_aux_lemma=>kernel_rfl) (fun _ _ _ h=>h) (Or.inl ⟨by rfl,?_⟩) hS0 ?_
  rotate_left
  ·
   intro wS hSw;obtain ⟨q0,q1,q2,q3⟩:=hSw;go_simp;(first|done|with_reducible rfl)
  try simp only [Act.put,List.setIfInBounds_toArray,List.set_cons_zero,List.set_cons_succ]
  refine WpT.tk (i:=1) (v:=?_) rfl (by as_aux_lemma=>kernel_rfl) (fun _ _ _ h=>h) (Or.inl ⟨by rfl,?_⟩) hS0 ?_
  rotate_left
  ·
   intro wS hSw;obtain ⟨q0,q1,q2,q3⟩:=hSw;go_simp;(first|done|with_reducible rfl)
  try simp only [Act.put,List.setIfInBounds_toArray,List.set_cons_zero,List.set_cons_succ]
  refine WpT.tk (i:=2) (v:=?_) rfl (by as_aux_lemma=>kernel_rfl) (fun _ _ _ h=>h) (Or.inl ⟨by rfl,?_⟩) hS0 ?_
  rotate_left
  ·
   intro wS hSw;obtain ⟨q0,q1,q2,q3⟩:=hSw;go_simp;(first|done|with_reducible rfl)
  try simp only [Act.put,List.setIfInBounds_toArray,List.set_cons_zero,List.set_cons_succ]
  refine WpT.tk (i:=3) (v:=?_) rfl (by as_aux_lemma=>kernel_rfl) (fun _ _ _ h=>h) (Or.inl ⟨by rfl,?_⟩) hS0 ?_
  rotate_left
  ·
   intro wS hSw;obtain ⟨q0,q1,q2,q3⟩:=hSw;go_simp;(first|done|with_reducible rfl)
  try simp only [Act.put,List.setIfInBounds_toArray,List.set_cons_zero,List.set_cons_succ]
  refine WpT.tk (i:=4) (v:=?_) rfl (by as_aux_lemma=>kernel_rfl) (fun _ _ _ h=>h) (Or.inl ⟨by rfl,?_⟩) hS0 ?_
  rotate_left
  ·
   intro wS hSw;obtain ⟨q0,q1,q2,q3⟩:=hSw;go_simp;(first|done|with_reducible rfl)
  try simp only [Act.put,List.setIfInBounds_toArray,List.set_cons_zero,List.set_cons_succ]
  refine WpT.tk (i:=5) (v:=?_) rfl (by as_aux_lemma=>kernel_rfl) (fun _ _ _ h=>h) (Or.inl ⟨by rfl,?_⟩) hS0 ?_
  rotate_left
  ·
   intro wS hSw;obtain ⟨q0,q1,q2,q3⟩:=hSw;go_simp;(first|done|with_reducible rfl)
  try simp only [Act.put,List.setIfInBounds_toArray,List.set_cons_zero,List.set_cons_succ]
  refine WpT.tk (i:=6) (v:=?_) rfl (by as_aux_lemma=>kernel_rfl) (fun _ _ _ h=>h) (Or.inl ⟨by rfl,?_⟩) hS0 ?_
  rotate_left
  ·
   intro wS hSw;obtain ⟨q0,q1,q2,q3⟩:=hSw;go_simp;(first|done|with_reducible rfl)
  try simp only [Act.put,List.setIfInBounds_toArray,List.set_cons_zero,List.set_cons_succ]
  refine WpT.tk (i:=7) (v:=?_) rfl (by as_aux_lemma=>kernel_rfl) (fun _ _ _ h=>h) (Or.inl ⟨by rfl,?_⟩) hS0 ?_
  rotate_left
  ·
   intro wS hSw;obtain ⟨q0,q1,q2,q3⟩:=hSw;go_simp;(first|done|with_reducible rfl)
  try simp only [Act.put,List.setIfInBounds_toArray,List.set_cons_zero,List.set_cons_succ]
  have sa:Since (fun _=>False) w2 (w2.drew.alloc (.cells #[.int .u8 116, .string ⟨l.toArray⟩, .int .i64 0, .int .i64 i] 52)):=(Since.drew _ _).trans (Since.alloc _ _ _)
  have hlta:=sa.size
  have hS1:(fun w'=>w'.cell? ⟨br,0,none⟩=some (.slice aT acc.length cT)∧w'.cell? ⟨w.heap.size,0,none⟩=some (.string s)∧w'.cell? ⟨bi,0,none⟩=some (.int .i64 i)∧True) (w2.drew.alloc (.cells #[.int .u8 116, .string ⟨l.toArray⟩, .int .i64 0, .int .i64 i] 52)):=⟨(sa.cell (b:=br) (o:=0) (by omega) (fun f=>f)).trans hS0.1,(sa.cell (b:=w.heap.size) (o:=0) (by omega) (fun f=>f)).trans hS0.2.1,(sa.cell (b:=bi) (o:=0) (by omega) (fun f=>f)).trans hS0.2.2.1,trivial⟩
  refine WpT.one (i:=8) (by as_aux_lemma=>kernel_rfl) rfl (fun K hK9=>?_)
  go_simp
  refine hK9.out _ _ (fun _ _=>hS1) ?_
  clear hK9 K
  try simp only [Act.put,List.setIfInBounds_toArray,List.set_cons_zero,List.set_cons_succ]
  refine WpT.one (i:=9) (by as_aux_lemma=>kernel_rfl) rfl (fun K hK9=>?_)
  refine step_append_lies _ (by rfl) _ _ _ (by rfl) (w.heap.size+1) 52 ix _ 4 40 Tryd.underlying47 ii0 iz0 iz1 iz2 rfl (by decide) _ _ _ (by rfl) (Hown.out.drew.alloc _) ⟨w2.heap.size,0,none⟩ 1 1 [.int .u8 116, .string ⟨l.toArray⟩, .int .i64 0, .int .i64 i] (by rfl) (by rfl) (World.news_of_block (cs:= #[.int .u8 116, .string ⟨l.toArray⟩, .int .i64 0, .int .i64 i]) (t:=52) (fr:=(0,0)) (heap_alloc_new w2.drew _)) (by simp [Value.oneCell']) (by decide) (by unfold maxLen;omega) (by omega) (by show w.heap.size+1≤(w2.alloc _).heap.size;rw [World.size_alloc];omega) (w2.heap.size+1) (by simp) ?_
  intro gg cap5 w5 hown5 hg5 hat5 hlt5
  have hs5:Since (fun k=>(Value.slice aT acc.length cT).ownBlock=some k) w2 w5:=(sa.mono (fun _ f=>f.elim)).trans (Since.grown hg5)
  have hne5: ∀ k,(Value.slice aT acc.length cT).ownBlock=some k→w.heap.size+1≤k:=fun k e=>(Hown.out.lt k e).1
  have kb5:=(hs5.block br (by omega) (fun f=>by have:=hne5 _ f;omega)).trans Kb.out
  have ks5:=(hs5.block w.heap.size (by omega) (fun f=>by have:=hne5 _ f;omega)).trans Ks.out
  have ki5:=(hs5.block bi (by omega) (fun f=>Hne.out f)).trans Ki.out
  have hz5:=hs5.size
  have hS5:(fun w'=>w'.cell? ⟨br,0,none⟩=some (.slice aT acc.length cT)∧w'.cell? ⟨w.heap.size,0,none⟩=some (.string s)∧w'.cell? ⟨bi,0,none⟩=some (.int .i64 i)∧True) w5:=⟨by simp [World.cell?,kb5],by simp [World.cell?,ks5],by simp [World.cell?,ki5],trivial⟩
  refine hK9.out _ _ (fun _ _=>hS5) ?_
  clear hK9 K
  try simp only [Act.put,List.setIfInBounds_toArray,List.set_cons_zero,List.set_cons_succ]
  refine WpT.one (i:=10) (by as_aux_lemma=>kernel_rfl) rfl (fun K hK9=>?_)
  go_simp
  refine hK9.out _ _ (fun _ _=>hS5) ?_
  clear hK9 K
  try simp only [Act.put,List.setIfInBounds_toArray,List.set_cons_zero,List.set_cons_succ]
  refine WpT.one (i:=11) (by as_aux_lemma=>kernel_rfl) rfl (fun K hK9=>?_)
  go_simp
  refine hK9.out _ _ (fun _ _=>hS5) ?_
  clear hK9 K
  try simp only [Act.put,List.setIfInBounds_toArray,List.set_cons_zero,List.set_cons_succ]
  have gb5z:=cz kb5
  have gb5:w5.cell? ⟨br,0,none⟩=some (.slice aT acc.length cT):=hS5.1
  have kb6:(w5.setCell ⟨br,0,none⟩ (.slice (some ⟨gg,0,none⟩) (acc.length+1) cap5)).heap[br]?=some (.cells #[.slice (some ⟨gg,0,none⟩) (acc.length+1) cap5, .int .i64 0, .int .i64 0, .int .i64 0, .int .i64 0] 49 (0,0)):=by have:=box_set kb5 0 (.slice (some ⟨gg,0,none⟩) (acc.length+1) cap5) (by simp);simpa using this
  have ss6:Since (fun k=>k=br) w5 (w5.setCell ⟨br,0,none⟩ (.slice (some ⟨gg,0,none⟩) (acc.length+1) cap5)):=Since.setCell w5 ⟨br,0,none⟩ _
  have hown6:=ss6.row hown5 (fun k e f=>by have:=(hown5.lt k e).1;omega)
  have hne6:(Value.slice (some ⟨gg,0,none⟩) (acc.length+1) cap5).ownBlock≠some bi:=fun e=>by
   have e2:gg=bi:=by simpa [Value.ownBlock] using e
   rcases hat5 with h|h
   ·
    exact Hne.out (h.trans (congrArg some e2))
   ·
    omega
  have ks6:=(ss6.block w.heap.size (by omega) (by omega)).trans ks5
  have ki6:=(ss6.block bi (by omega) (by omega)).trans ki5
  have hS6:=(HS.out.then_new hs5 (fun k f=>Or.inr (by have:=hne5 k f;omega))).trans ss6
  have hL6:=(HL.out.since hs5 (fun k f=>by have:=hne5 k f;omega)).since ss6 (fun k e=>by omega)
  have hT6:=(HT.out.since hs5 (fun f=>by have:=hne5 _ f;omega)).since ss6 (by omega)
  have hE6:=(HE.out.since hs5 (fun f=>by have:=hne5 _ f;omega)).since ss6 (by omega)
  have hz6:=ss6.size
  have Kb6:=zh kb6
  have Ks6:=zh ks6
  have Ki6:=zh ki6
  have Hown6:=zh hown6
  have Hne6:=zh hne6
  have HS6:=zh hS6
  have HL6:=zh hL6
  have HT6:=zh hT6
  have HE6:=zh hE6
  clear hs5 hne5 kb5 ks5 ki5 kb6 ss6 hown6 hne6 ks6 ki6 hS6 hL6 hT6 hE6 hown5 hg5 hat5
  refine WpT.one (i:=12) (by as_aux_lemma=>kernel_rfl) rfl (fun K hK9=>?_)
  go_simp
  refine hK9.out _ _ (fun h=>absurd rfl h) ?_
  clear hK9 K
  try simp only [Act.put,List.setIfInBounds_toArray,List.set_cons_zero,List.set_cons_succ]
  refine WpT.done (by as_aux_lemma=>kernel_rfl) ?_ _
  go_upto_region 35 with fail
  generalize w5.setCell ⟨br,0,none⟩ (.slice (some ⟨gg,0,none⟩) (acc.length+1) cap5)=w6 at *
  clear hS0 hS1 hS5 gb5 gb5z sa
  have gi6:w6.cell? ⟨bi,0,none⟩=some (.int .i64 i):=by have k:=Ki6.out;simp [World.cell?,k]
  have gi6z: ∀ j,w6.frozen? ⟨bi,j,none⟩=false:=fun j=>by have k:=Ki6.out;simp [World.frozen?,k]
  have ss7:Since (fun k=>k=bi) w6 (w6.setCell ⟨bi,0,none⟩ (.int .i64 (k:Nat))):=Since.setCell w6 ⟨bi,0,none⟩ _
  have ss8:Since (fun _=>False) (w6.setCell ⟨bi,0,none⟩ (.int .i64 (k:Nat))) ((w6.setCell ⟨bi,0,none⟩ (.int .i64 (k:Nat))).alloc (.cells #[.int .i64 (k:Nat)] 3)):=Since.alloc _ _ _
  have hz7:=ss7.size
  have hz8:=ss8.size
  have hsz7:(w6.setCell ⟨bi,0,none⟩ (.int .i64 (k:Nat))).heap.size=w6.heap.size:=by simp [World.setCell]
  have kN:=heap_alloc_new (w6.setCell ⟨bi,0,none⟩ (.int .i64 (k:Nat))) (.cells #[.int .i64 (k:Nat)] 3)
  rw [hsz7] at kN
  have HP:=zh (And.intro kN (And.intro ((ss8.block w.heap.size (by omega) (fun f=>f)).trans ((ss7.block w.heap.size (by omega) (by omega)).trans Ks6.out)) (And.intro ((ss8.block br (by omega) (fun f=>f)).trans ((ss7.block br (by omega) (by omega)).trans Kb6.out)) (And.intro (ss8.row (ss7.row Hown6.out (fun k e f=>Hne6.out (e.trans (congrArg some f)))) (fun k e f=>f)) (And.intro ((HS6.out.then_new ss7 (fun k e=>Or.inr (by omega))).trans (ss8.mono (fun _ f=>f.elim))) (And.intro ((HL6.out.since ss7 (fun k e=>by omega)).later ss8) (And.intro ((HT6.out.since ss7 (by omega)).since ss8 (fun f=>f)) ((HE6.out.since ss7 (by omega)).since ss8 (fun f=>f)))))))))
  have hbN:w.heap.size<w6.heap.size:=by omega
  have hneN:(Value.slice (some ⟨gg,0,none⟩) (acc.length+1) cap5).ownBlock≠some w6.heap.size:=fun e=>by have:=(Hown6.out.lt _ e).2;omega
  have HneN:=zh hneN
  clear ss7 ss8 kN hneN hsz7
  go_wp2_with fail
  clear gi6 gi6z
  refine Handed.intro k' ?measure ?_
  rotate_left
  go_step
  rotate_left
  ·
   omega
  ·
   obtain ⟨p1,p2,p3,p4,p5,p6,p7,p8⟩:=HP.out
   refine ⟨_,k,_,acc++[⟨116,⟨l.toArray⟩,0,(i:Int)⟩],_,rfl,rfl,rfl,rfl,rfl,p1,hbN,p2,by simpa using p3,by rw [rowT_snoc];simpa [tokC] using p4,by simpa using HneN.out,p5,p6,p7,p8,by omega,by simp;omega,by omega,?_,fun t ht=>?_⟩
   ·
    rw [HR2.out,HE9.out];dsimp only;rw [←Hd.out,List.drop_drop,Hnk.out]
   ·
    rcases List.mem_append.1 ht with h|h
    ·
     exact Hok.out t h
    ·
     rw [List.mem_singleton] at h;subst h;exact HtokOK.out
end Go.Proofs.YtkopjgnjflhkeaaDoor

import Derived.Test.YtkopjgnjflhkeaaDoorTG
import Derived.Test.YtkopjgnjflhkeaaDoorTZG
import Derived.Test.YtkopjgnjflhkeaaDoorTZH
import Derived.Test.YtkopjgnjflhkeaaDoorTZI
import Derived.Test.YtkopjgnjflhkeaaDoorTZJ
namespace Go.Proofs.YtkopjgnjflhkeaaDoor
open Go.RowKit Go.Pst
set_option linter.unusedVariables false
set_option linter.unusedSimpArgs false
variable {w:World} {br bT cap base:Nat} {T:List Tok} {st:RSt} {dep:Int}
set_option maxRecDepth 4000 in
set_option maxHeartbeats 40000000 in
theorem readCut_any (s:ByteArray) (hs:s.size≤4000) (w:World) (hb:w.heap[br]?=some (.cells #[.slice none 0 0, .int .i64 0, .int .i64 0, .int .i64 0, .int .i64 0] 49 (0,0))) (hL:RdLaid w base br) (hT:TabOK w) (hE:ErrOK w) (hg:5<base∧4<base):
 Calls Tryd.prog 10 #[.pointer (some ⟨br,0,none⟩), .string s] w (CutEnd w br base (cutR s.size s.data.toList 0 [])):=by
 obtain ⟨ix,ii0,iz0,iz1,iz2⟩:=info_parts infoT
 obtain ⟨Res,hres⟩: ∃ Res,Res=cutR s.size s.data.toList 0 []:=⟨_,rfl⟩
 rw [←hres]
 have hbr:=(Array.getElem?_eq_some_iff.1 hb).1
 have hlb:=hL.lb
 have hsI:(s.size:Int)≤4000:=by omega
 have hgl:=hg
 have s0:Since (fun _=>False) w ((w.alloc (.cells #[.string s] 9)).alloc (.cells #[.int .i64 0] 3)):=(Since.alloc _ _ _).trans (Since.alloc _ _ _)
 have k1:((w.alloc (.cells #[.string s] 9)).alloc (.cells #[.int .i64 0] 3)).heap[w.heap.size]?=some (.cells #[.string s] 9 (0,0)):=allocs_get [(.cells #[.string s] 9),(.cells #[.int .i64 0] 3)] w 0 (by simp)
 have k2:((w.alloc (.cells #[.string s] 9)).alloc (.cells #[.int .i64 0] 3)).heap[w.heap.size+1]?=some (.cells #[.int .i64 0] 3 (0,0)):=allocs_get [(.cells #[.string s] 9),(.cells #[.int .i64 0] 3)] w 1 (by simp)
 have k0:=(s0.block br hbr (fun f=>f)).trans hb
 have HL:=zh (hL.later s0)
 have HT:=zh (hT.since s0 (fun f=>f))
 have HE:=zh (hE.since s0 (fun f=>f))
 have S0:=zh s0
 have Hres:=zh hres
 have K0:=zh k0
 have K1:=zh k1
 have K2:=zh k2
 have hz0:w.heap.size+1<((w.alloc (.cells #[.string s] 9)).alloc (.cells #[.int .i64 0] 3)).heap.size:=(Array.getElem?_eq_some_iff.1 k2).1
 have HIN:=zh (show CutIn s w br base from ⟨hs,hbr,hlb,hgl⟩)
 clear hb hL hT hE hg s0 k0 k1 k2 hres
 go_enter Tryd.func10,Tryd.ntmps10
 go_wp2_with fail
 generalize (w.alloc (.cells #[.string s] 9)).alloc (.cells #[.int .i64 0] 3)=w0 at *
 refine wp_loop_ghost_k (CutI s w br base Res) s.size ?_ ?_
 ·
  exact ⟨_,0,w.heap.size+1,[], .slice none 0 0,rfl,rfl,rfl,rfl,rfl,K2.out,Nat.lt_succ_self _,K1.out,K0.out,World.ownsRow_nil _ _ _ _,by simp [Value.ownBlock],S0.out.mono (fun _ f=>f.elim),HL.out,HT.out,HE.out,Nat.zero_le _,Nat.le_refl _,by omega,by rw [Hres.out];rfl,fun t ht=>by cases ht⟩
 ·
  intro gk a wr hrel J K hJ hKK
  clear HL HT HE K0 K1 K2 S0 hz0
  obtain ⟨wo,hwo⟩: ∃ wo,wo=wr:=⟨_,rfl⟩
  subst hwo
  obtain ⟨t,i,bi,acc,vT,rfl,hrel⟩:=hrel
  have Hrel:=zh hrel
  obtain ⟨hsize,h0,h3,h4,ki,hbi,ks,kb,hown,hne,hS,hL,hT,hE,his,hai,hk,hR,hok⟩:=hrel
  obtain ⟨aT,cT,rfl,hc1,hc2⟩:=row_slice hown
  have hlti:=(Array.getElem?_eq_some_iff.1 ki).1
  have gi:=ca0 ki
  have gs:=ca0 ks
  have giz:=cz ki
  have Ki:=zh ki
  have Ks:=zh ks
  have Kb:=zh kb
  have Hown:=zh hown
  have Hne:=zh hne
  have HS:=zh hS
  have HL:=zh hL
  have HT:=zh hT
  have HE:=zh hE
  have HR:=zh hR
  have Hok:=zh hok
  clear ki ks kb hown hne hS hL hT hE hR hok
  by_cases hlt:i<s.size
  ·
   by_cases b1:s[i]'hlt=32
   ·
    exact cut_b32 HIN.out Hrel.out hlt b1 J K _ hJ hKK
   by_cases b2:s[i]'hlt=10
   ·
    exact cut_b10 HIN.out Hrel.out hlt b2 J K _ hJ hKK
   by_cases b3:s[i]'hlt=9
   ·
    exact cut_b9 HIN.out Hrel.out hlt b3 J K _ hJ hKK
   have e1: ¬(s[i]'hlt=32∨s[i]'hlt=10∨s[i]'hlt=9):=fun h=>by rcases h with h|h|h<;>contradiction
   by_cases e2:smallB (s[i]'hlt)=true
   ·
    exact cut_word HIN.out Hrel.out hlt e1 e2 J K _ hJ hKK
   replace e2:smallB (s[i]'hlt)=false:=by simpa using e2
   by_cases e3:digitB (s[i]'hlt)=true
   ·
    exact cut_num HIN.out Hrel.out hlt e1 e2 e3 J K _ hJ hKK
   replace e3:digitB (s[i]'hlt)=false:=by simpa using e3
   by_cases e4:s[i]'hlt=34
   ·
    exact cut_quote HIN.out Hrel.out hlt e1 e2 e3 e4 J K _ hJ hKK
   ·
    exact cut_mark HIN.out Hrel.out hlt e1 e2 e3 e4 J K _ hJ hKK
  ·
   have hie:i=s.size:=by omega
   have Hie:=zh hie
   unfold CutI at hJ
   rw [frame205 t hsize,h0,h3,h4]
   clear hsize h0 h3 h4 hJ hKK
   have hsi:(s.size:Int)=(i:Int):=by omega
   have hii:(i:Int)≤4000:=by omega
   clear hlt
   go_upto_region 38 with fail
   have hS0:(fun w'=>w'.cell? ⟨br,0,none⟩=some (.slice aT acc.length cT)∧w'.cell? ⟨w.heap.size,0,none⟩=some (.string s)∧w'.cell? ⟨bi,0,none⟩=some (.int .i64 i)∧True) wo.drew:=by
    have kb:=Kb.out
    have ks:=Ks.out
    have ki:=Ki.out
    exact ⟨by show wo.cell? _=_;simp [World.cell?,kb],by show wo.cell? _=_;simp [World.cell?,ks],by show wo.cell? _=_;simp [World.cell?,ki],trivial⟩
   refine WpT.start (fun w'=>w'.cell? ⟨br,0,none⟩=some (.slice aT acc.length cT)∧w'.cell? ⟨w.heap.size,0,none⟩=some (.string s)∧w'.cell? ⟨bi,0,none⟩=some (.int .i64 i)∧True) 12 (by as_aux_lemma=>kernel_rfl) ?_
   refine WpT.tk (i:=0) (v:=?_) rfl (by as_aux_lemma=>kernel_rfl) (fun _ _ _ h=>h) (Or.inl ⟨by rfl,?_⟩) hS0 ?_
   rotate_left
   ·
    intro wS hSw;obtain ⟨q0,q1,q2,q3⟩:=hSw;go_simp;(first|done|with_reducible rfl)
   try simp only [Act.put,List.setIfInBounds_toArray,List.set_cons_zero,List.set_cons_succ]
   refine WpT.tk (i:=1) (v:=?_) rfl (by as_aux_lemma=>kernel_rfl) (fun _ _ _ h=>h) (Or.inl ⟨by rfl,?_⟩) hS0 ?_
   rotate_left
   ·
    intro wS hSw;obtain ⟨q0,q1,q2,q3⟩:=hSw;go_simp;(first|done|with_reducible rfl)
   try simp only [Act.put,List.setIfInBounds_toArray,List.set_cons_zero,List.set_cons_succ]
   refine WpT.tk (i:=2) (v:=?_) rfl (by as_aux_lemma=>kernel_rfl) (fun _ _ _ h=>h) (Or.inl ⟨by rfl,?_⟩) hS0 ?_
   rotate_left
   ·
    intro wS hSw;obtain ⟨q0,q1,q2,q3⟩:=hSw;go_simp;(first|done|with_reducible rfl)
   try simp only [Act.put,List.setIfInBounds_toArray,List.set_cons_zero,List.set_cons_succ]
   refine WpT.tk (i:=3) (v:=?_) rfl (by as_aux_lemma=>kernel_rfl) (fun _ _ _ h=>h) (Or.inl ⟨by rfl,?_⟩) hS0 ?_
   rotate_left
   ·
    intro wS hSw;obtain ⟨q0,q1,q2,q3⟩:=hSw;go_simp;(first|done|with_reducible rfl)
   try simp only [Act.put,List.setIfInBounds_toArray,List.set_cons_zero,List.set_cons_succ]
   refine WpT.tk (i:=4) (v:=?_) rfl (by as_aux_lemma=>kernel_rfl) (fun _ _ _ h=>h) (Or.inl ⟨by rfl,?_⟩) hS0 ?_
   rotate_left
   ·
    intro wS hSw;obtain ⟨q0,q1,q2,q3⟩:=hSw;go_simp;(first|done|with_reducible rfl)
   try simp only [Act.put,List.setIfInBounds_toArray,List.set_cons_zero,List.set_cons_succ]
   refine WpT.tk (i:=5) (v:=?_) rfl (by as_aux_lemma=>kernel_rfl) (fun _ _ _ h=>h) (Or.inl ⟨by rfl,?_⟩) hS0 ?_
   rotate_left
   ·
    intro wS hSw;obtain ⟨q0,q1,q2,q3⟩:=hSw;go_simp;(first|done|with_reducible rfl)
   try simp only [Act.put,List.setIfInBounds_toArray,List.set_cons_zero,List.set_cons_succ]
   refine WpT.tk (i:=6) (v:=?_) rfl (by as_aux_lemma=>kernel_rfl) (fun _ _ _ h=>h) (Or.inl ⟨by rfl,?_⟩) hS0 ?_
   rotate_left
   ·
    intro wS hSw;obtain ⟨q0,q1,q2,q3⟩:=hSw;go_simp;(first|done|with_reducible rfl)
   try simp only [Act.put,List.setIfInBounds_toArray,List.set_cons_zero,List.set_cons_succ]
   refine WpT.tk (i:=7) (v:=?_) rfl (by as_aux_lemma=>kernel_rfl) (fun _ _ _ h=>h) (Or.inl ⟨by rfl,?_⟩) hS0 ?_
   rotate_left
   ·
    intro wS hSw;obtain ⟨q0,q1,q2,q3⟩:=hSw;go_simp;(first|done|with_reducible rfl)
   try simp only [Act.put,List.setIfInBounds_toArray,List.set_cons_zero,List.set_cons_succ]
   have sa:Since (fun _=>False) wo (wo.drew.alloc (.cells #[.int .u8 101, .string ⟨#[]⟩, .int .i64 0, .int .i64 i] 52)):=(Since.drew _ _).trans (Since.alloc _ _ _)
   have hlta:=sa.size
   have hS1:(fun w'=>w'.cell? ⟨br,0,none⟩=some (.slice aT acc.length cT)∧w'.cell? ⟨w.heap.size,0,none⟩=some (.string s)∧w'.cell? ⟨bi,0,none⟩=some (.int .i64 i)∧True) (wo.drew.alloc (.cells #[.int .u8 101, .string ⟨#[]⟩, .int .i64 0, .int .i64 i] 52)):=⟨(sa.cell (b:=br) (o:=0) (by omega) (fun f=>f)).trans hS0.1,(sa.cell (b:=w.heap.size) (o:=0) (by omega) (fun f=>f)).trans hS0.2.1,(sa.cell (b:=bi) (o:=0) (by omega) (fun f=>f)).trans hS0.2.2.1,trivial⟩
   refine WpT.one (i:=8) (by as_aux_lemma=>kernel_rfl) rfl (fun K hK9=>?_)
   go_simp
   refine hK9.out _ _ (fun _ _=>hS1) ?_
   clear hK9 K
   try simp only [Act.put,List.setIfInBounds_toArray,List.set_cons_zero,List.set_cons_succ]
   refine WpT.one (i:=9) (by as_aux_lemma=>kernel_rfl) rfl (fun K hK9=>?_)
   refine step_append_lies _ (by rfl) _ _ _ (by rfl) (w.heap.size+1) 52 ix _ 4 40 Tryd.underlying47 ii0 iz0 iz1 iz2 rfl (by decide) _ _ _ (by rfl) (Hown.out.drew.alloc _) ⟨wo.heap.size,0,none⟩ 1 1 [.int .u8 101, .string ⟨#[]⟩, .int .i64 0, .int .i64 i] (by rfl) (by rfl) (World.news_of_block (cs:= #[.int .u8 101, .string ⟨#[]⟩, .int .i64 0, .int .i64 i]) (t:=52) (fr:=(0,0)) (heap_alloc_new wo.drew _)) (by simp [Value.oneCell']) (by decide) (by unfold maxLen;omega) (by omega) (by show w.heap.size+1≤(wo.alloc _).heap.size;rw [World.size_alloc];omega) (wo.heap.size+1) (by simp) ?_
   intro gg cap5 w5 hown5 hg5 hat5 hlt5
   have hs5:Since (fun k=>(Value.slice aT acc.length cT).ownBlock=some k) wo w5:=(sa.mono (fun _ f=>f.elim)).trans (Since.grown hg5)
   have hne5: ∀ k,(Value.slice aT acc.length cT).ownBlock=some k→w.heap.size+1≤k:=fun k e=>(Hown.out.lt k e).1
   have kb5:=(hs5.block br (by omega) (fun f=>by have:=hne5 _ f;omega)).trans Kb.out
   have ks5:=(hs5.block w.heap.size (by omega) (fun f=>by have:=hne5 _ f;omega)).trans Ks.out
   have ki5:=(hs5.block bi (by omega) (fun f=>Hne.out f)).trans Ki.out
   have hz5:=hs5.size
   have hS5:(fun w'=>w'.cell? ⟨br,0,none⟩=some (.slice aT acc.length cT)∧w'.cell? ⟨w.heap.size,0,none⟩=some (.string s)∧w'.cell? ⟨bi,0,none⟩=some (.int .i64 i)∧True) w5:=⟨by simp [World.cell?,kb5],by simp [World.cell?,ks5],by simp [World.cell?,ki5],trivial⟩
   refine hK9.out _ _ (fun _ _=>hS5) ?_
   clear hK9 K
   try simp only [Act.put,List.setIfInBounds_toArray,List.set_cons_zero,List.set_cons_succ]
   refine WpT.one (i:=10) (by as_aux_lemma=>kernel_rfl) rfl (fun K hK9=>?_)
   go_simp
   refine hK9.out _ _ (fun _ _=>hS5) ?_
   clear hK9 K
   try simp only [Act.put,List.setIfInBounds_toArray,List.set_cons_zero,List.set_cons_succ]
   refine WpT.one (i:=11) (by as_aux_lemma=>kernel_rfl) rfl (fun K hK9=>?_)
   go_simp
   refine hK9.out _ _ (fun _ _=>hS5) ?_
   clear hK9 K
   try simp only [Act.put,List.setIfInBounds_toArray,List.set_cons_zero,List.set_cons_succ]
   have gb5z:=cz kb5
   have gb5:w5.cell? ⟨br,0,none⟩=some (.slice aT acc.length cT):=hS5.1
   have kb6:(w5.setCell ⟨br,0,none⟩ (.slice (some ⟨gg,0,none⟩) (acc.length+1) cap5)).heap[br]?=some (.cells #[.slice (some ⟨gg,0,none⟩) (acc.length+1) cap5, .int .i64 0, .int .i64 0, .int .i64 0, .int .i64 0] 49 (0,0)):=by have:=box_set kb5 0 (.slice (some ⟨gg,0,none⟩) (acc.length+1) cap5) (by simp);simpa using this
   have ss6:Since (fun k=>k=br) w5 (w5.setCell ⟨br,0,none⟩ (.slice (some ⟨gg,0,none⟩) (acc.length+1) cap5)):=Since.setCell w5 ⟨br,0,none⟩ _
   have hown6:=ss6.row hown5 (fun k e f=>by have:=(hown5.lt k e).1;omega)
   have hne6:(Value.slice (some ⟨gg,0,none⟩) (acc.length+1) cap5).ownBlock≠some bi:=fun e=>by
    have e2:gg=bi:=by simpa [Value.ownBlock] using e
    rcases hat5 with h|h
    ·
     exact Hne.out (h.trans (congrArg some e2))
    ·
     omega
   have ks6:=(ss6.block w.heap.size (by omega) (by omega)).trans ks5
   have ki6:=(ss6.block bi (by omega) (by omega)).trans ki5
   have hS6:=(HS.out.then_new hs5 (fun k f=>Or.inr (by have:=hne5 k f;omega))).trans ss6
   have hL6:=(HL.out.since hs5 (fun k f=>by have:=hne5 k f;omega)).since ss6 (fun k e=>by omega)
   have hT6:=(HT.out.since hs5 (fun f=>by have:=hne5 _ f;omega)).since ss6 (by omega)
   have hE6:=(HE.out.since hs5 (fun f=>by have:=hne5 _ f;omega)).since ss6 (by omega)
   have hz6:=ss6.size
   have Kb6:=zh kb6
   have Ks6:=zh ks6
   have Ki6:=zh ki6
   have Hown6:=zh hown6
   have Hne6:=zh hne6
   have HS6:=zh hS6
   have HL6:=zh hL6
   have HT6:=zh hT6
   have HE6:=zh hE6
   clear hs5 hne5 kb5 ks5 ki5 kb6 ss6 hown6 hne6 ks6 ki6 hS6 hL6 hT6 hE6 hown5 hg5 hat5
   refine WpT.one (i:=12) (by as_aux_lemma=>kernel_rfl) rfl (fun K hK9=>?_)
   go_simp
   refine hK9.out _ _ (fun h=>absurd rfl h) ?_
   clear hK9 K
   try simp only [Act.put,List.setIfInBounds_toArray,List.set_cons_zero,List.set_cons_succ]
   refine WpT.done (by as_aux_lemma=>kernel_rfl) ?_ _
   go_wp2_with fail
   go_end0
   generalize w5.setCell ⟨br,0,none⟩ (.slice (some ⟨gg,0,none⟩) (acc.length+1) cap5)=w6 at *
   have hTl:(acc++[(⟨101,⟨#[]⟩,0,(i:Int)⟩:Tok)]).length=acc.length+1:=by simp
   have hro:=Hown6.out
   rw [show rowT acc++[.int .u8 101, .string ⟨#[]⟩, .int .i64 0, .int .i64 i]=((acc++[(⟨101,⟨#[]⟩,0,(i:Int)⟩:Tok)]).map tokC).flatten by simp [rowT,tokC]] at hro
   rw [←hTl] at hro
   obtain ⟨hcap,htk⟩:=own_toks hro
   have hlg:=Hown6.out.lt gg rfl
   have kb:=Kb6.out
   refine ⟨rfl,HS6.out,?_⟩
   rw [HR.out,drop_end s _ (by omega),cutR_nil]
   refine ⟨gg,cap5,⟨by rw [hTl];simp [World.cell?,kb],by simp [World.cell?,kb],by simp [World.cell?,kb],by simp [World.cell?,kb],by simp [World.cell?,kb],fun j=>by simp [World.frozen?,kb],⟨by omega,hlg.2⟩,by omega,hcap,htk,fun _=>by rw [hTl];exact Nat.succ_pos _,toks_of Hok.out (by omega) (by omega)⟩⟩
end Go.Proofs.YtkopjgnjflhkeaaDoor

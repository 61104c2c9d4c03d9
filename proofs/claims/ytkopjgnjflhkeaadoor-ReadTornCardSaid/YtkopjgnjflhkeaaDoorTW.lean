import Derived.Test.YtkopjgnjflhkeaaDoorTB
import Derived.Test.YtkopjgnjflhkeaaDoorTC
namespace Go.Proofs.YtkopjgnjflhkeaaDoor
open Go.RowKit Go.Pst
set_option linter.unusedVariables false
set_option linter.unusedSimpArgs false
variable {w:World} {br bT cap base:Nat} {T:List Tok} {st:RSt} {dep:Int}
set_option maxRecDepth 4000 in
set_option maxHeartbeats 4000000 in
theorem readWord_any (d:Nat) (hE:ExprOK d):WordOK d:=by
 intro w br bT cap base T st t h hL h0 hd ht
 have hbr:=h.lt.1
 have hbT:=h.lt.2
 obtain ⟨tk,ts,tn,tp⟩:=t
 obtain ⟨Res,hres⟩: ∃ Res,Res=wordR (exprR d) ⟨tk,ts,tn,tp⟩ (T.drop st.i):=⟨_,rfl⟩
 rw [←hres]
 have Hres:=zh hres
 go_enter Tryd.func92,Tryd.ntmps92
 go_upto_region 1 with fail
 have hs0:Since (fun _=>False) w ((w.alloc (.cells #[.int .u8 tk, .string ts, .int .i64 tn, .int .i64 tp] 52)).alloc (.cells #[.int .i64 0, .int .i64 0, .string ⟨#[]⟩, .slice none 0 0] 28)):=(Since.alloc _ _ _).trans (Since.alloc _ _ _)
 have hb0:((w.alloc (.cells #[.int .u8 tk, .string ts, .int .i64 tn, .int .i64 tp] 52)).alloc (.cells #[.int .i64 0, .int .i64 0, .string ⟨#[]⟩, .slice none 0 0] 28)).heap[w.heap.size]?=some (.cells #[.int .u8 tk, .string ts, .int .i64 tn, .int .i64 tp] 52 (0,0)):=allocs_get [(.cells #[.int .u8 tk, .string ts, .int .i64 tn, .int .i64 tp] 52),(.cells #[.int .i64 0, .int .i64 0, .string ⟨#[]⟩, .slice none 0 0] 28)] w 0 (by simp)
 have hb1:((w.alloc (.cells #[.int .u8 tk, .string ts, .int .i64 tn, .int .i64 tp] 52)).alloc (.cells #[.int .i64 0, .int .i64 0, .string ⟨#[]⟩, .slice none 0 0] 28)).heap[w.heap.size+1]?=some (.cells #[.int .i64 0, .int .i64 0, .string ⟨#[]⟩, .slice none 0 0] 28 (0,0)):=allocs_get [(.cells #[.int .u8 tk, .string ts, .int .i64 tn, .int .i64 tp] 52),(.cells #[.int .i64 0, .int .i64 0, .string ⟨#[]⟩, .slice none 0 0] 28)] w 1 (by simp)
 have hA:=h.later hs0
 have hB:=hL.later hs0
 generalize (w.alloc (.cells #[.int .u8 tk, .string ts, .int .i64 tn, .int .i64 tp] 52)).alloc (.cells #[.int .i64 0, .int .i64 0, .string ⟨#[]⟩, .slice none 0 0] 28)=w0 at *
 have t1:=ca1 hb0
 have hlt0:w.heap.size+1<w0.heap.size:=(Array.getElem?_eq_some_iff.1 hb1).1
 obtain ⟨kk,cc,bo,hkc⟩: ∃ (kk cc:Int) (bo:Bool),((countR ts).map fun p=>Value.agg #[.int .i64 p.1, .int .i64 p.2]).getD (.agg #[.int .i64 0, .int .i64 0])= .agg #[.int .i64 kk, .int .i64 cc]∧(countR ts).isSome=bo∧((countR ts=some (kk,cc)∧bo=true)∨(countR ts=none∧bo=false)):=by
  cases hc:countR ts with
  |none=>exact ⟨0,0,false,rfl,rfl,Or.inr ⟨rfl,rfl⟩⟩
  |some p=>exact ⟨p.1,p.2,true,rfl,rfl,Or.inl ⟨rfl,rfl⟩⟩
 have hlk: ∀ (b:Nat) (W:World),MapI W b countsM→(Instr.lookup 138 (.map (some b)) (.string ts) true).run Tryd.prog W= .ok (.tuple #[.agg #[.int .i64 kk, .int .i64 cc], .bool bo]) W:=fun b W hm=>by
  have:=hm.lookup (κ:=ByteArray) Tryd.underlying138 Tryd.underlying9 (z:= .agg #[.int .i64 0, .int .i64 0]) (by kernel_rfl) ts true
  rw [lookI_countsM,hkc.1] at this
  simp [hkc.2.1] at this
  exact this
 have Hkc:=zh hkc
 have HA:=zh hA
 have HB:=zh hB
 have Hs0:=zh hs0
 have Hht:=zh ht
 have H0:=zh h0
 have Hd:=zh hd
 have Hb0:=zh hb0
 have Hb1:=zh hb1
 clear h hL hs0 hb0 hb1 hA hB hkc ht h0 hd hres
 go_cut [5,6] from 9 to 15 (fun v5 v6 wx=> ∃ bc,v5= .pointer (some ⟨bc,0,none⟩)∧v6= .bool bo∧wx.cell? ⟨bc,0,none⟩=some (.int .i64 kk)∧wx.cell? ⟨bc,1,none⟩=some (.int .i64 cc)∧Since (fun _=>False) w0 wx∧w0.heap.size≤bc∧bc<wx.heap.size)
 case first=>
  have hS0:w0.drew.cell? ⟨w.heap.size,1,none⟩=some (.string ts):=t1
  refine WpT.start (fun w'=>w'.cell? ⟨w.heap.size,1,none⟩=some (.string ts)) 9 (by kernel_rfl) ?_
  refine WpT.tk (i:=1) (v:=?_) rfl (by kernel_rfl) (fun _ _ _ h=>h) (Or.inl ⟨by rfl,?_⟩) hS0 ?_
  rotate_left
  ·
   intro wS hSw;(try dsimp only at hSw);go_simp;(first|done|with_reducible rfl)
  try simp only [Act.put,List.setIfInBounds_toArray,List.set_cons_zero,List.set_cons_succ]
  refine WpT.tk (i:=2) (v:=?_) rfl (by kernel_rfl) (fun _ _ _ h=>h) (Or.inl ⟨by rfl,?_⟩) hS0 ?_
  rotate_left
  ·
   intro wS hSw;(try dsimp only at hSw);go_simp;(first|done|with_reducible rfl)
  try simp only [Act.put,List.setIfInBounds_toArray,List.set_cons_zero,List.set_cons_succ]
  refine WpT.both (i:=0) (j:=7) (by kernel_rfl) rfl rfl (fun K hK=>?_) (fun K hK=>?_)
  ·
   go_simp
   go_at_call 93
   refine (readCounts_any _).mono ?_
   rintro en w2 ⟨rfl,hm2,hs2⟩
   have hS2:=And.intro ((hs2.cell (b:=w.heap.size) (o:=1) (show w.heap.size<w0.heap.size by omega) (fun f=>f)).trans t1) hm2
   refine hK.out _ _ (fun _ _=>hS2.1) ?_
   clear hK K
   try simp only [Act.put,List.setIfInBounds_toArray,List.set_cons_zero,List.set_cons_succ]
   refine WpT.weaken (S':=(fun w'=>w'.cell? ⟨w.heap.size,1,none⟩=some (.string ts)∧MapI w' w0.heap.size countsM)) (fun _ h=>h.1) _ _ _ _ ?_
   refine WpT.tk (i:=3) (v:=?_) rfl (by kernel_rfl) (fun _ _ _ h=>h) (Or.inl ⟨by rfl,?_⟩) hS2 ?_
   rotate_left
   ·
    intro wS hSw;(try dsimp only at hSw);first|exact hlk _ _ hSw.2|(go_simp;(first|done|with_reducible rfl))
   try simp only [Act.put,List.setIfInBounds_toArray,List.set_cons_zero,List.set_cons_succ]
   refine WpT.tk (i:=4) (v:=?_) rfl (by kernel_rfl) (fun _ _ _ h=>h) (Or.inl ⟨by rfl,?_⟩) hS2 ?_
   rotate_left
   ·
    intro wS hSw;(try dsimp only at hSw);first|exact hlk _ _ hSw.2|(go_simp;(first|done|with_reducible rfl))
   try simp only [Act.put,List.setIfInBounds_toArray,List.set_cons_zero,List.set_cons_succ]
   refine WpT.tk (i:=5) (v:=?_) rfl (by kernel_rfl) (fun _ _ _ h=>h) (Or.inl ⟨by rfl,?_⟩) hS2 ?_
   rotate_left
   ·
    intro wS hSw;(try dsimp only at hSw);first|exact hlk _ _ hSw.2|(go_simp;(first|done|with_reducible rfl))
   try simp only [Act.put,List.setIfInBounds_toArray,List.set_cons_zero,List.set_cons_succ]
   refine WpT.tk (i:=6) (v:=?_) rfl (by kernel_rfl) (fun _ _ _ h=>h) (Or.inl ⟨by rfl,?_⟩) hS2 ?_
   rotate_left
   ·
    intro wS hSw;(try dsimp only at hSw);first|exact hlk _ _ hSw.2|(go_simp;(first|done|with_reducible rfl))
   try simp only [Act.put,List.setIfInBounds_toArray,List.set_cons_zero,List.set_cons_succ]
   have hsC:Since (fun _=>False) w2 (w2.alloc (.cells #[.int .i64 0, .int .i64 0] 136)):=Since.alloc _ _ _
   refine WpT.one (i:=7) (by kernel_rfl) rfl (fun K hK=>?_)
   go_simp
   refine hK.out _ _ (fun _ _=>⟨(hsC.cell (b:=w.heap.size) (o:=1) (Nat.lt_of_lt_of_le (show w.heap.size<w0.heap.size by omega) hs2.size) (fun f=>f)).trans hS2.1,hm2.alloc _⟩) ?_
   clear hK K
   try simp only [Act.put,List.setIfInBounds_toArray,List.set_cons_zero,List.set_cons_succ]
   refine WpT.one (i:=8) (by kernel_rfl) rfl (fun K hK=>?_)
   go_simp
   have hsD:Since (fun _=>False) w2 (w2.alloc (.cells #[.int .i64 kk, .int .i64 cc] 136)):=Since.alloc _ _ _
   refine hK.out _ _ (fun _ _=>⟨(hsD.cell (b:=w.heap.size) (o:=1) (Nat.lt_of_lt_of_le (show w.heap.size<w0.heap.size by omega) hs2.size) (fun f=>f)).trans hS2.1,hm2.alloc _⟩) ?_
   clear hK K
   try simp only [Act.put,List.setIfInBounds_toArray,List.set_cons_zero,List.set_cons_succ]
   refine WpT.one (i:=9) (by kernel_rfl) rfl (fun K hK=>?_)
   go_simp
   refine hK.out _ _ (fun h=>absurd rfl h) ?_
   clear hK K
   try simp only [Act.put,List.setIfInBounds_toArray,List.set_cons_zero,List.set_cons_succ]
   refine WpT.done (by kernel_rfl) ?_ _
   go_wp2_with fail
   go_meet
   case rel=>exact ⟨w2.heap.size,rfl,rfl,by rw [box_cell (Below.refl _ _)];rfl,by rw [box_cell (Below.refl _ _)];rfl,((Since.drew _ _).trans hs2).trans hsD,hs2.size,by simp⟩
  ·
   have hsC:Since (fun _=>False) w0 (w0.alloc (.cells #[.int .i64 0, .int .i64 0] 136)):=Since.alloc _ _ _
   go_simp
   refine hK.out _ _ (fun _ _=>(hsC.cell (b:=w.heap.size) (o:=1) (show w.heap.size<w0.heap.size by omega) (fun f=>f)).trans t1) ?_
   clear hK K
   try simp only [Act.put,List.setIfInBounds_toArray,List.set_cons_zero,List.set_cons_succ]
   refine WpT.one (i:=0) (by kernel_rfl) rfl (fun K hK=>?_)
   go_simp
   go_at_call 93
   refine (readCounts_any _).mono ?_
   rintro en w2 ⟨rfl,hm2,hs2⟩
   have hbC:(w0.alloc (.cells #[.int .i64 0, .int .i64 0] 136)).heap[w0.heap.size]?=some (.cells #[.int .i64 0, .int .i64 0] 136 (0,0)):=heap_alloc_new w0 _
   have hltC:w0.heap.size<(w0.alloc (.cells #[.int .i64 0, .int .i64 0] 136)).heap.size:=by simp
   have hb2:=(hs2.block w0.heap.size hltC (fun f=>f)).trans hbC
   have y0:=ca0 hb2
   have y1:=ca1 hb2
   have yz:=cz hb2
   have hlt2:w0.heap.size<w2.heap.size:=Nat.lt_of_lt_of_le hltC hs2.size
   have s02:Since (fun _=>False) w0 w2:=(hsC.trans (Since.drew _ _)).trans hs2
   have hS2:=And.intro ((s02.cell (b:=w.heap.size) (o:=1) (by omega) (fun f=>f)).trans t1) hm2
   obtain ⟨bm,hbm⟩: ∃ bm,bm=(w0.alloc (.cells #[.int .i64 0, .int .i64 0] 136)).drew.heap.size:=⟨_,rfl⟩
   have hbm2:w0.heap.size≠bm:=by rw [hbm];show w0.heap.size≠(w0.alloc (.cells #[.int .i64 0, .int .i64 0] 136)).heap.size;simp
   rw [←hbm] at hS2 ⊢
   refine hK.out _ _ (fun _ _=>hS2.1) ?_
   clear hK K hbm hm2
   try simp only [Act.put,List.setIfInBounds_toArray,List.set_cons_zero,List.set_cons_succ]
   refine WpT.weaken (S':=(fun w'=>w'.cell? ⟨w.heap.size,1,none⟩=some (.string ts)∧MapI w' bm countsM)) (fun _ h=>h.1) _ _ _ _ ?_
   refine WpT.tk (i:=3) (v:=?_) rfl (by kernel_rfl) (fun _ _ _ h=>h) (Or.inl ⟨by rfl,?_⟩) hS2 ?_
   rotate_left
   ·
    intro wS hSw;(try dsimp only at hSw);first|exact hlk _ _ hSw.2|(go_simp;(first|done|with_reducible rfl))
   try simp only [Act.put,List.setIfInBounds_toArray,List.set_cons_zero,List.set_cons_succ]
   refine WpT.tk (i:=4) (v:=?_) rfl (by kernel_rfl) (fun _ _ _ h=>h) (Or.inl ⟨by rfl,?_⟩) hS2 ?_
   rotate_left
   ·
    intro wS hSw;(try dsimp only at hSw);first|exact hlk _ _ hSw.2|(go_simp;(first|done|with_reducible rfl))
   try simp only [Act.put,List.setIfInBounds_toArray,List.set_cons_zero,List.set_cons_succ]
   refine WpT.tk (i:=5) (v:=?_) rfl (by kernel_rfl) (fun _ _ _ h=>h) (Or.inl ⟨by rfl,?_⟩) hS2 ?_
   rotate_left
   ·
    intro wS hSw;(try dsimp only at hSw);first|exact hlk _ _ hSw.2|(go_simp;(first|done|with_reducible rfl))
   try simp only [Act.put,List.setIfInBounds_toArray,List.set_cons_zero,List.set_cons_succ]
   refine WpT.tk (i:=6) (v:=?_) rfl (by kernel_rfl) (fun _ _ _ h=>h) (Or.inl ⟨by rfl,?_⟩) hS2 ?_
   rotate_left
   ·
    intro wS hSw;(try dsimp only at hSw);first|exact hlk _ _ hSw.2|(go_simp;(first|done|with_reducible rfl))
   try simp only [Act.put,List.setIfInBounds_toArray,List.set_cons_zero,List.set_cons_succ]
   refine WpT.one (i:=8) (by kernel_rfl) rfl (fun K hK=>?_)
   go_simp
   have sW:Since (fun k=>k=w0.heap.size) w2 ((w2.setCell ⟨w0.heap.size,0,none⟩ (.int .i64 kk)).setCell ⟨w0.heap.size,1,none⟩ (.int .i64 cc)):=(show Since (fun k=>k=w0.heap.size) w2 (w2.setCell ⟨w0.heap.size,0,none⟩ (.int .i64 kk)) from Since.setCell w2 ⟨w0.heap.size,0,none⟩ _).trans (Since.setCell _ ⟨w0.heap.size,1,none⟩ _)
   have v1:=World.cell?_setCell_same (w2.setCell ⟨w0.heap.size,0,none⟩ (.int .i64 kk)) ⟨w0.heap.size,1,none⟩ (.int .i64 cc) ((World.cell?_setCell_other _ _ _ _ (fun e=>by injection e with _ e _;cases e)).trans y1)
   have v0:=(World.cell?_setCell_other (w2.setCell ⟨w0.heap.size,0,none⟩ (.int .i64 kk)) ⟨w0.heap.size,1,none⟩ ⟨w0.heap.size,0,none⟩ (.int .i64 cc) (fun e=>by injection e with _ e _;cases e)).trans (World.cell?_setCell_same w2 ⟨w0.heap.size,0,none⟩ (.int .i64 kk) y0)
   refine hK.out _ _ (fun _ _=>⟨(sW.cell (b:=w.heap.size) (o:=1) (by omega) (by omega)).trans hS2.1,hS2.2.heap (sW.block bm hS2.2.lt (fun e=>hbm2 e.symm))⟩) ?_
   clear hK K
   try simp only [Act.put,List.setIfInBounds_toArray,List.set_cons_zero,List.set_cons_succ]
   refine WpT.one (i:=9) (by kernel_rfl) rfl (fun K hK=>?_)
   go_simp
   refine hK.out _ _ (fun h=>absurd rfl h) ?_
   clear hK K
   try simp only [Act.put,List.setIfInBounds_toArray,List.set_cons_zero,List.set_cons_succ]
   refine WpT.done (by kernel_rfl) ?_ _
   go_wp2_with fail
   go_meet
   case rel=>exact ⟨w0.heap.size,rfl,rfl,v0,v1,s02.then_new sW (fun k e=>Or.inr (by omega)),Nat.le_refl _,Nat.lt_of_lt_of_le hlt2 sW.size⟩
 case rest=>
  obtain ⟨bc,rfl,rfl,k0,k1,hsc,hbc,hltc⟩:=hcut
  have hT0:=(hsc.block w.heap.size (by omega) (fun f=>f)).trans Hb0.out
  have hB1:=(hsc.block (w.heap.size+1) hlt0 (fun f=>f)).trans Hb1.out
  have t0:=ca0 hT0
  have t1':=ca1 hT0
  have t3:=ca3 hT0
  have hszc:=hsc.size
  have hAc:=HA.out.later hsc
  have hBc:=HB.out.later hsc
  have sWc:Since (fun k=>k=br) w wc:=(Hs0.out.trans hsc).mono (fun _ f=>f.elim)
  have HAc:=zh hAc
  have HBc:=zh hBc
  have SWc:=zh sWc
  have HT0:=zh hT0
  have HB1:=zh hB1
  clear hsc hT0 hB1 hAc hBc sWc t1 hlk
  cases bo with
  |true=>
   have hcr:countR ts=some (kk,cc):=by
    rcases Hkc.out.2.2 with e|e
    ·
     exact e.1
    ·
     cases e.2
   have hkkI:InI kk∧InI cc:=by
    unfold countR at hcr
    repeat (first|(split at hcr; · injection hcr with e;injection e with e1 e2;subst e1 e2;exact ⟨ini rfl,ini rfl⟩)|cases hcr)
   have Hcr:=zh hcr
   have Hkk:=zh hkkI.1
   have hag:=readArgs_any hE HAc.out HBc.out (fun _=>Hd.out)
   have Hag:=zh hag
   clear hcr hkkI hag
   go_wp2_with fail
   refine Hag.out.mono ?_
   rintro en w2 ⟨v,l,st2,rfl,hl,h2,hs2,hg2⟩
   obtain ⟨dl,hdl⟩:=hl
   obtain ⟨al,cl,rfl⟩:=rSlice_shape hdl
   have hB2:=(hs2.block (w.heap.size+1) (by omega) (by omega)).trans HB1.out
   have g0:=ca0 hB2
   have g1:=ca1 hB2
   have g2:=ca2 hB2
   have g3:=ca3 hB2
   have gz:=cz hB2
   have k0':=(hs2.cell (b:=bc) (o:=0) hltc (by omega)).trans k0
   have k1':=(hs2.cell (b:=bc) (o:=1) hltc (by omega)).trans k1
   have t3':=(hs2.cell (b:=w.heap.size) (o:=3) (by omega) (by omega)).trans t3
   have hsz2:=hs2.size
   have c3:=h2.c3
   have Hl:=zh (show rXs (fun k=>wc.heap.size≤k) w2 [.slice al l.length cl] l from ⟨dl,hdl⟩)
   have H2:=zh h2
   have Hsw2:=zh (SWc.out.trans hs2)
   have hRes2:Res=runR T (if 0≤cc∧(l.length:Int)≠cc then PR.bad tp 10 else PR.ret (.mk kk 0 ⟨#[]⟩ l)) st2:=by
    have hgA:Good' T (30 - (d:Int)) (runR T (argsR (exprR d)) st) l st2:=hg2
    have e1:Res=runR T (PR.bind (argsR (exprR d)) fun l=>if 0≤cc∧(l.length:Int)≠cc then PR.bad tp 10 else PR.ret (.mk kk 0 ⟨#[]⟩ l)) st:=by
     rw [Hres.out,runR_ok H0.out]
     unfold wordR
     rw [show countR (Tok.s ⟨tk,ts,tn,tp⟩)=some (kk,cc) from Hcr.out]
    rw [e1]
    exact hgA.bind
   have HRes2:=zh hRes2
   have Hdp2:=zh (show st2.fault=0→st2.depth=30 - (d:Int) from fun e=>hg2.dep_eq e)
   clear hdl h2 hs2 hg2 hB2 hRes2 k0 k1 t3
   by_cases hf:st2.fault=0
   ·
    have f0:(st2.fault==0)=true:=by simpa using hf
    have Hf:=zh hf
    clear hf
    by_cases hc:0≤cc
    ·
     have d1:decide (cc≥0)=true:=decide_eq_true hc
     have Hc:=zh hc
     by_cases hn:(l.length:Int)=cc
     ·
      have d2:((l.length:Int) !=cc)=false:=by simp [hn]
      have Hn:=zh hn
      clear hn
      go_wp2_with fail
      obtain ⟨m0,m1,m2,m3,ms⟩:=cells4 (w:=w2) g0 g1 g2 g3 (.int .i64 kk) (.int .i64 0) (.string ⟨#[]⟩) (.slice al l.length cl)
      generalize hWW:(((w2.setCell ⟨w.heap.size+1,0,none⟩ (.int .i64 kk)).setCell ⟨w.heap.size+1,1,none⟩ (.int .i64 0)).setCell ⟨w.heap.size+1,2,none⟩ (.string ⟨#[]⟩)).setCell ⟨w.heap.size+1,3,none⟩ (.slice al l.length cl)=WW at *
      have hl9:rXs (fun k=>w.heap.size≤k) WW [.slice al l.length cl] l:=Good.keep (R:=rXs) ⟨ms.size,fun k hk hS=>ms.block k hk (by omega)⟩ (fun k hk hS=>by omega) Hl.out
      refine bodyPost_ret (v:= .agg #[.int .i64 kk, .int .i64 0, .string ⟨#[]⟩, .slice al l.length cl]) (by simp [results,Tryd.results92,go_sem,m0,m1,m2,m3]) rfl ⟨_, .mk kk 0 ⟨#[]⟩ l,st2,rfl,rX_mk kk 0 ⟨#[]⟩ Hkk.out (ini rfl) (by decide) hl9,(H2.out).since ms (by omega) (by omega),(Hsw2.out).then_new ms (fun k e=>Or.inr (by omega)),?_⟩
      rw [HRes2.out,if_neg (fun e=>e.2 Hn.out)];exact Good'.ret _ Hdp2.out
     ·
      have d2:((l.length:Int) !=cc)=true:=by simp [hn]
      have Hn:=zh hn
      clear hn
      go_wp2_with fail
      refine (readWrong_any H2.out tp 10 (by decide)).mono ?_
      rintro en w3 ⟨rfl,h3,hs3⟩
      have g0:=(hs3.cell (b:=w.heap.size+1) (o:=0) (by omega) (by omega)).trans g0
      have g1:=(hs3.cell (b:=w.heap.size+1) (o:=1) (by omega) (by omega)).trans g1
      have g2:=(hs3.cell (b:=w.heap.size+1) (o:=2) (by omega) (by omega)).trans g2
      have g3:=(hs3.cell (b:=w.heap.size+1) (o:=3) (by omega) (by omega)).trans g3
      have gz: ∀ j,w3.frozen? ⟨w.heap.size+1,j,none⟩=false:=fun j=>(hs3.frozen (by omega) (by omega)).trans (gz j)
      have k0':=(hs3.cell (b:=bc) (o:=0) (by omega) (by omega)).trans k0'
      have hsz3:=hs3.size
      have Hl3:=zh (Good.keep (R:=rXs) (S':=fun k=>wc.heap.size≤k) (w':=w3) ⟨hs3.size,fun k hk hS=>hs3.block k hk (by omega)⟩ (fun _ _ h=>h) Hl.out)
      have H3:=zh h3
      have S3:=zh (Hsw2.out.trans hs3)
      clear h3 hs3
      go_wp2_with fail
      obtain ⟨m0,m1,m2,m3,ms⟩:=cells4 (w:=w3) g0 g1 g2 g3 (.int .i64 kk) (.int .i64 0) (.string ⟨#[]⟩) (.slice al l.length cl)
      generalize hWW:(((w3.setCell ⟨w.heap.size+1,0,none⟩ (.int .i64 kk)).setCell ⟨w.heap.size+1,1,none⟩ (.int .i64 0)).setCell ⟨w.heap.size+1,2,none⟩ (.string ⟨#[]⟩)).setCell ⟨w.heap.size+1,3,none⟩ (.slice al l.length cl)=WW at *
      have hl9:rXs (fun k=>w.heap.size≤k) WW [.slice al l.length cl] l:=Good.keep (R:=rXs) ⟨ms.size,fun k hk hS=>ms.block k hk (by omega)⟩ (fun k hk hS=>by omega) Hl3.out
      refine bodyPost_ret (v:= .agg #[.int .i64 kk, .int .i64 0, .string ⟨#[]⟩, .slice al l.length cl]) (by simp [results,Tryd.results92,go_sem,m0,m1,m2,m3]) rfl ⟨_, .mk kk 0 ⟨#[]⟩ l,_,rfl,rX_mk kk 0 ⟨#[]⟩ Hkk.out (ini rfl) (by decide) hl9,(H3.out).since ms (by omega) (by omega),(S3.out).then_new ms (fun k e=>Or.inr (by omega)),?_⟩
      rw [HRes2.out,if_pos ⟨Hc.out,Hn.out⟩,runR_ok Hf.out,RSt.bad,if_pos Hf.out]
      exact ⟨rfl,rfl,by decide⟩
    ·
     have d1:decide (cc≥0)=false:=decide_eq_false hc
     have Hc:=zh hc
     go_wp2_with fail
     obtain ⟨m0,m1,m2,m3,ms⟩:=cells4 (w:=w2) g0 g1 g2 g3 (.int .i64 kk) (.int .i64 0) (.string ⟨#[]⟩) (.slice al l.length cl)
     generalize hWW:(((w2.setCell ⟨w.heap.size+1,0,none⟩ (.int .i64 kk)).setCell ⟨w.heap.size+1,1,none⟩ (.int .i64 0)).setCell ⟨w.heap.size+1,2,none⟩ (.string ⟨#[]⟩)).setCell ⟨w.heap.size+1,3,none⟩ (.slice al l.length cl)=WW at *
     have hl9:rXs (fun k=>w.heap.size≤k) WW [.slice al l.length cl] l:=Good.keep (R:=rXs) ⟨ms.size,fun k hk hS=>ms.block k hk (by omega)⟩ (fun k hk hS=>by omega) Hl.out
     refine bodyPost_ret (v:= .agg #[.int .i64 kk, .int .i64 0, .string ⟨#[]⟩, .slice al l.length cl]) (by simp [results,Tryd.results92,go_sem,m0,m1,m2,m3]) rfl ⟨_, .mk kk 0 ⟨#[]⟩ l,st2,rfl,rX_mk kk 0 ⟨#[]⟩ Hkk.out (ini rfl) (by decide) hl9,(H2.out).since ms (by omega) (by omega),(Hsw2.out).then_new ms (fun k e=>Or.inr (by omega)),?_⟩
     rw [HRes2.out,if_neg (fun e=>by have:=e.1;have:=Hc.out;omega)];exact Good'.ret _ Hdp2.out
   ·
    have f0:(st2.fault==0)=false:=by simpa using hf
    have Hf:=zh hf
    clear hf
    go_wp2_with fail
    obtain ⟨m0,m1,m2,m3,ms⟩:=cells4 (w:=w2) g0 g1 g2 g3 (.int .i64 kk) (.int .i64 0) (.string ⟨#[]⟩) (.slice al l.length cl)
    generalize hWW:(((w2.setCell ⟨w.heap.size+1,0,none⟩ (.int .i64 kk)).setCell ⟨w.heap.size+1,1,none⟩ (.int .i64 0)).setCell ⟨w.heap.size+1,2,none⟩ (.string ⟨#[]⟩)).setCell ⟨w.heap.size+1,3,none⟩ (.slice al l.length cl)=WW at *
    have hl9:rXs (fun k=>w.heap.size≤k) WW [.slice al l.length cl] l:=Good.keep (R:=rXs) ⟨ms.size,fun k hk hS=>ms.block k hk (by omega)⟩ (fun k hk hS=>by omega) Hl.out
    refine bodyPost_ret (v:= .agg #[.int .i64 kk, .int .i64 0, .string ⟨#[]⟩, .slice al l.length cl]) (by simp [results,Tryd.results92,go_sem,m0,m1,m2,m3]) rfl ⟨_, .mk kk 0 ⟨#[]⟩ l,st2,rfl,rX_mk kk 0 ⟨#[]⟩ Hkk.out (ini rfl) (by decide) hl9,(H2.out).since ms (by omega) (by omega),(Hsw2.out).then_new ms (fun k e=>Or.inr (by omega)),?_⟩
    rw [HRes2.out,runR_bad Hf.out];exact ⟨rfl,rfl,Hf.out⟩
  |false=>
   have hcr:countR ts=none:=by
    rcases Hkc.out.2.2 with e|e
    ·
     cases e.2
    ·
     exact e.1
   have Hcr:=zh hcr
   have hW0:Res=(if ts=⟨#[116,114,117,101]⟩ then PR.ret (.mk 3 1 ⟨#[]⟩ []) else if ts=⟨#[102,97,108,115,101]⟩ then PR.ret (.mk 3 0 ⟨#[]⟩ []) else if wordsT.contains ts.toList=true then PR.bad tp 4 else fun r=>if (headR r).kind=109∧(headR r).s=⟨#[40]⟩ then PR.bind (argsR (exprR d)) (fun l=>PR.ret (.mk 7 0 ts l)) r else .ok (.mk 4 0 ts [],r)) (T.drop st.i):=by
    rw [Hres.out]
    unfold wordR
    rw [show countR (Tok.s ⟨tk,ts,tn,tp⟩)=none from Hcr.out]
   have HW0:=zh hW0
   have g0:=ca0 HB1.out
   have g1:=ca1 HB1.out
   have g2:=ca2 HB1.out
   have g3:=ca3 HB1.out
   have gz:=cz HB1.out
   clear hcr hW0 k0 k1
   by_cases e1:ts=⟨#[116,114,117,101]⟩
   ·
    subst e1
    clear t0 t3
    go_wp2_with fail
    obtain ⟨m0,m1,m2,m3,ms⟩:=cells4 (w:=wc) g0 g1 g2 g3 (.int .i64 3) (.int .i64 1) (.string ⟨#[]⟩) (.slice none 0 0)
    generalize hWW:(((wc.setCell ⟨w.heap.size+1,0,none⟩ (.int .i64 3)).setCell ⟨w.heap.size+1,1,none⟩ (.int .i64 1)).setCell ⟨w.heap.size+1,2,none⟩ (.string ⟨#[]⟩)).setCell ⟨w.heap.size+1,3,none⟩ (.slice none 0 0)=WW at *
    refine bodyPost_ret (v:= .agg #[.int .i64 3, .int .i64 1, .string ⟨#[]⟩, .slice none 0 0]) (by simp [results,Tryd.results92,go_sem,m0,m1,m2,m3]) rfl ⟨_, .mk 3 1 ⟨#[]⟩ [],st,rfl,rX_zero _ _ 3 1 ⟨#[]⟩ (ini rfl) (ini rfl) (by decide),(HAc.out).since ms (by omega) (by omega),(SWc.out).then_new ms (fun k e=>Or.inr (by omega)),?_⟩
    rw [HW0.out,if_pos (by trivial)];exact ⟨rfl,H0.out,Hd.out,rfl⟩
   have E1:=zh e1
   have f1:(ts.toList==[116,114,117,101])=false:=by
    have:=tokS_ne e1
    simpa using this
   have f1': ¬ts.toList=[116,114,117,101]:=by simpa using f1
   by_cases e2:ts=⟨#[102,97,108,115,101]⟩
   ·
    subst e2
    clear t0 t3
    go_wp2_with fail
    obtain ⟨m0,m1,m2,m3,ms⟩:=cells4 (w:=wc) g0 g1 g2 g3 (.int .i64 3) (.int .i64 0) (.string ⟨#[]⟩) (.slice none 0 0)
    generalize hWW:(((wc.setCell ⟨w.heap.size+1,0,none⟩ (.int .i64 3)).setCell ⟨w.heap.size+1,1,none⟩ (.int .i64 0)).setCell ⟨w.heap.size+1,2,none⟩ (.string ⟨#[]⟩)).setCell ⟨w.heap.size+1,3,none⟩ (.slice none 0 0)=WW at *
    refine bodyPost_ret (v:= .agg #[.int .i64 3, .int .i64 0, .string ⟨#[]⟩, .slice none 0 0]) (by simp [results,Tryd.results92,go_sem,m0,m1,m2,m3]) rfl ⟨_, .mk 3 0 ⟨#[]⟩ [],st,rfl,rX_zero _ _ 3 0 ⟨#[]⟩ (ini rfl) (ini rfl) (by decide),(HAc.out).since ms (by omega) (by omega),(SWc.out).then_new ms (fun k e=>Or.inr (by omega)),?_⟩
    rw [HW0.out];first|rw [if_neg E1.out,if_pos (by trivial)]|rw [if_pos (by trivial)]
    exact ⟨rfl,H0.out,Hd.out,rfl⟩
   have E2:=zh e2
   have f2:(ts.toList==[102,97,108,115,101])=false:=by
    have:=tokS_ne e2
    simpa using this
   have f2': ¬ts.toList=[102,97,108,115,101]:=by simpa using f2
   obtain ⟨aw,cw,hw1,hw2⟩:=HBc.out.words
   have hcon:=rdContains_any ts aw wordsR cw base wc (by decide) hw2
   obtain ⟨wd,hwd⟩: ∃ wd,inOps wordsR ts=wd:=⟨_,rfl⟩
   rw [hwd] at hcon
   rw [inOps_wordsR] at hwd
   have Hcon:=zh hcon
   have Hwd:=zh hwd
   clear e1 e2 hw2 hcon hwd
   cases wd with
   |true=>
    go_wp2_with fail
    refine Hcon.out.mono ?_
    rintro en w2 ⟨rfl,rfl⟩
    go_wp2_with fail
    refine (readWrong_any HAc.out tp 4 (by decide)).mono ?_
    rintro en w3 ⟨rfl,h3,hs3⟩
    have g0:=(hs3.cell (b:=w.heap.size+1) (o:=0) (by omega) (by omega)).trans g0
    have g1:=(hs3.cell (b:=w.heap.size+1) (o:=1) (by omega) (by omega)).trans g1
    have g2:=(hs3.cell (b:=w.heap.size+1) (o:=2) (by omega) (by omega)).trans g2
    have g3:=(hs3.cell (b:=w.heap.size+1) (o:=3) (by omega) (by omega)).trans g3
    have gz: ∀ j,w3.frozen? ⟨w.heap.size+1,j,none⟩=false:=fun j=>(hs3.frozen (by omega) (by omega)).trans (gz j)
    have hsz3:=hs3.size
    have H3:=zh h3
    have S3:=zh (SWc.out.trans hs3)
    clear h3 hs3
    go_wp2_with fail
    obtain ⟨m0,m1,m2,m3,ms⟩:=cells4 (w:=w3) g0 g1 g2 g3 (.int .i64 0) (.int .i64 0) (.string ⟨#[]⟩) (.slice none 0 0)
    generalize hWW:(((w3.setCell ⟨w.heap.size+1,0,none⟩ (.int .i64 0)).setCell ⟨w.heap.size+1,1,none⟩ (.int .i64 0)).setCell ⟨w.heap.size+1,2,none⟩ (.string ⟨#[]⟩)).setCell ⟨w.heap.size+1,3,none⟩ (.slice none 0 0)=WW at *
    refine bodyPost_ret (v:= .agg #[.int .i64 0, .int .i64 0, .string ⟨#[]⟩, .slice none 0 0]) (by simp [results,Tryd.results92,go_sem,m0,m1,m2,m3]) rfl ⟨_, .mk 0 0 ⟨#[]⟩ [],_,rfl,rX_zero _ _ 0 0 ⟨#[]⟩ (ini rfl) (ini rfl) (by decide),(H3.out).since ms (by omega) (by omega),(S3.out).then_new ms (fun k e=>Or.inr (by omega)),?_⟩
    rw [HW0.out,if_neg E1.out,if_neg E2.out,if_pos Hwd.out,RSt.bad,if_pos H0.out]
    exact ⟨rfl,rfl,by decide⟩
   |false=>
    obtain ⟨p,hp⟩: ∃ p,seeR T st=p:=⟨_,rfl⟩
    have hpk:=readPeek_any HAc.out
    rw [hp] at hpk
    have Hpk:=zh hpk
    have Hp:=zh hp
    clear hpk hp
    obtain ⟨pk,ps,pn,pp⟩:=p
    go_wp2_with fail
    refine Hcon.out.mono ?_
    rintro en w2 ⟨rfl,rfl⟩
    go_wp2_with fail
    refine Hpk.out.mono ?_
    rintro en w3 ⟨rfl,hs3⟩
    simp only [tokC]
    obtain ⟨bp,hbp⟩: ∃ bp,bp=w3.heap.size:=⟨_,rfl⟩
    have hPB:(w3.alloc (.cells #[.int .u8 pk, .string ps, .int .i64 pn, .int .i64 pp] 52)).heap[bp]?=some (.cells #[.int .u8 pk, .string ps, .int .i64 pn, .int .i64 pp] 52 (0,0)):=by rw [hbp];exact heap_alloc_new w3 _
    have sP:Since (fun _=>False) wc (w3.alloc (.cells #[.int .u8 pk, .string ps, .int .i64 pn, .int .i64 pp] 52)):=hs3.trans (Since.alloc _ _ _)
    go_upto_region 15 with fail
    rw [←hbp]
    generalize w3.alloc (.cells #[.int .u8 pk, .string ps, .int .i64 pn, .int .i64 pp] 52)=wP at *
    have hszP:=sP.size
    have p0:=ca0 hPB
    have p1:=ca1 hPB
    have g0:=(sP.cell (b:=w.heap.size+1) (o:=0) (by omega) (fun f=>f)).trans g0
    have g1:=(sP.cell (b:=w.heap.size+1) (o:=1) (by omega) (fun f=>f)).trans g1
    have g2:=(sP.cell (b:=w.heap.size+1) (o:=2) (by omega) (fun f=>f)).trans g2
    have g3:=(sP.cell (b:=w.heap.size+1) (o:=3) (by omega) (fun f=>f)).trans g3
    have gz: ∀ j,wP.frozen? ⟨w.heap.size+1,j,none⟩=false:=fun j=>(sP.frozen (by omega) (fun f=>f)).trans (gz j)
    have t1P:=(sP.cell (b:=w.heap.size) (o:=1) (by omega) (fun f=>f)).trans t1'
    have SP:=zh sP
    clear sP hs3 hPB hbp t1' t0 t3 hw1
    by_cases e5:pk=109
    ·
     by_cases e6:ps=⟨#[40]⟩
     ·
      have f5:(pk==109)=true:=by simp [e5]
      have E5:=zh e5
      subst e6
      clear e5
      go_upto_region 16 with fail
      have hS0:wP.drew.cell? ⟨w.heap.size,1,none⟩=some (.string ts):=t1P
      refine WpT.start (fun w'=>w'.cell? ⟨w.heap.size,1,none⟩=some (.string ts)) 5 (by kernel_rfl) ?_
      refine WpT.tk (i:=0) (v:=?_) rfl (by kernel_rfl) (fun _ _ _ h=>h) (Or.inl ⟨by rfl,?_⟩) hS0 ?_
      rotate_left
      ·
       intro wS hSw;(try dsimp only at hSw);go_simp;(first|done|with_reducible rfl)
      try simp only [Act.put,List.setIfInBounds_toArray,List.set_cons_zero,List.set_cons_succ]
      refine WpT.tk (i:=1) (v:=?_) rfl (by kernel_rfl) (fun _ _ _ h=>h) (Or.inl ⟨by rfl,?_⟩) hS0 ?_
      rotate_left
      ·
       intro wS hSw;(try dsimp only at hSw);go_simp;(first|done|with_reducible rfl)
      try simp only [Act.put,List.setIfInBounds_toArray,List.set_cons_zero,List.set_cons_succ]
      refine WpT.tk (i:=2) (v:=?_) rfl (by kernel_rfl) (fun _ _ _ h=>h) (Or.inl ⟨by rfl,?_⟩) hS0 ?_
      rotate_left
      ·
       intro wS hSw;(try dsimp only at hSw);go_simp;(first|done|with_reducible rfl)
      try simp only [Act.put,List.setIfInBounds_toArray,List.set_cons_zero,List.set_cons_succ]
      refine WpT.one (i:=3) (by kernel_rfl) rfl (fun K hK=>?_)
      go_simp
      go_at_call 78
      have hAd:=HAc.out.later (SP.out.trans (Since.drew (fun _=>False) wP))
      have hBd:=HBc.out.later (SP.out.trans (Since.drew (fun _=>False) wP))
      refine (readArgs_any hE hAd hBd (fun _=>Hd.out)).mono ?_
      rintro en w4 ⟨v,l,st4,rfl,hl,h4,hs4,hg4⟩
      have s4:Since (fun k=>k=br) wP w4:=(Since.drew (fun k=>k=br) wP).trans hs4
      have hS4:=(s4.cell (b:=w.heap.size) (o:=1) (by omega) (by omega)).trans t1P
      have g0:=(s4.cell (b:=w.heap.size+1) (o:=0) (by omega) (by omega)).trans g0
      have g1:=(s4.cell (b:=w.heap.size+1) (o:=1) (by omega) (by omega)).trans g1
      have g2:=(s4.cell (b:=w.heap.size+1) (o:=2) (by omega) (by omega)).trans g2
      have g3:=(s4.cell (b:=w.heap.size+1) (o:=3) (by omega) (by omega)).trans g3
      have gz: ∀ j,w4.frozen? ⟨w.heap.size+1,j,none⟩=false:=fun j=>(s4.frozen (by omega) (by omega)).trans (gz j)
      have hsz4:=s4.size
      obtain ⟨dl,hdl⟩:=hl
      obtain ⟨al,cl,rfl⟩:=rSlice_shape hdl
      have Hl:=zh (show rXs (fun k=>wP.heap.size≤k) w4 [.slice al l.length cl] l from ⟨dl,hdl⟩)
      have H4:=zh h4
      have S4:=zh ((SWc.out.trans (SP.out.mono (fun _ f=>f.elim))).trans s4)
      have hRes4:Res=runR T (PR.ret (.mk 7 0 ts l)) st4:=by
       have hgA:Good' T (30 - (d:Int)) (runR T (argsR (exprR d)) st) l st4:=hg4
       rw [HW0.out,if_neg E1.out,if_neg E2.out,if_neg (by rw [Hwd.out];decide),←seeR_head H0.out,Hp.out,if_pos ⟨E5.out,rfl⟩]
       refine Eq.trans ?_ (hgA.bind (q:=fun l=>PR.ret (PExpr.mk 7 0 ts l)))
       rw [runR_ok H0.out]
      have HRes4:=zh hRes4
      have Hdp4:=zh (show st4.fault=0→st4.depth=30 - (d:Int) from fun e=>hg4.dep_eq e)
      clear hdl h4 hg4 hRes4 hs4 s4
      refine hK.out _ _ (fun _ _=>hS4) ?_
      clear hK K
      try simp only [Act.put,List.setIfInBounds_toArray,List.set_cons_zero,List.set_cons_succ]
      refine WpT.one (i:=4) (by kernel_rfl) rfl (fun K hK=>?_)
      go_simp
      refine hK.out _ _ (fun _ _=>hS4) ?_
      clear hK K
      try simp only [Act.put,List.setIfInBounds_toArray,List.set_cons_zero,List.set_cons_succ]
      refine WpT.one (i:=5) (by kernel_rfl) rfl (fun K hK=>?_)
      go_simp
      refine hK.out _ _ (fun h=>absurd rfl h) ?_
      clear hK K
      try simp only [Act.put,List.setIfInBounds_toArray,List.set_cons_zero,List.set_cons_succ]
      refine WpT.done (by kernel_rfl) ?_ _
      go_wp2_with fail
      obtain ⟨m0,m1,m2,m3,ms⟩:=cells4 (w:=w4) g0 g1 g2 g3 (.int .i64 7) (.int .i64 0) (.string ts) (.slice al l.length cl)
      generalize hWW:(((w4.setCell ⟨w.heap.size+1,0,none⟩ (.int .i64 7)).setCell ⟨w.heap.size+1,1,none⟩ (.int .i64 0)).setCell ⟨w.heap.size+1,2,none⟩ (.string ts)).setCell ⟨w.heap.size+1,3,none⟩ (.slice al l.length cl)=WW at *
      have hl9:rXs (fun k=>w.heap.size≤k) WW [.slice al l.length cl] l:=Good.keep (R:=rXs) ⟨ms.size,fun k hk hS=>ms.block k hk (by omega)⟩ (fun k hk hS=>by omega) Hl.out
      refine bodyPost_ret (v:= .agg #[.int .i64 7, .int .i64 0, .string ts, .slice al l.length cl]) (by simp [results,Tryd.results92,go_sem,m0,m1,m2,m3]) rfl ⟨_, .mk 7 0 ts l,st4,rfl,rX_mk 7 0 ts (ini rfl) (ini rfl) Hht.out.1 hl9,(H4.out).since ms (by omega) (by omega),(S4.out).then_new ms (fun k e=>Or.inr (by omega)),?_⟩
      rw [HRes4.out];exact Good'.ret _ Hdp4.out
     ·
      have f5:(pk==109)=true:=by simp [e5]
      have f6:(ps.toList==[40])=false:=by
       have:=tokS_ne e6
       simpa using this
      have f6': ¬ps.toList=[40]:=by simpa using f6
      have E6:=zh e6
      clear e5 e6
      go_wp2_with fail
      obtain ⟨m0,m1,m2,m3,ms⟩:=cells4 (w:=wP) g0 g1 g2 g3 (.int .i64 4) (.int .i64 0) (.string ts) (.slice none 0 0)
      generalize hWW:(((wP.setCell ⟨w.heap.size+1,0,none⟩ (.int .i64 4)).setCell ⟨w.heap.size+1,1,none⟩ (.int .i64 0)).setCell ⟨w.heap.size+1,2,none⟩ (.string ts)).setCell ⟨w.heap.size+1,3,none⟩ (.slice none 0 0)=WW at *
      refine bodyPost_ret (v:= .agg #[.int .i64 4, .int .i64 0, .string ts, .slice none 0 0]) (by simp [results,Tryd.results92,go_sem,m0,m1,m2,m3]) rfl ⟨_, .mk 4 0 ts [],st,rfl,rX_zero _ _ 4 0 ts (ini rfl) (ini rfl) Hht.out.1,(HAc.out.later SP.out).since ms (by omega) (by omega),(SWc.out.trans (SP.out.mono (fun _ f=>f.elim))).then_new ms (fun k e=>Or.inr (by omega)),?_⟩
      rw [HW0.out,if_neg E1.out,if_neg E2.out,if_neg (by rw [Hwd.out];decide),←seeR_head H0.out,Hp.out,if_neg (fun e=>E6.out e.2)];exact ⟨rfl,H0.out,Hd.out,rfl⟩
    ·
     have f5:(pk==109)=false:=by simp [e5]
     have E5:=zh e5
     clear e5
     go_wp2_with fail
     obtain ⟨m0,m1,m2,m3,ms⟩:=cells4 (w:=wP) g0 g1 g2 g3 (.int .i64 4) (.int .i64 0) (.string ts) (.slice none 0 0)
     generalize hWW:(((wP.setCell ⟨w.heap.size+1,0,none⟩ (.int .i64 4)).setCell ⟨w.heap.size+1,1,none⟩ (.int .i64 0)).setCell ⟨w.heap.size+1,2,none⟩ (.string ts)).setCell ⟨w.heap.size+1,3,none⟩ (.slice none 0 0)=WW at *
     refine bodyPost_ret (v:= .agg #[.int .i64 4, .int .i64 0, .string ts, .slice none 0 0]) (by simp [results,Tryd.results92,go_sem,m0,m1,m2,m3]) rfl ⟨_, .mk 4 0 ts [],st,rfl,rX_zero _ _ 4 0 ts (ini rfl) (ini rfl) Hht.out.1,(HAc.out.later SP.out).since ms (by omega) (by omega),(SWc.out.trans (SP.out.mono (fun _ f=>f.elim))).then_new ms (fun k e=>Or.inr (by omega)),?_⟩
     rw [HW0.out,if_neg E1.out,if_neg E2.out,if_neg (by rw [Hwd.out];decide),←seeR_head H0.out,Hp.out,if_neg (fun e=>E5.out e.1)];exact ⟨rfl,H0.out,Hd.out,rfl⟩
end Go.Proofs.YtkopjgnjflhkeaaDoor

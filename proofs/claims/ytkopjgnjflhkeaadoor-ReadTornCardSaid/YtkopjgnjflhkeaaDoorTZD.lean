import Derived.Test.YtkopjgnjflhkeaaDoorTZC
import Derived.Test.YtkopjgnjflhkeaaDoorTC
import Derived.Deep.Cut
import Derived.Deep.DeepCutAuto
import Derived.Deep.CutRange
namespace Go.Proofs.YtkopjgnjflhkeaaDoor
open Go.RowKit Go.Pst
set_option linter.unusedVariables false
set_option linter.unusedSimpArgs false
variable {w:World} {br bT cap base:Nat} {T:List Tok} {st:RSt} {dep:Int}
def PrimOK (d:Nat):Prop:= ∀ (w:World) (br bT cap base:Nat) (T:List Tok) (st:RSt),RdAt w br bT cap T st→RdLaid w base br→st.fault=0→st.depth=30 - (d:Int)→
 Calls Tryd.prog 90 #[.pointer (some ⟨br,0,none⟩)] w (RdX w br bT cap T (30 - (d:Int)) (primR (exprR d) (T.drop st.i)))
def oneR (d:Nat):PR PExpr:=match d with
 |0=>deepE
 |d'+1=>unaryR d'
theorem putUnary {i:Nat} (hi:i≠2) (a:Act) (v:Value) (w:World):(results Tryd.f86 (a.put (some i) v).tmps).run Tryd.prog w=(results Tryd.f86 a.tmps).run Tryd.prog w:=by
 simp [results,Tryd.results86,Act.put,Array.getElem?_setIfInBounds_ne,hi]
theorem unaryR_eq (d:Nat):unaryR d=unaryG (oneR d) (exprR d):=by cases d<;>rfl
set_option maxRecDepth 4000 in
set_option maxHeartbeats 4000000 in
theorem readUnary_any (d:Nat) (hd30:d≤30) (hP:PrimOK d) (hE:ExprOK d) (hU: ∀ d',d=d'+1→UnaryOK d'):UnaryOK d:=by
 intro w br bT cap base T st h hL h0 hd
 have hbr:=h.lt.1
 have hbT:=h.lt.2
 obtain ⟨Res,hres⟩: ∃ Res,Res=unaryG (oneR d) (exprR d) (T.drop st.i):=⟨_,rfl⟩
 rw [unaryR_eq,←hres]
 have Hres:=zh hres
 have hs0:Since (fun _=>False) w ((w.alloc (.cells #[.pointer (some ⟨br,0,none⟩)] 46)).alloc (.cells #[.int .i64 0, .int .i64 0, .string ⟨#[]⟩, .slice none 0 0] 28)):=(Since.alloc _ _ _).trans (Since.alloc _ _ _)
 have hb0:((w.alloc (.cells #[.pointer (some ⟨br,0,none⟩)] 46)).alloc (.cells #[.int .i64 0, .int .i64 0, .string ⟨#[]⟩, .slice none 0 0] 28)).heap[w.heap.size]?=some (.cells #[.pointer (some ⟨br,0,none⟩)] 46 (0,0)):=allocs_get [(.cells #[.pointer (some ⟨br,0,none⟩)] 46),(.cells #[.int .i64 0, .int .i64 0, .string ⟨#[]⟩, .slice none 0 0] 28)] w 0 (by simp)
 have hb1:((w.alloc (.cells #[.pointer (some ⟨br,0,none⟩)] 46)).alloc (.cells #[.int .i64 0, .int .i64 0, .string ⟨#[]⟩, .slice none 0 0] 28)).heap[w.heap.size+1]?=some (.cells #[.int .i64 0, .int .i64 0, .string ⟨#[]⟩, .slice none 0 0] 28 (0,0)):=allocs_get [(.cells #[.pointer (some ⟨br,0,none⟩)] 46),(.cells #[.int .i64 0, .int .i64 0, .string ⟨#[]⟩, .slice none 0 0] 28)] w 1 (by simp)
 go_enter_defers Tryd.func86,Tryd.ntmps86
 go_wp2_with fail
 have hA:=h.later hs0
 have hB:=hL.later hs0
 generalize (w.alloc (.cells #[.pointer (some ⟨br,0,none⟩)] 46)).alloc (.cells #[.int .i64 0, .int .i64 0, .string ⟨#[]⟩, .slice none 0 0] 28)=w0 at *
 have hlt1:w.heap.size+1<w0.heap.size:=(Array.getElem?_eq_some_iff.1 hb1).1
 obtain ⟨t,ht⟩: ∃ t,seeR T st=t:=⟨_,rfl⟩
 have hpk:=readPeek_any hA
 rw [ht] at hpk
 refine hpk.mono ?_
 rintro en w1 ⟨rfl,hs1⟩
 obtain ⟨tk,ts,tn,tp⟩:=t
 simp only [tokC]
 obtain ⟨bt,hbt⟩: ∃ bt,bt=w1.heap.size:=⟨_,rfl⟩
 have hTP:(w1.alloc (.cells #[.int .u8 tk, .string ts, .int .i64 tn, .int .i64 tp] 52)).heap[bt]?=some (.cells #[.int .u8 tk, .string ts, .int .i64 tn, .int .i64 tp] 52 (0,0)):=by rw [hbt];exact heap_alloc_new w1 _
 have hltt:w.heap.size+1<bt:=by have:=hs1.size;omega
 have hs01:Since (fun _=>False) w0 (w1.alloc (.cells #[.int .u8 tk, .string ts, .int .i64 tn, .int .i64 tp] 52)):=hs1.trans (Since.alloc _ _ _)
 have hA1:=hA.later hs01
 have hB1:=hB.later hs01
 generalize hwP:w1.alloc (.cells #[.int .u8 tk, .string ts, .int .i64 tn, .int .i64 tp] 52)=wP at *
 have hwP':=hwP
 have k0:=(hs01.block w.heap.size (by omega) (fun f=>f)).trans hb0
 have k1:=(hs01.block (w.heap.size+1) hlt1 (fun f=>f)).trans hb1
 have q0:=ca0 k0
 have t0:=ca0 hTP
 have t1:=ca1 hTP
 have hlttP:bt<wP.heap.size:=(Array.getElem?_eq_some_iff.1 hTP).1
 have HsP:=zh (hs0.trans hs01)
 have HA1:=zh hA1
 have HB1:=zh hB1
 have HwP:=zh (And.intro hwP' hbt)
 have Ht:=zh ht
 have H0:=zh h0
 have Hd:=zh hd
 have Hi:=zh (h.inn h0)
 have HU:=zh hU
 have HK1:=zh k1
 clear h hL hA hB hpk hs0 hs01 hs1 hb0 hb1 hTP hwP hwP' ht h0 hd hU hA1 hB1 hbt k0 k1 hres
 go_upto_region 2 with fail
 rw [HwP.out.1,←HwP.out.2]
 by_cases hmin:tk=109∧(ts=⟨#[45]⟩∨ts=⟨#[33]⟩)
 ·
  rcases hmin.2 with rfl|rfl
  ·
   have hk:tk≠101:=by rw [hmin.1];decide
   have Hmin:=zh hmin.1
   have f1:(tk==109)=true:=by simp [hmin.1]
   have c1p:=HA1.out.c1
   have czp:=HA1.out.z 1
   have hi5:(st.i:Int)<5000:=by have:=Hi.out;have:=HA1.out.toks.len;omega
   have hstep:=HA1.out.step H0.out (by rw [Ht.out];exact hk)
   have sE:Since (fun k=>k=br) wP (wP.setCell ⟨br,1,none⟩ (.int .i64 ((st.i:Int)+1))):=Since.setCell wP ⟨br,1,none⟩ (.int .i64 ((st.i:Int)+1))
   have n2:w.heap.size≠br:=by omega
   have n1:bt≠br:=by omega
   have q0e:=(sE.cell (b:=w.heap.size) (o:=0) (by omega) (by omega)).trans q0
   have t1e:=(sE.cell (b:=bt) (o:=1) hlttP n1).trans t1
   have hltE:bt<(wP.setCell ⟨br,1,none⟩ (.int .i64 ((st.i:Int)+1))).heap.size:=by simpa using hlttP
   have k1e:=(sE.block (w.heap.size+1) (by omega) (by omega)).trans HK1.out
   have hdeep:=readDeeper_any hstep d (fun _=>Hd.out) hd30
   have hLE:=HB1.out.box sE
   have HsE:=zh ((HsP.out.mono (fun _ f=>f.elim)).trans sE)
   have HLE:=zh hLE
   have Hdeep:=zh hdeep
   have HK1e:=zh k1e
   clear hmin hstep hLE hdeep k1e sE
   have hRes1:Res=PR.bind (oneR d) (fun x=>PR.ret (.mk 6 0 ⟨#[45]⟩ [x])) (T.drop (st.i+1)):=by
    rw [Hres.out]
    unfold unaryG
    rw [←seeR_head H0.out,Ht.out,if_pos ⟨Hmin.out,Or.inl rfl⟩,drop_tail]
   have HRes1:=zh hRes1
   clear hRes1
   go_wp2_with fail
   refine Hdeep.out.mono ?_
   rintro en w2 ⟨st2,rfl,h2,hs2,hg2⟩
   have k1f:=(hs2.block (w.heap.size+1) (by have:=hltE;omega) (by omega)).trans HK1e.out
   have q0f:=(hs2.cell (b:=w.heap.size) (o:=0) (by have:=hltE;omega) n2).trans q0e
   have t1f:=(hs2.cell (b:=bt) (o:=1) hltE n1).trans t1e
   have g0:=ca0 k1f
   have g1:=ca1 k1f
   have g2:=ca2 k1f
   have g3:=ca3 k1f
   have gz:=cz k1f
   have hlt2:bt<w2.heap.size:=Nat.lt_of_lt_of_le hltE hs2.size
   have H2:=zh h2
   have HL2:=zh (HLE.out.box hs2)
   have HsW2:=zh (HsE.out.trans hs2)
   have Hg2:=zh hg2
   clear h2 hs2 hg2 k1f q0e t1e c1p czp q0 t0 t1
   by_cases hf:st2.fault=0
   ·
    have f0:(st2.fault==0)=true:=by simpa using hf
    obtain ⟨e1,hdp1⟩:=Hg2.out.fault0 hf
    rw [runR_ok (by exact H0.out)] at e1
    have hdz:d≠0:=fun e=>by rw [e] at e1;cases e1
    obtain ⟨d',rfl⟩: ∃ d',d=d'+1:=⟨d - 1,by omega⟩
    have e2:T.drop st2.i=T.drop (st.i+1):=by
     unfold deepR at e1
     rw [if_neg hdz] at e1
     injection e1 with e1
     injection e1 with _ e1
     exact e1.symm
    have hR2:Res=runR T (PR.bind (unaryR d') fun x=>PR.ret (.mk 6 0 ⟨#[45]⟩ [x])) st2:=by
     rw [HRes1.out,runR_ok hf,e2]
     rfl
    have hun:=HU.out d' rfl w2.drew br bT cap base T st2 (H2.out.later (Since.drew _ _)) (HL2.out.later (Since.drew _ _)) hf (by rw [hdp1];omega)
    have HR2:=zh hR2
    have Hun:=zh hun
    have Hf2:=zh hf
    clear e1 hdp1 hdz e2 hR2 hun hf
    go_wp2_with fail
    have hS0:=And.intro t1f q0f
    refine WpT.start (fun w'=>w'.cell? ⟨bt,1,none⟩=some (.string ⟨#[45]⟩)∧w'.cell? ⟨w.heap.size,0,none⟩=some (.pointer (some ⟨br,0,none⟩))) 6 (by kernel_rfl) ?_
    refine WpT.tk (i:=0) (v:=?_) rfl (by kernel_rfl) (fun _ _ _ h=>panicD (putUnary (by decide) _ _) rfl h) (Or.inl ⟨by rfl,?_⟩) hS0 ?_
    rotate_left
    ·
     intro wS hSw;(try dsimp only at hSw);go_simp;(first|done|with_reducible rfl)
    try simp only [Act.put,List.setIfInBounds_toArray,List.set_cons_zero,List.set_cons_succ]
    refine WpT.tk (i:=1) (v:=?_) rfl (by kernel_rfl) (fun _ _ _ h=>panicD (putUnary (by decide) _ _) rfl h) (Or.inl ⟨by rfl,?_⟩) hS0 ?_
    rotate_left
    ·
     intro wS hSw;(try dsimp only at hSw);go_simp;(first|done|with_reducible rfl)
    try simp only [Act.put,List.setIfInBounds_toArray,List.set_cons_zero,List.set_cons_succ]
    refine WpT.tk (i:=2) (v:=?_) rfl (by kernel_rfl) (fun _ _ _ h=>panicD (putUnary (by decide) _ _) rfl h) (Or.inl ⟨by rfl,?_⟩) hS0 ?_
    rotate_left
    ·
     intro wS hSw;(try dsimp only at hSw);go_simp;(first|done|with_reducible rfl)
    try simp only [Act.put,List.setIfInBounds_toArray,List.set_cons_zero,List.set_cons_succ]
    refine WpT.one (i:=3) (by kernel_rfl) rfl (fun K hK=>?_)
    go_simp
    go_at_call 86
    refine Hun.out.mono ?_
    rintro en w4 ⟨cs,x,st4,rfl,hx,h4,hs4,hg4⟩
    obtain ⟨ax,cx,rfl⟩:=rX_shape hx
    have hltD:bt<w2.drew.heap.size:=hlt2
    have hS4:=And.intro ((hs4.cell (b:=bt) (o:=1) hltD n1).trans t1f) ((hs4.cell (b:=w.heap.size) (o:=0) (Nat.lt_trans (show w.heap.size<bt by omega) hltD) n2).trans q0f)
    refine hK.out _ _ (fun _ _=>hS4) ?_
    clear hK K
    try simp only [Act.put,List.setIfInBounds_toArray,List.set_cons_zero,List.set_cons_succ]
    refine WpT.one (i:=4) (by kernel_rfl) rfl (fun K hK=>?_)
    go_simp
    have hs5:Since (fun _=>False) w4 (w4.alloc (.cells #[.int .i64 x.kind, .int .i64 x.n, .string x.s, .slice ax x.args.length cx] 28)):=Since.alloc _ _ _
    have hlt4:bt<w4.heap.size:=Nat.lt_of_lt_of_le hltD hs4.size
    have hS5:=And.intro ((hs5.cell (b:=bt) (o:=1) hlt4 (fun f=>f)).trans hS4.1) ((hs5.cell (b:=w.heap.size) (o:=0) (by omega) (fun f=>f)).trans hS4.2)
    refine hK.out _ _ (fun _ _=>hS5) ?_
    clear hK K
    try simp only [Act.put,List.setIfInBounds_toArray,List.set_cons_zero,List.set_cons_succ]
    refine WpT.one (i:=5) (by kernel_rfl) rfl (fun K hK=>?_)
    go_simp
    refine hK.out _ _ (fun _ _=>hS5) ?_
    clear hK K
    try simp only [Act.put,List.setIfInBounds_toArray,List.set_cons_zero,List.set_cons_succ]
    have n3:w.heap.size+1≠br:=by omega
    have hlt1D:w.heap.size+1<w2.drew.heap.size:=Nat.lt_trans (show w.heap.size+1<bt by omega) hltD
    have hlt14:w.heap.size+1<w4.heap.size:=by omega
    have y0:=(hs5.cell (b:=w.heap.size+1) (o:=0) hlt14 (fun f=>f)).trans ((hs4.cell (b:=w.heap.size+1) (o:=0) hlt1D n3).trans g0)
    have y1:=(hs5.cell (b:=w.heap.size+1) (o:=1) hlt14 (fun f=>f)).trans ((hs4.cell (b:=w.heap.size+1) (o:=1) hlt1D n3).trans g1)
    have y2:=(hs5.cell (b:=w.heap.size+1) (o:=2) hlt14 (fun f=>f)).trans ((hs4.cell (b:=w.heap.size+1) (o:=2) hlt1D n3).trans g2)
    have y3:=(hs5.cell (b:=w.heap.size+1) (o:=3) hlt14 (fun f=>f)).trans ((hs4.cell (b:=w.heap.size+1) (o:=3) hlt1D n3).trans g3)
    have yz: ∀ j,(w4.alloc (.cells #[.int .i64 x.kind, .int .i64 x.n, .string x.s, .slice ax x.args.length cx] 28)).frozen? ⟨w.heap.size+1,j,none⟩=false:=fun j=>(hs5.frozen hlt14 (fun f=>f)).trans ((hs4.frozen hlt1D n3).trans (gz j))
    have u0:=(hs4.cell (b:=w.heap.size+1) (o:=0) hlt1D n3).trans g0
    have u1:=(hs4.cell (b:=w.heap.size+1) (o:=1) hlt1D n3).trans g1
    have u2:=(hs4.cell (b:=w.heap.size+1) (o:=2) hlt1D n3).trans g2
    have u3:=(hs4.cell (b:=w.heap.size+1) (o:=3) hlt1D n3).trans g3
    have uz: ∀ j,w4.frozen? ⟨w.heap.size+1,j,none⟩=false:=fun j=>(hs4.frozen hlt1D n3).trans (gz j)
    refine WpT.one (i:=6) (by kernel_rfl) rfl (fun K hK=>?_)
    go_simp
    refine hK.out _ _ (fun h=>absurd rfl h) ?_
    clear hK K
    try simp only [Act.put,List.setIfInBounds_toArray,List.set_cons_zero,List.set_cons_succ]
    refine WpT.done (by kernel_rfl) ?_ _
    obtain ⟨r0,r1,r2,r3,rs⟩:=cells4 u0 u1 u2 u3 (.int .i64 6) (.int .i64 0) (.string ⟨#[45]⟩) (.slice (some ⟨w4.heap.size,0,none⟩) 1 1)
    have hZs:((((w4.setCell ⟨w.heap.size+1,0,none⟩ (.int .i64 6)).setCell ⟨w.heap.size+1,1,none⟩ (.int .i64 0)).setCell ⟨w.heap.size+1,2,none⟩ (.string ⟨#[45]⟩)).setCell ⟨w.heap.size+1,3,none⟩ (.slice (some ⟨w4.heap.size,0,none⟩) 1 1)).heap.size=w4.heap.size:=by simp
    generalize (((w4.setCell ⟨w.heap.size+1,0,none⟩ (.int .i64 6)).setCell ⟨w.heap.size+1,1,none⟩ (.int .i64 0)).setCell ⟨w.heap.size+1,2,none⟩ (.string ⟨#[45]⟩)).setCell ⟨w.heap.size+1,3,none⟩ (.slice (some ⟨w4.heap.size,0,none⟩) 1 1)=Z at *
    have rA:Since (fun _=>False) Z (Z.alloc (.cells #[.int .i64 x.kind, .int .i64 x.n, .string x.s, .slice ax x.args.length cx] 28)):=Since.alloc _ _ _
    have hblk:(Z.alloc (.cells #[.int .i64 x.kind, .int .i64 x.n, .string x.s, .slice ax x.args.length cx] 28)).heap[w4.heap.size]?=some (.cells #[.int .i64 x.kind, .int .i64 x.n, .string x.s, .slice ax x.args.length cx] 28 (0,0)):=by rw [←hZs];exact heap_alloc_new Z _
    have hltZ:w.heap.size+1<Z.heap.size:=by omega
    have m0:=(rA.cell (b:=w.heap.size+1) (o:=0) hltZ (fun f=>f)).trans r0
    have m1:=(rA.cell (b:=w.heap.size+1) (o:=1) hltZ (fun f=>f)).trans r1
    have m2:=(rA.cell (b:=w.heap.size+1) (o:=2) hltZ (fun f=>f)).trans r2
    have m3:=(rA.cell (b:=w.heap.size+1) (o:=3) hltZ (fun f=>f)).trans r3
    have s49:Since (fun k=>k=w.heap.size+1) w4 (Z.alloc (.cells #[.int .i64 x.kind, .int .i64 x.n, .string x.s, .slice ax x.args.length cx] 28)):=rs.trans (Since.alloc _ _ _)
    have q9:=(s49.cell (b:=w.heap.size) (o:=0) (by omega) (by omega)).trans hS4.2
    generalize Z.alloc (.cells #[.int .i64 x.kind, .int .i64 x.n, .string x.s, .slice ax x.args.length cx] 28)=W9 at *
    have hg9:Good' T (30 - (d':Int)) Res (.mk 6 0 ⟨#[45]⟩ [x]) st4:=by
     rw [HR2.out]
     have hgu:Good' T (30 - (d':Int)) (runR T (unaryR d') st2) x st4:=by rw [runR_ok Hf2.out];exact hg4
     rw [hgu.bind]
     exact Good'.ret _ (fun e=>hgu.dep_eq e)
    have hs2w:=HsW2.out.size
    have hs24:=hs4.size
    have hfin: ∀ w',RdAt w' br bT cap T st4.up→Since (fun k=>k=br) W9 w'→RdX w br bT cap T (30 - ((d'+1:Nat):Int)) Res (.returned (.agg #[.int .i64 6, .int .i64 0, .string ⟨#[45]⟩, .slice (some ⟨w4.heap.size,0,none⟩) 1 1])) w':=fun w' h3 hs3=>by
     refine ⟨_, .mk 6 0 ⟨#[45]⟩ [x],st4.up,rfl,?_,h3,?_,?_⟩
     ·
      obtain ⟨dx,hdx⟩:=hx
      refine rX_mk 6 0 ⟨#[45]⟩ (ini rfl) (ini rfl) (by decide) ⟨dx,?_⟩
      have hb3:=(hs3.block w4.heap.size (by have:=(Array.getElem?_eq_some_iff.1 hblk).1;exact this) (by omega)).trans hblk
      refine rSlice_all (l:=[x]) [[.int .i64 x.kind, .int .i64 x.n, .string x.s, .slice ax x.args.length cx]] (by omega) (lens rfl) hb3 ⟨⟨rfl,?_⟩,trivial⟩
      refine Good.keep (w:=w4) (S:=fun k=>w2.drew.heap.size≤k) ⟨Nat.le_trans s49.size hs3.size,fun k hk hS=>?_⟩ (fun k hk hS=>?_) hdx
      ·
       have:=Nat.lt_of_lt_of_le hlt1D hS
       exact (hs3.block k (Nat.lt_of_lt_of_le hk s49.size) (by omega)).trans (s49.block k hk (by omega))
      ·
       have:=Nat.lt_of_lt_of_le hlt1D hS
       omega
     ·
      exact (((HsW2.out.trans ((Since.drew (fun _=>False) w2).mono (fun _ f=>f.elim))).trans hs4).then_new s49 (fun k e=>Or.inr (by omega))).trans hs3
     ·
      have:=hg9.up (by omega) (by omega)
      rw [show (30:Int) - ((d'+1:Nat):Int)=30 - (d':Int) - 1 by omega]
      exact this
    have Hfin:=zh hfin
    have H9:=zh (h4.since s49 (by omega) (by omega))
    have hlt19:w.heap.size+1<W9.heap.size:=Nat.lt_of_lt_of_le hlt14 s49.size
    clear hfin h4 rs rA s49 hs4 hg4 hx hS4 hS5 hs5 hg9
    go_wp2_with fail
    refine readUnaryDoor H9.out q9 ?_ Hfin.out
    intro w' hs
    have z0:=(hs.cell (b:=w.heap.size+1) (o:=0) hlt19 n3).trans m0
    have z1:=(hs.cell (b:=w.heap.size+1) (o:=1) hlt19 n3).trans m1
    have z2:=(hs.cell (b:=w.heap.size+1) (o:=2) hlt19 n3).trans m2
    have z3:=(hs.cell (b:=w.heap.size+1) (o:=3) hlt19 n3).trans m3
    simp [results,Tryd.results86,go_sem,z0,z1,z2,z3]
   ·
    have f0:(st2.fault==0)=false:=by simpa using hf
    have Hf:=zh hf
    clear hf
    go_wp2_with fail
    obtain ⟨m0,m1,m2,m3,ms⟩:=cells4 g0 g1 g2 g3 (.int .i64 0) (.int .i64 0) (.string ⟨#[]⟩) (.slice none 0 0)
    refine ⟨.agg #[.int .i64 0, .int .i64 0, .string ⟨#[]⟩, .slice none 0 0],by simp [results,Tryd.results86,go_sem,m0,m1,m2,m3],_,_,st2,rfl,rX_zero _ _ 0 0 ⟨#[]⟩ (ini rfl) (ini rfl) (by decide),H2.out.since ms (by omega) (by omega),HsW2.out.then_new ms (fun k e=>Or.inr (by omega)),?_⟩
    have e1:=Hg2.out.fault1 Hf.out
    rw [runR_ok (by exact H0.out)] at e1
    have e2:Res= .error (st2.pos,st2.fault):=by
     rw [HRes1.out]
     unfold deepR at e1
     split at e1
     ·
      rename_i hz
      subst hz
      injection e1 with e1
      rw [←e1]
      rfl
     ·
      cases e1
    rw [e2]
    exact ⟨rfl,rfl,Hf.out⟩
  ·
   have hk:tk≠101:=by rw [hmin.1];decide
   have Hmin:=zh hmin.1
   have f1:(tk==109)=true:=by simp [hmin.1]
   have c1p:=HA1.out.c1
   have czp:=HA1.out.z 1
   have hi5:(st.i:Int)<5000:=by have:=Hi.out;have:=HA1.out.toks.len;omega
   have hstep:=HA1.out.step H0.out (by rw [Ht.out];exact hk)
   have sE:Since (fun k=>k=br) wP (wP.setCell ⟨br,1,none⟩ (.int .i64 ((st.i:Int)+1))):=Since.setCell wP ⟨br,1,none⟩ (.int .i64 ((st.i:Int)+1))
   have n2:w.heap.size≠br:=by omega
   have n1:bt≠br:=by omega
   have q0e:=(sE.cell (b:=w.heap.size) (o:=0) (by omega) (by omega)).trans q0
   have t1e:=(sE.cell (b:=bt) (o:=1) hlttP n1).trans t1
   have hltE:bt<(wP.setCell ⟨br,1,none⟩ (.int .i64 ((st.i:Int)+1))).heap.size:=by simpa using hlttP
   have k1e:=(sE.block (w.heap.size+1) (by omega) (by omega)).trans HK1.out
   have hdeep:=readDeeper_any hstep d (fun _=>Hd.out) hd30
   have hLE:=HB1.out.box sE
   have HsE:=zh ((HsP.out.mono (fun _ f=>f.elim)).trans sE)
   have HLE:=zh hLE
   have Hdeep:=zh hdeep
   have HK1e:=zh k1e
   clear hmin hstep hLE hdeep k1e sE
   have hRes1:Res=PR.bind (oneR d) (fun x=>PR.ret (.mk 6 0 ⟨#[33]⟩ [x])) (T.drop (st.i+1)):=by
    rw [Hres.out]
    unfold unaryG
    rw [←seeR_head H0.out,Ht.out,if_pos ⟨Hmin.out,Or.inr rfl⟩,drop_tail]
   have HRes1:=zh hRes1
   clear hRes1
   go_wp2_with fail
   refine Hdeep.out.mono ?_
   rintro en w2 ⟨st2,rfl,h2,hs2,hg2⟩
   have k1f:=(hs2.block (w.heap.size+1) (by have:=hltE;omega) (by omega)).trans HK1e.out
   have q0f:=(hs2.cell (b:=w.heap.size) (o:=0) (by have:=hltE;omega) n2).trans q0e
   have t1f:=(hs2.cell (b:=bt) (o:=1) hltE n1).trans t1e
   have g0:=ca0 k1f
   have g1:=ca1 k1f
   have g2:=ca2 k1f
   have g3:=ca3 k1f
   have gz:=cz k1f
   have hlt2:bt<w2.heap.size:=Nat.lt_of_lt_of_le hltE hs2.size
   have H2:=zh h2
   have HL2:=zh (HLE.out.box hs2)
   have HsW2:=zh (HsE.out.trans hs2)
   have Hg2:=zh hg2
   clear h2 hs2 hg2 k1f q0e t1e c1p czp q0 t0 t1
   by_cases hf:st2.fault=0
   ·
    have f0:(st2.fault==0)=true:=by simpa using hf
    obtain ⟨e1,hdp1⟩:=Hg2.out.fault0 hf
    rw [runR_ok (by exact H0.out)] at e1
    have hdz:d≠0:=fun e=>by rw [e] at e1;cases e1
    obtain ⟨d',rfl⟩: ∃ d',d=d'+1:=⟨d - 1,by omega⟩
    have e2:T.drop st2.i=T.drop (st.i+1):=by
     unfold deepR at e1
     rw [if_neg hdz] at e1
     injection e1 with e1
     injection e1 with _ e1
     exact e1.symm
    have hR2:Res=runR T (PR.bind (unaryR d') fun x=>PR.ret (.mk 6 0 ⟨#[33]⟩ [x])) st2:=by
     rw [HRes1.out,runR_ok hf,e2]
     rfl
    have hun:=HU.out d' rfl w2.drew br bT cap base T st2 (H2.out.later (Since.drew _ _)) (HL2.out.later (Since.drew _ _)) hf (by rw [hdp1];omega)
    have HR2:=zh hR2
    have Hun:=zh hun
    have Hf2:=zh hf
    clear e1 hdp1 hdz e2 hR2 hun hf
    go_wp2_with fail
    have hS0:=And.intro t1f q0f
    refine WpT.start (fun w'=>w'.cell? ⟨bt,1,none⟩=some (.string ⟨#[33]⟩)∧w'.cell? ⟨w.heap.size,0,none⟩=some (.pointer (some ⟨br,0,none⟩))) 6 (by kernel_rfl) ?_
    refine WpT.tk (i:=0) (v:=?_) rfl (by kernel_rfl) (fun _ _ _ h=>panicD (putUnary (by decide) _ _) rfl h) (Or.inl ⟨by rfl,?_⟩) hS0 ?_
    rotate_left
    ·
     intro wS hSw;(try dsimp only at hSw);go_simp;(first|done|with_reducible rfl)
    try simp only [Act.put,List.setIfInBounds_toArray,List.set_cons_zero,List.set_cons_succ]
    refine WpT.tk (i:=1) (v:=?_) rfl (by kernel_rfl) (fun _ _ _ h=>panicD (putUnary (by decide) _ _) rfl h) (Or.inl ⟨by rfl,?_⟩) hS0 ?_
    rotate_left
    ·
     intro wS hSw;(try dsimp only at hSw);go_simp;(first|done|with_reducible rfl)
    try simp only [Act.put,List.setIfInBounds_toArray,List.set_cons_zero,List.set_cons_succ]
    refine WpT.tk (i:=2) (v:=?_) rfl (by kernel_rfl) (fun _ _ _ h=>panicD (putUnary (by decide) _ _) rfl h) (Or.inl ⟨by rfl,?_⟩) hS0 ?_
    rotate_left
    ·
     intro wS hSw;(try dsimp only at hSw);go_simp;(first|done|with_reducible rfl)
    try simp only [Act.put,List.setIfInBounds_toArray,List.set_cons_zero,List.set_cons_succ]
    refine WpT.one (i:=3) (by kernel_rfl) rfl (fun K hK=>?_)
    go_simp
    go_at_call 86
    refine Hun.out.mono ?_
    rintro en w4 ⟨cs,x,st4,rfl,hx,h4,hs4,hg4⟩
    obtain ⟨ax,cx,rfl⟩:=rX_shape hx
    have hltD:bt<w2.drew.heap.size:=hlt2
    have hS4:=And.intro ((hs4.cell (b:=bt) (o:=1) hltD n1).trans t1f) ((hs4.cell (b:=w.heap.size) (o:=0) (Nat.lt_trans (show w.heap.size<bt by omega) hltD) n2).trans q0f)
    refine hK.out _ _ (fun _ _=>hS4) ?_
    clear hK K
    try simp only [Act.put,List.setIfInBounds_toArray,List.set_cons_zero,List.set_cons_succ]
    refine WpT.one (i:=4) (by kernel_rfl) rfl (fun K hK=>?_)
    go_simp
    have hs5:Since (fun _=>False) w4 (w4.alloc (.cells #[.int .i64 x.kind, .int .i64 x.n, .string x.s, .slice ax x.args.length cx] 28)):=Since.alloc _ _ _
    have hlt4:bt<w4.heap.size:=Nat.lt_of_lt_of_le hltD hs4.size
    have hS5:=And.intro ((hs5.cell (b:=bt) (o:=1) hlt4 (fun f=>f)).trans hS4.1) ((hs5.cell (b:=w.heap.size) (o:=0) (by omega) (fun f=>f)).trans hS4.2)
    refine hK.out _ _ (fun _ _=>hS5) ?_
    clear hK K
    try simp only [Act.put,List.setIfInBounds_toArray,List.set_cons_zero,List.set_cons_succ]
    refine WpT.one (i:=5) (by kernel_rfl) rfl (fun K hK=>?_)
    go_simp
    refine hK.out _ _ (fun _ _=>hS5) ?_
    clear hK K
    try simp only [Act.put,List.setIfInBounds_toArray,List.set_cons_zero,List.set_cons_succ]
    have n3:w.heap.size+1≠br:=by omega
    have hlt1D:w.heap.size+1<w2.drew.heap.size:=Nat.lt_trans (show w.heap.size+1<bt by omega) hltD
    have hlt14:w.heap.size+1<w4.heap.size:=by omega
    have y0:=(hs5.cell (b:=w.heap.size+1) (o:=0) hlt14 (fun f=>f)).trans ((hs4.cell (b:=w.heap.size+1) (o:=0) hlt1D n3).trans g0)
    have y1:=(hs5.cell (b:=w.heap.size+1) (o:=1) hlt14 (fun f=>f)).trans ((hs4.cell (b:=w.heap.size+1) (o:=1) hlt1D n3).trans g1)
    have y2:=(hs5.cell (b:=w.heap.size+1) (o:=2) hlt14 (fun f=>f)).trans ((hs4.cell (b:=w.heap.size+1) (o:=2) hlt1D n3).trans g2)
    have y3:=(hs5.cell (b:=w.heap.size+1) (o:=3) hlt14 (fun f=>f)).trans ((hs4.cell (b:=w.heap.size+1) (o:=3) hlt1D n3).trans g3)
    have yz: ∀ j,(w4.alloc (.cells #[.int .i64 x.kind, .int .i64 x.n, .string x.s, .slice ax x.args.length cx] 28)).frozen? ⟨w.heap.size+1,j,none⟩=false:=fun j=>(hs5.frozen hlt14 (fun f=>f)).trans ((hs4.frozen hlt1D n3).trans (gz j))
    have u0:=(hs4.cell (b:=w.heap.size+1) (o:=0) hlt1D n3).trans g0
    have u1:=(hs4.cell (b:=w.heap.size+1) (o:=1) hlt1D n3).trans g1
    have u2:=(hs4.cell (b:=w.heap.size+1) (o:=2) hlt1D n3).trans g2
    have u3:=(hs4.cell (b:=w.heap.size+1) (o:=3) hlt1D n3).trans g3
    have uz: ∀ j,w4.frozen? ⟨w.heap.size+1,j,none⟩=false:=fun j=>(hs4.frozen hlt1D n3).trans (gz j)
    refine WpT.one (i:=6) (by kernel_rfl) rfl (fun K hK=>?_)
    go_simp
    refine hK.out _ _ (fun h=>absurd rfl h) ?_
    clear hK K
    try simp only [Act.put,List.setIfInBounds_toArray,List.set_cons_zero,List.set_cons_succ]
    refine WpT.done (by kernel_rfl) ?_ _
    obtain ⟨r0,r1,r2,r3,rs⟩:=cells4 u0 u1 u2 u3 (.int .i64 6) (.int .i64 0) (.string ⟨#[33]⟩) (.slice (some ⟨w4.heap.size,0,none⟩) 1 1)
    have hZs:((((w4.setCell ⟨w.heap.size+1,0,none⟩ (.int .i64 6)).setCell ⟨w.heap.size+1,1,none⟩ (.int .i64 0)).setCell ⟨w.heap.size+1,2,none⟩ (.string ⟨#[33]⟩)).setCell ⟨w.heap.size+1,3,none⟩ (.slice (some ⟨w4.heap.size,0,none⟩) 1 1)).heap.size=w4.heap.size:=by simp
    generalize (((w4.setCell ⟨w.heap.size+1,0,none⟩ (.int .i64 6)).setCell ⟨w.heap.size+1,1,none⟩ (.int .i64 0)).setCell ⟨w.heap.size+1,2,none⟩ (.string ⟨#[33]⟩)).setCell ⟨w.heap.size+1,3,none⟩ (.slice (some ⟨w4.heap.size,0,none⟩) 1 1)=Z at *
    have rA:Since (fun _=>False) Z (Z.alloc (.cells #[.int .i64 x.kind, .int .i64 x.n, .string x.s, .slice ax x.args.length cx] 28)):=Since.alloc _ _ _
    have hblk:(Z.alloc (.cells #[.int .i64 x.kind, .int .i64 x.n, .string x.s, .slice ax x.args.length cx] 28)).heap[w4.heap.size]?=some (.cells #[.int .i64 x.kind, .int .i64 x.n, .string x.s, .slice ax x.args.length cx] 28 (0,0)):=by rw [←hZs];exact heap_alloc_new Z _
    have hltZ:w.heap.size+1<Z.heap.size:=by omega
    have m0:=(rA.cell (b:=w.heap.size+1) (o:=0) hltZ (fun f=>f)).trans r0
    have m1:=(rA.cell (b:=w.heap.size+1) (o:=1) hltZ (fun f=>f)).trans r1
    have m2:=(rA.cell (b:=w.heap.size+1) (o:=2) hltZ (fun f=>f)).trans r2
    have m3:=(rA.cell (b:=w.heap.size+1) (o:=3) hltZ (fun f=>f)).trans r3
    have s49:Since (fun k=>k=w.heap.size+1) w4 (Z.alloc (.cells #[.int .i64 x.kind, .int .i64 x.n, .string x.s, .slice ax x.args.length cx] 28)):=rs.trans (Since.alloc _ _ _)
    have q9:=(s49.cell (b:=w.heap.size) (o:=0) (by omega) (by omega)).trans hS4.2
    generalize Z.alloc (.cells #[.int .i64 x.kind, .int .i64 x.n, .string x.s, .slice ax x.args.length cx] 28)=W9 at *
    have hg9:Good' T (30 - (d':Int)) Res (.mk 6 0 ⟨#[33]⟩ [x]) st4:=by
     rw [HR2.out]
     have hgu:Good' T (30 - (d':Int)) (runR T (unaryR d') st2) x st4:=by rw [runR_ok Hf2.out];exact hg4
     rw [hgu.bind]
     exact Good'.ret _ (fun e=>hgu.dep_eq e)
    have hs2w:=HsW2.out.size
    have hs24:=hs4.size
    have hfin: ∀ w',RdAt w' br bT cap T st4.up→Since (fun k=>k=br) W9 w'→RdX w br bT cap T (30 - ((d'+1:Nat):Int)) Res (.returned (.agg #[.int .i64 6, .int .i64 0, .string ⟨#[33]⟩, .slice (some ⟨w4.heap.size,0,none⟩) 1 1])) w':=fun w' h3 hs3=>by
     refine ⟨_, .mk 6 0 ⟨#[33]⟩ [x],st4.up,rfl,?_,h3,?_,?_⟩
     ·
      obtain ⟨dx,hdx⟩:=hx
      refine rX_mk 6 0 ⟨#[33]⟩ (ini rfl) (ini rfl) (by decide) ⟨dx,?_⟩
      have hb3:=(hs3.block w4.heap.size (by have:=(Array.getElem?_eq_some_iff.1 hblk).1;exact this) (by omega)).trans hblk
      refine rSlice_all (l:=[x]) [[.int .i64 x.kind, .int .i64 x.n, .string x.s, .slice ax x.args.length cx]] (by omega) (lens rfl) hb3 ⟨⟨rfl,?_⟩,trivial⟩
      refine Good.keep (w:=w4) (S:=fun k=>w2.drew.heap.size≤k) ⟨Nat.le_trans s49.size hs3.size,fun k hk hS=>?_⟩ (fun k hk hS=>?_) hdx
      ·
       have:=Nat.lt_of_lt_of_le hlt1D hS
       exact (hs3.block k (Nat.lt_of_lt_of_le hk s49.size) (by omega)).trans (s49.block k hk (by omega))
      ·
       have:=Nat.lt_of_lt_of_le hlt1D hS
       omega
     ·
      exact (((HsW2.out.trans ((Since.drew (fun _=>False) w2).mono (fun _ f=>f.elim))).trans hs4).then_new s49 (fun k e=>Or.inr (by omega))).trans hs3
     ·
      have:=hg9.up (by omega) (by omega)
      rw [show (30:Int) - ((d'+1:Nat):Int)=30 - (d':Int) - 1 by omega]
      exact this
    have Hfin:=zh hfin
    have H9:=zh (h4.since s49 (by omega) (by omega))
    have hlt19:w.heap.size+1<W9.heap.size:=Nat.lt_of_lt_of_le hlt14 s49.size
    clear hfin h4 rs rA s49 hs4 hg4 hx hS4 hS5 hs5 hg9
    go_wp2_with fail
    refine readUnaryDoor H9.out q9 ?_ Hfin.out
    intro w' hs
    have z0:=(hs.cell (b:=w.heap.size+1) (o:=0) hlt19 n3).trans m0
    have z1:=(hs.cell (b:=w.heap.size+1) (o:=1) hlt19 n3).trans m1
    have z2:=(hs.cell (b:=w.heap.size+1) (o:=2) hlt19 n3).trans m2
    have z3:=(hs.cell (b:=w.heap.size+1) (o:=3) hlt19 n3).trans m3
    simp [results,Tryd.results86,go_sem,z0,z1,z2,z3]
   ·
    have f0:(st2.fault==0)=false:=by simpa using hf
    have Hf:=zh hf
    clear hf
    go_wp2_with fail
    obtain ⟨m0,m1,m2,m3,ms⟩:=cells4 g0 g1 g2 g3 (.int .i64 0) (.int .i64 0) (.string ⟨#[]⟩) (.slice none 0 0)
    refine ⟨.agg #[.int .i64 0, .int .i64 0, .string ⟨#[]⟩, .slice none 0 0],by simp [results,Tryd.results86,go_sem,m0,m1,m2,m3],_,_,st2,rfl,rX_zero _ _ 0 0 ⟨#[]⟩ (ini rfl) (ini rfl) (by decide),H2.out.since ms (by omega) (by omega),HsW2.out.then_new ms (fun k e=>Or.inr (by omega)),?_⟩
    have e1:=Hg2.out.fault1 Hf.out
    rw [runR_ok (by exact H0.out)] at e1
    have e2:Res= .error (st2.pos,st2.fault):=by
     rw [HRes1.out]
     unfold deepR at e1
     split at e1
     ·
      rename_i hz
      subst hz
      injection e1 with e1
      rw [←e1]
      rfl
     ·
      cases e1
    rw [e2]
    exact ⟨rfl,rfl,Hf.out⟩
 ·
  have hnm: ¬(tk=109∧(ts=⟨#[45]⟩∨ts=⟨#[33]⟩)):=hmin
  have Hnm:=zh hnm
  clear hmin
  go_cut [20] from 8 to 20 (fun v wx=>v= .bool false∧wx=wP)
  case first=>
   by_cases e1:tk=109
   ·
    have f1:(tk==109)=true:=by simp [e1]
    have f2:=tokS_ne (x:=ts) (y:=⟨#[45]⟩) (fun e=>hnm ⟨e1,Or.inl e⟩)
    have f3:=tokS_ne (x:=ts) (y:=⟨#[33]⟩) (fun e=>hnm ⟨e1,Or.inr e⟩)
    clear hnm e1
    simp at f2 f3
    go_wp2_with fail
    go_meet
    case rel=>exact ⟨by simp [f2,f3],rfl⟩
   ·
    have f1:(tk==109)=false:=by simp [e1]
    clear hnm e1
    go_wp2_with fail
    go_meet
    case rel=>exact ⟨rfl,rfl⟩
  case rest=>
   obtain ⟨rfl,hw⟩:=hcut
   rw [hw]
   clear hw
   clear hnm t0 t1
   have hpr:=hP wP br bT cap base T st HA1.out HB1.out H0.out Hd.out
   have Hpr:=zh hpr
   have HE:=zh hE
   have Hwp1:=zh HwP.out
   clear hpr hP hE
   go_wp2_with fail
   refine Hpr.out.mono ?_
   rintro en w2 ⟨cs,x,st2,rfl,hx,h2,hs2,hg2⟩
   obtain ⟨ax,cx,rfl⟩:=rX_shape hx
   have k1:=(hs2.block (w.heap.size+1) (by omega) (by omega)).trans HK1.out
   have q2:=(hs2.cell (b:=w.heap.size) (o:=0) (by omega) (by omega)).trans q0
   have hsz2:=hs2.size
   obtain ⟨bx,hbx⟩: ∃ bx,bx=w2.heap.size:=⟨_,rfl⟩
   have hsA:Since (fun _=>False) w2 (w2.alloc (.cells #[.int .i64 x.kind, .int .i64 x.n, .string x.s, .slice ax x.args.length cx] 28)):=Since.alloc _ _ _
   have hltx:bx<(w2.alloc (.cells #[.int .i64 x.kind, .int .i64 x.n, .string x.s, .slice ax x.args.length cx] 28)).heap.size:=by rw [hbx];simp
   have hxb:(w2.alloc (.cells #[.int .i64 x.kind, .int .i64 x.n, .string x.s, .slice ax x.args.length cx] 28)).heap[bx]?=some (.cells #[.int .i64 x.kind, .int .i64 x.n, .string x.s, .slice ax x.args.length cx] 28 (0,0)):=by rw [hbx];exact heap_alloc_new w2 _
   have k2:=(hsA.block (w.heap.size+1) (by omega) (fun f=>f)).trans k1
   have qA:=(hsA.cell (b:=w.heap.size) (o:=0) (by omega) (fun f=>f)).trans q2
   have hxA:rX (fun k=>w.heap.size+1<k∧k≠bx) (w2.alloc (.cells #[.int .i64 x.kind, .int .i64 x.n, .string x.s, .slice ax x.args.length cx] 28)) [.int .i64 x.kind, .int .i64 x.n, .string x.s, .slice ax x.args.length cx] x:=Good.keep (R:=rX) ⟨hsA.size,fun k hk hS=>hsA.block k hk (fun f=>f)⟩ (fun k hk hS=>⟨by omega,by omega⟩) hx
   have hbig:w.heap.size+1<bx:=by omega
   have hse:Since (fun k=>k=br) w (w2.alloc (.cells #[.int .i64 x.kind, .int .i64 x.n, .string x.s, .slice ax x.args.length cx] 28)):=((HsP.out.mono (fun k f=>f.elim)).trans hs2).trans (Since.alloc _ _ _)
   have hgx:Good' T (30 - (d:Int)) (runR T (primR (exprR d)) st) x st2:=by rw [runR_ok H0.out];exact hg2
   have hR:Res=runR T (postLoop (exprR d) (T.length - st2.i) x) st2:=by
    rw [Hres.out]
    unfold unaryG
    rw [←seeR_head H0.out,Ht.out,if_neg Hnm.out,←runR_ok (p:=PR.bind (primR (exprR d)) (fun x r=>postLoop (exprR d) r.length x r)) H0.out,hgx.bind]
    by_cases e:st2.fault=0
    ·
     rw [runR_ok e,runR_ok e,List.length_drop]
    ·
     rw [runR_bad e,runR_bad e]
   have H2:=zh (h2.later hsA)
   have HL2:=zh ((HB1.out.box hs2).later hsA)
   have Hse:=zh hse
   have HxA:=zh hxA
   have HR:=zh hR
   have Hdp:=zh (show st2.fault=0→st2.depth=30 - (d:Int) from fun e=>hgx.dep_eq e)
   clear h2 hs2 hg2 hx k1 hsA hxA hse hgx hR q0 q2
   go_wp2_with fail
   rw [←hbx]
   generalize w2.alloc (.cells #[.int .i64 x.kind, .int .i64 x.n, .string x.s, .slice ax x.args.length cx] 28)=wA at *
   clear hbx
   go_loopg [] (T.length - st2.i) (fun k wr=> ∃ (x:PExpr) (ax:Option Addr) (cx:Nat) (sc:RSt),RdAt wr br bT cap T sc∧RdLaid wr base br∧Since (fun q=>q=br∨q=bx) wA wr∧
    (wr.cell? ⟨bx,0,none⟩=some (.int .i64 x.kind)∧wr.cell? ⟨bx,1,none⟩=some (.int .i64 x.n)∧wr.cell? ⟨bx,2,none⟩=some (.string x.s)∧wr.cell? ⟨bx,3,none⟩=some (.slice ax x.args.length cx))∧(∀ j,wr.frozen? ⟨bx,j,none⟩=false)∧
    rX (fun q=>w.heap.size+1<q∧q≠bx) wr [.int .i64 x.kind, .int .i64 x.n, .string x.s, .slice ax x.args.length cx] x∧Res=runR T (postLoop (exprR d) k x) sc∧(sc.fault=0→T.length - sc.i≤k∧sc.depth=30 - (d:Int)))
   case atStart=>
    exact ⟨x,ax,cx,st2,H2.out,HL2.out,Since.refl _ _,⟨by simp [World.cell?,hxb],by simp [World.cell?,hxb],by simp [World.cell?,hxb],by simp [World.cell?,hxb]⟩,fun j=>by simp [World.frozen?,hxb],HxA.out,HR.out,fun e=>⟨Nat.le_refl _,Hdp.out e⟩⟩
   case round=>
    clear HR Hdp H2 HL2 HxA hxb
    obtain ⟨x,ax,cx,sc,hA,hB,hS,⟨x0,x1,x2,x3⟩,hfz,hX,hRr,hF⟩:=hrel
    have c3:=hA.c3
    have hT:=hA.toks.len
    have hszA:=hS.size
    have hbrW:=hA.lt.1
    have kB:=(hS.block (w.heap.size+1) (by omega) (by omega)).trans k2
    have qr:=(hS.cell (b:=w.heap.size) (o:=0) (by omega) (by omega)).trans qA
    have b0:=ca0 kB
    have b1:=ca1 kB
    have b2:=ca2 kB
    have b3:=ca3 kB
    have bz:=cz kB
    have HA:=zh hA
    have HB:=zh hB
    have HS:=zh hS
    have HX:=zh hX
    have HRr:=zh hRr
    have HF:=zh hF
    have HKB:=zh kB
    clear hA hB hS hX hRr hF kB
    by_cases h0:sc.fault=0
    ·
     have f0:(sc.fault==0)=true:=by simpa using h0
     have hi:=HA.out.inn h0
     obtain ⟨k',rfl⟩: ∃ k',gk=k'+1:=⟨gk - 1,by have:=(HF.out h0).1;omega⟩
     have HIs:=zh (readIs_any HA.out (fun _=>(HF.out h0).2) ⟨#[91]⟩)
     have H0':=zh h0
     clear h0 hi
     go_wp2_with fail
     refine HIs.out.mono ?_
     rintro en w3 ⟨b,st3,rfl,h3,hs3,hg3,-,-,hb3⟩
     have he:Res=runR T (if b=true then PR.bind (exprR d) fun y=>PR.bind (mustR ⟨#[93]⟩) fun _=>postLoop (exprR d) k' (.mk 9 0 ⟨#[]⟩ [x,y]) else PR.ret x) st3:=by
      rw [HRr.out]
      exact hg3.bind
     have hbxr:bx<wr.heap.size:=by omega
     have hBr:w.heap.size+1<wr.heap.size:=by omega
     have x0':=(hs3.cell (b:=bx) (o:=0) hbxr (by omega)).trans x0
     have x1':=(hs3.cell (b:=bx) (o:=1) hbxr (by omega)).trans x1
     have x2':=(hs3.cell (b:=bx) (o:=2) hbxr (by omega)).trans x2
     have x3':=(hs3.cell (b:=bx) (o:=3) hbxr (by omega)).trans x3
     have b0':=(hs3.cell (b:=w.heap.size+1) (o:=0) hBr (by omega)).trans b0
     have b1':=(hs3.cell (b:=w.heap.size+1) (o:=1) hBr (by omega)).trans b1
     have b2':=(hs3.cell (b:=w.heap.size+1) (o:=2) hBr (by omega)).trans b2
     have b3':=(hs3.cell (b:=w.heap.size+1) (o:=3) hBr (by omega)).trans b3
     have bz': ∀ j,w3.frozen? ⟨w.heap.size+1,j,none⟩=false:=fun j=>(hs3.frozen hBr (by omega)).trans (bz j)
     have qr':=(hs3.cell (b:=w.heap.size) (o:=0) (by omega) (by omega)).trans qr
     have H3:=zh h3
     have Hs3:=zh hs3
     have He:=zh he
     have Hb3:=zh hb3
     have Hdp3:=zh (show st3.fault=0→st3.depth=30 - (d:Int) from fun e=>hg3.dep_eq e)
     have Hg3:=zh hg3
     clear h3 hs3 he hb3 hg3
     have x0t:=x0
     have x1t:=x1
     have x2t:=x2
     have x3t:=x3
     cases b with
     |false=>
      go_wp2_with fail
      obtain ⟨m0,m1,m2,m3,ms⟩:=cells4 (w:=w3) b0' b1' b2' b3' (.int .i64 x.kind) (.int .i64 x.n) (.string x.s) (.slice ax x.args.length cx)
      generalize hWW:(((w3.setCell ⟨w.heap.size+1,0,none⟩ (.int .i64 x.kind)).setCell ⟨w.heap.size+1,1,none⟩ (.int .i64 x.n)).setCell ⟨w.heap.size+1,2,none⟩ (.string x.s)).setCell ⟨w.heap.size+1,3,none⟩ (.slice ax x.args.length cx)=WW at *
      have hszW:wr.heap.size≤(w3).heap.size:=(Hs3.out).size
      refine ⟨.agg #[.int .i64 x.kind, .int .i64 x.n, .string x.s, .slice ax x.args.length cx],by simp [results,Tryd.results86,go_sem,m0,m1,m2,m3],_,x,_,rfl,?_,(H3.out).since ms (by omega) (by omega),((Hse.out.then_new HS.out (fun k e=>e.elim Or.inl (fun e=>Or.inr (by omega)))).trans (Hs3.out)).then_new ms (fun k e=>Or.inr (by omega)),?_⟩
      ·
       exact Good.keep (R:=rX) (w:=wr) ⟨Nat.le_trans hszW ms.size,fun k hk hS=>(ms.block k (Nat.lt_of_lt_of_le hk hszW) (by omega)).trans ((Hs3.out).block k hk (by omega))⟩ (fun k hk hS=>by omega) HX.out
      ·
       have:=He.out;rw [if_neg (by decide)] at this;rw [this];exact Good'.ret _ Hdp3.out
     |true=>
      have hex:=HE.out w3 br bT cap base T st3 H3.out (HB.out.box Hs3.out) Hdp3.out
      have Hex:=zh hex
      clear hex b0 b1 b2 b3 bz x0 x1 x2 x3 qr b0' b1' b2' b3' bz'
      go_wp2_with fail
      refine Hex.out.mono ?_
      rintro en w4 ⟨cs,y,st4,rfl,hy,h4,hs4,hg4⟩
      obtain ⟨ay,cy,rfl⟩:=rX_shape hy
      have hsz3:=Hs3.out.size
      have hsz4:=hs4.size
      obtain ⟨by',hby⟩: ∃ by',by'=w4.heap.size:=⟨_,rfl⟩
      have hsY:Since (fun _=>False) w4 (w4.alloc (.cells #[.int .i64 y.kind, .int .i64 y.n, .string y.s, .slice ay y.args.length cy] 28)):=Since.alloc _ _ _
      have hyb:(w4.alloc (.cells #[.int .i64 y.kind, .int .i64 y.n, .string y.s, .slice ay y.args.length cy] 28)).heap[by']?=some (.cells #[.int .i64 y.kind, .int .i64 y.n, .string y.s, .slice ay y.args.length cy] 28 (0,0)):=by rw [hby];exact heap_alloc_new w4 _
      have hltY:by'<(w4.alloc (.cells #[.int .i64 y.kind, .int .i64 y.n, .string y.s, .slice ay y.args.length cy] 28)).heap.size:=by rw [hby];simp
      have s3Y:Since (fun k=>k=br) wr (w4.alloc (.cells #[.int .i64 y.kind, .int .i64 y.n, .string y.s, .slice ay y.args.length cy] 28)):=(Hs3.out.trans hs4).trans (Since.alloc _ _ _)
      have hm:=readMust_any (h4.later hsY) (fun e=>hg4.dep_eq e) ⟨#[93]⟩
      have HLY:=zh (HB.out.box s3Y)
      have hgy:Res=runR T (PR.bind (mustR ⟨#[93]⟩) fun _=>postLoop (exprR d) k' (.mk 9 0 ⟨#[]⟩ [x,y])) st4:=by
       have:=He.out
       rw [if_pos (by trivial)] at this
       rw [this]
       exact hg4.bind
      have HsY:=zh s3Y
      have Hm:=zh hm
      have Hgy:=zh hgy
      have Hy:=zh (Good.keep (R:=rX) (S':=fun k=>w3.heap.size≤k) (w':=w4.alloc (.cells #[.int .i64 y.kind, .int .i64 y.n, .string y.s, .slice ay y.args.length cy] 28)) ⟨hsY.size,fun k hk hS=>hsY.block k hk (fun f=>f)⟩ (fun _ _ h=>h) hy)
      have Hg4:=zh hg4
      have qrY:=(hsY.cell (b:=w.heap.size) (o:=0) (by omega) (fun f=>f)).trans ((hs4.cell (b:=w.heap.size) (o:=0) (by omega) (by omega)).trans qr')
      have hb4:bx<by':=by omega
      clear hm hgy hy h4 hg4 hsY qr'
      go_wp2_with fail
      rw [←hby]
      clear hby
      generalize w4.alloc (.cells #[.int .i64 y.kind, .int .i64 y.n, .string y.s, .slice ay y.args.length cy] 28)=wY at *
      refine Hm.out.mono ?_
      rintro en w5 ⟨st5,rfl,h5,hs5,hg5⟩
      have hbxY:bx<wY.heap.size:=by omega
      have hbrY:br<wY.heap.size:=by omega
      have s35:Since (fun k=>k=br) wr w5:=HsY.out.trans hs5
      have x0s:=(s35.cell (b:=bx) (o:=0) hbxr (by omega)).trans x0t
      have x1s:=(s35.cell (b:=bx) (o:=1) hbxr (by omega)).trans x1t
      have x2s:=(s35.cell (b:=bx) (o:=2) hbxr (by omega)).trans x2t
      have x3s:=(s35.cell (b:=bx) (o:=3) hbxr (by omega)).trans x3t
      have fzs: ∀ j,w5.frozen? ⟨bx,j,none⟩=false:=fun j=>(s35.frozen hbxr (by omega)).trans (hfz j)
      have yb5:=(hs5.block by' hltY (by omega)).trans hyb
      have y0s:=ca0 yb5
      have y1s:=ca1 yb5
      have y2s:=ca2 yb5
      have y3s:=ca3 yb5
      have h5sz:=hs5.size
      have sA5:Since (fun _=>False) w5 (w5.alloc (.cells #[.int .i64 x.kind, .int .i64 x.n, .string x.s, .slice ax x.args.length cx, .int .i64 y.kind, .int .i64 y.n, .string y.s, .slice ay y.args.length cy] 28)):=Since.alloc _ _ _
      have z0:=(sA5.cell (b:=bx) (o:=0) (by omega) (fun f=>f)).trans x0s
      have z1:=(sA5.cell (b:=bx) (o:=1) (by omega) (fun f=>f)).trans x1s
      have z2:=(sA5.cell (b:=bx) (o:=2) (by omega) (fun f=>f)).trans x2s
      have z3:=(sA5.cell (b:=bx) (o:=3) (by omega) (fun f=>f)).trans x3s
      have zz: ∀ j,(w5.alloc (.cells #[.int .i64 x.kind, .int .i64 x.n, .string x.s, .slice ax x.args.length cx, .int .i64 y.kind, .int .i64 y.n, .string y.s, .slice ay y.args.length cy] 28)).frozen? ⟨bx,j,none⟩=false:=fun j=>(sA5.frozen (by omega) (fun f=>f)).trans (fzs j)
      have SA5:=zh sA5
      clear sA5
      have H5:=zh h5
      have HL5:=zh (HLY.out.box hs5)
      have S35:=zh s35
      have Hs5:=zh hs5
      have Hg5:=zh hg5
      clear h5 s35 hs5 hg5
      go_wp2_with fail
      go_roundg k'
      case measure=>omega
      case rel=>
       obtain ⟨m0,m1,m2,m3,ms⟩:=cells4 z0 z1 z2 z3 (.int .i64 9) (.int .i64 0) (.string ⟨#[]⟩) (.slice (some ⟨w5.heap.size,0,none⟩) 2 2)
       have hfr: ∀ j,(((((w5.alloc (.cells #[.int .i64 x.kind, .int .i64 x.n, .string x.s, .slice ax x.args.length cx, .int .i64 y.kind, .int .i64 y.n, .string y.s, .slice ay y.args.length cy] 28)).setCell ⟨bx,0,none⟩ (.int .i64 9)).setCell ⟨bx,1,none⟩ (.int .i64 0)).setCell ⟨bx,2,none⟩ (.string ⟨#[]⟩)).setCell ⟨bx,3,none⟩ (.slice (some ⟨w5.heap.size,0,none⟩) 2 2)).frozen? ⟨bx,j,none⟩=false:=fun j=>by
        rw [World.frozen?_setCell,World.frozen?_setCell,World.frozen?_setCell,World.frozen?_setCell];exact zz j
       have hblk:=(ms.block w5.heap.size (by simp) (by omega)).trans (heap_alloc_new w5 (.cells #[.int .i64 x.kind, .int .i64 x.n, .string x.s, .slice ax x.args.length cx, .int .i64 y.kind, .int .i64 y.n, .string y.s, .slice ay y.args.length cy] 28))
       generalize ((((w5.alloc (.cells #[.int .i64 x.kind, .int .i64 x.n, .string x.s, .slice ax x.args.length cx, .int .i64 y.kind, .int .i64 y.n, .string y.s, .slice ay y.args.length cy] 28)).setCell ⟨bx,0,none⟩ (.int .i64 9)).setCell ⟨bx,1,none⟩ (.int .i64 0)).setCell ⟨bx,2,none⟩ (.string ⟨#[]⟩)).setCell ⟨bx,3,none⟩ (.slice (some ⟨w5.heap.size,0,none⟩) 2 2)=W9 at *
       have s59:Since (fun k=>k=bx) w5 W9:=(SA5.out.mono (fun _ f=>f.elim)).trans ms
       have s9:Since (fun k=>k=br∨k=bx) wr W9:=(S35.out.mono (fun _ e=>Or.inl e)).trans (s59.mono (fun _ e=>Or.inr e))
       obtain ⟨dx,hdx⟩:=HX.out
       obtain ⟨dy,hdy⟩:=Hy.out
       refine ⟨.mk 9 0 ⟨#[]⟩ [x,y],some ⟨w5.heap.size,0,none⟩,2,st5,H5.out.since s59 (by omega) (by omega),HL5.out.since s59 (fun k e=>by have:=HL5.out.lb.1;omega),HS.out.trans s9,⟨m0,m1,m2,m3⟩,hfr,?_,?_,?_⟩
       ·
        refine rX_mk 9 0 ⟨#[]⟩ (ini rfl) (ini rfl) (by decide) ⟨max dx dy,?_⟩
        refine rSlice_all (l:=[x,y]) [[.int .i64 x.kind, .int .i64 x.n, .string x.s, .slice ax x.args.length cx],[.int .i64 y.kind, .int .i64 y.n, .string y.s, .slice ay y.args.length cy]] ⟨by omega,by omega⟩ (lens rfl) hblk ⟨⟨rfl,?_⟩,⟨rfl,?_⟩,trivial⟩
        ·
         exact Good.keep (w:=wr) ⟨s9.size,fun k hk hS=>s9.block k hk (fun e=>e.elim (fun e=>by omega) hS.2)⟩ (fun _ _ h=>h) (rExpr_le (Nat.le_max_left _ _) _ _ hdx)
        ·
         have sY9:Since (fun k=>k=br∨k=bx) wY W9:=(Hs5.out.mono (fun _ e=>Or.inl e)).trans (s59.mono (fun _ e=>Or.inr e))
         exact Good.keep (w:=wY) (S:=fun k=>w3.heap.size≤k) ⟨sY9.size,fun k hk hS=>sY9.block k hk (by omega)⟩ (fun k hk hS=>⟨by omega,by omega⟩) (rExpr_le (Nat.le_max_right dx _) _ _ hdy)
       ·
        rw [Hgy.out];exact Hg5.out.bind
       ·
        intro e
        have l1:=Hg5.out.shr (Shr.must _) e
        have e4:=Hg5.out.fault_of e
        have l2:=Hg4.out.shr (Shr.expr d) e4
        have e3:=Hg4.out.fault_of e4
        have l3:=Hg3.out.kp (Kp.is _) e3
        have l4:=(HF.out H0'.out).1
        exact ⟨by omega,Hg5.out.dep_eq e⟩
    ·
     have f0:(sc.fault==0)=false:=by simpa using h0
     have H0':=zh h0
     clear h0
     go_wp2_with fail
     obtain ⟨m0,m1,m2,m3,ms⟩:=cells4 (w:=wr) b0 b1 b2 b3 (.int .i64 x.kind) (.int .i64 x.n) (.string x.s) (.slice ax x.args.length cx)
     generalize hWW:(((wr.setCell ⟨w.heap.size+1,0,none⟩ (.int .i64 x.kind)).setCell ⟨w.heap.size+1,1,none⟩ (.int .i64 x.n)).setCell ⟨w.heap.size+1,2,none⟩ (.string x.s)).setCell ⟨w.heap.size+1,3,none⟩ (.slice ax x.args.length cx)=WW at *
     have hszW:wr.heap.size≤(wr).heap.size:=(Since.refl (fun k=>k=br) wr).size
     refine ⟨.agg #[.int .i64 x.kind, .int .i64 x.n, .string x.s, .slice ax x.args.length cx],by simp [results,Tryd.results86,go_sem,m0,m1,m2,m3],_,x,_,rfl,?_,(HA.out).since ms (by omega) (by omega),((Hse.out.then_new HS.out (fun k e=>e.elim Or.inl (fun e=>Or.inr (by omega)))).trans (Since.refl (fun k=>k=br) wr)).then_new ms (fun k e=>Or.inr (by omega)),?_⟩
     ·
      exact Good.keep (R:=rX) (w:=wr) ⟨Nat.le_trans hszW ms.size,fun k hk hS=>(ms.block k (Nat.lt_of_lt_of_le hk hszW) (by omega)).trans ((Since.refl (fun k=>k=br) wr).block k hk (by omega))⟩ (fun k hk hS=>by omega) HX.out
     ·
      rw [HRr.out,runR_bad H0'.out];exact ⟨rfl,rfl,H0'.out⟩
end Go.Proofs.YtkopjgnjflhkeaaDoor

import Derived.Test.YtkopjgnjflhkeaaDoorTB
import Derived.Test.YtkopjgnjflhkeaaDoorTC
namespace Go.Proofs.YtkopjgnjflhkeaaDoor
open Go.RowKit Go.Pst
set_option linter.unusedVariables false
set_option linter.unusedSimpArgs false
variable {w:World} {br bT cap base:Nat} {T:List Tok} {st:RSt} {dep:Int}
theorem levLoop_succ (ops:List ByteArray) (next:PR PExpr) (f:Nat) (x:PExpr) (r:List Tok):levLoop ops next (f+1) x r=if (headR r).kind=109∧inOps ops (headR r).s=true then PR.bind next (fun y=>levLoop ops next f (twoR (headR r).s x y)) r.tail else .ok (x,r):=rfl
theorem levelR_succ (u:PR PExpr) (k:Nat):levelR u (k+1)=PR.bind (levelR u k) fun x r=>levLoop (opsR.getD (4 - k) []) (levelR u k) r.length x r:=rfl
def UnaryOK (d:Nat):Prop:= ∀ (w:World) (br bT cap base:Nat) (T:List Tok) (st:RSt),RdAt w br bT cap T st→RdLaid w base br→st.fault=0→st.depth=30 - (d:Int)→
 Calls Tryd.prog 86 #[.pointer (some ⟨br,0,none⟩)] w (RdX w br bT cap T (30 - (d:Int)) (unaryR d (T.drop st.i)))
set_option maxRecDepth 4000 in
set_option maxHeartbeats 1000000 in
theorem readLevel5_any (d:Nat) (hU:UnaryOK d):LevelOK d 5:=by
 intro w br bT cap base T st h hL h0 hd
 have hbr:=h.lt.1
 have hbT:=h.lt.2
 have hs0:Since (fun _=>False) w (w.alloc (.cells #[.int .i64 0, .int .i64 0, .string ⟨#[]⟩, .slice none 0 0] 28)):=Since.alloc _ _ _
 have hb1:(w.alloc (.cells #[.int .i64 0, .int .i64 0, .string ⟨#[]⟩, .slice none 0 0] 28)).heap[w.heap.size]?=some (.cells #[.int .i64 0, .int .i64 0, .string ⟨#[]⟩, .slice none 0 0] 28 (0,0)):=heap_alloc_new w _
 have hu:=hU _ br bT cap base T st (h.later hs0) (hL.later hs0) h0 hd
 have hlt1:w.heap.size<(w.alloc (.cells #[.int .i64 0, .int .i64 0, .string ⟨#[]⟩, .slice none 0 0] 28)).heap.size:=by simp
 have Hu:=zh hu
 clear hu
 go_enter Tryd.func77,Tryd.ntmps77
 go_wp2_with fail
 generalize w.alloc (.cells #[.int .i64 0, .int .i64 0, .string ⟨#[]⟩, .slice none 0 0] 28)=w0 at *
 refine Hu.out.mono ?_
 rintro en w2 ⟨cs,x,st2,rfl,hx,h2,hs2,hg2⟩
 obtain ⟨ax,cx,rfl⟩:=rX_shape hx
 have k1:=(hs2.block w.heap.size hlt1 (by omega)).trans hb1
 have hlt2:=Nat.lt_of_lt_of_le hlt1 hs2.size
 have g0:=ca0 k1
 have g1:=ca1 k1
 have g2:=ca2 k1
 have g3:=ca3 k1
 have gz:=cz k1
 obtain ⟨m0,m1,m2,m3,ms⟩:=cells4 g0 g1 g2 g3 (.int .i64 x.kind) (.int .i64 x.n) (.string x.s) (.slice ax x.args.length cx)
 have H2:=zh (h2.since ms (by omega) (by omega))
 have Hs:=zh (((hs0.mono (fun k f=>f.elim)).trans hs2).then_new ms (fun k e=>Or.inr (by omega)))
 have Hx:=zh (Good.keep (R:=rX) (S':=fun k=>w.heap.size≤k) (w':=((((w2.setCell ⟨w.heap.size,0,none⟩ (.int .i64 x.kind)).setCell ⟨w.heap.size,1,none⟩ (.int .i64 x.n)).setCell ⟨w.heap.size,2,none⟩ (.string x.s)).setCell ⟨w.heap.size,3,none⟩ (.slice ax x.args.length cx))) ⟨ms.size,fun k hk hS=>ms.block k hk (by omega)⟩ (fun k hk hS=>by omega) hx)
 have Hg:=zh hg2
 clear h hL hs0 hb1 hlt1 h2 hs2 hg2 hx k1 ms
 go_wp2_with fail
 refine bodyPost_ret (v:= .agg #[.int .i64 x.kind, .int .i64 x.n, .string x.s, .slice ax x.args.length cx]) (by simp [results,Tryd.results77,go_sem,m0,m1,m2,m3]) rfl ⟨_,x,st2,rfl,Hx.out,H2.out,Hs.out,Hg.out⟩
set_option maxRecDepth 4000 in
set_option maxHeartbeats 4000000 in
theorem readLevel_step (d n:Nat) (hn:n<5) (hLev:LevelOK d (n+1)):LevelOK d n:=by
 intro w br bT cap base T st h hL h0 hd
 have hbr:=h.lt.1
 have hbT:=h.lt.2
 have hnI:(n:Int)<5:=by omega
 have hne:((n:Int)==5)=false:=by simp;omega
 obtain ⟨Res,hres⟩: ∃ Res,Res=levelR (unaryR d) (5 - n) (T.drop st.i):=⟨_,rfl⟩
 rw [←hres]
 have hs0:Since (fun _=>False) w (w.alloc (.cells #[.int .i64 0, .int .i64 0, .string ⟨#[]⟩, .slice none 0 0] 28)):=Since.alloc _ _ _
 have hb1:(w.alloc (.cells #[.int .i64 0, .int .i64 0, .string ⟨#[]⟩, .slice none 0 0] 28)).heap[w.heap.size]?=some (.cells #[.int .i64 0, .int .i64 0, .string ⟨#[]⟩, .slice none 0 0] 28 (0,0)):=heap_alloc_new w _
 have hu:=hLev _ br bT cap base T st (h.later hs0) (hL.later hs0) h0 hd
 rw [show ((n+1:Nat):Int)=(n:Int)+1 by simp] at hu
 have hL0:=hL.later hs0
 have hlt1:w.heap.size<(w.alloc (.cells #[.int .i64 0, .int .i64 0, .string ⟨#[]⟩, .slice none 0 0] 28)).heap.size:=by simp
 have Hu:=zh hu
 have Hres:=zh hres
 have HLev:=zh hLev
 clear hu hres hLev
 go_enter Tryd.func77,Tryd.ntmps77
 go_wp2_with fail
 generalize w.alloc (.cells #[.int .i64 0, .int .i64 0, .string ⟨#[]⟩, .slice none 0 0] 28)=w0 at *
 refine Hu.out.mono ?_
 rintro en w2 ⟨cs,x,st2,rfl,hx,h2,hs2,hg2⟩
 obtain ⟨ax,cx,rfl⟩:=rX_shape hx
 have k1:=(hs2.block w.heap.size hlt1 (by omega)).trans hb1
 have hlt2:=Nat.lt_of_lt_of_le hlt1 hs2.size
 have hsA:Since (fun _=>False) w2 (w2.alloc (.cells #[.int .i64 x.kind, .int .i64 x.n, .string x.s, .slice ax x.args.length cx] 28)):=Since.alloc _ _ _
 obtain ⟨bx,hbx⟩: ∃ bx,bx=w2.heap.size:=⟨_,rfl⟩
 have hltx:bx<(w2.alloc (.cells #[.int .i64 x.kind, .int .i64 x.n, .string x.s, .slice ax x.args.length cx] 28)).heap.size:=by rw [hbx];simp
 have hxb:(w2.alloc (.cells #[.int .i64 x.kind, .int .i64 x.n, .string x.s, .slice ax x.args.length cx] 28)).heap[bx]?=some (.cells #[.int .i64 x.kind, .int .i64 x.n, .string x.s, .slice ax x.args.length cx] 28 (0,0)):=by rw [hbx];exact heap_alloc_new w2 _
 have k2:=(hsA.block w.heap.size (by omega) (fun f=>f)).trans k1
 have hxA:rX (fun k=>w.heap.size<k∧k≠bx) (w2.alloc (.cells #[.int .i64 x.kind, .int .i64 x.n, .string x.s, .slice ax x.args.length cx] 28)) [.int .i64 x.kind, .int .i64 x.n, .string x.s, .slice ax x.args.length cx] x:=Good.keep (R:=rX) ⟨hsA.size,fun k hk hS=>hsA.block k hk (fun f=>f)⟩ (fun k hk hS=>⟨by omega,by omega⟩) hx
 have hbig:w.heap.size<bx:=by omega
 have hse:Since (fun k=>k=br) w (w2.alloc (.cells #[.int .i64 x.kind, .int .i64 x.n, .string x.s, .slice ax x.args.length cx] 28)):=((hs0.mono (fun k f=>f.elim)).trans hs2).trans (Since.alloc _ _ _)
 have hgx:Good' T (30 - (d:Int)) (runR T (levelR (unaryR d) (4 - n)) st) x st2:=by rw [runR_ok h0];rw [show 4 - n=5 - (n+1) by omega];exact hg2
 have hR:Res=runR T (levLoop (opsR.getD n []) (levelR (unaryR d) (4 - n)) (T.length - st2.i) x) st2:=by
  rw [Hres.out,←runR_ok (p:=levelR (unaryR d) (5 - n)) h0,show 5 - n=(4 - n)+1 by omega]
  rw [levelR_succ,hgx.bind,show 4 - (4 - n)=n by omega]
  by_cases e:st2.fault=0
  ·
   rw [runR_ok e,runR_ok e,List.length_drop]
  ·
   rw [runR_bad e,runR_bad e]
 have H2:=zh (h2.later hsA)
 have HL2:=zh ((hL0.box hs2).later hsA)
 have Hse:=zh hse
 have HxA:=zh hxA
 have HR:=zh hR
 have Hdp:=zh (show st2.fault=0→st2.depth=30 - (d:Int) from fun e=>hgx.dep_eq e)
 clear h hL hs0 hb1 hlt1 h2 hs2 hg2 hx k1 hL0 hsA hxA hse hgx hR
 go_wp2_with fail
 rw [←hbx]
 generalize w2.alloc (.cells #[.int .i64 x.kind, .int .i64 x.n, .string x.s, .slice ax x.args.length cx] 28)=wA at *
 clear hbx
 go_loopg [] (T.length - st2.i) (fun k wr=> ∃ (x:PExpr) (ax:Option Addr) (cx:Nat) (sc:RSt),RdAt wr br bT cap T sc∧RdLaid wr base br∧Since (fun q=>q=br∨q=bx) wA wr∧
  (wr.cell? ⟨bx,0,none⟩=some (.int .i64 x.kind)∧wr.cell? ⟨bx,1,none⟩=some (.int .i64 x.n)∧wr.cell? ⟨bx,2,none⟩=some (.string x.s)∧wr.cell? ⟨bx,3,none⟩=some (.slice ax x.args.length cx))∧
  (∀ j,wr.frozen? ⟨bx,j,none⟩=false)∧rX (fun q=>w.heap.size<q∧q≠bx) wr [.int .i64 x.kind, .int .i64 x.n, .string x.s, .slice ax x.args.length cx] x∧Res=runR T (levLoop (opsR.getD n []) (levelR (unaryR d) (4 - n)) k x) sc∧(sc.fault=0→T.length - sc.i≤k∧sc.depth=30 - (d:Int)))
 case atStart=>
  exact ⟨x,ax,cx,st2,H2.out,HL2.out,Since.refl _ _,⟨by simp [World.cell?,hxb],by simp [World.cell?,hxb],by simp [World.cell?,hxb],by simp [World.cell?,hxb]⟩,fun j=>by simp [World.frozen?,hxb],HxA.out,HR.out,fun e=>⟨Nat.le_refl _,Hdp.out e⟩⟩
 case round=>
  clear HR Hdp H2 HL2 HxA hxb
  obtain ⟨x,ax,cx,sc,hA,hB,hS,⟨x0,x1,x2,x3⟩,hfz,hX,hRr,hF⟩:=hrel
  have c3:=hA.c3
  have hT:=hA.toks.len
  have hszA:=hS.size
  have kB:=(hS.block w.heap.size (by omega) (by omega)).trans k2
  have b0:=ca0 kB
  have b1:=ca1 kB
  have b2:=ca2 kB
  have b3:=ca3 kB
  have bz:=cz kB
  have HA:=zh hA
  have HB:=zh hB
  have HS:=zh hS
  have HX:=zh hX
  have HRr:=zh hRr
  have HF:=zh hF
  have fin: ∀ (w5:World) (F:Nat→Prop) (s5:RSt),Since (fun q=>q=br) wr w5→RdAt w5 br bT cap T s5→Good' T (30 - (d:Int)) Res x s5→True:=fun _ _ _ _ _ _=>trivial
  clear hA hB hS hX hRr hF kB fin
  by_cases h0:sc.fault=0
  ·
   have f0:(sc.fault==0)=true:=by simpa using h0
   have hi:=HA.out.inn h0
   obtain ⟨k',rfl⟩: ∃ k',gk=k'+1:=⟨gk - 1,by have:=(HF.out h0).1;omega⟩
   have hpk:=readPeek_any HA.out
   obtain ⟨t,ht⟩: ∃ t,seeR T sc=t:=⟨_,rfl⟩
   rw [ht] at hpk
   have Hpk:=zh hpk
   have Ht:=zh ht
   have H0:=zh h0
   have Hi:=zh hi
   clear hpk ht h0 hi
   obtain ⟨tk,ts,tn,tp⟩:=t
   go_wp2_with fail
   refine Hpk.out.mono ?_
   rintro en w3 ⟨rfl,hs3⟩
   have h3:=HA.out.later hs3
   have hL3:=HB.out.later hs3
   simp only [tokC]
   obtain ⟨bt,hbt⟩: ∃ bt,bt=w3.heap.size:=⟨_,rfl⟩
   have hsP:Since (fun _=>False) wr (w3.alloc (.cells #[.int .u8 tk, .string ts, .int .i64 tn, .int .i64 tp] 52)):=hs3.trans (Since.alloc _ _ _)
   have hLP:=hL3.later (Since.alloc (fun _=>False) w3 (.cells #[.int .u8 tk, .string ts, .int .i64 tn, .int .i64 tp] 52))
   have hPP:=h3.later (Since.alloc (fun _=>False) w3 (.cells #[.int .u8 tk, .string ts, .int .i64 tn, .int .i64 tp] 52))
   have hTP:(w3.alloc (.cells #[.int .u8 tk, .string ts, .int .i64 tn, .int .i64 tp] 52)).heap[bt]?=some (.cells #[.int .u8 tk, .string ts, .int .i64 tn, .int .i64 tp] 52 (0,0)):=by rw [hbt];exact heap_alloc_new w3 _
   have hltt:wr.heap.size≤bt:=by rw [hbt];exact hs3.size
   generalize hwP:w3.alloc (.cells #[.int .u8 tk, .string ts, .int .i64 tn, .int .i64 tp] 52)=wP at *
   have t0:=ca0 hTP
   have t1:=ca1 hTP
   obtain ⟨al,cl,hl1,hl2⟩:=hLP.levels n (by simpa [opsR] using hn)
   obtain ⟨OL,hOL,hOLn⟩: ∃ OL,opsR[n]'(by simpa [opsR] using hn)=OL∧OL.length≤1000:=⟨_,rfl,by
    have:n=0∨n=1∨n=2∨n=3∨n=4:=by omega
    rcases this with rfl|rfl|rfl|rfl|rfl<;>simp [opsR]⟩
   rw [hOL] at hl1 hl2
   have HOL:=zh (show opsR.getD n []=OL by rw [←hOL];simp [List.getD,opsR,hn])
   clear hOL
   have HwP:=zh hwP
   have HsP:=zh hsP
   have HLP:=zh hLP
   have HPP:=zh hPP
   have Hlt:=zh (And.intro hbt hltt)
   clear hs3 h3 hL3 hsP hLP hPP hTP hbt hltt hwP
   have hbxlt:bx<wr.heap.size:=by omega
   have hBlt:w.heap.size<wr.heap.size:=by omega
   have x0':=(HsP.out.cell (b:=bx) (o:=0) hbxlt (fun f=>f)).trans x0
   have x1':=(HsP.out.cell (b:=bx) (o:=1) hbxlt (fun f=>f)).trans x1
   have x2':=(HsP.out.cell (b:=bx) (o:=2) hbxlt (fun f=>f)).trans x2
   have x3':=(HsP.out.cell (b:=bx) (o:=3) hbxlt (fun f=>f)).trans x3
   have b0':=(HsP.out.cell (b:=w.heap.size) (o:=0) hBlt (fun f=>f)).trans b0
   have b1':=(HsP.out.cell (b:=w.heap.size) (o:=1) hBlt (fun f=>f)).trans b1
   have b2':=(HsP.out.cell (b:=w.heap.size) (o:=2) hBlt (fun f=>f)).trans b2
   have b3':=(HsP.out.cell (b:=w.heap.size) (o:=3) hBlt (fun f=>f)).trans b3
   have bz': ∀ j,wP.frozen? ⟨w.heap.size,j,none⟩=false:=fun j=>(HsP.out.frozen hBlt (fun f=>f)).trans (bz j)
   by_cases e1:tk=109
   ·
    have f1:(tk !=109)=false:=by simp [e1]
    have E1:=zh e1
    clear e1
    have hcon: ∀ W,Since (fun _=>False) wP W→Calls Tryd.prog 46 #[.slice al OL.length cl, .string ts] W fun e w'=>e= .returned (.bool (inOps OL ts))∧W=w':=fun W hW=>
     rdContains_any ts al OL cl base W hOLn (hl2.since hW (fun k f=>f.elim) HLP.out.lb.2)
    obtain ⟨bo,hbo⟩: ∃ bo,inOps OL ts=bo:=⟨_,rfl⟩
    rw [hbo] at hcon
    have Hcon:=zh hcon
    have Hbo:=zh hbo
    clear hcon hbo hl2
    cases bo with
    |false=>
     go_wp2_with fail
     rw [HwP.out,←Hlt.out.1]
     go_region_held3 (fun w'=>w'.cell? ⟨bt,0,none⟩=some (.int .u8 tk)∧w'.cell? ⟨bt,1,none⟩=some (.string ts)∧w'.cell? ⟨6,n,none⟩=some (.slice al OL.length cl)) (go_keep) (first|(go_at_call 46;refine (Hcon.out _ (by first|exact Since.refl _ _|exact Since.drew _ _)).mono ?_;rintro e w' ⟨rfl,rfl⟩))
     have Hend:=zh (show Res= .ok (x,T.drop sc.i) by rw [HRr.out,runR_ok H0.out];unfold levLoop;rw [HOL.out,if_neg (fun e=>by have:=e.2;rw [←seeR_head H0.out,Ht.out,Hbo.out] at this;cases this)])
     go_wp2_with fail
     obtain ⟨m0,m1,m2,m3,ms⟩:=cells4 (w:=wP) b0' b1' b2' b3' (.int .i64 x.kind) (.int .i64 x.n) (.string x.s) (.slice ax x.args.length cx)
     generalize hWW:(((wP.setCell ⟨w.heap.size,0,none⟩ (.int .i64 x.kind)).setCell ⟨w.heap.size,1,none⟩ (.int .i64 x.n)).setCell ⟨w.heap.size,2,none⟩ (.string x.s)).setCell ⟨w.heap.size,3,none⟩ (.slice ax x.args.length cx)=WW at *
     have hb2:=HA.out.lt.1
     have hszW:wr.heap.size≤(wP).heap.size:=(HsP.out).size
     have msd:Since (fun k=>k=w.heap.size) wP WW.drew:=(ms.trans (Since.drew _ _))
     refine bodyPost_ret (v:= .agg #[.int .i64 x.kind, .int .i64 x.n, .string x.s, .slice ax x.args.length cx]) (by simp [results,Tryd.results77,go_sem,m0,m1,m2,m3]) rfl ⟨_,x,sc,rfl,?_,(HA.out.later (HsP.out)).since msd (by omega) (by omega),((Hse.out.then_new HS.out (fun k e=>e.elim Or.inl (fun e=>Or.inr (by omega)))).trans ((HsP.out).mono (fun _ f=>f.elim))).then_new msd (fun k e=>Or.inr (by omega)),?_⟩
     ·
      exact Good.keep (R:=rX) (w:=wr) ⟨Nat.le_trans hszW msd.size,fun k hk hS=>(msd.block k (Nat.lt_of_lt_of_le hk hszW) (by omega)).trans ((HsP.out).block k hk (fun f=>f))⟩ (fun k hk hS=>by omega) HX.out
     ·
      rw [Hend.out];exact ⟨rfl,H0.out,(HF.out H0.out).2,rfl⟩
    |true=>
     go_wp2_with fail
     rw [HwP.out,←Hlt.out.1]
     go_region_held3 (fun w'=>w'.cell? ⟨bt,0,none⟩=some (.int .u8 tk)∧w'.cell? ⟨bt,1,none⟩=some (.string ts)∧w'.cell? ⟨6,n,none⟩=some (.slice al OL.length cl)) (go_keep) (first|(go_at_call 46;refine (Hcon.out _ (by first|exact Since.refl _ _|exact Since.drew _ _)).mono ?_;rintro e w' ⟨rfl,rfl⟩))
     have c1p:=HPP.out.c1
     have czp:=HPP.out.z 1
     have hk:tk≠101:=by rw [E1.out];decide
     have hstep:=HPP.out.step H0.out (by rw [Ht.out];exact hk)
     have hi5:(sc.i:Int)<5000:=by have:=Hi.out;omega
     have hb2:=HA.out.lt
     have hltb:=Hlt.out.2
     have n1:bx≠br:=by omega
     have n2:bt≠br:=by omega
     have sE:=Since.setCell wP ⟨br,1,none⟩ (.int .i64 ((sc.i:Int)+1))
     have hszP:=HsP.out.size
     have hlttP:bt<wP.heap.size:=by
      rcases Nat.lt_or_ge bt wP.heap.size with h|h
      ·
       exact h
      ·
       simp [World.cell?,Array.getElem?_eq_none h] at t1
     have t1e:=(sE.cell (b:=bt) (o:=1) hlttP n2).trans t1
     have x0e:=(sE.cell (b:=bx) (o:=0) (by omega) n1).trans x0'
     have x1e:=(sE.cell (b:=bx) (o:=1) (by omega) n1).trans x1'
     have x2e:=(sE.cell (b:=bx) (o:=2) (by omega) n1).trans x2'
     have x3e:=(sE.cell (b:=bx) (o:=3) (by omega) n1).trans x3'
     have hLE:=HLP.out.box sE
     have HsE:=zh ((HsP.out.mono (fun _ f=>f.elim)).trans sE)
     have Hstep:=zh hstep
     have HLE:=zh hLE
     have hltE:bt<(wP.setCell ⟨br,1,none⟩ (.int .i64 ((sc.i:Int)+1))).heap.size:=by simpa using hlttP
     clear hstep hLE x0 x1 x2 x3 b0 b1 b2 b3 bz x0' x1' x2' x3' t0 hl1
     have hlevE: ∀ W,Since (fun _=>False) (wP.setCell ⟨br,1,none⟩ (.int .i64 ((sc.i:Int)+1))) W→Calls Tryd.prog 77 #[.pointer (some ⟨br,0,none⟩), .int .i64 ((n:Int)+1)] W (RdX W br bT cap T (30 - (d:Int)) (levelR (unaryR d) (5 - (n+1)) (T.drop (sc.i+1)))):=fun W hW=>by
      have:=HLev.out W br bT cap base T {sc with i:=sc.i+1} (Hstep.out.later hW) (HLE.out.later hW) H0.out (HF.out H0.out).2
      rw [show ((n+1:Nat):Int)=(n:Int)+1 by simp] at this
      exact this
     have HlevE:=zh hlevE
     clear hlevE
     go_wp2_with fail
     have hS0:=And.intro t1e (And.intro x0e (And.intro x1e (And.intro x2e x3e)))
     refine WpT.start (fun w'=>w'.cell? ⟨bt,1,none⟩=some (.string ts)∧w'.cell? ⟨bx,0,none⟩=some (.int .i64 x.kind)∧w'.cell? ⟨bx,1,none⟩=some (.int .i64 x.n)∧w'.cell? ⟨bx,2,none⟩=some (.string x.s)∧w'.cell? ⟨bx,3,none⟩=some (.slice ax x.args.length cx)) 9 (by kernel_rfl) ?_
     refine WpT.tk (i:=0) (v:=?_) rfl (by kernel_rfl) (fun _ _ _ h=>h) (Or.inl ⟨by rfl,?_⟩) hS0 ?_
     rotate_left
     ·
      intro wS hSw;(try dsimp only at hSw);go_simp;(first|done|with_reducible rfl)
     try simp only [Act.put,List.setIfInBounds_toArray,List.set_cons_zero,List.set_cons_succ]
     refine WpT.tk (i:=1) (v:=?_) rfl (by kernel_rfl) (fun _ _ _ h=>h) (Or.inl ⟨by rfl,?_⟩) hS0 ?_
     rotate_left
     ·
      intro wS hSw;(try dsimp only at hSw);go_simp;(first|done|with_reducible rfl)
     try simp only [Act.put,List.setIfInBounds_toArray,List.set_cons_zero,List.set_cons_succ]
     refine WpT.tk (i:=2) (v:=?_) rfl (by kernel_rfl) (fun _ _ _ h=>h) (Or.inl ⟨by rfl,?_⟩) hS0 ?_
     rotate_left
     ·
      intro wS hSw;(try dsimp only at hSw);go_simp;(first|done|with_reducible rfl)
     try simp only [Act.put,List.setIfInBounds_toArray,List.set_cons_zero,List.set_cons_succ]
     refine WpT.tk (i:=3) (v:=?_) rfl (by kernel_rfl) (fun _ _ _ h=>h) (Or.inl ⟨by rfl,?_⟩) hS0 ?_
     rotate_left
     ·
      intro wS hSw;(try dsimp only at hSw);go_simp;(first|done|with_reducible rfl)
     try simp only [Act.put,List.setIfInBounds_toArray,List.set_cons_zero,List.set_cons_succ]
     refine WpT.tk (i:=4) (v:=?_) rfl (by kernel_rfl) (fun _ _ _ h=>h) (Or.inl ⟨by rfl,?_⟩) hS0 ?_
     rotate_left
     ·
      intro wS hSw;(try dsimp only at hSw);go_simp;(first|done|with_reducible rfl)
     try simp only [Act.put,List.setIfInBounds_toArray,List.set_cons_zero,List.set_cons_succ]
     refine WpT.tk (i:=5) (v:=?_) rfl (by kernel_rfl) (fun _ _ _ h=>h) (Or.inl ⟨by rfl,?_⟩) hS0 ?_
     rotate_left
     ·
      intro wS hSw;(try dsimp only at hSw);go_simp;(first|done|with_reducible rfl)
     try simp only [Act.put,List.setIfInBounds_toArray,List.set_cons_zero,List.set_cons_succ]
     refine WpT.one (i:=6) (by kernel_rfl) rfl (fun K hK=>?_)
     go_simp
     go_at_call 77
     rw [show IntKind.i64.wrap ((n:Int)+1)=(n:Int)+1 from IntWalk.i64_in _ (by omega)]
     refine (HlevE.out (wP.setCell ⟨br,1,none⟩ (.int .i64 ((sc.i:Int)+1))).drew.drew ((Since.drew _ _).trans (Since.drew _ _))).mono ?_
     rintro en w6 ⟨cs,y,st6,rfl,hy,h6,hs6,hg6⟩
     obtain ⟨ay,cy,rfl⟩:=rX_shape hy
     have hS6:=And.intro ((hs6.cell (b:=bt) (o:=1) hltE n2).trans t1e) (And.intro ((hs6.cell (b:=bx) (o:=0) (Nat.lt_trans (show bx<bt by omega) hltE) n1).trans x0e) (And.intro ((hs6.cell (b:=bx) (o:=1) (Nat.lt_trans (show bx<bt by omega) hltE) n1).trans x1e) (And.intro ((hs6.cell (b:=bx) (o:=2) (Nat.lt_trans (show bx<bt by omega) hltE) n1).trans x2e) ((hs6.cell (b:=bx) (o:=3) (Nat.lt_trans (show bx<bt by omega) hltE) n1).trans x3e))))
     refine hK.out _ _ (fun _ _=>hS6) ?_
     clear hK K
     try simp only [Act.put,List.setIfInBounds_toArray,List.set_cons_zero,List.set_cons_succ]
     refine WpT.one (i:=7) (by kernel_rfl) rfl (fun K hK=>?_)
     go_simp
     have hs7:Since (fun _=>False) w6 (w6.alloc (.cells #[.int .i64 x.kind, .int .i64 x.n, .string x.s, .slice ax x.args.length cx, .int .i64 y.kind, .int .i64 y.n, .string y.s, .slice ay y.args.length cy] 28)):=Since.alloc _ _ _
     have hlt6:bt<w6.heap.size:=Nat.lt_of_lt_of_le hltE hs6.size
     have hS7:=And.intro ((hs7.cell (b:=bt) (o:=1) hlt6 (fun f=>f)).trans hS6.1) (And.intro ((hs7.cell (b:=bx) (o:=0) (by omega) (fun f=>f)).trans hS6.2.1) (And.intro ((hs7.cell (b:=bx) (o:=1) (by omega) (fun f=>f)).trans hS6.2.2.1) (And.intro ((hs7.cell (b:=bx) (o:=2) (by omega) (fun f=>f)).trans hS6.2.2.2.1) ((hs7.cell (b:=bx) (o:=3) (by omega) (fun f=>f)).trans hS6.2.2.2.2))))
     refine hK.out _ _ (fun _ _=>hS7) ?_
     clear hK K
     try simp only [Act.put,List.setIfInBounds_toArray,List.set_cons_zero,List.set_cons_succ]
     refine WpT.one (i:=8) (by kernel_rfl) rfl (fun K hK=>?_)
     go_simp
     refine hK.out _ _ (fun _ _=>hS7) ?_
     clear hK K
     try simp only [Act.put,List.setIfInBounds_toArray,List.set_cons_zero,List.set_cons_succ]
     obtain ⟨-,y0,y1,y2,y3⟩:=hS7
     have fz7: ∀ j,(w6.alloc (.cells #[.int .i64 x.kind, .int .i64 x.n, .string x.s, .slice ax x.args.length cx, .int .i64 y.kind, .int .i64 y.n, .string y.s, .slice ay y.args.length cy] 28)).frozen? ⟨bx,j,none⟩=false:=fun j=>(hs7.frozen (by omega) (fun f=>f)).trans ((hs6.frozen (Nat.lt_trans (show bx<bt by omega) hltE) n1).trans ((sE.frozen (by omega) n1).trans ((HsP.out.frozen hbxlt (fun f=>f)).trans (hfz j))))
     refine WpT.one (i:=9) (by kernel_rfl) rfl (fun K hK=>?_)
     go_simp
     refine hK.out _ _ (fun h=>absurd rfl h) ?_
     clear hK K
     try simp only [Act.put,List.setIfInBounds_toArray,List.set_cons_zero,List.set_cons_succ]
     refine WpT.done (by kernel_rfl) ?_ _
     go_wp2_with fail
     go_roundg k'
     case measure=>omega
     case rel=>
      obtain ⟨m0,m1,m2,m3,ms⟩:=cells4 y0 y1 y2 y3 (.int .i64 5) (.int .i64 0) (.string ts) (.slice (some ⟨w6.heap.size,0,none⟩) 2 2)
      have hfr: ∀ j,(((((w6.alloc (.cells #[.int .i64 x.kind, .int .i64 x.n, .string x.s, .slice ax x.args.length cx, .int .i64 y.kind, .int .i64 y.n, .string y.s, .slice ay y.args.length cy] 28)).setCell ⟨bx,0,none⟩ (.int .i64 5)).setCell ⟨bx,1,none⟩ (.int .i64 0)).setCell ⟨bx,2,none⟩ (.string ts)).setCell ⟨bx,3,none⟩ (.slice (some ⟨w6.heap.size,0,none⟩) 2 2)).frozen? ⟨bx,j,none⟩=false:=fun j=>by
       rw [World.frozen?_setCell,World.frozen?_setCell,World.frozen?_setCell,World.frozen?_setCell];exact fz7 j
      have hblk:=(ms.block w6.heap.size (by simp) (by omega)).trans (heap_alloc_new w6 (.cells #[.int .i64 x.kind, .int .i64 x.n, .string x.s, .slice ax x.args.length cx, .int .i64 y.kind, .int .i64 y.n, .string y.s, .slice ay y.args.length cy] 28))
      generalize (((((w6.alloc (.cells #[.int .i64 x.kind, .int .i64 x.n, .string x.s, .slice ax x.args.length cx, .int .i64 y.kind, .int .i64 y.n, .string y.s, .slice ay y.args.length cy] 28)).setCell ⟨bx,0,none⟩ (.int .i64 5)).setCell ⟨bx,1,none⟩ (.int .i64 0)).setCell ⟨bx,2,none⟩ (.string ts)).setCell ⟨bx,3,none⟩ (.slice (some ⟨w6.heap.size,0,none⟩) 2 2))=W9 at *
      have sdd:Since (fun _=>False) (wP.setCell ⟨br,1,none⟩ (.int .i64 ((sc.i:Int)+1))) (wP.setCell ⟨br,1,none⟩ (.int .i64 ((sc.i:Int)+1))).drew.drew:=(Since.drew _ _).trans (Since.drew _ _)
      have s6:Since (fun k=>k=br) wr w6:=(HsE.out.trans (sdd.mono (fun _ f=>f.elim))).trans hs6
      have s7:Since (fun k=>k=br) wr (w6.alloc (.cells #[.int .i64 x.kind, .int .i64 x.n, .string x.s, .slice ax x.args.length cx, .int .i64 y.kind, .int .i64 y.n, .string y.s, .slice ay y.args.length cy] 28)):=s6.trans (Since.alloc _ _ _)
      have s9:Since (fun k=>k=br∨k=bx) wr W9:=(s7.mono (fun _ e=>Or.inl e)).trans (ms.mono (fun _ e=>Or.inr e))
      have hts:=(seeR_size (T:=T) (st:=sc) HA.out.toks HA.out.inn).1
      rw [Ht.out] at hts
      have h6sz:=s6.size
      have hEsz:=HsE.out.size
      obtain ⟨dx,hdx⟩:=HX.out
      obtain ⟨dy,hdy⟩:=hy
      have hgE:Good' T (30 - (d:Int)) (runR T (levelR (unaryR d) (4 - n)) {sc with i:=sc.i+1}) y st6:=by
       rw [runR_ok (by exact H0.out)]
       rw [show 4 - n=5 - (n+1) by omega]
       exact hg6
      refine ⟨.mk 5 0 ts [x,y],some ⟨w6.heap.size,0,none⟩,2,st6,(h6.later hs7).since ms (by omega) (by omega),((((HLE.out.later sdd).box hs6).later hs7).since ms (fun k e=>by have:=HLE.out.lb.1;omega)),HS.out.trans s9,⟨m0,m1,m2,m3⟩,hfr,?_,?_,?_⟩
      ·
       refine rX_mk 5 0 ts (ini rfl) (ini rfl) hts ⟨max dx dy,?_⟩
       refine rSlice_all (l:=[x,y]) [[.int .i64 x.kind, .int .i64 x.n, .string x.s, .slice ax x.args.length cx],[.int .i64 y.kind, .int .i64 y.n, .string y.s, .slice ay y.args.length cy]] ⟨by omega,by omega⟩ (lens rfl) hblk ⟨⟨rfl,?_⟩,⟨rfl,?_⟩,trivial⟩
       ·
        exact Good.keep (w:=wr) ⟨s9.size,fun k hk hS=>s9.block k hk (fun e=>e.elim (fun e=>by omega) hS.2)⟩ (fun _ _ h=>h) (rExpr_le (Nat.le_max_left _ _) _ _ hdx)
       ·
        refine Good.keep (w:=w6) (S:=fun k=>(wP.setCell ⟨br,1,none⟩ (.int .i64 ((sc.i:Int)+1))).heap.size≤k) ⟨Nat.le_trans hs7.size ms.size,fun k hk hS=>(ms.block k (Nat.lt_of_lt_of_le hk hs7.size) (by omega)).trans (hs7.block k hk (fun f=>f))⟩ (fun k hk hS=>⟨by omega,by omega⟩) (rExpr_le (Nat.le_max_right dx _) _ _ hdy)
      ·
       rw [HRr.out,runR_ok H0.out,levLoop_succ,HOL.out,if_pos ⟨by rw [←seeR_head H0.out,Ht.out];exact E1.out,by rw [←seeR_head H0.out,Ht.out];exact Hbo.out⟩,←drop_tail,←seeR_head H0.out,Ht.out]
       have:=hgE.bind (q:=fun y=>levLoop OL (levelR (unaryR d) (4 - n)) k' (twoR ts x y))
       rw [runR_ok (by exact H0.out)] at this
       exact this
      ·
       intro e
       have l1:=hgE.shr (Shr.level (Shr.unary d) _) e
       have l2:=(HF.out H0.out).1
       have l3:T.length - st6.i<T.length - (sc.i+1):=l1
       exact ⟨by omega,hgE.dep_eq e⟩
   ·
    have f1:(tk !=109)=true:=by simp [e1]
    have E1:=zh e1
    clear e1
    have Hend:=zh (show Res= .ok (x,T.drop sc.i) by rw [HRr.out,runR_ok H0.out];unfold levLoop;rw [if_neg (fun e=>E1.out (by have:=e.1;rw [←seeR_head H0.out,Ht.out] at this;exact this))])
    go_wp2_with fail
    rw [HwP.out,←Hlt.out.1]
    go_region
    go_wp2_with fail
    obtain ⟨m0,m1,m2,m3,ms⟩:=cells4 (w:=wP) b0' b1' b2' b3' (.int .i64 x.kind) (.int .i64 x.n) (.string x.s) (.slice ax x.args.length cx)
    generalize hWW:(((wP.setCell ⟨w.heap.size,0,none⟩ (.int .i64 x.kind)).setCell ⟨w.heap.size,1,none⟩ (.int .i64 x.n)).setCell ⟨w.heap.size,2,none⟩ (.string x.s)).setCell ⟨w.heap.size,3,none⟩ (.slice ax x.args.length cx)=WW at *
    have hb2:=HA.out.lt.1
    have hszW:wr.heap.size≤(wP).heap.size:=(HsP.out).size
    have msd:Since (fun k=>k=w.heap.size) wP WW.drew:=(ms.trans (Since.drew _ _))
    refine bodyPost_ret (v:= .agg #[.int .i64 x.kind, .int .i64 x.n, .string x.s, .slice ax x.args.length cx]) (by simp [results,Tryd.results77,go_sem,m0,m1,m2,m3]) rfl ⟨_,x,sc,rfl,?_,(HA.out.later (HsP.out)).since msd (by omega) (by omega),((Hse.out.then_new HS.out (fun k e=>e.elim Or.inl (fun e=>Or.inr (by omega)))).trans ((HsP.out).mono (fun _ f=>f.elim))).then_new msd (fun k e=>Or.inr (by omega)),?_⟩
    ·
     exact Good.keep (R:=rX) (w:=wr) ⟨Nat.le_trans hszW msd.size,fun k hk hS=>(msd.block k (Nat.lt_of_lt_of_le hk hszW) (by omega)).trans ((HsP.out).block k hk (fun f=>f))⟩ (fun k hk hS=>by omega) HX.out
    ·
     rw [Hend.out];exact ⟨rfl,H0.out,(HF.out H0.out).2,rfl⟩
  ·
   have f0:(sc.fault==0)=false:=by simpa using h0
   have H0:=zh h0
   clear h0
   go_wp2_with fail
   obtain ⟨m0,m1,m2,m3,ms⟩:=cells4 (w:=wr) b0 b1 b2 b3 (.int .i64 x.kind) (.int .i64 x.n) (.string x.s) (.slice ax x.args.length cx)
   generalize hWW:(((wr.setCell ⟨w.heap.size,0,none⟩ (.int .i64 x.kind)).setCell ⟨w.heap.size,1,none⟩ (.int .i64 x.n)).setCell ⟨w.heap.size,2,none⟩ (.string x.s)).setCell ⟨w.heap.size,3,none⟩ (.slice ax x.args.length cx)=WW at *
   have hb2:=HA.out.lt.1
   have hszW:wr.heap.size≤(wr).heap.size:=(Since.refl (fun _=>False) wr).size
   have msd:Since (fun k=>k=w.heap.size) wr WW:=ms
   refine bodyPost_ret (v:= .agg #[.int .i64 x.kind, .int .i64 x.n, .string x.s, .slice ax x.args.length cx]) (by simp [results,Tryd.results77,go_sem,m0,m1,m2,m3]) rfl ⟨_,x,sc,rfl,?_,(HA.out.later (Since.refl (fun _=>False) wr)).since msd (by omega) (by omega),((Hse.out.then_new HS.out (fun k e=>e.elim Or.inl (fun e=>Or.inr (by omega)))).trans ((Since.refl (fun _=>False) wr).mono (fun _ f=>f.elim))).then_new msd (fun k e=>Or.inr (by omega)),?_⟩
   ·
    exact Good.keep (R:=rX) (w:=wr) ⟨Nat.le_trans hszW msd.size,fun k hk hS=>(msd.block k (Nat.lt_of_lt_of_le hk hszW) (by omega)).trans ((Since.refl (fun _=>False) wr).block k hk (fun f=>f))⟩ (fun k hk hS=>by omega) HX.out
   ·
    rw [HRr.out,runR_bad H0.out];exact ⟨rfl,rfl,H0.out⟩
theorem readLevel_any (d:Nat) (hU:UnaryOK d): ∀ n,n≤5→LevelOK d n:=fun n hn=>by
 obtain ⟨k,hk⟩: ∃ k,k=5 - n:=⟨_,rfl⟩
 induction k generalizing n with
 |zero=>
  obtain rfl:n=5:=by omega
  exact readLevel5_any d hU
 |succ k ih=>exact readLevel_step d n (by omega) (ih (n+1) (by omega) (by omega))
end Go.Proofs.YtkopjgnjflhkeaaDoor

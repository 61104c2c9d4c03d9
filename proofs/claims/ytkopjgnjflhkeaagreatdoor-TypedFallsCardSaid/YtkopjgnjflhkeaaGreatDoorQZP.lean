import Derived.Test.YtkopjgnjflhkeaaGreatDoorQZO
namespace Go.Proofs.YtkopjgnjflhkeaaGreatDoor
open Go.RowKit Go.Pst
set_option linter.unusedVariables false
set_option linter.unusedSimpArgs false
set_option maxRecDepth 10000 in
set_option maxHeartbeats 4000000 in
theorem stmt_2 {fs:List PFunc} {dF:Nat} {res:Int} {base bc:Nat} {vf:Value} {cf:List Value} {d:Nat} (hS:StmtSaid fs dF res base bc vf cf d) (s:PStmt) (cs:List Value) (w:World) (vS:Value) (bs:List Nat) (st:Chk) (h:StmtIn fs dF res 0 w base bc vf cf vS bs st) (hr:rStmt (d+1) (· <base) w cs s) (hf:FitS (d+1) s)
 (h0:st.fault=0) (hk:s.kind=2) (hn: ¬((0≤exprsN s.kind∧exprsN s.kind≠s.exprs.length)∨2<s.exprs.length)) (hdeep:st.depth.toNat+1≤120):
 Calls Tryz.prog 137 #[.pointer (some ⟨bc,0,none⟩), .agg cs.toArray] w (StmtPost w base bc vf cf vS bs st (stmtT fs res (d+1) st.loops.toNat st.depth.toNat st.G s)):=by
 obtain ⟨v3,v4,v5,v6,rfl,⟨hI0,hI1,hI2⟩,r3,r4,r5,r6⟩:=hr
 obtain ⟨a3,c3,rfl⟩:=rSlice_shape r3
 obtain ⟨a4,c4,rfl⟩:=rSlice_shape r4
 obtain ⟨a5,c5,rfl⟩:=rSlice_shape r5
 obtain ⟨a6,c6,rfl⟩:=rSlice_shape r6
 obtain ⟨hd0,hd1,hd2,hd3,hd4⟩:=h.ok h0
 obtain ⟨kd,hkd⟩:=Int.eq_ofNat_of_zero_le hd0
 have hkd':st.depth.toNat=kd:=by omega
 have hlt:=h.at_.lb.2
 have hbase:=h.at_.lb.1
 have hbig:=h.at_.big
 have hgl:=h.laid.lt.2
 have c8:=h.at_.c8
 rw [h0] at c8
 have hcn:=h.laid.exprs 2 (by decide) (by decide)
 rw [show exprsN ((2:Nat):Int)=1 by decide] at hcn
 rw [hk,show exprsN (2:Int)=1 by decide] at hn
 have c7:=h.at_.c7
 have z7:=h.at_.z 7
 rw [hkd] at c7
 have hset:=h.at_.set 7 ((kd:Int)+1) {st with depth:=(kd:Int)+1} rfl (by decide) (by simp) (by simp) (by simp)
 have s7:Since (fun k=>k=bc) w (w.setCell ⟨bc,7,none⟩ (.int .i64 ((kd:Int)+1))):=Since.setCell w ⟨bc,7,none⟩ (.int .i64 ((kd:Int)+1))
 have hcn2:((w.alloc (.cells #[.pointer (some ⟨bc,0,none⟩)] 84)).alloc (.cells #[.int .i64 2, .string s.s, .string s.t, .slice a3 s.exprs.length c3, .slice a4 s.body.length c4, .slice a5 s.els.length c5, .slice a6 s.cases.length c6] 91)).cell? ⟨2,2,none⟩=some (.int .i64 1):=by
  rw [World.cell?_alloc_lt _ _ _ (show 2<_ by simp;omega),World.cell?_alloc_lt _ _ _ (show 2<_ by omega)]
  exact hcn
 rw [hk]
 obtain ⟨W2,hW2⟩: ∃ W2,W2=(((w.setCell ⟨bc,7,none⟩ (.int .i64 ((kd:Int)+1))).alloc (.cells #[.pointer (some ⟨bc,0,none⟩)] 84)).alloc (.cells #[.int .i64 2, .string s.s, .string s.t, .slice a3 s.exprs.length c3, .slice a4 s.body.length c4, .slice a5 s.els.length c5, .slice a6 s.cases.length c6] 91)):=⟨_,rfl⟩
 have sB:Since (fun _=>False) (w.setCell ⟨bc,7,none⟩ (.int .i64 ((kd:Int)+1))) W2:=by rw [hW2];exact (Since.alloc _ _ _).trans (Since.alloc _ _ _)
 have hC2:=hset.since sB (fun _ e=>e.elim)
 have HC2:=zh hC2
 have S7:=zh (s7.trans (sB.mono (G:=fun k=>k=bc) (fun _ e=>e.elim)))
 have hbx:W2.cell? ⟨w.heap.size,0,none⟩=some (.pointer (some ⟨bc,0,none⟩)):=by
  rw [hW2,World.cell?_alloc_lt _ _ _ (by simp)]
  exact (World.cell?_alloc_at _ _ _ _ (by simp)).trans rfl
 have hlW:w.heap.size<W2.heap.size:=by rw [hW2];simp;omega
 have hin2:ExprIn fs dF W2 base bc vf cf vS bs {st with depth:=(kd:Int)+1}:=
  ⟨hC2,h.laid.since S7.out (fun k e=>by rw [e];exact hbase) hbig,Good.kept (S7.out.keep.weaken (fun k _ hk e=>by omega)) h.funcs,by have:=h.len;show st.G.length≤_;omega,by have:=h.pos;show 0<st.G.length;omega,fun _=>by show 0≤(kd:Int)+1∧(kd:Int)+1≤120;omega⟩
 have hx2:rSlice 4 (rExpr d) (· <base) W2 [.slice a3 s.exprs.length c3] s.exprs:=Good.kept (S7.out.keep.weaken (fun k _ hk e=>by omega)) r3
 have hkn:((kd:Int)+1).toNat=kd+1:=by omega
 obtain ⟨x,hxe⟩: ∃ x,s.exprs=[x]:=by
  match hq:s.exprs,(show s.exprs.length=1 by omega) with
  |[x],_=>exact ⟨x,rfl⟩
 obtain ⟨⟨f1,f2⟩,-⟩:=hf
 have hfx:FitX d x:=f2 x (by rw [hxe];simp)
 have r3':=r3
 rw [hxe] at r3'
 obtain ⟨b,off,cap,ax,cx,hv,hSb,hbl,x0,x1,x2,x3,hrx⟩:=rExprs_get r3' 0 (by simp)
 obtain ⟨rfl,-,rfl⟩:=Value.slice.inj hv
 simp only [List.getElem_cons_zero,Nat.zero_mul,Nat.add_zero] at x0 x1 x2 x3 hrx
 have hmm:=fun k (hk:ChkM bc vS bs k)=>h.at_.mem_lt hk
 have hbn: ¬ChkM bc vS bs b:=fun f=>by have:=(hmm _ f).1;omega
 have hbn0:b≠bc:=fun e=>hbn (Or.inl e)
 have hwn: ¬ChkM bc vS bs w.heap.size:=fun f=>by have:=(hmm _ f).2;omega
 have hwn1: ¬ChkM bc vS bs (w.heap.size+1):=fun f=>by have:=(hmm _ f).2;omega
 have hin3:=hin2.new (Since.drew (fun _=>False) W2)
 have hrx3:rExpr d (· <base) W2.drew _ x:=Good.kept ((S7.out.trans (Since.drew (fun k=>k=bc) W2)).keep.weaken (fun k _ hk e=>by omega)) hrx
 have hrx2:rExpr d (· <base) W2 _ x:=Good.kept (S7.out.keep.weaken (fun k _ hk e=>by omega)) hrx
 have Hrx2:=zh hrx2
 have Hin3:=zh hin3
 have Hin2:=zh hin2
 have Hrx3:=zh hrx3
 have Hfx:=zh hfx
 have hval:=typedValued_any hin3 hrx3 hfx
 have hW3:W2.cell? ⟨w.heap.size+1,3,none⟩=some (.slice (some ⟨b,off,none⟩) s.exprs.length c3):=by rw [hW2];exact (World.cell?_alloc_at _ _ _ _ (by simp)).trans rfl
 have hW1:W2.cell? ⟨w.heap.size+1,1,none⟩=some (.string s.s):=by rw [hW2];exact (World.cell?_alloc_at _ _ _ _ (by simp)).trans rfl
 have hlW1:w.heap.size+1<W2.heap.size:=by rw [hW2];simp
 have hbW:b<W2.heap.size:=by omega
 have tx:=fun o=>(S7.out.cell (o:=o) hbl hbn0)
 have hS0:(fun w':World=>w'.cell? ⟨w.heap.size,0,none⟩=some (.pointer (some ⟨bc,0,none⟩))∧w'.cell? ⟨w.heap.size+1,3,none⟩=some (.slice (some ⟨b,off,none⟩) s.exprs.length c3)∧w'.cell? ⟨b,off,none⟩=some (.int .i64 x.kind)∧w'.cell? ⟨b,off+1,none⟩=some (.int .i64 x.n)∧w'.cell? ⟨b,off+2,none⟩=some (.string x.s)∧w'.cell? ⟨b,off+3,none⟩=some (.slice ax x.args.length cx)∧w'.cell? ⟨w.heap.size+1,1,none⟩=some (.string s.s)) W2:=⟨hbx,hW3,(tx _).trans x0,(tx _).trans x1,(tx _).trans x2,(tx _).trans x3,hW1⟩
 have HSS:=zh (show ∀ w3,Since (ChkM bc vS bs) W2 w3→(fun w':World=>w'.cell? ⟨w.heap.size,0,none⟩=some (.pointer (some ⟨bc,0,none⟩))∧w'.cell? ⟨w.heap.size+1,3,none⟩=some (.slice (some ⟨b,off,none⟩) s.exprs.length c3)∧w'.cell? ⟨b,off,none⟩=some (.int .i64 x.kind)∧w'.cell? ⟨b,off+1,none⟩=some (.int .i64 x.n)∧w'.cell? ⟨b,off+2,none⟩=some (.string x.s)∧w'.cell? ⟨b,off+3,none⟩=some (.slice ax x.args.length cx)∧w'.cell? ⟨w.heap.size+1,1,none⟩=some (.string s.s)) w3 from fun w3 hs=>⟨(hs.cell (o:=0) hlW hwn).trans hS0.1,(hs.cell (o:=3) hlW1 hwn1).trans hS0.2.1,(hs.cell (o:=off) hbW hbn).trans hS0.2.2.1,(hs.cell (o:=off+1) hbW hbn).trans hS0.2.2.2.1,(hs.cell (o:=off+2) hbW hbn).trans hS0.2.2.2.2.1,(hs.cell (o:=off+3) hbW hbn).trans hS0.2.2.2.2.2.1,(hs.cell (o:=1) hlW1 hwn1).trans hS0.2.2.2.2.2.2⟩)
 have HD:=zh (Since.drew (ChkM bc vS bs) W2)
 have Hm0:=zh hwn
 have Hm1:=zh hwn1
 have HI1:=zh hI1
 have HG:=zh (show ∃ g r,st.G=g::r∧r.length≤100000 by
  have h1:=h.pos
  have h2:=h.len
  cases hg:st.G with
  |nil=>rw [hg] at h1;simp at h1
  |cons g r=>rw [hg] at h2;simp at h2;exact ⟨g,r,rfl,by omega⟩)
 have HL:=zh (show st.G.length≤200000∧0<st.G.length from ⟨by have:=h.len;omega,by have:=h.pos;omega⟩)
 simp only [hkn] at hval
 have Hval:=zh hval
 have d4:((1:Int) !=(s.exprs.length:Int))=false:=by rw [bne_eq_false_iff_eq];omega
 have d5:decide ((s.exprs.length:Int) > 2)=false:=decide_eq_false (by omega)
 have hl0:(0:Int)<(s.exprs.length:Int):=by omega
 have hl1:0<s.exprs.length:=by omega
 have HR:=zh (show stmtT fs res (d+1) st.loops.toNat st.depth.toNat st.G s=setT st.G (valuedT (exprT fs st.G d (kd+1) x)) s.s by
  unfold stmtT
  rw [hk,if_neg (by omega),show exprsN (2:Int)=1 by decide,if_neg hn,if_neg (by omega),hkd',hxe]
  simp
  try rfl)
 obtain ⟨R,hR⟩: ∃ R,R=stmtT fs res (d+1) st.loops.toNat st.depth.toNat st.G s:=⟨_,rfl⟩
 rw [←hR] at HR ⊢
 have Hbx:=zh hbx
 have H0:=zh h0
 have Hkd:=zh hkd
 have Hwb:=zh (show w.heap.size≠bc by omega)
 have H:=zh h
 have Hnm:=zh (show ∀ k,ChkM bc vS bs k→k<w.heap.size from fun k hk=>(h.at_.mem_lt hk).2)
 have hw7:IntKind.i64.wrap ((kd:Int)+1)=(kd:Int)+1:=IntWalk.i64_in _ (by omega)
 have d6:decide ((kd:Int)+1 > 120)=false:=decide_eq_false (by omega)
 have Hkb:=zh (show (kd:Int)<200 by omega)
 have Hdoor:=zh (show ∀ w3 vS3 bs3 st3,ChkAt w3 base bc vf cf vS3 bs3 st3→Since (ChkM bc vS bs) W2 w3→ChkAt.NewM w bc vS vS3 bs bs3→StmtEnd {st with depth:=(kd:Int)+1} R st3→
  ∀ w4,ChkAt w4 base bc vf cf vS3 bs3 {st3 with depth:=IntKind.i64.wrap (st3.depth - 1)}→Since (fun k=>k=bc) w3 w4→StmtPost w base bc vf cf vS bs st R (.returned (.tuple #[])) w4 from fun w3 vS3 bs3 st3 h1 h2 h3 h4 w4 h5 h6=>
  ⟨rfl,vS3,bs3,_,h5,h3.since ((S7.out.mono (fun k e=>Or.inl e)).trans h2) (h6.mono (fun k e=>Or.inl e)),h3,h4.deep (fun e=>by rw [e,Hkd.out,show (kd:Int)+1 - 1=(kd:Int) by omega];exact IntWalk.i64_in _ (by have:=Hkb.out;omega))⟩)
 have H8:=zh (show ({st with depth:=(kd:Int)+1}:Chk).fault=0 from h0)
 obtain ⟨stn,hstn⟩: ∃ stn:Chk,stn={st with depth:=(kd:Int)+1}:=⟨_,rfl⟩
 have Hstn:=zh (show stn.G=st.G∧stn.depth=(kd:Int)+1 by rw [hstn];exact ⟨rfl,rfl⟩)
 rw [←hstn] at H8 Hval Hdoor Hin3 Hin2 HC2
 rw [←Hstn.out.1] at HR HG HL Hval
 clear hset s7 sB hC2 hcn hd0 hd1 hd2 hd3 hd4 hdeep hkd hkd' hR h h0 hn hbx hval hin2 hx2 hkn hxe r3' hv hrx hfx hmm hbn hbn0 hwn hwn1 hin3 hrx3 hrx2 hW1 hW3 tx hstn
 subst hW2
 go_enter_defers Tryz.func137,Tryz.ntmps137
 go_wp2_with fail
 go_region_held3 (fun w':World=>w'.cell? ⟨w.heap.size,0,none⟩=some (.pointer (some ⟨bc,0,none⟩))∧w'.cell? ⟨w.heap.size+1,3,none⟩=some (.slice (some ⟨b,off,none⟩) s.exprs.length c3)∧w'.cell? ⟨b,off,none⟩=some (.int .i64 x.kind)∧w'.cell? ⟨b,off+1,none⟩=some (.int .i64 x.n)∧w'.cell? ⟨b,off+2,none⟩=some (.string x.s)∧w'.cell? ⟨b,off+3,none⟩=some (.slice ax x.args.length cx)∧w'.cell? ⟨w.heap.size+1,1,none⟩=some (.string s.s)) (first|exact hS0|exact hS2) (first|(go_at_call 172;refine Hval.out.mono ?_;rintro en w3 ⟨t,st3,rfl,hc3,hs3,ha3,hk3⟩;have hS2:=HSS.out w3 (HD.out.trans (hs3.mono (fun k e=>Or.inl e)))))
 have HS3:=zh (HD.out.trans (hs3.mono (G:=ChkM bc vS bs) (fun k e=>Or.inl e)))
 have HC3:=zh hc3
 have HK3:=zh (hk3 H8.out)
 have hb3:=hS2.1
 have hb31:=hS2.2.2.2.2.2.2
 have c8z:=hc3.c8
 clear hc3 hs3 ha3 hk3 hS2
 by_cases hz:st3.fault=0
 ·
  have hz':(st3.fault==0)=true:=by simp [hz]
  obtain ⟨hV,hst⟩:=HK3.out.same hz
  subst hst
  have HR2:=zh (show R=match findT st3.G s.s with|none=> .error 6|some u=>if t=u then .ok st3.G else .error 9 by rw [HR.out,hV];rfl)
  have hT0:=And.intro hb3 hb31
  have hsz:=HS3.out.size
  have HTT:=zh (show ∀ w5,Since (ChkM bc vS bs) w3 w5→w5.cell? ⟨w.heap.size,0,none⟩=some (.pointer (some ⟨bc,0,none⟩))∧w5.cell? ⟨w.heap.size+1,1,none⟩=some (.string s.s) from fun w5 hs=>⟨(hs.cell (o:=0) (by omega) Hm0.out).trans hb3,(hs.cell (o:=1) (by omega) Hm1.out).trans hb31⟩)
  have HDD:=zh (Since.drew (ChkM bc vS bs) w3)
  clear hV hz hsz
  all_goals go_wp2_with fail
  go_region_held3 (fun w':World=>w'.cell? ⟨w.heap.size,0,none⟩=some (.pointer (some ⟨bc,0,none⟩))∧w'.cell? ⟨w.heap.size+1,1,none⟩=some (.string s.s)) (first|exact hT0|exact hT5|exact hT6) (first
   |(go_at_call 174;refine (typedFind_any _ base bc vf cf vS bs st3 (HC3.out.since (Since.drew (fun _=>False) w3) (fun _ e=>e.elim)) H8.out HL.out.1 HL.out.2 s.s).mono ?_;rintro en w5 ⟨t5,st5,rfl,hc5,hs5,hk5⟩;have hT5:=HTT.out w5 (HDD.out.trans (hs5.mono (fun k e=>Or.inl e))))
   |(go_at_call 173;refine (typedWant_any w5 base bc vf cf vS bs st5 hc5 t t5).mono ?_;rintro en w6 ⟨rfl,hc6,hs6⟩;have hT6:=HTT.out w6 ((HDD.out.trans (hs5.mono (fun k e=>Or.inl e))).trans (hs6.mono (fun k e=>Or.inl e)))))
  have HS6:=zh ((HDD.out.trans (hs5.mono (G:=ChkM bc vS bs) (fun k e=>Or.inl e))).trans (hs6.mono (fun k e=>Or.inl e)))
  have HE:=zh (find_end (fun u=>t=u) H8.out hk5)
  have hb6:=hT6.1
  have HC6:=zh hc6
  have HQ:=zh (Hdoor.out w6 vS bs _ hc6 (HS3.out.trans HS6.out) (fun k hk=>Or.inl hk) (HE.out.cast HR2.out.symm))
  clear hc5 hs5 hk5 hT5 hc6 hs6 hT6
  all_goals go_wp2_with fail
  exact stmtDoor HC6.out hb6 HQ.out
 ·
  have hz':(st3.fault==0)=false:=by simp [hz]
  obtain ⟨hV,hG⟩:=HK3.out.err H8.out hz
  have HQ:=zh (Hdoor.out w3 vS bs _ HC3.out HS3.out (fun k hk=>Or.inl hk) (StmtEnd.fail H8.out (by rw [HR.out,hV];rfl) hz rfl hG))
  clear hV hG hz
  all_goals go_wp2_with fail
  exact stmtDoor HC3.out hb3 HQ.out
set_option maxRecDepth 10000 in
set_option maxHeartbeats 4000000 in
theorem stmt_12 {fs:List PFunc} {dF:Nat} {res:Int} {base bc:Nat} {vf:Value} {cf:List Value} {d:Nat} (hS:StmtSaid fs dF res base bc vf cf d) (s:PStmt) (cs:List Value) (w:World) (vS:Value) (bs:List Nat) (st:Chk) (h:StmtIn fs dF res 0 w base bc vf cf vS bs st) (hr:rStmt (d+1) (· <base) w cs s) (hf:FitS (d+1) s)
 (h0:st.fault=0) (hk:s.kind=12) (hn: ¬((0≤exprsN s.kind∧exprsN s.kind≠s.exprs.length)∨2<s.exprs.length)) (hdeep:st.depth.toNat+1≤120):
 Calls Tryz.prog 137 #[.pointer (some ⟨bc,0,none⟩), .agg cs.toArray] w (StmtPost w base bc vf cf vS bs st (stmtT fs res (d+1) st.loops.toNat st.depth.toNat st.G s)):=by
 obtain ⟨v3,v4,v5,v6,rfl,⟨hI0,hI1,hI2⟩,r3,r4,r5,r6⟩:=hr
 obtain ⟨a3,c3,rfl⟩:=rSlice_shape r3
 obtain ⟨a4,c4,rfl⟩:=rSlice_shape r4
 obtain ⟨a5,c5,rfl⟩:=rSlice_shape r5
 obtain ⟨a6,c6,rfl⟩:=rSlice_shape r6
 obtain ⟨hd0,hd1,hd2,hd3,hd4⟩:=h.ok h0
 obtain ⟨kd,hkd⟩:=Int.eq_ofNat_of_zero_le hd0
 have hkd':st.depth.toNat=kd:=by omega
 have hlt:=h.at_.lb.2
 have hbase:=h.at_.lb.1
 have hbig:=h.at_.big
 have hgl:=h.laid.lt.2
 have c8:=h.at_.c8
 rw [h0] at c8
 have hcn:=h.laid.exprs 12 (by decide) (by decide)
 rw [show exprsN ((12:Nat):Int)=1 by decide] at hcn
 rw [hk,show exprsN (12:Int)=1 by decide] at hn
 have c7:=h.at_.c7
 have z7:=h.at_.z 7
 rw [hkd] at c7
 have hset:=h.at_.set 7 ((kd:Int)+1) {st with depth:=(kd:Int)+1} rfl (by decide) (by simp) (by simp) (by simp)
 have s7:Since (fun k=>k=bc) w (w.setCell ⟨bc,7,none⟩ (.int .i64 ((kd:Int)+1))):=Since.setCell w ⟨bc,7,none⟩ (.int .i64 ((kd:Int)+1))
 have hcn2:((w.alloc (.cells #[.pointer (some ⟨bc,0,none⟩)] 84)).alloc (.cells #[.int .i64 12, .string s.s, .string s.t, .slice a3 s.exprs.length c3, .slice a4 s.body.length c4, .slice a5 s.els.length c5, .slice a6 s.cases.length c6] 91)).cell? ⟨2,12,none⟩=some (.int .i64 1):=by
  rw [World.cell?_alloc_lt _ _ _ (show 2<_ by simp;omega),World.cell?_alloc_lt _ _ _ (show 2<_ by omega)]
  exact hcn
 rw [hk]
 obtain ⟨W2,hW2⟩: ∃ W2,W2=(((w.setCell ⟨bc,7,none⟩ (.int .i64 ((kd:Int)+1))).alloc (.cells #[.pointer (some ⟨bc,0,none⟩)] 84)).alloc (.cells #[.int .i64 12, .string s.s, .string s.t, .slice a3 s.exprs.length c3, .slice a4 s.body.length c4, .slice a5 s.els.length c5, .slice a6 s.cases.length c6] 91)):=⟨_,rfl⟩
 have sB:Since (fun _=>False) (w.setCell ⟨bc,7,none⟩ (.int .i64 ((kd:Int)+1))) W2:=by rw [hW2];exact (Since.alloc _ _ _).trans (Since.alloc _ _ _)
 have hC2:=hset.since sB (fun _ e=>e.elim)
 have HC2:=zh hC2
 have S7:=zh (s7.trans (sB.mono (G:=fun k=>k=bc) (fun _ e=>e.elim)))
 have hbx:W2.cell? ⟨w.heap.size,0,none⟩=some (.pointer (some ⟨bc,0,none⟩)):=by
  rw [hW2,World.cell?_alloc_lt _ _ _ (by simp)]
  exact (World.cell?_alloc_at _ _ _ _ (by simp)).trans rfl
 have hlW:w.heap.size<W2.heap.size:=by rw [hW2];simp;omega
 have hin2:ExprIn fs dF W2 base bc vf cf vS bs {st with depth:=(kd:Int)+1}:=
  ⟨hC2,h.laid.since S7.out (fun k e=>by rw [e];exact hbase) hbig,Good.kept (S7.out.keep.weaken (fun k _ hk e=>by omega)) h.funcs,by have:=h.len;show st.G.length≤_;omega,by have:=h.pos;show 0<st.G.length;omega,fun _=>by show 0≤(kd:Int)+1∧(kd:Int)+1≤120;omega⟩
 have hx2:rSlice 4 (rExpr d) (· <base) W2 [.slice a3 s.exprs.length c3] s.exprs:=Good.kept (S7.out.keep.weaken (fun k _ hk e=>by omega)) r3
 have hkn:((kd:Int)+1).toNat=kd+1:=by omega
 obtain ⟨x,hxe⟩: ∃ x,s.exprs=[x]:=by
  match hq:s.exprs,(show s.exprs.length=1 by omega) with
  |[x],_=>exact ⟨x,rfl⟩
 obtain ⟨⟨f1,f2⟩,-⟩:=hf
 have hfx:FitX d x:=f2 x (by rw [hxe];simp)
 have r3':=r3
 rw [hxe] at r3'
 obtain ⟨b,off,cap,ax,cx,hv,hSb,hbl,x0,x1,x2,x3,hrx⟩:=rExprs_get r3' 0 (by simp)
 obtain ⟨rfl,-,rfl⟩:=Value.slice.inj hv
 simp only [List.getElem_cons_zero,Nat.zero_mul,Nat.add_zero] at x0 x1 x2 x3 hrx
 have hmm:=fun k (hk:ChkM bc vS bs k)=>h.at_.mem_lt hk
 have hbn: ¬ChkM bc vS bs b:=fun f=>by have:=(hmm _ f).1;omega
 have hbn0:b≠bc:=fun e=>hbn (Or.inl e)
 have hwn: ¬ChkM bc vS bs w.heap.size:=fun f=>by have:=(hmm _ f).2;omega
 have hwn1: ¬ChkM bc vS bs (w.heap.size+1):=fun f=>by have:=(hmm _ f).2;omega
 have hin3:=hin2.new (Since.drew (fun _=>False) W2)
 have hrx3:rExpr d (· <base) W2.drew _ x:=Good.kept ((S7.out.trans (Since.drew (fun k=>k=bc) W2)).keep.weaken (fun k _ hk e=>by omega)) hrx
 have hrx2:rExpr d (· <base) W2 _ x:=Good.kept (S7.out.keep.weaken (fun k _ hk e=>by omega)) hrx
 have Hrx2:=zh hrx2
 have Hin3:=zh hin3
 have Hin2:=zh hin2
 have Hrx3:=zh hrx3
 have Hfx:=zh hfx
 have hval:=typedValued_any hin3 hrx3 hfx
 have hW3:W2.cell? ⟨w.heap.size+1,3,none⟩=some (.slice (some ⟨b,off,none⟩) s.exprs.length c3):=by rw [hW2];exact (World.cell?_alloc_at _ _ _ _ (by simp)).trans rfl
 have hW1:W2.cell? ⟨w.heap.size+1,1,none⟩=some (.string s.s):=by rw [hW2];exact (World.cell?_alloc_at _ _ _ _ (by simp)).trans rfl
 have hlW1:w.heap.size+1<W2.heap.size:=by rw [hW2];simp
 have hbW:b<W2.heap.size:=by omega
 have tx:=fun o=>(S7.out.cell (o:=o) hbl hbn0)
 have hS0:(fun w':World=>w'.cell? ⟨w.heap.size,0,none⟩=some (.pointer (some ⟨bc,0,none⟩))∧w'.cell? ⟨w.heap.size+1,3,none⟩=some (.slice (some ⟨b,off,none⟩) s.exprs.length c3)∧w'.cell? ⟨b,off,none⟩=some (.int .i64 x.kind)∧w'.cell? ⟨b,off+1,none⟩=some (.int .i64 x.n)∧w'.cell? ⟨b,off+2,none⟩=some (.string x.s)∧w'.cell? ⟨b,off+3,none⟩=some (.slice ax x.args.length cx)∧w'.cell? ⟨w.heap.size+1,1,none⟩=some (.string s.s)) W2:=⟨hbx,hW3,(tx _).trans x0,(tx _).trans x1,(tx _).trans x2,(tx _).trans x3,hW1⟩
 have HSS:=zh (show ∀ w3,Since (ChkM bc vS bs) W2 w3→(fun w':World=>w'.cell? ⟨w.heap.size,0,none⟩=some (.pointer (some ⟨bc,0,none⟩))∧w'.cell? ⟨w.heap.size+1,3,none⟩=some (.slice (some ⟨b,off,none⟩) s.exprs.length c3)∧w'.cell? ⟨b,off,none⟩=some (.int .i64 x.kind)∧w'.cell? ⟨b,off+1,none⟩=some (.int .i64 x.n)∧w'.cell? ⟨b,off+2,none⟩=some (.string x.s)∧w'.cell? ⟨b,off+3,none⟩=some (.slice ax x.args.length cx)∧w'.cell? ⟨w.heap.size+1,1,none⟩=some (.string s.s)) w3 from fun w3 hs=>⟨(hs.cell (o:=0) hlW hwn).trans hS0.1,(hs.cell (o:=3) hlW1 hwn1).trans hS0.2.1,(hs.cell (o:=off) hbW hbn).trans hS0.2.2.1,(hs.cell (o:=off+1) hbW hbn).trans hS0.2.2.2.1,(hs.cell (o:=off+2) hbW hbn).trans hS0.2.2.2.2.1,(hs.cell (o:=off+3) hbW hbn).trans hS0.2.2.2.2.2.1,(hs.cell (o:=1) hlW1 hwn1).trans hS0.2.2.2.2.2.2⟩)
 have HD:=zh (Since.drew (ChkM bc vS bs) W2)
 have Hm0:=zh hwn
 have Hm1:=zh hwn1
 have HI1:=zh hI1
 have HG:=zh (show ∃ g r,st.G=g::r∧r.length≤100000 by
  have h1:=h.pos
  have h2:=h.len
  cases hg:st.G with
  |nil=>rw [hg] at h1;simp at h1
  |cons g r=>rw [hg] at h2;simp at h2;exact ⟨g,r,rfl,by omega⟩)
 have HL:=zh (show st.G.length≤200000∧0<st.G.length from ⟨by have:=h.len;omega,by have:=h.pos;omega⟩)
 simp only [hkn] at hval
 have Hval:=zh hval
 have d4:((1:Int) !=(s.exprs.length:Int))=false:=by rw [bne_eq_false_iff_eq];omega
 have d5:decide ((s.exprs.length:Int) > 2)=false:=decide_eq_false (by omega)
 have hl0:(0:Int)<(s.exprs.length:Int):=by omega
 have hl1:0<s.exprs.length:=by omega
 have HR:=zh (show stmtT fs res (d+1) st.loops.toNat st.depth.toNat st.G s=(match isT (exprT fs st.G d (kd+1) x) 1 with| .error e=> .error e| .ok _=>match findT st.G s.s with|none=> .error 6|some u=>if u=5 then .ok st.G else .error 9) by
  unfold stmtT
  rw [hk,if_neg (by omega),show exprsN (12:Int)=1 by decide,if_neg hn,if_neg (by omega),hkd',hxe]
  simp
  try rfl)
 obtain ⟨R,hR⟩: ∃ R,R=stmtT fs res (d+1) st.loops.toNat st.depth.toNat st.G s:=⟨_,rfl⟩
 rw [←hR] at HR ⊢
 have Hbx:=zh hbx
 have H0:=zh h0
 have Hkd:=zh hkd
 have Hwb:=zh (show w.heap.size≠bc by omega)
 have H:=zh h
 have Hnm:=zh (show ∀ k,ChkM bc vS bs k→k<w.heap.size from fun k hk=>(h.at_.mem_lt hk).2)
 have hw7:IntKind.i64.wrap ((kd:Int)+1)=(kd:Int)+1:=IntWalk.i64_in _ (by omega)
 have d6:decide ((kd:Int)+1 > 120)=false:=decide_eq_false (by omega)
 have Hkb:=zh (show (kd:Int)<200 by omega)
 have Hdoor:=zh (show ∀ w3 vS3 bs3 st3,ChkAt w3 base bc vf cf vS3 bs3 st3→Since (ChkM bc vS bs) W2 w3→ChkAt.NewM w bc vS vS3 bs bs3→StmtEnd {st with depth:=(kd:Int)+1} R st3→
  ∀ w4,ChkAt w4 base bc vf cf vS3 bs3 {st3 with depth:=IntKind.i64.wrap (st3.depth - 1)}→Since (fun k=>k=bc) w3 w4→StmtPost w base bc vf cf vS bs st R (.returned (.tuple #[])) w4 from fun w3 vS3 bs3 st3 h1 h2 h3 h4 w4 h5 h6=>
  ⟨rfl,vS3,bs3,_,h5,h3.since ((S7.out.mono (fun k e=>Or.inl e)).trans h2) (h6.mono (fun k e=>Or.inl e)),h3,h4.deep (fun e=>by rw [e,Hkd.out,show (kd:Int)+1 - 1=(kd:Int) by omega];exact IntWalk.i64_in _ (by have:=Hkb.out;omega))⟩)
 have H8:=zh (show ({st with depth:=(kd:Int)+1}:Chk).fault=0 from h0)
 obtain ⟨stn,hstn⟩: ∃ stn:Chk,stn={st with depth:=(kd:Int)+1}:=⟨_,rfl⟩
 have Hstn:=zh (show stn.G=st.G∧stn.depth=(kd:Int)+1 by rw [hstn];exact ⟨rfl,rfl⟩)
 rw [←hstn] at H8 Hval Hdoor Hin3 Hin2 HC2
 rw [←Hstn.out.1] at HR HG HL Hval
 clear hset s7 sB hC2 hcn hd0 hd1 hd2 hd3 hd4 hdeep hkd hkd' hR h h0 hn hbx hval hin2 hx2 hkn hxe r3' hv hrx hfx hmm hbn hbn0 hwn hwn1 hin3 hrx3 hrx2 hW1 hW3 tx hstn
 subst hW2
 go_enter_defers Tryz.func137,Tryz.ntmps137
 go_wp2_with fail
 go_region_held3 (fun w':World=>w'.cell? ⟨w.heap.size,0,none⟩=some (.pointer (some ⟨bc,0,none⟩))∧w'.cell? ⟨w.heap.size+1,3,none⟩=some (.slice (some ⟨b,off,none⟩) s.exprs.length c3)∧w'.cell? ⟨b,off,none⟩=some (.int .i64 x.kind)∧w'.cell? ⟨b,off+1,none⟩=some (.int .i64 x.n)∧w'.cell? ⟨b,off+2,none⟩=some (.string x.s)∧w'.cell? ⟨b,off+3,none⟩=some (.slice ax x.args.length cx)∧w'.cell? ⟨w.heap.size+1,1,none⟩=some (.string s.s)) (first|exact hS0|exact hS2|exact hS4) (first|(go_at_call 172;refine Hval.out.mono ?_;rintro en w3 ⟨t,st3,rfl,hc3,hs3,ha3,hk3⟩;have hS2:=HSS.out w3 (HD.out.trans (hs3.mono (fun k e=>Or.inl e))))|(go_at_call 173;refine (typedWant_any w3 base bc vf cf vS bs st3 hc3 t 1).mono ?_;rintro en w4 ⟨rfl,hc4,hs4⟩;have hS4:=HSS.out w4 ((HD.out.trans (hs3.mono (fun k e=>Or.inl e))).trans (hs4.mono (fun k e=>Or.inl e)))))
 have HS3:=zh ((HD.out.trans (hs3.mono (G:=ChkM bc vS bs) (fun k e=>Or.inl e))).trans (hs4.mono (fun k e=>Or.inl e)))
 have HW:=zh (WantEnd.of (u:=1) (hk3 H8.out) H8.out)
 have hb3:=hS4.1
 have hb31:=hS4.2.2.2.2.2.2
 have c8z:=hc4.c8
 have HC3:=zh hc4
 clear hc3 hs3 ha3 hk3 hS2 hc4 hs4 hS4
 generalize (if t=1 then st3 else st3.bad 9)=st4 at *
 by_cases hz:st4.fault=0
 ·
  have hz':(st4.fault==0)=true:=by simp [hz]
  obtain ⟨hst,v1,hV⟩:=HW.out.same hz
  subst hst
  have HR2:=zh (show R=match findT st4.G s.s with|none=> .error 6|some u=>if u=5 then .ok st4.G else .error 9 by rw [HR.out,hV])
  have hT0:=And.intro hb3 hb31
  have hsz:=HS3.out.size
  have HTT:=zh (show ∀ w5,Since (ChkM bc vS bs) w4 w5→w5.cell? ⟨w.heap.size,0,none⟩=some (.pointer (some ⟨bc,0,none⟩))∧w5.cell? ⟨w.heap.size+1,1,none⟩=some (.string s.s) from fun w5 hs=>⟨(hs.cell (o:=0) (by omega) Hm0.out).trans hb3,(hs.cell (o:=1) (by omega) Hm1.out).trans hb31⟩)
  have HDD:=zh (Since.drew (ChkM bc vS bs) w4)
  clear hV hz hsz
  all_goals go_wp2_with fail
  go_region_held3 (fun w':World=>w'.cell? ⟨w.heap.size,0,none⟩=some (.pointer (some ⟨bc,0,none⟩))∧w'.cell? ⟨w.heap.size+1,1,none⟩=some (.string s.s)) (first|exact hT0|exact hT5|exact hT6) (first
   |(go_at_call 174;refine (typedFind_any _ base bc vf cf vS bs st4 (HC3.out.since (Since.drew (fun _=>False) w4) (fun _ e=>e.elim)) H8.out HL.out.1 HL.out.2 s.s).mono ?_;rintro en w5 ⟨t5,st5,rfl,hc5,hs5,hk5⟩;have hT5:=HTT.out w5 (HDD.out.trans (hs5.mono (fun k e=>Or.inl e))))
   |(go_at_call 173;refine (typedWant_any w5 base bc vf cf vS bs st5 hc5 t5 5).mono ?_;rintro en w6 ⟨rfl,hc6,hs6⟩;have hT6:=HTT.out w6 ((HDD.out.trans (hs5.mono (fun k e=>Or.inl e))).trans (hs6.mono (fun k e=>Or.inl e)))))
  have HS6:=zh ((HDD.out.trans (hs5.mono (G:=ChkM bc vS bs) (fun k e=>Or.inl e))).trans (hs6.mono (fun k e=>Or.inl e)))
  have HE:=zh (find_end (fun u=>u=5) H8.out hk5)
  have hb6:=hT6.1
  have HC6:=zh hc6
  have HQ:=zh (Hdoor.out w6 vS bs _ hc6 (HS3.out.trans HS6.out) (fun k hk=>Or.inl hk) (HE.out.cast HR2.out.symm))
  clear hc5 hs5 hk5 hT5 hc6 hs6 hT6
  all_goals go_wp2_with fail
  exact stmtDoor HC6.out hb6 HQ.out
 ·
  have hz':(st4.fault==0)=false:=by simp [hz]
  obtain ⟨hV,hG⟩:=HW.out.err H8.out hz
  have HQ:=zh (Hdoor.out w4 vS bs _ HC3.out HS3.out (fun k hk=>Or.inl hk) (StmtEnd.fail H8.out (by rw [HR.out,hV]) hz rfl hG))
  clear hV hG hz
  all_goals go_wp2_with fail
  exact stmtDoor HC3.out hb3 HQ.out
end Go.Proofs.YtkopjgnjflhkeaaGreatDoor

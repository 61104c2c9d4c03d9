import Derived.Test.YtkopjgnjflhkeaaGreatDoorQZN
namespace Go.Proofs.YtkopjgnjflhkeaaGreatDoor
open Go.RowKit Go.Pst
set_option linter.unusedVariables false
set_option linter.unusedSimpArgs false
theorem val_end {st S:Chk} {V:Except Int Int} {t:Int} (P:Int→Prop) [DecidablePred P] (h0:st.fault=0) (h:KindEnd st V t S):
 StmtEnd st (match (generalizing:=false) V with| .error e=> .error e| .ok t=>if P t then .error 9 else .ok st.G) (if P t then S.bad 9 else S):=by
 cases V with
 |error e=>
  obtain ⟨q1,q2,q3,q4⟩:=h
  have:(if P t then S.bad 9 else S).fault=e∧(if P t then S.bad 9 else S).G=st.G:=by
   split
   ·
    exact ⟨by unfold Chk.bad;rw [if_neg (by rw [q2];exact q1)];exact q2,q3⟩
   ·
    exact ⟨q2,q3⟩
  exact ⟨SameG.of this.2,fun e=>absurd h0 e,fun _=>⟨q1,this.1⟩⟩
 |ok u=>
  obtain ⟨rfl,rfl⟩:=h
  exact bad_stmt S h0 (P t)
theorem let_end {st S S':Chk} {V:Except Int Int} {t:Int} {s:ByteArray} (h0:st.fault=0) (hp:0<st.G.length) (h:KindEnd st V t S) (hd:DeclPost S s t S'):
 StmtEnd st (match (generalizing:=false) V with| .error e=> .error e| .ok t=>declT st.G s t) S':=by
 cases V with
 |error e=>
  obtain ⟨q1,q2,q3,q4⟩:=h
  obtain ⟨⟨g',h1⟩,h2,h3,h4,h5⟩:=hd
  refine ⟨⟨?_,?_⟩,fun e=>absurd h0 e,fun _=>⟨q1,?_⟩⟩
  ·
   rw [h1,q3];simp;omega
  ·
   rw [h1,q3];rfl
  ·
   rw [h4 (by rw [q2];exact q1),q2]
 |ok u=>
  obtain ⟨rfl,rfl⟩:=h
  exact hd.stmt hp
theorem KindEnd.same {st S:Chk} {V:Except Int Int} {t:Int} (h:KindEnd st V t S) (h0:S.fault=0):V= .ok t∧S=st:=by
 cases V with
 |error e=>exact absurd (h.2.1.symm.trans h0) h.1
 |ok u=>obtain ⟨rfl,rfl⟩:=h;exact ⟨rfl,rfl⟩
theorem KindEnd.err {st S:Chk} {V:Except Int Int} {t:Int} (h:KindEnd st V t S) (hs:st.fault=0) (h0:S.fault≠0):V= .error S.fault∧S.G=st.G:=by
 cases V with
 |error e=>exact ⟨by rw [h.2.1],h.2.2.1⟩
 |ok u=>obtain ⟨-,rfl⟩:=h;exact absurd hs h0
theorem KindEnd.G_eq {st S:Chk} {V:Except Int Int} {t:Int} (h:KindEnd st V t S):S.G=st.G:=by
 cases V with
 |error e=>exact h.2.2.1
 |ok u=>obtain ⟨-,rfl⟩:=h;rfl
theorem StmtEnd.fail {st S:Chk} {R:Except Int (List Scope)} {e:Int} (h0:st.fault=0) (hR:R= .error e) (he:e≠0) (hS:S.fault=e) (hG:S.G=st.G):StmtEnd st R S:=
 ⟨SameG.of hG,fun e=>absurd h0 e,fun _=>by rw [hR];exact ⟨he,hS⟩⟩
set_option maxRecDepth 10000 in
set_option maxHeartbeats 4000000 in
theorem stmt_9 {fs:List PFunc} {dF:Nat} {res:Int} {base bc:Nat} {vf:Value} {cf:List Value} {d:Nat} (hS:StmtSaid fs dF res base bc vf cf d) (s:PStmt) (cs:List Value) (w:World) (vS:Value) (bs:List Nat) (st:Chk) (h:StmtIn fs dF res 0 w base bc vf cf vS bs st) (hr:rStmt (d+1) (· <base) w cs s) (hf:FitS (d+1) s)
 (h0:st.fault=0) (hk:s.kind=9) (hn: ¬((0≤exprsN s.kind∧exprsN s.kind≠s.exprs.length)∨2<s.exprs.length)) (hdeep:st.depth.toNat+1≤120):
 Calls Tryz.prog 137 #[.pointer (some ⟨bc,0,none⟩), .agg cs.toArray] w (StmtPost w base bc vf cf vS bs st (stmtT fs res (d+1) st.loops.toNat st.depth.toNat st.G s)):=by
 obtain ⟨v3,v4,v5,v6,rfl,⟨hI0,hI1,hI2⟩,r3,r4,r5,r6⟩:=hr
 obtain ⟨a3,c3,rfl⟩:=rSlice_shape r3
 obtain ⟨a4,c4,rfl⟩:=rSlice_shape r4
 obtain ⟨a5,c5,rfl⟩:=rSlice_shape r5
 obtain ⟨a6,c6,rfl⟩:=rSlice_shape r6
 obtain ⟨hd0,hd1,hd2,hd3,hd4⟩:=h.ok h0
 obtain ⟨kd,hkd⟩:=Int.eq_ofNat_of_zero_le hd0
 have hkd':st.depth.toNat=kd:=by omega
 have hlt:=h.at_.lb.2
 have hbase:=h.at_.lb.1
 have hbig:=h.at_.big
 have hgl:=h.laid.lt.2
 have c8:=h.at_.c8
 rw [h0] at c8
 have hcn:=h.laid.exprs 9 (by decide) (by decide)
 rw [show exprsN ((9:Nat):Int)=1 by decide] at hcn
 rw [hk,show exprsN (9:Int)=1 by decide] at hn
 have c7:=h.at_.c7
 have z7:=h.at_.z 7
 rw [hkd] at c7
 have hset:=h.at_.set 7 ((kd:Int)+1) {st with depth:=(kd:Int)+1} rfl (by decide) (by simp) (by simp) (by simp)
 have s7:Since (fun k=>k=bc) w (w.setCell ⟨bc,7,none⟩ (.int .i64 ((kd:Int)+1))):=Since.setCell w ⟨bc,7,none⟩ (.int .i64 ((kd:Int)+1))
 have hcn2:((w.alloc (.cells #[.pointer (some ⟨bc,0,none⟩)] 84)).alloc (.cells #[.int .i64 9, .string s.s, .string s.t, .slice a3 s.exprs.length c3, .slice a4 s.body.length c4, .slice a5 s.els.length c5, .slice a6 s.cases.length c6] 91)).cell? ⟨2,9,none⟩=some (.int .i64 1):=by
  rw [World.cell?_alloc_lt _ _ _ (show 2<_ by simp;omega),World.cell?_alloc_lt _ _ _ (show 2<_ by omega)]
  exact hcn
 rw [hk]
 obtain ⟨W2,hW2⟩: ∃ W2,W2=(((w.setCell ⟨bc,7,none⟩ (.int .i64 ((kd:Int)+1))).alloc (.cells #[.pointer (some ⟨bc,0,none⟩)] 84)).alloc (.cells #[.int .i64 9, .string s.s, .string s.t, .slice a3 s.exprs.length c3, .slice a4 s.body.length c4, .slice a5 s.els.length c5, .slice a6 s.cases.length c6] 91)):=⟨_,rfl⟩
 have sB:Since (fun _=>False) (w.setCell ⟨bc,7,none⟩ (.int .i64 ((kd:Int)+1))) W2:=by rw [hW2];exact (Since.alloc _ _ _).trans (Since.alloc _ _ _)
 have hC2:=hset.since sB (fun _ e=>e.elim)
 have HC2:=zh hC2
 have S7:=zh (s7.trans (sB.mono (G:=fun k=>k=bc) (fun _ e=>e.elim)))
 have hbx:W2.cell? ⟨w.heap.size,0,none⟩=some (.pointer (some ⟨bc,0,none⟩)):=by
  rw [hW2,World.cell?_alloc_lt _ _ _ (by simp)]
  exact (World.cell?_alloc_at _ _ _ _ (by simp)).trans rfl
 have hlW:w.heap.size<W2.heap.size:=by rw [hW2];simp;omega
 have hin2:ExprIn fs dF W2 base bc vf cf vS bs {st with depth:=(kd:Int)+1}:=
  ⟨hC2,h.laid.since S7.out (fun k e=>by rw [e];exact hbase) hbig,Good.kept (S7.out.keep.weaken (fun k _ hk e=>by omega)) h.funcs,by have:=h.len;show st.G.length≤_;omega,by have:=h.pos;show 0<st.G.length;omega,fun _=>by show 0≤(kd:Int)+1∧(kd:Int)+1≤120;omega⟩
 have hx2:rSlice 4 (rExpr d) (· <base) W2 [.slice a3 s.exprs.length c3] s.exprs:=Good.kept (S7.out.keep.weaken (fun k _ hk e=>by omega)) r3
 have hkn:((kd:Int)+1).toNat=kd+1:=by omega
 obtain ⟨x,hxe⟩: ∃ x,s.exprs=[x]:=by
  match hq:s.exprs,(show s.exprs.length=1 by omega) with
  |[x],_=>exact ⟨x,rfl⟩
 obtain ⟨⟨f1,f2⟩,-⟩:=hf
 have hfx:FitX d x:=f2 x (by rw [hxe];simp)
 have r3':=r3
 rw [hxe] at r3'
 obtain ⟨b,off,cap,ax,cx,hv,hSb,hbl,x0,x1,x2,x3,hrx⟩:=rExprs_get r3' 0 (by simp)
 obtain ⟨rfl,-,rfl⟩:=Value.slice.inj hv
 simp only [List.getElem_cons_zero,Nat.zero_mul,Nat.add_zero] at x0 x1 x2 x3 hrx
 have hmm:=fun k (hk:ChkM bc vS bs k)=>h.at_.mem_lt hk
 have hbn: ¬ChkM bc vS bs b:=fun f=>by have:=(hmm _ f).1;omega
 have hbn0:b≠bc:=fun e=>hbn (Or.inl e)
 have hwn: ¬ChkM bc vS bs w.heap.size:=fun f=>by have:=(hmm _ f).2;omega
 have hwn1: ¬ChkM bc vS bs (w.heap.size+1):=fun f=>by have:=(hmm _ f).2;omega
 have hin3:=hin2.new (Since.drew (fun _=>False) W2)
 have hrx3:rExpr d (· <base) W2.drew _ x:=Good.kept ((S7.out.trans (Since.drew (fun k=>k=bc) W2)).keep.weaken (fun k _ hk e=>by omega)) hrx
 have hrx2:rExpr d (· <base) W2 _ x:=Good.kept (S7.out.keep.weaken (fun k _ hk e=>by omega)) hrx
 have Hrx2:=zh hrx2
 have Hin3:=zh hin3
 have Hin2:=zh hin2
 have Hrx3:=zh hrx3
 have Hfx:=zh hfx
 have hval:=typedValued_any hin3 hrx3 hfx
 have hW3:W2.cell? ⟨w.heap.size+1,3,none⟩=some (.slice (some ⟨b,off,none⟩) s.exprs.length c3):=by rw [hW2];exact (World.cell?_alloc_at _ _ _ _ (by simp)).trans rfl
 have hW1:W2.cell? ⟨w.heap.size+1,1,none⟩=some (.string s.s):=by rw [hW2];exact (World.cell?_alloc_at _ _ _ _ (by simp)).trans rfl
 have hlW1:w.heap.size+1<W2.heap.size:=by rw [hW2];simp
 have hbW:b<W2.heap.size:=by omega
 have tx:=fun o=>(S7.out.cell (o:=o) hbl hbn0)
 have hS0:(fun w':World=>w'.cell? ⟨w.heap.size,0,none⟩=some (.pointer (some ⟨bc,0,none⟩))∧w'.cell? ⟨w.heap.size+1,3,none⟩=some (.slice (some ⟨b,off,none⟩) s.exprs.length c3)∧w'.cell? ⟨b,off,none⟩=some (.int .i64 x.kind)∧w'.cell? ⟨b,off+1,none⟩=some (.int .i64 x.n)∧w'.cell? ⟨b,off+2,none⟩=some (.string x.s)∧w'.cell? ⟨b,off+3,none⟩=some (.slice ax x.args.length cx)∧w'.cell? ⟨w.heap.size+1,1,none⟩=some (.string s.s)) W2:=⟨hbx,hW3,(tx _).trans x0,(tx _).trans x1,(tx _).trans x2,(tx _).trans x3,hW1⟩
 have HSS:=zh (show ∀ w3,Since (ChkM bc vS bs) W2 w3→(fun w':World=>w'.cell? ⟨w.heap.size,0,none⟩=some (.pointer (some ⟨bc,0,none⟩))∧w'.cell? ⟨w.heap.size+1,3,none⟩=some (.slice (some ⟨b,off,none⟩) s.exprs.length c3)∧w'.cell? ⟨b,off,none⟩=some (.int .i64 x.kind)∧w'.cell? ⟨b,off+1,none⟩=some (.int .i64 x.n)∧w'.cell? ⟨b,off+2,none⟩=some (.string x.s)∧w'.cell? ⟨b,off+3,none⟩=some (.slice ax x.args.length cx)∧w'.cell? ⟨w.heap.size+1,1,none⟩=some (.string s.s)) w3 from fun w3 hs=>⟨(hs.cell (o:=0) hlW hwn).trans hS0.1,(hs.cell (o:=3) hlW1 hwn1).trans hS0.2.1,(hs.cell (o:=off) hbW hbn).trans hS0.2.2.1,(hs.cell (o:=off+1) hbW hbn).trans hS0.2.2.2.1,(hs.cell (o:=off+2) hbW hbn).trans hS0.2.2.2.2.1,(hs.cell (o:=off+3) hbW hbn).trans hS0.2.2.2.2.2.1,(hs.cell (o:=1) hlW1 hwn1).trans hS0.2.2.2.2.2.2⟩)
 have HD:=zh (Since.drew (ChkM bc vS bs) W2)
 have Hm0:=zh hwn
 have Hm1:=zh hwn1
 have HI1:=zh hI1
 have HG:=zh (show ∃ g r,st.G=g::r∧r.length≤100000 by
  have h1:=h.pos
  have h2:=h.len
  cases hg:st.G with
  |nil=>rw [hg] at h1;simp at h1
  |cons g r=>rw [hg] at h2;simp at h2;exact ⟨g,r,rfl,by omega⟩)
 have HL:=zh (show st.G.length≤200000∧0<st.G.length from ⟨by have:=h.len;omega,by have:=h.pos;omega⟩)
 simp only [hkn] at hval
 have Hval:=zh hval
 have d4:((1:Int) !=(s.exprs.length:Int))=false:=by rw [bne_eq_false_iff_eq];omega
 have d5:decide ((s.exprs.length:Int) > 2)=false:=decide_eq_false (by omega)
 have hl0:(0:Int)<(s.exprs.length:Int):=by omega
 have hl1:0<s.exprs.length:=by omega
 have HR:=zh (show stmtT fs res (d+1) st.loops.toNat st.depth.toNat st.G s=(match valuedT (exprT fs st.G d (kd+1) x) with| .error e=> .error e| .ok t=>if 3<t then .error 9 else .ok st.G) by
  unfold stmtT
  rw [hk,if_neg (by omega),show exprsN (9:Int)=1 by decide,if_neg hn,if_neg (by omega),hkd',hxe]
  simp
  try rfl)
 obtain ⟨R,hR⟩: ∃ R,R=stmtT fs res (d+1) st.loops.toNat st.depth.toNat st.G s:=⟨_,rfl⟩
 rw [←hR] at HR ⊢
 have Hbx:=zh hbx
 have H0:=zh h0
 have Hkd:=zh hkd
 have Hwb:=zh (show w.heap.size≠bc by omega)
 have H:=zh h
 have Hnm:=zh (show ∀ k,ChkM bc vS bs k→k<w.heap.size from fun k hk=>(h.at_.mem_lt hk).2)
 have hw7:IntKind.i64.wrap ((kd:Int)+1)=(kd:Int)+1:=IntWalk.i64_in _ (by omega)
 have d6:decide ((kd:Int)+1 > 120)=false:=decide_eq_false (by omega)
 have Hkb:=zh (show (kd:Int)<200 by omega)
 have Hdoor:=zh (show ∀ w3 vS3 bs3 st3,ChkAt w3 base bc vf cf vS3 bs3 st3→Since (ChkM bc vS bs) W2 w3→ChkAt.NewM w bc vS vS3 bs bs3→StmtEnd {st with depth:=(kd:Int)+1} R st3→
  ∀ w4,ChkAt w4 base bc vf cf vS3 bs3 {st3 with depth:=IntKind.i64.wrap (st3.depth - 1)}→Since (fun k=>k=bc) w3 w4→StmtPost w base bc vf cf vS bs st R (.returned (.tuple #[])) w4 from fun w3 vS3 bs3 st3 h1 h2 h3 h4 w4 h5 h6=>
  ⟨rfl,vS3,bs3,_,h5,h3.since ((S7.out.mono (fun k e=>Or.inl e)).trans h2) (h6.mono (fun k e=>Or.inl e)),h3,h4.deep (fun e=>by rw [e,Hkd.out,show (kd:Int)+1 - 1=(kd:Int) by omega];exact IntWalk.i64_in _ (by have:=Hkb.out;omega))⟩)
 have H8:=zh (show ({st with depth:=(kd:Int)+1}:Chk).fault=0 from h0)
 obtain ⟨stn,hstn⟩: ∃ stn:Chk,stn={st with depth:=(kd:Int)+1}:=⟨_,rfl⟩
 have Hstn:=zh (show stn.G=st.G∧stn.depth=(kd:Int)+1 by rw [hstn];exact ⟨rfl,rfl⟩)
 rw [←hstn] at H8 Hval Hdoor Hin3 Hin2 HC2
 rw [←Hstn.out.1] at HR HG HL Hval
 clear hset s7 sB hC2 hcn hd0 hd1 hd2 hd3 hd4 hdeep hkd hkd' hR h h0 hn hbx hval hin2 hx2 hkn hxe r3' hv hrx hfx hmm hbn hbn0 hwn hwn1 hin3 hrx3 hrx2 hW1 hW3 tx hstn
 subst hW2
 go_enter_defers Tryz.func137,Tryz.ntmps137
 go_wp2_with fail
 go_region_held3 (fun w':World=>w'.cell? ⟨w.heap.size,0,none⟩=some (.pointer (some ⟨bc,0,none⟩))∧w'.cell? ⟨w.heap.size+1,3,none⟩=some (.slice (some ⟨b,off,none⟩) s.exprs.length c3)∧w'.cell? ⟨b,off,none⟩=some (.int .i64 x.kind)∧w'.cell? ⟨b,off+1,none⟩=some (.int .i64 x.n)∧w'.cell? ⟨b,off+2,none⟩=some (.string x.s)∧w'.cell? ⟨b,off+3,none⟩=some (.slice ax x.args.length cx)∧w'.cell? ⟨w.heap.size+1,1,none⟩=some (.string s.s)) (first|exact hS0|exact hS2) (first|(go_at_call 172;refine Hval.out.mono ?_;rintro en w3 ⟨t,st3,rfl,hc3,hs3,ha3,hk3⟩;have hS2:=HSS.out w3 (HD.out.trans (hs3.mono (fun k e=>Or.inl e)))))
 have HS3:=zh (HD.out.trans (hs3.mono (G:=ChkM bc vS bs) (fun k e=>Or.inl e)))
 have HC3:=zh hc3
 have HE:=zh (val_end (fun u=>3<u) H8.out (hk3 H8.out))
 have hb3:=hS2.1
 clear hc3 hs3 ha3 hk3 hS2
 by_cases ht:3<t
 ·
  have ht':decide (t > 3)=true:=decide_eq_true ht
  have Ht:=zh ht
  clear ht
  all_goals go_wp2_with fail
  refine (typedWrong_any w3 base bc vf cf vS bs st3 HC3.out 9).mono ?_
  rintro en w4 ⟨rfl,hc4,hs4⟩
  have HC4:=zh hc4
  have hb4:=(hs4.cell (o:=0) (by have:=HS3.out.size;omega) Hwb.out).trans hb3
  have HQ:=zh (Hdoor.out w4 vS bs _ hc4 (HS3.out.trans (hs4.mono (fun k e=>Or.inl e))) (fun k hk=>Or.inl hk) (by have:=HE.out;rw [if_pos Ht.out] at this;exact this.cast HR.out.symm))
  clear hc4 hs4
  go_wp2_with fail
  exact stmtDoor HC4.out hb4 HQ.out
 ·
  have ht':decide (t > 3)=false:=decide_eq_false ht
  have HQ:=zh (Hdoor.out w3 vS bs _ HC3.out HS3.out (fun k hk=>Or.inl hk) (by have:=HE.out;rw [if_neg ht] at this;exact this.cast HR.out.symm))
  clear ht
  all_goals go_wp2_with fail
  exact stmtDoor HC3.out hb3 HQ.out
set_option maxRecDepth 10000 in
set_option maxHeartbeats 4000000 in
theorem stmt_1 {fs:List PFunc} {dF:Nat} {res:Int} {base bc:Nat} {vf:Value} {cf:List Value} {d:Nat} (hS:StmtSaid fs dF res base bc vf cf d) (s:PStmt) (cs:List Value) (w:World) (vS:Value) (bs:List Nat) (st:Chk) (h:StmtIn fs dF res 0 w base bc vf cf vS bs st) (hr:rStmt (d+1) (· <base) w cs s) (hf:FitS (d+1) s)
 (h0:st.fault=0) (hk:s.kind=1) (hn: ¬((0≤exprsN s.kind∧exprsN s.kind≠s.exprs.length)∨2<s.exprs.length)) (hdeep:st.depth.toNat+1≤120):
 Calls Tryz.prog 137 #[.pointer (some ⟨bc,0,none⟩), .agg cs.toArray] w (StmtPost w base bc vf cf vS bs st (stmtT fs res (d+1) st.loops.toNat st.depth.toNat st.G s)):=by
 obtain ⟨v3,v4,v5,v6,rfl,⟨hI0,hI1,hI2⟩,r3,r4,r5,r6⟩:=hr
 obtain ⟨a3,c3,rfl⟩:=rSlice_shape r3
 obtain ⟨a4,c4,rfl⟩:=rSlice_shape r4
 obtain ⟨a5,c5,rfl⟩:=rSlice_shape r5
 obtain ⟨a6,c6,rfl⟩:=rSlice_shape r6
 obtain ⟨hd0,hd1,hd2,hd3,hd4⟩:=h.ok h0
 obtain ⟨kd,hkd⟩:=Int.eq_ofNat_of_zero_le hd0
 have hkd':st.depth.toNat=kd:=by omega
 have hlt:=h.at_.lb.2
 have hbase:=h.at_.lb.1
 have hbig:=h.at_.big
 have hgl:=h.laid.lt.2
 have c8:=h.at_.c8
 rw [h0] at c8
 have hcn:=h.laid.exprs 1 (by decide) (by decide)
 rw [show exprsN ((1:Nat):Int)=1 by decide] at hcn
 rw [hk,show exprsN (1:Int)=1 by decide] at hn
 have c7:=h.at_.c7
 have z7:=h.at_.z 7
 rw [hkd] at c7
 have hset:=h.at_.set 7 ((kd:Int)+1) {st with depth:=(kd:Int)+1} rfl (by decide) (by simp) (by simp) (by simp)
 have s7:Since (fun k=>k=bc) w (w.setCell ⟨bc,7,none⟩ (.int .i64 ((kd:Int)+1))):=Since.setCell w ⟨bc,7,none⟩ (.int .i64 ((kd:Int)+1))
 have hcn2:((w.alloc (.cells #[.pointer (some ⟨bc,0,none⟩)] 84)).alloc (.cells #[.int .i64 1, .string s.s, .string s.t, .slice a3 s.exprs.length c3, .slice a4 s.body.length c4, .slice a5 s.els.length c5, .slice a6 s.cases.length c6] 91)).cell? ⟨2,1,none⟩=some (.int .i64 1):=by
  rw [World.cell?_alloc_lt _ _ _ (show 2<_ by simp;omega),World.cell?_alloc_lt _ _ _ (show 2<_ by omega)]
  exact hcn
 rw [hk]
 obtain ⟨W2,hW2⟩: ∃ W2,W2=(((w.setCell ⟨bc,7,none⟩ (.int .i64 ((kd:Int)+1))).alloc (.cells #[.pointer (some ⟨bc,0,none⟩)] 84)).alloc (.cells #[.int .i64 1, .string s.s, .string s.t, .slice a3 s.exprs.length c3, .slice a4 s.body.length c4, .slice a5 s.els.length c5, .slice a6 s.cases.length c6] 91)):=⟨_,rfl⟩
 have sB:Since (fun _=>False) (w.setCell ⟨bc,7,none⟩ (.int .i64 ((kd:Int)+1))) W2:=by rw [hW2];exact (Since.alloc _ _ _).trans (Since.alloc _ _ _)
 have hC2:=hset.since sB (fun _ e=>e.elim)
 have HC2:=zh hC2
 have S7:=zh (s7.trans (sB.mono (G:=fun k=>k=bc) (fun _ e=>e.elim)))
 have hbx:W2.cell? ⟨w.heap.size,0,none⟩=some (.pointer (some ⟨bc,0,none⟩)):=by
  rw [hW2,World.cell?_alloc_lt _ _ _ (by simp)]
  exact (World.cell?_alloc_at _ _ _ _ (by simp)).trans rfl
 have hlW:w.heap.size<W2.heap.size:=by rw [hW2];simp;omega
 have hin2:ExprIn fs dF W2 base bc vf cf vS bs {st with depth:=(kd:Int)+1}:=
  ⟨hC2,h.laid.since S7.out (fun k e=>by rw [e];exact hbase) hbig,Good.kept (S7.out.keep.weaken (fun k _ hk e=>by omega)) h.funcs,by have:=h.len;show st.G.length≤_;omega,by have:=h.pos;show 0<st.G.length;omega,fun _=>by show 0≤(kd:Int)+1∧(kd:Int)+1≤120;omega⟩
 have hx2:rSlice 4 (rExpr d) (· <base) W2 [.slice a3 s.exprs.length c3] s.exprs:=Good.kept (S7.out.keep.weaken (fun k _ hk e=>by omega)) r3
 have hkn:((kd:Int)+1).toNat=kd+1:=by omega
 obtain ⟨x,hxe⟩: ∃ x,s.exprs=[x]:=by
  match hq:s.exprs,(show s.exprs.length=1 by omega) with
  |[x],_=>exact ⟨x,rfl⟩
 obtain ⟨⟨f1,f2⟩,-⟩:=hf
 have hfx:FitX d x:=f2 x (by rw [hxe];simp)
 have r3':=r3
 rw [hxe] at r3'
 obtain ⟨b,off,cap,ax,cx,hv,hSb,hbl,x0,x1,x2,x3,hrx⟩:=rExprs_get r3' 0 (by simp)
 obtain ⟨rfl,-,rfl⟩:=Value.slice.inj hv
 simp only [List.getElem_cons_zero,Nat.zero_mul,Nat.add_zero] at x0 x1 x2 x3 hrx
 have hmm:=fun k (hk:ChkM bc vS bs k)=>h.at_.mem_lt hk
 have hbn: ¬ChkM bc vS bs b:=fun f=>by have:=(hmm _ f).1;omega
 have hbn0:b≠bc:=fun e=>hbn (Or.inl e)
 have hwn: ¬ChkM bc vS bs w.heap.size:=fun f=>by have:=(hmm _ f).2;omega
 have hwn1: ¬ChkM bc vS bs (w.heap.size+1):=fun f=>by have:=(hmm _ f).2;omega
 have hin3:=hin2.new (Since.drew (fun _=>False) W2)
 have hrx3:rExpr d (· <base) W2.drew _ x:=Good.kept ((S7.out.trans (Since.drew (fun k=>k=bc) W2)).keep.weaken (fun k _ hk e=>by omega)) hrx
 have hrx2:rExpr d (· <base) W2 _ x:=Good.kept (S7.out.keep.weaken (fun k _ hk e=>by omega)) hrx
 have Hrx2:=zh hrx2
 have Hin3:=zh hin3
 have Hin2:=zh hin2
 have Hrx3:=zh hrx3
 have Hfx:=zh hfx
 have hval:=typedValued_any hin3 hrx3 hfx
 have hW3:W2.cell? ⟨w.heap.size+1,3,none⟩=some (.slice (some ⟨b,off,none⟩) s.exprs.length c3):=by rw [hW2];exact (World.cell?_alloc_at _ _ _ _ (by simp)).trans rfl
 have hW1:W2.cell? ⟨w.heap.size+1,1,none⟩=some (.string s.s):=by rw [hW2];exact (World.cell?_alloc_at _ _ _ _ (by simp)).trans rfl
 have hlW1:w.heap.size+1<W2.heap.size:=by rw [hW2];simp
 have hbW:b<W2.heap.size:=by omega
 have tx:=fun o=>(S7.out.cell (o:=o) hbl hbn0)
 have hS0:(fun w':World=>w'.cell? ⟨w.heap.size,0,none⟩=some (.pointer (some ⟨bc,0,none⟩))∧w'.cell? ⟨w.heap.size+1,3,none⟩=some (.slice (some ⟨b,off,none⟩) s.exprs.length c3)∧w'.cell? ⟨b,off,none⟩=some (.int .i64 x.kind)∧w'.cell? ⟨b,off+1,none⟩=some (.int .i64 x.n)∧w'.cell? ⟨b,off+2,none⟩=some (.string x.s)∧w'.cell? ⟨b,off+3,none⟩=some (.slice ax x.args.length cx)∧w'.cell? ⟨w.heap.size+1,1,none⟩=some (.string s.s)) W2:=⟨hbx,hW3,(tx _).trans x0,(tx _).trans x1,(tx _).trans x2,(tx _).trans x3,hW1⟩
 have HSS:=zh (show ∀ w3,Since (ChkM bc vS bs) W2 w3→(fun w':World=>w'.cell? ⟨w.heap.size,0,none⟩=some (.pointer (some ⟨bc,0,none⟩))∧w'.cell? ⟨w.heap.size+1,3,none⟩=some (.slice (some ⟨b,off,none⟩) s.exprs.length c3)∧w'.cell? ⟨b,off,none⟩=some (.int .i64 x.kind)∧w'.cell? ⟨b,off+1,none⟩=some (.int .i64 x.n)∧w'.cell? ⟨b,off+2,none⟩=some (.string x.s)∧w'.cell? ⟨b,off+3,none⟩=some (.slice ax x.args.length cx)∧w'.cell? ⟨w.heap.size+1,1,none⟩=some (.string s.s)) w3 from fun w3 hs=>⟨(hs.cell (o:=0) hlW hwn).trans hS0.1,(hs.cell (o:=3) hlW1 hwn1).trans hS0.2.1,(hs.cell (o:=off) hbW hbn).trans hS0.2.2.1,(hs.cell (o:=off+1) hbW hbn).trans hS0.2.2.2.1,(hs.cell (o:=off+2) hbW hbn).trans hS0.2.2.2.2.1,(hs.cell (o:=off+3) hbW hbn).trans hS0.2.2.2.2.2.1,(hs.cell (o:=1) hlW1 hwn1).trans hS0.2.2.2.2.2.2⟩)
 have HD:=zh (Since.drew (ChkM bc vS bs) W2)
 have Hm0:=zh hwn
 have Hm1:=zh hwn1
 have HI1:=zh hI1
 have HG:=zh (show ∃ g r,st.G=g::r∧r.length≤100000 by
  have h1:=h.pos
  have h2:=h.len
  cases hg:st.G with
  |nil=>rw [hg] at h1;simp at h1
  |cons g r=>rw [hg] at h2;simp at h2;exact ⟨g,r,rfl,by omega⟩)
 have HL:=zh (show st.G.length≤200000∧0<st.G.length from ⟨by have:=h.len;omega,by have:=h.pos;omega⟩)
 simp only [hkn] at hval
 have Hval:=zh hval
 have d4:((1:Int) !=(s.exprs.length:Int))=false:=by rw [bne_eq_false_iff_eq];omega
 have d5:decide ((s.exprs.length:Int) > 2)=false:=decide_eq_false (by omega)
 have hl0:(0:Int)<(s.exprs.length:Int):=by omega
 have hl1:0<s.exprs.length:=by omega
 have HR:=zh (show stmtT fs res (d+1) st.loops.toNat st.depth.toNat st.G s=(match valuedT (exprT fs st.G d (kd+1) x) with| .error e=> .error e| .ok t=>declT st.G s.s t) by
  unfold stmtT
  rw [hk,if_neg (by omega),show exprsN (1:Int)=1 by decide,if_neg hn,if_neg (by omega),hkd',hxe]
  simp
  try rfl)
 obtain ⟨R,hR⟩: ∃ R,R=stmtT fs res (d+1) st.loops.toNat st.depth.toNat st.G s:=⟨_,rfl⟩
 rw [←hR] at HR ⊢
 have Hbx:=zh hbx
 have H0:=zh h0
 have Hkd:=zh hkd
 have Hwb:=zh (show w.heap.size≠bc by omega)
 have H:=zh h
 have Hnm:=zh (show ∀ k,ChkM bc vS bs k→k<w.heap.size from fun k hk=>(h.at_.mem_lt hk).2)
 have hw7:IntKind.i64.wrap ((kd:Int)+1)=(kd:Int)+1:=IntWalk.i64_in _ (by omega)
 have d6:decide ((kd:Int)+1 > 120)=false:=decide_eq_false (by omega)
 have Hkb:=zh (show (kd:Int)<200 by omega)
 have Hdoor:=zh (show ∀ w3 vS3 bs3 st3,ChkAt w3 base bc vf cf vS3 bs3 st3→Since (ChkM bc vS bs) W2 w3→ChkAt.NewM w bc vS vS3 bs bs3→StmtEnd {st with depth:=(kd:Int)+1} R st3→
  ∀ w4,ChkAt w4 base bc vf cf vS3 bs3 {st3 with depth:=IntKind.i64.wrap (st3.depth - 1)}→Since (fun k=>k=bc) w3 w4→StmtPost w base bc vf cf vS bs st R (.returned (.tuple #[])) w4 from fun w3 vS3 bs3 st3 h1 h2 h3 h4 w4 h5 h6=>
  ⟨rfl,vS3,bs3,_,h5,h3.since ((S7.out.mono (fun k e=>Or.inl e)).trans h2) (h6.mono (fun k e=>Or.inl e)),h3,h4.deep (fun e=>by rw [e,Hkd.out,show (kd:Int)+1 - 1=(kd:Int) by omega];exact IntWalk.i64_in _ (by have:=Hkb.out;omega))⟩)
 have H8:=zh (show ({st with depth:=(kd:Int)+1}:Chk).fault=0 from h0)
 obtain ⟨stn,hstn⟩: ∃ stn:Chk,stn={st with depth:=(kd:Int)+1}:=⟨_,rfl⟩
 have Hstn:=zh (show stn.G=st.G∧stn.depth=(kd:Int)+1 by rw [hstn];exact ⟨rfl,rfl⟩)
 rw [←hstn] at H8 Hval Hdoor Hin3 Hin2 HC2
 rw [←Hstn.out.1] at HR HG HL Hval
 clear hset s7 sB hC2 hcn hd0 hd1 hd2 hd3 hd4 hdeep hkd hkd' hR h h0 hn hbx hval hin2 hx2 hkn hxe r3' hv hrx hfx hmm hbn hbn0 hwn hwn1 hin3 hrx3 hrx2 hW1 hW3 tx hstn
 subst hW2
 go_enter_defers Tryz.func137,Tryz.ntmps137
 go_wp2_with fail
 go_region_held3 (fun w':World=>w'.cell? ⟨w.heap.size,0,none⟩=some (.pointer (some ⟨bc,0,none⟩))∧w'.cell? ⟨w.heap.size+1,3,none⟩=some (.slice (some ⟨b,off,none⟩) s.exprs.length c3)∧w'.cell? ⟨b,off,none⟩=some (.int .i64 x.kind)∧w'.cell? ⟨b,off+1,none⟩=some (.int .i64 x.n)∧w'.cell? ⟨b,off+2,none⟩=some (.string x.s)∧w'.cell? ⟨b,off+3,none⟩=some (.slice ax x.args.length cx)∧w'.cell? ⟨w.heap.size+1,1,none⟩=some (.string s.s)) (first|exact hS0|exact hS2|exact hS4) (first|(go_at_call 172;refine Hval.out.mono ?_;rintro en w3 ⟨t,st3,rfl,hc3,hs3,ha3,hk3⟩;have hS2:=HSS.out w3 (HD.out.trans (hs3.mono (fun k e=>Or.inl e))))|(go_at_call 85;obtain ⟨g,r,hgr,hrl⟩:=HG.out;refine (typedDeclare_any w3 base bc vf cf vS bs st3 hc3 g r ((hk3 H8.out).G_eq.trans hgr) hrl s.s HI1.out t).mono ?_;rintro en w4 ⟨rfl,st4,hc4,hs4,hd4⟩;have hS4:=HSS.out w4 ((HD.out.trans (hs3.mono (fun k e=>Or.inl e))).trans hs4)))
 have HS4:=zh ((HD.out.trans (hs3.mono (G:=ChkM bc vS bs) (fun k e=>Or.inl e))).trans hs4)
 have HC4:=zh hc4
 have HE:=zh (let_end H8.out HL.out.2 (hk3 H8.out) hd4)
 have hb4:=hS4.1
 have HQ:=zh (Hdoor.out w4 vS bs _ HC4.out HS4.out (fun k hk=>Or.inl hk) (HE.out.cast HR.out.symm))
 clear hc3 hs3 ha3 hk3 hS2 hc4 hs4 hd4 hS4
 all_goals go_wp2_with fail
 exact stmtDoor HC4.out hb4 HQ.out
end Go.Proofs.YtkopjgnjflhkeaaGreatDoor

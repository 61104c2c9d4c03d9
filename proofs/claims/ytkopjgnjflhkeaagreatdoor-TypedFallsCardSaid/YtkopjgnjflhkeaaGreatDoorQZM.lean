import Derived.Test.YtkopjgnjflhkeaaGreatDoorQZL
namespace Go.Proofs.YtkopjgnjflhkeaaGreatDoor
open Go.RowKit Go.Pst
set_option linter.unusedVariables false
set_option linter.unusedSimpArgs false
set_option maxRecDepth 10000 in
set_option maxHeartbeats 4000000 in
theorem stmt_3 {fs:List PFunc} {dF:Nat} {res:Int} {base bc:Nat} {vf:Value} {cf:List Value} {d:Nat} (hS:StmtSaid fs dF res base bc vf cf d) (s:PStmt) (cs:List Value) (w:World) (vS:Value) (bs:List Nat) (st:Chk) (h:StmtIn fs dF res 0 w base bc vf cf vS bs st) (hr:rStmt (d+1) (· <base) w cs s) (hf:FitS (d+1) s)
 (h0:st.fault=0) (hk:s.kind=3) (hn: ¬((0≤exprsN s.kind∧exprsN s.kind≠s.exprs.length)∨2<s.exprs.length)) (hdeep:st.depth.toNat+1≤120):
 Calls Tryz.prog 137 #[.pointer (some ⟨bc,0,none⟩), .agg cs.toArray] w (StmtPost w base bc vf cf vS bs st (stmtT fs res (d+1) st.loops.toNat st.depth.toNat st.G s)):=by
 obtain ⟨v3,v4,v5,v6,rfl,⟨hI0,hI1,hI2⟩,r3,r4,r5,r6⟩:=hr
 obtain ⟨a3,c3,rfl⟩:=rSlice_shape r3
 obtain ⟨a4,c4,rfl⟩:=rSlice_shape r4
 obtain ⟨a5,c5,rfl⟩:=rSlice_shape r5
 obtain ⟨a6,c6,rfl⟩:=rSlice_shape r6
 obtain ⟨hd0,hd1,hd2,hd3,hd4⟩:=h.ok h0
 obtain ⟨kd,hkd⟩:=Int.eq_ofNat_of_zero_le hd0
 have hkd':st.depth.toNat=kd:=by omega
 have hlt:=h.at_.lb.2
 have hbase:=h.at_.lb.1
 have hbig:=h.at_.big
 have hgl:=h.laid.lt.2
 have c8:=h.at_.c8
 rw [h0] at c8
 have hcn:=h.laid.exprs 3 (by decide) (by decide)
 rw [show exprsN ((3:Nat):Int)=2 by decide] at hcn
 rw [hk,show exprsN (3:Int)=2 by decide] at hn
 have c7:=h.at_.c7
 have z7:=h.at_.z 7
 rw [hkd] at c7
 have hset:=h.at_.set 7 ((kd:Int)+1) {st with depth:=(kd:Int)+1} rfl (by decide) (by simp) (by simp) (by simp)
 have s7:Since (fun k=>k=bc) w (w.setCell ⟨bc,7,none⟩ (.int .i64 ((kd:Int)+1))):=Since.setCell w ⟨bc,7,none⟩ (.int .i64 ((kd:Int)+1))
 have hcn2:((w.alloc (.cells #[.pointer (some ⟨bc,0,none⟩)] 84)).alloc (.cells #[.int .i64 3, .string s.s, .string s.t, .slice a3 s.exprs.length c3, .slice a4 s.body.length c4, .slice a5 s.els.length c5, .slice a6 s.cases.length c6] 91)).cell? ⟨2,3,none⟩=some (.int .i64 2):=by
  rw [World.cell?_alloc_lt _ _ _ (show 2<_ by simp;omega),World.cell?_alloc_lt _ _ _ (show 2<_ by omega)]
  exact hcn
 rw [hk]
 obtain ⟨W2,hW2⟩: ∃ W2,W2=(((w.setCell ⟨bc,7,none⟩ (.int .i64 ((kd:Int)+1))).alloc (.cells #[.pointer (some ⟨bc,0,none⟩)] 84)).alloc (.cells #[.int .i64 3, .string s.s, .string s.t, .slice a3 s.exprs.length c3, .slice a4 s.body.length c4, .slice a5 s.els.length c5, .slice a6 s.cases.length c6] 91)):=⟨_,rfl⟩
 have sB:Since (fun _=>False) (w.setCell ⟨bc,7,none⟩ (.int .i64 ((kd:Int)+1))) W2:=by rw [hW2];exact (Since.alloc _ _ _).trans (Since.alloc _ _ _)
 have hC2:=hset.since sB (fun _ e=>e.elim)
 have HC2:=zh hC2
 have S7:=zh (s7.trans (sB.mono (G:=fun k=>k=bc) (fun _ e=>e.elim)))
 have hbx:W2.cell? ⟨w.heap.size,0,none⟩=some (.pointer (some ⟨bc,0,none⟩)):=by
  rw [hW2,World.cell?_alloc_lt _ _ _ (by simp)]
  exact (World.cell?_alloc_at _ _ _ _ (by simp)).trans rfl
 have hlW:w.heap.size<W2.heap.size:=by rw [hW2];simp;omega
 have HR:=zh (show stmtT fs res (d+1) st.loops.toNat st.depth.toNat st.G s=putT fs st.G d (kd+1) s by
  unfold stmtT
  rw [hk,if_neg (by omega),show exprsN (3:Int)=2 by decide,if_neg hn,if_neg (by omega),hkd']
  simp [putT]
  rfl)
 obtain ⟨R,hR⟩: ∃ R,R=stmtT fs res (d+1) st.loops.toNat st.depth.toNat st.G s:=⟨_,rfl⟩
 rw [←hR] at HR ⊢
 have Hbx:=zh hbx
 have H0:=zh h0
 have Hkd:=zh hkd
 have Hwb:=zh (show w.heap.size≠bc by omega)
 have H:=zh h
 have Hnm:=zh (show ∀ k,ChkM bc vS bs k→k<w.heap.size from fun k hk=>(h.at_.mem_lt hk).2)
 have hw7:IntKind.i64.wrap ((kd:Int)+1)=(kd:Int)+1:=IntWalk.i64_in _ (by omega)
 have d6:decide ((kd:Int)+1 > 120)=false:=decide_eq_false (by omega)
 have Hkb:=zh (show (kd:Int)<200 by omega)
 have Hdoor:=zh (show ∀ w3 vS3 bs3 st3,ChkAt w3 base bc vf cf vS3 bs3 st3→Since (ChkM bc vS bs) W2 w3→ChkAt.NewM w bc vS vS3 bs bs3→StmtEnd {st with depth:=(kd:Int)+1} R st3→
  ∀ w4,ChkAt w4 base bc vf cf vS3 bs3 {st3 with depth:=IntKind.i64.wrap (st3.depth - 1)}→Since (fun k=>k=bc) w3 w4→StmtPost w base bc vf cf vS bs st R (.returned (.tuple #[])) w4 from fun w3 vS3 bs3 st3 h1 h2 h3 h4 w4 h5 h6=>
  ⟨rfl,vS3,bs3,_,h5,h3.since ((S7.out.mono (fun k e=>Or.inl e)).trans h2) (h6.mono (fun k e=>Or.inl e)),h3,h4.deep (fun e=>by rw [e,Hkd.out,show (kd:Int)+1 - 1=(kd:Int) by omega];exact IntWalk.i64_in _ (by have:=Hkb.out;omega))⟩)
 have hin2:ExprIn fs dF W2 base bc vf cf vS bs {st with depth:=(kd:Int)+1}:=
  ⟨hC2,h.laid.since S7.out (fun k e=>by rw [e];exact hbase) hbig,Good.kept (S7.out.keep.weaken (fun k _ hk e=>by omega)) h.funcs,by have:=h.len;show st.G.length≤_;omega,by have:=h.pos;show 0<st.G.length;omega,fun _=>by show 0≤(kd:Int)+1∧(kd:Int)+1≤120;omega⟩
 have hx2:rSlice 4 (rExpr d) (· <base) W2 [.slice a3 s.exprs.length c3] s.exprs:=Good.kept (S7.out.keep.weaken (fun k _ hk e=>by omega)) r3
 have hkn:((kd:Int)+1).toNat=kd+1:=by omega
 have hex:s.exprs.length=2:=by omega
 have hput:=typedPut_any hin2 h0 s _ (.slice a4 s.body.length c4) (.slice a5 s.els.length c5) (.slice a6 s.cases.length c6) hx2 hf.1.2 hex
 simp only [hkn,hk] at hput
 have Hput:=zh hput
 have d4:((2:Int) !=(s.exprs.length:Int))=false:=by rw [bne_eq_false_iff_eq];omega
 have d5:decide ((s.exprs.length:Int) > 2)=false:=decide_eq_false (by omega)
 clear hset s7 sB hC2 hcn hd0 hd1 hd2 hd3 hd4 hdeep hkd hkd' hR h h0 hn hbx hex hput hin2 hx2 hkn
 go_enter_defers Tryz.func137,Tryz.ntmps137
 go_wp2_with fail
 rw [←hW2]
 refine Hput.out.mono ?_
 rintro en w3 ⟨rfl,st3,hc3,hs3,he3⟩
 have HC3:=zh hc3
 have hb3:=(hs3.cell (o:=0) hlW Hwb.out).trans Hbx.out
 have HQ:=zh (Hdoor.out w3 vS bs _ hc3 (hs3.mono (fun k e=>Or.inl e)) (fun k hk=>Or.inl hk) (he3.cast HR.out.symm))
 clear hc3 hs3 he3
 go_wp2_with fail
 exact stmtDoor HC3.out hb3 HQ.out
set_option maxRecDepth 10000 in
set_option maxHeartbeats 4000000 in
theorem stmt_8 {fs:List PFunc} {dF:Nat} {res:Int} {base bc:Nat} {vf:Value} {cf:List Value} {d:Nat} (hS:StmtSaid fs dF res base bc vf cf d) (s:PStmt) (cs:List Value) (w:World) (vS:Value) (bs:List Nat) (st:Chk) (h:StmtIn fs dF res 0 w base bc vf cf vS bs st) (hr:rStmt (d+1) (· <base) w cs s) (hf:FitS (d+1) s)
 (h0:st.fault=0) (hk:s.kind=8) (hn: ¬((0≤exprsN s.kind∧exprsN s.kind≠s.exprs.length)∨2<s.exprs.length)) (hdeep:st.depth.toNat+1≤120):
 Calls Tryz.prog 137 #[.pointer (some ⟨bc,0,none⟩), .agg cs.toArray] w (StmtPost w base bc vf cf vS bs st (stmtT fs res (d+1) st.loops.toNat st.depth.toNat st.G s)):=by
 obtain ⟨v3,v4,v5,v6,rfl,⟨hI0,hI1,hI2⟩,r3,r4,r5,r6⟩:=hr
 obtain ⟨a3,c3,rfl⟩:=rSlice_shape r3
 obtain ⟨a4,c4,rfl⟩:=rSlice_shape r4
 obtain ⟨a5,c5,rfl⟩:=rSlice_shape r5
 obtain ⟨a6,c6,rfl⟩:=rSlice_shape r6
 obtain ⟨hd0,hd1,hd2,hd3,hd4⟩:=h.ok h0
 obtain ⟨kd,hkd⟩:=Int.eq_ofNat_of_zero_le hd0
 have hkd':st.depth.toNat=kd:=by omega
 have hlt:=h.at_.lb.2
 have hbase:=h.at_.lb.1
 have hbig:=h.at_.big
 have hgl:=h.laid.lt.2
 have c8:=h.at_.c8
 rw [h0] at c8
 have hcn:=h.laid.exprs 8 (by decide) (by decide)
 rw [show exprsN ((8:Nat):Int)=(-1) by decide] at hcn
 rw [hk,show exprsN (8:Int)=(-1) by decide] at hn
 have c7:=h.at_.c7
 have z7:=h.at_.z 7
 rw [hkd] at c7
 have hset:=h.at_.set 7 ((kd:Int)+1) {st with depth:=(kd:Int)+1} rfl (by decide) (by simp) (by simp) (by simp)
 have s7:Since (fun k=>k=bc) w (w.setCell ⟨bc,7,none⟩ (.int .i64 ((kd:Int)+1))):=Since.setCell w ⟨bc,7,none⟩ (.int .i64 ((kd:Int)+1))
 have hcn2:((w.alloc (.cells #[.pointer (some ⟨bc,0,none⟩)] 84)).alloc (.cells #[.int .i64 8, .string s.s, .string s.t, .slice a3 s.exprs.length c3, .slice a4 s.body.length c4, .slice a5 s.els.length c5, .slice a6 s.cases.length c6] 91)).cell? ⟨2,8,none⟩=some (.int .i64 (-1)):=by
  rw [World.cell?_alloc_lt _ _ _ (show 2<_ by simp;omega),World.cell?_alloc_lt _ _ _ (show 2<_ by omega)]
  exact hcn
 rw [hk]
 obtain ⟨W2,hW2⟩: ∃ W2,W2=(((w.setCell ⟨bc,7,none⟩ (.int .i64 ((kd:Int)+1))).alloc (.cells #[.pointer (some ⟨bc,0,none⟩)] 84)).alloc (.cells #[.int .i64 8, .string s.s, .string s.t, .slice a3 s.exprs.length c3, .slice a4 s.body.length c4, .slice a5 s.els.length c5, .slice a6 s.cases.length c6] 91)):=⟨_,rfl⟩
 have sB:Since (fun _=>False) (w.setCell ⟨bc,7,none⟩ (.int .i64 ((kd:Int)+1))) W2:=by rw [hW2];exact (Since.alloc _ _ _).trans (Since.alloc _ _ _)
 have hC2:=hset.since sB (fun _ e=>e.elim)
 have HC2:=zh hC2
 have S7:=zh (s7.trans (sB.mono (G:=fun k=>k=bc) (fun _ e=>e.elim)))
 have hbx:W2.cell? ⟨w.heap.size,0,none⟩=some (.pointer (some ⟨bc,0,none⟩)):=by
  rw [hW2,World.cell?_alloc_lt _ _ _ (by simp)]
  exact (World.cell?_alloc_at _ _ _ _ (by simp)).trans rfl
 have hlW:w.heap.size<W2.heap.size:=by rw [hW2];simp;omega
 have HR:=zh (show stmtT fs res (d+1) st.loops.toNat st.depth.toNat st.G s=backT st.G res s.exprs (exprT fs st.G d (kd+1)) by
  unfold stmtT
  rw [hk,if_neg (by omega),show exprsN (8:Int)=(-1) by decide,if_neg hn,if_neg (by omega),hkd']
  simp)
 obtain ⟨R,hR⟩: ∃ R,R=stmtT fs res (d+1) st.loops.toNat st.depth.toNat st.G s:=⟨_,rfl⟩
 rw [←hR] at HR ⊢
 have Hbx:=zh hbx
 have H0:=zh h0
 have Hkd:=zh hkd
 have Hwb:=zh (show w.heap.size≠bc by omega)
 have H:=zh h
 have Hnm:=zh (show ∀ k,ChkM bc vS bs k→k<w.heap.size from fun k hk=>(h.at_.mem_lt hk).2)
 have hw7:IntKind.i64.wrap ((kd:Int)+1)=(kd:Int)+1:=IntWalk.i64_in _ (by omega)
 have d6:decide ((kd:Int)+1 > 120)=false:=decide_eq_false (by omega)
 have Hkb:=zh (show (kd:Int)<200 by omega)
 have Hdoor:=zh (show ∀ w3 vS3 bs3 st3,ChkAt w3 base bc vf cf vS3 bs3 st3→Since (ChkM bc vS bs) W2 w3→ChkAt.NewM w bc vS vS3 bs bs3→StmtEnd {st with depth:=(kd:Int)+1} R st3→
  ∀ w4,ChkAt w4 base bc vf cf vS3 bs3 {st3 with depth:=IntKind.i64.wrap (st3.depth - 1)}→Since (fun k=>k=bc) w3 w4→StmtPost w base bc vf cf vS bs st R (.returned (.tuple #[])) w4 from fun w3 vS3 bs3 st3 h1 h2 h3 h4 w4 h5 h6=>
  ⟨rfl,vS3,bs3,_,h5,h3.since ((S7.out.mono (fun k e=>Or.inl e)).trans h2) (h6.mono (fun k e=>Or.inl e)),h3,h4.deep (fun e=>by rw [e,Hkd.out,show (kd:Int)+1 - 1=(kd:Int) by omega];exact IntWalk.i64_in _ (by have:=Hkb.out;omega))⟩)
 have hin2:ExprIn fs dF W2 base bc vf cf vS bs {st with depth:=(kd:Int)+1}:=
  ⟨hC2,h.laid.since S7.out (fun k e=>by rw [e];exact hbase) hbig,Good.kept (S7.out.keep.weaken (fun k _ hk e=>by omega)) h.funcs,by have:=h.len;show st.G.length≤_;omega,by have:=h.pos;show 0<st.G.length;omega,fun _=>by show 0≤(kd:Int)+1∧(kd:Int)+1≤120;omega⟩
 have hx2:rSlice 4 (rExpr d) (· <base) W2 [.slice a3 s.exprs.length c3] s.exprs:=Good.kept (S7.out.keep.weaken (fun k _ hk e=>by omega)) r3
 have hkn:((kd:Int)+1).toNat=kd+1:=by omega
 have hput:=typedBack_any hin2 h0 s _ (.slice a4 s.body.length c4) (.slice a5 s.els.length c5) (.slice a6 s.cases.length c6) hx2 hf.1.2 res h.res
 simp only [hkn,hk] at hput
 have Hput:=zh hput
 have d5:decide ((s.exprs.length:Int) > 2)=false:=decide_eq_false (by omega)
 clear hset s7 sB hC2 hcn hd0 hd1 hd2 hd3 hd4 hdeep hkd hkd' hR h h0 hn hbx hput hin2 hx2 hkn
 go_enter_defers Tryz.func137,Tryz.ntmps137
 go_wp2_with fail
 rw [←hW2]
 refine Hput.out.mono ?_
 rintro en w3 ⟨rfl,st3,hc3,hs3,he3⟩
 have HC3:=zh hc3
 have hb3:=(hs3.cell (o:=0) hlW Hwb.out).trans Hbx.out
 have HQ:=zh (Hdoor.out w3 vS bs _ hc3 (hs3.mono (fun k e=>Or.inl e)) (fun k hk=>Or.inl hk) (he3.cast HR.out.symm))
 clear hc3 hs3 he3
 go_wp2_with fail
 exact stmtDoor HC3.out hb3 HQ.out
end Go.Proofs.YtkopjgnjflhkeaaGreatDoor

import Derived.Test.YtkopjgnjflhkeaaGreatDoorQL
namespace Go.Proofs.YtkopjgnjflhkeaaGreatDoor
open Go.RowKit Go.Pst
set_option linter.unusedVariables false
set_option linter.unusedSimpArgs false
theorem StmtEnd.deep {st S:Chk} {R:Except Int (List Scope)} {l v:Int} (h:StmtEnd {st with depth:=l} R S) (hv:S.depth=l→v=st.depth):StmtEnd st R {S with depth:=v}:=by
 refine ⟨h.1,h.2.1,fun e=>?_⟩
 have:=h.2.2 e
 cases R with
 |error e'=>exact this
 |ok G'=>
  have h3:S={{st with depth:=l} with G:=G'}:=this
  subst h3
  rw [hv rfl]
set_option maxRecDepth 10000 in
set_option maxHeartbeats 4000000 in
theorem stmt_10 {fs:List PFunc} {dF:Nat} {res:Int} {base bc:Nat} {vf:Value} {cf:List Value} {d:Nat} (hS:StmtSaid fs dF res base bc vf cf d) (s:PStmt) (cs:List Value) (w:World) (vS:Value) (bs:List Nat) (st:Chk) (h:StmtIn fs dF res 0 w base bc vf cf vS bs st) (hr:rStmt (d+1) (· <base) w cs s) (hf:FitS (d+1) s)
 (h0:st.fault=0) (hk:s.kind=10) (hn: ¬((0≤exprsN s.kind∧exprsN s.kind≠s.exprs.length)∨2<s.exprs.length)) (hdeep:st.depth.toNat+1≤120):
 Calls Tryz.prog 137 #[.pointer (some ⟨bc,0,none⟩), .agg cs.toArray] w (StmtPost w base bc vf cf vS bs st (stmtT fs res (d+1) st.loops.toNat st.depth.toNat st.G s)):=by
 obtain ⟨v3,v4,v5,v6,rfl,⟨hI0,hI1,hI2⟩,r3,r4,r5,r6⟩:=hr
 obtain ⟨a3,c3,rfl⟩:=rSlice_shape r3
 obtain ⟨a4,c4,rfl⟩:=rSlice_shape r4
 obtain ⟨a5,c5,rfl⟩:=rSlice_shape r5
 obtain ⟨a6,c6,rfl⟩:=rSlice_shape r6
 obtain ⟨hd0,hd1,hd2,hd3,hd4⟩:=h.ok h0
 obtain ⟨kd,hkd⟩:=Int.eq_ofNat_of_zero_le hd0
 have hkd':st.depth.toNat=kd:=by omega
 have hlt:=h.at_.lb.2
 have hbase:=h.at_.lb.1
 have hbig:=h.at_.big
 have hgl:=h.laid.lt.2
 have c8:=h.at_.c8
 rw [h0] at c8
 have hcn:=h.laid.exprs 10 (by decide) (by decide)
 rw [show exprsN ((10:Nat):Int)=0 by decide] at hcn
 rw [hk,show exprsN (10:Int)=0 by decide] at hn
 have c7:=h.at_.c7
 have z7:=h.at_.z 7
 rw [hkd] at c7
 have hset:=h.at_.set 7 ((kd:Int)+1) {st with depth:=(kd:Int)+1} rfl (by decide) (by simp) (by simp) (by simp)
 have s7:Since (fun k=>k=bc) w (w.setCell ⟨bc,7,none⟩ (.int .i64 ((kd:Int)+1))):=Since.setCell w ⟨bc,7,none⟩ (.int .i64 ((kd:Int)+1))
 have hcn2:((w.alloc (.cells #[.pointer (some ⟨bc,0,none⟩)] 84)).alloc (.cells #[.int .i64 10, .string s.s, .string s.t, .slice a3 s.exprs.length c3, .slice a4 s.body.length c4, .slice a5 s.els.length c5, .slice a6 s.cases.length c6] 91)).cell? ⟨2,10,none⟩=some (.int .i64 0):=by
  rw [World.cell?_alloc_lt _ _ _ (show 2<_ by simp;omega),World.cell?_alloc_lt _ _ _ (show 2<_ by omega)]
  exact hcn
 rw [hk]
 obtain ⟨W2,hW2⟩: ∃ W2,W2=(((w.setCell ⟨bc,7,none⟩ (.int .i64 ((kd:Int)+1))).alloc (.cells #[.pointer (some ⟨bc,0,none⟩)] 84)).alloc (.cells #[.int .i64 10, .string s.s, .string s.t, .slice a3 s.exprs.length c3, .slice a4 s.body.length c4, .slice a5 s.els.length c5, .slice a6 s.cases.length c6] 91)):=⟨_,rfl⟩
 have sB:Since (fun _=>False) (w.setCell ⟨bc,7,none⟩ (.int .i64 ((kd:Int)+1))) W2:=by rw [hW2];exact (Since.alloc _ _ _).trans (Since.alloc _ _ _)
 have hC2:=hset.since sB (fun _ e=>e.elim)
 have HC2:=zh hC2
 have S7:=zh (s7.trans (sB.mono (G:=fun k=>k=bc) (fun _ e=>e.elim)))
 have hbx:W2.cell? ⟨w.heap.size,0,none⟩=some (.pointer (some ⟨bc,0,none⟩)):=by
  rw [hW2,World.cell?_alloc_lt _ _ _ (by simp)]
  exact (World.cell?_alloc_at _ _ _ _ (by simp)).trans rfl
 have hlW:w.heap.size<W2.heap.size:=by rw [hW2];simp;omega
 have HR:=zh (show stmtT fs res (d+1) st.loops.toNat st.depth.toNat st.G s=(if st.loops.toNat=0 then .error 12 else .ok st.G) by
  unfold stmtT
  rw [hk,if_neg (by omega),show exprsN (10:Int)=0 by decide,if_neg hn,if_neg (by omega),hkd']
  simp)
 obtain ⟨R,hR⟩: ∃ R,R=stmtT fs res (d+1) st.loops.toNat st.depth.toNat st.G s:=⟨_,rfl⟩
 rw [←hR] at HR ⊢
 have Hbx:=zh hbx
 have H0:=zh h0
 have Hkd:=zh hkd
 have Hwb:=zh (show w.heap.size≠bc by omega)
 have H:=zh h
 have Hnm:=zh (show ∀ k,ChkM bc vS bs k→k<w.heap.size from fun k hk=>(h.at_.mem_lt hk).2)
 have hw7:IntKind.i64.wrap ((kd:Int)+1)=(kd:Int)+1:=IntWalk.i64_in _ (by omega)
 have d6:decide ((kd:Int)+1 > 120)=false:=decide_eq_false (by omega)
 have Hkb:=zh (show (kd:Int)<200 by omega)
 have Hdoor:=zh (show ∀ w3 vS3 bs3 st3,ChkAt w3 base bc vf cf vS3 bs3 st3→Since (ChkM bc vS bs) W2 w3→ChkAt.NewM w bc vS vS3 bs bs3→StmtEnd {st with depth:=(kd:Int)+1} R st3→
  ∀ w4,ChkAt w4 base bc vf cf vS3 bs3 {st3 with depth:=IntKind.i64.wrap (st3.depth - 1)}→Since (fun k=>k=bc) w3 w4→StmtPost w base bc vf cf vS bs st R (.returned (.tuple #[])) w4 from fun w3 vS3 bs3 st3 h1 h2 h3 h4 w4 h5 h6=>
  ⟨rfl,vS3,bs3,_,h5,h3.since ((S7.out.mono (fun k e=>Or.inl e)).trans h2) (h6.mono (fun k e=>Or.inl e)),h3,h4.deep (fun e=>by rw [e,Hkd.out,show (kd:Int)+1 - 1=(kd:Int) by omega];exact IntWalk.i64_in _ (by have:=Hkb.out;omega))⟩)
 have c6x:=hC2.c6
 obtain ⟨lp,hlp⟩:=Int.eq_ofNat_of_zero_le hd3
 have c6w:=h.at_.c6
 rw [hlp] at c6w
 have hlp':st.loops.toNat=lp:=by omega
 rw [hlp'] at HR
 have hle:s.exprs.length=0:=by omega
 have d4:((0:Int) !=(s.exprs.length:Int))=false:=by rw [bne_eq_false_iff_eq];omega
 have d5:decide ((s.exprs.length:Int) > 2)=false:=decide_eq_false (by omega)
 clear hset s7 sB hC2 hcn hd0 hd1 hd2 hd3 hd4 hdeep hkd hkd' hR h h0 hn c6x hlp hlp' hbx hle
 by_cases hz:lp=0
 ·
  subst hz
  go_enter_defers Tryz.func137,Tryz.ntmps137
  go_wp2_with fail
  rw [←hW2]
  refine (typedWrong_any _ base bc vf cf vS bs _ HC2.out 12).mono ?_
  rintro en w3 ⟨rfl,hc3,hs3⟩
  have HC3:=zh hc3
  have hb3:=(hs3.cell (o:=0) hlW Hwb.out).trans Hbx.out
  have HQ:=zh (Hdoor.out w3 vS bs _ hc3 (hs3.mono (fun k e=>Or.inl e)) (fun k hk=>Or.inl hk) ⟨SameG.of rfl,fun e=>absurd H0.out e,fun _=>by rw [HR.out];exact ⟨by decide,by simp [Chk.bad,H0.out]⟩⟩)
  clear hc3 hs3
  go_wp2_with fail
  exact stmtDoor HC3.out hb3 HQ.out
 ·
  have hz1:((lp:Int)==0)=false:=by rw [beq_eq_false_iff_ne];omega
  have HQ:=zh (Hdoor.out W2 vS bs _ HC2.out (Since.refl _ _) (fun k hk=>Or.inl hk) ((StmtEnd.refl {st with depth:=(kd:Int)+1}).cast (by rw [HR.out,if_neg hz])))
  clear hz
  go_enter_defers Tryz.func137,Tryz.ntmps137
  go_wp2_with fail
  rw [←hW2]
  exact stmtDoor HC2.out Hbx.out HQ.out
set_option maxRecDepth 10000 in
set_option maxHeartbeats 4000000 in
theorem stmt_11 {fs:List PFunc} {dF:Nat} {res:Int} {base bc:Nat} {vf:Value} {cf:List Value} {d:Nat} (hS:StmtSaid fs dF res base bc vf cf d) (s:PStmt) (cs:List Value) (w:World) (vS:Value) (bs:List Nat) (st:Chk) (h:StmtIn fs dF res 0 w base bc vf cf vS bs st) (hr:rStmt (d+1) (· <base) w cs s) (hf:FitS (d+1) s)
 (h0:st.fault=0) (hk:s.kind=11) (hn: ¬((0≤exprsN s.kind∧exprsN s.kind≠s.exprs.length)∨2<s.exprs.length)) (hdeep:st.depth.toNat+1≤120):
 Calls Tryz.prog 137 #[.pointer (some ⟨bc,0,none⟩), .agg cs.toArray] w (StmtPost w base bc vf cf vS bs st (stmtT fs res (d+1) st.loops.toNat st.depth.toNat st.G s)):=by
 obtain ⟨v3,v4,v5,v6,rfl,⟨hI0,hI1,hI2⟩,r3,r4,r5,r6⟩:=hr
 obtain ⟨a3,c3,rfl⟩:=rSlice_shape r3
 obtain ⟨a4,c4,rfl⟩:=rSlice_shape r4
 obtain ⟨a5,c5,rfl⟩:=rSlice_shape r5
 obtain ⟨a6,c6,rfl⟩:=rSlice_shape r6
 obtain ⟨hd0,hd1,hd2,hd3,hd4⟩:=h.ok h0
 obtain ⟨kd,hkd⟩:=Int.eq_ofNat_of_zero_le hd0
 have hkd':st.depth.toNat=kd:=by omega
 have hlt:=h.at_.lb.2
 have hbase:=h.at_.lb.1
 have hbig:=h.at_.big
 have hgl:=h.laid.lt.2
 have c8:=h.at_.c8
 rw [h0] at c8
 have hcn:=h.laid.exprs 11 (by decide) (by decide)
 rw [show exprsN ((11:Nat):Int)=0 by decide] at hcn
 rw [hk,show exprsN (11:Int)=0 by decide] at hn
 have c7:=h.at_.c7
 have z7:=h.at_.z 7
 rw [hkd] at c7
 have hset:=h.at_.set 7 ((kd:Int)+1) {st with depth:=(kd:Int)+1} rfl (by decide) (by simp) (by simp) (by simp)
 have s7:Since (fun k=>k=bc) w (w.setCell ⟨bc,7,none⟩ (.int .i64 ((kd:Int)+1))):=Since.setCell w ⟨bc,7,none⟩ (.int .i64 ((kd:Int)+1))
 have hcn2:((w.alloc (.cells #[.pointer (some ⟨bc,0,none⟩)] 84)).alloc (.cells #[.int .i64 11, .string s.s, .string s.t, .slice a3 s.exprs.length c3, .slice a4 s.body.length c4, .slice a5 s.els.length c5, .slice a6 s.cases.length c6] 91)).cell? ⟨2,11,none⟩=some (.int .i64 0):=by
  rw [World.cell?_alloc_lt _ _ _ (show 2<_ by simp;omega),World.cell?_alloc_lt _ _ _ (show 2<_ by omega)]
  exact hcn
 rw [hk]
 obtain ⟨W2,hW2⟩: ∃ W2,W2=(((w.setCell ⟨bc,7,none⟩ (.int .i64 ((kd:Int)+1))).alloc (.cells #[.pointer (some ⟨bc,0,none⟩)] 84)).alloc (.cells #[.int .i64 11, .string s.s, .string s.t, .slice a3 s.exprs.length c3, .slice a4 s.body.length c4, .slice a5 s.els.length c5, .slice a6 s.cases.length c6] 91)):=⟨_,rfl⟩
 have sB:Since (fun _=>False) (w.setCell ⟨bc,7,none⟩ (.int .i64 ((kd:Int)+1))) W2:=by rw [hW2];exact (Since.alloc _ _ _).trans (Since.alloc _ _ _)
 have hC2:=hset.since sB (fun _ e=>e.elim)
 have HC2:=zh hC2
 have S7:=zh (s7.trans (sB.mono (G:=fun k=>k=bc) (fun _ e=>e.elim)))
 have hbx:W2.cell? ⟨w.heap.size,0,none⟩=some (.pointer (some ⟨bc,0,none⟩)):=by
  rw [hW2,World.cell?_alloc_lt _ _ _ (by simp)]
  exact (World.cell?_alloc_at _ _ _ _ (by simp)).trans rfl
 have hlW:w.heap.size<W2.heap.size:=by rw [hW2];simp;omega
 have HR:=zh (show stmtT fs res (d+1) st.loops.toNat st.depth.toNat st.G s=(if st.loops.toNat=0 then .error 12 else .ok st.G) by
  unfold stmtT
  rw [hk,if_neg (by omega),show exprsN (11:Int)=0 by decide,if_neg hn,if_neg (by omega),hkd']
  simp)
 obtain ⟨R,hR⟩: ∃ R,R=stmtT fs res (d+1) st.loops.toNat st.depth.toNat st.G s:=⟨_,rfl⟩
 rw [←hR] at HR ⊢
 have Hbx:=zh hbx
 have H0:=zh h0
 have Hkd:=zh hkd
 have Hwb:=zh (show w.heap.size≠bc by omega)
 have H:=zh h
 have Hnm:=zh (show ∀ k,ChkM bc vS bs k→k<w.heap.size from fun k hk=>(h.at_.mem_lt hk).2)
 have hw7:IntKind.i64.wrap ((kd:Int)+1)=(kd:Int)+1:=IntWalk.i64_in _ (by omega)
 have d6:decide ((kd:Int)+1 > 120)=false:=decide_eq_false (by omega)
 have Hkb:=zh (show (kd:Int)<200 by omega)
 have Hdoor:=zh (show ∀ w3 vS3 bs3 st3,ChkAt w3 base bc vf cf vS3 bs3 st3→Since (ChkM bc vS bs) W2 w3→ChkAt.NewM w bc vS vS3 bs bs3→StmtEnd {st with depth:=(kd:Int)+1} R st3→
  ∀ w4,ChkAt w4 base bc vf cf vS3 bs3 {st3 with depth:=IntKind.i64.wrap (st3.depth - 1)}→Since (fun k=>k=bc) w3 w4→StmtPost w base bc vf cf vS bs st R (.returned (.tuple #[])) w4 from fun w3 vS3 bs3 st3 h1 h2 h3 h4 w4 h5 h6=>
  ⟨rfl,vS3,bs3,_,h5,h3.since ((S7.out.mono (fun k e=>Or.inl e)).trans h2) (h6.mono (fun k e=>Or.inl e)),h3,h4.deep (fun e=>by rw [e,Hkd.out,show (kd:Int)+1 - 1=(kd:Int) by omega];exact IntWalk.i64_in _ (by have:=Hkb.out;omega))⟩)
 have c6x:=hC2.c6
 obtain ⟨lp,hlp⟩:=Int.eq_ofNat_of_zero_le hd3
 have c6w:=h.at_.c6
 rw [hlp] at c6w
 have hlp':st.loops.toNat=lp:=by omega
 rw [hlp'] at HR
 have hle:s.exprs.length=0:=by omega
 have d4:((0:Int) !=(s.exprs.length:Int))=false:=by rw [bne_eq_false_iff_eq];omega
 have d5:decide ((s.exprs.length:Int) > 2)=false:=decide_eq_false (by omega)
 clear hset s7 sB hC2 hcn hd0 hd1 hd2 hd3 hd4 hdeep hkd hkd' hR h h0 hn c6x hlp hlp' hbx hle
 by_cases hz:lp=0
 ·
  subst hz
  go_enter_defers Tryz.func137,Tryz.ntmps137
  go_wp2_with fail
  rw [←hW2]
  refine (typedWrong_any _ base bc vf cf vS bs _ HC2.out 12).mono ?_
  rintro en w3 ⟨rfl,hc3,hs3⟩
  have HC3:=zh hc3
  have hb3:=(hs3.cell (o:=0) hlW Hwb.out).trans Hbx.out
  have HQ:=zh (Hdoor.out w3 vS bs _ hc3 (hs3.mono (fun k e=>Or.inl e)) (fun k hk=>Or.inl hk) ⟨SameG.of rfl,fun e=>absurd H0.out e,fun _=>by rw [HR.out];exact ⟨by decide,by simp [Chk.bad,H0.out]⟩⟩)
  clear hc3 hs3
  go_wp2_with fail
  exact stmtDoor HC3.out hb3 HQ.out
 ·
  have hz1:((lp:Int)==0)=false:=by rw [beq_eq_false_iff_ne];omega
  have HQ:=zh (Hdoor.out W2 vS bs _ HC2.out (Since.refl _ _) (fun k hk=>Or.inl hk) ((StmtEnd.refl {st with depth:=(kd:Int)+1}).cast (by rw [HR.out,if_neg hz])))
  clear hz
  go_enter_defers Tryz.func137,Tryz.ntmps137
  go_wp2_with fail
  rw [←hW2]
  exact stmtDoor HC2.out Hbx.out HQ.out
end Go.Proofs.YtkopjgnjflhkeaaGreatDoor

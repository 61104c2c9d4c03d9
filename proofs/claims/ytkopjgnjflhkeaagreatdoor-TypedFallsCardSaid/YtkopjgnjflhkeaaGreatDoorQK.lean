import Derived.Test.YtkopjgnjflhkeaaGreatDoorQZI
namespace Go.Proofs.YtkopjgnjflhkeaaGreatDoor
open Go.RowKit Go.Pst
set_option linter.unusedVariables false
set_option linter.unusedSimpArgs false
theorem blockT_ok {f:List Scope→PStmt→Except Int (List Scope)} {G G':List Scope} {l:List PStmt} (h:blockT f G l= .ok G'):G'=G:=by
 unfold blockT at h
 split at h
 ·
  cases h
 ·
  cases h;rfl
theorem want_stmt (st:Chk) (h0:st.fault=0) (t u:Int):StmtEnd st (if t=u then .ok st.G else .error 9) (if t=u then st else st.bad 9):=by
 by_cases h:t=u
 ·
  simp only [h,if_true];exact StmtEnd.refl st
 ·
  simp only [h,if_false]
  exact ⟨SameG.of rfl,fun e=>absurd h0 e,fun _=>⟨by decide,by simp [Chk.bad,h0]⟩⟩
theorem StmtEnd.cast {st S:Chk} {R R':Except Int (List Scope)} (h:StmtEnd st R S) (e:R=R'):StmtEnd st R' S:=e ▸ h
theorem StmtIn.behind {fs:List PFunc} {dF:Nat} {res:Int} {e:Nat} {w w':World} {base bc:Nat} {vf:Value} {cf:List Value} {vS vS':Value} {bs bs':List Nat} {st st':Chk} {R:Except Int (List Scope)} (h:StmtIn fs dF res e w base bc vf cf vS bs st) (h1:ChkAt w' base bc vf cf vS' bs' st') (hs:Since (ChkM bc vS bs) w w') (hE:StmtEnd st R st'):StmtIn fs dF res e w' base bc vf cf vS' bs' st':=
 h.next h1 hs (by rw [hE.1.1]) (fun e=>by
  obtain ⟨z,G',hG',hst⟩:=hE.ok_of e
  have h1:=hE.1.1
  have:=h.ok z
  rw [hst] at h1 ⊢
  simp only at h1 ⊢
  rw [h1]
  exact this)
theorem StmtIn.less {fs:List PFunc} {dF:Nat} {res:Int} {e e':Nat} {w:World} {base bc:Nat} {vf:Value} {cf:List Value} {vS:Value} {bs:List Nat} {st:Chk} (h:StmtIn fs dF res e w base bc vf cf vS bs st) (hp:0<st.G.length+e') (he:e'≤e):StmtIn fs dF res e' w base bc vf cf vS bs st:=
 ⟨h.at_,h.laid,h.funcs,h.res,hp,by have:=h.len;omega,fun z=>by have:=h.ok z;omega⟩
def ifT (fs:List PFunc) (res:Int) (d loops k:Nat) (G:List Scope) (x:PExpr) (body els:List PStmt):Except Int (List Scope):=
 match valuedT (exprT fs G d k x) with
 | .error e=> .error e
 | .ok t=>if t≠2 then .error 9 else match blockT (stmtT fs res d loops k) G body with
  | .error e=> .error e
  | .ok _=>blockT (stmtT fs res d loops k) G els
set_option maxHeartbeats 2000000 in
theorem typedNested_if {fs:List PFunc} {dF:Nat} {res:Int} {w:World} {base bc:Nat} {vf:Value} {cf:List Value} {vS:Value} {bs:List Nat} {st:Chk} {d:Nat} (hS:StmtSaid fs dF res base bc vf cf d) (h:StmtIn fs dF res 2 w base bc vf cf vS bs st) (hp:0<st.G.length) (h0:st.fault=0)
 (x:PExpr) (ss tt:ByteArray) (body els:List PStmt) (v3 v4 v5 v6:Value) (hx:rSlice 4 (rExpr d) (· <base) w [v3] [x]) (hfx:FitX d x)
 (hb:rSlice 7 (rStmt d) (· <base) w [v4] body) (hfb:body.length*136≤reachBytes∧ ∀ y∈body,FitS d y) (he:rSlice 7 (rStmt d) (· <base) w [v5] els) (hfe:els.length*136≤reachBytes∧ ∀ y∈els,FitS d y):
 Calls Tryz.prog 178 #[.pointer (some ⟨bc,0,none⟩), .agg #[.int .i64 4, .string ss, .string tt,v3,v4,v5,v6]] w (StmtPost w base bc vf cf vS bs st (ifT fs res d st.loops.toNat st.depth.toNat st.G x body els)):=by
 obtain ⟨b,off,cap,a3,c3,rfl,hSb,hbl,x0,x1,x2,x3,hrx⟩:=rExprs_get hx 0 (by simp)
 simp only [List.getElem_cons_zero,Nat.zero_mul,Nat.add_zero,List.length_cons,List.length_nil,Nat.zero_add] at x0 x1 x2 x3 hrx
 obtain ⟨a4,c4,rfl⟩:=rSlice_shape hb
 obtain ⟨a5,c5,rfl⟩:=rSlice_shape he
 simp only [List.length_cons,List.length_nil,Nat.zero_add] at *
 obtain ⟨W,hW⟩: ∃ W,W=w.alloc (.cells #[.int .i64 4, .string ss, .string tt, .slice (some ⟨b,off,none⟩) 1 cap, .slice a4 body.length c4, .slice a5 els.length c5,v6] 91):=⟨_,rfl⟩
 have sA:Since (fun _=>False) w W:=by rw [hW];exact Since.alloc _ _ _
 have q4:W.cell? ⟨w.heap.size,4,none⟩=some (.slice a4 body.length c4):=by rw [hW,World.cell?_alloc_at _ _ _ _ rfl];rfl
 have q5:W.cell? ⟨w.heap.size,5,none⟩=some (.slice a5 els.length c5):=by rw [hW,World.cell?_alloc_at _ _ _ _ rfl];rfl
 have q0:W.cell? ⟨w.heap.size,0,none⟩=some (.int .i64 4):=by rw [hW,World.cell?_alloc_at _ _ _ _ rfl];rfl
 have hlW:w.heap.size<W.heap.size:=by rw [hW];simp
 have hin:StmtIn fs dF res 2 W base bc vf cf vS bs st:=h.next (h.at_.since sA (fun _ e=>e.elim)) (sA.mono (fun _ e=>e.elim)) rfl h.ok
 have hm:=fun k (hk:ChkM bc vS bs k)=>h.at_.mem_lt hk
 have hWn: ¬ChkM bc vS bs w.heap.size:=fun f=>by have:=(hm _ f).2;omega
 have hE:=typedValued_any (hin.less (e':=0) (by omega) (by omega)).expr (Good.kept (sA.keep.weaken (fun _ _ _ e=>e.elim)) hrx) hfx
 have hb':rSlice 7 (rStmt d) (· <base) W [.slice a4 body.length c4] body:=Good.kept (sA.keep.weaken (fun _ _ _ e=>e.elim)) hb
 have he':rSlice 7 (rStmt d) (· <base) W [.slice a5 els.length c5] els:=Good.kept (sA.keep.weaken (fun _ _ _ e=>e.elim)) he
 have hkeep: ∀ (w':World) (v:Value) (l:List PStmt),Since (ChkM bc vS bs) W w'→rSlice 7 (rStmt d) (· <base) W [v] l→rSlice 7 (rStmt d) (· <base) w' [v] l:=fun w' v l hs hr=>Good.kept (hs.keep.weaken (fun k _ hk e=>by have:=(hm k e).1;omega)) hr
 obtain ⟨R,hR⟩: ∃ R,R=ifT fs res d st.loops.toNat st.depth.toNat st.G x body els:=⟨_,rfl⟩
 rw [←hR]
 have HR:=zh hR
 have HSt:=zh hS
 have HE:=zh hE
 have H0:=zh h0
 have Hin:=zh hin
 have Hb:=zh hb'
 have He:=zh he'
 have Hfb:=zh hfb
 have Hfe:=zh hfe
 have SA:=zh (sA.mono (G:=ChkM bc vS bs) (fun _ e=>e.elim))
 have Hk:=zh hkeep
 have Q4:=zh q4
 have Q5:=zh q5
 have Hbc:=zh (show w.heap.size≠bc from fun e=>hWn (Or.inl e))
 have HWn:=zh hWn
 have Hp:=zh hp
 clear hR hS hE h0 hin hb' he' hfb hfe hb he hkeep h hx hrx hfx hm hWn sA hp
 go_enter Tryz.func178,Tryz.ntmps178
 go_wp2_with fail
 rw [←hW]
 refine HE.out.mono ?_
 rintro en w1 ⟨t,st1,rfl,hc1,hs1,-,hb1⟩
 have r0:=(hs1.cell (o:=0) hlW Hbc.out).trans q0
 have r4:=(hs1.cell (o:=4) hlW Hbc.out).trans q4
 have r5:=(hs1.cell (o:=5) hlW Hbc.out).trans q5
 have hk:=hb1 H0.out
 have c8:=hc1.c8
 have HC1:=zh hc1
 have HS1:=zh (hs1.mono (G:=ChkM bc vS bs) (fun k e=>Or.inl e))
 have hl1:w.heap.size<w1.heap.size:=Nat.lt_of_lt_of_le hlW hs1.size
 obtain ⟨V,hV⟩: ∃ V,V=valuedT (exprT fs st.G d st.depth.toNat x):=⟨_,rfl⟩
 rw [←hV] at hk
 have HV:=zh hV
 clear hs1 hb1 hc1 q0 q4 q5 hV
 cases V with
 |error e=>
  obtain ⟨e1,e2,e3,e4⟩:=hk
  have hz:(st1.fault !=0)=true:=by rw [e2];simpa using e1
  have HP:StmtPost w base bc vf cf vS bs st R (.returned (.tuple #[])) w1:=
   ⟨rfl,vS,bs,st1,HC1.out,SA.out.trans HS1.out,ChkAt.NewM.refl _ _ _ _,SameG.of e3,fun h=>absurd H0.out h,fun _=>by rw [HR.out,ifT,←HV.out];exact ⟨e1,e2⟩⟩
  have HP:=zh HP
  clear e1 e2 e3 e4
  go_wp2_with fail
  go_end0
  exact HP.out
 |ok u=>
  obtain ⟨rfl,rfl⟩:=hk
  have hz:(st1.fault !=0)=false:=by rw [H0.out];rfl
  go_wp2_with fail
  refine (typedWant_any w1 base bc vf cf vS bs st1 HC1.out t 2).mono ?_
  rintro en w2 ⟨rfl,hc2,hs2⟩
  have hW2:=want_stmt st1 H0.out t 2
  have s2:Since (ChkM bc vS bs) w1 w2:=hs2.mono (fun k e=>Or.inl e)
  have S2:=zh (HS1.out.trans s2)
  have hin2:=Hin.out.behind hc2 S2.out hW2
  obtain ⟨st2,hst2⟩: ∃ st2,st2=(if t=2 then st1 else st1.bad 9):=⟨_,rfl⟩
  rw [←hst2] at hin2 hW2
  have hbl:=typedBlock_any HSt.out (hin2.less (e':=1) (by omega) (by omega)) body _ (Hk.out _ _ _ S2.out Hb.out) Hfb.out
  have Hin2:=zh hin2
  have HW2:=zh hW2
  have Hbl:=zh hbl
  have r4':=(S2.out.cell (o:=4) hlW HWn.out).trans Q4.out
  have hl2:w.heap.size<w2.heap.size:=Nat.lt_of_lt_of_le hlW S2.out.size
  clear hc2 hs2 hin2 hbl hW2 hst2 s2 r4 r5
  go_wp2_with fail
  refine Hbl.out.mono ?_
  rintro en w3 ⟨rfl,vS3,bs3,st3,hc3,hs3,hn3,he3⟩
  have S3:=zh (S2.out.trans hs3)
  have N3:=zh (show ChkAt.NewM W bc vS vS3 bs bs3 from ChkAt.NewM.trans (ChkAt.NewM.refl _ _ _ _) hn3 S2.out.size)
  have r5':=(S3.out.cell (o:=5) hlW HWn.out).trans Q5.out
  have hin3:=Hin2.out.behind hc3 hs3 he3
  have hbl:=typedBlock_any HSt.out (hin3.less (e':=1) (by omega) (by omega)) els _ (Hk.out _ _ _ S3.out He.out) Hfe.out
  have Hbl2:=zh hbl
  have HE3:=zh (HW2.out.then (f:=fun S=>blockT (stmtT fs res d S.loops.toNat S.depth.toNat) S.G body) he3)
  clear hc3 hs3 hn3 hin3 hbl r4' he3
  go_wp2_with fail
  refine Hbl2.out.mono ?_
  rintro en w4 ⟨rfl,vS4,bs4,st4,hc4,hs4,hn4,he4⟩
  have HP:StmtPost w base bc vf cf vS bs st1 R (.returned (.tuple #[])) w4:=by
   refine ⟨rfl,vS4,bs4,st4,hc4,SA.out.trans (N3.out.since S3.out hs4),fun k hk=>?_,?_⟩
   ·
    rcases N3.out.trans hn4 S3.out.size k hk with e|e
    ·
     exact Or.inl e
    ·
     exact Or.inr (by omega)
   ·
    refine (HE3.out.then (f:=fun S=>blockT (stmtT fs res d S.loops.toNat S.depth.toNat) S.G els) he4).cast ?_
    rw [HR.out,ifT,←HV.out]
    by_cases ht:t=2
    ·
     simp only [ht,if_true,bindT,ne_eq,not_true,if_false]
     cases hq:blockT (stmtT fs res d st1.loops.toNat st1.depth.toNat) st1.G body with
     |error e=>rfl
     |ok G'=>rw [blockT_ok hq]
    ·
     simp only [ht,if_false,bindT,ne_eq,not_false_eq_true,if_true]
  have HP:=zh HP
  clear hc4 hs4 hn4 he4
  go_wp2_with fail
  go_end0
  exact HP.out
end Go.Proofs.YtkopjgnjflhkeaaGreatDoor
namespace Go.Proofs.YtkopjgnjflhkeaaGreatDoor
open Go.RowKit Go.Pst
set_option linter.unusedVariables false
set_option linter.unusedSimpArgs false
theorem StmtEnd.loops {st S:Chk} {R:Except Int (List Scope)} {l v:Int} (h:StmtEnd {st with loops:=l} R S) (hv:S.loops=l→v=st.loops):StmtEnd st R {S with loops:=v}:=by
 refine ⟨h.1,h.2.1,fun e=>?_⟩
 have:=h.2.2 e
 cases R with
 |error e'=>exact this
 |ok G'=>
  have h3:S={{st with loops:=l} with G:=G'}:=this
  subst h3
  rw [hv rfl]
def forT (fs:List PFunc) (res:Int) (d loops k:Nat) (G:List Scope) (x:PExpr) (body:List PStmt):Except Int (List Scope):=
 match valuedT (exprT fs G d k x) with
 | .error e=> .error e
 | .ok t=>if t≠2 then .error 9 else blockT (stmtT fs res d (loops+1) k) G body
set_option maxHeartbeats 2000000 in
theorem typedNested_for {fs:List PFunc} {dF:Nat} {res:Int} {w:World} {base bc:Nat} {vf:Value} {cf:List Value} {vS:Value} {bs:List Nat} {st:Chk} {d:Nat} (hS:StmtSaid fs dF res base bc vf cf d) (h:StmtIn fs dF res 2 w base bc vf cf vS bs st) (hp:0<st.G.length) (h0:st.fault=0) (hlp:0≤st.loops∧st.loops+1≤st.depth) (hdp:st.depth≤120)
 (x:PExpr) (ss tt:ByteArray) (body:List PStmt) (v3 v4 v5 v6:Value) (hx:rSlice 4 (rExpr d) (· <base) w [v3] [x]) (hfx:FitX d x)
 (hb:rSlice 7 (rStmt d) (· <base) w [v4] body) (hfb:body.length*136≤reachBytes∧ ∀ y∈body,FitS d y):
 Calls Tryz.prog 178 #[.pointer (some ⟨bc,0,none⟩), .agg #[.int .i64 5, .string ss, .string tt,v3,v4,v5,v6]] w (StmtPost w base bc vf cf vS bs st (forT fs res d st.loops.toNat st.depth.toNat st.G x body)):=by
 obtain ⟨b,off,cap,a3,c3,rfl,hSb,hbl,x0,x1,x2,x3,hrx⟩:=rExprs_get hx 0 (by simp)
 simp only [List.getElem_cons_zero,Nat.zero_mul,Nat.add_zero,List.length_cons,List.length_nil,Nat.zero_add] at x0 x1 x2 x3 hrx
 obtain ⟨a4,c4,rfl⟩:=rSlice_shape hb
 simp only [List.length_cons,List.length_nil,Nat.zero_add] at *
 obtain ⟨W,hW⟩: ∃ W,W=w.alloc (.cells #[.int .i64 5, .string ss, .string tt, .slice (some ⟨b,off,none⟩) 1 cap, .slice a4 body.length c4,v5,v6] 91):=⟨_,rfl⟩
 have sA:Since (fun _=>False) w W:=by rw [hW];exact Since.alloc _ _ _
 have q4:W.cell? ⟨w.heap.size,4,none⟩=some (.slice a4 body.length c4):=by rw [hW,World.cell?_alloc_at _ _ _ _ rfl];rfl
 have q0:W.cell? ⟨w.heap.size,0,none⟩=some (.int .i64 5):=by rw [hW,World.cell?_alloc_at _ _ _ _ rfl];rfl
 have hlW:w.heap.size<W.heap.size:=by rw [hW];simp
 have hin:StmtIn fs dF res 2 W base bc vf cf vS bs st:=h.next (h.at_.since sA (fun _ e=>e.elim)) (sA.mono (fun _ e=>e.elim)) rfl h.ok
 have hm:=fun k (hk:ChkM bc vS bs k)=>h.at_.mem_lt hk
 have hWn: ¬ChkM bc vS bs w.heap.size:=fun f=>by have:=(hm _ f).2;omega
 have hE:=typedValued_any (hin.less (e':=0) (by omega) (by omega)).expr (Good.kept (sA.keep.weaken (fun _ _ _ e=>e.elim)) hrx) hfx
 have hb':rSlice 7 (rStmt d) (· <base) W [.slice a4 body.length c4] body:=Good.kept (sA.keep.weaken (fun _ _ _ e=>e.elim)) hb
 have hkeep: ∀ (w':World) (v:Value) (l:List PStmt),Since (ChkM bc vS bs) W w'→rSlice 7 (rStmt d) (· <base) W [v] l→rSlice 7 (rStmt d) (· <base) w' [v] l:=fun w' v l hs hr=>Good.kept (hs.keep.weaken (fun k _ hk e=>by have:=(hm k e).1;omega)) hr
 obtain ⟨R,hR⟩: ∃ R,R=forT fs res d st.loops.toNat st.depth.toNat st.G x body:=⟨_,rfl⟩
 rw [←hR]
 have HR:=zh hR
 have HSt:=zh hS
 have HE:=zh hE
 have H0:=zh h0
 have Hin:=zh hin
 have Hb:=zh hb'
 have Hfb:=zh hfb
 have SA:=zh (sA.mono (G:=ChkM bc vS bs) (fun _ e=>e.elim))
 have Hk:=zh hkeep
 have Q4:=zh q4
 have Hbc:=zh (show w.heap.size≠bc from fun e=>hWn (Or.inl e))
 have HWn:=zh hWn
 have Hp:=zh hp
 clear hR hS hE h0 hin hb' hfb hb hkeep h hx hrx hfx hm hWn sA hp
 go_enter Tryz.func178,Tryz.ntmps178
 go_wp2_with fail
 rw [←hW]
 refine HE.out.mono ?_
 rintro en w1 ⟨t,st1,rfl,hc1,hs1,-,hb1⟩
 have r0:=(hs1.cell (o:=0) hlW Hbc.out).trans q0
 have r4:=(hs1.cell (o:=4) hlW Hbc.out).trans q4
 have hk:=hb1 H0.out
 have c8:=hc1.c8
 have HC1:=zh hc1
 have HS1:=zh (hs1.mono (G:=ChkM bc vS bs) (fun k e=>Or.inl e))
 have hl1:w.heap.size<w1.heap.size:=Nat.lt_of_lt_of_le hlW hs1.size
 obtain ⟨V,hV⟩: ∃ V,V=valuedT (exprT fs st.G d st.depth.toNat x):=⟨_,rfl⟩
 rw [←hV] at hk
 have HV:=zh hV
 clear hs1 hb1 hc1 q0 q4 hV
 cases V with
 |error e=>
  obtain ⟨e1,e2,e3,e4⟩:=hk
  have hz:(st1.fault !=0)=true:=by rw [e2];simpa using e1
  have HP:StmtPost w base bc vf cf vS bs st R (.returned (.tuple #[])) w1:=
   ⟨rfl,vS,bs,st1,HC1.out,SA.out.trans HS1.out,ChkAt.NewM.refl _ _ _ _,SameG.of e3,fun h=>absurd H0.out h,fun _=>by rw [HR.out,forT,←HV.out];exact ⟨e1,e2⟩⟩
  have HP:=zh HP
  clear e1 e2 e3 e4
  go_wp2_with fail
  go_end0
  exact HP.out
 |ok u=>
  obtain ⟨rfl,rfl⟩:=hk
  have hz:(st1.fault !=0)=false:=by rw [H0.out];rfl
  go_wp2_with fail
  refine (typedWant_any w1 base bc vf cf vS bs st1 HC1.out t 2).mono ?_
  rintro en w2 ⟨rfl,hc2,hs2⟩
  have hW2:=want_stmt st1 H0.out t 2
  have s2:Since (ChkM bc vS bs) w1 w2:=hs2.mono (fun k e=>Or.inl e)
  have S2:=zh (HS1.out.trans s2)
  have hin2:=Hin.out.behind hc2 S2.out hW2
  obtain ⟨st2,hst2⟩: ∃ st2,st2=(if t=2 then st1 else st1.bad 9):=⟨_,rfl⟩
  rw [←hst2] at hin2 hW2
  have hl2:st2.loops=st1.loops:=by rw [hst2];split<;>rfl
  have hd2:st2.depth=st1.depth:=by rw [hst2];split<;>rfl
  obtain ⟨L,hL⟩:=Int.eq_ofNat_of_zero_le hlp.1
  have c6:=hin2.at_.c6
  have z6:=hin2.at_.z 6
  rw [hl2,hL] at c6
  have hw6:IntKind.i64.wrap ((L:Int)+1)=(L:Int)+1:=IntWalk.i64_in _ (by omega)
  have hbc2:=hin2.at_.lb.2
  have hset:=hin2.at_.set 6 ((L:Int)+1) {st2 with loops:=(L:Int)+1} rfl (by decide) (by simp) (by simp) (by simp)
  have s6:Since (fun k=>k=bc) w2 (w2.setCell ⟨bc,6,none⟩ (.int .i64 ((L:Int)+1))):=Since.setCell w2 ⟨bc,6,none⟩ (.int .i64 ((L:Int)+1))
  have S6:=zh (S2.out.trans (s6.mono (G:=ChkM bc vS bs) (fun k e=>Or.inl e)))
  have hl2':w.heap.size<w2.heap.size:=Nat.lt_of_lt_of_le hlW S2.out.size
  have r4':w2.cell? ⟨w.heap.size,4,none⟩=some (.slice a4 body.length c4):=(S2.out.cell (o:=4) hlW HWn.out).trans Q4.out
  have r4'':=(s6.cell (o:=4) hl2' Hbc.out).trans r4'
  have hin6:StmtIn fs dF res 2 (w2.setCell ⟨bc,6,none⟩ (.int .i64 ((L:Int)+1))) base bc vf cf vS bs {st2 with loops:=(L:Int)+1}:=
   hin2.next hset (s6.mono (fun k e=>Or.inl e)) rfl (fun z=>by have:=hin2.ok z;simp only at this ⊢;omega)
  have hbl:=typedBlock_any HSt.out (hin6.less (e':=1) (by omega) (by omega)) body _ (Hk.out _ _ _ S6.out Hb.out) Hfb.out
  have hLn:((L:Int)+1).toNat=L+1:=by omega
  simp only [hLn,hd2] at hbl
  have HLb:=zh (show (L:Int)<200 by omega)
  have HW2:=zh hW2
  have Hbl:=zh hbl
  have Hl2:=zh hl2
  have Hd2:=zh hd2
  have HL:=zh hL
  clear hc2 hs2 hin2 hbl hW2 hst2 s2 r4 hset s6 hin6 hl2 hd2 hL hLn hlp
  go_wp2_with fail
  refine Hbl.out.mono ?_
  rintro en w3 ⟨rfl,vS3,bs3,st3,hc3,hs3,hn3,he3⟩
  obtain ⟨dv,hdv⟩: ∃ dv,IntKind.i64.wrap (st3.loops - 1)=dv:=⟨_,rfl⟩
  have c6':=hc3.c6
  have z6':=hc3.z 6
  have hbc3:=hc3.lb.2
  have hset:=hc3.set 6 dv {st3 with loops:=dv} rfl (by decide) (by simp) (by simp) (by simp)
  have HP:StmtPost w base bc vf cf vS bs st1 R (.returned (.tuple #[])) (w3.setCell ⟨bc,6,none⟩ (.int .i64 dv)):=by
   have s7:Since (ChkM bc vS3 bs3) w3 (w3.setCell ⟨bc,6,none⟩ (.int .i64 dv)):=(Since.setCell w3 ⟨bc,6,none⟩ (.int .i64 dv)).mono (fun k e=>Or.inl e)
   have n3:ChkAt.NewM W bc vS vS3 bs bs3:=ChkAt.NewM.trans (ChkAt.NewM.refl _ _ _ _) hn3 S6.out.size
   refine ⟨rfl,vS3,bs3,{st3 with loops:=dv},hset,SA.out.trans (n3.since (S6.out.trans hs3) s7),fun k hk=>?_,?_⟩
   ·
    rcases n3 k hk with e|e
    ·
     exact Or.inl e
    ·
     exact Or.inr (by omega)
   ·
    have h3:=StmtEnd.loops (st:=st2) (l:=(L:Int)+1) (v:=dv) (by rw [Hd2.out];exact he3) (fun e=>by rw [←hdv,e,Hl2.out,HL.out,show (L:Int)+1 - 1=(L:Int) by omega];exact IntWalk.i64_in _ (by have:=HLb.out;omega))
    refine (HW2.out.then (f:=fun S=>blockT (stmtT fs res d (L+1) st1.depth.toNat) S.G body) h3).cast ?_
    rw [HR.out,forT,←HV.out,show st1.loops.toNat=L by rw [HL.out];rfl]
    by_cases ht:t=2
    ·
     simp only [ht,if_true,bindT,ne_eq,not_true,if_false]
    ·
     simp only [ht,if_false,bindT,ne_eq,not_false_eq_true,if_true]
  have HP:=zh HP
  clear hc3 hs3 hn3 he3 hset
  go_wp2_with fail
  go_end0
  exact HP.out
end Go.Proofs.YtkopjgnjflhkeaaGreatDoor
namespace Go.Proofs.YtkopjgnjflhkeaaGreatDoor
open Go.RowKit Go.Pst
set_option linter.unusedVariables false
set_option linter.unusedSimpArgs false
theorem declT_err {G:List Scope} {s:ByteArray} {t e:Int} (h:declT G s t= .error e):e≠0:=by
 unfold declT at h
 split at h
 ·
  cases h;decide
 ·
  split at h
  ·
   cases h;decide
  ·
   split at h
   ·
    cases h;decide
   ·
    split at h
    ·
     cases h;decide
    ·
     cases h
theorem DeclPost.stmt {st st':Chk} {s:ByteArray} {t:Int} (h:DeclPost st s t st') (hp:0<st.G.length):StmtEnd st (declT st.G s t) st':=by
 obtain ⟨⟨g',h1⟩,h2,h3,h4,h5⟩:=h
 refine ⟨⟨?_,?_⟩,h4,fun e=>?_⟩
 ·
  rw [h1];simp;omega
 ·
  rw [h1];rfl
 ·
  have h6:=h5 e
  cases hd:declT st.G s t with
  |error e'=>rw [hd] at h6;exact ⟨declT_err hd,h6⟩
  |ok G'=>
   rw [hd] at h6
   obtain ⟨q1,q2⟩:=h6
   cases st'
   cases st
   simp only at *
   subst h2 h3 q1 q2 e
   rfl
def scopeT (R:Except Int (List Scope)) (G:List Scope):Except Int (List Scope):=
 match R with
 | .error e=> .error e
 | .ok _=> .ok G
theorem StmtEnd.scope {st S:Chk} {R:Except Int (List Scope)} (h:StmtEnd {st with G:=[]::st.G} R S) {g:Scope} {r:List Scope} (hg:S.G=g::r):r=st.G∧StmtEnd st (scopeT R st.G) {S with G:=st.G}:=by
 have h1:=h.1
 simp only [SameG,List.length_cons,List.tail_cons] at h1
 refine ⟨by rw [hg] at h1;exact h1.2,SameG.of rfl,h.2.1,fun e=>?_⟩
 have h2:=h.2.2 e
 cases R with
 |error e'=>exact h2
 |ok G'=>
  have h3:S={st with G:=G'}:=h2
  subst h3
  rfl
theorem StmtEnd.cons {st S:Chk} {R:Except Int (List Scope)} (h:StmtEnd st R S) (hp:0<st.G.length): ∃ g r,S.G=g::r:=by
 have:=h.1.1
 cases hg:S.G with
 |nil=>rw [hg] at this;simp at this;omega
 |cons g r=>exact ⟨g,r,rfl⟩
theorem bad_stmt (st:Chk) (h0:st.fault=0) (P:Prop) [Decidable P]:StmtEnd st (if P then .error 9 else .ok st.G) (if P then st.bad 9 else st):=by
 by_cases h:P
 ·
  simp only [h,if_true]
  exact ⟨SameG.of rfl,fun e=>absurd h0 e,fun _=>⟨by decide,by simp [Chk.bad,h0]⟩⟩
 ·
  simp only [h,if_false];exact StmtEnd.refl st
def rangeT (fs:List PFunc) (res:Int) (d loops k:Nat) (G:List Scope) (x:PExpr) (ss tt:ByteArray) (body:List PStmt):Except Int (List Scope):=
 match valuedT (exprT fs G d k x) with
 | .error e=> .error e
 | .ok t=>if t=2 then .error 9 else match declT ([]::G) ss 1 with
  | .error e=> .error e
  | .ok G1=>match declT G1 tt 1 with
   | .error e=> .error e
   | .ok G2=>match blockT (stmtT fs res d (loops+1) k) G2 body with
    | .error e=> .error e
    | .ok _=> .ok G
set_option maxHeartbeats 4000000 in
theorem typedNested_range {fs:List PFunc} {dF:Nat} {res:Int} {w:World} {base bc:Nat} {vf:Value} {cf:List Value} {vS:Value} {bs:List Nat} {st:Chk} {d:Nat} (hS:StmtSaid fs dF res base bc vf cf d) (h:StmtIn fs dF res 2 w base bc vf cf vS bs st) (hp:0<st.G.length) (h0:st.fault=0) (hlp:0≤st.loops∧st.loops+1≤st.depth) (hdp:st.depth≤120)
 (x:PExpr) (ss tt:ByteArray) (hss:ss.size≤maxLen) (htt:tt.size≤maxLen) (body:List PStmt) (v3 v4 v5 v6:Value) (hx:rSlice 4 (rExpr d) (· <base) w [v3] [x]) (hfx:FitX d x)
 (hb:rSlice 7 (rStmt d) (· <base) w [v4] body) (hfb:body.length*136≤reachBytes∧ ∀ y∈body,FitS d y):
 Calls Tryz.prog 178 #[.pointer (some ⟨bc,0,none⟩), .agg #[.int .i64 6, .string ss, .string tt,v3,v4,v5,v6]] w (StmtPost w base bc vf cf vS bs st (rangeT fs res d st.loops.toNat st.depth.toNat st.G x ss tt body)):=by
 obtain ⟨b,off,cap,a3,c3,rfl,hSb,hbl,x0,x1,x2,x3,hrx⟩:=rExprs_get hx 0 (by simp)
 simp only [List.getElem_cons_zero,Nat.zero_mul,Nat.add_zero,List.length_cons,List.length_nil,Nat.zero_add] at x0 x1 x2 x3 hrx
 obtain ⟨a4,c4,rfl⟩:=rSlice_shape hb
 simp only [List.length_cons,List.length_nil,Nat.zero_add] at *
 obtain ⟨W,hW⟩: ∃ W,W=w.alloc (.cells #[.int .i64 6, .string ss, .string tt, .slice (some ⟨b,off,none⟩) 1 cap, .slice a4 body.length c4,v5,v6] 91):=⟨_,rfl⟩
 have sA:Since (fun _=>False) w W:=by rw [hW];exact Since.alloc _ _ _
 have q4:W.cell? ⟨w.heap.size,4,none⟩=some (.slice a4 body.length c4):=by rw [hW,World.cell?_alloc_at _ _ _ _ rfl];rfl
 have q0:W.cell? ⟨w.heap.size,0,none⟩=some (.int .i64 6):=by rw [hW,World.cell?_alloc_at _ _ _ _ rfl];rfl
 have q1:W.cell? ⟨w.heap.size,1,none⟩=some (.string ss):=by rw [hW,World.cell?_alloc_at _ _ _ _ rfl];rfl
 have q2:W.cell? ⟨w.heap.size,2,none⟩=some (.string tt):=by rw [hW,World.cell?_alloc_at _ _ _ _ rfl];rfl
 have hlW:w.heap.size<W.heap.size:=by rw [hW];simp
 have hin:StmtIn fs dF res 2 W base bc vf cf vS bs st:=h.next (h.at_.since sA (fun _ e=>e.elim)) (sA.mono (fun _ e=>e.elim)) rfl h.ok
 have hm:=fun k (hk:ChkM bc vS bs k)=>h.at_.mem_lt hk
 have hWn: ¬ChkM bc vS bs w.heap.size:=fun f=>by have:=(hm _ f).2;omega
 have hE:=typedValued_any (hin.less (e':=0) (by omega) (by omega)).expr (Good.kept (sA.keep.weaken (fun _ _ _ e=>e.elim)) hrx) hfx
 have hb':rSlice 7 (rStmt d) (· <base) W [.slice a4 body.length c4] body:=Good.kept (sA.keep.weaken (fun _ _ _ e=>e.elim)) hb
 have hkeep: ∀ (w':World) (v:Value) (l:List PStmt),Since (ChkM bc vS bs) W w'→rSlice 7 (rStmt d) (· <base) W [v] l→rSlice 7 (rStmt d) (· <base) w' [v] l:=fun w' v l hs hr=>Good.kept (hs.keep.weaken (fun k _ hk e=>by have:=(hm k e).1;omega)) hr
 obtain ⟨R,hR⟩: ∃ R,R=rangeT fs res d st.loops.toNat st.depth.toNat st.G x ss tt body:=⟨_,rfl⟩
 rw [←hR]
 have HR:=zh hR
 have HSt:=zh hS
 have HE:=zh hE
 have H0:=zh h0
 have Hin:=zh hin
 have Hb:=zh hb'
 have Hfb:=zh hfb
 have SA:=zh (sA.mono (G:=ChkM bc vS bs) (fun _ e=>e.elim))
 have Hk:=zh hkeep
 have Q4:=zh q4
 have Q1:=zh q1
 have Q2:=zh q2
 have Hlp:=zh hlp
 have Hss:=zh hss
 have Htt:=zh htt
 have Hbc:=zh (show w.heap.size≠bc from fun e=>hWn (Or.inl e))
 have HWn:=zh hWn
 have Hp:=zh hp
 clear q1 q2 hlp hss htt hR hS hE h0 hin hb' hfb hb hkeep h hx hrx hfx hm hWn sA hp
 go_enter Tryz.func178,Tryz.ntmps178
 go_wp2_with fail
 rw [←hW]
 refine HE.out.mono ?_
 rintro en w1 ⟨t,st1,rfl,hc1,hs1,-,hb1⟩
 have r0:=(hs1.cell (o:=0) hlW Hbc.out).trans q0
 have r4:=(hs1.cell (o:=4) hlW Hbc.out).trans q4
 have hk:=hb1 H0.out
 have c8:=hc1.c8
 have HC1:=zh hc1
 have HS1:=zh (hs1.mono (G:=ChkM bc vS bs) (fun k e=>Or.inl e))
 have hl1:w.heap.size<w1.heap.size:=Nat.lt_of_lt_of_le hlW hs1.size
 obtain ⟨V,hV⟩: ∃ V,V=valuedT (exprT fs st.G d st.depth.toNat x):=⟨_,rfl⟩
 rw [←hV] at hk
 have HV:=zh hV
 clear hs1 hb1 hc1 q0 q4 hV
 cases V with
 |error e=>
  obtain ⟨e1,e2,e3,e4⟩:=hk
  have hz:(st1.fault !=0)=true:=by rw [e2];simpa using e1
  have HP:StmtPost w base bc vf cf vS bs st R (.returned (.tuple #[])) w1:=
   ⟨rfl,vS,bs,st1,HC1.out,SA.out.trans HS1.out,ChkAt.NewM.refl _ _ _ _,SameG.of e3,fun h=>absurd H0.out h,fun _=>by rw [HR.out,rangeT,←HV.out];exact ⟨e1,e2⟩⟩
  have HP:=zh HP
  clear e1 e2 e3 e4
  go_wp2_with fail
  go_end0
  exact HP.out
 |ok u=>
  obtain ⟨rfl,rfl⟩:=hk
  have hz:(st1.fault !=0)=false:=by rw [H0.out];rfl
  have HR2:=zh (show R=(if t=2 then .error 9 else match declT ([]::st1.G) ss 1 with
   | .error e=> .error e
   | .ok G1=>match declT G1 tt 1 with
    | .error e=> .error e
    | .ok G2=>match blockT (stmtT fs res d (st1.loops.toNat+1) st1.depth.toNat) G2 body with
     | .error e=> .error e
     | .ok _=> .ok st1.G) by rw [HR.out,rangeT,←HV.out])
  have hW2:=bad_stmt st1 H0.out (t=2)
  obtain ⟨st2,hst2⟩: ∃ st2,st2=(if t=2 then st1.bad 9 else st1):=⟨_,rfl⟩
  rw [←hst2] at hW2
  have HW2:=zh hW2
  have hl2:st2.loops=st1.loops:=by rw [hst2];split<;>rfl
  have hd2:st2.depth=st1.depth:=by rw [hst2];split<;>rfl
  have Hl2:=zh (And.intro hl2 hd2)
  clear hl2 hd2 hW2
  by_cases ht:t=2
  ·
   have ht':(t==2)=true:=by simp [ht]
   rw [if_pos ht] at hst2
   have Ht:=zh ht
   clear ht
   go_wp2_with fail
   refine (typedWrong_any w1 base bc vf cf vS bs st1 HC1.out 9).mono ?_
   rintro en w2 ⟨rfl,hc2,hs2⟩
   have S2:=zh (HS1.out.trans (hs2.mono (G:=ChkM bc vS bs) (fun k e=>Or.inl e)))
   rw [←hst2] at hc2
   have HC2:=zh hc2
   clear hc2 hs2 hst2 r0 r4 c8 HC1 HS1 hl1
   have hin2:=Hin.out.behind HC2.out S2.out HW2.out
   have Hin2:=zh hin2
   have hopen:=typedOpen_any w2 base bc vf cf vS bs st2 HC2.out (by have:=hin2.len;omega)
   have Hopen:=zh hopen
   clear hin2 hopen
   go_wp2_with fail
   refine Hopen.out.mono ?_
   rintro en w3 ⟨rfl,vS3,bs3,hc3,hs3,hn3⟩
   have S3:=zh (S2.out.trans hs3)
   have N3:=zh (show ChkAt.NewM W bc vS vS3 bs bs3 from ChkAt.NewM.trans (ChkAt.NewM.refl _ _ _ _) hn3 S2.out.size)
   obtain ⟨st3,hst3⟩: ∃ st3:Chk,st3={st2 with G:=[]::st2.G}:=⟨_,rfl⟩
   rw [←hst3] at hc3
   have hin3:StmtIn fs dF res 1 w3 base bc vf cf vS3 bs3 st3:=by
    rw [hst3] at hc3 ⊢
    exact Hin2.out.next (e':=1) hc3 hs3 (by simp) (fun e=>by have:=Hin2.out.ok e;simp at this ⊢;omega)
   have Hst3:=zh hst3
   have Hin3:=zh hin3
   have hdec:=typedDeclare_any w3 base bc vf cf vS3 bs3 st3 hc3 [] st2.G (by rw [hst3]) (by have:=Hin2.out.len;omega) ss Hss.out 1
   have Hdec:=zh hdec
   have y1:=(S3.out.cell (o:=1) hlW HWn.out).trans Q1.out
   clear hc3 hs3 hn3 hin3 hdec hst3
   go_wp2_with fail
   refine Hdec.out.mono ?_
   rintro en w4 ⟨rfl,st4,hc4,hs4,hd4⟩
   have he4:=hd4.stmt (by rw [Hst3.out];simp)
   have hin4:=Hin3.out.behind hc4 hs4 he4
   obtain ⟨g4,r4,hg4⟩:=he4.cons (by rw [Hst3.out];simp)
   have hdec2:=typedDeclare_any w4 base bc vf cf vS3 bs3 st4 hc4 g4 r4 hg4 (by have:=hin4.len;rw [hg4] at this;simp at this;omega) tt Htt.out 1
   have Hdec2:=zh hdec2
   have Hin4:=zh hin4
   have He4:=zh he4
   have HS4:=zh hs4
   have Hk4:=zh (And.intro hd4.2.1 hd4.2.2.1)
   have y2:=((N3.out.since S3.out hs4).cell (o:=2) hlW HWn.out).trans Q2.out
   have Hp4:=zh (show 0<st4.G.length by rw [hg4];simp)
   clear hc4 hs4 hd4 he4 hin4 hdec2 hg4 y1
   go_wp2_with fail
   refine Hdec2.out.mono ?_
   rintro en w5 ⟨rfl,st5,hc5,hs5,hd5⟩
   have he5:=hd5.stmt Hp4.out
   have hin5:=Hin4.out.behind hc5 hs5 he5
   have HE5:=zh (He4.out.then (f:=fun S=>declT S.G tt 1) he5)
   have hl5:st5.loops=st1.loops:=by rw [hd5.2.1,Hk4.out.1,Hst3.out];exact Hl2.out.1
   have hd5':st5.depth=st1.depth:=by rw [hd5.2.2.1,Hk4.out.2,Hst3.out];exact Hl2.out.2
   obtain ⟨L,hL⟩:=Int.eq_ofNat_of_zero_le Hlp.out.1
   have hlpp:=Hlp.out
   have c6:=hin5.at_.c6
   have z6:=hin5.at_.z 6
   rw [hl5,hL] at c6
   have hw6:IntKind.i64.wrap ((L:Int)+1)=(L:Int)+1:=IntWalk.i64_in _ (by omega)
   have hbc5:=hin5.at_.lb.2
   have hset:=hin5.at_.set 6 ((L:Int)+1) {st5 with loops:=(L:Int)+1} rfl (by decide) (by simp) (by simp) (by simp)
   have s6:Since (fun k=>k=bc) w5 (w5.setCell ⟨bc,6,none⟩ (.int .i64 ((L:Int)+1))):=Since.setCell w5 ⟨bc,6,none⟩ (.int .i64 ((L:Int)+1))
   have s36:=HS4.out.trans (hs5.trans (s6.mono (G:=ChkM bc vS3 bs3) (fun k e=>Or.inl e)))
   have S6:=zh (N3.out.since S3.out s36)
   have hl5':w.heap.size<w5.heap.size:=Nat.lt_of_lt_of_le hlW (Nat.le_trans S3.out.size (Nat.le_trans HS4.out.size hs5.size))
   have y4:w5.cell? ⟨w.heap.size,4,none⟩=some (.slice a4 body.length c4):=((N3.out.since S3.out (HS4.out.trans hs5)).cell (o:=4) hlW HWn.out).trans Q4.out
   have y4':=(s6.cell (o:=4) hl5' Hbc.out).trans y4
   have hin6:StmtIn fs dF res 1 (w5.setCell ⟨bc,6,none⟩ (.int .i64 ((L:Int)+1))) base bc vf cf vS3 bs3 {st5 with loops:=(L:Int)+1}:=
    hin5.next hset (s6.mono (fun k e=>Or.inl e)) rfl (fun z=>by have:=hin5.ok z;simp only at this ⊢;omega)
   have hbl:=typedBlock_any HSt.out hin6 body _ (Hk.out _ _ _ S6.out Hb.out) Hfb.out
   have hLn:((L:Int)+1).toNat=L+1:=by omega
   simp only [hLn,hd5'] at hbl
   have Hbl:=zh hbl
   have HL:=zh hL
   have Hl5:=zh (And.intro hl5 hd5')
   have HLb:=zh (show (L:Int)<200 by omega)
   have HS36:=zh s36
   have Hlen5:=zh hin5.len
   clear hc5 hs5 hd5 he5 hin5 hset s6 s36 hin6 hbl hLn hl5 hd5' hlpp hL y2
   go_wp2_with fail
   refine Hbl.out.mono ?_
   rintro en w7 ⟨rfl,vS7,bs7,st7,hc7,hs7,hn7,he7⟩
   obtain ⟨dv,hdv⟩: ∃ dv,IntKind.i64.wrap (st7.loops - 1)=dv:=⟨_,rfl⟩
   have c67:=hc7.c6
   have z67:=hc7.z 6
   have hbc7:=hc7.lb.2
   have hset:=hc7.set 6 dv {st7 with loops:=dv} rfl (by decide) (by simp) (by simp) (by simp)
   have s8:Since (ChkM bc vS7 bs7) w7 (w7.setCell ⟨bc,6,none⟩ (.int .i64 dv)):=(Since.setCell w7 ⟨bc,6,none⟩ (.int .i64 dv)).mono (fun k e=>Or.inl e)
   have n7:ChkAt.NewM W bc vS vS7 bs bs7:=N3.out.trans (fun k hk=>by rcases hn7 k hk with e|e;exact Or.inl e;exact Or.inr (Nat.le_trans HS36.out.size e)) S3.out.size
   have s78:=n7.since (N3.out.since S3.out (HS36.out.trans hs7)) s8
   have he8:=StmtEnd.loops (st:=st5) (l:=(L:Int)+1) (v:=dv) (by rw [Hl5.out.2];exact he7) (fun e=>by rw [←hdv,e,Hl5.out.1,HL.out,show (L:Int)+1 - 1=(L:Int) by omega];exact IntWalk.i64_in _ (by have:=HLb.out;omega))
   have hE8:=HE5.out.then (f:=fun S=>blockT (stmtT fs res d (L+1) st1.depth.toNat) S.G body) he8
   rw [Hst3.out] at hE8
   obtain ⟨g,r,hg⟩:=hE8.cons (by simp)
   obtain ⟨hrr,hE9⟩:=hE8.scope hg
   have hcl:=typedClose_any _ base bc vf cf vS7 bs7 _ hset g r hg (by rw [hrr];have:=Hin2.out.len;omega)
   have Hcl:=zh hcl
   have HE9:=zh hE9
   have Hr:=zh hrr
   have S78:=zh s78
   have N7:=zh n7
   clear hcl hE9 hE8 he8 hg hrr s78 n7 s8 hset hc7 hs7 hn7 he7
   go_wp2_with fail
   refine Hcl.out.mono ?_
   rintro en w9 ⟨rfl,vS9,bs9,hc9,hs9,hn9⟩
   have HP:StmtPost w base bc vf cf vS bs st1 R (.returned (.tuple #[])) w9:=by
    refine ⟨rfl,vS9,bs9,_,hc9,SA.out.trans (N7.out.since S78.out hs9),fun k hk=>?_,?_⟩
    ·
     rcases N7.out.trans hn9 S78.out.size k hk with e|e
     ·
      exact Or.inl e
     ·
      exact Or.inr (by omega)
    ·
     rw [Hr.out]
     refine (HW2.out.then (f:=fun S=>scopeT (bindT (bindT (declT ([]::S.G) ss 1) (fun G=>declT G tt 1)) (fun G=>blockT (stmtT fs res d (L+1) st1.depth.toNat) G body)) S.G) HE9.out).cast ?_
     rw [HR2.out,show st1.loops.toNat=L by rw [HL.out];rfl]
     by_cases hq:t=2
     ·
      simp only [hq,if_true,bindT]
     ·
      simp only [hq,if_false,bindT,scopeT]
      cases declT ([]::st1.G) ss 1 with
      |error e=>rfl
      |ok G1=>
       simp only
       cases declT G1 tt 1 with
       |error e=>rfl
       |ok G2=>cases blockT (stmtT fs res d (L+1) st1.depth.toNat) G2 body<;>rfl
   have HP:=zh HP
   clear hc9 hs9 hn9
   go_wp2_with fail
   go_end0
   exact HP.out
  ·
   have ht':(t==2)=false:=by simp [ht]
   rw [if_neg ht] at hst2
   have Ht:=zh ht
   obtain ⟨w2,hw2⟩: ∃ w2,w2=w1:=⟨_,rfl⟩
   have S2:=zh (show Since (ChkM bc vS bs) W w2 by rw [hw2];exact HS1.out)
   have HC2:=zh (show ChkAt w2 base bc vf cf vS bs st2 by rw [hw2,hst2];exact HC1.out)
   subst hw2
   clear ht hst2 HC1 HS1
   have hin2:=Hin.out.behind HC2.out S2.out HW2.out
   have Hin2:=zh hin2
   have hopen:=typedOpen_any w2 base bc vf cf vS bs st2 HC2.out (by have:=hin2.len;omega)
   have Hopen:=zh hopen
   clear hin2 hopen
   go_wp2_with fail
   refine Hopen.out.mono ?_
   rintro en w3 ⟨rfl,vS3,bs3,hc3,hs3,hn3⟩
   have S3:=zh (S2.out.trans hs3)
   have N3:=zh (show ChkAt.NewM W bc vS vS3 bs bs3 from ChkAt.NewM.trans (ChkAt.NewM.refl _ _ _ _) hn3 S2.out.size)
   obtain ⟨st3,hst3⟩: ∃ st3:Chk,st3={st2 with G:=[]::st2.G}:=⟨_,rfl⟩
   rw [←hst3] at hc3
   have hin3:StmtIn fs dF res 1 w3 base bc vf cf vS3 bs3 st3:=by
    rw [hst3] at hc3 ⊢
    exact Hin2.out.next (e':=1) hc3 hs3 (by simp) (fun e=>by have:=Hin2.out.ok e;simp at this ⊢;omega)
   have Hst3:=zh hst3
   have Hin3:=zh hin3
   have hdec:=typedDeclare_any w3 base bc vf cf vS3 bs3 st3 hc3 [] st2.G (by rw [hst3]) (by have:=Hin2.out.len;omega) ss Hss.out 1
   have Hdec:=zh hdec
   have y1:=(S3.out.cell (o:=1) hlW HWn.out).trans Q1.out
   clear hc3 hs3 hn3 hin3 hdec hst3
   go_wp2_with fail
   refine Hdec.out.mono ?_
   rintro en w4 ⟨rfl,st4,hc4,hs4,hd4⟩
   have he4:=hd4.stmt (by rw [Hst3.out];simp)
   have hin4:=Hin3.out.behind hc4 hs4 he4
   obtain ⟨g4,r4,hg4⟩:=he4.cons (by rw [Hst3.out];simp)
   have hdec2:=typedDeclare_any w4 base bc vf cf vS3 bs3 st4 hc4 g4 r4 hg4 (by have:=hin4.len;rw [hg4] at this;simp at this;omega) tt Htt.out 1
   have Hdec2:=zh hdec2
   have Hin4:=zh hin4
   have He4:=zh he4
   have HS4:=zh hs4
   have Hk4:=zh (And.intro hd4.2.1 hd4.2.2.1)
   have y2:=((N3.out.since S3.out hs4).cell (o:=2) hlW HWn.out).trans Q2.out
   have Hp4:=zh (show 0<st4.G.length by rw [hg4];simp)
   clear hc4 hs4 hd4 he4 hin4 hdec2 hg4 y1
   go_wp2_with fail
   refine Hdec2.out.mono ?_
   rintro en w5 ⟨rfl,st5,hc5,hs5,hd5⟩
   have he5:=hd5.stmt Hp4.out
   have hin5:=Hin4.out.behind hc5 hs5 he5
   have HE5:=zh (He4.out.then (f:=fun S=>declT S.G tt 1) he5)
   have hl5:st5.loops=st1.loops:=by rw [hd5.2.1,Hk4.out.1,Hst3.out];exact Hl2.out.1
   have hd5':st5.depth=st1.depth:=by rw [hd5.2.2.1,Hk4.out.2,Hst3.out];exact Hl2.out.2
   obtain ⟨L,hL⟩:=Int.eq_ofNat_of_zero_le Hlp.out.1
   have hlpp:=Hlp.out
   have c6:=hin5.at_.c6
   have z6:=hin5.at_.z 6
   rw [hl5,hL] at c6
   have hw6:IntKind.i64.wrap ((L:Int)+1)=(L:Int)+1:=IntWalk.i64_in _ (by omega)
   have hbc5:=hin5.at_.lb.2
   have hset:=hin5.at_.set 6 ((L:Int)+1) {st5 with loops:=(L:Int)+1} rfl (by decide) (by simp) (by simp) (by simp)
   have s6:Since (fun k=>k=bc) w5 (w5.setCell ⟨bc,6,none⟩ (.int .i64 ((L:Int)+1))):=Since.setCell w5 ⟨bc,6,none⟩ (.int .i64 ((L:Int)+1))
   have s36:=HS4.out.trans (hs5.trans (s6.mono (G:=ChkM bc vS3 bs3) (fun k e=>Or.inl e)))
   have S6:=zh (N3.out.since S3.out s36)
   have hl5':w.heap.size<w5.heap.size:=Nat.lt_of_lt_of_le hlW (Nat.le_trans S3.out.size (Nat.le_trans HS4.out.size hs5.size))
   have y4:w5.cell? ⟨w.heap.size,4,none⟩=some (.slice a4 body.length c4):=((N3.out.since S3.out (HS4.out.trans hs5)).cell (o:=4) hlW HWn.out).trans Q4.out
   have y4':=(s6.cell (o:=4) hl5' Hbc.out).trans y4
   have hin6:StmtIn fs dF res 1 (w5.setCell ⟨bc,6,none⟩ (.int .i64 ((L:Int)+1))) base bc vf cf vS3 bs3 {st5 with loops:=(L:Int)+1}:=
    hin5.next hset (s6.mono (fun k e=>Or.inl e)) rfl (fun z=>by have:=hin5.ok z;simp only at this ⊢;omega)
   have hbl:=typedBlock_any HSt.out hin6 body _ (Hk.out _ _ _ S6.out Hb.out) Hfb.out
   have hLn:((L:Int)+1).toNat=L+1:=by omega
   simp only [hLn,hd5'] at hbl
   have Hbl:=zh hbl
   have HL:=zh hL
   have Hl5:=zh (And.intro hl5 hd5')
   have HLb:=zh (show (L:Int)<200 by omega)
   have HS36:=zh s36
   have Hlen5:=zh hin5.len
   clear hc5 hs5 hd5 he5 hin5 hset s6 s36 hin6 hbl hLn hl5 hd5' hlpp hL y2
   go_wp2_with fail
   refine Hbl.out.mono ?_
   rintro en w7 ⟨rfl,vS7,bs7,st7,hc7,hs7,hn7,he7⟩
   obtain ⟨dv,hdv⟩: ∃ dv,IntKind.i64.wrap (st7.loops - 1)=dv:=⟨_,rfl⟩
   have c67:=hc7.c6
   have z67:=hc7.z 6
   have hbc7:=hc7.lb.2
   have hset:=hc7.set 6 dv {st7 with loops:=dv} rfl (by decide) (by simp) (by simp) (by simp)
   have s8:Since (ChkM bc vS7 bs7) w7 (w7.setCell ⟨bc,6,none⟩ (.int .i64 dv)):=(Since.setCell w7 ⟨bc,6,none⟩ (.int .i64 dv)).mono (fun k e=>Or.inl e)
   have n7:ChkAt.NewM W bc vS vS7 bs bs7:=N3.out.trans (fun k hk=>by rcases hn7 k hk with e|e;exact Or.inl e;exact Or.inr (Nat.le_trans HS36.out.size e)) S3.out.size
   have s78:=n7.since (N3.out.since S3.out (HS36.out.trans hs7)) s8
   have he8:=StmtEnd.loops (st:=st5) (l:=(L:Int)+1) (v:=dv) (by rw [Hl5.out.2];exact he7) (fun e=>by rw [←hdv,e,Hl5.out.1,HL.out,show (L:Int)+1 - 1=(L:Int) by omega];exact IntWalk.i64_in _ (by have:=HLb.out;omega))
   have hE8:=HE5.out.then (f:=fun S=>blockT (stmtT fs res d (L+1) st1.depth.toNat) S.G body) he8
   rw [Hst3.out] at hE8
   obtain ⟨g,r,hg⟩:=hE8.cons (by simp)
   obtain ⟨hrr,hE9⟩:=hE8.scope hg
   have hcl:=typedClose_any _ base bc vf cf vS7 bs7 _ hset g r hg (by rw [hrr];have:=Hin2.out.len;omega)
   have Hcl:=zh hcl
   have HE9:=zh hE9
   have Hr:=zh hrr
   have S78:=zh s78
   have N7:=zh n7
   clear hcl hE9 hE8 he8 hg hrr s78 n7 s8 hset hc7 hs7 hn7 he7
   go_wp2_with fail
   refine Hcl.out.mono ?_
   rintro en w9 ⟨rfl,vS9,bs9,hc9,hs9,hn9⟩
   have HP:StmtPost w base bc vf cf vS bs st1 R (.returned (.tuple #[])) w9:=by
    refine ⟨rfl,vS9,bs9,_,hc9,SA.out.trans (N7.out.since S78.out hs9),fun k hk=>?_,?_⟩
    ·
     rcases N7.out.trans hn9 S78.out.size k hk with e|e
     ·
      exact Or.inl e
     ·
      exact Or.inr (by omega)
    ·
     rw [Hr.out]
     refine (HW2.out.then (f:=fun S=>scopeT (bindT (bindT (declT ([]::S.G) ss 1) (fun G=>declT G tt 1)) (fun G=>blockT (stmtT fs res d (L+1) st1.depth.toNat) G body)) S.G) HE9.out).cast ?_
     rw [HR2.out,show st1.loops.toNat=L by rw [HL.out];rfl]
     by_cases hq:t=2
     ·
      simp only [hq,if_true,bindT]
     ·
      simp only [hq,if_false,bindT,scopeT]
      cases declT ([]::st1.G) ss 1 with
      |error e=>rfl
      |ok G1=>
       simp only
       cases declT G1 tt 1 with
       |error e=>rfl
       |ok G2=>cases blockT (stmtT fs res d (L+1) st1.depth.toNat) G2 body<;>rfl
   have HP:=zh HP
   clear hc9 hs9 hn9
   go_wp2_with fail
   go_end0
   exact HP.out
end Go.Proofs.YtkopjgnjflhkeaaGreatDoor

import Derived.Test.YtkopjgnjflhkeaaGreatDoorQZH
namespace Go.Proofs.YtkopjgnjflhkeaaGreatDoor
open Go.RowKit Go.Pst
set_option linter.unusedVariables false
set_option linter.unusedSimpArgs false
structure ExprIn (fs:List PFunc) (dF:Nat) (w:World) (base bc:Nat) (vf:Value) (cf:List Value) (vS:Value) (bs:List Nat) (st:Chk):Prop where
 at_:ChkAt w base bc vf cf vS bs st
 laid:TyLaid w base
 funcs:rFuncs dF (· <base) w [vf] fs
 len:st.G.length≤200000
 pos:0<st.G.length
 deep:st.fault=0→0≤st.depth∧st.depth≤120
theorem ExprIn.new {fs:List PFunc} {dF:Nat} {w w':World} {base bc:Nat} {vf:Value} {cf:List Value} {vS:Value} {bs:List Nat} {st:Chk} (h:ExprIn fs dF w base bc vf cf vS bs st) (hs:Since (fun _=>False) w w'):ExprIn fs dF w' base bc vf cf vS bs st:=
 ⟨h.at_.since hs (fun _ e=>e.elim),h.laid.since hs (fun _ e=>e.elim) h.at_.big,Good.kept (hs.keep.weaken (fun _ _ _ e=>e.elim)) h.funcs,h.len,h.pos,h.deep⟩
theorem ExprIn.next {fs:List PFunc} {dF:Nat} {w w':World} {base bc:Nat} {vf:Value} {cf:List Value} {vS:Value} {bs:List Nat} {st st':Chk} (h:ExprIn fs dF w base bc vf cf vS bs st) (h1:ChkAt w' base bc vf cf vS bs st') (hs:Since (fun k=>k=bc) w w') (hG:st'.G=st.G) (hd:st'.fault=0→st.fault=0∧st'.depth=st.depth):ExprIn fs dF w' base bc vf cf vS bs st':=by
 have hb:=h.at_.lb.1
 exact ⟨h1,h.laid.since hs (fun k e=>by rw [e];exact hb) h.at_.big,Good.kept (hs.keep.weaken (fun k _ hk e=>by omega)) h.funcs,by rw [hG];exact h.len,by rw [hG];exact h.pos,fun e=>by rw [(hd e).2];exact h.deep (hd e).1⟩
theorem ExprSaid.at {fs:List PFunc} {dF:Nat} {w:World} {base bc:Nat} {vf:Value} {cf:List Value} {vS:Value} {bs:List Nat} {st:Chk} (h:ExprIn fs dF w base bc vf cf vS bs st) {d:Nat} {x:PExpr} {cs:List Value} (hx:rExpr d (· <base) w cs x) (hf:FitX d x):
 Calls Tryz.prog 177 #[.pointer (some ⟨bc,0,none⟩), .agg cs.toArray] w (ExprPost w base bc vf cf vS bs st (exprT fs st.G d st.depth.toNat x)):=
 typedExpr_any fs dF base bc vf cf vS bs d x cs w st h.at_ h.laid h.funcs h.len h.pos h.deep hx hf
theorem rExpr_cells {d:Nat} {S:Nat→Prop} {w:World} {cs:List Value} {x:PExpr} (hx:rExpr d S w cs x): ∃ a3 c3,cs=[.int .i64 x.kind, .int .i64 x.n, .string x.s, .slice a3 x.args.length c3]:=by
 cases d with
 |zero=>exact hx.elim
 |succ d=>
  obtain ⟨v3,rfl,h5,h6⟩:=hx
  obtain ⟨a3,c3,rfl⟩:=rSlice_shape h6
  exact ⟨a3,c3,rfl⟩
theorem typedValued_any {fs:List PFunc} {dF:Nat} {w:World} {base bc:Nat} {vf:Value} {cf:List Value} {vS:Value} {bs:List Nat} {st:Chk} (h:ExprIn fs dF w base bc vf cf vS bs st) {d:Nat} {x:PExpr} {cs:List Value} (hx:rExpr d (· <base) w cs x) (hf:FitX d x):
 Calls Tryz.prog 172 #[.pointer (some ⟨bc,0,none⟩), .agg cs.toArray] w (ExprPost w base bc vf cf vS bs st (valuedT (exprT fs st.G d st.depth.toNat x))):=by
 obtain ⟨a3,c3,rfl⟩:=rExpr_cells hx
 have hsa:=Since.alloc (fun _=>False) w (.cells #[.int .i64 x.kind, .int .i64 x.n, .string x.s, .slice a3 x.args.length c3] 173)
 have hE:=zh (ExprSaid.at (h.new hsa) (Good.kept (hsa.keep.weaken (fun _ _ _ e=>e.elim)) hx) hf)
 have H:=zh h
 have SA:=zh (hsa.mono (G:=fun k=>k=bc) (fun _ e=>e.elim))
 obtain ⟨R,hR⟩: ∃ R:Except Int Int,R=exprT fs st.G d st.depth.toNat x:=⟨_,rfl⟩
 rw [←hR] at hE ⊢
 clear hR h hx hf hsa
 go_enter Tryz.func172,Tryz.ntmps172
 go_wp2_with fail
 refine hE.out.mono ?_
 rintro en w1 ⟨t,st1,rfl,h1,h2,h3,h4⟩
 have HC:=zh h1
 have HS:=zh h2
 have HA:=zh h3
 have HB:=zh h4
 clear h1 h2 h3 h4
 go_wp2_with fail
 refine (typedValue_any t w1).mono ?_
 rintro en w2 ⟨rfl,rfl⟩
 by_cases hv:1≤t∧t≤5
 ·
  have hv':decide (1≤t∧t≤5)=true:=decide_eq_true hv
  have HP:ExprPost w base bc vf cf vS bs st (valuedT R) (.returned (.int .i64 t)) w1:=⟨t,st1,rfl,HC.out,SA.out.trans HS.out,HA.out,fun h0=>by
   have:=HB.out h0
   cases R with
   |error e=>exact this
   |ok u=>
    obtain ⟨rfl,rfl⟩:=this
    simp only [valuedT,hv,and_self,if_true]
    exact ⟨rfl,rfl⟩⟩
  have HP:=zh HP
  clear hv
  go_wp2_with fail
  go_ret
  exact HP.out
 ·
  have hv':decide (1≤t∧t≤5)=false:=decide_eq_false hv
  have Hv:=zh hv
  clear hv
  go_wp2_with fail
  refine (typedWrong_any w1 base bc vf cf vS bs st1 HC.out 9).mono ?_
  rintro en w3 ⟨rfl,h1,h2⟩
  have HP:ExprPost w base bc vf cf vS bs st (valuedT R) (.returned (.int .i64 t)) w3:=⟨t,_,rfl,h1,SA.out.trans (HS.out.trans h2),fun h0=>by
   have:=HA.out h0
   subst this
   unfold Chk.bad
   rw [if_neg h0],fun h0=>by
   have:=HB.out h0
   cases R with
   |error e=>
    obtain ⟨q1,q2,q3,q4⟩:=this
    refine ⟨q1,?_,q3,q4⟩
    show (if st1.fault=0 then (9:Int) else st1.fault)=e
    rw [if_neg (by rw [q2];exact q1),q2]
   |ok u=>
    obtain ⟨rfl,rfl⟩:=this
    simp only [valuedT,Hv.out,if_false]
    exact KindEnd.bad h0 t (by decide)⟩
  have HP:=zh HP
  clear h1 h2
  go_wp2_with fail
  go_ret
  exact HP.out
end Go.Proofs.YtkopjgnjflhkeaaGreatDoor
namespace Go.Proofs.YtkopjgnjflhkeaaGreatDoor
open Go.RowKit Go.Pst
set_option linter.unusedVariables false
set_option linter.unusedSimpArgs false
def SameG (a b:List Scope):Prop:=a.length=b.length∧a.tail=b.tail
theorem SameG.of {a b:List Scope} (h:a=b):SameG a b:=by subst h;exact ⟨rfl,rfl⟩
theorem SameG.trans {a b c:List Scope} (h:SameG a b) (h':SameG b c):SameG a c:=⟨h.1.trans h'.1,h.2.trans h'.2⟩
def StmtEnd (st:Chk) (R:Except Int (List Scope)) (st':Chk):Prop:=
 SameG st'.G st.G∧(st.fault≠0→st'.fault=st.fault)∧(st.fault=0→match R with
  | .ok G'=>st'={st with G:=G'}
  | .error e=>e≠0∧st'.fault=e)
def SmallPost (w:World) (base bc:Nat) (vf:Value) (cf:List Value) (vS:Value) (bs:List Nat) (st:Chk) (R:Except Int (List Scope)) (en:Ending) (w':World):Prop:=
 en= .returned (.tuple #[])∧ ∃ st',ChkAt w' base bc vf cf vS bs st'∧Since (fun k=>k=bc) w w'∧StmtEnd st R st'
def WantEnd (st:Chk) (R:Except Int Int) (st':Chk):Prop:=
 match R with
 | .ok _=>st'=st
 | .error e=>e≠0∧st'.fault=e∧st'.G=st.G∧st'.loops=st.loops
theorem WantEnd.of {st st1:Chk} {r:Except Int Int} {t u:Int} (h:KindEnd st (valuedT r) t st1) (h0:st.fault=0):WantEnd st (isT r u) (if t=u then st1 else st1.bad 9):=by
 unfold isT
 cases hv:valuedT r with
 |error e=>
  rw [hv] at h
  obtain ⟨q1,q2,q3,q4⟩:=h
  have:(if t=u then st1 else st1.bad 9)=st1:=by
   split
   ·
    rfl
   ·
    unfold Chk.bad;rw [if_neg (by rw [q2];exact q1)]
  rw [this]
  exact ⟨q1,q2,q3,q4⟩
 |ok v=>
  rw [hv] at h
  obtain ⟨rfl,rfl⟩:=h
  by_cases hu:t=u
  ·
   simp only [hu,if_true];exact rfl
  ·
   simp only [hu,if_false]
   exact ⟨by decide,by simp [Chk.bad,h0],rfl,rfl⟩
theorem WantEnd.same {st:Chk} {R:Except Int Int} {st':Chk} (h:WantEnd st R st') (h0:st'.fault=0):st'=st∧ ∃ v,R= .ok v:=by
 cases R with
 |ok v=>exact ⟨h,v,rfl⟩
 |error e=>exact absurd (h.2.1.symm.trans h0) h.1
theorem WantEnd.err {st:Chk} {R:Except Int Int} {st':Chk} (h:WantEnd st R st') (hs:st.fault=0) (h0:st'.fault≠0):R= .error st'.fault∧st'.G=st.G:=by
 cases R with
 |ok v=>rw [show st'=st from h] at h0;exact absurd hs h0
 |error e=>exact ⟨by rw [h.2.1],h.2.2.1⟩
theorem WantEnd.G_eq {st:Chk} {R:Except Int Int} {st':Chk} (h:WantEnd st R st'):st'.G=st.G:=by
 cases R with
 |ok v=>rw [show st'=st from h]
 |error e=>exact h.2.2.1
theorem want_end {st st1:Chk} {r:Except Int Int} {t u:Int} (h1:st.fault≠0→st1=st) (h2:st.fault=0→KindEnd st (valuedT r) t st1):
 (st.fault≠0→(if t=u then st1 else st1.bad 9)=st)∧(st.fault=0→WantEnd st (isT r u) (if t=u then st1 else st1.bad 9)):=by
 refine ⟨fun h=>?_,fun h=>WantEnd.of (h2 h) h⟩
 rw [h1 h]
 split
 ·
  rfl
 ·
  unfold Chk.bad;rw [if_neg h]
theorem want2 {st S1 S2:Chk} {X:Except Int Int} {Y:Chk→Except Int Int} (h0:st.fault=0) (h1:WantEnd st X S1) (h2:S1.fault≠0→S2=S1) (h3:S1.fault=0→WantEnd S1 (Y S1) S2):
 S2.G=st.G∧(S2.fault=0→S2=st∧(∃ v,X= .ok v)∧ ∃ v,Y st= .ok v)∧(S2.fault≠0→X= .error S2.fault∨((∃ v,X= .ok v)∧Y st= .error S2.fault)):=by
 by_cases hz:S1.fault=0
 ·
  obtain ⟨rfl,hv⟩:=h1.same hz
  have h4:=h3 hz
  exact ⟨h4.G_eq,fun e=>⟨(h4.same e).1,hv,(h4.same e).2⟩,fun e=>Or.inr ⟨hv,(h4.err hz e).1⟩⟩
 ·
  rw [h2 hz]
  exact ⟨h1.G_eq,fun e=>absurd e hz,fun e=>Or.inl (h1.err h0 hz).1⟩
theorem find_end {st st5:Chk} {s:ByteArray} {t:Int} (P:Int→Prop) [DecidablePred P] (h0:st.fault=0) (h:KindEnd st (match findT st.G s with|some t=> .ok t|none=> .error 6) t st5):
 StmtEnd st (match findT st.G s with|none=> .error 6|some u=>if P u then .ok st.G else .error 9) (if P t then st5 else st5.bad 9):=by
 cases hf:findT st.G s with
 |none=>
  rw [hf] at h
  obtain ⟨q1,q2,q3,q4⟩:=h
  have:(if P t then st5 else st5.bad 9)=st5:=by
   split
   ·
    rfl
   ·
    unfold Chk.bad;rw [if_neg (by rw [q2];exact q1)]
  rw [this]
  exact ⟨SameG.of q3,fun h=>absurd h0 h,fun _=>⟨q1,q2⟩⟩
 |some u=>
  rw [hf] at h
  obtain ⟨rfl,rfl⟩:=h
  by_cases hu:P t
  ·
   simp only [hu,if_true]
   exact ⟨SameG.of rfl,fun _=>rfl,fun _=>rfl⟩
  ·
   simp only [hu,if_false]
   exact ⟨SameG.of rfl,fun h=>absurd h0 h,fun _=>⟨by decide,by simp [Chk.bad,h0]⟩⟩
def putT (fs:List PFunc) (G:List Scope) (d k:Nat) (s:PStmt):Except Int (List Scope):=
 match s.exprs with
 |[x,y]=>(match isT (exprT fs G d k x) 1 with
  | .error e=> .error e
  | .ok _=>match isT (exprT fs G d k y) 1 with
   | .error e=> .error e
   | .ok _=>match findT G s.s with
    |none=> .error 6
    |some u=>if u=4∨u=5 then .ok G else .error 9)
 |_=> .error 8
theorem rExprs_get {d:Nat} {S:Nat→Prop} {w:World} {v:Value} {l:List PExpr} (h:rSlice 4 (rExpr d) S w [v] l) (i:Nat) (hi:i<l.length):
 ∃ b off cap a3 c3,v= .slice (some ⟨b,off,none⟩) l.length cap∧S b∧b<w.heap.size∧
  w.cell? ⟨b,off+i*4,none⟩=some (.int .i64 l[i].kind)∧w.cell? ⟨b,off+i*4+1,none⟩=some (.int .i64 l[i].n)∧w.cell? ⟨b,off+i*4+2,none⟩=some (.string l[i].s)∧w.cell? ⟨b,off+i*4+3,none⟩=some (.slice a3 l[i].args.length c3)∧
  rExpr d S w [.int .i64 l[i].kind, .int .i64 l[i].n, .string l[i].s, .slice a3 l[i].args.length c3] l[i]:=by
 obtain ⟨a,cap,rfl,h2,h3,h4⟩:=rExprs_at h
 obtain ⟨b,off,v3,rfl,hS,hb,x0,x1,x2,x3,hr,a3,c3,rfl⟩:=h4 i hi
 exact ⟨b,off,cap,a3,c3,rfl,hS,hb,x0,x1,x2,x3,hr⟩
set_option maxHeartbeats 1000000 in
theorem typedPut_any {fs:List PFunc} {dF:Nat} {w:World} {base bc:Nat} {vf:Value} {cf:List Value} {vS:Value} {bs:List Nat} {st:Chk} (h:ExprIn fs dF w base bc vf cf vS bs st) (h0:st.fault=0) {d:Nat} (s:PStmt) (v3 v4 v5 v6:Value)
 (hx:rSlice 4 (rExpr d) (· <base) w [v3] s.exprs) (hf: ∀ y∈s.exprs,FitX d y) (hl:s.exprs.length=2):
 Calls Tryz.prog 175 #[.pointer (some ⟨bc,0,none⟩), .agg #[.int .i64 s.kind, .string s.s, .string s.t,v3,v4,v5,v6]] w (SmallPost w base bc vf cf vS bs st (putT fs st.G d st.depth.toNat s)):=by
 obtain ⟨x,y,hxy⟩: ∃ x y,s.exprs=[x,y]:=by
  match hq:s.exprs,hl with
  |[x,y],_=>exact ⟨x,y,rfl⟩
 rw [hxy] at hx hf
 obtain ⟨b,off,cap,a3,c3,rfl,hSb,hbl,x0,x1,x2,x3,hrx⟩:=rExprs_get hx 0 (by simp)
 obtain ⟨b',off',cap',a3',c3',hv,-,-,y0,y1,y2,y3,hry⟩:=rExprs_get hx 1 (by simp)
 obtain ⟨⟨rfl,rfl⟩,rfl⟩:(b=b'∧off=off')∧cap=cap':=by simpa using hv
 simp only [List.getElem_cons_zero,List.getElem_cons_succ,Nat.zero_mul,Nat.add_zero,Nat.one_mul] at x0 x1 x2 x3 y0 y1 y2 y3 hrx hry
 have hfx:=hf x (by simp)
 have hfy:=hf y (by simp)
 have hbn:b≠bc:=by have:=h.at_.lb.1;omega
 have sA:=Since.alloc (fun _=>False) w (.cells #[.int .i64 s.kind, .string s.s, .string s.t, .slice (some ⟨b,off,none⟩) ([x,y]:List PExpr).length cap,v4,v5,v6] 91)
 obtain ⟨R,hR⟩: ∃ R,R=putT fs st.G d st.depth.toNat s:=⟨_,rfl⟩
 rw [←hR]
 have HR:=zh (show R=(match isT (exprT fs st.G d st.depth.toNat x) 1 with
  | .error e=> .error e
  | .ok _=>match isT (exprT fs st.G d st.depth.toNat y) 1 with
   | .error e=> .error e
   | .ok _=>match findT st.G s.s with
    |none=> .error 6
    |some u=>if u=4∨u=5 then .ok st.G else .error 9) by rw [hR,putT,hxy])
 have hE:=typedValued_any (h.new sA) (Good.kept (sA.keep.weaken (fun _ _ _ e=>e.elim)) hrx) hfx
 have HE:=zh hE
 have H:=zh (h.new sA)
 have Hwb:=zh (show w.heap.size≠bc by have:=h.at_.lb.2;omega)
 have SA:=zh (sA.mono (G:=fun k=>k=bc) (fun _ e=>e.elim))
 have H0:=zh h0
 have Hy:=zh hry
 have Hfy:=zh hfy
 clear hE sA hR h h0 hx hf hl hv hrx hry hfx hfy hxy
 simp only [List.length_cons,List.length_nil] at *
 go_enter Tryz.func175,Tryz.ntmps175
 go_wp2_with fail
 refine HE.out.mono ?_
 rintro en w1 ⟨t1,st1,rfl,hc1,hs1,ha1,hb1⟩
 have HC1:=zh hc1
 have HSr:=zh hs1
 have HS1:=zh (SA.out.trans hs1)
 have HW1:=zh (want_end (u:=1) ha1 hb1)
 have hlw1:w.heap.size<w1.heap.size:=Nat.lt_of_lt_of_le (by simp) hs1.size
 have q1:w1.cell? ⟨w.heap.size,3,none⟩=some (.slice (some ⟨b,off,none⟩) 2 cap):=(hs1.cell (o:=3) (by simp) Hwb.out).trans (by rw [World.cell?_alloc_at _ _ _ _ rfl];rfl)
 have q2:w1.cell? ⟨w.heap.size,1,none⟩=some (.string s.s):=(hs1.cell (o:=1) (by simp) Hwb.out).trans (by rw [World.cell?_alloc_at _ _ _ _ rfl];rfl)
 clear hc1 hs1 ha1 hb1
 go_wp2_with fail
 refine (typedWant_any w1 base bc vf cf vS bs st1 HC1.out t1 1).mono ?_
 rintro en w2 ⟨rfl,hc2,hs2⟩
 have hW:=HW1.out.2 H0.out
 generalize (if t1=1 then st1 else st1.bad 9)=S1 at *
 have HW:=zh hW
 have hin:=H.out.next hc2 (HSr.out.trans hs2) hW.G_eq (fun e=>⟨H0.out,by rw [(hW.same e).1]⟩)
 have HS2:=zh (HS1.out.trans hs2)
 have HC2:=zh hc2
 have hw:=fun o=>(HS2.out.cell (o:=o) hbl hbn)
 have y0':=(hw _).trans y0
 have y1':=(hw _).trans y1
 have y2':=(hw _).trans y2
 have y3':=(hw _).trans y3
 have r1:=(hs2.cell (o:=3) hlw1 Hwb.out).trans q1
 have r2:=(hs2.cell (o:=1) hlw1 Hwb.out).trans q2
 have hE2:=typedValued_any hin (Good.kept (HS2.out.keep.weaken (fun k _ hk e=>by have:=hin.at_.lb.1;omega)) Hy.out) Hfy.out
 have HE2:=zh hE2
 have Hin:=zh hin
 have hlw2:w.heap.size<w2.heap.size:=Nat.lt_of_lt_of_le hlw1 hs2.size
 clear hW hin hc2 hs2 hw hE2 q1 q2 y0 y1 y2 y3
 go_wp2_with fail
 refine HE2.out.mono ?_
 rintro en w3 ⟨t2,st2,rfl,hc3,hs3,ha3,hb3⟩
 have HC3:=zh hc3
 have HS3:=zh hs3
 have HW3:=zh (want_end (u:=1) ha3 hb3)
 have r2':=(hs3.cell (o:=1) hlw2 Hwb.out).trans r2
 have hlw3:w.heap.size<w3.heap.size:=Nat.lt_of_lt_of_le hlw2 hs3.size
 clear hc3 hs3 ha3 hb3
 go_wp2_with fail
 refine (typedWant_any w3 base bc vf cf vS bs st2 HC3.out t2 1).mono ?_
 rintro en w4 ⟨rfl,hc4,hs4⟩
 have hW:=HW3.out
 generalize (if t2=1 then st2 else st2.bad 9)=S2 at *
 have c8:=hc4.c8
 have r3:=(hs4.cell (o:=1) hlw3 Hwb.out).trans r2'
 have HS4:=zh (HS2.out.trans (HS3.out.trans hs4))
 have hw2:=want2 (Y:=fun S=>isT (exprT fs S.G d S.depth.toNat y) 1) H0.out HW.out hW.1 hW.2
 have HC4:=zh hc4
 have W2:=zh hw2
 clear hW hw2 hc4 hs4
 by_cases hz:S2.fault=0
 ·
  have hz':(S2.fault !=0)=false:=by simp [hz]
  obtain ⟨e1,⟨v1,e2⟩,⟨v2,e3⟩⟩:=W2.out.2.1 hz
  have Hr:=zh (show R=(match findT st.G s.s with
   |none=> .error 6
   |some u=>if u=4∨u=5 then .ok st.G else .error 9) by rw [HR.out,e2,e3])
  subst e1
  have h1:=H.out.len
  have h2:=H.out.pos
  clear e2 e3 hz
  go_wp2_with fail
  refine (typedFind_any w4 base bc vf cf vS bs S2 HC4.out H0.out h1 h2 s.s).mono ?_
  rintro en w5 ⟨t,st5,rfl,hc5,hs5,hk⟩
  have HP: ∀ w6 st6,ChkAt w6 base bc vf cf vS bs st6→Since (fun k=>k=bc) w5 w6→st6=(if t=4∨t=5 then st5 else st5.bad 9)→SmallPost w base bc vf cf vS bs S2 R (.returned (.tuple #[])) w6:=fun w6 st6 a1 a2 a3=>by
   subst a3
   refine ⟨rfl,_,a1,HS4.out.trans (hs5.trans a2),?_⟩
   rw [Hr.out]
   exact find_end (fun u=>u=4∨u=5) H0.out hk
  have HP:=zh HP
  have HC5:=zh hc5
  clear hc5 hs5 hk h1 h2
  by_cases e4:t=4
  ·
   have e4':(t !=4)=false:=by simp [e4]
   go_wp2_with fail
   go_end0
   exact HP.out w5 st5 HC5.out (Since.refl _ _) (by rw [if_pos (Or.inl e4)])
  ·
   have e4':(t !=4)=true:=by simp [e4]
   by_cases e5:t=5
   ·
    have e5':(t !=5)=false:=by simp [e5]
    go_wp2_with fail
    go_end0
    exact HP.out w5 st5 HC5.out (Since.refl _ _) (by rw [if_pos (Or.inr e5)])
   ·
    have e5':(t !=5)=true:=by simp [e5]
    have He:=zh (And.intro e4 e5)
    clear e4 e5
    go_wp2_with fail
    refine (typedWrong_any w5 base bc vf cf vS bs st5 HC5.out 9).mono ?_
    rintro en w6 ⟨rfl,h1,h2⟩
    have HQ:=zh (HP.out w6 _ h1 h2 (by rw [if_neg (by have:=He.out;omega)]))
    clear h1 h2
    go_wp2_with fail
    go_end0
    exact HQ.out
 ·
  have hz':(S2.fault !=0)=true:=by simp [hz]
  have HP:SmallPost w base bc vf cf vS bs st R (.returned (.tuple #[])) w4:=by
   refine ⟨rfl,S2,HC4.out,HS4.out,SameG.of W2.out.1,fun h=>absurd H0.out h,fun _=>?_⟩
   rcases W2.out.2.2 hz with e|⟨⟨v,e1⟩,e⟩
   ·
    rw [HR.out,e];exact ⟨hz,rfl⟩
   ·
    rw [HR.out,e1,e];exact ⟨hz,rfl⟩
  have HP:=zh HP
  clear hz
  go_wp2_with fail
  go_end0
  exact HP.out
end Go.Proofs.YtkopjgnjflhkeaaGreatDoor
namespace Go.Proofs.YtkopjgnjflhkeaaGreatDoor
open Go.RowKit Go.Pst
set_option linter.unusedVariables false
set_option linter.unusedSimpArgs false
theorem WantEnd.small {st S:Chk} {X:Except Int Int} (h:WantEnd st X S) (h0:st.fault=0):StmtEnd st (match (generalizing:=false) X with| .error e=> .error e| .ok _=> .ok st.G) S:=by
 refine ⟨SameG.of h.G_eq,fun e=>absurd h0 e,fun _=>?_⟩
 cases X with
 |error e=>exact ⟨h.1,h.2.1⟩
 |ok v=>exact h
theorem ChkAt.res {w:World} {base bc:Nat} {vf:Value} {cf:List Value} {vS:Value} {bs:List Nat} {st:Chk} (h:ChkAt w base bc vf cf vS bs st) {v:Value} (hv:cf[2]?=some v):w.cell? ⟨bc,3,none⟩=some v:=by
 have hl:=h.cl
 have:=h.c1 2 (by omega)
 rw [List.getElem?_eq_getElem (by omega)] at hv
 exact this.trans hv
set_option maxHeartbeats 2000000 in
theorem typedBack_any {fs:List PFunc} {dF:Nat} {w:World} {base bc:Nat} {vf:Value} {cf:List Value} {vS:Value} {bs:List Nat} {st:Chk} (h:ExprIn fs dF w base bc vf cf vS bs st) (h0:st.fault=0) {d:Nat} (s:PStmt) (v3 v4 v5 v6:Value)
 (hx:rSlice 4 (rExpr d) (· <base) w [v3] s.exprs) (hf: ∀ y∈s.exprs,FitX d y) (res:Int) (hres:cf[2]?=some (.int .i64 res)):
 Calls Tryz.prog 176 #[.pointer (some ⟨bc,0,none⟩), .agg #[.int .i64 s.kind, .string s.s, .string s.t,v3,v4,v5,v6]] w (SmallPost w base bc vf cf vS bs st (backT st.G res s.exprs (exprT fs st.G d st.depth.toNat))):=by
 have c3:=h.at_.res hres
 obtain ⟨a3,cap,rfl⟩:=rSlice_shape hx
 obtain ⟨_,_,hv,hca,hcb,-⟩:=rExprs_at hx
 obtain ⟨rfl,-,rfl⟩:=Value.slice.inj hv
 have hall:s.exprs.length≤9223372036854775807:=by unfold maxLen at hcb;omega
 have hlt:=h.at_.lb.2
 have sA:=Since.alloc (fun _=>False) w (.cells #[.int .i64 s.kind, .string s.s, .string s.t, .slice a3 s.exprs.length cap,v4,v5,v6] 91)
 obtain ⟨R,hR⟩: ∃ R,R=backT st.G res s.exprs (exprT fs st.G d st.depth.toNat):=⟨_,rfl⟩
 rw [←hR]
 have HR:=zh hR
 have H:=zh (h.new sA)
 have SA:=zh (sA.mono (G:=fun k=>k=bc) (fun _ e=>e.elim))
 have SA0:=zh sA
 have H0:=zh h0
 have Hwb:=zh (show w.heap.size≠bc by omega)
 have Hbase:=zh h.at_.lb.1
 have Hx:=zh hx
 have Hf:=zh hf
 clear sA hR h h0 hx hf hv hca hcb
 by_cases hr:res=0
 ·
  subst hr
  by_cases hl:s.exprs.length=0
  ·
   have HP:SmallPost w base bc vf cf vS bs st R (.returned (.tuple #[])) (w.alloc (.cells #[.int .i64 s.kind, .string s.s, .string s.t, .slice a3 s.exprs.length cap,v4,v5,v6] 91)):=
    ⟨rfl,st,H.out.at_,SA.out,SameG.of rfl,fun _=>rfl,fun _=>by rw [HR.out];unfold backT;rw [if_pos rfl,if_pos hl]⟩
   have HP:=zh HP
   rw [hl] at *
   clear hl
   go_enter Tryz.func176,Tryz.ntmps176
   go_wp2_with fail
   go_end0
   exact HP.out
  ·
   have hl':((s.exprs.length:Int) !=0)=true:=bne_iff_ne.2 (by omega)
   have Hl:=zh hl
   clear hl
   go_enter Tryz.func176,Tryz.ntmps176
   go_wp2_with fail
   refine (typedWrong_any _ base bc vf cf vS bs st H.out.at_ 10).mono ?_
   rintro en w2 ⟨rfl,h1,h2⟩
   have HP:SmallPost w base bc vf cf vS bs st R (.returned (.tuple #[])) w2:=
    ⟨rfl,_,h1,SA.out.trans h2,SameG.of rfl,fun e=>absurd H0.out e,fun _=>by rw [HR.out];unfold backT;rw [if_pos rfl,if_neg Hl.out];exact ⟨by decide,by simp [Chk.bad,H0.out]⟩⟩
   have HP:=zh HP
   clear h1 h2
   go_wp2_with fail
   go_end0
   exact HP.out
 ·
  have hr':(res !=0)=true:=by simpa using hr
  by_cases hl:s.exprs.length=1
  ·
   obtain ⟨x,hxy⟩: ∃ x,s.exprs=[x]:=by
    match hq:s.exprs,hl with
    |[x],_=>exact ⟨x,rfl⟩
   have Hr:=zh (show R=match isT (exprT fs st.G d st.depth.toNat x) res with| .error e=> .error e| .ok _=> .ok st.G by rw [HR.out];unfold backT;rw [if_neg hr,hxy];rfl)
   have hx:=Hx.out
   have hf:=Hf.out
   rw [hl] at SA SA0 H ⊢
   rw [hxy] at hx hf
   obtain ⟨b,off,cap',a4,c4,hv,hSb,hbl,x0,x1,x2,x3,hrx⟩:=rExprs_get hx 0 (by simp)
   obtain ⟨rfl,-,rfl⟩:=Value.slice.inj hv
   simp only [List.getElem_cons_zero,Nat.zero_mul,Nat.add_zero] at x0 x1 x2 x3 hrx
   have hbn:b≠bc:=by have:=Hbase.out;omega
   obtain ⟨W,hW⟩: ∃ W,W=w.alloc (.cells #[.int .i64 s.kind, .string s.s, .string s.t, .slice (some ⟨b,off,none⟩) 1 cap,v4,v5,v6] 91):=⟨_,rfl⟩
   have hcl:(fun w':World=>w'.cell? ⟨w.heap.size,3,none⟩=some (.slice (some ⟨b,off,none⟩) 1 cap)∧w'.cell? ⟨b,off,none⟩=some (.int .i64 x.kind)∧w'.cell? ⟨b,off+1,none⟩=some (.int .i64 x.n)∧w'.cell? ⟨b,off+2,none⟩=some (.string x.s)∧w'.cell? ⟨b,off+3,none⟩=some (.slice a4 x.args.length c4)∧w'.cell? ⟨bc,3,none⟩=some (.int .i64 res)) W:=by
    refine ⟨by rw [hW,World.cell?_alloc_at _ _ _ _ rfl];rfl,?_,?_,?_,?_,?_⟩
    ·
     rw [hW];exact (World.cell?_alloc_lt _ _ _ hbl).trans x0
    ·
     rw [hW];exact (World.cell?_alloc_lt _ _ _ hbl).trans x1
    ·
     rw [hW];exact (World.cell?_alloc_lt _ _ _ hbl).trans x2
    ·
     rw [hW];exact (World.cell?_alloc_lt _ _ _ hbl).trans x3
    ·
     rw [hW];exact (World.cell?_alloc_lt _ _ _ hlt).trans c3
   have hW1:w.heap.size<W.heap.size:=by rw [hW];simp
   have hW2:b<W.heap.size:=by omega
   rw [←hW] at SA SA0 H
   have hin:=H.out.new (Since.drew (fun _=>False) W)
   have hE:=typedValued_any hin (Good.kept ((SA0.out.trans (Since.drew _ _)).keep.weaken (fun _ _ _ e=>e.elim)) hrx) (hf x (by simp))
   have HE:=zh hE
   have Hin:=zh hin
   have HSS:=zh (show ∀ w3 st3,Since (fun k=>k=bc) W w3→ChkAt w3 base bc vf cf vS bs st3→(fun w':World=>w'.cell? ⟨w.heap.size,3,none⟩=some (.slice (some ⟨b,off,none⟩) 1 cap)∧w'.cell? ⟨b,off,none⟩=some (.int .i64 x.kind)∧w'.cell? ⟨b,off+1,none⟩=some (.int .i64 x.n)∧w'.cell? ⟨b,off+2,none⟩=some (.string x.s)∧w'.cell? ⟨b,off+3,none⟩=some (.slice a4 x.args.length c4)∧w'.cell? ⟨bc,3,none⟩=some (.int .i64 res)) w3 from fun w3 st3 hs hc=>
    ⟨(hs.cell (o:=3) hW1 Hwb.out).trans hcl.1,(hs.cell (o:=off) hW2 hbn).trans hcl.2.1,(hs.cell (o:=off+1) hW2 hbn).trans hcl.2.2.1,(hs.cell (o:=off+2) hW2 hbn).trans hcl.2.2.2.1,(hs.cell (o:=off+3) hW2 hbn).trans hcl.2.2.2.2.1,hc.res hres⟩)
   have hS0:=hcl
   have HD:=zh (Since.drew (fun k=>k=bc) W)
   clear hE hin hx hf hv hrx hxy hl hr hcl
   subst hW
   go_enter Tryz.func176,Tryz.ntmps176
   go_upto_region 7 with fail
   go_region_held3 (fun w':World=>w'.cell? ⟨w.heap.size,3,none⟩=some (.slice (some ⟨b,off,none⟩) 1 cap)∧w'.cell? ⟨b,off,none⟩=some (.int .i64 x.kind)∧w'.cell? ⟨b,off+1,none⟩=some (.int .i64 x.n)∧w'.cell? ⟨b,off+2,none⟩=some (.string x.s)∧w'.cell? ⟨b,off+3,none⟩=some (.slice a4 x.args.length c4)∧w'.cell? ⟨bc,3,none⟩=some (.int .i64 res)) (first|exact hS0|exact hS2|exact hS4)
    (first
     |(go_at_call 172;refine HE.out.mono ?_;rintro en w1 ⟨t1,st1,rfl,hc1,hs1,ha1,hb1⟩;have hS2:=HSS.out w1 st1 (HD.out.trans hs1) hc1)
     |(go_at_call 173;refine (typedWant_any w1 base bc vf cf vS bs st1 hc1 t1 res).mono ?_;rintro en w2 ⟨rfl,hc2,hs2⟩;have hS4:=HSS.out w2 _ (HD.out.trans (hs1.trans hs2)) hc2))
   have HP:SmallPost w base bc vf cf vS bs st R (.returned (.tuple #[])) w2:=by
    refine ⟨rfl,_,hc2,SA.out.trans (HD.out.trans (hs1.trans hs2)),?_⟩
    rw [Hr.out]
    exact ((want_end (u:=res) ha1 hb1).2 H0.out).small H0.out
   have HP:=zh HP
   clear hc1 hs1 ha1 hb1 hc2 hs2 hS2 hS4
   all_goals go_wp2_with fail
   go_end0
   exact HP.out
  ·
   have hl':((s.exprs.length:Int) !=1)=true:=bne_iff_ne.2 (by omega)
   have Hl:=zh (And.intro hl hr)
   clear hl hr
   go_enter Tryz.func176,Tryz.ntmps176
   go_wp2_with fail
   refine (typedWrong_any _ base bc vf cf vS bs st H.out.at_ 10).mono ?_
   rintro en w2 ⟨rfl,h1,h2⟩
   have HP:SmallPost w base bc vf cf vS bs st R (.returned (.tuple #[])) w2:=
    ⟨rfl,_,h1,SA.out.trans h2,SameG.of rfl,fun e=>absurd H0.out e,fun _=>by
     have hq: ∀ E,backT st.G res s.exprs E= .error 10:=fun E=>by
      have:=Hl.out.1
      unfold backT
      rw [if_neg Hl.out.2]
      split
      ·
       rename_i x hx;rw [hx] at this;exact absurd rfl this
      ·
       rfl
     rw [HR.out,hq]
     exact ⟨by decide,by simp [Chk.bad,H0.out]⟩⟩
   have HP:=zh HP
   clear h1 h2
   go_wp2_with fail
   go_end0
   exact HP.out
end Go.Proofs.YtkopjgnjflhkeaaGreatDoor

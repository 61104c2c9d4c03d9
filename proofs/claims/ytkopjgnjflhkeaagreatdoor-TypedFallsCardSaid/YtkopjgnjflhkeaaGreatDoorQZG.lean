import Derived.Test.YtkopjgnjflhkeaaGreatDoorQI
namespace Go.Proofs.YtkopjgnjflhkeaaGreatDoor
open Go.RowKit Go.Pst
set_option linter.unusedVariables false
set_option linter.unusedSimpArgs false
theorem row_one {w:World} {base:Nat} {vT:Value} {ts:List Int} (h:w.ownsRow base 3 1 vT ts.length (ts.map (Value.int .i64))) {k:Nat} (hk:k<ts.length):
 ∃ gT cT,vT= .slice (some ⟨gT,0,none⟩) ts.length cT∧gT<w.heap.size∧ ∀ j (hj:j<ts.length),w.cell? ⟨gT,j,none⟩=some (.int .i64 ts[j]):=by
 obtain ⟨gT,cT,rfl,-,-,hl,-,-⟩:=rowGet h (i:=k) (u:= .int .i64 ts[k]) (by simp [hk])
 refine ⟨gT,cT,rfl,hl,fun j hj=>?_⟩
 obtain ⟨g',c',hv,-,-,-,hc,-⟩:=rowGet h (i:=j) (u:= .int .i64 ts[j]) (by simp [hj])
 obtain ⟨rfl,-⟩:gT=g'∧_:=by simpa using hv
 exact hc
set_option maxHeartbeats 1000000 in
theorem typedKind_any (d:Nat) (fs:List PFunc) (w:World) (base bc:Nat) (vf:Value) (cf:List Value) (vS:Value) (bs:List Nat) (st:Chk) (h:ChkAt w base bc vf cf vS bs st) (h0:st.fault=0) (hl:st.G.length≤200000) (hl0:0<st.G.length)
 (x:PExpr) (hk:1≤x.kind∧x.kind≤12) (a3:Option Addr) (l3 c3:Nat) (ts:List Int) (hn:0≤argsN x.kind→argsN x.kind=ts.length) (vT:Value) (hf:rFuncs d (· <base) w [vf] fs) (hts:w.ownsRow base 3 1 vT ts.length (ts.map (Value.int .i64))) (hnT:vT.ownBlock≠some bc):
 Calls Tryz.prog 211 #[.pointer (some ⟨bc,0,none⟩), .agg #[.int .i64 x.kind, .int .i64 x.n, .string x.s, .slice a3 l3 c3],vT] w (OpPost w base bc vf cf vS bs st (kindT fs st.G x ts)):=by
 obtain ⟨aT,cT,hvT,-,-⟩:=row_slice hts
 have hlen: ∀ n:Nat,argsN x.kind=n→ts.length=n:=fun n e=>by have:=hn (by omega);omega
 have one:ts.length=1→ ∃ a gT cT,ts=[a]∧vT= .slice (some ⟨gT,0,none⟩) 1 cT∧gT<w.heap.size∧w.cell? ⟨gT,0,none⟩=some (.int .i64 a)∧gT≠bc:=fun e=>by
  obtain ⟨gT,cT,rfl,h1,h2⟩:=row_one hts (k:=0) (by omega)
  match ts,e with
  |[a],_=>exact ⟨a,gT,cT,rfl,rfl,h1,h2 0 (by simp),fun e=>hnT (by rw [←e];rfl)⟩
 have two:ts.length=2→ ∃ a b gT cT,ts=[a,b]∧vT= .slice (some ⟨gT,0,none⟩) 2 cT∧gT<w.heap.size∧w.cell? ⟨gT,0,none⟩=some (.int .i64 a)∧w.cell? ⟨gT,1,none⟩=some (.int .i64 b)∧gT≠bc:=fun e=>by
  obtain ⟨gT,cT,rfl,h1,h2⟩:=row_one hts (k:=0) (by omega)
  match ts,e with
  |[a,b],_=>exact ⟨a,b,gT,cT,rfl,rfl,h1,h2 0 (by simp),h2 1 (by simp),fun e=>hnT (by rw [←e];rfl)⟩
 have cases:x.kind=1∨x.kind=2∨x.kind=3∨x.kind=4∨x.kind=5∨x.kind=6∨x.kind=7∨x.kind=8∨x.kind=9∨x.kind=10∨x.kind=11∨x.kind=12:=by omega
 rcases cases with e|e|e|e|e|e|e|e|e|e|e|e
 ·
  subst hvT;rw [show kindT fs st.G x ts=if -1099511627776≤x.n∧x.n≤1099511627776 then .ok 1 else .error 2 by simp [kindT,e],e]
  exact kind_1 w base bc vf cf vS bs st h h0 _ _ a3 l3 c3 aT _ cT _ rfl
 ·
  subst hvT;rw [show kindT fs st.G x ts=if (x.s.size:Int)≤4000 then .ok 3 else .error 1 by
   unfold kindT
   rw [if_neg (by omega),if_pos e]
   by_cases hs:4000<x.s.size
   ·
    rw [if_pos hs,if_neg (by omega)]
   ·
    rw [if_neg hs,if_pos (by omega)],e]
  exact kind_2 w base bc vf cf vS bs st h h0 _ _ a3 l3 c3 aT _ cT _ rfl
 ·
  subst hvT;rw [show kindT fs st.G x ts=if 0≤x.n∧x.n≤1 then .ok 2 else .error 2 by simp [kindT,e],e]
  exact kind_3 w base bc vf cf vS bs st h h0 _ _ a3 l3 c3 aT _ cT _ rfl
 ·
  subst hvT;rw [show kindT fs st.G x ts=(match findT st.G x.s with|some t=> .ok t|none=> .error 6) by simp [kindT,e];cases findT st.G x.s<;>rfl,e]
  exact kind_4 w base bc vf cf vS bs st h h0 _ _ a3 l3 c3 aT _ cT hl hl0 _ rfl
 ·
  obtain ⟨a,b,gT,cT',rfl,rfl,q1,q2,q3,q4⟩:=two (hlen 2 (by simp [argsN,e]))
  rw [show kindT fs st.G x [a,b]=opT x.s.toList a b by simp [kindT,e],e]
  exact kind_5 w base bc vf cf vS bs st h h0 _ _ a3 l3 c3 gT cT' a b q2 q3 q1 q4 _ rfl
 ·
  obtain ⟨a,gT,cT',rfl,rfl,q1,q2,q3⟩:=one (hlen 1 (by simp [argsN,e]))
  rw [show kindT fs st.G x [a]=oneT x.s.toList a by simp [kindT,e,oneT],e]
  exact kind_6 w base bc vf cf vS bs st h h0 _ _ a3 l3 c3 gT cT' a q2 q1 q3 _ rfl
 ·
  subst hvT;rw [show kindT fs st.G x ts=callT fs x.s ts by simp [kindT,e],e]
  exact kind_7 w base bc vf cf vS bs st h h0 _ _ a3 l3 c3 d fs ts aT cT hf hts hnT _ rfl
 ·
  obtain ⟨a,gT,cT',rfl,rfl,q1,q2,q3⟩:=one (hlen 1 (by simp [argsN,e]))
  rw [show kindT fs st.G x [a]=if 3≤a∧a≤5 then .ok 1 else .error 9 by simp [kindT,e],e]
  exact kind_8 w base bc vf cf vS bs st h h0 _ _ a3 l3 c3 gT cT' a q2 q1 q3 _ rfl
 ·
  obtain ⟨a,b,gT,cT',rfl,rfl,q1,q2,q3,q4⟩:=two (hlen 2 (by simp [argsN,e]))
  rw [show kindT fs st.G x [a,b]=if (3≤a∧a≤5)∧b=1 then .ok 1 else .error 9 by simp [kindT,e],e]
  exact kind_9 w base bc vf cf vS bs st h h0 _ _ a3 l3 c3 gT cT' a b q2 q3 q1 q4 _ rfl
 ·
  obtain ⟨a,b,gT,cT',rfl,rfl,q1,q2,q3,q4⟩:=two (hlen 2 (by simp [argsN,e]))
  rw [show kindT fs st.G x [a,b]=if a=4∧b=1 then .ok 4 else .error 9 by simp [kindT,e],e]
  exact kind_10 w base bc vf cf vS bs st h h0 _ _ a3 l3 c3 gT cT' a b q2 q3 q1 q4 _ rfl
 ·
  subst hvT;rw [show kindT fs st.G x ts=if 4000<ts.length then .error 1 else if ∀ t∈ts,t=1 then .ok 4 else .error 9 by simp [kindT,e],e]
  exact kind_11 w base bc vf cf vS bs st h h0 _ _ a3 l3 c3 ts aT cT hts hnT _ rfl
 ·
  subst hvT;rw [show kindT fs st.G x ts= .ok 5 by simp [kindT,e],e]
  exact kind_12 w base bc vf cf vS bs st h h0 _ _ a3 l3 c3 aT _ cT _ rfl
end Go.Proofs.YtkopjgnjflhkeaaGreatDoor

import Derived.Test.YtkopjgnjflhkeaaGreatDoorQZK
import Derived.Defers
namespace Go.Proofs.YtkopjgnjflhkeaaGreatDoor
open Go.RowKit Go.Pst
set_option linter.unusedVariables false
set_option linter.unusedSimpArgs false
theorem stmtLeave_any (w:World) (base bc:Nat) (vf:Value) (cf:List Value) (vS:Value) (bs:List Nat) (st:Chk) (h:ChkAt w base bc vf cf vS bs st) (bx:Nat) (hb:w.cell? ⟨bx,0,none⟩=some (.pointer (some ⟨bc,0,none⟩))) (u:FrameMode):
 CallsD Tryz.prog 171 #[.pointer (some ⟨bx,0,none⟩)] u w fun e u' w'=>u'=u∧(e= .returned (.tuple #[])∧ChkAt w' base bc vf cf vS bs {st with depth:=IntKind.i64.wrap (st.depth - 1)}∧Since (fun k=>k=bc) w w'):=by
 have c7:=h.c7
 have z7:=h.z 7
 have hlt:=h.lb.2
 obtain ⟨dv,hdv⟩: ∃ dv,IntKind.i64.wrap (st.depth - 1)=dv:=⟨_,rfl⟩
 rw [hdv]
 have hset:=h.set 7 dv {st with depth:=dv} rfl (by decide) (by simp) (by simp) (by simp)
 have HP:=zh (And.intro hset (Since.setCell w ⟨bc,7,none⟩ (.int .i64 dv)))
 clear h hset
 go_enter_d Tryz.func171,Tryz.ntmps171
 go_wp2
 go_end0
 exact ⟨rfl,HP.out.1,HP.out.2⟩
theorem stmtDoor {w:World} {base bc:Nat} {vf:Value} {cf:List Value} {vS:Value} {bs:List Nat} {st:Chk} (h:ChkAt w base bc vf cf vS bs st) {bx:Nat} (hb:w.cell? ⟨bx,0,none⟩=some (.pointer (some ⟨bc,0,none⟩))) {Q:Ending→World→Prop} {tmps:Array Value}
 (hQ: ∀ w',ChkAt w' base bc vf cf vS bs {st with depth:=IntKind.i64.wrap (st.depth - 1)}→Since (fun k=>k=bc) w w'→Q (.returned (.tuple #[])) w'):
 Leaves Tryz.prog Tryz.f137 tmps Q [{target:= .fn (.func 171) #[.pointer (some ⟨bx,0,none⟩)],args:= #[]}] .returning w:=by
 refine leaves_cons (f:=171) (args:= #[.pointer (some ⟨bx,0,none⟩)]) (by simp) (by simp [go_sem]) ?_
 refine (stmtLeave_any w base bc vf cf vS bs st h bx hb .returning).mono ?_
 rintro e u' w' ⟨rfl,rfl,h1,h2⟩
 exact ⟨_,results_none rfl _ _ _,hQ w' h1 h2⟩
end Go.Proofs.YtkopjgnjflhkeaaGreatDoor
namespace Go.Proofs.YtkopjgnjflhkeaaGreatDoor
open Go.RowKit Go.Pst
set_option linter.unusedVariables false
set_option linter.unusedSimpArgs false
set_option maxRecDepth 10000 in
set_option maxHeartbeats 4000000 in
theorem typedStmt_early {fs:List PFunc} {dF:Nat} {res:Int} {base bc:Nat} {vf:Value} {cf:List Value} {d:Nat} (s:PStmt) (cs:List Value) (w:World) (vS:Value) (bs:List Nat) (st:Chk) (h:StmtIn fs dF res 0 w base bc vf cf vS bs st) (hr:rStmt (d+1) (· <base) w cs s)
 (hearly:st.fault≠0∨ ¬(1≤s.kind∧s.kind≤13)∨((0≤exprsN s.kind∧exprsN s.kind≠s.exprs.length)∨2<s.exprs.length)∨120<st.depth.toNat+1):
 Calls Tryz.prog 137 #[.pointer (some ⟨bc,0,none⟩), .agg cs.toArray] w (StmtPost w base bc vf cf vS bs st (stmtT fs res (d+1) st.loops.toNat st.depth.toNat st.G s)):=by
 obtain ⟨v3,v4,v5,v6,rfl,⟨hI0,hI1,hI2⟩,r3,r4,r5,r6⟩:=hr
 obtain ⟨a3,c3,rfl⟩:=rSlice_shape r3
 obtain ⟨a4,c4,rfl⟩:=rSlice_shape r4
 obtain ⟨a5,c5,rfl⟩:=rSlice_shape r5
 obtain ⟨a6,c6,rfl⟩:=rSlice_shape r6
 have hlt:=h.at_.lb.2
 have hbase:=h.at_.lb.1
 have c8:=h.at_.c8
 obtain ⟨WA,hWA⟩: ∃ WA,WA=w.alloc (.cells #[.pointer (some ⟨bc,0,none⟩)] 84):=⟨_,rfl⟩
 obtain ⟨W,hW⟩: ∃ W,W=WA.alloc (.cells #[.int .i64 s.kind, .string s.s, .string s.t, .slice a3 s.exprs.length c3, .slice a4 s.body.length c4, .slice a5 s.els.length c5, .slice a6 s.cases.length c6] 91):=⟨_,rfl⟩
 have sA:Since (fun _=>False) w W:=by rw [hW,hWA];exact (Since.alloc _ _ _).trans (Since.alloc _ _ _)
 obtain ⟨R,hR⟩: ∃ R,R=stmtT fs res (d+1) st.loops.toNat st.depth.toNat st.G s:=⟨_,rfl⟩
 rw [←hR]
 have hin:StmtIn fs dF res 0 W base bc vf cf vS bs st:=h.next (h.at_.since sA (fun _ e=>e.elim)) (sA.mono (fun _ e=>e.elim)) rfl h.ok
 have Hin:=zh hin
 have SA:=zh (sA.mono (G:=ChkM bc vS bs) (fun _ e=>e.elim))
 have HR:=zh hR
 have hq:StmtPost w base bc vf cf vS bs st R (.returned (.tuple #[])) W∨True:=Or.inr trivial
 clear hin hR hq
 by_cases h0:st.fault=0
 ·
  have hz:(st.fault !=0)=false:=by simp [h0]
  have H0:=zh h0
  have hbad: ∀ (e:Int),e≠0→R= .error e→ ∀ w1,ChkAt w1 base bc vf cf vS bs (st.bad e)→Since (fun k=>k=bc) W w1→StmtPost w base bc vf cf vS bs st R (.returned (.tuple #[])) w1:=fun e he hRe w1 h1 h2=>
   ⟨rfl,vS,bs,_,h1,SA.out.trans (h2.mono (fun k e=>Or.inl e)),fun k hk=>Or.inl hk,SameG.of rfl,fun e=>absurd H0.out e,fun _=>by rw [hRe];exact ⟨he,by simp [Chk.bad,H0.out]⟩⟩
  have Hbad:=zh hbad
  clear h0 hbad
  by_cases hk1:s.kind<1
  ·
   have Hr:=zh (show R= .error 3 by rw [HR.out];unfold stmtT;rw [if_pos (by omega)])
   have d1:decide (s.kind<1)=true:=decide_eq_true hk1
   clear hk1
   go_enter_defers Tryz.func137,Tryz.ntmps137
   go_wp2_with fail
   rw [←hWA,←hW]
   refine (typedWrong_any _ base bc vf cf vS bs st Hin.out.at_ 3).mono ?_
   rintro en w1 ⟨rfl,hc1,hs1⟩
   have HP:=zh (Hbad.out 3 (by decide) Hr.out w1 hc1 hs1)
   clear hc1 hs1
   go_wp2_with fail
   exact ⟨_,results_none rfl _ _ _,HP.out⟩
  by_cases hk2:13<s.kind
  ·
   have Hr:=zh (show R= .error 3 by rw [HR.out];unfold stmtT;rw [if_pos (by omega)])
   have d1:decide (s.kind<1)=false:=decide_eq_false hk1
   have d2:decide (s.kind > 13)=true:=decide_eq_true hk2
   clear hk1 hk2
   go_enter_defers Tryz.func137,Tryz.ntmps137
   go_wp2_with fail
   rw [←hWA,←hW]
   refine (typedWrong_any _ base bc vf cf vS bs st Hin.out.at_ 3).mono ?_
   rintro en w1 ⟨rfl,hc1,hs1⟩
   have HP:=zh (Hbad.out 3 (by decide) Hr.out w1 hc1 hs1)
   clear hc1 hs1
   go_wp2_with fail
   exact ⟨_,results_none rfl _ _ _,HP.out⟩
  obtain ⟨kn,hkn⟩:=Int.eq_ofNat_of_zero_le (show 0≤s.kind by omega)
  have hcn:=Hin.out.laid.exprs kn (by omega) (by omega)
  rw [hW,hWA] at hcn
  have d1:decide (s.kind<1)=false:=decide_eq_false hk1
  have d2:decide (s.kind > 13)=false:=decide_eq_false hk2
  have hkr:1≤s.kind∧s.kind≤13:=by omega
  have Hkr:=zh hkr
  have hearly':=hearly
  generalize hX:s.kind=X at *
  obtain rfl:X=(kn:Int):=hkn
  have e0:(0:Int)≤(kn:Int):=by omega
  have e1:(kn:Int)<14:=by omega
  obtain ⟨an,han⟩: ∃ an,an=exprsN (kn:Int):=⟨_,rfl⟩
  rw [←han] at hcn hearly'
  have Han:=zh han
  have HX:=zh hX
  have He:=zh hearly'
  clear hk1 hk2 hkr hX han hearly hearly'
  by_cases hn:0≤an∧an≠s.exprs.length
  ·
   have Hr:=zh (show R= .error 10 by rw [HR.out];unfold stmtT;rw [HX.out,←Han.out,if_neg (by have:=Hkr.out;omega),if_pos (Or.inl hn)])
   have d3:decide (an≥0)=true:=decide_eq_true hn.1
   have d4:(an !=(s.exprs.length:Int))=true:=bne_iff_ne.2 hn.2
   clear hn
   go_enter_defers Tryz.func137,Tryz.ntmps137
   go_wp2_with fail
   rw [←hWA,←hW]
   refine (typedWrong_any _ base bc vf cf vS bs st Hin.out.at_ 10).mono ?_
   rintro en w1 ⟨rfl,hc1,hs1⟩
   have HP:=zh (Hbad.out 10 (by decide) Hr.out w1 hc1 hs1)
   clear hc1 hs1
   go_wp2_with fail
   exact ⟨_,results_none rfl _ _ _,HP.out⟩
  by_cases h2:2<s.exprs.length
  ·
   have Hr:=zh (show R= .error 10 by rw [HR.out];unfold stmtT;rw [HX.out,←Han.out,if_neg (by have:=Hkr.out;omega),if_pos (Or.inr h2)])
   have d5:decide ((s.exprs.length:Int) > 2)=true:=decide_eq_true (by omega)
   by_cases h3:0≤an
   ·
    have d3:decide (an≥0)=true:=decide_eq_true h3
    have d4:(an !=(s.exprs.length:Int))=false:=by rw [bne_eq_false_iff_eq];omega
    clear hn h2 h3
    go_enter_defers Tryz.func137,Tryz.ntmps137
    go_wp2_with fail
    rw [←hWA,←hW]
    refine (typedWrong_any _ base bc vf cf vS bs st Hin.out.at_ 10).mono ?_
    rintro en w1 ⟨rfl,hc1,hs1⟩
    have HP:=zh (Hbad.out 10 (by decide) Hr.out w1 hc1 hs1)
    clear hc1 hs1
    go_wp2_with fail
    exact ⟨_,results_none rfl _ _ _,HP.out⟩
   ·
    have d3:decide (an≥0)=false:=decide_eq_false h3
    clear hn h2 h3
    go_enter_defers Tryz.func137,Tryz.ntmps137
    go_wp2_with fail
    rw [←hWA,←hW]
    refine (typedWrong_any _ base bc vf cf vS bs st Hin.out.at_ 10).mono ?_
    rintro en w1 ⟨rfl,hc1,hs1⟩
    have HP:=zh (Hbad.out 10 (by decide) Hr.out w1 hc1 hs1)
    clear hc1 hs1
    go_wp2_with fail
    exact ⟨_,results_none rfl _ _ _,HP.out⟩
  obtain ⟨hd0,hd1,-⟩:=Hin.out.ok H0.out
  obtain ⟨kd,hkd⟩:=Int.eq_ofNat_of_zero_le hd0
  have hkd':st.depth.toNat=kd:=by omega
  have hdeep:120<kd+1:=by
   have:=He.out
   rw [hkd'] at this
   rcases this with e|e|e|e
   ·
    exact absurd H0.out e
   ·
    exact absurd Hkr.out e
   ·
    omega
   ·
    exact e
  have Hr:=zh (show R= .error 8 by rw [HR.out];unfold stmtT;rw [HX.out,←Han.out,if_neg (by have:=Hkr.out;omega),if_neg (by omega),hkd',if_pos hdeep])
  have hset:=h.at_.set 7 ((kd:Int)+1) {st with depth:=(kd:Int)+1} rfl (by decide) (by simp) (by simp) (by simp)
  have s7:Since (fun k=>k=bc) w (w.setCell ⟨bc,7,none⟩ (.int .i64 ((kd:Int)+1))):=Since.setCell w ⟨bc,7,none⟩ (.int .i64 ((kd:Int)+1))
  obtain ⟨W2,hW2⟩: ∃ W2,W2=(((w.setCell ⟨bc,7,none⟩ (.int .i64 ((kd:Int)+1))).alloc (.cells #[.pointer (some ⟨bc,0,none⟩)] 84)).alloc (.cells #[.int .i64 (kn:Int), .string s.s, .string s.t, .slice a3 s.exprs.length c3, .slice a4 s.body.length c4, .slice a5 s.els.length c5, .slice a6 s.cases.length c6] 91)):=⟨_,rfl⟩
  have sB:Since (fun _=>False) (w.setCell ⟨bc,7,none⟩ (.int .i64 ((kd:Int)+1))) W2:=by rw [hW2];exact (Since.alloc _ _ _).trans (Since.alloc _ _ _)
  have HC2:=zh (hset.since sB (fun _ e=>e.elim))
  have S7:=zh (s7.trans (sB.mono (G:=fun k=>k=bc) (fun _ e=>e.elim)))
  have c7:=h.at_.c7
  have z7:=h.at_.z 7
  rw [hkd] at c7
  have hw7:IntKind.i64.wrap ((kd:Int)+1)=(kd:Int)+1:=IntWalk.i64_in _ (by omega)
  have d5:decide ((s.exprs.length:Int) > 2)=false:=decide_eq_false (by omega)
  have d6:decide ((kd:Int)+1 > 120)=true:=decide_eq_true (by omega)
  have hb1:w.heap.size≠bc:=by omega
  by_cases h3:0≤an
  ·
   have d3:decide (an≥0)=true:=decide_eq_true h3
   have d4:(an !=(s.exprs.length:Int))=false:=by rw [bne_eq_false_iff_eq];omega
   clear hn h2 h3 hdeep hkd hkd' hd0 hd1 hset s7 sB
   go_enter_defers Tryz.func137,Tryz.ntmps137
   go_wp2_with fail
   rw [←hW2]
   refine (typedWrong_any _ base bc vf cf vS bs _ HC2.out 8).mono ?_
   rintro en w1 ⟨rfl,hc1,hs1⟩
   have HP:StmtPost w base bc vf cf vS bs st R (.returned (.tuple #[])) w1:=
    ⟨rfl,vS,bs,_,hc1,(S7.out.trans hs1).mono (fun k e=>Or.inl e),fun k hk=>Or.inl hk,SameG.of rfl,fun e=>absurd H0.out e,fun _=>by rw [Hr.out];exact ⟨by decide,by simp [Chk.bad,H0.out]⟩⟩
   have HP:=zh HP
   clear hc1 hs1
   go_wp2_with fail
   exact ⟨_,results_none rfl _ _ _,HP.out⟩
  ·
   have d3:decide (an≥0)=false:=decide_eq_false h3
   clear hn h2 h3 hdeep hkd hkd' hd0 hd1 hset s7 sB
   go_enter_defers Tryz.func137,Tryz.ntmps137
   go_wp2_with fail
   rw [←hW2]
   refine (typedWrong_any _ base bc vf cf vS bs _ HC2.out 8).mono ?_
   rintro en w1 ⟨rfl,hc1,hs1⟩
   have HP:StmtPost w base bc vf cf vS bs st R (.returned (.tuple #[])) w1:=
    ⟨rfl,vS,bs,_,hc1,(S7.out.trans hs1).mono (fun k e=>Or.inl e),fun k hk=>Or.inl hk,SameG.of rfl,fun e=>absurd H0.out e,fun _=>by rw [Hr.out];exact ⟨by decide,by simp [Chk.bad,H0.out]⟩⟩
   have HP:=zh HP
   clear hc1 hs1
   go_wp2_with fail
   exact ⟨_,results_none rfl _ _ _,HP.out⟩
 ·
  have hz:(st.fault !=0)=true:=by simpa using h0
  have HP:StmtPost w base bc vf cf vS bs st R (.returned (.tuple #[])) W:=⟨rfl,vS,bs,st,Hin.out.at_,SA.out,ChkAt.NewM.refl _ _ _ _,SameG.of rfl,fun _=>rfl,fun e=>absurd e h0⟩
  have HP:=zh HP
  clear h0
  go_enter_defers Tryz.func137,Tryz.ntmps137
  go_wp2
  rw [←hWA,←hW]
  exact ⟨_,results_none rfl _ _ _,HP.out⟩
end Go.Proofs.YtkopjgnjflhkeaaGreatDoor

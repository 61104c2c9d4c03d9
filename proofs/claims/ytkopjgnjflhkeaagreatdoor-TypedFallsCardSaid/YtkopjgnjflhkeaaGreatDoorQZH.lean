import Derived.Test.YtkopjgnjflhkeaaGreatDoorQZG
import Derived.Test.YtkopjgnjflhkeaaGreatDoorQG
import Derived.Deep.DeepCutAuto
import Derived.Deep.CutBlock
import Derived.Deep.DeepMust
namespace Go.Proofs.YtkopjgnjflhkeaaGreatDoor
open Go.RowKit Go.Pst
set_option linter.unusedVariables false
set_option linter.unusedSimpArgs false
structure TyLaid (w:World) (base:Nat):Prop where
 lt:7<base∧2<base
 counts: ∀ k:Nat,1≤k→k≤12→w.cell? ⟨7,k,none⟩=some (.int .i64 (argsN k))
 exprs: ∀ k:Nat,1≤k→k≤13→w.cell? ⟨2,k,none⟩=some (.int .i64 (exprsN k))
theorem TyLaid.since {w w':World} {base:Nat} {F:Nat→Prop} (h:TyLaid w base) (hs:Since F w w') (hF: ∀ k,F k→base≤k) (hb:base≤w.heap.size):TyLaid w' base:=
 ⟨h.lt,fun k h1 h2=>(hs.cell (o:=k) (by have:=h.lt.1;omega) (fun f=>by have:=hF _ f;have:=h.lt.1;omega)).trans (h.counts k h1 h2),fun k h1 h2=>(hs.cell (o:=k) (by have:=h.lt.2;omega) (fun f=>by have:=hF _ f;have:=h.lt.2;omega)).trans (h.exprs k h1 h2)⟩
def ExprPost (w:World) (base bc:Nat) (vf:Value) (cf:List Value) (vS:Value) (bs:List Nat) (st:Chk) (R:Except Int Int) (en:Ending) (w':World):Prop:=
 ∃ x st',en= .returned (.int .i64 x)∧ChkAt w' base bc vf cf vS bs st'∧Since (fun k=>k=bc) w w'∧(st.fault≠0→st'=st)∧(st.fault=0→KindEnd st R x st')
def snocT (A:Except Int (List Int)) (r:Except Int Int):Except Int (List Int):=
 match A with
 | .error e=> .error e
 | .ok us=>match r with
  | .error e=> .error e
  | .ok t=> .ok (us++[t])
theorem argsT_snoc (E:PExpr→Except Int Int) (x:PExpr): ∀ l:List PExpr,argsT E (l++[x])=snocT (argsT E l) (E x)
 |[]=>by
  simp only [List.nil_append,argsT]
  cases E x<;>rfl
 |y::r=>by
  simp only [List.cons_append,argsT]
  cases E y with
  |error e=>rfl
  |ok t=>
   rw [argsT_snoc E x r]
   cases argsT E r with
   |error e=>rfl
   |ok ts=>cases E x<;>rfl
def ArgsSt (st:Chk) (k:Int) (A:Except Int (List Int)) (ts:List Int) (st':Chk):Prop:=
 match A with
 | .ok us=>ts=us∧st'={st with depth:=k}
 | .error e=>e≠0∧st'.fault=e∧st'.G=st.G∧st'.loops=st.loops
theorem ArgsSt.step {fs:List PFunc} {d:Nat} {st:Chk} {k:Nat} {A:Except Int (List Int)} {ts:List Int} {st' st'':Chk} {x:PExpr} {t:Int} (h0:st.fault=0) (h:ArgsSt st (k:Int) A ts st')
 (h1:st'.fault≠0→st''=st') (h2:st'.fault=0→KindEnd st' (exprT fs st'.G d st'.depth.toNat x) t st''):
 ArgsSt st (k:Int) (snocT A (exprT fs st.G d k x)) (ts++[t]) st'':=by
 cases A with
 |error e=>
  obtain ⟨q1,q2,q3,q4⟩:=h
  have:=h1 (by rw [q2];exact q1)
  subst this
  exact ⟨q1,q2,q3,q4⟩
 |ok us=>
  obtain ⟨rfl,rfl⟩:=h
  have h3:=h2 h0
  simp only [Int.toNat_natCast] at h3
  cases hE:exprT fs st.G d k x with
  |error e=>
   rw [hE] at h3
   exact h3
  |ok t'=>
   rw [hE] at h3
   obtain ⟨rfl,rfl⟩:=h3
   exact ⟨rfl,rfl⟩
theorem ArgsSt.G_eq {st:Chk} {k:Int} {A:Except Int (List Int)} {ts:List Int} {st':Chk} (h:ArgsSt st k A ts st'):st'.G=st.G∧st'.loops=st.loops:=by
 cases A with
 |error e=>exact ⟨h.2.2.1,h.2.2.2⟩
 |ok us=>obtain ⟨-,rfl⟩:=h;exact ⟨rfl,rfl⟩
theorem ArgsSt.depth_eq {st:Chk} {k:Int} {A:Except Int (List Int)} {ts:List Int} {st':Chk} (h:ArgsSt st k A ts st') (h0:st'.fault=0):st'.depth=k:=by
 cases A with
 |error e=>exact absurd (h.2.1.symm.trans h0) h.1
 |ok us=>obtain ⟨-,rfl⟩:=h;rfl
section
variable (fs:List PFunc) (dF:Nat) (base bc:Nat) (vf:Value) (cf:List Value) (vS:Value) (bs:List Nat)
def ExprSaid (d:Nat):Prop:= ∀ (x:PExpr) (cs:List Value) (w:World) (st:Chk),ChkAt w base bc vf cf vS bs st→TyLaid w base→rFuncs dF (· <base) w [vf] fs→st.G.length≤200000→0<st.G.length→
 (st.fault=0→0≤st.depth∧st.depth≤120)→rExpr d (· <base) w cs x→FitX d x→
 Calls Tryz.prog 177 #[.pointer (some ⟨bc,0,none⟩), .agg cs.toArray] w (ExprPost w base bc vf cf vS bs st (exprT fs st.G d st.depth.toNat x))
end
theorem rExprs_at {d:Nat} {S:Nat→Prop} {w:World} {v:Value} {l:List PExpr} (h:rSlice 4 (rExpr d) S w [v] l):
 ∃ a cap,v= .slice a l.length cap∧l.length≤cap∧cap≤maxLen∧ ∀ i (hi:i<l.length),∃ b off v3,a=some ⟨b,off,none⟩∧S b∧b<w.heap.size∧
  w.cell? ⟨b,off+i*4,none⟩=some (.int .i64 l[i].kind)∧w.cell? ⟨b,off+i*4+1,none⟩=some (.int .i64 l[i].n)∧w.cell? ⟨b,off+i*4+2,none⟩=some (.string l[i].s)∧w.cell? ⟨b,off+i*4+3,none⟩=some v3∧
  rExpr d S w [.int .i64 l[i].kind, .int .i64 l[i].n, .string l[i].s,v3] l[i]∧(∃ a3 c3,v3= .slice a3 l[i].args.length c3):=by
 obtain ⟨a,cap,h1,h2,h3,h4⟩:=rSlice_val h
 refine ⟨a,cap,h1,h2,h3,fun i hi=>?_⟩
 obtain ⟨b,off,es,ha,hS,hb,hl,hc,hr⟩:=h4 i hi
 cases d with
 |zero=>exact hr.elim
 |succ d=>
  obtain ⟨v3,rfl,h5,h6⟩:=id hr
  obtain ⟨a3,c3,rfl⟩:=rSlice_shape h6
  exact ⟨b,off,_,ha,hS,hb,hc 0 (by decide),hc 1 (by decide),hc 2 (by decide),hc 3 (by decide),hr,a3,c3,rfl⟩
theorem typedInfo_int:(Tryz.prog.info? 3).map (fun i=>(i.zero,i.size,i.bytes))=some (some (.int .i64 0),1,8):=by kernel_rfl
set_option maxRecDepth 10000 in
set_option maxHeartbeats 4000000 in
theorem typedExpr_any (fs:List PFunc) (dF:Nat) (base bc:Nat) (vf:Value) (cf:List Value) (vS:Value) (bs:List Nat): ∀ d,ExprSaid fs dF base bc vf cf vS bs d:=by
 intro d
 induction d with
 |zero=>intro x cs w st _ _ _ _ _ _ h _;exact h.elim
 |succ d ih=>
 intro x cs w st h hT hf hl hl0 hd hx ⟨hfl,hfx⟩
 obtain ⟨v3,rfl,⟨hI1,hI2,hI3⟩,hargs⟩:=hx
 obtain ⟨a3,c3,rfl,hA1,hA2,hat⟩:=rExprs_at hargs
 have hlt:=h.lb.2
 have hbig:=h.big
 have c8:=h.c8
 have sB:=Since.alloc (fun k=>k=bc) w (.cells #[.int .i64 x.kind, .int .i64 x.n, .string x.s, .slice a3 x.args.length c3] 173)
 have sB0:=Since.alloc (fun _=>False) w (.cells #[.int .i64 x.kind, .int .i64 x.n, .string x.s, .slice a3 x.args.length c3] 173)
 have hCB:=h.since sB0 (fun _ e=>e.elim)
 have hTB:=hT.since sB0 (fun _ e=>e.elim) hbig
 have H:=zh h
 have HT:=zh hT
 have Hf:=zh hf
 have Hat:=zh hat
 have HB:=zh hCB
 have SB:=zh sB
 have SB0:=zh sB0
 have HTB:=zh hTB
 have c8':=hCB.c8
 have Hd:=zh hd
 have Ih:=zh ih
 obtain ⟨R,hR⟩: ∃ R:Except Int Int,R=exprT fs st.G (d+1) st.depth.toNat x:=⟨_,rfl⟩
 rw [←hR]
 have HR:=zh hR
 have hal:x.args.length≤9223372036854775807:=by unfold maxLen at hA2;omega
 have hal2:x.args.length*56≤140737488355328:=by unfold reachBytes at hfl;omega
 have Hfx:=zh hfx
 clear h hT hf hat sB sB0 hCB hTB hd ih hR hargs hA1 hfl hfx
 by_cases h0:st.fault=0
 ·
  have hz:(st.fault !=0)=false:=by simp [h0]
  have H0:=zh h0
  have hbad: ∀ (e:Int),e≠0→(R= .error e)→ ∀ w1,ChkAt w1 base bc vf cf vS bs (st.bad e)→Since (fun k=>k=bc) (w.alloc (.cells #[.int .i64 x.kind, .int .i64 x.n, .string x.s, .slice a3 x.args.length c3] 173)) w1→ExprPost w base bc vf cf vS bs st R (.returned (.int .i64 0)) w1:=fun e he hRe w1 h1 h2=>
   ⟨0,_,rfl,h1,SB.out.trans h2,fun hf=>absurd h0 hf,fun _=>by rw [hRe];exact KindEnd.bad h0 0 he⟩
  have Hbad:=zh hbad
  clear h0 hbad
  by_cases hk1:x.kind<1
  ·
   have Hr:=zh (show R= .error 3 by rw [HR.out];unfold exprT;rw [if_pos (by omega)])
   have d1:decide (x.kind<1)=true:=decide_eq_true hk1
   go_enter Tryz.func177,Tryz.ntmps177
   go_wp2_with fail
   refine (typedWrong_any _ base bc vf cf vS bs st HB.out 3).mono ?_
   rintro en w1 ⟨rfl,hc1,hs1⟩
   have HP:=zh (Hbad.out 3 (by decide) Hr.out w1 hc1 hs1)
   clear hc1 hs1
   go_wp2_with fail
   go_ret
   exact HP.out
  by_cases hk2:12<x.kind
  ·
   have Hr:=zh (show R= .error 3 by rw [HR.out];unfold exprT;rw [if_pos (by omega)])
   have d1:decide (x.kind<1)=false:=decide_eq_false hk1
   have d2:decide (x.kind > 12)=true:=decide_eq_true hk2
   go_enter Tryz.func177,Tryz.ntmps177
   go_wp2_with fail
   refine (typedWrong_any _ base bc vf cf vS bs st HB.out 3).mono ?_
   rintro en w1 ⟨rfl,hc1,hs1⟩
   have HP:=zh (Hbad.out 3 (by decide) Hr.out w1 hc1 hs1)
   clear hc1 hs1
   go_wp2_with fail
   go_ret
   exact HP.out
  obtain ⟨kn,hkn⟩:=Int.eq_ofNat_of_zero_le (show 0≤x.kind by omega)
  have hcn:=HTB.out.counts kn (by omega) (by omega)
  have d1:decide (x.kind<1)=false:=decide_eq_false hk1
  have d2:decide (x.kind > 12)=false:=decide_eq_false hk2
  have hkr:1≤x.kind∧x.kind≤12:=by omega
  have Hkr:=zh hkr
  have Hnn:=zh (show R=if 0≤argsN (kn:Int)∧argsN (kn:Int)≠x.args.length then .error 10 else if 120<st.depth.toNat+1 then .error 8 else match argsT (exprT fs st.G d (st.depth.toNat+1)) x.args with| .error e=> .error e| .ok ts=>kindT fs st.G x ts by
   rw [HR.out]
   unfold exprT
   rw [if_neg (by omega),hkn]
   split
   ·
    rfl
   ·
    split
    ·
     rfl
    ·
     cases argsT (exprT fs st.G d (st.depth.toNat+1)) x.args<;>rfl)
  generalize hX:x.kind=X at *
  obtain rfl:X=(kn:Int):=hkn
  have e0:(0:Int)≤(kn:Int):=by omega
  have e1:(kn:Int)<13:=by omega
  obtain ⟨an,han⟩: ∃ an,an=argsN (kn:Int):=⟨_,rfl⟩
  rw [←han] at hcn Hnn
  have Han:=zh han
  have HX:=zh hX
  clear hk1 hk2 hkr hX han
  by_cases hn:0≤an∧an≠x.args.length
  ·
   have Hr:=zh (show R= .error 10 by rw [Hnn.out,if_pos hn])
   have d3:decide (an≥0)=true:=decide_eq_true hn.1
   have d4:(an !=(x.args.length:Int))=true:=by simpa using hn.2
   clear hn
   go_enter Tryz.func177,Tryz.ntmps177
   go_wp2_with fail
   refine (typedWrong_any _ base bc vf cf vS bs st HB.out 10).mono ?_
   rintro en w1 ⟨rfl,hc1,hs1⟩
   have HP:=zh (Hbad.out 10 (by decide) Hr.out w1 hc1 hs1)
   clear hc1 hs1
   go_wp2_with fail
   go_ret
   exact HP.out
  ·
   have Hn:=zh hn
   have Hnn2:=zh (show R=if 120<st.depth.toNat+1 then .error 8 else match argsT (exprT fs st.G d (st.depth.toNat+1)) x.args with| .error e=> .error e| .ok ts=>kindT fs st.G x ts by rw [Hnn.out,if_neg hn])
   clear Hnn
   obtain ⟨hd0,hd1⟩:=Hd.out H0.out
   obtain ⟨kd,hkd⟩:=Int.eq_ofNat_of_zero_le hd0
   have hkd':st.depth.toNat=kd:=by omega
   rw [hkd'] at Hnn2
   have c7:=HB.out.c7
   have z7:=HB.out.z 7
   have hltB:=HB.out.lb.2
   rw [hkd] at c7
   have hw7:IntKind.i64.wrap ((kd:Int)+1)=(kd:Int)+1:=IntWalk.i64_in _ (by omega)
   have HKd:=zh hkd
   have q0:(w.alloc (.cells #[.int .i64 (kn:Int), .int .i64 x.n, .string x.s, .slice a3 x.args.length c3] 173)).cell? ⟨w.heap.size,0,none⟩=some (.int .i64 (kn:Int)):=by rw [World.cell?_alloc_at _ _ _ _ rfl];rfl
   have q1:(w.alloc (.cells #[.int .i64 (kn:Int), .int .i64 x.n, .string x.s, .slice a3 x.args.length c3] 173)).cell? ⟨w.heap.size,1,none⟩=some (.int .i64 x.n):=by rw [World.cell?_alloc_at _ _ _ _ rfl];rfl
   have q2:(w.alloc (.cells #[.int .i64 (kn:Int), .int .i64 x.n, .string x.s, .slice a3 x.args.length c3] 173)).cell? ⟨w.heap.size,2,none⟩=some (.string x.s):=by rw [World.cell?_alloc_at _ _ _ _ rfl];rfl
   have q3:(w.alloc (.cells #[.int .i64 (kn:Int), .int .i64 x.n, .string x.s, .slice a3 x.args.length c3] 173)).cell? ⟨w.heap.size,3,none⟩=some (.slice a3 x.args.length c3):=by rw [World.cell?_alloc_at _ _ _ _ rfl];rfl
   have hlW:w.heap.size<(w.alloc (.cells #[.int .i64 (kn:Int), .int .i64 x.n, .string x.s, .slice a3 x.args.length c3] 173)).heap.size:=by simp
   clear hn hd0 hkd hkd' hd1
   go_enter Tryz.func177,Tryz.ntmps177
   go_upto_region 6 with fail
   generalize hWB:w.alloc (.cells #[.int .i64 (kn:Int), .int .i64 x.n, .string x.s, .slice a3 x.args.length c3] 173)=WB at *
   clear hWB
   go_cut [36] from 28 to 36 (fun s36 wx=>s36= .bool false∧wx=WB)
   case first=>
    have hn:=Hn.out
    by_cases hge:0≤an
    ·
     have d3:decide (an≥0)=true:=decide_eq_true hge
     have d4:(an !=(x.args.length:Int))=false:=by simp;omega
     clear hn hge
     go_wp2_with fail
     go_meet
     exact ⟨rfl,rfl⟩
    ·
     have d3:decide (an≥0)=false:=decide_eq_false hge
     clear hn hge
     go_wp2_with fail
     go_meet
     exact ⟨rfl,rfl⟩
   case rest=>
    obtain ⟨rfl,rfl⟩:=hcut
    have hC2:=HB.out.set 7 ((kd:Int)+1) {st with depth:=(kd:Int)+1} rfl (by decide) (by simp) (by simp) (by simp)
    have s2:=Since.setCell wc ⟨bc,7,none⟩ (.int .i64 ((kd:Int)+1))
    have HC2:=zh hC2
    have HS2:=zh (show Since (fun k=>k=bc) wc (wc.setCell ⟨bc,7,none⟩ (.int .i64 ((kd:Int)+1))) from s2)
    have c7b:=hC2.c7
    have c8b:=hC2.c8
    have hlb:=hC2.lb.2
    clear hC2 s2 hcn
    by_cases hdeep:120<kd+1
    ·
     have d5:decide ((kd:Int)+1 > 120)=true:=decide_eq_true (by omega)
     have Hr:=zh (show R= .error 8 by rw [Hnn2.out,if_pos hdeep])
     clear hdeep
     go_wp2_with fail
     refine (typedWrong_any _ base bc vf cf vS bs _ HC2.out 8).mono ?_
     rintro en w1 ⟨rfl,hc1,hs1⟩
     have HC3:=zh hc1
     have HS3:=zh hs1
     clear hc1 hs1
     go_wp2_with fail
     go_ret
     refine ⟨0,_,rfl,HC3.out,SB.out.trans (HS2.out.trans HS3.out),fun hf=>absurd H0.out hf,fun _=>?_⟩
     rw [Hr.out]
     exact ⟨by decide,by simp [Chk.bad,H0.out],rfl,rfl⟩
    ·
     have d5:decide ((kd:Int)+1 > 120)=false:=decide_eq_false (by omega)
     have Hr:=zh (show R=match argsT (exprT fs st.G d (kd+1)) x.args with| .error e=> .error e| .ok ts=>kindT fs st.G x ts by
      rw [Hnn2.out,if_neg hdeep])
     have Hdeep:=zh (show kd+1≤120 by omega)
     clear hdeep
     have q3b:=(HS2.out.cell (o:=3) hlW (by omega)).trans q3
     go_wp2_with fail
     generalize hW2:wc.setCell ⟨bc,7,none⟩ (.int .i64 ((kd:Int)+1))=W2 at *
     clear hW2
     have HSw:=zh (SB.out.trans HS2.out)
     obtain ⟨i0,hi0,hz0,hz1,hz2⟩:=info_parts typedInfo_int
     have hlow: ∀ k,ChkM bc vS bs k→k<w.heap.size:=fun k hk=>(H.out.mem_lt hk).2
     have Hlow:=zh hlow
     have hrow0:W2.ownsRow W2.heap.size 3 1 (.slice none 0 0) ([]:List Int).length (([]:List Int).map (Value.int .i64)):=⟨rfl,Or.inl ⟨rfl,rfl⟩⟩
     have Hrow0:=zh hrow0
     have hW2s:w.heap.size≤W2.heap.size:=HSw.out.size
     clear hlow hrow0 q3b c7b c8b
     go_loopw [6,8,56] (fun s6 s8 s56 wr=> ∃ (i:Nat) (ts:List Int) (st':Chk),i≤x.args.length∧s56= .int .i64 i∧ts.length=i∧wr.ownsRow W2.heap.size 3 1 s6 ts.length (ts.map (Value.int .i64))∧ArgsSt st ((kd+1:Nat):Int) (argsT (exprT fs st.G d (kd+1)) (x.args.take i)) ts st'∧ChkAt wr base bc vf cf vS bs st'∧Since (fun k=>k=bc) W2 wr) (fun _ _ s56 _=>x.args.length - (intOf s56).toNat)
     case atStart=>exact ⟨0,[],{st with depth:=((kd+1:Nat):Int)},Nat.zero_le _,rfl,rfl,Hrow0.out,⟨rfl,rfl⟩,HC2.out,Since.refl _ _⟩
     case round=>
      obtain ⟨i,ts,st',hi,rfl,hti,hrow,hA,hcr,hsr⟩:=hrel
      subst hti
      have HA:=zh hA
      have HCr:=zh hcr
      have HSr:=zh hsr
      have Hrow:=zh hrow
      have hltr:=hcr.lb.2
      clear hA hcr hsr hrow
      by_cases hlt2:ts.length<x.args.length
      ·
       have hlt1:((ts.length:Nat):Int)<(x.args.length:Int):=by omega
       have hi0':(0:Int)≤((ts.length:Nat):Int):=by omega
       obtain ⟨b,off,v3,rfl,hSb,hbl,x0,x1,x2,x3,hr,ay,cy,rfl⟩:=Hat.out ts.length hlt2
       have hbn:b≠bc:=by have:=HB.out.lb.1;omega
       have hS:=HSw.out.trans HSr.out
       have hw:=fun o=>hS.cell (o:=o) hbl hbn
       have y0:=(hw _).trans x0
       have y1:=(hw _).trans x1
       have y2:=(hw _).trans x2
       have y3:=(hw _).trans x3
       have Hsn:=zh (show argsT (exprT fs st.G d (kd+1)) (x.args.take (ts.length+1))=snocT (argsT (exprT fs st.G d (kd+1)) (x.args.take ts.length)) (exprT fs st.G d (kd+1) x.args[ts.length]) from by rw [List.take_succ_eq_append_getElem hlt2,argsT_snoc])
       have Hr':=zh hr
       have HSS:=zh hS
       have hwk:IntKind.i64.wrap (((ts.length:Nat):Int)+1)=((ts.length:Nat):Int)+1:=IntWalk.i64_in _ (by omega)
       clear x0 x1 x2 x3 hw hr hS
       have Hyf:=zh (Hfx.out x.args[ts.length] (List.getElem_mem hlt2))
       generalize x.args[ts.length]=y at *
       have sY:=Since.alloc (fun _=>False) wr (.cells #[.int .i64 y.kind, .int .i64 y.n, .string y.s, .slice ay y.args.length cy] 173)
       have sYb:=HSS.out.trans (sY.mono (G:=fun k=>k=bc) (fun _ e=>e.elim))
       have hih:=Ih.out y _ (wr.alloc (.cells #[.int .i64 y.kind, .int .i64 y.n, .string y.s, .slice ay y.args.length cy] 173)) st' (HCr.out.since sY (fun _ e=>e.elim)) (HT.out.since sYb (fun k e=>by rw [e];exact HB.out.lb.1) hbig)
        (Good.kept (sYb.keep.weaken (fun k _ hk e=>by have:=HB.out.lb.1;omega)) Hf.out) (by rw [HA.out.G_eq.1];exact hl) (by rw [HA.out.G_eq.1];exact hl0) (fun h0=>by have:=HA.out.depth_eq h0;have:=Hdeep.out;omega)
        (Good.kept (sYb.keep.weaken (fun k _ hk e=>by have:=HB.out.lb.1;omega)) Hr'.out) Hyf.out
       have Hih:=zh hih
       have HsY:=zh sY
       clear hih sY sYb
       go_wp2_with fail
       refine Hih.out.mono ?_
       rintro en w3 ⟨t,st'',rfl,hc3,hs3,h1,h2⟩
       obtain ⟨a6,c6,rfl,hle6,hmx6⟩:=row_slice Hrow.out
       have hrow3:w3.ownsRow W2.heap.size 3 1 (.slice a6 ts.length c6) ts.length (ts.map (Value.int .i64)):=hs3.row (Hrow.out.alloc _) (fun k hk e=>by have:=(Hrow.out.lt k hk).1;omega)
       have Hstep:=zh (HA.out.step (d:=d) (fs:=fs) (x:=y) H0.out h1 h2)
       have HC3:=zh hc3
       have HS3:=zh (((HsY.out.mono (G:=fun k=>k=bc) (fun _ e=>e.elim))).trans hs3)
       have hsz3:W2.heap.size≤w3.heap.size:=Nat.le_trans HSr.out.size (Nat.le_trans HsY.out.size hs3.size)
       clear hc3 hs3 h1 h2
       go_wp2_with (at_builtin;refine wpList_append_own_at _ rfl _ _ 43 rfl W2.heap.size 3 i0 (.int .i64 0) 1 8 Tryz.underlying43 hi0 hz0 hz1 hz2 rfl (by decide) _ _ _ rfl (hrow3.alloc _) ⟨w3.heap.size,0,none⟩ 1 1 [.int .i64 t] rfl rfl ?c1 ?c2 ?c3 ?c4 ?c5 ?_)
       case c1=>exact (cell_one_new _ _ _)
       case c2=>intro u hu;simp at hu;subst hu;rfl
       case c3=>unfold maxLen;omega
       case c4=>omega
       case c5=>simp;omega
       intro v' w4 hown' hgrow _ hloc
       obtain ⟨gg,cg,rfl⟩: ∃ gg cg,v'= .slice (some ⟨gg,0,none⟩) (ts.length+1) cg:=by
        rcases hown'.2 with ⟨_,h⟩|⟨gg,cap',_,h,_⟩
        ·
         omega
        ·
         exact ⟨gg,cap',h⟩
       have s4:Since (fun k'=>(Value.slice a6 ts.length c6).ownBlock=some k') w3 w4:=(Since.alloc _ _ _).trans (Since.grown hgrow)
       have hge: ∀ k',(Value.slice a6 ts.length c6).ownBlock=some k'→W2.heap.size≤k':=fun k' e=>(hrow3.lt k' e).1
       have hc4:=HC3.out.since s4 (fun k e hk=>by have:=hge k e;have:=Hlow.out k hk;omega)
       have HC4:=zh hc4
       have HS4:=zh (show Since (fun k=>k=bc) W2 w4 from (HSr.out.trans HS3.out).then_new s4 (fun k e=>Or.inr (hge k e)))
       have Hown:=zh hown'
       clear hc4 hown' hgrow hloc s4 hge hrow3
       go_wp2_with fail
       go_roundw
       case rel=>exact ⟨ts.length+1,ts++[t],st'',by omega,by go_num,by simp,by simpa using Hown.out,by rw [Hsn.out];exact Hstep.out,HC4.out,HS4.out⟩
       case measure=>simp [intOf];omega
      ·
       have hie:ts.length=x.args.length:=by omega
       have Hie:=zh hie
       clear hlt2
       have hA':=HA.out
       rw [hie,List.take_length] at hA'
       have HA':=zh hA'
       have hlt1:decide (((ts.length:Nat):Int)<(x.args.length:Int))=false:=decide_eq_false (by omega)
       have n2:w.heap.size≠bc:=by have:=HB.out.lb.1;omega
       have hq:=HS2.out.trans HSr.out
       have g0:=(hq.cell (o:=0) hlW n2).trans q0
       have g1:=(hq.cell (o:=1) hlW n2).trans q1
       have g2:=(hq.cell (o:=2) hlW n2).trans q2
       have g3:=(hq.cell (o:=3) hlW n2).trans q3
       have hSf:=zh (HSw.out.trans HSr.out)
       have hWn:w.heap.size<wr.heap.size:=by have:=hq.size;omega
       have c7r:=HCr.out.c7
       have z7r:=HCr.out.z 7
       have c8r:=HCr.out.c8
       clear hA' hq q0 q1 q2 q3
       by_cases hf0:st'.fault=0
       ·
        have hA:=HA'.out
        obtain ⟨us,hus⟩: ∃ us,argsT (exprT fs st.G d (kd+1)) x.args= .ok us:=by
         cases hz:argsT (exprT fs st.G d (kd+1)) x.args with
         |ok us=>exact ⟨us,rfl⟩
         |error e=>
          rw [hz] at hA
          exact absurd (hA.2.1.symm.trans hf0) hA.1
        rw [hus] at hA
        obtain ⟨rfl,hst⟩:=hA
        have Hst:=zh hst
        have hdp:st'.depth=(kd:Int)+1:=by rw [hst];simp
        rw [hdp] at c7r
        have hw8:IntKind.i64.wrap (kd:Int)=(kd:Int):=IntWalk.i64_in _ (by have:=Hdeep.out;omega)
        have hC4:=HCr.out.set 7 (kd:Int) st (by rw [hst]) (by decide) (by simp [hst]) (by simpa using HKd.out) (by simp [hst])
        have s5:Since (fun k=>k=bc) wr (wr.setCell ⟨bc,7,none⟩ (.int .i64 (kd:Int))):=Since.setCell wr ⟨bc,7,none⟩ (.int .i64 (kd:Int))
        have HC4:=zh hC4
        have S5:=zh (hSf.out.trans s5)
        have e0':=(s5.cell (o:=0) hWn n2).trans g0
        have e1':=(s5.cell (o:=1) hWn n2).trans g1
        have e2':=(s5.cell (o:=2) hWn n2).trans g2
        have e3':=(s5.cell (o:=3) hWn n2).trans g3
        have c8s:=hC4.c8
        have hrowF:(wr.setCell ⟨bc,7,none⟩ (.int .i64 (kd:Int))).ownsRow base 3 1 u6 ts.length (ts.map (Value.int .i64)):=
         s5.row (ownsRow_from Hrow.out (by omega)) (fun k hk e=>by have:=(Hrow.out.lt k hk).1;omega)
        have hnT:u6.ownBlock≠some bc:=fun e=>by have:=(Hrow.out.lt bc e).1;omega
        have hkd:=typedKind_any dF fs _ base bc vf cf vS bs st hC4 H0.out hl hl0 x (by rw [HX.out];exact Hkr.out) a3 x.args.length c3 ts (fun h=>by have:=Hn.out;have:=Han.out;rw [HX.out] at h ⊢;omega) u6
         (Good.kept ((hSf.out.trans s5).keep.weaken (fun k _ hk e=>by have:=HB.out.lb.1;omega)) Hf.out) hrowF hnT
        rw [HX.out] at hkd
        have Hkd:=zh hkd
        have Hus:=zh hus
        clear hC4 s5 hrowF hnT hkd hst hus hdp
        go_wp2_with fail
        refine Hkd.out.mono ?_
        rintro en w6 ⟨t6,st6,rfl,hc6,hs6,hk6⟩
        have HP:ExprPost w base bc vf cf vS bs st R (.returned (.int .i64 t6)) w6:=
         ⟨t6,st6,rfl,hc6,S5.out.trans hs6,fun h=>absurd H0.out h,fun _=>by rw [Hr.out,Hus.out];exact hk6⟩
        have HP:=zh HP
        clear hc6 hs6 hk6
        go_wp2_with fail
        go_ret
        exact HP.out
       ·
        have hA:=HA'.out
        obtain ⟨e,he⟩: ∃ e,argsT (exprT fs st.G d (kd+1)) x.args= .error e:=by
         cases hz:argsT (exprT fs st.G d (kd+1)) x.args with
         |error e=>exact ⟨e,rfl⟩
         |ok us=>
          rw [hz] at hA
          exact absurd (by rw [hA.2];exact H0.out) hf0
        rw [he] at hA
        have HA2:=zh hA
        have He:=zh he
        obtain ⟨dv,hdv⟩: ∃ dv,IntKind.i64.wrap (st'.depth - 1)=dv:=⟨_,rfl⟩
        have hC4:=HCr.out.set 7 dv {st' with depth:=dv} rfl (by decide) (by simp) (by simp) (by simp)
        have s5:Since (fun k=>k=bc) wr (wr.setCell ⟨bc,7,none⟩ (.int .i64 dv)):=Since.setCell wr ⟨bc,7,none⟩ (.int .i64 dv)
        have c8s:=hC4.c8
        have hz8:(st'.fault !=0)=true:=by simpa using hf0
        have HP:ExprPost w base bc vf cf vS bs st R (.returned (.int .i64 0)) (wr.setCell ⟨bc,7,none⟩ (.int .i64 dv)):=
         ⟨0,_,rfl,hC4,hSf.out.trans s5,fun h=>absurd H0.out h,fun _=>by rw [Hr.out,he];exact ⟨hA.1,hA.2.1,hA.2.2.1,hA.2.2.2⟩⟩
        have HP:=zh HP
        clear hA he hC4 s5 hf0
        go_wp2_with fail
        go_ret
        exact HP.out
 ·
  have hz:(st.fault !=0)=true:=by simpa using h0
  have H0:=zh h0
  clear h0
  go_enter Tryz.func177,Tryz.ntmps177
  go_wp2_with fail
  go_ret
  exact ⟨0,st,rfl,HB.out,SB.out,fun _=>rfl,fun e=>absurd e H0.out⟩
end Go.Proofs.YtkopjgnjflhkeaaGreatDoor

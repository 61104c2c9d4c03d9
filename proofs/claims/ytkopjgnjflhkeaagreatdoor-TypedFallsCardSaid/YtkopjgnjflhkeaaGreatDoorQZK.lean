import Derived.Test.YtkopjgnjflhkeaaGreatDoorQZJ
namespace Go.Proofs.YtkopjgnjflhkeaaGreatDoor
open Go.RowKit Go.Pst
set_option linter.unusedVariables false
set_option linter.unusedSimpArgs false
def switchT (fs:List PFunc) (res:Int) (d loops k:Nat) (G:List Scope) (x:PExpr) (els:List PStmt) (cases:List (List Int × List PStmt)):Except Int (List Scope):=
 match valuedT (exprT fs G d k x) with
 | .error e=> .error e
 | .ok t=>if t≠1 then .error 9 else match casesT (blockT (stmtT fs res d loops k) G) G [] cases with
  | .error e=> .error e
  | .ok _=>blockT (stmtT fs res d loops k) G els
theorem int_info7:(Tryz.prog.info? 3).map (fun i=>(i.zero,i.size,i.bytes))=some (some (.int .i64 0),1,8):=by kernel_rfl
theorem caseQ1_eq (f:List PStmt→Except Int (List Scope)) (c:List Int × List PStmt):caseQ1 f c=fun s=>bindQ (if c.1.length=0 then .error 10 else .ok s) (fun s=>bindQ (numsT s c.1) (fun s=>match f c.2 with| .error e=> .error e| .ok _=> .ok s)):=by
 funext s
 unfold caseQ1
 rw [bindQ_assoc]
 rfl
theorem bindQ_numsT_nil (Q:Except Int (List Int)):bindQ Q (fun s=>numsT s [])=Q:=by cases Q<;>rfl
theorem since_more {w w1 w2:World} {bc:Nat} {v v1:Value} {b b1:List Nat} (s1:Since (ChkM bc v b) w w1) (s2:Since (fun k=>k=bc) w1 w2) (h:ChkAt.NewM w bc v v1 b b1):Since (ChkM bc v b) w w2:=s1.trans (s2.mono (fun k e=>Or.inl e))
theorem rCases_get {d:Nat} {S:Nat→Prop} {w:World} {v:Value} {l:List (List Int × List PStmt)} (h:rSlice 2 (rCase (rStmt d)) S w [v] l):
 ∃ a cap,v= .slice a l.length cap∧l.length≤9223372036854775807∧ ∀ i (hi:i<l.length),∃ b off a0 c0 a1 c1,a=some ⟨b,off,none⟩∧S b∧b<w.heap.size∧
  w.cell? ⟨b,off+i*2,none⟩=some (.slice a0 l[i].1.length c0)∧w.cell? ⟨b,off+i*2+1,none⟩=some (.slice a1 l[i].2.length c1)∧rInts S w [.slice a0 l[i].1.length c0] l[i].1∧rSlice 7 (rStmt d) S w [.slice a1 l[i].2.length c1] l[i].2:=by
 obtain ⟨a,cap,h1,h2,h3,h4⟩:=rSlice_val h
 refine ⟨a,cap,h1,by unfold maxLen at h3;omega,fun i hi=>?_⟩
 obtain ⟨b,off,es,ha,hS,hb,hl,hc,v0,v1,rfl,r0,r1⟩:=h4 i hi
 obtain ⟨a0,c0,rfl⟩:=rSlice_shape r0
 obtain ⟨a1,c1,rfl⟩:=rSlice_shape r1
 exact ⟨b,off,a0,c0,a1,c1,ha,hS,hb,hc 0 (by decide),hc 1 (by decide),r0,r1⟩
set_option maxRecDepth 10000 in
set_option maxHeartbeats 4000000 in
theorem typedNested_switch {fs:List PFunc} {dF:Nat} {res:Int} {w:World} {base bc:Nat} {vf:Value} {cf:List Value} {vS:Value} {bs:List Nat} {st:Chk} {d:Nat} (hS:StmtSaid fs dF res base bc vf cf d) (h:StmtIn fs dF res 2 w base bc vf cf vS bs st) (hp:0<st.G.length) (h0:st.fault=0)
 (x:PExpr) (ss tt:ByteArray) (els:List PStmt) (cases:List (List Int × List PStmt)) (v3 v4 v5 v6:Value) (hx:rSlice 4 (rExpr d) (· <base) w [v3] [x]) (hfx:FitX d x)
 (hb:rSlice 7 (rStmt d) (· <base) w [v5] els) (hfb:els.length*136≤reachBytes∧ ∀ y∈els,FitS d y)
 (hcs:rSlice 2 (rCase (rStmt d)) (· <base) w [v6] cases) (hfc: ∀ c∈cases,c.2.length*136≤reachBytes∧ ∀ y∈c.2,FitS d y) (hsum:numsN cases≤1048576):
 Calls Tryz.prog 178 #[.pointer (some ⟨bc,0,none⟩), .agg #[.int .i64 7, .string ss, .string tt,v3,v4,v5,v6]] w (StmtPost w base bc vf cf vS bs st (switchT fs res d st.loops.toNat st.depth.toNat st.G x els cases)):=by
 obtain ⟨b,off,cap,a3,c3,rfl,hSb,hbl,x0,x1,x2,x3,hrx⟩:=rExprs_get hx 0 (by simp)
 simp only [List.getElem_cons_zero,Nat.zero_mul,Nat.add_zero,List.length_cons,List.length_nil,Nat.zero_add] at x0 x1 x2 x3 hrx
 obtain ⟨a5,c5,rfl⟩:=rSlice_shape hb
 obtain ⟨a6,c6,rfl,hcl,hcat⟩:=rCases_get hcs
 simp only [List.length_cons,List.length_nil,Nat.zero_add] at *
 obtain ⟨W,hW⟩: ∃ W,W=w.alloc (.cells #[.int .i64 7, .string ss, .string tt, .slice (some ⟨b,off,none⟩) 1 cap,v4, .slice a5 els.length c5, .slice a6 cases.length c6] 91):=⟨_,rfl⟩
 have sA:Since (fun _=>False) w W:=by rw [hW];exact Since.alloc _ _ _
 have q5:W.cell? ⟨w.heap.size,5,none⟩=some (.slice a5 els.length c5):=by rw [hW,World.cell?_alloc_at _ _ _ _ rfl];rfl
 have q0:W.cell? ⟨w.heap.size,0,none⟩=some (.int .i64 7):=by rw [hW,World.cell?_alloc_at _ _ _ _ rfl];rfl
 have q6:W.cell? ⟨w.heap.size,6,none⟩=some (.slice a6 cases.length c6):=by rw [hW,World.cell?_alloc_at _ _ _ _ rfl];rfl
 have hlW:w.heap.size<W.heap.size:=by rw [hW];simp
 have hin:StmtIn fs dF res 2 W base bc vf cf vS bs st:=h.next (h.at_.since sA (fun _ e=>e.elim)) (sA.mono (fun _ e=>e.elim)) rfl h.ok
 have hm:=fun k (hk:ChkM bc vS bs k)=>h.at_.mem_lt hk
 have hWn: ¬ChkM bc vS bs w.heap.size:=fun f=>by have:=(hm _ f).2;omega
 have hE:=typedValued_any (hin.less (e':=0) (by omega) (by omega)).expr (Good.kept (sA.keep.weaken (fun _ _ _ e=>e.elim)) hrx) hfx
 have hb':rSlice 7 (rStmt d) (· <base) W [.slice a5 els.length c5] els:=Good.kept (sA.keep.weaken (fun _ _ _ e=>e.elim)) hb
 have hkeep: ∀ (w':World) (v:Value) (l:List PStmt),Since (ChkM bc vS bs) W w'→rSlice 7 (rStmt d) (· <base) W [v] l→rSlice 7 (rStmt d) (· <base) w' [v] l:=fun w' v l hs hr=>Good.kept (hs.keep.weaken (fun k _ hk e=>by have:=(hm k e).1;omega)) hr
 obtain ⟨R,hR⟩: ∃ R,R=switchT fs res d st.loops.toNat st.depth.toNat st.G x els cases:=⟨_,rfl⟩
 rw [←hR]
 have HR:=zh hR
 have HSt:=zh hS
 have HE:=zh hE
 have H0:=zh h0
 have Hin:=zh hin
 have Hb:=zh hb'
 have Hfb:=zh hfb
 have SA:=zh (sA.mono (G:=ChkM bc vS bs) (fun _ e=>e.elim))
 have Hk:=zh hkeep
 have Q5:=zh q5
 have Q6:=zh q6
 have Hcat:=zh hcat
 have Hfc:=zh hfc
 have Hsum:=zh hsum
 have Hm:=zh hm
 have HlW2:=zh hlW
 have Hbc:=zh (show w.heap.size≠bc from fun e=>hWn (Or.inl e))
 have HWn:=zh hWn
 have Hp:=zh hp
 clear q6 hcs hcat hfc hsum hR hS hE h0 hin hb' hfb hb hkeep h hx hrx hfx hm hWn sA hp
 go_enter Tryz.func178,Tryz.ntmps178
 go_wp2_with fail
 rw [←hW]
 refine HE.out.mono ?_
 rintro en w1 ⟨t,st1,rfl,hc1,hs1,-,hb1⟩
 have r0:=(hs1.cell (o:=0) hlW Hbc.out).trans q0
 have hk:=hb1 H0.out
 have c8:=hc1.c8
 have HC1:=zh hc1
 have HS1:=zh (hs1.mono (G:=ChkM bc vS bs) (fun k e=>Or.inl e))
 have hl1:w.heap.size<w1.heap.size:=Nat.lt_of_lt_of_le hlW hs1.size
 obtain ⟨V,hV⟩: ∃ V,V=valuedT (exprT fs st.G d st.depth.toNat x):=⟨_,rfl⟩
 rw [←hV] at hk
 have HV:=zh hV
 clear hs1 hb1 hc1 q0 q5 hV
 cases V with
 |error e=>
  obtain ⟨e1,e2,e3,e4⟩:=hk
  have hz:(st1.fault !=0)=true:=by rw [e2];simpa using e1
  have HP:StmtPost w base bc vf cf vS bs st R (.returned (.tuple #[])) w1:=
   ⟨rfl,vS,bs,st1,HC1.out,SA.out.trans HS1.out,ChkAt.NewM.refl _ _ _ _,SameG.of e3,fun h=>absurd H0.out h,fun _=>by rw [HR.out,switchT,←HV.out];exact ⟨e1,e2⟩⟩
  have HP:=zh HP
  clear e1 e2 e3 e4
  go_wp2_with fail
  go_end0
  exact HP.out
 |ok u=>
  obtain ⟨rfl,rfl⟩:=hk
  have hz:(st1.fault !=0)=false:=by rw [H0.out];rfl
  have HR2:=zh (show R=(if t≠1 then .error 9 else match casesT (blockT (stmtT fs res d st1.loops.toNat st1.depth.toNat) st1.G) st1.G [] cases with
   | .error e=> .error e
   | .ok _=>blockT (stmtT fs res d st1.loops.toNat st1.depth.toNat) st1.G els) by rw [HR.out,switchT,←HV.out])
  go_wp2_with fail
  refine (typedWant_any w1 base bc vf cf vS bs st1 HC1.out t 1).mono ?_
  rintro en w2 ⟨rfl,hc2,hs2⟩
  have hW2:=want_stmt st1 H0.out t 1
  have S2:=zh (HS1.out.trans (hs2.mono (G:=ChkM bc vS bs) (fun k e=>Or.inl e)))
  have hin2:=Hin.out.behind hc2 S2.out hW2
  have hld:(if t=1 then st1 else st1.bad 9).loops=st1.loops∧(if t=1 then st1 else st1.bad 9).depth=st1.depth∧(if t=1 then st1 else st1.bad 9).G=st1.G:=by split<;>exact ⟨rfl,rfl,rfl⟩
  obtain ⟨st2,hst2⟩: ∃ st2,st2=(if t=1 then st1 else st1.bad 9):=⟨_,rfl⟩
  rw [←hst2] at hin2 hW2 hld
  have Hin2:=zh hin2
  have HW2:=zh hW2
  have Hld:=zh hld
  have y6:=(S2.out.cell (o:=6) hlW HWn.out).trans Q6.out
  obtain ⟨i0,hi0,hz0,hz1,hz2⟩:=info_parts int_info7
  clear hc2 hs2 hin2 hW2 hst2 hld HC1 HS1 r0 c8
  go_wp2_with fail
  obtain ⟨B0,hB0⟩: ∃ B0,B0=W.heap.size:=⟨_,rfl⟩
  have HB0:=zh hB0
  clear hB0
  obtain ⟨f,hf⟩: ∃ f,f=blockT (stmtT fs res d st1.loops.toNat st1.depth.toNat):=⟨_,rfl⟩
  have Hff:=zh hf
  clear hf
  go_loopw [5,7,9,29] (fun s5 s7 s9 s29 wr=> ∃ (i:Nat) (L:List Int) (vSi:Value) (bsi:List Nat) (sti:Chk),i≤cases.length∧s29= .int .i64 i∧L.length=numsN (cases.take i)∧wr.ownsRow B0 3 1 s5 L.length (L.map (Value.int .i64))∧(∀ k,s5.ownBlock=some k→ ¬ChkM bc vSi bsi k)∧ChkAt wr base bc vf cf vSi bsi sti∧Since (ChkM bc vS bs) W wr∧ChkAt.NewM W bc vS vSi bs bsi∧RowSt st2 (caseQ (f st1.G) [] (cases.take i)) L sti) (fun _ _ _ s29 _=>cases.length - (intOf s29).toNat)
  case atStart=>exact ⟨0,[],vS,bs,st2,Nat.zero_le _,rfl,rfl,⟨rfl,Or.inl ⟨rfl,rfl⟩⟩,fun k e=>by simp [Value.ownBlock] at e,Hin2.out.at_,S2.out,ChkAt.NewM.refl _ _ _ _,SameG.of rfl,fun _=>rfl,fun _=>⟨rfl,rfl⟩⟩
  case round=>
   obtain ⟨i,L,vSi,bsi,sti,hi,rfl,hLn,hrow,hnb,hci,hsi,hni,hei⟩:=hrel
   obtain ⟨wo,hwo⟩: ∃ wo,wo=wr:=⟨_,rfl⟩
   subst hwo
   have HLn:=zh hLn
   have Hrow:=zh hrow
   have Hnb:=zh hnb
   have Hci:=zh hci
   have Hsi:=zh hsi
   have Hni:=zh hni
   have Hei:=zh hei
   clear hLn hrow hnb hci hsi hni hei
   by_cases hlt:i<cases.length
   ·
    have hlt1:decide ((i:Int)<(cases.length:Int))=true:=decide_eq_true (by omega)
    have hi0':(0:Int)≤i:=by omega
    have hi1:(i:Int)<(cases.length:Int):=by omega
    have hwk:IntKind.i64.wrap ((i:Int)+1)=(i:Int)+1:=IntWalk.i64_in _ (by omega)
    obtain ⟨b6,off6,a0,c0,a1,c1,rfl,hSb6,hbl6,x60,x61,hnr,hbr⟩:=Hcat.out i hlt
    have hsn:=caseQ_snoc (f st1.G) cases[i] (cases.take i) []
    rw [←List.take_succ_eq_append_getElem hlt] at hsn
    have hns:=numsN_snoc cases[i] (cases.take i)
    rw [←List.take_succ_eq_append_getElem hlt] at hns
    have hnl:=numsN_take cases (i+1)
    have Hsn:=zh hsn
    have Hns:=zh (And.intro hns hnl)
    have hmb:=fun k (hk:ChkM bc vS bs k)=>(Hm.out k hk).1
    have hw:=fun o=>(SA.out.trans Hsi.out).cell (o:=o) hbl6 (fun f=>by have:=hmb _ f;omega)
    have y60:=(hw _).trans x60
    have y61:=(hw _).trans x61
    have hfc:=Hfc.out cases[i] (List.getElem_mem hlt)
    have Hfci:=zh hfc
    have Hnr:=zh hnr
    have Hbr:=zh hbr
    clear x60 x61 hw hsn hns hnl hmb hfc hnr hbr
    generalize cases[i]=c at *
    have hbkc:wo.heap.size≠bc:=by have:=Hci.out.lb.2;omega
    have Hbkc:=zh hbkc
    have hWr:W.heap.size≤wo.heap.size:=Hsi.out.size
    obtain ⟨Q0,hQ0⟩: ∃ Q0,Q0=bindQ (caseQ (f st1.G) [] (cases.take i)) (fun s=>if c.1.length=0 then .error 10 else .ok s):=⟨_,rfl⟩
    have HE0:=zh (Hei.out.bad (fun _=>c.1.length=0) (e:=10) (by decide))
    rw [←hQ0] at HE0
    have HQ0:=zh hQ0
    have sK:=Since.alloc (fun _=>False) wo (.cells #[.slice a0 c.1.length c0, .slice a1 c.2.length c1] 94)
    have yK:(wo.alloc (.cells #[.slice a0 c.1.length c0, .slice a1 c.2.length c1] 94)).cell? ⟨wo.heap.size,1,none⟩=some (.slice a1 c.2.length c1):=by rw [World.cell?_alloc_at _ _ _ _ rfl];rfl
    have yK0:(wo.alloc (.cells #[.slice a0 c.1.length c0, .slice a1 c.2.length c1] 94)).cell? ⟨wo.heap.size,0,none⟩=some (.slice a0 c.1.length c0):=by rw [World.cell?_alloc_at _ _ _ _ rfl];rfl
    have HyK0:=zh yK0
    have HcK:=zh (Hci.out.since sK (fun _ e=>e.elim))
    have HsK:=zh (Hsi.out.trans (sK.mono (G:=ChkM bc vS bs) (fun _ e=>e.elim)))
    have HrK:=zh (sK.row Hrow.out (fun _ _ e=>e.elim))
    have HnK:=zh (show ∀ k,u5.ownBlock=some k→ ¬ChkM bc vSi bsi k∧k≠wo.heap.size from fun k e=>⟨Hnb.out k e,by have:=(Hrow.out.lt k e).2;omega⟩)
    have HyK:=zh yK
    have HLb:=zh (show L.length+c.1.length≤1048576 by have:=Hns.out;have:=HLn.out;have:=Hsum.out;omega)
    have hcl1:c.1.length≤1048576:=by have:=HLb.out;omega
    clear hbkc hQ0 sK yK yK0
    by_cases hemp:c.1.length=0
    ·
     have hemp':((c.1.length:Int)==0)=true:=by rw [hemp];rfl
     rw [if_pos hemp] at HE0
     have Hemp:=zh hemp
     clear hemp
     go_wp2_with fail
     refine (typedWrong_any _ base bc vf cf vSi bsi sti HcK.out 10).mono ?_
     rintro en w3 ⟨rfl,hc3,hs3⟩
     obtain ⟨Sx,hSx⟩: ∃ Sx,Sx=sti.bad 10:=⟨_,rfl⟩
     rw [←hSx] at hc3 HE0
     have HC3:=zh hc3
     have HS3:=zh (since_more HsK.out hs3 Hni.out)
     have Hrow3:=zh (hs3.row HrK.out (fun k hk e=>(HnK.out k hk).1 (Or.inl e)))
     have Hnb3:=zh HnK.out
     have Hy3:=zh ((hs3.cell (o:=1) (by simp) Hbkc.out).trans HyK.out)
     have y30:=(hs3.cell (o:=0) (by simp) Hbkc.out).trans HyK0.out
     have HE3:=zh HE0.out
     have hz3:wo.heap.size<w3.heap.size:=by have:=hs3.size;simp at this;omega
     clear hc3 hs3 hSx HcK HsK HrK HnK HyK HE0
     go_wp2_with fail
     go_loopw [5,9,42] (fun s5 s9 s42 wr=> ∃ (j:Nat) (L2:List Int) (Sj:Chk),j≤c.1.length∧s42= .int .i64 j∧L2.length=L.length+j∧wr.ownsRow B0 3 1 s5 L2.length (L2.map (Value.int .i64))∧(∀ k,s5.ownBlock=some k→ ¬ChkM bc vSi bsi k∧k≠wo.heap.size)∧ChkAt wr base bc vf cf vSi bsi Sj∧Since (ChkM bc vS bs) W wr∧w3.heap.size≤wr.heap.size∧wr.cell? ⟨wo.heap.size,1,none⟩=some (.slice a1 c.2.length c1)∧RowSt st2 (bindQ Q0 (fun s=>numsT s (c.1.take j))) L2 Sj) (fun _ _ s42 _=>c.1.length - (intOf s42).toNat)
     case atStart=>exact ⟨0,L,Sx,Nat.zero_le _,rfl,rfl,Hrow3.out,Hnb3.out,HC3.out,HS3.out,Nat.le_refl _,Hy3.out,by simpa [bindQ_numsT_nil] using HE3.out⟩
     case round=>
      obtain ⟨j,L2,Sj,hj,rfl,hLj,hrowj,hnbj,hcj,hsj,hzj,hyj,hej⟩:=hrel
      have Hrowj:=zh hrowj
      have Hnbj:=zh hnbj
      have HCj:=zh hcj
      have HSj:=zh hsj
      have Hyj:=zh hyj
      have HEj:=zh hej
      have HLj:=zh hLj
      clear hrowj hnbj hcj hsj hyj hej hLj
      by_cases hltj:j<c.1.length
      ·
       have hltj1:decide ((j:Int)<(c.1.length:Int))=true:=decide_eq_true (by omega)
       have hj0:(0:Int)≤j:=by omega
       have hj1:(j:Int)<(c.1.length:Int):=by omega
       have hwj:IntKind.i64.wrap ((j:Int)+1)=(j:Int)+1:=IntWalk.i64_in _ (by omega)
       obtain ⟨_,_,hv7,-,-,hat7⟩:=rInts_val Hnr.out
       obtain ⟨rfl,-,rfl⟩:=Value.slice.inj hv7
       obtain ⟨b7,off7,rfl,hSb7,hbl7,x70,hI7⟩:=hat7 j hltj
       have y70:=((SA.out.trans HSj.out).cell (o:=off7+j) hbl7 (fun f=>by have:=(Hm.out _ f).1;omega)).trans x70
       have hsj:=numsT_snoc c.1[j] (c.1.take j)
       rw [←List.take_succ_eq_append_getElem hltj] at hsj
       have Hsnj:=zh (show bindQ Q0 (fun s=>numsT s (c.1.take (j+1)))=bindQ (bindQ Q0 (fun s=>numsT s (c.1.take j))) (numT c.1[j]) by
        rw [bindQ_assoc]
        congr 1
        funext s
        exact hsj s)
       clear hv7 hat7 x70 hsj
       generalize c.1[j]=n at *
       have hLb:L2.length≤1048576:=by have:=HLb.out;have:=HLj.out;omega
       by_cases hlo:n< -1099511627776
       ·
        have hlo':decide (n< -1099511627776)=true:=decide_eq_true hlo
        have HP:=zh (show ¬(-1099511627776≤n∧n≤1099511627776) by omega)
        clear hlo
        go_wp2_with fail
        refine (typedWrong_any wr base bc vf cf vSi bsi Sj HCj.out 2).mono ?_
        rintro en wY ⟨rfl,hcY,hsY⟩
        obtain ⟨S1,hS1⟩: ∃ S1,S1=Sj.bad 2:=⟨_,rfl⟩
        rw [←hS1] at hcY
        have HS1e:=zh (show S1=(if ¬(-1099511627776≤n∧n≤1099511627776) then Sj.bad 2 else Sj) by rw [hS1,if_pos HP.out])
        have HCY:=zh hcY
        have HSqY:=zh (since_more HSj.out hsY Hni.out)
        have hrowY:=hsY.row Hrowj.out (fun k hk e=>(Hnbj.out k hk).1 (Or.inl e))
        obtain ⟨aY,cY,hY,-,-⟩:=row_slice hrowY
        subst hY
        have HrowY:=zh hrowY
        have HnbY:=zh Hnbj.out
        have HyY:=zh ((hsY.cell (o:=1) (by omega) Hbkc.out).trans Hyj.out)
        have hzY:w3.heap.size≤wY.heap.size:=by have:=hsY.size;omega
        clear hcY hsY hS1 hrowY
        have hcon:=contains_any n aY L2 cY wY (by omega) (row_intsAt (HrowY.out))
        have Hcon:=zh hcon
        clear hcon
        go_wp2_with fail
        refine Hcon.out.mono ?_
        rintro en w9 ⟨rfl,rfl⟩
        by_cases hmem:n∈L2
        ·
         have hmem':decide (n∈L2)=true:=decide_eq_true hmem
         obtain ⟨SY,hSY⟩: ∃ SY,SY=S1.bad 7:=⟨_,rfl⟩
         have HRX:=zh (show RowSt st2 (bindQ (bindQ Q0 (fun s=>numsT s (c.1.take j))) (numT n)) (L2++[n]) SY by
          have:=HEj.out.num n
          rw [if_pos hmem,←HS1e.out,←hSY] at this
          exact this)
         have HSY:=zh hSY
         clear hmem hSY
         go_wp2_with fail
         refine (typedWrong_any wY base bc vf cf vSi bsi S1 HCY.out 7).mono ?_
         rintro en wX ⟨rfl,hcX,hsX⟩
         rw [←HSY.out] at hcX
         have HCX:=zh hcX
         have HSX:=zh (since_more HSqY.out hsX Hni.out)
         have HrowX:=zh (hsX.row HrowY.out (fun k hk e=>(HnbY.out k hk).1 (Or.inl e)))
         have HnbX:=zh HnbY.out
         have HyX:=zh ((hsX.cell (o:=1) (by omega) Hbkc.out).trans HyY.out)
         have hzX:w3.heap.size≤wX.heap.size:=by have:=hsX.size;omega
         clear hcX hsX
         have hsX:=HSX.out
         have hrowX:=HrowX.out
         have hgeX: ∀ k',(Value.slice aY L2.length cY).ownBlock=some k'→W.heap.size≤k':=fun k' e=>by have:=(hrowX.lt k' e).1;have:=HB0.out;omega
         have hB0X:B0≤wX.heap.size:=by have:=HB0.out;have:=hsX.size;omega
         clear hsX
         go_wp2_with (at_builtin;refine wpList_append_own_at _ rfl _ _ 43 rfl B0 3 i0 (.int .i64 0) 1 8 Tryz.underlying43 hi0 hz0 hz1 hz2 rfl (by decide) _ _ _ rfl (hrowX.alloc _) ⟨wX.heap.size,0,none⟩ 1 1 [.int .i64 n] rfl rfl ?c1 ?c2 ?c3 ?c4 ?c5 ?_)
         case c1=>exact (cell_one_new _ _ _)
         case c2=>intro u hu;simp at hu;subst hu;rfl
         case c3=>unfold maxLen;omega
         case c4=>omega
         case c5=>first|omega|(simp;omega)
         intro v' w4 hown' hgrow _ hloc
         obtain ⟨gg,cg,rfl⟩: ∃ gg cg,v'= .slice (some ⟨gg,0,none⟩) (L2.length+1) cg:=by
          rcases hown'.2 with ⟨_,h⟩|⟨gg,cap',_,h,_⟩
          ·
           omega
          ·
           exact ⟨gg,cap',h⟩
         have s4:Since (fun k'=>(Value.slice aY L2.length cY).ownBlock=some k') wX w4:=(Since.alloc _ _ _).trans (Since.grown hgrow)
         have hnX:=HnbX.out
         have hc4:=HCX.out.since s4 (fun k e=>(hnX k e).1)
         have hloc2: ∀ k,(Value.slice (some ⟨gg,0,none⟩) (L2.length+1) cg).ownBlock=some k→ ¬ChkM bc vSi bsi k∧k≠wo.heap.size:=fun k e=>by
          rcases hloc with h|h
          ·
           exact hnX k (h.symm.trans e)
          ·
           rw [h] at e
           have e':=Option.some.inj e
           exact ⟨fun hk=>by have:=(HCX.out.mem_lt hk).2;omega,by omega⟩
         have y4:=(s4.cell (o:=1) (b:=wo.heap.size) (by omega) (fun e=>(hnX _ e).2 rfl)).trans HyX.out
         have HC4:=zh hc4
         have HS4:=zh (show Since (ChkM bc vS bs) W w4 from HSX.out.then_new s4 (fun k e=>Or.inr (hgeX k e)))
         have Hown:=zh hown'
         have Hloc2:=zh hloc2
         have Hy4:=zh y4
         have hz4:wX.heap.size≤w4.heap.size:=s4.size
         clear hc4 hown' hgrow hloc s4 hgeX hrowX hloc2 hnX y4
         go_wp2_with fail
         go_roundw
         case rel=>exact ⟨j+1,L2++[n],SY,by omega,by go_num,by have:=HLj.out;simp;omega,by simpa using Hown.out,Hloc2.out,HC4.out,HS4.out,by omega,Hy4.out,by rw [Hsnj.out];exact HRX.out⟩
         case measure=>simp [intOf];omega
        ·
         have hmem':decide (n∈L2)=false:=decide_eq_false hmem
         obtain ⟨SY,hSY⟩: ∃ SY,SY=S1:=⟨_,rfl⟩
         have HRX:=zh (show RowSt st2 (bindQ (bindQ Q0 (fun s=>numsT s (c.1.take j))) (numT n)) (L2++[n]) SY by
          have:=HEj.out.num n
          rw [if_neg hmem,←HS1e.out,←hSY] at this
          exact this)
         obtain ⟨wX,hwX⟩: ∃ wX,wX=wY:=⟨_,rfl⟩
         have HCX:=zh (show ChkAt wX base bc vf cf vSi bsi SY by rw [hwX,hSY];exact HCY.out)
         have HSX:=zh (show Since (ChkM bc vS bs) W wX by rw [hwX];exact HSqY.out)
         have HrowX:=zh (show wX.ownsRow B0 3 1 (.slice aY L2.length cY) L2.length (L2.map (Value.int .i64)) by rw [hwX];exact HrowY.out)
         have HnbX:=zh HnbY.out
         have HyX:=zh (show wX.cell? ⟨wo.heap.size,1,none⟩=some (.slice a1 c.2.length c1) by rw [hwX];exact HyY.out)
         have hzX:w3.heap.size≤wX.heap.size:=by rw [hwX];exact hzY
         subst hwX
         clear hmem hSY HCY HSqY HrowY HyY hzY
         have hsX:=HSX.out
         have hrowX:=HrowX.out
         have hgeX: ∀ k',(Value.slice aY L2.length cY).ownBlock=some k'→W.heap.size≤k':=fun k' e=>by have:=(hrowX.lt k' e).1;have:=HB0.out;omega
         have hB0X:B0≤wX.heap.size:=by have:=HB0.out;have:=hsX.size;omega
         clear hsX
         go_wp2_with (at_builtin;refine wpList_append_own_at _ rfl _ _ 43 rfl B0 3 i0 (.int .i64 0) 1 8 Tryz.underlying43 hi0 hz0 hz1 hz2 rfl (by decide) _ _ _ rfl (hrowX.alloc _) ⟨wX.heap.size,0,none⟩ 1 1 [.int .i64 n] rfl rfl ?c1 ?c2 ?c3 ?c4 ?c5 ?_)
         case c1=>exact (cell_one_new _ _ _)
         case c2=>intro u hu;simp at hu;subst hu;rfl
         case c3=>unfold maxLen;omega
         case c4=>omega
         case c5=>first|omega|(simp;omega)
         intro v' w4 hown' hgrow _ hloc
         obtain ⟨gg,cg,rfl⟩: ∃ gg cg,v'= .slice (some ⟨gg,0,none⟩) (L2.length+1) cg:=by
          rcases hown'.2 with ⟨_,h⟩|⟨gg,cap',_,h,_⟩
          ·
           omega
          ·
           exact ⟨gg,cap',h⟩
         have s4:Since (fun k'=>(Value.slice aY L2.length cY).ownBlock=some k') wX w4:=(Since.alloc _ _ _).trans (Since.grown hgrow)
         have hnX:=HnbX.out
         have hc4:=HCX.out.since s4 (fun k e=>(hnX k e).1)
         have hloc2: ∀ k,(Value.slice (some ⟨gg,0,none⟩) (L2.length+1) cg).ownBlock=some k→ ¬ChkM bc vSi bsi k∧k≠wo.heap.size:=fun k e=>by
          rcases hloc with h|h
          ·
           exact hnX k (h.symm.trans e)
          ·
           rw [h] at e
           have e':=Option.some.inj e
           exact ⟨fun hk=>by have:=(HCX.out.mem_lt hk).2;omega,by omega⟩
         have y4:=(s4.cell (o:=1) (b:=wo.heap.size) (by omega) (fun e=>(hnX _ e).2 rfl)).trans HyX.out
         have HC4:=zh hc4
         have HS4:=zh (show Since (ChkM bc vS bs) W w4 from HSX.out.then_new s4 (fun k e=>Or.inr (hgeX k e)))
         have Hown:=zh hown'
         have Hloc2:=zh hloc2
         have Hy4:=zh y4
         have hz4:wX.heap.size≤w4.heap.size:=s4.size
         clear hc4 hown' hgrow hloc s4 hgeX hrowX hloc2 hnX y4
         go_wp2_with fail
         go_roundw
         case rel=>exact ⟨j+1,L2++[n],SY,by omega,by go_num,by have:=HLj.out;simp;omega,by simpa using Hown.out,Hloc2.out,HC4.out,HS4.out,by omega,Hy4.out,by rw [Hsnj.out];exact HRX.out⟩
         case measure=>simp [intOf];omega
       ·
        have hlo':decide (n< -1099511627776)=false:=decide_eq_false hlo
        by_cases hhi:1099511627776<n
        ·
         have hhi':decide (n > 1099511627776)=true:=decide_eq_true hhi
         have HP:=zh (show ¬(-1099511627776≤n∧n≤1099511627776) by omega)
         clear hlo hhi
         go_wp2_with fail
         refine (typedWrong_any wr base bc vf cf vSi bsi Sj HCj.out 2).mono ?_
         rintro en wY ⟨rfl,hcY,hsY⟩
         obtain ⟨S1,hS1⟩: ∃ S1,S1=Sj.bad 2:=⟨_,rfl⟩
         rw [←hS1] at hcY
         have HS1e:=zh (show S1=(if ¬(-1099511627776≤n∧n≤1099511627776) then Sj.bad 2 else Sj) by rw [hS1,if_pos HP.out])
         have HCY:=zh hcY
         have HSqY:=zh (since_more HSj.out hsY Hni.out)
         have hrowY:=hsY.row Hrowj.out (fun k hk e=>(Hnbj.out k hk).1 (Or.inl e))
         obtain ⟨aY,cY,hY,-,-⟩:=row_slice hrowY
         subst hY
         have HrowY:=zh hrowY
         have HnbY:=zh Hnbj.out
         have HyY:=zh ((hsY.cell (o:=1) (by omega) Hbkc.out).trans Hyj.out)
         have hzY:w3.heap.size≤wY.heap.size:=by have:=hsY.size;omega
         clear hcY hsY hS1 hrowY
         have hcon:=contains_any n aY L2 cY wY (by omega) (row_intsAt (HrowY.out))
         have Hcon:=zh hcon
         clear hcon
         go_wp2_with fail
         refine Hcon.out.mono ?_
         rintro en w9 ⟨rfl,rfl⟩
         by_cases hmem:n∈L2
         ·
          have hmem':decide (n∈L2)=true:=decide_eq_true hmem
          obtain ⟨SY,hSY⟩: ∃ SY,SY=S1.bad 7:=⟨_,rfl⟩
          have HRX:=zh (show RowSt st2 (bindQ (bindQ Q0 (fun s=>numsT s (c.1.take j))) (numT n)) (L2++[n]) SY by
           have:=HEj.out.num n
           rw [if_pos hmem,←HS1e.out,←hSY] at this
           exact this)
          have HSY:=zh hSY
          clear hmem hSY
          go_wp2_with fail
          refine (typedWrong_any wY base bc vf cf vSi bsi S1 HCY.out 7).mono ?_
          rintro en wX ⟨rfl,hcX,hsX⟩
          rw [←HSY.out] at hcX
          have HCX:=zh hcX
          have HSX:=zh (since_more HSqY.out hsX Hni.out)
          have HrowX:=zh (hsX.row HrowY.out (fun k hk e=>(HnbY.out k hk).1 (Or.inl e)))
          have HnbX:=zh HnbY.out
          have HyX:=zh ((hsX.cell (o:=1) (by omega) Hbkc.out).trans HyY.out)
          have hzX:w3.heap.size≤wX.heap.size:=by have:=hsX.size;omega
          clear hcX hsX
          have hsX:=HSX.out
          have hrowX:=HrowX.out
          have hgeX: ∀ k',(Value.slice aY L2.length cY).ownBlock=some k'→W.heap.size≤k':=fun k' e=>by have:=(hrowX.lt k' e).1;have:=HB0.out;omega
          have hB0X:B0≤wX.heap.size:=by have:=HB0.out;have:=hsX.size;omega
          clear hsX
          go_wp2_with (at_builtin;refine wpList_append_own_at _ rfl _ _ 43 rfl B0 3 i0 (.int .i64 0) 1 8 Tryz.underlying43 hi0 hz0 hz1 hz2 rfl (by decide) _ _ _ rfl (hrowX.alloc _) ⟨wX.heap.size,0,none⟩ 1 1 [.int .i64 n] rfl rfl ?c1 ?c2 ?c3 ?c4 ?c5 ?_)
          case c1=>exact (cell_one_new _ _ _)
          case c2=>intro u hu;simp at hu;subst hu;rfl
          case c3=>unfold maxLen;omega
          case c4=>omega
          case c5=>first|omega|(simp;omega)
          intro v' w4 hown' hgrow _ hloc
          obtain ⟨gg,cg,rfl⟩: ∃ gg cg,v'= .slice (some ⟨gg,0,none⟩) (L2.length+1) cg:=by
           rcases hown'.2 with ⟨_,h⟩|⟨gg,cap',_,h,_⟩
           ·
            omega
           ·
            exact ⟨gg,cap',h⟩
          have s4:Since (fun k'=>(Value.slice aY L2.length cY).ownBlock=some k') wX w4:=(Since.alloc _ _ _).trans (Since.grown hgrow)
          have hnX:=HnbX.out
          have hc4:=HCX.out.since s4 (fun k e=>(hnX k e).1)
          have hloc2: ∀ k,(Value.slice (some ⟨gg,0,none⟩) (L2.length+1) cg).ownBlock=some k→ ¬ChkM bc vSi bsi k∧k≠wo.heap.size:=fun k e=>by
           rcases hloc with h|h
           ·
            exact hnX k (h.symm.trans e)
           ·
            rw [h] at e
            have e':=Option.some.inj e
            exact ⟨fun hk=>by have:=(HCX.out.mem_lt hk).2;omega,by omega⟩
          have y4:=(s4.cell (o:=1) (b:=wo.heap.size) (by omega) (fun e=>(hnX _ e).2 rfl)).trans HyX.out
          have HC4:=zh hc4
          have HS4:=zh (show Since (ChkM bc vS bs) W w4 from HSX.out.then_new s4 (fun k e=>Or.inr (hgeX k e)))
          have Hown:=zh hown'
          have Hloc2:=zh hloc2
          have Hy4:=zh y4
          have hz4:wX.heap.size≤w4.heap.size:=s4.size
          clear hc4 hown' hgrow hloc s4 hgeX hrowX hloc2 hnX y4
          go_wp2_with fail
          go_roundw
          case rel=>exact ⟨j+1,L2++[n],SY,by omega,by go_num,by have:=HLj.out;simp;omega,by simpa using Hown.out,Hloc2.out,HC4.out,HS4.out,by omega,Hy4.out,by rw [Hsnj.out];exact HRX.out⟩
          case measure=>simp [intOf];omega
         ·
          have hmem':decide (n∈L2)=false:=decide_eq_false hmem
          obtain ⟨SY,hSY⟩: ∃ SY,SY=S1:=⟨_,rfl⟩
          have HRX:=zh (show RowSt st2 (bindQ (bindQ Q0 (fun s=>numsT s (c.1.take j))) (numT n)) (L2++[n]) SY by
           have:=HEj.out.num n
           rw [if_neg hmem,←HS1e.out,←hSY] at this
           exact this)
          obtain ⟨wX,hwX⟩: ∃ wX,wX=wY:=⟨_,rfl⟩
          have HCX:=zh (show ChkAt wX base bc vf cf vSi bsi SY by rw [hwX,hSY];exact HCY.out)
          have HSX:=zh (show Since (ChkM bc vS bs) W wX by rw [hwX];exact HSqY.out)
          have HrowX:=zh (show wX.ownsRow B0 3 1 (.slice aY L2.length cY) L2.length (L2.map (Value.int .i64)) by rw [hwX];exact HrowY.out)
          have HnbX:=zh HnbY.out
          have HyX:=zh (show wX.cell? ⟨wo.heap.size,1,none⟩=some (.slice a1 c.2.length c1) by rw [hwX];exact HyY.out)
          have hzX:w3.heap.size≤wX.heap.size:=by rw [hwX];exact hzY
          subst hwX
          clear hmem hSY HCY HSqY HrowY HyY hzY
          have hsX:=HSX.out
          have hrowX:=HrowX.out
          have hgeX: ∀ k',(Value.slice aY L2.length cY).ownBlock=some k'→W.heap.size≤k':=fun k' e=>by have:=(hrowX.lt k' e).1;have:=HB0.out;omega
          have hB0X:B0≤wX.heap.size:=by have:=HB0.out;have:=hsX.size;omega
          clear hsX
          go_wp2_with (at_builtin;refine wpList_append_own_at _ rfl _ _ 43 rfl B0 3 i0 (.int .i64 0) 1 8 Tryz.underlying43 hi0 hz0 hz1 hz2 rfl (by decide) _ _ _ rfl (hrowX.alloc _) ⟨wX.heap.size,0,none⟩ 1 1 [.int .i64 n] rfl rfl ?c1 ?c2 ?c3 ?c4 ?c5 ?_)
          case c1=>exact (cell_one_new _ _ _)
          case c2=>intro u hu;simp at hu;subst hu;rfl
          case c3=>unfold maxLen;omega
          case c4=>omega
          case c5=>first|omega|(simp;omega)
          intro v' w4 hown' hgrow _ hloc
          obtain ⟨gg,cg,rfl⟩: ∃ gg cg,v'= .slice (some ⟨gg,0,none⟩) (L2.length+1) cg:=by
           rcases hown'.2 with ⟨_,h⟩|⟨gg,cap',_,h,_⟩
           ·
            omega
           ·
            exact ⟨gg,cap',h⟩
          have s4:Since (fun k'=>(Value.slice aY L2.length cY).ownBlock=some k') wX w4:=(Since.alloc _ _ _).trans (Since.grown hgrow)
          have hnX:=HnbX.out
          have hc4:=HCX.out.since s4 (fun k e=>(hnX k e).1)
          have hloc2: ∀ k,(Value.slice (some ⟨gg,0,none⟩) (L2.length+1) cg).ownBlock=some k→ ¬ChkM bc vSi bsi k∧k≠wo.heap.size:=fun k e=>by
           rcases hloc with h|h
           ·
            exact hnX k (h.symm.trans e)
           ·
            rw [h] at e
            have e':=Option.some.inj e
            exact ⟨fun hk=>by have:=(HCX.out.mem_lt hk).2;omega,by omega⟩
          have y4:=(s4.cell (o:=1) (b:=wo.heap.size) (by omega) (fun e=>(hnX _ e).2 rfl)).trans HyX.out
          have HC4:=zh hc4
          have HS4:=zh (show Since (ChkM bc vS bs) W w4 from HSX.out.then_new s4 (fun k e=>Or.inr (hgeX k e)))
          have Hown:=zh hown'
          have Hloc2:=zh hloc2
          have Hy4:=zh y4
          have hz4:wX.heap.size≤w4.heap.size:=s4.size
          clear hc4 hown' hgrow hloc s4 hgeX hrowX hloc2 hnX y4
          go_wp2_with fail
          go_roundw
          case rel=>exact ⟨j+1,L2++[n],SY,by omega,by go_num,by have:=HLj.out;simp;omega,by simpa using Hown.out,Hloc2.out,HC4.out,HS4.out,by omega,Hy4.out,by rw [Hsnj.out];exact HRX.out⟩
          case measure=>simp [intOf];omega
        ·
         have hhi':decide (n > 1099511627776)=false:=decide_eq_false hhi
         have HP:=zh (show ¬ ¬(-1099511627776≤n∧n≤1099511627776) by omega)
         clear hlo hhi
         obtain ⟨aY,cY,hY,-,-⟩:=row_slice Hrowj.out
         subst hY
         obtain ⟨wY,hwY⟩: ∃ wY,wY=wr:=⟨_,rfl⟩
         obtain ⟨S1,hS1⟩: ∃ S1,S1=Sj:=⟨_,rfl⟩
         have HS1e:=zh (show S1=(if ¬(-1099511627776≤n∧n≤1099511627776) then Sj.bad 2 else Sj) by rw [hS1,if_neg HP.out])
         have HCY:=zh (show ChkAt wY base bc vf cf vSi bsi S1 by rw [hwY,hS1];exact HCj.out)
         have HSqY:=zh (show Since (ChkM bc vS bs) W wY by rw [hwY];exact HSj.out)
         have HrowY:=zh (show wY.ownsRow B0 3 1 (.slice aY L2.length cY) L2.length (L2.map (Value.int .i64)) by rw [hwY];exact Hrowj.out)
         have HnbY:=zh Hnbj.out
         have HyY:=zh (show wY.cell? ⟨wo.heap.size,1,none⟩=some (.slice a1 c.2.length c1) by rw [hwY];exact Hyj.out)
         have hzY:w3.heap.size≤wY.heap.size:=by rw [hwY];exact hzj
         subst hwY
         clear hS1 HCj HSj Hrowj Hyj hzj
         have hcon:=contains_any n aY L2 cY wY (by omega) (row_intsAt (HrowY.out))
         have Hcon:=zh hcon
         clear hcon
         go_wp2_with fail
         refine Hcon.out.mono ?_
         rintro en w9 ⟨rfl,rfl⟩
         by_cases hmem:n∈L2
         ·
          have hmem':decide (n∈L2)=true:=decide_eq_true hmem
          obtain ⟨SY,hSY⟩: ∃ SY,SY=S1.bad 7:=⟨_,rfl⟩
          have HRX:=zh (show RowSt st2 (bindQ (bindQ Q0 (fun s=>numsT s (c.1.take j))) (numT n)) (L2++[n]) SY by
           have:=HEj.out.num n
           rw [if_pos hmem,←HS1e.out,←hSY] at this
           exact this)
          have HSY:=zh hSY
          clear hmem hSY
          go_wp2_with fail
          refine (typedWrong_any wY base bc vf cf vSi bsi S1 HCY.out 7).mono ?_
          rintro en wX ⟨rfl,hcX,hsX⟩
          rw [←HSY.out] at hcX
          have HCX:=zh hcX
          have HSX:=zh (since_more HSqY.out hsX Hni.out)
          have HrowX:=zh (hsX.row HrowY.out (fun k hk e=>(HnbY.out k hk).1 (Or.inl e)))
          have HnbX:=zh HnbY.out
          have HyX:=zh ((hsX.cell (o:=1) (by omega) Hbkc.out).trans HyY.out)
          have hzX:w3.heap.size≤wX.heap.size:=by have:=hsX.size;omega
          clear hcX hsX
          have hsX:=HSX.out
          have hrowX:=HrowX.out
          have hgeX: ∀ k',(Value.slice aY L2.length cY).ownBlock=some k'→W.heap.size≤k':=fun k' e=>by have:=(hrowX.lt k' e).1;have:=HB0.out;omega
          have hB0X:B0≤wX.heap.size:=by have:=HB0.out;have:=hsX.size;omega
          clear hsX
          go_wp2_with (at_builtin;refine wpList_append_own_at _ rfl _ _ 43 rfl B0 3 i0 (.int .i64 0) 1 8 Tryz.underlying43 hi0 hz0 hz1 hz2 rfl (by decide) _ _ _ rfl (hrowX.alloc _) ⟨wX.heap.size,0,none⟩ 1 1 [.int .i64 n] rfl rfl ?c1 ?c2 ?c3 ?c4 ?c5 ?_)
          case c1=>exact (cell_one_new _ _ _)
          case c2=>intro u hu;simp at hu;subst hu;rfl
          case c3=>unfold maxLen;omega
          case c4=>omega
          case c5=>first|omega|(simp;omega)
          intro v' w4 hown' hgrow _ hloc
          obtain ⟨gg,cg,rfl⟩: ∃ gg cg,v'= .slice (some ⟨gg,0,none⟩) (L2.length+1) cg:=by
           rcases hown'.2 with ⟨_,h⟩|⟨gg,cap',_,h,_⟩
           ·
            omega
           ·
            exact ⟨gg,cap',h⟩
          have s4:Since (fun k'=>(Value.slice aY L2.length cY).ownBlock=some k') wX w4:=(Since.alloc _ _ _).trans (Since.grown hgrow)
          have hnX:=HnbX.out
          have hc4:=HCX.out.since s4 (fun k e=>(hnX k e).1)
          have hloc2: ∀ k,(Value.slice (some ⟨gg,0,none⟩) (L2.length+1) cg).ownBlock=some k→ ¬ChkM bc vSi bsi k∧k≠wo.heap.size:=fun k e=>by
           rcases hloc with h|h
           ·
            exact hnX k (h.symm.trans e)
           ·
            rw [h] at e
            have e':=Option.some.inj e
            exact ⟨fun hk=>by have:=(HCX.out.mem_lt hk).2;omega,by omega⟩
          have y4:=(s4.cell (o:=1) (b:=wo.heap.size) (by omega) (fun e=>(hnX _ e).2 rfl)).trans HyX.out
          have HC4:=zh hc4
          have HS4:=zh (show Since (ChkM bc vS bs) W w4 from HSX.out.then_new s4 (fun k e=>Or.inr (hgeX k e)))
          have Hown:=zh hown'
          have Hloc2:=zh hloc2
          have Hy4:=zh y4
          have hz4:wX.heap.size≤w4.heap.size:=s4.size
          clear hc4 hown' hgrow hloc s4 hgeX hrowX hloc2 hnX y4
          go_wp2_with fail
          go_roundw
          case rel=>exact ⟨j+1,L2++[n],SY,by omega,by go_num,by have:=HLj.out;simp;omega,by simpa using Hown.out,Hloc2.out,HC4.out,HS4.out,by omega,Hy4.out,by rw [Hsnj.out];exact HRX.out⟩
          case measure=>simp [intOf];omega
         ·
          have hmem':decide (n∈L2)=false:=decide_eq_false hmem
          obtain ⟨SY,hSY⟩: ∃ SY,SY=S1:=⟨_,rfl⟩
          have HRX:=zh (show RowSt st2 (bindQ (bindQ Q0 (fun s=>numsT s (c.1.take j))) (numT n)) (L2++[n]) SY by
           have:=HEj.out.num n
           rw [if_neg hmem,←HS1e.out,←hSY] at this
           exact this)
          obtain ⟨wX,hwX⟩: ∃ wX,wX=wY:=⟨_,rfl⟩
          have HCX:=zh (show ChkAt wX base bc vf cf vSi bsi SY by rw [hwX,hSY];exact HCY.out)
          have HSX:=zh (show Since (ChkM bc vS bs) W wX by rw [hwX];exact HSqY.out)
          have HrowX:=zh (show wX.ownsRow B0 3 1 (.slice aY L2.length cY) L2.length (L2.map (Value.int .i64)) by rw [hwX];exact HrowY.out)
          have HnbX:=zh HnbY.out
          have HyX:=zh (show wX.cell? ⟨wo.heap.size,1,none⟩=some (.slice a1 c.2.length c1) by rw [hwX];exact HyY.out)
          have hzX:w3.heap.size≤wX.heap.size:=by rw [hwX];exact hzY
          subst hwX
          clear hmem hSY HCY HSqY HrowY HyY hzY
          have hsX:=HSX.out
          have hrowX:=HrowX.out
          have hgeX: ∀ k',(Value.slice aY L2.length cY).ownBlock=some k'→W.heap.size≤k':=fun k' e=>by have:=(hrowX.lt k' e).1;have:=HB0.out;omega
          have hB0X:B0≤wX.heap.size:=by have:=HB0.out;have:=hsX.size;omega
          clear hsX
          go_wp2_with (at_builtin;refine wpList_append_own_at _ rfl _ _ 43 rfl B0 3 i0 (.int .i64 0) 1 8 Tryz.underlying43 hi0 hz0 hz1 hz2 rfl (by decide) _ _ _ rfl (hrowX.alloc _) ⟨wX.heap.size,0,none⟩ 1 1 [.int .i64 n] rfl rfl ?c1 ?c2 ?c3 ?c4 ?c5 ?_)
          case c1=>exact (cell_one_new _ _ _)
          case c2=>intro u hu;simp at hu;subst hu;rfl
          case c3=>unfold maxLen;omega
          case c4=>omega
          case c5=>first|omega|(simp;omega)
          intro v' w4 hown' hgrow _ hloc
          obtain ⟨gg,cg,rfl⟩: ∃ gg cg,v'= .slice (some ⟨gg,0,none⟩) (L2.length+1) cg:=by
           rcases hown'.2 with ⟨_,h⟩|⟨gg,cap',_,h,_⟩
           ·
            omega
           ·
            exact ⟨gg,cap',h⟩
          have s4:Since (fun k'=>(Value.slice aY L2.length cY).ownBlock=some k') wX w4:=(Since.alloc _ _ _).trans (Since.grown hgrow)
          have hnX:=HnbX.out
          have hc4:=HCX.out.since s4 (fun k e=>(hnX k e).1)
          have hloc2: ∀ k,(Value.slice (some ⟨gg,0,none⟩) (L2.length+1) cg).ownBlock=some k→ ¬ChkM bc vSi bsi k∧k≠wo.heap.size:=fun k e=>by
           rcases hloc with h|h
           ·
            exact hnX k (h.symm.trans e)
           ·
            rw [h] at e
            have e':=Option.some.inj e
            exact ⟨fun hk=>by have:=(HCX.out.mem_lt hk).2;omega,by omega⟩
          have y4:=(s4.cell (o:=1) (b:=wo.heap.size) (by omega) (fun e=>(hnX _ e).2 rfl)).trans HyX.out
          have HC4:=zh hc4
          have HS4:=zh (show Since (ChkM bc vS bs) W w4 from HSX.out.then_new s4 (fun k e=>Or.inr (hgeX k e)))
          have Hown:=zh hown'
          have Hloc2:=zh hloc2
          have Hy4:=zh y4
          have hz4:wX.heap.size≤w4.heap.size:=s4.size
          clear hc4 hown' hgrow hloc s4 hgeX hrowX hloc2 hnX y4
          go_wp2_with fail
          go_roundw
          case rel=>exact ⟨j+1,L2++[n],SY,by omega,by go_num,by have:=HLj.out;simp;omega,by simpa using Hown.out,Hloc2.out,HC4.out,HS4.out,by omega,Hy4.out,by rw [Hsnj.out];exact HRX.out⟩
          case measure=>simp [intOf];omega
      ·
       have hje:j=c.1.length:=by omega
       subst hje
       have hltj1:decide ((c.1.length:Int)<(c.1.length:Int))=false:=decide_eq_false (by omega)
       have hej:=HEj.out
       rw [List.take_length] at hej
       have hinj:=Hin.out.behind HCj.out HSj.out (HW2.out.then (f:=fun _=>_) hej.stmt)
       have hblk:=typedBlock_any HSt.out (hinj.less (e':=1) (by omega) (by omega)) c.2 _ (Good.kept ((SA.out.trans HSj.out).keep.weaken (fun k _ hk e=>by have:=(Hm.out k e).1;omega)) Hbr.out) Hfci.out
       have Hblk:=zh hblk
       have Hej:=zh hej
       have y31:=Hyj.out
       clear hblk hinj hej hltj
       go_wp2_with fail
       refine Hblk.out.mono ?_
       rintro en w5 ⟨rfl,vS5,bs5,st5,hc5,hs5,hn5,he5⟩
       have HC5:=zh hc5
       have HS5:=zh (Hni.out.since HSj.out hs5)
       have HN5:=zh (Hni.out.trans hn5 HSj.out.size)
       have Hrow5:=zh (hs5.row Hrowj.out (fun k hk=>(Hnbj.out k hk).1))
       have Hnb5:=zh (show ∀ k,u5.ownBlock=some k→ ¬ChkM bc vS5 bs5 k from fun k e hk=>by
        rcases hn5 k hk with h|h
        ·
         exact (Hnbj.out k e).1 h
        ·
         have:=(Hrowj.out.lt k e).2;omega)
       have hE5:=Hej.out.block (fun S=>blockT (stmtT fs res d S.loops.toNat S.depth.toNat) S.G c.2) he5 (fun G' h=>blockT_ok h)
       rw [HQ0.out,bindQ_assoc,bindQ_assoc] at hE5
       rw [Hld.out.1,Hld.out.2.1,Hld.out.2.2,←Hff.out] at hE5
       have HE5:=zh hE5
       clear hc5 hs5 hn5 he5 hE5
       go_wp2_with fail
       go_roundw
       case rel=>exact ⟨i+1,L2,vS5,bs5,st5,by omega,by go_num,by have:=HLj.out;have:=HLn.out;have:=Hns.out;omega,Hrow5.out,Hnb5.out,HC5.out,HS5.out,HN5.out,by rw [Hsn.out,caseQ1_eq];exact HE5.out⟩
       case measure=>simp [intOf];omega
    ·
     have hemp':((c.1.length:Int)==0)=false:=by rw [beq_eq_false_iff_ne];omega
     rw [if_neg hemp] at HE0
     have Hemp:=zh hemp
     clear hemp
     go_wp2_with fail
     obtain ⟨w3,hw3⟩: ∃ w3,w3=wo.alloc (.cells #[.slice a0 c.1.length c0, .slice a1 c.2.length c1] 94):=⟨_,rfl⟩
     obtain ⟨Sx,hSx⟩: ∃ Sx,Sx=sti:=⟨_,rfl⟩
     have hz3:wo.heap.size<w3.heap.size:=by rw [hw3];simp
     rw [←hw3] at HcK HsK HrK HyK
     rw [←hSx] at HcK HE0
     have HC3:=zh HcK.out
     have HS3:=zh HsK.out
     have Hrow3:=zh HrK.out
     have Hnb3:=zh HnK.out
     have Hy3:=zh HyK.out
     have HE3:=zh HE0.out
     rw [←hw3]
     clear hSx HcK HsK HrK HnK HyK HE0 hw3
     go_loopw [5,9,42] (fun s5 s9 s42 wr=> ∃ (j:Nat) (L2:List Int) (Sj:Chk),j≤c.1.length∧s42= .int .i64 j∧L2.length=L.length+j∧wr.ownsRow B0 3 1 s5 L2.length (L2.map (Value.int .i64))∧(∀ k,s5.ownBlock=some k→ ¬ChkM bc vSi bsi k∧k≠wo.heap.size)∧ChkAt wr base bc vf cf vSi bsi Sj∧Since (ChkM bc vS bs) W wr∧w3.heap.size≤wr.heap.size∧wr.cell? ⟨wo.heap.size,1,none⟩=some (.slice a1 c.2.length c1)∧RowSt st2 (bindQ Q0 (fun s=>numsT s (c.1.take j))) L2 Sj) (fun _ _ s42 _=>c.1.length - (intOf s42).toNat)
     case atStart=>exact ⟨0,L,Sx,Nat.zero_le _,rfl,rfl,Hrow3.out,Hnb3.out,HC3.out,HS3.out,Nat.le_refl _,Hy3.out,by simpa [bindQ_numsT_nil] using HE3.out⟩
     case round=>
      obtain ⟨j,L2,Sj,hj,rfl,hLj,hrowj,hnbj,hcj,hsj,hzj,hyj,hej⟩:=hrel
      have Hrowj:=zh hrowj
      have Hnbj:=zh hnbj
      have HCj:=zh hcj
      have HSj:=zh hsj
      have Hyj:=zh hyj
      have HEj:=zh hej
      have HLj:=zh hLj
      clear hrowj hnbj hcj hsj hyj hej hLj
      by_cases hltj:j<c.1.length
      ·
       have hltj1:decide ((j:Int)<(c.1.length:Int))=true:=decide_eq_true (by omega)
       have hj0:(0:Int)≤j:=by omega
       have hj1:(j:Int)<(c.1.length:Int):=by omega
       have hwj:IntKind.i64.wrap ((j:Int)+1)=(j:Int)+1:=IntWalk.i64_in _ (by omega)
       obtain ⟨_,_,hv7,-,-,hat7⟩:=rInts_val Hnr.out
       obtain ⟨rfl,-,rfl⟩:=Value.slice.inj hv7
       obtain ⟨b7,off7,rfl,hSb7,hbl7,x70,hI7⟩:=hat7 j hltj
       have y70:=((SA.out.trans HSj.out).cell (o:=off7+j) hbl7 (fun f=>by have:=(Hm.out _ f).1;omega)).trans x70
       have hsj:=numsT_snoc c.1[j] (c.1.take j)
       rw [←List.take_succ_eq_append_getElem hltj] at hsj
       have Hsnj:=zh (show bindQ Q0 (fun s=>numsT s (c.1.take (j+1)))=bindQ (bindQ Q0 (fun s=>numsT s (c.1.take j))) (numT c.1[j]) by
        rw [bindQ_assoc]
        congr 1
        funext s
        exact hsj s)
       clear hv7 hat7 x70 hsj
       generalize c.1[j]=n at *
       have hLb:L2.length≤1048576:=by have:=HLb.out;have:=HLj.out;omega
       by_cases hlo:n< -1099511627776
       ·
        have hlo':decide (n< -1099511627776)=true:=decide_eq_true hlo
        have HP:=zh (show ¬(-1099511627776≤n∧n≤1099511627776) by omega)
        clear hlo
        go_wp2_with fail
        refine (typedWrong_any wr base bc vf cf vSi bsi Sj HCj.out 2).mono ?_
        rintro en wY ⟨rfl,hcY,hsY⟩
        obtain ⟨S1,hS1⟩: ∃ S1,S1=Sj.bad 2:=⟨_,rfl⟩
        rw [←hS1] at hcY
        have HS1e:=zh (show S1=(if ¬(-1099511627776≤n∧n≤1099511627776) then Sj.bad 2 else Sj) by rw [hS1,if_pos HP.out])
        have HCY:=zh hcY
        have HSqY:=zh (since_more HSj.out hsY Hni.out)
        have hrowY:=hsY.row Hrowj.out (fun k hk e=>(Hnbj.out k hk).1 (Or.inl e))
        obtain ⟨aY,cY,hY,-,-⟩:=row_slice hrowY
        subst hY
        have HrowY:=zh hrowY
        have HnbY:=zh Hnbj.out
        have HyY:=zh ((hsY.cell (o:=1) (by omega) Hbkc.out).trans Hyj.out)
        have hzY:w3.heap.size≤wY.heap.size:=by have:=hsY.size;omega
        clear hcY hsY hS1 hrowY
        have hcon:=contains_any n aY L2 cY wY (by omega) (row_intsAt (HrowY.out))
        have Hcon:=zh hcon
        clear hcon
        go_wp2_with fail
        refine Hcon.out.mono ?_
        rintro en w9 ⟨rfl,rfl⟩
        by_cases hmem:n∈L2
        ·
         have hmem':decide (n∈L2)=true:=decide_eq_true hmem
         obtain ⟨SY,hSY⟩: ∃ SY,SY=S1.bad 7:=⟨_,rfl⟩
         have HRX:=zh (show RowSt st2 (bindQ (bindQ Q0 (fun s=>numsT s (c.1.take j))) (numT n)) (L2++[n]) SY by
          have:=HEj.out.num n
          rw [if_pos hmem,←HS1e.out,←hSY] at this
          exact this)
         have HSY:=zh hSY
         clear hmem hSY
         go_wp2_with fail
         refine (typedWrong_any wY base bc vf cf vSi bsi S1 HCY.out 7).mono ?_
         rintro en wX ⟨rfl,hcX,hsX⟩
         rw [←HSY.out] at hcX
         have HCX:=zh hcX
         have HSX:=zh (since_more HSqY.out hsX Hni.out)
         have HrowX:=zh (hsX.row HrowY.out (fun k hk e=>(HnbY.out k hk).1 (Or.inl e)))
         have HnbX:=zh HnbY.out
         have HyX:=zh ((hsX.cell (o:=1) (by omega) Hbkc.out).trans HyY.out)
         have hzX:w3.heap.size≤wX.heap.size:=by have:=hsX.size;omega
         clear hcX hsX
         have hsX:=HSX.out
         have hrowX:=HrowX.out
         have hgeX: ∀ k',(Value.slice aY L2.length cY).ownBlock=some k'→W.heap.size≤k':=fun k' e=>by have:=(hrowX.lt k' e).1;have:=HB0.out;omega
         have hB0X:B0≤wX.heap.size:=by have:=HB0.out;have:=hsX.size;omega
         clear hsX
         go_wp2_with (at_builtin;refine wpList_append_own_at _ rfl _ _ 43 rfl B0 3 i0 (.int .i64 0) 1 8 Tryz.underlying43 hi0 hz0 hz1 hz2 rfl (by decide) _ _ _ rfl (hrowX.alloc _) ⟨wX.heap.size,0,none⟩ 1 1 [.int .i64 n] rfl rfl ?c1 ?c2 ?c3 ?c4 ?c5 ?_)
         case c1=>exact (cell_one_new _ _ _)
         case c2=>intro u hu;simp at hu;subst hu;rfl
         case c3=>unfold maxLen;omega
         case c4=>omega
         case c5=>first|omega|(simp;omega)
         intro v' w4 hown' hgrow _ hloc
         obtain ⟨gg,cg,rfl⟩: ∃ gg cg,v'= .slice (some ⟨gg,0,none⟩) (L2.length+1) cg:=by
          rcases hown'.2 with ⟨_,h⟩|⟨gg,cap',_,h,_⟩
          ·
           omega
          ·
           exact ⟨gg,cap',h⟩
         have s4:Since (fun k'=>(Value.slice aY L2.length cY).ownBlock=some k') wX w4:=(Since.alloc _ _ _).trans (Since.grown hgrow)
         have hnX:=HnbX.out
         have hc4:=HCX.out.since s4 (fun k e=>(hnX k e).1)
         have hloc2: ∀ k,(Value.slice (some ⟨gg,0,none⟩) (L2.length+1) cg).ownBlock=some k→ ¬ChkM bc vSi bsi k∧k≠wo.heap.size:=fun k e=>by
          rcases hloc with h|h
          ·
           exact hnX k (h.symm.trans e)
          ·
           rw [h] at e
           have e':=Option.some.inj e
           exact ⟨fun hk=>by have:=(HCX.out.mem_lt hk).2;omega,by omega⟩
         have y4:=(s4.cell (o:=1) (b:=wo.heap.size) (by omega) (fun e=>(hnX _ e).2 rfl)).trans HyX.out
         have HC4:=zh hc4
         have HS4:=zh (show Since (ChkM bc vS bs) W w4 from HSX.out.then_new s4 (fun k e=>Or.inr (hgeX k e)))
         have Hown:=zh hown'
         have Hloc2:=zh hloc2
         have Hy4:=zh y4
         have hz4:wX.heap.size≤w4.heap.size:=s4.size
         clear hc4 hown' hgrow hloc s4 hgeX hrowX hloc2 hnX y4
         go_wp2_with fail
         go_roundw
         case rel=>exact ⟨j+1,L2++[n],SY,by omega,by go_num,by have:=HLj.out;simp;omega,by simpa using Hown.out,Hloc2.out,HC4.out,HS4.out,by omega,Hy4.out,by rw [Hsnj.out];exact HRX.out⟩
         case measure=>simp [intOf];omega
        ·
         have hmem':decide (n∈L2)=false:=decide_eq_false hmem
         obtain ⟨SY,hSY⟩: ∃ SY,SY=S1:=⟨_,rfl⟩
         have HRX:=zh (show RowSt st2 (bindQ (bindQ Q0 (fun s=>numsT s (c.1.take j))) (numT n)) (L2++[n]) SY by
          have:=HEj.out.num n
          rw [if_neg hmem,←HS1e.out,←hSY] at this
          exact this)
         obtain ⟨wX,hwX⟩: ∃ wX,wX=wY:=⟨_,rfl⟩
         have HCX:=zh (show ChkAt wX base bc vf cf vSi bsi SY by rw [hwX,hSY];exact HCY.out)
         have HSX:=zh (show Since (ChkM bc vS bs) W wX by rw [hwX];exact HSqY.out)
         have HrowX:=zh (show wX.ownsRow B0 3 1 (.slice aY L2.length cY) L2.length (L2.map (Value.int .i64)) by rw [hwX];exact HrowY.out)
         have HnbX:=zh HnbY.out
         have HyX:=zh (show wX.cell? ⟨wo.heap.size,1,none⟩=some (.slice a1 c.2.length c1) by rw [hwX];exact HyY.out)
         have hzX:w3.heap.size≤wX.heap.size:=by rw [hwX];exact hzY
         subst hwX
         clear hmem hSY HCY HSqY HrowY HyY hzY
         have hsX:=HSX.out
         have hrowX:=HrowX.out
         have hgeX: ∀ k',(Value.slice aY L2.length cY).ownBlock=some k'→W.heap.size≤k':=fun k' e=>by have:=(hrowX.lt k' e).1;have:=HB0.out;omega
         have hB0X:B0≤wX.heap.size:=by have:=HB0.out;have:=hsX.size;omega
         clear hsX
         go_wp2_with (at_builtin;refine wpList_append_own_at _ rfl _ _ 43 rfl B0 3 i0 (.int .i64 0) 1 8 Tryz.underlying43 hi0 hz0 hz1 hz2 rfl (by decide) _ _ _ rfl (hrowX.alloc _) ⟨wX.heap.size,0,none⟩ 1 1 [.int .i64 n] rfl rfl ?c1 ?c2 ?c3 ?c4 ?c5 ?_)
         case c1=>exact (cell_one_new _ _ _)
         case c2=>intro u hu;simp at hu;subst hu;rfl
         case c3=>unfold maxLen;omega
         case c4=>omega
         case c5=>first|omega|(simp;omega)
         intro v' w4 hown' hgrow _ hloc
         obtain ⟨gg,cg,rfl⟩: ∃ gg cg,v'= .slice (some ⟨gg,0,none⟩) (L2.length+1) cg:=by
          rcases hown'.2 with ⟨_,h⟩|⟨gg,cap',_,h,_⟩
          ·
           omega
          ·
           exact ⟨gg,cap',h⟩
         have s4:Since (fun k'=>(Value.slice aY L2.length cY).ownBlock=some k') wX w4:=(Since.alloc _ _ _).trans (Since.grown hgrow)
         have hnX:=HnbX.out
         have hc4:=HCX.out.since s4 (fun k e=>(hnX k e).1)
         have hloc2: ∀ k,(Value.slice (some ⟨gg,0,none⟩) (L2.length+1) cg).ownBlock=some k→ ¬ChkM bc vSi bsi k∧k≠wo.heap.size:=fun k e=>by
          rcases hloc with h|h
          ·
           exact hnX k (h.symm.trans e)
          ·
           rw [h] at e
           have e':=Option.some.inj e
           exact ⟨fun hk=>by have:=(HCX.out.mem_lt hk).2;omega,by omega⟩
         have y4:=(s4.cell (o:=1) (b:=wo.heap.size) (by omega) (fun e=>(hnX _ e).2 rfl)).trans HyX.out
         have HC4:=zh hc4
         have HS4:=zh (show Since (ChkM bc vS bs) W w4 from HSX.out.then_new s4 (fun k e=>Or.inr (hgeX k e)))
         have Hown:=zh hown'
         have Hloc2:=zh hloc2
         have Hy4:=zh y4
         have hz4:wX.heap.size≤w4.heap.size:=s4.size
         clear hc4 hown' hgrow hloc s4 hgeX hrowX hloc2 hnX y4
         go_wp2_with fail
         go_roundw
         case rel=>exact ⟨j+1,L2++[n],SY,by omega,by go_num,by have:=HLj.out;simp;omega,by simpa using Hown.out,Hloc2.out,HC4.out,HS4.out,by omega,Hy4.out,by rw [Hsnj.out];exact HRX.out⟩
         case measure=>simp [intOf];omega
       ·
        have hlo':decide (n< -1099511627776)=false:=decide_eq_false hlo
        by_cases hhi:1099511627776<n
        ·
         have hhi':decide (n > 1099511627776)=true:=decide_eq_true hhi
         have HP:=zh (show ¬(-1099511627776≤n∧n≤1099511627776) by omega)
         clear hlo hhi
         go_wp2_with fail
         refine (typedWrong_any wr base bc vf cf vSi bsi Sj HCj.out 2).mono ?_
         rintro en wY ⟨rfl,hcY,hsY⟩
         obtain ⟨S1,hS1⟩: ∃ S1,S1=Sj.bad 2:=⟨_,rfl⟩
         rw [←hS1] at hcY
         have HS1e:=zh (show S1=(if ¬(-1099511627776≤n∧n≤1099511627776) then Sj.bad 2 else Sj) by rw [hS1,if_pos HP.out])
         have HCY:=zh hcY
         have HSqY:=zh (since_more HSj.out hsY Hni.out)
         have hrowY:=hsY.row Hrowj.out (fun k hk e=>(Hnbj.out k hk).1 (Or.inl e))
         obtain ⟨aY,cY,hY,-,-⟩:=row_slice hrowY
         subst hY
         have HrowY:=zh hrowY
         have HnbY:=zh Hnbj.out
         have HyY:=zh ((hsY.cell (o:=1) (by omega) Hbkc.out).trans Hyj.out)
         have hzY:w3.heap.size≤wY.heap.size:=by have:=hsY.size;omega
         clear hcY hsY hS1 hrowY
         have hcon:=contains_any n aY L2 cY wY (by omega) (row_intsAt (HrowY.out))
         have Hcon:=zh hcon
         clear hcon
         go_wp2_with fail
         refine Hcon.out.mono ?_
         rintro en w9 ⟨rfl,rfl⟩
         by_cases hmem:n∈L2
         ·
          have hmem':decide (n∈L2)=true:=decide_eq_true hmem
          obtain ⟨SY,hSY⟩: ∃ SY,SY=S1.bad 7:=⟨_,rfl⟩
          have HRX:=zh (show RowSt st2 (bindQ (bindQ Q0 (fun s=>numsT s (c.1.take j))) (numT n)) (L2++[n]) SY by
           have:=HEj.out.num n
           rw [if_pos hmem,←HS1e.out,←hSY] at this
           exact this)
          have HSY:=zh hSY
          clear hmem hSY
          go_wp2_with fail
          refine (typedWrong_any wY base bc vf cf vSi bsi S1 HCY.out 7).mono ?_
          rintro en wX ⟨rfl,hcX,hsX⟩
          rw [←HSY.out] at hcX
          have HCX:=zh hcX
          have HSX:=zh (since_more HSqY.out hsX Hni.out)
          have HrowX:=zh (hsX.row HrowY.out (fun k hk e=>(HnbY.out k hk).1 (Or.inl e)))
          have HnbX:=zh HnbY.out
          have HyX:=zh ((hsX.cell (o:=1) (by omega) Hbkc.out).trans HyY.out)
          have hzX:w3.heap.size≤wX.heap.size:=by have:=hsX.size;omega
          clear hcX hsX
          have hsX:=HSX.out
          have hrowX:=HrowX.out
          have hgeX: ∀ k',(Value.slice aY L2.length cY).ownBlock=some k'→W.heap.size≤k':=fun k' e=>by have:=(hrowX.lt k' e).1;have:=HB0.out;omega
          have hB0X:B0≤wX.heap.size:=by have:=HB0.out;have:=hsX.size;omega
          clear hsX
          go_wp2_with (at_builtin;refine wpList_append_own_at _ rfl _ _ 43 rfl B0 3 i0 (.int .i64 0) 1 8 Tryz.underlying43 hi0 hz0 hz1 hz2 rfl (by decide) _ _ _ rfl (hrowX.alloc _) ⟨wX.heap.size,0,none⟩ 1 1 [.int .i64 n] rfl rfl ?c1 ?c2 ?c3 ?c4 ?c5 ?_)
          case c1=>exact (cell_one_new _ _ _)
          case c2=>intro u hu;simp at hu;subst hu;rfl
          case c3=>unfold maxLen;omega
          case c4=>omega
          case c5=>first|omega|(simp;omega)
          intro v' w4 hown' hgrow _ hloc
          obtain ⟨gg,cg,rfl⟩: ∃ gg cg,v'= .slice (some ⟨gg,0,none⟩) (L2.length+1) cg:=by
           rcases hown'.2 with ⟨_,h⟩|⟨gg,cap',_,h,_⟩
           ·
            omega
           ·
            exact ⟨gg,cap',h⟩
          have s4:Since (fun k'=>(Value.slice aY L2.length cY).ownBlock=some k') wX w4:=(Since.alloc _ _ _).trans (Since.grown hgrow)
          have hnX:=HnbX.out
          have hc4:=HCX.out.since s4 (fun k e=>(hnX k e).1)
          have hloc2: ∀ k,(Value.slice (some ⟨gg,0,none⟩) (L2.length+1) cg).ownBlock=some k→ ¬ChkM bc vSi bsi k∧k≠wo.heap.size:=fun k e=>by
           rcases hloc with h|h
           ·
            exact hnX k (h.symm.trans e)
           ·
            rw [h] at e
            have e':=Option.some.inj e
            exact ⟨fun hk=>by have:=(HCX.out.mem_lt hk).2;omega,by omega⟩
          have y4:=(s4.cell (o:=1) (b:=wo.heap.size) (by omega) (fun e=>(hnX _ e).2 rfl)).trans HyX.out
          have HC4:=zh hc4
          have HS4:=zh (show Since (ChkM bc vS bs) W w4 from HSX.out.then_new s4 (fun k e=>Or.inr (hgeX k e)))
          have Hown:=zh hown'
          have Hloc2:=zh hloc2
          have Hy4:=zh y4
          have hz4:wX.heap.size≤w4.heap.size:=s4.size
          clear hc4 hown' hgrow hloc s4 hgeX hrowX hloc2 hnX y4
          go_wp2_with fail
          go_roundw
          case rel=>exact ⟨j+1,L2++[n],SY,by omega,by go_num,by have:=HLj.out;simp;omega,by simpa using Hown.out,Hloc2.out,HC4.out,HS4.out,by omega,Hy4.out,by rw [Hsnj.out];exact HRX.out⟩
          case measure=>simp [intOf];omega
         ·
          have hmem':decide (n∈L2)=false:=decide_eq_false hmem
          obtain ⟨SY,hSY⟩: ∃ SY,SY=S1:=⟨_,rfl⟩
          have HRX:=zh (show RowSt st2 (bindQ (bindQ Q0 (fun s=>numsT s (c.1.take j))) (numT n)) (L2++[n]) SY by
           have:=HEj.out.num n
           rw [if_neg hmem,←HS1e.out,←hSY] at this
           exact this)
          obtain ⟨wX,hwX⟩: ∃ wX,wX=wY:=⟨_,rfl⟩
          have HCX:=zh (show ChkAt wX base bc vf cf vSi bsi SY by rw [hwX,hSY];exact HCY.out)
          have HSX:=zh (show Since (ChkM bc vS bs) W wX by rw [hwX];exact HSqY.out)
          have HrowX:=zh (show wX.ownsRow B0 3 1 (.slice aY L2.length cY) L2.length (L2.map (Value.int .i64)) by rw [hwX];exact HrowY.out)
          have HnbX:=zh HnbY.out
          have HyX:=zh (show wX.cell? ⟨wo.heap.size,1,none⟩=some (.slice a1 c.2.length c1) by rw [hwX];exact HyY.out)
          have hzX:w3.heap.size≤wX.heap.size:=by rw [hwX];exact hzY
          subst hwX
          clear hmem hSY HCY HSqY HrowY HyY hzY
          have hsX:=HSX.out
          have hrowX:=HrowX.out
          have hgeX: ∀ k',(Value.slice aY L2.length cY).ownBlock=some k'→W.heap.size≤k':=fun k' e=>by have:=(hrowX.lt k' e).1;have:=HB0.out;omega
          have hB0X:B0≤wX.heap.size:=by have:=HB0.out;have:=hsX.size;omega
          clear hsX
          go_wp2_with (at_builtin;refine wpList_append_own_at _ rfl _ _ 43 rfl B0 3 i0 (.int .i64 0) 1 8 Tryz.underlying43 hi0 hz0 hz1 hz2 rfl (by decide) _ _ _ rfl (hrowX.alloc _) ⟨wX.heap.size,0,none⟩ 1 1 [.int .i64 n] rfl rfl ?c1 ?c2 ?c3 ?c4 ?c5 ?_)
          case c1=>exact (cell_one_new _ _ _)
          case c2=>intro u hu;simp at hu;subst hu;rfl
          case c3=>unfold maxLen;omega
          case c4=>omega
          case c5=>first|omega|(simp;omega)
          intro v' w4 hown' hgrow _ hloc
          obtain ⟨gg,cg,rfl⟩: ∃ gg cg,v'= .slice (some ⟨gg,0,none⟩) (L2.length+1) cg:=by
           rcases hown'.2 with ⟨_,h⟩|⟨gg,cap',_,h,_⟩
           ·
            omega
           ·
            exact ⟨gg,cap',h⟩
          have s4:Since (fun k'=>(Value.slice aY L2.length cY).ownBlock=some k') wX w4:=(Since.alloc _ _ _).trans (Since.grown hgrow)
          have hnX:=HnbX.out
          have hc4:=HCX.out.since s4 (fun k e=>(hnX k e).1)
          have hloc2: ∀ k,(Value.slice (some ⟨gg,0,none⟩) (L2.length+1) cg).ownBlock=some k→ ¬ChkM bc vSi bsi k∧k≠wo.heap.size:=fun k e=>by
           rcases hloc with h|h
           ·
            exact hnX k (h.symm.trans e)
           ·
            rw [h] at e
            have e':=Option.some.inj e
            exact ⟨fun hk=>by have:=(HCX.out.mem_lt hk).2;omega,by omega⟩
          have y4:=(s4.cell (o:=1) (b:=wo.heap.size) (by omega) (fun e=>(hnX _ e).2 rfl)).trans HyX.out
          have HC4:=zh hc4
          have HS4:=zh (show Since (ChkM bc vS bs) W w4 from HSX.out.then_new s4 (fun k e=>Or.inr (hgeX k e)))
          have Hown:=zh hown'
          have Hloc2:=zh hloc2
          have Hy4:=zh y4
          have hz4:wX.heap.size≤w4.heap.size:=s4.size
          clear hc4 hown' hgrow hloc s4 hgeX hrowX hloc2 hnX y4
          go_wp2_with fail
          go_roundw
          case rel=>exact ⟨j+1,L2++[n],SY,by omega,by go_num,by have:=HLj.out;simp;omega,by simpa using Hown.out,Hloc2.out,HC4.out,HS4.out,by omega,Hy4.out,by rw [Hsnj.out];exact HRX.out⟩
          case measure=>simp [intOf];omega
        ·
         have hhi':decide (n > 1099511627776)=false:=decide_eq_false hhi
         have HP:=zh (show ¬ ¬(-1099511627776≤n∧n≤1099511627776) by omega)
         clear hlo hhi
         obtain ⟨aY,cY,hY,-,-⟩:=row_slice Hrowj.out
         subst hY
         obtain ⟨wY,hwY⟩: ∃ wY,wY=wr:=⟨_,rfl⟩
         obtain ⟨S1,hS1⟩: ∃ S1,S1=Sj:=⟨_,rfl⟩
         have HS1e:=zh (show S1=(if ¬(-1099511627776≤n∧n≤1099511627776) then Sj.bad 2 else Sj) by rw [hS1,if_neg HP.out])
         have HCY:=zh (show ChkAt wY base bc vf cf vSi bsi S1 by rw [hwY,hS1];exact HCj.out)
         have HSqY:=zh (show Since (ChkM bc vS bs) W wY by rw [hwY];exact HSj.out)
         have HrowY:=zh (show wY.ownsRow B0 3 1 (.slice aY L2.length cY) L2.length (L2.map (Value.int .i64)) by rw [hwY];exact Hrowj.out)
         have HnbY:=zh Hnbj.out
         have HyY:=zh (show wY.cell? ⟨wo.heap.size,1,none⟩=some (.slice a1 c.2.length c1) by rw [hwY];exact Hyj.out)
         have hzY:w3.heap.size≤wY.heap.size:=by rw [hwY];exact hzj
         subst hwY
         clear hS1 HCj HSj Hrowj Hyj hzj
         have hcon:=contains_any n aY L2 cY wY (by omega) (row_intsAt (HrowY.out))
         have Hcon:=zh hcon
         clear hcon
         go_wp2_with fail
         refine Hcon.out.mono ?_
         rintro en w9 ⟨rfl,rfl⟩
         by_cases hmem:n∈L2
         ·
          have hmem':decide (n∈L2)=true:=decide_eq_true hmem
          obtain ⟨SY,hSY⟩: ∃ SY,SY=S1.bad 7:=⟨_,rfl⟩
          have HRX:=zh (show RowSt st2 (bindQ (bindQ Q0 (fun s=>numsT s (c.1.take j))) (numT n)) (L2++[n]) SY by
           have:=HEj.out.num n
           rw [if_pos hmem,←HS1e.out,←hSY] at this
           exact this)
          have HSY:=zh hSY
          clear hmem hSY
          go_wp2_with fail
          refine (typedWrong_any wY base bc vf cf vSi bsi S1 HCY.out 7).mono ?_
          rintro en wX ⟨rfl,hcX,hsX⟩
          rw [←HSY.out] at hcX
          have HCX:=zh hcX
          have HSX:=zh (since_more HSqY.out hsX Hni.out)
          have HrowX:=zh (hsX.row HrowY.out (fun k hk e=>(HnbY.out k hk).1 (Or.inl e)))
          have HnbX:=zh HnbY.out
          have HyX:=zh ((hsX.cell (o:=1) (by omega) Hbkc.out).trans HyY.out)
          have hzX:w3.heap.size≤wX.heap.size:=by have:=hsX.size;omega
          clear hcX hsX
          have hsX:=HSX.out
          have hrowX:=HrowX.out
          have hgeX: ∀ k',(Value.slice aY L2.length cY).ownBlock=some k'→W.heap.size≤k':=fun k' e=>by have:=(hrowX.lt k' e).1;have:=HB0.out;omega
          have hB0X:B0≤wX.heap.size:=by have:=HB0.out;have:=hsX.size;omega
          clear hsX
          go_wp2_with (at_builtin;refine wpList_append_own_at _ rfl _ _ 43 rfl B0 3 i0 (.int .i64 0) 1 8 Tryz.underlying43 hi0 hz0 hz1 hz2 rfl (by decide) _ _ _ rfl (hrowX.alloc _) ⟨wX.heap.size,0,none⟩ 1 1 [.int .i64 n] rfl rfl ?c1 ?c2 ?c3 ?c4 ?c5 ?_)
          case c1=>exact (cell_one_new _ _ _)
          case c2=>intro u hu;simp at hu;subst hu;rfl
          case c3=>unfold maxLen;omega
          case c4=>omega
          case c5=>first|omega|(simp;omega)
          intro v' w4 hown' hgrow _ hloc
          obtain ⟨gg,cg,rfl⟩: ∃ gg cg,v'= .slice (some ⟨gg,0,none⟩) (L2.length+1) cg:=by
           rcases hown'.2 with ⟨_,h⟩|⟨gg,cap',_,h,_⟩
           ·
            omega
           ·
            exact ⟨gg,cap',h⟩
          have s4:Since (fun k'=>(Value.slice aY L2.length cY).ownBlock=some k') wX w4:=(Since.alloc _ _ _).trans (Since.grown hgrow)
          have hnX:=HnbX.out
          have hc4:=HCX.out.since s4 (fun k e=>(hnX k e).1)
          have hloc2: ∀ k,(Value.slice (some ⟨gg,0,none⟩) (L2.length+1) cg).ownBlock=some k→ ¬ChkM bc vSi bsi k∧k≠wo.heap.size:=fun k e=>by
           rcases hloc with h|h
           ·
            exact hnX k (h.symm.trans e)
           ·
            rw [h] at e
            have e':=Option.some.inj e
            exact ⟨fun hk=>by have:=(HCX.out.mem_lt hk).2;omega,by omega⟩
          have y4:=(s4.cell (o:=1) (b:=wo.heap.size) (by omega) (fun e=>(hnX _ e).2 rfl)).trans HyX.out
          have HC4:=zh hc4
          have HS4:=zh (show Since (ChkM bc vS bs) W w4 from HSX.out.then_new s4 (fun k e=>Or.inr (hgeX k e)))
          have Hown:=zh hown'
          have Hloc2:=zh hloc2
          have Hy4:=zh y4
          have hz4:wX.heap.size≤w4.heap.size:=s4.size
          clear hc4 hown' hgrow hloc s4 hgeX hrowX hloc2 hnX y4
          go_wp2_with fail
          go_roundw
          case rel=>exact ⟨j+1,L2++[n],SY,by omega,by go_num,by have:=HLj.out;simp;omega,by simpa using Hown.out,Hloc2.out,HC4.out,HS4.out,by omega,Hy4.out,by rw [Hsnj.out];exact HRX.out⟩
          case measure=>simp [intOf];omega
         ·
          have hmem':decide (n∈L2)=false:=decide_eq_false hmem
          obtain ⟨SY,hSY⟩: ∃ SY,SY=S1:=⟨_,rfl⟩
          have HRX:=zh (show RowSt st2 (bindQ (bindQ Q0 (fun s=>numsT s (c.1.take j))) (numT n)) (L2++[n]) SY by
           have:=HEj.out.num n
           rw [if_neg hmem,←HS1e.out,←hSY] at this
           exact this)
          obtain ⟨wX,hwX⟩: ∃ wX,wX=wY:=⟨_,rfl⟩
          have HCX:=zh (show ChkAt wX base bc vf cf vSi bsi SY by rw [hwX,hSY];exact HCY.out)
          have HSX:=zh (show Since (ChkM bc vS bs) W wX by rw [hwX];exact HSqY.out)
          have HrowX:=zh (show wX.ownsRow B0 3 1 (.slice aY L2.length cY) L2.length (L2.map (Value.int .i64)) by rw [hwX];exact HrowY.out)
          have HnbX:=zh HnbY.out
          have HyX:=zh (show wX.cell? ⟨wo.heap.size,1,none⟩=some (.slice a1 c.2.length c1) by rw [hwX];exact HyY.out)
          have hzX:w3.heap.size≤wX.heap.size:=by rw [hwX];exact hzY
          subst hwX
          clear hmem hSY HCY HSqY HrowY HyY hzY
          have hsX:=HSX.out
          have hrowX:=HrowX.out
          have hgeX: ∀ k',(Value.slice aY L2.length cY).ownBlock=some k'→W.heap.size≤k':=fun k' e=>by have:=(hrowX.lt k' e).1;have:=HB0.out;omega
          have hB0X:B0≤wX.heap.size:=by have:=HB0.out;have:=hsX.size;omega
          clear hsX
          go_wp2_with (at_builtin;refine wpList_append_own_at _ rfl _ _ 43 rfl B0 3 i0 (.int .i64 0) 1 8 Tryz.underlying43 hi0 hz0 hz1 hz2 rfl (by decide) _ _ _ rfl (hrowX.alloc _) ⟨wX.heap.size,0,none⟩ 1 1 [.int .i64 n] rfl rfl ?c1 ?c2 ?c3 ?c4 ?c5 ?_)
          case c1=>exact (cell_one_new _ _ _)
          case c2=>intro u hu;simp at hu;subst hu;rfl
          case c3=>unfold maxLen;omega
          case c4=>omega
          case c5=>first|omega|(simp;omega)
          intro v' w4 hown' hgrow _ hloc
          obtain ⟨gg,cg,rfl⟩: ∃ gg cg,v'= .slice (some ⟨gg,0,none⟩) (L2.length+1) cg:=by
           rcases hown'.2 with ⟨_,h⟩|⟨gg,cap',_,h,_⟩
           ·
            omega
           ·
            exact ⟨gg,cap',h⟩
          have s4:Since (fun k'=>(Value.slice aY L2.length cY).ownBlock=some k') wX w4:=(Since.alloc _ _ _).trans (Since.grown hgrow)
          have hnX:=HnbX.out
          have hc4:=HCX.out.since s4 (fun k e=>(hnX k e).1)
          have hloc2: ∀ k,(Value.slice (some ⟨gg,0,none⟩) (L2.length+1) cg).ownBlock=some k→ ¬ChkM bc vSi bsi k∧k≠wo.heap.size:=fun k e=>by
           rcases hloc with h|h
           ·
            exact hnX k (h.symm.trans e)
           ·
            rw [h] at e
            have e':=Option.some.inj e
            exact ⟨fun hk=>by have:=(HCX.out.mem_lt hk).2;omega,by omega⟩
          have y4:=(s4.cell (o:=1) (b:=wo.heap.size) (by omega) (fun e=>(hnX _ e).2 rfl)).trans HyX.out
          have HC4:=zh hc4
          have HS4:=zh (show Since (ChkM bc vS bs) W w4 from HSX.out.then_new s4 (fun k e=>Or.inr (hgeX k e)))
          have Hown:=zh hown'
          have Hloc2:=zh hloc2
          have Hy4:=zh y4
          have hz4:wX.heap.size≤w4.heap.size:=s4.size
          clear hc4 hown' hgrow hloc s4 hgeX hrowX hloc2 hnX y4
          go_wp2_with fail
          go_roundw
          case rel=>exact ⟨j+1,L2++[n],SY,by omega,by go_num,by have:=HLj.out;simp;omega,by simpa using Hown.out,Hloc2.out,HC4.out,HS4.out,by omega,Hy4.out,by rw [Hsnj.out];exact HRX.out⟩
          case measure=>simp [intOf];omega
      ·
       have hje:j=c.1.length:=by omega
       subst hje
       have hltj1:decide ((c.1.length:Int)<(c.1.length:Int))=false:=decide_eq_false (by omega)
       have hej:=HEj.out
       rw [List.take_length] at hej
       have hinj:=Hin.out.behind HCj.out HSj.out (HW2.out.then (f:=fun _=>_) hej.stmt)
       have hblk:=typedBlock_any HSt.out (hinj.less (e':=1) (by omega) (by omega)) c.2 _ (Good.kept ((SA.out.trans HSj.out).keep.weaken (fun k _ hk e=>by have:=(Hm.out k e).1;omega)) Hbr.out) Hfci.out
       have Hblk:=zh hblk
       have Hej:=zh hej
       have y31:=Hyj.out
       clear hblk hinj hej hltj
       go_wp2_with fail
       refine Hblk.out.mono ?_
       rintro en w5 ⟨rfl,vS5,bs5,st5,hc5,hs5,hn5,he5⟩
       have HC5:=zh hc5
       have HS5:=zh (Hni.out.since HSj.out hs5)
       have HN5:=zh (Hni.out.trans hn5 HSj.out.size)
       have Hrow5:=zh (hs5.row Hrowj.out (fun k hk=>(Hnbj.out k hk).1))
       have Hnb5:=zh (show ∀ k,u5.ownBlock=some k→ ¬ChkM bc vS5 bs5 k from fun k e hk=>by
        rcases hn5 k hk with h|h
        ·
         exact (Hnbj.out k e).1 h
        ·
         have:=(Hrowj.out.lt k e).2;omega)
       have hE5:=Hej.out.block (fun S=>blockT (stmtT fs res d S.loops.toNat S.depth.toNat) S.G c.2) he5 (fun G' h=>blockT_ok h)
       rw [HQ0.out,bindQ_assoc,bindQ_assoc] at hE5
       rw [Hld.out.1,Hld.out.2.1,Hld.out.2.2,←Hff.out] at hE5
       have HE5:=zh hE5
       clear hc5 hs5 hn5 he5 hE5
       go_wp2_with fail
       go_roundw
       case rel=>exact ⟨i+1,L2,vS5,bs5,st5,by omega,by go_num,by have:=HLj.out;have:=HLn.out;have:=Hns.out;omega,Hrow5.out,Hnb5.out,HC5.out,HS5.out,HN5.out,by rw [Hsn.out,caseQ1_eq];exact HE5.out⟩
       case measure=>simp [intOf];omega
   ·
    have hie:i=cases.length:=by omega
    subst hie
    have hlt1:decide ((cases.length:Int)<(cases.length:Int))=false:=decide_eq_false (by omega)
    have hei:=Hei.out
    rw [List.take_length] at hei
    have hini:=Hin.out.behind Hci.out Hsi.out (HW2.out.then (f:=fun _=>_) hei.stmt)
    have hblk:=typedBlock_any HSt.out (hini.less (e':=1) (by omega) (by omega)) els _ (Hk.out _ _ _ Hsi.out Hb.out) Hfb.out
    have Hblk:=zh hblk
    have HEi:=zh hei
    have y5:=(Hsi.out.cell (o:=5) hlW HWn.out).trans Q5.out
    clear hblk hini hei hlt
    go_wp2_with fail
    refine Hblk.out.mono ?_
    rintro en w9 ⟨rfl,vS9,bs9,st9,hc9,hs9,hn9,he9⟩
    have HP:StmtPost w base bc vf cf vS bs st1 R (.returned (.tuple #[])) w9:=by
     refine ⟨rfl,vS9,bs9,st9,hc9,SA.out.trans (Hni.out.since Hsi.out hs9),fun k hk=>?_,?_⟩
     ·
      rcases Hni.out.trans hn9 Hsi.out.size k hk with e|e
      ·
       exact Or.inl e
      ·
       exact Or.inr (by omega)
     ·
      refine ((HW2.out.then (f:=fun S=>match caseQ (f st1.G) [] cases with| .error e=> .error e| .ok _=> .ok S.G) HEi.out.stmt).then (f:=fun S=>blockT (stmtT fs res d S.loops.toNat S.depth.toNat) S.G els) he9).cast ?_
      rw [HR2.out,casesT_eq,Hff.out]
      by_cases hq:t=1
      ·
       simp only [hq,if_true,bindT,ne_eq,not_true,if_false]
       cases caseQ (blockT (stmtT fs res d st1.loops.toNat st1.depth.toNat) st1.G) [] cases<;>rfl
      ·
       simp only [hq,if_false,bindT,ne_eq,not_false_eq_true,if_true]
    have HP:=zh HP
    clear hc9 hs9 hn9 he9
    go_wp2_with fail
    go_end0
    exact HP.out
end Go.Proofs.YtkopjgnjflhkeaaGreatDoor

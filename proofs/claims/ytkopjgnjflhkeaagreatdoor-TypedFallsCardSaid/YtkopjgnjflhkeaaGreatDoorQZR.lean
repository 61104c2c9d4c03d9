import Derived.Test.YtkopjgnjflhkeaaGreatDoorQZQ
import Derived.Test.YtkopjgnjflhkeaaGreatDoorQG
namespace Go.Proofs.YtkopjgnjflhkeaaGreatDoor
open Go.RowKit Go.Pst
set_option linter.unusedVariables false
set_option linter.unusedSimpArgs false
theorem paramsT_snoc (p:ByteArray × Int): ∀ (l:List (ByteArray × Int)) (G:List Scope),paramsT G (l++[p])=bindT (paramsT G l) (fun G'=>declT G' p.1 p.2)
 |[],G=>by
  obtain ⟨s,t⟩:=p
  simp only [List.nil_append,paramsT,bindT]
  cases declT G s t<;>rfl
 |(s,t)::r,G=>by
  simp only [List.cons_append,paramsT]
  cases declT G s t with
  |error e=>rfl
  |ok G'=>exact paramsT_snoc p r G'
theorem func_end {st S:Chk} {R:Except Int (List Scope)} (h:StmtEnd st R S) (c:Prop) [Decidable c]:
 (if c then S.bad 11 else S).fault=(if st.fault≠0 then st.fault else match (generalizing:=false) R with| .error e=>e| .ok _=>if c then 11 else 0):=by
 by_cases h0:st.fault=0
 ·
  have e: ∀ x y:Int,(if st.fault≠0 then x else y)=y:=fun _ _=>if_neg (fun h=>h h0)
  rw [e]
  have h2:=h.2.2 h0
  cases R with
  |error e=>
   obtain ⟨q1,q2⟩:=h2
   show _=e
   split
   ·
    unfold Chk.bad;show (if S.fault=0 then (11:Int) else S.fault)=e;rw [if_neg (by rw [q2];exact q1),q2]
   ·
    exact q2
  |ok G'=>
   have h3:S={st with G:=G'}:=h2
   subst h3
   show _=if c then (11:Int) else 0
   split
   ·
    simp [Chk.bad,h0]
   ·
    exact h0
 ·
  have e: ∀ x y:Int,(if st.fault≠0 then x else y)=x:=fun _ _=>if_pos h0
  rw [e]
  have h1:=h.2.1 h0
  split
  ·
   unfold Chk.bad;show (if S.fault=0 then (11:Int) else S.fault)=_;rw [if_neg (by rw [h1];exact h0),h1]
  ·
   exact h1
def headT (f:PFunc):Int:=if ¬(0≤f.result∧f.result≤5) then 3 else if 4<f.params.length then 10 else 0
theorem funcT_eq (fs:List PFunc) (d:Nat) (f:PFunc) (ends:Bool):funcT fs d f ends=if headT f≠0 then headT f else match bindT (paramsT [[]] f.params) (fun G=>blockT (stmtT fs f.result d 0 0) G f.body) with| .error e=>e| .ok _=>if f.result≠0∧ends=false then 11 else 0:=by
 unfold funcT headT
 by_cases h1:0≤f.result∧f.result≤5
 ·
  by_cases h2:4<f.params.length
  ·
   simp only [h1,h2,not_true_eq_false,and_self,if_false,if_true]
   simp
  ·
   simp only [h1,h2,not_true_eq_false,and_self,if_false]
   simp only [ne_eq,not_true_eq_false,if_false]
   cases paramsT [[]] f.params<;>rfl
 ·
  simp only [h1,not_false_eq_true,if_true]
  simp
theorem ChkAt.cfs {w:World} {base bc:Nat} {vf a b c d:Value} {vS:Value} {bs:List Nat} {st:Chk} (h:ChkAt w base bc vf [a,b,c,d] vS bs st):
 w.cell? ⟨bc,1,none⟩=some a∧w.cell? ⟨bc,2,none⟩=some b∧w.cell? ⟨bc,3,none⟩=some c∧w.cell? ⟨bc,4,none⟩=some d:=
 ⟨h.c1 0 (by simp),h.c1 1 (by simp),h.c1 2 (by simp),h.c1 3 (by simp)⟩
def FuncPost (w:World) (base bc:Nat) (vf:Value) (cf:List Value) (r:Int) (en:Ending) (w':World):Prop:=
 en= .returned (.tuple #[])∧ ∃ vS' bs' st',ChkAt w' base bc vf cf vS' bs' st'∧Since (fun k=>k=bc) w w'∧st'.fault=r
set_option maxRecDepth 10000 in
set_option maxHeartbeats 4000000 in
theorem typedFunction_any {fs:List PFunc} {dF:Nat} {w:World} {base bc:Nat} {vf:Value} {f:PFunc} {v1 v3:Value} {d:Nat}
 (h:ChkAt w base bc vf [.string f.name,v1, .int .i64 f.result,v3] (.slice none 0 0) [] ⟨[],0,0,0⟩) (hT:TyLaid w base) (hF:rFuncs dF (· <base) w [vf] fs)
 (hp:rSlice 2 rParam (· <base) w [v1] f.params) (hb:rSlice 7 (rStmt d) (· <base) w [v3] f.body) (hfb:f.body.length*136≤reachBytes∧ ∀ y∈f.body,FitS d y):
 Calls Tryz.prog 34 #[.pointer (some ⟨bc,0,none⟩)] w (FuncPost w base bc vf [.string f.name,v1, .int .i64 f.result,v3] (funcT fs d f (endsF d f.body))):=by
 obtain ⟨a1,c1,rfl,hP1,hP2,hat⟩:=rParams_val hp
 obtain ⟨a3,c3,rfl⟩:=rSlice_shape hb
 have hal:f.params.length≤9223372036854775807:=by unfold maxLen at hP2;omega
 obtain ⟨R,hR⟩: ∃ R,R=funcT fs d f (endsF d f.body):=⟨_,rfl⟩
 rw [←hR]
 have HR:=zh (hR.trans (funcT_eq fs d f (endsF d f.body)))
 have hbase:=h.lb.1
 have hlt:=h.lb.2
 have hopen:=typedOpen_any w base bc vf _ _ _ _ h (by simp)
 have Hopen:=zh hopen
 have Hm0:=zh (show ∀ k,ChkM bc (.slice none 0 0) [] k→k=bc from fun k hk=>by
  rcases hk with e|e|e
  ·
   exact e
  ·
   simp [Value.ownBlock] at e
  ·
   simp at e)
 have HT:=zh hT
 have HF:=zh hF
 have Hat:=zh hat
 have Hb:=zh hb
 have Hfb:=zh hfb
 have Hbase:=zh hbase
 have Hbig:=zh h.big
 clear hR hopen hT hF hat hb hfb hp h hbase
 go_enter Tryz.func34,Tryz.ntmps34
 go_wp2_with fail
 refine Hopen.out.mono ?_
 rintro en w1 ⟨rfl,vS1,bs1,h1,h2,h3⟩
 obtain ⟨k1,k2,k3,k4⟩:=h1.cfs
 have HC1:=zh h1
 have HS1:=zh h2
 have HN1:=zh h3
 clear h1 h2 h3
 have HSr:=zh (Since.refl (ChkM bc vS1 bs1) w1)
 by_cases r0:f.result<0
 ·
  have d0:decide (f.result<0)=true:=decide_eq_true r0
  have Hr0:=zh (show ¬(0≤f.result∧f.result≤5) by omega)
  go_wp2_with fail
  refine (typedWrong_any _ base bc vf [.string f.name, .slice a1 f.params.length c1, .int .i64 f.result, .slice a3 f.body.length c3] vS1 bs1 _ HC1.out 3).mono ?_
  rintro en w2 ⟨rfl,hcx,hsx⟩
  have HC2:=zh hcx
  have HS2:=zh (HSr.out.trans (hsx.mono (G:=ChkM bc vS1 bs1) (fun k e=>Or.inl e)))
  obtain ⟨k1,k2,k3,k4⟩:=hcx.cfs
  clear hcx hsx
  by_cases p4:4<f.params.length
  ·
   have hp4:decide ((f.params.length:Int) > 4)=true:=decide_eq_true (by omega)
   go_wp2_with fail
   refine (typedWrong_any w2 base bc vf [.string f.name, .slice a1 f.params.length c1, .int .i64 f.result, .slice a3 f.body.length c3] vS1 bs1 _ HC2.out 10).mono ?_
   rintro en w2p ⟨rfl,hcx,hsx⟩
   have HC2p:=zh hcx
   have HS2p:=zh (HS2.out.trans (hsx.mono (G:=ChkM bc vS1 bs1) (fun k e=>Or.inl e)))
   obtain ⟨k1,k2,k3,k4⟩:=hcx.cfs
   clear hcx hsx
   have HCX:=HC2p
   have HSX:=HS2p
   obtain ⟨stX,hstX⟩: ∃ stX:Chk,stX=(({(⟨[],0,0,0⟩:Chk) with G:=[]::(⟨[],0,0,0⟩:Chk).G}:Chk).bad 3).bad 10:=⟨_,rfl⟩
   rw [←hstX] at HCX
   have Hst:=zh (show stX.G=[[]]∧stX.loops=0∧stX.depth=0∧stX.fault=headT f by rw [hstX];exact ⟨rfl,rfl,rfl,by have e1:=Hr0.out;have e2:=p4;simp [headT,Chk.bad,e1,e2]⟩)
   obtain ⟨k1,k2,k3,k4⟩:=HCX.out.cfs
   clear hstX HC2p HS2p
   go_wp2_with fail
   go_loopw [3,37] (fun s3 s37 wr=> ∃ (i:Nat) (sti:Chk),i≤f.params.length∧s37= .int .i64 i∧ChkAt wr base bc vf [.string f.name, .slice a1 f.params.length c1, .int .i64 f.result, .slice a3 f.body.length c3] vS1 bs1 sti∧Since (ChkM bc vS1 bs1) w1 wr∧StmtEnd stX (paramsT stX.G (f.params.take i)) sti) (fun _ s37 _=>f.params.length - (intOf s37).toNat)
   case atStart=>exact ⟨0,stX,Nat.zero_le _,rfl,HCX.out,HSX.out,StmtEnd.refl _⟩
   case round=>
    obtain ⟨i,sti,hi,rfl,hci,hsi,hei⟩:=hrel
    have Hci:=zh hci
    have Hsi:=zh hsi
    have Hei:=zh hei
    have hG1:=hei.1
    rw [Hst.out.1] at hG1
    obtain ⟨g,r,hgr⟩: ∃ g r,sti.G=g::r:=by
     cases hg:sti.G with
     |nil=>rw [hg] at hG1;simp [SameG] at hG1
     |cons g r=>exact ⟨g,r,rfl⟩
    have hr0:r=[]:=by rw [hgr] at hG1;simpa [SameG] using hG1
    subst hr0
    obtain ⟨y1,y2,y3,y4⟩:=hci.cfs
    clear hci hsi hei hG1
    by_cases hlt1:i<f.params.length
    ·
     have hd1:decide ((i:Int)<(f.params.length:Int))=true:=decide_eq_true (by omega)
     have hi0:(0:Int)≤i:=by omega
     have hi1:(i:Int)<(f.params.length:Int):=by omega
     have hwk:IntKind.i64.wrap ((i:Int)+1)=(i:Int)+1:=IntWalk.i64_in _ (by omega)
     obtain ⟨b,off,rfl,hSb,hbl,x0,x1,hsz,hI⟩:=Hat.out i hlt1
     have hsn:=paramsT_snoc f.params[i] (f.params.take i) stX.G
     rw [←List.take_succ_eq_append_getElem hlt1] at hsn
     have Hsn:=zh hsn
     have hsw:=HN1.out.since HS1.out Hsi.out
     have hw:=fun o=>hsw.cell (o:=o) hbl (fun e=>by have:=Hm0.out _ e;have:=Hbase.out;omega)
     have z0:=(hw _).trans x0
     have z1:=(hw _).trans x1
     clear x0 x1 hw hsn
     generalize f.params[i]=p at *
     have sY:=Since.alloc (fun _=>False) wr (.cells #[.string p.1, .int .i64 p.2] 74)
     have hcall:=typedDeclare_any _ base bc vf _ vS1 bs1 sti (Hci.out.since sY (fun _ e=>e.elim)) g [] hgr (by simp) p.1 hsz p.2
     have Hcall:=zh hcall
     have SY:=zh sY
     have Hgr:=zh hgr
     clear hcall sY hsw hgr y1 y2 y3 y4
     go_wp2_with fail
     refine Hcall.out.mono ?_
     rintro en w3 ⟨rfl,st3,hc3,hs3,hd3⟩
     have HC3:=zh hc3
     have HS3:=zh (Hsi.out.trans ((SY.out.mono (fun _ e=>e.elim)).trans hs3))
     have HD3:=zh hd3
     clear hc3 hs3 hd3
     go_wp2_with fail
     go_roundw
     case rel=>
      refine ⟨i+1,st3,by omega,by go_num,HC3.out,HS3.out,?_⟩
      rw [Hsn.out]
      exact Hei.out.then (f:=fun S=>declT S.G p.1 p.2) (HD3.out.stmt (by rw [Hgr.out];simp))
     case measure=>simp [intOf];omega
    ·
     have hie:i=f.params.length:=by omega
     subst hie
     have hd1:decide ((f.params.length:Int)<(f.params.length:Int))=false:=decide_eq_false (by omega)
     have hE:=Hei.out
     rw [List.take_length] at hE
     have hsw:=HN1.out.since HS1.out Hsi.out
     have hsw':Since (fun k=>k=bc) w wr:=hsw.mono (fun k e=>Hm0.out k e)
     have hin:StmtIn fs dF f.result 1 wr base bc vf [.string f.name, .slice a1 f.params.length c1, .int .i64 f.result, .slice a3 f.body.length c3] vS1 bs1 sti:=
      ⟨Hci.out,HT.out.since hsw' (fun k e=>by rw [e];exact Hbase.out) Hbig.out,Good.kept (hsw'.keep.weaken (fun k _ hk e=>by have:=Hbase.out;omega)) HF.out,rfl,by omega,by rw [hgr];simp,fun e=>by
       obtain ⟨z,G',hG',hst⟩:=hE.ok_of e
       have h1:sti.depth=0:=by rw [hst];exact Hst.out.2.2.1
       have h2:sti.loops=0:=by rw [hst];exact Hst.out.2.1
       rw [h1,h2,hgr]
       simp⟩
     have hb':rSlice 7 (rStmt d) (· <base) wr [.slice a3 f.body.length c3] f.body:=Good.kept (hsw'.keep.weaken (fun k _ hk e=>by have:=Hbase.out;omega)) Hb.out
     have hcall:=typedBlock_any (typedStmt_any fs dF f.result base bc vf [.string f.name, .slice a1 f.params.length c1, .int .i64 f.result, .slice a3 f.body.length c3] d) hin f.body _ hb' Hfb.out
     have Hcall:=zh hcall
     have HE:=zh hE
     clear hin hb' hcall hE hsw hsw' hlt1 hgr
     go_wp2_with fail
     refine Hcall.out.mono ?_
     rintro en w3 ⟨rfl,vS3,bs3,st3,hc3,hs3,hn3,he3⟩
     have HC3:=zh hc3
     have hs4:=HN1.out.since HS1.out (Hsi.out.trans hs3)
     have HS3:=zh (hs4.mono (G:=fun k=>k=bc) (fun k e=>Hm0.out k e))
     have HE3:=zh (HE.out.then (f:=fun S=>blockT (stmtT fs f.result d S.loops.toNat S.depth.toNat) S.G f.body) he3)
     obtain ⟨y1,y2,y3,y4⟩:=hc3.cfs
     have hR3: ∀ c:Prop,∀ _:Decidable c,(c↔(f.result≠0∧endsF d f.body=false))→(if c then st3.bad 11 else st3).fault=R:=fun c _ hc=>by
      rw [func_end HE3.out c,HR.out,Hst.out.1,Hst.out.2.1,Hst.out.2.2.1,Hst.out.2.2.2]
      simp only [Int.toNat_zero]
      simp only [hc]
     have HR3:=zh hR3
     clear hc3 hs3 hn3 he3 hs4 hR3
     by_cases hr0:f.result=0
     ·
      have hq0:(f.result !=0)=false:=by simp [hr0]
      have HP:FuncPost w base bc vf [.string f.name, .slice a1 f.params.length c1, .int .i64 f.result, .slice a3 f.body.length c3] R (.returned (.tuple #[])) w3:=⟨rfl,vS3,bs3,st3,HC3.out,HS3.out,by have:=HR3.out False inferInstance (by simp [hr0]);simpa using this⟩
      have HP:=zh HP
      clear hr0
      go_wp2_with fail
      go_end0
      exact HP.out
     ·
      have hq0:(f.result !=0)=true:=by simpa using hr0
      have hb3:rSlice 7 (rStmt d) (fun _=>True) w3 [.slice a3 f.body.length c3] f.body:=Good.wide (Good.kept (HS3.out.keep.weaken (fun k _ hk e=>by have:=Hbase.out;omega)) Hb.out) (fun _ _ _=>trivial)
      have hends:=zh (ends_any d f.body _ w3 hb3)
      clear hb3
      go_wp2_with fail
      refine hends.out.mono ?_
      rintro en w4 ⟨rfl,hb4⟩
      have hs4:Since (fun _=>False) w3 w4:=⟨hb4.os,hb4.tape,hb4.output,hb4.size,fun k hk _=>hb4.block k hk⟩
      have HC4:=zh (HC3.out.since hs4 (fun _ e=>e.elim))
      have HS4:=zh (HS3.out.trans (hs4.mono (G:=fun k=>k=bc) (fun _ e=>e.elim)))
      clear hb4 hs4
      by_cases hen:endsF d f.body=true
      ·
       have HP:FuncPost w base bc vf [.string f.name, .slice a1 f.params.length c1, .int .i64 f.result, .slice a3 f.body.length c3] R (.returned (.tuple #[])) w4:=⟨rfl,vS3,bs3,st3,HC4.out,HS4.out,by have:=HR3.out False inferInstance (by simp [hen]);simpa using this⟩
       have HP:=zh HP
       go_wp2_with fail
       go_end0
       exact HP.out
      ·
       have hen':endsF d f.body=false:=by simpa using hen
       have Hr0:=zh (And.intro hr0 hen')
       clear hen hr0
       go_wp2_with fail
       refine (typedWrong_any w4 base bc vf [.string f.name, .slice a1 f.params.length c1, .int .i64 f.result, .slice a3 f.body.length c3] vS3 bs3 st3 HC4.out 11).mono ?_
       rintro en w5 ⟨rfl,hc5,hs5⟩
       have HP:FuncPost w base bc vf [.string f.name, .slice a1 f.params.length c1, .int .i64 f.result, .slice a3 f.body.length c3] R (.returned (.tuple #[])) w5:=⟨rfl,vS3,bs3,_,hc5,HS4.out.trans hs5,by have:=HR3.out True inferInstance (by simpa using Hr0.out);simpa using this⟩
       have HP:=zh HP
       clear hc5 hs5
       go_wp2_with fail
       go_end0
       exact HP.out
  ·
   have hp4:decide ((f.params.length:Int) > 4)=false:=decide_eq_false (by omega)
   have HCX:=HC2
   have HSX:=HS2
   obtain ⟨stX,hstX⟩: ∃ stX:Chk,stX=({(⟨[],0,0,0⟩:Chk) with G:=[]::(⟨[],0,0,0⟩:Chk).G}:Chk).bad 3:=⟨_,rfl⟩
   rw [←hstX] at HCX
   have Hst:=zh (show stX.G=[[]]∧stX.loops=0∧stX.depth=0∧stX.fault=headT f by rw [hstX];exact ⟨rfl,rfl,rfl,by have e1:=Hr0.out;have e2:=p4;simp [headT,Chk.bad,e1,e2]⟩)
   obtain ⟨k1,k2,k3,k4⟩:=HCX.out.cfs
   clear hstX HC2 HS2
   go_wp2_with fail
   go_loopw [3,37] (fun s3 s37 wr=> ∃ (i:Nat) (sti:Chk),i≤f.params.length∧s37= .int .i64 i∧ChkAt wr base bc vf [.string f.name, .slice a1 f.params.length c1, .int .i64 f.result, .slice a3 f.body.length c3] vS1 bs1 sti∧Since (ChkM bc vS1 bs1) w1 wr∧StmtEnd stX (paramsT stX.G (f.params.take i)) sti) (fun _ s37 _=>f.params.length - (intOf s37).toNat)
   case atStart=>exact ⟨0,stX,Nat.zero_le _,rfl,HCX.out,HSX.out,StmtEnd.refl _⟩
   case round=>
    obtain ⟨i,sti,hi,rfl,hci,hsi,hei⟩:=hrel
    have Hci:=zh hci
    have Hsi:=zh hsi
    have Hei:=zh hei
    have hG1:=hei.1
    rw [Hst.out.1] at hG1
    obtain ⟨g,r,hgr⟩: ∃ g r,sti.G=g::r:=by
     cases hg:sti.G with
     |nil=>rw [hg] at hG1;simp [SameG] at hG1
     |cons g r=>exact ⟨g,r,rfl⟩
    have hr0:r=[]:=by rw [hgr] at hG1;simpa [SameG] using hG1
    subst hr0
    obtain ⟨y1,y2,y3,y4⟩:=hci.cfs
    clear hci hsi hei hG1
    by_cases hlt1:i<f.params.length
    ·
     have hd1:decide ((i:Int)<(f.params.length:Int))=true:=decide_eq_true (by omega)
     have hi0:(0:Int)≤i:=by omega
     have hi1:(i:Int)<(f.params.length:Int):=by omega
     have hwk:IntKind.i64.wrap ((i:Int)+1)=(i:Int)+1:=IntWalk.i64_in _ (by omega)
     obtain ⟨b,off,rfl,hSb,hbl,x0,x1,hsz,hI⟩:=Hat.out i hlt1
     have hsn:=paramsT_snoc f.params[i] (f.params.take i) stX.G
     rw [←List.take_succ_eq_append_getElem hlt1] at hsn
     have Hsn:=zh hsn
     have hsw:=HN1.out.since HS1.out Hsi.out
     have hw:=fun o=>hsw.cell (o:=o) hbl (fun e=>by have:=Hm0.out _ e;have:=Hbase.out;omega)
     have z0:=(hw _).trans x0
     have z1:=(hw _).trans x1
     clear x0 x1 hw hsn
     generalize f.params[i]=p at *
     have sY:=Since.alloc (fun _=>False) wr (.cells #[.string p.1, .int .i64 p.2] 74)
     have hcall:=typedDeclare_any _ base bc vf _ vS1 bs1 sti (Hci.out.since sY (fun _ e=>e.elim)) g [] hgr (by simp) p.1 hsz p.2
     have Hcall:=zh hcall
     have SY:=zh sY
     have Hgr:=zh hgr
     clear hcall sY hsw hgr y1 y2 y3 y4
     go_wp2_with fail
     refine Hcall.out.mono ?_
     rintro en w3 ⟨rfl,st3,hc3,hs3,hd3⟩
     have HC3:=zh hc3
     have HS3:=zh (Hsi.out.trans ((SY.out.mono (fun _ e=>e.elim)).trans hs3))
     have HD3:=zh hd3
     clear hc3 hs3 hd3
     go_wp2_with fail
     go_roundw
     case rel=>
      refine ⟨i+1,st3,by omega,by go_num,HC3.out,HS3.out,?_⟩
      rw [Hsn.out]
      exact Hei.out.then (f:=fun S=>declT S.G p.1 p.2) (HD3.out.stmt (by rw [Hgr.out];simp))
     case measure=>simp [intOf];omega
    ·
     have hie:i=f.params.length:=by omega
     subst hie
     have hd1:decide ((f.params.length:Int)<(f.params.length:Int))=false:=decide_eq_false (by omega)
     have hE:=Hei.out
     rw [List.take_length] at hE
     have hsw:=HN1.out.since HS1.out Hsi.out
     have hsw':Since (fun k=>k=bc) w wr:=hsw.mono (fun k e=>Hm0.out k e)
     have hin:StmtIn fs dF f.result 1 wr base bc vf [.string f.name, .slice a1 f.params.length c1, .int .i64 f.result, .slice a3 f.body.length c3] vS1 bs1 sti:=
      ⟨Hci.out,HT.out.since hsw' (fun k e=>by rw [e];exact Hbase.out) Hbig.out,Good.kept (hsw'.keep.weaken (fun k _ hk e=>by have:=Hbase.out;omega)) HF.out,rfl,by omega,by rw [hgr];simp,fun e=>by
       obtain ⟨z,G',hG',hst⟩:=hE.ok_of e
       have h1:sti.depth=0:=by rw [hst];exact Hst.out.2.2.1
       have h2:sti.loops=0:=by rw [hst];exact Hst.out.2.1
       rw [h1,h2,hgr]
       simp⟩
     have hb':rSlice 7 (rStmt d) (· <base) wr [.slice a3 f.body.length c3] f.body:=Good.kept (hsw'.keep.weaken (fun k _ hk e=>by have:=Hbase.out;omega)) Hb.out
     have hcall:=typedBlock_any (typedStmt_any fs dF f.result base bc vf [.string f.name, .slice a1 f.params.length c1, .int .i64 f.result, .slice a3 f.body.length c3] d) hin f.body _ hb' Hfb.out
     have Hcall:=zh hcall
     have HE:=zh hE
     clear hin hb' hcall hE hsw hsw' hlt1 hgr
     go_wp2_with fail
     refine Hcall.out.mono ?_
     rintro en w3 ⟨rfl,vS3,bs3,st3,hc3,hs3,hn3,he3⟩
     have HC3:=zh hc3
     have hs4:=HN1.out.since HS1.out (Hsi.out.trans hs3)
     have HS3:=zh (hs4.mono (G:=fun k=>k=bc) (fun k e=>Hm0.out k e))
     have HE3:=zh (HE.out.then (f:=fun S=>blockT (stmtT fs f.result d S.loops.toNat S.depth.toNat) S.G f.body) he3)
     obtain ⟨y1,y2,y3,y4⟩:=hc3.cfs
     have hR3: ∀ c:Prop,∀ _:Decidable c,(c↔(f.result≠0∧endsF d f.body=false))→(if c then st3.bad 11 else st3).fault=R:=fun c _ hc=>by
      rw [func_end HE3.out c,HR.out,Hst.out.1,Hst.out.2.1,Hst.out.2.2.1,Hst.out.2.2.2]
      simp only [Int.toNat_zero]
      simp only [hc]
     have HR3:=zh hR3
     clear hc3 hs3 hn3 he3 hs4 hR3
     by_cases hr0:f.result=0
     ·
      have hq0:(f.result !=0)=false:=by simp [hr0]
      have HP:FuncPost w base bc vf [.string f.name, .slice a1 f.params.length c1, .int .i64 f.result, .slice a3 f.body.length c3] R (.returned (.tuple #[])) w3:=⟨rfl,vS3,bs3,st3,HC3.out,HS3.out,by have:=HR3.out False inferInstance (by simp [hr0]);simpa using this⟩
      have HP:=zh HP
      clear hr0
      go_wp2_with fail
      go_end0
      exact HP.out
     ·
      have hq0:(f.result !=0)=true:=by simpa using hr0
      have hb3:rSlice 7 (rStmt d) (fun _=>True) w3 [.slice a3 f.body.length c3] f.body:=Good.wide (Good.kept (HS3.out.keep.weaken (fun k _ hk e=>by have:=Hbase.out;omega)) Hb.out) (fun _ _ _=>trivial)
      have hends:=zh (ends_any d f.body _ w3 hb3)
      clear hb3
      go_wp2_with fail
      refine hends.out.mono ?_
      rintro en w4 ⟨rfl,hb4⟩
      have hs4:Since (fun _=>False) w3 w4:=⟨hb4.os,hb4.tape,hb4.output,hb4.size,fun k hk _=>hb4.block k hk⟩
      have HC4:=zh (HC3.out.since hs4 (fun _ e=>e.elim))
      have HS4:=zh (HS3.out.trans (hs4.mono (G:=fun k=>k=bc) (fun _ e=>e.elim)))
      clear hb4 hs4
      by_cases hen:endsF d f.body=true
      ·
       have HP:FuncPost w base bc vf [.string f.name, .slice a1 f.params.length c1, .int .i64 f.result, .slice a3 f.body.length c3] R (.returned (.tuple #[])) w4:=⟨rfl,vS3,bs3,st3,HC4.out,HS4.out,by have:=HR3.out False inferInstance (by simp [hen]);simpa using this⟩
       have HP:=zh HP
       go_wp2_with fail
       go_end0
       exact HP.out
      ·
       have hen':endsF d f.body=false:=by simpa using hen
       have Hr0:=zh (And.intro hr0 hen')
       clear hen hr0
       go_wp2_with fail
       refine (typedWrong_any w4 base bc vf [.string f.name, .slice a1 f.params.length c1, .int .i64 f.result, .slice a3 f.body.length c3] vS3 bs3 st3 HC4.out 11).mono ?_
       rintro en w5 ⟨rfl,hc5,hs5⟩
       have HP:FuncPost w base bc vf [.string f.name, .slice a1 f.params.length c1, .int .i64 f.result, .slice a3 f.body.length c3] R (.returned (.tuple #[])) w5:=⟨rfl,vS3,bs3,_,hc5,HS4.out.trans hs5,by have:=HR3.out True inferInstance (by simpa using Hr0.out);simpa using this⟩
       have HP:=zh HP
       clear hc5 hs5
       go_wp2_with fail
       go_end0
       exact HP.out
 by_cases r5:5<f.result
 ·
  have d0:decide (f.result<0)=false:=decide_eq_false r0
  have d5:decide (f.result > 5)=true:=decide_eq_true r5
  have Hr0:=zh (show ¬(0≤f.result∧f.result≤5) by omega)
  go_wp2_with fail
  refine (typedWrong_any _ base bc vf [.string f.name, .slice a1 f.params.length c1, .int .i64 f.result, .slice a3 f.body.length c3] vS1 bs1 _ HC1.out 3).mono ?_
  rintro en w2 ⟨rfl,hcx,hsx⟩
  have HC2:=zh hcx
  have HS2:=zh (HSr.out.trans (hsx.mono (G:=ChkM bc vS1 bs1) (fun k e=>Or.inl e)))
  obtain ⟨k1,k2,k3,k4⟩:=hcx.cfs
  clear hcx hsx
  by_cases p4:4<f.params.length
  ·
   have hp4:decide ((f.params.length:Int) > 4)=true:=decide_eq_true (by omega)
   go_wp2_with fail
   refine (typedWrong_any w2 base bc vf [.string f.name, .slice a1 f.params.length c1, .int .i64 f.result, .slice a3 f.body.length c3] vS1 bs1 _ HC2.out 10).mono ?_
   rintro en w2p ⟨rfl,hcx,hsx⟩
   have HC2p:=zh hcx
   have HS2p:=zh (HS2.out.trans (hsx.mono (G:=ChkM bc vS1 bs1) (fun k e=>Or.inl e)))
   obtain ⟨k1,k2,k3,k4⟩:=hcx.cfs
   clear hcx hsx
   have HCX:=HC2p
   have HSX:=HS2p
   obtain ⟨stX,hstX⟩: ∃ stX:Chk,stX=(({(⟨[],0,0,0⟩:Chk) with G:=[]::(⟨[],0,0,0⟩:Chk).G}:Chk).bad 3).bad 10:=⟨_,rfl⟩
   rw [←hstX] at HCX
   have Hst:=zh (show stX.G=[[]]∧stX.loops=0∧stX.depth=0∧stX.fault=headT f by rw [hstX];exact ⟨rfl,rfl,rfl,by have e1:=Hr0.out;have e2:=p4;simp [headT,Chk.bad,e1,e2]⟩)
   obtain ⟨k1,k2,k3,k4⟩:=HCX.out.cfs
   clear hstX HC2p HS2p
   go_wp2_with fail
   go_loopw [3,37] (fun s3 s37 wr=> ∃ (i:Nat) (sti:Chk),i≤f.params.length∧s37= .int .i64 i∧ChkAt wr base bc vf [.string f.name, .slice a1 f.params.length c1, .int .i64 f.result, .slice a3 f.body.length c3] vS1 bs1 sti∧Since (ChkM bc vS1 bs1) w1 wr∧StmtEnd stX (paramsT stX.G (f.params.take i)) sti) (fun _ s37 _=>f.params.length - (intOf s37).toNat)
   case atStart=>exact ⟨0,stX,Nat.zero_le _,rfl,HCX.out,HSX.out,StmtEnd.refl _⟩
   case round=>
    obtain ⟨i,sti,hi,rfl,hci,hsi,hei⟩:=hrel
    have Hci:=zh hci
    have Hsi:=zh hsi
    have Hei:=zh hei
    have hG1:=hei.1
    rw [Hst.out.1] at hG1
    obtain ⟨g,r,hgr⟩: ∃ g r,sti.G=g::r:=by
     cases hg:sti.G with
     |nil=>rw [hg] at hG1;simp [SameG] at hG1
     |cons g r=>exact ⟨g,r,rfl⟩
    have hr0:r=[]:=by rw [hgr] at hG1;simpa [SameG] using hG1
    subst hr0
    obtain ⟨y1,y2,y3,y4⟩:=hci.cfs
    clear hci hsi hei hG1
    by_cases hlt1:i<f.params.length
    ·
     have hd1:decide ((i:Int)<(f.params.length:Int))=true:=decide_eq_true (by omega)
     have hi0:(0:Int)≤i:=by omega
     have hi1:(i:Int)<(f.params.length:Int):=by omega
     have hwk:IntKind.i64.wrap ((i:Int)+1)=(i:Int)+1:=IntWalk.i64_in _ (by omega)
     obtain ⟨b,off,rfl,hSb,hbl,x0,x1,hsz,hI⟩:=Hat.out i hlt1
     have hsn:=paramsT_snoc f.params[i] (f.params.take i) stX.G
     rw [←List.take_succ_eq_append_getElem hlt1] at hsn
     have Hsn:=zh hsn
     have hsw:=HN1.out.since HS1.out Hsi.out
     have hw:=fun o=>hsw.cell (o:=o) hbl (fun e=>by have:=Hm0.out _ e;have:=Hbase.out;omega)
     have z0:=(hw _).trans x0
     have z1:=(hw _).trans x1
     clear x0 x1 hw hsn
     generalize f.params[i]=p at *
     have sY:=Since.alloc (fun _=>False) wr (.cells #[.string p.1, .int .i64 p.2] 74)
     have hcall:=typedDeclare_any _ base bc vf _ vS1 bs1 sti (Hci.out.since sY (fun _ e=>e.elim)) g [] hgr (by simp) p.1 hsz p.2
     have Hcall:=zh hcall
     have SY:=zh sY
     have Hgr:=zh hgr
     clear hcall sY hsw hgr y1 y2 y3 y4
     go_wp2_with fail
     refine Hcall.out.mono ?_
     rintro en w3 ⟨rfl,st3,hc3,hs3,hd3⟩
     have HC3:=zh hc3
     have HS3:=zh (Hsi.out.trans ((SY.out.mono (fun _ e=>e.elim)).trans hs3))
     have HD3:=zh hd3
     clear hc3 hs3 hd3
     go_wp2_with fail
     go_roundw
     case rel=>
      refine ⟨i+1,st3,by omega,by go_num,HC3.out,HS3.out,?_⟩
      rw [Hsn.out]
      exact Hei.out.then (f:=fun S=>declT S.G p.1 p.2) (HD3.out.stmt (by rw [Hgr.out];simp))
     case measure=>simp [intOf];omega
    ·
     have hie:i=f.params.length:=by omega
     subst hie
     have hd1:decide ((f.params.length:Int)<(f.params.length:Int))=false:=decide_eq_false (by omega)
     have hE:=Hei.out
     rw [List.take_length] at hE
     have hsw:=HN1.out.since HS1.out Hsi.out
     have hsw':Since (fun k=>k=bc) w wr:=hsw.mono (fun k e=>Hm0.out k e)
     have hin:StmtIn fs dF f.result 1 wr base bc vf [.string f.name, .slice a1 f.params.length c1, .int .i64 f.result, .slice a3 f.body.length c3] vS1 bs1 sti:=
      ⟨Hci.out,HT.out.since hsw' (fun k e=>by rw [e];exact Hbase.out) Hbig.out,Good.kept (hsw'.keep.weaken (fun k _ hk e=>by have:=Hbase.out;omega)) HF.out,rfl,by omega,by rw [hgr];simp,fun e=>by
       obtain ⟨z,G',hG',hst⟩:=hE.ok_of e
       have h1:sti.depth=0:=by rw [hst];exact Hst.out.2.2.1
       have h2:sti.loops=0:=by rw [hst];exact Hst.out.2.1
       rw [h1,h2,hgr]
       simp⟩
     have hb':rSlice 7 (rStmt d) (· <base) wr [.slice a3 f.body.length c3] f.body:=Good.kept (hsw'.keep.weaken (fun k _ hk e=>by have:=Hbase.out;omega)) Hb.out
     have hcall:=typedBlock_any (typedStmt_any fs dF f.result base bc vf [.string f.name, .slice a1 f.params.length c1, .int .i64 f.result, .slice a3 f.body.length c3] d) hin f.body _ hb' Hfb.out
     have Hcall:=zh hcall
     have HE:=zh hE
     clear hin hb' hcall hE hsw hsw' hlt1 hgr
     go_wp2_with fail
     refine Hcall.out.mono ?_
     rintro en w3 ⟨rfl,vS3,bs3,st3,hc3,hs3,hn3,he3⟩
     have HC3:=zh hc3
     have hs4:=HN1.out.since HS1.out (Hsi.out.trans hs3)
     have HS3:=zh (hs4.mono (G:=fun k=>k=bc) (fun k e=>Hm0.out k e))
     have HE3:=zh (HE.out.then (f:=fun S=>blockT (stmtT fs f.result d S.loops.toNat S.depth.toNat) S.G f.body) he3)
     obtain ⟨y1,y2,y3,y4⟩:=hc3.cfs
     have hR3: ∀ c:Prop,∀ _:Decidable c,(c↔(f.result≠0∧endsF d f.body=false))→(if c then st3.bad 11 else st3).fault=R:=fun c _ hc=>by
      rw [func_end HE3.out c,HR.out,Hst.out.1,Hst.out.2.1,Hst.out.2.2.1,Hst.out.2.2.2]
      simp only [Int.toNat_zero]
      simp only [hc]
     have HR3:=zh hR3
     clear hc3 hs3 hn3 he3 hs4 hR3
     by_cases hr0:f.result=0
     ·
      have hq0:(f.result !=0)=false:=by simp [hr0]
      have HP:FuncPost w base bc vf [.string f.name, .slice a1 f.params.length c1, .int .i64 f.result, .slice a3 f.body.length c3] R (.returned (.tuple #[])) w3:=⟨rfl,vS3,bs3,st3,HC3.out,HS3.out,by have:=HR3.out False inferInstance (by simp [hr0]);simpa using this⟩
      have HP:=zh HP
      clear hr0
      go_wp2_with fail
      go_end0
      exact HP.out
     ·
      have hq0:(f.result !=0)=true:=by simpa using hr0
      have hb3:rSlice 7 (rStmt d) (fun _=>True) w3 [.slice a3 f.body.length c3] f.body:=Good.wide (Good.kept (HS3.out.keep.weaken (fun k _ hk e=>by have:=Hbase.out;omega)) Hb.out) (fun _ _ _=>trivial)
      have hends:=zh (ends_any d f.body _ w3 hb3)
      clear hb3
      go_wp2_with fail
      refine hends.out.mono ?_
      rintro en w4 ⟨rfl,hb4⟩
      have hs4:Since (fun _=>False) w3 w4:=⟨hb4.os,hb4.tape,hb4.output,hb4.size,fun k hk _=>hb4.block k hk⟩
      have HC4:=zh (HC3.out.since hs4 (fun _ e=>e.elim))
      have HS4:=zh (HS3.out.trans (hs4.mono (G:=fun k=>k=bc) (fun _ e=>e.elim)))
      clear hb4 hs4
      by_cases hen:endsF d f.body=true
      ·
       have HP:FuncPost w base bc vf [.string f.name, .slice a1 f.params.length c1, .int .i64 f.result, .slice a3 f.body.length c3] R (.returned (.tuple #[])) w4:=⟨rfl,vS3,bs3,st3,HC4.out,HS4.out,by have:=HR3.out False inferInstance (by simp [hen]);simpa using this⟩
       have HP:=zh HP
       go_wp2_with fail
       go_end0
       exact HP.out
      ·
       have hen':endsF d f.body=false:=by simpa using hen
       have Hr0:=zh (And.intro hr0 hen')
       clear hen hr0
       go_wp2_with fail
       refine (typedWrong_any w4 base bc vf [.string f.name, .slice a1 f.params.length c1, .int .i64 f.result, .slice a3 f.body.length c3] vS3 bs3 st3 HC4.out 11).mono ?_
       rintro en w5 ⟨rfl,hc5,hs5⟩
       have HP:FuncPost w base bc vf [.string f.name, .slice a1 f.params.length c1, .int .i64 f.result, .slice a3 f.body.length c3] R (.returned (.tuple #[])) w5:=⟨rfl,vS3,bs3,_,hc5,HS4.out.trans hs5,by have:=HR3.out True inferInstance (by simpa using Hr0.out);simpa using this⟩
       have HP:=zh HP
       clear hc5 hs5
       go_wp2_with fail
       go_end0
       exact HP.out
  ·
   have hp4:decide ((f.params.length:Int) > 4)=false:=decide_eq_false (by omega)
   have HCX:=HC2
   have HSX:=HS2
   obtain ⟨stX,hstX⟩: ∃ stX:Chk,stX=({(⟨[],0,0,0⟩:Chk) with G:=[]::(⟨[],0,0,0⟩:Chk).G}:Chk).bad 3:=⟨_,rfl⟩
   rw [←hstX] at HCX
   have Hst:=zh (show stX.G=[[]]∧stX.loops=0∧stX.depth=0∧stX.fault=headT f by rw [hstX];exact ⟨rfl,rfl,rfl,by have e1:=Hr0.out;have e2:=p4;simp [headT,Chk.bad,e1,e2]⟩)
   obtain ⟨k1,k2,k3,k4⟩:=HCX.out.cfs
   clear hstX HC2 HS2
   go_wp2_with fail
   go_loopw [3,37] (fun s3 s37 wr=> ∃ (i:Nat) (sti:Chk),i≤f.params.length∧s37= .int .i64 i∧ChkAt wr base bc vf [.string f.name, .slice a1 f.params.length c1, .int .i64 f.result, .slice a3 f.body.length c3] vS1 bs1 sti∧Since (ChkM bc vS1 bs1) w1 wr∧StmtEnd stX (paramsT stX.G (f.params.take i)) sti) (fun _ s37 _=>f.params.length - (intOf s37).toNat)
   case atStart=>exact ⟨0,stX,Nat.zero_le _,rfl,HCX.out,HSX.out,StmtEnd.refl _⟩
   case round=>
    obtain ⟨i,sti,hi,rfl,hci,hsi,hei⟩:=hrel
    have Hci:=zh hci
    have Hsi:=zh hsi
    have Hei:=zh hei
    have hG1:=hei.1
    rw [Hst.out.1] at hG1
    obtain ⟨g,r,hgr⟩: ∃ g r,sti.G=g::r:=by
     cases hg:sti.G with
     |nil=>rw [hg] at hG1;simp [SameG] at hG1
     |cons g r=>exact ⟨g,r,rfl⟩
    have hr0:r=[]:=by rw [hgr] at hG1;simpa [SameG] using hG1
    subst hr0
    obtain ⟨y1,y2,y3,y4⟩:=hci.cfs
    clear hci hsi hei hG1
    by_cases hlt1:i<f.params.length
    ·
     have hd1:decide ((i:Int)<(f.params.length:Int))=true:=decide_eq_true (by omega)
     have hi0:(0:Int)≤i:=by omega
     have hi1:(i:Int)<(f.params.length:Int):=by omega
     have hwk:IntKind.i64.wrap ((i:Int)+1)=(i:Int)+1:=IntWalk.i64_in _ (by omega)
     obtain ⟨b,off,rfl,hSb,hbl,x0,x1,hsz,hI⟩:=Hat.out i hlt1
     have hsn:=paramsT_snoc f.params[i] (f.params.take i) stX.G
     rw [←List.take_succ_eq_append_getElem hlt1] at hsn
     have Hsn:=zh hsn
     have hsw:=HN1.out.since HS1.out Hsi.out
     have hw:=fun o=>hsw.cell (o:=o) hbl (fun e=>by have:=Hm0.out _ e;have:=Hbase.out;omega)
     have z0:=(hw _).trans x0
     have z1:=(hw _).trans x1
     clear x0 x1 hw hsn
     generalize f.params[i]=p at *
     have sY:=Since.alloc (fun _=>False) wr (.cells #[.string p.1, .int .i64 p.2] 74)
     have hcall:=typedDeclare_any _ base bc vf _ vS1 bs1 sti (Hci.out.since sY (fun _ e=>e.elim)) g [] hgr (by simp) p.1 hsz p.2
     have Hcall:=zh hcall
     have SY:=zh sY
     have Hgr:=zh hgr
     clear hcall sY hsw hgr y1 y2 y3 y4
     go_wp2_with fail
     refine Hcall.out.mono ?_
     rintro en w3 ⟨rfl,st3,hc3,hs3,hd3⟩
     have HC3:=zh hc3
     have HS3:=zh (Hsi.out.trans ((SY.out.mono (fun _ e=>e.elim)).trans hs3))
     have HD3:=zh hd3
     clear hc3 hs3 hd3
     go_wp2_with fail
     go_roundw
     case rel=>
      refine ⟨i+1,st3,by omega,by go_num,HC3.out,HS3.out,?_⟩
      rw [Hsn.out]
      exact Hei.out.then (f:=fun S=>declT S.G p.1 p.2) (HD3.out.stmt (by rw [Hgr.out];simp))
     case measure=>simp [intOf];omega
    ·
     have hie:i=f.params.length:=by omega
     subst hie
     have hd1:decide ((f.params.length:Int)<(f.params.length:Int))=false:=decide_eq_false (by omega)
     have hE:=Hei.out
     rw [List.take_length] at hE
     have hsw:=HN1.out.since HS1.out Hsi.out
     have hsw':Since (fun k=>k=bc) w wr:=hsw.mono (fun k e=>Hm0.out k e)
     have hin:StmtIn fs dF f.result 1 wr base bc vf [.string f.name, .slice a1 f.params.length c1, .int .i64 f.result, .slice a3 f.body.length c3] vS1 bs1 sti:=
      ⟨Hci.out,HT.out.since hsw' (fun k e=>by rw [e];exact Hbase.out) Hbig.out,Good.kept (hsw'.keep.weaken (fun k _ hk e=>by have:=Hbase.out;omega)) HF.out,rfl,by omega,by rw [hgr];simp,fun e=>by
       obtain ⟨z,G',hG',hst⟩:=hE.ok_of e
       have h1:sti.depth=0:=by rw [hst];exact Hst.out.2.2.1
       have h2:sti.loops=0:=by rw [hst];exact Hst.out.2.1
       rw [h1,h2,hgr]
       simp⟩
     have hb':rSlice 7 (rStmt d) (· <base) wr [.slice a3 f.body.length c3] f.body:=Good.kept (hsw'.keep.weaken (fun k _ hk e=>by have:=Hbase.out;omega)) Hb.out
     have hcall:=typedBlock_any (typedStmt_any fs dF f.result base bc vf [.string f.name, .slice a1 f.params.length c1, .int .i64 f.result, .slice a3 f.body.length c3] d) hin f.body _ hb' Hfb.out
     have Hcall:=zh hcall
     have HE:=zh hE
     clear hin hb' hcall hE hsw hsw' hlt1 hgr
     go_wp2_with fail
     refine Hcall.out.mono ?_
     rintro en w3 ⟨rfl,vS3,bs3,st3,hc3,hs3,hn3,he3⟩
     have HC3:=zh hc3
     have hs4:=HN1.out.since HS1.out (Hsi.out.trans hs3)
     have HS3:=zh (hs4.mono (G:=fun k=>k=bc) (fun k e=>Hm0.out k e))
     have HE3:=zh (HE.out.then (f:=fun S=>blockT (stmtT fs f.result d S.loops.toNat S.depth.toNat) S.G f.body) he3)
     obtain ⟨y1,y2,y3,y4⟩:=hc3.cfs
     have hR3: ∀ c:Prop,∀ _:Decidable c,(c↔(f.result≠0∧endsF d f.body=false))→(if c then st3.bad 11 else st3).fault=R:=fun c _ hc=>by
      rw [func_end HE3.out c,HR.out,Hst.out.1,Hst.out.2.1,Hst.out.2.2.1,Hst.out.2.2.2]
      simp only [Int.toNat_zero]
      simp only [hc]
     have HR3:=zh hR3
     clear hc3 hs3 hn3 he3 hs4 hR3
     by_cases hr0:f.result=0
     ·
      have hq0:(f.result !=0)=false:=by simp [hr0]
      have HP:FuncPost w base bc vf [.string f.name, .slice a1 f.params.length c1, .int .i64 f.result, .slice a3 f.body.length c3] R (.returned (.tuple #[])) w3:=⟨rfl,vS3,bs3,st3,HC3.out,HS3.out,by have:=HR3.out False inferInstance (by simp [hr0]);simpa using this⟩
      have HP:=zh HP
      clear hr0
      go_wp2_with fail
      go_end0
      exact HP.out
     ·
      have hq0:(f.result !=0)=true:=by simpa using hr0
      have hb3:rSlice 7 (rStmt d) (fun _=>True) w3 [.slice a3 f.body.length c3] f.body:=Good.wide (Good.kept (HS3.out.keep.weaken (fun k _ hk e=>by have:=Hbase.out;omega)) Hb.out) (fun _ _ _=>trivial)
      have hends:=zh (ends_any d f.body _ w3 hb3)
      clear hb3
      go_wp2_with fail
      refine hends.out.mono ?_
      rintro en w4 ⟨rfl,hb4⟩
      have hs4:Since (fun _=>False) w3 w4:=⟨hb4.os,hb4.tape,hb4.output,hb4.size,fun k hk _=>hb4.block k hk⟩
      have HC4:=zh (HC3.out.since hs4 (fun _ e=>e.elim))
      have HS4:=zh (HS3.out.trans (hs4.mono (G:=fun k=>k=bc) (fun _ e=>e.elim)))
      clear hb4 hs4
      by_cases hen:endsF d f.body=true
      ·
       have HP:FuncPost w base bc vf [.string f.name, .slice a1 f.params.length c1, .int .i64 f.result, .slice a3 f.body.length c3] R (.returned (.tuple #[])) w4:=⟨rfl,vS3,bs3,st3,HC4.out,HS4.out,by have:=HR3.out False inferInstance (by simp [hen]);simpa using this⟩
       have HP:=zh HP
       go_wp2_with fail
       go_end0
       exact HP.out
      ·
       have hen':endsF d f.body=false:=by simpa using hen
       have Hr0:=zh (And.intro hr0 hen')
       clear hen hr0
       go_wp2_with fail
       refine (typedWrong_any w4 base bc vf [.string f.name, .slice a1 f.params.length c1, .int .i64 f.result, .slice a3 f.body.length c3] vS3 bs3 st3 HC4.out 11).mono ?_
       rintro en w5 ⟨rfl,hc5,hs5⟩
       have HP:FuncPost w base bc vf [.string f.name, .slice a1 f.params.length c1, .int .i64 f.result, .slice a3 f.body.length c3] R (.returned (.tuple #[])) w5:=⟨rfl,vS3,bs3,_,hc5,HS4.out.trans hs5,by have:=HR3.out True inferInstance (by simpa using Hr0.out);simpa using this⟩
       have HP:=zh HP
       clear hc5 hs5
       go_wp2_with fail
       go_end0
       exact HP.out
 have d0:decide (f.result<0)=false:=decide_eq_false r0
 have d5:decide (f.result > 5)=false:=decide_eq_false r5
 have Hr0:=zh (show 0≤f.result∧f.result≤5 by omega)
 clear r0 r5
 by_cases p4:4<f.params.length
 ·
  have hp4:decide ((f.params.length:Int) > 4)=true:=decide_eq_true (by omega)
  go_wp2_with fail
  refine (typedWrong_any w1 base bc vf [.string f.name, .slice a1 f.params.length c1, .int .i64 f.result, .slice a3 f.body.length c3] vS1 bs1 _ HC1.out 10).mono ?_
  rintro en w2p ⟨rfl,hcx,hsx⟩
  have HC2p:=zh hcx
  have HS2p:=zh (HSr.out.trans (hsx.mono (G:=ChkM bc vS1 bs1) (fun k e=>Or.inl e)))
  obtain ⟨k1,k2,k3,k4⟩:=hcx.cfs
  clear hcx hsx
  have HCX:=HC2p
  have HSX:=HS2p
  obtain ⟨stX,hstX⟩: ∃ stX:Chk,stX=(({(⟨[],0,0,0⟩:Chk) with G:=[]::(⟨[],0,0,0⟩:Chk).G}:Chk)).bad 10:=⟨_,rfl⟩
  rw [←hstX] at HCX
  have Hst:=zh (show stX.G=[[]]∧stX.loops=0∧stX.depth=0∧stX.fault=headT f by rw [hstX];exact ⟨rfl,rfl,rfl,by have e1:=Hr0.out;have e2:=p4;simp [headT,Chk.bad,e1,e2]⟩)
  obtain ⟨k1,k2,k3,k4⟩:=HCX.out.cfs
  clear hstX HC2p HS2p
  go_wp2_with fail
  go_loopw [3,37] (fun s3 s37 wr=> ∃ (i:Nat) (sti:Chk),i≤f.params.length∧s37= .int .i64 i∧ChkAt wr base bc vf [.string f.name, .slice a1 f.params.length c1, .int .i64 f.result, .slice a3 f.body.length c3] vS1 bs1 sti∧Since (ChkM bc vS1 bs1) w1 wr∧StmtEnd stX (paramsT stX.G (f.params.take i)) sti) (fun _ s37 _=>f.params.length - (intOf s37).toNat)
  case atStart=>exact ⟨0,stX,Nat.zero_le _,rfl,HCX.out,HSX.out,StmtEnd.refl _⟩
  case round=>
   obtain ⟨i,sti,hi,rfl,hci,hsi,hei⟩:=hrel
   have Hci:=zh hci
   have Hsi:=zh hsi
   have Hei:=zh hei
   have hG1:=hei.1
   rw [Hst.out.1] at hG1
   obtain ⟨g,r,hgr⟩: ∃ g r,sti.G=g::r:=by
    cases hg:sti.G with
    |nil=>rw [hg] at hG1;simp [SameG] at hG1
    |cons g r=>exact ⟨g,r,rfl⟩
   have hr0:r=[]:=by rw [hgr] at hG1;simpa [SameG] using hG1
   subst hr0
   obtain ⟨y1,y2,y3,y4⟩:=hci.cfs
   clear hci hsi hei hG1
   by_cases hlt1:i<f.params.length
   ·
    have hd1:decide ((i:Int)<(f.params.length:Int))=true:=decide_eq_true (by omega)
    have hi0:(0:Int)≤i:=by omega
    have hi1:(i:Int)<(f.params.length:Int):=by omega
    have hwk:IntKind.i64.wrap ((i:Int)+1)=(i:Int)+1:=IntWalk.i64_in _ (by omega)
    obtain ⟨b,off,rfl,hSb,hbl,x0,x1,hsz,hI⟩:=Hat.out i hlt1
    have hsn:=paramsT_snoc f.params[i] (f.params.take i) stX.G
    rw [←List.take_succ_eq_append_getElem hlt1] at hsn
    have Hsn:=zh hsn
    have hsw:=HN1.out.since HS1.out Hsi.out
    have hw:=fun o=>hsw.cell (o:=o) hbl (fun e=>by have:=Hm0.out _ e;have:=Hbase.out;omega)
    have z0:=(hw _).trans x0
    have z1:=(hw _).trans x1
    clear x0 x1 hw hsn
    generalize f.params[i]=p at *
    have sY:=Since.alloc (fun _=>False) wr (.cells #[.string p.1, .int .i64 p.2] 74)
    have hcall:=typedDeclare_any _ base bc vf _ vS1 bs1 sti (Hci.out.since sY (fun _ e=>e.elim)) g [] hgr (by simp) p.1 hsz p.2
    have Hcall:=zh hcall
    have SY:=zh sY
    have Hgr:=zh hgr
    clear hcall sY hsw hgr y1 y2 y3 y4
    go_wp2_with fail
    refine Hcall.out.mono ?_
    rintro en w3 ⟨rfl,st3,hc3,hs3,hd3⟩
    have HC3:=zh hc3
    have HS3:=zh (Hsi.out.trans ((SY.out.mono (fun _ e=>e.elim)).trans hs3))
    have HD3:=zh hd3
    clear hc3 hs3 hd3
    go_wp2_with fail
    go_roundw
    case rel=>
     refine ⟨i+1,st3,by omega,by go_num,HC3.out,HS3.out,?_⟩
     rw [Hsn.out]
     exact Hei.out.then (f:=fun S=>declT S.G p.1 p.2) (HD3.out.stmt (by rw [Hgr.out];simp))
    case measure=>simp [intOf];omega
   ·
    have hie:i=f.params.length:=by omega
    subst hie
    have hd1:decide ((f.params.length:Int)<(f.params.length:Int))=false:=decide_eq_false (by omega)
    have hE:=Hei.out
    rw [List.take_length] at hE
    have hsw:=HN1.out.since HS1.out Hsi.out
    have hsw':Since (fun k=>k=bc) w wr:=hsw.mono (fun k e=>Hm0.out k e)
    have hin:StmtIn fs dF f.result 1 wr base bc vf [.string f.name, .slice a1 f.params.length c1, .int .i64 f.result, .slice a3 f.body.length c3] vS1 bs1 sti:=
     ⟨Hci.out,HT.out.since hsw' (fun k e=>by rw [e];exact Hbase.out) Hbig.out,Good.kept (hsw'.keep.weaken (fun k _ hk e=>by have:=Hbase.out;omega)) HF.out,rfl,by omega,by rw [hgr];simp,fun e=>by
      obtain ⟨z,G',hG',hst⟩:=hE.ok_of e
      have h1:sti.depth=0:=by rw [hst];exact Hst.out.2.2.1
      have h2:sti.loops=0:=by rw [hst];exact Hst.out.2.1
      rw [h1,h2,hgr]
      simp⟩
    have hb':rSlice 7 (rStmt d) (· <base) wr [.slice a3 f.body.length c3] f.body:=Good.kept (hsw'.keep.weaken (fun k _ hk e=>by have:=Hbase.out;omega)) Hb.out
    have hcall:=typedBlock_any (typedStmt_any fs dF f.result base bc vf [.string f.name, .slice a1 f.params.length c1, .int .i64 f.result, .slice a3 f.body.length c3] d) hin f.body _ hb' Hfb.out
    have Hcall:=zh hcall
    have HE:=zh hE
    clear hin hb' hcall hE hsw hsw' hlt1 hgr
    go_wp2_with fail
    refine Hcall.out.mono ?_
    rintro en w3 ⟨rfl,vS3,bs3,st3,hc3,hs3,hn3,he3⟩
    have HC3:=zh hc3
    have hs4:=HN1.out.since HS1.out (Hsi.out.trans hs3)
    have HS3:=zh (hs4.mono (G:=fun k=>k=bc) (fun k e=>Hm0.out k e))
    have HE3:=zh (HE.out.then (f:=fun S=>blockT (stmtT fs f.result d S.loops.toNat S.depth.toNat) S.G f.body) he3)
    obtain ⟨y1,y2,y3,y4⟩:=hc3.cfs
    have hR3: ∀ c:Prop,∀ _:Decidable c,(c↔(f.result≠0∧endsF d f.body=false))→(if c then st3.bad 11 else st3).fault=R:=fun c _ hc=>by
     rw [func_end HE3.out c,HR.out,Hst.out.1,Hst.out.2.1,Hst.out.2.2.1,Hst.out.2.2.2]
     simp only [Int.toNat_zero]
     simp only [hc]
    have HR3:=zh hR3
    clear hc3 hs3 hn3 he3 hs4 hR3
    by_cases hr0:f.result=0
    ·
     have hq0:(f.result !=0)=false:=by simp [hr0]
     have HP:FuncPost w base bc vf [.string f.name, .slice a1 f.params.length c1, .int .i64 f.result, .slice a3 f.body.length c3] R (.returned (.tuple #[])) w3:=⟨rfl,vS3,bs3,st3,HC3.out,HS3.out,by have:=HR3.out False inferInstance (by simp [hr0]);simpa using this⟩
     have HP:=zh HP
     clear hr0
     go_wp2_with fail
     go_end0
     exact HP.out
    ·
     have hq0:(f.result !=0)=true:=by simpa using hr0
     have hb3:rSlice 7 (rStmt d) (fun _=>True) w3 [.slice a3 f.body.length c3] f.body:=Good.wide (Good.kept (HS3.out.keep.weaken (fun k _ hk e=>by have:=Hbase.out;omega)) Hb.out) (fun _ _ _=>trivial)
     have hends:=zh (ends_any d f.body _ w3 hb3)
     clear hb3
     go_wp2_with fail
     refine hends.out.mono ?_
     rintro en w4 ⟨rfl,hb4⟩
     have hs4:Since (fun _=>False) w3 w4:=⟨hb4.os,hb4.tape,hb4.output,hb4.size,fun k hk _=>hb4.block k hk⟩
     have HC4:=zh (HC3.out.since hs4 (fun _ e=>e.elim))
     have HS4:=zh (HS3.out.trans (hs4.mono (G:=fun k=>k=bc) (fun _ e=>e.elim)))
     clear hb4 hs4
     by_cases hen:endsF d f.body=true
     ·
      have HP:FuncPost w base bc vf [.string f.name, .slice a1 f.params.length c1, .int .i64 f.result, .slice a3 f.body.length c3] R (.returned (.tuple #[])) w4:=⟨rfl,vS3,bs3,st3,HC4.out,HS4.out,by have:=HR3.out False inferInstance (by simp [hen]);simpa using this⟩
      have HP:=zh HP
      go_wp2_with fail
      go_end0
      exact HP.out
     ·
      have hen':endsF d f.body=false:=by simpa using hen
      have Hr0:=zh (And.intro hr0 hen')
      clear hen hr0
      go_wp2_with fail
      refine (typedWrong_any w4 base bc vf [.string f.name, .slice a1 f.params.length c1, .int .i64 f.result, .slice a3 f.body.length c3] vS3 bs3 st3 HC4.out 11).mono ?_
      rintro en w5 ⟨rfl,hc5,hs5⟩
      have HP:FuncPost w base bc vf [.string f.name, .slice a1 f.params.length c1, .int .i64 f.result, .slice a3 f.body.length c3] R (.returned (.tuple #[])) w5:=⟨rfl,vS3,bs3,_,hc5,HS4.out.trans hs5,by have:=HR3.out True inferInstance (by simpa using Hr0.out);simpa using this⟩
      have HP:=zh HP
      clear hc5 hs5
      go_wp2_with fail
      go_end0
      exact HP.out
 ·
  have hp4:decide ((f.params.length:Int) > 4)=false:=decide_eq_false (by omega)
  have HCX:=HC1
  have HSX:=HSr
  obtain ⟨stX,hstX⟩: ∃ stX:Chk,stX=({(⟨[],0,0,0⟩:Chk) with G:=[]::(⟨[],0,0,0⟩:Chk).G}:Chk):=⟨_,rfl⟩
  rw [←hstX] at HCX
  have Hst:=zh (show stX.G=[[]]∧stX.loops=0∧stX.depth=0∧stX.fault=headT f by rw [hstX];exact ⟨rfl,rfl,rfl,by have e1:=Hr0.out;have e2:=p4;simp [headT,Chk.bad,e1,e2]⟩)
  obtain ⟨k1,k2,k3,k4⟩:=HCX.out.cfs
  clear hstX HC1 HSr
  go_wp2_with fail
  go_loopw [3,37] (fun s3 s37 wr=> ∃ (i:Nat) (sti:Chk),i≤f.params.length∧s37= .int .i64 i∧ChkAt wr base bc vf [.string f.name, .slice a1 f.params.length c1, .int .i64 f.result, .slice a3 f.body.length c3] vS1 bs1 sti∧Since (ChkM bc vS1 bs1) w1 wr∧StmtEnd stX (paramsT stX.G (f.params.take i)) sti) (fun _ s37 _=>f.params.length - (intOf s37).toNat)
  case atStart=>exact ⟨0,stX,Nat.zero_le _,rfl,HCX.out,HSX.out,StmtEnd.refl _⟩
  case round=>
   obtain ⟨i,sti,hi,rfl,hci,hsi,hei⟩:=hrel
   have Hci:=zh hci
   have Hsi:=zh hsi
   have Hei:=zh hei
   have hG1:=hei.1
   rw [Hst.out.1] at hG1
   obtain ⟨g,r,hgr⟩: ∃ g r,sti.G=g::r:=by
    cases hg:sti.G with
    |nil=>rw [hg] at hG1;simp [SameG] at hG1
    |cons g r=>exact ⟨g,r,rfl⟩
   have hr0:r=[]:=by rw [hgr] at hG1;simpa [SameG] using hG1
   subst hr0
   obtain ⟨y1,y2,y3,y4⟩:=hci.cfs
   clear hci hsi hei hG1
   by_cases hlt1:i<f.params.length
   ·
    have hd1:decide ((i:Int)<(f.params.length:Int))=true:=decide_eq_true (by omega)
    have hi0:(0:Int)≤i:=by omega
    have hi1:(i:Int)<(f.params.length:Int):=by omega
    have hwk:IntKind.i64.wrap ((i:Int)+1)=(i:Int)+1:=IntWalk.i64_in _ (by omega)
    obtain ⟨b,off,rfl,hSb,hbl,x0,x1,hsz,hI⟩:=Hat.out i hlt1
    have hsn:=paramsT_snoc f.params[i] (f.params.take i) stX.G
    rw [←List.take_succ_eq_append_getElem hlt1] at hsn
    have Hsn:=zh hsn
    have hsw:=HN1.out.since HS1.out Hsi.out
    have hw:=fun o=>hsw.cell (o:=o) hbl (fun e=>by have:=Hm0.out _ e;have:=Hbase.out;omega)
    have z0:=(hw _).trans x0
    have z1:=(hw _).trans x1
    clear x0 x1 hw hsn
    generalize f.params[i]=p at *
    have sY:=Since.alloc (fun _=>False) wr (.cells #[.string p.1, .int .i64 p.2] 74)
    have hcall:=typedDeclare_any _ base bc vf _ vS1 bs1 sti (Hci.out.since sY (fun _ e=>e.elim)) g [] hgr (by simp) p.1 hsz p.2
    have Hcall:=zh hcall
    have SY:=zh sY
    have Hgr:=zh hgr
    clear hcall sY hsw hgr y1 y2 y3 y4
    go_wp2_with fail
    refine Hcall.out.mono ?_
    rintro en w3 ⟨rfl,st3,hc3,hs3,hd3⟩
    have HC3:=zh hc3
    have HS3:=zh (Hsi.out.trans ((SY.out.mono (fun _ e=>e.elim)).trans hs3))
    have HD3:=zh hd3
    clear hc3 hs3 hd3
    go_wp2_with fail
    go_roundw
    case rel=>
     refine ⟨i+1,st3,by omega,by go_num,HC3.out,HS3.out,?_⟩
     rw [Hsn.out]
     exact Hei.out.then (f:=fun S=>declT S.G p.1 p.2) (HD3.out.stmt (by rw [Hgr.out];simp))
    case measure=>simp [intOf];omega
   ·
    have hie:i=f.params.length:=by omega
    subst hie
    have hd1:decide ((f.params.length:Int)<(f.params.length:Int))=false:=decide_eq_false (by omega)
    have hE:=Hei.out
    rw [List.take_length] at hE
    have hsw:=HN1.out.since HS1.out Hsi.out
    have hsw':Since (fun k=>k=bc) w wr:=hsw.mono (fun k e=>Hm0.out k e)
    have hin:StmtIn fs dF f.result 1 wr base bc vf [.string f.name, .slice a1 f.params.length c1, .int .i64 f.result, .slice a3 f.body.length c3] vS1 bs1 sti:=
     ⟨Hci.out,HT.out.since hsw' (fun k e=>by rw [e];exact Hbase.out) Hbig.out,Good.kept (hsw'.keep.weaken (fun k _ hk e=>by have:=Hbase.out;omega)) HF.out,rfl,by omega,by rw [hgr];simp,fun e=>by
      obtain ⟨z,G',hG',hst⟩:=hE.ok_of e
      have h1:sti.depth=0:=by rw [hst];exact Hst.out.2.2.1
      have h2:sti.loops=0:=by rw [hst];exact Hst.out.2.1
      rw [h1,h2,hgr]
      simp⟩
    have hb':rSlice 7 (rStmt d) (· <base) wr [.slice a3 f.body.length c3] f.body:=Good.kept (hsw'.keep.weaken (fun k _ hk e=>by have:=Hbase.out;omega)) Hb.out
    have hcall:=typedBlock_any (typedStmt_any fs dF f.result base bc vf [.string f.name, .slice a1 f.params.length c1, .int .i64 f.result, .slice a3 f.body.length c3] d) hin f.body _ hb' Hfb.out
    have Hcall:=zh hcall
    have HE:=zh hE
    clear hin hb' hcall hE hsw hsw' hlt1 hgr
    go_wp2_with fail
    refine Hcall.out.mono ?_
    rintro en w3 ⟨rfl,vS3,bs3,st3,hc3,hs3,hn3,he3⟩
    have HC3:=zh hc3
    have hs4:=HN1.out.since HS1.out (Hsi.out.trans hs3)
    have HS3:=zh (hs4.mono (G:=fun k=>k=bc) (fun k e=>Hm0.out k e))
    have HE3:=zh (HE.out.then (f:=fun S=>blockT (stmtT fs f.result d S.loops.toNat S.depth.toNat) S.G f.body) he3)
    obtain ⟨y1,y2,y3,y4⟩:=hc3.cfs
    have hR3: ∀ c:Prop,∀ _:Decidable c,(c↔(f.result≠0∧endsF d f.body=false))→(if c then st3.bad 11 else st3).fault=R:=fun c _ hc=>by
     rw [func_end HE3.out c,HR.out,Hst.out.1,Hst.out.2.1,Hst.out.2.2.1,Hst.out.2.2.2]
     simp only [Int.toNat_zero]
     simp only [hc]
    have HR3:=zh hR3
    clear hc3 hs3 hn3 he3 hs4 hR3
    by_cases hr0:f.result=0
    ·
     have hq0:(f.result !=0)=false:=by simp [hr0]
     have HP:FuncPost w base bc vf [.string f.name, .slice a1 f.params.length c1, .int .i64 f.result, .slice a3 f.body.length c3] R (.returned (.tuple #[])) w3:=⟨rfl,vS3,bs3,st3,HC3.out,HS3.out,by have:=HR3.out False inferInstance (by simp [hr0]);simpa using this⟩
     have HP:=zh HP
     clear hr0
     go_wp2_with fail
     go_end0
     exact HP.out
    ·
     have hq0:(f.result !=0)=true:=by simpa using hr0
     have hb3:rSlice 7 (rStmt d) (fun _=>True) w3 [.slice a3 f.body.length c3] f.body:=Good.wide (Good.kept (HS3.out.keep.weaken (fun k _ hk e=>by have:=Hbase.out;omega)) Hb.out) (fun _ _ _=>trivial)
     have hends:=zh (ends_any d f.body _ w3 hb3)
     clear hb3
     go_wp2_with fail
     refine hends.out.mono ?_
     rintro en w4 ⟨rfl,hb4⟩
     have hs4:Since (fun _=>False) w3 w4:=⟨hb4.os,hb4.tape,hb4.output,hb4.size,fun k hk _=>hb4.block k hk⟩
     have HC4:=zh (HC3.out.since hs4 (fun _ e=>e.elim))
     have HS4:=zh (HS3.out.trans (hs4.mono (G:=fun k=>k=bc) (fun _ e=>e.elim)))
     clear hb4 hs4
     by_cases hen:endsF d f.body=true
     ·
      have HP:FuncPost w base bc vf [.string f.name, .slice a1 f.params.length c1, .int .i64 f.result, .slice a3 f.body.length c3] R (.returned (.tuple #[])) w4:=⟨rfl,vS3,bs3,st3,HC4.out,HS4.out,by have:=HR3.out False inferInstance (by simp [hen]);simpa using this⟩
      have HP:=zh HP
      go_wp2_with fail
      go_end0
      exact HP.out
     ·
      have hen':endsF d f.body=false:=by simpa using hen
      have Hr0:=zh (And.intro hr0 hen')
      clear hen hr0
      go_wp2_with fail
      refine (typedWrong_any w4 base bc vf [.string f.name, .slice a1 f.params.length c1, .int .i64 f.result, .slice a3 f.body.length c3] vS3 bs3 st3 HC4.out 11).mono ?_
      rintro en w5 ⟨rfl,hc5,hs5⟩
      have HP:FuncPost w base bc vf [.string f.name, .slice a1 f.params.length c1, .int .i64 f.result, .slice a3 f.body.length c3] R (.returned (.tuple #[])) w5:=⟨rfl,vS3,bs3,_,hc5,HS4.out.trans hs5,by have:=HR3.out True inferInstance (by simpa using Hr0.out);simpa using this⟩
      have HP:=zh HP
      clear hc5 hs5
      go_wp2_with fail
      go_end0
      exact HP.out
end Go.Proofs.YtkopjgnjflhkeaaGreatDoor

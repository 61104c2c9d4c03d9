import Derived.Test.YtkopjgnjflhkeaaGreatDoorQJ
namespace Go.Proofs.YtkopjgnjflhkeaaGreatDoor
open Go.RowKit Go.Pst
set_option linter.unusedVariables false
set_option linter.unusedSimpArgs false
def StmtPost (w:World) (base bc:Nat) (vf:Value) (cf:List Value) (vS:Value) (bs:List Nat) (st:Chk) (R:Except Int (List Scope)) (en:Ending) (w':World):Prop:=
 en= .returned (.tuple #[])∧ ∃ vS' bs' st',ChkAt w' base bc vf cf vS' bs' st'∧Since (ChkM bc vS bs) w w'∧ChkAt.NewM w bc vS vS' bs bs'∧StmtEnd st R st'
theorem ChkAt.NewM.refl (w:World) (bc:Nat) (vS:Value) (bs:List Nat):ChkAt.NewM w bc vS vS bs bs:=fun k h=>Or.inl h
theorem ChkAt.NewM.trans {w w1:World} {bc:Nat} {v v1 v2:Value} {b b1 b2:List Nat} (h:ChkAt.NewM w bc v v1 b b1) (h':ChkAt.NewM w1 bc v1 v2 b1 b2) (hs:w.heap.size≤w1.heap.size):ChkAt.NewM w bc v v2 b b2:=fun k hk=>by
 rcases h' k hk with e|e
 ·
  exact h k e
 ·
  exact Or.inr (by omega)
theorem ChkAt.NewM.since {w w1 w2:World} {bc:Nat} {v v1:Value} {b b1:List Nat} (h:ChkAt.NewM w bc v v1 b b1) (s1:Since (ChkM bc v b) w w1) (s2:Since (ChkM bc v1 b1) w1 w2):Since (ChkM bc v b) w w2:=s1.then_new s2 h
theorem SmallPost.stmt {w:World} {base bc:Nat} {vf:Value} {cf:List Value} {vS:Value} {bs:List Nat} {st:Chk} {R:Except Int (List Scope)} {en:Ending} {w':World} (h:SmallPost w base bc vf cf vS bs st R en w'):StmtPost w base bc vf cf vS bs st R en w':=by
 obtain ⟨h1,st',h2,h3,h4⟩:=h
 exact ⟨h1,vS,bs,st',h2,h3.mono (fun k e=>Or.inl e),ChkAt.NewM.refl _ _ _ _,h4⟩
structure StmtIn (fs:List PFunc) (dF:Nat) (res:Int) (e:Nat) (w:World) (base bc:Nat) (vf:Value) (cf:List Value) (vS:Value) (bs:List Nat) (st:Chk):Prop where
 at_:ChkAt w base bc vf cf vS bs st
 laid:TyLaid w base
 funcs:rFuncs dF (· <base) w [vf] fs
 res:cf[2]?=some (.int .i64 res)
 pos:0<st.G.length+e
 len:st.G.length+e≤1000
 ok:st.fault=0→0≤st.depth∧st.depth≤120∧(st.G.length:Int)+e≤2+2*st.depth∧0≤st.loops∧st.loops≤st.depth
theorem StmtIn.next {fs:List PFunc} {dF:Nat} {res:Int} {e e':Nat} {w w':World} {base bc:Nat} {vf:Value} {cf:List Value} {vS vS':Value} {bs bs':List Nat} {st st':Chk} (h:StmtIn fs dF res e w base bc vf cf vS bs st) (h1:ChkAt w' base bc vf cf vS' bs' st') (hs:Since (ChkM bc vS bs) w w')
 (hG:st'.G.length+e'=st.G.length+e) (hok:st'.fault=0→0≤st'.depth∧st'.depth≤120∧(st'.G.length:Int)+e'≤2+2*st'.depth∧0≤st'.loops∧st'.loops≤st'.depth):StmtIn fs dF res e' w' base bc vf cf vS' bs' st':=by
 have hm:=fun k (hk:ChkM bc vS bs k)=>(h.at_.mem_lt hk).1
 exact ⟨h1,h.laid.since hs hm h.at_.big,Good.kept (hs.keep.weaken (fun k _ hk e=>by have:=hm k e;omega)) h.funcs,h.res,by rw [hG];exact h.pos,by rw [hG];exact h.len,hok⟩
theorem StmtIn.expr {fs:List PFunc} {dF:Nat} {res:Int} {w:World} {base bc:Nat} {vf:Value} {cf:List Value} {vS:Value} {bs:List Nat} {st:Chk} (h:StmtIn fs dF res 0 w base bc vf cf vS bs st):ExprIn fs dF w base bc vf cf vS bs st:=
 ⟨h.at_,h.laid,h.funcs,by have:=h.len;omega,by have:=h.pos;omega,fun e=>⟨(h.ok e).1,(h.ok e).2.1⟩⟩
def bindT (R:Except Int (List Scope)) (f:List Scope→Except Int (List Scope)):Except Int (List Scope):=
 match R with
 | .error e=> .error e
 | .ok G=>f G
theorem StmtEnd.then {st S1 S2:Chk} {R1:Except Int (List Scope)} {f:Chk→Except Int (List Scope)} (h1:StmtEnd st R1 S1) (h2:StmtEnd S1 (f S1) S2):StmtEnd st (bindT R1 (fun G=>f {st with G:=G})) S2:=by
 refine ⟨h2.1.trans h1.1,fun h=>?_,fun h=>?_⟩
 ·
  rw [h2.2.1 (by rw [h1.2.1 h];exact h),h1.2.1 h]
 ·
  cases R1 with
  |error e=>
   obtain ⟨q1,q2⟩:=h1.2.2 h
   exact ⟨q1,by rw [h2.2.1 (by rw [q2];exact q1),q2]⟩
  |ok G'=>
   have h3:S1={st with G:=G'}:=h1.2.2 h
   subst h3
   have h4:=h2.2.2 h
   show match f {st with G:=G'} with
    | .ok G''=>S2={st with G:=G''}
    | .error e=>e≠0∧S2.fault=e
   revert h4
   cases f {st with G:=G'}<;>exact fun h=>h
theorem StmtEnd.ok_of {st S:Chk} {R:Except Int (List Scope)} (h:StmtEnd st R S) (h0:S.fault=0):st.fault=0∧ ∃ G',R= .ok G'∧S={st with G:=G'}:=by
 have hz:st.fault=0:=by
  by_cases hz:st.fault=0
  ·
   exact hz
  ·
   exact absurd ((h.2.1 hz).symm.trans h0) hz
 refine ⟨hz,?_⟩
 cases R with
 |ok G'=>exact ⟨G',rfl,h.2.2 hz⟩
 |error e=>exact absurd ((h.2.2 hz).2.symm.trans h0) (h.2.2 hz).1
theorem StmtEnd.refl (st:Chk):StmtEnd st (.ok st.G) st:=⟨SameG.of rfl,fun _=>rfl,fun _=>rfl⟩
theorem stmtsT_snoc (f:List Scope→PStmt→Except Int (List Scope)) (s:PStmt): ∀ (l:List PStmt) (G:List Scope),stmtsT f G (l++[s])=bindT (stmtsT f G l) (fun G'=>f G' s)
 |[],G=>by
  simp only [List.nil_append,stmtsT,bindT]
  cases f G s<;>rfl
 |y::r,G=>by
  simp only [List.cons_append,stmtsT]
  cases f G y with
  |error e=>rfl
  |ok G'=>exact stmtsT_snoc f s r G'
theorem rStmts_get {d:Nat} {S:Nat→Prop} {w:World} {v:Value} {l:List PStmt} (h:rSlice 7 (rStmt d) S w [v] l):
 ∃ a cap,v= .slice a l.length cap∧l.length≤cap∧cap≤maxLen∧ ∀ i (hi:i<l.length),∃ b off a3 c3 a4 c4 a5 c5 a6 c6,a=some ⟨b,off,none⟩∧S b∧b<w.heap.size∧
  w.cell? ⟨b,off+i*7,none⟩=some (.int .i64 l[i].kind)∧w.cell? ⟨b,off+i*7+1,none⟩=some (.string l[i].s)∧w.cell? ⟨b,off+i*7+2,none⟩=some (.string l[i].t)∧
  w.cell? ⟨b,off+i*7+3,none⟩=some (.slice a3 l[i].exprs.length c3)∧w.cell? ⟨b,off+i*7+4,none⟩=some (.slice a4 l[i].body.length c4)∧w.cell? ⟨b,off+i*7+5,none⟩=some (.slice a5 l[i].els.length c5)∧w.cell? ⟨b,off+i*7+6,none⟩=some (.slice a6 l[i].cases.length c6)∧
  rStmt d S w [.int .i64 l[i].kind, .string l[i].s, .string l[i].t, .slice a3 l[i].exprs.length c3, .slice a4 l[i].body.length c4, .slice a5 l[i].els.length c5, .slice a6 l[i].cases.length c6] l[i]:=by
 obtain ⟨a,cap,h1,h2,h3,h4⟩:=rSlice_val h
 refine ⟨a,cap,h1,h2,h3,fun i hi=>?_⟩
 obtain ⟨b,off,es,ha,hS,hb,hl,hc,hr⟩:=h4 i hi
 cases d with
 |zero=>exact hr.elim
 |succ d=>
  obtain ⟨v3,v4,v5,v6,rfl,hI,r3,r4,r5,r6⟩:=id hr
  obtain ⟨a3,c3,rfl⟩:=rSlice_shape r3
  obtain ⟨a4,c4,rfl⟩:=rSlice_shape r4
  obtain ⟨a5,c5,rfl⟩:=rSlice_shape r5
  obtain ⟨a6,c6,rfl⟩:=rSlice_shape r6
  exact ⟨b,off,a3,c3,a4,c4,a5,c5,a6,c6,ha,hS,hb,hc 0 (by decide),hc 1 (by decide),hc 2 (by decide),hc 3 (by decide),hc 4 (by decide),hc 5 (by decide),hc 6 (by decide),hr⟩
section
variable (fs:List PFunc) (dF:Nat) (res:Int) (base bc:Nat) (vf:Value) (cf:List Value)
def StmtSaid (d:Nat):Prop:= ∀ (s:PStmt) (cs:List Value) (w:World) (vS:Value) (bs:List Nat) (st:Chk),StmtIn fs dF res 0 w base bc vf cf vS bs st→rStmt d (· <base) w cs s→FitS d s→
 Calls Tryz.prog 137 #[.pointer (some ⟨bc,0,none⟩), .agg cs.toArray] w (StmtPost w base bc vf cf vS bs st (stmtT fs res d st.loops.toNat st.depth.toNat st.G s))
end
set_option maxHeartbeats 2000000 in
theorem typedBlock_any {fs:List PFunc} {dF:Nat} {res:Int} {w:World} {base bc:Nat} {vf:Value} {cf:List Value} {vS:Value} {bs:List Nat} {st:Chk} {d:Nat} (hS:StmtSaid fs dF res base bc vf cf d) (h:StmtIn fs dF res 1 w base bc vf cf vS bs st) (l:List PStmt) (v:Value)
 (hl:rSlice 7 (rStmt d) (· <base) w [v] l) (hf:l.length*136≤reachBytes∧ ∀ y∈l,FitS d y):
 Calls Tryz.prog 86 #[.pointer (some ⟨bc,0,none⟩),v] w (StmtPost w base bc vf cf vS bs st (blockT (stmtT fs res d st.loops.toNat st.depth.toNat) st.G l)):=by
 obtain ⟨a,cap,rfl,hc1,hc2,hat⟩:=rStmts_get hl
 obtain ⟨R,hR⟩: ∃ R,R=blockT (stmtT fs res d st.loops.toNat st.depth.toNat) st.G l:=⟨_,rfl⟩
 rw [←hR]
 have HR:=zh hR
 have H:=zh h
 have HSt:=zh hS
 have Hf:=zh hf
 have Hat:=zh hat
 have hal:l.length≤9223372036854775807:=by unfold maxLen at hc2;omega
 have hopen:=typedOpen_any w base bc vf cf vS bs st h.at_ (by have:=h.len;omega)
 have Hopen:=zh hopen
 clear hR h hS hl hf hat hc1 hc2 hopen
 go_enter Tryz.func86,Tryz.ntmps86
 go_wp2_with fail
 refine Hopen.out.mono ?_
 rintro en w1 ⟨rfl,vS1,bs1,h1,h2,h3⟩
 have hin:=H.out.next (e':=0) h1 h2 (by simp) (fun e=>by have:=H.out.ok e;simp at this ⊢;omega)
 have Hin:=zh hin
 have HS1:=zh h2
 have HN1:=zh h3
 clear h1 h2 h3 hin
 go_wp2_with fail
 obtain ⟨st1,hst1⟩: ∃ st1:Chk,st1={st with G:=[]::st.G}:=⟨_,rfl⟩
 rw [←hst1] at Hin
 have Hst1:=zh hst1
 clear hst1
 go_loopw [5,10] (fun s5 s10 wr=> ∃ (i:Nat) (vSi:Value) (bsi:List Nat) (sti:Chk),i≤l.length∧s10= .int .i64 i∧ChkAt wr base bc vf cf vSi bsi sti∧Since (ChkM bc vS1 bs1) w1 wr∧ChkAt.NewM w1 bc vS1 vSi bs1 bsi∧StmtEnd st1 (stmtsT (stmtT fs res d st.loops.toNat st.depth.toNat) st1.G (l.take i)) sti) (fun _ s10 _=>l.length - (intOf s10).toNat)
 case atStart=>exact ⟨0,vS1,bs1,st1,Nat.zero_le _,rfl,Hin.out.at_,Since.refl _ _,ChkAt.NewM.refl _ _ _ _,StmtEnd.refl _⟩
 case round=>
  obtain ⟨i,vSi,bsi,sti,hi,rfl,hci,hsi,hni,hei⟩:=hrel
  have Hci:=zh hci
  have Hsi:=zh hsi
  have Hni:=zh hni
  have Hei:=zh hei
  clear hci hsi hni hei
  by_cases hlt:i<l.length
  ·
   have hlt1:decide ((i:Int)<(l.length:Int))=true:=decide_eq_true (by omega)
   have hi0:(0:Int)≤i:=by omega
   have hi1:(i:Int)<(l.length:Int):=by omega
   have hwk:IntKind.i64.wrap ((i:Int)+1)=(i:Int)+1:=IntWalk.i64_in _ (by omega)
   obtain ⟨b,off,a3,c3,a4,c4,a5,c5,a6,c6,rfl,hSb,hbl,x0,x1,x2,x3,x4,x5,x6,hr⟩:=Hat.out i hlt
   have hsn:=stmtsT_snoc (stmtT fs res d st.loops.toNat st.depth.toNat) l[i] (l.take i) st1.G
   rw [←List.take_succ_eq_append_getElem hlt] at hsn
   have Hsn:=zh hsn
   have hsw:=HN1.out.since HS1.out Hsi.out
   have hmb: ∀ k,ChkM bc vS bs k→base≤k:=fun k hk=>(H.out.at_.mem_lt hk).1
   have hw:=fun o=>hsw.cell (o:=o) hbl (fun f=>by have:=hmb _ f;omega)
   have y0:=(hw _).trans x0
   have y1:=(hw _).trans x1
   have y2:=(hw _).trans x2
   have y3:=(hw _).trans x3
   have y4:=(hw _).trans x4
   have y5:=(hw _).trans x5
   have y6:=(hw _).trans x6
   have hyf:=Hf.out.2 l[i] (List.getElem_mem hlt)
   clear x0 x1 x2 x3 x4 x5 x6 hw hsn
   generalize l[i]=s at *
   have sY:=Since.alloc (fun _=>False) wr (.cells #[.int .i64 s.kind, .string s.s, .string s.t, .slice a3 s.exprs.length c3, .slice a4 s.body.length c4, .slice a5 s.els.length c5, .slice a6 s.cases.length c6] 91)
   have hini:=Hin.out.next (e':=0) (Hci.out.since sY (fun _ e=>e.elim)) (Hsi.out.trans (sY.mono (fun _ e=>e.elim))) (by rw [Hei.out.1.1]) (fun e=>by
    obtain ⟨z,G',hG',hst⟩:=Hei.out.ok_of e
    have h1:=Hei.out.1.1
    have:=Hin.out.ok z
    rw [hst] at h1 ⊢
    simp only at h1 ⊢
    rw [h1]
    exact this)
   have hcall:=HSt.out s _ _ _ _ _ hini (Good.kept ((hsw.trans (sY.mono (F:=fun _=>False) (G:=ChkM bc vS bs) (fun _ e=>e.elim))).keep.weaken (fun k _ hk e=>by have:=hmb k e;omega)) hr) hyf
   have Hcall:=zh hcall
   have SY:=zh sY
   clear hini hcall sY hr hyf hsw hmb
   go_wp2_with fail
   refine Hcall.out.mono ?_
   rintro en w3 ⟨rfl,vS3,bs3,st3,hc3,hs3,hn3,he3⟩
   have HC3:=zh hc3
   have hs3':Since (ChkM bc vSi bsi) wr w3:=(SY.out.mono (fun _ e=>e.elim)).trans hs3
   have HS3:=zh (Hni.out.since Hsi.out hs3')
   have HN3:=zh (Hni.out.trans (fun k hk=>by rcases hn3 k hk with e|e;exact Or.inl e;exact Or.inr (Nat.le_trans SY.out.size e)) Hsi.out.size)
   have HE3:=zh he3
   clear hc3 hs3 hn3 he3 hs3'
   go_wp2_with fail
   go_roundw
   case rel=>
    refine ⟨i+1,vS3,bs3,st3,by omega,by go_num,HC3.out,HS3.out,HN3.out,?_⟩
    rw [Hsn.out]
    have hE:=Hei.out.then (f:=fun S=>stmtT fs res d S.loops.toNat S.depth.toNat S.G s) HE3.out
    have e1:st1.loops=st.loops:=by rw [Hst1.out]
    have e2:st1.depth=st.depth:=by rw [Hst1.out]
    simpa only [e1,e2] using hE
   case measure=>simp [intOf];omega
  ·
   have hie:i=l.length:=by omega
   subst hie
   have hlt1:decide ((l.length:Int)<(l.length:Int))=false:=decide_eq_false (by omega)
   have hE:=Hei.out
   rw [List.take_length] at hE
   have HE:=zh hE
   have h1:=hE.1
   rw [Hst1.out] at h1
   simp only [SameG,List.length_cons,List.tail_cons] at h1
   obtain ⟨g,r,hgr⟩: ∃ g r,sti.G=g::r:=by
    cases hg:sti.G with
    |nil=>rw [hg] at h1;simp at h1
    |cons g r=>exact ⟨g,r,rfl⟩
   have hrG:r=st.G:=by rw [hgr] at h1;exact h1.2
   subst hrG
   have hcl:=typedClose_any wr base bc vf cf vSi bsi sti Hci.out g st.G hgr (by have:=H.out.len;omega)
   have Hcl:=zh hcl
   clear hcl hE h1 hgr hlt
   go_wp2_with fail
   refine Hcl.out.mono ?_
   rintro en w3 ⟨rfl,vS3,bs3,hc3,hs3,hn3⟩
   have HP:StmtPost w base bc vf cf vS bs st R (.returned (.tuple #[])) w3:=by
    refine ⟨rfl,vS3,bs3,_,hc3,HN1.out.since HS1.out (Hni.out.since Hsi.out hs3),HN1.out.trans (Hni.out.trans hn3 Hsi.out.size) HS1.out.size,SameG.of rfl,fun h=>?_,fun h=>?_⟩
    ·
     have:=HE.out.2.1 (by rw [Hst1.out];exact h)
     exact this.trans (by rw [Hst1.out])
    ·
     have h4:=HE.out.2.2 (by rw [Hst1.out];exact h)
     rw [HR.out,blockT]
     rw [Hst1.out] at h4
     revert h4
     show (match stmtsT (stmtT fs res d st.loops.toNat st.depth.toNat) ([]::st.G) l with
      | .ok G'=>sti=_
      | .error e=>_)→_
     cases stmtsT (stmtT fs res d st.loops.toNat st.depth.toNat) ([]::st.G) l with
     |error e=>exact fun h=>h
     |ok G'=>intro h;subst h;rfl
   have HP:=zh HP
   clear hc3 hs3 hn3
   go_wp2_with fail
   go_end0
   exact HP.out
end Go.Proofs.YtkopjgnjflhkeaaGreatDoor

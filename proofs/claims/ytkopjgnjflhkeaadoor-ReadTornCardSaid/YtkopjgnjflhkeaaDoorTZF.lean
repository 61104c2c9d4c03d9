import Derived.Test.YtkopjgnjflhkeaaDoorTF
import Derived.Test.YtkopjgnjflhkeaaDoorTZE
namespace Go.Proofs.YtkopjgnjflhkeaaDoor
open Go.RowKit Go.Pst
set_option linter.unusedVariables false
set_option linter.unusedSimpArgs false
variable {w:World} {br bT cap base:Nat} {T:List Tok} {st:RSt} {dep:Int}
def funcG (blk:PR (List PStmt)):PR PFunc:=PR.bind peekR fun t=>PR.bind (mustR ⟨#[102,117,110,99]⟩) fun _=>PR.bind nameR fun s=>PR.bind (mustR ⟨#[40]⟩) fun _=>
 PR.bind (fun r=>paramsLoop r.length [] r) fun ps=>if 4<ps.length then PR.bad t.pos 10 else PR.bind typR fun k=>PR.bind blk fun b=>PR.ret ⟨s,ps,k,b⟩
def funcQ (blk:PR (List PStmt)) (tp:Int) (s:ByteArray) (ps:List (ByteArray × Int)):PR PFunc:=if 4<ps.length then PR.bad tp 10 else PR.bind typR fun k=>PR.bind blk fun b=>PR.ret ⟨s,ps,k,b⟩
def typQ (blk:PR (List PStmt)) (s:ByteArray) (ps:List (ByteArray × Int)):PR PFunc:=PR.bind typR fun k=>PR.bind blk fun b=>PR.ret ⟨s,ps,k,b⟩
def paramQ (blk:PR (List PStmt)) (tp:Int) (s:ByteArray) (k:Nat) (out:List (ByteArray × Int)) (n:ByteArray) (t:Tok) (y:Int):PR PFunc:=if y=0 then PR.bad t.pos (if t.kind=101 then 5 else 4) else PR.bind (paramsLoop k (out++[(n,y)])) (funcQ blk tp s)
theorem params_step (blk:PR (List PStmt)) (tp:Int) (s:ByteArray) (k:Nat) (out:List (ByteArray × Int)):PR.bind (paramsLoop (k+1) out) (funcQ blk tp s)=branchR ⟨#[41]⟩ (funcQ blk tp s out) (PR.bind (commaR out) fun _=>PR.bind nameR fun n=>PR.bind peekR fun t=>PR.bind typR fun y=>paramQ blk tp s k out n t y):=by
 show PR.bind (PR.bind (isR _) _) _=PR.bind _ _
 rw [bind_assoc]
 congr 1
 funext b
 cases b with
 |true=>rfl
 |false=>
  show PR.bind (PR.bind (commaR out) _) _=PR.bind _ _
  rw [bind_assoc]
  congr 1
  funext u
  rw [bind_assoc]
  congr 1
  funext n
  rw [bind_assoc]
  congr 1
  funext t
  rw [bind_assoc]
  congr 1
  funext y
  unfold paramQ
  by_cases hy:y=0
  ·
   rw [if_pos hy,if_pos hy];rfl
  ·
   rw [if_neg hy,if_neg hy]
theorem peek_next {α:Type} {T:List Tok} {st:RSt} {q:Tok→PR α} {Res:Except (Int × Int) (α × List Tok)} (e:Res=runR T (PR.bind peekR q) st):Res=runR T (q (seeR T st)) st:=by
 by_cases h:st.fault=0
 ·
  rw [e,runR_ok h,runR_ok h,seeR_head h];rfl
 ·
  rw [e,runR_bad h,runR_bad h]
def rF:Rep PFunc:=fun S w cs x=> ∃ d,rFunc d S w cs x
instance good_rF:Go.Pst.Good rF:=⟨by
 rintro S S' w w' cs x hk hs ⟨d,h⟩
 exact ⟨d,Go.Pst.Good.keep hk hs h⟩⟩
def rP (_:Nat):Rep (ByteArray × Int):=rParam
instance good_rP (d:Nat):Go.Pst.Good (rP d):=⟨fun _ _ h=>h⟩
theorem monoP:MonoR rP:=by
 intro d d' _ S w cs x h
 exact h
def rPs:Rep (List (ByteArray × Int)):=fun S w cs l=>rSlice 2 rParam S w cs l
instance good_rPs:Go.Pst.Good rPs:=⟨fun hk hs h=>Go.Pst.Good.keep (R:=rSlice 2 rParam) hk hs h⟩
theorem infoP:(Tryd.prog.info? 72).map (fun i=>(i.zero,i.size,i.bytes))=some (some (.agg #[.string ByteArray.empty, .int .i64 0]),2,24):=by kernel_rfl
def RdF (w:World) (br bT cap:Nat) (T:List Tok) (dep:Int) (res:Except (Int × Int) (PFunc × List Tok)) (en:Ending) (w':World):Prop:=
 ∃ cs x st',en= .returned (.agg cs.toArray)∧rF (fun k=>w.heap.size≤k) w' cs x∧RdAt w' br bT cap T st'∧Since (fun k=>k=br) w w'∧Good' T dep res x st'
set_option maxRecDepth 4000 in
set_option maxHeartbeats 8000000 in
theorem readFunc_any (d:Nat) (hK:BlockOK d) (h:RdAt w br bT cap T st) (hL:RdLaid w base br) (h0:st.fault=0) (hd:st.depth=30 - (d:Int)):
 Calls Tryd.prog 12 #[.pointer (some ⟨br,0,none⟩)] w (RdF w br bT cap T (30 - (d:Int)) (funcG (blockR d) (T.drop st.i))):=by
 obtain ⟨ix,ii0,iz0,iz1,iz2⟩:=info_parts infoP
 have hbr:=h.lt.1
 have hbT:=h.lt.2
 obtain ⟨Res,hres⟩: ∃ Res,Res=funcG (blockR d) (T.drop st.i):=⟨_,rfl⟩
 rw [←hres]
 have hs0:Since (fun _=>False) w (w.alloc (.cells #[.string ⟨#[]⟩, .slice none 0 0, .int .i64 0, .slice none 0 0] 35)):=Since.alloc _ _ _
 have hb0:(w.alloc (.cells #[.string ⟨#[]⟩, .slice none 0 0, .int .i64 0, .slice none 0 0] 35)).heap[w.heap.size]?=some (.cells #[.string ⟨#[]⟩, .slice none 0 0, .int .i64 0, .slice none 0 0] 35 (0,0)):=heap_alloc_new w _
 have hlb:=hL.lb.2
 have hA:=h.later hs0
 have hB:=hL.later hs0
 have hlt0:w.heap.size<(w.alloc (.cells #[.string ⟨#[]⟩, .slice none 0 0, .int .i64 0, .slice none 0 0] 35)).heap.size:=by simp
 have hfd: ∀ (a c e:Int) (b:ByteArray) (w:World),(Instr.field 52 (.agg #[.int .u8 a, .string b, .int .i64 c, .int .i64 e]) 3).run Tryd.prog w= .ok (.int .i64 e) w:=fun _ _ _ _ _=>by kernel_rfl
 have HA:=zh hA
 have HB:=zh hB
 have K_r0:=zh hb0
 have S0:=zh (show Since (fun k=>k=br) w (w.alloc (.cells #[.string ⟨#[]⟩, .slice none 0 0, .int .i64 0, .slice none 0 0] 35)) from hs0.mono (fun _ f=>f.elim))
 have D0:=zh (show st.fault=0→st.depth=30 - (d:Int) from fun _=>hd)
 have hT:=h.toks.len
 obtain ⟨t,ht⟩: ∃ t,seeR T st=t:=⟨_,rfl⟩
 have hpk:=readPeek_any hA
 rw [ht] at hpk
 obtain ⟨tk,ts,tn,tp⟩:=t
 have R0:=zh (show Res=runR T (PR.bind (mustR ⟨#[102,117,110,99]⟩) fun _=>PR.bind nameR fun s=>PR.bind (mustR ⟨#[40]⟩) fun _=>PR.bind (fun r=>paramsLoop r.length [] r) (funcQ (blockR d) tp s)) st from by
  have e:=peek_next (q:=fun t=>PR.bind (mustR ⟨#[102,117,110,99]⟩) fun _=>PR.bind nameR fun s=>PR.bind (mustR ⟨#[40]⟩) fun _=>PR.bind (fun r=>paramsLoop r.length [] r) (funcQ (blockR d) t.pos s)) (hres.trans (runR_ok (T:=T) h0).symm)
  rw [ht] at e
  exact e)
 have H0:=zh h0
 have Hpk:=zh hpk
 clear h hL hA hB hb0 hs0 hres h0 hd ht hpk
 go_enter Tryd.func12,Tryd.ntmps12
 go_wp2_with fail
 generalize w.alloc (.cells #[.string ⟨#[]⟩, .slice none 0 0, .int .i64 0, .slice none 0 0] 35)=w0 at *
 refine Hpk.out.mono ?_
 rintro en w1y ⟨rfl,hs1⟩
 simp only [tokC]
 have hz1:=hs1.size
 have K_r1:=zh ((hs1.block w.heap.size (by omega) (fun f=>f)).trans K_r0.out)
 have H1:=zh (HA.out.later hs1)
 have B1:=zh (HB.out.later hs1)
 have S1:RowKit.Hid (Since (fun k=>k=br) w (w1y)):=zh (S0.out.trans (hs1.mono (fun _ f=>f.elim)))
 clear hs1
 go_wp2_with fail
 refine (readMust_any H1.out D0.out ⟨#[102,117,110,99]⟩).mono ?_
 rintro en w2x ⟨st2,rfl,h2,hs2,hg2⟩
 have hz3:=hs2.size
 have K_r3:=zh ((hs2.block w.heap.size (by omega) (by omega)).trans K_r1.out)
 have H3:=zh h2
 have B3:=zh (B1.out.box hs2)
 have S3:=zh (S1.out.trans hs2)
 have R4:=zh (hg2.next R0.out)
 have D4:=zh (show st2.fault=0→st2.depth=30 - (d:Int) from fun e=>hg2.dep_eq e)
 clear h2 hs2 hg2
 go_wp2_with fail
 refine (readName_any H3.out B3.out D4.out).mono ?_
 rintro en w5x ⟨s,st5,rfl,hsz_s,h5,hs5,hg5⟩
 have hz6:=hs5.size
 have K_r6:=zh ((hs5.block w.heap.size (by omega) (by omega)).trans K_r3.out)
 have H6:=zh h5
 have B6:=zh (B3.out.box hs5)
 have S6:=zh (S3.out.trans hs5)
 have R7:=zh (hg5.next R4.out)
 have D7:=zh (show st5.fault=0→st5.depth=30 - (d:Int) from fun e=>hg5.dep_eq e)
 clear h5 hs5 hg5
 have Hs:=zh hsz_s
 clear hsz_s
 obtain ⟨b_f,hb_f⟩: ∃ b_f,b_f=w5x.heap.size:=⟨_,rfl⟩
 have hs8:Since (fun _=>False) (w5x) (w5x.alloc (.cells #[.string s, .slice none 0 0, .int .i64 0, .slice none 0 0] 35)):=Since.alloc _ _ _
 have hw8:(w5x.alloc (.cells #[.string s, .slice none 0 0, .int .i64 0, .slice none 0 0] 35)).heap.size=b_f+1:=by rw [hb_f];simp
 have K_f8:RowKit.Hid ((w5x.alloc (.cells #[.string s, .slice none 0 0, .int .i64 0, .slice none 0 0] 35)).heap[b_f]?=some (.cells #[.string s, .slice none 0 0, .int .i64 0, .slice none 0 0] 35 (0,0))):=zh (by have e:b_f=(w5x).heap.size:=(by first|exact hb_f|(rw [hb_f];simp));have e2:=heap_alloc_new (w5x) (.cells #[.string s, .slice none 0 0, .int .i64 0, .slice none 0 0] 35);rw [←e] at e2;exact e2)
 have hz9:=hs8.size
 have K_r9:=zh ((hs8.block w.heap.size (by omega) (fun f=>f)).trans K_r6.out)
 have H9:=zh (H6.out.later hs8)
 have B9:=zh (B6.out.later hs8)
 have S9:RowKit.Hid (Since (fun k=>k=br) w (w5x.alloc (.cells #[.string s, .slice none 0 0, .int .i64 0, .slice none 0 0] 35))):=zh (S6.out.trans (hs8.mono (fun _ f=>f.elim)))
 have hl_f:w5x.heap.size≤b_f:=by omega
 go_wp2_with fail
 rw [←hb_f]
 clear hb_f
 generalize w5x.alloc (.cells #[.string s, .slice none 0 0, .int .i64 0, .slice none 0 0] 35)=wg10 at *
 refine (readMust_any H9.out D7.out ⟨#[40]⟩).mono ?_
 rintro en w11x ⟨st11,rfl,h11,hs11,hg11⟩
 have hz12:=hs11.size
 have K_r12:=zh ((hs11.block w.heap.size (by omega) (by omega)).trans K_r9.out)
 have K_f12:=zh ((hs11.block b_f (by omega) (by omega)).trans K_f8.out)
 have H12:=zh h11
 have B12:=zh (B9.out.box hs11)
 have S12:=zh (S9.out.trans hs11)
 have R13:=zh (hg11.next R7.out)
 have D13:=zh (show st11.fault=0→st11.depth=30 - (d:Int) from fun e=>hg11.dep_eq e)
 clear h11 hs11 hg11
 have HR0:=zh (show Res=runR T (PR.bind (paramsLoop (T.length - st11.i) []) (funcQ (blockR d) tp s)) st11 from R13.out.trans (self_len (q:=fun n=>paramsLoop n []) (g:=funcQ (blockR d) tp s)))
 obtain ⟨B0,hB0⟩: ∃ B0,B0=w11x.heap.size:=⟨_,rfl⟩
 have hsB:b_f<B0:=by omega
 have hB0':B0≤w11x.heap.size:=by omega
 clear hB0
 go_wp2_with fail
 go_loopg [] (T.length - st11.i) (fun k wr=> ∃ (ps:List (ByteArray × Int)) (sc:RSt) (vC:Value),RdAt wr br bT cap T sc∧RdLaid wr base br∧Since (fun k=>k=br) w wr∧wr.heap[w.heap.size]?=some (.cells #[.string ⟨#[]⟩, .slice none 0 0, .int .i64 0, .slice none 0 0] 35 (0,0))∧wr.heap[b_f]?=some (.cells #[.string s,vC, .int .i64 0, .slice none 0 0] 35 (0,0))∧RowG rP 2 wr B0 vC ps 72∧B0≤wr.heap.size∧ps.length+k≤T.length∧Res=runR T (PR.bind (paramsLoop k ps) (funcQ (blockR d) tp s)) sc∧(sc.fault=0→T.length - sc.i≤k∧sc.depth=30 - (d:Int)))
 case atStart=>exact ⟨[],st11, .slice none 0 0,H12.out,B12.out,S12.out,K_r12.out,K_f12.out,RowG.nil _ _ _ _ _,hB0',by simp,HR0.out,fun e=>⟨Nat.le_refl _,D13.out e⟩⟩
 case round=>
  obtain ⟨ps,sc,vC,hA,hB,hS,kr,kf,⟨ess,hown,DD,hall⟩,hbw,hlen,hR,hF⟩:=hrel
  obtain ⟨aC,cC,rfl,hcc1,hcc2⟩:=row_slice hown
  have c3:=hA.c3
  have Hreads:=zh (RowG.reads (R:=rP) ⟨ess,hown,DD,hall⟩)
  have H9:=zh hA
  have B9:=zh hB
  have S9:=zh hS
  have K_r9:=zh kr
  have K_f9:=zh kf
  have Hown:=zh hown
  have Hall:=zh hall
  have HR:=zh hR
  have HF:=zh hF
  clear hA hB hS kr kf hown hall hR hF
  have Q0:=zh (Since.refl (fun k=>k=br) wr)
  by_cases h0:sc.fault=0
  ·
   have f0:(sc.fault==0)=true:=by simpa using h0
   have hi:=H9.out.inn h0
   obtain ⟨k',rfl⟩: ∃ k',gk=k'+1:=⟨gk - 1,by have:=(HF.out h0).1;omega⟩
   have H0a:=zh h0
   have RA:=zh (HR.out.trans (by rw [params_step]))
   have DA:=zh (show sc.fault=0→sc.depth=30 - (d:Int) from fun e=>(HF.out e).2)
   clear h0 hi
   go_wp2_with fail
   refine (readIs_any H9.out DA.out ⟨#[41]⟩).mono ?_
   rintro en w14x ⟨b14,st14,rfl,h14,hs14,hg14,hf14,hy14,hn14⟩
   have hz15:=hs14.size
   have K_r15:=zh ((hs14.block w.heap.size (by omega) (by omega)).trans K_r9.out)
   have K_f15:=zh ((hs14.block b_f (by omega) (by omega)).trans K_f9.out)
   have H15:=zh h14
   have B15:=zh (B9.out.box hs14)
   have S15:=zh (S9.out.trans hs14)
   have Q15:=zh (Q0.out.trans hs14)
   have D14i:=zh (show st14.fault=0→st14.depth=30 - (d:Int) from fun e=>hg14.dep_eq e)
   have Hf14:=zh hf14
   clear h14 hs14 hf14
   cases b14 with
   |true=>
    have R14i:=zh (hg14.yes RA.out)
    have Hy14:=zh (hy14 rfl).1
    have Hyi14:=zh (hy14 rfl).2
    clear hg14 hy14 hn14
    clear c3
    have X_ps0:RowKit.Hid (rPs (fun k=>B0≤k∧k<wr.heap.size) w14x [.slice aC ps.length cC] ps):=zh (by obtain ⟨dd,hh⟩:=Hreads.out;exact Go.Pst.Good.keep (R:=rSlice 2 rParam) ⟨Q15.out.size,fun k hk hS=>Q15.out.block k hk (by omega)⟩ (fun k h1 h2=>⟨h2,h1⟩) hh)
    by_cases h4:4<ps.length
    ·
     have d4:(4:Int)<(ps.length:Int):=by omega
     have H4:=zh h4
     clear h4
     have c3b:w14x.cell? ⟨br,3,none⟩=some (.int .i64 0):=by have:=H15.out.c3;rw [(Hf14.out H0a.out)] at this;exact this
     have gf16_0:=ca0 K_f15.out
     have gf16_1:=ca1 K_f15.out
     have gf16_2:=ca2 K_f15.out
     have gf16_3:=ca3 K_f15.out
     have gf16_z:=cz K_f15.out
     go_wp2_with fail
     clear gf16_0 gf16_1 gf16_2 gf16_3 gf16_z c3b
     refine (readWrong_any H15.out tp 10 (by decide)).mono ?_
     rintro en w17x ⟨rfl,h17,hs17⟩
     have hz18:=hs17.size
     have K_r18:=zh ((hs17.block w.heap.size (by omega) (by omega)).trans K_r15.out)
     have K_f18:=zh ((hs17.block b_f (by omega) (by omega)).trans K_f15.out)
     have X_ps18:RowKit.Hid (rPs (fun k=>B0≤k∧k<wr.heap.size) (w17x) [.slice aC ps.length cC] ps):=zh (Good.keep (R:=rPs) ⟨hs17.size,fun k hk hS=>hs17.block k hk (by omega)⟩ (fun _ _ h=>h) X_ps0.out)
     have H18:=zh h17
     have B18:=zh (B15.out.box hs17)
     have S18:=zh (S15.out.trans hs17)
     clear h17 hs17
     have hbad:st14.bad tp 10={st14 with pos:=tp,fault:=10}:=by rw [RSt.bad,if_pos (Hf14.out H0a.out)]
     have RTf:=zh (show Res=runR T (typQ (blockR d) s ps) (st14.bad tp 10) from by
      rw [hbad,runR_bad (by show (10:Int)≠0;decide),R14i.out,runR_ok (Hf14.out H0a.out)]
      unfold funcQ
      rw [if_pos H4.out]
      rfl)
     have DTf:=zh (show (st14.bad tp 10).fault=0→(st14.bad tp 10).depth=30 - (d:Int) from fun e=>by rw [hbad] at e;cases e)
     clear hbad
     go_wp2_with fail
     have RT:=zh (show Res=runR T (PR.bind typR fun k=>PR.bind (blockR d) fun b=>PR.ret ⟨s,ps,k,b⟩) (st14.bad tp 10) from RTf.out)
     refine (readTyp_any H18.out DTf.out).mono ?_
     rintro en w19x ⟨y,st19,rfl,hy19,h19,hs19,hg19⟩
     have hz20:=hs19.size
     have K_r20:=zh ((hs19.block w.heap.size (by omega) (by omega)).trans K_r18.out)
     have K_f20:=zh ((hs19.block b_f (by omega) (by omega)).trans K_f18.out)
     have X_ps20:RowKit.Hid (rPs (fun k=>B0≤k∧k<wr.heap.size) (w19x) [.slice aC ps.length cC] ps):=zh (Good.keep (R:=rPs) ⟨hs19.size,fun k hk hS=>hs19.block k hk (by omega)⟩ (fun _ _ h=>h) X_ps18.out)
     have H20:=zh h19
     have B20:=zh (B18.out.box hs19)
     have S20:=zh (S18.out.trans hs19)
     have Hy:=zh hy19
     clear hy19
     have R21:=zh (hg19.next RT.out)
     have D21:=zh (show st19.fault=0→st19.depth=30 - (d:Int) from fun e=>hg19.dep_eq e)
     clear h19 hs19 hg19
     have gf22_0:=ca0 K_f20.out
     have gf22_1:=ca1 K_f20.out
     have gf22_2:=ca2 K_f20.out
     have gf22_3:=ca3 K_f20.out
     have gf22_z:=cz K_f20.out
     have hs23:Since (fun k=>k=b_f) (w19x) (w19x.setCell ⟨b_f,2,none⟩ (.int .i64 y)):=Since.setCell (w19x) ⟨b_f,2,none⟩ (.int .i64 y)
     have K_f23:RowKit.Hid ((w19x.setCell ⟨b_f,2,none⟩ (.int .i64 y)).heap[b_f]?=some (.cells #[.string s, .slice aC ps.length cC, .int .i64 y, .slice none 0 0] 35 (0,0))):=zh (by have:=box_set K_f20.out 2 (.int .i64 y) (by simp);simpa using this)
     have hz24:=hs23.size
     have K_r24:=zh ((hs23.block w.heap.size (by omega) (by omega)).trans K_r20.out)
     have X_ps24:RowKit.Hid (rPs (fun k=>B0≤k∧k<wr.heap.size) (w19x.setCell ⟨b_f,2,none⟩ (.int .i64 y)) [.slice aC ps.length cC] ps):=zh (Good.keep (R:=rPs) ⟨hs23.size,fun k hk hS=>hs23.block k hk (by omega)⟩ (fun _ _ h=>h) X_ps20.out)
     have H24:=zh (H20.out.since hs23 (by omega) (by omega))
     have B24:=zh (B20.out.since hs23 (fun k e=>by omega))
     have S24:=zh (S20.out.then_new hs23 (fun k e=>Or.inr (by omega)))
     go_wp2_with fail
     clear gf22_0 gf22_1 gf22_2 gf22_3 gf22_z
     generalize w19x.setCell ⟨b_f,2,none⟩ (.int .i64 y)=wg25 at *
     refine (hK wg25 br bT cap base T st19 H24.out B24.out D21.out).mono ?_
     rintro en w26x ⟨v26,b,st26,rfl,hx26,h26,hs26,hg26⟩
     obtain ⟨a_b,c_b,rfl⟩:=rSs_shape hx26
     have hz27:=hs26.size
     have K_r27:=zh ((hs26.block w.heap.size (by omega) (by omega)).trans K_r24.out)
     have K_f27:=zh ((hs26.block b_f (by omega) (by omega)).trans K_f23.out)
     have X_ps27:RowKit.Hid (rPs (fun k=>B0≤k∧k<wr.heap.size) (w26x) [.slice aC ps.length cC] ps):=zh (Good.keep (R:=rPs) ⟨hs26.size,fun k hk hS=>hs26.block k hk (by omega)⟩ (fun _ _ h=>h) X_ps24.out)
     have H27:=zh h26
     have B27:=zh (B24.out.box hs26)
     have S27:=zh (S24.out.trans hs26)
     have X_b26:RowKit.Hid (rSs (fun k=>wg25.heap.size≤k∧k<w26x.heap.size) w26x [.slice a_b b.length c_b] b):=zh (Good.wide (R:=rSs) hx26 (fun k h1 h2=>⟨h2,h1⟩))
     clear hx26
     have R28:=zh (hg26.next R21.out)
     have D28:=zh (show st26.fault=0→st26.depth=30 - (d:Int) from fun e=>hg26.dep_eq e)
     clear h26 hs26 hg26
     have gf29_0:=ca0 K_f27.out
     have gf29_1:=ca1 K_f27.out
     have gf29_2:=ca2 K_f27.out
     have gf29_3:=ca3 K_f27.out
     have gf29_z:=cz K_f27.out
     have hs30:Since (fun k=>k=b_f) (w26x) (w26x.setCell ⟨b_f,3,none⟩ (.slice a_b b.length c_b)):=Since.setCell (w26x) ⟨b_f,3,none⟩ (.slice a_b b.length c_b)
     have K_f30:RowKit.Hid ((w26x.setCell ⟨b_f,3,none⟩ (.slice a_b b.length c_b)).heap[b_f]?=some (.cells #[.string s, .slice aC ps.length cC, .int .i64 y, .slice a_b b.length c_b] 35 (0,0))):=zh (by have:=box_set K_f27.out 3 (.slice a_b b.length c_b) (by simp);simpa using this)
     have hz31:=hs30.size
     have K_r31:=zh ((hs30.block w.heap.size (by omega) (by omega)).trans K_r27.out)
     have X_ps31:RowKit.Hid (rPs (fun k=>B0≤k∧k<wr.heap.size) (w26x.setCell ⟨b_f,3,none⟩ (.slice a_b b.length c_b)) [.slice aC ps.length cC] ps):=zh (Good.keep (R:=rPs) ⟨hs30.size,fun k hk hS=>hs30.block k hk (by omega)⟩ (fun _ _ h=>h) X_ps27.out)
     have X_b31:RowKit.Hid (rSs (fun k=>wg25.heap.size≤k∧k<w26x.heap.size) (w26x.setCell ⟨b_f,3,none⟩ (.slice a_b b.length c_b)) [.slice a_b b.length c_b] b):=zh (Good.keep (R:=rSs) ⟨hs30.size,fun k hk hS=>hs30.block k hk (by omega)⟩ (fun _ _ h=>h) X_b26.out)
     have H31:=zh (H27.out.since hs30 (by omega) (by omega))
     have B31:=zh (B27.out.since hs30 (fun k e=>by omega))
     have S31:=zh (S27.out.then_new hs30 (fun k e=>Or.inr (by omega)))
     go_upto_region 21 with fail
     clear gf29_0 gf29_1 gf29_2 gf29_3 gf29_z
     generalize w26x.setCell ⟨b_f,3,none⟩ (.slice a_b b.length c_b)=wg32 at *
     have gf33_0:=ca0 K_f30.out
     have gf33_1:=ca1 K_f30.out
     have gf33_2:=ca2 K_f30.out
     have gf33_3:=ca3 K_f30.out
     have gf33_z:=cz K_f30.out
     have gr34_0:=ca0 K_r31.out
     have gr34_1:=ca1 K_r31.out
     have gr34_2:=ca2 K_r31.out
     have gr34_3:=ca3 K_r31.out
     have gr34_z:=cz K_r31.out
     go_wp2_with fail
     obtain ⟨mb,ms⟩:=box4 (w:=wg32) K_r31.out (.string s) (.slice aC ps.length cC) (.int .i64 y) (.slice a_b b.length c_b)
     generalize hWW:(((wg32.setCell ⟨w.heap.size,0,none⟩ (.string s)).setCell ⟨w.heap.size,1,none⟩ (.slice aC ps.length cC)).setCell ⟨w.heap.size,2,none⟩ (.int .i64 y)).setCell ⟨w.heap.size,3,none⟩ (.slice a_b b.length c_b)=WW at *
     have m0:=ca0 mb
     have m1:=ca1 mb
     have m2:=ca2 mb
     have m3:=ca3 mb
     refine bodyPost_ret (v:= .agg #[.string s, .slice aC ps.length cC, .int .i64 y, .slice a_b b.length c_b]) (by simp [results,Tryd.results12,go_sem,m0,m1,m2,m3]) rfl ⟨_,⟨s,ps,y,b⟩,st26,rfl,(by obtain ⟨db,hb⟩:=X_b31.out;exact ⟨db,_,_,rfl,⟨Hs.out,(show InI y from ⟨by have:=Hy.out;omega,by have:=Hy.out;omega⟩)⟩,Go.Pst.Good.keep (R:=rSlice 2 rParam) ⟨ms.size,fun k hk hS=>ms.block k hk (by omega)⟩ (fun k hk hS=>by omega) X_ps31.out,Go.Pst.Good.keep (R:=rSlice 7 (rStmt db)) ⟨ms.size,fun k hk hS=>ms.block k hk (by omega)⟩ (fun k hk hS=>by omega) hb⟩),(H31.out).since ms (by omega) (by omega),(S31.out).then_new ms (fun k e=>Or.inr (by omega)),?_⟩
     exact Good'.end R28.out D28.out
    ·
     have d4: ¬(4:Int)<(ps.length:Int):=by omega
     have H4:=zh h4
     clear h4
     have c3b:w14x.cell? ⟨br,3,none⟩=some (.int .i64 0):=by have:=H15.out.c3;rw [(Hf14.out H0a.out)] at this;exact this
     have RTf:=zh (show Res=runR T (typQ (blockR d) s ps) st14 from R14i.out.trans (by unfold funcQ;rw [if_neg H4.out];rfl))
     have gf16_0:=ca0 K_f15.out
     have gf16_1:=ca1 K_f15.out
     have gf16_2:=ca2 K_f15.out
     have gf16_3:=ca3 K_f15.out
     have gf16_z:=cz K_f15.out
     go_wp2_with fail
     clear gf16_0 gf16_1 gf16_2 gf16_3 gf16_z c3b
     have RT:=zh (show Res=runR T (PR.bind typR fun k=>PR.bind (blockR d) fun b=>PR.ret ⟨s,ps,k,b⟩) st14 from RTf.out)
     refine (readTyp_any H15.out D14i.out).mono ?_
     rintro en w17x ⟨y,st17,rfl,hy17,h17,hs17,hg17⟩
     have hz18:=hs17.size
     have K_r18:=zh ((hs17.block w.heap.size (by omega) (by omega)).trans K_r15.out)
     have K_f18:=zh ((hs17.block b_f (by omega) (by omega)).trans K_f15.out)
     have X_ps18:RowKit.Hid (rPs (fun k=>B0≤k∧k<wr.heap.size) (w17x) [.slice aC ps.length cC] ps):=zh (Good.keep (R:=rPs) ⟨hs17.size,fun k hk hS=>hs17.block k hk (by omega)⟩ (fun _ _ h=>h) X_ps0.out)
     have H18:=zh h17
     have B18:=zh (B15.out.box hs17)
     have S18:=zh (S15.out.trans hs17)
     have Hy:=zh hy17
     clear hy17
     have R19:=zh (hg17.next RT.out)
     have D19:=zh (show st17.fault=0→st17.depth=30 - (d:Int) from fun e=>hg17.dep_eq e)
     clear h17 hs17 hg17
     have gf20_0:=ca0 K_f18.out
     have gf20_1:=ca1 K_f18.out
     have gf20_2:=ca2 K_f18.out
     have gf20_3:=ca3 K_f18.out
     have gf20_z:=cz K_f18.out
     have hs21:Since (fun k=>k=b_f) (w17x) (w17x.setCell ⟨b_f,2,none⟩ (.int .i64 y)):=Since.setCell (w17x) ⟨b_f,2,none⟩ (.int .i64 y)
     have K_f21:RowKit.Hid ((w17x.setCell ⟨b_f,2,none⟩ (.int .i64 y)).heap[b_f]?=some (.cells #[.string s, .slice aC ps.length cC, .int .i64 y, .slice none 0 0] 35 (0,0))):=zh (by have:=box_set K_f18.out 2 (.int .i64 y) (by simp);simpa using this)
     have hz22:=hs21.size
     have K_r22:=zh ((hs21.block w.heap.size (by omega) (by omega)).trans K_r18.out)
     have X_ps22:RowKit.Hid (rPs (fun k=>B0≤k∧k<wr.heap.size) (w17x.setCell ⟨b_f,2,none⟩ (.int .i64 y)) [.slice aC ps.length cC] ps):=zh (Good.keep (R:=rPs) ⟨hs21.size,fun k hk hS=>hs21.block k hk (by omega)⟩ (fun _ _ h=>h) X_ps18.out)
     have H22:=zh (H18.out.since hs21 (by omega) (by omega))
     have B22:=zh (B18.out.since hs21 (fun k e=>by omega))
     have S22:=zh (S18.out.then_new hs21 (fun k e=>Or.inr (by omega)))
     go_wp2_with fail
     clear gf20_0 gf20_1 gf20_2 gf20_3 gf20_z
     generalize w17x.setCell ⟨b_f,2,none⟩ (.int .i64 y)=wg23 at *
     refine (hK wg23 br bT cap base T st17 H22.out B22.out D19.out).mono ?_
     rintro en w24x ⟨v24,b,st24,rfl,hx24,h24,hs24,hg24⟩
     obtain ⟨a_b,c_b,rfl⟩:=rSs_shape hx24
     have hz25:=hs24.size
     have K_r25:=zh ((hs24.block w.heap.size (by omega) (by omega)).trans K_r22.out)
     have K_f25:=zh ((hs24.block b_f (by omega) (by omega)).trans K_f21.out)
     have X_ps25:RowKit.Hid (rPs (fun k=>B0≤k∧k<wr.heap.size) (w24x) [.slice aC ps.length cC] ps):=zh (Good.keep (R:=rPs) ⟨hs24.size,fun k hk hS=>hs24.block k hk (by omega)⟩ (fun _ _ h=>h) X_ps22.out)
     have H25:=zh h24
     have B25:=zh (B22.out.box hs24)
     have S25:=zh (S22.out.trans hs24)
     have X_b24:RowKit.Hid (rSs (fun k=>wg23.heap.size≤k∧k<w24x.heap.size) w24x [.slice a_b b.length c_b] b):=zh (Good.wide (R:=rSs) hx24 (fun k h1 h2=>⟨h2,h1⟩))
     clear hx24
     have R26:=zh (hg24.next R19.out)
     have D26:=zh (show st24.fault=0→st24.depth=30 - (d:Int) from fun e=>hg24.dep_eq e)
     clear h24 hs24 hg24
     have gf27_0:=ca0 K_f25.out
     have gf27_1:=ca1 K_f25.out
     have gf27_2:=ca2 K_f25.out
     have gf27_3:=ca3 K_f25.out
     have gf27_z:=cz K_f25.out
     have hs28:Since (fun k=>k=b_f) (w24x) (w24x.setCell ⟨b_f,3,none⟩ (.slice a_b b.length c_b)):=Since.setCell (w24x) ⟨b_f,3,none⟩ (.slice a_b b.length c_b)
     have K_f28:RowKit.Hid ((w24x.setCell ⟨b_f,3,none⟩ (.slice a_b b.length c_b)).heap[b_f]?=some (.cells #[.string s, .slice aC ps.length cC, .int .i64 y, .slice a_b b.length c_b] 35 (0,0))):=zh (by have:=box_set K_f25.out 3 (.slice a_b b.length c_b) (by simp);simpa using this)
     have hz29:=hs28.size
     have K_r29:=zh ((hs28.block w.heap.size (by omega) (by omega)).trans K_r25.out)
     have X_ps29:RowKit.Hid (rPs (fun k=>B0≤k∧k<wr.heap.size) (w24x.setCell ⟨b_f,3,none⟩ (.slice a_b b.length c_b)) [.slice aC ps.length cC] ps):=zh (Good.keep (R:=rPs) ⟨hs28.size,fun k hk hS=>hs28.block k hk (by omega)⟩ (fun _ _ h=>h) X_ps25.out)
     have X_b29:RowKit.Hid (rSs (fun k=>wg23.heap.size≤k∧k<w24x.heap.size) (w24x.setCell ⟨b_f,3,none⟩ (.slice a_b b.length c_b)) [.slice a_b b.length c_b] b):=zh (Good.keep (R:=rSs) ⟨hs28.size,fun k hk hS=>hs28.block k hk (by omega)⟩ (fun _ _ h=>h) X_b24.out)
     have H29:=zh (H25.out.since hs28 (by omega) (by omega))
     have B29:=zh (B25.out.since hs28 (fun k e=>by omega))
     have S29:=zh (S25.out.then_new hs28 (fun k e=>Or.inr (by omega)))
     go_upto_region 21 with fail
     clear gf27_0 gf27_1 gf27_2 gf27_3 gf27_z
     generalize w24x.setCell ⟨b_f,3,none⟩ (.slice a_b b.length c_b)=wg30 at *
     have gf31_0:=ca0 K_f28.out
     have gf31_1:=ca1 K_f28.out
     have gf31_2:=ca2 K_f28.out
     have gf31_3:=ca3 K_f28.out
     have gf31_z:=cz K_f28.out
     have gr32_0:=ca0 K_r29.out
     have gr32_1:=ca1 K_r29.out
     have gr32_2:=ca2 K_r29.out
     have gr32_3:=ca3 K_r29.out
     have gr32_z:=cz K_r29.out
     go_wp2_with fail
     obtain ⟨mb,ms⟩:=box4 (w:=wg30) K_r29.out (.string s) (.slice aC ps.length cC) (.int .i64 y) (.slice a_b b.length c_b)
     generalize hWW:(((wg30.setCell ⟨w.heap.size,0,none⟩ (.string s)).setCell ⟨w.heap.size,1,none⟩ (.slice aC ps.length cC)).setCell ⟨w.heap.size,2,none⟩ (.int .i64 y)).setCell ⟨w.heap.size,3,none⟩ (.slice a_b b.length c_b)=WW at *
     have m0:=ca0 mb
     have m1:=ca1 mb
     have m2:=ca2 mb
     have m3:=ca3 mb
     refine bodyPost_ret (v:= .agg #[.string s, .slice aC ps.length cC, .int .i64 y, .slice a_b b.length c_b]) (by simp [results,Tryd.results12,go_sem,m0,m1,m2,m3]) rfl ⟨_,⟨s,ps,y,b⟩,st24,rfl,(by obtain ⟨db,hb⟩:=X_b29.out;exact ⟨db,_,_,rfl,⟨Hs.out,(show InI y from ⟨by have:=Hy.out;omega,by have:=Hy.out;omega⟩)⟩,Go.Pst.Good.keep (R:=rSlice 2 rParam) ⟨ms.size,fun k hk hS=>ms.block k hk (by omega)⟩ (fun k hk hS=>by omega) X_ps29.out,Go.Pst.Good.keep (R:=rSlice 7 (rStmt db)) ⟨ms.size,fun k hk hS=>ms.block k hk (by omega)⟩ (fun k hk hS=>by omega) hb⟩),(H29.out).since ms (by omega) (by omega),(S29.out).then_new ms (fun k e=>Or.inr (by omega)),?_⟩
     exact Good'.end R26.out D26.out
   |false=>
    have R14i:=zh (hg14.no RA.out)
    have Hn14:=zh (hn14 rfl)
    clear hg14 hy14 hn14
    clear c3
    by_cases hl0:0<ps.length
    ·
     have l0:(0:Int)<(ps.length:Int):=by omega
     have Hl0:=zh hl0
     clear hl0
     have RC:=zh (show Res=runR T (PR.bind (mustR ⟨#[44]⟩) fun _=>PR.bind nameR fun n=>PR.bind peekR fun t=>PR.bind typR fun y=>paramQ (blockR d) tp s k' ps n t y) st14 from R14i.out.trans (by unfold commaR;rw [if_pos Hl0.out]))
     have gf16_0:=ca0 K_f15.out
     have gf16_1:=ca1 K_f15.out
     have gf16_2:=ca2 K_f15.out
     have gf16_3:=ca3 K_f15.out
     have gf16_z:=cz K_f15.out
     go_wp2_with fail
     clear gf16_0 gf16_1 gf16_2 gf16_3 gf16_z
     refine (readMust_any H15.out D14i.out ⟨#[44]⟩).mono ?_
     rintro en w17x ⟨st17,rfl,h17,hs17,hg17⟩
     have hz18:=hs17.size
     have K_r18:=zh ((hs17.block w.heap.size (by omega) (by omega)).trans K_r15.out)
     have K_f18:=zh ((hs17.block b_f (by omega) (by omega)).trans K_f15.out)
     have H18:=zh h17
     have B18:=zh (B15.out.box hs17)
     have S18:=zh (S15.out.trans hs17)
     have Q18:=zh (Q15.out.trans hs17)
     have R19:=zh (hg17.next RC.out)
     have D19:=zh (show st17.fault=0→st17.depth=30 - (d:Int) from fun e=>hg17.dep_eq e)
     have G17:=zh hg17
     clear h17 hs17 hg17
     go_wp2_with fail
     refine (readName_any H18.out B18.out D19.out).mono ?_
     rintro en w20x ⟨n,st20,rfl,hsz_n,h20,hs20,hg20⟩
     have hz21:=hs20.size
     have K_r21:=zh ((hs20.block w.heap.size (by omega) (by omega)).trans K_r18.out)
     have K_f21:=zh ((hs20.block b_f (by omega) (by omega)).trans K_f18.out)
     have H21:=zh h20
     have B21:=zh (B18.out.box hs20)
     have S21:=zh (S18.out.trans hs20)
     have Q21:=zh (Q18.out.trans hs20)
     have R22:=zh (hg20.next R19.out)
     have D22:=zh (show st20.fault=0→st20.depth=30 - (d:Int) from fun e=>hg20.dep_eq e)
     have G20:=zh hg20
     clear h20 hs20 hg20
     have Hn:=zh hsz_n
     clear hsz_n
     obtain ⟨b_p,hb_p⟩: ∃ b_p,b_p=w20x.heap.size:=⟨_,rfl⟩
     have hs23:Since (fun _=>False) (w20x) (w20x.alloc (.cells #[.string n, .int .i64 0] 72)):=Since.alloc _ _ _
     have hw23:(w20x.alloc (.cells #[.string n, .int .i64 0] 72)).heap.size=b_p+1:=by rw [hb_p];simp
     have K_p23:RowKit.Hid ((w20x.alloc (.cells #[.string n, .int .i64 0] 72)).heap[b_p]?=some (.cells #[.string n, .int .i64 0] 72 (0,0))):=zh (by have e:b_p=(w20x).heap.size:=(by first|exact hb_p|(rw [hb_p];simp));have e2:=heap_alloc_new (w20x) (.cells #[.string n, .int .i64 0] 72);rw [←e] at e2;exact e2)
     have hz24:=hs23.size
     have K_r24:=zh ((hs23.block w.heap.size (by omega) (fun f=>f)).trans K_r21.out)
     have K_f24:=zh ((hs23.block b_f (by omega) (fun f=>f)).trans K_f21.out)
     have H24:=zh (H21.out.later hs23)
     have B24:=zh (B21.out.later hs23)
     have S24:RowKit.Hid (Since (fun k=>k=br) w (w20x.alloc (.cells #[.string n, .int .i64 0] 72))):=zh (S21.out.trans (hs23.mono (fun _ f=>f.elim)))
     have Q24:RowKit.Hid (Since (fun k=>k=br) wr (w20x.alloc (.cells #[.string n, .int .i64 0] 72))):=zh (Q21.out.trans (hs23.mono (fun _ f=>f.elim)))
     have hl_p:w20x.heap.size≤b_p:=by omega
     go_wp2_with fail
     rw [←hb_p]
     clear hb_p
     generalize w20x.alloc (.cells #[.string n, .int .i64 0] 72)=wg25 at *
     obtain ⟨k,hk⟩: ∃ k,seeR T st20=k:=⟨_,rfl⟩
     have hpk:=readPeek_any H24.out
     have rk:=peek_next R22.out
     rw [hk] at hpk rk
     obtain ⟨kk,ks,kn,kp⟩:=k
     have RK:=zh (show Res=runR T (PR.bind typR fun y=>paramQ (blockR d) tp s k' ps n ⟨kk,ks,kn,kp⟩ y) st20 from rk)
     have Hpk:=zh hpk
     clear hk hpk rk
     refine Hpk.out.mono ?_
     rintro en w1z ⟨rfl,hs1z⟩
     simp only [tokC]
     have hz26:=hs1z.size
     have K_r26:=zh ((hs1z.block w.heap.size (by omega) (fun f=>f)).trans K_r24.out)
     have K_f26:=zh ((hs1z.block b_f (by omega) (fun f=>f)).trans K_f24.out)
     have K_p26:=zh ((hs1z.block b_p (by omega) (fun f=>f)).trans K_p23.out)
     have H26:=zh (H24.out.later hs1z)
     have B26:=zh (B24.out.later hs1z)
     have S26:RowKit.Hid (Since (fun k=>k=br) w (w1z)):=zh (S24.out.trans (hs1z.mono (fun _ f=>f.elim)))
     have Q26:RowKit.Hid (Since (fun k=>k=br) wr (w1z)):=zh (Q24.out.trans (hs1z.mono (fun _ f=>f.elim)))
     clear hs1z
     obtain ⟨b_k,hb_k⟩: ∃ b_k,b_k=w1z.heap.size:=⟨_,rfl⟩
     have hs27:Since (fun _=>False) (w1z) (w1z.alloc (.cells #[.int .u8 kk, .string ks, .int .i64 kn, .int .i64 kp] 52)):=Since.alloc _ _ _
     have hw27:(w1z.alloc (.cells #[.int .u8 kk, .string ks, .int .i64 kn, .int .i64 kp] 52)).heap.size=b_k+1:=by rw [hb_k];simp
     have K_k27:RowKit.Hid ((w1z.alloc (.cells #[.int .u8 kk, .string ks, .int .i64 kn, .int .i64 kp] 52)).heap[b_k]?=some (.cells #[.int .u8 kk, .string ks, .int .i64 kn, .int .i64 kp] 52 (0,0))):=zh (by have e:b_k=(w1z).heap.size:=(by first|exact hb_k|(rw [hb_k];simp));have e2:=heap_alloc_new (w1z) (.cells #[.int .u8 kk, .string ks, .int .i64 kn, .int .i64 kp] 52);rw [←e] at e2;exact e2)
     have hz28:=hs27.size
     have K_r28:=zh ((hs27.block w.heap.size (by omega) (fun f=>f)).trans K_r26.out)
     have K_f28:=zh ((hs27.block b_f (by omega) (fun f=>f)).trans K_f26.out)
     have K_p28:=zh ((hs27.block b_p (by omega) (fun f=>f)).trans K_p26.out)
     have H28:=zh (H26.out.later hs27)
     have B28:=zh (B26.out.later hs27)
     have S28:RowKit.Hid (Since (fun k=>k=br) w (w1z.alloc (.cells #[.int .u8 kk, .string ks, .int .i64 kn, .int .i64 kp] 52))):=zh (S26.out.trans (hs27.mono (fun _ f=>f.elim)))
     have Q28:RowKit.Hid (Since (fun k=>k=br) wr (w1z.alloc (.cells #[.int .u8 kk, .string ks, .int .i64 kn, .int .i64 kp] 52))):=zh (Q26.out.trans (hs27.mono (fun _ f=>f.elim)))
     have hl_k:w1z.heap.size≤b_k:=by omega
     go_wp2_with fail
     rw [←hb_k]
     clear hb_k
     generalize w1z.alloc (.cells #[.int .u8 kk, .string ks, .int .i64 kn, .int .i64 kp] 52)=wg29 at *
     refine (readTyp_any H28.out D22.out).mono ?_
     rintro en w30x ⟨y,st30,rfl,hy30,h30,hs30,hg30⟩
     have hz31:=hs30.size
     have K_r31:=zh ((hs30.block w.heap.size (by omega) (by omega)).trans K_r28.out)
     have K_f31:=zh ((hs30.block b_f (by omega) (by omega)).trans K_f28.out)
     have K_p31:=zh ((hs30.block b_p (by omega) (by omega)).trans K_p28.out)
     have K_k31:=zh ((hs30.block b_k (by omega) (by omega)).trans K_k27.out)
     have H31:=zh h30
     have B31:=zh (B28.out.box hs30)
     have S31:=zh (S28.out.trans hs30)
     have Q31:=zh (Q28.out.trans hs30)
     have Hy:=zh hy30
     clear hy30
     have R32:=zh (hg30.next RK.out)
     have D32:=zh (show st30.fault=0→st30.depth=30 - (d:Int) from fun e=>hg30.dep_eq e)
     have G30:=zh hg30
     clear h30 hs30 hg30
     have gp33_0:=ca0 K_p31.out
     have gp33_1:=ca1 K_p31.out
     have gp33_z:=cz K_p31.out
     have hs34:Since (fun k=>k=b_p) (w30x) (w30x.setCell ⟨b_p,1,none⟩ (.int .i64 y)):=Since.setCell (w30x) ⟨b_p,1,none⟩ (.int .i64 y)
     have K_p34:RowKit.Hid ((w30x.setCell ⟨b_p,1,none⟩ (.int .i64 y)).heap[b_p]?=some (.cells #[.string n, .int .i64 y] 72 (0,0))):=zh (by have:=box_set K_p31.out 1 (.int .i64 y) (by simp);simpa using this)
     have hz35:=hs34.size
     have K_r35:=zh ((hs34.block w.heap.size (by omega) (by omega)).trans K_r31.out)
     have K_f35:=zh ((hs34.block b_f (by omega) (by omega)).trans K_f31.out)
     have K_k35:=zh ((hs34.block b_k (by omega) (by omega)).trans K_k31.out)
     have H35:=zh (H31.out.since hs34 (by omega) (by omega))
     have B35:=zh (B31.out.since hs34 (fun k e=>by omega))
     have S35:=zh (S31.out.then_new hs34 (fun k e=>Or.inr (by omega)))
     have Q35:=zh (Q31.out.then_new hs34 (fun k e=>Or.inr (by omega)))
     go_upto_region 11 with fail
     clear gp33_0 gp33_1 gp33_z
     generalize w30x.setCell ⟨b_p,1,none⟩ (.int .i64 y)=wg36 at *
     by_cases e1:y=0
     ·
      have f1:(y==0)=true:=by simp [e1]
      have E1:=zh e1
      clear e1
      by_cases e2:kk=101
      ·
       have f2:(kk==101)=true:=by simp [e2]
       have E2:=zh e2
       clear e2
       have gp37_0:=ca0 K_p34.out
       have gp37_1:=ca1 K_p34.out
       have gp37_z:=cz K_p34.out
       have gk38_0:=ca0 K_k35.out
       have gk38_1:=ca1 K_k35.out
       have gk38_2:=ca2 K_k35.out
       have gk38_3:=ca3 K_k35.out
       have gk38_z:=cz K_k35.out
       go_wp2_with fail
       clear gp37_0 gp37_1 gp37_z gk38_0 gk38_1 gk38_2 gk38_3 gk38_z
       refine (readWrong_any H35.out kp 5 (by decide)).mono ?_
       rintro en w39x ⟨rfl,h39,hs39⟩
       have hz40:=hs39.size
       have K_r40:=zh ((hs39.block w.heap.size (by omega) (by omega)).trans K_r35.out)
       have K_f40:=zh ((hs39.block b_f (by omega) (by omega)).trans K_f35.out)
       have K_p40:=zh ((hs39.block b_p (by omega) (by omega)).trans K_p34.out)
       have K_k40:=zh ((hs39.block b_k (by omega) (by omega)).trans K_k35.out)
       have H40:=zh h39
       have B40:=zh (B35.out.box hs39)
       have S40:=zh (S35.out.trans hs39)
       have Q40:=zh (Q35.out.trans hs39)
       clear h39 hs39
       have hnz:(st30.bad kp 5).fault≠0:=by
        unfold RSt.bad
        by_cases hz:st30.fault=0
        ·
         rw [if_pos hz];show (5:Int)≠0;decide
        ·
         rw [if_neg hz];exact hz
       have RP:=zh (show Res=runR T (PR.bind (paramsLoop k' (ps++[(n,y)])) (funcQ (blockR d) tp s)) (st30.bad kp 5) from by
        rw [runR_bad hnz,R32.out]
        unfold RSt.bad
        by_cases hz:st30.fault=0
        ·
         rw [if_pos hz,runR_ok hz]
         unfold paramQ
         rw [if_pos E1.out,if_pos E2.out]
         rfl
        ·
         rw [if_neg hz,runR_bad hz])
       have Hnz:=zh hnz
       clear hnz
       have gp41_0:=ca0 K_p40.out
       have gp41_1:=ca1 K_p40.out
       have gp41_z:=cz K_p40.out
       have gf42_0:=ca0 K_f40.out
       have gf42_1:=ca1 K_f40.out
       have gf42_2:=ca2 K_f40.out
       have gf42_3:=ca3 K_f40.out
       have gf42_z:=cz K_f40.out
       go_upto_region 16 with fail
       clear gp41_0 gp41_1 gp41_z gf42_0 gf42_1 gf42_2 gf42_3 gf42_z
       have hown4:=Q40.out.row Hown.out (fun k e f=>by have:=(Hown.out.lt k e).1;omega)
       have hx4:rP 0 (fun k=>wr.heap.size≤k) w39x [.string n, .int .i64 y] (n,y):=⟨rfl,Hn.out,by have:=Hy.out;constructor<;>omega⟩
       have Hown4:=zh hown4
       have Hx4:=zh hx4
       clear hown4 hx4
       have hbw4:B0≤w39x.heap.size:=by omega
       have gf43_0:=ca0 K_f40.out
       have gf43_1:=ca1 K_f40.out
       have gf43_2:=ca2 K_f40.out
       have gf43_3:=ca3 K_f40.out
       have gf43_z:=cz K_f40.out
       have gp44_0:=ca0 K_p40.out
       have gp44_1:=ca1 K_p40.out
       have gp44_z:=cz K_p40.out
       go_wp2_with (at_builtin;refine wpList_append_own_at _ rfl _ _ 33 rfl B0 72 ix _ 2 24 Tryd.underlying33 ii0 iz0 iz1 iz2 rfl (by decide) (.slice aC ps.length cC) ps.length ess.flatten rfl (Hown4.out.alloc _) ⟨w39x.heap.size,0,none⟩ 1 1 [.string n, .int .i64 y] rfl rfl (World.news_of_block (heap_alloc_new w39x _)) (by simp [Value.oneCell']) (by unfold maxLen;omega) (by omega) (by rw [World.size_alloc];omega) ?_;intro v5 w5 hown5 hg5 hnil5 hat5;clear hnil5;have HRow:=zh (RowG.push monoP Hown.out Hall.out Q40.out (fun k e=>by omega) Hx4.out rfl hown5 hg5 (by simpa using hat5) hbw);have Hs5:=zh ((Since.alloc (fun k=>(Value.slice aC ps.length cC).ownBlock=some k) w39x _).trans (Since.grown hg5));obtain ⟨aW,cW,rfl,-,-⟩:=row_slice hown5;have ks5:=(Hs5.out.block b_f (by omega) (fun f=>by have:=(Hown4.out.lt _ f).1;omega)).trans K_f40.out;have gs5:w5.cell? ⟨b_f,1,none⟩=some (.slice aC ps.length cC):=(by simp [World.cell?,ks5]);have gs5z: ∀ j,w5.frozen? ⟨b_f,j,none⟩=false:=fun j=>(by simp [World.frozen?,ks5]);have Ks5:=zh ks5;clear ks5 hown5 hg5 hat5)
       clear gf43_0 gf43_1 gf43_2 gf43_3 gf43_z gp44_0 gp44_1 gp44_z
       have hz5:=Hs5.out.size
       have ssC:Since (fun k=>k=b_f) w5 (w5.setCell ⟨b_f,1,none⟩ (.slice aW (ps.length+1) cW)):=Since.setCell w5 ⟨b_f,1,none⟩ _
       have hzC:=ssC.size
       have ksC:(w5.setCell ⟨b_f,1,none⟩ (.slice aW (ps.length+1) cW)).heap[b_f]?=some (.cells #[.string s, .slice aW (ps.length+1) cW, .int .i64 0, .slice none 0 0] 35 (0,0)):=by have:=box_set Ks5.out 1 (.slice aW (ps.length+1) cW) (by simp);simpa using this
       go_roundg k'
       case measure=>omega
       case rel=>exact ⟨ps++[(n,y)],(st30.bad kp 5), .slice aW (ps.length+1) cW,(H40.out.since Hs5.out (fun f=>by have:=(Hown4.out.lt _ f).1;omega) (fun f=>by have:=(Hown4.out.lt _ f).1;omega)).since ssC (by omega) (by omega),(B40.out.since Hs5.out (fun k f=>by have:=(Hown4.out.lt _ f).1;omega)).since ssC (fun k e=>by omega),(S40.out.then_new Hs5.out (fun k f=>Or.inr (by have:=(Hown4.out.lt _ f).1;omega))).then_new ssC (fun k e=>Or.inr (by omega)),((ssC.block w.heap.size (by omega) (by omega)).trans ((Hs5.out.block w.heap.size (by omega) (fun f=>by have:=(Hown4.out.lt _ f).1;omega)).trans K_r40.out)),ksC,rowG_since HRow.out ssC (fun k e=>by omega),by omega,by simp;omega,RP.out,fun e=>absurd e Hnz.out⟩
      ·
       have f2:(kk==101)=false:=by simp [e2]
       have E2:=zh e2
       clear e2
       have gp37_0:=ca0 K_p34.out
       have gp37_1:=ca1 K_p34.out
       have gp37_z:=cz K_p34.out
       have gk38_0:=ca0 K_k35.out
       have gk38_1:=ca1 K_k35.out
       have gk38_2:=ca2 K_k35.out
       have gk38_3:=ca3 K_k35.out
       have gk38_z:=cz K_k35.out
       go_wp2_with fail
       clear gp37_0 gp37_1 gp37_z gk38_0 gk38_1 gk38_2 gk38_3 gk38_z
       refine (readWrong_any H35.out kp 4 (by decide)).mono ?_
       rintro en w39x ⟨rfl,h39,hs39⟩
       have hz40:=hs39.size
       have K_r40:=zh ((hs39.block w.heap.size (by omega) (by omega)).trans K_r35.out)
       have K_f40:=zh ((hs39.block b_f (by omega) (by omega)).trans K_f35.out)
       have K_p40:=zh ((hs39.block b_p (by omega) (by omega)).trans K_p34.out)
       have K_k40:=zh ((hs39.block b_k (by omega) (by omega)).trans K_k35.out)
       have H40:=zh h39
       have B40:=zh (B35.out.box hs39)
       have S40:=zh (S35.out.trans hs39)
       have Q40:=zh (Q35.out.trans hs39)
       clear h39 hs39
       have hnz:(st30.bad kp 4).fault≠0:=by
        unfold RSt.bad
        by_cases hz:st30.fault=0
        ·
         rw [if_pos hz];show (4:Int)≠0;decide
        ·
         rw [if_neg hz];exact hz
       have RP:=zh (show Res=runR T (PR.bind (paramsLoop k' (ps++[(n,y)])) (funcQ (blockR d) tp s)) (st30.bad kp 4) from by
        rw [runR_bad hnz,R32.out]
        unfold RSt.bad
        by_cases hz:st30.fault=0
        ·
         rw [if_pos hz,runR_ok hz]
         unfold paramQ
         rw [if_pos E1.out,if_neg E2.out]
         rfl
        ·
         rw [if_neg hz,runR_bad hz])
       have Hnz:=zh hnz
       clear hnz
       have gp41_0:=ca0 K_p40.out
       have gp41_1:=ca1 K_p40.out
       have gp41_z:=cz K_p40.out
       have gf42_0:=ca0 K_f40.out
       have gf42_1:=ca1 K_f40.out
       have gf42_2:=ca2 K_f40.out
       have gf42_3:=ca3 K_f40.out
       have gf42_z:=cz K_f40.out
       go_upto_region 16 with fail
       clear gp41_0 gp41_1 gp41_z gf42_0 gf42_1 gf42_2 gf42_3 gf42_z
       have hown4:=Q40.out.row Hown.out (fun k e f=>by have:=(Hown.out.lt k e).1;omega)
       have hx4:rP 0 (fun k=>wr.heap.size≤k) w39x [.string n, .int .i64 y] (n,y):=⟨rfl,Hn.out,by have:=Hy.out;constructor<;>omega⟩
       have Hown4:=zh hown4
       have Hx4:=zh hx4
       clear hown4 hx4
       have hbw4:B0≤w39x.heap.size:=by omega
       have gf43_0:=ca0 K_f40.out
       have gf43_1:=ca1 K_f40.out
       have gf43_2:=ca2 K_f40.out
       have gf43_3:=ca3 K_f40.out
       have gf43_z:=cz K_f40.out
       have gp44_0:=ca0 K_p40.out
       have gp44_1:=ca1 K_p40.out
       have gp44_z:=cz K_p40.out
       go_wp2_with (at_builtin;refine wpList_append_own_at _ rfl _ _ 33 rfl B0 72 ix _ 2 24 Tryd.underlying33 ii0 iz0 iz1 iz2 rfl (by decide) (.slice aC ps.length cC) ps.length ess.flatten rfl (Hown4.out.alloc _) ⟨w39x.heap.size,0,none⟩ 1 1 [.string n, .int .i64 y] rfl rfl (World.news_of_block (heap_alloc_new w39x _)) (by simp [Value.oneCell']) (by unfold maxLen;omega) (by omega) (by rw [World.size_alloc];omega) ?_;intro v5 w5 hown5 hg5 hnil5 hat5;clear hnil5;have HRow:=zh (RowG.push monoP Hown.out Hall.out Q40.out (fun k e=>by omega) Hx4.out rfl hown5 hg5 (by simpa using hat5) hbw);have Hs5:=zh ((Since.alloc (fun k=>(Value.slice aC ps.length cC).ownBlock=some k) w39x _).trans (Since.grown hg5));obtain ⟨aW,cW,rfl,-,-⟩:=row_slice hown5;have ks5:=(Hs5.out.block b_f (by omega) (fun f=>by have:=(Hown4.out.lt _ f).1;omega)).trans K_f40.out;have gs5:w5.cell? ⟨b_f,1,none⟩=some (.slice aC ps.length cC):=(by simp [World.cell?,ks5]);have gs5z: ∀ j,w5.frozen? ⟨b_f,j,none⟩=false:=fun j=>(by simp [World.frozen?,ks5]);have Ks5:=zh ks5;clear ks5 hown5 hg5 hat5)
       clear gf43_0 gf43_1 gf43_2 gf43_3 gf43_z gp44_0 gp44_1 gp44_z
       have hz5:=Hs5.out.size
       have ssC:Since (fun k=>k=b_f) w5 (w5.setCell ⟨b_f,1,none⟩ (.slice aW (ps.length+1) cW)):=Since.setCell w5 ⟨b_f,1,none⟩ _
       have hzC:=ssC.size
       have ksC:(w5.setCell ⟨b_f,1,none⟩ (.slice aW (ps.length+1) cW)).heap[b_f]?=some (.cells #[.string s, .slice aW (ps.length+1) cW, .int .i64 0, .slice none 0 0] 35 (0,0)):=by have:=box_set Ks5.out 1 (.slice aW (ps.length+1) cW) (by simp);simpa using this
       go_roundg k'
       case measure=>omega
       case rel=>exact ⟨ps++[(n,y)],(st30.bad kp 4), .slice aW (ps.length+1) cW,(H40.out.since Hs5.out (fun f=>by have:=(Hown4.out.lt _ f).1;omega) (fun f=>by have:=(Hown4.out.lt _ f).1;omega)).since ssC (by omega) (by omega),(B40.out.since Hs5.out (fun k f=>by have:=(Hown4.out.lt _ f).1;omega)).since ssC (fun k e=>by omega),(S40.out.then_new Hs5.out (fun k f=>Or.inr (by have:=(Hown4.out.lt _ f).1;omega))).then_new ssC (fun k e=>Or.inr (by omega)),((ssC.block w.heap.size (by omega) (by omega)).trans ((Hs5.out.block w.heap.size (by omega) (fun f=>by have:=(Hown4.out.lt _ f).1;omega)).trans K_r40.out)),ksC,rowG_since HRow.out ssC (fun k e=>by omega),by omega,by simp;omega,RP.out,fun e=>absurd e Hnz.out⟩
     ·
      have f1:(y==0)=false:=by simp [e1]
      have E1:=zh e1
      clear e1
      have RP:=zh (show Res=runR T (PR.bind (paramsLoop k' (ps++[(n,y)])) (funcQ (blockR d) tp s)) st30 from R32.out.trans (by unfold paramQ;rw [if_neg E1.out]))
      have gp37_0:=ca0 K_p34.out
      have gp37_1:=ca1 K_p34.out
      have gp37_z:=cz K_p34.out
      have gf38_0:=ca0 K_f35.out
      have gf38_1:=ca1 K_f35.out
      have gf38_2:=ca2 K_f35.out
      have gf38_3:=ca3 K_f35.out
      have gf38_z:=cz K_f35.out
      go_upto_region 16 with fail
      clear gp37_0 gp37_1 gp37_z gf38_0 gf38_1 gf38_2 gf38_3 gf38_z
      have hown4:=Q35.out.row Hown.out (fun k e f=>by have:=(Hown.out.lt k e).1;omega)
      have hx4:rP 0 (fun k=>wr.heap.size≤k) wg36 [.string n, .int .i64 y] (n,y):=⟨rfl,Hn.out,by have:=Hy.out;constructor<;>omega⟩
      have Hown4:=zh hown4
      have Hx4:=zh hx4
      clear hown4 hx4
      have hbw4:B0≤wg36.heap.size:=by omega
      have gf39_0:=ca0 K_f35.out
      have gf39_1:=ca1 K_f35.out
      have gf39_2:=ca2 K_f35.out
      have gf39_3:=ca3 K_f35.out
      have gf39_z:=cz K_f35.out
      have gp40_0:=ca0 K_p34.out
      have gp40_1:=ca1 K_p34.out
      have gp40_z:=cz K_p34.out
      go_wp2_with (at_builtin;refine wpList_append_own_at _ rfl _ _ 33 rfl B0 72 ix _ 2 24 Tryd.underlying33 ii0 iz0 iz1 iz2 rfl (by decide) (.slice aC ps.length cC) ps.length ess.flatten rfl (Hown4.out.alloc _) ⟨wg36.heap.size,0,none⟩ 1 1 [.string n, .int .i64 y] rfl rfl (World.news_of_block (heap_alloc_new wg36 _)) (by simp [Value.oneCell']) (by unfold maxLen;omega) (by omega) (by rw [World.size_alloc];omega) ?_;intro v5 w5 hown5 hg5 hnil5 hat5;clear hnil5;have HRow:=zh (RowG.push monoP Hown.out Hall.out Q35.out (fun k e=>by omega) Hx4.out rfl hown5 hg5 (by simpa using hat5) hbw);have Hs5:=zh ((Since.alloc (fun k=>(Value.slice aC ps.length cC).ownBlock=some k) wg36 _).trans (Since.grown hg5));obtain ⟨aW,cW,rfl,-,-⟩:=row_slice hown5;have ks5:=(Hs5.out.block b_f (by omega) (fun f=>by have:=(Hown4.out.lt _ f).1;omega)).trans K_f35.out;have gs5:w5.cell? ⟨b_f,1,none⟩=some (.slice aC ps.length cC):=(by simp [World.cell?,ks5]);have gs5z: ∀ j,w5.frozen? ⟨b_f,j,none⟩=false:=fun j=>(by simp [World.frozen?,ks5]);have Ks5:=zh ks5;clear ks5 hown5 hg5 hat5)
      clear gf39_0 gf39_1 gf39_2 gf39_3 gf39_z gp40_0 gp40_1 gp40_z
      have hz5:=Hs5.out.size
      have ssC:Since (fun k=>k=b_f) w5 (w5.setCell ⟨b_f,1,none⟩ (.slice aW (ps.length+1) cW)):=Since.setCell w5 ⟨b_f,1,none⟩ _
      have hzC:=ssC.size
      have ksC:(w5.setCell ⟨b_f,1,none⟩ (.slice aW (ps.length+1) cW)).heap[b_f]?=some (.cells #[.string s, .slice aW (ps.length+1) cW, .int .i64 0, .slice none 0 0] 35 (0,0)):=by have:=box_set Ks5.out 1 (.slice aW (ps.length+1) cW) (by simp);simpa using this
      go_roundg k'
      case measure=>omega
      case rel=>exact ⟨ps++[(n,y)],st30, .slice aW (ps.length+1) cW,(H35.out.since Hs5.out (fun f=>by have:=(Hown4.out.lt _ f).1;omega) (fun f=>by have:=(Hown4.out.lt _ f).1;omega)).since ssC (by omega) (by omega),(B35.out.since Hs5.out (fun k f=>by have:=(Hown4.out.lt _ f).1;omega)).since ssC (fun k e=>by omega),(S35.out.then_new Hs5.out (fun k f=>Or.inr (by have:=(Hown4.out.lt _ f).1;omega))).then_new ssC (fun k e=>Or.inr (by omega)),((ssC.block w.heap.size (by omega) (by omega)).trans ((Hs5.out.block w.heap.size (by omega) (fun f=>by have:=(Hown4.out.lt _ f).1;omega)).trans K_r35.out)),ksC,rowG_since HRow.out ssC (fun k e=>by omega),by omega,by simp;omega,RP.out,fun e=>⟨by have l1:=G30.out.kp Kp.typ e;have e1:=G30.out.fault_of e;have l2:=G20.out.shr Shr.name e1;have e2:=G20.out.fault_of e1;have l3:=G17.out.kp (Shr.must _).kp e2;have l4:=(HF.out H0a.out).1;have l5:=congrArg RSt.i Hn14.out;omega,D32.out e⟩⟩
    ·
     have l0: ¬(0:Int)<(ps.length:Int):=by omega
     have Hl0:=zh hl0
     clear hl0
     have RC:=zh (show Res=runR T (PR.bind nameR fun n=>PR.bind peekR fun t=>PR.bind typR fun y=>paramQ (blockR d) tp s k' ps n t y) st14 from R14i.out.trans (by unfold commaR;rw [if_neg Hl0.out];rfl))
     have gf16_0:=ca0 K_f15.out
     have gf16_1:=ca1 K_f15.out
     have gf16_2:=ca2 K_f15.out
     have gf16_3:=ca3 K_f15.out
     have gf16_z:=cz K_f15.out
     go_wp2_with fail
     clear gf16_0 gf16_1 gf16_2 gf16_3 gf16_z
     refine (readName_any H15.out B15.out D14i.out).mono ?_
     rintro en w17x ⟨n,st17,rfl,hsz_n,h17,hs17,hg17⟩
     have hz18:=hs17.size
     have K_r18:=zh ((hs17.block w.heap.size (by omega) (by omega)).trans K_r15.out)
     have K_f18:=zh ((hs17.block b_f (by omega) (by omega)).trans K_f15.out)
     have H18:=zh h17
     have B18:=zh (B15.out.box hs17)
     have S18:=zh (S15.out.trans hs17)
     have Q18:=zh (Q15.out.trans hs17)
     have R19:=zh (hg17.next RC.out)
     have D19:=zh (show st17.fault=0→st17.depth=30 - (d:Int) from fun e=>hg17.dep_eq e)
     have G17:=zh hg17
     clear h17 hs17 hg17
     have Hn:=zh hsz_n
     clear hsz_n
     obtain ⟨b_p,hb_p⟩: ∃ b_p,b_p=w17x.heap.size:=⟨_,rfl⟩
     have hs20:Since (fun _=>False) (w17x) (w17x.alloc (.cells #[.string n, .int .i64 0] 72)):=Since.alloc _ _ _
     have hw20:(w17x.alloc (.cells #[.string n, .int .i64 0] 72)).heap.size=b_p+1:=by rw [hb_p];simp
     have K_p20:RowKit.Hid ((w17x.alloc (.cells #[.string n, .int .i64 0] 72)).heap[b_p]?=some (.cells #[.string n, .int .i64 0] 72 (0,0))):=zh (by have e:b_p=(w17x).heap.size:=(by first|exact hb_p|(rw [hb_p];simp));have e2:=heap_alloc_new (w17x) (.cells #[.string n, .int .i64 0] 72);rw [←e] at e2;exact e2)
     have hz21:=hs20.size
     have K_r21:=zh ((hs20.block w.heap.size (by omega) (fun f=>f)).trans K_r18.out)
     have K_f21:=zh ((hs20.block b_f (by omega) (fun f=>f)).trans K_f18.out)
     have H21:=zh (H18.out.later hs20)
     have B21:=zh (B18.out.later hs20)
     have S21:RowKit.Hid (Since (fun k=>k=br) w (w17x.alloc (.cells #[.string n, .int .i64 0] 72))):=zh (S18.out.trans (hs20.mono (fun _ f=>f.elim)))
     have Q21:RowKit.Hid (Since (fun k=>k=br) wr (w17x.alloc (.cells #[.string n, .int .i64 0] 72))):=zh (Q18.out.trans (hs20.mono (fun _ f=>f.elim)))
     have hl_p:w17x.heap.size≤b_p:=by omega
     go_wp2_with fail
     rw [←hb_p]
     clear hb_p
     generalize w17x.alloc (.cells #[.string n, .int .i64 0] 72)=wg22 at *
     obtain ⟨k,hk⟩: ∃ k,seeR T st17=k:=⟨_,rfl⟩
     have hpk:=readPeek_any H21.out
     have rk:=peek_next R19.out
     rw [hk] at hpk rk
     obtain ⟨kk,ks,kn,kp⟩:=k
     have RK:=zh (show Res=runR T (PR.bind typR fun y=>paramQ (blockR d) tp s k' ps n ⟨kk,ks,kn,kp⟩ y) st17 from rk)
     have Hpk:=zh hpk
     clear hk hpk rk
     refine Hpk.out.mono ?_
     rintro en w1z ⟨rfl,hs1z⟩
     simp only [tokC]
     have hz23:=hs1z.size
     have K_r23:=zh ((hs1z.block w.heap.size (by omega) (fun f=>f)).trans K_r21.out)
     have K_f23:=zh ((hs1z.block b_f (by omega) (fun f=>f)).trans K_f21.out)
     have K_p23:=zh ((hs1z.block b_p (by omega) (fun f=>f)).trans K_p20.out)
     have H23:=zh (H21.out.later hs1z)
     have B23:=zh (B21.out.later hs1z)
     have S23:RowKit.Hid (Since (fun k=>k=br) w (w1z)):=zh (S21.out.trans (hs1z.mono (fun _ f=>f.elim)))
     have Q23:RowKit.Hid (Since (fun k=>k=br) wr (w1z)):=zh (Q21.out.trans (hs1z.mono (fun _ f=>f.elim)))
     clear hs1z
     obtain ⟨b_k,hb_k⟩: ∃ b_k,b_k=w1z.heap.size:=⟨_,rfl⟩
     have hs24:Since (fun _=>False) (w1z) (w1z.alloc (.cells #[.int .u8 kk, .string ks, .int .i64 kn, .int .i64 kp] 52)):=Since.alloc _ _ _
     have hw24:(w1z.alloc (.cells #[.int .u8 kk, .string ks, .int .i64 kn, .int .i64 kp] 52)).heap.size=b_k+1:=by rw [hb_k];simp
     have K_k24:RowKit.Hid ((w1z.alloc (.cells #[.int .u8 kk, .string ks, .int .i64 kn, .int .i64 kp] 52)).heap[b_k]?=some (.cells #[.int .u8 kk, .string ks, .int .i64 kn, .int .i64 kp] 52 (0,0))):=zh (by have e:b_k=(w1z).heap.size:=(by first|exact hb_k|(rw [hb_k];simp));have e2:=heap_alloc_new (w1z) (.cells #[.int .u8 kk, .string ks, .int .i64 kn, .int .i64 kp] 52);rw [←e] at e2;exact e2)
     have hz25:=hs24.size
     have K_r25:=zh ((hs24.block w.heap.size (by omega) (fun f=>f)).trans K_r23.out)
     have K_f25:=zh ((hs24.block b_f (by omega) (fun f=>f)).trans K_f23.out)
     have K_p25:=zh ((hs24.block b_p (by omega) (fun f=>f)).trans K_p23.out)
     have H25:=zh (H23.out.later hs24)
     have B25:=zh (B23.out.later hs24)
     have S25:RowKit.Hid (Since (fun k=>k=br) w (w1z.alloc (.cells #[.int .u8 kk, .string ks, .int .i64 kn, .int .i64 kp] 52))):=zh (S23.out.trans (hs24.mono (fun _ f=>f.elim)))
     have Q25:RowKit.Hid (Since (fun k=>k=br) wr (w1z.alloc (.cells #[.int .u8 kk, .string ks, .int .i64 kn, .int .i64 kp] 52))):=zh (Q23.out.trans (hs24.mono (fun _ f=>f.elim)))
     have hl_k:w1z.heap.size≤b_k:=by omega
     go_wp2_with fail
     rw [←hb_k]
     clear hb_k
     generalize w1z.alloc (.cells #[.int .u8 kk, .string ks, .int .i64 kn, .int .i64 kp] 52)=wg26 at *
     refine (readTyp_any H25.out D19.out).mono ?_
     rintro en w27x ⟨y,st27,rfl,hy27,h27,hs27,hg27⟩
     have hz28:=hs27.size
     have K_r28:=zh ((hs27.block w.heap.size (by omega) (by omega)).trans K_r25.out)
     have K_f28:=zh ((hs27.block b_f (by omega) (by omega)).trans K_f25.out)
     have K_p28:=zh ((hs27.block b_p (by omega) (by omega)).trans K_p25.out)
     have K_k28:=zh ((hs27.block b_k (by omega) (by omega)).trans K_k24.out)
     have H28:=zh h27
     have B28:=zh (B25.out.box hs27)
     have S28:=zh (S25.out.trans hs27)
     have Q28:=zh (Q25.out.trans hs27)
     have Hy:=zh hy27
     clear hy27
     have R29:=zh (hg27.next RK.out)
     have D29:=zh (show st27.fault=0→st27.depth=30 - (d:Int) from fun e=>hg27.dep_eq e)
     have G27:=zh hg27
     clear h27 hs27 hg27
     have gp30_0:=ca0 K_p28.out
     have gp30_1:=ca1 K_p28.out
     have gp30_z:=cz K_p28.out
     have hs31:Since (fun k=>k=b_p) (w27x) (w27x.setCell ⟨b_p,1,none⟩ (.int .i64 y)):=Since.setCell (w27x) ⟨b_p,1,none⟩ (.int .i64 y)
     have K_p31:RowKit.Hid ((w27x.setCell ⟨b_p,1,none⟩ (.int .i64 y)).heap[b_p]?=some (.cells #[.string n, .int .i64 y] 72 (0,0))):=zh (by have:=box_set K_p28.out 1 (.int .i64 y) (by simp);simpa using this)
     have hz32:=hs31.size
     have K_r32:=zh ((hs31.block w.heap.size (by omega) (by omega)).trans K_r28.out)
     have K_f32:=zh ((hs31.block b_f (by omega) (by omega)).trans K_f28.out)
     have K_k32:=zh ((hs31.block b_k (by omega) (by omega)).trans K_k28.out)
     have H32:=zh (H28.out.since hs31 (by omega) (by omega))
     have B32:=zh (B28.out.since hs31 (fun k e=>by omega))
     have S32:=zh (S28.out.then_new hs31 (fun k e=>Or.inr (by omega)))
     have Q32:=zh (Q28.out.then_new hs31 (fun k e=>Or.inr (by omega)))
     go_upto_region 11 with fail
     clear gp30_0 gp30_1 gp30_z
     generalize w27x.setCell ⟨b_p,1,none⟩ (.int .i64 y)=wg33 at *
     by_cases e1:y=0
     ·
      have f1:(y==0)=true:=by simp [e1]
      have E1:=zh e1
      clear e1
      by_cases e2:kk=101
      ·
       have f2:(kk==101)=true:=by simp [e2]
       have E2:=zh e2
       clear e2
       have gp34_0:=ca0 K_p31.out
       have gp34_1:=ca1 K_p31.out
       have gp34_z:=cz K_p31.out
       have gk35_0:=ca0 K_k32.out
       have gk35_1:=ca1 K_k32.out
       have gk35_2:=ca2 K_k32.out
       have gk35_3:=ca3 K_k32.out
       have gk35_z:=cz K_k32.out
       go_wp2_with fail
       clear gp34_0 gp34_1 gp34_z gk35_0 gk35_1 gk35_2 gk35_3 gk35_z
       refine (readWrong_any H32.out kp 5 (by decide)).mono ?_
       rintro en w36x ⟨rfl,h36,hs36⟩
       have hz37:=hs36.size
       have K_r37:=zh ((hs36.block w.heap.size (by omega) (by omega)).trans K_r32.out)
       have K_f37:=zh ((hs36.block b_f (by omega) (by omega)).trans K_f32.out)
       have K_p37:=zh ((hs36.block b_p (by omega) (by omega)).trans K_p31.out)
       have K_k37:=zh ((hs36.block b_k (by omega) (by omega)).trans K_k32.out)
       have H37:=zh h36
       have B37:=zh (B32.out.box hs36)
       have S37:=zh (S32.out.trans hs36)
       have Q37:=zh (Q32.out.trans hs36)
       clear h36 hs36
       have hnz:(st27.bad kp 5).fault≠0:=by
        unfold RSt.bad
        by_cases hz:st27.fault=0
        ·
         rw [if_pos hz];show (5:Int)≠0;decide
        ·
         rw [if_neg hz];exact hz
       have RP:=zh (show Res=runR T (PR.bind (paramsLoop k' (ps++[(n,y)])) (funcQ (blockR d) tp s)) (st27.bad kp 5) from by
        rw [runR_bad hnz,R29.out]
        unfold RSt.bad
        by_cases hz:st27.fault=0
        ·
         rw [if_pos hz,runR_ok hz]
         unfold paramQ
         rw [if_pos E1.out,if_pos E2.out]
         rfl
        ·
         rw [if_neg hz,runR_bad hz])
       have Hnz:=zh hnz
       clear hnz
       have gp38_0:=ca0 K_p37.out
       have gp38_1:=ca1 K_p37.out
       have gp38_z:=cz K_p37.out
       have gf39_0:=ca0 K_f37.out
       have gf39_1:=ca1 K_f37.out
       have gf39_2:=ca2 K_f37.out
       have gf39_3:=ca3 K_f37.out
       have gf39_z:=cz K_f37.out
       go_upto_region 16 with fail
       clear gp38_0 gp38_1 gp38_z gf39_0 gf39_1 gf39_2 gf39_3 gf39_z
       have hown4:=Q37.out.row Hown.out (fun k e f=>by have:=(Hown.out.lt k e).1;omega)
       have hx4:rP 0 (fun k=>wr.heap.size≤k) w36x [.string n, .int .i64 y] (n,y):=⟨rfl,Hn.out,by have:=Hy.out;constructor<;>omega⟩
       have Hown4:=zh hown4
       have Hx4:=zh hx4
       clear hown4 hx4
       have hbw4:B0≤w36x.heap.size:=by omega
       have gf40_0:=ca0 K_f37.out
       have gf40_1:=ca1 K_f37.out
       have gf40_2:=ca2 K_f37.out
       have gf40_3:=ca3 K_f37.out
       have gf40_z:=cz K_f37.out
       have gp41_0:=ca0 K_p37.out
       have gp41_1:=ca1 K_p37.out
       have gp41_z:=cz K_p37.out
       go_wp2_with (at_builtin;refine wpList_append_own_at _ rfl _ _ 33 rfl B0 72 ix _ 2 24 Tryd.underlying33 ii0 iz0 iz1 iz2 rfl (by decide) (.slice aC ps.length cC) ps.length ess.flatten rfl (Hown4.out.alloc _) ⟨w36x.heap.size,0,none⟩ 1 1 [.string n, .int .i64 y] rfl rfl (World.news_of_block (heap_alloc_new w36x _)) (by simp [Value.oneCell']) (by unfold maxLen;omega) (by omega) (by rw [World.size_alloc];omega) ?_;intro v5 w5 hown5 hg5 hnil5 hat5;clear hnil5;have HRow:=zh (RowG.push monoP Hown.out Hall.out Q37.out (fun k e=>by omega) Hx4.out rfl hown5 hg5 (by simpa using hat5) hbw);have Hs5:=zh ((Since.alloc (fun k=>(Value.slice aC ps.length cC).ownBlock=some k) w36x _).trans (Since.grown hg5));obtain ⟨aW,cW,rfl,-,-⟩:=row_slice hown5;have ks5:=(Hs5.out.block b_f (by omega) (fun f=>by have:=(Hown4.out.lt _ f).1;omega)).trans K_f37.out;have gs5:w5.cell? ⟨b_f,1,none⟩=some (.slice aC ps.length cC):=(by simp [World.cell?,ks5]);have gs5z: ∀ j,w5.frozen? ⟨b_f,j,none⟩=false:=fun j=>(by simp [World.frozen?,ks5]);have Ks5:=zh ks5;clear ks5 hown5 hg5 hat5)
       clear gf40_0 gf40_1 gf40_2 gf40_3 gf40_z gp41_0 gp41_1 gp41_z
       have hz5:=Hs5.out.size
       have ssC:Since (fun k=>k=b_f) w5 (w5.setCell ⟨b_f,1,none⟩ (.slice aW (ps.length+1) cW)):=Since.setCell w5 ⟨b_f,1,none⟩ _
       have hzC:=ssC.size
       have ksC:(w5.setCell ⟨b_f,1,none⟩ (.slice aW (ps.length+1) cW)).heap[b_f]?=some (.cells #[.string s, .slice aW (ps.length+1) cW, .int .i64 0, .slice none 0 0] 35 (0,0)):=by have:=box_set Ks5.out 1 (.slice aW (ps.length+1) cW) (by simp);simpa using this
       go_roundg k'
       case measure=>omega
       case rel=>exact ⟨ps++[(n,y)],(st27.bad kp 5), .slice aW (ps.length+1) cW,(H37.out.since Hs5.out (fun f=>by have:=(Hown4.out.lt _ f).1;omega) (fun f=>by have:=(Hown4.out.lt _ f).1;omega)).since ssC (by omega) (by omega),(B37.out.since Hs5.out (fun k f=>by have:=(Hown4.out.lt _ f).1;omega)).since ssC (fun k e=>by omega),(S37.out.then_new Hs5.out (fun k f=>Or.inr (by have:=(Hown4.out.lt _ f).1;omega))).then_new ssC (fun k e=>Or.inr (by omega)),((ssC.block w.heap.size (by omega) (by omega)).trans ((Hs5.out.block w.heap.size (by omega) (fun f=>by have:=(Hown4.out.lt _ f).1;omega)).trans K_r37.out)),ksC,rowG_since HRow.out ssC (fun k e=>by omega),by omega,by simp;omega,RP.out,fun e=>absurd e Hnz.out⟩
      ·
       have f2:(kk==101)=false:=by simp [e2]
       have E2:=zh e2
       clear e2
       have gp34_0:=ca0 K_p31.out
       have gp34_1:=ca1 K_p31.out
       have gp34_z:=cz K_p31.out
       have gk35_0:=ca0 K_k32.out
       have gk35_1:=ca1 K_k32.out
       have gk35_2:=ca2 K_k32.out
       have gk35_3:=ca3 K_k32.out
       have gk35_z:=cz K_k32.out
       go_wp2_with fail
       clear gp34_0 gp34_1 gp34_z gk35_0 gk35_1 gk35_2 gk35_3 gk35_z
       refine (readWrong_any H32.out kp 4 (by decide)).mono ?_
       rintro en w36x ⟨rfl,h36,hs36⟩
       have hz37:=hs36.size
       have K_r37:=zh ((hs36.block w.heap.size (by omega) (by omega)).trans K_r32.out)
       have K_f37:=zh ((hs36.block b_f (by omega) (by omega)).trans K_f32.out)
       have K_p37:=zh ((hs36.block b_p (by omega) (by omega)).trans K_p31.out)
       have K_k37:=zh ((hs36.block b_k (by omega) (by omega)).trans K_k32.out)
       have H37:=zh h36
       have B37:=zh (B32.out.box hs36)
       have S37:=zh (S32.out.trans hs36)
       have Q37:=zh (Q32.out.trans hs36)
       clear h36 hs36
       have hnz:(st27.bad kp 4).fault≠0:=by
        unfold RSt.bad
        by_cases hz:st27.fault=0
        ·
         rw [if_pos hz];show (4:Int)≠0;decide
        ·
         rw [if_neg hz];exact hz
       have RP:=zh (show Res=runR T (PR.bind (paramsLoop k' (ps++[(n,y)])) (funcQ (blockR d) tp s)) (st27.bad kp 4) from by
        rw [runR_bad hnz,R29.out]
        unfold RSt.bad
        by_cases hz:st27.fault=0
        ·
         rw [if_pos hz,runR_ok hz]
         unfold paramQ
         rw [if_pos E1.out,if_neg E2.out]
         rfl
        ·
         rw [if_neg hz,runR_bad hz])
       have Hnz:=zh hnz
       clear hnz
       have gp38_0:=ca0 K_p37.out
       have gp38_1:=ca1 K_p37.out
       have gp38_z:=cz K_p37.out
       have gf39_0:=ca0 K_f37.out
       have gf39_1:=ca1 K_f37.out
       have gf39_2:=ca2 K_f37.out
       have gf39_3:=ca3 K_f37.out
       have gf39_z:=cz K_f37.out
       go_upto_region 16 with fail
       clear gp38_0 gp38_1 gp38_z gf39_0 gf39_1 gf39_2 gf39_3 gf39_z
       have hown4:=Q37.out.row Hown.out (fun k e f=>by have:=(Hown.out.lt k e).1;omega)
       have hx4:rP 0 (fun k=>wr.heap.size≤k) w36x [.string n, .int .i64 y] (n,y):=⟨rfl,Hn.out,by have:=Hy.out;constructor<;>omega⟩
       have Hown4:=zh hown4
       have Hx4:=zh hx4
       clear hown4 hx4
       have hbw4:B0≤w36x.heap.size:=by omega
       have gf40_0:=ca0 K_f37.out
       have gf40_1:=ca1 K_f37.out
       have gf40_2:=ca2 K_f37.out
       have gf40_3:=ca3 K_f37.out
       have gf40_z:=cz K_f37.out
       have gp41_0:=ca0 K_p37.out
       have gp41_1:=ca1 K_p37.out
       have gp41_z:=cz K_p37.out
       go_wp2_with (at_builtin;refine wpList_append_own_at _ rfl _ _ 33 rfl B0 72 ix _ 2 24 Tryd.underlying33 ii0 iz0 iz1 iz2 rfl (by decide) (.slice aC ps.length cC) ps.length ess.flatten rfl (Hown4.out.alloc _) ⟨w36x.heap.size,0,none⟩ 1 1 [.string n, .int .i64 y] rfl rfl (World.news_of_block (heap_alloc_new w36x _)) (by simp [Value.oneCell']) (by unfold maxLen;omega) (by omega) (by rw [World.size_alloc];omega) ?_;intro v5 w5 hown5 hg5 hnil5 hat5;clear hnil5;have HRow:=zh (RowG.push monoP Hown.out Hall.out Q37.out (fun k e=>by omega) Hx4.out rfl hown5 hg5 (by simpa using hat5) hbw);have Hs5:=zh ((Since.alloc (fun k=>(Value.slice aC ps.length cC).ownBlock=some k) w36x _).trans (Since.grown hg5));obtain ⟨aW,cW,rfl,-,-⟩:=row_slice hown5;have ks5:=(Hs5.out.block b_f (by omega) (fun f=>by have:=(Hown4.out.lt _ f).1;omega)).trans K_f37.out;have gs5:w5.cell? ⟨b_f,1,none⟩=some (.slice aC ps.length cC):=(by simp [World.cell?,ks5]);have gs5z: ∀ j,w5.frozen? ⟨b_f,j,none⟩=false:=fun j=>(by simp [World.frozen?,ks5]);have Ks5:=zh ks5;clear ks5 hown5 hg5 hat5)
       clear gf40_0 gf40_1 gf40_2 gf40_3 gf40_z gp41_0 gp41_1 gp41_z
       have hz5:=Hs5.out.size
       have ssC:Since (fun k=>k=b_f) w5 (w5.setCell ⟨b_f,1,none⟩ (.slice aW (ps.length+1) cW)):=Since.setCell w5 ⟨b_f,1,none⟩ _
       have hzC:=ssC.size
       have ksC:(w5.setCell ⟨b_f,1,none⟩ (.slice aW (ps.length+1) cW)).heap[b_f]?=some (.cells #[.string s, .slice aW (ps.length+1) cW, .int .i64 0, .slice none 0 0] 35 (0,0)):=by have:=box_set Ks5.out 1 (.slice aW (ps.length+1) cW) (by simp);simpa using this
       go_roundg k'
       case measure=>omega
       case rel=>exact ⟨ps++[(n,y)],(st27.bad kp 4), .slice aW (ps.length+1) cW,(H37.out.since Hs5.out (fun f=>by have:=(Hown4.out.lt _ f).1;omega) (fun f=>by have:=(Hown4.out.lt _ f).1;omega)).since ssC (by omega) (by omega),(B37.out.since Hs5.out (fun k f=>by have:=(Hown4.out.lt _ f).1;omega)).since ssC (fun k e=>by omega),(S37.out.then_new Hs5.out (fun k f=>Or.inr (by have:=(Hown4.out.lt _ f).1;omega))).then_new ssC (fun k e=>Or.inr (by omega)),((ssC.block w.heap.size (by omega) (by omega)).trans ((Hs5.out.block w.heap.size (by omega) (fun f=>by have:=(Hown4.out.lt _ f).1;omega)).trans K_r37.out)),ksC,rowG_since HRow.out ssC (fun k e=>by omega),by omega,by simp;omega,RP.out,fun e=>absurd e Hnz.out⟩
     ·
      have f1:(y==0)=false:=by simp [e1]
      have E1:=zh e1
      clear e1
      have RP:=zh (show Res=runR T (PR.bind (paramsLoop k' (ps++[(n,y)])) (funcQ (blockR d) tp s)) st27 from R29.out.trans (by unfold paramQ;rw [if_neg E1.out]))
      have gp34_0:=ca0 K_p31.out
      have gp34_1:=ca1 K_p31.out
      have gp34_z:=cz K_p31.out
      have gf35_0:=ca0 K_f32.out
      have gf35_1:=ca1 K_f32.out
      have gf35_2:=ca2 K_f32.out
      have gf35_3:=ca3 K_f32.out
      have gf35_z:=cz K_f32.out
      go_upto_region 16 with fail
      clear gp34_0 gp34_1 gp34_z gf35_0 gf35_1 gf35_2 gf35_3 gf35_z
      have hown4:=Q32.out.row Hown.out (fun k e f=>by have:=(Hown.out.lt k e).1;omega)
      have hx4:rP 0 (fun k=>wr.heap.size≤k) wg33 [.string n, .int .i64 y] (n,y):=⟨rfl,Hn.out,by have:=Hy.out;constructor<;>omega⟩
      have Hown4:=zh hown4
      have Hx4:=zh hx4
      clear hown4 hx4
      have hbw4:B0≤wg33.heap.size:=by omega
      have gf36_0:=ca0 K_f32.out
      have gf36_1:=ca1 K_f32.out
      have gf36_2:=ca2 K_f32.out
      have gf36_3:=ca3 K_f32.out
      have gf36_z:=cz K_f32.out
      have gp37_0:=ca0 K_p31.out
      have gp37_1:=ca1 K_p31.out
      have gp37_z:=cz K_p31.out
      go_wp2_with (at_builtin;refine wpList_append_own_at _ rfl _ _ 33 rfl B0 72 ix _ 2 24 Tryd.underlying33 ii0 iz0 iz1 iz2 rfl (by decide) (.slice aC ps.length cC) ps.length ess.flatten rfl (Hown4.out.alloc _) ⟨wg33.heap.size,0,none⟩ 1 1 [.string n, .int .i64 y] rfl rfl (World.news_of_block (heap_alloc_new wg33 _)) (by simp [Value.oneCell']) (by unfold maxLen;omega) (by omega) (by rw [World.size_alloc];omega) ?_;intro v5 w5 hown5 hg5 hnil5 hat5;clear hnil5;have HRow:=zh (RowG.push monoP Hown.out Hall.out Q32.out (fun k e=>by omega) Hx4.out rfl hown5 hg5 (by simpa using hat5) hbw);have Hs5:=zh ((Since.alloc (fun k=>(Value.slice aC ps.length cC).ownBlock=some k) wg33 _).trans (Since.grown hg5));obtain ⟨aW,cW,rfl,-,-⟩:=row_slice hown5;have ks5:=(Hs5.out.block b_f (by omega) (fun f=>by have:=(Hown4.out.lt _ f).1;omega)).trans K_f32.out;have gs5:w5.cell? ⟨b_f,1,none⟩=some (.slice aC ps.length cC):=(by simp [World.cell?,ks5]);have gs5z: ∀ j,w5.frozen? ⟨b_f,j,none⟩=false:=fun j=>(by simp [World.frozen?,ks5]);have Ks5:=zh ks5;clear ks5 hown5 hg5 hat5)
      clear gf36_0 gf36_1 gf36_2 gf36_3 gf36_z gp37_0 gp37_1 gp37_z
      have hz5:=Hs5.out.size
      have ssC:Since (fun k=>k=b_f) w5 (w5.setCell ⟨b_f,1,none⟩ (.slice aW (ps.length+1) cW)):=Since.setCell w5 ⟨b_f,1,none⟩ _
      have hzC:=ssC.size
      have ksC:(w5.setCell ⟨b_f,1,none⟩ (.slice aW (ps.length+1) cW)).heap[b_f]?=some (.cells #[.string s, .slice aW (ps.length+1) cW, .int .i64 0, .slice none 0 0] 35 (0,0)):=by have:=box_set Ks5.out 1 (.slice aW (ps.length+1) cW) (by simp);simpa using this
      go_roundg k'
      case measure=>omega
      case rel=>exact ⟨ps++[(n,y)],st27, .slice aW (ps.length+1) cW,(H32.out.since Hs5.out (fun f=>by have:=(Hown4.out.lt _ f).1;omega) (fun f=>by have:=(Hown4.out.lt _ f).1;omega)).since ssC (by omega) (by omega),(B32.out.since Hs5.out (fun k f=>by have:=(Hown4.out.lt _ f).1;omega)).since ssC (fun k e=>by omega),(S32.out.then_new Hs5.out (fun k f=>Or.inr (by have:=(Hown4.out.lt _ f).1;omega))).then_new ssC (fun k e=>Or.inr (by omega)),((ssC.block w.heap.size (by omega) (by omega)).trans ((Hs5.out.block w.heap.size (by omega) (fun f=>by have:=(Hown4.out.lt _ f).1;omega)).trans K_r32.out)),ksC,rowG_since HRow.out ssC (fun k e=>by omega),by omega,by simp;omega,RP.out,fun e=>⟨by have l1:=G27.out.kp Kp.typ e;have e1:=G27.out.fault_of e;have l2:=G17.out.shr Shr.name e1;have e2:=G17.out.fault_of e1;have l4:=(HF.out H0a.out).1;have l5:=congrArg RSt.i Hn14.out;omega,D29.out e⟩⟩
  ·
   have f0:(sc.fault==0)=false:=by simpa using h0
   have Hfz:=zh h0
   clear h0
   have RB:=zh (HR.out.trans (run_fault (q:=funcQ (blockR d) tp s ps) Hfz.out))
   have DB:=zh (show sc.fault=0→sc.depth=30 - (d:Int) from fun e=>(HF.out e).2)
   have X_ps0:RowKit.Hid (rPs (fun k=>B0≤k∧k<wr.heap.size) wr [.slice aC ps.length cC] ps):=zh (by obtain ⟨dd,hh⟩:=Hreads.out;exact Go.Pst.Good.keep (R:=rSlice 2 rParam) ⟨Q0.out.size,fun k hk hS=>Q0.out.block k hk (by omega)⟩ (fun k h1 h2=>⟨h2,h1⟩) hh)
   have RTf:=zh (show Res=runR T (typQ (blockR d) s ps) sc from RB.out.trans (run_fault Hfz.out))
   go_wp2_with fail
   have RT:=zh (show Res=runR T (PR.bind typR fun k=>PR.bind (blockR d) fun b=>PR.ret ⟨s,ps,k,b⟩) sc from RTf.out)
   refine (readTyp_any H9.out DB.out).mono ?_
   rintro en w14x ⟨y,st14,rfl,hy14,h14,hs14,hg14⟩
   have hz15:=hs14.size
   have K_r15:=zh ((hs14.block w.heap.size (by omega) (by omega)).trans K_r9.out)
   have K_f15:=zh ((hs14.block b_f (by omega) (by omega)).trans K_f9.out)
   have X_ps15:RowKit.Hid (rPs (fun k=>B0≤k∧k<wr.heap.size) (w14x) [.slice aC ps.length cC] ps):=zh (Good.keep (R:=rPs) ⟨hs14.size,fun k hk hS=>hs14.block k hk (by omega)⟩ (fun _ _ h=>h) X_ps0.out)
   have H15:=zh h14
   have B15:=zh (B9.out.box hs14)
   have S15:=zh (S9.out.trans hs14)
   have Hy:=zh hy14
   clear hy14
   have R16:=zh (hg14.next RT.out)
   have D16:=zh (show st14.fault=0→st14.depth=30 - (d:Int) from fun e=>hg14.dep_eq e)
   clear h14 hs14 hg14
   have gf17_0:=ca0 K_f15.out
   have gf17_1:=ca1 K_f15.out
   have gf17_2:=ca2 K_f15.out
   have gf17_3:=ca3 K_f15.out
   have gf17_z:=cz K_f15.out
   have hs18:Since (fun k=>k=b_f) (w14x) (w14x.setCell ⟨b_f,2,none⟩ (.int .i64 y)):=Since.setCell (w14x) ⟨b_f,2,none⟩ (.int .i64 y)
   have K_f18:RowKit.Hid ((w14x.setCell ⟨b_f,2,none⟩ (.int .i64 y)).heap[b_f]?=some (.cells #[.string s, .slice aC ps.length cC, .int .i64 y, .slice none 0 0] 35 (0,0))):=zh (by have:=box_set K_f15.out 2 (.int .i64 y) (by simp);simpa using this)
   have hz19:=hs18.size
   have K_r19:=zh ((hs18.block w.heap.size (by omega) (by omega)).trans K_r15.out)
   have X_ps19:RowKit.Hid (rPs (fun k=>B0≤k∧k<wr.heap.size) (w14x.setCell ⟨b_f,2,none⟩ (.int .i64 y)) [.slice aC ps.length cC] ps):=zh (Good.keep (R:=rPs) ⟨hs18.size,fun k hk hS=>hs18.block k hk (by omega)⟩ (fun _ _ h=>h) X_ps15.out)
   have H19:=zh (H15.out.since hs18 (by omega) (by omega))
   have B19:=zh (B15.out.since hs18 (fun k e=>by omega))
   have S19:=zh (S15.out.then_new hs18 (fun k e=>Or.inr (by omega)))
   go_wp2_with fail
   clear gf17_0 gf17_1 gf17_2 gf17_3 gf17_z
   generalize w14x.setCell ⟨b_f,2,none⟩ (.int .i64 y)=wg20 at *
   refine (hK wg20 br bT cap base T st14 H19.out B19.out D16.out).mono ?_
   rintro en w21x ⟨v21,b,st21,rfl,hx21,h21,hs21,hg21⟩
   obtain ⟨a_b,c_b,rfl⟩:=rSs_shape hx21
   have hz22:=hs21.size
   have K_r22:=zh ((hs21.block w.heap.size (by omega) (by omega)).trans K_r19.out)
   have K_f22:=zh ((hs21.block b_f (by omega) (by omega)).trans K_f18.out)
   have X_ps22:RowKit.Hid (rPs (fun k=>B0≤k∧k<wr.heap.size) (w21x) [.slice aC ps.length cC] ps):=zh (Good.keep (R:=rPs) ⟨hs21.size,fun k hk hS=>hs21.block k hk (by omega)⟩ (fun _ _ h=>h) X_ps19.out)
   have H22:=zh h21
   have B22:=zh (B19.out.box hs21)
   have S22:=zh (S19.out.trans hs21)
   have X_b21:RowKit.Hid (rSs (fun k=>wg20.heap.size≤k∧k<w21x.heap.size) w21x [.slice a_b b.length c_b] b):=zh (Good.wide (R:=rSs) hx21 (fun k h1 h2=>⟨h2,h1⟩))
   clear hx21
   have R23:=zh (hg21.next R16.out)
   have D23:=zh (show st21.fault=0→st21.depth=30 - (d:Int) from fun e=>hg21.dep_eq e)
   clear h21 hs21 hg21
   have gf24_0:=ca0 K_f22.out
   have gf24_1:=ca1 K_f22.out
   have gf24_2:=ca2 K_f22.out
   have gf24_3:=ca3 K_f22.out
   have gf24_z:=cz K_f22.out
   have hs25:Since (fun k=>k=b_f) (w21x) (w21x.setCell ⟨b_f,3,none⟩ (.slice a_b b.length c_b)):=Since.setCell (w21x) ⟨b_f,3,none⟩ (.slice a_b b.length c_b)
   have K_f25:RowKit.Hid ((w21x.setCell ⟨b_f,3,none⟩ (.slice a_b b.length c_b)).heap[b_f]?=some (.cells #[.string s, .slice aC ps.length cC, .int .i64 y, .slice a_b b.length c_b] 35 (0,0))):=zh (by have:=box_set K_f22.out 3 (.slice a_b b.length c_b) (by simp);simpa using this)
   have hz26:=hs25.size
   have K_r26:=zh ((hs25.block w.heap.size (by omega) (by omega)).trans K_r22.out)
   have X_ps26:RowKit.Hid (rPs (fun k=>B0≤k∧k<wr.heap.size) (w21x.setCell ⟨b_f,3,none⟩ (.slice a_b b.length c_b)) [.slice aC ps.length cC] ps):=zh (Good.keep (R:=rPs) ⟨hs25.size,fun k hk hS=>hs25.block k hk (by omega)⟩ (fun _ _ h=>h) X_ps22.out)
   have X_b26:RowKit.Hid (rSs (fun k=>wg20.heap.size≤k∧k<w21x.heap.size) (w21x.setCell ⟨b_f,3,none⟩ (.slice a_b b.length c_b)) [.slice a_b b.length c_b] b):=zh (Good.keep (R:=rSs) ⟨hs25.size,fun k hk hS=>hs25.block k hk (by omega)⟩ (fun _ _ h=>h) X_b21.out)
   have H26:=zh (H22.out.since hs25 (by omega) (by omega))
   have B26:=zh (B22.out.since hs25 (fun k e=>by omega))
   have S26:=zh (S22.out.then_new hs25 (fun k e=>Or.inr (by omega)))
   go_upto_region 21 with fail
   clear gf24_0 gf24_1 gf24_2 gf24_3 gf24_z
   generalize w21x.setCell ⟨b_f,3,none⟩ (.slice a_b b.length c_b)=wg27 at *
   have gf28_0:=ca0 K_f25.out
   have gf28_1:=ca1 K_f25.out
   have gf28_2:=ca2 K_f25.out
   have gf28_3:=ca3 K_f25.out
   have gf28_z:=cz K_f25.out
   have gr29_0:=ca0 K_r26.out
   have gr29_1:=ca1 K_r26.out
   have gr29_2:=ca2 K_r26.out
   have gr29_3:=ca3 K_r26.out
   have gr29_z:=cz K_r26.out
   go_wp2_with fail
   obtain ⟨mb,ms⟩:=box4 (w:=wg27) K_r26.out (.string s) (.slice aC ps.length cC) (.int .i64 y) (.slice a_b b.length c_b)
   generalize hWW:(((wg27.setCell ⟨w.heap.size,0,none⟩ (.string s)).setCell ⟨w.heap.size,1,none⟩ (.slice aC ps.length cC)).setCell ⟨w.heap.size,2,none⟩ (.int .i64 y)).setCell ⟨w.heap.size,3,none⟩ (.slice a_b b.length c_b)=WW at *
   have m0:=ca0 mb
   have m1:=ca1 mb
   have m2:=ca2 mb
   have m3:=ca3 mb
   refine bodyPost_ret (v:= .agg #[.string s, .slice aC ps.length cC, .int .i64 y, .slice a_b b.length c_b]) (by simp [results,Tryd.results12,go_sem,m0,m1,m2,m3]) rfl ⟨_,⟨s,ps,y,b⟩,st21,rfl,(by obtain ⟨db,hb⟩:=X_b26.out;exact ⟨db,_,_,rfl,⟨Hs.out,(show InI y from ⟨by have:=Hy.out;omega,by have:=Hy.out;omega⟩)⟩,Go.Pst.Good.keep (R:=rSlice 2 rParam) ⟨ms.size,fun k hk hS=>ms.block k hk (by omega)⟩ (fun k hk hS=>by omega) X_ps26.out,Go.Pst.Good.keep (R:=rSlice 7 (rStmt db)) ⟨ms.size,fun k hk hS=>ms.block k hk (by omega)⟩ (fun k hk hS=>by omega) hb⟩),(H26.out).since ms (by omega) (by omega),(S26.out).then_new ms (fun k e=>Or.inr (by omega)),?_⟩
   exact Good'.end R23.out D23.out
end Go.Proofs.YtkopjgnjflhkeaaDoor

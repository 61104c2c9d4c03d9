import Derived.Test.YtkopjgnjflhkeaaDoorTX
import Derived.Deep.RegionLaw
import Derived.Deep.LoopGhost
namespace Go.Proofs.YtkopjgnjflhkeaaDoor
open Go.RowKit Go.Pst
set_option linter.unusedVariables false
set_option linter.unusedSimpArgs false
variable {w:World} {br bT cap base:Nat} {T:List Tok} {st:RSt} {dep:Int}
theorem bind_assoc {α β γ:Type} (p:PR α) (q:α→PR β) (g:β→PR γ):PR.bind (PR.bind p q) g=PR.bind p (fun x=>PR.bind (q x) g):=by
 funext r
 unfold PR.bind
 cases p r with
 |error e=>rfl
 |ok x=>rfl
theorem self_len {α β:Type} {T:List Tok} {st:RSt} {q:Nat→PR α} {g:α→PR β}:runR T (PR.bind (fun r=>q r.length r) g) st=runR T (PR.bind (q (T.length - st.i)) g) st:=by
 by_cases h:st.fault=0
 ·
  rw [runR_ok h,runR_ok h];unfold PR.bind;dsimp only;rw [List.length_drop]
 ·
  rw [runR_bad h,runR_bad h]
theorem run_fault {α:Type} {T:List Tok} {st:RSt} {p:PR α} {q:PR α} (h:st.fault≠0):runR T p st=runR T q st:=by rw [runR_bad h,runR_bad h]
theorem infoC:(Tryd.prog.info? 120).map (fun i=>(i.zero,i.size,i.bytes))=some (some (.agg #[.slice none 0 0, .slice none 0 0]),2,48):=by kernel_rfl
theorem infoN:(Tryd.prog.info? 3).map (fun i=>(i.zero,i.size,i.bytes))=some (some (.int .i64 0),1,8):=by kernel_rfl
theorem good_yesB {α β:Type} {T:List Tok} {dep:Int} {st st1:RSt} {Res:Except (Int × Int) (β × List Tok)} {s:ByteArray} {p q:PR α} {g:α→PR β} (h:Good' T dep (runR T (isR s) st) true st1) (e:Res=runR T (PR.bind (branchR s p q) g) st):Res=runR T (PR.bind p g) st1:=by
 unfold branchR at e
 rw [bind_assoc] at e
 exact h.next e
theorem good_noB {α β:Type} {T:List Tok} {dep:Int} {st st1:RSt} {Res:Except (Int × Int) (β × List Tok)} {s:ByteArray} {p q:PR α} {g:α→PR β} (h:Good' T dep (runR T (isR s) st) false st1) (e:Res=runR T (PR.bind (branchR s p q) g) st):Res=runR T (PR.bind q g) st1:=by
 unfold branchR at e
 rw [bind_assoc] at e
 exact h.next e
theorem rowG_since {α:Type} {R:Nat→Rep α} {sz:Nat} {w w':World} {base:Nat} {v:Value} {l:List α} {t:TypeId} {F:Nat→Prop} [∀ d,Go.Pst.Good (R d)] (h:RowG R sz w base v l t) (hs:Since F w w') (hF: ∀ k,F k→k<base):RowG R sz w' base v l t:=by
 obtain ⟨ess,h1,d,h2⟩:=h
 exact ⟨ess,hs.row h1 (fun k e f=>by have:=(h1.lt k e).1;have:=hF k f;omega),d,rAll_keep ⟨hs.size,fun k hk hS=>hs.block k hk (fun f=>by have:=hF k f;have:=hS.1;omega)⟩ (fun k hk hS=>hS) h2⟩
def casesQ (d:Nat) (x:PExpr) (cs:List (List Int × List PStmt)):PR PStmt:=PR.bind (branchR ⟨#[100,101,102,97,117,108,116]⟩ (PR.bind (mustR ⟨#[58]⟩) fun _=>blockR d) (PR.ret [])) fun e=>PR.bind (mustR ⟨#[125]⟩) fun _=>PR.ret (.mk 7 ⟨#[]⟩ ⟨#[]⟩ [x] [] e cs)
def numsQ (d:Nat) (x:PExpr) (k:Nat) (cs:List (List Int × List PStmt)) (ns:List Int):PR PStmt:=PR.bind (mustR ⟨#[58]⟩) fun _=>PR.bind (blockR d) fun b=>PR.bind (caseLoop (blockR d) k (cs++[(ns,b)])) (casesQ d x)
theorem case_split (d:Nat) (x:PExpr) (k:Nat) (cs:List (List Int × List PStmt)):PR.bind (PR.bind (fun r=>numsLoop r.length [] r) fun ns=>PR.bind (mustR ⟨#[58]⟩) fun _=>PR.bind (blockR d) fun b=>caseLoop (blockR d) k (cs++[(ns,b)])) (casesQ d x)=PR.bind (fun r=>numsLoop r.length [] r) (numsQ d x k cs):=by
 rw [bind_assoc]
 congr 1
 funext ns
 rw [bind_assoc]
 unfold numsQ
 congr 1
 funext u
 rw [bind_assoc]
set_option maxRecDepth 4000 in
set_option maxHeartbeats 8000000 in
theorem readCases_any (d:Nat) (hE:ExprOK d) (hK:BlockOK d) (h:RdAt w br bT cap T st) (hL:RdLaid w base br) (h0:st.fault=0) (hd:st.depth=30 - (d:Int)):
 Calls Tryd.prog 63 #[.pointer (some ⟨br,0,none⟩)] w (RdS w br bT cap T (30 - (d:Int)) (casesG (exprR d) (blockR d) (T.drop st.i))):=by
 obtain ⟨ix,ii0,iz0,iz1,iz2⟩:=info_parts infoC
 obtain ⟨jx,ji0,jz0,jz1,jz2⟩:=info_parts infoN
 have hbr:=h.lt.1
 have hbT:=h.lt.2
 obtain ⟨Res,hres⟩: ∃ Res,Res=casesG (exprR d) (blockR d) (T.drop st.i):=⟨_,rfl⟩
 rw [←hres]
 have hs0:Since (fun _=>False) w (w.alloc (.cells #[.int .i64 0, .string ⟨#[]⟩, .string ⟨#[]⟩, .slice none 0 0, .slice none 0 0, .slice none 0 0, .slice none 0 0] 32)):=Since.alloc _ _ _
 have hb0:(w.alloc (.cells #[.int .i64 0, .string ⟨#[]⟩, .string ⟨#[]⟩, .slice none 0 0, .slice none 0 0, .slice none 0 0, .slice none 0 0] 32)).heap[w.heap.size]?=some (.cells #[.int .i64 0, .string ⟨#[]⟩, .string ⟨#[]⟩, .slice none 0 0, .slice none 0 0, .slice none 0 0, .slice none 0 0] 32 (0,0)):=heap_alloc_new w _
 have hlb:=hL.lb.2
 have hA:=h.later hs0
 have hB:=hL.later hs0
 have hlt0:w.heap.size<(w.alloc (.cells #[.int .i64 0, .string ⟨#[]⟩, .string ⟨#[]⟩, .slice none 0 0, .slice none 0 0, .slice none 0 0, .slice none 0 0] 32)).heap.size:=by simp
 have HA:=zh hA
 have HB:=zh hB
 have K_r0:=zh hb0
 have S0:=zh (show Since (fun k=>k=br) w (w.alloc (.cells #[.int .i64 0, .string ⟨#[]⟩, .string ⟨#[]⟩, .slice none 0 0, .slice none 0 0, .slice none 0 0, .slice none 0 0] 32)) from hs0.mono (fun _ f=>f.elim))
 have D0:=zh (show st.fault=0→st.depth=30 - (d:Int) from fun _=>hd)
 have R0:RowKit.Hid (Res=runR T _ st):=zh (hres.trans (runR_ok (T:=T) h0).symm)
 have H0:=zh h0
 clear h hL hA hB hb0 hs0 hres h0 hd
 go_enter Tryd.func63,Tryd.ntmps63
 go_wp2_with fail
 generalize w.alloc (.cells #[.int .i64 0, .string ⟨#[]⟩, .string ⟨#[]⟩, .slice none 0 0, .slice none 0 0, .slice none 0 0, .slice none 0 0] 32)=w0 at *
 refine (hE w0 br bT cap base T st HA.out HB.out D0.out).mono ?_
 rintro en w1x ⟨cs1,x,st1,rfl,hx1,h1,hs1,hg1⟩
 obtain ⟨a_x,c_x,rfl⟩:=rX_shape hx1
 have hz2:=hs1.size
 have K_r2:=zh ((hs1.block w.heap.size (by omega) (by omega)).trans K_r0.out)
 have H2:=zh h1
 have B2:=zh (HB.out.box hs1)
 have S2:=zh (S0.out.trans hs1)
 have X_x1:RowKit.Hid (rX (fun k=>w0.heap.size≤k∧k<w1x.heap.size) w1x [.int .i64 x.kind, .int .i64 x.n, .string x.s, .slice a_x x.args.length c_x] x):=zh (Good.wide (R:=rX) hx1 (fun k h1 h2=>⟨h2,h1⟩))
 clear hx1
 have R3:=zh (hg1.next R0.out)
 have D3:=zh (show st1.fault=0→st1.depth=30 - (d:Int) from fun e=>hg1.dep_eq e)
 clear h1 hs1 hg1
 obtain ⟨b_xs,hb_xs⟩: ∃ b_xs,b_xs=w1x.heap.size:=⟨_,rfl⟩
 obtain ⟨b_s,hb_s⟩: ∃ b_s,b_s=w1x.heap.size+1:=⟨_,rfl⟩
 have hs4:Since (fun _=>False) (w1x) (w1x.alloc (.cells #[.int .i64 x.kind, .int .i64 x.n, .string x.s, .slice a_x x.args.length c_x] 28)):=Since.alloc _ _ _
 have hw4:(w1x.alloc (.cells #[.int .i64 x.kind, .int .i64 x.n, .string x.s, .slice a_x x.args.length c_x] 28)).heap.size=b_xs+1:=by rw [hb_xs];simp
 have K_xs4:RowKit.Hid ((w1x.alloc (.cells #[.int .i64 x.kind, .int .i64 x.n, .string x.s, .slice a_x x.args.length c_x] 28)).heap[b_xs]?=some (.cells #[.int .i64 x.kind, .int .i64 x.n, .string x.s, .slice a_x x.args.length c_x] 28 (0,0))):=zh (by have e:b_xs=(w1x).heap.size:=(by first|exact hb_xs|(rw [hb_xs];simp));have e2:=heap_alloc_new (w1x) (.cells #[.int .i64 x.kind, .int .i64 x.n, .string x.s, .slice a_x x.args.length c_x] 28);rw [←e] at e2;exact e2)
 have hz5:=hs4.size
 have K_r5:=zh ((hs4.block w.heap.size (by omega) (fun f=>f)).trans K_r2.out)
 have X_x5:RowKit.Hid (rX (fun k=>w0.heap.size≤k∧k<w1x.heap.size) (w1x.alloc (.cells #[.int .i64 x.kind, .int .i64 x.n, .string x.s, .slice a_x x.args.length c_x] 28)) [.int .i64 x.kind, .int .i64 x.n, .string x.s, .slice a_x x.args.length c_x] x):=zh (Good.keep (R:=rX) ⟨hs4.size,fun k hk hS=>hs4.block k hk (fun f=>f)⟩ (fun _ _ h=>h) X_x1.out)
 have H5:=zh (H2.out.later hs4)
 have B5:=zh (B2.out.later hs4)
 have S5:RowKit.Hid (Since (fun k=>k=br) w (w1x.alloc (.cells #[.int .i64 x.kind, .int .i64 x.n, .string x.s, .slice a_x x.args.length c_x] 28))):=zh (S2.out.trans (hs4.mono (fun _ f=>f.elim)))
 have hs6:Since (fun _=>False) (w1x.alloc (.cells #[.int .i64 x.kind, .int .i64 x.n, .string x.s, .slice a_x x.args.length c_x] 28)) ((w1x.alloc (.cells #[.int .i64 x.kind, .int .i64 x.n, .string x.s, .slice a_x x.args.length c_x] 28)).alloc (.cells #[.int .i64 7, .string ⟨#[]⟩, .string ⟨#[]⟩, .slice (some ⟨b_xs,0,none⟩) 1 1, .slice none 0 0, .slice none 0 0, .slice none 0 0] 32)):=Since.alloc _ _ _
 have hw6:((w1x.alloc (.cells #[.int .i64 x.kind, .int .i64 x.n, .string x.s, .slice a_x x.args.length c_x] 28)).alloc (.cells #[.int .i64 7, .string ⟨#[]⟩, .string ⟨#[]⟩, .slice (some ⟨b_xs,0,none⟩) 1 1, .slice none 0 0, .slice none 0 0, .slice none 0 0] 32)).heap.size=b_s+1:=by rw [hb_s];simp
 have K_s6:RowKit.Hid (((w1x.alloc (.cells #[.int .i64 x.kind, .int .i64 x.n, .string x.s, .slice a_x x.args.length c_x] 28)).alloc (.cells #[.int .i64 7, .string ⟨#[]⟩, .string ⟨#[]⟩, .slice (some ⟨b_xs,0,none⟩) 1 1, .slice none 0 0, .slice none 0 0, .slice none 0 0] 32)).heap[b_s]?=some (.cells #[.int .i64 7, .string ⟨#[]⟩, .string ⟨#[]⟩, .slice (some ⟨b_xs,0,none⟩) 1 1, .slice none 0 0, .slice none 0 0, .slice none 0 0] 32 (0,0))):=zh (by have e:b_s=(w1x.alloc (.cells #[.int .i64 x.kind, .int .i64 x.n, .string x.s, .slice a_x x.args.length c_x] 28)).heap.size:=(by first|exact hb_s|(rw [hb_s];simp));have e2:=heap_alloc_new (w1x.alloc (.cells #[.int .i64 x.kind, .int .i64 x.n, .string x.s, .slice a_x x.args.length c_x] 28)) (.cells #[.int .i64 7, .string ⟨#[]⟩, .string ⟨#[]⟩, .slice (some ⟨b_xs,0,none⟩) 1 1, .slice none 0 0, .slice none 0 0, .slice none 0 0] 32);rw [←e] at e2;exact e2)
 have hz7:=hs6.size
 have K_r7:=zh ((hs6.block w.heap.size (by omega) (fun f=>f)).trans K_r5.out)
 have K_xs7:=zh ((hs6.block b_xs (by omega) (fun f=>f)).trans K_xs4.out)
 have X_x7:RowKit.Hid (rX (fun k=>w0.heap.size≤k∧k<w1x.heap.size) ((w1x.alloc (.cells #[.int .i64 x.kind, .int .i64 x.n, .string x.s, .slice a_x x.args.length c_x] 28)).alloc (.cells #[.int .i64 7, .string ⟨#[]⟩, .string ⟨#[]⟩, .slice (some ⟨b_xs,0,none⟩) 1 1, .slice none 0 0, .slice none 0 0, .slice none 0 0] 32)) [.int .i64 x.kind, .int .i64 x.n, .string x.s, .slice a_x x.args.length c_x] x):=zh (Good.keep (R:=rX) ⟨hs6.size,fun k hk hS=>hs6.block k hk (fun f=>f)⟩ (fun _ _ h=>h) X_x5.out)
 have H7:=zh (H5.out.later hs6)
 have B7:=zh (B5.out.later hs6)
 have S7:RowKit.Hid (Since (fun k=>k=br) w ((w1x.alloc (.cells #[.int .i64 x.kind, .int .i64 x.n, .string x.s, .slice a_x x.args.length c_x] 28)).alloc (.cells #[.int .i64 7, .string ⟨#[]⟩, .string ⟨#[]⟩, .slice (some ⟨b_xs,0,none⟩) 1 1, .slice none 0 0, .slice none 0 0, .slice none 0 0] 32))):=zh (S5.out.trans (hs6.mono (fun _ f=>f.elim)))
 have ho_xs:b_xs<b_s:=by omega
 have hl_xs:w1x.heap.size≤b_xs:=by omega
 have hl_s:w1x.heap.size≤b_s:=by omega
 go_wp2_with fail
 rw [←hb_s]
 rw [←hb_xs]
 clear hb_xs
 clear hb_s
 generalize (w1x.alloc (.cells #[.int .i64 x.kind, .int .i64 x.n, .string x.s, .slice a_x x.args.length c_x] 28)).alloc (.cells #[.int .i64 7, .string ⟨#[]⟩, .string ⟨#[]⟩, .slice (some ⟨b_xs,0,none⟩) 1 1, .slice none 0 0, .slice none 0 0, .slice none 0 0] 32)=wg8 at *
 refine (readMust_any H7.out D3.out ⟨#[123]⟩).mono ?_
 rintro en w9x ⟨st9,rfl,h9,hs9,hg9⟩
 have hz10:=hs9.size
 have K_r10:=zh ((hs9.block w.heap.size (by omega) (by omega)).trans K_r7.out)
 have K_xs10:=zh ((hs9.block b_xs (by omega) (by omega)).trans K_xs7.out)
 have K_s10:=zh ((hs9.block b_s (by omega) (by omega)).trans K_s6.out)
 have X_x10:RowKit.Hid (rX (fun k=>w0.heap.size≤k∧k<w1x.heap.size) (w9x) [.int .i64 x.kind, .int .i64 x.n, .string x.s, .slice a_x x.args.length c_x] x):=zh (Good.keep (R:=rX) ⟨hs9.size,fun k hk hS=>hs9.block k hk (by omega)⟩ (fun _ _ h=>h) X_x7.out)
 have H10:=zh h9
 have B10:=zh (B7.out.box hs9)
 have S10:=zh (S7.out.trans hs9)
 have R11:=zh (hg9.next R3.out)
 have D11:=zh (show st9.fault=0→st9.depth=30 - (d:Int) from fun e=>hg9.dep_eq e)
 clear h9 hs9 hg9
 have HR0:=zh (show Res=runR T (PR.bind (caseLoop (blockR d) (T.length - st9.i) []) (casesQ d x)) st9 from R11.out.trans (self_len (q:=fun n=>caseLoop (blockR d) n []) (g:=casesQ d x)))
 have hT:=H10.out.toks.len
 obtain ⟨B0,hB0⟩: ∃ B0,B0=w9x.heap.size:=⟨_,rfl⟩
 have hsB:b_s<B0:=by omega
 have hB0':B0≤w9x.heap.size:=by omega
 clear hB0
 go_wp2_with fail
 go_loopg [] (T.length - st9.i) (fun k wr=> ∃ (cs:List (List Int × List PStmt)) (sc:RSt) (vC:Value),RdAt wr br bT cap T sc∧RdLaid wr base br∧Since (fun k=>k=br) w wr∧wr.heap[w.heap.size]?=some (.cells #[.int .i64 0, .string ⟨#[]⟩, .string ⟨#[]⟩, .slice none 0 0, .slice none 0 0, .slice none 0 0, .slice none 0 0] 32 (0,0))∧wr.heap[b_s]?=some (.cells #[.int .i64 7, .string ⟨#[]⟩, .string ⟨#[]⟩, .slice (some ⟨b_xs,0,none⟩) 1 1, .slice none 0 0, .slice none 0 0,vC] 32 (0,0))∧wr.heap[b_xs]?=some (.cells #[.int .i64 x.kind, .int .i64 x.n, .string x.s, .slice a_x x.args.length c_x] 28 (0,0))∧rX (fun k=>w0.heap.size≤k∧k<w1x.heap.size) wr [.int .i64 x.kind, .int .i64 x.n, .string x.s, .slice a_x x.args.length c_x] x∧RowG rCaseD 2 wr B0 vC cs 120∧B0≤wr.heap.size∧cs.length+k≤T.length∧Res=runR T (PR.bind (caseLoop (blockR d) k cs) (casesQ d x)) sc∧(sc.fault=0→T.length - sc.i≤k∧sc.depth=30 - (d:Int)))
 case atStart=>exact ⟨[],st9, .slice none 0 0,H10.out,B10.out,S10.out,K_r10.out,K_s10.out,K_xs10.out,X_x10.out,RowG.nil _ _ _ _ _,hB0',by simp,HR0.out,fun e=>⟨Nat.le_refl _,D11.out e⟩⟩
 case round=>
  obtain ⟨wo,hwo⟩: ∃ wo,wo=wr:=⟨_,rfl⟩
  subst hwo
  obtain ⟨cs,sc,vC,hA,hB,hS,kr,ks,kxs,hx,⟨ess,hown,DD,hall⟩,hbw,hlen,hR,hF⟩:=hrel
  obtain ⟨aC,cC,rfl,hcc1,hcc2⟩:=row_slice hown
  have c3:=hA.c3
  have Hreads:=zh (RowG.reads (R:=rCaseD) ⟨ess,hown,DD,hall⟩)
  have H9:=zh hA
  have B9:=zh hB
  have S9:=zh hS
  have K_r9:=zh kr
  have K_s9:=zh ks
  have K_xs9:=zh kxs
  have X_x9:=zh hx
  have Hown:=zh hown
  have Hall:=zh hall
  have HR:=zh hR
  have HF:=zh hF
  clear hA hB hS kr ks kxs hx hown hall hR hF
  by_cases h0:sc.fault=0
  ·
   have f0:(sc.fault==0)=true:=by simpa using h0
   have hi:=H9.out.inn h0
   obtain ⟨k',rfl⟩: ∃ k',gk=k'+1:=⟨gk - 1,by have:=(HF.out h0).1;omega⟩
   have Hi:=zh hi
   have H0a:=zh h0
   have RA:=zh (show Res=runR T (PR.bind (branchR ⟨#[99,97,115,101]⟩ (PR.bind (fun r=>numsLoop r.length [] r) fun ns=>PR.bind (mustR ⟨#[58]⟩) fun _=>PR.bind (blockR d) fun b=>caseLoop (blockR d) k' (cs++[(ns,b)])) (PR.ret cs)) (casesQ d x)) sc from HR.out)
   have DA:=zh (show sc.fault=0→sc.depth=30 - (d:Int) from fun e=>(HF.out e).2)
   clear h0 hi
   have Q0:=zh (Since.refl (fun k=>k=br) wo)
   go_wp2_with fail
   refine (readIs_any H9.out DA.out ⟨#[99,97,115,101]⟩).mono ?_
   rintro en w12x ⟨b12,st12,rfl,h12,hs12,hg12,hf12,hy12,hn12⟩
   have hz13:=hs12.size
   have K_r13:=zh ((hs12.block w.heap.size (by omega) (by omega)).trans K_r9.out)
   have K_xs13:=zh ((hs12.block b_xs (by omega) (by omega)).trans K_xs9.out)
   have K_s13:=zh ((hs12.block b_s (by omega) (by omega)).trans K_s9.out)
   have X_x13:RowKit.Hid (rX (fun k=>w0.heap.size≤k∧k<w1x.heap.size) (w12x) [.int .i64 x.kind, .int .i64 x.n, .string x.s, .slice a_x x.args.length c_x] x):=zh (Good.keep (R:=rX) ⟨hs12.size,fun k hk hS=>hs12.block k hk (by omega)⟩ (fun _ _ h=>h) X_x9.out)
   have H13:=zh h12
   have B13:=zh (B9.out.box hs12)
   have S13:=zh (S9.out.trans hs12)
   have Q13:=zh (Q0.out.trans hs12)
   have D12i:=zh (show st12.fault=0→st12.depth=30 - (d:Int) from fun e=>hg12.dep_eq e)
   have Hf12:=zh hf12
   clear h12 hs12 hf12
   cases b12 with
   |true=>
    have R12i:=zh (good_yesB hg12 RA.out)
    have Hy12:=zh (hy12 rfl).1
    have Hyi12:=zh (hy12 rfl).2
    clear hg12 hy12 hn12
    have RY:=zh (show Res=runR T (PR.bind (numsLoop (T.length - st12.i) []) (numsQ d x k' cs)) st12 from (R12i.out.trans (by rw [case_split])).trans (self_len (q:=fun n=>numsLoop n []) (g:=numsQ d x k' cs)))
    have hbA:w12x.heap.size=w12x.heap.size:=rfl
    obtain ⟨b_c,hb_c⟩: ∃ b_c,b_c=w12x.heap.size:=⟨_,rfl⟩
    have hs14:Since (fun _=>False) (w12x) (w12x.alloc (.cells #[.slice none 0 0, .slice none 0 0] 120)):=Since.alloc _ _ _
    have hw14:(w12x.alloc (.cells #[.slice none 0 0, .slice none 0 0] 120)).heap.size=b_c+1:=by rw [hb_c];simp
    have K_c14:RowKit.Hid ((w12x.alloc (.cells #[.slice none 0 0, .slice none 0 0] 120)).heap[b_c]?=some (.cells #[.slice none 0 0, .slice none 0 0] 120 (0,0))):=zh (by have e:b_c=(w12x).heap.size:=(by first|exact hb_c|(rw [hb_c];simp));have e2:=heap_alloc_new (w12x) (.cells #[.slice none 0 0, .slice none 0 0] 120);rw [←e] at e2;exact e2)
    have hz15:=hs14.size
    have K_r15:=zh ((hs14.block w.heap.size (by omega) (fun f=>f)).trans K_r13.out)
    have K_xs15:=zh ((hs14.block b_xs (by omega) (fun f=>f)).trans K_xs13.out)
    have K_s15:=zh ((hs14.block b_s (by omega) (fun f=>f)).trans K_s13.out)
    have X_x15:RowKit.Hid (rX (fun k=>w0.heap.size≤k∧k<w1x.heap.size) (w12x.alloc (.cells #[.slice none 0 0, .slice none 0 0] 120)) [.int .i64 x.kind, .int .i64 x.n, .string x.s, .slice a_x x.args.length c_x] x):=zh (Good.keep (R:=rX) ⟨hs14.size,fun k hk hS=>hs14.block k hk (fun f=>f)⟩ (fun _ _ h=>h) X_x13.out)
    have H15:=zh (H13.out.later hs14)
    have B15:=zh (B13.out.later hs14)
    have S15:RowKit.Hid (Since (fun k=>k=br) w (w12x.alloc (.cells #[.slice none 0 0, .slice none 0 0] 120))):=zh (S13.out.trans (hs14.mono (fun _ f=>f.elim)))
    have Q15:RowKit.Hid (Since (fun k=>k=br) wo (w12x.alloc (.cells #[.slice none 0 0, .slice none 0 0] 120))):=zh (Q13.out.trans (hs14.mono (fun _ f=>f.elim)))
    have hl_c:w12x.heap.size≤b_c:=by omega
    go_wp2_with fail
    rw [←hb_c]
    clear hb_c
    generalize w12x.alloc (.cells #[.slice none 0 0, .slice none 0 0] 120)=wg16 at *
    go_loopg [5] (T.length - st12.i) (fun k v wr=> ∃ (l:List Int) (sd:RSt) (vN:Value) (bo:Bool),v= .bool bo∧RdAt wr br bT cap T sd∧RdLaid wr base br∧Since (fun k=>k=br) w12x wr∧wr.heap[b_c]?=some (.cells #[vN, .slice none 0 0] 120 (0,0))∧wr.ownsRow (b_c+1) 3 1 vN l.length (l.map (Value.int .i64))∧(∀ y∈l,InI y)∧l.length+k≤T.length∧(bo=true→sd.fault=0∧T.length - sd.i≤k∧Res=runR T (PR.bind (numsLoop k l) (numsQ d x k' cs)) sd)∧(bo=false→Res=runR T (numsQ d x k' cs l) sd)∧(sd.fault=0→T.length - sd.i≤k'∧sd.depth=30 - (d:Int)))
    case atStart=>exact ⟨[],st12, .slice none 0 0,true,rfl,H15.out,B15.out,hs14.mono (fun _ f=>f.elim),K_c14.out,World.ownsRow_nil _ _ _ _,by simp,by simp,fun _=>⟨(Hf12.out H0a.out),Nat.le_refl _,RY.out⟩,fun e=>absurd e (by decide),fun e=>⟨by have:=Hyi12.out;have:=(HF.out H0a.out).1;omega,D12i.out e⟩⟩
    case round=>
     obtain ⟨l,sd,vN,bo,rfl,hA,hB,hSi,kc,hown2,hI2,hlen2,hT2,hF2,hG2⟩:=hrel
     obtain ⟨aN,cN,rfl,hcn1,hcn2⟩:=row_slice hown2
     have hz17:=hSi.size
     have K_r17:=zh ((hSi.block w.heap.size (by omega) (by omega)).trans K_r13.out)
     have K_xs17:=zh ((hSi.block b_xs (by omega) (by omega)).trans K_xs13.out)
     have K_s17:=zh ((hSi.block b_s (by omega) (by omega)).trans K_s13.out)
     have X_x17:RowKit.Hid (rX (fun k=>w0.heap.size≤k∧k<w1x.heap.size) (wr) [.int .i64 x.kind, .int .i64 x.n, .string x.s, .slice a_x x.args.length c_x] x):=zh (Good.keep (R:=rX) ⟨hSi.size,fun k hk hS=>hSi.block k hk (by omega)⟩ (fun _ _ h=>h) X_x13.out)
     have H17:=zh hA
     have B17:=zh (B13.out.box hSi)
     have S17:=zh (S13.out.trans hSi)
     have Q17:=zh (Q13.out.trans hSi)
     have hltc:=(Array.getElem?_eq_some_iff.1 kc).1
     have K_ci:=zh kc
     have SI:=zh hSi
     have Hown2:=zh hown2
     have HI2:=zh hI2
     have HT2:=zh hT2
     have HF2:=zh hF2
     have HG2:=zh hG2
     have ci3:=hA.c3
     have hAi:=hA.inn
     have HAi:=zh hAi
     clear hA hB hSi kc hown2 hI2 hT2 hF2 hG2 hAi
     have DI:=zh (show sd.fault=0→sd.depth=30 - (d:Int) from fun e=>(HG2.out e).2)
     cases bo with
     |true=>
      obtain ⟨h0i,hti,hRi⟩:=HT2.out rfl
      have f0i:(sd.fault==0)=true:=by simp [h0i]
      have hii:=HAi.out h0i
      obtain ⟨k2,rfl⟩: ∃ k2,gk=k2+1:=⟨gk - 1,by omega⟩
      have RT:=zh (show Res=runR T (PR.bind constR fun n=>PR.bind (branchR ⟨#[44]⟩ (numsLoop k2 (l++[n])) (PR.ret (l++[n]))) (numsQ d x k' cs)) sd from hRi.trans (by show runR T (PR.bind (PR.bind constR _) _) sd=_;rw [bind_assoc]))
      have Hti:=zh (And.intro h0i (And.intro hti hii))
      clear h0i hti hRi hii
      go_upto_region 8 with fail
      clear ci3
      have hsD:Since (fun _=>False) wr wr.drew:=Since.drew (fun _=>False) wr
      have hz18:=hsD.size
      have K_r18:=zh ((hsD.block w.heap.size (by omega) (fun f=>f)).trans K_r17.out)
      have K_xs18:=zh ((hsD.block b_xs (by omega) (fun f=>f)).trans K_xs17.out)
      have K_s18:=zh ((hsD.block b_s (by omega) (fun f=>f)).trans K_s17.out)
      have K_c18:=zh ((hsD.block b_c (by omega) (fun f=>f)).trans K_ci.out)
      have X_x18:RowKit.Hid (rX (fun k=>w0.heap.size≤k∧k<w1x.heap.size) (wr.drew) [.int .i64 x.kind, .int .i64 x.n, .string x.s, .slice a_x x.args.length c_x] x):=zh (Good.keep (R:=rX) ⟨hsD.size,fun k hk hS=>hsD.block k hk (fun f=>f)⟩ (fun _ _ h=>h) X_x17.out)
      have H18:=zh (H17.out.later hsD)
      have B18:=zh (B17.out.later hsD)
      have S18:RowKit.Hid (Since (fun k=>k=br) w (wr.drew)):=zh (S17.out.trans (hsD.mono (fun _ f=>f.elim)))
      have Q18:RowKit.Hid (Since (fun k=>k=br) wo (wr.drew)):=zh (Q17.out.trans (hsD.mono (fun _ f=>f.elim)))
      have hownD:=hsD.row Hown2.out (fun k e f=>f)
      have HownD:=zh hownD
      have SD:=zh (SI.out.trans (hsD.mono (fun _ f=>f.elim)))
      clear hownD hsD
      have hS0:(fun w'=>w'.cell? ⟨b_c,0,none⟩=some (.slice aN l.length cN)) (wr.drew):=by
       have k:=K_c18.out
       show (wr.drew).cell? ⟨b_c,0,none⟩=some (.slice aN l.length cN)
       simp [World.cell?,k]
      refine WpT.start (fun w'=>w'.cell? ⟨b_c,0,none⟩=some (.slice aN l.length cN)) 7 (by kernel_rfl) ?_
      generalize wr.drew=wd at *
      refine WpT.tk (i:=0) (v:=?_) rfl (by kernel_rfl) (fun _ _ _ h=>h) (Or.inl ⟨by rfl,?_⟩) hS0 ?_
      rotate_left
      ·
       intro wS hSw;(try dsimp only at hSw);go_simp;(first|done|with_reducible rfl)
      try simp only [Act.put,List.setIfInBounds_toArray,List.set_cons_zero,List.set_cons_succ]
      refine WpT.tk (i:=1) (v:=?_) rfl (by kernel_rfl) (fun _ _ _ h=>h) (Or.inl ⟨by rfl,?_⟩) hS0 ?_
      rotate_left
      ·
       intro wS hSw;(try dsimp only at hSw);go_simp;(first|done|with_reducible rfl)
      try simp only [Act.put,List.setIfInBounds_toArray,List.set_cons_zero,List.set_cons_succ]
      refine WpT.tk (i:=2) (v:=?_) rfl (by kernel_rfl) (fun _ _ _ h=>h) (Or.inl ⟨by rfl,?_⟩) hS0 ?_
      rotate_left
      ·
       intro wS hSw;(try dsimp only at hSw);go_simp;(first|done|with_reducible rfl)
      try simp only [Act.put,List.setIfInBounds_toArray,List.set_cons_zero,List.set_cons_succ]
      refine WpT.one (i:=3) (by kernel_rfl) rfl (fun K hK9=>?_)
      go_simp
      go_at_call 75
      refine (readConst_any H18.out DI.out).mono ?_
      rintro en w19x ⟨n,st19,rfl,hn19,h19,hs19,hg19⟩
      have hz20:=hs19.size
      have K_r20:=zh ((hs19.block w.heap.size (by omega) (by omega)).trans K_r18.out)
      have K_xs20:=zh ((hs19.block b_xs (by omega) (by omega)).trans K_xs18.out)
      have K_s20:=zh ((hs19.block b_s (by omega) (by omega)).trans K_s18.out)
      have K_c20:=zh ((hs19.block b_c (by omega) (by omega)).trans K_c18.out)
      have X_x20:RowKit.Hid (rX (fun k=>w0.heap.size≤k∧k<w1x.heap.size) (w19x) [.int .i64 x.kind, .int .i64 x.n, .string x.s, .slice a_x x.args.length c_x] x):=zh (Good.keep (R:=rX) ⟨hs19.size,fun k hk hS=>hs19.block k hk (by omega)⟩ (fun _ _ h=>h) X_x18.out)
      have H20:=zh h19
      have B20:=zh (B18.out.box hs19)
      have S20:=zh (S18.out.trans hs19)
      have Q20:=zh (Q18.out.trans hs19)
      have HG19:=zh hg19
      have Hn:=zh hn19
      have s2:=zh (SD.out.trans hs19)
      have hown1:=hs19.row HownD.out (fun k e f=>by have:=(HownD.out.lt k e).1;omega)
      have Hown1:=zh hown1
      clear hown1
      have R21:=zh (hg19.next RT.out)
      have D21:=zh (show st19.fault=0→st19.depth=30 - (d:Int) from fun e=>hg19.dep_eq e)
      have G19:=zh hg19
      clear h19 hs19 hg19
      have hS1:(fun w'=>w'.cell? ⟨b_c,0,none⟩=some (.slice aN l.length cN)) (w19x):=by
       have k:=K_c20.out
       show (w19x).cell? ⟨b_c,0,none⟩=some (.slice aN l.length cN)
       simp [World.cell?,k]
      refine hK9.out _ _ (fun _ _=>hS1) ?_
      clear hK9 K
      try simp only [Act.put,List.setIfInBounds_toArray,List.set_cons_zero,List.set_cons_succ]
      have sa:Since (fun _=>False) w19x (w19x.alloc (.cells #[.int .i64 n] 3)):=Since.alloc _ _ _
      have hS2:(fun w'=>w'.cell? ⟨b_c,0,none⟩=some (.slice aN l.length cN)) (w19x.alloc (.cells #[.int .i64 n] 3)):=(sa.cell (b:=b_c) (o:=0) (by omega) (fun f=>f)).trans hS1
      refine WpT.one (i:=4) (by kernel_rfl) rfl (fun K hK9=>?_)
      go_simp
      refine hK9.out _ _ (fun _ _=>hS2) ?_
      clear hK9 K
      try simp only [Act.put,List.setIfInBounds_toArray,List.set_cons_zero,List.set_cons_succ]
      refine WpT.one (i:=5) (by kernel_rfl) rfl (fun K hK9=>?_)
      refine step_append_lies _ (by rfl) _ _ _ (by rfl) (b_c+1) 3 jx (.int .i64 0) 1 8 Tryd.underlying38 ji0 jz0 jz1 jz2 rfl (by decide) _ _ _ (by rfl) (Hown1.out.alloc _) ⟨w19x.heap.size,0,none⟩ 1 1 [.int .i64 n] (by rfl) (by rfl) (World.news_of_block (cs:= #[.int .i64 n]) (t:=3) (fr:=(0,0)) (heap_alloc_new w19x _)) (by simp [Value.oneCell']) (by decide) (by unfold maxLen;omega) (by omega) (by rw [World.size_alloc];omega) (w19x.heap.size+1) (by simp) ?_
      intro gg cap5 w5 hown5 hg5 hat5 hlt5
      have hs5:Since (fun k=>(Value.slice aN l.length cN).ownBlock=some k) w19x w5:=(Since.alloc _ w19x _).trans (Since.grown hg5)
      have kc5:=(hs5.block b_c (by omega) (fun f=>by have:=(Hown1.out.lt _ f).1;omega)).trans K_c20.out
      have hS5:(fun w'=>w'.cell? ⟨b_c,0,none⟩=some (.slice aN l.length cN)) w5:=by
       show w5.cell? ⟨b_c,0,none⟩=some (.slice aN l.length cN)
       simp [World.cell?,kc5]
      refine hK9.out _ _ (fun _ _=>hS5) ?_
      clear hK9 K
      try simp only [Act.put,List.setIfInBounds_toArray,List.set_cons_zero,List.set_cons_succ]
      refine WpT.tk (i:=6) (v:=?_) rfl (by kernel_rfl) (fun _ _ _ h=>h) (Or.inl ⟨by rfl,?_⟩) hS5 ?_
      rotate_left
      ·
       intro wS hSw;(try dsimp only at hSw);go_simp;(first|done|with_reducible rfl)
      try simp only [Act.put,List.setIfInBounds_toArray,List.set_cons_zero,List.set_cons_succ]
      have gz5:=cz kc5
      have gc5:w5.cell? ⟨b_c,0,none⟩=some (.slice aN l.length cN):=hS5
      have hz5:=hs5.size
      have ssN:Since (fun k=>k=b_c) w5 (w5.setCell ⟨b_c,0,none⟩ (.slice (some ⟨gg,0,none⟩) (l.length+1) cap5)):=Since.setCell w5 ⟨b_c,0,none⟩ _
      have hzN:=ssN.size
      have kcN:(w5.setCell ⟨b_c,0,none⟩ (.slice (some ⟨gg,0,none⟩) (l.length+1) cap5)).heap[b_c]?=some (.cells #[.slice (some ⟨gg,0,none⟩) (l.length+1) cap5, .slice none 0 0] 120 (0,0)):=by have:=box_set kc5 0 (.slice (some ⟨gg,0,none⟩) (l.length+1) cap5) (by simp);simpa using this
      have hownN:=ssN.row hown5 (fun k e f=>by have:=(hown5.lt k e).1;omega)
      have hAN:=(H20.out.since hs5 (fun f=>by have:=(Hown1.out.lt _ f).1;omega) (fun f=>by have:=(Hown1.out.lt _ f).1;omega)).since ssN (by omega) (by omega)
      have hBN:=(B20.out.since hs5 (fun k f=>by have:=(Hown1.out.lt _ f).1;omega)).since ssN (fun k e=>by omega)
      have hSN:=(s2.out.then_new hs5 (fun k f=>Or.inr (by have:=(Hown1.out.lt _ f).1;omega))).then_new ssN (fun k e=>Or.inr (by omega))
      have KcN:=zh kcN
      have HownN:=zh hownN
      have HAN:=zh hAN
      have HBN:=zh hBN
      have HSN:=zh hSN
      clear kcN hownN hAN hBN hSN hs5 kc5 hown5 hg5 hat5 ssN
      refine WpT.one (i:=7) (by kernel_rfl) rfl (fun K hK9=>?_)
      go_simp
      refine hK9.out _ _ (fun h=>absurd rfl h) ?_
      clear hK9 K
      try simp only [Act.put,List.setIfInBounds_toArray,List.set_cons_zero,List.set_cons_succ]
      refine WpT.done (by kernel_rfl) ?_ _
      go_wp2_with fail
      generalize w5.setCell ⟨b_c,0,none⟩ (.slice (some ⟨gg,0,none⟩) (l.length+1) cap5)=wN at *
      clear hS0 hS1 hS2 hS5 gz5 gc5 sa
      refine (readIs_any HAN.out D21.out ⟨#[44]⟩).mono ?_
      rintro en w7 ⟨b7,st7,rfl,h7,hs7,hg7,hf7,hy7,hn7⟩
      have hz7:=hs7.size
      have HB7:=zh (HBN.out.box hs7)
      have HS7:=zh (HSN.out.trans hs7)
      have kc7:=zh ((hs7.block b_c (by omega) (by omega)).trans KcN.out)
      have hown7:=zh (hs7.row HownN.out (fun k e f=>by have:=(HownN.out.lt k e).1;omega))
      have H7:=zh h7
      have Hg7:=zh hg7
      have Hf7:=zh hf7
      have Hy7:=zh hy7
      have Hn7:=zh hn7
      clear h7 hs7 hg7 hf7 hy7 hn7
      go_wp2_with fail
      go_roundg k2
      case measure=>omega
      case rel=>
       refine ⟨l++[n],st7, .slice (some ⟨gg,0,none⟩) (l.length+1) cap5,b7,rfl,H7.out,HB7.out,HS7.out,kc7.out,by simpa using hown7.out,fun y hy=>?_,by simp;omega,fun hb=>?_,fun hb=>?_,fun e=>?_⟩
       ·
        rcases List.mem_append.1 hy with h|h
        ·
         exact HI2.out y h
        ·
         rw [List.mem_singleton] at h;subst h;exact Hn.out
       ·
        subst hb
        have h1:=Hy7.out rfl
        have l1:=G19.out.shr Shr.const h1.1
        have l2:=Hti.out.2.1
        exact ⟨Hf7.out h1.1,by omega,good_yesB Hg7.out R21.out⟩
       ·
        subst hb
        have hh:Res=runR T (PR.bind (PR.ret (l++[n])) (numsQ d x k' cs)) st7:=good_noB Hg7.out R21.out
        exact hh
       ·
        have e1:=Hg7.out.fault_of e
        have l1:=G19.out.shr Shr.const e1
        have l0:=Hg7.out.kp (Kp.is _) e
        have l2:=(HG2.out Hti.out.1).1
        exact ⟨by omega,Hg7.out.dep_eq e⟩
     |false=>
      have RE:=zh (show Res=runR T (PR.bind (mustR ⟨#[58]⟩) fun _=>PR.bind (blockR d) fun b=>PR.bind (caseLoop (blockR d) k' (cs++[(l,b)])) (casesQ d x)) sd from HF2.out rfl)
      have X_ns0:RowKit.Hid (rInts (fun k=>b_c+1≤k∧k<wr.heap.size) wr [.slice aN l.length cN] l):=zh (rInts_own Hown2.out (fun k e=>Hown2.out.lt k e) HI2.out)
      clear ci3
      go_wp2_with fail
      refine (readMust_any H17.out DI.out ⟨#[58]⟩).mono ?_
      rintro en w18x ⟨st18,rfl,h18,hs18,hg18⟩
      have hz19:=hs18.size
      have K_r19:=zh ((hs18.block w.heap.size (by omega) (by omega)).trans K_r17.out)
      have K_xs19:=zh ((hs18.block b_xs (by omega) (by omega)).trans K_xs17.out)
      have K_s19:=zh ((hs18.block b_s (by omega) (by omega)).trans K_s17.out)
      have K_c19:=zh ((hs18.block b_c (by omega) (by omega)).trans K_ci.out)
      have X_x19:RowKit.Hid (rX (fun k=>w0.heap.size≤k∧k<w1x.heap.size) (w18x) [.int .i64 x.kind, .int .i64 x.n, .string x.s, .slice a_x x.args.length c_x] x):=zh (Good.keep (R:=rX) ⟨hs18.size,fun k hk hS=>hs18.block k hk (by omega)⟩ (fun _ _ h=>h) X_x17.out)
      have X_ns19:RowKit.Hid (rInts (fun k=>b_c+1≤k∧k<wr.heap.size) (w18x) [.slice aN l.length cN] l):=zh (Good.keep (R:=rInts) ⟨hs18.size,fun k hk hS=>hs18.block k hk (by omega)⟩ (fun _ _ h=>h) X_ns0.out)
      have H19:=zh h18
      have B19:=zh (B17.out.box hs18)
      have S19:=zh (S17.out.trans hs18)
      have Q19:=zh (Q17.out.trans hs18)
      have R20:=zh (hg18.next RE.out)
      have D20:=zh (show st18.fault=0→st18.depth=30 - (d:Int) from fun e=>hg18.dep_eq e)
      have G18:=zh hg18
      clear h18 hs18 hg18
      go_wp2_with fail
      refine (hK w18x br bT cap base T st18 H19.out B19.out D20.out).mono ?_
      rintro en w21x ⟨v21,e,st21,rfl,hx21,h21,hs21,hg21⟩
      obtain ⟨a_e,c_e,rfl⟩:=rSs_shape hx21
      have hz22:=hs21.size
      have K_r22:=zh ((hs21.block w.heap.size (by omega) (by omega)).trans K_r19.out)
      have K_xs22:=zh ((hs21.block b_xs (by omega) (by omega)).trans K_xs19.out)
      have K_s22:=zh ((hs21.block b_s (by omega) (by omega)).trans K_s19.out)
      have K_c22:=zh ((hs21.block b_c (by omega) (by omega)).trans K_c19.out)
      have X_x22:RowKit.Hid (rX (fun k=>w0.heap.size≤k∧k<w1x.heap.size) (w21x) [.int .i64 x.kind, .int .i64 x.n, .string x.s, .slice a_x x.args.length c_x] x):=zh (Good.keep (R:=rX) ⟨hs21.size,fun k hk hS=>hs21.block k hk (by omega)⟩ (fun _ _ h=>h) X_x19.out)
      have X_ns22:RowKit.Hid (rInts (fun k=>b_c+1≤k∧k<wr.heap.size) (w21x) [.slice aN l.length cN] l):=zh (Good.keep (R:=rInts) ⟨hs21.size,fun k hk hS=>hs21.block k hk (by omega)⟩ (fun _ _ h=>h) X_ns19.out)
      have H22:=zh h21
      have B22:=zh (B19.out.box hs21)
      have S22:=zh (S19.out.trans hs21)
      have Q22:=zh (Q19.out.trans hs21)
      have X_e21:RowKit.Hid (rSs (fun k=>w18x.heap.size≤k∧k<w21x.heap.size) w21x [.slice a_e e.length c_e] e):=zh (Good.wide (R:=rSs) hx21 (fun k h1 h2=>⟨h2,h1⟩))
      clear hx21
      have R23:=zh (hg21.next R20.out)
      have D23:=zh (show st21.fault=0→st21.depth=30 - (d:Int) from fun e=>hg21.dep_eq e)
      have G21:=zh hg21
      clear h21 hs21 hg21
      have gc24_0:=ca0 K_c22.out
      have gc24_1:=ca1 K_c22.out
      have gc24_z:=cz K_c22.out
      have hs25:Since (fun k=>k=b_c) (w21x) (w21x.setCell ⟨b_c,1,none⟩ (.slice a_e e.length c_e)):=Since.setCell (w21x) ⟨b_c,1,none⟩ (.slice a_e e.length c_e)
      have K_c25:RowKit.Hid ((w21x.setCell ⟨b_c,1,none⟩ (.slice a_e e.length c_e)).heap[b_c]?=some (.cells #[.slice aN l.length cN, .slice a_e e.length c_e] 120 (0,0))):=zh (by have:=box_set K_c22.out 1 (.slice a_e e.length c_e) (by simp);simpa using this)
      have hz26:=hs25.size
      have K_r26:=zh ((hs25.block w.heap.size (by omega) (by omega)).trans K_r22.out)
      have K_xs26:=zh ((hs25.block b_xs (by omega) (by omega)).trans K_xs22.out)
      have K_s26:=zh ((hs25.block b_s (by omega) (by omega)).trans K_s22.out)
      have X_x26:RowKit.Hid (rX (fun k=>w0.heap.size≤k∧k<w1x.heap.size) (w21x.setCell ⟨b_c,1,none⟩ (.slice a_e e.length c_e)) [.int .i64 x.kind, .int .i64 x.n, .string x.s, .slice a_x x.args.length c_x] x):=zh (Good.keep (R:=rX) ⟨hs25.size,fun k hk hS=>hs25.block k hk (by omega)⟩ (fun _ _ h=>h) X_x22.out)
      have X_ns26:RowKit.Hid (rInts (fun k=>b_c+1≤k∧k<wr.heap.size) (w21x.setCell ⟨b_c,1,none⟩ (.slice a_e e.length c_e)) [.slice aN l.length cN] l):=zh (Good.keep (R:=rInts) ⟨hs25.size,fun k hk hS=>hs25.block k hk (by omega)⟩ (fun _ _ h=>h) X_ns22.out)
      have X_e26:RowKit.Hid (rSs (fun k=>w18x.heap.size≤k∧k<w21x.heap.size) (w21x.setCell ⟨b_c,1,none⟩ (.slice a_e e.length c_e)) [.slice a_e e.length c_e] e):=zh (Good.keep (R:=rSs) ⟨hs25.size,fun k hk hS=>hs25.block k hk (by omega)⟩ (fun _ _ h=>h) X_e21.out)
      have H26:=zh (H22.out.since hs25 (by omega) (by omega))
      have B26:=zh (B22.out.since hs25 (fun k e=>by omega))
      have S26:=zh (S22.out.then_new hs25 (fun k e=>Or.inr (by omega)))
      have Q26:=zh (Q22.out.then_new hs25 (fun k e=>Or.inr (by omega)))
      go_upto_region 11 with fail
      clear gc24_0 gc24_1 gc24_z
      generalize w21x.setCell ⟨b_c,1,none⟩ (.slice a_e e.length c_e)=wg27 at *
      have hown4:=Q26.out.row Hown.out (fun k e f=>by have:=(Hown.out.lt k e).1;omega)
      obtain ⟨de,he⟩:=X_e26.out
      have hx4:rCaseD de (fun k=>wo.heap.size≤k) wg27 [.slice aN l.length cN, .slice a_e e.length c_e] (l,e):=⟨_,_,rfl,Good.wide (R:=rInts) X_ns26.out (fun k _ h=>by omega),Good.wide (R:=rSlice 7 (rStmt de)) he (fun k _ h=>by omega)⟩
      have Hown4:=zh hown4
      have Hx4:=zh hx4
      clear hown4 he hx4
      have hbw4:B0≤wg27.heap.size:=by omega
      have gs28_0:=ca0 K_s26.out
      have gs28_1:=ca1 K_s26.out
      have gs28_2:=ca2 K_s26.out
      have gs28_3:=ca3 K_s26.out
      have gs28_4:=ca4 K_s26.out
      have gs28_5:=ca5 K_s26.out
      have gs28_6:=ca6 K_s26.out
      have gs28_z:=cz K_s26.out
      have gc29_0:=ca0 K_c25.out
      have gc29_1:=ca1 K_c25.out
      have gc29_z:=cz K_c25.out
      go_wp2_with (at_builtin;refine wpList_append_own_at _ rfl _ _ 30 rfl B0 120 ix _ 2 48 Tryd.underlying30 ii0 iz0 iz1 iz2 rfl (by decide) (.slice aC cs.length cC) cs.length ess.flatten rfl (Hown4.out.alloc _) ⟨wg27.heap.size,0,none⟩ 1 1 [.slice aN l.length cN, .slice a_e e.length c_e] rfl rfl (World.news_of_block (heap_alloc_new wg27 _)) (by simp [Value.oneCell']) (by unfold maxLen;omega) (by omega) (by rw [World.size_alloc];omega) ?_;intro v5 w5 hown5 hg5 hnil5 hat5;clear hnil5;have HRow:=zh (RowG.push monoC Hown.out Hall.out Q26.out (fun k e=>by omega) Hx4.out rfl hown5 hg5 (by simpa using hat5) hbw);have Hs5:=zh ((Since.alloc (fun k=>(Value.slice aC cs.length cC).ownBlock=some k) wg27 _).trans (Since.grown hg5));obtain ⟨aW,cW,rfl,-,-⟩:=row_slice hown5;have ks5:=(Hs5.out.block b_s (by omega) (fun f=>by have:=(Hown4.out.lt _ f).1;omega)).trans K_s26.out;have gs5:w5.cell? ⟨b_s,6,none⟩=some (.slice aC cs.length cC):=(by simp [World.cell?,ks5]);have gs5z: ∀ j,w5.frozen? ⟨b_s,j,none⟩=false:=fun j=>(by simp [World.frozen?,ks5]);have Ks5:=zh ks5;clear ks5 hown5 hg5 hat5)
      have hz5:=Hs5.out.size
      have ssC:Since (fun k=>k=b_s) w5 (w5.setCell ⟨b_s,6,none⟩ (.slice aW (cs.length+1) cW)):=Since.setCell w5 ⟨b_s,6,none⟩ _
      have hzC:=ssC.size
      have ksC:(w5.setCell ⟨b_s,6,none⟩ (.slice aW (cs.length+1) cW)).heap[b_s]?=some (.cells #[.int .i64 7, .string ⟨#[]⟩, .string ⟨#[]⟩, .slice (some ⟨b_xs,0,none⟩) 1 1, .slice none 0 0, .slice none 0 0, .slice aW (cs.length+1) cW] 32 (0,0)):=by have:=box_set Ks5.out 6 (.slice aW (cs.length+1) cW) (by simp);simpa using this
      go_roundg k'
      case measure=>omega
      case rel=>exact ⟨cs++[(l,e)],st21, .slice aW (cs.length+1) cW,(H26.out.since Hs5.out (fun f=>by have:=(Hown4.out.lt _ f).1;omega) (fun f=>by have:=(Hown4.out.lt _ f).1;omega)).since ssC (by omega) (by omega),(B26.out.since Hs5.out (fun k f=>by have:=(Hown4.out.lt _ f).1;omega)).since ssC (fun k e=>by omega),(S26.out.then_new Hs5.out (fun k f=>Or.inr (by have:=(Hown4.out.lt _ f).1;omega))).then_new ssC (fun k e=>Or.inr (by omega)),((ssC.block w.heap.size (by omega) (by omega)).trans ((Hs5.out.block w.heap.size (by omega) (fun f=>by have:=(Hown4.out.lt _ f).1;omega)).trans K_r26.out)),ksC,((ssC.block b_xs (by omega) (by omega)).trans ((Hs5.out.block b_xs (by omega) (fun f=>by have:=(Hown4.out.lt _ f).1;omega)).trans K_xs26.out)),(Good.keep (R:=rX) ⟨ssC.size,fun k hk hS=>ssC.block k hk (by omega)⟩ (fun _ _ h=>h) (Good.keep (R:=rX) (w':=w5) ⟨Hs5.out.size,fun k hk hS=>Hs5.out.block k hk (fun f=>by have:=(Hown4.out.lt _ f).1;omega)⟩ (fun _ _ h=>h) X_x26.out)),rowG_since HRow.out ssC (fun k e=>by omega),by omega,by simp;omega,R23.out,fun e=>⟨by have l1:=G21.out.kp (Shr.block d).kp e;have e1:=G21.out.fault_of e;have l2:=G18.out.kp (Shr.must _).kp e1;have e2:=G18.out.fault_of e1;have l3:=(HG2.out e2).1;omega,D23.out e⟩⟩
   |false=>
    have R12i:=zh (good_noB hg12 RA.out)
    have Hn12:=zh (hn12 rfl)
    clear hg12 hy12 hn12
    have RN0:=zh (show Res=runR T (casesQ d x cs) st12 from R12i.out)
    have X_cs0:RowKit.Hid (rCs (fun k=>B0≤k∧k<wo.heap.size) w12x [.slice aC cs.length cC] cs):=zh (by obtain ⟨dd,hh⟩:=Hreads.out;exact ⟨dd,Good.keep (R:=rSlice 2 (rCaseD dd)) ⟨Q13.out.size,fun k hk hS=>Q13.out.block k hk (by omega)⟩ (fun k h1 h2=>⟨h2,h1⟩) hh⟩)
    have RC:=zh (show Res=runR T (PR.bind (branchR ⟨#[100,101,102,97,117,108,116]⟩ (PR.bind (mustR ⟨#[58]⟩) fun _=>blockR d) (PR.ret [])) (fun e=>PR.bind (mustR ⟨#[125]⟩) fun _=>PR.ret (.mk 7 ⟨#[]⟩ ⟨#[]⟩ [x] [] e cs))) st12 from RN0.out)
    go_wp2_with fail
    refine (readIs_any H13.out D12i.out ⟨#[100,101,102,97,117,108,116]⟩).mono ?_
    rintro en w14x ⟨b14,st14,rfl,h14,hs14,hg14,hf14,hy14,hn14⟩
    have hz15:=hs14.size
    have K_r15:=zh ((hs14.block w.heap.size (by omega) (by omega)).trans K_r13.out)
    have K_xs15:=zh ((hs14.block b_xs (by omega) (by omega)).trans K_xs13.out)
    have K_s15:=zh ((hs14.block b_s (by omega) (by omega)).trans K_s13.out)
    have X_x15:RowKit.Hid (rX (fun k=>w0.heap.size≤k∧k<w1x.heap.size) (w14x) [.int .i64 x.kind, .int .i64 x.n, .string x.s, .slice a_x x.args.length c_x] x):=zh (Good.keep (R:=rX) ⟨hs14.size,fun k hk hS=>hs14.block k hk (by omega)⟩ (fun _ _ h=>h) X_x13.out)
    have X_cs15:RowKit.Hid (rCs (fun k=>B0≤k∧k<wo.heap.size) (w14x) [.slice aC cs.length cC] cs):=zh (Good.keep (R:=rCs) ⟨hs14.size,fun k hk hS=>hs14.block k hk (by omega)⟩ (fun _ _ h=>h) X_cs0.out)
    have H15:=zh h14
    have B15:=zh (B13.out.box hs14)
    have S15:=zh (S13.out.trans hs14)
    have D14i:=zh (show st14.fault=0→st14.depth=30 - (d:Int) from fun e=>hg14.dep_eq e)
    have Hf14:=zh hf14
    clear h14 hs14 hf14
    cases b14 with
    |true=>
     have R14i:=zh (good_yesB hg14 RC.out)
     have Hy14:=zh (hy14 rfl).1
     have Hyi14:=zh (hy14 rfl).2
     clear hg14 hy14 hn14
     have RYD:=zh (show Res=runR T (PR.bind (mustR ⟨#[58]⟩) fun _=>PR.bind (blockR d) (fun e=>PR.bind (mustR ⟨#[125]⟩) fun _=>PR.ret (.mk 7 ⟨#[]⟩ ⟨#[]⟩ [x] [] e cs))) st14 from R14i.out.trans (by rw [bind_assoc]))
     go_wp2_with fail
     refine (readMust_any H15.out D14i.out ⟨#[58]⟩).mono ?_
     rintro en w16x ⟨st16,rfl,h16,hs16,hg16⟩
     have hz17:=hs16.size
     have K_r17:=zh ((hs16.block w.heap.size (by omega) (by omega)).trans K_r15.out)
     have K_xs17:=zh ((hs16.block b_xs (by omega) (by omega)).trans K_xs15.out)
     have K_s17:=zh ((hs16.block b_s (by omega) (by omega)).trans K_s15.out)
     have X_x17:RowKit.Hid (rX (fun k=>w0.heap.size≤k∧k<w1x.heap.size) (w16x) [.int .i64 x.kind, .int .i64 x.n, .string x.s, .slice a_x x.args.length c_x] x):=zh (Good.keep (R:=rX) ⟨hs16.size,fun k hk hS=>hs16.block k hk (by omega)⟩ (fun _ _ h=>h) X_x15.out)
     have X_cs17:RowKit.Hid (rCs (fun k=>B0≤k∧k<wo.heap.size) (w16x) [.slice aC cs.length cC] cs):=zh (Good.keep (R:=rCs) ⟨hs16.size,fun k hk hS=>hs16.block k hk (by omega)⟩ (fun _ _ h=>h) X_cs15.out)
     have H17:=zh h16
     have B17:=zh (B15.out.box hs16)
     have S17:=zh (S15.out.trans hs16)
     have R18:=zh (hg16.next RYD.out)
     have D18:=zh (show st16.fault=0→st16.depth=30 - (d:Int) from fun e=>hg16.dep_eq e)
     clear h16 hs16 hg16
     go_wp2_with fail
     refine (hK w16x br bT cap base T st16 H17.out B17.out D18.out).mono ?_
     rintro en w19x ⟨v19,e,st19,rfl,hx19,h19,hs19,hg19⟩
     obtain ⟨a_e,c_e,rfl⟩:=rSs_shape hx19
     have hz20:=hs19.size
     have K_r20:=zh ((hs19.block w.heap.size (by omega) (by omega)).trans K_r17.out)
     have K_xs20:=zh ((hs19.block b_xs (by omega) (by omega)).trans K_xs17.out)
     have K_s20:=zh ((hs19.block b_s (by omega) (by omega)).trans K_s17.out)
     have X_x20:RowKit.Hid (rX (fun k=>w0.heap.size≤k∧k<w1x.heap.size) (w19x) [.int .i64 x.kind, .int .i64 x.n, .string x.s, .slice a_x x.args.length c_x] x):=zh (Good.keep (R:=rX) ⟨hs19.size,fun k hk hS=>hs19.block k hk (by omega)⟩ (fun _ _ h=>h) X_x17.out)
     have X_cs20:RowKit.Hid (rCs (fun k=>B0≤k∧k<wo.heap.size) (w19x) [.slice aC cs.length cC] cs):=zh (Good.keep (R:=rCs) ⟨hs19.size,fun k hk hS=>hs19.block k hk (by omega)⟩ (fun _ _ h=>h) X_cs17.out)
     have H20:=zh h19
     have B20:=zh (B17.out.box hs19)
     have S20:=zh (S17.out.trans hs19)
     have X_e19:RowKit.Hid (rSs (fun k=>w16x.heap.size≤k∧k<w19x.heap.size) w19x [.slice a_e e.length c_e] e):=zh (Good.wide (R:=rSs) hx19 (fun k h1 h2=>⟨h2,h1⟩))
     clear hx19
     have R21:=zh (hg19.next R18.out)
     have D21:=zh (show st19.fault=0→st19.depth=30 - (d:Int) from fun e=>hg19.dep_eq e)
     clear h19 hs19 hg19
     have gs22_0:=ca0 K_s20.out
     have gs22_1:=ca1 K_s20.out
     have gs22_2:=ca2 K_s20.out
     have gs22_3:=ca3 K_s20.out
     have gs22_4:=ca4 K_s20.out
     have gs22_5:=ca5 K_s20.out
     have gs22_6:=ca6 K_s20.out
     have gs22_z:=cz K_s20.out
     have hs23:Since (fun k=>k=b_s) (w19x) (w19x.setCell ⟨b_s,5,none⟩ (.slice a_e e.length c_e)):=Since.setCell (w19x) ⟨b_s,5,none⟩ (.slice a_e e.length c_e)
     have K_s23:RowKit.Hid ((w19x.setCell ⟨b_s,5,none⟩ (.slice a_e e.length c_e)).heap[b_s]?=some (.cells #[.int .i64 7, .string ⟨#[]⟩, .string ⟨#[]⟩, .slice (some ⟨b_xs,0,none⟩) 1 1, .slice none 0 0, .slice a_e e.length c_e, .slice aC cs.length cC] 32 (0,0))):=zh (by have:=box_set K_s20.out 5 (.slice a_e e.length c_e) (by simp);simpa using this)
     have hz24:=hs23.size
     have K_r24:=zh ((hs23.block w.heap.size (by omega) (by omega)).trans K_r20.out)
     have K_xs24:=zh ((hs23.block b_xs (by omega) (by omega)).trans K_xs20.out)
     have X_x24:RowKit.Hid (rX (fun k=>w0.heap.size≤k∧k<w1x.heap.size) (w19x.setCell ⟨b_s,5,none⟩ (.slice a_e e.length c_e)) [.int .i64 x.kind, .int .i64 x.n, .string x.s, .slice a_x x.args.length c_x] x):=zh (Good.keep (R:=rX) ⟨hs23.size,fun k hk hS=>hs23.block k hk (by omega)⟩ (fun _ _ h=>h) X_x20.out)
     have X_cs24:RowKit.Hid (rCs (fun k=>B0≤k∧k<wo.heap.size) (w19x.setCell ⟨b_s,5,none⟩ (.slice a_e e.length c_e)) [.slice aC cs.length cC] cs):=zh (Good.keep (R:=rCs) ⟨hs23.size,fun k hk hS=>hs23.block k hk (by omega)⟩ (fun _ _ h=>h) X_cs20.out)
     have X_e24:RowKit.Hid (rSs (fun k=>w16x.heap.size≤k∧k<w19x.heap.size) (w19x.setCell ⟨b_s,5,none⟩ (.slice a_e e.length c_e)) [.slice a_e e.length c_e] e):=zh (Good.keep (R:=rSs) ⟨hs23.size,fun k hk hS=>hs23.block k hk (by omega)⟩ (fun _ _ h=>h) X_e19.out)
     have H24:=zh (H20.out.since hs23 (by omega) (by omega))
     have B24:=zh (B20.out.since hs23 (fun k e=>by omega))
     have S24:=zh (S20.out.then_new hs23 (fun k e=>Or.inr (by omega)))
     go_wp2_with fail
     clear gs22_0 gs22_1 gs22_2 gs22_3 gs22_4 gs22_5 gs22_6 gs22_z
     generalize w19x.setCell ⟨b_s,5,none⟩ (.slice a_e e.length c_e)=wg25 at *
     refine (readMust_any H24.out D21.out ⟨#[125]⟩).mono ?_
     rintro en w26x ⟨st26,rfl,h26,hs26,hg26⟩
     have hz27:=hs26.size
     have K_r27:=zh ((hs26.block w.heap.size (by omega) (by omega)).trans K_r24.out)
     have K_xs27:=zh ((hs26.block b_xs (by omega) (by omega)).trans K_xs24.out)
     have K_s27:=zh ((hs26.block b_s (by omega) (by omega)).trans K_s23.out)
     have X_x27:RowKit.Hid (rX (fun k=>w0.heap.size≤k∧k<w1x.heap.size) (w26x) [.int .i64 x.kind, .int .i64 x.n, .string x.s, .slice a_x x.args.length c_x] x):=zh (Good.keep (R:=rX) ⟨hs26.size,fun k hk hS=>hs26.block k hk (by omega)⟩ (fun _ _ h=>h) X_x24.out)
     have X_cs27:RowKit.Hid (rCs (fun k=>B0≤k∧k<wo.heap.size) (w26x) [.slice aC cs.length cC] cs):=zh (Good.keep (R:=rCs) ⟨hs26.size,fun k hk hS=>hs26.block k hk (by omega)⟩ (fun _ _ h=>h) X_cs24.out)
     have X_e27:RowKit.Hid (rSs (fun k=>w16x.heap.size≤k∧k<w19x.heap.size) (w26x) [.slice a_e e.length c_e] e):=zh (Good.keep (R:=rSs) ⟨hs26.size,fun k hk hS=>hs26.block k hk (by omega)⟩ (fun _ _ h=>h) X_e24.out)
     have H27:=zh h26
     have B27:=zh (B24.out.box hs26)
     have S27:=zh (S24.out.trans hs26)
     have R28:=zh (hg26.next R21.out)
     have D28:=zh (show st26.fault=0→st26.depth=30 - (d:Int) from fun e=>hg26.dep_eq e)
     clear h26 hs26 hg26
     have gs29_0:=ca0 K_s27.out
     have gs29_1:=ca1 K_s27.out
     have gs29_2:=ca2 K_s27.out
     have gs29_3:=ca3 K_s27.out
     have gs29_4:=ca4 K_s27.out
     have gs29_5:=ca5 K_s27.out
     have gs29_6:=ca6 K_s27.out
     have gs29_z:=cz K_s27.out
     have gr30_0:=ca0 K_r27.out
     have gr30_1:=ca1 K_r27.out
     have gr30_2:=ca2 K_r27.out
     have gr30_3:=ca3 K_r27.out
     have gr30_4:=ca4 K_r27.out
     have gr30_5:=ca5 K_r27.out
     have gr30_6:=ca6 K_r27.out
     have gr30_z:=cz K_r27.out
     go_wp2_with fail
     obtain ⟨mb,ms⟩:=cells7 (w:=w26x) K_r27.out (.int .i64 7) (.string ⟨#[]⟩) (.string ⟨#[]⟩) (.slice (some ⟨b_xs,0,none⟩) 1 1) (.slice none 0 0) (.slice a_e e.length c_e) (.slice aC cs.length cC)
     generalize hWW:((((((w26x.setCell ⟨w.heap.size,0,none⟩ (.int .i64 7)).setCell ⟨w.heap.size,1,none⟩ (.string ⟨#[]⟩)).setCell ⟨w.heap.size,2,none⟩ (.string ⟨#[]⟩)).setCell ⟨w.heap.size,3,none⟩ (.slice (some ⟨b_xs,0,none⟩) 1 1)).setCell ⟨w.heap.size,4,none⟩ (.slice none 0 0)).setCell ⟨w.heap.size,5,none⟩ (.slice a_e e.length c_e)).setCell ⟨w.heap.size,6,none⟩ (.slice aC cs.length cC)=WW at *
     have m0:=ca0 mb
     have m1:=ca1 mb
     have m2:=ca2 mb
     have m3:=ca3 mb
     have m4:=ca4 mb
     have m5:=ca5 mb
     have m6:=ca6 mb
     refine bodyPost_ret (v:= .agg #[.int .i64 7, .string ⟨#[]⟩, .string ⟨#[]⟩, .slice (some ⟨b_xs,0,none⟩) 1 1, .slice none 0 0, .slice a_e e.length c_e, .slice aC cs.length cC]) (by simp [results,Tryd.results63,go_sem,m0,m1,m2,m3,m4,m5,m6]) rfl ⟨_, .mk 7 ⟨#[]⟩ ⟨#[]⟩ [x] [] e cs,st26,rfl,rS_mk 7 ⟨#[]⟩ ⟨#[]⟩ (ini rfl) (by decide) (by decide) (rXs_one (Good.keep (R:=rX) ⟨ms.size,fun k hk hS=>ms.block k hk (by omega)⟩ (fun k hk hS=>by omega) X_x27.out) ((ms.block b_xs (by omega) (by omega)).trans K_xs27.out) (show w.heap.size≤b_xs by omega) (by decide) (by decide)) (rSs_nil _ _) (Good.keep (R:=rSs) ⟨ms.size,fun k hk hS=>ms.block k hk (by omega)⟩ (fun k hk hS=>by omega) X_e27.out) (Good.keep (R:=rCs) ⟨ms.size,fun k hk hS=>ms.block k hk (by omega)⟩ (fun k hk hS=>by omega) X_cs27.out),(H27.out).since ms (by omega) (by omega),(S27.out).then_new ms (fun k e=>Or.inr (by omega)),?_⟩
     exact Good'.end R28.out D28.out
    |false=>
     have R14i:=zh (good_noB hg14 RC.out)
     have Hn14:=zh (hn14 rfl)
     clear hg14 hy14 hn14
     have RN:=zh (show Res=runR T (PR.bind (mustR ⟨#[125]⟩) fun _=>PR.ret (.mk 7 ⟨#[]⟩ ⟨#[]⟩ [x] [] [] cs)) st14 from R14i.out)
     go_wp2_with fail
     refine (readMust_any H15.out D14i.out ⟨#[125]⟩).mono ?_
     rintro en w16x ⟨st16,rfl,h16,hs16,hg16⟩
     have hz17:=hs16.size
     have K_r17:=zh ((hs16.block w.heap.size (by omega) (by omega)).trans K_r15.out)
     have K_xs17:=zh ((hs16.block b_xs (by omega) (by omega)).trans K_xs15.out)
     have K_s17:=zh ((hs16.block b_s (by omega) (by omega)).trans K_s15.out)
     have X_x17:RowKit.Hid (rX (fun k=>w0.heap.size≤k∧k<w1x.heap.size) (w16x) [.int .i64 x.kind, .int .i64 x.n, .string x.s, .slice a_x x.args.length c_x] x):=zh (Good.keep (R:=rX) ⟨hs16.size,fun k hk hS=>hs16.block k hk (by omega)⟩ (fun _ _ h=>h) X_x15.out)
     have X_cs17:RowKit.Hid (rCs (fun k=>B0≤k∧k<wo.heap.size) (w16x) [.slice aC cs.length cC] cs):=zh (Good.keep (R:=rCs) ⟨hs16.size,fun k hk hS=>hs16.block k hk (by omega)⟩ (fun _ _ h=>h) X_cs15.out)
     have H17:=zh h16
     have B17:=zh (B15.out.box hs16)
     have S17:=zh (S15.out.trans hs16)
     have R18:=zh (hg16.next RN.out)
     have D18:=zh (show st16.fault=0→st16.depth=30 - (d:Int) from fun e=>hg16.dep_eq e)
     clear h16 hs16 hg16
     have gs19_0:=ca0 K_s17.out
     have gs19_1:=ca1 K_s17.out
     have gs19_2:=ca2 K_s17.out
     have gs19_3:=ca3 K_s17.out
     have gs19_4:=ca4 K_s17.out
     have gs19_5:=ca5 K_s17.out
     have gs19_6:=ca6 K_s17.out
     have gs19_z:=cz K_s17.out
     have gr20_0:=ca0 K_r17.out
     have gr20_1:=ca1 K_r17.out
     have gr20_2:=ca2 K_r17.out
     have gr20_3:=ca3 K_r17.out
     have gr20_4:=ca4 K_r17.out
     have gr20_5:=ca5 K_r17.out
     have gr20_6:=ca6 K_r17.out
     have gr20_z:=cz K_r17.out
     go_wp2_with fail
     obtain ⟨mb,ms⟩:=cells7 (w:=w16x) K_r17.out (.int .i64 7) (.string ⟨#[]⟩) (.string ⟨#[]⟩) (.slice (some ⟨b_xs,0,none⟩) 1 1) (.slice none 0 0) (.slice none 0 0) (.slice aC cs.length cC)
     generalize hWW:((((((w16x.setCell ⟨w.heap.size,0,none⟩ (.int .i64 7)).setCell ⟨w.heap.size,1,none⟩ (.string ⟨#[]⟩)).setCell ⟨w.heap.size,2,none⟩ (.string ⟨#[]⟩)).setCell ⟨w.heap.size,3,none⟩ (.slice (some ⟨b_xs,0,none⟩) 1 1)).setCell ⟨w.heap.size,4,none⟩ (.slice none 0 0)).setCell ⟨w.heap.size,5,none⟩ (.slice none 0 0)).setCell ⟨w.heap.size,6,none⟩ (.slice aC cs.length cC)=WW at *
     have m0:=ca0 mb
     have m1:=ca1 mb
     have m2:=ca2 mb
     have m3:=ca3 mb
     have m4:=ca4 mb
     have m5:=ca5 mb
     have m6:=ca6 mb
     refine bodyPost_ret (v:= .agg #[.int .i64 7, .string ⟨#[]⟩, .string ⟨#[]⟩, .slice (some ⟨b_xs,0,none⟩) 1 1, .slice none 0 0, .slice none 0 0, .slice aC cs.length cC]) (by simp [results,Tryd.results63,go_sem,m0,m1,m2,m3,m4,m5,m6]) rfl ⟨_, .mk 7 ⟨#[]⟩ ⟨#[]⟩ [x] [] [] cs,st16,rfl,rS_mk 7 ⟨#[]⟩ ⟨#[]⟩ (ini rfl) (by decide) (by decide) (rXs_one (Good.keep (R:=rX) ⟨ms.size,fun k hk hS=>ms.block k hk (by omega)⟩ (fun k hk hS=>by omega) X_x17.out) ((ms.block b_xs (by omega) (by omega)).trans K_xs17.out) (show w.heap.size≤b_xs by omega) (by decide) (by decide)) (rSs_nil _ _) (rSs_nil _ _) (Good.keep (R:=rCs) ⟨ms.size,fun k hk hS=>ms.block k hk (by omega)⟩ (fun k hk hS=>by omega) X_cs17.out),(H17.out).since ms (by omega) (by omega),(S17.out).then_new ms (fun k e=>Or.inr (by omega)),?_⟩
     exact Good'.end R18.out D18.out
  ·
   have f0:(sc.fault==0)=false:=by simpa using h0
   have H0b:=zh h0
   clear h0
   have X_cs0:RowKit.Hid (rCs (fun k=>B0≤k∧k<wo.heap.size) wo [.slice aC cs.length cC] cs):=zh (by obtain ⟨dd,hh⟩:=Hreads.out;exact ⟨dd,Good.wide (R:=rSlice 2 (rCaseD dd)) hh (fun k h1 h2=>⟨h2,h1⟩)⟩)
   have RB:=zh (HR.out.trans (run_fault (q:=casesQ d x cs) H0b.out))
   have DB:=zh (show sc.fault=0→sc.depth=30 - (d:Int) from fun e=>(HF.out e).2)
   have RC:=zh (show Res=runR T (PR.bind (branchR ⟨#[100,101,102,97,117,108,116]⟩ (PR.bind (mustR ⟨#[58]⟩) fun _=>blockR d) (PR.ret [])) (fun e=>PR.bind (mustR ⟨#[125]⟩) fun _=>PR.ret (.mk 7 ⟨#[]⟩ ⟨#[]⟩ [x] [] e cs))) sc from RB.out)
   go_wp2_with fail
   refine (readIs_any H9.out DB.out ⟨#[100,101,102,97,117,108,116]⟩).mono ?_
   rintro en w12x ⟨b12,st12,rfl,h12,hs12,hg12,hf12,hy12,hn12⟩
   have hz13:=hs12.size
   have K_r13:=zh ((hs12.block w.heap.size (by omega) (by omega)).trans K_r9.out)
   have K_xs13:=zh ((hs12.block b_xs (by omega) (by omega)).trans K_xs9.out)
   have K_s13:=zh ((hs12.block b_s (by omega) (by omega)).trans K_s9.out)
   have X_x13:RowKit.Hid (rX (fun k=>w0.heap.size≤k∧k<w1x.heap.size) (w12x) [.int .i64 x.kind, .int .i64 x.n, .string x.s, .slice a_x x.args.length c_x] x):=zh (Good.keep (R:=rX) ⟨hs12.size,fun k hk hS=>hs12.block k hk (by omega)⟩ (fun _ _ h=>h) X_x9.out)
   have X_cs13:RowKit.Hid (rCs (fun k=>B0≤k∧k<wo.heap.size) (w12x) [.slice aC cs.length cC] cs):=zh (Good.keep (R:=rCs) ⟨hs12.size,fun k hk hS=>hs12.block k hk (by omega)⟩ (fun _ _ h=>h) X_cs0.out)
   have H13:=zh h12
   have B13:=zh (B9.out.box hs12)
   have S13:=zh (S9.out.trans hs12)
   have D12i:=zh (show st12.fault=0→st12.depth=30 - (d:Int) from fun e=>hg12.dep_eq e)
   have Hf12:=zh hf12
   clear h12 hs12 hf12
   cases b12 with
   |true=>
    have R12i:=zh (good_yesB hg12 RC.out)
    have Hy12:=zh (hy12 rfl).1
    have Hyi12:=zh (hy12 rfl).2
    clear hg12 hy12 hn12
    have RYD:=zh (show Res=runR T (PR.bind (mustR ⟨#[58]⟩) fun _=>PR.bind (blockR d) (fun e=>PR.bind (mustR ⟨#[125]⟩) fun _=>PR.ret (.mk 7 ⟨#[]⟩ ⟨#[]⟩ [x] [] e cs))) st12 from R12i.out.trans (by rw [bind_assoc]))
    go_wp2_with fail
    refine (readMust_any H13.out D12i.out ⟨#[58]⟩).mono ?_
    rintro en w14x ⟨st14,rfl,h14,hs14,hg14⟩
    have hz15:=hs14.size
    have K_r15:=zh ((hs14.block w.heap.size (by omega) (by omega)).trans K_r13.out)
    have K_xs15:=zh ((hs14.block b_xs (by omega) (by omega)).trans K_xs13.out)
    have K_s15:=zh ((hs14.block b_s (by omega) (by omega)).trans K_s13.out)
    have X_x15:RowKit.Hid (rX (fun k=>w0.heap.size≤k∧k<w1x.heap.size) (w14x) [.int .i64 x.kind, .int .i64 x.n, .string x.s, .slice a_x x.args.length c_x] x):=zh (Good.keep (R:=rX) ⟨hs14.size,fun k hk hS=>hs14.block k hk (by omega)⟩ (fun _ _ h=>h) X_x13.out)
    have X_cs15:RowKit.Hid (rCs (fun k=>B0≤k∧k<wo.heap.size) (w14x) [.slice aC cs.length cC] cs):=zh (Good.keep (R:=rCs) ⟨hs14.size,fun k hk hS=>hs14.block k hk (by omega)⟩ (fun _ _ h=>h) X_cs13.out)
    have H15:=zh h14
    have B15:=zh (B13.out.box hs14)
    have S15:=zh (S13.out.trans hs14)
    have R16:=zh (hg14.next RYD.out)
    have D16:=zh (show st14.fault=0→st14.depth=30 - (d:Int) from fun e=>hg14.dep_eq e)
    clear h14 hs14 hg14
    go_wp2_with fail
    refine (hK w14x br bT cap base T st14 H15.out B15.out D16.out).mono ?_
    rintro en w17x ⟨v17,e,st17,rfl,hx17,h17,hs17,hg17⟩
    obtain ⟨a_e,c_e,rfl⟩:=rSs_shape hx17
    have hz18:=hs17.size
    have K_r18:=zh ((hs17.block w.heap.size (by omega) (by omega)).trans K_r15.out)
    have K_xs18:=zh ((hs17.block b_xs (by omega) (by omega)).trans K_xs15.out)
    have K_s18:=zh ((hs17.block b_s (by omega) (by omega)).trans K_s15.out)
    have X_x18:RowKit.Hid (rX (fun k=>w0.heap.size≤k∧k<w1x.heap.size) (w17x) [.int .i64 x.kind, .int .i64 x.n, .string x.s, .slice a_x x.args.length c_x] x):=zh (Good.keep (R:=rX) ⟨hs17.size,fun k hk hS=>hs17.block k hk (by omega)⟩ (fun _ _ h=>h) X_x15.out)
    have X_cs18:RowKit.Hid (rCs (fun k=>B0≤k∧k<wo.heap.size) (w17x) [.slice aC cs.length cC] cs):=zh (Good.keep (R:=rCs) ⟨hs17.size,fun k hk hS=>hs17.block k hk (by omega)⟩ (fun _ _ h=>h) X_cs15.out)
    have H18:=zh h17
    have B18:=zh (B15.out.box hs17)
    have S18:=zh (S15.out.trans hs17)
    have X_e17:RowKit.Hid (rSs (fun k=>w14x.heap.size≤k∧k<w17x.heap.size) w17x [.slice a_e e.length c_e] e):=zh (Good.wide (R:=rSs) hx17 (fun k h1 h2=>⟨h2,h1⟩))
    clear hx17
    have R19:=zh (hg17.next R16.out)
    have D19:=zh (show st17.fault=0→st17.depth=30 - (d:Int) from fun e=>hg17.dep_eq e)
    clear h17 hs17 hg17
    have gs20_0:=ca0 K_s18.out
    have gs20_1:=ca1 K_s18.out
    have gs20_2:=ca2 K_s18.out
    have gs20_3:=ca3 K_s18.out
    have gs20_4:=ca4 K_s18.out
    have gs20_5:=ca5 K_s18.out
    have gs20_6:=ca6 K_s18.out
    have gs20_z:=cz K_s18.out
    have hs21:Since (fun k=>k=b_s) (w17x) (w17x.setCell ⟨b_s,5,none⟩ (.slice a_e e.length c_e)):=Since.setCell (w17x) ⟨b_s,5,none⟩ (.slice a_e e.length c_e)
    have K_s21:RowKit.Hid ((w17x.setCell ⟨b_s,5,none⟩ (.slice a_e e.length c_e)).heap[b_s]?=some (.cells #[.int .i64 7, .string ⟨#[]⟩, .string ⟨#[]⟩, .slice (some ⟨b_xs,0,none⟩) 1 1, .slice none 0 0, .slice a_e e.length c_e, .slice aC cs.length cC] 32 (0,0))):=zh (by have:=box_set K_s18.out 5 (.slice a_e e.length c_e) (by simp);simpa using this)
    have hz22:=hs21.size
    have K_r22:=zh ((hs21.block w.heap.size (by omega) (by omega)).trans K_r18.out)
    have K_xs22:=zh ((hs21.block b_xs (by omega) (by omega)).trans K_xs18.out)
    have X_x22:RowKit.Hid (rX (fun k=>w0.heap.size≤k∧k<w1x.heap.size) (w17x.setCell ⟨b_s,5,none⟩ (.slice a_e e.length c_e)) [.int .i64 x.kind, .int .i64 x.n, .string x.s, .slice a_x x.args.length c_x] x):=zh (Good.keep (R:=rX) ⟨hs21.size,fun k hk hS=>hs21.block k hk (by omega)⟩ (fun _ _ h=>h) X_x18.out)
    have X_cs22:RowKit.Hid (rCs (fun k=>B0≤k∧k<wo.heap.size) (w17x.setCell ⟨b_s,5,none⟩ (.slice a_e e.length c_e)) [.slice aC cs.length cC] cs):=zh (Good.keep (R:=rCs) ⟨hs21.size,fun k hk hS=>hs21.block k hk (by omega)⟩ (fun _ _ h=>h) X_cs18.out)
    have X_e22:RowKit.Hid (rSs (fun k=>w14x.heap.size≤k∧k<w17x.heap.size) (w17x.setCell ⟨b_s,5,none⟩ (.slice a_e e.length c_e)) [.slice a_e e.length c_e] e):=zh (Good.keep (R:=rSs) ⟨hs21.size,fun k hk hS=>hs21.block k hk (by omega)⟩ (fun _ _ h=>h) X_e17.out)
    have H22:=zh (H18.out.since hs21 (by omega) (by omega))
    have B22:=zh (B18.out.since hs21 (fun k e=>by omega))
    have S22:=zh (S18.out.then_new hs21 (fun k e=>Or.inr (by omega)))
    go_wp2_with fail
    clear gs20_0 gs20_1 gs20_2 gs20_3 gs20_4 gs20_5 gs20_6 gs20_z
    generalize w17x.setCell ⟨b_s,5,none⟩ (.slice a_e e.length c_e)=wg23 at *
    refine (readMust_any H22.out D19.out ⟨#[125]⟩).mono ?_
    rintro en w24x ⟨st24,rfl,h24,hs24,hg24⟩
    have hz25:=hs24.size
    have K_r25:=zh ((hs24.block w.heap.size (by omega) (by omega)).trans K_r22.out)
    have K_xs25:=zh ((hs24.block b_xs (by omega) (by omega)).trans K_xs22.out)
    have K_s25:=zh ((hs24.block b_s (by omega) (by omega)).trans K_s21.out)
    have X_x25:RowKit.Hid (rX (fun k=>w0.heap.size≤k∧k<w1x.heap.size) (w24x) [.int .i64 x.kind, .int .i64 x.n, .string x.s, .slice a_x x.args.length c_x] x):=zh (Good.keep (R:=rX) ⟨hs24.size,fun k hk hS=>hs24.block k hk (by omega)⟩ (fun _ _ h=>h) X_x22.out)
    have X_cs25:RowKit.Hid (rCs (fun k=>B0≤k∧k<wo.heap.size) (w24x) [.slice aC cs.length cC] cs):=zh (Good.keep (R:=rCs) ⟨hs24.size,fun k hk hS=>hs24.block k hk (by omega)⟩ (fun _ _ h=>h) X_cs22.out)
    have X_e25:RowKit.Hid (rSs (fun k=>w14x.heap.size≤k∧k<w17x.heap.size) (w24x) [.slice a_e e.length c_e] e):=zh (Good.keep (R:=rSs) ⟨hs24.size,fun k hk hS=>hs24.block k hk (by omega)⟩ (fun _ _ h=>h) X_e22.out)
    have H25:=zh h24
    have B25:=zh (B22.out.box hs24)
    have S25:=zh (S22.out.trans hs24)
    have R26:=zh (hg24.next R19.out)
    have D26:=zh (show st24.fault=0→st24.depth=30 - (d:Int) from fun e=>hg24.dep_eq e)
    clear h24 hs24 hg24
    have gs27_0:=ca0 K_s25.out
    have gs27_1:=ca1 K_s25.out
    have gs27_2:=ca2 K_s25.out
    have gs27_3:=ca3 K_s25.out
    have gs27_4:=ca4 K_s25.out
    have gs27_5:=ca5 K_s25.out
    have gs27_6:=ca6 K_s25.out
    have gs27_z:=cz K_s25.out
    have gr28_0:=ca0 K_r25.out
    have gr28_1:=ca1 K_r25.out
    have gr28_2:=ca2 K_r25.out
    have gr28_3:=ca3 K_r25.out
    have gr28_4:=ca4 K_r25.out
    have gr28_5:=ca5 K_r25.out
    have gr28_6:=ca6 K_r25.out
    have gr28_z:=cz K_r25.out
    go_wp2_with fail
    obtain ⟨mb,ms⟩:=cells7 (w:=w24x) K_r25.out (.int .i64 7) (.string ⟨#[]⟩) (.string ⟨#[]⟩) (.slice (some ⟨b_xs,0,none⟩) 1 1) (.slice none 0 0) (.slice a_e e.length c_e) (.slice aC cs.length cC)
    generalize hWW:((((((w24x.setCell ⟨w.heap.size,0,none⟩ (.int .i64 7)).setCell ⟨w.heap.size,1,none⟩ (.string ⟨#[]⟩)).setCell ⟨w.heap.size,2,none⟩ (.string ⟨#[]⟩)).setCell ⟨w.heap.size,3,none⟩ (.slice (some ⟨b_xs,0,none⟩) 1 1)).setCell ⟨w.heap.size,4,none⟩ (.slice none 0 0)).setCell ⟨w.heap.size,5,none⟩ (.slice a_e e.length c_e)).setCell ⟨w.heap.size,6,none⟩ (.slice aC cs.length cC)=WW at *
    have m0:=ca0 mb
    have m1:=ca1 mb
    have m2:=ca2 mb
    have m3:=ca3 mb
    have m4:=ca4 mb
    have m5:=ca5 mb
    have m6:=ca6 mb
    refine bodyPost_ret (v:= .agg #[.int .i64 7, .string ⟨#[]⟩, .string ⟨#[]⟩, .slice (some ⟨b_xs,0,none⟩) 1 1, .slice none 0 0, .slice a_e e.length c_e, .slice aC cs.length cC]) (by simp [results,Tryd.results63,go_sem,m0,m1,m2,m3,m4,m5,m6]) rfl ⟨_, .mk 7 ⟨#[]⟩ ⟨#[]⟩ [x] [] e cs,st24,rfl,rS_mk 7 ⟨#[]⟩ ⟨#[]⟩ (ini rfl) (by decide) (by decide) (rXs_one (Good.keep (R:=rX) ⟨ms.size,fun k hk hS=>ms.block k hk (by omega)⟩ (fun k hk hS=>by omega) X_x25.out) ((ms.block b_xs (by omega) (by omega)).trans K_xs25.out) (show w.heap.size≤b_xs by omega) (by decide) (by decide)) (rSs_nil _ _) (Good.keep (R:=rSs) ⟨ms.size,fun k hk hS=>ms.block k hk (by omega)⟩ (fun k hk hS=>by omega) X_e25.out) (Good.keep (R:=rCs) ⟨ms.size,fun k hk hS=>ms.block k hk (by omega)⟩ (fun k hk hS=>by omega) X_cs25.out),(H25.out).since ms (by omega) (by omega),(S25.out).then_new ms (fun k e=>Or.inr (by omega)),?_⟩
    exact Good'.end R26.out D26.out
   |false=>
    have R12i:=zh (good_noB hg12 RC.out)
    have Hn12:=zh (hn12 rfl)
    clear hg12 hy12 hn12
    have RN:=zh (show Res=runR T (PR.bind (mustR ⟨#[125]⟩) fun _=>PR.ret (.mk 7 ⟨#[]⟩ ⟨#[]⟩ [x] [] [] cs)) st12 from R12i.out)
    go_wp2_with fail
    refine (readMust_any H13.out D12i.out ⟨#[125]⟩).mono ?_
    rintro en w14x ⟨st14,rfl,h14,hs14,hg14⟩
    have hz15:=hs14.size
    have K_r15:=zh ((hs14.block w.heap.size (by omega) (by omega)).trans K_r13.out)
    have K_xs15:=zh ((hs14.block b_xs (by omega) (by omega)).trans K_xs13.out)
    have K_s15:=zh ((hs14.block b_s (by omega) (by omega)).trans K_s13.out)
    have X_x15:RowKit.Hid (rX (fun k=>w0.heap.size≤k∧k<w1x.heap.size) (w14x) [.int .i64 x.kind, .int .i64 x.n, .string x.s, .slice a_x x.args.length c_x] x):=zh (Good.keep (R:=rX) ⟨hs14.size,fun k hk hS=>hs14.block k hk (by omega)⟩ (fun _ _ h=>h) X_x13.out)
    have X_cs15:RowKit.Hid (rCs (fun k=>B0≤k∧k<wo.heap.size) (w14x) [.slice aC cs.length cC] cs):=zh (Good.keep (R:=rCs) ⟨hs14.size,fun k hk hS=>hs14.block k hk (by omega)⟩ (fun _ _ h=>h) X_cs13.out)
    have H15:=zh h14
    have B15:=zh (B13.out.box hs14)
    have S15:=zh (S13.out.trans hs14)
    have R16:=zh (hg14.next RN.out)
    have D16:=zh (show st14.fault=0→st14.depth=30 - (d:Int) from fun e=>hg14.dep_eq e)
    clear h14 hs14 hg14
    have gs17_0:=ca0 K_s15.out
    have gs17_1:=ca1 K_s15.out
    have gs17_2:=ca2 K_s15.out
    have gs17_3:=ca3 K_s15.out
    have gs17_4:=ca4 K_s15.out
    have gs17_5:=ca5 K_s15.out
    have gs17_6:=ca6 K_s15.out
    have gs17_z:=cz K_s15.out
    have gr18_0:=ca0 K_r15.out
    have gr18_1:=ca1 K_r15.out
    have gr18_2:=ca2 K_r15.out
    have gr18_3:=ca3 K_r15.out
    have gr18_4:=ca4 K_r15.out
    have gr18_5:=ca5 K_r15.out
    have gr18_6:=ca6 K_r15.out
    have gr18_z:=cz K_r15.out
    go_wp2_with fail
    obtain ⟨mb,ms⟩:=cells7 (w:=w14x) K_r15.out (.int .i64 7) (.string ⟨#[]⟩) (.string ⟨#[]⟩) (.slice (some ⟨b_xs,0,none⟩) 1 1) (.slice none 0 0) (.slice none 0 0) (.slice aC cs.length cC)
    generalize hWW:((((((w14x.setCell ⟨w.heap.size,0,none⟩ (.int .i64 7)).setCell ⟨w.heap.size,1,none⟩ (.string ⟨#[]⟩)).setCell ⟨w.heap.size,2,none⟩ (.string ⟨#[]⟩)).setCell ⟨w.heap.size,3,none⟩ (.slice (some ⟨b_xs,0,none⟩) 1 1)).setCell ⟨w.heap.size,4,none⟩ (.slice none 0 0)).setCell ⟨w.heap.size,5,none⟩ (.slice none 0 0)).setCell ⟨w.heap.size,6,none⟩ (.slice aC cs.length cC)=WW at *
    have m0:=ca0 mb
    have m1:=ca1 mb
    have m2:=ca2 mb
    have m3:=ca3 mb
    have m4:=ca4 mb
    have m5:=ca5 mb
    have m6:=ca6 mb
    refine bodyPost_ret (v:= .agg #[.int .i64 7, .string ⟨#[]⟩, .string ⟨#[]⟩, .slice (some ⟨b_xs,0,none⟩) 1 1, .slice none 0 0, .slice none 0 0, .slice aC cs.length cC]) (by simp [results,Tryd.results63,go_sem,m0,m1,m2,m3,m4,m5,m6]) rfl ⟨_, .mk 7 ⟨#[]⟩ ⟨#[]⟩ [x] [] [] cs,st14,rfl,rS_mk 7 ⟨#[]⟩ ⟨#[]⟩ (ini rfl) (by decide) (by decide) (rXs_one (Good.keep (R:=rX) ⟨ms.size,fun k hk hS=>ms.block k hk (by omega)⟩ (fun k hk hS=>by omega) X_x15.out) ((ms.block b_xs (by omega) (by omega)).trans K_xs15.out) (show w.heap.size≤b_xs by omega) (by decide) (by decide)) (rSs_nil _ _) (rSs_nil _ _) (Good.keep (R:=rCs) ⟨ms.size,fun k hk hS=>ms.block k hk (by omega)⟩ (fun k hk hS=>by omega) X_cs15.out),(H15.out).since ms (by omega) (by omega),(S15.out).then_new ms (fun k e=>Or.inr (by omega)),?_⟩
    exact Good'.end R16.out D16.out
end Go.Proofs.YtkopjgnjflhkeaaDoor

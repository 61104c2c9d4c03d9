import Derived.Test.YtkopjgnjflhkeaaDoorTE
namespace Go.Proofs.YtkopjgnjflhkeaaDoor
open Go.RowKit Go.Pst
set_option linter.unusedVariables false
set_option linter.unusedSimpArgs false
variable {w:World} {br bT cap base:Nat} {T:List Tok} {st:RSt} {dep:Int}
theorem elif_bad {d:Nat} {T:List Tok} {st st1:RSt} {α:Type} {q:PStmt→PR α} {Res:Except (Int × Int) (α × List Tok)} {dep:Int} (e:Res=runR T (PR.bind (elifR d) q) st) (hg:Good' T dep (runR T (deepR d) st) () st1) (h1:st1.fault≠0):Res= .error (st1.pos,st1.fault):=by
 have e1:=hg.fault1 h1
 rw [e]
 by_cases hsf:st.fault=0
 ·
  rw [runR_ok hsf] at e1 ⊢
  unfold deepR at e1
  split at e1
  ·
   rename_i hz
   subst hz
   injection e1 with e1
   rw [←e1]
   rfl
  ·
   cases e1
 ·
  rw [runR_bad hsf] at e1 ⊢
  injection e1 with e1
  rw [e1]
theorem elif_ok {d:Nat} {T:List Tok} {st st1:RSt} {α:Type} {q:PStmt→PR α} {Res:Except (Int × Int) (α × List Tok)} {dep:Int} (e:Res=runR T (PR.bind (elifR d) q) st) (hg:Good' T dep (runR T (deepR d) st) () st1) (h1:st1.fault=0): ∃ d',d=d'+1∧Res=runR T (PR.bind (ifG (exprR d') (blockR d') (elifR d')) q) st1:=by
 obtain ⟨e1,-⟩:=hg.fault0 h1
 have hsf:=hg.fault_of h1
 rw [runR_ok hsf] at e1
 have hdz:d≠0:=fun e=>by rw [e] at e1;cases e1
 obtain ⟨d',rfl⟩: ∃ d',d=d'+1:=⟨d - 1,by omega⟩
 refine ⟨d',rfl,?_⟩
 unfold deepR at e1
 rw [if_neg hdz] at e1
 injection e1 with e1
 injection e1 with _ e1
 rw [e,runR_ok hsf,runR_ok h1,←e1]
 rfl
theorem rdUp {w:World} {br bT cap:Nat} {T:List Tok} {st:RSt} (h:RdAt w br bT cap T st):RdAt (w.setCell ⟨br,4,none⟩ (.int .i64 (wrap64 (st.depth - 1)))) br bT cap T st.up:=h.set 4 _ st.up (by simp) (by simp [RSt.up]) (by simp [RSt.up]) (by simp [RSt.up]) (by simp [RSt.up]) h.inn
theorem upD2 {α:Type} {T:List Tok} {d d':Nat} {Res:Except (Int × Int) (α × List Tok)} {x:α} {st:RSt} (e:Res=runR T (PR.ret x) st) (hd:st.fault=0→st.depth=30 - (d':Int)) (hdd:(d:Int)=d'+1) (h30:d≤30):Good' T (30 - (d:Int)) Res x st.up:=by
 have h:=Good'.end e hd
 have:=h.up (by omega) (by omega)
 rw [show (30:Int) - (d:Int)=30 - (d':Int) - 1 by omega]
 exact this
set_option maxRecDepth 4000 in
set_option maxHeartbeats 4000000 in
theorem readIf_any (d:Nat) (hd30:d≤30) (hE:ExprOK d) (hK:BlockOK d) (hI: ∀ d',d=d'+1→IfOK d'):IfOK d:=by
 intro w br bT cap base T st h hL h0 hd
 have hbr:=h.lt.1
 have hbT:=h.lt.2
 obtain ⟨Res,hres⟩: ∃ Res,Res=ifG (exprR d) (blockR d) (elifR d) (T.drop st.i):=⟨_,rfl⟩
 rw [←hres]
 have hs0:Since (fun _=>False) w (w.alloc (.cells #[.int .i64 0, .string ⟨#[]⟩, .string ⟨#[]⟩, .slice none 0 0, .slice none 0 0, .slice none 0 0, .slice none 0 0] 32)):=Since.alloc _ _ _
 have hb0:(w.alloc (.cells #[.int .i64 0, .string ⟨#[]⟩, .string ⟨#[]⟩, .slice none 0 0, .slice none 0 0, .slice none 0 0, .slice none 0 0] 32)).heap[w.heap.size]?=some (.cells #[.int .i64 0, .string ⟨#[]⟩, .string ⟨#[]⟩, .slice none 0 0, .slice none 0 0, .slice none 0 0, .slice none 0 0] 32 (0,0)):=heap_alloc_new w _
 have hlb:=hL.lb.2
 have hA:=h.later hs0
 have hB:=hL.later hs0
 have hlt0:w.heap.size<(w.alloc (.cells #[.int .i64 0, .string ⟨#[]⟩, .string ⟨#[]⟩, .slice none 0 0, .slice none 0 0, .slice none 0 0, .slice none 0 0] 32)).heap.size:=by simp
 have HA:=zh hA
 have HB:=zh hB
 have K_r0:=zh hb0
 have S0:=zh (show Since (fun k=>k=br) w (w.alloc (.cells #[.int .i64 0, .string ⟨#[]⟩, .string ⟨#[]⟩, .slice none 0 0, .slice none 0 0, .slice none 0 0, .slice none 0 0] 32)) from hs0.mono (fun _ f=>f.elim))
 have D0:=zh (show st.fault=0→st.depth=30 - (d:Int) from fun _=>hd)
 have R0:RowKit.Hid (Res=runR T _ st):=zh (hres.trans (runR_ok (T:=T) h0).symm)
 have H0:=zh h0
 clear h hL hA hB hb0 hs0 hres h0 hd
 go_enter Tryd.func61,Tryd.ntmps61
 go_wp2_with fail
 generalize w.alloc (.cells #[.int .i64 0, .string ⟨#[]⟩, .string ⟨#[]⟩, .slice none 0 0, .slice none 0 0, .slice none 0 0, .slice none 0 0] 32)=w0 at *
 refine (hE w0 br bT cap base T st HA.out HB.out D0.out).mono ?_
 rintro en w1x ⟨cs1,x,st1,rfl,hx1,h1,hs1,hg1⟩
 obtain ⟨a_x,c_x,rfl⟩:=rX_shape hx1
 have hz2:=hs1.size
 have K_r2:=zh ((hs1.block w.heap.size (by omega) (by omega)).trans K_r0.out)
 have H2:=zh h1
 have B2:=zh (HB.out.box hs1)
 have S2:=zh (S0.out.trans hs1)
 have X_x1:RowKit.Hid (rX (fun k=>w0.heap.size≤k∧k<w1x.heap.size) w1x [.int .i64 x.kind, .int .i64 x.n, .string x.s, .slice a_x x.args.length c_x] x):=zh (Good.wide (R:=rX) hx1 (fun k h1 h2=>⟨h2,h1⟩))
 clear hx1
 have R3:=zh (hg1.next R0.out)
 have D3:=zh (show st1.fault=0→st1.depth=30 - (d:Int) from fun e=>hg1.dep_eq e)
 clear h1 hs1 hg1
 obtain ⟨b_xs,hb_xs⟩: ∃ b_xs,b_xs=w1x.heap.size:=⟨_,rfl⟩
 obtain ⟨b_s,hb_s⟩: ∃ b_s,b_s=w1x.heap.size+1:=⟨_,rfl⟩
 have hs4:Since (fun _=>False) (w1x) (w1x.alloc (.cells #[.int .i64 x.kind, .int .i64 x.n, .string x.s, .slice a_x x.args.length c_x] 28)):=Since.alloc _ _ _
 have hw4:(w1x.alloc (.cells #[.int .i64 x.kind, .int .i64 x.n, .string x.s, .slice a_x x.args.length c_x] 28)).heap.size=b_xs+1:=by rw [hb_xs];simp
 have K_xs4:RowKit.Hid ((w1x.alloc (.cells #[.int .i64 x.kind, .int .i64 x.n, .string x.s, .slice a_x x.args.length c_x] 28)).heap[b_xs]?=some (.cells #[.int .i64 x.kind, .int .i64 x.n, .string x.s, .slice a_x x.args.length c_x] 28 (0,0))):=zh (by have e:b_xs=(w1x).heap.size:=(by first|exact hb_xs|(rw [hb_xs];simp));have e2:=heap_alloc_new (w1x) (.cells #[.int .i64 x.kind, .int .i64 x.n, .string x.s, .slice a_x x.args.length c_x] 28);rw [←e] at e2;exact e2)
 have hz5:=hs4.size
 have K_r5:=zh ((hs4.block w.heap.size (by omega) (fun f=>f)).trans K_r2.out)
 have X_x5:RowKit.Hid (rX (fun k=>w0.heap.size≤k∧k<w1x.heap.size) (w1x.alloc (.cells #[.int .i64 x.kind, .int .i64 x.n, .string x.s, .slice a_x x.args.length c_x] 28)) [.int .i64 x.kind, .int .i64 x.n, .string x.s, .slice a_x x.args.length c_x] x):=zh (Good.keep (R:=rX) ⟨hs4.size,fun k hk hS=>hs4.block k hk (fun f=>f)⟩ (fun _ _ h=>h) X_x1.out)
 have H5:=zh (H2.out.later hs4)
 have B5:=zh (B2.out.later hs4)
 have S5:RowKit.Hid (Since (fun k=>k=br) w (w1x.alloc (.cells #[.int .i64 x.kind, .int .i64 x.n, .string x.s, .slice a_x x.args.length c_x] 28))):=zh (S2.out.trans (hs4.mono (fun _ f=>f.elim)))
 have hs6:Since (fun _=>False) (w1x.alloc (.cells #[.int .i64 x.kind, .int .i64 x.n, .string x.s, .slice a_x x.args.length c_x] 28)) ((w1x.alloc (.cells #[.int .i64 x.kind, .int .i64 x.n, .string x.s, .slice a_x x.args.length c_x] 28)).alloc (.cells #[.int .i64 4, .string ⟨#[]⟩, .string ⟨#[]⟩, .slice (some ⟨b_xs,0,none⟩) 1 1, .slice none 0 0, .slice none 0 0, .slice none 0 0] 32)):=Since.alloc _ _ _
 have hw6:((w1x.alloc (.cells #[.int .i64 x.kind, .int .i64 x.n, .string x.s, .slice a_x x.args.length c_x] 28)).alloc (.cells #[.int .i64 4, .string ⟨#[]⟩, .string ⟨#[]⟩, .slice (some ⟨b_xs,0,none⟩) 1 1, .slice none 0 0, .slice none 0 0, .slice none 0 0] 32)).heap.size=b_s+1:=by rw [hb_s];simp
 have K_s6:RowKit.Hid (((w1x.alloc (.cells #[.int .i64 x.kind, .int .i64 x.n, .string x.s, .slice a_x x.args.length c_x] 28)).alloc (.cells #[.int .i64 4, .string ⟨#[]⟩, .string ⟨#[]⟩, .slice (some ⟨b_xs,0,none⟩) 1 1, .slice none 0 0, .slice none 0 0, .slice none 0 0] 32)).heap[b_s]?=some (.cells #[.int .i64 4, .string ⟨#[]⟩, .string ⟨#[]⟩, .slice (some ⟨b_xs,0,none⟩) 1 1, .slice none 0 0, .slice none 0 0, .slice none 0 0] 32 (0,0))):=zh (by have e:b_s=(w1x.alloc (.cells #[.int .i64 x.kind, .int .i64 x.n, .string x.s, .slice a_x x.args.length c_x] 28)).heap.size:=(by first|exact hb_s|(rw [hb_s];simp));have e2:=heap_alloc_new (w1x.alloc (.cells #[.int .i64 x.kind, .int .i64 x.n, .string x.s, .slice a_x x.args.length c_x] 28)) (.cells #[.int .i64 4, .string ⟨#[]⟩, .string ⟨#[]⟩, .slice (some ⟨b_xs,0,none⟩) 1 1, .slice none 0 0, .slice none 0 0, .slice none 0 0] 32);rw [←e] at e2;exact e2)
 have hz7:=hs6.size
 have K_r7:=zh ((hs6.block w.heap.size (by omega) (fun f=>f)).trans K_r5.out)
 have K_xs7:=zh ((hs6.block b_xs (by omega) (fun f=>f)).trans K_xs4.out)
 have X_x7:RowKit.Hid (rX (fun k=>w0.heap.size≤k∧k<w1x.heap.size) ((w1x.alloc (.cells #[.int .i64 x.kind, .int .i64 x.n, .string x.s, .slice a_x x.args.length c_x] 28)).alloc (.cells #[.int .i64 4, .string ⟨#[]⟩, .string ⟨#[]⟩, .slice (some ⟨b_xs,0,none⟩) 1 1, .slice none 0 0, .slice none 0 0, .slice none 0 0] 32)) [.int .i64 x.kind, .int .i64 x.n, .string x.s, .slice a_x x.args.length c_x] x):=zh (Good.keep (R:=rX) ⟨hs6.size,fun k hk hS=>hs6.block k hk (fun f=>f)⟩ (fun _ _ h=>h) X_x5.out)
 have H7:=zh (H5.out.later hs6)
 have B7:=zh (B5.out.later hs6)
 have S7:RowKit.Hid (Since (fun k=>k=br) w ((w1x.alloc (.cells #[.int .i64 x.kind, .int .i64 x.n, .string x.s, .slice a_x x.args.length c_x] 28)).alloc (.cells #[.int .i64 4, .string ⟨#[]⟩, .string ⟨#[]⟩, .slice (some ⟨b_xs,0,none⟩) 1 1, .slice none 0 0, .slice none 0 0, .slice none 0 0] 32))):=zh (S5.out.trans (hs6.mono (fun _ f=>f.elim)))
 have ho_xs:b_xs<b_s:=by omega
 have hl_xs:w1x.heap.size≤b_xs:=by omega
 have hl_s:w1x.heap.size≤b_s:=by omega
 go_wp2_with fail
 rw [←hb_s]
 rw [←hb_xs]
 clear hb_xs
 clear hb_s
 generalize (w1x.alloc (.cells #[.int .i64 x.kind, .int .i64 x.n, .string x.s, .slice a_x x.args.length c_x] 28)).alloc (.cells #[.int .i64 4, .string ⟨#[]⟩, .string ⟨#[]⟩, .slice (some ⟨b_xs,0,none⟩) 1 1, .slice none 0 0, .slice none 0 0, .slice none 0 0] 32)=wg8 at *
 refine (hK wg8 br bT cap base T st1 H7.out B7.out D3.out).mono ?_
 rintro en w9x ⟨v9,l,st9,rfl,hx9,h9,hs9,hg9⟩
 obtain ⟨a_l,c_l,rfl⟩:=rSs_shape hx9
 have hz10:=hs9.size
 have K_r10:=zh ((hs9.block w.heap.size (by omega) (by omega)).trans K_r7.out)
 have K_xs10:=zh ((hs9.block b_xs (by omega) (by omega)).trans K_xs7.out)
 have K_s10:=zh ((hs9.block b_s (by omega) (by omega)).trans K_s6.out)
 have X_x10:RowKit.Hid (rX (fun k=>w0.heap.size≤k∧k<w1x.heap.size) (w9x) [.int .i64 x.kind, .int .i64 x.n, .string x.s, .slice a_x x.args.length c_x] x):=zh (Good.keep (R:=rX) ⟨hs9.size,fun k hk hS=>hs9.block k hk (by omega)⟩ (fun _ _ h=>h) X_x7.out)
 have H10:=zh h9
 have B10:=zh (B7.out.box hs9)
 have S10:=zh (S7.out.trans hs9)
 have X_l9:RowKit.Hid (rSs (fun k=>wg8.heap.size≤k∧k<w9x.heap.size) w9x [.slice a_l l.length c_l] l):=zh (Good.wide (R:=rSs) hx9 (fun k h1 h2=>⟨h2,h1⟩))
 clear hx9
 have R11:=zh (hg9.next R3.out)
 have D11:=zh (show st9.fault=0→st9.depth=30 - (d:Int) from fun e=>hg9.dep_eq e)
 clear h9 hs9 hg9
 have gs12_0:=ca0 K_s10.out
 have gs12_1:=ca1 K_s10.out
 have gs12_2:=ca2 K_s10.out
 have gs12_3:=ca3 K_s10.out
 have gs12_4:=ca4 K_s10.out
 have gs12_5:=ca5 K_s10.out
 have gs12_6:=ca6 K_s10.out
 have gs12_z:=cz K_s10.out
 have hs13:Since (fun k=>k=b_s) (w9x) (w9x.setCell ⟨b_s,4,none⟩ (.slice a_l l.length c_l)):=Since.setCell (w9x) ⟨b_s,4,none⟩ (.slice a_l l.length c_l)
 have K_s13:RowKit.Hid ((w9x.setCell ⟨b_s,4,none⟩ (.slice a_l l.length c_l)).heap[b_s]?=some (.cells #[.int .i64 4, .string ⟨#[]⟩, .string ⟨#[]⟩, .slice (some ⟨b_xs,0,none⟩) 1 1, .slice a_l l.length c_l, .slice none 0 0, .slice none 0 0] 32 (0,0))):=zh (by have:=box_set K_s10.out 4 (.slice a_l l.length c_l) (by simp);simpa using this)
 have hz14:=hs13.size
 have K_r14:=zh ((hs13.block w.heap.size (by omega) (by omega)).trans K_r10.out)
 have K_xs14:=zh ((hs13.block b_xs (by omega) (by omega)).trans K_xs10.out)
 have X_x14:RowKit.Hid (rX (fun k=>w0.heap.size≤k∧k<w1x.heap.size) (w9x.setCell ⟨b_s,4,none⟩ (.slice a_l l.length c_l)) [.int .i64 x.kind, .int .i64 x.n, .string x.s, .slice a_x x.args.length c_x] x):=zh (Good.keep (R:=rX) ⟨hs13.size,fun k hk hS=>hs13.block k hk (by omega)⟩ (fun _ _ h=>h) X_x10.out)
 have X_l14:RowKit.Hid (rSs (fun k=>wg8.heap.size≤k∧k<w9x.heap.size) (w9x.setCell ⟨b_s,4,none⟩ (.slice a_l l.length c_l)) [.slice a_l l.length c_l] l):=zh (Good.keep (R:=rSs) ⟨hs13.size,fun k hk hS=>hs13.block k hk (by omega)⟩ (fun _ _ h=>h) X_l9.out)
 have H14:=zh (H10.out.since hs13 (by omega) (by omega))
 have B14:=zh (B10.out.since hs13 (fun k e=>by omega))
 have S14:=zh (S10.out.then_new hs13 (fun k e=>Or.inr (by omega)))
 go_wp2_with fail
 clear gs12_0 gs12_1 gs12_2 gs12_3 gs12_4 gs12_5 gs12_6 gs12_z
 generalize w9x.setCell ⟨b_s,4,none⟩ (.slice a_l l.length c_l)=wg15 at *
 refine (readIs_any H14.out D11.out ⟨#[101,108,115,101]⟩).mono ?_
 rintro en w16x ⟨b16,st16,rfl,h16,hs16,hg16,hf16,hy16,hn16⟩
 have hz17:=hs16.size
 have K_r17:=zh ((hs16.block w.heap.size (by omega) (by omega)).trans K_r14.out)
 have K_xs17:=zh ((hs16.block b_xs (by omega) (by omega)).trans K_xs14.out)
 have K_s17:=zh ((hs16.block b_s (by omega) (by omega)).trans K_s13.out)
 have X_x17:RowKit.Hid (rX (fun k=>w0.heap.size≤k∧k<w1x.heap.size) (w16x) [.int .i64 x.kind, .int .i64 x.n, .string x.s, .slice a_x x.args.length c_x] x):=zh (Good.keep (R:=rX) ⟨hs16.size,fun k hk hS=>hs16.block k hk (by omega)⟩ (fun _ _ h=>h) X_x14.out)
 have X_l17:RowKit.Hid (rSs (fun k=>wg8.heap.size≤k∧k<w9x.heap.size) (w16x) [.slice a_l l.length c_l] l):=zh (Good.keep (R:=rSs) ⟨hs16.size,fun k hk hS=>hs16.block k hk (by omega)⟩ (fun _ _ h=>h) X_l14.out)
 have H17:=zh h16
 have B17:=zh (B14.out.box hs16)
 have S17:=zh (S14.out.trans hs16)
 have D16i:=zh (show st16.fault=0→st16.depth=30 - (d:Int) from fun e=>hg16.dep_eq e)
 have Hf16:=zh hf16
 clear h16 hs16 hf16
 cases b16 with
 |true=>
  have R16i:=zh (hg16.yes R11.out)
  have Hy16:=zh (hy16 rfl).1
  clear hg16 hy16 hn16
  go_wp2_with fail
  refine (readIs_any H17.out D16i.out ⟨#[105,102]⟩).mono ?_
  rintro en w18x ⟨b18,st18,rfl,h18,hs18,hg18,hf18,hy18,hn18⟩
  have hz19:=hs18.size
  have K_r19:=zh ((hs18.block w.heap.size (by omega) (by omega)).trans K_r17.out)
  have K_xs19:=zh ((hs18.block b_xs (by omega) (by omega)).trans K_xs17.out)
  have K_s19:=zh ((hs18.block b_s (by omega) (by omega)).trans K_s17.out)
  have X_x19:RowKit.Hid (rX (fun k=>w0.heap.size≤k∧k<w1x.heap.size) (w18x) [.int .i64 x.kind, .int .i64 x.n, .string x.s, .slice a_x x.args.length c_x] x):=zh (Good.keep (R:=rX) ⟨hs18.size,fun k hk hS=>hs18.block k hk (by omega)⟩ (fun _ _ h=>h) X_x17.out)
  have X_l19:RowKit.Hid (rSs (fun k=>wg8.heap.size≤k∧k<w9x.heap.size) (w18x) [.slice a_l l.length c_l] l):=zh (Good.keep (R:=rSs) ⟨hs18.size,fun k hk hS=>hs18.block k hk (by omega)⟩ (fun _ _ h=>h) X_l17.out)
  have H19:=zh h18
  have B19:=zh (B17.out.box hs18)
  have S19:=zh (S17.out.trans hs18)
  have D18i:=zh (show st18.fault=0→st18.depth=30 - (d:Int) from fun e=>hg18.dep_eq e)
  have Hf18:=zh hf18
  clear h18 hs18 hf18
  cases b18 with
  |true=>
   have R18i:=zh (hg18.yes R16i.out)
   have Hy18:=zh (hy18 rfl).1
   clear hg18 hy18 hn18
   go_wp2_with fail
   refine (readDeeper_any H19.out d D18i.out hd30).mono ?_
   rintro en w20x ⟨st20,rfl,h20,hs20,hg20⟩
   have hz21:=hs20.size
   have K_r21:=zh ((hs20.block w.heap.size (by omega) (by omega)).trans K_r19.out)
   have K_xs21:=zh ((hs20.block b_xs (by omega) (by omega)).trans K_xs19.out)
   have K_s21:=zh ((hs20.block b_s (by omega) (by omega)).trans K_s19.out)
   have X_x21:RowKit.Hid (rX (fun k=>w0.heap.size≤k∧k<w1x.heap.size) (w20x) [.int .i64 x.kind, .int .i64 x.n, .string x.s, .slice a_x x.args.length c_x] x):=zh (Good.keep (R:=rX) ⟨hs20.size,fun k hk hS=>hs20.block k hk (by omega)⟩ (fun _ _ h=>h) X_x19.out)
   have X_l21:RowKit.Hid (rSs (fun k=>wg8.heap.size≤k∧k<w9x.heap.size) (w20x) [.slice a_l l.length c_l] l):=zh (Good.keep (R:=rSs) ⟨hs20.size,fun k hk hS=>hs20.block k hk (by omega)⟩ (fun _ _ h=>h) X_l19.out)
   have H21:=zh h20
   have B21:=zh (B19.out.box hs20)
   have S21:=zh (S19.out.trans hs20)
   have Hg20:=zh hg20
   clear h20 hs20 hg20
   have hbad:=fun hf:st20.fault≠0=>elif_bad R18i.out Hg20.out hf
   have hok:=fun hf:st20.fault=0=>elif_ok R18i.out Hg20.out hf
   have hdp:=fun hf:st20.fault=0=>Hg20.out.dep_eq hf
   have Hbad:=zh hbad
   have Hok:=zh hok
   have Hdp:=zh hdp
   clear hbad hok hdp
   by_cases hf:st20.fault=0
   ·
    have f0:(st20.fault==0)=true:=by simpa using hf
    obtain ⟨d',hdd,hR⟩:=Hok.out hf
    have Hif:=zh (hI d' hdd)
    have Hdp':=zh (Hdp.out hf)
    have Hf:=zh hf
    have RR:=zh hR
    have Hdd:=zh hdd
    clear hf hR hdd
    go_wp2_with fail
    refine (Hif.out w20x br bT cap base T st20 H21.out B21.out Hf.out (by rw [Hdp'.out,Hdd.out];omega)).mono ?_
    rintro en w22x ⟨cs22,s2,st22,rfl,hx22,h22,hs22,hg22⟩
    obtain ⟨a3_s2,c3_s2,a4_s2,c4_s2,a5_s2,c5_s2,a6_s2,c6_s2,rfl⟩:=rS_shape hx22
    have hz23:=hs22.size
    have K_r23:=zh ((hs22.block w.heap.size (by omega) (by omega)).trans K_r21.out)
    have K_xs23:=zh ((hs22.block b_xs (by omega) (by omega)).trans K_xs21.out)
    have K_s23:=zh ((hs22.block b_s (by omega) (by omega)).trans K_s21.out)
    have X_x23:RowKit.Hid (rX (fun k=>w0.heap.size≤k∧k<w1x.heap.size) (w22x) [.int .i64 x.kind, .int .i64 x.n, .string x.s, .slice a_x x.args.length c_x] x):=zh (Good.keep (R:=rX) ⟨hs22.size,fun k hk hS=>hs22.block k hk (by omega)⟩ (fun _ _ h=>h) X_x21.out)
    have X_l23:RowKit.Hid (rSs (fun k=>wg8.heap.size≤k∧k<w9x.heap.size) (w22x) [.slice a_l l.length c_l] l):=zh (Good.keep (R:=rSs) ⟨hs22.size,fun k hk hS=>hs22.block k hk (by omega)⟩ (fun _ _ h=>h) X_l21.out)
    have H23:=zh h22
    have B23:=zh (B21.out.box hs22)
    have S23:=zh (S21.out.trans hs22)
    have X_s222:RowKit.Hid (rS (fun k=>w20x.heap.size≤k∧k<w22x.heap.size) w22x [.int .i64 s2.kind, .string s2.s, .string s2.t, .slice a3_s2 s2.exprs.length c3_s2, .slice a4_s2 s2.body.length c4_s2, .slice a5_s2 s2.els.length c5_s2, .slice a6_s2 s2.cases.length c6_s2] s2):=zh (Good.wide (R:=rS) hx22 (fun k h1 h2=>⟨h2,h1⟩))
    clear hx22
    have hgR:Good' T (30 - (d':Int)) (runR T (ifG (exprR d') (blockR d') (elifR d')) st20) s2 st22:=by rw [runR_ok Hf.out];exact hg22
    have RS2:=zh (hgR.next RR.out)
    have DS2:=zh (show st22.fault=0→st22.depth=30 - (d':Int) from fun e=>hg22.dep_eq e)
    clear h22 hs22 hg22 hgR
    have gs24_0:=ca0 K_s23.out
    have gs24_1:=ca1 K_s23.out
    have gs24_2:=ca2 K_s23.out
    have gs24_3:=ca3 K_s23.out
    have gs24_4:=ca4 K_s23.out
    have gs24_5:=ca5 K_s23.out
    have gs24_6:=ca6 K_s23.out
    have gs24_z:=cz K_s23.out
    obtain ⟨b_ys,hb_ys⟩: ∃ b_ys,b_ys=w22x.heap.size:=⟨_,rfl⟩
    have hs25:Since (fun _=>False) (w22x) (w22x.alloc (.cells #[.int .i64 s2.kind, .string s2.s, .string s2.t, .slice a3_s2 s2.exprs.length c3_s2, .slice a4_s2 s2.body.length c4_s2, .slice a5_s2 s2.els.length c5_s2, .slice a6_s2 s2.cases.length c6_s2] 32)):=Since.alloc _ _ _
    have hw25:(w22x.alloc (.cells #[.int .i64 s2.kind, .string s2.s, .string s2.t, .slice a3_s2 s2.exprs.length c3_s2, .slice a4_s2 s2.body.length c4_s2, .slice a5_s2 s2.els.length c5_s2, .slice a6_s2 s2.cases.length c6_s2] 32)).heap.size=b_ys+1:=by rw [hb_ys];simp
    have K_ys25:RowKit.Hid ((w22x.alloc (.cells #[.int .i64 s2.kind, .string s2.s, .string s2.t, .slice a3_s2 s2.exprs.length c3_s2, .slice a4_s2 s2.body.length c4_s2, .slice a5_s2 s2.els.length c5_s2, .slice a6_s2 s2.cases.length c6_s2] 32)).heap[b_ys]?=some (.cells #[.int .i64 s2.kind, .string s2.s, .string s2.t, .slice a3_s2 s2.exprs.length c3_s2, .slice a4_s2 s2.body.length c4_s2, .slice a5_s2 s2.els.length c5_s2, .slice a6_s2 s2.cases.length c6_s2] 32 (0,0))):=zh (by have e:b_ys=(w22x).heap.size:=(by first|exact hb_ys|(rw [hb_ys];simp));have e2:=heap_alloc_new (w22x) (.cells #[.int .i64 s2.kind, .string s2.s, .string s2.t, .slice a3_s2 s2.exprs.length c3_s2, .slice a4_s2 s2.body.length c4_s2, .slice a5_s2 s2.els.length c5_s2, .slice a6_s2 s2.cases.length c6_s2] 32);rw [←e] at e2;exact e2)
    have hz26:=hs25.size
    have K_r26:=zh ((hs25.block w.heap.size (by omega) (fun f=>f)).trans K_r23.out)
    have K_xs26:=zh ((hs25.block b_xs (by omega) (fun f=>f)).trans K_xs23.out)
    have K_s26:=zh ((hs25.block b_s (by omega) (fun f=>f)).trans K_s23.out)
    have X_x26:RowKit.Hid (rX (fun k=>w0.heap.size≤k∧k<w1x.heap.size) (w22x.alloc (.cells #[.int .i64 s2.kind, .string s2.s, .string s2.t, .slice a3_s2 s2.exprs.length c3_s2, .slice a4_s2 s2.body.length c4_s2, .slice a5_s2 s2.els.length c5_s2, .slice a6_s2 s2.cases.length c6_s2] 32)) [.int .i64 x.kind, .int .i64 x.n, .string x.s, .slice a_x x.args.length c_x] x):=zh (Good.keep (R:=rX) ⟨hs25.size,fun k hk hS=>hs25.block k hk (fun f=>f)⟩ (fun _ _ h=>h) X_x23.out)
    have X_l26:RowKit.Hid (rSs (fun k=>wg8.heap.size≤k∧k<w9x.heap.size) (w22x.alloc (.cells #[.int .i64 s2.kind, .string s2.s, .string s2.t, .slice a3_s2 s2.exprs.length c3_s2, .slice a4_s2 s2.body.length c4_s2, .slice a5_s2 s2.els.length c5_s2, .slice a6_s2 s2.cases.length c6_s2] 32)) [.slice a_l l.length c_l] l):=zh (Good.keep (R:=rSs) ⟨hs25.size,fun k hk hS=>hs25.block k hk (fun f=>f)⟩ (fun _ _ h=>h) X_l23.out)
    have X_s226:RowKit.Hid (rS (fun k=>w20x.heap.size≤k∧k<w22x.heap.size) (w22x.alloc (.cells #[.int .i64 s2.kind, .string s2.s, .string s2.t, .slice a3_s2 s2.exprs.length c3_s2, .slice a4_s2 s2.body.length c4_s2, .slice a5_s2 s2.els.length c5_s2, .slice a6_s2 s2.cases.length c6_s2] 32)) [.int .i64 s2.kind, .string s2.s, .string s2.t, .slice a3_s2 s2.exprs.length c3_s2, .slice a4_s2 s2.body.length c4_s2, .slice a5_s2 s2.els.length c5_s2, .slice a6_s2 s2.cases.length c6_s2] s2):=zh (Good.keep (R:=rS) ⟨hs25.size,fun k hk hS=>hs25.block k hk (fun f=>f)⟩ (fun _ _ h=>h) X_s222.out)
    have H26:=zh (H23.out.later hs25)
    have B26:=zh (B23.out.later hs25)
    have S26:RowKit.Hid (Since (fun k=>k=br) w (w22x.alloc (.cells #[.int .i64 s2.kind, .string s2.s, .string s2.t, .slice a3_s2 s2.exprs.length c3_s2, .slice a4_s2 s2.body.length c4_s2, .slice a5_s2 s2.els.length c5_s2, .slice a6_s2 s2.cases.length c6_s2] 32))):=zh (S23.out.trans (hs25.mono (fun _ f=>f.elim)))
    have gs27_5:=ca5 K_s26.out
    have gs27_z:=cz K_s26.out
    have hs28:Since (fun k=>k=b_s) (w22x.alloc (.cells #[.int .i64 s2.kind, .string s2.s, .string s2.t, .slice a3_s2 s2.exprs.length c3_s2, .slice a4_s2 s2.body.length c4_s2, .slice a5_s2 s2.els.length c5_s2, .slice a6_s2 s2.cases.length c6_s2] 32)) ((w22x.alloc (.cells #[.int .i64 s2.kind, .string s2.s, .string s2.t, .slice a3_s2 s2.exprs.length c3_s2, .slice a4_s2 s2.body.length c4_s2, .slice a5_s2 s2.els.length c5_s2, .slice a6_s2 s2.cases.length c6_s2] 32)).setCell ⟨b_s,5,none⟩ (.slice (some ⟨b_ys,0,none⟩) 1 1)):=Since.setCell (w22x.alloc (.cells #[.int .i64 s2.kind, .string s2.s, .string s2.t, .slice a3_s2 s2.exprs.length c3_s2, .slice a4_s2 s2.body.length c4_s2, .slice a5_s2 s2.els.length c5_s2, .slice a6_s2 s2.cases.length c6_s2] 32)) ⟨b_s,5,none⟩ (.slice (some ⟨b_ys,0,none⟩) 1 1)
    have K_s28:RowKit.Hid (((w22x.alloc (.cells #[.int .i64 s2.kind, .string s2.s, .string s2.t, .slice a3_s2 s2.exprs.length c3_s2, .slice a4_s2 s2.body.length c4_s2, .slice a5_s2 s2.els.length c5_s2, .slice a6_s2 s2.cases.length c6_s2] 32)).setCell ⟨b_s,5,none⟩ (.slice (some ⟨b_ys,0,none⟩) 1 1)).heap[b_s]?=some (.cells #[.int .i64 4, .string ⟨#[]⟩, .string ⟨#[]⟩, .slice (some ⟨b_xs,0,none⟩) 1 1, .slice a_l l.length c_l, .slice (some ⟨b_ys,0,none⟩) 1 1, .slice none 0 0] 32 (0,0))):=zh (by have:=box_set K_s26.out 5 (.slice (some ⟨b_ys,0,none⟩) 1 1) (by simp);simpa using this)
    have hz29:=hs28.size
    have K_r29:=zh ((hs28.block w.heap.size (by omega) (by omega)).trans K_r26.out)
    have K_xs29:=zh ((hs28.block b_xs (by omega) (by omega)).trans K_xs26.out)
    have K_ys29:=zh ((hs28.block b_ys (by omega) (by omega)).trans K_ys25.out)
    have X_x29:RowKit.Hid (rX (fun k=>w0.heap.size≤k∧k<w1x.heap.size) ((w22x.alloc (.cells #[.int .i64 s2.kind, .string s2.s, .string s2.t, .slice a3_s2 s2.exprs.length c3_s2, .slice a4_s2 s2.body.length c4_s2, .slice a5_s2 s2.els.length c5_s2, .slice a6_s2 s2.cases.length c6_s2] 32)).setCell ⟨b_s,5,none⟩ (.slice (some ⟨b_ys,0,none⟩) 1 1)) [.int .i64 x.kind, .int .i64 x.n, .string x.s, .slice a_x x.args.length c_x] x):=zh (Good.keep (R:=rX) ⟨hs28.size,fun k hk hS=>hs28.block k hk (by omega)⟩ (fun _ _ h=>h) X_x26.out)
    have X_l29:RowKit.Hid (rSs (fun k=>wg8.heap.size≤k∧k<w9x.heap.size) ((w22x.alloc (.cells #[.int .i64 s2.kind, .string s2.s, .string s2.t, .slice a3_s2 s2.exprs.length c3_s2, .slice a4_s2 s2.body.length c4_s2, .slice a5_s2 s2.els.length c5_s2, .slice a6_s2 s2.cases.length c6_s2] 32)).setCell ⟨b_s,5,none⟩ (.slice (some ⟨b_ys,0,none⟩) 1 1)) [.slice a_l l.length c_l] l):=zh (Good.keep (R:=rSs) ⟨hs28.size,fun k hk hS=>hs28.block k hk (by omega)⟩ (fun _ _ h=>h) X_l26.out)
    have X_s229:RowKit.Hid (rS (fun k=>w20x.heap.size≤k∧k<w22x.heap.size) ((w22x.alloc (.cells #[.int .i64 s2.kind, .string s2.s, .string s2.t, .slice a3_s2 s2.exprs.length c3_s2, .slice a4_s2 s2.body.length c4_s2, .slice a5_s2 s2.els.length c5_s2, .slice a6_s2 s2.cases.length c6_s2] 32)).setCell ⟨b_s,5,none⟩ (.slice (some ⟨b_ys,0,none⟩) 1 1)) [.int .i64 s2.kind, .string s2.s, .string s2.t, .slice a3_s2 s2.exprs.length c3_s2, .slice a4_s2 s2.body.length c4_s2, .slice a5_s2 s2.els.length c5_s2, .slice a6_s2 s2.cases.length c6_s2] s2):=zh (Good.keep (R:=rS) ⟨hs28.size,fun k hk hS=>hs28.block k hk (by omega)⟩ (fun _ _ h=>h) X_s226.out)
    have H29:=zh (H26.out.since hs28 (by omega) (by omega))
    have B29:=zh (B26.out.since hs28 (fun k e=>by omega))
    have S29:=zh (S26.out.then_new hs28 (fun k e=>Or.inr (by omega)))
    have hl_ys:w22x.heap.size≤b_ys:=by omega
    go_upto_region 7 with fail
    clear gs24_0 gs24_1 gs24_2 gs24_3 gs24_4 gs24_5 gs24_6 gs24_z gs27_5 gs27_z
    rw [←hb_ys]
    clear hb_ys
    generalize (w22x.alloc (.cells #[.int .i64 s2.kind, .string s2.s, .string s2.t, .slice a3_s2 s2.exprs.length c3_s2, .slice a4_s2 s2.body.length c4_s2, .slice a5_s2 s2.els.length c5_s2, .slice a6_s2 s2.cases.length c6_s2] 32)).setCell ⟨b_s,5,none⟩ (.slice (some ⟨b_ys,0,none⟩) 1 1)=wg30 at *
    have hs31:Since (fun k=>k=br) (wg30) (wg30.setCell ⟨br,4,none⟩ (.int .i64 (wrap64 (st22.depth - 1)))):=Since.setCell (wg30) ⟨br,4,none⟩ (.int .i64 (wrap64 (st22.depth - 1)))
    have hz32:=hs31.size
    have K_r32:=zh ((hs31.block w.heap.size (by omega) (by omega)).trans K_r29.out)
    have K_xs32:=zh ((hs31.block b_xs (by omega) (by omega)).trans K_xs29.out)
    have K_s32:=zh ((hs31.block b_s (by omega) (by omega)).trans K_s28.out)
    have K_ys32:=zh ((hs31.block b_ys (by omega) (by omega)).trans K_ys29.out)
    have X_x32:RowKit.Hid (rX (fun k=>w0.heap.size≤k∧k<w1x.heap.size) (wg30.setCell ⟨br,4,none⟩ (.int .i64 (wrap64 (st22.depth - 1)))) [.int .i64 x.kind, .int .i64 x.n, .string x.s, .slice a_x x.args.length c_x] x):=zh (Good.keep (R:=rX) ⟨hs31.size,fun k hk hS=>hs31.block k hk (by omega)⟩ (fun _ _ h=>h) X_x29.out)
    have X_l32:RowKit.Hid (rSs (fun k=>wg8.heap.size≤k∧k<w9x.heap.size) (wg30.setCell ⟨br,4,none⟩ (.int .i64 (wrap64 (st22.depth - 1)))) [.slice a_l l.length c_l] l):=zh (Good.keep (R:=rSs) ⟨hs31.size,fun k hk hS=>hs31.block k hk (by omega)⟩ (fun _ _ h=>h) X_l29.out)
    have X_s232:RowKit.Hid (rS (fun k=>w20x.heap.size≤k∧k<w22x.heap.size) (wg30.setCell ⟨br,4,none⟩ (.int .i64 (wrap64 (st22.depth - 1)))) [.int .i64 s2.kind, .string s2.s, .string s2.t, .slice a3_s2 s2.exprs.length c3_s2, .slice a4_s2 s2.body.length c4_s2, .slice a5_s2 s2.els.length c5_s2, .slice a6_s2 s2.cases.length c6_s2] s2):=zh (Good.keep (R:=rS) ⟨hs31.size,fun k hk hS=>hs31.block k hk (by omega)⟩ (fun _ _ h=>h) X_s229.out)
    have c431:=H29.out.c4
    have cz31:=H29.out.z 4
    have H32:=zh (rdUp H29.out)
    have B32:=zh (B29.out.box hs31)
    have S32:=zh (S29.out.trans hs31)
    go_upto_region 9 with fail
    clear c431 cz31
    generalize wg30.setCell ⟨br,4,none⟩ (.int .i64 (wrap64 (st22.depth - 1)))=wg33 at *
    have gr34_0:=ca0 K_r32.out
    have gr34_1:=ca1 K_r32.out
    have gr34_2:=ca2 K_r32.out
    have gr34_3:=ca3 K_r32.out
    have gr34_4:=ca4 K_r32.out
    have gr34_5:=ca5 K_r32.out
    have gr34_6:=ca6 K_r32.out
    have gr34_z:=cz K_r32.out
    have gs35_0:=ca0 K_s32.out
    have gs35_1:=ca1 K_s32.out
    have gs35_2:=ca2 K_s32.out
    have gs35_3:=ca3 K_s32.out
    have gs35_4:=ca4 K_s32.out
    have gs35_5:=ca5 K_s32.out
    have gs35_6:=ca6 K_s32.out
    have gs35_z:=cz K_s32.out
    go_wp2_with fail
    obtain ⟨mb,ms⟩:=cells7 (w:=wg33) K_r32.out (.int .i64 4) (.string ⟨#[]⟩) (.string ⟨#[]⟩) (.slice (some ⟨b_xs,0,none⟩) 1 1) (.slice a_l l.length c_l) (.slice (some ⟨b_ys,0,none⟩) 1 1) (.slice none 0 0)
    generalize hWW:((((((wg33.setCell ⟨w.heap.size,0,none⟩ (.int .i64 4)).setCell ⟨w.heap.size,1,none⟩ (.string ⟨#[]⟩)).setCell ⟨w.heap.size,2,none⟩ (.string ⟨#[]⟩)).setCell ⟨w.heap.size,3,none⟩ (.slice (some ⟨b_xs,0,none⟩) 1 1)).setCell ⟨w.heap.size,4,none⟩ (.slice a_l l.length c_l)).setCell ⟨w.heap.size,5,none⟩ (.slice (some ⟨b_ys,0,none⟩) 1 1)).setCell ⟨w.heap.size,6,none⟩ (.slice none 0 0)=WW at *
    have m0:=ca0 mb
    have m1:=ca1 mb
    have m2:=ca2 mb
    have m3:=ca3 mb
    have m4:=ca4 mb
    have m5:=ca5 mb
    have m6:=ca6 mb
    refine bodyPost_ret (v:= .agg #[.int .i64 4, .string ⟨#[]⟩, .string ⟨#[]⟩, .slice (some ⟨b_xs,0,none⟩) 1 1, .slice a_l l.length c_l, .slice (some ⟨b_ys,0,none⟩) 1 1, .slice none 0 0]) (by simp [results,Tryd.results61,go_sem,m0,m1,m2,m3,m4,m5,m6]) rfl ⟨_, .mk 4 ⟨#[]⟩ ⟨#[]⟩ [x] l [s2] [],st22.up,rfl,rS_mk 4 ⟨#[]⟩ ⟨#[]⟩ (ini rfl) (by decide) (by decide) (rXs_one (Good.keep (R:=rX) ⟨ms.size,fun k hk hS=>ms.block k hk (by omega)⟩ (fun k hk hS=>by omega) X_x32.out) ((ms.block b_xs (by omega) (by omega)).trans K_xs32.out) (show w.heap.size≤b_xs by omega) (by decide) (by decide)) (Good.keep (R:=rSs) ⟨ms.size,fun k hk hS=>ms.block k hk (by omega)⟩ (fun k hk hS=>by omega) X_l32.out) (rSs_one (Good.keep (R:=rS) ⟨ms.size,fun k hk hS=>ms.block k hk (by omega)⟩ (fun k hk hS=>by omega) X_s232.out) ((ms.block b_ys (by omega) (by omega)).trans K_ys32.out) (show w.heap.size≤b_ys by omega) (by decide) (by decide)) (rCs_nil _ _),(H32.out).since ms (by omega) (by omega),(S32.out).then_new ms (fun k e=>Or.inr (by omega)),?_⟩
    exact upD2 RS2.out DS2.out (by rw [Hdd.out];omega) hd30
   ·
    have f0:(st20.fault==0)=false:=by simpa using hf
    have Hf:=zh hf
    clear hf
    go_upto_region 7 with fail
    have hs22:Since (fun k=>k=br) (w20x) (w20x.setCell ⟨br,4,none⟩ (.int .i64 (wrap64 (st20.depth - 1)))):=Since.setCell (w20x) ⟨br,4,none⟩ (.int .i64 (wrap64 (st20.depth - 1)))
    have hz23:=hs22.size
    have K_r23:=zh ((hs22.block w.heap.size (by omega) (by omega)).trans K_r21.out)
    have K_xs23:=zh ((hs22.block b_xs (by omega) (by omega)).trans K_xs21.out)
    have K_s23:=zh ((hs22.block b_s (by omega) (by omega)).trans K_s21.out)
    have X_x23:RowKit.Hid (rX (fun k=>w0.heap.size≤k∧k<w1x.heap.size) (w20x.setCell ⟨br,4,none⟩ (.int .i64 (wrap64 (st20.depth - 1)))) [.int .i64 x.kind, .int .i64 x.n, .string x.s, .slice a_x x.args.length c_x] x):=zh (Good.keep (R:=rX) ⟨hs22.size,fun k hk hS=>hs22.block k hk (by omega)⟩ (fun _ _ h=>h) X_x21.out)
    have X_l23:RowKit.Hid (rSs (fun k=>wg8.heap.size≤k∧k<w9x.heap.size) (w20x.setCell ⟨br,4,none⟩ (.int .i64 (wrap64 (st20.depth - 1)))) [.slice a_l l.length c_l] l):=zh (Good.keep (R:=rSs) ⟨hs22.size,fun k hk hS=>hs22.block k hk (by omega)⟩ (fun _ _ h=>h) X_l21.out)
    have c422:=H21.out.c4
    have cz22:=H21.out.z 4
    have H23:=zh (rdUp H21.out)
    have B23:=zh (B21.out.box hs22)
    have S23:=zh (S21.out.trans hs22)
    go_upto_region 9 with fail
    clear c422 cz22
    generalize w20x.setCell ⟨br,4,none⟩ (.int .i64 (wrap64 (st20.depth - 1)))=wg24 at *
    have gr25_0:=ca0 K_r23.out
    have gr25_1:=ca1 K_r23.out
    have gr25_2:=ca2 K_r23.out
    have gr25_3:=ca3 K_r23.out
    have gr25_4:=ca4 K_r23.out
    have gr25_5:=ca5 K_r23.out
    have gr25_6:=ca6 K_r23.out
    have gr25_z:=cz K_r23.out
    have gs26_0:=ca0 K_s23.out
    have gs26_1:=ca1 K_s23.out
    have gs26_2:=ca2 K_s23.out
    have gs26_3:=ca3 K_s23.out
    have gs26_4:=ca4 K_s23.out
    have gs26_5:=ca5 K_s23.out
    have gs26_6:=ca6 K_s23.out
    have gs26_z:=cz K_s23.out
    go_wp2_with fail
    obtain ⟨mb,ms⟩:=cells7 (w:=wg24) K_r23.out (.int .i64 4) (.string ⟨#[]⟩) (.string ⟨#[]⟩) (.slice (some ⟨b_xs,0,none⟩) 1 1) (.slice a_l l.length c_l) (.slice none 0 0) (.slice none 0 0)
    generalize hWW:((((((wg24.setCell ⟨w.heap.size,0,none⟩ (.int .i64 4)).setCell ⟨w.heap.size,1,none⟩ (.string ⟨#[]⟩)).setCell ⟨w.heap.size,2,none⟩ (.string ⟨#[]⟩)).setCell ⟨w.heap.size,3,none⟩ (.slice (some ⟨b_xs,0,none⟩) 1 1)).setCell ⟨w.heap.size,4,none⟩ (.slice a_l l.length c_l)).setCell ⟨w.heap.size,5,none⟩ (.slice none 0 0)).setCell ⟨w.heap.size,6,none⟩ (.slice none 0 0)=WW at *
    have m0:=ca0 mb
    have m1:=ca1 mb
    have m2:=ca2 mb
    have m3:=ca3 mb
    have m4:=ca4 mb
    have m5:=ca5 mb
    have m6:=ca6 mb
    refine bodyPost_ret (v:= .agg #[.int .i64 4, .string ⟨#[]⟩, .string ⟨#[]⟩, .slice (some ⟨b_xs,0,none⟩) 1 1, .slice a_l l.length c_l, .slice none 0 0, .slice none 0 0]) (by simp [results,Tryd.results61,go_sem,m0,m1,m2,m3,m4,m5,m6]) rfl ⟨_, .mk 4 ⟨#[]⟩ ⟨#[]⟩ [x] l [] [],st20.up,rfl,rS_mk 4 ⟨#[]⟩ ⟨#[]⟩ (ini rfl) (by decide) (by decide) (rXs_one (Good.keep (R:=rX) ⟨ms.size,fun k hk hS=>ms.block k hk (by omega)⟩ (fun k hk hS=>by omega) X_x23.out) ((ms.block b_xs (by omega) (by omega)).trans K_xs23.out) (show w.heap.size≤b_xs by omega) (by decide) (by decide)) (Good.keep (R:=rSs) ⟨ms.size,fun k hk hS=>ms.block k hk (by omega)⟩ (fun k hk hS=>by omega) X_l23.out) (rSs_nil _ _) (rCs_nil _ _),(H23.out).since ms (by omega) (by omega),(S23.out).then_new ms (fun k e=>Or.inr (by omega)),?_⟩
    rw [Hbad.out Hf.out];exact ⟨rfl,rfl,Hf.out⟩
  |false=>
   have R18i:=zh (hg18.no R16i.out)
   have Hn18:=zh (hn18 rfl)
   clear hg18 hy18 hn18
   go_wp2_with fail
   refine (hK w18x br bT cap base T st18 H19.out B19.out D18i.out).mono ?_
   rintro en w20x ⟨v20,m,st20,rfl,hx20,h20,hs20,hg20⟩
   obtain ⟨a_m,c_m,rfl⟩:=rSs_shape hx20
   have hz21:=hs20.size
   have K_r21:=zh ((hs20.block w.heap.size (by omega) (by omega)).trans K_r19.out)
   have K_xs21:=zh ((hs20.block b_xs (by omega) (by omega)).trans K_xs19.out)
   have K_s21:=zh ((hs20.block b_s (by omega) (by omega)).trans K_s19.out)
   have X_x21:RowKit.Hid (rX (fun k=>w0.heap.size≤k∧k<w1x.heap.size) (w20x) [.int .i64 x.kind, .int .i64 x.n, .string x.s, .slice a_x x.args.length c_x] x):=zh (Good.keep (R:=rX) ⟨hs20.size,fun k hk hS=>hs20.block k hk (by omega)⟩ (fun _ _ h=>h) X_x19.out)
   have X_l21:RowKit.Hid (rSs (fun k=>wg8.heap.size≤k∧k<w9x.heap.size) (w20x) [.slice a_l l.length c_l] l):=zh (Good.keep (R:=rSs) ⟨hs20.size,fun k hk hS=>hs20.block k hk (by omega)⟩ (fun _ _ h=>h) X_l19.out)
   have H21:=zh h20
   have B21:=zh (B19.out.box hs20)
   have S21:=zh (S19.out.trans hs20)
   have X_m20:RowKit.Hid (rSs (fun k=>w18x.heap.size≤k∧k<w20x.heap.size) w20x [.slice a_m m.length c_m] m):=zh (Good.wide (R:=rSs) hx20 (fun k h1 h2=>⟨h2,h1⟩))
   clear hx20
   have R22:=zh (hg20.next R18i.out)
   have D22:=zh (show st20.fault=0→st20.depth=30 - (d:Int) from fun e=>hg20.dep_eq e)
   clear h20 hs20 hg20
   have gr23_0:=ca0 K_r21.out
   have gr23_1:=ca1 K_r21.out
   have gr23_2:=ca2 K_r21.out
   have gr23_3:=ca3 K_r21.out
   have gr23_4:=ca4 K_r21.out
   have gr23_5:=ca5 K_r21.out
   have gr23_6:=ca6 K_r21.out
   have gr23_z:=cz K_r21.out
   have gs24_0:=ca0 K_s21.out
   have gs24_1:=ca1 K_s21.out
   have gs24_2:=ca2 K_s21.out
   have gs24_3:=ca3 K_s21.out
   have gs24_4:=ca4 K_s21.out
   have gs24_5:=ca5 K_s21.out
   have gs24_6:=ca6 K_s21.out
   have gs24_z:=cz K_s21.out
   have hs25:Since (fun k=>k=b_s) (w20x) (w20x.setCell ⟨b_s,5,none⟩ (.slice a_m m.length c_m)):=Since.setCell (w20x) ⟨b_s,5,none⟩ (.slice a_m m.length c_m)
   have K_s25:RowKit.Hid ((w20x.setCell ⟨b_s,5,none⟩ (.slice a_m m.length c_m)).heap[b_s]?=some (.cells #[.int .i64 4, .string ⟨#[]⟩, .string ⟨#[]⟩, .slice (some ⟨b_xs,0,none⟩) 1 1, .slice a_l l.length c_l, .slice a_m m.length c_m, .slice none 0 0] 32 (0,0))):=zh (by have:=box_set K_s21.out 5 (.slice a_m m.length c_m) (by simp);simpa using this)
   have hz26:=hs25.size
   have K_r26:=zh ((hs25.block w.heap.size (by omega) (by omega)).trans K_r21.out)
   have K_xs26:=zh ((hs25.block b_xs (by omega) (by omega)).trans K_xs21.out)
   have X_x26:RowKit.Hid (rX (fun k=>w0.heap.size≤k∧k<w1x.heap.size) (w20x.setCell ⟨b_s,5,none⟩ (.slice a_m m.length c_m)) [.int .i64 x.kind, .int .i64 x.n, .string x.s, .slice a_x x.args.length c_x] x):=zh (Good.keep (R:=rX) ⟨hs25.size,fun k hk hS=>hs25.block k hk (by omega)⟩ (fun _ _ h=>h) X_x21.out)
   have X_l26:RowKit.Hid (rSs (fun k=>wg8.heap.size≤k∧k<w9x.heap.size) (w20x.setCell ⟨b_s,5,none⟩ (.slice a_m m.length c_m)) [.slice a_l l.length c_l] l):=zh (Good.keep (R:=rSs) ⟨hs25.size,fun k hk hS=>hs25.block k hk (by omega)⟩ (fun _ _ h=>h) X_l21.out)
   have X_m26:RowKit.Hid (rSs (fun k=>w18x.heap.size≤k∧k<w20x.heap.size) (w20x.setCell ⟨b_s,5,none⟩ (.slice a_m m.length c_m)) [.slice a_m m.length c_m] m):=zh (Good.keep (R:=rSs) ⟨hs25.size,fun k hk hS=>hs25.block k hk (by omega)⟩ (fun _ _ h=>h) X_m20.out)
   have H26:=zh (H21.out.since hs25 (by omega) (by omega))
   have B26:=zh (B21.out.since hs25 (fun k e=>by omega))
   have S26:=zh (S21.out.then_new hs25 (fun k e=>Or.inr (by omega)))
   go_upto_region 9 with fail
   clear gr23_0 gr23_1 gr23_2 gr23_3 gr23_4 gr23_5 gr23_6 gr23_z gs24_0 gs24_1 gs24_2 gs24_3 gs24_4 gs24_5 gs24_6 gs24_z
   generalize w20x.setCell ⟨b_s,5,none⟩ (.slice a_m m.length c_m)=wg27 at *
   have gr28_0:=ca0 K_r26.out
   have gr28_1:=ca1 K_r26.out
   have gr28_2:=ca2 K_r26.out
   have gr28_3:=ca3 K_r26.out
   have gr28_4:=ca4 K_r26.out
   have gr28_5:=ca5 K_r26.out
   have gr28_6:=ca6 K_r26.out
   have gr28_z:=cz K_r26.out
   have gs29_0:=ca0 K_s25.out
   have gs29_1:=ca1 K_s25.out
   have gs29_2:=ca2 K_s25.out
   have gs29_3:=ca3 K_s25.out
   have gs29_4:=ca4 K_s25.out
   have gs29_5:=ca5 K_s25.out
   have gs29_6:=ca6 K_s25.out
   have gs29_z:=cz K_s25.out
   go_wp2_with fail
   obtain ⟨mb,ms⟩:=cells7 (w:=wg27) K_r26.out (.int .i64 4) (.string ⟨#[]⟩) (.string ⟨#[]⟩) (.slice (some ⟨b_xs,0,none⟩) 1 1) (.slice a_l l.length c_l) (.slice a_m m.length c_m) (.slice none 0 0)
   generalize hWW:((((((wg27.setCell ⟨w.heap.size,0,none⟩ (.int .i64 4)).setCell ⟨w.heap.size,1,none⟩ (.string ⟨#[]⟩)).setCell ⟨w.heap.size,2,none⟩ (.string ⟨#[]⟩)).setCell ⟨w.heap.size,3,none⟩ (.slice (some ⟨b_xs,0,none⟩) 1 1)).setCell ⟨w.heap.size,4,none⟩ (.slice a_l l.length c_l)).setCell ⟨w.heap.size,5,none⟩ (.slice a_m m.length c_m)).setCell ⟨w.heap.size,6,none⟩ (.slice none 0 0)=WW at *
   have m0:=ca0 mb
   have m1:=ca1 mb
   have m2:=ca2 mb
   have m3:=ca3 mb
   have m4:=ca4 mb
   have m5:=ca5 mb
   have m6:=ca6 mb
   refine bodyPost_ret (v:= .agg #[.int .i64 4, .string ⟨#[]⟩, .string ⟨#[]⟩, .slice (some ⟨b_xs,0,none⟩) 1 1, .slice a_l l.length c_l, .slice a_m m.length c_m, .slice none 0 0]) (by simp [results,Tryd.results61,go_sem,m0,m1,m2,m3,m4,m5,m6]) rfl ⟨_, .mk 4 ⟨#[]⟩ ⟨#[]⟩ [x] l m [],st20,rfl,rS_mk 4 ⟨#[]⟩ ⟨#[]⟩ (ini rfl) (by decide) (by decide) (rXs_one (Good.keep (R:=rX) ⟨ms.size,fun k hk hS=>ms.block k hk (by omega)⟩ (fun k hk hS=>by omega) X_x26.out) ((ms.block b_xs (by omega) (by omega)).trans K_xs26.out) (show w.heap.size≤b_xs by omega) (by decide) (by decide)) (Good.keep (R:=rSs) ⟨ms.size,fun k hk hS=>ms.block k hk (by omega)⟩ (fun k hk hS=>by omega) X_l26.out) (Good.keep (R:=rSs) ⟨ms.size,fun k hk hS=>ms.block k hk (by omega)⟩ (fun k hk hS=>by omega) X_m26.out) (rCs_nil _ _),(H26.out).since ms (by omega) (by omega),(S26.out).then_new ms (fun k e=>Or.inr (by omega)),?_⟩
   exact Good'.end R22.out D22.out
 |false=>
  have R16i:=zh (hg16.no R11.out)
  have Hn16:=zh (hn16 rfl)
  clear hg16 hy16 hn16
  have gr18_0:=ca0 K_r17.out
  have gr18_1:=ca1 K_r17.out
  have gr18_2:=ca2 K_r17.out
  have gr18_3:=ca3 K_r17.out
  have gr18_4:=ca4 K_r17.out
  have gr18_5:=ca5 K_r17.out
  have gr18_6:=ca6 K_r17.out
  have gr18_z:=cz K_r17.out
  have gs19_0:=ca0 K_s17.out
  have gs19_1:=ca1 K_s17.out
  have gs19_2:=ca2 K_s17.out
  have gs19_3:=ca3 K_s17.out
  have gs19_4:=ca4 K_s17.out
  have gs19_5:=ca5 K_s17.out
  have gs19_6:=ca6 K_s17.out
  have gs19_z:=cz K_s17.out
  go_wp2_with fail
  obtain ⟨mb,ms⟩:=cells7 (w:=w16x) K_r17.out (.int .i64 4) (.string ⟨#[]⟩) (.string ⟨#[]⟩) (.slice (some ⟨b_xs,0,none⟩) 1 1) (.slice a_l l.length c_l) (.slice none 0 0) (.slice none 0 0)
  generalize hWW:((((((w16x.setCell ⟨w.heap.size,0,none⟩ (.int .i64 4)).setCell ⟨w.heap.size,1,none⟩ (.string ⟨#[]⟩)).setCell ⟨w.heap.size,2,none⟩ (.string ⟨#[]⟩)).setCell ⟨w.heap.size,3,none⟩ (.slice (some ⟨b_xs,0,none⟩) 1 1)).setCell ⟨w.heap.size,4,none⟩ (.slice a_l l.length c_l)).setCell ⟨w.heap.size,5,none⟩ (.slice none 0 0)).setCell ⟨w.heap.size,6,none⟩ (.slice none 0 0)=WW at *
  have m0:=ca0 mb
  have m1:=ca1 mb
  have m2:=ca2 mb
  have m3:=ca3 mb
  have m4:=ca4 mb
  have m5:=ca5 mb
  have m6:=ca6 mb
  refine bodyPost_ret (v:= .agg #[.int .i64 4, .string ⟨#[]⟩, .string ⟨#[]⟩, .slice (some ⟨b_xs,0,none⟩) 1 1, .slice a_l l.length c_l, .slice none 0 0, .slice none 0 0]) (by simp [results,Tryd.results61,go_sem,m0,m1,m2,m3,m4,m5,m6]) rfl ⟨_, .mk 4 ⟨#[]⟩ ⟨#[]⟩ [x] l [] [],st16,rfl,rS_mk 4 ⟨#[]⟩ ⟨#[]⟩ (ini rfl) (by decide) (by decide) (rXs_one (Good.keep (R:=rX) ⟨ms.size,fun k hk hS=>ms.block k hk (by omega)⟩ (fun k hk hS=>by omega) X_x17.out) ((ms.block b_xs (by omega) (by omega)).trans K_xs17.out) (show w.heap.size≤b_xs by omega) (by decide) (by decide)) (Good.keep (R:=rSs) ⟨ms.size,fun k hk hS=>ms.block k hk (by omega)⟩ (fun k hk hS=>by omega) X_l17.out) (rSs_nil _ _) (rCs_nil _ _),(H17.out).since ms (by omega) (by omega),(S17.out).then_new ms (fun k e=>Or.inr (by omega)),?_⟩
  exact Good'.end R16i.out D16i.out
end Go.Proofs.YtkopjgnjflhkeaaDoor

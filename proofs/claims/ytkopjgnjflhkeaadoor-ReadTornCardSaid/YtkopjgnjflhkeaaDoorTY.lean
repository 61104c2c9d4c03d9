import Derived.Test.YtkopjgnjflhkeaaDoorTX
namespace Go.Proofs.YtkopjgnjflhkeaaDoor
open Go.RowKit Go.Pst
set_option linter.unusedVariables false
set_option linter.unusedSimpArgs false
variable {w:World} {br bT cap base:Nat} {T:List Tok} {st:RSt} {dep:Int}
set_option maxRecDepth 4000 in
set_option maxHeartbeats 4000000 in
theorem readSimple_any (d:Nat) (hE:ExprOK d) (h:RdAt w br bT cap T st) (hL:RdLaid w base br) (h0:st.fault=0) (hd:st.depth=30 - (d:Int)):
 Calls Tryd.prog 66 #[.pointer (some ⟨br,0,none⟩)] w (RdS w br bT cap T (30 - (d:Int)) (simpleG (exprR d) (T.drop st.i))):=by
 have hbr:=h.lt.1
 have hbT:=h.lt.2
 obtain ⟨Res,hres⟩: ∃ Res,Res=simpleG (exprR d) (T.drop st.i):=⟨_,rfl⟩
 rw [←hres]
 have hs0:Since (fun _=>False) w (w.alloc (.cells #[.int .i64 0, .string ⟨#[]⟩, .string ⟨#[]⟩, .slice none 0 0, .slice none 0 0, .slice none 0 0, .slice none 0 0] 32)):=Since.alloc _ _ _
 have hb0:(w.alloc (.cells #[.int .i64 0, .string ⟨#[]⟩, .string ⟨#[]⟩, .slice none 0 0, .slice none 0 0, .slice none 0 0, .slice none 0 0] 32)).heap[w.heap.size]?=some (.cells #[.int .i64 0, .string ⟨#[]⟩, .string ⟨#[]⟩, .slice none 0 0, .slice none 0 0, .slice none 0 0, .slice none 0 0] 32 (0,0)):=heap_alloc_new w _
 have hlb:=hL.lb.2
 have hA:=h.later hs0
 have hB:=hL.later hs0
 have hlt0:w.heap.size<(w.alloc (.cells #[.int .i64 0, .string ⟨#[]⟩, .string ⟨#[]⟩, .slice none 0 0, .slice none 0 0, .slice none 0 0, .slice none 0 0] 32)).heap.size:=by simp
 have hfd: ∀ (a c e:Int) (b:ByteArray) (w:World),(Instr.field 52 (.agg #[.int .u8 a, .string b, .int .i64 c, .int .i64 e]) 3).run Tryd.prog w= .ok (.int .i64 e) w:=fun _ _ _ _ _=>by kernel_rfl
 have hfd0: ∀ (a c e:Int) (b:ByteArray) (w:World),(Instr.field 52 (.agg #[.int .u8 a, .string b, .int .i64 c, .int .i64 e]) 0).run Tryd.prog w= .ok (.int .u8 a) w:=fun _ _ _ _ _=>by kernel_rfl
 have hfd1: ∀ (a c e:Int) (b:ByteArray) (w:World),(Instr.field 52 (.agg #[.int .u8 a, .string b, .int .i64 c, .int .i64 e]) 1).run Tryd.prog w= .ok (.string b) w:=fun _ _ _ _ _=>by kernel_rfl
 obtain ⟨t,ht⟩: ∃ t,seeR T st=t:=⟨_,rfl⟩
 have hpk:=readPeek_any hA
 rw [ht] at hpk
 have Hpk:=zh hpk
 have Ht:=zh ht
 obtain ⟨tk,ts,tn,tp⟩:=t
 clear hpk ht
 have HA:=zh hA
 have HB:=zh hB
 have K_r0:=zh hb0
 have S0:=zh (show Since (fun k=>k=br) w (w.alloc (.cells #[.int .i64 0, .string ⟨#[]⟩, .string ⟨#[]⟩, .slice none 0 0, .slice none 0 0, .slice none 0 0, .slice none 0 0] 32)) from hs0.mono (fun _ f=>f.elim))
 have D0:=zh (show st.fault=0→st.depth=30 - (d:Int) from fun _=>hd)
 have R0:RowKit.Hid (Res=runR T _ st):=zh (hres.trans (runR_ok (T:=T) h0).symm)
 have H0:=zh h0
 clear h hL hA hB hb0 hs0 hres h0 hd
 go_enter Tryd.func66,Tryd.ntmps66
 go_wp2_with fail
 generalize w.alloc (.cells #[.int .i64 0, .string ⟨#[]⟩, .string ⟨#[]⟩, .slice none 0 0, .slice none 0 0, .slice none 0 0, .slice none 0 0] 32)=w0 at *
 refine Hpk.out.mono ?_
 rintro en w1y ⟨rfl,hs1⟩
 simp only [tokC]
 have hz1:=hs1.size
 have K_r1:=zh ((hs1.block w.heap.size (by omega) (fun f=>f)).trans K_r0.out)
 have H1:=zh (HA.out.later hs1)
 have B1:=zh (HB.out.later hs1)
 have S1:RowKit.Hid (Since (fun k=>k=br) w (w1y)):=zh (S0.out.trans (hs1.mono (fun _ f=>f.elim)))
 clear hs1
 have R1:RowKit.Hid (Res=runR T (PR.bind nameR _) st):=zh (R0.out.trans ((runR_ok (T:=T) H0.out).trans (runR_ok (T:=T) H0.out).symm))
 go_wp2_with fail
 refine (readName_any H1.out B1.out D0.out).mono ?_
 rintro en w2x ⟨s,st2,rfl,hsz_s,h2,hs2,hg2⟩
 have hz3:=hs2.size
 have K_r3:=zh ((hs2.block w.heap.size (by omega) (by omega)).trans K_r1.out)
 have H3:=zh h2
 have B3:=zh (B1.out.box hs2)
 have S3:=zh (S1.out.trans hs2)
 have R4:=zh (hg2.next R1.out)
 have D4:=zh (show st2.fault=0→st2.depth=30 - (d:Int) from fun e=>hg2.dep_eq e)
 clear h2 hs2 hg2
 have Hs:=zh hsz_s
 clear hsz_s
 have c3:=H3.out.c3
 by_cases hf:st2.fault=0
 ·
  have f0:(st2.fault !=0)=false:=by simp [hf]
  have Hf:=zh hf
  clear hf
  go_wp2_with fail
  refine (readIs_any H3.out D4.out ⟨#[58,61]⟩).mono ?_
  rintro en w5x ⟨b5,st5,rfl,h5,hs5,hg5,hf5,hy5,hn5⟩
  have hz6:=hs5.size
  have K_r6:=zh ((hs5.block w.heap.size (by omega) (by omega)).trans K_r3.out)
  have H6:=zh h5
  have B6:=zh (B3.out.box hs5)
  have S6:=zh (S3.out.trans hs5)
  have D5i:=zh (show st5.fault=0→st5.depth=30 - (d:Int) from fun e=>hg5.dep_eq e)
  have Hf5:=zh hf5
  clear h5 hs5 hf5
  cases b5 with
  |true=>
   have R5i:=zh (hg5.yes R4.out)
   have Hy5:=zh (hy5 rfl).1
   clear hg5 hy5 hn5
   go_wp2_with fail
   refine (hE w5x br bT cap base T st5 H6.out B6.out D5i.out).mono ?_
   rintro en w7x ⟨cs7,x,st7,rfl,hx7,h7,hs7,hg7⟩
   obtain ⟨a_x,c_x,rfl⟩:=rX_shape hx7
   have hz8:=hs7.size
   have K_r8:=zh ((hs7.block w.heap.size (by omega) (by omega)).trans K_r6.out)
   have H8:=zh h7
   have B8:=zh (B6.out.box hs7)
   have S8:=zh (S6.out.trans hs7)
   have X_x7:RowKit.Hid (rX (fun k=>w5x.heap.size≤k∧k<w7x.heap.size) w7x [.int .i64 x.kind, .int .i64 x.n, .string x.s, .slice a_x x.args.length c_x] x):=zh (Good.wide (R:=rX) hx7 (fun k h1 h2=>⟨h2,h1⟩))
   clear hx7
   have R9:=zh (hg7.next R5i.out)
   have D9:=zh (show st7.fault=0→st7.depth=30 - (d:Int) from fun e=>hg7.dep_eq e)
   clear h7 hs7 hg7
   obtain ⟨b_xs,hb_xs⟩: ∃ b_xs,b_xs=w7x.heap.size:=⟨_,rfl⟩
   have hs10:Since (fun _=>False) (w7x) (w7x.alloc (.cells #[.int .i64 x.kind, .int .i64 x.n, .string x.s, .slice a_x x.args.length c_x] 28)):=Since.alloc _ _ _
   have hw10:(w7x.alloc (.cells #[.int .i64 x.kind, .int .i64 x.n, .string x.s, .slice a_x x.args.length c_x] 28)).heap.size=b_xs+1:=by rw [hb_xs];simp
   have K_xs10:RowKit.Hid ((w7x.alloc (.cells #[.int .i64 x.kind, .int .i64 x.n, .string x.s, .slice a_x x.args.length c_x] 28)).heap[b_xs]?=some (.cells #[.int .i64 x.kind, .int .i64 x.n, .string x.s, .slice a_x x.args.length c_x] 28 (0,0))):=zh (by have e:b_xs=(w7x).heap.size:=(by first|exact hb_xs|(rw [hb_xs];simp));have e2:=heap_alloc_new (w7x) (.cells #[.int .i64 x.kind, .int .i64 x.n, .string x.s, .slice a_x x.args.length c_x] 28);rw [←e] at e2;exact e2)
   have hz11:=hs10.size
   have K_r11:=zh ((hs10.block w.heap.size (by omega) (fun f=>f)).trans K_r8.out)
   have X_x11:RowKit.Hid (rX (fun k=>w5x.heap.size≤k∧k<w7x.heap.size) (w7x.alloc (.cells #[.int .i64 x.kind, .int .i64 x.n, .string x.s, .slice a_x x.args.length c_x] 28)) [.int .i64 x.kind, .int .i64 x.n, .string x.s, .slice a_x x.args.length c_x] x):=zh (Good.keep (R:=rX) ⟨hs10.size,fun k hk hS=>hs10.block k hk (fun f=>f)⟩ (fun _ _ h=>h) X_x7.out)
   have H11:=zh (H8.out.later hs10)
   have B11:=zh (B8.out.later hs10)
   have S11:RowKit.Hid (Since (fun k=>k=br) w (w7x.alloc (.cells #[.int .i64 x.kind, .int .i64 x.n, .string x.s, .slice a_x x.args.length c_x] 28))):=zh (S8.out.trans (hs10.mono (fun _ f=>f.elim)))
   have hl_xs:w7x.heap.size≤b_xs:=by omega
   have gr12_0:=ca0 K_r11.out
   have gr12_1:=ca1 K_r11.out
   have gr12_2:=ca2 K_r11.out
   have gr12_3:=ca3 K_r11.out
   have gr12_4:=ca4 K_r11.out
   have gr12_5:=ca5 K_r11.out
   have gr12_6:=ca6 K_r11.out
   have gr12_z:=cz K_r11.out
   go_wp2_with fail
   rw [←hb_xs]
   clear hb_xs
   generalize w7x.alloc (.cells #[.int .i64 x.kind, .int .i64 x.n, .string x.s, .slice a_x x.args.length c_x] 28)=wg12 at *
   obtain ⟨mb,ms⟩:=cells7 (w:=wg12) K_r11.out (.int .i64 1) (.string s) (.string ⟨#[]⟩) (.slice (some ⟨b_xs,0,none⟩) 1 1) (.slice none 0 0) (.slice none 0 0) (.slice none 0 0)
   generalize hWW:((((((wg12.setCell ⟨w.heap.size,0,none⟩ (.int .i64 1)).setCell ⟨w.heap.size,1,none⟩ (.string s)).setCell ⟨w.heap.size,2,none⟩ (.string ⟨#[]⟩)).setCell ⟨w.heap.size,3,none⟩ (.slice (some ⟨b_xs,0,none⟩) 1 1)).setCell ⟨w.heap.size,4,none⟩ (.slice none 0 0)).setCell ⟨w.heap.size,5,none⟩ (.slice none 0 0)).setCell ⟨w.heap.size,6,none⟩ (.slice none 0 0)=WW at *
   have m0:=ca0 mb
   have m1:=ca1 mb
   have m2:=ca2 mb
   have m3:=ca3 mb
   have m4:=ca4 mb
   have m5:=ca5 mb
   have m6:=ca6 mb
   refine bodyPost_ret (v:= .agg #[.int .i64 1, .string s, .string ⟨#[]⟩, .slice (some ⟨b_xs,0,none⟩) 1 1, .slice none 0 0, .slice none 0 0, .slice none 0 0]) (by simp [results,Tryd.results66,go_sem,m0,m1,m2,m3,m4,m5,m6]) rfl ⟨_, .mk 1 s ⟨#[]⟩ [x] [] [] [],st7,rfl,rS_mk 1 s ⟨#[]⟩ (ini rfl) Hs.out (by decide) (rXs_one (Good.keep (R:=rX) ⟨ms.size,fun k hk hS=>ms.block k hk (by omega)⟩ (fun k hk hS=>by omega) X_x11.out) ((ms.block b_xs (by omega) (by omega)).trans K_xs10.out) (show w.heap.size≤b_xs by omega) (by decide) (by decide)) (rSs_nil _ _) (rSs_nil _ _) (rCs_nil _ _),(H11.out).since ms (by omega) (by omega),(S11.out).then_new ms (fun k e=>Or.inr (by omega)),?_⟩
   exact Good'.end R9.out D9.out
  |false=>
   have R5i:=zh (hg5.no R4.out)
   have Hn5:=zh (hn5 rfl)
   clear hg5 hy5 hn5
   go_wp2_with fail
   refine (readIs_any H6.out D5i.out ⟨#[61]⟩).mono ?_
   rintro en w7x ⟨b7,st7,rfl,h7,hs7,hg7,hf7,hy7,hn7⟩
   have hz8:=hs7.size
   have K_r8:=zh ((hs7.block w.heap.size (by omega) (by omega)).trans K_r6.out)
   have H8:=zh h7
   have B8:=zh (B6.out.box hs7)
   have S8:=zh (S6.out.trans hs7)
   have D7i:=zh (show st7.fault=0→st7.depth=30 - (d:Int) from fun e=>hg7.dep_eq e)
   have Hf7:=zh hf7
   clear h7 hs7 hf7
   cases b7 with
   |true=>
    have R7i:=zh (hg7.yes R5i.out)
    have Hy7:=zh (hy7 rfl).1
    clear hg7 hy7 hn7
    go_wp2_with fail
    refine (hE w7x br bT cap base T st7 H8.out B8.out D7i.out).mono ?_
    rintro en w9x ⟨cs9,x,st9,rfl,hx9,h9,hs9,hg9⟩
    obtain ⟨a_x,c_x,rfl⟩:=rX_shape hx9
    have hz10:=hs9.size
    have K_r10:=zh ((hs9.block w.heap.size (by omega) (by omega)).trans K_r8.out)
    have H10:=zh h9
    have B10:=zh (B8.out.box hs9)
    have S10:=zh (S8.out.trans hs9)
    have X_x9:RowKit.Hid (rX (fun k=>w7x.heap.size≤k∧k<w9x.heap.size) w9x [.int .i64 x.kind, .int .i64 x.n, .string x.s, .slice a_x x.args.length c_x] x):=zh (Good.wide (R:=rX) hx9 (fun k h1 h2=>⟨h2,h1⟩))
    clear hx9
    have R11:=zh (hg9.next R7i.out)
    have D11:=zh (show st9.fault=0→st9.depth=30 - (d:Int) from fun e=>hg9.dep_eq e)
    clear h9 hs9 hg9
    obtain ⟨b_xs,hb_xs⟩: ∃ b_xs,b_xs=w9x.heap.size:=⟨_,rfl⟩
    have hs12:Since (fun _=>False) (w9x) (w9x.alloc (.cells #[.int .i64 x.kind, .int .i64 x.n, .string x.s, .slice a_x x.args.length c_x] 28)):=Since.alloc _ _ _
    have hw12:(w9x.alloc (.cells #[.int .i64 x.kind, .int .i64 x.n, .string x.s, .slice a_x x.args.length c_x] 28)).heap.size=b_xs+1:=by rw [hb_xs];simp
    have K_xs12:RowKit.Hid ((w9x.alloc (.cells #[.int .i64 x.kind, .int .i64 x.n, .string x.s, .slice a_x x.args.length c_x] 28)).heap[b_xs]?=some (.cells #[.int .i64 x.kind, .int .i64 x.n, .string x.s, .slice a_x x.args.length c_x] 28 (0,0))):=zh (by have e:b_xs=(w9x).heap.size:=(by first|exact hb_xs|(rw [hb_xs];simp));have e2:=heap_alloc_new (w9x) (.cells #[.int .i64 x.kind, .int .i64 x.n, .string x.s, .slice a_x x.args.length c_x] 28);rw [←e] at e2;exact e2)
    have hz13:=hs12.size
    have K_r13:=zh ((hs12.block w.heap.size (by omega) (fun f=>f)).trans K_r10.out)
    have X_x13:RowKit.Hid (rX (fun k=>w7x.heap.size≤k∧k<w9x.heap.size) (w9x.alloc (.cells #[.int .i64 x.kind, .int .i64 x.n, .string x.s, .slice a_x x.args.length c_x] 28)) [.int .i64 x.kind, .int .i64 x.n, .string x.s, .slice a_x x.args.length c_x] x):=zh (Good.keep (R:=rX) ⟨hs12.size,fun k hk hS=>hs12.block k hk (fun f=>f)⟩ (fun _ _ h=>h) X_x9.out)
    have H13:=zh (H10.out.later hs12)
    have B13:=zh (B10.out.later hs12)
    have S13:RowKit.Hid (Since (fun k=>k=br) w (w9x.alloc (.cells #[.int .i64 x.kind, .int .i64 x.n, .string x.s, .slice a_x x.args.length c_x] 28))):=zh (S10.out.trans (hs12.mono (fun _ f=>f.elim)))
    have hl_xs:w9x.heap.size≤b_xs:=by omega
    have gr14_0:=ca0 K_r13.out
    have gr14_1:=ca1 K_r13.out
    have gr14_2:=ca2 K_r13.out
    have gr14_3:=ca3 K_r13.out
    have gr14_4:=ca4 K_r13.out
    have gr14_5:=ca5 K_r13.out
    have gr14_6:=ca6 K_r13.out
    have gr14_z:=cz K_r13.out
    go_wp2_with fail
    rw [←hb_xs]
    clear hb_xs
    generalize w9x.alloc (.cells #[.int .i64 x.kind, .int .i64 x.n, .string x.s, .slice a_x x.args.length c_x] 28)=wg14 at *
    obtain ⟨mb,ms⟩:=cells7 (w:=wg14) K_r13.out (.int .i64 2) (.string s) (.string ⟨#[]⟩) (.slice (some ⟨b_xs,0,none⟩) 1 1) (.slice none 0 0) (.slice none 0 0) (.slice none 0 0)
    generalize hWW:((((((wg14.setCell ⟨w.heap.size,0,none⟩ (.int .i64 2)).setCell ⟨w.heap.size,1,none⟩ (.string s)).setCell ⟨w.heap.size,2,none⟩ (.string ⟨#[]⟩)).setCell ⟨w.heap.size,3,none⟩ (.slice (some ⟨b_xs,0,none⟩) 1 1)).setCell ⟨w.heap.size,4,none⟩ (.slice none 0 0)).setCell ⟨w.heap.size,5,none⟩ (.slice none 0 0)).setCell ⟨w.heap.size,6,none⟩ (.slice none 0 0)=WW at *
    have m0:=ca0 mb
    have m1:=ca1 mb
    have m2:=ca2 mb
    have m3:=ca3 mb
    have m4:=ca4 mb
    have m5:=ca5 mb
    have m6:=ca6 mb
    refine bodyPost_ret (v:= .agg #[.int .i64 2, .string s, .string ⟨#[]⟩, .slice (some ⟨b_xs,0,none⟩) 1 1, .slice none 0 0, .slice none 0 0, .slice none 0 0]) (by simp [results,Tryd.results66,go_sem,m0,m1,m2,m3,m4,m5,m6]) rfl ⟨_, .mk 2 s ⟨#[]⟩ [x] [] [] [],st9,rfl,rS_mk 2 s ⟨#[]⟩ (ini rfl) Hs.out (by decide) (rXs_one (Good.keep (R:=rX) ⟨ms.size,fun k hk hS=>ms.block k hk (by omega)⟩ (fun k hk hS=>by omega) X_x13.out) ((ms.block b_xs (by omega) (by omega)).trans K_xs12.out) (show w.heap.size≤b_xs by omega) (by decide) (by decide)) (rSs_nil _ _) (rSs_nil _ _) (rCs_nil _ _),(H13.out).since ms (by omega) (by omega),(S13.out).then_new ms (fun k e=>Or.inr (by omega)),?_⟩
    exact Good'.end R11.out D11.out
   |false=>
    have R7i:=zh (hg7.no R5i.out)
    have Hn7:=zh (hn7 rfl)
    clear hg7 hy7 hn7
    go_wp2_with fail
    refine (readIs_any H8.out D7i.out ⟨#[91]⟩).mono ?_
    rintro en w9x ⟨b9,st9,rfl,h9,hs9,hg9,hf9,hy9,hn9⟩
    have hz10:=hs9.size
    have K_r10:=zh ((hs9.block w.heap.size (by omega) (by omega)).trans K_r8.out)
    have H10:=zh h9
    have B10:=zh (B8.out.box hs9)
    have S10:=zh (S8.out.trans hs9)
    have D9i:=zh (show st9.fault=0→st9.depth=30 - (d:Int) from fun e=>hg9.dep_eq e)
    have Hf9:=zh hf9
    clear h9 hs9 hf9
    cases b9 with
    |true=>
     have R9i:=zh (hg9.yes R7i.out)
     have Hy9:=zh (hy9 rfl).1
     clear hg9 hy9 hn9
     go_wp2_with fail
     refine (hE w9x br bT cap base T st9 H10.out B10.out D9i.out).mono ?_
     rintro en w11x ⟨cs11,x,st11,rfl,hx11,h11,hs11,hg11⟩
     obtain ⟨a_x,c_x,rfl⟩:=rX_shape hx11
     have hz12:=hs11.size
     have K_r12:=zh ((hs11.block w.heap.size (by omega) (by omega)).trans K_r10.out)
     have H12:=zh h11
     have B12:=zh (B10.out.box hs11)
     have S12:=zh (S10.out.trans hs11)
     have X_x11:RowKit.Hid (rX (fun k=>w9x.heap.size≤k∧k<w11x.heap.size) w11x [.int .i64 x.kind, .int .i64 x.n, .string x.s, .slice a_x x.args.length c_x] x):=zh (Good.wide (R:=rX) hx11 (fun k h1 h2=>⟨h2,h1⟩))
     clear hx11
     have R13:=zh (hg11.next R9i.out)
     have D13:=zh (show st11.fault=0→st11.depth=30 - (d:Int) from fun e=>hg11.dep_eq e)
     clear h11 hs11 hg11
     obtain ⟨b_xb,hb_xb⟩: ∃ b_xb,b_xb=w11x.heap.size:=⟨_,rfl⟩
     have hs14:Since (fun _=>False) (w11x) (w11x.alloc (.cells #[.int .i64 x.kind, .int .i64 x.n, .string x.s, .slice a_x x.args.length c_x] 28)):=Since.alloc _ _ _
     have hw14:(w11x.alloc (.cells #[.int .i64 x.kind, .int .i64 x.n, .string x.s, .slice a_x x.args.length c_x] 28)).heap.size=b_xb+1:=by rw [hb_xb];simp
     have K_xb14:RowKit.Hid ((w11x.alloc (.cells #[.int .i64 x.kind, .int .i64 x.n, .string x.s, .slice a_x x.args.length c_x] 28)).heap[b_xb]?=some (.cells #[.int .i64 x.kind, .int .i64 x.n, .string x.s, .slice a_x x.args.length c_x] 28 (0,0))):=zh (by have e:b_xb=(w11x).heap.size:=(by first|exact hb_xb|(rw [hb_xb];simp));have e2:=heap_alloc_new (w11x) (.cells #[.int .i64 x.kind, .int .i64 x.n, .string x.s, .slice a_x x.args.length c_x] 28);rw [←e] at e2;exact e2)
     have hz15:=hs14.size
     have K_r15:=zh ((hs14.block w.heap.size (by omega) (fun f=>f)).trans K_r12.out)
     have X_x15:RowKit.Hid (rX (fun k=>w9x.heap.size≤k∧k<w11x.heap.size) (w11x.alloc (.cells #[.int .i64 x.kind, .int .i64 x.n, .string x.s, .slice a_x x.args.length c_x] 28)) [.int .i64 x.kind, .int .i64 x.n, .string x.s, .slice a_x x.args.length c_x] x):=zh (Good.keep (R:=rX) ⟨hs14.size,fun k hk hS=>hs14.block k hk (fun f=>f)⟩ (fun _ _ h=>h) X_x11.out)
     have H15:=zh (H12.out.later hs14)
     have B15:=zh (B12.out.later hs14)
     have S15:RowKit.Hid (Since (fun k=>k=br) w (w11x.alloc (.cells #[.int .i64 x.kind, .int .i64 x.n, .string x.s, .slice a_x x.args.length c_x] 28))):=zh (S12.out.trans (hs14.mono (fun _ f=>f.elim)))
     have hl_xb:w11x.heap.size≤b_xb:=by omega
     go_wp2_with fail
     rw [←hb_xb]
     clear hb_xb
     generalize w11x.alloc (.cells #[.int .i64 x.kind, .int .i64 x.n, .string x.s, .slice a_x x.args.length c_x] 28)=wg16 at *
     refine (readMust_any H15.out D13.out ⟨#[93]⟩).mono ?_
     rintro en w17x ⟨st17,rfl,h17,hs17,hg17⟩
     have hz18:=hs17.size
     have K_r18:=zh ((hs17.block w.heap.size (by omega) (by omega)).trans K_r15.out)
     have K_xb18:=zh ((hs17.block b_xb (by omega) (by omega)).trans K_xb14.out)
     have X_x18:RowKit.Hid (rX (fun k=>w9x.heap.size≤k∧k<w11x.heap.size) (w17x) [.int .i64 x.kind, .int .i64 x.n, .string x.s, .slice a_x x.args.length c_x] x):=zh (Good.keep (R:=rX) ⟨hs17.size,fun k hk hS=>hs17.block k hk (by omega)⟩ (fun _ _ h=>h) X_x15.out)
     have H18:=zh h17
     have B18:=zh (B15.out.box hs17)
     have S18:=zh (S15.out.trans hs17)
     have R19:=zh (hg17.next R13.out)
     have D19:=zh (show st17.fault=0→st17.depth=30 - (d:Int) from fun e=>hg17.dep_eq e)
     clear h17 hs17 hg17
     go_wp2_with fail
     refine (readMust_any H18.out D19.out ⟨#[61]⟩).mono ?_
     rintro en w20x ⟨st20,rfl,h20,hs20,hg20⟩
     have hz21:=hs20.size
     have K_r21:=zh ((hs20.block w.heap.size (by omega) (by omega)).trans K_r18.out)
     have K_xb21:=zh ((hs20.block b_xb (by omega) (by omega)).trans K_xb18.out)
     have X_x21:RowKit.Hid (rX (fun k=>w9x.heap.size≤k∧k<w11x.heap.size) (w20x) [.int .i64 x.kind, .int .i64 x.n, .string x.s, .slice a_x x.args.length c_x] x):=zh (Good.keep (R:=rX) ⟨hs20.size,fun k hk hS=>hs20.block k hk (by omega)⟩ (fun _ _ h=>h) X_x18.out)
     have H21:=zh h20
     have B21:=zh (B18.out.box hs20)
     have S21:=zh (S18.out.trans hs20)
     have R22:=zh (hg20.next R19.out)
     have D22:=zh (show st20.fault=0→st20.depth=30 - (d:Int) from fun e=>hg20.dep_eq e)
     clear h20 hs20 hg20
     go_upto_region 13 with fail
     have hsD:Since (fun _=>False) w20x w20x.drew:=Since.drew (fun _=>False) w20x
     have hz23:=hsD.size
     have K_r23:=zh ((hsD.block w.heap.size (by omega) (fun f=>f)).trans K_r21.out)
     have K_xb23:=zh ((hsD.block b_xb (by omega) (fun f=>f)).trans K_xb21.out)
     have X_x23:RowKit.Hid (rX (fun k=>w9x.heap.size≤k∧k<w11x.heap.size) (w20x.drew) [.int .i64 x.kind, .int .i64 x.n, .string x.s, .slice a_x x.args.length c_x] x):=zh (Good.keep (R:=rX) ⟨hsD.size,fun k hk hS=>hsD.block k hk (fun f=>f)⟩ (fun _ _ h=>h) X_x21.out)
     have H23:=zh (H21.out.later hsD)
     have B23:=zh (B21.out.later hsD)
     have S23:RowKit.Hid (Since (fun k=>k=br) w (w20x.drew)):=zh (S21.out.trans (hsD.mono (fun _ f=>f.elim)))
     have hS0:(fun w'=>w'.cell? ⟨b_xb,0,none⟩=some (.int .i64 x.kind)∧w'.cell? ⟨b_xb,1,none⟩=some (.int .i64 x.n)∧w'.cell? ⟨b_xb,2,none⟩=some (.string x.s)∧w'.cell? ⟨b_xb,3,none⟩=some (.slice a_x x.args.length c_x)) (w20x.drew):=by
      have k:=K_xb23.out
      exact ⟨by simp [World.cell?,k],by simp [World.cell?,k],by simp [World.cell?,k],by simp [World.cell?,k]⟩
     refine WpT.start (fun w'=>w'.cell? ⟨b_xb,0,none⟩=some (.int .i64 x.kind)∧w'.cell? ⟨b_xb,1,none⟩=some (.int .i64 x.n)∧w'.cell? ⟨b_xb,2,none⟩=some (.string x.s)∧w'.cell? ⟨b_xb,3,none⟩=some (.slice a_x x.args.length c_x)) 6 (by kernel_rfl) ?_
     refine WpT.tk (i:=0) (v:=?_) rfl (by kernel_rfl) (fun _ _ _ h=>h) (Or.inl ⟨by rfl,?_⟩) hS0 ?_
     rotate_left
     ·
      intro wS hSw;obtain ⟨q0,q1,q2,q3⟩:=hSw;go_simp;(first|done|with_reducible rfl)
     try simp only [Act.put,List.setIfInBounds_toArray,List.set_cons_zero,List.set_cons_succ]
     refine WpT.tk (i:=1) (v:=?_) rfl (by kernel_rfl) (fun _ _ _ h=>h) (Or.inl ⟨by rfl,?_⟩) hS0 ?_
     rotate_left
     ·
      intro wS hSw;obtain ⟨q0,q1,q2,q3⟩:=hSw;go_simp;(first|done|with_reducible rfl)
     try simp only [Act.put,List.setIfInBounds_toArray,List.set_cons_zero,List.set_cons_succ]
     refine WpT.tk (i:=2) (v:=?_) rfl (by kernel_rfl) (fun _ _ _ h=>h) (Or.inl ⟨by rfl,?_⟩) hS0 ?_
     rotate_left
     ·
      intro wS hSw;obtain ⟨q0,q1,q2,q3⟩:=hSw;go_simp;(first|done|with_reducible rfl)
     try simp only [Act.put,List.setIfInBounds_toArray,List.set_cons_zero,List.set_cons_succ]
     refine WpT.one (i:=3) (by kernel_rfl) rfl (fun K hK=>?_)
     go_simp
     go_at_call 64
     generalize w20x.drew=wd at *
     refine (hE wd br bT cap base T st20 H23.out B23.out D22.out).mono ?_
     rintro en w24x ⟨cs24,y,st24,rfl,hx24,h24,hs24,hg24⟩
     obtain ⟨a_y,c_y,rfl⟩:=rX_shape hx24
     have hz25:=hs24.size
     have K_r25:=zh ((hs24.block w.heap.size (by omega) (by omega)).trans K_r23.out)
     have K_xb25:=zh ((hs24.block b_xb (by omega) (by omega)).trans K_xb23.out)
     have X_x25:RowKit.Hid (rX (fun k=>w9x.heap.size≤k∧k<w11x.heap.size) (w24x) [.int .i64 x.kind, .int .i64 x.n, .string x.s, .slice a_x x.args.length c_x] x):=zh (Good.keep (R:=rX) ⟨hs24.size,fun k hk hS=>hs24.block k hk (by omega)⟩ (fun _ _ h=>h) X_x23.out)
     have H25:=zh h24
     have B25:=zh (B23.out.box hs24)
     have S25:=zh (S23.out.trans hs24)
     have X_y24:RowKit.Hid (rX (fun k=>wd.heap.size≤k∧k<w24x.heap.size) w24x [.int .i64 y.kind, .int .i64 y.n, .string y.s, .slice a_y y.args.length c_y] y):=zh (Good.wide (R:=rX) hx24 (fun k h1 h2=>⟨h2,h1⟩))
     clear hx24
     have R26:=zh (hg24.next R22.out)
     have D26:=zh (show st24.fault=0→st24.depth=30 - (d:Int) from fun e=>hg24.dep_eq e)
     clear h24 hs24 hg24
     have hS1:(fun w'=>w'.cell? ⟨b_xb,0,none⟩=some (.int .i64 x.kind)∧w'.cell? ⟨b_xb,1,none⟩=some (.int .i64 x.n)∧w'.cell? ⟨b_xb,2,none⟩=some (.string x.s)∧w'.cell? ⟨b_xb,3,none⟩=some (.slice a_x x.args.length c_x)) (w24x):=by
      have k:=K_xb25.out
      exact ⟨by simp [World.cell?,k],by simp [World.cell?,k],by simp [World.cell?,k],by simp [World.cell?,k]⟩
     refine hK.out _ _ (fun _ _=>hS1) ?_
     clear hK K
     try simp only [Act.put,List.setIfInBounds_toArray,List.set_cons_zero,List.set_cons_succ]
     obtain ⟨b_xs,hb_xs⟩: ∃ b_xs,b_xs=w24x.heap.size:=⟨_,rfl⟩
     have hsa:Since (fun _=>False) w24x (w24x.alloc (.cells #[.int .i64 x.kind, .int .i64 x.n, .string x.s, .slice a_x x.args.length c_x, .int .i64 y.kind, .int .i64 y.n, .string y.s, .slice a_y y.args.length c_y] 28)):=Since.alloc _ _ _
     have hwa:(w24x.alloc (.cells #[.int .i64 x.kind, .int .i64 x.n, .string x.s, .slice a_x x.args.length c_x, .int .i64 y.kind, .int .i64 y.n, .string y.s, .slice a_y y.args.length c_y] 28)).heap.size=b_xs+1:=by rw [hb_xs];simp
     have K_xs:RowKit.Hid ((w24x.alloc (.cells #[.int .i64 x.kind, .int .i64 x.n, .string x.s, .slice a_x x.args.length c_x, .int .i64 y.kind, .int .i64 y.n, .string y.s, .slice a_y y.args.length c_y] 28)).heap[b_xs]?=some (.cells #[.int .i64 x.kind, .int .i64 x.n, .string x.s, .slice a_x x.args.length c_x, .int .i64 y.kind, .int .i64 y.n, .string y.s, .slice a_y y.args.length c_y] 28 (0,0))):=zh (by have e2:=heap_alloc_new w24x (.cells #[.int .i64 x.kind, .int .i64 x.n, .string x.s, .slice a_x x.args.length c_x, .int .i64 y.kind, .int .i64 y.n, .string y.s, .slice a_y y.args.length c_y] 28);rw [←hb_xs] at e2;exact e2)
     have hz27:=hsa.size
     have K_r27:=zh ((hsa.block w.heap.size (by omega) (fun f=>f)).trans K_r25.out)
     have K_xb27:=zh ((hsa.block b_xb (by omega) (fun f=>f)).trans K_xb25.out)
     have X_x27:RowKit.Hid (rX (fun k=>w9x.heap.size≤k∧k<w11x.heap.size) (w24x.alloc (.cells #[.int .i64 x.kind, .int .i64 x.n, .string x.s, .slice a_x x.args.length c_x, .int .i64 y.kind, .int .i64 y.n, .string y.s, .slice a_y y.args.length c_y] 28)) [.int .i64 x.kind, .int .i64 x.n, .string x.s, .slice a_x x.args.length c_x] x):=zh (Good.keep (R:=rX) ⟨hsa.size,fun k hk hS=>hsa.block k hk (fun f=>f)⟩ (fun _ _ h=>h) X_x25.out)
     have X_y27:RowKit.Hid (rX (fun k=>wd.heap.size≤k∧k<w24x.heap.size) (w24x.alloc (.cells #[.int .i64 x.kind, .int .i64 x.n, .string x.s, .slice a_x x.args.length c_x, .int .i64 y.kind, .int .i64 y.n, .string y.s, .slice a_y y.args.length c_y] 28)) [.int .i64 y.kind, .int .i64 y.n, .string y.s, .slice a_y y.args.length c_y] y):=zh (Good.keep (R:=rX) ⟨hsa.size,fun k hk hS=>hsa.block k hk (fun f=>f)⟩ (fun _ _ h=>h) X_y24.out)
     have H27:=zh (H25.out.later hsa)
     have B27:=zh (B25.out.later hsa)
     have S27:RowKit.Hid (Since (fun k=>k=br) w (w24x.alloc (.cells #[.int .i64 x.kind, .int .i64 x.n, .string x.s, .slice a_x x.args.length c_x, .int .i64 y.kind, .int .i64 y.n, .string y.s, .slice a_y y.args.length c_y] 28))):=zh (S25.out.trans (hsa.mono (fun _ f=>f.elim)))
     have hS2:(fun w'=>w'.cell? ⟨b_xb,0,none⟩=some (.int .i64 x.kind)∧w'.cell? ⟨b_xb,1,none⟩=some (.int .i64 x.n)∧w'.cell? ⟨b_xb,2,none⟩=some (.string x.s)∧w'.cell? ⟨b_xb,3,none⟩=some (.slice a_x x.args.length c_x)) (w24x.alloc (.cells #[.int .i64 x.kind, .int .i64 x.n, .string x.s, .slice a_x x.args.length c_x, .int .i64 y.kind, .int .i64 y.n, .string y.s, .slice a_y y.args.length c_y] 28)):=by
      have k:=K_xb27.out
      exact ⟨by simp [World.cell?,k],by simp [World.cell?,k],by simp [World.cell?,k],by simp [World.cell?,k]⟩
     have hl_xs:w24x.heap.size≤b_xs:=by omega
     refine WpT.one (i:=4) (by kernel_rfl) rfl (fun K hK=>?_)
     go_simp
     rw [←hb_xs]
     clear hb_xs
     generalize w24x.alloc (.cells #[.int .i64 x.kind, .int .i64 x.n, .string x.s, .slice a_x x.args.length c_x, .int .i64 y.kind, .int .i64 y.n, .string y.s, .slice a_y y.args.length c_y] 28)=wa at *
     refine hK.out _ _ (fun _ _=>hS2) ?_
     clear hK K
     try simp only [Act.put,List.setIfInBounds_toArray,List.set_cons_zero,List.set_cons_succ]
     refine WpT.one (i:=5) (by kernel_rfl) rfl (fun K hK=>?_)
     go_simp
     refine hK.out _ _ (fun _ _=>hS2) ?_
     clear hK K
     try simp only [Act.put,List.setIfInBounds_toArray,List.set_cons_zero,List.set_cons_succ]
     have gr28_0:=ca0 K_r27.out
     have gr28_1:=ca1 K_r27.out
     have gr28_2:=ca2 K_r27.out
     have gr28_3:=ca3 K_r27.out
     have gr28_4:=ca4 K_r27.out
     have gr28_5:=ca5 K_r27.out
     have gr28_6:=ca6 K_r27.out
     have gr28_z:=cz K_r27.out
     refine WpT.one (i:=6) (by kernel_rfl) rfl (fun K hK=>?_)
     go_simp
     refine hK.out _ _ (fun h=>absurd rfl h) ?_
     clear hK K
     try simp only [Act.put,List.setIfInBounds_toArray,List.set_cons_zero,List.set_cons_succ]
     refine WpT.done (by kernel_rfl) ?_ _
     go_wp2_with fail
     obtain ⟨mb,ms⟩:=cells7 (w:=wa) K_r27.out (.int .i64 3) (.string s) (.string ⟨#[]⟩) (.slice (some ⟨b_xs,0,none⟩) 2 2) (.slice none 0 0) (.slice none 0 0) (.slice none 0 0)
     generalize hWW:((((((wa.setCell ⟨w.heap.size,0,none⟩ (.int .i64 3)).setCell ⟨w.heap.size,1,none⟩ (.string s)).setCell ⟨w.heap.size,2,none⟩ (.string ⟨#[]⟩)).setCell ⟨w.heap.size,3,none⟩ (.slice (some ⟨b_xs,0,none⟩) 2 2)).setCell ⟨w.heap.size,4,none⟩ (.slice none 0 0)).setCell ⟨w.heap.size,5,none⟩ (.slice none 0 0)).setCell ⟨w.heap.size,6,none⟩ (.slice none 0 0)=WW at *
     have m0:=ca0 mb
     have m1:=ca1 mb
     have m2:=ca2 mb
     have m3:=ca3 mb
     have m4:=ca4 mb
     have m5:=ca5 mb
     have m6:=ca6 mb
     refine bodyPost_ret (v:= .agg #[.int .i64 3, .string s, .string ⟨#[]⟩, .slice (some ⟨b_xs,0,none⟩) 2 2, .slice none 0 0, .slice none 0 0, .slice none 0 0]) (by simp [results,Tryd.results66,go_sem,m0,m1,m2,m3,m4,m5,m6]) rfl ⟨_, .mk 3 s ⟨#[]⟩ [x,y] [] [] [],st24,rfl,rS_mk 3 s ⟨#[]⟩ (ini rfl) Hs.out (by decide) (rXs_two (cs:=[.int .i64 x.kind, .int .i64 x.n, .string x.s, .slice a_x x.args.length c_x]) (cs':=[.int .i64 y.kind, .int .i64 y.n, .string y.s, .slice a_y y.args.length c_y]) (Good.keep (R:=rX) ⟨ms.size,fun k hk hS=>ms.block k hk (by omega)⟩ (fun k hk hS=>by omega) X_x27.out) (Good.keep (R:=rX) ⟨ms.size,fun k hk hS=>ms.block k hk (by omega)⟩ (fun k hk hS=>by omega) X_y27.out) ((ms.block b_xs (by omega) (by omega)).trans K_xs.out) (show w.heap.size≤b_xs by omega) (by decide) (by decide)) (rSs_nil _ _) (rSs_nil _ _) (rCs_nil _ _),(H27.out).since ms (by omega) (by omega),(S27.out).then_new ms (fun k e=>Or.inr (by omega)),?_⟩
     exact Good'.end R26.out D26.out
    |false=>
     have R9i:=zh (hg9.no R7i.out)
     have Hn9:=zh (hn9 rfl)
     clear hg9 hy9 hn9
     obtain ⟨p,hp⟩: ∃ p,seeR T st9=p:=⟨_,rfl⟩
     have hpk:=readPeek_any H10.out
     rw [hp] at hpk
     have HR:=zh (show Res=if p.kind=109∧p.s=⟨#[40]⟩ then PR.bind (argsR (exprR d)) (fun l=>PR.ret (PStmt.mk 13 ⟨#[]⟩ ⟨#[]⟩ [.mk 7 0 s l] [] [] [])) (T.drop st9.i) else .error (tp,4) from by
      rw [R9i.out,runR_ok (Hf9.out (Hf7.out (Hf5.out Hf.out)))]
      try dsimp only
      rw [←seeR_head (Hf9.out (Hf7.out (Hf5.out Hf.out))),hp,←seeR_head H0.out,Ht.out])
     have Hpk:=zh hpk
     have Hp:=zh hp
     clear hpk hp
     obtain ⟨pk,ps,pn,pp⟩:=p
     go_wp2_with fail
     refine Hpk.out.mono ?_
     rintro en w1z ⟨rfl,hs1z⟩
     simp only [tokC]
     have hz11:=hs1z.size
     have K_r11:=zh ((hs1z.block w.heap.size (by omega) (fun f=>f)).trans K_r10.out)
     have H11:=zh (H10.out.later hs1z)
     have B11:=zh (B10.out.later hs1z)
     have S11:RowKit.Hid (Since (fun k=>k=br) w (w1z)):=zh (S10.out.trans (hs1z.mono (fun _ f=>f.elim)))
     clear hs1z
     by_cases e5:pk=109
     ·
      have f5:(pk==109)=true:=by simp [e5]
      have E5:=zh e5
      clear e5
      have hpk2:=readPeek_any H11.out
      rw [show seeR T st9=⟨pk,ps,pn,pp⟩ from Hp.out] at hpk2
      have Hpk2:=zh hpk2
      clear hpk2
      go_wp2_with fail
      refine Hpk2.out.mono ?_
      rintro en w2z ⟨rfl,hs2z⟩
      simp only [tokC]
      have hz12:=hs2z.size
      have K_r12:=zh ((hs2z.block w.heap.size (by omega) (fun f=>f)).trans K_r11.out)
      have H12:=zh (H11.out.later hs2z)
      have B12:=zh (B11.out.later hs2z)
      have S12:RowKit.Hid (Since (fun k=>k=br) w (w2z)):=zh (S11.out.trans (hs2z.mono (fun _ f=>f.elim)))
      clear hs2z
      by_cases e6:ps=⟨#[40]⟩
      ·
       subst e6
       go_wp2_with fail
       refine (readArgs_any hE H12.out B12.out D9i.out).mono ?_
       rintro en w13x ⟨v13,l,st13,rfl,hx13,h13,hs13,hg13⟩
       obtain ⟨a_l,c_l,rfl⟩:=rXs_shape hx13
       have hz14:=hs13.size
       have K_r14:=zh ((hs13.block w.heap.size (by omega) (by omega)).trans K_r12.out)
       have H14:=zh h13
       have B14:=zh (B12.out.box hs13)
       have S14:=zh (S12.out.trans hs13)
       have X_l13:RowKit.Hid (rXs (fun k=>w2z.heap.size≤k∧k<w13x.heap.size) w13x [.slice a_l l.length c_l] l):=zh (Good.wide (R:=rXs) hx13 (fun k h1 h2=>⟨h2,h1⟩))
       clear hx13
       have R15:=zh (hg13.next ((HR.out.trans (if_pos (by first|exact ⟨E5.out,rfl⟩|exact ⟨E5.out,trivial⟩))).trans (runR_ok (T:=T) (Hf9.out (Hf7.out (Hf5.out Hf.out)))).symm))
       have D15:=zh (show st13.fault=0→st13.depth=30 - (d:Int) from fun e=>hg13.dep_eq e)
       clear h13 hs13 hg13
       obtain ⟨b_xs,hb_xs⟩: ∃ b_xs,b_xs=w13x.heap.size:=⟨_,rfl⟩
       have hs16:Since (fun _=>False) (w13x) (w13x.alloc (.cells #[.int .i64 7, .int .i64 0, .string s, .slice a_l l.length c_l] 28)):=Since.alloc _ _ _
       have hw16:(w13x.alloc (.cells #[.int .i64 7, .int .i64 0, .string s, .slice a_l l.length c_l] 28)).heap.size=b_xs+1:=by rw [hb_xs];simp
       have K_xs16:RowKit.Hid ((w13x.alloc (.cells #[.int .i64 7, .int .i64 0, .string s, .slice a_l l.length c_l] 28)).heap[b_xs]?=some (.cells #[.int .i64 7, .int .i64 0, .string s, .slice a_l l.length c_l] 28 (0,0))):=zh (by have e:b_xs=(w13x).heap.size:=(by first|exact hb_xs|(rw [hb_xs];simp));have e2:=heap_alloc_new (w13x) (.cells #[.int .i64 7, .int .i64 0, .string s, .slice a_l l.length c_l] 28);rw [←e] at e2;exact e2)
       have hz17:=hs16.size
       have K_r17:=zh ((hs16.block w.heap.size (by omega) (fun f=>f)).trans K_r14.out)
       have X_l17:RowKit.Hid (rXs (fun k=>w2z.heap.size≤k∧k<w13x.heap.size) (w13x.alloc (.cells #[.int .i64 7, .int .i64 0, .string s, .slice a_l l.length c_l] 28)) [.slice a_l l.length c_l] l):=zh (Good.keep (R:=rXs) ⟨hs16.size,fun k hk hS=>hs16.block k hk (fun f=>f)⟩ (fun _ _ h=>h) X_l13.out)
       have H17:=zh (H14.out.later hs16)
       have B17:=zh (B14.out.later hs16)
       have S17:RowKit.Hid (Since (fun k=>k=br) w (w13x.alloc (.cells #[.int .i64 7, .int .i64 0, .string s, .slice a_l l.length c_l] 28))):=zh (S14.out.trans (hs16.mono (fun _ f=>f.elim)))
       have hl_xs:w13x.heap.size≤b_xs:=by omega
       have gr18_0:=ca0 K_r17.out
       have gr18_1:=ca1 K_r17.out
       have gr18_2:=ca2 K_r17.out
       have gr18_3:=ca3 K_r17.out
       have gr18_4:=ca4 K_r17.out
       have gr18_5:=ca5 K_r17.out
       have gr18_6:=ca6 K_r17.out
       have gr18_z:=cz K_r17.out
       go_wp2_with fail
       rw [←hb_xs]
       clear hb_xs
       generalize w13x.alloc (.cells #[.int .i64 7, .int .i64 0, .string s, .slice a_l l.length c_l] 28)=wg18 at *
       obtain ⟨mb,ms⟩:=cells7 (w:=wg18) K_r17.out (.int .i64 13) (.string ⟨#[]⟩) (.string ⟨#[]⟩) (.slice (some ⟨b_xs,0,none⟩) 1 1) (.slice none 0 0) (.slice none 0 0) (.slice none 0 0)
       generalize hWW:((((((wg18.setCell ⟨w.heap.size,0,none⟩ (.int .i64 13)).setCell ⟨w.heap.size,1,none⟩ (.string ⟨#[]⟩)).setCell ⟨w.heap.size,2,none⟩ (.string ⟨#[]⟩)).setCell ⟨w.heap.size,3,none⟩ (.slice (some ⟨b_xs,0,none⟩) 1 1)).setCell ⟨w.heap.size,4,none⟩ (.slice none 0 0)).setCell ⟨w.heap.size,5,none⟩ (.slice none 0 0)).setCell ⟨w.heap.size,6,none⟩ (.slice none 0 0)=WW at *
       have m0:=ca0 mb
       have m1:=ca1 mb
       have m2:=ca2 mb
       have m3:=ca3 mb
       have m4:=ca4 mb
       have m5:=ca5 mb
       have m6:=ca6 mb
       refine bodyPost_ret (v:= .agg #[.int .i64 13, .string ⟨#[]⟩, .string ⟨#[]⟩, .slice (some ⟨b_xs,0,none⟩) 1 1, .slice none 0 0, .slice none 0 0, .slice none 0 0]) (by simp [results,Tryd.results66,go_sem,m0,m1,m2,m3,m4,m5,m6]) rfl ⟨_, .mk 13 ⟨#[]⟩ ⟨#[]⟩ [.mk 7 0 s l] [] [] [],st13,rfl,rS_mk 13 ⟨#[]⟩ ⟨#[]⟩ (ini rfl) (by decide) (by decide) (rXs_one (rX_mk 7 0 s (ini rfl) (ini rfl) Hs.out (Good.keep (R:=rXs) ⟨ms.size,fun k hk hS=>ms.block k hk (by omega)⟩ (fun k hk hS=>by omega) X_l17.out)) ((ms.block b_xs (by omega) (by omega)).trans K_xs16.out) (show w.heap.size≤b_xs by omega) (by decide) (by decide)) (rSs_nil _ _) (rSs_nil _ _) (rCs_nil _ _),(H17.out).since ms (by omega) (by omega),(S17.out).then_new ms (fun k e=>Or.inr (by omega)),?_⟩
       exact Good'.end R15.out D15.out
      ·
       have f6:(ps.toList==[40])=false:=by
        have:=tokS_ne e6
        simpa using this
       have f6': ¬ps.toList=[40]:=by simpa using f6
       have E6:=zh e6
       clear e6
       go_wp2_with fail
       refine (readWrong_any H12.out tp 4 (by decide)).mono ?_
       rintro en w13x ⟨rfl,h13,hs13⟩
       have hz14:=hs13.size
       have K_r14:=zh ((hs13.block w.heap.size (by omega) (by omega)).trans K_r12.out)
       have H14:=zh h13
       have B14:=zh (B12.out.box hs13)
       have S14:=zh (S12.out.trans hs13)
       clear h13 hs13
       have gr15_0:=ca0 K_r14.out
       have gr15_1:=ca1 K_r14.out
       have gr15_2:=ca2 K_r14.out
       have gr15_3:=ca3 K_r14.out
       have gr15_4:=ca4 K_r14.out
       have gr15_5:=ca5 K_r14.out
       have gr15_6:=ca6 K_r14.out
       have gr15_z:=cz K_r14.out
       go_wp2_with fail
       obtain ⟨mb,ms⟩:=cells7 (w:=w13x) K_r14.out (.int .i64 0) (.string ⟨#[]⟩) (.string ⟨#[]⟩) (.slice none 0 0) (.slice none 0 0) (.slice none 0 0) (.slice none 0 0)
       generalize hWW:((((((w13x.setCell ⟨w.heap.size,0,none⟩ (.int .i64 0)).setCell ⟨w.heap.size,1,none⟩ (.string ⟨#[]⟩)).setCell ⟨w.heap.size,2,none⟩ (.string ⟨#[]⟩)).setCell ⟨w.heap.size,3,none⟩ (.slice none 0 0)).setCell ⟨w.heap.size,4,none⟩ (.slice none 0 0)).setCell ⟨w.heap.size,5,none⟩ (.slice none 0 0)).setCell ⟨w.heap.size,6,none⟩ (.slice none 0 0)=WW at *
       have m0:=ca0 mb
       have m1:=ca1 mb
       have m2:=ca2 mb
       have m3:=ca3 mb
       have m4:=ca4 mb
       have m5:=ca5 mb
       have m6:=ca6 mb
       refine bodyPost_ret (v:= .agg #[.int .i64 0, .string ⟨#[]⟩, .string ⟨#[]⟩, .slice none 0 0, .slice none 0 0, .slice none 0 0, .slice none 0 0]) (by simp [results,Tryd.results66,go_sem,m0,m1,m2,m3,m4,m5,m6]) rfl ⟨_, .mk 0 ⟨#[]⟩ ⟨#[]⟩ [] [] [] [],_,rfl,rS_mk 0 ⟨#[]⟩ ⟨#[]⟩ (ini rfl) (by decide) (by decide) (rXs_nil _ _) (rSs_nil _ _) (rSs_nil _ _) (rCs_nil _ _),(H14.out).since ms (by omega) (by omega),(S14.out).then_new ms (fun k e=>Or.inr (by omega)),?_⟩
       rw [HR.out,if_neg (fun e=>E6.out e.2),RSt.bad,if_pos (Hf9.out (Hf7.out (Hf5.out Hf.out)))];exact ⟨rfl,rfl,by decide⟩
     ·
      have f5:(pk==109)=false:=by simp [e5]
      have E5:=zh e5
      clear e5
      go_wp2_with fail
      refine (readWrong_any H11.out tp 4 (by decide)).mono ?_
      rintro en w12x ⟨rfl,h12,hs12⟩
      have hz13:=hs12.size
      have K_r13:=zh ((hs12.block w.heap.size (by omega) (by omega)).trans K_r11.out)
      have H13:=zh h12
      have B13:=zh (B11.out.box hs12)
      have S13:=zh (S11.out.trans hs12)
      clear h12 hs12
      have gr14_0:=ca0 K_r13.out
      have gr14_1:=ca1 K_r13.out
      have gr14_2:=ca2 K_r13.out
      have gr14_3:=ca3 K_r13.out
      have gr14_4:=ca4 K_r13.out
      have gr14_5:=ca5 K_r13.out
      have gr14_6:=ca6 K_r13.out
      have gr14_z:=cz K_r13.out
      go_wp2_with fail
      obtain ⟨mb,ms⟩:=cells7 (w:=w12x) K_r13.out (.int .i64 0) (.string ⟨#[]⟩) (.string ⟨#[]⟩) (.slice none 0 0) (.slice none 0 0) (.slice none 0 0) (.slice none 0 0)
      generalize hWW:((((((w12x.setCell ⟨w.heap.size,0,none⟩ (.int .i64 0)).setCell ⟨w.heap.size,1,none⟩ (.string ⟨#[]⟩)).setCell ⟨w.heap.size,2,none⟩ (.string ⟨#[]⟩)).setCell ⟨w.heap.size,3,none⟩ (.slice none 0 0)).setCell ⟨w.heap.size,4,none⟩ (.slice none 0 0)).setCell ⟨w.heap.size,5,none⟩ (.slice none 0 0)).setCell ⟨w.heap.size,6,none⟩ (.slice none 0 0)=WW at *
      have m0:=ca0 mb
      have m1:=ca1 mb
      have m2:=ca2 mb
      have m3:=ca3 mb
      have m4:=ca4 mb
      have m5:=ca5 mb
      have m6:=ca6 mb
      refine bodyPost_ret (v:= .agg #[.int .i64 0, .string ⟨#[]⟩, .string ⟨#[]⟩, .slice none 0 0, .slice none 0 0, .slice none 0 0, .slice none 0 0]) (by simp [results,Tryd.results66,go_sem,m0,m1,m2,m3,m4,m5,m6]) rfl ⟨_, .mk 0 ⟨#[]⟩ ⟨#[]⟩ [] [] [] [],_,rfl,rS_mk 0 ⟨#[]⟩ ⟨#[]⟩ (ini rfl) (by decide) (by decide) (rXs_nil _ _) (rSs_nil _ _) (rSs_nil _ _) (rCs_nil _ _),(H13.out).since ms (by omega) (by omega),(S13.out).then_new ms (fun k e=>Or.inr (by omega)),?_⟩
      rw [HR.out,if_neg (fun e=>E5.out e.1),RSt.bad,if_pos (Hf9.out (Hf7.out (Hf5.out Hf.out)))];exact ⟨rfl,rfl,by decide⟩
 ·
  have f0:(st2.fault !=0)=true:=by simpa using hf
  have Hf:=zh hf
  clear hf
  have gr5_0:=ca0 K_r3.out
  have gr5_1:=ca1 K_r3.out
  have gr5_2:=ca2 K_r3.out
  have gr5_3:=ca3 K_r3.out
  have gr5_4:=ca4 K_r3.out
  have gr5_5:=ca5 K_r3.out
  have gr5_6:=ca6 K_r3.out
  have gr5_z:=cz K_r3.out
  go_wp2_with fail
  obtain ⟨mb,ms⟩:=cells7 (w:=w2x) K_r3.out (.int .i64 0) (.string ⟨#[]⟩) (.string ⟨#[]⟩) (.slice none 0 0) (.slice none 0 0) (.slice none 0 0) (.slice none 0 0)
  generalize hWW:((((((w2x.setCell ⟨w.heap.size,0,none⟩ (.int .i64 0)).setCell ⟨w.heap.size,1,none⟩ (.string ⟨#[]⟩)).setCell ⟨w.heap.size,2,none⟩ (.string ⟨#[]⟩)).setCell ⟨w.heap.size,3,none⟩ (.slice none 0 0)).setCell ⟨w.heap.size,4,none⟩ (.slice none 0 0)).setCell ⟨w.heap.size,5,none⟩ (.slice none 0 0)).setCell ⟨w.heap.size,6,none⟩ (.slice none 0 0)=WW at *
  have m0:=ca0 mb
  have m1:=ca1 mb
  have m2:=ca2 mb
  have m3:=ca3 mb
  have m4:=ca4 mb
  have m5:=ca5 mb
  have m6:=ca6 mb
  refine bodyPost_ret (v:= .agg #[.int .i64 0, .string ⟨#[]⟩, .string ⟨#[]⟩, .slice none 0 0, .slice none 0 0, .slice none 0 0, .slice none 0 0]) (by simp [results,Tryd.results66,go_sem,m0,m1,m2,m3,m4,m5,m6]) rfl ⟨_, .mk 0 ⟨#[]⟩ ⟨#[]⟩ [] [] [] [],st2,rfl,rS_mk 0 ⟨#[]⟩ ⟨#[]⟩ (ini rfl) (by decide) (by decide) (rXs_nil _ _) (rSs_nil _ _) (rSs_nil _ _) (rCs_nil _ _),(H3.out).since ms (by omega) (by omega),(S3.out).then_new ms (fun k e=>Or.inr (by omega)),?_⟩
  exact Good'.fail _ R4.out Hf.out
end Go.Proofs.YtkopjgnjflhkeaaDoor

import Derived.Test.YtkopjgnjflhkeaaDoorTY
import Derived.Test.YtkopjgnjflhkeaaDoorTZ
import Derived.Test.YtkopjgnjflhkeaaDoorTZA
namespace Go.Proofs.YtkopjgnjflhkeaaDoor
open Go.RowKit Go.Pst
set_option linter.unusedVariables false
set_option linter.unusedSimpArgs false
variable {w:World} {br bT cap base:Nat} {T:List Tok} {st:RSt} {dep:Int}
set_option maxRecDepth 4000 in
set_option maxHeartbeats 8000000 in
theorem readStmt_any (d:Nat) (hE:ExprOK d) (hK:BlockOK d) (hI:IfOK d):StmtOK d:=by
 intro w br bT cap base T st h hL h0 hd
 have hbr:=h.lt.1
 have hbT:=h.lt.2
 obtain ⟨Res,hres⟩: ∃ Res,Res=stmtR d (T.drop st.i):=⟨_,rfl⟩
 rw [←hres]
 have hs0:Since (fun _=>False) w (w.alloc (.cells #[.int .i64 0, .string ⟨#[]⟩, .string ⟨#[]⟩, .slice none 0 0, .slice none 0 0, .slice none 0 0, .slice none 0 0] 32)):=Since.alloc _ _ _
 have hb0:(w.alloc (.cells #[.int .i64 0, .string ⟨#[]⟩, .string ⟨#[]⟩, .slice none 0 0, .slice none 0 0, .slice none 0 0, .slice none 0 0] 32)).heap[w.heap.size]?=some (.cells #[.int .i64 0, .string ⟨#[]⟩, .string ⟨#[]⟩, .slice none 0 0, .slice none 0 0, .slice none 0 0, .slice none 0 0] 32 (0,0)):=heap_alloc_new w _
 have hlb:=hL.lb.2
 have hA:=h.later hs0
 have hB:=hL.later hs0
 have hlt0:w.heap.size<(w.alloc (.cells #[.int .i64 0, .string ⟨#[]⟩, .string ⟨#[]⟩, .slice none 0 0, .slice none 0 0, .slice none 0 0, .slice none 0 0] 32)).heap.size:=by simp
 have HA:=zh hA
 have HB:=zh hB
 have K_r0:=zh hb0
 have S0:=zh (show Since (fun k=>k=br) w (w.alloc (.cells #[.int .i64 0, .string ⟨#[]⟩, .string ⟨#[]⟩, .slice none 0 0, .slice none 0 0, .slice none 0 0, .slice none 0 0] 32)) from hs0.mono (fun _ f=>f.elim))
 have D0:=zh (show st.fault=0→st.depth=30 - (d:Int) from fun _=>hd)
 have R0:RowKit.Hid (Res=runR T _ st):=zh (hres.trans (runR_ok (T:=T) h0).symm)
 have H0:=zh h0
 clear h hL hA hB hb0 hs0 hres h0 hd
 go_enter Tryd.func49,Tryd.ntmps49
 go_wp2_with fail
 generalize w.alloc (.cells #[.int .i64 0, .string ⟨#[]⟩, .string ⟨#[]⟩, .slice none 0 0, .slice none 0 0, .slice none 0 0, .slice none 0 0] 32)=w0 at *
 have R1:RowKit.Hid (Res=runR T (branchR ⟨#[105,102]⟩ _ _) st):=R0
 refine (readIs_any HA.out D0.out ⟨#[105,102]⟩).mono ?_
 rintro en w1x ⟨b1,st1,rfl,h1,hs1,hg1,hf1,hy1,hn1⟩
 have hz2:=hs1.size
 have K_r2:=zh ((hs1.block w.heap.size (by omega) (by omega)).trans K_r0.out)
 have H2:=zh h1
 have B2:=zh (HB.out.box hs1)
 have S2:=zh (S0.out.trans hs1)
 have D1i:=zh (show st1.fault=0→st1.depth=30 - (d:Int) from fun e=>hg1.dep_eq e)
 have Hf1:=zh hf1
 clear h1 hs1 hf1
 cases b1 with
 |true=>
  have R1i:=zh (hg1.yes R1.out)
  have Hy1:=zh (hy1 rfl).1
  have Hyi1:=zh (hy1 rfl).2
  clear hg1 hy1 hn1
  go_wp2_with fail
  refine (hI w1x br bT cap base T st1 H2.out B2.out (Hf1.out H0.out) (D1i.out (Hf1.out H0.out))).mono ?_
  rintro en w3x ⟨cs3,x,st3,rfl,hx3,h3,hs3,hg3⟩
  obtain ⟨a3_x,c3_x,a4_x,c4_x,a5_x,c5_x,a6_x,c6_x,rfl⟩:=rS_shape hx3
  have hz4:=hs3.size
  have K_r4:=zh ((hs3.block w.heap.size (by omega) (by omega)).trans K_r2.out)
  have H4:=zh h3
  have B4:=zh (B2.out.box hs3)
  have S4:=zh (S2.out.trans hs3)
  have X_x3:RowKit.Hid (rS (fun k=>w1x.heap.size≤k∧k<w3x.heap.size) w3x [.int .i64 x.kind, .string x.s, .string x.t, .slice a3_x x.exprs.length c3_x, .slice a4_x x.body.length c4_x, .slice a5_x x.els.length c5_x, .slice a6_x x.cases.length c6_x] x):=zh (Good.wide (R:=rS) hx3 (fun k h1 h2=>⟨h2,h1⟩))
  clear hx3
  have Hg3:=zh hg3
  clear h3 hs3 hg3
  have gr5_0:=ca0 K_r4.out
  have gr5_1:=ca1 K_r4.out
  have gr5_2:=ca2 K_r4.out
  have gr5_3:=ca3 K_r4.out
  have gr5_4:=ca4 K_r4.out
  have gr5_5:=ca5 K_r4.out
  have gr5_6:=ca6 K_r4.out
  have gr5_z:=cz K_r4.out
  go_wp2_with fail
  obtain ⟨mb,ms⟩:=cells7 (w:=w3x) K_r4.out (.int .i64 x.kind) (.string x.s) (.string x.t) (.slice a3_x x.exprs.length c3_x) (.slice a4_x x.body.length c4_x) (.slice a5_x x.els.length c5_x) (.slice a6_x x.cases.length c6_x)
  generalize hWW:((((((w3x.setCell ⟨w.heap.size,0,none⟩ (.int .i64 x.kind)).setCell ⟨w.heap.size,1,none⟩ (.string x.s)).setCell ⟨w.heap.size,2,none⟩ (.string x.t)).setCell ⟨w.heap.size,3,none⟩ (.slice a3_x x.exprs.length c3_x)).setCell ⟨w.heap.size,4,none⟩ (.slice a4_x x.body.length c4_x)).setCell ⟨w.heap.size,5,none⟩ (.slice a5_x x.els.length c5_x)).setCell ⟨w.heap.size,6,none⟩ (.slice a6_x x.cases.length c6_x)=WW at *
  have m0:=ca0 mb
  have m1:=ca1 mb
  have m2:=ca2 mb
  have m3:=ca3 mb
  have m4:=ca4 mb
  have m5:=ca5 mb
  have m6:=ca6 mb
  refine bodyPost_ret (v:= .agg #[.int .i64 x.kind, .string x.s, .string x.t, .slice a3_x x.exprs.length c3_x, .slice a4_x x.body.length c4_x, .slice a5_x x.els.length c5_x, .slice a6_x x.cases.length c6_x]) (by simp [results,Tryd.results49,go_sem,m0,m1,m2,m3,m4,m5,m6]) rfl ⟨_,x,st3,rfl,(Good.keep (R:=rS) ⟨ms.size,fun k hk hS=>ms.block k hk (by omega)⟩ (fun k hk hS=>by omega) X_x3.out),(H4.out).since ms (by omega) (by omega),(S4.out).then_new ms (fun k e=>Or.inr (by omega)),?_⟩
  rw [R1i.out,runR_ok (Hf1.out H0.out)];exact Hg3.out
 |false=>
  have R1i:=zh (hg1.no R1.out)
  have Hn1:=zh (hn1 rfl)
  clear hg1 hy1 hn1
  go_wp2_with fail
  refine (readIs_any H2.out D1i.out ⟨#[102,111,114]⟩).mono ?_
  rintro en w3x ⟨b3,st3,rfl,h3,hs3,hg3,hf3,hy3,hn3⟩
  have hz4:=hs3.size
  have K_r4:=zh ((hs3.block w.heap.size (by omega) (by omega)).trans K_r2.out)
  have H4:=zh h3
  have B4:=zh (B2.out.box hs3)
  have S4:=zh (S2.out.trans hs3)
  have D3i:=zh (show st3.fault=0→st3.depth=30 - (d:Int) from fun e=>hg3.dep_eq e)
  have Hf3:=zh hf3
  clear h3 hs3 hf3
  cases b3 with
  |true=>
   have R3i:=zh (hg3.yes R1i.out)
   have Hy3:=zh (hy3 rfl).1
   have Hyi3:=zh (hy3 rfl).2
   clear hg3 hy3 hn3
   go_wp2_with fail
   refine (readLoop_any d hE hK H4.out B4.out (Hf3.out (Hf1.out H0.out)) (D3i.out (Hf3.out (Hf1.out H0.out)))).mono ?_
   rintro en w5x ⟨cs5,x,st5,rfl,hx5,h5,hs5,hg5⟩
   obtain ⟨a3_x,c3_x,a4_x,c4_x,a5_x,c5_x,a6_x,c6_x,rfl⟩:=rS_shape hx5
   have hz6:=hs5.size
   have K_r6:=zh ((hs5.block w.heap.size (by omega) (by omega)).trans K_r4.out)
   have H6:=zh h5
   have B6:=zh (B4.out.box hs5)
   have S6:=zh (S4.out.trans hs5)
   have X_x5:RowKit.Hid (rS (fun k=>w3x.heap.size≤k∧k<w5x.heap.size) w5x [.int .i64 x.kind, .string x.s, .string x.t, .slice a3_x x.exprs.length c3_x, .slice a4_x x.body.length c4_x, .slice a5_x x.els.length c5_x, .slice a6_x x.cases.length c6_x] x):=zh (Good.wide (R:=rS) hx5 (fun k h1 h2=>⟨h2,h1⟩))
   clear hx5
   have Hg5:=zh hg5
   clear h5 hs5 hg5
   have gr7_0:=ca0 K_r6.out
   have gr7_1:=ca1 K_r6.out
   have gr7_2:=ca2 K_r6.out
   have gr7_3:=ca3 K_r6.out
   have gr7_4:=ca4 K_r6.out
   have gr7_5:=ca5 K_r6.out
   have gr7_6:=ca6 K_r6.out
   have gr7_z:=cz K_r6.out
   go_wp2_with fail
   obtain ⟨mb,ms⟩:=cells7 (w:=w5x) K_r6.out (.int .i64 x.kind) (.string x.s) (.string x.t) (.slice a3_x x.exprs.length c3_x) (.slice a4_x x.body.length c4_x) (.slice a5_x x.els.length c5_x) (.slice a6_x x.cases.length c6_x)
   generalize hWW:((((((w5x.setCell ⟨w.heap.size,0,none⟩ (.int .i64 x.kind)).setCell ⟨w.heap.size,1,none⟩ (.string x.s)).setCell ⟨w.heap.size,2,none⟩ (.string x.t)).setCell ⟨w.heap.size,3,none⟩ (.slice a3_x x.exprs.length c3_x)).setCell ⟨w.heap.size,4,none⟩ (.slice a4_x x.body.length c4_x)).setCell ⟨w.heap.size,5,none⟩ (.slice a5_x x.els.length c5_x)).setCell ⟨w.heap.size,6,none⟩ (.slice a6_x x.cases.length c6_x)=WW at *
   have m0:=ca0 mb
   have m1:=ca1 mb
   have m2:=ca2 mb
   have m3:=ca3 mb
   have m4:=ca4 mb
   have m5:=ca5 mb
   have m6:=ca6 mb
   refine bodyPost_ret (v:= .agg #[.int .i64 x.kind, .string x.s, .string x.t, .slice a3_x x.exprs.length c3_x, .slice a4_x x.body.length c4_x, .slice a5_x x.els.length c5_x, .slice a6_x x.cases.length c6_x]) (by simp [results,Tryd.results49,go_sem,m0,m1,m2,m3,m4,m5,m6]) rfl ⟨_,x,st5,rfl,(Good.keep (R:=rS) ⟨ms.size,fun k hk hS=>ms.block k hk (by omega)⟩ (fun k hk hS=>by omega) X_x5.out),(H6.out).since ms (by omega) (by omega),(S6.out).then_new ms (fun k e=>Or.inr (by omega)),?_⟩
   rw [R3i.out,runR_ok (Hf3.out (Hf1.out H0.out))];exact Hg5.out
  |false=>
   have R3i:=zh (hg3.no R1i.out)
   have Hn3:=zh (hn3 rfl)
   clear hg3 hy3 hn3
   go_wp2_with fail
   refine (readIs_any H4.out D3i.out ⟨#[115,119,105,116,99,104]⟩).mono ?_
   rintro en w5x ⟨b5,st5,rfl,h5,hs5,hg5,hf5,hy5,hn5⟩
   have hz6:=hs5.size
   have K_r6:=zh ((hs5.block w.heap.size (by omega) (by omega)).trans K_r4.out)
   have H6:=zh h5
   have B6:=zh (B4.out.box hs5)
   have S6:=zh (S4.out.trans hs5)
   have D5i:=zh (show st5.fault=0→st5.depth=30 - (d:Int) from fun e=>hg5.dep_eq e)
   have Hf5:=zh hf5
   clear h5 hs5 hf5
   cases b5 with
   |true=>
    have R5i:=zh (hg5.yes R3i.out)
    have Hy5:=zh (hy5 rfl).1
    have Hyi5:=zh (hy5 rfl).2
    clear hg5 hy5 hn5
    go_wp2_with fail
    refine (readCases_any d hE hK H6.out B6.out (Hf5.out (Hf3.out (Hf1.out H0.out))) (D5i.out (Hf5.out (Hf3.out (Hf1.out H0.out))))).mono ?_
    rintro en w7x ⟨cs7,x,st7,rfl,hx7,h7,hs7,hg7⟩
    obtain ⟨a3_x,c3_x,a4_x,c4_x,a5_x,c5_x,a6_x,c6_x,rfl⟩:=rS_shape hx7
    have hz8:=hs7.size
    have K_r8:=zh ((hs7.block w.heap.size (by omega) (by omega)).trans K_r6.out)
    have H8:=zh h7
    have B8:=zh (B6.out.box hs7)
    have S8:=zh (S6.out.trans hs7)
    have X_x7:RowKit.Hid (rS (fun k=>w5x.heap.size≤k∧k<w7x.heap.size) w7x [.int .i64 x.kind, .string x.s, .string x.t, .slice a3_x x.exprs.length c3_x, .slice a4_x x.body.length c4_x, .slice a5_x x.els.length c5_x, .slice a6_x x.cases.length c6_x] x):=zh (Good.wide (R:=rS) hx7 (fun k h1 h2=>⟨h2,h1⟩))
    clear hx7
    have Hg7:=zh hg7
    clear h7 hs7 hg7
    have gr9_0:=ca0 K_r8.out
    have gr9_1:=ca1 K_r8.out
    have gr9_2:=ca2 K_r8.out
    have gr9_3:=ca3 K_r8.out
    have gr9_4:=ca4 K_r8.out
    have gr9_5:=ca5 K_r8.out
    have gr9_6:=ca6 K_r8.out
    have gr9_z:=cz K_r8.out
    go_wp2_with fail
    obtain ⟨mb,ms⟩:=cells7 (w:=w7x) K_r8.out (.int .i64 x.kind) (.string x.s) (.string x.t) (.slice a3_x x.exprs.length c3_x) (.slice a4_x x.body.length c4_x) (.slice a5_x x.els.length c5_x) (.slice a6_x x.cases.length c6_x)
    generalize hWW:((((((w7x.setCell ⟨w.heap.size,0,none⟩ (.int .i64 x.kind)).setCell ⟨w.heap.size,1,none⟩ (.string x.s)).setCell ⟨w.heap.size,2,none⟩ (.string x.t)).setCell ⟨w.heap.size,3,none⟩ (.slice a3_x x.exprs.length c3_x)).setCell ⟨w.heap.size,4,none⟩ (.slice a4_x x.body.length c4_x)).setCell ⟨w.heap.size,5,none⟩ (.slice a5_x x.els.length c5_x)).setCell ⟨w.heap.size,6,none⟩ (.slice a6_x x.cases.length c6_x)=WW at *
    have m0:=ca0 mb
    have m1:=ca1 mb
    have m2:=ca2 mb
    have m3:=ca3 mb
    have m4:=ca4 mb
    have m5:=ca5 mb
    have m6:=ca6 mb
    refine bodyPost_ret (v:= .agg #[.int .i64 x.kind, .string x.s, .string x.t, .slice a3_x x.exprs.length c3_x, .slice a4_x x.body.length c4_x, .slice a5_x x.els.length c5_x, .slice a6_x x.cases.length c6_x]) (by simp [results,Tryd.results49,go_sem,m0,m1,m2,m3,m4,m5,m6]) rfl ⟨_,x,st7,rfl,(Good.keep (R:=rS) ⟨ms.size,fun k hk hS=>ms.block k hk (by omega)⟩ (fun k hk hS=>by omega) X_x7.out),(H8.out).since ms (by omega) (by omega),(S8.out).then_new ms (fun k e=>Or.inr (by omega)),?_⟩
    rw [R5i.out,runR_ok (Hf5.out (Hf3.out (Hf1.out H0.out)))];exact Hg7.out
   |false=>
    have R5i:=zh (hg5.no R3i.out)
    have Hn5:=zh (hn5 rfl)
    clear hg5 hy5 hn5
    go_wp2_with fail
    refine (readIs_any H6.out D5i.out ⟨#[114,101,116,117,114,110]⟩).mono ?_
    rintro en w7x ⟨b7,st7,rfl,h7,hs7,hg7,hf7,hy7,hn7⟩
    have hz8:=hs7.size
    have K_r8:=zh ((hs7.block w.heap.size (by omega) (by omega)).trans K_r6.out)
    have H8:=zh h7
    have B8:=zh (B6.out.box hs7)
    have S8:=zh (S6.out.trans hs7)
    have D7i:=zh (show st7.fault=0→st7.depth=30 - (d:Int) from fun e=>hg7.dep_eq e)
    have Hf7:=zh hf7
    clear h7 hs7 hf7
    cases b7 with
    |true=>
     have R7i:=zh (hg7.yes R5i.out)
     have Hy7:=zh (hy7 rfl).1
     have Hyi7:=zh (hy7 rfl).2
     clear hg7 hy7 hn7
     obtain ⟨b_s,hb_s⟩: ∃ b_s,b_s=w7x.heap.size:=⟨_,rfl⟩
     have hs9:Since (fun _=>False) (w7x) (w7x.alloc (.cells #[.int .i64 8, .string ⟨#[]⟩, .string ⟨#[]⟩, .slice none 0 0, .slice none 0 0, .slice none 0 0, .slice none 0 0] 32)):=Since.alloc _ _ _
     have hw9:(w7x.alloc (.cells #[.int .i64 8, .string ⟨#[]⟩, .string ⟨#[]⟩, .slice none 0 0, .slice none 0 0, .slice none 0 0, .slice none 0 0] 32)).heap.size=b_s+1:=by rw [hb_s];simp
     have K_s9:RowKit.Hid ((w7x.alloc (.cells #[.int .i64 8, .string ⟨#[]⟩, .string ⟨#[]⟩, .slice none 0 0, .slice none 0 0, .slice none 0 0, .slice none 0 0] 32)).heap[b_s]?=some (.cells #[.int .i64 8, .string ⟨#[]⟩, .string ⟨#[]⟩, .slice none 0 0, .slice none 0 0, .slice none 0 0, .slice none 0 0] 32 (0,0))):=zh (by have e:b_s=(w7x).heap.size:=(by first|exact hb_s|(rw [hb_s];simp));have e2:=heap_alloc_new (w7x) (.cells #[.int .i64 8, .string ⟨#[]⟩, .string ⟨#[]⟩, .slice none 0 0, .slice none 0 0, .slice none 0 0, .slice none 0 0] 32);rw [←e] at e2;exact e2)
     have hz10:=hs9.size
     have K_r10:=zh ((hs9.block w.heap.size (by omega) (fun f=>f)).trans K_r8.out)
     have H10:=zh (H8.out.later hs9)
     have B10:=zh (B8.out.later hs9)
     have S10:RowKit.Hid (Since (fun k=>k=br) w (w7x.alloc (.cells #[.int .i64 8, .string ⟨#[]⟩, .string ⟨#[]⟩, .slice none 0 0, .slice none 0 0, .slice none 0 0, .slice none 0 0] 32))):=zh (S8.out.trans (hs9.mono (fun _ f=>f.elim)))
     have hl_s:w7x.heap.size≤b_s:=by omega
     go_upto_region 9 with fail
     rw [←hb_s]
     clear hb_s
     generalize w7x.alloc (.cells #[.int .i64 8, .string ⟨#[]⟩, .string ⟨#[]⟩, .slice none 0 0, .slice none 0 0, .slice none 0 0, .slice none 0 0] 32)=wg11 at *
     obtain ⟨p,hp⟩: ∃ p,seeR T st7=p:=⟨_,rfl⟩
     have hpk:=readPeek_any H10.out
     rw [hp] at hpk
     have HR:=zh (show Res=if p.kind≠109∨p.s≠⟨#[125]⟩ then PR.bind (exprR d) (fun x=>PR.ret (PStmt.mk 8 ⟨#[]⟩ ⟨#[]⟩ [x] [] [] [])) (T.drop st7.i) else .ok (.mk 8 ⟨#[]⟩ ⟨#[]⟩ [] [] [] [],T.drop st7.i) from by
      rw [R7i.out,runR_ok (Hf7.out (Hf5.out (Hf3.out (Hf1.out H0.out))))]
      unfold backG
      rw [←seeR_head (Hf7.out (Hf5.out (Hf3.out (Hf1.out H0.out)))),hp])
     have Hpk:=zh hpk
     clear hpk hp
     obtain ⟨pk,ps,pn,pp⟩:=p
     go_wp2_with fail
     refine Hpk.out.mono ?_
     rintro en w1z ⟨rfl,hs1z⟩
     simp only [tokC]
     have hz12:=hs1z.size
     have K_r12:=zh ((hs1z.block w.heap.size (by omega) (fun f=>f)).trans K_r10.out)
     have K_s12:=zh ((hs1z.block b_s (by omega) (fun f=>f)).trans K_s9.out)
     have H12:=zh (H10.out.later hs1z)
     have B12:=zh (B10.out.later hs1z)
     have S12:RowKit.Hid (Since (fun k=>k=br) w (w1z)):=zh (S10.out.trans (hs1z.mono (fun _ f=>f.elim)))
     clear hs1z
     obtain ⟨b_t,hb_t⟩: ∃ b_t,b_t=w1z.heap.size:=⟨_,rfl⟩
     have hs13:Since (fun _=>False) (w1z) (w1z.alloc (.cells #[.int .u8 pk, .string ps, .int .i64 pn, .int .i64 pp] 52)):=Since.alloc _ _ _
     have hw13:(w1z.alloc (.cells #[.int .u8 pk, .string ps, .int .i64 pn, .int .i64 pp] 52)).heap.size=b_t+1:=by rw [hb_t];simp
     have K_t13:RowKit.Hid ((w1z.alloc (.cells #[.int .u8 pk, .string ps, .int .i64 pn, .int .i64 pp] 52)).heap[b_t]?=some (.cells #[.int .u8 pk, .string ps, .int .i64 pn, .int .i64 pp] 52 (0,0))):=zh (by have e:b_t=(w1z).heap.size:=(by first|exact hb_t|(rw [hb_t];simp));have e2:=heap_alloc_new (w1z) (.cells #[.int .u8 pk, .string ps, .int .i64 pn, .int .i64 pp] 52);rw [←e] at e2;exact e2)
     have hz14:=hs13.size
     have K_r14:=zh ((hs13.block w.heap.size (by omega) (fun f=>f)).trans K_r12.out)
     have K_s14:=zh ((hs13.block b_s (by omega) (fun f=>f)).trans K_s12.out)
     have H14:=zh (H12.out.later hs13)
     have B14:=zh (B12.out.later hs13)
     have S14:RowKit.Hid (Since (fun k=>k=br) w (w1z.alloc (.cells #[.int .u8 pk, .string ps, .int .i64 pn, .int .i64 pp] 52))):=zh (S12.out.trans (hs13.mono (fun _ f=>f.elim)))
     have hl_t:w1z.heap.size≤b_t:=by omega
     go_upto_region 10 with fail
     rw [←hb_t]
     clear hb_t
     generalize w1z.alloc (.cells #[.int .u8 pk, .string ps, .int .i64 pn, .int .i64 pp] 52)=wg15 at *
     by_cases e5:pk=109∧ps=⟨#[125]⟩
     ·
      obtain ⟨e5,rfl⟩:=e5
      have f5:(pk !=109)=false:=by simp [e5]
      have E5:=zh e5
      clear e5
      have gt16_0:=ca0 K_t13.out
      have gt16_1:=ca1 K_t13.out
      have gt16_2:=ca2 K_t13.out
      have gt16_3:=ca3 K_t13.out
      have gt16_z:=cz K_t13.out
      have gs17_0:=ca0 K_s14.out
      have gs17_1:=ca1 K_s14.out
      have gs17_2:=ca2 K_s14.out
      have gs17_3:=ca3 K_s14.out
      have gs17_4:=ca4 K_s14.out
      have gs17_5:=ca5 K_s14.out
      have gs17_6:=ca6 K_s14.out
      have gs17_z:=cz K_s14.out
      have gr18_0:=ca0 K_r14.out
      have gr18_1:=ca1 K_r14.out
      have gr18_2:=ca2 K_r14.out
      have gr18_3:=ca3 K_r14.out
      have gr18_4:=ca4 K_r14.out
      have gr18_5:=ca5 K_r14.out
      have gr18_6:=ca6 K_r14.out
      have gr18_z:=cz K_r14.out
      go_upto_region 12 with fail
      clear gt16_0 gt16_1 gt16_2 gt16_3 gt16_z gs17_0 gs17_1 gs17_2 gs17_3 gs17_4 gs17_5 gs17_6 gs17_z gr18_0 gr18_1 gr18_2 gr18_3 gr18_4 gr18_5 gr18_6 gr18_z
      have gs19_0:=ca0 K_s14.out
      have gs19_1:=ca1 K_s14.out
      have gs19_2:=ca2 K_s14.out
      have gs19_3:=ca3 K_s14.out
      have gs19_4:=ca4 K_s14.out
      have gs19_5:=ca5 K_s14.out
      have gs19_6:=ca6 K_s14.out
      have gs19_z:=cz K_s14.out
      have gr20_0:=ca0 K_r14.out
      have gr20_1:=ca1 K_r14.out
      have gr20_2:=ca2 K_r14.out
      have gr20_3:=ca3 K_r14.out
      have gr20_4:=ca4 K_r14.out
      have gr20_5:=ca5 K_r14.out
      have gr20_6:=ca6 K_r14.out
      have gr20_z:=cz K_r14.out
      go_wp2_with fail
      obtain ⟨mb,ms⟩:=cells7 (w:=wg15) K_r14.out (.int .i64 8) (.string ⟨#[]⟩) (.string ⟨#[]⟩) (.slice none 0 0) (.slice none 0 0) (.slice none 0 0) (.slice none 0 0)
      generalize hWW:((((((wg15.setCell ⟨w.heap.size,0,none⟩ (.int .i64 8)).setCell ⟨w.heap.size,1,none⟩ (.string ⟨#[]⟩)).setCell ⟨w.heap.size,2,none⟩ (.string ⟨#[]⟩)).setCell ⟨w.heap.size,3,none⟩ (.slice none 0 0)).setCell ⟨w.heap.size,4,none⟩ (.slice none 0 0)).setCell ⟨w.heap.size,5,none⟩ (.slice none 0 0)).setCell ⟨w.heap.size,6,none⟩ (.slice none 0 0)=WW at *
      have m0:=ca0 mb
      have m1:=ca1 mb
      have m2:=ca2 mb
      have m3:=ca3 mb
      have m4:=ca4 mb
      have m5:=ca5 mb
      have m6:=ca6 mb
      refine bodyPost_ret (v:= .agg #[.int .i64 8, .string ⟨#[]⟩, .string ⟨#[]⟩, .slice none 0 0, .slice none 0 0, .slice none 0 0, .slice none 0 0]) (by simp [results,Tryd.results49,go_sem,m0,m1,m2,m3,m4,m5,m6]) rfl ⟨_, .mk 8 ⟨#[]⟩ ⟨#[]⟩ [] [] [] [],st7,rfl,rS_mk 8 ⟨#[]⟩ ⟨#[]⟩ (ini rfl) (by decide) (by decide) (rXs_nil _ _) (rSs_nil _ _) (rSs_nil _ _) (rCs_nil _ _),(H14.out).since ms (by omega) (by omega),(S14.out).then_new ms (fun k e=>Or.inr (by omega)),?_⟩
      rw [HR.out,if_neg (by rintro (e|e);exact e E5.out;exact e (by first|rfl|trivial))];exact ⟨rfl,(Hf7.out (Hf5.out (Hf3.out (Hf1.out H0.out)))),D7i.out (Hf7.out (Hf5.out (Hf3.out (Hf1.out H0.out)))),rfl⟩
     ·
      by_cases e6:pk=109
      ·
       have f5:(pk !=109)=false:=by simp [e6]
       have e7:ps≠⟨#[125]⟩:=fun e=>e5 ⟨e6,e⟩
       have f6:(ps.toList==[125])=false:=by
        have:=tokS_ne e7
        simpa using this
       have f6': ¬ps.toList=[125]:=by simpa using f6
       have E7:=zh e7
       clear e5 e6 e7
       have gt16_0:=ca0 K_t13.out
       have gt16_1:=ca1 K_t13.out
       have gt16_2:=ca2 K_t13.out
       have gt16_3:=ca3 K_t13.out
       have gt16_z:=cz K_t13.out
       go_wp2_with fail
       clear gt16_0 gt16_1 gt16_2 gt16_3 gt16_z
       refine (hE wg15 br bT cap base T st7 H14.out B14.out D7i.out).mono ?_
       rintro en w17x ⟨cs17,x,st17,rfl,hx17,h17,hs17,hg17⟩
       obtain ⟨a_x,c_x,rfl⟩:=rX_shape hx17
       have hz18:=hs17.size
       have K_r18:=zh ((hs17.block w.heap.size (by omega) (by omega)).trans K_r14.out)
       have K_s18:=zh ((hs17.block b_s (by omega) (by omega)).trans K_s14.out)
       have K_t18:=zh ((hs17.block b_t (by omega) (by omega)).trans K_t13.out)
       have H18:=zh h17
       have B18:=zh (B14.out.box hs17)
       have S18:=zh (S14.out.trans hs17)
       have X_x17:RowKit.Hid (rX (fun k=>wg15.heap.size≤k∧k<w17x.heap.size) w17x [.int .i64 x.kind, .int .i64 x.n, .string x.s, .slice a_x x.args.length c_x] x):=zh (Good.wide (R:=rX) hx17 (fun k h1 h2=>⟨h2,h1⟩))
       clear hx17
       have R19:=zh (hg17.next ((HR.out.trans (if_pos (Or.inr E7.out))).trans (runR_ok (T:=T) (Hf7.out (Hf5.out (Hf3.out (Hf1.out H0.out))))).symm))
       have D19:=zh (show st17.fault=0→st17.depth=30 - (d:Int) from fun e=>hg17.dep_eq e)
       clear h17 hs17 hg17
       obtain ⟨b_xs,hb_xs⟩: ∃ b_xs,b_xs=w17x.heap.size:=⟨_,rfl⟩
       have hs20:Since (fun _=>False) (w17x) (w17x.alloc (.cells #[.int .i64 x.kind, .int .i64 x.n, .string x.s, .slice a_x x.args.length c_x] 28)):=Since.alloc _ _ _
       have hw20:(w17x.alloc (.cells #[.int .i64 x.kind, .int .i64 x.n, .string x.s, .slice a_x x.args.length c_x] 28)).heap.size=b_xs+1:=by rw [hb_xs];simp
       have K_xs20:RowKit.Hid ((w17x.alloc (.cells #[.int .i64 x.kind, .int .i64 x.n, .string x.s, .slice a_x x.args.length c_x] 28)).heap[b_xs]?=some (.cells #[.int .i64 x.kind, .int .i64 x.n, .string x.s, .slice a_x x.args.length c_x] 28 (0,0))):=zh (by have e:b_xs=(w17x).heap.size:=(by first|exact hb_xs|(rw [hb_xs];simp));have e2:=heap_alloc_new (w17x) (.cells #[.int .i64 x.kind, .int .i64 x.n, .string x.s, .slice a_x x.args.length c_x] 28);rw [←e] at e2;exact e2)
       have hz21:=hs20.size
       have K_r21:=zh ((hs20.block w.heap.size (by omega) (fun f=>f)).trans K_r18.out)
       have K_s21:=zh ((hs20.block b_s (by omega) (fun f=>f)).trans K_s18.out)
       have K_t21:=zh ((hs20.block b_t (by omega) (fun f=>f)).trans K_t18.out)
       have X_x21:RowKit.Hid (rX (fun k=>wg15.heap.size≤k∧k<w17x.heap.size) (w17x.alloc (.cells #[.int .i64 x.kind, .int .i64 x.n, .string x.s, .slice a_x x.args.length c_x] 28)) [.int .i64 x.kind, .int .i64 x.n, .string x.s, .slice a_x x.args.length c_x] x):=zh (Good.keep (R:=rX) ⟨hs20.size,fun k hk hS=>hs20.block k hk (fun f=>f)⟩ (fun _ _ h=>h) X_x17.out)
       have H21:=zh (H18.out.later hs20)
       have B21:=zh (B18.out.later hs20)
       have S21:RowKit.Hid (Since (fun k=>k=br) w (w17x.alloc (.cells #[.int .i64 x.kind, .int .i64 x.n, .string x.s, .slice a_x x.args.length c_x] 28))):=zh (S18.out.trans (hs20.mono (fun _ f=>f.elim)))
       have gs22_3:=ca3 K_s21.out
       have gs22_z:=cz K_s21.out
       have hs23:Since (fun k=>k=b_s) (w17x.alloc (.cells #[.int .i64 x.kind, .int .i64 x.n, .string x.s, .slice a_x x.args.length c_x] 28)) ((w17x.alloc (.cells #[.int .i64 x.kind, .int .i64 x.n, .string x.s, .slice a_x x.args.length c_x] 28)).setCell ⟨b_s,3,none⟩ (.slice (some ⟨b_xs,0,none⟩) 1 1)):=Since.setCell (w17x.alloc (.cells #[.int .i64 x.kind, .int .i64 x.n, .string x.s, .slice a_x x.args.length c_x] 28)) ⟨b_s,3,none⟩ (.slice (some ⟨b_xs,0,none⟩) 1 1)
       have K_s23:RowKit.Hid (((w17x.alloc (.cells #[.int .i64 x.kind, .int .i64 x.n, .string x.s, .slice a_x x.args.length c_x] 28)).setCell ⟨b_s,3,none⟩ (.slice (some ⟨b_xs,0,none⟩) 1 1)).heap[b_s]?=some (.cells #[.int .i64 8, .string ⟨#[]⟩, .string ⟨#[]⟩, .slice (some ⟨b_xs,0,none⟩) 1 1, .slice none 0 0, .slice none 0 0, .slice none 0 0] 32 (0,0))):=zh (by have:=box_set K_s21.out 3 (.slice (some ⟨b_xs,0,none⟩) 1 1) (by simp);simpa using this)
       have hz24:=hs23.size
       have K_r24:=zh ((hs23.block w.heap.size (by omega) (by omega)).trans K_r21.out)
       have K_t24:=zh ((hs23.block b_t (by omega) (by omega)).trans K_t21.out)
       have K_xs24:=zh ((hs23.block b_xs (by omega) (by omega)).trans K_xs20.out)
       have X_x24:RowKit.Hid (rX (fun k=>wg15.heap.size≤k∧k<w17x.heap.size) ((w17x.alloc (.cells #[.int .i64 x.kind, .int .i64 x.n, .string x.s, .slice a_x x.args.length c_x] 28)).setCell ⟨b_s,3,none⟩ (.slice (some ⟨b_xs,0,none⟩) 1 1)) [.int .i64 x.kind, .int .i64 x.n, .string x.s, .slice a_x x.args.length c_x] x):=zh (Good.keep (R:=rX) ⟨hs23.size,fun k hk hS=>hs23.block k hk (by omega)⟩ (fun _ _ h=>h) X_x21.out)
       have H24:=zh (H21.out.since hs23 (by omega) (by omega))
       have B24:=zh (B21.out.since hs23 (fun k e=>by omega))
       have S24:=zh (S21.out.then_new hs23 (fun k e=>Or.inr (by omega)))
       have hl_xs:w17x.heap.size≤b_xs:=by omega
       go_upto_region 12 with fail
       clear gs22_3 gs22_z
       rw [←hb_xs]
       clear hb_xs
       generalize (w17x.alloc (.cells #[.int .i64 x.kind, .int .i64 x.n, .string x.s, .slice a_x x.args.length c_x] 28)).setCell ⟨b_s,3,none⟩ (.slice (some ⟨b_xs,0,none⟩) 1 1)=wg25 at *
       have gs26_0:=ca0 K_s23.out
       have gs26_1:=ca1 K_s23.out
       have gs26_2:=ca2 K_s23.out
       have gs26_3:=ca3 K_s23.out
       have gs26_4:=ca4 K_s23.out
       have gs26_5:=ca5 K_s23.out
       have gs26_6:=ca6 K_s23.out
       have gs26_z:=cz K_s23.out
       have gr27_0:=ca0 K_r24.out
       have gr27_1:=ca1 K_r24.out
       have gr27_2:=ca2 K_r24.out
       have gr27_3:=ca3 K_r24.out
       have gr27_4:=ca4 K_r24.out
       have gr27_5:=ca5 K_r24.out
       have gr27_6:=ca6 K_r24.out
       have gr27_z:=cz K_r24.out
       go_wp2_with fail
       obtain ⟨mb,ms⟩:=cells7 (w:=wg25) K_r24.out (.int .i64 8) (.string ⟨#[]⟩) (.string ⟨#[]⟩) (.slice (some ⟨b_xs,0,none⟩) 1 1) (.slice none 0 0) (.slice none 0 0) (.slice none 0 0)
       generalize hWW:((((((wg25.setCell ⟨w.heap.size,0,none⟩ (.int .i64 8)).setCell ⟨w.heap.size,1,none⟩ (.string ⟨#[]⟩)).setCell ⟨w.heap.size,2,none⟩ (.string ⟨#[]⟩)).setCell ⟨w.heap.size,3,none⟩ (.slice (some ⟨b_xs,0,none⟩) 1 1)).setCell ⟨w.heap.size,4,none⟩ (.slice none 0 0)).setCell ⟨w.heap.size,5,none⟩ (.slice none 0 0)).setCell ⟨w.heap.size,6,none⟩ (.slice none 0 0)=WW at *
       have m0:=ca0 mb
       have m1:=ca1 mb
       have m2:=ca2 mb
       have m3:=ca3 mb
       have m4:=ca4 mb
       have m5:=ca5 mb
       have m6:=ca6 mb
       refine bodyPost_ret (v:= .agg #[.int .i64 8, .string ⟨#[]⟩, .string ⟨#[]⟩, .slice (some ⟨b_xs,0,none⟩) 1 1, .slice none 0 0, .slice none 0 0, .slice none 0 0]) (by simp [results,Tryd.results49,go_sem,m0,m1,m2,m3,m4,m5,m6]) rfl ⟨_, .mk 8 ⟨#[]⟩ ⟨#[]⟩ [x] [] [] [],st17,rfl,rS_mk 8 ⟨#[]⟩ ⟨#[]⟩ (ini rfl) (by decide) (by decide) (rXs_one (Good.keep (R:=rX) ⟨ms.size,fun k hk hS=>ms.block k hk (by omega)⟩ (fun k hk hS=>by omega) X_x24.out) ((ms.block b_xs (by omega) (by omega)).trans K_xs24.out) (show w.heap.size≤b_xs by omega) (by decide) (by decide)) (rSs_nil _ _) (rSs_nil _ _) (rCs_nil _ _),(H24.out).since ms (by omega) (by omega),(S24.out).then_new ms (fun k e=>Or.inr (by omega)),?_⟩
       exact Good'.end R19.out D19.out
      ·
       have f5:(pk !=109)=true:=by simp [e6]
       have E7:=zh e6
       clear e5 e6
       have gt16_0:=ca0 K_t13.out
       have gt16_1:=ca1 K_t13.out
       have gt16_2:=ca2 K_t13.out
       have gt16_3:=ca3 K_t13.out
       have gt16_z:=cz K_t13.out
       go_wp2_with fail
       clear gt16_0 gt16_1 gt16_2 gt16_3 gt16_z
       refine (hE wg15 br bT cap base T st7 H14.out B14.out D7i.out).mono ?_
       rintro en w17x ⟨cs17,x,st17,rfl,hx17,h17,hs17,hg17⟩
       obtain ⟨a_x,c_x,rfl⟩:=rX_shape hx17
       have hz18:=hs17.size
       have K_r18:=zh ((hs17.block w.heap.size (by omega) (by omega)).trans K_r14.out)
       have K_s18:=zh ((hs17.block b_s (by omega) (by omega)).trans K_s14.out)
       have K_t18:=zh ((hs17.block b_t (by omega) (by omega)).trans K_t13.out)
       have H18:=zh h17
       have B18:=zh (B14.out.box hs17)
       have S18:=zh (S14.out.trans hs17)
       have X_x17:RowKit.Hid (rX (fun k=>wg15.heap.size≤k∧k<w17x.heap.size) w17x [.int .i64 x.kind, .int .i64 x.n, .string x.s, .slice a_x x.args.length c_x] x):=zh (Good.wide (R:=rX) hx17 (fun k h1 h2=>⟨h2,h1⟩))
       clear hx17
       have R19:=zh (hg17.next ((HR.out.trans (if_pos (Or.inl E7.out))).trans (runR_ok (T:=T) (Hf7.out (Hf5.out (Hf3.out (Hf1.out H0.out))))).symm))
       have D19:=zh (show st17.fault=0→st17.depth=30 - (d:Int) from fun e=>hg17.dep_eq e)
       clear h17 hs17 hg17
       obtain ⟨b_xs,hb_xs⟩: ∃ b_xs,b_xs=w17x.heap.size:=⟨_,rfl⟩
       have hs20:Since (fun _=>False) (w17x) (w17x.alloc (.cells #[.int .i64 x.kind, .int .i64 x.n, .string x.s, .slice a_x x.args.length c_x] 28)):=Since.alloc _ _ _
       have hw20:(w17x.alloc (.cells #[.int .i64 x.kind, .int .i64 x.n, .string x.s, .slice a_x x.args.length c_x] 28)).heap.size=b_xs+1:=by rw [hb_xs];simp
       have K_xs20:RowKit.Hid ((w17x.alloc (.cells #[.int .i64 x.kind, .int .i64 x.n, .string x.s, .slice a_x x.args.length c_x] 28)).heap[b_xs]?=some (.cells #[.int .i64 x.kind, .int .i64 x.n, .string x.s, .slice a_x x.args.length c_x] 28 (0,0))):=zh (by have e:b_xs=(w17x).heap.size:=(by first|exact hb_xs|(rw [hb_xs];simp));have e2:=heap_alloc_new (w17x) (.cells #[.int .i64 x.kind, .int .i64 x.n, .string x.s, .slice a_x x.args.length c_x] 28);rw [←e] at e2;exact e2)
       have hz21:=hs20.size
       have K_r21:=zh ((hs20.block w.heap.size (by omega) (fun f=>f)).trans K_r18.out)
       have K_s21:=zh ((hs20.block b_s (by omega) (fun f=>f)).trans K_s18.out)
       have K_t21:=zh ((hs20.block b_t (by omega) (fun f=>f)).trans K_t18.out)
       have X_x21:RowKit.Hid (rX (fun k=>wg15.heap.size≤k∧k<w17x.heap.size) (w17x.alloc (.cells #[.int .i64 x.kind, .int .i64 x.n, .string x.s, .slice a_x x.args.length c_x] 28)) [.int .i64 x.kind, .int .i64 x.n, .string x.s, .slice a_x x.args.length c_x] x):=zh (Good.keep (R:=rX) ⟨hs20.size,fun k hk hS=>hs20.block k hk (fun f=>f)⟩ (fun _ _ h=>h) X_x17.out)
       have H21:=zh (H18.out.later hs20)
       have B21:=zh (B18.out.later hs20)
       have S21:RowKit.Hid (Since (fun k=>k=br) w (w17x.alloc (.cells #[.int .i64 x.kind, .int .i64 x.n, .string x.s, .slice a_x x.args.length c_x] 28))):=zh (S18.out.trans (hs20.mono (fun _ f=>f.elim)))
       have gs22_3:=ca3 K_s21.out
       have gs22_z:=cz K_s21.out
       have hs23:Since (fun k=>k=b_s) (w17x.alloc (.cells #[.int .i64 x.kind, .int .i64 x.n, .string x.s, .slice a_x x.args.length c_x] 28)) ((w17x.alloc (.cells #[.int .i64 x.kind, .int .i64 x.n, .string x.s, .slice a_x x.args.length c_x] 28)).setCell ⟨b_s,3,none⟩ (.slice (some ⟨b_xs,0,none⟩) 1 1)):=Since.setCell (w17x.alloc (.cells #[.int .i64 x.kind, .int .i64 x.n, .string x.s, .slice a_x x.args.length c_x] 28)) ⟨b_s,3,none⟩ (.slice (some ⟨b_xs,0,none⟩) 1 1)
       have K_s23:RowKit.Hid (((w17x.alloc (.cells #[.int .i64 x.kind, .int .i64 x.n, .string x.s, .slice a_x x.args.length c_x] 28)).setCell ⟨b_s,3,none⟩ (.slice (some ⟨b_xs,0,none⟩) 1 1)).heap[b_s]?=some (.cells #[.int .i64 8, .string ⟨#[]⟩, .string ⟨#[]⟩, .slice (some ⟨b_xs,0,none⟩) 1 1, .slice none 0 0, .slice none 0 0, .slice none 0 0] 32 (0,0))):=zh (by have:=box_set K_s21.out 3 (.slice (some ⟨b_xs,0,none⟩) 1 1) (by simp);simpa using this)
       have hz24:=hs23.size
       have K_r24:=zh ((hs23.block w.heap.size (by omega) (by omega)).trans K_r21.out)
       have K_t24:=zh ((hs23.block b_t (by omega) (by omega)).trans K_t21.out)
       have K_xs24:=zh ((hs23.block b_xs (by omega) (by omega)).trans K_xs20.out)
       have X_x24:RowKit.Hid (rX (fun k=>wg15.heap.size≤k∧k<w17x.heap.size) ((w17x.alloc (.cells #[.int .i64 x.kind, .int .i64 x.n, .string x.s, .slice a_x x.args.length c_x] 28)).setCell ⟨b_s,3,none⟩ (.slice (some ⟨b_xs,0,none⟩) 1 1)) [.int .i64 x.kind, .int .i64 x.n, .string x.s, .slice a_x x.args.length c_x] x):=zh (Good.keep (R:=rX) ⟨hs23.size,fun k hk hS=>hs23.block k hk (by omega)⟩ (fun _ _ h=>h) X_x21.out)
       have H24:=zh (H21.out.since hs23 (by omega) (by omega))
       have B24:=zh (B21.out.since hs23 (fun k e=>by omega))
       have S24:=zh (S21.out.then_new hs23 (fun k e=>Or.inr (by omega)))
       have hl_xs:w17x.heap.size≤b_xs:=by omega
       go_upto_region 12 with fail
       clear gs22_3 gs22_z
       rw [←hb_xs]
       clear hb_xs
       generalize (w17x.alloc (.cells #[.int .i64 x.kind, .int .i64 x.n, .string x.s, .slice a_x x.args.length c_x] 28)).setCell ⟨b_s,3,none⟩ (.slice (some ⟨b_xs,0,none⟩) 1 1)=wg25 at *
       have gs26_0:=ca0 K_s23.out
       have gs26_1:=ca1 K_s23.out
       have gs26_2:=ca2 K_s23.out
       have gs26_3:=ca3 K_s23.out
       have gs26_4:=ca4 K_s23.out
       have gs26_5:=ca5 K_s23.out
       have gs26_6:=ca6 K_s23.out
       have gs26_z:=cz K_s23.out
       have gr27_0:=ca0 K_r24.out
       have gr27_1:=ca1 K_r24.out
       have gr27_2:=ca2 K_r24.out
       have gr27_3:=ca3 K_r24.out
       have gr27_4:=ca4 K_r24.out
       have gr27_5:=ca5 K_r24.out
       have gr27_6:=ca6 K_r24.out
       have gr27_z:=cz K_r24.out
       go_wp2_with fail
       obtain ⟨mb,ms⟩:=cells7 (w:=wg25) K_r24.out (.int .i64 8) (.string ⟨#[]⟩) (.string ⟨#[]⟩) (.slice (some ⟨b_xs,0,none⟩) 1 1) (.slice none 0 0) (.slice none 0 0) (.slice none 0 0)
       generalize hWW:((((((wg25.setCell ⟨w.heap.size,0,none⟩ (.int .i64 8)).setCell ⟨w.heap.size,1,none⟩ (.string ⟨#[]⟩)).setCell ⟨w.heap.size,2,none⟩ (.string ⟨#[]⟩)).setCell ⟨w.heap.size,3,none⟩ (.slice (some ⟨b_xs,0,none⟩) 1 1)).setCell ⟨w.heap.size,4,none⟩ (.slice none 0 0)).setCell ⟨w.heap.size,5,none⟩ (.slice none 0 0)).setCell ⟨w.heap.size,6,none⟩ (.slice none 0 0)=WW at *
       have m0:=ca0 mb
       have m1:=ca1 mb
       have m2:=ca2 mb
       have m3:=ca3 mb
       have m4:=ca4 mb
       have m5:=ca5 mb
       have m6:=ca6 mb
       refine bodyPost_ret (v:= .agg #[.int .i64 8, .string ⟨#[]⟩, .string ⟨#[]⟩, .slice (some ⟨b_xs,0,none⟩) 1 1, .slice none 0 0, .slice none 0 0, .slice none 0 0]) (by simp [results,Tryd.results49,go_sem,m0,m1,m2,m3,m4,m5,m6]) rfl ⟨_, .mk 8 ⟨#[]⟩ ⟨#[]⟩ [x] [] [] [],st17,rfl,rS_mk 8 ⟨#[]⟩ ⟨#[]⟩ (ini rfl) (by decide) (by decide) (rXs_one (Good.keep (R:=rX) ⟨ms.size,fun k hk hS=>ms.block k hk (by omega)⟩ (fun k hk hS=>by omega) X_x24.out) ((ms.block b_xs (by omega) (by omega)).trans K_xs24.out) (show w.heap.size≤b_xs by omega) (by decide) (by decide)) (rSs_nil _ _) (rSs_nil _ _) (rCs_nil _ _),(H24.out).since ms (by omega) (by omega),(S24.out).then_new ms (fun k e=>Or.inr (by omega)),?_⟩
       exact Good'.end R19.out D19.out
    |false=>
     have R7i:=zh (hg7.no R5i.out)
     have Hn7:=zh (hn7 rfl)
     clear hg7 hy7 hn7
     go_wp2_with fail
     refine (readIs_any H8.out D7i.out ⟨#[112,114,105,110,116]⟩).mono ?_
     rintro en w9x ⟨b9,st9,rfl,h9,hs9,hg9,hf9,hy9,hn9⟩
     have hz10:=hs9.size
     have K_r10:=zh ((hs9.block w.heap.size (by omega) (by omega)).trans K_r8.out)
     have H10:=zh h9
     have B10:=zh (B8.out.box hs9)
     have S10:=zh (S8.out.trans hs9)
     have D9i:=zh (show st9.fault=0→st9.depth=30 - (d:Int) from fun e=>hg9.dep_eq e)
     have Hf9:=zh hf9
     clear h9 hs9 hf9
     cases b9 with
     |true=>
      have R9i:=zh (hg9.yes R7i.out)
      have Hy9:=zh (hy9 rfl).1
      have Hyi9:=zh (hy9 rfl).2
      clear hg9 hy9 hn9
      go_wp2_with fail
      refine (readCalled_any hE H10.out B10.out (Hf9.out (Hf7.out (Hf5.out (Hf3.out (Hf1.out H0.out))))) (D9i.out (Hf9.out (Hf7.out (Hf5.out (Hf3.out (Hf1.out H0.out)))))) 9 1 (ini rfl)).mono ?_
      rintro en w11x ⟨cs11,x,st11,rfl,hx11,h11,hs11,hg11⟩
      obtain ⟨a3_x,c3_x,a4_x,c4_x,a5_x,c5_x,a6_x,c6_x,rfl⟩:=rS_shape hx11
      have hz12:=hs11.size
      have K_r12:=zh ((hs11.block w.heap.size (by omega) (by omega)).trans K_r10.out)
      have H12:=zh h11
      have B12:=zh (B10.out.box hs11)
      have S12:=zh (S10.out.trans hs11)
      have X_x11:RowKit.Hid (rS (fun k=>w9x.heap.size≤k∧k<w11x.heap.size) w11x [.int .i64 x.kind, .string x.s, .string x.t, .slice a3_x x.exprs.length c3_x, .slice a4_x x.body.length c4_x, .slice a5_x x.els.length c5_x, .slice a6_x x.cases.length c6_x] x):=zh (Good.wide (R:=rS) hx11 (fun k h1 h2=>⟨h2,h1⟩))
      clear hx11
      have Hg11:=zh hg11
      clear h11 hs11 hg11
      have gr13_0:=ca0 K_r12.out
      have gr13_1:=ca1 K_r12.out
      have gr13_2:=ca2 K_r12.out
      have gr13_3:=ca3 K_r12.out
      have gr13_4:=ca4 K_r12.out
      have gr13_5:=ca5 K_r12.out
      have gr13_6:=ca6 K_r12.out
      have gr13_z:=cz K_r12.out
      go_wp2_with fail
      obtain ⟨mb,ms⟩:=cells7 (w:=w11x) K_r12.out (.int .i64 x.kind) (.string x.s) (.string x.t) (.slice a3_x x.exprs.length c3_x) (.slice a4_x x.body.length c4_x) (.slice a5_x x.els.length c5_x) (.slice a6_x x.cases.length c6_x)
      generalize hWW:((((((w11x.setCell ⟨w.heap.size,0,none⟩ (.int .i64 x.kind)).setCell ⟨w.heap.size,1,none⟩ (.string x.s)).setCell ⟨w.heap.size,2,none⟩ (.string x.t)).setCell ⟨w.heap.size,3,none⟩ (.slice a3_x x.exprs.length c3_x)).setCell ⟨w.heap.size,4,none⟩ (.slice a4_x x.body.length c4_x)).setCell ⟨w.heap.size,5,none⟩ (.slice a5_x x.els.length c5_x)).setCell ⟨w.heap.size,6,none⟩ (.slice a6_x x.cases.length c6_x)=WW at *
      have m0:=ca0 mb
      have m1:=ca1 mb
      have m2:=ca2 mb
      have m3:=ca3 mb
      have m4:=ca4 mb
      have m5:=ca5 mb
      have m6:=ca6 mb
      refine bodyPost_ret (v:= .agg #[.int .i64 x.kind, .string x.s, .string x.t, .slice a3_x x.exprs.length c3_x, .slice a4_x x.body.length c4_x, .slice a5_x x.els.length c5_x, .slice a6_x x.cases.length c6_x]) (by simp [results,Tryd.results49,go_sem,m0,m1,m2,m3,m4,m5,m6]) rfl ⟨_,x,st11,rfl,(Good.keep (R:=rS) ⟨ms.size,fun k hk hS=>ms.block k hk (by omega)⟩ (fun k hk hS=>by omega) X_x11.out),(H12.out).since ms (by omega) (by omega),(S12.out).then_new ms (fun k e=>Or.inr (by omega)),?_⟩
      rw [R9i.out,runR_ok (Hf9.out (Hf7.out (Hf5.out (Hf3.out (Hf1.out H0.out)))))];exact Hg11.out
     |false=>
      have R9i:=zh (hg9.no R7i.out)
      have Hn9:=zh (hn9 rfl)
      clear hg9 hy9 hn9
      go_wp2_with fail
      refine (readIs_any H10.out D9i.out ⟨#[98,114,101,97,107]⟩).mono ?_
      rintro en w11x ⟨b11,st11,rfl,h11,hs11,hg11,hf11,hy11,hn11⟩
      have hz12:=hs11.size
      have K_r12:=zh ((hs11.block w.heap.size (by omega) (by omega)).trans K_r10.out)
      have H12:=zh h11
      have B12:=zh (B10.out.box hs11)
      have S12:=zh (S10.out.trans hs11)
      have D11i:=zh (show st11.fault=0→st11.depth=30 - (d:Int) from fun e=>hg11.dep_eq e)
      have Hf11:=zh hf11
      clear h11 hs11 hf11
      cases b11 with
      |true=>
       have R11i:=zh (hg11.yes R9i.out)
       have Hy11:=zh (hy11 rfl).1
       have Hyi11:=zh (hy11 rfl).2
       clear hg11 hy11 hn11
       have gr13_0:=ca0 K_r12.out
       have gr13_1:=ca1 K_r12.out
       have gr13_2:=ca2 K_r12.out
       have gr13_3:=ca3 K_r12.out
       have gr13_4:=ca4 K_r12.out
       have gr13_5:=ca5 K_r12.out
       have gr13_6:=ca6 K_r12.out
       have gr13_z:=cz K_r12.out
       go_wp2_with fail
       obtain ⟨mb,ms⟩:=cells7 (w:=w11x) K_r12.out (.int .i64 10) (.string ⟨#[]⟩) (.string ⟨#[]⟩) (.slice none 0 0) (.slice none 0 0) (.slice none 0 0) (.slice none 0 0)
       generalize hWW:((((((w11x.setCell ⟨w.heap.size,0,none⟩ (.int .i64 10)).setCell ⟨w.heap.size,1,none⟩ (.string ⟨#[]⟩)).setCell ⟨w.heap.size,2,none⟩ (.string ⟨#[]⟩)).setCell ⟨w.heap.size,3,none⟩ (.slice none 0 0)).setCell ⟨w.heap.size,4,none⟩ (.slice none 0 0)).setCell ⟨w.heap.size,5,none⟩ (.slice none 0 0)).setCell ⟨w.heap.size,6,none⟩ (.slice none 0 0)=WW at *
       have m0:=ca0 mb
       have m1:=ca1 mb
       have m2:=ca2 mb
       have m3:=ca3 mb
       have m4:=ca4 mb
       have m5:=ca5 mb
       have m6:=ca6 mb
       refine bodyPost_ret (v:= .agg #[.int .i64 10, .string ⟨#[]⟩, .string ⟨#[]⟩, .slice none 0 0, .slice none 0 0, .slice none 0 0, .slice none 0 0]) (by simp [results,Tryd.results49,go_sem,m0,m1,m2,m3,m4,m5,m6]) rfl ⟨_, .mk 10 ⟨#[]⟩ ⟨#[]⟩ [] [] [] [],st11,rfl,rS_mk 10 ⟨#[]⟩ ⟨#[]⟩ (ini rfl) (by decide) (by decide) (rXs_nil _ _) (rSs_nil _ _) (rSs_nil _ _) (rCs_nil _ _),(H12.out).since ms (by omega) (by omega),(S12.out).then_new ms (fun k e=>Or.inr (by omega)),?_⟩
       exact Good'.end R11i.out D11i.out
      |false=>
       have R11i:=zh (hg11.no R9i.out)
       have Hn11:=zh (hn11 rfl)
       clear hg11 hy11 hn11
       go_wp2_with fail
       refine (readIs_any H12.out D11i.out ⟨#[99,111,110,116,105,110,117,101]⟩).mono ?_
       rintro en w13x ⟨b13,st13,rfl,h13,hs13,hg13,hf13,hy13,hn13⟩
       have hz14:=hs13.size
       have K_r14:=zh ((hs13.block w.heap.size (by omega) (by omega)).trans K_r12.out)
       have H14:=zh h13
       have B14:=zh (B12.out.box hs13)
       have S14:=zh (S12.out.trans hs13)
       have D13i:=zh (show st13.fault=0→st13.depth=30 - (d:Int) from fun e=>hg13.dep_eq e)
       have Hf13:=zh hf13
       clear h13 hs13 hf13
       cases b13 with
       |true=>
        have R13i:=zh (hg13.yes R11i.out)
        have Hy13:=zh (hy13 rfl).1
        have Hyi13:=zh (hy13 rfl).2
        clear hg13 hy13 hn13
        have gr15_0:=ca0 K_r14.out
        have gr15_1:=ca1 K_r14.out
        have gr15_2:=ca2 K_r14.out
        have gr15_3:=ca3 K_r14.out
        have gr15_4:=ca4 K_r14.out
        have gr15_5:=ca5 K_r14.out
        have gr15_6:=ca6 K_r14.out
        have gr15_z:=cz K_r14.out
        go_wp2_with fail
        obtain ⟨mb,ms⟩:=cells7 (w:=w13x) K_r14.out (.int .i64 11) (.string ⟨#[]⟩) (.string ⟨#[]⟩) (.slice none 0 0) (.slice none 0 0) (.slice none 0 0) (.slice none 0 0)
        generalize hWW:((((((w13x.setCell ⟨w.heap.size,0,none⟩ (.int .i64 11)).setCell ⟨w.heap.size,1,none⟩ (.string ⟨#[]⟩)).setCell ⟨w.heap.size,2,none⟩ (.string ⟨#[]⟩)).setCell ⟨w.heap.size,3,none⟩ (.slice none 0 0)).setCell ⟨w.heap.size,4,none⟩ (.slice none 0 0)).setCell ⟨w.heap.size,5,none⟩ (.slice none 0 0)).setCell ⟨w.heap.size,6,none⟩ (.slice none 0 0)=WW at *
        have m0:=ca0 mb
        have m1:=ca1 mb
        have m2:=ca2 mb
        have m3:=ca3 mb
        have m4:=ca4 mb
        have m5:=ca5 mb
        have m6:=ca6 mb
        refine bodyPost_ret (v:= .agg #[.int .i64 11, .string ⟨#[]⟩, .string ⟨#[]⟩, .slice none 0 0, .slice none 0 0, .slice none 0 0, .slice none 0 0]) (by simp [results,Tryd.results49,go_sem,m0,m1,m2,m3,m4,m5,m6]) rfl ⟨_, .mk 11 ⟨#[]⟩ ⟨#[]⟩ [] [] [] [],st13,rfl,rS_mk 11 ⟨#[]⟩ ⟨#[]⟩ (ini rfl) (by decide) (by decide) (rXs_nil _ _) (rSs_nil _ _) (rSs_nil _ _) (rCs_nil _ _),(H14.out).since ms (by omega) (by omega),(S14.out).then_new ms (fun k e=>Or.inr (by omega)),?_⟩
        exact Good'.end R13i.out D13i.out
       |false=>
        have R13i:=zh (hg13.no R11i.out)
        have Hn13:=zh (hn13 rfl)
        clear hg13 hy13 hn13
        go_wp2_with fail
        refine (readIs_any H14.out D13i.out ⟨#[100,101,108,101,116,101]⟩).mono ?_
        rintro en w15x ⟨b15,st15,rfl,h15,hs15,hg15,hf15,hy15,hn15⟩
        have hz16:=hs15.size
        have K_r16:=zh ((hs15.block w.heap.size (by omega) (by omega)).trans K_r14.out)
        have H16:=zh h15
        have B16:=zh (B14.out.box hs15)
        have S16:=zh (S14.out.trans hs15)
        have D15i:=zh (show st15.fault=0→st15.depth=30 - (d:Int) from fun e=>hg15.dep_eq e)
        have Hf15:=zh hf15
        clear h15 hs15 hf15
        cases b15 with
        |true=>
         have R15i:=zh (hg15.yes R13i.out)
         have Hy15:=zh (hy15 rfl).1
         have Hyi15:=zh (hy15 rfl).2
         clear hg15 hy15 hn15
         go_wp2_with fail
         refine (readMust_any H16.out D15i.out ⟨#[40]⟩).mono ?_
         rintro en w17x ⟨st17,rfl,h17,hs17,hg17⟩
         have hz18:=hs17.size
         have K_r18:=zh ((hs17.block w.heap.size (by omega) (by omega)).trans K_r16.out)
         have H18:=zh h17
         have B18:=zh (B16.out.box hs17)
         have S18:=zh (S16.out.trans hs17)
         have R19:=zh (hg17.next R15i.out)
         have D19:=zh (show st17.fault=0→st17.depth=30 - (d:Int) from fun e=>hg17.dep_eq e)
         clear h17 hs17 hg17
         go_wp2_with fail
         refine (readName_any H18.out B18.out D19.out).mono ?_
         rintro en w20x ⟨s,st20,rfl,hsz_s,h20,hs20,hg20⟩
         have hz21:=hs20.size
         have K_r21:=zh ((hs20.block w.heap.size (by omega) (by omega)).trans K_r18.out)
         have H21:=zh h20
         have B21:=zh (B18.out.box hs20)
         have S21:=zh (S18.out.trans hs20)
         have R22:=zh (hg20.next R19.out)
         have D22:=zh (show st20.fault=0→st20.depth=30 - (d:Int) from fun e=>hg20.dep_eq e)
         clear h20 hs20 hg20
         have Hs:=zh hsz_s
         clear hsz_s
         obtain ⟨b_s,hb_s⟩: ∃ b_s,b_s=w20x.heap.size:=⟨_,rfl⟩
         have hs23:Since (fun _=>False) (w20x) (w20x.alloc (.cells #[.int .i64 12, .string s, .string ⟨#[]⟩, .slice none 0 0, .slice none 0 0, .slice none 0 0, .slice none 0 0] 32)):=Since.alloc _ _ _
         have hw23:(w20x.alloc (.cells #[.int .i64 12, .string s, .string ⟨#[]⟩, .slice none 0 0, .slice none 0 0, .slice none 0 0, .slice none 0 0] 32)).heap.size=b_s+1:=by rw [hb_s];simp
         have K_s23:RowKit.Hid ((w20x.alloc (.cells #[.int .i64 12, .string s, .string ⟨#[]⟩, .slice none 0 0, .slice none 0 0, .slice none 0 0, .slice none 0 0] 32)).heap[b_s]?=some (.cells #[.int .i64 12, .string s, .string ⟨#[]⟩, .slice none 0 0, .slice none 0 0, .slice none 0 0, .slice none 0 0] 32 (0,0))):=zh (by have e:b_s=(w20x).heap.size:=(by first|exact hb_s|(rw [hb_s];simp));have e2:=heap_alloc_new (w20x) (.cells #[.int .i64 12, .string s, .string ⟨#[]⟩, .slice none 0 0, .slice none 0 0, .slice none 0 0, .slice none 0 0] 32);rw [←e] at e2;exact e2)
         have hz24:=hs23.size
         have K_r24:=zh ((hs23.block w.heap.size (by omega) (fun f=>f)).trans K_r21.out)
         have H24:=zh (H21.out.later hs23)
         have B24:=zh (B21.out.later hs23)
         have S24:RowKit.Hid (Since (fun k=>k=br) w (w20x.alloc (.cells #[.int .i64 12, .string s, .string ⟨#[]⟩, .slice none 0 0, .slice none 0 0, .slice none 0 0, .slice none 0 0] 32))):=zh (S21.out.trans (hs23.mono (fun _ f=>f.elim)))
         have hl_s:w20x.heap.size≤b_s:=by omega
         go_wp2_with fail
         rw [←hb_s]
         clear hb_s
         generalize w20x.alloc (.cells #[.int .i64 12, .string s, .string ⟨#[]⟩, .slice none 0 0, .slice none 0 0, .slice none 0 0, .slice none 0 0] 32)=wg25 at *
         refine (readMust_any H24.out D22.out ⟨#[44]⟩).mono ?_
         rintro en w26x ⟨st26,rfl,h26,hs26,hg26⟩
         have hz27:=hs26.size
         have K_r27:=zh ((hs26.block w.heap.size (by omega) (by omega)).trans K_r24.out)
         have K_s27:=zh ((hs26.block b_s (by omega) (by omega)).trans K_s23.out)
         have H27:=zh h26
         have B27:=zh (B24.out.box hs26)
         have S27:=zh (S24.out.trans hs26)
         have R28:=zh (hg26.next R22.out)
         have D28:=zh (show st26.fault=0→st26.depth=30 - (d:Int) from fun e=>hg26.dep_eq e)
         clear h26 hs26 hg26
         go_wp2_with fail
         refine (hE w26x br bT cap base T st26 H27.out B27.out D28.out).mono ?_
         rintro en w29x ⟨cs29,x,st29,rfl,hx29,h29,hs29,hg29⟩
         obtain ⟨a_x,c_x,rfl⟩:=rX_shape hx29
         have hz30:=hs29.size
         have K_r30:=zh ((hs29.block w.heap.size (by omega) (by omega)).trans K_r27.out)
         have K_s30:=zh ((hs29.block b_s (by omega) (by omega)).trans K_s27.out)
         have H30:=zh h29
         have B30:=zh (B27.out.box hs29)
         have S30:=zh (S27.out.trans hs29)
         have X_x29:RowKit.Hid (rX (fun k=>w26x.heap.size≤k∧k<w29x.heap.size) w29x [.int .i64 x.kind, .int .i64 x.n, .string x.s, .slice a_x x.args.length c_x] x):=zh (Good.wide (R:=rX) hx29 (fun k h1 h2=>⟨h2,h1⟩))
         clear hx29
         have R31:=zh (hg29.next R28.out)
         have D31:=zh (show st29.fault=0→st29.depth=30 - (d:Int) from fun e=>hg29.dep_eq e)
         clear h29 hs29 hg29
         obtain ⟨b_xs,hb_xs⟩: ∃ b_xs,b_xs=w29x.heap.size:=⟨_,rfl⟩
         have hs32:Since (fun _=>False) (w29x) (w29x.alloc (.cells #[.int .i64 x.kind, .int .i64 x.n, .string x.s, .slice a_x x.args.length c_x] 28)):=Since.alloc _ _ _
         have hw32:(w29x.alloc (.cells #[.int .i64 x.kind, .int .i64 x.n, .string x.s, .slice a_x x.args.length c_x] 28)).heap.size=b_xs+1:=by rw [hb_xs];simp
         have K_xs32:RowKit.Hid ((w29x.alloc (.cells #[.int .i64 x.kind, .int .i64 x.n, .string x.s, .slice a_x x.args.length c_x] 28)).heap[b_xs]?=some (.cells #[.int .i64 x.kind, .int .i64 x.n, .string x.s, .slice a_x x.args.length c_x] 28 (0,0))):=zh (by have e:b_xs=(w29x).heap.size:=(by first|exact hb_xs|(rw [hb_xs];simp));have e2:=heap_alloc_new (w29x) (.cells #[.int .i64 x.kind, .int .i64 x.n, .string x.s, .slice a_x x.args.length c_x] 28);rw [←e] at e2;exact e2)
         have hz33:=hs32.size
         have K_r33:=zh ((hs32.block w.heap.size (by omega) (fun f=>f)).trans K_r30.out)
         have K_s33:=zh ((hs32.block b_s (by omega) (fun f=>f)).trans K_s30.out)
         have X_x33:RowKit.Hid (rX (fun k=>w26x.heap.size≤k∧k<w29x.heap.size) (w29x.alloc (.cells #[.int .i64 x.kind, .int .i64 x.n, .string x.s, .slice a_x x.args.length c_x] 28)) [.int .i64 x.kind, .int .i64 x.n, .string x.s, .slice a_x x.args.length c_x] x):=zh (Good.keep (R:=rX) ⟨hs32.size,fun k hk hS=>hs32.block k hk (fun f=>f)⟩ (fun _ _ h=>h) X_x29.out)
         have H33:=zh (H30.out.later hs32)
         have B33:=zh (B30.out.later hs32)
         have S33:RowKit.Hid (Since (fun k=>k=br) w (w29x.alloc (.cells #[.int .i64 x.kind, .int .i64 x.n, .string x.s, .slice a_x x.args.length c_x] 28))):=zh (S30.out.trans (hs32.mono (fun _ f=>f.elim)))
         have gs34_3:=ca3 K_s33.out
         have gs34_z:=cz K_s33.out
         have hs35:Since (fun k=>k=b_s) (w29x.alloc (.cells #[.int .i64 x.kind, .int .i64 x.n, .string x.s, .slice a_x x.args.length c_x] 28)) ((w29x.alloc (.cells #[.int .i64 x.kind, .int .i64 x.n, .string x.s, .slice a_x x.args.length c_x] 28)).setCell ⟨b_s,3,none⟩ (.slice (some ⟨b_xs,0,none⟩) 1 1)):=Since.setCell (w29x.alloc (.cells #[.int .i64 x.kind, .int .i64 x.n, .string x.s, .slice a_x x.args.length c_x] 28)) ⟨b_s,3,none⟩ (.slice (some ⟨b_xs,0,none⟩) 1 1)
         have K_s35:RowKit.Hid (((w29x.alloc (.cells #[.int .i64 x.kind, .int .i64 x.n, .string x.s, .slice a_x x.args.length c_x] 28)).setCell ⟨b_s,3,none⟩ (.slice (some ⟨b_xs,0,none⟩) 1 1)).heap[b_s]?=some (.cells #[.int .i64 12, .string s, .string ⟨#[]⟩, .slice (some ⟨b_xs,0,none⟩) 1 1, .slice none 0 0, .slice none 0 0, .slice none 0 0] 32 (0,0))):=zh (by have:=box_set K_s33.out 3 (.slice (some ⟨b_xs,0,none⟩) 1 1) (by simp);simpa using this)
         have hz36:=hs35.size
         have K_r36:=zh ((hs35.block w.heap.size (by omega) (by omega)).trans K_r33.out)
         have K_xs36:=zh ((hs35.block b_xs (by omega) (by omega)).trans K_xs32.out)
         have X_x36:RowKit.Hid (rX (fun k=>w26x.heap.size≤k∧k<w29x.heap.size) ((w29x.alloc (.cells #[.int .i64 x.kind, .int .i64 x.n, .string x.s, .slice a_x x.args.length c_x] 28)).setCell ⟨b_s,3,none⟩ (.slice (some ⟨b_xs,0,none⟩) 1 1)) [.int .i64 x.kind, .int .i64 x.n, .string x.s, .slice a_x x.args.length c_x] x):=zh (Good.keep (R:=rX) ⟨hs35.size,fun k hk hS=>hs35.block k hk (by omega)⟩ (fun _ _ h=>h) X_x33.out)
         have H36:=zh (H33.out.since hs35 (by omega) (by omega))
         have B36:=zh (B33.out.since hs35 (fun k e=>by omega))
         have S36:=zh (S33.out.then_new hs35 (fun k e=>Or.inr (by omega)))
         have hl_xs:w29x.heap.size≤b_xs:=by omega
         go_wp2_with fail
         clear gs34_3 gs34_z
         rw [←hb_xs]
         clear hb_xs
         generalize (w29x.alloc (.cells #[.int .i64 x.kind, .int .i64 x.n, .string x.s, .slice a_x x.args.length c_x] 28)).setCell ⟨b_s,3,none⟩ (.slice (some ⟨b_xs,0,none⟩) 1 1)=wg37 at *
         refine (readMust_any H36.out D31.out ⟨#[41]⟩).mono ?_
         rintro en w38x ⟨st38,rfl,h38,hs38,hg38⟩
         have hz39:=hs38.size
         have K_r39:=zh ((hs38.block w.heap.size (by omega) (by omega)).trans K_r36.out)
         have K_s39:=zh ((hs38.block b_s (by omega) (by omega)).trans K_s35.out)
         have K_xs39:=zh ((hs38.block b_xs (by omega) (by omega)).trans K_xs36.out)
         have X_x39:RowKit.Hid (rX (fun k=>w26x.heap.size≤k∧k<w29x.heap.size) (w38x) [.int .i64 x.kind, .int .i64 x.n, .string x.s, .slice a_x x.args.length c_x] x):=zh (Good.keep (R:=rX) ⟨hs38.size,fun k hk hS=>hs38.block k hk (by omega)⟩ (fun _ _ h=>h) X_x36.out)
         have H39:=zh h38
         have B39:=zh (B36.out.box hs38)
         have S39:=zh (S36.out.trans hs38)
         have R40:=zh (hg38.next R31.out)
         have D40:=zh (show st38.fault=0→st38.depth=30 - (d:Int) from fun e=>hg38.dep_eq e)
         clear h38 hs38 hg38
         have gs41_0:=ca0 K_s39.out
         have gs41_1:=ca1 K_s39.out
         have gs41_2:=ca2 K_s39.out
         have gs41_3:=ca3 K_s39.out
         have gs41_4:=ca4 K_s39.out
         have gs41_5:=ca5 K_s39.out
         have gs41_6:=ca6 K_s39.out
         have gs41_z:=cz K_s39.out
         have gr42_0:=ca0 K_r39.out
         have gr42_1:=ca1 K_r39.out
         have gr42_2:=ca2 K_r39.out
         have gr42_3:=ca3 K_r39.out
         have gr42_4:=ca4 K_r39.out
         have gr42_5:=ca5 K_r39.out
         have gr42_6:=ca6 K_r39.out
         have gr42_z:=cz K_r39.out
         go_wp2_with fail
         obtain ⟨mb,ms⟩:=cells7 (w:=w38x) K_r39.out (.int .i64 12) (.string s) (.string ⟨#[]⟩) (.slice (some ⟨b_xs,0,none⟩) 1 1) (.slice none 0 0) (.slice none 0 0) (.slice none 0 0)
         generalize hWW:((((((w38x.setCell ⟨w.heap.size,0,none⟩ (.int .i64 12)).setCell ⟨w.heap.size,1,none⟩ (.string s)).setCell ⟨w.heap.size,2,none⟩ (.string ⟨#[]⟩)).setCell ⟨w.heap.size,3,none⟩ (.slice (some ⟨b_xs,0,none⟩) 1 1)).setCell ⟨w.heap.size,4,none⟩ (.slice none 0 0)).setCell ⟨w.heap.size,5,none⟩ (.slice none 0 0)).setCell ⟨w.heap.size,6,none⟩ (.slice none 0 0)=WW at *
         have m0:=ca0 mb
         have m1:=ca1 mb
         have m2:=ca2 mb
         have m3:=ca3 mb
         have m4:=ca4 mb
         have m5:=ca5 mb
         have m6:=ca6 mb
         refine bodyPost_ret (v:= .agg #[.int .i64 12, .string s, .string ⟨#[]⟩, .slice (some ⟨b_xs,0,none⟩) 1 1, .slice none 0 0, .slice none 0 0, .slice none 0 0]) (by simp [results,Tryd.results49,go_sem,m0,m1,m2,m3,m4,m5,m6]) rfl ⟨_, .mk 12 s ⟨#[]⟩ [x] [] [] [],st38,rfl,rS_mk 12 s ⟨#[]⟩ (ini rfl) Hs.out (by decide) (rXs_one (Good.keep (R:=rX) ⟨ms.size,fun k hk hS=>ms.block k hk (by omega)⟩ (fun k hk hS=>by omega) X_x39.out) ((ms.block b_xs (by omega) (by omega)).trans K_xs39.out) (show w.heap.size≤b_xs by omega) (by decide) (by decide)) (rSs_nil _ _) (rSs_nil _ _) (rCs_nil _ _),(H39.out).since ms (by omega) (by omega),(S39.out).then_new ms (fun k e=>Or.inr (by omega)),?_⟩
         exact Good'.end R40.out D40.out
        |false=>
         have R15i:=zh (hg15.no R13i.out)
         have Hn15:=zh (hn15 rfl)
         clear hg15 hy15 hn15
         go_wp2_with fail
         refine (readSimple_any d hE H16.out B16.out (Hf15.out (Hf13.out (Hf11.out (Hf9.out (Hf7.out (Hf5.out (Hf3.out (Hf1.out H0.out)))))))) (D15i.out (Hf15.out (Hf13.out (Hf11.out (Hf9.out (Hf7.out (Hf5.out (Hf3.out (Hf1.out H0.out)))))))))).mono ?_
         rintro en w17x ⟨cs17,x,st17,rfl,hx17,h17,hs17,hg17⟩
         obtain ⟨a3_x,c3_x,a4_x,c4_x,a5_x,c5_x,a6_x,c6_x,rfl⟩:=rS_shape hx17
         have hz18:=hs17.size
         have K_r18:=zh ((hs17.block w.heap.size (by omega) (by omega)).trans K_r16.out)
         have H18:=zh h17
         have B18:=zh (B16.out.box hs17)
         have S18:=zh (S16.out.trans hs17)
         have X_x17:RowKit.Hid (rS (fun k=>w15x.heap.size≤k∧k<w17x.heap.size) w17x [.int .i64 x.kind, .string x.s, .string x.t, .slice a3_x x.exprs.length c3_x, .slice a4_x x.body.length c4_x, .slice a5_x x.els.length c5_x, .slice a6_x x.cases.length c6_x] x):=zh (Good.wide (R:=rS) hx17 (fun k h1 h2=>⟨h2,h1⟩))
         clear hx17
         have Hg17:=zh hg17
         clear h17 hs17 hg17
         have gr19_0:=ca0 K_r18.out
         have gr19_1:=ca1 K_r18.out
         have gr19_2:=ca2 K_r18.out
         have gr19_3:=ca3 K_r18.out
         have gr19_4:=ca4 K_r18.out
         have gr19_5:=ca5 K_r18.out
         have gr19_6:=ca6 K_r18.out
         have gr19_z:=cz K_r18.out
         go_wp2_with fail
         obtain ⟨mb,ms⟩:=cells7 (w:=w17x) K_r18.out (.int .i64 x.kind) (.string x.s) (.string x.t) (.slice a3_x x.exprs.length c3_x) (.slice a4_x x.body.length c4_x) (.slice a5_x x.els.length c5_x) (.slice a6_x x.cases.length c6_x)
         generalize hWW:((((((w17x.setCell ⟨w.heap.size,0,none⟩ (.int .i64 x.kind)).setCell ⟨w.heap.size,1,none⟩ (.string x.s)).setCell ⟨w.heap.size,2,none⟩ (.string x.t)).setCell ⟨w.heap.size,3,none⟩ (.slice a3_x x.exprs.length c3_x)).setCell ⟨w.heap.size,4,none⟩ (.slice a4_x x.body.length c4_x)).setCell ⟨w.heap.size,5,none⟩ (.slice a5_x x.els.length c5_x)).setCell ⟨w.heap.size,6,none⟩ (.slice a6_x x.cases.length c6_x)=WW at *
         have m0:=ca0 mb
         have m1:=ca1 mb
         have m2:=ca2 mb
         have m3:=ca3 mb
         have m4:=ca4 mb
         have m5:=ca5 mb
         have m6:=ca6 mb
         refine bodyPost_ret (v:= .agg #[.int .i64 x.kind, .string x.s, .string x.t, .slice a3_x x.exprs.length c3_x, .slice a4_x x.body.length c4_x, .slice a5_x x.els.length c5_x, .slice a6_x x.cases.length c6_x]) (by simp [results,Tryd.results49,go_sem,m0,m1,m2,m3,m4,m5,m6]) rfl ⟨_,x,st17,rfl,(Good.keep (R:=rS) ⟨ms.size,fun k hk hS=>ms.block k hk (by omega)⟩ (fun k hk hS=>by omega) X_x17.out),(H18.out).since ms (by omega) (by omega),(S18.out).then_new ms (fun k e=>Or.inr (by omega)),?_⟩
         rw [R15i.out,runR_ok (Hf15.out (Hf13.out (Hf11.out (Hf9.out (Hf7.out (Hf5.out (Hf3.out (Hf1.out H0.out))))))))];exact Hg17.out
end Go.Proofs.YtkopjgnjflhkeaaDoor

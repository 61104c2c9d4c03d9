import Derived.Test.YtkopjgnjflhkeaaDoorTX
namespace Go.Proofs.YtkopjgnjflhkeaaDoor
open Go.RowKit Go.Pst
set_option linter.unusedVariables false
set_option linter.unusedSimpArgs false
variable {w:World} {br bT cap base:Nat} {T:List Tok} {st:RSt} {dep:Int}
set_option maxRecDepth 4000 in
set_option maxHeartbeats 8000000 in
theorem readLoop_any (d:Nat) (hE:ExprOK d) (hK:BlockOK d) (h:RdAt w br bT cap T st) (hL:RdLaid w base br) (h0:st.fault=0) (hd:st.depth=30 - (d:Int)):
 Calls Tryd.prog 62 #[.pointer (some ⟨br,0,none⟩)] w (RdS w br bT cap T (30 - (d:Int)) (loopG (exprR d) (blockR d) (T.drop st.i))):=by
 have hbr:=h.lt.1
 have hbT:=h.lt.2
 obtain ⟨Res,hres⟩: ∃ Res,Res=loopG (exprR d) (blockR d) (T.drop st.i):=⟨_,rfl⟩
 rw [←hres]
 have hs0:Since (fun _=>False) w (w.alloc (.cells #[.int .i64 0, .string ⟨#[]⟩, .string ⟨#[]⟩, .slice none 0 0, .slice none 0 0, .slice none 0 0, .slice none 0 0] 32)):=Since.alloc _ _ _
 have hb0:(w.alloc (.cells #[.int .i64 0, .string ⟨#[]⟩, .string ⟨#[]⟩, .slice none 0 0, .slice none 0 0, .slice none 0 0, .slice none 0 0] 32)).heap[w.heap.size]?=some (.cells #[.int .i64 0, .string ⟨#[]⟩, .string ⟨#[]⟩, .slice none 0 0, .slice none 0 0, .slice none 0 0, .slice none 0 0] 32 (0,0)):=heap_alloc_new w _
 have hlb:=hL.lb.2
 have hA:=h.later hs0
 have hB:=hL.later hs0
 have hlt0:w.heap.size<(w.alloc (.cells #[.int .i64 0, .string ⟨#[]⟩, .string ⟨#[]⟩, .slice none 0 0, .slice none 0 0, .slice none 0 0, .slice none 0 0] 32)).heap.size:=by simp
 obtain ⟨t,ht⟩: ∃ t,seeR T st=t:=⟨_,rfl⟩
 have Ht:=zh ht
 obtain ⟨tk,ts,tn,tp⟩:=t
 have hi:=h.inn h0
 have hlen:=h.toks.len
 have hT:=h.toks
 have HT:=zh (show Toks T from hT)
 obtain ⟨u,hu⟩: ∃ u:Nat,(st.i:Int)+1=(u:Int):=⟨st.i+1,by omega⟩
 have huT:u=st.i+1:=by omega
 have hwr:IntKind.i64.wrap (u:Int)=(u:Int):=IntWalk.i64_in _ (by omega)
 have HuT:=zh huT
 clear ht hT huT
 have HA:=zh hA
 have HB:=zh hB
 have K_r0:=zh hb0
 have S0:=zh (show Since (fun k=>k=br) w (w.alloc (.cells #[.int .i64 0, .string ⟨#[]⟩, .string ⟨#[]⟩, .slice none 0 0, .slice none 0 0, .slice none 0 0, .slice none 0 0] 32)) from hs0.mono (fun _ f=>f.elim))
 have D0:=zh (show st.fault=0→st.depth=30 - (d:Int) from fun _=>hd)
 have R0:RowKit.Hid (Res=runR T _ st):=zh (hres.trans (runR_ok (T:=T) h0).symm)
 have H0:=zh h0
 clear h hL hA hB hb0 hs0 hres h0 hd
 go_enter Tryd.func62,Tryd.ntmps62
 go_upto_region 1 with fail
 generalize w.alloc (.cells #[.int .i64 0, .string ⟨#[]⟩, .string ⟨#[]⟩, .slice none 0 0, .slice none 0 0, .slice none 0 0, .slice none 0 0] 32)=w0 at *
 go_cut [3,4] from 7 to 13 (fun v3 v4 wx=> ∃ bt,v3= .pointer (some ⟨bt,0,none⟩)∧v4= .int .i64 u∧wx.heap[bt]?=some (.cells #[.int .u8 tk, .string ts, .int .i64 tn, .int .i64 tp] 52 (0,0))∧Since (fun _=>False) w0 wx∧w0.heap.size≤bt∧bt<wx.heap.size)
 case first=>
  have hA0:=HA.out.later (Since.drew (fun _=>False) w0)
  have sd:Since (fun _=>False) w0 w0.drew:=Since.drew (fun _=>False) w0
  have hS0:(fun w'=>w'.cell? ⟨br,1,none⟩=some (.int .i64 st.i)) w0.drew:=hA0.c1
  have hpk0:=readPeek_any hA0
  rw [Ht.out] at hpk0
  have hAz:=hA0.later (Since.alloc (fun _=>False) w0.drew (.cells #[.int .u8 0, .string ⟨#[]⟩, .int .i64 0, .int .i64 0] 52))
  have hpk1:=readPeek_any hAz
  rw [Ht.out] at hpk1
  have Hpk0:=zh hpk0
  have Hpk1:=zh hpk1
  have HA0:=zh hA0
  have HAz:=zh hAz
  clear hpk0 hpk1 hA0 hAz
  refine WpT.start (fun w'=>w'.cell? ⟨br,1,none⟩=some (.int .i64 st.i)) 9 (by kernel_rfl) ?_
  refine WpT.tk (i:=2) (v:=?_) rfl (by kernel_rfl) (fun _ _ _ h=>h) (Or.inl ⟨by rfl,?_⟩) hS0 ?_
  rotate_left
  ·
   intro wS hSw;(try dsimp only at hSw);go_simp;(first|done|with_reducible rfl)
  try simp only [Act.put,List.setIfInBounds_toArray,List.set_cons_zero,List.set_cons_succ]
  refine WpT.tk (i:=3) (v:=?_) rfl (by kernel_rfl) (fun _ _ _ h=>h) (Or.inl ⟨by rfl,?_⟩) hS0 ?_
  rotate_left
  ·
   intro wS hSw;(try dsimp only at hSw);go_simp;(first|done|with_reducible rfl)
  try simp only [Act.put,List.setIfInBounds_toArray,List.set_cons_zero,List.set_cons_succ]
  refine WpT.tk (i:=4) (v:=?_) rfl (by kernel_rfl) (fun _ _ _ h=>h) (Or.inl ⟨by rfl,?_⟩) hS0 ?_
  rotate_left
  ·
   intro wS hSw;(try dsimp only at hSw);go_simp;(first|done|with_reducible rfl)
  try simp only [Act.put,List.setIfInBounds_toArray,List.set_cons_zero,List.set_cons_succ]
  refine WpT.tk (i:=5) (v:=?_) rfl (by kernel_rfl) (fun _ _ _ h=>h) (Or.inl ⟨by rfl,?_⟩) hS0 ?_
  rotate_left
  ·
   intro wS hSw;(try dsimp only at hSw);go_simp;(first|done|with_reducible rfl)
  try simp only [Act.put,List.setIfInBounds_toArray,List.set_cons_zero,List.set_cons_succ]
  refine WpT.tk (i:=6) (v:=?_) rfl (by kernel_rfl) (fun _ _ _ h=>h) (Or.inl ⟨by rfl,?_⟩) hS0 ?_
  rotate_left
  ·
   intro wS hSw;(try dsimp only at hSw);go_simp;(first|done|with_reducible rfl)
  try simp only [Act.put,List.setIfInBounds_toArray,List.set_cons_zero,List.set_cons_succ]
  refine WpT.tk (i:=0) (v:=?_) rfl (by kernel_rfl) (fun _ _ _ h=>h) (Or.inl ⟨by rfl,?_⟩) hS0 ?_
  rotate_left
  ·
   intro wS hSw;(try dsimp only at hSw);go_simp;(first|done|with_reducible rfl)
  try simp only [Act.put,List.setIfInBounds_toArray,List.set_cons_zero,List.set_cons_succ]
  refine WpT.both (i:=1) (j:=7) (by kernel_rfl) rfl rfl (fun K hK=>?_) (fun K hK=>?_)
  ·
   go_simp
   go_at_call 11
   refine Hpk0.out.mono ?_
   rintro en w1 ⟨rfl,hs1⟩
   simp only [tokC]
   have h1:=HA0.out.later hs1
   refine hK.out _ _ (fun _ _=>h1.c1) ?_
   clear hK K
   try simp only [Act.put,List.setIfInBounds_toArray,List.set_cons_zero,List.set_cons_succ]
   refine WpT.one (i:=7) (by kernel_rfl) rfl (fun K hK=>?_)
   go_simp
   refine hK.out _ _ (fun _ _=>(h1.later (Since.alloc (fun _=>False) w1 (.cells #[.int .u8 0, .string ⟨#[]⟩, .int .i64 0, .int .i64 0] 52))).c1) ?_
   clear hK K
   try simp only [Act.put,List.setIfInBounds_toArray,List.set_cons_zero,List.set_cons_succ]
   refine WpT.one (i:=8) (by kernel_rfl) rfl (fun K hK=>?_)
   go_simp
   refine hK.out _ _ (fun _ _=>(h1.later (Since.alloc (fun _=>False) w1 (.cells #[.int .u8 tk, .string ts, .int .i64 tn, .int .i64 tp] 52))).c1) ?_
   clear hK K
   try simp only [Act.put,List.setIfInBounds_toArray,List.set_cons_zero,List.set_cons_succ]
   refine WpT.one (i:=9) (by kernel_rfl) rfl (fun K hK=>?_)
   go_simp
   refine hK.out _ _ (fun h=>absurd rfl h) ?_
   clear hK K
   try simp only [Act.put,List.setIfInBounds_toArray,List.set_cons_zero,List.set_cons_succ]
   refine WpT.done (by kernel_rfl) ?_ _
   go_wp2_with fail
   go_meet
   case rel=>exact ⟨w1.heap.size,rfl,rfl,heap_alloc_new w1 _,(sd.trans hs1).trans (Since.alloc _ _ _),hs1.size,by simp⟩
  ·
   go_simp
   refine hK.out _ _ (fun _ _=>HAz.out.c1) ?_
   clear hK K
   try simp only [Act.put,List.setIfInBounds_toArray,List.set_cons_zero,List.set_cons_succ]
   refine WpT.one (i:=1) (by kernel_rfl) rfl (fun K hK=>?_)
   go_simp
   go_at_call 11
   refine Hpk1.out.mono ?_
   rintro en w1 ⟨rfl,hs1⟩
   simp only [tokC]
   have h1:=HAz.out.later hs1
   have hltz:w0.heap.size<(w0.drew.alloc (.cells #[.int .u8 0, .string ⟨#[]⟩, .int .i64 0, .int .i64 0] 52)).heap.size:=by show w0.drew.heap.size<_;simp
   have kz:w1.heap[w0.heap.size]?=_:=(hs1.block w0.heap.size hltz (fun f=>f)).trans (heap_alloc_new w0.drew (.cells #[.int .u8 0, .string ⟨#[]⟩, .int .i64 0, .int .i64 0] 52))
   have hlt1:w0.heap.size<w1.heap.size:=Nat.lt_of_lt_of_le hltz hs1.size
   have s1:Since (fun _=>False) w0 w1:=(sd.trans (Since.alloc _ _ _)).trans hs1
   have z0:=ca0 kz
   have z1:=ca1 kz
   have z2:=ca2 kz
   have z3:=ca3 kz
   have zz:=cz kz
   obtain ⟨k4,s4⟩:=box4 kz (.int .u8 tk) (.string ts) (.int .i64 tn) (.int .i64 tp)
   refine hK.out _ _ (fun _ _=>h1.c1) ?_
   clear hK K
   try simp only [Act.put,List.setIfInBounds_toArray,List.set_cons_zero,List.set_cons_succ]
   refine WpT.one (i:=8) (by kernel_rfl) rfl (fun K hK=>?_)
   go_simp
   refine hK.out _ _ (fun _ _=>(h1.since s4 (by omega) (by omega)).c1) ?_
   clear hK K
   try simp only [Act.put,List.setIfInBounds_toArray,List.set_cons_zero,List.set_cons_succ]
   refine WpT.one (i:=9) (by kernel_rfl) rfl (fun K hK=>?_)
   go_simp
   refine hK.out _ _ (fun h=>absurd rfl h) ?_
   clear hK K
   try simp only [Act.put,List.setIfInBounds_toArray,List.set_cons_zero,List.set_cons_succ]
   refine WpT.done (by kernel_rfl) ?_ _
   go_wp2_with fail
   go_meet
   case rel=>exact ⟨w0.heap.size,rfl,rfl,k4,s1.then_new s4 (fun k e=>Or.inr (by omega)),Nat.le_refl _,Nat.lt_of_lt_of_le hlt1 s4.size⟩
 case rest=>
  obtain ⟨b_t,rfl,rfl,k_t,hsc,hl_t,hlt_t⟩:=hcut
  have K_t:=zh k_t
  clear k_t
  have hz1:=hsc.size
  have K_r1:=zh ((hsc.block w.heap.size (by omega) (fun f=>f)).trans K_r0.out)
  have H1:=zh (HA.out.later hsc)
  have B1:=zh (HB.out.later hsc)
  have S1:RowKit.Hid (Since (fun k=>k=br) w (wc)):=zh (S0.out.trans (hsc.mono (fun _ f=>f.elim)))
  clear hsc
  by_cases e1:tk=119
  ·
   have f1:(tk==119)=true:=by simp [e1]
   have hult:u<T.length:=by
    have h1:=HT.out.more hi (by rw [←seeR_get H0.out hi,Ht.out];show tk≠101;omega)
    have:=HuT.out
    omega
   have hultI:(u:Int)<(T.length:Int):=by omega
   have E1:=zh e1
   clear e1
   have c0:=H1.out.c0
   have hcap:=H1.out.cap
   obtain ⟨t0,t1,-,-⟩:=H1.out.tok u hult
   have Hh:=zh (show headR (T.drop st.i).tail=T[u] by
    have e:=HuT.out
    subst e
    rw [←drop_tail,List.drop_eq_getElem_cons hult]
    rfl)
   generalize T[u]=q at *
   obtain ⟨qk,qs,qn,qp⟩:=q
   dsimp only at t0 t1
   have gt2_0:=ca0 K_t.out
   have gt2_1:=ca1 K_t.out
   have gt2_2:=ca2 K_t.out
   have gt2_3:=ca3 K_t.out
   have gt2_z:=cz K_t.out
   by_cases e2:qk=109
   ·
    have f2:(qk==109)=true:=by simp [e2]
    have E2:=zh e2
    clear e2
    by_cases e3:qs=⟨#[44]⟩
    ·
     subst e3
     have RF:=zh (show Res=runR T (rangeG (exprR d) (blockR d)) st from by
      rw [R0.out,runR_ok H0.out,runR_ok H0.out]
      unfold loopG
      rw [←seeR_head H0.out,Ht.out]
      exact (if_pos ⟨E1.out,by rw [Hh.out];exact E2.out,by rw [Hh.out]⟩))
     go_wp2_with fail
     clear gt2_0 gt2_1 gt2_2 gt2_3 gt2_z c0 t0 t1
     refine (readName_any H1.out B1.out D0.out).mono ?_
     rintro en w3x ⟨s,st3,rfl,hsz_s,h3,hs3,hg3⟩
     have hz4:=hs3.size
     have K_r4:=zh ((hs3.block w.heap.size (by omega) (by omega)).trans K_r1.out)
     have K_t4:=zh ((hs3.block b_t (by omega) (by omega)).trans K_t.out)
     have H4:=zh h3
     have B4:=zh (B1.out.box hs3)
     have S4:=zh (S1.out.trans hs3)
     have R5:=zh (hg3.next RF.out)
     have D5:=zh (show st3.fault=0→st3.depth=30 - (d:Int) from fun e=>hg3.dep_eq e)
     clear h3 hs3 hg3
     have Hs:=zh hsz_s
     clear hsz_s
     obtain ⟨b_s,hb_s⟩: ∃ b_s,b_s=w3x.heap.size:=⟨_,rfl⟩
     have hs6:Since (fun _=>False) (w3x) (w3x.alloc (.cells #[.int .i64 6, .string s, .string ⟨#[]⟩, .slice none 0 0, .slice none 0 0, .slice none 0 0, .slice none 0 0] 32)):=Since.alloc _ _ _
     have hw6:(w3x.alloc (.cells #[.int .i64 6, .string s, .string ⟨#[]⟩, .slice none 0 0, .slice none 0 0, .slice none 0 0, .slice none 0 0] 32)).heap.size=b_s+1:=by rw [hb_s];simp
     have K_s6:RowKit.Hid ((w3x.alloc (.cells #[.int .i64 6, .string s, .string ⟨#[]⟩, .slice none 0 0, .slice none 0 0, .slice none 0 0, .slice none 0 0] 32)).heap[b_s]?=some (.cells #[.int .i64 6, .string s, .string ⟨#[]⟩, .slice none 0 0, .slice none 0 0, .slice none 0 0, .slice none 0 0] 32 (0,0))):=zh (by have e:b_s=(w3x).heap.size:=(by first|exact hb_s|(rw [hb_s];simp));have e2:=heap_alloc_new (w3x) (.cells #[.int .i64 6, .string s, .string ⟨#[]⟩, .slice none 0 0, .slice none 0 0, .slice none 0 0, .slice none 0 0] 32);rw [←e] at e2;exact e2)
     have hz7:=hs6.size
     have K_r7:=zh ((hs6.block w.heap.size (by omega) (fun f=>f)).trans K_r4.out)
     have K_t7:=zh ((hs6.block b_t (by omega) (fun f=>f)).trans K_t4.out)
     have H7:=zh (H4.out.later hs6)
     have B7:=zh (B4.out.later hs6)
     have S7:RowKit.Hid (Since (fun k=>k=br) w (w3x.alloc (.cells #[.int .i64 6, .string s, .string ⟨#[]⟩, .slice none 0 0, .slice none 0 0, .slice none 0 0, .slice none 0 0] 32))):=zh (S4.out.trans (hs6.mono (fun _ f=>f.elim)))
     have hl_s:w3x.heap.size≤b_s:=by omega
     go_wp2_with fail
     rw [←hb_s]
     clear hb_s
     generalize w3x.alloc (.cells #[.int .i64 6, .string s, .string ⟨#[]⟩, .slice none 0 0, .slice none 0 0, .slice none 0 0, .slice none 0 0] 32)=wg8 at *
     refine (readMust_any H7.out D5.out ⟨#[44]⟩).mono ?_
     rintro en w9x ⟨st9,rfl,h9,hs9,hg9⟩
     have hz10:=hs9.size
     have K_r10:=zh ((hs9.block w.heap.size (by omega) (by omega)).trans K_r7.out)
     have K_t10:=zh ((hs9.block b_t (by omega) (by omega)).trans K_t7.out)
     have K_s10:=zh ((hs9.block b_s (by omega) (by omega)).trans K_s6.out)
     have H10:=zh h9
     have B10:=zh (B7.out.box hs9)
     have S10:=zh (S7.out.trans hs9)
     have R11:=zh (hg9.next R5.out)
     have D11:=zh (show st9.fault=0→st9.depth=30 - (d:Int) from fun e=>hg9.dep_eq e)
     clear h9 hs9 hg9
     go_wp2_with fail
     refine (readName_any H10.out B10.out D11.out).mono ?_
     rintro en w12x ⟨t,st12,rfl,hsz_t,h12,hs12,hg12⟩
     have hz13:=hs12.size
     have K_r13:=zh ((hs12.block w.heap.size (by omega) (by omega)).trans K_r10.out)
     have K_t13:=zh ((hs12.block b_t (by omega) (by omega)).trans K_t10.out)
     have K_s13:=zh ((hs12.block b_s (by omega) (by omega)).trans K_s10.out)
     have H13:=zh h12
     have B13:=zh (B10.out.box hs12)
     have S13:=zh (S10.out.trans hs12)
     have R14:=zh (hg12.next R11.out)
     have D14:=zh (show st12.fault=0→st12.depth=30 - (d:Int) from fun e=>hg12.dep_eq e)
     clear h12 hs12 hg12
     have Htz:=zh hsz_t
     clear hsz_t
     have gs15_0:=ca0 K_s13.out
     have gs15_1:=ca1 K_s13.out
     have gs15_2:=ca2 K_s13.out
     have gs15_3:=ca3 K_s13.out
     have gs15_4:=ca4 K_s13.out
     have gs15_5:=ca5 K_s13.out
     have gs15_6:=ca6 K_s13.out
     have gs15_z:=cz K_s13.out
     have hs16:Since (fun k=>k=b_s) (w12x) (w12x.setCell ⟨b_s,2,none⟩ (.string t)):=Since.setCell (w12x) ⟨b_s,2,none⟩ (.string t)
     have K_s16:RowKit.Hid ((w12x.setCell ⟨b_s,2,none⟩ (.string t)).heap[b_s]?=some (.cells #[.int .i64 6, .string s, .string t, .slice none 0 0, .slice none 0 0, .slice none 0 0, .slice none 0 0] 32 (0,0))):=zh (by have:=box_set K_s13.out 2 (.string t) (by simp);simpa using this)
     have hz17:=hs16.size
     have K_r17:=zh ((hs16.block w.heap.size (by omega) (by omega)).trans K_r13.out)
     have K_t17:=zh ((hs16.block b_t (by omega) (by omega)).trans K_t13.out)
     have H17:=zh (H13.out.since hs16 (by omega) (by omega))
     have B17:=zh (B13.out.since hs16 (fun k e=>by omega))
     have S17:=zh (S13.out.then_new hs16 (fun k e=>Or.inr (by omega)))
     go_wp2_with fail
     clear gs15_0 gs15_1 gs15_2 gs15_3 gs15_4 gs15_5 gs15_6 gs15_z
     generalize w12x.setCell ⟨b_s,2,none⟩ (.string t)=wg18 at *
     refine (readMust_any H17.out D14.out ⟨#[58,61]⟩).mono ?_
     rintro en w19x ⟨st19,rfl,h19,hs19,hg19⟩
     have hz20:=hs19.size
     have K_r20:=zh ((hs19.block w.heap.size (by omega) (by omega)).trans K_r17.out)
     have K_t20:=zh ((hs19.block b_t (by omega) (by omega)).trans K_t17.out)
     have K_s20:=zh ((hs19.block b_s (by omega) (by omega)).trans K_s16.out)
     have H20:=zh h19
     have B20:=zh (B17.out.box hs19)
     have S20:=zh (S17.out.trans hs19)
     have R21:=zh (hg19.next R14.out)
     have D21:=zh (show st19.fault=0→st19.depth=30 - (d:Int) from fun e=>hg19.dep_eq e)
     clear h19 hs19 hg19
     go_wp2_with fail
     refine (readMust_any H20.out D21.out ⟨#[114,97,110,103,101]⟩).mono ?_
     rintro en w22x ⟨st22,rfl,h22,hs22,hg22⟩
     have hz23:=hs22.size
     have K_r23:=zh ((hs22.block w.heap.size (by omega) (by omega)).trans K_r20.out)
     have K_t23:=zh ((hs22.block b_t (by omega) (by omega)).trans K_t20.out)
     have K_s23:=zh ((hs22.block b_s (by omega) (by omega)).trans K_s20.out)
     have H23:=zh h22
     have B23:=zh (B20.out.box hs22)
     have S23:=zh (S20.out.trans hs22)
     have R24:=zh (hg22.next R21.out)
     have D24:=zh (show st22.fault=0→st22.depth=30 - (d:Int) from fun e=>hg22.dep_eq e)
     clear h22 hs22 hg22
     go_wp2_with fail
     refine (hE w22x br bT cap base T st22 H23.out B23.out D24.out).mono ?_
     rintro en w25x ⟨cs25,x,st25,rfl,hx25,h25,hs25,hg25⟩
     obtain ⟨a_x,c_x,rfl⟩:=rX_shape hx25
     have hz26:=hs25.size
     have K_r26:=zh ((hs25.block w.heap.size (by omega) (by omega)).trans K_r23.out)
     have K_t26:=zh ((hs25.block b_t (by omega) (by omega)).trans K_t23.out)
     have K_s26:=zh ((hs25.block b_s (by omega) (by omega)).trans K_s23.out)
     have H26:=zh h25
     have B26:=zh (B23.out.box hs25)
     have S26:=zh (S23.out.trans hs25)
     have X_x25:RowKit.Hid (rX (fun k=>w22x.heap.size≤k∧k<w25x.heap.size) w25x [.int .i64 x.kind, .int .i64 x.n, .string x.s, .slice a_x x.args.length c_x] x):=zh (Good.wide (R:=rX) hx25 (fun k h1 h2=>⟨h2,h1⟩))
     clear hx25
     have R27:=zh (hg25.next R24.out)
     have D27:=zh (show st25.fault=0→st25.depth=30 - (d:Int) from fun e=>hg25.dep_eq e)
     clear h25 hs25 hg25
     obtain ⟨b_xs,hb_xs⟩: ∃ b_xs,b_xs=w25x.heap.size:=⟨_,rfl⟩
     have hs28:Since (fun _=>False) (w25x) (w25x.alloc (.cells #[.int .i64 x.kind, .int .i64 x.n, .string x.s, .slice a_x x.args.length c_x] 28)):=Since.alloc _ _ _
     have hw28:(w25x.alloc (.cells #[.int .i64 x.kind, .int .i64 x.n, .string x.s, .slice a_x x.args.length c_x] 28)).heap.size=b_xs+1:=by rw [hb_xs];simp
     have K_xs28:RowKit.Hid ((w25x.alloc (.cells #[.int .i64 x.kind, .int .i64 x.n, .string x.s, .slice a_x x.args.length c_x] 28)).heap[b_xs]?=some (.cells #[.int .i64 x.kind, .int .i64 x.n, .string x.s, .slice a_x x.args.length c_x] 28 (0,0))):=zh (by have e:b_xs=(w25x).heap.size:=(by first|exact hb_xs|(rw [hb_xs];simp));have e2:=heap_alloc_new (w25x) (.cells #[.int .i64 x.kind, .int .i64 x.n, .string x.s, .slice a_x x.args.length c_x] 28);rw [←e] at e2;exact e2)
     have hz29:=hs28.size
     have K_r29:=zh ((hs28.block w.heap.size (by omega) (fun f=>f)).trans K_r26.out)
     have K_t29:=zh ((hs28.block b_t (by omega) (fun f=>f)).trans K_t26.out)
     have K_s29:=zh ((hs28.block b_s (by omega) (fun f=>f)).trans K_s26.out)
     have X_x29:RowKit.Hid (rX (fun k=>w22x.heap.size≤k∧k<w25x.heap.size) (w25x.alloc (.cells #[.int .i64 x.kind, .int .i64 x.n, .string x.s, .slice a_x x.args.length c_x] 28)) [.int .i64 x.kind, .int .i64 x.n, .string x.s, .slice a_x x.args.length c_x] x):=zh (Good.keep (R:=rX) ⟨hs28.size,fun k hk hS=>hs28.block k hk (fun f=>f)⟩ (fun _ _ h=>h) X_x25.out)
     have H29:=zh (H26.out.later hs28)
     have B29:=zh (B26.out.later hs28)
     have S29:RowKit.Hid (Since (fun k=>k=br) w (w25x.alloc (.cells #[.int .i64 x.kind, .int .i64 x.n, .string x.s, .slice a_x x.args.length c_x] 28))):=zh (S26.out.trans (hs28.mono (fun _ f=>f.elim)))
     have gs30_3:=ca3 K_s29.out
     have gs30_z:=cz K_s29.out
     have hs31:Since (fun k=>k=b_s) (w25x.alloc (.cells #[.int .i64 x.kind, .int .i64 x.n, .string x.s, .slice a_x x.args.length c_x] 28)) ((w25x.alloc (.cells #[.int .i64 x.kind, .int .i64 x.n, .string x.s, .slice a_x x.args.length c_x] 28)).setCell ⟨b_s,3,none⟩ (.slice (some ⟨b_xs,0,none⟩) 1 1)):=Since.setCell (w25x.alloc (.cells #[.int .i64 x.kind, .int .i64 x.n, .string x.s, .slice a_x x.args.length c_x] 28)) ⟨b_s,3,none⟩ (.slice (some ⟨b_xs,0,none⟩) 1 1)
     have K_s31:RowKit.Hid (((w25x.alloc (.cells #[.int .i64 x.kind, .int .i64 x.n, .string x.s, .slice a_x x.args.length c_x] 28)).setCell ⟨b_s,3,none⟩ (.slice (some ⟨b_xs,0,none⟩) 1 1)).heap[b_s]?=some (.cells #[.int .i64 6, .string s, .string t, .slice (some ⟨b_xs,0,none⟩) 1 1, .slice none 0 0, .slice none 0 0, .slice none 0 0] 32 (0,0))):=zh (by have:=box_set K_s29.out 3 (.slice (some ⟨b_xs,0,none⟩) 1 1) (by simp);simpa using this)
     have hz32:=hs31.size
     have K_r32:=zh ((hs31.block w.heap.size (by omega) (by omega)).trans K_r29.out)
     have K_t32:=zh ((hs31.block b_t (by omega) (by omega)).trans K_t29.out)
     have K_xs32:=zh ((hs31.block b_xs (by omega) (by omega)).trans K_xs28.out)
     have X_x32:RowKit.Hid (rX (fun k=>w22x.heap.size≤k∧k<w25x.heap.size) ((w25x.alloc (.cells #[.int .i64 x.kind, .int .i64 x.n, .string x.s, .slice a_x x.args.length c_x] 28)).setCell ⟨b_s,3,none⟩ (.slice (some ⟨b_xs,0,none⟩) 1 1)) [.int .i64 x.kind, .int .i64 x.n, .string x.s, .slice a_x x.args.length c_x] x):=zh (Good.keep (R:=rX) ⟨hs31.size,fun k hk hS=>hs31.block k hk (by omega)⟩ (fun _ _ h=>h) X_x29.out)
     have H32:=zh (H29.out.since hs31 (by omega) (by omega))
     have B32:=zh (B29.out.since hs31 (fun k e=>by omega))
     have S32:=zh (S29.out.then_new hs31 (fun k e=>Or.inr (by omega)))
     have hl_xs:w25x.heap.size≤b_xs:=by omega
     go_wp2_with fail
     clear gs30_3 gs30_z
     rw [←hb_xs]
     clear hb_xs
     generalize (w25x.alloc (.cells #[.int .i64 x.kind, .int .i64 x.n, .string x.s, .slice a_x x.args.length c_x] 28)).setCell ⟨b_s,3,none⟩ (.slice (some ⟨b_xs,0,none⟩) 1 1)=wg33 at *
     refine (hK wg33 br bT cap base T st25 H32.out B32.out D27.out).mono ?_
     rintro en w34x ⟨v34,l,st34,rfl,hx34,h34,hs34,hg34⟩
     obtain ⟨a_l,c_l,rfl⟩:=rSs_shape hx34
     have hz35:=hs34.size
     have K_r35:=zh ((hs34.block w.heap.size (by omega) (by omega)).trans K_r32.out)
     have K_t35:=zh ((hs34.block b_t (by omega) (by omega)).trans K_t32.out)
     have K_s35:=zh ((hs34.block b_s (by omega) (by omega)).trans K_s31.out)
     have K_xs35:=zh ((hs34.block b_xs (by omega) (by omega)).trans K_xs32.out)
     have X_x35:RowKit.Hid (rX (fun k=>w22x.heap.size≤k∧k<w25x.heap.size) (w34x) [.int .i64 x.kind, .int .i64 x.n, .string x.s, .slice a_x x.args.length c_x] x):=zh (Good.keep (R:=rX) ⟨hs34.size,fun k hk hS=>hs34.block k hk (by omega)⟩ (fun _ _ h=>h) X_x32.out)
     have H35:=zh h34
     have B35:=zh (B32.out.box hs34)
     have S35:=zh (S32.out.trans hs34)
     have X_l34:RowKit.Hid (rSs (fun k=>wg33.heap.size≤k∧k<w34x.heap.size) w34x [.slice a_l l.length c_l] l):=zh (Good.wide (R:=rSs) hx34 (fun k h1 h2=>⟨h2,h1⟩))
     clear hx34
     have R36:=zh (hg34.next R27.out)
     have D36:=zh (show st34.fault=0→st34.depth=30 - (d:Int) from fun e=>hg34.dep_eq e)
     clear h34 hs34 hg34
     have gs37_0:=ca0 K_s35.out
     have gs37_1:=ca1 K_s35.out
     have gs37_2:=ca2 K_s35.out
     have gs37_3:=ca3 K_s35.out
     have gs37_4:=ca4 K_s35.out
     have gs37_5:=ca5 K_s35.out
     have gs37_6:=ca6 K_s35.out
     have gs37_z:=cz K_s35.out
     have hs38:Since (fun k=>k=b_s) (w34x) (w34x.setCell ⟨b_s,4,none⟩ (.slice a_l l.length c_l)):=Since.setCell (w34x) ⟨b_s,4,none⟩ (.slice a_l l.length c_l)
     have K_s38:RowKit.Hid ((w34x.setCell ⟨b_s,4,none⟩ (.slice a_l l.length c_l)).heap[b_s]?=some (.cells #[.int .i64 6, .string s, .string t, .slice (some ⟨b_xs,0,none⟩) 1 1, .slice a_l l.length c_l, .slice none 0 0, .slice none 0 0] 32 (0,0))):=zh (by have:=box_set K_s35.out 4 (.slice a_l l.length c_l) (by simp);simpa using this)
     have hz39:=hs38.size
     have K_r39:=zh ((hs38.block w.heap.size (by omega) (by omega)).trans K_r35.out)
     have K_t39:=zh ((hs38.block b_t (by omega) (by omega)).trans K_t35.out)
     have K_xs39:=zh ((hs38.block b_xs (by omega) (by omega)).trans K_xs35.out)
     have X_x39:RowKit.Hid (rX (fun k=>w22x.heap.size≤k∧k<w25x.heap.size) (w34x.setCell ⟨b_s,4,none⟩ (.slice a_l l.length c_l)) [.int .i64 x.kind, .int .i64 x.n, .string x.s, .slice a_x x.args.length c_x] x):=zh (Good.keep (R:=rX) ⟨hs38.size,fun k hk hS=>hs38.block k hk (by omega)⟩ (fun _ _ h=>h) X_x35.out)
     have X_l39:RowKit.Hid (rSs (fun k=>wg33.heap.size≤k∧k<w34x.heap.size) (w34x.setCell ⟨b_s,4,none⟩ (.slice a_l l.length c_l)) [.slice a_l l.length c_l] l):=zh (Good.keep (R:=rSs) ⟨hs38.size,fun k hk hS=>hs38.block k hk (by omega)⟩ (fun _ _ h=>h) X_l34.out)
     have H39:=zh (H35.out.since hs38 (by omega) (by omega))
     have B39:=zh (B35.out.since hs38 (fun k e=>by omega))
     have S39:=zh (S35.out.then_new hs38 (fun k e=>Or.inr (by omega)))
     go_upto_region 10 with fail
     clear gs37_0 gs37_1 gs37_2 gs37_3 gs37_4 gs37_5 gs37_6 gs37_z
     generalize w34x.setCell ⟨b_s,4,none⟩ (.slice a_l l.length c_l)=wg40 at *
     have gs41_0:=ca0 K_s38.out
     have gs41_1:=ca1 K_s38.out
     have gs41_2:=ca2 K_s38.out
     have gs41_3:=ca3 K_s38.out
     have gs41_4:=ca4 K_s38.out
     have gs41_5:=ca5 K_s38.out
     have gs41_6:=ca6 K_s38.out
     have gs41_z:=cz K_s38.out
     have gr42_0:=ca0 K_r39.out
     have gr42_1:=ca1 K_r39.out
     have gr42_2:=ca2 K_r39.out
     have gr42_3:=ca3 K_r39.out
     have gr42_4:=ca4 K_r39.out
     have gr42_5:=ca5 K_r39.out
     have gr42_6:=ca6 K_r39.out
     have gr42_z:=cz K_r39.out
     go_wp2_with fail
     obtain ⟨mb,ms⟩:=cells7 (w:=wg40) K_r39.out (.int .i64 6) (.string s) (.string t) (.slice (some ⟨b_xs,0,none⟩) 1 1) (.slice a_l l.length c_l) (.slice none 0 0) (.slice none 0 0)
     generalize hWW:((((((wg40.setCell ⟨w.heap.size,0,none⟩ (.int .i64 6)).setCell ⟨w.heap.size,1,none⟩ (.string s)).setCell ⟨w.heap.size,2,none⟩ (.string t)).setCell ⟨w.heap.size,3,none⟩ (.slice (some ⟨b_xs,0,none⟩) 1 1)).setCell ⟨w.heap.size,4,none⟩ (.slice a_l l.length c_l)).setCell ⟨w.heap.size,5,none⟩ (.slice none 0 0)).setCell ⟨w.heap.size,6,none⟩ (.slice none 0 0)=WW at *
     have m0:=ca0 mb
     have m1:=ca1 mb
     have m2:=ca2 mb
     have m3:=ca3 mb
     have m4:=ca4 mb
     have m5:=ca5 mb
     have m6:=ca6 mb
     refine bodyPost_ret (v:= .agg #[.int .i64 6, .string s, .string t, .slice (some ⟨b_xs,0,none⟩) 1 1, .slice a_l l.length c_l, .slice none 0 0, .slice none 0 0]) (by simp [results,Tryd.results62,go_sem,m0,m1,m2,m3,m4,m5,m6]) rfl ⟨_, .mk 6 s t [x] l [] [],st34,rfl,rS_mk 6 s t (ini rfl) Hs.out Htz.out (rXs_one (Good.keep (R:=rX) ⟨ms.size,fun k hk hS=>ms.block k hk (by omega)⟩ (fun k hk hS=>by omega) X_x39.out) ((ms.block b_xs (by omega) (by omega)).trans K_xs39.out) (show w.heap.size≤b_xs by omega) (by decide) (by decide)) (Good.keep (R:=rSs) ⟨ms.size,fun k hk hS=>ms.block k hk (by omega)⟩ (fun k hk hS=>by omega) X_l39.out) (rSs_nil _ _) (rCs_nil _ _),(H39.out).since ms (by omega) (by omega),(S39.out).then_new ms (fun k e=>Or.inr (by omega)),?_⟩
     exact Good'.end R36.out D36.out
    ·
     have f3:(qs.toList==[44])=false:=by
      have:=tokS_ne e3
      simpa using this
     have f3': ¬qs.toList=[44]:=by simpa using f3
     have E3:=zh e3
     clear e3
     have RF:=zh (show Res=runR T (forG (exprR d) (blockR d)) st from by
      rw [R0.out,runR_ok H0.out,runR_ok H0.out]
      unfold loopG
      rw [←seeR_head H0.out,Ht.out]
      exact (if_neg (fun e=>E3.out (by have:=e.2.2;rw [Hh.out] at this;exact this))))
     go_wp2_with fail
     clear gt2_0 gt2_1 gt2_2 gt2_3 gt2_z c0 t0 t1
     refine (hE wc br bT cap base T st H1.out B1.out D0.out).mono ?_
     rintro en w3x ⟨cs3,x,st3,rfl,hx3,h3,hs3,hg3⟩
     obtain ⟨a_x,c_x,rfl⟩:=rX_shape hx3
     have hz4:=hs3.size
     have K_r4:=zh ((hs3.block w.heap.size (by omega) (by omega)).trans K_r1.out)
     have K_t4:=zh ((hs3.block b_t (by omega) (by omega)).trans K_t.out)
     have H4:=zh h3
     have B4:=zh (B1.out.box hs3)
     have S4:=zh (S1.out.trans hs3)
     have X_x3:RowKit.Hid (rX (fun k=>wc.heap.size≤k∧k<w3x.heap.size) w3x [.int .i64 x.kind, .int .i64 x.n, .string x.s, .slice a_x x.args.length c_x] x):=zh (Good.wide (R:=rX) hx3 (fun k h1 h2=>⟨h2,h1⟩))
     clear hx3
     have R5:=zh (hg3.next RF.out)
     have D5:=zh (show st3.fault=0→st3.depth=30 - (d:Int) from fun e=>hg3.dep_eq e)
     clear h3 hs3 hg3
     obtain ⟨b_xs,hb_xs⟩: ∃ b_xs,b_xs=w3x.heap.size:=⟨_,rfl⟩
     obtain ⟨b_s,hb_s⟩: ∃ b_s,b_s=w3x.heap.size+1:=⟨_,rfl⟩
     have hs6:Since (fun _=>False) (w3x) (w3x.alloc (.cells #[.int .i64 x.kind, .int .i64 x.n, .string x.s, .slice a_x x.args.length c_x] 28)):=Since.alloc _ _ _
     have hw6:(w3x.alloc (.cells #[.int .i64 x.kind, .int .i64 x.n, .string x.s, .slice a_x x.args.length c_x] 28)).heap.size=b_xs+1:=by rw [hb_xs];simp
     have K_xs6:RowKit.Hid ((w3x.alloc (.cells #[.int .i64 x.kind, .int .i64 x.n, .string x.s, .slice a_x x.args.length c_x] 28)).heap[b_xs]?=some (.cells #[.int .i64 x.kind, .int .i64 x.n, .string x.s, .slice a_x x.args.length c_x] 28 (0,0))):=zh (by have e:b_xs=(w3x).heap.size:=(by first|exact hb_xs|(rw [hb_xs];simp));have e2:=heap_alloc_new (w3x) (.cells #[.int .i64 x.kind, .int .i64 x.n, .string x.s, .slice a_x x.args.length c_x] 28);rw [←e] at e2;exact e2)
     have hz7:=hs6.size
     have K_r7:=zh ((hs6.block w.heap.size (by omega) (fun f=>f)).trans K_r4.out)
     have K_t7:=zh ((hs6.block b_t (by omega) (fun f=>f)).trans K_t4.out)
     have X_x7:RowKit.Hid (rX (fun k=>wc.heap.size≤k∧k<w3x.heap.size) (w3x.alloc (.cells #[.int .i64 x.kind, .int .i64 x.n, .string x.s, .slice a_x x.args.length c_x] 28)) [.int .i64 x.kind, .int .i64 x.n, .string x.s, .slice a_x x.args.length c_x] x):=zh (Good.keep (R:=rX) ⟨hs6.size,fun k hk hS=>hs6.block k hk (fun f=>f)⟩ (fun _ _ h=>h) X_x3.out)
     have H7:=zh (H4.out.later hs6)
     have B7:=zh (B4.out.later hs6)
     have S7:RowKit.Hid (Since (fun k=>k=br) w (w3x.alloc (.cells #[.int .i64 x.kind, .int .i64 x.n, .string x.s, .slice a_x x.args.length c_x] 28))):=zh (S4.out.trans (hs6.mono (fun _ f=>f.elim)))
     have hs8:Since (fun _=>False) (w3x.alloc (.cells #[.int .i64 x.kind, .int .i64 x.n, .string x.s, .slice a_x x.args.length c_x] 28)) ((w3x.alloc (.cells #[.int .i64 x.kind, .int .i64 x.n, .string x.s, .slice a_x x.args.length c_x] 28)).alloc (.cells #[.int .i64 5, .string ⟨#[]⟩, .string ⟨#[]⟩, .slice (some ⟨b_xs,0,none⟩) 1 1, .slice none 0 0, .slice none 0 0, .slice none 0 0] 32)):=Since.alloc _ _ _
     have hw8:((w3x.alloc (.cells #[.int .i64 x.kind, .int .i64 x.n, .string x.s, .slice a_x x.args.length c_x] 28)).alloc (.cells #[.int .i64 5, .string ⟨#[]⟩, .string ⟨#[]⟩, .slice (some ⟨b_xs,0,none⟩) 1 1, .slice none 0 0, .slice none 0 0, .slice none 0 0] 32)).heap.size=b_s+1:=by rw [hb_s];simp
     have K_s8:RowKit.Hid (((w3x.alloc (.cells #[.int .i64 x.kind, .int .i64 x.n, .string x.s, .slice a_x x.args.length c_x] 28)).alloc (.cells #[.int .i64 5, .string ⟨#[]⟩, .string ⟨#[]⟩, .slice (some ⟨b_xs,0,none⟩) 1 1, .slice none 0 0, .slice none 0 0, .slice none 0 0] 32)).heap[b_s]?=some (.cells #[.int .i64 5, .string ⟨#[]⟩, .string ⟨#[]⟩, .slice (some ⟨b_xs,0,none⟩) 1 1, .slice none 0 0, .slice none 0 0, .slice none 0 0] 32 (0,0))):=zh (by have e:b_s=(w3x.alloc (.cells #[.int .i64 x.kind, .int .i64 x.n, .string x.s, .slice a_x x.args.length c_x] 28)).heap.size:=(by first|exact hb_s|(rw [hb_s];simp));have e2:=heap_alloc_new (w3x.alloc (.cells #[.int .i64 x.kind, .int .i64 x.n, .string x.s, .slice a_x x.args.length c_x] 28)) (.cells #[.int .i64 5, .string ⟨#[]⟩, .string ⟨#[]⟩, .slice (some ⟨b_xs,0,none⟩) 1 1, .slice none 0 0, .slice none 0 0, .slice none 0 0] 32);rw [←e] at e2;exact e2)
     have hz9:=hs8.size
     have K_r9:=zh ((hs8.block w.heap.size (by omega) (fun f=>f)).trans K_r7.out)
     have K_t9:=zh ((hs8.block b_t (by omega) (fun f=>f)).trans K_t7.out)
     have K_xs9:=zh ((hs8.block b_xs (by omega) (fun f=>f)).trans K_xs6.out)
     have X_x9:RowKit.Hid (rX (fun k=>wc.heap.size≤k∧k<w3x.heap.size) ((w3x.alloc (.cells #[.int .i64 x.kind, .int .i64 x.n, .string x.s, .slice a_x x.args.length c_x] 28)).alloc (.cells #[.int .i64 5, .string ⟨#[]⟩, .string ⟨#[]⟩, .slice (some ⟨b_xs,0,none⟩) 1 1, .slice none 0 0, .slice none 0 0, .slice none 0 0] 32)) [.int .i64 x.kind, .int .i64 x.n, .string x.s, .slice a_x x.args.length c_x] x):=zh (Good.keep (R:=rX) ⟨hs8.size,fun k hk hS=>hs8.block k hk (fun f=>f)⟩ (fun _ _ h=>h) X_x7.out)
     have H9:=zh (H7.out.later hs8)
     have B9:=zh (B7.out.later hs8)
     have S9:RowKit.Hid (Since (fun k=>k=br) w ((w3x.alloc (.cells #[.int .i64 x.kind, .int .i64 x.n, .string x.s, .slice a_x x.args.length c_x] 28)).alloc (.cells #[.int .i64 5, .string ⟨#[]⟩, .string ⟨#[]⟩, .slice (some ⟨b_xs,0,none⟩) 1 1, .slice none 0 0, .slice none 0 0, .slice none 0 0] 32))):=zh (S7.out.trans (hs8.mono (fun _ f=>f.elim)))
     have ho_xs:b_xs<b_s:=by omega
     have hl_xs:w3x.heap.size≤b_xs:=by omega
     have hl_s:w3x.heap.size≤b_s:=by omega
     go_wp2_with fail
     rw [←hb_s]
     rw [←hb_xs]
     clear hb_xs
     clear hb_s
     generalize (w3x.alloc (.cells #[.int .i64 x.kind, .int .i64 x.n, .string x.s, .slice a_x x.args.length c_x] 28)).alloc (.cells #[.int .i64 5, .string ⟨#[]⟩, .string ⟨#[]⟩, .slice (some ⟨b_xs,0,none⟩) 1 1, .slice none 0 0, .slice none 0 0, .slice none 0 0] 32)=wg10 at *
     refine (hK wg10 br bT cap base T st3 H9.out B9.out D5.out).mono ?_
     rintro en w11x ⟨v11,l,st11,rfl,hx11,h11,hs11,hg11⟩
     obtain ⟨a_l,c_l,rfl⟩:=rSs_shape hx11
     have hz12:=hs11.size
     have K_r12:=zh ((hs11.block w.heap.size (by omega) (by omega)).trans K_r9.out)
     have K_t12:=zh ((hs11.block b_t (by omega) (by omega)).trans K_t9.out)
     have K_xs12:=zh ((hs11.block b_xs (by omega) (by omega)).trans K_xs9.out)
     have K_s12:=zh ((hs11.block b_s (by omega) (by omega)).trans K_s8.out)
     have X_x12:RowKit.Hid (rX (fun k=>wc.heap.size≤k∧k<w3x.heap.size) (w11x) [.int .i64 x.kind, .int .i64 x.n, .string x.s, .slice a_x x.args.length c_x] x):=zh (Good.keep (R:=rX) ⟨hs11.size,fun k hk hS=>hs11.block k hk (by omega)⟩ (fun _ _ h=>h) X_x9.out)
     have H12:=zh h11
     have B12:=zh (B9.out.box hs11)
     have S12:=zh (S9.out.trans hs11)
     have X_l11:RowKit.Hid (rSs (fun k=>wg10.heap.size≤k∧k<w11x.heap.size) w11x [.slice a_l l.length c_l] l):=zh (Good.wide (R:=rSs) hx11 (fun k h1 h2=>⟨h2,h1⟩))
     clear hx11
     have R13:=zh (hg11.next R5.out)
     have D13:=zh (show st11.fault=0→st11.depth=30 - (d:Int) from fun e=>hg11.dep_eq e)
     clear h11 hs11 hg11
     have gs14_0:=ca0 K_s12.out
     have gs14_1:=ca1 K_s12.out
     have gs14_2:=ca2 K_s12.out
     have gs14_3:=ca3 K_s12.out
     have gs14_4:=ca4 K_s12.out
     have gs14_5:=ca5 K_s12.out
     have gs14_6:=ca6 K_s12.out
     have gs14_z:=cz K_s12.out
     have hs15:Since (fun k=>k=b_s) (w11x) (w11x.setCell ⟨b_s,4,none⟩ (.slice a_l l.length c_l)):=Since.setCell (w11x) ⟨b_s,4,none⟩ (.slice a_l l.length c_l)
     have K_s15:RowKit.Hid ((w11x.setCell ⟨b_s,4,none⟩ (.slice a_l l.length c_l)).heap[b_s]?=some (.cells #[.int .i64 5, .string ⟨#[]⟩, .string ⟨#[]⟩, .slice (some ⟨b_xs,0,none⟩) 1 1, .slice a_l l.length c_l, .slice none 0 0, .slice none 0 0] 32 (0,0))):=zh (by have:=box_set K_s12.out 4 (.slice a_l l.length c_l) (by simp);simpa using this)
     have hz16:=hs15.size
     have K_r16:=zh ((hs15.block w.heap.size (by omega) (by omega)).trans K_r12.out)
     have K_t16:=zh ((hs15.block b_t (by omega) (by omega)).trans K_t12.out)
     have K_xs16:=zh ((hs15.block b_xs (by omega) (by omega)).trans K_xs12.out)
     have X_x16:RowKit.Hid (rX (fun k=>wc.heap.size≤k∧k<w3x.heap.size) (w11x.setCell ⟨b_s,4,none⟩ (.slice a_l l.length c_l)) [.int .i64 x.kind, .int .i64 x.n, .string x.s, .slice a_x x.args.length c_x] x):=zh (Good.keep (R:=rX) ⟨hs15.size,fun k hk hS=>hs15.block k hk (by omega)⟩ (fun _ _ h=>h) X_x12.out)
     have X_l16:RowKit.Hid (rSs (fun k=>wg10.heap.size≤k∧k<w11x.heap.size) (w11x.setCell ⟨b_s,4,none⟩ (.slice a_l l.length c_l)) [.slice a_l l.length c_l] l):=zh (Good.keep (R:=rSs) ⟨hs15.size,fun k hk hS=>hs15.block k hk (by omega)⟩ (fun _ _ h=>h) X_l11.out)
     have H16:=zh (H12.out.since hs15 (by omega) (by omega))
     have B16:=zh (B12.out.since hs15 (fun k e=>by omega))
     have S16:=zh (S12.out.then_new hs15 (fun k e=>Or.inr (by omega)))
     go_upto_region 13 with fail
     clear gs14_0 gs14_1 gs14_2 gs14_3 gs14_4 gs14_5 gs14_6 gs14_z
     generalize w11x.setCell ⟨b_s,4,none⟩ (.slice a_l l.length c_l)=wg17 at *
     have gs18_0:=ca0 K_s15.out
     have gs18_1:=ca1 K_s15.out
     have gs18_2:=ca2 K_s15.out
     have gs18_3:=ca3 K_s15.out
     have gs18_4:=ca4 K_s15.out
     have gs18_5:=ca5 K_s15.out
     have gs18_6:=ca6 K_s15.out
     have gs18_z:=cz K_s15.out
     have gr19_0:=ca0 K_r16.out
     have gr19_1:=ca1 K_r16.out
     have gr19_2:=ca2 K_r16.out
     have gr19_3:=ca3 K_r16.out
     have gr19_4:=ca4 K_r16.out
     have gr19_5:=ca5 K_r16.out
     have gr19_6:=ca6 K_r16.out
     have gr19_z:=cz K_r16.out
     go_wp2_with fail
     obtain ⟨mb,ms⟩:=cells7 (w:=wg17) K_r16.out (.int .i64 5) (.string ⟨#[]⟩) (.string ⟨#[]⟩) (.slice (some ⟨b_xs,0,none⟩) 1 1) (.slice a_l l.length c_l) (.slice none 0 0) (.slice none 0 0)
     generalize hWW:((((((wg17.setCell ⟨w.heap.size,0,none⟩ (.int .i64 5)).setCell ⟨w.heap.size,1,none⟩ (.string ⟨#[]⟩)).setCell ⟨w.heap.size,2,none⟩ (.string ⟨#[]⟩)).setCell ⟨w.heap.size,3,none⟩ (.slice (some ⟨b_xs,0,none⟩) 1 1)).setCell ⟨w.heap.size,4,none⟩ (.slice a_l l.length c_l)).setCell ⟨w.heap.size,5,none⟩ (.slice none 0 0)).setCell ⟨w.heap.size,6,none⟩ (.slice none 0 0)=WW at *
     have m0:=ca0 mb
     have m1:=ca1 mb
     have m2:=ca2 mb
     have m3:=ca3 mb
     have m4:=ca4 mb
     have m5:=ca5 mb
     have m6:=ca6 mb
     refine bodyPost_ret (v:= .agg #[.int .i64 5, .string ⟨#[]⟩, .string ⟨#[]⟩, .slice (some ⟨b_xs,0,none⟩) 1 1, .slice a_l l.length c_l, .slice none 0 0, .slice none 0 0]) (by simp [results,Tryd.results62,go_sem,m0,m1,m2,m3,m4,m5,m6]) rfl ⟨_, .mk 5 ⟨#[]⟩ ⟨#[]⟩ [x] l [] [],st11,rfl,rS_mk 5 ⟨#[]⟩ ⟨#[]⟩ (ini rfl) (by decide) (by decide) (rXs_one (Good.keep (R:=rX) ⟨ms.size,fun k hk hS=>ms.block k hk (by omega)⟩ (fun k hk hS=>by omega) X_x16.out) ((ms.block b_xs (by omega) (by omega)).trans K_xs16.out) (show w.heap.size≤b_xs by omega) (by decide) (by decide)) (Good.keep (R:=rSs) ⟨ms.size,fun k hk hS=>ms.block k hk (by omega)⟩ (fun k hk hS=>by omega) X_l16.out) (rSs_nil _ _) (rCs_nil _ _),(H16.out).since ms (by omega) (by omega),(S16.out).then_new ms (fun k e=>Or.inr (by omega)),?_⟩
     exact Good'.end R13.out D13.out
   ·
    have f2:(qk==109)=false:=by simp [e2]
    have E2:=zh e2
    clear e2
    have RF:=zh (show Res=runR T (forG (exprR d) (blockR d)) st from by
     rw [R0.out,runR_ok H0.out,runR_ok H0.out]
     unfold loopG
     rw [←seeR_head H0.out,Ht.out]
     exact (if_neg (fun e=>E2.out (by have:=e.2.1;rw [Hh.out] at this;exact this))))
    go_wp2_with fail
    clear gt2_0 gt2_1 gt2_2 gt2_3 gt2_z c0 t0 t1
    refine (hE wc br bT cap base T st H1.out B1.out D0.out).mono ?_
    rintro en w3x ⟨cs3,x,st3,rfl,hx3,h3,hs3,hg3⟩
    obtain ⟨a_x,c_x,rfl⟩:=rX_shape hx3
    have hz4:=hs3.size
    have K_r4:=zh ((hs3.block w.heap.size (by omega) (by omega)).trans K_r1.out)
    have K_t4:=zh ((hs3.block b_t (by omega) (by omega)).trans K_t.out)
    have H4:=zh h3
    have B4:=zh (B1.out.box hs3)
    have S4:=zh (S1.out.trans hs3)
    have X_x3:RowKit.Hid (rX (fun k=>wc.heap.size≤k∧k<w3x.heap.size) w3x [.int .i64 x.kind, .int .i64 x.n, .string x.s, .slice a_x x.args.length c_x] x):=zh (Good.wide (R:=rX) hx3 (fun k h1 h2=>⟨h2,h1⟩))
    clear hx3
    have R5:=zh (hg3.next RF.out)
    have D5:=zh (show st3.fault=0→st3.depth=30 - (d:Int) from fun e=>hg3.dep_eq e)
    clear h3 hs3 hg3
    obtain ⟨b_xs,hb_xs⟩: ∃ b_xs,b_xs=w3x.heap.size:=⟨_,rfl⟩
    obtain ⟨b_s,hb_s⟩: ∃ b_s,b_s=w3x.heap.size+1:=⟨_,rfl⟩
    have hs6:Since (fun _=>False) (w3x) (w3x.alloc (.cells #[.int .i64 x.kind, .int .i64 x.n, .string x.s, .slice a_x x.args.length c_x] 28)):=Since.alloc _ _ _
    have hw6:(w3x.alloc (.cells #[.int .i64 x.kind, .int .i64 x.n, .string x.s, .slice a_x x.args.length c_x] 28)).heap.size=b_xs+1:=by rw [hb_xs];simp
    have K_xs6:RowKit.Hid ((w3x.alloc (.cells #[.int .i64 x.kind, .int .i64 x.n, .string x.s, .slice a_x x.args.length c_x] 28)).heap[b_xs]?=some (.cells #[.int .i64 x.kind, .int .i64 x.n, .string x.s, .slice a_x x.args.length c_x] 28 (0,0))):=zh (by have e:b_xs=(w3x).heap.size:=(by first|exact hb_xs|(rw [hb_xs];simp));have e2:=heap_alloc_new (w3x) (.cells #[.int .i64 x.kind, .int .i64 x.n, .string x.s, .slice a_x x.args.length c_x] 28);rw [←e] at e2;exact e2)
    have hz7:=hs6.size
    have K_r7:=zh ((hs6.block w.heap.size (by omega) (fun f=>f)).trans K_r4.out)
    have K_t7:=zh ((hs6.block b_t (by omega) (fun f=>f)).trans K_t4.out)
    have X_x7:RowKit.Hid (rX (fun k=>wc.heap.size≤k∧k<w3x.heap.size) (w3x.alloc (.cells #[.int .i64 x.kind, .int .i64 x.n, .string x.s, .slice a_x x.args.length c_x] 28)) [.int .i64 x.kind, .int .i64 x.n, .string x.s, .slice a_x x.args.length c_x] x):=zh (Good.keep (R:=rX) ⟨hs6.size,fun k hk hS=>hs6.block k hk (fun f=>f)⟩ (fun _ _ h=>h) X_x3.out)
    have H7:=zh (H4.out.later hs6)
    have B7:=zh (B4.out.later hs6)
    have S7:RowKit.Hid (Since (fun k=>k=br) w (w3x.alloc (.cells #[.int .i64 x.kind, .int .i64 x.n, .string x.s, .slice a_x x.args.length c_x] 28))):=zh (S4.out.trans (hs6.mono (fun _ f=>f.elim)))
    have hs8:Since (fun _=>False) (w3x.alloc (.cells #[.int .i64 x.kind, .int .i64 x.n, .string x.s, .slice a_x x.args.length c_x] 28)) ((w3x.alloc (.cells #[.int .i64 x.kind, .int .i64 x.n, .string x.s, .slice a_x x.args.length c_x] 28)).alloc (.cells #[.int .i64 5, .string ⟨#[]⟩, .string ⟨#[]⟩, .slice (some ⟨b_xs,0,none⟩) 1 1, .slice none 0 0, .slice none 0 0, .slice none 0 0] 32)):=Since.alloc _ _ _
    have hw8:((w3x.alloc (.cells #[.int .i64 x.kind, .int .i64 x.n, .string x.s, .slice a_x x.args.length c_x] 28)).alloc (.cells #[.int .i64 5, .string ⟨#[]⟩, .string ⟨#[]⟩, .slice (some ⟨b_xs,0,none⟩) 1 1, .slice none 0 0, .slice none 0 0, .slice none 0 0] 32)).heap.size=b_s+1:=by rw [hb_s];simp
    have K_s8:RowKit.Hid (((w3x.alloc (.cells #[.int .i64 x.kind, .int .i64 x.n, .string x.s, .slice a_x x.args.length c_x] 28)).alloc (.cells #[.int .i64 5, .string ⟨#[]⟩, .string ⟨#[]⟩, .slice (some ⟨b_xs,0,none⟩) 1 1, .slice none 0 0, .slice none 0 0, .slice none 0 0] 32)).heap[b_s]?=some (.cells #[.int .i64 5, .string ⟨#[]⟩, .string ⟨#[]⟩, .slice (some ⟨b_xs,0,none⟩) 1 1, .slice none 0 0, .slice none 0 0, .slice none 0 0] 32 (0,0))):=zh (by have e:b_s=(w3x.alloc (.cells #[.int .i64 x.kind, .int .i64 x.n, .string x.s, .slice a_x x.args.length c_x] 28)).heap.size:=(by first|exact hb_s|(rw [hb_s];simp));have e2:=heap_alloc_new (w3x.alloc (.cells #[.int .i64 x.kind, .int .i64 x.n, .string x.s, .slice a_x x.args.length c_x] 28)) (.cells #[.int .i64 5, .string ⟨#[]⟩, .string ⟨#[]⟩, .slice (some ⟨b_xs,0,none⟩) 1 1, .slice none 0 0, .slice none 0 0, .slice none 0 0] 32);rw [←e] at e2;exact e2)
    have hz9:=hs8.size
    have K_r9:=zh ((hs8.block w.heap.size (by omega) (fun f=>f)).trans K_r7.out)
    have K_t9:=zh ((hs8.block b_t (by omega) (fun f=>f)).trans K_t7.out)
    have K_xs9:=zh ((hs8.block b_xs (by omega) (fun f=>f)).trans K_xs6.out)
    have X_x9:RowKit.Hid (rX (fun k=>wc.heap.size≤k∧k<w3x.heap.size) ((w3x.alloc (.cells #[.int .i64 x.kind, .int .i64 x.n, .string x.s, .slice a_x x.args.length c_x] 28)).alloc (.cells #[.int .i64 5, .string ⟨#[]⟩, .string ⟨#[]⟩, .slice (some ⟨b_xs,0,none⟩) 1 1, .slice none 0 0, .slice none 0 0, .slice none 0 0] 32)) [.int .i64 x.kind, .int .i64 x.n, .string x.s, .slice a_x x.args.length c_x] x):=zh (Good.keep (R:=rX) ⟨hs8.size,fun k hk hS=>hs8.block k hk (fun f=>f)⟩ (fun _ _ h=>h) X_x7.out)
    have H9:=zh (H7.out.later hs8)
    have B9:=zh (B7.out.later hs8)
    have S9:RowKit.Hid (Since (fun k=>k=br) w ((w3x.alloc (.cells #[.int .i64 x.kind, .int .i64 x.n, .string x.s, .slice a_x x.args.length c_x] 28)).alloc (.cells #[.int .i64 5, .string ⟨#[]⟩, .string ⟨#[]⟩, .slice (some ⟨b_xs,0,none⟩) 1 1, .slice none 0 0, .slice none 0 0, .slice none 0 0] 32))):=zh (S7.out.trans (hs8.mono (fun _ f=>f.elim)))
    have ho_xs:b_xs<b_s:=by omega
    have hl_xs:w3x.heap.size≤b_xs:=by omega
    have hl_s:w3x.heap.size≤b_s:=by omega
    go_wp2_with fail
    rw [←hb_s]
    rw [←hb_xs]
    clear hb_xs
    clear hb_s
    generalize (w3x.alloc (.cells #[.int .i64 x.kind, .int .i64 x.n, .string x.s, .slice a_x x.args.length c_x] 28)).alloc (.cells #[.int .i64 5, .string ⟨#[]⟩, .string ⟨#[]⟩, .slice (some ⟨b_xs,0,none⟩) 1 1, .slice none 0 0, .slice none 0 0, .slice none 0 0] 32)=wg10 at *
    refine (hK wg10 br bT cap base T st3 H9.out B9.out D5.out).mono ?_
    rintro en w11x ⟨v11,l,st11,rfl,hx11,h11,hs11,hg11⟩
    obtain ⟨a_l,c_l,rfl⟩:=rSs_shape hx11
    have hz12:=hs11.size
    have K_r12:=zh ((hs11.block w.heap.size (by omega) (by omega)).trans K_r9.out)
    have K_t12:=zh ((hs11.block b_t (by omega) (by omega)).trans K_t9.out)
    have K_xs12:=zh ((hs11.block b_xs (by omega) (by omega)).trans K_xs9.out)
    have K_s12:=zh ((hs11.block b_s (by omega) (by omega)).trans K_s8.out)
    have X_x12:RowKit.Hid (rX (fun k=>wc.heap.size≤k∧k<w3x.heap.size) (w11x) [.int .i64 x.kind, .int .i64 x.n, .string x.s, .slice a_x x.args.length c_x] x):=zh (Good.keep (R:=rX) ⟨hs11.size,fun k hk hS=>hs11.block k hk (by omega)⟩ (fun _ _ h=>h) X_x9.out)
    have H12:=zh h11
    have B12:=zh (B9.out.box hs11)
    have S12:=zh (S9.out.trans hs11)
    have X_l11:RowKit.Hid (rSs (fun k=>wg10.heap.size≤k∧k<w11x.heap.size) w11x [.slice a_l l.length c_l] l):=zh (Good.wide (R:=rSs) hx11 (fun k h1 h2=>⟨h2,h1⟩))
    clear hx11
    have R13:=zh (hg11.next R5.out)
    have D13:=zh (show st11.fault=0→st11.depth=30 - (d:Int) from fun e=>hg11.dep_eq e)
    clear h11 hs11 hg11
    have gs14_0:=ca0 K_s12.out
    have gs14_1:=ca1 K_s12.out
    have gs14_2:=ca2 K_s12.out
    have gs14_3:=ca3 K_s12.out
    have gs14_4:=ca4 K_s12.out
    have gs14_5:=ca5 K_s12.out
    have gs14_6:=ca6 K_s12.out
    have gs14_z:=cz K_s12.out
    have hs15:Since (fun k=>k=b_s) (w11x) (w11x.setCell ⟨b_s,4,none⟩ (.slice a_l l.length c_l)):=Since.setCell (w11x) ⟨b_s,4,none⟩ (.slice a_l l.length c_l)
    have K_s15:RowKit.Hid ((w11x.setCell ⟨b_s,4,none⟩ (.slice a_l l.length c_l)).heap[b_s]?=some (.cells #[.int .i64 5, .string ⟨#[]⟩, .string ⟨#[]⟩, .slice (some ⟨b_xs,0,none⟩) 1 1, .slice a_l l.length c_l, .slice none 0 0, .slice none 0 0] 32 (0,0))):=zh (by have:=box_set K_s12.out 4 (.slice a_l l.length c_l) (by simp);simpa using this)
    have hz16:=hs15.size
    have K_r16:=zh ((hs15.block w.heap.size (by omega) (by omega)).trans K_r12.out)
    have K_t16:=zh ((hs15.block b_t (by omega) (by omega)).trans K_t12.out)
    have K_xs16:=zh ((hs15.block b_xs (by omega) (by omega)).trans K_xs12.out)
    have X_x16:RowKit.Hid (rX (fun k=>wc.heap.size≤k∧k<w3x.heap.size) (w11x.setCell ⟨b_s,4,none⟩ (.slice a_l l.length c_l)) [.int .i64 x.kind, .int .i64 x.n, .string x.s, .slice a_x x.args.length c_x] x):=zh (Good.keep (R:=rX) ⟨hs15.size,fun k hk hS=>hs15.block k hk (by omega)⟩ (fun _ _ h=>h) X_x12.out)
    have X_l16:RowKit.Hid (rSs (fun k=>wg10.heap.size≤k∧k<w11x.heap.size) (w11x.setCell ⟨b_s,4,none⟩ (.slice a_l l.length c_l)) [.slice a_l l.length c_l] l):=zh (Good.keep (R:=rSs) ⟨hs15.size,fun k hk hS=>hs15.block k hk (by omega)⟩ (fun _ _ h=>h) X_l11.out)
    have H16:=zh (H12.out.since hs15 (by omega) (by omega))
    have B16:=zh (B12.out.since hs15 (fun k e=>by omega))
    have S16:=zh (S12.out.then_new hs15 (fun k e=>Or.inr (by omega)))
    go_upto_region 13 with fail
    clear gs14_0 gs14_1 gs14_2 gs14_3 gs14_4 gs14_5 gs14_6 gs14_z
    generalize w11x.setCell ⟨b_s,4,none⟩ (.slice a_l l.length c_l)=wg17 at *
    have gs18_0:=ca0 K_s15.out
    have gs18_1:=ca1 K_s15.out
    have gs18_2:=ca2 K_s15.out
    have gs18_3:=ca3 K_s15.out
    have gs18_4:=ca4 K_s15.out
    have gs18_5:=ca5 K_s15.out
    have gs18_6:=ca6 K_s15.out
    have gs18_z:=cz K_s15.out
    have gr19_0:=ca0 K_r16.out
    have gr19_1:=ca1 K_r16.out
    have gr19_2:=ca2 K_r16.out
    have gr19_3:=ca3 K_r16.out
    have gr19_4:=ca4 K_r16.out
    have gr19_5:=ca5 K_r16.out
    have gr19_6:=ca6 K_r16.out
    have gr19_z:=cz K_r16.out
    go_wp2_with fail
    obtain ⟨mb,ms⟩:=cells7 (w:=wg17) K_r16.out (.int .i64 5) (.string ⟨#[]⟩) (.string ⟨#[]⟩) (.slice (some ⟨b_xs,0,none⟩) 1 1) (.slice a_l l.length c_l) (.slice none 0 0) (.slice none 0 0)
    generalize hWW:((((((wg17.setCell ⟨w.heap.size,0,none⟩ (.int .i64 5)).setCell ⟨w.heap.size,1,none⟩ (.string ⟨#[]⟩)).setCell ⟨w.heap.size,2,none⟩ (.string ⟨#[]⟩)).setCell ⟨w.heap.size,3,none⟩ (.slice (some ⟨b_xs,0,none⟩) 1 1)).setCell ⟨w.heap.size,4,none⟩ (.slice a_l l.length c_l)).setCell ⟨w.heap.size,5,none⟩ (.slice none 0 0)).setCell ⟨w.heap.size,6,none⟩ (.slice none 0 0)=WW at *
    have m0:=ca0 mb
    have m1:=ca1 mb
    have m2:=ca2 mb
    have m3:=ca3 mb
    have m4:=ca4 mb
    have m5:=ca5 mb
    have m6:=ca6 mb
    refine bodyPost_ret (v:= .agg #[.int .i64 5, .string ⟨#[]⟩, .string ⟨#[]⟩, .slice (some ⟨b_xs,0,none⟩) 1 1, .slice a_l l.length c_l, .slice none 0 0, .slice none 0 0]) (by simp [results,Tryd.results62,go_sem,m0,m1,m2,m3,m4,m5,m6]) rfl ⟨_, .mk 5 ⟨#[]⟩ ⟨#[]⟩ [x] l [] [],st11,rfl,rS_mk 5 ⟨#[]⟩ ⟨#[]⟩ (ini rfl) (by decide) (by decide) (rXs_one (Good.keep (R:=rX) ⟨ms.size,fun k hk hS=>ms.block k hk (by omega)⟩ (fun k hk hS=>by omega) X_x16.out) ((ms.block b_xs (by omega) (by omega)).trans K_xs16.out) (show w.heap.size≤b_xs by omega) (by decide) (by decide)) (Good.keep (R:=rSs) ⟨ms.size,fun k hk hS=>ms.block k hk (by omega)⟩ (fun k hk hS=>by omega) X_l16.out) (rSs_nil _ _) (rCs_nil _ _),(H16.out).since ms (by omega) (by omega),(S16.out).then_new ms (fun k e=>Or.inr (by omega)),?_⟩
    exact Good'.end R13.out D13.out
  ·
   have f1:(tk==119)=false:=by simp [e1]
   have E1:=zh e1
   clear e1
   have RF:=zh (show Res=runR T (forG (exprR d) (blockR d)) st from by
    rw [R0.out,runR_ok H0.out,runR_ok H0.out]
    unfold loopG
    rw [←seeR_head H0.out,Ht.out]
    exact (if_neg (fun e=>E1.out e.1)))
   have gt2_0:=ca0 K_t.out
   have gt2_1:=ca1 K_t.out
   have gt2_2:=ca2 K_t.out
   have gt2_3:=ca3 K_t.out
   have gt2_z:=cz K_t.out
   go_wp2_with fail
   clear gt2_0 gt2_1 gt2_2 gt2_3 gt2_z
   refine (hE wc br bT cap base T st H1.out B1.out D0.out).mono ?_
   rintro en w3x ⟨cs3,x,st3,rfl,hx3,h3,hs3,hg3⟩
   obtain ⟨a_x,c_x,rfl⟩:=rX_shape hx3
   have hz4:=hs3.size
   have K_r4:=zh ((hs3.block w.heap.size (by omega) (by omega)).trans K_r1.out)
   have K_t4:=zh ((hs3.block b_t (by omega) (by omega)).trans K_t.out)
   have H4:=zh h3
   have B4:=zh (B1.out.box hs3)
   have S4:=zh (S1.out.trans hs3)
   have X_x3:RowKit.Hid (rX (fun k=>wc.heap.size≤k∧k<w3x.heap.size) w3x [.int .i64 x.kind, .int .i64 x.n, .string x.s, .slice a_x x.args.length c_x] x):=zh (Good.wide (R:=rX) hx3 (fun k h1 h2=>⟨h2,h1⟩))
   clear hx3
   have R5:=zh (hg3.next RF.out)
   have D5:=zh (show st3.fault=0→st3.depth=30 - (d:Int) from fun e=>hg3.dep_eq e)
   clear h3 hs3 hg3
   obtain ⟨b_xs,hb_xs⟩: ∃ b_xs,b_xs=w3x.heap.size:=⟨_,rfl⟩
   obtain ⟨b_s,hb_s⟩: ∃ b_s,b_s=w3x.heap.size+1:=⟨_,rfl⟩
   have hs6:Since (fun _=>False) (w3x) (w3x.alloc (.cells #[.int .i64 x.kind, .int .i64 x.n, .string x.s, .slice a_x x.args.length c_x] 28)):=Since.alloc _ _ _
   have hw6:(w3x.alloc (.cells #[.int .i64 x.kind, .int .i64 x.n, .string x.s, .slice a_x x.args.length c_x] 28)).heap.size=b_xs+1:=by rw [hb_xs];simp
   have K_xs6:RowKit.Hid ((w3x.alloc (.cells #[.int .i64 x.kind, .int .i64 x.n, .string x.s, .slice a_x x.args.length c_x] 28)).heap[b_xs]?=some (.cells #[.int .i64 x.kind, .int .i64 x.n, .string x.s, .slice a_x x.args.length c_x] 28 (0,0))):=zh (by have e:b_xs=(w3x).heap.size:=(by first|exact hb_xs|(rw [hb_xs];simp));have e2:=heap_alloc_new (w3x) (.cells #[.int .i64 x.kind, .int .i64 x.n, .string x.s, .slice a_x x.args.length c_x] 28);rw [←e] at e2;exact e2)
   have hz7:=hs6.size
   have K_r7:=zh ((hs6.block w.heap.size (by omega) (fun f=>f)).trans K_r4.out)
   have K_t7:=zh ((hs6.block b_t (by omega) (fun f=>f)).trans K_t4.out)
   have X_x7:RowKit.Hid (rX (fun k=>wc.heap.size≤k∧k<w3x.heap.size) (w3x.alloc (.cells #[.int .i64 x.kind, .int .i64 x.n, .string x.s, .slice a_x x.args.length c_x] 28)) [.int .i64 x.kind, .int .i64 x.n, .string x.s, .slice a_x x.args.length c_x] x):=zh (Good.keep (R:=rX) ⟨hs6.size,fun k hk hS=>hs6.block k hk (fun f=>f)⟩ (fun _ _ h=>h) X_x3.out)
   have H7:=zh (H4.out.later hs6)
   have B7:=zh (B4.out.later hs6)
   have S7:RowKit.Hid (Since (fun k=>k=br) w (w3x.alloc (.cells #[.int .i64 x.kind, .int .i64 x.n, .string x.s, .slice a_x x.args.length c_x] 28))):=zh (S4.out.trans (hs6.mono (fun _ f=>f.elim)))
   have hs8:Since (fun _=>False) (w3x.alloc (.cells #[.int .i64 x.kind, .int .i64 x.n, .string x.s, .slice a_x x.args.length c_x] 28)) ((w3x.alloc (.cells #[.int .i64 x.kind, .int .i64 x.n, .string x.s, .slice a_x x.args.length c_x] 28)).alloc (.cells #[.int .i64 5, .string ⟨#[]⟩, .string ⟨#[]⟩, .slice (some ⟨b_xs,0,none⟩) 1 1, .slice none 0 0, .slice none 0 0, .slice none 0 0] 32)):=Since.alloc _ _ _
   have hw8:((w3x.alloc (.cells #[.int .i64 x.kind, .int .i64 x.n, .string x.s, .slice a_x x.args.length c_x] 28)).alloc (.cells #[.int .i64 5, .string ⟨#[]⟩, .string ⟨#[]⟩, .slice (some ⟨b_xs,0,none⟩) 1 1, .slice none 0 0, .slice none 0 0, .slice none 0 0] 32)).heap.size=b_s+1:=by rw [hb_s];simp
   have K_s8:RowKit.Hid (((w3x.alloc (.cells #[.int .i64 x.kind, .int .i64 x.n, .string x.s, .slice a_x x.args.length c_x] 28)).alloc (.cells #[.int .i64 5, .string ⟨#[]⟩, .string ⟨#[]⟩, .slice (some ⟨b_xs,0,none⟩) 1 1, .slice none 0 0, .slice none 0 0, .slice none 0 0] 32)).heap[b_s]?=some (.cells #[.int .i64 5, .string ⟨#[]⟩, .string ⟨#[]⟩, .slice (some ⟨b_xs,0,none⟩) 1 1, .slice none 0 0, .slice none 0 0, .slice none 0 0] 32 (0,0))):=zh (by have e:b_s=(w3x.alloc (.cells #[.int .i64 x.kind, .int .i64 x.n, .string x.s, .slice a_x x.args.length c_x] 28)).heap.size:=(by first|exact hb_s|(rw [hb_s];simp));have e2:=heap_alloc_new (w3x.alloc (.cells #[.int .i64 x.kind, .int .i64 x.n, .string x.s, .slice a_x x.args.length c_x] 28)) (.cells #[.int .i64 5, .string ⟨#[]⟩, .string ⟨#[]⟩, .slice (some ⟨b_xs,0,none⟩) 1 1, .slice none 0 0, .slice none 0 0, .slice none 0 0] 32);rw [←e] at e2;exact e2)
   have hz9:=hs8.size
   have K_r9:=zh ((hs8.block w.heap.size (by omega) (fun f=>f)).trans K_r7.out)
   have K_t9:=zh ((hs8.block b_t (by omega) (fun f=>f)).trans K_t7.out)
   have K_xs9:=zh ((hs8.block b_xs (by omega) (fun f=>f)).trans K_xs6.out)
   have X_x9:RowKit.Hid (rX (fun k=>wc.heap.size≤k∧k<w3x.heap.size) ((w3x.alloc (.cells #[.int .i64 x.kind, .int .i64 x.n, .string x.s, .slice a_x x.args.length c_x] 28)).alloc (.cells #[.int .i64 5, .string ⟨#[]⟩, .string ⟨#[]⟩, .slice (some ⟨b_xs,0,none⟩) 1 1, .slice none 0 0, .slice none 0 0, .slice none 0 0] 32)) [.int .i64 x.kind, .int .i64 x.n, .string x.s, .slice a_x x.args.length c_x] x):=zh (Good.keep (R:=rX) ⟨hs8.size,fun k hk hS=>hs8.block k hk (fun f=>f)⟩ (fun _ _ h=>h) X_x7.out)
   have H9:=zh (H7.out.later hs8)
   have B9:=zh (B7.out.later hs8)
   have S9:RowKit.Hid (Since (fun k=>k=br) w ((w3x.alloc (.cells #[.int .i64 x.kind, .int .i64 x.n, .string x.s, .slice a_x x.args.length c_x] 28)).alloc (.cells #[.int .i64 5, .string ⟨#[]⟩, .string ⟨#[]⟩, .slice (some ⟨b_xs,0,none⟩) 1 1, .slice none 0 0, .slice none 0 0, .slice none 0 0] 32))):=zh (S7.out.trans (hs8.mono (fun _ f=>f.elim)))
   have ho_xs:b_xs<b_s:=by omega
   have hl_xs:w3x.heap.size≤b_xs:=by omega
   have hl_s:w3x.heap.size≤b_s:=by omega
   go_wp2_with fail
   rw [←hb_s]
   rw [←hb_xs]
   clear hb_xs
   clear hb_s
   generalize (w3x.alloc (.cells #[.int .i64 x.kind, .int .i64 x.n, .string x.s, .slice a_x x.args.length c_x] 28)).alloc (.cells #[.int .i64 5, .string ⟨#[]⟩, .string ⟨#[]⟩, .slice (some ⟨b_xs,0,none⟩) 1 1, .slice none 0 0, .slice none 0 0, .slice none 0 0] 32)=wg10 at *
   refine (hK wg10 br bT cap base T st3 H9.out B9.out D5.out).mono ?_
   rintro en w11x ⟨v11,l,st11,rfl,hx11,h11,hs11,hg11⟩
   obtain ⟨a_l,c_l,rfl⟩:=rSs_shape hx11
   have hz12:=hs11.size
   have K_r12:=zh ((hs11.block w.heap.size (by omega) (by omega)).trans K_r9.out)
   have K_t12:=zh ((hs11.block b_t (by omega) (by omega)).trans K_t9.out)
   have K_xs12:=zh ((hs11.block b_xs (by omega) (by omega)).trans K_xs9.out)
   have K_s12:=zh ((hs11.block b_s (by omega) (by omega)).trans K_s8.out)
   have X_x12:RowKit.Hid (rX (fun k=>wc.heap.size≤k∧k<w3x.heap.size) (w11x) [.int .i64 x.kind, .int .i64 x.n, .string x.s, .slice a_x x.args.length c_x] x):=zh (Good.keep (R:=rX) ⟨hs11.size,fun k hk hS=>hs11.block k hk (by omega)⟩ (fun _ _ h=>h) X_x9.out)
   have H12:=zh h11
   have B12:=zh (B9.out.box hs11)
   have S12:=zh (S9.out.trans hs11)
   have X_l11:RowKit.Hid (rSs (fun k=>wg10.heap.size≤k∧k<w11x.heap.size) w11x [.slice a_l l.length c_l] l):=zh (Good.wide (R:=rSs) hx11 (fun k h1 h2=>⟨h2,h1⟩))
   clear hx11
   have R13:=zh (hg11.next R5.out)
   have D13:=zh (show st11.fault=0→st11.depth=30 - (d:Int) from fun e=>hg11.dep_eq e)
   clear h11 hs11 hg11
   have gs14_0:=ca0 K_s12.out
   have gs14_1:=ca1 K_s12.out
   have gs14_2:=ca2 K_s12.out
   have gs14_3:=ca3 K_s12.out
   have gs14_4:=ca4 K_s12.out
   have gs14_5:=ca5 K_s12.out
   have gs14_6:=ca6 K_s12.out
   have gs14_z:=cz K_s12.out
   have hs15:Since (fun k=>k=b_s) (w11x) (w11x.setCell ⟨b_s,4,none⟩ (.slice a_l l.length c_l)):=Since.setCell (w11x) ⟨b_s,4,none⟩ (.slice a_l l.length c_l)
   have K_s15:RowKit.Hid ((w11x.setCell ⟨b_s,4,none⟩ (.slice a_l l.length c_l)).heap[b_s]?=some (.cells #[.int .i64 5, .string ⟨#[]⟩, .string ⟨#[]⟩, .slice (some ⟨b_xs,0,none⟩) 1 1, .slice a_l l.length c_l, .slice none 0 0, .slice none 0 0] 32 (0,0))):=zh (by have:=box_set K_s12.out 4 (.slice a_l l.length c_l) (by simp);simpa using this)
   have hz16:=hs15.size
   have K_r16:=zh ((hs15.block w.heap.size (by omega) (by omega)).trans K_r12.out)
   have K_t16:=zh ((hs15.block b_t (by omega) (by omega)).trans K_t12.out)
   have K_xs16:=zh ((hs15.block b_xs (by omega) (by omega)).trans K_xs12.out)
   have X_x16:RowKit.Hid (rX (fun k=>wc.heap.size≤k∧k<w3x.heap.size) (w11x.setCell ⟨b_s,4,none⟩ (.slice a_l l.length c_l)) [.int .i64 x.kind, .int .i64 x.n, .string x.s, .slice a_x x.args.length c_x] x):=zh (Good.keep (R:=rX) ⟨hs15.size,fun k hk hS=>hs15.block k hk (by omega)⟩ (fun _ _ h=>h) X_x12.out)
   have X_l16:RowKit.Hid (rSs (fun k=>wg10.heap.size≤k∧k<w11x.heap.size) (w11x.setCell ⟨b_s,4,none⟩ (.slice a_l l.length c_l)) [.slice a_l l.length c_l] l):=zh (Good.keep (R:=rSs) ⟨hs15.size,fun k hk hS=>hs15.block k hk (by omega)⟩ (fun _ _ h=>h) X_l11.out)
   have H16:=zh (H12.out.since hs15 (by omega) (by omega))
   have B16:=zh (B12.out.since hs15 (fun k e=>by omega))
   have S16:=zh (S12.out.then_new hs15 (fun k e=>Or.inr (by omega)))
   go_upto_region 13 with fail
   clear gs14_0 gs14_1 gs14_2 gs14_3 gs14_4 gs14_5 gs14_6 gs14_z
   generalize w11x.setCell ⟨b_s,4,none⟩ (.slice a_l l.length c_l)=wg17 at *
   have gs18_0:=ca0 K_s15.out
   have gs18_1:=ca1 K_s15.out
   have gs18_2:=ca2 K_s15.out
   have gs18_3:=ca3 K_s15.out
   have gs18_4:=ca4 K_s15.out
   have gs18_5:=ca5 K_s15.out
   have gs18_6:=ca6 K_s15.out
   have gs18_z:=cz K_s15.out
   have gr19_0:=ca0 K_r16.out
   have gr19_1:=ca1 K_r16.out
   have gr19_2:=ca2 K_r16.out
   have gr19_3:=ca3 K_r16.out
   have gr19_4:=ca4 K_r16.out
   have gr19_5:=ca5 K_r16.out
   have gr19_6:=ca6 K_r16.out
   have gr19_z:=cz K_r16.out
   go_wp2_with fail
   obtain ⟨mb,ms⟩:=cells7 (w:=wg17) K_r16.out (.int .i64 5) (.string ⟨#[]⟩) (.string ⟨#[]⟩) (.slice (some ⟨b_xs,0,none⟩) 1 1) (.slice a_l l.length c_l) (.slice none 0 0) (.slice none 0 0)
   generalize hWW:((((((wg17.setCell ⟨w.heap.size,0,none⟩ (.int .i64 5)).setCell ⟨w.heap.size,1,none⟩ (.string ⟨#[]⟩)).setCell ⟨w.heap.size,2,none⟩ (.string ⟨#[]⟩)).setCell ⟨w.heap.size,3,none⟩ (.slice (some ⟨b_xs,0,none⟩) 1 1)).setCell ⟨w.heap.size,4,none⟩ (.slice a_l l.length c_l)).setCell ⟨w.heap.size,5,none⟩ (.slice none 0 0)).setCell ⟨w.heap.size,6,none⟩ (.slice none 0 0)=WW at *
   have m0:=ca0 mb
   have m1:=ca1 mb
   have m2:=ca2 mb
   have m3:=ca3 mb
   have m4:=ca4 mb
   have m5:=ca5 mb
   have m6:=ca6 mb
   refine bodyPost_ret (v:= .agg #[.int .i64 5, .string ⟨#[]⟩, .string ⟨#[]⟩, .slice (some ⟨b_xs,0,none⟩) 1 1, .slice a_l l.length c_l, .slice none 0 0, .slice none 0 0]) (by simp [results,Tryd.results62,go_sem,m0,m1,m2,m3,m4,m5,m6]) rfl ⟨_, .mk 5 ⟨#[]⟩ ⟨#[]⟩ [x] l [] [],st11,rfl,rS_mk 5 ⟨#[]⟩ ⟨#[]⟩ (ini rfl) (by decide) (by decide) (rXs_one (Good.keep (R:=rX) ⟨ms.size,fun k hk hS=>ms.block k hk (by omega)⟩ (fun k hk hS=>by omega) X_x16.out) ((ms.block b_xs (by omega) (by omega)).trans K_xs16.out) (show w.heap.size≤b_xs by omega) (by decide) (by decide)) (Good.keep (R:=rSs) ⟨ms.size,fun k hk hS=>ms.block k hk (by omega)⟩ (fun k hk hS=>by omega) X_l16.out) (rSs_nil _ _) (rCs_nil _ _),(H16.out).since ms (by omega) (by omega),(S16.out).then_new ms (fun k e=>Or.inr (by omega)),?_⟩
   exact Good'.end R13.out D13.out
end Go.Proofs.YtkopjgnjflhkeaaDoor

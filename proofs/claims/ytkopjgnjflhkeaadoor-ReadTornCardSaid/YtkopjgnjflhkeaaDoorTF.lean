import Derived.Test.YtkopjgnjflhkeaaDoorTZA
import Derived.Test.YtkopjgnjflhkeaaDoorTC
import Derived.Test.YtkopjgnjflhkeaaDoorTZB
import Derived.Test.YtkopjgnjflhkeaaDoorTZD
import Derived.Test.YtkopjgnjflhkeaaDoorTW
namespace Go.Proofs.YtkopjgnjflhkeaaDoor
open Go.RowKit Go.Pst
set_option linter.unusedVariables false
set_option linter.unusedSimpArgs false
variable {w:World} {br bT cap base:Nat} {T:List Tok} {st:RSt} {dep:Int}
def blkQ (d:Nat):PR (List PStmt):=match d with
 |0=>deepE
 |d+1=>fun r=>blkLoop (stmtR d) r.length [] r
theorem block_eq (d:Nat):blockR d=PR.bind (mustR ⟨#[123]⟩) fun _=>blkQ d:=by cases d<;>rfl
theorem blkQ_bad {d:Nat} {T:List Tok} {st st1:RSt} {Res:Except (Int × Int) (List PStmt × List Tok)} {dep:Int} (e:Res=runR T (blkQ d) st) (hg:Good' T dep (runR T (deepR d) st) () st1) (h1:st1.fault≠0):Res= .error (st1.pos,st1.fault):=by
 have e1:=hg.fault1 h1
 rw [e]
 by_cases hsf:st.fault=0
 ·
  rw [runR_ok hsf] at e1 ⊢
  unfold deepR at e1
  split at e1
  ·
   rename_i hz
   subst hz
   injection e1 with e1
   rw [←e1]
   rfl
  ·
   cases e1
 ·
  rw [runR_bad hsf] at e1 ⊢
  injection e1 with e1
  rw [e1]
theorem blkQ_ok {d:Nat} {T:List Tok} {st st1:RSt} {Res:Except (Int × Int) (List PStmt × List Tok)} {dep:Int} (e:Res=runR T (blkQ d) st) (hg:Good' T dep (runR T (deepR d) st) () st1) (h1:st1.fault=0): ∃ d',d=d'+1∧Res=runR T (blkLoop (stmtR d') (T.length - st1.i) []) st1:=by
 obtain ⟨e1,-⟩:=hg.fault0 h1
 have hsf:=hg.fault_of h1
 rw [runR_ok hsf] at e1
 have hdz:d≠0:=fun e=>by rw [e] at e1;cases e1
 obtain ⟨d',rfl⟩: ∃ d',d=d'+1:=⟨d - 1,by omega⟩
 refine ⟨d',rfl,?_⟩
 unfold deepR at e1
 rw [if_neg hdz] at e1
 injection e1 with e1
 injection e1 with _ e1
 rw [e,runR_ok hsf,runR_ok h1,←e1]
 show blkLoop (stmtR d') (T.drop st.i).length [] (T.drop st.i)=_
 rw [e1,List.length_drop]
theorem upDs {α:Type} {T:List Tok} {d d':Nat} {Res:Except (Int × Int) (α × List Tok)} {x:α} {st:RSt} (e:Res=runR T (PR.ret x) st) (hd:st.fault=0→st.depth=30 - (d':Int)) (hdd:(d:Int)=d'+1) (h30:d≤30):Good' T (30 - (d:Int)) Res x st.up:=by
 have h:=Good'.end e hd
 have:=h.up (by omega) (by omega)
 rw [show (30:Int) - (d:Int)=30 - (d':Int) - 1 by omega]
 exact this
set_option maxRecDepth 4000 in
set_option maxHeartbeats 8000000 in
theorem readBlock_any (d:Nat) (hd30:d≤30) (hSt: ∀ d',d=d'+1→StmtOK d'):BlockOK d:=by
 intro w br bT cap base T st h hL hd
 obtain ⟨ix,ii0,iz0,iz1,iz2⟩:=info_parts infoS
 have hbr:=h.lt.1
 have hbT:=h.lt.2
 have hlb:=hL.lb.2
 obtain ⟨Res,hres⟩: ∃ Res,Res=runR T (blockR d) st:=⟨_,rfl⟩
 rw [←hres]
 rw [block_eq] at hres
 have hs0:Since (fun _=>False) w (w.alloc (.cells #[.pointer (some ⟨br,0,none⟩)] 46)):=Since.alloc _ _ _
 have hb0:(w.alloc (.cells #[.pointer (some ⟨br,0,none⟩)] 46)).heap[w.heap.size]?=some (.cells #[.pointer (some ⟨br,0,none⟩)] 46 (0,0)):=heap_alloc_new w _
 have hA:=h.later hs0
 have hB:=hL.later hs0
 have hlt0:w.heap.size<(w.alloc (.cells #[.pointer (some ⟨br,0,none⟩)] 46)).heap.size:=by simp
 have HA:=zh hA
 have HB:=zh hB
 have K_p0:=zh hb0
 have S0:=zh (show Since (fun k=>k=br) w (w.alloc (.cells #[.pointer (some ⟨br,0,none⟩)] 46)) from hs0.mono (fun _ f=>f.elim))
 have D0:=zh hd
 have R0:=zh hres
 clear h hL hA hB hb0 hs0 hres hd
 go_enter_defers Tryd.func28,Tryd.ntmps28
 go_wp2_with fail
 generalize w.alloc (.cells #[.pointer (some ⟨br,0,none⟩)] 46)=w0 at *
 refine (readMust_any HA.out D0.out ⟨#[123]⟩).mono ?_
 rintro en w1x ⟨st1,rfl,h1,hs1,hg1⟩
 have hz2:=hs1.size
 have K_p2:=zh ((hs1.block w.heap.size (by omega) (by omega)).trans K_p0.out)
 have H2:=zh h1
 have B2:=zh (HB.out.box hs1)
 have S2:=zh (S0.out.trans hs1)
 have R3:=zh (hg1.next R0.out)
 have D3:=zh (show st1.fault=0→st1.depth=30 - (d:Int) from fun e=>hg1.dep_eq e)
 clear h1 hs1 hg1
 have gp4_0:=ca0 K_p2.out
 have gp4_z:=cz K_p2.out
 go_wp2_with fail
 clear gp4_0 gp4_z
 refine (readDeeper_any H2.out d D3.out hd30).mono ?_
 rintro en w5x ⟨st5,rfl,h5,hs5,hg5⟩
 have hz6:=hs5.size
 have K_p6:=zh ((hs5.block w.heap.size (by omega) (by omega)).trans K_p2.out)
 have H6:=zh h5
 have B6:=zh (B2.out.box hs5)
 have S6:=zh (S2.out.trans hs5)
 have Hg5:=zh hg5
 clear h5 hs5 hg5
 have hbad:=fun hf:st5.fault≠0=>blkQ_bad R3.out Hg5.out hf
 have hok:=fun hf:st5.fault=0=>blkQ_ok R3.out Hg5.out hf
 have hdp:=fun hf:st5.fault=0=>Hg5.out.dep_eq hf
 have Hbad:=zh hbad
 have Hok:=zh hok
 have Hdp:=zh hdp
 clear hbad hok hdp
 by_cases hf:st5.fault=0
 ·
  have f0:(st5.fault==0)=true:=by simpa using hf
  obtain ⟨d',hdd,hR⟩:=Hok.out hf
  have Hst:=zh (hSt d' hdd)
  have Hd1:=zh (show st5.depth=30 - (d':Int) by have:=Hdp.out hf;omega)
  have RR:=zh hR
  have Hdd:=zh hdd
  have Hf:=zh hf
  clear hf hR hdd
  have hT:=H6.out.toks.len
  obtain ⟨B0,hB0⟩: ∃ B0,B0=w5x.heap.size:=⟨_,rfl⟩
  have hsB:w.heap.size<B0:=by omega
  have hB0':B0≤w5x.heap.size:=by omega
  clear hB0
  have gp7_0:=ca0 K_p6.out
  have gp7_z:=cz K_p6.out
  go_wp2_with fail
  clear gp7_0 gp7_z
  go_loopg [3] (T.length - st5.i) (fun k v wr=> ∃ (out:List PStmt) (sc:RSt),RdAt wr br bT cap T sc∧RdLaid wr base br∧Since (fun k=>k=br) w wr∧wr.heap[w.heap.size]?=some (.cells #[.pointer (some ⟨br,0,none⟩)] 46 (0,0))∧RowG rStmt 7 wr B0 v out 32∧B0≤wr.heap.size∧out.length+k≤T.length∧Res=runR T (blkLoop (stmtR d') k out) sc∧(sc.fault=0→T.length - sc.i≤k∧sc.depth=30 - (d':Int)))
  case atStart=>exact ⟨[],st5,H6.out,B6.out,S6.out,K_p6.out,RowG.nil _ _ _ _ _,hB0',by simp,RR.out,fun e=>⟨Nat.le_refl _,Hd1.out⟩⟩
  case round=>
   obtain ⟨out,sc,hA,hB,hS,kp,⟨ess,hown,DD,hall⟩,hbw,hlen,hR,hF⟩:=hrel
   obtain ⟨aC,cC,rfl,hcc1,hcc2⟩:=row_slice hown
   have c3:=hA.c3
   have Hreads:=zh (RowG.reads (R:=rStmt) ⟨ess,hown,DD,hall⟩)
   have H9:=zh hA
   have B9:=zh hB
   have S9:=zh hS
   have K_p9:=zh kp
   have Hown:=zh hown
   have Hall:=zh hall
   have HR:=zh hR
   have HF:=zh hF
   clear hA hB hS kp hown hall hR hF
   have Q0:=zh (Since.refl (fun k=>k=br) wr)
   by_cases h0:sc.fault=0
   ·
    have f0:(sc.fault==0)=true:=by simpa using h0
    have hi:=H9.out.inn h0
    obtain ⟨k',rfl⟩: ∃ k',gk=k'+1:=⟨gk - 1,by have:=(HF.out h0).1;omega⟩
    have H0a:=zh h0
    have RA:=zh (show Res=runR T (branchR ⟨#[125]⟩ (PR.ret out) fun r=>if (headR r).kind=101 then .error ((headR r).pos,5) else PR.bind (stmtR d') (fun s=>blkLoop (stmtR d') k' (out++[s])) r) sc from HR.out)
    have DA:=zh (show sc.fault=0→sc.depth=30 - (d':Int) from fun e=>(HF.out e).2)
    clear h0 hi
    have gp8_0:=ca0 K_p9.out
    have gp8_z:=cz K_p9.out
    go_wp2_with fail
    clear gp8_0 gp8_z
    refine (readIs_any H9.out DA.out ⟨#[125]⟩).mono ?_
    rintro en w9x ⟨b9,st9,rfl,h9,hs9,hg9,hf9,hy9,hn9⟩
    have hz10:=hs9.size
    have K_p10:=zh ((hs9.block w.heap.size (by omega) (by omega)).trans K_p9.out)
    have H10:=zh h9
    have B10:=zh (B9.out.box hs9)
    have S10:=zh (S9.out.trans hs9)
    have Q10:=zh (Q0.out.trans hs9)
    have D9i:=zh (show st9.fault=0→st9.depth=30 - (d':Int) from fun e=>hg9.dep_eq e)
    have Hf9:=zh hf9
    clear h9 hs9 hf9
    cases b9 with
    |true=>
     have R9i:=zh (hg9.yes RA.out)
     have Hy9:=zh (hy9 rfl).1
     have Hyi9:=zh (hy9 rfl).2
     clear hg9 hy9 hn9
     have hfin: ∀ w',RdAt w' br bT cap T st9.up→Since (fun k=>k=br) w9x w'→RdSs w br bT cap T (30 - (d:Int)) Res (.returned (.slice aC out.length cC)) w':=fun w' h' hs'=>⟨_,out,st9.up,rfl,(by obtain ⟨dd,hh⟩:=Hreads.out;exact ⟨dd,Good.keep (R:=rSlice 7 (rStmt dd)) (w':=w') ⟨Nat.le_trans Q10.out.size hs'.size,fun k hk hS=>(hs'.block k (Nat.lt_of_lt_of_le hk Q10.out.size) (by omega)).trans (Q10.out.block k hk (by omega))⟩ (fun k h1 h2=>by omega) hh⟩),h',S10.out.trans hs',upDs R9i.out D9i.out (by have:=Hdd.out;omega) hd30⟩
     have Hfin:=zh hfin
     clear hfin
     have gp11_0:=ca0 K_p10.out
     have gp11_z:=cz K_p10.out
     have Hpf:=zh gp11_0
     go_wp2_with fail
     refine readBlockDoor H10.out Hpf.out ?_ Hfin.out
     intro w' hs'
     simp [results,Tryd.results28,go_sem]
    |false=>
     have R9i:=zh (hg9.no RA.out)
     have Hn9:=zh (hn9 rfl)
     clear hg9 hy9 hn9
     obtain ⟨t,ht⟩: ∃ t,seeR T st9=t:=⟨_,rfl⟩
     have hpk:=readPeek_any H10.out
     rw [ht] at hpk
     obtain ⟨tk,ts,tn,tp⟩:=t
     have rf:Res=if tk=101 then .error (tp,5) else PR.bind (stmtR d') (fun s=>blkLoop (stmtR d') k' (out++[s])) (T.drop st9.i):=by
      rw [R9i.out,runR_ok (Hf9.out H0a.out)]
      try dsimp only
      rw [←seeR_head (Hf9.out H0a.out),ht]
     have RF:=zh rf
     have Hpk:=zh hpk
     clear rf hpk ht
     have gp11_0:=ca0 K_p10.out
     have gp11_z:=cz K_p10.out
     go_wp2_with fail
     refine Hpk.out.mono ?_
     rintro en w1z ⟨rfl,hs1z⟩
     simp only [tokC]
     clear gp11_0 gp11_z
     have hz12:=hs1z.size
     have K_p12:=zh ((hs1z.block w.heap.size (by omega) (fun f=>f)).trans K_p10.out)
     have H12:=zh (H10.out.later hs1z)
     have B12:=zh (B10.out.later hs1z)
     have S12:RowKit.Hid (Since (fun k=>k=br) w (w1z)):=zh (S10.out.trans (hs1z.mono (fun _ f=>f.elim)))
     have Q12:RowKit.Hid (Since (fun k=>k=br) wr (w1z)):=zh (Q10.out.trans (hs1z.mono (fun _ f=>f.elim)))
     clear hs1z
     by_cases e1:tk=101
     ·
      subst e1
      obtain ⟨b_t,hb_t⟩: ∃ b_t,b_t=w1z.heap.size:=⟨_,rfl⟩
      have hs13:Since (fun _=>False) (w1z) (w1z.alloc (.cells #[.int .u8 101, .string ts, .int .i64 tn, .int .i64 tp] 52)):=Since.alloc _ _ _
      have hw13:(w1z.alloc (.cells #[.int .u8 101, .string ts, .int .i64 tn, .int .i64 tp] 52)).heap.size=b_t+1:=by rw [hb_t];simp
      have K_t13:RowKit.Hid ((w1z.alloc (.cells #[.int .u8 101, .string ts, .int .i64 tn, .int .i64 tp] 52)).heap[b_t]?=some (.cells #[.int .u8 101, .string ts, .int .i64 tn, .int .i64 tp] 52 (0,0))):=zh (by have e:b_t=(w1z).heap.size:=(by first|exact hb_t|(rw [hb_t];simp));have e2:=heap_alloc_new (w1z) (.cells #[.int .u8 101, .string ts, .int .i64 tn, .int .i64 tp] 52);rw [←e] at e2;exact e2)
      have hz14:=hs13.size
      have K_p14:=zh ((hs13.block w.heap.size (by omega) (fun f=>f)).trans K_p12.out)
      have H14:=zh (H12.out.later hs13)
      have B14:=zh (B12.out.later hs13)
      have S14:RowKit.Hid (Since (fun k=>k=br) w (w1z.alloc (.cells #[.int .u8 101, .string ts, .int .i64 tn, .int .i64 tp] 52))):=zh (S12.out.trans (hs13.mono (fun _ f=>f.elim)))
      have Q14:RowKit.Hid (Since (fun k=>k=br) wr (w1z.alloc (.cells #[.int .u8 101, .string ts, .int .i64 tn, .int .i64 tp] 52))):=zh (Q12.out.trans (hs13.mono (fun _ f=>f.elim)))
      have hl_t:w1z.heap.size≤b_t:=by omega
      have gt15_0:=ca0 K_t13.out
      have gt15_1:=ca1 K_t13.out
      have gt15_2:=ca2 K_t13.out
      have gt15_3:=ca3 K_t13.out
      have gt15_z:=cz K_t13.out
      rw [hb_t] at gt15_0
      rw [hb_t] at gt15_1
      rw [hb_t] at gt15_2
      rw [hb_t] at gt15_3
      rw [hb_t] at gt15_z
      have gp16_0:=ca0 K_p14.out
      have gp16_z:=cz K_p14.out
      go_wp2_with fail
      clear gt15_0 gt15_1 gt15_2 gt15_3 gt15_z gp16_0 gp16_z
      rw [←hb_t]
      clear hb_t
      generalize w1z.alloc (.cells #[.int .u8 101, .string ts, .int .i64 tn, .int .i64 tp] 52)=wg17 at *
      refine (readWrong_any H14.out tp 5 (by decide)).mono ?_
      rintro en w18x ⟨rfl,h18,hs18⟩
      have hz19:=hs18.size
      have K_p19:=zh ((hs18.block w.heap.size (by omega) (by omega)).trans K_p14.out)
      have K_t19:=zh ((hs18.block b_t (by omega) (by omega)).trans K_t13.out)
      have H19:=zh h18
      have B19:=zh (B14.out.box hs18)
      have S19:=zh (S14.out.trans hs18)
      have Q19:=zh (Q14.out.trans hs18)
      clear h18 hs18
      have hfin: ∀ w',RdAt w' br bT cap T (st9.bad tp 5).up→Since (fun k=>k=br) w18x w'→RdSs w br bT cap T (30 - (d:Int)) Res (.returned (.slice none 0 0)) w':=fun w' h' hs'=>⟨_,[],(st9.bad tp 5).up,rfl,rSs_nil _ _,h',S19.out.trans hs',(by rw [RF.out,if_pos (by trivial),RSt.bad,if_pos (Hf9.out H0a.out)];exact ⟨rfl,rfl,by decide⟩)⟩
      have Hfin:=zh hfin
      clear hfin
      have gp20_0:=ca0 K_p19.out
      have gp20_z:=cz K_p19.out
      have Hpf:=zh gp20_0
      go_wp2_with fail
      refine readBlockDoor H19.out Hpf.out ?_ Hfin.out
      intro w' hs'
      simp [results,Tryd.results28,go_sem]
     ·
      have f1:(tk==101)=false:=by simp [e1]
      have E1:=zh e1
      clear e1
      have RH:=zh (show Res=runR T (PR.bind (stmtR d') (fun s=>blkLoop (stmtR d') k' (out++[s]))) st9 from by rw [RF.out,if_neg E1.out,runR_ok (Hf9.out H0a.out)])
      obtain ⟨b_t,hb_t⟩: ∃ b_t,b_t=w1z.heap.size:=⟨_,rfl⟩
      have hs13:Since (fun _=>False) (w1z) (w1z.alloc (.cells #[.int .u8 tk, .string ts, .int .i64 tn, .int .i64 tp] 52)):=Since.alloc _ _ _
      have hw13:(w1z.alloc (.cells #[.int .u8 tk, .string ts, .int .i64 tn, .int .i64 tp] 52)).heap.size=b_t+1:=by rw [hb_t];simp
      have K_t13:RowKit.Hid ((w1z.alloc (.cells #[.int .u8 tk, .string ts, .int .i64 tn, .int .i64 tp] 52)).heap[b_t]?=some (.cells #[.int .u8 tk, .string ts, .int .i64 tn, .int .i64 tp] 52 (0,0))):=zh (by have e:b_t=(w1z).heap.size:=(by first|exact hb_t|(rw [hb_t];simp));have e2:=heap_alloc_new (w1z) (.cells #[.int .u8 tk, .string ts, .int .i64 tn, .int .i64 tp] 52);rw [←e] at e2;exact e2)
      have hz14:=hs13.size
      have K_p14:=zh ((hs13.block w.heap.size (by omega) (fun f=>f)).trans K_p12.out)
      have H14:=zh (H12.out.later hs13)
      have B14:=zh (B12.out.later hs13)
      have S14:RowKit.Hid (Since (fun k=>k=br) w (w1z.alloc (.cells #[.int .u8 tk, .string ts, .int .i64 tn, .int .i64 tp] 52))):=zh (S12.out.trans (hs13.mono (fun _ f=>f.elim)))
      have Q14:RowKit.Hid (Since (fun k=>k=br) wr (w1z.alloc (.cells #[.int .u8 tk, .string ts, .int .i64 tn, .int .i64 tp] 52))):=zh (Q12.out.trans (hs13.mono (fun _ f=>f.elim)))
      have hl_t:w1z.heap.size≤b_t:=by omega
      have gt15_0:=ca0 K_t13.out
      have gt15_1:=ca1 K_t13.out
      have gt15_2:=ca2 K_t13.out
      have gt15_3:=ca3 K_t13.out
      have gt15_z:=cz K_t13.out
      rw [hb_t] at gt15_0
      rw [hb_t] at gt15_1
      rw [hb_t] at gt15_2
      rw [hb_t] at gt15_3
      rw [hb_t] at gt15_z
      have gp16_0:=ca0 K_p14.out
      have gp16_z:=cz K_p14.out
      go_wp2_with fail
      clear gt15_0 gt15_1 gt15_2 gt15_3 gt15_z gp16_0 gp16_z
      rw [←hb_t]
      clear hb_t
      generalize w1z.alloc (.cells #[.int .u8 tk, .string ts, .int .i64 tn, .int .i64 tp] 52)=wg17 at *
      refine (Hst.out wg17 br bT cap base T st9 H14.out B14.out (Hf9.out H0a.out) (D9i.out (Hf9.out H0a.out))).mono ?_
      rintro en w18x ⟨cs18,s,st18,rfl,hx18,h18,hs18,hg18⟩
      obtain ⟨a3_s,c3_s,a4_s,c4_s,a5_s,c5_s,a6_s,c6_s,rfl⟩:=rS_shape hx18
      have hz19:=hs18.size
      have K_p19:=zh ((hs18.block w.heap.size (by omega) (by omega)).trans K_p14.out)
      have K_t19:=zh ((hs18.block b_t (by omega) (by omega)).trans K_t13.out)
      have H19:=zh h18
      have B19:=zh (B14.out.box hs18)
      have S19:=zh (S14.out.trans hs18)
      have Q19:=zh (Q14.out.trans hs18)
      have X_s18:RowKit.Hid (rS (fun k=>wg17.heap.size≤k∧k<w18x.heap.size) w18x [.int .i64 s.kind, .string s.s, .string s.t, .slice a3_s s.exprs.length c3_s, .slice a4_s s.body.length c4_s, .slice a5_s s.els.length c5_s, .slice a6_s s.cases.length c6_s] s):=zh (Good.wide (R:=rS) hx18 (fun k h1 h2=>⟨h2,h1⟩))
      clear hx18
      have hgS:Good' T (30 - (d':Int)) (runR T (stmtR d') st9) s st18:=by rw [runR_ok (Hf9.out H0a.out)];exact hg18
      have RS2:=zh (hgS.next RH.out)
      have HgS:=zh hgS
      clear h18 hs18 hg18 hgS
      have hown4:=Q19.out.row Hown.out (fun k e f=>by have:=(Hown.out.lt k e).1;omega)
      obtain ⟨ds,hds⟩:=X_s18.out
      have hx4:rStmt ds (fun k=>wr.heap.size≤k) w18x [.int .i64 s.kind, .string s.s, .string s.t, .slice a3_s s.exprs.length c3_s, .slice a4_s s.body.length c4_s, .slice a5_s s.els.length c5_s, .slice a6_s s.cases.length c6_s] s:=Good.wide (R:=rStmt ds) hds (fun k _ h=>by omega)
      have Hown4:=zh hown4
      have Hx4:=zh hx4
      clear hown4 hds hx4
      have hbw4:B0≤w18x.heap.size:=by omega
      have gp20_0:=ca0 K_p19.out
      have gp20_z:=cz K_p19.out
      go_wp2_with (at_builtin;refine wpList_append_own_at _ rfl _ _ 29 rfl B0 32 ix _ 7 136 Tryd.underlying29 ii0 iz0 iz1 iz2 rfl (by decide) (.slice aC out.length cC) out.length ess.flatten rfl (Hown4.out.alloc _) ⟨w18x.heap.size,0,none⟩ 1 1 [.int .i64 s.kind, .string s.s, .string s.t, .slice a3_s s.exprs.length c3_s, .slice a4_s s.body.length c4_s, .slice a5_s s.els.length c5_s, .slice a6_s s.cases.length c6_s] rfl rfl (World.news_of_block (heap_alloc_new w18x _)) (by simp [Value.oneCell']) (by unfold maxLen;omega) (by omega) (by rw [World.size_alloc];omega) ?_;intro v5 w5 hown5 hg5 hnil5 hat5;clear hnil5;have HRow:=zh (RowG.push monoS Hown.out Hall.out Q19.out (fun k e=>by omega) Hx4.out rfl hown5 hg5 (by simpa using hat5) hbw);have Hs5:=zh ((Since.alloc (fun k=>(Value.slice aC out.length cC).ownBlock=some k) w18x _).trans (Since.grown hg5));obtain ⟨aW,cW,rfl,-,-⟩:=row_slice hown5;clear hown5 hg5 hat5)
      clear gp20_0 gp20_z
      have hz5:=Hs5.out.size
      go_roundg k'
      case measure=>omega
      case rel=>exact ⟨out++[s],st18,H19.out.since Hs5.out (fun f=>by have:=(Hown4.out.lt _ f).1;omega) (fun f=>by have:=(Hown4.out.lt _ f).1;omega),B19.out.since Hs5.out (fun k f=>by have:=(Hown4.out.lt _ f).1;omega),S19.out.then_new Hs5.out (fun k f=>Or.inr (by have:=(Hown4.out.lt _ f).1;omega)),(Hs5.out.block w.heap.size (by omega) (fun f=>by have:=(Hown4.out.lt _ f).1;omega)).trans K_p19.out,HRow.out,by omega,by simp;omega,RS2.out,fun e=>⟨by have l1:=HgS.out.shr (Shr.stmt d') e;have l2:=(HF.out H0a.out).1;have l3:=congrArg RSt.i Hn9.out;omega,HgS.out.dep_eq e⟩⟩
   ·
    have f0:(sc.fault==0)=false:=by simpa using h0
    have H0b:=zh h0
    clear h0
    have hfin: ∀ w',RdAt w' br bT cap T sc.up→Since (fun k=>k=br) wr w'→RdSs w br bT cap T (30 - (d:Int)) Res (.returned (.slice aC out.length cC)) w':=fun w' h' hs'=>⟨_,out,sc.up,rfl,(by obtain ⟨dd,hh⟩:=Hreads.out;exact ⟨dd,Good.keep (R:=rSlice 7 (rStmt dd)) (w':=w') ⟨Nat.le_trans Q0.out.size hs'.size,fun k hk hS=>(hs'.block k (Nat.lt_of_lt_of_le hk Q0.out.size) (by omega)).trans (Q0.out.block k hk (by omega))⟩ (fun k h1 h2=>by omega) hh⟩),h',S9.out.trans hs',(by rw [HR.out,runR_bad H0b.out];exact ⟨rfl,rfl,H0b.out⟩)⟩
    have Hfin:=zh hfin
    clear hfin
    have gp8_0:=ca0 K_p9.out
    have gp8_z:=cz K_p9.out
    have Hpf:=zh gp8_0
    go_wp2_with fail
    refine readBlockDoor H9.out Hpf.out ?_ Hfin.out
    intro w' hs'
    simp [results,Tryd.results28,go_sem]
 ·
  have f0:(st5.fault==0)=false:=by simpa using hf
  have Hf:=zh hf
  clear hf
  have gp7_0:=ca0 K_p6.out
  have gp7_z:=cz K_p6.out
  go_wp2_with fail
  refine ⟨.slice none 0 0,by simp [results,Tryd.results28,go_sem],_,[],st5,rfl,rSs_nil _ _,H6.out,S6.out,?_⟩
  rw [Hbad.out Hf.out]
  exact ⟨rfl,rfl,Hf.out⟩
end Go.Proofs.YtkopjgnjflhkeaaDoor
namespace Go.Proofs.YtkopjgnjflhkeaaDoor
open Go.RowKit Go.Pst
set_option linter.unusedVariables false
theorem exprUnary_all: ∀ d,d≤30→ExprOK d∧UnaryOK d
 |0,h=>by
  have hE:ExprOK 0:=readExpr_any 0 h (fun d' e=>by omega)
  exact ⟨hE,readUnary_any 0 h (fun w br bT cap base T st h hL h0 hd=>readPrim_any 0 hE (readWord_any 0 hE) w br bT cap base T st h hL h0 hd) hE (fun d' e=>by omega)⟩
 |d+1,h=>by
  obtain ⟨hE',hU'⟩:=exprUnary_all d (by omega)
  have hE:ExprOK (d+1):=readExpr_any (d+1) h (fun d' e=>by
   obtain rfl:d=d':=by omega
   exact readLevel_any d hU' 0 (by decide))
  exact ⟨hE,readUnary_any (d+1) h (fun w br bT cap base T st h hL h0 hd=>readPrim_any (d+1) hE (readWord_any (d+1) hE) w br bT cap base T st h hL h0 hd) hE (fun d' e=>by
   obtain rfl:d=d':=by omega
   exact hU')⟩
theorem exprOK_all (d:Nat) (h:d≤30):ExprOK d:=(exprUnary_all d h).1
theorem blockIf_all: ∀ d,d≤30→BlockOK d∧IfOK d
 |0,h=>by
  have hK:BlockOK 0:=readBlock_any 0 h (fun d' e=>by omega)
  exact ⟨hK,readIf_any 0 h (exprOK_all 0 h) hK (fun d' e=>by omega)⟩
 |d+1,h=>by
  obtain ⟨hK',hI'⟩:=blockIf_all d (by omega)
  have hK:BlockOK (d+1):=readBlock_any (d+1) h (fun d' e=>by
   obtain rfl:d=d':=by omega
   exact readStmt_any d (exprOK_all d (by omega)) hK' hI')
  exact ⟨hK,readIf_any (d+1) h (exprOK_all (d+1) h) hK (fun d' e=>by
   obtain rfl:d=d':=by omega
   exact hI')⟩
theorem blockOK_all (d:Nat) (h:d≤30):BlockOK d:=(blockIf_all d h).1
end Go.Proofs.YtkopjgnjflhkeaaDoor

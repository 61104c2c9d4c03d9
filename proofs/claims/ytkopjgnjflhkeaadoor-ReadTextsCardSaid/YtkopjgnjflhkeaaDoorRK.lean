/-
  Texts joined: RdTyp.
-/
import Derived.Test.YtkopjgnjflhkeaaDoorRJ

/-
  The reader's typ and constant, walked.
-/
namespace Go.Proofs.YtkopjgnjflhkeaaDoor
open Go.RowKit Go.Pst
set_option linter.unusedVariables false
set_option linter.unusedSimpArgs false
variable {w : World} {br bT cap base : Nat} {T : List Tok} {st : RSt} {dep : Int}

set_option maxHeartbeats 1000000 in
theorem readTyp_any (h : RdAt w br bT cap T st) (hd : st.fault = 0 → st.depth = dep) :
    Calls Tryd.prog 27 #[.pointer (some ⟨br, 0, none⟩)] w fun en w' => ∃ (t : Int) (st' : RSt), en = .returned (.int .i64 t) ∧ (0 ≤ t ∧ t ≤ 5) ∧ RdAt w' br bT cap T st' ∧ Since (fun k => k = br) w w' ∧ Good' T dep (runR T typR st) t st' := by
  obtain ⟨Res, hres⟩ : ∃ Res, Res = runR T typR st := ⟨_, rfl⟩
  rw [← hres]
  have H0 := Lib.hid h
  have S0 := Lib.hid (Since.refl (fun k => k = br) w)
  have D0 := Lib.hid hd
  have R0 := Lib.hid hres
  clear h hd hres
  go_enter Tryd.func27, Tryd.ntmps27
  go_wp2_with fail
  refine (readIs_any H0.out D0.out ⟨#[105, 110, 116]⟩).mono ?_
  rintro en w1 ⟨b, st1, rfl, h1, hs1, hg1, -, -, -⟩
  have H1 := Lib.hid h1
  have S1 := Lib.hid (S0.out.trans hs1)
  have D1 := Lib.hid (show st1.fault = 0 → st1.depth = dep from fun e => hg1.dep_eq e)
  clear h1 hs1
  cases b with
  | true =>
    have R1 := Lib.hid (hg1.yes R0.out)
    clear hg1
    go_wp2_with fail
    go_ret
    exact ⟨1, st1, rfl, by decide, H1.out, S1.out, Good'.end R1.out D1.out⟩
  | false =>
    have R1 := Lib.hid (hg1.no R0.out)
    clear hg1
    go_wp2_with fail
    refine (readIs_any H1.out D1.out ⟨#[98, 111, 111, 108]⟩).mono ?_
    rintro en w2 ⟨b, st2, rfl, h2, hs2, hg2, -, -, -⟩
    have H2 := Lib.hid h2
    have S2 := Lib.hid (S1.out.trans hs2)
    have D2 := Lib.hid (show st2.fault = 0 → st2.depth = dep from fun e => hg2.dep_eq e)
    clear h2 hs2
    cases b with
    | true =>
      have R2 := Lib.hid (hg2.yes R1.out)
      clear hg2
      go_wp2_with fail
      go_ret
      exact ⟨2, st2, rfl, by decide, H2.out, S2.out, Good'.end R2.out D2.out⟩
    | false =>
      have R2 := Lib.hid (hg2.no R1.out)
      clear hg2
      go_wp2_with fail
      refine (readIs_any H2.out D2.out ⟨#[115, 116, 114, 105, 110, 103]⟩).mono ?_
      rintro en w3 ⟨b, st3, rfl, h3, hs3, hg3, -, -, -⟩
      have H3 := Lib.hid h3
      have S3 := Lib.hid (S2.out.trans hs3)
      have D3 := Lib.hid (show st3.fault = 0 → st3.depth = dep from fun e => hg3.dep_eq e)
      clear h3 hs3
      cases b with
      | true =>
        have R3 := Lib.hid (hg3.yes R2.out)
        clear hg3
        go_wp2_with fail
        go_ret
        exact ⟨3, st3, rfl, by decide, H3.out, S3.out, Good'.end R3.out D3.out⟩
      | false =>
        have R3 := Lib.hid (hg3.no R2.out)
        clear hg3
        go_wp2_with fail
        refine (readIs_any H3.out D3.out ⟨#[115, 108, 105, 99, 101]⟩).mono ?_
        rintro en w4 ⟨b, st4, rfl, h4, hs4, hg4, -, -, -⟩
        have H4 := Lib.hid h4
        have S4 := Lib.hid (S3.out.trans hs4)
        have D4 := Lib.hid (show st4.fault = 0 → st4.depth = dep from fun e => hg4.dep_eq e)
        clear h4 hs4
        cases b with
        | true =>
          have R4 := Lib.hid (hg4.yes R3.out)
          clear hg4
          go_wp2_with fail
          go_ret
          exact ⟨4, st4, rfl, by decide, H4.out, S4.out, Good'.end R4.out D4.out⟩
        | false =>
          have R4 := Lib.hid (hg4.no R3.out)
          clear hg4
          go_wp2_with fail
          refine (readIs_any H4.out D4.out ⟨#[109, 97, 112]⟩).mono ?_
          rintro en w5 ⟨b, st5, rfl, h5, hs5, hg5, -, -, -⟩
          have H5 := Lib.hid h5
          have S5 := Lib.hid (S4.out.trans hs5)
          have D5 := Lib.hid (show st5.fault = 0 → st5.depth = dep from fun e => hg5.dep_eq e)
          clear h5 hs5
          cases b with
          | true =>
            have R5 := Lib.hid (hg5.yes R4.out)
            clear hg5
            go_wp2_with fail
            go_ret
            exact ⟨5, st5, rfl, by decide, H5.out, S5.out, Good'.end R5.out D5.out⟩
          | false =>
            have R5 := Lib.hid (hg5.no R4.out)
            clear hg5
            go_wp2_with fail
            go_ret
            exact ⟨0, st5, rfl, by decide, H5.out, S5.out, Good'.end R5.out D5.out⟩

set_option maxHeartbeats 1000000 in
theorem readConst_any (h : RdAt w br bT cap T st) (hd : st.fault = 0 → st.depth = dep) :
    Calls Tryd.prog 75 #[.pointer (some ⟨br, 0, none⟩)] w fun en w' => ∃ (n : Int) (st' : RSt), en = .returned (.int .i64 n) ∧ InI n ∧ RdAt w' br bT cap T st' ∧ Since (fun k => k = br) w w' ∧ Good' T dep (runR T constR st) n st' := by
  obtain ⟨Res, hres⟩ : ∃ Res, Res = runR T constR st := ⟨_, rfl⟩
  rw [← hres]
  have H0 := Lib.hid h
  have D0 := Lib.hid hd
  have R0 := Lib.hid hres
  clear h hd hres
  go_enter Tryd.func75, Tryd.ntmps75
  go_wp2_with fail
  refine (readIs_any H0.out D0.out ⟨#[45]⟩).mono ?_
  rintro en w1 ⟨b, st1, rfl, h1, hs1, hg1, -, -, -⟩
  have hR1 := hg1.next R0.out
  have hd1 : st1.fault = 0 → st1.depth = dep := fun e => hg1.dep_eq e
  clear hg1
  obtain ⟨t, ht⟩ : ∃ t, seeR T st1 = t := ⟨_, rfl⟩
  have hts := seeR_size (T := T) (st := st1) h1.toks h1.inn
  have hpk := readPeek_any h1
  rw [ht] at hpk hts
  have hk1 : t.kind ≠ 101 → st1.fault = 0 := fun hk => see_fault (T := T) (st := st1) (by rw [ht]; exact hk)
  have hbr := h1.lt.1
  have hlen : st1.fault = 0 → (st1.i : Int) < 5000 := fun e => by have := h1.inn e; have := h1.toks.len; omega
  have H1 := Lib.hid h1
  have S1 := Lib.hid hs1
  have D1 := Lib.hid hd1
  have R1 := Lib.hid hR1
  have Hpk := Lib.hid hpk
  have Ht := Lib.hid ht
  have Hk1 := Lib.hid hk1
  have Hlen := Lib.hid hlen
  obtain ⟨tk, ts, tn, tp⟩ := t
  obtain ⟨hts1, hts2, hts3, hts4, hts5⟩ := hts
  dsimp only at hts2 hts3 hts4 hts5
  have Hts := Lib.hid hts3
  clear h1 hs1 hd1 hR1 hpk ht hk1 hlen hts1 hts3 hts2
  cases b with
  | true =>
    have R1' : Res = runR T (fun r => if (headR r).kind = 101 then .error ((headR r).pos, 5) else if (headR r).kind = 110 then .ok ((-1) * (headR r).n, r.tail) else .error ((headR r).pos, 4)) st1 := R1.out
    have R1'' : Res = if st1.fault = 0 then (if tk = 101 then .error (tp, 5) else if tk = 110 then .ok ((-1) * tn, (T.drop st1.i).tail) else .error (tp, 4)) else .error (st1.pos, st1.fault) := by
      rw [R1']
      by_cases h0 : st1.fault = 0
      · rw [runR_ok h0, if_pos h0, ← seeR_head h0, Ht.out]
      · rw [runR_bad h0, if_neg h0]
    have Hm : wrap64 ((-1) * tn) = (-1) * tn := by unfold wrap64; omega
    have R2 := Lib.hid R1''
    have Hm := Lib.hid Hm
    clear R1 R1' R1''
    go_wp2_with fail
    refine Hpk.out.mono ?_
    rintro en w2 ⟨rfl, hs2⟩
    simp only [tokC]
    obtain ⟨bp, hbp⟩ : ∃ bp, bp = w2.heap.size := ⟨_, rfl⟩
    have hPB : (w2.alloc (.cells #[.int .u8 tk, .string ts, .int .i64 tn, .int .i64 tp] 52)).heap[bp]? = some (.cells #[.int .u8 tk, .string ts, .int .i64 tn, .int .i64 tp] 52 (0, 0)) := by rw [hbp]; exact heap_alloc_new w2 _
    have sP : Since (fun _ => False) w1 (w2.alloc (.cells #[.int .u8 tk, .string ts, .int .i64 tn, .int .i64 tp] 52)) := hs2.trans (Since.alloc _ _ _)
    have hP1 := H1.out.later sP
    go_upto_region 5 with fail
    rw [← hbp]
    have hltp : br < bp := by have := hs2.size; omega
    generalize w2.alloc (.cells #[.int .u8 tk, .string ts, .int .i64 tn, .int .i64 tp] 52) = wP at *
    have p0 : wP.cell? ⟨bp, 0, none⟩ = some (.int .u8 tk) := by simp [World.cell?, hPB]
    have p2 : wP.cell? ⟨bp, 2, none⟩ = some (.int .i64 tn) := by simp [World.cell?, hPB]
    have p3 : wP.cell? ⟨bp, 3, none⟩ = some (.int .i64 tp) := by simp [World.cell?, hPB]
    have hltP : bp < wP.heap.size := (Array.getElem?_eq_some_iff.1 hPB).1
    have c1 := hP1.c1
    have cz := hP1.z 1
    have HP1 := Lib.hid hP1
    have SP := Lib.hid (S1.out.trans (sP.mono (fun _ f => f.elim)))
    clear sP hP1 hs2 hbp hPB
    by_cases e1 : tk = 101
    · have f1 : (tk == 101) = true := by simp [e1]
      have E1 := Lib.hid e1
      clear e1 c1
      go_wp2_with fail
      refine (readWrong_any HP1.out tp 5 (by decide)).mono ?_
      rintro en w3 ⟨rfl, h3, hs3⟩
      have p2 := (hs3.cell (b := bp) (o := 2) hltP (by omega)).trans p2
      have H3 := Lib.hid h3
      have S3 := Lib.hid (SP.out.trans hs3)
      clear h3 hs3
      go_wp2_with fail
      go_ret
      refine ⟨(-1) * tn, _, ?_, by constructor <;> omega, H3.out, S3.out, ?_⟩
      · first | rw [Hm.out] | (have := Hm.out; simp at this ⊢; first | done | exact this | omega)
      · rw [R2.out, if_pos E1.out]
        by_cases h0 : st1.fault = 0
        · rw [if_pos h0, RSt.bad, if_pos h0]; exact ⟨rfl, rfl, by decide⟩
        · rw [if_neg h0, RSt.bad, if_neg h0]; exact ⟨rfl, rfl, h0⟩
    · have f1 : (tk == 101) = false := by simp [e1]
      have E1 := Lib.hid e1
      have h0 := Hk1.out e1
      have hi := Hlen.out h0
      have H0' := Lib.hid h0
      clear e1 h0
      by_cases e2 : tk = 110
      · have f2 : (tk == 110) = true := by simp [e2]
        have E2 := Lib.hid e2
        clear e2
        have hset := HP1.out.step H0'.out (by rw [Ht.out]; exact E1.out)
        have sset : Since (fun k => k = br) wP (wP.setCell ⟨br, 1, none⟩ (.int .i64 ((st1.i : Int) + 1))) := Since.setCell wP ⟨br, 1, none⟩ _
        have p2 := (sset.cell (b := bp) (o := 2) hltP (by omega)).trans p2
        have H3 := Lib.hid hset
        have S3 := Lib.hid (SP.out.trans sset)
        clear hset sset
        go_wp2_with fail
        go_ret
        refine ⟨(-1) * tn, _, ?_, by constructor <;> omega, H3.out, S3.out, ?_⟩
        · first | rw [Hm.out] | (have := Hm.out; simp at this ⊢; first | done | exact this | omega)
        · rw [R2.out, if_pos H0'.out, if_neg E1.out, if_pos E2.out]; exact ⟨rfl, H0'.out, D1.out H0'.out, drop_tail _⟩
      · have f2 : (tk == 110) = false := by simp [e2]
        have E2 := Lib.hid e2
        clear e2 c1
        go_wp2_with fail
        refine (readWrong_any HP1.out tp 4 (by decide)).mono ?_
        rintro en w3 ⟨rfl, h3, hs3⟩
        have p2 := (hs3.cell (b := bp) (o := 2) hltP (by omega)).trans p2
        have H3 := Lib.hid h3
        have S3 := Lib.hid (SP.out.trans hs3)
        clear h3 hs3
        go_wp2_with fail
        go_ret
        refine ⟨(-1) * tn, _, ?_, by constructor <;> omega, H3.out, S3.out, ?_⟩
        · first | rw [Hm.out] | (have := Hm.out; simp at this ⊢; first | done | exact this | omega)
        · rw [R2.out, if_pos H0'.out, if_neg E1.out, if_neg E2.out, RSt.bad, if_pos H0'.out]; exact ⟨rfl, rfl, by decide⟩
  | false =>
    have R1' : Res = runR T (fun r => if (headR r).kind = 101 then .error ((headR r).pos, 5) else if (headR r).kind = 110 then .ok ((1) * (headR r).n, r.tail) else .error ((headR r).pos, 4)) st1 := R1.out
    have R1'' : Res = if st1.fault = 0 then (if tk = 101 then .error (tp, 5) else if tk = 110 then .ok ((1) * tn, (T.drop st1.i).tail) else .error (tp, 4)) else .error (st1.pos, st1.fault) := by
      rw [R1']
      by_cases h0 : st1.fault = 0
      · rw [runR_ok h0, if_pos h0, ← seeR_head h0, Ht.out]
      · rw [runR_bad h0, if_neg h0]
    have Hm : wrap64 ((1) * tn) = (1) * tn := by unfold wrap64; omega
    have R2 := Lib.hid R1''
    have Hm := Lib.hid Hm
    clear R1 R1' R1''
    go_wp2_with fail
    refine Hpk.out.mono ?_
    rintro en w2 ⟨rfl, hs2⟩
    simp only [tokC]
    obtain ⟨bp, hbp⟩ : ∃ bp, bp = w2.heap.size := ⟨_, rfl⟩
    have hPB : (w2.alloc (.cells #[.int .u8 tk, .string ts, .int .i64 tn, .int .i64 tp] 52)).heap[bp]? = some (.cells #[.int .u8 tk, .string ts, .int .i64 tn, .int .i64 tp] 52 (0, 0)) := by rw [hbp]; exact heap_alloc_new w2 _
    have sP : Since (fun _ => False) w1 (w2.alloc (.cells #[.int .u8 tk, .string ts, .int .i64 tn, .int .i64 tp] 52)) := hs2.trans (Since.alloc _ _ _)
    have hP1 := H1.out.later sP
    go_upto_region 5 with fail
    rw [← hbp]
    have hltp : br < bp := by have := hs2.size; omega
    generalize w2.alloc (.cells #[.int .u8 tk, .string ts, .int .i64 tn, .int .i64 tp] 52) = wP at *
    have p0 : wP.cell? ⟨bp, 0, none⟩ = some (.int .u8 tk) := by simp [World.cell?, hPB]
    have p2 : wP.cell? ⟨bp, 2, none⟩ = some (.int .i64 tn) := by simp [World.cell?, hPB]
    have p3 : wP.cell? ⟨bp, 3, none⟩ = some (.int .i64 tp) := by simp [World.cell?, hPB]
    have hltP : bp < wP.heap.size := (Array.getElem?_eq_some_iff.1 hPB).1
    have c1 := hP1.c1
    have cz := hP1.z 1
    have HP1 := Lib.hid hP1
    have SP := Lib.hid (S1.out.trans (sP.mono (fun _ f => f.elim)))
    clear sP hP1 hs2 hbp hPB
    by_cases e1 : tk = 101
    · have f1 : (tk == 101) = true := by simp [e1]
      have E1 := Lib.hid e1
      clear e1 c1
      go_wp2_with fail
      refine (readWrong_any HP1.out tp 5 (by decide)).mono ?_
      rintro en w3 ⟨rfl, h3, hs3⟩
      have p2 := (hs3.cell (b := bp) (o := 2) hltP (by omega)).trans p2
      have H3 := Lib.hid h3
      have S3 := Lib.hid (SP.out.trans hs3)
      clear h3 hs3
      go_wp2_with fail
      go_ret
      refine ⟨(1) * tn, _, ?_, by constructor <;> omega, H3.out, S3.out, ?_⟩
      · first | rw [Hm.out] | (have := Hm.out; simp at this ⊢; first | done | exact this | omega)
      · rw [R2.out, if_pos E1.out]
        by_cases h0 : st1.fault = 0
        · rw [if_pos h0, RSt.bad, if_pos h0]; exact ⟨rfl, rfl, by decide⟩
        · rw [if_neg h0, RSt.bad, if_neg h0]; exact ⟨rfl, rfl, h0⟩
    · have f1 : (tk == 101) = false := by simp [e1]
      have E1 := Lib.hid e1
      have h0 := Hk1.out e1
      have hi := Hlen.out h0
      have H0' := Lib.hid h0
      clear e1 h0
      by_cases e2 : tk = 110
      · have f2 : (tk == 110) = true := by simp [e2]
        have E2 := Lib.hid e2
        clear e2
        have hset := HP1.out.step H0'.out (by rw [Ht.out]; exact E1.out)
        have sset : Since (fun k => k = br) wP (wP.setCell ⟨br, 1, none⟩ (.int .i64 ((st1.i : Int) + 1))) := Since.setCell wP ⟨br, 1, none⟩ _
        have p2 := (sset.cell (b := bp) (o := 2) hltP (by omega)).trans p2
        have H3 := Lib.hid hset
        have S3 := Lib.hid (SP.out.trans sset)
        clear hset sset
        go_wp2_with fail
        go_ret
        refine ⟨(1) * tn, _, ?_, by constructor <;> omega, H3.out, S3.out, ?_⟩
        · first | rw [Hm.out] | (have := Hm.out; simp at this ⊢; first | done | exact this | omega)
        · rw [R2.out, if_pos H0'.out, if_neg E1.out, if_pos E2.out]; exact ⟨rfl, H0'.out, D1.out H0'.out, drop_tail _⟩
      · have f2 : (tk == 110) = false := by simp [e2]
        have E2 := Lib.hid e2
        clear e2 c1
        go_wp2_with fail
        refine (readWrong_any HP1.out tp 4 (by decide)).mono ?_
        rintro en w3 ⟨rfl, h3, hs3⟩
        have p2 := (hs3.cell (b := bp) (o := 2) hltP (by omega)).trans p2
        have H3 := Lib.hid h3
        have S3 := Lib.hid (SP.out.trans hs3)
        clear h3 hs3
        go_wp2_with fail
        go_ret
        refine ⟨(1) * tn, _, ?_, by constructor <;> omega, H3.out, S3.out, ?_⟩
        · first | rw [Hm.out] | (have := Hm.out; simp at this ⊢; first | done | exact this | omega)
        · rw [R2.out, if_pos H0'.out, if_neg E1.out, if_neg E2.out, RSt.bad, if_pos H0'.out]; exact ⟨rfl, rfl, by decide⟩
end Go.Proofs.YtkopjgnjflhkeaaDoor

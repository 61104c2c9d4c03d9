/-
  vm.function, vm.checkInvoke: contracts.
-/
import Derived.Test.YthgmaapebplimaaDoorVmRules
namespace Go.Proofs.YthgmaapebplimaaDoor
open Go.RowKit Go.Pst
set_option linter.unusedVariables false

theorem named3_answers (s : ByteArray) (fs : List PCode) (w : World) (blk : Nat) (hlt : blk < w.heap.size) (hc : w.cell? ⟨blk, 0, none⟩ = some (.string s)) :
    AnswersC Tryd.prog 31 #[.pointer (some ⟨blk, 0, none⟩)] (fun c => decide (c.name = s)) fs w := by
  intro x _ cs w' hx hb
  have hc' : w'.cell? ⟨blk, 0, none⟩ = some (.string s) := (hb.cell (p := ⟨blk, 0, none⟩) hlt).trans hc
  obtain ⟨v5, rfl, -, -⟩ := hx
  have hlt' : blk < w'.heap.size := Nat.lt_of_lt_of_le hlt hb.size
  by_cases h : x.name = s
  · have h1 := str_eq h
    have Hh := Lib.hid h
    clear h
    go_enter Tryd.func31, Tryd.ntmps31
    go_wp2_with fail
    go_ret
    exact ⟨by simp [Hh.out], (Below.refl _ _).alloc (Nat.le_refl _) _⟩
  · have h1 := str_ne h
    have Hh := Lib.hid h
    clear h
    go_enter Tryd.func31, Tryd.ntmps31
    go_wp2_with fail
    go_ret
    exact ⟨by simp [Hh.out], (Below.refl _ _).alloc (Nat.le_refl _) _⟩

set_option maxHeartbeats 400000 in
theorem vmFunction_any (s : ByteArray) (fs : List PCode) (v0 v1 : Value) (w : World) (h : rCodes (fun _ => True) w [v0] fs) :
    Calls Tryd.prog 19 #[.agg #[v0, v1], .string s] w fun e w' => e = .returned (.int .i64 (nameAt s fs)) ∧ Below w.heap.size w w' := by
  have h0 := h
  obtain ⟨a, cap, rfl, -⟩ := rCodes_val h
  have H := Lib.hid h0
  clear h h0
  have hent := enters_of (P := Tryd.prog) Tryd.func31 (by kernel_rfl) (by kernel_rfl)
  have Hent := Lib.hid hent
  clear hent
  go_enter Tryd.func19, Tryd.ntmps19
  go_wp2_with fail
  generalize hw0 : (w.alloc (.cells #[.slice a fs.length cap, v1] 25)).alloc (.cells #[.string s] 9) = w0
  have hbel : Below w.heap.size w w0 := by rw [← hw0]; exact below_box2 _ _ _
  have hsz : w0.heap.size = w.heap.size + 2 := by rw [← hw0]; simp
  have bn : w0.cell? ⟨w.heap.size + 1, 0, none⟩ = some (.string s) := by rw [← hw0, box2_2]; rfl
  clear hw0
  refine (indexFuncC_any 31 #[.pointer (some ⟨w.heap.size + 1, 0, none⟩)] (fun c => decide (c.name = s)) a fs cap w0 (Good.kept (Keep.of_below' hbel (fun k hk _ => hk)) H.out) Hent.out (named3_answers s fs w0 _ (by omega) bn)).mono ?_
  rintro e w1 ⟨rfl, hb1⟩
  have Hb := Lib.hid (hbel.trans (hb1.mono (by omega)))
  clear hb1 hbel bn
  go_wp2_with fail
  go_ret
  exact ⟨rfl, Hb.out⟩

set_option maxRecDepth 4000 in
set_option maxHeartbeats 1000000 in
theorem vmInvoke_any (fs : List PCode) (p0 p1 : Value) (x : PInstr) (xcs : List Value) (w : World) (hp : rCodes (fun _ => True) w [p0] fs) (hx : rInstr (fun _ => True) w xcs x) :
    Calls Tryd.prog 43 #[.agg #[p0, p1], .agg xcs.toArray] w fun e w' => e = .returned (.int .i64 (invokeFaultF fs x)) ∧ Below w.heap.size w w' := by
  obtain ⟨v1, v2, v6, rfl, -, h1, h2, -⟩ := hx
  obtain ⟨a1, c1, rfl, hcap1, hmax1, -⟩ := rInts_val h1
  obtain ⟨a1', c1', he1, hl1, hat1, -⟩ := rInts_open h1
  obtain ⟨rfl, rfl⟩ : a1 = a1' ∧ c1 = c1' := by simpa using he1
  clear he1
  unfold maxLen at hmax1
  obtain ⟨a2, c2, rfl, hl2, -, -⟩ := rInts_open h2
  obtain ⟨ap, cp, rfl, hcapp, hmaxp, hatp⟩ := rCodes_val hp
  unfold maxLen at hmaxp
  have Hat1 := Lib.hid hat1
  have Hatp := Lib.hid hatp
  have Hp := Lib.hid hp
  clear hat1 hatp h1 h2 hp
  go_enter Tryd.func43, Tryd.ntmps43
  go_wp2_with fail
  generalize hw0 : (w.alloc (.cells #[.slice ap fs.length cp, p1] 25)).alloc (.cells #[.int .i64 x.op, .slice a1 x.ds.length c1, .slice a2 x.as.length c2, .int .i64 x.n, .string x.s, v6] 36) = w0
  have hbel : Below w.heap.size w w0 := by rw [← hw0]; exact below_box2 _ _ _
  have hsz : w0.heap.size = w.heap.size + 2 := by rw [← hw0]; simp
  have bp0 : w0.cell? ⟨w.heap.size, 0, none⟩ = some (.slice ap fs.length cp) := by rw [← hw0, box2_1]; rfl
  have bx1 : w0.cell? ⟨w.heap.size + 1, 1, none⟩ = some (.slice a1 x.ds.length c1) := by rw [← hw0, box2_2]; rfl
  have bx2 : w0.cell? ⟨w.heap.size + 1, 2, none⟩ = some (.slice a2 x.as.length c2) := by rw [← hw0, box2_2]; rfl
  have bx4 : w0.cell? ⟨w.heap.size + 1, 4, none⟩ = some (.string x.s) := by rw [← hw0, box2_2]; rfl
  have hw0' := hw0
  clear hw0
  have hcal := vmFunction_any x.s fs (.slice ap fs.length cp) p1 w0 (Good.kept (Keep.of_below' hbel (fun k hk _ => hk)) Hp.out)
  have bp1 : w0.cell? ⟨w.heap.size, 1, none⟩ = some p1 := by rw [← hw0', box2_1]; rfl
  have Hcal := Lib.hid hcal
  clear hcal hw0'
  go_wp2_with fail
  refine (Hcal.out).mono ?_
  rintro e w1 ⟨rfl, hb1⟩
  have hl1' : Below w.heap.size w w1 := hbel.trans (hb1.mono (by omega))
  have bp0' := (hb1.cell (p := ⟨w.heap.size, 0, none⟩) (by show w.heap.size < w0.heap.size; omega)).trans bp0
  have bx1' := (hb1.cell (p := ⟨w.heap.size + 1, 1, none⟩) (by show w.heap.size + 1 < w0.heap.size; omega)).trans bx1
  have bx2' := (hb1.cell (p := ⟨w.heap.size + 1, 2, none⟩) (by show w.heap.size + 1 < w0.heap.size; omega)).trans bx2
  clear bp0 bp1 bx1 bx2 bx4 Hcal hb1 hbel
  have Hl1 := Lib.hid hl1'
  rcases firstOf_spec (fun c : PCode => decide (c.name = x.s)) fs 0 with ⟨hk, -⟩ | ⟨k, hkl, hk, -, -⟩
  · have Hk := Lib.hid (show nameAt x.s fs = -1 from hk)
    rw [Hk.out]
    clear hk
    go_wp2_with fail
    go_ret
    exact ⟨by rw [invokeFaultF_none Hk.out]; rfl, Hl1.out⟩
  · have hk' : firstOf (fun c : PCode => decide (c.name = x.s)) fs 0 = (k : Int) := by simpa using hk
    have Hk := Lib.hid (show nameAt x.s fs = (k : Int) from hk')
    rw [Hk.out]
    clear hk hk'
    obtain ⟨b, off, v5, rfl, -, hb, -, hcp, hcr, -⟩ := Hatp.out k hkl
    have hkl1 : (k : Int) < (fs.length : Int) := by omega
    have hcp' := (hl1'.cell (p := ⟨b, off + k * 6 + 1, none⟩) hb).trans hcp
    have hcr' := (hl1'.cell (p := ⟨b, off + k * 6 + 2, none⟩) hb).trans hcr
    have Hi := Lib.hid (invokeFaultF_some Hk.out hkl)
    have hat1 := Lib.hid (Hat1.out.below hl1')
    clear hcp hcr hb hl1'
    generalize fs[k] = y at *
    by_cases e1 : (x.as.length : Int) = y.params
    case neg =>
      have b1 : ((x.as.length : Int) != y.params) = true := by simpa using e1
      have E1 := Lib.hid e1
      clear e1
      go_wp2_with fail
      go_quiet (fail)
      go_wp2_with fail
      go_ret
      exact ⟨by rw [Hi.out, if_pos (Or.inl E1.out)]; rfl, Hl1.out.trans (Drawn.below (w := w1) ⟨_, rfl⟩ _)⟩
    have b1 : ((x.as.length : Int) != y.params) = false := by simpa using e1
    have E1 := Lib.hid e1
    clear e1
    by_cases e2 : (x.ds.length : Int) = y.results
    case neg =>
      have b2 : ((x.ds.length : Int) != y.results) = true := by simpa using e2
      have E2 := Lib.hid e2
      clear e2
      go_wp2_with fail
      go_quiet (fail)
      go_wp2_with fail
      go_ret
      exact ⟨by rw [Hi.out, if_pos (Or.inr E2.out)]; rfl, Hl1.out.trans (Drawn.below (w := w1) ⟨_, rfl⟩ _)⟩
    have b2 : ((x.ds.length : Int) != y.results) = false := by simpa using e2
    have E2 := Lib.hid e2
    clear e2
    have Hres := Lib.hid (show invokeFaultF fs x = if x.ds.Nodup then 0 else 7 by
      rw [Hi.out, if_neg (by intro h; exact h.elim (fun h => h E1.out) (fun h => h E2.out))])
    go_wp2_with fail
    go_quiet (fail)
    go_wp2_with fail
    go_loopw [39] (fun i wr => ∃ n : Nat, n ≤ x.ds.length ∧ i = .int .i64 n ∧ (x.ds.take n).Nodup ∧ Drawn w1 wr) (fun i _ => x.ds.length - (intOf i).toNat)
    case atStart => exact ⟨0, Nat.zero_le _, rfl, by simp, ⟨_, rfl⟩⟩
    case round =>
      obtain ⟨n, hn, rfl, hnd, hdr⟩ := hrel
      have Hnd := Lib.hid hnd
      clear hnd
      by_cases hnl : n < x.ds.length
      · have hnl1 : (n : Int) < (x.ds.length : Int) := by omega
        obtain ⟨b1, off1, rfl, hb1, hx1⟩ := hat1.out n hnl
        have hx1' : wr.cell? ⟨b1, off1 + n, none⟩ = some (.int .i64 x.ds[n]) := by rw [hdr.cell]; exact hx1
        have bx1r : wr.cell? ⟨w.heap.size + 1, 1, none⟩ = some (.slice (some ⟨b1, off1, none⟩) x.ds.length c1) := by rw [hdr.cell]; exact bx1'
        clear hx1
        have hcon := fun cc => contains_any x.ds[n] (some ⟨b1, off1, none⟩) (x.ds.take n) cc wr (by rw [List.length_take]; omega) (IntsAt.take (hat1.out.heap hdr.heap) n)
        rw [List.length_take, Nat.min_eq_left hn] at hcon
        have Hcon := Lib.hid hcon
        have Hstep := Lib.hid (nodup_step hnl Hnd.out)
        have Hno := Lib.hid (not_nodup_mem hnl)
        clear hcon
        have hnc : (n : Int) ≤ (c1 : Int) := by omega
        generalize x.ds[n] = q at *
        go_wp2_with fail
        refine (Hcon.out _).mono ?_
        rintro e w2 ⟨rfl, rfl⟩
        by_cases hm : q ∈ x.ds.take n
        · have hmb : decide (q ∈ x.ds.take n) = true := decide_eq_true hm
          have Hnn := Lib.hid (Hno.out hm)
          rw [hmb]
          clear hm hmb
          go_wp2_with fail
          go_ret
          exact ⟨by rw [Hres.out, if_neg Hnn.out]; rfl, Hl1.out.trans (hdr.below _)⟩
        · have hmb : decide (q ∈ x.ds.take n) = false := decide_eq_false hm
          have Hnn := Lib.hid (Hstep.out hm)
          rw [hmb]
          clear hm hmb
          go_wp2_with fail
          go_roundw
          case rel => exact ⟨n + 1, by omega, by go_num, Hnn.out, hdr⟩
          case measure => simp [intOf]; omega
      · have hne : n = x.ds.length := by omega
        have Hnn := Lib.hid (show x.ds.Nodup by have := Hnd.out; rw [hne, List.take_length] at this; exact this)
        subst hne
        clear Hnd
        go_wp2_with fail
        go_ret
        exact ⟨by rw [Hres.out, if_pos Hnn.out]; rfl, Hl1.out.trans (hdr.below _)⟩
end Go.Proofs.YthgmaapebplimaaDoor

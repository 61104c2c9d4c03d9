/-
  ir.checkInvoke: the contract.
-/
import Derived.Test.YthgfdcoicihpdaaDoorIrLaid
namespace Go.Proofs.YthgfdcoicihpdaaDoor
open Go.RowKit Go.Pst
set_option linter.unusedVariables false

theorem invokeFaultF_none {fs : List PCode} {i : PInstr} (h : nameAt i.s fs = -1) : invokeFaultF fs i = 6 := by unfold invokeFaultF; rw [h]; rfl
theorem invokeFaultF_some {fs : List PCode} {i : PInstr} {k : Nat} (h : nameAt i.s fs = (k : Int)) (hk : k < fs.length) :
    invokeFaultF fs i = if (i.ars.length : Int) ≠ fs[k].params ∨ (i.ds.length : Int) ≠ fs[k].results then 10 else if i.ds.Nodup then 0 else 7 := by
  unfold invokeFaultF
  rw [h, if_neg (by omega)]
  simp only [Int.toNat_natCast, List.getElem?_eq_getElem hk]
theorem IntsAt.take {w : World} {a : Option Addr} {l : List Int} (h : IntsAt w a l) (n : Nat) : IntsAt w a (l.take n) := by
  intro i hi
  rw [List.length_take] at hi
  obtain ⟨b, off, h1, h2, h3⟩ := h i (by omega)
  exact ⟨b, off, h1, h2, by rw [List.getElem_take]; exact h3⟩
theorem nodup_step {l : List Int} {n : Nat} (hn : n < l.length) (h : (l.take n).Nodup) (hne : ¬ l[n] ∈ l.take n) : (l.take (n + 1)).Nodup :=
  nodup_take_succ hn h (fun j hj e => hne (by
    rw [← e]
    exact List.mem_iff_getElem.2 ⟨j, by rw [List.length_take]; omega, by rw [List.getElem_take]⟩))
theorem not_nodup_mem {l : List Int} {n : Nat} (hn : n < l.length) (h : l[n] ∈ l.take n) : ¬ l.Nodup := by
  obtain ⟨j, hj, hje⟩ := List.mem_iff_getElem.1 h
  rw [List.length_take] at hj
  rw [List.getElem_take] at hje
  exact not_nodup_of hn (by omega) hje

set_option maxRecDepth 4000 in
set_option maxHeartbeats 1000000 in
theorem irInvoke_any (fs : List PCode) (p0 p1 : Value) (x : PInstr) (xcs : List Value) (w : World) (hp : rCodes (fun _ => True) w [p0] fs) (hx : rInstr (fun _ => True) w xcs x) :
    Calls Tryd.prog 49 #[.agg #[p0, p1], .agg xcs.toArray] w fun e w' => e = .returned (.int .i64 (invokeFaultF fs x)) ∧ Below w.heap.size w w' := by
  obtain ⟨v1, v2, v6, rfl, -, h1, h2, -⟩ := hx
  obtain ⟨a1, c1, rfl, hcap1, hmax1, -⟩ := rInts_val h1
  obtain ⟨a1', c1', he1, hl1, hat1, -⟩ := rInts_open h1
  obtain ⟨rfl, rfl⟩ : a1 = a1' ∧ c1 = c1' := by simpa using he1
  clear he1
  unfold maxLen at hmax1
  obtain ⟨a2, c2, rfl, hl2, -, -⟩ := rInts_open h2
  obtain ⟨ap, cp, rfl, hcapp, hmaxp, hatp⟩ := rCodes_val hp
  unfold maxLen at hmaxp
  have Hat1 := Lib.hid hat1
  have Hatp := Lib.hid hatp
  have Hp := Lib.hid hp
  have hent := enters_of (P := Tryd.prog) Tryd.func54 (by kernel_rfl) (by kernel_rfl)
  clear hat1 hatp h1 h2 hp
  go_enter Tryd.func49, Tryd.ntmps49
  go_wp2_with fail
  generalize hw0 : (w.alloc (.cells #[.slice ap fs.length cp, p1] 25)).alloc (.cells #[.int .i64 x.op, .slice a1 x.ds.length c1, .slice a2 x.ars.length c2, .int .i64 x.n, .string x.s, v6] 41) = w0
  have hbel : Below w.heap.size w w0 := by rw [← hw0]; exact below_box2 _ _ _
  have hsz : w0.heap.size = w.heap.size + 2 := by rw [← hw0]; simp
  have bp0 : w0.cell? ⟨w.heap.size, 0, none⟩ = some (.slice ap fs.length cp) := by rw [← hw0, box2_1]; rfl
  have bx1 : w0.cell? ⟨w.heap.size + 1, 1, none⟩ = some (.slice a1 x.ds.length c1) := by rw [← hw0, box2_2]; rfl
  have bx2 : w0.cell? ⟨w.heap.size + 1, 2, none⟩ = some (.slice a2 x.ars.length c2) := by rw [← hw0, box2_2]; rfl
  have bx4 : w0.cell? ⟨w.heap.size + 1, 4, none⟩ = some (.string x.s) := by rw [← hw0, box2_2]; rfl
  clear hw0
  have hans := named1_answers x.s fs w0 (w.heap.size + 1) (by omega) bx4
  have Hans := Lib.hid hans
  have Hent := Lib.hid hent
  have hcal := fun cc => indexFuncC_any 54 #[.pointer (some ⟨w.heap.size + 1, 0, none⟩)] (fun c => decide (c.name = x.s)) ap fs cc w0
  have Hcal := Lib.hid hcal
  clear hans hent hcal
  refine (Hcal.out _ (Good.kept (Keep.of_below' hbel (fun k hk _ => hk)) Hp.out) Hent.out Hans.out).mono ?_
  rintro e w1 ⟨rfl, hb1⟩
  have hl1' : Below w.heap.size w w1 := hbel.trans (hb1.mono (by omega))
  have bp0' := (hb1.cell (p := ⟨w.heap.size, 0, none⟩) (by show w.heap.size < w0.heap.size; omega)).trans bp0
  have bx1' := (hb1.cell (p := ⟨w.heap.size + 1, 1, none⟩) (by show w.heap.size + 1 < w0.heap.size; omega)).trans bx1
  have bx2' := (hb1.cell (p := ⟨w.heap.size + 1, 2, none⟩) (by show w.heap.size + 1 < w0.heap.size; omega)).trans bx2
  clear bp0 bx1 bx2 bx4 Hans Hent Hcal hb1 hbel
  have Hl1 := Lib.hid hl1'
  rcases firstOf_spec (fun c : PCode => decide (c.name = x.s)) fs 0 with ⟨hk, -⟩ | ⟨k, hkl, hk, -, -⟩
  · have Hk := Lib.hid (show nameAt x.s fs = -1 from hk)
    rw [hk]
    clear hk
    go_wp2_with fail
    go_ret
    exact ⟨by rw [invokeFaultF_none Hk.out]; rfl, Hl1.out⟩
  · have hk' : firstOf (fun c : PCode => decide (c.name = x.s)) fs 0 = (k : Int) := by simpa using hk
    have Hk := Lib.hid (show nameAt x.s fs = (k : Int) from hk')
    rw [hk']
    clear hk hk'
    obtain ⟨b, off, v5, rfl, -, hb, -, hcp, hcr, -⟩ := Hatp.out k hkl
    have hkl1 : (k : Int) < (fs.length : Int) := by omega
    have hcp' := (hl1'.cell (p := ⟨b, off + k * 6 + 1, none⟩) hb).trans hcp
    have hcr' := (hl1'.cell (p := ⟨b, off + k * 6 + 2, none⟩) hb).trans hcr
    have Hi := Lib.hid (invokeFaultF_some Hk.out hkl)
    have hat1 := Lib.hid (Hat1.out.below hl1')
    clear hcp hcr hb hl1'
    generalize fs[k] = y at *
    by_cases e1 : (x.ars.length : Int) = y.params
    case neg =>
      have b1 : ((x.ars.length : Int) != y.params) = true := by simpa using e1
      have E1 := Lib.hid e1
      clear e1
      go_wp2_with fail
      go_quiet (fail)
      go_wp2_with fail
      go_ret
      exact ⟨by rw [Hi.out, if_pos (Or.inl E1.out)]; rfl, Hl1.out.trans (Drawn.below (w := w1) ⟨_, rfl⟩ _)⟩
    have b1 : ((x.ars.length : Int) != y.params) = false := by simpa using e1
    have E1 := Lib.hid e1
    clear e1
    by_cases e2 : (x.ds.length : Int) = y.results
    case neg =>
      have b2 : ((x.ds.length : Int) != y.results) = true := by simpa using e2
      have E2 := Lib.hid e2
      clear e2
      go_wp2_with fail
      go_quiet (fail)
      go_wp2_with fail
      go_ret
      exact ⟨by rw [Hi.out, if_pos (Or.inr E2.out)]; rfl, Hl1.out.trans (Drawn.below (w := w1) ⟨_, rfl⟩ _)⟩
    have b2 : ((x.ds.length : Int) != y.results) = false := by simpa using e2
    have E2 := Lib.hid e2
    clear e2
    have Hres := Lib.hid (show invokeFaultF fs x = if x.ds.Nodup then 0 else 7 by
      rw [Hi.out, if_neg (by intro h; exact h.elim (fun h => h E1.out) (fun h => h E2.out))])
    go_wp2_with fail
    go_quiet (fail)
    go_wp2_with fail
    go_loopw [39] (fun i wr => ∃ n : Nat, n ≤ x.ds.length ∧ i = .int .i64 n ∧ (x.ds.take n).Nodup ∧ Drawn w1 wr) (fun i _ => x.ds.length - (intOf i).toNat)
    case atStart => exact ⟨0, Nat.zero_le _, rfl, by simp, ⟨_, rfl⟩⟩
    case round =>
      obtain ⟨n, hn, rfl, hnd, hdr⟩ := hrel
      have Hnd := Lib.hid hnd
      clear hnd
      by_cases hnl : n < x.ds.length
      · have hnl1 : (n : Int) < (x.ds.length : Int) := by omega
        obtain ⟨b1, off1, rfl, hb1, hx1⟩ := hat1.out n hnl
        have hx1' : wr.cell? ⟨b1, off1 + n, none⟩ = some (.int .i64 x.ds[n]) := by rw [hdr.cell]; exact hx1
        have bx1r : wr.cell? ⟨w.heap.size + 1, 1, none⟩ = some (.slice (some ⟨b1, off1, none⟩) x.ds.length c1) := by rw [hdr.cell]; exact bx1'
        clear hx1
        have hcon := fun cc => contains_any x.ds[n] (some ⟨b1, off1, none⟩) (x.ds.take n) cc wr (by rw [List.length_take]; omega) (IntsAt.take (hat1.out.heap hdr.heap) n)
        rw [List.length_take, Nat.min_eq_left hn] at hcon
        have Hcon := Lib.hid hcon
        have Hstep := Lib.hid (nodup_step hnl Hnd.out)
        have Hno := Lib.hid (not_nodup_mem hnl)
        clear hcon
        have hnc : (n : Int) ≤ (c1 : Int) := by omega
        generalize x.ds[n] = q at *
        go_wp2_with fail
        refine (Hcon.out _).mono ?_
        rintro e w2 ⟨rfl, rfl⟩
        by_cases hm : q ∈ x.ds.take n
        · have hmb : decide (q ∈ x.ds.take n) = true := decide_eq_true hm
          have Hnn := Lib.hid (Hno.out hm)
          rw [hmb]
          clear hm hmb
          go_wp2_with fail
          go_ret
          exact ⟨by rw [Hres.out, if_neg Hnn.out]; rfl, Hl1.out.trans (hdr.below _)⟩
        · have hmb : decide (q ∈ x.ds.take n) = false := decide_eq_false hm
          have Hnn := Lib.hid (Hstep.out hm)
          rw [hmb]
          clear hm hmb
          go_wp2_with fail
          go_roundw
          case rel => exact ⟨n + 1, by omega, by go_num, Hnn.out, hdr⟩
          case measure => simp [intOf]; omega
      · have hne : n = x.ds.length := by omega
        have Hnn := Lib.hid (show x.ds.Nodup by have := Hnd.out; rw [hne, List.take_length] at this; exact this)
        subst hne
        clear Hnd
        go_wp2_with fail
        go_ret
        exact ⟨by rw [Hres.out, if_pos Hnn.out]; rfl, Hl1.out.trans (hdr.below _)⟩
end Go.Proofs.YthgfdcoicihpdaaDoor

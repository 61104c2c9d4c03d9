/-
  The reference's CodeFault: the contract.
-/
import Derived.Test.YthgfdcoicihpdaaDoorInstrFault
import Derived.StillTailTactics
namespace Go.Proofs.YthgfdcoicihpdaaDoor
open Go.RowKit Go.Pst
set_option linter.unusedVariables false

set_option maxRecDepth 4000 in
set_option maxHeartbeats 2000000 in
theorem codeFault_any (fs : List PCode) (p0 p1 : Value) (c : PCode) (ccs : List Value) (w : World) (hp : rCodes (fun _ => True) w [p0] fs)
    (hc : rCode (fun _ => True) w ccs c) (hf : FitCode c) :
    Calls Tryd.prog 7 #[.agg #[p0, p1], .agg ccs.toArray] w fun e w' => e = .returned (.int .i64 (codeFaultF fs c)) ∧ Below w.heap.size w w' := by
  have hc0 := hc
  obtain ⟨v5, rfl, -, hbs⟩ := hc
  obtain ⟨a5, c5, rfl, hcap5, hmax5, hat⟩ := rSlice_one hbs
  unfold maxLen at hmax5
  have hnb : c.blocks.length ≤ 9223372036854775807 := by omega
  clear hbs hcap5 hmax5
  have Hc := Lib.hid hc0
  have Hat := Lib.hid hat
  have Hp := Lib.hid hp
  clear hc0 hat hp
  by_cases z : c.blocks.length = 0
  · have z1 : ((c.blocks.length : Int) == 0) = true := by simpa using z
    have Z := Lib.hid z
    clear z
    go_enter Tryd.func7, Tryd.ntmps7
    go_wp2_with fail
    go_ret
    exact ⟨by unfold codeFaultF; rw [if_pos Z.out]; rfl, below_box2 _ _ _⟩
  have z1 : ((c.blocks.length : Int) == 0) = false := by simpa using z
  have Z := Lib.hid z
  clear z
  by_cases s1 : 2000 < c.blocks.length
  · have b : decide ((c.blocks.length : Int) > 2000) = true := decide_eq_true (by omega)
    have S := Lib.hid s1
    clear s1
    go_enter Tryd.func7, Tryd.ntmps7
    go_wp2_with fail
    go_ret
    exact ⟨by unfold codeFaultF; rw [if_neg Z.out, if_pos (Or.inl S.out)]; rfl, below_box2 _ _ _⟩
  have bs1 : decide ((c.blocks.length : Int) > 2000) = false := decide_eq_false (by omega)
  have Hs1 := Lib.hid s1
  clear s1
  by_cases s2 : 3000 < c.vars
  · have b : decide (c.vars > 3000) = true := decide_eq_true (by omega)
    have S := Lib.hid s2
    clear s2
    go_enter Tryd.func7, Tryd.ntmps7
    go_wp2_with fail
    go_ret
    exact ⟨by unfold codeFaultF; rw [if_neg Z.out, if_pos (Or.inr (Or.inl S.out))]; rfl, below_box2 _ _ _⟩
  have bs2 : decide (c.vars > 3000) = false := decide_eq_false (by omega)
  have Hs2 := Lib.hid s2
  clear s2
  by_cases s3 : 16 < c.params
  · have b : decide (c.params > 16) = true := decide_eq_true (by omega)
    have S := Lib.hid s3
    clear s3
    go_enter Tryd.func7, Tryd.ntmps7
    go_wp2_with fail
    go_ret
    exact ⟨by unfold codeFaultF; rw [if_neg Z.out, if_pos (Or.inr (Or.inr (Or.inl S.out)))]; rfl, below_box2 _ _ _⟩
  have bs3 : decide (c.params > 16) = false := decide_eq_false (by omega)
  have Hs3 := Lib.hid s3
  clear s3
  by_cases s4 : 16 < c.results
  · have b : decide (c.results > 16) = true := decide_eq_true (by omega)
    have S := Lib.hid s4
    clear s4
    go_enter Tryd.func7, Tryd.ntmps7
    go_wp2_with fail
    go_ret
    exact ⟨by unfold codeFaultF; rw [if_neg Z.out, if_pos (Or.inr (Or.inr (Or.inr S.out)))]; rfl, below_box2 _ _ _⟩
  have bs4 : decide (c.results > 16) = false := decide_eq_false (by omega)
  have Hs4 := Lib.hid s4
  clear s4
  have hs := Lib.hid (show ¬ (2000 < c.blocks.length ∨ 3000 < c.vars ∨ 16 < c.params ∨ 16 < c.results) from fun h => h.elim Hs1.out (fun h => h.elim Hs2.out (fun h => h.elim Hs3.out Hs4.out)))
  by_cases r1 : c.params < 0
  · have b : decide (c.params < 0) = true := decide_eq_true (by omega)
    have S := Lib.hid r1
    clear r1
    go_enter Tryd.func7, Tryd.ntmps7
    go_wp2_with fail
    go_ret
    exact ⟨by unfold codeFaultF; rw [if_neg Z.out, if_neg hs.out, if_pos (Or.inl S.out)]; rfl, below_box2 _ _ _⟩
  have br1 : decide (c.params < 0) = false := decide_eq_false (by omega)
  have Hr1 := Lib.hid r1
  clear r1
  by_cases r2 : c.results < 0
  · have b : decide (c.results < 0) = true := decide_eq_true (by omega)
    have S := Lib.hid r2
    clear r2
    go_enter Tryd.func7, Tryd.ntmps7
    go_wp2_with fail
    go_ret
    exact ⟨by unfold codeFaultF; rw [if_neg Z.out, if_neg hs.out, if_pos (Or.inr (Or.inl S.out))]; rfl, below_box2 _ _ _⟩
  have br2 : decide (c.results < 0) = false := decide_eq_false (by omega)
  have Hr2 := Lib.hid r2
  clear r2
  by_cases r3 : c.vars < c.params
  · have b : decide (c.vars < c.params) = true := decide_eq_true (by omega)
    have S := Lib.hid r3
    clear r3
    go_enter Tryd.func7, Tryd.ntmps7
    go_wp2_with fail
    go_ret
    exact ⟨by unfold codeFaultF; rw [if_neg Z.out, if_neg hs.out, if_pos (Or.inr (Or.inr (Or.inl S.out)))]; rfl, below_box2 _ _ _⟩
  have br3 : decide (c.vars < c.params) = false := decide_eq_false (by omega)
  have Hr3 := Lib.hid r3
  clear r3
  by_cases r4 : c.slots ≠ 0
  · have b : (c.slots != 0) = true := (by simpa using r4)
    have S := Lib.hid r4
    clear r4
    go_enter Tryd.func7, Tryd.ntmps7
    go_wp2_with fail
    go_ret
    exact ⟨by unfold codeFaultF; rw [if_neg Z.out, if_neg hs.out, if_pos (Or.inr (Or.inr (Or.inr S.out)))]; rfl, below_box2 _ _ _⟩
  have br4 : (c.slots != 0) = false := (by simpa using r4)
  have Hr4 := Lib.hid r4
  clear r4
  have hres := Lib.hid (show codeFaultF fs c = blocksF (instrFaultF fs c.vars c.results c.blocks.length) 6000 c.blocks 0 by
    unfold codeFaultF
    rw [if_neg Z.out, if_neg hs.out, if_neg (fun h => h.elim Hr1.out (fun h => h.elim Hr2.out (fun h => h.elim Hr3.out Hr4.out)))])
  have hv : 0 ≤ c.vars := by have := Hr1.out; have := Hr3.out; omega
  go_enter Tryd.func7, Tryd.ntmps7
  go_wp2_with fail
  clear z1 bs1 bs2 bs3 bs4 br1 br2 br3 br4 Hr1 Hr2 Hr3 Hr4 Hs1 Hs2 Hs3 Hs4 hs Z
  go_loopw [5, 6] (fun q i wr => ∃ all n : Nat, n ≤ c.blocks.length ∧ all ≤ 6000 ∧ q = .int .i64 all ∧ i = .int .i64 n ∧ codeFaultF fs c = blocksF (instrFaultF fs c.vars c.results c.blocks.length) 6000 (c.blocks.drop n) all ∧
      Below (w.heap.size + 2) ((w.alloc (.cells #[p0, p1] 25)).alloc (.cells #[.string c.name, .int .i64 c.params, .int .i64 c.results, .int .i64 c.vars, .int .i64 c.slots, .slice a5 c.blocks.length c5] 28)) wr) (fun _ i _ => c.blocks.length - (intOf i).toNat)
  case atStart => exact ⟨0, 0, Nat.zero_le _, by omega, rfl, rfl, by rw [hres.out]; rfl, Below.refl _ _⟩
  case round =>
    obtain ⟨all, n, hn, hall, rfl, rfl, hrs, hbel⟩ := hrel
    have Hrs := Lib.hid hrs
    clear hrs
    have bc5 := hbel.cell (p := ⟨w.heap.size + 1, 5, none⟩) (by simp)
    rw [box2_2] at bc5
    by_cases hnl : n < c.blocks.length
    · have hnl1 : (n : Int) < (c.blocks.length : Int) := by omega
      obtain ⟨b, off, u, rfl, -, hb, hcell, hu⟩ := Hat.out n hnl
      obtain ⟨a2, cap2, rfl, hcap2, hmax2, hat2⟩ := rBlock_val hu
      have hcx : wr.cell? ⟨b, off + n, none⟩ = some (.slice a2 c.blocks[n].length cap2) := by
        rw [hbel.cell (p := ⟨b, off + n, none⟩) (by show b < _; omega), World.cell?_alloc_lt _ _ _ (by simp; omega), World.cell?_alloc_lt _ _ _ hb]; exact hcell
      have hfb := (hf.2 _ (List.getElem_mem hnl)).1
      unfold reachBytes at hfb
      have hstep := blocksF_at (g := instrFaultF fs c.vars c.results c.blocks.length) (most := 6000) (all := all) hnl
      have Hstep := Lib.hid hstep
      have Hat2 := Lib.hid hat2
      unfold maxLen at hmax2
      have Hcell := Lib.hid hcell
      clear hat2 hu hcell hstep
      generalize c.blocks[n] = bl at *
      have hbm : bl.length ≤ 9223372036854775807 := by omega
      by_cases z : bl.length = 0
      · have z1 : ((bl.length : Int) == 0) = true := by simpa using z
        have Z := Lib.hid z
        clear z
        go_wp2_with fail
        go_ret
        exact ⟨by rw [Hrs.out, Hstep.out, if_pos Z.out]; rfl, (below_box2 _ _ _).trans (hbel.mono (by omega))⟩
      have z1 : ((bl.length : Int) == 0) = false := by simpa using z
      have Z := Lib.hid z
      clear z
      by_cases g : 6000 < all + bl.length
      · have g1 : decide ((all : Int) + (bl.length : Int) > 6000) = true := decide_eq_true (by omega)
        have G := Lib.hid g
        clear g
        go_wp2_with fail
        go_ret
        exact ⟨by rw [Hrs.out, Hstep.out, if_neg Z.out, if_pos G.out]; rfl, (below_box2 _ _ _).trans (hbel.mono (by omega))⟩
      have g1 : decide ((all : Int) + (bl.length : Int) > 6000) = false := decide_eq_false (by omega)
      have Hs2 := Lib.hid (show codeFaultF fs c = if blockF (instrFaultF fs c.vars c.results c.blocks.length) bl ≠ 0 then blockF (instrFaultF fs c.vars c.results c.blocks.length) bl else blocksF (instrFaultF fs c.vars c.results c.blocks.length) 6000 (c.blocks.drop (n + 1)) (all + bl.length) by
        rw [Hrs.out, Hstep.out, if_neg Z.out, if_neg g])
      have G := Lib.hid g
      clear g Z Hstep Hrs
      go_wp2_with fail
      clear g1 z1 hcx bc5
      go_loopw [8] (fun i wr => ∃ k : Nat, k ≤ bl.length ∧ i = .int .i64 k ∧ blockF (instrFaultF fs c.vars c.results c.blocks.length) bl = blockF (instrFaultF fs c.vars c.results c.blocks.length) (bl.drop k) ∧
        Below (w.heap.size + 2) ((w.alloc (.cells #[p0, p1] 25)).alloc (.cells #[.string c.name, .int .i64 c.params, .int .i64 c.results, .int .i64 c.vars, .int .i64 c.slots, .slice (some ⟨b, off, none⟩) c.blocks.length c5] 28)) wr) (fun i _ => bl.length - (intOf i).toNat)
      case atStart => exact ⟨0, Nat.zero_le _, rfl, by rw [List.drop_zero], hbel⟩
      case round =>
        clear hbel
        obtain ⟨k, hk, rfl, hbk, hbel⟩ := hrel
        have Hbk := Lib.hid hbk
        clear hbk
        by_cases hkl : k < bl.length
        · have hkl1 : (k : Int) < (bl.length : Int) := by omega
          have bx := fun j => hbel.cell (p := ⟨w.heap.size + 1, j, none⟩) (by simp)
          simp only [box2_2] at bx
          have bc0 : wr.cell? ⟨w.heap.size + 1, 0, none⟩ = some (.string c.name) := bx 0
          have bc1 : wr.cell? ⟨w.heap.size + 1, 1, none⟩ = some (.int .i64 c.params) := bx 1
          have bc2 : wr.cell? ⟨w.heap.size + 1, 2, none⟩ = some (.int .i64 c.results) := bx 2
          have bc3 : wr.cell? ⟨w.heap.size + 1, 3, none⟩ = some (.int .i64 c.vars) := bx 3
          have bc4 : wr.cell? ⟨w.heap.size + 1, 4, none⟩ = some (.int .i64 c.slots) := bx 4
          have bc5 : wr.cell? ⟨w.heap.size + 1, 5, none⟩ = some (.slice (some ⟨b, off, none⟩) c.blocks.length c5) := bx 5
          have bp := fun j => hbel.cell (p := ⟨w.heap.size, j, none⟩) (by show w.heap.size < w.heap.size + 2; omega)
          simp only [box2_1] at bp
          have bp0 : wr.cell? ⟨w.heap.size, 0, none⟩ = some p0 := bp 0
          have bp1 : wr.cell? ⟨w.heap.size, 1, none⟩ = some p1 := bp 1
          clear bx bp
          have hbw : Below w.heap.size w wr := (below_box2 _ _ _).trans (hbel.mono (by omega))
          have hkeep := Keep.of_below' (S := fun _ => True) hbw (fun k hk _ => hk)
          have hsz : w.heap.size + 2 ≤ wr.heap.size := by have := hbel.size; simpa using this
          have hcx : wr.cell? ⟨b, off + n, none⟩ = some (.slice a2 bl.length cap2) := by rw [hbw.cell (p := ⟨b, off + n, none⟩) hb]; exact Hcell.out
          obtain ⟨b2, off2, v1, v2, v6, rfl, -, hb2, hx0, hx1, hx2, hx3, hx4, hx5, hI, rx1, rx2, rx6⟩ := Hat2.out k hkl
          have hcal := instrFault_any fs p0 p1 c _ bl[k] _ wr.drew (Good.kept (hkeep.trans (Keep.drew _ _)) Hp.out) (Good.kept (hkeep.trans (Keep.drew _ _)) Hc.out) (Good.kept (hkeep.trans (Keep.drew _ _)) ⟨v1, v2, v6, rfl, hI, rx1, rx2, rx6⟩) hv
          have ho := hI.1
          have hy0 : wr.cell? ⟨b2, off2 + k * 6, none⟩ = _ := (hbw.cell (p := ⟨b2, off2 + k * 6, none⟩) hb2).trans hx0
          have hy1 : wr.cell? ⟨b2, off2 + k * 6 + 1, none⟩ = _ := (hbw.cell (p := ⟨b2, off2 + k * 6 + 1, none⟩) hb2).trans hx1
          have hy2 : wr.cell? ⟨b2, off2 + k * 6 + 2, none⟩ = _ := (hbw.cell (p := ⟨b2, off2 + k * 6 + 2, none⟩) hb2).trans hx2
          have hy3 : wr.cell? ⟨b2, off2 + k * 6 + 3, none⟩ = _ := (hbw.cell (p := ⟨b2, off2 + k * 6 + 3, none⟩) hb2).trans hx3
          have hy4 : wr.cell? ⟨b2, off2 + k * 6 + 4, none⟩ = _ := (hbw.cell (p := ⟨b2, off2 + k * 6 + 4, none⟩) hb2).trans hx4
          have hy5 : wr.cell? ⟨b2, off2 + k * 6 + 5, none⟩ = _ := (hbw.cell (p := ⟨b2, off2 + k * 6 + 5, none⟩) hb2).trans hx5
          have hat := blockF_at (g := instrFaultF fs c.vars c.results c.blocks.length) hkl
          have Hat3 := Lib.hid hat
          have Hcal := Lib.hid hcal
          have Hz := Lib.hid hsz
          clear hx0 hx1 hx2 hx3 hx4 hx5 hI rx1 rx2 rx6 hat hcal hkeep hsz ho
          generalize bl[k] = x at *
          go_wp2_with fail
          go_still_tail 10, (by kernel_rfl)
          change wpList _ _ _ _ _ wr.drew
          go_wp2_with fail
          refine (Hcal.out).mono ?_
          rintro e w1 ⟨rfl, hb1⟩
          have hl1 : Below wr.heap.size wr w1 := ((Drawn.drew wr).below _).trans hb1
          have Hl1 := Lib.hid (hbel.trans (hl1.mono Hz.out))
          have bc5' := (hl1.cell (p := ⟨w.heap.size + 1, 5, none⟩) (by have := Hz.out; show w.heap.size + 1 < wr.heap.size; omega)).trans bc5
          have hcx' := (hl1.cell (p := ⟨b, off + n, none⟩) (by have := Hz.out; show b < wr.heap.size; omega)).trans hcx
          have hy0' := (hl1.cell (p := ⟨b2, off2 + k * 6, none⟩) (by have := Hz.out; show b2 < wr.heap.size; omega)).trans hy0
          clear bc0 bc1 bc2 bc3 bc4 bc5 bp0 bp1 hcx hy0 hy1 hy2 hy3 hy4 hy5 hbw hb1 hl1 hbel Hcal
          generalize hev : instrFaultF fs c.vars c.results c.blocks.length x = ev at *
          by_cases he : ev = 0
          case neg =>
            have he1 : (ev == 0) = false := by simpa using he
            have he2 : (ev != 0) = true := by simpa using he
            have He := Lib.hid he
            clear he
            go_wp2_with fail
            go_ret
            exact ⟨by
              have hbe : blockF (instrFaultF fs c.vars c.results c.blocks.length) bl = ev := by rw [Hbk.out, Hat3.out, if_pos He.out]
              rw [Hs2.out, hbe, if_pos He.out]; rfl, (below_box2 _ _ _).trans (Hl1.out.mono (by omega))⟩
          subst he
          by_cases hq : k + 1 = bl.length
          · have hq1 : ((k : Int) == (bl.length : Int) - 1) = true := by simpa using (show (k : Int) = (bl.length : Int) - 1 by omega)
            have Hq := Lib.hid (decide_eq_true hq)
            clear hq
            go_wp2_with fail
            refine (closes_any x.op w1).mono ?_
            rintro e w2 ⟨rfl, rfl⟩
            cases cl : closesF x.op with
            | true =>
              have Cl := Lib.hid cl
              clear cl
              go_wp2_with fail
              go_roundw
              case rel => exact ⟨k + 1, by omega, by go_num, by rw [Hbk.out, Hat3.out, if_neg (by simp), if_neg (by rw [Cl.out, Hq.out]; simp)], Hl1.out⟩
              case measure => simp [intOf]; omega
            | false =>
              have Cl := Lib.hid cl
              clear cl
              go_wp2_with fail
              go_ret
              exact ⟨by
                have hbe : blockF (instrFaultF fs c.vars c.results c.blocks.length) bl = 4 := by rw [Hbk.out, Hat3.out, if_neg (by simp), if_pos (by rw [Cl.out, Hq.out]; simp)]
                rw [Hs2.out, hbe, if_pos (by decide)]; rfl, (below_box2 _ _ _).trans (Hl1.out.mono (by omega))⟩
          · have hq1 : ((k : Int) == (bl.length : Int) - 1) = false := by simpa using (show ¬ (k : Int) = (bl.length : Int) - 1 by omega)
            have Hq := Lib.hid (decide_eq_false hq)
            clear hq
            go_wp2_with fail
            refine (closes_any x.op w1).mono ?_
            rintro e w2 ⟨rfl, rfl⟩
            cases cl : closesF x.op with
            | true =>
              have Cl := Lib.hid cl
              clear cl
              go_wp2_with fail
              go_ret
              exact ⟨by
                have hbe : blockF (instrFaultF fs c.vars c.results c.blocks.length) bl = 4 := by rw [Hbk.out, Hat3.out, if_neg (by simp), if_pos (by rw [Cl.out, Hq.out]; simp)]
                rw [Hs2.out, hbe, if_pos (by decide)]; rfl, (below_box2 _ _ _).trans (Hl1.out.mono (by omega))⟩
            | false =>
              have Cl := Lib.hid cl
              clear cl
              go_wp2_with fail
              go_roundw
              case rel => exact ⟨k + 1, by omega, by go_num, by rw [Hbk.out, Hat3.out, if_neg (by simp), if_neg (by rw [Cl.out, Hq.out]; simp)], Hl1.out⟩
              case measure => simp [intOf]; omega
        · have hke : k = bl.length := by omega
          subst hke
          have Hs3 := Lib.hid (show codeFaultF fs c = blocksF (instrFaultF fs c.vars c.results c.blocks.length) 6000 (c.blocks.drop (n + 1)) (all + bl.length) by
            have hbe : blockF (instrFaultF fs c.vars c.results c.blocks.length) bl = 0 := by rw [Hbk.out, List.drop_length]; rfl
            rw [Hs2.out, hbe, if_neg (by simp)])
          have hg := G.out
          clear Hbk Hs2
          go_wp2_with fail
          go_roundw
          case rel => exact ⟨all + bl.length, n + 1, by omega, by omega, by go_num, by go_num, Hs3.out, hbel⟩
          case measure => simp [intOf]; omega
    · have hne : n = c.blocks.length := by omega
      subst hne
      go_wp2_with fail
      go_ret
      exact ⟨by rw [Hrs.out, List.drop_length]; rfl, (below_box2 _ _ _).trans (hbel.mono (by omega))⟩
end Go.Proofs.YthgfdcoicihpdaaDoor

/-
  Texts joined: RanResB.
-/
import Derived.Test.YtaomlfbcfmmhlaaJE
import Derived.Test.YtaomlfbcfmmhlaaJF

/-
  RanOf: the reference's answer, with what refuses it (XRanRes without its second half).
-/
namespace Go.Proofs.Ytaomlfbcfmmhlaa
open Go.RowKit Go.Pst
set_option linter.unusedVariables false
set_option linter.unusedSimpArgs false

/-- What a run answers: how it ended, what it told; what refuses it. -/
def resF (e : Int) (m : Bool) (most : Int) (p : PProg) (heap fuel : Int) : (Int × List ByteArray) × Int :=
  if e ≠ 0 then ((0, []), e) else if (p.data.length : Int) ≤ heap ∧ heap ≤ 20000 ∧ 0 ≤ fuel ∧ fuel ≤ most then (runF p m heap fuel.toNat (startF p), 0) else ((0, []), 2)
def ResPost (w : World) (r : (Int × List ByteArray) × Int) (e : Ending) (w' : World) : Prop :=
  ∃ vL, e = .returned (.tuple #[.agg #[vL, .int .i64 r.1.1], .int .i64 r.2]) ∧ w'.ownsRow w.heap.size 9 1 vL r.1.2.length (r.1.2.map Value.string) ∧ Below w.heap.size w w'
theorem instr_n {p : PProg} {w : World} {v0 v1 : Value} (h : rProg (fun _ => True) w [v0, v1] p) : ∀ f, LevOK p f → InI (instrAt p f).n := fun f hL => by
  have h' : rProg (· < w.heap.size) w [v0, v1] p := Good.wide h (fun k hk _ => hk)
  obtain ⟨bF, oF, cF, bB, oB, cB, bI, oI, cI, u1, u2, u5, -, -, -, -, -, -, -, -, -, -, -, -, -, -, hI⟩ := instr_mem h' hL
  exact hI.2.1
theorem box_two {W : World} {b : Nat} {x y : Value} (u v : Value) (h0 : W.cell? ⟨b, 0, none⟩ = some x) (h1 : W.cell? ⟨b, 1, none⟩ = some y) :
    ((W.setCell ⟨b, 0, none⟩ u).setCell ⟨b, 1, none⟩ v).cell? ⟨b, 0, none⟩ = some u ∧ ((W.setCell ⟨b, 0, none⟩ u).setCell ⟨b, 1, none⟩ v).cell? ⟨b, 1, none⟩ = some v ∧ Since (fun k => k = b) W ((W.setCell ⟨b, 0, none⟩ u).setCell ⟨b, 1, none⟩ v) := by
  have h1' : (W.setCell ⟨b, 0, none⟩ u).cell? ⟨b, 1, none⟩ = some y := by rw [World.cell?_setCell_other (h := by simp)]; exact h1
  refine ⟨?_, World.cell?_setCell_same _ _ _ h1', (Since.setCell W ⟨b, 0, none⟩ u).trans (Since.setCell (W.setCell ⟨b, 0, none⟩ u) ⟨b, 1, none⟩ v)⟩
  rw [World.cell?_setCell_other (h := by simp)]
  exact World.cell?_setCell_same _ _ _ h0
theorem nil_row (w : World) (base : Nat) : w.ownsRow base 9 1 (.slice none 0 0) ([] : List ByteArray).length (([] : List ByteArray).map Value.string) := ⟨rfl, Or.inl ⟨rfl, rfl⟩⟩

set_option maxHeartbeats 2000000 in
theorem ranRes_any (p : PProg) (v0 v1 : Value) (heap fuel : Int) (w : World) (hp : rProg (fun _ => True) w [v0, v1] p) (hf : FitProg p) (hh : InI heap) (hfu : InI fuel) :
    Calls Try.prog 27 #[.agg #[v0, v1], .int .i64 heap, .int .i64 fuel] w (ResPost w (resF (programFaultF p) false 1000000 p heap fuel)) := by
  obtain ⟨p0, p1, hv, hp0, hp1⟩ := id hp
  obtain ⟨rfl, rfl⟩ : v0 = p0 ∧ v1 = p1 := by simpa using hv
  obtain ⟨ap, cp, rfl⟩ := rSlice_shape hp0
  obtain ⟨ad, cd, rfl, hld, -, -⟩ := rInts_open hp1
  have Hp := Lib.hid hp
  clear hp hv hp0 hp1
  go_enter Try.func27, Try.ntmps27
  go_wp2_with fail
  generalize hw0 : (w.alloc (.cells #[.slice ap p.funcs.length cp, .slice ad p.data.length cd] 27)).alloc (.cells #[.slice none 0 0, .int .i64 0] 51) = w0
  have hbel : Below w.heap.size w w0 := by rw [← hw0]; exact ((Below.refl _ _).alloc (Nat.le_refl _) _).alloc (by simp) _
  have hsz : w0.heap.size = w.heap.size + 2 := by rw [← hw0]; simp
  have bp0 : w0.cell? ⟨w.heap.size, 0, none⟩ = some (.slice ap p.funcs.length cp) := by rw [← hw0, World.cell?_alloc_lt _ _ _ (by simp), World.cell?_alloc_at _ _ _ _ rfl]; rfl
  have bp1 : w0.cell? ⟨w.heap.size, 1, none⟩ = some (.slice ad p.data.length cd) := by rw [← hw0, World.cell?_alloc_lt _ _ _ (by simp), World.cell?_alloc_at _ _ _ _ rfl]; rfl
  have br0 : w0.cell? ⟨w.heap.size + 1, 0, none⟩ = some (.slice none 0 0) := by rw [← hw0, World.cell?_alloc_at _ _ _ _ (by simp)]; rfl
  have br1 : w0.cell? ⟨w.heap.size + 1, 1, none⟩ = some (.int .i64 0) := by rw [← hw0, World.cell?_alloc_at _ _ _ _ (by simp)]; rfl
  have bz0 : w0.frozen? ⟨w.heap.size + 1, 0, none⟩ = false := by rw [← hw0, World.frozen?_alloc_at _ _ _ _ (by simp)]
  have bz1 : w0.frozen? ⟨w.heap.size + 1, 1, none⟩ = false := by rw [← hw0, World.frozen?_alloc_at _ _ _ _ (by simp)]
  clear hw0
  have hk0 := Keep.of_below' (S := fun _ => True) hbel (fun k hk _ => hk)
  refine (programFault_any p _ w0 (Good.kept hk0 Hp.out) hf).mono ?_
  rintro e w1 ⟨rfl, hb1⟩
  have hb2 : Below w.heap.size w w1 := hbel.trans (hb1.mono (by omega))
  have ap0 := (hb1.cell (p := ⟨w.heap.size, 0, none⟩) (by show w.heap.size < w0.heap.size; omega)).trans bp0
  have ap1 := (hb1.cell (p := ⟨w.heap.size, 1, none⟩) (by show w.heap.size < w0.heap.size; omega)).trans bp1
  have ar0 := (hb1.cell (p := ⟨w.heap.size + 1, 0, none⟩) (by show w.heap.size + 1 < w0.heap.size; omega)).trans br0
  have ar1 := (hb1.cell (p := ⟨w.heap.size + 1, 1, none⟩) (by show w.heap.size + 1 < w0.heap.size; omega)).trans br1
  have az0 := (hb1.frozen (p := ⟨w.heap.size + 1, 0, none⟩) (by show w.heap.size + 1 < w0.heap.size; omega)).trans bz0
  have az1 := (hb1.frozen (p := ⟨w.heap.size + 1, 1, none⟩) (by show w.heap.size + 1 < w0.heap.size; omega)).trans bz1
  have Hb2 := Lib.hid hb2
  have hz1 := hb1.size
  clear bp0 bp1 br0 br1 bz0 bz1 hb1 hbel hk0 hb2
  generalize hev : programFaultF p = ev at *
  by_cases hz : ev = 0
  · subst hz
    cases hc1 : (decide ((p.data.length : Int) ≤ heap) && decide (heap ≤ 20000)) with
    | false =>
      have Hr := Lib.hid (show resF 0 false 1000000 p heap fuel = ((0, []), 2) by
        have : ¬ ((p.data.length : Int) ≤ heap ∧ heap ≤ 20000) := by simpa using hc1
        unfold resF
        rw [if_neg (by simp), if_neg (by omega)])
      have Hc := Lib.hid hc1
      clear hev hc1
      go_wp2_with (first | (go_at_call 63; refine (refIn_any _ _ _ _).mono ?_; rintro e w' ⟨rfl, rfl⟩; rw [Hc.out]))
      obtain ⟨g0, g1, gs⟩ := box_two (.slice none 0 0) (.int .i64 0) ar0 ar1
      refine bodyPost_ret (v := .tuple #[.agg #[.slice none 0 0, .int .i64 0], .int .i64 2]) (by simp [results, Try.results27, go_sem, g0, g1]) rfl ?_
      rw [Hr.out]
      exact ⟨_, rfl, nil_row _ _, Hb2.out.trans (gs.below Hb2.out.size (fun k e => by omega))⟩
    | true =>
      cases hc2 : (decide (0 ≤ fuel) && decide (fuel ≤ 1000000)) with
      | false =>
        have Hr := Lib.hid (show resF 0 false 1000000 p heap fuel = ((0, []), 2) by
          have : ¬ (0 ≤ fuel ∧ fuel ≤ 1000000) := by simpa using hc2
          unfold resF
          rw [if_neg (by simp), if_neg (by omega)])
        have Hc := Lib.hid hc1
        have Hc2 := Lib.hid hc2
        clear hev hc1 hc2
        go_wp2_with (first | (go_at_call 63; refine (refIn_any _ _ _ _).mono ?_; rintro e w' ⟨rfl, rfl⟩; first | rw [Hc.out] | rw [Hc2.out]))
        obtain ⟨g0, g1, gs⟩ := box_two (.slice none 0 0) (.int .i64 0) ar0 ar1
        refine bodyPost_ret (v := .tuple #[.agg #[.slice none 0 0, .int .i64 0], .int .i64 2]) (by simp [results, Try.results27, go_sem, g0, g1]) rfl ?_
        rw [Hr.out]
        exact ⟨_, rfl, nil_row _ _, Hb2.out.trans (gs.below Hb2.out.size (fun k e => by omega))⟩
      | true =>
        have hb1 : (p.data.length : Int) ≤ heap ∧ heap ≤ 20000 := by simpa using hc1
        have hb2 : 0 ≤ fuel ∧ fuel ≤ 1000000 := by simpa using hc2
        have Hr := Lib.hid (show resF 0 false 1000000 p heap fuel = (runF p false heap fuel.toNat (startF p), 0) by
          unfold resF
          rw [if_neg (by simp), if_pos ⟨hb1.1, hb1.2, hb2⟩])
        have hk1 := Keep.of_below' (S := fun _ => True) Hb2.out (fun k hk _ => hk)
        have hp1 := Good.kept hk1 Hp.out
        have hcon := ranOf_any p _ _ heap fuel false w1 hp1 (programFaultF_ok hev) hb1.1 hb1.2 hb2.1 (by omega) (instr_n hp1)
        have Hcon := Lib.hid hcon
        have Hc := Lib.hid hc1
        have Hc2 := Lib.hid hc2
        clear hev hc1 hc2 hb1 hb2 hp1 hk1 hcon
        generalize runF p false heap fuel.toNat (startF p) = R at *
        go_wp2_with (first | (go_at_call 63; refine (refIn_any _ _ _ _).mono ?_; rintro e w' ⟨rfl, rfl⟩; first | rw [Hc.out] | rw [Hc2.out]))
        refine Hcon.out.mono ?_
        rintro e w2 ⟨vL, rfl, hrow, hb3⟩
        obtain ⟨aL, cL, rfl, -, -⟩ := row_slice hrow
        have cr0 := (hb3.cell (p := ⟨w.heap.size + 1, 0, none⟩) (by show w.heap.size + 1 < w1.heap.size; omega)).trans ar0
        have cr1 := (hb3.cell (p := ⟨w.heap.size + 1, 1, none⟩) (by show w.heap.size + 1 < w1.heap.size; omega)).trans ar1
        have cz0 := (hb3.frozen (p := ⟨w.heap.size + 1, 0, none⟩) (by show w.heap.size + 1 < w1.heap.size; omega)).trans az0
        have cz1 := (hb3.frozen (p := ⟨w.heap.size + 1, 1, none⟩) (by show w.heap.size + 1 < w1.heap.size; omega)).trans az1
        have Hrow := Lib.hid hrow
        have Hb3 := Lib.hid hb3
        clear hrow hb3 ap0 ap1 ar0 ar1 az0 az1 Hcon
        go_wp2_with fail
        obtain ⟨g0, g1, gs⟩ := box_two (.slice aL R.2.length cL) (.int .i64 R.1) cr0 cr1
        refine bodyPost_ret (v := .tuple #[.agg #[.slice aL R.2.length cL, .int .i64 R.1], .int .i64 0]) (by simp [results, Try.results27, go_sem, g0, g1]) rfl ?_
        rw [Hr.out]
        have hz2 := Hb2.out.size
        have hbb := Hb2.out.trans (Hb3.out.mono hz2)
        have hr := Hrow.out
        refine ⟨_, rfl, gs.row (ownsRow_from hr hz2) (fun k hk e => ?_), hbb.trans (gs.below hbb.size (fun k e => by omega))⟩
        have := (hr.lt k hk).1
        omega
  · have hz' : (ev == 0) = false := by simpa using hz
    have Hr := Lib.hid (show resF ev false 1000000 p heap fuel = ((0, []), ev) by
      unfold resF
      rw [if_pos hz])
    clear hev hz
    go_wp2_with fail
    obtain ⟨g0, g1, gs⟩ := box_two (.slice none 0 0) (.int .i64 0) ar0 ar1
    refine bodyPost_ret (v := .tuple #[.agg #[.slice none 0 0, .int .i64 0], .int .i64 ev]) (by simp [results, Try.results27, go_sem, g0, g1]) rfl ?_
    rw [Hr.out]
    exact ⟨_, rfl, nil_row _ _, Hb2.out.trans (gs.below Hb2.out.size (fun k e => by omega))⟩

end Go.Proofs.Ytaomlfbcfmmhlaa

/-
  Proved here: the tied card Rows.SsaBacksCardSaid: for every program and code, ssa.Back refuses what the reference's OnceFault refuses, and makes code without faults of all other, unless that becomes too great; the tables ir.rules, ir.maths hold what the program's text lays.
-/
import Derived.Test.YthgfdcoicihpdaaDoorOnceFault
import Derived.Test.YthgfdcoicihpdaaDoorBack
import Derived.Test.YthgfdcoicihpdaaDoorCodeFault
import Derived.Test.YthgfdcoicihpdaaDoorIrTables
import Derived.Test.YthgfdcoicihpdaaDoorCards
import Derived.Test.YthgfdcoicihpdaaDoorTie
import Derived.SevenTiedAt
import Derived.ProofKit
import Derived.ChangeOld
import Derived.OpenShut
namespace Go.Proofs.YthgfdcoicihpdaaDoor.ssaBacks
open Go.ChangeShapes Go.WideShapes Go.ChangeAt Go.RowKit Go.Pst
set_option linter.unusedVariables false

theorem two_boxes (w : World) (a b : Array Value) (T1 T2 : TypeId) : ∃ W, (w.alloc (.cells a T1)).alloc (.cells b T2) = W ∧ W.heap.size = w.heap.size + 2 ∧ Below w.heap.size w W ∧ W.heap[w.heap.size]? = some (.cells a T1) ∧ W.heap[w.heap.size + 1]? = some (.cells b T2) := by
  refine ⟨_, rfl, by simp, ((Below.refl _ _).alloc (Nat.le_refl _) _).alloc (by simp) _, ?_, ?_⟩
  · rw [Below.heap_alloc _ _ _ (by simp)]
    exact heap_alloc_new _ _
  · have h := heap_alloc_new (w.alloc (.cells a T1)) (.cells b T2)
    rw [World.size_alloc] at h
    exact h
theorem once_small {fs : List PCode} {c : PCode} (h : onceF fs c (rowOf (aheadF c)) (rowOf (aboveF c)) = 0) : sumLen c.blocks ≤ 1000000000 ∧ c.blocks.length ≤ 1000000000 := by
  obtain ⟨k1, k2, acc, k3⟩ := once_parts h
  have H : PhiOK fs c (fun i => (rowOf (aheadF c) i).length) := phiOK k1 k2
  have hsum := sumPhi_le H (onceOK k1) k2 k3
  have hd := H.hdr
  have hs := sumLen_small H (by omega)
  have hn := H.n0
  exact ⟨by omega, by omega⟩
theorem opens_code_here {H : Type} (enc : TypeId × Value → H) (w : World) : Opens enc Tryd.prog w 28 rCode FitCode :=
  opens_code Tryd.underlying28 (by kernel_rfl) (by kernel_rfl) (by kernel_rfl) (by kernel_rfl) (by kernel_rfl) (by kernel_rfl) (by kernel_rfl) (by kernel_rfl) Tryd.underlying3 Tryd.underlying9 Tryd.underlying26 Tryd.underlying38
    (opens_instr Tryd.underlying41 (by kernel_rfl) (by kernel_rfl) (by kernel_rfl) (by kernel_rfl) Tryd.underlying3 Tryd.underlying9 Tryd.underlying23 (by kernel_rfl))
theorem opens_prog_here {H : Type} (enc : TypeId × Value → H) (w : World) : Opens enc Tryd.prog w 25 rProg FitProg :=
  opens_prog Tryd.underlying25 (by kernel_rfl) (by kernel_rfl) (by kernel_rfl) Tryd.underlying22 (by kernel_rfl) (by kernel_rfl) Tryd.underlying23 Tryd.underlying3 (by kernel_rfl) (by kernel_rfl) (opens_code_here enc w)

theorem walk {w : World} (hL : IrLaid w) (p : PProg) (pcs : List Value) (hp : rProg (fun _ => True) w pcs p) (hpf : FitProg p) (c : PCode) (cs : List Value) (hc : rCode (fun _ => True) w cs c) (hf : FitCode c) :
    Calls Tryd.prog 3 #[.agg pcs.toArray, .agg cs.toArray] w fun e w' => e = .returned (.bool true) ∧ Below w.heap.size w w' := by
  obtain ⟨p0, p1, rfl, hp0, hp1⟩ := hp
  have hc0 := hc
  obtain ⟨v5, rfl, -, -⟩ := hc
  have Hp := Lib.hid hp0
  have Hd := Lib.hid hp1
  have Hc := Lib.hid hc0
  have HL := Lib.hid hL
  clear hp0 hp1 hc0 hL
  go_enter Tryd.func3, Tryd.ntmps3
  obtain ⟨w0, hw0, hsz, hbel, b0, b1⟩ := two_boxes w #[p0, p1] #[.string c.name, .int .i64 c.params, .int .i64 c.results, .int .i64 c.vars, .int .i64 c.slots, v5] 25 28
  go_upto_region 1 with fail
  try rw [hw0]
  have bp0 : w0.cell? ⟨w.heap.size, 0, none⟩ = some p0 := by simp [World.cell?, b0]
  have bp1 : w0.cell? ⟨w.heap.size, 1, none⟩ = some p1 := by simp [World.cell?, b0]
  obtain ⟨x0, x1, x2, x3, x4, x5, -, -⟩ := six_cells b1
  have B0 := Lib.hid b0
  have B1 := Lib.hid b1
  have Hk0 := Lib.hid (Keep.of_below' (S := fun _ => True) hbel (fun k hk _ => hk))
  clear hw0 b0 b1
  go_wp2_with fail
  refine (back_any p.funcs p.data p0 p1 c _ w0 (Good.kept Hk0.out Hp.out) (Good.kept Hk0.out Hd.out) (Good.kept Hk0.out Hc.out) hf (HL.out.below hbel)).mono ?_
  rintro e w1 ⟨hb1, cs', er, rfl, hpost⟩
  have hz := zeroCode
  have hb2 : Below w.heap.size w w1 := hbel.trans (hb1.mono (by omega))
  have g0 := (hb1.block w.heap.size (by omega)).trans B0.out
  have g1 := (hb1.block (w.heap.size + 1) (by omega)).trans B1.out
  have bz := hb1.size
  have Hk1 := Lib.hid (Keep.of_below' (S := fun _ => True) hb2 (fun k hk _ => hk))
  clear bp0 bp1 x0 x1 x2 x3 x4 x5 B0 B1 Hk0 hb1 hbel
  rcases hpost with ⟨h1, rfl, rfl⟩ | ⟨h1, rfl, rfl, hnl⟩ | ⟨h1, rfl, x, hx, hcf, hfx⟩
  · have hbW : Below w.heap.size w (w1.alloc (.cells #[.string ⟨#[]⟩, .int .i64 0, .int .i64 0, .int .i64 0, .int .i64 0, .slice none 0 0] 28)) := hb2.alloc (by omega) _
    have q0 := (Below.heap_alloc w1 (.cells #[.string ⟨#[]⟩, .int .i64 0, .int .i64 0, .int .i64 0, .int .i64 0, .slice none 0 0] 28) w.heap.size (by omega)).trans g0
    have q1 := (Below.heap_alloc w1 (.cells #[.string ⟨#[]⟩, .int .i64 0, .int .i64 0, .int .i64 0, .int .i64 0, .slice none 0 0] 28) (w.heap.size + 1) (by omega)).trans g1
    have q2 := heap_alloc_new w1 (.cells #[.string ⟨#[]⟩, .int .i64 0, .int .i64 0, .int .i64 0, .int .i64 0, .slice none 0 0] 28)
    have zW : (w1.alloc (.cells #[.string ⟨#[]⟩, .int .i64 0, .int .i64 0, .int .i64 0, .int .i64 0, .slice none 0 0] 28)).heap.size = w1.heap.size + 1 := by simp
    have Hup := Lib.hid ((Below.refl w1.heap.size w1).alloc (Nat.le_refl _) (.cells #[.string ⟨#[]⟩, .int .i64 0, .int .i64 0, .int .i64 0, .int .i64 0, .slice none 0 0] 28))
    have H1 := Lib.hid h1
    clear g0 g1 hb2 h1
    go_upto_region 2 with fail
    generalize w1.alloc (.cells #[.string ⟨#[]⟩, .int .i64 0, .int .i64 0, .int .i64 0, .int .i64 0, .slice none 0 0] 28) = W1 at *
    have bp0 : W1.cell? ⟨w.heap.size, 0, none⟩ = some p0 := by simp [World.cell?, q0]
    have bp1 : W1.cell? ⟨w.heap.size, 1, none⟩ = some p1 := by simp [World.cell?, q0]
    obtain ⟨x0, x1, x2, x3, x4, x5, -, -⟩ := six_cells q1
    have HbW := Lib.hid hbW
    have HkW := Lib.hid (Keep.of_below' (S := fun _ => True) hbW (fun k hk _ => hk))
    have Q0 := Lib.hid q0
    have Q1 := Lib.hid q1
    have Q2 := Lib.hid q2
    clear hbW q0 q1 q2
    go_wp2_with fail
    refine (onceFault_any p.funcs p.data p0 p1 c _ W1 (Good.kept HkW.out Hp.out) (Good.kept HkW.out Hd.out) (Good.kept HkW.out Hc.out) hf).mono ?_
    rintro e W2 ⟨rfl, hb3⟩
    have hb4 : Below w.heap.size w W2 := HbW.out.trans (hb3.mono HbW.out.size)
    have r0 := (hb3.block w.heap.size (by omega)).trans Q0.out
    have r1 := (hb3.block (w.heap.size + 1) (by omega)).trans Q1.out
    have r2 := (hb3.block w1.heap.size (by omega)).trans Q2.out
    clear bp0 bp1 x0 x1 x2 x3 x4 x5 Q0 Q1 Q2
    have bp0 : W2.cell? ⟨w.heap.size, 0, none⟩ = some p0 := by simp [World.cell?, r0]
    have bp1 : W2.cell? ⟨w.heap.size, 1, none⟩ = some p1 := by simp [World.cell?, r0]
    obtain ⟨x0, x1, x2, x3, x4, x5, -, -⟩ := six_cells r1
    obtain ⟨y0, y1, y2, y3, y4, y5, -, -⟩ := six_cells r2
    have hz3 := hb3.size
    have Hb3 := Lib.hid hb3
    have Hb4 := Lib.hid hb4
    have HkW2 := Lib.hid (Keep.of_below' (S := fun _ => True) hb4 (fun k hk _ => hk))
    clear r0 r1 r2 hb3 hb4
    generalize onceF p.funcs c (rowOf (aheadF c)) (rowOf (aboveF c)) = ev at *
    have h1 := H1.out
    have e1 : (ev != 0) = true := by simpa using h1
    have e2 : (ev == ev) = true := by simp
    go_wp2_with fail
    go_ret
    exact ⟨by simp, Hb4.out⟩
  · obtain ⟨hsB, hnB⟩ := once_small h1
    have hbW : Below w.heap.size w (w1.alloc (.cells #[.string ⟨#[]⟩, .int .i64 0, .int .i64 0, .int .i64 0, .int .i64 0, .slice none 0 0] 28)) := hb2.alloc (by omega) _
    have q0 := (Below.heap_alloc w1 (.cells #[.string ⟨#[]⟩, .int .i64 0, .int .i64 0, .int .i64 0, .int .i64 0, .slice none 0 0] 28) w.heap.size (by omega)).trans g0
    have q1 := (Below.heap_alloc w1 (.cells #[.string ⟨#[]⟩, .int .i64 0, .int .i64 0, .int .i64 0, .int .i64 0, .slice none 0 0] 28) (w.heap.size + 1) (by omega)).trans g1
    have q2 := heap_alloc_new w1 (.cells #[.string ⟨#[]⟩, .int .i64 0, .int .i64 0, .int .i64 0, .int .i64 0, .slice none 0 0] 28)
    have zW : (w1.alloc (.cells #[.string ⟨#[]⟩, .int .i64 0, .int .i64 0, .int .i64 0, .int .i64 0, .slice none 0 0] 28)).heap.size = w1.heap.size + 1 := by simp
    have Hup := Lib.hid ((Below.refl w1.heap.size w1).alloc (Nat.le_refl _) (.cells #[.string ⟨#[]⟩, .int .i64 0, .int .i64 0, .int .i64 0, .int .i64 0, .slice none 0 0] 28))
    have H1 := Lib.hid h1
    clear g0 g1 hb2 h1
    go_upto_region 2 with fail
    generalize w1.alloc (.cells #[.string ⟨#[]⟩, .int .i64 0, .int .i64 0, .int .i64 0, .int .i64 0, .slice none 0 0] 28) = W1 at *
    have bp0 : W1.cell? ⟨w.heap.size, 0, none⟩ = some p0 := by simp [World.cell?, q0]
    have bp1 : W1.cell? ⟨w.heap.size, 1, none⟩ = some p1 := by simp [World.cell?, q0]
    obtain ⟨x0, x1, x2, x3, x4, x5, -, -⟩ := six_cells q1
    have HbW := Lib.hid hbW
    have HkW := Lib.hid (Keep.of_below' (S := fun _ => True) hbW (fun k hk _ => hk))
    have Q0 := Lib.hid q0
    have Q1 := Lib.hid q1
    have Q2 := Lib.hid q2
    clear hbW q0 q1 q2
    go_wp2_with fail
    refine (onceFault_any p.funcs p.data p0 p1 c _ W1 (Good.kept HkW.out Hp.out) (Good.kept HkW.out Hd.out) (Good.kept HkW.out Hc.out) hf).mono ?_
    rintro e W2 ⟨rfl, hb3⟩
    have hb4 : Below w.heap.size w W2 := HbW.out.trans (hb3.mono HbW.out.size)
    have r0 := (hb3.block w.heap.size (by omega)).trans Q0.out
    have r1 := (hb3.block (w.heap.size + 1) (by omega)).trans Q1.out
    have r2 := (hb3.block w1.heap.size (by omega)).trans Q2.out
    clear bp0 bp1 x0 x1 x2 x3 x4 x5 Q0 Q1 Q2
    have bp0 : W2.cell? ⟨w.heap.size, 0, none⟩ = some p0 := by simp [World.cell?, r0]
    have bp1 : W2.cell? ⟨w.heap.size, 1, none⟩ = some p1 := by simp [World.cell?, r0]
    obtain ⟨x0, x1, x2, x3, x4, x5, -, -⟩ := six_cells r1
    obtain ⟨y0, y1, y2, y3, y4, y5, -, -⟩ := six_cells r2
    have hz3 := hb3.size
    have Hb3 := Lib.hid hb3
    have Hb4 := Lib.hid hb4
    have HkW2 := Lib.hid (Keep.of_below' (S := fun _ => True) hb4 (fun k hk _ => hk))
    clear r0 r1 r2 hb3 hb4
    rw [H1.out]
    have hlit := little_any c _ W2 (Good.kept HkW2.out Hc.out) (by omega) (by omega)
    have hfalse : (decide (c.blocks.length ≤ 20) && (decide (c.vars ≤ 40) && decide (sumLen c.blocks ≤ 100))) = false := by
      rw [← Bool.not_eq_true, Bool.and_eq_true, Bool.and_eq_true, decide_eq_true_eq, decide_eq_true_eq, decide_eq_true_eq]
      exact hnl
    rw [hfalse] at hlit
    have Hlit := Lib.hid hlit
    clear hlit
    go_wp2_with fail
    refine (Hlit.out).mono ?_
    rintro e W3 ⟨rfl, hb5⟩
    have Hb5 := Lib.hid (Hb4.out.trans (hb5.mono Hb4.out.size))
    clear hb5
    go_wp2_with fail
    go_ret
    exact ⟨by simp, Hb5.out⟩
  · have hx0 := hx
    obtain ⟨vx, ex, -, hxb⟩ := hx
    obtain ⟨ax, bx, rfl⟩ := rSlice_shape hxb
    obtain rfl : cs' = #[.string x.name, .int .i64 x.params, .int .i64 x.results, .int .i64 x.vars, .int .i64 x.slots, .slice ax x.blocks.length bx] := by rw [← Array.toArray_toList (xs := cs'), ex]
    have Hx := Lib.hid hx0
    have Hcf := Lib.hid hcf
    clear hx0 ex hxb hcf
    have hbW : Below w.heap.size w (w1.alloc (.cells #[.string x.name, .int .i64 x.params, .int .i64 x.results, .int .i64 x.vars, .int .i64 x.slots, .slice ax x.blocks.length bx] 28)) := hb2.alloc (by omega) _
    have q0 := (Below.heap_alloc w1 (.cells #[.string x.name, .int .i64 x.params, .int .i64 x.results, .int .i64 x.vars, .int .i64 x.slots, .slice ax x.blocks.length bx] 28) w.heap.size (by omega)).trans g0
    have q1 := (Below.heap_alloc w1 (.cells #[.string x.name, .int .i64 x.params, .int .i64 x.results, .int .i64 x.vars, .int .i64 x.slots, .slice ax x.blocks.length bx] 28) (w.heap.size + 1) (by omega)).trans g1
    have q2 := heap_alloc_new w1 (.cells #[.string x.name, .int .i64 x.params, .int .i64 x.results, .int .i64 x.vars, .int .i64 x.slots, .slice ax x.blocks.length bx] 28)
    have zW : (w1.alloc (.cells #[.string x.name, .int .i64 x.params, .int .i64 x.results, .int .i64 x.vars, .int .i64 x.slots, .slice ax x.blocks.length bx] 28)).heap.size = w1.heap.size + 1 := by simp
    have Hup := Lib.hid ((Below.refl w1.heap.size w1).alloc (Nat.le_refl _) (.cells #[.string x.name, .int .i64 x.params, .int .i64 x.results, .int .i64 x.vars, .int .i64 x.slots, .slice ax x.blocks.length bx] 28))
    have H1 := Lib.hid h1
    clear g0 g1 hb2 h1
    go_upto_region 2 with fail
    generalize w1.alloc (.cells #[.string x.name, .int .i64 x.params, .int .i64 x.results, .int .i64 x.vars, .int .i64 x.slots, .slice ax x.blocks.length bx] 28) = W1 at *
    have bp0 : W1.cell? ⟨w.heap.size, 0, none⟩ = some p0 := by simp [World.cell?, q0]
    have bp1 : W1.cell? ⟨w.heap.size, 1, none⟩ = some p1 := by simp [World.cell?, q0]
    obtain ⟨x0, x1, x2, x3, x4, x5, -, -⟩ := six_cells q1
    have HbW := Lib.hid hbW
    have HkW := Lib.hid (Keep.of_below' (S := fun _ => True) hbW (fun k hk _ => hk))
    have Q0 := Lib.hid q0
    have Q1 := Lib.hid q1
    have Q2 := Lib.hid q2
    clear hbW q0 q1 q2
    go_wp2_with fail
    refine (onceFault_any p.funcs p.data p0 p1 c _ W1 (Good.kept HkW.out Hp.out) (Good.kept HkW.out Hd.out) (Good.kept HkW.out Hc.out) hf).mono ?_
    rintro e W2 ⟨rfl, hb3⟩
    have hb4 : Below w.heap.size w W2 := HbW.out.trans (hb3.mono HbW.out.size)
    have r0 := (hb3.block w.heap.size (by omega)).trans Q0.out
    have r1 := (hb3.block (w.heap.size + 1) (by omega)).trans Q1.out
    have r2 := (hb3.block w1.heap.size (by omega)).trans Q2.out
    clear bp0 bp1 x0 x1 x2 x3 x4 x5 Q0 Q1 Q2
    have bp0 : W2.cell? ⟨w.heap.size, 0, none⟩ = some p0 := by simp [World.cell?, r0]
    have bp1 : W2.cell? ⟨w.heap.size, 1, none⟩ = some p1 := by simp [World.cell?, r0]
    obtain ⟨x0, x1, x2, x3, x4, x5, -, -⟩ := six_cells r1
    obtain ⟨y0, y1, y2, y3, y4, y5, -, -⟩ := six_cells r2
    have hz3 := hb3.size
    have Hb3 := Lib.hid hb3
    have Hb4 := Lib.hid hb4
    have HkW2 := Lib.hid (Keep.of_below' (S := fun _ => True) hb4 (fun k hk _ => hk))
    clear r0 r1 r2 hb3 hb4
    rw [H1.out]
    have hcx : rCode (fun _ => True) W2 [.string x.name, .int .i64 x.params, .int .i64 x.results, .int .i64 x.vars, .int .i64 x.slots, .slice ax x.blocks.length bx] x := Good.kept (Keep.of_below' (S := fun _ => True) (Hup.out.trans (Hb3.out.mono (by omega))) (fun k hk _ => hk)) Hx.out
    have hcod := codeFault_any p.funcs p0 p1 x _ W2 (Good.kept HkW2.out Hp.out) hcx hfx
    rw [Hcf.out] at hcod
    have Hcod := Lib.hid hcod
    clear hcod hcx
    go_wp2_with fail
    refine (Hcod.out).mono ?_
    rintro e W3 ⟨rfl, hb5⟩
    have Hb5 := Lib.hid (Hb4.out.trans (hb5.mono Hb4.out.size))
    clear hb5
    go_wp2_with fail
    go_ret
    exact ⟨by simp, Hb5.out⟩
theorem own : ownKnob Tryd.prog.godebug = none := by kernel_rfl
theorem laidOut : laidOutB Tryd.prog = true := by kernel_rfl

set_option maxRecDepth 100000 in
theorem contract (H : Type) (enc : TypeId × Value → H) (W : World) (base : Nat) (args : Array Value) (ds gs : List (DataW H)) (before : List MemPlace)
    (hval0 : ∀ (j : Nat) t v, Tryd.f3.params[j]? = some t → args[j]? = some v → Value.okWide Tryd.prog W .any base t v)
    (hW : DataW.Whole enc Tryd.prog Tryd.f3.params.toList Rows.ssaBacksSpec.vars false W args.toList ds gs before)
    (hL : laidMetH Tryd.prog irTables W) (hsz0 : (DataW.weightsEach Tryd.prog (Tryd.f3.params.toList ++ Rows.ssaBacksSpec.plain.varTypes Tryd.prog) (ds ++ gs)).all (· ≤ reachBytes) = true) :
    Calls Tryd.prog 3 args W fun e W' => ∃ v, e = .returned v ∧ Rows.ssaBacksSpec.post enc Tryd.prog Tryd.f3 false true false false W args v W' := by
  have hsz := hsz0
  have hval : ∀ (j : Nat) t v, Tryd.f3.params[j]? = some t → args[j]? = some v → Value.okWide Tryd.prog W .any base t v := hval0
  have hW' := hW
  obtain ⟨p, q, hA0, hV, rfl, hfz, hnd⟩ := hW
  have hA : DataW.TrodAll enc Tryd.prog W 0 (fun _ => true) true Tryd.f3.params.toList args.toList ds p := hA0
  rw [Tryd.params3] at hA hval hsz
  obtain ⟨v0, vs0, d0, ds0, p0, q0, hargs, rfl, rfl, h0, r0⟩ := trodAll_cons hA
  obtain ⟨v1, vs1, d1, ds1, p1, q1, rfl, rfl, rfl, h1, r1⟩ := trodAll_cons r0
  obtain ⟨rfl, rfl, rfl⟩ := trodAll_nil r1
  obtain rfl : args = #[v0, v1] := by cases args; simp_all
  obtain ⟨rfl, rfl⟩ := trodVars_none hV
  have k0 := h0
  have lt0 : ∀ x ∈ p0, x.block < W.heap.size := by obtain ⟨m, hm⟩ := k0; exact DataW.trod_lt m _ _ _ hm
  obtain ⟨fuel0, hf0⟩ := h0
  have hwt0 : ∀ n ∈ d0.weights Tryd.prog 25, n ≤ reachBytes := fun n hn => of_decide_eq_true (List.all_eq_true.1 hsz n (DataW.weights_mem_each (j := 0) rfl rfl n hn))
  have hv0 := hval 0 25 v0 rfl rfl
  simp only [Value.okWide, Tryd.underlying25] at hv0
  obtain ⟨cs0, rfl, _, _⟩ := hv0
  obtain ⟨x0, hx0, fit0⟩ := opens_prog_here enc W fuel0 _ _ hf0 hwt0
  have hcs0 : (Value.agg cs0).cells.toList.toArray = cs0 := by simp [Value.cells]
  have k1 := h1
  have lt1 : ∀ x ∈ p1, x.block < W.heap.size := by obtain ⟨m, hm⟩ := k1; exact DataW.trod_lt m _ _ _ hm
  obtain ⟨fuel1, hf1⟩ := h1
  have hwt1 : ∀ n ∈ d1.weights Tryd.prog 28, n ≤ reachBytes := fun n hn => of_decide_eq_true (List.all_eq_true.1 hsz n (DataW.weights_mem_each (j := 1) rfl rfl n hn))
  have hv1 := hval 1 28 v1 rfl rfl
  simp only [Value.okWide, Tryd.underlying28] at hv1
  obtain ⟨cs1, rfl, _, _⟩ := hv1
  obtain ⟨x1, hx1, fit1⟩ := opens_code_here enc W fuel1 _ _ hf1 hwt1
  have hcs1 : (Value.agg cs1).cells.toList.toArray = cs1 := by simp [Value.cells]
  clear hA0 hval0
  have hwalk := walk (w := W) (irLaid_of hL) x0 _ hx0 fit0 x1 _ hx1 fit1
  rw [hcs0] at hwalk
  rw [hcs1] at hwalk
  refine hwalk.mono fun e W' ⟨he, bel⟩ => ?_
  subst he
  exact ⟨_, rfl, _, _, _, [], _, [], hW', trodAll_mk1 (shut_bool Tryd.underlying4 _), (trodAll_cons_mk (Below.trod laidOut (by kernel_rfl) (of_decide_eq_true (by kernel_rfl)) k0 bel lt0) (trodAll_cons_mk (Below.trod laidOut (by kernel_rfl) (of_decide_eq_true (by kernel_rfl)) k1 bel lt1) trodAll_mk0)), rfl, bel.frame _, fun h => by cases h⟩

set_option maxRecDepth 100000 in
theorem lifted (os : Os) (started : os.Started) (H : Type) (enc : TypeId × Value → H) :
    ReturnsInHanded {} Tryd.checked os 3 .any (fun w args => (Rows.ssaBacksSpec.pre enc Tryd.prog Tryd.f3 [] false w args ∧ laidMetH Tryd.prog irTables w) ∧ sizedMet enc Tryd.prog Tryd.f3 (OpenSpec.ofChange Rows.ssaBacksSpec) false w args)
      (Rows.ssaBacksSpec.post enc Tryd.prog Tryd.f3 false true false false) := by
  refine returnsInHanded_of_change_and (C := Tryd.checked) (X := fun w _ => laidMetH Tryd.prog irTables w) (fun _ _ _ hh h => h.of_heap hh) own started (by kernel_rfl) Tryd.func3
    (ChangeSpec.witness_shaped (enc := enc) (C := Tryd.checked) (os := os) (X := fun w _ => laidMetH Tryd.prog irTables w) false (World.doorLaid Tryd.prog 400 os) #[.agg #[.slice none 0 0, .slice none 0 0], .agg #[.string ByteArray.empty, .int .i64 0, .int .i64 0, .int .i64 0, .int .i64 0, .slice none 0 0]] 8 rfl (World.shaped_of_RefB (by kernel_rfl) (by kernel_rfl)) (by kernel_rfl) (by kernel_rfl) (by kernel_rfl) (ir_door_met os _)) ?_
  intro W base args ds gs before hval hW _ hsz hL _
  exact contract H enc W base args ds gs before hval hW hL hsz

theorem over : Rows.ssaBacksRow.holds Tryd.pinned (OpenSpec.ofChange Rows.ssaBacksSpec) :=
  OpenClaim.holds_of_wide 3 Tryd.f3 rfl rfl rfl rfl rfl rfl rfl ⟨rfl, rfl, rfl, rfl, rfl⟩ rfl rfl rfl rfl rfl (by kernel_rfl) Tryd.func3 (by kernel_rfl)
    (of_decide_eq_true (by kernel_rfl)) (by unfold Func.isWrapper; first | (rw [if_pos (by decide +kernel)]; kernel_rfl) | (rw [if_neg (by decide +kernel)]; exact ⟨rfl, rfl⟩))
    (fun os started H enc _ => lifted os started H enc)

theorem row_holds : Rows.SsaBacksSaid := over
theorem proved : Rows.SsaBacksCardSaid :=
  Claim7.holds_tied_plain_at .later [] [.data, .widerDeep] true (true, "8fd9fce121467a3ff9c88f0e45cb89b56f2e65bf968ab4a4c28d6dd67cad6ae6") false
    row_holds (fun _ h => by cases h) (by kernel_rfl) (fun _ h => by cases h) ssaBacks_row_tie rfl ⟨rfl, rfl⟩ (by kernel_rfl) rfl
    (fun f fn hf hfn => by
      obtain rfl : f = 3 := Option.some.inj ((show Tryd.prog.funcNamed "postern/posternlaw.SsaBacks" = some 3 by kernel_rfl).symm.trans hf) |>.symm
      obtain rfl : fn = Tryd.f3 := (Option.some.inj (Tryd.func3.symm.trans hfn)).symm
      exact ⟨by kernel_rfl, fun j t ht => by
        rw [Tryd.params3] at ht
        have hm : t ∈ [25, 28] := by simpa using Array.mem_of_getElem? ht
        have hall : ([25, 28].all fun u => !Tryd.prog.wantsStandIn u) = true := by kernel_rfl
        exact (show Tryd.prog.wantsStandIn t = false by simpa using List.all_eq_true.1 hall t hm)⟩)
    (by kernel_rfl)
#print axioms proved

end Go.Proofs.YthgfdcoicihpdaaDoor.ssaBacks

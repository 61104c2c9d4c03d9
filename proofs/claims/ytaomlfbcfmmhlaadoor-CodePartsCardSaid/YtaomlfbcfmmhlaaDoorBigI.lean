/-
  Texts joined: IrArm1 IrWord Zeros IrArm2 IrArm3 Build.
-/
import Derived.Test.YtaomlfbcfmmhlaaDoorBigH
import Derived.Deep.DeepCutAuto
import Derived.Deep.RegionHeld3
import Derived.Test.YtaomlfbcfmmhlaaDoorBigC
import Derived.Lib.AppendZerosOnto
import Derived.Lib.Builder

/-
  ir's machine, a step: constants, moves, math, ends (printed by wip/gen_irarms.py).
-/
namespace Go.Proofs.YtaomlfbcfmmhlaaDoor
open Go.RowKit Go.Pst
set_option linter.unusedVariables false
set_option linter.unusedSimpArgs false
variable [Old]
set_option maxRecDepth 100000 in
set_option maxHeartbeats 4000000 in
theorem ir_const (ρ : Nat → Option Lab) (t : Array Value) (w : World) (base bm bi : Nat) (v1 vW vL vF vX u1 u2 u5 : Value) (bF oF cF : Nat) (p : PProg) (limit end_ : Int) (words : List Int) (lines : List ByteArray) (f : Lev) (a : LA) (r : List (Lev × LA)) (i : PInstr) (xs : List Int)
    (h : IrPre ρ t w base bm bi v1 vW vL vF vX u1 u2 u5 bF oF cF p limit end_ words lines f a r i xs) (hi : i = instrAt p f) (hx : xs = argsF false f i) (e : i.op = 1) (d : Nat) (hd : i.ds = [(d : Int)]) (hdl : d < f.vars.length) :
    irS7.wp Tryd.prog (bodyPost Tryd.prog Tryd.f62 (IrStepPost base bm v1 bF oF cF p limit end_ (stepF p false limit (stateOf words lines ((f, a) :: r))))) ⟨t, []⟩ w := by
  have q1 : w.cell? ⟨a.gs, 1, none⟩ = some (.slice (some ⟨a.gv, 0, none⟩) f.vars.length f.vars.length) := (h.run.get (j := 1) rfl).1
  have hgl := (h.run.get (j := 1) rfl).2.2
  have hbl : bi < w.heap.size := (Array.getElem?_eq_some_iff.1 h.box).1
  have b0 : w.cell? ⟨bi, 0, none⟩ = some (.int .i64 1) := by simp [World.cell?, h.box, e]
  have b1 : w.cell? ⟨bi, 1, none⟩ = some u1 := by simp [World.cell?, h.box]
  have b3 : w.cell? ⟨bi, 3, none⟩ = some (.int .i64 i.n) := by simp [World.cell?, h.box]
  obtain ⟨bD, oD, cD, rfl, hD1, hD2⟩ : ∃ bD oD cD, u1 = .slice (some ⟨bD, oD, none⟩) 1 cD ∧ bD < base ∧ w.cell? ⟨bD, oD, none⟩ = some (.int .i64 d) := by
    obtain ⟨aD, cD, hv, -, -, hh⟩ := rInts_val h.i1
    rw [hd] at hv hh
    obtain ⟨b, o, rfl, hb, -, hc, -⟩ := hh 0 (by simp)
    exact ⟨b, o, cD, hv, hb, hc⟩
  have hd0 : (0 : Int) ≤ d := by omega
  have hd1 : (d : Int) < f.vars.length := by omega
  obtain ⟨_, _, hv2, -, -, hvl, hvc, hvz⟩ := row_get h.run.levs.1.vars (i := d) (u := .int .i64 f.vars[d]) (by simp [hdl])
  obtain ⟨rfl, -⟩ : a.gv = _ ∧ _ := by simpa using hv2
  clear hv2
  have hst : stepF p false limit (stateOf words lines ((f, a) :: r)) = (0, ⟨words, lines, Lev.setV { f with at_ := f.at_ + 1 } i i.n :: r.map (·.1)⟩) := by
    unfold stepF stateOf
    simp only [List.map_cons, ← hi, e, if_true]
  rw [hst]
  have ngs : ¬ a.gs = a.gv := fun e => by have h1 := h.run.levs.1.lt; rw [e, h.run.levs.1.lv] at h1; simp at h1
  have nbi : ¬ bi = a.gv := fun e => by have h1 := h.nb; rw [e, h.run.levs.1.lv] at h1; simp at h1
  have nbD : ¬ bD = a.gv := fun e => by have h1 : base ≤ a.gv := (h.run.levs.1.vars.lt _ rfl).1; omega
  have hk : ∀ b o u, ¬ b = a.gv → (w.setCell ⟨a.gv, d, none⟩ u).cell? ⟨b, o, none⟩ = w.cell? ⟨b, o, none⟩ := fun b o u hb => World.cell?_of_block (w := w) (Below.heap_setCell _ _ _ _ hb)
  have k0 := fun u => (hk (a.gs) (1) u ngs).trans q1
  have k1 := fun u => (hk (bi) (1) u nbi).trans b1
  have k2 := fun u => (hk (bD) (oD) u nbD).trans hD2
  have k3 := fun u => (hk (bi) (3) u nbi).trans b3
  have H := Lib.hid h
  unfold irS7
  conv => arg 2; whnf
  rw [frame262 t h.size, h.s0, h.s1, h.s5, h.s6, h.s7]
  have Hd := Lib.hid hd
  clear hk h hx hd hst e hi
  generalize f.vars[d] = old at *
  go_upto_region 11 with fail
  go_region_held3 (fun w' => w'.cell? ⟨a.gs, 1, none⟩ = some (.slice (some ⟨a.gv, 0, none⟩) f.vars.length f.vars.length) ∧ w'.cell? ⟨bi, 1, none⟩ = some (.slice (some ⟨bD, oD, none⟩) 1 cD) ∧ w'.cell? ⟨bD, oD, none⟩ = some (.int .i64 d) ∧ w'.cell? ⟨bi, 3, none⟩ = some (.int .i64 i.n)) (go_keep) (fail)
  all_goals go_wp2_with fail
  go_ret
  exact ⟨rfl, ρ, vW, vL, vF, _, (H.out.run.setV d i.n).since (Since.drew _ _), by simp [Lev.setV, getI, Hd.out]⟩

set_option maxRecDepth 100000 in
set_option maxHeartbeats 4000000 in
theorem ir_move (ρ : Nat → Option Lab) (t : Array Value) (w : World) (base bm bi : Nat) (v1 vW vL vF vX u1 u2 u5 : Value) (bF oF cF : Nat) (p : PProg) (limit end_ : Int) (words : List Int) (lines : List ByteArray) (f : Lev) (a : LA) (r : List (Lev × LA)) (i : PInstr) (xs : List Int)
    (h : IrPre ρ t w base bm bi v1 vW vL vF vX u1 u2 u5 bF oF cF p limit end_ words lines f a r i xs) (hi : i = instrAt p f) (hx : xs = argsF false f i) (e : i.op = 2) (d : Nat) (hd : i.ds = [(d : Int)]) (hdl : d < f.vars.length) (y : Nat) (ha : i.ars = [(y : Int)]) :
    irS7.wp Tryd.prog (bodyPost Tryd.prog Tryd.f62 (IrStepPost base bm v1 bF oF cF p limit end_ (stepF p false limit (stateOf words lines ((f, a) :: r))))) ⟨t, []⟩ w := by
  obtain ⟨x0, hxs⟩ : ∃ x0, xs = [x0] := by
    rw [hx]
    exact ⟨getI (f.src false i) (y : Int), by simp [argsF, e, ha]⟩
  have q1 : w.cell? ⟨a.gs, 1, none⟩ = some (.slice (some ⟨a.gv, 0, none⟩) f.vars.length f.vars.length) := (h.run.get (j := 1) rfl).1
  have hgl := (h.run.get (j := 1) rfl).2.2
  have hbl : bi < w.heap.size := (Array.getElem?_eq_some_iff.1 h.box).1
  have b0 : w.cell? ⟨bi, 0, none⟩ = some (.int .i64 2) := by simp [World.cell?, h.box, e]
  have b1 : w.cell? ⟨bi, 1, none⟩ = some u1 := by simp [World.cell?, h.box]
  obtain ⟨bD, oD, cD, rfl, hD1, hD2⟩ : ∃ bD oD cD, u1 = .slice (some ⟨bD, oD, none⟩) 1 cD ∧ bD < base ∧ w.cell? ⟨bD, oD, none⟩ = some (.int .i64 d) := by
    obtain ⟨aD, cD, hv, -, -, hh⟩ := rInts_val h.i1
    rw [hd] at hv hh
    obtain ⟨b, o, rfl, hb, -, hc, -⟩ := hh 0 (by simp)
    exact ⟨b, o, cD, hv, hb, hc⟩
  have hd0 : (0 : Int) ≤ d := by omega
  have hd1 : (d : Int) < f.vars.length := by omega
  obtain ⟨_, _, hv2, -, -, hvl, hvc, hvz⟩ := row_get h.run.levs.1.vars (i := d) (u := .int .i64 f.vars[d]) (by simp [hdl])
  obtain ⟨rfl, -⟩ : a.gv = _ ∧ _ := by simpa using hv2
  clear hv2
  have hXrow := Lib.hid h.row
  obtain ⟨gX, cX, rfl, hX1, -, hXl, hX2, -⟩ := row_get h.row (i := 0) (u := .int .i64 x0) (by simp [hxs])
  have hXn := h.nx gX hX1
  have hXe : xs.length = 1 := by rw [hxs]; rfl
  have hst : stepF p false limit (stateOf words lines ((f, a) :: r)) = (0, ⟨words, lines, Lev.setV { f with at_ := f.at_ + 1 } i x0 :: r.map (·.1)⟩) := by
    unfold stepF stateOf
    simp only [List.map_cons, ← hi, ← hx, e, hxs]
    rfl
  rw [hst]
  have ngs : ¬ a.gs = a.gv := fun e => by have h1 := h.run.levs.1.lt; rw [e, h.run.levs.1.lv] at h1; simp at h1
  have nbi : ¬ bi = a.gv := fun e => by have h1 := h.nb; rw [e, h.run.levs.1.lv] at h1; simp at h1
  have nbD : ¬ bD = a.gv := fun e => by have h1 : base ≤ a.gv := (h.run.levs.1.vars.lt _ rfl).1; omega
  have ngX : ¬ gX = a.gv := fun e => by have h1 := hXn.1; rw [e, h.run.levs.1.lv] at h1; simp at h1
  have hk : ∀ b o u, ¬ b = a.gv → (w.setCell ⟨a.gv, d, none⟩ u).cell? ⟨b, o, none⟩ = w.cell? ⟨b, o, none⟩ := fun b o u hb => World.cell?_of_block (w := w) (Below.heap_setCell _ _ _ _ hb)
  have k0 := fun u => (hk (a.gs) (1) u ngs).trans q1
  have k1 := fun u => (hk (bi) (1) u nbi).trans b1
  have k2 := fun u => (hk (bD) (oD) u nbD).trans hD2
  have k3 := fun u => (hk (gX) (0) u ngX).trans hX2
  have H := Lib.hid h
  unfold irS7
  conv => arg 2; whnf
  rw [frame262 t h.size, h.s0, h.s1, h.s5, h.s6, h.s7]
  have Hd := Lib.hid hd
  rw [hXe]
  clear hk h hx hd hst e hi hxs hX1 hXn hXe ha
  generalize f.vars[d] = old at *
  go_upto_region 13 with fail
  go_region_held3 (fun w' => w'.cell? ⟨a.gs, 1, none⟩ = some (.slice (some ⟨a.gv, 0, none⟩) f.vars.length f.vars.length) ∧ w'.cell? ⟨bi, 1, none⟩ = some (.slice (some ⟨bD, oD, none⟩) 1 cD) ∧ w'.cell? ⟨bD, oD, none⟩ = some (.int .i64 d) ∧ w'.cell? ⟨gX, 0, none⟩ = some (.int .i64 x0)) (go_keep) (fail)
  all_goals go_wp2_with fail
  go_ret
  exact ⟨rfl, ρ, vW, vL, vF, _, (H.out.run.setV d x0).since (Since.drew _ _), by simp [Lev.setV, getI, Hd.out]⟩

set_option maxRecDepth 100000 in
set_option maxHeartbeats 4000000 in
theorem ir_fail (ρ : Nat → Option Lab) (t : Array Value) (w : World) (base bm bi : Nat) (v1 vW vL vF vX u1 u2 u5 : Value) (bF oF cF : Nat) (p : PProg) (limit end_ : Int) (words : List Int) (lines : List ByteArray) (f : Lev) (a : LA) (r : List (Lev × LA)) (i : PInstr) (xs : List Int)
    (h : IrPre ρ t w base bm bi v1 vW vL vF vX u1 u2 u5 bF oF cF p limit end_ words lines f a r i xs) (hi : i = instrAt p f) (hx : xs = argsF false f i) (e : i.op = 13) :
    irS7.wp Tryd.prog (bodyPost Tryd.prog Tryd.f62 (IrStepPost base bm v1 bF oF cF p limit end_ (stepF p false limit (stateOf words lines ((f, a) :: r))))) ⟨t, []⟩ w := by
  have q1 : w.cell? ⟨a.gs, 1, none⟩ = some (.slice (some ⟨a.gv, 0, none⟩) f.vars.length f.vars.length) := (h.run.get (j := 1) rfl).1
  have hgl := (h.run.get (j := 1) rfl).2.2
  have hbl : bi < w.heap.size := (Array.getElem?_eq_some_iff.1 h.box).1
  have b0 : w.cell? ⟨bi, 0, none⟩ = some (.int .i64 13) := by simp [World.cell?, h.box, e]
  have b3 : w.cell? ⟨bi, 3, none⟩ = some (.int .i64 i.n) := by simp [World.cell?, h.box]
  have hst : stepF p false limit (stateOf words lines ((f, a) :: r)) = (i.n, ⟨words, lines, { f with at_ := f.at_ + 1 } :: r.map (·.1)⟩) := by
    unfold stepF stateOf
    simp only [List.map_cons, ← hi, ← hx, e]
    rfl
  rw [hst]
  have H := Lib.hid h
  unfold irS7
  conv => arg 2; whnf
  rw [frame262 t h.size, h.s0, h.s1, h.s5, h.s6, h.s7]
  clear h hx hst e hi
  go_wp2_with fail
  go_ret
  exact ⟨rfl, ρ, vW, vL, vF, _, H.out.run, by simp⟩

set_option maxRecDepth 100000 in
set_option maxHeartbeats 4000000 in
theorem ir_math (ρ : Nat → Option Lab) (t : Array Value) (w : World) (base bm bi : Nat) (v1 vW vL vF vX u1 u2 u5 : Value) (bF oF cF : Nat) (p : PProg) (limit end_ : Int) (words : List Int) (lines : List ByteArray) (f : Lev) (a : LA) (r : List (Lev × LA)) (i : PInstr) (xs : List Int)
    (h : IrPre ρ t w base bm bi v1 vW vL vF vX u1 u2 u5 bF oF cF p limit end_ words lines f a r i xs) (hi : i = instrAt p f) (hx : xs = argsF false f i) (e : i.op = 3) (hs : i.s ∈ mathsF) (d : Nat) (hd : i.ds = [(d : Int)]) (hdl : d < f.vars.length) (y z : Nat) (ha : i.ars = [(y : Int), (z : Int)]) (hxI : ∀ x ∈ xs, InI x) :
    irS7.wp Tryd.prog (bodyPost Tryd.prog Tryd.f62 (IrStepPost base bm v1 bF oF cF p limit end_ (stepF p false limit (stateOf words lines ((f, a) :: r))))) ⟨t, []⟩ w := by
  obtain ⟨x0, x1, hxs⟩ : ∃ x0 x1, xs = [x0 , x1] := by
    rw [hx]
    exact ⟨getI (f.src false i) (y : Int), getI (f.src false i) (z : Int), by simp [argsF, e, ha]⟩
  have q1 : w.cell? ⟨a.gs, 1, none⟩ = some (.slice (some ⟨a.gv, 0, none⟩) f.vars.length f.vars.length) := (h.run.get (j := 1) rfl).1
  have hgl := (h.run.get (j := 1) rfl).2.2
  have hbl : bi < w.heap.size := (Array.getElem?_eq_some_iff.1 h.box).1
  have b0 : w.cell? ⟨bi, 0, none⟩ = some (.int .i64 3) := by simp [World.cell?, h.box, e]
  have b1 : w.cell? ⟨bi, 1, none⟩ = some u1 := by simp [World.cell?, h.box]
  have b4 : w.cell? ⟨bi, 4, none⟩ = some (.string i.s) := by simp [World.cell?, h.box]
  obtain ⟨bD, oD, cD, rfl, hD1, hD2⟩ : ∃ bD oD cD, u1 = .slice (some ⟨bD, oD, none⟩) 1 cD ∧ bD < base ∧ w.cell? ⟨bD, oD, none⟩ = some (.int .i64 d) := by
    obtain ⟨aD, cD, hv, -, -, hh⟩ := rInts_val h.i1
    rw [hd] at hv hh
    obtain ⟨b, o, rfl, hb, -, hc, -⟩ := hh 0 (by simp)
    exact ⟨b, o, cD, hv, hb, hc⟩
  have hd0 : (0 : Int) ≤ d := by omega
  have hd1 : (d : Int) < f.vars.length := by omega
  obtain ⟨_, _, hv2, -, -, hvl, hvc, hvz⟩ := row_get h.run.levs.1.vars (i := d) (u := .int .i64 f.vars[d]) (by simp [hdl])
  obtain ⟨rfl, -⟩ : a.gv = _ ∧ _ := by simpa using hv2
  clear hv2
  have hXrow := Lib.hid h.row
  obtain ⟨gX, cX, rfl, hX1, -, hXl, hX2, -⟩ := row_get h.row (i := 0) (u := .int .i64 x0) (by simp [hxs])
  have hX3 : w.cell? ⟨gX, 1, none⟩ = some (.int .i64 x1) := by
    obtain ⟨_, _, hv3, -, -, -, hc3, -⟩ := row_get h.row (i := 1) (u := .int .i64 x1) (by simp [hxs])
    obtain ⟨rfl, -⟩ : gX = _ ∧ _ := by simpa using hv3
    exact hc3
  have hXn := h.nx gX hX1
  have hXe : xs.length = 2 := by rw [hxs]; rfl
  have hc := fun w => irMath_any i.s x0 x1 w hs (hxI x0 (by simp [hxs])) (hxI x1 (by simp [hxs]))
  have Hc := Lib.hid hc
  have hst0 : stepF p false limit (stateOf words lines ((f, a) :: r)) = if (sumF i.s x0 x1).2 = 0 then (0, ⟨words, lines, Lev.setV { f with at_ := f.at_ + 1 } i (sumF i.s x0 x1).1 :: r.map (·.1)⟩) else ((sumF i.s x0 x1).2, ⟨words, lines, { f with at_ := f.at_ + 1 } :: r.map (·.1)⟩) := by
    unfold stepF stateOf
    simp only [List.map_cons, ← hi, ← hx, e, hxs]
    rfl
  generalize hsum : sumF i.s x0 x1 = sm at *
  have HS := Lib.hid hsum
  by_cases hz : sm.2 = 0
  · have ngs : ¬ a.gs = a.gv := fun e => by have h1 := h.run.levs.1.lt; rw [e, h.run.levs.1.lv] at h1; simp at h1
    have nbi : ¬ bi = a.gv := fun e => by have h1 := h.nb; rw [e, h.run.levs.1.lv] at h1; simp at h1
    have nbD : ¬ bD = a.gv := fun e => by have h1 : base ≤ a.gv := (h.run.levs.1.vars.lt _ rfl).1; omega
    have hk : ∀ b o u, ¬ b = a.gv → (w.setCell ⟨a.gv, d, none⟩ u).cell? ⟨b, o, none⟩ = w.cell? ⟨b, o, none⟩ := fun b o u hb => World.cell?_of_block (w := w) (Below.heap_setCell _ _ _ _ hb)
    have k0 := fun u => (hk (a.gs) (1) u ngs).trans q1
    have k1 := fun u => (hk (bi) (1) u nbi).trans b1
    have k2 := fun u => (hk (bD) (oD) u nbD).trans hD2
    rw [hst0, if_pos hz]
    have H := Lib.hid h
    unfold irS7
    conv => arg 2; whnf
    rw [frame262 t h.size, h.s0, h.s1, h.s5, h.s6, h.s7]
    have Hd := Lib.hid hd
    have hzb : (sm.2 == 0) = true := by simp [hz]
    have Hz := Lib.hid hz
    rw [hXe]
    clear hk h hx hd hst0 e hi hxs hX1 hXn hXe ha hc hsum hz
    generalize f.vars[d] = old at *
    go_upto_region 16 with fail
    go_cut [10, 11] from 69 to 80 (fun s10 s11 wx => s10 = .int .i64 sm.2 ∧ s11 = .int .i64 sm.1 ∧ wx = w.drew)
    case first =>
      go_region_held3 (fun w' => w'.cell? ⟨bi, 4, none⟩ = some (.string i.s) ∧ w'.cell? ⟨gX, 0, none⟩ = some (.int .i64 x0) ∧ w'.cell? ⟨gX, 1, none⟩ = some (.int .i64 x1)) (go_keep) ((first | (go_at_call 104; refine (Hc.out _).mono ?_; rintro e w' ⟨rfl, rfl⟩)))
      all_goals (go_wp2_with fail; go_meet; exact ⟨rfl, rfl, rfl⟩)
    case rest =>
      obtain ⟨rfl, rfl, rfl⟩ := hcut
      go_upto_region 18 with fail
      go_region_held3 (fun w' => w'.cell? ⟨a.gs, 1, none⟩ = some (.slice (some ⟨a.gv, 0, none⟩) f.vars.length f.vars.length) ∧ w'.cell? ⟨bi, 1, none⟩ = some (.slice (some ⟨bD, oD, none⟩) 1 cD) ∧ w'.cell? ⟨bD, oD, none⟩ = some (.int .i64 d)) (go_keep) (fail)
      all_goals go_wp2_with fail
      go_ret
      exact ⟨by rw [Hz.out]; rfl, ρ, vW, vL, vF, _, ((H.out.run.setV d sm.1).since (Since.drew _ _)).since (Since.drew _ _), by simp [Lev.setV, getI, Hd.out]⟩
  · rw [hst0, if_neg hz]
    have H := Lib.hid h
    unfold irS7
    conv => arg 2; whnf
    rw [frame262 t h.size, h.s0, h.s1, h.s5, h.s6, h.s7]
    have hzb : (sm.2 == 0) = false := by simp [hz]
    rw [hXe]
    clear h hx hd hst0 e hi hxs hX1 hXn hXe ha hc hsum hz
    go_upto_region 16 with fail
    go_cut [10, 11] from 69 to 80 (fun s10 s11 wx => s10 = .int .i64 sm.2 ∧ s11 = .int .i64 sm.1 ∧ wx = w.drew)
    case first =>
      go_region_held3 (fun w' => w'.cell? ⟨bi, 4, none⟩ = some (.string i.s) ∧ w'.cell? ⟨gX, 0, none⟩ = some (.int .i64 x0) ∧ w'.cell? ⟨gX, 1, none⟩ = some (.int .i64 x1)) (go_keep) ((first | (go_at_call 104; refine (Hc.out _).mono ?_; rintro e w' ⟨rfl, rfl⟩)))
      all_goals (go_wp2_with fail; go_meet; exact ⟨rfl, rfl, rfl⟩)
    case rest =>
      obtain ⟨rfl, rfl, rfl⟩ := hcut
      go_wp2_with fail
      go_ret
      exact ⟨rfl, ρ, vW, vL, vF, _, H.out.run.since (Since.drew _ _), by simp⟩
end Go.Proofs.YtaomlfbcfmmhlaaDoor

/-
  ir's machine: the place of a word: the contract.
-/
namespace Go.Proofs.YtaomlfbcfmmhlaaDoor
open Go.RowKit Go.Pst
set_option linter.unusedVariables false
set_option linter.unusedSimpArgs false

theorem placeF_plain {a n : Int} {len : Nat} (hl : len ≤ 20000) : placeF a n len = if 0 ≤ a ∧ 0 ≤ a + n ∧ a + n < len then a + n else -1 := by
  unfold placeF
  by_cases h : 0 ≤ a ∧ 0 ≤ a + n ∧ a + n < len
  · rw [if_pos h, if_neg (by omega), if_neg (by omega), if_neg (by omega), if_pos (by omega)]
  · rw [if_neg h]
    split
    · rfl
    split
    · rfl
    split
    · rfl
    rw [if_neg (by omega)]

def WordPost (gW : Option Addr) (a n : Int) (len : Nat) (w : World) (e : Ending) (w' : World) : Prop :=
  w = w' ∧ ((placeF a n len < 0 ∧ e = .returned (.tuple #[.pointer none, .bool false])) ∨ (∃ k g : Nat, placeF a n len = k ∧ k < len ∧ gW = some ⟨g, 0, none⟩ ∧ e = .returned (.tuple #[.pointer (some ⟨g, k, none⟩), .bool true])))

set_option maxRecDepth 100000 in
set_option maxHeartbeats 2000000 in
theorem irWord_any (bm : Nat) (aW : Option Addr) (len cW : Nat) (a n : Int) (w : World) (hlen : len ≤ 20000) (hcap : len ≤ cW) (ha : InI a) (hn : InI n) (hc : w.cell? ⟨bm, 2, none⟩ = some (.slice aW len cW)) (hA : 0 < len → ∃ g, aW = some ⟨g, 0, none⟩) :
    Calls Tryd.prog 105 #[.pointer (some ⟨bm, 0, none⟩), .int .i64 a, .int .i64 n] w (WordPost aW a n len w) := by
  obtain ⟨ha1, ha2⟩ := ha
  obtain ⟨hn1, hn2⟩ := hn
  have hp := placeF_plain (a := a) (n := n) hlen
  obtain ⟨nn, hnn⟩ : ∃ nn, wrap64 (-n) = nn := ⟨_, rfl⟩
  obtain ⟨kk, hkk⟩ : ∃ kk, wrap64 (a + n) = kk := ⟨_, rfl⟩
  have bad : (a < 0 ∨ (n < 0 ∧ a < nn) ∨ kk < 0 ∨ kk ≥ len) → placeF a n len = -1 := fun hb => by
    rw [hp, if_neg]
    unfold wrap64 at hnn hkk
    omega
  have good : ¬ a < 0 → ¬ (n < 0 ∧ a < nn) → ¬ kk < 0 → ¬ kk ≥ len → placeF a n len = kk ∧ kk = a + n := fun h1 h2 h3 h4 => by
    have : kk = a + n := by unfold wrap64 at hnn hkk; omega
    rw [hp, if_pos (by omega)]
    exact ⟨this.symm, this⟩
  have Bad := Lib.hid bad
  have Good' := Lib.hid good
  have HA := Lib.hid hA
  clear bad good hp hA
  by_cases h1 : a < 0
  · have d1 : decide (a < 0) = true := decide_eq_true h1
    have HB := Lib.hid (Bad.out (Or.inl h1))
    go_enter Tryd.func105, Tryd.ntmps105
    go_wp2_with fail
    go_ret2
    exact ⟨rfl, Or.inl ⟨by rw [HB.out]; decide, rfl⟩⟩
  have d1 : decide (a < 0) = false := decide_eq_false h1
  by_cases h2 : n < 0
  · have d2 : decide (n < 0) = true := decide_eq_true h2
    by_cases h3 : a < nn
    · have d3 : decide (a < nn) = true := decide_eq_true h3
      have HB := Lib.hid (Bad.out (Or.inr (Or.inl ⟨h2, h3⟩)))
      go_enter Tryd.func105, Tryd.ntmps105
      go_wp2_with fail
      go_ret2
      exact ⟨rfl, Or.inl ⟨by rw [HB.out]; decide, rfl⟩⟩
    have d3 : decide (a < nn) = false := decide_eq_false h3
    obtain rfl : kk = a + n := by unfold wrap64 at hkk; omega
    have Hkk := Lib.hid hkk
    clear hkk
    by_cases h4 : (a + n) < 0
    · have d4 : decide ((a + n) < 0) = true := decide_eq_true h4
      have HB := Lib.hid (Bad.out (Or.inr (Or.inr (Or.inl h4))))
      go_enter Tryd.func105, Tryd.ntmps105
      go_wp2_with fail
      go_ret2
      exact ⟨rfl, Or.inl ⟨by rw [HB.out]; decide, rfl⟩⟩
    have d4 : decide ((a + n) < 0) = false := decide_eq_false h4
    by_cases h5 : (a + n) ≥ len
    · have d5 : decide ((a + n) ≥ (len : Int)) = true := decide_eq_true h5
      have HB := Lib.hid (Bad.out (Or.inr (Or.inr (Or.inr h5))))
      go_enter Tryd.func105, Tryd.ntmps105
      go_wp2_with fail
      go_ret2
      exact ⟨rfl, Or.inl ⟨by rw [HB.out]; decide, rfl⟩⟩
    have d5 : decide ((a + n) ≥ (len : Int)) = false := decide_eq_false h5
    have hg := Good'.out h1 (fun h => h3 h.2) h4 h5
    obtain ⟨k, hk⟩ := Int.eq_ofNat_of_zero_le (show 0 ≤ (a + n) by omega)
    obtain ⟨g, rfl⟩ := HA.out (by omega)
    have hk0 : (0 : Int) ≤ k := by omega
    have hk1 : (k : Int) < len := by omega
    rw [hk] at hg
    have HG := Lib.hid hg
    clear hg Good'
    go_enter Tryd.func105, Tryd.ntmps105
    go_wp2_with fail
    go_ret2
    exact ⟨rfl, Or.inr ⟨k, g, HG.out.1, by omega, rfl, rfl⟩⟩
  have d2 : decide (n < 0) = false := decide_eq_false h2
  by_cases h4 : kk < 0
  · have d4 : decide (kk < 0) = true := decide_eq_true h4
    have HB := Lib.hid (Bad.out (Or.inr (Or.inr (Or.inl h4))))
    go_enter Tryd.func105, Tryd.ntmps105
    go_wp2_with fail
    go_ret2
    exact ⟨rfl, Or.inl ⟨by rw [HB.out]; decide, rfl⟩⟩
  have d4 : decide (kk < 0) = false := decide_eq_false h4
  by_cases h5 : kk ≥ len
  · have d5 : decide (kk ≥ (len : Int)) = true := decide_eq_true h5
    have HB := Lib.hid (Bad.out (Or.inr (Or.inr (Or.inr h5))))
    go_enter Tryd.func105, Tryd.ntmps105
    go_wp2_with fail
    go_ret2
    exact ⟨rfl, Or.inl ⟨by rw [HB.out]; decide, rfl⟩⟩
  have d5 : decide (kk ≥ (len : Int)) = false := decide_eq_false h5
  have hg := Good'.out h1 (fun h => h2 h.1) h4 h5
  obtain ⟨k, rfl⟩ := Int.eq_ofNat_of_zero_le (show 0 ≤ kk by omega)
  obtain ⟨g, rfl⟩ := HA.out (by omega)
  have hk0 : (0 : Int) ≤ k := by omega
  have hk1 : (k : Int) < len := by omega
  have HG := Lib.hid hg
  clear hg Good'
  go_enter Tryd.func105, Tryd.ntmps105
  go_wp2_with fail
  go_ret2
  exact ⟨rfl, Or.inr ⟨k, g, HG.out.1, by omega, rfl, rfl⟩⟩
end Go.Proofs.YtaomlfbcfmmhlaaDoor

/-
  A law of no program: 'append(s, make([]int, k)...)' onto a row of ints that the call owns.
-/
namespace Go.Pst
open Go.RowKit
set_option linter.unusedVariables false
set_option linter.unusedSimpArgs false

theorem zeroCells_ints (k : Nat) : (Builtin.zeroCells #[.int .i64 0] k).toList = List.replicate k (.int .i64 0) := by
  apply List.ext_getElem
  · simp [Builtin.zeroCells]
  · intro j h1 h2
    simp [Builtin.zeroCells, Nat.mod_one]

theorem run_append_zeros {P : Program} (w : World) (base : Nat) (t tn ty e : TypeId) (i : TypeInfo) (ht : P.underlying t = some (.slice e)) (htn : P.underlying tn = some (.int .i64)) (hi : P.info? e = some i) (hz : i.zero = some (.int .i64 0)) (hsize : i.size = 1) (hby : i.bytes = 8)
    (v : Value) (n : Nat) (xs : List Value) (hown : w.ownsRow base e 1 v n xs) (k : Nat) (hk : n + k ≤ 100000) (hbase : base ≤ w.heap.size) :
    ∃ v' w', (Builtin.append_ #[t, tn] ty #[v, .int .i64 k]).run P w = .ok v' w' ∧ w'.ownsRow base e 1 v' (n + k) (xs ++ List.replicate k (.int .i64 0)) ∧ w.grownBy w' v.ownBlock ∧ (v'.ownBlock = v.ownBlock ∨ v'.ownBlock = some w.heap.size) := by
  have hw : IntKind.i64.wrap (k : Int) = k := by rw [IntKind.wrap_i64]; omega
  have hneg : ¬ ((k : Int) < 0) := by omega
  have h48i : ¬ (281474976710656 < (k : Int) * 8) := by omega
  have hlen : (xs ++ List.replicate k (Value.int .i64 0)).length = (n + k) * 1 := by rw [List.length_append, hown.1, List.length_replicate]; omega
  have hw0 : IntKind.i64.wrap 0 = 0 := by decide
  by_cases h0 : k = 0
  · subst h0
    obtain ⟨a, cap, rfl, hle, hcm⟩ := row_slice hown
    refine ⟨.slice a n cap, w, ?_, by simpa using hown, ⟨rfl, rfl, rfl, Nat.le_refl _, fun _ _ _ => rfl⟩, Or.inl rfl⟩
    cases a <;> simp [Builtin.append_, run_underlying ht, run_underlying htn, sizeOf, typeInfo, zeroValue, hi, hz, asInt, asIntOf, hsize, hby, hle, hw0, storeCells]
  have grown : ∀ (old : Nat), old < n + k → ∀ (row : Option Nat),
      (w.drew.alloc (.cells (xs.toArray ++ Builtin.zeroCells #[.int .i64 0] k ++ Builtin.zeroCells #[.int .i64 0] (grownCap w (n + k) old e - (n + k))) e)).ownsRow base e 1
        (.slice (some ⟨w.heap.size, 0, none⟩) (n + k) (grownCap w (n + k) old e)) (n + k) (xs ++ List.replicate k (.int .i64 0)) ∧
      w.grownBy (w.drew.alloc (.cells (xs.toArray ++ Builtin.zeroCells #[.int .i64 0] k ++ Builtin.zeroCells #[.int .i64 0] (grownCap w (n + k) old e - (n + k))) e)) row := by
    intro old ho row
    have hge := grownCap_ge w (n + k) old e
    have hcm : grownCap w (n + k) old e ≤ maxLen := grownCap_le_maxLen w (n + k) old e (by unfold maxLen; omega)
    have hxl := hown.1
    refine ⟨⟨hlen, .inr ⟨w.heap.size, _, _, rfl, hbase, heap_alloc_new w.drew _, hge, hcm, ?_, ?_⟩⟩, ⟨rfl, rfl, rfl, by simp, fun k hk _ => heap_alloc_old w.drew _ hk⟩⟩
    · simp [size_zeroCells, hxl]
      omega
    · simp only [Array.toList_append, zeroCells_ints, List.append_assoc]
      rw [← List.append_assoc, ← hlen]
      exact List.take_left
  rcases hown.2 with ⟨rfl, rfl⟩ | ⟨g, cap, cur, rfl, hbg, hg, hnc, hcm, hcs, htake⟩
  · have hx : xs = [] := List.eq_nil_of_length_eq_zero (by simpa using hown.1)
    subst hx
    have hr := Lib.run_append_nil_zeros (P := P) w t tn ty e i _ .i64 .i64 ht htn hi hz k (by omega) (by omega) (by omega) (by rw [hby]; omega)
    have hgr := grown 0 (by omega) (Value.ownBlock (.slice none 0 0))
    simp only [Nat.zero_add, List.nil_append, Array.empty_append] at hgr ⊢
    exact ⟨_, _, hr, hgr.1, hgr.2, Or.inr rfl⟩
  · by_cases hroom : n + k ≤ cap
    · have hst := run_storeCells_at P g (n * 1) e (List.replicate k (Value.int .i64 0)) 0 cur w hg (by simp; omega) (by intro u hu; rw [List.eq_of_mem_replicate hu]; rfl)
      simp only [Nat.add_zero] at hst
      obtain ⟨C, hC⟩ : ∃ C, C = (cur.toList.take (n * 1) ++ List.replicate k (Value.int .i64 0) ++ cur.toList.drop (n * 1 + (List.replicate k (Value.int .i64 0)).length)).toArray := ⟨_, rfl⟩
      have hrun : (Builtin.append_ #[t, tn] ty #[.slice (some ⟨g, 0, none⟩) n cap, .int .i64 k]).run P w = .ok (.slice (some ⟨g, 0, none⟩) (n + k) cap) (w.setRow g C) := by
        rw [← hC] at hst
        simp [Builtin.append_, run_underlying ht, run_underlying htn, sizeOf, typeInfo, zeroValue, hi, hz, asInt, asIntOf, hw, hneg, hsize, hby, h48i, h0, hroom, Addr.add_lit, zeroCells_ints, Value.cells]
        have hst' : (storeCells ⟨g, n, none⟩ (List.replicate k (Value.int .i64 0))).run P w = .ok () (w.setRow g C) := by simpa using hst
        rw [hst']
        rfl
      refine ⟨_, _, hrun, ⟨hlen, .inr ⟨g, cap, C, rfl, hbg, setRow_heap w g cur C e _ hg, hroom, hcm, ?_, ?_⟩⟩, ⟨rfl, rfl, rfl, by simp [World.setRow], fun k' _ hk' => setRow_other w g k' C (fun e' => hk' (by simp [Value.ownBlock, e']))⟩, Or.inl rfl⟩
      · rw [hC]
        simp
        omega
      · rw [hC, htake]
        have := hlen
        show List.take ((n + k) * 1) (xs ++ List.replicate k (Value.int .i64 0) ++ _) = _
        rw [← hlen]
        exact List.take_left
    · have holds : ∀ j u, xs[j]? = some u → w.cell? ((⟨g, 0, none⟩ : Addr).add j) = some u := hown.cells (g := g) rfl
      have hold := run_firstCells_some (P := P) w.drew i.size n ⟨g, 0, none⟩ n cap xs (by rw [hown.1, hsize]) (by simpa using holds)
      have hfit := growslice_fits (need := n + k) (old := cap) (bytes := i.bytes) (by omega) (by rw [hby]; omega)
      have hr := Lib.run_append_grow_zeros (P := P) w t tn ty e i _ .i64 .i64 ht htn hi hz (some ⟨g, 0, none⟩) n cap xs hold k (by omega) (by omega) (by omega) (by omega) (by rw [hby]; omega) hfit
      have hgr := grown cap (by omega) (Value.ownBlock (.slice (some ⟨g, 0, none⟩) n cap))
      exact ⟨_, _, hr, hgr.1, hgr.2, Or.inr rfl⟩
end Go.Pst

/-
  ir's machine, a step: words (printed by wip/gen_irarms.py).
-/
namespace Go.Proofs.YtaomlfbcfmmhlaaDoor
open Go.RowKit Go.Pst
set_option linter.unusedVariables false
set_option linter.unusedSimpArgs false
theorem irWord_no (bm : Nat) (aW : Option Addr) (len cW : Nat) (a n : Int) (w : World) (hlen : len ≤ 20000) (hcap : len ≤ cW) (ha : InI a) (hn : InI n) (hA : 0 < len → ∃ g, aW = some ⟨g, 0, none⟩) (hz : placeF a n len < 0) (hc : w.cell? ⟨bm, 2, none⟩ = some (.slice aW len cW)) :
    Calls Tryd.prog 105 #[.pointer (some ⟨bm, 0, none⟩), .int .i64 a, .int .i64 n] w fun e w' => e = .returned (.tuple #[.pointer none, .bool false]) ∧ w = w' := by
  refine (irWord_any bm aW len cW a n w hlen hcap ha hn hc hA).mono ?_
  rintro e w' ⟨hw, ⟨-, he⟩ | ⟨k, g, hk, -⟩⟩
  · exact ⟨he, hw⟩
  · omega
theorem irWord_yes (bm gW : Nat) (len cW : Nat) (a n : Int) (k : Nat) (w : World) (hlen : len ≤ 20000) (hcap : len ≤ cW) (ha : InI a) (hn : InI n) (hz : placeF a n len = k) (hc : w.cell? ⟨bm, 2, none⟩ = some (.slice (some ⟨gW, 0, none⟩) len cW)) :
    Calls Tryd.prog 105 #[.pointer (some ⟨bm, 0, none⟩), .int .i64 a, .int .i64 n] w fun e w' => e = .returned (.tuple #[.pointer (some ⟨gW, k, none⟩), .bool true]) ∧ w = w' := by
  refine (irWord_any bm _ len cW a n w hlen hcap ha hn hc (fun _ => ⟨gW, rfl⟩)).mono ?_
  rintro e w' ⟨hw, ⟨h1, he⟩ | ⟨k', g, hk, -, hg, he⟩⟩
  · omega
  · obtain rfl : gW = g := by simpa using hg
    obtain rfl : k' = k := by omega
    exact ⟨he, hw⟩
variable [Old]
theorem IrAt.setW {ρ : Nat → Option Lab} {w : World} {base bm : Nat} {v1 vL vF : Value} {bF oF cF : Nat} {p : PProg} {limit end_ : Int} {words : List Int} {lines : List ByteArray} {fr : List (Lev × LA)} {gW cW : Nat}
    (h : IrAt ρ w base bm v1 (.slice (some ⟨gW, 0, none⟩) words.length cW) vL vF bF oF cF p limit end_ words lines fr) (k : Nat) (x : Int) :
    IrAt ρ (w.setCell ⟨gW, k, none⟩ (.int .i64 x)) base bm v1 (.slice (some ⟨gW, 0, none⟩) words.length cW) vL vF bF oF cF p limit end_ (words.set k x) lines fr := by
  have hs := Since.setCell w ⟨gW, k, none⟩ (.int .i64 x)
  have hl := h.lw gW rfl
  have hB : ∀ k', k' = gW → base ≤ k' := fun k' e => by rw [e]; exact (h.oW.lt gW rfl).1
  refine h.upd hs hB (fun k' e => by rw [show k' = gW from e, hl]; simp) ?_ (h.sL hs (fun k' e => by rw [show k' = gW from e, hl]; simp)) (h.sF hs (fun k' e => by rw [show k' = gW from e, hl]; simp)) (LevsIr.since hs hB h.levs (fun k' j e _ => by rw [show k' = gW from e, hl]; simp))
  have := row_put h.oW k (.int .i64 x)
  simpa using this

set_option maxRecDepth 100000 in
set_option maxHeartbeats 4000000 in
theorem ir_load (ρ : Nat → Option Lab) (t : Array Value) (w : World) (base bm bi : Nat) (v1 vW vL vF vX u1 u2 u5 : Value) (bF oF cF : Nat) (p : PProg) (limit end_ : Int) (words : List Int) (lines : List ByteArray) (f : Lev) (a : LA) (r : List (Lev × LA)) (i : PInstr) (xs : List Int)
    (h : IrPre ρ t w base bm bi v1 vW vL vF vX u1 u2 u5 bF oF cF p limit end_ words lines f a r i xs) (hi : i = instrAt p f) (hx : xs = argsF false f i) (e : i.op = 4) (d : Nat) (hd : i.ds = [(d : Int)]) (hdl : d < f.vars.length) (y : Nat) (ha : i.ars = [(y : Int)]) (hxI : ∀ x ∈ xs, InI x) (hwl : words.length ≤ 20000) :
    irS7.wp Tryd.prog (bodyPost Tryd.prog Tryd.f62 (IrStepPost base bm v1 bF oF cF p limit end_ (stepF p false limit (stateOf words lines ((f, a) :: r))))) ⟨t, []⟩ w := by
  obtain ⟨x0, hxs⟩ : ∃ x0, xs = [x0] := by
    rw [hx]
    exact ⟨getI (f.src false i) (y : Int), by simp [argsF, e, ha]⟩
  have hI0 : InI x0 := hxI x0 (by simp [hxs])
  have q1 : w.cell? ⟨a.gs, 1, none⟩ = some (.slice (some ⟨a.gv, 0, none⟩) f.vars.length f.vars.length) := (h.run.get (j := 1) rfl).1
  have hgl := (h.run.get (j := 1) rfl).2.2
  have hbl : bi < w.heap.size := (Array.getElem?_eq_some_iff.1 h.box).1
  have b0 : w.cell? ⟨bi, 0, none⟩ = some (.int .i64 4) := by simp [World.cell?, h.box, e]
  have b1 : w.cell? ⟨bi, 1, none⟩ = some u1 := by simp [World.cell?, h.box]
  have b3 : w.cell? ⟨bi, 3, none⟩ = some (.int .i64 i.n) := by simp [World.cell?, h.box]
  obtain ⟨bD, oD, cD, rfl, hD1, hD2⟩ : ∃ bD oD cD, u1 = .slice (some ⟨bD, oD, none⟩) 1 cD ∧ bD < base ∧ w.cell? ⟨bD, oD, none⟩ = some (.int .i64 d) := by
    obtain ⟨aD, cD, hv, -, -, hh⟩ := rInts_val h.i1
    rw [hd] at hv hh
    obtain ⟨b, o, rfl, hb, -, hc, -⟩ := hh 0 (by simp)
    exact ⟨b, o, cD, hv, hb, hc⟩
  have hd0 : (0 : Int) ≤ d := by omega
  have hd1 : (d : Int) < f.vars.length := by omega
  obtain ⟨_, _, hv2, -, -, hvl, hvc, hvz⟩ := row_get h.run.levs.1.vars (i := d) (u := .int .i64 f.vars[d]) (by simp [hdl])
  obtain ⟨rfl, -⟩ : a.gv = _ ∧ _ := by simpa using hv2
  clear hv2
  have hXrow := Lib.hid h.row
  obtain ⟨gX, cX, rfl, hX1, -, hXl, hX2, -⟩ := row_get h.row (i := 0) (u := .int .i64 x0) (by simp [hxs])
  have hXn := h.nx gX hX1
  have hXe : xs.length = 1 := by rw [hxs]; rfl
  have c2 := h.run.c2
  by_cases hz : placeF x0 i.n words.length < 0
  · have hst : stepF p false limit (stateOf words lines ((f, a) :: r)) = (2, ⟨words, lines, { f with at_ := f.at_ + 1 } :: r.map (·.1)⟩) := by
      unfold stepF stateOf
      simp only [List.map_cons, ← hi, ← hx, e, hxs]
      show (if placeF x0 i.n words.length < 0 then _ else _) = _
      rw [if_pos hz]
    rw [hst]
    obtain ⟨aW, cW, rfl, hcw, -⟩ := row_slice h.run.oW
    have hA : 0 < words.length → ∃ g, aW = some ⟨g, 0, none⟩ := fun h0 => by
      obtain ⟨g, _, hv, -⟩ := row_get h.run.oW (i := 0) (u := .int .i64 words[0]) (by simp [h0])
      exact ⟨g, (Value.slice.inj hv).1⟩
    have hc := fun w hh => irWord_no bm aW words.length cW x0 i.n w hwl hcw hI0 h.ini.2.1 hA hz hh
    have Hc := Lib.hid hc
    have H := Lib.hid h
    unfold irS7
    conv => arg 2; whnf
    rw [frame262 t h.size, h.s0, h.s1, h.s5, h.s6, h.s7]
    rw [hXe]
    clear hc h hx hd hst e hi ha hxs hX1 hXn hXe hA hz
    go_upto_region 20 with fail
    go_cut [12, 13] from 95 to 104 (fun sp sb wx => sp = .pointer none ∧ sb = .bool false ∧ wx = w.drew)
    case first =>
      go_region_held3 (fun w' => w'.cell? ⟨bi, 3, none⟩ = some (.int .i64 i.n) ∧ w'.cell? ⟨gX, 0, none⟩ = some (.int .i64 x0)) (go_keep) ((first | (go_at_call 105; refine (Hc.out _ (by first | exact c2 | simp [*])).mono ?_; rintro e w' ⟨rfl, rfl⟩)))
      all_goals (go_wp2_with fail; go_meet; exact ⟨rfl, rfl, rfl⟩)
    case rest =>
      obtain ⟨rfl, rfl, rfl⟩ := hcut
      go_wp2_with fail
      go_ret
      exact ⟨rfl, ρ, _, vL, vF, _, H.out.run.since (Since.drew _ _), by simp⟩
  · obtain ⟨k, hk⟩ := Int.eq_ofNat_of_zero_le (show 0 ≤ placeF x0 i.n words.length by omega)
    have hkl : k < words.length := by rcases placeF_range (a := x0) (n := i.n) (len := words.length) with hh | hh <;> omega
    have hst : stepF p false limit (stateOf words lines ((f, a) :: r)) = (0, ⟨words, lines, Lev.setV { f with at_ := f.at_ + 1 } i words[k] :: r.map (·.1)⟩) := by
      unfold stepF stateOf
      have hg : getI words (placeF x0 i.n words.length) = words[k] := by
        rw [hk]
        unfold getI
        rw [Int.toNat_natCast, List.getD_eq_getElem?_getD, List.getElem?_eq_getElem hkl]
        rfl
      simp only [List.map_cons, ← hi, ← hx, e, hxs]
      show (if placeF x0 i.n words.length < 0 then _ else (0, (⟨words, lines, Lev.setV _ i (getI words (placeF x0 i.n words.length)) :: _⟩ : Mach))) = _
      rw [if_neg hz, hg]
    rw [hst]
    obtain ⟨gW, cW, rfl, -, -, -, hWk, -⟩ := row_get h.run.oW (i := k) (u := .int .i64 words[k]) (by simp [hkl])
    obtain ⟨_, _, hvw, hcw, -⟩ := row_slice h.run.oW
    obtain ⟨-, rfl⟩ := (by simpa using hvw : _ = _ ∧ cW = _)
    have hc := fun w hh => irWord_yes bm gW words.length cW x0 i.n k w hwl hcw hI0 h.ini.2.1 hk hh
    have Hc := Lib.hid hc
    have ngs : ¬ a.gs = a.gv := fun e => by have h1 := h.run.levs.1.lt; rw [e, h.run.levs.1.lv] at h1; simp at h1
    have nbi : ¬ bi = a.gv := fun e => by have h1 := h.nb; rw [e, h.run.levs.1.lv] at h1; simp at h1
    have nbD : ¬ bD = a.gv := fun e => by have h1 : base ≤ a.gv := (h.run.levs.1.vars.lt _ rfl).1; omega
    have ngW : ¬ gW = a.gv := fun e => by have h1 := h.run.lw gW rfl; rw [e, h.run.levs.1.lv] at h1; simp at h1
    have hk : ∀ b o u, ¬ b = a.gv → (w.setCell ⟨a.gv, d, none⟩ u).cell? ⟨b, o, none⟩ = w.cell? ⟨b, o, none⟩ := fun b o u hb => World.cell?_of_block (w := w) (Below.heap_setCell _ _ _ _ hb)
    have k0 := fun u => (hk (a.gs) (1) u ngs).trans q1
    have k1 := fun u => (hk (bi) (1) u nbi).trans b1
    have k2 := fun u => (hk (bD) (oD) u nbD).trans hD2
    have k3 := fun u => (hk (gW) (k) u ngW).trans hWk
    have H := Lib.hid h
    unfold irS7
    conv => arg 2; whnf
    rw [frame262 t h.size, h.s0, h.s1, h.s5, h.s6, h.s7]
    have Hd := Lib.hid hd
    rw [hXe]
    clear hk hc h hx hd hst e hi ha hxs hX1 hXn hXe hvw hz
    generalize f.vars[d] = old at *
    generalize words[k] = xw at *
    go_upto_region 20 with fail
    go_cut [12, 13] from 95 to 104 (fun sp sb wx => sp = .pointer (some ⟨gW, k, none⟩) ∧ sb = .bool true ∧ wx = w.drew)
    case first =>
      go_region_held3 (fun w' => w'.cell? ⟨bi, 3, none⟩ = some (.int .i64 i.n) ∧ w'.cell? ⟨gX, 0, none⟩ = some (.int .i64 x0)) (go_keep) ((first | (go_at_call 105; refine (Hc.out _ (by first | exact c2 | simp [*])).mono ?_; rintro e w' ⟨rfl, rfl⟩)))
      all_goals (go_wp2_with fail; go_meet; exact ⟨rfl, rfl, rfl⟩)
    case rest =>
      obtain ⟨rfl, rfl, rfl⟩ := hcut
      go_upto_region 23 with fail
      go_region_held3 (fun w' => w'.cell? ⟨a.gs, 1, none⟩ = some (.slice (some ⟨a.gv, 0, none⟩) f.vars.length f.vars.length) ∧ w'.cell? ⟨bi, 1, none⟩ = some (.slice (some ⟨bD, oD, none⟩) 1 cD) ∧ w'.cell? ⟨bD, oD, none⟩ = some (.int .i64 d) ∧ w'.cell? ⟨gW, k, none⟩ = some (.int .i64 xw)) (go_keep) (fail)
      all_goals go_wp2_with fail
      go_ret
      exact ⟨rfl, ρ, _, vL, vF, _, ((H.out.run.setV d xw).since (Since.drew _ _)).since (Since.drew _ _), by simp [Lev.setV, getI, Hd.out]⟩

set_option maxRecDepth 100000 in
set_option maxHeartbeats 4000000 in
theorem ir_store (ρ : Nat → Option Lab) (t : Array Value) (w : World) (base bm bi : Nat) (v1 vW vL vF vX u1 u2 u5 : Value) (bF oF cF : Nat) (p : PProg) (limit end_ : Int) (words : List Int) (lines : List ByteArray) (f : Lev) (a : LA) (r : List (Lev × LA)) (i : PInstr) (xs : List Int)
    (h : IrPre ρ t w base bm bi v1 vW vL vF vX u1 u2 u5 bF oF cF p limit end_ words lines f a r i xs) (hi : i = instrAt p f) (hx : xs = argsF false f i) (e : i.op = 5) (y z : Nat) (ha : i.ars = [(y : Int), (z : Int)]) (hxI : ∀ x ∈ xs, InI x) (hwl : words.length ≤ 20000) :
    irS7.wp Tryd.prog (bodyPost Tryd.prog Tryd.f62 (IrStepPost base bm v1 bF oF cF p limit end_ (stepF p false limit (stateOf words lines ((f, a) :: r))))) ⟨t, []⟩ w := by
  obtain ⟨x0, x1, hxs⟩ : ∃ x0 x1, xs = [x0 , x1] := by
    rw [hx]
    exact ⟨getI (f.src false i) (y : Int), getI (f.src false i) (z : Int), by simp [argsF, e, ha]⟩
  have hI0 : InI x0 := hxI x0 (by simp [hxs])
  have q1 : w.cell? ⟨a.gs, 1, none⟩ = some (.slice (some ⟨a.gv, 0, none⟩) f.vars.length f.vars.length) := (h.run.get (j := 1) rfl).1
  have hgl := (h.run.get (j := 1) rfl).2.2
  have hbl : bi < w.heap.size := (Array.getElem?_eq_some_iff.1 h.box).1
  have b0 : w.cell? ⟨bi, 0, none⟩ = some (.int .i64 5) := by simp [World.cell?, h.box, e]
  have b3 : w.cell? ⟨bi, 3, none⟩ = some (.int .i64 i.n) := by simp [World.cell?, h.box]
  have hXrow := Lib.hid h.row
  obtain ⟨gX, cX, rfl, hX1, -, hXl, hX2, -⟩ := row_get h.row (i := 0) (u := .int .i64 x0) (by simp [hxs])
  have hX3 : w.cell? ⟨gX, 1, none⟩ = some (.int .i64 x1) := by
    obtain ⟨_, _, hv3, -, -, -, hc3, -⟩ := row_get h.row (i := 1) (u := .int .i64 x1) (by simp [hxs])
    obtain ⟨rfl, -⟩ : gX = _ ∧ _ := by simpa using hv3
    exact hc3
  have hXn := h.nx gX hX1
  have hXe : xs.length = 2 := by rw [hxs]; rfl
  have c2 := h.run.c2
  by_cases hz : placeF x0 i.n words.length < 0
  · have hst : stepF p false limit (stateOf words lines ((f, a) :: r)) = (2, ⟨words, lines, { f with at_ := f.at_ + 1 } :: r.map (·.1)⟩) := by
      unfold stepF stateOf
      simp only [List.map_cons, ← hi, ← hx, e, hxs]
      show (if placeF x0 i.n words.length < 0 then _ else _) = _
      rw [if_pos hz]
    rw [hst]
    obtain ⟨aW, cW, rfl, hcw, -⟩ := row_slice h.run.oW
    have hA : 0 < words.length → ∃ g, aW = some ⟨g, 0, none⟩ := fun h0 => by
      obtain ⟨g, _, hv, -⟩ := row_get h.run.oW (i := 0) (u := .int .i64 words[0]) (by simp [h0])
      exact ⟨g, (Value.slice.inj hv).1⟩
    have hc := fun w hh => irWord_no bm aW words.length cW x0 i.n w hwl hcw hI0 h.ini.2.1 hA hz hh
    have Hc := Lib.hid hc
    have H := Lib.hid h
    unfold irS7
    conv => arg 2; whnf
    rw [frame262 t h.size, h.s0, h.s1, h.s5, h.s6, h.s7]
    rw [hXe]
    clear hc h hx hst e hi ha hxs hX1 hXn hXe hA hz
    go_upto_region 25 with fail
    go_cut [14, 15] from 121 to 130 (fun sp sb wx => sp = .pointer none ∧ sb = .bool false ∧ wx = w.drew)
    case first =>
      go_region_held3 (fun w' => w'.cell? ⟨bi, 3, none⟩ = some (.int .i64 i.n) ∧ w'.cell? ⟨gX, 0, none⟩ = some (.int .i64 x0)) (go_keep) ((first | (go_at_call 105; refine (Hc.out _ (by first | exact c2 | simp [*])).mono ?_; rintro e w' ⟨rfl, rfl⟩)))
      all_goals (go_wp2_with fail; go_meet; exact ⟨rfl, rfl, rfl⟩)
    case rest =>
      obtain ⟨rfl, rfl, rfl⟩ := hcut
      go_wp2_with fail
      go_ret
      exact ⟨rfl, ρ, _, vL, vF, _, H.out.run.since (Since.drew _ _), by simp⟩
  · obtain ⟨k, hk⟩ := Int.eq_ofNat_of_zero_le (show 0 ≤ placeF x0 i.n words.length by omega)
    have hkl : k < words.length := by rcases placeF_range (a := x0) (n := i.n) (len := words.length) with hh | hh <;> omega
    have hst : stepF p false limit (stateOf words lines ((f, a) :: r)) = (0, ⟨words.set k x1, lines, { f with at_ := f.at_ + 1 } :: r.map (·.1)⟩) := by
      unfold stepF stateOf
      simp only [List.map_cons, ← hi, ← hx, e, hxs]
      show (if placeF x0 i.n words.length < 0 then _ else (0, (⟨words.set (placeF x0 i.n words.length).toNat x1, lines, _⟩ : Mach))) = _
      rw [if_neg hz, hk]
      rfl
    rw [hst]
    obtain ⟨gW, cW, rfl, -, -, -, hWk, hWz⟩ := row_get h.run.oW (i := k) (u := .int .i64 words[k]) (by simp [hkl])
    obtain ⟨_, _, hvw, hcw, -⟩ := row_slice h.run.oW
    obtain ⟨-, rfl⟩ := (by simpa using hvw : _ = _ ∧ cW = _)
    have hc := fun w hh => irWord_yes bm gW words.length cW x0 i.n k w hwl hcw hI0 h.ini.2.1 hk hh
    have Hc := Lib.hid hc
    have H := Lib.hid h
    unfold irS7
    conv => arg 2; whnf
    rw [frame262 t h.size, h.s0, h.s1, h.s5, h.s6, h.s7]
    rw [hXe]
    clear hk hc h hx hst e hi ha hxs hX1 hXn hXe hvw hz
    generalize words[k] = xw at *
    go_upto_region 25 with fail
    go_cut [14, 15] from 121 to 130 (fun sp sb wx => sp = .pointer (some ⟨gW, k, none⟩) ∧ sb = .bool true ∧ wx = w.drew)
    case first =>
      go_region_held3 (fun w' => w'.cell? ⟨bi, 3, none⟩ = some (.int .i64 i.n) ∧ w'.cell? ⟨gX, 0, none⟩ = some (.int .i64 x0)) (go_keep) ((first | (go_at_call 105; refine (Hc.out _ (by first | exact c2 | simp [*])).mono ?_; rintro e w' ⟨rfl, rfl⟩)))
      all_goals (go_wp2_with fail; go_meet; exact ⟨rfl, rfl, rfl⟩)
    case rest =>
      obtain ⟨rfl, rfl, rfl⟩ := hcut
      go_wp2_with fail
      go_ret
      exact ⟨rfl, ρ, .slice (some ⟨gW, 0, none⟩) words.length cW, vL, vF, _, (H.out.run.setW k x1).since (Since.drew _ _), by simp⟩

end Go.Proofs.YtaomlfbcfmmhlaaDoor

/-
  ir's machine, a step: jumps (printed by wip/gen_irarms.py).
-/
namespace Go.Proofs.YtaomlfbcfmmhlaaDoor
open Go.RowKit Go.Pst
set_option linter.unusedVariables false
set_option linter.unusedSimpArgs false
variable [Old]
theorem IrAt.goto {ρ : Nat → Option Lab} {w : World} {base bm : Nat} {v1 vW vL vF : Value} {bF oF cF : Nat} {p : PProg} {limit end_ : Int} {words : List Int} {lines : List ByteArray} {f : Lev} {a : LA} {r : List (Lev × LA)}
    (h : IrAt ρ w base bm v1 vW vL vF bF oF cF p limit end_ words lines ((f, a) :: r)) (k : Nat) :
    IrAt ρ ((w.setCell ⟨a.gs, 2, none⟩ (.int .i64 k)).setCell ⟨a.gs, 3, none⟩ (.int .i64 0)) base bm v1 vW vL vF bF oF cF p limit end_ words lines ((f.goto k, a) :: r) := by
  have h1 := h.setC (f' := { f with block := k }) 2 (.int .i64 k) rfl rfl (by simp [irCells])
  exact h1.setC (f' := f.goto k) 3 (.int .i64 0) rfl rfl (by simp [irCells, Lev.goto])

set_option maxRecDepth 100000 in
set_option maxHeartbeats 4000000 in
theorem ir_jump (ρ : Nat → Option Lab) (t : Array Value) (w : World) (base bm bi : Nat) (v1 vW vL vF vX u1 u2 u5 : Value) (bF oF cF : Nat) (p : PProg) (limit end_ : Int) (words : List Int) (lines : List ByteArray) (f : Lev) (a : LA) (r : List (Lev × LA)) (i : PInstr) (xs : List Int)
    (h : IrPre ρ t w base bm bi v1 vW vL vF vX u1 u2 u5 bF oF cF p limit end_ words lines f a r i xs) (hi : i = instrAt p f) (hx : xs = argsF false f i) (e : i.op = 9) (k : Nat) (hto : i.to = [(k : Int)]) :
    irS7.wp Tryd.prog (bodyPost Tryd.prog Tryd.f62 (IrStepPost base bm v1 bF oF cF p limit end_ (stepF p false limit (stateOf words lines ((f, a) :: r))))) ⟨t, []⟩ w := by
  have q1 : w.cell? ⟨a.gs, 1, none⟩ = some (.slice (some ⟨a.gv, 0, none⟩) f.vars.length f.vars.length) := (h.run.get (j := 1) rfl).1
  have hgl := (h.run.get (j := 1) rfl).2.2
  have hbl : bi < w.heap.size := (Array.getElem?_eq_some_iff.1 h.box).1
  obtain ⟨g2, z2, -⟩ := h.run.get (j := 2) (u := .int .i64 f.block) rfl
  obtain ⟨g3, z3, -⟩ := h.run.get (j := 3) (u := .int .i64 ((f.at_ + 1 : Nat) : Int)) rfl
  have b0 : w.cell? ⟨bi, 0, none⟩ = some (.int .i64 9) := by simp [World.cell?, h.box, e]
  have b5 : w.cell? ⟨bi, 5, none⟩ = some u5 := by simp [World.cell?, h.box]
  have hst : stepF p false limit (stateOf words lines ((f, a) :: r)) = (0, ⟨words, lines, Lev.goto { f with at_ := f.at_ + 1 } k :: r.map (·.1)⟩) := by
    unfold stepF stateOf
    simp only [List.map_cons, ← hi, ← hx, e, hto]
    rfl
  rw [hst]
  obtain ⟨bT, oT, cT, rfl, hT2⟩ : ∃ bT oT cT, u5 = .slice (some ⟨bT, oT, none⟩) 1 cT ∧ w.cell? ⟨bT, oT, none⟩ = some (.int .i64 k) := by
    obtain ⟨aD, cD, hv, -, -, hh⟩ := rInts_val h.i5
    rw [hto] at hv hh
    obtain ⟨b, o, rfl, hb, -, hc, -⟩ := hh 0 (by simp)
    exact ⟨b, o, cD, hv, hc⟩
  have H := Lib.hid h
  unfold irS7
  conv => arg 2; whnf
  rw [frame262 t h.size, h.s0, h.s1, h.s5, h.s6, h.s7]
  clear h hx hst e hi hto
  go_wp2_with fail
  go_ret
  exact ⟨rfl, ρ, vW, vL, vF, _, H.out.run.goto k, by simp⟩

set_option maxRecDepth 100000 in
set_option maxHeartbeats 4000000 in
theorem ir_choose (ρ : Nat → Option Lab) (t : Array Value) (w : World) (base bm bi : Nat) (v1 vW vL vF vX u1 u2 u5 : Value) (bF oF cF : Nat) (p : PProg) (limit end_ : Int) (words : List Int) (lines : List ByteArray) (f : Lev) (a : LA) (r : List (Lev × LA)) (i : PInstr) (xs : List Int)
    (h : IrPre ρ t w base bm bi v1 vW vL vF vX u1 u2 u5 bF oF cF p limit end_ words lines f a r i xs) (hi : i = instrAt p f) (hx : xs = argsF false f i) (e : i.op = 10) (y k0 k1 : Nat) (ha : i.ars = [(y : Int)]) (hto : i.to = [(k0 : Int), (k1 : Int)]) :
    irS7.wp Tryd.prog (bodyPost Tryd.prog Tryd.f62 (IrStepPost base bm v1 bF oF cF p limit end_ (stepF p false limit (stateOf words lines ((f, a) :: r))))) ⟨t, []⟩ w := by
  obtain ⟨x0, hxs⟩ : ∃ x0, xs = [x0] := by
    rw [hx]
    exact ⟨getI (f.src false i) (y : Int), by simp [argsF, e, ha]⟩
  have q1 : w.cell? ⟨a.gs, 1, none⟩ = some (.slice (some ⟨a.gv, 0, none⟩) f.vars.length f.vars.length) := (h.run.get (j := 1) rfl).1
  have hgl := (h.run.get (j := 1) rfl).2.2
  have hbl : bi < w.heap.size := (Array.getElem?_eq_some_iff.1 h.box).1
  obtain ⟨g2, z2, -⟩ := h.run.get (j := 2) (u := .int .i64 f.block) rfl
  obtain ⟨g3, z3, -⟩ := h.run.get (j := 3) (u := .int .i64 ((f.at_ + 1 : Nat) : Int)) rfl
  have b0 : w.cell? ⟨bi, 0, none⟩ = some (.int .i64 10) := by simp [World.cell?, h.box, e]
  have b5 : w.cell? ⟨bi, 5, none⟩ = some u5 := by simp [World.cell?, h.box]
  have hXrow := Lib.hid h.row
  obtain ⟨gX, cX, rfl, hX1, -, hXl, hX2, -⟩ := row_get h.row (i := 0) (u := .int .i64 x0) (by simp [hxs])
  have hXn := h.nx gX hX1
  have hXe : xs.length = 1 := by rw [hxs]; rfl
  obtain ⟨bT, oT, cT, rfl, hTb, hT, hT1⟩ : ∃ bT oT cT, u5 = .slice (some ⟨bT, oT, none⟩) 2 cT ∧ bT < base ∧ w.cell? ⟨bT, oT, none⟩ = some (.int .i64 k0) ∧ w.cell? ⟨bT, oT + 1, none⟩ = some (.int .i64 k1) := by
    obtain ⟨aD, cD, hv, -, -, hh⟩ := rInts_val h.i5
    rw [hto] at hv hh
    obtain ⟨b, o, rfl, hb, -, hc, -⟩ := hh 0 (by simp)
    obtain ⟨b', o', he, -, -, hc', -⟩ := hh 1 (by simp)
    obtain ⟨rfl, rfl⟩ : b = b' ∧ o = o' := by simpa using he
    exact ⟨b, o, cD, hv, hb, hc, hc'⟩
  have n1 : ¬ bi = a.gs := fun e => by have h1 := h.nb; rw [e, h.run.levs.1.lt] at h1; simp at h1
  have n2 : ¬ gX = a.gs := fun e => by have h1 := hXn.1; rw [e, h.run.levs.1.lt] at h1; simp at h1
  have n3 : ¬ bT = a.gs := fun e => by have h1 : base ≤ a.gs := (h.run.levs.1.cells.lt _ rfl).1; omega
  have hk : ∀ b o j u, ¬ b = a.gs → (w.setCell ⟨a.gs, j, none⟩ u).cell? ⟨b, o, none⟩ = w.cell? ⟨b, o, none⟩ := fun b o j u hb => World.cell?_of_block (w := w) (Below.heap_setCell _ _ _ _ hb)
  have hkk : ∀ b o j j' u u', ¬ b = a.gs → ((w.setCell ⟨a.gs, j, none⟩ u).setCell ⟨a.gs, j', none⟩ u').cell? ⟨b, o, none⟩ = w.cell? ⟨b, o, none⟩ := fun b o j j' u u' hb => (World.cell?_of_block (w := w.setCell ⟨a.gs, j, none⟩ u) (Below.heap_setCell _ _ _ _ hb)).trans (hk b o j u hb)
  have k1a := fun u => (hk bi 5 2 u n1).trans b5
  have k2a := fun u => (hk gX 0 2 u n2).trans hX2
  have k1b := fun u u' => (hkk bi 5 2 3 u u' n1).trans b5
  have k2b := fun u u' => (hkk gX 0 2 3 u u' n2).trans hX2
  by_cases hz : x0 = 0
  · have hzd : (x0 == 0) = true := by simp [hz]
    have hst : stepF p false limit (stateOf words lines ((f, a) :: r)) = (0, ⟨words, lines, Lev.goto { f with at_ := f.at_ + 1 } k1 :: r.map (·.1)⟩) := by
      unfold stepF stateOf
      simp only [List.map_cons, ← hi, ← hx, e, hto, hxs]
      show (0, (⟨words, lines, Lev.goto _ (getI [(k0 : Int), (k1 : Int)] (yesF (x0 == 0))) :: _⟩ : Mach)) = _
      rw [hzd]
      rfl
    rw [hst]
    have k3a := fun u => (hk bT (oT + 1) 2 u n3).trans hT1
    have k3b := fun u u' => (hkk bT (oT + 1) 2 3 u u' n3).trans hT1
    have hc : ∀ w, Calls Tryd.prog 107 #[.bool true] w (fun e w' => e = .returned (.int .i64 1) ∧ w = w') := fun w => irTruth_any true w
    have Hc := Lib.hid hc
    have H := Lib.hid h
    unfold irS7
    conv => arg 2; whnf
    rw [frame262 t h.size, h.s0, h.s1, h.s5, h.s6, h.s7]
    rw [hXe]
    clear hc h hx hst e hi ha hxs hX1 hXn hXe hto hk hkk hz
    go_upto_region 44 with fail
    go_region_held3 (fun w' => w'.cell? ⟨bi, 5, none⟩ = some (.slice (some ⟨bT, oT, none⟩) 2 cT) ∧ w'.cell? ⟨gX, 0, none⟩ = some (.int .i64 x0) ∧ w'.cell? ⟨bT, oT + 1, none⟩ = some (.int .i64 k1)) (go_keep) (first | (go_at_call 107; refine (Hc.out _).mono ?_; rintro e w' ⟨rfl, rfl⟩))
    all_goals go_wp2_with fail
    go_ret
    exact ⟨rfl, ρ, vW, vL, vF, _, (H.out.run.goto k1).since (Since.drew _ _), by simp⟩
  · have hzd : (x0 == 0) = false := by simp [hz]
    have hst : stepF p false limit (stateOf words lines ((f, a) :: r)) = (0, ⟨words, lines, Lev.goto { f with at_ := f.at_ + 1 } k0 :: r.map (·.1)⟩) := by
      unfold stepF stateOf
      simp only [List.map_cons, ← hi, ← hx, e, hto, hxs]
      show (0, (⟨words, lines, Lev.goto _ (getI [(k0 : Int), (k1 : Int)] (yesF (x0 == 0))) :: _⟩ : Mach)) = _
      rw [hzd]
      rfl
    rw [hst]
    have k3a := fun u => (hk bT (oT) 2 u n3).trans hT
    have k3b := fun u u' => (hkk bT (oT) 2 3 u u' n3).trans hT
    have hc : ∀ w, Calls Tryd.prog 107 #[.bool false] w (fun e w' => e = .returned (.int .i64 0) ∧ w = w') := fun w => irTruth_any false w
    have Hc := Lib.hid hc
    have H := Lib.hid h
    unfold irS7
    conv => arg 2; whnf
    rw [frame262 t h.size, h.s0, h.s1, h.s5, h.s6, h.s7]
    rw [hXe]
    clear hc h hx hst e hi ha hxs hX1 hXn hXe hto hk hkk hz
    go_upto_region 44 with fail
    go_region_held3 (fun w' => w'.cell? ⟨bi, 5, none⟩ = some (.slice (some ⟨bT, oT, none⟩) 2 cT) ∧ w'.cell? ⟨gX, 0, none⟩ = some (.int .i64 x0) ∧ w'.cell? ⟨bT, oT, none⟩ = some (.int .i64 k0)) (go_keep) (first | (go_at_call 107; refine (Hc.out _).mono ?_; rintro e w' ⟨rfl, rfl⟩))
    all_goals go_wp2_with fail
    go_ret
    exact ⟨rfl, ρ, vW, vL, vF, _, (H.out.run.goto k0).since (Since.drew _ _), by simp⟩

set_option maxRecDepth 100000 in
set_option maxHeartbeats 4000000 in
theorem ir_pick (ρ : Nat → Option Lab) (t : Array Value) (w : World) (base bm bi : Nat) (v1 vW vL vF vX u1 u2 u5 : Value) (bF oF cF : Nat) (p : PProg) (limit end_ : Int) (words : List Int) (lines : List ByteArray) (f : Lev) (a : LA) (r : List (Lev × LA)) (i : PInstr) (xs : List Int)
    (h : IrPre ρ t w base bm bi v1 vW vL vF vX u1 u2 u5 bF oF cF p limit end_ words lines f a r i xs) (hi : i = instrAt p f) (hx : xs = argsF false f i) (e : i.op = 11) (y n : Nat) (ha : i.ars = [(y : Int)]) (hn : i.to.length = n + 1) (hnn : n ≤ 9223372036854775806) (hge : ∀ x ∈ i.to, 0 ≤ x) :
    irS7.wp Tryd.prog (bodyPost Tryd.prog Tryd.f62 (IrStepPost base bm v1 bF oF cF p limit end_ (stepF p false limit (stateOf words lines ((f, a) :: r))))) ⟨t, []⟩ w := by
  obtain ⟨x0, hxs⟩ : ∃ x0, xs = [x0] := by
    rw [hx]
    exact ⟨getI (f.src false i) (y : Int), by simp [argsF, e, ha]⟩
  have q1 : w.cell? ⟨a.gs, 1, none⟩ = some (.slice (some ⟨a.gv, 0, none⟩) f.vars.length f.vars.length) := (h.run.get (j := 1) rfl).1
  have hgl := (h.run.get (j := 1) rfl).2.2
  have hbl : bi < w.heap.size := (Array.getElem?_eq_some_iff.1 h.box).1
  obtain ⟨g2, z2, -⟩ := h.run.get (j := 2) (u := .int .i64 f.block) rfl
  obtain ⟨g3, z3, -⟩ := h.run.get (j := 3) (u := .int .i64 ((f.at_ + 1 : Nat) : Int)) rfl
  have b0 : w.cell? ⟨bi, 0, none⟩ = some (.int .i64 11) := by simp [World.cell?, h.box, e]
  have b5 : w.cell? ⟨bi, 5, none⟩ = some u5 := by simp [World.cell?, h.box]
  have hXrow := Lib.hid h.row
  obtain ⟨gX, cX, rfl, hX1, -, hXl, hX2, -⟩ := row_get h.row (i := 0) (u := .int .i64 x0) (by simp [hxs])
  have hXn := h.nx gX hX1
  have hXe : xs.length = 1 := by rw [hxs]; rfl
  have tget : ∀ j (hj : j < i.to.length), getI i.to (j : Int) = i.to[j] := fun j hj => by
    unfold getI
    rw [Int.toNat_natCast, List.getD_eq_getElem?_getD, List.getElem?_eq_getElem hj]
    rfl
  obtain ⟨kl, hkl⟩ := Int.eq_ofNat_of_zero_le (hge (i.to[n]'(by omega)) (List.getElem_mem _))
  obtain ⟨bT, oT, cT, rfl, hT⟩ : ∃ bT oT cT, u5 = .slice (some ⟨bT, oT, none⟩) (n + 1) cT ∧ ∀ j (hj : j < i.to.length), w.cell? ⟨bT, oT + j, none⟩ = some (.int .i64 i.to[j]) := by
    obtain ⟨aD, cD, hv, -, -, hh⟩ := rInts_val h.i5
    rw [hn] at hv
    obtain ⟨b, o, rfl, -, -, -, -⟩ := hh 0 (by omega)
    refine ⟨b, o, cD, hv, fun j hj => ?_⟩
    obtain ⟨b', o', he, -, -, hc', -⟩ := hh j hj
    obtain ⟨rfl, rfl⟩ : b = b' ∧ o = o' := by simpa using he
    exact hc'
  have hTl := hT n (by omega)
  rw [hkl] at hTl
  have hn0 : (0 : Int) ≤ n := by omega
  have hn1 : (n : Int) < (n : Int) + 1 := by omega
  have hlast : getI i.to (i.to.length - 1) = kl := by
    rw [show ((i.to.length : Int) - 1) = (n : Int) by omega, tget n (by omega), hkl]
  by_cases hz : 0 ≤ x0 ∧ x0 ≤ n
  · obtain ⟨j, rfl⟩ := Int.eq_ofNat_of_zero_le hz.1
    have hj : j < i.to.length := by omega
    obtain ⟨kj, hkj⟩ := Int.eq_ofNat_of_zero_le (hge i.to[j] (List.getElem_mem _))
    have hTj := hT j hj
    rw [hkj] at hTj
    have hj0 : (0 : Int) ≤ j := by omega
    have hj1 : (j : Int) < (n : Int) + 1 := by omega
    have d1 : decide ((j : Int) < 0) = false := decide_eq_false (by omega)
    have d2 : decide ((j : Int) ≥ (n : Int) + 1) = false := decide_eq_false (by omega)
    have hif : (if 0 ≤ (j : Int) ∧ (j : Int) ≤ i.to.length - 1 then getI i.to (j : Int) else getI i.to (i.to.length - 1)) = kj := by
      rw [if_pos ⟨hj0, by omega⟩, tget j hj, hkj]
    have hst : stepF p false limit (stateOf words lines ((f, a) :: r)) = (0, ⟨words, lines, Lev.goto { f with at_ := f.at_ + 1 } kj :: r.map (·.1)⟩) := by
      unfold stepF stateOf
      simp only [List.map_cons, ← hi, ← hx, e, hxs]
      show (0, (⟨words, lines, Lev.goto _ (if 0 ≤ (j : Int) ∧ (j : Int) ≤ i.to.length - 1 then getI i.to (j : Int) else getI i.to (i.to.length - 1)) :: _⟩ : Mach)) = _
      rw [hif]
    rw [hst]
    have H := Lib.hid h
    unfold irS7
    conv => arg 2; whnf
    rw [frame262 t h.size, h.s0, h.s1, h.s5, h.s6, h.s7]
    rw [hXe]
    clear h hx hst e hi ha hxs hX1 hXn hXe hT tget hge hlast hif hn hkl hkj
    go_wp2_with fail
    go_ret
    exact ⟨rfl, ρ, vW, vL, vF, _, H.out.run.goto kj, by simp⟩
  · have hif : (if 0 ≤ x0 ∧ x0 ≤ i.to.length - 1 then getI i.to x0 else getI i.to (i.to.length - 1)) = kl := by
      rw [if_neg (by omega), hlast]
    have hwn : IntKind.i64.wrap ((n : Int) + 1 - 1) = n := by rw [Int.add_sub_cancel]; exact IntWalk.i64_in _ (by omega)
    have hst : stepF p false limit (stateOf words lines ((f, a) :: r)) = (0, ⟨words, lines, Lev.goto { f with at_ := f.at_ + 1 } kl :: r.map (·.1)⟩) := by
      unfold stepF stateOf
      simp only [List.map_cons, ← hi, ← hx, e, hxs]
      show (0, (⟨words, lines, Lev.goto _ (if 0 ≤ x0 ∧ x0 ≤ i.to.length - 1 then getI i.to x0 else getI i.to (i.to.length - 1)) :: _⟩ : Mach)) = _
      rw [hif]
    rw [hst]
    by_cases hneg : x0 < 0
    · have d1 : decide (x0 < 0) = true := decide_eq_true hneg
      have H := Lib.hid h
      unfold irS7
      conv => arg 2; whnf
      rw [frame262 t h.size, h.s0, h.s1, h.s5, h.s6, h.s7]
      rw [hXe]
      clear h hx hst e hi ha hxs hX1 hXn hXe hT tget hge hlast hif hn hkl
      go_wp2_with fail
      go_ret
      exact ⟨rfl, ρ, vW, vL, vF, _, H.out.run.goto kl, by simp⟩
    · have d1 : decide (x0 < 0) = false := decide_eq_false hneg
      have d2 : decide (x0 ≥ (n : Int) + 1) = true := decide_eq_true (by omega)
      have H := Lib.hid h
      unfold irS7
      conv => arg 2; whnf
      rw [frame262 t h.size, h.s0, h.s1, h.s5, h.s6, h.s7]
      rw [hXe]
      clear h hx hst e hi ha hxs hX1 hXn hXe hT tget hge hlast hif hn hkl
      go_wp2_with fail
      go_ret
      exact ⟨rfl, ρ, vW, vL, vF, _, H.out.run.goto kl, by simp⟩
end Go.Proofs.YtaomlfbcfmmhlaaDoor

/-
  strings.Builder, of a builder that the call itself has made: copyCheck, WriteByte: contracts.
-/
namespace Go.Proofs.YtaomlfbcfmmhlaaDoor
open Go.RowKit Go.Pst
set_option linter.unusedVariables false
set_option linter.unusedSimpArgs false

theorem info_builder : (Tryd.prog.info? 193).map (·.size) = some 2 := by kernel_rfl
theorem info_byte : (Tryd.prog.info? 5).map (fun i => (i.zero, i.size, i.bytes)) = some (some (.int .u8 0), 1, 1) := by kernel_rfl
theorem lies_builder : liesAt Tryd.prog Tryd.prog.depth 193 (2 / Tryd.prog.cellsOf 193) 0 193 1 = true := by kernel_rfl

set_option maxRecDepth 100000 in
theorem copyCheck_any (B b : Nat) (bs : List Value) (w : World) (h : Lib.IsBuilder 193 5 B b bs w) :
    Calls Tryd.prog 177 #[.pointer (some ⟨b, 0, none⟩)] w fun e w' => e = .returned (.tuple #[]) ∧ Lib.BuilderAt 193 5 B b (.pointer (some ⟨b, 0, none⟩)) bs w' ∧ Below B w w' := by
  obtain ⟨j, hj, hjs⟩ := Option.map_eq_some_iff.1 info_builder
  rcases h with h | h
  · have c0 := h.cell0
    have hsh := h.shape
    have f0 := h.frozen0
    have H := Lib.hid h
    have Hsh := Lib.hid hsh
    clear h hsh
    go_enter Tryd.func177, Tryd.ntmps177
    go_wp2_with fail
    rw [Lib.run_to_unsafe w ⟨b, 0, none⟩ Tryd.underlying191 Tryd.underlying240 hj (by rw [hjs]; decide) Hsh.out (Nat.zero_lt_succ 1)]
    simp only [Result.andThen]
    rw [Oper.upon_value]
    go_wp2_with fail
    rw [run_callFunc_extern Tryd.func194 (by kernel_rfl) (by kernel_rfl) (by kernel_rfl) (e := Extern.AbiNoEscape.same) (by kernel_rfl), Lib.run_noEscape]
    simp only [Result.andThen]
    rw [Oper.upon_value]
    go_wp2_with fail
    rw [Lib.run_from_unsafe w ⟨b, 0, none⟩ Tryd.underlying240 Tryd.underlying191 hj Hsh.out lies_builder]
    simp only [Result.andThen]
    rw [Oper.upon_value]
    go_wp2_with fail
    go_end0
    exact ⟨rfl, H.out.used _, (Below.refl B w).setCell (p := ⟨b, 0, none⟩) H.out.1 _⟩
  · have c0 := h.cell0
    have H := Lib.hid h
    clear h
    go_enter Tryd.func177, Tryd.ntmps177
    go_wp2_with fail
    rw [Lib.run_neq_ptr_same w _ Tryd.underlying191 hj]
    go_wp2_with fail
    go_end0
    exact ⟨rfl, H.out, Below.refl B _⟩

set_option maxRecDepth 100000 in
theorem writeByte_any (B b : Nat) (bs : List Value) (c : Int) (w : World) (h : Lib.IsBuilder 193 5 B b bs w) (hlen : bs.length + 1 ≤ 140737488355328) (hBw : B ≤ w.heap.size) :
    Calls Tryd.prog 147 #[.pointer (some ⟨b, 0, none⟩), .int .u8 c] w fun e w' => e = .returned .nilIface ∧ Lib.BuilderAt 193 5 B b (.pointer (some ⟨b, 0, none⟩)) (bs ++ [.int .u8 c]) w' ∧ Below B w w' := by
  obtain ⟨i0, hi, hz0, hz1, hz2⟩ := info_parts info_byte
  have Hh := Lib.hid h
  clear h
  go_enter Tryd.func147, Tryd.ntmps147
  go_wp2_with fail
  refine (copyCheck_any B b bs w Hh.out).mono ?_
  rintro e w1 ⟨rfl, h1, hb1⟩
  have hlt := h1.lt
  have c0 := h1.cell0
  obtain ⟨hB, v, hbk, hown, hne⟩ := h1
  have c1 : w1.cell? ⟨b, 1, none⟩ = some v := by rw [Lib.cell_of_heap hbk]; rfl
  obtain ⟨ao, co, rfl, -, -⟩ := row_slice hown
  have hz := hb1.size
  have Hbk := Lib.hid hbk
  have Hb1 := Lib.hid hb1
  have Hne := Lib.hid hne
  have Hown := Lib.hid hown
  clear hbk hb1 hne
  go_wp2_with (at_builtin; refine wpList_append_own _ rfl _ _ 131 rfl B 5 i0 (.int .u8 0) 1 1 Tryd.underlying131 hi hz0 hz1 hz2 rfl (by decide) _ _ _ rfl (hown.alloc _) ⟨w1.heap.size, 0, none⟩ 1 1 [.int .u8 c] rfl rfl (cell_one_new _ _ _) (by intro u hu; simp at hu; subst hu; rfl) (by unfold maxLen; omega) (by omega) (by simp; omega) ?_)
  intro v' w2 hown' hgrow _
  have sg : Since (fun k => (Value.slice ao bs.length co).ownBlock = some k) w1 w2 := (Since.alloc _ _ _).trans (Since.grown hgrow)
  have hb2 := (sg.block b hlt Hne.out).trans Hbk.out
  have d0 := (sg.cell (o := 0) hlt Hne.out).trans c0
  have d1 : w2.cell? ⟨b, 1, none⟩ = some (.slice ao bs.length co) := by rw [Lib.cell_of_heap hb2]; rfl
  have f1 : w2.frozen? ⟨b, 1, none⟩ = false := Lib.frozen_of_heap hb2 1
  obtain ⟨g, cap, rfl⟩ : ∃ g cap, v' = .slice (some ⟨g, 0, none⟩) (bs.length + 1) cap := by
    rcases hown'.2 with ⟨_, h0⟩ | ⟨g, cap, cur, hv, _⟩
    · omega
    · exact ⟨g, cap, hv⟩
  have Hb2 := Lib.hid hb2
  have Hown' := Lib.hid hown'
  have Hsg := Lib.hid sg
  clear hb2 hown' sg hgrow hown c0 c1
  go_wp2_with fail
  go_ret
  refine ⟨rfl, Lib.BuilderAt.put (T := 193) (e := 5) hB Hb2.out (bs' := bs ++ [.int .u8 c]) (by simpa using Hown'.out) (by decide), ?_⟩
  exact (Hb1.out.trans (Hsg.out.below (by omega) (fun k e => (Hown.out.lt k e).1))).setCell (p := ⟨b, 1, none⟩) hB _
end Go.Proofs.YtaomlfbcfmmhlaaDoor

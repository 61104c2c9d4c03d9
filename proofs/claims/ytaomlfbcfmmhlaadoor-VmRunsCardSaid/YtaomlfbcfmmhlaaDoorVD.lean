/-
  Texts joined: RanArm2 RanArm3 RanArm4 RanArm5 RanArm6 RanArm7 RanArm8 RanArm9 RanArm10.
-/
import Derived.Test.YtaomlfbcfmmhlaaDoorVC

/-
  ref.ranOf: arms of the switch: moves, slots (printed by wip/gen_arms.py).
-/
namespace Go.Proofs.YtaomlfbcfmmhlaaDoor
open Go.RowKit Go.Pst
set_option linter.unusedVariables false
set_option linter.unusedSimpArgs false
variable [Old]
set_option maxRecDepth 100000 in
set_option maxHeartbeats 4000000 in
theorem arm_move (Q : Exit → Act → World → Prop) (ρ : Nat → Option Lab) (t : Array Value) (w : World) (fuel : Int) (m : Bool) (base bp br bs bi g cap : Nat) (s13 v0 v1 vW vL u1 u2 u5 vX : Value) (p : PProg) (limit : Int) (words : List Int) (lines : List ByteArray) (f : Lev) (a : LA) (r : List (Lev × LA)) (i : PInstr) (xs : List Int)
    (h : PreArm ρ t w fuel m base bp br bs bi g cap s13 v0 v1 vW vL u1 u2 u5 p limit words lines f a r i vX xs) (hi : i = instrAt p f) (hx : xs = argsF m f i) (e : i.op = 2) (d y : Nat) (hd : i.ds = [(d : Int)]) (hdl : d < f.vars.length) (ha : i.ars = [(y : Int)])
    (HQ : Hid (∀ t' w', StepPost t' w' fuel m base bp br bs s13 v0 v1 p limit (stepF p m limit (stateOf words lines ((f, a) :: r))) → Q .normal ⟨t', []⟩ w')) :
    ranS25.wp Tryd.prog Q ⟨t, []⟩ w := by
  obtain ⟨x0, hxs⟩ : ∃ x0, xs = [x0] := by
    rw [hx]
    exact ⟨getI (f.src m i) (y : Int), by simp [argsF, e, ha]⟩
  have hst : stepF p m limit (stateOf words lines ((f, a) :: r)) = (0, ⟨words, lines, Lev.setV { f with at_ := f.at_ + 1 } i x0 :: r.map (·.1)⟩) := by
    unfold stepF stateOf
    simp only [List.map_cons, ← hi, ← hx, e, hxs]
    rfl
  rw [hst] at HQ
  obtain ⟨g', cap', hv, -, -, hgl, hcell⟩ := h.run.get
  obtain ⟨rfl, -⟩ : g = g' ∧ cap = cap' := by simpa using hv
  have q1 : w.cell? ⟨g, r.length * 6 + 1, none⟩ = some (.slice (some ⟨a.gv, 0, none⟩) f.vars.length f.vars.length) := (hcell 1 _ rfl).1
  have q2 : w.cell? ⟨g, r.length * 6 + 2, none⟩ = some (.slice (some ⟨a.gs, 0, none⟩) f.slots.length f.slots.length) := (hcell 2 _ rfl).1
  have hbl : bi < w.heap.size := (Array.getElem?_eq_some_iff.1 h.box).1
  have b0 : w.cell? ⟨bi, 0, none⟩ = some (.int .i64 2) := by simp [World.cell?, h.box, e]
  have b1 : w.cell? ⟨bi, 1, none⟩ = some u1 := by simp [World.cell?, h.box]
  obtain ⟨bD, oD, cD, rfl, hD1, hD2⟩ : ∃ bD oD cD, u1 = .slice (some ⟨bD, oD, none⟩) 1 cD ∧ bD < base ∧ w.cell? ⟨bD, oD, none⟩ = some (.int .i64 d) := by
    obtain ⟨aD, cD, hv, -, -, hh⟩ := rInts_val h.i1
    rw [hd] at hv hh
    obtain ⟨b, o, rfl, hb, -, hc, -⟩ := hh 0 (by simp)
    exact ⟨b, o, cD, hv, hb, hc⟩
  have hd0 : (0 : Int) ≤ d := by omega
  have hd1 : (d : Int) < f.vars.length := by omega
  obtain ⟨_, _, hv2, -, -, hvl, hvc, hvz⟩ := row_get h.run.levs.1.vars (i := d) (u := .int .i64 f.vars[d]) (by simp [hdl])
  obtain ⟨rfl, -⟩ : a.gv = _ ∧ _ := by simpa using hv2
  obtain ⟨gX, cX, rfl, hX1, -, hXl, hX2, -⟩ := row_get h.row (i := 0) (u := .int .i64 x0) (by simp [hxs])
  have hXn := h.nx gX hX1
  have hXe : xs.length = 1 := by rw [hxs]; rfl
  have ng : ¬ g = a.gv := fun e => by have h1 := h.run.lc g rfl; rw [e, h.run.levs.1.lv] at h1; simp at h1
  have nbi : ¬ bi = a.gv := fun e => by have h1 := h.nb; rw [e, h.run.levs.1.lv] at h1; simp at h1
  have nbD : ¬ bD = a.gv := fun e => by have h1 : base ≤ a.gv := (h.run.levs.1.vars.lt _ rfl).1; omega
  have ngX : ¬ gX = a.gv := fun e => by have h1 := hXn.1; rw [e, h.run.levs.1.lv] at h1; simp at h1
  have hk : ∀ b o u, ¬ b = a.gv → (w.setCell ⟨a.gv, d, none⟩ u).cell? ⟨b, o, none⟩ = w.cell? ⟨b, o, none⟩ := fun b o u hb => World.cell?_of_block (w := w) (Below.heap_setCell _ _ _ _ hb)
  have k0 := fun u => (hk (g) (r.length * 6 + 1) u ng).trans q1
  have k1 := fun u => (hk (bi) (1) u nbi).trans b1
  have k2 := fun u => (hk (bD) (oD) u nbD).trans hD2
  have k3 := fun u => (hk (gX) (0) u ngX).trans hX2
  have H := Lib.hid h
  unfold ranS25
  conv => arg 2; whnf
  rw [frame473 t h.frame.size, h.frame.s2, h.frame.s3, h.frame.s4, h.frame.s8, h.frame.s9, h.s11, h.s12, h.s14, h.s15, h.s17]
  have h13 := h.s13
  subst h13
  have Hd := Lib.hid hd
  have hXe1 : (xs.length : Int) = 1 := by rw [hXe]; rfl
  have Hxs := Lib.hid hxs
  rw [hXe]
  clear hk h hcell hv hv2 hx hd hst e hi ha hxs hX1 hXn hXe hXe1
  generalize f.vars[d] = old at *
  go_upto_region 31 with fail
  go_region_held3 (fun w' => w'.cell? ⟨g, r.length * 6 + 1, none⟩ = some (.slice (some ⟨a.gv, 0, none⟩) f.vars.length f.vars.length) ∧ w'.cell? ⟨bi, 1, none⟩ = some (.slice (some ⟨bD, oD, none⟩) 1 cD) ∧ w'.cell? ⟨bD, oD, none⟩ = some (.int .i64 d) ∧ w'.cell? ⟨gX, 0, none⟩ = some (.int .i64 x0)) (go_keep) (fail)
  all_goals go_wp2_with fail
  exact HQ.out _ _ ⟨⟨rfl, rfl, rfl, rfl, rfl, rfl⟩, rfl, rfl, ρ, vW, vL, _, (H.out.run.setV d x0).since (Since.drew _ _), by simp [Lev.setV, getI, Hd.out]⟩

set_option maxRecDepth 100000 in
set_option maxHeartbeats 4000000 in
theorem arm_loadSlot (Q : Exit → Act → World → Prop) (ρ : Nat → Option Lab) (t : Array Value) (w : World) (fuel : Int) (m : Bool) (base bp br bs bi g cap : Nat) (s13 v0 v1 vW vL u1 u2 u5 vX : Value) (p : PProg) (limit : Int) (words : List Int) (lines : List ByteArray) (f : Lev) (a : LA) (r : List (Lev × LA)) (i : PInstr) (xs : List Int)
    (h : PreArm ρ t w fuel m base bp br bs bi g cap s13 v0 v1 vW vL u1 u2 u5 p limit words lines f a r i vX xs) (hi : i = instrAt p f) (hx : xs = argsF m f i) (e : i.op = 21) (d n : Nat) (hd : i.ds = [(d : Int)]) (hdl : d < f.vars.length) (hn : i.n = n) (hnl : n < f.slots.length)
    (HQ : Hid (∀ t' w', StepPost t' w' fuel m base bp br bs s13 v0 v1 p limit (stepF p m limit (stateOf words lines ((f, a) :: r))) → Q .normal ⟨t', []⟩ w')) :
    ranS25.wp Tryd.prog Q ⟨t, []⟩ w := by
  have hst : stepF p m limit (stateOf words lines ((f, a) :: r)) = (0, ⟨words, lines, Lev.setV { f with at_ := f.at_ + 1 } i f.slots[n] :: r.map (·.1)⟩) := by
    unfold stepF stateOf
    have : getI f.slots i.n = f.slots[n] := by
      rw [hn]
      unfold getI
      rw [Int.toNat_natCast, List.getD_eq_getElem?_getD, List.getElem?_eq_getElem hnl]
      rfl
    simp only [List.map_cons, ← hi, e, this]
    rfl
  rw [hst] at HQ
  obtain ⟨g', cap', hv, -, -, hgl, hcell⟩ := h.run.get
  obtain ⟨rfl, -⟩ : g = g' ∧ cap = cap' := by simpa using hv
  have q1 : w.cell? ⟨g, r.length * 6 + 1, none⟩ = some (.slice (some ⟨a.gv, 0, none⟩) f.vars.length f.vars.length) := (hcell 1 _ rfl).1
  have q2 : w.cell? ⟨g, r.length * 6 + 2, none⟩ = some (.slice (some ⟨a.gs, 0, none⟩) f.slots.length f.slots.length) := (hcell 2 _ rfl).1
  have hbl : bi < w.heap.size := (Array.getElem?_eq_some_iff.1 h.box).1
  have b0 : w.cell? ⟨bi, 0, none⟩ = some (.int .i64 21) := by simp [World.cell?, h.box, e]
  have b1 : w.cell? ⟨bi, 1, none⟩ = some u1 := by simp [World.cell?, h.box]
  have b3 : w.cell? ⟨bi, 3, none⟩ = some (.int .i64 n) := by simp [World.cell?, h.box, hn]
  obtain ⟨bD, oD, cD, rfl, hD1, hD2⟩ : ∃ bD oD cD, u1 = .slice (some ⟨bD, oD, none⟩) 1 cD ∧ bD < base ∧ w.cell? ⟨bD, oD, none⟩ = some (.int .i64 d) := by
    obtain ⟨aD, cD, hv, -, -, hh⟩ := rInts_val h.i1
    rw [hd] at hv hh
    obtain ⟨b, o, rfl, hb, -, hc, -⟩ := hh 0 (by simp)
    exact ⟨b, o, cD, hv, hb, hc⟩
  have hd0 : (0 : Int) ≤ d := by omega
  have hd1 : (d : Int) < f.vars.length := by omega
  obtain ⟨_, _, hv2, -, -, hvl, hvc, hvz⟩ := row_get h.run.levs.1.vars (i := d) (u := .int .i64 f.vars[d]) (by simp [hdl])
  obtain ⟨rfl, -⟩ : a.gv = _ ∧ _ := by simpa using hv2
  have hS2 : w.cell? ⟨a.gs, n, none⟩ = some (.int .i64 f.slots[n]) := by
    obtain ⟨_, _, hv3, -, -, -, hc3, -⟩ := row_get h.run.levs.1.slots (i := n) (u := .int .i64 f.slots[n]) (by simp [hnl])
    obtain ⟨rfl, -⟩ : a.gs = _ ∧ _ := by simpa using hv3
    exact hc3
  have hn0 : (0 : Int) ≤ n := by omega
  have hn1 : (n : Int) < f.slots.length := by omega
  have ng : ¬ g = a.gv := fun e => by have h1 := h.run.lc g rfl; rw [e, h.run.levs.1.lv] at h1; simp at h1
  have nbi : ¬ bi = a.gv := fun e => by have h1 := h.nb; rw [e, h.run.levs.1.lv] at h1; simp at h1
  have nbD : ¬ bD = a.gv := fun e => by have h1 : base ≤ a.gv := (h.run.levs.1.vars.lt _ rfl).1; omega
  have ngs : ¬ a.gs = a.gv := fun e => by have h1 := h.run.levs.1.lt; rw [e, h.run.levs.1.lv] at h1; simp at h1
  have hk : ∀ b o u, ¬ b = a.gv → (w.setCell ⟨a.gv, d, none⟩ u).cell? ⟨b, o, none⟩ = w.cell? ⟨b, o, none⟩ := fun b o u hb => World.cell?_of_block (w := w) (Below.heap_setCell _ _ _ _ hb)
  have k0 := fun u => (hk (g) (r.length * 6 + 1) u ng).trans q1
  have k1 := fun u => (hk (bi) (1) u nbi).trans b1
  have k2 := fun u => (hk (bD) (oD) u nbD).trans hD2
  have k3 := fun u => (hk (g) (r.length * 6 + 2) u ng).trans q2
  have k4 := fun u => (hk (bi) (3) u nbi).trans b3
  have k5 := fun u => (hk (a.gs) (n) u ngs).trans hS2
  have H := Lib.hid h
  unfold ranS25
  conv => arg 2; whnf
  rw [frame473 t h.frame.size, h.frame.s2, h.frame.s3, h.frame.s4, h.frame.s8, h.frame.s9, h.s11, h.s12, h.s14, h.s15, h.s17]
  have h13 := h.s13
  subst h13
  have Hd := Lib.hid hd
  clear hk h hcell hv hv2 hx hd hst e hi hn
  generalize f.vars[d] = old at *
  generalize f.slots[n] = x0 at *
  go_upto_region 33 with fail
  go_region_held3 (fun w' => w'.cell? ⟨g, r.length * 6 + 1, none⟩ = some (.slice (some ⟨a.gv, 0, none⟩) f.vars.length f.vars.length) ∧ w'.cell? ⟨bi, 1, none⟩ = some (.slice (some ⟨bD, oD, none⟩) 1 cD) ∧ w'.cell? ⟨bD, oD, none⟩ = some (.int .i64 d) ∧ w'.cell? ⟨g, r.length * 6 + 2, none⟩ = some (.slice (some ⟨a.gs, 0, none⟩) f.slots.length f.slots.length) ∧ w'.cell? ⟨bi, 3, none⟩ = some (.int .i64 n) ∧ w'.cell? ⟨a.gs, n, none⟩ = some (.int .i64 x0)) (go_keep) (fail)
  all_goals go_wp2_with fail
  exact HQ.out _ _ ⟨⟨rfl, rfl, rfl, rfl, rfl, rfl⟩, rfl, rfl, ρ, vW, vL, _, (H.out.run.setV d x0).since (Since.drew _ _), by simp [Lev.setV, getI, Hd.out]⟩

set_option maxRecDepth 100000 in
set_option maxHeartbeats 4000000 in
theorem arm_storeSlot (Q : Exit → Act → World → Prop) (ρ : Nat → Option Lab) (t : Array Value) (w : World) (fuel : Int) (m : Bool) (base bp br bs bi g cap : Nat) (s13 v0 v1 vW vL u1 u2 u5 vX : Value) (p : PProg) (limit : Int) (words : List Int) (lines : List ByteArray) (f : Lev) (a : LA) (r : List (Lev × LA)) (i : PInstr) (xs : List Int)
    (h : PreArm ρ t w fuel m base bp br bs bi g cap s13 v0 v1 vW vL u1 u2 u5 p limit words lines f a r i vX xs) (hi : i = instrAt p f) (hx : xs = argsF m f i) (e : i.op = 22) (y n : Nat) (ha : i.ars = [(y : Int)]) (hn : i.n = n) (hnl : n < f.slots.length)
    (HQ : Hid (∀ t' w', StepPost t' w' fuel m base bp br bs s13 v0 v1 p limit (stepF p m limit (stateOf words lines ((f, a) :: r))) → Q .normal ⟨t', []⟩ w')) :
    ranS25.wp Tryd.prog Q ⟨t, []⟩ w := by
  obtain ⟨x0, hxs⟩ : ∃ x0, xs = [x0] := by
    rw [hx]
    exact ⟨getI (f.src m i) (y : Int), by simp [argsF, e, ha]⟩
  have hst : stepF p m limit (stateOf words lines ((f, a) :: r)) = (0, ⟨words, lines, { f with at_ := f.at_ + 1, slots := f.slots.set n x0 } :: r.map (·.1)⟩) := by
    unfold stepF stateOf
    simp only [List.map_cons, ← hi, ← hx, e, hxs, hn]
    rfl
  rw [hst] at HQ
  obtain ⟨g', cap', hv, -, -, hgl, hcell⟩ := h.run.get
  obtain ⟨rfl, -⟩ : g = g' ∧ cap = cap' := by simpa using hv
  have q1 : w.cell? ⟨g, r.length * 6 + 1, none⟩ = some (.slice (some ⟨a.gv, 0, none⟩) f.vars.length f.vars.length) := (hcell 1 _ rfl).1
  have q2 : w.cell? ⟨g, r.length * 6 + 2, none⟩ = some (.slice (some ⟨a.gs, 0, none⟩) f.slots.length f.slots.length) := (hcell 2 _ rfl).1
  have hbl : bi < w.heap.size := (Array.getElem?_eq_some_iff.1 h.box).1
  have b0 : w.cell? ⟨bi, 0, none⟩ = some (.int .i64 22) := by simp [World.cell?, h.box, e]
  have b3 : w.cell? ⟨bi, 3, none⟩ = some (.int .i64 n) := by simp [World.cell?, h.box, hn]
  obtain ⟨_, _, hv2, -, -, hvl, hvc, hvz⟩ := row_get h.run.levs.1.slots (i := n) (u := .int .i64 f.slots[n]) (by simp [hnl])
  obtain ⟨rfl, -⟩ : a.gs = _ ∧ _ := by simpa using hv2
  obtain ⟨gX, cX, rfl, hX1, -, hXl, hX2, -⟩ := row_get h.row (i := 0) (u := .int .i64 x0) (by simp [hxs])
  have hXn := h.nx gX hX1
  have hXe : xs.length = 1 := by rw [hxs]; rfl
  have hn0 : (0 : Int) ≤ n := by omega
  have hn1 : (n : Int) < f.slots.length := by omega
  have ng : ¬ g = a.gs := fun e => by have h1 := h.run.lc g rfl; rw [e, h.run.levs.1.lt] at h1; simp at h1
  have nbi : ¬ bi = a.gs := fun e => by have h1 := h.nb; rw [e, h.run.levs.1.lt] at h1; simp at h1
  have ngX : ¬ gX = a.gs := fun e => by have h1 := hXn.1; rw [e, h.run.levs.1.lt] at h1; simp at h1
  have hk : ∀ b o u, ¬ b = a.gs → (w.setCell ⟨a.gs, n, none⟩ u).cell? ⟨b, o, none⟩ = w.cell? ⟨b, o, none⟩ := fun b o u hb => World.cell?_of_block (w := w) (Below.heap_setCell _ _ _ _ hb)
  have k0 := fun u => (hk (g) (r.length * 6 + 2) u ng).trans q2
  have k1 := fun u => (hk (bi) (3) u nbi).trans b3
  have k2 := fun u => (hk (gX) (0) u ngX).trans hX2
  have H := Lib.hid h
  unfold ranS25
  conv => arg 2; whnf
  rw [frame473 t h.frame.size, h.frame.s2, h.frame.s3, h.frame.s4, h.frame.s8, h.frame.s9, h.s11, h.s12, h.s14, h.s15, h.s17]
  have h13 := h.s13
  subst h13
  rw [hXe]
  clear hk h hcell hv hv2 hx hst e hi ha hn hxs hX1 hXn hXe
  generalize f.slots[n] = old at *
  go_upto_region 35 with fail
  go_region_held3 (fun w' => w'.cell? ⟨g, r.length * 6 + 2, none⟩ = some (.slice (some ⟨a.gs, 0, none⟩) f.slots.length f.slots.length) ∧ w'.cell? ⟨bi, 3, none⟩ = some (.int .i64 n) ∧ w'.cell? ⟨gX, 0, none⟩ = some (.int .i64 x0)) (go_keep) (fail)
  all_goals go_wp2_with fail
  exact HQ.out _ _ ⟨⟨rfl, rfl, rfl, rfl, rfl, rfl⟩, rfl, rfl, ρ, vW, vL, _, (H.out.run.setS n x0).since (Since.drew _ _), by simp⟩

end Go.Proofs.YtaomlfbcfmmhlaaDoor

/-
  ref.ranOf: arms of the switch: sums (printed by wip/gen_arms3.py).
-/
namespace Go.Proofs.YtaomlfbcfmmhlaaDoor
open Go.RowKit Go.Pst
set_option linter.unusedVariables false
set_option linter.unusedSimpArgs false
variable [Old]
set_option maxRecDepth 100000 in
set_option maxHeartbeats 4000000 in
theorem arm_math (Q : Exit → Act → World → Prop) (ρ : Nat → Option Lab) (t : Array Value) (w : World) (fuel : Int) (m : Bool) (base bp br bs bi g cap : Nat) (s13 v0 v1 vW vL u1 u2 u5 vX : Value) (p : PProg) (limit : Int) (words : List Int) (lines : List ByteArray) (f : Lev) (a : LA) (r : List (Lev × LA)) (i : PInstr) (xs : List Int)
    (h : PreArm ρ t w fuel m base bp br bs bi g cap s13 v0 v1 vW vL u1 u2 u5 p limit words lines f a r i vX xs) (hi : i = instrAt p f) (hx : xs = argsF m f i) (e : i.op = 3) (d y z : Nat) (hd : i.ds = [(d : Int)]) (hdl : d < f.vars.length) (ha : i.ars = [(y : Int), (z : Int)]) (hxI : ∀ x ∈ xs, InI x)
    (HQ : Hid (∀ t' w', StepPost t' w' fuel m base bp br bs s13 v0 v1 p limit (stepF p m limit (stateOf words lines ((f, a) :: r))) → Q .normal ⟨t', []⟩ w')) :
    ranS25.wp Tryd.prog Q ⟨t, []⟩ w := by
  obtain ⟨x0, x1, hxs⟩ : ∃ x0 x1, xs = [x0 , x1] := by
    rw [hx]
    exact ⟨getI (f.src m i) (y : Int), getI (f.src m i) (z : Int), by simp [argsF, e, ha]⟩
  have hI0 : InI x0 := hxI x0 (by simp [hxs])
  have hI1 : InI x1 := hxI x1 (by simp [hxs])
  obtain ⟨g', cap', hv, -, -, hgl, hcell⟩ := h.run.get
  obtain ⟨rfl, -⟩ : g = g' ∧ cap = cap' := by simpa using hv
  have q1 : w.cell? ⟨g, r.length * 6 + 1, none⟩ = some (.slice (some ⟨a.gv, 0, none⟩) f.vars.length f.vars.length) := (hcell 1 _ rfl).1
  have q2 : w.cell? ⟨g, r.length * 6 + 2, none⟩ = some (.slice (some ⟨a.gs, 0, none⟩) f.slots.length f.slots.length) := (hcell 2 _ rfl).1
  have hbl : bi < w.heap.size := (Array.getElem?_eq_some_iff.1 h.box).1
  have b0 : w.cell? ⟨bi, 0, none⟩ = some (.int .i64 3) := by simp [World.cell?, h.box, e]
  have b1 : w.cell? ⟨bi, 1, none⟩ = some u1 := by simp [World.cell?, h.box]
  have b4 : w.cell? ⟨bi, 4, none⟩ = some (.string i.s) := by simp [World.cell?, h.box]
  obtain ⟨bD, oD, cD, rfl, hD1, hD2⟩ : ∃ bD oD cD, u1 = .slice (some ⟨bD, oD, none⟩) 1 cD ∧ bD < base ∧ w.cell? ⟨bD, oD, none⟩ = some (.int .i64 d) := by
    obtain ⟨aD, cD, hv, -, -, hh⟩ := rInts_val h.i1
    rw [hd] at hv hh
    obtain ⟨b, o, rfl, hb, -, hc, -⟩ := hh 0 (by simp)
    exact ⟨b, o, cD, hv, hb, hc⟩
  have hd0 : (0 : Int) ≤ d := by omega
  have hd1 : (d : Int) < f.vars.length := by omega
  obtain ⟨_, _, hv2, -, -, hvl, hvc, hvz⟩ := row_get h.run.levs.1.vars (i := d) (u := .int .i64 f.vars[d]) (by simp [hdl])
  obtain ⟨rfl, -⟩ : a.gv = _ ∧ _ := by simpa using hv2
  obtain ⟨gX, cX, rfl, hX1, -, hXl, hX2, -⟩ := row_get h.row (i := 0) (u := .int .i64 x0) (by simp [hxs])
  have hX3 : w.cell? ⟨gX, 1, none⟩ = some (.int .i64 x1) := by
    obtain ⟨_, _, hv3, -, -, -, hc3, -⟩ := row_get h.row (i := 1) (u := .int .i64 x1) (by simp [hxs])
    obtain ⟨rfl, -⟩ : gX = _ ∧ _ := by simpa using hv3
    exact hc3
  have hXn := h.nx gX hX1
  have hXe : xs.length = 2 := by rw [hxs]; rfl
  have ng : ¬ g = a.gv := fun e => by have h1 := h.run.lc g rfl; rw [e, h.run.levs.1.lv] at h1; simp at h1
  have nbi : ¬ bi = a.gv := fun e => by have h1 := h.nb; rw [e, h.run.levs.1.lv] at h1; simp at h1
  have nbD : ¬ bD = a.gv := fun e => by have h1 : base ≤ a.gv := (h.run.levs.1.vars.lt _ rfl).1; omega
  have hk : ∀ b o u, ¬ b = a.gv → (w.setCell ⟨a.gv, d, none⟩ u).cell? ⟨b, o, none⟩ = w.cell? ⟨b, o, none⟩ := fun b o u hb => World.cell?_of_block (w := w) (Below.heap_setCell _ _ _ _ hb)
  have k0 := fun u => (hk (g) (r.length * 6 + 1) u ng).trans q1
  have k1 := fun u => (hk (bi) (1) u nbi).trans b1
  have k2 := fun u => (hk (bD) (oD) u nbD).trans hD2
  by_cases hz : (sumF i.s x0 x1).2 = 0
  · have hst : stepF p m limit (stateOf words lines ((f, a) :: r)) = (0, ⟨words, lines, Lev.setV { f with at_ := f.at_ + 1 } i (sumF i.s x0 x1).1 :: r.map (·.1)⟩) := by
      unfold stepF stateOf
      simp only [List.map_cons, ← hi, ← hx, e, hxs]
      show (if (sumF i.s x0 x1).2 = 0 then _ else _) = _
      rw [if_pos hz]
      rfl
    rw [hst] at HQ
    have H := Lib.hid h
    unfold ranS25
    conv => arg 2; whnf
    rw [frame473 t h.frame.size, h.frame.s2, h.frame.s3, h.frame.s4, h.frame.s8, h.frame.s9, h.s11, h.s12, h.s14, h.s15, h.s17]
    have h13 := h.s13
    subst h13
    have Hd := Lib.hid hd
    have Hxs := Lib.hid hxs
    rw [hXe]
    clear hk h hcell hv hv2 hx hd hst e hi ha hxs hX1 hXn hXe
    generalize f.vars[d] = old at *
    have hc := fun w => sumOf_any i.s x0 x1 w hI0 hI1
    generalize sumF i.s x0 x1 = sr at *
    obtain ⟨sv, se⟩ := sr
    simp only [] at hz hc HQ
    subst hz
    have Hc := Lib.hid hc
    clear hc
    go_upto_region 37 with fail
    go_cut [20, 21] from 214 to 225 (fun s20 s21 wx => s20 = .int .i64 sv ∧ s21 = .int .i64 0 ∧ wx = w.drew)
    case first =>
      go_region_held3 (fun w' => w'.cell? ⟨bi, 4, none⟩ = some (.string i.s) ∧ w'.cell? ⟨gX, 0, none⟩ = some (.int .i64 x0) ∧ w'.cell? ⟨gX, 1, none⟩ = some (.int .i64 x1)) (go_keep) (first | (go_at_call 109; refine (Hc.out _).mono ?_; rintro e w' ⟨rfl, rfl⟩))
      all_goals (go_wp2_with fail; go_meet; exact ⟨rfl, rfl, rfl⟩)
    case rest =>
      obtain ⟨rfl, rfl, rfl⟩ := hcut
      go_upto_region 40 with fail
      go_region_held3 (fun w' => w'.cell? ⟨g, r.length * 6 + 1, none⟩ = some (.slice (some ⟨a.gv, 0, none⟩) f.vars.length f.vars.length) ∧ w'.cell? ⟨bi, 1, none⟩ = some (.slice (some ⟨bD, oD, none⟩) 1 cD) ∧ w'.cell? ⟨bD, oD, none⟩ = some (.int .i64 d)) (go_keep) (fail)
      all_goals go_wp2_with fail
      exact HQ.out _ _ ⟨⟨rfl, rfl, rfl, rfl, rfl, rfl⟩, rfl, rfl, ρ, vW, vL, _, ((H.out.run.setV d sv).since (Since.drew _ _)).since (Since.drew _ _), by simp [Lev.setV, getI, Hd.out]⟩
  · have hst : stepF p m limit (stateOf words lines ((f, a) :: r)) = ((sumF i.s x0 x1).2, ⟨words, lines, { f with at_ := f.at_ + 1 } :: r.map (·.1)⟩) := by
      unfold stepF stateOf
      simp only [List.map_cons, ← hi, ← hx, e, hxs]
      show (if (sumF i.s x0 x1).2 = 0 then _ else _) = _
      rw [if_neg hz]
      rfl
    rw [hst] at HQ
    have H := Lib.hid h
    unfold ranS25
    conv => arg 2; whnf
    rw [frame473 t h.frame.size, h.frame.s2, h.frame.s3, h.frame.s4, h.frame.s8, h.frame.s9, h.s11, h.s12, h.s14, h.s15, h.s17]
    have h13 := h.s13
    subst h13
    have Hd := Lib.hid hd
    have Hxs := Lib.hid hxs
    rw [hXe]
    clear hk h hcell hv hv2 hx hd hst e hi ha hxs hX1 hXn hXe
    generalize f.vars[d] = old at *
    have hc := fun w => sumOf_any i.s x0 x1 w hI0 hI1
    generalize sumF i.s x0 x1 = sr at *
    obtain ⟨sv, se⟩ := sr
    simp only [] at hz hc HQ
    have Hc := Lib.hid hc
    clear hc
    have hzd : (se == 0) = false := by simp [hz]
    go_upto_region 37 with fail
    go_cut [20, 21] from 214 to 225 (fun s20 s21 wx => s20 = .int .i64 sv ∧ s21 = .int .i64 se ∧ wx = w.drew)
    case first =>
      go_region_held3 (fun w' => w'.cell? ⟨bi, 4, none⟩ = some (.string i.s) ∧ w'.cell? ⟨gX, 0, none⟩ = some (.int .i64 x0) ∧ w'.cell? ⟨gX, 1, none⟩ = some (.int .i64 x1)) (go_keep) (first | (go_at_call 109; refine (Hc.out _).mono ?_; rintro e w' ⟨rfl, rfl⟩))
      all_goals (go_wp2_with fail; go_meet; exact ⟨rfl, rfl, rfl⟩)
    case rest =>
      obtain ⟨rfl, rfl, rfl⟩ := hcut
      go_wp2_with fail
      exact HQ.out _ _ ⟨⟨rfl, rfl, rfl, rfl, rfl, rfl⟩, rfl, rfl, ρ, vW, vL, _, H.out.run.since (Since.drew _ _), by simp⟩

end Go.Proofs.YtaomlfbcfmmhlaaDoor

/-
  ref.ranOf: arms of the switch: words read (printed by wip/gen_arms4.py).
-/
namespace Go.Proofs.YtaomlfbcfmmhlaaDoor
open Go.RowKit Go.Pst
set_option linter.unusedVariables false
set_option linter.unusedSimpArgs false
variable [Old]
set_option maxRecDepth 100000 in
set_option maxHeartbeats 4000000 in
theorem arm_load (Q : Exit → Act → World → Prop) (ρ : Nat → Option Lab) (t : Array Value) (w : World) (fuel : Int) (m : Bool) (base bp br bs bi g cap : Nat) (s13 v0 v1 vW vL u1 u2 u5 vX : Value) (p : PProg) (limit : Int) (words : List Int) (lines : List ByteArray) (f : Lev) (a : LA) (r : List (Lev × LA)) (i : PInstr) (xs : List Int)
    (h : PreArm ρ t w fuel m base bp br bs bi g cap s13 v0 v1 vW vL u1 u2 u5 p limit words lines f a r i vX xs) (hi : i = instrAt p f) (hx : xs = argsF m f i) (e : i.op = 4) (d y : Nat) (hd : i.ds = [(d : Int)]) (hdl : d < f.vars.length) (ha : i.ars = [(y : Int)]) (hxI : ∀ x ∈ xs, InI x) (hwl : words.length ≤ 20000)
    (HQ : Hid (∀ t' w', StepPost t' w' fuel m base bp br bs s13 v0 v1 p limit (stepF p m limit (stateOf words lines ((f, a) :: r))) → Q .normal ⟨t', []⟩ w')) :
    ranS25.wp Tryd.prog Q ⟨t, []⟩ w := by
  obtain ⟨x0, hxs⟩ : ∃ x0, xs = [x0] := by
    rw [hx]
    exact ⟨getI (f.src m i) (y : Int), by simp [argsF, e, ha]⟩
  have hI0 : InI x0 := hxI x0 (by simp [hxs])
  obtain ⟨g', cap', hv, -, -, hgl, hcell⟩ := h.run.get
  obtain ⟨rfl, -⟩ : g = g' ∧ cap = cap' := by simpa using hv
  have q1 : w.cell? ⟨g, r.length * 6 + 1, none⟩ = some (.slice (some ⟨a.gv, 0, none⟩) f.vars.length f.vars.length) := (hcell 1 _ rfl).1
  have q2 : w.cell? ⟨g, r.length * 6 + 2, none⟩ = some (.slice (some ⟨a.gs, 0, none⟩) f.slots.length f.slots.length) := (hcell 2 _ rfl).1
  have hbl : bi < w.heap.size := (Array.getElem?_eq_some_iff.1 h.box).1
  have b0 : w.cell? ⟨bi, 0, none⟩ = some (.int .i64 4) := by simp [World.cell?, h.box, e]
  have b1 : w.cell? ⟨bi, 1, none⟩ = some u1 := by simp [World.cell?, h.box]
  have b3 : w.cell? ⟨bi, 3, none⟩ = some (.int .i64 i.n) := by simp [World.cell?, h.box]
  obtain ⟨bD, oD, cD, rfl, hD1, hD2⟩ : ∃ bD oD cD, u1 = .slice (some ⟨bD, oD, none⟩) 1 cD ∧ bD < base ∧ w.cell? ⟨bD, oD, none⟩ = some (.int .i64 d) := by
    obtain ⟨aD, cD, hv, -, -, hh⟩ := rInts_val h.i1
    rw [hd] at hv hh
    obtain ⟨b, o, rfl, hb, -, hc, -⟩ := hh 0 (by simp)
    exact ⟨b, o, cD, hv, hb, hc⟩
  have hd0 : (0 : Int) ≤ d := by omega
  have hd1 : (d : Int) < f.vars.length := by omega
  obtain ⟨_, _, hv2, -, -, hvl, hvc, hvz⟩ := row_get h.run.levs.1.vars (i := d) (u := .int .i64 f.vars[d]) (by simp [hdl])
  obtain ⟨rfl, -⟩ : a.gv = _ ∧ _ := by simpa using hv2
  obtain ⟨gX, cX, rfl, hX1, -, hXl, hX2, -⟩ := row_get h.row (i := 0) (u := .int .i64 x0) (by simp [hxs])
  have hXn := h.nx gX hX1
  have hXe : xs.length = 1 := by rw [hxs]; rfl
  by_cases hz : placeF x0 i.n words.length < 0
  · have hst : stepF p m limit (stateOf words lines ((f, a) :: r)) = (2, ⟨words, lines, { f with at_ := f.at_ + 1 } :: r.map (·.1)⟩) := by
      unfold stepF stateOf
      simp only [List.map_cons, ← hi, ← hx, e, hxs]
      show (if placeF x0 i.n words.length < 0 then _ else _) = _
      rw [if_pos hz]
    rw [hst] at HQ
    obtain ⟨aW, cW, rfl, -, -⟩ := row_slice h.run.scene.oW
    have hS0 := h.run.scene.c0
    have hc := fun w hh => place_any bs aW words.length cW x0 i.n w (by omega) hI0 h.ini.2.1 hh
    have Hc := Lib.hid hc
    have H := Lib.hid h
    unfold ranS25
    conv => arg 2; whnf
    rw [frame473 t h.frame.size, h.frame.s2, h.frame.s3, h.frame.s4, h.frame.s8, h.frame.s9, h.s11, h.s12, h.s14, h.s15, h.s17]
    have h13 := h.s13
    subst h13
    rw [hXe]
    clear hc h hcell hv hv2 hx hd hst e hi ha hxs hX1 hXn hXe
    generalize placeF x0 i.n words.length = pk at *
    have hzd : decide (pk < 0) = true := decide_eq_true hz
    go_upto_region 42 with fail
    go_cut [22] from 241 to 247 (fun s22 wx => s22 = .int .i64 pk ∧ wx = w.drew)
    case first =>
      go_region_held3 (fun w' => w'.cell? ⟨bi, 3, none⟩ = some (.int .i64 i.n) ∧ w'.cell? ⟨gX, 0, none⟩ = some (.int .i64 x0)) (go_keep) ((first | (go_at_call 110; refine (Hc.out _ (by first | exact hS0 | simp [*])).mono ?_; rintro e w' ⟨rfl, rfl⟩)))
      all_goals (go_wp2_with fail; go_meet; exact ⟨rfl, rfl⟩)
    case rest =>
      obtain ⟨rfl, rfl⟩ := hcut
      go_wp2_with fail
      exact HQ.out _ _ ⟨⟨rfl, rfl, rfl, rfl, rfl, rfl⟩, rfl, rfl, ρ, _, vL, _, H.out.run.since (Since.drew _ _), by simp⟩
  · obtain ⟨k, hk⟩ := Int.eq_ofNat_of_zero_le (show 0 ≤ placeF x0 i.n words.length by omega)
    have hkl : k < words.length := by rcases placeF_range (a := x0) (n := i.n) (len := words.length) with hh | hh <;> omega
    have hst : stepF p m limit (stateOf words lines ((f, a) :: r)) = (0, ⟨words, lines, Lev.setV { f with at_ := f.at_ + 1 } i words[k] :: r.map (·.1)⟩) := by
      unfold stepF stateOf
      have hg : getI words (placeF x0 i.n words.length) = words[k] := by
        rw [hk]
        unfold getI
        rw [Int.toNat_natCast, List.getD_eq_getElem?_getD, List.getElem?_eq_getElem hkl]
        rfl
      simp only [List.map_cons, ← hi, ← hx, e, hxs]
      show (if placeF x0 i.n words.length < 0 then _ else (0, (⟨words, lines, Lev.setV _ i (getI words (placeF x0 i.n words.length)) :: _⟩ : Mach))) = _
      rw [if_neg hz, hg]
    rw [hst] at HQ
    obtain ⟨gW, cW, rfl, -, -, -, hWk, -⟩ := row_get h.run.scene.oW (i := k) (u := .int .i64 words[k]) (by simp [hkl])
    have hS0 := h.run.scene.c0
    have hc := fun w hh => place_any bs (some ⟨gW, 0, none⟩) words.length cW x0 i.n w (by omega) hI0 h.ini.2.1 hh
    have hk0 : (0 : Int) ≤ k := by omega
    have hk1 : (k : Int) < words.length := by omega
    rw [hk] at hc
    have Hc := Lib.hid hc
    have ng : ¬ g = a.gv := fun e => by have h1 := h.run.lc g rfl; rw [e, h.run.levs.1.lv] at h1; simp at h1
    have nbi : ¬ bi = a.gv := fun e => by have h1 := h.nb; rw [e, h.run.levs.1.lv] at h1; simp at h1
    have nbD : ¬ bD = a.gv := fun e => by have h1 : base ≤ a.gv := (h.run.levs.1.vars.lt _ rfl).1; omega
    have nbs : ¬ bs = a.gv := fun e => by have h1 := h.run.ls; rw [e, h.run.levs.1.lv] at h1; simp at h1
    have ngW : ¬ gW = a.gv := fun e => by have h1 := h.run.lw gW rfl; rw [e, h.run.levs.1.lv] at h1; simp at h1
    have hk : ∀ b o u, ¬ b = a.gv → (w.setCell ⟨a.gv, d, none⟩ u).cell? ⟨b, o, none⟩ = w.cell? ⟨b, o, none⟩ := fun b o u hb => World.cell?_of_block (w := w) (Below.heap_setCell _ _ _ _ hb)
    have k0 := fun u => (hk (g) (r.length * 6 + 1) u ng).trans q1
    have k1 := fun u => (hk (bi) (1) u nbi).trans b1
    have k2 := fun u => (hk (bD) (oD) u nbD).trans hD2
    have k3 := fun u => (hk (bs) (0) u nbs).trans hS0
    have k4 := fun u => (hk (gW) (k) u ngW).trans hWk
    have H := Lib.hid h
    unfold ranS25
    conv => arg 2; whnf
    rw [frame473 t h.frame.size, h.frame.s2, h.frame.s3, h.frame.s4, h.frame.s8, h.frame.s9, h.s11, h.s12, h.s14, h.s15, h.s17]
    have h13 := h.s13
    subst h13
    have Hd := Lib.hid hd
    rw [hXe]
    clear hk hc h hcell hv hv2 hx hd hst e hi ha hxs hX1 hXn hXe
    generalize f.vars[d] = old at *
    generalize words[k] = xw at *
    have hzd : decide ((k : Int) < 0) = false := decide_eq_false (by omega)
    go_upto_region 42 with fail
    go_cut [22] from 241 to 247 (fun s22 wx => s22 = .int .i64 k ∧ wx = w.drew)
    case first =>
      go_region_held3 (fun w' => w'.cell? ⟨bi, 3, none⟩ = some (.int .i64 i.n) ∧ w'.cell? ⟨gX, 0, none⟩ = some (.int .i64 x0)) (go_keep) ((first | (go_at_call 110; refine (Hc.out _ (by first | exact hS0 | simp [*])).mono ?_; rintro e w' ⟨rfl, rfl⟩)))
      all_goals (go_wp2_with fail; go_meet; exact ⟨rfl, rfl⟩)
    case rest =>
      obtain ⟨rfl, rfl⟩ := hcut
      go_upto_region 45 with fail
      go_region_held3 (fun w' => w'.cell? ⟨g, r.length * 6 + 1, none⟩ = some (.slice (some ⟨a.gv, 0, none⟩) f.vars.length f.vars.length) ∧ w'.cell? ⟨bi, 1, none⟩ = some (.slice (some ⟨bD, oD, none⟩) 1 cD) ∧ w'.cell? ⟨bD, oD, none⟩ = some (.int .i64 d) ∧ w'.cell? ⟨bs, 0, none⟩ = some (.slice (some ⟨gW, 0, none⟩) words.length cW) ∧ w'.cell? ⟨gW, k, none⟩ = some (.int .i64 xw)) (go_keep) (fail)
      all_goals go_wp2_with fail
      exact HQ.out _ _ ⟨⟨rfl, rfl, rfl, rfl, rfl, rfl⟩, rfl, rfl, ρ, _, vL, _, ((H.out.run.setV d xw).since (Since.drew _ _)).since (Since.drew _ _), by simp [Lev.setV, getI, Hd.out]⟩
end Go.Proofs.YtaomlfbcfmmhlaaDoor

/-
  ref.ranOf: arms of the switch: words written (printed by wip/gen_arms5.py).
-/
namespace Go.Proofs.YtaomlfbcfmmhlaaDoor
open Go.RowKit Go.Pst
set_option linter.unusedVariables false
set_option linter.unusedSimpArgs false
variable [Old]
/-- A word is written. -/
theorem RunAt.setW {ρ : Nat → Option Lab} {w : World} {base bp br bs : Nat} {v0 v1 vL vC : Value} {p : PProg} {limit : Int} {words : List Int} {lines : List ByteArray} {fr : List (Lev × LA)} {gW cW : Nat}
    (h : RunAt ρ w base bp br bs v0 v1 (.slice (some ⟨gW, 0, none⟩) words.length cW) vL vC p limit words lines fr) (k : Nat) (x : Int) :
    ∃ ρ', RunAt ρ' (w.setCell ⟨gW, k, none⟩ (.int .i64 x)) base bp br bs v0 v1 (.slice (some ⟨gW, 0, none⟩) words.length cW) vL vC p limit (words.set k x) lines fr := by
  have hs := Since.setCell w ⟨gW, k, none⟩ (.int .i64 x)
  have hsc := h.scene
  have nb : ¬ bs = gW := fun e => hsc.nW (by rw [e]; rfl)
  have sc : SceneAt (w.setCell ⟨gW, k, none⟩ (.int .i64 x)) base bs (.slice (some ⟨gW, 0, none⟩) words.length cW) vL (words.set k x) limit lines :=
    ⟨(hs.cell hsc.lt.2 nb).trans hsc.c0, (hs.cell hsc.lt.2 nb).trans hsc.c1, (hs.cell hsc.lt.2 nb).trans hsc.c2, (hs.frozen hsc.lt.2 nb).trans hsc.f0, (hs.frozen hsc.lt.2 nb).trans hsc.f2, ⟨hsc.lt.1, by simp; exact hsc.lt.2⟩,
      by have := row_put hsc.oW k (.int .i64 x); simpa using this, hs.row hsc.oL (fun k' hk e => hsc.nWL gW rfl (by rw [hk, show k' = gW from e])), hsc.nW, hsc.nL, hsc.nWL⟩
  exact h.turned hs (fun k' e => Or.inr (Or.inl (by rw [show k' = gW from e]; rfl))) sc (fun _ e => Or.inl e) (fun _ e => Or.inl e)

set_option maxRecDepth 100000 in
set_option maxHeartbeats 4000000 in
theorem arm_store (Q : Exit → Act → World → Prop) (ρ : Nat → Option Lab) (t : Array Value) (w : World) (fuel : Int) (m : Bool) (base bp br bs bi g cap : Nat) (s13 v0 v1 vW vL u1 u2 u5 vX : Value) (p : PProg) (limit : Int) (words : List Int) (lines : List ByteArray) (f : Lev) (a : LA) (r : List (Lev × LA)) (i : PInstr) (xs : List Int)
    (h : PreArm ρ t w fuel m base bp br bs bi g cap s13 v0 v1 vW vL u1 u2 u5 p limit words lines f a r i vX xs) (hi : i = instrAt p f) (hx : xs = argsF m f i) (e : i.op = 5) (y z : Nat) (ha : i.ars = [(y : Int), (z : Int)]) (hxI : ∀ x ∈ xs, InI x) (hwl : words.length ≤ 20000)
    (HQ : Hid (∀ t' w', StepPost t' w' fuel m base bp br bs s13 v0 v1 p limit (stepF p m limit (stateOf words lines ((f, a) :: r))) → Q .normal ⟨t', []⟩ w')) :
    ranS25.wp Tryd.prog Q ⟨t, []⟩ w := by
  obtain ⟨x0, x1, hxs⟩ : ∃ x0 x1, xs = [x0 , x1] := by
    rw [hx]
    exact ⟨getI (f.src m i) (y : Int), getI (f.src m i) (z : Int), by simp [argsF, e, ha]⟩
  have hI0 : InI x0 := hxI x0 (by simp [hxs])
  obtain ⟨g', cap', hv, -, -, hgl, hcell⟩ := h.run.get
  obtain ⟨rfl, -⟩ : g = g' ∧ cap = cap' := by simpa using hv
  have q1 : w.cell? ⟨g, r.length * 6 + 1, none⟩ = some (.slice (some ⟨a.gv, 0, none⟩) f.vars.length f.vars.length) := (hcell 1 _ rfl).1
  have q2 : w.cell? ⟨g, r.length * 6 + 2, none⟩ = some (.slice (some ⟨a.gs, 0, none⟩) f.slots.length f.slots.length) := (hcell 2 _ rfl).1
  have hbl : bi < w.heap.size := (Array.getElem?_eq_some_iff.1 h.box).1
  have b0 : w.cell? ⟨bi, 0, none⟩ = some (.int .i64 5) := by simp [World.cell?, h.box, e]
  have b3 : w.cell? ⟨bi, 3, none⟩ = some (.int .i64 i.n) := by simp [World.cell?, h.box]
  obtain ⟨gX, cX, rfl, hX1, -, hXl, hX2, -⟩ := row_get h.row (i := 0) (u := .int .i64 x0) (by simp [hxs])
  have hX3 : w.cell? ⟨gX, 1, none⟩ = some (.int .i64 x1) := by
    obtain ⟨_, _, hv3, -, -, -, hc3, -⟩ := row_get h.row (i := 1) (u := .int .i64 x1) (by simp [hxs])
    obtain ⟨rfl, -⟩ : gX = _ ∧ _ := by simpa using hv3
    exact hc3
  have hXn := h.nx gX hX1
  have hXe : xs.length = 2 := by rw [hxs]; rfl
  by_cases hz : placeF x0 i.n words.length < 0
  · have hst : stepF p m limit (stateOf words lines ((f, a) :: r)) = (2, ⟨words, lines, { f with at_ := f.at_ + 1 } :: r.map (·.1)⟩) := by
      unfold stepF stateOf
      simp only [List.map_cons, ← hi, ← hx, e, hxs]
      show (if placeF x0 i.n words.length < 0 then _ else _) = _
      rw [if_pos hz]
    rw [hst] at HQ
    obtain ⟨aW, cW, rfl, -, -⟩ := row_slice h.run.scene.oW
    have hS0 := h.run.scene.c0
    have hc := fun w hh => place_any bs aW words.length cW x0 i.n w (by omega) hI0 h.ini.2.1 hh
    have Hc := Lib.hid hc
    have H := Lib.hid h
    unfold ranS25
    conv => arg 2; whnf
    rw [frame473 t h.frame.size, h.frame.s2, h.frame.s3, h.frame.s4, h.frame.s8, h.frame.s9, h.s11, h.s12, h.s14, h.s15, h.s17]
    have h13 := h.s13
    subst h13
    rw [hXe]
    clear hc h hcell hv hx hst e hi ha hxs hX1 hXn hXe
    generalize placeF x0 i.n words.length = pk at *
    have hzd : decide (pk < 0) = true := decide_eq_true hz
    go_upto_region 47 with fail
    go_cut [23] from 268 to 274 (fun s23 wx => s23 = .int .i64 pk ∧ wx = w.drew)
    case first =>
      go_region_held3 (fun w' => w'.cell? ⟨bi, 3, none⟩ = some (.int .i64 i.n) ∧ w'.cell? ⟨gX, 0, none⟩ = some (.int .i64 x0)) (go_keep) ((first | (go_at_call 110; refine (Hc.out _ (by first | exact hS0 | simp [*])).mono ?_; rintro e w' ⟨rfl, rfl⟩)))
      all_goals (go_wp2_with fail; go_meet; exact ⟨rfl, rfl⟩)
    case rest =>
      obtain ⟨rfl, rfl⟩ := hcut
      go_wp2_with fail
      exact HQ.out _ _ ⟨⟨rfl, rfl, rfl, rfl, rfl, rfl⟩, rfl, rfl, ρ, _, vL, _, H.out.run.since (Since.drew _ _), by simp⟩
  · obtain ⟨k, hk⟩ := Int.eq_ofNat_of_zero_le (show 0 ≤ placeF x0 i.n words.length by omega)
    have hkl : k < words.length := by rcases placeF_range (a := x0) (n := i.n) (len := words.length) with hh | hh <;> omega
    have hst : stepF p m limit (stateOf words lines ((f, a) :: r)) = (0, ⟨words.set k x1, lines, { f with at_ := f.at_ + 1 } :: r.map (·.1)⟩) := by
      unfold stepF stateOf
      simp only [List.map_cons, ← hi, ← hx, e, hxs]
      show (if placeF x0 i.n words.length < 0 then _ else (0, (⟨words.set (placeF x0 i.n words.length).toNat x1, lines, _⟩ : Mach))) = _
      rw [if_neg hz, hk]
      rfl
    rw [hst] at HQ
    obtain ⟨gW, cW, rfl, -, -, -, hWk, hWz⟩ := row_get h.run.scene.oW (i := k) (u := .int .i64 words[k]) (by simp [hkl])
    have hS0 := h.run.scene.c0
    have hc := fun w hh => place_any bs (some ⟨gW, 0, none⟩) words.length cW x0 i.n w (by omega) hI0 h.ini.2.1 hh
    have hk0 : (0 : Int) ≤ k := by omega
    have hk1 : (k : Int) < words.length := by omega
    rw [hk] at hc
    have Hc := Lib.hid hc
    have nbs : ¬ bs = gW := fun e => h.run.scene.nW (by rw [e]; rfl)
    have ngX : ¬ gX = gW := fun e => by have h1 := hXn.1; rw [e, h.run.lw gW rfl] at h1; simp at h1
    have hk : ∀ b o u, ¬ b = gW → (w.setCell ⟨gW, k, none⟩ u).cell? ⟨b, o, none⟩ = w.cell? ⟨b, o, none⟩ := fun b o u hb => World.cell?_of_block (w := w) (Below.heap_setCell _ _ _ _ hb)
    have k0 := fun u => (hk (bs) (0) u nbs).trans hS0
    have k1 := fun u => (hk (gX) (1) u ngX).trans hX3
    have H := Lib.hid h
    unfold ranS25
    conv => arg 2; whnf
    rw [frame473 t h.frame.size, h.frame.s2, h.frame.s3, h.frame.s4, h.frame.s8, h.frame.s9, h.s11, h.s12, h.s14, h.s15, h.s17]
    have h13 := h.s13
    subst h13
    rw [hXe]
    clear hk hc h hcell hv hx hst e hi ha hxs hX1 hXn hXe
    generalize words[k] = xw at *
    have hzd : decide ((k : Int) < 0) = false := decide_eq_false (by omega)
    go_upto_region 47 with fail
    go_cut [23] from 268 to 274 (fun s23 wx => s23 = .int .i64 k ∧ wx = w.drew)
    case first =>
      go_region_held3 (fun w' => w'.cell? ⟨bi, 3, none⟩ = some (.int .i64 i.n) ∧ w'.cell? ⟨gX, 0, none⟩ = some (.int .i64 x0)) (go_keep) ((first | (go_at_call 110; refine (Hc.out _ (by first | exact hS0 | simp [*])).mono ?_; rintro e w' ⟨rfl, rfl⟩)))
      all_goals (go_wp2_with fail; go_meet; exact ⟨rfl, rfl⟩)
    case rest =>
      obtain ⟨rfl, rfl⟩ := hcut
      go_upto_region 50 with fail
      go_region_held3 (fun w' => w'.cell? ⟨bs, 0, none⟩ = some (.slice (some ⟨gW, 0, none⟩) words.length cW) ∧ w'.cell? ⟨gX, 1, none⟩ = some (.int .i64 x1)) (go_keep) (fail)
      all_goals go_wp2_with fail
      obtain ⟨ρ', hq⟩ := H.out.run.setW k x1
      exact HQ.out _ _ ⟨⟨rfl, rfl, rfl, rfl, rfl, rfl⟩, rfl, rfl, ρ', _, vL, _, (hq.since (Since.drew _ _)).since (Since.drew _ _), by simp⟩
end Go.Proofs.YtaomlfbcfmmhlaaDoor

/-
  ref.ranOf: arms of the switch: an end, a jump (printed by wip/gen_arms6.py).
-/
namespace Go.Proofs.YtaomlfbcfmmhlaaDoor
open Go.RowKit Go.Pst
set_option linter.unusedVariables false
set_option linter.unusedSimpArgs false
variable [Old]
/-- The innermost call goes to a block. -/
theorem RunAt.goto {ρ : Nat → Option Lab} {w : World} {base bp br bs : Nat} {v0 v1 vW vL : Value} {p : PProg} {limit : Int} {words : List Int} {lines : List ByteArray} {f : Lev} {a : LA} {r : List (Lev × LA)} {g cap : Nat}
    (h : RunAt ρ w base bp br bs v0 v1 vW vL (.slice (some ⟨g, 0, none⟩) (r.length + 1) cap) p limit words lines ((f, a) :: r)) (k : Nat) :
    RunAt ρ ((w.setCell ⟨g, r.length * 6 + 3, none⟩ (.int .i64 k)).setCell ⟨g, r.length * 6 + 4, none⟩ (.int .i64 0)) base bp br bs v0 v1 vW vL (.slice (some ⟨g, 0, none⟩) (r.length + 1) cap) p limit words lines ((f.goto k, a) :: r) := by
  have h1 := h.setC (f' := { f with block := k }) (r.length * 6 + 3) (.int .i64 k) rfl rfl rfl (RunAt.set_lev (by simp [levCells]))
  exact h1.setC (f' := f.goto k) (r.length * 6 + 4) (.int .i64 0) rfl rfl rfl (RunAt.set_lev (by simp [levCells, Lev.goto]))

set_option maxRecDepth 100000 in
set_option maxHeartbeats 4000000 in
theorem arm_fail (Q : Exit → Act → World → Prop) (ρ : Nat → Option Lab) (t : Array Value) (w : World) (fuel : Int) (m : Bool) (base bp br bs bi g cap : Nat) (s13 v0 v1 vW vL u1 u2 u5 vX : Value) (p : PProg) (limit : Int) (words : List Int) (lines : List ByteArray) (f : Lev) (a : LA) (r : List (Lev × LA)) (i : PInstr) (xs : List Int)
    (h : PreArm ρ t w fuel m base bp br bs bi g cap s13 v0 v1 vW vL u1 u2 u5 p limit words lines f a r i vX xs) (hi : i = instrAt p f) (hx : xs = argsF m f i) (e : i.op = 13)
    (HQ : Hid (∀ t' w', StepPost t' w' fuel m base bp br bs s13 v0 v1 p limit (stepF p m limit (stateOf words lines ((f, a) :: r))) → Q .normal ⟨t', []⟩ w')) :
    ranS25.wp Tryd.prog Q ⟨t, []⟩ w := by
  have hst : stepF p m limit (stateOf words lines ((f, a) :: r)) = (i.n, ⟨words, lines, { f with at_ := f.at_ + 1 } :: r.map (·.1)⟩) := by
    unfold stepF stateOf
    simp only [List.map_cons, ← hi, ← hx, e]
    rfl
  rw [hst] at HQ
  obtain ⟨g', cap', hv, -, -, hgl, hcell⟩ := h.run.get
  obtain ⟨rfl, -⟩ : g = g' ∧ cap = cap' := by simpa using hv
  have q1 : w.cell? ⟨g, r.length * 6 + 1, none⟩ = some (.slice (some ⟨a.gv, 0, none⟩) f.vars.length f.vars.length) := (hcell 1 _ rfl).1
  have q2 : w.cell? ⟨g, r.length * 6 + 2, none⟩ = some (.slice (some ⟨a.gs, 0, none⟩) f.slots.length f.slots.length) := (hcell 2 _ rfl).1
  have hbl : bi < w.heap.size := (Array.getElem?_eq_some_iff.1 h.box).1
  have b0 : w.cell? ⟨bi, 0, none⟩ = some (.int .i64 13) := by simp [World.cell?, h.box, e]
  have b3 : w.cell? ⟨bi, 3, none⟩ = some (.int .i64 i.n) := by simp [World.cell?, h.box]
  have H := Lib.hid h
  unfold ranS25
  conv => arg 2; whnf
  rw [frame473 t h.frame.size, h.frame.s2, h.frame.s3, h.frame.s4, h.frame.s8, h.frame.s9, h.s11, h.s12, h.s14, h.s15, h.s17]
  have h13 := h.s13
  subst h13
  clear h hcell hv hx hst e hi
  go_wp2_with fail
  exact HQ.out _ _ ⟨⟨rfl, rfl, rfl, rfl, rfl, rfl⟩, rfl, rfl, ρ, vW, vL, _, H.out.run, by simp⟩

set_option maxRecDepth 100000 in
set_option maxHeartbeats 4000000 in
theorem arm_jump (Q : Exit → Act → World → Prop) (ρ : Nat → Option Lab) (t : Array Value) (w : World) (fuel : Int) (m : Bool) (base bp br bs bi g cap : Nat) (s13 v0 v1 vW vL u1 u2 u5 vX : Value) (p : PProg) (limit : Int) (words : List Int) (lines : List ByteArray) (f : Lev) (a : LA) (r : List (Lev × LA)) (i : PInstr) (xs : List Int)
    (h : PreArm ρ t w fuel m base bp br bs bi g cap s13 v0 v1 vW vL u1 u2 u5 p limit words lines f a r i vX xs) (hi : i = instrAt p f) (hx : xs = argsF m f i) (e : i.op = 9) (k : Nat) (hto : i.to = [(k : Int)])
    (HQ : Hid (∀ t' w', StepPost t' w' fuel m base bp br bs s13 v0 v1 p limit (stepF p m limit (stateOf words lines ((f, a) :: r))) → Q .normal ⟨t', []⟩ w')) :
    ranS25.wp Tryd.prog Q ⟨t, []⟩ w := by
  have hst : stepF p m limit (stateOf words lines ((f, a) :: r)) = (0, ⟨words, lines, Lev.goto { f with at_ := f.at_ + 1 } k :: r.map (·.1)⟩) := by
    unfold stepF stateOf
    simp only [List.map_cons, ← hi, ← hx, e, hto]
    rfl
  rw [hst] at HQ
  obtain ⟨g', cap', hv, -, -, hgl, hcell⟩ := h.run.get
  obtain ⟨rfl, -⟩ : g = g' ∧ cap = cap' := by simpa using hv
  have q1 : w.cell? ⟨g, r.length * 6 + 1, none⟩ = some (.slice (some ⟨a.gv, 0, none⟩) f.vars.length f.vars.length) := (hcell 1 _ rfl).1
  have q2 : w.cell? ⟨g, r.length * 6 + 2, none⟩ = some (.slice (some ⟨a.gs, 0, none⟩) f.slots.length f.slots.length) := (hcell 2 _ rfl).1
  have hbl : bi < w.heap.size := (Array.getElem?_eq_some_iff.1 h.box).1
  obtain ⟨q3, z3⟩ : w.cell? ⟨g, r.length * 6 + 3, none⟩ = some (.int .i64 f.block) ∧ w.frozen? ⟨g, r.length * 6 + 3, none⟩ = false := hcell 3 _ rfl
  obtain ⟨q4, z4⟩ : w.cell? ⟨g, r.length * 6 + 4, none⟩ = some (.int .i64 ((f.at_ + 1 : Nat) : Int)) ∧ w.frozen? ⟨g, r.length * 6 + 4, none⟩ = false := hcell 4 _ rfl
  have b0 : w.cell? ⟨bi, 0, none⟩ = some (.int .i64 9) := by simp [World.cell?, h.box, e]
  have b5 : w.cell? ⟨bi, 5, none⟩ = some u5 := by simp [World.cell?, h.box]
  obtain ⟨bT, oT, cT, rfl, hT2⟩ : ∃ bT oT cT, u5 = .slice (some ⟨bT, oT, none⟩) 1 cT ∧ w.cell? ⟨bT, oT, none⟩ = some (.int .i64 k) := by
    obtain ⟨aD, cD, hv, -, -, hh⟩ := rInts_val h.i5
    rw [hto] at hv hh
    obtain ⟨b, o, rfl, hb, -, hc, -⟩ := hh 0 (by simp)
    exact ⟨b, o, cD, hv, hc⟩
  have hk0 : decide ((k : Int) ≥ 0) = true := decide_eq_true (by omega)
  have H := Lib.hid h
  unfold ranS25
  conv => arg 2; whnf
  rw [frame473 t h.frame.size, h.frame.s2, h.frame.s3, h.frame.s4, h.frame.s8, h.frame.s9, h.s11, h.s12, h.s14, h.s15, h.s17]
  have h13 := h.s13
  subst h13
  clear h hcell hv hx hst e hi hto
  go_wp2_with fail
  exact HQ.out _ _ ⟨⟨rfl, rfl, rfl, rfl, rfl, rfl⟩, rfl, rfl, ρ, vW, vL, _, H.out.run.goto k, by simp⟩
end Go.Proofs.YtaomlfbcfmmhlaaDoor

/-
  ref.ranOf: arms of the switch: a choice (printed by wip/gen_arms7.py).
-/
namespace Go.Proofs.YtaomlfbcfmmhlaaDoor
open Go.RowKit Go.Pst
set_option linter.unusedVariables false
set_option linter.unusedSimpArgs false
variable [Old]
set_option maxRecDepth 100000 in
set_option maxHeartbeats 4000000 in
theorem arm_choose (Q : Exit → Act → World → Prop) (ρ : Nat → Option Lab) (t : Array Value) (w : World) (fuel : Int) (m : Bool) (base bp br bs bi g cap : Nat) (s13 v0 v1 vW vL u1 u2 u5 vX : Value) (p : PProg) (limit : Int) (words : List Int) (lines : List ByteArray) (f : Lev) (a : LA) (r : List (Lev × LA)) (i : PInstr) (xs : List Int)
    (h : PreArm ρ t w fuel m base bp br bs bi g cap s13 v0 v1 vW vL u1 u2 u5 p limit words lines f a r i vX xs) (hi : i = instrAt p f) (hx : xs = argsF m f i) (e : i.op = 10) (y k0 k1 : Nat) (ha : i.ars = [(y : Int)]) (hto : i.to = [(k0 : Int), (k1 : Int)])
    (HQ : Hid (∀ t' w', StepPost t' w' fuel m base bp br bs s13 v0 v1 p limit (stepF p m limit (stateOf words lines ((f, a) :: r))) → Q .normal ⟨t', []⟩ w')) :
    ranS25.wp Tryd.prog Q ⟨t, []⟩ w := by
  obtain ⟨x0, hxs⟩ : ∃ x0, xs = [x0] := by
    rw [hx]
    exact ⟨getI (f.src m i) (y : Int), by simp [argsF, e, ha]⟩
  obtain ⟨g', cap', hv, -, -, hgl, hcell⟩ := h.run.get
  obtain ⟨rfl, -⟩ : g = g' ∧ cap = cap' := by simpa using hv
  have q1 : w.cell? ⟨g, r.length * 6 + 1, none⟩ = some (.slice (some ⟨a.gv, 0, none⟩) f.vars.length f.vars.length) := (hcell 1 _ rfl).1
  have q2 : w.cell? ⟨g, r.length * 6 + 2, none⟩ = some (.slice (some ⟨a.gs, 0, none⟩) f.slots.length f.slots.length) := (hcell 2 _ rfl).1
  have hbl : bi < w.heap.size := (Array.getElem?_eq_some_iff.1 h.box).1
  obtain ⟨q3, z3⟩ : w.cell? ⟨g, r.length * 6 + 3, none⟩ = some (.int .i64 f.block) ∧ w.frozen? ⟨g, r.length * 6 + 3, none⟩ = false := hcell 3 _ rfl
  obtain ⟨q4, z4⟩ : w.cell? ⟨g, r.length * 6 + 4, none⟩ = some (.int .i64 ((f.at_ + 1 : Nat) : Int)) ∧ w.frozen? ⟨g, r.length * 6 + 4, none⟩ = false := hcell 4 _ rfl
  have b0 : w.cell? ⟨bi, 0, none⟩ = some (.int .i64 10) := by simp [World.cell?, h.box, e]
  have b5 : w.cell? ⟨bi, 5, none⟩ = some u5 := by simp [World.cell?, h.box]
  obtain ⟨gX, cX, rfl, hX1, -, hXl, hX2, -⟩ := row_get h.row (i := 0) (u := .int .i64 x0) (by simp [hxs])
  have hXn := h.nx gX hX1
  have hXe : xs.length = 1 := by rw [hxs]; rfl
  obtain ⟨bT, oT, cT, rfl, hT, hT1⟩ : ∃ bT oT cT, u5 = .slice (some ⟨bT, oT, none⟩) 2 cT ∧ w.cell? ⟨bT, oT, none⟩ = some (.int .i64 k0) ∧ w.cell? ⟨bT, oT + 1, none⟩ = some (.int .i64 k1) := by
    obtain ⟨aD, cD, hv, -, -, hh⟩ := rInts_val h.i5
    rw [hto] at hv hh
    obtain ⟨b, o, rfl, hb, -, hc, -⟩ := hh 0 (by simp)
    obtain ⟨b', o', he, -, -, hc', -⟩ := hh 1 (by simp)
    obtain ⟨rfl, rfl⟩ : b = b' ∧ o = o' := by simpa using he
    exact ⟨b, o, cD, hv, hc, hc'⟩
  by_cases hz : x0 = 0
  · have hzd : (x0 == 0) = true := by simp [hz]
    have hst : stepF p m limit (stateOf words lines ((f, a) :: r)) = (0, ⟨words, lines, Lev.goto { f with at_ := f.at_ + 1 } k1 :: r.map (·.1)⟩) := by
      unfold stepF stateOf
      simp only [List.map_cons, ← hi, ← hx, e, hto, hxs]
      show (0, (⟨words, lines, Lev.goto _ (getI [(k0 : Int), (k1 : Int)] (yesF (x0 == 0))) :: _⟩ : Mach)) = _
      rw [hzd]
      rfl
    rw [hst] at HQ
    have hk0 : decide ((k1 : Int) ≥ 0) = true := decide_eq_true (by omega)
    have hc : ∀ w, Calls Tryd.prog 113 #[.bool true] w (fun e w' => e = .returned (.int .i64 1) ∧ w = w') := fun w => yesNo_any true w
    have Hc := Lib.hid hc
    have H := Lib.hid h
    unfold ranS25
    conv => arg 2; whnf
    rw [frame473 t h.frame.size, h.frame.s2, h.frame.s3, h.frame.s4, h.frame.s8, h.frame.s9, h.s11, h.s12, h.s14, h.s15, h.s17]
    have h13 := h.s13
    subst h13
    rw [hXe]
    clear hc h hcell hv hx hst e hi ha hxs hX1 hXn hXe hto
    go_upto_region 63 with fail
    go_region_held3 (fun w' => w'.cell? ⟨bi, 5, none⟩ = some (.slice (some ⟨bT, oT, none⟩) 2 cT) ∧ w'.cell? ⟨gX, 0, none⟩ = some (.int .i64 x0) ∧ w'.cell? ⟨bT, oT + 1, none⟩ = some (.int .i64 k1)) (go_keep) (first | (go_at_call 113; refine (Hc.out _).mono ?_; rintro e w' ⟨rfl, rfl⟩))
    all_goals go_wp2_with fail
    exact HQ.out _ _ ⟨⟨rfl, rfl, rfl, rfl, rfl, rfl⟩, rfl, rfl, ρ, vW, vL, _, (H.out.run.goto k1).since (Since.drew _ _), by simp⟩
  · have hzd : (x0 == 0) = false := by simp [hz]
    have hst : stepF p m limit (stateOf words lines ((f, a) :: r)) = (0, ⟨words, lines, Lev.goto { f with at_ := f.at_ + 1 } k0 :: r.map (·.1)⟩) := by
      unfold stepF stateOf
      simp only [List.map_cons, ← hi, ← hx, e, hto, hxs]
      show (0, (⟨words, lines, Lev.goto _ (getI [(k0 : Int), (k1 : Int)] (yesF (x0 == 0))) :: _⟩ : Mach)) = _
      rw [hzd]
      rfl
    rw [hst] at HQ
    have hk0 : decide ((k0 : Int) ≥ 0) = true := decide_eq_true (by omega)
    have hc : ∀ w, Calls Tryd.prog 113 #[.bool false] w (fun e w' => e = .returned (.int .i64 0) ∧ w = w') := fun w => yesNo_any false w
    have Hc := Lib.hid hc
    have H := Lib.hid h
    unfold ranS25
    conv => arg 2; whnf
    rw [frame473 t h.frame.size, h.frame.s2, h.frame.s3, h.frame.s4, h.frame.s8, h.frame.s9, h.s11, h.s12, h.s14, h.s15, h.s17]
    have h13 := h.s13
    subst h13
    rw [hXe]
    clear hc h hcell hv hx hst e hi ha hxs hX1 hXn hXe hto
    go_upto_region 63 with fail
    go_region_held3 (fun w' => w'.cell? ⟨bi, 5, none⟩ = some (.slice (some ⟨bT, oT, none⟩) 2 cT) ∧ w'.cell? ⟨gX, 0, none⟩ = some (.int .i64 x0) ∧ w'.cell? ⟨bT, oT, none⟩ = some (.int .i64 k0)) (go_keep) (first | (go_at_call 113; refine (Hc.out _).mono ?_; rintro e w' ⟨rfl, rfl⟩))
    all_goals go_wp2_with fail
    exact HQ.out _ _ ⟨⟨rfl, rfl, rfl, rfl, rfl, rfl⟩, rfl, rfl, ρ, vW, vL, _, (H.out.run.goto k0).since (Since.drew _ _), by simp⟩
end Go.Proofs.YtaomlfbcfmmhlaaDoor

/-
  ref.ranOf: arms of the switch: a pick (printed by wip/gen_arms8.py).
-/
namespace Go.Proofs.YtaomlfbcfmmhlaaDoor
open Go.RowKit Go.Pst
set_option linter.unusedVariables false
set_option linter.unusedSimpArgs false
variable [Old]
set_option maxRecDepth 100000 in
set_option maxHeartbeats 4000000 in
theorem arm_pick (Q : Exit → Act → World → Prop) (ρ : Nat → Option Lab) (t : Array Value) (w : World) (fuel : Int) (m : Bool) (base bp br bs bi g cap : Nat) (s13 v0 v1 vW vL u1 u2 u5 vX : Value) (p : PProg) (limit : Int) (words : List Int) (lines : List ByteArray) (f : Lev) (a : LA) (r : List (Lev × LA)) (i : PInstr) (xs : List Int)
    (h : PreArm ρ t w fuel m base bp br bs bi g cap s13 v0 v1 vW vL u1 u2 u5 p limit words lines f a r i vX xs) (hi : i = instrAt p f) (hx : xs = argsF m f i) (e : i.op = 11) (y n : Nat) (ha : i.ars = [(y : Int)]) (hn : i.to.length = n + 1) (hnn : n ≤ 9223372036854775806) (hge : ∀ x ∈ i.to, 0 ≤ x)
    (HQ : Hid (∀ t' w', StepPost t' w' fuel m base bp br bs s13 v0 v1 p limit (stepF p m limit (stateOf words lines ((f, a) :: r))) → Q .normal ⟨t', []⟩ w')) :
    ranS25.wp Tryd.prog Q ⟨t, []⟩ w := by
  obtain ⟨x0, hxs⟩ : ∃ x0, xs = [x0] := by
    rw [hx]
    exact ⟨getI (f.src m i) (y : Int), by simp [argsF, e, ha]⟩
  obtain ⟨g', cap', hv, -, -, hgl, hcell⟩ := h.run.get
  obtain ⟨rfl, -⟩ : g = g' ∧ cap = cap' := by simpa using hv
  have q1 : w.cell? ⟨g, r.length * 6 + 1, none⟩ = some (.slice (some ⟨a.gv, 0, none⟩) f.vars.length f.vars.length) := (hcell 1 _ rfl).1
  have q2 : w.cell? ⟨g, r.length * 6 + 2, none⟩ = some (.slice (some ⟨a.gs, 0, none⟩) f.slots.length f.slots.length) := (hcell 2 _ rfl).1
  have hbl : bi < w.heap.size := (Array.getElem?_eq_some_iff.1 h.box).1
  obtain ⟨q3, z3⟩ : w.cell? ⟨g, r.length * 6 + 3, none⟩ = some (.int .i64 f.block) ∧ w.frozen? ⟨g, r.length * 6 + 3, none⟩ = false := hcell 3 _ rfl
  obtain ⟨q4, z4⟩ : w.cell? ⟨g, r.length * 6 + 4, none⟩ = some (.int .i64 ((f.at_ + 1 : Nat) : Int)) ∧ w.frozen? ⟨g, r.length * 6 + 4, none⟩ = false := hcell 4 _ rfl
  have b0 : w.cell? ⟨bi, 0, none⟩ = some (.int .i64 11) := by simp [World.cell?, h.box, e]
  have b5 : w.cell? ⟨bi, 5, none⟩ = some u5 := by simp [World.cell?, h.box]
  obtain ⟨gX, cX, rfl, hX1, -, hXl, hX2, -⟩ := row_get h.row (i := 0) (u := .int .i64 x0) (by simp [hxs])
  have hXn := h.nx gX hX1
  have hXe : xs.length = 1 := by rw [hxs]; rfl
  have tget : ∀ j (hj : j < i.to.length), getI i.to (j : Int) = i.to[j] := fun j hj => by
    unfold getI
    rw [Int.toNat_natCast, List.getD_eq_getElem?_getD, List.getElem?_eq_getElem hj]
    rfl
  obtain ⟨kl, hkl⟩ := Int.eq_ofNat_of_zero_le (hge (i.to[n]'(by omega)) (List.getElem_mem _))
  obtain ⟨bT, oT, cT, rfl, hT⟩ : ∃ bT oT cT, u5 = .slice (some ⟨bT, oT, none⟩) (n + 1) cT ∧ ∀ j (hj : j < i.to.length), w.cell? ⟨bT, oT + j, none⟩ = some (.int .i64 i.to[j]) := by
    obtain ⟨aD, cD, hv, -, -, hh⟩ := rInts_val h.i5
    rw [hn] at hv
    obtain ⟨b, o, rfl, -, -, -, -⟩ := hh 0 (by omega)
    refine ⟨b, o, cD, hv, fun j hj => ?_⟩
    obtain ⟨b', o', he, -, -, hc', -⟩ := hh j hj
    obtain ⟨rfl, rfl⟩ : b = b' ∧ o = o' := by simpa using he
    exact hc'
  have hTl := hT n (by omega)
  rw [hkl] at hTl
  have hn0 : (0 : Int) ≤ n := by omega
  have hn1 : (n : Int) < (n : Int) + 1 := by omega
  have hlast : getI i.to (i.to.length - 1) = kl := by
    rw [show ((i.to.length : Int) - 1) = (n : Int) by omega, tget n (by omega), hkl]
  by_cases hz : 0 ≤ x0 ∧ x0 ≤ n
  · obtain ⟨j, rfl⟩ := Int.eq_ofNat_of_zero_le hz.1
    have hj : j < i.to.length := by omega
    obtain ⟨kj, hkj⟩ := Int.eq_ofNat_of_zero_le (hge i.to[j] (List.getElem_mem _))
    have hTj := hT j hj
    rw [hkj] at hTj
    have hj0 : (0 : Int) ≤ j := by omega
    have hj1 : (j : Int) < (n : Int) + 1 := by omega
    have hb : (decide ((0 : Int) ≤ (j : Int)) && decide ((j : Int) ≤ n)) = true := by simp [hz.2]
    have hif : (if 0 ≤ (j : Int) ∧ (j : Int) ≤ i.to.length - 1 then getI i.to (j : Int) else getI i.to (i.to.length - 1)) = kj := by
      rw [if_pos ⟨hj0, by omega⟩, tget j hj, hkj]
    have hst : stepF p m limit (stateOf words lines ((f, a) :: r)) = (0, ⟨words, lines, Lev.goto { f with at_ := f.at_ + 1 } kj :: r.map (·.1)⟩) := by
      unfold stepF stateOf
      simp only [List.map_cons, ← hi, ← hx, e, hxs]
      show (0, (⟨words, lines, Lev.goto _ (if 0 ≤ (j : Int) ∧ (j : Int) ≤ i.to.length - 1 then getI i.to (j : Int) else getI i.to (i.to.length - 1)) :: _⟩ : Mach)) = _
      rw [hif]
    rw [hst] at HQ
    have hk0 : decide ((kj : Int) ≥ 0) = true := decide_eq_true (by omega)
    have hk1 : decide ((kl : Int) ≥ 0) = true := decide_eq_true (by omega)
    have hwn : IntKind.i64.wrap ((n : Int) + 1 - 1) = n := by rw [Int.add_sub_cancel]; exact IntWalk.i64_in _ (by omega)
    have HB := Lib.hid hb
    have H := Lib.hid h
    unfold ranS25
    conv => arg 2; whnf
    rw [frame473 t h.frame.size, h.frame.s2, h.frame.s3, h.frame.s4, h.frame.s8, h.frame.s9, h.s11, h.s12, h.s14, h.s15, h.s17]
    have h13 := h.s13
    subst h13
    rw [hXe]
    clear h hcell hv hx hst e hi ha hxs hX1 hXn hXe hT tget hge hlast hb hif hn hkl hkj
    go_upto_region 66 with fail
    go_cut [356] from 349 to 356 (fun s356 wx => s356 = .bool true ∧ wx = w.drew)
    case first =>
      go_region_held3 (fun w' => w'.cell? ⟨bi, 5, none⟩ = some (.slice (some ⟨bT, oT, none⟩) (n + 1) cT) ∧ w'.cell? ⟨gX, 0, none⟩ = some (.int .i64 (j : Int))) (go_keep) ((first | (go_at_call 48; refine (refIn_any _ _ _ _).mono ?_; rintro e w' ⟨rfl, rfl⟩)))
      all_goals (go_wp2_with fail; go_meet; refine ⟨?_, rfl⟩; rw [show IntKind.i64.wrap (n : Int) = n from IntWalk.i64_in _ (by omega)]; first | exact congrArg Value.bool (decide_eq_true hz.2) | exact congrArg Value.bool HB.out)
    case rest =>
      obtain ⟨rfl, rfl⟩ := hcut
      go_upto_region 67 with fail
      go_region_held3 (fun w' => w'.cell? ⟨bi, 5, none⟩ = some (.slice (some ⟨bT, oT, none⟩) (n + 1) cT) ∧ w'.cell? ⟨gX, 0, none⟩ = some (.int .i64 (j : Int)) ∧ w'.cell? ⟨bT, oT + j, none⟩ = some (.int .i64 kj)) (go_keep) (fail)
      all_goals go_wp2_with fail
      exact HQ.out _ _ ⟨⟨rfl, rfl, rfl, rfl, rfl, rfl⟩, rfl, rfl, ρ, vW, vL, _, ((H.out.run.goto kj).since (Since.drew _ _)).since (Since.drew _ _), by simp⟩
  · have hb : (decide (0 ≤ x0) && decide (x0 ≤ n)) = false := by
      cases hh : (decide (0 ≤ x0) && decide (x0 ≤ n)) with
      | false => rfl
      | true => exact absurd (by simpa using hh) hz
    have hif : (if 0 ≤ x0 ∧ x0 ≤ i.to.length - 1 then getI i.to x0 else getI i.to (i.to.length - 1)) = kl := by
      rw [if_neg (by omega), hlast]
    have hst : stepF p m limit (stateOf words lines ((f, a) :: r)) = (0, ⟨words, lines, Lev.goto { f with at_ := f.at_ + 1 } kl :: r.map (·.1)⟩) := by
      unfold stepF stateOf
      simp only [List.map_cons, ← hi, ← hx, e, hxs]
      show (0, (⟨words, lines, Lev.goto _ (if 0 ≤ x0 ∧ x0 ≤ i.to.length - 1 then getI i.to x0 else getI i.to (i.to.length - 1)) :: _⟩ : Mach)) = _
      rw [hif]
    rw [hst] at HQ
    have hk0 : decide ((kl : Int) ≥ 0) = true := decide_eq_true (by omega)
    have hk1 : decide ((kl : Int) ≥ 0) = true := decide_eq_true (by omega)
    have hwn : IntKind.i64.wrap ((n : Int) + 1 - 1) = n := by rw [Int.add_sub_cancel]; exact IntWalk.i64_in _ (by omega)
    have HB := Lib.hid hb
    have H := Lib.hid h
    unfold ranS25
    conv => arg 2; whnf
    rw [frame473 t h.frame.size, h.frame.s2, h.frame.s3, h.frame.s4, h.frame.s8, h.frame.s9, h.s11, h.s12, h.s14, h.s15, h.s17]
    have h13 := h.s13
    subst h13
    rw [hXe]
    clear h hcell hv hx hst e hi ha hxs hX1 hXn hXe hT tget hge hlast hb hif hn hkl
    go_upto_region 66 with fail
    go_cut [356] from 349 to 356 (fun s356 wx => s356 = .bool false ∧ wx = w.drew)
    case first =>
      go_region_held3 (fun w' => w'.cell? ⟨bi, 5, none⟩ = some (.slice (some ⟨bT, oT, none⟩) (n + 1) cT) ∧ w'.cell? ⟨gX, 0, none⟩ = some (.int .i64 x0)) (go_keep) ((first | (go_at_call 48; refine (refIn_any _ _ _ _).mono ?_; rintro e w' ⟨rfl, rfl⟩)))
      all_goals (go_wp2_with fail; go_meet; refine ⟨?_, rfl⟩; rw [show IntKind.i64.wrap (n : Int) = n from IntWalk.i64_in _ (by omega)]; first | exact congrArg Value.bool (decide_eq_true hz.2) | exact congrArg Value.bool HB.out)
    case rest =>
      obtain ⟨rfl, rfl⟩ := hcut
      go_wp2_with fail
      exact HQ.out _ _ ⟨⟨rfl, rfl, rfl, rfl, rfl, rfl⟩, rfl, rfl, ρ, vW, vL, _, (H.out.run.goto kl).since (Since.drew _ _), by simp⟩
end Go.Proofs.YtaomlfbcfmmhlaaDoor

/-
  ref.ranOf: arms of the switch: words taken (printed by wip/gen_arms9.py).
-/
namespace Go.Proofs.YtaomlfbcfmmhlaaDoor
open Go.RowKit Go.Pst
set_option linter.unusedVariables false
set_option linter.unusedSimpArgs false
variable [Old]
/-- What a turn of the scene leaves. -/
theorem RunAt.nF {ρ : Nat → Option Lab} {w : World} {base bp br bs : Nat} {v0 v1 vW vL vC : Value} {p : PProg} {limit : Int} {words : List Int} {lines : List ByteArray} {fr : List (Lev × LA)}
    (h : RunAt ρ w base bp br bs v0 v1 vW vL vC p limit words lines fr) {k : Nat} (h1 : ρ k ≠ some .s) (h2 : ρ k ≠ some .w) (h3 : ρ k ≠ some .l) : ¬ (k = bs ∨ vW.ownBlock = some k) ∧ ¬ (k = bs ∨ vL.ownBlock = some k) := by
  constructor
  · rintro (e | e)
    · exact h1 (by rw [e]; exact h.ls)
    · exact h2 (h.lw k e)
  · rintro (e | e)
    · exact h1 (by rw [e]; exact h.ls)
    · exact h3 (h.ll k e)

set_option maxRecDepth 100000 in
set_option maxHeartbeats 4000000 in
theorem arm_alloc (Q : Exit → Act → World → Prop) (ρ : Nat → Option Lab) (t : Array Value) (w : World) (fuel : Int) (m : Bool) (base bp br bs bi g cap : Nat) (s13 v0 v1 vW vL u1 u2 u5 vX : Value) (p : PProg) (limit : Int) (words : List Int) (lines : List ByteArray) (f : Lev) (a : LA) (r : List (Lev × LA)) (i : PInstr) (xs : List Int)
    (h : PreArm ρ t w fuel m base bp br bs bi g cap s13 v0 v1 vW vL u1 u2 u5 p limit words lines f a r i vX xs) (hi : i = instrAt p f) (hx : xs = argsF m f i) (e : i.op = 6) (d y : Nat) (hd : i.ds = [(d : Int)]) (hdl : d < f.vars.length) (ha : i.ars = [(y : Int)]) (hxI : ∀ x ∈ xs, InI x) (hwl : words.length ≤ 20000) (hl0 : 0 ≤ limit) (hl : limit ≤ 20000)
    (HQ : Hid (∀ t' w', StepPost t' w' fuel m base bp br bs s13 v0 v1 p limit (stepF p m limit (stateOf words lines ((f, a) :: r))) → Q .normal ⟨t', []⟩ w')) :
    ranS25.wp Tryd.prog Q ⟨t, []⟩ w := by
  obtain ⟨x0, hxs⟩ : ∃ x0, xs = [x0] := by
    rw [hx]
    exact ⟨getI (f.src m i) (y : Int), by simp [argsF, e, ha]⟩
  have hI0 : InI x0 := hxI x0 (by simp [hxs])
  obtain ⟨g', cap', hv, -, -, hgl, hcell⟩ := h.run.get
  obtain ⟨rfl, -⟩ : g = g' ∧ cap = cap' := by simpa using hv
  have q1 : w.cell? ⟨g, r.length * 6 + 1, none⟩ = some (.slice (some ⟨a.gv, 0, none⟩) f.vars.length f.vars.length) := (hcell 1 _ rfl).1
  have q2 : w.cell? ⟨g, r.length * 6 + 2, none⟩ = some (.slice (some ⟨a.gs, 0, none⟩) f.slots.length f.slots.length) := (hcell 2 _ rfl).1
  have hbl : bi < w.heap.size := (Array.getElem?_eq_some_iff.1 h.box).1
  have b0 : w.cell? ⟨bi, 0, none⟩ = some (.int .i64 6) := by simp [World.cell?, h.box, e]
  have b1 : w.cell? ⟨bi, 1, none⟩ = some u1 := by simp [World.cell?, h.box]
  obtain ⟨bD, oD, cD, rfl, hD1, hD2⟩ : ∃ bD oD cD, u1 = .slice (some ⟨bD, oD, none⟩) 1 cD ∧ bD < base ∧ w.cell? ⟨bD, oD, none⟩ = some (.int .i64 d) := by
    obtain ⟨aD, cD, hv, -, -, hh⟩ := rInts_val h.i1
    rw [hd] at hv hh
    obtain ⟨b, o, rfl, hb, -, hc, -⟩ := hh 0 (by simp)
    exact ⟨b, o, cD, hv, hb, hc⟩
  have hd0 : (0 : Int) ≤ d := by omega
  have hd1 : (d : Int) < f.vars.length := by omega
  obtain ⟨_, _, hv2, -, -, hvl, hvc, hvz⟩ := row_get h.run.levs.1.vars (i := d) (u := .int .i64 f.vars[d]) (by simp [hdl])
  obtain ⟨rfl, -⟩ : a.gv = _ ∧ _ := by simpa using hv2
  obtain ⟨gX, cX, rfl, hX1, -, hXl, hX2, -⟩ := row_get h.row (i := 0) (u := .int .i64 x0) (by simp [hxs])
  have hXn := h.nx gX hX1
  have hXe : xs.length = 1 := by rw [hxs]; rfl
  by_cases h1 : x0 < 0
  · have ht : takeF x0 limit words = (-2, words) := by simp only [takeF, if_pos h1]
    have hst : stepF p m limit (stateOf words lines ((f, a) :: r)) = (2, ⟨words, lines, { f with at_ := f.at_ + 1 } :: r.map (·.1)⟩) := by
      unfold stepF stateOf
      simp only [List.map_cons, ← hi, ← hx, e, hxs]
      show (if (takeF x0 limit words).1 = -1 then _ else if (takeF x0 limit words).1 = -2 then _ else (0, (⟨(takeF x0 limit words).2, lines, Lev.setV _ i (takeF x0 limit words).1 :: _⟩ : Mach))) = _
      rw [ht]
      rw [if_neg (by simp), if_pos rfl]
    rw [hst] at HQ
    have hc := take_any base bs vW vL words limit lines x0 w h.run.scene hI0 hl hl0 hwl h.run.big
    unfold TakePost at hc
    rw [ht] at hc
    have Hc := Lib.hid hc
    have H := Lib.hid h
    unfold ranS25
    conv => arg 2; whnf
    rw [frame473 t h.frame.size, h.frame.s2, h.frame.s3, h.frame.s4, h.frame.s8, h.frame.s9, h.s11, h.s12, h.s14, h.s15, h.s17]
    have h13 := h.s13
    subst h13
    rw [hXe]
    have Hd := Lib.hid hd
    have Hv := Lib.hid (⟨hvl, hvc, hvz⟩ : _ ∧ _ ∧ _)
    clear hc h hcell hv hv2 hx hd hst e hi ha hxs hX1 hXn hXe hvl hvc hvz ht
    go_wp2_with fail
    refine Hc.out.mono ?_
    rintro e w1 ⟨vW1, rfl, sc1, s1, n1⟩
    obtain ⟨ρ1, hr1⟩ := H.out.run.turned s1 (fun k e => e.elim Or.inl (fun e => Or.inr (Or.inl e))) sc1 n1 (fun k e => Or.inl e)
    have Hr1 := Lib.hid hr1
    clear hr1 sc1 s1 n1 Hc
    go_wp2_with fail
    exact HQ.out _ _ ⟨⟨rfl, rfl, rfl, rfl, rfl, rfl⟩, rfl, rfl, ρ1, vW1, vL, _, Hr1.out, by simp⟩
  by_cases h2 : limit - words.length < x0
  · have ht : takeF x0 limit words = (-1, words) := by simp only [takeF, if_neg h1, if_pos h2]
    have hst : stepF p m limit (stateOf words lines ((f, a) :: r)) = (5, ⟨words, lines, { f with at_ := f.at_ + 1 } :: r.map (·.1)⟩) := by
      unfold stepF stateOf
      simp only [List.map_cons, ← hi, ← hx, e, hxs]
      show (if (takeF x0 limit words).1 = -1 then _ else if (takeF x0 limit words).1 = -2 then _ else (0, (⟨(takeF x0 limit words).2, lines, Lev.setV _ i (takeF x0 limit words).1 :: _⟩ : Mach))) = _
      rw [ht]
      rw [if_pos rfl]
    rw [hst] at HQ
    have hc := take_any base bs vW vL words limit lines x0 w h.run.scene hI0 hl hl0 hwl h.run.big
    unfold TakePost at hc
    rw [ht] at hc
    have Hc := Lib.hid hc
    have H := Lib.hid h
    unfold ranS25
    conv => arg 2; whnf
    rw [frame473 t h.frame.size, h.frame.s2, h.frame.s3, h.frame.s4, h.frame.s8, h.frame.s9, h.s11, h.s12, h.s14, h.s15, h.s17]
    have h13 := h.s13
    subst h13
    rw [hXe]
    have Hd := Lib.hid hd
    have Hv := Lib.hid (⟨hvl, hvc, hvz⟩ : _ ∧ _ ∧ _)
    clear hc h hcell hv hv2 hx hd hst e hi ha hxs hX1 hXn hXe hvl hvc hvz ht
    go_wp2_with fail
    refine Hc.out.mono ?_
    rintro e w1 ⟨vW1, rfl, sc1, s1, n1⟩
    obtain ⟨ρ1, hr1⟩ := H.out.run.turned s1 (fun k e => e.elim Or.inl (fun e => Or.inr (Or.inl e))) sc1 n1 (fun k e => Or.inl e)
    have Hr1 := Lib.hid hr1
    clear hr1 sc1 s1 n1 Hc
    go_wp2_with fail
    exact HQ.out _ _ ⟨⟨rfl, rfl, rfl, rfl, rfl, rfl⟩, rfl, rfl, ρ1, vW1, vL, _, Hr1.out, by simp⟩
  · have ht : takeF x0 limit words = ((words.length : Int), words ++ List.replicate x0.toNat 0) := by simp only [takeF, if_neg h1, if_neg h2]
    have hst : stepF p m limit (stateOf words lines ((f, a) :: r)) = (0, ⟨words ++ List.replicate x0.toNat 0, lines, Lev.setV { f with at_ := f.at_ + 1 } i words.length :: r.map (·.1)⟩) := by
      unfold stepF stateOf
      simp only [List.map_cons, ← hi, ← hx, e, hxs]
      show (if (takeF x0 limit words).1 = -1 then _ else if (takeF x0 limit words).1 = -2 then _ else (0, (⟨(takeF x0 limit words).2, lines, Lev.setV _ i (takeF x0 limit words).1 :: _⟩ : Mach))) = _
      rw [ht]
      rw [if_neg (by simp only []; omega), if_neg (by simp only []; omega)]
    rw [hst] at HQ
    have hc := take_any base bs vW vL words limit lines x0 w h.run.scene hI0 hl hl0 hwl h.run.big
    unfold TakePost at hc
    rw [ht] at hc
    have Hc := Lib.hid hc
    have H := Lib.hid h
    unfold ranS25
    conv => arg 2; whnf
    rw [frame473 t h.frame.size, h.frame.s2, h.frame.s3, h.frame.s4, h.frame.s8, h.frame.s9, h.s11, h.s12, h.s14, h.s15, h.s17]
    have h13 := h.s13
    subst h13
    rw [hXe]
    have Hd := Lib.hid hd
    have Hv := Lib.hid (⟨hvl, hvc, hvz⟩ : _ ∧ _ ∧ _)
    clear hc h hcell hv hv2 hx hd hst e hi ha hxs hX1 hXn hXe hvl hvc hvz ht
    go_wp2_with fail
    refine Hc.out.mono ?_
    rintro e w1 ⟨vW1, rfl, sc1, s1, n1⟩
    obtain ⟨ρ1, hr1⟩ := H.out.run.turned s1 (fun k e => e.elim Or.inl (fun e => Or.inr (Or.inl e))) sc1 n1 (fun k e => Or.inl e)
    have hrun := H.out.run
    have ng1 := (hrun.nF (k := g) (by rw [hrun.lc g rfl]; simp) (by rw [hrun.lc g rfl]; simp) (by rw [hrun.lc g rfl]; simp)).1
    have nb1 := (hrun.nF (k := bi) (by rw [H.out.nb]; simp) (by rw [H.out.nb]; simp) (by rw [H.out.nb]; simp)).1
    have nv1 := (hrun.nF (k := a.gv) (by rw [hrun.levs.1.lv]; simp) (by rw [hrun.levs.1.lv]; simp) (by rw [hrun.levs.1.lv]; simp)).1
    have nd1 : ¬ (bD = bs ∨ vW.ownBlock = some bD) := by
      rintro (e | e)
      · have := hrun.scene.lt.1; omega
      · have := (hrun.scene.oW.lt bD e).1; omega
    have hDl : bD < w.heap.size := Nat.lt_of_lt_of_le hD1 hrun.big
    have c1 := (s1.cell (o := r.length * 6 + 1) hgl ng1).trans q1
    have c2 := (s1.cell (o := 1) hbl nb1).trans b1
    have c3 := (s1.cell (o := oD) hDl nd1).trans hD2
    have c4 := (s1.cell (o := d) Hv.out.1 nv1).trans Hv.out.2.1
    have c5 := (s1.frozen (o := d) Hv.out.1 nv1).trans Hv.out.2.2
    have ng : ¬ g = a.gv := fun e => by have h1 := hrun.lc g rfl; rw [e, hrun.levs.1.lv] at h1; simp at h1
    have nbi : ¬ bi = a.gv := fun e => by have h1 := H.out.nb; rw [e, hrun.levs.1.lv] at h1; simp at h1
    have nbD : ¬ bD = a.gv := fun e => by have h1 : base ≤ a.gv := (hrun.levs.1.vars.lt _ rfl).1; omega
    have hk : ∀ b o u, ¬ b = a.gv → (w1.setCell ⟨a.gv, d, none⟩ u).cell? ⟨b, o, none⟩ = w1.cell? ⟨b, o, none⟩ := fun b o u hb => World.cell?_of_block (w := w1) (Below.heap_setCell _ _ _ _ hb)
    have k0 := fun u => (hk g (r.length * 6 + 1) u ng).trans c1
    have k1 := fun u => (hk bi 1 u nbi).trans c2
    have k2 := fun u => (hk bD oD u nbD).trans c3
    have Hr1 := Lib.hid hr1
    clear hk hr1 sc1 s1 n1 Hc q1 b1 hD2 ng1 nb1 nv1 nd1 hrun b0 hX2 q2
    generalize f.vars[d] = old at *
    have hdl2 : decide (((words.length : Nat) : Int) = -1) = false := decide_eq_false (by omega)
    go_upto_region 57 with fail
    go_region_held3 (fun w' => w'.cell? ⟨g, r.length * 6 + 1, none⟩ = some (.slice (some ⟨a.gv, 0, none⟩) f.vars.length f.vars.length) ∧ w'.cell? ⟨bi, 1, none⟩ = some (.slice (some ⟨bD, oD, none⟩) 1 cD) ∧ w'.cell? ⟨bD, oD, none⟩ = some (.int .i64 d)) (go_keep) (fail)
    all_goals go_wp2_with fail
    exact HQ.out _ _ ⟨⟨rfl, rfl, rfl, rfl, rfl, rfl⟩, rfl, rfl, ρ1, vW1, vL, _, (Hr1.out.setV d words.length).since (Since.drew _ _), by simp [Lev.setV, getI, Hd.out]⟩
end Go.Proofs.YtaomlfbcfmmhlaaDoor

/-
  ref.ranOf: arms of the switch: a line told (printed by wip/gen_arms10.py).
-/
namespace Go.Proofs.YtaomlfbcfmmhlaaDoor
open Go.RowKit Go.Pst
set_option linter.unusedVariables false
set_option linter.unusedSimpArgs false
variable [Old]
set_option maxRecDepth 100000 in
set_option maxHeartbeats 4000000 in
theorem arm_show1 (Q : Exit → Act → World → Prop) (ρ : Nat → Option Lab) (t : Array Value) (w : World) (fuel : Int) (m : Bool) (base bp br bs bi g cap : Nat) (s13 v0 v1 vW vL u1 u2 u5 vX : Value) (p : PProg) (limit : Int) (words : List Int) (lines : List ByteArray) (f : Lev) (a : LA) (r : List (Lev × LA)) (i : PInstr) (xs : List Int)
    (h : PreArm ρ t w fuel m base bp br bs bi g cap s13 v0 v1 vW vL u1 u2 u5 p limit words lines f a r i vX xs) (hi : i = instrAt p f) (hx : xs = argsF m f i) (e : i.op = 8) (y : Nat) (ha : i.ars = [(y : Int)]) (hxI : ∀ x ∈ xs, InI x) (hwl : words.length ≤ 20000) (hll : lines.length ≤ 2000)
    (HQ : Hid (∀ t' w', StepPost t' w' fuel m base bp br bs s13 v0 v1 p limit (stepF p m limit (stateOf words lines ((f, a) :: r))) → Q .normal ⟨t', []⟩ w')) :
    ranS25.wp Tryd.prog Q ⟨t, []⟩ w := by
  obtain ⟨x0, hxs⟩ : ∃ x0, xs = [x0] := by
    rw [hx]
    exact ⟨getI (f.src m i) (y : Int), by simp [argsF, e, ha]⟩
  have hI0 : InI x0 := hxI x0 (by simp [hxs])
  have hst : stepF p m limit (stateOf words lines ((f, a) :: r)) = ((sayF i.s x0 x0 words lines).1, ⟨words, (sayF i.s x0 x0 words lines).2, { f with at_ := f.at_ + 1 } :: r.map (·.1)⟩) := by
    unfold stepF stateOf
    simp only [List.map_cons, ← hi, ← hx, e, hxs]
    rfl
  rw [hst] at HQ
  obtain ⟨g', cap', hv, -, -, hgl, hcell⟩ := h.run.get
  obtain ⟨rfl, -⟩ : g = g' ∧ cap = cap' := by simpa using hv
  have q1 : w.cell? ⟨g, r.length * 6 + 1, none⟩ = some (.slice (some ⟨a.gv, 0, none⟩) f.vars.length f.vars.length) := (hcell 1 _ rfl).1
  have q2 : w.cell? ⟨g, r.length * 6 + 2, none⟩ = some (.slice (some ⟨a.gs, 0, none⟩) f.slots.length f.slots.length) := (hcell 2 _ rfl).1
  have hbl : bi < w.heap.size := (Array.getElem?_eq_some_iff.1 h.box).1
  have b0 : w.cell? ⟨bi, 0, none⟩ = some (.int .i64 8) := by simp [World.cell?, h.box, e]
  have b4 : w.cell? ⟨bi, 4, none⟩ = some (.string i.s) := by simp [World.cell?, h.box]
  obtain ⟨gX, cX, rfl, hX1, -, hXl, hX2, -⟩ := row_get h.row (i := 0) (u := .int .i64 x0) (by simp [hxs])
  have hXn := h.nx gX hX1
  have hXe : xs.length = 1 := by rw [hxs]; rfl
  have hrun := h.run
  have ngX := (hrun.nF (k := gX) (by rw [hXn.1]; simp) (by rw [hXn.1]; simp) (by rw [hXn.1]; simp)).2
  have nb1 := (hrun.nF (k := bi) (by rw [h.nb]; simp) (by rw [h.nb]; simp) (by rw [h.nb]; simp)).2
  have hc := say_any base bs vW vL words limit lines i.s x0 x0 w.drew (hrun.scene.since (Since.drew (fun _ => False) _) id (fun _ _ => id) (fun _ _ => id)) hI0 hI0 hwl hll hrun.big
  have Hc := Lib.hid hc
  have H := Lib.hid h
  unfold ranS25
  conv => arg 2; whnf
  rw [frame473 t h.frame.size, h.frame.s2, h.frame.s3, h.frame.s4, h.frame.s8, h.frame.s9, h.s11, h.s12, h.s14, h.s15, h.s17]
  have h13 := h.s13
  subst h13
  rw [hXe]
  have hw1 : IntKind.i64.wrap (1 - 1) = 0 := by decide
  have hw2 : IntKind.i64.wrap 0 = 0 := by decide
  clear hc h hcell hv hx hst e hi ha hxs hX1 hXn hXe hrun
  go_upto_region 59 with fail
  go_region_held3 (fun w' => w'.cell? ⟨bi, 4, none⟩ = some (.string i.s) ∧ w'.cell? ⟨gX, 0, none⟩ = some (.int .i64 x0)) (go_keep) (first | (go_at_call 112; refine Hc.out.mono ?_; rintro e w1 ⟨vL1, rfl, sc1, s1, n1⟩; have z1 := (s1.cell (o := 4) hbl nb1).trans b4; have z2 := (s1.cell (o := 0) hXl ngX).trans hX2; have SC1 := Lib.hid sc1; have S1 := Lib.hid s1; have N1 := Lib.hid n1; clear sc1 s1 n1))
  all_goals (
    have h0 := H.out.run.since (Since.drew (fun _ => False) w)
    obtain ⟨ρ1, hr1⟩ := h0.turned S1.out (fun k e => e.elim Or.inl (fun e => Or.inr (Or.inr e))) SC1.out (fun k e => Or.inl e) N1.out
    have Hr1 := Lib.hid hr1
    clear hr1 h0)
  all_goals go_wp2_with fail
  exact HQ.out _ _ ⟨⟨rfl, rfl, rfl, rfl, rfl, rfl⟩, rfl, rfl, ρ1, vW, vL1, _, Hr1.out, by simp⟩

set_option maxRecDepth 100000 in
set_option maxHeartbeats 4000000 in
theorem arm_show2 (Q : Exit → Act → World → Prop) (ρ : Nat → Option Lab) (t : Array Value) (w : World) (fuel : Int) (m : Bool) (base bp br bs bi g cap : Nat) (s13 v0 v1 vW vL u1 u2 u5 vX : Value) (p : PProg) (limit : Int) (words : List Int) (lines : List ByteArray) (f : Lev) (a : LA) (r : List (Lev × LA)) (i : PInstr) (xs : List Int)
    (h : PreArm ρ t w fuel m base bp br bs bi g cap s13 v0 v1 vW vL u1 u2 u5 p limit words lines f a r i vX xs) (hi : i = instrAt p f) (hx : xs = argsF m f i) (e : i.op = 8) (y z : Nat) (ha : i.ars = [(y : Int), (z : Int)]) (hxI : ∀ x ∈ xs, InI x) (hwl : words.length ≤ 20000) (hll : lines.length ≤ 2000)
    (HQ : Hid (∀ t' w', StepPost t' w' fuel m base bp br bs s13 v0 v1 p limit (stepF p m limit (stateOf words lines ((f, a) :: r))) → Q .normal ⟨t', []⟩ w')) :
    ranS25.wp Tryd.prog Q ⟨t, []⟩ w := by
  obtain ⟨x0, x1, hxs⟩ : ∃ x0 x1, xs = [x0 , x1] := by
    rw [hx]
    exact ⟨getI (f.src m i) (y : Int), getI (f.src m i) (z : Int), by simp [argsF, e, ha]⟩
  have hI0 : InI x0 := hxI x0 (by simp [hxs])
  have hI1 : InI x1 := hxI x1 (by simp [hxs])
  have hst : stepF p m limit (stateOf words lines ((f, a) :: r)) = ((sayF i.s x0 x1 words lines).1, ⟨words, (sayF i.s x0 x1 words lines).2, { f with at_ := f.at_ + 1 } :: r.map (·.1)⟩) := by
    unfold stepF stateOf
    simp only [List.map_cons, ← hi, ← hx, e, hxs]
    rfl
  rw [hst] at HQ
  obtain ⟨g', cap', hv, -, -, hgl, hcell⟩ := h.run.get
  obtain ⟨rfl, -⟩ : g = g' ∧ cap = cap' := by simpa using hv
  have q1 : w.cell? ⟨g, r.length * 6 + 1, none⟩ = some (.slice (some ⟨a.gv, 0, none⟩) f.vars.length f.vars.length) := (hcell 1 _ rfl).1
  have q2 : w.cell? ⟨g, r.length * 6 + 2, none⟩ = some (.slice (some ⟨a.gs, 0, none⟩) f.slots.length f.slots.length) := (hcell 2 _ rfl).1
  have hbl : bi < w.heap.size := (Array.getElem?_eq_some_iff.1 h.box).1
  have b0 : w.cell? ⟨bi, 0, none⟩ = some (.int .i64 8) := by simp [World.cell?, h.box, e]
  have b4 : w.cell? ⟨bi, 4, none⟩ = some (.string i.s) := by simp [World.cell?, h.box]
  obtain ⟨gX, cX, rfl, hX1, -, hXl, hX2, -⟩ := row_get h.row (i := 0) (u := .int .i64 x0) (by simp [hxs])
  have hX3 : w.cell? ⟨gX, 1, none⟩ = some (.int .i64 x1) := by
    obtain ⟨_, _, hv3, -, -, -, hc3, -⟩ := row_get h.row (i := 1) (u := .int .i64 x1) (by simp [hxs])
    obtain ⟨rfl, -⟩ : gX = _ ∧ _ := by simpa using hv3
    exact hc3
  have hXn := h.nx gX hX1
  have hXe : xs.length = 2 := by rw [hxs]; rfl
  have hrun := h.run
  have ngX := (hrun.nF (k := gX) (by rw [hXn.1]; simp) (by rw [hXn.1]; simp) (by rw [hXn.1]; simp)).2
  have nb1 := (hrun.nF (k := bi) (by rw [h.nb]; simp) (by rw [h.nb]; simp) (by rw [h.nb]; simp)).2
  have hc := say_any base bs vW vL words limit lines i.s x0 x1 w.drew (hrun.scene.since (Since.drew (fun _ => False) _) id (fun _ _ => id) (fun _ _ => id)) hI0 hI1 hwl hll hrun.big
  have Hc := Lib.hid hc
  have H := Lib.hid h
  unfold ranS25
  conv => arg 2; whnf
  rw [frame473 t h.frame.size, h.frame.s2, h.frame.s3, h.frame.s4, h.frame.s8, h.frame.s9, h.s11, h.s12, h.s14, h.s15, h.s17]
  have h13 := h.s13
  subst h13
  rw [hXe]
  have hw1 : IntKind.i64.wrap (2 - 1) = 1 := by decide
  have hw2 : IntKind.i64.wrap 1 = 1 := by decide
  clear hc h hcell hv hx hst e hi ha hxs hX1 hXn hXe hrun
  go_upto_region 59 with fail
  go_region_held3 (fun w' => w'.cell? ⟨bi, 4, none⟩ = some (.string i.s) ∧ w'.cell? ⟨gX, 0, none⟩ = some (.int .i64 x0) ∧ w'.cell? ⟨gX, 1, none⟩ = some (.int .i64 x1)) (go_keep) (first | (go_at_call 112; refine Hc.out.mono ?_; rintro e w1 ⟨vL1, rfl, sc1, s1, n1⟩; have z1 := (s1.cell (o := 4) hbl nb1).trans b4; have z2 := (s1.cell (o := 0) hXl ngX).trans hX2; have z3 := (s1.cell (o := 1) hXl ngX).trans hX3; have SC1 := Lib.hid sc1; have S1 := Lib.hid s1; have N1 := Lib.hid n1; clear sc1 s1 n1))
  all_goals (
    have h0 := H.out.run.since (Since.drew (fun _ => False) w)
    obtain ⟨ρ1, hr1⟩ := h0.turned S1.out (fun k e => e.elim Or.inl (fun e => Or.inr (Or.inr e))) SC1.out (fun k e => Or.inl e) N1.out
    have Hr1 := Lib.hid hr1
    clear hr1 h0)
  all_goals go_wp2_with fail
  exact HQ.out _ _ ⟨⟨rfl, rfl, rfl, rfl, rfl, rfl⟩, rfl, rfl, ρ1, vW, vL1, _, Hr1.out, by simp⟩

end Go.Proofs.YtaomlfbcfmmhlaaDoor

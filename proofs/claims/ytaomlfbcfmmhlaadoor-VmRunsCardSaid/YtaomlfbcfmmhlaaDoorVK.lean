/-
  Texts joined: VmPlace VmArm6 VmArm7 Zeros VmArm8 VmEnter Tail VmArm9 Build.
-/
import Derived.Test.YtaomlfbcfmmhlaaDoorVI
import Derived.BigQuiet
import Derived.Deep.QuietTactic
import Derived.Test.YtaomlfbcfmmhlaaDoorVJ
import Derived.Deep.DeepCutAuto
import Derived.Deep.RegionHeld3
import Derived.Test.YtaomlfbcfmmhlaaDoorVC
import Derived.Lib.AppendZerosOnto
import Derived.Test.YtaomlfbcfmmhlaaDoorVH
import Derived.Laws.CopyOwn
import Derived.WalkKit
import Derived.Deep.RegionLaw
import Derived.Deep.AppendLies
import Derived.Lib.Builder

/-
  vm's machine: the place of a word: the contract.
-/
namespace Go.Proofs.YtaomlfbcfmmhlaaDoor
open Go.RowKit Go.Pst
set_option linter.unusedVariables false
set_option linter.unusedSimpArgs false

theorem vmPlaceF_plain {a n : Int} {len : Nat} (hl : len ≤ 20000) : placeF a n len = if 0 ≤ a ∧ 0 ≤ a + n ∧ a + n < len then a + n else -1 := by
  unfold placeF
  by_cases h : 0 ≤ a ∧ 0 ≤ a + n ∧ a + n < len
  · rw [if_pos h, if_neg (by omega), if_neg (by omega), if_neg (by omega), if_pos (by omega)]
  · rw [if_neg h]
    split
    · rfl
    split
    · rfl
    split
    · rfl
    rw [if_neg (by omega)]

set_option maxRecDepth 100000 in
set_option maxHeartbeats 2000000 in
theorem vmAddress_any (bm : Nat) (aW : Option Addr) (len cW : Nat) (a n : Int) (w : World) (hlen : len ≤ 20000) (ha : InI a) (hn : InI n) (hc : w.cell? ⟨bm, 2, none⟩ = some (.slice aW len cW)) :
    Calls Tryd.prog 120 #[.pointer (some ⟨bm, 0, none⟩), .int .i64 a, .int .i64 n] w (fun e w' => e = .returned (.int .i64 (placeF a n len)) ∧ w' = w) := by
  obtain ⟨ha1, ha2⟩ := ha
  obtain ⟨hn1, hn2⟩ := hn
  have hp := vmPlaceF_plain (a := a) (n := n) hlen
  by_cases h1 : a < 0
  · have d1 : decide (a < 0) = true := decide_eq_true (by omega)
    have HB := Lib.hid (show placeF a n len = -1 by rw [hp, if_neg (by omega)])
    clear hp
    go_enter Tryd.func120, Tryd.ntmps120
    go_wp2_with fail
    go_ret
    rw [HB.out]
    exact ⟨rfl, rfl⟩
  have d1 : decide (a < 0) = false := decide_eq_false (by omega)
  have hw : wrap64 (a + n) = a + n ∨ (0 ≤ n ∧ (a > 20000 ∨ n > 20000)) := by unfold wrap64; omega
  by_cases h2 : n ≥ 0
  · have d2 : decide (n ≥ 0) = true := decide_eq_true (by omega)
    by_cases h3 : a > 20000
    · have d3 : decide (a > 20000) = true := decide_eq_true (by omega)
      have HB := Lib.hid (show placeF a n len = -1 by rw [hp, if_neg (by omega)])
      clear hp
      go_enter Tryd.func120, Tryd.ntmps120
      go_wp2_with fail
      go_ret
      rw [HB.out]
      exact ⟨rfl, rfl⟩
    have d3 : decide (a > 20000) = false := decide_eq_false (by omega)
    by_cases h4 : n > 20000
    · have d4 : decide (n > 20000) = true := decide_eq_true (by omega)
      have HB := Lib.hid (show placeF a n len = -1 by rw [hp, if_neg (by omega)])
      clear hp
      go_enter Tryd.func120, Tryd.ntmps120
      go_wp2_with fail
      go_ret
      rw [HB.out]
      exact ⟨rfl, rfl⟩
    have d4 : decide (n > 20000) = false := decide_eq_false (by omega)
    have hk : wrap64 (a + n) = a + n := by omega
    clear hw
    by_cases h5 : a + n < 0
    · have d5 : decide (a + n < 0) = true := decide_eq_true (by omega)
      have HB := Lib.hid (show placeF a n len = -1 by rw [hp, if_neg (by omega)])
      clear hp
      go_enter Tryd.func120, Tryd.ntmps120
      go_wp2_with fail
      go_ret
      rw [HB.out]
      exact ⟨rfl, rfl⟩
    have d5 : decide (a + n < 0) = false := decide_eq_false (by omega)
    by_cases h6 : a + n ≥ len
    · have d6 : decide (a + n ≥ (len : Int)) = true := decide_eq_true (by omega)
      have HB := Lib.hid (show placeF a n len = -1 by rw [hp, if_neg (by omega)])
      clear hp
      go_enter Tryd.func120, Tryd.ntmps120
      go_wp2_with fail
      go_ret
      rw [HB.out]
      exact ⟨rfl, rfl⟩
    have d6 : decide (a + n ≥ (len : Int)) = false := decide_eq_false (by omega)
    have HB := Lib.hid (show placeF a n len = a + n by rw [hp, if_pos (by omega)])
    clear hp
    go_enter Tryd.func120, Tryd.ntmps120
    go_wp2_with fail
    go_ret
    rw [HB.out]
    exact ⟨rfl, rfl⟩
  have d2 : decide (n ≥ 0) = false := decide_eq_false (by omega)
  have hk : wrap64 (a + n) = a + n := by omega
  clear hw
  by_cases h5 : a + n < 0
  · have d5 : decide (a + n < 0) = true := decide_eq_true (by omega)
    have HB := Lib.hid (show placeF a n len = -1 by rw [hp, if_neg (by omega)])
    clear hp
    go_enter Tryd.func120, Tryd.ntmps120
    go_wp2_with fail
    go_ret
    rw [HB.out]
    exact ⟨rfl, rfl⟩
  have d5 : decide (a + n < 0) = false := decide_eq_false (by omega)
  by_cases h6 : a + n ≥ len
  · have d6 : decide (a + n ≥ (len : Int)) = true := decide_eq_true (by omega)
    have HB := Lib.hid (show placeF a n len = -1 by rw [hp, if_neg (by omega)])
    clear hp
    go_enter Tryd.func120, Tryd.ntmps120
    go_wp2_with fail
    go_ret
    rw [HB.out]
    exact ⟨rfl, rfl⟩
  have d6 : decide (a + n ≥ (len : Int)) = false := decide_eq_false (by omega)
  have HB := Lib.hid (show placeF a n len = a + n by rw [hp, if_pos (by omega)])
  clear hp
  go_enter Tryd.func120, Tryd.ntmps120
  go_wp2_with fail
  go_ret
  rw [HB.out]
  exact ⟨rfl, rfl⟩
end Go.Proofs.YtaomlfbcfmmhlaaDoor

/-
  vm's machine, a step: loads (printed by wip/gen_vmarms.py).
-/
namespace Go.Proofs.YtaomlfbcfmmhlaaDoor
open Go.RowKit Go.Pst
set_option linter.unusedVariables false
set_option linter.unusedSimpArgs false
variable [Old]
set_option maxRecDepth 100000 in
set_option maxHeartbeats 4000000 in
theorem vm_load (ρ : Nat → Option Lab) (t : Array Value) (w : World) (base bm lf li : Nat) (v1 vW vL vF u1 u2 u5 : Value) (bF oF cF : Nat) (p : PProg) (limit : Int) (words : List Int) (lines : List ByteArray) (f : Lev) (a : LV) (r : List (Lev × LV)) (i : PInstr)
    (h : VmPre ρ t w base bm lf li v1 vW vL vF u1 u2 u5 bF oF cF p limit words lines f a r i) (hi : i = instrAt p f) (e : i.op = 4) (d : Nat) (hd : i.ds = [(d : Int)]) (hdl : d < f.vars.length) (y : Nat) (ha : i.ars = [(y : Int)]) (hy : y < f.vars.length) (hI : InI (getI f.vars (y : Int))) (hww : words.length ≤ 20000) :
    vmS3.wp Tryd.prog (bodyPost Tryd.prog Tryd.f69 (VmStepPost base bm v1 bF oF cF p limit (stepF p true limit (vmState words lines ((f, a) :: r))))) ⟨t, []⟩ w := by
  have hli := h.lil
  have b0 : w.cell? ⟨li, 0, none⟩ = some (.int .i64 4) := by simp [World.cell?, h.box, e]
  have b3 : w.cell? ⟨li, 3, none⟩ = some (.int .i64 i.n) := by simp [World.cell?, h.box]
  have f0 := h.fbox
  have hlf := h.lfl
  have H := Lib.hid h
  have Hset := Lib.hid (h.set d hd hdl)
  have Hd := Lib.hid hd
  have Hreg0 := Lib.hid (h.reg 0 y (by simp [ha]) hy)
  have hxs : argsF true f i = [getI f.vars (y : Int)] := by simp [argsF, e, ha, Lev.src]
  have hst : stepF p true limit (vmState words lines ((f, a) :: r)) = if placeF (getI f.vars (y : Int)) i.n words.length < 0 then (2, ⟨words, lines, { f with at_ := f.at_ + 1 } :: r.map (·.1)⟩) else (0, ⟨words, lines, Lev.setV { f with at_ := f.at_ + 1 } i (getI words (placeF (getI f.vars (y : Int)) i.n words.length)) :: r.map (·.1)⟩) := by
    unfold stepF vmState
    simp only [List.map_cons, ← hi, e, hxs]
    rfl
  rw [hst]
  generalize getI f.vars (y : Int) = x at *
  have c2 := h.run.c2
  have hbml := h.run.lm.2.2
  obtain ⟨aW, cW, rfl, hW1, hW2⟩ := row_slice h.run.oW
  have HoW := Lib.hid h.run.oW
  have Had := Lib.hid (fun (w' : World) (hw : w'.heap = w.heap) => vmAddress_any bm aW words.length cW x i.n w' hww hI h.ini.2.1 ((World.cell?_of_block (w := w) (by rw [hw])).trans c2))
  have hpl := vmPlaceF_plain (a := x) (n := i.n) hww
  generalize hp : placeF x i.n words.length = pl at *
  clear hst h hd hi e hxs ha hI hp
  by_cases hc : pl < 0
  · rw [if_pos hc]
    have d1 : decide (pl < 0) = true := decide_eq_true hc
    unfold vmS3
    conv => arg 2; whnf
    rw [frame232 t H.out.size, H.out.s0, H.out.s4, H.out.s5, H.out.s6, H.out.s7, H.out.s8]
    go_upto_region 20 with fail
    go_quiet (first
      | (go_at_call 117; go_must (refine Calls.quiet_of (Hreg0.out _ (Drawn.below ⟨_, rfl⟩ _))))
      | (go_at_call 120; go_must (refine Calls.quiet_of_same (Had.out _ rfl))))
    go_wp2_with fail
    go_ret
    exact ⟨rfl, ρ, _, vL, vF, _, H.out.run.since (Since.drewN _ _ _), rfl⟩
  · rw [if_neg hc]
    have d1 : decide (pl < 0) = false := decide_eq_false hc
    obtain ⟨k, rfl⟩ := Int.eq_ofNat_of_zero_le (show 0 ≤ pl by omega)
    have hkl : k < words.length := by split at hpl <;> omega
    have hk0 : (0 : Int) ≤ k := by omega
    have hk1 : (k : Int) < words.length := by omega
    obtain ⟨gW, cW', hvW, -, -, hgl, hcW, -⟩ := row_get HoW.out (i := k) (u := .int .i64 words[k]) (by simp [hkl])
    obtain rfl : aW = some ⟨gW, 0, none⟩ := (Value.slice.inj hvW).1
    have hx : getI words (k : Int) = words[k] := by
      unfold getI
      rw [Int.toNat_natCast, List.getD_eq_getElem?_getD, List.getElem?_eq_getElem hkl]
      rfl
    rw [hx]
    generalize words[k] = x1 at *
    clear hpl hc hvW hx
    unfold vmS3
    conv => arg 2; whnf
    rw [frame232 t H.out.size, H.out.s0, H.out.s4, H.out.s5, H.out.s6, H.out.s7, H.out.s8]
    go_upto_region 20 with fail
    go_quiet (first
      | (go_at_call 117; go_must (refine Calls.quiet_of (Hreg0.out _ (Drawn.below ⟨_, rfl⟩ _))))
      | (go_at_call 120; go_must (refine Calls.quiet_of_same (Had.out _ rfl))))
    go_wp2_with fail
    refine (Hset.out _ (Drawn.below ⟨_, rfl⟩ _) x1).mono ?_
    rintro e w1 ⟨rfl, rfl⟩
    go_wp2_with fail
    go_ret
    exact ⟨rfl, ρ, _, vL, vF, _, ((H.out.run.since (Since.drewN _ _ _)).setR d x1 hdl).since (Since.drew _ _), by simp [Lev.setV, getI, Hd.out]⟩
end Go.Proofs.YtaomlfbcfmmhlaaDoor

/-
  vm's machine, a step: stores (printed by wip/gen_vmarms.py).
-/
namespace Go.Proofs.YtaomlfbcfmmhlaaDoor
open Go.RowKit Go.Pst
set_option linter.unusedVariables false
set_option linter.unusedSimpArgs false
variable [Old]
theorem VmAt.setW {ρ : Nat → Option Lab} {w : World} {base bm : Nat} {v1 vL vF : Value} {bF oF cF : Nat} {p : PProg} {limit : Int} {words : List Int} {lines : List ByteArray} {fr : List (Lev × LV)} {gW cW : Nat}
    (h : VmAt ρ w base bm v1 (.slice (some ⟨gW, 0, none⟩) words.length cW) vL vF bF oF cF p limit words lines fr) (k : Nat) (x : Int) :
    VmAt ρ (w.setCell ⟨gW, k, none⟩ (.int .i64 x)) base bm v1 (.slice (some ⟨gW, 0, none⟩) words.length cW) vL vF bF oF cF p limit (words.set k x) lines fr := by
  have hs := Since.setCell w ⟨gW, k, none⟩ (.int .i64 x)
  have hl := h.lw gW rfl
  have hB : ∀ k', k' = gW → base ≤ k' := fun k' e => by rw [e]; exact (h.oW.lt gW rfl).1
  refine h.upd hs hB (fun k' e => by rw [show k' = gW from e, hl]; simp) ?_ (h.sL hs (fun k' e => by rw [show k' = gW from e, hl]; simp)) (h.sF hs (fun k' e => by rw [show k' = gW from e, hl]; simp)) (LevsVm.since hs hB h.levs (fun k' j e _ => by rw [show k' = gW from e, hl]; simp))
  have := row_put h.oW k (.int .i64 x)
  simpa using this
set_option maxRecDepth 100000 in
set_option maxHeartbeats 4000000 in
theorem vm_store (ρ : Nat → Option Lab) (t : Array Value) (w : World) (base bm lf li : Nat) (v1 vW vL vF u1 u2 u5 : Value) (bF oF cF : Nat) (p : PProg) (limit : Int) (words : List Int) (lines : List ByteArray) (f : Lev) (a : LV) (r : List (Lev × LV)) (i : PInstr)
    (h : VmPre ρ t w base bm lf li v1 vW vL vF u1 u2 u5 bF oF cF p limit words lines f a r i) (hi : i = instrAt p f) (e : i.op = 5) (y z : Nat) (ha : i.ars = [(y : Int), (z : Int)]) (hy : y < f.vars.length) (hz : z < f.vars.length) (hI : InI (getI f.vars (y : Int))) (hww : words.length ≤ 20000) :
    vmS3.wp Tryd.prog (bodyPost Tryd.prog Tryd.f69 (VmStepPost base bm v1 bF oF cF p limit (stepF p true limit (vmState words lines ((f, a) :: r))))) ⟨t, []⟩ w := by
  have hli := h.lil
  have b0 : w.cell? ⟨li, 0, none⟩ = some (.int .i64 5) := by simp [World.cell?, h.box, e]
  have b3 : w.cell? ⟨li, 3, none⟩ = some (.int .i64 i.n) := by simp [World.cell?, h.box]
  have f0 := h.fbox
  have hlf := h.lfl
  have H := Lib.hid h
  have Hreg0 := Lib.hid (h.reg 0 y (by simp [ha]) hy)
  have Hreg1 := Lib.hid (h.reg 1 z (by simp [ha]) hz)
  have hxs : argsF true f i = [getI f.vars (y : Int), getI f.vars (z : Int)] := by simp [argsF, e, ha, Lev.src]
  have hst : stepF p true limit (vmState words lines ((f, a) :: r)) = if placeF (getI f.vars (y : Int)) i.n words.length < 0 then (2, ⟨words, lines, { f with at_ := f.at_ + 1 } :: r.map (·.1)⟩) else (0, ⟨words.set (placeF (getI f.vars (y : Int)) i.n words.length).toNat (getI f.vars (z : Int)), lines, { f with at_ := f.at_ + 1 } :: r.map (·.1)⟩) := by
    unfold stepF vmState
    simp only [List.map_cons, ← hi, e, hxs]
    rfl
  rw [hst]
  generalize getI f.vars (y : Int) = x at *
  generalize getI f.vars (z : Int) = x1 at *
  have c2 := h.run.c2
  have hbml := h.run.lm.2.2
  obtain ⟨aW, cW, rfl, hW1, hW2⟩ := row_slice h.run.oW
  have HoW := Lib.hid h.run.oW
  have Had := Lib.hid (fun (w' : World) (hw : w'.heap = w.heap) => vmAddress_any bm aW words.length cW x i.n w' hww hI h.ini.2.1 ((World.cell?_of_block (w := w) (by rw [hw])).trans c2))
  have hpl := vmPlaceF_plain (a := x) (n := i.n) hww
  generalize hp : placeF x i.n words.length = pl at *
  have nbW : ∀ g, (Value.slice aW words.length cW).ownBlock = some g → bm ≠ g := fun g e e2 => by have h1 := h.run.lw g e; rw [← e2, h.run.lm.1] at h1; simp at h1
  clear hst h hi e hxs ha hI hp
  by_cases hc : pl < 0
  · rw [if_pos hc]
    have d1 : decide (pl < 0) = true := decide_eq_true hc
    unfold vmS3
    conv => arg 2; whnf
    rw [frame232 t H.out.size, H.out.s0, H.out.s4, H.out.s5, H.out.s6, H.out.s7, H.out.s8]
    go_upto_region 20 with fail
    go_quiet (first
      | (go_at_call 117; go_must (refine Calls.quiet_of (Hreg0.out _ (Drawn.below ⟨_, rfl⟩ _))))
      | (go_at_call 120; go_must (refine Calls.quiet_of_same (Had.out _ rfl))))
    go_wp2_with fail
    go_ret
    exact ⟨rfl, ρ, _, vL, vF, _, H.out.run.since (Since.drewN _ _ _), rfl⟩
  · rw [if_neg hc]
    have d1 : decide (pl < 0) = false := decide_eq_false hc
    obtain ⟨k, rfl⟩ := Int.eq_ofNat_of_zero_le (show 0 ≤ pl by omega)
    have hkl : k < words.length := by split at hpl <;> omega
    have hk0 : (0 : Int) ≤ k := by omega
    have hk1 : (k : Int) < words.length := by omega
    obtain ⟨gW, cW', hvW, -, -, hgl, hcW, hcz⟩ := row_get HoW.out (i := k) (u := .int .i64 words[k]) (by simp [hkl])
    obtain rfl : aW = some ⟨gW, 0, none⟩ := (Value.slice.inj hvW).1
    have nb := nbW gW rfl
    generalize words[k] = old at *
    clear hpl hc hvW nbW
    unfold vmS3
    conv => arg 2; whnf
    rw [frame232 t H.out.size, H.out.s0, H.out.s4, H.out.s5, H.out.s6, H.out.s7, H.out.s8]
    go_upto_region 20 with fail
    go_quiet (first
      | (go_at_call 117; go_must (refine Calls.quiet_of (Hreg0.out _ (Drawn.below ⟨_, rfl⟩ _))))
      | (go_at_call 120; go_must (refine Calls.quiet_of_same (Had.out _ rfl))))
    go_upto_region 21 with fail
    have hbW : Below w.heap.size w (w.drewN nq) := Drawn.below ⟨_, rfl⟩ _
    have hS0 : (w.drewN nq).cell? ⟨bm, 2, none⟩ = some (.slice (some ⟨gW, 0, none⟩) words.length cW) := c2
    have HS1 := Lib.hid (show ∀ u m, ((w.drewN m).setCell ⟨gW, k, none⟩ u).cell? ⟨bm, 2, none⟩ = some (.slice (some ⟨gW, 0, none⟩) words.length cW) from fun u m => (World.cell?_of_block (w := w.drewN m) (Below.heap_setCell _ _ _ _ nb)).trans c2)
    go_region_held3 (fun w' => w'.cell? ⟨bm, 2, none⟩ = some (.slice (some ⟨gW, 0, none⟩) words.length cW)) (first | exact hS0 | exact c2 | exact HS1.out _ _)
      (first | (go_at_call 117; refine (Hreg1.out _ (hbW.trans (Drawn.below (Drawn.drew _) _))).mono ?_; rintro e w1 ⟨rfl, k', rfl⟩))
    all_goals go_wp2_with fail
    go_ret
    exact ⟨rfl, ρ, _, vL, vF, _, (H.out.run.since (Since.drewN _ _ _)).setW k x1, by simp⟩
end Go.Proofs.YtaomlfbcfmmhlaaDoor

/-
  A law of no program: 'append(s, make([]int, k)...)' onto a row of ints that the call owns.
-/
namespace Go.Pst
open Go.RowKit
set_option linter.unusedVariables false
set_option linter.unusedSimpArgs false

theorem zeroCells_ints (k : Nat) : (Builtin.zeroCells #[.int .i64 0] k).toList = List.replicate k (.int .i64 0) := by
  apply List.ext_getElem
  · simp [Builtin.zeroCells]
  · intro j h1 h2
    simp [Builtin.zeroCells, Nat.mod_one]

theorem run_append_zeros {P : Program} (w : World) (base : Nat) (t tn ty e : TypeId) (i : TypeInfo) (ht : P.underlying t = some (.slice e)) (htn : P.underlying tn = some (.int .i64)) (hi : P.info? e = some i) (hz : i.zero = some (.int .i64 0)) (hsize : i.size = 1) (hby : i.bytes = 8)
    (v : Value) (n : Nat) (xs : List Value) (hown : w.ownsRow base e 1 v n xs) (k : Nat) (hk : n + k ≤ 100000) (hbase : base ≤ w.heap.size) :
    ∃ v' w', (Builtin.append_ #[t, tn] ty #[v, .int .i64 k]).run P w = .ok v' w' ∧ w'.ownsRow base e 1 v' (n + k) (xs ++ List.replicate k (.int .i64 0)) ∧ w.grownBy w' v.ownBlock ∧ (v'.ownBlock = v.ownBlock ∨ v'.ownBlock = some w.heap.size) := by
  have hw : IntKind.i64.wrap (k : Int) = k := by rw [IntKind.wrap_i64]; omega
  have hneg : ¬ ((k : Int) < 0) := by omega
  have h48i : ¬ (281474976710656 < (k : Int) * 8) := by omega
  have hlen : (xs ++ List.replicate k (Value.int .i64 0)).length = (n + k) * 1 := by rw [List.length_append, hown.1, List.length_replicate]; omega
  have hw0 : IntKind.i64.wrap 0 = 0 := by decide
  by_cases h0 : k = 0
  · subst h0
    obtain ⟨a, cap, rfl, hle, hcm⟩ := row_slice hown
    refine ⟨.slice a n cap, w, ?_, by simpa using hown, ⟨rfl, rfl, rfl, Nat.le_refl _, fun _ _ _ => rfl⟩, Or.inl rfl⟩
    cases a <;> simp [Builtin.append_, run_underlying ht, run_underlying htn, sizeOf, typeInfo, zeroValue, hi, hz, asInt, asIntOf, hsize, hby, hle, hw0, storeCells]
  have grown : ∀ (old : Nat), old < n + k → ∀ (row : Option Nat),
      (w.drew.alloc (.cells (xs.toArray ++ Builtin.zeroCells #[.int .i64 0] k ++ Builtin.zeroCells #[.int .i64 0] (grownCap w (n + k) old e - (n + k))) e)).ownsRow base e 1
        (.slice (some ⟨w.heap.size, 0, none⟩) (n + k) (grownCap w (n + k) old e)) (n + k) (xs ++ List.replicate k (.int .i64 0)) ∧
      w.grownBy (w.drew.alloc (.cells (xs.toArray ++ Builtin.zeroCells #[.int .i64 0] k ++ Builtin.zeroCells #[.int .i64 0] (grownCap w (n + k) old e - (n + k))) e)) row := by
    intro old ho row
    have hge := grownCap_ge w (n + k) old e
    have hcm : grownCap w (n + k) old e ≤ maxLen := grownCap_le_maxLen w (n + k) old e (by unfold maxLen; omega)
    have hxl := hown.1
    refine ⟨⟨hlen, .inr ⟨w.heap.size, _, _, rfl, hbase, heap_alloc_new w.drew _, hge, hcm, ?_, ?_⟩⟩, ⟨rfl, rfl, rfl, by simp, fun k hk _ => heap_alloc_old w.drew _ hk⟩⟩
    · simp [size_zeroCells, hxl]
      omega
    · simp only [Array.toList_append, zeroCells_ints, List.append_assoc]
      rw [← List.append_assoc, ← hlen]
      exact List.take_left
  rcases hown.2 with ⟨rfl, rfl⟩ | ⟨g, cap, cur, rfl, hbg, hg, hnc, hcm, hcs, htake⟩
  · have hx : xs = [] := List.eq_nil_of_length_eq_zero (by simpa using hown.1)
    subst hx
    have hr := Lib.run_append_nil_zeros (P := P) w t tn ty e i _ .i64 .i64 ht htn hi hz k (by omega) (by omega) (by omega) (by rw [hby]; omega)
    have hgr := grown 0 (by omega) (Value.ownBlock (.slice none 0 0))
    simp only [Nat.zero_add, List.nil_append, Array.empty_append] at hgr ⊢
    exact ⟨_, _, hr, hgr.1, hgr.2, Or.inr rfl⟩
  · by_cases hroom : n + k ≤ cap
    · have hst := run_storeCells_at P g (n * 1) e (List.replicate k (Value.int .i64 0)) 0 cur w hg (by simp; omega) (by intro u hu; rw [List.eq_of_mem_replicate hu]; rfl)
      simp only [Nat.add_zero] at hst
      obtain ⟨C, hC⟩ : ∃ C, C = (cur.toList.take (n * 1) ++ List.replicate k (Value.int .i64 0) ++ cur.toList.drop (n * 1 + (List.replicate k (Value.int .i64 0)).length)).toArray := ⟨_, rfl⟩
      have hrun : (Builtin.append_ #[t, tn] ty #[.slice (some ⟨g, 0, none⟩) n cap, .int .i64 k]).run P w = .ok (.slice (some ⟨g, 0, none⟩) (n + k) cap) (w.setRow g C) := by
        rw [← hC] at hst
        simp [Builtin.append_, run_underlying ht, run_underlying htn, sizeOf, typeInfo, zeroValue, hi, hz, asInt, asIntOf, hw, hneg, hsize, hby, h48i, h0, hroom, Addr.add_lit, zeroCells_ints, Value.cells]
        have hst' : (storeCells ⟨g, n, none⟩ (List.replicate k (Value.int .i64 0))).run P w = .ok () (w.setRow g C) := by simpa using hst
        rw [hst']
        rfl
      refine ⟨_, _, hrun, ⟨hlen, .inr ⟨g, cap, C, rfl, hbg, setRow_heap w g cur C e _ hg, hroom, hcm, ?_, ?_⟩⟩, ⟨rfl, rfl, rfl, by simp [World.setRow], fun k' _ hk' => setRow_other w g k' C (fun e' => hk' (by simp [Value.ownBlock, e']))⟩, Or.inl rfl⟩
      · rw [hC]
        simp
        omega
      · rw [hC, htake]
        have := hlen
        show List.take ((n + k) * 1) (xs ++ List.replicate k (Value.int .i64 0) ++ _) = _
        rw [← hlen]
        exact List.take_left
    · have holds : ∀ j u, xs[j]? = some u → w.cell? ((⟨g, 0, none⟩ : Addr).add j) = some u := hown.cells (g := g) rfl
      have hold := run_firstCells_some (P := P) w.drew i.size n ⟨g, 0, none⟩ n cap xs (by rw [hown.1, hsize]) (by simpa using holds)
      have hfit := growslice_fits (need := n + k) (old := cap) (bytes := i.bytes) (by omega) (by rw [hby]; omega)
      have hr := Lib.run_append_grow_zeros (P := P) w t tn ty e i _ .i64 .i64 ht htn hi hz (some ⟨g, 0, none⟩) n cap xs hold k (by omega) (by omega) (by omega) (by omega) (by rw [hby]; omega) hfit
      have hgr := grown cap (by omega) (Value.ownBlock (.slice (some ⟨g, 0, none⟩) n cap))
      exact ⟨_, _, hr, hgr.1, hgr.2, Or.inr rfl⟩
end Go.Pst

/-
  vm's machine, a step: room (printed by wip/gen_vmarms.py).
-/
namespace Go.Proofs.YtaomlfbcfmmhlaaDoor
open Go.RowKit Go.Pst
set_option linter.unusedVariables false
set_option linter.unusedSimpArgs false
variable [Old]
set_option maxRecDepth 100000 in
set_option maxHeartbeats 4000000 in
theorem vm_alloc (ρ : Nat → Option Lab) (t : Array Value) (w : World) (base bm lf li : Nat) (v1 vW vL vF u1 u2 u5 : Value) (bF oF cF : Nat) (p : PProg) (limit : Int) (words : List Int) (lines : List ByteArray) (f : Lev) (a : LV) (r : List (Lev × LV)) (i : PInstr)
    (h : VmPre ρ t w base bm lf li v1 vW vL vF u1 u2 u5 bF oF cF p limit words lines f a r i) (hi : i = instrAt p f) (e : i.op = 6) (d : Nat) (hd : i.ds = [(d : Int)]) (hdl : d < f.vars.length) (y : Nat) (ha : i.ars = [(y : Int)]) (hy : y < f.vars.length) (hI : InI (getI f.vars (y : Int))) (hww : words.length ≤ 20000) (hl0 : 0 ≤ limit) (hl : limit ≤ 20000) :
    vmS3.wp Tryd.prog (bodyPost Tryd.prog Tryd.f69 (VmStepPost base bm v1 bF oF cF p limit (stepF p true limit (vmState words lines ((f, a) :: r))))) ⟨t, []⟩ w := by
  have hli := h.lil
  have b0 : w.cell? ⟨li, 0, none⟩ = some (.int .i64 6) := by simp [World.cell?, h.box, e]
  have b3 : w.cell? ⟨li, 3, none⟩ = some (.int .i64 i.n) := by simp [World.cell?, h.box]
  have f0 := h.fbox
  have hlf := h.lfl
  have H := Lib.hid h
  have Hset := Lib.hid (h.set d hd hdl)
  have Hd := Lib.hid hd
  have Hreg0 := Lib.hid (h.reg 0 y (by simp [ha]) hy)
  have hxs : argsF true f i = [getI f.vars (y : Int)] := by simp [argsF, e, ha, Lev.src]
  generalize getI f.vars (y : Int) = x at *
  have c2 := h.run.c2
  have c3 := h.run.c3
  have hbml := h.run.lm.2.2
  obtain ⟨aW, cW, rfl, hcw1, hcw2⟩ := row_slice h.run.oW
  obtain ⟨hI1, hI2⟩ := hI
  by_cases h1 : x < 0
  · have ht : takeF x limit words = (-2, words) := by simp only [takeF, if_pos h1]
    have hst : stepF p true limit (vmState words lines ((f, a) :: r)) = (2, ⟨words, lines, { f with at_ := f.at_ + 1 } :: r.map (·.1)⟩) := by
      unfold stepF vmState
      simp only [List.map_cons, ← hi, e, hxs]
      show (if (takeF x limit words).1 = -1 then _ else if (takeF x limit words).1 = -2 then _ else (0, (⟨(takeF x limit words).2, lines, Lev.setV _ i (takeF x limit words).1 :: _⟩ : Mach))) = _
      rw [ht]
      rw [if_neg (by simp), if_pos rfl]
    rw [hst]
    have d1 : decide (x < 0) = true := decide_eq_true h1
    clear ht hst h hi e hxs ha hd
    unfold vmS3
    conv => arg 2; whnf
    rw [frame232 t H.out.size, H.out.s0, H.out.s4, H.out.s5, H.out.s6, H.out.s7, H.out.s8]
    go_wp2_with fail
    refine (Hreg0.out w (Below.refl _ _)).mono ?_
    rintro e w1 ⟨rfl, k, rfl⟩
    go_wp2_with fail
    go_ret
    exact ⟨rfl, ρ, _, vL, vF, _, H.out.run.since (Since.drewN _ _ _), rfl⟩
  by_cases h2 : limit - words.length < x
  · have ht : takeF x limit words = (-1, words) := by simp only [takeF, if_neg h1, if_pos h2]
    have hst : stepF p true limit (vmState words lines ((f, a) :: r)) = (5, ⟨words, lines, { f with at_ := f.at_ + 1 } :: r.map (·.1)⟩) := by
      unfold stepF vmState
      simp only [List.map_cons, ← hi, e, hxs]
      show (if (takeF x limit words).1 = -1 then _ else if (takeF x limit words).1 = -2 then _ else (0, (⟨(takeF x limit words).2, lines, Lev.setV _ i (takeF x limit words).1 :: _⟩ : Mach))) = _
      rw [ht]
      rw [if_pos rfl]
    rw [hst]
    have d1 : decide (x < 0) = false := decide_eq_false h1
    have hwr : IntKind.i64.wrap (limit - (words.length : Int)) = limit - words.length := IntWalk.i64_in _ (by omega)
    have d2 : decide (x > limit - (words.length : Int)) = true := decide_eq_true h2
    clear ht hst h hi e hxs ha hd
    unfold vmS3
    conv => arg 2; whnf
    rw [frame232 t H.out.size, H.out.s0, H.out.s4, H.out.s5, H.out.s6, H.out.s7, H.out.s8]
    go_wp2_with fail
    refine (Hreg0.out w (Below.refl _ _)).mono ?_
    rintro e w1 ⟨rfl, k, rfl⟩
    go_upto_region 30 with fail
    go_quiet (fail)
    go_wp2_with fail
    go_ret
    exact ⟨rfl, ρ, _, vL, vF, _, H.out.run.since ((Since.drewN _ _ _).trans (Since.drewN _ _ _)), rfl⟩
  · have ht : takeF x limit words = ((words.length : Int), words ++ List.replicate x.toNat 0) := by simp only [takeF, if_neg h1, if_neg h2]
    have hst : stepF p true limit (vmState words lines ((f, a) :: r)) = (0, ⟨words ++ List.replicate x.toNat 0, lines, Lev.setV { f with at_ := f.at_ + 1 } i words.length :: r.map (·.1)⟩) := by
      unfold stepF vmState
      simp only [List.map_cons, ← hi, e, hxs]
      show (if (takeF x limit words).1 = -1 then _ else if (takeF x limit words).1 = -2 then _ else (0, (⟨(takeF x limit words).2, lines, Lev.setV _ i (takeF x limit words).1 :: _⟩ : Mach))) = _
      rw [ht]
      rw [if_neg (by simp only []; omega), if_neg (by simp only []; omega)]
    rw [hst]
    have d1 : decide (x < 0) = false := decide_eq_false h1
    have hwr : IntKind.i64.wrap (limit - (words.length : Int)) = limit - words.length := IntWalk.i64_in _ (by omega)
    have d2 : decide (x > limit - (words.length : Int)) = false := decide_eq_false h2
    obtain ⟨X, rfl⟩ := Int.eq_ofNat_of_zero_le (show 0 ≤ x by omega)
    obtain ⟨i0, hii, hz0, hz1, hz2⟩ := info_parts info_int
    have HX1 := Lib.hid (show (X : Int) ≤ limit - words.length by omega)
    have HnWb := Lib.hid (show (Value.slice aW words.length cW).ownBlock ≠ some bm from fun e => by have h1 := h.run.lw bm e; rw [h.run.lm.1] at h1; simp at h1)
    clear ht hst h hi e hxs ha hd h1 h2
    unfold vmS3
    conv => arg 2; whnf
    rw [frame232 t H.out.size, H.out.s0, H.out.s4, H.out.s5, H.out.s6, H.out.s7, H.out.s8]
    go_wp2_with fail
    refine (Hreg0.out w (Below.refl _ _)).mono ?_
    rintro e w1 ⟨rfl, k, rfl⟩
    go_upto_region 30 with fail
    go_quiet (fail)
    go_wp2_with fail
    refine (Hset.out _ (Drawn.below ⟨k + nq, rfl⟩ _) words.length).mono ?_
    rintro e w3 ⟨rfl, hw3⟩
    have hq := ((H.out.run.since (Since.drewN _ w (k + nq))).setR d words.length hdl).since (Since.drew _ _)
    rw [← hw3] at hq
    clear hw3 c2 c3
    have c2W := hq.c2
    have z2W := hq.z 2
    have hbmW := hq.lm.2.2
    have hx1 := HX1.out
    obtain ⟨v', w2, hr, hown', hgr, hloc⟩ := run_append_zeros (P := Tryd.prog) w3 base 23 3 23 3 i0 Tryd.underlying23 Tryd.underlying3 hii hz0 hz1 hz2 _ _ _ hq.oW X (by omega) hq.big
    have sg := Since.grown hgr
    have c22 := (sg.cell (o := 2) hbmW (fun e => HnWb.out e)).trans c2W
    have z22 := (sg.frozen (o := 2) hbmW (fun e => HnWb.out e)).trans z2W
    obtain ⟨aV, cV, rfl, hcv1, hcv2⟩ := row_slice hown'
    obtain ⟨ρ2, hq2⟩ := hq.turn (words' := words ++ List.replicate X 0) sg 2 (Or.inl rfl) (.slice aV (words.length + X) cV) (fun k e => Or.inl ⟨rfl, e⟩) (fun e => absurd rfl e) (fun _ => ⟨rfl, rfl⟩) (fun _ => rfl) (fun e => absurd e (by decide)) (fun _ => by simpa using hown') (fun e => absurd e (by decide))
      (fun _ k hk => by
        rcases hloc with e | e
        · rw [e] at hk; exact Or.inl hk
        · rw [e] at hk
          have : w3.heap.size = k := by simpa using hk
          exact Or.inr (by omega))
      (fun e => absurd e (by decide))
    have HR := Lib.hid hr
    have HQ2 := Lib.hid hq2
    clear hq hr hown' hgr hloc sg hq2
    go_wp2_with (at_builtin; refine Lib.wpList_append_run _ rfl (.tmp 137) (.tmp 138) 23 3 rfl _ _ rfl rfl _ w2 HR.out ?_)
    go_wp2_with fail
    go_ret
    exact ⟨rfl, ρ2, _, vL, vF, _, HQ2.out, by simp [Lev.setV, getI, Hd.out]⟩
end Go.Proofs.YtaomlfbcfmmhlaaDoor

/-
  vm's machine: a function is entered: the contract.
-/
namespace Go.Proofs.YtaomlfbcfmmhlaaDoor
open Go.RowKit Go.Pst
set_option linter.unusedVariables false
set_option linter.unusedSimpArgs false

theorem vmCode_mem {base : Nat} {w : World} {v0 v1 : Value} {p : PProg} {k : Nat} (h : rProg (· < base) w [v0, v1] p) (hk : k < p.funcs.length) : ∃ bF oF cF, v0 = .slice (some ⟨bF, oF, none⟩) p.funcs.length cF ∧ bF < base ∧ bF < w.heap.size ∧
      w.cell? ⟨bF, oF + k * 6 + 3, none⟩ = some (.int .i64 (codeAt p k).vars) ∧ w.cell? ⟨bF, oF + k * 6 + 4, none⟩ = some (.int .i64 (codeAt p k).slots) := by
  obtain ⟨u, u', hv, hc, -⟩ := h
  obtain ⟨rfl, rfl⟩ : v0 = u ∧ v1 = u' := by simpa using hv
  obtain ⟨aF, cF, rfl, -, -, h⟩ := rCodes_val hc
  obtain ⟨bF, oF, v5, rfl, hS, hbl, -, -, -, c3, c4, -, -, -⟩ := h k hk
  rw [← codeAt_eq hk] at c3 c4
  exact ⟨bF, oF, cF, rfl, hS, hbl, c3, c4⟩
/-- 'copy' into a row of the call's own, from its head. -/
theorem wpList_copy_vrow {P : Program} {w : World} {ops : Array Oper} {rest : List Oper} {o : Oper} {a : Act} {Q : Exit → Act → World → Prop} (hgd : o.guard = none) (d s : Operand) (dT sT : TypeId)
    (ho : o.op = .call { callee := .builtin .copy, args := #[d, s], argTypes := #[dT, sT] }) (elem : TypeId) (hu : P.underlying dT = some (.slice elem)) (hsz : (P.info? elem).map (·.size) = some 1)
    (g dLen dCap : Nat) (sp : Option Addr) (sLen sCap : Nat) (hd : a.eval d = .slice (some ⟨g, 0, none⟩) dLen dCap) (hs : a.eval s = .slice sp sLen sCap)
    (cur : List Value) (t : TypeId) (hg : w.heap[g]? = some (.cells cur.toArray t (0, 0))) (cs : List Value) (hn : cs.length = Nat.min sLen dLen)
    (hpos : 0 < cs.length → ∃ ad, sp = some ad ∧ ∀ j v, cs[j]? = some v → w.cell? (ad.add j) = some v) (hfit : cs.length ≤ cur.length) (h1 : ∀ v ∈ cs, v.oneCell' = true)
    (h : ∀ w', Hid (w'.heap[g]? = some (.cells (cs ++ cur.drop cs.length).toArray t (0, 0))) → Since (fun k => k = g) w w' → wpList P ops Q rest (a.put o.dst (goInt cs.length)) w') :
    wpList P ops Q (o :: rest) a w := by
  by_cases h0 : cs.length = 0
  · obtain rfl : cs = [] := List.eq_nil_of_length_eq_zero h0
    refine wpList_copy_nothing hgd d s dT sT ho elem hu hsz _ sp dLen dCap sLen sCap hd hs (by simpa using hn.symm) ?_
    exact h w (Lib.hid (by simpa using hg)) (Since.refl _ _)
  · obtain ⟨ad, rfl, hsrc⟩ := hpos (by omega)
    refine wpList_copy_own hgd d s dT sT ho elem hu hsz g 0 dLen dCap ad sLen sCap hd hs cur.toArray t hg cs hn hsrc (by simpa using hfit) h1 ?_
    refine h _ (Lib.hid ?_) ⟨rfl, rfl, rfl, by simp [World.setRow], fun k _ hk => setRow_other w g k _ hk⟩
    have := setRow_heap w g _ (cur.toArray.toList.take 0 ++ (cs ++ cur.toArray.toList.drop (0 + cs.length))).toArray t _ hg
    simpa using this

/-- A new frame. -/
theorem VmAt.push [Old] {ρ : Nat → Option Lab} {w w1 w2 : World} {base bm : Nat} {v1 vW vL vF vF' : Value} {bF oF cF : Nat} {p : PProg} {limit : Int} {words : List Int} {lines : List ByteArray} {fr : List (Lev × LV)} {o : Obj} {f : Lev} {a : LV}
    (h : VmAt ρ w base bm v1 vW vL vF bF oF cF p limit words lines fr) (hs : Since (fun _ => False) w w1) (hg : (w1.alloc o).grownBy w2 vF.ownBlock)
    (ho : w2.ownsRow base 114 1 vF' (fr.length + 1) (vmRow fr ++ [.pointer (some ⟨a.gs, 0, none⟩)])) (hloc : vF'.ownBlock = vF.ownBlock ∨ vF'.ownBlock = some (w1.heap.size + 1))
    (h8 : f.vars.length + a.rest.length = 8) (hv : intRow w1 base a.gv f.slots) (hc : w1.ownsRow base 117 13 (.slice (some ⟨a.gs, 0, none⟩) 1 1) 1 (vmCells bF oF f a)) (nv : w.heap.size ≤ a.gv) (nt : w.heap.size ≤ a.gs) (hne : a.gv ≠ a.gs) (hw : rInts (· < base) w1 [a.vw] f.want) :
    ∃ ρ', VmAt ρ' (w2.setCell ⟨bm, 4, none⟩ vF') base bm v1 vW vL vF' bF oF cF p limit words lines ((f, a) :: fr) := by
  have h1 := h.label (ρ' := fun k => if k < w.heap.size then ρ k else if k = a.gv then some (.v fr.length) else if k = a.gs then some (.t fr.length) else some .c) (fun k hk => by simp [hk])
  have s2 : Since (fun k => vF.ownBlock = some k) w1 w2 := (Since.alloc _ _ _).trans (Since.grown hg)
  have s3 : Since (fun k => vF.ownBlock = some k) w w2 := (hs.mono (fun _ e => e.elim)).trans s2
  have hlt : ∀ k, vF.ownBlock = some k → k < w.heap.size := fun k e => (h.rF.lt k e).2
  have lv : a.gv < w1.heap.size := (hv.lt _ rfl).2
  have lt : a.gs < w1.heap.size := (hc.lt _ rfl).2
  have s4 := Since.setCell w2 ⟨bm, 4, none⟩ vF'
  have hbm := h.lm
  have s5 : Since (fun k => vF.ownBlock = some k ∨ k = bm) w (w2.setCell ⟨bm, 4, none⟩ vF') := (s3.mono (fun _ e => Or.inl e)).trans (s4.mono (fun _ e => Or.inr e))
  have hB : ∀ k, (vF.ownBlock = some k ∨ k = bm) → base ≤ k := fun k e => by
    rcases e with e | e
    · exact (h.rF.lt k e).1
    · rw [e]; exact h.lm.2.1
  have lab : ∀ k, (vF.ownBlock = some k ∨ k = bm) → ρ k = some .c ∨ ρ k = some .s := fun k e => by
    rcases e with e | e
    · exact Or.inl (h.lc k e)
    · exact Or.inr (by rw [e]; exact h.lm.1)
  have lab1 : ∀ k, (vF.ownBlock = some k ∨ k = bm) → (if k < w.heap.size then ρ k else if k = a.gv then some (Lab.v fr.length) else if k = a.gs then some (Lab.t fr.length) else some Lab.c) = some .c ∨ (if k < w.heap.size then ρ k else if k = a.gv then some (Lab.v fr.length) else if k = a.gs then some (Lab.t fr.length) else some Lab.c) = some .s := fun k e => by
    have hk : k < w.heap.size := by
      rcases e with e | e
      · exact hlt k e
      · rw [e]; exact h.lm.2.2
    simp only [hk, if_true]
    exact lab k e
  have nbF : vF.ownBlock ≠ some bm := fun e => by have := h.lc bm e; rw [h.lm.1] at this; simp at this
  have get : ∀ i v, w.cell? ⟨bm, i, none⟩ = some v → i ≠ 4 → (w2.setCell ⟨bm, 4, none⟩ vF').cell? ⟨bm, i, none⟩ = some v := fun i v hv hn => by
    rw [World.cell?_setCell_other (h := by simp <;> omega)]
    exact (s3.cell h.lm.2.2 nbF).trans hv
  have n1 : a.gv ≠ bm := by have := h.lm.2.2; omega
  have n2 : a.gs ≠ bm := by have := h.lm.2.2; omega
  have hF' : ∀ k, vF'.ownBlock = some k → (if k < w.heap.size then ρ k else if k = a.gv then some (Lab.v fr.length) else if k = a.gs then some (Lab.t fr.length) else some Lab.c) = some .c := fun k hk => by
    rcases hloc with e | e
    · rw [e] at hk
      exact h1.lc k hk
    · rw [e] at hk
      have hk' : w1.heap.size + 1 = k := by simpa using hk
      have := hs.size
      have n1 : ¬ k < w.heap.size := by omega
      have n2 : ¬ k = a.gv := by omega
      have n3 : ¬ k = a.gs := by omega
      simp [n1, n2, n3]
  have nF' : vF'.ownBlock ≠ some bm := fun e => by have := hF' bm e; simp [h.lm.2.2, h.lm.1] at this
  exact ⟨_, { prog := Good.kept ((s5.keep).weaken (fun k _ hk e => absurd (hB k e) (by omega))) h.prog
              c0 := get _ _ h.c0 (by decide)
              c1 := get _ _ h.c1 (by decide)
              c2 := get _ _ h.c2 (by decide)
              c3 := get _ _ h.c3 (by decide)
              c4 := World.cell?_setCell_same _ _ _ ((s3.cell h.lm.2.2 nbF).trans h.c4)
              c5 := get _ _ h.c5 (by decide)
              z := fun j => (by rw [World.frozen?_setCell]; exact (s3.frozen h.lm.2.2 nbF).trans (h.z j))
              lm := ⟨(by simp [h.lm.2.2, h.lm.1]), h.lm.2.1, Nat.lt_of_lt_of_le h.lm.2.2 s5.size⟩
              lw := h1.lw
              ll := h1.ll
              lc := hF'
              oW := s5.row h.oW (fun k hk e => by have := lab k e; rw [h.lw k hk] at this; simp at this)
              oL := s5.row h.oL (fun k hk e => by have := lab k e; rw [h.ll k hk] at this; simp at this)
              rF := s4.row ho (fun k hk e => nF' (by rw [hk, show k = bm from e]))
              levs := ⟨⟨(by have : ¬ a.gv < w.heap.size := (by omega); simp [this]), (by have : ¬ a.gs < w.heap.size := (by omega); simp [this, Ne.symm hne]), h8,
                s4.row (s2.row hv (fun k hk e => by have h1 : a.gv = k := (by simpa [Value.ownBlock] using hk); have := hlt k e; omega)) (fun k hk e => by have h1 : a.gv = k := (by simpa [Value.ownBlock] using hk); exact n1 (by rw [h1]; exact e)),
                s4.row (s2.row hc (fun k hk e => by have h1 : a.gs = k := (by simpa [Value.ownBlock] using hk); have := hlt k e; omega)) (fun k hk e => by have h1 : a.gs = k := (by simpa [Value.ownBlock] using hk); exact n2 (by rw [h1]; exact e)),
                Good.kept ((s4.keep).weaken (fun k _ hk e => absurd (hB k (Or.inr e)) (by omega))) (Good.kept ((s2.keep).weaken (fun k _ hk e => absurd (hB k (Or.inl e)) (by omega))) hw)⟩,
                LevsVm.since s5 hB h1.levs (fun k i e hi => by rcases lab1 k e with e | e <;> simp only [e] <;> simp)⟩
              big := Nat.le_trans h.big s5.size
              below := h.below.trans (s5.below h.big hB) }⟩

def VmEnterPost [Old] (w : World) (vF0 : Value) (base bm : Nat) (v1 vW vL : Value) (bF oF cF : Nat) (p : PProg) (limit : Int) (words : List Int) (lines : List ByteArray) (fr : List (Lev × LV)) (st : List Lev) (c : Int) (e : Ending) (w' : World) : Prop :=
  e = .returned (.int .i64 c) ∧ ∃ ρ vF fr', VmAt ρ w' base bm v1 vW vL vF bF oF cF p limit words lines fr' ∧ fr'.map (·.1) = st ∧ Since (fun k => vF0.ownBlock = some k ∨ k = bm) w w'

set_option maxRecDepth 100000 in
set_option maxHeartbeats 4000000 in
theorem vmEnter0 [Old] (ρ : Nat → Option Lab) (w : World) (base bm : Nat) (v1 vW vL vF vX vD : Value) (s : ByteArray) (bF oF cF : Nat) (p : PProg) (limit : Int) (words : List Int) (lines : List ByteArray) (fr : List (Lev × LV))
    (h : VmAt ρ w base bm v1 vW vL vF bF oF cF p limit words lines fr) (h40 : 40 ≤ fr.length) (hle : fr.length ≤ 100000) :
    Calls Tryd.prog 68 #[.pointer (some ⟨bm, 0, none⟩), .string s, vX, vD] w (VmEnterPost w vF base bm v1 vW vL bF oF cF p limit words lines fr (fr.map (·.1)) 4) := by
  obtain ⟨aF, cF', rfl, hF1, hF2⟩ := row_slice h.rF
  have c4 := h.c4
  have hbl := h.lm.2.2
  have H := Lib.hid h
  have hd : decide ((fr.length : Int) ≥ 40) = true := decide_eq_true (by omega)
  clear h
  go_enter Tryd.func68, Tryd.ntmps68
  go_wp2_with fail
  go_ret
  exact ⟨rfl, ρ, _, fr, H.out, rfl, Since.refl _ _⟩

theorem info_vmptr : (Tryd.prog.info? 114).map (fun i => (i.zero, i.size, i.bytes)) = some (some (.pointer none), 1, 8) := by kernel_rfl
theorem info_vmframe : (Tryd.prog.info? 117).map (fun i => (i.zero, i.size, i.bytes)) = some (some (.agg #[.pointer none, .int .i64 0, .int .i64 0, .int .i64 0, .int .i64 0, .int .i64 0, .int .i64 0, .int .i64 0, .int .i64 0, .slice none 0 0, .int .i64 0, .int .i64 0, .slice none 0 0]), 13, 136) := by kernel_rfl

set_option maxRecDepth 100000 in
set_option maxHeartbeats 4000000 in
theorem vmEnter1 [Old] (ρ : Nat → Option Lab) (w : World) (base bm : Nat) (v1 vW vL vF vX vD : Value) (s : ByteArray) (bF oF cF : Nat) (p : PProg) (limit : Int) (words : List Int) (lines : List ByteArray) (fr : List (Lev × LV)) (xs ds : List Int) (k nv nr : Nat)
    (h : VmAt ρ w base bm v1 vW vL vF bF oF cF p limit words lines fr) (h40 : fr.length < 40) (hX : w.ownsRow base 3 1 vX xs.length (xs.map (Value.int .i64))) (hD : rInts (· < base) w [vD] ds)
    (hnm : nameAt s p.funcs = k) (hkl : k < p.funcs.length) (hfl : p.funcs.length ≤ 40) (hcv : (codeAt p k).slots = nv) (hcr : (codeAt p k).vars = nr) (hnr : nr ≤ 8) (hroom : xs.length ≤ nv) (hnv : nv ≤ 3000) :
    Calls Tryd.prog 68 #[.pointer (some ⟨bm, 0, none⟩), .string s, vX, vD] w (VmEnterPost w vF base bm v1 vW vL bF oF cF p limit words lines fr (⟨k, List.replicate nr 0, xs ++ (List.replicate nv (0 : Int)).drop xs.length, 0, 0, ds⟩ :: fr.map (·.1)) 0) := by
  obtain ⟨aF, cF', rfl, hF1, hF2⟩ := row_slice h.rF
  have c4 := h.c4
  have c0 := h.c0
  have c1 := h.c1
  have hbl := h.lm.2.2
  have hbig := h.big
  obtain ⟨bF', oF', cF'', hv, hb1, hb2, f3, f4⟩ := vmCode_mem h.prog hkl
  obtain ⟨⟨rfl, rfl⟩, rfl⟩ : (bF = bF' ∧ oF = oF') ∧ cF = cF'' := by simpa using hv
  rw [hcv] at f4
  obtain ⟨aD1, cD1, hv1⟩ : ∃ a c, v1 = .slice a p.data.length c := by
    obtain ⟨u, u', hv, -, hd⟩ := h.prog
    obtain ⟨-, rfl⟩ : _ = u ∧ v1 = u' := by simpa using hv
    exact rSlice_shape hd
  subst hv1
  have hcodes : rCodes (fun _ => True) w [.slice (some ⟨bF, oF, none⟩) p.funcs.length cF] p.funcs := by
    obtain ⟨u, u', hv, hc, -⟩ := h.prog
    obtain ⟨rfl, -⟩ : _ = u ∧ _ = u' := by simpa using hv
    exact Good.wide hc (fun _ _ _ => trivial)
  have H := Lib.hid h
  have HX := Lib.hid hX
  have HD := Lib.hid hD
  have HS := Lib.hid (show ∀ w', Below w.heap.size w w' → (w'.cell? ⟨bm, 0, none⟩ = some (.slice (some ⟨bF, oF, none⟩) p.funcs.length cF) ∧ w'.cell? ⟨bm, 1, none⟩ = some (.slice aD1 p.data.length cD1)) ∧ Below w.heap.size w w' from fun w' hb => ⟨⟨(hb.cell (p := ⟨bm, 0, none⟩) hbl).trans c0, (hb.cell (p := ⟨bm, 1, none⟩) hbl).trans c1⟩, hb⟩)
  have Hfn := Lib.hid (fun (w' : World) (hb : Below w.heap.size w w') => (vmFunction_any s p.funcs (.slice (some ⟨bF, oF, none⟩) p.funcs.length cF) (.slice aD1 p.data.length cD1) w' (Good.kept (Keep.of_below' hb (fun k hk _ => hk)) hcodes)).mono (fun e w2 ⟨he, hb2⟩ => (⟨by rw [he, hnm], hb.trans (hb2.mono hb.size)⟩ : e = Ending.returned (.int .i64 (k : Int)) ∧ Below w.heap.size w w2)))
  have hS0 := HS.out w (Below.refl _ _)
  have hk0 : (0 : Int) ≤ k := by omega
  have hk1 : (k : Int) < p.funcs.length := by omega
  have hd : decide ((fr.length : Int) ≥ 40) = false := decide_eq_false (by omega)
  obtain ⟨aX, cX, rfl, hX1, hX2⟩ := row_slice HX.out
  obtain ⟨aD, cD, rfl⟩ := rSlice_shape HD.out
  clear h hcodes hX hD hv hnm c0 c1
  go_enter Tryd.func68, Tryd.ntmps68
  go_upto_region 3 with fail
  go_region_held3 (fun w' => (w'.cell? ⟨bm, 0, none⟩ = some (.slice (some ⟨bF, oF, none⟩) p.funcs.length cF) ∧ w'.cell? ⟨bm, 1, none⟩ = some (.slice aD1 p.data.length cD1)) ∧ Below w.heap.size w w')
    (first | exact hS0 | (refine HS.out _ ?_; first | assumption | exact Drawn.below (Drawn.drew _) _))
    (first | (go_at_call 115; refine (Hfn.out _ (And.right (by assumption))).mono ?_; rintro e w1 ⟨rfl, hb1'⟩))
  have s1 : Since (fun _ => False) w w1 := ⟨hb1'.os, hb1'.tape, hb1'.output, hb1'.size, fun k hk _ => hb1'.block k hk⟩
  have c4' := (s1.cell (o := 4) hbl id).trans c4
  have f4' := (s1.cell (o := oF + k * 6 + 4) hb2 id).trans f4
  have z4' := (s1.frozen (o := 4) hbl id).trans (H.out.z 4)
  have hz1 := s1.size
  have hbl1 := Nat.lt_of_lt_of_le hbl hz1
  have S1 := Lib.hid s1
  have hmk := make_ints nv (by omega)
  clear hb1' s1 c4 f4 f3
  go_upto_region 5 with fail
  generalize hW2 : (w1.alloc (.cells (zeros nv) 3)).alloc (.cells #[.pointer (some ⟨bF, oF + k * 6, none⟩), .int .i64 0, .int .i64 0, .int .i64 0, .int .i64 0, .int .i64 0, .int .i64 0, .int .i64 0, .int .i64 0, .slice (some ⟨w1.heap.size, 0, none⟩) nv nv, .int .i64 0, .int .i64 0, .slice aD ds.length cD] 117) = W2
  have s2 : Since (fun _ => False) w1 W2 := by rw [← hW2]; exact (Since.alloc _ _ _).trans (Since.alloc _ _ _)
  have hgv : W2.heap[w1.heap.size]? = some (.cells (zeros nv) 3) := by rw [← hW2, Below.heap_alloc _ _ _ (by simp), heap_alloc_new]
  have hgs : W2.heap[w1.heap.size + 1]? = some (.cells #[.pointer (some ⟨bF, oF + k * 6, none⟩), .int .i64 0, .int .i64 0, .int .i64 0, .int .i64 0, .int .i64 0, .int .i64 0, .int .i64 0, .int .i64 0, .slice (some ⟨w1.heap.size, 0, none⟩) nv nv, .int .i64 0, .int .i64 0, .slice aD ds.length cD] 117) := by
    rw [← hW2]
    have := heap_alloc_new (w1.alloc (.cells (zeros nv) 3)) (Obj.cells #[.pointer (some ⟨bF, oF + k * 6, none⟩), .int .i64 0, .int .i64 0, .int .i64 0, .int .i64 0, .int .i64 0, .int .i64 0, .int .i64 0, .int .i64 0, .slice (some ⟨w1.heap.size, 0, none⟩) nv nv, .int .i64 0, .int .i64 0, .slice aD ds.length cD] 117)
    simpa using this
  clear hW2
  have e1 : W2.cell? ⟨w1.heap.size + 1, 9, none⟩ = some (.slice (some ⟨w1.heap.size, 0, none⟩) nv nv) := by simp [World.cell?, hgs]
  have c4 := (s2.cell (o := 4) hbl1 id).trans c4'
  have z4 := (s2.frozen (o := 4) hbl1 id).trans z4'
  have hz2 := s2.size
  have hgvl : w1.heap.size < W2.heap.size := (Array.getElem?_eq_some_iff.1 hgv).1
  have hgsl : w1.heap.size + 1 < W2.heap.size := (Array.getElem?_eq_some_iff.1 hgs).1
  have hpos : 0 < (xs.map (Value.int .i64)).length → ∃ ad, aX = some ad ∧ ∀ j v, (xs.map (Value.int .i64))[j]? = some v → W2.cell? (ad.add j) = some v := by
    intro h0
    have h0' : 0 < xs.length := by simpa using h0
    obtain ⟨gX, cX', hvX, -, -, -, -, -⟩ := row_get HX.out (i := 0) (u := .int .i64 xs[0]) (by simp [h0'])
    obtain rfl : aX = some ⟨gX, 0, none⟩ := (Value.slice.inj hvX).1
    refine ⟨_, rfl, fun j v hj => ?_⟩
    obtain ⟨g', c', hv', -, -, hl, hc, -⟩ := row_get HX.out hj
    obtain ⟨rfl, -⟩ : gX = g' ∧ _ := by simpa using hv'
    have : ((⟨gX, 0, none⟩ : Addr).add j) = ⟨gX, j, none⟩ := by by_cases h : j = 0 <;> simp [Addr.add, h]
    rw [this]
    exact ((S1.out.trans s2).cell hl id).trans hc
  have S2 := Lib.hid s2
  have Hpos := Lib.hid hpos
  have Hgv := Lib.hid hgv
  have Hgs := Lib.hid hgs
  have Hn := Lib.hid (show (xs.map (Value.int .i64)).length = Nat.min xs.length nv by rw [List.length_map]; exact (Nat.min_eq_left hroom).symm)
  have Hfit := Lib.hid (show (xs.map (Value.int .i64)).length ≤ (zeros nv).toList.length by simp [zeros, size_madeCells]; exact hroom)
  have isz : (Tryd.prog.info? 3).map (·.size) = some 1 := by kernel_rfl
  obtain ⟨iP, hiP, hP0, hP1, hP2⟩ := info_parts info_vmptr
  clear s2 hpos hgv hgs c4' f4' z4' hmk
  go_wp2_with (refine wpList_copy_vrow rfl (.tmp 41) (.tmp 42) 23 23 rfl 3 Tryd.underlying23 isz w1.heap.size nv nv aX xs.length cX rfl rfl (zeros nv).toList 3 Hgv.out (xs.map (Value.int .i64)) Hn.out Hpos.out Hfit.out (ints_oneCell .i64 xs) ?_)
  intro w3 hh hs3
  have c43 := (hs3.cell (o := 4) (Nat.lt_of_lt_of_le hbl1 hz2) (by omega)).trans c4
  have z43 := (hs3.frozen (o := 4) (Nat.lt_of_lt_of_le hbl1 hz2) (by omega)).trans z4
  have sW3 : Since (fun _ => False) w w3 := (S1.out.trans S2.out).then_new hs3 (fun k e => Or.inr (by omega))
  have hrun := H.out.since sW3
  have hrow := hrun.rF
  have nb : (Value.slice aF fr.length cF').ownBlock ≠ some bm := fun e => by have h1 := hrun.lc bm e; rw [hrun.lm.1] at h1; simp at h1
  have hbm3 := hrun.lm.2.2
  have hbig3 := hrun.big
  have HR := Lib.hid hrun
  have HH := hh
  have HS3 := Lib.hid hs3
  have SW3 := Lib.hid sW3
  have Nb := Lib.hid nb
  clear hrun hs3 sW3 c4 z4 nb hh e1
  go_wp2_with (at_builtin; refine wpList_append_own_at _ rfl _ _ 111 rfl base 114 iP (.pointer none) 1 8 Tryd.underlying111 hiP hP0 hP1 hP2 rfl (by decide) _ _ _ rfl (hrow.alloc _) ⟨w3.heap.size, 0, none⟩ 1 1 [.pointer (some ⟨w1.heap.size + 1, 0, none⟩)] rfl rfl (cell_one_new _ _ _) (by intro u hu; simp at hu; subst hu; rfl) (by unfold maxLen; omega) (by omega) (by simp; omega) ?_)
  intro v' w4 hown hgrow _ hloc
  obtain ⟨gg, cg, rfl⟩ : ∃ gg cg, v' = .slice (some ⟨gg, 0, none⟩) (fr.length + 1) cg := by
    rcases hown.2 with ⟨_, h⟩ | ⟨gg, cap', _, h, _⟩
    · omega
    · exact ⟨gg, cap', h⟩
  have sg : Since (fun k => (Value.slice aF fr.length cF').ownBlock = some k) w3 w4 := (Since.alloc _ _ _).trans (Since.grown hgrow)
  have c44 := (sg.cell (o := 4) hbm3 Nb.out).trans c43
  have z44 := (sg.frozen (o := 4) hbm3 Nb.out).trans z43
  have hvr : intRow w3 base w1.heap.size (xs ++ (List.replicate nv (0 : Int)).drop xs.length) := by
    have h3 : w3.heap[w1.heap.size]? = some (.cells (xs.map (Value.int .i64) ++ List.replicate (nv - xs.length) (Value.int .i64 0)).toArray 3) := by
      have := HH.out
      simpa [zeros, toList_madeCells_one] using this
    have el : (xs ++ (List.replicate nv (0 : Int)).drop xs.length).length = nv := by simp; omega
    refine ⟨by simp, Or.inr ⟨w1.heap.size, nv, _, by rw [el], by omega, h3, by omega, by unfold maxLen; omega, ?_, ?_⟩⟩
    · simp
      omega
    · rw [el, List.take_of_length_le (by simp; omega)]
      simp
  have e8 : (List.replicate nr (0 : Int) ++ List.replicate (8 - nr) 0) = List.replicate 8 0 := by
    rw [List.replicate_append_replicate]; congr 1; omega
  have hcr : w3.ownsRow base 117 13 (.slice (some ⟨w1.heap.size + 1, 0, none⟩) 1 1) 1 (vmCells bF oF ⟨k, List.replicate nr 0, xs ++ (List.replicate nv (0 : Int)).drop xs.length, 0, 0, ds⟩ ⟨w1.heap.size, w1.heap.size + 1, .slice aD ds.length cD, List.replicate (8 - nr) 0⟩) := by
    have h3 := (HS3.out.block (w1.heap.size + 1) hgsl (by omega)).trans Hgs.out
    have el : (xs ++ (List.replicate nv (0 : Int)).drop xs.length).length = nv := by simp; omega
    refine ⟨by simp [vmCells]; omega, Or.inr ⟨w1.heap.size + 1, 1, _, rfl, by omega, h3, by omega, by decide, rfl, ?_⟩⟩
    simp only [vmCells, el, e8]
    rfl
  obtain ⟨ρ2, hq⟩ := H.out.push (f := ⟨k, List.replicate nr 0, xs ++ (List.replicate nv (0 : Int)).drop xs.length, 0, 0, ds⟩) (a := ⟨w1.heap.size, w1.heap.size + 1, .slice aD ds.length cD, List.replicate (8 - nr) 0⟩) SW3.out hgrow hown hloc (by simp; omega) hvr hcr hz1 (by simp only []; omega) (by simp) (Good.kept (SW3.out.keep.weaken (fun _ _ _ e => e.elim)) HD.out)
  have HQ := Lib.hid hq
  have HSS := Lib.hid (show Since (fun k => (Value.slice aF fr.length cF').ownBlock = some k ∨ k = bm) w (w4.setCell ⟨bm, 4, none⟩ (.slice (some ⟨gg, 0, none⟩) (fr.length + 1) cg)) from (SW3.out.mono (fun _ e => e.elim)).trans ((sg.mono (fun _ e => Or.inl e)).trans ((Since.setCell w4 ⟨bm, 4, none⟩ _).mono (fun _ e => Or.inr e))))
  clear hq hown hgrow hloc hvr hcr sg c43 z43 hrow
  go_wp2_with fail
  go_ret
  exact ⟨rfl, ρ2, _, _, HQ.out, rfl, HSS.out⟩
end Go.Proofs.YtaomlfbcfmmhlaaDoor

/-
  Plain law on regions that draw their order: reads may be taken first where a condition S holds of the worlds until operation t comes up (t waits for all of them); behind t nothing is asked of the world. For 'x.f = append(x.f, g(y))': the last store hits a cell that the region reads.
-/
namespace Go.Pst
open Go
section
variable {P : Program} {ops : Array Oper} {Q : Exit → Act → World → Prop} {md : Region.Mode} {S : World → Prop} {t : Nat}

def WpT (P : Program) (md : Region.Mode) (ops : Array Oper) (Q : Exit → Act → World → Prop) (S : World → Prop) (t : Nat) : Nat → Array Bool → Act → World → Prop
  | 0, l, a, w => Region.ready md ops l = [] ∧ Q .normal a w
  | n + 1, l, a, w => (Region.ready md ops l = [] → Q .normal a w) ∧ ∀ i ∈ Region.ready md ops l, wpOp P ops Q i (fun a' w' => (i ≠ t → l.getD t true = false → S w') ∧ WpT P md ops Q S t n (l.setIfInBounds i true) a' w') a w
theorem WpT.any : ∀ (n : Nat) (l : Array Bool) (a : Act) (w : World), WpT P md ops Q S t n l a w → wpAny P md ops Q n l a w
  | 0, _, _, _, h => h
  | n + 1, _, _, _, h => ⟨h.1, fun i hi => wpOp_mono (fun a' w' h' => WpT.any n _ a' w' h'.2) (h.2 i hi)⟩

theorem WpT.first {i : Nat} {oi ot : Oper} {v : Value} (hi : ops[i]? = some oi) (ht : ops[t]? = some ot) (hw : ∃ e ∈ ot.after, Region.binds md e = true ∧ e.on = i) (hti : t ≠ i)
    (hsel : ∀ (j : Nat) (o : Oper) cs b, ops[j]? = some o → o.op ≠ .select cs b) (hQ : ∀ c a w, Q (.panic c) (a.put oi.dst v) w → Q (.panic c) a w) :
    ∀ (n : Nat) (l : Array Bool) (a : Act) (w : World),
      (∀ j oj, ops[j]? = some oj → j ≠ i → l.getD j true = false → (∀ e ∈ oj.after, Region.binds md e = true → e.on ≠ i) → oi.apart ops oj = true) →
      i ∈ Region.ready md ops l → l.getD t true = false → YieldsIf P ops S oi v a → S w →
      WpT P md ops Q S t n (l.setIfInBounds i true) (a.put oi.dst v) w → WpT P md ops Q S t (n + 1) l a w := by
  -- whoever comes up ahead of i does not wait for it, so is not t
  have wait : ∀ {l : Array Bool} {j : Nat} {oj : Oper}, i ∈ Region.ready md ops l → j ∈ Region.ready md ops l → ops[j]? = some oj → ∀ e ∈ oj.after, Region.binds md e = true → e.on ≠ i := by
    intro l j oj hr hj hoj e he hb heq
    obtain ⟨_, oj', hoj', hall⟩ := mem_ready.1 hj
    obtain rfl : oj = oj' := by rw [hoj] at hoj'; exact Option.some.inj hoj'
    have h1 := hall e he hb
    have h0 := (mem_ready.1 hr).1
    rw [heq] at h1
    rcases Nat.lt_or_ge i l.size with h' | h'
    · simp [h'] at h0 h1; rw [h0] at h1; cases h1
    · simp [Array.getElem?_eq_none h'] at h1
  intro n
  induction n with
  | zero =>
    intro l a w _ hr _ hy hS H
    refine ⟨fun h => (by rw [h] at hr; cases hr), fun j hj => ?_⟩
    by_cases hji : j = i
    · subst hji; exact hy.wpOp hi hS ⟨fun _ _ => hS, H⟩
    · have := ready_mono hj hji
      rw [H.1] at this
      cases this
  | succ n ih =>
    intro l a w hfree hr hlt hy hS H
    refine ⟨fun h => (by rw [h] at hr; cases hr), fun j hj => ?_⟩
    by_cases hji : j = i
    · subst hji; exact hy.wpOp hi hS ⟨fun _ _ => hS, H⟩
    · obtain ⟨hjun, oj, hoj, _⟩ := mem_ready.1 hj
      have hno := wait hr hj hoj
      have hjt : j ≠ t := by
        rintro rfl
        obtain ⟨e, he, hb, heq⟩ := hw
        obtain rfl : oj = ot := by rw [hoj] at ht; exact Option.some.inj ht
        exact hno e he hb heq
      have h2 := wpOp_putIf hoj (hfree j oj hoj hji hjun hno) (fun cs b => hsel i oi cs b hi) (fun cs b => hsel j oj cs b hoj) hQ hy (H.2 j (ready_mono hj hji))
      have hl : (l.setIfInBounds i true).getD t true = false := by rw [getD_set_ne true (Ne.symm hti)]; exact hlt
      have hl' : (l.setIfInBounds j true).getD t true = false := by rw [getD_set_ne true hjt]; exact hlt
      refine wpOp_mono (fun a' w' h3 => ?_) h2
      have hS' := h3.2.1 hjt hl
      refine ⟨fun _ _ => hS', ih (l.setIfInBounds j true) a' w' (fun k ok hk hki hun hn => hfree k ok hk hki ?_ hn) (ready_mono hr (Ne.symm hji)) hl' h3.1 hS' ?_⟩
      · by_cases hjk : j = k
        · subst hjk; exact hjun
        · rw [getD_set_ne true hjk] at hun; exact hun
      · rw [Array.setIfInBounds_comm _ _ hji]
        exact h3.2.2

/-- Does operation t wait for operation i? -/
def waitsFor (md : Region.Mode) (ops : Array Oper) (t i : Nat) : Bool := match ops[t]? with | some o => o.after.any fun e => Region.binds md e && e.on == i | none => false
/-- Take number i first. -/
theorem WpT.take {i : Nat} {oi : Oper} {v : Value} {n : Nat} {l : Array Bool} {a : Act} {w : World} (hi : ops[i]? = some oi)
    (hs : Region.noSelect ops = true) (hf : Region.free md ops l i = true) (hr : (Region.ready md ops l).contains i = true) (hwt : (waitsFor md ops t i && !(t == i) && !(l.getD t true)) = true)
    (hQ : ∀ c a w, Q (.panic c) (a.put oi.dst v) w → Q (.panic c) a w) (hy : YieldsIf P ops S oi v a) (hS : S w)
    (h : WpT P md ops Q S t n (l.setIfInBounds i true) (a.put oi.dst v) w) : WpT P md ops Q S t (n + 1) l a w := by
  simp only [Bool.and_eq_true, Bool.not_eq_true', beq_eq_false_iff_ne] at hwt
  obtain ⟨⟨h1, h2⟩, h3⟩ := hwt
  unfold waitsFor at h1
  cases ht : ops[t]? with
  | none => rw [ht] at h1; cases h1
  | some ot =>
    rw [ht] at h1
    simp only [Array.any_eq_true', Bool.and_eq_true, beq_iff_eq] at h1
    obtain ⟨e, he, hb, heq⟩ := h1
    exact WpT.first hi ht ⟨e, he, hb, heq⟩ h2 (Region.noSelect_spec hs) hQ n l a w (Region.free_spec hi hf) (by simpa using hr) h3 hy hS h
theorem WpT.start {id : Nat} {a : Act} {w : World} (S : World → Prop) (t : Nat) (hm : P.follows .mixedOrders = true) (h : WpT P .any ops Q S t ops.size (Array.replicate ops.size false) a w.drew) : (Code.region id ops true).wp P Q a w :=
  wp_region_any hm (WpT.any _ _ _ _ h)
theorem WpT.done {l : Array Bool} {a : Act} {w : World} (hr : Region.ready md ops l = []) (h : Q .normal a w) : ∀ n, WpT P md ops Q S t n l a w
  | 0 => ⟨hr, h⟩
  | _ + 1 => ⟨fun _ => h, by rw [hr]; simp⟩
/-- What is left behind an operation, its text put away. -/
def ThenT (P : Program) (md : Region.Mode) (ops : Array Oper) (Q : Exit → Act → World → Prop) (S : World → Prop) (t n i : Nat) (l : Array Bool) (K : Act → World → Prop) : Prop :=
  ∀ a' w', (i ≠ t → l.getD t true = false → S w') → WpT P md ops Q S t n (l.setIfInBounds i true) a' w' → K a' w'
/-- One operation alone may come up. -/
theorem WpT.one {i : Nat} {o : Oper} {n : Nat} {l : Array Bool} {a : Act} {w : World} (hr : Region.ready md ops l = [i]) (ho : ops[i]? = some o)
    (h : ∀ K, ThenT P md ops Q S t n i l K → if Region.wanted o (yielded ops a.tmps) = true then Oper.wp P o a w K Q else K (a.put o.dst undef) w) : WpT P md ops Q S t (n + 1) l a w := by
  refine ⟨fun h0 => (by rw [hr] at h0; cases h0), fun j hj => ?_⟩
  rw [hr, List.mem_singleton] at hj
  subst hj
  unfold wpOp
  simp only [ho]
  have hk := h (fun a' w' => (j ≠ t → l.getD t true = false → S w') ∧ WpT P md ops Q S t n (l.setIfInBounds j true) a' w') (fun a' w' hS hW => ⟨hS, hW⟩)
  by_cases hw : Region.wanted o (yielded ops a.tmps) = true
  · rw [if_pos hw] at hk ⊢
    exact Or.inl hk
  · rw [if_neg hw] at hk ⊢
    exact hk
theorem ThenT.out {i n : Nat} {l : Array Bool} {K : Act → World → Prop} (h : ThenT P md ops Q S t n i l K) (a' : Act) (w' : World) (hS : i ≠ t → l.getD t true = false → S w') (hW : WpT P md ops Q S t n (l.setIfInBounds i true) a' w') : K a' w' := h a' w' hS hW
end
end Go.Pst

/-
  vm's machine, a step: calls (printed by wip/gen_vmarms.py).
-/
namespace Go.Proofs.YtaomlfbcfmmhlaaDoor
open Go.RowKit Go.Pst
set_option linter.unusedVariables false
set_option linter.unusedSimpArgs false
variable [Old]
theorem VmPre.slotsD {ρ : Nat → Option Lab} {t : Array Value} {w : World} {base bm lf li : Nat} {v1 vW vL vF u1 u2 u5 : Value} {bF oF cF : Nat} {p : PProg} {limit : Int} {words : List Int} {lines : List ByteArray} {f : Lev} {a : LV} {r : List (Lev × LV)} {i : PInstr}
    (h : VmPre ρ t w base bm lf li v1 vW vL vF u1 u2 u5 bF oF cF p limit words lines f a r i) (hA : Ins i.ars f.slots.length) (hAl : i.ars.length ≤ 40000) (hnm : f.slots.length ≤ 3000) :
    Calls Tryd.prog 121 #[.pointer (some ⟨a.gs, 0, none⟩), u2] w.drew (VmSlotsPost w.heap.size w.drew (i.ars.map (getI f.slots))) := by
  have h8 : f.vars.length + a.rest.length = 8 := h.run.levs.1.eight
  obtain ⟨q9, -, gl⟩ := h.run.get (j := 9) (VmAt.cells_tail (f := { f with at_ := f.at_ + 1 }) h8 0)
  have hbig := h.run.big
  refine vmSlots_any w.drew a.gs a.gv u2 f.slots i.ars f.slots.length rfl hnm (Good.wide (Good.kept (Keep.drew _ _) h.i2) (fun k hk _ => by simp; omega)) hA hAl q9 gl (h.run.levs.1.slots.lt _ rfl).2 (fun j x hj => ?_)
  obtain ⟨_, _, hv2, -, -, -, hvc, -⟩ := row_get h.run.levs.1.slots (i := j) (u := .int .i64 x) (by simp [hj])
  obtain ⟨rfl, -⟩ : a.gv = _ ∧ _ := by simpa using hv2
  exact hvc
set_option maxRecDepth 100000 in
set_option maxHeartbeats 4000000 in
theorem vm_invoke0 (ρ : Nat → Option Lab) (t : Array Value) (w : World) (base bm lf li : Nat) (v1 vW vL vF u1 u2 u5 : Value) (bF oF cF : Nat) (p : PProg) (limit : Int) (words : List Int) (lines : List ByteArray) (f : Lev) (a : LV) (r : List (Lev × LV)) (i : PInstr)
    (h : VmPre ρ t w base bm lf li v1 vW vL vF u1 u2 u5 bF oF cF p limit words lines f a r i) (hi : i = instrAt p f) (e : i.op = 7) (hA : Ins i.ars f.slots.length) (hAl : i.ars.length ≤ 40000) (hnm : f.slots.length ≤ 3000) (h40 : 40 ≤ r.length + 1) (hrl : r.length ≤ 100) :
    vmS3.wp Tryd.prog (bodyPost Tryd.prog Tryd.f69 (VmStepPost base bm v1 bF oF cF p limit (stepF p true limit (vmState words lines ((f, a) :: r))))) ⟨t, []⟩ w := by
  have hli := h.lil
  have b0 : w.cell? ⟨li, 0, none⟩ = some (.int .i64 7) := by simp [World.cell?, h.box, e]
  have b3 : w.cell? ⟨li, 3, none⟩ = some (.int .i64 i.n) := by simp [World.cell?, h.box]
  have f0 := h.fbox
  have hlf := h.lfl
  have H := Lib.hid h
  have b1 : w.cell? ⟨li, 1, none⟩ = some u1 := by simp [World.cell?, h.box]
  have b2 : w.cell? ⟨li, 2, none⟩ = some u2 := by simp [World.cell?, h.box]
  have b4 : w.cell? ⟨li, 4, none⟩ = some (.string i.s) := by simp [World.cell?, h.box]
  have Hsl := Lib.hid (h.slotsD hA hAl hnm)
  have nF : ∀ k, (vF.ownBlock = some k ∨ k = bm) → k ≠ li ∧ k ≠ lf := fun k hk => by
    rcases hk with hk | rfl
    · have h1 := h.run.lc k hk
      exact ⟨fun e => by rw [e, h.ni] at h1; simp at h1, fun e => by rw [e, h.nf] at h1; simp at h1⟩
    · have h1 := h.run.lm.1
      exact ⟨fun e => by rw [e, h.ni] at h1; simp at h1, fun e => by rw [e, h.nf] at h1; simp at h1⟩
  have HSs := Lib.hid (show ∀ w1 w2, Below w.heap.size w w1 → Since (fun k => vF.ownBlock = some k ∨ k = bm) w1 w2 → (fun w' => w'.cell? ⟨li, 4, none⟩ = some (.string i.s) ∧ w'.cell? ⟨lf, 0, none⟩ = some (.pointer (some ⟨a.gs, 0, none⟩)) ∧ w'.cell? ⟨li, 2, none⟩ = some u2 ∧ w'.cell? ⟨li, 1, none⟩ = some u1) w2 from fun w1 w2 hb hs => by
    have l1 := Nat.lt_of_lt_of_le hli hb.size
    have l2 := Nat.lt_of_lt_of_le hlf hb.size
    exact ⟨(hs.cell (o := 4) l1 (fun e => (nF _ e).1 rfl)).trans ((hb.cell (p := ⟨li, 4, none⟩) hli).trans b4), (hs.cell (o := 0) l2 (fun e => (nF _ e).2 rfl)).trans ((hb.cell (p := ⟨lf, 0, none⟩) hlf).trans f0), (hs.cell (o := 2) l1 (fun e => (nF _ e).1 rfl)).trans ((hb.cell (p := ⟨li, 2, none⟩) hli).trans b2), (hs.cell (o := 1) l1 (fun e => (nF _ e).1 rfl)).trans ((hb.cell (p := ⟨li, 1, none⟩) hli).trans b1)⟩)
  have hst : stepF p true limit (vmState words lines ((f, a) :: r)) = (4, ⟨words, lines, { f with at_ := f.at_ + 1 } :: r.map (·.1)⟩) := by
    unfold stepF vmState
    simp only [List.map_cons, ← hi, e]
    show (if 40 ≤ (((f, a) :: r).map (·.1)).length then _ else _) = _
    rw [if_pos (by simpa using h40)]
  rw [hst]
  unfold vmS3
  conv => arg 2; whnf
  rw [frame232 t H.out.size, H.out.s0, H.out.s4, H.out.s5, H.out.s6, H.out.s7, H.out.s8]
  clear hst h hi e
  have HSw := Lib.hid (show ∀ w', Below w.heap.size w w' → Since (fun _ => False) w w' from fun w' hbw => ⟨hbw.os, hbw.tape, hbw.output, hbw.size, fun k hk _ => hbw.block k hk⟩)
  have HSb := Lib.hid (show ∀ w', Below w.heap.size w w' → (fun w' => w'.cell? ⟨li, 4, none⟩ = some (.string i.s) ∧ w'.cell? ⟨lf, 0, none⟩ = some (.pointer (some ⟨a.gs, 0, none⟩)) ∧ w'.cell? ⟨li, 2, none⟩ = some u2 ∧ w'.cell? ⟨li, 1, none⟩ = some u1) w' from fun w' hb => ⟨(hb.cell (p := ⟨li, 4, none⟩) hli).trans b4, (hb.cell (p := ⟨lf, 0, none⟩) hlf).trans f0, (hb.cell (p := ⟨li, 2, none⟩) hli).trans b2, (hb.cell (p := ⟨li, 1, none⟩) hli).trans b1⟩)
  have hS0 : (fun w' => w'.cell? ⟨li, 4, none⟩ = some (.string i.s) ∧ w'.cell? ⟨lf, 0, none⟩ = some (.pointer (some ⟨a.gs, 0, none⟩)) ∧ w'.cell? ⟨li, 2, none⟩ = some u2 ∧ w'.cell? ⟨li, 1, none⟩ = some u1) w := ⟨b4, f0, b2, b1⟩
  go_upto_region 35 with fail
  go_region_held3 (fun w' => w'.cell? ⟨li, 4, none⟩ = some (.string i.s) ∧ w'.cell? ⟨lf, 0, none⟩ = some (.pointer (some ⟨a.gs, 0, none⟩)) ∧ w'.cell? ⟨li, 2, none⟩ = some u2 ∧ w'.cell? ⟨li, 1, none⟩ = some u1) (first | exact hS0 | exact HSb.out _ (by assumption) | exact hS2)
    (first
      | (go_at_call 121; refine Hsl.out.mono ?_; rintro e w1 ⟨v, rfl, hrow, hbw⟩; have hbw' := Below.trans (Drawn.below (Drawn.drew w) _) hbw)
      | (go_at_call 68; refine (vmEnter0 (fun k => if k < w.heap.size then ρ k else none) w1 base bm v1 vW vL vF v _ i.s bF oF cF p limit words lines (({ f with at_ := f.at_ + 1 }, a) :: r) ((H.out.run.label (ρ' := fun k => if k < w.heap.size then ρ k else none) (fun k hk => by simp [hk])).since (HSw.out w1 hbw')) (by simpa using h40) (by simp; omega)).mono ?_; rintro e w2 ⟨rfl, ρ2, vF2, fr2, hq, hfr, hs2⟩; have hS2 := HSs.out w1 w2 hbw' hs2))
  have HQ := Lib.hid hq
  have HF := Lib.hid hfr
  clear hq hfr
  all_goals go_wp2_with fail
  go_ret
  exact ⟨rfl, ρ2, vW, vL, vF2, fr2, HQ.out, HF.out⟩

set_option maxRecDepth 100000 in
set_option maxHeartbeats 4000000 in
theorem vm_invoke1 (ρ : Nat → Option Lab) (t : Array Value) (w : World) (base bm lf li : Nat) (v1 vW vL vF u1 u2 u5 : Value) (bF oF cF : Nat) (p : PProg) (limit : Int) (words : List Int) (lines : List ByteArray) (f : Lev) (a : LV) (r : List (Lev × LV)) (i : PInstr)
    (h : VmPre ρ t w base bm lf li v1 vW vL vF u1 u2 u5 bF oF cF p limit words lines f a r i) (hi : i = instrAt p f) (e : i.op = 7) (hA : Ins i.ars f.slots.length) (hAl : i.ars.length ≤ 40000) (hnm : f.slots.length ≤ 3000) (k nv nr : Nat) (hnam : nameAt i.s p.funcs = k) (hkl : k < p.funcs.length) (hfl : p.funcs.length ≤ 40) (hcv : (codeAt p k).slots = nv) (hcr : (codeAt p k).vars = nr) (hnr : nr ≤ 8) (hroom : i.ars.length ≤ nv) (hnv : nv ≤ 3000) (h40 : r.length + 1 < 40) :
    vmS3.wp Tryd.prog (bodyPost Tryd.prog Tryd.f69 (VmStepPost base bm v1 bF oF cF p limit (stepF p true limit (vmState words lines ((f, a) :: r))))) ⟨t, []⟩ w := by
  have hli := h.lil
  have b0 : w.cell? ⟨li, 0, none⟩ = some (.int .i64 7) := by simp [World.cell?, h.box, e]
  have b3 : w.cell? ⟨li, 3, none⟩ = some (.int .i64 i.n) := by simp [World.cell?, h.box]
  have f0 := h.fbox
  have hlf := h.lfl
  have H := Lib.hid h
  have b1 : w.cell? ⟨li, 1, none⟩ = some u1 := by simp [World.cell?, h.box]
  have b2 : w.cell? ⟨li, 2, none⟩ = some u2 := by simp [World.cell?, h.box]
  have b4 : w.cell? ⟨li, 4, none⟩ = some (.string i.s) := by simp [World.cell?, h.box]
  have Hsl := Lib.hid (h.slotsD hA hAl hnm)
  have nF : ∀ k, (vF.ownBlock = some k ∨ k = bm) → k ≠ li ∧ k ≠ lf := fun k hk => by
    rcases hk with hk | rfl
    · have h1 := h.run.lc k hk
      exact ⟨fun e => by rw [e, h.ni] at h1; simp at h1, fun e => by rw [e, h.nf] at h1; simp at h1⟩
    · have h1 := h.run.lm.1
      exact ⟨fun e => by rw [e, h.ni] at h1; simp at h1, fun e => by rw [e, h.nf] at h1; simp at h1⟩
  have HSs := Lib.hid (show ∀ w1 w2, Below w.heap.size w w1 → Since (fun k => vF.ownBlock = some k ∨ k = bm) w1 w2 → (fun w' => w'.cell? ⟨li, 4, none⟩ = some (.string i.s) ∧ w'.cell? ⟨lf, 0, none⟩ = some (.pointer (some ⟨a.gs, 0, none⟩)) ∧ w'.cell? ⟨li, 2, none⟩ = some u2 ∧ w'.cell? ⟨li, 1, none⟩ = some u1) w2 from fun w1 w2 hb hs => by
    have l1 := Nat.lt_of_lt_of_le hli hb.size
    have l2 := Nat.lt_of_lt_of_le hlf hb.size
    exact ⟨(hs.cell (o := 4) l1 (fun e => (nF _ e).1 rfl)).trans ((hb.cell (p := ⟨li, 4, none⟩) hli).trans b4), (hs.cell (o := 0) l2 (fun e => (nF _ e).2 rfl)).trans ((hb.cell (p := ⟨lf, 0, none⟩) hlf).trans f0), (hs.cell (o := 2) l1 (fun e => (nF _ e).1 rfl)).trans ((hb.cell (p := ⟨li, 2, none⟩) hli).trans b2), (hs.cell (o := 1) l1 (fun e => (nF _ e).1 rfl)).trans ((hb.cell (p := ⟨li, 1, none⟩) hli).trans b1)⟩)
  have hxs : argsF true f i = i.ars.map (getI f.slots) := by simp [argsF, e, Lev.src]
  have hst : stepF p true limit (vmState words lines ((f, a) :: r)) = (0, ⟨words, lines, ⟨k, List.replicate nr 0, i.ars.map (getI f.slots) ++ (List.replicate nv (0 : Int)).drop (i.ars.map (getI f.slots)).length, 0, 0, i.ds⟩ :: { f with at_ := f.at_ + 1 } :: r.map (·.1)⟩) := by
    unfold stepF vmState
    simp only [List.map_cons, ← hi, e, hxs]
    show (if 40 ≤ (((f, a) :: r).map (·.1)).length then _ else (0, (⟨words, lines, newLev p true (nameAt i.s p.funcs).toNat (i.ars.map (getI f.slots)) i.ds :: _⟩ : Mach))) = _
    rw [if_neg (by simp; omega), hnam]
    simp [newLev, hcv, hcr]
  rw [hst]
  unfold vmS3
  conv => arg 2; whnf
  rw [frame232 t H.out.size, H.out.s0, H.out.s4, H.out.s5, H.out.s6, H.out.s7, H.out.s8]
  have Hi1 := Lib.hid h.i1
  clear hst h hi e hxs
  have HSw := Lib.hid (show ∀ w', Below w.heap.size w w' → Since (fun _ => False) w w' from fun w' hbw => ⟨hbw.os, hbw.tape, hbw.output, hbw.size, fun k hk _ => hbw.block k hk⟩)
  have HSb := Lib.hid (show ∀ w', Below w.heap.size w w' → (fun w' => w'.cell? ⟨li, 4, none⟩ = some (.string i.s) ∧ w'.cell? ⟨lf, 0, none⟩ = some (.pointer (some ⟨a.gs, 0, none⟩)) ∧ w'.cell? ⟨li, 2, none⟩ = some u2 ∧ w'.cell? ⟨li, 1, none⟩ = some u1) w' from fun w' hb => ⟨(hb.cell (p := ⟨li, 4, none⟩) hli).trans b4, (hb.cell (p := ⟨lf, 0, none⟩) hlf).trans f0, (hb.cell (p := ⟨li, 2, none⟩) hli).trans b2, (hb.cell (p := ⟨li, 1, none⟩) hli).trans b1⟩)
  have hS0 : (fun w' => w'.cell? ⟨li, 4, none⟩ = some (.string i.s) ∧ w'.cell? ⟨lf, 0, none⟩ = some (.pointer (some ⟨a.gs, 0, none⟩)) ∧ w'.cell? ⟨li, 2, none⟩ = some u2 ∧ w'.cell? ⟨li, 1, none⟩ = some u1) w := ⟨b4, f0, b2, b1⟩
  go_upto_region 35 with fail
  go_region_held3 (fun w' => w'.cell? ⟨li, 4, none⟩ = some (.string i.s) ∧ w'.cell? ⟨lf, 0, none⟩ = some (.pointer (some ⟨a.gs, 0, none⟩)) ∧ w'.cell? ⟨li, 2, none⟩ = some u2 ∧ w'.cell? ⟨li, 1, none⟩ = some u1) (first | exact hS0 | exact HSb.out _ (by assumption) | exact hS2)
    (first
      | (go_at_call 121; refine Hsl.out.mono ?_; rintro e w1 ⟨v, rfl, hrow, hbw⟩; have hbw' := Below.trans (Drawn.below (Drawn.drew w) _) hbw)
      | (go_at_call 68; refine (vmEnter1 (fun k => if k < w.heap.size then ρ k else none) w1 base bm v1 vW vL vF v _ i.s bF oF cF p limit words lines (({ f with at_ := f.at_ + 1 }, a) :: r) (i.ars.map (getI f.slots)) i.ds k nv nr ((H.out.run.label (ρ' := fun k => if k < w.heap.size then ρ k else none) (fun k hk => by simp [hk])).since (HSw.out w1 hbw')) (by simpa using h40) (ownsRow_from hrow H.out.run.big) (Good.kept ((HSw.out w1 hbw').keep.weaken (fun _ _ _ e => e.elim)) Hi1.out) hnam hkl hfl hcv hcr hnr (by simpa using hroom) hnv).mono ?_; rintro e w2 ⟨rfl, ρ2, vF2, fr2, hq, hfr, hs2⟩; have hS2 := HSs.out w1 w2 hbw' hs2))
  have HQ := Lib.hid hq
  have HF := Lib.hid hfr
  clear hq hfr
  all_goals go_wp2_with fail
  go_ret
  exact ⟨rfl, ρ2, vW, vL, vF2, fr2, HQ.out, HF.out⟩
end Go.Proofs.YtaomlfbcfmmhlaaDoor

/-
  strings.Builder, of a builder that the call itself has made: copyCheck, WriteByte: contracts.
-/
namespace Go.Proofs.YtaomlfbcfmmhlaaDoor
open Go.RowKit Go.Pst
set_option linter.unusedVariables false
set_option linter.unusedSimpArgs false

theorem info_builder : (Tryd.prog.info? 193).map (·.size) = some 2 := by kernel_rfl
theorem info_byte : (Tryd.prog.info? 5).map (fun i => (i.zero, i.size, i.bytes)) = some (some (.int .u8 0), 1, 1) := by kernel_rfl
theorem lies_builder : liesAt Tryd.prog Tryd.prog.depth 193 (2 / Tryd.prog.cellsOf 193) 0 193 1 = true := by kernel_rfl

set_option maxRecDepth 100000 in
theorem copyCheck_any (B b : Nat) (bs : List Value) (w : World) (h : Lib.IsBuilder 193 5 B b bs w) :
    Calls Tryd.prog 177 #[.pointer (some ⟨b, 0, none⟩)] w fun e w' => e = .returned (.tuple #[]) ∧ Lib.BuilderAt 193 5 B b (.pointer (some ⟨b, 0, none⟩)) bs w' ∧ Below B w w' := by
  obtain ⟨j, hj, hjs⟩ := Option.map_eq_some_iff.1 info_builder
  rcases h with h | h
  · have c0 := h.cell0
    have hsh := h.shape
    have f0 := h.frozen0
    have H := Lib.hid h
    have Hsh := Lib.hid hsh
    clear h hsh
    go_enter Tryd.func177, Tryd.ntmps177
    go_wp2_with fail
    rw [Lib.run_to_unsafe w ⟨b, 0, none⟩ Tryd.underlying191 Tryd.underlying240 hj (by rw [hjs]; decide) Hsh.out (Nat.zero_lt_succ 1)]
    simp only [Result.andThen]
    rw [Oper.upon_value]
    go_wp2_with fail
    rw [run_callFunc_extern Tryd.func194 (by kernel_rfl) (by kernel_rfl) (by kernel_rfl) (e := Extern.AbiNoEscape.same) (by kernel_rfl), Lib.run_noEscape]
    simp only [Result.andThen]
    rw [Oper.upon_value]
    go_wp2_with fail
    rw [Lib.run_from_unsafe w ⟨b, 0, none⟩ Tryd.underlying240 Tryd.underlying191 hj Hsh.out lies_builder]
    simp only [Result.andThen]
    rw [Oper.upon_value]
    go_wp2_with fail
    go_end0
    exact ⟨rfl, H.out.used _, (Below.refl B w).setCell (p := ⟨b, 0, none⟩) H.out.1 _⟩
  · have c0 := h.cell0
    have H := Lib.hid h
    clear h
    go_enter Tryd.func177, Tryd.ntmps177
    go_wp2_with fail
    rw [Lib.run_neq_ptr_same w _ Tryd.underlying191 hj]
    go_wp2_with fail
    go_end0
    exact ⟨rfl, H.out, Below.refl B _⟩

set_option maxRecDepth 100000 in
theorem writeByte_any (B b : Nat) (bs : List Value) (c : Int) (w : World) (h : Lib.IsBuilder 193 5 B b bs w) (hlen : bs.length + 1 ≤ 140737488355328) (hBw : B ≤ w.heap.size) :
    Calls Tryd.prog 147 #[.pointer (some ⟨b, 0, none⟩), .int .u8 c] w fun e w' => e = .returned .nilIface ∧ Lib.BuilderAt 193 5 B b (.pointer (some ⟨b, 0, none⟩)) (bs ++ [.int .u8 c]) w' ∧ Below B w w' := by
  obtain ⟨i0, hi, hz0, hz1, hz2⟩ := info_parts info_byte
  have Hh := Lib.hid h
  clear h
  go_enter Tryd.func147, Tryd.ntmps147
  go_wp2_with fail
  refine (copyCheck_any B b bs w Hh.out).mono ?_
  rintro e w1 ⟨rfl, h1, hb1⟩
  have hlt := h1.lt
  have c0 := h1.cell0
  obtain ⟨hB, v, hbk, hown, hne⟩ := h1
  have c1 : w1.cell? ⟨b, 1, none⟩ = some v := by rw [Lib.cell_of_heap hbk]; rfl
  obtain ⟨ao, co, rfl, -, -⟩ := row_slice hown
  have hz := hb1.size
  have Hbk := Lib.hid hbk
  have Hb1 := Lib.hid hb1
  have Hne := Lib.hid hne
  have Hown := Lib.hid hown
  clear hbk hb1 hne
  go_wp2_with (at_builtin; refine wpList_append_own _ rfl _ _ 131 rfl B 5 i0 (.int .u8 0) 1 1 Tryd.underlying131 hi hz0 hz1 hz2 rfl (by decide) _ _ _ rfl (hown.alloc _) ⟨w1.heap.size, 0, none⟩ 1 1 [.int .u8 c] rfl rfl (cell_one_new _ _ _) (by intro u hu; simp at hu; subst hu; rfl) (by unfold maxLen; omega) (by omega) (by simp; omega) ?_)
  intro v' w2 hown' hgrow _
  have sg : Since (fun k => (Value.slice ao bs.length co).ownBlock = some k) w1 w2 := (Since.alloc _ _ _).trans (Since.grown hgrow)
  have hb2 := (sg.block b hlt Hne.out).trans Hbk.out
  have d0 := (sg.cell (o := 0) hlt Hne.out).trans c0
  have d1 : w2.cell? ⟨b, 1, none⟩ = some (.slice ao bs.length co) := by rw [Lib.cell_of_heap hb2]; rfl
  have f1 : w2.frozen? ⟨b, 1, none⟩ = false := Lib.frozen_of_heap hb2 1
  obtain ⟨g, cap, rfl⟩ : ∃ g cap, v' = .slice (some ⟨g, 0, none⟩) (bs.length + 1) cap := by
    rcases hown'.2 with ⟨_, h0⟩ | ⟨g, cap, cur, hv, _⟩
    · omega
    · exact ⟨g, cap, hv⟩
  have Hb2 := Lib.hid hb2
  have Hown' := Lib.hid hown'
  have Hsg := Lib.hid sg
  clear hb2 hown' sg hgrow hown c0 c1
  go_wp2_with fail
  go_ret
  refine ⟨rfl, Lib.BuilderAt.put (T := 193) (e := 5) hB Hb2.out (bs' := bs ++ [.int .u8 c]) (by simpa using Hown'.out) (by decide), ?_⟩
  exact (Hb1.out.trans (Hsg.out.below (by omega) (fun k e => (Hown.out.lt k e).1))).setCell (p := ⟨b, 1, none⟩) hB _
end Go.Proofs.YtaomlfbcfmmhlaaDoor

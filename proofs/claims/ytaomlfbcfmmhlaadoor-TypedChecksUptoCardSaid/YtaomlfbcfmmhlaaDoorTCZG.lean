/-
  Texts joined: YTyped.
-/
import Derived.Test.YtaomlfbcfmmhlaaDoorTCZF
import Derived.Test.YtaomlfbcfmmhlaaDoorTCP

/-
  posternref's typer: typed (it calls itself): the contract (printed by wip/gen_ytyped.py).
-/
namespace Go.Proofs.YtaomlfbcfmmhlaaDoor
open Go.RowKit Go.Pst
set_option linter.unusedVariables false
set_option linter.unusedSimpArgs false

theorem YAt.setDepth {w : World} {base by_ : Nat} {vf : Value} {cf : List Value} {V : Fin 3 → Value} {G : List Scope} {l d : Int} (h : YAt w base by_ vf cf V (YSt.of G l d)) (x : Int) : YAt (w.setCell ⟨by_, 9, none⟩ (.int .i64 x)) base by_ vf cf V (YSt.of G l x) :=
  h.set 9 x _ rfl rfl rfl (Or.inr rfl) rfl rfl
theorem opT_ne {s : List UInt8} {a b e : Int} (h : opT s a b = .error e) : e ≠ 0 := by
  unfold opT at h
  repeat' split at h
  all_goals first | (cases h; decide) | cases h
theorem callT_ne {s : ByteArray} {ts : List Int} {e : Int} : ∀ {fs : List PFunc}, callT fs s ts = .error e → e ≠ 0
  | [], h => by cases h; decide
  | f :: r, h => by
    unfold callT at h
    split at h
    · split at h
      · cases h; decide
      · split at h
        · cases h
        · cases h; decide
    · exact callT_ne h
theorem kindT_ne {fs : List PFunc} {G : List Scope} {x : PExpr} {ts : List Int} {e : Int} (h : kindT fs G x ts = .error e) : e ≠ 0 := by
  unfold kindT at h
  by_cases k1 : x.kind = 1
  · rw [if_pos k1] at h
    split at h <;> first | (cases h; decide) | cases h
  rw [if_neg k1] at h
  by_cases k2 : x.kind = 2
  · rw [if_pos k2] at h
    split at h <;> first | (cases h; decide) | cases h
  rw [if_neg k2] at h
  by_cases k3 : x.kind = 3
  · rw [if_pos k3] at h
    split at h <;> first | (cases h; decide) | cases h
  rw [if_neg k3] at h
  by_cases k4 : x.kind = 4
  · rw [if_pos k4] at h
    split at h <;> first | (cases h; decide) | cases h
  rw [if_neg k4] at h
  by_cases k5 : x.kind = 5
  · rw [if_pos k5] at h
    exact opT_ne h
  rw [if_neg k5] at h
  by_cases k6 : x.kind = 6
  · rw [if_pos k6] at h
    repeat' split at h
    all_goals first | (cases h; decide) | cases h
  rw [if_neg k6] at h
  by_cases k7 : x.kind = 7
  · rw [if_pos k7] at h
    exact callT_ne h
  rw [if_neg k7] at h
  by_cases k8 : x.kind = 8
  · rw [if_pos k8] at h
    split at h <;> first | (cases h; decide) | cases h
  rw [if_neg k8] at h
  by_cases k9 : x.kind = 9
  · rw [if_pos k9] at h
    split at h <;> first | (cases h; decide) | cases h
  rw [if_neg k9] at h
  by_cases k10 : x.kind = 10
  · rw [if_pos k10] at h
    split at h <;> first | (cases h; decide) | cases h
  rw [if_neg k10] at h
  by_cases k11 : x.kind = 11
  · rw [if_pos k11] at h
    repeat' split at h
    all_goals first | (cases h; decide) | cases h
  rw [if_neg k11] at h
  cases h

/-- What typed leaves: a type, or a fault. -/
def YExprPost (w : World) (base by_ : Nat) (vf : Value) (cf : List Value) (V : Fin 3 → Value) (G : List Scope) (l : Int) (k : Nat) (R : Except Int Int) (en : Ending) (w' : World) : Prop :=
  ∃ (t e k' : Int), en = .returned (.tuple #[.int .i64 t, .int .i64 e]) ∧ YAt w' base by_ vf cf V (YSt.of G l k') ∧ Since (fun j => j = by_) w w' ∧ match R with | .ok u => t = u ∧ e = 0 ∧ k' = (k : Int) | .error e' => e = e' ∧ e' ≠ 0
theorem y_end {w w' : World} {base by_ : Nat} {vf : Value} {cf : List Value} {V : Fin 3 → Value} {G : List Scope} {l : Int} {k : Nat} {fs : List PFunc} {x : PExpr} {ts : List Int} {R : Except Int Int} (hR : R = kindT fs G x ts) (hY : YAt w' base by_ vf cf V (YSt.of G l k)) (hs : Since (fun j => j = by_) w w') {t e : Int} (hp : pairT (kindT fs G x ts) = (t, e)) :
    YExprPost w base by_ vf cf V G l k R (.returned (.tuple #[.int .i64 t, .int .i64 e])) w' := by
  refine ⟨t, e, k, rfl, hY, hs, ?_⟩
  rw [hR]
  cases hK : kindT fs G x ts with
  | ok u => rw [hK] at hp; cases hp; exact ⟨rfl, rfl, rfl⟩
  | error e' => rw [hK] at hp; cases hp; exact ⟨rfl, kindT_ne hK⟩
section
variable (fs : List PFunc) (dF base by_ : Nat) (vf : Value) (cf : List Value) (V : Fin 3 → Value) (G : List Scope) (l : Int)
def YTypedSaid (d : Nat) : Prop := ∀ (x : PExpr) (cs : List Value) (w : World) (k : Nat), YAt w base by_ vf cf V (YSt.of G l k) → rFuncs dF (· < base) w [vf] fs → k ≤ 120 → rExpr d (· < base) w cs x → FitX d x →
  Calls Tryd.prog 175 #[.pointer (some ⟨by_, 0, none⟩), .agg cs.toArray] w (YExprPost w base by_ vf cf V G l k (exprT fs G d k x))
end
theorem argsT_front {E : PExpr → Except Int Int} {e : Int} : ∀ {l1 : List PExpr} (l2 : List PExpr), argsT E l1 = .error e → argsT E (l1 ++ l2) = .error e
  | [], l2, h => by cases h
  | x :: r, l2, h => by
    simp only [List.cons_append, argsT] at h ⊢
    cases hx : E x with
    | error e' => rw [hx] at h; exact h
    | ok t =>
      rw [hx] at h
      simp only at h ⊢
      cases hr : argsT E r with
      | error e' => rw [hr] at h; cases h; rw [argsT_front l2 hr]
      | ok us => rw [hr] at h; cases h
theorem argsT_stop {E : PExpr → Except Int Int} {l : List PExpr} {i : Nat} (hi : i < l.length) {ts : List Int} (h : argsT E (l.take i) = .ok ts) {e : Int} (he : E l[i] = .error e) : argsT E l = .error e := by
  have h1 : argsT E (l.take (i + 1)) = .error e := by rw [List.take_succ_eq_append_getElem hi, argsT_snoc, h, he]; rfl
  have := argsT_front (l.drop (i + 1)) h1
  rwa [List.take_append_drop] at this
theorem argsT_step {E : PExpr → Except Int Int} {l : List PExpr} {i : Nat} (hi : i < l.length) {ts : List Int} (h : argsT E (l.take i) = .ok ts) {t : Int} (he : E l[i] = .ok t) : argsT E (l.take (i + 1)) = .ok (ts ++ [t]) := by
  rw [List.take_succ_eq_append_getElem hi, argsT_snoc, h, he]; rfl
theorem ints_of_row {w : World} {base : Nat} {a : Option Addr} {cap : Nat} {ts : List Int} (h : w.ownsRow base 3 1 (.slice a ts.length cap) ts.length (ts.map (Value.int .i64))) : IntsAt w a ts := by
  intro i hi
  obtain ⟨g, cp, hv, -, -, hg, x0, -⟩ := row_at h (i := i) (u := .int .i64 ts[i]) (by simp [hi])
  obtain ⟨rfl, -, rfl⟩ := Value.slice.inj hv
  exact ⟨g, 0, rfl, hg, by rw [Nat.zero_add]; exact x0⟩
theorem callT_skip {f : PFunc} {r : List PFunc} {s : ByteArray} {ts : List Int} (h : ¬ f.name = s) : callT (f :: r) s ts = callT r s ts := by
  rw [callT, if_neg h]
theorem callT_hit {f : PFunc} {r : List PFunc} {s : ByteArray} {ts : List Int} (h : f.name = s) : callT (f :: r) s ts = (if f.params.length ≠ ts.length then .error 10 else if ts = f.params.map (·.2) then .ok f.result else .error 9) := by
  rw [callT, if_pos h]

set_option maxRecDepth 10000 in
set_option maxHeartbeats 8000000 in
theorem yTyped_any (fs : List PFunc) (dF base by_ : Nat) (vf : Value) (cf : List Value) (V : Fin 3 → Value) (G : List Scope) (l : Int) (hu : UniqG G) : ∀ d, YTypedSaid fs dF base by_ vf cf V G l d := by
  intro d
  induction d with
  | zero => intro x cs w k _ _ _ h _; exact h.elim
  | succ d ih =>
  intro x cs w k h hf hk hx ⟨hfl, hfx⟩
  obtain ⟨v3, rfl, ⟨hI1, hI2, hI3⟩, hargs⟩ := hx
  obtain ⟨a3, c3, rfl, hA1, hA2, hat⟩ := rExprs_at hargs
  have hlt := h.lb.2
  have hbase := h.lb.1
  have hbig := h.big
  have hal : x.args.length ≤ 9223372036854775807 := by unfold maxLen at hA2; omega
  have hal2 : x.args.length * 56 ≤ 140737488355328 := by unfold reachBytes at hfl; omega
  obtain ⟨WB, hWB⟩ : ∃ WB, WB = w.alloc (.cells #[.int .i64 x.kind, .int .i64 x.n, .string x.s, .slice a3 x.args.length c3] 213) := ⟨_, rfl⟩
  have sB0 : Since (fun _ => False) w WB := by rw [hWB]; exact Since.alloc _ _ _
  have q0 : WB.cell? ⟨w.heap.size, 0, none⟩ = some (.int .i64 x.kind) := by rw [hWB, World.cell?_alloc_at _ _ _ _ rfl]; rfl
  have q1 : WB.cell? ⟨w.heap.size, 1, none⟩ = some (.int .i64 x.n) := by rw [hWB, World.cell?_alloc_at _ _ _ _ rfl]; rfl
  have q2 : WB.cell? ⟨w.heap.size, 2, none⟩ = some (.string x.s) := by rw [hWB, World.cell?_alloc_at _ _ _ _ rfl]; rfl
  have q3 : WB.cell? ⟨w.heap.size, 3, none⟩ = some (.slice a3 x.args.length c3) := by rw [hWB, World.cell?_alloc_at _ _ _ _ rfl]; rfl
  have hlW : w.heap.size < WB.heap.size := by rw [hWB]; simp
  have hYB := h.since sB0 (fun _ e => e.elim)
  have n2 : w.heap.size ≠ by_ := by omega
  obtain ⟨R, hR⟩ : ∃ R : Except Int Int, R = exprT fs G (d + 1) k x := ⟨_, rfl⟩
  rw [← hR]
  have H := Lib.hid h
  have HB := Lib.hid hYB
  have Hf := Lib.hid hf
  have Hat := Lib.hid hat
  have Ih := Lib.hid ih
  have Hfx := Lib.hid hfx
  have HR := Lib.hid hR
  have SB := Lib.hid (sB0.mono (G := fun j => j = by_) (fun _ e => e.elim))
  have Hu := Lib.hid hu
  have hbad : ∀ (e : Int) (w1 : World) (k' : Int), R = .error e → e ≠ 0 → YAt w1 base by_ vf cf V (YSt.of G l k') → Since (fun j => j = by_) w w1 → YExprPost w base by_ vf cf V G l k R (.returned (.tuple #[.int .i64 0, .int .i64 e])) w1 := fun e w1 k' hRe he h1 h2 => ⟨0, e, k', rfl, h1, h2, by rw [hRe]; exact ⟨rfl, he⟩⟩
  have Hbad := Lib.hid hbad
  clear h hf hat ih hR hargs hA1 hfl hfx hbad hYB sB0 hu hA2
  by_cases hkr : ¬ (1 ≤ x.kind ∧ x.kind ≤ 12)
  · have hd : (decide ((1 : Int) ≤ x.kind) && decide (x.kind ≤ 12)) = false := by simp; omega
    have HP := Lib.hid (Hbad.out 3 WB k (by rw [HR.out]; unfold exprT; rw [if_pos hkr]) (by decide) HB.out SB.out)
    clear hkr
    go_enter Tryd.func175, Tryd.ntmps175
    go_wp2_with fail
    rw [← hWB]
    clear hWB
    refine (refIn_any _ _ _ _).mono ?_
    rintro e w' ⟨rfl, rfl⟩
    rw [hd]
    go_wp2_with fail
    go_ret2
    exact HP.out
  rw [Decidable.not_not] at hkr
  have hd : (decide ((1 : Int) ≤ x.kind) && decide (x.kind ≤ 12)) = true := by simp; omega
  have Hkr := Lib.hid hkr
  obtain ⟨an, han⟩ : ∃ an, an = argsN x.kind := ⟨_, rfl⟩
  have Hnn := Lib.hid (show R = if 0 ≤ an ∧ an ≠ x.args.length then .error 10 else if 120 < k + 1 then .error 8 else match argsT (exprT fs G d (k + 1)) x.args with | .error e => .error e | .ok ts => kindT fs G x ts by
    rw [HR.out, han]
    unfold exprT
    rw [if_neg (by omega)]
    split
    · rfl
    · split
      · rfl
      · cases argsT (exprT fs G d (k + 1)) x.args <;> rfl)
  have Han := Lib.hid han
  clear hkr
  -- the number of arguments
  have hq : ∀ w' : World, (∃ n, w' = WB.drewN n) → w'.cell? ⟨w.heap.size, 0, none⟩ = some (.int .i64 x.kind) := fun w' ⟨n, hn⟩ => by rw [hn]; exact q0
  clear hq
  by_cases hn : 0 ≤ an ∧ an ≠ x.args.length
  · have d3 : decide (an ≥ 0) = true := decide_eq_true hn.1
    have d4 : (an != (x.args.length : Int)) = true := bne_iff_ne.2 hn.2
    have Hr := Lib.hid (show R = .error 10 by rw [Hnn.out, if_pos hn])
    clear hn Hnn han
    go_enter Tryd.func175, Tryd.ntmps175
    go_wp2_with fail
    rw [← hWB]
    clear hWB
    refine (refIn_any _ _ _ _).mono ?_
    rintro e w' ⟨rfl, rfl⟩
    rw [hd]
    go_wp2_with fail
    go_quiet ((go_at_call 191; go_must (refine Calls.quiet_of_same ((argsOf_any _ _).mono fun _ _ ⟨he, hw⟩ => ⟨he.trans (by rw [← Han.out]), hw.symm⟩))))
    go_wp2_with fail
    go_ret2
    exact Hbad.out 10 _ k Hr.out (by decide) (HB.out.since (Since.drewN (fun _ => False) WB nq) (fun _ (e : False) => e.elim)) (SB.out.trans (Since.drewN (fun j => j = by_) WB nq))
  have Hn := Lib.hid hn
  have Hnn2 := Lib.hid (show R = if 120 < k + 1 then .error 8 else match argsT (exprT fs G d (k + 1)) x.args with | .error e => .error e | .ok ts => kindT fs G x ts by rw [Hnn.out, if_neg hn])
  have hcond : (decide (an ≥ 0) && (an != (x.args.length : Int))) = false := by
    by_cases h0 : 0 ≤ an
    · have h1 : an = x.args.length := by omega
      simp [h1]
    · simp [h0]
  have c9 : WB.cell? ⟨by_, 9, none⟩ = some (.int .i64 (k : Int)) := HB.out.c9
  have z9 := HB.out.z 9
  have hltB := HB.out.lb.2
  have hw9 : IntKind.i64.wrap ((k : Int) + 1) = (k : Int) + 1 := IntWalk.i64_in _ (by omega)
  clear hn Hnn han
  go_enter Tryd.func175, Tryd.ntmps175
  go_wp2_with fail
  rw [← hWB]
  clear hWB
  refine (refIn_any _ _ _ _).mono ?_
  rintro e w' ⟨rfl, rfl⟩
  rw [hd]
  go_upto_region 3 with fail
  go_cut [29] from 17 to 29 (fun s29 wx => s29 = .bool false ∧ ∃ n, wx = WB.drewN n)
  case first =>
    by_cases hge : 0 ≤ an
    · have d3 : decide (an ≥ 0) = true := decide_eq_true hge
      have d4 : (an != (x.args.length : Int)) = false := by rw [bne_eq_false_iff_eq]; have := Hn.out; omega
      clear hge hcond
      go_quiet ((go_at_call 191; go_must (refine Calls.quiet_of_same ((argsOf_any _ _).mono fun _ _ ⟨he, hw⟩ => ⟨he.trans (by rw [← Han.out]), hw.symm⟩))))
      go_wp2_with fail
      go_meet
      exact ⟨rfl, _, rfl⟩
    · have d3 : decide (an ≥ 0) = false := decide_eq_false hge
      clear hge hcond
      go_quiet ((go_at_call 191; go_must (refine Calls.quiet_of_same ((argsOf_any _ _).mono fun _ _ ⟨he, hw⟩ => ⟨he.trans (by rw [← Han.out]), hw.symm⟩))))
      go_wp2_with fail
      go_meet
      exact ⟨rfl, _, rfl⟩
  case rest =>
    obtain ⟨rfl, nd, rfl⟩ := hcut
    have hYd := HB.out.since (Since.drewN (fun _ => False) WB nd) (fun _ e => e.elim)
    have hC2 := hYd.setDepth ((k : Int) + 1)
    have s2 : Since (fun j => j = by_) (WB.drewN nd) ((WB.drewN nd).setCell ⟨by_, 9, none⟩ (.int .i64 ((k : Int) + 1))) := Since.setCell _ ⟨by_, 9, none⟩ (.int .i64 ((k : Int) + 1))
    have hSW := SB.out.trans ((Since.drewN (fun j => j = by_) WB nd).trans s2)
    have hWs : Since (fun j => j = by_) WB ((WB.drewN nd).setCell ⟨by_, 9, none⟩ (.int .i64 ((k : Int) + 1))) := (Since.drewN (fun j => j = by_) WB nd).trans s2
    have HC2 := Lib.hid hC2
    have HSW := Lib.hid hSW
    have HWs := Lib.hid hWs
    have c9b : ((WB.drewN nd).setCell ⟨by_, 9, none⟩ (.int .i64 ((k : Int) + 1))).cell? ⟨by_, 9, none⟩ = some (.int .i64 ((k : Int) + 1)) := hC2.c9
    clear hYd hC2 s2 hSW hWs hcond
    by_cases hdeep : 120 < k + 1
    · have d5 : decide ((k : Int) + 1 > 120) = true := decide_eq_true (by omega)
      have HP := Lib.hid (Hbad.out 8 _ _ (by rw [Hnn2.out, if_pos hdeep]) (by decide) HC2.out HSW.out)
      clear hdeep
      go_wp2_with fail
      go_ret2
      exact HP.out
    · have d5 : decide ((k : Int) + 1 > 120) = false := decide_eq_false (by omega)
      have Hr := Lib.hid (show R = match argsT (exprT fs G d (k + 1)) x.args with | .error e => .error e | .ok ts => kindT fs G x ts by rw [Hnn2.out, if_neg hdeep])
      have Hdeep := Lib.hid (show k + 1 ≤ 120 by omega)
      have q3b := (HWs.out.cell (o := 3) hlW n2).trans q3
      clear hdeep Hnn2
      go_wp2_with fail
      obtain ⟨W2, hW2⟩ : ∃ W2, W2 = (WB.drewN nd).setCell ⟨by_, 9, none⟩ (.int .i64 ((k : Int) + 1)) := ⟨_, rfl⟩
      rw [← hW2] at HC2 HSW HWs q3b
      rw [← hW2]
      clear hW2 c9 z9 c9b hw9 d5
      obtain ⟨i0, hi0, hz0, hz1, hz2⟩ := info_parts info_yint
      have Hlow := Lib.hid (show ∀ j, YM by_ V j → base ≤ j ∧ j < w.heap.size from fun j hj => H.out.mem_lt hj)
      have hW2s : w.heap.size ≤ W2.heap.size := HSW.out.size
      have hrow0 : W2.ownsRow W2.heap.size 3 1 (.slice none 0 0) ([] : List Int).length (([] : List Int).map (Value.int .i64)) := ⟨rfl, Or.inl ⟨rfl, rfl⟩⟩
      have Hrow0 := Lib.hid hrow0
      have Q3b := Lib.hid q3b
      clear hrow0 q3b
      go_loopw [6, 7] (fun s6 s7 wr => ∃ (i : Nat) (ts : List Int), i ≤ x.args.length ∧ s7 = .int .i64 i ∧ ts.length = i ∧ wr.ownsRow W2.heap.size 3 1 s6 ts.length (ts.map (Value.int .i64)) ∧ argsT (exprT fs G d (k + 1)) (x.args.take i) = .ok ts ∧ YAt wr base by_ vf cf V (YSt.of G l ((k + 1 : Nat) : Int)) ∧ Since (fun j => j = by_) W2 wr) (fun _ s7 _ => x.args.length - (intOf s7).toNat)
      case atStart => exact ⟨0, [], Nat.zero_le _, rfl, rfl, Hrow0.out, rfl, HC2.out, Since.refl _ _⟩
      case round =>
        obtain ⟨i, ts, hi, rfl, hti, hrow, hA, hYr, hsr⟩ := hrel
        subst hti
        have HA := Lib.hid hA
        have HYr := Lib.hid hYr
        have HSr := Lib.hid hsr
        have Hrow := Lib.hid hrow
        have q3r := (hsr.cell (o := 3) (by have := HWs.out.size; omega) n2).trans Q3b.out
        clear hA hYr hsr hrow
        by_cases hlt2 : ts.length < x.args.length
        · have hlt1 : ((ts.length : Nat) : Int) < (x.args.length : Int) := by omega
          have hi0' : (0 : Int) ≤ ((ts.length : Nat) : Int) := by omega
          obtain ⟨b, off, v3, rfl, hSb, hbl, x0, x1, x2, x3, hr, ay, cy, rfl⟩ := Hat.out ts.length hlt2
          have hbn : b ≠ by_ := by omega
          have hS := HSW.out.trans HSr.out
          have hw := fun o => hS.cell (o := o) hbl hbn
          have y0 := (hw _).trans x0
          have y1 := (hw _).trans x1
          have y2 := (hw _).trans x2
          have y3 := (hw _).trans x3
          have hwk : IntKind.i64.wrap (((ts.length : Nat) : Int) + 1) = ((ts.length : Nat) : Int) + 1 := IntWalk.i64_in _ (by omega)
          have Hstop := Lib.hid (fun (e : Int) (he : exprT fs G d (k + 1) x.args[ts.length] = .error e) => argsT_stop hlt2 HA.out he)
          have Hstep := Lib.hid (fun (t : Int) (he : exprT fs G d (k + 1) x.args[ts.length] = .ok t) => argsT_step hlt2 HA.out he)
          have hih := Ih.out x.args[ts.length] _ wr (k + 1) HYr.out (Good.kept (hS.keep.weaken (fun j _ hj e => by omega)) Hf.out) (by have := Hdeep.out; omega) (Good.kept (hS.keep.weaken (fun j _ hj e => by omega)) hr) (Hfx.out _ (List.getElem_mem hlt2))
          have Hih := Lib.hid hih
          clear x0 x1 x2 x3 hw hr hS hih
          generalize x.args[ts.length] = y at *
          go_wp2_with fail
          refine Hih.out.mono ?_
          rintro en w3 ⟨t, e, k', rfl, hY3, hs3, hp3⟩
          have HY3 := Lib.hid hY3
          have HS3 := Lib.hid hs3
          clear hY3 hs3
          cases hE : exprT fs G d (k + 1) y with
          | error e' =>
            rw [hE] at hp3
            obtain ⟨rfl, hne⟩ := hp3
            have he1 : (e != 0) = true := by simpa using hne
            have HP := Lib.hid (Hbad.out e w3 _ (by rw [Hr.out, Hstop.out e hE]) hne HY3.out (HSW.out.trans (HSr.out.trans HS3.out)))
            clear hE hne
            go_wp2_with fail
            go_ret2
            exact HP.out
          | ok u =>
            rw [hE] at hp3
            obtain ⟨rfl, rfl, rfl⟩ := hp3
            have Hst := Lib.hid (Hstep.out t hE)
            clear hE
            obtain ⟨a6, c6, rfl, hle6, hmx6⟩ := row_slice Hrow.out
            have hrow3 : w3.ownsRow W2.heap.size 3 1 (.slice a6 ts.length c6) ts.length (ts.map (Value.int .i64)) := HS3.out.row Hrow.out (fun j hj e => by have := (Hrow.out.lt j hj).1; have := (Hlow.out by_ (Or.inl rfl)).2; omega)
            have hsz3 : W2.heap.size ≤ w3.heap.size := Nat.le_trans HSr.out.size HS3.out.size
            go_wp2_with (at_builtin; refine wpList_append_own_at _ rfl _ _ 23 rfl W2.heap.size 3 i0 (.int .i64 0) 1 8 Tryd.underlying23 hi0 hz0 hz1 hz2 rfl (by decide) _ _ _ rfl (hrow3.alloc _) ⟨w3.heap.size, 0, none⟩ 1 1 [.int .i64 t] rfl rfl ?c1 ?c2 ?c3 ?c4 ?c5 ?_)
            case c1 => exact (cell_one_new _ _ _)
            case c2 => intro u hu; simp at hu; subst hu; rfl
            case c3 => unfold maxLen; omega
            case c4 => omega
            case c5 => simp; omega
            intro v' w4 hown' hgrow _ hloc
            have s4 : Since (fun j => (Value.slice a6 ts.length c6).ownBlock = some j) w3 w4 := (Since.alloc _ _ _).trans (Since.grown hgrow)
            have hge : ∀ j, (Value.slice a6 ts.length c6).ownBlock = some j → W2.heap.size ≤ j := fun j e => (hrow3.lt j e).1
            have HY4 := Lib.hid (HY3.out.since s4 (fun j e hj => by have := hge j e; have := (Hlow.out j hj).2; omega))
            have HS4 := Lib.hid (show Since (fun j => j = by_) W2 w4 from (HSr.out.trans HS3.out).then_new s4 (fun j e => Or.inr (hge j e)))
            have Hown := Lib.hid hown'
            clear hown' hgrow hloc s4 hge hrow3
            go_wp2_with fail
            go_roundw
            case rel => exact ⟨ts.length + 1, ts ++ [t], by omega, by go_num, by simp, by simpa using Hown.out, Hst.out, HY4.out, HS4.out⟩
            case measure => simp only [intOf]; omega
        · have hie : ts.length = x.args.length := by omega
          have Hie := Lib.hid hie
          have hlt1 : decide (((ts.length : Nat) : Int) < (x.args.length : Int)) = false := decide_eq_false (by omega)
          have hA' := HA.out
          rw [hie, List.take_length] at hA'
          clear hie
          have HRk := Lib.hid (show R = kindT fs G x ts by rw [Hr.out, hA'])
          clear hA'
          obtain ⟨a6, c6, rfl, hle6, hmx6⟩ := row_slice Hrow.out
          have hq := HWs.out.trans HSr.out
          have c9r : wr.cell? ⟨by_, 9, none⟩ = some (.int .i64 ((k : Int) + 1)) := HYr.out.c9
          have z9r := HYr.out.z 9
          have hw8 : IntKind.i64.wrap (k : Int) = (k : Int) := IntWalk.i64_in _ (by have := Hdeep.out; omega)
          obtain ⟨W3, hW3⟩ : ∃ W3, W3 = wr.setCell ⟨by_, 9, none⟩ (.int .i64 (k : Int)) := ⟨_, rfl⟩
          have s5 : Since (fun j => j = by_) wr W3 := by rw [hW3]; exact Since.setCell wr ⟨by_, 9, none⟩ (.int .i64 (k : Int))
          have HY3 := Lib.hid (show YAt W3 base by_ vf cf V (YSt.of G l k) by rw [hW3]; exact HYr.out.setDepth (k : Int))
          have HS3 := Lib.hid (HSW.out.trans (HSr.out.trans s5))
          have hq5 := hq.trans s5
          have e0 := (hq5.cell (o := 0) hlW n2).trans q0
          have e1 := (hq5.cell (o := 1) hlW n2).trans q1
          have e2 := (hq5.cell (o := 2) hlW n2).trans q2
          have e3 := (hq5.cell (o := 3) hlW n2).trans q3
          have hrow3 : W3.ownsRow W2.heap.size 3 1 (.slice a6 ts.length c6) ts.length (ts.map (Value.int .i64)) := s5.row Hrow.out (fun j hj e => by have := (Hrow.out.lt j hj).1; have := (Hlow.out by_ (Or.inl rfl)).2; omega)
          have Hrow3 := Lib.hid hrow3
          have hts : ts.length ≤ 9223372036854775807 := by have := Hie.out; omega
          have HW3 := Lib.hid hW3
          have hkk : x.kind = 1 ∨ x.kind = 2 ∨ x.kind = 3 ∨ x.kind = 4 ∨ x.kind = 5 ∨ x.kind = 6 ∨ x.kind = 7 ∨ x.kind = 8 ∨ x.kind = 9 ∨ x.kind = 10 ∨ x.kind = 11 ∨ x.kind = 12 := by have := Hkr.out; omega
          rw [hW3] at e0 e1 e2 e3
          clear hq s5 hq5 q0 q1 q2 q3 hrow3 hW3 hle6 hmx6
          rcases hkk with hK | hK | hK | hK | hK | hK | hK | hK | hK | hK | hK | hK
          · rw [hK] at e0
            have hkt : kindT fs G x ts = if -1099511627776 ≤ x.n ∧ x.n ≤ 1099511627776 then .ok 1 else .error 2 := by
              unfold kindT
              rw [if_pos hK]
              try rfl
            have Hkt := Lib.hid hkt
            clear hkt hK
            cases hb : (decide ((-1099511627776 : Int) ≤ x.n) && decide (x.n ≤ 1099511627776)) with
            | true =>
              have Hb := Lib.hid hb
              clear hb
              go_wp2_with (first | (go_at_call 48; refine (refIn_any _ _ _ _).mono ?_; rintro e w' ⟨rfl, rfl⟩; rw [Hb.out]))
              go_ret2
              rw [← HW3.out]
              exact y_end HRk.out HY3.out HS3.out (by rw [Hkt.out]; rw [if_pos (by simpa using Hb.out)]; rfl)
            | false =>
              have Hb := Lib.hid hb
              clear hb
              go_wp2_with (first | (go_at_call 48; refine (refIn_any _ _ _ _).mono ?_; rintro e w' ⟨rfl, rfl⟩; rw [Hb.out]))
              go_ret2
              rw [← HW3.out]
              exact y_end HRk.out HY3.out HS3.out (by rw [Hkt.out]; rw [if_neg (fun h => by have := Hb.out; simp [h] at this)]; rfl)
          · rw [hK] at e0
            have hkt : kindT fs G x ts = if 4000 < x.s.size then .error 1 else .ok 3 := by
              unfold kindT
              rw [if_neg (show ¬ x.kind = 1 by omega), if_pos hK]
              try rfl
            have Hkt := Lib.hid hkt
            clear hkt hK
            by_cases h4 : 4000 < x.s.size
            · have h4' : decide ((x.s.size : Int) > 4000) = true := decide_eq_true (by omega)
              have H4 := Lib.hid h4
              clear h4
              go_wp2_with fail
              go_ret2
              rw [← HW3.out]
              exact y_end HRk.out HY3.out HS3.out (by rw [Hkt.out]; rw [if_pos H4.out]; rfl)
            · have h4' : decide ((x.s.size : Int) > 4000) = false := decide_eq_false (by omega)
              have H4 := Lib.hid h4
              clear h4
              go_wp2_with fail
              go_ret2
              rw [← HW3.out]
              exact y_end HRk.out HY3.out HS3.out (by rw [Hkt.out]; rw [if_neg H4.out]; rfl)
          · rw [hK] at e0
            have hkt : kindT fs G x ts = if 0 ≤ x.n ∧ x.n ≤ 1 then .ok 2 else .error 2 := by
              unfold kindT
              rw [if_neg (show ¬ x.kind = 1 by omega), if_neg (show ¬ x.kind = 2 by omega), if_pos hK]
              try rfl
            have Hkt := Lib.hid hkt
            clear hkt hK
            cases hb : (decide ((0 : Int) ≤ x.n) && decide (x.n ≤ 1)) with
            | true =>
              have Hb := Lib.hid hb
              clear hb
              go_wp2_with (first | (go_at_call 48; refine (refIn_any _ _ _ _).mono ?_; rintro e w' ⟨rfl, rfl⟩; rw [Hb.out]))
              go_ret2
              rw [← HW3.out]
              exact y_end HRk.out HY3.out HS3.out (by rw [Hkt.out]; rw [if_pos (by simpa using Hb.out)]; rfl)
            | false =>
              have Hb := Lib.hid hb
              clear hb
              go_wp2_with (first | (go_at_call 48; refine (refIn_any _ _ _ _).mono ?_; rintro e w' ⟨rfl, rfl⟩; rw [Hb.out]))
              go_ret2
              rw [← HW3.out]
              exact y_end HRk.out HY3.out HS3.out (by rw [Hkt.out]; rw [if_neg (fun h => by have := Hb.out; simp [h] at this)]; rfl)
          · rw [hK] at e0
            have hkt : kindT fs G x ts = match findT G x.s with | some t => .ok t | none => .error 6 := by
              unfold kindT
              rw [if_neg (show ¬ x.kind = 1 by omega), if_neg (show ¬ x.kind = 2 by omega), if_neg (show ¬ x.kind = 3 by omega), if_pos hK]
              try rfl
            have Hkt := Lib.hid hkt
            clear hkt hK
            go_wp2_with fail
            rw [← HW3.out]
            refine (yTypeOf_any HY3.out Hu.out x.s).mono ?_
            rintro e w' ⟨rfl, rfl⟩
            go_wp2_with fail
            go_ret2
            exact y_end HRk.out HY3.out HS3.out (by rw [Hkt.out]; unfold typeOfT; cases findT G x.s <;> rfl)
          · rw [hK] at e0
            have hkt : kindT fs G x ts = opT x.s.toList (ts.getD 0 0) (ts.getD 1 0) := by
              unfold kindT
              rw [if_neg (show ¬ x.kind = 1 by omega), if_neg (show ¬ x.kind = 2 by omega), if_neg (show ¬ x.kind = 3 by omega), if_neg (show ¬ x.kind = 4 by omega), if_pos hK]
              try rfl
            have Hkt := Lib.hid hkt
            have hln : ts.length = 2 := by
              have hq := Hn.out
              rw [Han.out, hK, show argsN 5 = 2 by decide] at hq
              have := Hie.out
              omega
            obtain ⟨p, q, rfl⟩ : ∃ p q, ts = [p, q] := by
              match ts, hln with
              | [p, q], _ => exact ⟨p, q, rfl⟩
            obtain ⟨g6, cp6, hv6, -, -, -, z0, -⟩ := row_at Hrow3.out (i := 0) (u := .int .i64 p) rfl
            obtain ⟨rfl, -, rfl⟩ := Value.slice.inj hv6
            rw [HW3.out] at z0
            obtain ⟨g7, cp7, hv7, -, -, -, z1, -⟩ := row_at Hrow3.out (i := 1) (u := .int .i64 q) rfl
            obtain ⟨hv8, -, -⟩ := Value.slice.inj hv7
            cases hv8
            rw [HW3.out] at z1
            have hie : 2 = x.args.length := Hie.out
            have hlt3 : ¬ (2 < x.args.length) := by omega
            have hlt4 : decide ((2 : Int) < (x.args.length : Int)) = false := decide_eq_false (by omega)
            simp only [List.length_cons, List.length_nil, Nat.zero_add, Nat.reduceAdd] at *
            clear hkt hK hln hv6 hie hlt1 hlt2 hv7
            go_wp2_with fail
            go_quiet ((go_at_call 193; go_must (refine Calls.quiet_of_same ((twoType_any _ _ _ _).mono fun _ _ ⟨he, hw⟩ => ⟨he, hw.symm⟩))))
            go_wp2_with fail
            go_ret2
            rw [← HW3.out]
            exact y_end HRk.out (HY3.out.since (Since.drewN (fun _ => False) W3 nq) (fun _ (e : False) => e.elim)) (HS3.out.trans (Since.drewN (fun j => j = by_) W3 nq)) (by rw [Hkt.out]; rfl)
          · rw [hK] at e0
            have hkt : kindT fs G x ts = if x.s.toList = [45] then (if ts.getD 0 0 = 1 then .ok 1 else .error 9) else if x.s.toList = [33] then (if ts.getD 0 0 = 2 then .ok 2 else .error 9) else .error 4 := by
              unfold kindT
              rw [if_neg (show ¬ x.kind = 1 by omega), if_neg (show ¬ x.kind = 2 by omega), if_neg (show ¬ x.kind = 3 by omega), if_neg (show ¬ x.kind = 4 by omega), if_neg (show ¬ x.kind = 5 by omega), if_pos hK]
              try rfl
            have Hkt := Lib.hid hkt
            have hln : ts.length = 1 := by
              have hq := Hn.out
              rw [Han.out, hK, show argsN 6 = 1 by decide] at hq
              have := Hie.out
              omega
            obtain ⟨p, rfl⟩ : ∃ p, ts = [p] := by
              match ts, hln with
              | [p], _ => exact ⟨p, rfl⟩
            obtain ⟨g6, cp6, hv6, -, -, -, z0, -⟩ := row_at Hrow3.out (i := 0) (u := .int .i64 p) rfl
            obtain ⟨rfl, -, rfl⟩ := Value.slice.inj hv6
            rw [HW3.out] at z0
            have hie : 1 = x.args.length := Hie.out
            have hlt3 : ¬ (1 < x.args.length) := by omega
            have hlt4 : decide ((1 : Int) < (x.args.length : Int)) = false := decide_eq_false (by omega)
            simp only [List.length_cons, List.length_nil, Nat.zero_add, Nat.reduceAdd] at *
            clear hkt hK hln hv6 hie hlt1 hlt2
            by_cases h45 : x.s.toList = [45]
            · have H45 := Lib.hid h45
              by_cases hp : p = 1
              · have hp' : (p != 1) = false := by simp [hp]
                have Hp := Lib.hid hp
                clear hp
                go_wp2_with fail
                go_ret2
                rw [← HW3.out]
                exact y_end HRk.out HY3.out HS3.out (by rw [Hkt.out]; rw [if_pos H45.out, if_pos (show ([p] : List Int).getD 0 0 = 1 from Hp.out)]; rfl)
              · have hp' : (p != 1) = true := by simpa using hp
                have Hp := Lib.hid hp
                clear hp
                go_wp2_with fail
                go_ret2
                rw [← HW3.out]
                exact y_end HRk.out HY3.out HS3.out (by rw [Hkt.out]; rw [if_pos H45.out, if_neg (show ¬ ([p] : List Int).getD 0 0 = 1 from Hp.out)]; rfl)
            by_cases h33 : x.s.toList = [33]
            · have H45 := Lib.hid h45
              have H33 := Lib.hid h33
              clear h45
              by_cases hp : p = 2
              · have hp' : (p != 2) = false := by simp [hp]
                have Hp := Lib.hid hp
                clear hp
                go_wp2_with fail
                go_ret2
                rw [← HW3.out]
                exact y_end HRk.out HY3.out HS3.out (by rw [Hkt.out]; rw [if_neg H45.out, if_pos H33.out, if_pos (show ([p] : List Int).getD 0 0 = 2 from Hp.out)]; rfl)
              · have hp' : (p != 2) = true := by simpa using hp
                have Hp := Lib.hid hp
                clear hp
                go_wp2_with fail
                go_ret2
                rw [← HW3.out]
                exact y_end HRk.out HY3.out HS3.out (by rw [Hkt.out]; rw [if_neg H45.out, if_pos H33.out, if_neg (show ¬ ([p] : List Int).getD 0 0 = 2 from Hp.out)]; rfl)
            · have d45 : (x.s.toList == [45]) = false := by simpa using h45
              have d33 : (x.s.toList == [33]) = false := by simpa using h33
              have H45 := Lib.hid h45
              have H33 := Lib.hid h33
              clear h45 h33
              go_wp2_with fail
              go_ret2
              rw [← HW3.out]
              exact y_end HRk.out HY3.out HS3.out (by rw [Hkt.out]; rw [if_neg H45.out, if_neg H33.out]; rfl)
          · rw [hK] at e0
            have hkt : kindT fs G x ts = callT fs x.s ts := by
              unfold kindT
              rw [if_neg (show ¬ x.kind = 1 by omega), if_neg (show ¬ x.kind = 2 by omega), if_neg (show ¬ x.kind = 3 by omega), if_neg (show ¬ x.kind = 4 by omega), if_neg (show ¬ x.kind = 5 by omega), if_neg (show ¬ x.kind = 6 by omega), if_pos hK]
              try rfl
            have Hkt := Lib.hid hkt
            obtain ⟨aF, cF, hvf, hF1, hF2, hfat⟩ := rFuncs_val Hf.out
            have hfl : fs.length ≤ 9223372036854775807 := by unfold maxLen at hF2; omega
            have c0 := HY3.out.c0
            rw [hvf, HW3.out] at c0
            have hcell : ∀ b o, b < base → b < w.heap.size → (wr.setCell ⟨by_, 9, none⟩ (.int .i64 (k : Int))).cell? ⟨b, o, none⟩ = w.cell? ⟨b, o, none⟩ := fun b o h1 h2 => by
              rw [← HW3.out]
              exact HS3.out.cell (o := o) h2 (by omega)
            have Hcell := Lib.hid hcell
            have Hfat := Lib.hid hfat
            have hend : ∀ n (t e : Int), pairT (callT fs x.s ts) = (t, e) → YExprPost w base by_ vf cf V G l k R (.returned (.tuple #[.int .i64 t, .int .i64 e])) ((wr.setCell ⟨by_, 9, none⟩ (.int .i64 (k : Int))).drewN n) := fun n t e hp => by
              rw [← HW3.out]
              exact y_end HRk.out (HY3.out.since (Since.drewN (fun _ => False) W3 n) (fun _ (e : False) => e.elim)) (HS3.out.trans (Since.drewN (fun j => j = by_) W3 n)) (by rw [Hkt.out]; exact hp)
            have Hend := Lib.hid hend
            clear hkt hK hfat hcell hend hvf
            go_wp2_with fail
            go_loopw [11] (fun s11 w5 => ∃ (j n : Nat), j ≤ fs.length ∧ s11 = .int .i64 j ∧ callT fs x.s ts = callT (fs.drop j) x.s ts ∧ w5 = (wr.setCell ⟨by_, 9, none⟩ (.int .i64 (k : Int))).drewN n) (fun s11 _ => fs.length - (intOf s11).toNat)
            case atStart => exact ⟨0, 0, Nat.zero_le _, rfl, by simp, rfl⟩
            case round =>
              obtain ⟨j, n, hj, rfl, hcj, rfl⟩ := hrel
              have Hcj := Lib.hid hcj
              clear hcj
              by_cases hjl : j < fs.length
              · have hj0 : (0 : Int) ≤ (j : Int) := by omega
                have hj1 : (j : Int) < (fs.length : Int) := by omega
                have hwj : IntKind.i64.wrap ((j : Int) + 1) = (j : Int) + 1 := IntWalk.i64_in _ (by omega)
                obtain ⟨bF, oF, v1, v3, rfl, hbS, hbl, f0, f1, f2, f3, -, -, hps, hbody⟩ := Hfat.out j hjl
                obtain ⟨aP, cP, rfl, hP1, hP2, hPat⟩ := rParams_val hps
                have y0 := (Hcell.out bF _ hbS hbl).trans f0
                have y1 := (Hcell.out bF _ hbS hbl).trans f1
                have y2 := (Hcell.out bF _ hbS hbl).trans f2
                have Hd := Lib.hid (List.drop_eq_getElem_cons hjl : fs.drop j = fs[j] :: fs.drop (j + 1))
                have hpl : fs[j].params.length ≤ 9223372036854775807 := by unfold maxLen at hP2; omega
                have HPat := Lib.hid hPat
                clear f0 f1 f2 f3 hps hbody hPat hP1 hP2
                generalize fs[j] = f at *
                by_cases hnm : f.name = x.s
                · have hn1 : (f.name.toList == x.s.toList) = true := by simp [hnm]
                  have Hhit := Lib.hid (show callT fs x.s ts = (if f.params.length ≠ ts.length then .error 10 else if ts = f.params.map (·.2) then .ok f.result else .error 9) by rw [Hcj.out, Hd.out, callT_hit hnm])
                  clear hnm
                  by_cases hpn : f.params.length = ts.length
                  · have hpn1 : ((f.params.length : Int) != (ts.length : Int)) = false := by rw [bne_eq_false_iff_eq]; omega
                    have Hhit2 := Lib.hid (show callT fs x.s ts = if ts = f.params.map (·.2) then .ok f.result else .error 9 by rw [Hhit.out, if_neg (fun h => h hpn)])
                    have Hpn := Lib.hid hpn
                    clear hpn Hhit
                    go_wp2_with fail
                    go_quiet (fail)
                    go_wp2_with fail
                    go_loopw [12] (fun s12 w6 => ∃ (m n : Nat), m ≤ ts.length ∧ s12 = .int .i64 m ∧ ts.take m = (f.params.take m).map (·.2) ∧ w6 = (wr.setCell ⟨by_, 9, none⟩ (.int .i64 (k : Int))).drewN n) (fun s12 _ => ts.length - (intOf s12).toNat)
                    case atStart => exact ⟨0, _, Nat.zero_le _, rfl, by simp, rfl⟩
                    case round =>
                      obtain ⟨m, n2, hm, rfl, hcm, rfl⟩ := hrel
                      have Hcm := Lib.hid hcm
                      clear hcm
                      by_cases hml : m < ts.length
                      · have hm0 : (0 : Int) ≤ (m : Int) := by omega
                        have hm1 : (m : Int) < (ts.length : Int) := by omega
                        have hmp : m < f.params.length := by have := Hpn.out; omega
                        have hm2 : (m : Int) < (f.params.length : Int) := by omega
                        have hwm : IntKind.i64.wrap ((m : Int) + 1) = (m : Int) + 1 := IntWalk.i64_in _ (by omega)
                        obtain ⟨g6, cp6, hv6, -, -, -, z0, -⟩ := row_at Hrow3.out (i := m) (u := .int .i64 ts[m]) (by simp [hml])
                        obtain ⟨rfl, -, rfl⟩ := Value.slice.inj hv6
                        rw [HW3.out] at z0
                        obtain ⟨bP, oP, rfl, hbSP, hbPl, p0, p1, -, -⟩ := HPat.out m hmp
                        have r1 := (Hcell.out bP _ hbSP hbPl).trans p1
                        have Ht1 := Lib.hid (List.take_succ_eq_append_getElem hml)
                        have Ht2 := Lib.hid (List.take_succ_eq_append_getElem hmp)
                        have Hne := Lib.hid (show ts[m] ≠ f.params[m].2 → ¬ ts = f.params.map (·.2) from fun hne he => hne (by
                          have : ts[m]? = (f.params.map (·.2))[m]? := by rw [← he]
                          rw [List.getElem?_eq_getElem hml, List.getElem?_map, List.getElem?_eq_getElem hmp] at this
                          simpa using this))
                        clear p0 p1 hv6
                        generalize f.params[m] = pr at *
                        generalize ts[m] = tm at *
                        by_cases htm : tm = pr.2
                        · have htm1 : (tm != pr.2) = false := by simp [htm]
                          have Htm := Lib.hid htm
                          clear htm
                          go_wp2_with fail
                          go_quiet (fail)
                          go_wp2_with fail
                          go_roundw
                          case rel => exact ⟨m + 1, _, by omega, by go_num, by rw [Ht1.out, Ht2.out, List.map_append, Hcm.out, Htm.out]; rfl, rfl⟩
                          case measure => simp only [intOf]; omega
                        · have htm1 : (tm != pr.2) = true := by simpa using htm
                          have Htm := Lib.hid (Hne.out htm)
                          clear htm
                          go_wp2_with fail
                          go_quiet (fail)
                          go_wp2_with fail
                          go_ret2
                          have He := Hend.out (n2 + nq) 0 9 (by rw [Hhit2.out, if_neg Htm.out]; rfl)
                          first | exact He | (rw [World.drewN_drewN]; exact He) | (rw [← World.drewN_drewN] at He; exact He) | (trace_state; exact Hend.out (n2 + (nq + 1)) 0 9 (by rw [Hhit2.out, if_neg Htm.out]; rfl))
                      · have hme : m = ts.length := by omega
                        have hml1 : decide ((m : Int) < (ts.length : Int)) = false := decide_eq_false (by omega)
                        have Heq := Lib.hid (show ts = f.params.map (·.2) by
                          have h1 := Hcm.out
                          rw [hme, List.take_length] at h1
                          rw [h1, ← Hpn.out, List.take_length])
                        clear hme
                        go_wp2_with fail
                        go_ret2
                        exact Hend.out _ _ _ (by rw [Hhit2.out, if_pos Heq.out]; rfl)
                  · have hpn1 : ((f.params.length : Int) != (ts.length : Int)) = true := bne_iff_ne.2 (by omega)
                    have Hp := Lib.hid hpn
                    clear hpn
                    go_wp2_with fail
                    go_quiet (fail)
                    go_wp2_with fail
                    go_ret2
                    exact Hend.out _ _ _ (by rw [Hhit.out, if_pos Hp.out]; rfl)
                · have hn1 : (f.name.toList == x.s.toList) = false := by
                    cases hb : f.name.toList == x.s.toList with
                    | false => rfl
                    | true =>
                      have : f.name.toList = x.s.toList := by simpa using hb
                      rw [ByteArray.toList_eq, ByteArray.toList_eq] at this
                      exact absurd (ByteArray.ext (Array.toList_inj.mp this)) hnm
                  have Hsk := Lib.hid (show callT fs x.s ts = callT (fs.drop (j + 1)) x.s ts by rw [Hcj.out, Hd.out, callT_skip hnm])
                  clear hnm
                  go_wp2_with fail
                  go_quiet (fail)
                  go_wp2_with fail
                  go_roundw
                  case rel => exact ⟨j + 1, _, by omega, by go_num, Hsk.out, rfl⟩
                  case measure => simp only [intOf]; omega
              · have hje : j = fs.length := by omega
                have hjl1 : decide ((j : Int) < (fs.length : Int)) = false := decide_eq_false (by omega)
                have Hno := Lib.hid (show callT fs x.s ts = .error 6 by rw [Hcj.out, hje, List.drop_length]; rfl)
                clear hje
                go_wp2_with fail
                go_ret2
                exact Hend.out _ _ _ (by rw [Hno.out]; rfl)
          · rw [hK] at e0
            have hkt : kindT fs G x ts = if 3 ≤ ts.getD 0 0 ∧ ts.getD 0 0 ≤ 5 then .ok 1 else .error 9 := by
              unfold kindT
              rw [if_neg (show ¬ x.kind = 1 by omega), if_neg (show ¬ x.kind = 2 by omega), if_neg (show ¬ x.kind = 3 by omega), if_neg (show ¬ x.kind = 4 by omega), if_neg (show ¬ x.kind = 5 by omega), if_neg (show ¬ x.kind = 6 by omega), if_neg (show ¬ x.kind = 7 by omega), if_pos hK]
              try rfl
            have Hkt := Lib.hid hkt
            have hln : ts.length = 1 := by
              have hq := Hn.out
              rw [Han.out, hK, show argsN 8 = 1 by decide] at hq
              have := Hie.out
              omega
            obtain ⟨p, rfl⟩ : ∃ p, ts = [p] := by
              match ts, hln with
              | [p], _ => exact ⟨p, rfl⟩
            obtain ⟨g6, cp6, hv6, -, -, -, z0, -⟩ := row_at Hrow3.out (i := 0) (u := .int .i64 p) rfl
            obtain ⟨rfl, -, rfl⟩ := Value.slice.inj hv6
            rw [HW3.out] at z0
            have hie : 1 = x.args.length := Hie.out
            have hlt3 : ¬ (1 < x.args.length) := by omega
            have hlt4 : decide ((1 : Int) < (x.args.length : Int)) = false := decide_eq_false (by omega)
            simp only [List.length_cons, List.length_nil, Nat.zero_add, Nat.reduceAdd] at *
            clear hkt hK hln hv6 hie hlt1 hlt2
            cases hb : (decide ((3 : Int) ≤ p) && decide (p ≤ 5)) with
            | true =>
              have Hb := Lib.hid hb
              clear hb
              go_wp2_with (first | (go_at_call 48; refine (refIn_any _ _ _ _).mono ?_; rintro e w' ⟨rfl, rfl⟩; rw [Hb.out]))
              go_ret2
              rw [← HW3.out]
              exact y_end HRk.out HY3.out HS3.out (by rw [Hkt.out]; rw [if_pos (show 3 ≤ ([p] : List Int).getD 0 0 ∧ ([p] : List Int).getD 0 0 ≤ 5 by simpa using Hb.out)]; rfl)
            | false =>
              have Hb := Lib.hid hb
              clear hb
              go_wp2_with (first | (go_at_call 48; refine (refIn_any _ _ _ _).mono ?_; rintro e w' ⟨rfl, rfl⟩; rw [Hb.out]))
              go_ret2
              rw [← HW3.out]
              exact y_end HRk.out HY3.out HS3.out (by rw [Hkt.out]; rw [if_neg (fun h : 3 ≤ ([p] : List Int).getD 0 0 ∧ ([p] : List Int).getD 0 0 ≤ 5 => by have := Hb.out; have h1 : 3 ≤ p := h.1; have h2 : p ≤ 5 := h.2; simp [h1, h2] at this)]; rfl)
          · rw [hK] at e0
            have hkt : kindT fs G x ts = if (3 ≤ ts.getD 0 0 ∧ ts.getD 0 0 ≤ 5) ∧ ts.getD 1 0 = 1 then .ok 1 else .error 9 := by
              unfold kindT
              rw [if_neg (show ¬ x.kind = 1 by omega), if_neg (show ¬ x.kind = 2 by omega), if_neg (show ¬ x.kind = 3 by omega), if_neg (show ¬ x.kind = 4 by omega), if_neg (show ¬ x.kind = 5 by omega), if_neg (show ¬ x.kind = 6 by omega), if_neg (show ¬ x.kind = 7 by omega), if_neg (show ¬ x.kind = 8 by omega), if_pos hK]
              try rfl
            have Hkt := Lib.hid hkt
            have hln : ts.length = 2 := by
              have hq := Hn.out
              rw [Han.out, hK, show argsN 9 = 2 by decide] at hq
              have := Hie.out
              omega
            obtain ⟨p, q, rfl⟩ : ∃ p q, ts = [p, q] := by
              match ts, hln with
              | [p, q], _ => exact ⟨p, q, rfl⟩
            obtain ⟨g6, cp6, hv6, -, -, -, z0, -⟩ := row_at Hrow3.out (i := 0) (u := .int .i64 p) rfl
            obtain ⟨rfl, -, rfl⟩ := Value.slice.inj hv6
            rw [HW3.out] at z0
            obtain ⟨g7, cp7, hv7, -, -, -, z1, -⟩ := row_at Hrow3.out (i := 1) (u := .int .i64 q) rfl
            obtain ⟨hv8, -, -⟩ := Value.slice.inj hv7
            cases hv8
            rw [HW3.out] at z1
            have hie : 2 = x.args.length := Hie.out
            have hlt3 : ¬ (2 < x.args.length) := by omega
            have hlt4 : decide ((2 : Int) < (x.args.length : Int)) = false := decide_eq_false (by omega)
            simp only [List.length_cons, List.length_nil, Nat.zero_add, Nat.reduceAdd] at *
            clear hkt hK hln hv6 hie hlt1 hlt2 hv7
            cases hb : (decide ((3 : Int) ≤ p) && decide (p ≤ 5)) with
            | false =>
              have Hb := Lib.hid hb
              clear hb
              go_wp2_with (first | (go_at_call 48; refine (refIn_any _ _ _ _).mono ?_; rintro e w' ⟨rfl, rfl⟩; rw [Hb.out]))
              go_ret2
              rw [← HW3.out]
              exact y_end HRk.out HY3.out HS3.out (by rw [Hkt.out]; rw [if_neg (fun h : (3 ≤ ([p, q] : List Int).getD 0 0 ∧ ([p, q] : List Int).getD 0 0 ≤ 5) ∧ ([p, q] : List Int).getD 1 0 = 1 => by have := Hb.out; have h1 : 3 ≤ p := h.1.1; have h2 : p ≤ 5 := h.1.2; simp [h1, h2] at this)]; rfl)
            | true =>
              have Hb := Lib.hid hb
              clear hb
              by_cases hp : q = 1
              · have hp' : (q != 1) = false := by simp [hp]
                have Hp := Lib.hid hp
                clear hp
                go_wp2_with (first | (go_at_call 48; refine (refIn_any _ _ _ _).mono ?_; rintro e w' ⟨rfl, rfl⟩; rw [Hb.out]))
                go_ret2
                rw [← HW3.out]
                exact y_end HRk.out HY3.out HS3.out (by rw [Hkt.out]; rw [if_pos (show (3 ≤ ([p, q] : List Int).getD 0 0 ∧ ([p, q] : List Int).getD 0 0 ≤ 5) ∧ ([p, q] : List Int).getD 1 0 = 1 from ⟨by simpa using Hb.out, Hp.out⟩)]; rfl)
              · have hp' : (q != 1) = true := by simpa using hp
                have Hp := Lib.hid hp
                clear hp
                go_wp2_with (first | (go_at_call 48; refine (refIn_any _ _ _ _).mono ?_; rintro e w' ⟨rfl, rfl⟩; rw [Hb.out]))
                go_ret2
                rw [← HW3.out]
                exact y_end HRk.out HY3.out HS3.out (by rw [Hkt.out]; rw [if_neg (fun h : (3 ≤ ([p, q] : List Int).getD 0 0 ∧ ([p, q] : List Int).getD 0 0 ≤ 5) ∧ ([p, q] : List Int).getD 1 0 = 1 => Hp.out h.2)]; rfl)
          · rw [hK] at e0
            have hkt : kindT fs G x ts = if ts.getD 0 0 = 4 ∧ ts.getD 1 0 = 1 then .ok 4 else .error 9 := by
              unfold kindT
              rw [if_neg (show ¬ x.kind = 1 by omega), if_neg (show ¬ x.kind = 2 by omega), if_neg (show ¬ x.kind = 3 by omega), if_neg (show ¬ x.kind = 4 by omega), if_neg (show ¬ x.kind = 5 by omega), if_neg (show ¬ x.kind = 6 by omega), if_neg (show ¬ x.kind = 7 by omega), if_neg (show ¬ x.kind = 8 by omega), if_neg (show ¬ x.kind = 9 by omega), if_pos hK]
              try rfl
            have Hkt := Lib.hid hkt
            have hln : ts.length = 2 := by
              have hq := Hn.out
              rw [Han.out, hK, show argsN 10 = 2 by decide] at hq
              have := Hie.out
              omega
            obtain ⟨p, q, rfl⟩ : ∃ p q, ts = [p, q] := by
              match ts, hln with
              | [p, q], _ => exact ⟨p, q, rfl⟩
            obtain ⟨g6, cp6, hv6, -, -, -, z0, -⟩ := row_at Hrow3.out (i := 0) (u := .int .i64 p) rfl
            obtain ⟨rfl, -, rfl⟩ := Value.slice.inj hv6
            rw [HW3.out] at z0
            obtain ⟨g7, cp7, hv7, -, -, -, z1, -⟩ := row_at Hrow3.out (i := 1) (u := .int .i64 q) rfl
            obtain ⟨hv8, -, -⟩ := Value.slice.inj hv7
            cases hv8
            rw [HW3.out] at z1
            have hie : 2 = x.args.length := Hie.out
            have hlt3 : ¬ (2 < x.args.length) := by omega
            have hlt4 : decide ((2 : Int) < (x.args.length : Int)) = false := decide_eq_false (by omega)
            simp only [List.length_cons, List.length_nil, Nat.zero_add, Nat.reduceAdd] at *
            clear hkt hK hln hv6 hie hlt1 hlt2 hv7
            by_cases hp : p = 4
            · have hp' : (p != 4) = false := by simp [hp]
              have Hp := Lib.hid hp
              clear hp
              by_cases hq : q = 1
              · have hq' : (q != 1) = false := by simp [hq]
                have Hq := Lib.hid hq
                clear hq
                go_wp2_with fail
                go_ret2
                rw [← HW3.out]
                exact y_end HRk.out HY3.out HS3.out (by rw [Hkt.out]; rw [if_pos (show ([p, q] : List Int).getD 0 0 = 4 ∧ ([p, q] : List Int).getD 1 0 = 1 from ⟨Hp.out, Hq.out⟩)]; rfl)
              · have hq' : (q != 1) = true := by simpa using hq
                have Hq := Lib.hid hq
                clear hq
                go_wp2_with fail
                go_ret2
                rw [← HW3.out]
                exact y_end HRk.out HY3.out HS3.out (by rw [Hkt.out]; rw [if_neg (fun h : ([p, q] : List Int).getD 0 0 = 4 ∧ ([p, q] : List Int).getD 1 0 = 1 => Hq.out h.2)]; rfl)
            · have hp' : (p != 4) = true := by simpa using hp
              have Hp := Lib.hid hp
              clear hp
              go_wp2_with fail
              go_ret2
              rw [← HW3.out]
              exact y_end HRk.out HY3.out HS3.out (by rw [Hkt.out]; rw [if_neg (fun h : ([p, q] : List Int).getD 0 0 = 4 ∧ ([p, q] : List Int).getD 1 0 = 1 => Hp.out h.1)]; rfl)
          · rw [hK] at e0
            have hkt : kindT fs G x ts = if 4000 < ts.length then .error 1 else if ∀ t ∈ ts, t = 1 then .ok 4 else .error 9 := by
              unfold kindT
              rw [if_neg (show ¬ x.kind = 1 by omega), if_neg (show ¬ x.kind = 2 by omega), if_neg (show ¬ x.kind = 3 by omega), if_neg (show ¬ x.kind = 4 by omega), if_neg (show ¬ x.kind = 5 by omega), if_neg (show ¬ x.kind = 6 by omega), if_neg (show ¬ x.kind = 7 by omega), if_neg (show ¬ x.kind = 8 by omega), if_neg (show ¬ x.kind = 9 by omega), if_neg (show ¬ x.kind = 10 by omega), if_pos hK]
              try rfl
            have Hkt := Lib.hid hkt
            clear hkt hK
            by_cases h4 : 4000 < ts.length
            · have h4' : decide ((ts.length : Int) > 4000) = true := decide_eq_true (by omega)
              go_wp2_with fail
              go_ret2
              rw [← HW3.out]
              exact y_end HRk.out HY3.out HS3.out (by rw [Hkt.out]; rw [if_pos h4]; rfl)
            · have h4' : decide ((ts.length : Int) > 4000) = false := decide_eq_false (by omega)
              have Hall := Lib.hid (allAre_any 1 a6 ts c6 W3 hts (ints_of_row Hrow3.out))
              go_wp2_with fail
              rw [← HW3.out]
              refine Hall.out.mono ?_
              rintro e w' ⟨rfl, rfl⟩
              by_cases ha : ∀ t ∈ ts, t = 1
              · rw [decide_eq_true ha]
                have Ha := Lib.hid ha
                clear ha
                go_wp2_with fail
                go_ret2
                exact y_end HRk.out HY3.out HS3.out (by rw [Hkt.out]; rw [if_neg h4, if_pos Ha.out]; rfl)
              · rw [decide_eq_false ha]
                have Ha := Lib.hid ha
                clear ha
                go_wp2_with fail
                go_ret2
                exact y_end HRk.out HY3.out HS3.out (by rw [Hkt.out]; rw [if_neg h4, if_neg Ha.out]; rfl)
          · rw [hK] at e0
            have hkt : kindT fs G x ts = .ok 5 := by
              unfold kindT
              rw [if_neg (show ¬ x.kind = 1 by omega), if_neg (show ¬ x.kind = 2 by omega), if_neg (show ¬ x.kind = 3 by omega), if_neg (show ¬ x.kind = 4 by omega), if_neg (show ¬ x.kind = 5 by omega), if_neg (show ¬ x.kind = 6 by omega), if_neg (show ¬ x.kind = 7 by omega), if_neg (show ¬ x.kind = 8 by omega), if_neg (show ¬ x.kind = 9 by omega), if_neg (show ¬ x.kind = 10 by omega), if_neg (show ¬ x.kind = 11 by omega)]
              try rfl
            have Hkt := Lib.hid hkt
            clear hkt hK
            go_wp2_with fail
            go_ret2
            rw [← HW3.out]
            exact y_end HRk.out HY3.out HS3.out (by rw [Hkt.out]; rfl)
end Go.Proofs.YtaomlfbcfmmhlaaDoor

/-
  Texts joined: RanArm7 RanArm8 RanArm9 RanArm10 RanArm11.
-/
import Derived.Test.YtaomlfbcfmmhlaaJC

/-
  ref.ranOf: arms of the switch: a choice (printed by wip/gen_arms7.py).
-/
namespace Go.Proofs.Ytaomlfbcfmmhlaa
open Go.RowKit Go.Pst
set_option linter.unusedVariables false
set_option linter.unusedSimpArgs false
variable [Old]
set_option maxRecDepth 100000 in
set_option maxHeartbeats 4000000 in
theorem arm_choose (Q : Exit → Act → World → Prop) (ρ : Nat → Option Lab) (t : Array Value) (w : World) (fuel : Int) (m : Bool) (base bp br bs bi g cap : Nat) (s13 v0 v1 vW vL u1 u2 u5 vX : Value) (p : PProg) (limit : Int) (words : List Int) (lines : List ByteArray) (f : Lev) (a : LA) (r : List (Lev × LA)) (i : PInstr) (xs : List Int)
    (h : PreArm ρ t w fuel m base bp br bs bi g cap s13 v0 v1 vW vL u1 u2 u5 p limit words lines f a r i vX xs) (hi : i = instrAt p f) (hx : xs = argsF m f i) (e : i.op = 10) (y k0 k1 : Nat) (ha : i.ars = [(y : Int)]) (hto : i.to = [(k0 : Int), (k1 : Int)])
    (HQ : Hid (∀ t' w', StepPost t' w' fuel m base bp br bs s13 v0 v1 p limit (stepF p m limit (stateOf words lines ((f, a) :: r))) → Q .normal ⟨t', []⟩ w')) :
    ranS25.wp Try.prog Q ⟨t, []⟩ w := by
  obtain ⟨x0, hxs⟩ : ∃ x0, xs = [x0] := by
    rw [hx]
    exact ⟨getI (f.src m i) (y : Int), by simp [argsF, e, ha]⟩
  obtain ⟨g', cap', hv, -, -, hgl, hcell⟩ := h.run.get
  obtain ⟨rfl, -⟩ : g = g' ∧ cap = cap' := by simpa using hv
  have q1 : w.cell? ⟨g, r.length * 6 + 1, none⟩ = some (.slice (some ⟨a.gv, 0, none⟩) f.vars.length f.vars.length) := (hcell 1 _ rfl).1
  have q2 : w.cell? ⟨g, r.length * 6 + 2, none⟩ = some (.slice (some ⟨a.gs, 0, none⟩) f.slots.length f.slots.length) := (hcell 2 _ rfl).1
  have hbl : bi < w.heap.size := (Array.getElem?_eq_some_iff.1 h.box).1
  obtain ⟨q3, z3⟩ : w.cell? ⟨g, r.length * 6 + 3, none⟩ = some (.int .i64 f.block) ∧ w.frozen? ⟨g, r.length * 6 + 3, none⟩ = false := hcell 3 _ rfl
  obtain ⟨q4, z4⟩ : w.cell? ⟨g, r.length * 6 + 4, none⟩ = some (.int .i64 ((f.at_ + 1 : Nat) : Int)) ∧ w.frozen? ⟨g, r.length * 6 + 4, none⟩ = false := hcell 4 _ rfl
  have b0 : w.cell? ⟨bi, 0, none⟩ = some (.int .i64 10) := by simp [World.cell?, h.box, e]
  have b5 : w.cell? ⟨bi, 5, none⟩ = some u5 := by simp [World.cell?, h.box]
  obtain ⟨gX, cX, rfl, hX1, -, hXl, hX2, -⟩ := row_get h.row (i := 0) (u := .int .i64 x0) (by simp [hxs])
  have hXn := h.nx gX hX1
  have hXe : xs.length = 1 := by rw [hxs]; rfl
  obtain ⟨bT, oT, cT, rfl, hT, hT1⟩ : ∃ bT oT cT, u5 = .slice (some ⟨bT, oT, none⟩) 2 cT ∧ w.cell? ⟨bT, oT, none⟩ = some (.int .i64 k0) ∧ w.cell? ⟨bT, oT + 1, none⟩ = some (.int .i64 k1) := by
    obtain ⟨aD, cD, hv, -, -, hh⟩ := rInts_val h.i5
    rw [hto] at hv hh
    obtain ⟨b, o, rfl, hb, -, hc, -⟩ := hh 0 (by simp)
    obtain ⟨b', o', he, -, -, hc', -⟩ := hh 1 (by simp)
    obtain ⟨rfl, rfl⟩ : b = b' ∧ o = o' := by simpa using he
    exact ⟨b, o, cD, hv, hc, hc'⟩
  by_cases hz : x0 = 0
  · have hzd : (x0 == 0) = true := by simp [hz]
    have hst : stepF p m limit (stateOf words lines ((f, a) :: r)) = (0, ⟨words, lines, Lev.goto { f with at_ := f.at_ + 1 } k1 :: r.map (·.1)⟩) := by
      unfold stepF stateOf
      simp only [List.map_cons, ← hi, ← hx, e, hto, hxs]
      show (0, (⟨words, lines, Lev.goto _ (getI [(k0 : Int), (k1 : Int)] (yesF (x0 == 0))) :: _⟩ : Mach)) = _
      rw [hzd]
      rfl
    rw [hst] at HQ
    have hk0 : decide ((k1 : Int) ≥ 0) = true := decide_eq_true (by omega)
    have hc : ∀ w, Calls Try.prog 80 #[.bool true] w (fun e w' => e = .returned (.int .i64 1) ∧ w = w') := fun w => yesNo_any true w
    have Hc := Lib.hid hc
    have H := Lib.hid h
    unfold ranS25
    conv => arg 2; whnf
    rw [frame473 t h.frame.size, h.frame.s2, h.frame.s3, h.frame.s4, h.frame.s8, h.frame.s9, h.s11, h.s12, h.s14, h.s15, h.s17]
    have h13 := h.s13
    subst h13
    rw [hXe]
    clear hc h hcell hv hx hst e hi ha hxs hX1 hXn hXe hto
    go_upto_region 63 with fail
    go_region_held3 (fun w' => w'.cell? ⟨bi, 5, none⟩ = some (.slice (some ⟨bT, oT, none⟩) 2 cT) ∧ w'.cell? ⟨gX, 0, none⟩ = some (.int .i64 x0) ∧ w'.cell? ⟨bT, oT + 1, none⟩ = some (.int .i64 k1)) (go_keep) (first | (go_at_call 80; refine (Hc.out _).mono ?_; rintro e w' ⟨rfl, rfl⟩))
    all_goals go_wp2_with fail
    exact HQ.out _ _ ⟨⟨rfl, rfl, rfl, rfl, rfl, rfl⟩, rfl, rfl, ρ, vW, vL, _, (H.out.run.goto k1).since (Since.drew _ _), by simp⟩
  · have hzd : (x0 == 0) = false := by simp [hz]
    have hst : stepF p m limit (stateOf words lines ((f, a) :: r)) = (0, ⟨words, lines, Lev.goto { f with at_ := f.at_ + 1 } k0 :: r.map (·.1)⟩) := by
      unfold stepF stateOf
      simp only [List.map_cons, ← hi, ← hx, e, hto, hxs]
      show (0, (⟨words, lines, Lev.goto _ (getI [(k0 : Int), (k1 : Int)] (yesF (x0 == 0))) :: _⟩ : Mach)) = _
      rw [hzd]
      rfl
    rw [hst] at HQ
    have hk0 : decide ((k0 : Int) ≥ 0) = true := decide_eq_true (by omega)
    have hc : ∀ w, Calls Try.prog 80 #[.bool false] w (fun e w' => e = .returned (.int .i64 0) ∧ w = w') := fun w => yesNo_any false w
    have Hc := Lib.hid hc
    have H := Lib.hid h
    unfold ranS25
    conv => arg 2; whnf
    rw [frame473 t h.frame.size, h.frame.s2, h.frame.s3, h.frame.s4, h.frame.s8, h.frame.s9, h.s11, h.s12, h.s14, h.s15, h.s17]
    have h13 := h.s13
    subst h13
    rw [hXe]
    clear hc h hcell hv hx hst e hi ha hxs hX1 hXn hXe hto
    go_upto_region 63 with fail
    go_region_held3 (fun w' => w'.cell? ⟨bi, 5, none⟩ = some (.slice (some ⟨bT, oT, none⟩) 2 cT) ∧ w'.cell? ⟨gX, 0, none⟩ = some (.int .i64 x0) ∧ w'.cell? ⟨bT, oT, none⟩ = some (.int .i64 k0)) (go_keep) (first | (go_at_call 80; refine (Hc.out _).mono ?_; rintro e w' ⟨rfl, rfl⟩))
    all_goals go_wp2_with fail
    exact HQ.out _ _ ⟨⟨rfl, rfl, rfl, rfl, rfl, rfl⟩, rfl, rfl, ρ, vW, vL, _, (H.out.run.goto k0).since (Since.drew _ _), by simp⟩
end Go.Proofs.Ytaomlfbcfmmhlaa

/-
  ref.ranOf: arms of the switch: a pick (printed by wip/gen_arms8.py).
-/
namespace Go.Proofs.Ytaomlfbcfmmhlaa
open Go.RowKit Go.Pst
set_option linter.unusedVariables false
set_option linter.unusedSimpArgs false
variable [Old]
set_option maxRecDepth 100000 in
set_option maxHeartbeats 4000000 in
theorem arm_pick (Q : Exit → Act → World → Prop) (ρ : Nat → Option Lab) (t : Array Value) (w : World) (fuel : Int) (m : Bool) (base bp br bs bi g cap : Nat) (s13 v0 v1 vW vL u1 u2 u5 vX : Value) (p : PProg) (limit : Int) (words : List Int) (lines : List ByteArray) (f : Lev) (a : LA) (r : List (Lev × LA)) (i : PInstr) (xs : List Int)
    (h : PreArm ρ t w fuel m base bp br bs bi g cap s13 v0 v1 vW vL u1 u2 u5 p limit words lines f a r i vX xs) (hi : i = instrAt p f) (hx : xs = argsF m f i) (e : i.op = 11) (y n : Nat) (ha : i.ars = [(y : Int)]) (hn : i.to.length = n + 1) (hnn : n ≤ 9223372036854775806) (hge : ∀ x ∈ i.to, 0 ≤ x)
    (HQ : Hid (∀ t' w', StepPost t' w' fuel m base bp br bs s13 v0 v1 p limit (stepF p m limit (stateOf words lines ((f, a) :: r))) → Q .normal ⟨t', []⟩ w')) :
    ranS25.wp Try.prog Q ⟨t, []⟩ w := by
  obtain ⟨x0, hxs⟩ : ∃ x0, xs = [x0] := by
    rw [hx]
    exact ⟨getI (f.src m i) (y : Int), by simp [argsF, e, ha]⟩
  obtain ⟨g', cap', hv, -, -, hgl, hcell⟩ := h.run.get
  obtain ⟨rfl, -⟩ : g = g' ∧ cap = cap' := by simpa using hv
  have q1 : w.cell? ⟨g, r.length * 6 + 1, none⟩ = some (.slice (some ⟨a.gv, 0, none⟩) f.vars.length f.vars.length) := (hcell 1 _ rfl).1
  have q2 : w.cell? ⟨g, r.length * 6 + 2, none⟩ = some (.slice (some ⟨a.gs, 0, none⟩) f.slots.length f.slots.length) := (hcell 2 _ rfl).1
  have hbl : bi < w.heap.size := (Array.getElem?_eq_some_iff.1 h.box).1
  obtain ⟨q3, z3⟩ : w.cell? ⟨g, r.length * 6 + 3, none⟩ = some (.int .i64 f.block) ∧ w.frozen? ⟨g, r.length * 6 + 3, none⟩ = false := hcell 3 _ rfl
  obtain ⟨q4, z4⟩ : w.cell? ⟨g, r.length * 6 + 4, none⟩ = some (.int .i64 ((f.at_ + 1 : Nat) : Int)) ∧ w.frozen? ⟨g, r.length * 6 + 4, none⟩ = false := hcell 4 _ rfl
  have b0 : w.cell? ⟨bi, 0, none⟩ = some (.int .i64 11) := by simp [World.cell?, h.box, e]
  have b5 : w.cell? ⟨bi, 5, none⟩ = some u5 := by simp [World.cell?, h.box]
  obtain ⟨gX, cX, rfl, hX1, -, hXl, hX2, -⟩ := row_get h.row (i := 0) (u := .int .i64 x0) (by simp [hxs])
  have hXn := h.nx gX hX1
  have hXe : xs.length = 1 := by rw [hxs]; rfl
  have tget : ∀ j (hj : j < i.to.length), getI i.to (j : Int) = i.to[j] := fun j hj => by
    unfold getI
    rw [Int.toNat_natCast, List.getD_eq_getElem?_getD, List.getElem?_eq_getElem hj]
    rfl
  obtain ⟨kl, hkl⟩ := Int.eq_ofNat_of_zero_le (hge (i.to[n]'(by omega)) (List.getElem_mem _))
  obtain ⟨bT, oT, cT, rfl, hT⟩ : ∃ bT oT cT, u5 = .slice (some ⟨bT, oT, none⟩) (n + 1) cT ∧ ∀ j (hj : j < i.to.length), w.cell? ⟨bT, oT + j, none⟩ = some (.int .i64 i.to[j]) := by
    obtain ⟨aD, cD, hv, -, -, hh⟩ := rInts_val h.i5
    rw [hn] at hv
    obtain ⟨b, o, rfl, -, -, -, -⟩ := hh 0 (by omega)
    refine ⟨b, o, cD, hv, fun j hj => ?_⟩
    obtain ⟨b', o', he, -, -, hc', -⟩ := hh j hj
    obtain ⟨rfl, rfl⟩ : b = b' ∧ o = o' := by simpa using he
    exact hc'
  have hTl := hT n (by omega)
  rw [hkl] at hTl
  have hn0 : (0 : Int) ≤ n := by omega
  have hn1 : (n : Int) < (n : Int) + 1 := by omega
  have hlast : getI i.to (i.to.length - 1) = kl := by
    rw [show ((i.to.length : Int) - 1) = (n : Int) by omega, tget n (by omega), hkl]
  by_cases hz : 0 ≤ x0 ∧ x0 ≤ n
  · obtain ⟨j, rfl⟩ := Int.eq_ofNat_of_zero_le hz.1
    have hj : j < i.to.length := by omega
    obtain ⟨kj, hkj⟩ := Int.eq_ofNat_of_zero_le (hge i.to[j] (List.getElem_mem _))
    have hTj := hT j hj
    rw [hkj] at hTj
    have hj0 : (0 : Int) ≤ j := by omega
    have hj1 : (j : Int) < (n : Int) + 1 := by omega
    have hb : (decide ((0 : Int) ≤ (j : Int)) && decide ((j : Int) ≤ n)) = true := by simp [hz.2]
    have hif : (if 0 ≤ (j : Int) ∧ (j : Int) ≤ i.to.length - 1 then getI i.to (j : Int) else getI i.to (i.to.length - 1)) = kj := by
      rw [if_pos ⟨hj0, by omega⟩, tget j hj, hkj]
    have hst : stepF p m limit (stateOf words lines ((f, a) :: r)) = (0, ⟨words, lines, Lev.goto { f with at_ := f.at_ + 1 } kj :: r.map (·.1)⟩) := by
      unfold stepF stateOf
      simp only [List.map_cons, ← hi, ← hx, e, hxs]
      show (0, (⟨words, lines, Lev.goto _ (if 0 ≤ (j : Int) ∧ (j : Int) ≤ i.to.length - 1 then getI i.to (j : Int) else getI i.to (i.to.length - 1)) :: _⟩ : Mach)) = _
      rw [hif]
    rw [hst] at HQ
    have hk0 : decide ((kj : Int) ≥ 0) = true := decide_eq_true (by omega)
    have hk1 : decide ((kl : Int) ≥ 0) = true := decide_eq_true (by omega)
    have hwn : IntKind.i64.wrap ((n : Int) + 1 - 1) = n := by rw [Int.add_sub_cancel]; exact IntWalk.i64_in _ (by omega)
    have HB := Lib.hid hb
    have H := Lib.hid h
    unfold ranS25
    conv => arg 2; whnf
    rw [frame473 t h.frame.size, h.frame.s2, h.frame.s3, h.frame.s4, h.frame.s8, h.frame.s9, h.s11, h.s12, h.s14, h.s15, h.s17]
    have h13 := h.s13
    subst h13
    rw [hXe]
    clear h hcell hv hx hst e hi ha hxs hX1 hXn hXe hT tget hge hlast hb hif hn hkl hkj
    go_upto_region 66 with fail
    go_cut [356] from 349 to 356 (fun s356 wx => s356 = .bool true ∧ wx = w.drew)
    case first =>
      go_region_held3 (fun w' => w'.cell? ⟨bi, 5, none⟩ = some (.slice (some ⟨bT, oT, none⟩) (n + 1) cT) ∧ w'.cell? ⟨gX, 0, none⟩ = some (.int .i64 (j : Int))) (go_keep) ((first | (go_at_call 63; refine (refIn_any _ _ _ _).mono ?_; rintro e w' ⟨rfl, rfl⟩)))
      all_goals (go_wp2_with fail; go_meet; refine ⟨?_, rfl⟩; rw [show IntKind.i64.wrap (n : Int) = n from IntWalk.i64_in _ (by omega)]; first | exact congrArg Value.bool (decide_eq_true hz.2) | exact congrArg Value.bool HB.out)
    case rest =>
      obtain ⟨rfl, rfl⟩ := hcut
      go_upto_region 67 with fail
      go_region_held3 (fun w' => w'.cell? ⟨bi, 5, none⟩ = some (.slice (some ⟨bT, oT, none⟩) (n + 1) cT) ∧ w'.cell? ⟨gX, 0, none⟩ = some (.int .i64 (j : Int)) ∧ w'.cell? ⟨bT, oT + j, none⟩ = some (.int .i64 kj)) (go_keep) (fail)
      all_goals go_wp2_with fail
      exact HQ.out _ _ ⟨⟨rfl, rfl, rfl, rfl, rfl, rfl⟩, rfl, rfl, ρ, vW, vL, _, ((H.out.run.goto kj).since (Since.drew _ _)).since (Since.drew _ _), by simp⟩
  · have hb : (decide (0 ≤ x0) && decide (x0 ≤ n)) = false := by
      cases hh : (decide (0 ≤ x0) && decide (x0 ≤ n)) with
      | false => rfl
      | true => exact absurd (by simpa using hh) hz
    have hif : (if 0 ≤ x0 ∧ x0 ≤ i.to.length - 1 then getI i.to x0 else getI i.to (i.to.length - 1)) = kl := by
      rw [if_neg (by omega), hlast]
    have hst : stepF p m limit (stateOf words lines ((f, a) :: r)) = (0, ⟨words, lines, Lev.goto { f with at_ := f.at_ + 1 } kl :: r.map (·.1)⟩) := by
      unfold stepF stateOf
      simp only [List.map_cons, ← hi, ← hx, e, hxs]
      show (0, (⟨words, lines, Lev.goto _ (if 0 ≤ x0 ∧ x0 ≤ i.to.length - 1 then getI i.to x0 else getI i.to (i.to.length - 1)) :: _⟩ : Mach)) = _
      rw [hif]
    rw [hst] at HQ
    have hk0 : decide ((kl : Int) ≥ 0) = true := decide_eq_true (by omega)
    have hk1 : decide ((kl : Int) ≥ 0) = true := decide_eq_true (by omega)
    have hwn : IntKind.i64.wrap ((n : Int) + 1 - 1) = n := by rw [Int.add_sub_cancel]; exact IntWalk.i64_in _ (by omega)
    have HB := Lib.hid hb
    have H := Lib.hid h
    unfold ranS25
    conv => arg 2; whnf
    rw [frame473 t h.frame.size, h.frame.s2, h.frame.s3, h.frame.s4, h.frame.s8, h.frame.s9, h.s11, h.s12, h.s14, h.s15, h.s17]
    have h13 := h.s13
    subst h13
    rw [hXe]
    clear h hcell hv hx hst e hi ha hxs hX1 hXn hXe hT tget hge hlast hb hif hn hkl
    go_upto_region 66 with fail
    go_cut [356] from 349 to 356 (fun s356 wx => s356 = .bool false ∧ wx = w.drew)
    case first =>
      go_region_held3 (fun w' => w'.cell? ⟨bi, 5, none⟩ = some (.slice (some ⟨bT, oT, none⟩) (n + 1) cT) ∧ w'.cell? ⟨gX, 0, none⟩ = some (.int .i64 x0)) (go_keep) ((first | (go_at_call 63; refine (refIn_any _ _ _ _).mono ?_; rintro e w' ⟨rfl, rfl⟩)))
      all_goals (go_wp2_with fail; go_meet; refine ⟨?_, rfl⟩; rw [show IntKind.i64.wrap (n : Int) = n from IntWalk.i64_in _ (by omega)]; first | exact congrArg Value.bool (decide_eq_true hz.2) | exact congrArg Value.bool HB.out)
    case rest =>
      obtain ⟨rfl, rfl⟩ := hcut
      go_wp2_with fail
      exact HQ.out _ _ ⟨⟨rfl, rfl, rfl, rfl, rfl, rfl⟩, rfl, rfl, ρ, vW, vL, _, (H.out.run.goto kl).since (Since.drew _ _), by simp⟩
end Go.Proofs.Ytaomlfbcfmmhlaa

/-
  ref.ranOf: arms of the switch: words taken (printed by wip/gen_arms9.py).
-/
namespace Go.Proofs.Ytaomlfbcfmmhlaa
open Go.RowKit Go.Pst
set_option linter.unusedVariables false
set_option linter.unusedSimpArgs false
variable [Old]
/-- What a turn of the scene leaves. -/
theorem RunAt.nF {ρ : Nat → Option Lab} {w : World} {base bp br bs : Nat} {v0 v1 vW vL vC : Value} {p : PProg} {limit : Int} {words : List Int} {lines : List ByteArray} {fr : List (Lev × LA)}
    (h : RunAt ρ w base bp br bs v0 v1 vW vL vC p limit words lines fr) {k : Nat} (h1 : ρ k ≠ some .s) (h2 : ρ k ≠ some .w) (h3 : ρ k ≠ some .l) : ¬ (k = bs ∨ vW.ownBlock = some k) ∧ ¬ (k = bs ∨ vL.ownBlock = some k) := by
  constructor
  · rintro (e | e)
    · exact h1 (by rw [e]; exact h.ls)
    · exact h2 (h.lw k e)
  · rintro (e | e)
    · exact h1 (by rw [e]; exact h.ls)
    · exact h3 (h.ll k e)

set_option maxRecDepth 100000 in
set_option maxHeartbeats 4000000 in
theorem arm_alloc (Q : Exit → Act → World → Prop) (ρ : Nat → Option Lab) (t : Array Value) (w : World) (fuel : Int) (m : Bool) (base bp br bs bi g cap : Nat) (s13 v0 v1 vW vL u1 u2 u5 vX : Value) (p : PProg) (limit : Int) (words : List Int) (lines : List ByteArray) (f : Lev) (a : LA) (r : List (Lev × LA)) (i : PInstr) (xs : List Int)
    (h : PreArm ρ t w fuel m base bp br bs bi g cap s13 v0 v1 vW vL u1 u2 u5 p limit words lines f a r i vX xs) (hi : i = instrAt p f) (hx : xs = argsF m f i) (e : i.op = 6) (d y : Nat) (hd : i.ds = [(d : Int)]) (hdl : d < f.vars.length) (ha : i.ars = [(y : Int)]) (hxI : ∀ x ∈ xs, InI x) (hwl : words.length ≤ 20000) (hl0 : 0 ≤ limit) (hl : limit ≤ 20000)
    (HQ : Hid (∀ t' w', StepPost t' w' fuel m base bp br bs s13 v0 v1 p limit (stepF p m limit (stateOf words lines ((f, a) :: r))) → Q .normal ⟨t', []⟩ w')) :
    ranS25.wp Try.prog Q ⟨t, []⟩ w := by
  obtain ⟨x0, hxs⟩ : ∃ x0, xs = [x0] := by
    rw [hx]
    exact ⟨getI (f.src m i) (y : Int), by simp [argsF, e, ha]⟩
  have hI0 : InI x0 := hxI x0 (by simp [hxs])
  obtain ⟨g', cap', hv, -, -, hgl, hcell⟩ := h.run.get
  obtain ⟨rfl, -⟩ : g = g' ∧ cap = cap' := by simpa using hv
  have q1 : w.cell? ⟨g, r.length * 6 + 1, none⟩ = some (.slice (some ⟨a.gv, 0, none⟩) f.vars.length f.vars.length) := (hcell 1 _ rfl).1
  have q2 : w.cell? ⟨g, r.length * 6 + 2, none⟩ = some (.slice (some ⟨a.gs, 0, none⟩) f.slots.length f.slots.length) := (hcell 2 _ rfl).1
  have hbl : bi < w.heap.size := (Array.getElem?_eq_some_iff.1 h.box).1
  have b0 : w.cell? ⟨bi, 0, none⟩ = some (.int .i64 6) := by simp [World.cell?, h.box, e]
  have b1 : w.cell? ⟨bi, 1, none⟩ = some u1 := by simp [World.cell?, h.box]
  obtain ⟨bD, oD, cD, rfl, hD1, hD2⟩ : ∃ bD oD cD, u1 = .slice (some ⟨bD, oD, none⟩) 1 cD ∧ bD < base ∧ w.cell? ⟨bD, oD, none⟩ = some (.int .i64 d) := by
    obtain ⟨aD, cD, hv, -, -, hh⟩ := rInts_val h.i1
    rw [hd] at hv hh
    obtain ⟨b, o, rfl, hb, -, hc, -⟩ := hh 0 (by simp)
    exact ⟨b, o, cD, hv, hb, hc⟩
  have hd0 : (0 : Int) ≤ d := by omega
  have hd1 : (d : Int) < f.vars.length := by omega
  obtain ⟨_, _, hv2, -, -, hvl, hvc, hvz⟩ := row_get h.run.levs.1.vars (i := d) (u := .int .i64 f.vars[d]) (by simp [hdl])
  obtain ⟨rfl, -⟩ : a.gv = _ ∧ _ := by simpa using hv2
  obtain ⟨gX, cX, rfl, hX1, -, hXl, hX2, -⟩ := row_get h.row (i := 0) (u := .int .i64 x0) (by simp [hxs])
  have hXn := h.nx gX hX1
  have hXe : xs.length = 1 := by rw [hxs]; rfl
  by_cases h1 : x0 < 0
  · have ht : takeF x0 limit words = (-2, words) := by simp only [takeF, if_pos h1]
    have hst : stepF p m limit (stateOf words lines ((f, a) :: r)) = (2, ⟨words, lines, { f with at_ := f.at_ + 1 } :: r.map (·.1)⟩) := by
      unfold stepF stateOf
      simp only [List.map_cons, ← hi, ← hx, e, hxs]
      show (if (takeF x0 limit words).1 = -1 then _ else if (takeF x0 limit words).1 = -2 then _ else (0, (⟨(takeF x0 limit words).2, lines, Lev.setV _ i (takeF x0 limit words).1 :: _⟩ : Mach))) = _
      rw [ht]
      rw [if_neg (by simp), if_pos rfl]
    rw [hst] at HQ
    have hc := take_any base bs vW vL words limit lines x0 w h.run.scene hI0 hl hl0 hwl h.run.big
    unfold TakePost at hc
    rw [ht] at hc
    have Hc := Lib.hid hc
    have H := Lib.hid h
    unfold ranS25
    conv => arg 2; whnf
    rw [frame473 t h.frame.size, h.frame.s2, h.frame.s3, h.frame.s4, h.frame.s8, h.frame.s9, h.s11, h.s12, h.s14, h.s15, h.s17]
    have h13 := h.s13
    subst h13
    rw [hXe]
    have Hd := Lib.hid hd
    have Hv := Lib.hid (⟨hvl, hvc, hvz⟩ : _ ∧ _ ∧ _)
    clear hc h hcell hv hv2 hx hd hst e hi ha hxs hX1 hXn hXe hvl hvc hvz ht
    go_wp2_with fail
    refine Hc.out.mono ?_
    rintro e w1 ⟨vW1, rfl, sc1, s1, n1⟩
    obtain ⟨ρ1, hr1⟩ := H.out.run.turned s1 (fun k e => e.elim Or.inl (fun e => Or.inr (Or.inl e))) sc1 n1 (fun k e => Or.inl e)
    have Hr1 := Lib.hid hr1
    clear hr1 sc1 s1 n1 Hc
    go_wp2_with fail
    exact HQ.out _ _ ⟨⟨rfl, rfl, rfl, rfl, rfl, rfl⟩, rfl, rfl, ρ1, vW1, vL, _, Hr1.out, by simp⟩
  by_cases h2 : limit - words.length < x0
  · have ht : takeF x0 limit words = (-1, words) := by simp only [takeF, if_neg h1, if_pos h2]
    have hst : stepF p m limit (stateOf words lines ((f, a) :: r)) = (5, ⟨words, lines, { f with at_ := f.at_ + 1 } :: r.map (·.1)⟩) := by
      unfold stepF stateOf
      simp only [List.map_cons, ← hi, ← hx, e, hxs]
      show (if (takeF x0 limit words).1 = -1 then _ else if (takeF x0 limit words).1 = -2 then _ else (0, (⟨(takeF x0 limit words).2, lines, Lev.setV _ i (takeF x0 limit words).1 :: _⟩ : Mach))) = _
      rw [ht]
      rw [if_pos rfl]
    rw [hst] at HQ
    have hc := take_any base bs vW vL words limit lines x0 w h.run.scene hI0 hl hl0 hwl h.run.big
    unfold TakePost at hc
    rw [ht] at hc
    have Hc := Lib.hid hc
    have H := Lib.hid h
    unfold ranS25
    conv => arg 2; whnf
    rw [frame473 t h.frame.size, h.frame.s2, h.frame.s3, h.frame.s4, h.frame.s8, h.frame.s9, h.s11, h.s12, h.s14, h.s15, h.s17]
    have h13 := h.s13
    subst h13
    rw [hXe]
    have Hd := Lib.hid hd
    have Hv := Lib.hid (⟨hvl, hvc, hvz⟩ : _ ∧ _ ∧ _)
    clear hc h hcell hv hv2 hx hd hst e hi ha hxs hX1 hXn hXe hvl hvc hvz ht
    go_wp2_with fail
    refine Hc.out.mono ?_
    rintro e w1 ⟨vW1, rfl, sc1, s1, n1⟩
    obtain ⟨ρ1, hr1⟩ := H.out.run.turned s1 (fun k e => e.elim Or.inl (fun e => Or.inr (Or.inl e))) sc1 n1 (fun k e => Or.inl e)
    have Hr1 := Lib.hid hr1
    clear hr1 sc1 s1 n1 Hc
    go_wp2_with fail
    exact HQ.out _ _ ⟨⟨rfl, rfl, rfl, rfl, rfl, rfl⟩, rfl, rfl, ρ1, vW1, vL, _, Hr1.out, by simp⟩
  · have ht : takeF x0 limit words = ((words.length : Int), words ++ List.replicate x0.toNat 0) := by simp only [takeF, if_neg h1, if_neg h2]
    have hst : stepF p m limit (stateOf words lines ((f, a) :: r)) = (0, ⟨words ++ List.replicate x0.toNat 0, lines, Lev.setV { f with at_ := f.at_ + 1 } i words.length :: r.map (·.1)⟩) := by
      unfold stepF stateOf
      simp only [List.map_cons, ← hi, ← hx, e, hxs]
      show (if (takeF x0 limit words).1 = -1 then _ else if (takeF x0 limit words).1 = -2 then _ else (0, (⟨(takeF x0 limit words).2, lines, Lev.setV _ i (takeF x0 limit words).1 :: _⟩ : Mach))) = _
      rw [ht]
      rw [if_neg (by simp only []; omega), if_neg (by simp only []; omega)]
    rw [hst] at HQ
    have hc := take_any base bs vW vL words limit lines x0 w h.run.scene hI0 hl hl0 hwl h.run.big
    unfold TakePost at hc
    rw [ht] at hc
    have Hc := Lib.hid hc
    have H := Lib.hid h
    unfold ranS25
    conv => arg 2; whnf
    rw [frame473 t h.frame.size, h.frame.s2, h.frame.s3, h.frame.s4, h.frame.s8, h.frame.s9, h.s11, h.s12, h.s14, h.s15, h.s17]
    have h13 := h.s13
    subst h13
    rw [hXe]
    have Hd := Lib.hid hd
    have Hv := Lib.hid (⟨hvl, hvc, hvz⟩ : _ ∧ _ ∧ _)
    clear hc h hcell hv hv2 hx hd hst e hi ha hxs hX1 hXn hXe hvl hvc hvz ht
    go_wp2_with fail
    refine Hc.out.mono ?_
    rintro e w1 ⟨vW1, rfl, sc1, s1, n1⟩
    obtain ⟨ρ1, hr1⟩ := H.out.run.turned s1 (fun k e => e.elim Or.inl (fun e => Or.inr (Or.inl e))) sc1 n1 (fun k e => Or.inl e)
    have hrun := H.out.run
    have ng1 := (hrun.nF (k := g) (by rw [hrun.lc g rfl]; simp) (by rw [hrun.lc g rfl]; simp) (by rw [hrun.lc g rfl]; simp)).1
    have nb1 := (hrun.nF (k := bi) (by rw [H.out.nb]; simp) (by rw [H.out.nb]; simp) (by rw [H.out.nb]; simp)).1
    have nv1 := (hrun.nF (k := a.gv) (by rw [hrun.levs.1.lv]; simp) (by rw [hrun.levs.1.lv]; simp) (by rw [hrun.levs.1.lv]; simp)).1
    have nd1 : ¬ (bD = bs ∨ vW.ownBlock = some bD) := by
      rintro (e | e)
      · have := hrun.scene.lt.1; omega
      · have := (hrun.scene.oW.lt bD e).1; omega
    have hDl : bD < w.heap.size := Nat.lt_of_lt_of_le hD1 hrun.big
    have c1 := (s1.cell (o := r.length * 6 + 1) hgl ng1).trans q1
    have c2 := (s1.cell (o := 1) hbl nb1).trans b1
    have c3 := (s1.cell (o := oD) hDl nd1).trans hD2
    have c4 := (s1.cell (o := d) Hv.out.1 nv1).trans Hv.out.2.1
    have c5 := (s1.frozen (o := d) Hv.out.1 nv1).trans Hv.out.2.2
    have ng : ¬ g = a.gv := fun e => by have h1 := hrun.lc g rfl; rw [e, hrun.levs.1.lv] at h1; simp at h1
    have nbi : ¬ bi = a.gv := fun e => by have h1 := H.out.nb; rw [e, hrun.levs.1.lv] at h1; simp at h1
    have nbD : ¬ bD = a.gv := fun e => by have h1 : base ≤ a.gv := (hrun.levs.1.vars.lt _ rfl).1; omega
    have hk : ∀ b o u, ¬ b = a.gv → (w1.setCell ⟨a.gv, d, none⟩ u).cell? ⟨b, o, none⟩ = w1.cell? ⟨b, o, none⟩ := fun b o u hb => World.cell?_of_block (w := w1) (Below.heap_setCell _ _ _ _ hb)
    have k0 := fun u => (hk g (r.length * 6 + 1) u ng).trans c1
    have k1 := fun u => (hk bi 1 u nbi).trans c2
    have k2 := fun u => (hk bD oD u nbD).trans c3
    have Hr1 := Lib.hid hr1
    clear hk hr1 sc1 s1 n1 Hc q1 b1 hD2 ng1 nb1 nv1 nd1 hrun b0 hX2 q2
    generalize f.vars[d] = old at *
    have hdl2 : decide (((words.length : Nat) : Int) = -1) = false := decide_eq_false (by omega)
    go_upto_region 57 with fail
    go_region_held3 (fun w' => w'.cell? ⟨g, r.length * 6 + 1, none⟩ = some (.slice (some ⟨a.gv, 0, none⟩) f.vars.length f.vars.length) ∧ w'.cell? ⟨bi, 1, none⟩ = some (.slice (some ⟨bD, oD, none⟩) 1 cD) ∧ w'.cell? ⟨bD, oD, none⟩ = some (.int .i64 d)) (go_keep) (fail)
    all_goals go_wp2_with fail
    exact HQ.out _ _ ⟨⟨rfl, rfl, rfl, rfl, rfl, rfl⟩, rfl, rfl, ρ1, vW1, vL, _, (Hr1.out.setV d words.length).since (Since.drew _ _), by simp [Lev.setV, getI, Hd.out]⟩
end Go.Proofs.Ytaomlfbcfmmhlaa

/-
  ref.ranOf: arms of the switch: a line told (printed by wip/gen_arms10.py).
-/
namespace Go.Proofs.Ytaomlfbcfmmhlaa
open Go.RowKit Go.Pst
set_option linter.unusedVariables false
set_option linter.unusedSimpArgs false
variable [Old]
set_option maxRecDepth 100000 in
set_option maxHeartbeats 4000000 in
theorem arm_show1 (Q : Exit → Act → World → Prop) (ρ : Nat → Option Lab) (t : Array Value) (w : World) (fuel : Int) (m : Bool) (base bp br bs bi g cap : Nat) (s13 v0 v1 vW vL u1 u2 u5 vX : Value) (p : PProg) (limit : Int) (words : List Int) (lines : List ByteArray) (f : Lev) (a : LA) (r : List (Lev × LA)) (i : PInstr) (xs : List Int)
    (h : PreArm ρ t w fuel m base bp br bs bi g cap s13 v0 v1 vW vL u1 u2 u5 p limit words lines f a r i vX xs) (hi : i = instrAt p f) (hx : xs = argsF m f i) (e : i.op = 8) (y : Nat) (ha : i.ars = [(y : Int)]) (hxI : ∀ x ∈ xs, InI x) (hwl : words.length ≤ 20000) (hll : lines.length ≤ 2000)
    (HQ : Hid (∀ t' w', StepPost t' w' fuel m base bp br bs s13 v0 v1 p limit (stepF p m limit (stateOf words lines ((f, a) :: r))) → Q .normal ⟨t', []⟩ w')) :
    ranS25.wp Try.prog Q ⟨t, []⟩ w := by
  obtain ⟨x0, hxs⟩ : ∃ x0, xs = [x0] := by
    rw [hx]
    exact ⟨getI (f.src m i) (y : Int), by simp [argsF, e, ha]⟩
  have hI0 : InI x0 := hxI x0 (by simp [hxs])
  have hst : stepF p m limit (stateOf words lines ((f, a) :: r)) = ((sayF i.s x0 x0 words lines).1, ⟨words, (sayF i.s x0 x0 words lines).2, { f with at_ := f.at_ + 1 } :: r.map (·.1)⟩) := by
    unfold stepF stateOf
    simp only [List.map_cons, ← hi, ← hx, e, hxs]
    rfl
  rw [hst] at HQ
  obtain ⟨g', cap', hv, -, -, hgl, hcell⟩ := h.run.get
  obtain ⟨rfl, -⟩ : g = g' ∧ cap = cap' := by simpa using hv
  have q1 : w.cell? ⟨g, r.length * 6 + 1, none⟩ = some (.slice (some ⟨a.gv, 0, none⟩) f.vars.length f.vars.length) := (hcell 1 _ rfl).1
  have q2 : w.cell? ⟨g, r.length * 6 + 2, none⟩ = some (.slice (some ⟨a.gs, 0, none⟩) f.slots.length f.slots.length) := (hcell 2 _ rfl).1
  have hbl : bi < w.heap.size := (Array.getElem?_eq_some_iff.1 h.box).1
  have b0 : w.cell? ⟨bi, 0, none⟩ = some (.int .i64 8) := by simp [World.cell?, h.box, e]
  have b4 : w.cell? ⟨bi, 4, none⟩ = some (.string i.s) := by simp [World.cell?, h.box]
  obtain ⟨gX, cX, rfl, hX1, -, hXl, hX2, -⟩ := row_get h.row (i := 0) (u := .int .i64 x0) (by simp [hxs])
  have hXn := h.nx gX hX1
  have hXe : xs.length = 1 := by rw [hxs]; rfl
  have hrun := h.run
  have ngX := (hrun.nF (k := gX) (by rw [hXn.1]; simp) (by rw [hXn.1]; simp) (by rw [hXn.1]; simp)).2
  have nb1 := (hrun.nF (k := bi) (by rw [h.nb]; simp) (by rw [h.nb]; simp) (by rw [h.nb]; simp)).2
  have hc := say_any base bs vW vL words limit lines i.s x0 x0 w.drew (hrun.scene.since (Since.drew (fun _ => False) _) id (fun _ _ => id) (fun _ _ => id)) hI0 hI0 hwl hll hrun.big
  have Hc := Lib.hid hc
  have H := Lib.hid h
  unfold ranS25
  conv => arg 2; whnf
  rw [frame473 t h.frame.size, h.frame.s2, h.frame.s3, h.frame.s4, h.frame.s8, h.frame.s9, h.s11, h.s12, h.s14, h.s15, h.s17]
  have h13 := h.s13
  subst h13
  rw [hXe]
  have hw1 : IntKind.i64.wrap (1 - 1) = 0 := by decide
  have hw2 : IntKind.i64.wrap 0 = 0 := by decide
  clear hc h hcell hv hx hst e hi ha hxs hX1 hXn hXe hrun
  go_upto_region 59 with fail
  go_region_held3 (fun w' => w'.cell? ⟨bi, 4, none⟩ = some (.string i.s) ∧ w'.cell? ⟨gX, 0, none⟩ = some (.int .i64 x0)) (go_keep) (first | (go_at_call 79; refine Hc.out.mono ?_; rintro e w1 ⟨vL1, rfl, sc1, s1, n1⟩; have z1 := (s1.cell (o := 4) hbl nb1).trans b4; have z2 := (s1.cell (o := 0) hXl ngX).trans hX2; have SC1 := Lib.hid sc1; have S1 := Lib.hid s1; have N1 := Lib.hid n1; clear sc1 s1 n1))
  all_goals (
    have h0 := H.out.run.since (Since.drew (fun _ => False) w)
    obtain ⟨ρ1, hr1⟩ := h0.turned S1.out (fun k e => e.elim Or.inl (fun e => Or.inr (Or.inr e))) SC1.out (fun k e => Or.inl e) N1.out
    have Hr1 := Lib.hid hr1
    clear hr1 h0)
  all_goals go_wp2_with fail
  exact HQ.out _ _ ⟨⟨rfl, rfl, rfl, rfl, rfl, rfl⟩, rfl, rfl, ρ1, vW, vL1, _, Hr1.out, by simp⟩

set_option maxRecDepth 100000 in
set_option maxHeartbeats 4000000 in
theorem arm_show2 (Q : Exit → Act → World → Prop) (ρ : Nat → Option Lab) (t : Array Value) (w : World) (fuel : Int) (m : Bool) (base bp br bs bi g cap : Nat) (s13 v0 v1 vW vL u1 u2 u5 vX : Value) (p : PProg) (limit : Int) (words : List Int) (lines : List ByteArray) (f : Lev) (a : LA) (r : List (Lev × LA)) (i : PInstr) (xs : List Int)
    (h : PreArm ρ t w fuel m base bp br bs bi g cap s13 v0 v1 vW vL u1 u2 u5 p limit words lines f a r i vX xs) (hi : i = instrAt p f) (hx : xs = argsF m f i) (e : i.op = 8) (y z : Nat) (ha : i.ars = [(y : Int), (z : Int)]) (hxI : ∀ x ∈ xs, InI x) (hwl : words.length ≤ 20000) (hll : lines.length ≤ 2000)
    (HQ : Hid (∀ t' w', StepPost t' w' fuel m base bp br bs s13 v0 v1 p limit (stepF p m limit (stateOf words lines ((f, a) :: r))) → Q .normal ⟨t', []⟩ w')) :
    ranS25.wp Try.prog Q ⟨t, []⟩ w := by
  obtain ⟨x0, x1, hxs⟩ : ∃ x0 x1, xs = [x0 , x1] := by
    rw [hx]
    exact ⟨getI (f.src m i) (y : Int), getI (f.src m i) (z : Int), by simp [argsF, e, ha]⟩
  have hI0 : InI x0 := hxI x0 (by simp [hxs])
  have hI1 : InI x1 := hxI x1 (by simp [hxs])
  have hst : stepF p m limit (stateOf words lines ((f, a) :: r)) = ((sayF i.s x0 x1 words lines).1, ⟨words, (sayF i.s x0 x1 words lines).2, { f with at_ := f.at_ + 1 } :: r.map (·.1)⟩) := by
    unfold stepF stateOf
    simp only [List.map_cons, ← hi, ← hx, e, hxs]
    rfl
  rw [hst] at HQ
  obtain ⟨g', cap', hv, -, -, hgl, hcell⟩ := h.run.get
  obtain ⟨rfl, -⟩ : g = g' ∧ cap = cap' := by simpa using hv
  have q1 : w.cell? ⟨g, r.length * 6 + 1, none⟩ = some (.slice (some ⟨a.gv, 0, none⟩) f.vars.length f.vars.length) := (hcell 1 _ rfl).1
  have q2 : w.cell? ⟨g, r.length * 6 + 2, none⟩ = some (.slice (some ⟨a.gs, 0, none⟩) f.slots.length f.slots.length) := (hcell 2 _ rfl).1
  have hbl : bi < w.heap.size := (Array.getElem?_eq_some_iff.1 h.box).1
  have b0 : w.cell? ⟨bi, 0, none⟩ = some (.int .i64 8) := by simp [World.cell?, h.box, e]
  have b4 : w.cell? ⟨bi, 4, none⟩ = some (.string i.s) := by simp [World.cell?, h.box]
  obtain ⟨gX, cX, rfl, hX1, -, hXl, hX2, -⟩ := row_get h.row (i := 0) (u := .int .i64 x0) (by simp [hxs])
  have hX3 : w.cell? ⟨gX, 1, none⟩ = some (.int .i64 x1) := by
    obtain ⟨_, _, hv3, -, -, -, hc3, -⟩ := row_get h.row (i := 1) (u := .int .i64 x1) (by simp [hxs])
    obtain ⟨rfl, -⟩ : gX = _ ∧ _ := by simpa using hv3
    exact hc3
  have hXn := h.nx gX hX1
  have hXe : xs.length = 2 := by rw [hxs]; rfl
  have hrun := h.run
  have ngX := (hrun.nF (k := gX) (by rw [hXn.1]; simp) (by rw [hXn.1]; simp) (by rw [hXn.1]; simp)).2
  have nb1 := (hrun.nF (k := bi) (by rw [h.nb]; simp) (by rw [h.nb]; simp) (by rw [h.nb]; simp)).2
  have hc := say_any base bs vW vL words limit lines i.s x0 x1 w.drew (hrun.scene.since (Since.drew (fun _ => False) _) id (fun _ _ => id) (fun _ _ => id)) hI0 hI1 hwl hll hrun.big
  have Hc := Lib.hid hc
  have H := Lib.hid h
  unfold ranS25
  conv => arg 2; whnf
  rw [frame473 t h.frame.size, h.frame.s2, h.frame.s3, h.frame.s4, h.frame.s8, h.frame.s9, h.s11, h.s12, h.s14, h.s15, h.s17]
  have h13 := h.s13
  subst h13
  rw [hXe]
  have hw1 : IntKind.i64.wrap (2 - 1) = 1 := by decide
  have hw2 : IntKind.i64.wrap 1 = 1 := by decide
  clear hc h hcell hv hx hst e hi ha hxs hX1 hXn hXe hrun
  go_upto_region 59 with fail
  go_region_held3 (fun w' => w'.cell? ⟨bi, 4, none⟩ = some (.string i.s) ∧ w'.cell? ⟨gX, 0, none⟩ = some (.int .i64 x0) ∧ w'.cell? ⟨gX, 1, none⟩ = some (.int .i64 x1)) (go_keep) (first | (go_at_call 79; refine Hc.out.mono ?_; rintro e w1 ⟨vL1, rfl, sc1, s1, n1⟩; have z1 := (s1.cell (o := 4) hbl nb1).trans b4; have z2 := (s1.cell (o := 0) hXl ngX).trans hX2; have z3 := (s1.cell (o := 1) hXl ngX).trans hX3; have SC1 := Lib.hid sc1; have S1 := Lib.hid s1; have N1 := Lib.hid n1; clear sc1 s1 n1))
  all_goals (
    have h0 := H.out.run.since (Since.drew (fun _ => False) w)
    obtain ⟨ρ1, hr1⟩ := h0.turned S1.out (fun k e => e.elim Or.inl (fun e => Or.inr (Or.inr e))) SC1.out (fun k e => Or.inl e) N1.out
    have Hr1 := Lib.hid hr1
    clear hr1 h0)
  all_goals go_wp2_with fail
  exact HQ.out _ _ ⟨⟨rfl, rfl, rfl, rfl, rfl, rfl⟩, rfl, rfl, ρ1, vW, vL1, _, Hr1.out, by simp⟩

end Go.Proofs.Ytaomlfbcfmmhlaa

/-
  ref.ranOf: arms of the switch: a return (printed by wip/gen_arms11.py).
-/
namespace Go.Proofs.Ytaomlfbcfmmhlaa
open Go.RowKit Go.Pst
set_option linter.unusedVariables false
set_option linter.unusedSimpArgs false
theorem putAll_snoc : ∀ (l ds vs : List Int) (n : Nat) (h1 : n < ds.length) (h2 : n < vs.length), putAll l (ds.take (n + 1)) (vs.take (n + 1)) = (putAll l (ds.take n) (vs.take n)).set (ds[n]).toNat vs[n]
  | l, d :: ds, v :: vs, 0, _, _ => by simp [putAll]
  | l, d :: ds, v :: vs, n + 1, h1, h2 => by
    simp only [List.take_succ_cons, List.getElem_cons_succ]
    exact putAll_snoc (l.set d.toNat v) ds vs n (by simpa using h1) (by simpa using h2)
theorem wants_shape {ρ : Nat → Option Lab} {w : World} {base i : Nat} {f : Lev} {a : LA} (h : LevAt ρ w base i f a) : ∃ aW cW, a.vw = .slice aW f.want.length cW ∧ ∀ j (hj : j < f.want.length), ∃ b o, aW = some ⟨b, o, none⟩ ∧ b < base ∧ b < w.heap.size ∧ w.cell? ⟨b, o + j, none⟩ = some (.int .i64 f.want[j]) := by
  obtain ⟨aW, cW, hv, -, -, hh⟩ := rInts_val h.want
  refine ⟨aW, cW, hv, fun j hj => ?_⟩
  obtain ⟨b, o, h1, h2, h3, h4, -⟩ := hh j hj
  exact ⟨b, o, h1, h2, h3, h4⟩

variable [Old]
set_option maxRecDepth 100000 in
set_option maxHeartbeats 4000000 in
theorem arm_back0 (Q : Exit → Act → World → Prop) (ρ : Nat → Option Lab) (t : Array Value) (w : World) (fuel : Int) (m : Bool) (base bp br bs bi g cap : Nat) (s13 v0 v1 vW vL u1 u2 u5 vX : Value) (p : PProg) (limit : Int) (words : List Int) (lines : List ByteArray) (f : Lev) (a : LA) (r : List (Lev × LA)) (i : PInstr) (xs : List Int)
    (h : PreArm ρ t w fuel m base bp br bs bi g cap s13 v0 v1 vW vL u1 u2 u5 p limit words lines f a r i vX xs) (hi : i = instrAt p f) (hx : xs = argsF m f i) (e : i.op = 12) (hr : r = [])
    (HQ : Hid (∀ t' w', StepPost t' w' fuel m base bp br bs s13 v0 v1 p limit (stepF p m limit (stateOf words lines ((f, a) :: r))) → Q .normal ⟨t', []⟩ w')) :
    ranS25.wp Try.prog Q ⟨t, []⟩ w := by
  subst hr
  have hst : stepF p m limit (stateOf words lines ((f, a) :: [])) = (1, ⟨words, lines, []⟩) := by
    unfold stepF stateOf
    simp only [List.map_cons, List.map_nil, ← hi, ← hx, e]
    rfl
  rw [hst] at HQ
  obtain ⟨g', cap', hv, hcap, -, hgl, hcell⟩ := h.run.get
  obtain ⟨rfl, rfl⟩ : g = g' ∧ cap = cap' := by simpa using hv
  obtain ⟨aW, cW, hvw, -⟩ := wants_shape h.run.levs.1
  have q5 : w.cell? ⟨g, 5, none⟩ = some (.slice aW f.want.length cW) := by have := (hcell 5 _ rfl).1; rw [hvw] at this; simpa using this
  have hbl : bi < w.heap.size := (Array.getElem?_eq_some_iff.1 h.box).1
  have hb0 : w.cell? ⟨bi, 0, none⟩ = some (.int .i64 12) := by simp [World.cell?, h.box, e]
  have hcap1 : (1 : Nat) ≤ cap := by simpa using hcap
  have h11 : slotOf t 11 = .slice (some ⟨g, 0, none⟩) 1 cap := by simpa using h.s11
  have h14 : slotOf t 14 = .pointer (some ⟨g, 0, none⟩) := by simpa using h.s14
  have H := Lib.hid h
  unfold ranS25
  conv => arg 2; whnf
  rw [frame473 t h.frame.size, h.frame.s2, h.frame.s3, h.frame.s4, h.frame.s8, h.frame.s9, h11, h.s12, h14, h.s15, h.s17]
  have h13 := h.s13
  subst h13
  clear h hcell hv hx hst e hi hvw h11 h14 hcap
  go_wp2_with fail
  exact HQ.out _ _ ⟨⟨rfl, rfl, rfl, rfl, rfl, rfl⟩, rfl, rfl, ρ, vW, vL, [], H.out.run.pop, rfl⟩

set_option maxRecDepth 100000 in
set_option maxHeartbeats 4000000 in
theorem arm_back_false (Q : Exit → Act → World → Prop) (ρ : Nat → Option Lab) (t : Array Value) (w : World) (fuel : Int) (base bp br bs bi g cap : Nat) (s13 v0 v1 vW vL u1 u2 u5 vX : Value) (p : PProg) (limit : Int) (words : List Int) (lines : List ByteArray) (f : Lev) (a : LA) (r : List (Lev × LA)) (i : PInstr) (xs : List Int)
    (h : PreArm ρ t w fuel false base bp br bs bi g cap s13 v0 v1 vW vL u1 u2 u5 p limit words lines f a r i vX xs) (hi : i = instrAt p f) (hx : xs = argsF false f i) (e : i.op = 12) (f1 : Lev) (a1 : LA) (r' : List (Lev × LA)) (hr : r = (f1, a1) :: r') (hwl : f.want.length = xs.length) (hwl2 : xs.length ≤ 40000) (hlen : r'.length ≤ 100000) (hwi : Ins f.want f1.vars.length)
    (HQ : Hid (∀ t' w', StepPost t' w' fuel false base bp br bs s13 v0 v1 p limit (stepF p false limit (stateOf words lines ((f, a) :: r))) → Q .normal ⟨t', []⟩ w')) :
    ranS25.wp Try.prog Q ⟨t, []⟩ w := by
  subst hr
  have hst : stepF p false limit (stateOf words lines ((f, a) :: (f1, a1) :: r')) = (0, ⟨words, lines, { f1 with vars := putAll f1.vars f.want xs } :: r'.map (·.1)⟩) := by
    unfold stepF stateOf
    simp only [List.map_cons, ← hi, ← hx, e]
    rfl
  rw [hst] at HQ
  obtain ⟨g', cap', hv, hcap, -, hgl, hcell⟩ := h.run.get
  obtain ⟨rfl, rfl⟩ : g = g' ∧ cap = cap' := by simpa using hv
  obtain ⟨aW, cW, hvw, hW⟩ := wants_shape h.run.levs.1
  have q5 : w.cell? ⟨g, (r'.length + 1) * 6 + 5, none⟩ = some (.slice aW f.want.length cW) := by have := (hcell 5 _ rfl).1; rw [hvw] at this; simpa using this
  have hb0 : w.cell? ⟨bi, 0, none⟩ = some (.int .i64 12) := by simp [World.cell?, h.box, e]
  have hpop := h.run.pop
  obtain ⟨g2, cap2, hv2, -, -, -, hcell2⟩ := hpop.get
  obtain ⟨rfl, rfl⟩ : g = g2 ∧ cap = cap2 := by simpa using hv2
  have p1 : w.cell? ⟨g, r'.length * 6 + 1, none⟩ = some (.slice (some ⟨a1.gv, 0, none⟩) f1.vars.length f1.vars.length) := (hcell2 1 _ rfl).1
  have p2 : w.cell? ⟨g, r'.length * 6 + 2, none⟩ = some (.slice (some ⟨a1.gs, 0, none⟩) f1.slots.length f1.slots.length) := (hcell2 2 _ rfl).1
  have hcap1 : r'.length + 1 + 1 ≤ cap := by simpa using hcap
  have h11 : slotOf t 11 = .slice (some ⟨g, 0, none⟩) (r'.length + 1 + 1) cap := by simpa using h.s11
  have h14 : slotOf t 14 = .pointer (some ⟨g, (r'.length + 1) * 6, none⟩) := by simpa using h.s14
  obtain ⟨aX, cX, rfl, hX1, hX2⟩ := row_slice h.row
  have hrow := h.row
  have hnx := h.nx
  have H := Lib.hid h
  have HP := Lib.hid hpop
  unfold ranS25
  conv => arg 2; whnf
  rw [frame473 t h.frame.size, h.frame.s2, h.frame.s3, h.frame.s4, h.frame.s8, h.frame.s9, h11, h.s12, h14, h.s15, h.s17]
  have h13 := h.s13
  subst h13
  have Hrow := Lib.hid hrow
  have Hnx := Lib.hid hnx
  have HW := Lib.hid hW
  have Hwl := Lib.hid hwl
  have Hwi := Lib.hid hwi
  have hr0 := h.run.big
  rw [hwl] at q5
  have hcr : r'.length ≤ 100000 := hlen
  clear h hcell hv hx hst e hi hvw h11 h14 hcap hpop hv2 hcell2 hrow hnx hW hwl hwi
  go_upto_region 90 with fail
  go_loopw [31] (fun s wr => ∃ n : Nat, n ≤ xs.length ∧ s = .int .i64 n ∧ Since (fun k => k = a1.gv) w wr ∧ RunAt ρ wr base bp br bs v0 v1 vW vL (.slice (some ⟨g, 0, none⟩) (r'.length + 1) cap) p limit words lines (({ f1 with vars := putAll f1.vars (f.want.take n) (xs.take n) }, a1) :: r')) (fun s _ => xs.length - (intOf s).toNat)
  case atStart => exact ⟨0, Nat.zero_le _, rfl, Since.refl _ _, HP.out⟩
  case round =>
    obtain ⟨n, hn, rfl, hs1, hR⟩ := hrel
    by_cases hlt : n < xs.length
    · have hlt1 : (n : Int) < xs.length := by omega
      have hn0 : (0 : Int) ≤ n := by omega
      have hltW : n < f.want.length := by rw [Hwl.out]; exact hlt
      obtain ⟨bW, oW, rfl, hbW, hbWl, hcW0⟩ := HW.out n hltW
      have hin := Hwi.out _ (List.getElem_mem hltW)
      obtain ⟨d, hd⟩ := Int.eq_ofNat_of_zero_le hin.1
      have hdl : d < f1.vars.length := by omega
      have hdl1 : (d : Int) < f1.vars.length := by omega
      have hd0 : (0 : Int) ≤ d := by omega
      have hgb : base ≤ a1.gv := (hR.levs.1.vars.lt _ rfl).1
      have nW : ¬ bW = a1.gv := by omega
      rw [hd] at hcW0
      have hcW : wr.cell? ⟨bW, oW + n, none⟩ = some (.int .i64 d) := (hs1.cell hbWl nW).trans hcW0
      obtain ⟨gX, cX', hvX, hX3, -, hXl, hcX0, -⟩ := row_get Hrow.out (i := n) (u := .int .i64 xs[n]) (by simp [hlt])
      obtain rfl : aX = some ⟨gX, 0, none⟩ := (Value.slice.inj hvX).1
      have hXn := Hnx.out gX rfl
      have nX : ¬ gX = a1.gv := fun e => by have h1 := hXn.1; rw [e, hR.levs.1.lv] at h1; simp at h1
      have hcX : wr.cell? ⟨gX, n, none⟩ = some (.int .i64 xs[n]) := (hs1.cell hXl nX).trans hcX0
      have hpl : (putAll f1.vars (f.want.take n) (xs.take n)).length = f1.vars.length := putAll_length _ _ _
      obtain ⟨_, _, hvT, -, -, -, hcT, hzT⟩ := row_get hR.levs.1.vars (i := d) (u := .int .i64 ((putAll f1.vars (f.want.take n) (xs.take n))[d]'(by omega))) (by simp [hpl, hdl])
      obtain ⟨rfl, -⟩ : a1.gv = _ ∧ _ := by simpa using hvT
      have hk : ∀ b o u, ¬ b = a1.gv → (wr.setCell ⟨a1.gv, d, none⟩ u).cell? ⟨b, o, none⟩ = wr.cell? ⟨b, o, none⟩ := fun b o u hb => World.cell?_of_block (w := wr) (Below.heap_setCell _ _ _ _ hb)
      have k0 := fun u => (hk bW (oW + n) u nW).trans hcW
      have k1 := fun u => (hk gX n u nX).trans hcX
      have HN := Lib.hid (show ({ f1 with vars := (putAll f1.vars (f.want.take n) (xs.take n)).set d xs[n] } : Lev) = { f1 with vars := putAll f1.vars (f.want.take (n + 1)) (xs.take (n + 1)) } by rw [putAll_snoc _ _ _ _ hltW hlt, hd]; rfl)
      have HR := Lib.hid (hR.setV d xs[n])
      have HS := Lib.hid hs1
      generalize (putAll f1.vars (f.want.take n) (xs.take n))[d] = old at *
      clear hR hs1 hk hvT hpl hXn hvX hcX0 hcW0 hin hd nW nX
      generalize hxn : xs[n] = xn at *
      go_upto_region 92 with fail
      go_region_held3 (fun w' => w'.cell? ⟨bW, oW + n, none⟩ = some (.int .i64 d) ∧ w'.cell? ⟨gX, n, none⟩ = some (.int .i64 xn)) (go_keep) (fail)
      all_goals go_wp2_with fail
      refine ⟨⟨n + 1, by omega, by simp, ?_, ?_⟩, by simp only [intOf]; omega⟩
      · exact (HS.out.trans (Since.setCell wr ⟨a1.gv, d, none⟩ (.int .i64 xn))).trans (Since.drew _ _)
      · rw [← HN.out]
        exact HR.out.since (Since.drew _ _)
    · have hne : n = xs.length := by omega
      subst hne
      have hlt1 : ¬ ((xs.length : Int) < xs.length) := by omega
      have HR := Lib.hid hR
      have HE := Lib.hid (show putAll f1.vars (f.want.take xs.length) (xs.take xs.length) = putAll f1.vars f.want xs by rw [List.take_length, ← Hwl.out, List.take_length])
      clear hR hs1 hlt
      go_wp2_with fail
      refine HQ.out _ _ ⟨⟨rfl, rfl, rfl, rfl, rfl, rfl⟩, rfl, rfl, ρ, vW, vL, _, HR.out, ?_⟩
      rw [HE.out]
      rfl

set_option maxRecDepth 100000 in
set_option maxHeartbeats 4000000 in
theorem arm_back_true (Q : Exit → Act → World → Prop) (ρ : Nat → Option Lab) (t : Array Value) (w : World) (fuel : Int) (base bp br bs bi g cap : Nat) (s13 v0 v1 vW vL u1 u2 u5 vX : Value) (p : PProg) (limit : Int) (words : List Int) (lines : List ByteArray) (f : Lev) (a : LA) (r : List (Lev × LA)) (i : PInstr) (xs : List Int)
    (h : PreArm ρ t w fuel true base bp br bs bi g cap s13 v0 v1 vW vL u1 u2 u5 p limit words lines f a r i vX xs) (hi : i = instrAt p f) (hx : xs = argsF true f i) (e : i.op = 12) (f1 : Lev) (a1 : LA) (r' : List (Lev × LA)) (hr : r = (f1, a1) :: r') (hwl : f.want.length = xs.length) (hwl2 : xs.length ≤ 40000) (hlen : r'.length ≤ 100000) (hwi : Ins f.want f1.slots.length)
    (HQ : Hid (∀ t' w', StepPost t' w' fuel true base bp br bs s13 v0 v1 p limit (stepF p true limit (stateOf words lines ((f, a) :: r))) → Q .normal ⟨t', []⟩ w')) :
    ranS25.wp Try.prog Q ⟨t, []⟩ w := by
  subst hr
  have hst : stepF p true limit (stateOf words lines ((f, a) :: (f1, a1) :: r')) = (0, ⟨words, lines, { f1 with slots := putAll f1.slots f.want xs } :: r'.map (·.1)⟩) := by
    unfold stepF stateOf
    simp only [List.map_cons, ← hi, ← hx, e]
    rfl
  rw [hst] at HQ
  obtain ⟨g', cap', hv, hcap, -, hgl, hcell⟩ := h.run.get
  obtain ⟨rfl, rfl⟩ : g = g' ∧ cap = cap' := by simpa using hv
  obtain ⟨aW, cW, hvw, hW⟩ := wants_shape h.run.levs.1
  have q5 : w.cell? ⟨g, (r'.length + 1) * 6 + 5, none⟩ = some (.slice aW f.want.length cW) := by have := (hcell 5 _ rfl).1; rw [hvw] at this; simpa using this
  have hb0 : w.cell? ⟨bi, 0, none⟩ = some (.int .i64 12) := by simp [World.cell?, h.box, e]
  have hpop := h.run.pop
  obtain ⟨g2, cap2, hv2, -, -, -, hcell2⟩ := hpop.get
  obtain ⟨rfl, rfl⟩ : g = g2 ∧ cap = cap2 := by simpa using hv2
  have p1 : w.cell? ⟨g, r'.length * 6 + 1, none⟩ = some (.slice (some ⟨a1.gv, 0, none⟩) f1.vars.length f1.vars.length) := (hcell2 1 _ rfl).1
  have p2 : w.cell? ⟨g, r'.length * 6 + 2, none⟩ = some (.slice (some ⟨a1.gs, 0, none⟩) f1.slots.length f1.slots.length) := (hcell2 2 _ rfl).1
  have hcap1 : r'.length + 1 + 1 ≤ cap := by simpa using hcap
  have h11 : slotOf t 11 = .slice (some ⟨g, 0, none⟩) (r'.length + 1 + 1) cap := by simpa using h.s11
  have h14 : slotOf t 14 = .pointer (some ⟨g, (r'.length + 1) * 6, none⟩) := by simpa using h.s14
  obtain ⟨aX, cX, rfl, hX1, hX2⟩ := row_slice h.row
  have hrow := h.row
  have hnx := h.nx
  have H := Lib.hid h
  have HP := Lib.hid hpop
  unfold ranS25
  conv => arg 2; whnf
  rw [frame473 t h.frame.size, h.frame.s2, h.frame.s3, h.frame.s4, h.frame.s8, h.frame.s9, h11, h.s12, h14, h.s15, h.s17]
  have h13 := h.s13
  subst h13
  have Hrow := Lib.hid hrow
  have Hnx := Lib.hid hnx
  have HW := Lib.hid hW
  have Hwl := Lib.hid hwl
  have Hwi := Lib.hid hwi
  have hr0 := h.run.big
  rw [hwl] at q5
  have hcr : r'.length ≤ 100000 := hlen
  clear h hcell hv hx hst e hi hvw h11 h14 hcap hpop hv2 hcell2 hrow hnx hW hwl hwi
  go_upto_region 90 with fail
  go_loopw [31] (fun s wr => ∃ n : Nat, n ≤ xs.length ∧ s = .int .i64 n ∧ Since (fun k => k = a1.gs) w wr ∧ RunAt ρ wr base bp br bs v0 v1 vW vL (.slice (some ⟨g, 0, none⟩) (r'.length + 1) cap) p limit words lines (({ f1 with slots := putAll f1.slots (f.want.take n) (xs.take n) }, a1) :: r')) (fun s _ => xs.length - (intOf s).toNat)
  case atStart => exact ⟨0, Nat.zero_le _, rfl, Since.refl _ _, HP.out⟩
  case round =>
    obtain ⟨n, hn, rfl, hs1, hR⟩ := hrel
    by_cases hlt : n < xs.length
    · have hlt1 : (n : Int) < xs.length := by omega
      have hn0 : (0 : Int) ≤ n := by omega
      have hltW : n < f.want.length := by rw [Hwl.out]; exact hlt
      obtain ⟨bW, oW, rfl, hbW, hbWl, hcW0⟩ := HW.out n hltW
      have hin := Hwi.out _ (List.getElem_mem hltW)
      obtain ⟨d, hd⟩ := Int.eq_ofNat_of_zero_le hin.1
      have hdl : d < f1.slots.length := by omega
      have hdl1 : (d : Int) < f1.slots.length := by omega
      have hd0 : (0 : Int) ≤ d := by omega
      have hgb : base ≤ a1.gs := (hR.levs.1.slots.lt _ rfl).1
      have nW : ¬ bW = a1.gs := by omega
      rw [hd] at hcW0
      have hcW : wr.cell? ⟨bW, oW + n, none⟩ = some (.int .i64 d) := (hs1.cell hbWl nW).trans hcW0
      obtain ⟨gX, cX', hvX, hX3, -, hXl, hcX0, -⟩ := row_get Hrow.out (i := n) (u := .int .i64 xs[n]) (by simp [hlt])
      obtain rfl : aX = some ⟨gX, 0, none⟩ := (Value.slice.inj hvX).1
      have hXn := Hnx.out gX rfl
      have nX : ¬ gX = a1.gs := fun e => by have h1 := hXn.1; rw [e, hR.levs.1.lt] at h1; simp at h1
      have hcX : wr.cell? ⟨gX, n, none⟩ = some (.int .i64 xs[n]) := (hs1.cell hXl nX).trans hcX0
      have hpl : (putAll f1.slots (f.want.take n) (xs.take n)).length = f1.slots.length := putAll_length _ _ _
      obtain ⟨_, _, hvT, -, -, -, hcT, hzT⟩ := row_get hR.levs.1.slots (i := d) (u := .int .i64 ((putAll f1.slots (f.want.take n) (xs.take n))[d]'(by omega))) (by simp [hpl, hdl])
      obtain ⟨rfl, -⟩ : a1.gs = _ ∧ _ := by simpa using hvT
      have hk : ∀ b o u, ¬ b = a1.gs → (wr.setCell ⟨a1.gs, d, none⟩ u).cell? ⟨b, o, none⟩ = wr.cell? ⟨b, o, none⟩ := fun b o u hb => World.cell?_of_block (w := wr) (Below.heap_setCell _ _ _ _ hb)
      have k0 := fun u => (hk bW (oW + n) u nW).trans hcW
      have k1 := fun u => (hk gX n u nX).trans hcX
      have HN := Lib.hid (show ({ f1 with slots := (putAll f1.slots (f.want.take n) (xs.take n)).set d xs[n] } : Lev) = { f1 with slots := putAll f1.slots (f.want.take (n + 1)) (xs.take (n + 1)) } by rw [putAll_snoc _ _ _ _ hltW hlt, hd]; rfl)
      have HR := Lib.hid (hR.setS d xs[n])
      have HS := Lib.hid hs1
      generalize (putAll f1.slots (f.want.take n) (xs.take n))[d] = old at *
      clear hR hs1 hk hvT hpl hXn hvX hcX0 hcW0 hin hd nW nX
      generalize hxn : xs[n] = xn at *
      go_upto_region 92 with fail
      go_region_held3 (fun w' => w'.cell? ⟨bW, oW + n, none⟩ = some (.int .i64 d) ∧ w'.cell? ⟨gX, n, none⟩ = some (.int .i64 xn)) (go_keep) (fail)
      all_goals go_wp2_with fail
      refine ⟨⟨n + 1, by omega, by simp, ?_, ?_⟩, by simp only [intOf]; omega⟩
      · exact (HS.out.trans (Since.setCell wr ⟨a1.gs, d, none⟩ (.int .i64 xn))).trans (Since.drew _ _)
      · rw [← HN.out]
        exact HR.out.since (Since.drew _ _)
    · have hne : n = xs.length := by omega
      subst hne
      have hlt1 : ¬ ((xs.length : Int) < xs.length) := by omega
      have HR := Lib.hid hR
      have HE := Lib.hid (show putAll f1.slots (f.want.take xs.length) (xs.take xs.length) = putAll f1.slots f.want xs by rw [List.take_length, ← Hwl.out, List.take_length])
      clear hR hs1 hlt
      go_wp2_with fail
      refine HQ.out _ _ ⟨⟨rfl, rfl, rfl, rfl, rfl, rfl⟩, rfl, rfl, ρ, vW, vL, _, HR.out, ?_⟩
      rw [HE.out]
      rfl

end Go.Proofs.Ytaomlfbcfmmhlaa

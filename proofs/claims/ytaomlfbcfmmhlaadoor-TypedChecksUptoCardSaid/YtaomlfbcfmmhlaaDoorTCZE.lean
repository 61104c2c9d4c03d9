/-
  Texts joined: YOps.
-/
import Derived.Test.YtaomlfbcfmmhlaaDoorTCZC
import Derived.Test.YtaomlfbcfmmhlaaDoorTCZD
import Derived.Deep.RegionHeld3
import Derived.Maps.AppendAt
import Derived.RegionTactic
import Derived.BigRegion
import Derived.Deep.RegionLaw
import Derived.Deep.AppendLies

/-
  posternref's typer: typeOf, enter, leave, name: contracts.
-/
namespace Go.Proofs.YtaomlfbcfmmhlaaDoor
open Go.RowKit Go.Pst
set_option linter.unusedVariables false
set_option linter.unusedSimpArgs false

theorem YAt.names {w : World} {base by_ : Nat} {vf : Value} {cf : List Value} {V : Fin 3 → Value} {G : List Scope} {l d : Int} (h : YAt w base by_ vf cf V (YSt.of G l d)) : w.ownsRow base 9 1 (V 0) (flatG G).length ((flatG G).map fun p => Value.string p.1) := by
  have := h.rows 0
  simpa [yVals, YSt.of, yTy, Function.comp_def] using this
theorem YAt.types {w : World} {base by_ : Nat} {vf : Value} {cf : List Value} {V : Fin 3 → Value} {G : List Scope} {l d : Int} (h : YAt w base by_ vf cf V (YSt.of G l d)) : w.ownsRow base 3 1 (V 1) (flatG G).length ((flatG G).map fun p => Value.int .i64 p.2) := by
  have := h.rows 1
  simpa [yVals, YSt.of, yTy, Function.comp_def] using this
theorem YAt.marks {w : World} {base by_ : Nat} {vf : Value} {cf : List Value} {V : Fin 3 → Value} {G : List Scope} {l d : Int} (h : YAt w base by_ vf cf V (YSt.of G l d)) : w.ownsRow base 3 1 (V 2) G.length ((marksG G).map (Value.int .i64)) := by
  have := h.rows 2
  simpa [yVals, YSt.of, yTy, Function.comp_def, marksG_length] using this

def typeOfT (G : List Scope) (s : ByteArray) : Int × Int := match findT G s with | some t => (t, 0) | none => (0, 6)
set_option maxHeartbeats 1000000 in
theorem yTypeOf_any {w : World} {base by_ : Nat} {vf : Value} {cf : List Value} {V : Fin 3 → Value} {G : List Scope} {l d : Int} (h : YAt w base by_ vf cf V (YSt.of G l d)) (hu : UniqG G) (s : ByteArray) :
    Calls Tryd.prog 173 #[.pointer (some ⟨by_, 0, none⟩), .string s] w fun e w' => e = .returned (.tuple #[.int .i64 (typeOfT G s).1, .int .i64 (typeOfT G s).2]) ∧ w = w' := by
  have hN := h.names
  have hT := h.types
  obtain ⟨a0, k0, hv0, hk0, hk1⟩ := row_slice hN
  obtain ⟨a1, k1, hv1, -, -⟩ := row_slice hT
  have c5 : w.cell? ⟨by_, 5, none⟩ = some (V 0) := h.cR 0
  have c6 : w.cell? ⟨by_, 6, none⟩ = some (V 1) := h.cR 1
  rw [hv0] at c5 hN
  rw [hv1] at c6 hT
  obtain ⟨L, hL⟩ : ∃ L, L = flatG G := ⟨_, rfl⟩
  obtain ⟨R, hR⟩ : ∃ R, R = typeOfT G s := ⟨_, rfl⟩
  rw [← hR]
  rw [← hL] at hN hT c5 c6 hk0
  have hn : L.length ≤ 9223372036854775807 := by unfold maxLen at hk1; omega
  have HN := Lib.hid hN
  have HT := Lib.hid hT
  have H1 := Lib.hid (show (∀ i (hi : i < L.length), L[i].1 ≠ s) → R = (0, 6) by rw [hR, hL]; intro hz; unfold typeOfT; rw [findT_none hz])
  have H2 := Lib.hid (show ∀ i (hi : i < L.length), L[i].1 = s → (∀ j (hj : j < L.length), i < j → L[j].1 ≠ s) → R = (L[i].2, 0) by
    rw [hR]
    subst hL
    intro i hi h1 h2
    unfold typeOfT
    rw [findT_at hu hi h1 h2])
  have hw0 : IntKind.i64.wrap ((L.length : Int) - 1) = (L.length : Int) - 1 := IntWalk.i64_in _ (by omega)
  clear hN hT h hu hL hR hv0 hv1 hk0 hk1
  go_enter Tryd.func173, Tryd.ntmps173
  go_wp2_with fail
  go_loop [6] (fun i => ∃ k : Nat, k ≤ L.length ∧ i = .int .i64 ((k : Int) - 1) ∧ ∀ j (hj : j < L.length), k ≤ j → L[j].1 ≠ s) (fun i => (intOf i + 1).toNat)
  case atStart => exact ⟨L.length, Nat.le_refl _, rfl, fun j hj hk => by omega⟩
  case round =>
    obtain ⟨k, hk, rfl, hf⟩ := hrel
    have Hf := Lib.hid hf
    clear hf hw0
    cases k with
    | succ k =>
      have e1 : ((k + 1 : Nat) : Int) - 1 = (k : Int) := by omega
      rw [e1]
      have d1 : decide ((k : Int) ≥ 0) = true := decide_eq_true (by omega)
      have hkL : k < L.length := by omega
      have hk0' : (0 : Int) ≤ k := by omega
      have hk1' : (k : Int) < (L.length : Int) := by omega
      obtain ⟨g0, cp0, hv, -, -, -, x0, -⟩ := row_at HN.out (i := k) (u := .string L[k].1) (by simp [hkL])
      obtain ⟨rfl, -, rfl⟩ := Value.slice.inj hv
      obtain ⟨g1, cp1, hv', -, -, -, x1, -⟩ := row_at HT.out (i := k) (u := .int .i64 L[k].2) (by simp [hkL])
      obtain ⟨rfl, -, rfl⟩ := Value.slice.inj hv'
      have H2k := Lib.hid (H2.out k hkL)
      have hfk := Hf.out
      have hwk : IntKind.i64.wrap ((k : Int) - 1) = (k : Int) - 1 := IntWalk.i64_in _ (by omega)
      have Hs := Lib.hid (show L[k].1 ≠ s → ∀ j (hj : j < L.length), k ≤ j → L[j].1 ≠ s from fun hne j hj hkj => by
        by_cases e : j = k
        · subst e; exact hne
        · exact Hf.out j hj (by omega))
      clear hv hv' hfk
      generalize hp : L[k] = p at *
      by_cases he : p.1 = s
      · have he1 : (p.1.toList == s.toList) = true := by simp [he]
        have Hr := Lib.hid (H2k.out he (fun j hj hkj => Hf.out j hj (by omega)))
        clear he
        go_wp2_with fail
        go_ret2
        exact ⟨by rw [Hr.out]; rfl, rfl⟩
      · have he1 : (p.1.toList == s.toList) = false := by
          cases hb : p.1.toList == s.toList with
          | false => rfl
          | true =>
            have : p.1.toList = s.toList := by simpa using hb
            rw [ByteArray.toList_eq, ByteArray.toList_eq] at this
            exact absurd (ByteArray.ext (Array.toList_inj.mp this)) he
        have Hr := Lib.hid (Hs.out he)
        clear he hp
        go_wp2_with fail
        go_round
        case rel => exact ⟨k, by omega, rfl, Hr.out⟩
        case measure => simp only [intOf]; omega
    | zero =>
      have e1 : ((0 : Nat) : Int) - 1 = -1 := by omega
      rw [e1]
      have Hr := Lib.hid (H1.out (fun i hi => Hf.out i hi (Nat.zero_le _)))
      go_wp2_with fail
      go_ret2
      exact ⟨by rw [Hr.out]; rfl, rfl⟩

/-- The typer behind something: its scopes are these. -/
def YDone (w : World) (base by_ : Nat) (vf : Value) (cf : List Value) (V : Fin 3 → Value) (G : List Scope) (l d : Int) (w' : World) : Prop :=
  ∃ V', YAt w' base by_ vf cf V' (YSt.of G l d) ∧ Since (YM by_ V) w w' ∧ YAt.NewY w by_ V V'
theorem info_yint : (Tryd.prog.info? 3).map (fun i => (i.zero, i.size, i.bytes)) = some (some (.int .i64 0), 1, 8) := by kernel_rfl
theorem info_ystr : (Tryd.prog.info? 9).map (fun i => (i.zero, i.size, i.bytes)) = some (some (.string ⟨#[]⟩), 1, 16) := by kernel_rfl

set_option maxHeartbeats 1000000 in
theorem yEnter_any {w : World} {base by_ : Nat} {vf : Value} {cf : List Value} {V : Fin 3 → Value} {G : List Scope} {l d : Int} (h : YAt w base by_ vf cf V (YSt.of G l d)) (hl : G.length ≤ 100000) (hn : (flatG G).length ≤ 1000000000) :
    Calls Tryd.prog 49 #[.pointer (some ⟨by_, 0, none⟩)] w fun e w' => e = .returned (.tuple #[]) ∧ YDone w base by_ vf cf V ([] :: G) l d w' := by
  have hN := h.names
  have hM := h.marks
  obtain ⟨a0, k0, hv0, -, -⟩ := row_slice hN
  obtain ⟨a2, k2, hv2, hk20, hk21⟩ := row_slice hM
  have c5 : w.cell? ⟨by_, 5, none⟩ = some (V 0) := h.cR 0
  have c7 : w.cell? ⟨by_, 7, none⟩ = some (V 2) := h.cR 2
  have z7 := h.z 7
  have hlt := h.lb.2
  have hbig := h.big
  have hne := h.ne 2
  rw [hv0] at c5
  rw [hv2] at c7 hM hne
  obtain ⟨i0, hi0, hz0, hz1, hz2⟩ := info_parts info_yint
  have H := Lib.hid h
  have HM := Lib.hid hM
  have Hv2 := Lib.hid hv2
  clear h hN hM hv0 hv2
  go_enter Tryd.func49, Tryd.ntmps49
  go_region_law (first
    | (refine step_append_lies _ (by rfl) _ _ _ (by rfl) base 3 i0 (.int .i64 0) 1 8 Tryd.underlying23 hi0 hz0 hz1 hz2 rfl (by decide) _ _ _ (by rfl) ((HM.out.alloc _).drew)
        ⟨w.heap.size, 0, none⟩ 1 1 [.int .i64 (flatG G).length] (by rfl) (by rfl) (World.news_of_block (cs := #[.int .i64 (flatG G).length]) (t := 3) (fr := (0, 0)) (heap_alloc_new w _)) (by simp [Value.oneCell'])
        (by decide) (by unfold maxLen; omega) (by omega) (by simp; omega) (w.heap.size + 1) (by simp) ?_; intro gg cap w1 hown1 hgrow hat hlt2; have q0 : w1.cell? ⟨by_, 7, none⟩ = some (.slice a2 G.length k2) := (hgrow.cell_far _ (by simp; omega) (Ne.symm hne)).trans (by simpa using (World.cell?_alloc_lt _ _ _ hlt).trans c7); have q1 : w1.frozen? ⟨by_, 7, none⟩ = false := (hgrow.frozen_far _ (by simp; omega) (Ne.symm hne)).trans (by simpa using (World.frozen?_alloc_past _ _ _ hlt).trans z7)))
  all_goals (
    go_end0
    have s1 : Since (fun k => (V 2).ownBlock = some k) w w1 := by
      rw [Hv2.out]
      exact ((Since.alloc _ _ _).trans (Since.drew _ _)).trans (Since.grown hgrow)
    have hp := H.out.put' 2 (s' := YSt.of ([] :: G) l d) s1 hown1 (by simp [yVals, YSt.of, marksG, flatG]) (fun k hk => by
      have hk' : gg = k := by simpa [Value.ownBlock] using hk
      rcases hat with e | e
      · left; rw [Hv2.out, e, hk']
      · right; omega) (fin3_ne (fun _ => by simp [yVals, YSt.of, flatG]) (fun _ => by simp [yVals, YSt.of, flatG]) (fun e => absurd rfl e)) rfl rfl
    exact ⟨rfl, _, hp.1, hp.2.1, hp.2.2⟩)

set_option maxHeartbeats 1000000 in
theorem yLeave_any {w : World} {base by_ : Nat} {vf : Value} {cf : List Value} {V : Fin 3 → Value} {g : Scope} {r : List Scope} {l d : Int} (h : YAt w base by_ vf cf V (YSt.of (g :: r) l d)) (hl : r.length ≤ 100000) (hn : (flatG (g :: r)).length ≤ 1000000000) :
    Calls Tryd.prog 94 #[.pointer (some ⟨by_, 0, none⟩)] w fun e w' => e = .returned (.tuple #[]) ∧ YDone w base by_ vf cf V r l d w' := by
  have hN := h.names
  have hT := h.types
  have hM := h.marks
  obtain ⟨a0, k0, hv0, hk00, hk01⟩ := row_slice hN
  obtain ⟨a1, k1, hv1, hk10, hk11⟩ := row_slice hT
  obtain ⟨g2, k2, hv2, -, -, hg2, x2, -⟩ := row_at hM (i := r.length) (u := .int .i64 (flatG r).length) (by
    have e : marksG (g :: r) = marksG r ++ [((flatG r).length : Int)] := rfl
    rw [e, List.map_append, List.getElem?_append_right (by simp [marksG_length])]
    simp [marksG_length])
  have hcap2 := row_slice hM
  obtain ⟨_, _, hvv, hk20, hk21⟩ := hcap2
  rw [hv2] at hvv
  obtain ⟨-, -, rfl⟩ := Value.slice.inj hvv
  have c5 : w.cell? ⟨by_, 5, none⟩ = some (V 0) := h.cR 0
  have c6 : w.cell? ⟨by_, 6, none⟩ = some (V 1) := h.cR 1
  have c7 : w.cell? ⟨by_, 7, none⟩ = some (V 2) := h.cR 2
  have z5 := h.z 5
  have z6 := h.z 6
  have z7 := h.z 7
  have hlt := h.lb.2
  rw [hv0] at c5 hN
  rw [hv1] at c6 hT
  rw [hv2] at c7 hM
  have hkn : (flatG r).length ≤ (flatG (g :: r)).length := by simp [flatG]
  obtain ⟨n, hne⟩ : ∃ n, n = (flatG (g :: r)).length := ⟨_, rfl⟩
  obtain ⟨k, hke⟩ : ∃ k, k = (flatG r).length := ⟨_, rfl⟩
  obtain ⟨m1, hm1⟩ : ∃ m1, m1 = (g :: r).length := ⟨_, rfl⟩
  have hm1' : m1 = r.length + 1 := by rw [hm1]; simp
  rw [← hne] at c5 c6 hkn hk00 hk10 hN hT hn
  rw [← hke] at x2 hkn
  rw [← hm1] at c7 hM hk20
  -- the rows, shorter
  have rM := rowShorter hM (show r.length ≤ m1 by omega)
  have rN := rowShorter hN (show k ≤ n by omega)
  have rT := rowShorter hT (show k ≤ n by omega)
  have n2 := h.ne 2
  have n0 := h.ne 0
  have n1 := h.ne 1
  have hp2 := h.put' 2 (s' := ⟨(flatG (g :: r)).map (·.1), (flatG (g :: r)).map (·.2), marksG r, l, d⟩) (Since.refl _ w) rM (by
    show (marksG r).map (Value.int .i64) = _
    rw [show marksG (g :: r) = marksG r ++ [((flatG r).length : Int)] from rfl, List.map_append, List.take_append_of_le_length (by simp [marksG_length])]
    rw [List.take_of_length_le (by simp [marksG_length])]) (fun k hk => Or.inl (by rw [hv2]; exact hk)) (fin3_ne (fun _ => rfl) (fun _ => rfl) (fun e => absurd rfl e)) rfl rfl
  obtain ⟨p1, p2, p3⟩ := hp2
  have ss2 : Since (fun k => k = by_) w (w.setCell ⟨by_, 7, none⟩ (.slice (some ⟨g2, 0, none⟩) r.length k2)) := Since.setCell w ⟨by_, 7, none⟩ (.slice (some ⟨g2, 0, none⟩) r.length k2)
  have hp0 := p1.put' 0 (s' := ⟨(flatG r).map (·.1), (flatG (g :: r)).map (·.2), marksG r, l, d⟩) (Since.refl _ _) (ss2.row rN (fun k hk e => n0 (by rw [hv0]; exact (own_slice _ _ _ _).trans (e ▸ hk)))) (by
    show ((flatG r).map (·.1)).map Value.string = _
    rw [show flatG (g :: r) = flatG r ++ g from rfl, List.map_append, List.take_append_of_le_length (by simp [hke]), List.take_of_length_le (by simp [hke])]
    simp) (fun k hk => Or.inl (by rw [upd3_other _ _ (by decide), hv0]; exact (own_slice _ _ _ _).trans hk)) (fin3_ne (fun e => absurd rfl e) (fun _ => rfl) (fun _ => rfl)) rfl rfl
  obtain ⟨q1, q2, q3⟩ := hp0
  have ss0 : Since (fun k => k = by_) (w.setCell ⟨by_, 7, none⟩ (.slice (some ⟨g2, 0, none⟩) r.length k2)) ((w.setCell ⟨by_, 7, none⟩ (.slice (some ⟨g2, 0, none⟩) r.length k2)).setCell ⟨by_, 5, none⟩ (.slice a0 k k0)) := Since.setCell _ ⟨by_, 5, none⟩ (.slice a0 k k0)
  have hp1 := q1.put' 1 (s' := YSt.of r l d) (Since.refl _ _) ((ss2.trans ss0).row rT (fun k hk e => n1 (by rw [hv1]; exact (own_slice _ _ _ _).trans (e ▸ hk)))) (by
    show ((flatG r).map (·.2)).map (Value.int .i64) = _
    rw [show flatG (g :: r) = flatG r ++ g from rfl, List.map_append, List.take_append_of_le_length (by simp [hke]), List.take_of_length_le (by simp [hke])]
    simp) (fun k hk => Or.inl (by rw [upd3_other _ _ (by decide), upd3_other _ _ (by decide), hv1]; exact (own_slice _ _ _ _).trans hk)) (fin3_ne (fun _ => rfl) (fun e => absurd rfl e) (fun _ => rfl)) rfl rfl
  obtain ⟨t1, t2, t3⟩ := hp1
  have T1 := Lib.hid t1
  have hnew := YAt.NewY.trans p3 (YAt.NewY.trans q3 t3 (by simp)) (by simp)
  have T2 := Lib.hid (YAt.NewY.since p3 p2 (YAt.NewY.since q3 q2 t2))
  have T3 := Lib.hid hnew
  have hw0 : IntKind.i64.wrap ((m1 : Int) - 1) = (r.length : Int) := by rw [show ((m1 : Nat) : Int) - 1 = r.length by omega]; exact IntWalk.i64_in _ (by omega)
  have hj0 : (0 : Int) ≤ (r.length : Int) := by omega
  have hj1 : (r.length : Int) < (m1 : Int) := by omega
  have hj2 : (r.length : Int) ≤ (k2 : Int) := by omega
  have hj3 : (0 : Int) ≤ (k : Int) := by omega
  have hj4 : (k : Int) ≤ (k0 : Int) := by omega
  have hj5 : (k : Int) ≤ (k1 : Int) := by omega
  have hj6 : r.length ≤ k2 := by omega
  have hj7 : k ≤ k0 := by omega
  have hj8 : k ≤ k1 := by omega
  clear h hN hT hM hv0 hv1 hv2 hvv rM rN rT p1 p2 p3 q1 q2 q3 t1 t2 t3 hnew ss2 ss0 hne hke hm1 n0 n1 n2 hn
  go_enter Tryd.func94, Tryd.ntmps94
  go_wp2_with fail
  go_quiet (fail)
  go_wp2_with fail
  go_region
  all_goals go_wp2_with fail
  all_goals (
    go_end0
    have hs := Since.drewN (fun _ => False) (((w.setCell ⟨by_, 7, none⟩ (.slice (some ⟨g2, 0, none⟩) r.length k2)).setCell ⟨by_, 5, none⟩ (.slice a0 k k0)).setCell ⟨by_, 6, none⟩ (.slice a1 k k1)) (nq + 1)
    exact ⟨rfl, _, T1.out.since hs (fun _ e => e.elim), T2.out.trans (hs.mono (fun _ e => e.elim)), T3.out⟩)

end Go.Proofs.YtaomlfbcfmmhlaaDoor

/-
  Texts joined: YDecl.
-/
import Derived.Test.YtaomlfbcfmmhlaaDoorTCZE
import Derived.Test.YtaomlfbcfmmhlaaDoorTCL

/-
  posternref's typer: name: the contract.
-/
namespace Go.Proofs.YtaomlfbcfmmhlaaDoor
open Go.RowKit Go.Pst
set_option linter.unusedVariables false
set_option linter.unusedSimpArgs false

/-- How 'name' ends. -/
def NamePost (w : World) (base by_ : Nat) (vf : Value) (cf : List Value) (V : Fin 3 → Value) (G : List Scope) (l d : Int) (R : Except Int (List Scope)) (en : Ending) (w' : World) : Prop :=
  ∃ x, en = .returned (.int .i64 x) ∧ match R with
    | .ok G' => x = 0 ∧ YDone w base by_ vf cf V G' l d w'
    | .error e => x = e ∧ e ≠ 0 ∧ YDone w base by_ vf cf V G l d w'
set_option maxHeartbeats 2000000 in
theorem yName_any {w : World} {base by_ : Nat} {vf : Value} {cf : List Value} {V : Fin 3 → Value} {g : Scope} {r : List Scope} {l d : Int} (h : YAt w base by_ vf cf V (YSt.of (g :: r) l d)) (hl : r.length ≤ 100000) (hn : (flatG (g :: r)).length ≤ 1000000000) (s : ByteArray) (hs : s.size ≤ maxLen) (t : Int) :
    Calls Tryd.prog 50 #[.pointer (some ⟨by_, 0, none⟩), .string s, .int .i64 t] w (NamePost w base by_ vf cf V (g :: r) l d (declT (g :: r) s t)) := by
  obtain ⟨R, hR⟩ : ∃ R, R = declT (g :: r) s t := ⟨_, rfl⟩
  rw [← hR]
  have Hnm := Lib.hid (nameMay_any s w hs)
  have H := Lib.hid h
  have HR := Lib.hid hR
  have hbad : ∀ (e : Int) (w1 : World), R = .error e → e ≠ 0 → Since (fun _ => False) w w1 → NamePost w base by_ vf cf V (g :: r) l d R (.returned (.int .i64 e)) w1 := fun e w1 hRe he hs => ⟨e, rfl, by rw [hRe]; exact ⟨rfl, he, V, H.out.since hs (fun _ e => e.elim), hs.mono (fun _ e => e.elim), YAt.NewY.refl _ _ _⟩⟩
  have Hbad := Lib.hid hbad
  clear h hR hbad
  cases hb : nameB s.toList with
  | false =>
    have Hr := Lib.hid (show R = .error 4 by rw [HR.out]; exact declT_form hb)
    have Hb := Lib.hid hb
    clear hb
    go_enter Tryd.func50, Tryd.ntmps50
    go_wp2_with fail
    refine Hnm.out.mono ?_
    rintro e w1 ⟨rfl, hb1⟩
    rw [Hb.out]
    have HP := Lib.hid (Hbad.out 4 w1 Hr.out (by decide) ⟨hb1.os, hb1.tape, hb1.output, hb1.size, fun k hk _ => hb1.block k hk⟩)
    clear hb1
    go_wp2_with fail
    go_ret
    exact HP.out
  | true =>
    have Hb := Lib.hid hb
    clear hb
    go_enter Tryd.func50, Tryd.ntmps50
    go_wp2_with fail
    refine Hnm.out.mono ?_
    rintro e w1 ⟨rfl, hb1⟩
    rw [Hb.out]
    have hs1 : Since (fun _ => False) w w1 := ⟨hb1.os, hb1.tape, hb1.output, hb1.size, fun k hk _ => hb1.block k hk⟩
    have hY := H.out.since hs1 (fun _ e => e.elim)
    have hN := hY.names
    have hT := hY.types
    have hM := hY.marks
    obtain ⟨a0, k0, hv0, hk00, hk01⟩ := row_slice hN
    obtain ⟨a1, k1, hv1, hk10, hk11⟩ := row_slice hT
    obtain ⟨g2, k2, hv2, -, -, hg2, x2, -⟩ := row_at hM (i := r.length) (u := .int .i64 (flatG r).length) (by
      have e : marksG (g :: r) = marksG r ++ [((flatG r).length : Int)] := rfl
      rw [e, List.map_append, List.getElem?_append_right (by simp [marksG_length])]
      simp [marksG_length])
    have c5 : w1.cell? ⟨by_, 5, none⟩ = some (V 0) := hY.cR 0
    have c6 : w1.cell? ⟨by_, 6, none⟩ = some (V 1) := hY.cR 1
    have c7 : w1.cell? ⟨by_, 7, none⟩ = some (V 2) := hY.cR 2
    have z5 := hY.z 5
    have z6 := hY.z 6
    have hlt := hY.lb.2
    have hbig := hY.big
    rw [hv0] at c5 hN
    rw [hv1] at c6 hT
    rw [hv2] at c7
    obtain ⟨L, hL⟩ : ∃ L, L = flatG (g :: r) := ⟨_, rfl⟩
    obtain ⟨k, hke⟩ : ∃ k, k = (flatG r).length := ⟨_, rfl⟩
    obtain ⟨m1, hm1⟩ : ∃ m1, m1 = (g :: r).length := ⟨_, rfl⟩
    have hm1' : m1 = r.length + 1 := by rw [hm1]; simp
    rw [← hL] at c5 c6 hN hT hn
    rw [← hke] at x2
    rw [← hm1] at c7
    have hkn : k ≤ L.length := by rw [hL, hke]; simp [flatG]
    have H1 := Lib.hid (show (∀ j (hj : j < L.length), k ≤ j → L[j].1 ≠ s) → lookT g s = none by
      intro hz
      refine lookT_none (fun i hi => ?_)
      have e1 : L = flatG r ++ g := hL
      have := hz (k + i) (by rw [e1, hke]; simp; omega) (by omega)
      simpa [e1, hke, List.getElem_append_right] using this)
    have H2 := Lib.hid (show ∀ j (hj : j < L.length), k ≤ j → L[j].1 = s → (lookT g s).isSome by
      intro j hj hkj he
      have e1 : L = flatG r ++ g := hL
      have hq : L[j] = g[j - k]'(by rw [e1] at hj; simp at hj; omega) := by
        simp [e1, hke, List.getElem_append_right (show (flatG r).length ≤ j by omega)]
      cases hl : lookT g s with
      | some t => rfl
      | none =>
        exfalso
        have : ∀ (g : Scope) (i : Nat) (hi : i < g.length), g[i].1 = s → lookT g s ≠ none := by
          intro g
          induction g with
          | nil => intro i hi; simp at hi
          | cons p q ih =>
            intro i hi h1
            obtain ⟨k', t'⟩ := p
            unfold lookT
            by_cases e : k' = s
            · rw [if_pos e]; simp
            · rw [if_neg e]
              cases i with
              | zero => exact absurd h1 e
              | succ i => exact ih i (by simpa using hi) h1
        exact this g (j - k) _ (hq ▸ he) hl)
    have hw0 : IntKind.i64.wrap ((m1 : Int) - 1) = (r.length : Int) := by rw [show ((m1 : Nat) : Int) - 1 = r.length by omega]; exact IntWalk.i64_in _ (by omega)
    have hj0 : (0 : Int) ≤ (r.length : Int) := by omega
    have hj1 : (r.length : Int) < (m1 : Int) := by omega
    have HY := Lib.hid hY
    have HN := Lib.hid hN
    have HT := Lib.hid hT
    have Hv0 := Lib.hid hv0
    have Hv1 := Lib.hid hv1
    have HS1 := Lib.hid hs1
    have HL := Lib.hid hL
    clear hb1 hs1 hY hN hT hM hv0 hv1 hv2 hL hke hm1 Hnm
    go_wp2_with fail
    go_quiet (fail)
    go_wp2_with fail
    have HSd := Lib.hid (HS1.out.trans (Since.drewN (fun _ => False) w1 nq))
    clear hj0 hj1 hw0
    go_loop [7] (fun i => ∃ j : Nat, k ≤ j ∧ j ≤ L.length ∧ i = .int .i64 (j : Int) ∧ ∀ q (hq : q < L.length), k ≤ q → q < j → L[q].1 ≠ s) (fun i => L.length - (intOf i).toNat)
    case atStart => exact ⟨k, Nat.le_refl _, hkn, rfl, fun q hq h1 h2 => by omega⟩
    case round =>
      obtain ⟨j, hkj, hjL, rfl, hf⟩ := hrel
      have Hf := Lib.hid hf
      clear hf
      by_cases hlt1 : j < L.length
      · have hj0 : (0 : Int) ≤ j := by omega
        have hj1 : (j : Int) < (L.length : Int) := by omega
        have hwk : IntKind.i64.wrap ((j : Int) + 1) = (j : Int) + 1 := IntWalk.i64_in _ (by omega)
        obtain ⟨g0, cp0, hv, -, -, -, x0, -⟩ := row_at HN.out (i := j) (u := .string L[j].1) (by simp [hlt1])
        obtain ⟨rfl, -, rfl⟩ := Value.slice.inj hv
        have H2j := Lib.hid (H2.out j hlt1 hkj)
        have Hs := Lib.hid (show L[j].1 ≠ s → ∀ q (hq : q < L.length), k ≤ q → q < j + 1 → L[q].1 ≠ s from fun hne q hq hkq hqj => by
          by_cases e : q = j
          · subst e; exact hne
          · exact Hf.out q hq hkq (by omega))
        clear hv
        generalize hp : L[j] = p at *
        by_cases he : p.1 = s
        · have he1 : (p.1.toList == s.toList) = true := by simp [he]
          have hsome := H2j.out he
          obtain ⟨u, hu⟩ := Option.isSome_iff_exists.1 hsome
          have HP := Lib.hid (Hbad.out 7 (w1.drewN nq) (by rw [HR.out]; exact declT_twice Hb.out hu) (by decide) HSd.out)
          clear he hp hu hsome
          go_wp2_with fail
          go_ret
          exact HP.out
        · have he1 : (p.1.toList == s.toList) = false := by
            cases hb : p.1.toList == s.toList with
            | false => rfl
            | true =>
              have : p.1.toList = s.toList := by simpa using hb
              rw [ByteArray.toList_eq, ByteArray.toList_eq] at this
              exact absurd (ByteArray.ext (Array.toList_inj.mp this)) he
          have Hr := Lib.hid (Hs.out he)
          clear he hp
          go_wp2_with fail
          go_round
          case rel => exact ⟨j + 1, by omega, by omega, by go_num, Hr.out⟩
          case measure => simp only [intOf]; omega
      · have hje : j = L.length := by omega
        have Hlk := Lib.hid (H1.out (fun q hq h1 => Hf.out q hq h1 (by omega)))
        subst hje
        have d1 : decide ((L.length : Int) < (L.length : Int)) = false := decide_eq_false (by omega)
        clear hlt1
        by_cases ht : 1 ≤ t ∧ t ≤ 5
        · have hd : (decide ((1 : Int) ≤ t) && decide (t ≤ 5)) = true := by simp [ht]
          have Hr := Lib.hid (show R = .ok ((g ++ [(s, t)]) :: r) by rw [HR.out]; exact declT_ok Hb.out Hlk.out ht)
          clear ht
          go_wp2_with fail
          refine (refIn_any _ _ _ _).mono ?_
          rintro e w' ⟨rfl, rfl⟩
          rw [hd]
          obtain ⟨i0, hi0, hz0, hz1, hz2⟩ := info_parts info_ystr
          have hYd := HY.out.since (Since.drewN (fun _ => False) w1 nq) (fun _ e => e.elim)
          have HYd := Lib.hid hYd
          have hrow := hYd.names
          rw [Hv0.out, ← HL.out] at hrow
          have n0 : some by_ ≠ (Value.slice a0 L.length k0).ownBlock := fun e => hYd.ne 0 (by rw [Hv0.out]; exact (own_slice _ _ _ _).trans e.symm)
          have Hrow := Lib.hid hrow
          clear hYd hrow
          go_wp2_with (at_builtin; refine wpList_append_own_at _ rfl _ _ 39 rfl base 9 i0 (.string ⟨#[]⟩) 1 16 Tryd.underlying39 hi0 hz0 hz1 hz2 rfl (by decide) _ _ _ rfl (Hrow.out.alloc _) ⟨w1.heap.size, 0, none⟩ 1 1 [.string s] rfl rfl ?c1 ?c2 ?c3 ?c4 ?c5 ?_)
          case c1 => exact (cell_one_new _ _ _)
          case c2 => intro u hu; simp at hu; subst hu; rfl
          case c3 => unfold maxLen; omega
          case c4 => omega
          case c5 => simp; omega
          intro v' w2 hown' hgrow _ hloc
          obtain ⟨gg, cg, rfl⟩ : ∃ gg cg, v' = .slice (some ⟨gg, 0, none⟩) (L.length + 1) cg := by
            rcases hown'.2 with ⟨_, h⟩ | ⟨gg, cap', _, h, _⟩
            · omega
            · exact ⟨gg, cap', h⟩
          have s1 : Since (fun k' => (Value.slice a0 L.length k0).ownBlock = some k') (w1.drewN nq) w2 := (Since.alloc _ _ _).trans (Since.grown hgrow)
          have s1' : Since (fun k' => (V 0).ownBlock = some k') (w1.drewN nq) w2 := by rw [Hv0.out]; exact s1.mono (fun k e => (own_slice _ _ _ _).trans e)
          have hp := HYd.out.put' 0 (s' := ⟨(flatG (g :: r)).map (·.1) ++ [s], (flatG (g :: r)).map (·.2), marksG (g :: r), l, d⟩) s1' hown' (by rw [HL.out]; simp [yVals, Function.comp_def]) (fun k hk => by
            rcases hloc with e | e
            · left; rw [Hv0.out]; exact (own_slice _ _ _ _).trans (e.symm.trans hk)
            · right
              rw [hk] at e
              have := Option.some.inj e
              try simp at this
              try simp
              omega) (fin3_ne (fun e => absurd rfl e) (fun _ => rfl) (fun _ => rfl)) rfl rfl
          have n0' : ¬ ((Value.slice a0 L.length k0).ownBlock = some by_) := fun e => n0 e.symm
          have c52 : w2.cell? ⟨by_, 5, none⟩ = some (.slice a0 L.length k0) := (s1.cell (o := 5) hlt n0').trans c5
          have z52 : w2.frozen? ⟨by_, 5, none⟩ = false := (s1.frozen (o := 5) hlt n0').trans z5
          have c62 : w2.cell? ⟨by_, 6, none⟩ = some (.slice a1 L.length k1) := (s1.cell (o := 6) hlt n0').trans c6
          have z62 : w2.frozen? ⟨by_, 6, none⟩ = false := (s1.frozen (o := 6) hlt n0').trans z6
          have hlt2 : by_ < w2.heap.size := Nat.lt_of_lt_of_le hlt s1.size
          have hsz2 : base ≤ w2.heap.size := Nat.le_trans hbig s1.size
          have hr1 := hp.1.rows 1
          rw [upd3_other _ _ (show (1 : Fin 3) ≠ 0 by decide), Hv1.out] at hr1
          have hr1' : (w2.setCell ⟨by_, 5, none⟩ (.slice (some ⟨gg, 0, none⟩) (L.length + 1) cg)).ownsRow base 3 1 (.slice a1 L.length k1) L.length (L.map fun p => Value.int .i64 p.2) := by
            have e : yVals ⟨(flatG (g :: r)).map (·.1) ++ [s], (flatG (g :: r)).map (·.2), marksG (g :: r), l, d⟩ 1 = L.map fun p => Value.int .i64 p.2 := by rw [HL.out]; simp [yVals, Function.comp_def]
            rw [e, List.length_map] at hr1
            rw [HL.out] at hr1 ⊢
            exact hr1
          have HP := Lib.hid hp
          have Hr1 := Lib.hid hr1'
          obtain ⟨j0, hj0, hy0, hy1, hy2⟩ := info_parts info_yint
          clear hp hr1 hr1' hown' hgrow hloc s1 s1' hi0 hz0 hz1 hz2 c5 c6 z5 z6
          go_wp2_with (at_builtin; refine wpList_append_own_at _ rfl _ _ 23 rfl base 3 j0 (.int .i64 0) 1 8 Tryd.underlying23 hj0 hy0 hy1 hy2 rfl (by decide) _ _ _ rfl (Hr1.out.alloc _) ⟨w2.heap.size, 0, none⟩ 1 1 [.int .i64 t] rfl rfl ?c1 ?c2 ?c3 ?c4 ?c5 ?_)
          case c1 =>
            have := cell_one_new (w2.setCell ⟨by_, 5, none⟩ (.slice (some ⟨gg, 0, none⟩) (L.length + 1) cg)) (Value.int .i64 t) 3
            simpa using this
          case c2 => intro u hu; simp at hu; subst hu; rfl
          case c3 => unfold maxLen; omega
          case c4 => omega
          case c5 => simp; omega
          intro v3 w3 hown3 hgrow3 _ hloc3
          obtain ⟨g3, c3, rfl⟩ : ∃ gg cg, v3 = .slice (some ⟨gg, 0, none⟩) (L.length + 1) cg := by
            rcases hown3.2 with ⟨_, h⟩ | ⟨gg, cap', _, h, _⟩
            · omega
            · exact ⟨gg, cap', h⟩
          have s3 : Since (fun k' => (Value.slice a1 L.length k1).ownBlock = some k') (w2.setCell ⟨by_, 5, none⟩ (.slice (some ⟨gg, 0, none⟩) (L.length + 1) cg)) w3 := (Since.alloc _ _ _).trans (Since.grown hgrow3)
          have s3' : Since (fun k' => (upd3 V 0 (.slice (some ⟨gg, 0, none⟩) (L.length + 1) cg) 1).ownBlock = some k') (w2.setCell ⟨by_, 5, none⟩ (.slice (some ⟨gg, 0, none⟩) (L.length + 1) cg)) w3 := by
            rw [upd3_other _ _ (show (1 : Fin 3) ≠ 0 by decide), Hv1.out]
            exact s3.mono (fun k e => (own_slice _ _ _ _).trans e)
          have hp2 := HP.out.1.put' 1 (s' := YSt.of ((g ++ [(s, t)]) :: r) l d) s3' hown3 (by rw [HL.out]; simp [yVals, YSt.of, flatG, Function.comp_def]) (fun k hk => by
            rcases hloc3 with e | e
            · left; rw [upd3_other _ _ (show (1 : Fin 3) ≠ 0 by decide), Hv1.out]; exact (own_slice _ _ _ _).trans (e.symm.trans hk)
            · right
              rw [hk] at e
              have := Option.some.inj e
              try simp at this
              show (w2.setCell ⟨by_, 5, none⟩ (.slice (some ⟨gg, 0, none⟩) (L.length + 1) cg)).heap.size ≤ k
              try simp
              omega) (fin3_ne (fun _ => by simp [yVals, YSt.of, flatG]) (fun e => absurd rfl e) (fun _ => by simp [yVals, YSt.of, marksG])) rfl rfl
          have n1' : ¬ ((Value.slice a1 L.length k1).ownBlock = some by_) := fun e => HYd.out.ne 1 (by rw [Hv1.out]; exact (own_slice _ _ _ _).trans e)
          have c63 : w3.cell? ⟨by_, 6, none⟩ = some (.slice a1 L.length k1) := (s3.cell (o := 6) (by simpa using hlt2) n1').trans ((World.cell?_setCell_other (h := fun h => by injection h with _ h; exact absurd h (by decide)) _ _ _ _).trans c62)
          have z63 : w3.frozen? ⟨by_, 6, none⟩ = false := (s3.frozen (o := 6) (by simpa using hlt2) n1').trans (by rw [World.frozen?_setCell]; exact z62)
          have HQ := Lib.hid hp2
          clear hp2 hown3 hgrow3 hloc3 s3 s3'
          go_wp2_with fail
          go_ret
          refine ⟨0, rfl, ?_⟩
          rw [Hr.out]
          have hA : Since (YM by_ V) w (w1.drewN nq) := HSd.out.mono (fun _ e => e.elim)
          have hnw := YAt.NewY.trans HP.out.2.2 HQ.out.2.2 HP.out.2.1.size
          refine ⟨rfl, _, HQ.out.1, hA.trans (YAt.NewY.since HP.out.2.2 HP.out.2.1 HQ.out.2.1), fun k hk => ?_⟩
          rcases hnw k hk with e | e
          · exact Or.inl e
          · exact Or.inr (Nat.le_trans hA.size e)
        · have hd : (decide ((1 : Int) ≤ t) && decide (t ≤ 5)) = false := by simp; omega
          have HP := Lib.hid (Hbad.out 9 (w1.drewN nq) (by rw [HR.out]; exact declT_type Hb.out Hlk.out ht) (by decide) HSd.out)
          clear ht
          go_wp2_with fail
          refine (refIn_any _ _ _ _).mono ?_
          rintro e w' ⟨rfl, rfl⟩
          rw [hd]
          go_wp2_with fail
          go_ret
          exact HP.out
end Go.Proofs.YtaomlfbcfmmhlaaDoor

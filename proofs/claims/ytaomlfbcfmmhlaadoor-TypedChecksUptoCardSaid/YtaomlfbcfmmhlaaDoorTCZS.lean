/-
  Texts joined: YFault.
-/
import Derived.Test.YtaomlfbcfmmhlaaDoorTCZR
import Derived.Test.YtaomlfbcfmmhlaaDoorTCZB

/-
  posternref.TypesFault: the contract (printed by wip/gen_yfault.py).
-/
namespace Go.Proofs.YtaomlfbcfmmhlaaDoor
open Go.RowKit Go.Pst
set_option linter.unusedVariables false
set_option linter.unusedSimpArgs false

theorem seenB_at {l : List ByteArray} {s : ByteArray} {i : Nat} (hi : i < l.length) (h : l[i] = s) : seenB l s = true := by
  unfold seenB
  rw [List.any_eq_true]
  exact ⟨l[i], List.getElem_mem hi, by simp [h]⟩
theorem seenB_no {l : List ByteArray} {s : ByteArray} (h : ∀ i (hi : i < l.length), l[i] ≠ s) : seenB l s = false := by
  unfold seenB
  rw [List.any_eq_false]
  intro x hx
  obtain ⟨i, hi, rfl⟩ := List.mem_iff_getElem.1 hx
  simp [h i hi]
theorem paramsT_stop {l : List (ByteArray × Int)} {G G' : List Scope} {i : Nat} (hi : i < l.length) (h : paramsT G (l.take i) = .ok G') {e : Int} (he : declT G' l[i].1 l[i].2 = .error e) : paramsT G l = .error e := by
  have h1 : paramsT G (l.take (i + 1)) = .error e := by rw [List.take_succ_eq_append_getElem hi, paramsT_snoc, h]; exact he
  have front : ∀ (l1 l2 : List (ByteArray × Int)) (G : List Scope), paramsT G l1 = .error e → paramsT G (l1 ++ l2) = .error e := by
    intro l1
    induction l1 with
    | nil => intro l2 G h; cases h
    | cons x r ih =>
      intro l2 G h
      obtain ⟨s, t⟩ := x
      simp only [List.cons_append, paramsT] at h ⊢
      cases hx : declT G s t with
      | error e' => rw [hx] at h; exact h
      | ok G1 => rw [hx] at h; exact ih l2 G1 h
  have h2 := front _ (l.drop (i + 1)) _ h1
  rwa [List.take_append_drop] at h2
theorem NamePost.since {w w' : World} {base by_ : Nat} {vf : Value} {cf : List Value} {V : Fin 3 → Value} {G : List Scope} {l d : Int} {R : Except Int (List Scope)} {en : Ending} (h : NamePost w base by_ vf cf V G l d R en w') : Since (YM by_ V) w w' := by
  obtain ⟨x, _, h⟩ := h
  cases R with
  | error e => obtain ⟨_, _, V2, _, h2, _⟩ := h; exact h2
  | ok G' => obtain ⟨_, V2, _, h2, _⟩ := h; exact h2
theorem toList_ne {a b : ByteArray} (h : ¬ a = b) : (a.toList == b.toList) = false := by
  cases hb : a.toList == b.toList with
  | false => rfl
  | true =>
    have : a.toList = b.toList := by simpa using hb
    rw [ByteArray.toList_eq, ByteArray.toList_eq] at this
    exact absurd (ByteArray.ext (Array.toList_inj.mp this)) h

set_option maxRecDepth 10000 in
set_option maxHeartbeats 8000000 in
theorem typesFault_any {fs : List PFunc} {d : Nat} {w : World} {v : Value} (hf : rFuncs d (· < w.heap.size) w [v] fs) (hfit : ∀ f ∈ fs, ∀ y ∈ f.body, FitS d y) (hsm : ∀ f ∈ fs, f.body.length ≤ 1048576 ∧ ∀ y ∈ f.body, SmallS d y) :
    Calls Tryd.prog 14 #[v] w fun e w' => e = .returned (.tuple #[.int .i64 (checkT d fs).1, .int .i64 (checkT d fs).2]) ∧ Below w.heap.size w w' := by
  obtain ⟨R, hR⟩ : ∃ R, R = checkT d fs := ⟨_, rfl⟩
  rw [← hR]
  obtain ⟨a, cap, rfl, hl1, hl2, hat⟩ := rFuncs_val hf
  have hll : fs.length ≤ 9223372036854775807 := by unfold maxLen at hl2; omega
  have Hf := Lib.hid hf
  have Hfit := Lib.hid hfit
  have Hsm := Lib.hid hsm
  have Hat := Lib.hid hat
  have HR := Lib.hid hR
  clear hf hfit hat hR hsm
  by_cases h0 : fs.length = 0
  · have z0 : ((fs.length : Int) == 0) = true := by simp [h0]
    have Hr := Lib.hid (show R = (0, 6) by rw [HR.out, List.eq_nil_of_length_eq_zero h0]; rfl)
    clear h0
    go_enter Tryd.func14, Tryd.ntmps14
    go_wp2_with fail
    go_ret2
    exact ⟨by rw [Hr.out]; rfl, Below.refl _ _⟩
  have z0 : ((fs.length : Int) == 0) = false := by rw [beq_eq_false_iff_ne]; omega
  by_cases h20 : 20 < fs.length
  · have z1 : decide ((fs.length : Int) > 20) = true := decide_eq_true (by omega)
    have Hr := Lib.hid (show R = (0, 1) by
      rw [HR.out]
      cases fs with
      | nil => simp at h0
      | cons f r => show (if 20 < (f :: r).length then _ else _) = _; rw [if_pos h20])
    clear h0 h20
    go_enter Tryd.func14, Tryd.ntmps14
    go_wp2_with fail
    go_ret2
    exact ⟨by rw [Hr.out]; rfl, Below.refl _ _⟩
  have z1 : decide ((fs.length : Int) > 20) = false := decide_eq_false (by omega)
  have hpos : 0 < fs.length := by omega
  have Hcases := Lib.hid (checkT_cases (d := d) hpos h20)
  clear h0 h20
  go_enter Tryd.func14, Tryd.ntmps14
  go_wp2_with fail
  clear z0 z1
  go_loopw [4] (fun i wr => ∃ n : Nat, n ≤ fs.length ∧ i = .int .i64 n ∧ headsT [] 0 fs = headsT ((fs.take n).map (·.name)) n (fs.drop n) ∧ Below w.heap.size w wr) (fun i _ => fs.length - (intOf i).toNat)
  case atStart => exact ⟨0, Nat.zero_le _, rfl, by simp, Below.refl _ _⟩
  case round =>
    obtain ⟨n, hn, rfl, hh, hbel⟩ := hrel
    have Hh := Lib.hid hh
    have Hbel := Lib.hid hbel
    clear hh
    by_cases hlt : n < fs.length
    · have hi0 : (0 : Int) ≤ n := by omega
      have hi1 : (n : Int) < (fs.length : Int) := by omega
      have hwk : IntKind.i64.wrap ((n : Int) + 1) = (n : Int) + 1 := IntWalk.i64_in _ (by omega)
      obtain ⟨b, off, v1, v3, rfl, hSb, hbl, x0, x1, x2, x3, hsz, hI, hps, hbs⟩ := Hat.out n hlt
      have hw := fun o => hbel.cell (p := ⟨b, o, none⟩) hbl
      have y0 := (hw _).trans x0
      have Hd := Lib.hid (List.drop_eq_getElem_cons hlt : fs.drop n = fs[n] :: fs.drop (n + 1))
      have Htk := Lib.hid (show (fs.take (n + 1)).map (·.name) = (fs.take n).map (·.name) ++ [fs[n].name] by rw [List.take_succ_eq_append_getElem hlt, List.map_append]; rfl)
      have Hx0 := Lib.hid x0
      have Hno := Lib.hid (fun (h : ∀ q (hq : q < n), (fs[q]'(by omega)).name ≠ fs[n].name) => (show seenB ((fs.take n).map (·.name)) fs[n].name = false from seenB_no (fun i hi => by
        have hi' : i < n := by simp at hi; omega
        have := h i hi'
        simpa using this)))
      have Hyes := Lib.hid (fun (q : Nat) (hq : q < n) (h : (fs[q]'(by omega)).name = fs[n].name) => (show seenB ((fs.take n).map (·.name)) fs[n].name = true from seenB_at (i := q) (by simp; omega) (by simpa using h)))
      have Hnm := Lib.hid (nameMay_any fs[n].name wr hsz)
      clear x0 x1 x2 x3 hw hps hbs hSb hI hsz hbel
      generalize hfn : fs[n] = f at *
      cases hnm : nameB f.name.toList with
      | false =>
        have Hnb := Lib.hid hnm
        clear hnm hfn
        go_wp2_with fail
        refine Hnm.out.mono ?_
        rintro en w1 ⟨rfl, hb1⟩
        rw [Hnb.out]
        have Hb1 := Lib.hid (Hbel.out.trans (hb1.mono Hbel.out.size))
        clear hb1
        go_wp2_with fail
        go_ret2
        have e : R = ((n : Int), 4) := by rw [HR.out]; exact Hcases.out.1 _ (by rw [Hh.out, Hd.out]; simp [headsT, Hnb.out])
        exact ⟨by rw [e]; rfl, Hb1.out⟩
      | true =>
        have Hnb := Lib.hid hnm
        clear hnm
        go_wp2_with fail
        refine Hnm.out.mono ?_
        rintro en w1 ⟨rfl, hb1⟩
        rw [Hnb.out]
        have Hb1 := Lib.hid (Hbel.out.trans (hb1.mono Hbel.out.size))
        have Hfn := Lib.hid hfn
        clear hb1 hfn y0
        go_wp2_with fail
        go_loopw [5] (fun i wr => ∃ q : Nat, q ≤ n ∧ i = .int .i64 q ∧ (∀ p (hp : p < n), p < q → (fs[p]'(by omega)).name ≠ f.name) ∧ Below w.heap.size w wr) (fun i _ => n - (intOf i).toNat)
        case atStart => exact ⟨0, Nat.zero_le _, rfl, fun p hp h => by omega, Hb1.out⟩
        case round =>
          obtain ⟨q, hq, rfl, hne, hbelq⟩ := hrel
          have Hne := Lib.hid hne
          have Hbq := Lib.hid hbelq
          clear hne
          by_cases hqn : q < n
          · have hq0 : (0 : Int) ≤ q := by omega
            have hq1 : (q : Int) < (n : Int) := by omega
            have hq2 : (q : Int) < (fs.length : Int) := by omega
            have hwq : IntKind.i64.wrap ((q : Int) + 1) = (q : Int) + 1 := IntWalk.i64_in _ (by omega)
            obtain ⟨b', off', _, _, hbb, -, -, x0q, -⟩ := Hat.out q (by omega)
            obtain ⟨rfl, rfl⟩ : b = b' ∧ off = off' := by simpa using hbb
            have hw := fun o => hbelq.cell (p := ⟨b, o, none⟩) hbl
            have y0 := (hw _).trans Hx0.out
            have yq := (hw _).trans x0q
            have Hy := Lib.hid (Hyes.out q hqn)
            have Hs := Lib.hid (show (fs[q]'(by omega)).name ≠ f.name → ∀ p (hp : p < n), p < q + 1 → (fs[p]'(by omega)).name ≠ f.name from fun hx p hp hpq => by
              by_cases e : p = q
              · subst e; exact hx
              · exact Hne.out p hp (by omega))
            clear hbb x0q hw hbelq
            generalize (fs[q]'(by omega)) = g at *
            by_cases hg : g.name = f.name
            · have hg1 : (g.name.toList == f.name.toList) = true := by simp [hg]
              have Hyy := Lib.hid (Hy.out hg)
              clear hg
              go_wp2_with fail
              go_quiet (fail)
              go_wp2_with fail
              go_ret2
              have e : R = ((n : Int), 7) := by rw [HR.out]; exact Hcases.out.1 _ (by rw [Hh.out, Hd.out]; simp only [headsT, Hnb.out, if_pos Hyy.out]; simp)
              exact ⟨by rw [e]; rfl, Hbq.out.trans (Drawn.below (w := wr) ⟨_, rfl⟩ _)⟩
            · have hg1 := toList_ne hg
              have Hss := Lib.hid (Hs.out hg)
              clear hg
              go_wp2_with fail
              go_quiet (fail)
              go_wp2_with fail
              go_roundw
              case rel => exact ⟨q + 1, by omega, by go_num, Hss.out, Hbq.out.trans (Drawn.below (w := wr) ⟨_, rfl⟩ _)⟩
              case measure => simp only [intOf]; omega
          · have hqe : q = n := by omega
            have hqn1 : decide ((q : Int) < (n : Int)) = false := decide_eq_false (by omega)
            have Hsn := Lib.hid (Hno.out (fun p hp => Hne.out p hp (by omega)))
            clear hqe
            go_wp2_with fail
            go_roundw
            case rel =>
              refine ⟨n + 1, by omega, by go_num, ?_, Hbq.out⟩
              rw [Hh.out, Hd.out, Htk.out]
              simp only [headsT, Hnb.out, Hsn.out]
              simp
            case measure => simp only [intOf]; omega
    · have hne : n = fs.length := by omega
      subst hne
      have hhn : headsT [] 0 fs = none := by rw [Hh.out]; simp [headsT]
      have hr2 := Hcases.out.2 hhn
      obtain ⟨b, off, v1, v3, rfl, hSb, hbl, x0, x1, x2, x3, hsz, hI, hps, hbs⟩ := Hat.out 0 hpos
      obtain ⟨a1, c1, rfl⟩ := rSlice_shape hps
      have hw := fun o => hbel.cell (p := ⟨b, o, none⟩) hbl
      simp only [Nat.zero_mul, Nat.add_zero] at x0 x1 x2 x3
      have y1 := (hw _).trans x1
      have y2 := (hw _).trans x2
      have h00 : (0 : Int) < (fs.length : Int) := by omega
      have Hr2 := Lib.hid (HR.out.trans hr2)
      have hz9 : decide ((fs.length : Int) < (fs.length : Int)) = false := decide_eq_false (by omega)
      clear x0 x1 x2 x3 hw hps hbs hSb hI hlt hhn hr2 hsz Hh
      generalize fs[0].params.length = pl at *
      by_cases hp0 : 0 < pl
      · have z2 : decide ((pl : Int) > 0) = true := decide_eq_true (by omega)
        have e := Lib.hid (show R = (0, 10) by rw [Hr2.out, if_pos (Or.inl hp0)])
        go_wp2_with fail
        go_ret2
        exact ⟨by rw [e.out]; rfl, hbel⟩
      obtain rfl : pl = 0 := by omega
      by_cases hr0 : fs[0].result = 0
      rotate_left
      · have z3 : (fs[0].result != 0) = true := by simpa using hr0
        have e := Lib.hid (show R = (0, 10) by rw [Hr2.out, if_pos (Or.inr hr0)])
        clear hp0 hr0
        go_wp2_with fail
        go_ret2
        exact ⟨by rw [e.out]; rfl, hbel⟩
      have z3 : (fs[0].result != 0) = false := by simp [hr0]
      have Hr := Lib.hid (show R = bodiesT fs d 0 fs by rw [Hr2.out, if_neg (by omega)])
      clear hp0 hr0 hbel
      go_wp2_with fail
      go_loopw [6] (fun i wr => ∃ n : Nat, n ≤ fs.length ∧ i = .int .i64 n ∧ R = bodiesT fs d n (fs.drop n) ∧ Below w.heap.size w wr) (fun i _ => fs.length - (intOf i).toNat)
      case atStart => exact ⟨0, Nat.zero_le _, rfl, by rw [Hr.out]; simp, Hbel.out⟩
      case round =>
        clear Hbel Hr2 Hr
        obtain ⟨n, hn, rfl, hh, hbel⟩ := hrel
        have Hh := Lib.hid hh
        have Hbel := Lib.hid hbel
        clear hh
        by_cases hlt : n < fs.length
        rotate_left
        · have hne : n = fs.length := by omega
          subst hne
          have hz8 : decide ((fs.length : Int) < (fs.length : Int)) = false := decide_eq_false (by omega)
          have He := Lib.hid (show R = (0, 0) by rw [Hh.out]; simp [bodiesT])
          clear hlt
          go_wp2_with fail
          go_ret2
          exact ⟨by rw [He.out]; rfl, hbel⟩
        have hi0 : (0 : Int) ≤ n := by omega
        have hi1 : (n : Int) < (fs.length : Int) := by omega
        have hwk : IntKind.i64.wrap ((n : Int) + 1) = (n : Int) + 1 := IntWalk.i64_in _ (by omega)
        obtain ⟨b', off', v1', v3', hbb, hSb, hbl, x0, x1, x2, x3, hsz, hI, hps, hbs⟩ := Hat.out n hlt
        obtain ⟨rfl, rfl⟩ : b = b' ∧ off = off' := by simpa using hbb
        obtain ⟨a1', c1', rfl⟩ := rSlice_shape hps
        obtain ⟨a3, c3, rfl⟩ := rSlice_shape hbs
        have hw := fun o => hbel.cell (p := ⟨b, o, none⟩) hbl
        have y0 := (hw _).trans x0
        have y1 := (hw _).trans x1
        have y2 := (hw _).trans x2
        have y3 := (hw _).trans x3
        have Hd := Lib.hid (List.drop_eq_getElem_cons hlt : fs.drop n = fs[n] :: fs.drop (n + 1))
        have hfitn := Hfit.out _ (List.getElem_mem hlt)
        have hsmn := Hsm.out _ (List.getElem_mem hlt)
        clear x0 x1 x2 x3 hw hSb hI hbb
        generalize fs[n] = f at *
        obtain ⟨a1'', c1'', hv1, hP1, hP2, hPat⟩ := rParams_val hps
        obtain ⟨rfl, -, rfl⟩ := Value.slice.inj hv1
        have hpl : f.params.length ≤ 9223372036854775807 := by unfold maxLen at hP2; omega
        have HPat := Lib.hid hPat
        have Hbs := Lib.hid hbs
        have Hfn := Lib.hid (And.intro hfitn hsmn)
        -- the function's box, the typer's box
        obtain ⟨W1, hW1⟩ : ∃ W1, W1 = wr.alloc (.cells #[.string f.name, .slice a1' f.params.length c1', .int .i64 f.result, .slice a3 f.body.length c3] 75) := ⟨_, rfl⟩
        obtain ⟨W, hW⟩ : ∃ W, W = W1.alloc (.cells #[.slice (some ⟨b, off, none⟩) fs.length cap, .string f.name, .slice a1' f.params.length c1', .int .i64 f.result, .slice a3 f.body.length c3, .slice none 0 0, .slice none 0 0, .slice none 0 0, .int .i64 0, .int .i64 0] 87) := ⟨_, rfl⟩
        have hb1 : Below w.heap.size w W1 := by rw [hW1]; exact hbel.alloc hbel.size _
        have hbW : Below w.heap.size w W := by rw [hW]; exact hb1.alloc hb1.size _
        have hW1s : W1.heap.size = wr.heap.size + 1 := by rw [hW1]; simp
        have hY0 : YAt W w.heap.size (wr.heap.size + 1) (.slice (some ⟨b, off, none⟩) fs.length cap) [.string f.name, .slice a1' f.params.length c1', .int .i64 f.result, .slice a3 f.body.length c3] nil3 (YSt.of [] 0 0) := by rw [hW, ← hW1s]; exact y_new W1 w.heap.size _ _ _ _ _ hb1.size
        have g0 : W.cell? ⟨wr.heap.size, 0, none⟩ = some (.string f.name) := by rw [hW, World.cell?_alloc_lt _ _ _ (by rw [hW1s]; simp), hW1, World.cell?_alloc_at _ _ _ _ rfl]; rfl
        have g1 : W.cell? ⟨wr.heap.size, 1, none⟩ = some (.slice a1' f.params.length c1') := by rw [hW, World.cell?_alloc_lt _ _ _ (by rw [hW1s]; simp), hW1, World.cell?_alloc_at _ _ _ _ rfl]; rfl
        have g2 : W.cell? ⟨wr.heap.size, 2, none⟩ = some (.int .i64 f.result) := by rw [hW, World.cell?_alloc_lt _ _ _ (by rw [hW1s]; simp), hW1, World.cell?_alloc_at _ _ _ _ rfl]; rfl
        have g3 : W.cell? ⟨wr.heap.size, 3, none⟩ = some (.slice a3 f.body.length c3) := by rw [hW, World.cell?_alloc_lt _ _ _ (by rw [hW1s]; simp), hW1, World.cell?_alloc_at _ _ _ _ rfl]; rfl
        have hWs : wr.heap.size + 1 < W.heap.size := by rw [hW]; simp [hW1s]
        have HbW := Lib.hid hbW
        have HY0 := Lib.hid hY0
        have Hbl2 := Lib.hid hbel.size
        have Hfun := Lib.hid (funcT_eq fs d f (endsF d f.body))
        have Hbod := Lib.hid (show bodiesT fs d n (f :: fs.drop (n + 1)) = if funcT fs d f (endsF d f.body) ≠ 0 then ((n : Int), funcT fs d f (endsF d f.body)) else bodiesT fs d (n + 1) (fs.drop (n + 1)) from rfl)
        have hent := yEnter_any hY0 (by simp) (by simp [flatG])
        have Hent := Lib.hid hent
        have Hg := Lib.hid (And.intro g0 (And.intro g1 (And.intro g2 g3)))
        clear hps hbs hfitn hsmn hv1 hP1 hP2 hPat hb1 hbW hY0 hent hbel
        have HnY := Lib.hid (show ¬ YM (wr.heap.size + 1) nil3 wr.heap.size from fun f => by
          rcases f with e | ⟨j, e⟩
          · omega
          · simp [nil3, Value.ownBlock] at e)
        by_cases hres : ¬ (0 ≤ f.result ∧ f.result ≤ 5)
        · have hdI : (decide ((0 : Int) ≤ f.result) && decide (f.result ≤ 5)) = false := by simp; omega
          have HRe := Lib.hid (show R = ((n : Int), 3) by rw [Hh.out, Hd.out, Hbod.out, Hfun.out, show headT f = 3 by unfold headT; rw [if_pos hres]]; simp)
          clear hres
          subst hW
          subst hW1
          go_wp2_with (first | (go_at_call 48; refine (refIn_any _ _ _ _).mono ?_; rintro e w' ⟨rfl, rfl⟩; rw [hdI]))
          refine Hent.out.mono ?_
          rintro en w2 ⟨rfl, V2, hy2, hs2, hn2⟩
          have b1 := (hs2.cell (o := 1) (by omega) HnY.out).trans Hg.out.2.1
          have b2 := (hs2.cell (o := 2) (by omega) HnY.out).trans Hg.out.2.2.1
          have b3 := (hs2.cell (o := 3) (by omega) HnY.out).trans Hg.out.2.2.2
          have HB2 := Lib.hid (HbW.out.trans (hs2.below HbW.out.size (fun j hj => (HY0.out.mem_lt hj).1)))
          clear hy2 hs2 hn2
          go_wp2_with fail
          clear Hent HPat Hfun Hbod Hg
          generalize f.params.length = pl at *
          go_loopw [9, 10] (fun s9 i wq => s9 = .int .i64 3 ∧ i = .int .i64 0 ∧ wq = w2) (fun _ _ _ => 0)
          case atStart => exact ⟨rfl, rfl, rfl⟩
          case round =>
            obtain ⟨rfl, rfl, rfl⟩ := hrel
            by_cases hpl0 : 0 < pl
            · go_wp2_with fail
              go_ret2
              exact ⟨by rw [HRe.out]; rfl, HB2.out⟩
            · first
                | (exfalso; omega)
                | (obtain rfl : pl = 0 := by omega
                   go_wp2_with fail
                   go_ret2
                   exact ⟨by rw [HRe.out]; rfl, HB2.out⟩)
        rw [Decidable.not_not] at hres
        have hdI : (decide ((0 : Int) ≤ f.result) && decide (f.result ≤ 5)) = true := by simp; omega
        have Hres := Lib.hid hres
        by_cases hp4 : 4 < f.params.length
        · have hp41 : decide ((f.params.length : Int) > 4) = true := decide_eq_true (by omega)
          have HRe := Lib.hid (show R = ((n : Int), 10) by rw [Hh.out, Hd.out, Hbod.out, Hfun.out, show headT f = 10 by unfold headT; rw [if_neg (fun h => h hres), if_pos hp4]]; simp)
          clear hres
          subst hW
          subst hW1
          go_wp2_with (first | (go_at_call 48; refine (refIn_any _ _ _ _).mono ?_; rintro e w' ⟨rfl, rfl⟩; rw [hdI]))
          refine Hent.out.mono ?_
          rintro en w2 ⟨rfl, V2, hy2, hs2, hn2⟩
          have b1 := (hs2.cell (o := 1) (by omega) HnY.out).trans Hg.out.2.1
          have b2 := (hs2.cell (o := 2) (by omega) HnY.out).trans Hg.out.2.2.1
          have b3 := (hs2.cell (o := 3) (by omega) HnY.out).trans Hg.out.2.2.2
          have HB2 := Lib.hid (HbW.out.trans (hs2.below HbW.out.size (fun j hj => (HY0.out.mem_lt hj).1)))
          clear hy2 hs2 hn2
          go_wp2_with fail
          clear Hent HPat Hfun Hbod Hg
          generalize f.params.length = pl at *
          go_loopw [9, 10] (fun s9 i wq => s9 = .int .i64 10 ∧ i = .int .i64 0 ∧ wq = w2) (fun _ _ _ => 0)
          case atStart => exact ⟨rfl, rfl, rfl⟩
          case round =>
            obtain ⟨rfl, rfl, rfl⟩ := hrel
            by_cases hpl0 : 0 < pl
            · go_wp2_with fail
              go_ret2
              exact ⟨by rw [HRe.out]; rfl, HB2.out⟩
            · first
                | (exfalso; omega)
                | (obtain rfl : pl = 0 := by omega
                   go_wp2_with fail
                   go_ret2
                   exact ⟨by rw [HRe.out]; rfl, HB2.out⟩)
        have hp41 : decide ((f.params.length : Int) > 4) = false := decide_eq_false (by omega)
        have Hfun2 := Lib.hid (show funcT fs d f (endsF d f.body) = match bindT (paramsT [[]] f.params) (fun G => blockT (stmtT fs f.result d 0 0) G f.body) with | .error e => e | .ok _ => if f.result ≠ 0 ∧ endsF d f.body = false then 11 else 0 by
          rw [Hfun.out, show headT f = 0 by unfold headT; rw [if_neg (fun h => h hres), if_neg hp4], if_neg (by simp)]
          cases bindT (paramsT [[]] f.params) (fun G => blockT (stmtT fs f.result d 0 0) G f.body) <;> rfl)
        have hp4_ : f.params.length ≤ 4 := by omega
        clear hres hp4
        subst hW
        subst hW1
        go_wp2_with (first | (go_at_call 48; refine (refIn_any _ _ _ _).mono ?_; rintro e w' ⟨rfl, rfl⟩; rw [hdI]))
        refine Hent.out.mono ?_
        rintro en w2 ⟨rfl, V2, hy2, hs2, hn2⟩
        have HY2 := Lib.hid hy2
        have HG2 := Lib.hid (show ∀ w', Since (YM (wr.heap.size + 1) V2) w2 w' → w'.cell? ⟨wr.heap.size, 1, none⟩ = some (.slice a1' f.params.length c1') ∧ w'.cell? ⟨wr.heap.size, 2, none⟩ = some (.int .i64 f.result) ∧ w'.cell? ⟨wr.heap.size, 3, none⟩ = some (.slice a3 f.body.length c3) ∧ Below w.heap.size w w' from fun w' hs => by
          have hsn := hn2.since hs2 hs
          exact ⟨(hsn.cell (o := 1) (by omega) HnY.out).trans Hg.out.2.1, (hsn.cell (o := 2) (by omega) HnY.out).trans Hg.out.2.2.1, (hsn.cell (o := 3) (by omega) HnY.out).trans Hg.out.2.2.2, HbW.out.trans (hsn.below HbW.out.size (fun j hj => (HY0.out.mem_lt hj).1))⟩)
        clear hy2 hs2 hn2
        go_wp2_with fail
        obtain ⟨wb, hwb⟩ : ∃ wb, wb = wr := ⟨_, rfl⟩
        subst hwb
        obtain ⟨F, hF⟩ : ∃ F, F = funcT fs d f (endsF d f.body) := ⟨_, rfl⟩
        rw [← hF] at Hbod Hfun2
        have Hends := Lib.hid (show ∀ w3, Below w.heap.size w w3 → Calls Tryd.prog 52 #[.slice a3 f.body.length c3] w3 fun e w' => e = .returned (.bool (endsF d f.body)) ∧ Below w3.heap.size w3 w' from fun w3 hb => endsOf_any d f.body _ w3 (Good.wide (Good.kept (Keep.of_below' hb (fun k hk _ => hk)) Hbs.out) (fun _ _ _ => trivial)))
        clear hF Hfun
        go_loopw [9, 10] (fun s9 s10 wq => ∃ (kk : Nat) (e : Int), s10 = .int .i64 kk ∧ s9 = .int .i64 e ∧ kk ≤ f.params.length ∧ ((e = 0 ∧ ∃ (Vk : Fin 3 → Value) (Gk : List Scope), paramsT [[]] (f.params.take kk) = .ok Gk ∧ YAt wq w.heap.size (wb.heap.size + 1) (.slice (some ⟨b, off, none⟩) fs.length cap) [.string f.name, .slice a1' f.params.length c1', .int .i64 f.result, .slice a3 f.body.length c3] Vk (YSt.of Gk 0 0) ∧ UniqG Gk ∧ SameG Gk [[]] ∧ (flatG Gk).length ≤ kk ∧ Since (YM (wb.heap.size + 1) V2) w2 wq ∧ YAt.NewY w2 (wb.heap.size + 1) V2 Vk) ∨ (e ≠ 0 ∧ F = e ∧ Since (YM (wb.heap.size + 1) V2) w2 wq))) (fun s9 s10 _ => f.params.length - (intOf s10).toNat)
        case atStart => exact ⟨0, 0, rfl, rfl, Nat.zero_le _, Or.inl ⟨rfl, V2, [[]], rfl, HY2.out, fun g hg => by simp at hg; subst hg; simp, SameG.of rfl, by simp [flatG], Since.refl _ _, YAt.NewY.refl _ _ _⟩⟩
        case round =>
          obtain ⟨wq, hwq0⟩ : ∃ wq, wq = wr := ⟨_, rfl⟩
          subst hwq0
          obtain ⟨kk, e, rfl, rfl, hkk, hor⟩ := hrel
          rcases hor with ⟨rfl, Vk, Gk, hpk, hyk, huk, hsg, hfk, hsk, hnk⟩ | ⟨hne, hFe, hsk⟩
          rotate_left
          · -- a name is at fault: the loop ends, and the function
            obtain ⟨b1, b2, b3, hbw⟩ := HG2.out wq hsk
            have he1 : (e == 0) = false := beq_eq_false_iff_ne.2 hne
            have he2 : (e != 0) = true := by simpa using hne
            have HRe := Lib.hid (show R = ((n : Int), e) by rw [Hh.out, Hd.out, Hbod.out, hFe, if_pos hne])
            have Hbw := Lib.hid hbw
            clear hne hFe hsk hbw HG2 Hent HPat Hbod Hfun2 Hg
            by_cases hlk : kk < f.params.length
            · have hlk1 : decide ((kk : Int) < (f.params.length : Int)) = true := decide_eq_true (by omega)
              have hlk2 : (kk : Int) < (f.params.length : Int) := by omega
              go_wp2_with fail
              go_ret2
              exact ⟨by rw [HRe.out]; rfl, Hbw.out⟩
            · have hlk1 : decide ((kk : Int) < (f.params.length : Int)) = false := decide_eq_false (by omega)
              go_wp2_with fail
              go_ret2
              exact ⟨by rw [HRe.out]; rfl, Hbw.out⟩
          obtain ⟨b1, b2, b3, hbw⟩ := HG2.out wq hsk
          have Hpk := Lib.hid hpk
          have Hyk := Lib.hid hyk
          have Huk := Lib.hid huk
          have Hsg := Lib.hid hsg
          have Hfk := Lib.hid hfk
          have Hsk := Lib.hid hsk
          have Hnk := Lib.hid hnk
          have Hbw := Lib.hid hbw
          obtain ⟨g, r, hgr⟩ := cons_of_len (show 0 < Gk.length by rw [hsg.1]; simp)
          have hr0 : r = [] := by have := hsg.2; rw [hgr] at this; exact this
          subst hr0
          subst hgr
          clear hpk hyk huk hsg hfk hsk hnk hbw
          by_cases hlk : kk < f.params.length
          · have hlk1 : decide ((kk : Int) < (f.params.length : Int)) = true := decide_eq_true (by omega)
            have hlk2 : (kk : Int) < (f.params.length : Int) := by omega
            have hlk0 : (0 : Int) ≤ kk := by omega
            have hwkk : IntKind.i64.wrap ((kk : Int) + 1) = (kk : Int) + 1 := IntWalk.i64_in _ (by omega)
            obtain ⟨bp, op, rfl, hSbp, hbpl, xp0, xp1, hpsz, hpI⟩ := HPat.out kk hlk
            have yp0 := (Hbw.out.cell (p := ⟨bp, op + kk * 2, none⟩) hbpl).trans xp0
            have yp1 := (Hbw.out.cell (p := ⟨bp, op + kk * 2 + 1, none⟩) hbpl).trans xp1
            have Hstop := Lib.hid (fun (e : Int) (he : declT [g] f.params[kk].1 f.params[kk].2 = .error e) => (show F = e by
              rw [Hfun2.out, show paramsT [[]] f.params = .error e from paramsT_stop hlk Hpk.out he]; rfl))
            have Hstep := Lib.hid (fun (G' : List Scope) (he : declT [g] f.params[kk].1 f.params[kk].2 = .ok G') => (show paramsT [[]] (f.params.take (kk + 1)) = .ok G' by rw [List.take_succ_eq_append_getElem hlk, paramsT_snoc, Hpk.out]; exact he))
            have hp4' : f.params.length ≤ 4 := by have := hp4_; omega
            clear xp0 xp1
            generalize f.params[kk] = p at *
            have hbpn : bp ≠ wb.heap.size + 1 := by have := Hbl2.out; omega
            have hnm := yName_any (Hyk.out.since (Since.drew (fun _ => False) wq) (fun _ e => e.elim)) (by simp) (by have := Hfk.out; omega) p.1 hpsz p.2
            have Hnm := Lib.hid hnm
            have hS0 : (fun w' : World => w'.cell? ⟨wb.heap.size, 1, none⟩ = some (.slice (some ⟨bp, op, none⟩) f.params.length c1') ∧ w'.cell? ⟨bp, op + kk * 2, none⟩ = some (.string p.1) ∧ w'.cell? ⟨bp, op + kk * 2 + 1, none⟩ = some (.int .i64 p.2)) wq := ⟨b1, yp0, yp1⟩
            have HSS := Lib.hid (show ∀ w3, Since (YM (wb.heap.size + 1) Vk) wq w3 → (fun w' : World => w'.cell? ⟨wb.heap.size, 1, none⟩ = some (.slice (some ⟨bp, op, none⟩) f.params.length c1') ∧ w'.cell? ⟨bp, op + kk * 2, none⟩ = some (.string p.1) ∧ w'.cell? ⟨bp, op + kk * 2 + 1, none⟩ = some (.int .i64 p.2)) w3 from fun w3 hs => by
              obtain ⟨b1', -, -, hbw'⟩ := HG2.out w3 (Hnk.out.since Hsk.out hs)
              exact ⟨b1', (hbw'.cell (p := ⟨bp, op + kk * 2, none⟩) hbpl).trans ((Hbw.out.cell (p := ⟨bp, op + kk * 2, none⟩) hbpl).symm.trans yp0), (hbw'.cell (p := ⟨bp, op + kk * 2 + 1, none⟩) hbpl).trans ((Hbw.out.cell (p := ⟨bp, op + kk * 2 + 1, none⟩) hbpl).symm.trans yp1)⟩)
            have HD := Lib.hid (Since.drew (YM (wb.heap.size + 1) Vk) wq)
            clear hnm
            go_wp2_with fail
            go_region_held3 (fun w' : World => w'.cell? ⟨wb.heap.size, 1, none⟩ = some (.slice (some ⟨bp, op, none⟩) f.params.length c1') ∧ w'.cell? ⟨bp, op + kk * 2, none⟩ = some (.string p.1) ∧ w'.cell? ⟨bp, op + kk * 2 + 1, none⟩ = some (.int .i64 p.2)) (first | exact hS0 | exact hS2) (first | (go_at_call 50; refine Hnm.out.mono ?_; rintro en w3 ⟨e, rfl, hp3⟩; have hS2 := HSS.out w3 (HD.out.trans (NamePost.since ⟨e, rfl, hp3⟩))))
            have hx : ((e = 0 ∧ ∃ (V3 : Fin 3 → Value) (G3 : List Scope), paramsT [[]] (f.params.take (kk + 1)) = .ok G3 ∧ YAt w3 w.heap.size (wb.heap.size + 1) (.slice (some ⟨b, off, none⟩) fs.length cap) [.string f.name, .slice (some ⟨bp, op, none⟩) f.params.length c1', .int .i64 f.result, .slice a3 f.body.length c3] V3 (YSt.of G3 0 0) ∧ UniqG G3 ∧ SameG G3 [[]] ∧ (flatG G3).length ≤ kk + 1 ∧ Since (YM (wb.heap.size + 1) V2) w2 w3 ∧ YAt.NewY w2 (wb.heap.size + 1) V2 V3) ∨ (e ≠ 0 ∧ F = e ∧ Since (YM (wb.heap.size + 1) V2) w2 w3)) := by
              have hp := hp3
              cases hD : declT [g] p.1 p.2 with
              | error e' =>
                rw [hD] at hp
                obtain ⟨rfl, hne, V3, q1, q2, q3⟩ := hp
                exact Or.inr ⟨hne, Hstop.out e hD, Hnk.out.since Hsk.out (HD.out.trans q2)⟩
              | ok G' =>
                rw [hD] at hp
                obtain ⟨rfl, V3, q1, q2, q3⟩ := hp
                obtain ⟨u1, u2, u3⟩ := declT_keeps Huk.out hD
                exact Or.inl ⟨rfl, V3, G', Hstep.out G' hD, q1, u1, u2.trans Hsg.out, by have := Hfk.out; omega, Hnk.out.since Hsk.out (HD.out.trans q2), Hnk.out.trans (fun j hj => q3 j hj) Hsk.out.size⟩
            have HX := Lib.hid hx
            clear hp3 hx hS2
            all_goals go_wp2_with fail
            go_roundw
            case rel => exact ⟨kk + 1, e, by go_num, rfl, by omega, HX.out⟩
            case measure => simp only [intOf]; omega
          · -- all names stand
            have hlk1 : decide ((kk : Int) < (f.params.length : Int)) = false := decide_eq_false (by omega)
            have hke : kk = f.params.length := by omega
            have hpk := Hpk.out
            rw [hke, List.take_length] at hpk
            have Hfun3 := Lib.hid (show F = match blockT (stmtT fs f.result d 0 0) [g] f.body with | .error e => e | .ok _ => if f.result ≠ 0 ∧ endsF d f.body = false then 11 else 0 by rw [Hfun2.out, hpk]; rfl)
            have hin : YIn fs d f.result 1 f.body.length wq w.heap.size (wb.heap.size + 1) (.slice (some ⟨b, off, none⟩) fs.length cap) [.string f.name, .slice a1' f.params.length c1', .int .i64 f.result, .slice a3 f.body.length c3] Vk [g] 0 0 :=
              ⟨Hyk.out, Huk.out, Good.kept (Keep.of_below' Hbw.out (fun k hk _ => hk)) Hf.out, rfl, by omega, by simp, by simp, by simp, by have := Hfk.out; have := Hfn.out.2.1; omega⟩
            have hblk := yBlock_any (yStmt_any fs d f.result w.heap.size (wb.heap.size + 1) _ _ d) f.body hin _ (Good.kept (Keep.of_below' Hbw.out (fun k hk _ => hk)) Hbs.out) Hfn.out.1 Hfn.out.2.2
            have Hblk := Lib.hid hblk
            clear hke hpk hin hblk
            go_wp2_with fail
            refine Hblk.out.mono ?_
            rintro en w3 hp3
            obtain ⟨b1', b2', b3', hbw3⟩ := HG2.out w3 (Hnk.out.since Hsk.out hp3.since)
            have Hbw3 := Lib.hid hbw3
            obtain ⟨e, rfl, hp3⟩ := hp3
            have Hend := Lib.hid (Hends.out w3 hbw3)
            clear hbw3
            cases hB : blockT (stmtT fs f.result d 0 0) [g] f.body with
            | error e' =>
              rw [show (0 : Int).toNat = 0 from rfl, hB] at hp3
              obtain ⟨rfl, hne, -⟩ := hp3
              have he1 : (e == 0) = false := beq_eq_false_iff_ne.2 hne
              have he2 : (e != 0) = true := by simpa using hne
              have HRe := Lib.hid (show R = ((n : Int), e) by rw [Hh.out, Hd.out, Hbod.out, Hfun3.out, hB]; simp only [ne_eq, hne, not_false_eq_true, if_true])
              clear hne hB
              go_wp2_with fail
              go_ret2
              exact ⟨by rw [HRe.out]; rfl, Hbw3.out⟩
            | ok G' =>
              rw [show (0 : Int).toNat = 0 from rfl, hB] at hp3
              obtain ⟨rfl, -⟩ := hp3
              have Hfun4 := Lib.hid (show F = if f.result ≠ 0 ∧ endsF d f.body = false then 11 else 0 by rw [Hfun3.out, hB])
              clear hB
              by_cases hr0 : f.result = 0
              · have hr1 : (f.result != 0) = false := by simp [hr0]
                have HRe := Lib.hid (show R = bodiesT fs d (n + 1) (fs.drop (n + 1)) by rw [Hh.out, Hd.out, Hbod.out, show F = 0 by rw [Hfun4.out, if_neg (by simp [hr0])]]; simp)
                clear hr0
                go_wp2_with fail
                go_roundw
                case rel => exact ⟨n + 1, by omega, by go_num, HRe.out, Hbw3.out⟩
                case measure => simp only [intOf]; omega
              · have hr1 : (f.result != 0) = true := by simpa using hr0
                by_cases hen : endsF d f.body = true
                · have HRe := Lib.hid (show R = bodiesT fs d (n + 1) (fs.drop (n + 1)) by rw [Hh.out, Hd.out, Hbod.out, show F = 0 by rw [Hfun4.out, if_neg (by simp [hen])]]; simp)
                  have Hen := Lib.hid hen
                  clear hr0 hen
                  go_wp2_with fail
                  refine Hend.out.mono ?_
                  rintro en w4 ⟨rfl, hb4⟩
                  rw [Hen.out]
                  have HB4 := Lib.hid (Hbw3.out.trans (hb4.mono Hbw3.out.size))
                  clear hb4
                  go_wp2_with fail
                  go_roundw
                  case rel => exact ⟨n + 1, by omega, by go_num, HRe.out, HB4.out⟩
                  case measure => simp only [intOf]; omega
                · have hen' : endsF d f.body = false := by simpa using hen
                  have HRe := Lib.hid (show R = ((n : Int), 11) by rw [Hh.out, Hd.out, Hbod.out, show F = 11 by rw [Hfun4.out, if_pos ⟨hr0, hen'⟩]]; simp)
                  have Hen := Lib.hid hen'
                  clear hr0 hen hen'
                  go_wp2_with fail
                  refine Hend.out.mono ?_
                  rintro en w4 ⟨rfl, hb4⟩
                  rw [Hen.out]
                  have HB4 := Lib.hid (Hbw3.out.trans (hb4.mono Hbw3.out.size))
                  clear hb4
                  go_wp2_with fail
                  go_ret2
                  exact ⟨by rw [HRe.out]; rfl, HB4.out⟩
end Go.Proofs.YtaomlfbcfmmhlaaDoor

/-
  Texts joined: TyDecl.
-/
import Derived.Test.YtaomlfbcfmmhlaaDoorTCD
import Derived.Test.YtaomlfbcfmmhlaaDoorTCK
import Derived.Deep.QuietTactic
import Derived.BigQuiet

/-
  typed's checker: declare: the contract.
-/
namespace Go.Proofs.YtaomlfbcfmmhlaaDoor
open Go.RowKit Go.Pst
set_option linter.unusedVariables false
set_option linter.unusedSimpArgs false

/-- What a declaration does. -/
def DeclPost (st : Chk) (s : ByteArray) (t : Int) (st' : Chk) : Prop :=
  (∃ g', st'.G = g' :: st.G.tail) ∧ st'.loops = st.loops ∧ st'.depth = st.depth ∧ (st.fault ≠ 0 → st'.fault = st.fault) ∧
  (st.fault = 0 → match declT st.G s t with | .ok G' => st'.fault = 0 ∧ st'.G = G' | .error e => st'.fault = e)
theorem declT_form {g : Scope} {r : List Scope} {s : ByteArray} {t : Int} (h : nameB s.toList = false) : declT (g :: r) s t = .error 4 := by simp [declT, h]
theorem declT_twice {g : Scope} {r : List Scope} {s : ByteArray} {t u : Int} (h : nameB s.toList = true) (h1 : lookT g s = some u) : declT (g :: r) s t = .error 7 := by simp [declT, h, h1]
theorem declT_type {g : Scope} {r : List Scope} {s : ByteArray} {t : Int} (h : nameB s.toList = true) (h1 : lookT g s = none) (h2 : ¬ (1 ≤ t ∧ t ≤ 5)) : declT (g :: r) s t = .error 9 := by
  unfold declT
  simp only [h, h1, h2, Bool.true_eq_false, if_false, Option.isSome_none, Bool.false_eq_true, not_false_eq_true, if_true]
theorem declT_ok {g : Scope} {r : List Scope} {s : ByteArray} {t : Int} (h : nameB s.toList = true) (h1 : lookT g s = none) (h2 : 1 ≤ t ∧ t ≤ 5) : declT (g :: r) s t = .ok ((g ++ [(s, t)]) :: r) := by
  unfold declT
  simp only [h, h1, h2, Bool.true_eq_false, if_false, Option.isSome_none, Bool.false_eq_true, not_true_eq_false, and_self]
theorem zero_int (w : World) : (zeroValue 3).run Tryd.prog w = .ok (.int .i64 0) w := by kernel_rfl

set_option maxHeartbeats 2000000 in
theorem typedDeclare_any (w : World) (base bc : Nat) (vf : Value) (cf : List Value) (vS : Value) (bs : List Nat) (st : Chk) (h : ChkAt w base bc vf cf vS bs st) (g : Scope) (r : List Scope) (hG : st.G = g :: r) (hl : r.length ≤ 100000) (s : ByteArray) (hs : s.size ≤ maxLen) (t : Int) :
    Calls Tryd.prog 87 #[.pointer (some ⟨bc, 0, none⟩), .string s, .int .i64 t] w fun en w' => en = .returned (.tuple #[]) ∧ ∃ st', ChkAt w' base bc vf cf vS bs st' ∧ Since (ChkM bc vS bs) w w' ∧ DeclPost st s t st' := by
  have hmaps := h.maps
  rw [hG] at hmaps
  cases bs with
  | nil => exact hmaps.elim
  | cons b bs' =>
  obtain ⟨⟨hb1, hb2, m, hm, hsc⟩, -⟩ := hmaps
  have hrow := h.row
  rw [hG] at hrow
  have hlenr : bs'.length = r.length := by have := h.maps.len; rw [hG] at this; simpa using this
  obtain ⟨gS, cap, rfl, -, -, hgl, hgc, -⟩ := rowGet hrow (i := r.length) (u := .map (some b)) (by
    show (mapRow bs' ++ [_])[r.length]? = _
    rw [List.getElem?_append_right (by rw [mapRow_length]; omega), mapRow_length, hlenr, Nat.sub_self]
    rfl)
  have c5 := h.c5
  have hlt := h.lb.2
  have H := Lib.hid h
  have HG := Lib.hid hG
  have Hsc := Lib.hid hsc
  have Hm := Lib.hid hm
  obtain ⟨m1, hm1⟩ : ∃ m1, m1 = r.length + 1 := ⟨_, rfl⟩
  have hw0 : IntKind.i64.wrap ((m1 : Int) - 1) = (r.length : Int) := by rw [show ((m1 : Nat) : Int) - 1 = r.length by omega]; exact IntWalk.i64_in _ (by omega)
  have hj0 : (0 : Int) ≤ (r.length : Int) := by omega
  have hj1 : (r.length : Int) < (m1 : Int) := by omega
  simp only [List.length_cons] at c5
  rw [← hm1] at c5
  have Hname := Lib.hid (fun w' => typedName_any s w' hs)
  have hlk := fun n => hm.heap (w' := w.drewN n) rfl |>.lookup (κ := ByteArray) Tryd.underlying186 Tryd.underlying9 (zero_int _) s true
  have hlk' : ∀ n, (Instr.lookup 186 (.map (some b)) (.string s) true).run Tryd.prog (w.drewN n) = .ok (.tuple #[.int .i64 ((lookT g s).getD 0), .bool (lookT g s).isSome]) (w.drewN n) := fun n => by
    refine (hlk n).trans ?_
    rw [if_pos rfl, hsc s]
    cases lookT g s <;> rfl
  have Hput := Lib.hid (show ∀ (W W' : World) (st1 : Chk), ChkAt W base bc vf cf (.slice (some ⟨gS, 0, none⟩) m1 cap) (b :: bs') st1 → st1.G = g :: r → W.grownBy W' (some b) → MapI W' b (putI m s (.int .i64 t)) → ∃ g', ChkAt W' base bc vf cf (.slice (some ⟨gS, 0, none⟩) m1 cap) (b :: bs') { st1 with G := g' :: r } ∧ Since (ChkM bc (.slice (some ⟨gS, 0, none⟩) m1 cap) (b :: bs')) W W' ∧ (lookT g s = none → g' = g ++ [(s, t)]) from fun W W' st1 h1 h2 h3 h4 => by
    cases hh : lookT g s with
    | none => exact ⟨_, (h1.put rfl h2 h3 h4 (hsc.put s t hh)).1, (h1.put rfl h2 h3 h4 (hsc.put s t hh)).2, fun _ => rfl⟩
    | some u => exact ⟨_, (h1.put rfl h2 h3 h4 (hsc.over s t)).1, (h1.put rfl h2 h3 h4 (hsc.over s t)).2, fun e => by cases e⟩)
  rw [show (g :: r).length = m1 by simp [hm1]] at *
  clear hlk h hrow hsc hm1 hG
  go_enter Tryd.func87, Tryd.ntmps87
  go_wp2_with fail
  go_quiet (fail)
  have hlkq := hlk' nq
  clear hlk'
  go_wp2_with fail
  refine (Hname.out _).mono ?_
  rintro e w1 ⟨rfl, hbw⟩
  have hs1 : Since (fun _ => False) w w1 := (Since.drewN _ _ _).trans ⟨hbw.os, hbw.tape, hbw.output, hbw.size, fun k hk _ => hbw.block k hk⟩
  have hc1 := H.out.since hs1 (fun _ e => e.elim)
  have hm1 := Hm.out.heap (hs1.block b Hm.out.lt id)
  have HC1 := Lib.hid hc1
  have HS1 := Lib.hid (hs1.mono (G := ChkM bc (.slice (some ⟨gS, 0, none⟩) m1 cap) (b :: bs')) (fun _ e => e.elim))
  clear hs1 hc1 hbw hlkq
  cases hn : nameB s.toList with
  | false =>
    have Hn := Lib.hid hn
    clear hn
    go_wp2_with fail
    refine (typedWrong_any w1 base bc vf cf _ _ st HC1.out 4).mono ?_
    rintro e w2 ⟨rfl, hc2, hs2⟩
    have hm2 := hm1.heap (hs2.block b hm1.lt (by have := (HC1.out.map_ne (k := b) (by simp)).1; exact this))
    have HC2 := Lib.hid hc2
    have HS2 := Lib.hid (hs2.mono (G := ChkM bc (.slice (some ⟨gS, 0, none⟩) m1 cap) (b :: bs')) (fun _ e => Or.inl e))
    clear hc2 hs2
    go_wp2_with (first | (refine wpList_updateI (κ := ByteArray) rfl _ _ _ 186 rfl Tryd.underlying186 Tryd.underlying9 _ m rfl hm2 s (.int .i64 t) rfl rfl ?_; intro w3 hm3 hg3))
    obtain ⟨g', p1, p2, p3⟩ := Hput.out _ w3 _ HC2.out (by show st.G = _; exact HG.out) hg3 hm3
    go_end0
    refine ⟨rfl, _, p1, HS1.out.trans (HS2.out.trans p2), ⟨g', by simp [HG.out]⟩, rfl, rfl, fun hf => by simp [Chk.bad, hf], fun hf => ?_⟩
    rw [HG.out, declT_form Hn.out]
    simp [Chk.bad, hf]
  | true =>
    have Hn := Lib.hid hn
    clear hn
    cases hh : lookT g s with
    | some u =>
      have Hh := Lib.hid hh
      go_wp2_with fail
      refine (typedWrong_any w1 base bc vf cf _ _ st HC1.out 7).mono ?_
      rintro e w2 ⟨rfl, hc2, hs2⟩
      have hm2 := hm1.heap (hs2.block b hm1.lt (by have := (HC1.out.map_ne (k := b) (by simp)).1; exact this))
      have HC2 := Lib.hid hc2
      have HS2 := Lib.hid (hs2.mono (G := ChkM bc (.slice (some ⟨gS, 0, none⟩) m1 cap) (b :: bs')) (fun _ e => Or.inl e))
      clear hc2 hs2
      go_wp2_with (first | (refine wpList_updateI (κ := ByteArray) rfl _ _ _ 186 rfl Tryd.underlying186 Tryd.underlying9 _ m rfl hm2 s (.int .i64 t) rfl rfl ?_; intro w3 hm3 hg3))
      obtain ⟨g', p1, p2, p3⟩ := Hput.out _ w3 _ HC2.out (by show st.G = _; exact HG.out) hg3 hm3
      go_end0
      refine ⟨rfl, _, p1, HS1.out.trans (HS2.out.trans p2), ⟨g', by simp [HG.out]⟩, rfl, rfl, fun hf => by simp [Chk.bad, hf], fun hf => ?_⟩
      rw [HG.out, declT_twice Hn.out Hh.out]
      simp [Chk.bad, hf]
    | none =>
      have Hh := Lib.hid hh
      by_cases ht : 1 ≤ t ∧ t ≤ 5
      · have hd : decide (1 ≤ t ∧ t ≤ 5) = true := decide_eq_true ht
        have Ht := Lib.hid ht
        clear ht
        go_wp2_with (first | (go_at_call 139; refine (typedValue_any t _).mono ?_; rintro e w' ⟨rfl, rfl⟩; rw [hd]) | (refine wpList_updateI (κ := ByteArray) rfl _ _ _ 186 rfl Tryd.underlying186 Tryd.underlying9 _ m rfl hm1 s (.int .i64 t) rfl rfl ?_; intro w3 hm3 hg3))
        obtain ⟨g', p1, p2, p3⟩ := Hput.out _ w3 _ HC1.out (by show st.G = _; exact HG.out) hg3 hm3
        obtain rfl := p3 Hh.out
        go_end0
        refine ⟨rfl, _, p1, HS1.out.trans p2, ⟨g ++ [(s, t)], by simp [HG.out]⟩, rfl, rfl, fun hf => rfl, fun hf => ?_⟩
        rw [HG.out, declT_ok Hn.out Hh.out Ht.out]
        exact ⟨hf, rfl⟩
      · have hd : decide (1 ≤ t ∧ t ≤ 5) = false := decide_eq_false ht
        have Ht := Lib.hid ht
        clear ht
        go_wp2_with (first | (go_at_call 139; refine (typedValue_any t _).mono ?_; rintro e w' ⟨rfl, rfl⟩; rw [hd]))
        refine (typedWrong_any w1 base bc vf cf _ _ st HC1.out 9).mono ?_
        rintro e w2 ⟨rfl, hc2, hs2⟩
        have hm2 := hm1.heap (hs2.block b hm1.lt (by have := (HC1.out.map_ne (k := b) (by simp)).1; exact this))
        have HC2 := Lib.hid hc2
        have HS2 := Lib.hid (hs2.mono (G := ChkM bc (.slice (some ⟨gS, 0, none⟩) m1 cap) (b :: bs')) (fun _ e => Or.inl e))
        clear hc2 hs2
        go_wp2_with (first | (refine wpList_updateI (κ := ByteArray) rfl _ _ _ 186 rfl Tryd.underlying186 Tryd.underlying9 _ m rfl hm2 s (.int .i64 t) rfl rfl ?_; intro w3 hm3 hg3))
        obtain ⟨g', p1, p2, p3⟩ := Hput.out _ w3 _ HC2.out (by show st.G = _; exact HG.out) hg3 hm3
        go_end0
        refine ⟨rfl, _, p1, HS1.out.trans (HS2.out.trans p2), ⟨g', by simp [HG.out]⟩, rfl, rfl, fun hf => by simp [Chk.bad, hf], fun hf => ?_⟩
        rw [HG.out, declT_type Hn.out Hh.out Ht.out]
        simp [Chk.bad, hf]
end Go.Proofs.YtaomlfbcfmmhlaaDoor

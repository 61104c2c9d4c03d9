/-
  Texts joined: TyTwo.
-/
import Derived.Test.YtaomlfbcfmmhlaaDoorTCD

/-
  typed's checker: one, two: contracts (printed by wip/gen_ty.py).
-/
namespace Go.Proofs.YtaomlfbcfmmhlaaDoor
open Go.RowKit Go.Pst
set_option linter.unusedVariables false
set_option linter.unusedSimpArgs false

/-- What a checked thing leaves: a type, or the first fault. -/
def KindEnd (st : Chk) (R : Except Int Int) (x : Int) (st' : Chk) : Prop :=
  match R with
  | .ok t => x = t ∧ st' = st
  | .error e => e ≠ 0 ∧ st'.fault = e ∧ st'.G = st.G ∧ st'.loops = st.loops
theorem KindEnd.bad {st : Chk} (h0 : st.fault = 0) (x : Int) {e : Int} (he : e ≠ 0) : KindEnd st (.error e) x (st.bad e) := ⟨he, by simp [Chk.bad, h0], rfl, rfl⟩
theorem KindEnd.want1 {st : Chk} (h0 : st.fault = 0) (a k t : Int) : KindEnd st (if a = k then .ok t else .error 9) t (if a = k then st else st.bad 9) := by
  by_cases h : a = k
  · simp only [if_pos h]; exact ⟨rfl, rfl⟩
  · simp only [if_neg h]; exact KindEnd.bad h0 t (by decide)
theorem KindEnd.want2 {st : Chk} (h0 : st.fault = 0) (a b k l t : Int) : KindEnd st (if a = k ∧ b = l then .ok t else .error 9) t (if b = l then (if a = k then st else st.bad 9) else (if a = k then st else st.bad 9).bad 9) := by
  by_cases h : a = k
  · by_cases h2 : b = l
    · simp only [if_pos h, if_pos h2, if_pos (And.intro h h2)]; exact ⟨rfl, rfl⟩
    · simp only [if_pos h, if_neg h2, if_neg (fun e : a = k ∧ b = l => h2 e.2)]; exact KindEnd.bad h0 t (by decide)
  · simp only [if_neg h, if_neg (fun e : a = k ∧ b = l => h e.1)]
    by_cases h2 : b = l
    · simp only [if_pos h2]; exact KindEnd.bad h0 t (by decide)
    · simp only [if_neg h2]; rw [Chk.bad_bad st (by decide)]; exact KindEnd.bad h0 t (by decide)

def oneT (s : List UInt8) (t : Int) : Except Int Int := if s = [45] then (if t = 1 then .ok 1 else .error 9) else if s = [33] then (if t = 2 then .ok 2 else .error 9) else .error 4
def OpPost (w : World) (base bc : Nat) (vf : Value) (cf : List Value) (vS : Value) (bs : List Nat) (st : Chk) (R : Except Int Int) (en : Ending) (w' : World) : Prop :=
  ∃ x st', en = .returned (.int .i64 x) ∧ ChkAt w' base bc vf cf vS bs st' ∧ Since (fun k => k = bc) w w' ∧ KindEnd st R x st'

theorem typedOne_any (w : World) (base bc : Nat) (vf : Value) (cf : List Value) (vS : Value) (bs : List Nat) (st : Chk) (h : ChkAt w base bc vf cf vS bs st) (h0 : st.fault = 0) (s : ByteArray) (t : Int) :
    Calls Tryd.prog 199 #[.pointer (some ⟨bc, 0, none⟩), .string s, .int .i64 t] w (OpPost w base bc vf cf vS bs st (oneT s.toList t)) := by
  have H := Lib.hid h
  have H0 := Lib.hid h0
  clear h h0
  by_cases h1 : s.toList = [45]
  · have Hr := Lib.hid (show oneT s.toList t = if t = 1 then .ok 1 else .error 9 by unfold oneT; rw [if_pos h1])
    go_enter Tryd.func199, Tryd.ntmps199
    go_wp2_with fail
    refine (typedWant_any w base bc vf cf vS bs st H.out t 1).mono ?_
    rintro en w1 ⟨rfl, hcw1, hsw1⟩
    have HCw1 := Lib.hid hcw1
    have HSw1 := Lib.hid hsw1
    clear hcw1 hsw1
    go_wp2_with fail
    go_ret
    exact ⟨_, _, rfl, HCw1.out, HSw1.out, by rw [Hr.out]; exact KindEnd.want1 H0.out t 1 1⟩
  by_cases h2 : s.toList = [33]
  · have Hr := Lib.hid (show oneT s.toList t = if t = 2 then .ok 2 else .error 9 by unfold oneT; rw [if_neg h1, if_pos h2])
    clear h1
    go_enter Tryd.func199, Tryd.ntmps199
    go_wp2_with fail
    refine (typedWant_any w base bc vf cf vS bs st H.out t 2).mono ?_
    rintro en w1 ⟨rfl, hcw1, hsw1⟩
    have HCw1 := Lib.hid hcw1
    have HSw1 := Lib.hid hsw1
    clear hcw1 hsw1
    go_wp2_with fail
    go_ret
    exact ⟨_, _, rfl, HCw1.out, HSw1.out, by rw [Hr.out]; exact KindEnd.want1 H0.out t 2 2⟩
  · have Hr := Lib.hid (show oneT s.toList t = .error 4 by unfold oneT; rw [if_neg h1, if_neg h2])
    have d1 : (s.toList == [45]) = false := by simpa using h1
    have d2 : (s.toList == [33]) = false := by simpa using h2
    clear h1 h2
    go_enter Tryd.func199, Tryd.ntmps199
    go_wp2_with fail
    refine (typedWrong_any w base bc vf cf vS bs st H.out 4).mono ?_
    rintro en w1 ⟨rfl, hc1, hs1⟩
    have HC1 := Lib.hid hc1
    have HS1 := Lib.hid hs1
    clear hc1 hs1
    go_wp2_with fail
    go_ret
    exact ⟨_, _, rfl, HC1.out, HS1.out, by rw [Hr.out]; exact KindEnd.bad H0.out _ (by decide)⟩

set_option maxRecDepth 4000 in
set_option maxHeartbeats 1000000 in
theorem two_43 (w : World) (base bc : Nat) (vf : Value) (cf : List Value) (vS : Value) (bs : List Nat) (st : Chk) (h : ChkAt w base bc vf cf vS bs st) (h0 : st.fault = 0) (s : ByteArray) (a b : Int) (hs : s.toList = [43]) :
    Calls Tryd.prog 198 #[.pointer (some ⟨bc, 0, none⟩), .string s, .int .i64 a, .int .i64 b] w (OpPost w base bc vf cf vS bs st (if (a = 1 ∨ a = 3) ∧ a = b then .ok a else .error 9)) := by
  have H := Lib.hid h
  have H0 := Lib.hid h0
  clear h h0
  obtain ⟨R, hR⟩ : ∃ R : Except Int Int, R = (if (a = 1 ∨ a = 3) ∧ a = b then .ok a else .error 9) := ⟨_, rfl⟩
  rw [← hR]
  have HR := Lib.hid hR
  clear hR
  go_enter Tryd.func198, Tryd.ntmps198
  go_wp2_with (first | (go_at_call 86; refine (typedWrong_any w base bc vf cf vS bs st H.out 9).mono ?_; rintro en w1 ⟨rfl, hc1, hs1⟩))
  all_goals go_ret
  all_goals simp only [bne_iff_ne, ne_eq, bne_eq_false_iff_eq, Decidable.not_not] at *
  all_goals first
    | exact ⟨_, _, rfl, hc1, hs1, by rw [HR.out, if_neg (by omega)]; exact KindEnd.bad H0.out _ (by decide)⟩
    | exact ⟨_, _, rfl, H.out, Since.refl _ _, by rw [HR.out, if_pos (by omega)]; exact ⟨by omega, rfl⟩⟩

set_option maxRecDepth 4000 in
set_option maxHeartbeats 1000000 in
theorem two_45 (w : World) (base bc : Nat) (vf : Value) (cf : List Value) (vS : Value) (bs : List Nat) (st : Chk) (h : ChkAt w base bc vf cf vS bs st) (h0 : st.fault = 0) (s : ByteArray) (a b : Int) (hs : s.toList = [45]) :
    Calls Tryd.prog 198 #[.pointer (some ⟨bc, 0, none⟩), .string s, .int .i64 a, .int .i64 b] w (OpPost w base bc vf cf vS bs st (if a = 1 ∧ b = 1 then .ok 1 else .error 9)) := by
  have H := Lib.hid h
  have H0 := Lib.hid h0
  clear h h0
  obtain ⟨R, hR⟩ : ∃ R : Except Int Int, R = (if a = 1 ∧ b = 1 then .ok 1 else .error 9) := ⟨_, rfl⟩
  rw [← hR]
  have HR := Lib.hid hR
  clear hR
  go_enter Tryd.func198, Tryd.ntmps198
  go_wp2_with fail
  refine (typedWant_any w base bc vf cf vS bs st H.out a 1).mono ?_
  rintro en w1 ⟨rfl, hcw1, hsw1⟩
  have HCw1 := Lib.hid hcw1
  have HSw1 := Lib.hid hsw1
  clear hcw1 hsw1
  go_wp2_with fail
  refine (typedWant_any w1 base bc vf cf vS bs _ HCw1.out b 1).mono ?_
  rintro en w2 ⟨rfl, hcw2, hsw2⟩
  have HCw2 := Lib.hid hcw2
  have HSw2 := Lib.hid hsw2
  clear hcw2 hsw2
  go_wp2_with fail
  go_ret
  exact ⟨_, _, rfl, HCw2.out, HSw1.out.trans HSw2.out, by rw [HR.out]; exact KindEnd.want2 H0.out a b 1 1 1⟩

set_option maxRecDepth 4000 in
set_option maxHeartbeats 1000000 in
theorem two_42 (w : World) (base bc : Nat) (vf : Value) (cf : List Value) (vS : Value) (bs : List Nat) (st : Chk) (h : ChkAt w base bc vf cf vS bs st) (h0 : st.fault = 0) (s : ByteArray) (a b : Int) (hs : s.toList = [42]) :
    Calls Tryd.prog 198 #[.pointer (some ⟨bc, 0, none⟩), .string s, .int .i64 a, .int .i64 b] w (OpPost w base bc vf cf vS bs st (if a = 1 ∧ b = 1 then .ok 1 else .error 9)) := by
  have H := Lib.hid h
  have H0 := Lib.hid h0
  clear h h0
  obtain ⟨R, hR⟩ : ∃ R : Except Int Int, R = (if a = 1 ∧ b = 1 then .ok 1 else .error 9) := ⟨_, rfl⟩
  rw [← hR]
  have HR := Lib.hid hR
  clear hR
  go_enter Tryd.func198, Tryd.ntmps198
  go_wp2_with fail
  refine (typedWant_any w base bc vf cf vS bs st H.out a 1).mono ?_
  rintro en w1 ⟨rfl, hcw1, hsw1⟩
  have HCw1 := Lib.hid hcw1
  have HSw1 := Lib.hid hsw1
  clear hcw1 hsw1
  go_wp2_with fail
  refine (typedWant_any w1 base bc vf cf vS bs _ HCw1.out b 1).mono ?_
  rintro en w2 ⟨rfl, hcw2, hsw2⟩
  have HCw2 := Lib.hid hcw2
  have HSw2 := Lib.hid hsw2
  clear hcw2 hsw2
  go_wp2_with fail
  go_ret
  exact ⟨_, _, rfl, HCw2.out, HSw1.out.trans HSw2.out, by rw [HR.out]; exact KindEnd.want2 H0.out a b 1 1 1⟩

set_option maxRecDepth 4000 in
set_option maxHeartbeats 1000000 in
theorem two_47 (w : World) (base bc : Nat) (vf : Value) (cf : List Value) (vS : Value) (bs : List Nat) (st : Chk) (h : ChkAt w base bc vf cf vS bs st) (h0 : st.fault = 0) (s : ByteArray) (a b : Int) (hs : s.toList = [47]) :
    Calls Tryd.prog 198 #[.pointer (some ⟨bc, 0, none⟩), .string s, .int .i64 a, .int .i64 b] w (OpPost w base bc vf cf vS bs st (if a = 1 ∧ b = 1 then .ok 1 else .error 9)) := by
  have H := Lib.hid h
  have H0 := Lib.hid h0
  clear h h0
  obtain ⟨R, hR⟩ : ∃ R : Except Int Int, R = (if a = 1 ∧ b = 1 then .ok 1 else .error 9) := ⟨_, rfl⟩
  rw [← hR]
  have HR := Lib.hid hR
  clear hR
  go_enter Tryd.func198, Tryd.ntmps198
  go_wp2_with fail
  refine (typedWant_any w base bc vf cf vS bs st H.out a 1).mono ?_
  rintro en w1 ⟨rfl, hcw1, hsw1⟩
  have HCw1 := Lib.hid hcw1
  have HSw1 := Lib.hid hsw1
  clear hcw1 hsw1
  go_wp2_with fail
  refine (typedWant_any w1 base bc vf cf vS bs _ HCw1.out b 1).mono ?_
  rintro en w2 ⟨rfl, hcw2, hsw2⟩
  have HCw2 := Lib.hid hcw2
  have HSw2 := Lib.hid hsw2
  clear hcw2 hsw2
  go_wp2_with fail
  go_ret
  exact ⟨_, _, rfl, HCw2.out, HSw1.out.trans HSw2.out, by rw [HR.out]; exact KindEnd.want2 H0.out a b 1 1 1⟩

set_option maxRecDepth 4000 in
set_option maxHeartbeats 1000000 in
theorem two_37 (w : World) (base bc : Nat) (vf : Value) (cf : List Value) (vS : Value) (bs : List Nat) (st : Chk) (h : ChkAt w base bc vf cf vS bs st) (h0 : st.fault = 0) (s : ByteArray) (a b : Int) (hs : s.toList = [37]) :
    Calls Tryd.prog 198 #[.pointer (some ⟨bc, 0, none⟩), .string s, .int .i64 a, .int .i64 b] w (OpPost w base bc vf cf vS bs st (if a = 1 ∧ b = 1 then .ok 1 else .error 9)) := by
  have H := Lib.hid h
  have H0 := Lib.hid h0
  clear h h0
  obtain ⟨R, hR⟩ : ∃ R : Except Int Int, R = (if a = 1 ∧ b = 1 then .ok 1 else .error 9) := ⟨_, rfl⟩
  rw [← hR]
  have HR := Lib.hid hR
  clear hR
  go_enter Tryd.func198, Tryd.ntmps198
  go_wp2_with fail
  refine (typedWant_any w base bc vf cf vS bs st H.out a 1).mono ?_
  rintro en w1 ⟨rfl, hcw1, hsw1⟩
  have HCw1 := Lib.hid hcw1
  have HSw1 := Lib.hid hsw1
  clear hcw1 hsw1
  go_wp2_with fail
  refine (typedWant_any w1 base bc vf cf vS bs _ HCw1.out b 1).mono ?_
  rintro en w2 ⟨rfl, hcw2, hsw2⟩
  have HCw2 := Lib.hid hcw2
  have HSw2 := Lib.hid hsw2
  clear hcw2 hsw2
  go_wp2_with fail
  go_ret
  exact ⟨_, _, rfl, HCw2.out, HSw1.out.trans HSw2.out, by rw [HR.out]; exact KindEnd.want2 H0.out a b 1 1 1⟩

set_option maxRecDepth 4000 in
set_option maxHeartbeats 1000000 in
theorem two_38_38 (w : World) (base bc : Nat) (vf : Value) (cf : List Value) (vS : Value) (bs : List Nat) (st : Chk) (h : ChkAt w base bc vf cf vS bs st) (h0 : st.fault = 0) (s : ByteArray) (a b : Int) (hs : s.toList = [38, 38]) :
    Calls Tryd.prog 198 #[.pointer (some ⟨bc, 0, none⟩), .string s, .int .i64 a, .int .i64 b] w (OpPost w base bc vf cf vS bs st (if a = 2 ∧ b = 2 then .ok 2 else .error 9)) := by
  have H := Lib.hid h
  have H0 := Lib.hid h0
  clear h h0
  obtain ⟨R, hR⟩ : ∃ R : Except Int Int, R = (if a = 2 ∧ b = 2 then .ok 2 else .error 9) := ⟨_, rfl⟩
  rw [← hR]
  have HR := Lib.hid hR
  clear hR
  go_enter Tryd.func198, Tryd.ntmps198
  go_wp2_with fail
  refine (typedWant_any w base bc vf cf vS bs st H.out a 2).mono ?_
  rintro en w1 ⟨rfl, hcw1, hsw1⟩
  have HCw1 := Lib.hid hcw1
  have HSw1 := Lib.hid hsw1
  clear hcw1 hsw1
  go_wp2_with fail
  refine (typedWant_any w1 base bc vf cf vS bs _ HCw1.out b 2).mono ?_
  rintro en w2 ⟨rfl, hcw2, hsw2⟩
  have HCw2 := Lib.hid hcw2
  have HSw2 := Lib.hid hsw2
  clear hcw2 hsw2
  go_wp2_with fail
  go_ret
  exact ⟨_, _, rfl, HCw2.out, HSw1.out.trans HSw2.out, by rw [HR.out]; exact KindEnd.want2 H0.out a b 2 2 2⟩

set_option maxRecDepth 4000 in
set_option maxHeartbeats 1000000 in
theorem two_124_124 (w : World) (base bc : Nat) (vf : Value) (cf : List Value) (vS : Value) (bs : List Nat) (st : Chk) (h : ChkAt w base bc vf cf vS bs st) (h0 : st.fault = 0) (s : ByteArray) (a b : Int) (hs : s.toList = [124, 124]) :
    Calls Tryd.prog 198 #[.pointer (some ⟨bc, 0, none⟩), .string s, .int .i64 a, .int .i64 b] w (OpPost w base bc vf cf vS bs st (if a = 2 ∧ b = 2 then .ok 2 else .error 9)) := by
  have H := Lib.hid h
  have H0 := Lib.hid h0
  clear h h0
  obtain ⟨R, hR⟩ : ∃ R : Except Int Int, R = (if a = 2 ∧ b = 2 then .ok 2 else .error 9) := ⟨_, rfl⟩
  rw [← hR]
  have HR := Lib.hid hR
  clear hR
  go_enter Tryd.func198, Tryd.ntmps198
  go_wp2_with fail
  refine (typedWant_any w base bc vf cf vS bs st H.out a 2).mono ?_
  rintro en w1 ⟨rfl, hcw1, hsw1⟩
  have HCw1 := Lib.hid hcw1
  have HSw1 := Lib.hid hsw1
  clear hcw1 hsw1
  go_wp2_with fail
  refine (typedWant_any w1 base bc vf cf vS bs _ HCw1.out b 2).mono ?_
  rintro en w2 ⟨rfl, hcw2, hsw2⟩
  have HCw2 := Lib.hid hcw2
  have HSw2 := Lib.hid hsw2
  clear hcw2 hsw2
  go_wp2_with fail
  go_ret
  exact ⟨_, _, rfl, HCw2.out, HSw1.out.trans HSw2.out, by rw [HR.out]; exact KindEnd.want2 H0.out a b 2 2 2⟩

set_option maxRecDepth 4000 in
set_option maxHeartbeats 1000000 in
theorem two_61_61 (w : World) (base bc : Nat) (vf : Value) (cf : List Value) (vS : Value) (bs : List Nat) (st : Chk) (h : ChkAt w base bc vf cf vS bs st) (h0 : st.fault = 0) (s : ByteArray) (a b : Int) (hs : s.toList = [61, 61]) :
    Calls Tryd.prog 198 #[.pointer (some ⟨bc, 0, none⟩), .string s, .int .i64 a, .int .i64 b] w (OpPost w base bc vf cf vS bs st (if (a = 1 ∨ a = 2 ∨ a = 3) ∧ a = b then .ok 2 else .error 9)) := by
  have H := Lib.hid h
  have H0 := Lib.hid h0
  clear h h0
  obtain ⟨R, hR⟩ : ∃ R : Except Int Int, R = (if (a = 1 ∨ a = 2 ∨ a = 3) ∧ a = b then .ok 2 else .error 9) := ⟨_, rfl⟩
  rw [← hR]
  have HR := Lib.hid hR
  clear hR
  go_enter Tryd.func198, Tryd.ntmps198
  go_wp2_with (first | (go_at_call 86; refine (typedWrong_any w base bc vf cf vS bs st H.out 9).mono ?_; rintro en w1 ⟨rfl, hc1, hs1⟩))
  all_goals go_ret
  all_goals simp only [bne_iff_ne, ne_eq, bne_eq_false_iff_eq, Decidable.not_not] at *
  all_goals first
    | exact ⟨_, _, rfl, hc1, hs1, by rw [HR.out, if_neg (by omega)]; exact KindEnd.bad H0.out _ (by decide)⟩
    | exact ⟨_, _, rfl, H.out, Since.refl _ _, by rw [HR.out, if_pos (by omega)]; exact ⟨by omega, rfl⟩⟩

set_option maxRecDepth 4000 in
set_option maxHeartbeats 1000000 in
theorem two_33_61 (w : World) (base bc : Nat) (vf : Value) (cf : List Value) (vS : Value) (bs : List Nat) (st : Chk) (h : ChkAt w base bc vf cf vS bs st) (h0 : st.fault = 0) (s : ByteArray) (a b : Int) (hs : s.toList = [33, 61]) :
    Calls Tryd.prog 198 #[.pointer (some ⟨bc, 0, none⟩), .string s, .int .i64 a, .int .i64 b] w (OpPost w base bc vf cf vS bs st (if (a = 1 ∨ a = 2 ∨ a = 3) ∧ a = b then .ok 2 else .error 9)) := by
  have H := Lib.hid h
  have H0 := Lib.hid h0
  clear h h0
  obtain ⟨R, hR⟩ : ∃ R : Except Int Int, R = (if (a = 1 ∨ a = 2 ∨ a = 3) ∧ a = b then .ok 2 else .error 9) := ⟨_, rfl⟩
  rw [← hR]
  have HR := Lib.hid hR
  clear hR
  go_enter Tryd.func198, Tryd.ntmps198
  go_wp2_with (first | (go_at_call 86; refine (typedWrong_any w base bc vf cf vS bs st H.out 9).mono ?_; rintro en w1 ⟨rfl, hc1, hs1⟩))
  all_goals go_ret
  all_goals simp only [bne_iff_ne, ne_eq, bne_eq_false_iff_eq, Decidable.not_not] at *
  all_goals first
    | exact ⟨_, _, rfl, hc1, hs1, by rw [HR.out, if_neg (by omega)]; exact KindEnd.bad H0.out _ (by decide)⟩
    | exact ⟨_, _, rfl, H.out, Since.refl _ _, by rw [HR.out, if_pos (by omega)]; exact ⟨by omega, rfl⟩⟩

set_option maxRecDepth 4000 in
set_option maxHeartbeats 1000000 in
theorem two_60 (w : World) (base bc : Nat) (vf : Value) (cf : List Value) (vS : Value) (bs : List Nat) (st : Chk) (h : ChkAt w base bc vf cf vS bs st) (h0 : st.fault = 0) (s : ByteArray) (a b : Int) (hs : s.toList = [60]) :
    Calls Tryd.prog 198 #[.pointer (some ⟨bc, 0, none⟩), .string s, .int .i64 a, .int .i64 b] w (OpPost w base bc vf cf vS bs st (if (a = 1 ∨ a = 3) ∧ a = b then .ok 2 else .error 9)) := by
  have H := Lib.hid h
  have H0 := Lib.hid h0
  clear h h0
  obtain ⟨R, hR⟩ : ∃ R : Except Int Int, R = (if (a = 1 ∨ a = 3) ∧ a = b then .ok 2 else .error 9) := ⟨_, rfl⟩
  rw [← hR]
  have HR := Lib.hid hR
  clear hR
  go_enter Tryd.func198, Tryd.ntmps198
  go_wp2_with (first | (go_at_call 86; refine (typedWrong_any w base bc vf cf vS bs st H.out 9).mono ?_; rintro en w1 ⟨rfl, hc1, hs1⟩))
  all_goals go_ret
  all_goals simp only [bne_iff_ne, ne_eq, bne_eq_false_iff_eq, Decidable.not_not] at *
  all_goals first
    | exact ⟨_, _, rfl, hc1, hs1, by rw [HR.out, if_neg (by omega)]; exact KindEnd.bad H0.out _ (by decide)⟩
    | exact ⟨_, _, rfl, H.out, Since.refl _ _, by rw [HR.out, if_pos (by omega)]; exact ⟨by omega, rfl⟩⟩

set_option maxRecDepth 4000 in
set_option maxHeartbeats 1000000 in
theorem two_60_61 (w : World) (base bc : Nat) (vf : Value) (cf : List Value) (vS : Value) (bs : List Nat) (st : Chk) (h : ChkAt w base bc vf cf vS bs st) (h0 : st.fault = 0) (s : ByteArray) (a b : Int) (hs : s.toList = [60, 61]) :
    Calls Tryd.prog 198 #[.pointer (some ⟨bc, 0, none⟩), .string s, .int .i64 a, .int .i64 b] w (OpPost w base bc vf cf vS bs st (if (a = 1 ∨ a = 3) ∧ a = b then .ok 2 else .error 9)) := by
  have H := Lib.hid h
  have H0 := Lib.hid h0
  clear h h0
  obtain ⟨R, hR⟩ : ∃ R : Except Int Int, R = (if (a = 1 ∨ a = 3) ∧ a = b then .ok 2 else .error 9) := ⟨_, rfl⟩
  rw [← hR]
  have HR := Lib.hid hR
  clear hR
  go_enter Tryd.func198, Tryd.ntmps198
  go_wp2_with (first | (go_at_call 86; refine (typedWrong_any w base bc vf cf vS bs st H.out 9).mono ?_; rintro en w1 ⟨rfl, hc1, hs1⟩))
  all_goals go_ret
  all_goals simp only [bne_iff_ne, ne_eq, bne_eq_false_iff_eq, Decidable.not_not] at *
  all_goals first
    | exact ⟨_, _, rfl, hc1, hs1, by rw [HR.out, if_neg (by omega)]; exact KindEnd.bad H0.out _ (by decide)⟩
    | exact ⟨_, _, rfl, H.out, Since.refl _ _, by rw [HR.out, if_pos (by omega)]; exact ⟨by omega, rfl⟩⟩

set_option maxRecDepth 4000 in
set_option maxHeartbeats 1000000 in
theorem two_62 (w : World) (base bc : Nat) (vf : Value) (cf : List Value) (vS : Value) (bs : List Nat) (st : Chk) (h : ChkAt w base bc vf cf vS bs st) (h0 : st.fault = 0) (s : ByteArray) (a b : Int) (hs : s.toList = [62]) :
    Calls Tryd.prog 198 #[.pointer (some ⟨bc, 0, none⟩), .string s, .int .i64 a, .int .i64 b] w (OpPost w base bc vf cf vS bs st (if (a = 1 ∨ a = 3) ∧ a = b then .ok 2 else .error 9)) := by
  have H := Lib.hid h
  have H0 := Lib.hid h0
  clear h h0
  obtain ⟨R, hR⟩ : ∃ R : Except Int Int, R = (if (a = 1 ∨ a = 3) ∧ a = b then .ok 2 else .error 9) := ⟨_, rfl⟩
  rw [← hR]
  have HR := Lib.hid hR
  clear hR
  go_enter Tryd.func198, Tryd.ntmps198
  go_wp2_with (first | (go_at_call 86; refine (typedWrong_any w base bc vf cf vS bs st H.out 9).mono ?_; rintro en w1 ⟨rfl, hc1, hs1⟩))
  all_goals go_ret
  all_goals simp only [bne_iff_ne, ne_eq, bne_eq_false_iff_eq, Decidable.not_not] at *
  all_goals first
    | exact ⟨_, _, rfl, hc1, hs1, by rw [HR.out, if_neg (by omega)]; exact KindEnd.bad H0.out _ (by decide)⟩
    | exact ⟨_, _, rfl, H.out, Since.refl _ _, by rw [HR.out, if_pos (by omega)]; exact ⟨by omega, rfl⟩⟩

set_option maxRecDepth 4000 in
set_option maxHeartbeats 1000000 in
theorem two_62_61 (w : World) (base bc : Nat) (vf : Value) (cf : List Value) (vS : Value) (bs : List Nat) (st : Chk) (h : ChkAt w base bc vf cf vS bs st) (h0 : st.fault = 0) (s : ByteArray) (a b : Int) (hs : s.toList = [62, 61]) :
    Calls Tryd.prog 198 #[.pointer (some ⟨bc, 0, none⟩), .string s, .int .i64 a, .int .i64 b] w (OpPost w base bc vf cf vS bs st (if (a = 1 ∨ a = 3) ∧ a = b then .ok 2 else .error 9)) := by
  have H := Lib.hid h
  have H0 := Lib.hid h0
  clear h h0
  obtain ⟨R, hR⟩ : ∃ R : Except Int Int, R = (if (a = 1 ∨ a = 3) ∧ a = b then .ok 2 else .error 9) := ⟨_, rfl⟩
  rw [← hR]
  have HR := Lib.hid hR
  clear hR
  go_enter Tryd.func198, Tryd.ntmps198
  go_wp2_with (first | (go_at_call 86; refine (typedWrong_any w base bc vf cf vS bs st H.out 9).mono ?_; rintro en w1 ⟨rfl, hc1, hs1⟩))
  all_goals go_ret
  all_goals simp only [bne_iff_ne, ne_eq, bne_eq_false_iff_eq, Decidable.not_not] at *
  all_goals first
    | exact ⟨_, _, rfl, hc1, hs1, by rw [HR.out, if_neg (by omega)]; exact KindEnd.bad H0.out _ (by decide)⟩
    | exact ⟨_, _, rfl, H.out, Since.refl _ _, by rw [HR.out, if_pos (by omega)]; exact ⟨by omega, rfl⟩⟩

theorem two_none (w : World) (base bc : Nat) (vf : Value) (cf : List Value) (vS : Value) (bs : List Nat) (st : Chk) (h : ChkAt w base bc vf cf vS bs st) (h0 : st.fault = 0) (s : ByteArray) (a b : Int) (n0 : (s.toList == [43]) = false) (n1 : (s.toList == [45]) = false) (n2 : (s.toList == [42]) = false) (n3 : (s.toList == [47]) = false) (n4 : (s.toList == [37]) = false) (n5 : (s.toList == [38, 38]) = false) (n6 : (s.toList == [124, 124]) = false) (n7 : (s.toList == [61, 61]) = false) (n8 : (s.toList == [33, 61]) = false) (n9 : (s.toList == [60]) = false) (n10 : (s.toList == [60, 61]) = false) (n11 : (s.toList == [62]) = false) (n12 : (s.toList == [62, 61]) = false) :
    Calls Tryd.prog 198 #[.pointer (some ⟨bc, 0, none⟩), .string s, .int .i64 a, .int .i64 b] w (OpPost w base bc vf cf vS bs st (.error 4)) := by
  have H := Lib.hid h
  have H0 := Lib.hid h0
  clear h h0
  go_enter Tryd.func198, Tryd.ntmps198
  go_wp2_with (first | (go_at_call 86; refine (typedWrong_any w base bc vf cf vS bs st H.out 4).mono ?_; rintro en w1 ⟨rfl, hc1, hs1⟩))
  go_ret
  exact ⟨_, _, rfl, hc1, hs1, KindEnd.bad H0.out _ (by decide)⟩

theorem typedTwo_any (w : World) (base bc : Nat) (vf : Value) (cf : List Value) (vS : Value) (bs : List Nat) (st : Chk) (h : ChkAt w base bc vf cf vS bs st) (h0 : st.fault = 0) (s : ByteArray) (a b : Int) :
    Calls Tryd.prog 198 #[.pointer (some ⟨bc, 0, none⟩), .string s, .int .i64 a, .int .i64 b] w (OpPost w base bc vf cf vS bs st (opT s.toList a b)) := by
  by_cases n0 : s.toList = [43]
  · have hr : opT s.toList a b = (if (a = 1 ∨ a = 3) ∧ a = b then .ok a else .error 9) := by rw [n0]; simp only [opT]; simp
    rw [hr]
    exact two_43 w base bc vf cf vS bs st h h0 s a b n0
  by_cases n1 : s.toList = [45]
  · have hr : opT s.toList a b = (if a = 1 ∧ b = 1 then .ok 1 else .error 9) := by rw [n1]; simp only [opT]; simp
    rw [hr]
    exact two_45 w base bc vf cf vS bs st h h0 s a b n1
  by_cases n2 : s.toList = [42]
  · have hr : opT s.toList a b = (if a = 1 ∧ b = 1 then .ok 1 else .error 9) := by rw [n2]; simp only [opT]; simp
    rw [hr]
    exact two_42 w base bc vf cf vS bs st h h0 s a b n2
  by_cases n3 : s.toList = [47]
  · have hr : opT s.toList a b = (if a = 1 ∧ b = 1 then .ok 1 else .error 9) := by rw [n3]; simp only [opT]; simp
    rw [hr]
    exact two_47 w base bc vf cf vS bs st h h0 s a b n3
  by_cases n4 : s.toList = [37]
  · have hr : opT s.toList a b = (if a = 1 ∧ b = 1 then .ok 1 else .error 9) := by rw [n4]; simp only [opT]; simp
    rw [hr]
    exact two_37 w base bc vf cf vS bs st h h0 s a b n4
  by_cases n5 : s.toList = [38, 38]
  · have hr : opT s.toList a b = (if a = 2 ∧ b = 2 then .ok 2 else .error 9) := by rw [n5]; simp only [opT]; simp
    rw [hr]
    exact two_38_38 w base bc vf cf vS bs st h h0 s a b n5
  by_cases n6 : s.toList = [124, 124]
  · have hr : opT s.toList a b = (if a = 2 ∧ b = 2 then .ok 2 else .error 9) := by rw [n6]; simp only [opT]; simp
    rw [hr]
    exact two_124_124 w base bc vf cf vS bs st h h0 s a b n6
  by_cases n7 : s.toList = [61, 61]
  · have hr : opT s.toList a b = (if (a = 1 ∨ a = 2 ∨ a = 3) ∧ a = b then .ok 2 else .error 9) := by rw [n7]; simp only [opT]; simp
    rw [hr]
    exact two_61_61 w base bc vf cf vS bs st h h0 s a b n7
  by_cases n8 : s.toList = [33, 61]
  · have hr : opT s.toList a b = (if (a = 1 ∨ a = 2 ∨ a = 3) ∧ a = b then .ok 2 else .error 9) := by rw [n8]; simp only [opT]; simp
    rw [hr]
    exact two_33_61 w base bc vf cf vS bs st h h0 s a b n8
  by_cases n9 : s.toList = [60]
  · have hr : opT s.toList a b = (if (a = 1 ∨ a = 3) ∧ a = b then .ok 2 else .error 9) := by rw [n9]; simp only [opT]; simp
    rw [hr]
    exact two_60 w base bc vf cf vS bs st h h0 s a b n9
  by_cases n10 : s.toList = [60, 61]
  · have hr : opT s.toList a b = (if (a = 1 ∨ a = 3) ∧ a = b then .ok 2 else .error 9) := by rw [n10]; simp only [opT]; simp
    rw [hr]
    exact two_60_61 w base bc vf cf vS bs st h h0 s a b n10
  by_cases n11 : s.toList = [62]
  · have hr : opT s.toList a b = (if (a = 1 ∨ a = 3) ∧ a = b then .ok 2 else .error 9) := by rw [n11]; simp only [opT]; simp
    rw [hr]
    exact two_62 w base bc vf cf vS bs st h h0 s a b n11
  by_cases n12 : s.toList = [62, 61]
  · have hr : opT s.toList a b = (if (a = 1 ∨ a = 3) ∧ a = b then .ok 2 else .error 9) := by rw [n12]; simp only [opT]; simp
    rw [hr]
    exact two_62_61 w base bc vf cf vS bs st h h0 s a b n12
  have hr : opT s.toList a b = .error 4 := by
    unfold opT
    simp only [n0, n1, n2, n3, n4, n5, n6, n7, n8, n9, n10, n11, n12, or_self, if_false]
  rw [hr]
  exact two_none w base bc vf cf vS bs st h h0 s a b (by simpa using n0) (by simpa using n1) (by simpa using n2) (by simpa using n3) (by simpa using n4) (by simpa using n5) (by simpa using n6) (by simpa using n7) (by simpa using n8) (by simpa using n9) (by simpa using n10) (by simpa using n11) (by simpa using n12)
end Go.Proofs.YtaomlfbcfmmhlaaDoor

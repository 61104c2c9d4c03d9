/-
  Texts joined: YTwo.
-/
import Derived.Test.YtaomlfbcfmmhlaaDoorTCZE

/-
  posternref: argsOf, allAre, twoType: contracts (printed by wip/gen_ytwo.py).
-/
namespace Go.Proofs.YtaomlfbcfmmhlaaDoor
open Go.RowKit Go.Pst
set_option linter.unusedVariables false
set_option linter.unusedSimpArgs false

/-- A type and a fault, as two results. -/
def pairT (R : Except Int Int) : Int × Int := match R with | .ok t => (t, 0) | .error e => (0, e)
theorem argsOf_any (k : Int) (w : World) :
    Calls Tryd.prog 191 #[.int .i64 k] w fun e w' => e = .returned (.int .i64 (argsN k)) ∧ w = w' := by
  obtain ⟨a, ha⟩ : ∃ a, a = argsN k := ⟨_, rfl⟩
  rw [← ha]
  have Ha := Lib.hid ha
  clear ha
  go_enter Tryd.func191, Tryd.ntmps191
  go_wp2_with fail
  all_goals go_ret
  all_goals refine ⟨?_, rfl⟩
  all_goals
    rw [Ha.out]
    unfold argsN
    simp_all
theorem allAre_any (t : Int) (a : Option Addr) (l : List Int) (cap : Nat) (w : World) (hl : l.length ≤ 9223372036854775807) (hat : IntsAt w a l) :
    Calls Tryd.prog 192 #[.slice a l.length cap, .int .i64 t] w fun e w' => e = .returned (.bool (decide (∀ x ∈ l, x = t))) ∧ w = w' := by
  obtain ⟨R, hR⟩ : ∃ R, R = decide (∀ x ∈ l, x = t) := ⟨_, rfl⟩
  rw [← hR]
  have HR := Lib.hid hR
  clear hR
  go_enter Tryd.func192, Tryd.ntmps192
  go_wp2_with fail
  go_loop [5] (fun i => ∃ k : Nat, k ≤ l.length ∧ i = .int .i64 k ∧ ∀ x ∈ l.take k, x = t) (fun i => l.length - (intOf i).toNat)
  case atStart => exact ⟨0, Nat.zero_le _, rfl, by simp⟩
  case round =>
    obtain ⟨k, hk, rfl, hf⟩ := hrel
    have Hf := Lib.hid hf
    clear hf
    by_cases hlt : k < l.length
    · obtain ⟨b, off, rfl, hb, hc⟩ := hat k hlt
      have hlt1 : (k : Int) < (l.length : Int) := by omega
      have hk0 : (0 : Int) ≤ k := by omega
      have Ht := Lib.hid (List.take_succ_eq_append_getElem hlt)
      have Hm := Lib.hid (List.getElem_mem hlt)
      clear hat
      generalize l[k] = y at *
      by_cases hy : y = t
      · have hy' : (y != t) = false := by simp [hy]
        have Hy := Lib.hid hy
        clear hy
        go_wp2_with fail
        go_round
        case rel => exact ⟨k + 1, by omega, by go_num, fun x hx => by rw [Ht.out] at hx; rcases List.mem_append.1 hx with e | e; exact Hf.out x e; exact (List.mem_singleton.1 e).trans Hy.out⟩
        case measure => simp only [intOf]; omega
      · have hy' : (y != t) = true := by simp [hy]
        have Hr := Lib.hid (show R = false by rw [HR.out]; exact decide_eq_false (fun h => hy (h y Hm.out)))
        clear hy
        go_wp2_with fail
        go_ret
        exact ⟨by rw [Hr.out]; rfl, rfl⟩
    · have hke : k = l.length := by omega
      have Hr := Lib.hid (show R = true by rw [HR.out]; exact decide_eq_true (fun x hx => Hf.out x (by rw [hke, List.take_length]; exact hx)))
      have hlt1 : decide ((k : Int) < (l.length : Int)) = false := decide_eq_false (by omega)
      subst hke
      go_wp2_with fail
      go_ret
      exact ⟨by rw [Hr.out]; rfl, rfl⟩

set_option maxRecDepth 4000 in
set_option maxHeartbeats 1000000 in
theorem yTwo_43 (s : ByteArray) (a b : Int) (w : World) (hs : s.toList = [43]) :
    Calls Tryd.prog 193 #[.string s, .int .i64 a, .int .i64 b] w fun e w' => e = .returned (.tuple #[.int .i64 (pairT (if (a = 1 ∨ a = 3) ∧ a = b then .ok a else .error 9)).1, .int .i64 (pairT (if (a = 1 ∨ a = 3) ∧ a = b then .ok a else .error 9)).2]) ∧ w = w' := by
  obtain ⟨R, hR⟩ : ∃ R : Int × Int, R = pairT (if (a = 1 ∨ a = 3) ∧ a = b then .ok a else .error 9) := ⟨_, rfl⟩
  rw [← hR]
  have HR := Lib.hid hR
  clear hR
  cases hin : (decide ((1 : Int) ≤ a) && decide (a ≤ 3)) <;> cases h2 : (a == 2) <;> cases hab : (a != b) <;>
  (have Hin := Lib.hid hin
   have H2 := Lib.hid h2
   have Hab := Lib.hid hab
   clear hin
   go_enter Tryd.func193, Tryd.ntmps193
   go_wp2_with (first | (go_at_call 48; refine (refIn_any _ _ _ _).mono ?_; rintro e w' ⟨rfl, rfl⟩; rw [Hin.out]))
   go_ret2
   refine ⟨?_, rfl⟩
   have q1 := Hin.out
   have q3 := Hab.out
   have q2 := H2.out
   simp only [Bool.and_eq_true, Bool.and_eq_false_iff, decide_eq_true_eq, decide_eq_false_iff_not, beq_iff_eq, beq_eq_false_iff_ne, bne_iff_ne, bne_eq_false_iff_eq, ne_eq, Decidable.not_not] at q1 q3 q2
   first
     | (exfalso; omega)
     | (rw [HR.out, if_pos (by omega)]; first | rfl | (simp only [pairT]; first | rfl | (congr 3; omega)))
     | (rw [HR.out, if_neg (by omega)]; rfl))

set_option maxRecDepth 4000 in
set_option maxHeartbeats 1000000 in
theorem yTwo_45 (s : ByteArray) (a b : Int) (w : World) (hs : s.toList = [45]) :
    Calls Tryd.prog 193 #[.string s, .int .i64 a, .int .i64 b] w fun e w' => e = .returned (.tuple #[.int .i64 (pairT (if a = 1 ∧ b = 1 then .ok 1 else .error 9)).1, .int .i64 (pairT (if a = 1 ∧ b = 1 then .ok 1 else .error 9)).2]) ∧ w = w' := by
  obtain ⟨R, hR⟩ : ∃ R : Int × Int, R = pairT (if a = 1 ∧ b = 1 then .ok 1 else .error 9) := ⟨_, rfl⟩
  rw [← hR]
  have HR := Lib.hid hR
  clear hR
  cases hin : (decide ((1 : Int) ≤ a) && decide (a ≤ 1)) <;> cases hab : (a != b) <;>
  (have Hin := Lib.hid hin
   have Hab := Lib.hid hab
   clear hin
   go_enter Tryd.func193, Tryd.ntmps193
   go_wp2_with (first | (go_at_call 48; refine (refIn_any _ _ _ _).mono ?_; rintro e w' ⟨rfl, rfl⟩; rw [Hin.out]))
   go_ret2
   refine ⟨?_, rfl⟩
   have q1 := Hin.out
   have q3 := Hab.out
   simp only [Bool.and_eq_true, Bool.and_eq_false_iff, decide_eq_true_eq, decide_eq_false_iff_not, beq_iff_eq, beq_eq_false_iff_ne, bne_iff_ne, bne_eq_false_iff_eq, ne_eq, Decidable.not_not] at q1 q3
   first
     | (exfalso; omega)
     | (rw [HR.out, if_pos (by omega)]; first | rfl | (simp only [pairT]; first | rfl | (congr 3; omega)))
     | (rw [HR.out, if_neg (by omega)]; rfl))

set_option maxRecDepth 4000 in
set_option maxHeartbeats 1000000 in
theorem yTwo_42 (s : ByteArray) (a b : Int) (w : World) (hs : s.toList = [42]) :
    Calls Tryd.prog 193 #[.string s, .int .i64 a, .int .i64 b] w fun e w' => e = .returned (.tuple #[.int .i64 (pairT (if a = 1 ∧ b = 1 then .ok 1 else .error 9)).1, .int .i64 (pairT (if a = 1 ∧ b = 1 then .ok 1 else .error 9)).2]) ∧ w = w' := by
  obtain ⟨R, hR⟩ : ∃ R : Int × Int, R = pairT (if a = 1 ∧ b = 1 then .ok 1 else .error 9) := ⟨_, rfl⟩
  rw [← hR]
  have HR := Lib.hid hR
  clear hR
  cases hin : (decide ((1 : Int) ≤ a) && decide (a ≤ 1)) <;> cases hab : (a != b) <;>
  (have Hin := Lib.hid hin
   have Hab := Lib.hid hab
   clear hin
   go_enter Tryd.func193, Tryd.ntmps193
   go_wp2_with (first | (go_at_call 48; refine (refIn_any _ _ _ _).mono ?_; rintro e w' ⟨rfl, rfl⟩; rw [Hin.out]))
   go_ret2
   refine ⟨?_, rfl⟩
   have q1 := Hin.out
   have q3 := Hab.out
   simp only [Bool.and_eq_true, Bool.and_eq_false_iff, decide_eq_true_eq, decide_eq_false_iff_not, beq_iff_eq, beq_eq_false_iff_ne, bne_iff_ne, bne_eq_false_iff_eq, ne_eq, Decidable.not_not] at q1 q3
   first
     | (exfalso; omega)
     | (rw [HR.out, if_pos (by omega)]; first | rfl | (simp only [pairT]; first | rfl | (congr 3; omega)))
     | (rw [HR.out, if_neg (by omega)]; rfl))

set_option maxRecDepth 4000 in
set_option maxHeartbeats 1000000 in
theorem yTwo_47 (s : ByteArray) (a b : Int) (w : World) (hs : s.toList = [47]) :
    Calls Tryd.prog 193 #[.string s, .int .i64 a, .int .i64 b] w fun e w' => e = .returned (.tuple #[.int .i64 (pairT (if a = 1 ∧ b = 1 then .ok 1 else .error 9)).1, .int .i64 (pairT (if a = 1 ∧ b = 1 then .ok 1 else .error 9)).2]) ∧ w = w' := by
  obtain ⟨R, hR⟩ : ∃ R : Int × Int, R = pairT (if a = 1 ∧ b = 1 then .ok 1 else .error 9) := ⟨_, rfl⟩
  rw [← hR]
  have HR := Lib.hid hR
  clear hR
  cases hin : (decide ((1 : Int) ≤ a) && decide (a ≤ 1)) <;> cases hab : (a != b) <;>
  (have Hin := Lib.hid hin
   have Hab := Lib.hid hab
   clear hin
   go_enter Tryd.func193, Tryd.ntmps193
   go_wp2_with (first | (go_at_call 48; refine (refIn_any _ _ _ _).mono ?_; rintro e w' ⟨rfl, rfl⟩; rw [Hin.out]))
   go_ret2
   refine ⟨?_, rfl⟩
   have q1 := Hin.out
   have q3 := Hab.out
   simp only [Bool.and_eq_true, Bool.and_eq_false_iff, decide_eq_true_eq, decide_eq_false_iff_not, beq_iff_eq, beq_eq_false_iff_ne, bne_iff_ne, bne_eq_false_iff_eq, ne_eq, Decidable.not_not] at q1 q3
   first
     | (exfalso; omega)
     | (rw [HR.out, if_pos (by omega)]; first | rfl | (simp only [pairT]; first | rfl | (congr 3; omega)))
     | (rw [HR.out, if_neg (by omega)]; rfl))

set_option maxRecDepth 4000 in
set_option maxHeartbeats 1000000 in
theorem yTwo_37 (s : ByteArray) (a b : Int) (w : World) (hs : s.toList = [37]) :
    Calls Tryd.prog 193 #[.string s, .int .i64 a, .int .i64 b] w fun e w' => e = .returned (.tuple #[.int .i64 (pairT (if a = 1 ∧ b = 1 then .ok 1 else .error 9)).1, .int .i64 (pairT (if a = 1 ∧ b = 1 then .ok 1 else .error 9)).2]) ∧ w = w' := by
  obtain ⟨R, hR⟩ : ∃ R : Int × Int, R = pairT (if a = 1 ∧ b = 1 then .ok 1 else .error 9) := ⟨_, rfl⟩
  rw [← hR]
  have HR := Lib.hid hR
  clear hR
  cases hin : (decide ((1 : Int) ≤ a) && decide (a ≤ 1)) <;> cases hab : (a != b) <;>
  (have Hin := Lib.hid hin
   have Hab := Lib.hid hab
   clear hin
   go_enter Tryd.func193, Tryd.ntmps193
   go_wp2_with (first | (go_at_call 48; refine (refIn_any _ _ _ _).mono ?_; rintro e w' ⟨rfl, rfl⟩; rw [Hin.out]))
   go_ret2
   refine ⟨?_, rfl⟩
   have q1 := Hin.out
   have q3 := Hab.out
   simp only [Bool.and_eq_true, Bool.and_eq_false_iff, decide_eq_true_eq, decide_eq_false_iff_not, beq_iff_eq, beq_eq_false_iff_ne, bne_iff_ne, bne_eq_false_iff_eq, ne_eq, Decidable.not_not] at q1 q3
   first
     | (exfalso; omega)
     | (rw [HR.out, if_pos (by omega)]; first | rfl | (simp only [pairT]; first | rfl | (congr 3; omega)))
     | (rw [HR.out, if_neg (by omega)]; rfl))

set_option maxRecDepth 4000 in
set_option maxHeartbeats 1000000 in
theorem yTwo_38_38 (s : ByteArray) (a b : Int) (w : World) (hs : s.toList = [38, 38]) :
    Calls Tryd.prog 193 #[.string s, .int .i64 a, .int .i64 b] w fun e w' => e = .returned (.tuple #[.int .i64 (pairT (if a = 2 ∧ b = 2 then .ok 2 else .error 9)).1, .int .i64 (pairT (if a = 2 ∧ b = 2 then .ok 2 else .error 9)).2]) ∧ w = w' := by
  obtain ⟨R, hR⟩ : ∃ R : Int × Int, R = pairT (if a = 2 ∧ b = 2 then .ok 2 else .error 9) := ⟨_, rfl⟩
  rw [← hR]
  have HR := Lib.hid hR
  clear hR
  cases hin : (decide ((2 : Int) ≤ a) && decide (a ≤ 2)) <;> cases hab : (a != b) <;>
  (have Hin := Lib.hid hin
   have Hab := Lib.hid hab
   clear hin
   go_enter Tryd.func193, Tryd.ntmps193
   go_wp2_with (first | (go_at_call 48; refine (refIn_any _ _ _ _).mono ?_; rintro e w' ⟨rfl, rfl⟩; rw [Hin.out]))
   go_ret2
   refine ⟨?_, rfl⟩
   have q1 := Hin.out
   have q3 := Hab.out
   simp only [Bool.and_eq_true, Bool.and_eq_false_iff, decide_eq_true_eq, decide_eq_false_iff_not, beq_iff_eq, beq_eq_false_iff_ne, bne_iff_ne, bne_eq_false_iff_eq, ne_eq, Decidable.not_not] at q1 q3
   first
     | (exfalso; omega)
     | (rw [HR.out, if_pos (by omega)]; first | rfl | (simp only [pairT]; first | rfl | (congr 3; omega)))
     | (rw [HR.out, if_neg (by omega)]; rfl))

set_option maxRecDepth 4000 in
set_option maxHeartbeats 1000000 in
theorem yTwo_124_124 (s : ByteArray) (a b : Int) (w : World) (hs : s.toList = [124, 124]) :
    Calls Tryd.prog 193 #[.string s, .int .i64 a, .int .i64 b] w fun e w' => e = .returned (.tuple #[.int .i64 (pairT (if a = 2 ∧ b = 2 then .ok 2 else .error 9)).1, .int .i64 (pairT (if a = 2 ∧ b = 2 then .ok 2 else .error 9)).2]) ∧ w = w' := by
  obtain ⟨R, hR⟩ : ∃ R : Int × Int, R = pairT (if a = 2 ∧ b = 2 then .ok 2 else .error 9) := ⟨_, rfl⟩
  rw [← hR]
  have HR := Lib.hid hR
  clear hR
  cases hin : (decide ((2 : Int) ≤ a) && decide (a ≤ 2)) <;> cases hab : (a != b) <;>
  (have Hin := Lib.hid hin
   have Hab := Lib.hid hab
   clear hin
   go_enter Tryd.func193, Tryd.ntmps193
   go_wp2_with (first | (go_at_call 48; refine (refIn_any _ _ _ _).mono ?_; rintro e w' ⟨rfl, rfl⟩; rw [Hin.out]))
   go_ret2
   refine ⟨?_, rfl⟩
   have q1 := Hin.out
   have q3 := Hab.out
   simp only [Bool.and_eq_true, Bool.and_eq_false_iff, decide_eq_true_eq, decide_eq_false_iff_not, beq_iff_eq, beq_eq_false_iff_ne, bne_iff_ne, bne_eq_false_iff_eq, ne_eq, Decidable.not_not] at q1 q3
   first
     | (exfalso; omega)
     | (rw [HR.out, if_pos (by omega)]; first | rfl | (simp only [pairT]; first | rfl | (congr 3; omega)))
     | (rw [HR.out, if_neg (by omega)]; rfl))

set_option maxRecDepth 4000 in
set_option maxHeartbeats 1000000 in
theorem yTwo_61_61 (s : ByteArray) (a b : Int) (w : World) (hs : s.toList = [61, 61]) :
    Calls Tryd.prog 193 #[.string s, .int .i64 a, .int .i64 b] w fun e w' => e = .returned (.tuple #[.int .i64 (pairT (if (a = 1 ∨ a = 2 ∨ a = 3) ∧ a = b then .ok 2 else .error 9)).1, .int .i64 (pairT (if (a = 1 ∨ a = 2 ∨ a = 3) ∧ a = b then .ok 2 else .error 9)).2]) ∧ w = w' := by
  obtain ⟨R, hR⟩ : ∃ R : Int × Int, R = pairT (if (a = 1 ∨ a = 2 ∨ a = 3) ∧ a = b then .ok 2 else .error 9) := ⟨_, rfl⟩
  rw [← hR]
  have HR := Lib.hid hR
  clear hR
  cases hin : (decide ((1 : Int) ≤ a) && decide (a ≤ 3)) <;> cases hab : (a != b) <;>
  (have Hin := Lib.hid hin
   have Hab := Lib.hid hab
   clear hin
   go_enter Tryd.func193, Tryd.ntmps193
   go_wp2_with (first | (go_at_call 48; refine (refIn_any _ _ _ _).mono ?_; rintro e w' ⟨rfl, rfl⟩; rw [Hin.out]))
   go_ret2
   refine ⟨?_, rfl⟩
   have q1 := Hin.out
   have q3 := Hab.out
   simp only [Bool.and_eq_true, Bool.and_eq_false_iff, decide_eq_true_eq, decide_eq_false_iff_not, beq_iff_eq, beq_eq_false_iff_ne, bne_iff_ne, bne_eq_false_iff_eq, ne_eq, Decidable.not_not] at q1 q3
   first
     | (exfalso; omega)
     | (rw [HR.out, if_pos (by omega)]; first | rfl | (simp only [pairT]; first | rfl | (congr 3; omega)))
     | (rw [HR.out, if_neg (by omega)]; rfl))

set_option maxRecDepth 4000 in
set_option maxHeartbeats 1000000 in
theorem yTwo_33_61 (s : ByteArray) (a b : Int) (w : World) (hs : s.toList = [33, 61]) :
    Calls Tryd.prog 193 #[.string s, .int .i64 a, .int .i64 b] w fun e w' => e = .returned (.tuple #[.int .i64 (pairT (if (a = 1 ∨ a = 2 ∨ a = 3) ∧ a = b then .ok 2 else .error 9)).1, .int .i64 (pairT (if (a = 1 ∨ a = 2 ∨ a = 3) ∧ a = b then .ok 2 else .error 9)).2]) ∧ w = w' := by
  obtain ⟨R, hR⟩ : ∃ R : Int × Int, R = pairT (if (a = 1 ∨ a = 2 ∨ a = 3) ∧ a = b then .ok 2 else .error 9) := ⟨_, rfl⟩
  rw [← hR]
  have HR := Lib.hid hR
  clear hR
  cases hin : (decide ((1 : Int) ≤ a) && decide (a ≤ 3)) <;> cases hab : (a != b) <;>
  (have Hin := Lib.hid hin
   have Hab := Lib.hid hab
   clear hin
   go_enter Tryd.func193, Tryd.ntmps193
   go_wp2_with (first | (go_at_call 48; refine (refIn_any _ _ _ _).mono ?_; rintro e w' ⟨rfl, rfl⟩; rw [Hin.out]))
   go_ret2
   refine ⟨?_, rfl⟩
   have q1 := Hin.out
   have q3 := Hab.out
   simp only [Bool.and_eq_true, Bool.and_eq_false_iff, decide_eq_true_eq, decide_eq_false_iff_not, beq_iff_eq, beq_eq_false_iff_ne, bne_iff_ne, bne_eq_false_iff_eq, ne_eq, Decidable.not_not] at q1 q3
   first
     | (exfalso; omega)
     | (rw [HR.out, if_pos (by omega)]; first | rfl | (simp only [pairT]; first | rfl | (congr 3; omega)))
     | (rw [HR.out, if_neg (by omega)]; rfl))

set_option maxRecDepth 4000 in
set_option maxHeartbeats 1000000 in
theorem yTwo_60 (s : ByteArray) (a b : Int) (w : World) (hs : s.toList = [60]) :
    Calls Tryd.prog 193 #[.string s, .int .i64 a, .int .i64 b] w fun e w' => e = .returned (.tuple #[.int .i64 (pairT (if (a = 1 ∨ a = 3) ∧ a = b then .ok 2 else .error 9)).1, .int .i64 (pairT (if (a = 1 ∨ a = 3) ∧ a = b then .ok 2 else .error 9)).2]) ∧ w = w' := by
  obtain ⟨R, hR⟩ : ∃ R : Int × Int, R = pairT (if (a = 1 ∨ a = 3) ∧ a = b then .ok 2 else .error 9) := ⟨_, rfl⟩
  rw [← hR]
  have HR := Lib.hid hR
  clear hR
  cases hin : (decide ((1 : Int) ≤ a) && decide (a ≤ 3)) <;> cases h2 : (a == 2) <;> cases hab : (a != b) <;>
  (have Hin := Lib.hid hin
   have H2 := Lib.hid h2
   have Hab := Lib.hid hab
   clear hin
   go_enter Tryd.func193, Tryd.ntmps193
   go_wp2_with (first | (go_at_call 48; refine (refIn_any _ _ _ _).mono ?_; rintro e w' ⟨rfl, rfl⟩; rw [Hin.out]))
   go_ret2
   refine ⟨?_, rfl⟩
   have q1 := Hin.out
   have q3 := Hab.out
   have q2 := H2.out
   simp only [Bool.and_eq_true, Bool.and_eq_false_iff, decide_eq_true_eq, decide_eq_false_iff_not, beq_iff_eq, beq_eq_false_iff_ne, bne_iff_ne, bne_eq_false_iff_eq, ne_eq, Decidable.not_not] at q1 q3 q2
   first
     | (exfalso; omega)
     | (rw [HR.out, if_pos (by omega)]; first | rfl | (simp only [pairT]; first | rfl | (congr 3; omega)))
     | (rw [HR.out, if_neg (by omega)]; rfl))

set_option maxRecDepth 4000 in
set_option maxHeartbeats 1000000 in
theorem yTwo_60_61 (s : ByteArray) (a b : Int) (w : World) (hs : s.toList = [60, 61]) :
    Calls Tryd.prog 193 #[.string s, .int .i64 a, .int .i64 b] w fun e w' => e = .returned (.tuple #[.int .i64 (pairT (if (a = 1 ∨ a = 3) ∧ a = b then .ok 2 else .error 9)).1, .int .i64 (pairT (if (a = 1 ∨ a = 3) ∧ a = b then .ok 2 else .error 9)).2]) ∧ w = w' := by
  obtain ⟨R, hR⟩ : ∃ R : Int × Int, R = pairT (if (a = 1 ∨ a = 3) ∧ a = b then .ok 2 else .error 9) := ⟨_, rfl⟩
  rw [← hR]
  have HR := Lib.hid hR
  clear hR
  cases hin : (decide ((1 : Int) ≤ a) && decide (a ≤ 3)) <;> cases h2 : (a == 2) <;> cases hab : (a != b) <;>
  (have Hin := Lib.hid hin
   have H2 := Lib.hid h2
   have Hab := Lib.hid hab
   clear hin
   go_enter Tryd.func193, Tryd.ntmps193
   go_wp2_with (first | (go_at_call 48; refine (refIn_any _ _ _ _).mono ?_; rintro e w' ⟨rfl, rfl⟩; rw [Hin.out]))
   go_ret2
   refine ⟨?_, rfl⟩
   have q1 := Hin.out
   have q3 := Hab.out
   have q2 := H2.out
   simp only [Bool.and_eq_true, Bool.and_eq_false_iff, decide_eq_true_eq, decide_eq_false_iff_not, beq_iff_eq, beq_eq_false_iff_ne, bne_iff_ne, bne_eq_false_iff_eq, ne_eq, Decidable.not_not] at q1 q3 q2
   first
     | (exfalso; omega)
     | (rw [HR.out, if_pos (by omega)]; first | rfl | (simp only [pairT]; first | rfl | (congr 3; omega)))
     | (rw [HR.out, if_neg (by omega)]; rfl))

set_option maxRecDepth 4000 in
set_option maxHeartbeats 1000000 in
theorem yTwo_62 (s : ByteArray) (a b : Int) (w : World) (hs : s.toList = [62]) :
    Calls Tryd.prog 193 #[.string s, .int .i64 a, .int .i64 b] w fun e w' => e = .returned (.tuple #[.int .i64 (pairT (if (a = 1 ∨ a = 3) ∧ a = b then .ok 2 else .error 9)).1, .int .i64 (pairT (if (a = 1 ∨ a = 3) ∧ a = b then .ok 2 else .error 9)).2]) ∧ w = w' := by
  obtain ⟨R, hR⟩ : ∃ R : Int × Int, R = pairT (if (a = 1 ∨ a = 3) ∧ a = b then .ok 2 else .error 9) := ⟨_, rfl⟩
  rw [← hR]
  have HR := Lib.hid hR
  clear hR
  cases hin : (decide ((1 : Int) ≤ a) && decide (a ≤ 3)) <;> cases h2 : (a == 2) <;> cases hab : (a != b) <;>
  (have Hin := Lib.hid hin
   have H2 := Lib.hid h2
   have Hab := Lib.hid hab
   clear hin
   go_enter Tryd.func193, Tryd.ntmps193
   go_wp2_with (first | (go_at_call 48; refine (refIn_any _ _ _ _).mono ?_; rintro e w' ⟨rfl, rfl⟩; rw [Hin.out]))
   go_ret2
   refine ⟨?_, rfl⟩
   have q1 := Hin.out
   have q3 := Hab.out
   have q2 := H2.out
   simp only [Bool.and_eq_true, Bool.and_eq_false_iff, decide_eq_true_eq, decide_eq_false_iff_not, beq_iff_eq, beq_eq_false_iff_ne, bne_iff_ne, bne_eq_false_iff_eq, ne_eq, Decidable.not_not] at q1 q3 q2
   first
     | (exfalso; omega)
     | (rw [HR.out, if_pos (by omega)]; first | rfl | (simp only [pairT]; first | rfl | (congr 3; omega)))
     | (rw [HR.out, if_neg (by omega)]; rfl))

set_option maxRecDepth 4000 in
set_option maxHeartbeats 1000000 in
theorem yTwo_62_61 (s : ByteArray) (a b : Int) (w : World) (hs : s.toList = [62, 61]) :
    Calls Tryd.prog 193 #[.string s, .int .i64 a, .int .i64 b] w fun e w' => e = .returned (.tuple #[.int .i64 (pairT (if (a = 1 ∨ a = 3) ∧ a = b then .ok 2 else .error 9)).1, .int .i64 (pairT (if (a = 1 ∨ a = 3) ∧ a = b then .ok 2 else .error 9)).2]) ∧ w = w' := by
  obtain ⟨R, hR⟩ : ∃ R : Int × Int, R = pairT (if (a = 1 ∨ a = 3) ∧ a = b then .ok 2 else .error 9) := ⟨_, rfl⟩
  rw [← hR]
  have HR := Lib.hid hR
  clear hR
  cases hin : (decide ((1 : Int) ≤ a) && decide (a ≤ 3)) <;> cases h2 : (a == 2) <;> cases hab : (a != b) <;>
  (have Hin := Lib.hid hin
   have H2 := Lib.hid h2
   have Hab := Lib.hid hab
   clear hin
   go_enter Tryd.func193, Tryd.ntmps193
   go_wp2_with (first | (go_at_call 48; refine (refIn_any _ _ _ _).mono ?_; rintro e w' ⟨rfl, rfl⟩; rw [Hin.out]))
   go_ret2
   refine ⟨?_, rfl⟩
   have q1 := Hin.out
   have q3 := Hab.out
   have q2 := H2.out
   simp only [Bool.and_eq_true, Bool.and_eq_false_iff, decide_eq_true_eq, decide_eq_false_iff_not, beq_iff_eq, beq_eq_false_iff_ne, bne_iff_ne, bne_eq_false_iff_eq, ne_eq, Decidable.not_not] at q1 q3 q2
   first
     | (exfalso; omega)
     | (rw [HR.out, if_pos (by omega)]; first | rfl | (simp only [pairT]; first | rfl | (congr 3; omega)))
     | (rw [HR.out, if_neg (by omega)]; rfl))

set_option maxRecDepth 4000 in
set_option maxHeartbeats 1000000 in
theorem yTwo_none (s : ByteArray) (a b : Int) (w : World) (n0 : ¬ s.toList = [43]) (n1 : ¬ s.toList = [45]) (n2 : ¬ s.toList = [42]) (n3 : ¬ s.toList = [47]) (n4 : ¬ s.toList = [37]) (n5 : ¬ s.toList = [38, 38]) (n6 : ¬ s.toList = [124, 124]) (n7 : ¬ s.toList = [61, 61]) (n8 : ¬ s.toList = [33, 61]) (n9 : ¬ s.toList = [60]) (n10 : ¬ s.toList = [60, 61]) (n11 : ¬ s.toList = [62]) (n12 : ¬ s.toList = [62, 61]) :
    Calls Tryd.prog 193 #[.string s, .int .i64 a, .int .i64 b] w fun e w' => e = .returned (.tuple #[.int .i64 0, .int .i64 4]) ∧ w = w' := by
  have d0 : (s.toList == [43]) = false := by simpa using n0
  have d1 : (s.toList == [45]) = false := by simpa using n1
  have d2 : (s.toList == [42]) = false := by simpa using n2
  have d3 : (s.toList == [47]) = false := by simpa using n3
  have d4 : (s.toList == [37]) = false := by simpa using n4
  have d5 : (s.toList == [38, 38]) = false := by simpa using n5
  have d6 : (s.toList == [124, 124]) = false := by simpa using n6
  have d7 : (s.toList == [61, 61]) = false := by simpa using n7
  have d8 : (s.toList == [33, 61]) = false := by simpa using n8
  have d9 : (s.toList == [60]) = false := by simpa using n9
  have d10 : (s.toList == [60, 61]) = false := by simpa using n10
  have d11 : (s.toList == [62]) = false := by simpa using n11
  have d12 : (s.toList == [62, 61]) = false := by simpa using n12
  clear n0 n1 n2 n3 n4 n5 n6 n7 n8 n9 n10 n11 n12
  go_enter Tryd.func193, Tryd.ntmps193
  go_wp2_with fail
  go_ret2
  exact ⟨rfl, rfl⟩
theorem twoType_any (s : ByteArray) (a b : Int) (w : World) :
    Calls Tryd.prog 193 #[.string s, .int .i64 a, .int .i64 b] w fun e w' => e = .returned (.tuple #[.int .i64 (pairT (opT s.toList a b)).1, .int .i64 (pairT (opT s.toList a b)).2]) ∧ w = w' := by
  by_cases n0 : s.toList = [43]
  · have e : opT s.toList a b = (if (a = 1 ∨ a = 3) ∧ a = b then .ok a else .error 9) := by rw [n0]; simp [opT]
    rw [e]
    exact yTwo_43 s a b w n0
  by_cases n1 : s.toList = [45]
  · have e : opT s.toList a b = (if a = 1 ∧ b = 1 then .ok 1 else .error 9) := by rw [n1]; simp [opT]
    rw [e]
    exact yTwo_45 s a b w n1
  by_cases n2 : s.toList = [42]
  · have e : opT s.toList a b = (if a = 1 ∧ b = 1 then .ok 1 else .error 9) := by rw [n2]; simp [opT]
    rw [e]
    exact yTwo_42 s a b w n2
  by_cases n3 : s.toList = [47]
  · have e : opT s.toList a b = (if a = 1 ∧ b = 1 then .ok 1 else .error 9) := by rw [n3]; simp [opT]
    rw [e]
    exact yTwo_47 s a b w n3
  by_cases n4 : s.toList = [37]
  · have e : opT s.toList a b = (if a = 1 ∧ b = 1 then .ok 1 else .error 9) := by rw [n4]; simp [opT]
    rw [e]
    exact yTwo_37 s a b w n4
  by_cases n5 : s.toList = [38, 38]
  · have e : opT s.toList a b = (if a = 2 ∧ b = 2 then .ok 2 else .error 9) := by rw [n5]; simp [opT]
    rw [e]
    exact yTwo_38_38 s a b w n5
  by_cases n6 : s.toList = [124, 124]
  · have e : opT s.toList a b = (if a = 2 ∧ b = 2 then .ok 2 else .error 9) := by rw [n6]; simp [opT]
    rw [e]
    exact yTwo_124_124 s a b w n6
  by_cases n7 : s.toList = [61, 61]
  · have e : opT s.toList a b = (if (a = 1 ∨ a = 2 ∨ a = 3) ∧ a = b then .ok 2 else .error 9) := by rw [n7]; simp [opT]
    rw [e]
    exact yTwo_61_61 s a b w n7
  by_cases n8 : s.toList = [33, 61]
  · have e : opT s.toList a b = (if (a = 1 ∨ a = 2 ∨ a = 3) ∧ a = b then .ok 2 else .error 9) := by rw [n8]; simp [opT]
    rw [e]
    exact yTwo_33_61 s a b w n8
  by_cases n9 : s.toList = [60]
  · have e : opT s.toList a b = (if (a = 1 ∨ a = 3) ∧ a = b then .ok 2 else .error 9) := by rw [n9]; simp [opT]
    rw [e]
    exact yTwo_60 s a b w n9
  by_cases n10 : s.toList = [60, 61]
  · have e : opT s.toList a b = (if (a = 1 ∨ a = 3) ∧ a = b then .ok 2 else .error 9) := by rw [n10]; simp [opT]
    rw [e]
    exact yTwo_60_61 s a b w n10
  by_cases n11 : s.toList = [62]
  · have e : opT s.toList a b = (if (a = 1 ∨ a = 3) ∧ a = b then .ok 2 else .error 9) := by rw [n11]; simp [opT]
    rw [e]
    exact yTwo_62 s a b w n11
  by_cases n12 : s.toList = [62, 61]
  · have e : opT s.toList a b = (if (a = 1 ∨ a = 3) ∧ a = b then .ok 2 else .error 9) := by rw [n12]; simp [opT]
    rw [e]
    exact yTwo_62_61 s a b w n12
  have e : opT s.toList a b = .error 4 := by
    unfold opT
    simp only [n0, n1, n2, n3, n4, n5, n6, n7, n8, n9, n10, n11, n12, or_self, if_false]
  rw [e]
  exact yTwo_none s a b w n0 n1 n2 n3 n4 n5 n6 n7 n8 n9 n10 n11 n12
end Go.Proofs.YtaomlfbcfmmhlaaDoor

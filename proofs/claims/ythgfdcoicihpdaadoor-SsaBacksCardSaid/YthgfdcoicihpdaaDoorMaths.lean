/-
  The reference's small words: In, allIn, isIn, isMath, closes, funcNamed.
-/
import Derived.Test.YthgfdcoicihpdaaDoorRows
import Derived.Test.YthgfdcoicihpdaaDoorFault
namespace Go.Proofs.YthgfdcoicihpdaaDoor
open Go.RowKit Go.Pst
set_option linter.unusedVariables false

theorem refIn_any (x lo hi : Int) (w : World) :
    Calls Tryd.prog 34 #[.int .i64 x, .int .i64 lo, .int .i64 hi] w fun e w' => e = .returned (.bool (decide (lo ≤ x) && decide (x ≤ hi))) ∧ w = w' := by
  go_enter Tryd.func34, Tryd.ntmps34
  by_cases h : lo ≤ x
  · have h1 : decide (x ≥ lo) = true := decide_eq_true h
    go_wp2
    go_ret
    exact ⟨by simp [h], rfl⟩
  · have h1 : decide (x ≥ lo) = false := decide_eq_false h
    go_wp2
    go_ret
    exact ⟨by simp, rfl⟩

theorem closes_any (x : Int) (w : World) :
    Calls Tryd.prog 22 #[.int .i64 x] w fun e w' => e = .returned (.bool (closesF x)) ∧ w = w' := by
  go_enter Tryd.func22, Tryd.ntmps22
  go_wp2_with fail
  refine (refIn_any x 9 13 w).mono ?_
  rintro e w1 ⟨rfl, rfl⟩
  go_wp2_with fail
  go_ret
  exact ⟨rfl, rfl⟩

set_option maxHeartbeats 400000 in
theorem allIn_any (lo hi : Int) (a : Option Addr) (l : List Int) (cap : Nat) (w : World) (hl : l.length ≤ 9223372036854775807) (hat : IntsAt w a l) :
    Calls Tryd.prog 17 #[.slice a l.length cap, .int .i64 lo, .int .i64 hi] w fun e w' => e = .returned (.bool (l.all fun x => decide (lo ≤ x) && decide (x ≤ hi))) ∧ w = w' := by
  go_enter Tryd.func17, Tryd.ntmps17
  go_wp2_with fail
  go_loop [7] (fun i => ∃ k : Nat, k ≤ l.length ∧ i = .int .i64 k ∧ (l.all fun x => decide (lo ≤ x) && decide (x ≤ hi)) = ((l.drop k).all fun x => decide (lo ≤ x) && decide (x ≤ hi))) (fun i => l.length - (intOf i).toNat)
  case atStart => exact ⟨0, Nat.zero_le _, rfl, by simp⟩
  case round =>
    obtain ⟨k, hk, rfl, hf⟩ := hrel
    have Hf := Lib.hid hf
    clear hf
    by_cases hlt : k < l.length
    · obtain ⟨b, off, rfl, hb, hc⟩ := hat k hlt
      have hlt1 : (k : Int) < (l.length : Int) := by omega
      have hd : l.drop k = l[k] :: l.drop (k + 1) := List.drop_eq_getElem_cons hlt
      have Hd := Lib.hid hd
      clear hd hat
      generalize l[k] = y at *
      go_wp2_with fail
      refine (refIn_any y lo hi w).mono ?_
      rintro e w1 ⟨rfl, rfl⟩
      cases he : (decide (lo ≤ y) && decide (y ≤ hi)) with
      | true =>
        have He := Lib.hid he
        clear he
        go_wp2_with fail
        go_round
        case rel => exact ⟨k + 1, by omega, by go_num, by rw [Hf.out, Hd.out, List.all_cons, He.out, Bool.true_and]⟩
        case measure => simp [intOf]; omega
      | false =>
        have He := Lib.hid he
        clear he
        go_wp2_with fail
        go_ret
        exact ⟨by rw [Hf.out, Hd.out, List.all_cons, He.out, Bool.false_and]; rfl, rfl⟩
    · have hke : k = l.length := by omega
      subst hke
      go_wp2
      go_ret
      exact ⟨by rw [Hf.out]; simp, rfl⟩

set_option maxHeartbeats 400000 in
theorem isIn_any (s : ByteArray) (a : Option Addr) (l : List ByteArray) (cap : Nat) (w : World) (hl : l.length ≤ 9223372036854775807) (hat : StrsAt w a l) :
    Calls Tryd.prog 45 #[.slice a l.length cap, .string s] w fun e w' => e = .returned (.bool (decide (s ∈ l))) ∧ w = w' := by
  go_enter Tryd.func45, Tryd.ntmps45
  go_wp2_with fail
  go_loop [5] (fun i => ∃ k : Nat, k ≤ l.length ∧ i = .int .i64 k ∧ (s ∈ l ↔ s ∈ l.drop k)) (fun i => l.length - (intOf i).toNat)
  case atStart => exact ⟨0, Nat.zero_le _, rfl, by simp⟩
  case round =>
    obtain ⟨k, hk, rfl, hf⟩ := hrel
    have Hf := Lib.hid hf
    clear hf
    by_cases hlt : k < l.length
    · obtain ⟨b, off, rfl, hb, hc⟩ := hat k hlt
      have hlt1 : (k : Int) < (l.length : Int) := by omega
      have hd : l.drop k = l[k] :: l.drop (k + 1) := List.drop_eq_getElem_cons hlt
      have Hd := Lib.hid hd
      clear hd hat
      generalize l[k] = y at *
      by_cases he : y = s
      · subst he
        go_wp2_with fail
        go_ret
        exact ⟨by rw [decide_eq_true (Hf.out.2 (by rw [Hd.out]; simp))]; rfl, rfl⟩
      · have he1 := str_ne he
        have He := Lib.hid he
        clear he
        go_wp2_with fail
        go_round
        case rel => exact ⟨k + 1, by omega, by go_num, by rw [Hf.out, Hd.out, List.mem_cons]; exact ⟨fun h => h.resolve_left (fun e => He.out e.symm), Or.inr⟩⟩
        case measure => simp [intOf]; omega
    · have hke : k = l.length := by omega
      subst hke
      go_wp2
      go_ret
      exact ⟨by rw [decide_eq_false (fun h => by simpa using Hf.out.1 h)]; rfl, rfl⟩

theorem mathsAt (w : World) (t : TypeId) : StrsAt (w.alloc (.cells #[.string { data := #[43] }, .string { data := #[45] }, .string { data := #[42] }, .string { data := #[47] }, .string { data := #[37] }, .string { data := #[61, 61] }, .string { data := #[33, 61] }, .string { data := #[60] }, .string { data := #[60, 61] }, .string { data := #[62] }, .string { data := #[62, 61] }] t)) (some ⟨w.heap.size, 0, none⟩) mathsF := by
  intro i hi
  refine ⟨w.heap.size, 0, rfl, by simp, ?_⟩
  have hi' : i < 11 := hi
  rw [World.cell?_alloc_at _ _ _ _ rfl]
  match i, hi' with
  | 0, _ | 1, _ | 2, _ | 3, _ | 4, _ | 5, _ | 6, _ | 7, _ | 8, _ | 9, _ | 10, _ => rfl

set_option maxHeartbeats 400000 in
theorem isMath_any (s : ByteArray) (w : World) :
    Calls Tryd.prog 36 #[.string s] w fun e w' => e = .returned (.bool (decide (s ∈ mathsF))) ∧ Below w.heap.size w w' := by
  go_enter Tryd.func36, Tryd.ntmps36
  go_wp2_with fail
  refine (isIn_any s _ mathsF 11 _ (by decide) (mathsAt _ _)).mono ?_
  rintro e w1 ⟨rfl, rfl⟩
  go_wp2_with fail
  go_ret
  exact ⟨rfl, (Below.refl _ _).alloc (Nat.le_refl _) _⟩

set_option maxHeartbeats 400000 in
theorem funcNamed_any (s : ByteArray) (fs : List PCode) (v0 v1 : Value) (w : World) (h : rCodes (fun _ => True) w [v0] fs) :
    Calls Tryd.prog 37 #[.agg #[v0, v1], .string s] w fun e w' => e = .returned (.int .i64 (nameAt s fs)) ∧ Below w.heap.size w w' := by
  obtain ⟨a, cap, rfl, hcap, hmax, hat⟩ := rCodes_val h
  unfold maxLen at hmax
  clear h
  go_enter Tryd.func37, Tryd.ntmps37
  go_wp2_with fail
  go_loop [5] (fun i => ∃ k : Nat, k ≤ fs.length ∧ i = .int .i64 k ∧ nameAt s fs = firstOf (fun c => decide (c.name = s)) (fs.drop k) k) (fun i => fs.length - (intOf i).toNat)
  case atStart => exact ⟨0, Nat.zero_le _, rfl, by simp [nameAt]⟩
  case round =>
    obtain ⟨k, hk, rfl, hf⟩ := hrel
    have Hf := Lib.hid hf
    clear hf
    by_cases hlt : k < fs.length
    · obtain ⟨b, off, v5, rfl, -, hb, hc, -⟩ := hat k hlt
      have hlt1 : (k : Int) < (fs.length : Int) := by omega
      have hd : fs.drop k = fs[k] :: fs.drop (k + 1) := List.drop_eq_getElem_cons hlt
      have Hd := Lib.hid hd
      clear hd hat
      generalize fs[k] = y at *
      by_cases he : y.name = s
      · have he1 := str_eq he
        have He := Lib.hid he
        clear he
        go_wp2_with fail
        go_ret
        exact ⟨by rw [Hf.out, Hd.out]; simp [firstOf, He.out], (Below.refl _ _).alloc (Nat.le_refl _) _⟩
      · have he1 := str_ne he
        have He := Lib.hid he
        clear he
        go_wp2_with fail
        go_round
        case rel => exact ⟨k + 1, by omega, by go_num, by rw [Hf.out, Hd.out]; simp [firstOf, He.out]⟩
        case measure => simp [intOf]; omega
    · have hke : k = fs.length := by omega
      subst hke
      go_wp2
      go_ret
      exact ⟨by rw [Hf.out]; simp [firstOf], (Below.refl _ _).alloc (Nat.le_refl _) _⟩
end Go.Proofs.YthgfdcoicihpdaaDoor

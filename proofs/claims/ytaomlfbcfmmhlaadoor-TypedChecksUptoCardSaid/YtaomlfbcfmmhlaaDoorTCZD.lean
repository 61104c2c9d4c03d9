/-
  Texts joined: YName.
-/
import Derived.Test.YtaomlfbcfmmhlaaDoorTCA
import Derived.Test.YtaomlfbcfmmhlaaDoorTCK

/-
  posternref: small, isDigit, IsWord, nameMay: contracts.
-/
namespace Go.Proofs.YtaomlfbcfmmhlaaDoor
open Go.RowKit Go.Pst
set_option linter.unusedVariables false
set_option linter.unusedSimpArgs false

theorem refSmall_any (c : UInt8) (w : World) :
    Calls Tryd.prog 91 #[.int .u8 c.toNat] w fun e w' => e = .returned (.bool (smallB c)) ∧ w = w' := by
  have h255 : c.toNat < 256 := c.toNat_lt
  go_enter Tryd.func91, Tryd.ntmps91
  go_wp2_with fail
  all_goals go_ret
  all_goals refine ⟨?_, rfl⟩
  all_goals congr 2
  all_goals unfold smallB
  all_goals
    show Value.bool _ = Value.bool _
    congr 1
    rw [Bool.eq_iff_iff]
    simp only [Bool.not_eq_true', Bool.or_eq_false_iff, Bool.and_eq_false_iff, Bool.and_eq_true, Bool.or_eq_true, decide_eq_true_eq, decide_eq_false_iff_not, iff_true, true_iff, false_iff, iff_false, Bool.false_eq_true] at *
    omega
theorem refDigit_any (c : UInt8) (w : World) :
    Calls Tryd.prog 92 #[.int .u8 c.toNat] w fun e w' => e = .returned (.bool (digitB c)) ∧ w = w' := by
  have h255 : c.toNat < 256 := c.toNat_lt
  go_enter Tryd.func92, Tryd.ntmps92
  go_wp2_with fail
  all_goals go_ret
  all_goals refine ⟨?_, rfl⟩
  all_goals congr 2
  all_goals unfold digitB
  all_goals
    show Value.bool _ = Value.bool _
    congr 1
    rw [Bool.eq_iff_iff]
    simp only [Bool.not_eq_true', Bool.or_eq_false_iff, Bool.and_eq_false_iff, Bool.and_eq_true, Bool.or_eq_true, decide_eq_true_eq, decide_eq_false_iff_not, iff_true, true_iff, false_iff, iff_false, Bool.false_eq_true] at *
    omega
theorem mem_wordsB (s : ByteArray) : decide (s ∈ wordsB) = wordsT.contains s.toList := by
  rw [← any_wordsB s]
  generalize wordsB = l
  induction l with
  | nil => simp
  | cons x r ih =>
    rw [List.any_cons, ← ih]
    by_cases e : x = s
    · subst e; simp
    · have e' : ¬ s = x := fun h => e h.symm
      simp [e, e']
theorem wordsAt (w : World) (t : TypeId) : StrsAt (w.alloc (.cells #[.string { data := #[102, 117, 110, 99] }, .string { data := #[105, 102] }, .string { data := #[101, 108, 115, 101] }, .string { data := #[102, 111, 114] }, .string { data := #[114, 97, 110, 103, 101] }, .string { data := #[115, 119, 105, 116, 99, 104] }, .string { data := #[99, 97, 115, 101] }, .string { data := #[100, 101, 102, 97, 117, 108, 116] }, .string { data := #[114, 101, 116, 117, 114, 110] }, .string { data := #[112, 114, 105, 110, 116] }, .string { data := #[98, 114, 101, 97, 107] }, .string { data := #[99, 111, 110, 116, 105, 110, 117, 101] }, .string { data := #[100, 101, 108, 101, 116, 101] }, .string { data := #[116, 114, 117, 101] }, .string { data := #[102, 97, 108, 115, 101] }, .string { data := #[108, 101, 110] }, .string { data := #[97, 112, 112, 101, 110, 100] }, .string { data := #[115, 108, 105, 99, 101] }, .string { data := #[109, 97, 112] }, .string { data := #[105, 110, 116] }, .string { data := #[98, 111, 111, 108] }, .string { data := #[115, 116, 114, 105, 110, 103] }] t)) (some ⟨w.heap.size, 0, none⟩) wordsB := by
  intro i hi
  refine ⟨w.heap.size, 0, rfl, by simp, ?_⟩
  have hi' : i < 22 := hi
  rw [World.cell?_alloc_at _ _ _ _ rfl]
  have : i = 0 ∨ i = 1 ∨ i = 2 ∨ i = 3 ∨ i = 4 ∨ i = 5 ∨ i = 6 ∨ i = 7 ∨ i = 8 ∨ i = 9 ∨ i = 10 ∨ i = 11 ∨ i = 12 ∨ i = 13 ∨ i = 14 ∨ i = 15 ∨ i = 16 ∨ i = 17 ∨ i = 18 ∨ i = 19 ∨ i = 20 ∨ i = 21 := by omega
  rcases this with rfl | rfl | rfl | rfl | rfl | rfl | rfl | rfl | rfl | rfl | rfl | rfl | rfl | rfl | rfl | rfl | rfl | rfl | rfl | rfl | rfl | rfl <;> rfl
set_option maxRecDepth 10000 in
set_option maxHeartbeats 1000000 in
theorem isWord_any (s : ByteArray) (w : World) :
    Calls Tryd.prog 90 #[.string s] w fun e w' => e = .returned (.bool (wordsT.contains s.toList)) ∧ Below w.heap.size w w' := by
  go_enter Tryd.func90, Tryd.ntmps90
  go_wp2_with fail
  refine (isIn_any s _ wordsB 22 _ (by decide) (wordsAt _ _)).mono ?_
  rintro e w1 ⟨rfl, rfl⟩
  go_wp2_with fail
  go_ret
  exact ⟨by rw [mem_wordsB]; rfl, (Below.refl _ _).alloc (Nat.le_refl _) _⟩

/-- Are all bytes small letters or digits? -/
def wordB (c : UInt8) : Bool := smallB c || digitB c
theorem nameB_eq {s : ByteArray} (h0 : 0 < s.size) : nameB s.toList = (decide (s.size ≤ 12) && !wordsT.contains s.toList && smallB (s[0]'h0) && s.toList.all wordB) := by
  have hl : s.toList.length = s.size := by rw [ByteArray.toList_eq]; simp
  have h1 : s.toList[0]? = some (s[0]'h0) := by
    rw [ByteArray.toList_eq, List.getElem?_eq_getElem (by simpa using h0)]
    rfl
  unfold nameB wordB
  rw [hl]
  cases hq : s.toList with
  | nil => rw [hq] at h1; simp at h1
  | cons c r =>
    rw [hq] at h1
    obtain rfl : c = s[0]'h0 := by simpa using h1
    have : decide (1 ≤ s.size) = true := decide_eq_true h0
    rw [this, Bool.true_and]
set_option maxRecDepth 10000 in
set_option maxHeartbeats 2000000 in
theorem nameMay_any (s : ByteArray) (w : World) (hs : s.size ≤ maxLen) :
    Calls Tryd.prog 47 #[.string s] w fun e w' => e = .returned (.bool (nameB s.toList)) ∧ Below w.heap.size w w' := by
  have hmx : (s.size : Int) ≤ 9223372036854775807 := by unfold maxLen at hs; omega
  have hlen : s.toList.length = s.size := by rw [ByteArray.toList_eq]; simp
  by_cases hin : 1 ≤ s.size ∧ s.size ≤ 12
  · obtain ⟨h1, h12⟩ := hin
    have Hn := Lib.hid (nameB_eq (s := s) h1)
    have hd : (decide ((1 : Int) ≤ (s.size : Int)) && decide ((s.size : Int) ≤ 12)) = true := by simp; omega
    have h12' : decide (s.size ≤ 12) = true := decide_eq_true h12
    have H12 := Lib.hid h12'
    cases hk : wordsT.contains s.toList with
    | true =>
      have Hk := Lib.hid hk
      clear hk
      go_enter Tryd.func47, Tryd.ntmps47
      go_wp2_with (first | (go_at_call 48; refine (refIn_any _ _ _ _).mono ?_; rintro e w' ⟨rfl, rfl⟩; rw [hd]) | (go_at_call 90; refine (isWord_any s _).mono ?_; rintro e w1 ⟨rfl, hb⟩; rw [Hk.out]; have Hb := Lib.hid hb; clear hb))
      go_ret
      exact ⟨by rw [Hn.out, Hk.out]; simp, Hb.out⟩
    | false =>
      have Hk := Lib.hid hk
      clear hk
      cases hc : smallB (s[0]'h1) with
      | false =>
        have Hc := Lib.hid hc
        clear hc
        go_enter Tryd.func47, Tryd.ntmps47
        go_wp2_with (first | (go_at_call 48; refine (refIn_any _ _ _ _).mono ?_; rintro e w' ⟨rfl, rfl⟩; rw [hd]) | (go_at_call 90; refine (isWord_any s _).mono ?_; rintro e w1 ⟨rfl, hb⟩; rw [Hk.out]; have Hb := Lib.hid hb; clear hb) | (go_at_call 91; refine (refSmall_any _ _).mono ?_; rintro e w' ⟨rfl, rfl⟩; rw [Hc.out]))
        go_ret
        exact ⟨by rw [Hn.out, Hk.out, Hc.out]; simp, Hb.out⟩
      | true =>
        have Hc := Lib.hid hc
        clear hc
        go_enter Tryd.func47, Tryd.ntmps47
        go_wp2_with (first | (go_at_call 48; refine (refIn_any _ _ _ _).mono ?_; rintro e w' ⟨rfl, rfl⟩; rw [hd]) | (go_at_call 90; refine (isWord_any s _).mono ?_; rintro e w1 ⟨rfl, hb⟩; rw [Hk.out]; have Hb := Lib.hid hb; clear hb) | (go_at_call 91; refine (refSmall_any _ _).mono ?_; rintro e w' ⟨rfl, rfl⟩; rw [Hc.out]))
        have Hnn := Lib.hid (show nameB s.toList = s.toList.all wordB by rw [Hn.out, H12.out, Hk.out, Hc.out]; simp)
        clear Hn h12'
        go_loop [3] (fun i => ∃ k : Nat, k ≤ s.size ∧ i = .int .i64 k ∧ (s.toList.take k).all wordB = true) (fun i => s.size - (intOf i).toNat)
        case atStart => exact ⟨0, Nat.zero_le _, rfl, by simp⟩
        case round =>
          obtain ⟨k, hk, rfl, hf⟩ := hrel
          have Hf := Lib.hid hf
          clear hf
          by_cases hlt : k < s.size
          · have hk0 : (0 : Int) ≤ k := by omega
            have hk1 : (k : Int) < s.size := by omega
            have hwk : IntKind.i64.wrap ((k : Int) + 1) = (k : Int) + 1 := IntWalk.i64_in _ (by omega)
            have hgk : s.toList[k]'(by omega) = s[k]'hlt := by
              have : s.toList[k]? = some (s[k]'hlt) := by
                rw [ByteArray.toList_eq, List.getElem?_eq_getElem (by simpa using hlt)]
                rfl
              rw [List.getElem?_eq_getElem (by omega)] at this
              exact Option.some.inj this
            have Ht := Lib.hid (show (s.toList.take (k + 1)).all wordB = wordB (s[k]'hlt) by rw [List.take_succ_eq_append_getElem (by omega), List.all_append, Hf.out, hgk]; simp)
            have Hm := Lib.hid (show s[k]'hlt ∈ s.toList from hgk ▸ List.getElem_mem _)
            clear hgk
            cases hc1 : smallB (s[k]'hlt) with
            | true =>
              have Hc1 := Lib.hid hc1
              clear hc1
              go_wp2_with (first | (go_at_call 91; refine (refSmall_any _ _).mono ?_; rintro e w' ⟨rfl, rfl⟩; rw [Hc1.out]))
              exact ⟨⟨k + 1, by omega, by simp, by rw [Ht.out, wordB, Hc1.out]; rfl⟩, by simp only [intOf]; omega⟩
            | false =>
              have Hc1 := Lib.hid hc1
              clear hc1
              cases hc2 : digitB (s[k]'hlt) with
              | true =>
                have Hc2 := Lib.hid hc2
                clear hc2
                go_wp2_with (first | (go_at_call 91; refine (refSmall_any _ _).mono ?_; rintro e w' ⟨rfl, rfl⟩; rw [Hc1.out]) | (go_at_call 92; refine (refDigit_any _ _).mono ?_; rintro e w' ⟨rfl, rfl⟩; rw [Hc2.out]))
                exact ⟨⟨k + 1, by omega, by simp, by rw [Ht.out, wordB, Hc1.out, Hc2.out]; rfl⟩, by simp only [intOf]; omega⟩
              | false =>
                have Hc2 := Lib.hid hc2
                clear hc2
                go_wp2_with (first | (go_at_call 91; refine (refSmall_any _ _).mono ?_; rintro e w' ⟨rfl, rfl⟩; rw [Hc1.out]) | (go_at_call 92; refine (refDigit_any _ _).mono ?_; rintro e w' ⟨rfl, rfl⟩; rw [Hc2.out]))
                go_ret
                refine ⟨?_, Hb.out⟩
                rw [Hnn.out, show s.toList.all wordB = false from by
                  rw [List.all_eq_false]
                  exact ⟨_, Hm.out, by rw [wordB, Hc1.out, Hc2.out]; simp⟩]
                rfl
          · have hke : k = s.size := by omega
            have hlt1 : ¬ ((k : Int) < (s.size : Int)) := by omega
            have Hke := Lib.hid hke
            clear hke
            go_wp2_with fail
            go_ret
            refine ⟨?_, Hb.out⟩
            have := Hf.out
            rw [Hke.out, ← hlen, List.take_length] at this
            rw [Hnn.out, this]
            rfl
  · have hd : (decide ((1 : Int) ≤ (s.size : Int)) && decide ((s.size : Int) ≤ 12)) = false := by simp; omega
    have Hr := Lib.hid (show nameB s.toList = false by
      unfold nameB
      rw [hlen]
      by_cases h1 : 1 ≤ s.size
      · rw [decide_eq_false (by omega : ¬ s.size ≤ 12)]; simp
      · rw [decide_eq_false h1]; simp)
    clear hin
    go_enter Tryd.func47, Tryd.ntmps47
    go_wp2_with (first | (go_at_call 48; refine (refIn_any _ _ _ _).mono ?_; rintro e w' ⟨rfl, rfl⟩; rw [hd]))
    go_ret
    exact ⟨by rw [Hr.out]; rfl, Below.refl _ _⟩
end Go.Proofs.YtaomlfbcfmmhlaaDoor

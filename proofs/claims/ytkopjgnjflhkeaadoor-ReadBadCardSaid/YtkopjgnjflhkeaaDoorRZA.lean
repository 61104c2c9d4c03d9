/-
  Texts joined: RdMark.
-/
import Derived.Test.YtkopjgnjflhkeaaDoorRZ
import Derived.Test.YtkopjgnjflhkeaaDoorRA

/-
  Which mark stands there: the closure of cut, slices.IndexFunc over the table of marks; letters and digits.
-/
namespace Go.Proofs.YtkopjgnjflhkeaaDoor
open Go.RowKit Go.Pst
set_option linter.unusedVariables false
set_option linter.unusedSimpArgs false

def markIx (r : List UInt8) : List (List UInt8) → Int → Int
  | [], _ => -1
  | m :: ms, k => if m.isPrefixOf r = true then k else markIx r ms (k + 1)
theorem markIx_none (r : List UInt8) : ∀ (ms : List (List UInt8)) (k : Int), markR r ms = none → markIx r ms k = -1
  | [], k, _ => rfl
  | m :: ms, k, h => by
    unfold markR at h
    unfold markIx
    split at h
    · cases h
    · rename_i hm
      rw [if_neg hm]
      exact markIx_none r ms _ h
theorem markIx_some (r m : List UInt8) : ∀ (ms : List (List UInt8)) (k : Nat), markR r ms = some m → ∃ j : Nat, j < ms.length ∧ markIx r ms k = ((k + j : Nat) : Int) ∧ ms[j]? = some m
  | [], k, h => by cases h
  | x :: ms, k, h => by
    unfold markR at h
    unfold markIx
    split at h
    · rename_i hm
      injection h with h
      subst h
      exact ⟨0, by simp, by rw [if_pos hm]; simp, by simp⟩
    · rename_i hm
      obtain ⟨j, h1, h2, h3⟩ := markIx_some r m ms (k + 1) h
      refine ⟨j + 1, by simp; omega, ?_, by simpa using h3⟩
      rw [if_neg hm, show ((k : Int) + 1) = ((k + 1 : Nat) : Int) by omega, h2]
      congr 1
      omega
theorem extract_list (s : ByteArray) (i : Nat) (h : i ≤ s.size) : (s.extract i s.size).data.toList = s.data.toList.drop i := by
  rw [ByteArray.data_extract]
  simp
  exact List.take_of_length_le (by simp)

set_option maxHeartbeats 1000000 in
theorem cutHas_any (s m : ByteArray) (i bs bi : Nat) (w : World) (hi : i ≤ s.size) (h1 : w.cell? ⟨bs, 0, none⟩ = some (.string s)) (h2 : w.cell? ⟨bi, 0, none⟩ = some (.int .i64 i)) (hs : s.size ≤ 4000) :
    Calls Tryd.prog 22 #[.string m, .pointer (some ⟨bs, 0, none⟩), .pointer (some ⟨bi, 0, none⟩)] w fun e w' => e = .returned (.bool (m.data.toList.isPrefixOf (s.data.toList.drop i))) ∧ w' = w := by
  have hiI : (i : Int) ≤ (s.size : Int) := by omega
  have hp := Tryd.strings_HasPrefix (s.extract i s.size) m w
  have Hp := Lib.hid hp
  clear hp
  go_enter Tryd.func22, Tryd.ntmps22
  go_wp2_with fail
  refine Hp.out.mono ?_
  rintro en w1 ⟨rfl, rfl⟩
  go_wp2_with fail
  go_ret
  refine ⟨?_, rfl⟩
  have e := extract_list s i hi
  have e2 : (s.data.toList.drop i).take (s.size - i) = s.data.toList.drop i := List.take_of_length_le (by rw [List.length_drop, show s.data.toList.length = s.size from Array.length_toList]; exact Nat.le_refl _)
  first
    | (rw [e, e2]; rfl)
    | (rw [e]; rfl)
    | (simp only [e, e2]; rfl)
theorem letter_any (c : UInt8) (w : World) : Calls Tryd.prog 16 #[.int .u8 (c.toNat : Int)] w fun e w' => e = .returned (.bool (smallB c)) ∧ w' = w := by
  have hx := c.toNat_lt
  have h : smallB c = (decide ((97 : Int) ≤ (c.toNat : Int)) && decide ((c.toNat : Int) ≤ 122)) := by
    unfold smallB
    rw [Bool.eq_iff_iff]
    simp [UInt8.le_iff_toNat_le]
    try omega
  have Hh := Lib.hid h
  clear h
  by_cases h1 : (97 : Int) ≤ (c.toNat : Int)
  · by_cases h2 : (c.toNat : Int) ≤ 122
    · go_enter Tryd.func16, Tryd.ntmps16
      go_wp2_with fail
      go_ret
      exact ⟨by rw [Hh.out]; simp [h1, h2], rfl⟩
    · go_enter Tryd.func16, Tryd.ntmps16
      go_wp2_with fail
      go_ret
      exact ⟨by rw [Hh.out]; simp [h1, h2], rfl⟩
  · go_enter Tryd.func16, Tryd.ntmps16
    go_wp2_with fail
    go_ret
    exact ⟨by rw [Hh.out]; simp [h1]; try omega, rfl⟩
theorem digit_any (c : UInt8) (w : World) : Calls Tryd.prog 17 #[.int .u8 (c.toNat : Int)] w fun e w' => e = .returned (.bool (digitB c)) ∧ w' = w := by
  have hx := c.toNat_lt
  have h : digitB c = (decide ((48 : Int) ≤ (c.toNat : Int)) && decide ((c.toNat : Int) ≤ 57)) := by
    unfold digitB
    rw [Bool.eq_iff_iff]
    simp [UInt8.le_iff_toNat_le]
    try omega
  have Hh := Lib.hid h
  clear h
  by_cases h1 : (48 : Int) ≤ (c.toNat : Int)
  · by_cases h2 : (c.toNat : Int) ≤ 57
    · go_enter Tryd.func17, Tryd.ntmps17
      go_wp2_with fail
      go_ret
      exact ⟨by rw [Hh.out]; simp [h1, h2], rfl⟩
    · go_enter Tryd.func17, Tryd.ntmps17
      go_wp2_with fail
      go_ret
      exact ⟨by rw [Hh.out]; simp [h1, h2], rfl⟩
  · go_enter Tryd.func17, Tryd.ntmps17
    go_wp2_with fail
    go_ret
    exact ⟨by rw [Hh.out]; simp [h1]; try omega, rfl⟩

set_option maxHeartbeats 1000000 in
theorem markIndex_any (s : ByteArray) (i bs bi bm : Nat) (w : World) (hi : i ≤ s.size) (h1 : w.cell? ⟨bs, 0, none⟩ = some (.string s)) (h2 : w.cell? ⟨bi, 0, none⟩ = some (.int .i64 i)) (hs : s.size ≤ 4000)
    (hm : ∀ k (h : k < marksR.length), w.cell? ⟨bm, k, none⟩ = some (.string ⟨marksR[k].toArray⟩)) :
    Calls Tryd.prog 21 #[.slice (some ⟨bm, 0, none⟩) 24 24, .func (.func 22) #[] #[.pointer (some ⟨bs, 0, none⟩), .pointer (some ⟨bi, 0, none⟩)]] w fun e w' => e = .returned (.int .i64 (markIx (s.data.toList.drop i) marksR 0)) ∧ w' = w := by
  have hl : marksR.length = 24 := rfl
  have Hm := Lib.hid hm
  have H1 := Lib.hid h1
  have H2 := Lib.hid h2
  clear hm h1 h2
  obtain ⟨Res, hres⟩ : ∃ Res, Res = markIx (s.data.toList.drop i) marksR 0 := ⟨_, rfl⟩
  rw [← hres]
  have Hres := Lib.hid hres
  clear hres
  go_enter Tryd.func21, Tryd.ntmps21
  go_wp2_with fail
  go_loopw [8] (fun v wr => ∃ k : Nat, k ≤ 24 ∧ v = .int .i64 k ∧ Res = markIx (s.data.toList.drop i) (marksR.drop k) k ∧ wr = w) (fun v _ => 24 - (intOf v).toNat)
  case atStart => exact ⟨0, by decide, rfl, by rw [Hres.out]; rfl, rfl⟩
  case round =>
    obtain ⟨k, hk, rfl, hf, rfl⟩ := hrel
    have Hf := Lib.hid hf
    clear hf
    by_cases hlt : k < 24
    · have hlt1 : (k : Int) < 24 := by omega
      have hk0 : (0 : Int) ≤ k := by omega
      have hkl : k < marksR.length := by rw [hl]; exact hlt
      have x0 := Hm.out k hkl
      have Hd := Lib.hid (List.drop_eq_getElem_cons hkl : marksR.drop k = marksR[k] :: marksR.drop (k + 1))
      have Hcall := Lib.hid (cutHas_any s ⟨marksR[k].toArray⟩ i bs bi wr hi H1.out H2.out hs)
      have hwk : IntKind.i64.wrap ((k : Int) + 1) = (k : Int) + 1 := IntWalk.i64_in _ (by omega)
      generalize marksR[k] = m at *
      go_wp2_with fail
      refine Hcall.out.mono ?_
      rintro en w1 ⟨rfl, rfl⟩
      by_cases he : m.isPrefixOf (s.data.toList.drop i) = true
      · rw [show (ByteArray.mk m.toArray).data.toList.isPrefixOf (s.data.toList.drop i) = true by simpa using he]
        go_wp2_with fail
        go_ret
        exact ⟨by rw [Hf.out, Hd.out]; unfold markIx; rw [if_pos he]; rfl, rfl⟩
      · rw [show (ByteArray.mk m.toArray).data.toList.isPrefixOf (s.data.toList.drop i) = false from Bool.eq_false_iff.2 (fun e => he (by simpa using e))]
        go_wp2_with fail
        go_roundw
        case rel => exact ⟨k + 1, by omega, by go_num, by rw [Hf.out, Hd.out, markIx, if_neg he]; congr 1, by first | rfl | trivial⟩
        case measure => simp [intOf]; omega
    · have hke : k = 24 := by omega
      subst hke
      go_wp2_with fail
      go_ret
      exact ⟨by rw [Hf.out]; rfl, rfl⟩
end Go.Proofs.YtkopjgnjflhkeaaDoor

/-
  Texts joined: RtRunesWalk.
-/
import Derived.Test.YtaomlfbcfmmhlaaTRtRunesA
import Derived.Test.YtaomlfbcfmmhlaaJS
import Derived.Laws.RangeString
import Derived.Laws.RangeAny

/-
  RtRunes' walk.
-/
namespace Go.Proofs.Ytaomlfbcfmmhlaa
open Go Go.RowKit Go.Pst
set_option linter.unusedVariables false
set_option linter.unusedSimpArgs false
set_option maxRecDepth 100000

set_option maxHeartbeats 2000000 in
theorem runeAt_any (s : ByteArray) (h : 0 < s.size) {w : World} :
    Calls Try.prog 29 #[.string s] w fun e w' => e = .returned (.tuple #[.int .i64 (Utf8.decode s 0).1, .int .i64 (Utf8.decode s 0).2]) ∧ Below w.heap.size w w' := by
  have hl := decode_len s h
  have hb := decode_bad s h
  have hnx : ∀ ty, (Instr.next (.pointer (some ⟨w.heap.size, 0, none⟩)) true ty).run Try.prog (w.iter s 0) = _ := fun ty => run_next_any w s 0 ty h
  have hle := decode_le s 0
  generalize Utf8.decode s 0 = q at *
  obtain ⟨c, d⟩ := q
  dsimp only at *
  rw [Nat.zero_add] at hnx
  have hbel : Below w.heap.size w (w.iter s d) := (Below.refl _ _).alloc (Nat.le_refl _) _
  have HB := Lib.hid hbel
  clear hbel
  by_cases hc : c = 65533
  · have hd := hb hc
    subst hc
    clear hl hb hle
    have Hd := Lib.hid hd
    clear hd
    by_cases h3 : s.size < 3
    · have hd1 : d = 1 := by rw [Hd.out, if_neg (short_mark s h3)]
      subst hd1
      have h3i : (s.size : Int) < 3 := by omega
      go_enter Try.func29, Try.ntmps29
      go_wp2_with fail
      go_loopw [] (fun w' => w' = w.iter s 0) (fun w' => 0)
      case atStart => rfl
      case round =>
        subst hrel
        go_wp2_with fail
        refine bodyPost_ret (v := .tuple #[.int .i64 65533, .int .i64 1]) (by simp [results, Try.results29, go_sem]) rfl ?_
        exact ⟨rfl, HB.out⟩
    · have hme := mark_eq s (by omega)
      have h3i : 3 ≤ (s.size : Int) := by omega
      by_cases hm : byteN s 0 = 239 ∧ byteN s 1 = 191 ∧ byteN s 2 = 189
      · have hd1 : d = 3 := by rw [Hd.out, if_pos hm]
        subst hd1
        rw [decide_eq_true hm] at hme
        clear hm
        go_enter Try.func29, Try.ntmps29
        go_wp2_with fail
        go_loopw [] (fun w' => w' = w.iter s 0) (fun w' => 0)
        case atStart => rfl
        case round =>
          subst hrel
          go_wp2_with fail
          refine bodyPost_ret (v := .tuple #[.int .i64 65533, .int .i64 3]) (by simp [results, Try.results29, go_sem]) rfl ?_
          exact ⟨rfl, HB.out⟩
      · have hd1 : d = 1 := by rw [Hd.out, if_neg hm]
        subst hd1
        rw [decide_eq_false hm] at hme
        clear hm
        go_enter Try.func29, Try.ntmps29
        go_wp2_with fail
        go_loopw [] (fun w' => w' = w.iter s 0) (fun w' => 0)
        case atStart => rfl
        case round =>
          subst hrel
          go_wp2_with fail
          refine bodyPost_ret (v := .tuple #[.int .i64 65533, .int .i64 1]) (by simp [results, Try.results29, go_sem]) rfl ?_
          exact ⟨rfl, HB.out⟩
  · have hl := hl hc
    have hci : ¬ (c : Int) = 65533 := by omega
    clear hb
    have hle1 : (0 : Int) ≤ (c : Int) := by omega
    have hle2 : (c : Int) ≤ 2147483647 := by omega
    clear hle hc
    generalize (c : Int) = ci at *
    have HL := Lib.hid hl
    clear hl
    go_enter Try.func29, Try.ntmps29
    go_wp2_with fail
    go_loopw [] (fun w' => w' = w.iter s 0) (fun w' => 0)
    case atStart => rfl
    case round =>
      subst hrel
      go_wp2_with fail
      refine bodyPost_ret (v := .tuple #[.int .i64 ci, .int .i64 (Utf8.encode ci).size]) (by simp [results, Try.results29, go_sem]) rfl ?_
      rw [HL.out]
      exact ⟨rfl, HB.out⟩
theorem RuneAt_any (s : ByteArray) (h : 0 < s.size) {w : World} :
    Calls Try.prog 14 #[.string s] w fun e w' => e = .returned (.tuple #[.int .i64 (runeF (bytesI s.data.toList)).1, .int .i64 (runeF (bytesI s.data.toList)).2]) ∧ Below w.heap.size w w' := by
  have hd := decode_rune s h
  rw [← hd]
  show Calls _ _ _ _ fun e w' => e = .returned (.tuple #[.int .i64 (Utf8.decode s 0).1, .int .i64 (Utf8.decode s 0).2]) ∧ Below w.heap.size w w'
  clear hd
  have hr := runeAt_any s h (w := w)
  revert hr
  generalize Utf8.decode s 0 = q
  obtain ⟨c, d⟩ := q
  intro hr
  go_enter Try.func14, Try.ntmps14
  go_wp2_with fail
  refine hr.mono ?_
  rintro e w1 ⟨rfl, h1⟩
  go_wp2_with fail
  refine bodyPost_ret (v := .tuple #[.int .i64 c, .int .i64 d]) (by simp [results, Try.results14, go_sem]) rfl ?_
  exact ⟨rfl, h1⟩
theorem bytesI_drop (s : ByteArray) (k : Nat) (h : k ≤ s.size) : bytesI (s.extract k s.size).data.toList = (bytesI s.data.toList).drop k := by
  obtain ⟨⟨l⟩⟩ := s
  have e : (ByteArray.extract ⟨⟨l⟩⟩ k (ByteArray.size ⟨⟨l⟩⟩)).data.toList = l.drop k := by
    have h' : k ≤ l.length := h
    have e2 : ByteArray.size ⟨⟨l⟩⟩ - k = (l.drop k).length := by rw [List.length_drop]; rfl
    simp only [ByteArray.data_extract, List.extract_toArray, List.extract_eq_take_drop]
    rw [e2, List.take_length]
  rw [e]
  simp [bytesI]
theorem bytesI_byte {l : List UInt8} : ∀ y ∈ bytesI l, 0 ≤ y ∧ y ≤ 255 := fun x hx => by
  simp only [bytesI, List.mem_map] at hx
  obtain ⟨y, hy, rfl⟩ := hx
  have := y.toNat_lt
  exact ⟨by omega, by omega⟩
theorem rune_in (s : ByteArray) (h : 0 < s.size) : InI (runeF (bytesI s.data.toList)).1 ∧ InI (runeF (bytesI s.data.toList)).2 := by
  rw [← decode_rune s h]
  have h1 := decode_le s 0
  have h2 : (Utf8.decode s 0).2 ≤ 4 := by
    rw [decode_eq s h]
    unfold decN
    repeat' split
    all_goals (dsimp only; omega)
  show InI ((Utf8.decode s 0).1 : Int) ∧ InI ((Utf8.decode s 0).2 : Int)
  unfold InI
  omega
set_option maxHeartbeats 4000000 in
theorem rtRunes_any (s : ByteArray) (hs : s.size ≤ reachBytes) (at_ : Int) (ha : InI at_) {w : World} :
    Calls Try.prog 5 #[.string s, .int .i64 at_] w fun e w' => e = .returned (.bool true) ∧ Below w.heap.size w w' := by
  have hm : reachBytes = 140737488351232 := rfl
  rw [hm] at hs
  clear hm
  by_cases h0 : (s.size : Int) = 0
  · go_enter Try.func5, Try.ntmps5
    go_wp2_with fail
    go_ret
    exact ⟨rfl, Below.refl _ _⟩
  have hse : ¬ s = ByteArray.empty := fun e => h0 (by rw [e]; rfl)
  by_cases hbig : 1000 < (s.size : Int)
  · go_enter Try.func5, Try.ntmps5
    go_wp2_with fail
    go_ret
    exact ⟨rfl, Below.refl _ _⟩
  obtain ⟨K, hK⟩ : ∃ K : Nat, K = (at_.tmod s.size).natAbs := ⟨_, rfl⟩
  have hlt : at_.tmod s.size < s.size := Int.tmod_lt_of_pos _ (by omega)
  have hgt : -(s.size : Int) < at_.tmod s.size := Int.lt_tmod_of_pos _ (by omega)
  have hKN : K < s.size := by omega
  have hKi : (K : Int) < s.size := by omega
  have hK0 : (0 : Int) ≤ K := by omega
  have hN : s.size ≤ 1000 := by omega
  have hrun := run_rune (W := bytesI s.data.toList) (N := s.size) (K := K) (by rw [bytesI_len, data_len]) hN bytesI_byte hKN
  have HRUN := Lib.hid hrun
  clear hrun
  obtain ⟨tm, htm⟩ : ∃ tm, at_.tmod s.size = tm := ⟨_, rfl⟩
  rw [htm] at hK hlt hgt
  by_cases hneg : tm < 0
  · have hk1 : -tm = K := by omega
    have hw : wrap64 (-tm) = K := by rw [hk1]; exact wrap_small (by omega) (by omega)
    clear hK hlt hgt hk1
    go_enter Try.func5, Try.ntmps5
    go_wp2_with fail
    refine (all_any _).mono ?_
    rintro e w1 ⟨g, rfl, hA, hb1⟩
    rw [all_lit] at hA
    have HA := Lib.hid hA
    have HB1 := Lib.hid hb1
    clear hA hb1
    go_wp2_with fail
    have hW3 := new_one w1 (.cells #[.int .i64 0, .int .i64 s.size, .int .i64 K] 3)
    have bW3 : Below w1.heap.size w1 (w1.alloc (.cells #[.int .i64 0, .int .i64 s.size, .int .i64 K] 3)) := (Below.refl _ _).alloc (Nat.le_refl _) _
    generalize (w1.alloc (.cells #[.int .i64 0, .int .i64 s.size, .int .i64 K] 3)) = w3 at hW3 bW3 ⊢
    have hlit : rInts (fun _ => True) w3 [.slice (some ⟨w1.heap.size, 0, none⟩) 3 3] [0, (s.size : Int), (K : Int)] := rInts_all [0, (s.size : Int), (K : Int)] trivial (lens rfl) (fun y hy => by
      simp at hy
      rcases hy with rfl | rfl | rfl
      · exact ini rfl
      · exact ini_small (by omega) (by omega)
      · exact ini_small (by omega) (by omega)) hW3
    have HI3 := Lib.hid hlit
    have HB3 := Lib.hid bW3
    clear hW3 bW3 hlit
    refine (wordsOf_any s (by omega)).mono ?_
    rintro e w2 ⟨vd, rfl, hvd, hb2⟩
    have hD := ints_own (S := fun _ => True) (w := w2) (v := vd) (l := bytesI s.data.toList) (by rw [bytesI_len, data_len]; exact row_base hvd (Nat.zero_le _)) (fun _ _ => trivial) bytesI_inI
    have b12 := HB3.out.trans (hb2.mono HB3.out.size)
    have hA2 := Good.keep (S' := fun _ => True) (Keep.of_below' b12 (fun x hx _ => hx)) (fun _ _ _ => trivial) HA.out
    have hI2 := Good.keep (S' := fun _ => True) (Keep.of_below' hb2 (fun x hx _ => hx)) (fun _ _ _ => trivial) HI3.out
    have b02 := HB1.out.trans (b12.mono HB1.out.size)
    have hDl : (bytesI s.data.toList).length ≤ 20000 := by rw [bytesI_len, data_len]; omega
    have HA2 := Lib.hid hA2
    have HI2 := Lib.hid hI2
    have HD := Lib.hid hD
    have HB2 := Lib.hid b02
    have HDl := Lib.hid hDl
    clear hvd hb2 hD b12 hA2 hI2 b02 hDl
    go_wp2_with fail
    refine (tells_any (l := [0, (s.size : Int), (K : Int)]) (r := 2) (by decide) (by simp) (by decide) HA2.out HI2.out HD.out (by decide) (by decide) HDl.out (fault_rune _ _ _ _ HDl.out) (fit_driven _ _ _ _ (by simp) (by decide) HDl.out) HRUN.out).mono ?_
    rintro e w4 ⟨v4, rfl, ho4, b4⟩
    obtain ⟨g4, c4, hv4⟩ := row_some ho4
    subst hv4
    have HO4 := Lib.hid ho4
    have HB4 := Lib.hid b4
    clear ho4 b4
    go_wp2_with fail
    have hext : 0 < (s.extract K s.size).size := by rw [ByteArray.size_extract]; omega
    have hin := rune_in (s.extract K s.size) hext
    have hra := RuneAt_any (s.extract K s.size) hext (w := w4)
    rw [bytesI_drop s K (by omega)] at hra hin
    generalize runeF ((bytesI s.data.toList).drop K) = q at *
    obtain ⟨r0, r1⟩ := q
    obtain ⟨hin0, hin1⟩ := hin
    refine hra.mono ?_
    rintro e w5 ⟨rfl, b5⟩
    have HB5 := Lib.hid b5
    clear b5 hra
    go_wp2_with fail
    refine (Dec_any _ hin0 _).mono ?_
    rintro e w6 ⟨rfl, b6⟩
    have HB6 := Lib.hid b6
    clear b6
    go_wp2_with fail
    refine (Dec_any _ hin1 _).mono ?_
    rintro e w7 ⟨rfl, b7⟩
    have HB7 := Lib.hid b7
    clear b7
    go_wp2_with fail
    have c4_ := Below.refl w4.heap.size w4
    have c5_ := c4_.trans (HB5.out.mono c4_.size)
    have c6_ := c5_.trans (HB6.out.mono c5_.size)
    have c7_ := c6_.trans (HB7.out.mono c6_.size)
    have cl_ := c7_.alloc c7_.size (.cells #[.string (decS r0), .string (decS r1)] 9)
    refine (sameTexts_any [decS r0, decS r1] _ _ _ 0 (row_base ((Since.of_below' cl_ (fun _ => False)).row HO4.out (fun _ _ f => f)) (Nat.zero_le _)) (own_lits w7 _ 9 #[.string (decS r0), .string (decS r1)] 2 1 rfl rfl (by decide))).mono ?_
    rintro e wz ⟨rfl, bz⟩
    have Hz := Lib.hid (cl_.trans (bz.mono cl_.size))
    clear cl_ bz
    go_wp2_with fail
    go_ret
    have r1 := HB2.out
    have r2 := HB4.out.trans (Hz.out.mono HB4.out.size)
    exact ⟨rfl, r1.trans (r2.mono r1.size)⟩
  · have hk1 : tm = K := by omega
    clear hlt hgt hK
    subst hk1
    go_enter Try.func5, Try.ntmps5
    go_wp2_with fail
    refine (all_any _).mono ?_
    rintro e w1 ⟨g, rfl, hA, hb1⟩
    rw [all_lit] at hA
    have HA := Lib.hid hA
    have HB1 := Lib.hid hb1
    clear hA hb1
    go_wp2_with fail
    have hW3 := new_one w1 (.cells #[.int .i64 0, .int .i64 s.size, .int .i64 K] 3)
    have bW3 : Below w1.heap.size w1 (w1.alloc (.cells #[.int .i64 0, .int .i64 s.size, .int .i64 K] 3)) := (Below.refl _ _).alloc (Nat.le_refl _) _
    generalize (w1.alloc (.cells #[.int .i64 0, .int .i64 s.size, .int .i64 K] 3)) = w3 at hW3 bW3 ⊢
    have hlit : rInts (fun _ => True) w3 [.slice (some ⟨w1.heap.size, 0, none⟩) 3 3] [0, (s.size : Int), (K : Int)] := rInts_all [0, (s.size : Int), (K : Int)] trivial (lens rfl) (fun y hy => by
      simp at hy
      rcases hy with rfl | rfl | rfl
      · exact ini rfl
      · exact ini_small (by omega) (by omega)
      · exact ini_small (by omega) (by omega)) hW3
    have HI3 := Lib.hid hlit
    have HB3 := Lib.hid bW3
    clear hW3 bW3 hlit
    refine (wordsOf_any s (by omega)).mono ?_
    rintro e w2 ⟨vd, rfl, hvd, hb2⟩
    have hD := ints_own (S := fun _ => True) (w := w2) (v := vd) (l := bytesI s.data.toList) (by rw [bytesI_len, data_len]; exact row_base hvd (Nat.zero_le _)) (fun _ _ => trivial) bytesI_inI
    have b12 := HB3.out.trans (hb2.mono HB3.out.size)
    have hA2 := Good.keep (S' := fun _ => True) (Keep.of_below' b12 (fun x hx _ => hx)) (fun _ _ _ => trivial) HA.out
    have hI2 := Good.keep (S' := fun _ => True) (Keep.of_below' hb2 (fun x hx _ => hx)) (fun _ _ _ => trivial) HI3.out
    have b02 := HB1.out.trans (b12.mono HB1.out.size)
    have hDl : (bytesI s.data.toList).length ≤ 20000 := by rw [bytesI_len, data_len]; omega
    have HA2 := Lib.hid hA2
    have HI2 := Lib.hid hI2
    have HD := Lib.hid hD
    have HB2 := Lib.hid b02
    have HDl := Lib.hid hDl
    clear hvd hb2 hD b12 hA2 hI2 b02 hDl
    go_wp2_with fail
    refine (tells_any (l := [0, (s.size : Int), (K : Int)]) (r := 2) (by decide) (by simp) (by decide) HA2.out HI2.out HD.out (by decide) (by decide) HDl.out (fault_rune _ _ _ _ HDl.out) (fit_driven _ _ _ _ (by simp) (by decide) HDl.out) HRUN.out).mono ?_
    rintro e w4 ⟨v4, rfl, ho4, b4⟩
    obtain ⟨g4, c4, hv4⟩ := row_some ho4
    subst hv4
    have HO4 := Lib.hid ho4
    have HB4 := Lib.hid b4
    clear ho4 b4
    go_wp2_with fail
    have hext : 0 < (s.extract K s.size).size := by rw [ByteArray.size_extract]; omega
    have hin := rune_in (s.extract K s.size) hext
    have hra := RuneAt_any (s.extract K s.size) hext (w := w4)
    rw [bytesI_drop s K (by omega)] at hra hin
    generalize runeF ((bytesI s.data.toList).drop K) = q at *
    obtain ⟨r0, r1⟩ := q
    obtain ⟨hin0, hin1⟩ := hin
    refine hra.mono ?_
    rintro e w5 ⟨rfl, b5⟩
    have HB5 := Lib.hid b5
    clear b5 hra
    go_wp2_with fail
    refine (Dec_any _ hin0 _).mono ?_
    rintro e w6 ⟨rfl, b6⟩
    have HB6 := Lib.hid b6
    clear b6
    go_wp2_with fail
    refine (Dec_any _ hin1 _).mono ?_
    rintro e w7 ⟨rfl, b7⟩
    have HB7 := Lib.hid b7
    clear b7
    go_wp2_with fail
    have c4_ := Below.refl w4.heap.size w4
    have c5_ := c4_.trans (HB5.out.mono c4_.size)
    have c6_ := c5_.trans (HB6.out.mono c5_.size)
    have c7_ := c6_.trans (HB7.out.mono c6_.size)
    have cl_ := c7_.alloc c7_.size (.cells #[.string (decS r0), .string (decS r1)] 9)
    refine (sameTexts_any [decS r0, decS r1] _ _ _ 0 (row_base ((Since.of_below' cl_ (fun _ => False)).row HO4.out (fun _ _ f => f)) (Nat.zero_le _)) (own_lits w7 _ 9 #[.string (decS r0), .string (decS r1)] 2 1 rfl rfl (by decide))).mono ?_
    rintro e wz ⟨rfl, bz⟩
    have Hz := Lib.hid (cl_.trans (bz.mono cl_.size))
    clear cl_ bz
    go_wp2_with fail
    go_ret
    have r1 := HB2.out
    have r2 := HB4.out.trans (Hz.out.mono HB4.out.size)
    exact ⟨rfl, r1.trans (r2.mono r1.size)⟩
end Go.Proofs.Ytaomlfbcfmmhlaa

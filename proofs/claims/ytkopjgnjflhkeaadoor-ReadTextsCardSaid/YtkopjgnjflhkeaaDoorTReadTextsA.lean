/-
  Texts joined: ReadTextsPure ReadTextsWalk.
-/
import Derived.Test.YtkopjgnjflhkeaaDoorRA
import Derived.Test.YtkopjgnjflhkeaaDoorRZN

/-
  A text literal is read as it is written (plain law on readR).
-/
namespace Go.Pst
open Go.RowKit
set_option linter.unusedVariables false
/-- How a byte is written in a text. -/
def escB (c : UInt8) : List UInt8 := if c = 34 ∨ c = 92 then [92, c] else if c = 10 then [92, 110] else [c]
def escL : List UInt8 → List UInt8
  | [] => []
  | c :: r => escB c ++ escL r
theorem escL_append (a b : List UInt8) : escL (a ++ b) = escL a ++ escL b := by
  induction a with
  | nil => rfl
  | cons c r ih => show escB c ++ escL (r ++ b) = escB c ++ escL r ++ escL b; rw [ih, List.append_assoc]
theorem textR_esc : ∀ (s acc : List UInt8) (k : Nat) (rest : List UInt8), textR (escL s ++ 34 :: rest) acc k = .ok (acc ++ s, k + (escL s).length + 1)
  | [], acc, k, rest => by
    show textR (34 :: rest) acc k = _
    unfold textR
    rw [if_pos rfl]
    simp [escL]
  | c :: r, acc, k, rest => by
    have ih := fun acc k => textR_esc r acc k rest
    by_cases h1 : c = 34 ∨ c = 92
    · have e : escL (c :: r) ++ 34 :: rest = 92 :: c :: (escL r ++ 34 :: rest) := by simp [escL, escB, h1]
      have e2 : (escL (c :: r)).length = (escL r).length + 2 := by simp [escL, escB, h1]
      rw [e, e2]
      unfold textR
      rw [if_neg (by decide), if_pos rfl]
      dsimp only
      rw [if_pos h1, ih]
      simp
      omega
    · by_cases h2 : c = 10
      · subst h2
        have e : escL (10 :: r) ++ 34 :: rest = 92 :: 110 :: (escL r ++ 34 :: rest) := by simp [escL, escB]
        have e2 : (escL (10 :: r)).length = (escL r).length + 2 := by simp [escL, escB]
        rw [e, e2]
        unfold textR
        rw [if_neg (by decide), if_pos rfl]
        dsimp only
        rw [if_neg (by decide), if_pos rfl, ih]
        simp
        omega
      · have e : escL (c :: r) ++ 34 :: rest = c :: (escL r ++ 34 :: rest) := by simp [escL, escB, h1, h2]
        have e2 : (escL (c :: r)).length = (escL r).length + 1 := by simp [escL, escB, h1, h2]
        have h3 : ¬ c = 34 := fun e => h1 (Or.inl e)
        have h4 : ¬ c = 92 := fun e => h1 (Or.inr e)
        rw [e, e2]
        unfold textR
        rw [if_neg h3, if_neg h4, if_neg h2, ih]
        simp
        omega
def preL : List UInt8 := [102, 117, 110, 99, 32, 109, 97, 105, 110, 40, 41, 32, 123, 32, 112, 114, 105, 110, 116, 40]
def tokW (s : List UInt8) (i : Nat) : Tok := ⟨119, ⟨s.toArray⟩, 0, i⟩
def tokM (s : List UInt8) (i : Nat) : Tok := ⟨109, ⟨s.toArray⟩, 0, i⟩
theorem cut_pre (f : Nat) (X : List UInt8) : cutR (f + 10) (preL ++ 34 :: X) 0 [] = cutR f (34 :: X) 20 [tokW [102, 117, 110, 99] 0, tokW [109, 97, 105, 110] 5, tokM [40] 9, tokM [41] 10, tokM [123] 12, tokW [112, 114, 105, 110, 116] 14, tokM [40] 19] := by
  rfl
theorem cut_text (f : Nat) (s rest : List UInt8) (i : Nat) (acc : List Tok) : cutR (f + 1) (34 :: (escL s ++ 34 :: rest)) i acc = cutR f rest (i + ((escL s).length + 2)) (acc ++ [⟨116, ⟨s.toArray⟩, 0, i⟩]) := by
  have ht : tokR (34 :: (escL s ++ 34 :: rest)) i = .ok (some ⟨116, ⟨s.toArray⟩, 0, i⟩, (escL s).length + 2) := by
    unfold tokR
    dsimp only
    rw [if_neg (by decide), if_neg (by decide), if_neg (by decide), if_pos rfl, textR_esc]
    simp
  rw [cutR.eq_3]
  rw [ht]
  dsimp only
  have : (34 :: (escL s ++ 34 :: rest)).drop ((escL s).length + 2) = rest := by
    simp
  rw [this]
theorem cut_post (f : Nat) (i : Nat) (acc : List Tok) : cutR (f + 4) [41, 32, 125] i acc = .ok (acc ++ [tokM [41] i] ++ [tokM [125] (i + 1 + 1)] ++ [⟨101, ⟨#[]⟩, 0, ((i + 1 + 1 + 1 : Nat) : Int)⟩]) := by
  rfl
def mainText (s : List UInt8) : List PFunc := [⟨⟨#[109, 97, 105, 110]⟩, [], 0, [.mk 9 ⟨#[]⟩ ⟨#[]⟩ [.mk 2 0 ⟨s.toArray⟩ []] [] [] []]⟩]
theorem read_toks (s : List UInt8) (i j k : Nat) : ∃ r, readLoop 11 [] ([tokW [102, 117, 110, 99] 0, tokW [109, 97, 105, 110] 5, tokM [40] 9, tokM [41] 10, tokM [123] 12, tokW [112, 114, 105, 110, 116] 14, tokM [40] 19] ++ [⟨116, ⟨s.toArray⟩, 0, (20 : Int)⟩] ++ [tokM [41] i] ++ [tokM [125] j] ++ [⟨101, ⟨#[]⟩, 0, (k : Int)⟩]) = .ok (mainText s, r) := ⟨[⟨101, ⟨#[]⟩, 0, (k : Int)⟩], by kernel_rfl⟩
theorem readR_text (s : List UInt8) (h : (escL s).length + 25 ≤ 4000) : readR (preL ++ 34 :: (escL s ++ 34 :: [41, 32, 125])) = .ok (mainText s) := by
  have hl : (preL ++ 34 :: (escL s ++ 34 :: [41, 32, 125])).length = (escL s).length + 25 := by simp [preL]
  unfold readR
  rw [if_neg (by omega), hl, show (escL s).length + 25 = ((escL s).length + 14 + 1) + 10 from rfl, cut_pre, cut_text, show (escL s).length + 14 = ((escL s).length + 10) + 4 from rfl, cut_post]
  dsimp only
  obtain ⟨r, hr⟩ := read_toks s (20 + ((escL s).length + 2)) (20 + ((escL s).length + 2) + 1 + 1) (20 + ((escL s).length + 2) + 1 + 1 + 1)
  have : ([tokW [102, 117, 110, 99] 0, tokW [109, 97, 105, 110] 5, tokM [40] 9, tokM [41] 10, tokM [123] 12, tokW [112, 114, 105, 110, 116] 14, tokM [40] 19] ++ [(⟨116, ⟨s.toArray⟩, 0, (20 : Int)⟩ : Tok)] ++ [tokM [41] (20 + ((escL s).length + 2))] ++ [tokM [125] (20 + ((escL s).length + 2) + 1 + 1)] ++ [(⟨101, ⟨#[]⟩, 0, ((20 + ((escL s).length + 2) + 1 + 1 + 1 : Nat) : Int)⟩ : Tok)]).length = 11 := rfl
  rw [show ((20 : Nat) : Int) = (20 : Int) from rfl]
  rw [this, hr]
theorem readR_long (s : List UInt8) (h : 4000 < s.length) : readR s = .error (0, 1) := by
  unfold readR
  rw [if_pos h]
end Go.Pst

/-
  posternkeep.ReadTexts, walked.
-/
namespace Go.Proofs.YtkopjgnjflhkeaaDoor
open Go.RowKit Go.Pst
set_option linter.unusedVariables false
set_option linter.unusedSimpArgs false

theorem main_open {d : Nat} {S : Nat → Prop} {w : World} {v : Value} {s : List UInt8} (h : rFuncs d S w [v] (mainText s)) :
    ∃ b off cap b2 off2 c2 b3 off3 c3, v = .slice (some ⟨b, off, none⟩) 1 cap ∧ w.cell? ⟨b, off + 3, none⟩ = some (.slice (some ⟨b2, off2, none⟩) 1 c2) ∧ w.cell? ⟨b2, off2 + 3, none⟩ = some (.slice (some ⟨b3, off3, none⟩) 1 c3) ∧
      w.cell? ⟨b3, off3, none⟩ = some (.int .i64 2) ∧ w.cell? ⟨b3, off3 + 2, none⟩ = some (.string ⟨s.toArray⟩) := by
  obtain ⟨a, cap, rfl, -, -, hat⟩ := rFuncs_val h
  obtain ⟨b, off, v1, v3, rfl, -, -, -, -, -, h3, -, -, -, hb⟩ := hat 0 (show 0 < 1 by decide)
  cases d with
  | zero =>
    obtain ⟨_, _, _, _, _, hx⟩ := rSlice_val hb
    obtain ⟨_, _, _, _, _, _, _, _, hf⟩ := hx 0 (show 0 < 1 by decide)
    exact hf.elim
  | succ d =>
    obtain ⟨a2, c2, rfl, -, hat2⟩ := rStmts_val hb
    obtain ⟨b2, off2, x3, x4, x5, x6, rfl, -, ⟨-, -, -, g3, -, -, -⟩, hx, -⟩ := hat2 0 (show 0 < 1 by decide)
    cases d with
    | zero =>
      obtain ⟨_, _, _, _, _, hx⟩ := rSlice_val hx
      obtain ⟨_, _, _, _, _, _, _, _, hf⟩ := hx 0 (show 0 < 1 by decide)
      exact hf.elim
    | succ d =>
      obtain ⟨a3, c3, rfl, -, -, hat3⟩ := rSlice_val hx
      obtain ⟨b3, off3, es, rfl, -, -, -, hc, y3, rfl, -, -⟩ := hat3 0 (show 0 < 1 by decide)
      have e0 := hc 0 (by decide)
      have e2 := hc 2 (by decide)
      exact ⟨b, off, cap, b2, off2, c2, b3, off3, c3, rfl, by simp only [Nat.zero_mul, Nat.add_zero] at h3; exact h3, by simp only [Nat.zero_mul, Nat.add_zero] at g3; exact g3, by simp only [Nat.zero_mul, Nat.add_zero] at e0; exact e0, by simp only [Nat.zero_mul, Nat.add_zero] at e2; exact e2⟩

theorem one_byte (s : ByteArray) (i : Nat) (h : i < s.size) : (s.extract i (i + 1)).data.toList = [s[i]'h] := by
  have hl : i < s.data.toList.length := by rw [Array.length_toList]; exact h
  rw [ByteArray.data_extract, Array.toList_extract, List.extract_eq_take_drop]
  rw [show i + 1 - i = 1 by omega, List.drop_eq_getElem_cons hl]
  simp [ByteArray.getElem_eq_getElem_data] <;> rfl
theorem esc_take (s : ByteArray) (i : Nat) (h : i < s.size) : escL (s.data.toList.take (i + 1)) = escL (s.data.toList.take i) ++ escB (s[i]'h) := by
  have hl : i < s.data.toList.length := by rw [Array.length_toList]; exact h
  rw [List.take_add_one, List.getElem?_eq_getElem hl, escL_append]
  show _ = _ ++ _
  congr 1
  simp [escL, ByteArray.getElem_eq_getElem_data] <;> rfl
theorem esc_len (l : List UInt8) : (escL l).length ≤ 2 * l.length := by
  induction l with
  | nil => decide
  | cons c r ih =>
    show (escB c ++ escL r).length ≤ _
    have : (escB c).length ≤ 2 := by
      unfold escB
      split
      · exact Nat.le_refl 2
      · split
        · exact Nat.le_refl 2
        · exact Nat.le_succ 1
    rw [List.length_append, List.length_cons]
    omega

set_option maxRecDepth 100000 in
set_option maxHeartbeats 8000000 in
theorem readTexts_any (s : ByteArray) (w : World) (hs : s.size ≤ reachBytes) (hL : ReadLaid w) :
    Calls Tryd.prog 3 #[.string s] w fun e w' => e = .returned (.bool true) ∧ Below w.heap.size w w' := by
  have hsI : (s.size : Int) ≤ 140737488355328 := by unfold reachBytes at hs; omega
  have HL := Lib.hid hL
  clear hL
  go_enter Tryd.func3, Tryd.ntmps3
  go_wp2_with fail
  go_loop [3, 10] (fun l j => ∃ (L : ByteArray) (i : Nat), l = .string L ∧ j = .int .i64 i ∧ i ≤ s.size ∧ L.data.toList = 34 :: escL (s.data.toList.take i)) (fun _ j => s.size - (intOf j).toNat)
  case atStart => exact ⟨_, 0, rfl, rfl, Nat.zero_le _, rfl⟩
  case round =>
    obtain ⟨L, i, rfl, rfl, his, hLl⟩ := hrel
    have hLz : L.size ≤ 2 * s.size + 1 := by
      have e1 : L.size = L.data.toList.length := (Array.length_toList).symm
      have e2 := esc_len (s.data.toList.take i)
      rw [e1, hLl]
      simp at e2 ⊢
      have : s.data.size = s.size := rfl
      omega
    by_cases hlt : i < s.size
    · have hltI : (i : Int) < (s.size : Int) := by omega
      have hx := (s[i]'hlt).toNat_lt
      have hon := one_byte s i hlt
      have hes := esc_take s i hlt
      have hoz : (s.extract i (i + 1)).size = 1 := by
        show (s.extract i (i + 1)).data.size = 1
        rw [← Array.length_toList, hon]
        rfl
      obtain ⟨o, ho⟩ : ∃ o, o = s.extract i (i + 1) := ⟨_, rfl⟩
      rw [← ho] at hon hoz
      have Ho := Lib.hid ho
      have Hon := Lib.hid hon
      have Hes := Lib.hid hes
      have HLl := Lib.hid hLl
      clear hon hes ho hLl
      have hEsc : ∀ (l : List UInt8), escB (s[i]'hlt) = l → escL (s.data.toList.take (i + 1)) = escL (s.data.toList.take i) ++ l := fun l h => by rw [← h]; exact Hes.out
      by_cases e1 : s[i]'hlt = 34 ∨ s[i]'hlt = 92
      · have hE := Lib.hid (hEsc [92, s[i]'hlt] (by unfold escB; rw [if_pos e1]))
        clear hEsc
        have key : ∀ (L2 : ByteArray), L2.data.toList = 92 :: o.data.toList → (L ++ L2).data.toList = 34 :: escL (s.data.toList.take (i + 1)) := fun L2 h => by
          rw [ByteArray.data_append, Array.toList_append, HLl.out, h, Hon.out, hE.out]; simp
        have Key := Lib.hid key
        clear key
        rcases e1 with e1 | e1
        · have f1 : ((s[i]'hlt).toNat : Int) = 34 := by rw [e1]; rfl
          clear e1
          go_wp2_with fail
          refine ⟨⟨_, i + 1, rfl, by go_num, by omega, ?_⟩, by simp [intOf]; omega⟩
          rw [← Ho.out]
          exact Key.out _ (by rw [ByteArray.data_append, Array.toList_append]; rfl)
        · have n1 : ((s[i]'hlt).toNat : Int) ≠ 34 := by rw [e1]; decide
          have f1 : ((s[i]'hlt).toNat : Int) = 92 := by rw [e1]; rfl
          clear e1
          go_wp2_with fail
          refine ⟨⟨_, i + 1, rfl, by go_num, by omega, ?_⟩, by simp [intOf]; omega⟩
          rw [← Ho.out]
          exact Key.out _ (by rw [ByteArray.data_append, Array.toList_append]; rfl)
      · by_cases e2 : s[i]'hlt = 10
        · have hE := Lib.hid (hEsc [92, 110] (by unfold escB; rw [if_neg e1, if_pos e2]))
          clear hEsc
          have n1 : ((s[i]'hlt).toNat : Int) ≠ 34 := by rw [e2]; decide
          have n2 : ((s[i]'hlt).toNat : Int) ≠ 92 := by rw [e2]; decide
          have f3 : ((s[i]'hlt).toNat : Int) = 10 := by rw [e2]; rfl
          clear e1 e2
          go_wp2_with fail
          refine ⟨⟨_, i + 1, rfl, by go_num, by omega, ?_⟩, by simp [intOf]; omega⟩
          rw [ByteArray.data_append, Array.toList_append, HLl.out, hE.out]
          rfl
        · have hE := Lib.hid (hEsc [s[i]'hlt] (by unfold escB; rw [if_neg e1, if_neg e2]))
          clear hEsc
          have n1 : ((s[i]'hlt).toNat : Int) ≠ 34 := fun h => e1 (Or.inl (UInt8.toNat.inj (by have : (34 : UInt8).toNat = 34 := rfl; omega)))
          have n2 : ((s[i]'hlt).toNat : Int) ≠ 92 := fun h => e1 (Or.inr (UInt8.toNat.inj (by have : (92 : UInt8).toNat = 92 := rfl; omega)))
          have n3 : ((s[i]'hlt).toNat : Int) ≠ 10 := fun h => e2 (UInt8.toNat.inj (by have : (10 : UInt8).toNat = 10 := rfl; omega))
          have f1 : (((s[i]'hlt).toNat : Int) == 34) = false := by simpa using n1
          have f2 : (((s[i]'hlt).toNat : Int) == 92) = false := by simpa using n2
          have f3 : (((s[i]'hlt).toNat : Int) == 10) = false := by simpa using n3
          clear e1 e2
          go_wp2_with fail
          refine ⟨⟨_, i + 1, rfl, by go_num, by omega, ?_⟩, by simp [intOf]; omega⟩
          rw [← Ho.out, ByteArray.data_append, Array.toList_append, HLl.out, hE.out, Hon.out]
          rfl
    · have hie : i = s.size := by omega
      have hnl : ¬ ((i : Int) < (s.size : Int)) := by omega
      have hEa : L.data.toList = 34 :: escL s.data.toList := by rw [hLl, List.take_of_length_le (by rw [Array.length_toList]; exact Nat.le_of_eq hie.symm)]
      obtain ⟨src, hsrc⟩ : ∃ src : ByteArray, src = ((⟨#[102, 117, 110, 99, 32, 109, 97, 105, 110, 40, 41, 32, 123, 32, 112, 114, 105, 110, 116, 40]⟩ : ByteArray) ++ L) ++ ⟨#[34, 41, 32, 125]⟩ := ⟨_, rfl⟩
      have hss : src.data.toList = preL ++ 34 :: (escL s.data.toList ++ 34 :: [41, 32, 125]) := by
        rw [hsrc, ByteArray.data_append, Array.toList_append, ByteArray.data_append, Array.toList_append, hEa]
        simp [preL]
      have hlen : L.size = (escL s.data.toList).length + 1 := by rw [← show L.data.toList.length = L.size from Array.length_toList, hEa]; rfl
      have hsz : src.size = L.size + 24 := by rw [← show src.data.toList.length = src.size from Array.length_toList, hss, hlen]; simp [preL]
      have hr := read_any src (by omega) w HL.out
      rw [hss] at hr
      have Hr := Lib.hid hr
      have Hsrc := Lib.hid hsrc
      clear hr hss hsrc hEa hLl
      go_wp2_with fail
      rw [← Hsrc.out]
      refine Hr.out.mono ?_
      rintro en w4 ⟨v, p, x, rfl, hs4, hres⟩
      by_cases hbig : 4000 < L.size + 30
      · have hbI : (4000 : Int) < (L.size : Int) + 30 := by omega
        clear hres
        go_wp2_with fail
        go_ret
        exact ⟨rfl, hs4.below (Nat.le_refl _) (fun k f => f.elim)⟩
      · have hbI : ¬ (4000 : Int) < (L.size : Int) + 30 := by omega
        rw [readR_text _ (by omega)] at hres
        obtain ⟨⟨d, hrd⟩, rfl, rfl⟩ := hres
        obtain ⟨b, off, cap, b2, off2, c2, b3, off3, c3, rfl, k1, k2, k3, k4⟩ := main_open hrd
        rw [show (⟨s.data.toList.toArray⟩ : ByteArray) = s from by rw [Array.toArray_toList]] at k4
        clear hrd
        go_wp2_with fail
        go_ret
        exact ⟨rfl, hs4.below (Nat.le_refl _) (fun k f => f.elim)⟩
end Go.Proofs.YtkopjgnjflhkeaaDoor

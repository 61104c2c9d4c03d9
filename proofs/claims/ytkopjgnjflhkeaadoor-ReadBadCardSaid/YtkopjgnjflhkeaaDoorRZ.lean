/-
  Texts joined: RdText.
-/
import Derived.Test.YtkopjgnjflhkeaaDoorRY
import Derived.Test.YtkopjgnjflhkeaaDoorRA
import Derived.Test.YtkopjgnjflhkeaaDoorShelf
import Derived.Deep.Cut
import Derived.Deep.DeepCutAuto

/-
  The reader's text: a text literal, walked.
-/
namespace Go.Proofs.YtkopjgnjflhkeaaDoor
open Go.RowKit Go.Pst
set_option linter.unusedVariables false
set_option linter.unusedSimpArgs false

def byteV (l : List UInt8) : List Value := l.map fun b => Value.int .u8 (b.toNat : Int)
/-- What text answers. -/
def TextEnd (p : Nat) (res : Except Int (List UInt8 × Nat)) (w : World) (en : Ending) (w' : World) : Prop :=
  ∃ (t : ByteArray) (k e : Int), en = .returned (.tuple #[.string t, .int .i64 k, .int .i64 e]) ∧ Since (fun _ => False) w w' ∧ (match res with
    | .ok (l, n) => t = ⟨l.toArray⟩ ∧ k = ((p + 1 + n : Nat) : Int) ∧ e = 0
    | .error x => e = x)
theorem drop_get (s : ByteArray) (k : Nat) (h : k < s.size) : s.data.toList.drop k = s[k] :: s.data.toList.drop (k + 1) := by
  have hl : k < s.data.toList.length := by rw [show s.data.toList.length = s.size from Array.length_toList]; exact h
  rw [List.drop_eq_getElem_cons hl]
  rfl
theorem drop_end (s : ByteArray) (k : Nat) (h : s.size ≤ k) : s.data.toList.drop k = [] := List.drop_eq_nil_of_le (by rw [show s.data.toList.length = s.size from Array.length_toList]; exact h)
theorem byteV_snoc (l : List UInt8) (b : UInt8) : byteV (l ++ [b]) = byteV l ++ [Value.int .u8 (b.toNat : Int)] := by simp [byteV]
theorem text_byte (b : UInt8) (n : Nat) (h : b.toNat = n) (hn : n < 256) : b = UInt8.ofNat n := by
  apply UInt8.toNat_inj.1
  rw [h]
  simp
  omega
theorem textR_quote (c : UInt8) (r acc : List UInt8) (k : Nat) (h : c.toNat = 34) : textR (c :: r) acc k = .ok (acc, k + 1) := by
  obtain rfl : c = 34 := text_byte c 34 h (by decide)
  unfold textR
  rw [if_pos rfl]
theorem textR_line (c : UInt8) (r acc : List UInt8) (k : Nat) (h : c.toNat = 10) : textR (c :: r) acc k = .error 4 := by
  obtain rfl : c = 10 := text_byte c 10 h (by decide)
  unfold textR
  rw [if_neg (by decide), if_neg (by decide), if_pos rfl]
theorem textR_byte (c : UInt8) (r acc : List UInt8) (k : Nat) (h1 : c.toNat ≠ 34) (h2 : c.toNat ≠ 92) (h3 : c.toNat ≠ 10) : textR (c :: r) acc k = textR r (acc ++ [c]) (k + 1) := by
  rw [textR.eq_def]
  dsimp only
  rw [if_neg (fun e => h1 (by rw [e]; rfl)), if_neg (fun e => h2 (by rw [e]; rfl)), if_neg (fun e => h3 (by rw [e]; rfl))]
theorem textR_esc0 (c : UInt8) (acc : List UInt8) (k : Nat) (h : c.toNat = 92) : textR [c] acc k = .error 5 := by
  obtain rfl : c = 92 := text_byte c 92 h (by decide)
  rfl
/-- What an escaped byte stands for. -/
def escV (b : UInt8) : Option UInt8 := if b = 34 ∨ b = 92 then some b else if b = 110 then some 10 else none
theorem textR_esc1 (c b : UInt8) (r acc : List UInt8) (k : Nat) (h : c.toNat = 92) : textR (c :: b :: r) acc k = match escV b with | some x => textR r (acc ++ [x]) (k + 2) | none => .error 4 := by
  obtain rfl : c = 92 := text_byte c 92 h (by decide)
  rw [textR.eq_def]
  dsimp only
  rw [if_neg (by decide), if_pos rfl]
  unfold escV
  by_cases h1 : b = 34 ∨ b = 92
  · rw [if_pos h1, if_pos h1]
  · rw [if_neg h1, if_neg h1]
    by_cases h2 : b = 110
    · rw [if_pos h2, if_pos h2]
    · rw [if_neg h2, if_neg h2]
/-- Where an escaped byte stands in the table of the code. -/
theorem index_esc (b : UInt8) : (Lib.indexByte [34, 92, 110] b = 0 ∧ escV b = some 34) ∨ (Lib.indexByte [34, 92, 110] b = 1 ∧ escV b = some 92) ∨ (Lib.indexByte [34, 92, 110] b = 2 ∧ escV b = some 10) ∨ (Lib.indexByte [34, 92, 110] b = -1 ∧ escV b = none) := by
  by_cases h1 : b = 34
  · subst h1; exact Or.inl ⟨by decide, by decide⟩
  by_cases h2 : b = 92
  · subst h2; exact Or.inr (Or.inl ⟨by decide, by decide⟩)
  by_cases h3 : b = 110
  · subst h3; exact Or.inr (Or.inr (Or.inl ⟨by decide, by decide⟩))
  refine Or.inr (Or.inr (Or.inr ⟨?_, ?_⟩))
  · simp [Lib.indexByte, Ne.symm h1, Ne.symm h2, Ne.symm h3]
  · simp [escV, h1, h2, h3]

set_option maxRecDepth 100000 in
set_option maxHeartbeats 4000000 in
theorem readText_any (s : ByteArray) (p : Nat) (w : World) (hp : p < s.size) (hs : s.size ≤ 4000) :
    Calls Tryd.prog 20 #[.string s, .int .i64 p] w (TextEnd p (textR (s.data.toList.drop (p + 1)) [] 0) w) := by
  obtain ⟨Res, hres⟩ : ∃ Res, Res = textR (s.data.toList.drop (p + 1)) [] 0 := ⟨_, rfl⟩
  rw [← hres]
  have hpI : (p : Int) ≤ 4000 := by omega
  have hsI : (s.size : Int) ≤ 4000 := by omega
  obtain ⟨q, hq⟩ : ∃ q : Nat, (p : Int) + 1 = (q : Int) := ⟨p + 1, by omega⟩
  have hqp : q = p + 1 := by omega
  rw [← hqp] at hres
  have hb0 := Lib.fresh_isBuilder 86 5 w
  have hbl : Below w.heap.size w (w.alloc (.cells #[.pointer none, .slice none 0 0] 86)) := (Below.refl _ _).alloc (Nat.le_refl _) _
  have Hb0 := Lib.hid hb0
  have Hbl := Lib.hid hbl
  have Hres := Lib.hid hres
  have Hqp := Lib.hid hqp
  clear hb0 hbl hres hqp
  go_enter Tryd.func20, Tryd.ntmps20
  go_wp2_with fail
  generalize w.alloc (.cells #[.pointer none, .slice none 0 0] 86) = w0 at *
  go_loopw [8] (fun v wr => ∃ (i : Nat) (l : List UInt8), v = .int .i64 i ∧ q ≤ i ∧ i ≤ s.size ∧ l.length ≤ i ∧ Lib.IsBuilder 86 5 w.heap.size w.heap.size (byteV l) wr ∧ Below w.heap.size w wr ∧ Res = textR (s.data.toList.drop i) l (i - q)) (fun v _ => s.size - (intOf v).toNat)
  case atStart => exact ⟨q, [], rfl, Nat.le_refl _, by have := Hqp.out; omega, Nat.zero_le _, Hb0.out, Hbl.out, by rw [Hres.out]; simp⟩
  case round =>
    obtain ⟨i, l, rfl, hqi, his, hll, hB, hbw, hR⟩ := hrel
    have HB := Lib.hid hB
    have Hbw := Lib.hid hbw
    have HR := Lib.hid hR
    have hsz := hbw.size
    clear hB hbw hR
    by_cases hlt : i < s.size
    · have hlt1 : (i : Int) < s.size := by omega
      have hd := drop_get s i hlt
      have hx := (s[i]'hlt).toNat_lt
      have HR2 := Lib.hid (HR.out.trans (by rw [hd]))
      have Hd := Lib.hid hd
      clear hd
      have hci : ((s[i]'hlt).toNat : Int) < 256 := by omega
      obtain ⟨c, hc⟩ : ∃ c, c = s[i]'hlt := ⟨_, rfl⟩
      rw [← hc] at HR2 hci hx
      have Hc := Lib.hid hc
      by_cases e1 : c.toNat = 34
      · have f1 : ((s[i]'hlt).toNat : Int) = 34 := by rw [← hc, e1]; rfl
        have E1 := Lib.hid e1
        clear e1 hc
        have hstr := Tryd.Builder_String_any w.heap.size w.heap.size l wr HB.out hsz
        have Hstr := Lib.hid hstr
        clear hstr
        go_wp2_with fail
        refine Hstr.out.mono ?_
        rintro en w1 ⟨rfl, hb1⟩
        have hbA := Hbw.out.trans hb1
        have HbA := Lib.hid hbA
        clear hb1 hbA
        go_wp2_with fail
        refine bodyPost_ret (v := .tuple #[.string ⟨l.toArray⟩, .int .i64 ((i : Int) + 1), .int .i64 0]) (by simp [results, Tryd.results20, go_sem]) rfl ⟨_, _, 0, rfl, (Since.mk (F := fun _ => False) HbA.out.os HbA.out.tape HbA.out.output HbA.out.size (fun k hk _ => HbA.out.block k hk)), ?_⟩
        rw [HR2.out, textR_quote _ _ _ _ E1.out]; exact ⟨rfl, by have := Hqp.out; push_cast; omega, rfl⟩
      have f1 : ¬ ((s[i]'hlt).toNat : Int) = 34 := by rw [← hc]; omega
      by_cases e2 : c.toNat = 92
      · have f2 : ((s[i]'hlt).toNat : Int) = 92 := by rw [← hc, e2]; rfl
        have E2 := Lib.hid e2
        clear e2 hc
        obtain ⟨i1, hi1⟩ : ∃ i1 : Nat, (i : Int) + 1 = (i1 : Int) := ⟨i + 1, by omega⟩
        have hi1e : i1 = i + 1 := by omega
        by_cases hlt2 : i1 < s.size
        · have hd2 := drop_get s i1 hlt2
          obtain ⟨b, hb⟩ : ∃ b, b = s[i1]'hlt2 := ⟨_, rfl⟩
          have hbx := (s[i1]'hlt2).toNat_lt
          have HR3 : Res = textR (c :: b :: s.data.toList.drop (i + 2)) l (i - q) := by rw [HR2.out, ← hi1e, hd2, hb, show i1 + 1 = i + 2 by omega]
          rw [textR_esc1 _ _ _ _ _ E2.out] at HR3
          have HR4 := Lib.hid HR3
          have hlt21 : (i1 : Int) < s.size := by omega
          have hne2 : ¬ (i1 : Int) = (s.size : Int) := by omega
          have hib := Tryd.strings_IndexByte ⟨#[34, 92, 110]⟩ ((s[i1]'hlt2).toNat : Int) wr
          have hun : ((s[i1]'hlt2).toNat : Int).toNat.toUInt8 = b := by rw [hb]; simp
          rw [hun] at hib
          have hix := index_esc b
          have Hi1e := Lib.hid hi1e
          clear hd2 HR3 hun hi1e hb
          rcases hix with ⟨hx1, hx2⟩ | ⟨hx1, hx2⟩ | ⟨hx1, hx2⟩ | ⟨hx1, hx2⟩
          · rw [show Lib.indexByte (ByteArray.mk #[34, 92, 110]).data.toList b = 0 from hx1] at hib
            have Hib := Lib.hid hib
            have Hx2 := Lib.hid hx2
            have Hwb := Lib.hid (writeByte_any w.heap.size w.heap.size (byteV l) 34 wr HB.out (by simp [byteV]; omega) hsz)
            clear hib hx1 hx2
            go_wp2_with fail
            refine Hib.out.mono ?_
            rintro en w1 ⟨rfl, rfl⟩
            go_wp2_with fail
            refine Hwb.out.mono ?_
            rintro en w2 ⟨rfl, hb1, hbw1⟩
            have HB1 := Lib.hid (show Lib.IsBuilder 86 5 w.heap.size w.heap.size (byteV (l ++ [34])) w2 from Or.inr (by rw [byteV_snoc]; exact hb1))
            have Hbw1 := Lib.hid (Hbw.out.trans hbw1)
            clear hb1 hbw1
            go_wp2_with fail
            go_roundw
            case rel => exact ⟨i + 2, l ++ [34], by have := Hi1e.out; subst this; go_num, by omega, by have := Hi1e.out; omega, by simp; omega, HB1.out, Hbw1.out, by rw [HR4.out, Hx2.out]; dsimp only; congr 1; omega⟩
            all_goals (simp [intOf]; omega)
          · rw [show Lib.indexByte (ByteArray.mk #[34, 92, 110]).data.toList b = 1 from hx1] at hib
            have Hib := Lib.hid hib
            have Hx2 := Lib.hid hx2
            have Hwb := Lib.hid (writeByte_any w.heap.size w.heap.size (byteV l) 92 wr HB.out (by simp [byteV]; omega) hsz)
            clear hib hx1 hx2
            go_wp2_with fail
            refine Hib.out.mono ?_
            rintro en w1 ⟨rfl, rfl⟩
            go_wp2_with fail
            refine Hwb.out.mono ?_
            rintro en w2 ⟨rfl, hb1, hbw1⟩
            have HB1 := Lib.hid (show Lib.IsBuilder 86 5 w.heap.size w.heap.size (byteV (l ++ [92])) w2 from Or.inr (by rw [byteV_snoc]; exact hb1))
            have Hbw1 := Lib.hid (Hbw.out.trans hbw1)
            clear hb1 hbw1
            go_wp2_with fail
            go_roundw
            case rel => exact ⟨i + 2, l ++ [92], by have := Hi1e.out; subst this; go_num, by omega, by have := Hi1e.out; omega, by simp; omega, HB1.out, Hbw1.out, by rw [HR4.out, Hx2.out]; dsimp only; congr 1; omega⟩
            all_goals (simp [intOf]; omega)
          · rw [show Lib.indexByte (ByteArray.mk #[34, 92, 110]).data.toList b = 2 from hx1] at hib
            have Hib := Lib.hid hib
            have Hx2 := Lib.hid hx2
            have Hwb := Lib.hid (writeByte_any w.heap.size w.heap.size (byteV l) 10 wr HB.out (by simp [byteV]; omega) hsz)
            clear hib hx1 hx2
            go_wp2_with fail
            refine Hib.out.mono ?_
            rintro en w1 ⟨rfl, rfl⟩
            go_wp2_with fail
            refine Hwb.out.mono ?_
            rintro en w2 ⟨rfl, hb1, hbw1⟩
            have HB1 := Lib.hid (show Lib.IsBuilder 86 5 w.heap.size w.heap.size (byteV (l ++ [10])) w2 from Or.inr (by rw [byteV_snoc]; exact hb1))
            have Hbw1 := Lib.hid (Hbw.out.trans hbw1)
            clear hb1 hbw1
            go_wp2_with fail
            go_roundw
            case rel => exact ⟨i + 2, l ++ [10], by have := Hi1e.out; subst this; go_num, by omega, by have := Hi1e.out; omega, by simp; omega, HB1.out, Hbw1.out, by rw [HR4.out, Hx2.out]; dsimp only; congr 1; omega⟩
            all_goals (simp [intOf]; omega)
          · rw [show Lib.indexByte (ByteArray.mk #[34, 92, 110]).data.toList b = -1 from hx1] at hib
            have Hib := Lib.hid hib
            have Hx2 := Lib.hid hx2
            clear hib hx1 hx2
            go_wp2_with fail
            refine Hib.out.mono ?_
            rintro en w1 ⟨rfl, rfl⟩
            go_wp2_with fail
            refine bodyPost_ret (v := .tuple #[.string ⟨#[]⟩, .int .i64 0, .int .i64 4]) (by simp [results, Tryd.results20, go_sem]) rfl ⟨_, _, 4, rfl, (Since.mk (F := fun _ => False) Hbw.out.os Hbw.out.tape Hbw.out.output Hbw.out.size (fun k hk _ => Hbw.out.block k hk)), ?_⟩
            rw [HR4.out, Hx2.out]
        · have hsz1 : i1 = s.size := by omega
          have HR3 : Res = textR [c] l (i - q) := by rw [HR2.out, drop_end s _ (by omega)]
          have HR4 := Lib.hid HR3
          clear HR3
          subst hsz1
          clear hi1e hlt2
          go_wp2_with fail
          refine bodyPost_ret (v := .tuple #[.string ⟨#[]⟩, .int .i64 0, .int .i64 5]) (by simp [results, Tryd.results20, go_sem]) rfl ⟨_, _, 5, rfl, (Since.mk (F := fun _ => False) Hbw.out.os Hbw.out.tape Hbw.out.output Hbw.out.size (fun k hk _ => Hbw.out.block k hk)), ?_⟩
          rw [HR4.out, textR_esc0 _ _ _ E2.out]
      have f2 : ¬ ((s[i]'hlt).toNat : Int) = 92 := by rw [← hc]; omega
      by_cases e3 : c.toNat = 10
      · have f3 : ((s[i]'hlt).toNat : Int) = 10 := by rw [← hc, e3]; rfl
        have E3 := Lib.hid e3
        clear e3 hc
        go_wp2_with fail
        refine bodyPost_ret (v := .tuple #[.string ⟨#[]⟩, .int .i64 (0), .int .i64 4]) (by simp [results, Tryd.results20, go_sem]) rfl ⟨_, _, 4, rfl, (Since.mk (F := fun _ => False) Hbw.out.os Hbw.out.tape Hbw.out.output Hbw.out.size (fun k hk _ => Hbw.out.block k hk)), ?_⟩
        rw [HR2.out, textR_line _ _ _ _ E3.out]
      have f3 : ¬ ((s[i]'hlt).toNat : Int) = 10 := by rw [← hc]; omega
      have HE := Lib.hid (textR_byte c (s.data.toList.drop (i + 1)) l (i - q) e1 e2 e3)
      have hwb := writeByte_any w.heap.size w.heap.size (byteV l) ((s[i]'hlt).toNat : Int) wr HB.out (by simp [byteV]; omega) hsz
      have Hwb := Lib.hid hwb
      clear e1 e2 e3 hc hwb
      go_wp2_with fail
      refine Hwb.out.mono ?_
      rintro en w1 ⟨rfl, hb1, hbw1⟩
      have HB1 := Lib.hid (show Lib.IsBuilder 86 5 w.heap.size w.heap.size (byteV (l ++ [c])) w1 from Or.inr (by rw [byteV_snoc, Hc.out]; exact hb1))
      have Hbw1 := Lib.hid (Hbw.out.trans hbw1)
      clear hb1 hbw1
      go_wp2_with fail
      go_roundw
      case rel => exact ⟨i + 1, l ++ [c], by go_num, by omega, by omega, by simp; omega, HB1.out, Hbw1.out, by rw [HR2.out, HE.out]; congr 1; omega⟩
      all_goals (simp [intOf]; omega)
    · have hie : i = s.size := by omega
      subst hie
      go_wp2_with fail
      refine bodyPost_ret (v := .tuple #[.string ⟨#[]⟩, .int .i64 (0), .int .i64 5]) (by simp [results, Tryd.results20, go_sem]) rfl ⟨_, _, 5, rfl, (Since.mk (F := fun _ => False) Hbw.out.os Hbw.out.tape Hbw.out.output Hbw.out.size (fun k hk _ => Hbw.out.block k hk)), ?_⟩
      rw [HR.out, drop_end s _ (Nat.le_refl _)]; rfl
end Go.Proofs.YtkopjgnjflhkeaaDoor

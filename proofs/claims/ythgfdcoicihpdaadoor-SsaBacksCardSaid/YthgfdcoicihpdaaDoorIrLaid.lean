/-
  ir.rules, ir.maths: what the program's text lays there, and what it gives a walk; the small functions of package ir and of slices that its checks call.
-/
import Derived.Test.YthgfdcoicihpdaaDoorRows
import Derived.Test.YthgfdcoicihpdaaDoorFault
import Derived.Test.YthgfdcoicihpdaaDoorFuncs
namespace Go.Proofs.YthgfdcoicihpdaaDoor
open Go.RowKit Go.Pst
set_option linter.unusedVariables false

/-- ir.rules: how many results, arguments, places (-1: as many as it says). -/
def ruleF : Nat → Int × Int × Int
  | 1 => (1, 0, 0) | 2 => (1, 1, 0) | 3 => (1, 2, 0) | 4 => (1, 1, 0) | 5 => (0, 2, 0) | 6 => (1, 1, 0) | 7 => (-1, -1, 0) | 8 => (0, -1, 0) | 9 => (0, 0, 1)
  | 10 => (0, 1, 2) | 11 => (0, 1, -1) | 12 => (0, -1, 0) | _ => (0, 0, 0)

structure IrLaid (w : World) : Prop where
  lt : 0 < w.heap.size ∧ 1 < w.heap.size
  rules : ∀ k, k < 14 → w.cell? ⟨0, k * 3, none⟩ = some (.int .i64 (ruleF k).1) ∧ w.cell? ⟨0, k * 3 + 1, none⟩ = some (.int .i64 (ruleF k).2.1) ∧ w.cell? ⟨0, k * 3 + 2, none⟩ = some (.int .i64 (ruleF k).2.2)
  maths : ∃ a cap, w.cell? ⟨1, 0, none⟩ = some (.slice a 11 cap) ∧ StrsAt w a mathsF
theorem IrLaid.below {w w' : World} (h : IrLaid w) (hb : Below w.heap.size w w') : IrLaid w' := by
  refine ⟨⟨Nat.lt_of_lt_of_le h.lt.1 hb.size, Nat.lt_of_lt_of_le h.lt.2 hb.size⟩, fun k hk => ?_, ?_⟩
  · obtain ⟨h1, h2, h3⟩ := h.rules k hk
    exact ⟨(hb.cell (p := ⟨_, k * 3, none⟩) h.lt.1).trans h1, (hb.cell (p := ⟨_, k * 3 + 1, none⟩) h.lt.1).trans h2, (hb.cell (p := ⟨_, k * 3 + 2, none⟩) h.lt.1).trans h3⟩
  · obtain ⟨a, cap, h1, h2⟩ := h.maths
    exact ⟨a, cap, (hb.cell (p := ⟨_, 0, none⟩) h.lt.2).trans h1, h2.below hb⟩

theorem irEnds_any (x : Int) (w : World) :
    Calls Tryd.prog 39 #[.int .i64 x] w fun e w' => e = .returned (.bool (closesF x)) ∧ w = w' := by
  go_enter Tryd.func39, Tryd.ntmps39
  by_cases h : 9 ≤ x
  · have h1 : decide (x ≥ 9) = true := decide_eq_true h
    go_wp2
    go_ret
    exact ⟨by simp [closesF, h], rfl⟩
  · have h1 : decide (x ≥ 9) = false := decide_eq_false h
    go_wp2
    go_ret
    exact ⟨by simp [closesF]; omega, rfl⟩

/-- The closures of checkInstr: a number outside. -/
def oddF (hi : Int) (x : Int) : Bool := decide (x < 0) || decide (hi ≤ x)
theorem any_oddF (l : List Int) (hi : Int) : l.any (oddF hi) = !(inAll l hi) := by
  unfold inAll
  induction l with
  | nil => rfl
  | cons x r ih =>
    rw [List.any_cons, List.all_cons, ih]
    by_cases h1 : 0 ≤ x <;> by_cases h2 : x ≤ hi - 1 <;> simp [oddF, h1, h2] <;> omega

theorem odd1_answers (hi : Int) (l : List Int) (w : World) (blk : Nat) (hc : w.cell? ⟨blk, 3, none⟩ = some (.int .i64 hi)) :
    Answers Tryd.prog 46 #[.pointer (some ⟨blk, 0, none⟩)] (oddF hi) l w := by
  intro x _ w' hd
  have hc' : w'.cell? ⟨blk, 3, none⟩ = some (.int .i64 hi) := by rw [hd.cell]; exact hc
  by_cases h : x < 0
  · have h1 : decide (x < 0) = true := decide_eq_true h
    go_enter Tryd.func46, Tryd.ntmps46
    go_wp2_with fail
    go_ret
    exact ⟨by simp [oddF, h], Drawn.refl _⟩
  · have h1 : decide (x < 0) = false := decide_eq_false h
    go_enter Tryd.func46, Tryd.ntmps46
    go_wp2_with fail
    go_ret
    exact ⟨by simp [oddF]; omega, Drawn.refl _⟩

theorem odd2_answers (nb : Nat) (l : List Int) (w : World) (blk : Nat) (a : Option Addr) (cap : Nat) (hn : nb ≤ 9223372036854775807) (hc : w.cell? ⟨blk, 5, none⟩ = some (.slice a nb cap)) :
    Answers Tryd.prog 47 #[.pointer (some ⟨blk, 0, none⟩)] (oddF nb) l w := by
  intro x _ w' hd
  have hc' : w'.cell? ⟨blk, 5, none⟩ = some (.slice a nb cap) := by rw [hd.cell]; exact hc
  by_cases h : x < 0
  · have h1 : decide (x < 0) = true := decide_eq_true h
    go_enter Tryd.func47, Tryd.ntmps47
    go_wp2_with fail
    go_ret
    exact ⟨by simp [oddF, h], Drawn.refl _⟩
  · have h1 : decide (x < 0) = false := decide_eq_false h
    go_enter Tryd.func47, Tryd.ntmps47
    go_wp2_with fail
    go_ret
    exact ⟨by simp [oddF]; omega, Drawn.refl _⟩

set_option maxHeartbeats 400000 in
theorem indexStr_any (x : ByteArray) (a : Option Addr) (l : List ByteArray) (cap : Nat) (w : World) (hl : l.length ≤ 9223372036854775807) (hat : StrsAt w a l) :
    Calls Tryd.prog 52 #[.slice a l.length cap, .string x] w fun e w' => e = .returned (.int .i64 (firstOf (fun y => decide (x = y)) l 0)) ∧ w = w' := by
  go_enter Tryd.func52, Tryd.ntmps52
  go_wp2
  go_loop [8] (fun i => ∃ k : Nat, k ≤ l.length ∧ i = .int .i64 k ∧ firstOf (fun y => decide (x = y)) l 0 = firstOf (fun y => decide (x = y)) (l.drop k) k) (fun i => l.length - (intOf i).toNat)
  case atStart => exact ⟨0, Nat.zero_le _, rfl, by simp⟩
  case round =>
    obtain ⟨k, hk, rfl, hf⟩ := hrel
    have Hf := Lib.hid hf
    clear hf
    by_cases hlt : k < l.length
    · obtain ⟨b, off, rfl, hb, hc⟩ := hat k hlt
      have hlt1 : (k : Int) < (l.length : Int) := by omega
      have hd : l.drop k = l[k] :: l.drop (k + 1) := List.drop_eq_getElem_cons hlt
      have Hd := Lib.hid hd
      clear hd hat
      generalize l[k] = y at *
      by_cases hxy : x = y
      · have h1 := str_eq hxy
        have Hx := Lib.hid hxy
        clear hxy
        go_wp2
        go_ret
        exact ⟨by rw [Hf.out, Hd.out]; simp [firstOf, Hx.out], rfl⟩
      · have h1 := str_ne hxy
        have Hx := Lib.hid hxy
        clear hxy
        go_wp2
        go_round
        case rel => exact ⟨k + 1, by omega, by go_num, by rw [Hf.out, Hd.out]; simp [firstOf, Hx.out]⟩
        case measure => simp [intOf]; omega
    · have hke : k = l.length := by omega
      subst hke
      go_wp2
      go_ret
      exact ⟨by rw [Hf.out]; simp [firstOf], rfl⟩

theorem containsStr_any (x : ByteArray) (a : Option Addr) (l : List ByteArray) (cap : Nat) (w : World) (hl : l.length ≤ 9223372036854775807) (hat : StrsAt w a l) :
    Calls Tryd.prog 48 #[.slice a l.length cap, .string x] w fun e w' => e = .returned (.bool (decide (x ∈ l))) ∧ w = w' := by
  have hge : decide (0 ≤ firstOf (fun y => decide (x = y)) l 0) = decide (x ∈ l) := by
    rw [firstOf_ge, Bool.eq_iff_iff]
    simp
  have Hg := Lib.hid hge
  clear hge
  go_enter Tryd.func48, Tryd.ntmps48
  go_wp2_with fail
  refine (indexStr_any _ _ _ _ _ hl hat).mono ?_
  rintro e w' ⟨rfl, rfl⟩
  go_wp2_with fail
  go_ret
  exact ⟨by rw [← Hg.out]; rfl, rfl⟩

/-- A closure that answers p at each code of l, in whatever later world. -/
def AnswersC (P : Program) (g : Nat) (lb : Array Value) (p : PCode → Bool) (l : List PCode) (w : World) : Prop :=
  ∀ x ∈ l, ∀ cs w', rCode (fun _ => True) w' cs x → Below w.heap.size w w' → Calls P g (#[.agg cs.toArray] ++ lb) w' fun e w'' => e = .returned (.bool (p x)) ∧ Below w'.heap.size w' w''

theorem rSlice_take {α : Type} {sz : Nat} {R : Rep α} {S : Nat → Prop} {w : World} {a : Option Addr} {n cap : Nat} {l : List α} (h : rSlice sz R S w [.slice a n cap] l) {k : Nat} (hk : k ≤ l.length) : rSlice sz R S w [.slice a k cap] (l.take k) := by
  obtain ⟨a', cap', hv, h2, h3, h4⟩ := rSlice_val h
  obtain ⟨rfl, -, rfl⟩ : a = a' ∧ n = l.length ∧ cap = cap' := by simpa using hv
  refine ⟨a, cap, by rw [List.length_take, Nat.min_eq_left hk], by rw [List.length_take]; omega, h3, fun i hi => ?_⟩
  rw [List.length_take] at hi
  obtain ⟨b, off, es, e1, e2, e3, e4, e5, e6⟩ := h4 i (by omega)
  exact ⟨b, off, es, e1, e2, e3, e4, e5, by rw [List.getElem_take]; exact e6⟩

set_option maxHeartbeats 400000 in
theorem indexFuncC_any (g : Nat) (lb : Array Value) (p : PCode → Bool) (a : Option Addr) (fs : List PCode) (cap : Nat) (w : World) (hfs : rCodes (fun _ => True) w [.slice a fs.length cap] fs)
    (hg : Enters Tryd.prog g) (hp : AnswersC Tryd.prog g lb p fs w) :
    Calls Tryd.prog 53 #[.slice a fs.length cap, .func (.func g) #[] lb] w fun e w' => e = .returned (.int .i64 (firstOf p fs 0)) ∧ Below w.heap.size w w' := by
  obtain ⟨a', cap', hv, hcap, hmax, hat⟩ := rCodes_val hfs
  obtain ⟨rfl, rfl⟩ : a = a' ∧ cap = cap' := by simpa using hv
  unfold maxLen at hmax
  clear hv
  have Hat := Lib.hid hat
  have Hfs := Lib.hid hfs
  have Hp := Lib.hid hp
  clear hat hfs hp
  go_enter Tryd.func53, Tryd.ntmps53
  go_wp2_with fail
  go_loopw [8] (fun i wr => ∃ k : Nat, k ≤ fs.length ∧ i = .int .i64 k ∧ firstOf p fs 0 = firstOf p (fs.drop k) k ∧ Below w.heap.size w wr) (fun i _ => fs.length - (intOf i).toNat)
  case atStart => exact ⟨0, Nat.zero_le _, rfl, by simp, Below.refl _ _⟩
  case round =>
    obtain ⟨k, hk, rfl, hf, hbel⟩ := hrel
    have Hf := Lib.hid hf
    clear hf
    by_cases hlt : k < fs.length
    · obtain ⟨b, off, v5, rfl, -, hb, h0, h1, h2, h3, h4, h5, hI, hbs⟩ := Hat.out k hlt
      have hlt1 : (k : Int) < (fs.length : Int) := by omega
      have hd : fs.drop k = fs[k] :: fs.drop (k + 1) := List.drop_eq_getElem_cons hlt
      have Hd := Lib.hid hd
      have hkeep := Keep.of_below' (S := fun _ => True) hbel (fun k hk _ => hk)
      have hy0 : wr.cell? ⟨b, off + k * 6, none⟩ = _ := (hbel.cell (p := ⟨b, off + k * 6, none⟩) hb).trans h0
      have hy1 : wr.cell? ⟨b, off + k * 6 + 1, none⟩ = _ := (hbel.cell (p := ⟨b, off + k * 6 + 1, none⟩) hb).trans h1
      have hy2 : wr.cell? ⟨b, off + k * 6 + 2, none⟩ = _ := (hbel.cell (p := ⟨b, off + k * 6 + 2, none⟩) hb).trans h2
      have hy3 : wr.cell? ⟨b, off + k * 6 + 3, none⟩ = _ := (hbel.cell (p := ⟨b, off + k * 6 + 3, none⟩) hb).trans h3
      have hy4 : wr.cell? ⟨b, off + k * 6 + 4, none⟩ = _ := (hbel.cell (p := ⟨b, off + k * 6 + 4, none⟩) hb).trans h4
      have hy5 : wr.cell? ⟨b, off + k * 6 + 5, none⟩ = _ := (hbel.cell (p := ⟨b, off + k * 6 + 5, none⟩) hb).trans h5
      have hcall := Hp.out _ (List.getElem_mem hlt) _ wr (Good.kept hkeep ⟨v5, rfl, hI, hbs⟩) hbel
      have hent := fun args w => hg args w
      have Hc := Lib.hid hcall
      clear hd hcall h0 h1 h2 h3 h4 h5 hI hbs hkeep
      generalize fs[k] = y at *
      go_wp2_with fail
      refine (Hc.out).mono ?_
      rintro e w1 ⟨rfl, hb1⟩
      have hbel1 := hbel.trans (hb1.mono hbel.size)
      cases he : p y with
      | true =>
        have He := Lib.hid he
        clear he
        go_wp2_with fail
        go_ret
        exact ⟨by rw [Hf.out, Hd.out]; simp [firstOf, He.out], hbel1⟩
      | false =>
        have He := Lib.hid he
        clear he
        go_wp2_with fail
        go_roundw
        case rel => exact ⟨k + 1, by omega, by go_num, by rw [Hf.out, Hd.out]; simp [firstOf, He.out], hbel1⟩
        case measure => simp [intOf]; omega
    · have hke : k = fs.length := by omega
      subst hke
      go_wp2_with fail
      go_ret
      exact ⟨by rw [Hf.out]; simp [firstOf], hbel⟩

/-- The closure of checkInvoke: is it the function of this name? -/
theorem named1_answers (s : ByteArray) (fs : List PCode) (w : World) (blk : Nat) (hlt : blk < w.heap.size) (hc : w.cell? ⟨blk, 4, none⟩ = some (.string s)) :
    AnswersC Tryd.prog 54 #[.pointer (some ⟨blk, 0, none⟩)] (fun c => decide (c.name = s)) fs w := by
  intro x _ cs w' hx hb
  have hc' : w'.cell? ⟨blk, 4, none⟩ = some (.string s) := (hb.cell (p := ⟨blk, 4, none⟩) hlt).trans hc
  obtain ⟨v5, rfl, -, -⟩ := hx
  have hlt' : blk < w'.heap.size := Nat.lt_of_lt_of_le hlt hb.size
  by_cases h : x.name = s
  · have h1 := str_eq h
    have Hh := Lib.hid h
    clear h
    go_enter Tryd.func54, Tryd.ntmps54
    go_wp2_with fail
    go_ret
    exact ⟨by simp [Hh.out], (Below.refl _ _).alloc (Nat.le_refl _) _⟩
  · have h1 := str_ne h
    have Hh := Lib.hid h
    clear h
    go_enter Tryd.func54, Tryd.ntmps54
    go_wp2_with fail
    go_ret
    exact ⟨by simp [Hh.out], (Below.refl _ _).alloc (Nat.le_refl _) _⟩
end Go.Proofs.YthgfdcoicihpdaaDoor

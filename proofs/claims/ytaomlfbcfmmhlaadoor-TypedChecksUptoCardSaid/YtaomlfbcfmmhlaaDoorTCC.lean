/-
  Texts joined: Idx Ends.
-/
import Derived.Test.YtaomlfbcfmmhlaaDoorRows
import Derived.Test.YtaomlfbcfmmhlaaDoorTCA
import Derived.Test.YtaomlfbcfmmhlaaDoorTCB

/-
  Contracts of slices.Index, slices.Contains at ints.
-/
namespace Go.Proofs.YtaomlfbcfmmhlaaDoor
open Go.RowKit Go.Pst
set_option linter.unusedVariables false

/-- The first place of a number, or -1. -/
def firstAt (x : Int) : List Int → Nat → Int
  | [], _ => -1
  | y :: r, k => if x = y then (k : Int) else firstAt x r (k + 1)
theorem firstAt_ge (x : Int) : ∀ (l : List Int) (k : Nat), (0 ≤ firstAt x l k ↔ x ∈ l)
  | [], k => by simp [firstAt]
  | y :: r, k => by
    unfold firstAt
    by_cases h : x = y
    · simp [h]
    · simp [h, firstAt_ge x r (k + 1)]

set_option maxHeartbeats 400000 in
theorem index_any (x : Int) (a : Option Addr) (l : List Int) (cap : Nat) (w : World) (hl : l.length ≤ 9223372036854775807) (hat : IntsAt w a l) :
    Calls Tryd.prog 135 #[.slice a l.length cap, .int .i64 x] w fun e w' => e = .returned (.int .i64 (firstAt x l 0)) ∧ w = w' := by
  go_enter Tryd.func135, Tryd.ntmps135
  go_wp2
  go_loop [8] (fun i => ∃ k : Nat, k ≤ l.length ∧ i = .int .i64 k ∧ firstAt x l 0 = firstAt x (l.drop k) k) (fun i => l.length - (intOf i).toNat)
  case atStart => exact ⟨0, Nat.zero_le _, rfl, by simp⟩
  case round =>
    obtain ⟨k, hk, rfl, hf⟩ := hrel
    have Hf := Lib.hid hf
    clear hf
    by_cases hlt : k < l.length
    · obtain ⟨b, off, rfl, hb, hc⟩ := hat k hlt
      have hlt1 : (k : Int) < (l.length : Int) := by omega
      have hd : l.drop k = l[k] :: l.drop (k + 1) := List.drop_eq_getElem_cons hlt
      have Hd := Lib.hid hd
      clear hd hat
      generalize l[k] = y at *
      by_cases hxy : x = y
      · subst hxy
        go_wp2
        go_ret
        exact ⟨by rw [Hf.out, Hd.out]; simp [firstAt], rfl⟩
      · have hne : (x == y) = false := by simpa using hxy
        go_wp2
        go_round
        case rel => exact ⟨k + 1, by omega, by go_num, by rw [Hf.out, Hd.out]; simp [firstAt, hxy]⟩
        case measure => simp [intOf]; omega
    · have hke : k = l.length := by omega
      subst hke
      go_wp2
      go_ret
      exact ⟨by rw [Hf.out]; simp [firstAt], rfl⟩

theorem contains_any (x : Int) (a : Option Addr) (l : List Int) (cap : Nat) (w : World) (hl : l.length ≤ 9223372036854775807) (hat : IntsAt w a l) :
    Calls Tryd.prog 76 #[.slice a l.length cap, .int .i64 x] w fun e w' => e = .returned (.bool (decide (x ∈ l))) ∧ w = w' := by
  have hge := firstAt_ge x l 0
  go_enter Tryd.func76, Tryd.ntmps76
  go_wp2_with (go_at_call 135; refine (index_any _ _ _ _ _ hl hat).mono ?_; rintro e w' ⟨rfl, rfl⟩)
  all_goals
    go_ret
    exact ⟨by simp_all, rfl⟩

end Go.Proofs.YtaomlfbcfmmhlaaDoor

/-
  typed.Ends and posternref.EndsOf: both compute endsF.
-/
namespace Go.Proofs.YtaomlfbcfmmhlaaDoor
open Go.RowKit Go.Pst
set_option linter.unusedVariables false

/-- Does a list of statements end by a return: to a depth. -/
def endsF : Nat → List PStmt → Bool
  | 0, _ => false
  | d + 1, l => match l.getLast? with
    | none => false
    | some x => if x.kind = 8 then true else if x.kind = 4 then endsF d x.body && endsF d x.els else if x.kind = 7 then (x.cases.all fun c => endsF d c.2) && endsF d x.els else false

def EndsSaid (f : Nat) (d : Nat) : Prop := ∀ (l : List PStmt) (v : Value) (w : World), rSlice 7 (rStmt d) (fun _ => True) w [v] l →
  Calls Tryd.prog f #[v] w fun e w' => e = .returned (.bool (endsF d l)) ∧ Below w.heap.size w w'

/-- The first case whose body does not end, or -1. -/
def openAt (d : Nat) : List (List Int × List PStmt) → Nat → Int
  | [], _ => -1
  | c :: r, k => if endsF d c.2 = true then openAt d r (k + 1) else (k : Int)
theorem openAt_ge (d : Nat) : ∀ (l : List (List Int × List PStmt)) (k : Nat), decide (0 ≤ openAt d l k) = !(l.all fun c => endsF d c.2)
  | [], k => by simp [openAt]
  | c :: r, k => by
    unfold openAt
    by_cases h : endsF d c.2 = true
    · simp [h, openAt_ge d r (k + 1)]
    · simp [h]

/-- The closure: does a case's body not end? -/
theorem closure_any (d : Nat) (ih : EndsSaid 89 d) (v0 v1 : Value) (l : List PStmt) (w : World) (h : rSlice 7 (rStmt d) (fun _ => True) w [v1] l) :
    Calls Tryd.prog 143 #[.agg #[v0, v1]] w fun e w' => e = .returned (.bool (!endsF d l)) ∧ Below w.heap.size w w' := by
  have h1 := Good.keep (Keep.alloc (fun _ => True) w (.cells #[v0, v1] 143)) (fun _ _ h => h) h
  have Ih := Lib.hid ih
  clear ih
  go_enter Tryd.func143, Tryd.ntmps143
  go_wp2_with fail
  refine (Ih.out l v1 _ h1).mono ?_
  rintro e w1 ⟨rfl, hb⟩
  go_wp2_with fail
  go_ret
  exact ⟨rfl, ((Below.refl _ _).alloc (Nat.le_refl _) _).trans (hb.mono (by simp))⟩

set_option maxHeartbeats 400000 in
theorem indexFunc_any (d : Nat) (ih : EndsSaid 89 d) (l : List (List Int × List PStmt)) (v : Value) (w : World) (h : rSlice 2 (rCase (rStmt d)) (fun _ => True) w [v] l) :
    Calls Tryd.prog 171 #[v, .func (.func 143) #[] #[]] w fun e w' => e = .returned (.int .i64 (openAt d l 0)) ∧ Below w.heap.size w w' := by
  have h0 := h
  obtain ⟨a, cap, rfl, hl, hat⟩ := rCases_val h
  go_enter Tryd.func171, Tryd.ntmps171
  go_wp2_with fail
  go_loopw [8] (fun i wr => ∃ k : Nat, k ≤ l.length ∧ i = .int .i64 k ∧ openAt d l 0 = openAt d (l.drop k) k ∧ Below w.heap.size w wr) (fun i _ => l.length - (intOf i).toNat)
  case atStart => exact ⟨0, Nat.zero_le _, rfl, by simp, Below.refl _ _⟩
  case round =>
    obtain ⟨k, hk, rfl, hf, hbel⟩ := hrel
    have Hf := Lib.hid hf
    clear hf
    by_cases hlt : k < l.length
    · obtain ⟨b, off, v0, v1, rfl, hb, ⟨c0, c1⟩, -, r1⟩ := hat k hlt
      have hlt1 : (k : Int) < (l.length : Int) := by omega
      have hd : l.drop k = l[k] :: l.drop (k + 1) := List.drop_eq_getElem_cons hlt
      have Hd := Lib.hid hd
      have r1' := Good.keep (Keep.of_below' hbel (fun k hk _ => hk)) (fun _ _ h => h) r1
      have x0 : wr.cell? ⟨b, off + k * 2, none⟩ = some v0 := by rw [hbel.cell (p := ⟨b, off + k * 2, none⟩) hb]; exact c0
      have x1 : wr.cell? ⟨b, off + k * 2 + 1, none⟩ = some v1 := by rw [hbel.cell (p := ⟨b, off + k * 2 + 1, none⟩) hb]; exact c1
      have Ih := Lib.hid ih
      clear hd hat c0 c1 r1 h0 h ih
      generalize l[k] = y at *
      go_wp2_with fail
      refine (closure_any d Ih.out _ _ y.2 _ r1').mono ?_
      rintro e w1 ⟨rfl, hb1⟩
      have hbel1 := hbel.trans (hb1.mono hbel.size)
      by_cases he : endsF d y.2 = true
      · rw [he]
        go_wp2_with fail
        go_roundw
        case rel => exact ⟨k + 1, by omega, by go_num, by rw [Hf.out, Hd.out]; simp [openAt, he], hbel1⟩
        case measure => simp [intOf]; omega
      · simp only [Bool.not_eq_true] at he
        rw [he]
        go_wp2_with fail
        go_ret
        exact ⟨by rw [Hf.out, Hd.out]; simp [openAt, he], hbel1⟩
    · have hke : k = l.length := by omega
      subst hke
      go_wp2_with fail
      go_ret
      exact ⟨by rw [Hf.out]; simp [openAt], hbel⟩

theorem containsFunc_any (d : Nat) (ih : EndsSaid 89 d) (l : List (List Int × List PStmt)) (v : Value) (w : World) (h : rSlice 2 (rCase (rStmt d)) (fun _ => True) w [v] l) :
    Calls Tryd.prog 142 #[v, .func (.func 143) #[] #[]] w fun e w' => e = .returned (.bool (!(l.all fun c => endsF d c.2))) ∧ Below w.heap.size w w' := by
  have Hg := Lib.hid (openAt_ge d l 0)
  have Ih := Lib.hid ih
  clear ih
  go_enter Tryd.func142, Tryd.ntmps142
  go_wp2_with fail
  refine (indexFunc_any d Ih.out l v w h).mono ?_
  rintro e w1 ⟨rfl, hb⟩
  go_wp2_with fail
  go_ret
  exact ⟨by rw [← Hg.out]; rfl, hb⟩

/-- Where a walk reads the last statement. -/
theorem last_of {l : List PStmt} (hn : l ≠ []) : l.getLast? = some (l[l.length - 1]'(by have := List.length_pos_iff.2 hn; omega)) := by
  rw [List.getLast?_eq_getElem?, List.getElem?_eq_getElem]

set_option maxHeartbeats 1000000 in
theorem ends_any : ∀ d, EndsSaid 89 d := by
  intro d
  induction d with
  | zero =>
    intro l v w h
    obtain ⟨a, cap, rfl, _, _, hat⟩ := rSlice_val h
    have hl : l = [] := by
      cases l with
      | nil => rfl
      | cons x r => obtain ⟨_, _, _, _, _, _, _, _, hf⟩ := hat 0 (by simp); exact hf.elim
    subst hl
    go_enter Tryd.func89, Tryd.ntmps89
    go_wp2_with fail
    go_ret
    exact ⟨rfl, Below.refl _ _⟩
  | succ d ih =>
    intro l v w h
    have Ih := Lib.hid ih
    clear ih
    obtain ⟨a, cap, rfl, hl, hat⟩ := rStmts_val h
    by_cases hn : l = []
    · subst hn
      go_enter Tryd.func89, Tryd.ntmps89
      go_wp2_with fail
      go_ret
      exact ⟨rfl, Below.refl _ _⟩
    · have hpos := List.length_pos_iff.2 hn
      have hlast := last_of hn
      obtain ⟨b, off, v3, v4, v5, v6, rfl, hb, ⟨c0, c1, c2, c3, c4, c5, c6⟩, r3, r4, r5, r6⟩ := hat (l.length - 1) (by omega)
      have hF : endsF (d + 1) l = if l[l.length - 1].kind = 8 then true else if l[l.length - 1].kind = 4 then endsF d l[l.length - 1].body && endsF d l[l.length - 1].els else if l[l.length - 1].kind = 7 then (l[l.length - 1].cases.all fun c => endsF d c.2) && endsF d l[l.length - 1].els else false := by
        rw [endsF, hlast]
      rw [hF]
      generalize l[l.length - 1] = x at *
      obtain ⟨a3, n3, rfl⟩ := rSlice_shape r3
      obtain ⟨a4, n4, rfl⟩ := rSlice_shape r4
      obtain ⟨a5, n5, rfl⟩ := rSlice_shape r5
      obtain ⟨a6, n6, rfl⟩ := rSlice_shape r6
      have hpos1 : (0 : Int) < (l.length : Int) := by omega
      have hne : ((l.length : Int) == 0) = false := by simp; omega
      clear hF hlast hat h hn
      by_cases k8 : x.kind = 8
      · have t8 : (x.kind == 8) = true := by simpa using k8
        rw [if_pos k8]
        clear k8
        go_enter Tryd.func89, Tryd.ntmps89
        go_wp2_with fail
        go_ret
        exact ⟨rfl, (Below.refl _ _).alloc (Nat.le_refl _) _⟩
      · have t8 : (x.kind == 8) = false := by simpa using k8
        rw [if_neg k8]
        by_cases k4 : x.kind = 4
        · have t4 : (x.kind == 4) = true := by simpa using k4
          rw [if_pos k4]
          clear k4 k8
          go_enter Tryd.func89, Tryd.ntmps89
          go_wp2_with fail
          refine (Ih.out x.body _ _ (Good.keep (Keep.alloc _ _ _) (fun _ _ h => h) r4)).mono ?_
          rintro e w1 ⟨rfl, hb1⟩
          have bx5 := hb1.cell (p := ⟨w.heap.size, 5, none⟩) (by simp)
          simp at bx5
          have hbw1 : Below w.heap.size w w1 := ((Below.refl _ _).alloc (Nat.le_refl _) _).trans (hb1.mono (by simp))
          clear hb1
          cases he : endsF d x.body with
          | false =>
            have He := Lib.hid he
            clear he
            go_wp2_with fail
            go_ret
            exact ⟨by rw [He.out]; rfl, hbw1⟩
          | true =>
            have He := Lib.hid he
            clear he
            go_wp2_with fail
            refine (Ih.out x.els _ _ (Good.keep (Keep.of_below' hbw1 (fun k hk _ => hk)) (fun _ _ h => h) r5)).mono ?_
            rintro e w2 ⟨rfl, hb2⟩
            go_wp2_with fail
            go_ret
            exact ⟨by rw [He.out]; rfl, hbw1.trans (hb2.mono hbw1.size)⟩
        · have t4 : (x.kind == 4) = false := by simpa using k4
          rw [if_neg k4]
          by_cases k7 : x.kind = 7
          · have t7 : (x.kind == 7) = true := by simpa using k7
            have t7n : (x.kind != 7) = false := by simpa using k7
            rw [if_pos k7]
            clear k4 k8 k7
            go_enter Tryd.func89, Tryd.ntmps89
            go_wp2_with fail
            refine (containsFunc_any d Ih.out x.cases _ _ (Good.keep (Keep.alloc _ _ _) (fun _ _ h => h) r6)).mono ?_
            rintro e w1 ⟨rfl, hb1⟩
            have bx5 := hb1.cell (p := ⟨w.heap.size, 5, none⟩) (by simp)
            simp at bx5
            have hbw1 : Below w.heap.size w w1 := ((Below.refl _ _).alloc (Nat.le_refl _) _).trans (hb1.mono (by simp))
            clear hb1
            cases he : (x.cases.all fun c => endsF d c.2) with
            | false =>
              have He := Lib.hid he
              clear he
              go_wp2_with fail
              go_ret
              exact ⟨by rw [He.out]; rfl, hbw1⟩
            | true =>
              have He := Lib.hid he
              clear he
              go_wp2_with fail
              refine (Ih.out x.els _ _ (Good.keep (Keep.of_below' hbw1 (fun k hk _ => hk)) (fun _ _ h => h) r5)).mono ?_
              rintro e w2 ⟨rfl, hb2⟩
              go_wp2_with fail
              go_ret
              exact ⟨by rw [He.out]; rfl, hbw1.trans (hb2.mono hbw1.size)⟩
          · have t7 : (x.kind == 7) = false := by simpa using k7
            rw [if_neg k7]
            clear k4 k8 k7
            go_enter Tryd.func89, Tryd.ntmps89
            go_wp2_with fail
            go_ret
            exact ⟨rfl, (Below.refl _ _).alloc (Nat.le_refl _) _⟩

set_option maxHeartbeats 1000000 in
theorem endsOf_any : ∀ d, EndsSaid 52 d := by
  intro d
  induction d with
  | zero =>
    intro l v w h
    obtain ⟨a, cap, rfl, _, _, hat⟩ := rSlice_val h
    have hl : l = [] := by
      cases l with
      | nil => rfl
      | cons x r => obtain ⟨_, _, _, _, _, _, _, _, hf⟩ := hat 0 (by simp); exact hf.elim
    subst hl
    go_enter Tryd.func52, Tryd.ntmps52
    go_wp2_with fail
    go_ret
    exact ⟨rfl, Below.refl _ _⟩
  | succ d ih =>
    intro l v w h
    have Ih := Lib.hid ih
    clear ih
    obtain ⟨a, cap, rfl, hl, hat⟩ := rStmts_val h
    by_cases hn : l = []
    · subst hn
      go_enter Tryd.func52, Tryd.ntmps52
      go_wp2_with fail
      go_ret
      exact ⟨rfl, Below.refl _ _⟩
    · have hpos := List.length_pos_iff.2 hn
      have hlast := last_of hn
      obtain ⟨b, off, v3, v4, v5, v6, rfl, hb, ⟨c0, c1, c2, c3, c4, c5, c6⟩, r3, r4, r5, r6⟩ := hat (l.length - 1) (by omega)
      have hF : endsF (d + 1) l = if l[l.length - 1].kind = 8 then true else if l[l.length - 1].kind = 4 then endsF d l[l.length - 1].body && endsF d l[l.length - 1].els else if l[l.length - 1].kind = 7 then (l[l.length - 1].cases.all fun c => endsF d c.2) && endsF d l[l.length - 1].els else false := by
        rw [endsF, hlast]
      rw [hF]
      generalize l[l.length - 1] = x at *
      obtain ⟨a3, n3, rfl⟩ := rSlice_shape r3
      obtain ⟨a4, n4, rfl⟩ := rSlice_shape r4
      obtain ⟨a5, n5, rfl⟩ := rSlice_shape r5
      obtain ⟨a6, n6, rfl⟩ := rSlice_shape r6
      have hpos1 : (0 : Int) < (l.length : Int) := by omega
      have hne : ((l.length : Int) == 0) = false := by simp; omega
      clear hF hlast hat h hn
      by_cases k8 : x.kind = 8
      · have t8 : (x.kind == 8) = true := by simpa using k8
        rw [if_pos k8]
        clear k8
        go_enter Tryd.func52, Tryd.ntmps52
        go_wp2_with fail
        go_ret
        exact ⟨rfl, (Below.refl _ _).alloc (Nat.le_refl _) _⟩
      · have t8 : (x.kind == 8) = false := by simpa using k8
        rw [if_neg k8]
        by_cases k4 : x.kind = 4
        · have t4 : (x.kind == 4) = true := by simpa using k4
          rw [if_pos k4]
          clear k4 k8
          go_enter Tryd.func52, Tryd.ntmps52
          go_wp2_with fail
          refine (Ih.out x.body _ _ (Good.keep (Keep.alloc _ _ _) (fun _ _ h => h) r4)).mono ?_
          rintro e w1 ⟨rfl, hb1⟩
          have bx5 := hb1.cell (p := ⟨w.heap.size, 5, none⟩) (by simp)
          simp at bx5
          have hbw1 : Below w.heap.size w w1 := ((Below.refl _ _).alloc (Nat.le_refl _) _).trans (hb1.mono (by simp))
          clear hb1
          cases he : endsF d x.body with
          | false =>
            have He := Lib.hid he
            clear he
            go_wp2_with fail
            go_ret
            exact ⟨by rw [He.out]; rfl, hbw1⟩
          | true =>
            have He := Lib.hid he
            clear he
            go_wp2_with fail
            refine (Ih.out x.els _ _ (Good.keep (Keep.of_below' hbw1 (fun k hk _ => hk)) (fun _ _ h => h) r5)).mono ?_
            rintro e w2 ⟨rfl, hb2⟩
            go_wp2_with fail
            go_ret
            exact ⟨by rw [He.out]; rfl, hbw1.trans (hb2.mono hbw1.size)⟩
        · have t4 : (x.kind == 4) = false := by simpa using k4
          rw [if_neg k4]
          by_cases k7 : x.kind = 7
          · have t7 : (x.kind == 7) = true := by simpa using k7
            have t7n : (x.kind != 7) = false := by simpa using k7
            rw [if_pos k7]
            clear k4 k8 k7
            go_enter Tryd.func52, Tryd.ntmps52
            go_wp2_with fail
            obtain ⟨a6', n6', h6, hl6, hat6⟩ := rCases_val r6
            simp only [Value.slice.injEq] at h6
            obtain ⟨rfl, -, rfl⟩ := h6
            go_loopw [4] (fun i wr => ∃ k : Nat, k ≤ x.cases.length ∧ i = .int .i64 k ∧ (x.cases.take k).all (fun c => endsF d c.2) = true ∧
              Below (w.heap.size + 1) (w.alloc (.cells #[.int .i64 x.kind, .string x.s, .string x.t, .slice a3 x.exprs.length n3, .slice a4 x.body.length n4, .slice a5 x.els.length n5, .slice a6 x.cases.length n6] 141)) wr) (fun i _ => x.cases.length - (intOf i).toNat)
            case atStart => exact ⟨0, Nat.zero_le _, rfl, by simp, Below.refl _ _⟩
            case round =>
              obtain ⟨k, hk, rfl, hall, hbel⟩ := hrel
              have Hall := Lib.hid hall
              clear hall
              have bx5 := hbel.cell (p := ⟨w.heap.size, 5, none⟩) (by simp)
              have bx6 := hbel.cell (p := ⟨w.heap.size, 6, none⟩) (by simp)
              simp at bx5 bx6
              have hbw : Below w.heap.size w wr := ((Below.refl _ _).alloc (Nat.le_refl _) _).trans (hbel.mono (by omega))
              have hsz : w.heap.size + 1 ≤ wr.heap.size := by have := hbel.size; simpa using this
              by_cases hlt : k < x.cases.length
              · obtain ⟨b6, off6, v0, v1, rfl, hb6, ⟨c0, c1⟩, -, r1⟩ := hat6 k hlt
                have hlt1 : (k : Int) < (x.cases.length : Int) := by omega
                have r1' := Good.keep (Keep.of_below' hbw (fun k hk _ => hk)) (fun _ _ h => h) r1
                have x1 : wr.cell? ⟨b6, off6 + k * 2 + 1, none⟩ = some v1 := by rw [hbw.cell (p := ⟨b6, off6 + k * 2 + 1, none⟩) hb6]; exact c1
                have hsucc : (x.cases.take (k + 1)).all (fun c => endsF d c.2) = endsF d x.cases[k].2 := by
                  rw [List.take_succ_eq_append_getElem hlt, List.all_append, Hall.out]; simp
                have hfalse : endsF d x.cases[k].2 = false → x.cases.all (fun c => endsF d c.2) = false := fun h => by
                  rw [List.all_eq_false]
                  exact ⟨_, List.getElem_mem hlt, by simp [h]⟩
                clear hat6 r1
                generalize x.cases[k] = y at *
                have Hs := Lib.hid hsucc
                have Hf := Lib.hid hfalse
                clear hsucc hfalse
                go_wp2_with fail
                refine (Ih.out y.2 _ _ r1').mono ?_
                rintro e w1 ⟨rfl, hb1⟩
                have hbel1 := hbel.trans (hb1.mono hsz)
                cases he : endsF d y.2 with
                | false =>
                  have He := Lib.hid he
                  clear he
                  go_wp2_with fail
                  go_ret
                  exact ⟨by rw [Hf.out He.out]; rfl, ((Below.refl _ _).alloc (Nat.le_refl _) _).trans (hbel1.mono (by omega))⟩
                | true =>
                  have He := Lib.hid he
                  clear he
                  go_wp2_with fail
                  go_roundw
                  case rel => exact ⟨k + 1, by omega, by go_num, by rw [Hs.out, He.out], hbel1⟩
                  case measure => simp [intOf]; omega
              · have hke : k = x.cases.length := by omega
                subst hke
                have hall2 : x.cases.all (fun c => endsF d c.2) = true := by have := Hall.out; rwa [List.take_length] at this
                have Ha := Lib.hid hall2
                clear hall2
                go_wp2_with fail
                refine (Ih.out x.els _ _ (Good.keep (Keep.of_below' hbw (fun k hk _ => hk)) (fun _ _ h => h) r5)).mono ?_
                rintro e w2 ⟨rfl, hb2⟩
                go_wp2_with fail
                go_ret
                exact ⟨by rw [Ha.out]; rfl, hbw.trans (hb2.mono hbw.size)⟩
          · have t7 : (x.kind == 7) = false := by simpa using k7
            rw [if_neg k7]
            clear k4 k8 k7
            go_enter Tryd.func52, Tryd.ntmps52
            go_wp2_with fail
            go_ret
            exact ⟨rfl, (Below.refl _ _).alloc (Nat.le_refl _) _⟩
end Go.Proofs.YtaomlfbcfmmhlaaDoor

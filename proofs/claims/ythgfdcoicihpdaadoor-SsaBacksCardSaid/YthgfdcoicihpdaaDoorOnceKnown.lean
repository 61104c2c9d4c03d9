/-
  The closures of posternref.OnceFault: is a block above another one; is a variable known?
-/
import Derived.Test.YthgfdcoicihpdaaDoorUses
import Derived.Test.YthgfdcoicihpdaaDoorOnceOK
namespace Go.Proofs.YthgfdcoicihpdaaDoor
open Go.RowKit Go.Pst
set_option linter.unusedVariables false
set_option linter.unusedSimpArgs false

def bOf (acc : Sets) (v : Int) : Int := match lookS acc v with | none => 0 | some p => if p.1 < 0 then -1 else p.1 + 1
def pOf (acc : Sets) (v : Int) : Int := match lookS acc v with | none => 0 | some p => if p.1 < 0 then 0 else p.2

set_option maxHeartbeats 1000000 in
theorem isAbove_any (L : List (List Int)) (x : Int) (b lb : Nat) (aa : Option Addr) (ca : Nat) (w : World) (hb : b < L.length) (hL : L.length ≤ 9223372036854775807)
    (c2 : w.cell? ⟨lb, 0, none⟩ = some (.slice aa L.length ca)) (hA : IntssAt w aa L) :
    Calls Tryd.prog 19 #[.int .i64 x, .int .i64 (b : Int), .pointer (some ⟨lb, 0, none⟩)] w fun e w' => e = .returned (.bool (decide (x ∈ rowOf L b))) ∧ w = w' := by
  have hbi : (b : Int) < (L.length : Int) := by omega
  obtain ⟨b1, off1, a2, cap2, rfl, hb1, hc1, hl2, hat2⟩ := row_at hA hb
  have Hat2 := Lib.hid hat2
  clear hA hat2
  go_enter Tryd.func19, Tryd.ntmps19
  go_wp2_with fail
  generalize hrow : rowOf L b = row at *
  have Hrow := Lib.hid hrow
  clear hrow
  go_loop [6] (fun i => ∃ k : Nat, k ≤ row.length ∧ i = .int .i64 k ∧ (∀ j (h : j < row.length), j < k → row[j] ≠ x)) (fun i => row.length - (intOf i).toNat)
  case atStart => exact ⟨0, Nat.zero_le _, rfl, fun j h h0 => by omega⟩
  case round =>
    obtain ⟨k, hk, rfl, hne⟩ := hrel
    have Hne := Lib.hid hne
    clear hne
    by_cases hlt : k < row.length
    · have hlt1 : (k : Int) < (row.length : Int) := by omega
      obtain ⟨b3, off3, rfl, hb3, hc3⟩ := Hat2.out k hlt
      have Hm := Lib.hid (List.getElem_mem hlt)
      generalize hy : row[k] = y at *
      have Hy := Lib.hid hy
      clear hy
      by_cases e : y = x
      · have d : (y == x) = true := by simpa using e
        have E := Lib.hid e
        clear e
        go_wp2_with fail
        go_ret
        exact ⟨by rw [Hrow.out, decide_eq_true (by rw [← E.out]; exact Hm.out)]; rfl, rfl⟩
      · have d : (y == x) = false := by simpa using e
        have E := Lib.hid e
        clear e
        go_wp2_with fail
        go_round
        case rel => exact ⟨k + 1, by omega, by go_num, fun j h hj => by
          by_cases e : j < k
          · exact Hne.out j h e
          · obtain rfl : j = k := by omega
            rw [Hy.out]; exact E.out⟩
        case measure => simp [intOf]; omega
    · have hke : k = row.length := by omega
      subst hke
      have Hn := Lib.hid (show decide (x ∈ row) = false from decide_eq_false (fun h => by
        obtain ⟨j, hj, e⟩ := List.mem_iff_getElem.1 h
        exact Hne.out j hj hj e))
      go_wp2_with fail
      go_ret
      exact ⟨by rw [Hrow.out, Hn.out]; rfl, rfl⟩

set_option maxHeartbeats 1000000 in
theorem known2_any (acc : Sets) (L : List (List Int)) (n v b k l12 l13 l20 lb g1 g2 : Nat) (aa : Option Addr) (ca : Nat) (w : World) (hb : b < L.length) (hk : (k : Int) ≤ 9223372036854775807) (hL : L.length ≤ 9223372036854775807) (hv : v < n) (hn : n ≤ 3000)
    (hacc : ∀ x p, lookS acc x = some p → p.1 < 4000)
    (c1 : w.cell? ⟨l12, 0, none⟩ = some (.slice (some ⟨g1, 0, none⟩) n n)) (c2 : w.cell? ⟨l13, 0, none⟩ = some (.slice (some ⟨g2, 0, none⟩) n n)) (c3 : w.cell? ⟨l20, 0, none⟩ = some (.func (.func 19) #[] #[.pointer (some ⟨lb, 0, none⟩)]))
    (c4 : w.cell? ⟨lb, 0, none⟩ = some (.slice aa L.length ca)) (r1 : w.rowIs g1 3 n (fun j => .int .i64 (bOf acc (j : Int)))) (r2 : w.rowIs g2 3 n (fun j => .int .i64 (pOf acc (j : Int)))) (hA : IntssAt w aa L) :
    Calls Tryd.prog 20 #[.int .i64 (v : Int), .int .i64 (b : Int), .int .i64 (k : Int), .pointer (some ⟨l12, 0, none⟩), .pointer (some ⟨l13, 0, none⟩), .pointer (some ⟨l20, 0, none⟩)] w fun e w' => e = .returned (.bool (knownF acc (rowOf L) (v : Int) b k)) ∧ w = w' := by
  have hvi : (v : Int) < (n : Int) := by omega
  have d1 := r1.cell hv
  have d2 := r2.cell hv
  have Hab := Lib.hid (fun x => isAbove_any L x b lb aa ca w hb hL c4 hA)
  clear r1 r2 hA
  cases hs : lookS acc (v : Int) with
  | none =>
    have e1 : bOf acc (v : Int) = 0 := by unfold bOf; rw [hs]
    have Hk := Lib.hid (show knownF acc (rowOf L) (v : Int) b k = false by unfold knownF; rw [hs])
    rw [e1] at d1
    clear hs e1 d2
    go_enter Tryd.func20, Tryd.ntmps20
    go_wp2_with fail
    go_ret
    exact ⟨by rw [Hk.out]; rfl, rfl⟩
  | some p =>
    obtain ⟨pb, pk⟩ := p
    have hpb := hacc _ _ hs
    have Hk := Lib.hid (show knownF acc (rowOf L) (v : Int) b k = (decide (pb < 0) || (decide (pb = b) && decide (pk < k)) || (decide (pb ≠ b) && decide (pb ∈ rowOf L b))) by unfold knownF; rw [hs])
    by_cases h1 : pb < 0
    · have e1 : bOf acc (v : Int) = -1 := by unfold bOf; rw [hs]; simp [h1]
      rw [e1] at d1
      have H1 := Lib.hid h1
      clear hs e1 d2 h1 hpb
      go_enter Tryd.func20, Tryd.ntmps20
      go_wp2_with fail
      go_ret
      exact ⟨by rw [Hk.out, decide_eq_true H1.out]; rfl, rfl⟩
    · have e1 : bOf acc (v : Int) = pb + 1 := by unfold bOf; rw [hs]; simp [h1]
      have e2 : pOf acc (v : Int) = pk := by unfold pOf; rw [hs]; simp [h1]
      rw [e1] at d1
      rw [e2] at d2
      have hp0 : 0 ≤ pb := by omega
      have hp2 : pb < 4000 := hpb
      have D1 := Lib.hid (decide_eq_false h1)
      clear hs e1 e2 h1 hpb
      obtain ⟨q, rfl⟩ := Int.eq_ofNat_of_zero_le hp0
      have hq : q < 4000 := by omega
      have t1 : decide ((q : Int) + 1 ≤ 0) = false := decide_eq_false (by omega)
      have t3 : IntKind.i64.wrap ((q : Int) + 1 - 1) = (q : Int) := by rw [show (q : Int) + 1 - 1 = (q : Int) by omega]; exact IntWalk.i64_in _ (by omega)
      have t4 : (q : Int) + 1 - 1 = (q : Int) := by omega
      clear hp0 hp2
      by_cases h2 : q = b
      · have t2 : ((q : Int) == (b : Int)) = true := by simp [h2]
        have H2 := Lib.hid h2
        clear h2
        by_cases h3 : pk < k
        · have t5 : decide (pk < (k : Int)) = true := decide_eq_true h3
          go_enter Tryd.func20, Tryd.ntmps20
          go_wp2_with fail
          go_ret
          exact ⟨by rw [Hk.out, t5, decide_eq_true (show (q : Int) = (b : Int) by rw [H2.out])]; simp, rfl⟩
        · have t5 : decide (pk < (k : Int)) = false := decide_eq_false h3
          go_enter Tryd.func20, Tryd.ntmps20
          go_wp2_with fail
          go_ret
          exact ⟨by rw [Hk.out, D1.out, t5]; simp [H2.out], rfl⟩
      · have t2 : ((q : Int) == (b : Int)) = false := by simp; omega
        have H2 := Lib.hid h2
        clear h2
        go_enter Tryd.func20, Tryd.ntmps20
        go_wp2_with fail
        refine (Hab.out _).mono ?_
        rintro e w1 ⟨rfl, rfl⟩
        go_wp2_with fail
        go_ret
        exact ⟨by
          have hqb : ¬ (q : Int) = (b : Int) := by have := H2.out; omega
          rw [Hk.out, D1.out]; simp [hqb], rfl⟩

/-! The two rows that OnceFault fills: where each variable is set. -/
structure OnceRows (vn B : Nat) (wB wr : World) (f1 f2 : Nat → Int) : Prop where
  below : Below B wB wr
  size : B + 4 ≤ wr.heap.size
  row1 : wr.rowIs B 3 vn (fun j => .int .i64 (f1 j))
  box1 : wr.cell? ⟨B + 1, 0, none⟩ = some (.slice (some ⟨B, 0, none⟩) vn vn)
  row2 : wr.rowIs (B + 1 + 1) 3 vn (fun j => .int .i64 (f2 j))
  box2 : wr.cell? ⟨B + 1 + 1 + 1, 0, none⟩ = some (.slice (some ⟨B + 1 + 1, 0, none⟩) vn vn)
namespace OnceRows
variable {vn B : Nat} {wB wr : World} {f1 f2 : Nat → Int}
theorem later {w' : World} (h : OnceRows vn B wB wr f1 f2) (hb : Below (B + 4) wr w') : OnceRows vn B wB w' f1 f2 :=
  ⟨h.below.trans (hb.mono (by omega)), Nat.le_trans h.size hb.size, h.row1.of_block (hb.block _ (by omega)), by rw [hb.cell (p := ⟨B + 1, 0, none⟩) (by show B + 1 < _; omega)]; exact h.box1,
    h.row2.of_block (hb.block _ (by omega)), by rw [hb.cell (p := ⟨B + 1 + 1 + 1, 0, none⟩) (by show B + 1 + 1 + 1 < _; omega)]; exact h.box2⟩
theorem congr {g1 g2 : Nat → Int} (h : OnceRows vn B wB wr f1 f2) (h1 : ∀ j, j < vn → f1 j = g1 j) (h2 : ∀ j, j < vn → f2 j = g2 j) : OnceRows vn B wB wr g1 g2 :=
  ⟨h.below, h.size, h.row1.congr fun j hj => by rw [h1 j hj], h.box1, h.row2.congr fun j hj => by rw [h2 j hj], h.box2⟩
theorem set1 (h : OnceRows vn B wB wr f1 f2) (v : Nat) (x : Int) : OnceRows vn B wB (wr.setCell ⟨B, v, none⟩ (.int .i64 x)) (upd f1 v x) f2 := by
  have hc : ∀ b o, b ≠ B → (wr.setCell ⟨B, v, none⟩ (.int .i64 x)).cell? ⟨b, o, none⟩ = wr.cell? ⟨b, o, none⟩ := fun b o hb => World.cell?_of_block (w := wr) (a := ⟨b, o, none⟩) (Below.heap_setCell _ _ _ _ hb)
  refine ⟨h.below.setCell (Nat.le_refl _) _, by have := h.size; simpa [World.setCell] using this, (h.row1.set v (.int .i64 x)).congr fun j _ => ?_, by rw [hc _ _ (by omega)]; exact h.box1, h.row2.setOther (by simp; omega) _, by rw [hc _ _ (by omega)]; exact h.box2⟩
  unfold upd
  split <;> rfl
theorem set2 (h : OnceRows vn B wB wr f1 f2) (v : Nat) (x : Int) : OnceRows vn B wB (wr.setCell ⟨B + 1 + 1, v, none⟩ (.int .i64 x)) f1 (upd f2 v x) := by
  have hc : ∀ b o, b ≠ B + 1 + 1 → (wr.setCell ⟨B + 1 + 1, v, none⟩ (.int .i64 x)).cell? ⟨b, o, none⟩ = wr.cell? ⟨b, o, none⟩ := fun b o hb => World.cell?_of_block (w := wr) (a := ⟨b, o, none⟩) (Below.heap_setCell _ _ _ _ hb)
  refine ⟨h.below.setCell (by show B ≤ B + 1 + 1; omega) _, by have := h.size; simpa [World.setCell] using this, h.row1.setOther (by simp; omega) _, by rw [hc _ _ (by omega)]; exact h.box1, (h.row2.set v (.int .i64 x)).congr fun j _ => ?_, by rw [hc _ _ (by omega)]; exact h.box2⟩
  unfold upd
  split <;> rfl
end OnceRows

theorem bOf_put {acc : Sets} {y : Int} {n k : Nat} (h : lookS acc y = none) (v : Int) : bOf (acc ++ [(y, (n : Int), (k : Int))]) v = if v = y then (n : Int) + 1 else bOf acc v := by
  unfold bOf
  rw [lookS_append]
  by_cases e : v = y
  · subst e
    rw [h]
    simp [lookS]
    intro _
    omega
  · have : lookS [(y, (n : Int), (k : Int))] v = none := by simp [lookS, Ne.symm e]
    rw [this, Option.or_none, if_neg e]
theorem pOf_put {acc : Sets} {y : Int} {n k : Nat} (h : lookS acc y = none) (v : Int) : pOf (acc ++ [(y, (n : Int), (k : Int))]) v = if v = y then (k : Int) else pOf acc v := by
  unfold pOf
  rw [lookS_append]
  by_cases e : v = y
  · subst e
    rw [h]
    simp [lookS]
    intro _
    omega
  · have : lookS [(y, (n : Int), (k : Int))] v = none := by simp [lookS, Ne.symm e]
    rw [this, Option.or_none, if_neg e]
theorem bOf_param {k : Nat} (v : Int) : bOf (paramsS (k + 1)) v = if v = (k : Int) then -1 else bOf (paramsS k) v := by
  unfold bOf
  rw [paramsS_succ, lookS_append]
  by_cases e : v = (k : Int)
  · subst e
    rw [paramsS_none k k (Nat.le_refl _)]
    simp [lookS]
  · have : lookS [((k : Int), (-1 : Int), (-1 : Int))] v = none := by simp [lookS, Ne.symm e]
    rw [this, Option.or_none, if_neg e]
theorem pOf_param (k : Nat) (v : Int) : pOf (paramsS k) v = 0 := by
  induction k with
  | zero => rfl
  | succ k ih =>
    unfold pOf at ih ⊢
    rw [paramsS_succ, lookS_append]
    cases h : lookS (paramsS k) v with
    | some p => rw [h] at ih; simpa using ih
    | none =>
      by_cases e : (k : Int) = v
      · simp [lookS, e]
      · simp [lookS, e]
theorem bOf_none {acc : Sets} {v : Int} (h : lookS acc v = none) : bOf acc v = 0 := by unfold bOf; rw [h]
theorem bOf_some {acc : Sets} {v : Int} {p : Int × Int} (h : lookS acc v = some p) : bOf acc v ≠ 0 := by
  unfold bOf
  rw [h]
  simp only
  split <;> omega
theorem addS_eq : ∀ {l acc r : Sets}, addS acc l = some r → r = acc ++ l
  | [], acc, r, h => by simp [addS] at h; simp [h]
  | s :: l, acc, r, h => by
    unfold addS at h
    split at h
    · cases h
    · rw [addS_eq h]; simp
theorem lookS_mem : ∀ {acc : Sets} {x : Int} {p : Int × Int}, lookS acc x = some p → (x, p) ∈ acc
  | [], _, _, h => by cases h
  | (v, q) :: r, x, p, h => by
    unfold lookS at h
    split at h
    · rename_i e
      subst e
      obtain rfl := Option.some.inj h
      exact List.mem_cons_self
    · exact List.mem_cons_of_mem _ (lookS_mem h)
theorem setsBlk_mem {i : Nat} : ∀ {b : List PInstr} {k : Nat} {s : Int × Int × Int}, s ∈ setsBlk i k b → s.2.1 = i
  | [], _, _, h => by cases h
  | x :: r, k, s, h => by
    unfold setsBlk at h
    rcases List.mem_append.1 h with h | h
    · simp only [setsOf, List.mem_map] at h
      obtain ⟨d, _, rfl⟩ := h
      rfl
    · exact setsBlk_mem h
theorem setsAll_mem : ∀ {l : List (List PInstr)} {i : Nat} {s : Int × Int × Int}, s ∈ setsAll i l → s.2.1 < (i + l.length : Nat)
  | [], _, _, h => by cases h
  | b :: r, i, s, h => by
    unfold setsAll at h
    rcases List.mem_append.1 h with h | h
    · rw [setsBlk_mem h]
      simp only [List.length_cons]
      omega
    · have := setsAll_mem h
      simp only [List.length_cons]
      omega
theorem places_lt {c : PCode} {acc : Sets} (h : placesF c = some acc) (hb : c.blocks.length ≤ 2000) : ∀ x p, lookS acc x = some p → p.1 < 4000 := by
  intro x p hp
  have hm := lookS_mem hp
  rw [addS_eq h] at hm
  rcases List.mem_append.1 hm with hm | hm
  · simp only [paramsS, List.mem_map] at hm
    obtain ⟨v, _, e⟩ := hm
    simp only [Prod.mk.injEq] at e
    rw [← e.2]
    decide
  · have := setsAll_mem hm
    simp only at this
    omega
end Go.Proofs.YthgfdcoicihpdaaDoor

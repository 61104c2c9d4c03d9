/-
  Code in memory that a call owns: its blocks' rows may turn, and where their last instructions lead; blocks of memory are told apart by labels.
-/
import Derived.Test.YthgfdcoicihpdaaDoorBackPQS
import Derived.Test.YthgfdcoicihpdaaDoorMat
namespace Go.Proofs.YthgfdcoicihpdaaDoor
open Go.RowKit Go.Pst
set_option linter.unusedVariables false

/-- An instruction's cells; what S allows is never written, where it leads is of ST. -/
def instrAt (S ST : Nat → Prop) (w : World) (r o : Nat) (x : PInstr) : Prop := ∃ v1 v2 v5,
  w.cell? ⟨r, o, none⟩ = some (.int .i64 x.op) ∧ w.cell? ⟨r, o + 1, none⟩ = some v1 ∧ w.cell? ⟨r, o + 2, none⟩ = some v2 ∧ w.cell? ⟨r, o + 3, none⟩ = some (.int .i64 x.n) ∧ w.cell? ⟨r, o + 4, none⟩ = some (.string x.s) ∧ w.cell? ⟨r, o + 5, none⟩ = some v5 ∧
  (InI x.op ∧ InI x.n ∧ x.s.size ≤ maxLen) ∧ rInts S w [v1] x.ds ∧ rInts S w [v2] x.ars ∧ rInts ST w [v5] x.to
/-- Row i: a block of instructions, in memory of label 2 i + 2; where it leads: label 2 i + 3; all else: label 0. -/
def RowM (lab : Nat → Nat) (w : World) (i : Nat) (v : Value) (b : List PInstr) : Prop := ∃ r cap, v = .slice (some ⟨r, 0, none⟩) b.length cap ∧ b.length ≤ cap ∧ cap ≤ maxLen ∧ lab r = 2 * i + 2 ∧ r < w.heap.size ∧ (∀ j, w.frozen? ⟨r, j, none⟩ = false) ∧
  ∀ k (h : k < b.length), instrAt (fun m => lab m = 0) (fun m => lab m = 2 * i + 3 ∧ ∀ j, w.frozen? ⟨m, j, none⟩ = false) w r (k * 6) b[k]
theorem instrAt.keep {S ST S' ST' : Nat → Prop} {w w' : World} {r o : Nat} {x : PInstr} (h : instrAt S ST w r o x) (hr : ∀ j, w'.cell? ⟨r, j, none⟩ = w.cell? ⟨r, j, none⟩) (hS : Keep S w w') (hS' : ∀ k, k < w.heap.size → S k → S' k) (hT : Keep ST w w') (hT' : ∀ k, k < w.heap.size → ST k → ST' k) : instrAt S' ST' w' r o x := by
  obtain ⟨v1, v2, v5, c0, c1, c2, c3, c4, c5, hI, r1, r2, r5⟩ := h
  exact ⟨v1, v2, v5, (hr _).trans c0, (hr _).trans c1, (hr _).trans c2, (hr _).trans c3, (hr _).trans c4, (hr _).trans c5, hI, Good.keep hS hS' r1, Good.keep hS hS' r2, Good.keep hT hT' r5⟩
/-- What stays of row i, where the blocks of its labels stay, and new labels are given to new blocks alone. -/
theorem RowM.keep {lab lab' : Nat → Nat} {w w' : World} {i : Nat} {v : Value} {b : List PInstr} (h : RowM lab w i v b) (hsz : w.heap.size ≤ w'.heap.size)
    (hk : ∀ k, k < w.heap.size → (lab k = 0 ∨ lab k = 2 * i + 2 ∨ lab k = 2 * i + 3) → w'.heap[k]? = w.heap[k]?) (hl : ∀ k, k < w.heap.size → (lab k = 0 ∨ lab k = 2 * i + 2 ∨ lab k = 2 * i + 3) → lab' k = lab k) : RowM lab' w' i v b := by
  obtain ⟨r, cap, h1, h2, h3, h4, h5, h6, h7⟩ := h
  have hr : w'.heap[r]? = w.heap[r]? := hk r h5 (Or.inr (Or.inl h4))
  refine ⟨r, cap, h1, h2, h3, (hl r h5 (Or.inr (Or.inl h4))).trans h4, Nat.lt_of_lt_of_le h5 hsz, fun j => ?_, fun k hkb => ?_⟩
  · rw [← h6 j]
    simp [World.frozen?, hr]
  · refine (h7 k hkb).keep (fun j => World.cell?_of_block (a := ⟨r, j, none⟩) hr) ⟨hsz, fun k hk1 hk2 => hk k hk1 (Or.inl hk2)⟩ (fun k hk1 hk2 => (hl k hk1 (Or.inl hk2)).trans hk2) ⟨hsz, fun k hk1 hk2 => hk k hk1 (Or.inr (Or.inr hk2.1))⟩ (fun k hk1 hk2 => ⟨(hl k hk1 (Or.inr (Or.inr hk2.1))).trans hk2.1, fun j => ?_⟩)
    rw [← hk2.2 j]
    simp [World.frozen?, hk k hk1 (Or.inr (Or.inr hk2.1))]
/-- Code whose rows the call owns: the outer row is block B, of label 1. -/
structure CodeM (lab : Nat → Nat) (w : World) (lo : Nat) (vO : Value) (vs : Nat → Value) (X : List (List PInstr)) : Prop where
  own : w.ownsRow lo 38 1 vO X.length ((List.range X.length).map vs)
  lab1 : ∀ k, vO.ownBlock = some k → lab k = 1
  rows : ∀ i (h : i < X.length), RowM lab w i (vs i) X[i]
  lo : lo ≤ w.heap.size
theorem RowM.reads {lab : Nat → Nat} {w : World} {i : Nat} {v : Value} {b : List PInstr} (h : RowM lab w i v b) : rBlock (fun _ => True) w [v] b := by
  obtain ⟨r, cap, h1, h2, h3, h4, h5, h6, h7⟩ := h
  refine ⟨some ⟨r, 0, none⟩, cap, by rw [h1], h2, h3, fun k hk => ?_⟩
  obtain ⟨v1, v2, v5, c0, c1, c2, c3, c4, c5, hI, r1, r2, r5⟩ := h7 k hk
  refine ⟨r, 0, [.int .i64 b[k].op, v1, v2, .int .i64 b[k].n, .string b[k].s, v5], rfl, trivial, h5, rfl, fun j hj => ?_, v1, v2, v5, rfl, hI, Good.wide (R := rInts) r1 (fun _ _ _ => trivial), Good.wide (R := rInts) r2 (fun _ _ _ => trivial), Good.wide (R := rInts) r5 (fun _ _ _ => trivial)⟩
  rw [Nat.zero_add]
  rcases (show j = 0 ∨ j = 1 ∨ j = 2 ∨ j = 3 ∨ j = 4 ∨ j = 5 by omega) with rfl | rfl | rfl | rfl | rfl | rfl
  · exact c0
  · exact c1
  · exact c2
  · exact c3
  · exact c4
  · exact c5
theorem CodeM.reads {lab : Nat → Nat} {w : World} {lo : Nat} {vO : Value} {vs : Nat → Value} {X : List (List PInstr)} (h : CodeM lab w lo vO vs X) : rBlocks (fun _ => True) w [vO] X :=
  rSlice_own h.own (fun _ _ => trivial) fun i hi => ⟨vs i, by simp [hi], (h.rows i hi).reads⟩
theorem CodeM.keep {lab lab' : Nat → Nat} {w w' : World} {lo : Nat} {vO : Value} {vs : Nat → Value} {X : List (List PInstr)} (h : CodeM lab w lo vO vs X) (hsz : w.heap.size ≤ w'.heap.size)
    (hk : ∀ k, k < w.heap.size → lab k ≤ 2 * X.length + 1 → w'.heap[k]? = w.heap[k]?) (hl : ∀ k, k < w.heap.size → lab k ≤ 2 * X.length + 1 → lab' k = lab k) : CodeM lab' w' lo vO vs X :=
  ⟨ownsRow_block h.own (fun k hkk => hk k (h.own.lt k hkk).2 (by rw [h.lab1 k hkk]; omega)), fun k hkk => (hl k (h.own.lt k hkk).2 (by rw [h.lab1 k hkk]; omega)).trans (h.lab1 k hkk), fun i hi => (h.rows i hi).keep hsz (fun k h1 h2 => hk k h1 (by omega)) (fun k h1 h2 => hl k h1 (by omega)), Nat.le_trans h.lo hsz⟩
theorem CodeM.below {lab : Nat → Nat} {w w' : World} {lo : Nat} {vO : Value} {vs : Nat → Value} {X : List (List PInstr)} (h : CodeM lab w lo vO vs X) (hb : Below w.heap.size w w') : CodeM lab w' lo vO vs X :=
  h.keep hb.size (fun k hk _ => hb.block k hk) (fun _ _ _ => rfl)
/-- The same in the cells of a row that is being built. -/
def instrV (lab : Nat → Nat) (w : World) (i : Nat) (xs : List Value) (o : Nat) (x : PInstr) : Prop := ∃ v1 v2 v5,
  xs[o]? = some (.int .i64 x.op) ∧ xs[o + 1]? = some v1 ∧ xs[o + 2]? = some v2 ∧ xs[o + 3]? = some (.int .i64 x.n) ∧ xs[o + 4]? = some (.string x.s) ∧ xs[o + 5]? = some v5 ∧
  (InI x.op ∧ InI x.n ∧ x.s.size ≤ maxLen) ∧ rInts (fun m => lab m = 0) w [v1] x.ds ∧ rInts (fun m => lab m = 0) w [v2] x.ars ∧ rInts (fun m => lab m = 2 * i + 3 ∧ ∀ j, w.frozen? ⟨m, j, none⟩ = false) w [v5] x.to
theorem instrV.keep {lab lab' : Nat → Nat} {w w' : World} {i : Nat} {xs : List Value} {o : Nat} {x : PInstr} (h : instrV lab w i xs o x) (hsz : w.heap.size ≤ w'.heap.size)
    (hk : ∀ k, k < w.heap.size → (lab k = 0 ∨ lab k = 2 * i + 3) → w'.heap[k]? = w.heap[k]?) (hl : ∀ k, k < w.heap.size → lab' k = lab k) : instrV lab' w' i xs o x := by
  obtain ⟨v1, v2, v5, c0, c1, c2, c3, c4, c5, hI, r1, r2, r5⟩ := h
  have K0 : Keep (fun m => lab m = 0) w w' := ⟨hsz, fun k h1 h2 => hk k h1 (Or.inl h2)⟩
  refine ⟨v1, v2, v5, c0, c1, c2, c3, c4, c5, hI, Good.keep K0 (fun k h1 h2 => (hl k h1).trans h2) r1, Good.keep K0 (fun k h1 h2 => (hl k h1).trans h2) r2, Good.keep (S := fun m => lab m = 2 * i + 3 ∧ ∀ j, w.frozen? ⟨m, j, none⟩ = false) ⟨hsz, fun k h1 h2 => hk k h1 (Or.inr h2.1)⟩ (fun k h1 h2 => ⟨(hl k h1).trans h2.1, fun j => ?_⟩) r5⟩
  rw [← h2.2 j]
  simp [World.frozen?, hk k h1 (Or.inr h2.1)]
theorem instrV.more {lab : Nat → Nat} {w : World} {i : Nat} {xs : List Value} {o : Nat} {x : PInstr} (h : instrV lab w i xs o x) (ys : List Value) : instrV lab w i (xs ++ ys) o x := by
  obtain ⟨v1, v2, v5, c0, c1, c2, c3, c4, c5, r⟩ := h
  have up : ∀ {k : Nat} {u : Value}, xs[k]? = some u → (xs ++ ys)[k]? = some u := fun {k u} e => by
    have hk := (List.getElem?_eq_some_iff.1 e).1
    rw [List.getElem?_append_left hk]
    exact e
  exact ⟨v1, v2, v5, up c0, up c1, up c2, up c3, up c4, up c5, r⟩
/-- Row i while it is built. -/
structure RowP (lab : Nat → Nat) (w : World) (lo i : Nat) (v : Value) (b : List PInstr) (xs : List Value) : Prop where
  own : w.ownsRow lo 41 6 v b.length xs
  lab_ : ∀ k, v.ownBlock = some k → lab k = 2 * i + 2
  ins : ∀ k (h : k < b.length), instrV lab w i xs (k * 6) b[k]
theorem RowP.start (lab : Nat → Nat) (w : World) (lo i : Nat) : RowP lab w lo i (.slice none 0 0) [] [] :=
  ⟨World.ownsRow_nil _ _ _ _, fun k h => by simp [Value.ownBlock] at h, fun k h => absurd h (by simp)⟩
theorem RowP.keep {lab lab' : Nat → Nat} {w w' : World} {lo i : Nat} {v : Value} {b : List PInstr} {xs : List Value} (h : RowP lab w lo i v b xs) (hsz : w.heap.size ≤ w'.heap.size)
    (hk : ∀ k, k < w.heap.size → (lab k = 0 ∨ lab k = 2 * i + 2 ∨ lab k = 2 * i + 3) → w'.heap[k]? = w.heap[k]?) (hl : ∀ k, k < w.heap.size → lab' k = lab k) : RowP lab' w' lo i v b xs :=
  ⟨ownsRow_block h.own (fun k hkk => hk k (h.own.lt k hkk).2 (Or.inr (Or.inl (h.lab_ k hkk)))), fun k hkk => (hl k (h.own.lt k hkk).2).trans (h.lab_ k hkk), fun k hkb => (h.ins k hkb).keep hsz (fun m h1 h2 => hk m h1 (h2.imp id Or.inr)) hl⟩
theorem RowP.below {lab : Nat → Nat} {w w' : World} {lo i : Nat} {v : Value} {b : List PInstr} {xs : List Value} (h : RowP lab w lo i v b xs) (hb : Below w.heap.size w w') : RowP lab w' lo i v b xs :=
  h.keep hb.size (fun k hk _ => hb.block k hk) (fun _ _ => rfl)
theorem RowP.done {lab : Nat → Nat} {w : World} {lo i : Nat} {v : Value} {b : List PInstr} {xs : List Value} (h : RowP lab w lo i v b xs) (hb : 0 < b.length) : RowM lab w i v b := by
  obtain ⟨h1, h2⟩ := h.own
  rcases h2 with ⟨_, h0⟩ | ⟨g, cap, cur, rfl, hg, hh, hn, hm, hc, ht⟩
  · omega
  · refine ⟨g, cap, rfl, hn, hm, h.lab_ g rfl, (Array.getElem?_eq_some_iff.1 hh).1, fun j => by simp [World.frozen?, hh], fun k hk => ?_⟩
    obtain ⟨v1, v2, v5, c0, c1, c2, c3, c4, c5, r⟩ := h.ins k hk
    have cell : ∀ {o : Nat} {u : Value}, xs[o]? = some u → w.cell? ⟨g, o, none⟩ = some u := fun {o u} e => by
      have ho := (List.getElem?_eq_some_iff.1 e).1
      rw [h1] at ho
      rw [← ht, List.getElem?_take_of_lt ho] at e
      simp [World.cell?, hh, ← e]
    exact ⟨v1, v2, v5, cell c0, cell c1, cell c2, cell c3, cell c4, cell c5, r⟩
/-- A label for a new block. -/
def relab (lab : Nat → Nat) (v : Value) (n : Nat) : Nat → Nat := fun k => if v.ownBlock = some k then n else lab k
theorem relab_old {lab : Nat → Nat} {v v' : Value} {n B : Nat} (hv : ∀ k, v.ownBlock = some k → lab k = n) (hat : v'.ownBlock = v.ownBlock ∨ ∃ g, v'.ownBlock = some g ∧ B ≤ g) {k : Nat} (hk : k < B) : relab lab v' n k = lab k := by
  unfold relab
  split
  · rename_i e
    rcases hat with h | ⟨g, h, hg⟩
    · exact (hv k (h ▸ e)).symm
    · rw [h] at e
      injection e with e
      omega
  · rfl
/-- One instruction more in row i. -/
theorem RowP.app {lab : Nat → Nat} {w w1 : World} {lo i : Nat} {v v' : Value} {b : List PInstr} {xs : List Value} {o : Obj} {x : PInstr} {v1 v2 v5 : Value} (h : RowP lab w lo i v b xs)
    (hx : instrV lab w i [.int .i64 x.op, v1, v2, .int .i64 x.n, .string x.s, v5] 0 x) (hown : w1.ownsRow lo 41 6 v' (b.length + 1) (xs ++ [.int .i64 x.op, v1, v2, .int .i64 x.n, .string x.s, v5]))
    (hg : (w.alloc o).grownBy w1 v.ownBlock) (hat : v'.ownBlock = v.ownBlock ∨ ∃ g, v'.ownBlock = some g ∧ w.heap.size ≤ g) :
    RowP (relab lab v' (2 * i + 2)) w1 lo i v' (b ++ [x]) (xs ++ [.int .i64 x.op, v1, v2, .int .i64 x.n, .string x.s, v5]) := by
  have hl : ∀ k, k < w.heap.size → relab lab v' (2 * i + 2) k = lab k := fun k hk => relab_old h.lab_ hat hk
  have hsz : w.heap.size ≤ w1.heap.size := Nat.le_trans (by simp) hg.size
  have hk : ∀ k, k < w.heap.size → (lab k = 0 ∨ lab k = 2 * i + 3) → w1.heap[k]? = w.heap[k]? := fun k hk hlab => by
    refine grown_other hg hk (fun e => ?_)
    have := h.lab_ k e
    omega
  refine ⟨by simpa using hown, fun k hkk => by unfold relab; rw [if_pos hkk], fun k hkb => ?_⟩
  by_cases e : k < b.length
  · rw [List.getElem_append_left e]
    exact ((h.ins k e).keep hsz hk hl).more _
  · obtain rfl : k = b.length := by simp at hkb; omega
    rw [List.getElem_append_right (Nat.le_refl _)]
    simp only [Nat.sub_self, List.getElem_cons_zero]
    obtain ⟨u1, u2, u5, c0, c1, c2, c3, c4, c5, r⟩ := hx.keep hsz hk hl
    have hxl : xs.length = b.length * 6 := h.own.1
    have sh : ∀ {j : Nat} {u : Value}, ([.int .i64 x.op, v1, v2, .int .i64 x.n, .string x.s, v5] : List Value)[j]? = some u → (xs ++ [.int .i64 x.op, v1, v2, .int .i64 x.n, .string x.s, v5])[b.length * 6 + j]? = some u := fun {j u} e => by
      rw [List.getElem?_append_right (by omega), hxl, Nat.add_sub_cancel_left]
      exact e
    exact ⟨u1, u2, u5, sh c0, sh c1, sh c2, sh c3, sh c4, sh c5, r⟩
/-- One row more. -/
theorem CodeM.app {lab : Nat → Nat} {w w1 : World} {lo : Nat} {vO vO' v : Value} {vs : Nat → Value} {X : List (List PInstr)} {b : List PInstr} {o : Obj} (h : CodeM lab w lo vO vs X) (hr : RowM lab w X.length v b)
    (hown : w1.ownsRow lo 38 1 vO' (X.length + 1) ((List.range X.length).map vs ++ [v])) (hg : (w.alloc o).grownBy w1 vO.ownBlock) (hat : vO'.ownBlock = vO.ownBlock ∨ ∃ g, vO'.ownBlock = some g ∧ w.heap.size ≤ g) :
    CodeM (relab lab vO' 1) w1 lo vO' (upd vs X.length v) (X ++ [b]) := by
  have hl : ∀ k, k < w.heap.size → relab lab vO' 1 k = lab k := fun k hk => relab_old h.lab1 hat hk
  have hsz : w.heap.size ≤ w1.heap.size := Nat.le_trans (by simp) hg.size
  have hk : ∀ k, k < w.heap.size → lab k ≠ 1 → w1.heap[k]? = w.heap[k]? := fun k hk hlab => grown_other hg hk (fun e => hlab (h.lab1 k e))
  refine ⟨?_, fun k hkk => by unfold relab; rw [if_pos hkk], fun i hi => ?_, Nat.le_trans h.lo hsz⟩
  · have e : (List.range (X ++ [b]).length).map (upd vs X.length v) = (List.range X.length).map vs ++ [v] := by
      rw [List.length_append, List.length_singleton, List.range_succ, List.map_append, List.map_singleton, upd_same]
      congr 1
      refine List.map_congr_left fun j hj => upd_other _ _ ?_
      have := List.mem_range.1 hj
      omega
    rw [e]
    simpa using hown
  · by_cases e : i < X.length
    · rw [List.getElem_append_left e, upd_other _ _ (by omega)]
      exact (h.rows i e).keep hsz (fun k h1 h2 => hk k h1 (by omega)) (fun k h1 _ => hl k h1)
    · obtain rfl : i = X.length := by simp at hi; omega
      rw [List.getElem_append_right (Nat.le_refl _), upd_same]
      simp only [Nat.sub_self, List.getElem_cons_zero]
      exact hr.keep hsz (fun k h1 h2 => hk k h1 (by omega)) (fun k h1 _ => hl k h1)
/-- The label of boxes. -/
def boxL : Nat := 1208925819614629174706176
/-- The label of what was there ahead of the call. -/
def lowL : Nat := 1208925819614629174706177
theorem CodeM.len {lab : Nat → Nat} {w : World} {lo : Nat} {vO : Value} {vs : Nat → Value} {X : List (List PInstr)} (h : CodeM lab w lo vO vs X) : X.length ≤ 9223372036854775807 := by
  rcases h.own.2 with ⟨_, h0⟩ | ⟨g, cap, cur, _, _, _, hn, hm, _, _⟩
  · omega
  · unfold maxLen at hm; omega
/-- A box may be written. -/
theorem CodeM.box {lab : Nat → Nat} {w : World} {lo b j : Nat} {vO : Value} {vs : Nat → Value} {X : List (List PInstr)} (h : CodeM lab w lo vO vs X) (hb : lab b = boxL) (u : Value) : CodeM lab (w.setCell ⟨b, j, none⟩ u) lo vO vs X :=
  h.keep (by simp) (fun k _ hle => Below.heap_setCell _ _ _ _ (fun e => by have e' : k = b := e; have := h.len; subst e'; rw [hb] at hle; unfold boxL at hle; omega)) (fun _ _ _ => rfl)
theorem own_frozen {w : World} {base n : Nat} {e : TypeId} {v : Value} {xs : List Value} (h : w.ownsRow base e 1 v n xs) {k : Nat} (hk : v.ownBlock = some k) (j : Nat) : w.frozen? ⟨k, j, none⟩ = false := by
  rcases h.2 with ⟨rfl, _⟩ | ⟨g, cap, cur, rfl, _, hh, _⟩
  · simp [Value.ownBlock] at hk
  · obtain rfl : g = k := by simpa [Value.ownBlock] using hk
    simp [World.frozen?, hh]
/-- A cloned instruction, its labels given. -/
theorem instrV_new {lab : Nat → Nat} {w w3 : World} {i m : Nat} {x : PInstr} {u1 u2 u5 : Value} (hnew : ∀ k, w.heap.size ≤ k → lab k = 0) (h1 : rInts (fun k => w.heap.size ≤ k ∧ k < m) w3 [u1] x.ds) (h2 : rInts (fun k => w.heap.size ≤ k ∧ k < m) w3 [u2] x.ars)
    (h5 : w3.ownsRow m 3 1 u5 x.to.length (x.to.map (Value.int .i64))) (hI : InI x.op ∧ InI x.n ∧ x.s.size ≤ maxLen) (hto : ∀ y ∈ x.to, InI y) :
    instrV (relab lab u5 (2 * i + 3)) w3 i [.int .i64 x.op, u1, u2, .int .i64 x.n, .string x.s, u5] 0 x := by
  have hz : ∀ k, w.heap.size ≤ k ∧ k < m → relab lab u5 (2 * i + 3) k = 0 := fun k hk => by
    unfold relab
    rw [if_neg (fun e => by have := (h5.lt k e).1; omega)]
    exact hnew k hk.1
  exact ⟨u1, u2, u5, rfl, rfl, rfl, rfl, rfl, rfl, hI, Good.wide (R := rInts) h1 (fun k _ hk => hz k hk), Good.wide (R := rInts) h2 (fun k _ hk => hz k hk), rInts_own h5 (fun k hk => ⟨by unfold relab; rw [if_pos hk], own_frozen h5 hk⟩) hto⟩
theorem relab_new {lab : Nat → Nat} {w3 : World} {base n L sz : Nat} {e : TypeId} {u : Value} {xs : List Value} (h : w3.ownsRow base e sz u n xs) (hb : ∀ k, base ≤ k → k < w3.heap.size → True) (hnew : ∀ k, w3.heap.size ≤ k → lab k = 0) : ∀ k, w3.heap.size ≤ k → relab lab u L k = 0 := fun k hk => by
  unfold relab
  rw [if_neg (fun e => by have := (h.lt k e).2; omega)]
  exact hnew k hk
theorem relab_low {lab : Nat → Nat} {w3 : World} {base n L sz : Nat} {e : TypeId} {u : Value} {xs : List Value} (h : w3.ownsRow base e sz u n xs) {k : Nat} (hk : k < base) : relab lab u L k = lab k := by
  unfold relab
  rw [if_neg (fun e => by have := (h.lt k e).1; omega)]
end Go.Proofs.YthgfdcoicihpdaaDoor

/-
  Plain laws: a matrix that the call itself made: a row of slices, each slice an owned row of its own; no two in one block.
-/
import Derived.Test.YthgmaapebplimaaData
import Derived.Maps.AppendAt
import Derived.Deep.OwnRows
namespace Go.Pst
open Go.RowKit

def upd {α : Type} (F : Nat → α) (t : Nat) (x : α) : Nat → α := fun j => if j = t then x else F j
theorem upd_same {α : Type} (F : Nat → α) (t : Nat) (x : α) : upd F t x t = x := by simp [upd]
theorem upd_other {α : Type} (F : Nat → α) {t j : Nat} (x : α) (h : j ≠ t) : upd F t x j = F j := by simp [upd, h]

/-- Block g is a row of n slices 'vs t' (of type te), each owning, from block B on (B is behind g), the cells 'F t'; no two in one block. -/
structure OwnMat (te e : TypeId) {α : Type} (f : α → Value) (w : World) (B g n : Nat) (vs : Nat → Value) (F : Nat → List α) : Prop where
  lt : g < B
  row : w.rowIs g te n vs
  own : ∀ t, t < n → w.ownsRow B e 1 (vs t) (F t).length ((F t).map f)
  dis : ∀ i j, i < n → j < n → i ≠ j → (vs i).ownBlock = none ∨ (vs i).ownBlock ≠ (vs j).ownBlock

theorem ownsRow_block {w w' : World} {base : Nat} {e : TypeId} {size : Nat} {v : Value} {n : Nat} {xs : List Value} (h : w.ownsRow base e size v n xs) (hb : ∀ k, v.ownBlock = some k → w'.heap[k]? = w.heap[k]?) : w'.ownsRow base e size v n xs := by
  obtain ⟨h1, h2⟩ := h
  refine ⟨h1, ?_⟩
  rcases h2 with h2 | ⟨g, cap, cur, hv, hg, hh, r⟩
  · exact Or.inl h2
  · exact Or.inr ⟨g, cap, cur, hv, hg, by rw [hb g (by simp [hv, Value.ownBlock])]; exact hh, r⟩

/-- An owned row as a slice, its cells, unfrozen. -/
theorem ownsRow_open {w : World} {base : Nat} {e : TypeId} {v : Value} {n : Nat} {xs : List Value} (h : w.ownsRow base e 1 v n xs) :
    xs.length = n ∧ ∃ a cap, v = .slice a n cap ∧ n ≤ cap ∧ cap ≤ maxLen ∧ ∀ i, i < n → ∃ b, a = some ⟨b, 0, none⟩ ∧ base ≤ b ∧ b < w.heap.size ∧ w.cell? ⟨b, i, none⟩ = xs[i]? ∧ w.frozen? ⟨b, i, none⟩ = false := by
  obtain ⟨h1, h2⟩ := h
  refine ⟨by simpa using h1, ?_⟩
  rcases h2 with ⟨rfl, rfl⟩ | ⟨g, cap, cur, rfl, hg, hh, hn, hm, hc, ht⟩
  · exact ⟨none, 0, rfl, Nat.le_refl _, by decide, fun i hi => absurd hi (by omega)⟩
  · refine ⟨_, cap, rfl, hn, hm, fun i hi => ⟨g, rfl, hg, (Array.getElem?_eq_some_iff.1 hh).1, ?_, by simp [World.frozen?, hh]⟩⟩
    simp only [World.cell?, hh]
    simp only [Nat.mul_one] at ht
    rw [← ht, List.getElem?_take, if_pos hi]
    simp

theorem ownsRow_slice {w : World} {base : Nat} {e : TypeId} {v : Value} {n : Nat} {xs : List Value} (h : w.ownsRow base e 1 v n xs) : ∃ a cap, v = .slice a n cap := by
  obtain ⟨_, a, cap, h1, _⟩ := ownsRow_open h
  exact ⟨a, cap, h1⟩

theorem ownsRow_ints {w : World} {base : Nat} {e : TypeId} {v : Value} {l : List Int} (h : w.ownsRow base e 1 v l.length (l.map (Value.int .i64))) :
    ∃ a cap, v = .slice a l.length cap ∧ l.length ≤ 9223372036854775807 ∧ IntsAt w a l := by
  obtain ⟨_, a, cap, h1, h2, h3, h4⟩ := ownsRow_open h
  unfold maxLen at h3
  refine ⟨a, cap, h1, by omega, fun i hi => ?_⟩
  obtain ⟨b, e1, _, e2, e3, _⟩ := h4 i hi
  exact ⟨b, 0, e1, e2, by rw [Nat.zero_add, e3]; simp [hi]⟩

namespace OwnMat
variable {te e : TypeId} {α : Type} {f : α → Value} {w : World} {B g n : Nat} {vs : Nat → Value} {F : Nat → List α}

theorem congr {F' : Nat → List α} (h : OwnMat te e f w B g n vs F) (hF : ∀ t, t < n → F t = F' t) : OwnMat te e f w B g n vs F' :=
  ⟨h.lt, h.row, fun t ht => by rw [← hF t ht]; exact h.own t ht, h.dis⟩

/-- The matrix stays while its blocks stay. -/
theorem kept {w' : World} (h : OwnMat te e f w B g n vs F) (hk : ∀ k, g ≤ k → k < w.heap.size → w'.heap[k]? = w.heap[k]?) : OwnMat te e f w' B g n vs F :=
  ⟨h.lt, h.row.of_block (hk g (Nat.le_refl _) h.row.lt), fun t ht => ownsRow_block (h.own t ht) (fun k hkk => by
    have := (h.own t ht).lt k hkk
    exact hk k (by have := h.lt; omega) this.2), h.dis⟩
theorem alloc (h : OwnMat te e f w B g n vs F) (o : Obj) : OwnMat te e f (w.alloc o) B g n vs F := h.kept fun _ _ hk => Below.heap_alloc _ _ _ hk
theorem drewN (h : OwnMat te e f w B g n vs F) (m : Nat) : OwnMat te e f (w.drewN m) B g n vs F := h.kept fun _ _ _ => rfl
theorem below {w' : World} (h : OwnMat te e f w B g n vs F) (hb : Below w.heap.size w w') : OwnMat te e f w' B g n vs F := h.kept fun k _ hk => hb.block k hk

/-- Row t has been appended to (behind the box of what is appended) and put back. -/
theorem app {w1 : World} {v' : Value} {o : Obj} {t : Nat} {x : α} (h : OwnMat te e f w B g n vs F) (ht : t < n)
    (hown : w1.ownsRow B e 1 v' ((F t).length + 1) ((F t).map f ++ [f x])) (hg : (w.alloc o).grownBy w1 (vs t).ownBlock) (hat : v'.ownBlock = (vs t).ownBlock ∨ v'.ownBlock = some (w.alloc o).heap.size) :
    OwnMat te e f (w1.setCell ⟨g, t, none⟩ v') B g n (upd vs t v') (upd F t (F t ++ [x])) := by
  have hlt := h.lt
  have htb := (h.own t ht).lt
  have blk : ∀ k, k < w.heap.size → some k ≠ (vs t).ownBlock → k ≠ g → (w1.setCell ⟨g, t, none⟩ v').heap[k]? = w.heap[k]? := by
    intro k hk hne hkg
    rw [Below.heap_setCell _ _ _ _ hkg, hg.block k (by simp; omega) hne]
    exact Below.heap_alloc _ _ _ hk
  have hg1 : w1.rowIs g te n vs := h.row.of_block (by
    rw [hg.block g (by have := h.row.lt; simp; omega) (fun e => by have := htb g e.symm; omega)]
    exact Below.heap_alloc _ _ _ h.row.lt)
  refine ⟨hlt, (hg1.set t v').congr (fun i _ => by simp [upd]), fun j hj => ?_, fun i j hi hj hij => ?_⟩
  · by_cases e1 : j = t
    · subst e1
      rw [upd_same, upd_same]
      refine ownsRow_block (w := w1) ?_ (fun k hk => Below.heap_setCell _ _ _ _ ?_)
      · simpa using hown
      · have := hown.lt k hk
        intro (e2 : k = g)
        omega
    · rw [upd_other _ _ e1, upd_other _ _ e1]
      refine ownsRow_block (h.own j hj) (fun k hk => blk k ((h.own j hj).lt k hk).2 ?_ ?_)
      · rcases h.dis j t hj ht e1 with h0 | h0
        · rw [h0] at hk; cases hk
        · rw [← hk]; exact h0
      · have := ((h.own j hj).lt k hk).1
        omega
  · have key : ∀ j, j < n → j ≠ t → (vs j).ownBlock = none ∨ (vs j).ownBlock ≠ v'.ownBlock := by
      intro j hj hjt
      rcases hat with e1 | e1
      · rw [e1]; exact h.dis j t hj ht hjt
      · rw [e1]
        cases hv : (vs j).ownBlock with
        | none => exact Or.inl rfl
        | some k =>
          right
          intro e2
          have := ((h.own j hj).lt k hv).2
          have e3 : k = (w.alloc o).heap.size := by simpa using e2
          simp at e3
          omega
    by_cases e1 : i = t
    · subst e1
      rw [upd_same, upd_other _ _ (fun e => hij e.symm)]
      rcases key j hj (fun e => hij e.symm) with h0 | h0
      · cases hv : v'.ownBlock with
        | none => exact Or.inl rfl
        | some k => right; rw [h0]; simp
      · exact Or.inr (fun e => h0 e.symm)
    · rw [upd_other _ _ e1]
      by_cases e2 : j = t
      · subst e2
        rw [upd_same]
        exact key i hi e1
      · rw [upd_other _ _ e2]
        exact h.dis i j hi hj hij

/-- .. the outer row, ahead of the store. -/
theorem app_row {w1 : World} {o : Obj} {t : Nat} (h : OwnMat te e f w B g n vs F) (ht : t < n) (hg : (w.alloc o).grownBy w1 (vs t).ownBlock) : w1.rowIs g te n vs :=
  h.row.of_block (by
    rw [hg.block g (by have := h.row.lt; simp; omega) (fun e => by have := (h.own t ht).lt g e.symm; have := h.lt; omega)]
    exact Below.heap_alloc _ _ _ h.row.lt)
/-- .. what else is kept by that. -/
theorem app_block {w1 : World} {v' : Value} {o : Obj} {t k : Nat} (hg : (w.alloc o).grownBy w1 (vs t).ownBlock) (hk : k < w.heap.size) (hne : some k ≠ (vs t).ownBlock) (hkg : k ≠ g) :
    (w1.setCell ⟨g, t, none⟩ v').heap[k]? = w.heap[k]? := by
  rw [Below.heap_setCell _ _ _ _ hkg, hg.block k (by simp; omega) hne]
  exact Below.heap_alloc _ _ _ hk

/-- The whole matrix reads as its lists. -/
theorem reads_ints {vs : Nat → Value} {F : Nat → List Int} {S : Nat → Prop} (h : OwnMat te e (Value.int .i64) w B g n vs F) (hm : n ≤ maxLen) (hI : ∀ t, t < n → ∀ x ∈ F t, InI x) (hS : ∀ k, g ≤ k → S k) :
    rIntss S w [.slice (some ⟨g, 0, none⟩) n n] ((List.range n).map F) := by
  refine ⟨some ⟨g, 0, none⟩, n, by simp, by simp, hm, fun i hi => ?_⟩
  have hi' : i < n := by simpa using hi
  refine ⟨g, 0, [vs i], rfl, hS g (Nat.le_refl _), h.row.lt, rfl, fun j hj => ?_, ?_⟩
  · obtain rfl : j = 0 := by omega
    simpa using h.row.cell hi'
  · simp only [List.getElem_map, List.getElem_range]
    exact rInts_own (h.own i hi') (fun k hk => hS k (by have := (h.own i hi').lt k hk; have := h.lt; omega)) (hI i hi')
end OwnMat

theorem ownMat_made {te e : TypeId} {α : Type} {f : α → Value} (w : World) (n : Nat) {B g : Nat} (hg : g = w.heap.size) (hB : g < B) : OwnMat te e f (w.alloc (.cells (madeCells #[.slice none 0 0] n) te)) B g n (fun _ => .slice none 0 0) (fun _ => []) := by
  subst hg
  exact ⟨hB, World.rowIs_made w _ n te, fun _ _ => World.ownsRow_nil _ _ _ _, fun _ _ _ _ _ => Or.inl rfl⟩

/-- Behind an append to a row of the matrix and the store: below the matrix nothing has turned. -/
theorem OwnMat.below_app {te e : TypeId} {α : Type} {f : α → Value} {w w1 : World} {B g n : Nat} {vs : Nat → Value} {F : Nat → List α} {v' : Value} {o : Obj} {t : Nat} (h : OwnMat te e f w B g n vs F) (ht : t < n) (hB : B ≤ w.heap.size)
    (hg : (w.alloc o).grownBy w1 (vs t).ownBlock) : Below g w (w1.setCell ⟨g, t, none⟩ v') :=
  (((Below.refl g w).alloc (by have := h.lt; omega) o).grown hg (by have := h.lt; simp; omega) (fun k hk => by have := ((h.own t ht).alloc o).lt k hk; have := h.lt; omega)).setCell (by simp) v'
end Go.Pst

/-
  Plain laws: a matrix that the call itself made: a row of slices, each slice an owned row of its own; no two in one block.
-/
import Derived.Test.YthgfdcoicihpdaaDoorData
import Derived.Maps.AppendAt
import Derived.Deep.OwnRows
namespace Go.Pst
open Go.RowKit

def upd {α : Type} (F : Nat → α) (t : Nat) (x : α) : Nat → α := fun j => if j = t then x else F j
theorem upd_same {α : Type} (F : Nat → α) (t : Nat) (x : α) : upd F t x t = x := by simp [upd]
theorem upd_other {α : Type} (F : Nat → α) {t j : Nat} (x : α) (h : j ≠ t) : upd F t x j = F j := by simp [upd, h]

/-- Block g is a row of n slices 'vs t' (of type te), each owning, from block B on (B is behind g), the cells 'F t'; no two in one block. -/
structure OwnMat (te e : TypeId) {α : Type} (f : α → Value) (w : World) (B g n : Nat) (vs : Nat → Value) (F : Nat → List α) : Prop where
  lt : g < B
  row : w.rowIs g te n vs
  own : ∀ t, t < n → w.ownsRow B e 1 (vs t) (F t).length ((F t).map f)
  dis : ∀ i j, i < n → j < n → i ≠ j → (vs i).ownBlock = none ∨ (vs i).ownBlock ≠ (vs j).ownBlock

theorem ownsRow_block {w w' : World} {base : Nat} {e : TypeId} {size : Nat} {v : Value} {n : Nat} {xs : List Value} (h : w.ownsRow base e size v n xs) (hb : ∀ k, v.ownBlock = some k → w'.heap[k]? = w.heap[k]?) : w'.ownsRow base e size v n xs := by
  obtain ⟨h1, h2⟩ := h
  refine ⟨h1, ?_⟩
  rcases h2 with h2 | ⟨g, cap, cur, hv, hg, hh, r⟩
  · exact Or.inl h2
  · exact Or.inr ⟨g, cap, cur, hv, hg, by rw [hb g (by simp [hv, Value.ownBlock])]; exact hh, r⟩

/-- An owned row as a slice, its cells, unfrozen. -/
theorem ownsRow_open {w : World} {base : Nat} {e : TypeId} {v : Value} {n : Nat} {xs : List Value} (h : w.ownsRow base e 1 v n xs) :
    xs.length = n ∧ ∃ a cap, v = .slice a n cap ∧ n ≤ cap ∧ cap ≤ maxLen ∧ ∀ i, i < n → ∃ b, a = some ⟨b, 0, none⟩ ∧ base ≤ b ∧ b < w.heap.size ∧ w.cell? ⟨b, i, none⟩ = xs[i]? ∧ w.frozen? ⟨b, i, none⟩ = false := by
  obtain ⟨h1, h2⟩ := h
  refine ⟨by simpa using h1, ?_⟩
  rcases h2 with ⟨rfl, rfl⟩ | ⟨g, cap, cur, rfl, hg, hh, hn, hm, hc, ht⟩
  · exact ⟨none, 0, rfl, Nat.le_refl _, by decide, fun i hi => absurd hi (by omega)⟩
  · refine ⟨_, cap, rfl, hn, hm, fun i hi => ⟨g, rfl, hg, (Array.getElem?_eq_some_iff.1 hh).1, ?_, by simp [World.frozen?, hh]⟩⟩
    simp only [World.cell?, hh]
    simp only [Nat.mul_one] at ht
    rw [← ht, List.getElem?_take, if_pos hi]
    simp

theorem ownsRow_slice {w : World} {base : Nat} {e : TypeId} {v : Value} {n : Nat} {xs : List Value} (h : w.ownsRow base e 1 v n xs) : ∃ a cap, v = .slice a n cap := by
  obtain ⟨_, a, cap, h1, _⟩ := ownsRow_open h
  exact ⟨a, cap, h1⟩

theorem cell_one_at (w : World) (x : Value) (e : TypeId) {g : Nat} (hg : g = w.heap.size) : ∀ (j : Nat) (u : Value), [x][j]? = some u → (w.alloc (.cells #[x] e)).cell? ((⟨g, 0, none⟩ : Addr).add j) = some u := by
  subst hg
  exact cell_one_new w x e
/-- Behind an append (behind the box of what is appended) to an owned row: what lies in another block from the row's base on. -/
theorem grown_other {w w1 : World} {o : Obj} {row : Option Nat} {k : Nat} (hg : (w.alloc o).grownBy w1 row) (hk : k < w.heap.size) (hne : row ≠ some k) : w1.heap[k]? = w.heap[k]? := by
  rw [hg.block k (by simp; omega) (fun e => hne e.symm)]
  exact Below.heap_alloc _ _ _ hk
/-- A row with elements is no nil slice. -/
theorem ownsRow_pos {w : World} {base : Nat} {e : TypeId} {v : Value} {n : Nat} {xs : List Value} (h : w.ownsRow base e 1 v (n + 1) xs) :
    ∃ g cap, v = .slice (some ⟨g, 0, none⟩) (n + 1) cap ∧ n + 1 ≤ cap ∧ cap ≤ maxLen ∧ base ≤ g ∧ g < w.heap.size := by
  rcases h.2 with ⟨_, h0⟩ | ⟨g, cap, cur, rfl, hg, hh, hn, hm, _, _⟩
  · omega
  · exact ⟨g, cap, rfl, hn, hm, hg, (Array.getElem?_eq_some_iff.1 hh).1⟩
/-- A made row, one cell set at once. -/
theorem rowIs_made_set (w : World) (z v : Value) (n t : Nat) (e : TypeId) : (w.alloc (.cells ((madeCells #[z] n).setIfInBounds t v) e)).rowIs w.heap.size e n (upd (fun _ => z) t v) := by
  have h := World.rowIs_alloc w ((madeCells #[z] n).setIfInBounds t v) e (upd (fun _ => z) t v) (fun i hi => by
    have hi' : i < n := by simpa [size_madeCells] using hi
    rw [Array.getElem?_setIfInBounds]
    by_cases e' : i = t
    · subst e'; simp [upd, size_madeCells, hi']
    · rw [if_neg (fun h => e' h.symm), upd_other _ _ e']; simp [madeCells, hi', Nat.mod_one])
  simpa [size_madeCells] using h
theorem ownsRow_ints {w : World} {base : Nat} {e : TypeId} {v : Value} {l : List Int} (h : w.ownsRow base e 1 v l.length (l.map (Value.int .i64))) :
    ∃ a cap, v = .slice a l.length cap ∧ l.length ≤ 9223372036854775807 ∧ IntsAt w a l := by
  obtain ⟨_, a, cap, h1, h2, h3, h4⟩ := ownsRow_open h
  unfold maxLen at h3
  refine ⟨a, cap, h1, by omega, fun i hi => ?_⟩
  obtain ⟨b, e1, _, e2, e3, _⟩ := h4 i hi
  exact ⟨b, 0, e1, e2, by rw [Nat.zero_add, e3]; simp [hi]⟩

namespace OwnMat
variable {te e : TypeId} {α : Type} {f : α → Value} {w : World} {B g n : Nat} {vs : Nat → Value} {F : Nat → List α}

theorem congr {F' : Nat → List α} (h : OwnMat te e f w B g n vs F) (hF : ∀ t, t < n → F t = F' t) : OwnMat te e f w B g n vs F' :=
  ⟨h.lt, h.row, fun t ht => by rw [← hF t ht]; exact h.own t ht, h.dis⟩

/-- The matrix stays while its blocks stay. -/
theorem kept {w' : World} (h : OwnMat te e f w B g n vs F) (hk : ∀ k, g ≤ k → k < w.heap.size → w'.heap[k]? = w.heap[k]?) : OwnMat te e f w' B g n vs F :=
  ⟨h.lt, h.row.of_block (hk g (Nat.le_refl _) h.row.lt), fun t ht => ownsRow_block (h.own t ht) (fun k hkk => by
    have := (h.own t ht).lt k hkk
    exact hk k (by have := h.lt; omega) this.2), h.dis⟩
theorem alloc (h : OwnMat te e f w B g n vs F) (o : Obj) : OwnMat te e f (w.alloc o) B g n vs F := h.kept fun _ _ hk => Below.heap_alloc _ _ _ hk
theorem drewN (h : OwnMat te e f w B g n vs F) (m : Nat) : OwnMat te e f (w.drewN m) B g n vs F := h.kept fun _ _ _ => rfl
theorem below {w' : World} (h : OwnMat te e f w B g n vs F) (hb : Below w.heap.size w w') : OwnMat te e f w' B g n vs F := h.kept fun k _ hk => hb.block k hk

/-- Row t has been appended to (behind the box of what is appended) and put back. -/
theorem app {w1 : World} {v' : Value} {o : Obj} {t : Nat} {x : α} (h : OwnMat te e f w B g n vs F) (ht : t < n)
    (hown : w1.ownsRow B e 1 v' ((F t).length + 1) ((F t).map f ++ [f x])) (hg : (w.alloc o).grownBy w1 (vs t).ownBlock) (hat : v'.ownBlock = (vs t).ownBlock ∨ v'.ownBlock = some (w.alloc o).heap.size) :
    OwnMat te e f (w1.setCell ⟨g, t, none⟩ v') B g n (upd vs t v') (upd F t (F t ++ [x])) := by
  have hlt := h.lt
  have htb := (h.own t ht).lt
  have blk : ∀ k, k < w.heap.size → some k ≠ (vs t).ownBlock → k ≠ g → (w1.setCell ⟨g, t, none⟩ v').heap[k]? = w.heap[k]? := by
    intro k hk hne hkg
    rw [Below.heap_setCell _ _ _ _ hkg, hg.block k (by simp; omega) hne]
    exact Below.heap_alloc _ _ _ hk
  have hg1 : w1.rowIs g te n vs := h.row.of_block (by
    rw [hg.block g (by have := h.row.lt; simp; omega) (fun e => by have := htb g e.symm; omega)]
    exact Below.heap_alloc _ _ _ h.row.lt)
  refine ⟨hlt, (hg1.set t v').congr (fun i _ => by simp [upd]), fun j hj => ?_, fun i j hi hj hij => ?_⟩
  · by_cases e1 : j = t
    · subst e1
      rw [upd_same, upd_same]
      refine ownsRow_block (w := w1) ?_ (fun k hk => Below.heap_setCell _ _ _ _ ?_)
      · simpa using hown
      · have := hown.lt k hk
        intro (e2 : k = g)
        omega
    · rw [upd_other _ _ e1, upd_other _ _ e1]
      refine ownsRow_block (h.own j hj) (fun k hk => blk k ((h.own j hj).lt k hk).2 ?_ ?_)
      · rcases h.dis j t hj ht e1 with h0 | h0
        · rw [h0] at hk; cases hk
        · rw [← hk]; exact h0
      · have := ((h.own j hj).lt k hk).1
        omega
  · have key : ∀ j, j < n → j ≠ t → (vs j).ownBlock = none ∨ (vs j).ownBlock ≠ v'.ownBlock := by
      intro j hj hjt
      rcases hat with e1 | e1
      · rw [e1]; exact h.dis j t hj ht hjt
      · rw [e1]
        cases hv : (vs j).ownBlock with
        | none => exact Or.inl rfl
        | some k =>
          right
          intro e2
          have := ((h.own j hj).lt k hv).2
          have e3 : k = (w.alloc o).heap.size := by simpa using e2
          simp at e3
          omega
    by_cases e1 : i = t
    · subst e1
      rw [upd_same, upd_other _ _ (fun e => hij e.symm)]
      rcases key j hj (fun e => hij e.symm) with h0 | h0
      · cases hv : v'.ownBlock with
        | none => exact Or.inl rfl
        | some k => right; rw [h0]; simp
      · exact Or.inr (fun e => h0 e.symm)
    · rw [upd_other _ _ e1]
      by_cases e2 : j = t
      · subst e2
        rw [upd_same]
        exact key i hi e1
      · rw [upd_other _ _ e2]
        exact h.dis i j hi hj hij

/-- .. the outer row, ahead of the store. -/
theorem app_row {w1 : World} {o : Obj} {t : Nat} (h : OwnMat te e f w B g n vs F) (ht : t < n) (hg : (w.alloc o).grownBy w1 (vs t).ownBlock) : w1.rowIs g te n vs :=
  h.row.of_block (by
    rw [hg.block g (by have := h.row.lt; simp; omega) (fun e => by have := (h.own t ht).lt g e.symm; have := h.lt; omega)]
    exact Below.heap_alloc _ _ _ h.row.lt)
/-- .. what else is kept by that. -/
theorem app_block {w1 : World} {v' : Value} {o : Obj} {t k : Nat} (hg : (w.alloc o).grownBy w1 (vs t).ownBlock) (hk : k < w.heap.size) (hne : some k ≠ (vs t).ownBlock) (hkg : k ≠ g) :
    (w1.setCell ⟨g, t, none⟩ v').heap[k]? = w.heap[k]? := by
  rw [Below.heap_setCell _ _ _ _ hkg, hg.block k (by simp; omega) hne]
  exact Below.heap_alloc _ _ _ hk

/-- The whole matrix reads as its lists. -/
theorem reads_ints {vs : Nat → Value} {F : Nat → List Int} {S : Nat → Prop} (h : OwnMat te e (Value.int .i64) w B g n vs F) (hm : n ≤ maxLen) (hI : ∀ t, t < n → ∀ x ∈ F t, InI x) (hS : ∀ k, g ≤ k → S k) :
    rIntss S w [.slice (some ⟨g, 0, none⟩) n n] ((List.range n).map F) := by
  refine ⟨some ⟨g, 0, none⟩, n, by simp, by simp, hm, fun i hi => ?_⟩
  have hi' : i < n := by simpa using hi
  refine ⟨g, 0, [vs i], rfl, hS g (Nat.le_refl _), h.row.lt, rfl, fun j hj => ?_, ?_⟩
  · obtain rfl : j = 0 := by omega
    simpa using h.row.cell hi'
  · simp only [List.getElem_map, List.getElem_range]
    exact rInts_own (h.own i hi') (fun k hk => hS k (by have := (h.own i hi').lt k hk; have := h.lt; omega)) (hI i hi')
end OwnMat

theorem ownMat_made {te e : TypeId} {α : Type} {f : α → Value} (w : World) (n : Nat) {B g : Nat} (hg : g = w.heap.size) (hB : g < B) : OwnMat te e f (w.alloc (.cells (madeCells #[.slice none 0 0] n) te)) B g n (fun _ => .slice none 0 0) (fun _ => []) := by
  subst hg
  exact ⟨hB, World.rowIs_made w _ n te, fun _ _ => World.ownsRow_nil _ _ _ _, fun _ _ _ _ _ => Or.inl rfl⟩

/-- A matrix of truths that the call made row by row: m of its n rows are there, each a block of its own from B on. -/
structure BMat (te e : TypeId) (w : World) (g B n m : Nat) (bs : Nat → Nat) (S : Nat → Nat → Bool) : Prop where
  lt : g < B
  row : w.rowIs g te n (fun i => if i < m then .slice (some ⟨bs i, 0, none⟩) n n else .slice none 0 0)
  rows : ∀ i, i < m → B ≤ bs i ∧ w.rowIs (bs i) e n (fun k => .bool (S i k))
  inj : ∀ i j, i < m → j < m → i ≠ j → bs i ≠ bs j
namespace BMat
variable {te e : TypeId} {w : World} {g B n m : Nat} {bs : Nat → Nat} {S : Nat → Nat → Bool}
theorem kept {w' : World} (h : BMat te e w g B n m bs S) (hk : ∀ k, g ≤ k → k < w.heap.size → w'.heap[k]? = w.heap[k]?) : BMat te e w' g B n m bs S :=
  ⟨h.lt, h.row.of_block (hk g (Nat.le_refl _) h.row.lt), fun i hi => ⟨(h.rows i hi).1, (h.rows i hi).2.of_block (hk _ (by have := (h.rows i hi).1; have := h.lt; omega) (h.rows i hi).2.lt)⟩, h.inj⟩
/-- .. all below some block. -/
theorem kept' {w' : World} {G : Nat} (h : BMat te e w g B n m bs S) (hk : ∀ k, k < G → w'.heap[k]? = w.heap[k]?) (hg : g < G) (hbs : ∀ i, i < m → bs i < G) : BMat te e w' g B n m bs S :=
  ⟨h.lt, h.row.of_block (hk g hg), fun i hi => ⟨(h.rows i hi).1, (h.rows i hi).2.of_block (hk _ (hbs i hi))⟩, h.inj⟩
theorem below {w' : World} (h : BMat te e w g B n m bs S) (hb : Below w.heap.size w w') : BMat te e w' g B n m bs S := h.kept fun k _ hk => hb.block k hk
theorem alloc (h : BMat te e w g B n m bs S) (o : Obj) : BMat te e (w.alloc o) g B n m bs S := h.kept fun _ _ hk => Below.heap_alloc _ _ _ hk
theorem drawn {w' : World} (h : BMat te e w g B n m bs S) (hd : Drawn w w') : BMat te e w' g B n m bs S := h.kept fun _ _ _ => by rw [hd.heap]
theorem congr {S' : Nat → Nat → Bool} (h : BMat te e w g B n m bs S) (hS : ∀ i k, i < m → k < n → S i k = S' i k) : BMat te e w g B n m bs S' :=
  ⟨h.lt, h.row, fun i hi => ⟨(h.rows i hi).1, (h.rows i hi).2.congr fun k hk => by rw [hS i k hi hk]⟩, h.inj⟩
/-- A row's slice. -/
theorem slice (h : BMat te e w g B n m bs S) {i : Nat} (hi : i < m) (hn : i < n) : w.cell? ⟨g, i, none⟩ = some (.slice (some ⟨bs i, 0, none⟩) n n) := by
  have := h.row.cell hn
  simpa [hi] using this
theorem cell (h : BMat te e w g B n m bs S) {i k : Nat} (hi : i < m) (hk : k < n) : w.cell? ⟨bs i, k, none⟩ = some (.bool (S i k)) := (h.rows i hi).2.cell hk
/-- A cell is set. -/
theorem set (h : BMat te e w g B n m bs S) {i : Nat} (hi : i < m) (k : Nat) (x : Bool) : BMat te e (w.setCell ⟨bs i, k, none⟩ (.bool x)) g B n m bs (upd S i (upd (S i) k x)) := by
  have hB := (h.rows i hi).1
  have hl := h.lt
  refine ⟨hl, h.row.setOther (by simp; omega) _, fun j hj => ⟨(h.rows j hj).1, ?_⟩, h.inj⟩
  by_cases e' : j = i
  · subst e'
    rw [upd_same]
    refine ((h.rows j hj).2.set k (.bool x)).congr fun t _ => ?_
    unfold upd
    split <;> rfl
  · rw [upd_other _ _ e']
    exact (h.rows j hj).2.setOther (by simpa using h.inj j i hj hi e') _
/-- A new row, put into the matrix. -/
theorem push (h : BMat te e w g B n m bs S) (hm : m < n) (hB : B ≤ w.heap.size) : BMat te e ((w.setCell ⟨g, m, none⟩ (.slice (some ⟨w.heap.size, 0, none⟩) n n)).alloc (.cells (madeCells #[.bool false] n) e)) g B n (m + 1) (upd bs m w.heap.size) (upd S m (fun _ => false)) := by
  have hl := h.lt
  have hs : (w.setCell ⟨g, m, none⟩ (.slice (some ⟨w.heap.size, 0, none⟩) n n)).heap.size = w.heap.size := by simp [World.setCell]
  refine ⟨hl, ((h.row.set m _).alloc _).congr fun i hi => ?_, fun i hi => ?_, fun i j hi hj hij => ?_⟩
  · by_cases e1 : i = m
    · subst e1; simp [upd]
    · by_cases e2 : i < m
      · rw [if_neg e1, if_pos e2, if_pos (by omega), upd_other _ _ e1]
      · rw [if_neg e1, if_neg e2, if_neg (by omega)]
  · by_cases e1 : i = m
    · subst e1
      rw [upd_same, upd_same]
      refine ⟨hB, ?_⟩
      have := World.rowIs_made (w.setCell ⟨g, i, none⟩ (.slice (some ⟨w.heap.size, 0, none⟩) n n)) (.bool false) n e
      rw [hs] at this
      exact this
    · rw [upd_other _ _ e1, upd_other _ _ e1]
      have hr := h.rows i (by omega)
      exact ⟨hr.1, (hr.2.setOther (by simp; omega) _).alloc _⟩
  · by_cases e1 : i = m
    · subst e1
      rw [upd_same, upd_other _ _ (fun e => hij e.symm)]
      have := (h.rows j (by omega)).2.lt
      omega
    · rw [upd_other _ _ e1]
      by_cases e2 : j = m
      · subst e2
        rw [upd_same]
        have := (h.rows i (by omega)).2.lt
        omega
      · rw [upd_other _ _ e2]
        exact h.inj i j (by omega) (by omega) hij
end BMat

/-- Behind an append to a row of the matrix and the store: below the matrix nothing has turned. -/
theorem OwnMat.below_app {te e : TypeId} {α : Type} {f : α → Value} {w w1 : World} {B g n : Nat} {vs : Nat → Value} {F : Nat → List α} {v' : Value} {o : Obj} {t : Nat} (h : OwnMat te e f w B g n vs F) (ht : t < n) (hB : B ≤ w.heap.size)
    (hg : (w.alloc o).grownBy w1 (vs t).ownBlock) : Below g w (w1.setCell ⟨g, t, none⟩ v') :=
  (((Below.refl g w).alloc (by have := h.lt; omega) o).grown hg (by have := h.lt; simp; omega) (fun k hk => by have := ((h.own t ht).alloc o).lt k hk; have := h.lt; omega)).setCell (by simp) v'
end Go.Pst

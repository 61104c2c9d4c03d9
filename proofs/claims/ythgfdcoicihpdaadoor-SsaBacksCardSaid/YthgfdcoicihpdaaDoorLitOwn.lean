/-
  Literals of slices and structs in new blocks, and how they read (plain memory).
-/
import Derived.Test.YthgfdcoicihpdaaDoorMemCodes
import Derived.Test.YthgfdcoicihpdaaDoorSep
namespace Go.Pst
open Go.RowKit
set_option linter.unusedVariables false
set_option linter.unusedSimpArgs false

theorem flat_get {sz : Nat} : ∀ (ess : List (List Value)) (i j : Nat) (h : i < ess.length), (∀ es ∈ ess, es.length = sz) → j < sz → ess.flatten[i * sz + j]? = ess[i][j]?
  | [], i, j, h, _, _ => by simp at h
  | es :: r, 0, j, h, hs, hj => by
    have := hs es (by simp)
    simp [List.getElem?_append_left (show j < es.length by omega)]
  | es :: r, i + 1, j, h, hs, hj => by
    have h1 := hs es (by simp)
    have h2 := flat_get r i j (by simpa using h) (fun x hx => hs x (by simp [hx])) hj
    rw [List.flatten_cons, List.getElem?_append_right (by rw [h1, Nat.succ_mul]; omega), h1, show (i + 1) * sz + j - sz = i * sz + j by rw [Nat.succ_mul]; omega, h2]
    simp
/-- A list laid as a literal, in one block of its own. -/
theorem rSlice_lit {α : Type} (sz : Nat) (R : Rep α) (S : Nat → Prop) (w : World) (b : Nat) (t : TypeId) (fr : Nat × Nat) (l : List α) (ess : List (List Value)) (hlen : ess.length = l.length) (hsz : ∀ es ∈ ess, es.length = sz) (hS : S b) (hm : l.length ≤ maxLen)
    (hc : w.heap[b]? = some (.cells ess.flatten.toArray t fr)) (hR : ∀ i (h : i < l.length), R S w (ess[i]'(by omega)) l[i]) : rSlice sz R S w [.slice (some ⟨b, 0, none⟩) l.length l.length] l := by
  refine ⟨_, _, rfl, Nat.le_refl _, hm, fun i hi => ⟨b, 0, ess[i]'(by omega), rfl, hS, (Array.getElem?_eq_some_iff.1 hc).1, hsz _ (List.getElem_mem _), fun j hj => ?_, hR i hi⟩⟩
  rw [← flat_get ess i j (by omega) hsz hj]
  simp [World.cell?, hc]

/-- Each of a list's elements reads from its cells. -/
def rAll {α : Type} (sz : Nat) (R : Rep α) (S : Nat → Prop) (w : World) : List (List Value) → List α → Prop
  | [], [] => True
  | es :: r, x :: l => (es.length = sz ∧ R S w es x) ∧ rAll sz R S w r l
  | _, _ => False
theorem rAll_len {α : Type} {sz : Nat} {R : Rep α} {S : Nat → Prop} {w : World} : ∀ {ess : List (List Value)} {l : List α}, rAll sz R S w ess l → ess.length = l.length
  | [], [], _ => rfl
  | es :: r, x :: l, h => by simpa using rAll_len h.2
theorem rAll_size {α : Type} {sz : Nat} {R : Rep α} {S : Nat → Prop} {w : World} : ∀ {ess : List (List Value)} {l : List α}, rAll sz R S w ess l → ∀ es ∈ ess, es.length = sz
  | [], [], _, es, h => by simp at h
  | es :: r, x :: l, h, e, he => by
    rcases List.mem_cons.1 he with rfl | he
    · exact h.1.1
    · exact rAll_size h.2 e he
theorem rAll_get {α : Type} {sz : Nat} {R : Rep α} {S : Nat → Prop} {w : World} : ∀ {ess : List (List Value)} {l : List α}, rAll sz R S w ess l → ∀ i (h : i < l.length) (h' : i < ess.length), R S w ess[i] l[i]
  | [], [], _, i, h, _ => by simp at h
  | es :: r, x :: l, h, 0, _, _ => h.1.2
  | es :: r, x :: l, h, i + 1, hi, hi' => by simpa using rAll_get h.2 i (by simpa using hi) (by simpa using hi')
/-- A literal's reading, element by element. -/
theorem rSlice_all {α : Type} {sz : Nat} {R : Rep α} {S : Nat → Prop} {w : World} {b : Nat} {t : TypeId} {fr : Nat × Nat} {l : List α} (ess : List (List Value)) (hS : S b) (hm : l.length ≤ maxLen)
    (hc : w.heap[b]? = some (.cells ess.flatten.toArray t fr)) (hR : rAll sz R S w ess l) : rSlice sz R S w [.slice (some ⟨b, 0, none⟩) l.length l.length] l :=
  rSlice_lit sz R S w b t fr l ess (rAll_len hR) (rAll_size hR) hS hm hc (fun i hi => rAll_get hR i hi (by rw [rAll_len hR]; exact hi))
theorem lit_all : ∀ {S : Nat → Prop} {w : World} {l : List Int}, (∀ x ∈ l, InI x) → rAll 1 rInt S w (l.map fun x => [.int .i64 x]) l
  | _, _, [], _ => trivial
  | _, _, x :: l, h => ⟨⟨rfl, rfl, h x (by simp)⟩, lit_all (fun y hy => h y (by simp [hy]))⟩
/-- A literal of numbers. -/
theorem rInts_all {S : Nat → Prop} {w : World} {b : Nat} {t : TypeId} {fr : Nat × Nat} (l : List Int) (hS : S b) (hm : l.length ≤ maxLen) (hI : ∀ x ∈ l, InI x)
    (hc : w.heap[b]? = some (.cells ((l.map fun x => [Value.int .i64 x]).flatten.toArray) t fr)) : rInts S w [.slice (some ⟨b, 0, none⟩) l.length l.length] l :=
  rSlice_all _ hS hm hc (lit_all hI)
theorem lit_instr {S : Nat → Prop} {w : World} {op n : Int} {s : ByteArray} {v1 v2 v5 : Value} {ds as' tt : List Int} (hop : InI op) (hn : InI n) (hs : s.size ≤ maxLen) (h1 : rInts S w [v1] ds) (h2 : rInts S w [v2] as') (h5 : rInts S w [v5] tt) :
    rInstr S w [.int .i64 op, v1, v2, .int .i64 n, .string s, v5] ⟨op, ds, as', n, s, tt⟩ := ⟨_, _, _, rfl, ⟨hop, hn, hs⟩, h1, h2, h5⟩
theorem lit_code {S : Nat → Prop} {w : World} {name : ByteArray} {p r v s : Int} {v5 : Value} {bs : List (List PInstr)} (hn : name.size ≤ maxLen) (hp : InI p) (hr : InI r) (hv : InI v) (hs : InI s) (h5 : rBlocks S w [v5] bs) :
    rCode S w [.string name, .int .i64 p, .int .i64 r, .int .i64 v, .int .i64 s, v5] ⟨name, p, r, v, s, bs⟩ := ⟨_, rfl, ⟨hn, hp, hr, hv, hs⟩, h5⟩
theorem lit_prog {S : Nat → Prop} {w : World} {v0 v1 : Value} {fs : List PCode} {ds : List Int} (h0 : rCodes S w [v0] fs) (h1 : rInts S w [v1] ds) : rProg S w [v0, v1] ⟨fs, ds⟩ := ⟨_, _, rfl, h0, h1⟩
theorem lens {α : Type} {l : List α} (h : Nat.ble l.length 1000 = true) : l.length ≤ maxLen := Nat.le_trans (Nat.le_of_ble_eq_true h) (by decide)
theorem ini {n : Int} (h : (decide (-9223372036854775808 ≤ n) && decide (n ≤ 9223372036854775807)) = true) : InI n := by simpa [InI] using h
theorem inis {l : List Int} (h : (l.all fun n => decide (-9223372036854775808 ≤ n) && decide (n ≤ 9223372036854775807)) = true) : ∀ x ∈ l, InI x := fun x hx => ini (List.all_eq_true.1 h x hx)

theorem allocs_get : ∀ (os : List Obj) (w : World) (k : Nat), k < os.length → (os.foldl World.alloc w).heap[w.heap.size + k]? = os[k]?
  | [], w, k, h => by simp at h
  | o :: r, w, 0, h => by
    show (r.foldl World.alloc (w.alloc o)).heap[w.heap.size + 0]? = some o
    have : ∀ (r : List Obj) (w' : World), w.heap.size < w'.heap.size → w'.heap[w.heap.size]? = some o → (r.foldl World.alloc w').heap[w.heap.size]? = some o := by
      intro r
      induction r with
      | nil => intro w' _ h; exact h
      | cons x r ih => intro w' hl h; exact ih _ (by simp; omega) ((Below.heap_alloc _ _ _ hl).trans h)
    exact this r _ (by simp) (heap_alloc_new w o)
  | o :: r, w, k + 1, h => by
    have := allocs_get r (w.alloc o) k (by simpa using h)
    rw [show (w.alloc o).heap.size = w.heap.size + 1 by simp] at this
    rw [show w.heap.size + (k + 1) = w.heap.size + 1 + k by omega]
    exact this
theorem allocs_below : ∀ (os : List Obj) (w : World) (n : Nat), n ≤ w.heap.size → Below n w (os.foldl World.alloc w)
  | [], w, n, h => Below.refl _ _
  | o :: r, w, n, h => ((Below.refl n w).alloc h o).trans (allocs_below r (w.alloc o) n (by simp; omega))
end Go.Pst

namespace Go.Pst
open Go.RowKit
set_option linter.unusedVariables false
set_option linter.unusedSimpArgs false

theorem rAll_keep {α : Type} {sz : Nat} {R : Rep α} [g : Good R] {S S' : Nat → Prop} {w w' : World} (hk : Keep S w w') (hs : ∀ k, k < w.heap.size → S k → S' k) : ∀ {ess : List (List Value)} {l : List α}, rAll sz R S w ess l → rAll sz R S' w' ess l
  | [], [], _ => trivial
  | _ :: _, _ :: _, h => ⟨⟨h.1.1, g.keep hk hs h.1.2⟩, rAll_keep hk hs h.2⟩
theorem rAll_snoc {α : Type} {sz : Nat} {R : Rep α} {S : Nat → Prop} {w : World} {es : List Value} {x : α} (h1 : es.length = sz) (h2 : R S w es x) : ∀ {ess : List (List Value)} {l : List α}, rAll sz R S w ess l → rAll sz R S w (ess ++ [es]) (l ++ [x])
  | [], [], _ => ⟨⟨h1, h2⟩, trivial⟩
  | _ :: _, _ :: _, h => ⟨h.1, rAll_snoc h1 h2 h.2⟩
theorem rSlice_ownN {α : Type} {sz : Nat} {R : Rep α} {S T : Nat → Prop} {w : World} {base : Nat} {e : TypeId} {v : Value} {l : List α} {ess : List (List Value)} (h : w.ownsRow base e sz v l.length ess.flatten) (hS : ∀ k, v.ownBlock = some k → S k) (hR : rAll sz R S w ess l) : rSlice sz R S w [v] l := by
  obtain ⟨hx, h⟩ := h
  rcases h with ⟨rfl, h0⟩ | ⟨g, cap, cur, rfl, hb, hg, hn, hm, hc, ht⟩
  · have : l = [] := List.eq_nil_of_length_eq_zero h0
    subst this
    exact rSlice_nil _ _ _ _
  · have hl := rAll_len hR
    refine ⟨_, cap, rfl, hn, hm, fun i hi => ⟨g, 0, ess[i]'(by omega), rfl, hS g (by simp [Value.ownBlock]), (Array.getElem?_eq_some_iff.1 hg).1, rAll_size hR _ (List.getElem_mem _), fun j hj => ?_, rAll_get hR i hi (by omega)⟩⟩
    rw [← flat_get ess i j (by omega) (rAll_size hR) hj, ← ht, List.getElem?_take, if_pos (by
      have : (i + 1) * sz ≤ l.length * sz := Nat.mul_le_mul_right _ hi
      rw [Nat.succ_mul] at this
      omega)]
    simp [World.cell?, hg]
end Go.Pst

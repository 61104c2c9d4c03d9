/-
  ssa.Back in memory: rows of what Phis set and ask; code whose rows are put anew; 'append(append(l[:n-1:n-1], moves...), end)'.
-/
import Derived.Test.YthgfdcoicihpdaaDoorBackT
import Derived.Test.YthgfdcoicihpdaaDoorPar
import Derived.Test.YthgfdcoicihpdaaDoorLitOwn
import Derived.Test.YthgfdcoicihpdaaDoorBare
import Derived.ArgAppend
namespace Go.Proofs.YthgfdcoicihpdaaDoor
open Go.RowKit Go.Pst
set_option linter.unusedVariables false
set_option linter.unusedSimpArgs false

/-- A list in memory, its elements' cells in one row. -/
theorem rAll_of {α : Type} {sz : Nat} {R : Rep α} {S : Nat → Prop} {w : World} : ∀ {l : List α} {ess : List (List Value)}, ess.length = l.length → (∀ i (h : i < l.length) (h' : i < ess.length), ess[i].length = sz ∧ R S w ess[i] l[i]) → rAll sz R S w ess l
  | [], [], _, _ => trivial
  | [], _ :: _, h, _ => by simp at h
  | _ :: _, [], h, _ => by simp at h
  | x :: l, es :: r, h, hR => ⟨hR 0 (by simp) (by simp), rAll_of (by simpa using h) (fun i h1 h2 => hR (i + 1) (by simpa using h1) (by simpa using h2))⟩
theorem rAll_app {α : Type} {sz : Nat} {R : Rep α} {S : Nat → Prop} {w : World} : ∀ {e1 e2 : List (List Value)} {l1 l2 : List α}, rAll sz R S w e1 l1 → rAll sz R S w e2 l2 → rAll sz R S w (e1 ++ e2) (l1 ++ l2)
  | [], _, [], _, _, h => h
  | _ :: _, _, _ :: _, _, h1, h2 => ⟨h1.1, rAll_app h1.2 h2⟩
theorem rAll_take {α : Type} {sz : Nat} {R : Rep α} {S : Nat → Prop} {w : World} : ∀ {e : List (List Value)} {l : List α} (n : Nat), rAll sz R S w e l → rAll sz R S w (e.take n) (l.take n)
  | [], [], n, _ => by simp; trivial
  | _ :: _, _ :: _, 0, _ => trivial
  | _ :: _, _ :: _, n + 1, h => ⟨h.1, rAll_take n h.2⟩
theorem flat_len {sz : Nat} : ∀ {ess : List (List Value)}, (∀ es ∈ ess, es.length = sz) → ess.flatten.length = ess.length * sz
  | [], _ => by simp
  | es :: r, h => by
    rw [List.flatten_cons, List.length_append, h es (by simp), flat_len (fun x hx => h x (by simp [hx])), List.length_cons, Nat.succ_mul]
    omega
theorem rSlice_ess {α : Type} {sz : Nat} (hsz : 0 < sz) {R : Rep α} {S : Nat → Prop} {w : World} {v : Value} {l : List α} (h : rSlice sz R S w [v] l) (hl : 0 < l.length) :
    ∃ b off cap ess, v = .slice (some ⟨b, off, none⟩) l.length cap ∧ l.length ≤ cap ∧ cap ≤ maxLen ∧ S b ∧ b < w.heap.size ∧ rAll sz R S w ess l ∧ ∀ j u, ess.flatten[j]? = some u → w.cell? ⟨b, off + j, none⟩ = some u := by
  obtain ⟨a, cap, rfl, h2, h3, h4⟩ := rSlice_val h
  obtain ⟨b, off, es0, rfl, hS, hb, -⟩ := h4 0 hl
  obtain ⟨ess, he1, he2⟩ := list_of_lt (n := l.length) (p := fun i es => es.length = sz ∧ (∀ j, j < sz → w.cell? ⟨b, off + i * sz + j, none⟩ = es[j]?) ∧ ∃ x, l[i]? = some x ∧ R S w es x) (fun i hi => by
    obtain ⟨b', off', es, e, -, -, h5, h6, h7⟩ := h4 i hi
    simp only [Option.some.injEq, Addr.mk.injEq, and_true] at e
    obtain ⟨rfl, rfl⟩ := e
    exact ⟨es, h5, h6, _, List.getElem?_eq_getElem hi, h7⟩)
  have hall : rAll sz R S w ess l := rAll_of he1 (fun i h1 h2 => by
    obtain ⟨g1, -, x, g2, g3⟩ := he2 i h2
    rw [List.getElem?_eq_getElem h1] at g2
    injection g2 with g2
    subst g2
    exact ⟨g1, g3⟩)
  refine ⟨b, off, cap, ess, rfl, h2, h3, hS, hb, hall, fun j u hj => ?_⟩
  have hfl := flat_len (sz := sz) (fun es hes => rAll_size hall es hes)
  have hjl : j < ess.length * sz := by rw [← hfl]; exact (List.getElem?_eq_some_iff.1 hj).1
  have hq : j / sz < ess.length := Nat.div_lt_of_lt_mul (by rw [Nat.mul_comm]; exact hjl)
  have hm : j % sz < sz := Nat.mod_lt _ hsz
  have hdm : j / sz * sz + j % sz = j := by rw [Nat.mul_comm]; exact Nat.div_add_mod j sz
  have h5 := flat_get ess (j / sz) (j % sz) hq (fun es hes => rAll_size hall es hes) hm
  obtain ⟨-, g2, -⟩ := he2 (j / sz) hq
  rw [hdm, hj] at h5
  have h6 := g2 (j % sz) hm
  rw [← h5, Nat.add_assoc, hdm] at h6
  exact h6

/-! ### What Phis set, and ask -/
structure BkD (w0 : World) (vd va : Value) (xs ys : List Int) (wr : World) : Prop where
  d : wr.ownsRow w0.heap.size 3 1 vd xs.length (xs.map (Value.int .i64))
  a : wr.ownsRow w0.heap.size 3 1 va ys.length (ys.map (Value.int .i64))
  ne : ∀ k, vd.ownBlock = some k → va.ownBlock ≠ some k
  bel : Below w0.heap.size w0 wr
section
variable {w0 wr w' : World} {vd va : Value} {xs ys : List Int}
theorem BkD.start (w0 : World) : BkD w0 (.slice none 0 0) (.slice none 0 0) [] [] w0 :=
  ⟨World.ownsRow_nil _ _ _ _, World.ownsRow_nil _ _ _ _, fun k h => by simp [Value.ownBlock] at h, Below.refl _ _⟩
theorem BkD.below (h : BkD w0 vd va xs ys wr) (hb : Below wr.heap.size wr w') : BkD w0 vd va xs ys w' :=
  ⟨ownsRow_block h.d (fun k hk => hb.block k (h.d.lt k hk).2), ownsRow_block h.a (fun k hk => hb.block k (h.a.lt k hk).2), h.ne, h.bel.trans (hb.mono h.bel.size)⟩
theorem BkD.appD {g cap : Nat} {x : Int} (h : BkD w0 vd va xs ys wr) (hown : w'.ownsRow w0.heap.size 3 1 (.slice (some ⟨g, 0, none⟩) (xs.length + 1) cap) (xs.length + 1) (xs.map (Value.int .i64) ++ [.int .i64 x])) (hg : wr.grownBy w' vd.ownBlock) (hat : vd.ownBlock = some g ∨ g = wr.heap.size) :
    BkD w0 (.slice (some ⟨g, 0, none⟩) (xs.length + 1) cap) va (xs ++ [x]) ys w' := by
  refine ⟨by simpa using hown, ownsRow_block h.a (fun k hk => hg.block k (h.a.lt k hk).2 (fun e => h.ne k e.symm hk)), fun k hk e => ?_, h.bel.grown hg h.bel.size (fun k hk => (h.d.lt k hk).1)⟩
  have hgk : g = k := by simpa [Value.ownBlock] using hk
  subst hgk
  rcases hat with e1 | e1
  · exact h.ne g e1 e
  · have := (h.a.lt g e).2
    omega
theorem BkD.keepD (h : BkD w0 vd va xs ys wr) (hg : wr.grownBy w' vd.ownBlock) {b o : Nat} {v : Value} (hb : b < w0.heap.size ∨ (b < wr.heap.size ∧ vd.ownBlock ≠ some b)) (hc : wr.cell? ⟨b, o, none⟩ = some v) : w'.cell? ⟨b, o, none⟩ = some v := by
  refine (World.cell?_of_block (a := ⟨b, o, none⟩) (hg.block b ?_ (fun e => ?_))).trans hc
  · have := h.bel.size
    omega
  · rcases hb with e1 | e1
    · have := (h.d.lt b e.symm).1
      omega
    · exact e1.2 e.symm
theorem held2 {a b : Nat} {A B : World → Prop} {l : Array Bool} {w : World} (h1 : l.getD a true = false → A w) (h2 : l.getD b true = false → B w) : Held [(a, A), (b, B)] l w := by
  intro p hp hl
  simp only [List.mem_cons, List.not_mem_nil, or_false] at hp
  rcases hp with rfl | rfl
  · exact h1 hl
  · exact h2 hl
theorem BkD.appA {g cap : Nat} {x : Int} (h : BkD w0 vd va xs ys wr) (hown : w'.ownsRow w0.heap.size 3 1 (.slice (some ⟨g, 0, none⟩) (ys.length + 1) cap) (ys.length + 1) (ys.map (Value.int .i64) ++ [.int .i64 x])) (hg : wr.grownBy w' va.ownBlock) (hat : va.ownBlock = some g ∨ g = wr.heap.size) :
    BkD w0 vd (.slice (some ⟨g, 0, none⟩) (ys.length + 1) cap) xs (ys ++ [x]) w' := by
  refine ⟨ownsRow_block h.d (fun k hk => hg.block k (h.d.lt k hk).2 (fun e => h.ne k hk e.symm)), by simpa using hown, fun k hk e => ?_, h.bel.grown hg h.bel.size (fun k hk => (h.a.lt k hk).1)⟩
  have hgk : g = k := by simpa [Value.ownBlock] using e
  subst hgk
  rcases hat with e1 | e1
  · exact h.ne g hk e1
  · have := (h.d.lt g hk).2
    omega
end

theorem phi_cells {S : Nat → Prop} {w : World} {x : PInstr} {v1 v2 : Value} {n : Nat} {vars : Int} (r1 : rInts S w [v1] x.ds) (r2 : rInts S w [v2] x.ars) (h1 : x.ds.length = 1) (hn : n < x.ars.length) (i1 : inAll x.ds vars = true) (i2 : inAll x.ars vars = true) :
    ∃ b1 o1 c1 d b2 o2 l2 c2 a, v1 = .slice (some ⟨b1, o1, none⟩) 1 c1 ∧ b1 < w.heap.size ∧ w.cell? ⟨b1, o1, none⟩ = some (.int .i64 d) ∧ (0 ≤ d ∧ d < vars) ∧ v2 = .slice (some ⟨b2, o2, none⟩) l2 c2 ∧ n < l2 ∧ l2 ≤ 9223372036854775807 ∧ b2 < w.heap.size ∧ w.cell? ⟨b2, o2 + n, none⟩ = some (.int .i64 a) ∧ (0 ≤ a ∧ a < vars) := by
  obtain ⟨a1, c1, e1, -, -, f1⟩ := rInts_val r1
  obtain ⟨a2, c2, e2, g1, g2, f2⟩ := rInts_val r2
  obtain ⟨b1, o1, rfl, -, hb1, hc1, -⟩ := f1 0 (by omega)
  obtain ⟨b2, o2, rfl, -, hb2, hc2, -⟩ := f2 n hn
  unfold maxLen at g2
  exact ⟨b1, o1, c1, _, b2, o2, _, c2, _, by rw [e1, h1], hb1, hc1, inAll_mem i1 (List.getElem_mem _), e2, hn, by omega, hb2, hc2, inAll_mem i2 (List.getElem_mem _)⟩
/-- What stays while rows between blocks wb.heap.size and wr.heap.size are turned. -/
def BkK (wb wr W w' : World) : Prop := W.heap.size ≤ w'.heap.size ∧ ∀ b, b < W.heap.size → (b < wb.heap.size ∨ wr.heap.size ≤ b) → w'.heap[b]? = W.heap[b]?
theorem BkK.of_below {wb wr W w' : World} (h : Below W.heap.size W w') : BkK wb wr W w' := ⟨h.size, fun b hb _ => h.block b hb⟩
theorem BkK.of_grown {wb wr W w' : World} {v : Value} (h : W.grownBy w' v.ownBlock) (hv : ∀ k, v.ownBlock = some k → wb.heap.size ≤ k ∧ k < wr.heap.size) : BkK wb wr W w' :=
  ⟨h.size, fun b hb hc => h.block b hb (fun e => by have := hv b e.symm; omega)⟩
/-- A Phi in the box at wr.heap.size, what it sets, what it asks. -/
structure BkL (wb wr : World) (n b1 o1 c1 : Nat) (dv : Int) (b2 o2 l2 c2 : Nat) (av : Int) (W : World) : Prop where
  x1 : W.cell? ⟨wr.heap.size, 1, none⟩ = some (.slice (some ⟨b1, o1, none⟩) 1 c1)
  y1 : W.cell? ⟨b1, o1, none⟩ = some (.int .i64 dv)
  x2 : W.cell? ⟨wr.heap.size, 2, none⟩ = some (.slice (some ⟨b2, o2, none⟩) l2 c2)
  y2 : W.cell? ⟨b2, o2 + n, none⟩ = some (.int .i64 av)
  z : wr.heap.size < W.heap.size
  l1 : b1 < wb.heap.size
  l2_ : b2 < wb.heap.size
  l0 : wb.heap.size ≤ wr.heap.size
theorem BkL.step {wb wr W w' : World} {n b1 o1 c1 b2 o2 l2 c2 : Nat} {dv av : Int} (h : BkL wb wr n b1 o1 c1 dv b2 o2 l2 c2 av W) (k : BkK wb wr W w') : BkL wb wr n b1 o1 c1 dv b2 o2 l2 c2 av w' := by
  obtain ⟨x1, y1, x2, y2, z, l1, l2', l0⟩ := h
  have cell : ∀ {b o : Nat} {v : Value}, b < W.heap.size → (b < wb.heap.size ∨ wr.heap.size ≤ b) → W.cell? ⟨b, o, none⟩ = some v → w'.cell? ⟨b, o, none⟩ = some v := fun {b o v} hb hc e => (World.cell?_of_block (a := ⟨b, o, none⟩) (k.2 b hb hc)).trans e
  have := k.1
  exact ⟨cell z (Or.inr (Nat.le_refl _)) x1, cell (by omega) (Or.inl l1) y1, cell z (Or.inr (Nat.le_refl _)) x2, cell (by omega) (Or.inl l2') y2, by omega, l1, l2', l0⟩
/-! ### The code -/
theorem RowM.readsS {lab : Nat → Nat} {w : World} {i : Nat} {v : Value} {b : List PInstr} {S : Nat → Prop} (h : RowM lab w i v b) (hS : ∀ k, k < w.heap.size → (lab k = 0 ∨ lab k = 2 * i + 2 ∨ lab k = 2 * i + 3) → S k) : rBlock S w [v] b := by
  obtain ⟨r, cap, h1, h2, h3, h4, h5, h6, h7⟩ := h
  refine ⟨some ⟨r, 0, none⟩, cap, by rw [h1], h2, h3, fun k hk => ?_⟩
  obtain ⟨v1, v2, v5, c0, c1, c2, c3, c4, c5, hI, r1, r2, r5⟩ := h7 k hk
  refine ⟨r, 0, [.int .i64 b[k].op, v1, v2, .int .i64 b[k].n, .string b[k].s, v5], rfl, hS r h5 (Or.inr (Or.inl h4)), h5, rfl, fun j hj => ?_, v1, v2, v5, rfl, hI, Good.wide (R := rInts) r1 (fun k hk e => hS k hk (Or.inl e)), Good.wide (R := rInts) r2 (fun k hk e => hS k hk (Or.inl e)), Good.wide (R := rInts) r5 (fun k hk e => hS k hk (Or.inr (Or.inr e.1)))⟩
  rw [Nat.zero_add]
  rcases (show j = 0 ∨ j = 1 ∨ j = 2 ∨ j = 3 ∨ j = 4 ∨ j = 5 by omega) with rfl | rfl | rfl | rfl | rfl | rfl
  · exact c0
  · exact c1
  · exact c2
  · exact c3
  · exact c4
  · exact c5
/-- The code while its rows are put anew: box of c: w.heap.size + 1, box of the result: w.heap.size + 2; the outer row is vO. -/
structure BkM (w : World) (c : PCode) (lo : Nat) (vO : Value) (vs : Nat → Value) (vars : Int) (Y : List (List PInstr)) (wr : World) : Prop where
  bC : wr.heap[w.heap.size + 1]? = some (.cells #[.string c.name, .int .i64 c.params, .int .i64 c.results, .int .i64 vars, .int .i64 c.slots, vO] 28)
  bR : wr.heap[w.heap.size + 2]? = some (.cells #[.string ⟨#[]⟩, .int .i64 0, .int .i64 0, .int .i64 0, .int .i64 0, .slice none 0 0] 28)
  own : wr.ownsRow lo 38 1 vO Y.length ((List.range Y.length).map vs)
  rows : ∀ i (h : i < Y.length), rBlock (fun k => lo ≤ k ∧ vO.ownBlock ≠ some k) wr [vs i] Y[i]
  low : w.heap.size + 3 ≤ lo
  lo_ : lo ≤ wr.heap.size
  bel : Below w.heap.size w wr
section
variable {w wr w' : World} {c : PCode} {lo : Nat} {vO : Value} {vs : Nat → Value} {vars : Int} {Y : List (List PInstr)}
theorem BkM.start {lab : Nat → Nat} (h : CodeM lab wr lo vO vs Y) (hlow : ∀ k, k < lo → lab k = lowL) (h1 : wr.heap[w.heap.size + 1]? = some (.cells #[.string c.name, .int .i64 c.params, .int .i64 c.results, .int .i64 vars, .int .i64 c.slots, vO] 28))
    (h2 : wr.heap[w.heap.size + 2]? = some (.cells #[.string ⟨#[]⟩, .int .i64 0, .int .i64 0, .int .i64 0, .int .i64 0, .slice none 0 0] 28)) (h3 : w.heap.size + 3 ≤ lo) (hb : Below w.heap.size w wr) : BkM w c lo vO vs vars Y wr := by
  have hlen := h.len
  refine ⟨h1, h2, h.own, fun i hi => (h.rows i hi).readsS (fun k _ hk => ⟨?_, fun e => ?_⟩), h3, h.lo, hb⟩
  · rcases Nat.lt_or_ge k lo with e | e
    · have := hlow k e
      unfold lowL at this
      omega
    · exact e
  · have := h.lab1 k e
    omega
theorem BkM.below (h : BkM w c lo vO vs vars Y wr) (hb : Below wr.heap.size wr w') : BkM w c lo vO vs vars Y w' :=
  ⟨(hb.block _ (Array.getElem?_eq_some_iff.1 h.bC).1).trans h.bC, (hb.block _ (Array.getElem?_eq_some_iff.1 h.bR).1).trans h.bR, ownsRow_block h.own (fun k hk => hb.block k (h.own.lt k hk).2), fun i hi => Good.kept (Keep.of_below' hb (fun k hk _ => hk)) (h.rows i hi), h.low, Nat.le_trans h.lo_ hb.size, h.bel.trans (hb.mono h.bel.size)⟩
theorem BkM.setVars (h : BkM w c lo vO vs vars Y wr) (n : Int) : BkM w c lo vO vs n Y (wr.setCell ⟨w.heap.size + 1, 3, none⟩ (.int .i64 n)) := by
  have e := heap_setCell_same wr (w.heap.size + 1) 3 _ _ (.int .i64 n) h.bC
  have blk : ∀ m, m ≠ w.heap.size + 1 → (wr.setCell ⟨w.heap.size + 1, 3, none⟩ (.int .i64 n)).heap[m]? = wr.heap[m]? := fun m hm => Below.heap_setCell _ _ _ _ hm
  have hl := h.low
  exact ⟨e, (blk _ (by omega)).trans h.bR, ownsRow_block h.own (fun k hk => blk k (by have := (h.own.lt k hk).1; omega)), fun i hi => Good.kept (S := fun k => lo ≤ k ∧ vO.ownBlock ≠ some k) ⟨by simp, fun k _ hk => blk k (by have := hk.1; omega)⟩ (h.rows i hi), h.low, by simpa using h.lo_, h.bel.setCell (p := ⟨w.heap.size + 1, 3, none⟩) (by show w.heap.size ≤ w.heap.size + 1; omega) _⟩
theorem BkM.set {g n cap q : Nat} {v' : Value} {b' : List PInstr} (h : BkM w c lo (.slice (some ⟨g, 0, none⟩) n cap) vs vars Y wr) (hq : q < Y.length) (hr : rBlock (fun k => lo ≤ k ∧ (Value.slice (some ⟨g, 0, none⟩) n cap).ownBlock ≠ some k) wr [v'] b') :
    BkM w c lo (.slice (some ⟨g, 0, none⟩) n cap) (upd vs q v') vars (Y.set q b') (wr.setCell ⟨g, q, none⟩ v') := by
  have hgo : (Value.slice (some ⟨g, 0, none⟩) n cap).ownBlock = some g := rfl
  have hg := h.own.lt g hgo
  have hl := h.low
  have blk : ∀ m, m ≠ g → (wr.setCell ⟨g, q, none⟩ v').heap[m]? = wr.heap[m]? := fun m hm => Below.heap_setCell _ _ _ _ hm
  have K : Keep (fun k => lo ≤ k ∧ (Value.slice (some ⟨g, 0, none⟩) n cap).ownBlock ≠ some k) wr (wr.setCell ⟨g, q, none⟩ v') := ⟨by simp, fun k _ hk => blk k (fun e => hk.2 (by rw [e]; rfl))⟩
  have hn : n = Y.length := by
    obtain ⟨a', cap', e, -⟩ := row_slice h.own
    injection e
  refine ⟨(blk _ (by omega)).trans h.bC, (blk _ (by omega)).trans h.bR, ?_, fun i hi => ?_, h.low, by simpa using h.lo_, h.bel.setCell (p := ⟨g, q, none⟩) (by show w.heap.size ≤ g; omega) _⟩
  · have hs := row_set (w := wr) (base := lo) (n := Y.length) (e := 38) (g := g) (cap := cap) (xs := (List.range Y.length).map vs) (by have := h.own; rw [hn] at this; exact this) hq v'
    rw [List.length_set, hn]
    have e : (List.range Y.length).map (upd vs q v') = ((List.range Y.length).map vs).set q v' := by
      refine List.ext_getElem (by simp) fun k k1 k2 => ?_
      rw [List.getElem_set, List.getElem_map, List.getElem_range, List.getElem_map, List.getElem_range]
      by_cases e : q = k
      · subst e; rw [if_pos rfl, upd_same]
      · rw [if_neg e, upd_other _ _ (fun e' => e e'.symm)]
    rw [e]
    exact hs
  · rw [List.length_set] at hi
    by_cases e : q = i
    · subst e
      rw [upd_same]
      simp only [List.getElem_set_self]
      exact Good.kept K hr
    · rw [upd_other _ _ (fun e' => e e'.symm)]
      simp only [List.getElem_set_ne e]
      exact Good.kept K (h.rows i hi)
end

/-! ### A row put anew -/
theorem flat_take {ess : List (List Value)} {n j : Nat} {u : Value} (h : (ess.take n).flatten[j]? = some u) : ess.flatten[j]? = some u := by
  have e : ess.flatten = (ess.take n).flatten ++ (ess.drop n).flatten := by rw [← List.flatten_append, List.take_append_drop]
  rw [e, List.getElem?_append_left (List.getElem?_eq_some_iff.1 h).1]
  exact h
theorem ess_last {S : Nat → Prop} {w : World} {b off n : Nat} {l : List PInstr} {ess : List (List Value)} (hl : l.length = n + 1) (hA : rAll 6 rInstr S w ess l) (hc : ∀ j u, ess.flatten[j]? = some u → w.cell? ⟨b, off + j, none⟩ = some u) :
    ∃ (x : PInstr) (a1 a2 a5 : Option Addr) (n1 c1 n2 c2 n5 c5 : Nat), ess[n]? = some [.int .i64 x.op, .slice a1 n1 c1, .slice a2 n2 c2, .int .i64 x.n, .string x.s, .slice a5 n5 c5] ∧ w.cell? ⟨b, off + n * 6, none⟩ = some (.int .i64 x.op) ∧ w.cell? ⟨b, off + n * 6 + 1, none⟩ = some (.slice a1 n1 c1) ∧ w.cell? ⟨b, off + n * 6 + 2, none⟩ = some (.slice a2 n2 c2) ∧
      w.cell? ⟨b, off + n * 6 + 3, none⟩ = some (.int .i64 x.n) ∧ w.cell? ⟨b, off + n * 6 + 4, none⟩ = some (.string x.s) ∧ w.cell? ⟨b, off + n * 6 + 5, none⟩ = some (.slice a5 n5 c5) := by
  have hel := rAll_len hA
  have hn : n < ess.length := by omega
  obtain ⟨v1, v2, v5, he, -, r1, r2, r5⟩ := rAll_get hA n (by omega) hn
  obtain ⟨a1, c1, rfl⟩ := rSlice_shape r1
  obtain ⟨a2, c2, rfl⟩ := rSlice_shape r2
  obtain ⟨a5, c5, rfl⟩ := rSlice_shape r5
  have cell : ∀ j u, j < 6 → ess[n][j]? = some u → w.cell? ⟨b, off + n * 6 + j, none⟩ = some u := fun j u hj hu => by
    have h1 := flat_get ess n j hn (rAll_size hA) hj
    rw [hu] at h1
    have := hc _ _ h1
    rw [Nat.add_assoc]
    exact this
  refine ⟨l[n], a1, a2, a5, _, c1, _, c2, _, c5, by rw [List.getElem?_eq_getElem hn, he], ?_, cell 1 _ (by decide) (by rw [he]; rfl), cell 2 _ (by decide) (by rw [he]; rfl), cell 3 _ (by decide) (by rw [he]; rfl), cell 4 _ (by decide) (by rw [he]; rfl), cell 5 _ (by decide) (by rw [he]; rfl)⟩
  exact cell 0 _ (by decide) (by rw [he]; rfl)
theorem ess_any {S : Nat → Prop} {w : World} {v : Value} {l : List PInstr} (h : rBlock S w [v] l) : ∃ a cap ess, v = .slice a l.length cap ∧ rAll 6 rInstr S w ess l ∧ ess.flatten.length = l.length * 6 ∧ (0 < l.length → ∃ r : Addr, a = some r ∧ r.block < w.heap.size ∧ ∀ j u, ess.flatten[j]? = some u → w.cell? (r.add j) = some u) := by
  by_cases hl : 0 < l.length
  · obtain ⟨b, off, cap, ess, e, -, -, -, hb, hall, hc⟩ := rSlice_ess (by decide) h hl
    refine ⟨_, cap, ess, e, hall, by rw [flat_len (rAll_size hall), rAll_len hall], fun _ => ⟨⟨b, off, none⟩, rfl, hb, fun j u hj => ?_⟩⟩
    rw [Addr.add_lit]
    exact hc j u hj
  · obtain rfl : l = [] := List.eq_nil_of_length_eq_zero (by omega)
    obtain ⟨a, cap, e⟩ := rSlice_shape h
    exact ⟨a, cap, [], e, trivial, by simp, fun h => by simp at h⟩
theorem newRow {S : Nat → Prop} {w' : World} {base n m : Nat} {v' : Value} {l out : List PInstr} {ess essM : List (List Value)} {fin : List Value} (hl : l.length = n + 1) (hm : out.length = m) (hown : w'.ownsRow base 41 6 v' (n + m + 1) ((ess.take n).flatten ++ essM.flatten ++ fin)) (hS : ∀ k, v'.ownBlock = some k → S k)
    (h1 : rAll 6 rInstr S w' ess l) (h2 : rAll 6 rInstr S w' essM out) (h3 : ess[n]? = some fin) : rBlock S w' [v'] (l.dropLast ++ out ++ [l.getLastD (jumpI 0)]) := by
  have hel := rAll_len h1
  have hn : n < ess.length := by omega
  have hn2 : n < l.length := by omega
  have e1 : l.dropLast = l.take n := by rw [List.dropLast_eq_take, hl]; rfl
  have e2 : l.getLastD (jumpI 0) = l[n] := by
    rw [getLastD_at (by omega)]
    congr 1
    omega
  have e3 : fin = ess[n] := by
    rw [List.getElem?_eq_getElem hn] at h3
    injection h3 with h3
    exact h3.symm
  have h4 : rAll 6 rInstr S w' [fin] [l[n]] := ⟨⟨by rw [e3]; exact rAll_size h1 _ (List.getElem_mem hn), by rw [e3]; exact rAll_get h1 n hn2 hn⟩, trivial⟩
  rw [e1, e2]
  have hlen : (l.take n ++ out ++ [l[n]]).length = n + m + 1 := by simp; omega
  refine rSlice_ownN (T := fun _ => True) (base := base) (e := 41) (ess := ess.take n ++ essM ++ [fin]) ?_ hS (rAll_app (rAll_app (rAll_take n h1) h2) h4)
  rw [hlen, List.flatten_append, List.flatten_append]
  simpa using hown

/-! ### append(append(l[:n:n], moves...), end) -/
section
variable {P : Program} {ops : Array Oper} {o : Oper} {a : Act} {K : Act → World → Prop} {Q : Exit → Act → World → Prop} {E : Prop} {w : World}
theorem run_append_zero (t ty e : TypeId) (i : TypeInfo) (ht : P.underlying t = some (.slice e)) (hi : P.info? e = some i) (b : Addr) (n : Nat) (ar : Option Addr) (c : Nat) (w : World) :
    (Builtin.append_ #[t, t] ty #[.slice (some b) n n, .slice ar 0 c]).run P w = .ok (.slice (some b) n n) w := by
  cases ar with
  | none => simp [Builtin.append_, run_underlying ht, sizeOf, typeInfo, hi, Builtin.lenOf, Builtin.firstCells, Result.andThen, storeCells]
  | some r => simp [Builtin.append_, run_underlying ht, sizeOf, typeInfo, hi, Builtin.lenOf, Builtin.firstCells, loadCells, loadCellsFrom, Result.andThen, storeCells]
def BkMid (B : Nat) (e : TypeId) (sz : Nat) (ad : Addr) (n m : Nat) (olds news : List Value) (u : Value) (w : World) : Prop :=
  (m = 0 ∧ u = .slice (some ad) n n) ∨ (0 < m ∧ w.ownsRow B e sz u (n + m) (olds ++ news))
theorem BkMid.below {B : Nat} {e : TypeId} {sz : Nat} {ad : Addr} {n m : Nat} {olds news : List Value} {u : Value} {w w' : World} (h : BkMid B e sz ad n m olds news u w) (hb : Below w.heap.size w w') : BkMid B e sz ad n m olds news u w' := by
  rcases h with h | ⟨h1, h2⟩
  · exact Or.inl h
  · exact Or.inr ⟨h1, ownsRow_block h2 (fun k hk => hb.block k (h2.lt k hk).2)⟩
theorem step_append_mid1 (hgd : o.guard = none) (s x : Operand) (t : TypeId) (ho : o.op = .call { callee := .builtin .append, args := #[s, x], argTypes := #[t, t] })
    (B : Nat) (e : TypeId) (i : TypeInfo) (z : Value) (size bytes : Nat) (ht : P.underlying t = some (.slice e)) (hi : P.info? e = some i) (hz : i.zero = some z) (hsize : i.size = size) (hby : i.bytes = bytes) (hzs : z.cells.size = size) (hsz : 0 < size)
    (ad : Addr) (n : Nat) (olds : List Value) (hs : a.eval s = .slice (some ad) n n) (hlo : olds.length = n * size) (holds : ∀ j u, olds[j]? = some u → w.cell? (ad.add j) = some u)
    (ar : Option Addr) (m c : Nat) (news : List Value) (hx : a.eval x = .slice ar m c) (hl : news.length = m * size) (hnews : 0 < m → ∃ r, ar = some r ∧ ∀ j u, news[j]? = some u → w.cell? (r.add j) = some u)
    (h63 : n + m ≤ maxLen) (hbytes : (n + m) * bytes ≤ 140737488355328) (hB : B ≤ w.heap.size)
    (h : ∀ u w', BkMid B e size ad n m olds news u w' → Below w.heap.size w w' → K (a.put o.dst u) w') : if Region.wanted o (yielded ops a.tmps) = true then Oper.wp P o a w K Q else E := by
  have hw : Region.wanted o (yielded ops a.tmps) = true := by simp [Region.wanted, hgd]
  rw [if_pos hw]
  unfold Oper.wp execOp
  rcases Nat.eq_zero_or_pos m with h0 | h0
  · subst h0
    have hr := run_append_zero (P := P) t o.type e i ht hi ad n ar c w
    simp only [ho, resolve, invoke, builtin, Sem.run_bind, Sem.run_pure, Result.andThen_ok, List.map_toArray, List.map_cons, List.map_nil, hs, hx, hr]
    exact h _ _ (Or.inl ⟨rfl, rfl⟩) (Below.refl _ _)
  · obtain ⟨r, rfl, hc⟩ := hnews h0
    obtain ⟨v', w', hr, h2, h3⟩ := run_append_arg_grows (P := P) w t o.type e i z size bytes ht hi hz hsize hby hzs hsz ad n n olds hlo holds r m c news hl hc (by omega) h63 hbytes
    simp only [ho, resolve, invoke, builtin, Sem.run_bind, Sem.run_pure, Result.andThen_ok, List.map_toArray, List.map_cons, List.map_nil, hs, hx, hr]
    exact h _ _ (Or.inr ⟨h0, ownsRow_from h2 hB⟩) ((Below.refl _ _).grown h3 (Nat.le_refl _) (fun k hk => by cases hk))
theorem step_append_mid2 (hgd : o.guard = none) (s x : Operand) (t : TypeId) (ho : o.op = .call { callee := .builtin .append, args := #[s, x], argTypes := #[t, t] })
    (B : Nat) (e : TypeId) (i : TypeInfo) (z : Value) (size bytes : Nat) (ht : P.underlying t = some (.slice e)) (hi : P.info? e = some i) (hz : i.zero = some z) (hsize : i.size = size) (hby : i.bytes = bytes) (hzs : z.cells.size = size) (hsz : 0 < size)
    (ad : Addr) (n m : Nat) (olds news : List Value) (u : Value) (hs : a.eval s = u) (hmid : BkMid B e size ad n m olds news u w) (hlo : olds.length = n * size) (holds : ∀ j u, olds[j]? = some u → w.cell? (ad.add j) = some u) (hl : news.length = m * size)
    (r : Addr) (c : Nat) (fin : List Value) (hx : a.eval x = .slice (some r) 1 c) (hlf : fin.length = size) (hc : ∀ j u, fin[j]? = some u → w.cell? (r.add j) = some u) (h1 : ∀ u ∈ fin, u.oneCell' = true)
    (h63 : n + m + 1 ≤ maxLen) (hbytes : (n + m + 1) * bytes ≤ 140737488355328) (hB : B ≤ w.heap.size)
    (h : ∀ v' w', w'.ownsRow B e size v' (n + m + 1) (olds ++ news ++ fin) → Below B w w' → K (a.put o.dst v') w') : if Region.wanted o (yielded ops a.tmps) = true then Oper.wp P o a w K Q else E := by
  have hw : Region.wanted o (yielded ops a.tmps) = true := by simp [Region.wanted, hgd]
  rw [if_pos hw]
  unfold Oper.wp execOp
  rcases hmid with ⟨rfl, rfl⟩ | ⟨h0, hown⟩
  · obtain rfl : news = [] := List.eq_nil_of_length_eq_zero (by simpa using hl)
    obtain ⟨v', w', hr, h2, h3⟩ := run_append_arg_grows (P := P) w t o.type e i z size bytes ht hi hz hsize hby hzs hsz ad n n olds hlo holds r 1 c fin (by omega) hc (by omega) (by omega) (by simpa using hbytes)
    simp only [ho, resolve, invoke, builtin, Sem.run_bind, Sem.run_pure, Result.andThen_ok, List.map_toArray, List.map_cons, List.map_nil, hs, hx, hr]
    exact h _ _ (by simpa using ownsRow_from h2 hB) (((Below.refl _ _).grown h3 (Nat.le_refl _) (fun k hk => by cases hk)).mono hB)
  · obtain ⟨v', w', hr, h2, h3, -, -⟩ := run_append_own_at (P := P) w B t o.type e i z size bytes ht hi hz hsize hby hzs hsz u (n + m) (olds ++ news) hown r 1 c fin (by omega) hc h1 h63 hbytes hB
    simp only [ho, resolve, invoke, builtin, Sem.run_bind, Sem.run_pure, Result.andThen_ok, List.map_toArray, List.map_cons, List.map_nil, hs, hx, hr]
    exact h _ _ h2 ((Below.refl _ _).grown h3 hB (fun k hk => (hown.lt k hk).1))
end
end Go.Proofs.YthgfdcoicihpdaaDoor

/-
  A maker of code (rt's, lower's): a box in memory that holds the code so far, its row of blocks, and in each block its row of instructions; what a store, an append to a block, a new block do to it (plain memory).
-/
import Derived.Test.YthgmaapebplimaaOwnN
namespace Go.Pst
open Go.RowKit
set_option linter.unusedVariables false
set_option linter.unusedSimpArgs false


/-- A block of code under way: a row of instructions of its own; what they hold lies outside M. -/
def Blk (M : Nat → Prop) (w : World) (v : Value) (l : List PInstr) : Prop :=
  ∃ ess : List (List Value), w.ownsRow 0 57 6 v l.length ess.flatten ∧ rAll 6 rInstr (fun k => ¬ M k) w ess l
theorem Blk.keep {M M' F : Nat → Prop} {w w' : World} {v : Value} {l : List PInstr} (h : Blk M w v l) (hs : Since F w w') (hF : ∀ k, F k → M k) (hv : ∀ k, v.ownBlock = some k → ¬ F k) (hM : ∀ k, k < w.heap.size → M' k → M k) : Blk M' w' v l := by
  obtain ⟨ess, h1, h2⟩ := h
  exact ⟨ess, hs.row h1 hv, rAll_keep ⟨hs.size, fun k hk hS => hs.block k hk (fun f => hS (hF k f))⟩ (fun k hk hS m => hS (hM k hk m)) h2⟩
theorem Blk.nil (M : Nat → Prop) (w : World) : Blk M w (.slice none 0 0) [] := ⟨[], ⟨rfl, Or.inl ⟨rfl, rfl⟩⟩, trivial⟩
theorem Blk.slice {M : Nat → Prop} {w : World} {v : Value} {l : List PInstr} (h : Blk M w v l) : ∃ a cap, v = .slice a l.length cap ∧ l.length ≤ cap ∧ cap ≤ maxLen := by
  obtain ⟨ess, h1, h2⟩ := h
  exact row_slice h1
theorem Blk.lt {M : Nat → Prop} {w : World} {v : Value} {l : List PInstr} (h : Blk M w v l) : ∀ k, v.ownBlock = some k → k < w.heap.size := fun k hk => by
  obtain ⟨ess, h1, h2⟩ := h
  exact (h1.lt k hk).2
theorem flatten_len {sz : Nat} : ∀ {ess : List (List Value)}, (∀ es ∈ ess, es.length = sz) → ess.flatten.length = ess.length * sz
  | [], _ => by simp
  | e :: r, h => by
    rw [List.flatten_cons, List.length_append, h e (by simp), flatten_len (fun x hx => h x (by simp [hx])), List.length_cons, Nat.succ_mul]
    omega
/-- An owned row of elements of some cells reads as a list. -/
theorem Blk.reads {M : Nat → Prop} {w : World} {v : Value} {l : List PInstr} (h : Blk M w v l) : rBlock (fun _ => True) w [v] l := by
  obtain ⟨ess, h1, h2⟩ := h
  exact rSlice_ownN (T := fun _ => True) h1 (fun _ _ => trivial) (rAll_keep (Keep.refl _ _) (fun _ _ _ => trivial) h2)

theorem Blk.reads' {M S : Nat → Prop} {w : World} {v : Value} {l : List PInstr} (h : Blk M w v l) (hv : ∀ x, v.ownBlock = some x → S x) (hS : ∀ x, ¬ M x → S x) : rBlock S w [v] l := by
  obtain ⟨ess, h1, h2⟩ := h
  exact rSlice_ownN (T := fun _ => True) h1 hv (rAll_keep (Keep.refl _ _) (fun x _ hx => hS x hx) h2)

/-- The maker: its box bm has the code from cell o on, and the number of the block to which code is added in cell d; M: the blocks that are its own, X: such of them as are for other things. -/
structure MkCore (o d bm gB cB : Nat) (vs : List Value) (X M : Nat → Prop) (c : PCode) (k : Nat) (w : World) : Prop where
  lt : bm < w.heap.size
  c0 : w.cell? ⟨bm, o, none⟩ = some (.string c.name)
  c1 : w.cell? ⟨bm, o + 1, none⟩ = some (.int .i64 c.params)
  c2 : w.cell? ⟨bm, o + 2, none⟩ = some (.int .i64 c.results)
  c3 : w.cell? ⟨bm, o + 3, none⟩ = some (.int .i64 c.vars)
  c4 : w.cell? ⟨bm, o + 4, none⟩ = some (.int .i64 c.slots)
  c5 : w.cell? ⟨bm, o + 5, none⟩ = some (.slice (some ⟨gB, 0, none⟩) c.blocks.length cB)
  c6 : w.cell? ⟨bm, d, none⟩ = some (.int .i64 k)
  z : ∀ j, w.frozen? ⟨bm, j, none⟩ = false
  od : d < o ∨ o + 6 ≤ d
  fit : c.name.size ≤ maxLen ∧ InI c.params ∧ InI c.results ∧ InI c.vars ∧ InI c.slots
  row : w.ownsRow 0 55 1 (.slice (some ⟨gB, 0, none⟩) c.blocks.length cB) c.blocks.length vs
  len : vs.length = c.blocks.length
  blk : ∀ t (h : t < c.blocks.length) (h' : t < vs.length), Blk M w vs[t] c.blocks[t]
  ne : gB ≠ bm
  own : ∀ v ∈ vs, v.ownBlock ≠ some bm ∧ v.ownBlock ≠ some gB ∧ ∀ x, v.ownBlock = some x → ¬ X x
  dis : ∀ i j (hi : i < vs.length) (hj : j < vs.length), i ≠ j → vs[i].ownBlock = none ∨ vs[i].ownBlock ≠ vs[j].ownBlock
  mine : ∀ x, M x ↔ x = bm ∨ x = gB ∨ (∃ v ∈ vs, v.ownBlock = some x) ∨ X x
  x_ : ¬ X bm ∧ ¬ X gB ∧ ∀ x, X x → x < w.heap.size
  at_ : k < c.blocks.length
def MkAt (o d bm : Nat) (X M : Nat → Prop) (c : PCode) (k : Nat) (w : World) : Prop := ∃ gB cB vs, MkCore o d bm gB cB vs X M c k w

namespace MkCore
variable {o d bm gB cB : Nat} {vs : List Value} {X M : Nat → Prop} {c : PCode} {k : Nat} {w w' : World}
theorem gB_lt (h : MkCore o d bm gB cB vs X M c k w) : gB < w.heap.size := (h.row.lt gB rfl).2
theorem m_lt (h : MkCore o d bm gB cB vs X M c k w) {x : Nat} (hx : M x) : x < w.heap.size := by
  rcases (h.mine x).1 hx with rfl | rfl | ⟨v, hv, e⟩ | hx
  · exact h.lt
  · exact h.gB_lt
  · obtain ⟨t, ht, rfl⟩ := List.mem_iff_getElem.1 hv
    exact (h.blk t (by have := h.len; omega) ht).lt x e
  · exact h.x_.2.2 x hx
theorem m_box (h : MkCore o d bm gB cB vs X M c k w) : M bm := (h.mine bm).2 (Or.inl rfl)
theorem m_row (h : MkCore o d bm gB cB vs X M c k w) : M gB := (h.mine gB).2 (Or.inr (Or.inl rfl))
theorem m_blk (h : MkCore o d bm gB cB vs X M c k w) {t x : Nat} (ht : t < vs.length) (e : vs[t].ownBlock = some x) : M x := (h.mine x).2 (Or.inr (Or.inr (Or.inl ⟨_, List.getElem_mem ht, e⟩)))
/-- Nothing that was there has been written. -/
theorem below (h : MkCore o d bm gB cB vs X M c k w) (hb : Below w.heap.size w w') : MkCore o d bm gB cB vs X M c k w' := by
  have hs : Since (fun _ => False) w w' := ⟨hb.os, hb.tape, hb.output, hb.size, fun k hk _ => hb.block k hk⟩
  have hc := fun j => hs.cell (o := j) h.lt id
  refine ⟨Nat.lt_of_lt_of_le h.lt hb.size, (hc _).trans h.c0, (hc _).trans h.c1, (hc _).trans h.c2, (hc _).trans h.c3, (hc _).trans h.c4, (hc _).trans h.c5, (hc _).trans h.c6, fun j => (hs.frozen h.lt id).trans (h.z j), h.od, h.fit, hs.row h.row (fun _ _ => id), h.len, fun t ht ht' => (h.blk t ht ht').keep hs (fun _ f => f.elim) (fun _ _ => id) (fun _ _ m => m), h.ne, h.own, h.dis, h.mine, ⟨h.x_.1, h.x_.2.1, fun x hx => Nat.lt_of_lt_of_le (h.x_.2.2 x hx) hb.size⟩, h.at_⟩
/-- A cell of the box is set, not the row's. -/
theorem setBox (h : MkCore o d bm gB cB vs X M c k w) (j : Nat) (u : Value) (c' : PCode) (k' : Nat) (hj : j ≠ o + 5) (hbl : c'.blocks = c.blocks) (hk : k' < c.blocks.length) (hfit : c'.name.size ≤ maxLen ∧ InI c'.params ∧ InI c'.results ∧ InI c'.vars ∧ InI c'.slots)
    (e0 : if j = o then u = .string c'.name else c'.name = c.name) (e1 : if j = o + 1 then u = .int .i64 c'.params else c'.params = c.params) (e2 : if j = o + 2 then u = .int .i64 c'.results else c'.results = c.results)
    (e3 : if j = o + 3 then u = .int .i64 c'.vars else c'.vars = c.vars) (e4 : if j = o + 4 then u = .int .i64 c'.slots else c'.slots = c.slots) (e6 : if j = d then u = .int .i64 k' else k' = k) :
    MkCore o d bm gB cB vs X M c' k' (w.setCell ⟨bm, j, none⟩ u) := by
  have hs : Since (fun x => x = bm) w (w.setCell ⟨bm, j, none⟩ u) := Since.setCell w ⟨bm, j, none⟩ u
  have get : ∀ i x y, w.cell? ⟨bm, i, none⟩ = some x → (if j = i then u = y else y = x) → (w.setCell ⟨bm, j, none⟩ u).cell? ⟨bm, i, none⟩ = some y := by
    intro i x y hi hy
    by_cases e : j = i
    · subst e
      rw [if_pos rfl] at hy
      subst hy
      exact World.cell?_setCell_same _ _ _ hi
    · rw [if_neg e] at hy
      subst hy
      rw [World.cell?_setCell_other (h := fun h => e (by injection h))]
      exact hi
  have conv : ∀ {P : Prop} [Decidable P] {a : Value} {b b' : Int}, (if P then a = .int .i64 b' else b' = b) → (if P then a = .int .i64 b' else (Value.int .i64 b') = .int .i64 b) := by
    intro P _ a b b' h
    split
    · rename_i hp; first | exact h | rwa [if_pos hp] at h
    · rename_i hp; first | rw [h] | (rw [if_neg hp] at h; rw [h])
  refine ⟨by simpa using h.lt, get _ _ _ h.c0 (by split <;> rename_i hp <;> simp only [hp, if_true, if_false] at e0 <;> first | exact e0 | rw [e0]), get _ _ _ h.c1 (conv e1), get _ _ _ h.c2 (conv e2), get _ _ _ h.c3 (conv e3), get _ _ _ h.c4 (conv e4), ?_, get _ _ _ h.c6 ?_, fun i => ?_, h.od, hfit, ?_, by rw [hbl]; exact h.len, fun t ht ht' => ?_, h.ne, h.own, h.dis, h.mine, ⟨h.x_.1, h.x_.2.1, fun x hx => by simpa using h.x_.2.2 x hx⟩, by rw [hbl]; exact hk⟩
  · rw [hbl]
    exact get _ _ _ h.c5 (by rw [if_neg hj])
  · by_cases e : j = d
    · rw [if_pos e] at e6 ⊢; exact e6
    · rw [if_neg e] at e6 ⊢; rw [e6]
  · rw [World.frozen?_setCell]; exact h.z i
  · rw [hbl]
    exact hs.row h.row (fun x hx e => h.ne (by simp [Value.ownBlock] at hx; omega))
  · have ht2 : t < c.blocks.length := by rw [← hbl]; exact ht
    have e : c'.blocks[t] = c.blocks[t] := by simp [hbl]
    rw [e]
    exact (h.blk t ht2 ht').keep hs (fun x e => e ▸ h.m_box) (fun x hx e => (h.own _ (List.getElem_mem ht')).1 (by rw [hx, e])) (fun _ _ m => m)
/-- What else is of the maker's blocks when one more is its own. -/
theorem blk_ne (h : MkCore o d bm gB cB vs X M c k w) {t t' : Nat} (ht : t < vs.length) (ht' : t' < vs.length) (hne : t' ≠ t) : ∀ x, vs[t'].ownBlock = some x → vs[t].ownBlock ≠ some x := by
  intro x hx e
  rcases h.dis t' t ht' ht hne with h0 | h0
  · rw [h0] at hx; cases hx
  · exact h0 (hx.trans e.symm)
/-- An instruction has been appended to the block at which the maker stands, and the block put back. -/
theorem push (h : MkCore o d bm gB cB vs X M c k w) {w1 : World} {ob : Obj} {v' : Value} {ess : List (List Value)} {es : List Value} {i : PInstr} (hkv : k < vs.length)
    (hes : es.length = 6) (hi : rInstr (fun x => ¬ M x) w es i) (hr : rAll 6 rInstr (fun x => ¬ M x) w ess c.blocks[k]!)
    (hown : w1.ownsRow 0 57 6 v' (c.blocks[k]!.length + 1) (ess.flatten ++ es)) (hg : (w.alloc ob).grownBy w1 vs[k].ownBlock) (hat : v'.ownBlock = vs[k].ownBlock ∨ v'.ownBlock = some (w.alloc ob).heap.size) :
    ∃ M', MkCore o d bm gB cB (vs.set k v') X M' { c with blocks := c.blocks.set k (c.blocks[k]! ++ [i]) } k (w1.setCell ⟨gB, k, none⟩ v') ∧ Since (fun x => M x ∧ ¬ X x) w (w1.setCell ⟨gB, k, none⟩ v') ∧ ∀ x, M' x → M x ∨ w.heap.size ≤ x := by
  have hk := h.at_
  have hgl := h.gB_lt
  have hne : ∀ x, vs[k].ownBlock = some x → x ≠ bm ∧ x ≠ gB := fun x hx => ⟨fun e => (h.own _ (List.getElem_mem hkv)).1 (hx.trans (by rw [e])), fun e => (h.own _ (List.getElem_mem hkv)).2.1 (hx.trans (by rw [e]))⟩
  have hnew : ∀ x, v'.ownBlock = some x → vs[k].ownBlock = some x ∨ x = w.heap.size + 1 := by
    intro x hx
    rcases hat with e | e
    · exact Or.inl (e ▸ hx)
    · right
      rw [e] at hx
      simp at hx
      omega
  let F : Nat → Prop := fun x => x = gB ∨ vs[k].ownBlock = some x
  have s1 : Since F w w1 := ⟨hg.os, hg.tape, hg.output, by have := hg.size; simp at this; omega, fun x hx hF => by
    rw [hg.block x (by simp; omega) (fun e => hF (Or.inr e.symm))]
    exact Below.heap_alloc _ _ _ hx⟩
  have s2 : Since F w (w1.setCell ⟨gB, k, none⟩ v') := s1.trans ((Since.setCell w1 ⟨gB, k, none⟩ v').mono (fun x hx => Or.inl hx))
  have hFM : ∀ x, F x → M x := by
    intro x hx
    rcases hx with rfl | e
    · exact h.m_row
    · exact h.m_blk hkv e
  have hFX : ∀ x, F x → M x ∧ ¬ X x := fun x hx => ⟨hFM x hx, by
    rcases hx with rfl | e
    · exact h.x_.2.1
    · exact (h.own _ (List.getElem_mem hkv)).2.2 x e⟩
  have hbm : ¬ F bm := fun f => f.elim (fun e => h.ne e.symm) (fun e => (hne bm e).1 rfl)
  have hc := fun j => s2.cell (o := j) h.lt hbm
  have hset : ∀ t (ht : t < (vs.set k v').length), (vs.set k v')[t] = if t = k then v' else vs[t]'(by simpa using ht) := by
    intro t ht
    rw [List.getElem_set]
    by_cases e : k = t
    · rw [if_pos e, if_pos e.symm]
    · rw [if_neg e, if_neg (fun e' => e e'.symm)]
  let M' : Nat → Prop := fun x => x = bm ∨ x = gB ∨ (∃ v ∈ vs.set k v', v.ownBlock = some x) ∨ X x
  have hM' : ∀ x, M' x → M x ∨ x = w.heap.size + 1 := by
    intro x hx
    rcases hx with rfl | rfl | ⟨v, hv, e⟩ | hx
    · exact Or.inl h.m_box
    · exact Or.inl h.m_row
    · rcases List.mem_or_eq_of_mem_set hv with hv | rfl
      · exact Or.inl ((h.mine x).2 (Or.inr (Or.inr (Or.inl ⟨v, hv, e⟩))))
      · rcases hnew x e with e | e
        · exact Or.inl (h.m_blk hkv e)
        · exact Or.inr e
    · exact Or.inl ((h.mine x).2 (Or.inr (Or.inr (Or.inr hx))))
  have hrow1 : w1.ownsRow 0 55 1 (.slice (some ⟨gB, 0, none⟩) c.blocks.length cB) c.blocks.length vs := by
    have s1' : Since (fun x => vs[k].ownBlock = some x) w w1 := ⟨hg.os, hg.tape, hg.output, by have := hg.size; simp at this; omega, fun x hx hF => by
      rw [hg.block x (by simp; omega) (fun e => hF e.symm)]
      exact Below.heap_alloc _ _ _ hx⟩
    refine s1'.row h.row (fun x hx e => (hne x e).2 ?_)
    simp [Value.ownBlock] at hx
    exact hx.symm
  refine ⟨M', ⟨Nat.lt_of_lt_of_le h.lt s2.size, (hc _).trans h.c0, (hc _).trans h.c1, (hc _).trans h.c2, (hc _).trans h.c3, (hc _).trans h.c4, by rw [hc, h.c5]; simp, (hc _).trans h.c6, fun j => (s2.frozen h.lt hbm).trans (h.z j), h.od, h.fit, ?_, by simpa using h.len, fun t ht ht' => ?_, h.ne, ?_, ?_, fun x => Iff.rfl, ⟨h.x_.1, h.x_.2.1, fun x hx => Nat.lt_of_lt_of_le (h.x_.2.2 x hx) s2.size⟩, by simpa using hk⟩, s2.mono hFX, fun x hx => (hM' x hx).imp_right (by omega)⟩
  · simpa using row_set hrow1 hk v'
  · have ht2 : t < c.blocks.length := by simpa using ht
    have ht3 : t < vs.length := by simpa using ht'
    rw [hset t ht']
    by_cases e : t = k
    · subst e
      rw [if_pos rfl]
      have e2 : c.blocks[t]! = c.blocks[t] := by simp [ht2]
      refine ⟨ess ++ [es], ?_, ?_⟩
      · have hown2 : (w1.setCell ⟨gB, t, none⟩ v').ownsRow 0 57 6 v' (c.blocks[t]!.length + 1) (ess.flatten ++ es) :=
          (Since.setCell w1 ⟨gB, t, none⟩ v').row hown (fun x hx e => by
            rcases hnew x hx with e3 | e3
            · exact (hne x e3).2 e
            · simp at e; omega)
        simp only [List.getElem_set_self, List.length_append, List.length_cons, List.length_nil, List.flatten_append, List.flatten_cons, List.flatten_nil, List.append_nil]
        exact hown2
      · simp only [List.getElem_set_self]
        have kp : Keep (fun x => ¬ M x) w (w1.setCell ⟨gB, t, none⟩ v') := ⟨s2.size, fun x hx hS => s2.block x hx (fun f => hS (hFM x f))⟩
        have up : ∀ x, x < w.heap.size → ¬ M x → ¬ M' x := fun x hx hm m => (hM' x m).elim hm (fun e => by omega)
        exact rAll_snoc hes (Good.keep kp up hi) (rAll_keep kp up hr)
    · rw [if_neg e]
      have e2 : ({ c with blocks := c.blocks.set k (c.blocks[k]! ++ [i]) } : PCode).blocks[t] = c.blocks[t] := by
        simp only
        rw [List.getElem_set_ne (fun h => e h.symm)]
      rw [e2]
      refine (h.blk t ht2 ht3).keep s2 hFM (fun x hx f => ?_) (fun x hx m => (hM' x m).elim id (fun e => by omega))
      rcases f with f | f
      · exact (h.own _ (List.getElem_mem ht3)).2.1 (hx.trans (by rw [f]))
      · exact h.blk_ne hkv ht3 e x hx f
  · intro v hv
    rcases List.mem_or_eq_of_mem_set hv with hv | rfl
    · exact h.own v hv
    · refine ⟨fun e => ?_, fun e => ?_, fun x hx hX => ?_⟩
      · rcases hnew _ e with e3 | e3
        · exact (hne _ e3).1 rfl
        · have := h.lt; omega
      · rcases hnew _ e with e3 | e3
        · exact (hne _ e3).2 rfl
        · omega
      · rcases hnew _ hx with e3 | e3
        · exact (h.own _ (List.getElem_mem hkv)).2.2 x e3 hX
        · have := h.x_.2.2 x hX; omega
  · have key : ∀ t (ht : t < vs.length), t ≠ k → vs[t].ownBlock = none ∨ vs[t].ownBlock ≠ v'.ownBlock := by
      intro t ht hne'
      cases hv : vs[t].ownBlock with
      | none => exact Or.inl rfl
      | some x =>
        right
        intro e
        rcases hnew x e.symm with e3 | e3
        · exact h.blk_ne hkv ht hne' x hv e3
        · have := (h.blk t (by have := h.len; omega) ht).lt x hv; omega
    intro a b ha hb hab
    have ha2 : a < vs.length := by simpa using ha
    have hb2 : b < vs.length := by simpa using hb
    rw [hset a ha, hset b hb]
    by_cases e1 : a = k
    · rw [if_pos e1, if_neg (fun e => hab (e1.trans e.symm))]
      rcases key b hb2 (fun e => hab (e1.trans e.symm)) with e | e
      · cases hv : v'.ownBlock with
        | none => exact Or.inl rfl
        | some x => right; rw [e]; simp
      · exact Or.inr (fun e' => e e'.symm)
    · rw [if_neg e1]
      by_cases e2 : b = k
      · rw [if_pos e2]; exact key a ha2 e1
      · rw [if_neg e2]; exact h.dis a b ha2 hb2 hab

/-- A new block, without instructions, has been appended to the row, and the row put back into the box. -/
theorem grow (h : MkCore o d bm gB cB vs X M c k w) {w1 : World} {ob : Obj} {v' : Value} {g' c' : Nat} (hv' : v' = .slice (some ⟨g', 0, none⟩) (c.blocks.length + 1) c')
    (hown : w1.ownsRow 0 55 1 v' (c.blocks.length + 1) (vs ++ [.slice none 0 0])) (hg : (w.alloc ob).grownBy w1 (some gB)) (hat : v'.ownBlock = some gB ∨ v'.ownBlock = some (w.alloc ob).heap.size) :
    ∃ M', MkCore o d bm g' c' (vs ++ [.slice none 0 0]) X M' { c with blocks := c.blocks ++ [[]] } k (w1.setCell ⟨bm, o + 5, none⟩ v') ∧ Since (fun x => M x ∧ ¬ X x) w (w1.setCell ⟨bm, o + 5, none⟩ v') ∧ ∀ x, M' x → M x ∨ w.heap.size ≤ x := by
  have hnew : g' = gB ∨ g' = w.heap.size + 1 := by
    rw [hv'] at hat
    simpa [Value.ownBlock] using hat
  let F : Nat → Prop := fun x => x = gB ∨ x = bm
  have s1 : Since F w w1 := ⟨hg.os, hg.tape, hg.output, by have := hg.size; simp at this; omega, fun x hx hF => by
    rw [hg.block x (by simp; omega) (fun e => hF (Or.inl (by simpa using e)))]
    exact Below.heap_alloc _ _ _ hx⟩
  have s2 : Since F w (w1.setCell ⟨bm, o + 5, none⟩ v') := s1.trans ((Since.setCell w1 ⟨bm, o + 5, none⟩ v').mono (fun x hx => Or.inr hx))
  have s0 : Since (fun x => x = gB) w w1 := ⟨hg.os, hg.tape, hg.output, by have := hg.size; simp at this; omega, fun x hx hF => by
    rw [hg.block x (by simp; omega) (fun e => hF (by simpa using e))]
    exact Below.heap_alloc _ _ _ hx⟩
  have hFM : ∀ x, F x → M x := by
    intro x hx
    rcases hx with rfl | rfl
    · exact h.m_row
    · exact h.m_box
  have hFX : ∀ x, F x → M x ∧ ¬ X x := fun x hx => ⟨hFM x hx, by
    rcases hx with rfl | rfl
    · exact h.x_.2.1
    · exact h.x_.1⟩
  have hc1 := fun j => s0.cell (o := j) h.lt (fun e => h.ne e.symm)
  have hc : ∀ j, j ≠ o + 5 → (w1.setCell ⟨bm, o + 5, none⟩ v').cell? ⟨bm, j, none⟩ = w.cell? ⟨bm, j, none⟩ := fun j hj => by
    rw [World.cell?_setCell_other (h := fun e => hj (by injection e with _ e1 _; exact e1.symm)), hc1]
  let M' : Nat → Prop := fun x => x = bm ∨ x = g' ∨ (∃ v ∈ vs ++ [.slice none 0 0], v.ownBlock = some x) ∨ X x
  have hM' : ∀ x, M' x → M x ∨ x = w.heap.size + 1 := by
    intro x hx
    rcases hx with rfl | rfl | ⟨v, hv, e⟩ | hx
    · exact Or.inl h.m_box
    · rcases hnew with rfl | e
      · exact Or.inl h.m_row
      · exact Or.inr e
    · rcases List.mem_append.1 hv with hv | hv
      · exact Or.inl ((h.mine x).2 (Or.inr (Or.inr (Or.inl ⟨v, hv, e⟩))))
      · obtain rfl : v = .slice none 0 0 := by simpa using hv
        simp [Value.ownBlock] at e
    · exact Or.inl ((h.mine x).2 (Or.inr (Or.inr (Or.inr hx))))
  have hlt := h.lt
  have hneb : g' ≠ bm := by
    rcases hnew with rfl | e
    · exact h.ne
    · omega
  have hod := h.od
  refine ⟨M', ⟨Nat.lt_of_lt_of_le h.lt s2.size, (hc _ (by omega)).trans h.c0, (hc _ (by omega)).trans h.c1, (hc _ (by omega)).trans h.c2, (hc _ (by omega)).trans h.c3, (hc _ (by omega)).trans h.c4, ?_, (hc _ (by omega)).trans h.c6, fun j => ?_, h.od, h.fit, ?_, by simp [h.len], fun t ht ht' => ?_, hneb, ?_, ?_, fun x => Iff.rfl, ⟨h.x_.1, ?_, fun x hx => Nat.lt_of_lt_of_le (h.x_.2.2 x hx) s2.size⟩, by have := h.at_; simp; omega⟩, s2.mono hFX, fun x hx => (hM' x hx).imp_right (by omega)⟩
  · rw [World.cell?_setCell_same _ _ _ ((hc1 _).trans h.c5), hv']
    simp
  · rw [World.frozen?_setCell, s0.frozen h.lt (fun e => h.ne e.symm)]
    exact h.z j
  · have := (Since.setCell w1 ⟨bm, o + 5, none⟩ v').row hown (fun x hx e => by
      rw [hv'] at hx
      simp [Value.ownBlock] at hx
      simp at e
      omega)
    rw [hv'] at this ⊢
    simpa using this
  · have ht0 : t < (c.blocks ++ [[]]).length := ht
    by_cases e : t < c.blocks.length
    · have e2 : ({ c with blocks := c.blocks ++ [[]] } : PCode).blocks[t] = c.blocks[t] := by simp only; rw [List.getElem_append_left e]
      have e3 : (vs ++ [.slice none 0 0])[t] = vs[t]'(by have := h.len; omega) := List.getElem_append_left _
      rw [e2, e3]
      refine (h.blk t e (by have := h.len; omega)).keep s2 hFM (fun x hx f => ?_) (fun x hx m => (hM' x m).elim id (fun e => by omega))
      have ho := h.own _ (List.getElem_mem (by have := h.len; omega : t < vs.length))
      rcases f with f | f
      · exact ho.2.1 (hx.trans (by rw [f]))
      · exact ho.1 (hx.trans (by rw [f]))
    · have et : t = c.blocks.length := by simp at ht0; omega
      subst et
      have e2 : ({ c with blocks := c.blocks ++ [[]] } : PCode).blocks[c.blocks.length] = [] := by simp
      have e3 : (vs ++ [.slice none 0 0])[c.blocks.length] = .slice none 0 0 := by simp [h.len]
      rw [e2, e3]
      exact Blk.nil _ _
  · intro v hv
    rcases List.mem_append.1 hv with hv | hv
    · refine ⟨(h.own v hv).1, ?_, (h.own v hv).2.2⟩
      rcases hnew with rfl | e
      · exact (h.own v hv).2.1
      · obtain ⟨t, ht, rfl⟩ := List.mem_iff_getElem.1 hv
        intro e2
        have := (h.blk t (by have := h.len; omega) ht).lt g' e2
        omega
    · obtain rfl : v = .slice none 0 0 := by simpa using hv
      simp [Value.ownBlock]
  · intro a b ha hb hab
    have l := h.len
    by_cases ea : a < vs.length
    · by_cases eb : b < vs.length
      · rw [List.getElem_append_left ea, List.getElem_append_left eb]
        exact h.dis a b ea eb hab
      · rw [show (vs ++ [.slice none 0 0])[b] = .slice none 0 0 by rw [List.getElem_append_right (by omega)]; simp]
        cases hv : (vs ++ [.slice none 0 0])[a].ownBlock with
        | none => exact Or.inl rfl
        | some x => right; simp [Value.ownBlock]
    · left
      rw [show (vs ++ [.slice none 0 0])[a] = .slice none 0 0 by rw [List.getElem_append_right (by omega)]; simp]
      rfl
  · rcases hnew with rfl | e
    · exact h.x_.2.1
    · intro hX
      have := h.x_.2.2 g' hX
      omega
end MkCore
end Go.Pst

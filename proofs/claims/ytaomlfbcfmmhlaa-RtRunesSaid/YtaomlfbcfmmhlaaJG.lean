/-
  Texts joined: Mk RtEnv RtOps RtOps2 RtOps3 RtWhen RtCount RtCopy.
-/
import Derived.Test.YtaomlfbcfmmhlaaJA
import Derived.Test.YtaomlfbcfmmhlaaProg
import Derived.StillTailTactics
import Derived.Deep.RegionHeld3
import Derived.Deep.AppendLies
import Derived.Deep.RegionLaw

/-
  A maker of code (rt's, lower's): a box in memory that holds the code so far, its row of blocks, and in each block its row of instructions; what a store, an append to a block, a new block do to it (plain memory).
-/
namespace Go.Pst
open Go.RowKit
set_option linter.unusedVariables false
set_option linter.unusedSimpArgs false

theorem rAll_keep {α : Type} {sz : Nat} {R : Rep α} [g : Good R] {S S' : Nat → Prop} {w w' : World} (hk : Keep S w w') (hs : ∀ k, k < w.heap.size → S k → S' k) : ∀ {ess : List (List Value)} {l : List α}, rAll sz R S w ess l → rAll sz R S' w' ess l
  | [], [], _ => trivial
  | _ :: _, _ :: _, h => ⟨⟨h.1.1, g.keep hk hs h.1.2⟩, rAll_keep hk hs h.2⟩
theorem rAll_snoc {α : Type} {sz : Nat} {R : Rep α} {S : Nat → Prop} {w : World} {es : List Value} {x : α} (h1 : es.length = sz) (h2 : R S w es x) : ∀ {ess : List (List Value)} {l : List α}, rAll sz R S w ess l → rAll sz R S w (ess ++ [es]) (l ++ [x])
  | [], [], _ => ⟨⟨h1, h2⟩, trivial⟩
  | _ :: _, _ :: _, h => ⟨h.1, rAll_snoc h1 h2 h.2⟩

/-- A block of code under way: a row of instructions of its own; what they hold lies outside M. -/
def Blk (M : Nat → Prop) (w : World) (v : Value) (l : List PInstr) : Prop :=
  ∃ ess : List (List Value), w.ownsRow 0 48 6 v l.length ess.flatten ∧ rAll 6 rInstr (fun k => ¬ M k) w ess l
theorem Blk.keep {M M' F : Nat → Prop} {w w' : World} {v : Value} {l : List PInstr} (h : Blk M w v l) (hs : Since F w w') (hF : ∀ k, F k → M k) (hv : ∀ k, v.ownBlock = some k → ¬ F k) (hM : ∀ k, k < w.heap.size → M' k → M k) : Blk M' w' v l := by
  obtain ⟨ess, h1, h2⟩ := h
  exact ⟨ess, hs.row h1 hv, rAll_keep ⟨hs.size, fun k hk hS => hs.block k hk (fun f => hS (hF k f))⟩ (fun k hk hS m => hS (hM k hk m)) h2⟩
theorem Blk.nil (M : Nat → Prop) (w : World) : Blk M w (.slice none 0 0) [] := ⟨[], ⟨rfl, Or.inl ⟨rfl, rfl⟩⟩, trivial⟩
theorem Blk.slice {M : Nat → Prop} {w : World} {v : Value} {l : List PInstr} (h : Blk M w v l) : ∃ a cap, v = .slice a l.length cap ∧ l.length ≤ cap ∧ cap ≤ maxLen := by
  obtain ⟨ess, h1, h2⟩ := h
  exact row_slice h1
theorem Blk.lt {M : Nat → Prop} {w : World} {v : Value} {l : List PInstr} (h : Blk M w v l) : ∀ k, v.ownBlock = some k → k < w.heap.size := fun k hk => by
  obtain ⟨ess, h1, h2⟩ := h
  exact (h1.lt k hk).2
theorem flatten_len {sz : Nat} : ∀ {ess : List (List Value)}, (∀ es ∈ ess, es.length = sz) → ess.flatten.length = ess.length * sz
  | [], _ => by simp
  | e :: r, h => by
    rw [List.flatten_cons, List.length_append, h e (by simp), flatten_len (fun x hx => h x (by simp [hx])), List.length_cons, Nat.succ_mul]
    omega
/-- An owned row of elements of some cells reads as a list. -/
theorem rSlice_ownN {α : Type} {sz : Nat} {R : Rep α} {S T : Nat → Prop} {w : World} {base : Nat} {e : TypeId} {v : Value} {l : List α} {ess : List (List Value)} (h : w.ownsRow base e sz v l.length ess.flatten) (hS : ∀ k, v.ownBlock = some k → S k) (hR : rAll sz R S w ess l) : rSlice sz R S w [v] l := by
  obtain ⟨hx, h⟩ := h
  rcases h with ⟨rfl, h0⟩ | ⟨g, cap, cur, rfl, hb, hg, hn, hm, hc, ht⟩
  · have : l = [] := List.eq_nil_of_length_eq_zero h0
    subst this
    exact rSlice_nil _ _ _ _
  · have hl := rAll_len hR
    refine ⟨_, cap, rfl, hn, hm, fun i hi => ⟨g, 0, ess[i]'(by omega), rfl, hS g (by simp [Value.ownBlock]), (Array.getElem?_eq_some_iff.1 hg).1, rAll_size hR _ (List.getElem_mem _), fun j hj => ?_, rAll_get hR i hi (by omega)⟩⟩
    rw [← flat_get ess i j (by omega) (rAll_size hR) hj, ← ht, List.getElem?_take, if_pos (by
      have : (i + 1) * sz ≤ l.length * sz := Nat.mul_le_mul_right _ hi
      rw [Nat.succ_mul] at this
      omega)]
    simp [World.cell?, hg]
theorem Blk.reads {M : Nat → Prop} {w : World} {v : Value} {l : List PInstr} (h : Blk M w v l) : rBlock (fun _ => True) w [v] l := by
  obtain ⟨ess, h1, h2⟩ := h
  exact rSlice_ownN (T := fun _ => True) h1 (fun _ _ => trivial) (rAll_keep (Keep.refl _ _) (fun _ _ _ => trivial) h2)

theorem Blk.reads' {M S : Nat → Prop} {w : World} {v : Value} {l : List PInstr} (h : Blk M w v l) (hv : ∀ x, v.ownBlock = some x → S x) (hS : ∀ x, ¬ M x → S x) : rBlock S w [v] l := by
  obtain ⟨ess, h1, h2⟩ := h
  exact rSlice_ownN (T := fun _ => True) h1 hv (rAll_keep (Keep.refl _ _) (fun x _ hx => hS x hx) h2)

/-- The maker: its box bm has the code from cell o on, and the number of the block to which code is added in cell d; M: the blocks that are its own, X: such of them as are for other things. -/
structure MkCore (o d bm gB cB : Nat) (vs : List Value) (X M : Nat → Prop) (c : PCode) (k : Nat) (w : World) : Prop where
  lt : bm < w.heap.size
  c0 : w.cell? ⟨bm, o, none⟩ = some (.string c.name)
  c1 : w.cell? ⟨bm, o + 1, none⟩ = some (.int .i64 c.params)
  c2 : w.cell? ⟨bm, o + 2, none⟩ = some (.int .i64 c.results)
  c3 : w.cell? ⟨bm, o + 3, none⟩ = some (.int .i64 c.vars)
  c4 : w.cell? ⟨bm, o + 4, none⟩ = some (.int .i64 c.slots)
  c5 : w.cell? ⟨bm, o + 5, none⟩ = some (.slice (some ⟨gB, 0, none⟩) c.blocks.length cB)
  c6 : w.cell? ⟨bm, d, none⟩ = some (.int .i64 k)
  z : ∀ j, w.frozen? ⟨bm, j, none⟩ = false
  od : d < o ∨ o + 6 ≤ d
  fit : c.name.size ≤ maxLen ∧ InI c.params ∧ InI c.results ∧ InI c.vars ∧ InI c.slots
  row : w.ownsRow 0 46 1 (.slice (some ⟨gB, 0, none⟩) c.blocks.length cB) c.blocks.length vs
  len : vs.length = c.blocks.length
  blk : ∀ t (h : t < c.blocks.length) (h' : t < vs.length), Blk M w vs[t] c.blocks[t]
  ne : gB ≠ bm
  own : ∀ v ∈ vs, v.ownBlock ≠ some bm ∧ v.ownBlock ≠ some gB ∧ ∀ x, v.ownBlock = some x → ¬ X x
  dis : ∀ i j (hi : i < vs.length) (hj : j < vs.length), i ≠ j → vs[i].ownBlock = none ∨ vs[i].ownBlock ≠ vs[j].ownBlock
  mine : ∀ x, M x ↔ x = bm ∨ x = gB ∨ (∃ v ∈ vs, v.ownBlock = some x) ∨ X x
  x_ : ¬ X bm ∧ ¬ X gB ∧ ∀ x, X x → x < w.heap.size
  at_ : k < c.blocks.length
def MkAt (o d bm : Nat) (X M : Nat → Prop) (c : PCode) (k : Nat) (w : World) : Prop := ∃ gB cB vs, MkCore o d bm gB cB vs X M c k w

namespace MkCore
variable {o d bm gB cB : Nat} {vs : List Value} {X M : Nat → Prop} {c : PCode} {k : Nat} {w w' : World}
theorem gB_lt (h : MkCore o d bm gB cB vs X M c k w) : gB < w.heap.size := (h.row.lt gB rfl).2
theorem m_lt (h : MkCore o d bm gB cB vs X M c k w) {x : Nat} (hx : M x) : x < w.heap.size := by
  rcases (h.mine x).1 hx with rfl | rfl | ⟨v, hv, e⟩ | hx
  · exact h.lt
  · exact h.gB_lt
  · obtain ⟨t, ht, rfl⟩ := List.mem_iff_getElem.1 hv
    exact (h.blk t (by have := h.len; omega) ht).lt x e
  · exact h.x_.2.2 x hx
theorem m_box (h : MkCore o d bm gB cB vs X M c k w) : M bm := (h.mine bm).2 (Or.inl rfl)
theorem m_row (h : MkCore o d bm gB cB vs X M c k w) : M gB := (h.mine gB).2 (Or.inr (Or.inl rfl))
theorem m_blk (h : MkCore o d bm gB cB vs X M c k w) {t x : Nat} (ht : t < vs.length) (e : vs[t].ownBlock = some x) : M x := (h.mine x).2 (Or.inr (Or.inr (Or.inl ⟨_, List.getElem_mem ht, e⟩)))
/-- Nothing that was there has been written. -/
theorem below (h : MkCore o d bm gB cB vs X M c k w) (hb : Below w.heap.size w w') : MkCore o d bm gB cB vs X M c k w' := by
  have hs : Since (fun _ => False) w w' := ⟨hb.os, hb.tape, hb.output, hb.size, fun k hk _ => hb.block k hk⟩
  have hc := fun j => hs.cell (o := j) h.lt id
  refine ⟨Nat.lt_of_lt_of_le h.lt hb.size, (hc _).trans h.c0, (hc _).trans h.c1, (hc _).trans h.c2, (hc _).trans h.c3, (hc _).trans h.c4, (hc _).trans h.c5, (hc _).trans h.c6, fun j => (hs.frozen h.lt id).trans (h.z j), h.od, h.fit, hs.row h.row (fun _ _ => id), h.len, fun t ht ht' => (h.blk t ht ht').keep hs (fun _ f => f.elim) (fun _ _ => id) (fun _ _ m => m), h.ne, h.own, h.dis, h.mine, ⟨h.x_.1, h.x_.2.1, fun x hx => Nat.lt_of_lt_of_le (h.x_.2.2 x hx) hb.size⟩, h.at_⟩
/-- A cell of the box is set, not the row's. -/
theorem setBox (h : MkCore o d bm gB cB vs X M c k w) (j : Nat) (u : Value) (c' : PCode) (k' : Nat) (hj : j ≠ o + 5) (hbl : c'.blocks = c.blocks) (hk : k' < c.blocks.length) (hfit : c'.name.size ≤ maxLen ∧ InI c'.params ∧ InI c'.results ∧ InI c'.vars ∧ InI c'.slots)
    (e0 : if j = o then u = .string c'.name else c'.name = c.name) (e1 : if j = o + 1 then u = .int .i64 c'.params else c'.params = c.params) (e2 : if j = o + 2 then u = .int .i64 c'.results else c'.results = c.results)
    (e3 : if j = o + 3 then u = .int .i64 c'.vars else c'.vars = c.vars) (e4 : if j = o + 4 then u = .int .i64 c'.slots else c'.slots = c.slots) (e6 : if j = d then u = .int .i64 k' else k' = k) :
    MkCore o d bm gB cB vs X M c' k' (w.setCell ⟨bm, j, none⟩ u) := by
  have hs : Since (fun x => x = bm) w (w.setCell ⟨bm, j, none⟩ u) := Since.setCell w ⟨bm, j, none⟩ u
  have get : ∀ i x y, w.cell? ⟨bm, i, none⟩ = some x → (if j = i then u = y else y = x) → (w.setCell ⟨bm, j, none⟩ u).cell? ⟨bm, i, none⟩ = some y := by
    intro i x y hi hy
    by_cases e : j = i
    · subst e
      rw [if_pos rfl] at hy
      subst hy
      exact World.cell?_setCell_same _ _ _ hi
    · rw [if_neg e] at hy
      subst hy
      rw [World.cell?_setCell_other (h := fun h => e (by injection h))]
      exact hi
  have conv : ∀ {P : Prop} [Decidable P] {a : Value} {b b' : Int}, (if P then a = .int .i64 b' else b' = b) → (if P then a = .int .i64 b' else (Value.int .i64 b') = .int .i64 b) := by
    intro P _ a b b' h
    split
    · rename_i hp; first | exact h | rwa [if_pos hp] at h
    · rename_i hp; first | rw [h] | (rw [if_neg hp] at h; rw [h])
  refine ⟨by simpa using h.lt, get _ _ _ h.c0 (by split <;> rename_i hp <;> simp only [hp, if_true, if_false] at e0 <;> first | exact e0 | rw [e0]), get _ _ _ h.c1 (conv e1), get _ _ _ h.c2 (conv e2), get _ _ _ h.c3 (conv e3), get _ _ _ h.c4 (conv e4), ?_, get _ _ _ h.c6 ?_, fun i => ?_, h.od, hfit, ?_, by rw [hbl]; exact h.len, fun t ht ht' => ?_, h.ne, h.own, h.dis, h.mine, ⟨h.x_.1, h.x_.2.1, fun x hx => by simpa using h.x_.2.2 x hx⟩, by rw [hbl]; exact hk⟩
  · rw [hbl]
    exact get _ _ _ h.c5 (by rw [if_neg hj])
  · by_cases e : j = d
    · rw [if_pos e] at e6 ⊢; exact e6
    · rw [if_neg e] at e6 ⊢; rw [e6]
  · rw [World.frozen?_setCell]; exact h.z i
  · rw [hbl]
    exact hs.row h.row (fun x hx e => h.ne (by simp [Value.ownBlock] at hx; omega))
  · have ht2 : t < c.blocks.length := by rw [← hbl]; exact ht
    have e : c'.blocks[t] = c.blocks[t] := by simp [hbl]
    rw [e]
    exact (h.blk t ht2 ht').keep hs (fun x e => e ▸ h.m_box) (fun x hx e => (h.own _ (List.getElem_mem ht')).1 (by rw [hx, e])) (fun _ _ m => m)
/-- What else is of the maker's blocks when one more is its own. -/
theorem blk_ne (h : MkCore o d bm gB cB vs X M c k w) {t t' : Nat} (ht : t < vs.length) (ht' : t' < vs.length) (hne : t' ≠ t) : ∀ x, vs[t'].ownBlock = some x → vs[t].ownBlock ≠ some x := by
  intro x hx e
  rcases h.dis t' t ht' ht hne with h0 | h0
  · rw [h0] at hx; cases hx
  · exact h0 (hx.trans e.symm)
/-- An instruction has been appended to the block at which the maker stands, and the block put back. -/
theorem push (h : MkCore o d bm gB cB vs X M c k w) {w1 : World} {ob : Obj} {v' : Value} {ess : List (List Value)} {es : List Value} {i : PInstr} (hkv : k < vs.length)
    (hes : es.length = 6) (hi : rInstr (fun x => ¬ M x) w es i) (hr : rAll 6 rInstr (fun x => ¬ M x) w ess c.blocks[k]!)
    (hown : w1.ownsRow 0 48 6 v' (c.blocks[k]!.length + 1) (ess.flatten ++ es)) (hg : (w.alloc ob).grownBy w1 vs[k].ownBlock) (hat : v'.ownBlock = vs[k].ownBlock ∨ v'.ownBlock = some (w.alloc ob).heap.size) :
    ∃ M', MkCore o d bm gB cB (vs.set k v') X M' { c with blocks := c.blocks.set k (c.blocks[k]! ++ [i]) } k (w1.setCell ⟨gB, k, none⟩ v') ∧ Since (fun x => M x ∧ ¬ X x) w (w1.setCell ⟨gB, k, none⟩ v') ∧ ∀ x, M' x → M x ∨ w.heap.size ≤ x := by
  have hk := h.at_
  have hgl := h.gB_lt
  have hne : ∀ x, vs[k].ownBlock = some x → x ≠ bm ∧ x ≠ gB := fun x hx => ⟨fun e => (h.own _ (List.getElem_mem hkv)).1 (hx.trans (by rw [e])), fun e => (h.own _ (List.getElem_mem hkv)).2.1 (hx.trans (by rw [e]))⟩
  have hnew : ∀ x, v'.ownBlock = some x → vs[k].ownBlock = some x ∨ x = w.heap.size + 1 := by
    intro x hx
    rcases hat with e | e
    · exact Or.inl (e ▸ hx)
    · right
      rw [e] at hx
      simp at hx
      omega
  let F : Nat → Prop := fun x => x = gB ∨ vs[k].ownBlock = some x
  have s1 : Since F w w1 := ⟨hg.os, hg.tape, hg.output, by have := hg.size; simp at this; omega, fun x hx hF => by
    rw [hg.block x (by simp; omega) (fun e => hF (Or.inr e.symm))]
    exact Below.heap_alloc _ _ _ hx⟩
  have s2 : Since F w (w1.setCell ⟨gB, k, none⟩ v') := s1.trans ((Since.setCell w1 ⟨gB, k, none⟩ v').mono (fun x hx => Or.inl hx))
  have hFM : ∀ x, F x → M x := by
    intro x hx
    rcases hx with rfl | e
    · exact h.m_row
    · exact h.m_blk hkv e
  have hFX : ∀ x, F x → M x ∧ ¬ X x := fun x hx => ⟨hFM x hx, by
    rcases hx with rfl | e
    · exact h.x_.2.1
    · exact (h.own _ (List.getElem_mem hkv)).2.2 x e⟩
  have hbm : ¬ F bm := fun f => f.elim (fun e => h.ne e.symm) (fun e => (hne bm e).1 rfl)
  have hc := fun j => s2.cell (o := j) h.lt hbm
  have hset : ∀ t (ht : t < (vs.set k v').length), (vs.set k v')[t] = if t = k then v' else vs[t]'(by simpa using ht) := by
    intro t ht
    rw [List.getElem_set]
    by_cases e : k = t
    · rw [if_pos e, if_pos e.symm]
    · rw [if_neg e, if_neg (fun e' => e e'.symm)]
  let M' : Nat → Prop := fun x => x = bm ∨ x = gB ∨ (∃ v ∈ vs.set k v', v.ownBlock = some x) ∨ X x
  have hM' : ∀ x, M' x → M x ∨ x = w.heap.size + 1 := by
    intro x hx
    rcases hx with rfl | rfl | ⟨v, hv, e⟩ | hx
    · exact Or.inl h.m_box
    · exact Or.inl h.m_row
    · rcases List.mem_or_eq_of_mem_set hv with hv | rfl
      · exact Or.inl ((h.mine x).2 (Or.inr (Or.inr (Or.inl ⟨v, hv, e⟩))))
      · rcases hnew x e with e | e
        · exact Or.inl (h.m_blk hkv e)
        · exact Or.inr e
    · exact Or.inl ((h.mine x).2 (Or.inr (Or.inr (Or.inr hx))))
  have hrow1 : w1.ownsRow 0 46 1 (.slice (some ⟨gB, 0, none⟩) c.blocks.length cB) c.blocks.length vs := by
    have s1' : Since (fun x => vs[k].ownBlock = some x) w w1 := ⟨hg.os, hg.tape, hg.output, by have := hg.size; simp at this; omega, fun x hx hF => by
      rw [hg.block x (by simp; omega) (fun e => hF e.symm)]
      exact Below.heap_alloc _ _ _ hx⟩
    refine s1'.row h.row (fun x hx e => (hne x e).2 ?_)
    simp [Value.ownBlock] at hx
    exact hx.symm
  refine ⟨M', ⟨Nat.lt_of_lt_of_le h.lt s2.size, (hc _).trans h.c0, (hc _).trans h.c1, (hc _).trans h.c2, (hc _).trans h.c3, (hc _).trans h.c4, by rw [hc, h.c5]; simp, (hc _).trans h.c6, fun j => (s2.frozen h.lt hbm).trans (h.z j), h.od, h.fit, ?_, by simpa using h.len, fun t ht ht' => ?_, h.ne, ?_, ?_, fun x => Iff.rfl, ⟨h.x_.1, h.x_.2.1, fun x hx => Nat.lt_of_lt_of_le (h.x_.2.2 x hx) s2.size⟩, by simpa using hk⟩, s2.mono hFX, fun x hx => (hM' x hx).imp_right (by omega)⟩
  · simpa using row_set hrow1 hk v'
  · have ht2 : t < c.blocks.length := by simpa using ht
    have ht3 : t < vs.length := by simpa using ht'
    rw [hset t ht']
    by_cases e : t = k
    · subst e
      rw [if_pos rfl]
      have e2 : c.blocks[t]! = c.blocks[t] := by simp [ht2]
      refine ⟨ess ++ [es], ?_, ?_⟩
      · have hown2 : (w1.setCell ⟨gB, t, none⟩ v').ownsRow 0 48 6 v' (c.blocks[t]!.length + 1) (ess.flatten ++ es) :=
          (Since.setCell w1 ⟨gB, t, none⟩ v').row hown (fun x hx e => by
            rcases hnew x hx with e3 | e3
            · exact (hne x e3).2 e
            · simp at e; omega)
        simp only [List.getElem_set_self, List.length_append, List.length_cons, List.length_nil, List.flatten_append, List.flatten_cons, List.flatten_nil, List.append_nil]
        exact hown2
      · simp only [List.getElem_set_self]
        have kp : Keep (fun x => ¬ M x) w (w1.setCell ⟨gB, t, none⟩ v') := ⟨s2.size, fun x hx hS => s2.block x hx (fun f => hS (hFM x f))⟩
        have up : ∀ x, x < w.heap.size → ¬ M x → ¬ M' x := fun x hx hm m => (hM' x m).elim hm (fun e => by omega)
        exact rAll_snoc hes (Good.keep kp up hi) (rAll_keep kp up hr)
    · rw [if_neg e]
      have e2 : ({ c with blocks := c.blocks.set k (c.blocks[k]! ++ [i]) } : PCode).blocks[t] = c.blocks[t] := by
        simp only
        rw [List.getElem_set_ne (fun h => e h.symm)]
      rw [e2]
      refine (h.blk t ht2 ht3).keep s2 hFM (fun x hx f => ?_) (fun x hx m => (hM' x m).elim id (fun e => by omega))
      rcases f with f | f
      · exact (h.own _ (List.getElem_mem ht3)).2.1 (hx.trans (by rw [f]))
      · exact h.blk_ne hkv ht3 e x hx f
  · intro v hv
    rcases List.mem_or_eq_of_mem_set hv with hv | rfl
    · exact h.own v hv
    · refine ⟨fun e => ?_, fun e => ?_, fun x hx hX => ?_⟩
      · rcases hnew _ e with e3 | e3
        · exact (hne _ e3).1 rfl
        · have := h.lt; omega
      · rcases hnew _ e with e3 | e3
        · exact (hne _ e3).2 rfl
        · omega
      · rcases hnew _ hx with e3 | e3
        · exact (h.own _ (List.getElem_mem hkv)).2.2 x e3 hX
        · have := h.x_.2.2 x hX; omega
  · have key : ∀ t (ht : t < vs.length), t ≠ k → vs[t].ownBlock = none ∨ vs[t].ownBlock ≠ v'.ownBlock := by
      intro t ht hne'
      cases hv : vs[t].ownBlock with
      | none => exact Or.inl rfl
      | some x =>
        right
        intro e
        rcases hnew x e.symm with e3 | e3
        · exact h.blk_ne hkv ht hne' x hv e3
        · have := (h.blk t (by have := h.len; omega) ht).lt x hv; omega
    intro a b ha hb hab
    have ha2 : a < vs.length := by simpa using ha
    have hb2 : b < vs.length := by simpa using hb
    rw [hset a ha, hset b hb]
    by_cases e1 : a = k
    · rw [if_pos e1, if_neg (fun e => hab (e1.trans e.symm))]
      rcases key b hb2 (fun e => hab (e1.trans e.symm)) with e | e
      · cases hv : v'.ownBlock with
        | none => exact Or.inl rfl
        | some x => right; rw [e]; simp
      · exact Or.inr (fun e' => e e'.symm)
    · rw [if_neg e1]
      by_cases e2 : b = k
      · rw [if_pos e2]; exact key a ha2 e1
      · rw [if_neg e2]; exact h.dis a b ha2 hb2 hab

/-- A new block, without instructions, has been appended to the row, and the row put back into the box. -/
theorem grow (h : MkCore o d bm gB cB vs X M c k w) {w1 : World} {ob : Obj} {v' : Value} {g' c' : Nat} (hv' : v' = .slice (some ⟨g', 0, none⟩) (c.blocks.length + 1) c')
    (hown : w1.ownsRow 0 46 1 v' (c.blocks.length + 1) (vs ++ [.slice none 0 0])) (hg : (w.alloc ob).grownBy w1 (some gB)) (hat : v'.ownBlock = some gB ∨ v'.ownBlock = some (w.alloc ob).heap.size) :
    ∃ M', MkCore o d bm g' c' (vs ++ [.slice none 0 0]) X M' { c with blocks := c.blocks ++ [[]] } k (w1.setCell ⟨bm, o + 5, none⟩ v') ∧ Since (fun x => M x ∧ ¬ X x) w (w1.setCell ⟨bm, o + 5, none⟩ v') ∧ ∀ x, M' x → M x ∨ w.heap.size ≤ x := by
  have hnew : g' = gB ∨ g' = w.heap.size + 1 := by
    rw [hv'] at hat
    simpa [Value.ownBlock] using hat
  let F : Nat → Prop := fun x => x = gB ∨ x = bm
  have s1 : Since F w w1 := ⟨hg.os, hg.tape, hg.output, by have := hg.size; simp at this; omega, fun x hx hF => by
    rw [hg.block x (by simp; omega) (fun e => hF (Or.inl (by simpa using e)))]
    exact Below.heap_alloc _ _ _ hx⟩
  have s2 : Since F w (w1.setCell ⟨bm, o + 5, none⟩ v') := s1.trans ((Since.setCell w1 ⟨bm, o + 5, none⟩ v').mono (fun x hx => Or.inr hx))
  have s0 : Since (fun x => x = gB) w w1 := ⟨hg.os, hg.tape, hg.output, by have := hg.size; simp at this; omega, fun x hx hF => by
    rw [hg.block x (by simp; omega) (fun e => hF (by simpa using e))]
    exact Below.heap_alloc _ _ _ hx⟩
  have hFM : ∀ x, F x → M x := by
    intro x hx
    rcases hx with rfl | rfl
    · exact h.m_row
    · exact h.m_box
  have hFX : ∀ x, F x → M x ∧ ¬ X x := fun x hx => ⟨hFM x hx, by
    rcases hx with rfl | rfl
    · exact h.x_.2.1
    · exact h.x_.1⟩
  have hc1 := fun j => s0.cell (o := j) h.lt (fun e => h.ne e.symm)
  have hc : ∀ j, j ≠ o + 5 → (w1.setCell ⟨bm, o + 5, none⟩ v').cell? ⟨bm, j, none⟩ = w.cell? ⟨bm, j, none⟩ := fun j hj => by
    rw [World.cell?_setCell_other (h := fun e => hj (by injection e with _ e1 _; exact e1.symm)), hc1]
  let M' : Nat → Prop := fun x => x = bm ∨ x = g' ∨ (∃ v ∈ vs ++ [.slice none 0 0], v.ownBlock = some x) ∨ X x
  have hM' : ∀ x, M' x → M x ∨ x = w.heap.size + 1 := by
    intro x hx
    rcases hx with rfl | rfl | ⟨v, hv, e⟩ | hx
    · exact Or.inl h.m_box
    · rcases hnew with rfl | e
      · exact Or.inl h.m_row
      · exact Or.inr e
    · rcases List.mem_append.1 hv with hv | hv
      · exact Or.inl ((h.mine x).2 (Or.inr (Or.inr (Or.inl ⟨v, hv, e⟩))))
      · obtain rfl : v = .slice none 0 0 := by simpa using hv
        simp [Value.ownBlock] at e
    · exact Or.inl ((h.mine x).2 (Or.inr (Or.inr (Or.inr hx))))
  have hlt := h.lt
  have hneb : g' ≠ bm := by
    rcases hnew with rfl | e
    · exact h.ne
    · omega
  have hod := h.od
  refine ⟨M', ⟨Nat.lt_of_lt_of_le h.lt s2.size, (hc _ (by omega)).trans h.c0, (hc _ (by omega)).trans h.c1, (hc _ (by omega)).trans h.c2, (hc _ (by omega)).trans h.c3, (hc _ (by omega)).trans h.c4, ?_, (hc _ (by omega)).trans h.c6, fun j => ?_, h.od, h.fit, ?_, by simp [h.len], fun t ht ht' => ?_, hneb, ?_, ?_, fun x => Iff.rfl, ⟨h.x_.1, ?_, fun x hx => Nat.lt_of_lt_of_le (h.x_.2.2 x hx) s2.size⟩, by have := h.at_; simp; omega⟩, s2.mono hFX, fun x hx => (hM' x hx).imp_right (by omega)⟩
  · rw [World.cell?_setCell_same _ _ _ ((hc1 _).trans h.c5), hv']
    simp
  · rw [World.frozen?_setCell, s0.frozen h.lt (fun e => h.ne e.symm)]
    exact h.z j
  · have := (Since.setCell w1 ⟨bm, o + 5, none⟩ v').row hown (fun x hx e => by
      rw [hv'] at hx
      simp [Value.ownBlock] at hx
      simp at e
      omega)
    rw [hv'] at this ⊢
    simpa using this
  · have ht0 : t < (c.blocks ++ [[]]).length := ht
    by_cases e : t < c.blocks.length
    · have e2 : ({ c with blocks := c.blocks ++ [[]] } : PCode).blocks[t] = c.blocks[t] := by simp only; rw [List.getElem_append_left e]
      have e3 : (vs ++ [.slice none 0 0])[t] = vs[t]'(by have := h.len; omega) := List.getElem_append_left _
      rw [e2, e3]
      refine (h.blk t e (by have := h.len; omega)).keep s2 hFM (fun x hx f => ?_) (fun x hx m => (hM' x m).elim id (fun e => by omega))
      have ho := h.own _ (List.getElem_mem (by have := h.len; omega : t < vs.length))
      rcases f with f | f
      · exact ho.2.1 (hx.trans (by rw [f]))
      · exact ho.1 (hx.trans (by rw [f]))
    · have et : t = c.blocks.length := by simp at ht0; omega
      subst et
      have e2 : ({ c with blocks := c.blocks ++ [[]] } : PCode).blocks[c.blocks.length] = [] := by simp
      have e3 : (vs ++ [.slice none 0 0])[c.blocks.length] = .slice none 0 0 := by simp [h.len]
      rw [e2, e3]
      exact Blk.nil _ _
  · intro v hv
    rcases List.mem_append.1 hv with hv | hv
    · refine ⟨(h.own v hv).1, ?_, (h.own v hv).2.2⟩
      rcases hnew with rfl | e
      · exact (h.own v hv).2.1
      · obtain ⟨t, ht, rfl⟩ := List.mem_iff_getElem.1 hv
        intro e2
        have := (h.blk t (by have := h.len; omega) ht).lt g' e2
        omega
    · obtain rfl : v = .slice none 0 0 := by simpa using hv
      simp [Value.ownBlock]
  · intro a b ha hb hab
    have l := h.len
    by_cases ea : a < vs.length
    · by_cases eb : b < vs.length
      · rw [List.getElem_append_left ea, List.getElem_append_left eb]
        exact h.dis a b ea eb hab
      · rw [show (vs ++ [.slice none 0 0])[b] = .slice none 0 0 by rw [List.getElem_append_right (by omega)]; simp]
        cases hv : (vs ++ [.slice none 0 0])[a].ownBlock with
        | none => exact Or.inl rfl
        | some x => right; simp [Value.ownBlock]
    · left
      rw [show (vs ++ [.slice none 0 0])[a] = .slice none 0 0 by rw [List.getElem_append_right (by omega)]; simp]
      rfl
  · rcases hnew with rfl | e
    · exact h.x_.2.1
    · intro hX
      have := h.x_.2.2 g' hX
      omega
end MkCore
end Go.Pst

/-
  rt's maker under way: where its box is, what else is to stay, for how many more steps there is room (plain memory).
-/
namespace Go.Pst
open Go.RowKit
set_option linter.unusedVariables false
set_option linter.unusedSimpArgs false

/-- There is room for n more steps. -/
structure Fine (n : Nat) (c : PCode) (k : Nat) : Prop where
  vars : 0 ≤ c.vars ∧ c.vars + n ≤ 1000000
  nb : c.blocks.length + n ≤ 1000000
  len : ∀ b ∈ c.blocks, b.length + n ≤ 1000000
  at_ : k < c.blocks.length
def addF (c : PCode) (k : Nat) (i : PInstr) : PCode := { c with blocks := c.blocks.set k (c.blocks[k]! ++ [i]) }
def freshF (c : PCode) : PCode := { c with vars := c.vars + 1 }
def blockF' (c : PCode) : PCode := { c with blocks := c.blocks ++ [[]] }
theorem Fine.weaken {n m : Nat} {c : PCode} {k : Nat} (h : Fine n c k) (hm : m ≤ n) : Fine m c k := ⟨⟨h.vars.1, by have := h.vars.2; omega⟩, by have := h.nb; omega, fun b hb => by have := h.len b hb; omega, h.at_⟩
theorem Fine.fresh {n : Nat} {c : PCode} {k : Nat} (h : Fine (n + 1) c k) : Fine n (freshF c) k := ⟨⟨by have := h.vars.1; show 0 ≤ c.vars + 1; omega, by have := h.vars.2; show c.vars + 1 + n ≤ _; omega⟩, by have := h.nb; show c.blocks.length + n ≤ _; omega, fun b hb => by have := h.len b hb; omega, h.at_⟩
theorem Fine.add {n : Nat} {c : PCode} {k : Nat} {i : PInstr} (h : Fine (n + 1) c k) : Fine n (addF c k i) k := by
  refine ⟨⟨h.vars.1, by have := h.vars.2; show c.vars + n ≤ _; omega⟩, by have := h.nb; simp [addF]; omega, fun b hb => ?_, by have := h.at_; simpa [addF] using this⟩
  rcases List.mem_or_eq_of_mem_set hb with hb | rfl
  · have := h.len b hb; omega
  · have hk := h.at_
    have := h.len c.blocks[k]! (by simp [hk])
    simp
    simp at this
    omega
theorem Fine.block {n : Nat} {c : PCode} {k : Nat} (h : Fine (n + 1) c k) : Fine n (blockF' c) k := by
  refine ⟨⟨h.vars.1, by have := h.vars.2; show c.vars + n ≤ _; omega⟩, by have := h.nb; simp [blockF']; omega, fun b hb => ?_, by have := h.at_; simp [blockF']; omega⟩
  rcases List.mem_append.1 hb with hb | hb
  · have := h.len b hb; omega
  · obtain rfl : b = [] := by simpa using hb
    have := h.nb; simp; omega
theorem Fine.goto {n : Nat} {c : PCode} {k k' : Nat} (h : Fine n c k) (hk : k' < c.blocks.length) : Fine n c k' := ⟨h.vars, h.nb, h.len, hk⟩

/-- The maker's box bm, the code c so far, the block k to which code is added; the cells l stay, and nothing of the code lies in their blocks (X); all since w0 lies from block B on. -/
def Env (B : Nat) (w0 : World) (bm : Nat) (l : List (Nat × Nat × Value)) (n : Nat) (c : PCode) (k : Nat) (w : World) : Prop :=
  ∃ X M : Nat → Prop, MkAt 0 6 bm X M c k w ∧ Fine n c k ∧ (∀ p ∈ l, X p.1 ∧ w.cell? ⟨p.1, p.2.1, none⟩ = some p.2.2 ∧ w.frozen? ⟨p.1, p.2.1, none⟩ = false) ∧ Below B w0 w ∧ B ≤ w0.heap.size ∧ ∀ x, x < B → X x
/-- .. whatever the code is. -/
def EnvX (B : Nat) (w0 : World) (bm : Nat) (l : List (Nat × Nat × Value)) (w : World) : Prop := ∃ n c k, Env B w0 bm l n c k w

variable {B bm n k : Nat} {w0 w w' : World} {l : List (Nat × Nat × Value)} {c : PCode}
theorem Env.x (h : Env B w0 bm l n c k w) : EnvX B w0 bm l w := ⟨n, c, k, h⟩
theorem Env.fine (h : Env B w0 bm l n c k w) : Fine n c k := h.choose_spec.choose_spec.2.1
theorem Env.weaken {m : Nat} (h : Env B w0 bm l n c k w) (hm : m ≤ n) : Env B w0 bm l m c k w := by
  obtain ⟨X, M, h1, h2, h3⟩ := h
  exact ⟨X, M, h1, h2.weaken hm, h3⟩
theorem Env.later (h : Env B w0 bm l n c k w) (hb : Below w.heap.size w w') : Env B w0 bm l n c k w' := by
  obtain ⟨X, M, ⟨gB, cB, vs, h1⟩, h2, h3, h4, h5, h6⟩ := h
  have hx := h1.x_.2.2
  exact ⟨X, M, ⟨gB, cB, vs, h1.below hb⟩, h2, fun p hp => ⟨(h3 p hp).1, (hb.cell (p := ⟨p.1, p.2.1, none⟩) (hx _ (h3 p hp).1)).trans (h3 p hp).2.1, (hb.frozen (p := ⟨p.1, p.2.1, none⟩) (hx _ (h3 p hp).1)).trans (h3 p hp).2.2⟩, h4.trans (hb.mono (Nat.le_trans h5 h4.size)), h5, h6⟩
theorem Env.drew (h : Env B w0 bm l n c k w) : Env B w0 bm l n c k w.drew := h.later (Drawn.below (Drawn.drew _) _)
theorem Env.drewN (h : Env B w0 bm l n c k w) (m : Nat) : Env B w0 bm l n c k (w.drewN m) := h.later (Drawn.below ⟨m, rfl⟩ _)
theorem Env.alloc (h : Env B w0 bm l n c k w) (o : Obj) : Env B w0 bm l n c k (w.alloc o) := h.later ((Below.refl _ _).alloc (Nat.le_refl _) o)
theorem EnvX.later (h : EnvX B w0 bm l w) (hb : Below w.heap.size w w') : EnvX B w0 bm l w' := by
  obtain ⟨n, c, k, h⟩ := h
  exact ⟨n, c, k, h.later hb⟩
theorem EnvX.drew (h : EnvX B w0 bm l w) : EnvX B w0 bm l w.drew := h.later (Drawn.below (Drawn.drew _) _)
theorem EnvX.alloc (h : EnvX B w0 bm l w) (o : Obj) : EnvX B w0 bm l (w.alloc o) := h.later ((Below.refl _ _).alloc (Nat.le_refl _) o)
theorem EnvX.cell (h : EnvX B w0 bm l w) {b o : Nat} {v : Value} (hm : (b, o, v) ∈ l) : w.cell? ⟨b, o, none⟩ = some v := by
  obtain ⟨n, c, k, X, M, h1, h2, h3, h4⟩ := h
  exact (h3 _ hm).2.1
theorem Env.cell (h : Env B w0 bm l n c k w) {b o : Nat} {v : Value} (hm : (b, o, v) ∈ l) : w.cell? ⟨b, o, none⟩ = some v := h.x.cell hm
theorem Env.frozen (h : Env B w0 bm l n c k w) {b o : Nat} {v : Value} (hm : (b, o, v) ∈ l) : w.frozen? ⟨b, o, none⟩ = false := by
  obtain ⟨X, M, h1, h2, h3, h4⟩ := h
  exact (h3 _ hm).2.2
theorem Env.lt (h : Env B w0 bm l n c k w) {b o : Nat} {v : Value} (hm : (b, o, v) ∈ l) : b < w.heap.size := by
  obtain ⟨X, M, ⟨gB, cB, vs, h1⟩, h2, h3, h4⟩ := h
  exact h1.x_.2.2 _ (h3 _ hm).1
theorem Env.below (h : Env B w0 bm l n c k w) : Below B w0 w := h.choose_spec.choose_spec.2.2.2.1
/-- A variable's new box. -/
theorem Env.box (h : Env B w0 bm l n c k w) (v : Value) (t : TypeId) : Env B w0 bm ((w.heap.size, 0, v) :: l) n c k (w.alloc (.cells #[v] t)) := by
  obtain ⟨-, -, -, -, -, h4, -, -⟩ := id (h.alloc (.cells #[v] t))
  obtain ⟨X, M, ⟨gB, cB, vs, h1⟩, h2, h3, h4', h5, h6⟩ := h
  have hx := h1.x_.2.2
  have hs : Since (fun _ => False) w (w.alloc (.cells #[v] t)) := Since.alloc _ _ _
  have h7 := h1.below ((Below.refl _ _).alloc (Nat.le_refl _) (.cells #[v] t))
  refine ⟨fun x => X x ∨ x = w.heap.size, fun x => M x ∨ x = w.heap.size, ⟨gB, cB, vs, { h7 with blk := fun t ht ht' => (h1.blk t ht ht').keep hs (fun _ f => f.elim) (fun _ _ => id) (fun k hk m => m.elim id (fun e => by omega)), own := fun v hv => ⟨(h1.own v hv).1, (h1.own v hv).2.1, fun x hx m => m.elim ((h1.own v hv).2.2 x hx) (fun e => ?_)⟩, mine := fun x => ?_, x_ := ⟨fun m => m.elim h1.x_.1 (fun e => by have := h1.lt; omega), fun m => m.elim h1.x_.2.1 (fun e => by have := h1.gB_lt; omega), fun x m => ?_⟩ }⟩, h2, fun p hp => ?_, h4, h5, fun x hx => Or.inl (h6 x hx)⟩
  · obtain ⟨t, ht, rfl⟩ := List.mem_iff_getElem.1 hv
    have := (h1.blk t (by have := h1.len; omega) ht).lt x hx
    omega
  · rw [h1.mine x]
    constructor
    · rintro ((h | h | h | h) | h)
      · exact Or.inl h
      · exact Or.inr (Or.inl h)
      · exact Or.inr (Or.inr (Or.inl h))
      · exact Or.inr (Or.inr (Or.inr (Or.inl h)))
      · exact Or.inr (Or.inr (Or.inr (Or.inr h)))
    · rintro (h | h | h | h | h)
      · exact Or.inl (Or.inl h)
      · exact Or.inl (Or.inr (Or.inl h))
      · exact Or.inl (Or.inr (Or.inr (Or.inl h)))
      · exact Or.inl (Or.inr (Or.inr (Or.inr h)))
      · exact Or.inr h
  · rcases m with m | m
    · have := hx x m
      simp; omega
    · simp; omega
  · rcases List.mem_cons.1 hp with rfl | hp
    · exact ⟨Or.inr rfl, by rw [World.cell?_alloc_new]; rfl, World.frozen?_alloc_new _ _ _ _⟩
    · have hlt := hx _ (h3 p hp).1
      exact ⟨Or.inl (h3 p hp).1, by rw [World.cell?_alloc_lt _ _ _ hlt]; exact (h3 p hp).2.1, (hs.frozen hlt id).trans (h3 p hp).2.2⟩
theorem Since.of_below' {w w' : World} (hb : Below w.heap.size w w') (F : Nat → Prop) : Since F w w' := ⟨hb.os, hb.tape, hb.output, hb.size, fun k hk _ => hb.block k hk⟩
/-- Fewer cells to stay. -/
theorem Env.fewer {l' : List (Nat × Nat × Value)} (h : Env B w0 bm l n c k w) (hl : ∀ p ∈ l', p ∈ l) : Env B w0 bm l' n c k w := by
  obtain ⟨X, M, h1, h2, h3, h4⟩ := h
  exact ⟨X, M, h1, h2, fun p hp => h3 p (hl p hp), h4⟩
/-- One of the cells that stay is written anew. -/
theorem Env.poke {l' : List (Nat × Nat × Value)} {b : Nat} {v v' : Value} (h : Env B w0 bm l n c k w) (hm : (b, 0, v) ∈ l) (hB : B ≤ b) (hl : ∀ p ∈ l', p ∈ l ∧ p.1 ≠ b) : Env B w0 bm ((b, 0, v') :: l') n c k (w.setCell ⟨b, 0, none⟩ v') := by
  have hcell := h.cell hm
  have hlt := h.lt hm
  obtain ⟨X, M, ⟨gB, cB, vs, h1⟩, h2, h3, h4, h5, h6⟩ := h
  have hs := Since.setCell w ⟨b, 0, none⟩ v'
  have hXb := (h3 _ hm).1
  have h8 := h4.size
  have hbm : ¬ (bm = b) := fun e => h1.x_.1 (e ▸ hXb)
  have hgB : ¬ (gB = b) := fun e => h1.x_.2.1 (e ▸ hXb)
  have hc := fun j => hs.cell (o := j) h1.lt hbm
  refine ⟨X, M, ⟨gB, cB, vs, Nat.lt_of_lt_of_le h1.lt hs.size, (hc _).trans h1.c0, (hc _).trans h1.c1, (hc _).trans h1.c2, (hc _).trans h1.c3, (hc _).trans h1.c4, (hc _).trans h1.c5, (hc _).trans h1.c6, fun j => (hs.frozen h1.lt hbm).trans (h1.z j), h1.od, h1.fit,
    hs.row h1.row (fun x e f => by have f : x = b := f; simp [Value.ownBlock] at e; omega), h1.len,
    fun t ht ht' => (h1.blk t ht ht').keep hs (fun x e => by have e : x = b := e; exact e ▸ (h1.mine b).2 (Or.inr (Or.inr (Or.inr hXb)))) (fun x hx e => (h1.own _ (List.getElem_mem ht')).2.2 x hx (by have e : x = b := e; exact e ▸ hXb)) (fun _ _ m => m), h1.ne, h1.own, h1.dis, h1.mine, ⟨h1.x_.1, h1.x_.2.1, fun x hx => by simpa using h1.x_.2.2 x hx⟩, h1.at_⟩, h2, fun p hp => ?_, h4.trans (hs.below (by omega) (fun k hk => by have hk : k = b := hk; omega)), h5, h6⟩
  rcases List.mem_cons.1 hp with rfl | hp
  · exact ⟨hXb, World.cell?_setCell_same _ _ _ hcell, by rw [World.frozen?_setCell]; exact (h3 _ hm).2.2⟩
  · obtain ⟨hp1, hp2⟩ := hl p hp
    have := hs.cell (b := p.1) (o := p.2.1) (h1.x_.2.2 _ (h3 p hp1).1) hp2
    exact ⟨(h3 p hp1).1, this.trans (h3 p hp1).2.1, by rw [World.frozen?_setCell]; exact (h3 p hp1).2.2⟩
theorem Env.base (h : Env B w0 bm l n c k w) : B ≤ w.heap.size := by
  obtain ⟨X, M, h1, h2, h3, h4, h5, h6⟩ := h
  exact Nat.le_trans h5 h4.size
end Go.Pst

/-
  rt's maker: its small methods, walked.
-/
namespace Go.Proofs.Ytaomlfbcfmmhlaa
open Go.RowKit Go.Pst
set_option linter.unusedVariables false
set_option linter.unusedSimpArgs false

variable {B bm n k : Nat} {w0 w : World} {l : List (Nat × Nat × Value)} {c : PCode}

theorem ret_int {k : IntKind} {a b : Int} (h : a = b) : Ending.returned (.int k a) = .returned (.int k b) := by rw [h]
/-- Behind a store to the maker's box. -/
theorem env_box {X M : Nat → Prop} {gB cB : Nat} {vs : List Value} {c' : PCode} {k' n' j : Nat} {u : Value} (hc' : MkCore 0 6 bm gB cB vs X M c' k' (w.setCell ⟨bm, j, none⟩ u)) (hc : M bm) (hf : Fine n' c' k')
    (hl : ∀ p ∈ l, X p.1 ∧ w.cell? ⟨p.1, p.2.1, none⟩ = some p.2.2 ∧ w.frozen? ⟨p.1, p.2.1, none⟩ = false) (hb : Below B w0 w) (hB : B ≤ w0.heap.size) (hM : ∀ x, x < B → X x) : Env B w0 bm l n' c' k' (w.setCell ⟨bm, j, none⟩ u) := by
  refine ⟨X, M, ⟨gB, cB, vs, hc'⟩, hf, fun p hp => ⟨(hl p hp).1, ?_, by rw [World.frozen?_setCell]; exact (hl p hp).2.2⟩, hb.setCell (Nat.le_of_not_lt fun h => hc'.x_.1 (hM _ h)) u, hB, hM⟩
  rw [World.cell?_setCell_other (h := fun e => hc'.x_.1 (by injection e with e1 _ _; rw [e1]; exact (hl p hp).1))]
  exact (hl p hp).2.1

theorem fresh_any (h : Env B w0 bm l (n + 1) c k w) :
    Calls Try.prog 42 #[.pointer (some ⟨bm, 0, none⟩)] w fun e w' => e = .returned (.int .i64 c.vars) ∧ Env B w0 bm l n (freshF c) k w' := by
  obtain ⟨X, M, ⟨gB, cB, vs, hc⟩, hf, hl, hb, hB, hM⟩ := h
  have c3 : w.cell? ⟨bm, 3, none⟩ = some (.int .i64 c.vars) := by simpa using hc.c3
  have z3 := hc.z 3
  have hv1 := hf.vars.1
  have hv2 : c.vars ≤ 1000000 := by have := hf.vars.2; omega
  have Hc := Lib.hid hc
  have Hf := Lib.hid hf
  have Hl := Lib.hid hl
  have Hb := Lib.hid hb
  clear hc hf hl hb
  go_enter Try.func42, Try.ntmps42
  go_wp2_with fail
  go_ret
  refine ⟨ret_int (by omega), ?_⟩
  have hfit := Hc.out.fit
  exact env_box (Hc.out.setBox 3 _ (freshF c) k (by decide) rfl Hc.out.at_ ⟨hfit.1, hfit.2.1, hfit.2.2.1, ⟨by show _ ≤ c.vars + 1; omega, by show c.vars + 1 ≤ _; omega⟩, hfit.2.2.2.2⟩ rfl rfl rfl rfl rfl rfl) Hc.out.m_box Hf.out.fresh Hl.out Hb.out hB hM

/-- Behind a step that wrote the maker's blocks alone. -/
theorem env_step {X M M' : Nat → Prop} {W w' : World} {c' : PCode} {k' n' : Nat} (hx : ∀ x, X x → x < w.heap.size) (hw : Below w.heap.size w W) (hl : ∀ p ∈ l, X p.1 ∧ w.cell? ⟨p.1, p.2.1, none⟩ = some p.2.2 ∧ w.frozen? ⟨p.1, p.2.1, none⟩ = false) (hb : Below B w0 w) (hB : B ≤ w0.heap.size) (hM : ∀ x, x < B → X x)
    (hc' : MkAt 0 6 bm X M' c' k' w') (hS : Since (fun x => M x ∧ ¬ X x) W w') (hM' : ∀ x, M' x → M x ∨ W.heap.size ≤ x) (hf : Fine n' c' k') : Env B w0 bm l n' c' k' w' := by
  have h1 := hb.size
  have h2 := hw.size
  refine ⟨X, M', hc', hf, fun p hp => ?_, hb.trans ((hw.mono (by omega)).trans (hS.below (by omega) (fun k hk => Nat.le_of_not_lt fun h => hk.2 (hM _ h)))), hB, hM⟩
  obtain ⟨l1, l3⟩ := hl p hp
  have l2 := hx _ l1
  exact ⟨l1, (hS.cell (by omega) (fun f => f.2 l1)).trans ((hw.cell (p := ⟨p.1, p.2.1, none⟩) l2).trans l3.1), (hS.frozen (by omega) (fun f => f.2 l1)).trans ((hw.frozen (p := ⟨p.1, p.2.1, none⟩) l2).trans l3.2)⟩
theorem infoI : (Try.prog.info? 48).map (fun i => (i.zero, i.size, i.bytes)) = some (some (.agg #[.int .i64 0, .slice none 0 0, .slice none 0 0, .int .i64 0, .string ByteArray.empty, .slice none 0 0]), 6, 104) := by kernel_rfl
set_option maxHeartbeats 4000000 in
theorem add_anyM {X M : Nat → Prop} {gB cB : Nat} {vs : List Value} {op nn : Int} {s : ByteArray} {v1 v2 v5 : Value} {i : PInstr} (hc' : MkCore 0 6 bm gB cB vs X M c k w) (hf : Fine (n + 1) c k) (hl' : ∀ p ∈ l, X p.1 ∧ w.cell? ⟨p.1, p.2.1, none⟩ = some p.2.2 ∧ w.frozen? ⟨p.1, p.2.1, none⟩ = false) (hb' : Below B w0 w) (hB : B ≤ w0.heap.size) (hM : ∀ x, x < B → X x) (hi' : rInstr (fun x => ¬ M x) w [.int .i64 op, v1, v2, .int .i64 nn, .string s, v5] i) :
    Calls Try.prog 67 #[.pointer (some ⟨bm, 0, none⟩), .agg #[.int .i64 op, v1, v2, .int .i64 nn, .string s, v5]] w fun e w' => e = .returned (.tuple #[]) ∧ Env B w0 bm l n (addF c k i) k w' ∧ Since (fun x => M x ∧ ¬ X x) w w' := by
  have hkv : k < vs.length := by rw [hc'.len]; exact hc'.at_
  have hblk := hc'.blk k hc'.at_ hkv
  have hbl := hf.len (c.blocks[k]'hc'.at_) (List.getElem_mem hc'.at_)
  have eL : c.blocks[k]'hc'.at_ = c.blocks[k]! := by simp [hc'.at_]
  rw [eL] at hblk hbl
  obtain ⟨ess, ho, hr⟩ := hblk
  obtain ⟨av, cv, hav, hcv1, hcv2⟩ := row_slice ho
  obtain ⟨gg, cc, hgv, -, -, hgl, hgc, hgz⟩ := row_at hc'.row (i := k) (u := vs[k]) (by simp [hkv])
  obtain ⟨rfl, rfl⟩ : gB = gg ∧ cB = cc := by simpa using hgv
  obtain ⟨u1, u2, u5, hu, -, h1, h2, h5⟩ := id hi'
  obtain ⟨rfl, rfl, rfl⟩ : v1 = u1 ∧ v2 = u2 ∧ v5 = u5 := by simp at hu; exact ⟨hu.2.1, hu.2.2.1, hu.2.2.2.2.2⟩
  obtain ⟨a1, n1, rfl⟩ := rSlice_shape h1
  obtain ⟨a2, n2, rfl⟩ := rSlice_shape h2
  obtain ⟨a5, n5, rfl⟩ := rSlice_shape h5
  have c5 : w.cell? ⟨bm, 5, none⟩ = some (.slice (some ⟨gB, 0, none⟩) c.blocks.length cB) := by simpa using hc'.c5
  have c6 := hc'.c6
  rw [hav] at hgc
  generalize hLL : c.blocks[k]! = L at *
  have hk1 : (k : Int) < c.blocks.length := by have := hc'.at_; omega
  have hk0 : (0 : Int) ≤ k := by omega
  have hnb := hf.nb
  have hnb2 : c.blocks.length ≤ 9223372036854775807 := by omega
  have hbm := hc'.lt
  have Hc := Lib.hid hc'
  have Hf := Lib.hid hf
  have Hl := Lib.hid hl'
  have Hb := Lib.hid hb'
  have Hi := Lib.hid hi'
  have Ho := Lib.hid ho
  have Hr := Lib.hid hr
  have Hav := Lib.hid hav
  have HLL := Lib.hid hLL
  clear hc' hf hl' hb' hi' ho hr hav hgv hLL eL hu h1 h2 h5
  go_enter Try.func67, Try.ntmps67
  go_wp2_with fail
  have hgB := Hc.out.gB_lt
  obtain ⟨i0, hi0, hz0, hz1, hz2⟩ := info_parts infoI
  have hCB : ∀ x, w.cell? x = w.cell? x := fun _ => rfl
  generalize hwB : w.alloc (.cells #[.int .i64 op, .slice a1 i.ds.length n1, .slice a2 i.ars.length n2, .int .i64 nn, .string s, .slice a5 i.to.length n5] 48) = wB
  have bel : Below w.heap.size w wB := by rw [← hwB]; exact (Below.refl _ _).alloc (Nat.le_refl _) _
  have hbs : wB.heap.size = w.heap.size + 1 := by rw [← hwB]; simp
  have q0 : wB.cell? ⟨w.heap.size, 0, none⟩ = some (.int .i64 op) := by rw [← hwB, World.cell?_alloc_new]; rfl
  have q1 : wB.cell? ⟨w.heap.size, 1, none⟩ = some (.slice a1 i.ds.length n1) := by rw [← hwB, World.cell?_alloc_new]; rfl
  have q2 : wB.cell? ⟨w.heap.size, 2, none⟩ = some (.slice a2 i.ars.length n2) := by rw [← hwB, World.cell?_alloc_new]; rfl
  have q3 : wB.cell? ⟨w.heap.size, 3, none⟩ = some (.int .i64 nn) := by rw [← hwB, World.cell?_alloc_new]; rfl
  have q4 : wB.cell? ⟨w.heap.size, 4, none⟩ = some (.string s) := by rw [← hwB, World.cell?_alloc_new]; rfl
  have q5 : wB.cell? ⟨w.heap.size, 5, none⟩ = some (.slice a5 i.to.length n5) := by rw [← hwB, World.cell?_alloc_new]; rfl
  have r5 := (bel.cell (p := ⟨bm, 5, none⟩) hbm).trans c5
  have r6 := (bel.cell (p := ⟨bm, 6, none⟩) hbm).trans c6
  have rg := (bel.cell (p := ⟨gB, k, none⟩) hgl).trans hgc
  have rz := (bel.frozen (p := ⟨gB, k, none⟩) hgl).trans hgz
  have Hrow := Lib.hid ((Since.of_below bel).row Ho.out (fun x hx e => by have := (Ho.out.lt x hx).2; omega))
  have hv1 : some gB ≠ vs[k].ownBlock := fun e => (Hc.out.own _ (List.getElem_mem hkv)).2.1 e.symm
  have hv2 : some bm ≠ vs[k].ownBlock := fun e => (Hc.out.own _ (List.getElem_mem hkv)).1 e.symm
  have lb1 : gB < wB.heap.size := by omega
  have lb2 : bm < wB.heap.size := by omega
  have lb3 : w.heap.size < wB.heap.size := by omega
  have Hbel := Lib.hid bel
  have Hbs := Lib.hid hbs
  clear c5 c6 hgc hgz hwB bel hbs hCB
  have hSA : (wB.alloc (.cells #[.int .i64 op, .slice a1 i.ds.length n1, .slice a2 i.ars.length n2, .int .i64 nn, .string s, .slice a5 i.to.length n5] 48)).drew.cell? ⟨bm, 5, none⟩ = some (.slice (some ⟨gB, 0, none⟩) c.blocks.length cB) ∧ (wB.alloc (.cells #[.int .i64 op, .slice a1 i.ds.length n1, .slice a2 i.ars.length n2, .int .i64 nn, .string s, .slice a5 i.to.length n5] 48)).drew.cell? ⟨bm, 6, none⟩ = some (.int .i64 k) ∧ ((wB.alloc (.cells #[.int .i64 op, .slice a1 i.ds.length n1, .slice a2 i.ars.length n2, .int .i64 nn, .string s, .slice a5 i.to.length n5] 48)).drew.cell? ⟨w.heap.size, 0, none⟩ = some (.int .i64 op) ∧ (wB.alloc (.cells #[.int .i64 op, .slice a1 i.ds.length n1, .slice a2 i.ars.length n2, .int .i64 nn, .string s, .slice a5 i.to.length n5] 48)).drew.cell? ⟨w.heap.size, 1, none⟩ = some (.slice a1 i.ds.length n1) ∧ (wB.alloc (.cells #[.int .i64 op, .slice a1 i.ds.length n1, .slice a2 i.ars.length n2, .int .i64 nn, .string s, .slice a5 i.to.length n5] 48)).drew.cell? ⟨w.heap.size, 2, none⟩ = some (.slice a2 i.ars.length n2) ∧ (wB.alloc (.cells #[.int .i64 op, .slice a1 i.ds.length n1, .slice a2 i.ars.length n2, .int .i64 nn, .string s, .slice a5 i.to.length n5] 48)).drew.cell? ⟨w.heap.size, 3, none⟩ = some (.int .i64 nn) ∧ (wB.alloc (.cells #[.int .i64 op, .slice a1 i.ds.length n1, .slice a2 i.ars.length n2, .int .i64 nn, .string s, .slice a5 i.to.length n5] 48)).drew.cell? ⟨w.heap.size, 4, none⟩ = some (.string s) ∧ (wB.alloc (.cells #[.int .i64 op, .slice a1 i.ds.length n1, .slice a2 i.ars.length n2, .int .i64 nn, .string s, .slice a5 i.to.length n5] 48)).drew.cell? ⟨w.heap.size, 5, none⟩ = some (.slice a5 i.to.length n5)) := by
    have g1 := fun j => World.cell?_alloc_lt wB (.cells #[.int .i64 op, .slice a1 i.ds.length n1, .slice a2 i.ars.length n2, .int .i64 nn, .string s, .slice a5 i.to.length n5] 48) ⟨bm, j, none⟩ lb2
    have g2 := fun j => World.cell?_alloc_lt wB (.cells #[.int .i64 op, .slice a1 i.ds.length n1, .slice a2 i.ars.length n2, .int .i64 nn, .string s, .slice a5 i.to.length n5] 48) ⟨w.heap.size, j, none⟩ lb3
    exact ⟨(g1 5).trans r5, (g1 6).trans r6, (g2 0).trans q0, (g2 1).trans q1, (g2 2).trans q2, (g2 3).trans q3, (g2 4).trans q4, (g2 5).trans q5⟩
  have hv3 : some w.heap.size ≠ vs[k].ownBlock := fun e => by have := (Ho.out.lt _ e.symm).2; omega
  have hne1 : gB ≠ bm := Hc.out.ne
  have hne2 : gB ≠ w.heap.size := by omega
  refine wp_region_held_drew (S := (fun w' => w'.cell? ⟨bm, 5, none⟩ = some (.slice (some ⟨gB, 0, none⟩) c.blocks.length cB) ∧ w'.cell? ⟨bm, 6, none⟩ = some (.int .i64 k) ∧ (w'.cell? ⟨w.heap.size, 0, none⟩ = some (.int .i64 op) ∧ w'.cell? ⟨w.heap.size, 1, none⟩ = some (.slice a1 i.ds.length n1) ∧ w'.cell? ⟨w.heap.size, 2, none⟩ = some (.slice a2 i.ars.length n2) ∧ w'.cell? ⟨w.heap.size, 3, none⟩ = some (.int .i64 nn) ∧ w'.cell? ⟨w.heap.size, 4, none⟩ = some (.string s) ∧ w'.cell? ⟨w.heap.size, 5, none⟩ = some (.slice a5 i.to.length n5)))) (by kernel_rfl) ?_ (fun hHeld => ?_)
  · exact ⟨r5, r6, q0, q1, q2, q3, q4, q5⟩
  refine wpAnyH_take (i := 0) (v := ?_) rfl (by kernel_rfl) (by kernel_rfl) (by kernel_rfl) (fun _ _ _ h => h) (Or.inl ⟨by rfl, ?_⟩) (by assumption) ?_
  rotate_left
  · intro w hSw; (try dsimp only at hSw); go_simp; (first | done | with_reducible rfl)
  try simp only [Act.put, List.setIfInBounds_toArray, List.set_cons_zero, List.set_cons_succ]
  refine wpAnyH_take (i := 1) (v := ?_) rfl (by kernel_rfl) (by kernel_rfl) (by kernel_rfl) (fun _ _ _ h => h) (Or.inl ⟨by rfl, ?_⟩) (by assumption) ?_
  rotate_left
  · intro w hSw; (try dsimp only at hSw); go_simp; (first | done | with_reducible rfl)
  try simp only [Act.put, List.setIfInBounds_toArray, List.set_cons_zero, List.set_cons_succ]
  refine wpAnyH_take (i := 2) (v := ?_) rfl (by kernel_rfl) (by kernel_rfl) (by kernel_rfl) (fun _ _ _ h => h) (Or.inl ⟨by rfl, ?_⟩) (by assumption) ?_
  rotate_left
  · intro w hSw; (try dsimp only at hSw); go_simp; (first | done | with_reducible rfl)
  try simp only [Act.put, List.setIfInBounds_toArray, List.set_cons_zero, List.set_cons_succ]
  refine wpAnyH_take (i := 3) (v := ?_) rfl (by kernel_rfl) (by kernel_rfl) (by kernel_rfl) (fun _ _ _ h => h) (Or.inl ⟨by rfl, ?_⟩) (by assumption) ?_
  rotate_left
  · intro w hSw; (try dsimp only at hSw); go_simp; (first | done | with_reducible rfl)
  try simp only [Act.put, List.setIfInBounds_toArray, List.set_cons_zero, List.set_cons_succ]
  refine wpAnyH_take (i := 4) (v := ?_) rfl (by kernel_rfl) (by kernel_rfl) (by kernel_rfl) (fun _ _ _ h => h) (Or.inl ⟨by rfl, ?_⟩) (by assumption) ?_
  rotate_left
  · intro w hSw; (try dsimp only at hSw); go_simp; (first | done | with_reducible rfl)
  try simp only [Act.put, List.setIfInBounds_toArray, List.set_cons_zero, List.set_cons_succ]
  refine wpAnyH_take (i := 5) (v := ?_) rfl (by kernel_rfl) (by kernel_rfl) (by kernel_rfl) (fun _ _ _ h => h) (Or.inl ⟨by rfl, ?_⟩) (by assumption) ?_
  rotate_left
  · intro w hSw; (try dsimp only at hSw); go_simp; (first | done | with_reducible rfl)
  try simp only [Act.put, List.setIfInBounds_toArray, List.set_cons_zero, List.set_cons_succ]
  refine wpAnyH_take (i := 6) (v := ?_) rfl (by kernel_rfl) (by kernel_rfl) (by kernel_rfl) (fun _ _ _ h => h) (Or.inl ⟨by rfl, ?_⟩) (by assumption) ?_
  rotate_left
  · intro w hSw; (try dsimp only at hSw); go_simp; (first | done | with_reducible rfl)
  try simp only [Act.put, List.setIfInBounds_toArray, List.set_cons_zero, List.set_cons_succ]
  refine wpAnyH_take (i := 7) (v := ?_) rfl (by kernel_rfl) (by kernel_rfl) (by kernel_rfl) (fun _ _ _ h => h) (Or.inl ⟨by rfl, ?_⟩) (by assumption) ?_
  rotate_left
  · intro w hSw; (try dsimp only at hSw); go_simp; (first | done | with_reducible rfl)
  try simp only [Act.put, List.setIfInBounds_toArray, List.set_cons_zero, List.set_cons_succ]
  refine wpAnyH_take (i := 8) (v := ?_) rfl (by kernel_rfl) (by kernel_rfl) (by kernel_rfl) (fun _ _ _ h => h) (Or.inl ⟨by rfl, ?_⟩) (by assumption) ?_
  rotate_left
  · intro w hSw; (try dsimp only at hSw); go_simp; (first | done | with_reducible rfl)
  try simp only [Act.put, List.setIfInBounds_toArray, List.set_cons_zero, List.set_cons_succ]
  refine wpAnyH_take (i := 9) (v := ?_) rfl (by kernel_rfl) (by kernel_rfl) (by kernel_rfl) (fun _ _ _ h => h) (Or.inl ⟨by rfl, ?_⟩) (by assumption) ?_
  rotate_left
  · intro w hSw; (try dsimp only at hSw); go_simp; (first | done | with_reducible rfl)
  try simp only [Act.put, List.setIfInBounds_toArray, List.set_cons_zero, List.set_cons_succ]
  refine wpAnyH_take (i := 10) (v := ?_) rfl (by kernel_rfl) (by kernel_rfl) (by kernel_rfl) (fun _ _ _ h => h) (Or.inl ⟨by rfl, ?_⟩) (by assumption) ?_
  rotate_left
  · intro w hSw; (try dsimp only at hSw); go_simp; (first | done | with_reducible rfl)
  try simp only [Act.put, List.setIfInBounds_toArray, List.set_cons_zero, List.set_cons_succ]
  refine wpAnyH_take (i := 11) (v := ?_) rfl (by kernel_rfl) (by kernel_rfl) (by kernel_rfl) (fun _ _ _ h => h) (Or.inl ⟨by rfl, ?_⟩) (by assumption) ?_
  rotate_left
  · intro w hSw; (try dsimp only at hSw); go_simp; (first | done | with_reducible rfl)
  try simp only [Act.put, List.setIfInBounds_toArray, List.set_cons_zero, List.set_cons_succ]
  refine wpAnyH_take (i := 12) (v := ?_) rfl (by kernel_rfl) (by kernel_rfl) (by kernel_rfl) (fun _ _ _ h => h) (Or.inl ⟨by rfl, ?_⟩) (by assumption) ?_
  rotate_left
  · intro w hSw; (try dsimp only at hSw); go_simp; (first | done | with_reducible rfl)
  try simp only [Act.put, List.setIfInBounds_toArray, List.set_cons_zero, List.set_cons_succ]
  refine wpAnyH_take (i := 13) (v := ?_) rfl (by kernel_rfl) (by kernel_rfl) (by kernel_rfl) (fun _ _ _ h => h) (Or.inl ⟨by rfl, ?_⟩) (by assumption) ?_
  rotate_left
  · intro w hSw; (try dsimp only at hSw); go_simp; (first | done | with_reducible rfl)
  try simp only [Act.put, List.setIfInBounds_toArray, List.set_cons_zero, List.set_cons_succ]
  refine wpAnyH_take (i := 14) (v := ?_) rfl (by kernel_rfl) (by kernel_rfl) (by kernel_rfl) (fun _ _ _ h => h) (Or.inl ⟨by rfl, ?_⟩) (by assumption) ?_
  rotate_left
  · intro w hSw; (try dsimp only at hSw); go_simp; (first | done | with_reducible rfl)
  try simp only [Act.put, List.setIfInBounds_toArray, List.set_cons_zero, List.set_cons_succ]
  refine wpAnyH_take (i := 15) (v := ?_) rfl (by kernel_rfl) (by kernel_rfl) (by kernel_rfl) (fun _ _ _ h => h) (Or.inl ⟨by rfl, ?_⟩) (by assumption) ?_
  rotate_left
  · intro w hSw; (try dsimp only at hSw); go_simp; (first | done | with_reducible rfl)
  try simp only [Act.put, List.setIfInBounds_toArray, List.set_cons_zero, List.set_cons_succ]
  refine wpAnyH_take (i := 16) (v := ?_) rfl (by kernel_rfl) (by kernel_rfl) (by kernel_rfl) (fun _ _ _ h => h) (Or.inl ⟨by rfl, ?_⟩) (by assumption) ?_
  rotate_left
  · intro w hSw; (try dsimp only at hSw); go_simp; (first | done | with_reducible rfl)
  try simp only [Act.put, List.setIfInBounds_toArray, List.set_cons_zero, List.set_cons_succ]
  refine wpAnyH_take (i := 17) (v := ?_) rfl (by kernel_rfl) (by kernel_rfl) (by kernel_rfl) (fun _ _ _ h => h) (Or.inl ⟨by rfl, ?_⟩) (by assumption) ?_
  rotate_left
  · intro w hSw; (try dsimp only at hSw); go_simp; (first | done | with_reducible rfl)
  try simp only [Act.put, List.setIfInBounds_toArray, List.set_cons_zero, List.set_cons_succ]
  refine wpAnyH_take (i := 18) (v := ?_) rfl (by kernel_rfl) (by kernel_rfl) (by kernel_rfl) (fun _ _ _ h => h) (Or.inl ⟨by rfl, ?_⟩) (by assumption) ?_
  rotate_left
  · intro w hSw; (try dsimp only at hSw); go_simp; (first | done | with_reducible rfl)
  try simp only [Act.put, List.setIfInBounds_toArray, List.set_cons_zero, List.set_cons_succ]
  refine wpAnyH_take (i := 20) (v := ?_) rfl (by kernel_rfl) (by kernel_rfl) (by kernel_rfl) (fun _ _ _ h => h) (Or.inl ⟨by rfl, ?_⟩) (by assumption) ?_
  rotate_left
  · intro w hSw; (try dsimp only at hSw); go_simp; (first | done | with_reducible rfl)
  try simp only [Act.put, List.setIfInBounds_toArray, List.set_cons_zero, List.set_cons_succ]
  refine wpAnyH_ready (rs := [19, 21]) (by kernel_rfl) (by simp) ?_
  refine AllReadyH.cons rfl (fun K hK => ?_) (AllReadyH.cons rfl (fun K hK => ?_) AllReadyH.nil)
  · go_simp
    refine hK.out _ _ hHeld (fun hHeld => ?_)
    clear hK K
    try simp only [Act.put, List.setIfInBounds_toArray, List.set_cons_zero, List.set_cons_succ]
    refine wpAnyH_ready (rs := [21]) (by kernel_rfl) (by simp) ?_
    refine AllReadyH.cons rfl (fun K hK => ?_) AllReadyH.nil
    go_simp
    refine hK.out _ _ hSA (fun hHeld => ?_)
    clear hK K
    try simp only [Act.put, List.setIfInBounds_toArray, List.set_cons_zero, List.set_cons_succ]
    refine wpAnyH_ready (rs := [22]) (by kernel_rfl) (by simp) ?_
    refine AllReadyH.cons rfl (fun K hK => ?_) AllReadyH.nil
    refine step_append_lies _ (by rfl) _ _ _ (by rfl) 0 48 i0 _ 6 104 Try.underlying46 hi0 hz0 hz1 hz2 rfl (by omega) vs[k] L.length ess.flatten (by rw [Hav.out]; rfl) ((Hrow.out.alloc _).drew) ⟨wB.heap.size, 0, none⟩ 1 1 [.int .i64 op, .slice a1 i.ds.length n1, .slice a2 i.ars.length n2, .int .i64 nn, .string s, .slice a5 i.to.length n5] (by rfl) (by rfl) (World.news_of_block (cs := #[.int .i64 op, .slice a1 i.ds.length n1, .slice a2 i.ars.length n2, .int .i64 nn, .string s, .slice a5 i.to.length n5]) (t := 48) (fr := (0, 0)) (heap_alloc_new wB _)) (by simp [Value.oneCell']) (by omega) (by unfold maxLen; omega) (by omega) (Nat.zero_le _) (wB.heap.size + 1) (by simp) ?_; intro gg cap w2 hown2 hgrow hat hlt; have s5 : w2.cell? ⟨gB, k, none⟩ = some (.slice av L.length cv) := by { rw [hgrow.cell_far _ (by simp; omega) hv1]; show (wB.alloc _).cell? _ = _; rw [World.cell?_alloc_lt _ _ _ lb1]; exact rg }; have sz : w2.frozen? ⟨gB, k, none⟩ = false := by { rw [hgrow.frozen_far _ (by simp; omega) hv1]; show (wB.alloc _).frozen? _ = _; rw [World.frozen?_alloc_old _ _ _ (show gB ≠ wB.heap.size by omega)]; exact rz }; have t5 : w2.cell? ⟨bm, 5, none⟩ = some (.slice (some ⟨gB, 0, none⟩) c.blocks.length cB) := by { rw [hgrow.cell_far _ (by simp; omega) hv2]; show (wB.alloc _).cell? _ = _; rw [World.cell?_alloc_lt _ _ _ lb2]; exact r5 }; have t6 : w2.cell? ⟨bm, 6, none⟩ = some (.int .i64 k) := by { rw [hgrow.cell_far _ (by simp; omega) hv2]; show (wB.alloc _).cell? _ = _; rw [World.cell?_alloc_lt _ _ _ lb2]; exact r6 }
    refine hK.out _ _ ?_ (fun hHeld => ?_)
    · exact (by { have f1 := fun j => hgrow.cell_far ⟨bm, j, none⟩ (by simp; omega) hv2; have f2 := fun j => hgrow.cell_far ⟨w.heap.size, j, none⟩ (by simp; omega) hv3; exact ⟨(f1 5).trans hSA.1, (f1 6).trans hSA.2.1, (f2 0).trans hSA.2.2.1, (f2 1).trans hSA.2.2.2.1, (f2 2).trans hSA.2.2.2.2.1, (f2 3).trans hSA.2.2.2.2.2.1, (f2 4).trans hSA.2.2.2.2.2.2.1, (f2 5).trans hSA.2.2.2.2.2.2.2⟩ })
    clear hK K
    try simp only [Act.put, List.setIfInBounds_toArray, List.set_cons_zero, List.set_cons_succ]
    refine wpAnyH_take (i := 23) (v := ?_) rfl (by kernel_rfl) (by kernel_rfl) (by kernel_rfl) (fun _ _ _ h => h) (Or.inl ⟨by rfl, ?_⟩) (by assumption) ?_
    rotate_left
    · intro w hSw; (try dsimp only at hSw); go_simp; (first | done | with_reducible rfl)
    try simp only [Act.put, List.setIfInBounds_toArray, List.set_cons_zero, List.set_cons_succ]
    refine wpAnyH_ready (rs := [24]) (by kernel_rfl) (by simp) ?_
    refine AllReadyH.cons rfl (fun K hK => ?_) AllReadyH.nil
    go_simp
    refine hK.out _ _ ?_ (fun hHeld => ?_)
    · exact (by { have f1 := fun j => World.cell?_setCell_other w2 ⟨gB, k, none⟩ ⟨bm, j, none⟩ (.slice (some ⟨gg, 0, none⟩) (L.length + 1) cap) (fun e => hne1 (by injection e)); have f2 := fun j => World.cell?_setCell_other w2 ⟨gB, k, none⟩ ⟨w.heap.size, j, none⟩ (.slice (some ⟨gg, 0, none⟩) (L.length + 1) cap) (fun e => hne2 (by injection e)); exact ⟨(f1 5).trans hHeld.1, (f1 6).trans hHeld.2.1, (f2 0).trans hHeld.2.2.1, (f2 1).trans hHeld.2.2.2.1, (f2 2).trans hHeld.2.2.2.2.1, (f2 3).trans hHeld.2.2.2.2.2.1, (f2 4).trans hHeld.2.2.2.2.2.2.1, (f2 5).trans hHeld.2.2.2.2.2.2.2⟩ })
    clear hK K
    try simp only [Act.put, List.setIfInBounds_toArray, List.set_cons_zero, List.set_cons_succ]
    refine wpAnyH_done (by kernel_rfl) ?_ _
    refine bodyPost_end (results_none (by kernel_rfl) _ _ _) rfl ?_
    have hcW := (Hc.out.below Hbel.out).below (Drawn.below (Drawn.drew wB) _)
    have kp : Keep (fun x => ¬ M x) w wB.drew := Keep.of_below' (Hbel.out.trans (Drawn.below (Drawn.drew wB) _)) (fun x hx _ => hx)
    obtain ⟨M', hM1, hS, hM2⟩ := hcW.push (w1 := w2) (ob := .cells #[.int .i64 op, .slice a1 i.ds.length n1, .slice a2 i.ars.length n2, .int .i64 nn, .string s, .slice a5 i.to.length n5] 48) (v' := .slice (some ⟨gg, 0, none⟩) (L.length + 1) cap) (ess := ess) (es := [.int .i64 op, .slice a1 i.ds.length n1, .slice a2 i.ars.length n2, .int .i64 nn, .string s, .slice a5 i.to.length n5]) (i := i) hkv rfl
      (Good.keep kp (fun _ _ h => h) Hi.out) (by rw [HLL.out]; exact rAll_keep kp (fun _ _ h => h) Hr.out) (by rw [HLL.out]; exact hown2) hgrow (hat.imp (fun e => e.symm) (fun e => by rw [e]; simp [Value.ownBlock]))
    exact ⟨rfl, env_step Hc.out.x_.2.2 (Hbel.out.trans (Drawn.below (Drawn.drew wB) _)) Hl.out Hb.out hB hM ⟨_, _, _, hM1⟩ hS hM2 Hf.out.add, (Since.of_below' (Hbel.out.trans (Drawn.below (Drawn.drew wB) _)) _).trans hS⟩
  · go_simp
    refine hK.out _ _ hSA (fun hHeld => ?_)
    clear hK K
    try simp only [Act.put, List.setIfInBounds_toArray, List.set_cons_zero, List.set_cons_succ]
    refine wpAnyH_ready (rs := [19]) (by kernel_rfl) (by simp) ?_
    refine AllReadyH.cons rfl (fun K hK => ?_) AllReadyH.nil
    go_simp
    refine hK.out _ _ hHeld (fun hHeld => ?_)
    clear hK K
    try simp only [Act.put, List.setIfInBounds_toArray, List.set_cons_zero, List.set_cons_succ]
    refine wpAnyH_ready (rs := [22]) (by kernel_rfl) (by simp) ?_
    refine AllReadyH.cons rfl (fun K hK => ?_) AllReadyH.nil
    refine step_append_lies _ (by rfl) _ _ _ (by rfl) 0 48 i0 _ 6 104 Try.underlying46 hi0 hz0 hz1 hz2 rfl (by omega) vs[k] L.length ess.flatten (by rw [Hav.out]; rfl) ((Hrow.out.alloc _).drew) ⟨wB.heap.size, 0, none⟩ 1 1 [.int .i64 op, .slice a1 i.ds.length n1, .slice a2 i.ars.length n2, .int .i64 nn, .string s, .slice a5 i.to.length n5] (by rfl) (by rfl) (World.news_of_block (cs := #[.int .i64 op, .slice a1 i.ds.length n1, .slice a2 i.ars.length n2, .int .i64 nn, .string s, .slice a5 i.to.length n5]) (t := 48) (fr := (0, 0)) (heap_alloc_new wB _)) (by simp [Value.oneCell']) (by omega) (by unfold maxLen; omega) (by omega) (Nat.zero_le _) (wB.heap.size + 1) (by simp) ?_; intro gg cap w2 hown2 hgrow hat hlt; have s5 : w2.cell? ⟨gB, k, none⟩ = some (.slice av L.length cv) := by { rw [hgrow.cell_far _ (by simp; omega) hv1]; show (wB.alloc _).cell? _ = _; rw [World.cell?_alloc_lt _ _ _ lb1]; exact rg }; have sz : w2.frozen? ⟨gB, k, none⟩ = false := by { rw [hgrow.frozen_far _ (by simp; omega) hv1]; show (wB.alloc _).frozen? _ = _; rw [World.frozen?_alloc_old _ _ _ (show gB ≠ wB.heap.size by omega)]; exact rz }; have t5 : w2.cell? ⟨bm, 5, none⟩ = some (.slice (some ⟨gB, 0, none⟩) c.blocks.length cB) := by { rw [hgrow.cell_far _ (by simp; omega) hv2]; show (wB.alloc _).cell? _ = _; rw [World.cell?_alloc_lt _ _ _ lb2]; exact r5 }; have t6 : w2.cell? ⟨bm, 6, none⟩ = some (.int .i64 k) := by { rw [hgrow.cell_far _ (by simp; omega) hv2]; show (wB.alloc _).cell? _ = _; rw [World.cell?_alloc_lt _ _ _ lb2]; exact r6 }
    refine hK.out _ _ ?_ (fun hHeld => ?_)
    · exact (by { have f1 := fun j => hgrow.cell_far ⟨bm, j, none⟩ (by simp; omega) hv2; have f2 := fun j => hgrow.cell_far ⟨w.heap.size, j, none⟩ (by simp; omega) hv3; exact ⟨(f1 5).trans hSA.1, (f1 6).trans hSA.2.1, (f2 0).trans hSA.2.2.1, (f2 1).trans hSA.2.2.2.1, (f2 2).trans hSA.2.2.2.2.1, (f2 3).trans hSA.2.2.2.2.2.1, (f2 4).trans hSA.2.2.2.2.2.2.1, (f2 5).trans hSA.2.2.2.2.2.2.2⟩ })
    clear hK K
    try simp only [Act.put, List.setIfInBounds_toArray, List.set_cons_zero, List.set_cons_succ]
    refine wpAnyH_take (i := 23) (v := ?_) rfl (by kernel_rfl) (by kernel_rfl) (by kernel_rfl) (fun _ _ _ h => h) (Or.inl ⟨by rfl, ?_⟩) (by assumption) ?_
    rotate_left
    · intro w hSw; (try dsimp only at hSw); go_simp; (first | done | with_reducible rfl)
    try simp only [Act.put, List.setIfInBounds_toArray, List.set_cons_zero, List.set_cons_succ]
    refine wpAnyH_ready (rs := [24]) (by kernel_rfl) (by simp) ?_
    refine AllReadyH.cons rfl (fun K hK => ?_) AllReadyH.nil
    go_simp
    refine hK.out _ _ ?_ (fun hHeld => ?_)
    · exact (by { have f1 := fun j => World.cell?_setCell_other w2 ⟨gB, k, none⟩ ⟨bm, j, none⟩ (.slice (some ⟨gg, 0, none⟩) (L.length + 1) cap) (fun e => hne1 (by injection e)); have f2 := fun j => World.cell?_setCell_other w2 ⟨gB, k, none⟩ ⟨w.heap.size, j, none⟩ (.slice (some ⟨gg, 0, none⟩) (L.length + 1) cap) (fun e => hne2 (by injection e)); exact ⟨(f1 5).trans hHeld.1, (f1 6).trans hHeld.2.1, (f2 0).trans hHeld.2.2.1, (f2 1).trans hHeld.2.2.2.1, (f2 2).trans hHeld.2.2.2.2.1, (f2 3).trans hHeld.2.2.2.2.2.1, (f2 4).trans hHeld.2.2.2.2.2.2.1, (f2 5).trans hHeld.2.2.2.2.2.2.2⟩ })
    clear hK K
    try simp only [Act.put, List.setIfInBounds_toArray, List.set_cons_zero, List.set_cons_succ]
    refine wpAnyH_done (by kernel_rfl) ?_ _
    refine bodyPost_end (results_none (by kernel_rfl) _ _ _) rfl ?_
    have hcW := (Hc.out.below Hbel.out).below (Drawn.below (Drawn.drew wB) _)
    have kp : Keep (fun x => ¬ M x) w wB.drew := Keep.of_below' (Hbel.out.trans (Drawn.below (Drawn.drew wB) _)) (fun x hx _ => hx)
    obtain ⟨M', hM1, hS, hM2⟩ := hcW.push (w1 := w2) (ob := .cells #[.int .i64 op, .slice a1 i.ds.length n1, .slice a2 i.ars.length n2, .int .i64 nn, .string s, .slice a5 i.to.length n5] 48) (v' := .slice (some ⟨gg, 0, none⟩) (L.length + 1) cap) (ess := ess) (es := [.int .i64 op, .slice a1 i.ds.length n1, .slice a2 i.ars.length n2, .int .i64 nn, .string s, .slice a5 i.to.length n5]) (i := i) hkv rfl
      (Good.keep kp (fun _ _ h => h) Hi.out) (by rw [HLL.out]; exact rAll_keep kp (fun _ _ h => h) Hr.out) (by rw [HLL.out]; exact hown2) hgrow (hat.imp (fun e => e.symm) (fun e => by rw [e]; simp [Value.ownBlock]))
    exact ⟨rfl, env_step Hc.out.x_.2.2 (Hbel.out.trans (Drawn.below (Drawn.drew wB) _)) Hl.out Hb.out hB hM ⟨_, _, _, hM1⟩ hS hM2 Hf.out.add, (Since.of_below' (Hbel.out.trans (Drawn.below (Drawn.drew wB) _)) _).trans hS⟩
theorem add_any {w1 : World} {op nn : Int} {s : ByteArray} {v1 v2 v5 : Value} {i : PInstr} (h : Env B w0 bm l (n + 1) c k w1) (hbw : Below w1.heap.size w1 w) (hi : rInstr (fun x => w1.heap.size ≤ x) w [.int .i64 op, v1, v2, .int .i64 nn, .string s, v5] i) :
    Calls Try.prog 67 #[.pointer (some ⟨bm, 0, none⟩), .agg #[.int .i64 op, v1, v2, .int .i64 nn, .string s, v5]] w fun e w' => e = .returned (.tuple #[]) ∧ Env B w0 bm l n (addF c k i) k w' := by
  obtain ⟨X, M, ⟨gB, cB, vs, hc⟩, hf, hl, hb, hB, hM⟩ := h
  have hi' : rInstr (fun x => ¬ M x) w [.int .i64 op, v1, v2, .int .i64 nn, .string s, v5] i := Good.wide hi (fun x _ hx m => by have := hc.m_lt m; omega)
  have hx := hc.x_.2.2
  have hl' : ∀ p ∈ l, X p.1 ∧ w.cell? ⟨p.1, p.2.1, none⟩ = some p.2.2 ∧ w.frozen? ⟨p.1, p.2.1, none⟩ = false := fun p hp => ⟨(hl p hp).1, (hbw.cell (p := ⟨p.1, p.2.1, none⟩) (hx _ (hl p hp).1)).trans (hl p hp).2.1, (hbw.frozen (p := ⟨p.1, p.2.1, none⟩) (hx _ (hl p hp).1)).trans (hl p hp).2.2⟩
  have hb' := hb.trans (hbw.mono (Nat.le_trans hB hb.size))
  have hc' := hc.below hbw
  exact (add_anyM hc' hf hl' hb' hB hM hi').mono (fun e w' h => ⟨h.1, h.2.1⟩)
end Go.Proofs.Ytaomlfbcfmmhlaa

/-
  rt's maker: block, konst, math, set, load, store, alloc, jump, choose, back, walked.
-/
namespace Go.Proofs.Ytaomlfbcfmmhlaa
open Go.RowKit Go.Pst
set_option linter.unusedVariables false
set_option linter.unusedSimpArgs false

variable {B bm n k : Nat} {w0 w : World} {l : List (Nat × Nat × Value)} {c : PCode}

theorem infoB : (Try.prog.info? 46).map (fun i => (i.zero, i.size, i.bytes)) = some (some (.slice none 0 0), 1, 24) := by kernel_rfl
theorem row_some {w : World} {base sz n : Nat} {e : TypeId} {v : Value} {xs : List Value} (h : w.ownsRow base e sz v (n + 1) xs) : ∃ g c, v = .slice (some ⟨g, 0, none⟩) (n + 1) c := by
  rcases h.2 with ⟨_, h0⟩ | ⟨g, cap, cur, hv, _⟩
  · omega
  · exact ⟨g, cap, hv⟩
set_option maxHeartbeats 2000000 in
theorem block_any (h : Env B w0 bm l (n + 1) c k w) :
    Calls Try.prog 69 #[.pointer (some ⟨bm, 0, none⟩)] w fun e w' => e = .returned (.int .i64 c.blocks.length) ∧ Env B w0 bm l n (blockF' c) k w' := by
  obtain ⟨X, M, ⟨gB, cB, vs, hc⟩, hf, hl, hb, hB, hM⟩ := h
  have c5 : w.cell? ⟨bm, 5, none⟩ = some (.slice (some ⟨gB, 0, none⟩) c.blocks.length cB) := by simpa using hc.c5
  have z5 := hc.z 5
  have hnb := hf.nb
  have hnb2 : c.blocks.length ≤ 9223372036854775807 := by omega
  have hbm := hc.lt
  have hgB := hc.gB_lt
  have hne := hc.ne
  obtain ⟨i0, hi0, hz0, hz1, hz2⟩ := info_parts infoB
  have Hrow := Lib.hid hc.row
  have Hc := Lib.hid hc
  have Hf := Lib.hid hf
  have Hl := Lib.hid hl
  have Hb := Lib.hid hb
  clear hc hf hl hb
  go_enter Try.func69, Try.ntmps69
  go_wp2_with (at_builtin; refine wpList_append_own_at _ rfl _ _ 29 rfl 0 46 i0 (.slice none 0 0) 1 24 Try.underlying29 hi0 hz0 hz1 hz2 rfl (by decide) (.slice (some ⟨gB, 0, none⟩) c.blocks.length cB) _ _ rfl (Hrow.out.alloc _) ⟨w.heap.size, 0, none⟩ 1 1 [.slice none 0 0] rfl rfl (cell_one_new _ _ _) (by intro u hu; simp at hu; subst hu; rfl) (by unfold maxLen; omega) (by omega) (Nat.zero_le _) ?_; intro v' w1 hown (hgrow : World.grownBy _ w1 (some gB)) hnil (hat : v'.ownBlock = some gB ∨ _); clear hnil; obtain ⟨g', c', hv'⟩ : ∃ g' c', v' = .slice (some ⟨g', 0, none⟩) (c.blocks.length + 1) c' := row_some hown; subst hv'; have e5 : w1.cell? ⟨bm, 5, none⟩ = some (.slice (some ⟨gB, 0, none⟩) c.blocks.length cB) := (by { rw [World.grownBy.cell_far hgrow ⟨bm, 5, none⟩ (by simp; omega) (by simp; exact fun e => hne e.symm)]; rw [World.cell?_alloc_lt _ _ _ hbm]; exact c5 }); have f5 : w1.frozen? ⟨bm, 5, none⟩ = false := (by { rw [World.grownBy.frozen_far hgrow ⟨bm, 5, none⟩ (by simp; omega) (by simp; exact fun e => hne e.symm)]; rw [World.frozen?_alloc_old _ _ _ (show bm ≠ w.heap.size by omega)]; exact z5 }))
  go_ret
  obtain ⟨M', hM1, hS, hM2⟩ := Hc.out.grow (ob := .cells #[.slice none 0 0] 46) rfl hown hgrow (hat.imp id (fun e => e))
  simp only [Nat.zero_add] at hM1 hS
  exact ⟨rfl, env_step Hc.out.x_.2.2 (Below.refl _ _) Hl.out Hb.out hB hM ⟨_, _, _, hM1⟩ hS hM2 Hf.out.block⟩
end Go.Proofs.Ytaomlfbcfmmhlaa

/-
  rt's maker: konst, math, load, alloc, set, store, jump, choose, back, walked (printed by wip/gen_rtops.py).
-/
namespace Go.Proofs.Ytaomlfbcfmmhlaa
open Go.RowKit Go.Pst
set_option linter.unusedVariables false
set_option linter.unusedSimpArgs false

variable {B bm n k : Nat} {w0 w : World} {l : List (Nat × Nat × Value)} {c : PCode}
def setI (d a : Int) : PInstr := ⟨2, [d], [a], 0, ⟨#[]⟩, []⟩
def mathI (s : ByteArray) (d a b : Int) : PInstr := ⟨3, [d], [a, b], 0, s, []⟩
def konstI (d x : Int) : PInstr := ⟨1, [d], [], x, ⟨#[]⟩, []⟩
def loadI (d a x : Int) : PInstr := ⟨4, [d], [a], x, ⟨#[]⟩, []⟩
def allocI (d a : Int) : PInstr := ⟨6, [d], [a], 0, ⟨#[]⟩, []⟩
def storeI (a x v : Int) : PInstr := ⟨5, [], [a, v], x, ⟨#[]⟩, []⟩
def jumpI (t : Int) : PInstr := ⟨9, [], [], 0, ⟨#[]⟩, [t]⟩
def chooseI (a yes no : Int) : PInstr := ⟨10, [], [a], 0, ⟨#[]⟩, [yes, no]⟩
def backI (xs : List Int) : PInstr := ⟨12, [], xs, 0, ⟨#[]⟩, []⟩
def konstF (c : PCode) (k : Nat) (x : Int) : PCode := addF (freshF c) k (konstI c.vars x)
def mathF (c : PCode) (k : Nat) (s : ByteArray) (a b : Int) : PCode := addF (freshF c) k (mathI s c.vars a b)
def loadF (c : PCode) (k : Nat) (a x : Int) : PCode := addF (freshF c) k (loadI c.vars a x)
def allocF (c : PCode) (k : Nat) (a : Int) : PCode := addF (freshF c) k (allocI c.vars a)
def setF (c : PCode) (k : Nat) (d a : Int) : PCode := addF c k (setI d a)
def storeF (c : PCode) (k : Nat) (a x v : Int) : PCode := addF c k (storeI a x v)
def jumpF (c : PCode) (k : Nat) (t : Int) : PCode := addF c k (jumpI t)
def chooseF (c : PCode) (k : Nat) (a yes no : Int) : PCode := addF c k (chooseI a yes no)
def backF (c : PCode) (k : Nat) (xs : List Int) : PCode := addF c k (backI xs)
theorem addF_len (c : PCode) (k : Nat) (i : PInstr) : (addF c k i).blocks.length = c.blocks.length := by simp [addF]
theorem freshF_len (c : PCode) : (freshF c).blocks.length = c.blocks.length := rfl
theorem blockF'_len (c : PCode) : (blockF' c).blocks.length = c.blocks.length + 1 := by simp [blockF']
theorem konstF_len (c : PCode) (k : Nat) (x : Int) : (konstF c k x).blocks.length = c.blocks.length := by simp [konstF, addF_len, freshF_len]
theorem mathF_len (c : PCode) (k : Nat) (s : ByteArray) (a b : Int) : (mathF c k s a b).blocks.length = c.blocks.length := by simp [mathF, addF_len, freshF_len]
theorem loadF_len (c : PCode) (k : Nat) (a x : Int) : (loadF c k a x).blocks.length = c.blocks.length := by simp [loadF, addF_len, freshF_len]
theorem allocF_len (c : PCode) (k : Nat) (a : Int) : (allocF c k a).blocks.length = c.blocks.length := by simp [allocF, addF_len, freshF_len]
theorem setF_len (c : PCode) (k : Nat) (d a : Int) : (setF c k d a).blocks.length = c.blocks.length := addF_len _ _ _
theorem storeF_len (c : PCode) (k : Nat) (a x v : Int) : (storeF c k a x v).blocks.length = c.blocks.length := addF_len _ _ _
theorem jumpF_len (c : PCode) (k : Nat) (t : Int) : (jumpF c k t).blocks.length = c.blocks.length := addF_len _ _ _
theorem chooseF_len (c : PCode) (k : Nat) (a y n : Int) : (chooseF c k a y n).blocks.length = c.blocks.length := addF_len _ _ _
theorem backF_len (c : PCode) (k : Nat) (xs : List Int) : (backF c k xs).blocks.length = c.blocks.length := addF_len _ _ _
theorem new_one (w : World) (a : Obj) : (w.alloc a).heap[w.heap.size]? = some a := heap_alloc_new w a
theorem new_two (w : World) (a b : Obj) : ((w.alloc a).alloc b).heap[w.heap.size]? = some a ∧ ((w.alloc a).alloc b).heap[w.heap.size + 1]? = some b := ⟨allocs_get [a, b] w 0 (by simp), allocs_get [a, b] w 1 (by simp)⟩
theorem ini_small {x : Int} (h : 0 ≤ x) (h' : x ≤ 1000000) : InI x := ⟨by omega, by omega⟩
theorem ini1 {a : Int} (ha : InI a) : ∀ y ∈ [a], InI y := fun y hy => by simp at hy; subst hy; exact ha
theorem ini2 {a b : Int} (ha : InI a) (hb : InI b) : ∀ y ∈ [a, b], InI y := fun y hy => by
  simp at hy
  rcases hy with rfl | rfl
  · exact ha
  · exact hb
theorem konst_any (x : Int) (hx : InI x) (h : Env B w0 bm l (n + 1 + 1) c k w) :
    Calls Try.prog 35 #[.pointer (some ⟨bm, 0, none⟩), .int .i64 x] w fun e w' => e = .returned (.int .i64 c.vars) ∧ Env B w0 bm l n (konstF c k x) k w' := by
  have hvi : InI c.vars := ini_small h.fine.vars.1 (by have := h.fine.vars.2; omega)
  have H := Lib.hid h
  clear h
  go_enter Try.func35, Try.ntmps35
  go_wp2_with fail
  refine (fresh_any H.out).mono ?_
  rintro e w1 ⟨rfl, h1⟩
  have H1 := Lib.hid h1
  clear h1
  go_wp2_with fail
  refine (add_any H1.out ((Below.refl _ _).alloc (Nat.le_refl _) _) (lit_instr (ini rfl) hx (by decide) (rInts_all [c.vars] (Nat.le_refl _) (lens rfl) (ini1 hvi) (new_one w1 (.cells #[.int .i64 c.vars] 3))) (rSlice_nil _ _ _ _) (rSlice_nil _ _ _ _))).mono ?_
  rintro e w2 ⟨rfl, h2⟩
  go_wp2_with fail
  go_ret
  exact ⟨rfl, h2⟩
theorem math_any (s : ByteArray) (a : Int) (b : Int) (ha : InI a) (hb : InI b) (hs : s.size ≤ maxLen) (h : Env B w0 bm l (n + 1 + 1) c k w) :
    Calls Try.prog 31 #[.pointer (some ⟨bm, 0, none⟩), .string s, .int .i64 a, .int .i64 b] w fun e w' => e = .returned (.int .i64 c.vars) ∧ Env B w0 bm l n (mathF c k s a b) k w' := by
  have hvi : InI c.vars := ini_small h.fine.vars.1 (by have := h.fine.vars.2; omega)
  have H := Lib.hid h
  clear h
  go_enter Try.func31, Try.ntmps31
  go_wp2_with fail
  refine (fresh_any H.out).mono ?_
  rintro e w1 ⟨rfl, h1⟩
  have H1 := Lib.hid h1
  clear h1
  go_wp2_with fail
  refine (add_any H1.out (((Below.refl _ _).alloc (Nat.le_refl _) _).alloc (by simp) _) (lit_instr (ini rfl) (ini rfl) hs (rInts_all [c.vars] (Nat.le_refl _) (lens rfl) (ini1 hvi) (new_two w1 (.cells #[.int .i64 c.vars] 3) (.cells #[.int .i64 a, .int .i64 b] 3)).1) (rInts_all [a, b] (Nat.le_succ _) (lens rfl) (ini2 ha hb) (new_two w1 (.cells #[.int .i64 c.vars] 3) (.cells #[.int .i64 a, .int .i64 b] 3)).2) (rSlice_nil _ _ _ _))).mono ?_
  rintro e w2 ⟨rfl, h2⟩
  go_wp2_with fail
  go_ret
  exact ⟨rfl, h2⟩
theorem load_any (a : Int) (x : Int) (ha : InI a) (hx : InI x) (h : Env B w0 bm l (n + 1 + 1) c k w) :
    Calls Try.prog 40 #[.pointer (some ⟨bm, 0, none⟩), .int .i64 a, .int .i64 x] w fun e w' => e = .returned (.int .i64 c.vars) ∧ Env B w0 bm l n (loadF c k a x) k w' := by
  have hvi : InI c.vars := ini_small h.fine.vars.1 (by have := h.fine.vars.2; omega)
  have H := Lib.hid h
  clear h
  go_enter Try.func40, Try.ntmps40
  go_wp2_with fail
  refine (fresh_any H.out).mono ?_
  rintro e w1 ⟨rfl, h1⟩
  have H1 := Lib.hid h1
  clear h1
  go_wp2_with fail
  refine (add_any H1.out (((Below.refl _ _).alloc (Nat.le_refl _) _).alloc (by simp) _) (lit_instr (ini rfl) hx (by decide) (rInts_all [c.vars] (Nat.le_refl _) (lens rfl) (ini1 hvi) (new_two w1 (.cells #[.int .i64 c.vars] 3) (.cells #[.int .i64 a] 3)).1) (rInts_all [a] (Nat.le_succ _) (lens rfl) (ini1 ha) (new_two w1 (.cells #[.int .i64 c.vars] 3) (.cells #[.int .i64 a] 3)).2) (rSlice_nil _ _ _ _))).mono ?_
  rintro e w2 ⟨rfl, h2⟩
  go_wp2_with fail
  go_ret
  exact ⟨rfl, h2⟩
theorem alloc_any (a : Int) (ha : InI a) (h : Env B w0 bm l (n + 1 + 1) c k w) :
    Calls Try.prog 32 #[.pointer (some ⟨bm, 0, none⟩), .int .i64 a] w fun e w' => e = .returned (.int .i64 c.vars) ∧ Env B w0 bm l n (allocF c k a) k w' := by
  have hvi : InI c.vars := ini_small h.fine.vars.1 (by have := h.fine.vars.2; omega)
  have H := Lib.hid h
  clear h
  go_enter Try.func32, Try.ntmps32
  go_wp2_with fail
  refine (fresh_any H.out).mono ?_
  rintro e w1 ⟨rfl, h1⟩
  have H1 := Lib.hid h1
  clear h1
  go_wp2_with fail
  refine (add_any H1.out (((Below.refl _ _).alloc (Nat.le_refl _) _).alloc (by simp) _) (lit_instr (ini rfl) (ini rfl) (by decide) (rInts_all [c.vars] (Nat.le_refl _) (lens rfl) (ini1 hvi) (new_two w1 (.cells #[.int .i64 c.vars] 3) (.cells #[.int .i64 a] 3)).1) (rInts_all [a] (Nat.le_succ _) (lens rfl) (ini1 ha) (new_two w1 (.cells #[.int .i64 c.vars] 3) (.cells #[.int .i64 a] 3)).2) (rSlice_nil _ _ _ _))).mono ?_
  rintro e w2 ⟨rfl, h2⟩
  go_wp2_with fail
  go_ret
  exact ⟨rfl, h2⟩
theorem set_any (d : Int) (a : Int) (hd : InI d) (ha : InI a) (h : Env B w0 bm l (n + 1) c k w) :
    Calls Try.prog 43 #[.pointer (some ⟨bm, 0, none⟩), .int .i64 d, .int .i64 a] w fun e w' => e = .returned (.tuple #[]) ∧ Env B w0 bm l n (setF c k d a) k w' := by
  have hvi : InI c.vars := ini_small h.fine.vars.1 (by have := h.fine.vars.2; omega)
  have H := Lib.hid h
  clear h
  go_enter Try.func43, Try.ntmps43
  go_wp2_with fail
  refine (add_any H.out (((Below.refl _ _).alloc (Nat.le_refl _) _).alloc (by simp) _) (lit_instr (ini rfl) (ini rfl) (by decide) (rInts_all [d] (Nat.le_refl _) (lens rfl) (ini1 hd) (new_two w (.cells #[.int .i64 d] 3) (.cells #[.int .i64 a] 3)).1) (rInts_all [a] (Nat.le_succ _) (lens rfl) (ini1 ha) (new_two w (.cells #[.int .i64 d] 3) (.cells #[.int .i64 a] 3)).2) (rSlice_nil _ _ _ _))).mono ?_
  rintro e w2 ⟨rfl, h2⟩
  go_wp2_with fail
  exact bodyPost_end (results_none (by kernel_rfl) _ _ _) rfl ⟨rfl, h2⟩
theorem store_any (a : Int) (x : Int) (v : Int) (ha : InI a) (hx : InI x) (hv : InI v) (h : Env B w0 bm l (n + 1) c k w) :
    Calls Try.prog 48 #[.pointer (some ⟨bm, 0, none⟩), .int .i64 a, .int .i64 x, .int .i64 v] w fun e w' => e = .returned (.tuple #[]) ∧ Env B w0 bm l n (storeF c k a x v) k w' := by
  have hvi : InI c.vars := ini_small h.fine.vars.1 (by have := h.fine.vars.2; omega)
  have H := Lib.hid h
  clear h
  go_enter Try.func48, Try.ntmps48
  go_wp2_with fail
  refine (add_any H.out ((Below.refl _ _).alloc (Nat.le_refl _) _) (lit_instr (ini rfl) hx (by decide) (rSlice_nil _ _ _ _) (rInts_all [a, v] (Nat.le_refl _) (lens rfl) (ini2 ha hv) (new_one w (.cells #[.int .i64 a, .int .i64 v] 3))) (rSlice_nil _ _ _ _))).mono ?_
  rintro e w2 ⟨rfl, h2⟩
  go_wp2_with fail
  exact bodyPost_end (results_none (by kernel_rfl) _ _ _) rfl ⟨rfl, h2⟩
theorem jump_any (t : Int) (ht : InI t) (h : Env B w0 bm l (n + 1) c k w) :
    Calls Try.prog 71 #[.pointer (some ⟨bm, 0, none⟩), .int .i64 t] w fun e w' => e = .returned (.tuple #[]) ∧ Env B w0 bm l n (jumpF c k t) k w' := by
  have hvi : InI c.vars := ini_small h.fine.vars.1 (by have := h.fine.vars.2; omega)
  have H := Lib.hid h
  clear h
  go_enter Try.func71, Try.ntmps71
  go_wp2_with fail
  refine (add_any H.out ((Below.refl _ _).alloc (Nat.le_refl _) _) (lit_instr (ini rfl) (ini rfl) (by decide) (rSlice_nil _ _ _ _) (rSlice_nil _ _ _ _) (rInts_all [t] (Nat.le_refl _) (lens rfl) (ini1 ht) (new_one w (.cells #[.int .i64 t] 3))))).mono ?_
  rintro e w2 ⟨rfl, h2⟩
  go_wp2_with fail
  exact bodyPost_end (results_none (by kernel_rfl) _ _ _) rfl ⟨rfl, h2⟩
theorem choose_any (a : Int) (yes : Int) (no : Int) (ha : InI a) (hyes : InI yes) (hno : InI no) (h : Env B w0 bm l (n + 1) c k w) :
    Calls Try.prog 70 #[.pointer (some ⟨bm, 0, none⟩), .int .i64 a, .int .i64 yes, .int .i64 no] w fun e w' => e = .returned (.tuple #[]) ∧ Env B w0 bm l n (chooseF c k a yes no) k w' := by
  have hvi : InI c.vars := ini_small h.fine.vars.1 (by have := h.fine.vars.2; omega)
  have H := Lib.hid h
  clear h
  go_enter Try.func70, Try.ntmps70
  go_wp2_with fail
  refine (add_any H.out (((Below.refl _ _).alloc (Nat.le_refl _) _).alloc (by simp) _) (lit_instr (ini rfl) (ini rfl) (by decide) (rSlice_nil _ _ _ _) (rInts_all [a] (Nat.le_refl _) (lens rfl) (ini1 ha) (new_two w (.cells #[.int .i64 a] 3) (.cells #[.int .i64 yes, .int .i64 no] 3)).1) (rInts_all [yes, no] (Nat.le_succ _) (lens rfl) (ini2 hyes hno) (new_two w (.cells #[.int .i64 a] 3) (.cells #[.int .i64 yes, .int .i64 no] 3)).2))).mono ?_
  rintro e w2 ⟨rfl, h2⟩
  go_wp2_with fail
  exact bodyPost_end (results_none (by kernel_rfl) _ _ _) rfl ⟨rfl, h2⟩

theorem back_any {w1 : World} {v : Value} {xs : List Int} (h : Env B w0 bm l (n + 1) c k w1) (hb : Below w1.heap.size w1 w) (hv : rInts (fun x => w1.heap.size ≤ x) w [v] xs) :
    Calls Try.prog 34 #[.pointer (some ⟨bm, 0, none⟩), v] w fun e w' => e = .returned (.tuple #[]) ∧ Env B w0 bm l n (backF c k xs) k w' := by
  obtain ⟨av, cv, rfl⟩ := rSlice_shape hv
  have H := Lib.hid h
  have Hb := Lib.hid hb
  have Hv := Lib.hid hv
  clear h hb hv
  go_enter Try.func34, Try.ntmps34
  go_wp2_with fail
  refine (add_any H.out Hb.out (lit_instr (ini rfl) (ini rfl) (by decide) (rSlice_nil _ _ _ _) Hv.out (rSlice_nil _ _ _ _))).mono ?_
  rintro e w2 ⟨rfl, h2⟩
  go_wp2_with fail
  exact bodyPost_end (results_none (by kernel_rfl) _ _ _) rfl ⟨rfl, h2⟩
end Go.Proofs.Ytaomlfbcfmmhlaa

/-
  rt's maker: when, walked: of whatever closure.
-/
namespace Go.Proofs.Ytaomlfbcfmmhlaa
open Go.RowKit Go.Pst
set_option linter.unusedVariables false
set_option linter.unusedSimpArgs false

variable {B bm n k : Nat} {w0 w : World} {l : List (Nat × Nat × Value)} {c : PCode}

/-- A function of the program's own, entered when it is called. -/
def Enters (P : Program) (g : Nat) : Prop := ∀ (args : Array Value) (w : World), (callFunc g args).run P w = .ok (.enter g args) w
theorem enters_of {P : Program} {g : Nat} {fn : Func} (h : P.funcs[g]? = some fn) (hn : (fn.name == "runtime.NumGoroutine") = false) (hb : fn.body.isNone = false) : Enters P g := by
  intro args w
  have hn' : ¬ fn.name = "runtime.NumGoroutine" := by simpa using hn
  have hb' : ¬ fn.body = none := fun e => by rw [e] at hb; simp at hb
  simp [callFunc, h, hn', hb']

/-- Has a block its last instruction? -/
def endedF (b : List PInstr) : Bool := match b.getLast? with
  | none => false
  | some i => decide (9 ≤ i.op) && decide (i.op ≤ 13)
def whenIn (c : PCode) (k : Nat) (a : Int) : PCode := chooseF (blockF' (blockF' c)) k a c.blocks.length (c.blocks.length + 1)
def whenOut (c : PCode) (k : Nat) (on : Int) : PCode := if endedF c.blocks[k]! = true then c else jumpF c k on

theorem env_box6 (h : Env B w0 bm l n c k w) : w.cell? ⟨bm, 6, none⟩ = some (.int .i64 k) ∧ w.frozen? ⟨bm, 6, none⟩ = false := by
  obtain ⟨X, M, ⟨gB, cB, vs, hc⟩, hf⟩ := h
  exact ⟨hc.c6, hc.z 6⟩
theorem env_goto (h : Env B w0 bm l n c k w) {k' : Nat} (hk : k' < c.blocks.length) : Env B w0 bm l n c k' (w.setCell ⟨bm, 6, none⟩ (.int .i64 k')) := by
  obtain ⟨X, M, ⟨gB, cB, vs, hc⟩, hf, hl, hb, hB, hM⟩ := h
  exact env_box (hc.setBox 6 _ c k' (by decide) rfl hk hc.fit rfl rfl rfl rfl rfl rfl) hc.m_box (hf.goto hk) hl hb hB hM
theorem env_at (h : Env B w0 bm l n c k w) : k < c.blocks.length := h.fine.at_
/-- What is read of the block at which the maker stands. -/
theorem env_last (h : Env B w0 bm l n c k w) : ∃ gB cB av cv, w.cell? ⟨bm, 5, none⟩ = some (.slice (some ⟨gB, 0, none⟩) c.blocks.length cB) ∧ w.cell? ⟨gB, k, none⟩ = some (.slice av c.blocks[k]!.length cv) ∧
    (c.blocks[k]! = [] ∨ ∃ g i q, av = some ⟨g, 0, none⟩ ∧ c.blocks[k]!.length = q + 1 ∧ c.blocks[k]!.getLast? = some i ∧ w.cell? ⟨g, q * 6, none⟩ = some (.int .i64 i.op)) ∧ c.blocks[k]!.length ≤ 1000000 ∧ c.blocks.length ≤ 1000000 := by
  obtain ⟨X, M, ⟨gB, cB, vs, hc⟩, hf, -⟩ := h
  have hkv : k < vs.length := by rw [hc.len]; exact hc.at_
  have hblk := hc.blk k hc.at_ hkv
  have hbl := hf.len (c.blocks[k]'hc.at_) (List.getElem_mem hc.at_)
  have eL : c.blocks[k]'hc.at_ = c.blocks[k]! := by simp [hc.at_]
  rw [eL] at hblk hbl
  obtain ⟨gg, cc, hgv, -, -, hgl, hgc, hgz⟩ := row_at hc.row (i := k) (u := vs[k]) (by simp [hkv])
  obtain ⟨rfl, rfl⟩ : gB = gg ∧ cB = cc := by simpa using hgv
  obtain ⟨av, cv, hv, -, -⟩ := hblk.slice
  rw [hv] at hgc
  refine ⟨gB, cB, av, cv, by simpa using hc.c5, hgc, ?_, by omega, by have := hf.nb; omega⟩
  generalize c.blocks[k]! = L at *
  rcases List.eq_nil_or_concat L with rfl | ⟨L', i, rfl⟩
  · exact Or.inl rfl
  · right
    have hr := hblk.reads
    rw [hv] at hr
    obtain ⟨a, cap, ha, -, -, hcells⟩ := rBlock_val hr
    obtain ⟨rfl, rfl⟩ : av = a ∧ cv = cap := by simpa using ha
    obtain ⟨b, off, v1, v2, v5, e, -, -, hop, -⟩ := hcells L'.length (by simp)
    obtain ⟨ess, ho, -⟩ := hblk
    rw [hv] at ho
    rcases ho.2 with ⟨h0, _⟩ | ⟨g, cap', cur, hv', _⟩
    · simp at h0
    · obtain ⟨rfl, -⟩ : av = some ⟨g, 0, none⟩ ∧ cv = cap' := by simpa using hv'
      obtain ⟨rfl, rfl⟩ : g = b ∧ 0 = off := by simpa using e
      refine ⟨g, i, L'.length, rfl, by simp, by simp, ?_⟩
      simpa using hop

set_option maxHeartbeats 2000000 in
theorem when_any {g m : Nat} {ba lb : Array Value} {a : Int} {c3 : PCode} {k3 : Nat} (ha : InI a) (hg : Enters Try.prog g) (h : Env B w0 bm l (m + 3) c k w)
    (hdo : ∀ w1, Env B w0 bm l m (whenIn c k a) c.blocks.length w1 → Calls Try.prog g (ba ++ lb) w1 fun e w' => e = .returned (.tuple #[]) ∧ Env B w0 bm l (n + 1) c3 k3 w') (hlen : c.blocks.length + 1 < c3.blocks.length) :
    Calls Try.prog 36 #[.pointer (some ⟨bm, 0, none⟩), .int .i64 a, .func (.func g) ba lb] w fun e w' => e = .returned (.tuple #[]) ∧ Env B w0 bm l n (whenOut c3 k3 (c.blocks.length + 1)) (c.blocks.length + 1) w' := by
  have hnb : (c.blocks.length : Int) ≤ 1000000 := by have := h.fine.nb; omega
  have hnb0 : (0 : Int) ≤ c.blocks.length := by omega
  have hent := fun args w => hg args w
  have H := Lib.hid h
  have Hdo := Lib.hid hdo
  clear h hdo hg
  go_enter Try.func36, Try.ntmps36
  go_wp2_with fail
  refine (block_any H.out).mono ?_
  rintro e w1 ⟨rfl, h1⟩
  have H1 := Lib.hid h1
  clear h1
  go_wp2_with fail
  refine (block_any H1.out).mono ?_
  rintro e w2 ⟨rfl, h2⟩
  have hbb : ((blockF' c).blocks.length : Int) = c.blocks.length + 1 := by simp [blockF']
  rw [hbb]
  have H2 := Lib.hid h2
  clear h2 hbb
  go_wp2_with fail
  refine (choose_any a c.blocks.length (c.blocks.length + 1) ha (ini_small hnb0 hnb) (ini_small (by omega) (by have := H2.out.fine.nb; simp [blockF'] at this; omega)) H2.out).mono ?_
  rintro e w3 ⟨rfl, h3⟩
  obtain ⟨q6, z6⟩ := env_box6 h3
  have H3 := Lib.hid h3
  clear h3
  go_wp2_with fail
  have hin := env_goto H3.out (k' := c.blocks.length) (by rw [chooseF_len, blockF'_len, blockF'_len]; omega)
  clear q6 z6
  refine (Hdo.out _ hin).mono ?_
  rintro e w4 ⟨rfl, h4⟩
  obtain ⟨gB, cB, av, cv, r5, rg, hlast, hl1, hl2⟩ := env_last h4
  generalize hL3 : c3.blocks[k3]! = L3 at *
  have HL3 := Lib.hid hL3
  clear hL3
  obtain ⟨r6, z6⟩ := env_box6 h4
  have hk3 := env_at h4
  have hk31 : (k3 : Int) < c3.blocks.length := by omega
  have hk30 : (0 : Int) ≤ k3 := by omega
  have H4 := Lib.hid h4
  have Hlast := Lib.hid hlast
  clear h4 hin Hdo hlast
  go_wp2_with fail
  go_region_held3 (fun w' => w'.cell? ⟨bm, 5, none⟩ = some (.slice (some ⟨gB, 0, none⟩) c3.blocks.length cB) ∧ w'.cell? ⟨bm, 6, none⟩ = some (.int .i64 k3) ∧ w'.cell? ⟨gB, k3, none⟩ = some (.slice av L3.length cv)) (go_keep) (fail)
  have H5 := Lib.hid (H4.out.drew)
  have hlt : c.blocks.length + 1 < c3.blocks.length := hlen
  have z6' : w4.drew.frozen? ⟨bm, 6, none⟩ = false := z6
  have hgo : ((c.blocks.length + 1 : Nat) : Int) = (c.blocks.length : Int) + 1 := by simp
  have hgo2 : (c.blocks.length : Int) + 1 ≤ 1000000 := by omega
  rcases Hlast.out with rfl | ⟨gv, i, q, rfl, hq, hi, hop⟩
  · have he : whenOut c3 k3 (c.blocks.length + 1) = jumpF c3 k3 (c.blocks.length + 1) := by
      unfold whenOut endedF
      rw [HL3.out]
      rfl
    have He := Lib.hid he
    clear Hlast he
    go_wp2_with fail
    refine (jump_any (c.blocks.length + 1) (ini_small (by omega) hgo2) H5.out).mono ?_
    rintro e w6 ⟨rfl, h6⟩
    obtain ⟨s6, y6⟩ := env_box6 h6
    have hend := env_goto h6 (k' := c.blocks.length + 1) (by rw [jumpF_len]; omega)
    rw [hgo] at hend
    have Hend := Lib.hid hend
    clear h6 hend r5 r6 rg hgo
    go_wp2_with fail
    exact bodyPost_end (results_none (by kernel_rfl) _ _ _) rfl ⟨rfl, by rw [He.out]; exact Hend.out⟩
  · rw [hq]
    have hq1 : ((q + 1 : Nat) : Int) = (q : Int) + 1 := by simp
    have hql : (q : Int) + 1 ≤ 1000000 := by omega
    have hnz : ((q : Int) + 1 == 0) = false := by simp; omega
    have hop' : w4.drew.cell? ⟨gv, q * 6, none⟩ = some (.int .i64 i.op) := hop
    clear hop
    have Hgo := Lib.hid hgo
    have Hi := Lib.hid hi
    have Hq := Lib.hid hq
    clear Hlast hgo hi hq
    by_cases hE : 9 ≤ i.op ∧ i.op ≤ 13
    · have he : whenOut c3 k3 (c.blocks.length + 1) = c3 := by
        unfold whenOut endedF
        rw [HL3.out, Hi.out]
        simp [hE]
      have He := Lib.hid he
      have d1 : decide (i.op < 9) = false := by simp; omega
      have d2 : decide (13 < i.op) = false := by simp; omega
      have hend := env_goto (H5.out.weaken (Nat.le_succ _)) (k' := c.blocks.length + 1) hlt
      rw [Hgo.out] at hend
      have Hend := Lib.hid hend
      clear he hend hE
      go_wp2_with fail
      exact bodyPost_end (results_none (by kernel_rfl) _ _ _) rfl ⟨rfl, by rw [He.out]; exact Hend.out⟩
    · have he : whenOut c3 k3 (c.blocks.length + 1) = jumpF c3 k3 (c.blocks.length + 1) := by
        unfold whenOut endedF
        rw [HL3.out, Hi.out]
        have : (decide (9 ≤ i.op) && decide (i.op ≤ 13)) = false := by
          cases hb : (decide (9 ≤ i.op) && decide (i.op ≤ 13)) with
          | false => rfl
          | true => exact absurd (by simpa using hb) hE
        simp only [this, Bool.false_eq_true, if_false]
      have He := Lib.hid he
      clear he
      rcases d1 : decide (i.op < 9) with _ | _
      · have d2 : decide (13 < i.op) = true := by simp at d1 ⊢; omega
        have HE := Lib.hid hE
        clear hE
        go_wp2_with fail
        refine (jump_any (c.blocks.length + 1) (ini_small (by omega) hgo2) H5.out).mono ?_
        rintro e w6 ⟨rfl, h6⟩
        obtain ⟨s6, y6⟩ := env_box6 h6
        have hend := env_goto h6 (k' := c.blocks.length + 1) (by rw [jumpF_len]; omega)
        rw [Hgo.out] at hend
        have Hend := Lib.hid hend
        clear h6 hend r5 r6 rg
        go_wp2_with fail
        exact bodyPost_end (results_none (by kernel_rfl) _ _ _) rfl ⟨rfl, by rw [He.out]; exact Hend.out⟩
      · have HE := Lib.hid hE
        clear hE
        go_wp2_with fail
        refine (jump_any (c.blocks.length + 1) (ini_small (by omega) hgo2) H5.out).mono ?_
        rintro e w6 ⟨rfl, h6⟩
        obtain ⟨s6, y6⟩ := env_box6 h6
        have hend := env_goto h6 (k' := c.blocks.length + 1) (by rw [jumpF_len]; omega)
        rw [Hgo.out] at hend
        have Hend := Lib.hid hend
        clear h6 hend r5 r6 rg
        go_wp2_with fail
        exact bodyPost_end (results_none (by kernel_rfl) _ _ _) rfl ⟨rfl, by rw [He.out]; exact Hend.out⟩
end Go.Proofs.Ytaomlfbcfmmhlaa

/-
  rt's maker: count, walked: of whatever closure (printed by wip/gen_rtcount.py).
-/
namespace Go.Proofs.Ytaomlfbcfmmhlaa
open Go.RowKit Go.Pst
set_option linter.unusedVariables false
set_option linter.unusedSimpArgs false

variable {B bm n k : Nat} {w0 w : World} {l : List (Nat × Nat × Value)} {c : PCode}
def count1 (c : PCode) (k : Nat) (fr : Int) : PCode := setF (freshF c) k c.vars fr
def count2 (c : PCode) (k : Nat) (fr : Int) : PCode := jumpF (blockF' (blockF' (blockF' (count1 c k fr)))) k c.blocks.length
def count3 (c : PCode) (k : Nat) (fr tt : Int) : PCode := mathF (count2 c k fr) c.blocks.length ⟨#[60]⟩ c.vars tt
def countIn (c : PCode) (k : Nat) (fr tt : Int) : PCode := chooseF (count3 c k fr tt) c.blocks.length (count2 c k fr).vars (c.blocks.length + 1) (c.blocks.length + 2)
def count5 (c : PCode) (k : Nat) (d : Int) : PCode := mathF (konstF c k 1) k ⟨#[43]⟩ d c.vars
def countOut (c : PCode) (k : Nat) (d h : Int) : PCode := jumpF (setF (count5 c k d) k d (konstF c k 1).vars) k h

set_option maxHeartbeats 4000000 in
theorem count_any {g m : Nat} {lb : Array Value} {fr tt : Int} {c3 : PCode} {k3 : Nat} (hfr : InI fr) (htt : InI tt) (hg : Enters Try.prog g) (h : Env B w0 bm l (m + 9) c k w)
    (hdo : ∀ w1, Env B w0 bm l m (countIn c k fr tt) (c.blocks.length + 1) w1 → Calls Try.prog g (#[.int .i64 c.vars] ++ lb) w1 fun e w' => e = .returned (.tuple #[]) ∧ Env B w0 bm l (n + 6) c3 k3 w') (hlen : c.blocks.length + 2 < c3.blocks.length) :
    Calls Try.prog 38 #[.pointer (some ⟨bm, 0, none⟩), .int .i64 fr, .int .i64 tt, .func (.func g) #[] lb] w fun e w' => e = .returned (.tuple #[]) ∧ Env B w0 bm l n (countOut c3 k3 c.vars c.blocks.length) (c.blocks.length + 2) w' := by
  have hnb : (c.blocks.length : Int) + 2 ≤ 1000000 := by have := h.fine.nb; omega
  have hnb0 : (0 : Int) ≤ c.blocks.length := by omega
  have hv0 := h.fine.vars.1
  have hv1 : c.vars ≤ 1000000 := by have := h.fine.vars.2; omega
  have hvi : InI c.vars := ini_small hv0 hv1
  have hent := fun args w => hg args w
  have H := Lib.hid h
  have Hdo := Lib.hid hdo
  clear h hdo hg
  go_enter Try.func38, Try.ntmps38
  go_wp2_with fail
  refine (fresh_any H.out).mono ?_
  rintro e w1 ⟨rfl, h1⟩
  have H1 := Lib.hid h1
  clear h1
  go_wp2_with fail
  refine (set_any c.vars fr hvi hfr H1.out).mono ?_
  rintro e w2 ⟨rfl, h2⟩
  have H2 := Lib.hid h2
  clear h2
  go_wp2_with fail
  refine (block_any H2.out).mono ?_
  rintro e w3 ⟨rfl, h3⟩
  rw [show ((setF (freshF c) k c.vars fr).blocks.length : Int) = c.blocks.length by simp [setF_len, freshF_len]]
  have H3 := Lib.hid h3
  clear h3
  go_wp2_with fail
  refine (block_any H3.out).mono ?_
  rintro e w4 ⟨rfl, h4⟩
  rw [show ((blockF' (setF (freshF c) k c.vars fr)).blocks.length : Int) = c.blocks.length + 1 by simp [setF_len, freshF_len, blockF'_len]; try omega]
  have H4 := Lib.hid h4
  clear h4
  go_wp2_with fail
  refine (block_any H4.out).mono ?_
  rintro e w5 ⟨rfl, h5⟩
  rw [show ((blockF' (blockF' (setF (freshF c) k c.vars fr))).blocks.length : Int) = c.blocks.length + 2 by simp [setF_len, freshF_len, blockF'_len]; try omega]
  have H5 := Lib.hid h5
  clear h5
  go_wp2_with fail
  refine (jump_any c.blocks.length (ini_small hnb0 (by omega)) H5.out).mono ?_
  rintro e w6 ⟨rfl, h6⟩
  obtain ⟨q6, z6⟩ := env_box6 h6
  have h6' : Env B w0 bm l (m + 3) (count2 c k fr) k w6 := h6
  have g6 := env_goto h6' (k' := c.blocks.length) (by (simp [jumpF_len, setF_len, chooseF_len, mathF_len, konstF_len, blockF'_len, freshF_len, count1, count2, count3, countIn, count5, countOut]; try omega))
  have H6 := Lib.hid g6
  clear h6 h6' g6
  go_wp2_with fail
  clear q6 z6
  refine (math_any ⟨#[60]⟩ c.vars tt hvi htt (by decide) H6.out).mono ?_
  rintro e w7 ⟨rfl, h7⟩
  have h7' : Env B w0 bm l (m + 1) (count3 c k fr tt) c.blocks.length w7 := h7
  have hv7 : InI (count2 c k fr).vars := ini_small H6.out.fine.vars.1 (by have := H6.out.fine.vars.2; omega)
  have H7 := Lib.hid h7'
  clear h7 h7'
  go_wp2_with fail
  refine (choose_any (count2 c k fr).vars (c.blocks.length + 1) (c.blocks.length + 2) hv7 (ini_small (by omega) (by omega)) (ini_small (by omega) hnb) H7.out).mono ?_
  rintro e w8 ⟨rfl, h8⟩
  obtain ⟨q8, z8⟩ := env_box6 h8
  have h8' : Env B w0 bm l m (countIn c k fr tt) c.blocks.length w8 := h8
  have g8 := env_goto h8' (k' := c.blocks.length + 1) (by (simp [jumpF_len, setF_len, chooseF_len, mathF_len, konstF_len, blockF'_len, freshF_len, count1, count2, count3, countIn, count5, countOut]; try omega))
  have hgo : ((c.blocks.length + 1 : Nat) : Int) = (c.blocks.length : Int) + 1 := by simp
  rw [hgo] at g8
  have H8 := Lib.hid g8
  clear h8 h8' g8 hgo
  go_wp2_with fail
  clear q8 z8
  refine (Hdo.out _ H8.out).mono ?_
  rintro e w9 ⟨rfl, h9⟩
  have H9 := Lib.hid h9
  clear h9
  have hc3 : InI c3.vars := ini_small H9.out.fine.vars.1 (by have := H9.out.fine.vars.2; omega)
  go_wp2_with fail
  refine (konst_any 1 (ini rfl) H9.out).mono ?_
  rintro e w10 ⟨rfl, h10⟩
  have h10' : Env B w0 bm l (n + 4) (konstF c3 k3 1) k3 w10 := h10
  have H10 := Lib.hid h10'
  clear h10 h10'
  go_wp2_with fail
  refine (math_any ⟨#[43]⟩ c.vars c3.vars hvi hc3 (by decide) H10.out).mono ?_
  rintro e w11 ⟨rfl, h11⟩
  have hv11 : InI (konstF c3 k3 1).vars := ini_small H10.out.fine.vars.1 (by have := H10.out.fine.vars.2; omega)
  have h11' : Env B w0 bm l (n + 2) (count5 c3 k3 c.vars) k3 w11 := h11
  have H11 := Lib.hid h11'
  clear h11 h11'
  go_wp2_with fail
  refine (set_any c.vars (konstF c3 k3 1).vars hvi hv11 H11.out).mono ?_
  rintro e w12 ⟨rfl, h12⟩
  have H12 := Lib.hid h12
  clear h12
  go_wp2_with fail
  refine (jump_any c.blocks.length (ini_small hnb0 (by omega)) H12.out).mono ?_
  rintro e w13 ⟨rfl, h13⟩
  obtain ⟨q13, z13⟩ := env_box6 h13
  have h13' : Env B w0 bm l n (countOut c3 k3 c.vars c.blocks.length) k3 w13 := h13
  have g13 := env_goto h13' (k' := c.blocks.length + 2) (by simp only [jumpF_len, setF_len, chooseF_len, mathF_len, konstF_len, blockF'_len, freshF_len, count1, count2, count3, countIn, count5, countOut]; exact hlen)
  have hgo : ((c.blocks.length + 2 : Nat) : Int) = (c.blocks.length : Int) + 2 := by simp
  rw [hgo] at g13
  have H13 := Lib.hid g13
  clear h13 h13' g13 hgo
  go_wp2_with fail
  exact bodyPost_end (results_none (by kernel_rfl) _ _ _) rfl ⟨rfl, H13.out⟩
end Go.Proofs.Ytaomlfbcfmmhlaa

/-
  rt's maker: copy, walked.
-/
namespace Go.Proofs.Ytaomlfbcfmmhlaa
open Go.RowKit Go.Pst
set_option linter.unusedVariables false
set_option linter.unusedSimpArgs false

variable {B bm n k : Nat} {w0 w : World} {l : List (Nat × Nat × Value)} {c : PCode}
theorem keep1 {b1 : Nat} {v1 : Value} (h1 : (b1, 0, v1) ∈ l) (hx : EnvX B w0 bm l w) : w.cell? ⟨b1, 0, none⟩ = some v1 ∧ EnvX B w0 bm l w := ⟨hx.cell h1, hx⟩
theorem keep2 {b1 b2 : Nat} {v1 v2 : Value} (h1 : (b1, 0, v1) ∈ l) (h2 : (b2, 0, v2) ∈ l) (hx : EnvX B w0 bm l w) : (w.cell? ⟨b1, 0, none⟩ = some v1 ∧ w.cell? ⟨b2, 0, none⟩ = some v2) ∧ EnvX B w0 bm l w := ⟨⟨hx.cell h1, hx.cell h2⟩, hx⟩
theorem keep3 {b1 b2 b3 : Nat} {v1 v2 v3 : Value} (h1 : (b1, 0, v1) ∈ l) (h2 : (b2, 0, v2) ∈ l) (h3 : (b3, 0, v3) ∈ l) (hx : EnvX B w0 bm l w) : (w.cell? ⟨b1, 0, none⟩ = some v1 ∧ w.cell? ⟨b2, 0, none⟩ = some v2 ∧ w.cell? ⟨b3, 0, none⟩ = some v3) ∧ EnvX B w0 bm l w := ⟨⟨hx.cell h1, hx.cell h2, hx.cell h3⟩, hx⟩
theorem InI.vars (h : Env B w0 bm l n c k w) : InI c.vars := ini_small h.fine.vars.1 (by have := h.fine.vars.2; omega)

def copyBody (c : PCode) (k : Nat) (tt fr d : Int) : PCode :=
  storeF (loadF (mathF (mathF c k ⟨#[43]⟩ tt d) k ⟨#[43]⟩ fr d) k (mathF c k ⟨#[43]⟩ tt d).vars 0) k c.vars 0 (mathF (mathF c k ⟨#[43]⟩ tt d) k ⟨#[43]⟩ fr d).vars

set_option maxHeartbeats 4000000 in
theorem copyBody_any {b1 b2 b3 : Nat} {tt fr d : Int} (ht : InI tt) (hf : InI fr) (hd : InI d) (h1 : (b1, 0, Value.pointer (some ⟨bm, 0, none⟩)) ∈ l) (h2 : (b2, 0, Value.int .i64 tt) ∈ l) (h3 : (b3, 0, Value.int .i64 fr) ∈ l) (h : Env B w0 bm l (n + 7) c k w) :
    Calls Try.prog 68 #[.int .i64 d, .pointer (some ⟨b1, 0, none⟩), .pointer (some ⟨b2, 0, none⟩), .pointer (some ⟨b3, 0, none⟩)] w fun e w' => e = .returned (.tuple #[]) ∧ Env B w0 bm l n (copyBody c k tt fr d) k w' := by
  have hvi := InI.vars h
  have H := Lib.hid h
  have hS := keep3 h1 h2 h3 h.x
  clear h
  go_enter Try.func68, Try.ntmps68
  go_wp2_with fail
  go_region_held3 (fun w' => (w'.cell? ⟨b1, 0, none⟩ = some (.pointer (some ⟨bm, 0, none⟩)) ∧ w'.cell? ⟨b2, 0, none⟩ = some (.int .i64 tt) ∧ w'.cell? ⟨b3, 0, none⟩ = some (.int .i64 fr)) ∧ EnvX B w0 bm l w')
    (first | exact hS | exact keep3 h1 h2 h3 H.out.x.drew | exact keep3 h1 h2 h3 (Env.x (by assumption)) | exact keep3 h1 h2 h3 (EnvX.drew (And.right (by assumption))))
    (first | (go_at_call 31; (with_reducible refine (math_any ⟨#[43]⟩ tt d ht hd (by decide) H.out.drew).mono ?_); rintro e w1 ⟨rfl, e1⟩) | (go_at_call 31; (with_reducible refine (math_any ⟨#[43]⟩ fr d hf hd (by decide) e1).mono ?_); rintro e w2 ⟨rfl, e2⟩) | (go_at_call 40; refine (load_any _ 0 (InI.vars e1) (ini rfl) e2).mono ?_; rintro e w3 ⟨rfl, e3⟩) | (go_at_call 48; refine (store_any _ 0 _ hvi (ini rfl) (InI.vars e2) e3).mono ?_; rintro e w4 ⟨rfl, e4⟩))
  all_goals
    go_wp2_with fail
    exact bodyPost_end (results_none (by kernel_rfl) _ _ _) rfl ⟨rfl, e4⟩

theorem enters_copy : Enters Try.prog 68 := enters_of Try.func68 (by kernel_rfl) (by kernel_rfl)
def copyIn (c : PCode) (k : Nat) (m : Int) : PCode := countIn (konstF c k 0) k c.vars m
def copyF (c : PCode) (k : Nat) (tt fr m : Int) : PCode := countOut (copyBody (copyIn c k m) (c.blocks.length + 1) tt fr (c.vars + 1)) (c.blocks.length + 1) (c.vars + 1) c.blocks.length
theorem countIn_len (c : PCode) (k : Nat) (fr tt : Int) : (countIn c k fr tt).blocks.length = c.blocks.length + 3 := by simp [countIn, count3, count2, count1, jumpF_len, setF_len, chooseF_len, freshF_len, blockF'_len, mathF_len]
theorem copyBody_len (c : PCode) (k : Nat) (tt fr d : Int) : (copyBody c k tt fr d).blocks.length = c.blocks.length := by simp [copyBody, storeF_len, loadF_len, mathF_len]

set_option maxHeartbeats 4000000 in
theorem copy_any {tt fr m : Int} (ht : InI tt) (hf : InI fr) (hm : InI m) (h : Env B w0 bm l (n + 24) c k w) :
    Calls Try.prog 33 #[.pointer (some ⟨bm, 0, none⟩), .int .i64 tt, .int .i64 fr, .int .i64 m] w fun e w' => e = .returned (.tuple #[]) ∧ Env B w0 bm l n (copyF c k tt fr m) (c.blocks.length + 2) w' := by
  have hvi := InI.vars h
  have hb1 := h.box (.pointer (some ⟨bm, 0, none⟩)) 54
  have hb2 := hb1.box (.int .i64 tt) 3
  have hb3 := hb2.box (.int .i64 fr) 3
  simp only [World.size_alloc] at hb2 hb3
  generalize hW : ((w.alloc (.cells #[.pointer (some ⟨bm, 0, none⟩)] 54)).alloc (.cells #[.int .i64 tt] 3)).alloc (.cells #[.int .i64 fr] 3) = W at hb3
  obtain ⟨LL, hLL⟩ : ∃ LL, LL = (w.heap.size + 1 + 1, 0, Value.int .i64 fr) :: (w.heap.size + 1, 0, Value.int .i64 tt) :: (w.heap.size, 0, Value.pointer (some ⟨bm, 0, none⟩)) :: l := ⟨_, rfl⟩
  rw [← hLL] at hb3
  have m1 : (w.heap.size, 0, Value.pointer (some ⟨bm, 0, none⟩)) ∈ LL := by rw [hLL]; simp
  have m2 : (w.heap.size + 1, 0, Value.int .i64 tt) ∈ LL := by rw [hLL]; simp
  have m3 : (w.heap.size + 1 + 1, 0, Value.int .i64 fr) ∈ LL := by rw [hLL]; simp
  have hfew : ∀ p ∈ l, p ∈ LL := fun p hp => by rw [hLL]; simp [hp]
  have H := Lib.hid hb3
  have HW := Lib.hid hW
  have hn : (konstF c k 0).blocks.length = c.blocks.length := konstF_len _ _ _
  have hS := keep1 m1 hb3.x
  have Hn := Lib.hid hn
  clear h hb1 hb2 hb3 hW hn hLL
  go_enter Try.func33, Try.ntmps33
  go_wp2_with fail
  rw [HW.out]
  go_region_held3 (fun w' => (w'.cell? ⟨w.heap.size, 0, none⟩ = some (.pointer (some ⟨bm, 0, none⟩))) ∧ EnvX B w0 bm LL w')
    (first | exact hS | exact keep1 m1 (Env.x (by assumption)) | exact keep1 m1 (EnvX.drew (And.right (by assumption))))
    (first | (go_at_call 35; refine (konst_any 0 (ini rfl) H.out.drew).mono ?_; rintro e w1 ⟨rfl, e1⟩) | (go_at_call 38; refine (count_any (m := n + 13) (n := n) (c3 := copyBody (copyIn c k m) (c.blocks.length + 1) tt fr (c.vars + 1)) (k3 := c.blocks.length + 1) hvi hm enters_copy e1 (fun w2 e2 => by { rw [Hn.out] at e2; exact copyBody_any (b1 := w.heap.size) (b2 := w.heap.size + 1) (b3 := w.heap.size + 1 + 1) ht hf (InI.vars e1) m1 m2 m3 e2 }) (by rw [copyBody_len]; unfold copyIn; rw [countIn_len, Hn.out]; omega)).mono ?_; rintro e w3 ⟨rfl, e3⟩))
  all_goals
    go_wp2_with fail
    refine bodyPost_end (results_none (by kernel_rfl) _ _ _) rfl ⟨rfl, ?_⟩
    have e4 : Env B w0 bm LL n (countOut (copyBody (copyIn c k m) (c.blocks.length + 1) tt fr (c.vars + 1)) (c.blocks.length + 1) (konstF c k 0).vars (konstF c k 0).blocks.length) ((konstF c k 0).blocks.length + 2) w3 := e3
    rw [Hn.out] at e4
    exact e4.fewer hfew
end Go.Proofs.Ytaomlfbcfmmhlaa

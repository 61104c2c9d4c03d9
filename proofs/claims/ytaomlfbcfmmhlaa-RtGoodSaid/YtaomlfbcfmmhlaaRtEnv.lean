/-
  rt's maker under way: where its box is, what else is to stay, for how many more steps there is room (plain memory).
-/
import Derived.Test.YtaomlfbcfmmhlaaMk
namespace Go.Pst
open Go.RowKit
set_option linter.unusedVariables false
set_option linter.unusedSimpArgs false

/-- There is room for n more steps. -/
structure Fine (n : Nat) (c : PCode) (k : Nat) : Prop where
  vars : 0 ≤ c.vars ∧ c.vars + n ≤ 1000000
  nb : c.blocks.length + n ≤ 1000000
  len : ∀ b ∈ c.blocks, b.length + n ≤ 1000000
  at_ : k < c.blocks.length
def addF (c : PCode) (k : Nat) (i : PInstr) : PCode := { c with blocks := c.blocks.set k (c.blocks[k]! ++ [i]) }
def freshF (c : PCode) : PCode := { c with vars := c.vars + 1 }
def blockF' (c : PCode) : PCode := { c with blocks := c.blocks ++ [[]] }
theorem Fine.weaken {n m : Nat} {c : PCode} {k : Nat} (h : Fine n c k) (hm : m ≤ n) : Fine m c k := ⟨⟨h.vars.1, by have := h.vars.2; omega⟩, by have := h.nb; omega, fun b hb => by have := h.len b hb; omega, h.at_⟩
theorem Fine.fresh {n : Nat} {c : PCode} {k : Nat} (h : Fine (n + 1) c k) : Fine n (freshF c) k := ⟨⟨by have := h.vars.1; show 0 ≤ c.vars + 1; omega, by have := h.vars.2; show c.vars + 1 + n ≤ _; omega⟩, by have := h.nb; show c.blocks.length + n ≤ _; omega, fun b hb => by have := h.len b hb; omega, h.at_⟩
theorem Fine.add {n : Nat} {c : PCode} {k : Nat} {i : PInstr} (h : Fine (n + 1) c k) : Fine n (addF c k i) k := by
  refine ⟨⟨h.vars.1, by have := h.vars.2; show c.vars + n ≤ _; omega⟩, by have := h.nb; simp [addF]; omega, fun b hb => ?_, by have := h.at_; simpa [addF] using this⟩
  rcases List.mem_or_eq_of_mem_set hb with hb | rfl
  · have := h.len b hb; omega
  · have hk := h.at_
    have := h.len c.blocks[k]! (by simp [hk])
    simp
    simp at this
    omega
theorem Fine.block {n : Nat} {c : PCode} {k : Nat} (h : Fine (n + 1) c k) : Fine n (blockF' c) k := by
  refine ⟨⟨h.vars.1, by have := h.vars.2; show c.vars + n ≤ _; omega⟩, by have := h.nb; simp [blockF']; omega, fun b hb => ?_, by have := h.at_; simp [blockF']; omega⟩
  rcases List.mem_append.1 hb with hb | hb
  · have := h.len b hb; omega
  · obtain rfl : b = [] := by simpa using hb
    have := h.nb; simp; omega
theorem Fine.goto {n : Nat} {c : PCode} {k k' : Nat} (h : Fine n c k) (hk : k' < c.blocks.length) : Fine n c k' := ⟨h.vars, h.nb, h.len, hk⟩

/-- The maker's box bm, the code c so far, the block k to which code is added; the cells l stay, and nothing of the code lies in their blocks (X); all since w0 lies from block B on. -/
def Env (B : Nat) (w0 : World) (bm : Nat) (l : List (Nat × Nat × Value)) (n : Nat) (c : PCode) (k : Nat) (w : World) : Prop :=
  ∃ X M : Nat → Prop, MkAt 0 6 bm X M c k w ∧ Fine n c k ∧ (∀ p ∈ l, X p.1 ∧ w.cell? ⟨p.1, p.2.1, none⟩ = some p.2.2 ∧ w.frozen? ⟨p.1, p.2.1, none⟩ = false) ∧ Below B w0 w ∧ B ≤ w0.heap.size ∧ ∀ x, x < B → X x
/-- .. whatever the code is. -/
def EnvX (B : Nat) (w0 : World) (bm : Nat) (l : List (Nat × Nat × Value)) (w : World) : Prop := ∃ n c k, Env B w0 bm l n c k w

variable {B bm n k : Nat} {w0 w w' : World} {l : List (Nat × Nat × Value)} {c : PCode}
theorem Env.x (h : Env B w0 bm l n c k w) : EnvX B w0 bm l w := ⟨n, c, k, h⟩
theorem Env.fine (h : Env B w0 bm l n c k w) : Fine n c k := h.choose_spec.choose_spec.2.1
theorem Env.weaken {m : Nat} (h : Env B w0 bm l n c k w) (hm : m ≤ n) : Env B w0 bm l m c k w := by
  obtain ⟨X, M, h1, h2, h3⟩ := h
  exact ⟨X, M, h1, h2.weaken hm, h3⟩
theorem Env.later (h : Env B w0 bm l n c k w) (hb : Below w.heap.size w w') : Env B w0 bm l n c k w' := by
  obtain ⟨X, M, ⟨gB, cB, vs, h1⟩, h2, h3, h4, h5, h6⟩ := h
  have hx := h1.x_.2.2
  exact ⟨X, M, ⟨gB, cB, vs, h1.below hb⟩, h2, fun p hp => ⟨(h3 p hp).1, (hb.cell (p := ⟨p.1, p.2.1, none⟩) (hx _ (h3 p hp).1)).trans (h3 p hp).2.1, (hb.frozen (p := ⟨p.1, p.2.1, none⟩) (hx _ (h3 p hp).1)).trans (h3 p hp).2.2⟩, h4.trans (hb.mono (Nat.le_trans h5 h4.size)), h5, h6⟩
theorem Env.drew (h : Env B w0 bm l n c k w) : Env B w0 bm l n c k w.drew := h.later (Drawn.below (Drawn.drew _) _)
theorem Env.drewN (h : Env B w0 bm l n c k w) (m : Nat) : Env B w0 bm l n c k (w.drewN m) := h.later (Drawn.below ⟨m, rfl⟩ _)
theorem Env.alloc (h : Env B w0 bm l n c k w) (o : Obj) : Env B w0 bm l n c k (w.alloc o) := h.later ((Below.refl _ _).alloc (Nat.le_refl _) o)
theorem EnvX.later (h : EnvX B w0 bm l w) (hb : Below w.heap.size w w') : EnvX B w0 bm l w' := by
  obtain ⟨n, c, k, h⟩ := h
  exact ⟨n, c, k, h.later hb⟩
theorem EnvX.drew (h : EnvX B w0 bm l w) : EnvX B w0 bm l w.drew := h.later (Drawn.below (Drawn.drew _) _)
theorem EnvX.alloc (h : EnvX B w0 bm l w) (o : Obj) : EnvX B w0 bm l (w.alloc o) := h.later ((Below.refl _ _).alloc (Nat.le_refl _) o)
theorem EnvX.cell (h : EnvX B w0 bm l w) {b o : Nat} {v : Value} (hm : (b, o, v) ∈ l) : w.cell? ⟨b, o, none⟩ = some v := by
  obtain ⟨n, c, k, X, M, h1, h2, h3, h4⟩ := h
  exact (h3 _ hm).2.1
theorem Env.cell (h : Env B w0 bm l n c k w) {b o : Nat} {v : Value} (hm : (b, o, v) ∈ l) : w.cell? ⟨b, o, none⟩ = some v := h.x.cell hm
theorem Env.frozen (h : Env B w0 bm l n c k w) {b o : Nat} {v : Value} (hm : (b, o, v) ∈ l) : w.frozen? ⟨b, o, none⟩ = false := by
  obtain ⟨X, M, h1, h2, h3, h4⟩ := h
  exact (h3 _ hm).2.2
theorem Env.lt (h : Env B w0 bm l n c k w) {b o : Nat} {v : Value} (hm : (b, o, v) ∈ l) : b < w.heap.size := by
  obtain ⟨X, M, ⟨gB, cB, vs, h1⟩, h2, h3, h4⟩ := h
  exact h1.x_.2.2 _ (h3 _ hm).1
theorem Env.below (h : Env B w0 bm l n c k w) : Below B w0 w := h.choose_spec.choose_spec.2.2.2.1
/-- A variable's new box. -/
theorem Env.box (h : Env B w0 bm l n c k w) (v : Value) (t : TypeId) : Env B w0 bm ((w.heap.size, 0, v) :: l) n c k (w.alloc (.cells #[v] t)) := by
  obtain ⟨-, -, -, -, -, h4, -, -⟩ := id (h.alloc (.cells #[v] t))
  obtain ⟨X, M, ⟨gB, cB, vs, h1⟩, h2, h3, h4', h5, h6⟩ := h
  have hx := h1.x_.2.2
  have hs : Since (fun _ => False) w (w.alloc (.cells #[v] t)) := Since.alloc _ _ _
  have h7 := h1.below ((Below.refl _ _).alloc (Nat.le_refl _) (.cells #[v] t))
  refine ⟨fun x => X x ∨ x = w.heap.size, fun x => M x ∨ x = w.heap.size, ⟨gB, cB, vs, { h7 with blk := fun t ht ht' => (h1.blk t ht ht').keep hs (fun _ f => f.elim) (fun _ _ => id) (fun k hk m => m.elim id (fun e => by omega)), own := fun v hv => ⟨(h1.own v hv).1, (h1.own v hv).2.1, fun x hx m => m.elim ((h1.own v hv).2.2 x hx) (fun e => ?_)⟩, mine := fun x => ?_, x_ := ⟨fun m => m.elim h1.x_.1 (fun e => by have := h1.lt; omega), fun m => m.elim h1.x_.2.1 (fun e => by have := h1.gB_lt; omega), fun x m => ?_⟩ }⟩, h2, fun p hp => ?_, h4, h5, fun x hx => Or.inl (h6 x hx)⟩
  · obtain ⟨t, ht, rfl⟩ := List.mem_iff_getElem.1 hv
    have := (h1.blk t (by have := h1.len; omega) ht).lt x hx
    omega
  · rw [h1.mine x]
    constructor
    · rintro ((h | h | h | h) | h)
      · exact Or.inl h
      · exact Or.inr (Or.inl h)
      · exact Or.inr (Or.inr (Or.inl h))
      · exact Or.inr (Or.inr (Or.inr (Or.inl h)))
      · exact Or.inr (Or.inr (Or.inr (Or.inr h)))
    · rintro (h | h | h | h | h)
      · exact Or.inl (Or.inl h)
      · exact Or.inl (Or.inr (Or.inl h))
      · exact Or.inl (Or.inr (Or.inr (Or.inl h)))
      · exact Or.inl (Or.inr (Or.inr (Or.inr h)))
      · exact Or.inr h
  · rcases m with m | m
    · have := hx x m
      simp; omega
    · simp; omega
  · rcases List.mem_cons.1 hp with rfl | hp
    · exact ⟨Or.inr rfl, by rw [World.cell?_alloc_new]; rfl, World.frozen?_alloc_new _ _ _ _⟩
    · have hlt := hx _ (h3 p hp).1
      exact ⟨Or.inl (h3 p hp).1, by rw [World.cell?_alloc_lt _ _ _ hlt]; exact (h3 p hp).2.1, (hs.frozen hlt id).trans (h3 p hp).2.2⟩
theorem Since.of_below' {w w' : World} (hb : Below w.heap.size w w') (F : Nat → Prop) : Since F w w' := ⟨hb.os, hb.tape, hb.output, hb.size, fun k hk _ => hb.block k hk⟩
/-- Fewer cells to stay. -/
theorem Env.fewer {l' : List (Nat × Nat × Value)} (h : Env B w0 bm l n c k w) (hl : ∀ p ∈ l', p ∈ l) : Env B w0 bm l' n c k w := by
  obtain ⟨X, M, h1, h2, h3, h4⟩ := h
  exact ⟨X, M, h1, h2, fun p hp => h3 p (hl p hp), h4⟩
/-- One of the cells that stay is written anew. -/
theorem Env.poke {l' : List (Nat × Nat × Value)} {b : Nat} {v v' : Value} (h : Env B w0 bm l n c k w) (hm : (b, 0, v) ∈ l) (hB : B ≤ b) (hl : ∀ p ∈ l', p ∈ l ∧ p.1 ≠ b) : Env B w0 bm ((b, 0, v') :: l') n c k (w.setCell ⟨b, 0, none⟩ v') := by
  have hcell := h.cell hm
  have hlt := h.lt hm
  obtain ⟨X, M, ⟨gB, cB, vs, h1⟩, h2, h3, h4, h5, h6⟩ := h
  have hs := Since.setCell w ⟨b, 0, none⟩ v'
  have hXb := (h3 _ hm).1
  have h8 := h4.size
  have hbm : ¬ (bm = b) := fun e => h1.x_.1 (e ▸ hXb)
  have hgB : ¬ (gB = b) := fun e => h1.x_.2.1 (e ▸ hXb)
  have hc := fun j => hs.cell (o := j) h1.lt hbm
  refine ⟨X, M, ⟨gB, cB, vs, Nat.lt_of_lt_of_le h1.lt hs.size, (hc _).trans h1.c0, (hc _).trans h1.c1, (hc _).trans h1.c2, (hc _).trans h1.c3, (hc _).trans h1.c4, (hc _).trans h1.c5, (hc _).trans h1.c6, fun j => (hs.frozen h1.lt hbm).trans (h1.z j), h1.od, h1.fit,
    hs.row h1.row (fun x e f => by have f : x = b := f; simp [Value.ownBlock] at e; omega), h1.len,
    fun t ht ht' => (h1.blk t ht ht').keep hs (fun x e => by have e : x = b := e; exact e ▸ (h1.mine b).2 (Or.inr (Or.inr (Or.inr hXb)))) (fun x hx e => (h1.own _ (List.getElem_mem ht')).2.2 x hx (by have e : x = b := e; exact e ▸ hXb)) (fun _ _ m => m), h1.ne, h1.own, h1.dis, h1.mine, ⟨h1.x_.1, h1.x_.2.1, fun x hx => by simpa using h1.x_.2.2 x hx⟩, h1.at_⟩, h2, fun p hp => ?_, h4.trans (hs.below (by omega) (fun k hk => by have hk : k = b := hk; omega)), h5, h6⟩
  rcases List.mem_cons.1 hp with rfl | hp
  · exact ⟨hXb, World.cell?_setCell_same _ _ _ hcell, by rw [World.frozen?_setCell]; exact (h3 _ hm).2.2⟩
  · obtain ⟨hp1, hp2⟩ := hl p hp
    have := hs.cell (b := p.1) (o := p.2.1) (h1.x_.2.2 _ (h3 p hp1).1) hp2
    exact ⟨(h3 p hp1).1, this.trans (h3 p hp1).2.1, by rw [World.frozen?_setCell]; exact (h3 p hp1).2.2⟩
theorem Env.base (h : Env B w0 bm l n c k w) : B ≤ w.heap.size := by
  obtain ⟨X, M, h1, h2, h3, h4, h5, h6⟩ := h
  exact Nat.le_trans h5 h4.size
end Go.Pst

/-
  posternlaw.driven under way: the instructions so far, the call's row of arguments and of results, the two boxes (plain memory; printed by wip/gen_drv.py).
-/
import Derived.Test.YtaomlfbcfmmhlaaMk
namespace Go.Pst
open Go.RowKit
set_option linter.unusedVariables false
set_option linter.unusedSimpArgs false

def ints (l : List Int) : List Value := l.map (Value.int .i64)
/-- ρ labels the blocks: 1, 2 the boxes of x and of m, 3 the instructions' row, 4, 5 the rows of x.As, x.Ds; 0 all others. -/
structure Drv (rb base xb mb : Nat) (ρ : Nat → Nat) (vB vA vD : Value) (L : List PInstr) (A D : List Int) (name : ByteArray) (w : World) : Prop where
  xlt : xb < w.heap.size
  mlt : mb < w.heap.size
  rlt : rb < w.heap.size
  r1 : ρ xb = 1
  r2 : ρ mb = 2
  r6 : ρ rb = 6
  hB : ∀ k, vB.ownBlock = some k → ρ k = 3
  hA : ∀ k, vA.ownBlock = some k → ρ k = 4
  hD : ∀ k, vD.ownBlock = some k → ρ k = 5
  low : ∀ k, ρ k ≠ 0 → base ≤ k ∧ k < w.heap.size
  blk : Blk (fun k => ρ k ≠ 0) w vB L
  rowA : w.ownsRow 0 3 1 vA A.length (ints A)
  rowD : w.ownsRow 0 3 1 vD D.length (ints D)
  x0 : w.cell? ⟨xb, 0, none⟩ = some (.int .i64 7)
  x1 : w.cell? ⟨xb, 1, none⟩ = some vD
  x2 : w.cell? ⟨xb, 2, none⟩ = some vA
  x3 : w.cell? ⟨xb, 3, none⟩ = some (.int .i64 0)
  x4 : w.cell? ⟨xb, 4, none⟩ = some (.string name)
  x5 : w.cell? ⟨xb, 5, none⟩ = some (.slice none 0 0)
  xz : ∀ j, w.frozen? ⟨xb, j, none⟩ = false
  m0 : w.cell? ⟨mb, 0, none⟩ = some (.string ⟨#[109, 97, 105, 110]⟩)
  m1 : w.cell? ⟨mb, 1, none⟩ = some (.int .i64 0)
  m2 : w.cell? ⟨mb, 2, none⟩ = some (.int .i64 0)
  m3 : w.cell? ⟨mb, 3, none⟩ = some (.int .i64 0)
  m4 : w.cell? ⟨mb, 4, none⟩ = some (.int .i64 0)
  m5 : w.cell? ⟨mb, 5, none⟩ = some (.slice none 0 0)
  mz : ∀ j, w.frozen? ⟨mb, j, none⟩ = false
  q0 : w.cell? ⟨rb, 0, none⟩ = some (.slice none 0 0)
  q1 : w.cell? ⟨rb, 1, none⟩ = some (.slice none 0 0)
  qz : ∀ j, w.frozen? ⟨rb, j, none⟩ = false

namespace Drv
variable {rb base xb mb : Nat} {ρ : Nat → Nat} {vB vA vD v' : Value} {L : List PInstr} {A D : List Int} {name : ByteArray} {w w1 w2 : World}
theorem later (h : Drv rb base xb mb ρ vB vA vD L A D name w) (hb : Below w.heap.size w w1) : Drv rb base xb mb ρ vB vA vD L A D name w1 := by
  have hs : Since (fun _ => False) w w1 := ⟨hb.os, hb.tape, hb.output, hb.size, fun k hk _ => hb.block k hk⟩
  have cx := fun j => hs.cell (o := j) h.xlt id
  have cm := fun j => hs.cell (o := j) h.mlt id
  have cr := fun j => hs.cell (o := j) h.rlt id
  exact ⟨Nat.lt_of_lt_of_le h.xlt hb.size, Nat.lt_of_lt_of_le h.mlt hb.size, Nat.lt_of_lt_of_le h.rlt hb.size, h.r1, h.r2, h.r6, h.hB, h.hA, h.hD, fun k hk => ⟨(h.low k hk).1, Nat.lt_of_lt_of_le (h.low k hk).2 hb.size⟩,
    h.blk.keep hs (fun _ f => f.elim) (fun _ _ => id) (fun _ _ m => m), hs.row h.rowA (fun _ _ => id), hs.row h.rowD (fun _ _ => id),
    (cx _).trans h.x0, (cx _).trans h.x1, (cx _).trans h.x2, (cx _).trans h.x3, (cx _).trans h.x4, (cx _).trans h.x5, fun j => (hs.frozen h.xlt id).trans (h.xz j),
    (cm _).trans h.m0, (cm _).trans h.m1, (cm _).trans h.m2, (cm _).trans h.m3, (cm _).trans h.m4, (cm _).trans h.m5, fun j => (hs.frozen h.mlt id).trans (h.mz j), (cr _).trans h.q0, (cr _).trans h.q1, fun j => (hs.frozen h.rlt id).trans (h.qz j)⟩
theorem pushB (h : Drv rb base xb mb ρ vB vA vD L A D name w) (hb : Below w.heap.size w w1) {ess : List (List Value)} {es : List Value} {i : PInstr} (hr : rAll 6 rInstr (fun k => ¬ ρ k ≠ 0) w ess L) (hes : es.length = 6) (hi : rInstr (fun k => w.heap.size ≤ k) w1 es i) (ho : w2.ownsRow 0 48 6 v' (L.length + 1) (ess.flatten ++ es)) (hg : w1.grownBy w2 vB.ownBlock) (hat : v'.ownBlock = vB.ownBlock ∨ ∃ g, v'.ownBlock = some g ∧ w1.heap.size ≤ g) :
    Drv rb base xb mb (fun k => if v'.ownBlock = some k then 3 else ρ k) v' vA vD (L ++ [i]) A D name w2 := by
  have hs : Since (fun k => vB.ownBlock = some k) w w2 := Since.trans ⟨hb.os, hb.tape, hb.output, hb.size, fun k hk _ => hb.block k hk⟩ (Since.grown hg)
  have hsz : w1.heap.size ≤ w2.heap.size := hg.size
  have hs1 := hb.size
  have own : ∀ k, v'.ownBlock = some k → ρ k = 3 ∨ w1.heap.size ≤ k := fun k hk => by
    rcases hat with e | ⟨g, e, hg⟩
    · exact Or.inl (h.hB k (by rw [← e]; exact hk))
    · obtain rfl : g = k := by rw [e] at hk; injection hk
      exact Or.inr hg
  have hn : ∀ k, ρ k ≠ 0 → ρ k ≠ 3 → ¬ (vB.ownBlock = some k) ∧ ¬ (v'.ownBlock = some k) := fun k h0 h3 => ⟨fun e => h3 (h.hB k e), fun e => (own k e).elim h3 (fun hk => by have := (h.low k h0).2; omega)⟩
  have nx := hn xb (by rw [h.r1]; decide) (by rw [h.r1]; decide)
  have nm := hn mb (by rw [h.r2]; decide) (by rw [h.r2]; decide)
  have nr := hn rb (by rw [h.r6]; decide) (by rw [h.r6]; decide)
  have low' : ∀ k, (if v'.ownBlock = some k then 3 else ρ k) ≠ 0 → base ≤ k ∧ k < w2.heap.size := fun k hk => by
    by_cases e : v'.ownBlock = some k
    · rcases own k e with r | r
      · have := h.low k (by rw [r]; decide); exact ⟨this.1, by omega⟩
      · exact ⟨by have := h.low xb (by rw [h.r1]; decide); omega, (ho.lt k e).2⟩
    · rw [if_neg e] at hk
      have := h.low k hk; exact ⟨this.1, by omega⟩
  have keepM : ∀ k, k < w.heap.size → (if v'.ownBlock = some k then 3 else ρ k) ≠ 0 → ρ k ≠ 0 := fun k hk m => by
    by_cases e : v'.ownBlock = some k
    · rcases own k e with r | r
      · rw [r]; decide
      · omega
    · rwa [if_neg e] at m
  have nA : ∀ k, vA.ownBlock = some k → ¬ (vB.ownBlock = some k) ∧ ¬ (v'.ownBlock = some k) := fun k hk => hn k (by rw [h.hA k hk]; decide) (by rw [h.hA k hk]; decide)
  have nD : ∀ k, vD.ownBlock = some k → ¬ (vB.ownBlock = some k) ∧ ¬ (v'.ownBlock = some k) := fun k hk => hn k (by rw [h.hD k hk]; decide) (by rw [h.hD k hk]; decide)
  have hk1 : Keep (fun k => w.heap.size ≤ k) w1 w2 := ⟨hsz, fun k hk hS => (Since.grown hg).block k hk (fun e => by have := (h.low k (by rw [h.hB k e]; decide)).2; omega)⟩
  have cx := fun j => hs.cell (o := j) h.xlt nx.1
  have cm := fun j => hs.cell (o := j) h.mlt nm.1
  have cr := fun j => hs.cell (o := j) h.rlt nr.1
  refine ⟨by have := h.xlt; omega, by have := h.mlt; omega, by have := h.rlt; omega, by rw [if_neg nx.2]; exact h.r1, by rw [if_neg nm.2]; exact h.r2, by rw [if_neg nr.2]; exact h.r6, fun k hk => if_pos hk, fun k hk => by rw [if_neg (nA k hk).2]; exact h.hA k hk, fun k hk => by rw [if_neg (nD k hk).2]; exact h.hD k hk, low',
    ⟨ess ++ [es], by simpa [List.flatten_append] using ho, rAll_snoc hes (Good.keep hk1 (fun k hk hS m => m ?_) hi) (rAll_keep ⟨hs.size, fun k hk hS => hs.block k hk (fun e => hS (by rw [h.hB k e]; decide))⟩ (fun k hk hS m => hS (keepM k hk m)) hr)⟩,
    hs.row h.rowA (fun k hk => (nA k hk).1), hs.row h.rowD (fun k hk => (nD k hk).1),
    (cx _).trans h.x0, (cx _).trans h.x1, (cx _).trans h.x2, (cx _).trans h.x3, (cx _).trans h.x4, (cx _).trans h.x5, fun j => (hs.frozen h.xlt nx.1).trans (h.xz j),
    (cm _).trans h.m0, (cm _).trans h.m1, (cm _).trans h.m2, (cm _).trans h.m3, (cm _).trans h.m4, (cm _).trans h.m5, fun j => (hs.frozen h.mlt nm.1).trans (h.mz j), (cr _).trans h.q0, (cr _).trans h.q1, fun j => (hs.frozen h.rlt nr.1).trans (h.qz j)⟩
  have hρ : ρ k = 0 := Classical.byContradiction fun e => by have := (h.low k e).2; omega
  rw [if_neg (fun e => by rcases own k e with r | r <;> omega)]
  exact hρ
theorem pushA (h : Drv rb base xb mb ρ vB vA vD L A D name w) (hb : Below w.heap.size w w1) {a : Int} (ho : w2.ownsRow 0 3 1 v' (A.length + 1) (ints A ++ [.int .i64 a])) (hg : w1.grownBy w2 vA.ownBlock) (hat : v'.ownBlock = vA.ownBlock ∨ ∃ g, v'.ownBlock = some g ∧ w1.heap.size ≤ g) :
    Drv rb base xb mb (fun k => if v'.ownBlock = some k then 4 else ρ k) vB v' vD L (A ++ [a]) D name (w2.setCell ⟨xb, 2, none⟩ v') := by
  have hs : Since (fun k => vA.ownBlock = some k) w w2 := Since.trans ⟨hb.os, hb.tape, hb.output, hb.size, fun k hk _ => hb.block k hk⟩ (Since.grown hg)
  have hsz : w1.heap.size ≤ w2.heap.size := hg.size
  have hs1 := hb.size
  have own : ∀ k, v'.ownBlock = some k → ρ k = 4 ∨ w1.heap.size ≤ k := fun k hk => by
    rcases hat with e | ⟨g, e, hg⟩
    · exact Or.inl (h.hA k (by rw [← e]; exact hk))
    · obtain rfl : g = k := by rw [e] at hk; injection hk
      exact Or.inr hg
  have hn : ∀ k, ρ k ≠ 0 → ρ k ≠ 4 → ¬ (vA.ownBlock = some k) ∧ ¬ (v'.ownBlock = some k) := fun k h0 h3 => ⟨fun e => h3 (h.hA k e), fun e => (own k e).elim h3 (fun hk => by have := (h.low k h0).2; omega)⟩
  have nx := hn xb (by rw [h.r1]; decide) (by rw [h.r1]; decide)
  have nm := hn mb (by rw [h.r2]; decide) (by rw [h.r2]; decide)
  have nr := hn rb (by rw [h.r6]; decide) (by rw [h.r6]; decide)
  have low' : ∀ k, (if v'.ownBlock = some k then 4 else ρ k) ≠ 0 → base ≤ k ∧ k < w2.heap.size := fun k hk => by
    by_cases e : v'.ownBlock = some k
    · rcases own k e with r | r
      · have := h.low k (by rw [r]; decide); exact ⟨this.1, by omega⟩
      · exact ⟨by have := h.low xb (by rw [h.r1]; decide); omega, (ho.lt k e).2⟩
    · rw [if_neg e] at hk
      have := h.low k hk; exact ⟨this.1, by omega⟩
  have keepM : ∀ k, k < w.heap.size → (if v'.ownBlock = some k then 4 else ρ k) ≠ 0 → ρ k ≠ 0 := fun k hk m => by
    by_cases e : v'.ownBlock = some k
    · rcases own k e with r | r
      · rw [r]; decide
      · omega
    · rwa [if_neg e] at m
  have nB : ∀ k, vB.ownBlock = some k → ¬ (vA.ownBlock = some k) ∧ ¬ (v'.ownBlock = some k) := fun k hk => hn k (by rw [h.hB k hk]; decide) (by rw [h.hB k hk]; decide)
  have nD : ∀ k, vD.ownBlock = some k → ¬ (vA.ownBlock = some k) ∧ ¬ (v'.ownBlock = some k) := fun k hk => hn k (by rw [h.hD k hk]; decide) (by rw [h.hD k hk]; decide)
  have hs2 : Since (fun k => k = xb) w2 (w2.setCell ⟨xb, 2, none⟩ v') := Since.setCell w2 ⟨xb, 2, none⟩ v'
  have nx2 : ∀ k, ρ k ≠ 1 → ¬ (k = xb) := fun k hk e => hk (by rw [e]; exact h.r1)
  have mx : ¬ (mb = xb) := fun e => by have := h.r1; rw [← e, h.r2] at this; exact absurd this (by decide)
  have hxl := h.xlt
  have hml := h.mlt
  have cm := fun j => (hs2.cell (o := j) (by omega : mb < w2.heap.size) mx).trans (hs.cell (o := j) h.mlt nm.1)
  have hrl := h.rlt
  have rx : ¬ (rb = xb) := fun e => by have := h.r1; rw [← e, h.r6] at this; exact absurd this (by decide)
  have cr := fun j => (hs2.cell (o := j) (by omega : rb < w2.heap.size) rx).trans (hs.cell (o := j) h.rlt nr.1)
  refine ⟨by simp; omega, by simp; omega, by simp; omega, by rw [if_neg nx.2]; exact h.r1, by rw [if_neg nm.2]; exact h.r2, by rw [if_neg nr.2]; exact h.r6, fun k hk => by rw [if_neg (nB k hk).2]; exact h.hB k hk, fun k hk => if_pos hk, fun k hk => by rw [if_neg (nD k hk).2]; exact h.hD k hk, fun k hk => by simpa using low' k hk,
    (h.blk.keep hs (fun k e => by rw [h.hA k e]; decide) (fun k hk => (nB k hk).1) keepM).keep hs2 (fun k e => by rw [show k = xb from e, if_neg nx.2, h.r1]; decide) (fun k hk e => nx2 k (by rw [h.hB k hk]; decide) e) (fun _ _ m => m),
    hs2.row (by rw [List.length_append]; simpa [ints] using ho) (fun k hk e => nx.2 (by have e : k = xb := e; rw [← e]; exact hk)), hs2.row (hs.row h.rowD (fun k hk => (nD k hk).1)) (fun k hk e => nx2 k (by rw [h.hD k hk]; decide) e),
    (World.cell?_setCell_other _ _ _ _ (fun e => by injection e with _ e2 _; exact absurd e2 (by decide))).trans ((hs.cell (o := 0) h.xlt nx.1).trans h.x0), (World.cell?_setCell_other _ _ _ _ (fun e => by injection e with _ e2 _; exact absurd e2 (by decide))).trans ((hs.cell (o := 1) h.xlt nx.1).trans h.x1), World.cell?_setCell_same _ _ _ ((hs.cell (o := 2) h.xlt nx.1).trans h.x2), (World.cell?_setCell_other _ _ _ _ (fun e => by injection e with _ e2 _; exact absurd e2 (by decide))).trans ((hs.cell (o := 3) h.xlt nx.1).trans h.x3), (World.cell?_setCell_other _ _ _ _ (fun e => by injection e with _ e2 _; exact absurd e2 (by decide))).trans ((hs.cell (o := 4) h.xlt nx.1).trans h.x4), (World.cell?_setCell_other _ _ _ _ (fun e => by injection e with _ e2 _; exact absurd e2 (by decide))).trans ((hs.cell (o := 5) h.xlt nx.1).trans h.x5), fun j => by rw [World.frozen?_setCell]; exact (hs.frozen h.xlt nx.1).trans (h.xz j),
    (cm _).trans h.m0, (cm _).trans h.m1, (cm _).trans h.m2, (cm _).trans h.m3, (cm _).trans h.m4, (cm _).trans h.m5, fun j => by rw [World.frozen?_setCell]; exact (hs.frozen h.mlt nm.1).trans (h.mz j), (cr _).trans h.q0, (cr _).trans h.q1, fun j => by rw [World.frozen?_setCell]; exact (hs.frozen h.rlt nr.1).trans (h.qz j)⟩
theorem pushD (h : Drv rb base xb mb ρ vB vA vD L A D name w) (hb : Below w.heap.size w w1) {a : Int} (ho : w2.ownsRow 0 3 1 v' (D.length + 1) (ints D ++ [.int .i64 a])) (hg : w1.grownBy w2 vD.ownBlock) (hat : v'.ownBlock = vD.ownBlock ∨ ∃ g, v'.ownBlock = some g ∧ w1.heap.size ≤ g) :
    Drv rb base xb mb (fun k => if v'.ownBlock = some k then 5 else ρ k) vB vA v' L A (D ++ [a]) name (w2.setCell ⟨xb, 1, none⟩ v') := by
  have hs : Since (fun k => vD.ownBlock = some k) w w2 := Since.trans ⟨hb.os, hb.tape, hb.output, hb.size, fun k hk _ => hb.block k hk⟩ (Since.grown hg)
  have hsz : w1.heap.size ≤ w2.heap.size := hg.size
  have hs1 := hb.size
  have own : ∀ k, v'.ownBlock = some k → ρ k = 5 ∨ w1.heap.size ≤ k := fun k hk => by
    rcases hat with e | ⟨g, e, hg⟩
    · exact Or.inl (h.hD k (by rw [← e]; exact hk))
    · obtain rfl : g = k := by rw [e] at hk; injection hk
      exact Or.inr hg
  have hn : ∀ k, ρ k ≠ 0 → ρ k ≠ 5 → ¬ (vD.ownBlock = some k) ∧ ¬ (v'.ownBlock = some k) := fun k h0 h3 => ⟨fun e => h3 (h.hD k e), fun e => (own k e).elim h3 (fun hk => by have := (h.low k h0).2; omega)⟩
  have nx := hn xb (by rw [h.r1]; decide) (by rw [h.r1]; decide)
  have nm := hn mb (by rw [h.r2]; decide) (by rw [h.r2]; decide)
  have nr := hn rb (by rw [h.r6]; decide) (by rw [h.r6]; decide)
  have low' : ∀ k, (if v'.ownBlock = some k then 5 else ρ k) ≠ 0 → base ≤ k ∧ k < w2.heap.size := fun k hk => by
    by_cases e : v'.ownBlock = some k
    · rcases own k e with r | r
      · have := h.low k (by rw [r]; decide); exact ⟨this.1, by omega⟩
      · exact ⟨by have := h.low xb (by rw [h.r1]; decide); omega, (ho.lt k e).2⟩
    · rw [if_neg e] at hk
      have := h.low k hk; exact ⟨this.1, by omega⟩
  have keepM : ∀ k, k < w.heap.size → (if v'.ownBlock = some k then 5 else ρ k) ≠ 0 → ρ k ≠ 0 := fun k hk m => by
    by_cases e : v'.ownBlock = some k
    · rcases own k e with r | r
      · rw [r]; decide
      · omega
    · rwa [if_neg e] at m
  have nB : ∀ k, vB.ownBlock = some k → ¬ (vD.ownBlock = some k) ∧ ¬ (v'.ownBlock = some k) := fun k hk => hn k (by rw [h.hB k hk]; decide) (by rw [h.hB k hk]; decide)
  have nA : ∀ k, vA.ownBlock = some k → ¬ (vD.ownBlock = some k) ∧ ¬ (v'.ownBlock = some k) := fun k hk => hn k (by rw [h.hA k hk]; decide) (by rw [h.hA k hk]; decide)
  have hs2 : Since (fun k => k = xb) w2 (w2.setCell ⟨xb, 1, none⟩ v') := Since.setCell w2 ⟨xb, 1, none⟩ v'
  have nx2 : ∀ k, ρ k ≠ 1 → ¬ (k = xb) := fun k hk e => hk (by rw [e]; exact h.r1)
  have mx : ¬ (mb = xb) := fun e => by have := h.r1; rw [← e, h.r2] at this; exact absurd this (by decide)
  have hxl := h.xlt
  have hml := h.mlt
  have cm := fun j => (hs2.cell (o := j) (by omega : mb < w2.heap.size) mx).trans (hs.cell (o := j) h.mlt nm.1)
  have hrl := h.rlt
  have rx : ¬ (rb = xb) := fun e => by have := h.r1; rw [← e, h.r6] at this; exact absurd this (by decide)
  have cr := fun j => (hs2.cell (o := j) (by omega : rb < w2.heap.size) rx).trans (hs.cell (o := j) h.rlt nr.1)
  refine ⟨by simp; omega, by simp; omega, by simp; omega, by rw [if_neg nx.2]; exact h.r1, by rw [if_neg nm.2]; exact h.r2, by rw [if_neg nr.2]; exact h.r6, fun k hk => by rw [if_neg (nB k hk).2]; exact h.hB k hk, fun k hk => by rw [if_neg (nA k hk).2]; exact h.hA k hk, fun k hk => if_pos hk, fun k hk => by simpa using low' k hk,
    (h.blk.keep hs (fun k e => by rw [h.hD k e]; decide) (fun k hk => (nB k hk).1) keepM).keep hs2 (fun k e => by rw [show k = xb from e, if_neg nx.2, h.r1]; decide) (fun k hk e => nx2 k (by rw [h.hB k hk]; decide) e) (fun _ _ m => m),
    hs2.row (hs.row h.rowA (fun k hk => (nA k hk).1)) (fun k hk e => nx2 k (by rw [h.hA k hk]; decide) e), hs2.row (by rw [List.length_append]; simpa [ints] using ho) (fun k hk e => nx.2 (by have e : k = xb := e; rw [← e]; exact hk)),
    (World.cell?_setCell_other _ _ _ _ (fun e => by injection e with _ e2 _; exact absurd e2 (by decide))).trans ((hs.cell (o := 0) h.xlt nx.1).trans h.x0), World.cell?_setCell_same _ _ _ ((hs.cell (o := 1) h.xlt nx.1).trans h.x1), (World.cell?_setCell_other _ _ _ _ (fun e => by injection e with _ e2 _; exact absurd e2 (by decide))).trans ((hs.cell (o := 2) h.xlt nx.1).trans h.x2), (World.cell?_setCell_other _ _ _ _ (fun e => by injection e with _ e2 _; exact absurd e2 (by decide))).trans ((hs.cell (o := 3) h.xlt nx.1).trans h.x3), (World.cell?_setCell_other _ _ _ _ (fun e => by injection e with _ e2 _; exact absurd e2 (by decide))).trans ((hs.cell (o := 4) h.xlt nx.1).trans h.x4), (World.cell?_setCell_other _ _ _ _ (fun e => by injection e with _ e2 _; exact absurd e2 (by decide))).trans ((hs.cell (o := 5) h.xlt nx.1).trans h.x5), fun j => by rw [World.frozen?_setCell]; exact (hs.frozen h.xlt nx.1).trans (h.xz j),
    (cm _).trans h.m0, (cm _).trans h.m1, (cm _).trans h.m2, (cm _).trans h.m3, (cm _).trans h.m4, (cm _).trans h.m5, fun j => by rw [World.frozen?_setCell]; exact (hs.frozen h.mlt nm.1).trans (h.mz j), (cr _).trans h.q0, (cr _).trans h.q1, fun j => by rw [World.frozen?_setCell]; exact (hs.frozen h.rlt nr.1).trans (h.qz j)⟩
theorem belowB (h : Drv rb base xb mb ρ vB vA vD L A D name w) (hb : Below w.heap.size w w1) (hg : w1.grownBy w2 vB.ownBlock) : Below base w w2 := by
  have hs : Since (fun k => vB.ownBlock = some k) w w2 := Since.trans ⟨hb.os, hb.tape, hb.output, hb.size, fun k hk _ => hb.block k hk⟩ (Since.grown hg)
  exact hs.below (by have := h.low xb (by rw [h.r1]; decide); omega) (fun k e => (h.low k (by rw [h.hB k e]; decide)).1)
theorem belowA (h : Drv rb base xb mb ρ vB vA vD L A D name w) (hb : Below w.heap.size w w1) (hg : w1.grownBy w2 vA.ownBlock) : Below base w w2 := by
  have hs : Since (fun k => vA.ownBlock = some k) w w2 := Since.trans ⟨hb.os, hb.tape, hb.output, hb.size, fun k hk _ => hb.block k hk⟩ (Since.grown hg)
  exact hs.below (by have := h.low xb (by rw [h.r1]; decide); omega) (fun k e => (h.low k (by rw [h.hA k e]; decide)).1)
theorem farA (h : Drv rb base xb mb ρ vB vA vD L A D name w) (hb : Below w.heap.size w w1) (hg : w1.grownBy w2 vA.ownBlock) : w2.cell? ⟨xb, 2, none⟩ = some vA ∧ w2.frozen? ⟨xb, 2, none⟩ = false := by
  have hs : Since (fun k => vA.ownBlock = some k) w w2 := Since.trans ⟨hb.os, hb.tape, hb.output, hb.size, fun k hk _ => hb.block k hk⟩ (Since.grown hg)
  have nx : ¬ (vA.ownBlock = some xb) := fun e => by have := h.hA _ e; rw [h.r1] at this; exact absurd this (by decide)
  exact ⟨(hs.cell h.xlt nx).trans h.x2, (hs.frozen h.xlt nx).trans (h.xz _)⟩
theorem setA (h : Drv rb base xb mb ρ vB vA vD L A D name w) (hb : Below w.heap.size w w1) (hg : w1.grownBy w2 vA.ownBlock) (v' : Value) : Below base w (w2.setCell ⟨xb, 2, none⟩ v') :=
  (h.belowA hb hg).setCell (h.low xb (by rw [h.r1]; decide)).1 v'
theorem belowD (h : Drv rb base xb mb ρ vB vA vD L A D name w) (hb : Below w.heap.size w w1) (hg : w1.grownBy w2 vD.ownBlock) : Below base w w2 := by
  have hs : Since (fun k => vD.ownBlock = some k) w w2 := Since.trans ⟨hb.os, hb.tape, hb.output, hb.size, fun k hk _ => hb.block k hk⟩ (Since.grown hg)
  exact hs.below (by have := h.low xb (by rw [h.r1]; decide); omega) (fun k e => (h.low k (by rw [h.hD k e]; decide)).1)
theorem farD (h : Drv rb base xb mb ρ vB vA vD L A D name w) (hb : Below w.heap.size w w1) (hg : w1.grownBy w2 vD.ownBlock) : w2.cell? ⟨xb, 1, none⟩ = some vD ∧ w2.frozen? ⟨xb, 1, none⟩ = false := by
  have hs : Since (fun k => vD.ownBlock = some k) w w2 := Since.trans ⟨hb.os, hb.tape, hb.output, hb.size, fun k hk _ => hb.block k hk⟩ (Since.grown hg)
  have nx : ¬ (vD.ownBlock = some xb) := fun e => by have := h.hD _ e; rw [h.r1] at this; exact absurd this (by decide)
  exact ⟨(hs.cell h.xlt nx).trans h.x1, (hs.frozen h.xlt nx).trans (h.xz _)⟩
theorem setD (h : Drv rb base xb mb ρ vB vA vD L A D name w) (hb : Below w.heap.size w w1) (hg : w1.grownBy w2 vD.ownBlock) (v' : Value) : Below base w (w2.setCell ⟨xb, 1, none⟩ v') :=
  (h.belowD hb hg).setCell (h.low xb (by rw [h.r1]; decide)).1 v'
end Drv
end Go.Pst

/-
  Texts joined: Drv Drv2 Driven.
-/
import Derived.Test.YtaomlfbcfmmhlaaJG
import Derived.Test.YtaomlfbcfmmhlaaJB
import Derived.Test.YtaomlfbcfmmhlaaJI

/-
  posternlaw.driven under way: the instructions so far, the call's row of arguments and of results, the two boxes (plain memory; printed by wip/gen_drv.py).
-/
namespace Go.Pst
open Go.RowKit
set_option linter.unusedVariables false
set_option linter.unusedSimpArgs false

def ints (l : List Int) : List Value := l.map (Value.int .i64)
/-- ρ labels the blocks: 1, 2 the boxes of x and of m, 3 the instructions' row, 4, 5 the rows of x.As, x.Ds; 0 all others. -/
structure Drv (rb base xb mb : Nat) (ρ : Nat → Nat) (vB vA vD : Value) (L : List PInstr) (A D : List Int) (name : ByteArray) (w : World) : Prop where
  xlt : xb < w.heap.size
  mlt : mb < w.heap.size
  rlt : rb < w.heap.size
  r1 : ρ xb = 1
  r2 : ρ mb = 2
  r6 : ρ rb = 6
  hB : ∀ k, vB.ownBlock = some k → ρ k = 3
  hA : ∀ k, vA.ownBlock = some k → ρ k = 4
  hD : ∀ k, vD.ownBlock = some k → ρ k = 5
  low : ∀ k, ρ k ≠ 0 → base ≤ k ∧ k < w.heap.size
  blk : Blk (fun k => ρ k ≠ 0) w vB L
  rowA : w.ownsRow 0 3 1 vA A.length (ints A)
  rowD : w.ownsRow 0 3 1 vD D.length (ints D)
  x0 : w.cell? ⟨xb, 0, none⟩ = some (.int .i64 7)
  x1 : w.cell? ⟨xb, 1, none⟩ = some vD
  x2 : w.cell? ⟨xb, 2, none⟩ = some vA
  x3 : w.cell? ⟨xb, 3, none⟩ = some (.int .i64 0)
  x4 : w.cell? ⟨xb, 4, none⟩ = some (.string name)
  x5 : w.cell? ⟨xb, 5, none⟩ = some (.slice none 0 0)
  xz : ∀ j, w.frozen? ⟨xb, j, none⟩ = false
  m0 : w.cell? ⟨mb, 0, none⟩ = some (.string ⟨#[109, 97, 105, 110]⟩)
  m1 : w.cell? ⟨mb, 1, none⟩ = some (.int .i64 0)
  m2 : w.cell? ⟨mb, 2, none⟩ = some (.int .i64 0)
  m3 : w.cell? ⟨mb, 3, none⟩ = some (.int .i64 0)
  m4 : w.cell? ⟨mb, 4, none⟩ = some (.int .i64 0)
  m5 : w.cell? ⟨mb, 5, none⟩ = some (.slice none 0 0)
  mz : ∀ j, w.frozen? ⟨mb, j, none⟩ = false
  q0 : w.cell? ⟨rb, 0, none⟩ = some (.slice none 0 0)
  q1 : w.cell? ⟨rb, 1, none⟩ = some (.slice none 0 0)
  qz : ∀ j, w.frozen? ⟨rb, j, none⟩ = false

namespace Drv
variable {rb base xb mb : Nat} {ρ : Nat → Nat} {vB vA vD v' : Value} {L : List PInstr} {A D : List Int} {name : ByteArray} {w w1 w2 : World}
theorem later (h : Drv rb base xb mb ρ vB vA vD L A D name w) (hb : Below w.heap.size w w1) : Drv rb base xb mb ρ vB vA vD L A D name w1 := by
  have hs : Since (fun _ => False) w w1 := ⟨hb.os, hb.tape, hb.output, hb.size, fun k hk _ => hb.block k hk⟩
  have cx := fun j => hs.cell (o := j) h.xlt id
  have cm := fun j => hs.cell (o := j) h.mlt id
  have cr := fun j => hs.cell (o := j) h.rlt id
  exact ⟨Nat.lt_of_lt_of_le h.xlt hb.size, Nat.lt_of_lt_of_le h.mlt hb.size, Nat.lt_of_lt_of_le h.rlt hb.size, h.r1, h.r2, h.r6, h.hB, h.hA, h.hD, fun k hk => ⟨(h.low k hk).1, Nat.lt_of_lt_of_le (h.low k hk).2 hb.size⟩,
    h.blk.keep hs (fun _ f => f.elim) (fun _ _ => id) (fun _ _ m => m), hs.row h.rowA (fun _ _ => id), hs.row h.rowD (fun _ _ => id),
    (cx _).trans h.x0, (cx _).trans h.x1, (cx _).trans h.x2, (cx _).trans h.x3, (cx _).trans h.x4, (cx _).trans h.x5, fun j => (hs.frozen h.xlt id).trans (h.xz j),
    (cm _).trans h.m0, (cm _).trans h.m1, (cm _).trans h.m2, (cm _).trans h.m3, (cm _).trans h.m4, (cm _).trans h.m5, fun j => (hs.frozen h.mlt id).trans (h.mz j), (cr _).trans h.q0, (cr _).trans h.q1, fun j => (hs.frozen h.rlt id).trans (h.qz j)⟩
theorem pushB (h : Drv rb base xb mb ρ vB vA vD L A D name w) (hb : Below w.heap.size w w1) {ess : List (List Value)} {es : List Value} {i : PInstr} (hr : rAll 6 rInstr (fun k => ¬ ρ k ≠ 0) w ess L) (hes : es.length = 6) (hi : rInstr (fun k => w.heap.size ≤ k) w1 es i) (ho : w2.ownsRow 0 48 6 v' (L.length + 1) (ess.flatten ++ es)) (hg : w1.grownBy w2 vB.ownBlock) (hat : v'.ownBlock = vB.ownBlock ∨ ∃ g, v'.ownBlock = some g ∧ w1.heap.size ≤ g) :
    Drv rb base xb mb (fun k => if v'.ownBlock = some k then 3 else ρ k) v' vA vD (L ++ [i]) A D name w2 := by
  have hs : Since (fun k => vB.ownBlock = some k) w w2 := Since.trans ⟨hb.os, hb.tape, hb.output, hb.size, fun k hk _ => hb.block k hk⟩ (Since.grown hg)
  have hsz : w1.heap.size ≤ w2.heap.size := hg.size
  have hs1 := hb.size
  have own : ∀ k, v'.ownBlock = some k → ρ k = 3 ∨ w1.heap.size ≤ k := fun k hk => by
    rcases hat with e | ⟨g, e, hg⟩
    · exact Or.inl (h.hB k (by rw [← e]; exact hk))
    · obtain rfl : g = k := by rw [e] at hk; injection hk
      exact Or.inr hg
  have hn : ∀ k, ρ k ≠ 0 → ρ k ≠ 3 → ¬ (vB.ownBlock = some k) ∧ ¬ (v'.ownBlock = some k) := fun k h0 h3 => ⟨fun e => h3 (h.hB k e), fun e => (own k e).elim h3 (fun hk => by have := (h.low k h0).2; omega)⟩
  have nx := hn xb (by rw [h.r1]; decide) (by rw [h.r1]; decide)
  have nm := hn mb (by rw [h.r2]; decide) (by rw [h.r2]; decide)
  have nr := hn rb (by rw [h.r6]; decide) (by rw [h.r6]; decide)
  have low' : ∀ k, (if v'.ownBlock = some k then 3 else ρ k) ≠ 0 → base ≤ k ∧ k < w2.heap.size := fun k hk => by
    by_cases e : v'.ownBlock = some k
    · rcases own k e with r | r
      · have := h.low k (by rw [r]; decide); exact ⟨this.1, by omega⟩
      · exact ⟨by have := h.low xb (by rw [h.r1]; decide); omega, (ho.lt k e).2⟩
    · rw [if_neg e] at hk
      have := h.low k hk; exact ⟨this.1, by omega⟩
  have keepM : ∀ k, k < w.heap.size → (if v'.ownBlock = some k then 3 else ρ k) ≠ 0 → ρ k ≠ 0 := fun k hk m => by
    by_cases e : v'.ownBlock = some k
    · rcases own k e with r | r
      · rw [r]; decide
      · omega
    · rwa [if_neg e] at m
  have nA : ∀ k, vA.ownBlock = some k → ¬ (vB.ownBlock = some k) ∧ ¬ (v'.ownBlock = some k) := fun k hk => hn k (by rw [h.hA k hk]; decide) (by rw [h.hA k hk]; decide)
  have nD : ∀ k, vD.ownBlock = some k → ¬ (vB.ownBlock = some k) ∧ ¬ (v'.ownBlock = some k) := fun k hk => hn k (by rw [h.hD k hk]; decide) (by rw [h.hD k hk]; decide)
  have hk1 : Keep (fun k => w.heap.size ≤ k) w1 w2 := ⟨hsz, fun k hk hS => (Since.grown hg).block k hk (fun e => by have := (h.low k (by rw [h.hB k e]; decide)).2; omega)⟩
  have cx := fun j => hs.cell (o := j) h.xlt nx.1
  have cm := fun j => hs.cell (o := j) h.mlt nm.1
  have cr := fun j => hs.cell (o := j) h.rlt nr.1
  refine ⟨by have := h.xlt; omega, by have := h.mlt; omega, by have := h.rlt; omega, by rw [if_neg nx.2]; exact h.r1, by rw [if_neg nm.2]; exact h.r2, by rw [if_neg nr.2]; exact h.r6, fun k hk => if_pos hk, fun k hk => by rw [if_neg (nA k hk).2]; exact h.hA k hk, fun k hk => by rw [if_neg (nD k hk).2]; exact h.hD k hk, low',
    ⟨ess ++ [es], by simpa [List.flatten_append] using ho, rAll_snoc hes (Good.keep hk1 (fun k hk hS m => m ?_) hi) (rAll_keep ⟨hs.size, fun k hk hS => hs.block k hk (fun e => hS (by rw [h.hB k e]; decide))⟩ (fun k hk hS m => hS (keepM k hk m)) hr)⟩,
    hs.row h.rowA (fun k hk => (nA k hk).1), hs.row h.rowD (fun k hk => (nD k hk).1),
    (cx _).trans h.x0, (cx _).trans h.x1, (cx _).trans h.x2, (cx _).trans h.x3, (cx _).trans h.x4, (cx _).trans h.x5, fun j => (hs.frozen h.xlt nx.1).trans (h.xz j),
    (cm _).trans h.m0, (cm _).trans h.m1, (cm _).trans h.m2, (cm _).trans h.m3, (cm _).trans h.m4, (cm _).trans h.m5, fun j => (hs.frozen h.mlt nm.1).trans (h.mz j), (cr _).trans h.q0, (cr _).trans h.q1, fun j => (hs.frozen h.rlt nr.1).trans (h.qz j)⟩
  have hρ : ρ k = 0 := Classical.byContradiction fun e => by have := (h.low k e).2; omega
  rw [if_neg (fun e => by rcases own k e with r | r <;> omega)]
  exact hρ
theorem pushA (h : Drv rb base xb mb ρ vB vA vD L A D name w) (hb : Below w.heap.size w w1) {a : Int} (ho : w2.ownsRow 0 3 1 v' (A.length + 1) (ints A ++ [.int .i64 a])) (hg : w1.grownBy w2 vA.ownBlock) (hat : v'.ownBlock = vA.ownBlock ∨ ∃ g, v'.ownBlock = some g ∧ w1.heap.size ≤ g) :
    Drv rb base xb mb (fun k => if v'.ownBlock = some k then 4 else ρ k) vB v' vD L (A ++ [a]) D name (w2.setCell ⟨xb, 2, none⟩ v') := by
  have hs : Since (fun k => vA.ownBlock = some k) w w2 := Since.trans ⟨hb.os, hb.tape, hb.output, hb.size, fun k hk _ => hb.block k hk⟩ (Since.grown hg)
  have hsz : w1.heap.size ≤ w2.heap.size := hg.size
  have hs1 := hb.size
  have own : ∀ k, v'.ownBlock = some k → ρ k = 4 ∨ w1.heap.size ≤ k := fun k hk => by
    rcases hat with e | ⟨g, e, hg⟩
    · exact Or.inl (h.hA k (by rw [← e]; exact hk))
    · obtain rfl : g = k := by rw [e] at hk; injection hk
      exact Or.inr hg
  have hn : ∀ k, ρ k ≠ 0 → ρ k ≠ 4 → ¬ (vA.ownBlock = some k) ∧ ¬ (v'.ownBlock = some k) := fun k h0 h3 => ⟨fun e => h3 (h.hA k e), fun e => (own k e).elim h3 (fun hk => by have := (h.low k h0).2; omega)⟩
  have nx := hn xb (by rw [h.r1]; decide) (by rw [h.r1]; decide)
  have nm := hn mb (by rw [h.r2]; decide) (by rw [h.r2]; decide)
  have nr := hn rb (by rw [h.r6]; decide) (by rw [h.r6]; decide)
  have low' : ∀ k, (if v'.ownBlock = some k then 4 else ρ k) ≠ 0 → base ≤ k ∧ k < w2.heap.size := fun k hk => by
    by_cases e : v'.ownBlock = some k
    · rcases own k e with r | r
      · have := h.low k (by rw [r]; decide); exact ⟨this.1, by omega⟩
      · exact ⟨by have := h.low xb (by rw [h.r1]; decide); omega, (ho.lt k e).2⟩
    · rw [if_neg e] at hk
      have := h.low k hk; exact ⟨this.1, by omega⟩
  have keepM : ∀ k, k < w.heap.size → (if v'.ownBlock = some k then 4 else ρ k) ≠ 0 → ρ k ≠ 0 := fun k hk m => by
    by_cases e : v'.ownBlock = some k
    · rcases own k e with r | r
      · rw [r]; decide
      · omega
    · rwa [if_neg e] at m
  have nB : ∀ k, vB.ownBlock = some k → ¬ (vA.ownBlock = some k) ∧ ¬ (v'.ownBlock = some k) := fun k hk => hn k (by rw [h.hB k hk]; decide) (by rw [h.hB k hk]; decide)
  have nD : ∀ k, vD.ownBlock = some k → ¬ (vA.ownBlock = some k) ∧ ¬ (v'.ownBlock = some k) := fun k hk => hn k (by rw [h.hD k hk]; decide) (by rw [h.hD k hk]; decide)
  have hs2 : Since (fun k => k = xb) w2 (w2.setCell ⟨xb, 2, none⟩ v') := Since.setCell w2 ⟨xb, 2, none⟩ v'
  have nx2 : ∀ k, ρ k ≠ 1 → ¬ (k = xb) := fun k hk e => hk (by rw [e]; exact h.r1)
  have mx : ¬ (mb = xb) := fun e => by have := h.r1; rw [← e, h.r2] at this; exact absurd this (by decide)
  have hxl := h.xlt
  have hml := h.mlt
  have cm := fun j => (hs2.cell (o := j) (by omega : mb < w2.heap.size) mx).trans (hs.cell (o := j) h.mlt nm.1)
  have hrl := h.rlt
  have rx : ¬ (rb = xb) := fun e => by have := h.r1; rw [← e, h.r6] at this; exact absurd this (by decide)
  have cr := fun j => (hs2.cell (o := j) (by omega : rb < w2.heap.size) rx).trans (hs.cell (o := j) h.rlt nr.1)
  refine ⟨by simp; omega, by simp; omega, by simp; omega, by rw [if_neg nx.2]; exact h.r1, by rw [if_neg nm.2]; exact h.r2, by rw [if_neg nr.2]; exact h.r6, fun k hk => by rw [if_neg (nB k hk).2]; exact h.hB k hk, fun k hk => if_pos hk, fun k hk => by rw [if_neg (nD k hk).2]; exact h.hD k hk, fun k hk => by simpa using low' k hk,
    (h.blk.keep hs (fun k e => by rw [h.hA k e]; decide) (fun k hk => (nB k hk).1) keepM).keep hs2 (fun k e => by rw [show k = xb from e, if_neg nx.2, h.r1]; decide) (fun k hk e => nx2 k (by rw [h.hB k hk]; decide) e) (fun _ _ m => m),
    hs2.row (by rw [List.length_append]; simpa [ints] using ho) (fun k hk e => nx.2 (by have e : k = xb := e; rw [← e]; exact hk)), hs2.row (hs.row h.rowD (fun k hk => (nD k hk).1)) (fun k hk e => nx2 k (by rw [h.hD k hk]; decide) e),
    (World.cell?_setCell_other _ _ _ _ (fun e => by injection e with _ e2 _; exact absurd e2 (by decide))).trans ((hs.cell (o := 0) h.xlt nx.1).trans h.x0), (World.cell?_setCell_other _ _ _ _ (fun e => by injection e with _ e2 _; exact absurd e2 (by decide))).trans ((hs.cell (o := 1) h.xlt nx.1).trans h.x1), World.cell?_setCell_same _ _ _ ((hs.cell (o := 2) h.xlt nx.1).trans h.x2), (World.cell?_setCell_other _ _ _ _ (fun e => by injection e with _ e2 _; exact absurd e2 (by decide))).trans ((hs.cell (o := 3) h.xlt nx.1).trans h.x3), (World.cell?_setCell_other _ _ _ _ (fun e => by injection e with _ e2 _; exact absurd e2 (by decide))).trans ((hs.cell (o := 4) h.xlt nx.1).trans h.x4), (World.cell?_setCell_other _ _ _ _ (fun e => by injection e with _ e2 _; exact absurd e2 (by decide))).trans ((hs.cell (o := 5) h.xlt nx.1).trans h.x5), fun j => by rw [World.frozen?_setCell]; exact (hs.frozen h.xlt nx.1).trans (h.xz j),
    (cm _).trans h.m0, (cm _).trans h.m1, (cm _).trans h.m2, (cm _).trans h.m3, (cm _).trans h.m4, (cm _).trans h.m5, fun j => by rw [World.frozen?_setCell]; exact (hs.frozen h.mlt nm.1).trans (h.mz j), (cr _).trans h.q0, (cr _).trans h.q1, fun j => by rw [World.frozen?_setCell]; exact (hs.frozen h.rlt nr.1).trans (h.qz j)⟩
theorem pushD (h : Drv rb base xb mb ρ vB vA vD L A D name w) (hb : Below w.heap.size w w1) {a : Int} (ho : w2.ownsRow 0 3 1 v' (D.length + 1) (ints D ++ [.int .i64 a])) (hg : w1.grownBy w2 vD.ownBlock) (hat : v'.ownBlock = vD.ownBlock ∨ ∃ g, v'.ownBlock = some g ∧ w1.heap.size ≤ g) :
    Drv rb base xb mb (fun k => if v'.ownBlock = some k then 5 else ρ k) vB vA v' L A (D ++ [a]) name (w2.setCell ⟨xb, 1, none⟩ v') := by
  have hs : Since (fun k => vD.ownBlock = some k) w w2 := Since.trans ⟨hb.os, hb.tape, hb.output, hb.size, fun k hk _ => hb.block k hk⟩ (Since.grown hg)
  have hsz : w1.heap.size ≤ w2.heap.size := hg.size
  have hs1 := hb.size
  have own : ∀ k, v'.ownBlock = some k → ρ k = 5 ∨ w1.heap.size ≤ k := fun k hk => by
    rcases hat with e | ⟨g, e, hg⟩
    · exact Or.inl (h.hD k (by rw [← e]; exact hk))
    · obtain rfl : g = k := by rw [e] at hk; injection hk
      exact Or.inr hg
  have hn : ∀ k, ρ k ≠ 0 → ρ k ≠ 5 → ¬ (vD.ownBlock = some k) ∧ ¬ (v'.ownBlock = some k) := fun k h0 h3 => ⟨fun e => h3 (h.hD k e), fun e => (own k e).elim h3 (fun hk => by have := (h.low k h0).2; omega)⟩
  have nx := hn xb (by rw [h.r1]; decide) (by rw [h.r1]; decide)
  have nm := hn mb (by rw [h.r2]; decide) (by rw [h.r2]; decide)
  have nr := hn rb (by rw [h.r6]; decide) (by rw [h.r6]; decide)
  have low' : ∀ k, (if v'.ownBlock = some k then 5 else ρ k) ≠ 0 → base ≤ k ∧ k < w2.heap.size := fun k hk => by
    by_cases e : v'.ownBlock = some k
    · rcases own k e with r | r
      · have := h.low k (by rw [r]; decide); exact ⟨this.1, by omega⟩
      · exact ⟨by have := h.low xb (by rw [h.r1]; decide); omega, (ho.lt k e).2⟩
    · rw [if_neg e] at hk
      have := h.low k hk; exact ⟨this.1, by omega⟩
  have keepM : ∀ k, k < w.heap.size → (if v'.ownBlock = some k then 5 else ρ k) ≠ 0 → ρ k ≠ 0 := fun k hk m => by
    by_cases e : v'.ownBlock = some k
    · rcases own k e with r | r
      · rw [r]; decide
      · omega
    · rwa [if_neg e] at m
  have nB : ∀ k, vB.ownBlock = some k → ¬ (vD.ownBlock = some k) ∧ ¬ (v'.ownBlock = some k) := fun k hk => hn k (by rw [h.hB k hk]; decide) (by rw [h.hB k hk]; decide)
  have nA : ∀ k, vA.ownBlock = some k → ¬ (vD.ownBlock = some k) ∧ ¬ (v'.ownBlock = some k) := fun k hk => hn k (by rw [h.hA k hk]; decide) (by rw [h.hA k hk]; decide)
  have hs2 : Since (fun k => k = xb) w2 (w2.setCell ⟨xb, 1, none⟩ v') := Since.setCell w2 ⟨xb, 1, none⟩ v'
  have nx2 : ∀ k, ρ k ≠ 1 → ¬ (k = xb) := fun k hk e => hk (by rw [e]; exact h.r1)
  have mx : ¬ (mb = xb) := fun e => by have := h.r1; rw [← e, h.r2] at this; exact absurd this (by decide)
  have hxl := h.xlt
  have hml := h.mlt
  have cm := fun j => (hs2.cell (o := j) (by omega : mb < w2.heap.size) mx).trans (hs.cell (o := j) h.mlt nm.1)
  have hrl := h.rlt
  have rx : ¬ (rb = xb) := fun e => by have := h.r1; rw [← e, h.r6] at this; exact absurd this (by decide)
  have cr := fun j => (hs2.cell (o := j) (by omega : rb < w2.heap.size) rx).trans (hs.cell (o := j) h.rlt nr.1)
  refine ⟨by simp; omega, by simp; omega, by simp; omega, by rw [if_neg nx.2]; exact h.r1, by rw [if_neg nm.2]; exact h.r2, by rw [if_neg nr.2]; exact h.r6, fun k hk => by rw [if_neg (nB k hk).2]; exact h.hB k hk, fun k hk => by rw [if_neg (nA k hk).2]; exact h.hA k hk, fun k hk => if_pos hk, fun k hk => by simpa using low' k hk,
    (h.blk.keep hs (fun k e => by rw [h.hD k e]; decide) (fun k hk => (nB k hk).1) keepM).keep hs2 (fun k e => by rw [show k = xb from e, if_neg nx.2, h.r1]; decide) (fun k hk e => nx2 k (by rw [h.hB k hk]; decide) e) (fun _ _ m => m),
    hs2.row (hs.row h.rowA (fun k hk => (nA k hk).1)) (fun k hk e => nx2 k (by rw [h.hA k hk]; decide) e), hs2.row (by rw [List.length_append]; simpa [ints] using ho) (fun k hk e => nx.2 (by have e : k = xb := e; rw [← e]; exact hk)),
    (World.cell?_setCell_other _ _ _ _ (fun e => by injection e with _ e2 _; exact absurd e2 (by decide))).trans ((hs.cell (o := 0) h.xlt nx.1).trans h.x0), World.cell?_setCell_same _ _ _ ((hs.cell (o := 1) h.xlt nx.1).trans h.x1), (World.cell?_setCell_other _ _ _ _ (fun e => by injection e with _ e2 _; exact absurd e2 (by decide))).trans ((hs.cell (o := 2) h.xlt nx.1).trans h.x2), (World.cell?_setCell_other _ _ _ _ (fun e => by injection e with _ e2 _; exact absurd e2 (by decide))).trans ((hs.cell (o := 3) h.xlt nx.1).trans h.x3), (World.cell?_setCell_other _ _ _ _ (fun e => by injection e with _ e2 _; exact absurd e2 (by decide))).trans ((hs.cell (o := 4) h.xlt nx.1).trans h.x4), (World.cell?_setCell_other _ _ _ _ (fun e => by injection e with _ e2 _; exact absurd e2 (by decide))).trans ((hs.cell (o := 5) h.xlt nx.1).trans h.x5), fun j => by rw [World.frozen?_setCell]; exact (hs.frozen h.xlt nx.1).trans (h.xz j),
    (cm _).trans h.m0, (cm _).trans h.m1, (cm _).trans h.m2, (cm _).trans h.m3, (cm _).trans h.m4, (cm _).trans h.m5, fun j => by rw [World.frozen?_setCell]; exact (hs.frozen h.mlt nm.1).trans (h.mz j), (cr _).trans h.q0, (cr _).trans h.q1, fun j => by rw [World.frozen?_setCell]; exact (hs.frozen h.rlt nr.1).trans (h.qz j)⟩
theorem belowB (h : Drv rb base xb mb ρ vB vA vD L A D name w) (hb : Below w.heap.size w w1) (hg : w1.grownBy w2 vB.ownBlock) : Below base w w2 := by
  have hs : Since (fun k => vB.ownBlock = some k) w w2 := Since.trans ⟨hb.os, hb.tape, hb.output, hb.size, fun k hk _ => hb.block k hk⟩ (Since.grown hg)
  exact hs.below (by have := h.low xb (by rw [h.r1]; decide); omega) (fun k e => (h.low k (by rw [h.hB k e]; decide)).1)
theorem belowA (h : Drv rb base xb mb ρ vB vA vD L A D name w) (hb : Below w.heap.size w w1) (hg : w1.grownBy w2 vA.ownBlock) : Below base w w2 := by
  have hs : Since (fun k => vA.ownBlock = some k) w w2 := Since.trans ⟨hb.os, hb.tape, hb.output, hb.size, fun k hk _ => hb.block k hk⟩ (Since.grown hg)
  exact hs.below (by have := h.low xb (by rw [h.r1]; decide); omega) (fun k e => (h.low k (by rw [h.hA k e]; decide)).1)
theorem farA (h : Drv rb base xb mb ρ vB vA vD L A D name w) (hb : Below w.heap.size w w1) (hg : w1.grownBy w2 vA.ownBlock) : w2.cell? ⟨xb, 2, none⟩ = some vA ∧ w2.frozen? ⟨xb, 2, none⟩ = false := by
  have hs : Since (fun k => vA.ownBlock = some k) w w2 := Since.trans ⟨hb.os, hb.tape, hb.output, hb.size, fun k hk _ => hb.block k hk⟩ (Since.grown hg)
  have nx : ¬ (vA.ownBlock = some xb) := fun e => by have := h.hA _ e; rw [h.r1] at this; exact absurd this (by decide)
  exact ⟨(hs.cell h.xlt nx).trans h.x2, (hs.frozen h.xlt nx).trans (h.xz _)⟩
theorem setA (h : Drv rb base xb mb ρ vB vA vD L A D name w) (hb : Below w.heap.size w w1) (hg : w1.grownBy w2 vA.ownBlock) (v' : Value) : Below base w (w2.setCell ⟨xb, 2, none⟩ v') :=
  (h.belowA hb hg).setCell (h.low xb (by rw [h.r1]; decide)).1 v'
theorem belowD (h : Drv rb base xb mb ρ vB vA vD L A D name w) (hb : Below w.heap.size w w1) (hg : w1.grownBy w2 vD.ownBlock) : Below base w w2 := by
  have hs : Since (fun k => vD.ownBlock = some k) w w2 := Since.trans ⟨hb.os, hb.tape, hb.output, hb.size, fun k hk _ => hb.block k hk⟩ (Since.grown hg)
  exact hs.below (by have := h.low xb (by rw [h.r1]; decide); omega) (fun k e => (h.low k (by rw [h.hD k e]; decide)).1)
theorem farD (h : Drv rb base xb mb ρ vB vA vD L A D name w) (hb : Below w.heap.size w w1) (hg : w1.grownBy w2 vD.ownBlock) : w2.cell? ⟨xb, 1, none⟩ = some vD ∧ w2.frozen? ⟨xb, 1, none⟩ = false := by
  have hs : Since (fun k => vD.ownBlock = some k) w w2 := Since.trans ⟨hb.os, hb.tape, hb.output, hb.size, fun k hk _ => hb.block k hk⟩ (Since.grown hg)
  have nx : ¬ (vD.ownBlock = some xb) := fun e => by have := h.hD _ e; rw [h.r1] at this; exact absurd this (by decide)
  exact ⟨(hs.cell h.xlt nx).trans h.x1, (hs.frozen h.xlt nx).trans (h.xz _)⟩
theorem setD (h : Drv rb base xb mb ρ vB vA vD L A D name w) (hb : Below w.heap.size w w1) (hg : w1.grownBy w2 vD.ownBlock) (v' : Value) : Below base w (w2.setCell ⟨xb, 1, none⟩ v') :=
  (h.belowD hb hg).setCell (h.low xb (by rw [h.r1]; decide)).1 v'
end Drv
end Go.Pst

/-
  posternlaw.driven under way, behind the call: the instructions so far and the box of main's code; a row's cells, one by one (plain memory).
-/
namespace Go.Pst
open Go.RowKit
set_option linter.unusedVariables false
set_option linter.unusedSimpArgs false

/-- M: the result's box, the box of main's code, the instructions' row. -/
structure Dr2 (mv : Int) (rb base mb : Nat) (vB : Value) (L : List PInstr) (w : World) : Prop where
  mlt : mb < w.heap.size
  ml : base ≤ mb
  rlt : rb < w.heap.size
  rl : base ≤ rb
  hB : ∀ k, vB.ownBlock = some k → base ≤ k ∧ k ≠ mb ∧ k ≠ rb
  blk : Blk (fun k => (k = mb ∨ k = rb) ∨ vB.ownBlock = some k) w vB L
  m0 : w.cell? ⟨mb, 0, none⟩ = some (.string ⟨#[109, 97, 105, 110]⟩)
  m1 : w.cell? ⟨mb, 1, none⟩ = some (.int .i64 0)
  m2 : w.cell? ⟨mb, 2, none⟩ = some (.int .i64 0)
  m3 : w.cell? ⟨mb, 3, none⟩ = some (.int .i64 mv)
  m4 : w.cell? ⟨mb, 4, none⟩ = some (.int .i64 0)
  m5 : w.cell? ⟨mb, 5, none⟩ = some (.slice none 0 0)
  mz : ∀ j, w.frozen? ⟨mb, j, none⟩ = false
  q0 : w.cell? ⟨rb, 0, none⟩ = some (.slice none 0 0)
  q1 : w.cell? ⟨rb, 1, none⟩ = some (.slice none 0 0)
  qz : ∀ j, w.frozen? ⟨rb, j, none⟩ = false

section
variable {mv : Int} {rb base xb mb : Nat} {ρ : Nat → Nat} {vB vA vD v' : Value} {L : List PInstr} {A D : List Int} {name : ByteArray} {w w1 w2 : World}
theorem InI_nat {k : Nat} (h : k ≤ 1000000) : InI (k : Int) := ⟨by omega, by omega⟩
theorem ints_get {l : List Int} {i : Nat} (h : i < l.length) : (ints l)[i]? = some (.int .i64 l[i]) := by simp [ints, h]
theorem ints_own {S : Nat → Prop} {v : Value} {l : List Int} (h : w.ownsRow 0 3 1 v l.length (ints l)) (hS : ∀ k, v.ownBlock = some k → S k) (hI : ∀ x ∈ l, InI x) : rInts S w [v] l :=
  rSlice_own h hS (fun i hi => ⟨_, ints_get hi, rfl, hI _ (List.getElem_mem hi)⟩)

/-- The call is appended: its rows become data. -/
theorem Drv.pushX (h : Drv rb base xb mb ρ vB vA vD L A D name w) (hb : Below w.heap.size w w1) {ess : List (List Value)} (hr : rAll 6 rInstr (fun k => ¬ ρ k ≠ 0) w ess L)
    (ho : w2.ownsRow 0 48 6 v' (L.length + 1) (ess.flatten ++ [.int .i64 7, vD, vA, .int .i64 0, .string name, .slice none 0 0])) (hg : w1.grownBy w2 vB.ownBlock) (hat : v'.ownBlock = vB.ownBlock ∨ ∃ g, v'.ownBlock = some g ∧ w1.heap.size ≤ g)
    (hn : name.size ≤ maxLen) (hA : ∀ x ∈ A, InI x) (hD : ∀ x ∈ D, InI x) : Dr2 0 rb base mb v' (L ++ [⟨7, D, A, 0, name, []⟩]) w2 := by
  have hs : Since (fun k => vB.ownBlock = some k) w w2 := Since.trans ⟨hb.os, hb.tape, hb.output, hb.size, fun k hk _ => hb.block k hk⟩ (Since.grown hg)
  have hs1 := hb.size
  have hl1 := h.low mb (by rw [h.r2]; decide)
  have hl6 := h.low rb (by rw [h.r6]; decide)
  have nr : ¬ (vB.ownBlock = some rb) := fun e => by have := h.hB _ e; rw [h.r6] at this; exact absurd this (by decide)
  have cr := fun j => hs.cell (o := j) h.rlt nr
  have own : ∀ k, v'.ownBlock = some k → ρ k = 3 ∨ w1.heap.size ≤ k := fun k hk => by
    rcases hat with e | ⟨g, e, hg⟩
    · exact Or.inl (h.hB k (by rw [← e]; exact hk))
    · obtain rfl : g = k := by rw [e] at hk; injection hk
      exact Or.inr hg
  have nm : ¬ (vB.ownBlock = some mb) := fun e => by have := h.hB _ e; rw [h.r2] at this; exact absurd this (by decide)
  have cm := fun j => hs.cell (o := j) h.mlt nm
  have notM : ∀ k, k < w.heap.size → ρ k ≠ 3 → k ≠ mb → k ≠ rb → ¬ ((k = mb ∨ k = rb) ∨ v'.ownBlock = some k) := fun k hk h3 hm hr6 e => by
    rcases e with (e | e) | e
    · exact hm e
    · exact hr6 e
    · rcases own k e with r | r
      · exact h3 r
      · omega
  have nA : ∀ k, vA.ownBlock = some k → ¬ (vB.ownBlock = some k) := fun k hk e => by have := h.hB _ e; rw [h.hA k hk] at this; exact absurd this (by decide)
  have nD : ∀ k, vD.ownBlock = some k → ¬ (vB.ownBlock = some k) := fun k hk e => by have := h.hB _ e; rw [h.hD k hk] at this; exact absurd this (by decide)
  have hg2 := hg.size
  refine ⟨by omega, hl1.1, by omega, hl6.1, fun k hk => ?_, ⟨ess ++ [[.int .i64 7, vD, vA, .int .i64 0, .string name, .slice none 0 0]], by simpa [List.flatten_append] using ho, rAll_snoc rfl (lit_instr (ini rfl) (ini rfl) hn ?_ ?_ (rSlice_nil _ _ _ _)) (rAll_keep ⟨hs.size, fun k hk hS => hs.block k hk (fun e => hS (by rw [h.hB k e]; decide))⟩ (fun k hk hS => notM k hk (fun e => hS (by rw [e]; decide)) (fun e => hS (by rw [e, h.r2]; decide)) (fun e => hS (by rw [e, h.r6]; decide))) hr)⟩,
    (cm _).trans h.m0, (cm _).trans h.m1, (cm _).trans h.m2, (cm _).trans h.m3, (cm _).trans h.m4, (cm _).trans h.m5, fun j => (hs.frozen h.mlt nm).trans (h.mz j), (cr _).trans h.q0, (cr _).trans h.q1, fun j => (hs.frozen h.rlt nr).trans (h.qz j)⟩
  · rcases own k hk with r | r
    · exact ⟨(h.low k (by rw [r]; decide)).1, fun e => by rw [e, h.r2] at r; exact absurd r (by decide), fun e => by rw [e, h.r6] at r; exact absurd r (by decide)⟩
    · exact ⟨by omega, by omega, by omega⟩
  · exact ints_own (hs.row h.rowD nD) (fun k hk => notM k (h.low k (by rw [h.hD k hk]; decide)).2 (by rw [h.hD k hk]; decide) (fun e => by have := h.hD k hk; rw [e, h.r2] at this; exact absurd this (by decide)) (fun e => by have := h.hD k hk; rw [e, h.r6] at this; exact absurd this (by decide))) hD
  · exact ints_own (hs.row h.rowA nA) (fun k hk => notM k (h.low k (by rw [h.hA k hk]; decide)).2 (by rw [h.hA k hk]; decide) (fun e => by have := h.hA k hk; rw [e, h.r2] at this; exact absurd this (by decide)) (fun e => by have := h.hA k hk; rw [e, h.r6] at this; exact absurd this (by decide))) hA
/-- An instruction is appended. -/
theorem Dr2.push (h : Dr2 mv rb base mb vB L w) (hb : Below w.heap.size w w1) {ess : List (List Value)} {es : List Value} {i : PInstr} (hr : rAll 6 rInstr (fun k => ¬ ((k = mb ∨ k = rb) ∨ vB.ownBlock = some k)) w ess L) (hlt : ∀ k, vB.ownBlock = some k → k < w.heap.size) (hes : es.length = 6) (hi : rInstr (fun k => w.heap.size ≤ k) w1 es i)
    (ho : w2.ownsRow 0 48 6 v' (L.length + 1) (ess.flatten ++ es)) (hg : w1.grownBy w2 vB.ownBlock) (hat : v'.ownBlock = vB.ownBlock ∨ ∃ g, v'.ownBlock = some g ∧ w1.heap.size ≤ g) : Dr2 mv rb base mb v' (L ++ [i]) w2 := by
  have hs : Since (fun k => vB.ownBlock = some k) w w2 := Since.trans ⟨hb.os, hb.tape, hb.output, hb.size, fun k hk _ => hb.block k hk⟩ (Since.grown hg)
  have hs1 := hb.size
  have hml := h.mlt
  have hml2 := h.ml
  have hrl := h.rlt
  have hrl2 := h.rl
  have own : ∀ k, v'.ownBlock = some k → vB.ownBlock = some k ∨ w1.heap.size ≤ k := fun k hk => by
    rcases hat with e | ⟨g, e, hg⟩
    · exact Or.inl (by rw [← e]; exact hk)
    · obtain rfl : g = k := by rw [e] at hk; injection hk
      exact Or.inr hg
  have nm : ¬ (vB.ownBlock = some mb) := fun e => (h.hB _ e).2.1 rfl
  have cm := fun j => hs.cell (o := j) h.mlt nm
  have nr : ¬ (vB.ownBlock = some rb) := fun e => (h.hB _ e).2.2 rfl
  have cr := fun j => hs.cell (o := j) h.rlt nr
  have hk1 : Keep (fun k => w.heap.size ≤ k) w1 w2 := ⟨hg.size, fun k hk hS => (Since.grown hg).block k hk (fun e => by have := hlt k e; omega)⟩
  refine ⟨by have := hg.size; omega, hml2, by have := hg.size; omega, hrl2, fun k hk => ?_, ⟨ess ++ [es], by simpa [List.flatten_append] using ho, rAll_snoc hes (Good.keep hk1 (fun k hk hS m => ?_) hi) (rAll_keep ⟨hs.size, fun k hk hS => hs.block k hk (fun e => hS (Or.inr e))⟩ (fun k hk hS m => hS (m.imp id (fun e => (own k e).elim id (fun r => by omega)))) hr)⟩,
    (cm _).trans h.m0, (cm _).trans h.m1, (cm _).trans h.m2, (cm _).trans h.m3, (cm _).trans h.m4, (cm _).trans h.m5, fun j => (hs.frozen h.mlt nm).trans (h.mz j), (cr _).trans h.q0, (cr _).trans h.q1, fun j => (hs.frozen h.rlt nr).trans (h.qz j)⟩
  · rcases own k hk with r | r
    · exact h.hB k r
    · exact ⟨by omega, by omega, by omega⟩
  · rcases m with (m | m) | m
    · omega
    · omega
    · rcases own k m with r | r
      · have := hlt k r; omega
      · omega
theorem Dr2.later (h : Dr2 mv rb base mb vB L w) (hb : Below w.heap.size w w1) : Dr2 mv rb base mb vB L w1 := by
  have hs : Since (fun _ => False) w w1 := ⟨hb.os, hb.tape, hb.output, hb.size, fun k hk _ => hb.block k hk⟩
  have cm := fun j => hs.cell (o := j) h.mlt id
  have cr := fun j => hs.cell (o := j) h.rlt id
  exact ⟨Nat.lt_of_lt_of_le h.mlt hb.size, h.ml, Nat.lt_of_lt_of_le h.rlt hb.size, h.rl, h.hB, h.blk.keep hs (fun _ f => f.elim) (fun _ _ => id) (fun _ _ m => m), (cm _).trans h.m0, (cm _).trans h.m1, (cm _).trans h.m2, (cm _).trans h.m3, (cm _).trans h.m4, (cm _).trans h.m5, fun j => (hs.frozen h.mlt id).trans (h.mz j), (cr _).trans h.q0, (cr _).trans h.q1, fun j => (hs.frozen h.rlt id).trans (h.qz j)⟩
theorem Dr2.below (h : Dr2 mv rb base mb vB L w) (hb : Below w.heap.size w w1) (hg : w1.grownBy w2 vB.ownBlock) : Below base w w2 := by
  have hs : Since (fun k => vB.ownBlock = some k) w w2 := Since.trans ⟨hb.os, hb.tape, hb.output, hb.size, fun k hk _ => hb.block k hk⟩ (Since.grown hg)
  exact hs.below (by have := h.mlt; have := h.ml; omega) (fun k e => (h.hB k e).1)
theorem Dr2.setVars (h : Dr2 mv rb base mb vB L w) (x : Int) (hne : rb ≠ mb) : Dr2 x rb base mb vB L (w.setCell ⟨mb, 3, none⟩ (.int .i64 x)) := by
  have hs : Since (fun k => k = mb) w (w.setCell ⟨mb, 3, none⟩ (.int .i64 x)) := Since.setCell w ⟨mb, 3, none⟩ (.int .i64 x)
  have cm := fun (j : Nat) (hj : ¬ 3 = j) => World.cell?_setCell_other w ⟨mb, 3, none⟩ ⟨mb, j, none⟩ (.int .i64 x) (fun e => by injection e with _ e2 _; exact hj e2)
  have cr := fun j => hs.cell (o := j) h.rlt hne
  exact ⟨by have := h.mlt; simpa using this, h.ml, by have := h.rlt; simpa using this, h.rl, h.hB, h.blk.keep hs (fun k e => Or.inl (Or.inl e)) (fun k hk e => (h.hB k hk).2.1 e) (fun _ _ m => m),
    (cm 0 (by decide)).trans h.m0, (cm 1 (by decide)).trans h.m1, (cm 2 (by decide)).trans h.m2, World.cell?_setCell_same _ _ _ h.m3, (cm 4 (by decide)).trans h.m4, (cm 5 (by decide)).trans h.m5, fun j => by rw [World.frozen?_setCell]; exact h.mz j,
    (cr _).trans h.q0, (cr _).trans h.q1, fun j => by rw [World.frozen?_setCell]; exact h.qz j⟩
end

/-- The cells of a row that came in, one by one. -/
theorem rAll_of {α : Type} {sz : Nat} {R : Rep α} {S : Nat → Prop} {w : World} : ∀ {ess : List (List Value)} {l : List α} (hl : ess.length = l.length), (∀ i (h : i < l.length) (h' : i < ess.length), ess[i].length = sz ∧ R S w ess[i] l[i]) → rAll sz R S w ess l
  | [], [], _, _ => trivial
  | [], _ :: _, h, _ => by simp at h
  | _ :: _, [], h, _ => by simp at h
  | e :: r, x :: l, hl, h => ⟨h 0 (by simp) (by simp), rAll_of (by simpa using hl) (fun i hi hi' => h (i + 1) (Nat.succ_lt_succ hi) (Nat.succ_lt_succ hi'))⟩
theorem row_cells {α : Type} {sz : Nat} {R : Rep α} {S : Nat → Prop} {w : World} {a : Option Addr} {cap : Nat} {l : List α} (hsz : 0 < sz) (hne : 0 < l.length) (h : rSlice sz R S w [.slice a l.length cap] l) :
    ∃ b off ess, a = some ⟨b, off, none⟩ ∧ b < w.heap.size ∧ rAll sz R S w ess l ∧ ∀ j u, ess.flatten[j]? = some u → w.cell? ((⟨b, off, none⟩ : Addr).add j) = some u := by
  obtain ⟨a', c, h1, h2, h3, h4⟩ := rSlice_val h
  obtain ⟨rfl, rfl⟩ : a = a' ∧ cap = c := by simpa using h1
  obtain ⟨b, off, _, rfl, _, hb, _⟩ := h4 0 hne
  have h5 : ∀ i : Fin l.length, ∃ es : List Value, es.length = sz ∧ (∀ j, j < sz → w.cell? ⟨b, off + i * sz + j, none⟩ = es[j]?) ∧ R S w es l[i] := fun i => by
    obtain ⟨b', off', es, e, _, _, r1, r2, r3⟩ := h4 i i.2
    obtain ⟨rfl, rfl⟩ : b = b' ∧ off = off' := by simpa using e
    exact ⟨es, r1, r2, r3⟩
  obtain ⟨f, hf⟩ := Classical.axiomOfChoice h5
  have hlen : (List.ofFn f).length = l.length := by simp
  have hall : rAll sz R S w (List.ofFn f) l := rAll_of hlen (fun i hi hi' => by
    rw [List.getElem_ofFn]
    exact ⟨(hf ⟨i, hi⟩).1, (hf ⟨i, hi⟩).2.2⟩)
  refine ⟨b, off, List.ofFn f, rfl, hb, hall, fun j u hu => ?_⟩
  have hs := rAll_size hall
  have hj : j < (List.ofFn f).length * sz := by
    have := (List.getElem?_eq_some_iff.1 hu).1
    rwa [flatten_len hs] at this
  have hi : j / sz < (List.ofFn f).length := Nat.div_lt_of_lt_mul (by rw [Nat.mul_comm]; exact hj)
  have hm : j % sz < sz := Nat.mod_lt _ hsz
  have hd : j / sz * sz + j % sz = j := by rw [Nat.mul_comm]; exact Nat.div_add_mod j sz
  have hg := flat_get (List.ofFn f) (j / sz) (j % sz) hi hs hm
  rw [hd, hu, List.getElem_ofFn] at hg
  have hc := (hf ⟨j / sz, by rw [← hlen]; exact hi⟩).2.1 (j % sz) hm
  have hadd : (⟨b, off, none⟩ : Addr).add j = ⟨b, off + j, none⟩ := by unfold Addr.add; split <;> simp_all
  rw [hadd, hg, ← hc]
  rw [Nat.add_assoc, hd]
theorem codes_one {S : Nat → Prop} {w : World} : ∀ {ess : List (List Value)} {l : List PCode}, rAll 6 rCode S w ess l → ∀ u ∈ ess.flatten, u.oneCell' = true
  | [], [], _, u, hu => by simp at hu
  | es :: r, x :: l, h, u, hu => by
    rw [List.flatten_cons] at hu
    rcases List.mem_append.1 hu with hu | hu
    · obtain ⟨v5, rfl, _, h5⟩ := h.1.2
      obtain ⟨a5, c5, rfl⟩ := rSlice_shape h5
      simp at hu
      rcases hu with rfl | rfl | rfl | rfl | rfl | rfl <;> rfl
    · exact codes_one h.2 u hu
end Go.Pst

/-
  posternlaw.driven, walked.
-/
namespace Go.Proofs.Ytaomlfbcfmmhlaa
open Go.RowKit Go.Pst
set_option linter.unusedVariables false
set_option linter.unusedSimpArgs false

theorem infoC : (Try.prog.info? 31).map (fun i => (i.zero, i.size, i.bytes)) = some (some (.agg #[.string ByteArray.empty, .int .i64 0, .int .i64 0, .int .i64 0, .int .i64 0, .slice none 0 0]), 6, 72) := by kernel_rfl

theorem add_block (b o j : Nat) : ((⟨b, o, none⟩ : Addr).add j).block = b := by unfold Addr.add; split <;> rfl
theorem new_three (w : World) (a b c : Obj) : (((w.alloc a).alloc b).alloc c).heap[w.heap.size]? = some a ∧ (((w.alloc a).alloc b).alloc c).heap[w.heap.size + 1]? = some b ∧ (((w.alloc a).alloc b).alloc c).heap[w.heap.size + 1 + 1]? = some c := ⟨allocs_get [a, b, c] w 0 (by simp), allocs_get [a, b, c] w 1 (by simp), allocs_get [a, b, c] w 2 (by simp)⟩
theorem own_one (w : World) (b : Nat) (e : TypeId) (c : Array Value) (n sz : Nat) (hb : b = w.heap.size) (hn : c.size = n * sz) (hm : n ≤ maxLen) : (w.alloc (.cells c e)).ownsRow 0 e sz (.slice (some ⟨b, 0, none⟩) n n) n c.toList := by
  subst hb
  exact ⟨by simpa using hn, .inr ⟨w.heap.size, n, c, rfl, Nat.zero_le _, heap_alloc_new w _, Nat.le_refl _, hm, by simpa using hn, by rw [List.take_of_length_le (by simp [hn])]⟩⟩
theorem below_two (w : World) (a b : Obj) : Below w.heap.size w ((w.alloc a).alloc b) := ((Below.refl _ _).alloc (Nat.le_refl _) a).alloc (by simp) b
set_option maxHeartbeats 4000000 in
theorem driven_any {w : World} {a1 a2 : Option Addr} {c1 c2 : Nat} {all : List PCode} {name : ByteArray} {l d : List Int} {r : Nat} {vd : Value} (hn : name.size ≤ maxLen) (hl : l.length ≤ 1000) (hr : r ≤ 1000)
    (h1 : rCodes (fun _ => True) w [.slice a1 all.length c1] all) (h2 : rInts (fun _ => True) w [.slice a2 l.length c2] l) (h3 : rInts (fun _ => True) w [vd] d) (hal : all.length ≤ 1000) (hal0 : 0 < all.length) :
    Calls Try.prog 8 #[.slice a1 all.length c1, .string name, .slice a2 l.length c2, .int .i64 r, vd] w fun e w' => ∃ v0, e = .returned (.agg #[v0, vd]) ∧ rProg (fun _ => True) w' [v0, vd] (drivenF all name l r d) ∧ Below w.heap.size w w' := by
  obtain ⟨ad, cd, rfl, hd9, hdat, hdI⟩ := rInts_open h3
  obtain ⟨_, _, hv2, h29, hat2, hI2⟩ := rInts_open h2
  obtain ⟨rfl, rfl⟩ : a2 = _ ∧ c2 = _ := by simpa using hv2
  obtain ⟨i0, hi0, hz0, hz1, hz2⟩ := info_parts infoI
  obtain ⟨j0, hj0, hy0, hy1, hy2⟩ := info_parts infoInt
  obtain ⟨bA, oA, essA, rfl, hbA, hrA, hcA⟩ := row_cells (by decide) hal0 h1
  have hoA := codes_one hrA
  have hlA : essA.flatten.length = all.length * 6 := by rw [flatten_len (rAll_size hrA), rAll_len hrA]
  have HrAll := Lib.hid hrA
  have HcA := Lib.hid hcA
  have HoA := Lib.hid hoA
  have HlA := Lib.hid hlA
  clear hrA hcA hoA hlA
  obtain ⟨ic, hic, hzc0, hzc1, hzc2⟩ := info_parts infoC
  have H1 := Lib.hid h1
  have H2 := Lib.hid h2
  have H3 := Lib.hid h3
  have HI := Lib.hid hI2
  have Hat := Lib.hid hat2
  clear h1 h2 h3 hI2 hdI hdat hat2
  go_enter Try.func8, Try.ntmps8
  go_wp2_with fail
  go_loopw [12, 14] (fun v i wr => ∃ (k : Nat) (ρ : Nat → Nat) (vA : Value), k ≤ l.length ∧ i = .int .i64 k ∧ Drv w.heap.size w.heap.size (w.heap.size + 1 + 1) (w.heap.size + 1) ρ v vA (.slice none 0 0) (consts l k) (upI 0 k) [] name wr ∧ Below w.heap.size w wr) (fun _ i _ => l.length - (intOf i).toNat)
  case atStart =>
    have hT := new_three w (.cells #[.slice none 0 0, .slice none 0 0] 27) (.cells #[.string ⟨#[109, 97, 105, 110]⟩, .int .i64 0, .int .i64 0, .int .i64 0, .int .i64 0, .slice none 0 0] 31) (.cells #[.int .i64 7, .slice none 0 0, .slice none 0 0, .int .i64 0, .string name, .slice none 0 0] 48)
    have bT : Below w.heap.size w (((w.alloc (.cells #[.slice none 0 0, .slice none 0 0] 27)).alloc (.cells #[.string ⟨#[109, 97, 105, 110]⟩, .int .i64 0, .int .i64 0, .int .i64 0, .int .i64 0, .slice none 0 0] 31)).alloc (.cells #[.int .i64 7, .slice none 0 0, .slice none 0 0, .int .i64 0, .string name, .slice none 0 0] 48)) := (below_two w _ _).alloc (by simp; omega) _
    refine (fun (h : ∀ W, Below w.heap.size w W → W.heap[w.heap.size]? = some (.cells #[.slice none 0 0, .slice none 0 0] 27) → W.heap[w.heap.size + 1]? = some (.cells #[.string ⟨#[109, 97, 105, 110]⟩, .int .i64 0, .int .i64 0, .int .i64 0, .int .i64 0, .slice none 0 0] 31) → W.heap[w.heap.size + 1 + 1]? = some (.cells #[.int .i64 7, .slice none 0 0, .slice none 0 0, .int .i64 0, .string name, .slice none 0 0] 48) → ∃ (k : Nat) (ρ : Nat → Nat) (vA : Value), k ≤ l.length ∧ Value.int .i64 0 = .int .i64 k ∧ Drv w.heap.size w.heap.size (w.heap.size + 1 + 1) (w.heap.size + 1) ρ (.slice none 0 0) vA (.slice none 0 0) (consts l k) (upI 0 k) [] name W ∧ Below w.heap.size w W) => h _ bT hT.1 hT.2.1 hT.2.2) ?_
    intro W bT t0 t1 t2
    have z2 := (Array.getElem?_eq_some_iff.1 t2).1
    exact ⟨0, fun k => if k = w.heap.size then 6 else if k = w.heap.size + 1 then 2 else if k = w.heap.size + 1 + 1 then 1 else 0, .slice none 0 0, Nat.zero_le _, rfl,
      ⟨z2, by omega, by omega, by rw [if_neg (by omega), if_neg (by omega), if_pos rfl], by rw [if_neg (by omega), if_pos rfl], by rw [if_pos rfl], fun k hk => by simp [Value.ownBlock] at hk, fun k hk => by simp [Value.ownBlock] at hk, fun k hk => by simp [Value.ownBlock] at hk, fun k hk => by
        by_cases e1 : k = w.heap.size
        · omega
        by_cases e2 : k = w.heap.size + 1
        · omega
        by_cases e3 : k = w.heap.size + 1 + 1
        · omega
        · exact absurd (by simp only [if_neg e1, if_neg e2, if_neg e3]) hk, Blk.nil _ _, ⟨rfl, Or.inl ⟨rfl, rfl⟩⟩, ⟨rfl, Or.inl ⟨rfl, rfl⟩⟩,
        by simp [World.cell?, t2], by simp [World.cell?, t2], by simp [World.cell?, t2], by simp [World.cell?, t2], by simp [World.cell?, t2], by simp [World.cell?, t2], fun j => by simp [World.frozen?, t2],
        by simp [World.cell?, t1], by simp [World.cell?, t1], by simp [World.cell?, t1], by simp [World.cell?, t1], by simp [World.cell?, t1], by simp [World.cell?, t1], fun j => by simp [World.frozen?, t1],
        by simp [World.cell?, t0], by simp [World.cell?, t0], fun j => by simp [World.frozen?, t0]⟩, bT⟩
  case round =>
    obtain ⟨k, ρ, vA, hk, rfl, hD, hb⟩ := hrel
    have hsz := hb.size
    obtain ⟨ess, ho, hrr⟩ := id hD.blk
    have hrA := hD.rowA
    rw [show (consts l k).length = k by simp [consts]] at ho
    rw [show (upI 0 k).length = k by simp [upI]] at hrA
    obtain ⟨aB, cB, rfl, -, -⟩ := row_slice ho
    obtain ⟨aA, cA, rfl, -, -⟩ := row_slice hrA
    have HrA := Lib.hid hrA
    clear hrA
    have HD := Lib.hid hD
    have Ho := Lib.hid ho
    have Hrr := Lib.hid hrr
    have HB := Lib.hid hb
    have Hat2 := Lib.hid (Hat.out.below hb)
    clear hD ho hrr hb
    have hk31 : (k : Int) ≤ 1000 := by omega
    by_cases hlt : k < l.length
    · obtain ⟨b, off, rfl, hbl, hc⟩ := Hat2.out k hlt
      have hlt1 : (k : Int) < (l.length : Int) := by omega
      have hk0 : (0 : Int) ≤ k := by omega
      have hni : InI (l[k]) := HI.out _ (List.getElem_mem hlt)
      generalize hlk : l[k] = x at hc hni
      have Hlk := Lib.hid hlk
      clear hlk
      have hxb : w.heap.size + 2 < wr.heap.size := HD.out.xlt
      have hnB : ∀ q, (Value.slice aB k cB).ownBlock = some q → q ≠ w.heap.size + 2 := fun q hq e => by have := HD.out.hB q hq; rw [e, HD.out.r1] at this; exact absurd this (by decide)
      go_wp2_with (first | (at_builtin; refine wpList_append_own_at _ rfl _ _ 46 rfl 0 48 i0 _ 6 104 Try.underlying46 hi0 hz0 hz1 hz2 rfl (by decide) (.slice aB k cB) k ess.flatten rfl ((Ho.out.alloc _).alloc _) ⟨wr.heap.size + 1, 0, none⟩ 1 1 [.int .i64 1, .slice (some ⟨wr.heap.size, 0, none⟩) 1 1, .slice none 0 0, .int .i64 x, .string ByteArray.empty, .slice none 0 0] rfl rfl (World.news_of_block (new_two wr _ _).2) (by simp [Value.oneCell']) (by unfold maxLen; omega) (by omega) (Nat.zero_le _) ?_; intro v2 w2 hown2 hgrow2 hnil2 hat2; clear hnil2; have hb1 := below_two wr (.cells #[.int .i64 k] 3) (.cells #[.int .i64 1, .slice (some ⟨wr.heap.size, 0, none⟩) 1 1, .slice none 0 0, .int .i64 x, .string ByteArray.empty, .slice none 0 0] 48); have D2 := HD.out.pushB hb1 (i := constI k x) Hrr.out rfl (lit_instr (ini rfl) hni (by decide) (rInts_all [(k : Int)] (Nat.le_refl _) (lens rfl) (ini1 (ini_small hk0 (by omega))) (new_two wr _ _).1) (rSlice_nil _ _ _ _) (rSlice_nil _ _ _ _)) (by rw [show (consts l k).length = k by simp [consts]]; exact hown2) hgrow2 (hat2.imp id (fun e => ⟨_, e, Nat.le_refl _⟩)); have bl2 := HD.out.belowB hb1 hgrow2; have x2 := D2.x2; have HD2 := Lib.hid D2; have HBl2 := Lib.hid bl2; clear D2 bl2 hown2 hgrow2 hat2) | (at_builtin; refine wpList_append_own_at _ rfl _ _ 25 rfl 0 3 j0 (.int .i64 0) 1 8 Try.underlying25 hj0 hy0 hy1 hy2 rfl (by decide) (.slice aA k cA) k (ints (upI 0 k)) rfl ((by { have := HD2.out.rowA; rw [show (upI 0 k).length = k by simp [upI]] at this; exact this } : w2.ownsRow 0 3 1 (.slice aA k cA) k (ints (upI 0 k))).alloc _) ⟨w2.heap.size, 0, none⟩ 1 1 [.int .i64 k] rfl rfl (cell_one_new _ _ _) (by intro u hu; simp at hu; subst hu; rfl) (by unfold maxLen; omega) (by omega) (Nat.zero_le _) ?_; intro v3 w3 hown3 hgrow3 hnil3 hat3; clear hnil3; obtain ⟨g3, k3, hv3⟩ := row_some hown3; subst hv3; have hb3 : Below w2.heap.size w2 (w2.alloc (.cells #[.int .i64 k] 3)) := (Below.refl _ _).alloc (Nat.le_refl _) _; have D3 := HD2.out.pushA (a := (k : Int)) hb3 (by rw [show (upI 0 k).length = k by simp [upI]]; exact hown3) hgrow3 (hat3.imp id (fun e => ⟨_, e, Nat.le_refl _⟩)); obtain ⟨y2, yz⟩ := HD2.out.farA hb3 hgrow3; have bl3 := HBl2.out.trans (HD2.out.setA hb3 hgrow3 (.slice (some ⟨g3, 0, none⟩) (k + 1) k3)); have HD3 := Lib.hid D3; have HBl3 := Lib.hid bl3; clear D3 bl3 hown3 hgrow3 hat3))
      have e1 : consts l (k + 1) = consts l k ++ [constI k x] := by simp [consts, List.range_succ, List.getD, hlt, Hlk.out]
      have e2 : upI 0 (k + 1) = upI 0 k ++ [(k : Int)] := by simp [upI, List.range_succ]
      have D3 := HD3.out
      rw [← e1, ← e2] at D3
      exact ⟨⟨k + 1, _, _, by omega, by go_num, D3, HB.out.trans HBl3.out⟩, by simp [intOf]; omega⟩
    · have hke : k = l.length := by omega
      subst hke
      clear hlt hk31 hk
      have hl0 : (0 : Int) ≤ l.length := by omega
      have hl1 : (l.length : Int) ≤ 1000 := by omega
      have hr0 : (0 : Int) ≤ r := by omega
      have hr1 : (r : Int) ≤ 1000 := by omega
      go_wp2_with fail
      go_loopw [15] (fun i wq => ∃ (q : Nat) (ρ' : Nat → Nat) (vD : Value), q ≤ r ∧ i = .int .i64 q ∧ Drv w.heap.size w.heap.size (w.heap.size + 1 + 1) (w.heap.size + 1) ρ' (Value.slice aB l.length cB) (Value.slice aA l.length cA) vD (consts l l.length) (upI 0 l.length) (upI l.length q) name wq ∧ Below w.heap.size w wq) (fun i _ => r - (intOf i).toNat)
      case atStart => exact ⟨0, _, _, Nat.zero_le _, rfl, HD.out, HB.out⟩
      case round =>
        obtain ⟨q, ρ', vD, hq, rfl, hD2, hb2⟩ := hrel
        have hrD := hD2.rowD
        rw [show (upI l.length q).length = q by simp [upI]] at hrD
        obtain ⟨aD, cD, rfl, -, -⟩ := row_slice hrD
        have x1 := hD2.x1
        have HrD := Lib.hid hrD
        have HD2 := Lib.hid hD2
        have HB2 := Lib.hid hb2
        clear hrD hD2 hb2
        have hq0 : (0 : Int) ≤ q := by omega
        by_cases hlt : q < r
        · have hlt1 : (q : Int) < (r : Int) := by omega
          go_wp2_with (at_builtin; refine wpList_append_own_at _ rfl _ _ 25 rfl 0 3 j0 (.int .i64 0) 1 8 Try.underlying25 hj0 hy0 hy1 hy2 rfl (by decide) (.slice aD q cD) q (ints (upI l.length q)) rfl (HrD.out.alloc _) ⟨wr.heap.size, 0, none⟩ 1 1 [.int .i64 ((l.length : Int) + q)] rfl rfl (cell_one_new _ _ _) (by intro u hu; simp at hu; subst hu; rfl) (by unfold maxLen; omega) (by omega) (Nat.zero_le _) ?_; intro v3 w3 hown3 hgrow3 hnil3 hat3; clear hnil3; obtain ⟨g3, k3, hv3⟩ := row_some hown3; subst hv3; have hb3 : Below wr.heap.size wr (wr.alloc (.cells #[.int .i64 ((l.length : Int) + q)] 3)) := (Below.refl _ _).alloc (Nat.le_refl _) _; have D3 := HD2.out.pushD (a := (l.length : Int) + q) hb3 (by rw [show (upI l.length q).length = q by simp [upI]]; exact hown3) hgrow3 (hat3.imp id (fun e => ⟨_, e, Nat.le_refl _⟩)); obtain ⟨y2, yz⟩ := HD2.out.farD hb3 hgrow3; have bl3 := HB2.out.trans (HD2.out.setD hb3 hgrow3 (.slice (some ⟨g3, 0, none⟩) (q + 1) k3)); have HD3 := Lib.hid D3; have HBl3 := Lib.hid bl3; clear D3 bl3 hown3 hgrow3 hat3)
          have e2 : upI l.length (q + 1) = upI l.length q ++ [(l.length : Int) + q] := by simp [upI, List.range_succ]
          have D3 := HD3.out
          rw [← e2] at D3
          exact ⟨⟨q + 1, _, _, by omega, by go_num, D3, HBl3.out⟩, by simp [intOf]; omega⟩
        · have hqe : q = r := by omega
          subst hqe
          clear hlt
          obtain ⟨ess2, ho2, hrr2⟩ := id HD2.out.blk
          rw [show (consts l l.length).length = l.length by simp [consts]] at ho2
          have z0 := HD2.out.x0
          have z2 := HD2.out.x2
          have z3 := HD2.out.x3
          have z4 := HD2.out.x4
          have z5 := HD2.out.x5
          have Ho2 := Lib.hid ho2
          have Hrr2 := Lib.hid hrr2
          clear ho2 hrr2
          go_wp2_with (at_builtin; refine wpList_append_own_at _ rfl _ _ 46 rfl 0 48 i0 _ 6 104 Try.underlying46 hi0 hz0 hz1 hz2 rfl (by decide) (.slice aB l.length cB) l.length ess2.flatten rfl (Ho2.out.alloc _) ⟨wr.heap.size, 0, none⟩ 1 1 [.int .i64 7, .slice aD q cD, .slice aA l.length cA, .int .i64 0, .string name, .slice none 0 0] rfl rfl (World.news_of_block (new_one wr _)) (by simp [Value.oneCell']) (by unfold maxLen; omega) (by omega) (Nat.zero_le _) ?_; intro v4 w4 hown4 hgrow4 hnil4 hat4; clear hnil4; have hb4 : Below wr.heap.size wr (wr.alloc (.cells #[.int .i64 7, .slice aD q cD, .slice aA l.length cA, .int .i64 0, .string name, .slice none 0 0] 48)) := (Below.refl _ _).alloc (Nat.le_refl _) _; have D4 := HD2.out.pushX hb4 Hrr2.out (by rw [show (consts l l.length).length = l.length by simp [consts]]; exact hown4) hgrow4 (hat4.imp id (fun e => ⟨_, e, Nat.le_refl _⟩)) hn (fun x hx => by simp [upI] at hx; obtain ⟨j, hj, rfl⟩ := hx; exact InI_nat (by omega)) (fun x hx => by simp [upI] at hx; obtain ⟨j, hj, rfl⟩ := hx; exact ini_small (by omega) (by omega)); have bl4 := HB2.out.trans (HD2.out.belowB hb4 hgrow4); have HD4 := Lib.hid D4; have HBl4 := Lib.hid bl4; clear D4 bl4 hown4 hgrow4 hat4)
          go_loopw [12, 16] (fun v i w5 => ∃ (p : Nat), p ≤ q ∧ i = .int .i64 p ∧ Dr2 0 w.heap.size w.heap.size (w.heap.size + 1) v (consts l l.length ++ [callI name l.length q] ++ (List.range p).map (fun j => showI (l.length + j))) w5 ∧ Below w.heap.size w w5) (fun _ i _ => q - (intOf i).toNat)
          case atStart => exact ⟨0, Nat.zero_le _, rfl, by rw [List.range_zero, List.map_nil, List.append_nil]; exact HD4.out, HBl4.out⟩
          case round =>
            obtain ⟨p, hp, rfl, hD5, hb5⟩ := hrel
            have hL5 : (consts l l.length ++ [callI name l.length q] ++ (List.range p).map (fun j => showI (l.length + j))).length = l.length + 1 + p := by simp [consts]; omega
            obtain ⟨ess5, ho5, hrr5⟩ := id hD5.blk
            rw [hL5] at ho5
            obtain ⟨aS, cS, rfl, -, -⟩ := row_slice ho5
            have hlt5 : ∀ k, (Value.slice aS (l.length + 1 + p) cS).ownBlock = some k → k < wr.heap.size := fun k hk => (ho5.lt k hk).2
            have y3 := hD5.m3
            have y3z := hD5.mz 3
            have HL5 := Lib.hid hL5
            have HD5 := Lib.hid hD5
            have HB5 := Lib.hid hb5
            have Ho5 := Lib.hid ho5
            have Hrr5 := Lib.hid hrr5
            have Hlt5 := Lib.hid hlt5
            clear hL5 hD5 hb5 ho5 hrr5 hlt5
            have hp0 : (0 : Int) ≤ p := by omega
            by_cases hlt : p < q
            · have hlt1 : (p : Int) < (q : Int) := by omega
              clear y3 y3z
              go_wp2_with (at_builtin; refine wpList_append_own_at _ rfl _ _ 46 rfl 0 48 i0 _ 6 104 Try.underlying46 hi0 hz0 hz1 hz2 rfl (by decide) (.slice aS (l.length + 1 + p) cS) (l.length + 1 + p) ess5.flatten rfl ((Ho5.out.alloc _).alloc _) ⟨wr.heap.size + 1, 0, none⟩ 1 1 [.int .i64 8, .slice none 0 0, .slice (some ⟨wr.heap.size, 0, none⟩) 1 1, .int .i64 0, .string ⟨#[105, 110, 116]⟩, .slice none 0 0] rfl rfl (World.news_of_block (new_two wr _ _).2) (by simp [Value.oneCell']) (by unfold maxLen; omega) (by omega) (Nat.zero_le _) ?_; intro v6 w6 hown6 hgrow6 hnil6 hat6; clear hnil6; have hb6 := below_two wr (.cells #[.int .i64 ((l.length : Int) + p)] 3) (.cells #[.int .i64 8, .slice none 0 0, .slice (some ⟨wr.heap.size, 0, none⟩) 1 1, .int .i64 0, .string ⟨#[105, 110, 116]⟩, .slice none 0 0] 48); have D6 := HD5.out.push hb6 (i := showI (l.length + p)) Hrr5.out Hlt5.out rfl (lit_instr (ini rfl) (ini rfl) (by decide) (rSlice_nil _ _ _ _) (rInts_all [((l.length : Int) + p)] (Nat.le_refl _) (lens rfl) (ini1 (ini_small (by omega) (by omega))) (new_two wr _ _).1) (rSlice_nil _ _ _ _)) (by rw [HL5.out]; exact hown6) hgrow6 (hat6.imp id (fun e => ⟨_, e, Nat.le_refl _⟩)); have bl6 := HB5.out.trans (HD5.out.below hb6 hgrow6); have HD6 := Lib.hid D6; have HBl6 := Lib.hid bl6; clear D6 bl6 hown6 hgrow6 hat6)
              have D6 := HD6.out
              exact ⟨⟨p + 1, by omega, by go_num, by rw [List.range_succ, List.map_append, ← List.append_assoc]; exact D6, HBl6.out⟩, by simp [intOf]; omega⟩
            · have hpe : p = q := by omega
              subst hpe
              clear hlt
              have Dv := HD5.out.setVars ((l.length : Int) + p + 2) (by omega)
              have Hov := Lib.hid ((Since.setCell wr ⟨w.heap.size + 1, 3, none⟩ (.int .i64 ((l.length : Int) + p + 2))).row Ho5.out (fun k hk e => (HD5.out.hB k hk).2.1 e))
              have hsv := Since.setCell wr ⟨w.heap.size + 1, 3, none⟩ (.int .i64 ((l.length : Int) + p + 2))
              have Hrv := Lib.hid (rAll_keep ⟨hsv.size, fun k hk hS => hsv.block k hk (fun e => hS (Or.inl (Or.inl e)))⟩ (fun _ _ h => h) Hrr5.out)
              clear hsv
              have hsW : (wr.setCell ⟨w.heap.size + 1, 3, none⟩ (.int .i64 ((l.length : Int) + p + 2))).heap.size = wr.heap.size := by simp
              have HDv := Lib.hid Dv
              have HsW := Lib.hid hsW
              clear Dv hsW
              go_wp2_with (first | (at_builtin; refine wpList_append_own_at _ rfl _ _ 46 rfl 0 48 i0 _ 6 104 Try.underlying46 hi0 hz0 hz1 hz2 rfl (by decide) (.slice aS (l.length + 1 + p) cS) (l.length + 1 + p) ess5.flatten rfl (Hov.out.alloc _) ⟨wr.heap.size, 0, none⟩ 1 1 [.int .i64 12, .slice none 0 0, .slice none 0 0, .int .i64 0, .string ByteArray.empty, .slice none 0 0] rfl rfl (World.news_of_block (by rw [← HsW.out]; exact new_one _ _)) (by simp [Value.oneCell']) (by unfold maxLen; omega) (by omega) (Nat.zero_le _) ?_; intro v6 w6 hown6 hgrow6 hnil6 hat6; clear hnil6; obtain ⟨g6, k6, hv6⟩ := row_some hown6; subst hv6; have hb6 : Below (wr.setCell ⟨w.heap.size + 1, 3, none⟩ (.int .i64 ((l.length : Int) + p + 2))).heap.size (wr.setCell ⟨w.heap.size + 1, 3, none⟩ (.int .i64 ((l.length : Int) + p + 2))) ((wr.setCell ⟨w.heap.size + 1, 3, none⟩ (.int .i64 ((l.length : Int) + p + 2))).alloc (.cells #[.int .i64 12, .slice none 0 0, .slice none 0 0, .int .i64 0, .string ByteArray.empty, .slice none 0 0] 48)) := (Below.refl _ _).alloc (Nat.le_refl _) _; have D6 := HDv.out.push hb6 (i := ⟨12, [], [], 0, ByteArray.empty, []⟩) Hrv.out (fun k hk => by rw [HsW.out]; exact Hlt5.out k hk) rfl (lit_instr (ini rfl) (ini rfl) (by decide) (rSlice_nil _ _ _ _) (rSlice_nil _ _ _ _) (rSlice_nil _ _ _ _)) (by rw [HL5.out]; exact hown6) hgrow6 (hat6.imp id (fun e => ⟨_, e, Nat.le_refl _⟩)); have bl6 := (HB5.out.setCell (show w.heap.size ≤ (⟨w.heap.size + 1, 3, none⟩ : Addr).block from Nat.le_succ _) (.int .i64 ((l.length : Int) + p + 2))).trans (HDv.out.below hb6 hgrow6); have hml6 := D6.mlt; have hrl6 := D6.rlt; have t0 := D6.m0; have t1 := D6.m1; have t2 := D6.m2; have t3 := D6.m3; have t4 := D6.m4; have t5 := D6.m5; have tz := D6.mz 5; have HD6 := Lib.hid D6; have HBl6 := Lib.hid bl6; clear D6 bl6 hown6 hgrow6 hat6 y3 y3z) | (at_builtin; refine wpList_append_own_at _ rfl _ _ 22 rfl 0 31 ic _ 6 72 Try.underlying22 hic hzc0 hzc1 hzc2 rfl (by decide) (.slice (some ⟨w6.heap.size + 1, 0, none⟩) 1 1) 1 [.string ⟨#[109, 97, 105, 110]⟩, .int .i64 0, .int .i64 0, .int .i64 ((l.length : Int) + p + 2), .int .i64 0, .slice (some ⟨w6.heap.size, 0, none⟩) 1 1] rfl (own_one ((w6.setCell ⟨w.heap.size + 1, 5, none⟩ (.slice (some ⟨w6.heap.size, 0, none⟩) 1 1)).alloc (.cells #[.slice (some ⟨g6, 0, none⟩) (l.length + 1 + p + 1) k6] 46)) (w6.heap.size + 1) 31 #[.string ⟨#[109, 97, 105, 110]⟩, .int .i64 0, .int .i64 0, .int .i64 ((l.length : Int) + p + 2), .int .i64 0, .slice (some ⟨w6.heap.size, 0, none⟩) 1 1] 1 6 (by simp) rfl (by decide)) ⟨bA, oA, none⟩ all.length c1 essA.flatten rfl HlA.out (fun j u hu => (Below.cell (HBl6.out.trans ((((Below.refl w.heap.size w6).setCell (show w.heap.size ≤ (⟨w.heap.size + 1, 5, none⟩ : Addr).block from Nat.le_succ _) (.slice (some ⟨w6.heap.size, 0, none⟩) 1 1)).alloc (by simp; omega) _).alloc (by simp; omega) _)) (p := (⟨bA, oA, none⟩ : Addr).add j) (by rw [add_block]; exact hbA)).trans (HcA.out j u hu)) HoA.out (by unfold maxLen; omega) (by omega) (Nat.zero_le _) ?_; intro v8 w8 hown8 hgrow8 hnil8 hat8; clear hnil8; rw [Nat.add_comm] at hown8; obtain ⟨g8, k8, hv8⟩ := row_some hown8; subst hv8; have s8 : Since (fun k => k = w.heap.size + 1) w6 (((w6.setCell ⟨w.heap.size + 1, 5, none⟩ (.slice (some ⟨w6.heap.size, 0, none⟩) 1 1)).alloc (.cells #[.slice (some ⟨g6, 0, none⟩) (l.length + 1 + p + 1) k6] 46)).alloc (.cells #[.string ⟨#[109, 97, 105, 110]⟩, .int .i64 0, .int .i64 0, .int .i64 ((l.length : Int) + p + 2), .int .i64 0, .slice (some ⟨w6.heap.size, 0, none⟩) 1 1] 31)) := ((Since.setCell w6 ⟨w.heap.size + 1, 5, none⟩ (.slice (some ⟨w6.heap.size, 0, none⟩) 1 1)).trans (Since.alloc _ _ _)).trans (Since.alloc _ _ _); have s9 : Since (fun k => k = w.heap.size + 1 ∨ k = w6.heap.size + 1) w6 w8 := (s8.mono (fun _ h => Or.inl h)).trans ((Since.grown hgrow8).mono (fun k e => Or.inr (by simp [Value.ownBlock] at e; omega))); have r0 := (s9.cell (o := 0) hrl6 (by omega)).trans HD6.out.q0; have r1 := (s9.cell (o := 1) hrl6 (by omega)).trans HD6.out.q1; have rz0 := (s9.frozen (o := 0) hrl6 (by omega)).trans (HD6.out.qz 0); have rz1 := (s9.frozen (o := 1) hrl6 (by omega)).trans (HD6.out.qz 1); have hg7 : w8.heap[w6.heap.size]? = some (.cells #[.slice (some ⟨g6, 0, none⟩) (l.length + 1 + p + 1) k6] 46) := ((Since.grown hgrow8).block _ (by simp; omega) (by simp [Value.ownBlock])).trans (by have h2 := (new_two (w6.setCell ⟨w.heap.size + 1, 5, none⟩ (.slice (some ⟨w6.heap.size, 0, none⟩) 1 1)) (.cells #[.slice (some ⟨g6, 0, none⟩) (l.length + 1 + p + 1) k6] 46) (.cells #[.string ⟨#[109, 97, 105, 110]⟩, .int .i64 0, .int .i64 0, .int .i64 ((l.length : Int) + p + 2), .int .i64 0, .slice (some ⟨w6.heap.size, 0, none⟩) 1 1] 31)).1; rw [show (w6.setCell ⟨w.heap.size + 1, 5, none⟩ (.slice (some ⟨w6.heap.size, 0, none⟩) 1 1)).heap.size = w6.heap.size by simp] at h2; exact h2); have hg8 : w.heap.size < g8 := (by rcases hat8 with e | e <;> simp [Value.ownBlock] at e <;> omega); have HS9 := Lib.hid s9; have HG7 := Lib.hid hg7; have Hown8 := Lib.hid hown8; clear s8 s9 hg7 hown8 hgrow8 hat8 t0 t1 t2 t3 t4 t5 tz))
              have hV0 : ((w8.setCell ⟨w.heap.size, 0, none⟩ (.slice (some ⟨g8, 0, none⟩) (all.length + 1) k8)).setCell ⟨w.heap.size, 1, none⟩ (.slice ad d.length cd)).cell? ⟨w.heap.size, 0, none⟩ = some (.slice (some ⟨g8, 0, none⟩) (all.length + 1) k8) := (World.cell?_setCell_other _ _ _ _ (fun e => by injection e with _ e2 _; exact absurd e2 (by decide))).trans (World.cell?_setCell_same _ _ _ r0)
              have hV1 : ((w8.setCell ⟨w.heap.size, 0, none⟩ (.slice (some ⟨g8, 0, none⟩) (all.length + 1) k8)).setCell ⟨w.heap.size, 1, none⟩ (.slice ad d.length cd)).cell? ⟨w.heap.size, 1, none⟩ = some (.slice ad d.length cd) := World.cell?_setCell_same _ _ _ ((World.cell?_setCell_other _ _ _ _ (fun e => by injection e with _ e2 _; exact absurd e2 (by decide))).trans r1)
              have hsV : Since (fun k => k = w.heap.size) w8 ((w8.setCell ⟨w.heap.size, 0, none⟩ (.slice (some ⟨g8, 0, none⟩) (all.length + 1) k8)).setCell ⟨w.heap.size, 1, none⟩ (.slice ad d.length cd)) := (Since.setCell w8 ⟨w.heap.size, 0, none⟩ (.slice (some ⟨g8, 0, none⟩) (all.length + 1) k8)).trans (Since.setCell _ ⟨w.heap.size, 1, none⟩ _)
              generalize (w8.setCell ⟨w.heap.size, 0, none⟩ (.slice (some ⟨g8, 0, none⟩) (all.length + 1) k8)).setCell ⟨w.heap.size, 1, none⟩ (.slice ad d.length cd) = V at hV0 hV1 hsV ⊢
              refine bodyPost_ret (v := .agg #[.slice (some ⟨g8, 0, none⟩) (all.length + 1) k8, .slice ad d.length cd]) (by simp [results, Try.results8, go_sem, hV0, hV1]) rfl ?_
              have hs9 := HS9.out
              have hz9 := hs9.size
              have hz6 := HBl6.out.size
              have b8 : Below w.heap.size w w8 := HBl6.out.trans (hs9.below hz6 (fun k e => by omega))
              have bV : Below w.heap.size w V := b8.trans (hsV.below b8.size (fun k e => by omega))
              have s69 : Since (fun k => k = w.heap.size ∨ k = w.heap.size + 1 ∨ k = w6.heap.size + 1) w6 V := (hs9.mono (fun _ h => Or.inr h)).trans (hsV.mono (fun _ h => Or.inl h))
              have hblk : rBlock (fun _ => True) V [.slice (some ⟨g6, 0, none⟩) (l.length + 1 + p + 1) k6] (mainIs name l p) :=
                Good.keep (S := fun x => x < w6.heap.size ∧ x ≠ w.heap.size ∧ x ≠ w.heap.size + 1) ⟨s69.size, fun k hk hS => s69.block k hk (fun e => by omega)⟩ (fun _ _ _ => trivial)
                  (Good.wide (HD6.out.blk.reads' (S := fun x => x ≠ w.heap.size ∧ x ≠ w.heap.size + 1) (fun x hx => ⟨(HD6.out.hB x hx).2.2, (HD6.out.hB x hx).2.1⟩) (fun x hx => ⟨fun e => hx (Or.inl (Or.inr e)), fun e => hx (Or.inl (Or.inl e))⟩)) (fun x hx hS => ⟨hx, hS⟩))
              have h67 : w6.heap.size < w8.heap.size := (Array.getElem?_eq_some_iff.1 HG7.out).1
              have hbs : rBlocks (fun _ => True) V [.slice (some ⟨w6.heap.size, 0, none⟩) 1 1] [mainIs name l p] :=
                rSlice_all (l := [mainIs name l p]) [[.slice (some ⟨g6, 0, none⟩) (l.length + 1 + p + 1) k6]] trivial (lens rfl) ((hsV.block w6.heap.size h67 (by omega)).trans HG7.out) ⟨⟨rfl, hblk⟩, trivial⟩
              refine ⟨_, rfl, lit_prog ?_ (Good.keep (Keep.of_below' bV (fun x hx _ => hx)) (fun _ _ _ => trivial) H3.out), bV⟩
              exact rSlice_ownN (T := fun _ => True) (hsV.row (n := all.length + 1) (by simpa using Hown8.out) (fun k e => by simp [Value.ownBlock] at e; omega)) (fun _ _ => trivial)
                (ess := [.string ⟨#[109, 97, 105, 110]⟩, .int .i64 0, .int .i64 0, .int .i64 ((l.length : Int) + p + 2), .int .i64 0, .slice (some ⟨w6.heap.size, 0, none⟩) 1 1] :: essA)
                ⟨⟨rfl, lit_code (by decide) (ini rfl) (ini rfl) (ini_small (by omega) (by omega)) (ini rfl) hbs⟩, rAll_keep (Keep.of_below' bV (fun x hx _ => hx)) (fun _ _ _ => trivial) HrAll.out⟩
end Go.Proofs.Ytaomlfbcfmmhlaa

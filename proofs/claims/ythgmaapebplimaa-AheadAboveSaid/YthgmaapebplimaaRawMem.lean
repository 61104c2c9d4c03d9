/-
  posternkeep.Code's memory: the box of the code under way, its row of blocks.
-/
import Derived.Test.YthgmaapebplimaaRawBlk
namespace Go.Pst
open Go.RowKit
set_option linter.unusedVariables false
set_option linter.unusedSimpArgs false

def FitB (bl : List PInstr) : Prop := bl.length ≤ 61 ∧ ∀ i ∈ bl, FitInstr i
/-- The code under way in the box bc: blocks bs so far; all else is as it was in w0. -/
structure CAt (bc : Nat) (w0 : World) (vB : Value) (bs : List (List PInstr)) (w : World) : Prop where
  since : Since (fun k => k = bc) w0 w
  lt : bc < w0.heap.size
  c0 : w.cell? ⟨bc, 0, none⟩ = some (.string ⟨#[109, 97, 105, 110]⟩)
  c1 : w.cell? ⟨bc, 1, none⟩ = some (.int .i64 0)
  c2 : w.cell? ⟨bc, 2, none⟩ = some (.int .i64 0)
  c3 : w.cell? ⟨bc, 3, none⟩ = some (.int .i64 5)
  c4 : w.cell? ⟨bc, 4, none⟩ = some (.int .i64 0)
  c5 : w.cell? ⟨bc, 5, none⟩ = some vB
  z : ∀ j, w.frozen? ⟨bc, j, none⟩ = false
  row : ∃ vs, w.ownsRow w0.heap.size 55 1 vB bs.length vs ∧ rAll 1 rBlock (fun k => w0.heap.size ≤ k ∧ vB.ownBlock ≠ some k) w (vs.map fun v => [v]) bs
  fit : ∀ bl ∈ bs, FitB bl
theorem CAt.later {bc : Nat} {w0 w w' : World} {vB : Value} {bs : List (List PInstr)} (h : CAt bc w0 vB bs w) (hb : Below w.heap.size w w') : CAt bc w0 vB bs w' := by
  have hlt : bc < w.heap.size := Nat.lt_of_lt_of_le h.lt h.since.size
  have hc : ∀ o, w'.cell? ⟨bc, o, none⟩ = w.cell? ⟨bc, o, none⟩ := fun o => hb.cell (p := ⟨bc, o, none⟩) hlt
  obtain ⟨vs, h1, h2⟩ := h.row
  have hs : Since (fun _ => False) w w' := ⟨hb.os, hb.tape, hb.output, hb.size, fun k hk _ => hb.block k hk⟩
  exact ⟨h.since.trans (hs.mono fun _ f => f.elim), h.lt, (hc 0).trans h.c0, (hc 1).trans h.c1, (hc 2).trans h.c2, (hc 3).trans h.c3, (hc 4).trans h.c4, (hc 5).trans h.c5, fun j => (hs.frozen hlt id).trans (h.z j),
    ⟨vs, hs.row h1 (fun _ _ f => f), rAll_keep (Keep.of_below' hb (fun k hk _ => hk)) (fun _ _ h => h) h2⟩, h.fit⟩

/-- A block more: its slice v was laid by itself, appended to the row, and the row stored into the box. -/
theorem CAt.push {bc : Nat} {w0 w w2 : World} {vB vB' v : Value} {bs : List (List PInstr)} {bl : List PInstr} {vs : List Value} {t : TypeId} (h : CAt bc w0 vB bs w) (hall : rAll 1 rBlock (fun k => w0.heap.size ≤ k ∧ vB.ownBlock ≠ some k) w (vs.map fun v => [v]) bs)
    (hrow : w.ownsRow w0.heap.size 55 1 vB bs.length vs) (hbl : rBlock (fun k => w0.heap.size ≤ k ∧ vB.ownBlock ≠ some k) w [v] bl) (hfit : FitB bl)
    (hown : w2.ownsRow w0.heap.size 55 1 vB' (bs.length + 1) (vs ++ [v])) (hg : (w.alloc (.cells #[v] t)).grownBy w2 vB.ownBlock) (hat : vB'.ownBlock = vB.ownBlock ∨ vB'.ownBlock = some (w.heap.size + 1)) :
    CAt bc w0 vB' (bs ++ [bl]) (w2.setCell ⟨bc, 5, none⟩ vB') := by
  have hlt : bc < w.heap.size := Nat.lt_of_lt_of_le h.lt h.since.size
  have hne : vB.ownBlock ≠ some bc := fun e => by have := (hrow.lt bc e).1; have := h.lt; omega
  have hne' : vB'.ownBlock ≠ some bc := fun e => by have := (hown.lt bc e).1; have := h.lt; omega
  have s1 : Since (fun k => vB.ownBlock = some k) w w2 := ((Since.alloc _ _ _).trans (Since.grown hg))
  have s3 : Since (fun k => k = bc ∨ vB.ownBlock = some k) w (w2.setCell ⟨bc, 5, none⟩ vB') := (s1.mono fun k e => Or.inr e).trans ((Since.setCell w2 ⟨bc, 5, none⟩ vB').mono fun k e => Or.inl e)
  have hc : ∀ o, o ≠ 5 → (w2.setCell ⟨bc, 5, none⟩ vB').cell? ⟨bc, o, none⟩ = w.cell? ⟨bc, o, none⟩ := fun o ho =>
    (World.cell?_setCell_other _ _ _ _ (fun e => by injection e with _ e2 _; exact ho e2.symm)).trans (s1.cell hlt hne)
  have hk : Keep (fun k => w0.heap.size ≤ k ∧ vB.ownBlock ≠ some k) w (w2.setCell ⟨bc, 5, none⟩ vB') := ⟨s3.size, fun k hk hS => s3.block k hk (fun f => f.elim (fun e => by have := h.lt; omega) hS.2)⟩
  have hS : ∀ k, k < w.heap.size → (w0.heap.size ≤ k ∧ vB.ownBlock ≠ some k) → (w0.heap.size ≤ k ∧ vB'.ownBlock ≠ some k) := fun k hk h1 => ⟨h1.1, fun e => by
    rcases hat with e2 | e2
    · exact h1.2 (e2.symm.trans e)
    · rw [e2] at e; injection e with e; omega⟩
  refine ⟨?_, h.lt, (hc 0 (by decide)).trans h.c0, (hc 1 (by decide)).trans h.c1, (hc 2 (by decide)).trans h.c2, (hc 3 (by decide)).trans h.c3, (hc 4 (by decide)).trans h.c4, World.cell?_setCell_same _ _ _ ((s1.cell hlt hne).trans h.c5), fun j => by rw [World.frozen?_setCell, s1.frozen hlt hne]; exact h.z j, ⟨vs ++ [v], ?_, ?_⟩, ?_⟩
  · refine ⟨s3.os.trans h.since.os, s3.tape.trans h.since.tape, s3.output.trans h.since.output, Nat.le_trans h.since.size s3.size, fun k hk hn => ?_⟩
    exact (s3.block k (Nat.lt_of_lt_of_le hk h.since.size) (fun f => f.elim hn (fun e => by have := (hrow.lt k e).1; omega))).trans (h.since.block k hk hn)
  · rw [List.length_append, List.length_singleton]
    exact (Since.setCell w2 ⟨bc, 5, none⟩ vB').row hown (fun k e f => hne' (by rw [e]; exact congrArg some f))
  · rw [List.map_append, List.map_singleton]
    exact rAll_snoc rfl (Good.keep hk hS hbl) (rAll_keep hk hS hall)
  · intro b hb
    rcases List.mem_append.1 hb with h1 | h1
    · exact h.fit b h1
    · rw [List.mem_singleton.1 h1]; exact hfit

/-- Within a block: the code so far, and the slice v of the block's instructions l. -/
def OutM (n : Nat) (vB v : Value) (k : Nat) : Prop := k < n ∨ vB.ownBlock = some k ∨ v.ownBlock = some k
structure InAt (bc : Nat) (w0 : World) (vB : Value) (bs : List (List PInstr)) (v : Value) (l : List PInstr) (w : World) : Prop where
  code : CAt bc w0 vB bs w
  blk : Blk (OutM w0.heap.size vB v) w v l
  own : ∀ k, v.ownBlock = some k → w0.heap.size ≤ k ∧ vB.ownBlock ≠ some k
  fit : ∀ i ∈ l, FitInstr i
  rd : ∃ vs, w.ownsRow w0.heap.size 55 1 vB bs.length vs ∧ rAll 1 rBlock (fun k => ¬ OutM w0.heap.size vB v k) w (vs.map fun v => [v]) bs
theorem CAt.out {bc : Nat} {w0 w : World} {vB : Value} {bs : List (List PInstr)} (h : CAt bc w0 vB bs w) : InAt bc w0 vB bs (.slice none 0 0) [] w :=
  ⟨h, Blk.nil _ _, (fun k e => by simp [Value.ownBlock] at e), (fun i hi => absurd hi (by simp)), by
    obtain ⟨vs, h1, h2⟩ := h.row
    exact ⟨vs, h1, rAll_keep (Keep.refl _ _) (fun k hk hS m => by
      rcases m with m | m | m
      · have := hS.1; omega
      · exact hS.2 m
      · simp [Value.ownBlock] at m) h2⟩⟩
theorem InAt.later {bc : Nat} {w0 w w' : World} {vB v : Value} {bs : List (List PInstr)} {l : List PInstr} (h : InAt bc w0 vB bs v l w) (hb : Below w.heap.size w w') : InAt bc w0 vB bs v l w' :=
  ⟨h.code.later hb, h.blk.keep (F := fun _ => False) ⟨hb.os, hb.tape, hb.output, hb.size, fun k hk _ => hb.block k hk⟩ (fun _ f => f.elim) (fun _ _ f => f) (fun _ _ m => m), h.own, h.fit, by
    obtain ⟨vs, h1, h2⟩ := h.rd
    have hs : Since (fun _ => False) w w' := ⟨hb.os, hb.tape, hb.output, hb.size, fun k hk _ => hb.block k hk⟩
    exact ⟨vs, hs.row h1 (fun _ _ f => f), rAll_keep (Keep.of_below' hb (fun k hk _ => hk)) (fun _ _ h => h) h2⟩⟩
/-- One instruction more: laid by itself behind w1 (what it holds lies between w and w1), then appended. -/
theorem InAt.push {bc : Nat} {w0 w w1 w3 : World} {vB v v' : Value} {bs : List (List PInstr)} {l : List PInstr} {i : PInstr} {ess : List (List Value)} {es : List Value} {ob : Obj} (h : InAt bc w0 vB bs v l w)
    (hall : rAll 6 rInstr (fun k => ¬ OutM w0.heap.size vB v k) w ess l) (hb : Below w.heap.size w w1) (hl : es.length = 6) (hi : rInstr (fun k => w.heap.size ≤ k) w1 es i) (hfi : FitInstr i)
    (hown : w3.ownsRow 0 57 6 v' (l.length + 1) (ess.flatten ++ es)) (hg : (w1.alloc ob).grownBy w3 v.ownBlock) (hat : v'.ownBlock = v.ownBlock ∨ v'.ownBlock = some (w1.heap.size + 1)) :
    InAt bc w0 vB bs v' (l ++ [i]) w3 := by
  obtain ⟨vs, hrow, _⟩ := h.code.row
  have hbc : bc < w.heap.size := Nat.lt_of_lt_of_le h.code.lt h.code.since.size
  have hvB : ∀ k, vB.ownBlock = some k → k < w.heap.size := fun k e => (hrow.lt k e).2
  have hv : ∀ k, v.ownBlock = some k → k < w.heap.size := h.blk.lt
  have hsz := hb.size
  have s1 : Since (fun _ => False) w (w1.alloc ob) := (Since.mono (F := fun _ => False) ⟨hb.os, hb.tape, hb.output, hb.size, fun k hk _ => hb.block k hk⟩ fun _ f => f).trans (Since.alloc _ _ _)
  have hv0 : ∀ k, v'.ownBlock = some k → v.ownBlock = some k ∨ k = w1.heap.size + 1 := fun k e => by
    rcases hat with e2 | e2
    · exact Or.inl (e2.symm.trans e)
    · rw [e2] at e; injection e with e; exact Or.inr e.symm
  have hMM : ∀ k, k < w.heap.size → OutM w0.heap.size vB v' k → OutM w0.heap.size vB v k := fun k hk m => by
    rcases m with m | m | m
    · exact Or.inl m
    · exact Or.inr (Or.inl m)
    · rcases hv0 k m with e | e
      · exact Or.inr (Or.inr e)
      · omega
  have s3 : Since (fun k => v.ownBlock = some k) w w3 := (s1.mono fun _ f => f.elim).trans (Since.grown hg)
  have hbl : Blk (OutM w0.heap.size vB v') w3 v' (l ++ [i]) := by
    refine ⟨ess ++ [es], by rw [List.length_append, List.length_singleton, List.flatten_append]; simpa using hown, rAll_snoc hl ?_ ?_⟩
    · refine Good.keep (w := w1) ⟨Nat.le_trans (by simp) hg.size, fun k hk hS => ?_⟩ (fun k hk hS m => ?_) hi
      · exact (hg.block k (by simp; omega) (fun e => by have := hv k e.symm; omega)).trans (Below.heap_alloc _ _ _ hk)
      · rcases m with m | m | m
        · have := h.code.since.size; omega
        · have := hvB k m; omega
        · rcases hv0 k m with e | e
          · have := hv k e; omega
          · omega
    · exact rAll_keep ⟨s3.size, fun k hk hS => s3.block k hk (fun e => hS (Or.inr (Or.inr e)))⟩ (fun k hk hS m => hS (hMM k hk m)) hall
  have hrd : ∃ vs, w3.ownsRow w0.heap.size 55 1 vB bs.length vs ∧ rAll 1 rBlock (fun k => ¬ OutM w0.heap.size vB v' k) w3 (vs.map fun v => [v]) bs := by
    obtain ⟨vs, h1, h2⟩ := h.rd
    exact ⟨vs, s3.row h1 (fun k e e2 => (h.own k e2).2 e), rAll_keep ⟨s3.size, fun k hk hS => s3.block k hk (fun e => hS (Or.inr (Or.inr e)))⟩ (fun k hk hS m => hS (hMM k hk m)) h2⟩
  refine ⟨?_, hbl, fun k e => ?_, fun x hx => ?_, hrd⟩
  · -- the code is as it was: only v's block was written
    have hne : v.ownBlock ≠ some bc := fun e => by have := (h.own bc e).1; have := h.code.lt; omega
    have hc : ∀ o, w3.cell? ⟨bc, o, none⟩ = w.cell? ⟨bc, o, none⟩ := fun o => s3.cell hbc hne
    obtain ⟨vs, h1, h2⟩ := h.code.row
    refine ⟨?_, h.code.lt, (hc 0).trans h.code.c0, (hc 1).trans h.code.c1, (hc 2).trans h.code.c2, (hc 3).trans h.code.c3, (hc 4).trans h.code.c4, (hc 5).trans h.code.c5, fun j => (s3.frozen hbc hne).trans (h.code.z j), ?_, h.code.fit⟩
    · exact ⟨s3.os.trans h.code.since.os, s3.tape.trans h.code.since.tape, s3.output.trans h.code.since.output, Nat.le_trans h.code.since.size s3.size, fun k hk hn =>
        (s3.block k (Nat.lt_of_lt_of_le hk h.code.since.size) (fun e => by have := (h.own k e).1; omega)).trans (h.code.since.block k hk hn)⟩
    · obtain ⟨vs, h1, h2⟩ := hrd
      exact ⟨vs, h1, rAll_keep (Keep.refl _ _) (fun k hk hS => ⟨Nat.le_of_not_lt fun e => hS (Or.inl e), fun e => hS (Or.inr (Or.inl e))⟩) h2⟩
  · rcases hv0 k e with e2 | e2
    · exact h.own k e2
    · refine ⟨?_, fun e3 => ?_⟩
      · have := h.code.since.size; omega
      · have := hvB k e3; omega
  · rcases List.mem_append.1 hx with h1 | h1
    · exact h.fit x h1
    · rw [List.mem_singleton.1 h1]; exact hfi
theorem InAt.reads {bc : Nat} {w0 w : World} {vB v : Value} {bs : List (List PInstr)} {l : List PInstr} (h : InAt bc w0 vB bs v l w) : rBlock (fun k => w0.heap.size ≤ k ∧ vB.ownBlock ≠ some k) w [v] l :=
  h.blk.reads' (fun k e => ⟨(h.own k e).1, (h.own k e).2⟩) (fun k hk => ⟨Nat.le_of_not_lt fun e => hk (Or.inl e), fun e => hk (Or.inr (Or.inl e))⟩)
/-- A whole block: its slice is put behind the row of blocks, and the row stored. -/
theorem InAt.close {bc : Nat} {w0 w w2 : World} {vB vB' v : Value} {bs : List (List PInstr)} {l : List PInstr} {vs : List Value} {t : TypeId} (h : InAt bc w0 vB bs v l w) (hlen : l.length ≤ 61)
    (hrow : w.ownsRow w0.heap.size 55 1 vB bs.length vs) (hall : rAll 1 rBlock (fun k => ¬ OutM w0.heap.size vB v k) w (vs.map fun v => [v]) bs)
    (hown : w2.ownsRow w0.heap.size 55 1 vB' (bs.length + 1) (vs ++ [v])) (hg : (w.alloc (.cells #[v] t)).grownBy w2 vB.ownBlock) (hat : vB'.ownBlock = vB.ownBlock ∨ vB'.ownBlock = some (w.heap.size + 1)) :
    CAt bc w0 vB' (bs ++ [l]) (w2.setCell ⟨bc, 5, none⟩ vB') :=
  h.code.push (rAll_keep (Keep.refl _ _) (fun k hk hS => ⟨Nat.le_of_not_lt fun e => hS (Or.inl e), fun e => hS (Or.inr (Or.inl e))⟩) hall) hrow h.reads ⟨hlen, h.fit⟩ hown hg hat
/-- What the box holds reads as a code, and it fits. -/
theorem CAt.reads {bc : Nat} {w0 w : World} {vB : Value} {bs : List (List PInstr)} (h : CAt bc w0 vB bs w) : rCode (fun k => w0.heap.size ≤ k) w [.string ⟨#[109, 97, 105, 110]⟩, .int .i64 0, .int .i64 0, .int .i64 5, .int .i64 0, vB] ⟨⟨#[109, 97, 105, 110]⟩, 0, 0, 5, 0, bs⟩ := by
  obtain ⟨vs, h1, h2⟩ := h.row
  have hf : ∀ vs : List Value, (vs.map fun v => [v]).flatten = vs := fun vs => by induction vs with
    | nil => rfl
    | cons v r ih => simp [ih]
  refine lit_code (by decide) (ini rfl) (ini rfl) (ini rfl) (ini rfl) ?_
  exact rSlice_ownN (T := fun k => w0.heap.size ≤ k) (ess := vs.map fun v => [v]) (by rw [hf]; exact h1) (fun k e => (h1.lt k e).1) (rAll_keep (Keep.refl _ _) (fun k _ h => h.1) h2)
theorem CAt.fits {bc : Nat} {w0 w : World} {vB : Value} {bs : List (List PInstr)} (h : CAt bc w0 vB bs w) (hlen : bs.length ≤ 7) : FitCode ⟨⟨#[109, 97, 105, 110]⟩, 0, 0, 5, 0, bs⟩ := by
  refine ⟨?_, fun b hb => ⟨?_, (h.fit b hb).2⟩⟩
  · show bs.length * 24 ≤ reachBytes
    exact Nat.le_trans (Nat.mul_le_mul_right 24 hlen) (by decide)
  · exact Nat.le_trans (Nat.mul_le_mul_right 104 (h.fit b hb).1) (by decide)
end Go.Pst

/-
  The plain data of package api (instructions, code, programs) and how they read in memory.
-/
import Derived.Test.YthgfdcoicihpdaaDoorMem
namespace Go.Pst
open Go.RowKit

structure PInstr where
  op : Int
  ds : List Int
  ars : List Int
  n : Int
  s : ByteArray
  to : List Int
instance : Inhabited PInstr := ⟨⟨0, [], [], 0, ByteArray.empty, []⟩⟩

structure PCode where
  name : ByteArray
  params : Int
  results : Int
  vars : Int
  slots : Int
  blocks : List (List PInstr)
instance : Inhabited PCode := ⟨⟨ByteArray.empty, 0, 0, 0, 0, []⟩⟩

def rInstr : Rep PInstr := fun S w cs x => ∃ v1 v2 v5, cs = [.int .i64 x.op, v1, v2, .int .i64 x.n, .string x.s, v5] ∧
  (InI x.op ∧ InI x.n ∧ x.s.size ≤ maxLen) ∧ rInts S w [v1] x.ds ∧ rInts S w [v2] x.ars ∧ rInts S w [v5] x.to
instance : Good rInstr := ⟨by
  rintro S S' w w' cs x hk hs ⟨v1, v2, v5, h1, h2, h3, h4, h5⟩
  exact ⟨v1, v2, v5, h1, h2, Good.keep hk hs h3, Good.keep hk hs h4, Good.keep hk hs h5⟩⟩

abbrev rBlock : Rep (List PInstr) := rSlice 6 rInstr
abbrev rBlocks : Rep (List (List PInstr)) := rSlice 1 rBlock

def rCode : Rep PCode := fun S w cs x => ∃ v5, cs = [.string x.name, .int .i64 x.params, .int .i64 x.results, .int .i64 x.vars, .int .i64 x.slots, v5] ∧
  (x.name.size ≤ maxLen ∧ InI x.params ∧ InI x.results ∧ InI x.vars ∧ InI x.slots) ∧ rBlocks S w [v5] x.blocks
instance : Good rCode := ⟨by
  rintro S S' w w' cs x hk hs ⟨v5, h1, h2, h3⟩
  exact ⟨v5, h1, h2, Good.keep hk hs h3⟩⟩

/-- A block of instructions, as a walk wants it. -/
theorem rBlock_val {S : Nat → Prop} {w : World} {v : Value} {l : List PInstr} (h : rBlock S w [v] l) :
    ∃ a cap, v = .slice a l.length cap ∧ l.length ≤ cap ∧ cap ≤ maxLen ∧
    ∀ i (h : i < l.length), ∃ b off v1 v2 v5, a = some ⟨b, off, none⟩ ∧ S b ∧ b < w.heap.size ∧
      w.cell? ⟨b, off + i * 6, none⟩ = some (.int .i64 l[i].op) ∧ w.cell? ⟨b, off + i * 6 + 1, none⟩ = some v1 ∧ w.cell? ⟨b, off + i * 6 + 2, none⟩ = some v2 ∧
      w.cell? ⟨b, off + i * 6 + 3, none⟩ = some (.int .i64 l[i].n) ∧ w.cell? ⟨b, off + i * 6 + 4, none⟩ = some (.string l[i].s) ∧ w.cell? ⟨b, off + i * 6 + 5, none⟩ = some v5 ∧
      (InI l[i].op ∧ InI l[i].n ∧ l[i].s.size ≤ maxLen) ∧ rInts S w [v1] l[i].ds ∧ rInts S w [v2] l[i].ars ∧ rInts S w [v5] l[i].to := by
  obtain ⟨a, cap, h1, h2, h3, h4⟩ := rSlice_val h
  refine ⟨a, cap, h1, h2, h3, fun i hi => ?_⟩
  obtain ⟨b, off, es, ha, hS, hb, hl, hc, v1, v2, v5, rfl, hI, r1, r2, r5⟩ := h4 i hi
  exact ⟨b, off, v1, v2, v5, ha, hS, hb, hc 0 (by decide), hc 1 (by decide), hc 2 (by decide), hc 3 (by decide), hc 4 (by decide), hc 5 (by decide), hI, r1, r2, r5⟩

section
variable {H : Type} {enc : TypeId × Value → H} {P : Program} {w : World}

def FitInstr (x : PInstr) : Prop := x.ds.length * 8 ≤ reachBytes ∧ x.ars.length * 8 ≤ reachBytes ∧ x.to.length * 8 ≤ reachBytes
def FitCode (x : PCode) : Prop := x.blocks.length * 24 ≤ reachBytes ∧ ∀ b ∈ x.blocks, b.length * 104 ≤ reachBytes ∧ ∀ i ∈ b, FitInstr i

theorem weights_part {ts : List TypeId} {ds : List (DataW H)} {j : Nat} {t : TypeId} {d : DataW H} (ht : ts[j]? = some t) (hd : ds[j]? = some d) {m : Nat} (h : ∀ n ∈ DataW.weightsEach P ts ds, n ≤ m) :
    ∀ n ∈ d.weights P t, n ≤ m := fun n hn => h n (DataW.weights_mem_each ht hd n hn)

theorem list6 {α : Type} {l : List α} (h : l.length = 6) : ∃ a b c d e f, l = [a, b, c, d, e, f] := by
  match l, h with
  | [a, b, c, d, e, f], _ => exact ⟨a, b, c, d, e, f, rfl⟩

theorem opens_instr {t tint tstr tints : TypeId} (ht : P.underlying t = some (.struct #[⟨"Op", tint, 0, false, "", "", 0⟩, ⟨"Ds", tints, 1, false, "", "", 8⟩, ⟨"As", tints, 2, false, "", "", 32⟩, ⟨"N", tint, 3, false, "", "", 56⟩, ⟨"S", tstr, 4, false, "", "", 64⟩, ⟨"To", tints, 5, false, "", "", 80⟩]))
    (ht6 : P.cellsOf t = 6) (c1 : P.cellsOf tint = 1) (c2 : P.cellsOf tints = 1) (c3 : P.cellsOf tstr = 1)
    (hint : P.underlying tint = some (.int .i64)) (hstr : P.underlying tstr = some .string) (hints : P.underlying tints = some (.slice tint)) (hb : P.bytesOf tint = 8) : Opens enc P w t rInstr FitInstr := by
  intro fuel cs x h hw
  obtain ⟨xs, n, _, rfl, hcl, hxl, hf⟩ := DataW.trod_struct ht h
  rw [ht6] at hcl
  obtain ⟨a0, a1, a2, a3, a4, a5, rfl⟩ := list6 hcl
  obtain ⟨x0, x1, x2, x3, x4, x5, rfl⟩ := list6 (l := xs) (by simpa using hxl)
  have f0 := hf 0 _ rfl
  have f1 := hf 1 _ rfl
  have f2 := hf 2 _ rfl
  have f3 := hf 3 _ rfl
  have f4 := hf 4 _ rfl
  have f5 := hf 5 _ rfl
  simp [c1, c2, c3] at f0 f1 f2 f3 f4 f5
  have hw' : ∀ n ∈ DataW.weightsEach P [tint, tints, tints, tint, tstr, tints] [x0.1, x1.1, x2.1, x3.1, x4.1, x5.1], n ≤ reachBytes := by
    intro n hn
    refine hw n ?_
    simpa [DataW.weights, ht] using hn
  obtain ⟨y0, h0, _⟩ := opens_int (enc := enc) (w := w) hint _ _ _ f0 (weights_part (j := 0) rfl rfl hw')
  obtain ⟨y1, h1, b1, _⟩ := opens_slice (enc := enc) (w := w) hints c1 hb (by decide) (opens_int hint) _ _ _ f1 (weights_part (j := 1) rfl rfl hw')
  obtain ⟨y2, h2, b2, _⟩ := opens_slice (enc := enc) (w := w) hints c1 hb (by decide) (opens_int hint) _ _ _ f2 (weights_part (j := 2) rfl rfl hw')
  obtain ⟨y3, h3, _⟩ := opens_int (enc := enc) (w := w) hint _ _ _ f3 (weights_part (j := 3) rfl rfl hw')
  obtain ⟨y4, h4, _⟩ := opens_str (enc := enc) (w := w) hstr _ _ _ f4 (weights_part (j := 4) rfl rfl hw')
  obtain ⟨y5, h5, b5, _⟩ := opens_slice (enc := enc) (w := w) hints c1 hb (by decide) (opens_int hint) _ _ _ f5 (weights_part (j := 5) rfl rfl hw')
  obtain ⟨e0, i0⟩ := h0
  obtain ⟨e3, i3⟩ := h3
  obtain ⟨e4, i4⟩ := h4
  simp only [List.cons.injEq, and_true] at e0 e3 e4
  subst e0 e3 e4
  exact ⟨⟨y0, y1, y2, y3, y4, y5⟩, ⟨a1, a2, a5, rfl, ⟨i0, i3, i4⟩, h1, h2, h5⟩, b1, b2, b5⟩

theorem opens_code {t tint tstr tbs tb ti : TypeId} (ht : P.underlying t = some (.struct #[⟨"Name", tstr, 0, false, "", "", 0⟩, ⟨"Params", tint, 1, false, "", "", 16⟩, ⟨"Results", tint, 2, false, "", "", 24⟩, ⟨"Vars", tint, 3, false, "", "", 32⟩, ⟨"Slots", tint, 4, false, "", "", 40⟩, ⟨"Blocks", tbs, 5, false, "", "", 48⟩]))
    (ht6 : P.cellsOf t = 6) (c1 : P.cellsOf tint = 1) (c3 : P.cellsOf tstr = 1) (c4 : P.cellsOf tbs = 1) (c5 : P.cellsOf tb = 1) (b5 : P.bytesOf tb = 24) (c6 : P.cellsOf ti = 6) (b6 : P.bytesOf ti = 104)
    (hint : P.underlying tint = some (.int .i64)) (hstr : P.underlying tstr = some .string) (hbs : P.underlying tbs = some (.slice tb)) (hb : P.underlying tb = some (.slice ti))
    (hi : Opens enc P w ti rInstr FitInstr) : Opens enc P w t rCode FitCode := by
  intro fuel cs x h hw
  obtain ⟨xs, n, _, rfl, hcl, hxl, hf⟩ := DataW.trod_struct ht h
  rw [ht6] at hcl
  obtain ⟨a0, a1, a2, a3, a4, a5, rfl⟩ := list6 hcl
  obtain ⟨x0, x1, x2, x3, x4, x5, rfl⟩ := list6 (l := xs) (by simpa using hxl)
  have f0 := hf 0 _ rfl
  have f1 := hf 1 _ rfl
  have f2 := hf 2 _ rfl
  have f3 := hf 3 _ rfl
  have f4 := hf 4 _ rfl
  have f5 := hf 5 _ rfl
  simp [c1, c3, c4] at f0 f1 f2 f3 f4 f5
  have hw' : ∀ n ∈ DataW.weightsEach P [tstr, tint, tint, tint, tint, tbs] [x0.1, x1.1, x2.1, x3.1, x4.1, x5.1], n ≤ reachBytes := by
    intro n hn
    refine hw n ?_
    simpa [DataW.weights, ht] using hn
  obtain ⟨y0, h0, _⟩ := opens_str (enc := enc) (w := w) hstr _ _ _ f0 (weights_part (j := 0) rfl rfl hw')
  obtain ⟨y1, h1, _⟩ := opens_int (enc := enc) (w := w) hint _ _ _ f1 (weights_part (j := 1) rfl rfl hw')
  obtain ⟨y2, h2, _⟩ := opens_int (enc := enc) (w := w) hint _ _ _ f2 (weights_part (j := 2) rfl rfl hw')
  obtain ⟨y3, h3, _⟩ := opens_int (enc := enc) (w := w) hint _ _ _ f3 (weights_part (j := 3) rfl rfl hw')
  obtain ⟨y4, h4, _⟩ := opens_int (enc := enc) (w := w) hint _ _ _ f4 (weights_part (j := 4) rfl rfl hw')
  obtain ⟨y5, h5, hb5⟩ := opens_slice (enc := enc) (w := w) hbs c5 b5 (by decide) (opens_slice hb c6 b6 (by decide) hi) _ _ _ f5 (weights_part (j := 5) rfl rfl hw')
  obtain ⟨e0, i0⟩ := h0
  obtain ⟨e1, i1⟩ := h1
  obtain ⟨e2, i2⟩ := h2
  obtain ⟨e3, i3⟩ := h3
  obtain ⟨e4, i4⟩ := h4
  simp only [List.cons.injEq, and_true] at e0 e1 e2 e3 e4
  subst e0 e1 e2 e3 e4
  exact ⟨⟨y0, y1, y2, y3, y4, y5⟩, ⟨a5, rfl, ⟨i0, i1, i2, i3, i4⟩, h5⟩, hb5⟩
end

/-- An owned row from a smaller block number on. -/
theorem ownsRow_from {w : World} {base base' : Nat} {e : TypeId} {size : Nat} {v : Value} {n : Nat} {xs : List Value} (h : w.ownsRow base e size v n xs) (hb : base' ≤ base) : w.ownsRow base' e size v n xs := by
  obtain ⟨h1, h2⟩ := h
  refine ⟨h1, ?_⟩
  rcases h2 with h2 | ⟨g, cap, cur, hv, hg, r⟩
  · exact Or.inl h2
  · exact Or.inr ⟨g, cap, cur, hv, Nat.le_trans hb hg, r⟩
/-- The world but for draws. -/
def Drawn (w w' : World) : Prop := ∃ n, w' = w.drewN n
theorem Drawn.refl (w : World) : Drawn w w := ⟨0, rfl⟩
theorem Drawn.drew (w : World) : Drawn w w.drew := ⟨1, rfl⟩
theorem Drawn.heap {w w' : World} (h : Drawn w w') : w'.heap = w.heap := by obtain ⟨n, rfl⟩ := h; rfl
theorem Drawn.more {w w' : World} (h : Drawn w w') (n : Nat) : Drawn w (w'.drewN n) := by obtain ⟨m, rfl⟩ := h; exact ⟨m + n, by rw [World.drewN_drewN]⟩
theorem Drawn.trans {w w' w'' : World} (h : Drawn w w') (h' : Drawn w' w'') : Drawn w w'' := by obtain ⟨m, rfl⟩ := h'; exact h.more m
theorem Drawn.cell {w w' : World} (h : Drawn w w') (a : Addr) : w'.cell? a = w.cell? a := by obtain ⟨n, rfl⟩ := h; rfl
theorem Drawn.below {w w' : World} (h : Drawn w w') (B : Nat) : Below B w w' := by obtain ⟨n, rfl⟩ := h; exact ⟨rfl, rfl, rfl, Nat.le_refl _, fun _ _ => rfl⟩

/-- A walk's own words on a slice of ints. -/
def IntsAt (w : World) (a : Option Addr) (l : List Int) : Prop :=
  ∀ i (h : i < l.length), ∃ b off, a = some ⟨b, off, none⟩ ∧ b < w.heap.size ∧ w.cell? ⟨b, off + i, none⟩ = some (.int .i64 l[i])
theorem IntsAt.below {w w' : World} {a : Option Addr} {l : List Int} (h : IntsAt w a l) (hb : Below w.heap.size w w') : IntsAt w' a l := by
  intro i hi
  obtain ⟨b, off, h1, h2, h3⟩ := h i hi
  exact ⟨b, off, h1, Nat.lt_of_lt_of_le h2 hb.size, by rw [hb.cell (p := ⟨b, off + i, none⟩) h2]; exact h3⟩
theorem IntsAt.heap {w w' : World} {a : Option Addr} {l : List Int} (h : IntsAt w a l) (e : w'.heap = w.heap) : IntsAt w' a l := by
  intro i hi
  obtain ⟨b, off, h1, h2, h3⟩ := h i hi
  exact ⟨b, off, h1, by rw [e]; exact h2, by rw [← h3]; simp [World.cell?, e]⟩
theorem rInts_open {S : Nat → Prop} {w : World} {v : Value} {l : List Int} (h : rInts S w [v] l) :
    ∃ a cap, v = .slice a l.length cap ∧ l.length ≤ 9223372036854775807 ∧ IntsAt w a l ∧ ∀ x ∈ l, InI x := by
  obtain ⟨a, cap, h1, h2, h3, h4⟩ := rInts_val h
  refine ⟨a, cap, h1, by unfold maxLen at h3; omega, fun i hi => ?_, fun x hx => ?_⟩
  · obtain ⟨b, off, e1, _, e2, e3, _⟩ := h4 i hi
    exact ⟨b, off, e1, e2, e3⟩
  · obtain ⟨i, hi, rfl⟩ := List.mem_iff_getElem.1 hx
    obtain ⟨b, off, e1, _, e2, e3, e4⟩ := h4 i hi
    exact e4

/-- A walk's own words on a slice of slices of ints. -/
def IntssAt (w : World) (a : Option Addr) (l : List (List Int)) : Prop :=
  ∀ i (h : i < l.length), ∃ b off a' cap', a = some ⟨b, off, none⟩ ∧ b < w.heap.size ∧ w.cell? ⟨b, off + i, none⟩ = some (.slice a' l[i].length cap') ∧ l[i].length ≤ 9223372036854775807 ∧ IntsAt w a' l[i]
theorem IntssAt.below {w w' : World} {a : Option Addr} {l : List (List Int)} (h : IntssAt w a l) (hb : Below w.heap.size w w') : IntssAt w' a l := by
  intro i hi
  obtain ⟨b, off, a', cap', h1, h2, h3, h4, h5⟩ := h i hi
  exact ⟨b, off, a', cap', h1, Nat.lt_of_lt_of_le h2 hb.size, by rw [hb.cell (p := ⟨b, off + i, none⟩) h2]; exact h3, h4, h5.below hb⟩
theorem rIntss_open {S : Nat → Prop} {w : World} {v : Value} {l : List (List Int)} (h : rIntss S w [v] l) :
    ∃ a cap, v = .slice a l.length cap ∧ l.length ≤ 9223372036854775807 ∧ IntssAt w a l := by
  obtain ⟨a, cap, h1, h2, h3, h4⟩ := rSlice_one h
  refine ⟨a, cap, h1, by unfold maxLen at h3; omega, fun i hi => ?_⟩
  obtain ⟨b, off, u, e1, _, e2, e3, e4⟩ := h4 i hi
  obtain ⟨a', cap', f1, f2, f3, _⟩ := rInts_open e4
  subst f1
  exact ⟨b, off, a', cap', e1, e2, e3, f2, f3⟩

/-- The box of a parameter: its cells, and what lay ahead of it. -/
theorem box_cell {w wr : World} {C : Array Value} {t : TypeId} (h : Below (w.heap.size + 1) (w.alloc (.cells C t)) wr) (j : Nat) : wr.cell? ⟨w.heap.size, j, none⟩ = C[j]? := by
  rw [h.cell (p := ⟨w.heap.size, j, none⟩) (by simp), World.cell?_alloc_new]
theorem box_below {w wr : World} {C : Array Value} {t : TypeId} (h : Below (w.heap.size + 1) (w.alloc (.cells C t)) wr) : Below w.heap.size w wr :=
  ((Below.refl _ _).alloc (Nat.le_refl _) _).trans (h.mono (by omega))

/-- Behind an append to an owned row (behind the box of what is appended): below the row's base nothing has turned. -/
theorem append_below {wr w1 : World} {o : Obj} {u : Value} {B : Nat} {e : TypeId} {sz n : Nat} {xs : List Value} (hown : wr.ownsRow B e sz u n xs) (hg : (wr.alloc o).grownBy w1 u.ownBlock) (hB : B ≤ wr.heap.size) : Below B wr w1 :=
  ((Below.refl B wr).alloc hB o).grown hg (by simp; omega) (fun k hk => ((hown.alloc o).lt k hk).1)
theorem append_below0 {wr w1 : World} {u : Value} {B : Nat} {e : TypeId} {sz n : Nat} {xs : List Value} (hown : wr.ownsRow B e sz u n xs) (hg : wr.grownBy w1 u.ownBlock) (hB : B ≤ wr.heap.size) : Below B wr w1 :=
  (Below.refl B wr).grown hg hB (fun k hk => (hown.lt k hk).1)
end Go.Pst

/-
  Texts joined: Mem Data Sep MemCodes Fault Maths.
-/
import Derived.WalkKit
import Derived.WalkSpells
import Derived.WalkLawsBesides
import Derived.BigQuiet
import Derived.Deep.QuietTactic
import Derived.Deep.LoopGhost
import Derived.Deep.Slices
import Derived.Deep.DeepMust
import Derived.Deep.DeepFit
import Derived.SizedLaws
import Derived.Lib.Hide
import Derived.Maps.AppendAt
import Derived.WalkSmall
import Derived.Lib.SlicesS
import Derived.Test.YtaomlfbcfmmhlaaDoorRows

/-
  Plain laws on memory, for any program: how a list, a struct, a string of Go reads in memory as plain data ('Rep'), that such readings stay while their blocks stay ('Keep'), and how the readings of the given statements ('DataW.trod') give them. Nothing is proved here of the program.
-/
namespace Go.Pst
open Go.RowKit

/-- A reading of cells as plain data: of the blocks that S allows alone. -/
abbrev Rep (α : Type) := (Nat → Prop) → World → List Value → α → Prop

/-- w' holds what w holds in the blocks of S. -/
structure Keep (S : Nat → Prop) (w w' : World) : Prop where
  size : w.heap.size ≤ w'.heap.size
  block : ∀ k, k < w.heap.size → S k → w'.heap[k]? = w.heap[k]?

theorem Keep.refl (S : Nat → Prop) (w : World) : Keep S w w := ⟨Nat.le_refl _, fun _ _ _ => rfl⟩
theorem Keep.trans {S : Nat → Prop} {a b c : World} (h : Keep S a b) (k : Keep S b c) : Keep S a c :=
  ⟨Nat.le_trans h.size k.size, fun i hi hs => (k.block i (Nat.lt_of_lt_of_le hi h.size) hs).trans (h.block i hi hs)⟩
theorem Keep.weaken {S S' : Nat → Prop} {w w' : World} (h : Keep S' w w') (hs : ∀ k, k < w.heap.size → S k → S' k) : Keep S w w' :=
  ⟨h.size, fun k hk hS => h.block k hk (hs k hk hS)⟩
theorem Keep.of_below {B : Nat} {w w' : World} (h : Below B w w') : Keep (· < B) w w' := ⟨h.size, fun k _ hk => h.block k hk⟩
theorem Keep.of_below' {S : Nat → Prop} {B : Nat} {w w' : World} (h : Below B w w') (hs : ∀ k, k < w.heap.size → S k → k < B) : Keep S w w' := (Keep.of_below h).weaken hs
theorem Keep.of_grown {S : Nat → Prop} {row : Option Nat} {w w' : World} (h : w.grownBy w' row) (hs : ∀ k, S k → some k ≠ row) : Keep S w w' :=
  ⟨h.size, fun k hk hS => h.block k hk (hs k hS)⟩
theorem Keep.alloc (S : Nat → Prop) (w : World) (o : Obj) : Keep S w (w.alloc o) := ⟨by simp, fun k hk _ => Below.heap_alloc _ _ _ hk⟩
theorem Keep.drew (S : Nat → Prop) (w : World) : Keep S w w.drew := ⟨Nat.le_refl _, fun _ _ _ => rfl⟩
theorem Keep.setCell {S : Nat → Prop} (w : World) (p : Addr) (u : Value) (hs : ¬ S p.block) : Keep S w (w.setCell p u) :=
  ⟨by simp [World.setCell], fun k _ hk => Below.heap_setCell _ _ _ _ (fun e => hs (e ▸ hk))⟩
theorem Keep.cell {S : Nat → Prop} {w w' : World} (h : Keep S w w') {b o : Nat} (hb : b < w.heap.size) (hs : S b) : w'.cell? ⟨b, o, none⟩ = w.cell? ⟨b, o, none⟩ :=
  World.cell?_of_block (w := w) (a := ⟨b, o, none⟩) (h.block b hb hs)

/-- A reading that stays while its blocks stay, and where more blocks are allowed. -/
class Good {α : Type} (R : Rep α) : Prop where
  keep : ∀ {S S' : Nat → Prop} {w w' : World} {cs : List Value} {x : α}, Keep S w w' → (∀ k, k < w.heap.size → S k → S' k) → R S w cs x → R S' w' cs x

theorem Good.kept {α : Type} {R : Rep α} [g : Good R] {S : Nat → Prop} {w w' : World} {cs : List Value} {x : α} (h : Keep S w w') (hR : R S w cs x) : R S w' cs x :=
  g.keep h (fun _ _ h => h) hR
theorem Good.wide {α : Type} {R : Rep α} [g : Good R] {S S' : Nat → Prop} {w : World} {cs : List Value} {x : α} (hR : R S w cs x) (h : ∀ k, k < w.heap.size → S k → S' k) : R S' w cs x :=
  g.keep (Keep.refl S w) h hR

/-! ### Plain values -/
def InI (n : Int) : Prop := -9223372036854775808 ≤ n ∧ n ≤ 9223372036854775807
def rInt : Rep Int := fun _ _ cs n => cs = [.int .i64 n] ∧ InI n
def rBool : Rep Bool := fun _ _ cs b => cs = [.bool b]
def rStr : Rep ByteArray := fun _ _ cs s => cs = [.string s] ∧ s.size ≤ maxLen
instance : Good rInt := ⟨fun _ _ h => h⟩
instance : Good rBool := ⟨fun _ _ h => h⟩
instance : Good rStr := ⟨fun _ _ h => h⟩

/-! ### A slice of elements of sz cells -/
def rSlice {α : Type} (sz : Nat) (R : Rep α) : Rep (List α) := fun S w cs l =>
  ∃ a cap, cs = [.slice a l.length cap] ∧ l.length ≤ cap ∧ cap ≤ maxLen ∧
    ∀ i (h : i < l.length), ∃ b off es, a = some ⟨b, off, none⟩ ∧ S b ∧ b < w.heap.size ∧ es.length = sz ∧
      (∀ j, j < sz → w.cell? ⟨b, off + i * sz + j, none⟩ = es[j]?) ∧ R S w es l[i]

instance {α : Type} (sz : Nat) (R : Rep α) [g : Good R] : Good (rSlice sz R) := ⟨by
  intro S S' w w' cs l hk hs ⟨a, cap, h1, h2, h3, h4⟩
  refine ⟨a, cap, h1, h2, h3, fun i hi => ?_⟩
  obtain ⟨b, off, es, ha, hS, hb, hl, hc, hR⟩ := h4 i hi
  refine ⟨b, off, es, ha, hs b hb hS, Nat.lt_of_lt_of_le hb hk.size, hl, fun j hj => ?_, g.keep hk hs hR⟩
  rw [hk.cell hb hS]
  exact hc j hj⟩

theorem rSlice_nil {α : Type} (sz : Nat) (R : Rep α) (S : Nat → Prop) (w : World) : rSlice sz R S w [.slice none 0 0] ([] : List α) :=
  ⟨none, 0, rfl, Nat.le_refl _, by decide, fun i h => absurd h (by simp)⟩

/-- The value of a slice that reads as a list. -/
theorem rSlice_val {α : Type} {sz : Nat} {R : Rep α} {S : Nat → Prop} {w : World} {v : Value} {l : List α} (h : rSlice sz R S w [v] l) :
    ∃ a cap, v = .slice a l.length cap ∧ l.length ≤ cap ∧ cap ≤ maxLen ∧
    ∀ i (h : i < l.length), ∃ b off es, a = some ⟨b, off, none⟩ ∧ S b ∧ b < w.heap.size ∧ es.length = sz ∧
      (∀ j, j < sz → w.cell? ⟨b, off + i * sz + j, none⟩ = es[j]?) ∧ R S w es l[i] := by
  obtain ⟨a, cap, h1, h2⟩ := h
  exact ⟨a, cap, by simpa using h1, h2⟩

theorem rSlice_shape {α : Type} {sz : Nat} {R : Rep α} {S : Nat → Prop} {w : World} {v : Value} {l : List α} (h : rSlice sz R S w [v] l) : ∃ a cap, v = .slice a l.length cap := by
  obtain ⟨a, cap, h1, _⟩ := rSlice_val h
  exact ⟨a, cap, h1⟩
/-- A slice whose elements are one cell. -/
theorem rSlice_one {α : Type} {R : Rep α} {S : Nat → Prop} {w : World} {v : Value} {l : List α} (h : rSlice 1 R S w [v] l) :
    ∃ a cap, v = .slice a l.length cap ∧ l.length ≤ cap ∧ cap ≤ maxLen ∧
    ∀ i (h : i < l.length), ∃ b off u, a = some ⟨b, off, none⟩ ∧ S b ∧ b < w.heap.size ∧ w.cell? ⟨b, off + i, none⟩ = some u ∧ R S w [u] l[i] := by
  obtain ⟨a, cap, h1, h2, h3, h4⟩ := rSlice_val h
  refine ⟨a, cap, h1, h2, h3, fun i hi => ?_⟩
  obtain ⟨b, off, es, ha, hS, hb, hl, hc, hR⟩ := h4 i hi
  match es, hl with
  | [u], _ => exact ⟨b, off, u, ha, hS, hb, by simpa using hc 0 (by decide), hR⟩

abbrev rInts : Rep (List Int) := rSlice 1 rInt
abbrev rBools : Rep (List Bool) := rSlice 1 rBool
abbrev rIntss : Rep (List (List Int)) := rSlice 1 rInts

/-- A slice of ints, as a walk wants it. -/
theorem rInts_val {S : Nat → Prop} {w : World} {v : Value} {l : List Int} (h : rInts S w [v] l) :
    ∃ a cap, v = .slice a l.length cap ∧ l.length ≤ cap ∧ cap ≤ maxLen ∧
    ∀ i (h : i < l.length), ∃ b off, a = some ⟨b, off, none⟩ ∧ S b ∧ b < w.heap.size ∧ w.cell? ⟨b, off + i, none⟩ = some (.int .i64 l[i]) ∧ InI l[i] := by
  obtain ⟨a, cap, h1, h2, h3, h4⟩ := rSlice_one h
  refine ⟨a, cap, h1, h2, h3, fun i hi => ?_⟩
  obtain ⟨b, off, u, ha, hS, hb, hc, hR⟩ := h4 i hi
  obtain ⟨hu, hI⟩ := hR
  obtain rfl : u = .int .i64 l[i] := by simpa using hu
  exact ⟨b, off, ha, hS, hb, hc, hI⟩

theorem rBools_val {S : Nat → Prop} {w : World} {v : Value} {l : List Bool} (h : rBools S w [v] l) :
    ∃ a cap, v = .slice a l.length cap ∧ l.length ≤ cap ∧ cap ≤ maxLen ∧
    ∀ i (h : i < l.length), ∃ b off, a = some ⟨b, off, none⟩ ∧ S b ∧ b < w.heap.size ∧ w.cell? ⟨b, off + i, none⟩ = some (.bool l[i]) := by
  obtain ⟨a, cap, h1, h2, h3, h4⟩ := rSlice_one h
  refine ⟨a, cap, h1, h2, h3, fun i hi => ?_⟩
  obtain ⟨b, off, u, ha, hS, hb, hc, hR⟩ := h4 i hi
  obtain rfl : u = .bool l[i] := by simpa [rBool] using hR
  exact ⟨b, off, ha, hS, hb, hc⟩

/-! ### Rows that the call itself made -/
/-- An owned row of one-cell elements reads as a list. -/
theorem rSlice_own {α : Type} {R : Rep α} {S : Nat → Prop} {w : World} {base : Nat} {e : TypeId} {v : Value} {l : List α} {xs : List Value}
    (h : w.ownsRow base e 1 v l.length xs) (hS : ∀ k, v.ownBlock = some k → S k) (hR : ∀ i (hi : i < l.length), ∃ u, xs[i]? = some u ∧ R S w [u] l[i]) : rSlice 1 R S w [v] l := by
  obtain ⟨hx, h⟩ := h
  rcases h with ⟨rfl, h0⟩ | ⟨g, cap, cur, rfl, hb, hg, hn, hm, hc, ht⟩
  · have : l = [] := List.eq_nil_of_length_eq_zero h0
    subst this
    exact rSlice_nil _ _ _ _
  · refine ⟨_, cap, rfl, hn, hm, fun i hi => ?_⟩
    obtain ⟨u, hu, hRu⟩ := hR i hi
    refine ⟨g, 0, [u], rfl, hS g (by simp [Value.ownBlock]), (Array.getElem?_eq_some_iff.1 hg).1, rfl, fun j hj => ?_, hRu⟩
    obtain rfl : j = 0 := by omega
    have : w.cell? ⟨g, i, none⟩ = cur[i]? := by simp [World.cell?, hg]
    simp only [Nat.mul_one, Nat.zero_add, Nat.add_zero]
    rw [this]
    rw [← ht, List.getElem?_take] at hu
    simp only [Nat.mul_one] at hu
    rw [if_pos hi] at hu
    simpa using hu

theorem rInts_own {S : Nat → Prop} {w : World} {base : Nat} {e : TypeId} {v : Value} {l : List Int}
    (h : w.ownsRow base e 1 v l.length (l.map (Value.int .i64))) (hS : ∀ k, v.ownBlock = some k → S k) (hI : ∀ x ∈ l, InI x) : rInts S w [v] l :=
  rSlice_own h hS fun i hi => ⟨.int .i64 l[i], by simp [hi], rfl, hI _ (List.getElem_mem hi)⟩
theorem rBools_own {S : Nat → Prop} {w : World} {base : Nat} {e : TypeId} {v : Value} {l : List Bool}
    (h : w.ownsRow base e 1 v l.length (l.map Value.bool)) (hS : ∀ k, v.ownBlock = some k → S k) : rBools S w [v] l :=
  rSlice_own h hS fun i hi => ⟨.bool l[i], by simp [hi], rfl⟩

/-- From 'for every i < n there is a y' to one list. -/
theorem list_of_lt {α : Type} {n : Nat} {p : Nat → α → Prop} (h : ∀ i, i < n → ∃ y, p i y) : ∃ l : List α, l.length = n ∧ ∀ i (hi : i < l.length), p i l[i] := by
  induction n with
  | zero => exact ⟨[], rfl, fun i hi => absurd hi (by simp)⟩
  | succ n ih =>
    obtain ⟨l, hll, hl2⟩ := ih (fun i hi => h i (by omega))
    obtain ⟨y, hy⟩ := h n (by omega)
    refine ⟨l ++ [y], by simp [hll], fun i hi => ?_⟩
    by_cases hi' : i < l.length
    · rw [List.getElem_append_left hi']
      exact hl2 i hi'
    · have : i = n := by simp at hi; omega
      subst this
      rw [List.getElem_append_right (by omega)]
      simpa [hll] using hy

/-! ### From the readings of the statements -/
section
variable {H : Type} {enc : TypeId × Value → H} {P : Program} {w : World}

/-- Whatever reads at type t with fuel n reads by R; what is read is within Bd, as the reach says. -/
def OpensN (enc : TypeId × Value → H) (P : Program) (w : World) (fuel : Nat) (t : TypeId) {α : Type} (R : Rep α) (Bd : α → Prop) : Prop :=
  ∀ (cs : List Value) (x : DataW H × List MemPlace), DataW.trod enc P w 0 (fun _ => true) true fuel t cs = some x → (∀ n ∈ x.1.weights P t, n ≤ reachBytes) →
    ∃ y, R (fun _ => True) w cs y ∧ Bd y
/-- .. with whatever fuel. -/
def Opens (enc : TypeId × Value → H) (P : Program) (w : World) (t : TypeId) {α : Type} (R : Rep α) (Bd : α → Prop) : Prop := ∀ fuel, OpensN enc P w fuel t R Bd

theorem opens_int {t : TypeId} (ht : P.underlying t = some (.int .i64)) : Opens enc P w t rInt (fun _ => True) := by
  intro fuel cs x h _
  obtain ⟨n, rfl, rfl, hw⟩ := DataW.trod_int ht h
  exact ⟨n, ⟨rfl, by simpa [Lit.wf, IntKind.min, IntKind.max, IntKind.signed, IntKind.bits, InI] using hw⟩, trivial⟩
theorem opens_bool {t : TypeId} (ht : P.underlying t = some .bool) : Opens enc P w t rBool (fun _ => True) := by
  intro fuel cs x h _
  obtain ⟨b, rfl, rfl⟩ := DataW.trod_bool ht h
  exact ⟨b, rfl, trivial⟩
theorem opens_str {t : TypeId} (ht : P.underlying t = some .string) : Opens enc P w t rStr (fun s => s.size ≤ reachBytes) := by
  intro fuel cs x h hw
  obtain ⟨s, rfl, rfl, hm⟩ := DataW.trod_string ht h
  exact ⟨s, ⟨rfl, hm⟩, by simpa using hw s.data.toList.length (by simp [DataW.weights])⟩

theorem weightsAll_mem {e : TypeId} : ∀ {l : List (DataW H)} {d : DataW H}, d ∈ l → ∀ n ∈ d.weights P e, n ∈ DataW.weightsAll P e l
  | d' :: r, d, hd, n, hn => by
    simp only [DataW.weightsAll, List.mem_append]
    rcases List.mem_cons.1 hd with rfl | h
    · exact Or.inl hn
    · exact Or.inr (weightsAll_mem h n hn)

theorem opens_sliceN {t e : TypeId} {sz bytes fuel : Nat} {α : Type} {R : Rep α} {Bd : α → Prop} (ht : P.underlying t = some (.slice e)) (hsz : P.cellsOf e = sz) (hby : P.bytesOf e = bytes) (hpos : 0 < sz)
    (he : ∀ n, fuel = n + 1 → OpensN enc P w n e R Bd) : OpensN enc P w fuel t (rSlice sz R) (fun l => l.length * bytes ≤ reachBytes ∧ ∀ x ∈ l, Bd x) := by
  intro cs x h hw
  rcases DataW.trod_slice ht h with ⟨rfl, rfl⟩ | ⟨a, len, cap, elems, rest, n, hfuel, rfl, rfl, _, hl, hm, hlen, hel, _, _⟩
  · exact ⟨[], rSlice_nil _ _ _ _, by simp, by simp⟩
  · have hmem : ∀ y ∈ elems, ∀ k ∈ y.1.weights P e, k ≤ reachBytes := by
      intro y hy k hk
      refine hw k ?_
      simp only [DataW.weights, ht, List.mem_cons, List.mem_append]
      exact Or.inr (Or.inl (weightsAll_mem (List.mem_map.2 ⟨y, hy, rfl⟩) k hk))
    have hex : ∀ i, i < len → ∃ y, (∃ cs', w.cells? 0 (a.add (i * P.cellsOf e)) (P.cellsOf e) = some cs' ∧ R (fun _ => True) w cs' y) ∧ Bd y := by
      intro i hi
      have h1 := hel i hi
      rw [List.getElem?_eq_getElem (by omega)] at h1
      obtain ⟨cs', h2, h3⟩ := Option.bind_eq_some_iff.1 h1
      obtain ⟨y, hy, hb⟩ := he n hfuel cs' _ h3 (hmem _ (List.getElem_mem _))
      exact ⟨y, ⟨cs', h2, hy⟩, hb⟩
    obtain ⟨l, hll, hl2⟩ := list_of_lt hex
    refine ⟨l, ⟨some a, cap, by rw [hll], by omega, hm, fun i hi => ?_⟩, ?_, fun y hy => ?_⟩
    · obtain ⟨⟨cs', h1, h2⟩, _⟩ := hl2 i hi
      obtain ⟨_, hcl, hcell⟩ := World.cells?_some h1
      obtain ⟨b, off, spot⟩ := a
      have hspot : spot = none := by
        obtain ⟨⟨cs0, h10, _⟩, _⟩ := hl2 0 (by omega)
        obtain ⟨_, hlen0, hcell0⟩ := World.cells?_some h10
        have h00 := hcell0 0 (by omega)
        rw [List.getElem?_eq_getElem (by omega)] at h00
        simpa [Addr.add] using World.cell?_spot h00
      subst hspot
      have hadd : ∀ k, (⟨b, off, none⟩ : Addr).add k = ⟨b, off + k, none⟩ := by intro k; unfold Addr.add; split <;> simp_all
      have hblk : b < w.heap.size := by
        have h0 := hcell 0 (by omega)
        rw [List.getElem?_eq_getElem (by omega), hadd, Addr.add] at h0
        simpa using World.block_lt_of_cell? w _ h0
      refine ⟨b, off, cs', rfl, trivial, hblk, by omega, fun j hj => ?_, h2⟩
      have := hcell j (by omega)
      rw [hadd, hsz] at this
      rw [← this]
      unfold Addr.add
      split <;> simp_all
    · rw [hll]
      have := hw (((elems.map (·.1)).length + (rest.map (·.1)).length) * P.bytesOf e) (by simp [DataW.weights, ht])
      simp only [List.length_map, hby, hlen] at this
      exact Nat.le_trans (Nat.mul_le_mul_right _ (Nat.le_add_right _ _)) this
    · obtain ⟨i, hi, rfl⟩ := List.mem_iff_getElem.1 hy
      exact (hl2 i hi).2
theorem opens_slice {t e : TypeId} {sz bytes : Nat} {α : Type} {R : Rep α} {Bd : α → Prop} (ht : P.underlying t = some (.slice e)) (hsz : P.cellsOf e = sz) (hby : P.bytesOf e = bytes) (hpos : 0 < sz)
    (he : Opens enc P w e R Bd) : Opens enc P w t (rSlice sz R) (fun l => l.length * bytes ≤ reachBytes ∧ ∀ x ∈ l, Bd x) :=
  fun _ => opens_sliceN ht hsz hby hpos fun n _ => he n
end
end Go.Pst

/-
  The plain data of package api (instructions, code, programs) and how they read in memory.
-/
namespace Go.Pst
open Go.RowKit

structure PInstr where
  op : Int
  ds : List Int
  ars : List Int
  n : Int
  s : ByteArray
  to : List Int
instance : Inhabited PInstr := ⟨⟨0, [], [], 0, ByteArray.empty, []⟩⟩

structure PCode where
  name : ByteArray
  params : Int
  results : Int
  vars : Int
  slots : Int
  blocks : List (List PInstr)
instance : Inhabited PCode := ⟨⟨ByteArray.empty, 0, 0, 0, 0, []⟩⟩

def rInstr : Rep PInstr := fun S w cs x => ∃ v1 v2 v5, cs = [.int .i64 x.op, v1, v2, .int .i64 x.n, .string x.s, v5] ∧
  (InI x.op ∧ InI x.n ∧ x.s.size ≤ maxLen) ∧ rInts S w [v1] x.ds ∧ rInts S w [v2] x.ars ∧ rInts S w [v5] x.to
instance : Good rInstr := ⟨by
  rintro S S' w w' cs x hk hs ⟨v1, v2, v5, h1, h2, h3, h4, h5⟩
  exact ⟨v1, v2, v5, h1, h2, Good.keep hk hs h3, Good.keep hk hs h4, Good.keep hk hs h5⟩⟩

abbrev rBlock : Rep (List PInstr) := rSlice 6 rInstr
abbrev rBlocks : Rep (List (List PInstr)) := rSlice 1 rBlock

def rCode : Rep PCode := fun S w cs x => ∃ v5, cs = [.string x.name, .int .i64 x.params, .int .i64 x.results, .int .i64 x.vars, .int .i64 x.slots, v5] ∧
  (x.name.size ≤ maxLen ∧ InI x.params ∧ InI x.results ∧ InI x.vars ∧ InI x.slots) ∧ rBlocks S w [v5] x.blocks
instance : Good rCode := ⟨by
  rintro S S' w w' cs x hk hs ⟨v5, h1, h2, h3⟩
  exact ⟨v5, h1, h2, Good.keep hk hs h3⟩⟩

/-- A block of instructions, as a walk wants it. -/
theorem rBlock_val {S : Nat → Prop} {w : World} {v : Value} {l : List PInstr} (h : rBlock S w [v] l) :
    ∃ a cap, v = .slice a l.length cap ∧ l.length ≤ cap ∧ cap ≤ maxLen ∧
    ∀ i (h : i < l.length), ∃ b off v1 v2 v5, a = some ⟨b, off, none⟩ ∧ S b ∧ b < w.heap.size ∧
      w.cell? ⟨b, off + i * 6, none⟩ = some (.int .i64 l[i].op) ∧ w.cell? ⟨b, off + i * 6 + 1, none⟩ = some v1 ∧ w.cell? ⟨b, off + i * 6 + 2, none⟩ = some v2 ∧
      w.cell? ⟨b, off + i * 6 + 3, none⟩ = some (.int .i64 l[i].n) ∧ w.cell? ⟨b, off + i * 6 + 4, none⟩ = some (.string l[i].s) ∧ w.cell? ⟨b, off + i * 6 + 5, none⟩ = some v5 ∧
      (InI l[i].op ∧ InI l[i].n ∧ l[i].s.size ≤ maxLen) ∧ rInts S w [v1] l[i].ds ∧ rInts S w [v2] l[i].ars ∧ rInts S w [v5] l[i].to := by
  obtain ⟨a, cap, h1, h2, h3, h4⟩ := rSlice_val h
  refine ⟨a, cap, h1, h2, h3, fun i hi => ?_⟩
  obtain ⟨b, off, es, ha, hS, hb, hl, hc, v1, v2, v5, rfl, hI, r1, r2, r5⟩ := h4 i hi
  exact ⟨b, off, v1, v2, v5, ha, hS, hb, hc 0 (by decide), hc 1 (by decide), hc 2 (by decide), hc 3 (by decide), hc 4 (by decide), hc 5 (by decide), hI, r1, r2, r5⟩

section
variable {H : Type} {enc : TypeId × Value → H} {P : Program} {w : World}

def FitInstr (x : PInstr) : Prop := x.ds.length * 8 ≤ reachBytes ∧ x.ars.length * 8 ≤ reachBytes ∧ x.to.length * 8 ≤ reachBytes
def FitCode (x : PCode) : Prop := x.blocks.length * 24 ≤ reachBytes ∧ ∀ b ∈ x.blocks, b.length * 104 ≤ reachBytes ∧ ∀ i ∈ b, FitInstr i

theorem weights_part {ts : List TypeId} {ds : List (DataW H)} {j : Nat} {t : TypeId} {d : DataW H} (ht : ts[j]? = some t) (hd : ds[j]? = some d) {m : Nat} (h : ∀ n ∈ DataW.weightsEach P ts ds, n ≤ m) :
    ∀ n ∈ d.weights P t, n ≤ m := fun n hn => h n (DataW.weights_mem_each ht hd n hn)

theorem list6 {α : Type} {l : List α} (h : l.length = 6) : ∃ a b c d e f, l = [a, b, c, d, e, f] := by
  match l, h with
  | [a, b, c, d, e, f], _ => exact ⟨a, b, c, d, e, f, rfl⟩

theorem opens_instr {t tint tstr tints : TypeId} (ht : P.underlying t = some (.struct #[⟨"Op", tint, 0, false, "", "", 0⟩, ⟨"Ds", tints, 1, false, "", "", 8⟩, ⟨"As", tints, 2, false, "", "", 32⟩, ⟨"N", tint, 3, false, "", "", 56⟩, ⟨"S", tstr, 4, false, "", "", 64⟩, ⟨"To", tints, 5, false, "", "", 80⟩]))
    (ht6 : P.cellsOf t = 6) (c1 : P.cellsOf tint = 1) (c2 : P.cellsOf tints = 1) (c3 : P.cellsOf tstr = 1)
    (hint : P.underlying tint = some (.int .i64)) (hstr : P.underlying tstr = some .string) (hints : P.underlying tints = some (.slice tint)) (hb : P.bytesOf tint = 8) : Opens enc P w t rInstr FitInstr := by
  intro fuel cs x h hw
  obtain ⟨xs, n, _, rfl, hcl, hxl, hf⟩ := DataW.trod_struct ht h
  rw [ht6] at hcl
  obtain ⟨a0, a1, a2, a3, a4, a5, rfl⟩ := list6 hcl
  obtain ⟨x0, x1, x2, x3, x4, x5, rfl⟩ := list6 (l := xs) (by simpa using hxl)
  have f0 := hf 0 _ rfl
  have f1 := hf 1 _ rfl
  have f2 := hf 2 _ rfl
  have f3 := hf 3 _ rfl
  have f4 := hf 4 _ rfl
  have f5 := hf 5 _ rfl
  simp [c1, c2, c3] at f0 f1 f2 f3 f4 f5
  have hw' : ∀ n ∈ DataW.weightsEach P [tint, tints, tints, tint, tstr, tints] [x0.1, x1.1, x2.1, x3.1, x4.1, x5.1], n ≤ reachBytes := by
    intro n hn
    refine hw n ?_
    simpa [DataW.weights, ht] using hn
  obtain ⟨y0, h0, _⟩ := opens_int (enc := enc) (w := w) hint _ _ _ f0 (weights_part (j := 0) rfl rfl hw')
  obtain ⟨y1, h1, b1, _⟩ := opens_slice (enc := enc) (w := w) hints c1 hb (by decide) (opens_int hint) _ _ _ f1 (weights_part (j := 1) rfl rfl hw')
  obtain ⟨y2, h2, b2, _⟩ := opens_slice (enc := enc) (w := w) hints c1 hb (by decide) (opens_int hint) _ _ _ f2 (weights_part (j := 2) rfl rfl hw')
  obtain ⟨y3, h3, _⟩ := opens_int (enc := enc) (w := w) hint _ _ _ f3 (weights_part (j := 3) rfl rfl hw')
  obtain ⟨y4, h4, _⟩ := opens_str (enc := enc) (w := w) hstr _ _ _ f4 (weights_part (j := 4) rfl rfl hw')
  obtain ⟨y5, h5, b5, _⟩ := opens_slice (enc := enc) (w := w) hints c1 hb (by decide) (opens_int hint) _ _ _ f5 (weights_part (j := 5) rfl rfl hw')
  obtain ⟨e0, i0⟩ := h0
  obtain ⟨e3, i3⟩ := h3
  obtain ⟨e4, i4⟩ := h4
  simp only [List.cons.injEq, and_true] at e0 e3 e4
  subst e0 e3 e4
  exact ⟨⟨y0, y1, y2, y3, y4, y5⟩, ⟨a1, a2, a5, rfl, ⟨i0, i3, i4⟩, h1, h2, h5⟩, b1, b2, b5⟩

theorem opens_code {t tint tstr tbs tb ti : TypeId} (ht : P.underlying t = some (.struct #[⟨"Name", tstr, 0, false, "", "", 0⟩, ⟨"Params", tint, 1, false, "", "", 16⟩, ⟨"Results", tint, 2, false, "", "", 24⟩, ⟨"Vars", tint, 3, false, "", "", 32⟩, ⟨"Slots", tint, 4, false, "", "", 40⟩, ⟨"Blocks", tbs, 5, false, "", "", 48⟩]))
    (ht6 : P.cellsOf t = 6) (c1 : P.cellsOf tint = 1) (c3 : P.cellsOf tstr = 1) (c4 : P.cellsOf tbs = 1) (c5 : P.cellsOf tb = 1) (b5 : P.bytesOf tb = 24) (c6 : P.cellsOf ti = 6) (b6 : P.bytesOf ti = 104)
    (hint : P.underlying tint = some (.int .i64)) (hstr : P.underlying tstr = some .string) (hbs : P.underlying tbs = some (.slice tb)) (hb : P.underlying tb = some (.slice ti))
    (hi : Opens enc P w ti rInstr FitInstr) : Opens enc P w t rCode FitCode := by
  intro fuel cs x h hw
  obtain ⟨xs, n, _, rfl, hcl, hxl, hf⟩ := DataW.trod_struct ht h
  rw [ht6] at hcl
  obtain ⟨a0, a1, a2, a3, a4, a5, rfl⟩ := list6 hcl
  obtain ⟨x0, x1, x2, x3, x4, x5, rfl⟩ := list6 (l := xs) (by simpa using hxl)
  have f0 := hf 0 _ rfl
  have f1 := hf 1 _ rfl
  have f2 := hf 2 _ rfl
  have f3 := hf 3 _ rfl
  have f4 := hf 4 _ rfl
  have f5 := hf 5 _ rfl
  simp [c1, c3, c4] at f0 f1 f2 f3 f4 f5
  have hw' : ∀ n ∈ DataW.weightsEach P [tstr, tint, tint, tint, tint, tbs] [x0.1, x1.1, x2.1, x3.1, x4.1, x5.1], n ≤ reachBytes := by
    intro n hn
    refine hw n ?_
    simpa [DataW.weights, ht] using hn
  obtain ⟨y0, h0, _⟩ := opens_str (enc := enc) (w := w) hstr _ _ _ f0 (weights_part (j := 0) rfl rfl hw')
  obtain ⟨y1, h1, _⟩ := opens_int (enc := enc) (w := w) hint _ _ _ f1 (weights_part (j := 1) rfl rfl hw')
  obtain ⟨y2, h2, _⟩ := opens_int (enc := enc) (w := w) hint _ _ _ f2 (weights_part (j := 2) rfl rfl hw')
  obtain ⟨y3, h3, _⟩ := opens_int (enc := enc) (w := w) hint _ _ _ f3 (weights_part (j := 3) rfl rfl hw')
  obtain ⟨y4, h4, _⟩ := opens_int (enc := enc) (w := w) hint _ _ _ f4 (weights_part (j := 4) rfl rfl hw')
  obtain ⟨y5, h5, hb5⟩ := opens_slice (enc := enc) (w := w) hbs c5 b5 (by decide) (opens_slice hb c6 b6 (by decide) hi) _ _ _ f5 (weights_part (j := 5) rfl rfl hw')
  obtain ⟨e0, i0⟩ := h0
  obtain ⟨e1, i1⟩ := h1
  obtain ⟨e2, i2⟩ := h2
  obtain ⟨e3, i3⟩ := h3
  obtain ⟨e4, i4⟩ := h4
  simp only [List.cons.injEq, and_true] at e0 e1 e2 e3 e4
  subst e0 e1 e2 e3 e4
  exact ⟨⟨y0, y1, y2, y3, y4, y5⟩, ⟨a5, rfl, ⟨i0, i1, i2, i3, i4⟩, h5⟩, hb5⟩
end

/-- An owned row from a smaller block number on. -/
theorem ownsRow_from {w : World} {base base' : Nat} {e : TypeId} {size : Nat} {v : Value} {n : Nat} {xs : List Value} (h : w.ownsRow base e size v n xs) (hb : base' ≤ base) : w.ownsRow base' e size v n xs := by
  obtain ⟨h1, h2⟩ := h
  refine ⟨h1, ?_⟩
  rcases h2 with h2 | ⟨g, cap, cur, hv, hg, r⟩
  · exact Or.inl h2
  · exact Or.inr ⟨g, cap, cur, hv, Nat.le_trans hb hg, r⟩
/-- The world but for draws. -/
def Drawn (w w' : World) : Prop := ∃ n, w' = w.drewN n
theorem Drawn.refl (w : World) : Drawn w w := ⟨0, rfl⟩
theorem Drawn.drew (w : World) : Drawn w w.drew := ⟨1, rfl⟩
theorem Drawn.heap {w w' : World} (h : Drawn w w') : w'.heap = w.heap := by obtain ⟨n, rfl⟩ := h; rfl
theorem Drawn.more {w w' : World} (h : Drawn w w') (n : Nat) : Drawn w (w'.drewN n) := by obtain ⟨m, rfl⟩ := h; exact ⟨m + n, by rw [World.drewN_drewN]⟩
theorem Drawn.trans {w w' w'' : World} (h : Drawn w w') (h' : Drawn w' w'') : Drawn w w'' := by obtain ⟨m, rfl⟩ := h'; exact h.more m
theorem Drawn.cell {w w' : World} (h : Drawn w w') (a : Addr) : w'.cell? a = w.cell? a := by obtain ⟨n, rfl⟩ := h; rfl
theorem Drawn.below {w w' : World} (h : Drawn w w') (B : Nat) : Below B w w' := by obtain ⟨n, rfl⟩ := h; exact ⟨rfl, rfl, rfl, Nat.le_refl _, fun _ _ => rfl⟩

/-- A walk's own words on a slice of ints. -/
def IntsAt (w : World) (a : Option Addr) (l : List Int) : Prop :=
  ∀ i (h : i < l.length), ∃ b off, a = some ⟨b, off, none⟩ ∧ b < w.heap.size ∧ w.cell? ⟨b, off + i, none⟩ = some (.int .i64 l[i])
theorem IntsAt.below {w w' : World} {a : Option Addr} {l : List Int} (h : IntsAt w a l) (hb : Below w.heap.size w w') : IntsAt w' a l := by
  intro i hi
  obtain ⟨b, off, h1, h2, h3⟩ := h i hi
  exact ⟨b, off, h1, Nat.lt_of_lt_of_le h2 hb.size, by rw [hb.cell (p := ⟨b, off + i, none⟩) h2]; exact h3⟩
theorem IntsAt.heap {w w' : World} {a : Option Addr} {l : List Int} (h : IntsAt w a l) (e : w'.heap = w.heap) : IntsAt w' a l := by
  intro i hi
  obtain ⟨b, off, h1, h2, h3⟩ := h i hi
  exact ⟨b, off, h1, by rw [e]; exact h2, by rw [← h3]; simp [World.cell?, e]⟩
theorem rInts_open {S : Nat → Prop} {w : World} {v : Value} {l : List Int} (h : rInts S w [v] l) :
    ∃ a cap, v = .slice a l.length cap ∧ l.length ≤ 9223372036854775807 ∧ IntsAt w a l ∧ ∀ x ∈ l, InI x := by
  obtain ⟨a, cap, h1, h2, h3, h4⟩ := rInts_val h
  refine ⟨a, cap, h1, by unfold maxLen at h3; omega, fun i hi => ?_, fun x hx => ?_⟩
  · obtain ⟨b, off, e1, _, e2, e3, _⟩ := h4 i hi
    exact ⟨b, off, e1, e2, e3⟩
  · obtain ⟨i, hi, rfl⟩ := List.mem_iff_getElem.1 hx
    obtain ⟨b, off, e1, _, e2, e3, e4⟩ := h4 i hi
    exact e4

/-- A walk's own words on a slice of slices of ints. -/
def IntssAt (w : World) (a : Option Addr) (l : List (List Int)) : Prop :=
  ∀ i (h : i < l.length), ∃ b off a' cap', a = some ⟨b, off, none⟩ ∧ b < w.heap.size ∧ w.cell? ⟨b, off + i, none⟩ = some (.slice a' l[i].length cap') ∧ l[i].length ≤ 9223372036854775807 ∧ IntsAt w a' l[i]
theorem IntssAt.below {w w' : World} {a : Option Addr} {l : List (List Int)} (h : IntssAt w a l) (hb : Below w.heap.size w w') : IntssAt w' a l := by
  intro i hi
  obtain ⟨b, off, a', cap', h1, h2, h3, h4, h5⟩ := h i hi
  exact ⟨b, off, a', cap', h1, Nat.lt_of_lt_of_le h2 hb.size, by rw [hb.cell (p := ⟨b, off + i, none⟩) h2]; exact h3, h4, h5.below hb⟩
theorem rIntss_open {S : Nat → Prop} {w : World} {v : Value} {l : List (List Int)} (h : rIntss S w [v] l) :
    ∃ a cap, v = .slice a l.length cap ∧ l.length ≤ 9223372036854775807 ∧ IntssAt w a l := by
  obtain ⟨a, cap, h1, h2, h3, h4⟩ := rSlice_one h
  refine ⟨a, cap, h1, by unfold maxLen at h3; omega, fun i hi => ?_⟩
  obtain ⟨b, off, u, e1, _, e2, e3, e4⟩ := h4 i hi
  obtain ⟨a', cap', f1, f2, f3, _⟩ := rInts_open e4
  subst f1
  exact ⟨b, off, a', cap', e1, e2, e3, f2, f3⟩

/-- The box of a parameter: its cells, and what lay ahead of it. -/
theorem box_cell {w wr : World} {C : Array Value} {t : TypeId} (h : Below (w.heap.size + 1) (w.alloc (.cells C t)) wr) (j : Nat) : wr.cell? ⟨w.heap.size, j, none⟩ = C[j]? := by
  rw [h.cell (p := ⟨w.heap.size, j, none⟩) (by simp), World.cell?_alloc_new]
theorem box_below {w wr : World} {C : Array Value} {t : TypeId} (h : Below (w.heap.size + 1) (w.alloc (.cells C t)) wr) : Below w.heap.size w wr :=
  ((Below.refl _ _).alloc (Nat.le_refl _) _).trans (h.mono (by omega))

/-- Behind an append to an owned row (behind the box of what is appended): below the row's base nothing has turned. -/
theorem append_below {wr w1 : World} {o : Obj} {u : Value} {B : Nat} {e : TypeId} {sz n : Nat} {xs : List Value} (hown : wr.ownsRow B e sz u n xs) (hg : (wr.alloc o).grownBy w1 u.ownBlock) (hB : B ≤ wr.heap.size) : Below B wr w1 :=
  ((Below.refl B wr).alloc hB o).grown hg (by simp; omega) (fun k hk => ((hown.alloc o).lt k hk).1)
theorem append_below0 {wr w1 : World} {u : Value} {B : Nat} {e : TypeId} {sz n : Nat} {xs : List Value} (hown : wr.ownsRow B e sz u n xs) (hg : wr.grownBy w1 u.ownBlock) (hB : B ≤ wr.heap.size) : Below B wr w1 :=
  (Below.refl B wr).grown hg hB (fun k hk => (hown.lt k hk).1)
end Go.Pst

/-
  Plain laws on memory, for any program: what is left as it was while some blocks are written (Since); rows that the call owns, read and written through it.
-/
namespace Go.Pst
open Go.RowKit
set_option linter.unusedVariables false

/-- From w to w' only blocks of F have been written; others may be new. -/
structure Since (F : Nat → Prop) (w w' : World) : Prop where
  os : w'.os = w.os
  tape : w'.tape = w.tape
  output : w'.output = w.output
  size : w.heap.size ≤ w'.heap.size
  block : ∀ k, k < w.heap.size → ¬ F k → w'.heap[k]? = w.heap[k]?

namespace Since
variable {F G : Nat → Prop} {a b c w w' : World}
theorem refl (F : Nat → Prop) (w : World) : Since F w w := ⟨rfl, rfl, rfl, Nat.le_refl _, fun _ _ _ => rfl⟩
theorem trans (h : Since F a b) (k : Since F b c) : Since F a c :=
  ⟨k.os.trans h.os, k.tape.trans h.tape, k.output.trans h.output, Nat.le_trans h.size k.size, fun i hi hn => (k.block i (Nat.lt_of_lt_of_le hi h.size) hn).trans (h.block i hi hn)⟩
/-- What came between may have written new blocks, too. -/
theorem then_new (h : Since F a b) (k : Since G b c) (hG : ∀ i, G i → F i ∨ a.heap.size ≤ i) : Since F a c :=
  ⟨k.os.trans h.os, k.tape.trans h.tape, k.output.trans h.output, Nat.le_trans h.size k.size, fun i hi hn =>
    (k.block i (Nat.lt_of_lt_of_le hi h.size) (fun g => (hG i g).elim hn (fun hl => by omega))).trans (h.block i hi hn)⟩
theorem mono (h : Since F w w') (hF : ∀ k, F k → G k) : Since G w w' := ⟨h.os, h.tape, h.output, h.size, fun k hk hn => h.block k hk (fun f => hn (hF k f))⟩
theorem alloc (F : Nat → Prop) (w : World) (o : Obj) : Since F w (w.alloc o) := ⟨rfl, rfl, rfl, by simp, fun k hk _ => Below.heap_alloc _ _ _ hk⟩
theorem drewN (F : Nat → Prop) (w : World) (n : Nat) : Since F w (w.drewN n) := ⟨rfl, rfl, rfl, Nat.le_refl _, fun _ _ _ => rfl⟩
theorem drew (F : Nat → Prop) (w : World) : Since F w w.drew := ⟨rfl, rfl, rfl, Nat.le_refl _, fun _ _ _ => rfl⟩
theorem setCell (w : World) (p : Addr) (u : Value) : Since (· = p.block) w (w.setCell p u) := ⟨rfl, rfl, rfl, by simp, fun k _ hn => Below.heap_setCell _ _ _ _ hn⟩
theorem grown {row : Option Nat} (h : w.grownBy w' row) : Since (fun k => row = some k) w w' := ⟨h.os, h.tape, h.output, h.size, fun k hk hn => h.block k hk (fun e => hn e.symm)⟩
theorem of_below {B : Nat} (h : Below B w w') : Since (B ≤ ·) w w' := ⟨h.os, h.tape, h.output, h.size, fun k _ hn => h.block k (Nat.lt_of_not_le hn)⟩
theorem below {B : Nat} (h : Since F w w') (hB : B ≤ w.heap.size) (hF : ∀ k, F k → B ≤ k) : Below B w w' :=
  ⟨h.os, h.tape, h.output, h.size, fun k hk => h.block k (by omega) (fun f => by have := hF k f; omega)⟩
theorem cell (h : Since F w w') {b o : Nat} (hb : b < w.heap.size) (hn : ¬ F b) : w'.cell? ⟨b, o, none⟩ = w.cell? ⟨b, o, none⟩ := World.cell?_of_block (w := w) (a := ⟨b, o, none⟩) (h.block b hb hn)
theorem frozen (h : Since F w w') {b o : Nat} (hb : b < w.heap.size) (hn : ¬ F b) : w'.frozen? ⟨b, o, none⟩ = w.frozen? ⟨b, o, none⟩ := World.frozen?_of_block (w := w) (a := ⟨b, o, none⟩) (h.block b hb hn)
theorem keep (h : Since F w w') : Keep (fun k => ¬ F k) w w' := ⟨h.size, fun k hk hS => h.block k hk hS⟩
theorem row {base n sz : Nat} {e : TypeId} {v : Value} {xs : List Value} (h : Since F w w') (ho : w.ownsRow base e sz v n xs) (hn : ∀ k, v.ownBlock = some k → ¬ F k) : w'.ownsRow base e sz v n xs := by
  refine ⟨ho.1, ?_⟩
  rcases ho.2 with h0 | ⟨g, cap, cur, hv, hb, hg, r⟩
  · exact Or.inl h0
  · have hlt : g < w.heap.size := (Array.getElem?_eq_some_iff.1 hg).1
    exact Or.inr ⟨g, cap, cur, hv, hb, (h.block g hlt (hn g (by rw [hv]; rfl))).trans hg, r⟩
end Since

/-- The value of an owned row, written out. -/
theorem row_slice {w : World} {base n sz : Nat} {e : TypeId} {v : Value} {xs : List Value} (h : w.ownsRow base e sz v n xs) : ∃ a cap, v = .slice a n cap ∧ n ≤ cap ∧ cap ≤ maxLen := by
  rcases h.2 with ⟨rfl, rfl⟩ | ⟨g, cap, cur, rfl, _, _, h1, h2, _⟩
  · exact ⟨none, 0, rfl, Nat.le_refl _, by decide⟩
  · exact ⟨_, cap, rfl, h1, h2⟩
/-- An element of an owned row of one-cell elements. -/
theorem row_at {w : World} {base n : Nat} {e : TypeId} {v : Value} {xs : List Value} (h : w.ownsRow base e 1 v n xs) {i : Nat} {u : Value} (hi : xs[i]? = some u) :
    ∃ g cap, v = .slice (some ⟨g, 0, none⟩) n cap ∧ v.ownBlock = some g ∧ base ≤ g ∧ g < w.heap.size ∧ w.cell? ⟨g, i, none⟩ = some u ∧ w.frozen? ⟨g, i, none⟩ = false := by
  rcases h.2 with ⟨rfl, rfl⟩ | ⟨g, cap, cur, rfl, hb, hg, h1, h2, h3, h4⟩
  · have := h.1
    simp at this
    subst this
    simp at hi
  · refine ⟨g, cap, rfl, rfl, hb, (Array.getElem?_eq_some_iff.1 hg).1, ?_, ?_⟩
    · rw [← h4, List.getElem?_take] at hi
      split at hi
      · simp [World.cell?, hg]; simpa using hi
      · simp at hi
    · simp [World.frozen?, hg]
/-- One of its elements written anew. -/
theorem row_set {w : World} {base n : Nat} {e : TypeId} {g cap : Nat} {xs : List Value} (h : w.ownsRow base e 1 (.slice (some ⟨g, 0, none⟩) n cap) n xs) {i : Nat} (hi : i < n) (u : Value) :
    (w.setCell ⟨g, i, none⟩ u).ownsRow base e 1 (.slice (some ⟨g, 0, none⟩) n cap) n (xs.set i u) := by
  refine ⟨by simpa using h.1, Or.inr ?_⟩
  rcases h.2 with ⟨h0, _⟩ | ⟨g', cap', cur, hv, hb, hg, h1, h2, h3, h4⟩
  · simp at h0
  · obtain ⟨rfl, rfl⟩ : g = g' ∧ cap = cap' := by simpa using hv
    refine ⟨g, cap, cur.setIfInBounds i u, rfl, hb, ?_, h1, h2, by simpa using h3, ?_⟩
    · simp only [World.setCell, Array.getElem?_modify, hg, Option.map_some]
      simp
    · rw [Array.toList_setIfInBounds, List.take_set, h4]
end Go.Pst

/-
  Programs (functions, data) of package api: how they read in memory.
-/
namespace Go.Pst
open Go.RowKit

structure PProg where
  funcs : List PCode
  data : List Int
instance : Inhabited PProg := ⟨⟨[], []⟩⟩

abbrev rCodes : Rep (List PCode) := rSlice 6 rCode
def rProg : Rep PProg := fun S w cs x => ∃ v0 v1, cs = [v0, v1] ∧ rCodes S w [v0] x.funcs ∧ rInts S w [v1] x.data
instance : Good rProg := ⟨by
  rintro S S' w w' cs x hk hs ⟨v0, v1, h1, h2, h3⟩
  exact ⟨v0, v1, h1, Good.keep hk hs h2, Good.keep hk hs h3⟩⟩
def FitProg (x : PProg) : Prop := (x.funcs.length * 72 ≤ reachBytes ∧ ∀ c ∈ x.funcs, FitCode c) ∧ x.data.length * 8 ≤ reachBytes

/-- A row of codes, as a walk wants it. -/
theorem rCodes_val {S : Nat → Prop} {w : World} {v : Value} {l : List PCode} (h : rCodes S w [v] l) :
    ∃ a cap, v = .slice a l.length cap ∧ l.length ≤ cap ∧ cap ≤ maxLen ∧
    ∀ i (h : i < l.length), ∃ b off v5, a = some ⟨b, off, none⟩ ∧ S b ∧ b < w.heap.size ∧
      w.cell? ⟨b, off + i * 6, none⟩ = some (.string l[i].name) ∧ w.cell? ⟨b, off + i * 6 + 1, none⟩ = some (.int .i64 l[i].params) ∧ w.cell? ⟨b, off + i * 6 + 2, none⟩ = some (.int .i64 l[i].results) ∧
      w.cell? ⟨b, off + i * 6 + 3, none⟩ = some (.int .i64 l[i].vars) ∧ w.cell? ⟨b, off + i * 6 + 4, none⟩ = some (.int .i64 l[i].slots) ∧ w.cell? ⟨b, off + i * 6 + 5, none⟩ = some v5 ∧
      (l[i].name.size ≤ maxLen ∧ InI l[i].params ∧ InI l[i].results ∧ InI l[i].vars ∧ InI l[i].slots) ∧ rBlocks S w [v5] l[i].blocks := by
  obtain ⟨a, cap, h1, h2, h3, h4⟩ := rSlice_val h
  refine ⟨a, cap, h1, h2, h3, fun i hi => ?_⟩
  obtain ⟨b, off, es, ha, hS, hb, hl, hc, v5, rfl, hI, r5⟩ := h4 i hi
  exact ⟨b, off, v5, ha, hS, hb, hc 0 (by decide), hc 1 (by decide), hc 2 (by decide), hc 3 (by decide), hc 4 (by decide), hc 5 (by decide), hI, r5⟩

section
variable {H : Type} {enc : TypeId × Value → H} {P : Program} {w : World}
theorem list2 {α : Type} {l : List α} (h : l.length = 2) : ∃ a b, l = [a, b] := by
  match l, h with
  | [a, b], _ => exact ⟨a, b, rfl⟩

theorem opens_prog {t tcs tc tints tint : TypeId} (ht : P.underlying t = some (.struct #[⟨"Funcs", tcs, 0, false, "", "", 0⟩, ⟨"Data", tints, 1, false, "", "", 24⟩]))
    (ht2 : P.cellsOf t = 2) (c1 : P.cellsOf tcs = 1) (c2 : P.cellsOf tints = 1) (hcs : P.underlying tcs = some (.slice tc)) (c6 : P.cellsOf tc = 6) (b6 : P.bytesOf tc = 72)
    (hints : P.underlying tints = some (.slice tint)) (hint : P.underlying tint = some (.int .i64)) (c3 : P.cellsOf tint = 1) (hb : P.bytesOf tint = 8)
    (hc : Opens enc P w tc rCode FitCode) : Opens enc P w t rProg FitProg := by
  intro fuel cs x h hw
  obtain ⟨xs, n, _, rfl, hcl, hxl, hf⟩ := DataW.trod_struct ht h
  rw [ht2] at hcl
  obtain ⟨a0, a1, rfl⟩ := list2 hcl
  obtain ⟨x0, x1, rfl⟩ := list2 (l := xs) (by simpa using hxl)
  have f0 := hf 0 _ rfl
  have f1 := hf 1 _ rfl
  simp [c1, c2] at f0 f1
  have hw' : ∀ n ∈ DataW.weightsEach P [tcs, tints] [x0.1, x1.1], n ≤ reachBytes := by
    intro n hn
    refine hw n ?_
    simpa [DataW.weights, ht] using hn
  obtain ⟨y0, h0, b0⟩ := opens_slice (enc := enc) (w := w) hcs c6 b6 (by decide) hc _ _ _ f0 (weights_part (j := 0) rfl rfl hw')
  obtain ⟨y1, h1, b1, _⟩ := opens_slice (enc := enc) (w := w) hints c3 hb (by decide) (opens_int hint) _ _ _ f1 (weights_part (j := 1) rfl rfl hw')
  exact ⟨⟨y0, y1⟩, ⟨a0, a1, rfl, h0, h1⟩, b0, b1⟩
end

/-- Words (a slice of strings) in a world: each place of the row. -/
def StrsAt (w : World) (a : Option Addr) (l : List ByteArray) : Prop :=
  ∀ i (h : i < l.length), ∃ b off, a = some ⟨b, off, none⟩ ∧ b < w.heap.size ∧ w.cell? ⟨b, off + i, none⟩ = some (.string l[i])
theorem StrsAt.below {w w' : World} {a : Option Addr} {l : List ByteArray} (h : StrsAt w a l) (hb : Below w.heap.size w w') : StrsAt w' a l := by
  intro i hi
  obtain ⟨b, off, ha, hlt, hc⟩ := h i hi
  exact ⟨b, off, ha, Nat.lt_of_lt_of_le hlt hb.size, by rw [hb.cell (p := ⟨b, off + i, none⟩) hlt]; exact hc⟩
end Go.Pst

/-
  What is wrong with code, with machine code, with programs: plain functions (P3.1 .. P3.3, P7.1, P7.2).
-/
namespace Go.Pst
open Go.RowKit

instance : LawfulBEq ByteArray where
  rfl := by intro a; show (a.data == a.data) = true; simp
  eq_of_beq := by
    intro a b h
    have h' : (a.data == b.data) = true := h
    cases a; cases b
    simpa using h'

/-! The boxes of two or three arguments. -/
theorem box2_1 (w : World) (A : Array Value) (t : TypeId) (o2 : Obj) (j : Nat) : ((w.alloc (.cells A t)).alloc o2).cell? ⟨w.heap.size, j, none⟩ = A[j]? := by
  rw [World.cell?_alloc_lt _ _ _ (by simp), World.cell?_alloc_at _ _ _ _ rfl]
theorem box2_2 (w : World) (o1 : Obj) (A : Array Value) (t : TypeId) (j : Nat) : ((w.alloc o1).alloc (.cells A t)).cell? ⟨w.heap.size + 1, j, none⟩ = A[j]? := by
  rw [World.cell?_alloc_at _ _ _ _ (by simp)]
theorem below_box2 (w : World) (o1 o2 : Obj) : Below w.heap.size w ((w.alloc o1).alloc o2) := ((Below.refl _ _).alloc (Nat.le_refl _) _).alloc (by simp) _
theorem box3_1 (w : World) (A : Array Value) (t : TypeId) (o2 o3 : Obj) (j : Nat) : (((w.alloc (.cells A t)).alloc o2).alloc o3).cell? ⟨w.heap.size, j, none⟩ = A[j]? := by
  rw [World.cell?_alloc_lt _ _ _ (by simp; omega), World.cell?_alloc_lt _ _ _ (by simp), World.cell?_alloc_at _ _ _ _ rfl]
theorem box3_2 (w : World) (o1 : Obj) (A : Array Value) (t : TypeId) (o3 : Obj) (j : Nat) : (((w.alloc o1).alloc (.cells A t)).alloc o3).cell? ⟨w.heap.size + 1, j, none⟩ = A[j]? := by
  rw [World.cell?_alloc_lt _ _ _ (by simp), World.cell?_alloc_at _ _ _ _ (by simp)]
theorem box3_3 (w : World) (o1 o2 : Obj) (A : Array Value) (t : TypeId) (j : Nat) : (((w.alloc o1).alloc o2).alloc (.cells A t)).cell? ⟨w.heap.size + 1 + 1, j, none⟩ = A[j]? := by
  rw [World.cell?_alloc_at _ _ _ _ (by simp)]
theorem below_box3 (w : World) (o1 o2 o3 : Obj) : Below w.heap.size w (((w.alloc o1).alloc o2).alloc o3) := (((Below.refl _ _).alloc (Nat.le_refl _) _).alloc (by simp) _).alloc (by simp; omega) _

/-- How a walk compares strings. -/
theorem str_eq {x y : ByteArray} (h : x = y) : (x.toList == y.toList) = true := (Go.Lib.bytes_beq_iff x y).2 h
theorem str_ne {x y : ByteArray} (h : ¬ x = y) : (x.toList == y.toList) = false := (Go.Lib.bytes_beq_false_iff x y).2 h

/-- .. with a constant's bytes written out. -/
theorem str_eqc {x y : ByteArray} (h : x = y) : (x.toList == y.data.toList) = true := by rw [← ByteArray.toList_eq]; exact str_eq h
theorem str_nec {x y : ByteArray} (h : ¬ x = y) : (x.toList == y.data.toList) = false := by rw [← ByteArray.toList_eq]; exact str_ne h

/-- The first place of a list that a predicate takes, or -1. -/
def firstOf {α : Type} (p : α → Bool) : List α → Nat → Int
  | [], _ => -1
  | y :: r, k => if p y = true then (k : Int) else firstOf p r (k + 1)
theorem firstOf_ge {α : Type} (p : α → Bool) : ∀ (l : List α) (k : Nat), decide (0 ≤ firstOf p l k) = l.any p
  | [], k => by simp [firstOf]
  | y :: r, k => by
    unfold firstOf
    by_cases h : p y = true
    · simp [h]
    · simp [h, firstOf_ge p r (k + 1)]
theorem firstOf_spec {α : Type} (p : α → Bool) : ∀ (l : List α) (k : Nat), firstOf p l k = -1 ∧ l.any p = false ∨ ∃ i, ∃ h : i < l.length, firstOf p l k = (k + i : Nat) ∧ p l[i] = true ∧ ∀ j (hj : j < i), p (l[j]'(Nat.lt_trans hj h)) = false
  | [], k => Or.inl ⟨rfl, rfl⟩
  | y :: r, k => by
    unfold firstOf
    by_cases h : p y = true
    · exact Or.inr ⟨0, by simp, by simp [h], by simpa using h, fun j hj => absurd hj (by omega)⟩
    · rcases firstOf_spec p r (k + 1) with ⟨h1, h2⟩ | ⟨i, hi, h1, h2, h3⟩
      · exact Or.inl ⟨by simp [h, h1], by simp [h, h2]⟩
      · refine Or.inr ⟨i + 1, by simp; omega, by rw [if_neg h, h1]; congr 1; omega, by simpa using h2, fun j hj => ?_⟩
        rcases j with _ | j
        · simpa using h
        · simpa using h3 j (by omega)
theorem firstOf_range {α : Type} (p : α → Bool) (l : List α) : -1 ≤ firstOf p l 0 ∧ firstOf p l 0 < l.length := by
  rcases firstOf_spec p l 0 with ⟨h, _⟩ | ⟨i, hi, h, _⟩
  · omega
  · omega

theorem nodup_take_succ {l : List Int} {n : Nat} (hn : n < l.length) (h : (l.take n).Nodup) (hne : ∀ j (hj : j < n), ¬ l[j] = l[n]) : (l.take (n + 1)).Nodup := by
  rw [List.take_succ_eq_append_getElem hn, List.nodup_append]
  refine ⟨h, by simp, ?_⟩
  intro a ha b hb e
  rw [List.mem_singleton] at hb
  subst hb
  obtain ⟨j, hj, hje⟩ := List.mem_iff_getElem.1 ha
  rw [List.length_take] at hj
  rw [List.getElem_take] at hje
  exact hne j (by omega) (hje.trans e)
theorem not_nodup_of {l : List Int} {m n : Nat} (hn : n < l.length) (hm : m < n) (h : l[m] = l[n]) : ¬ l.Nodup := by
  intro hd
  have := (List.nodup_iff_pairwise_ne.1 hd)
  rw [List.pairwise_iff_getElem] at this
  exact this m n (by omega) hn hm h

abbrev sText : ByteArray := { data := #[116, 101, 120, 116] }
abbrev sInt : ByteArray := { data := #[105, 110, 116] }
abbrev sBool : ByteArray := { data := #[98, 111, 111, 108] }
def mathsF : List ByteArray := [{ data := #[43] }, { data := #[45] }, { data := #[42] }, { data := #[47] }, { data := #[37] }, { data := #[61, 61] }, { data := #[33, 61] }, { data := #[60] }, { data := #[60, 61] }, { data := #[62] }, { data := #[62, 61] }]

/-- Are all numbers from 0 up to, not with, hi? -/
def inAll (l : List Int) (hi : Int) : Bool := l.all fun x => decide (0 ≤ x) && decide (x ≤ hi - 1)

/-- How many results, arguments, ways an instruction must have; none: there is no such operator. -/
def arity (i : PInstr) : Option (Nat × Nat × Nat) :=
  if i.op = 1 then some (1, 0, 0)
  else if i.op = 2 ∨ i.op = 4 ∨ i.op = 6 then some (1, 1, 0)
  else if i.op = 3 then some (1, 2, 0)
  else if i.op = 5 then some (0, 2, 0)
  else if i.op = 7 then some (i.ds.length, i.ars.length, 0)
  else if i.op = 8 ∨ i.op = 12 then some (0, i.ars.length, 0)
  else if i.op = 9 then some (0, 0, 1)
  else if i.op = 10 then some (0, 1, 2)
  else if i.op = 11 then some (0, 1, if i.to.length = 0 then 1 else i.to.length)
  else if i.op = 13 then some (0, 0, 0)
  else none

def nameAt (s : ByteArray) (fs : List PCode) : Int := firstOf (fun c => decide (c.name = s)) fs 0

def invokeFaultF (fs : List PCode) (i : PInstr) : Int :=
  if nameAt i.s fs < 0 then 6
  else match fs[(nameAt i.s fs).toNat]? with
    | none => 6
    | some f => if (i.ars.length : Int) ≠ f.params ∨ (i.ds.length : Int) ≠ f.results then 10 else if i.ds.Nodup then 0 else 7

def instrFaultF (fs : List PCode) (vars results : Int) (nb : Nat) (i : PInstr) : Int :=
  match arity i with
  | none => 3
  | some (d, a, t) =>
    if i.ds.length ≠ d ∨ i.ars.length ≠ a ∨ i.to.length ≠ t then 10
    else if (inAll i.ds vars && inAll i.ars vars && inAll i.to nb) = false then 2
    else if i.op = 3 then (if i.s ∈ mathsF then 0 else 4)
    else if i.op = 8 then
      (if i.s = sText then (if i.ars.length = 2 then 0 else 10) else if i.s = sInt ∨ i.s = sBool then (if i.ars.length = 1 then 0 else 10) else 4)
    else if i.op = 12 then (if (i.ars.length : Int) = results then 0 else 10)
    else if i.op = 13 then (if 2 ≤ i.n ∧ i.n ≤ 5 then 0 else 4)
    else if i.op = 7 then invokeFaultF fs i
    else 0

def closesF (op : Int) : Bool := decide (9 ≤ op) && decide (op ≤ 13)

def blockF (g : PInstr → Int) : List PInstr → Int
  | [] => 0
  | i :: r => if g i ≠ 0 then g i else if closesF i.op ≠ r.isEmpty then 4 else blockF g r
def blocksF (g : PInstr → Int) (most : Nat) : List (List PInstr) → Nat → Int
  | [], _ => 0
  | b :: r, all => if b.length = 0 then 6 else if most < all + b.length then 1 else if blockF g b ≠ 0 then blockF g b else blocksF g most r (all + b.length)

def codeFaultF (fs : List PCode) (c : PCode) : Int :=
  if c.blocks.length = 0 then 6
  else if 2000 < c.blocks.length ∨ 3000 < c.vars ∨ 16 < c.params ∨ 16 < c.results then 1
  else if c.params < 0 ∨ c.results < 0 ∨ c.vars < c.params ∨ c.slots ≠ 0 then 2
  else blocksF (instrFaultF fs c.vars c.results c.blocks.length) 6000 c.blocks 0

def codesF (g : PCode → Int) : List PCode → Int
  | [] => 0
  | c :: r => if g c ≠ 0 then g c else codesF g r

def headsFault (p : PProg) : Int :=
  if p.funcs.length = 0 then 6
  else if 20000 < p.data.length ∨ 40 < p.funcs.length then 1
  else if ¬ (p.funcs.map (·.name)).Nodup then 7
  else if ((p.funcs.headD default).params + (p.funcs.headD default).results) % 18446744073709551616 ≠ 0 then 10
  else 0
def programFaultF (p : PProg) : Int := if headsFault p ≠ 0 then headsFault p else codesF (codeFaultF p.funcs) p.funcs

def machineInstrFaultF (fs : List PCode) (vars slots results : Int) (nb : Nat) (i : PInstr) : Int :=
  if i.op = 21 ∨ i.op = 22 then
    if i.ds.length ≠ (if i.op = 22 then 0 else 1) ∨ i.ars.length ≠ (if i.op = 22 then 1 else 0) ∨ i.to.length ≠ 0 then 10
    else if (inAll i.ds vars && inAll i.ars vars && decide (0 ≤ i.n) && decide (i.n ≤ slots - 1)) = false then 2
    else 0
  else instrFaultF fs (if i.op = 7 ∨ i.op = 12 then slots else vars) results nb i

def machineCodeFaultF (fs : List PCode) (c : PCode) : Int :=
  if c.blocks.length = 0 then 6
  else if 2000 < c.blocks.length ∨ 8 < c.vars ∨ 3000 < c.slots ∨ 16 < c.params ∨ 16 < c.results then 1
  else if c.params < 0 ∨ c.results < 0 ∨ c.vars < 0 ∨ c.slots < c.params then 2
  else blocksF (machineInstrFaultF fs c.vars c.slots c.results c.blocks.length) 36000 c.blocks 0
def machineFaultF (p : PProg) : Int := if headsFault p ≠ 0 then headsFault p else codesF (machineCodeFaultF p.funcs) p.funcs

theorem instrFaultF_count {fs : List PCode} {vars results : Int} {nb d a t : Nat} {x : PInstr} (h : arity x = some (d, a, t)) (hc : x.ds.length ≠ d ∨ x.ars.length ≠ a ∨ x.to.length ≠ t) : instrFaultF fs vars results nb x = 10 := by
  unfold instrFaultF
  rw [h]
  simp only [if_pos hc]
theorem instrFaultF_range {fs : List PCode} {vars results : Int} {nb : Nat} {x : PInstr} (h : arity x = some (x.ds.length, x.ars.length, x.to.length)) (hc : (inAll x.ds vars && inAll x.ars vars && inAll x.to nb) = false) : instrFaultF fs vars results nb x = 2 := by
  unfold instrFaultF
  rw [h]
  simp [hc]
theorem instrFaultF_good {fs : List PCode} {vars results : Int} {nb : Nat} {x : PInstr} (h : arity x = some (x.ds.length, x.ars.length, x.to.length)) (hc : (inAll x.ds vars && inAll x.ars vars && inAll x.to nb) = true) : instrFaultF fs vars results nb x =
    if x.op = 3 then (if x.s ∈ mathsF then 0 else 4)
    else if x.op = 8 then
      (if x.s = sText then (if x.ars.length = 2 then 0 else 10) else if x.s = sInt ∨ x.s = sBool then (if x.ars.length = 1 then 0 else 10) else 4)
    else if x.op = 12 then (if (x.ars.length : Int) = results then 0 else 10)
    else if x.op = 13 then (if 2 ≤ x.n ∧ x.n ≤ 5 then 0 else 4)
    else if x.op = 7 then invokeFaultF fs x
    else 0 := by
  conv => lhs; unfold instrFaultF
  rw [h]
  simp [hc]
theorem blocksF_at {g : PInstr → Int} {most : Nat} {l : List (List PInstr)} {i all : Nat} (hi : i < l.length) :
    blocksF g most (l.drop i) all = if l[i].length = 0 then 6 else if most < all + l[i].length then 1 else if blockF g l[i] ≠ 0 then blockF g l[i] else blocksF g most (l.drop (i + 1)) (all + l[i].length) := by
  rw [List.drop_eq_getElem_cons hi]; rfl
theorem blockF_at {g : PInstr → Int} {b : List PInstr} {k : Nat} (hk : k < b.length) :
    blockF g (b.drop k) = if g b[k] ≠ 0 then g b[k] else if closesF b[k].op ≠ decide (k + 1 = b.length) then 4 else blockF g (b.drop (k + 1)) := by
  rw [List.drop_eq_getElem_cons hk]
  conv => lhs; unfold blockF
  have : (b.drop (k + 1)).isEmpty = decide (k + 1 = b.length) := by
    rw [Bool.eq_iff_iff, List.isEmpty_iff, List.drop_eq_nil_iff]
    simp; omega
  rw [this]
end Go.Pst

/-
  The reference's small words: In, allIn, isIn, isMath, closes, funcNamed.
-/
namespace Go.Proofs.YtaomlfbcfmmhlaaDoor
open Go.RowKit Go.Pst
set_option linter.unusedVariables false

theorem refIn_any (x lo hi : Int) (w : World) :
    Calls Tryd.prog 48 #[.int .i64 x, .int .i64 lo, .int .i64 hi] w fun e w' => e = .returned (.bool (decide (lo ≤ x) && decide (x ≤ hi))) ∧ w = w' := by
  go_enter Tryd.func48, Tryd.ntmps48
  by_cases h : lo ≤ x
  · have h1 : decide (x ≥ lo) = true := decide_eq_true h
    go_wp2
    go_ret
    exact ⟨by simp [h], rfl⟩
  · have h1 : decide (x ≥ lo) = false := decide_eq_false h
    go_wp2
    go_ret
    exact ⟨by simp, rfl⟩

theorem closes_any (x : Int) (w : World) :
    Calls Tryd.prog 58 #[.int .i64 x] w fun e w' => e = .returned (.bool (closesF x)) ∧ w = w' := by
  go_enter Tryd.func58, Tryd.ntmps58
  go_wp2_with fail
  refine (refIn_any x 9 13 w).mono ?_
  rintro e w1 ⟨rfl, rfl⟩
  go_wp2_with fail
  go_ret
  exact ⟨rfl, rfl⟩

set_option maxHeartbeats 400000 in
theorem allIn_any (lo hi : Int) (a : Option Addr) (l : List Int) (cap : Nat) (w : World) (hl : l.length ≤ 9223372036854775807) (hat : IntsAt w a l) :
    Calls Tryd.prog 39 #[.slice a l.length cap, .int .i64 lo, .int .i64 hi] w fun e w' => e = .returned (.bool (l.all fun x => decide (lo ≤ x) && decide (x ≤ hi))) ∧ w = w' := by
  go_enter Tryd.func39, Tryd.ntmps39
  go_wp2_with fail
  go_loop [7] (fun i => ∃ k : Nat, k ≤ l.length ∧ i = .int .i64 k ∧ (l.all fun x => decide (lo ≤ x) && decide (x ≤ hi)) = ((l.drop k).all fun x => decide (lo ≤ x) && decide (x ≤ hi))) (fun i => l.length - (intOf i).toNat)
  case atStart => exact ⟨0, Nat.zero_le _, rfl, by simp⟩
  case round =>
    obtain ⟨k, hk, rfl, hf⟩ := hrel
    have Hf := Lib.hid hf
    clear hf
    by_cases hlt : k < l.length
    · obtain ⟨b, off, rfl, hb, hc⟩ := hat k hlt
      have hlt1 : (k : Int) < (l.length : Int) := by omega
      have hd : l.drop k = l[k] :: l.drop (k + 1) := List.drop_eq_getElem_cons hlt
      have Hd := Lib.hid hd
      clear hd hat
      generalize l[k] = y at *
      go_wp2_with fail
      refine (refIn_any y lo hi w).mono ?_
      rintro e w1 ⟨rfl, rfl⟩
      cases he : (decide (lo ≤ y) && decide (y ≤ hi)) with
      | true =>
        have He := Lib.hid he
        clear he
        go_wp2_with fail
        go_round
        case rel => exact ⟨k + 1, by omega, by go_num, by rw [Hf.out, Hd.out, List.all_cons, He.out, Bool.true_and]⟩
        case measure => simp [intOf]; omega
      | false =>
        have He := Lib.hid he
        clear he
        go_wp2_with fail
        go_ret
        exact ⟨by rw [Hf.out, Hd.out, List.all_cons, He.out, Bool.false_and]; rfl, rfl⟩
    · have hke : k = l.length := by omega
      subst hke
      go_wp2
      go_ret
      exact ⟨by rw [Hf.out]; simp, rfl⟩

set_option maxHeartbeats 400000 in
theorem isIn_any (s : ByteArray) (a : Option Addr) (l : List ByteArray) (cap : Nat) (w : World) (hl : l.length ≤ 9223372036854775807) (hat : StrsAt w a l) :
    Calls Tryd.prog 144 #[.slice a l.length cap, .string s] w fun e w' => e = .returned (.bool (decide (s ∈ l))) ∧ w = w' := by
  go_enter Tryd.func144, Tryd.ntmps144
  go_wp2_with fail
  go_loop [5] (fun i => ∃ k : Nat, k ≤ l.length ∧ i = .int .i64 k ∧ (s ∈ l ↔ s ∈ l.drop k)) (fun i => l.length - (intOf i).toNat)
  case atStart => exact ⟨0, Nat.zero_le _, rfl, by simp⟩
  case round =>
    obtain ⟨k, hk, rfl, hf⟩ := hrel
    have Hf := Lib.hid hf
    clear hf
    by_cases hlt : k < l.length
    · obtain ⟨b, off, rfl, hb, hc⟩ := hat k hlt
      have hlt1 : (k : Int) < (l.length : Int) := by omega
      have hd : l.drop k = l[k] :: l.drop (k + 1) := List.drop_eq_getElem_cons hlt
      have Hd := Lib.hid hd
      clear hd hat
      generalize l[k] = y at *
      by_cases he : y = s
      · subst he
        go_wp2_with fail
        go_ret
        exact ⟨by rw [decide_eq_true (Hf.out.2 (by rw [Hd.out]; simp))]; rfl, rfl⟩
      · have he1 := str_ne he
        have He := Lib.hid he
        clear he
        go_wp2_with fail
        go_round
        case rel => exact ⟨k + 1, by omega, by go_num, by rw [Hf.out, Hd.out, List.mem_cons]; exact ⟨fun h => h.resolve_left (fun e => He.out e.symm), Or.inr⟩⟩
        case measure => simp [intOf]; omega
    · have hke : k = l.length := by omega
      subst hke
      go_wp2
      go_ret
      exact ⟨by rw [decide_eq_false (fun h => by simpa using Hf.out.1 h)]; rfl, rfl⟩

theorem mathsAt (w : World) (t : TypeId) : StrsAt (w.alloc (.cells #[.string { data := #[43] }, .string { data := #[45] }, .string { data := #[42] }, .string { data := #[47] }, .string { data := #[37] }, .string { data := #[61, 61] }, .string { data := #[33, 61] }, .string { data := #[60] }, .string { data := #[60, 61] }, .string { data := #[62] }, .string { data := #[62, 61] }] t)) (some ⟨w.heap.size, 0, none⟩) mathsF := by
  intro i hi
  refine ⟨w.heap.size, 0, rfl, by simp, ?_⟩
  have hi' : i < 11 := hi
  rw [World.cell?_alloc_at _ _ _ _ rfl]
  match i, hi' with
  | 0, _ | 1, _ | 2, _ | 3, _ | 4, _ | 5, _ | 6, _ | 7, _ | 8, _ | 9, _ | 10, _ => rfl

set_option maxHeartbeats 400000 in
theorem isMath_any (s : ByteArray) (w : World) :
    Calls Tryd.prog 98 #[.string s] w fun e w' => e = .returned (.bool (decide (s ∈ mathsF))) ∧ Below w.heap.size w w' := by
  go_enter Tryd.func98, Tryd.ntmps98
  go_wp2_with fail
  refine (isIn_any s _ mathsF 11 _ (by decide) (mathsAt _ _)).mono ?_
  rintro e w1 ⟨rfl, rfl⟩
  go_wp2_with fail
  go_ret
  exact ⟨rfl, (Below.refl _ _).alloc (Nat.le_refl _) _⟩

set_option maxHeartbeats 400000 in
theorem funcNamed_any (s : ByteArray) (fs : List PCode) (v0 v1 : Value) (w : World) (h : rCodes (fun _ => True) w [v0] fs) :
    Calls Tryd.prog 99 #[.agg #[v0, v1], .string s] w fun e w' => e = .returned (.int .i64 (nameAt s fs)) ∧ Below w.heap.size w w' := by
  obtain ⟨a, cap, rfl, hcap, hmax, hat⟩ := rCodes_val h
  unfold maxLen at hmax
  clear h
  go_enter Tryd.func99, Tryd.ntmps99
  go_wp2_with fail
  go_loop [5] (fun i => ∃ k : Nat, k ≤ fs.length ∧ i = .int .i64 k ∧ nameAt s fs = firstOf (fun c => decide (c.name = s)) (fs.drop k) k) (fun i => fs.length - (intOf i).toNat)
  case atStart => exact ⟨0, Nat.zero_le _, rfl, by simp [nameAt]⟩
  case round =>
    obtain ⟨k, hk, rfl, hf⟩ := hrel
    have Hf := Lib.hid hf
    clear hf
    by_cases hlt : k < fs.length
    · obtain ⟨b, off, v5, rfl, -, hb, hc, -⟩ := hat k hlt
      have hlt1 : (k : Int) < (fs.length : Int) := by omega
      have hd : fs.drop k = fs[k] :: fs.drop (k + 1) := List.drop_eq_getElem_cons hlt
      have Hd := Lib.hid hd
      clear hd hat
      generalize fs[k] = y at *
      by_cases he : y.name = s
      · have he1 := str_eq he
        have He := Lib.hid he
        clear he
        go_wp2_with fail
        go_ret
        exact ⟨by rw [Hf.out, Hd.out]; simp [firstOf, He.out], (Below.refl _ _).alloc (Nat.le_refl _) _⟩
      · have he1 := str_ne he
        have He := Lib.hid he
        clear he
        go_wp2_with fail
        go_round
        case rel => exact ⟨k + 1, by omega, by go_num, by rw [Hf.out, Hd.out]; simp [firstOf, He.out]⟩
        case measure => simp [intOf]; omega
    · have hke : k = fs.length := by omega
      subst hke
      go_wp2
      go_ret
      exact ⟨by rw [Hf.out]; simp [firstOf], (Below.refl _ _).alloc (Nat.le_refl _) _⟩
end Go.Proofs.YtaomlfbcfmmhlaaDoor

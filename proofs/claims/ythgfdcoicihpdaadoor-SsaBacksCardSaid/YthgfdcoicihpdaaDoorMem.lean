/-
  Plain laws on memory, for any program: how a list, a struct, a string of Go reads in memory as plain data ('Rep'), that such readings stay while their blocks stay ('Keep'), and how the readings of the given statements ('DataW.trod') give them. Nothing is proved here of the program.
-/
import Derived.WalkKit
import Derived.WalkSpells
import Derived.WalkLawsBesides
import Derived.BigQuiet
import Derived.Deep.QuietTactic
import Derived.Deep.LoopGhost
import Derived.Deep.Slices
import Derived.Deep.DeepMust
import Derived.Deep.DeepFit
import Derived.SizedLaws
import Derived.Lib.Hide
namespace Go.Pst
open Go.RowKit

/-- A reading of cells as plain data: of the blocks that S allows alone. -/
abbrev Rep (α : Type) := (Nat → Prop) → World → List Value → α → Prop

/-- w' holds what w holds in the blocks of S. -/
structure Keep (S : Nat → Prop) (w w' : World) : Prop where
  size : w.heap.size ≤ w'.heap.size
  block : ∀ k, k < w.heap.size → S k → w'.heap[k]? = w.heap[k]?

theorem Keep.refl (S : Nat → Prop) (w : World) : Keep S w w := ⟨Nat.le_refl _, fun _ _ _ => rfl⟩
theorem Keep.trans {S : Nat → Prop} {a b c : World} (h : Keep S a b) (k : Keep S b c) : Keep S a c :=
  ⟨Nat.le_trans h.size k.size, fun i hi hs => (k.block i (Nat.lt_of_lt_of_le hi h.size) hs).trans (h.block i hi hs)⟩
theorem Keep.weaken {S S' : Nat → Prop} {w w' : World} (h : Keep S' w w') (hs : ∀ k, k < w.heap.size → S k → S' k) : Keep S w w' :=
  ⟨h.size, fun k hk hS => h.block k hk (hs k hk hS)⟩
theorem Keep.of_below {B : Nat} {w w' : World} (h : Below B w w') : Keep (· < B) w w' := ⟨h.size, fun k _ hk => h.block k hk⟩
theorem Keep.of_below' {S : Nat → Prop} {B : Nat} {w w' : World} (h : Below B w w') (hs : ∀ k, k < w.heap.size → S k → k < B) : Keep S w w' := (Keep.of_below h).weaken hs
theorem Keep.of_grown {S : Nat → Prop} {row : Option Nat} {w w' : World} (h : w.grownBy w' row) (hs : ∀ k, S k → some k ≠ row) : Keep S w w' :=
  ⟨h.size, fun k hk hS => h.block k hk (hs k hS)⟩
theorem Keep.alloc (S : Nat → Prop) (w : World) (o : Obj) : Keep S w (w.alloc o) := ⟨by simp, fun k hk _ => Below.heap_alloc _ _ _ hk⟩
theorem Keep.drew (S : Nat → Prop) (w : World) : Keep S w w.drew := ⟨Nat.le_refl _, fun _ _ _ => rfl⟩
theorem Keep.setCell {S : Nat → Prop} (w : World) (p : Addr) (u : Value) (hs : ¬ S p.block) : Keep S w (w.setCell p u) :=
  ⟨by simp [World.setCell], fun k _ hk => Below.heap_setCell _ _ _ _ (fun e => hs (e ▸ hk))⟩
theorem Keep.cell {S : Nat → Prop} {w w' : World} (h : Keep S w w') {b o : Nat} (hb : b < w.heap.size) (hs : S b) : w'.cell? ⟨b, o, none⟩ = w.cell? ⟨b, o, none⟩ :=
  World.cell?_of_block (w := w) (a := ⟨b, o, none⟩) (h.block b hb hs)

/-- A reading that stays while its blocks stay, and where more blocks are allowed. -/
class Good {α : Type} (R : Rep α) : Prop where
  keep : ∀ {S S' : Nat → Prop} {w w' : World} {cs : List Value} {x : α}, Keep S w w' → (∀ k, k < w.heap.size → S k → S' k) → R S w cs x → R S' w' cs x

theorem Good.kept {α : Type} {R : Rep α} [g : Good R] {S : Nat → Prop} {w w' : World} {cs : List Value} {x : α} (h : Keep S w w') (hR : R S w cs x) : R S w' cs x :=
  g.keep h (fun _ _ h => h) hR
theorem Good.wide {α : Type} {R : Rep α} [g : Good R] {S S' : Nat → Prop} {w : World} {cs : List Value} {x : α} (hR : R S w cs x) (h : ∀ k, k < w.heap.size → S k → S' k) : R S' w cs x :=
  g.keep (Keep.refl S w) h hR

/-! ### Plain values -/
def InI (n : Int) : Prop := -9223372036854775808 ≤ n ∧ n ≤ 9223372036854775807
def rInt : Rep Int := fun _ _ cs n => cs = [.int .i64 n] ∧ InI n
def rBool : Rep Bool := fun _ _ cs b => cs = [.bool b]
def rStr : Rep ByteArray := fun _ _ cs s => cs = [.string s] ∧ s.size ≤ maxLen
instance : Good rInt := ⟨fun _ _ h => h⟩
instance : Good rBool := ⟨fun _ _ h => h⟩
instance : Good rStr := ⟨fun _ _ h => h⟩

/-! ### A slice of elements of sz cells -/
def rSlice {α : Type} (sz : Nat) (R : Rep α) : Rep (List α) := fun S w cs l =>
  ∃ a cap, cs = [.slice a l.length cap] ∧ l.length ≤ cap ∧ cap ≤ maxLen ∧
    ∀ i (h : i < l.length), ∃ b off es, a = some ⟨b, off, none⟩ ∧ S b ∧ b < w.heap.size ∧ es.length = sz ∧
      (∀ j, j < sz → w.cell? ⟨b, off + i * sz + j, none⟩ = es[j]?) ∧ R S w es l[i]

instance {α : Type} (sz : Nat) (R : Rep α) [g : Good R] : Good (rSlice sz R) := ⟨by
  intro S S' w w' cs l hk hs ⟨a, cap, h1, h2, h3, h4⟩
  refine ⟨a, cap, h1, h2, h3, fun i hi => ?_⟩
  obtain ⟨b, off, es, ha, hS, hb, hl, hc, hR⟩ := h4 i hi
  refine ⟨b, off, es, ha, hs b hb hS, Nat.lt_of_lt_of_le hb hk.size, hl, fun j hj => ?_, g.keep hk hs hR⟩
  rw [hk.cell hb hS]
  exact hc j hj⟩

theorem rSlice_nil {α : Type} (sz : Nat) (R : Rep α) (S : Nat → Prop) (w : World) : rSlice sz R S w [.slice none 0 0] ([] : List α) :=
  ⟨none, 0, rfl, Nat.le_refl _, by decide, fun i h => absurd h (by simp)⟩

/-- The value of a slice that reads as a list. -/
theorem rSlice_val {α : Type} {sz : Nat} {R : Rep α} {S : Nat → Prop} {w : World} {v : Value} {l : List α} (h : rSlice sz R S w [v] l) :
    ∃ a cap, v = .slice a l.length cap ∧ l.length ≤ cap ∧ cap ≤ maxLen ∧
    ∀ i (h : i < l.length), ∃ b off es, a = some ⟨b, off, none⟩ ∧ S b ∧ b < w.heap.size ∧ es.length = sz ∧
      (∀ j, j < sz → w.cell? ⟨b, off + i * sz + j, none⟩ = es[j]?) ∧ R S w es l[i] := by
  obtain ⟨a, cap, h1, h2⟩ := h
  exact ⟨a, cap, by simpa using h1, h2⟩

theorem rSlice_shape {α : Type} {sz : Nat} {R : Rep α} {S : Nat → Prop} {w : World} {v : Value} {l : List α} (h : rSlice sz R S w [v] l) : ∃ a cap, v = .slice a l.length cap := by
  obtain ⟨a, cap, h1, _⟩ := rSlice_val h
  exact ⟨a, cap, h1⟩
/-- A slice whose elements are one cell. -/
theorem rSlice_one {α : Type} {R : Rep α} {S : Nat → Prop} {w : World} {v : Value} {l : List α} (h : rSlice 1 R S w [v] l) :
    ∃ a cap, v = .slice a l.length cap ∧ l.length ≤ cap ∧ cap ≤ maxLen ∧
    ∀ i (h : i < l.length), ∃ b off u, a = some ⟨b, off, none⟩ ∧ S b ∧ b < w.heap.size ∧ w.cell? ⟨b, off + i, none⟩ = some u ∧ R S w [u] l[i] := by
  obtain ⟨a, cap, h1, h2, h3, h4⟩ := rSlice_val h
  refine ⟨a, cap, h1, h2, h3, fun i hi => ?_⟩
  obtain ⟨b, off, es, ha, hS, hb, hl, hc, hR⟩ := h4 i hi
  match es, hl with
  | [u], _ => exact ⟨b, off, u, ha, hS, hb, by simpa using hc 0 (by decide), hR⟩

abbrev rInts : Rep (List Int) := rSlice 1 rInt
abbrev rBools : Rep (List Bool) := rSlice 1 rBool
abbrev rIntss : Rep (List (List Int)) := rSlice 1 rInts

/-- A slice of ints, as a walk wants it. -/
theorem rInts_val {S : Nat → Prop} {w : World} {v : Value} {l : List Int} (h : rInts S w [v] l) :
    ∃ a cap, v = .slice a l.length cap ∧ l.length ≤ cap ∧ cap ≤ maxLen ∧
    ∀ i (h : i < l.length), ∃ b off, a = some ⟨b, off, none⟩ ∧ S b ∧ b < w.heap.size ∧ w.cell? ⟨b, off + i, none⟩ = some (.int .i64 l[i]) ∧ InI l[i] := by
  obtain ⟨a, cap, h1, h2, h3, h4⟩ := rSlice_one h
  refine ⟨a, cap, h1, h2, h3, fun i hi => ?_⟩
  obtain ⟨b, off, u, ha, hS, hb, hc, hR⟩ := h4 i hi
  obtain ⟨hu, hI⟩ := hR
  obtain rfl : u = .int .i64 l[i] := by simpa using hu
  exact ⟨b, off, ha, hS, hb, hc, hI⟩

theorem rBools_val {S : Nat → Prop} {w : World} {v : Value} {l : List Bool} (h : rBools S w [v] l) :
    ∃ a cap, v = .slice a l.length cap ∧ l.length ≤ cap ∧ cap ≤ maxLen ∧
    ∀ i (h : i < l.length), ∃ b off, a = some ⟨b, off, none⟩ ∧ S b ∧ b < w.heap.size ∧ w.cell? ⟨b, off + i, none⟩ = some (.bool l[i]) := by
  obtain ⟨a, cap, h1, h2, h3, h4⟩ := rSlice_one h
  refine ⟨a, cap, h1, h2, h3, fun i hi => ?_⟩
  obtain ⟨b, off, u, ha, hS, hb, hc, hR⟩ := h4 i hi
  obtain rfl : u = .bool l[i] := by simpa [rBool] using hR
  exact ⟨b, off, ha, hS, hb, hc⟩

/-! ### Rows that the call itself made -/
/-- An owned row of one-cell elements reads as a list. -/
theorem rSlice_own {α : Type} {R : Rep α} {S : Nat → Prop} {w : World} {base : Nat} {e : TypeId} {v : Value} {l : List α} {xs : List Value}
    (h : w.ownsRow base e 1 v l.length xs) (hS : ∀ k, v.ownBlock = some k → S k) (hR : ∀ i (hi : i < l.length), ∃ u, xs[i]? = some u ∧ R S w [u] l[i]) : rSlice 1 R S w [v] l := by
  obtain ⟨hx, h⟩ := h
  rcases h with ⟨rfl, h0⟩ | ⟨g, cap, cur, rfl, hb, hg, hn, hm, hc, ht⟩
  · have : l = [] := List.eq_nil_of_length_eq_zero h0
    subst this
    exact rSlice_nil _ _ _ _
  · refine ⟨_, cap, rfl, hn, hm, fun i hi => ?_⟩
    obtain ⟨u, hu, hRu⟩ := hR i hi
    refine ⟨g, 0, [u], rfl, hS g (by simp [Value.ownBlock]), (Array.getElem?_eq_some_iff.1 hg).1, rfl, fun j hj => ?_, hRu⟩
    obtain rfl : j = 0 := by omega
    have : w.cell? ⟨g, i, none⟩ = cur[i]? := by simp [World.cell?, hg]
    simp only [Nat.mul_one, Nat.zero_add, Nat.add_zero]
    rw [this]
    rw [← ht, List.getElem?_take] at hu
    simp only [Nat.mul_one] at hu
    rw [if_pos hi] at hu
    simpa using hu

theorem rInts_own {S : Nat → Prop} {w : World} {base : Nat} {e : TypeId} {v : Value} {l : List Int}
    (h : w.ownsRow base e 1 v l.length (l.map (Value.int .i64))) (hS : ∀ k, v.ownBlock = some k → S k) (hI : ∀ x ∈ l, InI x) : rInts S w [v] l :=
  rSlice_own h hS fun i hi => ⟨.int .i64 l[i], by simp [hi], rfl, hI _ (List.getElem_mem hi)⟩
theorem rBools_own {S : Nat → Prop} {w : World} {base : Nat} {e : TypeId} {v : Value} {l : List Bool}
    (h : w.ownsRow base e 1 v l.length (l.map Value.bool)) (hS : ∀ k, v.ownBlock = some k → S k) : rBools S w [v] l :=
  rSlice_own h hS fun i hi => ⟨.bool l[i], by simp [hi], rfl⟩

/-- From 'for every i < n there is a y' to one list. -/
theorem list_of_lt {α : Type} {n : Nat} {p : Nat → α → Prop} (h : ∀ i, i < n → ∃ y, p i y) : ∃ l : List α, l.length = n ∧ ∀ i (hi : i < l.length), p i l[i] := by
  induction n with
  | zero => exact ⟨[], rfl, fun i hi => absurd hi (by simp)⟩
  | succ n ih =>
    obtain ⟨l, hll, hl2⟩ := ih (fun i hi => h i (by omega))
    obtain ⟨y, hy⟩ := h n (by omega)
    refine ⟨l ++ [y], by simp [hll], fun i hi => ?_⟩
    by_cases hi' : i < l.length
    · rw [List.getElem_append_left hi']
      exact hl2 i hi'
    · have : i = n := by simp at hi; omega
      subst this
      rw [List.getElem_append_right (by omega)]
      simpa [hll] using hy

/-! ### From the readings of the statements -/
section
variable {H : Type} {enc : TypeId × Value → H} {P : Program} {w : World}

/-- Whatever reads at type t with fuel n reads by R; what is read is within Bd, as the reach says. -/
def OpensN (enc : TypeId × Value → H) (P : Program) (w : World) (fuel : Nat) (t : TypeId) {α : Type} (R : Rep α) (Bd : α → Prop) : Prop :=
  ∀ (cs : List Value) (x : DataW H × List MemPlace), DataW.trod enc P w 0 (fun _ => true) true fuel t cs = some x → (∀ n ∈ x.1.weights P t, n ≤ reachBytes) →
    ∃ y, R (fun _ => True) w cs y ∧ Bd y
/-- .. with whatever fuel. -/
def Opens (enc : TypeId × Value → H) (P : Program) (w : World) (t : TypeId) {α : Type} (R : Rep α) (Bd : α → Prop) : Prop := ∀ fuel, OpensN enc P w fuel t R Bd

theorem opens_int {t : TypeId} (ht : P.underlying t = some (.int .i64)) : Opens enc P w t rInt (fun _ => True) := by
  intro fuel cs x h _
  obtain ⟨n, rfl, rfl, hw⟩ := DataW.trod_int ht h
  exact ⟨n, ⟨rfl, by simpa [Lit.wf, IntKind.min, IntKind.max, IntKind.signed, IntKind.bits, InI] using hw⟩, trivial⟩
theorem opens_bool {t : TypeId} (ht : P.underlying t = some .bool) : Opens enc P w t rBool (fun _ => True) := by
  intro fuel cs x h _
  obtain ⟨b, rfl, rfl⟩ := DataW.trod_bool ht h
  exact ⟨b, rfl, trivial⟩
theorem opens_str {t : TypeId} (ht : P.underlying t = some .string) : Opens enc P w t rStr (fun s => s.size ≤ reachBytes) := by
  intro fuel cs x h hw
  obtain ⟨s, rfl, rfl, hm⟩ := DataW.trod_string ht h
  exact ⟨s, ⟨rfl, hm⟩, by simpa using hw s.data.toList.length (by simp [DataW.weights])⟩

theorem weightsAll_mem {e : TypeId} : ∀ {l : List (DataW H)} {d : DataW H}, d ∈ l → ∀ n ∈ d.weights P e, n ∈ DataW.weightsAll P e l
  | d' :: r, d, hd, n, hn => by
    simp only [DataW.weightsAll, List.mem_append]
    rcases List.mem_cons.1 hd with rfl | h
    · exact Or.inl hn
    · exact Or.inr (weightsAll_mem h n hn)

theorem opens_sliceN {t e : TypeId} {sz bytes fuel : Nat} {α : Type} {R : Rep α} {Bd : α → Prop} (ht : P.underlying t = some (.slice e)) (hsz : P.cellsOf e = sz) (hby : P.bytesOf e = bytes) (hpos : 0 < sz)
    (he : ∀ n, fuel = n + 1 → OpensN enc P w n e R Bd) : OpensN enc P w fuel t (rSlice sz R) (fun l => l.length * bytes ≤ reachBytes ∧ ∀ x ∈ l, Bd x) := by
  intro cs x h hw
  rcases DataW.trod_slice ht h with ⟨rfl, rfl⟩ | ⟨a, len, cap, elems, rest, n, hfuel, rfl, rfl, _, hl, hm, hlen, hel, _, _⟩
  · exact ⟨[], rSlice_nil _ _ _ _, by simp, by simp⟩
  · have hmem : ∀ y ∈ elems, ∀ k ∈ y.1.weights P e, k ≤ reachBytes := by
      intro y hy k hk
      refine hw k ?_
      simp only [DataW.weights, ht, List.mem_cons, List.mem_append]
      exact Or.inr (Or.inl (weightsAll_mem (List.mem_map.2 ⟨y, hy, rfl⟩) k hk))
    have hex : ∀ i, i < len → ∃ y, (∃ cs', w.cells? 0 (a.add (i * P.cellsOf e)) (P.cellsOf e) = some cs' ∧ R (fun _ => True) w cs' y) ∧ Bd y := by
      intro i hi
      have h1 := hel i hi
      rw [List.getElem?_eq_getElem (by omega)] at h1
      obtain ⟨cs', h2, h3⟩ := Option.bind_eq_some_iff.1 h1
      obtain ⟨y, hy, hb⟩ := he n hfuel cs' _ h3 (hmem _ (List.getElem_mem _))
      exact ⟨y, ⟨cs', h2, hy⟩, hb⟩
    obtain ⟨l, hll, hl2⟩ := list_of_lt hex
    refine ⟨l, ⟨some a, cap, by rw [hll], by omega, hm, fun i hi => ?_⟩, ?_, fun y hy => ?_⟩
    · obtain ⟨⟨cs', h1, h2⟩, _⟩ := hl2 i hi
      obtain ⟨_, hcl, hcell⟩ := World.cells?_some h1
      obtain ⟨b, off, spot⟩ := a
      have hspot : spot = none := by
        obtain ⟨⟨cs0, h10, _⟩, _⟩ := hl2 0 (by omega)
        obtain ⟨_, hlen0, hcell0⟩ := World.cells?_some h10
        have h00 := hcell0 0 (by omega)
        rw [List.getElem?_eq_getElem (by omega)] at h00
        simpa [Addr.add] using World.cell?_spot h00
      subst hspot
      have hadd : ∀ k, (⟨b, off, none⟩ : Addr).add k = ⟨b, off + k, none⟩ := by intro k; unfold Addr.add; split <;> simp_all
      have hblk : b < w.heap.size := by
        have h0 := hcell 0 (by omega)
        rw [List.getElem?_eq_getElem (by omega), hadd, Addr.add] at h0
        simpa using World.block_lt_of_cell? w _ h0
      refine ⟨b, off, cs', rfl, trivial, hblk, by omega, fun j hj => ?_, h2⟩
      have := hcell j (by omega)
      rw [hadd, hsz] at this
      rw [← this]
      unfold Addr.add
      split <;> simp_all
    · rw [hll]
      have := hw (((elems.map (·.1)).length + (rest.map (·.1)).length) * P.bytesOf e) (by simp [DataW.weights, ht])
      simp only [List.length_map, hby, hlen] at this
      exact Nat.le_trans (Nat.mul_le_mul_right _ (Nat.le_add_right _ _)) this
    · obtain ⟨i, hi, rfl⟩ := List.mem_iff_getElem.1 hy
      exact (hl2 i hi).2
theorem opens_slice {t e : TypeId} {sz bytes : Nat} {α : Type} {R : Rep α} {Bd : α → Prop} (ht : P.underlying t = some (.slice e)) (hsz : P.cellsOf e = sz) (hby : P.bytesOf e = bytes) (hpos : 0 < sz)
    (he : Opens enc P w e R Bd) : Opens enc P w t (rSlice sz R) (fun l => l.length * bytes ≤ reachBytes ∧ ∀ x ∈ l, Bd x) :=
  fun _ => opens_sliceN ht hsz hby hpos fun n _ => he n
end
end Go.Pst

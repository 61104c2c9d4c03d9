/-
  What is wrong with code, with machine code, with programs: plain functions (P3.1 .. P3.3, P7.1, P7.2).
-/
import Derived.Test.YthgfdcoicihpdaaDoorMemCodes
import Derived.Lib.SlicesS
namespace Go.Pst
open Go.RowKit

instance : LawfulBEq ByteArray where
  rfl := by intro a; show (a.data == a.data) = true; simp
  eq_of_beq := by
    intro a b h
    have h' : (a.data == b.data) = true := h
    cases a; cases b
    simpa using h'

/-! The boxes of two or three arguments. -/
theorem box2_1 (w : World) (A : Array Value) (t : TypeId) (o2 : Obj) (j : Nat) : ((w.alloc (.cells A t)).alloc o2).cell? ⟨w.heap.size, j, none⟩ = A[j]? := by
  rw [World.cell?_alloc_lt _ _ _ (by simp), World.cell?_alloc_at _ _ _ _ rfl]
theorem box2_2 (w : World) (o1 : Obj) (A : Array Value) (t : TypeId) (j : Nat) : ((w.alloc o1).alloc (.cells A t)).cell? ⟨w.heap.size + 1, j, none⟩ = A[j]? := by
  rw [World.cell?_alloc_at _ _ _ _ (by simp)]
theorem below_box2 (w : World) (o1 o2 : Obj) : Below w.heap.size w ((w.alloc o1).alloc o2) := ((Below.refl _ _).alloc (Nat.le_refl _) _).alloc (by simp) _
theorem box3_1 (w : World) (A : Array Value) (t : TypeId) (o2 o3 : Obj) (j : Nat) : (((w.alloc (.cells A t)).alloc o2).alloc o3).cell? ⟨w.heap.size, j, none⟩ = A[j]? := by
  rw [World.cell?_alloc_lt _ _ _ (by simp; omega), World.cell?_alloc_lt _ _ _ (by simp), World.cell?_alloc_at _ _ _ _ rfl]
theorem box3_2 (w : World) (o1 : Obj) (A : Array Value) (t : TypeId) (o3 : Obj) (j : Nat) : (((w.alloc o1).alloc (.cells A t)).alloc o3).cell? ⟨w.heap.size + 1, j, none⟩ = A[j]? := by
  rw [World.cell?_alloc_lt _ _ _ (by simp), World.cell?_alloc_at _ _ _ _ (by simp)]
theorem box3_3 (w : World) (o1 o2 : Obj) (A : Array Value) (t : TypeId) (j : Nat) : (((w.alloc o1).alloc o2).alloc (.cells A t)).cell? ⟨w.heap.size + 1 + 1, j, none⟩ = A[j]? := by
  rw [World.cell?_alloc_at _ _ _ _ (by simp)]
theorem below_box3 (w : World) (o1 o2 o3 : Obj) : Below w.heap.size w (((w.alloc o1).alloc o2).alloc o3) := (((Below.refl _ _).alloc (Nat.le_refl _) _).alloc (by simp) _).alloc (by simp; omega) _

/-- How a walk compares strings. -/
theorem str_eq {x y : ByteArray} (h : x = y) : (x.toList == y.toList) = true := (Go.Lib.bytes_beq_iff x y).2 h
theorem str_ne {x y : ByteArray} (h : ¬ x = y) : (x.toList == y.toList) = false := (Go.Lib.bytes_beq_false_iff x y).2 h

/-- .. with a constant's bytes written out. -/
theorem str_eqc {x y : ByteArray} (h : x = y) : (x.toList == y.data.toList) = true := by rw [← ByteArray.toList_eq]; exact str_eq h
theorem str_nec {x y : ByteArray} (h : ¬ x = y) : (x.toList == y.data.toList) = false := by rw [← ByteArray.toList_eq]; exact str_ne h

/-- The first place of a list that a predicate takes, or -1. -/
def firstOf {α : Type} (p : α → Bool) : List α → Nat → Int
  | [], _ => -1
  | y :: r, k => if p y = true then (k : Int) else firstOf p r (k + 1)
theorem firstOf_ge {α : Type} (p : α → Bool) : ∀ (l : List α) (k : Nat), decide (0 ≤ firstOf p l k) = l.any p
  | [], k => by simp [firstOf]
  | y :: r, k => by
    unfold firstOf
    by_cases h : p y = true
    · simp [h]
    · simp [h, firstOf_ge p r (k + 1)]
theorem firstOf_spec {α : Type} (p : α → Bool) : ∀ (l : List α) (k : Nat), firstOf p l k = -1 ∧ l.any p = false ∨ ∃ i, ∃ h : i < l.length, firstOf p l k = (k + i : Nat) ∧ p l[i] = true ∧ ∀ j (hj : j < i), p (l[j]'(Nat.lt_trans hj h)) = false
  | [], k => Or.inl ⟨rfl, rfl⟩
  | y :: r, k => by
    unfold firstOf
    by_cases h : p y = true
    · exact Or.inr ⟨0, by simp, by simp [h], by simpa using h, fun j hj => absurd hj (by omega)⟩
    · rcases firstOf_spec p r (k + 1) with ⟨h1, h2⟩ | ⟨i, hi, h1, h2, h3⟩
      · exact Or.inl ⟨by simp [h, h1], by simp [h, h2]⟩
      · refine Or.inr ⟨i + 1, by simp; omega, by rw [if_neg h, h1]; congr 1; omega, by simpa using h2, fun j hj => ?_⟩
        rcases j with _ | j
        · simpa using h
        · simpa using h3 j (by omega)
theorem firstOf_range {α : Type} (p : α → Bool) (l : List α) : -1 ≤ firstOf p l 0 ∧ firstOf p l 0 < l.length := by
  rcases firstOf_spec p l 0 with ⟨h, _⟩ | ⟨i, hi, h, _⟩
  · omega
  · omega

theorem nodup_take_succ {l : List Int} {n : Nat} (hn : n < l.length) (h : (l.take n).Nodup) (hne : ∀ j (hj : j < n), ¬ l[j] = l[n]) : (l.take (n + 1)).Nodup := by
  rw [List.take_succ_eq_append_getElem hn, List.nodup_append]
  refine ⟨h, by simp, ?_⟩
  intro a ha b hb e
  rw [List.mem_singleton] at hb
  subst hb
  obtain ⟨j, hj, hje⟩ := List.mem_iff_getElem.1 ha
  rw [List.length_take] at hj
  rw [List.getElem_take] at hje
  exact hne j (by omega) (hje.trans e)
theorem not_nodup_of {l : List Int} {m n : Nat} (hn : n < l.length) (hm : m < n) (h : l[m] = l[n]) : ¬ l.Nodup := by
  intro hd
  have := (List.nodup_iff_pairwise_ne.1 hd)
  rw [List.pairwise_iff_getElem] at this
  exact this m n (by omega) hn hm h

abbrev sText : ByteArray := { data := #[116, 101, 120, 116] }
abbrev sInt : ByteArray := { data := #[105, 110, 116] }
abbrev sBool : ByteArray := { data := #[98, 111, 111, 108] }
def mathsF : List ByteArray := [{ data := #[43] }, { data := #[45] }, { data := #[42] }, { data := #[47] }, { data := #[37] }, { data := #[61, 61] }, { data := #[33, 61] }, { data := #[60] }, { data := #[60, 61] }, { data := #[62] }, { data := #[62, 61] }]

/-- Are all numbers from 0 up to, not with, hi? -/
def inAll (l : List Int) (hi : Int) : Bool := l.all fun x => decide (0 ≤ x) && decide (x ≤ hi - 1)

/-- How many results, arguments, ways an instruction must have; none: there is no such operator. -/
def arity (i : PInstr) : Option (Nat × Nat × Nat) :=
  if i.op = 1 then some (1, 0, 0)
  else if i.op = 2 ∨ i.op = 4 ∨ i.op = 6 then some (1, 1, 0)
  else if i.op = 3 then some (1, 2, 0)
  else if i.op = 5 then some (0, 2, 0)
  else if i.op = 7 then some (i.ds.length, i.ars.length, 0)
  else if i.op = 8 ∨ i.op = 12 then some (0, i.ars.length, 0)
  else if i.op = 9 then some (0, 0, 1)
  else if i.op = 10 then some (0, 1, 2)
  else if i.op = 11 then some (0, 1, if i.to.length = 0 then 1 else i.to.length)
  else if i.op = 13 then some (0, 0, 0)
  else none

def nameAt (s : ByteArray) (fs : List PCode) : Int := firstOf (fun c => decide (c.name = s)) fs 0

def invokeFaultF (fs : List PCode) (i : PInstr) : Int :=
  if nameAt i.s fs < 0 then 6
  else match fs[(nameAt i.s fs).toNat]? with
    | none => 6
    | some f => if (i.ars.length : Int) ≠ f.params ∨ (i.ds.length : Int) ≠ f.results then 10 else if i.ds.Nodup then 0 else 7

def instrFaultF (fs : List PCode) (vars results : Int) (nb : Nat) (i : PInstr) : Int :=
  match arity i with
  | none => 3
  | some (d, a, t) =>
    if i.ds.length ≠ d ∨ i.ars.length ≠ a ∨ i.to.length ≠ t then 10
    else if (inAll i.ds vars && inAll i.ars vars && inAll i.to nb) = false then 2
    else if i.op = 3 then (if i.s ∈ mathsF then 0 else 4)
    else if i.op = 8 then
      (if i.s = sText then (if i.ars.length = 2 then 0 else 10) else if i.s = sInt ∨ i.s = sBool then (if i.ars.length = 1 then 0 else 10) else 4)
    else if i.op = 12 then (if (i.ars.length : Int) = results then 0 else 10)
    else if i.op = 13 then (if 2 ≤ i.n ∧ i.n ≤ 5 then 0 else 4)
    else if i.op = 7 then invokeFaultF fs i
    else 0

def closesF (op : Int) : Bool := decide (9 ≤ op) && decide (op ≤ 13)

def blockF (g : PInstr → Int) : List PInstr → Int
  | [] => 0
  | i :: r => if g i ≠ 0 then g i else if closesF i.op ≠ r.isEmpty then 4 else blockF g r
def blocksF (g : PInstr → Int) (most : Nat) : List (List PInstr) → Nat → Int
  | [], _ => 0
  | b :: r, all => if b.length = 0 then 6 else if most < all + b.length then 1 else if blockF g b ≠ 0 then blockF g b else blocksF g most r (all + b.length)

def codeFaultF (fs : List PCode) (c : PCode) : Int :=
  if c.blocks.length = 0 then 6
  else if 2000 < c.blocks.length ∨ 3000 < c.vars ∨ 16 < c.params ∨ 16 < c.results then 1
  else if c.params < 0 ∨ c.results < 0 ∨ c.vars < c.params ∨ c.slots ≠ 0 then 2
  else blocksF (instrFaultF fs c.vars c.results c.blocks.length) 6000 c.blocks 0

def codesF (g : PCode → Int) : List PCode → Int
  | [] => 0
  | c :: r => if g c ≠ 0 then g c else codesF g r

def headsFault (p : PProg) : Int :=
  if p.funcs.length = 0 then 6
  else if 20000 < p.data.length ∨ 40 < p.funcs.length then 1
  else if ¬ (p.funcs.map (·.name)).Nodup then 7
  else if ((p.funcs.headD default).params + (p.funcs.headD default).results) % 18446744073709551616 ≠ 0 then 10
  else 0
def programFaultF (p : PProg) : Int := if headsFault p ≠ 0 then headsFault p else codesF (codeFaultF p.funcs) p.funcs

def machineInstrFaultF (fs : List PCode) (vars slots results : Int) (nb : Nat) (i : PInstr) : Int :=
  if i.op = 21 ∨ i.op = 22 then
    if i.ds.length ≠ (if i.op = 22 then 0 else 1) ∨ i.ars.length ≠ (if i.op = 22 then 1 else 0) ∨ i.to.length ≠ 0 then 10
    else if (inAll i.ds vars && inAll i.ars vars && decide (0 ≤ i.n) && decide (i.n ≤ slots - 1)) = false then 2
    else 0
  else instrFaultF fs (if i.op = 7 ∨ i.op = 12 then slots else vars) results nb i

def machineCodeFaultF (fs : List PCode) (c : PCode) : Int :=
  if c.blocks.length = 0 then 6
  else if 2000 < c.blocks.length ∨ 8 < c.vars ∨ 3000 < c.slots ∨ 16 < c.params ∨ 16 < c.results then 1
  else if c.params < 0 ∨ c.results < 0 ∨ c.vars < 0 ∨ c.slots < c.params then 2
  else blocksF (machineInstrFaultF fs c.vars c.slots c.results c.blocks.length) 36000 c.blocks 0
def machineFaultF (p : PProg) : Int := if headsFault p ≠ 0 then headsFault p else codesF (machineCodeFaultF p.funcs) p.funcs

theorem instrFaultF_count {fs : List PCode} {vars results : Int} {nb d a t : Nat} {x : PInstr} (h : arity x = some (d, a, t)) (hc : x.ds.length ≠ d ∨ x.ars.length ≠ a ∨ x.to.length ≠ t) : instrFaultF fs vars results nb x = 10 := by
  unfold instrFaultF
  rw [h]
  simp only [if_pos hc]
theorem instrFaultF_range {fs : List PCode} {vars results : Int} {nb : Nat} {x : PInstr} (h : arity x = some (x.ds.length, x.ars.length, x.to.length)) (hc : (inAll x.ds vars && inAll x.ars vars && inAll x.to nb) = false) : instrFaultF fs vars results nb x = 2 := by
  unfold instrFaultF
  rw [h]
  simp [hc]
theorem instrFaultF_good {fs : List PCode} {vars results : Int} {nb : Nat} {x : PInstr} (h : arity x = some (x.ds.length, x.ars.length, x.to.length)) (hc : (inAll x.ds vars && inAll x.ars vars && inAll x.to nb) = true) : instrFaultF fs vars results nb x =
    if x.op = 3 then (if x.s ∈ mathsF then 0 else 4)
    else if x.op = 8 then
      (if x.s = sText then (if x.ars.length = 2 then 0 else 10) else if x.s = sInt ∨ x.s = sBool then (if x.ars.length = 1 then 0 else 10) else 4)
    else if x.op = 12 then (if (x.ars.length : Int) = results then 0 else 10)
    else if x.op = 13 then (if 2 ≤ x.n ∧ x.n ≤ 5 then 0 else 4)
    else if x.op = 7 then invokeFaultF fs x
    else 0 := by
  conv => lhs; unfold instrFaultF
  rw [h]
  simp [hc]
theorem blocksF_at {g : PInstr → Int} {most : Nat} {l : List (List PInstr)} {i all : Nat} (hi : i < l.length) :
    blocksF g most (l.drop i) all = if l[i].length = 0 then 6 else if most < all + l[i].length then 1 else if blockF g l[i] ≠ 0 then blockF g l[i] else blocksF g most (l.drop (i + 1)) (all + l[i].length) := by
  rw [List.drop_eq_getElem_cons hi]; rfl
theorem blockF_at {g : PInstr → Int} {b : List PInstr} {k : Nat} (hk : k < b.length) :
    blockF g (b.drop k) = if g b[k] ≠ 0 then g b[k] else if closesF b[k].op ≠ decide (k + 1 = b.length) then 4 else blockF g (b.drop (k + 1)) := by
  rw [List.drop_eq_getElem_cons hk]
  conv => lhs; unfold blockF
  have : (b.drop (k + 1)).isEmpty = decide (k + 1 = b.length) := by
    rw [Bool.eq_iff_iff, List.isEmpty_iff, List.drop_eq_nil_iff]
    simp; omega
  rw [this]
end Go.Pst

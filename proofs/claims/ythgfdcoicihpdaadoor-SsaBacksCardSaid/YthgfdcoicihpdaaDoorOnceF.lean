/-
  Code in which each variable is set once (P6.3), as plain functions: Phis at the heads of blocks, the code without them, where each variable is set, what is asked.
-/
import Derived.Test.YthgfdcoicihpdaaDoorMemCodes
import Derived.Test.YthgfdcoicihpdaaDoorFault
namespace Go.Proofs.YthgfdcoicihpdaaDoor
open Go.RowKit Go.Pst
set_option linter.unusedVariables false
set_option linter.unusedSimpArgs false

def phisN : List PInstr → Nat
  | [] => 0
  | x :: r => if x.op = 14 then phisN r + 1 else 0
theorem phisN_le : ∀ (b : List PInstr), phisN b ≤ b.length
  | [] => Nat.le_refl _
  | x :: r => by
    unfold phisN
    split
    · have := phisN_le r
      simp only [List.length_cons]
      omega
    · exact Nat.zero_le _
theorem phisN_step : ∀ {b : List PInstr} {k : Nat} (h : k < b.length), k ≤ phisN b → b[k].op = 14 → k + 1 ≤ phisN b
  | [], k, h, _, _ => absurd h (by simp)
  | x :: r, 0, h, _, e => by
    unfold phisN
    rw [if_pos (by simpa using e)]
    omega
  | x :: r, k + 1, h, hk, e => by
    unfold phisN at hk ⊢
    split at hk
    · rename_i hx
      rw [if_pos hx]
      have := phisN_step (b := r) (k := k) (by simpa using h) (by omega) (by simpa using e)
      omega
    · omega
theorem phisN_stop : ∀ {b : List PInstr} {k : Nat} (h : k < b.length), k ≤ phisN b → ¬ b[k].op = 14 → phisN b = k
  | [], k, h, _, _ => absurd h (by simp)
  | x :: r, 0, h, _, e => by
    unfold phisN
    rw [if_neg (by simpa using e)]
  | x :: r, k + 1, h, hk, e => by
    unfold phisN at hk ⊢
    split at hk
    · rename_i hx
      rw [if_pos hx]
      have := phisN_stop (b := r) (k := k) (by simpa using h) (by omega) (by simpa using e)
      omega
    · omega
theorem phisN_op : ∀ {b : List PInstr} {k : Nat} (h : k < b.length), k < phisN b → b[k].op = 14
  | [], k, h, _ => absurd h (by simp)
  | x :: r, 0, h, hk => by
    unfold phisN at hk
    split at hk
    · rename_i hx; simpa using hx
    · omega
  | x :: r, k + 1, h, hk => by
    unfold phisN at hk
    split at hk
    · have := phisN_op (b := r) (k := k) (by simpa using h) (by omega)
      simpa using this
    · omega

def plainF (c : PCode) : PCode := { c with blocks := c.blocks.map fun b => b.drop (phisN b) }
theorem fit_plain {c : PCode} (h : FitCode c) : FitCode (plainF c) := by
  obtain ⟨h1, h2⟩ := h
  refine ⟨by simpa [plainF] using h1, fun b hb => ?_⟩
  simp only [plainF, List.mem_map] at hb
  obtain ⟨b0, hb0, rfl⟩ := hb
  obtain ⟨h3, h4⟩ := h2 b0 hb0
  refine ⟨?_, fun i hi => h4 i (List.mem_of_mem_drop hi)⟩
  rw [List.length_drop]
  omega

/-- The first one that is not 0. -/
def firstNZ : List Int → Int
  | [] => 0
  | x :: r => if x ≠ 0 then x else firstNZ r
def phiFault (vars : Int) (m i : Nat) (x : PInstr) : Int :=
  if x.ds.length ≠ 1 ∨ x.ars.length ≠ m ∨ 0 < x.to.length then 10 else if (inAll x.ds vars && inAll x.ars vars) = false then 2 else if i = 0 then 4 else 0
/-- What the Phis of a block say from the k-th on, so many blocks leading to it. -/
def phisFrom (vars : Int) (m i : Nat) (b : List PInstr) (k : Nat) : Int := firstNZ (((b.take (phisN b)).drop k).map (phiFault vars m i))
theorem phisFrom_end {vars : Int} {m i : Nat} {b : List PInstr} {k : Nat} (h : phisN b ≤ k) : phisFrom vars m i b k = 0 := by
  unfold phisFrom
  rw [List.drop_eq_nil_of_le (by rw [List.length_take]; omega)]
  rfl
theorem phisFrom_step {vars : Int} {m i : Nat} {b : List PInstr} {k : Nat} (hb : k < b.length) (h : k < phisN b) : phisFrom vars m i b k = if phiFault vars m i b[k] ≠ 0 then phiFault vars m i b[k] else phisFrom vars m i b (k + 1) := by
  have hl : k < (b.take (phisN b)).length := by rw [List.length_take]; omega
  unfold phisFrom
  rw [List.drop_eq_getElem_cons hl, List.map_cons, firstNZ, List.getElem_take]
/-- .. of the blocks from the i-th on. -/
def blocksPhis (c : PCode) (A : Nat → Nat) (i : Nat) : Int := firstNZ (((List.range c.blocks.length).drop i).map fun j => phisFrom c.vars (A j) j (c.blocks.getD j []) 0)
theorem blocksPhis_end {c : PCode} {A : Nat → Nat} {i : Nat} (h : c.blocks.length ≤ i) : blocksPhis c A i = 0 := by
  unfold blocksPhis
  rw [List.drop_eq_nil_of_le (by rw [List.length_range]; omega)]
  rfl
theorem blocksPhis_step {c : PCode} {A : Nat → Nat} {i : Nat} (h : i < c.blocks.length) : blocksPhis c A i = if phisFrom c.vars (A i) i c.blocks[i] 0 ≠ 0 then phisFrom c.vars (A i) i c.blocks[i] 0 else blocksPhis c A (i + 1) := by
  unfold blocksPhis
  rw [List.drop_eq_getElem_cons (by rw [List.length_range]; exact h), List.map_cons, firstNZ, List.getElem_range]
  simp [List.getD, h]
theorem firstNZ_zero {l : List Int} (h : firstNZ l = 0) : ∀ x ∈ l, x = 0 := by
  induction l with
  | nil => simp
  | cons y r ih =>
    unfold firstNZ at h
    split at h
    · rename_i hy; exact absurd h hy
    · rename_i hy
      intro x hx
      rcases List.mem_cons.1 hx with rfl | hx
      · simpa using hy
      · exact ih h x hx
/-- Where no Phi is refused. -/
theorem blocksPhis_ok {c : PCode} {A : Nat → Nat} (h : blocksPhis c A 0 = 0) {i k : Nat} (hi : i < c.blocks.length) (hk : k < phisN c.blocks[i]) (hb : k < c.blocks[i].length) :
    phiFault c.vars (A i) i c.blocks[i][k] = 0 := by
  have h1 := firstNZ_zero h (phisFrom c.vars (A i) i c.blocks[i] 0) (List.mem_map.2 ⟨i, by simpa using hi, by simp [List.getD, hi]⟩)
  refine firstNZ_zero h1 _ (List.mem_map.2 ⟨c.blocks[i][k], ?_, rfl⟩)
  rw [List.drop_zero]
  have hl : k < (c.blocks[i].take (phisN c.blocks[i])).length := by rw [List.length_take]; omega
  have := List.getElem_mem hl
  rwa [List.getElem_take] at this
theorem phiFault_ok {vars : Int} {m i : Nat} {x : PInstr} (h : phiFault vars m i x = 0) : x.ds.length = 1 ∧ x.ars.length = m ∧ x.to.length = 0 ∧ inAll x.ds vars = true ∧ inAll x.ars vars = true ∧ i ≠ 0 := by
  unfold phiFault at h
  split at h
  · omega
  rename_i h1
  split at h
  · omega
  rename_i h2
  split at h
  · omega
  rename_i h3
  have h2' : (inAll x.ds vars && inAll x.ars vars) = true := by cases hh : (inAll x.ds vars && inAll x.ars vars) <;> simp_all
  rw [Bool.and_eq_true] at h2'
  refine ⟨by omega, by omega, by omega, h2'.1, h2'.2, h3⟩

/-! Where each variable is set. -/
/-- A variable, the block and the instruction that set it; -1, -1: a param. -/
abbrev Sets := List (Int × Int × Int)
def lookS : Sets → Int → Option (Int × Int)
  | [], _ => none
  | (v, p) :: r, x => if v = x then some p else lookS r x
theorem lookS_append : ∀ (a b : Sets) (x : Int), lookS (a ++ b) x = (lookS a x).or (lookS b x)
  | [], b, x => by simp [lookS]
  | (v, p) :: r, b, x => by
    rw [List.cons_append, lookS, lookS]
    by_cases h : v = x
    · rw [if_pos h, if_pos h]
      rfl
    · rw [if_neg h, if_neg h]
      exact lookS_append r b x
def setsOf (i k : Nat) (ds : List Int) : Sets := ds.map fun d => (d, ((i : Nat) : Int), ((k : Nat) : Int))
def setsBlk (i : Nat) : Nat → List PInstr → Sets
  | _, [] => []
  | k, x :: r => setsOf i k x.ds ++ setsBlk i (k + 1) r
def setsAll : Nat → List (List PInstr) → Sets
  | _, [] => []
  | i, b :: r => setsBlk i 0 b ++ setsAll (i + 1) r
/-- All settings one behind the other; none: one is set twice. -/
def addS (acc : Sets) : Sets → Option Sets
  | [] => some acc
  | s :: r => if (lookS acc s.1).isSome then none else addS (acc ++ [s]) r
def paramsS (n : Nat) : Sets := (List.range n).map fun v => (((v : Nat) : Int), -1, -1)
def placesF (c : PCode) : Option Sets := addS (paramsS c.params.toNat) (setsAll 0 c.blocks)
theorem setsBlk_drop {i k : Nat} {b : List PInstr} (h : k < b.length) : setsBlk i k (b.drop k) = setsOf i k b[k].ds ++ setsBlk i (k + 1) (b.drop (k + 1)) := by
  rw [List.drop_eq_getElem_cons h, setsBlk]
theorem setsAll_drop {i : Nat} {l : List (List PInstr)} (h : i < l.length) : setsAll i (l.drop i) = setsBlk i 0 l[i] ++ setsAll (i + 1) (l.drop (i + 1)) := by
  rw [List.drop_eq_getElem_cons h, setsAll]
theorem setsOf_drop {i k n : Nat} {ds : List Int} (h : n < ds.length) : setsOf i k (ds.drop n) = (ds[n], ((i : Nat) : Int), ((k : Nat) : Int)) :: setsOf i k (ds.drop (n + 1)) := by
  unfold setsOf
  rw [List.drop_eq_getElem_cons h, List.map_cons]

/-- Is a variable known in a block, ahead of an instruction? -/
def knownF (acc : Sets) (above : Nat → List Int) (v : Int) (b k : Nat) : Bool :=
  match lookS acc v with
  | none => false
  | some (pb, pk) => decide (pb < 0) || (decide (pb = b) && decide (pk < k)) || (decide (pb ≠ b) && decide (pb ∈ above b))
/-- May the n-th argument be asked? -/
def argOK (c : PCode) (acc : Sets) (ahead above : Nat → List Int) (i k n : Nat) (x : PInstr) : Bool :=
  if x.op = 14 then
    let q := ((ahead i).getD n 0).toNat
    (above q).isEmpty || knownF acc above (x.ars.getD n 0) q (c.blocks.getD q []).length
  else knownF acc above (x.ars.getD n 0) i k
def usesOK (c : PCode) (acc : Sets) (ahead above : Nat → List Int) : Prop :=
  ∀ i (hi : i < c.blocks.length), above i ≠ [] → ∀ k (hk : k < c.blocks[i].length), ∀ n, n < c.blocks[i][k].ars.length → argOK c acc ahead above i k n c.blocks[i][k] = true
open Classical in
/-- P6.3. -/
noncomputable def onceF (fs : List PCode) (c : PCode) (ahead above : Nat → List Int) : Int :=
  if codeFaultF fs (plainF c) ≠ 0 then codeFaultF fs (plainF c)
  else if blocksPhis c (fun i => (ahead i).length) 0 ≠ 0 then blocksPhis c (fun i => (ahead i).length) 0
  else if 0 < (ahead 0).length then 4
  else match placesF c with
    | none => 7
    | some acc => if usesOK c acc ahead above then 0 else 12
end Go.Proofs.YthgfdcoicihpdaaDoor

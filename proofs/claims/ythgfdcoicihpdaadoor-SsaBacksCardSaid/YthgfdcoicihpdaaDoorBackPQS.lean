/-
  ssa.Back in plain words, first part: what code without faults is like; what makes code without faults.
-/
import Derived.Test.YthgfdcoicihpdaaDoorOnceOK
namespace Go.Proofs.YthgfdcoicihpdaaDoor
open Go.RowKit Go.Pst
set_option linter.unusedVariables false

/-- Where the last instruction of a block leads. -/
def toL (b : List PInstr) : List Int := match b.getLast? with | some x => x.to | none => []
def withTo (x : PInstr) (l : List Int) : PInstr := { x with to := l }
/-- A block whose last instruction leads elsewhere. -/
def setToL (b : List PInstr) (l : List Int) : List PInstr := match b.getLast? with | some x => b.dropLast ++ [withTo x l] | none => []
def jumpI (t : Int) : PInstr := ⟨9, [], [], 0, ByteArray.empty, [t]⟩
def moveI (d a : Int) : PInstr := ⟨2, [d], [a], 0, ByteArray.empty, []⟩

theorem getLast_of {b : List PInstr} (h : 0 < b.length) : b.getLast? = some (b[b.length - 1]'(by omega)) := by
  rw [List.getLast?_eq_getElem?]
  exact List.getElem?_eq_getElem _
theorem toL_at {b : List PInstr} (h : 0 < b.length) : toL b = (b[b.length - 1]'(by omega)).to := by
  unfold toL
  rw [getLast_of h]
theorem setToL_at {b : List PInstr} (h : 0 < b.length) (l : List Int) : setToL b l = b.dropLast ++ [withTo (b[b.length - 1]'(by omega)) l] := by
  unfold setToL
  rw [getLast_of h]
theorem setToL_len {b : List PInstr} (h : 0 < b.length) (l : List Int) : (setToL b l).length = b.length := by
  rw [setToL_at h]
  simp
  omega
theorem setToL_get {b : List PInstr} (h : 0 < b.length) (l : List Int) {k : Nat} (hk : k < (setToL b l).length) (hk2 : k < b.length) : (setToL b l)[k] = if k = b.length - 1 then withTo b[k] l else b[k] := by
  simp only [setToL_at h]
  by_cases e : k = b.length - 1
  · subst e
    rw [if_pos rfl, List.getElem_append_right (by simp)]
    simp
  · rw [if_neg e, List.getElem_append_left (by simp; omega)]
    simp
theorem setToL_to {b : List PInstr} (h : 0 < b.length) (l : List Int) : toL (setToL b l) = l := by
  rw [setToL_at h]
  unfold toL
  rw [List.getLast?_concat]
  rfl
theorem setToL_self {b : List PInstr} (h : 0 < b.length) : setToL b (toL b) = b := by
  refine List.ext_getElem (setToL_len h _) fun k h1 h2 => ?_
  rw [setToL_get h _ h1 h2]
  split
  · rename_i e
    subst e
    rw [toL_at h]
    rfl
  · rfl
theorem setToL_set {b : List PInstr} (h : 0 < b.length) (l l' : List Int) : setToL (setToL b l) l' = setToL b l' := by
  have h2 : 0 < (setToL b l).length := by rw [setToL_len h]; exact h
  refine List.ext_getElem (by rw [setToL_len h2, setToL_len h, setToL_len h]) fun k h1 h3 => ?_
  have hk : k < b.length := by rw [setToL_len h] at h3; exact h3
  have hk2 : k < (setToL b l).length := by rw [setToL_len h]; exact hk
  rw [setToL_get h2 _ h1 hk2, setToL_get h _ h3 hk, setToL_get h _ hk2 hk, setToL_len h]
  split <;> rfl
/-- Phis at the head of a block do not turn where its last instruction, that is none, does. -/
theorem phisN_congr {b b' : List PInstr} (hl : phisN b < b.length) (h : ∀ k (h1 : k < b.length) (h2 : k < b'.length), k ≤ phisN b → b'[k].op = b[k].op) (hlen : phisN b < b'.length) : phisN b' = phisN b := by
  have up : ∀ k, k ≤ phisN b → k ≤ phisN b' := by
    intro k
    induction k with
    | zero => intro _; exact Nat.zero_le _
    | succ k ih =>
      intro hk
      have h1 := ih (by omega)
      refine phisN_step (by omega) h1 ?_
      rw [h k (by omega) (by omega) (by omega)]
      exact phisN_op (by omega) (by omega)
  refine phisN_stop hlen (up _ (Nat.le_refl _)) ?_
  rw [h _ hl hlen (Nat.le_refl _)]
  intro e
  have := phisN_step hl (Nat.le_refl _) e
  omega

/-- An instruction without faults. -/
theorem instr_ok {fs : List PCode} {vars results : Int} {nb : Nat} {i : PInstr} (h : instrFaultF fs vars results nb i = 0) : inAll i.to nb = true ∧ (closesF i.op = false → i.to = []) := by
  unfold instrFaultF at h
  cases ha : arity i with
  | none => rw [ha] at h; simp at h
  | some q =>
    obtain ⟨d, a, t⟩ := q
    rw [ha] at h
    simp only at h
    split at h
    · omega
    rename_i h1
    split at h
    · omega
    rename_i h2
    have h2' : (inAll i.ds vars && inAll i.ars vars && inAll i.to nb) = true := by cases hh : (inAll i.ds vars && inAll i.ars vars && inAll i.to nb) <;> simp_all
    rw [Bool.and_eq_true] at h2'
    refine ⟨h2'.2, fun hc => ?_⟩
    have ht : t = 0 := by
      unfold arity at ha
      unfold closesF at hc
      simp only [Bool.and_eq_false_iff, decide_eq_false_iff_not] at hc
      split at ha
      · injection ha with ha; injection ha with e1 e2; injection e2 with e2 e3; exact e3.symm
      split at ha
      · injection ha with ha; injection ha with e1 e2; injection e2 with e2 e3; exact e3.symm
      split at ha
      · injection ha with ha; injection ha with e1 e2; injection e2 with e2 e3; exact e3.symm
      split at ha
      · injection ha with ha; injection ha with e1 e2; injection e2 with e2 e3; exact e3.symm
      split at ha
      · injection ha with ha; injection ha with e1 e2; injection e2 with e2 e3; exact e3.symm
      split at ha
      · injection ha with ha; injection ha with e1 e2; injection e2 with e2 e3; exact e3.symm
      split at ha
      · exfalso; omega
      split at ha
      · exfalso; omega
      split at ha
      · exfalso; omega
      split at ha
      · injection ha with ha; injection ha with e1 e2; injection e2 with e2 e3; exact e3.symm
      · cases ha
    exact List.eq_nil_of_length_eq_zero (by omega)
theorem inAll_up {l : List Int} {hi hi' : Int} (h : inAll l hi = true) (hle : hi ≤ hi') : inAll l hi' = true := by
  unfold inAll at h ⊢
  rw [List.all_eq_true] at h ⊢
  intro x hx
  have := h x hx
  simp only [Bool.and_eq_true, decide_eq_true_eq] at this ⊢
  omega
theorem inAll_mem {l : List Int} {hi : Int} (h : inAll l hi = true) {x : Int} (hx : x ∈ l) : 0 ≤ x ∧ x < hi := by
  unfold inAll at h
  rw [List.all_eq_true] at h
  have := h x hx
  simp only [Bool.and_eq_true, decide_eq_true_eq] at this
  omega
theorem inAll_of {l : List Int} {hi : Int} (h : ∀ x ∈ l, 0 ≤ x ∧ x < hi) : inAll l hi = true := by
  unfold inAll
  rw [List.all_eq_true]
  intro x hx
  have := h x hx
  simp only [Bool.and_eq_true, decide_eq_true_eq]
  omega
theorem instrFault_eq {fs : List PCode} {vars results : Int} {nb : Nat} {i : PInstr} {d a t : Nat} (hq : arity i = some (d, a, t)) : instrFaultF fs vars results nb i =
    (if i.ds.length ≠ d ∨ i.ars.length ≠ a ∨ i.to.length ≠ t then 10
    else if (inAll i.ds vars && inAll i.ars vars && inAll i.to nb) = false then 2
    else if i.op = 3 then (if i.s ∈ mathsF then 0 else 4)
    else if i.op = 8 then
      (if i.s = sText then (if i.ars.length = 2 then 0 else 10) else if i.s = sInt ∨ i.s = sBool then (if i.ars.length = 1 then 0 else 10) else 4)
    else if i.op = 12 then (if (i.ars.length : Int) = results then 0 else 10)
    else if i.op = 13 then (if 2 ≤ i.n ∧ i.n ≤ 5 then 0 else 4)
    else if i.op = 7 then invokeFaultF fs i
    else 0) := by
  unfold instrFaultF
  rw [hq]
/-- With more variables, more blocks, and other ways, as many: still no fault. -/
theorem instr_up {fs : List PCode} {vars vars' results : Int} {nb nb' : Nat} {i : PInstr} (h : instrFaultF fs vars results nb i = 0) (hv : vars ≤ vars') {l : List Int} (hl : l.length = i.to.length) (hin : inAll l nb' = true) :
    instrFaultF fs vars' results nb' (withTo i l) = 0 := by
  have ha : arity (withTo i l) = arity i := by unfold arity withTo; simp only [hl]
  cases hq : arity i with
  | none => unfold instrFaultF at h; rw [hq] at h; simp at h
  | some q =>
    obtain ⟨d, a, t⟩ := q
    rw [instrFault_eq hq] at h
    rw [instrFault_eq (ha.trans hq)]
    split at h
    · omega
    rename_i h1
    split at h
    · omega
    rename_i h2
    have h2' : (inAll i.ds vars && inAll i.ars vars && inAll i.to nb) = true := by cases hh : (inAll i.ds vars && inAll i.ars vars && inAll i.to nb) <;> simp_all
    rw [Bool.and_eq_true, Bool.and_eq_true] at h2'
    have g1 : ¬ ((withTo i l).ds.length ≠ d ∨ (withTo i l).ars.length ≠ a ∨ (withTo i l).to.length ≠ t) := by
      show ¬ (i.ds.length ≠ d ∨ i.ars.length ≠ a ∨ l.length ≠ t)
      rw [hl]
      exact h1
    have g2 : ¬ ((inAll (withTo i l).ds vars' && inAll (withTo i l).ars vars' && inAll (withTo i l).to nb') = false) := by
      show ¬ ((inAll i.ds vars' && inAll i.ars vars' && inAll l nb') = false)
      rw [inAll_up h2'.1.1 hv, inAll_up h2'.1.2 hv, hin]
      decide
    rw [if_neg g1, if_neg g2]
    exact h
theorem move_ok (fs : List PCode) (vars results : Int) (nb : Nat) {d a : Int} (hd : 0 ≤ d ∧ d < vars) (ha : 0 ≤ a ∧ a < vars) : instrFaultF fs vars results nb (moveI d a) = 0 := by
  have e1 : inAll [d] vars = true := inAll_of fun x hx => by rw [List.mem_singleton] at hx; subst hx; exact hd
  have e2 : inAll [a] vars = true := inAll_of fun x hx => by rw [List.mem_singleton] at hx; subst hx; exact ha
  have e3 : inAll [] (nb : Int) = true := rfl
  simp [instrFaultF, moveI, arity, e1, e2, e3]
theorem jump_ok (fs : List PCode) (vars results : Int) (nb : Nat) {t : Int} (ht : 0 ≤ t ∧ t < nb) : instrFaultF fs vars results nb (jumpI t) = 0 := by
  have e1 : inAll [t] (nb : Int) = true := inAll_of fun x hx => by rw [List.mem_singleton] at hx; subst hx; exact ht
  have e2 : inAll [] vars = true := rfl
  simp [instrFaultF, jumpI, arity, e1, e2]
/-- A block without faults. -/
theorem block_of {g : PInstr → Int} {x : PInstr} (hx : g x = 0) (hc : closesF x.op = true) : ∀ (pre : List PInstr), (∀ y ∈ pre, g y = 0 ∧ closesF y.op = false) → blockF g (pre ++ [x]) = 0
  | [], _ => by simp [blockF, hx, hc]
  | y :: r, h => by
    obtain ⟨h1, h2⟩ := h y (List.mem_cons_self ..)
    have := block_of hx hc r (fun z hz => h z (List.mem_cons_of_mem _ hz))
    rw [List.cons_append, blockF, h1, h2]
    simp [this]
theorem block_at {g : PInstr → Int} : ∀ {b : List PInstr}, blockF g b = 0 → ∀ j (h : j < b.length), closesF b[j].op = decide (j = b.length - 1)
  | [], _, j, h => absurd h (by simp)
  | i :: r, hb, j, h => by
    unfold blockF at hb
    split at hb
    · rename_i hn; exact absurd hb hn
    split at hb
    · omega
    rename_i hc
    have hc' : closesF i.op = r.isEmpty := by simpa using hc
    rcases j with _ | j
    · simp only [List.getElem_cons_zero, List.length_cons]
      rw [hc']
      cases r <;> simp
    · have := block_at hb j (by simpa using h)
      simp only [List.getElem_cons_succ, List.length_cons]
      rw [this]
      congr 1
      have hj : j < r.length := by simpa using h
      have : (j = r.length - 1) = (j + 1 = r.length + 1 - 1) := by rw [eq_iff_iff]; omega
      exact this
def sumLen : List (List PInstr) → Nat
  | [] => 0
  | b :: r => b.length + sumLen r
theorem blocks_of {g : PInstr → Int} {most : Nat} : ∀ {l : List (List PInstr)} {all : Nat}, (∀ b ∈ l, 0 < b.length ∧ blockF g b = 0) → all + sumLen l ≤ most → blocksF g most l all = 0
  | [], all, _, _ => rfl
  | b :: r, all, h, hs => by
    obtain ⟨h1, h2⟩ := h b (List.mem_cons_self ..)
    unfold sumLen at hs
    unfold blocksF
    rw [if_neg (by omega), if_neg (by omega), if_neg (by rw [h2]; simp)]
    exact blocks_of (fun x hx => h x (List.mem_cons_of_mem _ hx)) (by omega)
theorem blocks_sum {g : PInstr → Int} {most : Nat} : ∀ {l : List (List PInstr)} {all : Nat}, all ≤ most → blocksF g most l all = 0 → all + sumLen l ≤ most
  | [], all, ha, _ => by simpa [sumLen] using ha
  | b :: r, all, ha, h => by
    unfold blocksF at h
    split at h
    · omega
    split at h
    · omega
    split at h
    · rename_i hn; exact absurd h hn
    have := blocks_sum (by omega) h
    unfold sumLen
    omega

/-- What code is like that may be, its Phis apart, and whose Phis may be. -/
structure PhiOK (fs : List PCode) (c : PCode) (A : Nat → Nat) : Prop where
  n0 : 0 < c.blocks.length ∧ c.blocks.length ≤ 2000
  hdr : 0 ≤ c.params ∧ c.params ≤ c.vars ∧ c.vars ≤ 3000 ∧ c.params ≤ 16 ∧ 0 ≤ c.results ∧ c.results ≤ 16 ∧ c.slots = 0
  len : ∀ b ∈ c.blocks, phisN b < b.length
  bare : ∀ b ∈ c.blocks, ∀ k (hk : k < b.length), phisN b ≤ k → instrFaultF fs c.vars c.results c.blocks.length b[k] = 0 ∧ closesF b[k].op = decide (k = b.length - 1)
  phi : ∀ i (hi : i < c.blocks.length) k (hk : k < c.blocks[i].length), k < phisN c.blocks[i] → c.blocks[i][k].ds.length = 1 ∧ c.blocks[i][k].ars.length = A i ∧ c.blocks[i][k].to = [] ∧ inAll c.blocks[i][k].ds c.vars = true ∧ inAll c.blocks[i][k].ars c.vars = true ∧ i ≠ 0
  sum : sumLen (plainF c).blocks ≤ 6000
theorem phiOK {fs : List PCode} {c : PCode} {A : Nat → Nat} (h : codeFaultF fs (plainF c) = 0) (hp : blocksPhis c A 0 = 0) : PhiOK fs c A := by
  have ho := onceOK h
  have hl : (plainF c).blocks.length = c.blocks.length := by simp [plainF]
  unfold codeFaultF at h
  split at h
  · omega
  split at h
  · omega
  split at h
  · omega
  rename_i h1 h2 h3
  rw [hl] at h1 h2
  have hs := blocks_sum (Nat.zero_le _) h
  rw [hl] at h
  simp only [show (plainF c).vars = c.vars from rfl, show (plainF c).params = c.params from rfl, show (plainF c).results = c.results from rfl, show (plainF c).slots = c.slots from rfl] at h2 h3 h
  refine ⟨ho.some_, by omega, fun b hb => (ho.blk b hb).1, fun b hb k hk hpk => ?_, fun i hi k hk hlt => ?_, by omega⟩
  · obtain ⟨g1, g2⟩ := onceBlks h (b.drop (phisN b)) (List.mem_map.2 ⟨b, hb, rfl⟩)
    have e : phisN b + (k - phisN b) = k := by omega
    have k2 : k - phisN b < (b.drop (phisN b)).length := by rw [List.length_drop]; omega
    have a1 := onceBlk g2 (k - phisN b) k2
    have a2 := block_at g2 (k - phisN b) k2
    rw [List.getElem_drop] at a1 a2
    simp only [e] at a1 a2
    refine ⟨a1, a2.trans ?_⟩
    rw [List.length_drop]
    have : (k - phisN b = b.length - phisN b - 1) = (k = b.length - 1) := by rw [eq_iff_iff]; omega
    rw [decide_eq_decide, this]
  · obtain ⟨a1, a2, a3, a4, a5, a6⟩ := phiFault_ok (blocksPhis_ok hp hi hlt hk)
    exact ⟨a1, a2, List.eq_nil_of_length_eq_zero a3, a4, a5, a6⟩
/-- The code that Back makes: of each block what stood behind its Phis, moves, and its last instruction, that may lead elsewhere; then blocks of moves and a jump. -/
structure BackR (c : PCode) (vars : Int) (Z : List (List PInstr)) (M : Nat → List PInstr) : Prop where
  len : c.blocks.length ≤ Z.length
  old : ∀ i (hi : i < c.blocks.length) (hz : i < Z.length), ∃ l, Z[i] = (c.blocks[i].drop (phisN c.blocks[i])).dropLast ++ M i ++ [withTo (c.blocks[i].getLastD (jumpI 0)) l] ∧ l.length = (toL c.blocks[i]).length ∧ inAll l Z.length = true
  new : ∀ i (hz : i < Z.length), c.blocks.length ≤ i → ∃ t : Int, Z[i] = M i ++ [jumpI t] ∧ 0 ≤ t ∧ t < Z.length
  moves : ∀ i, i < Z.length → ∀ x ∈ M i, ∃ d a, x = moveI d a ∧ (0 ≤ d ∧ d < vars) ∧ 0 ≤ a ∧ a < vars
  vars : c.vars ≤ vars
theorem back_ok {fs : List PCode} {c : PCode} {A : Nat → Nat} (h : PhiOK fs c A) {vars : Int} {Z : List (List PInstr)} {M : Nat → List PInstr} (hr : BackR c vars Z M) (h1 : Z.length ≤ 2000) (h2 : vars ≤ 3000) (h3 : sumLen Z ≤ 6000) :
    codeFaultF fs { c with vars := vars, blocks := Z } = 0 := by
  obtain ⟨p1, p2, p3, p4, p5, p6, p7⟩ := h.hdr
  have hn := h.n0
  have hl := hr.len
  have hv := hr.vars
  unfold codeFaultF
  rw [if_neg (by show ¬ Z.length = 0; omega), if_neg (by show ¬ (2000 < Z.length ∨ 3000 < vars ∨ 16 < c.params ∨ 16 < c.results); omega), if_neg (by show ¬ (c.params < 0 ∨ c.results < 0 ∨ vars < c.params ∨ c.slots ≠ 0); omega)]
  show blocksF (instrFaultF fs vars c.results Z.length) 6000 Z 0 = 0
  refine blocks_of (fun b hb => ?_) (by omega)
  obtain ⟨i, hi, rfl⟩ := List.mem_iff_getElem.1 hb
  have hm : ∀ y ∈ M i, instrFaultF fs vars c.results Z.length y = 0 ∧ closesF y.op = false := fun y hy => by
    obtain ⟨d, a, rfl, hd, ha⟩ := hr.moves i hi y hy
    exact ⟨move_ok fs vars c.results Z.length hd ha, rfl⟩
  by_cases hlt : i < c.blocks.length
  · obtain ⟨l, e, hll, hlin⟩ := hr.old i hlt hi
    have hpl := h.len _ (List.getElem_mem hlt)
    have hb0 := h.bare _ (List.getElem_mem hlt)
    have hlast : c.blocks[i].getLastD (jumpI 0) = c.blocks[i][c.blocks[i].length - 1]'(by omega) := by
      rw [List.getLastD_eq_getLast?, getLast_of (by omega)]
      rfl
    rw [hlast] at e
    obtain ⟨g1, g2⟩ := hb0 (c.blocks[i].length - 1) (by omega) (by omega)
    rw [e]
    refine ⟨by rw [List.length_append, List.length_singleton]; omega, block_of (instr_up g1 hv (by rw [hll, toL_at (by omega)]) hlin) (by show closesF (c.blocks[i][c.blocks[i].length - 1]'(by omega)).op = true; rw [g2]; simp) _ (fun y hy => ?_)⟩
    rcases List.mem_append.1 hy with hy | hy
    · obtain ⟨k, hk, rfl⟩ := List.mem_iff_getElem.1 hy
      have hk2 : k < c.blocks[i].length - phisN c.blocks[i] - 1 := by simpa using hk
      rw [List.getElem_dropLast, List.getElem_drop]
      obtain ⟨a1, a2⟩ := hb0 (phisN c.blocks[i] + k) (by omega) (by omega)
      have a3 : closesF c.blocks[i][phisN c.blocks[i] + k].op = false := by
        rw [a2]
        exact decide_eq_false (by omega)
      refine ⟨?_, a3⟩
      obtain ⟨b1, b2⟩ := instr_ok a1
      have b3 := b2 a3
      have := instr_up a1 hv (l := []) (nb' := Z.length) (by rw [b3]) rfl
      have b4 : withTo c.blocks[i][phisN c.blocks[i] + k] [] = c.blocks[i][phisN c.blocks[i] + k] := by
        unfold withTo
        rw [← b3]
      rwa [b4] at this
    · exact hm y hy
  · obtain ⟨t, e, ht⟩ := hr.new i hi (by omega)
    rw [e]
    exact ⟨by rw [List.length_append, List.length_singleton]; omega, block_of (jump_ok fs vars c.results Z.length ht) rfl _ hm⟩
end Go.Proofs.YthgfdcoicihpdaaDoor

namespace Go.Proofs.YthgfdcoicihpdaaDoor
open Go.RowKit Go.Pst
set_option linter.unusedVariables false

/-- So many different numbers below N. -/
theorem nodup_len : ∀ (N : Nat) (l : List Nat), l.Nodup → (∀ x ∈ l, x < N) → l.length ≤ N
  | 0, l, _, h => by
    cases l with
    | nil => exact Nat.le_refl _
    | cons x r => exact absurd (h x (List.mem_cons_self ..)) (by omega)
  | N + 1, l, hd, h => by
    by_cases hm : N ∈ l
    · have h1 := nodup_len N (l.erase N) (hd.erase N) (fun x hx => by
        obtain ⟨g1, g2⟩ := (hd.mem_erase_iff).1 hx
        have := h x g2
        omega)
      rw [List.length_erase_of_mem hm] at h1
      omega
    · exact Nat.le_succ_of_le (nodup_len N l hd (fun x hx => by
        have := h x hx
        have : x ≠ N := fun e => hm (e ▸ hx)
        omega))
theorem nodup_map {α β : Type} {f : α → β} : ∀ {l : List α}, l.Nodup → (∀ x ∈ l, ∀ y ∈ l, f x = f y → x = y) → (l.map f).Nodup
  | [], _, _ => List.nodup_nil
  | x :: r, hd, h => by
    rw [List.nodup_cons] at hd
    rw [List.map_cons, List.nodup_cons]
    refine ⟨fun hm => ?_, nodup_map hd.2 (fun a ha b hb => h a (List.mem_cons_of_mem _ ha) b (List.mem_cons_of_mem _ hb))⟩
    obtain ⟨y, hy, e⟩ := List.mem_map.1 hm
    exact hd.1 (h x (List.mem_cons_self ..) y (List.mem_cons_of_mem _ hy) e.symm ▸ hy)
theorem nodup_pairs {n : Nat} {E : List (Nat × Nat)} (hd : E.Nodup) (h : ∀ p ∈ E, p.1 < n ∧ p.2 < n) : E.length ≤ n * n := by
  have h1 := nodup_len (n * n) (E.map fun p => p.1 * n + p.2) (nodup_map hd fun x hx y hy e => by
    obtain ⟨x1, x2⟩ := x
    obtain ⟨y1, y2⟩ := y
    have a := h _ hx
    have b := h _ hy
    dsimp only at a b e
    have e1 : x1 = y1 := by
      have c1 : (x1 * n + x2) / n = x1 := by rw [Nat.mul_comm, Nat.mul_add_div (by omega), Nat.div_eq_of_lt a.2]; rfl
      have c2 : (y1 * n + y2) / n = y1 := by rw [Nat.mul_comm, Nat.mul_add_div (by omega), Nat.div_eq_of_lt b.2]; rfl
      rw [← c1, ← c2, e]
    subst e1
    have : x2 = y2 := by omega
    rw [this]) (fun x hx => by
    obtain ⟨p, hp, rfl⟩ := List.mem_map.1 hx
    have a := h p hp
    have : (p.1 + 1) * n ≤ n * n := Nat.mul_le_mul_right n (by omega)
    rw [Nat.add_mul, Nat.one_mul] at this
    show p.1 * n + p.2 < n * n
    omega)
  rwa [List.length_map] at h1
theorem nodup_second {n : Nat} {E : List (Nat × Nat)} (hd : E.Nodup) (h : ∀ p ∈ E, p.1 < n) (i : Nat) : (E.filter fun p => decide (p.2 = i)).length ≤ n := by
  have h1 := nodup_len n ((E.filter fun p => decide (p.2 = i)).map Prod.fst) (nodup_map (hd.filter _) fun x hx y hy e => by
    have a := (List.mem_filter.1 hx).2
    have b := (List.mem_filter.1 hy).2
    simp only [decide_eq_true_eq] at a b
    exact Prod.ext e (a.trans b.symm)) (fun x hx => by
    obtain ⟨p, hp, rfl⟩ := List.mem_map.1 hx
    exact h p (List.mem_filter.1 hp).1)
  rwa [List.length_map] at h1

/-- Ways split: X0 as it was, X as it is; L: where each old block leads now; E: of each new block whose way it is, and where it leads; done: the ways that have been looked at. -/
structure SplitR (X0 : List (List PInstr)) (done : Nat → Nat → Prop) (X : List (List PInstr)) (L : Nat → List Int) (E : List (Nat × Nat)) : Prop where
  len : X.length = X0.length + E.length
  old : ∀ j (h : j < X0.length) (h2 : j < X.length), X[j] = setToL X0[j] (L j)
  llen : ∀ j (h : j < X0.length), (L j).length = (toL X0[j]).length
  way : ∀ j (h : j < X0.length) k (hk : k < (L j).length) (hk2 : k < (toL X0[j]).length), (L j)[k] = (toL X0[j])[k] ∨ ∃ e, ∃ he : e < E.length, E[e].1 = j ∧ (toL X0[j])[k] = E[e].2 ∧ (L j)[k] = ((X0.length + e : Nat) : Int)
  rest : ∀ j (h : j < X0.length) k (hk : k < (L j).length) (hk2 : k < (toL X0[j]).length), ¬ done j k → (L j)[k] = (toL X0[j])[k]
  new : ∀ e (he : e < E.length) (h2 : X0.length + e < X.length), X[X0.length + e] = [jumpI E[e].2]
  edge : ∀ e (he : e < E.length), ∃ h : E[e].1 < X0.length, E[e].2 < X0.length ∧ (E[e].2 : Int) ∈ toL X0[E[e].1] ∧ ((X0.length + e : Nat) : Int) ∈ L E[e].1
  nodup : E.Nodup
theorem SplitR.start {X0 : List (List PInstr)} (hpos : ∀ b ∈ X0, 0 < b.length) : SplitR X0 (fun _ _ => False) X0 (fun j => toL (X0.getD j [])) [] := by
  have hg : ∀ j (h : j < X0.length), X0.getD j [] = X0[j] := fun j h => by simp [List.getD, h]
  refine ⟨rfl, fun j h h2 => by rw [hg j h, setToL_self (hpos _ (List.getElem_mem h))], fun j h => by rw [hg j h], fun j h k hk hk2 => Or.inl ?_, fun j h k hk hk2 _ => ?_, fun e he => absurd he (by simp), fun e he => absurd he (by simp), List.nodup_nil⟩
  · simp only [hg j h]
  · simp only [hg j h]
/-- Who leads to a block with Phis, leads there as before, or stands between. -/
theorem SplitR.pred {X0 X : List (List PInstr)} {done : Nat → Nat → Prop} {L : Nat → List Int} {E : List (Nat × Nat)} (h : SplitR X0 done X L E) (hpos : ∀ b ∈ X0, 0 < b.length) (hto : ∀ b ∈ X0, inAll (toL b) X0.length = true)
    {i q : Nat} (hi : i < X0.length) (hq : q < X.length) (hm : (i : Int) ∈ toL X[q]) :
    (q < X0.length ∧ ∀ hq0 : q < X0.length, (i : Int) ∈ toL X0[q]) ∨ (X0.length ≤ q ∧ ∃ o, ∃ ho : o < X0.length, (i : Int) ∈ toL X0[o] ∧ (q : Int) ∈ L o ∧ (∀ j, j < X0.length → (q : Int) ∈ L j → j = o) ∧ (o, i) ∈ E) := by
  by_cases hq0 : q < X0.length
  · refine Or.inl ⟨hq0, fun _ => ?_⟩
    rw [h.old q hq0 hq, setToL_to (hpos _ (List.getElem_mem hq0))] at hm
    obtain ⟨k, hk, e⟩ := List.mem_iff_getElem.1 hm
    have hk2 : k < (toL X0[q]).length := by rw [← h.llen q hq0]; exact hk
    rcases h.way q hq0 k hk hk2 with e1 | ⟨e', he', -, -, e1⟩
    · rw [← e, e1]
      exact List.getElem_mem _
    · rw [e1] at e
      omega
  · refine Or.inr ⟨by omega, ?_⟩
    have hl := h.len
    obtain ⟨e, he⟩ : ∃ e, q = X0.length + e := ⟨q - X0.length, by omega⟩
    have hel : e < E.length := by omega
    subst he
    rw [h.new e hel hq] at hm
    have e1 : i = E[e].2 := by
      simp [toL, jumpI] at hm
      omega
    obtain ⟨h1, h2, h3, h4⟩ := h.edge e hel
    refine ⟨E[e].1, h1, by rw [e1]; exact h3, h4, fun j hj hmj => ?_, by rw [e1]; exact List.getElem_mem hel⟩
    obtain ⟨k, hk, ek⟩ := List.mem_iff_getElem.1 hmj
    have hk2 : k < (toL X0[j]).length := by rw [← h.llen j hj]; exact hk
    rcases h.way j hj k hk hk2 with e2 | ⟨e', he', g1, -, g3⟩
    · have := (inAll_mem (hto _ (List.getElem_mem hj)) (List.getElem_mem hk2)).2
      rw [← e2, ek] at this
      omega
    · rw [ek] at g3
      have : e = e' := by omega
      subst this
      exact g1.symm
/-- So many lead to a block at most. -/
theorem SplitR.many {X0 X : List (List PInstr)} {done : Nat → Nat → Prop} {L : Nat → List Int} {E : List (Nat × Nat)} (h : SplitR X0 done X L E) (hpos : ∀ b ∈ X0, 0 < b.length) (hto : ∀ b ∈ X0, inAll (toL b) X0.length = true) {i : Nat} (hi : i < X0.length)
    {l : List Nat} (hd : l.Nodup) (hl : ∀ q ∈ l, ∃ hq : q < X.length, (i : Int) ∈ toL X[q]) : l.length ≤ 2 * X0.length := by
  have hsplit : l.length = (l.filter fun q => decide (q < X0.length)).length + (l.filter fun q => !decide (q < X0.length)).length := by
    clear hd hl
    induction l with
    | nil => rfl
    | cons x r ih =>
      by_cases hx : x < X0.length
      · simp [hx, ih]; omega
      · simp [hx, ih]; omega
  have h1 := nodup_len X0.length (l.filter fun q => decide (q < X0.length)) (hd.filter _) (fun x hx => by simpa using (List.mem_filter.1 hx).2)
  have h2 := nodup_len X0.length ((l.filter fun q => !decide (q < X0.length)).map fun q => (E.getD (q - X0.length) (0, 0)).1) (nodup_map (hd.filter _) fun x hx y hy e => by
    obtain ⟨hx1, hx2⟩ := List.mem_filter.1 hx
    obtain ⟨hy1, hy2⟩ := List.mem_filter.1 hy
    simp only [Bool.not_eq_true', decide_eq_false_iff_not] at hx2 hy2
    obtain ⟨qx, mx⟩ := hl x hx1
    obtain ⟨qy, my⟩ := hl y hy1
    have hlen := h.len
    have key : ∀ (z : Nat) (hz : z < X.length) (hz2 : ¬ z < X0.length) (mz : (i : Int) ∈ toL X[z]), ∃ hz3 : z - X0.length < E.length, E[z - X0.length].2 = i := fun z hz hz2 mz => by
      refine ⟨by omega, ?_⟩
      have e1 : z = X0.length + (z - X0.length) := by omega
      have e2 := h.new (z - X0.length) (by omega) (by omega)
      have e3 : X[z] = X[X0.length + (z - X0.length)]'(by omega) := by congr 1
      rw [e3, e2] at mz
      simp [toL, jumpI] at mz
      omega
    obtain ⟨kx, ex⟩ := key x qx hx2 mx
    obtain ⟨ky, ey⟩ := key y qy hy2 my
    have e' : E[x - X0.length].1 = E[y - X0.length].1 := by simpa [List.getD, kx, ky] using e
    have e4 : E[x - X0.length] = E[y - X0.length] := Prod.ext e' (ex.trans ey.symm)
    have e5 := (List.nodup_iff_pairwise_ne.1 h.nodup)
    rw [List.pairwise_iff_getElem] at e5
    have : x - X0.length = y - X0.length := by
      rcases Nat.lt_trichotomy (x - X0.length) (y - X0.length) with g | g | g
      · exact absurd e4 (e5 _ _ kx ky g)
      · exact g
      · exact absurd e4.symm (e5 _ _ ky kx g)
    omega) (fun x hx => by
    obtain ⟨q, hq, rfl⟩ := List.mem_map.1 hx
    obtain ⟨hq1, hq2⟩ := List.mem_filter.1 hq
    simp only [Bool.not_eq_true', decide_eq_false_iff_not] at hq2
    obtain ⟨qx, _⟩ := hl q hq1
    have hlen := h.len
    have hk : q - X0.length < E.length := by omega
    obtain ⟨g, -⟩ := h.edge (q - X0.length) hk
    simpa [List.getD, hk] using g)
  rw [List.length_map] at h2
  omega

/-! ### How many Phis -/
def sumPhi : List (List PInstr) → Nat
  | [] => 0
  | b :: r => phisN b + sumPhi r
theorem addS_nodup : ∀ (l acc : Sets) (r : Sets), addS acc l = some r → (l.map Prod.fst).Nodup ∧ ∀ s ∈ l, lookS acc s.1 = none
  | [], acc, r, _ => ⟨List.nodup_nil, fun s hs => by cases hs⟩
  | s :: l, acc, r, h => by
    unfold addS at h
    split at h
    · cases h
    · rename_i hn
      have hn' : lookS acc s.1 = none := by simpa using hn
      obtain ⟨h1, h2⟩ := addS_nodup l _ r h
      have h3 : ∀ x ∈ l, lookS acc x.1 = none ∧ x.1 ≠ s.1 := fun x hx => by
        have := h2 x hx
        rw [lookS_append] at this
        cases e : lookS acc x.1 with
        | some p => rw [e] at this; cases this
        | none =>
          refine ⟨rfl, fun e2 => ?_⟩
          rw [e] at this
          obtain ⟨v, p⟩ := s
          simp only at e2
          simp [lookS, e2] at this
      refine ⟨?_, fun x hx => ?_⟩
      · rw [List.map_cons, List.nodup_cons]
        refine ⟨fun hm => ?_, h1⟩
        obtain ⟨x, hx, e⟩ := List.mem_map.1 hm
        exact (h3 x hx).2 e
      · rcases List.mem_cons.1 hx with rfl | hx
        · exact hn'
        · exact (h3 x hx).1
theorem setsBlk_len (i : Nat) : ∀ (b : List PInstr) (k : Nat), (∀ j (hj : j < b.length), j < phisN b → b[j].ds.length = 1) → phisN b ≤ (setsBlk i k b).length
  | [], k, _ => Nat.le_refl _
  | x :: r, k, h => by
    unfold phisN setsBlk
    split
    · rename_i hx
      have h0 := h 0 (by simp) (by unfold phisN; rw [if_pos hx]; omega)
      have h1 := setsBlk_len i r (k + 1) (fun j hj hp => by
        have := h (j + 1) (by simpa using hj) (by unfold phisN; rw [if_pos hx]; omega)
        simpa using this)
      simp only [List.getElem_cons_zero] at h0
      rw [List.length_append]
      have : (setsOf i k x.ds).length = x.ds.length := by simp [setsOf]
      omega
    · exact Nat.zero_le _
theorem setsBlk_memB {i : Nat} {s : Int × Int × Int} : ∀ {b : List PInstr} {k : Nat}, s ∈ setsBlk i k b → ∃ x ∈ b, s.1 ∈ x.ds
  | [], k, h => by simp [setsBlk] at h
  | x :: r, k, h => by
    unfold setsBlk at h
    rcases List.mem_append.1 h with h | h
    · obtain ⟨d, hd, rfl⟩ := List.mem_map.1 h
      exact ⟨x, List.mem_cons_self .., hd⟩
    · obtain ⟨y, hy, e⟩ := setsBlk_memB h
      exact ⟨y, List.mem_cons_of_mem _ hy, e⟩
theorem setsAll_memB {s : Int × Int × Int} : ∀ {l : List (List PInstr)} {i : Nat}, s ∈ setsAll i l → ∃ b ∈ l, ∃ x ∈ b, s.1 ∈ x.ds
  | [], i, h => by simp [setsAll] at h
  | b :: r, i, h => by
    unfold setsAll at h
    rcases List.mem_append.1 h with h | h
    · exact ⟨b, List.mem_cons_self .., setsBlk_memB h⟩
    · obtain ⟨y, hy, e⟩ := setsAll_memB h
      exact ⟨y, List.mem_cons_of_mem _ hy, e⟩
theorem setsAll_len : ∀ (l : List (List PInstr)) (i : Nat), (∀ b ∈ l, ∀ j (hj : j < b.length), j < phisN b → b[j].ds.length = 1) → sumPhi l ≤ (setsAll i l).length
  | [], i, _ => Nat.le_refl _
  | b :: r, i, h => by
    unfold sumPhi setsAll
    rw [List.length_append]
    have h1 := setsBlk_len i b 0 (h b (List.mem_cons_self ..))
    have h2 := setsAll_len r (i + 1) (fun x hx => h x (List.mem_cons_of_mem _ hx))
    omega
theorem sumPhi_le {fs : List PCode} {c : PCode} {A : Nat → Nat} (h : PhiOK fs c A) (ho : OnceOK c) (hb : blocksPhis c A 0 = 0) {acc : Sets} (hp : placesF c = some acc) : (sumPhi c.blocks : Int) ≤ c.vars := by
  obtain ⟨h1, -⟩ := addS_nodup _ _ _ hp
  have h2 := setsAll_len c.blocks 0 (fun b hbm j hj hlt => by
    obtain ⟨i, hi, rfl⟩ := List.mem_iff_getElem.1 hbm
    exact (h.phi i hi j hj hlt).1)
  have hin : ∀ s ∈ setsAll 0 c.blocks, 0 ≤ s.1 ∧ s.1 < c.vars := fun s hs => by
    obtain ⟨b, hbm, x, hx, hm⟩ := setsAll_memB hs
    obtain ⟨i, hi, rfl⟩ := List.mem_iff_getElem.1 hbm
    obtain ⟨k, hk, rfl⟩ := List.mem_iff_getElem.1 hx
    exact inAll_mem (ds_in ho hb hi hk).1 hm
  have h3 := nodup_len c.vars.toNat (((setsAll 0 c.blocks).map Prod.fst).map Int.toNat) (nodup_map h1 fun x hx y hy e => by
    obtain ⟨s, hs, rfl⟩ := List.mem_map.1 hx
    obtain ⟨t, ht, rfl⟩ := List.mem_map.1 hy
    have a := hin s hs
    have b := hin t ht
    omega) (fun x hx => by
    obtain ⟨y, hy, rfl⟩ := List.mem_map.1 hx
    obtain ⟨s, hs, rfl⟩ := List.mem_map.1 hy
    have a := hin s hs
    omega)
  rw [List.length_map, List.length_map] at h3
  have := h.hdr
  omega
end Go.Proofs.YthgfdcoicihpdaaDoor

namespace Go.Proofs.YthgfdcoicihpdaaDoor
open Go.RowKit Go.Pst
set_option linter.unusedVariables false

theorem sumLen_app : ∀ (a b : List (List PInstr)), sumLen (a ++ b) = sumLen a + sumLen b
  | [], b => by simp [sumLen]
  | x :: a, b => by
    have := sumLen_app a b
    simp only [List.cons_append, sumLen]
    omega
theorem sumLen_same : ∀ {a b : List (List PInstr)}, a.length = b.length → (∀ i (h : i < a.length) (h2 : i < b.length), a[i].length = b[i].length) → sumLen a = sumLen b
  | [], [], _, _ => rfl
  | [], y :: b, h, _ => by simp at h
  | x :: a, [], h, _ => by simp at h
  | x :: a, y :: b, h, he => by
    have h0 := he 0 (by simp) (by simp)
    simp only [List.getElem_cons_zero] at h0
    have h1 := sumLen_same (a := a) (b := b) (by simpa using h) (fun i hi hi2 => by
      have := he (i + 1) (by simpa using hi) (by simpa using hi2)
      simpa using this)
    simp only [sumLen]
    omega
theorem sumLen_set : ∀ {l : List (List PInstr)} {q : Nat} (h : q < l.length) (b : List PInstr), sumLen (l.set q b) + l[q].length = sumLen l + b.length
  | [], q, h, b => absurd h (by simp)
  | x :: r, 0, h, b => by
    simp only [List.set_cons_zero, sumLen, List.getElem_cons_zero]
    omega
  | x :: r, q + 1, h, b => by
    have := sumLen_set (l := r) (q := q) (by simpa using h) b
    simp only [List.set_cons_succ, sumLen, List.getElem_cons_succ]
    omega
theorem sumLen_drop : ∀ {l : List (List PInstr)} {Z : List (List PInstr)} (f : Nat → Nat), Z.length = l.length → (∀ i (h : i < l.length) (h2 : i < Z.length), Z[i].length = l[i].length - f i) → sumLen Z ≤ sumLen l
  | [], [], _, _, _ => Nat.le_refl _
  | [], y :: b, _, h, _ => by simp at h
  | x :: a, [], _, h, _ => by simp at h
  | x :: a, y :: b, f, h, he => by
    have h0 := he 0 (by simp) (by simp)
    simp only [List.getElem_cons_zero] at h0
    have h1 := sumLen_drop (l := a) (Z := b) (fun i => f (i + 1)) (by simpa using h) (fun i hi hi2 => by
      have := he (i + 1) (by simpa using hi) (by simpa using hi2)
      simpa using this)
    simp only [sumLen]
    omega
theorem sumPhi_take : ∀ {l : List (List PInstr)} {i : Nat} (h : i < l.length), sumPhi (l.take (i + 1)) = sumPhi (l.take i) + phisN l[i]
  | [], i, h => absurd h (by simp)
  | x :: r, 0, h => by simp [sumPhi]
  | x :: r, i + 1, h => by
    have := sumPhi_take (l := r) (i := i) (by simpa using h)
    rw [List.take_succ_cons, List.take_succ_cons, sumPhi, sumPhi, this, List.getElem_cons_succ]
    omega
theorem sumPhi_take_le : ∀ (l : List (List PInstr)) (i : Nat), sumPhi (l.take i) ≤ sumPhi l
  | [], i => by simp
  | x :: r, 0 => by simp [sumPhi]
  | x :: r, i + 1 => by
    have := sumPhi_take_le r i
    rw [List.take_succ_cons, sumPhi, sumPhi]
    omega
theorem sumPhi_at {l : List (List PInstr)} {i : Nat} (h : i < l.length) : phisN l[i] ≤ sumPhi l := by
  have h1 := sumPhi_take h
  have h2 := sumPhi_take_le l (i + 1)
  omega

/-- Phis put anew: as many instructions, the same but for what Phis ask. -/
structure ReR (X : List (List PInstr)) (A : Nat → Nat) (vars : Int) (X2 : List (List PInstr)) : Prop where
  len : X2.length = X.length
  at_ : ∀ i (h : i < X.length) (h2 : i < X2.length), X2[i].length = X[i].length ∧ ∀ k (hk : k < X[i].length) (hk2 : k < X2[i].length), X2[i][k] = X[i][k] ∨ (k < phisN X[i] ∧ ∃ l, X2[i][k] = { X[i][k] with ars := l } ∧ l.length = A i ∧ inAll l vars = true)
/-- Moves laid ahead of the blocks' last instructions. -/
structure MovR (X2 : List (List PInstr)) (v0 : Int) (Y : List (List PInstr)) (vars : Int) (M : Nat → List PInstr) (cnt : Nat) : Prop where
  len : Y.length = X2.length
  at_ : ∀ q (h : q < X2.length) (h2 : q < Y.length), Y[q] = X2[q].dropLast ++ M q ++ [X2[q].getLastD (jumpI 0)]
  moves : ∀ q, ∀ x ∈ M q, ∃ d a, x = moveI d a ∧ (0 ≤ d ∧ d < vars) ∧ 0 ≤ a ∧ a < vars
  vars : v0 ≤ vars ∧ vars ≤ v0 + cnt
  sums : sumLen Y ≤ sumLen X2 + 2 * cnt
  each : ∀ q, (M q).length ≤ 2 * cnt
theorem last_split {b : List PInstr} (h : 0 < b.length) : b.dropLast ++ [b.getLastD (jumpI 0)] = b := by
  have : b ≠ [] := by intro e; subst e; simp at h
  rw [List.getLastD_eq_getLast?, List.getLast?_eq_some_getLast this]
  exact List.dropLast_concat_getLast this
theorem MovR.start {X2 : List (List PInstr)} (hpos : ∀ b ∈ X2, 0 < b.length) (v0 : Int) : MovR X2 v0 X2 v0 (fun _ => []) 0 :=
  ⟨rfl, fun q h h2 => by rw [List.append_nil, last_split (hpos _ (List.getElem_mem h))], fun q x hx => (by cases hx), ⟨Int.le_refl _, by simp⟩, by omega, fun q => by simp⟩
theorem MovR.add {X2 : List (List PInstr)} {v0 : Int} {Y : List (List PInstr)} {vars : Int} {M : Nat → List PInstr} {cnt : Nat} (h : MovR X2 v0 Y vars M cnt) {q : Nat} (hq : q < Y.length) {mv : List PInstr} {vars' : Int} {k : Nat}
    (hv : vars ≤ vars' ∧ vars' ≤ vars + k) (hl : mv.length ≤ 2 * k) (hm : ∀ x ∈ mv, ∃ d a, x = moveI d a ∧ (0 ≤ d ∧ d < vars') ∧ 0 ≤ a ∧ a < vars') :
    MovR X2 v0 (Y.set q (Y[q].dropLast ++ mv ++ [Y[q].getLastD (jumpI 0)])) vars' (fun j => if j = q then M q ++ mv else M j) (cnt + k) := by
  have hlen := h.len
  have hY := h.at_ q (by omega) hq
  have e1 : Y[q].dropLast = X2[q].dropLast ++ M q := by rw [hY, List.dropLast_concat]
  have e2 : Y[q].getLastD (jumpI 0) = X2[q].getLastD (jumpI 0) := by rw [hY, List.getLastD_concat]
  have hlq : (Y[q].dropLast ++ mv ++ [Y[q].getLastD (jumpI 0)]).length = Y[q].length + mv.length := by
    have : 0 < Y[q].length := by rw [hY, List.length_append, List.length_singleton]; omega
    simp
    omega
  refine ⟨by rw [List.length_set]; exact hlen, fun j hj h2 => ?_, fun j x hx => ?_, ⟨by have := h.vars; omega, by have := h.vars; omega⟩, ?_, fun j => ?_⟩
  · rw [List.getElem_set]
    by_cases e : q = j
    · subst e
      rw [if_pos rfl, if_pos rfl, e1, e2, List.append_assoc X2[q].dropLast]
    · rw [if_neg e, if_neg (fun e' => e e'.symm)]
      exact h.at_ j hj (by rw [List.length_set] at h2; exact h2)
  · have old : ∀ j, ∀ x ∈ M j, ∃ d a, x = moveI d a ∧ (0 ≤ d ∧ d < vars') ∧ 0 ≤ a ∧ a < vars' := fun j x hx => by
      obtain ⟨d, a, e, hd, ha⟩ := h.moves j x hx
      exact ⟨d, a, e, by omega, by omega⟩
    (try dsimp only at hx)
    split at hx
    · rcases List.mem_append.1 hx with hx | hx
      · exact old q x hx
      · exact hm x hx
    · exact old j x hx
  · have h1 := sumLen_set hq (Y[q].dropLast ++ mv ++ [Y[q].getLastD (jumpI 0)])
    rw [hlq] at h1
    have h2 := h.sums
    omega
  · have h1 := h.each
    (try dsimp only)
    split
    · have := h1 q
      rw [List.length_append]
      omega
    · have := h1 j
      omega
theorem getLastD_at {b : List PInstr} (h : 0 < b.length) : b.getLastD (jumpI 0) = b[b.length - 1]'(by omega) := by
  rw [List.getLastD_eq_getLast?, getLast_of h]
  rfl
theorem phis_mid0 {x : PInstr} {m : List PInstr} (hm : ∀ y ∈ m, ¬ y.op = 14) : ∀ (pre : List PInstr), phisN (pre ++ [x]) < (pre ++ [x]).length → phisN (pre ++ m ++ [x]) = phisN (pre ++ [x])
  | [], h => by
    cases m with
    | nil => rfl
    | cons y r =>
      have hy := hm y (List.mem_cons_self ..)
      have hx : ¬ x.op = 14 := fun e => by simp [phisN, e] at h
      simp [phisN, hy, hx]
  | y :: r, h => by
    simp only [List.cons_append, phisN]
    split
    · rename_i e
      simp only [List.cons_append, phisN, e, if_true, List.length_cons] at h
      rw [phis_mid0 hm r (by omega)]
    · rfl
theorem phis_mid {b m : List PInstr} (h : phisN b < b.length) (hm : ∀ y ∈ m, ¬ y.op = 14) : phisN (b.dropLast ++ m ++ [b.getLastD (jumpI 0)]) = phisN b := by
  have e := last_split (b := b) (by omega)
  have h2 := phis_mid0 hm (x := b.getLastD (jumpI 0)) b.dropLast (by rw [e]; exact h)
  rw [e] at h2
  exact h2
/-- All together. -/
theorem back_rel {fs : List PCode} {c : PCode} {A A2 : Nat → Nat} (h : PhiOK fs c A) {done : Nat → Nat → Prop} {X X2 Y Z : List (List PInstr)} {L : Nat → List Int} {E : List (Nat × Nat)} {vars : Int} {M : Nat → List PInstr} {cnt : Nat}
    (h1 : SplitR c.blocks done X L E) (h2 : ReR X A2 c.vars X2) (h3 : MovR X2 c.vars Y vars M cnt) (hZl : Z.length = Y.length) (hZ : ∀ i (hi : i < Y.length) (hz : i < Z.length), Z[i] = Y[i].drop (phisN Y[i])) :
    BackR c vars Z M ∧ sumLen Z ≤ sumLen c.blocks + E.length + 2 * cnt ∧ Z.length = c.blocks.length + E.length := by
  have hpos : ∀ b ∈ c.blocks, 0 < b.length := fun b hb => Nat.lt_of_le_of_lt (Nat.zero_le _) (h.len b hb)
  have hX : X.length = c.blocks.length + E.length := h1.len
  have hX2 : X2.length = X.length := h2.len
  have hY : Y.length = X2.length := h3.len
  -- the old blocks
  have oldb : ∀ i (hi : i < c.blocks.length), ∃ (a1 : i < X2.length), X2[i].length = c.blocks[i].length ∧ X2[i].drop (phisN c.blocks[i]) = (setToL c.blocks[i] (L i)).drop (phisN c.blocks[i]) ∧ phisN X2[i] = phisN c.blocks[i] := by
    intro i hi
    have a0 : i < X.length := by omega
    have a1 : i < X2.length := by omega
    have hb := hpos _ (List.getElem_mem hi)
    have hlt := h.len _ (List.getElem_mem hi)
    have e0 := h1.old i hi a0
    obtain ⟨g1, g2⟩ := h2.at_ i a0 a1
    have hl0 : X[i].length = c.blocks[i].length := by rw [e0, setToL_len hb]
    have op : ∀ k (k1 : k < c.blocks[i].length) (k2 : k < X2[i].length), k ≤ phisN c.blocks[i] → X2[i][k].op = c.blocks[i][k].op := fun k k1 k2 _ => by
      have k3 : k < X[i].length := by omega
      have e1 : X[i][k].op = c.blocks[i][k].op := by
        have k4 : k < (setToL c.blocks[i] (L i)).length := by rw [setToL_len hb]; exact k1
        have : X[i][k] = (setToL c.blocks[i] (L i))[k] := by congr 1
        rw [this, setToL_get hb _ k4 k1]
        split <;> rfl
      rcases g2 k k3 k2 with e | ⟨-, l, e, -⟩
      · rw [e, e1]
      · rw [e]; exact e1
    have hph : phisN X2[i] = phisN c.blocks[i] := phisN_congr hlt op (by omega)
    have hphX : phisN X[i] = phisN c.blocks[i] := phisN_congr hlt (fun k k1 k2 _ => by
      have k4 : k < (setToL c.blocks[i] (L i)).length := by rw [setToL_len hb]; exact k1
      have : X[i][k] = (setToL c.blocks[i] (L i))[k] := by congr 1
      rw [this, setToL_get hb _ k4 k1]
      split <;> rfl) (by omega)
    refine ⟨a1, by omega, ?_, hph⟩
    refine List.ext_getElem (by rw [List.length_drop, List.length_drop, setToL_len hb]; omega) fun k k1 k2 => ?_
    rw [List.getElem_drop, List.getElem_drop]
    rw [List.length_drop] at k1
    rcases g2 (phisN c.blocks[i] + k) (by omega) (by omega) with e | ⟨e, -⟩
    · rw [e]; congr 1
    · omega
  have newb : ∀ i (hn : c.blocks.length ≤ i) (hi : i < X2.length), ∃ t : Nat, X2[i] = [jumpI t] ∧ t < c.blocks.length := by
    intro i hn hi
    obtain ⟨e, he⟩ : ∃ e, i = c.blocks.length + e := ⟨i - c.blocks.length, by omega⟩
    subst he
    have hel : e < E.length := by omega
    have a0 : c.blocks.length + e < X.length := by omega
    have e0 := h1.new e hel a0
    obtain ⟨g1, g2⟩ := h2.at_ _ a0 hi
    rw [e0] at g1
    have hp0 : phisN X[c.blocks.length + e] = 0 := by rw [e0]; rfl
    obtain ⟨-, ht, -⟩ := h1.edge e hel
    refine ⟨E[e].2, ?_, ht⟩
    rcases g2 0 (by rw [e0]; exact Nat.zero_lt_one) (by rw [g1]; exact Nat.zero_lt_one) with e1 | ⟨e1, -⟩
    · refine List.ext_getElem (by simpa using g1) fun k k1 k2 => ?_
      obtain rfl : k = 0 := by simp at k2; exact k2
      rw [e1]
      simp [e0]
    · omega
  have hphY : ∀ i (hi : i < Y.length) (hi2 : i < X2.length), phisN Y[i] = phisN X2[i] ∧ phisN X2[i] < X2[i].length := by
    intro i hi hi2
    have hlt : phisN X2[i] < X2[i].length := by
      by_cases hn : i < c.blocks.length
      · obtain ⟨_, a2, _, a4⟩ := oldb i hn
        have := h.len _ (List.getElem_mem hn)
        omega
      · obtain ⟨t, e, -⟩ := newb i (by omega) hi2
        rw [e]; simp [phisN, jumpI]
    refine ⟨?_, hlt⟩
    rw [h3.at_ i hi2 hi]
    exact phis_mid hlt (fun x hx => by
      obtain ⟨d, a, rfl, -⟩ := h3.moves i x hx
      show ¬ (2 : Int) = 14
      decide)
  have hZe : ∀ i (hi : i < X2.length) (hz : i < Z.length), Z[i] = (X2[i].drop (phisN X2[i])).dropLast ++ M i ++ [X2[i].getLastD (jumpI 0)] := by
    intro i hi hz
    have hy : i < Y.length := by omega
    obtain ⟨p1, p2⟩ := hphY i hy hi
    rw [hZ i hy hz, p1, h3.at_ i hi hy, List.append_assoc, List.drop_append_of_le_length (by simp; omega), ← List.append_assoc]
    congr 2
    refine List.ext_getElem (by simp; omega) fun k k1 k2 => ?_
    simp
  refine ⟨⟨by omega, fun i hi hz => ?_, fun i hz hn => ?_, fun i _ => h3.moves i, h3.vars.1⟩, ?_, by omega⟩
  · obtain ⟨a1, a2, a3, a4⟩ := oldb i hi
    have hb := hpos _ (List.getElem_mem hi)
    have hlt := h.len _ (List.getElem_mem hi)
    refine ⟨L i, ?_, h1.llen i hi, ?_⟩
    · rw [hZe i a1 hz, a4, a3]
      have d1 : ((setToL c.blocks[i] (L i)).drop (phisN c.blocks[i])).dropLast = (c.blocks[i].drop (phisN c.blocks[i])).dropLast := by
        refine List.ext_getElem (by simp [setToL_len hb]) fun k k1 k2 => ?_
        rw [List.getElem_dropLast, List.getElem_dropLast, List.getElem_drop, List.getElem_drop]
        have k3 : k < c.blocks[i].length - phisN c.blocks[i] - 1 := by simpa using k2
        rw [setToL_get hb _ (by rw [setToL_len hb]; omega) (by omega), if_neg (by omega)]
      have d2 : X2[i].getLastD (jumpI 0) = withTo (c.blocks[i].getLastD (jumpI 0)) (L i) := by
        have q1 : 0 < X2[i].length := by omega
        rw [getLastD_at q1, getLastD_at hb]
        have q2 : X2[i].length - 1 - phisN c.blocks[i] < (X2[i].drop (phisN c.blocks[i])).length := by rw [List.length_drop]; omega
        have q3 : X2[i].length - 1 - phisN c.blocks[i] < ((setToL c.blocks[i] (L i)).drop (phisN c.blocks[i])).length := by rw [← a3]; exact q2
        have q4 : (X2[i].drop (phisN c.blocks[i]))[X2[i].length - 1 - phisN c.blocks[i]] = ((setToL c.blocks[i] (L i)).drop (phisN c.blocks[i]))[X2[i].length - 1 - phisN c.blocks[i]] := by congr 1
        rw [List.getElem_drop, List.getElem_drop] at q4
        have q5 : phisN c.blocks[i] + (X2[i].length - 1 - phisN c.blocks[i]) = X2[i].length - 1 := by omega
        simp only [q5] at q4
        rw [q4, setToL_get hb _ (by rw [setToL_len hb]; omega) (by omega), if_pos (by omega)]
        congr 2
        omega
      rw [d1, d2]
    · refine inAll_of fun x hx => ?_
      obtain ⟨k, hk, rfl⟩ := List.mem_iff_getElem.1 hx
      have hk2 : k < (toL c.blocks[i]).length := by rw [← h1.llen i hi]; exact hk
      have hto := (instr_ok (h.bare _ (List.getElem_mem hi) (c.blocks[i].length - 1) (by omega) (by omega)).1).1
      rw [← toL_at hb] at hto
      rcases h1.way i hi k hk hk2 with e | ⟨e, he, -, -, e1⟩
      · rw [e]
        have := inAll_mem hto (List.getElem_mem hk2)
        omega
      · rw [e1]
        omega
  · have hi2 : i < X2.length := by omega
    obtain ⟨t, e, ht⟩ := newb i hn hi2
    refine ⟨t, ?_, by omega, by omega⟩
    rw [hZe i hi2 hz, e]
    simp [phisN, jumpI]
  · have s1 : sumLen Z ≤ sumLen Y := sumLen_drop (fun i => phisN (Y.getD i [])) hZl (fun i hi hz => by
      rw [hZ i hi hz, List.length_drop]
      simp [List.getD, hi])
    have s2 := h3.sums
    have s3 : sumLen X2 = sumLen X := sumLen_same hX2 (fun i hi hi2 => (h2.at_ i hi2 hi).1)
    have s4 : sumLen X = sumLen c.blocks + E.length := by
      have hsp : X = X.take c.blocks.length ++ X.drop c.blocks.length := (List.take_append_drop _ _).symm
      rw [hsp, sumLen_app]
      have t1 : sumLen (X.take c.blocks.length) = sumLen c.blocks := sumLen_same (by rw [List.length_take]; omega) (fun i hi hi2 => by
        rw [List.getElem_take, h1.old i hi2 (by omega), setToL_len (hpos _ (List.getElem_mem hi2))])
      have t2 : sumLen (X.drop c.blocks.length) = sumLen (E.map fun p => [jumpI p.2]) := sumLen_same (by rw [List.length_drop, List.length_map]; omega) (fun i hi hi2 => by
        rw [List.getElem_drop, h1.new i (by simpa using hi2) (by rw [List.length_drop] at hi; omega)]
        simp)
      have t3 : sumLen (E.map fun p => [jumpI p.2]) = E.length := by
        clear h1 hX hsp t2 newb
        induction E with
        | nil => rfl
        | cons x r ih => simp only [List.map_cons, sumLen, List.length_cons, List.length_nil, ih]; omega
      omega
    omega
end Go.Proofs.YthgfdcoicihpdaaDoor

/-
  What machineInstrFaultF says, in the order in which vm.checkInstr asks: plain.
-/
import Derived.Test.YthgmaapebplimaaDoorVmInvoke
import Derived.Test.YthgmaapebplimaaDoorIrInstr
import Derived.Test.YthgmaapebplimaaDoorMachInstr
namespace Go.Proofs.YthgmaapebplimaaDoor
open Go.RowKit Go.Pst
set_option linter.unusedVariables false

def badR (r : Int × Int × Int) (x : PInstr) : Prop :=
  (0 ≤ r.1 ∧ (x.ds.length : Int) ≠ r.1) ∨ (0 ≤ r.2.1 ∧ (x.as.length : Int) ≠ r.2.1) ∨ (0 ≤ r.2.2 ∧ (x.to.length : Int) ≠ r.2.2) ∨ (x.op = 11 ∧ x.to.length = 0)
open Classical in
noncomputable def badRB (r : Int × Int × Int) (x : PInstr) : Bool := decide (badR r x)
theorem badRB_t {r : Int × Int × Int} {x : PInstr} (h : badR r x) : badRB r x = true := by unfold badRB; simpa using h
theorem badRB_f {r : Int × Int × Int} {x : PInstr} (h : ¬ badR r x) : badRB r x = false := by unfold badRB; simpa using h

def vmGood (fs : List PCode) (slots results : Int) (x : PInstr) : Int :=
  if x.op = 21 ∨ x.op = 22 then (if 0 ≤ x.n ∧ x.n ≤ slots - 1 then 0 else 2)
  else if x.op = 3 then (if x.s ∈ mathsF then 0 else 4)
  else if x.op = 8 then
    (if x.s = sText then (if x.as.length = 2 then 0 else 10) else if x.s = sInt ∨ x.s = sBool then (if x.as.length = 1 then 0 else 10) else 4)
  else if x.op = 12 then (if (x.as.length : Int) = results then 0 else 10)
  else if x.op = 13 then (if 2 ≤ x.n ∧ x.n ≤ 5 then 0 else 4)
  else if x.op = 7 then invokeFaultF fs x
  else 0

structure VmCase (fs : List PCode) (vars slots results : Int) (nb : Nat) (x : PInstr) (r : Int × Int × Int) (most : Int) : Prop where
  row : getI rulesI x.op = some (row3 r)
  mostIs : most = if x.op = 7 ∨ x.op = 12 then slots else vars
  count : badR r x → machineInstrFaultF fs vars slots results nb x = 10
  range : ¬ badR r x → (inAll x.ds most && inAll x.as most && inAll x.to nb) = false → machineInstrFaultF fs vars slots results nb x = 2
  good : ¬ badR r x → (inAll x.ds most && inAll x.as most && inAll x.to nb) = true → machineInstrFaultF fs vars slots results nb x = vmGood fs slots results x

theorem vmCase_of (fs : List PCode) (vars slots results : Int) (nb : Nat) (x : PInstr) :
    (getI rulesI x.op = none ∧ machineInstrFaultF fs vars slots results nb x = 3) ∨ ∃ r most, VmCase fs vars slots results nb x r most := by
  by_cases hs : x.op = 21 ∨ x.op = 22
  · right
    have hF := machF_slot (fs := fs) (vars := vars) (slots := slots) (results := results) (nb := nb) hs
    have h7 : ¬ (x.op = 7 ∨ x.op = 12) := by omega
    have key : ∀ (d a : Nat), (if x.op = 22 then 0 else 1) = d → (if x.op = 22 then 1 else 0) = a → (badR ((d : Int), (a : Int), 0) x ↔ (x.ds.length ≠ d ∨ x.as.length ≠ a ∨ x.to.length ≠ 0)) := by
      intro d a _ _
      unfold badR
      simp only
      omega
    have fin : ∀ (d a : Nat), (if x.op = 22 then 0 else 1) = d → (if x.op = 22 then 1 else 0) = a → getI rulesI x.op = some (row3 ((d : Int), (a : Int), 0)) → ∃ r most, VmCase fs vars slots results nb x r most := by
      intro d a hd ha hrow
      refine ⟨_, vars, hrow, by rw [if_neg h7], fun hb => ?_, fun hb hr => ?_, fun hb hr => ?_⟩
      · rw [hF, hd, ha, if_pos ((key d a hd ha).1 hb)]
      · have hn : ¬ (x.ds.length ≠ d ∨ x.as.length ≠ a ∨ x.to.length ≠ 0) := fun h => hb ((key d a hd ha).2 h)
        have hto : x.to = [] := List.eq_nil_of_length_eq_zero (by omega)
        rw [hF, hd, ha, if_neg hn, if_pos]
        rw [hto] at hr
        have : (inAll x.ds vars && inAll x.as vars) = false := by simpa [inAll] using hr
        rw [this]; rfl
      · have hn : ¬ (x.ds.length ≠ d ∨ x.as.length ≠ a ∨ x.to.length ≠ 0) := fun h => hb ((key d a hd ha).2 h)
        simp only [Bool.and_eq_true] at hr
        rw [hF, hd, ha, if_neg hn, hr.1.1, hr.1.2]
        unfold vmGood
        rw [if_pos hs]
        by_cases c : 0 ≤ x.n ∧ x.n ≤ slots - 1
        · rw [if_pos c]; simp [c.1, c.2]
        · rw [if_neg c, if_pos]
          by_cases c0 : 0 ≤ x.n
          · have : ¬ x.n ≤ slots - 1 := fun h => c ⟨c0, h⟩
            simp [this]
          · simp [c0]
    rcases hs with h | h
    · exact fin 1 0 (by rw [h]; rfl) (by rw [h]; rfl) (by rw [h]; exact rulesI_at 21)
    · exact fin 0 1 (by rw [h]; rfl) (by rw [h]; rfl) (by rw [h]; exact rulesI_at 22)
  by_cases hk : 1 ≤ x.op ∧ x.op ≤ 13
  · right
    obtain ⟨k, hop⟩ : ∃ k : Nat, x.op = (k : Int) := ⟨x.op.toNat, by omega⟩
    obtain ⟨d, a, t, har, hbc⟩ := badCount_iff hop (by omega) (by omega)
    have hbad : badR (ruleF k) x ↔ badCount x := by
      unfold badR badCount
      rw [hop]
      simp only [Int.toNat_natCast]
    refine ⟨ruleF k, _, ?_, rfl, fun hb => ?_, fun hb hr => ?_, fun hb hr => ?_⟩
    · rw [hop, rulesI_at]
      have : ruleM k = some (ruleF k) := by unfold ruleM; rw [if_pos (by omega)]
      rw [this]; rfl
    · have := instrFaultF_count (fs := fs) (vars := if x.op = 7 ∨ x.op = 12 then slots else vars) (results := results) (nb := nb) har (hbc.1 (hbad.1 hb))
      unfold machineInstrFaultF
      rw [if_neg hs]; exact this
    · have hn : ¬ (x.ds.length ≠ d ∨ x.as.length ≠ a ∨ x.to.length ≠ t) := fun h => hb (hbad.2 (hbc.2 h))
      obtain ⟨rfl, rfl, rfl⟩ : x.ds.length = d ∧ x.as.length = a ∧ x.to.length = t := by omega
      unfold machineInstrFaultF
      rw [if_neg hs]; exact instrFaultF_range har hr
    · have hn : ¬ (x.ds.length ≠ d ∨ x.as.length ≠ a ∨ x.to.length ≠ t) := fun h => hb (hbad.2 (hbc.2 h))
      obtain ⟨rfl, rfl, rfl⟩ : x.ds.length = d ∧ x.as.length = a ∧ x.to.length = t := by omega
      unfold machineInstrFaultF vmGood
      rw [if_neg hs, if_neg hs]; exact instrFaultF_good har hr
  · left
    have har : arity x = none := by unfold arity; repeat rw [if_neg (by omega)]
    refine ⟨?_, by unfold machineInstrFaultF; rw [if_neg hs]; unfold instrFaultF; rw [har]⟩
    by_cases h0 : x.op < 0
    · exact rulesI_neg _ h0
    · obtain ⟨k, hop⟩ : ∃ k : Nat, x.op = (k : Int) := ⟨x.op.toNat, by omega⟩
      rw [hop, rulesI_at]
      have : ruleM k = none := by unfold ruleM; rw [if_neg (by omega), if_neg (by omega), if_neg (by omega)]
      rw [this]; rfl

/-- The closures of checkInstr: a number outside. -/
theorem odd3_answers (hi : Int) (l : List Int) (w : World) (blk : Nat) (hc : w.cell? ⟨blk, 0, none⟩ = some (.int .i64 hi)) :
    Answers Tryd.prog 41 #[.pointer (some ⟨blk, 0, none⟩)] (oddF hi) l w := by
  intro x _ w' hd
  have hc' : w'.cell? ⟨blk, 0, none⟩ = some (.int .i64 hi) := by rw [hd.cell]; exact hc
  by_cases h : x < 0
  · have h1 : decide (x < 0) = true := decide_eq_true h
    go_enter Tryd.func41, Tryd.ntmps41
    go_wp2_with fail
    go_ret
    exact ⟨by simp [oddF, h], Drawn.refl _⟩
  · have h1 : decide (x < 0) = false := decide_eq_false h
    go_enter Tryd.func41, Tryd.ntmps41
    go_wp2_with fail
    go_ret
    exact ⟨by simp [oddF]; omega, Drawn.refl _⟩

theorem odd4_answers (nb : Nat) (l : List Int) (w : World) (blk : Nat) (a : Option Addr) (cap : Nat) (hn : nb ≤ 9223372036854775807) (hc : w.cell? ⟨blk, 5, none⟩ = some (.slice a nb cap)) :
    Answers Tryd.prog 42 #[.pointer (some ⟨blk, 0, none⟩)] (oddF nb) l w := by
  intro x _ w' hd
  have hc' : w'.cell? ⟨blk, 5, none⟩ = some (.slice a nb cap) := by rw [hd.cell]; exact hc
  by_cases h : x < 0
  · have h1 : decide (x < 0) = true := decide_eq_true h
    go_enter Tryd.func42, Tryd.ntmps42
    go_wp2_with fail
    go_ret
    exact ⟨by simp [oddF, h], Drawn.refl _⟩
  · have h1 : decide (x < 0) = false := decide_eq_false h
    go_enter Tryd.func42, Tryd.ntmps42
    go_wp2_with fail
    go_ret
    exact ⟨by simp [oddF]; omega, Drawn.refl _⟩
structure VmLaid (w : World) : Prop where
  lt : 2 < w.heap.size
  maths : ∃ a cap, w.cell? ⟨2, 0, none⟩ = some (.slice a 11 cap) ∧ StrsAt w a mathsF
theorem VmLaid.below {w w' : World} (h : VmLaid w) (hb : Below w.heap.size w w') : VmLaid w' := by
  refine ⟨Nat.lt_of_lt_of_le h.lt hb.size, ?_⟩
  obtain ⟨a, cap, h1, h2⟩ := h.maths
  exact ⟨a, cap, (hb.cell (p := ⟨_, 0, none⟩) h.lt).trans h1, h2.below hb⟩
end Go.Proofs.YthgmaapebplimaaDoor

/-
  Plain laws: which blocks are reached from the first one, with one block left out; the worklist's and the round-after-round way to find them; what is on each way. No program in sight.
-/
import Derived.Test.YthgfdcoicihpdaaDoorMat
namespace Go.Pst

def inB (n : Nat) (t : Int) : Bool := decide (0 ≤ t) && decide (t < (n : Int))
/-- Where a block leads, by its last instruction. -/
def leadsF (c : PCode) (i : Nat) : List Int :=
  match c.blocks[i]? with
  | some b => match b.getLast? with
    | some x => x.to.filter (inB c.blocks.length)
    | none => []
  | none => []
theorem leadsF_at {c : PCode} {i : Nat} (hi : i < c.blocks.length) : leadsF c i = match c.blocks[i].getLast? with | some x => x.to.filter (inB c.blocks.length) | none => [] := by simp [leadsF, hi]
theorem leads_in (c : PCode) (i : Nat) (x : Int) (h : x ∈ leadsF c i) : 0 ≤ x ∧ x < (c.blocks.length : Int) := by
  unfold leadsF at h
  split at h
  · split at h
    · simp [inB] at h
      exact h.2
    · cases h
  · cases h

/-- A block is reached from the first one, never through x. -/
inductive Reach (c : PCode) (x : Option Nat) : Nat → Prop where
  | zero (hx : x ≠ some 0) (hn : 0 < c.blocks.length) : Reach c x 0
  | step {i t : Nat} (h : Reach c x i) (ht : (t : Int) ∈ leadsF c i) (hx : x ≠ some t) : Reach c x t

theorem Reach.lt {c : PCode} {x : Option Nat} {i : Nat} (h : Reach c x i) : i < c.blocks.length := by
  cases h with
  | zero _ hn => exact hn
  | step _ ht _ => have := leads_in c _ _ ht; omega
theorem Reach.live {c : PCode} {x : Option Nat} {i : Nat} (h : Reach c x i) : Reach c none i := by
  induction h with
  | zero _ hn => exact .zero (by simp) hn
  | step _ ht _ ih => exact .step ih ht (by simp)
theorem Reach.not {c : PCode} {k : Nat} (h : Reach c (some k) k) : False := by
  generalize hk : some k = x at h
  cases h with
  | zero hx _ => exact hx hk.symm
  | step _ _ hx => exact hx hk.symm

open Classical in
noncomputable def reachB (c : PCode) (x : Option Nat) (i : Nat) : Bool := decide (Reach c x i)
theorem reachB_iff (c : PCode) (x : Option Nat) (i : Nat) : reachB c x i = true ↔ Reach c x i := by simp [reachB]

def unseen (n : Nat) (f : Nat → Bool) : Nat := ((List.range n).filter fun j => !f j).length
theorem unseen_le (n : Nat) (f : Nat → Bool) : unseen n f ≤ n := by
  have := List.length_filter_le (fun j => !f j) (List.range n)
  simpa [unseen] using this
theorem unseen_upd {n t : Nat} {f : Nat → Bool} (ht : t < n) (hf : f t = false) : unseen n (upd f t true) + 1 = unseen n f := by
  unfold unseen
  induction n with
  | zero => omega
  | succ n ih =>
    rw [List.range_succ, List.filter_append, List.filter_append, List.length_append, List.length_append]
    by_cases h : t = n
    · subst h
      have e : (List.range t).filter (fun j => !upd f t true j) = (List.range t).filter (fun j => !f j) := by
        apply List.filter_congr
        intro j hj
        rw [upd_other _ _ (by have := List.mem_range.1 hj; omega)]
      rw [e]
      simp [upd_same, hf]
    · have := ih (by omega)
      have e : [n].filter (fun j => !upd f t true j) = [n].filter (fun j => !f j) := by
        apply List.filter_congr
        intro j hj
        rw [upd_other _ _ (by simp at hj; omega)]
      rw [e]
      omega

/-- The places that a block's last instruction names. -/
def lastTo (c : PCode) (i : Nat) : List Int :=
  match c.blocks[i]? with
  | some b => match b.getLast? with
    | some x => x.to
    | none => []
  | none => []
theorem lastTo_at {c : PCode} {i : Nat} (hi : i < c.blocks.length) : lastTo c i = match c.blocks[i].getLast? with | some x => x.to | none => [] := by simp [lastTo, hi]
theorem mem_lastTo (c : PCode) (i t : Nat) (ht : t < c.blocks.length) : (t : Int) ∈ lastTo c i ↔ (t : Int) ∈ leadsF c i := by
  unfold lastTo leadsF
  cases c.blocks[i]? with
  | none => simp
  | some b =>
    cases h : b.getLast? with
    | none => simp [h]
    | some x =>
      simp [h, inB]
      omega

/-! ### The worklist -/
structure Work (c : PCode) (seen : Nat → Bool) (ws : List Nat) (ex : Nat → Nat → Prop) : Prop where
  zero : seen 0 = true
  live : ∀ j, seen j = true → Reach c none j
  mem : ∀ j ∈ ws, seen j = true
  closed : ∀ j, seen j = true → j ∈ ws ∨ ∀ t : Nat, (t : Int) ∈ leadsF c j → seen t = true ∨ ex j t

theorem Work.start {c : PCode} (hn : 0 < c.blocks.length) : Work c (upd (fun _ => false) 0 true) [0] (fun _ _ => False) :=
  ⟨by simp [upd], fun j h => by
    by_cases e : j = 0
    · subst e; exact .zero (by simp) hn
    · simp [upd, e] at h, fun j h => by simp at h; subst h; simp [upd], fun j h => by
    by_cases e : j = 0
    · left; simp [e]
    · simp [upd, e] at h⟩
theorem Work.pop {c : PCode} {seen : Nat → Bool} {ws : List Nat} {i : Nat} (h : Work c seen (ws ++ [i]) (fun _ _ => False)) : Work c seen ws (fun j t => j = i ∧ ¬ (t : Int) ∈ (leadsF c i).take 0) :=
  ⟨h.zero, h.live, fun j hj => h.mem j (by simp [hj]), fun j hj => by
    by_cases e : j = i
    · right; intro t _; right; exact ⟨e, by simp⟩
    · rcases h.closed j hj with h1 | h1
      · left
        rcases List.mem_append.1 h1 with h2 | h2
        · exact h2
        · simp at h2; exact absurd h2 e
      · right
        intro t ht
        rcases h1 t ht with h2 | h2
        · exact Or.inl h2
        · exact h2.elim⟩
theorem mem_take_succ {l : List Int} {k : Nat} (h : k < l.length) (x : Int) : x ∈ l.take (k + 1) ↔ x ∈ l.take k ∨ x = l[k] := by
  rw [List.take_succ_eq_append_getElem h, List.mem_append, List.mem_singleton]
theorem Work.old {c : PCode} {seen : Nat → Bool} {ws : List Nat} {i q : Nat} (h : Work c seen ws (fun j t => j = i ∧ ¬ (t : Int) ∈ (leadsF c i).take q)) (hq : q < (leadsF c i).length) {t0 : Nat} (ht : (leadsF c i)[q] = (t0 : Int)) (hs : seen t0 = true) :
    Work c seen ws (fun j t => j = i ∧ ¬ (t : Int) ∈ (leadsF c i).take (q + 1)) :=
  ⟨h.zero, h.live, h.mem, fun j hj => by
    rcases h.closed j hj with h1 | h1
    · exact Or.inl h1
    · right
      intro t htt
      rcases h1 t htt with h2 | ⟨h2, h3⟩
      · exact Or.inl h2
      · by_cases e : t = t0
        · subst e; exact Or.inl hs
        · exact Or.inr ⟨h2, fun h4 => by
            rcases (mem_take_succ hq _).1 h4 with h5 | h5
            · exact h3 h5
            · rw [ht] at h5; omega⟩⟩
theorem Work.new {c : PCode} {seen : Nat → Bool} {ws : List Nat} {i q : Nat} (h : Work c seen ws (fun j t => j = i ∧ ¬ (t : Int) ∈ (leadsF c i).take q)) (hi : seen i = true) (hq : q < (leadsF c i).length) {t0 : Nat} (ht : (leadsF c i)[q] = (t0 : Int)) :
    Work c (upd seen t0 true) (ws ++ [t0]) (fun j t => j = i ∧ ¬ (t : Int) ∈ (leadsF c i).take (q + 1)) := by
  have hmem : (t0 : Int) ∈ leadsF c i := by rw [← ht]; exact List.getElem_mem hq
  have hup : ∀ j, seen j = true → upd seen t0 true j = true := fun j hj => by
    by_cases e : j = t0
    · subst e; simp [upd]
    · rw [upd_other _ _ e]; exact hj
  refine ⟨hup 0 h.zero, fun j hj => ?_, fun j hj => ?_, fun j hj => ?_⟩
  · by_cases e : j = t0
    · subst e; exact .step (h.live i hi) hmem (by simp)
    · rw [upd_other _ _ e] at hj; exact h.live j hj
  · rcases List.mem_append.1 hj with h1 | h1
    · exact hup j (h.mem j h1)
    · simp at h1; subst h1; simp [upd]
  · by_cases e : j = t0
    · left; simp [e]
    · rw [upd_other _ _ e] at hj
      rcases h.closed j hj with h1 | h1
      · left; simp [h1]
      · right
        intro t htt
        rcases h1 t htt with h2 | ⟨h2, h3⟩
        · exact Or.inl (hup t h2)
        · by_cases e : t = t0
          · subst e; left; simp [upd]
          · exact Or.inr ⟨h2, fun h4 => by
              rcases (mem_take_succ hq _).1 h4 with h5 | h5
              · exact h3 h5
              · rw [ht] at h5; omega⟩
theorem Work.whole {c : PCode} {seen : Nat → Bool} {ws : List Nat} {i : Nat} (h : Work c seen ws (fun j t => j = i ∧ ¬ (t : Int) ∈ (leadsF c i).take (leadsF c i).length)) : Work c seen ws (fun _ _ => False) :=
  ⟨h.zero, h.live, h.mem, fun j hj => by
    rcases h.closed j hj with h1 | h1
    · exact Or.inl h1
    · right
      intro t htt
      rcases h1 t htt with h2 | ⟨h2, h3⟩
      · exact Or.inl h2
      · rw [List.take_length] at h3; subst h2; exact absurd htt h3⟩
theorem Work.done {c : PCode} {seen : Nat → Bool} (h : Work c seen [] (fun _ _ => False)) (j : Nat) : seen j = reachB c none j := by
  rw [Bool.eq_iff_iff, reachB_iff]
  refine ⟨h.live j, fun hr => ?_⟩
  induction hr with
  | zero _ _ => exact h.zero
  | step _ ht _ ih =>
    rcases h.closed _ ih with h1 | h1
    · cases h1
    · rcases h1 _ ht with h2 | h2
      · exact h2
      · exact h2.elim

/-! ### What is on each way: by rounds -/
/-- The sets while they shrink: S i k. -/
structure Shrink (c : PCode) (S : Nat → Nat → Bool) : Prop where
  first : ∀ k, S 0 k = decide (k = 0)
  self : ∀ i, S i i = true
  sound : ∀ i k, Reach c none i → ¬ Reach c (some k) i → S i k = true

theorem Shrink.start (c : PCode) : Shrink c (fun i k => decide (i ≠ 0) || decide (k = 0)) :=
  ⟨fun k => by simp, fun i => by by_cases h : i = 0 <;> simp [h], fun i k hi hk => by
    by_cases h : i = 0
    · subst h
      by_cases h' : k = 0
      · simp [h']
      · exact absurd (Reach.zero (by simpa using h') hi.lt) hk
    · simp [h]⟩

/-- One may go: some block ahead that is live lacks it. -/
theorem Shrink.drop {c : PCode} {S : Nat → Nat → Bool} (h : Shrink c S) {i k p : Nat} (hi : i ≠ 0) (hki : k ≠ i) (hp : Reach c none p) (hl : (i : Int) ∈ leadsF c p) (hS : S p k = false) :
    Shrink c (upd S i (upd (S i) k false)) := by
  refine ⟨fun k' => by rw [upd_other _ _ (Ne.symm hi)]; exact h.first k', fun j => ?_, fun j k' hj hk' => ?_⟩
  · by_cases e : j = i
    · subst e; rw [upd_same, upd_other _ _ (Ne.symm hki)]; exact h.self j
    · rw [upd_other _ _ e]; exact h.self j
  · by_cases e : j = i
    · subst e
      rw [upd_same]
      by_cases e' : k' = k
      · subst e'
        exfalso
        have : S p k' = true := h.sound p k' hp (fun hr => hk' (.step hr hl (by simpa using hki)))
        rw [hS] at this
        cases this
      · rw [upd_other _ _ e']; exact h.sound j k' hj hk'
    · rw [upd_other _ _ e]; exact h.sound j k' hj hk'

/-- Nothing went in a whole round: then the sets are what is on each way. -/
theorem Shrink.done {c : PCode} {S : Nat → Nat → Bool} (h : Shrink c S) (hst : ∀ i k, i ≠ 0 → i < c.blocks.length → k < c.blocks.length → Reach c none i → k ≠ i → S i k = true → ∀ p, Reach c none p → (i : Int) ∈ leadsF c p → S p k = true)
    {i k : Nat} (hk : k < c.blocks.length) (hi : Reach c none i) : S i k = !reachB c (some k) i := by
  by_cases hr : Reach c (some k) i
  · rw [(reachB_iff _ _ _).2 hr]
    show S i k = false
    induction hr with
    | zero hx _ => rw [h.first]; simpa using fun e => hx (by rw [e])
    | step hr' ht hx ih =>
      rename_i p t
      have hp := hr'.live
      have ihp := ih hp
      cases hS : S t k with
      | false => rfl
      | true =>
        by_cases e : t = 0
        · subst e
          rw [h.first] at hS
          simp at hS
          exact absurd (by rw [hS]) hx
        · have := hst t k e hi.lt hk hi (fun e' => hx (by rw [e'])) hS p hp ht
          rw [this] at ihp
          cases ihp
  · have : reachB c (some k) i = false := by
      cases hb : reachB c (some k) i with
      | false => rfl
      | true => exact absurd ((reachB_iff _ _ _).1 hb) hr
    rw [this, h.sound i k hi hr]
    rfl

theorem unseen_congr {n : Nat} {f g : Nat → Bool} (h : ∀ j, j < n → f j = g j) : unseen n f = unseen n g := by
  unfold unseen
  congr 1
  apply List.filter_congr
  intro j hj
  rw [h j (List.mem_range.1 hj)]
/-- How many are in the sets. -/
def trues (n : Nat) (S : Nat → Nat → Bool) : Nat := unseen (n * n) fun m => !S (m / n) (m % n)
theorem trues_drop {n i k : Nat} {S : Nat → Nat → Bool} (hi : i < n) (hk : k < n) (hS : S i k = true) : trues n (upd S i (upd (S i) k false)) + 1 = trues n S := by
  have hn : 0 < n := by omega
  have hm : i * n + k < n * n := by
    have : (i + 1) * n ≤ n * n := Nat.mul_le_mul_right _ hi
    rw [Nat.succ_mul] at this
    omega
  have hd : (i * n + k) / n = i := by rw [Nat.mul_comm, Nat.mul_add_div hn, Nat.div_eq_of_lt hk]; rfl
  have hr : (i * n + k) % n = k := by rw [Nat.mul_comm, Nat.mul_add_mod, Nat.mod_eq_of_lt hk]
  have := unseen_upd (n := n * n) (t := i * n + k) (f := fun m => !S (m / n) (m % n)) hm (by simp [hd, hr, hS])
  unfold trues
  rw [← this]
  congr 1
  apply unseen_congr
  intro m _
  by_cases e : m = i * n + k
  · subst e
    simp [upd, hd, hr]
  · rw [upd_other _ _ e]
    by_cases e1 : m / n = i
    · by_cases e2 : m % n = k
      · exfalso
        have := Nat.div_add_mod m n
        rw [e1, e2, Nat.mul_comm] at this
        omega
      · rw [e1, upd_same, upd_other _ _ e2]
    · rw [upd_other _ _ e1]

/-- Nothing may go at a place of the sets. -/
def Stable (c : PCode) (S : Nat → Nat → Bool) (i k : Nat) : Prop :=
  i ≠ 0 → Reach c none i → k ≠ i → S i k = true → ∀ p, Reach c none p → (i : Int) ∈ leadsF c p → S p k = true
/-- The state in a round of the outermost loop that began with u0 in the sets. -/
def AbIn (c : PCode) (u0 i k : Nat) (S : Nat → Nat → Bool) (b : Bool) : Prop :=
  trues c.blocks.length S + (if b then 1 else 0) ≤ u0 ∧ Shrink c S ∧ (b = false → (∀ i', i' < i → ∀ k', k' < c.blocks.length → Stable c S i' k') ∧ ∀ k', k' < k → Stable c S i k')
theorem AbIn.next {c : PCode} {u0 i : Nat} {S : Nat → Nat → Bool} {b : Bool} (h : AbIn c u0 i c.blocks.length S b) : AbIn c u0 (i + 1) 0 S b :=
  ⟨h.1, h.2.1, fun hb => ⟨fun i' hi' k' hk' => by
    by_cases e : i' = i
    · subst e; exact (h.2.2 hb).2 k' hk'
    · exact (h.2.2 hb).1 i' (by omega) k' hk', fun k' hk' => by omega⟩⟩
theorem AbIn.dead {c : PCode} {u0 i : Nat} {S : Nat → Nat → Bool} {b : Bool} (h : AbIn c u0 i 0 S b) (hi : reachB c none i = false) : AbIn c u0 (i + 1) 0 S b :=
  ⟨h.1, h.2.1, fun hb => ⟨fun i' hi' k' hk' => by
    by_cases e : i' = i
    · subst e
      intro _ hr
      rw [(reachB_iff _ _ _).2 hr] at hi
      cases hi
    · exact (h.2.2 hb).1 i' (by omega) k' hk', fun k' hk' => by omega⟩⟩
theorem AbIn.skip {c : PCode} {u0 i k : Nat} {S : Nat → Nat → Bool} {b : Bool} (h : AbIn c u0 i k S b) (hs : Stable c S i k) : AbIn c u0 i (k + 1) S b :=
  ⟨h.1, h.2.1, fun hb => ⟨(h.2.2 hb).1, fun k' hk' => by
    by_cases e : k' = k
    · subst e; exact hs
    · exact (h.2.2 hb).2 k' (by omega)⟩⟩
theorem AbIn.drop {c : PCode} {u0 i k p : Nat} {S : Nat → Nat → Bool} {b : Bool} (h : AbIn c u0 i k S b) (hi0 : i ≠ 0) (hi : i < c.blocks.length) (hk : k < c.blocks.length) (hki : k ≠ i) (hS : S i k = true) (hp : Reach c none p) (hl : (i : Int) ∈ leadsF c p) (hpk : S p k = false) :
    AbIn c u0 i (k + 1) (upd S i (upd (S i) k false)) true := by
  have ht := trues_drop hi hk hS
  refine ⟨?_, h.2.1.drop hi0 hki hp hl hpk, fun h => by cases h⟩
  have := h.1
  simp only [if_true]
  split at this <;> omega

/-- Which are on each way to a block, in their order; of a block that is not reached none. -/
noncomputable def aboveRow (c : PCode) (m i : Nat) : List Int := ((List.range m).filter fun k => reachB c none i && reachB c none k && !reachB c (some k) i).map Int.ofNat
noncomputable def aboveF (c : PCode) : List (List Int) := (List.range c.blocks.length).map (aboveRow c c.blocks.length)
theorem aboveRow_succ (c : PCode) (m i : Nat) : aboveRow c (m + 1) i = aboveRow c m i ++ if (reachB c none i && reachB c none m && !reachB c (some m) i) = true then [(m : Int)] else [] := by
  unfold aboveRow
  rw [List.range_succ, List.filter_append, List.map_append]
  congr 1
  cases h : (reachB c none i && reachB c none m && !reachB c (some m) i) <;> simp [h]
theorem aboveRow_len (c : PCode) (m i : Nat) : (aboveRow c m i).length ≤ m := by
  unfold aboveRow
  have := List.length_filter_le (fun k => reachB c none i && reachB c none k && !reachB c (some k) i) (List.range m)
  simpa using this
theorem mem_aboveRow (c : PCode) (m i : Nat) (x : Int) (h : x ∈ aboveRow c m i) : 0 ≤ x ∧ x < (m : Int) := by
  simp [aboveRow] at h
  omega

theorem reachB_none (c : PCode) (x : Option Nat) (h : x = some 0 ∨ c.blocks.length = 0) (j : Nat) : reachB c x j = false := by
  cases hb : reachB c x j with
  | false => rfl
  | true =>
    have hr := (reachB_iff _ _ _).1 hb
    exfalso
    induction hr with
    | zero hx hn => rcases h with h | h
                    · exact hx h
                    · omega
    | step h' _ _ ih => exact ih ((reachB_iff _ _ _).2 h')

/-! ### Round after round -/
structure Round (c : PCode) (x : Option Nat) (seen : Nat → Bool) : Prop where
  zero : seen 0 = true
  live : ∀ j, seen j = true → Reach c x j
theorem Round.start {c : PCode} {x : Option Nat} (hx : x ≠ some 0) (hn : 0 < c.blocks.length) : Round c x (upd (fun _ => false) 0 true) :=
  ⟨by simp [upd], fun j h => by
    by_cases e : j = 0
    · subst e; exact .zero hx hn
    · simp [upd, e] at h⟩
theorem Round.add {c : PCode} {x : Option Nat} {seen : Nat → Bool} (h : Round c x seen) {i t : Nat} (hi : seen i = true) (ht : (t : Int) ∈ leadsF c i) (hx : x ≠ some t) : Round c x (upd seen t true) :=
  ⟨by by_cases e : 0 = t
      · rw [e, upd_same]
      · rw [upd_other _ _ e]; exact h.zero, fun j hj => by
    by_cases e : j = t
    · subst e; exact .step (h.live i hi) ht hx
    · rw [upd_other _ _ e] at hj; exact h.live j hj⟩
theorem Round.done {c : PCode} {x : Option Nat} {seen : Nat → Bool} (h : Round c x seen) (hst : ∀ i, i < c.blocks.length → seen i = true → ∀ t : Nat, (t : Int) ∈ leadsF c i → x ≠ some t → seen t = true) (j : Nat) : seen j = reachB c x j := by
  rw [Bool.eq_iff_iff, reachB_iff]
  refine ⟨h.live j, fun hr => ?_⟩
  induction hr with
  | zero _ _ => exact h.zero
  | step hr' ht hx ih => exact hst _ hr'.lt ih _ ht hx
end Go.Pst

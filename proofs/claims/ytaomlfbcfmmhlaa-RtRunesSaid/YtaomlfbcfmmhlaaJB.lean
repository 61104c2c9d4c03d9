/-
  Texts joined: Run RtCodes Fits RunAt RanFrame RanPre RanArgs.
-/
import Derived.Test.YtaomlfbcfmmhlaaJA
import Derived.Deep.DeepCutAuto
import Derived.Deep.RegionHeld3
import Derived.Deep.RegionLaw
import Derived.Deep.AppendLies
import Derived.Deep.DrawnRows

/-
  A run of code, as plain functions (P3.4 .. P3.8, P7.3), and what code that may be guarantees of it. No program in sight.
-/
namespace Go.Proofs.Ytaomlfbcfmmhlaa
open Go.RowKit Go.Pst
set_option linter.unusedVariables false
set_option linter.unusedSimpArgs false

/-- A call under way. -/
structure Lev where
  fn : Nat
  vars : List Int
  slots : List Int
  block : Nat
  at_ : Nat
  want : List Int
instance : Inhabited Lev := ⟨⟨0, [], [], 0, 0, []⟩⟩
/-- The state of a run: the innermost call first. -/
structure Mach where
  words : List Int
  lines : List ByteArray
  frames : List Lev

def codeAt (p : PProg) (k : Nat) : PCode := p.funcs.getD k default
def instrAt (p : PProg) (f : Lev) : PInstr := ((codeAt p f.fn).blocks.getD f.block []).getD f.at_ default
def getI (l : List Int) (k : Int) : Int := l.getD k.toNat 0
def Lev.src (f : Lev) (m : Bool) (i : PInstr) : List Int := if m = true ∧ (i.op = 7 ∨ i.op = 12) then f.slots else f.vars
def argsF (m : Bool) (f : Lev) (i : PInstr) : List Int := if i.op = 21 then [] else i.ars.map (getI (f.src m i))
def Lev.setV (f : Lev) (i : PInstr) (v : Int) : Lev := { f with vars := f.vars.set (getI i.ds 0).toNat v }
def Lev.goto (f : Lev) (t : Int) : Lev := { f with block := t.toNat, at_ := 0 }
def putAll (l : List Int) : List Int → List Int → List Int
  | d :: ds, v :: vs => putAll (l.set d.toNat v) ds vs
  | _, _ => l
/-- A new call of a function. -/
def newLev (p : PProg) (m : Bool) (k : Nat) (xs : List Int) (want : List Int) : Lev :=
  let c := codeAt p k
  let vs := List.replicate c.vars.toNat (0 : Int)
  let ss := List.replicate c.slots.toNat (0 : Int)
  ⟨k, if m then vs else xs ++ vs.drop xs.length, if m then xs ++ ss.drop xs.length else ss, 0, 0, want⟩
def Lev.put (g : Lev) (m : Bool) (want xs : List Int) : Lev := if m then { g with slots := putAll g.slots want xs } else { g with vars := putAll g.vars want xs }

def stepF (p : PProg) (m : Bool) (limit : Int) (s : Mach) : Int × Mach :=
  match s.frames with
  | [] => (1, s)
  | f0 :: r =>
    let i := instrAt p f0
    let xs := argsF m f0 i
    let f := { f0 with at_ := f0.at_ + 1 }
    let a := getI xs 0
    let b := getI xs 1
    if i.op = 1 then (0, { s with frames := f.setV i i.n :: r })
    else if i.op = 2 then (0, { s with frames := f.setV i a :: r })
    else if i.op = 21 then (0, { s with frames := f.setV i (getI f.slots i.n) :: r })
    else if i.op = 22 then (0, { s with frames := { f with slots := f.slots.set i.n.toNat a } :: r })
    else if i.op = 3 then
      if (sumF i.s a b).2 = 0 then (0, { s with frames := f.setV i (sumF i.s a b).1 :: r }) else ((sumF i.s a b).2, { s with frames := f :: r })
    else if i.op = 4 then
      if placeF a i.n s.words.length < 0 then (2, { s with frames := f :: r }) else (0, { s with frames := f.setV i (getI s.words (placeF a i.n s.words.length)) :: r })
    else if i.op = 5 then
      if placeF a i.n s.words.length < 0 then (2, { s with frames := f :: r }) else (0, { s with words := s.words.set (placeF a i.n s.words.length).toNat b, frames := f :: r })
    else if i.op = 6 then
      if (takeF a limit s.words).1 = -1 then (5, { s with frames := f :: r }) else if (takeF a limit s.words).1 = -2 then (2, { s with frames := f :: r })
      else (0, { s with words := (takeF a limit s.words).2, frames := f.setV i (takeF a limit s.words).1 :: r })
    else if i.op = 8 then ((sayF i.s a (getI xs (xs.length - 1)) s.words s.lines).1, { s with lines := (sayF i.s a (getI xs (xs.length - 1)) s.words s.lines).2, frames := f :: r })
    else if i.op = 9 then (0, { s with frames := f.goto (getI i.to 0) :: r })
    else if i.op = 10 then (0, { s with frames := f.goto (getI i.to (yesF (a == 0))) :: r })
    else if i.op = 11 then (0, { s with frames := f.goto (if 0 ≤ a ∧ a ≤ i.to.length - 1 then getI i.to a else getI i.to (i.to.length - 1)) :: r })
    else if i.op = 7 then
      if 40 ≤ s.frames.length then (4, { s with frames := f :: r }) else (0, { s with frames := newLev p m (nameAt i.s p.funcs).toNat xs i.ds :: f :: r })
    else if i.op = 12 then
      match r with
      | [] => (1, { s with frames := [] })
      | g :: r' => (0, { s with frames := g.put m f.want xs :: r' })
    else (i.n, { s with frames := f :: r })

def runF (p : PProg) (m : Bool) (limit : Int) : Nat → Mach → Int × List ByteArray
  | 0, s => (6, s.lines)
  | n + 1, s => if (stepF p m limit s).1 = 0 then runF p m limit n (stepF p m limit s).2 else ((stepF p m limit s).1, (stepF p m limit s).2.lines)
def startF (p : PProg) : Mach := ⟨p.data, [], [⟨0, List.replicate (codeAt p 0).vars.toNat 0, List.replicate (codeAt p 0).slots.toNat 0, 0, 0, []⟩]⟩

/-! What code that may be guarantees. -/
def Ins (l : List Int) (n : Nat) : Prop := ∀ x ∈ l, 0 ≤ x ∧ x < n
theorem Ins.of_inAll {l : List Int} {n : Int} (h : inAll l n = true) : Ins l n.toNat := by
  intro x hx
  have := List.all_eq_true.1 h x hx
  simp at this
  omega
/-- An instruction of a function with so many variables, slots, results, blocks. -/
def InstrOK (fs : List PCode) (m : Bool) (nv ns : Nat) (results : Int) (nb : Nat) (i : PInstr) : Prop :=
  (i.op = 1 ∧ ∃ d : Nat, i.ds = [(d : Int)] ∧ d < nv ∧ i.ars = []) ∨
  (i.op = 2 ∧ ∃ d a : Nat, i.ds = [(d : Int)] ∧ d < nv ∧ i.ars = [(a : Int)] ∧ a < nv) ∨
  (i.op = 3 ∧ i.s ∈ mathsF ∧ ∃ d a b : Nat, i.ds = [(d : Int)] ∧ d < nv ∧ i.ars = [(a : Int), (b : Int)] ∧ a < nv ∧ b < nv) ∨
  (i.op = 4 ∧ ∃ d a : Nat, i.ds = [(d : Int)] ∧ d < nv ∧ i.ars = [(a : Int)] ∧ a < nv) ∨
  (i.op = 5 ∧ ∃ a b : Nat, i.ars = [(a : Int), (b : Int)] ∧ a < nv ∧ b < nv) ∨
  (i.op = 6 ∧ ∃ d a : Nat, i.ds = [(d : Int)] ∧ d < nv ∧ i.ars = [(a : Int)] ∧ a < nv) ∨
  (i.op = 7 ∧ ∃ (k : Nat) (g : PCode), nameAt i.s fs = k ∧ fs[k]? = some g ∧ (i.ars.length : Int) = g.params ∧ (i.ds.length : Int) = g.results ∧ Ins i.ars (if m then ns else nv) ∧ Ins i.ds (if m then ns else nv)) ∨
  (i.op = 8 ∧ ((i.s = sText ∧ ∃ a b : Nat, i.ars = [(a : Int), (b : Int)] ∧ a < nv ∧ b < nv) ∨ ((i.s = sInt ∨ i.s = sBool) ∧ ∃ a : Nat, i.ars = [(a : Int)] ∧ a < nv))) ∨
  (i.op = 9 ∧ i.ars = [] ∧ ∃ t : Nat, i.to = [(t : Int)] ∧ t < nb) ∨
  (i.op = 10 ∧ ∃ a t u : Nat, i.ars = [(a : Int)] ∧ a < nv ∧ i.to = [(t : Int), (u : Int)] ∧ t < nb ∧ u < nb) ∨
  (i.op = 11 ∧ (∃ a : Nat, i.ars = [(a : Int)] ∧ a < nv) ∧ 0 < i.to.length ∧ Ins i.to nb) ∨
  (i.op = 12 ∧ (i.ars.length : Int) = results ∧ Ins i.ars (if m then ns else nv)) ∨
  (i.op = 13 ∧ i.ars = [] ∧ 2 ≤ i.n ∧ i.n ≤ 5) ∨
  (m = true ∧ i.op = 21 ∧ i.ars = [] ∧ ∃ d n : Nat, i.ds = [(d : Int)] ∧ d < nv ∧ i.n = n ∧ n < ns) ∨
  (m = true ∧ i.op = 22 ∧ ∃ a n : Nat, i.ars = [(a : Int)] ∧ a < nv ∧ i.n = n ∧ n < ns)

theorem one_of {l : List Int} {n : Nat} (h : l.length = 1) (hi : Ins l n) : ∃ d : Nat, l = [(d : Int)] ∧ d < n := by
  match l, h with
  | [x], _ =>
    have := hi x (by simp)
    exact ⟨x.toNat, by simp; omega, by omega⟩
theorem two_of {l : List Int} {n : Nat} (h : l.length = 2) (hi : Ins l n) : ∃ d e : Nat, l = [(d : Int), (e : Int)] ∧ d < n ∧ e < n := by
  match l, h with
  | [x, y], _ =>
    have := hi x (by simp)
    have := hi y (by simp)
    exact ⟨x.toNat, y.toNat, by simp; omega, by omega, by omega⟩
theorem none_of {l : List Int} (h : l.length = 0) : l = [] := List.length_eq_zero_iff.1 h

theorem ar3 {a b c a' b' c' : Nat} (h : some (a, b, c) = some (a', b', c')) : a' = a ∧ b' = b ∧ c' = c := by
  have := Option.some.inj h
  simp at this
  exact ⟨this.1.symm, this.2.1.symm, this.2.2.symm⟩
theorem instrFaultF_ok {fs : List PCode} {m : Bool} {nv ns : Nat} {vars results : Int} {nb : Nat} {i : PInstr} (hv : vars.toNat = if m = true ∧ (i.op = 7 ∨ i.op = 12) then ns else nv) (h : instrFaultF fs vars results nb i = 0) :
    InstrOK fs m nv ns results nb i := by
  unfold instrFaultF at h
  split at h
  · omega
  rename_i d a t har
  split at h
  · omega
  rename_i hn
  obtain ⟨hd, ha, ht⟩ : i.ds.length = d ∧ i.ars.length = a ∧ i.to.length = t := by
    refine ⟨?_, ?_, ?_⟩ <;> · apply Decidable.byContradiction; intro hh; exact hn (by simp [hh])
  subst hd ha ht
  split at h
  · omega
  rename_i hr
  have hr' : (inAll i.ds vars && inAll i.ars vars && inAll i.to nb) = true := by cases hx : (inAll i.ds vars && inAll i.ars vars && inAll i.to nb) <;> first | rfl | exact absurd hx hr
  rw [Bool.and_eq_true, Bool.and_eq_true] at hr'
  obtain ⟨⟨r1, r2⟩, r3⟩ := hr'
  have r1 := Ins.of_inAll r1
  have r2 := Ins.of_inAll r2
  have r3 := Ins.of_inAll r3
  rw [hv] at r1 r2
  rw [Int.toNat_natCast] at r3
  clear hn hr hv
  unfold InstrOK
  unfold arity at har
  by_cases e1 : i.op = 1
  · rw [if_pos e1] at har
    rw [if_neg (by omega)] at r1 r2
    have har := ar3 har
    obtain ⟨d, hd, hd'⟩ := one_of har.1 r1
    exact Or.inl ⟨e1, d, hd, hd', none_of har.2.1⟩
  rw [if_neg e1] at har
  by_cases e2 : i.op = 2 ∨ i.op = 4 ∨ i.op = 6
  · rw [if_pos e2] at har
    rw [if_neg (by omega)] at r1 r2
    have har := ar3 har
    obtain ⟨d, hd, hd'⟩ := one_of har.1 r1
    obtain ⟨a, ha, ha'⟩ := one_of har.2.1 r2
    rcases e2 with e | e | e
    · exact Or.inr (Or.inl ⟨e, d, a, hd, hd', ha, ha'⟩)
    · exact Or.inr (Or.inr (Or.inr (Or.inl ⟨e, d, a, hd, hd', ha, ha'⟩)))
    · exact Or.inr (Or.inr (Or.inr (Or.inr (Or.inr (Or.inl ⟨e, d, a, hd, hd', ha, ha'⟩)))))
  rw [if_neg e2] at har
  by_cases e3 : i.op = 3
  · rw [if_pos e3] at har
    rw [if_neg (by omega)] at r1 r2
    rw [if_pos e3] at h
    have har := ar3 har
    obtain ⟨d, hd, hd'⟩ := one_of har.1 r1
    obtain ⟨a, b, ha, ha', hb'⟩ := two_of har.2.1 r2
    have hs : i.s ∈ mathsF := by
      apply Decidable.byContradiction
      intro hh
      rw [if_neg hh] at h
      omega
    exact Or.inr (Or.inr (Or.inl ⟨e3, hs, d, a, b, hd, hd', ha, ha', hb'⟩))
  rw [if_neg e3] at har
  rw [if_neg e3] at h
  by_cases e5 : i.op = 5
  · rw [if_pos e5] at har
    rw [if_neg (by omega)] at r1 r2
    have har := ar3 har
    obtain ⟨a, b, ha, ha', hb'⟩ := two_of har.2.1 r2
    exact Or.inr (Or.inr (Or.inr (Or.inr (Or.inl ⟨e5, a, b, ha, ha', hb'⟩))))
  rw [if_neg e5] at har
  by_cases e7 : i.op = 7
  · rw [if_neg (by omega), if_neg (by omega), if_neg (by omega), if_pos e7] at h
    unfold invokeFaultF at h
    split at h
    · omega
    rename_i hk
    split at h
    · omega
    rename_i g hg
    split at h
    · omega
    rename_i hne
    refine Or.inr (Or.inr (Or.inr (Or.inr (Or.inr (Or.inr (Or.inl ⟨e7, (nameAt i.s fs).toNat, g, by omega, hg, ?_, ?_, ?_, ?_⟩))))))
    · apply Decidable.byContradiction; intro hh; exact hne (Or.inl hh)
    · apply Decidable.byContradiction; intro hh; exact hne (Or.inr hh)
    · simpa [e7] using r2
    · simpa [e7] using r1
  rw [if_neg e7] at har
  by_cases e8 : i.op = 8
  · rw [if_neg (by omega)] at r1 r2
    rw [if_pos e8] at h
    refine Or.inr (Or.inr (Or.inr (Or.inr (Or.inr (Or.inr (Or.inr (Or.inl ⟨e8, ?_⟩)))))))
    by_cases s1 : i.s = sText
    · rw [if_pos s1] at h
      have h2 : i.ars.length = 2 := by apply Decidable.byContradiction; intro hh; rw [if_neg hh] at h; omega
      obtain ⟨a, b, ha, ha', hb'⟩ := two_of h2 r2
      exact Or.inl ⟨s1, a, b, ha, ha', hb'⟩
    · rw [if_neg s1] at h
      by_cases s2 : i.s = sInt ∨ i.s = sBool
      · rw [if_pos s2] at h
        have h2 : i.ars.length = 1 := by apply Decidable.byContradiction; intro hh; rw [if_neg hh] at h; omega
        obtain ⟨a, ha, ha'⟩ := one_of h2 r2
        exact Or.inr ⟨s2, a, ha, ha'⟩
      · rw [if_neg s2] at h
        omega
  rw [if_neg e8] at h
  by_cases e12 : i.op = 12
  · rw [if_pos e12] at h
    refine Or.inr (Or.inr (Or.inr (Or.inr (Or.inr (Or.inr (Or.inr (Or.inr (Or.inr (Or.inr (Or.inr (Or.inl ⟨e12, ?_, ?_⟩)))))))))))
    · apply Decidable.byContradiction; intro hh; rw [if_neg hh] at h; omega
    · simpa [e12] using r2
  rw [if_neg e12] at h
  rw [if_neg (by omega)] at har
  rw [if_neg (by omega)] at r1 r2
  by_cases e9 : i.op = 9
  · rw [if_pos e9] at har
    have har := ar3 har
    obtain ⟨t, ht, ht'⟩ := one_of har.2.2 r3
    exact Or.inr (Or.inr (Or.inr (Or.inr (Or.inr (Or.inr (Or.inr (Or.inr (Or.inl ⟨e9, none_of har.2.1, t, ht, ht'⟩))))))))
  rw [if_neg e9] at har
  by_cases e10 : i.op = 10
  · rw [if_pos e10] at har
    have har := ar3 har
    obtain ⟨a, ha, ha'⟩ := one_of har.2.1 r2
    obtain ⟨t, u, ht, ht', hu'⟩ := two_of har.2.2 r3
    exact Or.inr (Or.inr (Or.inr (Or.inr (Or.inr (Or.inr (Or.inr (Or.inr (Or.inr (Or.inl ⟨e10, a, t, u, ha, ha', ht, ht', hu'⟩)))))))))
  rw [if_neg e10] at har
  by_cases e11 : i.op = 11
  · rw [if_pos e11] at har
    have h1 : i.ars.length = 1 := by have := Option.some.inj har; simp at this; exact this.2.1.symm
    have h2 : 0 < i.to.length := by
      apply Decidable.byContradiction
      intro h0
      have h0 : i.to.length = 0 := by omega
      rw [if_pos h0] at har
      have := (ar3 har).2.2
      omega
    obtain ⟨a, ha, ha'⟩ := one_of h1 r2
    exact Or.inr (Or.inr (Or.inr (Or.inr (Or.inr (Or.inr (Or.inr (Or.inr (Or.inr (Or.inr (Or.inl ⟨e11, ⟨a, ha, ha'⟩, h2, r3⟩))))))))))
  rw [if_neg e11] at har
  by_cases e13 : i.op = 13
  · rw [if_pos e13] at har h
    have har := ar3 har
    have hn : 2 ≤ i.n ∧ i.n ≤ 5 := by apply Decidable.byContradiction; intro hh; rw [if_neg hh] at h; omega
    exact Or.inr (Or.inr (Or.inr (Or.inr (Or.inr (Or.inr (Or.inr (Or.inr (Or.inr (Or.inr (Or.inr (Or.inr (Or.inl ⟨e13, none_of har.2.1, hn⟩))))))))))))
  rw [if_neg e13] at har
  exact absurd har (by simp)

theorem machineInstrFaultF_ok {fs : List PCode} {vars slots results : Int} {nb : Nat} {i : PInstr} (h : machineInstrFaultF fs vars slots results nb i = 0) :
    InstrOK fs true vars.toNat slots.toNat results nb i := by
  unfold machineInstrFaultF at h
  by_cases hop : i.op = 21 ∨ i.op = 22
  · rw [if_pos hop] at h
    by_cases hn : i.ds.length ≠ (if i.op = 22 then 0 else 1) ∨ i.ars.length ≠ (if i.op = 22 then 1 else 0) ∨ i.to.length ≠ 0
    · rw [if_pos hn] at h; omega
    rw [if_neg hn] at h
    cases hr : (inAll i.ds vars && inAll i.ars vars && decide (0 ≤ i.n) && decide (i.n ≤ slots - 1)) with
    | false => rw [if_pos hr] at h; omega
    | true =>
    rw [Bool.and_eq_true, Bool.and_eq_true, Bool.and_eq_true] at hr
    obtain ⟨⟨⟨r1, r2⟩, r3⟩, r4⟩ := hr
    have r1 := Ins.of_inAll r1
    have r2 := Ins.of_inAll r2
    have r3 := of_decide_eq_true r3
    have r4 := of_decide_eq_true r4
    unfold InstrOK
    rcases hop with e | e
    · rw [if_neg (by omega), if_neg (by omega)] at hn
      have h1 : i.ds.length = 1 := by omega
      have h2 : i.ars.length = 0 := by omega
      obtain ⟨d, hd, hd'⟩ := one_of h1 r1
      exact Or.inr (Or.inr (Or.inr (Or.inr (Or.inr (Or.inr (Or.inr (Or.inr (Or.inr (Or.inr (Or.inr (Or.inr (Or.inr (Or.inl ⟨rfl, e, none_of h2, d, i.n.toNat, hd, hd', by omega, by omega⟩)))))))))))))
    · rw [if_pos e, if_pos e] at hn
      have h2 : i.ars.length = 1 := by omega
      obtain ⟨a, ha, ha'⟩ := one_of h2 r2
      exact Or.inr (Or.inr (Or.inr (Or.inr (Or.inr (Or.inr (Or.inr (Or.inr (Or.inr (Or.inr (Or.inr (Or.inr (Or.inr (Or.inr ⟨rfl, e, a, i.n.toNat, ha, ha', by omega, by omega⟩)))))))))))))
  · rw [if_neg hop] at h
    exact instrFaultF_ok (by by_cases h7 : i.op = 7 ∨ i.op = 12 <;> simp [h7]) h

theorem blockF_ok {g : PInstr → Int} : ∀ {b : List PInstr}, blockF g b = 0 → ∀ j (h : j < b.length), g b[j] = 0 ∧ (closesF b[j].op = true ↔ j + 1 = b.length)
  | [], _, j, h => absurd h (by simp)
  | i :: r, hb, j, h => by
    unfold blockF at hb
    split at hb
    · rename_i hn; exact absurd hb hn
    rename_i hg
    split at hb
    · omega
    rename_i hc
    rcases j with _ | j
    · refine ⟨by simpa using hg, ?_⟩
      have : closesF i.op = r.isEmpty := by simpa using hc
      simp only [List.getElem_cons_zero, this, List.isEmpty_iff, List.length_cons]
      rw [← List.length_eq_zero_iff]
      omega
    · have := blockF_ok hb j (by simpa using h)
      simpa using this
theorem blocksF_ok {g : PInstr → Int} {most : Nat} : ∀ {l : List (List PInstr)} {all : Nat}, blocksF g most l all = 0 → ∀ b ∈ l, b.length ≠ 0 ∧ all + b.length ≤ most ∧ blockF g b = 0
  | [], _, _, b, hb => absurd hb (by simp)
  | x :: r, all, h, b, hb => by
    unfold blocksF at h
    split at h
    · omega
    split at h
    · omega
    split at h
    · rename_i hn; exact absurd h hn
    rename_i h1 h2 h3
    rcases List.mem_cons.1 hb with rfl | hb
    · exact ⟨h1, by omega, by simpa using h3⟩
    · have := blocksF_ok h b hb
      exact ⟨this.1, by omega, this.2.2⟩

structure CodeOK (fs : List PCode) (m : Bool) (c : PCode) : Prop where
  nb : 0 < c.blocks.length ∧ c.blocks.length ≤ 2000
  small : 0 ≤ c.vars ∧ c.vars ≤ 3000 ∧ 0 ≤ c.slots ∧ c.slots ≤ 3000
  pars : 0 ≤ c.params ∧ c.params ≤ 16 ∧ 0 ≤ c.results ∧ c.results ≤ 16
  room : c.params ≤ if m then c.slots else c.vars
  blk : ∀ b ∈ c.blocks, b.length ≠ 0 ∧ b.length ≤ 36000 ∧ ∀ j (h : j < b.length), InstrOK fs m c.vars.toNat c.slots.toNat c.results c.blocks.length b[j] ∧ (closesF b[j].op = true ↔ j + 1 = b.length)
theorem codeFaultF_ok {fs : List PCode} {c : PCode} (h : codeFaultF fs c = 0) : CodeOK fs false c := by
  unfold codeFaultF at h
  split at h
  · omega
  split at h
  · omega
  split at h
  · omega
  rename_i h1 h2 h3
  refine ⟨by omega, by omega, by omega, by simp; omega, fun b hb => ?_⟩
  obtain ⟨k1, k2, k3⟩ := blocksF_ok h b hb
  refine ⟨k1, by omega, fun j hj => ?_⟩
  obtain ⟨k4, k5⟩ := blockF_ok k3 j hj
  exact ⟨instrFaultF_ok (by simp) k4, k5⟩
theorem machineCodeFaultF_ok {fs : List PCode} {c : PCode} (h : machineCodeFaultF fs c = 0) : CodeOK fs true c := by
  unfold machineCodeFaultF at h
  split at h
  · omega
  split at h
  · omega
  split at h
  · omega
  rename_i h1 h2 h3
  refine ⟨by omega, by omega, by omega, by simp; omega, fun b hb => ?_⟩
  obtain ⟨k1, k2, k3⟩ := blocksF_ok h b hb
  refine ⟨k1, by omega, fun j hj => ?_⟩
  obtain ⟨k4, k5⟩ := blockF_ok k3 j hj
  exact ⟨machineInstrFaultF_ok k4, k5⟩
theorem codesF_ok {g : PCode → Int} : ∀ {l : List PCode}, codesF g l = 0 → ∀ c ∈ l, g c = 0
  | [], _, c, hc => absurd hc (by simp)
  | x :: r, h, c, hc => by
    unfold codesF at h
    split at h
    · rename_i hn; exact absurd h hn
    rename_i hg
    rcases List.mem_cons.1 hc with rfl | hc
    · simpa using hg
    · exact codesF_ok h c hc

/-- A program that may be run. -/
structure Sound (p : PProg) (m : Bool) : Prop where
  some_ : 0 < p.funcs.length ∧ p.funcs.length ≤ 40
  data : p.data.length ≤ 20000
  codes : ∀ c ∈ p.funcs, CodeOK p.funcs m c
theorem heads_ok {p : PProg} (h : headsFault p = 0) : (0 < p.funcs.length ∧ p.funcs.length ≤ 40) ∧ p.data.length ≤ 20000 := by
  unfold headsFault at h
  split at h
  · omega
  split at h
  · omega
  omega
theorem programFaultF_ok {p : PProg} (h : programFaultF p = 0) : Sound p false := by
  unfold programFaultF at h
  split at h
  · rename_i hn; exact absurd h hn
  rename_i hn
  have := heads_ok (by simpa using hn)
  exact ⟨this.1, this.2, fun c hc => codeFaultF_ok (codesF_ok h c hc)⟩
theorem machineFaultF_ok {p : PProg} (h : machineFaultF p = 0) : Sound p true := by
  unfold machineFaultF at h
  split at h
  · rename_i hn; exact absurd h hn
  rename_i hn
  have := heads_ok (by simpa using hn)
  exact ⟨this.1, this.2, fun c hc => machineCodeFaultF_ok (codesF_ok h c hc)⟩
end Go.Proofs.Ytaomlfbcfmmhlaa

/-
  rt's functions, written out; the program that drives one of them (posternlaw.driven), as plain data.
-/
namespace Go.Proofs.Ytaomlfbcfmmhlaa
open Go.RowKit Go.Pst
set_option linter.unusedVariables false

def cat_L : PCode := ⟨⟨#[95, 99, 97, 116]⟩, 4, 2, 23, 0, [[⟨3, [4], [1, 3], 0, ⟨#[43]⟩, []⟩, ⟨6, [5], [4], 0, ⟨#[]⟩, []⟩, ⟨1, [6], [], 0, ⟨#[]⟩, []⟩, ⟨2, [7], [6], 0, ⟨#[]⟩, []⟩, ⟨9, [], [], 0, ⟨#[]⟩, [1]⟩],
  [⟨3, [8], [7, 1], 0, ⟨#[60]⟩, []⟩, ⟨10, [], [8], 0, ⟨#[]⟩, [2, 3]⟩],
  [⟨3, [9], [5, 7], 0, ⟨#[43]⟩, []⟩, ⟨3, [10], [0, 7], 0, ⟨#[43]⟩, []⟩, ⟨4, [11], [10], 0, ⟨#[]⟩, []⟩, ⟨5, [], [9, 11], 0, ⟨#[]⟩, []⟩, ⟨1, [12], [], 1, ⟨#[]⟩, []⟩, ⟨3, [13], [7, 12], 0, ⟨#[43]⟩, []⟩, ⟨2, [7], [13], 0, ⟨#[]⟩, []⟩, ⟨9, [], [], 0, ⟨#[]⟩, [1]⟩],
  [⟨3, [14], [5, 1], 0, ⟨#[43]⟩, []⟩, ⟨1, [15], [], 0, ⟨#[]⟩, []⟩, ⟨2, [16], [15], 0, ⟨#[]⟩, []⟩, ⟨9, [], [], 0, ⟨#[]⟩, [4]⟩],
  [⟨3, [17], [16, 3], 0, ⟨#[60]⟩, []⟩, ⟨10, [], [17], 0, ⟨#[]⟩, [5, 6]⟩],
  [⟨3, [18], [14, 16], 0, ⟨#[43]⟩, []⟩, ⟨3, [19], [2, 16], 0, ⟨#[43]⟩, []⟩, ⟨4, [20], [19], 0, ⟨#[]⟩, []⟩, ⟨5, [], [18, 20], 0, ⟨#[]⟩, []⟩, ⟨1, [21], [], 1, ⟨#[]⟩, []⟩, ⟨3, [22], [16, 21], 0, ⟨#[43]⟩, []⟩, ⟨2, [16], [22], 0, ⟨#[]⟩, []⟩, ⟨9, [], [], 0, ⟨#[]⟩, [4]⟩],
  [⟨12, [], [5, 4], 0, ⟨#[]⟩, []⟩]]⟩
def same_L : PCode := ⟨⟨#[95, 115, 97, 109, 101]⟩, 4, 1, 16, 0, [[⟨1, [4], [], 0, ⟨#[]⟩, []⟩, ⟨3, [5], [1, 3], 0, ⟨#[33, 61]⟩, []⟩, ⟨10, [], [5], 0, ⟨#[]⟩, [1, 2]⟩],
  [⟨12, [], [4], 0, ⟨#[]⟩, []⟩],
  [⟨2, [6], [4], 0, ⟨#[]⟩, []⟩, ⟨9, [], [], 0, ⟨#[]⟩, [3]⟩],
  [⟨3, [7], [6, 1], 0, ⟨#[60]⟩, []⟩, ⟨10, [], [7], 0, ⟨#[]⟩, [4, 5]⟩],
  [⟨3, [8], [0, 6], 0, ⟨#[43]⟩, []⟩, ⟨4, [9], [8], 0, ⟨#[]⟩, []⟩, ⟨3, [10], [2, 6], 0, ⟨#[43]⟩, []⟩, ⟨4, [11], [10], 0, ⟨#[]⟩, []⟩, ⟨3, [12], [9, 11], 0, ⟨#[33, 61]⟩, []⟩, ⟨10, [], [12], 0, ⟨#[]⟩, [6, 7]⟩],
  [⟨1, [15], [], 1, ⟨#[]⟩, []⟩, ⟨12, [], [15], 0, ⟨#[]⟩, []⟩],
  [⟨12, [], [4], 0, ⟨#[]⟩, []⟩],
  [⟨1, [13], [], 1, ⟨#[]⟩, []⟩, ⟨3, [14], [6, 13], 0, ⟨#[43]⟩, []⟩, ⟨2, [6], [14], 0, ⟨#[]⟩, []⟩, ⟨9, [], [], 0, ⟨#[]⟩, [3]⟩]]⟩
def less_L : PCode := ⟨⟨#[95, 108, 101, 115, 115]⟩, 4, 1, 18, 0, [[⟨2, [4], [1], 0, ⟨#[]⟩, []⟩, ⟨3, [5], [3, 1], 0, ⟨#[60]⟩, []⟩, ⟨10, [], [5], 0, ⟨#[]⟩, [1, 2]⟩],
  [⟨2, [4], [3], 0, ⟨#[]⟩, []⟩, ⟨9, [], [], 0, ⟨#[]⟩, [2]⟩],
  [⟨1, [6], [], 0, ⟨#[]⟩, []⟩, ⟨2, [7], [6], 0, ⟨#[]⟩, []⟩, ⟨9, [], [], 0, ⟨#[]⟩, [3]⟩],
  [⟨3, [8], [7, 4], 0, ⟨#[60]⟩, []⟩, ⟨10, [], [8], 0, ⟨#[]⟩, [4, 5]⟩],
  [⟨3, [9], [0, 7], 0, ⟨#[43]⟩, []⟩, ⟨4, [10], [9], 0, ⟨#[]⟩, []⟩, ⟨3, [11], [2, 7], 0, ⟨#[43]⟩, []⟩, ⟨4, [12], [11], 0, ⟨#[]⟩, []⟩, ⟨3, [13], [10, 12], 0, ⟨#[33, 61]⟩, []⟩, ⟨10, [], [13], 0, ⟨#[]⟩, [6, 7]⟩],
  [⟨3, [17], [1, 3], 0, ⟨#[60]⟩, []⟩, ⟨12, [], [17], 0, ⟨#[]⟩, []⟩],
  [⟨3, [14], [10, 12], 0, ⟨#[60]⟩, []⟩, ⟨12, [], [14], 0, ⟨#[]⟩, []⟩],
  [⟨1, [15], [], 1, ⟨#[]⟩, []⟩, ⟨3, [16], [7, 15], 0, ⟨#[43]⟩, []⟩, ⟨2, [7], [16], 0, ⟨#[]⟩, []⟩, ⟨9, [], [], 0, ⟨#[]⟩, [3]⟩]]⟩
def add_L : PCode := ⟨⟨#[95, 97, 100, 100]⟩, 4, 3, 22, 0, [[⟨1, [4], [], 1, ⟨#[]⟩, []⟩, ⟨3, [5], [1, 4], 0, ⟨#[43]⟩, []⟩, ⟨3, [6], [1, 2], 0, ⟨#[60]⟩, []⟩, ⟨10, [], [6], 0, ⟨#[]⟩, [1, 2]⟩],
  [⟨3, [7], [0, 1], 0, ⟨#[43]⟩, []⟩, ⟨5, [], [7, 3], 0, ⟨#[]⟩, []⟩, ⟨12, [], [0, 5, 2], 0, ⟨#[]⟩, []⟩],
  [⟨3, [8], [2, 2], 0, ⟨#[43]⟩, []⟩, ⟨1, [9], [], 4, ⟨#[]⟩, []⟩, ⟨3, [10], [8, 9], 0, ⟨#[60]⟩, []⟩, ⟨10, [], [10], 0, ⟨#[]⟩, [3, 4]⟩],
  [⟨1, [11], [], 4, ⟨#[]⟩, []⟩, ⟨2, [8], [11], 0, ⟨#[]⟩, []⟩, ⟨9, [], [], 0, ⟨#[]⟩, [4]⟩],
  [⟨6, [12], [8], 0, ⟨#[]⟩, []⟩, ⟨1, [13], [], 0, ⟨#[]⟩, []⟩, ⟨2, [14], [13], 0, ⟨#[]⟩, []⟩, ⟨9, [], [], 0, ⟨#[]⟩, [5]⟩],
  [⟨3, [15], [14, 1], 0, ⟨#[60]⟩, []⟩, ⟨10, [], [15], 0, ⟨#[]⟩, [6, 7]⟩],
  [⟨3, [16], [12, 14], 0, ⟨#[43]⟩, []⟩, ⟨3, [17], [0, 14], 0, ⟨#[43]⟩, []⟩, ⟨4, [18], [17], 0, ⟨#[]⟩, []⟩, ⟨5, [], [16, 18], 0, ⟨#[]⟩, []⟩, ⟨1, [19], [], 1, ⟨#[]⟩, []⟩, ⟨3, [20], [14, 19], 0, ⟨#[43]⟩, []⟩, ⟨2, [14], [20], 0, ⟨#[]⟩, []⟩, ⟨9, [], [], 0, ⟨#[]⟩, [5]⟩],
  [⟨3, [21], [12, 1], 0, ⟨#[43]⟩, []⟩, ⟨5, [], [21, 3], 0, ⟨#[]⟩, []⟩, ⟨12, [], [12, 5, 8], 0, ⟨#[]⟩, []⟩]]⟩
def empty_L : PCode := ⟨⟨#[95, 109, 97, 112]⟩, 0, 1, 5, 0, [[⟨1, [0], [], 16, ⟨#[]⟩, []⟩, ⟨6, [1], [0], 0, ⟨#[]⟩, []⟩, ⟨1, [2], [], 4, ⟨#[]⟩, []⟩, ⟨5, [], [1, 2], 1, ⟨#[]⟩, []⟩, ⟨1, [3], [], 4, ⟨#[]⟩, []⟩, ⟨3, [4], [1, 3], 0, ⟨#[43]⟩, []⟩, ⟨5, [], [1, 4], 2, ⟨#[]⟩, []⟩, ⟨12, [], [1], 0, ⟨#[]⟩, []⟩]]⟩
def find_L : PCode := ⟨⟨#[95, 102, 105, 110, 100]⟩, 2, 1, 16, 0, [[⟨4, [3], [0], 2, ⟨#[]⟩, []⟩, ⟨2, [2], [3], 0, ⟨#[]⟩, []⟩, ⟨1, [4], [], 0, ⟨#[]⟩, []⟩, ⟨4, [5], [0], 0, ⟨#[]⟩, []⟩, ⟨2, [6], [4], 0, ⟨#[]⟩, []⟩, ⟨9, [], [], 0, ⟨#[]⟩, [1]⟩],
  [⟨3, [7], [6, 5], 0, ⟨#[60]⟩, []⟩, ⟨10, [], [7], 0, ⟨#[]⟩, [2, 3]⟩],
  [⟨4, [8], [2], 2, ⟨#[]⟩, []⟩, ⟨10, [], [8], 0, ⟨#[]⟩, [4, 5]⟩],
  [⟨1, [15], [], (-1), ⟨#[]⟩, []⟩, ⟨12, [], [15], 0, ⟨#[]⟩, []⟩],
  [⟨4, [9], [2], 0, ⟨#[]⟩, []⟩, ⟨3, [10], [9, 1], 0, ⟨#[61, 61]⟩, []⟩, ⟨10, [], [10], 0, ⟨#[]⟩, [6, 7]⟩],
  [⟨1, [11], [], 3, ⟨#[]⟩, []⟩, ⟨3, [12], [2, 11], 0, ⟨#[43]⟩, []⟩, ⟨2, [2], [12], 0, ⟨#[]⟩, []⟩, ⟨1, [13], [], 1, ⟨#[]⟩, []⟩, ⟨3, [14], [6, 13], 0, ⟨#[43]⟩, []⟩, ⟨2, [6], [14], 0, ⟨#[]⟩, []⟩, ⟨9, [], [], 0, ⟨#[]⟩, [1]⟩],
  [⟨12, [], [2], 0, ⟨#[]⟩, []⟩],
  [⟨9, [], [], 0, ⟨#[]⟩, [5]⟩]]⟩
def get_L : PCode := ⟨⟨#[95, 103, 101, 116]⟩, 2, 1, 6, 0, [[⟨7, [2], [0, 1], 0, ⟨#[95, 102, 105, 110, 100]⟩, []⟩, ⟨1, [3], [], 0, ⟨#[]⟩, []⟩, ⟨3, [4], [2, 3], 0, ⟨#[60]⟩, []⟩, ⟨10, [], [4], 0, ⟨#[]⟩, [1, 2]⟩],
  [⟨12, [], [3], 0, ⟨#[]⟩, []⟩],
  [⟨4, [5], [2], 1, ⟨#[]⟩, []⟩, ⟨12, [], [5], 0, ⟨#[]⟩, []⟩]]⟩
def put_L : PCode := ⟨⟨#[95, 112, 117, 116]⟩, 3, 0, 31, 0, [[⟨7, [3], [0, 1], 0, ⟨#[95, 102, 105, 110, 100]⟩, []⟩, ⟨1, [4], [], 1, ⟨#[]⟩, []⟩, ⟨1, [5], [], 0, ⟨#[]⟩, []⟩, ⟨3, [6], [3, 5], 0, ⟨#[62, 61]⟩, []⟩, ⟨10, [], [6], 0, ⟨#[]⟩, [1, 2]⟩],
  [⟨5, [], [3, 2], 1, ⟨#[]⟩, []⟩, ⟨12, [], [], 0, ⟨#[]⟩, []⟩],
  [⟨4, [7], [0], 0, ⟨#[]⟩, []⟩, ⟨4, [8], [0], 1, ⟨#[]⟩, []⟩, ⟨3, [9], [7, 8], 0, ⟨#[61, 61]⟩, []⟩, ⟨10, [], [9], 0, ⟨#[]⟩, [3, 4]⟩],
  [⟨3, [10], [8, 8], 0, ⟨#[43]⟩, []⟩, ⟨1, [11], [], 3, ⟨#[]⟩, []⟩, ⟨3, [12], [10, 11], 0, ⟨#[42]⟩, []⟩, ⟨6, [13], [12], 0, ⟨#[]⟩, []⟩, ⟨4, [14], [0], 2, ⟨#[]⟩, []⟩, ⟨3, [15], [7, 11], 0, ⟨#[42]⟩, []⟩, ⟨1, [16], [], 0, ⟨#[]⟩, []⟩, ⟨2, [17], [16], 0, ⟨#[]⟩, []⟩, ⟨9, [], [], 0, ⟨#[]⟩, [5]⟩],
  [⟨4, [24], [0], 2, ⟨#[]⟩, []⟩, ⟨1, [25], [], 3, ⟨#[]⟩, []⟩, ⟨3, [26], [7, 25], 0, ⟨#[42]⟩, []⟩, ⟨3, [27], [24, 26], 0, ⟨#[43]⟩, []⟩, ⟨5, [], [27, 1], 0, ⟨#[]⟩, []⟩, ⟨5, [], [27, 2], 1, ⟨#[]⟩, []⟩, ⟨5, [], [27, 4], 2, ⟨#[]⟩, []⟩, ⟨3, [28], [7, 4], 0, ⟨#[43]⟩, []⟩, ⟨5, [], [0, 28], 0, ⟨#[]⟩, []⟩, ⟨4, [29], [0], 3, ⟨#[]⟩, []⟩, ⟨3, [30], [29, 4], 0, ⟨#[43]⟩, []⟩, ⟨5, [], [0, 30], 3, ⟨#[]⟩, []⟩, ⟨12, [], [], 0, ⟨#[]⟩, []⟩],
  [⟨3, [18], [17, 15], 0, ⟨#[60]⟩, []⟩, ⟨10, [], [18], 0, ⟨#[]⟩, [6, 7]⟩],
  [⟨3, [19], [13, 17], 0, ⟨#[43]⟩, []⟩, ⟨3, [20], [14, 17], 0, ⟨#[43]⟩, []⟩, ⟨4, [21], [20], 0, ⟨#[]⟩, []⟩, ⟨5, [], [19, 21], 0, ⟨#[]⟩, []⟩, ⟨1, [22], [], 1, ⟨#[]⟩, []⟩, ⟨3, [23], [17, 22], 0, ⟨#[43]⟩, []⟩, ⟨2, [17], [23], 0, ⟨#[]⟩, []⟩, ⟨9, [], [], 0, ⟨#[]⟩, [5]⟩],
  [⟨5, [], [0, 10], 1, ⟨#[]⟩, []⟩, ⟨5, [], [0, 13], 2, ⟨#[]⟩, []⟩, ⟨9, [], [], 0, ⟨#[]⟩, [4]⟩]]⟩
def drop_L : PCode := ⟨⟨#[95, 100, 114, 111, 112]⟩, 2, 0, 8, 0, [[⟨7, [2], [0, 1], 0, ⟨#[95, 102, 105, 110, 100]⟩, []⟩, ⟨1, [3], [], 0, ⟨#[]⟩, []⟩, ⟨3, [4], [2, 3], 0, ⟨#[60]⟩, []⟩, ⟨10, [], [4], 0, ⟨#[]⟩, [1, 2]⟩],
  [⟨12, [], [], 0, ⟨#[]⟩, []⟩],
  [⟨5, [], [2, 3], 2, ⟨#[]⟩, []⟩, ⟨4, [5], [0], 3, ⟨#[]⟩, []⟩, ⟨1, [6], [], 1, ⟨#[]⟩, []⟩, ⟨3, [7], [5, 6], 0, ⟨#[45]⟩, []⟩, ⟨5, [], [0, 7], 3, ⟨#[]⟩, []⟩, ⟨12, [], [], 0, ⟨#[]⟩, []⟩]]⟩
def char_L : PCode := ⟨⟨#[95, 114, 117, 110, 101]⟩, 3, 2, 426, 0, [[⟨3, [3], [0, 2], 0, ⟨#[43]⟩, []⟩, ⟨4, [4], [3], 0, ⟨#[]⟩, []⟩, ⟨1, [5], [], 128, ⟨#[]⟩, []⟩, ⟨3, [6], [4, 5], 0, ⟨#[60]⟩, []⟩, ⟨10, [], [6], 0, ⟨#[]⟩, [1, 2]⟩],
  [⟨1, [7], [], 1, ⟨#[]⟩, []⟩, ⟨12, [], [4, 7], 0, ⟨#[]⟩, []⟩],
  [⟨1, [8], [], 194, ⟨#[]⟩, []⟩, ⟨3, [9], [4, 8], 0, ⟨#[62, 61]⟩, []⟩, ⟨10, [], [9], 0, ⟨#[]⟩, [3, 4]⟩],
  [⟨1, [10], [], 223, ⟨#[]⟩, []⟩, ⟨3, [11], [4, 10], 0, ⟨#[60, 61]⟩, []⟩, ⟨10, [], [11], 0, ⟨#[]⟩, [5, 6]⟩],
  [⟨1, [35], [], 224, ⟨#[]⟩, []⟩, ⟨3, [36], [4, 35], 0, ⟨#[62, 61]⟩, []⟩, ⟨10, [], [36], 0, ⟨#[]⟩, [13, 14]⟩],
  [⟨1, [12], [], 192, ⟨#[]⟩, []⟩, ⟨3, [13], [4, 12], 0, ⟨#[45]⟩, []⟩, ⟨1, [14], [], 1, ⟨#[]⟩, []⟩, ⟨3, [15], [2, 14], 0, ⟨#[43]⟩, []⟩, ⟨3, [16], [15, 1], 0, ⟨#[62, 61]⟩, []⟩, ⟨10, [], [16], 0, ⟨#[]⟩, [7, 8]⟩],
  [⟨9, [], [], 0, ⟨#[]⟩, [4]⟩],
  [⟨1, [17], [], 65533, ⟨#[]⟩, []⟩, ⟨1, [18], [], 1, ⟨#[]⟩, []⟩, ⟨12, [], [17, 18], 0, ⟨#[]⟩, []⟩],
  [⟨3, [19], [0, 15], 0, ⟨#[43]⟩, []⟩, ⟨4, [20], [19], 0, ⟨#[]⟩, []⟩, ⟨1, [21], [], 128, ⟨#[]⟩, []⟩, ⟨3, [22], [20, 21], 0, ⟨#[60]⟩, []⟩, ⟨10, [], [22], 0, ⟨#[]⟩, [9, 10]⟩],
  [⟨1, [23], [], 65533, ⟨#[]⟩, []⟩, ⟨1, [24], [], 1, ⟨#[]⟩, []⟩, ⟨12, [], [23, 24], 0, ⟨#[]⟩, []⟩],
  [⟨1, [25], [], 191, ⟨#[]⟩, []⟩, ⟨3, [26], [20, 25], 0, ⟨#[62]⟩, []⟩, ⟨10, [], [26], 0, ⟨#[]⟩, [11, 12]⟩],
  [⟨1, [27], [], 65533, ⟨#[]⟩, []⟩, ⟨1, [28], [], 1, ⟨#[]⟩, []⟩, ⟨12, [], [27, 28], 0, ⟨#[]⟩, []⟩],
  [⟨1, [29], [], 128, ⟨#[]⟩, []⟩, ⟨3, [30], [20, 29], 0, ⟨#[45]⟩, []⟩, ⟨1, [31], [], 64, ⟨#[]⟩, []⟩, ⟨3, [32], [13, 31], 0, ⟨#[42]⟩, []⟩, ⟨3, [33], [32, 30], 0, ⟨#[43]⟩, []⟩, ⟨1, [34], [], 2, ⟨#[]⟩, []⟩, ⟨12, [], [33, 34], 0, ⟨#[]⟩, []⟩],
  [⟨1, [37], [], 224, ⟨#[]⟩, []⟩, ⟨3, [38], [4, 37], 0, ⟨#[60, 61]⟩, []⟩, ⟨10, [], [38], 0, ⟨#[]⟩, [15, 16]⟩],
  [⟨1, [82], [], 225, ⟨#[]⟩, []⟩, ⟨3, [83], [4, 82], 0, ⟨#[62, 61]⟩, []⟩, ⟨10, [], [83], 0, ⟨#[]⟩, [29, 30]⟩],
  [⟨1, [39], [], 224, ⟨#[]⟩, []⟩, ⟨3, [40], [4, 39], 0, ⟨#[45]⟩, []⟩, ⟨1, [41], [], 1, ⟨#[]⟩, []⟩, ⟨3, [42], [2, 41], 0, ⟨#[43]⟩, []⟩, ⟨3, [43], [42, 1], 0, ⟨#[62, 61]⟩, []⟩, ⟨10, [], [43], 0, ⟨#[]⟩, [17, 18]⟩],
  [⟨9, [], [], 0, ⟨#[]⟩, [14]⟩],
  [⟨1, [44], [], 65533, ⟨#[]⟩, []⟩, ⟨1, [45], [], 1, ⟨#[]⟩, []⟩, ⟨12, [], [44, 45], 0, ⟨#[]⟩, []⟩],
  [⟨3, [46], [0, 42], 0, ⟨#[43]⟩, []⟩, ⟨4, [47], [46], 0, ⟨#[]⟩, []⟩, ⟨1, [48], [], 160, ⟨#[]⟩, []⟩, ⟨3, [49], [47, 48], 0, ⟨#[60]⟩, []⟩, ⟨10, [], [49], 0, ⟨#[]⟩, [19, 20]⟩],
  [⟨1, [50], [], 65533, ⟨#[]⟩, []⟩, ⟨1, [51], [], 1, ⟨#[]⟩, []⟩, ⟨12, [], [50, 51], 0, ⟨#[]⟩, []⟩],
  [⟨1, [52], [], 191, ⟨#[]⟩, []⟩, ⟨3, [53], [47, 52], 0, ⟨#[62]⟩, []⟩, ⟨10, [], [53], 0, ⟨#[]⟩, [21, 22]⟩],
  [⟨1, [54], [], 65533, ⟨#[]⟩, []⟩, ⟨1, [55], [], 1, ⟨#[]⟩, []⟩, ⟨12, [], [54, 55], 0, ⟨#[]⟩, []⟩],
  [⟨1, [56], [], 128, ⟨#[]⟩, []⟩, ⟨3, [57], [47, 56], 0, ⟨#[45]⟩, []⟩, ⟨1, [58], [], 64, ⟨#[]⟩, []⟩, ⟨3, [59], [40, 58], 0, ⟨#[42]⟩, []⟩, ⟨3, [60], [59, 57], 0, ⟨#[43]⟩, []⟩, ⟨1, [61], [], 2, ⟨#[]⟩, []⟩, ⟨3, [62], [2, 61], 0, ⟨#[43]⟩, []⟩, ⟨3, [63], [62, 1], 0, ⟨#[62, 61]⟩, []⟩, ⟨10, [], [63], 0, ⟨#[]⟩, [23, 24]⟩],
  [⟨1, [64], [], 65533, ⟨#[]⟩, []⟩, ⟨1, [65], [], 1, ⟨#[]⟩, []⟩, ⟨12, [], [64, 65], 0, ⟨#[]⟩, []⟩],
  [⟨3, [66], [0, 62], 0, ⟨#[43]⟩, []⟩, ⟨4, [67], [66], 0, ⟨#[]⟩, []⟩, ⟨1, [68], [], 128, ⟨#[]⟩, []⟩, ⟨3, [69], [67, 68], 0, ⟨#[60]⟩, []⟩, ⟨10, [], [69], 0, ⟨#[]⟩, [25, 26]⟩],
  [⟨1, [70], [], 65533, ⟨#[]⟩, []⟩, ⟨1, [71], [], 1, ⟨#[]⟩, []⟩, ⟨12, [], [70, 71], 0, ⟨#[]⟩, []⟩],
  [⟨1, [72], [], 191, ⟨#[]⟩, []⟩, ⟨3, [73], [67, 72], 0, ⟨#[62]⟩, []⟩, ⟨10, [], [73], 0, ⟨#[]⟩, [27, 28]⟩],
  [⟨1, [74], [], 65533, ⟨#[]⟩, []⟩, ⟨1, [75], [], 1, ⟨#[]⟩, []⟩, ⟨12, [], [74, 75], 0, ⟨#[]⟩, []⟩],
  [⟨1, [76], [], 128, ⟨#[]⟩, []⟩, ⟨3, [77], [67, 76], 0, ⟨#[45]⟩, []⟩, ⟨1, [78], [], 64, ⟨#[]⟩, []⟩, ⟨3, [79], [60, 78], 0, ⟨#[42]⟩, []⟩, ⟨3, [80], [79, 77], 0, ⟨#[43]⟩, []⟩, ⟨1, [81], [], 3, ⟨#[]⟩, []⟩, ⟨12, [], [80, 81], 0, ⟨#[]⟩, []⟩],
  [⟨1, [84], [], 236, ⟨#[]⟩, []⟩, ⟨3, [85], [4, 84], 0, ⟨#[60, 61]⟩, []⟩, ⟨10, [], [85], 0, ⟨#[]⟩, [31, 32]⟩],
  [⟨1, [129], [], 237, ⟨#[]⟩, []⟩, ⟨3, [130], [4, 129], 0, ⟨#[62, 61]⟩, []⟩, ⟨10, [], [130], 0, ⟨#[]⟩, [45, 46]⟩],
  [⟨1, [86], [], 224, ⟨#[]⟩, []⟩, ⟨3, [87], [4, 86], 0, ⟨#[45]⟩, []⟩, ⟨1, [88], [], 1, ⟨#[]⟩, []⟩, ⟨3, [89], [2, 88], 0, ⟨#[43]⟩, []⟩, ⟨3, [90], [89, 1], 0, ⟨#[62, 61]⟩, []⟩, ⟨10, [], [90], 0, ⟨#[]⟩, [33, 34]⟩],
  [⟨9, [], [], 0, ⟨#[]⟩, [30]⟩],
  [⟨1, [91], [], 65533, ⟨#[]⟩, []⟩, ⟨1, [92], [], 1, ⟨#[]⟩, []⟩, ⟨12, [], [91, 92], 0, ⟨#[]⟩, []⟩],
  [⟨3, [93], [0, 89], 0, ⟨#[43]⟩, []⟩, ⟨4, [94], [93], 0, ⟨#[]⟩, []⟩, ⟨1, [95], [], 128, ⟨#[]⟩, []⟩, ⟨3, [96], [94, 95], 0, ⟨#[60]⟩, []⟩, ⟨10, [], [96], 0, ⟨#[]⟩, [35, 36]⟩],
  [⟨1, [97], [], 65533, ⟨#[]⟩, []⟩, ⟨1, [98], [], 1, ⟨#[]⟩, []⟩, ⟨12, [], [97, 98], 0, ⟨#[]⟩, []⟩],
  [⟨1, [99], [], 191, ⟨#[]⟩, []⟩, ⟨3, [100], [94, 99], 0, ⟨#[62]⟩, []⟩, ⟨10, [], [100], 0, ⟨#[]⟩, [37, 38]⟩],
  [⟨1, [101], [], 65533, ⟨#[]⟩, []⟩, ⟨1, [102], [], 1, ⟨#[]⟩, []⟩, ⟨12, [], [101, 102], 0, ⟨#[]⟩, []⟩],
  [⟨1, [103], [], 128, ⟨#[]⟩, []⟩, ⟨3, [104], [94, 103], 0, ⟨#[45]⟩, []⟩, ⟨1, [105], [], 64, ⟨#[]⟩, []⟩, ⟨3, [106], [87, 105], 0, ⟨#[42]⟩, []⟩, ⟨3, [107], [106, 104], 0, ⟨#[43]⟩, []⟩, ⟨1, [108], [], 2, ⟨#[]⟩, []⟩, ⟨3, [109], [2, 108], 0, ⟨#[43]⟩, []⟩, ⟨3, [110], [109, 1], 0, ⟨#[62, 61]⟩, []⟩, ⟨10, [], [110], 0, ⟨#[]⟩, [39, 40]⟩],
  [⟨1, [111], [], 65533, ⟨#[]⟩, []⟩, ⟨1, [112], [], 1, ⟨#[]⟩, []⟩, ⟨12, [], [111, 112], 0, ⟨#[]⟩, []⟩],
  [⟨3, [113], [0, 109], 0, ⟨#[43]⟩, []⟩, ⟨4, [114], [113], 0, ⟨#[]⟩, []⟩, ⟨1, [115], [], 128, ⟨#[]⟩, []⟩, ⟨3, [116], [114, 115], 0, ⟨#[60]⟩, []⟩, ⟨10, [], [116], 0, ⟨#[]⟩, [41, 42]⟩],
  [⟨1, [117], [], 65533, ⟨#[]⟩, []⟩, ⟨1, [118], [], 1, ⟨#[]⟩, []⟩, ⟨12, [], [117, 118], 0, ⟨#[]⟩, []⟩],
  [⟨1, [119], [], 191, ⟨#[]⟩, []⟩, ⟨3, [120], [114, 119], 0, ⟨#[62]⟩, []⟩, ⟨10, [], [120], 0, ⟨#[]⟩, [43, 44]⟩],
  [⟨1, [121], [], 65533, ⟨#[]⟩, []⟩, ⟨1, [122], [], 1, ⟨#[]⟩, []⟩, ⟨12, [], [121, 122], 0, ⟨#[]⟩, []⟩],
  [⟨1, [123], [], 128, ⟨#[]⟩, []⟩, ⟨3, [124], [114, 123], 0, ⟨#[45]⟩, []⟩, ⟨1, [125], [], 64, ⟨#[]⟩, []⟩, ⟨3, [126], [107, 125], 0, ⟨#[42]⟩, []⟩, ⟨3, [127], [126, 124], 0, ⟨#[43]⟩, []⟩, ⟨1, [128], [], 3, ⟨#[]⟩, []⟩, ⟨12, [], [127, 128], 0, ⟨#[]⟩, []⟩],
  [⟨1, [131], [], 237, ⟨#[]⟩, []⟩, ⟨3, [132], [4, 131], 0, ⟨#[60, 61]⟩, []⟩, ⟨10, [], [132], 0, ⟨#[]⟩, [47, 48]⟩],
  [⟨1, [176], [], 238, ⟨#[]⟩, []⟩, ⟨3, [177], [4, 176], 0, ⟨#[62, 61]⟩, []⟩, ⟨10, [], [177], 0, ⟨#[]⟩, [61, 62]⟩],
  [⟨1, [133], [], 224, ⟨#[]⟩, []⟩, ⟨3, [134], [4, 133], 0, ⟨#[45]⟩, []⟩, ⟨1, [135], [], 1, ⟨#[]⟩, []⟩, ⟨3, [136], [2, 135], 0, ⟨#[43]⟩, []⟩, ⟨3, [137], [136, 1], 0, ⟨#[62, 61]⟩, []⟩, ⟨10, [], [137], 0, ⟨#[]⟩, [49, 50]⟩],
  [⟨9, [], [], 0, ⟨#[]⟩, [46]⟩],
  [⟨1, [138], [], 65533, ⟨#[]⟩, []⟩, ⟨1, [139], [], 1, ⟨#[]⟩, []⟩, ⟨12, [], [138, 139], 0, ⟨#[]⟩, []⟩],
  [⟨3, [140], [0, 136], 0, ⟨#[43]⟩, []⟩, ⟨4, [141], [140], 0, ⟨#[]⟩, []⟩, ⟨1, [142], [], 128, ⟨#[]⟩, []⟩, ⟨3, [143], [141, 142], 0, ⟨#[60]⟩, []⟩, ⟨10, [], [143], 0, ⟨#[]⟩, [51, 52]⟩],
  [⟨1, [144], [], 65533, ⟨#[]⟩, []⟩, ⟨1, [145], [], 1, ⟨#[]⟩, []⟩, ⟨12, [], [144, 145], 0, ⟨#[]⟩, []⟩],
  [⟨1, [146], [], 159, ⟨#[]⟩, []⟩, ⟨3, [147], [141, 146], 0, ⟨#[62]⟩, []⟩, ⟨10, [], [147], 0, ⟨#[]⟩, [53, 54]⟩],
  [⟨1, [148], [], 65533, ⟨#[]⟩, []⟩, ⟨1, [149], [], 1, ⟨#[]⟩, []⟩, ⟨12, [], [148, 149], 0, ⟨#[]⟩, []⟩],
  [⟨1, [150], [], 128, ⟨#[]⟩, []⟩, ⟨3, [151], [141, 150], 0, ⟨#[45]⟩, []⟩, ⟨1, [152], [], 64, ⟨#[]⟩, []⟩, ⟨3, [153], [134, 152], 0, ⟨#[42]⟩, []⟩, ⟨3, [154], [153, 151], 0, ⟨#[43]⟩, []⟩, ⟨1, [155], [], 2, ⟨#[]⟩, []⟩, ⟨3, [156], [2, 155], 0, ⟨#[43]⟩, []⟩, ⟨3, [157], [156, 1], 0, ⟨#[62, 61]⟩, []⟩, ⟨10, [], [157], 0, ⟨#[]⟩, [55, 56]⟩],
  [⟨1, [158], [], 65533, ⟨#[]⟩, []⟩, ⟨1, [159], [], 1, ⟨#[]⟩, []⟩, ⟨12, [], [158, 159], 0, ⟨#[]⟩, []⟩],
  [⟨3, [160], [0, 156], 0, ⟨#[43]⟩, []⟩, ⟨4, [161], [160], 0, ⟨#[]⟩, []⟩, ⟨1, [162], [], 128, ⟨#[]⟩, []⟩, ⟨3, [163], [161, 162], 0, ⟨#[60]⟩, []⟩, ⟨10, [], [163], 0, ⟨#[]⟩, [57, 58]⟩],
  [⟨1, [164], [], 65533, ⟨#[]⟩, []⟩, ⟨1, [165], [], 1, ⟨#[]⟩, []⟩, ⟨12, [], [164, 165], 0, ⟨#[]⟩, []⟩],
  [⟨1, [166], [], 191, ⟨#[]⟩, []⟩, ⟨3, [167], [161, 166], 0, ⟨#[62]⟩, []⟩, ⟨10, [], [167], 0, ⟨#[]⟩, [59, 60]⟩],
  [⟨1, [168], [], 65533, ⟨#[]⟩, []⟩, ⟨1, [169], [], 1, ⟨#[]⟩, []⟩, ⟨12, [], [168, 169], 0, ⟨#[]⟩, []⟩],
  [⟨1, [170], [], 128, ⟨#[]⟩, []⟩, ⟨3, [171], [161, 170], 0, ⟨#[45]⟩, []⟩, ⟨1, [172], [], 64, ⟨#[]⟩, []⟩, ⟨3, [173], [154, 172], 0, ⟨#[42]⟩, []⟩, ⟨3, [174], [173, 171], 0, ⟨#[43]⟩, []⟩, ⟨1, [175], [], 3, ⟨#[]⟩, []⟩, ⟨12, [], [174, 175], 0, ⟨#[]⟩, []⟩],
  [⟨1, [178], [], 239, ⟨#[]⟩, []⟩, ⟨3, [179], [4, 178], 0, ⟨#[60, 61]⟩, []⟩, ⟨10, [], [179], 0, ⟨#[]⟩, [63, 64]⟩],
  [⟨1, [223], [], 240, ⟨#[]⟩, []⟩, ⟨3, [224], [4, 223], 0, ⟨#[62, 61]⟩, []⟩, ⟨10, [], [224], 0, ⟨#[]⟩, [77, 78]⟩],
  [⟨1, [180], [], 224, ⟨#[]⟩, []⟩, ⟨3, [181], [4, 180], 0, ⟨#[45]⟩, []⟩, ⟨1, [182], [], 1, ⟨#[]⟩, []⟩, ⟨3, [183], [2, 182], 0, ⟨#[43]⟩, []⟩, ⟨3, [184], [183, 1], 0, ⟨#[62, 61]⟩, []⟩, ⟨10, [], [184], 0, ⟨#[]⟩, [65, 66]⟩],
  [⟨9, [], [], 0, ⟨#[]⟩, [62]⟩],
  [⟨1, [185], [], 65533, ⟨#[]⟩, []⟩, ⟨1, [186], [], 1, ⟨#[]⟩, []⟩, ⟨12, [], [185, 186], 0, ⟨#[]⟩, []⟩],
  [⟨3, [187], [0, 183], 0, ⟨#[43]⟩, []⟩, ⟨4, [188], [187], 0, ⟨#[]⟩, []⟩, ⟨1, [189], [], 128, ⟨#[]⟩, []⟩, ⟨3, [190], [188, 189], 0, ⟨#[60]⟩, []⟩, ⟨10, [], [190], 0, ⟨#[]⟩, [67, 68]⟩],
  [⟨1, [191], [], 65533, ⟨#[]⟩, []⟩, ⟨1, [192], [], 1, ⟨#[]⟩, []⟩, ⟨12, [], [191, 192], 0, ⟨#[]⟩, []⟩],
  [⟨1, [193], [], 191, ⟨#[]⟩, []⟩, ⟨3, [194], [188, 193], 0, ⟨#[62]⟩, []⟩, ⟨10, [], [194], 0, ⟨#[]⟩, [69, 70]⟩],
  [⟨1, [195], [], 65533, ⟨#[]⟩, []⟩, ⟨1, [196], [], 1, ⟨#[]⟩, []⟩, ⟨12, [], [195, 196], 0, ⟨#[]⟩, []⟩],
  [⟨1, [197], [], 128, ⟨#[]⟩, []⟩, ⟨3, [198], [188, 197], 0, ⟨#[45]⟩, []⟩, ⟨1, [199], [], 64, ⟨#[]⟩, []⟩, ⟨3, [200], [181, 199], 0, ⟨#[42]⟩, []⟩, ⟨3, [201], [200, 198], 0, ⟨#[43]⟩, []⟩, ⟨1, [202], [], 2, ⟨#[]⟩, []⟩, ⟨3, [203], [2, 202], 0, ⟨#[43]⟩, []⟩, ⟨3, [204], [203, 1], 0, ⟨#[62, 61]⟩, []⟩, ⟨10, [], [204], 0, ⟨#[]⟩, [71, 72]⟩],
  [⟨1, [205], [], 65533, ⟨#[]⟩, []⟩, ⟨1, [206], [], 1, ⟨#[]⟩, []⟩, ⟨12, [], [205, 206], 0, ⟨#[]⟩, []⟩],
  [⟨3, [207], [0, 203], 0, ⟨#[43]⟩, []⟩, ⟨4, [208], [207], 0, ⟨#[]⟩, []⟩, ⟨1, [209], [], 128, ⟨#[]⟩, []⟩, ⟨3, [210], [208, 209], 0, ⟨#[60]⟩, []⟩, ⟨10, [], [210], 0, ⟨#[]⟩, [73, 74]⟩],
  [⟨1, [211], [], 65533, ⟨#[]⟩, []⟩, ⟨1, [212], [], 1, ⟨#[]⟩, []⟩, ⟨12, [], [211, 212], 0, ⟨#[]⟩, []⟩],
  [⟨1, [213], [], 191, ⟨#[]⟩, []⟩, ⟨3, [214], [208, 213], 0, ⟨#[62]⟩, []⟩, ⟨10, [], [214], 0, ⟨#[]⟩, [75, 76]⟩],
  [⟨1, [215], [], 65533, ⟨#[]⟩, []⟩, ⟨1, [216], [], 1, ⟨#[]⟩, []⟩, ⟨12, [], [215, 216], 0, ⟨#[]⟩, []⟩],
  [⟨1, [217], [], 128, ⟨#[]⟩, []⟩, ⟨3, [218], [208, 217], 0, ⟨#[45]⟩, []⟩, ⟨1, [219], [], 64, ⟨#[]⟩, []⟩, ⟨3, [220], [201, 219], 0, ⟨#[42]⟩, []⟩, ⟨3, [221], [220, 218], 0, ⟨#[43]⟩, []⟩, ⟨1, [222], [], 3, ⟨#[]⟩, []⟩, ⟨12, [], [221, 222], 0, ⟨#[]⟩, []⟩],
  [⟨1, [225], [], 240, ⟨#[]⟩, []⟩, ⟨3, [226], [4, 225], 0, ⟨#[60, 61]⟩, []⟩, ⟨10, [], [226], 0, ⟨#[]⟩, [79, 80]⟩],
  [⟨1, [290], [], 241, ⟨#[]⟩, []⟩, ⟨3, [291], [4, 290], 0, ⟨#[62, 61]⟩, []⟩, ⟨10, [], [291], 0, ⟨#[]⟩, [99, 100]⟩],
  [⟨1, [227], [], 240, ⟨#[]⟩, []⟩, ⟨3, [228], [4, 227], 0, ⟨#[45]⟩, []⟩, ⟨1, [229], [], 1, ⟨#[]⟩, []⟩, ⟨3, [230], [2, 229], 0, ⟨#[43]⟩, []⟩, ⟨3, [231], [230, 1], 0, ⟨#[62, 61]⟩, []⟩, ⟨10, [], [231], 0, ⟨#[]⟩, [81, 82]⟩],
  [⟨9, [], [], 0, ⟨#[]⟩, [78]⟩],
  [⟨1, [232], [], 65533, ⟨#[]⟩, []⟩, ⟨1, [233], [], 1, ⟨#[]⟩, []⟩, ⟨12, [], [232, 233], 0, ⟨#[]⟩, []⟩],
  [⟨3, [234], [0, 230], 0, ⟨#[43]⟩, []⟩, ⟨4, [235], [234], 0, ⟨#[]⟩, []⟩, ⟨1, [236], [], 144, ⟨#[]⟩, []⟩, ⟨3, [237], [235, 236], 0, ⟨#[60]⟩, []⟩, ⟨10, [], [237], 0, ⟨#[]⟩, [83, 84]⟩],
  [⟨1, [238], [], 65533, ⟨#[]⟩, []⟩, ⟨1, [239], [], 1, ⟨#[]⟩, []⟩, ⟨12, [], [238, 239], 0, ⟨#[]⟩, []⟩],
  [⟨1, [240], [], 191, ⟨#[]⟩, []⟩, ⟨3, [241], [235, 240], 0, ⟨#[62]⟩, []⟩, ⟨10, [], [241], 0, ⟨#[]⟩, [85, 86]⟩],
  [⟨1, [242], [], 65533, ⟨#[]⟩, []⟩, ⟨1, [243], [], 1, ⟨#[]⟩, []⟩, ⟨12, [], [242, 243], 0, ⟨#[]⟩, []⟩],
  [⟨1, [244], [], 128, ⟨#[]⟩, []⟩, ⟨3, [245], [235, 244], 0, ⟨#[45]⟩, []⟩, ⟨1, [246], [], 64, ⟨#[]⟩, []⟩, ⟨3, [247], [228, 246], 0, ⟨#[42]⟩, []⟩, ⟨3, [248], [247, 245], 0, ⟨#[43]⟩, []⟩, ⟨1, [249], [], 2, ⟨#[]⟩, []⟩, ⟨3, [250], [2, 249], 0, ⟨#[43]⟩, []⟩, ⟨3, [251], [250, 1], 0, ⟨#[62, 61]⟩, []⟩, ⟨10, [], [251], 0, ⟨#[]⟩, [87, 88]⟩],
  [⟨1, [252], [], 65533, ⟨#[]⟩, []⟩, ⟨1, [253], [], 1, ⟨#[]⟩, []⟩, ⟨12, [], [252, 253], 0, ⟨#[]⟩, []⟩],
  [⟨3, [254], [0, 250], 0, ⟨#[43]⟩, []⟩, ⟨4, [255], [254], 0, ⟨#[]⟩, []⟩, ⟨1, [256], [], 128, ⟨#[]⟩, []⟩, ⟨3, [257], [255, 256], 0, ⟨#[60]⟩, []⟩, ⟨10, [], [257], 0, ⟨#[]⟩, [89, 90]⟩],
  [⟨1, [258], [], 65533, ⟨#[]⟩, []⟩, ⟨1, [259], [], 1, ⟨#[]⟩, []⟩, ⟨12, [], [258, 259], 0, ⟨#[]⟩, []⟩],
  [⟨1, [260], [], 191, ⟨#[]⟩, []⟩, ⟨3, [261], [255, 260], 0, ⟨#[62]⟩, []⟩, ⟨10, [], [261], 0, ⟨#[]⟩, [91, 92]⟩],
  [⟨1, [262], [], 65533, ⟨#[]⟩, []⟩, ⟨1, [263], [], 1, ⟨#[]⟩, []⟩, ⟨12, [], [262, 263], 0, ⟨#[]⟩, []⟩],
  [⟨1, [264], [], 128, ⟨#[]⟩, []⟩, ⟨3, [265], [255, 264], 0, ⟨#[45]⟩, []⟩, ⟨1, [266], [], 64, ⟨#[]⟩, []⟩, ⟨3, [267], [248, 266], 0, ⟨#[42]⟩, []⟩, ⟨3, [268], [267, 265], 0, ⟨#[43]⟩, []⟩, ⟨1, [269], [], 3, ⟨#[]⟩, []⟩, ⟨3, [270], [2, 269], 0, ⟨#[43]⟩, []⟩, ⟨3, [271], [270, 1], 0, ⟨#[62, 61]⟩, []⟩, ⟨10, [], [271], 0, ⟨#[]⟩, [93, 94]⟩],
  [⟨1, [272], [], 65533, ⟨#[]⟩, []⟩, ⟨1, [273], [], 1, ⟨#[]⟩, []⟩, ⟨12, [], [272, 273], 0, ⟨#[]⟩, []⟩],
  [⟨3, [274], [0, 270], 0, ⟨#[43]⟩, []⟩, ⟨4, [275], [274], 0, ⟨#[]⟩, []⟩, ⟨1, [276], [], 128, ⟨#[]⟩, []⟩, ⟨3, [277], [275, 276], 0, ⟨#[60]⟩, []⟩, ⟨10, [], [277], 0, ⟨#[]⟩, [95, 96]⟩],
  [⟨1, [278], [], 65533, ⟨#[]⟩, []⟩, ⟨1, [279], [], 1, ⟨#[]⟩, []⟩, ⟨12, [], [278, 279], 0, ⟨#[]⟩, []⟩],
  [⟨1, [280], [], 191, ⟨#[]⟩, []⟩, ⟨3, [281], [275, 280], 0, ⟨#[62]⟩, []⟩, ⟨10, [], [281], 0, ⟨#[]⟩, [97, 98]⟩],
  [⟨1, [282], [], 65533, ⟨#[]⟩, []⟩, ⟨1, [283], [], 1, ⟨#[]⟩, []⟩, ⟨12, [], [282, 283], 0, ⟨#[]⟩, []⟩],
  [⟨1, [284], [], 128, ⟨#[]⟩, []⟩, ⟨3, [285], [275, 284], 0, ⟨#[45]⟩, []⟩, ⟨1, [286], [], 64, ⟨#[]⟩, []⟩, ⟨3, [287], [268, 286], 0, ⟨#[42]⟩, []⟩, ⟨3, [288], [287, 285], 0, ⟨#[43]⟩, []⟩, ⟨1, [289], [], 4, ⟨#[]⟩, []⟩, ⟨12, [], [288, 289], 0, ⟨#[]⟩, []⟩],
  [⟨1, [292], [], 243, ⟨#[]⟩, []⟩, ⟨3, [293], [4, 292], 0, ⟨#[60, 61]⟩, []⟩, ⟨10, [], [293], 0, ⟨#[]⟩, [101, 102]⟩],
  [⟨1, [357], [], 244, ⟨#[]⟩, []⟩, ⟨3, [358], [4, 357], 0, ⟨#[62, 61]⟩, []⟩, ⟨10, [], [358], 0, ⟨#[]⟩, [121, 122]⟩],
  [⟨1, [294], [], 240, ⟨#[]⟩, []⟩, ⟨3, [295], [4, 294], 0, ⟨#[45]⟩, []⟩, ⟨1, [296], [], 1, ⟨#[]⟩, []⟩, ⟨3, [297], [2, 296], 0, ⟨#[43]⟩, []⟩, ⟨3, [298], [297, 1], 0, ⟨#[62, 61]⟩, []⟩, ⟨10, [], [298], 0, ⟨#[]⟩, [103, 104]⟩],
  [⟨9, [], [], 0, ⟨#[]⟩, [100]⟩],
  [⟨1, [299], [], 65533, ⟨#[]⟩, []⟩, ⟨1, [300], [], 1, ⟨#[]⟩, []⟩, ⟨12, [], [299, 300], 0, ⟨#[]⟩, []⟩],
  [⟨3, [301], [0, 297], 0, ⟨#[43]⟩, []⟩, ⟨4, [302], [301], 0, ⟨#[]⟩, []⟩, ⟨1, [303], [], 128, ⟨#[]⟩, []⟩, ⟨3, [304], [302, 303], 0, ⟨#[60]⟩, []⟩, ⟨10, [], [304], 0, ⟨#[]⟩, [105, 106]⟩],
  [⟨1, [305], [], 65533, ⟨#[]⟩, []⟩, ⟨1, [306], [], 1, ⟨#[]⟩, []⟩, ⟨12, [], [305, 306], 0, ⟨#[]⟩, []⟩],
  [⟨1, [307], [], 191, ⟨#[]⟩, []⟩, ⟨3, [308], [302, 307], 0, ⟨#[62]⟩, []⟩, ⟨10, [], [308], 0, ⟨#[]⟩, [107, 108]⟩],
  [⟨1, [309], [], 65533, ⟨#[]⟩, []⟩, ⟨1, [310], [], 1, ⟨#[]⟩, []⟩, ⟨12, [], [309, 310], 0, ⟨#[]⟩, []⟩],
  [⟨1, [311], [], 128, ⟨#[]⟩, []⟩, ⟨3, [312], [302, 311], 0, ⟨#[45]⟩, []⟩, ⟨1, [313], [], 64, ⟨#[]⟩, []⟩, ⟨3, [314], [295, 313], 0, ⟨#[42]⟩, []⟩, ⟨3, [315], [314, 312], 0, ⟨#[43]⟩, []⟩, ⟨1, [316], [], 2, ⟨#[]⟩, []⟩, ⟨3, [317], [2, 316], 0, ⟨#[43]⟩, []⟩, ⟨3, [318], [317, 1], 0, ⟨#[62, 61]⟩, []⟩, ⟨10, [], [318], 0, ⟨#[]⟩, [109, 110]⟩],
  [⟨1, [319], [], 65533, ⟨#[]⟩, []⟩, ⟨1, [320], [], 1, ⟨#[]⟩, []⟩, ⟨12, [], [319, 320], 0, ⟨#[]⟩, []⟩],
  [⟨3, [321], [0, 317], 0, ⟨#[43]⟩, []⟩, ⟨4, [322], [321], 0, ⟨#[]⟩, []⟩, ⟨1, [323], [], 128, ⟨#[]⟩, []⟩, ⟨3, [324], [322, 323], 0, ⟨#[60]⟩, []⟩, ⟨10, [], [324], 0, ⟨#[]⟩, [111, 112]⟩],
  [⟨1, [325], [], 65533, ⟨#[]⟩, []⟩, ⟨1, [326], [], 1, ⟨#[]⟩, []⟩, ⟨12, [], [325, 326], 0, ⟨#[]⟩, []⟩],
  [⟨1, [327], [], 191, ⟨#[]⟩, []⟩, ⟨3, [328], [322, 327], 0, ⟨#[62]⟩, []⟩, ⟨10, [], [328], 0, ⟨#[]⟩, [113, 114]⟩],
  [⟨1, [329], [], 65533, ⟨#[]⟩, []⟩, ⟨1, [330], [], 1, ⟨#[]⟩, []⟩, ⟨12, [], [329, 330], 0, ⟨#[]⟩, []⟩],
  [⟨1, [331], [], 128, ⟨#[]⟩, []⟩, ⟨3, [332], [322, 331], 0, ⟨#[45]⟩, []⟩, ⟨1, [333], [], 64, ⟨#[]⟩, []⟩, ⟨3, [334], [315, 333], 0, ⟨#[42]⟩, []⟩, ⟨3, [335], [334, 332], 0, ⟨#[43]⟩, []⟩, ⟨1, [336], [], 3, ⟨#[]⟩, []⟩, ⟨3, [337], [2, 336], 0, ⟨#[43]⟩, []⟩, ⟨3, [338], [337, 1], 0, ⟨#[62, 61]⟩, []⟩, ⟨10, [], [338], 0, ⟨#[]⟩, [115, 116]⟩],
  [⟨1, [339], [], 65533, ⟨#[]⟩, []⟩, ⟨1, [340], [], 1, ⟨#[]⟩, []⟩, ⟨12, [], [339, 340], 0, ⟨#[]⟩, []⟩],
  [⟨3, [341], [0, 337], 0, ⟨#[43]⟩, []⟩, ⟨4, [342], [341], 0, ⟨#[]⟩, []⟩, ⟨1, [343], [], 128, ⟨#[]⟩, []⟩, ⟨3, [344], [342, 343], 0, ⟨#[60]⟩, []⟩, ⟨10, [], [344], 0, ⟨#[]⟩, [117, 118]⟩],
  [⟨1, [345], [], 65533, ⟨#[]⟩, []⟩, ⟨1, [346], [], 1, ⟨#[]⟩, []⟩, ⟨12, [], [345, 346], 0, ⟨#[]⟩, []⟩],
  [⟨1, [347], [], 191, ⟨#[]⟩, []⟩, ⟨3, [348], [342, 347], 0, ⟨#[62]⟩, []⟩, ⟨10, [], [348], 0, ⟨#[]⟩, [119, 120]⟩],
  [⟨1, [349], [], 65533, ⟨#[]⟩, []⟩, ⟨1, [350], [], 1, ⟨#[]⟩, []⟩, ⟨12, [], [349, 350], 0, ⟨#[]⟩, []⟩],
  [⟨1, [351], [], 128, ⟨#[]⟩, []⟩, ⟨3, [352], [342, 351], 0, ⟨#[45]⟩, []⟩, ⟨1, [353], [], 64, ⟨#[]⟩, []⟩, ⟨3, [354], [335, 353], 0, ⟨#[42]⟩, []⟩, ⟨3, [355], [354, 352], 0, ⟨#[43]⟩, []⟩, ⟨1, [356], [], 4, ⟨#[]⟩, []⟩, ⟨12, [], [355, 356], 0, ⟨#[]⟩, []⟩],
  [⟨1, [359], [], 244, ⟨#[]⟩, []⟩, ⟨3, [360], [4, 359], 0, ⟨#[60, 61]⟩, []⟩, ⟨10, [], [360], 0, ⟨#[]⟩, [123, 124]⟩],
  [⟨1, [424], [], 65533, ⟨#[]⟩, []⟩, ⟨1, [425], [], 1, ⟨#[]⟩, []⟩, ⟨12, [], [424, 425], 0, ⟨#[]⟩, []⟩],
  [⟨1, [361], [], 240, ⟨#[]⟩, []⟩, ⟨3, [362], [4, 361], 0, ⟨#[45]⟩, []⟩, ⟨1, [363], [], 1, ⟨#[]⟩, []⟩, ⟨3, [364], [2, 363], 0, ⟨#[43]⟩, []⟩, ⟨3, [365], [364, 1], 0, ⟨#[62, 61]⟩, []⟩, ⟨10, [], [365], 0, ⟨#[]⟩, [125, 126]⟩],
  [⟨9, [], [], 0, ⟨#[]⟩, [122]⟩],
  [⟨1, [366], [], 65533, ⟨#[]⟩, []⟩, ⟨1, [367], [], 1, ⟨#[]⟩, []⟩, ⟨12, [], [366, 367], 0, ⟨#[]⟩, []⟩],
  [⟨3, [368], [0, 364], 0, ⟨#[43]⟩, []⟩, ⟨4, [369], [368], 0, ⟨#[]⟩, []⟩, ⟨1, [370], [], 128, ⟨#[]⟩, []⟩, ⟨3, [371], [369, 370], 0, ⟨#[60]⟩, []⟩, ⟨10, [], [371], 0, ⟨#[]⟩, [127, 128]⟩],
  [⟨1, [372], [], 65533, ⟨#[]⟩, []⟩, ⟨1, [373], [], 1, ⟨#[]⟩, []⟩, ⟨12, [], [372, 373], 0, ⟨#[]⟩, []⟩],
  [⟨1, [374], [], 143, ⟨#[]⟩, []⟩, ⟨3, [375], [369, 374], 0, ⟨#[62]⟩, []⟩, ⟨10, [], [375], 0, ⟨#[]⟩, [129, 130]⟩],
  [⟨1, [376], [], 65533, ⟨#[]⟩, []⟩, ⟨1, [377], [], 1, ⟨#[]⟩, []⟩, ⟨12, [], [376, 377], 0, ⟨#[]⟩, []⟩],
  [⟨1, [378], [], 128, ⟨#[]⟩, []⟩, ⟨3, [379], [369, 378], 0, ⟨#[45]⟩, []⟩, ⟨1, [380], [], 64, ⟨#[]⟩, []⟩, ⟨3, [381], [362, 380], 0, ⟨#[42]⟩, []⟩, ⟨3, [382], [381, 379], 0, ⟨#[43]⟩, []⟩, ⟨1, [383], [], 2, ⟨#[]⟩, []⟩, ⟨3, [384], [2, 383], 0, ⟨#[43]⟩, []⟩, ⟨3, [385], [384, 1], 0, ⟨#[62, 61]⟩, []⟩, ⟨10, [], [385], 0, ⟨#[]⟩, [131, 132]⟩],
  [⟨1, [386], [], 65533, ⟨#[]⟩, []⟩, ⟨1, [387], [], 1, ⟨#[]⟩, []⟩, ⟨12, [], [386, 387], 0, ⟨#[]⟩, []⟩],
  [⟨3, [388], [0, 384], 0, ⟨#[43]⟩, []⟩, ⟨4, [389], [388], 0, ⟨#[]⟩, []⟩, ⟨1, [390], [], 128, ⟨#[]⟩, []⟩, ⟨3, [391], [389, 390], 0, ⟨#[60]⟩, []⟩, ⟨10, [], [391], 0, ⟨#[]⟩, [133, 134]⟩],
  [⟨1, [392], [], 65533, ⟨#[]⟩, []⟩, ⟨1, [393], [], 1, ⟨#[]⟩, []⟩, ⟨12, [], [392, 393], 0, ⟨#[]⟩, []⟩],
  [⟨1, [394], [], 191, ⟨#[]⟩, []⟩, ⟨3, [395], [389, 394], 0, ⟨#[62]⟩, []⟩, ⟨10, [], [395], 0, ⟨#[]⟩, [135, 136]⟩],
  [⟨1, [396], [], 65533, ⟨#[]⟩, []⟩, ⟨1, [397], [], 1, ⟨#[]⟩, []⟩, ⟨12, [], [396, 397], 0, ⟨#[]⟩, []⟩],
  [⟨1, [398], [], 128, ⟨#[]⟩, []⟩, ⟨3, [399], [389, 398], 0, ⟨#[45]⟩, []⟩, ⟨1, [400], [], 64, ⟨#[]⟩, []⟩, ⟨3, [401], [382, 400], 0, ⟨#[42]⟩, []⟩, ⟨3, [402], [401, 399], 0, ⟨#[43]⟩, []⟩, ⟨1, [403], [], 3, ⟨#[]⟩, []⟩, ⟨3, [404], [2, 403], 0, ⟨#[43]⟩, []⟩, ⟨3, [405], [404, 1], 0, ⟨#[62, 61]⟩, []⟩, ⟨10, [], [405], 0, ⟨#[]⟩, [137, 138]⟩],
  [⟨1, [406], [], 65533, ⟨#[]⟩, []⟩, ⟨1, [407], [], 1, ⟨#[]⟩, []⟩, ⟨12, [], [406, 407], 0, ⟨#[]⟩, []⟩],
  [⟨3, [408], [0, 404], 0, ⟨#[43]⟩, []⟩, ⟨4, [409], [408], 0, ⟨#[]⟩, []⟩, ⟨1, [410], [], 128, ⟨#[]⟩, []⟩, ⟨3, [411], [409, 410], 0, ⟨#[60]⟩, []⟩, ⟨10, [], [411], 0, ⟨#[]⟩, [139, 140]⟩],
  [⟨1, [412], [], 65533, ⟨#[]⟩, []⟩, ⟨1, [413], [], 1, ⟨#[]⟩, []⟩, ⟨12, [], [412, 413], 0, ⟨#[]⟩, []⟩],
  [⟨1, [414], [], 191, ⟨#[]⟩, []⟩, ⟨3, [415], [409, 414], 0, ⟨#[62]⟩, []⟩, ⟨10, [], [415], 0, ⟨#[]⟩, [141, 142]⟩],
  [⟨1, [416], [], 65533, ⟨#[]⟩, []⟩, ⟨1, [417], [], 1, ⟨#[]⟩, []⟩, ⟨12, [], [416, 417], 0, ⟨#[]⟩, []⟩],
  [⟨1, [418], [], 128, ⟨#[]⟩, []⟩, ⟨3, [419], [409, 418], 0, ⟨#[45]⟩, []⟩, ⟨1, [420], [], 64, ⟨#[]⟩, []⟩, ⟨3, [421], [402, 420], 0, ⟨#[42]⟩, []⟩, ⟨3, [422], [421, 419], 0, ⟨#[43]⟩, []⟩, ⟨1, [423], [], 4, ⟨#[]⟩, []⟩, ⟨12, [], [422, 423], 0, ⟨#[]⟩, []⟩]]⟩
def allL : List PCode := [cat_L, same_L, less_L, add_L, empty_L, find_L, get_L, put_L, drop_L, char_L]
def constI (i : Nat) (v : Int) : PInstr := ⟨1, [(i : Int)], [], v, ByteArray.empty, []⟩
def showI (i : Nat) : PInstr := ⟨8, [], [(i : Int)], 0, ⟨#[105, 110, 116]⟩, []⟩
def upI (a k : Nat) : List Int := (List.range k).map (fun j => ((a + j : Nat) : Int))
def consts (l : List Int) (k : Nat) : List PInstr := (List.range k).map (fun j => constI j (l.getD j 0))
def callI (name : ByteArray) (a r : Nat) : PInstr := ⟨7, upI a r, upI 0 a, 0, name, []⟩
def mainIs (name : ByteArray) (l : List Int) (r : Nat) : List PInstr := consts l l.length ++ [callI name l.length r] ++ (List.range r).map (fun j => showI (l.length + j)) ++ [⟨12, [], [], 0, ByteArray.empty, []⟩]
def mainF (name : ByteArray) (l : List Int) (r : Nat) : PCode := ⟨⟨#[109, 97, 105, 110]⟩, 0, 0, (l.length : Int) + r + 2, 0, [mainIs name l r]⟩
def drivenF (all : List PCode) (name : ByteArray) (l : List Int) (r : Nat) (d : List Int) : PProg := ⟨mainF name l r :: all, d⟩

end Go.Proofs.Ytaomlfbcfmmhlaa

/-
  A run's state keeps fitting the program, step by step (pure).
-/
namespace Go.Proofs.Ytaomlfbcfmmhlaa
open Go.RowKit Go.Pst
set_option linter.unusedVariables false
set_option linter.unusedSimpArgs false

/-- A call that fits its program, but for the place at which it stands. -/
structure LevIn (p : PProg) (f : Lev) : Prop where
  fn : f.fn < p.funcs.length
  vl : f.vars.length = (codeAt p f.fn).vars.toNat
  sl : f.slots.length = (codeAt p f.fn).slots.toNat
  iv : ∀ x ∈ f.vars, InI x
  is_ : ∀ x ∈ f.slots, InI x
def blockAt (p : PProg) (f : Lev) : List PInstr := (codeAt p f.fn).blocks.getD f.block []
structure LevOK (p : PProg) (f : Lev) : Prop extends LevIn p f where
  bl : f.block < (codeAt p f.fn).blocks.length
  al : f.at_ < (blockAt p f).length
def Chain (p : PProg) (m : Bool) : List Lev → Prop
  | f :: g :: r => (f.want.length : Int) = (codeAt p f.fn).results ∧ Ins f.want (if m then g.slots.length else g.vars.length) ∧ Chain p m (g :: r)
  | _ => True
structure Fits (p : PProg) (m : Bool) (limit : Int) (s : Mach) : Prop where
  some_ : 0 < s.frames.length ∧ s.frames.length ≤ 40
  levs : ∀ f ∈ s.frames, LevOK p f
  chain : Chain p m s.frames
  words : (∀ x ∈ s.words, InI x) ∧ (s.words.length : Int) ≤ limit
  lines : s.lines.length ≤ 2000

theorem codeAt_mem {p : PProg} {k : Nat} (h : k < p.funcs.length) : codeAt p k ∈ p.funcs := by
  unfold codeAt
  rw [List.getD_eq_getElem?_getD, List.getElem?_eq_getElem h]
  exact List.getElem_mem h
theorem codeAt_eq {p : PProg} {k : Nat} (h : k < p.funcs.length) : codeAt p k = p.funcs[k] := by
  unfold codeAt
  rw [List.getD_eq_getElem?_getD, List.getElem?_eq_getElem h]
  rfl
theorem LevOK.blk {p : PProg} {f : Lev} (h : LevOK p f) : blockAt p f ∈ (codeAt p f.fn).blocks := by
  unfold blockAt
  rw [List.getD_eq_getElem?_getD, List.getElem?_eq_getElem h.bl]
  exact List.getElem_mem h.bl
theorem LevOK.instr {p : PProg} {f : Lev} (h : LevOK p f) : instrAt p f = (blockAt p f)[f.at_]'h.al := by
  show (blockAt p f).getD f.at_ default = _
  rw [List.getD_eq_getElem?_getD, List.getElem?_eq_getElem h.al]
  rfl
/-- What is known of the instruction at hand. -/
theorem LevOK.ok {p : PProg} {m : Bool} {f : Lev} (h : LevOK p f) (hs : Sound p m) :
    InstrOK p.funcs m f.vars.length f.slots.length (codeAt p f.fn).results (codeAt p f.fn).blocks.length (instrAt p f) ∧ (closesF (instrAt p f).op = true ↔ f.at_ + 1 = (blockAt p f).length) := by
  have hc := hs.codes _ (codeAt_mem h.fn)
  obtain ⟨-, -, hi⟩ := hc.blk _ h.blk
  have := hi f.at_ h.al
  rw [← h.instr] at this
  rw [h.vl, h.sl]
  exact this
theorem LevIn.set {p : PProg} {f : Lev} (h : LevIn p f) (k : Nat) {v : Int} (hv : InI v) (b a : Nat) (w : List Int) : LevIn p ⟨f.fn, f.vars.set k v, f.slots, b, a, w⟩ :=
  ⟨h.fn, by simpa using h.vl, h.sl, fun x hx => by rcases List.mem_or_eq_of_mem_set hx with h1 | rfl; exact h.iv x h1; exact hv, h.is_⟩
theorem getI_in {l : List Int} (h : ∀ x ∈ l, InI x) (k : Int) : InI (getI l k) := by
  unfold getI
  rw [List.getD_eq_getElem?_getD]
  cases hk : l[k.toNat]? with
  | none => exact ⟨by decide, by decide⟩
  | some v => exact h v (List.mem_of_getElem? hk)
theorem argsF_in {p : PProg} {m : Bool} {f : Lev} (h : LevIn p f) (i : PInstr) : ∀ x ∈ argsF m f i, InI x := by
  intro x hx
  unfold argsF at hx
  split at hx
  · simp at hx
  · obtain ⟨k, -, rfl⟩ := List.mem_map.1 hx
    apply getI_in
    unfold Lev.src
    split
    · exact h.is_
    · exact h.iv
theorem in_small {x : Int} (h : -100000 ≤ x) (h' : x ≤ 100000) : InI x := ⟨by omega, by omega⟩
theorem putAll_length : ∀ (ds vs l : List Int), (putAll l ds vs).length = l.length
  | [], vs, l => by cases vs <;> rfl
  | d :: ds, [], l => rfl
  | d :: ds, v :: vs, l => by unfold putAll; rw [putAll_length]; simp
theorem putAll_in : ∀ (ds vs l : List Int), (∀ x ∈ l, InI x) → (∀ x ∈ vs, InI x) → ∀ x ∈ putAll l ds vs, InI x
  | [], vs, l, h, _ => by cases vs <;> exact h
  | d :: ds, [], l, h, _ => h
  | d :: ds, v :: vs, l, h, hv => by
    unfold putAll
    refine putAll_in ds vs _ (fun x hx => ?_) (fun x hx => hv x (List.mem_cons_of_mem _ hx))
    rcases List.mem_or_eq_of_mem_set hx with h1 | rfl
    · exact h x h1
    · exact hv _ List.mem_cons_self
theorem wrap64_InI (x : Int) : InI (wrap64 x) := by unfold wrap64 InI; omega
theorem newLev_in {p : PProg} {m : Bool} {k : Nat} {xs want : List Int} (hk : k < p.funcs.length) (hx : ∀ x ∈ xs, InI x) (hl : (xs.length : Int) = (codeAt p k).params) (hr : (codeAt p k).params ≤ if m then (codeAt p k).slots else (codeAt p k).vars) :
    LevIn p (newLev p m k xs want) := by
  have h0 : ∀ n, ∀ x ∈ List.replicate n (0 : Int), InI x := fun n x hx => by rw [List.eq_of_mem_replicate hx]; exact ⟨by decide, by decide⟩
  have h1 : ∀ n, ∀ x ∈ xs ++ (List.replicate n (0 : Int)).drop xs.length, InI x := fun n x hy => by
    rcases List.mem_append.1 hy with h | h
    · exact hx x h
    · exact h0 n x (List.mem_of_mem_drop h)
  cases m
  · simp only [Bool.false_eq_true, if_false] at hr
    exact ⟨hk, by simp [newLev]; omega, by simp [newLev], h1 _, h0 _⟩
  · simp only [if_true] at hr
    exact ⟨hk, by simp [newLev], by simp [newLev]; omega, h0 _, h1 _⟩
theorem Chain.top {p : PProg} {m : Bool} {f0 f : Lev} {r : List Lev} (h : Chain p m (f0 :: r)) (h1 : f.fn = f0.fn) (h2 : f.want = f0.want) : Chain p m (f :: r) := by
  cases r with
  | nil => trivial
  | cons g r => unfold Chain at h ⊢; rw [h1, h2]; exact h
/-- The innermost call goes on. -/
theorem Fits.top {p : PProg} {m : Bool} {limit : Int} {s : Mach} {f0 f : Lev} {r : List Lev} {ws : List Int} {ls : List ByteArray} (h : Fits p m limit s) (hf : s.frames = f0 :: r) (hl : LevOK p f) (h1 : f.fn = f0.fn) (h2 : f.want = f0.want)
    (hw : (∀ x ∈ ws, InI x) ∧ (ws.length : Int) ≤ limit) (hls : ls.length ≤ 2000) : Fits p m limit ⟨ws, ls, f :: r⟩ := by
  have hc := h.chain
  have hs := h.some_
  rw [hf] at hc hs
  exact ⟨by simpa using hs, fun g hg => by
    rcases List.mem_cons.1 hg with rfl | hg
    · exact hl
    · exact h.levs g (by rw [hf]; exact List.mem_cons_of_mem _ hg), hc.top h1 h2, hw, hls⟩
theorem InI_01 (c : Bool) : InI (yesF c) := by cases c <;> exact ⟨by decide, by decide⟩
theorem InI_fst_ite {c : Prop} [Decidable c] {x y : Int × Int} (hx : InI x.1) (hy : InI y.1) : InI (if c then x else y).1 := by split <;> assumption
theorem sumF_in {s : ByteArray} {a b : Int} (ha : InI a) (hb : InI b) : InI (sumF s a b).1 := by
  unfold sumF
  repeat' apply InI_fst_ite
  all_goals first | exact wrap64_InI _ | exact InI_01 _ | exact ⟨by decide, by decide⟩ | skip
  · show InI (if b = -1 then wrap64 (-a) else wrap64 (a.tdiv b))
    split <;> exact wrap64_InI _
  · show InI (if b = -1 then 0 else a.tmod b)
    split
    · exact ⟨by decide, by decide⟩
    · by_cases hz : b = 0
      · subst hz
        rw [Int.tmod_zero]
        exact ha
      · exact tmod_in hb hz
theorem placeF_range {a n : Int} {len : Nat} : -1 ≤ placeF a n len ∧ placeF a n len ≤ (len : Int) - 1 ∨ placeF a n len = -1 := by
  unfold placeF
  repeat' split
  all_goals omega
theorem takeF_in {n limit : Int} {ws : List Int} (h : ∀ x ∈ ws, InI x) (hl : (ws.length : Int) ≤ limit) (hm : limit ≤ 20000) : InI (takeF n limit ws).1 ∧ (∀ x ∈ (takeF n limit ws).2, InI x) ∧ ((takeF n limit ws).2.length : Int) ≤ limit := by
  unfold takeF
  split
  · exact ⟨in_small (by simp only []; omega) (by simp only []; omega), h, hl⟩
  split
  · exact ⟨in_small (by simp only []; omega) (by simp only []; omega), h, hl⟩
  · refine ⟨in_small (by simp only []; omega) (by simp only []; omega), fun x hx => ?_, by simp; omega⟩
    rcases List.mem_append.1 hx with h1 | h1
    · exact h x h1
    · rw [List.eq_of_mem_replicate h1]
      exact ⟨by decide, by decide⟩
theorem sayF_lines {s : ByteArray} {a b : Int} {ws : List Int} {ls : List ByteArray} (h : ls.length ≤ 2000) : (sayF s a b ws ls).2.length ≤ 2000 := by
  unfold sayF
  split
  · exact h
  split
  · simp; omega
  · exact h

theorem stepF_fits {p : PProg} {m : Bool} {limit : Int} {s : Mach} (hs : Sound p m) (hn : ∀ f, LevOK p f → InI (instrAt p f).n) (hm : limit ≤ 20000) (h : Fits p m limit s) (h0 : (stepF p m limit s).1 = 0) : Fits p m limit (stepF p m limit s).2 := by
  obtain ⟨f0, r, hf⟩ : ∃ f0 r, s.frames = f0 :: r := by
    cases hx : s.frames with
    | nil => have := h.some_; rw [hx] at this; simp at this
    | cons f0 r => exact ⟨f0, r, rfl⟩
  have hl := h.levs f0 (by rw [hf]; exact List.mem_cons_self)
  obtain ⟨hi, hc⟩ := hl.ok hs
  have hin := hn f0 hl
  have hargs := fun k => getI_in (argsF_in (m := m) hl.toLevIn (instrAt p f0)) k
  have hargs' := argsF_in (m := m) hl.toLevIn (instrAt p f0)
  unfold stepF at h0 ⊢
  rw [hf] at h0 ⊢
  simp only [] at h0 ⊢
  have hal := hl.al
  generalize hI : instrAt p f0 = i at *
  generalize hX : argsF m f0 i = xs at *
  have nclose : ¬ closesF i.op = true → f0.at_ + 1 < (blockAt p f0).length := fun hh => by
    have : ¬ f0.at_ + 1 = (blockAt p f0).length := fun e => hh (hc.2 e)
    omega
  have next : f0.at_ + 1 < (blockAt p f0).length → LevOK p { f0 with at_ := f0.at_ + 1 } := fun hh => ⟨⟨hl.fn, hl.vl, hl.sl, hl.iv, hl.is_⟩, hl.bl, hh⟩
  have sets : ∀ v, InI v → f0.at_ + 1 < (blockAt p f0).length → LevOK p (Lev.setV { f0 with at_ := f0.at_ + 1 } i v) := fun v hv hh => ⟨hl.toLevIn.set _ hv _ _ _, hl.bl, hh⟩
  have goto : ∀ t : Int, 0 ≤ t → t < (codeAt p f0.fn).blocks.length → LevOK p (Lev.goto { f0 with at_ := f0.at_ + 1 } t) := fun t h0 h1 => by
    have hb : t.toNat < (codeAt p f0.fn).blocks.length := by omega
    refine ⟨⟨hl.fn, hl.vl, hl.sl, hl.iv, hl.is_⟩, hb, ?_⟩
    show 0 < ((codeAt p f0.fn).blocks.getD t.toNat []).length
    have := ((hs.codes _ (codeAt_mem hl.fn)).blk ((codeAt p f0.fn).blocks.getD t.toNat []) (by rw [List.getD_eq_getElem?_getD, List.getElem?_eq_getElem hb]; exact List.getElem_mem hb)).1
    omega
  have op_of : ∀ k : Int, i.op = k → closesF i.op = (decide (9 ≤ k) && decide (k ≤ 13)) := fun k e => by rw [e]; rfl
  rcases hi with ⟨e, d, hd, hd', ha⟩ | ⟨e, d, a, hd, hd', ha, ha'⟩ | ⟨e, hss, d, a, b, hd, hd', ha, ha', hb'⟩ | ⟨e, d, a, hd, hd', ha, ha'⟩ | ⟨e, a, b, ha, ha', hb'⟩ | ⟨e, d, a, hd, hd', ha, ha'⟩ | ⟨e, k, g, hk, hg, hp, hr, ia, id⟩ | ⟨e, hsh⟩ | ⟨e, ha, t, ht, ht'⟩ | ⟨e, a, t, u, ha, ha', ht, ht', hu'⟩ | ⟨e, ⟨a, ha, ha'⟩, ht, ht'⟩ | ⟨e, hr, ia⟩ | ⟨e, ha, n1, n2⟩ | ⟨em, e, ha, d, n, hd, hd', hn1, hn2⟩ | ⟨em, e, a, n, ha, ha', hn1, hn2⟩
  all_goals simp only [e, reduceIte, if_true, if_false, Int.reduceEq] at h0 ⊢
  all_goals have hop := op_of _ e
  · have nx := nclose (by rw [hop]; decide)
    exact h.top hf (sets _ hin nx) rfl rfl h.words h.lines
  · have nx := nclose (by rw [hop]; decide)
    exact h.top hf (sets _ (hargs _) nx) rfl rfl h.words h.lines
  · have nx := nclose (by rw [hop]; decide)
    by_cases c : (sumF i.s (getI xs 0) (getI xs 1)).2 = 0
    · rw [if_pos c]
      exact h.top hf (sets _ (sumF_in (hargs _) (hargs _)) nx) rfl rfl h.words h.lines
    · rw [if_neg c] at h0
      exact absurd h0 c
  · have nx := nclose (by rw [hop]; decide)
    by_cases c : placeF (getI xs 0) i.n s.words.length < 0
    · rw [if_pos c] at h0
      exact absurd h0 (by simp)
    · rw [if_neg c]
      exact h.top hf (sets _ (getI_in h.words.1 _) nx) rfl rfl h.words h.lines
  · have nx := nclose (by rw [hop]; decide)
    by_cases c : placeF (getI xs 0) i.n s.words.length < 0
    · rw [if_pos c] at h0
      exact absurd h0 (by simp)
    · rw [if_neg c]
      refine h.top hf (next nx) rfl rfl ⟨fun x hx => ?_, by simpa using h.words.2⟩ h.lines
      rcases List.mem_or_eq_of_mem_set hx with h1 | rfl
      · exact h.words.1 x h1
      · exact hargs _
  · have nx := nclose (by rw [hop]; decide)
    have ht := takeF_in (n := getI xs 0) h.words.1 h.words.2 hm
    by_cases c : (takeF (getI xs 0) limit s.words).1 = -1
    · rw [if_pos c] at h0
      exact absurd h0 (by simp)
    rw [if_neg c] at h0 ⊢
    by_cases c : (takeF (getI xs 0) limit s.words).1 = -2
    · rw [if_pos c] at h0
      exact absurd h0 (by simp)
    rw [if_neg c]
    exact h.top hf (sets _ ht.1 nx) rfl rfl ht.2 h.lines
  · have nx := nclose (by rw [hop]; decide)
    by_cases c : 40 ≤ (f0 :: r).length
    · rw [if_pos c] at h0
      exact absurd h0 (by simp)
    rw [if_neg c]
    have hk' : (nameAt i.s p.funcs).toNat = k := by rw [hk]; rfl
    rw [hk']
    have hkl : k < p.funcs.length := (List.getElem?_eq_some_iff.1 hg).1
    have hgk : codeAt p k = g := by rw [codeAt_eq hkl]; exact (List.getElem?_eq_some_iff.1 hg).2
    have hco := hs.codes _ (codeAt_mem hkl)
    have hxl : xs.length = i.ars.length := by rw [← hX]; unfold argsF; rw [if_neg (by omega)]; simp
    refine ⟨?_, ?_, ?_, h.words, h.lines⟩
    · simp at c ⊢
      omega
    · intro f hf'
      rcases List.mem_cons.1 hf' with rfl | hf'
      · refine ⟨newLev_in hkl hargs' (by rw [hxl, hgk]; exact hp) hco.room, hco.nb.1, ?_⟩
        show 0 < ((codeAt p k).blocks.getD 0 []).length
        have := (hco.blk ((codeAt p k).blocks.getD 0 []) (by rw [List.getD_eq_getElem?_getD, List.getElem?_eq_getElem hco.nb.1]; exact List.getElem_mem hco.nb.1)).1
        omega
      rcases List.mem_cons.1 hf' with rfl | hf'
      · exact next nx
      · exact h.levs f (by rw [hf]; exact List.mem_cons_of_mem _ hf')
    · refine ⟨?_, ?_, ?_⟩
      · show (i.ds.length : Int) = (codeAt p k).results
        rw [hgk]; exact hr
      · cases m
        · simpa [newLev] using id
        · simpa [newLev] using id
      · have := h.chain
        rw [hf] at this
        exact this.top rfl rfl
  · have nx := nclose (by rw [hop]; decide)
    exact h.top hf (next nx) rfl rfl h.words (sayF_lines h.lines)
  · refine h.top hf (goto _ ?_ ?_) rfl rfl h.words h.lines
    · rw [ht]; simp [getI]
    · rw [ht]; simp [getI]; exact ht'
  · refine h.top hf (goto _ ?_ ?_) rfl rfl h.words h.lines
    · rw [ht]
      cases (getI xs 0 == 0) <;> simp [getI, yesF]
    · rw [ht]
      cases (getI xs 0 == 0)
      · simp [getI, yesF]; exact ht'
      · simp [getI, yesF]; exact hu'
  · have hin : ∀ k : Int, 0 ≤ k → k < i.to.length → 0 ≤ getI i.to k ∧ getI i.to k < (codeAt p f0.fn).blocks.length := fun k h0 h1 => by
      have hb : k.toNat < i.to.length := by omega
      unfold getI
      rw [List.getD_eq_getElem?_getD, List.getElem?_eq_getElem hb]
      exact ht' _ (List.getElem_mem hb)
    have hin2 : 0 ≤ (if 0 ≤ getI xs 0 ∧ getI xs 0 ≤ i.to.length - 1 then getI i.to (getI xs 0) else getI i.to (i.to.length - 1)) ∧ (if 0 ≤ getI xs 0 ∧ getI xs 0 ≤ i.to.length - 1 then getI i.to (getI xs 0) else getI i.to (i.to.length - 1)) < (codeAt p f0.fn).blocks.length := by
      split
      · exact hin _ (by omega) (by omega)
      · exact hin _ (by omega) (by omega)
    exact h.top hf (goto _ hin2.1 hin2.2) rfl rfl h.words h.lines
  · cases r with
    | nil => exact absurd h0 (by simp)
    | cons g r' =>
      simp only []
      have hg := h.levs g (by rw [hf]; simp)
      have hch := h.chain
      have hso := h.some_
      rw [hf] at hch hso
      refine ⟨by simp at hso ⊢; omega, ?_, ?_, h.words, h.lines⟩
      · intro f hf'
        rcases List.mem_cons.1 hf' with rfl | hf'
        · unfold Lev.put
          cases m
          · exact ⟨⟨hg.fn, by simp only [Bool.false_eq_true, if_false, putAll_length]; exact hg.vl, hg.sl, putAll_in _ _ _ hg.iv hargs', hg.is_⟩, hg.bl, hg.al⟩
          · exact ⟨⟨hg.fn, hg.vl, by simp only [if_true, putAll_length]; exact hg.sl, hg.iv, putAll_in _ _ _ hg.is_ hargs'⟩, hg.bl, hg.al⟩
        · exact h.levs f (by rw [hf]; simp [hf'])
      · have := hch.2.2
        unfold Lev.put
        cases m
        · exact this.top rfl rfl
        · exact this.top rfl rfl
  · omega
  · have nx := nclose (by rw [hop]; decide)
    exact h.top hf (sets _ (getI_in hl.is_ _) nx) rfl rfl h.words h.lines
  · have nx := nclose (by rw [hop]; decide)
    refine h.top hf ?_ rfl rfl h.words h.lines
    refine ⟨⟨hl.fn, hl.vl, by simpa using hl.sl, hl.iv, fun x hx => ?_⟩, hl.bl, nx⟩
    rcases List.mem_or_eq_of_mem_set hx with h1 | rfl
    · exact hl.is_ x h1
    · exact hargs _
end Go.Proofs.Ytaomlfbcfmmhlaa

/-
  The reference's run in memory: its program, its scene, its calls; what a store, an append, a call leaves of it.
-/
namespace Go.Proofs.Ytaomlfbcfmmhlaa
open Go.RowKit Go.Pst
set_option linter.unusedVariables false
set_option linter.unusedSimpArgs false

/-- What a block is for. -/
inductive Lab where
  | p | r | s | w | l | c
  | v (i : Nat)
  | t (i : Nat)
  deriving DecidableEq
structure LA where
  gv : Nat
  gs : Nat
  vw : Value
abbrev intRow (w : World) (base g : Nat) (l : List Int) : Prop := w.ownsRow base 3 1 (.slice (some ⟨g, 0, none⟩) l.length l.length) l.length (l.map (Value.int .i64))
def levCells (f : Lev) (a : LA) : List Value := [.int .i64 f.fn, .slice (some ⟨a.gv, 0, none⟩) f.vars.length f.vars.length, .slice (some ⟨a.gs, 0, none⟩) f.slots.length f.slots.length, .int .i64 f.block, .int .i64 f.at_, a.vw]
def rowCells : List (Lev × LA) → List Value
  | [] => []
  | x :: r => rowCells r ++ levCells x.1 x.2
theorem rowCells_length : ∀ fr : List (Lev × LA), (rowCells fr).length = fr.length * 6
  | [] => rfl
  | x :: r => by simp [rowCells, rowCells_length r, levCells]; omega
structure LevAt (ρ : Nat → Option Lab) (w : World) (base i : Nat) (f : Lev) (a : LA) : Prop where
  lv : ρ a.gv = some (.v i)
  lt : ρ a.gs = some (.t i)
  vars : intRow w base a.gv f.vars
  slots : intRow w base a.gs f.slots
  want : rInts (· < base) w [a.vw] f.want
def LevsAt (ρ : Nat → Option Lab) (w : World) (base : Nat) : List (Lev × LA) → Prop
  | [] => True
  | x :: r => LevAt ρ w base r.length x.1 x.2 ∧ LevsAt ρ w base r
/-- The world in which all began. -/
class Old where
  w0 : World
structure RunAt [Old] (ρ : Nat → Option Lab) (w : World) (base bp br bs : Nat) (v0 v1 vW vL vC : Value) (p : PProg) (limit : Int) (words : List Int) (lines : List ByteArray) (fr : List (Lev × LA)) : Prop where
  prog : rProg (· < base) w [v0, v1] p
  p0 : w.cell? ⟨bp, 0, none⟩ = some v0
  p1 : w.cell? ⟨bp, 1, none⟩ = some v1
  r0 : w.cell? ⟨br, 0, none⟩ = some (.slice none 0 0)
  r1 : w.cell? ⟨br, 1, none⟩ = some (.int .i64 0)
  rf0 : w.frozen? ⟨br, 0, none⟩ = false
  rf1 : w.frozen? ⟨br, 1, none⟩ = false
  lp : ρ bp = some .p ∧ bp < w.heap.size
  lr : ρ br = some .r ∧ br < w.heap.size
  ls : ρ bs = some .s
  lw : ∀ k, vW.ownBlock = some k → ρ k = some .w
  ll : ∀ k, vL.ownBlock = some k → ρ k = some .l
  lc : ∀ k, vC.ownBlock = some k → ρ k = some .c
  scene : SceneAt w base bs vW vL words limit lines
  row : w.ownsRow base 83 6 vC fr.length (rowCells fr)
  levs : LevsAt ρ w base fr
  big : base ≤ w.heap.size
  below : Below base Old.w0 w

theorem row_get {w : World} {base n sz : Nat} {e : TypeId} {v : Value} {xs : List Value} (h : w.ownsRow base e sz v n xs) {i : Nat} {u : Value} (hi : xs[i]? = some u) :
    ∃ g cap, v = .slice (some ⟨g, 0, none⟩) n cap ∧ v.ownBlock = some g ∧ base ≤ g ∧ g < w.heap.size ∧ w.cell? ⟨g, i, none⟩ = some u ∧ w.frozen? ⟨g, i, none⟩ = false := by
  rcases h.2 with ⟨rfl, rfl⟩ | ⟨g, cap, cur, rfl, hb, hg, h1, h2, h3, h4⟩
  · have := h.1
    simp at this
    subst this
    simp at hi
  · refine ⟨g, cap, rfl, rfl, hb, (Array.getElem?_eq_some_iff.1 hg).1, ?_, ?_⟩
    · rw [← h4, List.getElem?_take] at hi
      split at hi
      · simp [World.cell?, hg]; simpa using hi
      · simp at hi
    · simp [World.frozen?, hg]
theorem row_put {w : World} {base n sz : Nat} {e : TypeId} {g cap : Nat} {xs : List Value} (h : w.ownsRow base e sz (.slice (some ⟨g, 0, none⟩) n cap) n xs) (i : Nat) (u : Value) :
    (w.setCell ⟨g, i, none⟩ u).ownsRow base e sz (.slice (some ⟨g, 0, none⟩) n cap) n (xs.set i u) := by
  refine ⟨by simpa using h.1, Or.inr ?_⟩
  rcases h.2 with ⟨h0, _⟩ | ⟨g', cap', cur, hv, hb, hg, h1, h2, h3, h4⟩
  · simp at h0
  · obtain ⟨rfl, rfl⟩ : g = g' ∧ cap = cap' := by simpa using hv
    refine ⟨g, cap, cur.setIfInBounds i u, rfl, hb, ?_, h1, h2, by simpa using h3, ?_⟩
    · simp only [World.setCell, Array.getElem?_modify, hg, Option.map_some]
      simp
    · rw [Array.toList_setIfInBounds, List.take_set, h4]
/-- A shorter slice of an owned row. -/
theorem row_short {w : World} {base n m sz : Nat} {e : TypeId} {g cap : Nat} {xs : List Value} (h : w.ownsRow base e sz (.slice (some ⟨g, 0, none⟩) n cap) n xs) (hm : m ≤ n) :
    w.ownsRow base e sz (.slice (some ⟨g, 0, none⟩) m cap) m (xs.take (m * sz)) := by
  have hmul : m * sz ≤ n * sz := Nat.mul_le_mul_right _ hm
  refine ⟨by rw [List.length_take, h.1]; omega, Or.inr ?_⟩
  rcases h.2 with ⟨h0, _⟩ | ⟨g', cap', cur, hv, hb, hg, h1, h2, h3, h4⟩
  · simp at h0
  · obtain ⟨rfl, rfl⟩ : g = g' ∧ cap = cap' := by simpa using hv
    refine ⟨g, cap, cur, rfl, hb, hg, by omega, h2, h3, ?_⟩
    rw [← h4, List.take_take]
    congr 1
    omega

theorem LevAt.since {ρ : Nat → Option Lab} {w w' : World} {base i : Nat} {f : Lev} {a : LA} {F : Nat → Prop} (h : LevAt ρ w base i f a) (hs : Since F w w') (hB : ∀ k, F k → base ≤ k) (h1 : ¬ F a.gv) (h2 : ¬ F a.gs) : LevAt ρ w' base i f a :=
  ⟨h.lv, h.lt, hs.row h.vars (fun k hk e => h1 (by simp [Value.ownBlock] at hk; exact hk ▸ e)), hs.row h.slots (fun k hk e => h2 (by simp [Value.ownBlock] at hk; exact hk ▸ e)),
    Good.kept ((hs.keep).weaken (fun k _ hk e => absurd (hB k e) (by omega))) h.want⟩
theorem LevsAt.since {ρ : Nat → Option Lab} {w w' : World} {base : Nat} {F : Nat → Prop} (hs : Since F w w') (hB : ∀ k, F k → base ≤ k) : ∀ {fr : List (Lev × LA)}, LevsAt ρ w base fr → (∀ k i, F k → i < fr.length → ρ k ≠ some (.v i) ∧ ρ k ≠ some (.t i)) → LevsAt ρ w' base fr
  | [], _, _ => trivial
  | x :: r, h, hF => ⟨h.1.since hs hB (fun e => (hF _ _ e (by simp)).1 h.1.lv) (fun e => (hF _ _ e (by simp)).2 h.1.lt), LevsAt.since hs hB h.2 (fun k i hk hi => hF k i hk (by simp; omega))⟩
theorem LevsAt.label {ρ ρ' : Nat → Option Lab} {w : World} {base : Nat} (hρ : ∀ k, k < w.heap.size → ρ' k = ρ k) : ∀ {fr : List (Lev × LA)}, LevsAt ρ w base fr → LevsAt ρ' w base fr
  | [], _ => trivial
  | x :: r, h => by
    have hv : x.2.gv < w.heap.size := (h.1.vars.lt _ rfl).2
    have ht : x.2.gs < w.heap.size := (h.1.slots.lt _ rfl).2
    exact ⟨⟨by rw [hρ _ hv]; exact h.1.lv, by rw [hρ _ ht]; exact h.1.lt, h.1.vars, h.1.slots, h.1.want⟩, LevsAt.label hρ h.2⟩

def zeros (n : Nat) : Array Value := madeCells #[.int .i64 0] n
theorem make_ints (n : Nat) (h : n ≤ 100000) (w : World) : (Instr.makeSlice 25 (.int .i64 n) (.int .i64 n)).run Try.prog w = .ok (.slice (some ⟨w.heap.size, 0, none⟩) n n) (w.alloc (.cells (zeros n) 3)) := by
  obtain ⟨i0, hi, hz0, hz1, hz2⟩ := info_parts info_int
  have := run_make (P := Try.prog) w 25 3 i0 (.int .i64 0) Try.underlying25 hi hz0 .i64 .i64 n n (by omega) (Int.le_refl _) (by rw [hz2]; omega) (by omega)
  rw [hz1] at this
  simpa [zeros, Value.cells] using this
theorem zeros_row {w : World} {base g n : Nat} (hg : w.heap[g]? = some (.cells (zeros n) 3)) (hb : base ≤ g) (hn : n ≤ 100000) : intRow w base g (List.replicate n 0) := by
  refine ⟨by simp, Or.inr ⟨g, n, zeros n, by simp, hb, hg, by simp, by unfold maxLen; omega, by simp [zeros, size_madeCells], ?_⟩⟩
  unfold zeros
  rw [toList_madeCells_one]
  simp
theorem heap3 (w : World) (a b c : Obj) : (((w.alloc a).alloc b).alloc c).drew.heap[w.heap.size]? = some a ∧ (((w.alloc a).alloc b).alloc c).drew.heap[w.heap.size + 1]? = some b ∧ (((w.alloc a).alloc b).alloc c).drew.heap[w.heap.size + 1 + 1]? = some c ∧ Since (fun _ => False) w (((w.alloc a).alloc b).alloc c).drew := by
  refine ⟨?_, ?_, ?_, ((((Since.alloc _ _ _).trans (Since.alloc _ _ _)).trans (Since.alloc _ _ _)).trans (Since.drew _ _))⟩
  · show (((w.alloc a).alloc b).alloc c).heap[w.heap.size]? = some a
    rw [Below.heap_alloc _ _ _ (by simp; omega), Below.heap_alloc _ _ _ (by simp), heap_alloc_new]
  · show (((w.alloc a).alloc b).alloc c).heap[w.heap.size + 1]? = some b
    rw [Below.heap_alloc _ _ _ (by simp)]
    have := heap_alloc_new (w.alloc a) b
    simpa using this
  · show (((w.alloc a).alloc b).alloc c).heap[w.heap.size + 1 + 1]? = some c
    have := heap_alloc_new ((w.alloc a).alloc b) c
    simpa using this
theorem froz3_2 (w : World) (o1 o3 : Obj) (A : Array Value) (t : TypeId) (j : Nat) : (((w.alloc o1).alloc (.cells A t)).alloc o3).frozen? ⟨w.heap.size + 1, j, none⟩ = false := by
  rw [World.frozen?_alloc_past _ _ _ (by simp), World.frozen?_alloc_at _ _ _ _ (by simp)]
theorem froz3_3 (w : World) (o1 o2 : Obj) (A : Array Value) (t : TypeId) (j : Nat) : (((w.alloc o1).alloc o2).alloc (.cells A t)).frozen? ⟨w.heap.size + 1 + 1, j, none⟩ = false := by
  rw [World.frozen?_alloc_at _ _ _ _ (by simp)]
theorem RunAt.set_lev {r : List (Lev × LA)} {f f' : Lev} {a : LA} {j : Nat} {u : Value} (h : (levCells f a).set j u = levCells f' a) : (rowCells r ++ levCells f a).set (r.length * 6 + j) u = rowCells r ++ levCells f' a := by
  rw [List.set_append_right _ _ (by rw [rowCells_length]; omega), rowCells_length, Nat.add_sub_cancel_left, h]
namespace RunAt
variable [Old] {ρ : Nat → Option Lab} {w w' : World} {base bp br bs : Nat} {v0 v1 vW vL vC : Value} {p : PProg} {limit : Int} {words : List Int} {lines : List ByteArray} {fr : List (Lev × LA)} {F : Nat → Prop}

/-- Other labels for blocks that are not there yet. -/
theorem label {ρ' : Nat → Option Lab} (h : RunAt ρ w base bp br bs v0 v1 vW vL vC p limit words lines fr) (hρ : ∀ k, k < w.heap.size → ρ' k = ρ k) : RunAt ρ' w base bp br bs v0 v1 vW vL vC p limit words lines fr :=
  { h with
    lp := ⟨by rw [hρ _ h.lp.2]; exact h.lp.1, h.lp.2⟩
    lr := ⟨by rw [hρ _ h.lr.2]; exact h.lr.1, h.lr.2⟩
    ls := by rw [hρ _ h.scene.lt.2]; exact h.ls
    lw := fun k hk => by rw [hρ _ (h.scene.oW.lt k hk).2]; exact h.lw k hk
    ll := fun k hk => by rw [hρ _ (h.scene.oL.lt k hk).2]; exact h.ll k hk
    lc := fun k hk => by rw [hρ _ (h.row.lt k hk).2]; exact h.lc k hk
    levs := h.levs.label hρ }

/-- The parts that a change of blocks of some labels leaves; the scene, the row, the calls are given anew. -/
theorem upd (h : RunAt ρ w base bp br bs v0 v1 vW vL vC p limit words lines fr) {vW' vL' vC' : Value} {words' : List Int} {lines' : List ByteArray} {fr' : List (Lev × LA)}
    (hs : Since F w w') (hB : ∀ k, F k → base ≤ k) (hF : ∀ k, F k → ρ k ≠ some .p ∧ ρ k ≠ some .r)
    (sc : SceneAt w' base bs vW' vL' words' limit lines') (rw' : w'.ownsRow base 83 6 vC' fr'.length (rowCells fr')) (lv : LevsAt ρ w' base fr')
    (lw : ∀ k, vW'.ownBlock = some k → ρ k = some .w) (ll : ∀ k, vL'.ownBlock = some k → ρ k = some .l) (lc : ∀ k, vC'.ownBlock = some k → ρ k = some .c) :
    RunAt ρ w' base bp br bs v0 v1 vW' vL' vC' p limit words' lines' fr' :=
  have np : ¬ F bp := fun e => (hF _ e).1 h.lp.1
  have nr : ¬ F br := fun e => (hF _ e).2 h.lr.1
  { prog := Good.kept ((hs.keep).weaken (fun k _ hk e => absurd (hB k e) (by omega))) h.prog
    p0 := (hs.cell h.lp.2 np).trans h.p0
    p1 := (hs.cell h.lp.2 np).trans h.p1
    r0 := (hs.cell h.lr.2 nr).trans h.r0
    r1 := (hs.cell h.lr.2 nr).trans h.r1
    rf0 := (hs.frozen h.lr.2 nr).trans h.rf0
    rf1 := (hs.frozen h.lr.2 nr).trans h.rf1
    lp := ⟨h.lp.1, Nat.lt_of_lt_of_le h.lp.2 hs.size⟩
    lr := ⟨h.lr.1, Nat.lt_of_lt_of_le h.lr.2 hs.size⟩
    ls := h.ls
    lw := lw
    ll := ll
    lc := lc
    scene := sc
    row := rw'
    levs := lv
    big := Nat.le_trans h.big hs.size
    below := h.below.trans (hs.below h.big hB) }

theorem sceneS (h : RunAt ρ w base bp br bs v0 v1 vW vL vC p limit words lines fr) (hs : Since F w w') (hF : ∀ k, F k → ρ k ≠ some .s ∧ ρ k ≠ some .w ∧ ρ k ≠ some .l) : SceneAt w' base bs vW vL words limit lines :=
  h.scene.since hs (fun e => (hF _ e).1 h.ls) (fun k hk e => (hF k e).2.1 (h.lw k hk)) (fun k hk e => (hF k e).2.2 (h.ll k hk))
theorem rowS (h : RunAt ρ w base bp br bs v0 v1 vW vL vC p limit words lines fr) (hs : Since F w w') (hF : ∀ k, F k → ρ k ≠ some .c) : w'.ownsRow base 83 6 vC fr.length (rowCells fr) :=
  hs.row h.row (fun k hk e => hF k e (h.lc k hk))

/-- Only new blocks. -/
theorem since (h : RunAt ρ w base bp br bs v0 v1 vW vL vC p limit words lines fr) (hs : Since (fun _ => False) w w') : RunAt ρ w' base bp br bs v0 v1 vW vL vC p limit words lines fr :=
  h.upd hs (fun _ e => e.elim) (fun _ e => e.elim) (h.sceneS hs (fun _ e => e.elim)) (h.rowS hs (fun _ e => e.elim)) (LevsAt.since hs (fun _ e => e.elim) h.levs (fun _ _ e => e.elim)) h.lw h.ll h.lc

/-- Blocks without a label were written. -/
theorem sinceN (h : RunAt ρ w base bp br bs v0 v1 vW vL vC p limit words lines fr) (hs : Since F w w') (hN : ∀ k, F k → ρ k = none) (hB : ∀ k, F k → base ≤ k) : RunAt ρ w' base bp br bs v0 v1 vW vL vC p limit words lines fr :=
  h.upd hs hB (fun k e => by rw [hN k e]; simp) (h.sceneS hs (fun k e => by rw [hN k e]; simp)) (h.rowS hs (fun k e => by rw [hN k e]; simp)) (LevsAt.since hs hB h.levs (fun k i e _ => by rw [hN k e]; simp)) h.lw h.ll h.lc

/-- A variable of the innermost call is set. -/
theorem setV {f : Lev} {a : LA} {r : List (Lev × LA)} (h : RunAt ρ w base bp br bs v0 v1 vW vL vC p limit words lines ((f, a) :: r)) (d : Nat) (x : Int) :
    RunAt ρ (w.setCell ⟨a.gv, d, none⟩ (.int .i64 x)) base bp br bs v0 v1 vW vL vC p limit words lines (({ f with vars := f.vars.set d x }, a) :: r) := by
  have hs := Since.setCell w ⟨a.gv, d, none⟩ (.int .i64 x)
  have hlv := h.levs.1.lv
  have hB : ∀ k, k = a.gv → base ≤ k := fun k e => by rw [e]; exact (h.levs.1.vars.lt _ rfl).1
  refine h.upd hs hB (fun k e => ?_) (h.sceneS hs (fun k e => ?_)) ?_ ⟨⟨hlv, h.levs.1.lt, ?_, ?_, ?_⟩, LevsAt.since hs hB h.levs.2 (fun k i e hi => ?_)⟩ h.lw h.ll h.lc
  · rw [show k = a.gv from e, hlv]; simp
  · rw [show k = a.gv from e, hlv]; simp
  · have := h.rowS hs (fun k e => by rw [show k = a.gv from e, hlv]; simp)
    simpa [rowCells, levCells] using this
  · have := row_put h.levs.1.vars d (.int .i64 x)
    simpa [intRow] using this
  · refine hs.row h.levs.1.slots (fun k hk e => ?_)
    have h1 : a.gs = k := by simpa [Value.ownBlock] using hk
    have := h.levs.1.lt
    rw [h1, show k = a.gv from e, hlv] at this
    simp at this
  · exact Good.kept ((hs.keep).weaken (fun k _ hk e => absurd (hB k e) (by omega))) h.levs.1.want
  · rw [show k = a.gv from e, hlv]
    simp
    omega
/-- A slot of it. -/
theorem setS {f : Lev} {a : LA} {r : List (Lev × LA)} (h : RunAt ρ w base bp br bs v0 v1 vW vL vC p limit words lines ((f, a) :: r)) (d : Nat) (x : Int) :
    RunAt ρ (w.setCell ⟨a.gs, d, none⟩ (.int .i64 x)) base bp br bs v0 v1 vW vL vC p limit words lines (({ f with slots := f.slots.set d x }, a) :: r) := by
  have hs := Since.setCell w ⟨a.gs, d, none⟩ (.int .i64 x)
  have hlv := h.levs.1.lt
  have hB : ∀ k, k = a.gs → base ≤ k := fun k e => by rw [e]; exact (h.levs.1.slots.lt _ rfl).1
  refine h.upd hs hB (fun k e => ?_) (h.sceneS hs (fun k e => ?_)) ?_ ⟨⟨h.levs.1.lv, hlv, ?_, ?_, ?_⟩, LevsAt.since hs hB h.levs.2 (fun k i e hi => ?_)⟩ h.lw h.ll h.lc
  · rw [show k = a.gs from e, hlv]; simp
  · rw [show k = a.gs from e, hlv]; simp
  · have := h.rowS hs (fun k e => by rw [show k = a.gs from e, hlv]; simp)
    simpa [rowCells, levCells] using this
  · refine hs.row h.levs.1.vars (fun k hk e => ?_)
    have h1 : a.gv = k := by simpa [Value.ownBlock] using hk
    have := h.levs.1.lv
    rw [h1, show k = a.gs from e, hlv] at this
    simp at this
  · have := row_put h.levs.1.slots d (.int .i64 x)
    simpa [intRow] using this
  · exact Good.kept ((hs.keep).weaken (fun k _ hk e => absurd (hB k e) (by omega))) h.levs.1.want
  · rw [show k = a.gs from e, hlv]
    simp
    omega
/-- Where it stands. -/
theorem setC {f f' : Lev} {a : LA} {r : List (Lev × LA)} {g cap : Nat} (h : RunAt ρ w base bp br bs v0 v1 vW vL (.slice (some ⟨g, 0, none⟩) (r.length + 1) cap) p limit words lines ((f, a) :: r)) (j : Nat) (u : Value)
    (h1 : f'.vars = f.vars) (h2 : f'.slots = f.slots) (h3 : f'.want = f.want) (hj : (rowCells r ++ levCells f a).set j u = rowCells r ++ levCells f' a) :
    RunAt ρ (w.setCell ⟨g, j, none⟩ u) base bp br bs v0 v1 vW vL (.slice (some ⟨g, 0, none⟩) (r.length + 1) cap) p limit words lines ((f', a) :: r) := by
  have hs := Since.setCell w ⟨g, j, none⟩ u
  have hlc := h.lc g rfl
  have hB : ∀ k, k = g → base ≤ k := fun k e => by rw [e]; exact (h.row.lt _ rfl).1
  have hlev := LevsAt.since hs hB h.levs (fun k i e hi => by rw [show k = g from e, hlc]; simp)
  refine h.upd hs hB (fun k e => ?_) (h.sceneS hs (fun k e => ?_)) ?_ ⟨⟨hlev.1.lv, hlev.1.lt, ?_, ?_, ?_⟩, hlev.2⟩ h.lw h.ll h.lc
  · rw [show k = g from e, hlc]; simp
  · rw [show k = g from e, hlc]; simp
  · have := row_put h.row j u
    show World.ownsRow _ base _ 6 _ _ (rowCells r ++ levCells f' a)
    rw [← hj]
    exact this
  · rw [h1]; exact hlev.1.vars
  · rw [h2]; exact hlev.1.slots
  · rw [h3]; exact hlev.1.want
/-- A cell of the innermost call. -/
theorem get {f : Lev} {a : LA} {r : List (Lev × LA)} (h : RunAt ρ w base bp br bs v0 v1 vW vL vC p limit words lines ((f, a) :: r)) :
    ∃ g cap, vC = .slice (some ⟨g, 0, none⟩) (r.length + 1) cap ∧ r.length + 1 ≤ cap ∧ base ≤ g ∧ g < w.heap.size ∧ (∀ j u, (levCells f a)[j]? = some u → w.cell? ⟨g, r.length * 6 + j, none⟩ = some u ∧ w.frozen? ⟨g, r.length * 6 + j, none⟩ = false) := by
  have hj : ∀ j u, (levCells f a)[j]? = some u → (rowCells ((f, a) :: r))[r.length * 6 + j]? = some u := fun j u hu => by
    show (rowCells r ++ levCells f a)[r.length * 6 + j]? = some u
    rw [List.getElem?_append_right (by rw [rowCells_length]; omega), rowCells_length, Nat.add_sub_cancel_left, hu]
  obtain ⟨aC, cC, hv, hle, -⟩ := row_slice h.row
  obtain ⟨g, cap, rfl, -, h1, h2, -, -⟩ := row_get h.row (hj 0 _ rfl)
  refine ⟨g, cap, rfl, ?_, h1, h2, fun j u hu => ?_⟩
  · have : cap = cC := by simpa using (Value.slice.inj hv).2.2
    rw [this]; simpa using hle
  obtain ⟨g', cap', hv', -, -, -, hc, hf⟩ := row_get h.row (hj j u hu)
  have : g = g' := by simpa using (Value.slice.inj hv').1
  rw [← this] at hc hf
  exact ⟨hc, hf⟩
/-- The scene turns. -/
theorem turned {vW' vL' : Value} {words' : List Int} {lines' : List ByteArray} (h : RunAt ρ w base bp br bs v0 v1 vW vL vC p limit words lines fr) (hs : Since F w w') (hF : ∀ k, F k → k = bs ∨ vW.ownBlock = some k ∨ vL.ownBlock = some k)
    (sc : SceneAt w' base bs vW' vL' words' limit lines') (nW : ∀ k, vW'.ownBlock = some k → vW.ownBlock = some k ∨ w.heap.size ≤ k) (nL : ∀ k, vL'.ownBlock = some k → vL.ownBlock = some k ∨ w.heap.size ≤ k) :
    ∃ ρ', RunAt ρ' w' base bp br bs v0 v1 vW' vL' vC p limit words' lines' fr := by
  have hlab : ∀ k, F k → ρ k = some .s ∨ ρ k = some .w ∨ ρ k = some .l := fun k e => by
    rcases hF k e with rfl | e | e
    · exact Or.inl h.ls
    · exact Or.inr (Or.inl (h.lw k e))
    · exact Or.inr (Or.inr (h.ll k e))
  have hB : ∀ k, F k → base ≤ k := fun k e => by
    rcases hF k e with rfl | e | e
    · exact h.scene.lt.1
    · exact (h.scene.oW.lt k e).1
    · exact (h.scene.oL.lt k e).1
  have h1 := h.label (ρ' := fun k => if k < w.heap.size then ρ k else if vW'.ownBlock = some k then some .w else some .l) (fun k hk => by simp [hk])
  have hlt : ∀ k, F k → k < w.heap.size := fun k e => by
    rcases hF k e with rfl | e | e
    · exact h.scene.lt.2
    · exact (h.scene.oW.lt k e).2
    · exact (h.scene.oL.lt k e).2
  refine ⟨_, h1.upd hs hB (fun k e => ?_) sc (h1.rowS hs (fun k e => ?_)) (LevsAt.since hs hB h1.levs (fun k i e hi => ?_)) (fun k hk => ?_) (fun k hk => ?_) h1.lc⟩
  · simp only [hlt k e, if_true]
    rcases hlab k e with e | e | e <;> rw [e] <;> simp
  · simp only [hlt k e, if_true]
    rcases hlab k e with e | e | e <;> rw [e] <;> simp
  · simp only [hlt k e, if_true]
    rcases hlab k e with e | e | e <;> rw [e] <;> simp
  · rcases nW k hk with e | e
    · exact h1.lw k e
    · have : ¬ k < w.heap.size := by omega
      simp [this, hk]
  · rcases nL k hk with e | e
    · exact h1.ll k e
    · have : ¬ k < w.heap.size := by omega
      have hne : vW'.ownBlock ≠ some k := fun e2 => sc.nWL k e2 hk
      simp [this, hne]
/-- The innermost call is left. -/
theorem pop {f : Lev} {a : LA} {r : List (Lev × LA)} {g cap : Nat} (h : RunAt ρ w base bp br bs v0 v1 vW vL (.slice (some ⟨g, 0, none⟩) (r.length + 1) cap) p limit words lines ((f, a) :: r)) :
    RunAt ρ w base bp br bs v0 v1 vW vL (.slice (some ⟨g, 0, none⟩) r.length cap) p limit words lines r :=
  { h with
    lc := h.lc
    row := by
      have := row_short (m := r.length) h.row (by simp)
      have e : (rowCells ((f, a) :: r)).take (r.length * 6) = rowCells r := by
        show (rowCells r ++ levCells f a).take (r.length * 6) = rowCells r
        rw [← rowCells_length, List.take_left']
        rfl
      rw [e] at this
      exact this
    levs := h.levs.2 }
/-- A new call. -/
theorem push {w1 w2 : World} {o : Obj} {vC' : Value} {f : Lev} {a : LA} (h : RunAt ρ w base bp br bs v0 v1 vW vL vC p limit words lines fr) (hs : Since (fun _ => False) w w1) (hg : (w1.alloc o).grownBy w2 vC.ownBlock)
    (ho : w2.ownsRow base 83 6 vC' (fr.length + 1) (rowCells fr ++ levCells f a)) (hloc : vC'.ownBlock = vC.ownBlock ∨ vC'.ownBlock = some (w1.heap.size + 1))
    (hv : intRow w1 base a.gv f.vars) (ht : intRow w1 base a.gs f.slots) (nv : w.heap.size ≤ a.gv) (nt : w.heap.size ≤ a.gs) (hne : a.gv ≠ a.gs) (hw : rInts (· < base) w1 [a.vw] f.want) :
    ∃ ρ', RunAt ρ' w2 base bp br bs v0 v1 vW vL vC' p limit words lines ((f, a) :: fr) := by
  have h1 := h.label (ρ' := fun k => if k < w.heap.size then ρ k else if k = a.gv then some (.v fr.length) else if k = a.gs then some (.t fr.length) else some .c) (fun k hk => by simp [hk])
  have s2 : Since (fun k => vC.ownBlock = some k) w1 w2 := (Since.alloc _ _ _).trans (Since.grown hg)
  have s3 : Since (fun k => vC.ownBlock = some k) w w2 := (hs.mono (fun _ e => e.elim)).trans s2
  have hlt : ∀ k, vC.ownBlock = some k → k < w.heap.size := fun k e => (h.row.lt k e).2
  have hB : ∀ k, vC.ownBlock = some k → base ≤ k := fun k e => (h.row.lt k e).1
  have lv : a.gv < w1.heap.size := (hv.lt _ rfl).2
  have lt : a.gs < w1.heap.size := (ht.lt _ rfl).2
  refine ⟨_, h1.upd s3 hB (fun k e => ?_) (h1.sceneS s3 (fun k e => ?_)) ho ⟨⟨?_, ?_, ?_, ?_, ?_⟩, LevsAt.since s3 hB h1.levs (fun k i e hi => ?_)⟩ h1.lw h1.ll (fun k hk => ?_)⟩
  · rw [h1.lc k e]; simp
  · rw [h1.lc k e]; simp
  · have : ¬ a.gv < w.heap.size := by omega
    simp [this]
  · have : ¬ a.gs < w.heap.size := by omega
    simp [this, Ne.symm hne]
  · refine s2.row hv (fun k hk e => ?_)
    have : a.gv = k := by simpa [Value.ownBlock] using hk
    have := hlt k e
    omega
  · refine s2.row ht (fun k hk e => ?_)
    have : a.gs = k := by simpa [Value.ownBlock] using hk
    have := hlt k e
    omega
  · exact Good.kept ((s2.keep).weaken (fun k _ hk e => absurd (hB k e) (by omega))) hw
  · rw [h1.lc k e]; simp
  · rcases hloc with e | e
    · rw [e] at hk
      exact h1.lc k hk
    · rw [e] at hk
      have hk' : w1.heap.size + 1 = k := by simpa using hk
      have := hs.size
      have n1 : ¬ k < w.heap.size := by omega
      have n2 : ¬ k = a.gv := by omega
      have n3 : ¬ k = a.gs := by omega
      simp [n1, n2, n3]
/-- A word more. -/
theorem pushW {w1 : World} {o : Obj} {g cap : Nat} {x : Int} (h : RunAt ρ w base bp br bs v0 v1 vW vL vC p limit words lines fr) (hg : (w.alloc o).drew.grownBy w1 vW.ownBlock)
    (ho : w1.ownsRow base 3 1 (.slice (some ⟨g, 0, none⟩) (words.length + 1) cap) (words.length + 1) (words.map (Value.int .i64) ++ [.int .i64 x])) (hat : vW.ownBlock = some g ∨ g = w.heap.size + 1) :
    ∃ ρ', RunAt ρ' (w1.setCell ⟨bs, 0, none⟩ (.slice (some ⟨g, 0, none⟩) (words.length + 1) cap)) base bp br bs v0 v1 (.slice (some ⟨g, 0, none⟩) (words.length + 1) cap) vL vC p limit (words ++ [x]) lines fr := by
  have h1 := h.since (Since.drew (fun _ => False) w)
  have hg' : (w.drew.alloc o).grownBy w1 vW.ownBlock := hg
  obtain ⟨k1, k2, k3⟩ := h1.scene.pushW hg' ho (by
    rcases hat with e | e
    · exact Or.inl e.symm
    · exact Or.inr (by rw [e]; rfl))
  exact h1.turned k2 (fun k e => e.elim Or.inl (fun e => Or.inr (Or.inl e))) k1 k3 (fun k e => Or.inl e)
/-- The first call. -/
theorem first {w2 : World} {g cap : Nat} {f : Lev} {a : LA} (h : RunAt ρ w base bp br bs v0 v1 vW vL vC p limit words lines []) (hs : Since (fun _ => False) w w2)
    (ho : w2.ownsRow base 83 6 (.slice (some ⟨g, 0, none⟩) 1 cap) 1 (levCells f a)) (hv : intRow w2 base a.gv f.vars) (ht : intRow w2 base a.gs f.slots)
    (n1 : w.heap.size ≤ g) (n2 : w.heap.size ≤ a.gv) (n3 : w.heap.size ≤ a.gs) (n4 : a.gv ≠ a.gs) (n5 : g ≠ a.gv) (n6 : g ≠ a.gs) (hw : rInts (· < base) w2 [a.vw] f.want) :
    ∃ ρ', RunAt ρ' w2 base bp br bs v0 v1 vW vL (.slice (some ⟨g, 0, none⟩) 1 cap) p limit words lines [(f, a)] := by
  have h1 := h.label (ρ' := fun k => if k < w.heap.size then ρ k else if k = a.gv then some (.v 0) else if k = a.gs then some (.t 0) else some .c) (fun k hk => by simp [hk])
  refine ⟨_, h1.upd hs (fun _ e => e.elim) (fun _ e => e.elim) (h1.sceneS hs (fun _ e => e.elim)) (by simpa [rowCells] using ho) ⟨⟨?_, ?_, hv, ht, hw⟩, trivial⟩ h1.lw h1.ll (fun k hk => ?_)⟩
  · have : ¬ a.gv < w.heap.size := by omega
    simp [this]
  · have : ¬ a.gs < w.heap.size := by omega
    simp [this, Ne.symm n4]
  · have hk' : g = k := by simpa [Value.ownBlock] using hk
    subst hk'
    have : ¬ g < w.heap.size := by omega
    simp [this, n5, n6]
/-- The start. -/
theorem start {w w2 : World} {v0 v1 : Value} {p : PProg} {limit : Int} (hold : Below w.heap.size Old.w0 w) (hp : rProg (· < w.heap.size) w [v0, v1] p) (hs : Since (fun _ => False) w w2) (hz : w2.heap.size = w.heap.size + 3)
    (p0 : w2.cell? ⟨w.heap.size, 0, none⟩ = some v0) (p1 : w2.cell? ⟨w.heap.size, 1, none⟩ = some v1)
    (r0 : w2.cell? ⟨w.heap.size + 1, 0, none⟩ = some (.slice none 0 0)) (r1 : w2.cell? ⟨w.heap.size + 1, 1, none⟩ = some (.int .i64 0)) (rf0 : w2.frozen? ⟨w.heap.size + 1, 0, none⟩ = false) (rf1 : w2.frozen? ⟨w.heap.size + 1, 1, none⟩ = false)
    (s0 : w2.cell? ⟨w.heap.size + 1 + 1, 0, none⟩ = some (.slice none 0 0)) (s1 : w2.cell? ⟨w.heap.size + 1 + 1, 1, none⟩ = some (.int .i64 limit)) (s2 : w2.cell? ⟨w.heap.size + 1 + 1, 2, none⟩ = some (.slice none 0 0))
    (sf0 : w2.frozen? ⟨w.heap.size + 1 + 1, 0, none⟩ = false) (sf2 : w2.frozen? ⟨w.heap.size + 1 + 1, 2, none⟩ = false) :
    ∃ ρ, RunAt ρ w2 w.heap.size w.heap.size (w.heap.size + 1) (w.heap.size + 1 + 1) v0 v1 (.slice none 0 0) (.slice none 0 0) (.slice none 0 0) p limit [] [] [] := by
  refine ⟨fun k => if k = w.heap.size then some .p else if k = w.heap.size + 1 then some .r else some .s, ?_⟩
  have hn : ∀ (e : TypeId) (sz : Nat), w2.ownsRow w.heap.size e sz (.slice none 0 0) 0 [] := fun e sz => ⟨by simp, Or.inl ⟨rfl, rfl⟩⟩
  exact { prog := Good.kept ((hs.keep).weaken (fun k _ hk e => e.elim)) hp
          p0 := p0, p1 := p1, r0 := r0, r1 := r1, rf0 := rf0, rf1 := rf1
          lp := ⟨by simp, by omega⟩
          lr := ⟨by simp, by omega⟩
          ls := by simp; omega
          lw := fun k hk => by simp [Value.ownBlock] at hk
          ll := fun k hk => by simp [Value.ownBlock] at hk
          lc := fun k hk => by simp [Value.ownBlock] at hk
          scene := ⟨s0, s1, s2, sf0, sf2, ⟨by omega, by omega⟩, hn _ _, hn _ _, by simp [Value.ownBlock], by simp [Value.ownBlock], fun k hk => by simp [Value.ownBlock] at hk⟩
          row := hn _ _
          levs := trivial
          big := hs.size
          below := hold.trans (hs.below (Nat.le_refl _) (fun _ e => e.elim)) }
end RunAt
end Go.Proofs.Ytaomlfbcfmmhlaa

/-
  Frames of ref.ranOf as arrays of so many slots (printed by wip/gen_frame.py), and its loop's body in parts.
-/
namespace Go.Proofs.Ytaomlfbcfmmhlaa
open Go.RowKit Go.Pst
set_option linter.unusedVariables false
set_option linter.unusedSimpArgs false

def slotOf (t : Array Value) (k : Nat) : Value := t.getD k undef
def slotsUp (f : Nat → Value) : Nat → Nat → List Value
  | 0, _ => []
  | n + 1, k => f k :: slotsUp f n (k + 1)
theorem slotsUp_length (f : Nat → Value) : ∀ n k, (slotsUp f n k).length = n
  | 0, _ => rfl
  | n + 1, k => by simp [slotsUp, slotsUp_length f n (k + 1)]
theorem slotsUp_get (f : Nat → Value) : ∀ n k i (h : i < (slotsUp f n k).length), (slotsUp f n k)[i] = f (k + i)
  | 0, _, i, h => absurd h (by simp [slotsUp])
  | n + 1, k, 0, h => rfl
  | n + 1, k, i + 1, h => by
    show (slotsUp f n (k + 1))[i]'_ = _
    rw [slotsUp_get f n (k + 1) i]
    congr 1
    omega
theorem slots_eq {n : Nat} (t : Array Value) (h : t.size = n) : t = ⟨slotsUp (slotOf t) n 0⟩ := by
  apply Array.ext
  · simp [slotsUp_length, h]
  · intro i h1 h2
    show t[i] = (slotsUp (slotOf t) n 0)[i]'(by simpa using h2)
    rw [slotsUp_get]
    simp [slotOf, h1]

set_option maxRecDepth 100000 in
theorem frame473 (t : Array Value) (h : t.size = 473) : t = #[slotOf t 0, slotOf t 1, slotOf t 2, slotOf t 3, slotOf t 4, slotOf t 5, slotOf t 6, slotOf t 7, slotOf t 8, slotOf t 9, slotOf t 10, slotOf t 11, slotOf t 12, slotOf t 13, slotOf t 14, slotOf t 15, slotOf t 16, slotOf t 17, slotOf t 18, slotOf t 19, slotOf t 20, slotOf t 21, slotOf t 22, slotOf t 23, slotOf t 24, slotOf t 25, slotOf t 26, slotOf t 27, slotOf t 28, slotOf t 29, slotOf t 30, slotOf t 31, slotOf t 32, slotOf t 33, slotOf t 34, slotOf t 35, slotOf t 36, slotOf t 37, slotOf t 38, slotOf t 39, slotOf t 40, slotOf t 41, slotOf t 42, slotOf t 43, slotOf t 44, slotOf t 45, slotOf t 46, slotOf t 47, slotOf t 48, slotOf t 49, slotOf t 50, slotOf t 51, slotOf t 52, slotOf t 53, slotOf t 54, slotOf t 55, slotOf t 56, slotOf t 57, slotOf t 58, slotOf t 59, slotOf t 60, slotOf t 61, slotOf t 62, slotOf t 63, slotOf t 64, slotOf t 65, slotOf t 66, slotOf t 67, slotOf t 68, slotOf t 69, slotOf t 70, slotOf t 71, slotOf t 72, slotOf t 73, slotOf t 74, slotOf t 75, slotOf t 76, slotOf t 77, slotOf t 78, slotOf t 79, slotOf t 80, slotOf t 81, slotOf t 82, slotOf t 83, slotOf t 84, slotOf t 85, slotOf t 86, slotOf t 87, slotOf t 88, slotOf t 89, slotOf t 90, slotOf t 91, slotOf t 92, slotOf t 93, slotOf t 94, slotOf t 95, slotOf t 96, slotOf t 97, slotOf t 98, slotOf t 99, slotOf t 100, slotOf t 101, slotOf t 102, slotOf t 103, slotOf t 104, slotOf t 105, slotOf t 106, slotOf t 107, slotOf t 108, slotOf t 109, slotOf t 110, slotOf t 111, slotOf t 112, slotOf t 113, slotOf t 114, slotOf t 115, slotOf t 116, slotOf t 117, slotOf t 118, slotOf t 119, slotOf t 120, slotOf t 121, slotOf t 122, slotOf t 123, slotOf t 124, slotOf t 125, slotOf t 126, slotOf t 127, slotOf t 128, slotOf t 129, slotOf t 130, slotOf t 131, slotOf t 132, slotOf t 133, slotOf t 134, slotOf t 135, slotOf t 136, slotOf t 137, slotOf t 138, slotOf t 139, slotOf t 140, slotOf t 141, slotOf t 142, slotOf t 143, slotOf t 144, slotOf t 145, slotOf t 146, slotOf t 147, slotOf t 148, slotOf t 149, slotOf t 150, slotOf t 151, slotOf t 152, slotOf t 153, slotOf t 154, slotOf t 155, slotOf t 156, slotOf t 157, slotOf t 158, slotOf t 159, slotOf t 160, slotOf t 161, slotOf t 162, slotOf t 163, slotOf t 164, slotOf t 165, slotOf t 166, slotOf t 167, slotOf t 168, slotOf t 169, slotOf t 170, slotOf t 171, slotOf t 172, slotOf t 173, slotOf t 174, slotOf t 175, slotOf t 176, slotOf t 177, slotOf t 178, slotOf t 179, slotOf t 180, slotOf t 181, slotOf t 182, slotOf t 183, slotOf t 184, slotOf t 185, slotOf t 186, slotOf t 187, slotOf t 188, slotOf t 189, slotOf t 190, slotOf t 191, slotOf t 192, slotOf t 193, slotOf t 194, slotOf t 195, slotOf t 196, slotOf t 197, slotOf t 198, slotOf t 199, slotOf t 200, slotOf t 201, slotOf t 202, slotOf t 203, slotOf t 204, slotOf t 205, slotOf t 206, slotOf t 207, slotOf t 208, slotOf t 209, slotOf t 210, slotOf t 211, slotOf t 212, slotOf t 213, slotOf t 214, slotOf t 215, slotOf t 216, slotOf t 217, slotOf t 218, slotOf t 219, slotOf t 220, slotOf t 221, slotOf t 222, slotOf t 223, slotOf t 224, slotOf t 225, slotOf t 226, slotOf t 227, slotOf t 228, slotOf t 229, slotOf t 230, slotOf t 231, slotOf t 232, slotOf t 233, slotOf t 234, slotOf t 235, slotOf t 236, slotOf t 237, slotOf t 238, slotOf t 239, slotOf t 240, slotOf t 241, slotOf t 242, slotOf t 243, slotOf t 244, slotOf t 245, slotOf t 246, slotOf t 247, slotOf t 248, slotOf t 249, slotOf t 250, slotOf t 251, slotOf t 252, slotOf t 253, slotOf t 254, slotOf t 255, slotOf t 256, slotOf t 257, slotOf t 258, slotOf t 259, slotOf t 260, slotOf t 261, slotOf t 262, slotOf t 263, slotOf t 264, slotOf t 265, slotOf t 266, slotOf t 267, slotOf t 268, slotOf t 269, slotOf t 270, slotOf t 271, slotOf t 272, slotOf t 273, slotOf t 274, slotOf t 275, slotOf t 276, slotOf t 277, slotOf t 278, slotOf t 279, slotOf t 280, slotOf t 281, slotOf t 282, slotOf t 283, slotOf t 284, slotOf t 285, slotOf t 286, slotOf t 287, slotOf t 288, slotOf t 289, slotOf t 290, slotOf t 291, slotOf t 292, slotOf t 293, slotOf t 294, slotOf t 295, slotOf t 296, slotOf t 297, slotOf t 298, slotOf t 299, slotOf t 300, slotOf t 301, slotOf t 302, slotOf t 303, slotOf t 304, slotOf t 305, slotOf t 306, slotOf t 307, slotOf t 308, slotOf t 309, slotOf t 310, slotOf t 311, slotOf t 312, slotOf t 313, slotOf t 314, slotOf t 315, slotOf t 316, slotOf t 317, slotOf t 318, slotOf t 319, slotOf t 320, slotOf t 321, slotOf t 322, slotOf t 323, slotOf t 324, slotOf t 325, slotOf t 326, slotOf t 327, slotOf t 328, slotOf t 329, slotOf t 330, slotOf t 331, slotOf t 332, slotOf t 333, slotOf t 334, slotOf t 335, slotOf t 336, slotOf t 337, slotOf t 338, slotOf t 339, slotOf t 340, slotOf t 341, slotOf t 342, slotOf t 343, slotOf t 344, slotOf t 345, slotOf t 346, slotOf t 347, slotOf t 348, slotOf t 349, slotOf t 350, slotOf t 351, slotOf t 352, slotOf t 353, slotOf t 354, slotOf t 355, slotOf t 356, slotOf t 357, slotOf t 358, slotOf t 359, slotOf t 360, slotOf t 361, slotOf t 362, slotOf t 363, slotOf t 364, slotOf t 365, slotOf t 366, slotOf t 367, slotOf t 368, slotOf t 369, slotOf t 370, slotOf t 371, slotOf t 372, slotOf t 373, slotOf t 374, slotOf t 375, slotOf t 376, slotOf t 377, slotOf t 378, slotOf t 379, slotOf t 380, slotOf t 381, slotOf t 382, slotOf t 383, slotOf t 384, slotOf t 385, slotOf t 386, slotOf t 387, slotOf t 388, slotOf t 389, slotOf t 390, slotOf t 391, slotOf t 392, slotOf t 393, slotOf t 394, slotOf t 395, slotOf t 396, slotOf t 397, slotOf t 398, slotOf t 399, slotOf t 400, slotOf t 401, slotOf t 402, slotOf t 403, slotOf t 404, slotOf t 405, slotOf t 406, slotOf t 407, slotOf t 408, slotOf t 409, slotOf t 410, slotOf t 411, slotOf t 412, slotOf t 413, slotOf t 414, slotOf t 415, slotOf t 416, slotOf t 417, slotOf t 418, slotOf t 419, slotOf t 420, slotOf t 421, slotOf t 422, slotOf t 423, slotOf t 424, slotOf t 425, slotOf t 426, slotOf t 427, slotOf t 428, slotOf t 429, slotOf t 430, slotOf t 431, slotOf t 432, slotOf t 433, slotOf t 434, slotOf t 435, slotOf t 436, slotOf t 437, slotOf t 438, slotOf t 439, slotOf t 440, slotOf t 441, slotOf t 442, slotOf t 443, slotOf t 444, slotOf t 445, slotOf t 446, slotOf t 447, slotOf t 448, slotOf t 449, slotOf t 450, slotOf t 451, slotOf t 452, slotOf t 453, slotOf t 454, slotOf t 455, slotOf t 456, slotOf t 457, slotOf t 458, slotOf t 459, slotOf t 460, slotOf t 461, slotOf t 462, slotOf t 463, slotOf t 464, slotOf t 465, slotOf t 466, slotOf t 467, slotOf t 468, slotOf t 469, slotOf t 470, slotOf t 471, slotOf t 472] := slots_eq t h

/-- A part of a code. -/
def _root_.Go.Code.sub : List Nat → Code → Code
  | [], c => c
  | 0 :: p, .seq a _ => Code.sub p a
  | 1 :: p, .seq _ b => Code.sub p b
  | 0 :: p, .cond _ a _ => Code.sub p a
  | 1 :: p, .cond _ _ b => Code.sub p b
  | 0 :: p, .block _ c => Code.sub p c
  | 0 :: p, .loop c => Code.sub p c
  | 0 :: p, .scope c => Code.sub p c
  | _, _ => .skip
noncomputable def ranBody : Code := Code.sub [1, 1, 1, 1, 1, 0, 1, 0, 0] ((Try.f66).body.getD .skip)
noncomputable def ranS13 : Code := Code.sub [1, 0, 0, 1] ranBody
noncomputable def ranS17 : Code := Code.sub [1, 1, 1, 1] ranS13
noncomputable def ranS20 : Code := Code.sub [1, 1] ranS17
noncomputable def ranS25 : Code := Code.sub [1] ranS20
/-- What stays in the frame. -/
structure FrameIs (t : Array Value) (fuel : Int) (m : Bool) (bp br bs : Nat) : Prop where
  size : t.size = 473
  s2 : slotOf t 2 = .int .i64 fuel
  s3 : slotOf t 3 = .bool m
  s4 : slotOf t 4 = .pointer (some ⟨bp, 0, none⟩)
  s8 : slotOf t 8 = .pointer (some ⟨br, 0, none⟩)
  s9 : slotOf t 9 = .pointer (some ⟨bs, 0, none⟩)
end Go.Proofs.Ytaomlfbcfmmhlaa

/-
  ref.ranOf: a round ahead of the switch: the instruction at hand and its arguments.
-/
namespace Go.Proofs.Ytaomlfbcfmmhlaa
open Go.RowKit Go.Pst
set_option linter.unusedVariables false
set_option linter.unusedSimpArgs false

/-- What is known when the instruction at hand has been taken. -/
structure AtInstr [Old] (ρ : Nat → Option Lab) (t : Array Value) (w : World) (fuel : Int) (m : Bool) (base bp br bs bi g cap : Nat) (s13 v0 v1 vW vL u1 u2 u5 : Value) (p : PProg) (limit : Int) (words : List Int) (lines : List ByteArray) (f : Lev) (a : LA) (r : List (Lev × LA)) (i : PInstr) : Prop where
  frame : FrameIs t fuel m bp br bs
  s11 : slotOf t 11 = .slice (some ⟨g, 0, none⟩) (r.length + 1) cap
  s12 : slotOf t 12 = .int .i64 0
  s13 : slotOf t 13 = s13
  s14 : slotOf t 14 = .pointer (some ⟨g, r.length * 6, none⟩)
  s15 : slotOf t 15 = .pointer (some ⟨bi, 0, none⟩)
  box : w.heap[bi]? = some (.cells #[.int .i64 i.op, u1, u2, .int .i64 i.n, .string i.s, u5] 48)
  i1 : rInts (· < base) w [u1] i.ds
  i2 : rInts (· < base) w [u2] i.ars
  i5 : rInts (· < base) w [u5] i.to
  run : RunAt ρ w base bp br bs v0 v1 vW vL (.slice (some ⟨g, 0, none⟩) (r.length + 1) cap) p limit words lines (({ f with at_ := f.at_ + 1 }, a) :: r)
  nb : ρ bi = none
  ini : InI i.op ∧ InI i.n ∧ i.s.size ≤ maxLen
/-- .. and its arguments. -/
structure PreArm [Old] (ρ : Nat → Option Lab) (t : Array Value) (w : World) (fuel : Int) (m : Bool) (base bp br bs bi g cap : Nat) (s13 v0 v1 vW vL u1 u2 u5 : Value) (p : PProg) (limit : Int) (words : List Int) (lines : List ByteArray) (f : Lev) (a : LA) (r : List (Lev × LA)) (i : PInstr) (vX : Value) (xs : List Int) : Prop extends AtInstr ρ t w fuel m base bp br bs bi g cap s13 v0 v1 vW vL u1 u2 u5 p limit words lines f a r i where
  s17 : slotOf t 17 = vX
  row : w.ownsRow base 3 1 vX xs.length (xs.map (Value.int .i64))
  nx : ∀ k, vX.ownBlock = some k → ρ k = none ∧ k ≠ bi

/-- The instruction at hand, in memory. -/
theorem instr_mem {base : Nat} {w : World} {v0 v1 : Value} {p : PProg} {f : Lev} (h : rProg (· < base) w [v0, v1] p) (hL : LevOK p f) : ∃ bF oF cF bB oB cB bI oI cI u1 u2 u5, v0 = .slice (some ⟨bF, oF, none⟩) p.funcs.length cF ∧
      w.cell? ⟨bF, oF + f.fn * 6 + 5, none⟩ = some (.slice (some ⟨bB, oB, none⟩) (codeAt p f.fn).blocks.length cB) ∧ w.cell? ⟨bB, oB + f.block, none⟩ = some (.slice (some ⟨bI, oI, none⟩) (blockAt p f).length cI) ∧
      w.cell? ⟨bI, oI + f.at_ * 6, none⟩ = some (.int .i64 (instrAt p f).op) ∧ w.cell? ⟨bI, oI + f.at_ * 6 + 1, none⟩ = some u1 ∧ w.cell? ⟨bI, oI + f.at_ * 6 + 2, none⟩ = some u2 ∧
      (w.cell? ⟨bI, oI + f.at_ * 6 + 3, none⟩ = some (.int .i64 (instrAt p f).n) ∧ w.cell? ⟨bI, oI + f.at_ * 6 + 4, none⟩ = some (.string (instrAt p f).s)) ∧ w.cell? ⟨bI, oI + f.at_ * 6 + 5, none⟩ = some u5 ∧
      rInts (· < base) w [u1] (instrAt p f).ds ∧ rInts (· < base) w [u2] (instrAt p f).ars ∧ rInts (· < base) w [u5] (instrAt p f).to ∧ bF < base ∧ bB < base ∧ bI < base ∧ (InI (instrAt p f).op ∧ InI (instrAt p f).n ∧ (instrAt p f).s.size ≤ maxLen) := by
  obtain ⟨u, u', hv, hc, -⟩ := h
  obtain ⟨rfl, rfl⟩ : v0 = u ∧ v1 = u' := by simpa using hv
  obtain ⟨aF, cF, rfl, -, -, h⟩ := rCodes_val hc
  obtain ⟨bF, oF, v5, rfl, hS, -, -, -, -, -, -, h5, -, hb⟩ := h f.fn hL.fn
  rw [← codeAt_eq hL.fn] at hb
  obtain ⟨aB, cB, rfl, -, -, h⟩ := rSlice_one hb
  obtain ⟨bB, oB, v6, rfl, hSB, -, hcB, hb⟩ := h f.block hL.bl
  have eb : (codeAt p f.fn).blocks[f.block]'hL.bl = blockAt p f := by
    unfold blockAt
    rw [List.getD_eq_getElem?_getD, List.getElem?_eq_getElem hL.bl]
    rfl
  rw [eb] at hb
  obtain ⟨aI, cI, rfl, -, -, h⟩ := rBlock_val hb
  obtain ⟨bI, oI, u1, u2, u5, rfl, hSI, -, g0, g1, g2, g3, g4, g5, gI, r1, r2, r5⟩ := h f.at_ hL.al
  rw [← hL.instr] at g0 g3 g4 gI r1 r2 r5
  exact ⟨bF, oF, cF, bB, oB, cB, bI, oI, cI, u1, u2, u5, rfl, h5, hcB, g0, g1, g2, ⟨g3, g4⟩, g5, r1, r2, r5, hS, hSB, hSI, gI⟩

variable [Old]
set_option maxRecDepth 100000 in
set_option maxHeartbeats 4000000 in
theorem pre_any (Q : Exit → Act → World → Prop) (ρ : Nat → Option Lab) (t : Array Value) (w : World) (fuel : Int) (m : Bool) (base bp br bs : Nat) (v0 v1 vW vL vC : Value) (p : PProg) (limit : Int) (words : List Int) (lines : List ByteArray) (f : Lev) (a : LA) (r : List (Lev × LA))
    (hF : FrameIs t fuel m bp br bs) (h11 : slotOf t 11 = vC) (h12 : slotOf t 12 = .int .i64 0) (hR : RunAt ρ w base bp br bs v0 v1 vW vL vC p limit words lines ((f, a) :: r)) (hL : LevOK p f) (hs : Sound p m) (hr : r.length < 40)
    (HQ : Hid (∀ ρ' t' w' bi g cap u1 u2 u5, AtInstr ρ' t' w' fuel m base bp br bs bi g cap (slotOf t 13) v0 v1 vW vL u1 u2 u5 p limit words lines f a r (instrAt p f) → slotOf t' 16 = .slice (some ⟨a.gv, 0, none⟩) f.vars.length f.vars.length → ranS17.wp Try.prog Q ⟨t', []⟩ w')) :
    ranS13.wp Try.prog Q ⟨t, []⟩ w := by
  obtain ⟨g, cap, rfl, hcap, hg1, hg2, hcell⟩ := hR.get
  obtain ⟨q0, -⟩ := hcell 0 _ rfl
  obtain ⟨q1, -⟩ := hcell 1 _ rfl
  obtain ⟨q2, -⟩ := hcell 2 _ rfl
  obtain ⟨q3, -⟩ := hcell 3 _ rfl
  obtain ⟨q4, z4⟩ := hcell 4 _ rfl
  have hp0 := hR.p0
  have hbp := hR.lp.2
  obtain ⟨bF, oF, cF, bB, oB, cB, bI, oI, cI, u1, u2, u5, rfl, e1, e2, e3, e4, e5, ⟨e6, e6'⟩, e7, hI1, hI2, hI5, l0, l1, l2, ⟨hop, hin, hss⟩⟩ := instr_mem hR.prog hL
  have big := hR.big
  have hfn := hL.fn
  have hbl := hL.bl
  have hal := hL.al
  obtain ⟨a1, c1, rfl⟩ := rSlice_shape hI1
  obtain ⟨a2, c2, rfl⟩ := rSlice_shape hI2
  obtain ⟨a5, c5, rfl⟩ := rSlice_shape hI5
  have HR := Lib.hid hR
  have HI1 := Lib.hid hI1
  have HI2 := Lib.hid hI2
  have HI5 := Lib.hid hI5
  have HL := Lib.hid hL
  have HF := Lib.hid hF
  have Hop := Lib.hid hop
  have Hin := Lib.hid hin
  have Hss := Lib.hid hss
  have hbk := (hs.codes _ (codeAt_mem hL.fn)).nb.2
  have hbk2 := ((hs.codes _ (codeAt_mem hL.fn)).blk _ hL.blk).2.1
  have hfl := hs.some_.2
  have hI := instrAt p f
  unfold ranS13
  conv => arg 2; whnf
  rw [frame473 t hF.size, hF.s2, hF.s3, hF.s4, hF.s8, hF.s9, h11, h12]
  clear hR hI1 hI2 hI5 hL hF hcell hop hin hss h11 h12
  generalize hNB : (codeAt p f.fn).blocks.length = nB at *
  generalize hNI : (blockAt p f).length = nI at *
  have HNB := Lib.hid hNB
  have HNI := Lib.hid hNI
  clear hNB hNI
  rw [Nat.add_zero] at q0
  go_upto_region 14 with fail
  go_cut [15] from 82 to 102 (fun s15 wx => s15 = .pointer (some ⟨w.heap.size, 0, none⟩) ∧ wx = (w.alloc (.cells #[.int .i64 (instrAt p f).op, .slice a1 (instrAt p f).ds.length c1, .slice a2 (instrAt p f).ars.length c2, .int .i64 (instrAt p f).n, .string (instrAt p f).s, .slice a5 (instrAt p f).to.length c5] 48)).drew)
  case first =>
    go_region_held3 (fun w' => w'.cell? ⟨bp, 0, none⟩ = some (.slice (some ⟨bF, oF, none⟩) p.funcs.length cF) ∧ w'.cell? ⟨g, r.length * 6, none⟩ = some (.int .i64 f.fn) ∧ w'.cell? ⟨bF, oF + f.fn * 6 + 5, none⟩ = some (.slice (some ⟨bB, oB, none⟩) nB cB) ∧
      w'.cell? ⟨g, r.length * 6 + 3, none⟩ = some (.int .i64 f.block) ∧ w'.cell? ⟨bB, oB + f.block, none⟩ = some (.slice (some ⟨bI, oI, none⟩) nI cI) ∧ w'.cell? ⟨g, r.length * 6 + 4, none⟩ = some (.int .i64 f.at_) ∧
      w'.cell? ⟨bI, oI + f.at_ * 6, none⟩ = some (.int .i64 (instrAt p f).op) ∧ w'.cell? ⟨bI, oI + f.at_ * 6 + 1, none⟩ = some (.slice a1 (instrAt p f).ds.length c1) ∧ w'.cell? ⟨bI, oI + f.at_ * 6 + 2, none⟩ = some (.slice a2 (instrAt p f).ars.length c2) ∧
      w'.cell? ⟨bI, oI + f.at_ * 6 + 3, none⟩ = some (.int .i64 (instrAt p f).n) ∧ w'.cell? ⟨bI, oI + f.at_ * 6 + 4, none⟩ = some (.string (instrAt p f).s) ∧ w'.cell? ⟨bI, oI + f.at_ * 6 + 5, none⟩ = some (.slice a5 (instrAt p f).to.length c5)) (go_keep) (fail)
    all_goals (go_wp2_with fail; go_meet; exact ⟨rfl, rfl⟩)
  case rest =>
    obtain ⟨rfl, rfl⟩ := hcut
    have dq4 : ∀ o, (w.alloc o).cell? ⟨g, r.length * 6 + 4, none⟩ = some (.int .i64 f.at_) := fun o => (World.cell?_alloc_lt _ _ _ hg2).trans q4
    have dz4 : ∀ o, (w.alloc o).frozen? ⟨g, r.length * 6 + 4, none⟩ = false := fun o => (World.frozen?_alloc_past _ _ _ hg2).trans z4
    have dq1 : ∀ o, (w.alloc o).cell? ⟨g, r.length * 6 + 1, none⟩ = some (.slice (some ⟨a.gv, 0, none⟩) f.vars.length f.vars.length) := fun o => (World.cell?_alloc_lt _ _ _ hg2).trans q1
    go_upto_region 16 with fail
    go_cut [16] from 110 to 113 (fun s16 wx => s16 = .slice (some ⟨a.gv, 0, none⟩) f.vars.length f.vars.length ∧ ∃ ρ', RunAt ρ' wx base bp br bs (.slice (some ⟨bF, oF, none⟩) p.funcs.length cF) v1 vW vL (.slice (some ⟨g, 0, none⟩) (r.length + 1) cap) p limit words lines (({ f with at_ := f.at_ + 1 }, a) :: r) ∧ ρ' w.heap.size = none ∧
      wx.heap[w.heap.size]? = some (.cells #[.int .i64 (instrAt p f).op, .slice a1 (instrAt p f).ds.length c1, .slice a2 (instrAt p f).ars.length c2, .int .i64 (instrAt p f).n, .string (instrAt p f).s, .slice a5 (instrAt p f).to.length c5] 48) ∧ Since (fun k => k = g) w wx)
    case first =>
      go_wp2_with fail
      go_meet
      have hR := HR.out
      have h1 := hR.setC (f' := { f with at_ := f.at_ + 1 }) (r.length * 6 + 4) (.int .i64 (f.at_ + 1)) rfl rfl rfl (RunAt.set_lev (by simp [levCells]))
      have s1 := Since.setCell w ⟨g, r.length * 6 + 4, none⟩ (.int .i64 (f.at_ + 1))
      refine ⟨rfl, fun k => if k < w.heap.size then ρ k else none, ((h1.label (fun k hk => by simp only [World.size_setCell] at hk; simp [hk])).since (Since.alloc _ _ _)).since (Since.drew _ _), by simp, ?_, (s1.trans (Since.alloc _ _ _)).trans (Since.drew _ _)⟩
      show ((w.setCell _ _).alloc _).heap[w.heap.size]? = _
      have := heap_alloc_new (w.setCell ⟨g, r.length * 6 + 4, none⟩ (.int .i64 (f.at_ + 1))) (Obj.cells #[.int .i64 (instrAt p f).op, .slice a1 (instrAt p f).ds.length c1, .slice a2 (instrAt p f).ars.length c2, .int .i64 (instrAt p f).n, .string (instrAt p f).s, .slice a5 (instrAt p f).to.length c5] 48)
      simpa using this
    case rest =>
      obtain ⟨rfl, ρ1, hR1, hn1, hbox, hsi⟩ := hcut
      rename_i K hK
      refine hK _ _ ?_
      show ranS17.wp _ Q _ _
      have hB : ∀ k, k = g → base ≤ k := fun k e => by rw [e]; exact hg1
      have hkp : Keep (· < base) w wc := hsi.keep.weaken (fun k _ hk e => absurd (hB k e) (by omega))
      exact HQ.out ρ1 _ wc w.heap.size g cap _ _ _ { frame := ⟨rfl, rfl, rfl, rfl, rfl, rfl⟩, s11 := rfl, s12 := rfl, s13 := rfl, s14 := rfl, s15 := rfl, box := hbox, i1 := Good.kept hkp HI1.out, i2 := Good.kept hkp HI2.out, i5 := Good.kept hkp HI5.out, run := hR1, nb := hn1, ini := ⟨Hop.out, Hin.out, Hss.out⟩ } rfl
end Go.Proofs.Ytaomlfbcfmmhlaa

/-
  ref.ranOf: a round ahead of the switch: where the arguments come from; the arguments.
-/
namespace Go.Proofs.Ytaomlfbcfmmhlaa
open Go.RowKit Go.Pst
set_option linter.unusedVariables false
set_option linter.unusedSimpArgs false
variable [Old]

def srcBlock (m : Bool) (i : PInstr) (a : LA) : Nat := if m = true ∧ (i.op = 7 ∨ i.op = 12) then a.gs else a.gv

set_option maxRecDepth 100000 in
set_option maxHeartbeats 4000000 in
theorem from_any (Q : Exit → Act → World → Prop) (ρ : Nat → Option Lab) (t : Array Value) (w : World) (fuel : Int) (m : Bool) (base bp br bs bi g cap : Nat) (s13 v0 v1 vW vL u1 u2 u5 : Value) (p : PProg) (limit : Int) (words : List Int) (lines : List ByteArray) (f : Lev) (a : LA) (r : List (Lev × LA)) (i : PInstr)
    (h : AtInstr ρ t w fuel m base bp br bs bi g cap s13 v0 v1 vW vL u1 u2 u5 p limit words lines f a r i) (h16 : slotOf t 16 = .slice (some ⟨a.gv, 0, none⟩) f.vars.length f.vars.length)
    (HQ : Hid (∀ t', AtInstr ρ t' w fuel m base bp br bs bi g cap s13 v0 v1 vW vL u1 u2 u5 p limit words lines f a r i → slotOf t' 16 = .slice (some ⟨srcBlock m i a, 0, none⟩) (f.src m i).length (f.src m i).length → slotOf t' 17 = .slice none 0 0 → ranS20.wp Try.prog Q ⟨t', []⟩ w)) :
    ranS17.wp Try.prog Q ⟨t, []⟩ w := by
  obtain ⟨g', cap', hv, -, -, -, hcell⟩ := h.run.get
  obtain ⟨rfl, -⟩ : g = g' ∧ cap = cap' := by simpa using hv
  obtain ⟨q2, -⟩ := hcell 2 _ rfl
  have c0 : w.cell? ⟨bi, 0, none⟩ = some (.int .i64 i.op) := by simp [World.cell?, h.box]
  have h11 := h.s11
  have h12 := h.s12
  have h13 := h.s13
  have h14 := h.s14
  have h15 := h.s15
  have H := Lib.hid h
  unfold ranS17
  conv => arg 2; whnf
  rw [frame473 t h.frame.size, h.frame.s2, h.frame.s3, h.frame.s4, h.frame.s8, h.frame.s9, h11, h12, h14, h15, h16]
  subst h13
  clear h hcell hv h11 h12 h14 h15 h16
  have fin : ∀ t' : Array Value, FrameIs t' fuel m bp br bs → slotOf t' 11 = .slice (some ⟨g, 0, none⟩) (r.length + 1) cap → slotOf t' 12 = .int .i64 0 → slotOf t' 13 = slotOf t 13 → slotOf t' 14 = .pointer (some ⟨g, r.length * 6, none⟩) → slotOf t' 15 = .pointer (some ⟨bi, 0, none⟩) →
      AtInstr ρ t' w fuel m base bp br bs bi g cap (slotOf t 13) v0 v1 vW vL u1 u2 u5 p limit words lines f a r i := fun t' k0 k1 k2 k3 k4 k5 => { H.out with frame := k0, s11 := k1, s12 := k2, s13 := k3, s14 := k4, s15 := k5 }
  have FIN := Lib.hid fin
  clear fin
  by_cases hm : m = true ∧ (i.op = 7 ∨ i.op = 12)
  · have e1 : srcBlock m i a = a.gs := by simp [srcBlock, hm]
    have e2 : f.src m i = f.slots := by simp [Lev.src, hm]
    rw [e1, e2] at HQ
    clear e1 e2
    obtain ⟨rfl, hop⟩ := hm
    by_cases h7 : i.op = 7
    · have d7 : (i.op == 7) = true := by simp [h7]
      clear hop
      generalize i.op = op at *
      go_upto_region 19 with fail
      go_cut [17] from 125 to 128 (fun s17 wx => s17 = .slice none 0 0 ∧ wx = w)
      case first =>
        go_wp2_with fail
        go_meet
        exact ⟨rfl, rfl⟩
      case rest =>
        obtain ⟨rfl, rfl⟩ := hcut
        rename_i K hK
        refine hK _ _ ?_
        show ranS20.wp _ Q _ _
        exact HQ.out _ (FIN.out _ ⟨rfl, rfl, rfl, rfl, rfl, rfl⟩ rfl rfl rfl rfl rfl) rfl rfl
    · have h12 : i.op = 12 := by omega
      have d7 : (i.op == 7) = false := by simp [h7]
      have d12 : (i.op == 12) = true := by simp [h12]
      clear hop
      generalize i.op = op at *
      go_upto_region 19 with fail
      go_cut [17] from 125 to 128 (fun s17 wx => s17 = .slice none 0 0 ∧ wx = w)
      case first =>
        go_wp2_with fail
        go_meet
        exact ⟨rfl, rfl⟩
      case rest =>
        obtain ⟨rfl, rfl⟩ := hcut
        rename_i K hK
        refine hK _ _ ?_
        show ranS20.wp _ Q _ _
        exact HQ.out _ (FIN.out _ ⟨rfl, rfl, rfl, rfl, rfl, rfl⟩ rfl rfl rfl rfl rfl) rfl rfl
  · have e1 : srcBlock m i a = a.gv := by simp [srcBlock, hm]
    have e2 : f.src m i = f.vars := by simp [Lev.src, hm]
    rw [e1, e2] at HQ
    clear e1 e2
    cases m with
    | false =>
      clear hm
      go_upto_region 19 with fail
      go_cut [17] from 125 to 128 (fun s17 wx => s17 = .slice none 0 0 ∧ wx = w)
      case first =>
        go_wp2_with fail
        go_meet
        exact ⟨rfl, rfl⟩
      case rest =>
        obtain ⟨rfl, rfl⟩ := hcut
        rename_i K hK
        refine hK _ _ ?_
        show ranS20.wp _ Q _ _
        exact HQ.out _ (FIN.out _ ⟨rfl, rfl, rfl, rfl, rfl, rfl⟩ rfl rfl rfl rfl rfl) rfl rfl
    | true =>
      have d7 : (i.op == 7) = false := by simp at hm ⊢; omega
      have d12 : (i.op == 12) = false := by simp at hm ⊢; omega
      clear hm
      generalize i.op = op at *
      go_upto_region 19 with fail
      go_cut [17] from 125 to 128 (fun s17 wx => s17 = .slice none 0 0 ∧ wx = w)
      case first =>
        go_wp2_with fail
        go_meet
        exact ⟨rfl, rfl⟩
      case rest =>
        obtain ⟨rfl, rfl⟩ := hcut
        rename_i K hK
        refine hK _ _ ?_
        show ranS20.wp _ Q _ _
        exact HQ.out _ (FIN.out _ ⟨rfl, rfl, rfl, rfl, rfl, rfl⟩ rfl rfl rfl rfl rfl) rfl rfl

/-- A block of its own was made or written. -/
theorem AtInstr.next {ρ : Nat → Option Lab} {t : Array Value} {w w' : World} {fuel : Int} {m : Bool} {base bp br bs bi g cap : Nat} {s13 v0 v1 vW vL u1 u2 u5 : Value} {p : PProg} {limit : Int} {words : List Int} {lines : List ByteArray} {f : Lev} {a : LA} {r : List (Lev × LA)} {i : PInstr} {F : Nat → Prop}
    (h : AtInstr ρ t w fuel m base bp br bs bi g cap s13 v0 v1 vW vL u1 u2 u5 p limit words lines f a r i) (hs : Since F w w') (hN : ∀ k, F k → ρ k = none ∧ k ≠ bi) (hB : ∀ k, F k → base ≤ k) :
    AtInstr (fun k => if k < w.heap.size then ρ k else none) t w' fuel m base bp br bs bi g cap s13 v0 v1 vW vL u1 u2 u5 p limit words lines f a r i := by
  have hbi : bi < w.heap.size := (Array.getElem?_eq_some_iff.1 h.box).1
  have hk : Keep (· < base) w w' := hs.keep.weaken (fun k _ hk e => absurd (hB k e) (by omega))
  exact { h with
    box := (hs.block bi hbi (fun e => (hN bi e).2 rfl)).trans h.box
    i1 := Good.kept hk h.i1
    i2 := Good.kept hk h.i2
    i5 := Good.kept hk h.i5
    run := (h.run.label (fun k hk => by simp [hk])).sinceN hs (fun k e => by simp [(hN k e).1]) hB
    nb := by simp [h.nb] }
theorem RunAt.src {ρ : Nat → Option Lab} {w : World} {base bp br bs : Nat} {v0 v1 vW vL vC : Value} {p : PProg} {limit : Int} {words : List Int} {lines : List ByteArray} {f : Lev} {a : LA} {r : List (Lev × LA)} {m : Bool} {i : PInstr} {n : Nat}
    (h : RunAt ρ w base bp br bs v0 v1 vW vL vC p limit words lines (({ f with at_ := n }, a) :: r)) : intRow w base (srcBlock m i a) (f.src m i) := by
  unfold srcBlock Lev.src
  split
  · exact h.levs.1.slots
  · exact h.levs.1.vars

set_option maxRecDepth 100000 in
set_option maxHeartbeats 4000000 in
theorem args_any (Q : Exit → Act → World → Prop) (ρ : Nat → Option Lab) (t : Array Value) (w : World) (fuel : Int) (m : Bool) (base bp br bs bi g cap : Nat) (s13 v0 v1 vW vL u1 u2 u5 : Value) (p : PProg) (limit : Int) (words : List Int) (lines : List ByteArray) (f : Lev) (a : LA) (r : List (Lev × LA)) (i : PInstr)
    (h : AtInstr ρ t w fuel m base bp br bs bi g cap s13 v0 v1 vW vL u1 u2 u5 p limit words lines f a r i) (h16 : slotOf t 16 = .slice (some ⟨srcBlock m i a, 0, none⟩) (f.src m i).length (f.src m i).length) (h17 : slotOf t 17 = .slice none 0 0)
    (hA : i.op ≠ 21 → Ins i.ars (f.src m i).length) (hAl : i.ars.length ≤ 40000) (hSl : (f.src m i).length ≤ 40000)
    (HQ : Hid (∀ ρ' t' w' vX, PreArm ρ' t' w' fuel m base bp br bs bi g cap s13 v0 v1 vW vL u1 u2 u5 p limit words lines f a r i vX (argsF m f i) → ranS25.wp Try.prog Q ⟨t', []⟩ w')) :
    ranS20.wp Try.prog Q ⟨t, []⟩ w := by
  have c0 : w.cell? ⟨bi, 0, none⟩ = some (.int .i64 i.op) := by simp [World.cell?, h.box]
  have h11 := h.s11
  have h12 := h.s12
  have h13 := h.s13
  have h14 := h.s14
  have h15 := h.s15
  obtain ⟨i0, hi, hz0, hz1, hz2⟩ := info_parts info_int
  have H := Lib.hid h
  unfold ranS20
  conv => arg 2; whnf
  rw [frame473 t h.frame.size, h.frame.s2, h.frame.s3, h.frame.s4, h.frame.s8, h.frame.s9, h11, h12, h14, h15, h16, h17]
  subst h13
  clear h h11 h12 h14 h15 h16 h17
  have fin : ∀ (t' : Array Value) (ρ' : Nat → Option Lab) (w' : World) (vX : Value), AtInstr ρ' t w' fuel m base bp br bs bi g cap (slotOf t 13) v0 v1 vW vL u1 u2 u5 p limit words lines f a r i → FrameIs t' fuel m bp br bs → slotOf t' 11 = .slice (some ⟨g, 0, none⟩) (r.length + 1) cap → slotOf t' 12 = .int .i64 0 → slotOf t' 13 = slotOf t 13 → slotOf t' 14 = .pointer (some ⟨g, r.length * 6, none⟩) → slotOf t' 15 = .pointer (some ⟨bi, 0, none⟩) → slotOf t' 17 = vX →
      w'.ownsRow base 3 1 vX (argsF m f i).length ((argsF m f i).map (Value.int .i64)) → (∀ k, vX.ownBlock = some k → ρ' k = none ∧ k ≠ bi) →
      PreArm ρ' t' w' fuel m base bp br bs bi g cap (slotOf t 13) v0 v1 vW vL u1 u2 u5 p limit words lines f a r i vX (argsF m f i) := fun t' ρ' w' vX h k0 k1 k2 k3 k4 k5 k6 k7 k8 => { h with frame := k0, s11 := k1, s12 := k2, s13 := k3, s14 := k4, s15 := k5, s17 := k6, row := k7, nx := k8 }
  have FIN := Lib.hid fin
  clear fin
  by_cases h21 : i.op = 21
  · have d21 : (i.op != 21) = false := by simp [h21]
    have e : argsF m f i = [] := by simp [argsF, h21]
    rw [e] at FIN HQ
    clear hA e
    have H0 := Lib.hid (show w.ownsRow base 3 1 (.slice none 0 0) 0 ([].map (Value.int .i64)) from ⟨by simp, Or.inl ⟨rfl, rfl⟩⟩)
    generalize i.op = op at *
    go_upto_if 131 with fail
    go_cut [17, 18] from 132 to 149 (fun s17 s18 wx => s17 = .slice none 0 0 ∧ wx = w)
    case first =>
      go_wp2_with fail
      go_meet
      exact ⟨rfl, rfl⟩
    case rest =>
      obtain ⟨rfl, rfl⟩ := hcut
      rename_i K hK
      refine hK _ _ ?_
      show ranS25.wp _ Q _ _
      exact HQ.out _ _ _ _ (FIN.out _ _ _ _ H.out ⟨rfl, rfl, rfl, rfl, rfl, rfl⟩ rfl rfl rfl rfl rfl rfl H0.out (fun k hk => nomatch (show (none : Option Nat) = some k from hk)))
  · have d21 : (i.op != 21) = true := by simp [h21]
    have hA' := hA h21
    have e : argsF m f i = i.ars.map (getI (f.src m i)) := by simp [argsF, h21]
    rw [e] at FIN HQ
    clear hA e
    have hbase := H.out.run.big
    have hbi : bi < w.heap.size := (Array.getElem?_eq_some_iff.1 H.out.box).1
    go_upto_if 131 with fail
    go_cut [17, 18] from 132 to 149 (fun s17 s18 wx => ∃ ρ', AtInstr ρ' t wx fuel m base bp br bs bi g cap (slotOf t 13) v0 v1 vW vL u1 u2 u5 p limit words lines f a r i ∧ wx.ownsRow base 3 1 s17 (i.ars.map (getI (f.src m i))).length ((i.ars.map (getI (f.src m i))).map (Value.int .i64)) ∧ (∀ k, s17.ownBlock = some k → ρ' k = none ∧ k ≠ bi))
    case first =>
      obtain ⟨a2, c2, rfl, hc2, hm2, -⟩ := rInts_val H.out.i2
      go_wp2_with fail
      go_loopw [17, 18] (fun vX s wr => ∃ k : Nat, k ≤ i.ars.length ∧ s = .int .i64 k ∧ ∃ ρ', AtInstr ρ' t wr fuel m base bp br bs bi g cap (slotOf t 13) v0 v1 vW vL u1 (.slice a2 i.ars.length c2) u5 p limit words lines f a r i ∧ wr.ownsRow base 3 1 vX k (((i.ars.take k).map (getI (f.src m i))).map (Value.int .i64)) ∧ (∀ k, vX.ownBlock = some k → ρ' k = none ∧ k ≠ bi)) (fun _ s _ => i.ars.length - (intOf s).toNat)
      case atStart => exact ⟨0, Nat.zero_le _, rfl, ρ, H.out, ⟨by simp, Or.inl ⟨rfl, rfl⟩⟩, fun k hk => nomatch (show (none : Option Nat) = some k from hk)⟩
      case round =>
        obtain ⟨k, hk, rfl, ρ', hAt, hrow, hnx⟩ := hrel
        have cb : wr.cell? ⟨bi, 2, none⟩ = some (.slice a2 i.ars.length c2) := by simp [World.cell?, hAt.box]
        by_cases hlt : k < i.ars.length
        · have hlt1 : (k : Int) < i.ars.length := by omega
          have hk0 : (0 : Int) ≤ k := by omega
          obtain ⟨a2', c2', hv2, -, -, h2⟩ := rInts_val hAt.i2
          obtain ⟨b2, o2, ha2, hb2, hb2', hcx, -⟩ := h2 k hlt
          obtain rfl : a2 = some ⟨b2, o2, none⟩ := by rw [(Value.slice.inj hv2).1, ha2]
          have hin := hA' _ (List.getElem_mem hlt)
          have hsrc := hAt.run.src (m := m) (i := i)
          obtain ⟨j, hj⟩ := Int.eq_ofNat_of_zero_le hin.1
          have hjl : j < (f.src m i).length := by omega
          have hjl1 : (j : Int) < (f.src m i).length := by omega
          have hj0 : (0 : Int) ≤ j := by omega
          obtain ⟨gS, cS, hvS, -, -, -, hcS, -⟩ := row_get hsrc (i := j) (u := .int .i64 (f.src m i)[j]) (by simp [hjl])
          obtain rfl : srcBlock m i a = gS := by simpa using (Value.slice.inj hvS).1
          rw [hj] at hcx
          obtain ⟨aX, cX, rfl, hx1, hx2⟩ := row_slice hrow
          have hX := Lib.hid hAt
          have HX := Lib.hid hnx
          have Hta := Lib.hid (show ((i.ars.take k).map (getI (f.src m i))).map (Value.int .i64) ++ [.int .i64 (f.src m i)[j]] = ((i.ars.take (k + 1)).map (getI (f.src m i))).map (Value.int .i64) by
            rw [List.take_succ_eq_append_getElem hlt]
            simp only [List.map_append, List.map_cons, List.map_nil, hj]
            have : getI (f.src m i) (j : Int) = (f.src m i)[j] := by
              unfold getI
              rw [Int.toNat_natCast, List.getD_eq_getElem?_getD, List.getElem?_eq_getElem hjl]
              rfl
            rw [this])
          clear hAt hnx h2 hv2 ha2 hvS hj hin hsrc hA'
          generalize (f.src m i)[j] = x at *
          generalize ((i.ars.take k).map (getI (f.src m i))).map (Value.int .i64) = ys at *
          go_wp2_with (at_builtin; refine wpList_append_own_at _ rfl _ _ 25 rfl base 3 i0 (.int .i64 0) 1 8 Try.underlying25 hi hz0 hz1 hz2 rfl (by decide) _ _ _ rfl (hrow.alloc _) ⟨wr.heap.size, 0, none⟩ 1 1 [.int .i64 x] rfl rfl (cell_one_new _ _ _) (ints_oneCell .i64 [x]) (by unfold maxLen; omega) (by omega) (by have := hX.out.run.big; simp; omega) ?_)
          intro v' w1 hown' hgrow _ hloc
          obtain ⟨gg, cg, rfl⟩ : ∃ gg cg, v' = .slice (some ⟨gg, 0, none⟩) (k + 1) cg := by
            rcases hown'.2 with ⟨_, h⟩ | ⟨gg, cap', _, h, _⟩
            · omega
            · exact ⟨gg, cap', h⟩
          have s1 : Since (fun k' => (Value.slice aX k cX).ownBlock = some k') wr w1 := (Since.alloc _ _ _).trans (Since.grown hgrow)
          have hlt2 : ∀ k', (Value.slice aX k cX).ownBlock = some k' → base ≤ k' ∧ k' < wr.heap.size := hrow.lt
          have hq := hX.out.next s1 (fun k' e => HX.out k' e) (fun k' e => (hlt2 k' e).1)
          have hn : ∀ k', (Value.slice (some ⟨gg, 0, none⟩) (k + 1) cg).ownBlock = some k' → (fun k' => if k' < wr.heap.size then ρ' k' else none) k' = none ∧ k' ≠ bi := by
            intro k' e
            have hbi' : bi < wr.heap.size := (Array.getElem?_eq_some_iff.1 hX.out.box).1
            rcases hloc with e2 | e2
            · rw [e2] at e
              have := HX.out k' e
              exact ⟨by simp [this.1], this.2⟩
            · rw [e2] at e
              have e' : wr.heap.size + 1 = k' := by simpa using e
              have n1 : ¬ k' < wr.heap.size := by omega
              exact ⟨by simp [n1], by omega⟩
          have Hq := Lib.hid hq
          have Hn := Lib.hid hn
          clear hq hn hlt2 s1 hloc hgrow
          go_wp2_with fail
          refine ⟨⟨k + 1, by omega, by simp, _, Hq.out, ?_, Hn.out⟩, by simp only [intOf]; omega⟩
          rw [← Hta.out]
          exact hown'
        · have hke : k = i.ars.length := by omega
          subst hke
          have hlt1 : ¬ ((i.ars.length : Int) < i.ars.length) := by omega
          have hX := Lib.hid hAt
          have HX := Lib.hid hnx
          have HR := Lib.hid hrow
          clear hAt hnx hrow
          go_wp2_with fail
          go_meet
          refine ⟨ρ', hX.out, ?_, HX.out⟩
          have := HR.out
          rw [List.take_length] at this
          rw [List.length_map]
          exact this
    case rest =>
      obtain ⟨ρ', hAt, hrow, hnx⟩ := hcut
      rename_i K hK
      refine hK _ _ ?_
      show ranS25.wp _ Q _ _
      exact HQ.out _ _ _ _ (FIN.out _ _ _ _ hAt ⟨rfl, rfl, rfl, rfl, rfl, rfl⟩ rfl rfl rfl rfl rfl rfl hrow hnx)
end Go.Proofs.Ytaomlfbcfmmhlaa

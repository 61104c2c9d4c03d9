/-
  What code that may be (its Phis apart) is like: plain facts for the checks of code in which each variable is set once.
-/
import Derived.Test.YthgfdcoicihpdaaDoorOnceF
namespace Go.Proofs.YthgfdcoicihpdaaDoor
open Go.RowKit Go.Pst
set_option linter.unusedVariables false

theorem onceBlk {g : PInstr → Int} : ∀ {b : List PInstr}, blockF g b = 0 → ∀ j (h : j < b.length), g b[j] = 0
  | [], _, j, h => absurd h (by simp)
  | i :: r, hb, j, h => by
    unfold blockF at hb
    split at hb
    · rename_i hn; exact absurd hb hn
    rename_i hg
    split at hb
    · omega
    rcases j with _ | j
    · simpa using hg
    · simpa using onceBlk hb j (by simpa using h)
theorem onceBlks {g : PInstr → Int} {most : Nat} : ∀ {l : List (List PInstr)} {all : Nat}, blocksF g most l all = 0 → ∀ b ∈ l, b.length ≠ 0 ∧ blockF g b = 0
  | [], _, _, b, hb => absurd hb (by simp)
  | x :: r, all, h, b, hb => by
    unfold blocksF at h
    split at h
    · omega
    split at h
    · omega
    split at h
    · rename_i hn; exact absurd h hn
    rename_i h1 h2 h3
    rcases List.mem_cons.1 hb with rfl | hb
    · exact ⟨h1, by simpa using h3⟩
    · exact onceBlks h b hb
theorem onceInstr {fs : List PCode} {vars results : Int} {nb : Nat} {i : PInstr} (h : instrFaultF fs vars results nb i = 0) : i.op ≠ 14 ∧ inAll i.ds vars = true ∧ inAll i.ars vars = true := by
  unfold instrFaultF at h
  cases ha : arity i with
  | none => rw [ha] at h; simp at h
  | some q =>
    obtain ⟨d, a, t⟩ := q
    rw [ha] at h
    simp only at h
    split at h
    · omega
    split at h
    · omega
    rename_i h2
    refine ⟨fun e => ?_, ?_⟩
    · unfold arity at ha
      simp [e] at ha
    · have h2' : (inAll i.ds vars && inAll i.ars vars && inAll i.to nb) = true := by cases hh : (inAll i.ds vars && inAll i.ars vars && inAll i.to nb) <;> simp_all
      rw [Bool.and_eq_true, Bool.and_eq_true] at h2'
      exact h2'.1
structure OnceOK (c : PCode) : Prop where
  some_ : 0 < c.blocks.length ∧ c.blocks.length ≤ 2000
  pars : 0 ≤ c.params ∧ c.params ≤ c.vars ∧ c.vars ≤ 3000
  blk : ∀ b ∈ c.blocks, phisN b < b.length ∧ ∀ k (hk : k < b.length), phisN b ≤ k → b[k].op ≠ 14 ∧ inAll b[k].ds c.vars = true ∧ inAll b[k].ars c.vars = true
theorem onceOK {fs : List PCode} {c : PCode} (h : codeFaultF fs (plainF c) = 0) : OnceOK c := by
  have hl : (plainF c).blocks.length = c.blocks.length := by simp [plainF]
  unfold codeFaultF at h
  split at h
  · omega
  split at h
  · omega
  split at h
  · omega
  rename_i h1 h2 h3
  rw [hl] at h1 h2 h
  simp only [show (plainF c).vars = c.vars from rfl, show (plainF c).params = c.params from rfl, show (plainF c).results = c.results from rfl, show (plainF c).slots = c.slots from rfl] at h2 h3 h
  refine ⟨by omega, by omega, fun b hb => ?_⟩
  obtain ⟨g1, g2⟩ := onceBlks h (b.drop (phisN b)) (List.mem_map.2 ⟨b, hb, rfl⟩)
  rw [List.length_drop] at g1
  refine ⟨by omega, fun k hk hp => ?_⟩
  have := onceBlk g2 (k - phisN b) (by rw [List.length_drop]; omega)
  rw [List.getElem_drop] at this
  have e : phisN b + (k - phisN b) = k := by omega
  simp only [e] at this
  exact onceInstr this
/-- Where no Phi is refused, a Phi has an argument for each block ahead. -/
theorem phi_args {c : PCode} {A : Nat → Nat} (ho : OnceOK c) (hb : blocksPhis c A 0 = 0) {i k : Nat} (hi : i < c.blocks.length) (hk : k < c.blocks[i].length) (hp : c.blocks[i][k].op = 14) : c.blocks[i][k].ars.length = A i := by
  have hlt : k < phisN c.blocks[i] := by
    apply Classical.byContradiction
    intro hn
    exact ((ho.blk _ (List.getElem_mem hi)).2 k hk (by omega)).1 hp
  exact (phiFault_ok (blocksPhis_ok hb hi hlt hk)).2.1
/-- All settings lie among the variables. -/
theorem ds_in {c : PCode} {A : Nat → Nat} (ho : OnceOK c) (hb : blocksPhis c A 0 = 0) {i k : Nat} (hi : i < c.blocks.length) (hk : k < c.blocks[i].length) : inAll c.blocks[i][k].ds c.vars = true ∧ inAll c.blocks[i][k].ars c.vars = true := by
  by_cases h : phisN c.blocks[i] ≤ k
  · exact ((ho.blk _ (List.getElem_mem hi)).2 k hk h).2
  · have := phiFault_ok (blocksPhis_ok hb hi (by omega) hk)
    exact ⟨this.2.2.2.1, this.2.2.2.2.1⟩
end Go.Proofs.YthgfdcoicihpdaaDoor

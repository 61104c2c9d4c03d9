/-
  The names of a program's functions: plain laws (each name once).
-/
import Derived.Test.YthgmaapebplimaaDoorFault
namespace Go.Pst

theorem nodupA_take_succ {α : Type} {l : List α} {n : Nat} (hn : n < l.length) (h : (l.take n).Nodup) (hne : ∀ j (hj : j < n), ¬ l[j] = l[n]) : (l.take (n + 1)).Nodup := by
  rw [List.take_succ_eq_append_getElem hn, List.nodup_append]
  refine ⟨h, by simp, ?_⟩
  intro a ha b hb e
  rw [List.mem_singleton] at hb
  subst hb
  obtain ⟨j, hj, hje⟩ := List.mem_iff_getElem.1 ha
  rw [List.length_take] at hj
  rw [List.getElem_take] at hje
  exact hne j (by omega) (hje.trans e)
theorem nodupA_not {α : Type} {l : List α} {m n : Nat} (hn : n < l.length) (hm : m < n) (h : l[m] = l[n]) : ¬ l.Nodup := by
  intro hd
  have := (List.nodup_iff_pairwise_ne.1 hd)
  rw [List.pairwise_iff_getElem] at this
  exact this m n (by omega) hn hm h

abbrev namesF (fs : List PCode) : List ByteArray := fs.map (·.name)
theorem names_step {fs : List PCode} {n : Nat} (hn : n < fs.length) (h : ((namesF fs).take n).Nodup) (ha : nameAt fs[n].name fs = (n : Int)) : ((namesF fs).take (n + 1)).Nodup := by
  refine nodupA_take_succ (by simpa using hn) h (fun j hj e => ?_)
  rcases firstOf_spec (fun c : PCode => decide (c.name = fs[n].name)) fs 0 with ⟨h1, _⟩ | ⟨i, hi, h1, _, h3⟩
  · have : nameAt fs[n].name fs = -1 := h1
    omega
  · have h1' : nameAt fs[n].name fs = ((0 + i : Nat) : Int) := h1
    obtain rfl : i = n := by omega
    have := h3 j hj
    simp at this e
    exact this e
theorem names_bad {fs : List PCode} {n : Nat} (hn : n < fs.length) (ha : ¬ nameAt fs[n].name fs = (n : Int)) : ¬ (namesF fs).Nodup := by
  rcases firstOf_spec (fun c : PCode => decide (c.name = fs[n].name)) fs 0 with ⟨_, h2⟩ | ⟨i, hi, h1, h2, h3⟩
  · exfalso
    rw [List.any_eq_false] at h2
    exact h2 _ (List.getElem_mem hn) (by simp)
  · have h1' : nameAt fs[n].name fs = ((0 + i : Nat) : Int) := h1
    rcases Nat.lt_trichotomy i n with h | h | h
    · exact nodupA_not (by simpa using hn) h (by simpa using h2)
    · exact absurd (by rw [h1', h]; simp) ha
    · have := h3 n h
      simp at this
theorem names_any {fs : List PCode} {n : Nat} (hn : n < fs.length) : ((fs.take n).any fun c => decide (c.name = fs[n].name)) = false ↔ ∀ j (hj : j < n), ¬ (namesF fs)[j]'(by simp; omega) = (namesF fs)[n]'(by simpa using hn) := by
  rw [List.any_eq_false]
  constructor
  · intro h j hj e
    refine h fs[j] (List.mem_iff_getElem.2 ⟨j, by rw [List.length_take]; omega, by rw [List.getElem_take]⟩) ?_
    simpa using e
  · intro h c hc hd
    obtain ⟨j, hj, rfl⟩ := List.mem_iff_getElem.1 hc
    rw [List.length_take] at hj
    refine h j (by omega) ?_
    simpa using hd
end Go.Pst

/-
  Rows of one's own: element by element; how they read (plain memory).
-/
import Derived.Test.YthgmaapebplimaaLit
import Derived.Test.YthgmaapebplimaaSep
namespace Go.Pst
open Go.RowKit
set_option linter.unusedVariables false
set_option linter.unusedSimpArgs false

theorem rAll_keep {α : Type} {sz : Nat} {R : Rep α} [g : Good R] {S S' : Nat → Prop} {w w' : World} (hk : Keep S w w') (hs : ∀ k, k < w.heap.size → S k → S' k) : ∀ {ess : List (List Value)} {l : List α}, rAll sz R S w ess l → rAll sz R S' w' ess l
  | [], [], _ => trivial
  | _ :: _, _ :: _, h => ⟨⟨h.1.1, g.keep hk hs h.1.2⟩, rAll_keep hk hs h.2⟩
theorem rAll_snoc {α : Type} {sz : Nat} {R : Rep α} {S : Nat → Prop} {w : World} {es : List Value} {x : α} (h1 : es.length = sz) (h2 : R S w es x) : ∀ {ess : List (List Value)} {l : List α}, rAll sz R S w ess l → rAll sz R S w (ess ++ [es]) (l ++ [x])
  | [], [], _ => ⟨⟨h1, h2⟩, trivial⟩
  | _ :: _, _ :: _, h => ⟨h.1, rAll_snoc h1 h2 h.2⟩
theorem rSlice_ownN {α : Type} {sz : Nat} {R : Rep α} {S T : Nat → Prop} {w : World} {base : Nat} {e : TypeId} {v : Value} {l : List α} {ess : List (List Value)} (h : w.ownsRow base e sz v l.length ess.flatten) (hS : ∀ k, v.ownBlock = some k → S k) (hR : rAll sz R S w ess l) : rSlice sz R S w [v] l := by
  obtain ⟨hx, h⟩ := h
  rcases h with ⟨rfl, h0⟩ | ⟨g, cap, cur, rfl, hb, hg, hn, hm, hc, ht⟩
  · have : l = [] := List.eq_nil_of_length_eq_zero h0
    subst this
    exact rSlice_nil _ _ _ _
  · have hl := rAll_len hR
    refine ⟨_, cap, rfl, hn, hm, fun i hi => ⟨g, 0, ess[i]'(by omega), rfl, hS g (by simp [Value.ownBlock]), (Array.getElem?_eq_some_iff.1 hg).1, rAll_size hR _ (List.getElem_mem _), fun j hj => ?_, rAll_get hR i hi (by omega)⟩⟩
    rw [← flat_get ess i j (by omega) (rAll_size hR) hj, ← ht, List.getElem?_take, if_pos (by
      have : (i + 1) * sz ≤ l.length * sz := Nat.mul_le_mul_right _ hi
      rw [Nat.succ_mul] at this
      omega)]
    simp [World.cell?, hg]
end Go.Pst

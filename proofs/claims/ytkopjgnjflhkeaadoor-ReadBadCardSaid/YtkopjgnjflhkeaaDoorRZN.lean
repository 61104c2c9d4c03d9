/-
  Texts joined: ReadUse.
-/
import Derived.Test.YtkopjgnjflhkeaaDoorRZM

/-
  What read.Read asks for, in later worlds.
-/
namespace Go.Proofs.YtkopjgnjflhkeaaDoor
open Go.RowKit Go.Pst
set_option linter.unusedVariables false

theorem RdLaid.up {w : World} {base br base' br' : Nat} (h : RdLaid w base br) (h1 : base ≤ base') (h2 : base' ≤ br') (h3 : base' ≤ w.heap.size) : RdLaid w base' br' := by
  have hl := h.lt
  refine ⟨⟨h2, h3⟩, ⟨by omega, by omega, by omega⟩, ?_, h.marks, fun n hn => ?_⟩
  · obtain ⟨a, cap, e1, e2⟩ := h.words
    exact ⟨a, cap, e1, fun i hi => by obtain ⟨b, off, e, hb, hc⟩ := e2 i hi; exact ⟨b, off, e, by omega, hc⟩⟩
  · obtain ⟨a, cap, e1, e2⟩ := h.levels n hn
    exact ⟨a, cap, e1, fun i hi => by obtain ⟨b, off, e, hb, hc⟩ := e2 i hi; exact ⟨b, off, e, by omega, hc⟩⟩
theorem ReadLaid.later {w w' : World} (h : ReadLaid w) (hs : Since (fun _ => False) w w') : ReadLaid w' :=
  ⟨(h.rd.since hs (fun _ f => f.elim)).up hs.size (Nat.le_refl _) (Nat.le_refl _), h.tab.since hs (fun f => f), h.err.since hs (fun f => f)⟩
end Go.Proofs.YtkopjgnjflhkeaaDoor

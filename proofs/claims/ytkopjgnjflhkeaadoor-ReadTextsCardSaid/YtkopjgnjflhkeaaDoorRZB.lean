/-
  Texts joined: Tab.
-/
import Derived.Test.YtkopjgnjflhkeaaDoorRA
import Derived.Test.YtkopjgnjflhkeaaDoorProg
import Derived.Lib.LaidTab
import Derived.Lib.ItoaMem
import Derived.Test.YtkopjgnjflhkeaaDoorShelf

/-
  strconv's table of powers, as the rows lay it.
-/
namespace Go.Proofs.YtkopjgnjflhkeaaDoor
open Go.RowKit Go.Pst
set_option linter.unusedVariables false
set_option linter.unusedSimpArgs false

/-- strconv's table of powers, as the rows lay it. -/
structure TabOK (w : World) : Prop where
  is_ : Lib.TabIs Tryd.prog w "internal/strconv.uint64pow10" .u64 Lib.pow10Tab
  lt : 5 < w.heap.size
theorem TabOK.since {F : Nat → Prop} {w w' : World} (h : TabOK w) (hs : Since F w w') (hF : ¬ F 5) : TabOK w' := by
  refine ⟨?_, Nat.lt_of_lt_of_le h.lt hs.size⟩
  have h1 := h.is_
  have hg : Tryd.prog.globalNamed "internal/strconv.uint64pow10" = some 5 := by kernel_rfl
  unfold Lib.TabIs World.var? at *
  rw [hg] at h1 ⊢
  simp only [Option.bind_some] at h1 ⊢
  rw [hs.block _ h.lt hF]
  exact h1
end Go.Proofs.YtkopjgnjflhkeaaDoor

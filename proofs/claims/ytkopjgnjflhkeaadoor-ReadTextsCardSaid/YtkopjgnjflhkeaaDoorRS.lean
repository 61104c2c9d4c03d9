/-
  Texts joined: TailD.
-/
import Derived.Test.YtkopjgnjflhkeaaDoorRG
import Derived.Defers

/-
  Plain law: in a function that defers, a panic does not see what a slot beside its results holds (so regions may be walked by XTail there, too).
-/
namespace Go.Pst
open Go
variable {P : Program} {fn : Func} {R : Ending → World → Prop}
theorem leaves_congr {t t' : Array Value} (hr : ∀ w, (results fn t).run P w = (results fn t').run P w) : ∀ (ds : List Deferred) (u : FrameMode) (w : World), Leaves P fn t R ds u w → Leaves P fn t' R ds u w
  | [], .returning, w, h => by
    obtain ⟨v, h1, h2⟩ := h
    exact ⟨v, (hr w).symm.trans h1, h2⟩
  | [], .panicking c, w, h => h
  | [], .run, w, h => h
  | d :: ds, u, w, h => by
    obtain ⟨h0, fv, cap, f, args, h1, h2, h3⟩ := h
    refine ⟨h0, fv, cap, f, args, h1, h2, h3.mono ?_⟩
    intro e u' w' h4
    match e, h4 with
    | .returned _, h4 => exact leaves_congr hr ds _ _ h4
    | .panicked _, h4 => exact leaves_congr hr ds _ _ h4
    | .outgrown, h4 => exact h4
theorem panicD {a a' : Act} {c : List PanicEntry} {w : World} (hr : ∀ w, (results fn a.tmps).run P w = (results fn a'.tmps).run P w) (hd : a.defers = a'.defers) (h : bodyPostD P fn R (.panic c) a w) : bodyPostD P fn R (.panic c) a' w := by
  show Leaves P fn a'.tmps R a'.defers (.panicking c) w
  rw [← hd]
  exact leaves_congr hr _ _ _ h
end Go.Pst

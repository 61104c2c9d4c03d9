/-
  From the card's condition on vm.maths to what the walks ask (VmLaid); the door's own heap meets the condition.
-/
import Derived.Test.YthgmaapebplimaaDoorVmCase
import Derived.ProofKit
import Derived.LaidMore
import Derived.OpenShut
import Derived.Stop.Joined
namespace Go.Proofs.YthgmaapebplimaaDoor
open Go.ChangeShapes Go.WideShapes Go.ChangeAt Go.RowKit Go.Pst
set_option linter.unusedVariables false

abbrev vmTables : List (String × DataW Unit) := [("postern/vm.maths", Rows.laid_postern_vm_maths)]
theorem gVmMaths : Tryd.prog.globalNamed "postern/vm.maths" = some 2 := by kernel_rfl
theorem tVmMaths : (Tryd.prog.globals[2]?).map (·.type) = some 47 := by kernel_rfl

theorem lt_of_cell3 {W : World} {b o : Nat} {v : Value} (h : W.cell? ⟨b, o, none⟩ = some v) : b < W.heap.size := by
  rcases Nat.lt_or_ge b W.heap.size with h' | h'
  · exact h'
  · simp [World.cell?, Array.getElem?_eq_none h'] at h

theorem vmLaid_of {W : World} (h : laidMetH Tryd.prog vmTables W) : VmLaid W := by
  rw [MakeChecks.laidMetH_plain _ _ _ (by kernel_rfl)] at h
  obtain ⟨ps, ⟨g0, t0, cs0, f0, p0, q0, hg0, ht0, hv0, hd0, _, _⟩, _, _⟩ := h
  obtain rfl := Option.some.inj (gVmMaths.symm.trans hg0)
  obtain rfl := Option.some.inj (tVmMaths.symm.trans ht0)
  have maths : ∃ a cap, W.cell? ⟨2, 0, none⟩ = some (.slice a 11 cap) ∧ StrsAt W a mathsF := by
    obtain ⟨a, cap, hcs, hle, hrow⟩ := open_row Tryd.underlying47 (by kernel_rfl) hd0
    have hc := World.var?_cell hg0 hv0 0
    rw [Array.eq_one_of_toList hcs] at hc
    have key : ∀ i (h : i < mathsF.length), W.cell? (a.add i) = some (.string mathsF[i]) := by
      intro i hi
      have hdat : ∀ (i : Nat) (h : i < mathsF.length), ([.lit (.string [43]), .lit (.string [45]), .lit (.string [42]), .lit (.string [47]), .lit (.string [37]), .lit (.string [61, 61]), .lit (.string [33, 61]), .lit (.string [60]), .lit (.string [60, 61]), .lit (.string [62]), .lit (.string [62, 61])] : List (DataW Unit))[i]? = some (.lit (.string mathsF[i].data.toList)) := by
        intro i h
        have h' : i < 11 := h
        match i, h' with
        | 0, _ | 1, _ | 2, _ | 3, _ | 4, _ | 5, _ | 6, _ | 7, _ | 8, _ | 9, _ | 10, _ => rfl
      obtain ⟨v, n, q, hv, ht⟩ := hrow i _ (hdat i hi)
      obtain ⟨t, e1, e2, _⟩ := DataW.trod_string Tryd.underlying9 ht
      simp only [Prod.mk.injEq, DataW.lit.injEq, Lit.string.injEq, List.cons.injEq, and_true] at e1 e2
      rw [hv, e1]
      congr 2
      exact ByteArray.ext (Array.toList_inj.mp e2.1.symm)
    obtain ⟨b, off, spot⟩ := a
    have hspot : spot = none := by
      have := key 0 (by decide)
      simpa [Addr.add] using World.cell?_spot this
    subst hspot
    have hadd : ∀ k, (⟨b, off, none⟩ : Addr).add k = ⟨b, off + k, none⟩ := by intro k; unfold Addr.add; split <;> simp_all
    refine ⟨some ⟨b, off, none⟩, cap, by simpa using hc, fun i hi => ⟨b, off, rfl, ?_, ?_⟩⟩
    · have := key i hi
      rw [hadd] at this
      exact lt_of_cell3 this
    · have := key i hi
      rw [hadd] at this
      exact this
  exact ⟨by obtain ⟨a, cap, h, _⟩ := maths; exact lt_of_cell3 h, maths⟩

/-- The door's own heap meets the condition. -/
theorem vm_door_met (os : Os) (args : Array Value) : laidMetH Tryd.prog vmTables ((World.doorLaid Tryd.prog 400 os).forCall (fun _ _ => 0) ⟨#[], args, []⟩).memory :=
  laidMetH_of_parts3 (fuel := 8) (laidMet_of_run' 8 (by kernel_rfl) (by kernel_rfl)) (by kernel_rfl) (by kernel_rfl)
end Go.Proofs.YthgmaapebplimaaDoor

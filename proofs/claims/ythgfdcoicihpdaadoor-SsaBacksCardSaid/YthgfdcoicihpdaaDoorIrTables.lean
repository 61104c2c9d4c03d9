/-
  From the card's condition on ir.rules, ir.maths to what the walks ask (IrLaid); the door's own heap meets the condition.
-/
import Derived.Test.YthgfdcoicihpdaaDoorIrLaid
import Derived.ProofKit
import Derived.LaidMore
import Derived.OpenShut
import Derived.Stop.Joined
namespace Go.Proofs.YthgfdcoicihpdaaDoor
open Go.ChangeShapes Go.WideShapes Go.ChangeAt Go.RowKit Go.Pst
set_option linter.unusedVariables false

abbrev irTables : List (String × DataW Unit) := [("postern/ir.rules", Rows.laid_postern_ir_rules), ("postern/ir.maths", Rows.laid_postern_ir_maths)]
theorem gRules : Tryd.prog.globalNamed "postern/ir.rules" = some 0 := by kernel_rfl
theorem gMaths : Tryd.prog.globalNamed "postern/ir.maths" = some 1 := by kernel_rfl
theorem tRules : (Tryd.prog.globals[0]?).map (·.type) = some 76 := by kernel_rfl
theorem tMaths : (Tryd.prog.globals[1]?).map (·.type) = some 73 := by kernel_rfl

theorem lt_of_cell {W : World} {b o : Nat} {v : Value} (h : W.cell? ⟨b, o, none⟩ = some v) : b < W.heap.size := by
  rcases Nat.lt_or_ge b W.heap.size with h' | h'
  · exact h'
  · simp [World.cell?, Array.getElem?_eq_none h'] at h

set_option maxRecDepth 100000 in
/-- Three numbers, read as a struct of three ints. -/
theorem three_open {W : World} {base : Nat} {sp : Nat → Bool} {held : Bool} {m : Nat} {L : List Value} {y : DataW Unit × List MemPlace}
    (h : DataW.trod (fun _ => ()) Tryd.prog W base sp held m 75 L = some y) :
    ∃ n0 n1 n2 : Int, L = [.int .i64 n0, .int .i64 n1, .int .i64 n2] ∧ y.1 = .agg [.lit (.int .i64 n0), .lit (.int .i64 n1), .lit (.int .i64 n2)] := by
  obtain ⟨ys, n, _, rfl, hcl, hyl, hf⟩ := DataW.trod_struct Tryd.underlying75 h
  have c3 : Tryd.prog.cellsOf 75 = 3 := by kernel_rfl
  have c1 : Tryd.prog.cellsOf 3 = 1 := by kernel_rfl
  rw [c3] at hcl
  match L, hcl, ys, (show ys.length = 3 by simpa using hyl) with
  | [a0, a1, a2], _, [y0, y1, y2], _ =>
    have f0 := hf 0 _ rfl
    have f1 := hf 1 _ rfl
    have f2 := hf 2 _ rfl
    simp [c1] at f0 f1 f2
    obtain ⟨n0, e0, g0, _⟩ := DataW.trod_int Tryd.underlying3 f0
    obtain ⟨n1, e1, g1, _⟩ := DataW.trod_int Tryd.underlying3 f1
    obtain ⟨n2, e2, g2, _⟩ := DataW.trod_int Tryd.underlying3 f2
    simp only [List.cons.injEq, and_true] at e0 e1 e2
    subst e0 e1 e2
    exact ⟨n0, n1, n2, rfl, by simp [g0, g1, g2]⟩

set_option maxRecDepth 100000 in
theorem irLaid_of {W : World} (h : laidMetH Tryd.prog irTables W) : IrLaid W := by
  rw [MakeChecks.laidMetH_plain _ _ _ (by kernel_rfl)] at h
  obtain ⟨ps, ⟨g0, t0, cs0, f0, p0, q0, hg0, ht0, hv0, hd0, ⟨g1, t1, cs1, f1, p1, q1, hg1, ht1, hv1, hd1, _, _⟩, _⟩, _, _⟩ := h
  obtain rfl := Option.some.inj (gRules.symm.trans hg0)
  obtain rfl := Option.some.inj (gMaths.symm.trans hg1)
  obtain rfl := Option.some.inj (tRules.symm.trans ht0)
  obtain rfl := Option.some.inj (tMaths.symm.trans ht1)
  have rules : ∀ k, k < 14 → W.cell? ⟨0, k * 3, none⟩ = some (.int .i64 (ruleF k).1) ∧ W.cell? ⟨0, k * 3 + 1, none⟩ = some (.int .i64 (ruleF k).2.1) ∧ W.cell? ⟨0, k * 3 + 2, none⟩ = some (.int .i64 (ruleF k).2.2) := by
    intro k hk
    obtain ⟨xs, m, rfl, hx1, hlen, hn3, hel⟩ := DataW.trod_array Tryd.underlying76 hd0
    have h0 := hel k hk
    have c3 : Tryd.prog.cellsOf 75 = 3 := by kernel_rfl
    rw [c3] at h0
    simp only [Prod.mk.injEq, DataW.agg.injEq, Rows.laid_postern_ir_rules] at hx1
    obtain ⟨n0, n1, n2, hL, hy⟩ := three_open (h0.trans (List.getElem?_eq_getElem (by omega)))
    have hd := congrArg (fun l => l[k]?) hx1.1
    simp only [List.getElem?_map, List.getElem?_eq_getElem (show k < xs.length by omega), Option.map_some, hy] at hd
    have cell : ∀ j, j < 3 → W.cell? ⟨0, k * 3 + j, none⟩ = [Value.int .i64 n0, Value.int .i64 n1, Value.int .i64 n2][j]? := by
      intro j hj
      rw [World.var?_cell hg0 hv0, ← hL, List.getElem?_take, if_pos hj, List.getElem?_drop]
      simp
    have k0 := cell 0 (by omega)
    have k1 := cell 1 (by omega)
    have k2 := cell 2 (by omega)
    simp only [Nat.add_zero] at k0
    have : n0 = (ruleF k).1 ∧ n1 = (ruleF k).2.1 ∧ n2 = (ruleF k).2.2 := by
      clear k0 k1 k2 cell hL h0 hel hlen hx1 hy
      match k, hk with
      | 0, _ | 1, _ | 2, _ | 3, _ | 4, _ | 5, _ | 6, _ | 7, _ | 8, _ | 9, _ | 10, _ | 11, _ | 12, _ | 13, _ =>
        simp at hd
        obtain ⟨rfl, rfl, rfl⟩ := hd
        exact ⟨rfl, rfl, rfl⟩
    obtain ⟨rfl, rfl, rfl⟩ := this
    exact ⟨k0, k1, k2⟩
  have maths : ∃ a cap, W.cell? ⟨1, 0, none⟩ = some (.slice a 11 cap) ∧ StrsAt W a mathsF := by
    obtain ⟨a, cap, hcs, hle, hrow⟩ := open_row Tryd.underlying73 (by kernel_rfl) hd1
    have hc := World.var?_cell hg1 hv1 0
    rw [Array.eq_one_of_toList hcs] at hc
    have key : ∀ i (h : i < mathsF.length), W.cell? (a.add i) = some (.string mathsF[i]) := by
      intro i hi
      have hdat : ∀ (i : Nat) (h : i < mathsF.length), ([.lit (.string [43]), .lit (.string [45]), .lit (.string [42]), .lit (.string [47]), .lit (.string [37]), .lit (.string [61, 61]), .lit (.string [33, 61]), .lit (.string [60]), .lit (.string [60, 61]), .lit (.string [62]), .lit (.string [62, 61])] : List (DataW Unit))[i]? = some (.lit (.string mathsF[i].data.toList)) := by
        intro i h
        have h' : i < 11 := h
        match i, h' with
        | 0, _ | 1, _ | 2, _ | 3, _ | 4, _ | 5, _ | 6, _ | 7, _ | 8, _ | 9, _ | 10, _ => rfl
      obtain ⟨v, n, q, hv, ht⟩ := hrow i _ (hdat i hi)
      obtain ⟨t, e1, e2, _⟩ := DataW.trod_string Tryd.underlying9 ht
      simp only [Prod.mk.injEq, DataW.lit.injEq, Lit.string.injEq, List.cons.injEq, and_true] at e1 e2
      rw [hv, e1]
      congr 2
      exact ByteArray.ext (Array.toList_inj.mp e2.1.symm)
    obtain ⟨b, off, spot⟩ := a
    have hspot : spot = none := by
      have := key 0 (by decide)
      simpa [Addr.add] using World.cell?_spot this
    subst hspot
    have hadd : ∀ k, (⟨b, off, none⟩ : Addr).add k = ⟨b, off + k, none⟩ := by intro k; unfold Addr.add; split <;> simp_all
    refine ⟨some ⟨b, off, none⟩, cap, by simpa using hc, fun i hi => ⟨b, off, rfl, ?_, ?_⟩⟩
    · have := key i hi
      rw [hadd] at this
      exact lt_of_cell this
    · have := key i hi
      rw [hadd] at this
      exact this
  exact ⟨⟨lt_of_cell (rules 0 (by omega)).1, by obtain ⟨a, cap, h, _⟩ := maths; exact lt_of_cell h⟩, rules, maths⟩

/-- The door's own heap meets the condition. -/
theorem ir_door_met (os : Os) (args : Array Value) : laidMetH Tryd.prog irTables ((World.doorLaid Tryd.prog 400 os).forCall (fun _ _ => 0) ⟨#[], args, []⟩).memory :=
  laidMetH_of_parts3 (fuel := 8) (laidMet_of_run' 8 (by kernel_rfl) (by kernel_rfl)) (by kernel_rfl) (by kernel_rfl)
end Go.Proofs.YthgfdcoicihpdaaDoor

/-
  Texts joined: Build.
-/
import Derived.Test.YtkopjgnjflhkeaaDoorRA
import Derived.Test.YtkopjgnjflhkeaaDoorProg
import Derived.Lib.Builder

/-
  strings.Builder, of a builder that the call itself has made: copyCheck, WriteByte: contracts.
-/
namespace Go.Proofs.YtkopjgnjflhkeaaDoor
open Go.RowKit Go.Pst
set_option linter.unusedVariables false
set_option linter.unusedSimpArgs false

theorem info_builder : (Tryd.prog.info? 86).map (·.size) = some 2 := by kernel_rfl
theorem info_byte : (Tryd.prog.info? 5).map (fun i => (i.zero, i.size, i.bytes)) = some (some (.int .u8 0), 1, 1) := by kernel_rfl
theorem lies_builder : liesAt Tryd.prog Tryd.prog.depth 86 (2 / Tryd.prog.cellsOf 86) 0 86 1 = true := by kernel_rfl

set_option maxRecDepth 100000 in
theorem copyCheck_any (B b : Nat) (bs : List Value) (w : World) (h : Lib.IsBuilder 86 5 B b bs w) :
    Calls Tryd.prog 59 #[.pointer (some ⟨b, 0, none⟩)] w fun e w' => e = .returned (.tuple #[]) ∧ Lib.BuilderAt 86 5 B b (.pointer (some ⟨b, 0, none⟩)) bs w' ∧ Below B w w' := by
  obtain ⟨j, hj, hjs⟩ := Option.map_eq_some_iff.1 info_builder
  rcases h with h | h
  · have c0 := h.cell0
    have hsh := h.shape
    have f0 := h.frozen0
    have H := Lib.hid h
    have Hsh := Lib.hid hsh
    clear h hsh
    go_enter Tryd.func59, Tryd.ntmps59
    go_wp2_with fail
    rw [Lib.run_to_unsafe w ⟨b, 0, none⟩ Tryd.underlying83 Tryd.underlying117 hj (by rw [hjs]; decide) Hsh.out (Nat.zero_lt_succ 1)]
    simp only [Result.andThen]
    rw [Oper.upon_value]
    go_wp2_with fail
    rw [run_callFunc_extern Tryd.func74 (by kernel_rfl) (by kernel_rfl) (by kernel_rfl) (e := Extern.AbiNoEscape.same) (by kernel_rfl), Lib.run_noEscape]
    simp only [Result.andThen]
    rw [Oper.upon_value]
    go_wp2_with fail
    rw [Lib.run_from_unsafe w ⟨b, 0, none⟩ Tryd.underlying117 Tryd.underlying83 hj Hsh.out lies_builder]
    simp only [Result.andThen]
    rw [Oper.upon_value]
    go_wp2_with fail
    go_end0
    exact ⟨rfl, H.out.used _, (Below.refl B w).setCell (p := ⟨b, 0, none⟩) H.out.1 _⟩
  · have c0 := h.cell0
    have H := Lib.hid h
    clear h
    go_enter Tryd.func59, Tryd.ntmps59
    go_wp2_with fail
    rw [Lib.run_neq_ptr_same w _ Tryd.underlying83 hj]
    go_wp2_with fail
    go_end0
    exact ⟨rfl, H.out, Below.refl B _⟩

set_option maxRecDepth 100000 in
theorem writeByte_any (B b : Nat) (bs : List Value) (c : Int) (w : World) (h : Lib.IsBuilder 86 5 B b bs w) (hlen : bs.length + 1 ≤ 140737488355328) (hBw : B ≤ w.heap.size) :
    Calls Tryd.prog 44 #[.pointer (some ⟨b, 0, none⟩), .int .u8 c] w fun e w' => e = .returned .nilIface ∧ Lib.BuilderAt 86 5 B b (.pointer (some ⟨b, 0, none⟩)) (bs ++ [.int .u8 c]) w' ∧ Below B w w' := by
  obtain ⟨i0, hi, hz0, hz1, hz2⟩ := info_parts info_byte
  have Hh := Lib.hid h
  clear h
  go_enter Tryd.func44, Tryd.ntmps44
  go_wp2_with fail
  refine (copyCheck_any B b bs w Hh.out).mono ?_
  rintro e w1 ⟨rfl, h1, hb1⟩
  have hlt := h1.lt
  have c0 := h1.cell0
  obtain ⟨hB, v, hbk, hown, hne⟩ := h1
  have c1 : w1.cell? ⟨b, 1, none⟩ = some v := by rw [Lib.cell_of_heap hbk]; rfl
  obtain ⟨ao, co, rfl, -, -⟩ := row_slice hown
  have hz := hb1.size
  have Hbk := Lib.hid hbk
  have Hb1 := Lib.hid hb1
  have Hne := Lib.hid hne
  have Hown := Lib.hid hown
  clear hbk hb1 hne
  go_wp2_with (at_builtin; refine wpList_append_own _ rfl _ _ 84 rfl B 5 i0 (.int .u8 0) 1 1 Tryd.underlying84 hi hz0 hz1 hz2 rfl (by decide) _ _ _ rfl (hown.alloc _) ⟨w1.heap.size, 0, none⟩ 1 1 [.int .u8 c] rfl rfl (cell_one_new _ _ _) (by intro u hu; simp at hu; subst hu; rfl) (by unfold maxLen; omega) (by omega) (by simp; omega) ?_)
  intro v' w2 hown' hgrow _
  have sg : Since (fun k => (Value.slice ao bs.length co).ownBlock = some k) w1 w2 := (Since.alloc _ _ _).trans (Since.grown hgrow)
  have hb2 := (sg.block b hlt Hne.out).trans Hbk.out
  have d0 := (sg.cell (o := 0) hlt Hne.out).trans c0
  have d1 : w2.cell? ⟨b, 1, none⟩ = some (.slice ao bs.length co) := by rw [Lib.cell_of_heap hb2]; rfl
  have f1 : w2.frozen? ⟨b, 1, none⟩ = false := Lib.frozen_of_heap hb2 1
  obtain ⟨g, cap, rfl⟩ : ∃ g cap, v' = .slice (some ⟨g, 0, none⟩) (bs.length + 1) cap := by
    rcases hown'.2 with ⟨_, h0⟩ | ⟨g, cap, cur, hv, _⟩
    · omega
    · exact ⟨g, cap, hv⟩
  have Hb2 := Lib.hid hb2
  have Hown' := Lib.hid hown'
  have Hsg := Lib.hid sg
  clear hb2 hown' sg hgrow hown c0 c1
  go_wp2_with fail
  go_ret
  refine ⟨rfl, Lib.BuilderAt.put (T := 86) (e := 5) hB Hb2.out (bs' := bs ++ [.int .u8 c]) (by simpa using Hown'.out) (by decide), ?_⟩
  exact (Hb1.out.trans (Hsg.out.below (by omega) (fun k e => (Hown.out.lt k e).1))).setCell (p := ⟨b, 1, none⟩) hB _
end Go.Proofs.YtkopjgnjflhkeaaDoor

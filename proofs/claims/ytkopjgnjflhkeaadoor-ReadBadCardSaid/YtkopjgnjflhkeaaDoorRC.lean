/-
  Texts joined: RdExpr.
-/
import Derived.Test.YtkopjgnjflhkeaaDoorRB
import Derived.Defers

/-
  The reader's expr: one level more, the operators, and the closure that it defers.
-/
namespace Go.Pst
open Go.RowKit
set_option linter.unusedVariables false
def RSt.up (st : RSt) : RSt := { st with depth := RowKit.wrap64 (st.depth - 1) }
theorem Good'.up {α : Type} {T : List Tok} {dep : Int} {res : Except (Int × Int) (α × List Tok)} {x : α} {st : RSt} (h : Good' T dep res x st) (h0 : 0 ≤ dep) (h1 : dep ≤ 31) : Good' T (dep - 1) res x st.up := by
  match res, h with
  | .ok (y, r), h =>
    obtain ⟨h2, h3, h4, h5⟩ := h
    refine ⟨h2, h3, ?_, h5⟩
    show RowKit.wrap64 (st.depth - 1) = dep - 1
    rw [h4]
    unfold RowKit.wrap64
    omega
  | .error (p, e), h => exact h

end Go.Pst
namespace Go.Proofs.YtkopjgnjflhkeaaDoor
open Go.RowKit Go.Pst
set_option linter.unusedVariables false
set_option linter.unusedSimpArgs false
variable {w : World} {br bT cap base : Nat} {T : List Tok} {st : RSt} {dep : Int}

def LevelOK (d n : Nat) : Prop := ∀ (w : World) (br bT cap base : Nat) (T : List Tok) (st : RSt), RdAt w br bT cap T st → RdLaid w base br → st.fault = 0 → st.depth = 30 - (d : Int) →
  Calls Tryd.prog 77 #[.pointer (some ⟨br, 0, none⟩), .int .i64 n] w (RdX w br bT cap T (30 - (d : Int)) (levelR (unaryR d) (5 - n) (T.drop st.i)))
theorem readExprLeave_any (h : RdAt w br bT cap T st) (bx : Nat) (hb : w.cell? ⟨bx, 0, none⟩ = some (.pointer (some ⟨br, 0, none⟩))) (u : FrameMode) :
    CallsD Tryd.prog 76 #[.pointer (some ⟨bx, 0, none⟩)] u w fun e u' w' => u' = u ∧ (e = .returned (.tuple #[]) ∧ RdAt w' br bT cap T st.up ∧ Since (fun k => k = br) w w') := by
  have c4 := h.c4
  have z := h.z
  obtain ⟨dv, hdv⟩ : ∃ dv, RowKit.wrap64 (st.depth - 1) = dv := ⟨_, rfl⟩
  have hset : RdAt (w.setCell ⟨br, 4, none⟩ (.int .i64 dv)) br bT cap T st.up := h.set 4 dv st.up (by simp) (by simp [RSt.up]) (by simp [RSt.up]) (by simp [RSt.up]) (by simp [RSt.up, hdv]) h.inn
  have HP := Lib.hid (And.intro hset (Since.setCell w ⟨br, 4, none⟩ (.int .i64 dv)))
  have Hdv := Lib.hid hdv
  clear h hset hdv
  go_enter_d Tryd.func76, Tryd.ntmps76
  go_wp2
  go_end0
  rw [Hdv.out]
  exact ⟨rfl, HP.out.1, HP.out.2⟩
theorem readUnaryLeave_any (h : RdAt w br bT cap T st) (bx : Nat) (hb : w.cell? ⟨bx, 0, none⟩ = some (.pointer (some ⟨br, 0, none⟩))) (u : FrameMode) :
    CallsD Tryd.prog 89 #[.pointer (some ⟨bx, 0, none⟩)] u w fun e u' w' => u' = u ∧ (e = .returned (.tuple #[]) ∧ RdAt w' br bT cap T st.up ∧ Since (fun k => k = br) w w') := by
  have c4 := h.c4
  have z := h.z
  obtain ⟨dv, hdv⟩ : ∃ dv, RowKit.wrap64 (st.depth - 1) = dv := ⟨_, rfl⟩
  have hset : RdAt (w.setCell ⟨br, 4, none⟩ (.int .i64 dv)) br bT cap T st.up := h.set 4 dv st.up (by simp) (by simp [RSt.up]) (by simp [RSt.up]) (by simp [RSt.up]) (by simp [RSt.up, hdv]) h.inn
  have HP := Lib.hid (And.intro hset (Since.setCell w ⟨br, 4, none⟩ (.int .i64 dv)))
  have Hdv := Lib.hid hdv
  clear h hset hdv
  go_enter_d Tryd.func89, Tryd.ntmps89
  go_wp2
  go_end0
  rw [Hdv.out]
  exact ⟨rfl, HP.out.1, HP.out.2⟩
theorem readBlockLeave_any (h : RdAt w br bT cap T st) (bx : Nat) (hb : w.cell? ⟨bx, 0, none⟩ = some (.pointer (some ⟨br, 0, none⟩))) (u : FrameMode) :
    CallsD Tryd.prog 48 #[.pointer (some ⟨bx, 0, none⟩)] u w fun e u' w' => u' = u ∧ (e = .returned (.tuple #[]) ∧ RdAt w' br bT cap T st.up ∧ Since (fun k => k = br) w w') := by
  have c4 := h.c4
  have z := h.z
  obtain ⟨dv, hdv⟩ : ∃ dv, RowKit.wrap64 (st.depth - 1) = dv := ⟨_, rfl⟩
  have hset : RdAt (w.setCell ⟨br, 4, none⟩ (.int .i64 dv)) br bT cap T st.up := h.set 4 dv st.up (by simp) (by simp [RSt.up]) (by simp [RSt.up]) (by simp [RSt.up]) (by simp [RSt.up, hdv]) h.inn
  have HP := Lib.hid (And.intro hset (Since.setCell w ⟨br, 4, none⟩ (.int .i64 dv)))
  have Hdv := Lib.hid hdv
  clear h hset hdv
  go_enter_d Tryd.func48, Tryd.ntmps48
  go_wp2
  go_end0
  rw [Hdv.out]
  exact ⟨rfl, HP.out.1, HP.out.2⟩
theorem readExprDoor {W : World} (h : RdAt W br bT cap T st) {bx : Nat} (hb : W.cell? ⟨bx, 0, none⟩ = some (.pointer (some ⟨br, 0, none⟩))) {tmps : Array Value} {v : Value} {Q : Ending → World → Prop}
    (hres : ∀ w', Since (fun k => k = br) W w' → (results Tryd.f64 tmps).run Tryd.prog w' = .ok v w') (hQ : ∀ w', RdAt w' br bT cap T st.up → Since (fun k => k = br) W w' → Q (.returned v) w') :
    Leaves Tryd.prog Tryd.f64 tmps Q [{ target := .fn (.func 76) #[.pointer (some ⟨bx, 0, none⟩)], args := #[] }] .returning W := by
  refine leaves_cons (f := 76) (args := #[.pointer (some ⟨bx, 0, none⟩)]) (by simp) (by simp [go_sem]) ?_
  refine (readExprLeave_any h bx hb .returning).mono ?_
  rintro e u' w' ⟨rfl, rfl, h1, h2⟩
  exact ⟨_, hres w' h2, hQ w' h1 h2⟩
theorem readUnaryDoor {W : World} (h : RdAt W br bT cap T st) {bx : Nat} (hb : W.cell? ⟨bx, 0, none⟩ = some (.pointer (some ⟨br, 0, none⟩))) {tmps : Array Value} {v : Value} {Q : Ending → World → Prop}
    (hres : ∀ w', Since (fun k => k = br) W w' → (results Tryd.f86 tmps).run Tryd.prog w' = .ok v w') (hQ : ∀ w', RdAt w' br bT cap T st.up → Since (fun k => k = br) W w' → Q (.returned v) w') :
    Leaves Tryd.prog Tryd.f86 tmps Q [{ target := .fn (.func 89) #[.pointer (some ⟨bx, 0, none⟩)], args := #[] }] .returning W := by
  refine leaves_cons (f := 89) (args := #[.pointer (some ⟨bx, 0, none⟩)]) (by simp) (by simp [go_sem]) ?_
  refine (readUnaryLeave_any h bx hb .returning).mono ?_
  rintro e u' w' ⟨rfl, rfl, h1, h2⟩
  exact ⟨_, hres w' h2, hQ w' h1 h2⟩
theorem readBlockDoor {W : World} (h : RdAt W br bT cap T st) {bx : Nat} (hb : W.cell? ⟨bx, 0, none⟩ = some (.pointer (some ⟨br, 0, none⟩))) {tmps : Array Value} {v : Value} {Q : Ending → World → Prop}
    (hres : ∀ w', Since (fun k => k = br) W w' → (results Tryd.f28 tmps).run Tryd.prog w' = .ok v w') (hQ : ∀ w', RdAt w' br bT cap T st.up → Since (fun k => k = br) W w' → Q (.returned v) w') :
    Leaves Tryd.prog Tryd.f28 tmps Q [{ target := .fn (.func 48) #[.pointer (some ⟨bx, 0, none⟩)], args := #[] }] .returning W := by
  refine leaves_cons (f := 48) (args := #[.pointer (some ⟨bx, 0, none⟩)]) (by simp) (by simp [go_sem]) ?_
  refine (readBlockLeave_any h bx hb .returning).mono ?_
  rintro e u' w' ⟨rfl, rfl, h1, h2⟩
  exact ⟨_, hres w' h2, hQ w' h1 h2⟩

set_option maxRecDepth 4000 in
set_option maxHeartbeats 1000000 in
theorem readExpr_any (d : Nat) (hd30 : d ≤ 30) (hLev : ∀ d', d = d' + 1 → LevelOK d' 0) : ExprOK d := by
  intro w br bT cap base T st h hL hd
  have hbr := h.lt.1
  have hbT := h.lt.2
  obtain ⟨Res, hres⟩ : ∃ Res, Res = runR T (exprR d) st := ⟨_, rfl⟩
  rw [← hres]
  have Hres := Lib.hid hres
  have hs0 : Since (fun _ => False) w ((w.alloc (.cells #[.pointer (some ⟨br, 0, none⟩)] 46)).alloc (.cells #[.int .i64 0, .int .i64 0, .string ⟨#[]⟩, .slice none 0 0] 28)) := (Since.alloc _ _ _).trans (Since.alloc _ _ _)
  have hb0 : ((w.alloc (.cells #[.pointer (some ⟨br, 0, none⟩)] 46)).alloc (.cells #[.int .i64 0, .int .i64 0, .string ⟨#[]⟩, .slice none 0 0] 28)).heap[w.heap.size]? = some (.cells #[.pointer (some ⟨br, 0, none⟩)] 46 (0, 0)) := allocs_get [.cells #[.pointer (some ⟨br, 0, none⟩)] 46, .cells #[.int .i64 0, .int .i64 0, .string ⟨#[]⟩, .slice none 0 0] 28] w 0 (by simp)
  have hb1 : ((w.alloc (.cells #[.pointer (some ⟨br, 0, none⟩)] 46)).alloc (.cells #[.int .i64 0, .int .i64 0, .string ⟨#[]⟩, .slice none 0 0] 28)).heap[w.heap.size + 1]? = some (.cells #[.int .i64 0, .int .i64 0, .string ⟨#[]⟩, .slice none 0 0] 28 (0, 0)) := allocs_get [.cells #[.pointer (some ⟨br, 0, none⟩)] 46, .cells #[.int .i64 0, .int .i64 0, .string ⟨#[]⟩, .slice none 0 0] 28] w 1 (by simp)
  go_enter_defers Tryd.func64, Tryd.ntmps64
  go_wp2_with fail
  have h0 := h.later hs0
  have hL0 := hL.later hs0
  generalize (w.alloc (.cells #[.pointer (some ⟨br, 0, none⟩)] 46)).alloc (.cells #[.int .i64 0, .int .i64 0, .string ⟨#[]⟩, .slice none 0 0] 28) = w0 at *
  refine (readDeeper_any h0 d hd hd30).mono ?_
  rintro en w1 ⟨st1, rfl, h1, hs1, hg1⟩
  have hlt1 : w.heap.size + 1 < w0.heap.size := (Array.getElem?_eq_some_iff.1 hb1).1
  have k0 := (hs1.block w.heap.size (by omega) (by omega)).trans hb0
  have k1 := (hs1.block (w.heap.size + 1) hlt1 (by omega)).trans hb1
  have hlt2 := Nat.lt_of_lt_of_le hlt1 hs1.size
  have q0 : w1.cell? ⟨w.heap.size, 0, none⟩ = some (.pointer (some ⟨br, 0, none⟩)) := by simp [World.cell?, k0]
  have g0 : w1.cell? ⟨w.heap.size + 1, 0, none⟩ = some (.int .i64 0) := by simp [World.cell?, k1]
  have g1 : w1.cell? ⟨w.heap.size + 1, 1, none⟩ = some (.int .i64 0) := by simp [World.cell?, k1]
  have g2 : w1.cell? ⟨w.heap.size + 1, 2, none⟩ = some (.string ⟨#[]⟩) := by simp [World.cell?, k1]
  have g3 : w1.cell? ⟨w.heap.size + 1, 3, none⟩ = some (.slice none 0 0) := by simp [World.cell?, k1]
  have gz : ∀ j, w1.frozen? ⟨w.heap.size + 1, j, none⟩ = false := fun j => by simp [World.frozen?, k1]
  have hs01 := (hs0.mono (fun k f => f.elim)).trans hs1
  have H1 := Lib.hid h1
  have HL1 := Lib.hid (hL0.box hs1)
  have Hs01 := Lib.hid hs01
  have Hg1 := Lib.hid hg1
  have Hd := Lib.hid hd
  clear h h0 hL hL0 hs0 hs1 hb0 hb1 h1 hs01 hg1 k0 k1 hres hd
  by_cases hf : st1.fault = 0
  · have f0 : (st1.fault == 0) = true := by simpa using hf
    have hsf := Hg1.out.fault_of hf
    obtain ⟨e1, hdp1⟩ := Hg1.out.fault0 hf
    rw [runR_ok hsf] at e1
    have hdz : d ≠ 0 := fun e => by rw [e] at e1; cases e1
    obtain ⟨d', rfl⟩ : ∃ d', d = d' + 1 := ⟨d - 1, by omega⟩
    have e2 : T.drop st1.i = T.drop st.i := by
      unfold deepR at e1
      rw [if_neg hdz] at e1
      injection e1 with e1
      injection e1 with _ e1
      exact e1.symm
    have hR : Res = levelR (unaryR d') 5 (T.drop st1.i) := by rw [Hres.out, runR_ok hsf, e2]; rfl
    have hlev := hLev d' rfl w1 br bT cap base T st1 H1.out HL1.out hf (by rw [hdp1]; omega)
    have HR := Lib.hid hR
    have Hlev := Lib.hid hlev
    clear e1 hdp1 hsf hdz e2 hR hlev hf
    go_wp2_with fail
    refine Hlev.out.mono ?_
    rintro en w2 ⟨cs, x, st2, rfl, hx, h2, hs2, hg2⟩
    obtain ⟨ax, cx, rfl⟩ := rX_shape hx
    have q0' := (hs2.cell (b := w.heap.size) (o := 0) (by omega) (by omega)).trans q0
    have g0' := (hs2.cell (b := w.heap.size + 1) (o := 0) (by omega) (by omega)).trans g0
    have g1' := (hs2.cell (b := w.heap.size + 1) (o := 1) (by omega) (by omega)).trans g1
    have g2' := (hs2.cell (b := w.heap.size + 1) (o := 2) (by omega) (by omega)).trans g2
    have g3' := (hs2.cell (b := w.heap.size + 1) (o := 3) (by omega) (by omega)).trans g3
    have gz' : ∀ j, w2.frozen? ⟨w.heap.size + 1, j, none⟩ = false := fun j => (hs2.frozen (by omega) (by omega)).trans (gz j)
    have hsz2 := hs2.size
    obtain ⟨m0, m1, m2, m3, ms⟩ := cells4 g0' g1' g2' g3' (.int .i64 x.kind) (.int .i64 x.n) (.string x.s) (.slice ax x.args.length cx)
    have hfin : ∀ w', RdAt w' br bT cap T st2.up → Since (fun k => k = br) ((((w2.setCell ⟨w.heap.size + 1, 0, none⟩ (.int .i64 x.kind)).setCell ⟨w.heap.size + 1, 1, none⟩ (.int .i64 x.n)).setCell ⟨w.heap.size + 1, 2, none⟩ (.string x.s)).setCell ⟨w.heap.size + 1, 3, none⟩ (.slice ax x.args.length cx)) w' →
        RdX w br bT cap T (30 - ((d' + 1 : Nat) : Int)) Res (.returned (.agg #[.int .i64 x.kind, .int .i64 x.n, .string x.s, .slice ax x.args.length cx])) w' := fun w' h3 hs3 => by
      refine ⟨_, x, st2.up, rfl, ?_, h3, ?_, ?_⟩
      · refine Good.keep (R := rX) (w := w2) (S := fun k => w1.heap.size ≤ k) ⟨Nat.le_trans ms.size hs3.size, fun k hk hS => ?_⟩ (fun k hk hS => by omega) hx
        exact (hs3.block k (Nat.lt_of_lt_of_le hk ms.size) (by omega)).trans (ms.block k hk (by omega))
      · exact ((Hs01.out.trans hs2).then_new ms (fun k e => Or.inr (by omega))).trans hs3
      · rw [HR.out]
        have := hg2.up (by omega) (by omega)
        rw [show (30 : Int) - ((d' + 1 : Nat) : Int) = 30 - (d' : Int) - 1 by omega]
        exact this
    have Hfin := Lib.hid hfin
    have H2 := Lib.hid (h2.since ms (by omega) (by omega))
    have Ms := Lib.hid ms
    clear hfin h2 ms hs2 hg2 hx g0 g1 g2 g3 gz q0
    go_wp2_with fail
    refine readExprDoor H2.out ?_ ?_ Hfin.out
    · exact (Ms.out.cell (by omega) (by omega)).trans q0'
    · intro w' hs
      have n0 := (hs.cell (b := w.heap.size + 1) (o := 0) (by simp; omega) (by omega)).trans m0
      have n1 := (hs.cell (b := w.heap.size + 1) (o := 1) (by simp; omega) (by omega)).trans m1
      have n2 := (hs.cell (b := w.heap.size + 1) (o := 2) (by simp; omega) (by omega)).trans m2
      have n3 := (hs.cell (b := w.heap.size + 1) (o := 3) (by simp; omega) (by omega)).trans m3
      simp [results, Tryd.results64, go_sem, n0, n1, n2, n3]
  · have f0 : (st1.fault == 0) = false := by simpa using hf
    have Hf := Lib.hid hf
    clear hf
    go_wp2_with fail
    obtain ⟨m0, m1, m2, m3, ms⟩ := cells4 g0 g1 g2 g3 (.int .i64 0) (.int .i64 0) (.string ⟨#[]⟩) (.slice none 0 0)
    refine ⟨.agg #[.int .i64 0, .int .i64 0, .string ⟨#[]⟩, .slice none 0 0], by simp [results, Tryd.results64, go_sem, m0, m1, m2, m3], _, _, st1, rfl, rX_zero _ _ 0 0 ⟨#[]⟩ (ini rfl) (ini rfl) (by decide), H1.out.since ms (by omega) (by omega), Hs01.out.then_new ms (fun k e => Or.inr (by omega)), ?_⟩
    have e1 := Hg1.out.fault1 Hf.out
    have e2 : Res = .error (st1.pos, st1.fault) := by
      rw [Hres.out]
      by_cases hsf : st.fault = 0
      · rw [runR_ok hsf] at e1 ⊢
        unfold deepR at e1
        split at e1
        · rename_i hz
          subst hz
          injection e1 with e1
          rw [← e1]
          rfl
        · cases e1
      · rw [runR_bad hsf] at e1 ⊢
        injection e1 with e1
        rw [e1]
    rw [e2]
    exact ⟨rfl, rfl, Hf.out⟩
end Go.Proofs.YtkopjgnjflhkeaaDoor

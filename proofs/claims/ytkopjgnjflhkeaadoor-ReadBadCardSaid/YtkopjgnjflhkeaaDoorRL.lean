/-
  Texts joined: RdCalled.
-/
import Derived.Test.YtkopjgnjflhkeaaDoorRK

/-
  The reader's called, walked.
-/
namespace Go.Proofs.YtkopjgnjflhkeaaDoor
open Go.RowKit Go.Pst
set_option linter.unusedVariables false
set_option linter.unusedSimpArgs false
variable {w : World} {br bT cap base : Nat} {T : List Tok} {st : RSt} {dep : Int}

set_option maxRecDepth 4000 in
set_option maxHeartbeats 2000000 in
theorem readCalled_any {d : Nat} (hE : ExprOK d) (h : RdAt w br bT cap T st) (hL : RdLaid w base br) (h0 : st.fault = 0) (hd : st.depth = 30 - (d : Int)) (kind n : Int) (hk : InI kind) :
    Calls Tryd.prog 65 #[.pointer (some ⟨br, 0, none⟩), .int .i64 kind, .int .i64 n] w (RdS w br bT cap T (30 - (d : Int)) (calledG (exprR d) kind n (T.drop st.i))) := by
  have hbr := h.lt.1
  have hbT := h.lt.2
  obtain ⟨Res, hres⟩ : ∃ Res, Res = calledG (exprR d) kind n (T.drop st.i) := ⟨_, rfl⟩
  rw [← hres]
  have hs0 : Since (fun _ => False) w (w.alloc (.cells #[.int .i64 0, .string ⟨#[]⟩, .string ⟨#[]⟩, .slice none 0 0, .slice none 0 0, .slice none 0 0, .slice none 0 0] 32)) := Since.alloc _ _ _
  have hb0 : (w.alloc (.cells #[.int .i64 0, .string ⟨#[]⟩, .string ⟨#[]⟩, .slice none 0 0, .slice none 0 0, .slice none 0 0, .slice none 0 0] 32)).heap[w.heap.size]? = some (.cells #[.int .i64 0, .string ⟨#[]⟩, .string ⟨#[]⟩, .slice none 0 0, .slice none 0 0, .slice none 0 0, .slice none 0 0] 32 (0, 0)) := heap_alloc_new w _
  have hA := h.later hs0
  have hB := hL.later hs0
  have hlt0 : w.heap.size < (w.alloc (.cells #[.int .i64 0, .string ⟨#[]⟩, .string ⟨#[]⟩, .slice none 0 0, .slice none 0 0, .slice none 0 0, .slice none 0 0] 32)).heap.size := by simp
  have hfd : ∀ (a c e : Int) (b : ByteArray) (w : World), (Instr.field 52 (.agg #[.int .u8 a, .string b, .int .i64 c, .int .i64 e]) 3).run Tryd.prog w = .ok (.int .i64 e) w := fun _ _ _ _ _ => by kernel_rfl
  obtain ⟨t, ht⟩ : ∃ t, seeR T st = t := ⟨_, rfl⟩
  have hpk := readPeek_any hA
  rw [ht] at hpk
  have Hpk := Lib.hid hpk
  have Ht := Lib.hid ht
  have HA := Lib.hid hA
  have HB := Lib.hid hB
  have Hb0 := Lib.hid hb0
  have Hs0 := Lib.hid hs0
  have Hres := Lib.hid hres
  have H0 := Lib.hid h0
  have Hd := Lib.hid hd
  clear h hL hpk ht hA hB hb0 hs0 hres h0 hd
  obtain ⟨tk, ts, tn, tp⟩ := t
  go_enter Tryd.func65, Tryd.ntmps65
  go_wp2_with fail
  generalize w.alloc (.cells #[.int .i64 0, .string ⟨#[]⟩, .string ⟨#[]⟩, .slice none 0 0, .slice none 0 0, .slice none 0 0, .slice none 0 0] 32) = w0 at *
  refine Hpk.out.mono ?_
  rintro en w1 ⟨rfl, hs1⟩
  simp only [tokC]
  have hlt1 := hs1.size
  have HA1 := Lib.hid (HA.out.later hs1)
  have HB1 := Lib.hid (HB.out.later hs1)
  have S1 := Lib.hid (show Since (fun k => k = br) w w1 from (Hs0.out.trans hs1).mono (fun _ f => f.elim))
  have K1 := Lib.hid ((hs1.block w.heap.size hlt0 (fun f => f)).trans Hb0.out)
  clear hs1
  go_wp2_with fail
  refine (readArgs_any hE HA1.out HB1.out (fun _ => Hd.out)).mono ?_
  rintro en w2 ⟨v, l, st2, rfl, hl, h2, hs2, hg2⟩
  obtain ⟨al, cl, rfl⟩ := rXs_shape hl
  have hlt2 := hs2.size
  have k2 := (hs2.block w.heap.size (by omega) (by omega)).trans K1.out
  have g0 : w2.cell? ⟨w.heap.size, 0, none⟩ = some (.int .i64 0) := by simp [World.cell?, k2]
  have g1 : w2.cell? ⟨w.heap.size, 1, none⟩ = some (.string ⟨#[]⟩) := by simp [World.cell?, k2]
  have g2 : w2.cell? ⟨w.heap.size, 2, none⟩ = some (.string ⟨#[]⟩) := by simp [World.cell?, k2]
  have g3 : w2.cell? ⟨w.heap.size, 3, none⟩ = some (.slice none 0 0) := by simp [World.cell?, k2]
  have g4 : w2.cell? ⟨w.heap.size, 4, none⟩ = some (.slice none 0 0) := by simp [World.cell?, k2]
  have g5 : w2.cell? ⟨w.heap.size, 5, none⟩ = some (.slice none 0 0) := by simp [World.cell?, k2]
  have g6 : w2.cell? ⟨w.heap.size, 6, none⟩ = some (.slice none 0 0) := by simp [World.cell?, k2]
  have gz : ∀ j, w2.frozen? ⟨w.heap.size, j, none⟩ = false := fun j => by simp [World.frozen?, k2]
  have c3 := h2.c3
  have hRes2 : Res = runR T (if (l.length : Int) ≠ n then PR.bad tp 10 else PR.ret (.mk kind ⟨#[]⟩ ⟨#[]⟩ l [] [] [])) st2 := by
    have hgA : Good' T (30 - (d : Int)) (runR T (argsR (exprR d)) st) l st2 := hg2
    refine Eq.trans ?_ (hgA.bind (q := fun l => if (l.length : Int) ≠ n then PR.bad tp 10 else PR.ret (PStmt.mk kind ⟨#[]⟩ ⟨#[]⟩ l [] [] [])))
    rw [Hres.out, runR_ok H0.out]
    unfold calledG
    rw [← seeR_head H0.out, Ht.out]
  have K2 := Lib.hid k2
  have H2 := Lib.hid h2
  have Hl := Lib.hid hl
  have S2 := Lib.hid (S1.out.trans hs2)
  have R2 := Lib.hid hRes2
  have D2 := Lib.hid (show st2.fault = 0 → st2.depth = 30 - (d : Int) from fun e => hg2.dep_eq e)
  clear k2 h2 hl hs2 hRes2 hg2
  by_cases hf : st2.fault = 0
  · have f0 : (st2.fault == 0) = true := by simpa using hf
    have Hf := Lib.hid hf
    clear hf
    by_cases hn : (l.length : Int) = n
    · have d2 : ((l.length : Int) != n) = false := by simp [hn]
      have Hn := Lib.hid hn
      clear hn
      go_wp2_with fail
      obtain ⟨mb, ms⟩ := cells7 (w := w2) K2.out (.int .i64 kind) (.string ⟨#[]⟩) (.string ⟨#[]⟩) (.slice al l.length cl) (.slice none 0 0) (.slice none 0 0) (.slice none 0 0)
      generalize hWW : ((((((w2.setCell ⟨w.heap.size, 0, none⟩ (.int .i64 kind)).setCell ⟨w.heap.size, 1, none⟩ (.string ⟨#[]⟩)).setCell ⟨w.heap.size, 2, none⟩ (.string ⟨#[]⟩)).setCell ⟨w.heap.size, 3, none⟩ (.slice al l.length cl)).setCell ⟨w.heap.size, 4, none⟩ (.slice none 0 0)).setCell ⟨w.heap.size, 5, none⟩ (.slice none 0 0)).setCell ⟨w.heap.size, 6, none⟩ (.slice none 0 0) = WW at *
      have m0 : WW.cell? ⟨w.heap.size, 0, none⟩ = some (.int .i64 kind) := by simp [World.cell?, mb]
      have m1 : WW.cell? ⟨w.heap.size, 1, none⟩ = some (.string ⟨#[]⟩) := by simp [World.cell?, mb]
      have m2 : WW.cell? ⟨w.heap.size, 2, none⟩ = some (.string ⟨#[]⟩) := by simp [World.cell?, mb]
      have m3 : WW.cell? ⟨w.heap.size, 3, none⟩ = some (.slice al l.length cl) := by simp [World.cell?, mb]
      have m4 : WW.cell? ⟨w.heap.size, 4, none⟩ = some (.slice none 0 0) := by simp [World.cell?, mb]
      have m5 : WW.cell? ⟨w.heap.size, 5, none⟩ = some (.slice none 0 0) := by simp [World.cell?, mb]
      have m6 : WW.cell? ⟨w.heap.size, 6, none⟩ = some (.slice none 0 0) := by simp [World.cell?, mb]
      refine bodyPost_ret (v := .agg #[.int .i64 kind, .string ⟨#[]⟩, .string ⟨#[]⟩, .slice al l.length cl, .slice none 0 0, .slice none 0 0, .slice none 0 0]) (by simp [results, Tryd.results65, go_sem, m0, m1, m2, m3, m4, m5, m6]) rfl ⟨_, .mk kind ⟨#[]⟩ ⟨#[]⟩ l [] [] [], st2, rfl, rS_mk kind ⟨#[]⟩ ⟨#[]⟩ hk (by decide) (by decide) (Good.keep (R := rXs) ⟨ms.size, fun k hk hS => ms.block k hk (by omega)⟩ (fun k hk hS => by omega) Hl.out) (rSs_nil _ _) (rSs_nil _ _) (rCs_nil _ _), (H2.out).since ms (by omega) (by omega), (S2.out).then_new ms (fun k e => Or.inr (by omega)), ?_⟩
      exact Good'.end (by rw [R2.out, if_neg (fun e => e Hn.out)]) D2.out
    · have d2 : ((l.length : Int) != n) = true := by simp [hn]
      have Hn := Lib.hid hn
      clear hn
      go_wp2_with fail
      refine (readWrong_any H2.out tp 10 (by decide)).mono ?_
      rintro en w3 ⟨rfl, h3, hs3⟩
      have k3 := (hs3.block w.heap.size (by omega) (by omega)).trans K2.out
      have hlt3 := hs3.size
      have hl3 := Good.keep (R := rXs) (S' := fun k => w0.heap.size ≤ k) (w' := w3) ⟨hs3.size, fun k hk hS => hs3.block k hk (by omega)⟩ (fun k hk hS => by omega) Hl.out
      clear g0 g1 g2 g3 g4 g5 g6 gz
      have g0 : w3.cell? ⟨w.heap.size, 0, none⟩ = some (.int .i64 0) := by simp [World.cell?, k3]
      have g1 : w3.cell? ⟨w.heap.size, 1, none⟩ = some (.string ⟨#[]⟩) := by simp [World.cell?, k3]
      have g2 : w3.cell? ⟨w.heap.size, 2, none⟩ = some (.string ⟨#[]⟩) := by simp [World.cell?, k3]
      have g3 : w3.cell? ⟨w.heap.size, 3, none⟩ = some (.slice none 0 0) := by simp [World.cell?, k3]
      have g4 : w3.cell? ⟨w.heap.size, 4, none⟩ = some (.slice none 0 0) := by simp [World.cell?, k3]
      have g5 : w3.cell? ⟨w.heap.size, 5, none⟩ = some (.slice none 0 0) := by simp [World.cell?, k3]
      have g6 : w3.cell? ⟨w.heap.size, 6, none⟩ = some (.slice none 0 0) := by simp [World.cell?, k3]
      have gz : ∀ j, w3.frozen? ⟨w.heap.size, j, none⟩ = false := fun j => by simp [World.frozen?, k3]
      have K3 := Lib.hid k3
      have H3 := Lib.hid h3
      have S3 := Lib.hid (S2.out.trans hs3)
      have Hl3 := Lib.hid hl3
      clear k3 h3 hs3 hl3
      go_wp2_with fail
      obtain ⟨mb, ms⟩ := cells7 (w := w3) K3.out (.int .i64 kind) (.string ⟨#[]⟩) (.string ⟨#[]⟩) (.slice al l.length cl) (.slice none 0 0) (.slice none 0 0) (.slice none 0 0)
      generalize hWW : ((((((w3.setCell ⟨w.heap.size, 0, none⟩ (.int .i64 kind)).setCell ⟨w.heap.size, 1, none⟩ (.string ⟨#[]⟩)).setCell ⟨w.heap.size, 2, none⟩ (.string ⟨#[]⟩)).setCell ⟨w.heap.size, 3, none⟩ (.slice al l.length cl)).setCell ⟨w.heap.size, 4, none⟩ (.slice none 0 0)).setCell ⟨w.heap.size, 5, none⟩ (.slice none 0 0)).setCell ⟨w.heap.size, 6, none⟩ (.slice none 0 0) = WW at *
      have m0 : WW.cell? ⟨w.heap.size, 0, none⟩ = some (.int .i64 kind) := by simp [World.cell?, mb]
      have m1 : WW.cell? ⟨w.heap.size, 1, none⟩ = some (.string ⟨#[]⟩) := by simp [World.cell?, mb]
      have m2 : WW.cell? ⟨w.heap.size, 2, none⟩ = some (.string ⟨#[]⟩) := by simp [World.cell?, mb]
      have m3 : WW.cell? ⟨w.heap.size, 3, none⟩ = some (.slice al l.length cl) := by simp [World.cell?, mb]
      have m4 : WW.cell? ⟨w.heap.size, 4, none⟩ = some (.slice none 0 0) := by simp [World.cell?, mb]
      have m5 : WW.cell? ⟨w.heap.size, 5, none⟩ = some (.slice none 0 0) := by simp [World.cell?, mb]
      have m6 : WW.cell? ⟨w.heap.size, 6, none⟩ = some (.slice none 0 0) := by simp [World.cell?, mb]
      refine bodyPost_ret (v := .agg #[.int .i64 kind, .string ⟨#[]⟩, .string ⟨#[]⟩, .slice al l.length cl, .slice none 0 0, .slice none 0 0, .slice none 0 0]) (by simp [results, Tryd.results65, go_sem, m0, m1, m2, m3, m4, m5, m6]) rfl ⟨_, .mk kind ⟨#[]⟩ ⟨#[]⟩ l [] [] [], _, rfl, rS_mk kind ⟨#[]⟩ ⟨#[]⟩ hk (by decide) (by decide) (Good.keep (R := rXs) ⟨ms.size, fun k hk hS => ms.block k hk (by omega)⟩ (fun k hk hS => by omega) Hl3.out) (rSs_nil _ _) (rSs_nil _ _) (rCs_nil _ _), (H3.out).since ms (by omega) (by omega), (S3.out).then_new ms (fun k e => Or.inr (by omega)), ?_⟩
      rw [R2.out, if_pos (fun e => Hn.out e), runR_ok Hf.out, RSt.bad, if_pos Hf.out]; exact ⟨rfl, rfl, by decide⟩
  · have f0 : (st2.fault == 0) = false := by simpa using hf
    have Hf := Lib.hid hf
    clear hf
    go_wp2_with fail
    obtain ⟨mb, ms⟩ := cells7 (w := w2) K2.out (.int .i64 kind) (.string ⟨#[]⟩) (.string ⟨#[]⟩) (.slice al l.length cl) (.slice none 0 0) (.slice none 0 0) (.slice none 0 0)
    generalize hWW : ((((((w2.setCell ⟨w.heap.size, 0, none⟩ (.int .i64 kind)).setCell ⟨w.heap.size, 1, none⟩ (.string ⟨#[]⟩)).setCell ⟨w.heap.size, 2, none⟩ (.string ⟨#[]⟩)).setCell ⟨w.heap.size, 3, none⟩ (.slice al l.length cl)).setCell ⟨w.heap.size, 4, none⟩ (.slice none 0 0)).setCell ⟨w.heap.size, 5, none⟩ (.slice none 0 0)).setCell ⟨w.heap.size, 6, none⟩ (.slice none 0 0) = WW at *
    have m0 : WW.cell? ⟨w.heap.size, 0, none⟩ = some (.int .i64 kind) := by simp [World.cell?, mb]
    have m1 : WW.cell? ⟨w.heap.size, 1, none⟩ = some (.string ⟨#[]⟩) := by simp [World.cell?, mb]
    have m2 : WW.cell? ⟨w.heap.size, 2, none⟩ = some (.string ⟨#[]⟩) := by simp [World.cell?, mb]
    have m3 : WW.cell? ⟨w.heap.size, 3, none⟩ = some (.slice al l.length cl) := by simp [World.cell?, mb]
    have m4 : WW.cell? ⟨w.heap.size, 4, none⟩ = some (.slice none 0 0) := by simp [World.cell?, mb]
    have m5 : WW.cell? ⟨w.heap.size, 5, none⟩ = some (.slice none 0 0) := by simp [World.cell?, mb]
    have m6 : WW.cell? ⟨w.heap.size, 6, none⟩ = some (.slice none 0 0) := by simp [World.cell?, mb]
    refine bodyPost_ret (v := .agg #[.int .i64 kind, .string ⟨#[]⟩, .string ⟨#[]⟩, .slice al l.length cl, .slice none 0 0, .slice none 0 0, .slice none 0 0]) (by simp [results, Tryd.results65, go_sem, m0, m1, m2, m3, m4, m5, m6]) rfl ⟨_, .mk kind ⟨#[]⟩ ⟨#[]⟩ l [] [] [], st2, rfl, rS_mk kind ⟨#[]⟩ ⟨#[]⟩ hk (by decide) (by decide) (Good.keep (R := rXs) ⟨ms.size, fun k hk hS => ms.block k hk (by omega)⟩ (fun k hk hS => by omega) Hl.out) (rSs_nil _ _) (rSs_nil _ _) (rCs_nil _ _), (H2.out).since ms (by omega) (by omega), (S2.out).then_new ms (fun k e => Or.inr (by omega)), ?_⟩
    exact Good'.fail _ R2.out Hf.out
end Go.Proofs.YtkopjgnjflhkeaaDoor

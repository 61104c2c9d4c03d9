/-
  Texts joined: RdPrim.
-/
import Derived.Test.YtkopjgnjflhkeaaDoorRC
import Derived.Deep.Cut
import Derived.Deep.DeepCutAuto
import Derived.Deep.CutRange

/-
  The reader's primary: the first part of a single expression.
-/
namespace Go.Proofs.YtkopjgnjflhkeaaDoor
open Go.RowKit Go.Pst
set_option linter.unusedVariables false
set_option linter.unusedSimpArgs false
variable {w : World} {br bT cap base : Nat} {T : List Tok} {st : RSt} {dep : Int}

/-- word at the token t, which was taken. -/
def WordOK (d : Nat) : Prop := ∀ (w : World) (br bT cap base : Nat) (T : List Tok) (st : RSt) (t : Tok), RdAt w br bT cap T st → RdLaid w base br → st.fault = 0 → st.depth = 30 - (d : Int) → (t.s.size ≤ maxLen ∧ InI t.pos) →
  Calls Tryd.prog 92 #[.pointer (some ⟨br, 0, none⟩), .agg #[.int .u8 t.kind, .string t.s, .int .i64 t.n, .int .i64 t.pos]] w (RdX w br bT cap T (30 - (d : Int)) (wordR (exprR d) t (T.drop st.i)))

set_option maxRecDepth 4000 in
set_option maxHeartbeats 4000000 in
theorem readPrim_any (d : Nat) (hE : ExprOK d) (hW : WordOK d) (w : World) (br bT cap base : Nat) (T : List Tok) (st : RSt) (h : RdAt w br bT cap T st) (hL : RdLaid w base br) (h0 : st.fault = 0) (hd : st.depth = 30 - (d : Int)) :
    Calls Tryd.prog 90 #[.pointer (some ⟨br, 0, none⟩)] w (RdX w br bT cap T (30 - (d : Int)) (primR (exprR d) (T.drop st.i))) := by
  have hbr := h.lt.1
  have hbT := h.lt.2
  obtain ⟨Res, hres⟩ : ∃ Res, Res = primR (exprR d) (T.drop st.i) := ⟨_, rfl⟩
  rw [← hres]
  have hs0 : Since (fun _ => False) w (w.alloc (.cells #[.int .i64 0, .int .i64 0, .string ⟨#[]⟩, .slice none 0 0] 28)) := Since.alloc _ _ _
  have hb1 : (w.alloc (.cells #[.int .i64 0, .int .i64 0, .string ⟨#[]⟩, .slice none 0 0] 28)).heap[w.heap.size]? = some (.cells #[.int .i64 0, .int .i64 0, .string ⟨#[]⟩, .slice none 0 0] 28 (0, 0)) := heap_alloc_new w _
  obtain ⟨t, ht⟩ : ∃ t, seeR T st = t := ⟨_, rfl⟩
  obtain ⟨st', hst⟩ : ∃ st', st' = if t.kind = 101 then st else { st with i := st.i + 1 } := ⟨_, rfl⟩
  have hnx := readNext_aux (h.later hs0) t ht st' hst
  have hts := seeR_size (T := T) (st := st) h.toks h.inn
  rw [ht] at hts
  have hL0 := hL.later hs0
  have hlt1 : w.heap.size < (w.alloc (.cells #[.int .i64 0, .int .i64 0, .string ⟨#[]⟩, .slice none 0 0] 28)).heap.size := by simp
  have h0' : st'.fault = 0 := by rw [hst]; split <;> exact h0
  have hd' : st'.depth = 30 - (d : Int) := by rw [hst]; split <;> exact hd
  have Hnx := Lib.hid hnx
  have Hst := Lib.hid hst
  have Ht := Lib.hid ht
  have Hres := Lib.hid hres
  have Hts := Lib.hid hts
  have Hd' := Lib.hid (And.intro h0' hd')
  have H0 := Lib.hid h0
  clear hnx hst ht hres hts hd' h0' h hL h0 hd
  go_enter Tryd.func90, Tryd.ntmps90
  go_wp2_with fail
  generalize w.alloc (.cells #[.int .i64 0, .int .i64 0, .string ⟨#[]⟩, .slice none 0 0] 28) = w0 at *
  refine Hnx.out.mono ?_
  rintro en w1 ⟨rfl, h1, hs1⟩
  obtain ⟨tk, ts, tn, tp⟩ := t
  simp only [tokC]
  obtain ⟨bt, hbt⟩ : ∃ bt, bt = w1.heap.size := ⟨_, rfl⟩
  have hTP : (w1.alloc (.cells #[.int .u8 tk, .string ts, .int .i64 tn, .int .i64 tp] 52)).heap[bt]? = some (.cells #[.int .u8 tk, .string ts, .int .i64 tn, .int .i64 tp] 52 (0, 0)) := by rw [hbt]; exact heap_alloc_new w1 _
  have hsP : Since (fun k => k = br) w (w1.alloc (.cells #[.int .u8 tk, .string ts, .int .i64 tn, .int .i64 tp] 52)) := ((hs0.mono (fun _ f => f.elim)).trans hs1).trans (Since.alloc _ _ _)
  have hA1 := h1.later (Since.alloc (fun _ => False) w1 (.cells #[.int .u8 tk, .string ts, .int .i64 tn, .int .i64 tp] 52))
  have hB1 := (hL0.box hs1).later (Since.alloc (fun _ => False) w1 (.cells #[.int .u8 tk, .string ts, .int .i64 tn, .int .i64 tp] 52))
  have kB := ((Since.alloc (fun _ => False) w1 (.cells #[.int .u8 tk, .string ts, .int .i64 tn, .int .i64 tp] 52)).block w.heap.size (Nat.lt_of_lt_of_le hlt1 hs1.size) (fun f => f)).trans ((hs1.block w.heap.size hlt1 (by omega)).trans hb1)
  have hltt : w.heap.size < bt := by have := hs1.size; omega
  go_upto_region 3 with fail
  rw [← hbt]
  generalize w1.alloc (.cells #[.int .u8 tk, .string ts, .int .i64 tn, .int .i64 tp] 52) = wP at *
  have g0 : wP.cell? ⟨w.heap.size, 0, none⟩ = some (.int .i64 0) := by simp [World.cell?, kB]
  have g1 : wP.cell? ⟨w.heap.size, 1, none⟩ = some (.int .i64 0) := by simp [World.cell?, kB]
  have g2 : wP.cell? ⟨w.heap.size, 2, none⟩ = some (.string ⟨#[]⟩) := by simp [World.cell?, kB]
  have g3 : wP.cell? ⟨w.heap.size, 3, none⟩ = some (.slice none 0 0) := by simp [World.cell?, kB]
  have gz : ∀ j, wP.frozen? ⟨w.heap.size, j, none⟩ = false := fun j => by simp [World.frozen?, kB]
  have t0 : wP.cell? ⟨bt, 0, none⟩ = some (.int .u8 tk) := by simp [World.cell?, hTP]
  have t1 : wP.cell? ⟨bt, 1, none⟩ = some (.string ts) := by simp [World.cell?, hTP]
  have t2 : wP.cell? ⟨bt, 2, none⟩ = some (.int .i64 tn) := by simp [World.cell?, hTP]
  have t3 : wP.cell? ⟨bt, 3, none⟩ = some (.int .i64 tp) := by simp [World.cell?, hTP]
  have hltP : bt < wP.heap.size := (Array.getElem?_eq_some_iff.1 hTP).1
  have c3 := hA1.c3
  rw [Hd'.out.1] at c3
  have HsP := Lib.hid hsP
  have HA1 := Lib.hid hA1
  have HB1 := Lib.hid hB1
  have HTP := Lib.hid hTP
  clear hsP hA1 hB1 hTP kB hbt h1 hs1 hs0 hL0 hb1 hlt1
  by_cases e1 : tk = 101
  · have f1 : (tk == 101) = true := by simp [e1]
    have E1 := Lib.hid e1
    clear e1
    go_wp2_with fail
    refine (readWrong_any HA1.out tp 5 (by decide)).mono ?_
    rintro en w2 ⟨rfl, h2, hs2⟩
    have g0 := (hs2.cell (b := w.heap.size) (o := 0) (by omega) (by omega)).trans g0
    have g1 := (hs2.cell (b := w.heap.size) (o := 1) (by omega) (by omega)).trans g1
    have g2 := (hs2.cell (b := w.heap.size) (o := 2) (by omega) (by omega)).trans g2
    have g3 := (hs2.cell (b := w.heap.size) (o := 3) (by omega) (by omega)).trans g3
    have gz : ∀ j, w2.frozen? ⟨w.heap.size, j, none⟩ = false := fun j => (hs2.frozen (by omega) (by omega)).trans (gz j)
    have hsz2 := hs2.size
    have H2 := Lib.hid h2
    have Hs2 := Lib.hid hs2
    clear h2 hs2
    go_wp2_with fail
    obtain ⟨m0, m1, m2, m3, ms⟩ := cells4 (w := w2) g0 g1 g2 g3 (.int .i64 0) (.int .i64 0) (.string ⟨#[]⟩) (.slice none 0 0)
    generalize hWW : (((w2.setCell ⟨w.heap.size, 0, none⟩ (.int .i64 0)).setCell ⟨w.heap.size, 1, none⟩ (.int .i64 0)).setCell ⟨w.heap.size, 2, none⟩ (.string ⟨#[]⟩)).setCell ⟨w.heap.size, 3, none⟩ (.slice none 0 0) = WW at *
    refine bodyPost_ret (v := .agg #[.int .i64 0, .int .i64 0, .string ⟨#[]⟩, .slice none 0 0]) (by simp [results, Tryd.results90, go_sem, m0, m1, m2, m3]) rfl ⟨_, .mk 0 0 ⟨#[]⟩ [], _, rfl, rX_zero _ _ 0 0 ⟨#[]⟩ (ini rfl) (ini rfl) (by decide), (H2.out).since ms (by omega) (by omega), (HsP.out.trans Hs2.out).then_new ms (fun k e => Or.inr (by omega)), ?_⟩
    rw [show Res = .error (tp, 5) by rw [Hres.out]; unfold primR; rw [← seeR_head H0.out, Ht.out]; exact if_pos E1.out, RSt.bad, if_pos Hd'.out.1]
    exact ⟨rfl, rfl, by decide⟩
  have f1 : (tk == 101) = false := by simp [e1]
  have E1 := Lib.hid e1
  have hst' : st' = { st with i := st.i + 1 } := by rw [Hst.out, if_neg e1]
  have Hst' := Lib.hid hst'
  clear e1 hst'
  have hdrop : T.drop st'.i = (T.drop st.i).tail := by rw [Hst'.out]; exact drop_tail _
  have Hdrop := Lib.hid hdrop
  clear hdrop
  by_cases e2 : tk = 110
  · have f2 : (tk == 110) = true := by simp [e2]
    have E2 := Lib.hid e2
    clear e2
    go_wp2_with fail
    obtain ⟨m0, m1, m2, m3, ms⟩ := cells4 (w := wP) g0 g1 g2 g3 (.int .i64 1) (.int .i64 tn) (.string ⟨#[]⟩) (.slice none 0 0)
    generalize hWW : (((wP.setCell ⟨w.heap.size, 0, none⟩ (.int .i64 1)).setCell ⟨w.heap.size, 1, none⟩ (.int .i64 tn)).setCell ⟨w.heap.size, 2, none⟩ (.string ⟨#[]⟩)).setCell ⟨w.heap.size, 3, none⟩ (.slice none 0 0) = WW at *
    refine bodyPost_ret (v := .agg #[.int .i64 1, .int .i64 tn, .string ⟨#[]⟩, .slice none 0 0]) (by simp [results, Tryd.results90, go_sem, m0, m1, m2, m3]) rfl ⟨_, .mk 1 tn ⟨#[]⟩ [], st', rfl, rX_zero _ _ 1 tn ⟨#[]⟩ (ini rfl) Hts.out.2.1 (by decide), (HA1.out).since ms (by omega) (by omega), (HsP.out).then_new ms (fun k e => Or.inr (by omega)), ?_⟩
    rw [show Res = .ok (.mk 1 tn ⟨#[]⟩ [], (T.drop st.i).tail) by rw [Hres.out]; unfold primR; rw [← seeR_head H0.out, Ht.out]; exact (if_neg E1.out).trans (if_pos E2.out)]
    exact ⟨rfl, Hd'.out.1, Hd'.out.2, Hdrop.out⟩
  have f2 : (tk == 110) = false := by simp [e2]
  have E2 := Lib.hid e2
  clear e2
  by_cases e3 : tk = 116
  · have f3 : (tk == 116) = true := by simp [e3]
    have E3 := Lib.hid e3
    clear e3
    go_wp2_with fail
    obtain ⟨m0, m1, m2, m3, ms⟩ := cells4 (w := wP) g0 g1 g2 g3 (.int .i64 2) (.int .i64 0) (.string ts) (.slice none 0 0)
    generalize hWW : (((wP.setCell ⟨w.heap.size, 0, none⟩ (.int .i64 2)).setCell ⟨w.heap.size, 1, none⟩ (.int .i64 0)).setCell ⟨w.heap.size, 2, none⟩ (.string ts)).setCell ⟨w.heap.size, 3, none⟩ (.slice none 0 0) = WW at *
    refine bodyPost_ret (v := .agg #[.int .i64 2, .int .i64 0, .string ts, .slice none 0 0]) (by simp [results, Tryd.results90, go_sem, m0, m1, m2, m3]) rfl ⟨_, .mk 2 0 ts [], st', rfl, rX_zero _ _ 2 0 ts (ini rfl) (ini rfl) Hts.out.1, (HA1.out).since ms (by omega) (by omega), (HsP.out).then_new ms (fun k e => Or.inr (by omega)), ?_⟩
    rw [show Res = .ok (.mk 2 0 ts [], (T.drop st.i).tail) by rw [Hres.out]; unfold primR; rw [← seeR_head H0.out, Ht.out]; exact (if_neg E1.out).trans ((if_neg E2.out).trans (if_pos E3.out))]
    exact ⟨rfl, Hd'.out.1, Hd'.out.2, Hdrop.out⟩
  have f3 : (tk == 116) = false := by simp [e3]
  have E3 := Lib.hid e3
  clear e3
  by_cases e4 : tk = 109 ∧ ts = ⟨#[40]⟩
  · obtain ⟨e5, rfl⟩ := e4
    have f4 : (tk == 109) = true := by simp [e5]
    have E5 := Lib.hid e5
    have hex := hE wP br bT cap base T st' HA1.out HB1.out (fun _ => Hd'.out.2)
    have Hex := Lib.hid hex
    clear e5 hex hE hW
    go_wp2_with fail
    refine Hex.out.mono ?_
    rintro en w2 ⟨cs, x, st2, rfl, hx, h2, hs2, hg2⟩
    obtain ⟨ax, cx, rfl⟩ := rX_shape hx
    have hsz2 := hs2.size
    have hsX : Since (fun _ => False) w2 (w2.alloc (.cells #[.int .i64 x.kind, .int .i64 x.n, .string x.s, .slice ax x.args.length cx] 28)) := Since.alloc _ _ _
    obtain ⟨bx, hbx⟩ : ∃ bx, bx = w2.heap.size := ⟨_, rfl⟩
    have hxb : (w2.alloc (.cells #[.int .i64 x.kind, .int .i64 x.n, .string x.s, .slice ax x.args.length cx] 28)).heap[bx]? = some (.cells #[.int .i64 x.kind, .int .i64 x.n, .string x.s, .slice ax x.args.length cx] 28 (0, 0)) := by rw [hbx]; exact heap_alloc_new w2 _
    have hltx : bx < (w2.alloc (.cells #[.int .i64 x.kind, .int .i64 x.n, .string x.s, .slice ax x.args.length cx] 28)).heap.size := by rw [hbx]; simp
    have hbxl : bt < bx := by omega
    have sX : Since (fun k => k = br) wP (w2.alloc (.cells #[.int .i64 x.kind, .int .i64 x.n, .string x.s, .slice ax x.args.length cx] 28)) := hs2.trans (Since.alloc _ _ _)
    have hm := readMust_any (h2.later hsX) (fun e => hg2.dep_eq e) ⟨#[41]⟩
    have Hx := Lib.hid (Good.keep (R := rX) (S' := fun k => w.heap.size < k) (w' := w2.alloc (.cells #[.int .i64 x.kind, .int .i64 x.n, .string x.s, .slice ax x.args.length cx] 28)) ⟨hsX.size, fun k hk hS => hsX.block k hk (fun f => f)⟩ (fun k hk hS => by omega) hx)
    have hgy : Res = runR T (PR.bind (mustR ⟨#[41]⟩) fun _ => PR.ret x) st2 := by
      have h9 : Good' T (30 - (d : Int)) (runR T (exprR d) st') x st2 := hg2
      rw [show Res = PR.bind (exprR d) (fun x => PR.bind (mustR ⟨#[41]⟩) fun _ => PR.ret x) (T.drop st.i).tail by rw [Hres.out]; unfold primR; rw [← seeR_head H0.out, Ht.out]; exact (if_neg E1.out).trans ((if_neg E2.out).trans ((if_neg E3.out).trans (if_pos ⟨E5.out, rfl⟩))), ← Hdrop.out, ← runR_ok (p := PR.bind (exprR d) (fun x => PR.bind (mustR ⟨#[41]⟩) fun _ => PR.ret x)) Hd'.out.1]
      exact h9.bind
    have Hm := Lib.hid hm
    have Hgy := Lib.hid hgy
    have SX := Lib.hid sX
    clear hs2 h2 hg2 hx hsX hm hgy sX
    go_wp2_with fail
    rw [← hbx]
    clear hbx
    generalize w2.alloc (.cells #[.int .i64 x.kind, .int .i64 x.n, .string x.s, .slice ax x.args.length cx] 28) = wX at *
    refine Hm.out.mono ?_
    rintro en w3 ⟨st3, rfl, h3, hs3, hg3⟩
    have xb3 := (hs3.block bx hltx (by omega)).trans hxb
    have x0 : w3.cell? ⟨bx, 0, none⟩ = some (.int .i64 x.kind) := by simp [World.cell?, xb3]
    have x1 : w3.cell? ⟨bx, 1, none⟩ = some (.int .i64 x.n) := by simp [World.cell?, xb3]
    have x2 : w3.cell? ⟨bx, 2, none⟩ = some (.string x.s) := by simp [World.cell?, xb3]
    have x3 : w3.cell? ⟨bx, 3, none⟩ = some (.slice ax x.args.length cx) := by simp [World.cell?, xb3]
    have s3 := SX.out.trans hs3
    have g0 := (s3.cell (b := w.heap.size) (o := 0) (by omega) (by omega)).trans g0
    have g1 := (s3.cell (b := w.heap.size) (o := 1) (by omega) (by omega)).trans g1
    have g2 := (s3.cell (b := w.heap.size) (o := 2) (by omega) (by omega)).trans g2
    have g3 := (s3.cell (b := w.heap.size) (o := 3) (by omega) (by omega)).trans g3
    have gz : ∀ j, w3.frozen? ⟨w.heap.size, j, none⟩ = false := fun j => (s3.frozen (by omega) (by omega)).trans (gz j)
    have hX3 : rX (fun k => w.heap.size < k) w3 [.int .i64 x.kind, .int .i64 x.n, .string x.s, .slice ax x.args.length cx] x := Good.keep (R := rX) ⟨hs3.size, fun k hk hS => hs3.block k hk (by omega)⟩ (fun _ _ h => h) Hx.out
    have HX3 := Lib.hid hX3
    have H3 := Lib.hid h3
    have S3 := Lib.hid s3
    have Hg3 := Lib.hid hg3
    clear h3 hs3 hg3 s3 hX3
    go_wp2_with fail
    obtain ⟨m0, m1, m2, m3, ms⟩ := cells4 (w := w3) g0 g1 g2 g3 (.int .i64 x.kind) (.int .i64 x.n) (.string x.s) (.slice ax x.args.length cx)
    generalize hWW : (((w3.setCell ⟨w.heap.size, 0, none⟩ (.int .i64 x.kind)).setCell ⟨w.heap.size, 1, none⟩ (.int .i64 x.n)).setCell ⟨w.heap.size, 2, none⟩ (.string x.s)).setCell ⟨w.heap.size, 3, none⟩ (.slice ax x.args.length cx) = WW at *
    refine bodyPost_ret (v := .agg #[.int .i64 x.kind, .int .i64 x.n, .string x.s, .slice ax x.args.length cx]) (by simp [results, Tryd.results90, go_sem, m0, m1, m2, m3]) rfl ⟨_, x, st3, rfl, Good.keep (R := rX) ⟨ms.size, fun k hk hS => ms.block k hk (by omega)⟩ (fun k hk hS => by omega) HX3.out, (H3.out).since ms (by omega) (by omega), (HsP.out.trans S3.out).then_new ms (fun k e => Or.inr (by omega)), ?_⟩
    rw [Hgy.out, Hg3.out.bind]; exact Good'.ret _ (fun e => Hg3.out.dep_eq e)
  by_cases e6 : tk = 119
  · have f6 : (tk != 119) = false := by simp [e6]
    have f4 : (tk == 109) = false := by simp [e6]
    have E6 := Lib.hid e6
    have hwo := hW wP br bT cap base T st' ⟨tk, ts, tn, tp⟩ HA1.out HB1.out Hd'.out.1 Hd'.out.2 ⟨Hts.out.1, Hts.out.2.2.1⟩
    have Hwo := Lib.hid hwo
    clear e6 hwo hE hW e4
    go_wp2_with fail
    refine Hwo.out.mono ?_
    rintro en w3 ⟨cs, x, st3, rfl, hx, h3, hs3, hg3⟩
    obtain ⟨ax, cx, rfl⟩ := rX_shape hx
    have hsz3 := hs3.size
    have g0 := (hs3.cell (b := w.heap.size) (o := 0) (by omega) (by omega)).trans g0
    have g1 := (hs3.cell (b := w.heap.size) (o := 1) (by omega) (by omega)).trans g1
    have g2 := (hs3.cell (b := w.heap.size) (o := 2) (by omega) (by omega)).trans g2
    have g3 := (hs3.cell (b := w.heap.size) (o := 3) (by omega) (by omega)).trans g3
    have gz : ∀ j, w3.frozen? ⟨w.heap.size, j, none⟩ = false := fun j => (hs3.frozen (by omega) (by omega)).trans (gz j)
    have HX3 := Lib.hid (Good.wide (R := rX) (S' := fun k => w.heap.size < k) hx (fun k _ h => by omega))
    have H3 := Lib.hid h3
    have S3 := Lib.hid hs3
    have Hg3 := Lib.hid hg3
    clear h3 hs3 hg3 hx
    go_wp2_with fail
    obtain ⟨m0, m1, m2, m3, ms⟩ := cells4 (w := w3) g0 g1 g2 g3 (.int .i64 x.kind) (.int .i64 x.n) (.string x.s) (.slice ax x.args.length cx)
    generalize hWW : (((w3.setCell ⟨w.heap.size, 0, none⟩ (.int .i64 x.kind)).setCell ⟨w.heap.size, 1, none⟩ (.int .i64 x.n)).setCell ⟨w.heap.size, 2, none⟩ (.string x.s)).setCell ⟨w.heap.size, 3, none⟩ (.slice ax x.args.length cx) = WW at *
    refine bodyPost_ret (v := .agg #[.int .i64 x.kind, .int .i64 x.n, .string x.s, .slice ax x.args.length cx]) (by simp [results, Tryd.results90, go_sem, m0, m1, m2, m3]) rfl ⟨_, x, st3, rfl, Good.keep (R := rX) ⟨ms.size, fun k hk hS => ms.block k hk (by omega)⟩ (fun k hk hS => by omega) HX3.out, (H3.out).since ms (by omega) (by omega), (HsP.out.trans S3.out).then_new ms (fun k e => Or.inr (by omega)), ?_⟩
    rw [show Res = wordR (exprR d) ⟨tk, ts, tn, tp⟩ (T.drop st'.i) by rw [Hres.out]; unfold primR; rw [← seeR_head H0.out, Ht.out]; rw [Hdrop.out]; exact (if_neg E1.out).trans ((if_neg E2.out).trans ((if_neg E3.out).trans ((if_neg (fun e => by have := e.1.symm.trans E6.out; cases this)).trans (if_neg (fun e => e E6.out)))))]; exact Hg3.out
  · have f6 : (tk != 119) = true := by simp [e6]
    have E6 := Lib.hid e6
    have E4 := Lib.hid e4
    clear e6 hE hW
    by_cases e7 : tk = 109
    · have f4 : (tk == 109) = true := by simp [e7]
      have f5 : (ts.toList == [40]) = false := by
        have := tokS_ne (x := ts) (y := ⟨#[40]⟩) (fun e => e4 ⟨e7, e⟩)
        simpa using this
      have f6' : ¬ ts.toList = [40] := by simpa using f5
      clear e7 e4
      go_wp2_with fail
      refine (readWrong_any HA1.out tp 4 (by decide)).mono ?_
      rintro en w2 ⟨rfl, h2, hs2⟩
      have g0 := (hs2.cell (b := w.heap.size) (o := 0) (by omega) (by omega)).trans g0
      have g1 := (hs2.cell (b := w.heap.size) (o := 1) (by omega) (by omega)).trans g1
      have g2 := (hs2.cell (b := w.heap.size) (o := 2) (by omega) (by omega)).trans g2
      have g3 := (hs2.cell (b := w.heap.size) (o := 3) (by omega) (by omega)).trans g3
      have gz : ∀ j, w2.frozen? ⟨w.heap.size, j, none⟩ = false := fun j => (hs2.frozen (by omega) (by omega)).trans (gz j)
      have hsz2 := hs2.size
      have H2 := Lib.hid h2
      have Hs2 := Lib.hid hs2
      clear h2 hs2
      go_wp2_with fail
      obtain ⟨m0, m1, m2, m3, ms⟩ := cells4 (w := w2) g0 g1 g2 g3 (.int .i64 0) (.int .i64 0) (.string ⟨#[]⟩) (.slice none 0 0)
      generalize hWW : (((w2.setCell ⟨w.heap.size, 0, none⟩ (.int .i64 0)).setCell ⟨w.heap.size, 1, none⟩ (.int .i64 0)).setCell ⟨w.heap.size, 2, none⟩ (.string ⟨#[]⟩)).setCell ⟨w.heap.size, 3, none⟩ (.slice none 0 0) = WW at *
      refine bodyPost_ret (v := .agg #[.int .i64 0, .int .i64 0, .string ⟨#[]⟩, .slice none 0 0]) (by simp [results, Tryd.results90, go_sem, m0, m1, m2, m3]) rfl ⟨_, .mk 0 0 ⟨#[]⟩ [], _, rfl, rX_zero _ _ 0 0 ⟨#[]⟩ (ini rfl) (ini rfl) (by decide), (H2.out).since ms (by omega) (by omega), (HsP.out.trans Hs2.out).then_new ms (fun k e => Or.inr (by omega)), ?_⟩
      rw [show Res = .error (tp, 4) by rw [Hres.out]; unfold primR; rw [← seeR_head H0.out, Ht.out]; exact (if_neg E1.out).trans ((if_neg E2.out).trans ((if_neg E3.out).trans ((if_neg E4.out).trans (if_pos E6.out)))), RSt.bad, if_pos Hd'.out.1]
      exact ⟨rfl, rfl, by decide⟩
    · have f4 : (tk == 109) = false := by simp [e7]
      clear e7 e4
      go_wp2_with fail
      refine (readWrong_any HA1.out tp 4 (by decide)).mono ?_
      rintro en w2 ⟨rfl, h2, hs2⟩
      have g0 := (hs2.cell (b := w.heap.size) (o := 0) (by omega) (by omega)).trans g0
      have g1 := (hs2.cell (b := w.heap.size) (o := 1) (by omega) (by omega)).trans g1
      have g2 := (hs2.cell (b := w.heap.size) (o := 2) (by omega) (by omega)).trans g2
      have g3 := (hs2.cell (b := w.heap.size) (o := 3) (by omega) (by omega)).trans g3
      have gz : ∀ j, w2.frozen? ⟨w.heap.size, j, none⟩ = false := fun j => (hs2.frozen (by omega) (by omega)).trans (gz j)
      have hsz2 := hs2.size
      have H2 := Lib.hid h2
      have Hs2 := Lib.hid hs2
      clear h2 hs2
      go_wp2_with fail
      obtain ⟨m0, m1, m2, m3, ms⟩ := cells4 (w := w2) g0 g1 g2 g3 (.int .i64 0) (.int .i64 0) (.string ⟨#[]⟩) (.slice none 0 0)
      generalize hWW : (((w2.setCell ⟨w.heap.size, 0, none⟩ (.int .i64 0)).setCell ⟨w.heap.size, 1, none⟩ (.int .i64 0)).setCell ⟨w.heap.size, 2, none⟩ (.string ⟨#[]⟩)).setCell ⟨w.heap.size, 3, none⟩ (.slice none 0 0) = WW at *
      refine bodyPost_ret (v := .agg #[.int .i64 0, .int .i64 0, .string ⟨#[]⟩, .slice none 0 0]) (by simp [results, Tryd.results90, go_sem, m0, m1, m2, m3]) rfl ⟨_, .mk 0 0 ⟨#[]⟩ [], _, rfl, rX_zero _ _ 0 0 ⟨#[]⟩ (ini rfl) (ini rfl) (by decide), (H2.out).since ms (by omega) (by omega), (HsP.out.trans Hs2.out).then_new ms (fun k e => Or.inr (by omega)), ?_⟩
      rw [show Res = .error (tp, 4) by rw [Hres.out]; unfold primR; rw [← seeR_head H0.out, Ht.out]; exact (if_neg E1.out).trans ((if_neg E2.out).trans ((if_neg E3.out).trans ((if_neg E4.out).trans (if_pos E6.out)))), RSt.bad, if_pos Hd'.out.1]
      exact ⟨rfl, rfl, by decide⟩
end Go.Proofs.YtkopjgnjflhkeaaDoor

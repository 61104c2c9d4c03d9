/-
  Texts joined: IrAt IrTurn Idx Funcs IrLaid IrInvoke IrPre IrMath.
-/
import Derived.Test.YtaomlfbcfmmhlaaDoorBigG
import Derived.Lib.LaidTab
import Derived.Test.YtaomlfbcfmmhlaaDoorRows
import Derived.Test.YtaomlfbcfmmhlaaDoorBigA
import Derived.Test.YtaomlfbcfmmhlaaDoorBigB

/-
  ir's machine in memory: its program, its words, its lines, its frames; what a store, an append, a call leaves of it.
-/
namespace Go.Proofs.YtaomlfbcfmmhlaaDoor
open Go.RowKit Go.Pst
set_option linter.unusedVariables false
set_option linter.unusedSimpArgs false

def irCells (bF oF : Nat) (f : Lev) (a : LA) : List Value := [.pointer (some ⟨bF, oF + f.fn * 6, none⟩), .slice (some ⟨a.gv, 0, none⟩) f.vars.length f.vars.length, .int .i64 f.block, .int .i64 f.at_, a.vw]
def irRow : List (Lev × LA) → List Value
  | [] => []
  | x :: r => irRow r ++ [.pointer (some ⟨x.2.gs, 0, none⟩)]
theorem irRow_length : ∀ fr : List (Lev × LA), (irRow fr).length = fr.length
  | [] => rfl
  | x :: r => by simp [irRow, irRow_length r]
structure LevIr (ρ : Nat → Option Lab) (w : World) (base bF oF i : Nat) (f : Lev) (a : LA) : Prop where
  lv : ρ a.gv = some (.v i)
  lt : ρ a.gs = some (.t i)
  vars : intRow w base a.gv f.vars
  cells : w.ownsRow base 107 5 (.slice (some ⟨a.gs, 0, none⟩) 1 1) 1 (irCells bF oF f a)
  want : rInts (· < base) w [a.vw] f.want
def LevsIr (ρ : Nat → Option Lab) (w : World) (base bF oF : Nat) : List (Lev × LA) → Prop
  | [] => True
  | x :: r => LevIr ρ w base bF oF r.length x.1 x.2 ∧ LevsIr ρ w base bF oF r
structure IrAt [Old] (ρ : Nat → Option Lab) (w : World) (base bm : Nat) (v1 vW vL vF : Value) (bF oF cF : Nat) (p : PProg) (limit end_ : Int) (words : List Int) (lines : List ByteArray) (fr : List (Lev × LA)) : Prop where
  prog : rProg (· < base) w [.slice (some ⟨bF, oF, none⟩) p.funcs.length cF, v1] p
  c0 : w.cell? ⟨bm, 0, none⟩ = some (.slice (some ⟨bF, oF, none⟩) p.funcs.length cF)
  c2 : w.cell? ⟨bm, 2, none⟩ = some vW
  c3 : w.cell? ⟨bm, 3, none⟩ = some (.int .i64 limit)
  c4 : w.cell? ⟨bm, 4, none⟩ = some vF
  c5 : w.cell? ⟨bm, 5, none⟩ = some vL
  c6 : w.cell? ⟨bm, 6, none⟩ = some (.int .i64 end_)
  z : ∀ j, w.frozen? ⟨bm, j, none⟩ = false
  lm : ρ bm = some .s ∧ base ≤ bm ∧ bm < w.heap.size
  lw : ∀ k, vW.ownBlock = some k → ρ k = some .w
  ll : ∀ k, vL.ownBlock = some k → ρ k = some .l
  lc : ∀ k, vF.ownBlock = some k → ρ k = some .c
  oW : w.ownsRow base 3 1 vW words.length (words.map (Value.int .i64))
  oL : w.ownsRow base 9 1 vL lines.length (lines.map Value.string)
  rF : w.ownsRow base 104 1 vF fr.length (irRow fr)
  levs : LevsIr ρ w base bF oF fr
  big : base ≤ w.heap.size
  below : Below base Old.w0 w

theorem LevIr.since {ρ : Nat → Option Lab} {w w' : World} {base bF oF i : Nat} {f : Lev} {a : LA} {F : Nat → Prop} (h : LevIr ρ w base bF oF i f a) (hs : Since F w w') (hB : ∀ k, F k → base ≤ k) (h1 : ¬ F a.gv) (h2 : ¬ F a.gs) : LevIr ρ w' base bF oF i f a :=
  ⟨h.lv, h.lt, hs.row h.vars (fun k hk e => h1 (by simp [Value.ownBlock] at hk; exact hk ▸ e)), hs.row h.cells (fun k hk e => h2 (by simp [Value.ownBlock] at hk; exact hk ▸ e)),
    Good.kept ((hs.keep).weaken (fun k _ hk e => absurd (hB k e) (by omega))) h.want⟩
theorem LevsIr.since {ρ : Nat → Option Lab} {w w' : World} {base bF oF : Nat} {F : Nat → Prop} (hs : Since F w w') (hB : ∀ k, F k → base ≤ k) : ∀ {fr : List (Lev × LA)}, LevsIr ρ w base bF oF fr → (∀ k i, F k → i < fr.length → ρ k ≠ some (.v i) ∧ ρ k ≠ some (.t i)) → LevsIr ρ w' base bF oF fr
  | [], _, _ => trivial
  | x :: r, h, hF => ⟨h.1.since hs hB (fun e => (hF _ _ e (by simp)).1 h.1.lv) (fun e => (hF _ _ e (by simp)).2 h.1.lt), LevsIr.since hs hB h.2 (fun k i hk hi => hF k i hk (by simp; omega))⟩
theorem LevsIr.label {ρ ρ' : Nat → Option Lab} {w : World} {base bF oF : Nat} (hρ : ∀ k, k < w.heap.size → ρ' k = ρ k) : ∀ {fr : List (Lev × LA)}, LevsIr ρ w base bF oF fr → LevsIr ρ' w base bF oF fr
  | [], _ => trivial
  | x :: r, h => by
    have hv : x.2.gv < w.heap.size := (h.1.vars.lt _ rfl).2
    have ht : x.2.gs < w.heap.size := (h.1.cells.lt _ rfl).2
    exact ⟨⟨by rw [hρ _ hv]; exact h.1.lv, by rw [hρ _ ht]; exact h.1.lt, h.1.vars, h.1.cells, h.1.want⟩, LevsIr.label hρ h.2⟩
namespace IrAt
variable [Old] {ρ : Nat → Option Lab} {w w' : World} {base bm : Nat} {v1 vW vL vF : Value} {bF oF cF : Nat} {p : PProg} {limit end_ : Int} {words : List Int} {lines : List ByteArray} {fr : List (Lev × LA)} {F : Nat → Prop}

theorem label {ρ' : Nat → Option Lab} (h : IrAt ρ w base bm v1 vW vL vF bF oF cF p limit end_ words lines fr) (hρ : ∀ k, k < w.heap.size → ρ' k = ρ k) : IrAt ρ' w base bm v1 vW vL vF bF oF cF p limit end_ words lines fr :=
  { h with
    lm := ⟨by rw [hρ _ h.lm.2.2]; exact h.lm.1, h.lm.2⟩
    lw := fun k hk => by rw [hρ _ (h.oW.lt k hk).2]; exact h.lw k hk
    ll := fun k hk => by rw [hρ _ (h.oL.lt k hk).2]; exact h.ll k hk
    lc := fun k hk => by rw [hρ _ (h.rF.lt k hk).2]; exact h.lc k hk
    levs := h.levs.label hρ }
/-- Blocks were written that are not the machine's own; what they hold is given anew. -/
theorem upd (h : IrAt ρ w base bm v1 vW vL vF bF oF cF p limit end_ words lines fr) {words' : List Int} {lines' : List ByteArray} {fr' : List (Lev × LA)}
    (hs : Since F w w') (hB : ∀ k, F k → base ≤ k) (hF : ∀ k, F k → ρ k ≠ some .s)
    (oW : w'.ownsRow base 3 1 vW words'.length (words'.map (Value.int .i64))) (oL : w'.ownsRow base 9 1 vL lines'.length (lines'.map Value.string)) (oF' : w'.ownsRow base 104 1 vF fr'.length (irRow fr')) (lv : LevsIr ρ w' base bF oF fr') :
    IrAt ρ w' base bm v1 vW vL vF bF oF cF p limit end_ words' lines' fr' :=
  have np : ¬ F bm := fun e => (hF _ e) h.lm.1
  { prog := Good.kept ((hs.keep).weaken (fun k _ hk e => absurd (hB k e) (by omega))) h.prog
    c0 := (hs.cell h.lm.2.2 np).trans h.c0
    c2 := (hs.cell h.lm.2.2 np).trans h.c2
    c3 := (hs.cell h.lm.2.2 np).trans h.c3
    c4 := (hs.cell h.lm.2.2 np).trans h.c4
    c5 := (hs.cell h.lm.2.2 np).trans h.c5
    c6 := (hs.cell h.lm.2.2 np).trans h.c6
    z := fun j => (hs.frozen h.lm.2.2 np).trans (h.z j)
    lm := ⟨h.lm.1, h.lm.2.1, Nat.lt_of_lt_of_le h.lm.2.2 hs.size⟩
    lw := h.lw
    ll := h.ll
    lc := h.lc
    oW := oW
    oL := oL
    rF := oF'
    levs := lv
    big := Nat.le_trans h.big hs.size
    below := h.below.trans (hs.below h.big hB) }
theorem sW (h : IrAt ρ w base bm v1 vW vL vF bF oF cF p limit end_ words lines fr) (hs : Since F w w') (hF : ∀ k, F k → ρ k ≠ some .w) : w'.ownsRow base 3 1 vW words.length (words.map (Value.int .i64)) :=
  hs.row h.oW (fun k hk e => hF k e (h.lw k hk))
theorem sL (h : IrAt ρ w base bm v1 vW vL vF bF oF cF p limit end_ words lines fr) (hs : Since F w w') (hF : ∀ k, F k → ρ k ≠ some .l) : w'.ownsRow base 9 1 vL lines.length (lines.map Value.string) :=
  hs.row h.oL (fun k hk e => hF k e (h.ll k hk))
theorem sF (h : IrAt ρ w base bm v1 vW vL vF bF oF cF p limit end_ words lines fr) (hs : Since F w w') (hF : ∀ k, F k → ρ k ≠ some .c) : w'.ownsRow base 104 1 vF fr.length (irRow fr) :=
  hs.row h.rF (fun k hk e => hF k e (h.lc k hk))
/-- Only new blocks. -/
theorem since (h : IrAt ρ w base bm v1 vW vL vF bF oF cF p limit end_ words lines fr) (hs : Since (fun _ => False) w w') : IrAt ρ w' base bm v1 vW vL vF bF oF cF p limit end_ words lines fr :=
  h.upd hs (fun _ e => e.elim) (fun _ e => e.elim) (h.sW hs (fun _ e => e.elim)) (h.sL hs (fun _ e => e.elim)) (h.sF hs (fun _ e => e.elim)) (LevsIr.since hs (fun _ e => e.elim) h.levs (fun _ _ e => e.elim))
/-- Blocks without a label were written. -/
theorem sinceN (h : IrAt ρ w base bm v1 vW vL vF bF oF cF p limit end_ words lines fr) (hs : Since F w w') (hN : ∀ k, F k → ρ k = none) (hB : ∀ k, F k → base ≤ k) : IrAt ρ w' base bm v1 vW vL vF bF oF cF p limit end_ words lines fr :=
  h.upd hs hB (fun k e => by rw [hN k e]; simp) (h.sW hs (fun k e => by rw [hN k e]; simp)) (h.sL hs (fun k e => by rw [hN k e]; simp)) (h.sF hs (fun k e => by rw [hN k e]; simp)) (LevsIr.since hs hB h.levs (fun k i e _ => by rw [hN k e]; simp))
/-- A variable of the innermost frame is set. -/
theorem setV {f : Lev} {a : LA} {r : List (Lev × LA)} (h : IrAt ρ w base bm v1 vW vL vF bF oF cF p limit end_ words lines ((f, a) :: r)) (d : Nat) (x : Int) :
    IrAt ρ (w.setCell ⟨a.gv, d, none⟩ (.int .i64 x)) base bm v1 vW vL vF bF oF cF p limit end_ words lines (({ f with vars := f.vars.set d x }, a) :: r) := by
  have hs := Since.setCell w ⟨a.gv, d, none⟩ (.int .i64 x)
  have hlv := h.levs.1.lv
  have hB : ∀ k, k = a.gv → base ≤ k := fun k e => by rw [e]; exact (h.levs.1.vars.lt _ rfl).1
  refine h.upd hs hB (fun k e => ?_) (h.sW hs (fun k e => ?_)) (h.sL hs (fun k e => ?_)) (h.sF hs (fun k e => ?_)) ⟨⟨hlv, h.levs.1.lt, ?_, ?_, ?_⟩, LevsIr.since hs hB h.levs.2 (fun k i e hi => ?_)⟩
  · rw [show k = a.gv from e, hlv]; simp
  · rw [show k = a.gv from e, hlv]; simp
  · rw [show k = a.gv from e, hlv]; simp
  · rw [show k = a.gv from e, hlv]; simp
  · have := row_put h.levs.1.vars d (.int .i64 x)
    simpa [intRow] using this
  · have h2 := hs.row h.levs.1.cells (fun k hk e => by
      have h1 : a.gs = k := by simpa [Value.ownBlock] using hk
      have := h.levs.1.lt
      rw [h1, show k = a.gv from e, hlv] at this
      simp at this)
    have e2 : irCells bF oF { f with vars := f.vars.set d x } a = irCells bF oF f a := by simp [irCells]
    rw [e2]
    exact h2
  · exact Good.kept ((hs.keep).weaken (fun k _ hk e => absurd (hB k e) (by omega))) h.levs.1.want
  · rw [show k = a.gv from e, hlv]
    simp
    omega
/-- A cell of the innermost frame is set. -/
theorem setC {f f' : Lev} {a : LA} {r : List (Lev × LA)} (h : IrAt ρ w base bm v1 vW vL vF bF oF cF p limit end_ words lines ((f, a) :: r)) (j : Nat) (u : Value)
    (h1 : f'.vars = f.vars) (h3 : f'.want = f.want) (hj : (irCells bF oF f a).set j u = irCells bF oF f' a) :
    IrAt ρ (w.setCell ⟨a.gs, j, none⟩ u) base bm v1 vW vL vF bF oF cF p limit end_ words lines ((f', a) :: r) := by
  have hs := Since.setCell w ⟨a.gs, j, none⟩ u
  have hlv := h.levs.1.lt
  have hB : ∀ k, k = a.gs → base ≤ k := fun k e => by rw [e]; exact (h.levs.1.cells.lt _ rfl).1
  refine h.upd hs hB (fun k e => ?_) (h.sW hs (fun k e => ?_)) (h.sL hs (fun k e => ?_)) (h.sF hs (fun k e => ?_)) ⟨⟨h.levs.1.lv, hlv, ?_, ?_, ?_⟩, LevsIr.since hs hB h.levs.2 (fun k i e hi => ?_)⟩
  · rw [show k = a.gs from e, hlv]; simp
  · rw [show k = a.gs from e, hlv]; simp
  · rw [show k = a.gs from e, hlv]; simp
  · rw [show k = a.gs from e, hlv]; simp
  · rw [h1]
    refine hs.row h.levs.1.vars (fun k hk e => ?_)
    have h1 : a.gv = k := by simpa [Value.ownBlock] using hk
    have := h.levs.1.lv
    rw [h1, show k = a.gs from e, hlv] at this
    simp at this
  · rw [← hj]
    exact row_put h.levs.1.cells j u
  · rw [h3]
    exact Good.kept ((hs.keep).weaken (fun k _ hk e => absurd (hB k e) (by omega))) h.levs.1.want
  · rw [show k = a.gs from e, hlv]
    simp
    omega
/-- A cell of the innermost frame. -/
theorem get {f : Lev} {a : LA} {r : List (Lev × LA)} (h : IrAt ρ w base bm v1 vW vL vF bF oF cF p limit end_ words lines ((f, a) :: r)) {j : Nat} {u : Value} (hu : (irCells bF oF f a)[j]? = some u) :
    w.cell? ⟨a.gs, j, none⟩ = some u ∧ w.frozen? ⟨a.gs, j, none⟩ = false ∧ a.gs < w.heap.size := by
  obtain ⟨g, cap, hv, -, -, hl, hc, hf⟩ := row_get h.levs.1.cells hu
  obtain ⟨rfl, -⟩ : a.gs = g ∧ _ := by simpa using hv
  exact ⟨hc, hf, hl⟩
/-- The row of frames, its last one. -/
theorem top {f : Lev} {a : LA} {r : List (Lev × LA)} (h : IrAt ρ w base bm v1 vW vL vF bF oF cF p limit end_ words lines ((f, a) :: r)) :
    ∃ g cap, vF = .slice (some ⟨g, 0, none⟩) (r.length + 1) cap ∧ r.length + 1 ≤ cap ∧ base ≤ g ∧ g < w.heap.size ∧ w.cell? ⟨g, r.length, none⟩ = some (.pointer (some ⟨a.gs, 0, none⟩)) ∧ w.frozen? ⟨g, r.length, none⟩ = false := by
  obtain ⟨aC, cC, hv, hle, -⟩ := row_slice h.rF
  obtain ⟨g, cap, rfl, -, h1, h2, h3, h4⟩ := row_get h.rF (i := r.length) (u := .pointer (some ⟨a.gs, 0, none⟩)) (by
    show (irRow r ++ [_])[r.length]? = _
    rw [List.getElem?_append_right (by rw [irRow_length]; omega), irRow_length, Nat.sub_self]
    rfl)
  have : cap = cC := by simpa using (Value.slice.inj hv).2.2
  exact ⟨g, cap, rfl, by rw [this]; simpa using hle, h1, h2, h3, h4⟩
/-- A cell of the machine, with what it is for, is set anew. -/
theorem setM (h : IrAt ρ w base bm v1 vW vL vF bF oF cF p limit end_ words lines fr) (j : Nat) (u : Value) (hj : j < 7) {vW' vL' vF' : Value} {end' : Int} {words' : List Int} {lines' : List ByteArray} {fr' : List (Lev × LA)}
    (k2 : j ≠ 2 → vW' = vW) (k4 : j ≠ 4 → vF' = vF) (k5 : j ≠ 5 → vL' = vL) (k6 : j ≠ 6 → end' = end_) (u2 : j = 2 → u = vW') (u4 : j = 4 → u = vF') (u5 : j = 5 → u = vL') (u6 : j = 6 → u = .int .i64 end') (hj0 : 2 ≤ j) (hj3 : j ≠ 3)
    (lw : ∀ k, vW'.ownBlock = some k → ρ k = some .w) (ll : ∀ k, vL'.ownBlock = some k → ρ k = some .l) (lc : ∀ k, vF'.ownBlock = some k → ρ k = some .c)
    (oW : w.ownsRow base 3 1 vW' words'.length (words'.map (Value.int .i64))) (oL : w.ownsRow base 9 1 vL' lines'.length (lines'.map Value.string)) (oF' : w.ownsRow base 104 1 vF' fr'.length (irRow fr')) (lv : LevsIr ρ w base bF oF fr') :
    IrAt ρ (w.setCell ⟨bm, j, none⟩ u) base bm v1 vW' vL' vF' bF oF cF p limit end' words' lines' fr' := by
  have hs := Since.setCell w ⟨bm, j, none⟩ u
  have hB : ∀ k, k = bm → base ≤ k := fun k e => by rw [e]; exact h.lm.2.1
  have hl : ∀ lb, lb ≠ .s → ∀ k, k = bm → ρ k ≠ some lb := fun lb hl k e => by rw [e, h.lm.1]; intro h; exact hl (Option.some.inj h).symm
  have get : ∀ i v, w.cell? ⟨bm, i, none⟩ = some v → i ≠ j → (w.setCell ⟨bm, j, none⟩ u).cell? ⟨bm, i, none⟩ = some v := fun i v hv hn => by
    rw [World.cell?_setCell_other (h := by simp <;> omega)]; exact hv
  refine { prog := Good.kept ((hs.keep).weaken (fun k _ hk e => absurd (hB k e) (by omega))) h.prog, c0 := get _ _ h.c0 (by omega), c2 := ?_, c3 := get _ _ h.c3 (by omega), c4 := ?_, c5 := ?_, c6 := ?_, z := fun j' => (by rw [World.frozen?_setCell]; exact h.z j'), lm := ⟨h.lm.1, h.lm.2.1, (by simp; exact h.lm.2.2)⟩, lw := lw, ll := ll, lc := lc, oW := hs.row oW (fun k hk e => hl .w (by simp) k e (lw k hk)), oL := hs.row oL (fun k hk e => hl .l (by simp) k e (ll k hk)), rF := hs.row oF' (fun k hk e => hl .c (by simp) k e (lc k hk)), levs := LevsIr.since hs hB lv (fun k i e _ => ⟨hl _ (by simp) k e, hl _ (by simp) k e⟩), big := (by simp; exact h.big), below := h.below.trans (hs.below h.big hB) }
  · by_cases e : j = 2
    · subst e; rw [← u2 rfl]; exact World.cell?_setCell_same _ _ _ h.c2
    · rw [k2 e]; exact get _ _ h.c2 (by omega)
  · by_cases e : j = 4
    · subst e; rw [← u4 rfl]; exact World.cell?_setCell_same _ _ _ h.c4
    · rw [k4 e]; exact get _ _ h.c4 (by omega)
  · by_cases e : j = 5
    · subst e; rw [← u5 rfl]; exact World.cell?_setCell_same _ _ _ h.c5
    · rw [k5 e]; exact get _ _ h.c5 (by omega)
  · by_cases e : j = 6
    · subst e; rw [← u6 rfl]; exact World.cell?_setCell_same _ _ _ h.c6
    · rw [k6 e]; exact get _ _ h.c6 (by omega)
end IrAt
end Go.Proofs.YtaomlfbcfmmhlaaDoor

/-
  ir's machine: its words or its lines turn; strconv's table.
-/
namespace Go.Proofs.YtaomlfbcfmmhlaaDoor
open Go.RowKit Go.Pst
set_option linter.unusedVariables false
set_option linter.unusedSimpArgs false

theorem IrAt.turn [Old] {ρ : Nat → Option Lab} {w w2 : World} {base bm : Nat} {v1 vW vL vF : Value} {bF oF cF : Nat} {p : PProg} {limit end_ : Int} {words : List Int} {lines : List ByteArray} {fr : List (Lev × LA)} {F : Nat → Prop}
    (h : IrAt ρ w base bm v1 vW vL vF bF oF cF p limit end_ words lines fr) (s2 : Since F w w2) (j : Nat) (hj : j = 2 ∨ j = 5) (u : Value) {vW' vL' : Value} {words' : List Int} {lines' : List ByteArray}
    (hF : ∀ k, F k → (j = 2 ∧ vW.ownBlock = some k) ∨ (j = 5 ∧ vL.ownBlock = some k)) (kW : j ≠ 2 → vW' = vW ∧ words' = words) (kL : j ≠ 5 → vL' = vL ∧ lines' = lines) (uW : j = 2 → u = vW') (uL : j = 5 → u = vL')
    (oW : j = 2 → w2.ownsRow base 3 1 vW' words'.length (words'.map (Value.int .i64))) (oL : j = 5 → w2.ownsRow base 9 1 vL' lines'.length (lines'.map Value.string))
    (nW : j = 2 → ∀ k, vW'.ownBlock = some k → vW.ownBlock = some k ∨ w.heap.size ≤ k) (nL : j = 5 → ∀ k, vL'.ownBlock = some k → vL.ownBlock = some k ∨ w.heap.size ≤ k) :
    ∃ ρ', IrAt ρ' (w2.setCell ⟨bm, j, none⟩ u) base bm v1 vW' vL' vF bF oF cF p limit end_ words' lines' fr := by
  have lab : ∀ k, F k → (j = 2 ∧ ρ k = some .w) ∨ (j = 5 ∧ ρ k = some .l) := fun k e => (hF k e).imp (fun h' => ⟨h'.1, h.lw k h'.2⟩) (fun h' => ⟨h'.1, h.ll k h'.2⟩)
  have nbF : ¬ F bm := fun e => by rcases lab bm e with ⟨-, e⟩ | ⟨-, e⟩ <;> rw [h.lm.1] at e <;> simp at e
  have hltF : ∀ k, F k → base ≤ k ∧ k < w.heap.size := fun k e => by
    rcases hF k e with ⟨-, e⟩ | ⟨-, e⟩
    · exact h.oW.lt k e
    · exact h.oL.lt k e
  have s4 := Since.setCell w2 ⟨bm, j, none⟩ u
  have s5 : Since (fun k => F k ∨ k = bm) w (w2.setCell ⟨bm, j, none⟩ u) := (s2.mono (fun _ e => Or.inl e)).trans (s4.mono (fun _ e => Or.inr e))
  have hB : ∀ k, (F k ∨ k = bm) → base ≤ k := fun k e => by
    rcases e with e | e
    · exact (hltF k e).1
    · rw [e]; exact h.lm.2.1
  have h1 := h.label (ρ' := fun k => if k < w.heap.size then ρ k else if j = 2 then some .w else some .l) (fun k hk => by simp [hk])
  have lab1 : ∀ k, (F k ∨ k = bm) → (if k < w.heap.size then ρ k else if j = 2 then some Lab.w else some Lab.l) = some .w ∨ (if k < w.heap.size then ρ k else if j = 2 then some Lab.w else some Lab.l) = some .l ∨ (if k < w.heap.size then ρ k else if j = 2 then some Lab.w else some Lab.l) = some .s := fun k e => by
    rcases e with e | e
    · simp only [(hltF k e).2, if_true]
      rcases lab k e with ⟨-, e⟩ | ⟨-, e⟩
      · exact Or.inl e
      · exact Or.inr (Or.inl e)
    · rw [e]
      simp only [h.lm.2.2, if_true]
      exact Or.inr (Or.inr h.lm.1)
  have get : ∀ i v, w.cell? ⟨bm, i, none⟩ = some v → i ≠ j → (w2.setCell ⟨bm, j, none⟩ u).cell? ⟨bm, i, none⟩ = some v := fun i v hv hn => by
    rw [World.cell?_setCell_other (h := by simp <;> omega)]
    exact (s2.cell h.lm.2.2 nbF).trans hv
  have hlw : ∀ k, vW'.ownBlock = some k → (if k < w.heap.size then ρ k else if j = 2 then some Lab.w else some Lab.l) = some .w := fun k hk => by
    by_cases e : j = 2
    · rcases nW e k hk with e1 | e1
      · simp only [(h.oW.lt k e1).2, if_true]; exact h.lw k e1
      · simp [show ¬ k < w.heap.size by omega, e]
    · rw [(kW e).1] at hk
      simp only [(h.oW.lt k hk).2, if_true]; exact h.lw k hk
  have hll : ∀ k, vL'.ownBlock = some k → (if k < w.heap.size then ρ k else if j = 2 then some Lab.w else some Lab.l) = some .l := fun k hk => by
    by_cases e : j = 5
    · rcases nL e k hk with e1 | e1
      · simp only [(h.oL.lt k e1).2, if_true]; exact h.ll k e1
      · simp [show ¬ k < w.heap.size by omega, e]
    · rw [(kL e).1] at hk
      simp only [(h.oL.lt k hk).2, if_true]; exact h.ll k hk
  have bmL : (if bm < w.heap.size then ρ bm else if j = 2 then some Lab.w else some Lab.l) = some .s := by simp only [h.lm.2.2, if_true]; exact h.lm.1
  have oW2 : w2.ownsRow base 3 1 vW' words'.length (words'.map (Value.int .i64)) := by
    by_cases e : j = 2
    · exact oW e
    · rw [(kW e).1, (kW e).2]
      exact h.sW s2 (fun k e' => by rcases lab k e' with ⟨e1, -⟩ | ⟨-, e1⟩; exact absurd e1 e; rw [e1]; simp)
  have oL2 : w2.ownsRow base 9 1 vL' lines'.length (lines'.map Value.string) := by
    by_cases e : j = 5
    · exact oL e
    · rw [(kL e).1, (kL e).2]
      exact h.sL s2 (fun k e' => by rcases lab k e' with ⟨-, e1⟩ | ⟨e1, -⟩; rw [e1]; simp; exact absurd e1 e)
  refine ⟨_, { prog := Good.kept ((s5.keep).weaken (fun k _ hk e => absurd (hB k e) (by omega))) h.prog
               c0 := get _ _ h.c0 (by omega)
               c2 := ?_
               c3 := get _ _ h.c3 (by omega)
               c4 := get _ _ h.c4 (by omega)
               c5 := ?_
               c6 := get _ _ h.c6 (by omega)
               z := fun i => (by rw [World.frozen?_setCell]; exact (s2.frozen h.lm.2.2 nbF).trans (h.z i))
               lm := ⟨bmL, h.lm.2.1, Nat.lt_of_lt_of_le h.lm.2.2 s5.size⟩
               lw := hlw
               ll := hll
               lc := h1.lc
               oW := s4.row oW2 (fun k hk e => by have := hlw k hk; rw [show k = bm from e, bmL] at this; simp at this)
               oL := s4.row oL2 (fun k hk e => by have := hll k hk; rw [show k = bm from e, bmL] at this; simp at this)
               rF := s5.row h.rF (fun k hk e => by have h2 := h1.lc k hk; rcases lab1 k e with e | e | e <;> rw [e] at h2 <;> simp at h2)
               levs := LevsIr.since s5 hB h1.levs (fun k i e hi => by rcases lab1 k e with e | e | e <;> simp only [e] <;> simp)
               big := Nat.le_trans h.big s5.size
               below := h.below.trans (s5.below h.big hB) }⟩
  · by_cases e : j = 2
    · subst e; rw [← uW rfl]; exact World.cell?_setCell_same _ _ _ ((s2.cell h.lm.2.2 nbF).trans h.c2)
    · rw [(kW e).1]; exact get _ _ h.c2 (by omega)
  · by_cases e : j = 5
    · subst e; rw [← uL rfl]; exact World.cell?_setCell_same _ _ _ ((s2.cell h.lm.2.2 nbF).trans h.c5)
    · rw [(kL e).1]; exact get _ _ h.c5 (by omega)

/-- strconv's table of powers, as the rows lay it. -/
structure TabOK (w : World) : Prop where
  is_ : Lib.TabIs Tryd.prog w "internal/strconv.uint64pow10" .u64 Lib.pow10Tab
  lt : 5 < w.heap.size
theorem TabOK.since {F : Nat → Prop} {w w' : World} (h : TabOK w) (hs : Since F w w') (hF : ¬ F 5) : TabOK w' := by
  refine ⟨?_, Nat.lt_of_lt_of_le h.lt hs.size⟩
  have h1 := h.is_
  have hg : Tryd.prog.globalNamed "internal/strconv.uint64pow10" = some 5 := by kernel_rfl
  unfold Lib.TabIs World.var? at *
  rw [hg] at h1 ⊢
  simp only [Option.bind_some] at h1 ⊢
  rw [hs.block _ h.lt hF]
  exact h1
end Go.Proofs.YtaomlfbcfmmhlaaDoor

/-
  Contracts of slices.Index, slices.Contains at ints.
-/
namespace Go.Proofs.YtaomlfbcfmmhlaaDoor
open Go.RowKit Go.Pst
set_option linter.unusedVariables false

/-- The first place of a number, or -1. -/
def firstAt (x : Int) : List Int → Nat → Int
  | [], _ => -1
  | y :: r, k => if x = y then (k : Int) else firstAt x r (k + 1)
theorem firstAt_ge (x : Int) : ∀ (l : List Int) (k : Nat), (0 ≤ firstAt x l k ↔ x ∈ l)
  | [], k => by simp [firstAt]
  | y :: r, k => by
    unfold firstAt
    by_cases h : x = y
    · simp [h]
    · simp [h, firstAt_ge x r (k + 1)]

set_option maxHeartbeats 400000 in
theorem index_any (x : Int) (a : Option Addr) (l : List Int) (cap : Nat) (w : World) (hl : l.length ≤ 9223372036854775807) (hat : IntsAt w a l) :
    Calls Tryd.prog 135 #[.slice a l.length cap, .int .i64 x] w fun e w' => e = .returned (.int .i64 (firstAt x l 0)) ∧ w = w' := by
  go_enter Tryd.func135, Tryd.ntmps135
  go_wp2
  go_loop [8] (fun i => ∃ k : Nat, k ≤ l.length ∧ i = .int .i64 k ∧ firstAt x l 0 = firstAt x (l.drop k) k) (fun i => l.length - (intOf i).toNat)
  case atStart => exact ⟨0, Nat.zero_le _, rfl, by simp⟩
  case round =>
    obtain ⟨k, hk, rfl, hf⟩ := hrel
    have Hf := Lib.hid hf
    clear hf
    by_cases hlt : k < l.length
    · obtain ⟨b, off, rfl, hb, hc⟩ := hat k hlt
      have hlt1 : (k : Int) < (l.length : Int) := by omega
      have hd : l.drop k = l[k] :: l.drop (k + 1) := List.drop_eq_getElem_cons hlt
      have Hd := Lib.hid hd
      clear hd hat
      generalize l[k] = y at *
      by_cases hxy : x = y
      · subst hxy
        go_wp2
        go_ret
        exact ⟨by rw [Hf.out, Hd.out]; simp [firstAt], rfl⟩
      · have hne : (x == y) = false := by simpa using hxy
        go_wp2
        go_round
        case rel => exact ⟨k + 1, by omega, by go_num, by rw [Hf.out, Hd.out]; simp [firstAt, hxy]⟩
        case measure => simp [intOf]; omega
    · have hke : k = l.length := by omega
      subst hke
      go_wp2
      go_ret
      exact ⟨by rw [Hf.out]; simp [firstAt], rfl⟩

theorem contains_any (x : Int) (a : Option Addr) (l : List Int) (cap : Nat) (w : World) (hl : l.length ≤ 9223372036854775807) (hat : IntsAt w a l) :
    Calls Tryd.prog 76 #[.slice a l.length cap, .int .i64 x] w fun e w' => e = .returned (.bool (decide (x ∈ l))) ∧ w = w' := by
  have hge := firstAt_ge x l 0
  go_enter Tryd.func76, Tryd.ntmps76
  go_wp2_with (go_at_call 135; refine (index_any _ _ _ _ _ hl hat).mono ?_; rintro e w' ⟨rfl, rfl⟩)
  all_goals
    go_ret
    exact ⟨by simp_all, rfl⟩

end Go.Proofs.YtaomlfbcfmmhlaaDoor

/-
  slices.IndexFunc, ContainsFunc at ints, of whatever closure that only reads.
-/
namespace Go.Proofs.YtaomlfbcfmmhlaaDoor
open Go.RowKit Go.Pst
set_option linter.unusedVariables false

/-- The first place of a number that a predicate takes, or -1. -/
def firstBy (p : Int → Bool) : List Int → Nat → Int
  | [], _ => -1
  | y :: r, k => if p y = true then (k : Int) else firstBy p r (k + 1)
theorem firstBy_ge (p : Int → Bool) : ∀ (l : List Int) (k : Nat), decide (0 ≤ firstBy p l k) = l.any p
  | [], k => by simp [firstBy]
  | y :: r, k => by
    unfold firstBy
    by_cases h : p y = true
    · simp [h]
    · simp [h, firstBy_ge p r (k + 1)]

/-- A function of the program's own, entered when it is called. -/
def Enters (P : Program) (g : Nat) : Prop := ∀ (args : Array Value) (w : World), (callFunc g args).run P w = .ok (.enter g args) w
theorem enters_of {P : Program} {g : Nat} {fn : Func} (h : P.funcs[g]? = some fn) (hn : (fn.name == "runtime.NumGoroutine") = false) (hb : fn.body.isNone = false) : Enters P g := by
  intro args w
  have hn' : ¬ fn.name = "runtime.NumGoroutine" := by simpa using hn
  have hb' : ¬ fn.body = none := fun e => by rw [e] at hb; simp at hb
  simp [callFunc, h, hn', hb']

/-- A closure that answers p at each number of l, in whatever world is w but for draws. -/
def Answers (P : Program) (g : Nat) (lb : Array Value) (p : Int → Bool) (l : List Int) (w : World) : Prop :=
  ∀ x ∈ l, ∀ w', Drawn w w' → Calls P g (#[.int .i64 x] ++ lb) w' fun e w'' => e = .returned (.bool (p x)) ∧ Drawn w' w''

theorem Answers.later {P : Program} {g : Nat} {lb : Array Value} {p : Int → Bool} {l : List Int} {w w1 : World} (h : Answers P g lb p l w) (hd : Drawn w w1) : Answers P g lb p l w1 := fun x hx w' hw => h x hx w' (hd.trans hw)

set_option maxHeartbeats 400000 in
theorem indexFunc_ints (g : Nat) (lb : Array Value) (p : Int → Bool) (a : Option Addr) (l : List Int) (cap : Nat) (w : World) (hl : l.length ≤ 9223372036854775807) (hat : IntsAt w a l) (hg : Enters Tryd.prog g) (hp : Answers Tryd.prog g lb p l w) :
    Calls Tryd.prog 77 #[.slice a l.length cap, .func (.func g) #[] lb] w fun e w' => e = .returned (.int .i64 (firstBy p l 0)) ∧ Drawn w w' := by
  go_enter Tryd.func77, Tryd.ntmps77
  go_wp2_with fail
  go_loopw [8] (fun i wr => ∃ k : Nat, k ≤ l.length ∧ i = .int .i64 k ∧ firstBy p l 0 = firstBy p (l.drop k) k ∧ Drawn w wr) (fun i _ => l.length - (intOf i).toNat)
  case atStart => exact ⟨0, Nat.zero_le _, rfl, by simp, Drawn.refl _⟩
  case round =>
    obtain ⟨k, hk, rfl, hf, hdr⟩ := hrel
    have Hf := Lib.hid hf
    clear hf
    by_cases hlt : k < l.length
    · obtain ⟨b, off, rfl, hb, hc⟩ := hat k hlt
      have hcx : wr.cell? ⟨b, off + k, none⟩ = some (.int .i64 l[k]) := by rw [hdr.cell]; exact hc
      have hlt1 : (k : Int) < (l.length : Int) := by omega
      have hd : l.drop k = l[k] :: l.drop (k + 1) := List.drop_eq_getElem_cons hlt
      have Hd := Lib.hid hd
      have hent := fun args w => hg args w
      have hcall := hp _ (List.getElem_mem hlt) wr hdr
      have Hc := Lib.hid hcall
      clear hd hat hcall hc hp
      generalize l[k] = y at *
      go_wp2_with fail
      refine (Hc.out).mono ?_
      rintro e w1 ⟨rfl, hd1⟩
      have hdr1 := hdr.trans hd1
      cases he : p y with
      | true =>
        have He := Lib.hid he
        clear he
        go_wp2_with fail
        go_ret
        exact ⟨by rw [Hf.out, Hd.out]; simp [firstBy, He.out], hdr1⟩
      | false =>
        have He := Lib.hid he
        clear he
        go_wp2_with fail
        go_roundw
        case rel => exact ⟨k + 1, by omega, by go_num, by rw [Hf.out, Hd.out]; simp [firstBy, He.out], hdr1⟩
        case measure => simp [intOf]; omega
    · have hke : k = l.length := by omega
      subst hke
      go_wp2_with fail
      go_ret
      exact ⟨by rw [Hf.out]; simp [firstBy], hdr⟩

theorem containsFunc_ints (g : Nat) (lb : Array Value) (p : Int → Bool) (a : Option Addr) (l : List Int) (cap : Nat) (w : World) (hl : l.length ≤ 9223372036854775807) (hat : IntsAt w a l) (hg : Enters Tryd.prog g) (hp : Answers Tryd.prog g lb p l w) :
    Calls Tryd.prog 34 #[.slice a l.length cap, .func (.func g) #[] lb] w fun e w' => e = .returned (.bool (l.any p)) ∧ Drawn w w' := by
  have Hg := Lib.hid (firstBy_ge p l 0)
  go_enter Tryd.func34, Tryd.ntmps34
  go_wp2_with fail
  refine (indexFunc_ints g lb p a l cap w hl hat hg hp).mono ?_
  rintro e w1 ⟨rfl, hd⟩
  go_wp2_with fail
  go_ret
  exact ⟨by rw [← Hg.out]; rfl, hd⟩
end Go.Proofs.YtaomlfbcfmmhlaaDoor

/-
  ir.rules, ir.maths: what the program's text lays there, and what it gives a walk; the small functions of package ir and of slices that its checks call.
-/
namespace Go.Proofs.YtaomlfbcfmmhlaaDoor
open Go.RowKit Go.Pst
set_option linter.unusedVariables false

/-- ir.rules: how many results, arguments, places (-1: as many as it says). -/
def ruleF : Nat → Int × Int × Int
  | 1 => (1, 0, 0) | 2 => (1, 1, 0) | 3 => (1, 2, 0) | 4 => (1, 1, 0) | 5 => (0, 2, 0) | 6 => (1, 1, 0) | 7 => (-1, -1, 0) | 8 => (0, -1, 0) | 9 => (0, 0, 1)
  | 10 => (0, 1, 2) | 11 => (0, 1, -1) | 12 => (0, -1, 0) | _ => (0, 0, 0)

structure IrLaid (w : World) : Prop where
  lt : 0 < w.heap.size ∧ 1 < w.heap.size
  rules : ∀ k, k < 14 → w.cell? ⟨0, k * 3, none⟩ = some (.int .i64 (ruleF k).1) ∧ w.cell? ⟨0, k * 3 + 1, none⟩ = some (.int .i64 (ruleF k).2.1) ∧ w.cell? ⟨0, k * 3 + 2, none⟩ = some (.int .i64 (ruleF k).2.2)
  maths : ∃ a cap, w.cell? ⟨1, 0, none⟩ = some (.slice a 11 cap) ∧ StrsAt w a mathsF
theorem IrLaid.below {w w' : World} (h : IrLaid w) (hb : Below w.heap.size w w') : IrLaid w' := by
  refine ⟨⟨Nat.lt_of_lt_of_le h.lt.1 hb.size, Nat.lt_of_lt_of_le h.lt.2 hb.size⟩, fun k hk => ?_, ?_⟩
  · obtain ⟨h1, h2, h3⟩ := h.rules k hk
    exact ⟨(hb.cell (p := ⟨_, k * 3, none⟩) h.lt.1).trans h1, (hb.cell (p := ⟨_, k * 3 + 1, none⟩) h.lt.1).trans h2, (hb.cell (p := ⟨_, k * 3 + 2, none⟩) h.lt.1).trans h3⟩
  · obtain ⟨a, cap, h1, h2⟩ := h.maths
    exact ⟨a, cap, (hb.cell (p := ⟨_, 0, none⟩) h.lt.2).trans h1, h2.below hb⟩

theorem irEnds_any (x : Int) (w : World) :
    Calls Tryd.prog 74 #[.int .i64 x] w fun e w' => e = .returned (.bool (closesF x)) ∧ w = w' := by
  go_enter Tryd.func74, Tryd.ntmps74
  by_cases h : 9 ≤ x
  · have h1 : decide (x ≥ 9) = true := decide_eq_true h
    go_wp2
    go_ret
    exact ⟨by simp [closesF, h], rfl⟩
  · have h1 : decide (x ≥ 9) = false := decide_eq_false h
    go_wp2
    go_ret
    exact ⟨by simp [closesF]; omega, rfl⟩

/-- The closures of checkInstr: a number outside. -/
def oddF (hi : Int) (x : Int) : Bool := decide (x < 0) || decide (hi ≤ x)
theorem any_oddF (l : List Int) (hi : Int) : l.any (oddF hi) = !(inAll l hi) := by
  unfold inAll
  induction l with
  | nil => rfl
  | cons x r ih =>
    rw [List.any_cons, List.all_cons, ih]
    by_cases h1 : 0 ≤ x <;> by_cases h2 : x ≤ hi - 1 <;> simp [oddF, h1, h2] <;> omega

theorem odd1_answers (hi : Int) (l : List Int) (w : World) (blk : Nat) (hc : w.cell? ⟨blk, 3, none⟩ = some (.int .i64 hi)) :
    Answers Tryd.prog 131 #[.pointer (some ⟨blk, 0, none⟩)] (oddF hi) l w := by
  intro x _ w' hd
  have hc' : w'.cell? ⟨blk, 3, none⟩ = some (.int .i64 hi) := by rw [hd.cell]; exact hc
  by_cases h : x < 0
  · have h1 : decide (x < 0) = true := decide_eq_true h
    go_enter Tryd.func131, Tryd.ntmps131
    go_wp2_with fail
    go_ret
    exact ⟨by simp [oddF, h], Drawn.refl _⟩
  · have h1 : decide (x < 0) = false := decide_eq_false h
    go_enter Tryd.func131, Tryd.ntmps131
    go_wp2_with fail
    go_ret
    exact ⟨by simp [oddF]; omega, Drawn.refl _⟩

theorem odd2_answers (nb : Nat) (l : List Int) (w : World) (blk : Nat) (a : Option Addr) (cap : Nat) (hn : nb ≤ 9223372036854775807) (hc : w.cell? ⟨blk, 5, none⟩ = some (.slice a nb cap)) :
    Answers Tryd.prog 132 #[.pointer (some ⟨blk, 0, none⟩)] (oddF nb) l w := by
  intro x _ w' hd
  have hc' : w'.cell? ⟨blk, 5, none⟩ = some (.slice a nb cap) := by rw [hd.cell]; exact hc
  by_cases h : x < 0
  · have h1 : decide (x < 0) = true := decide_eq_true h
    go_enter Tryd.func132, Tryd.ntmps132
    go_wp2_with fail
    go_ret
    exact ⟨by simp [oddF, h], Drawn.refl _⟩
  · have h1 : decide (x < 0) = false := decide_eq_false h
    go_enter Tryd.func132, Tryd.ntmps132
    go_wp2_with fail
    go_ret
    exact ⟨by simp [oddF]; omega, Drawn.refl _⟩

set_option maxHeartbeats 400000 in
theorem indexStr_any (x : ByteArray) (a : Option Addr) (l : List ByteArray) (cap : Nat) (w : World) (hl : l.length ≤ 9223372036854775807) (hat : StrsAt w a l) :
    Calls Tryd.prog 161 #[.slice a l.length cap, .string x] w fun e w' => e = .returned (.int .i64 (firstOf (fun y => decide (x = y)) l 0)) ∧ w = w' := by
  go_enter Tryd.func161, Tryd.ntmps161
  go_wp2
  go_loop [8] (fun i => ∃ k : Nat, k ≤ l.length ∧ i = .int .i64 k ∧ firstOf (fun y => decide (x = y)) l 0 = firstOf (fun y => decide (x = y)) (l.drop k) k) (fun i => l.length - (intOf i).toNat)
  case atStart => exact ⟨0, Nat.zero_le _, rfl, by simp⟩
  case round =>
    obtain ⟨k, hk, rfl, hf⟩ := hrel
    have Hf := Lib.hid hf
    clear hf
    by_cases hlt : k < l.length
    · obtain ⟨b, off, rfl, hb, hc⟩ := hat k hlt
      have hlt1 : (k : Int) < (l.length : Int) := by omega
      have hd : l.drop k = l[k] :: l.drop (k + 1) := List.drop_eq_getElem_cons hlt
      have Hd := Lib.hid hd
      clear hd hat
      generalize l[k] = y at *
      by_cases hxy : x = y
      · have h1 := str_eq hxy
        have Hx := Lib.hid hxy
        clear hxy
        go_wp2
        go_ret
        exact ⟨by rw [Hf.out, Hd.out]; simp [firstOf, Hx.out], rfl⟩
      · have h1 := str_ne hxy
        have Hx := Lib.hid hxy
        clear hxy
        go_wp2
        go_round
        case rel => exact ⟨k + 1, by omega, by go_num, by rw [Hf.out, Hd.out]; simp [firstOf, Hx.out]⟩
        case measure => simp [intOf]; omega
    · have hke : k = l.length := by omega
      subst hke
      go_wp2
      go_ret
      exact ⟨by rw [Hf.out]; simp [firstOf], rfl⟩

theorem containsStr_any (x : ByteArray) (a : Option Addr) (l : List ByteArray) (cap : Nat) (w : World) (hl : l.length ≤ 9223372036854775807) (hat : StrsAt w a l) :
    Calls Tryd.prog 133 #[.slice a l.length cap, .string x] w fun e w' => e = .returned (.bool (decide (x ∈ l))) ∧ w = w' := by
  have hge : decide (0 ≤ firstOf (fun y => decide (x = y)) l 0) = decide (x ∈ l) := by
    rw [firstOf_ge, Bool.eq_iff_iff]
    simp
  have Hg := Lib.hid hge
  clear hge
  go_enter Tryd.func133, Tryd.ntmps133
  go_wp2_with fail
  refine (indexStr_any _ _ _ _ _ hl hat).mono ?_
  rintro e w' ⟨rfl, rfl⟩
  go_wp2_with fail
  go_ret
  exact ⟨by rw [← Hg.out]; rfl, rfl⟩

/-- A closure that answers p at each code of l, in whatever later world. -/
def AnswersC (P : Program) (g : Nat) (lb : Array Value) (p : PCode → Bool) (l : List PCode) (w : World) : Prop :=
  ∀ x ∈ l, ∀ cs w', rCode (fun _ => True) w' cs x → Below w.heap.size w w' → Calls P g (#[.agg cs.toArray] ++ lb) w' fun e w'' => e = .returned (.bool (p x)) ∧ Below w'.heap.size w' w''

theorem rSlice_take {α : Type} {sz : Nat} {R : Rep α} {S : Nat → Prop} {w : World} {a : Option Addr} {n cap : Nat} {l : List α} (h : rSlice sz R S w [.slice a n cap] l) {k : Nat} (hk : k ≤ l.length) : rSlice sz R S w [.slice a k cap] (l.take k) := by
  obtain ⟨a', cap', hv, h2, h3, h4⟩ := rSlice_val h
  obtain ⟨rfl, -, rfl⟩ : a = a' ∧ n = l.length ∧ cap = cap' := by simpa using hv
  refine ⟨a, cap, by rw [List.length_take, Nat.min_eq_left hk], by rw [List.length_take]; omega, h3, fun i hi => ?_⟩
  rw [List.length_take] at hi
  obtain ⟨b, off, es, e1, e2, e3, e4, e5, e6⟩ := h4 i (by omega)
  exact ⟨b, off, es, e1, e2, e3, e4, e5, by rw [List.getElem_take]; exact e6⟩

set_option maxHeartbeats 400000 in
theorem indexFuncC_any (g : Nat) (lb : Array Value) (p : PCode → Bool) (a : Option Addr) (fs : List PCode) (cap : Nat) (w : World) (hfs : rCodes (fun _ => True) w [.slice a fs.length cap] fs)
    (hg : Enters Tryd.prog g) (hp : AnswersC Tryd.prog g lb p fs w) :
    Calls Tryd.prog 102 #[.slice a fs.length cap, .func (.func g) #[] lb] w fun e w' => e = .returned (.int .i64 (firstOf p fs 0)) ∧ Below w.heap.size w w' := by
  obtain ⟨a', cap', hv, hcap, hmax, hat⟩ := rCodes_val hfs
  obtain ⟨rfl, rfl⟩ : a = a' ∧ cap = cap' := by simpa using hv
  unfold maxLen at hmax
  clear hv
  have Hat := Lib.hid hat
  have Hfs := Lib.hid hfs
  have Hp := Lib.hid hp
  clear hat hfs hp
  go_enter Tryd.func102, Tryd.ntmps102
  go_wp2_with fail
  go_loopw [8] (fun i wr => ∃ k : Nat, k ≤ fs.length ∧ i = .int .i64 k ∧ firstOf p fs 0 = firstOf p (fs.drop k) k ∧ Below w.heap.size w wr) (fun i _ => fs.length - (intOf i).toNat)
  case atStart => exact ⟨0, Nat.zero_le _, rfl, by simp, Below.refl _ _⟩
  case round =>
    obtain ⟨k, hk, rfl, hf, hbel⟩ := hrel
    have Hf := Lib.hid hf
    clear hf
    by_cases hlt : k < fs.length
    · obtain ⟨b, off, v5, rfl, -, hb, h0, h1, h2, h3, h4, h5, hI, hbs⟩ := Hat.out k hlt
      have hlt1 : (k : Int) < (fs.length : Int) := by omega
      have hd : fs.drop k = fs[k] :: fs.drop (k + 1) := List.drop_eq_getElem_cons hlt
      have Hd := Lib.hid hd
      have hkeep := Keep.of_below' (S := fun _ => True) hbel (fun k hk _ => hk)
      have hy0 : wr.cell? ⟨b, off + k * 6, none⟩ = _ := (hbel.cell (p := ⟨b, off + k * 6, none⟩) hb).trans h0
      have hy1 : wr.cell? ⟨b, off + k * 6 + 1, none⟩ = _ := (hbel.cell (p := ⟨b, off + k * 6 + 1, none⟩) hb).trans h1
      have hy2 : wr.cell? ⟨b, off + k * 6 + 2, none⟩ = _ := (hbel.cell (p := ⟨b, off + k * 6 + 2, none⟩) hb).trans h2
      have hy3 : wr.cell? ⟨b, off + k * 6 + 3, none⟩ = _ := (hbel.cell (p := ⟨b, off + k * 6 + 3, none⟩) hb).trans h3
      have hy4 : wr.cell? ⟨b, off + k * 6 + 4, none⟩ = _ := (hbel.cell (p := ⟨b, off + k * 6 + 4, none⟩) hb).trans h4
      have hy5 : wr.cell? ⟨b, off + k * 6 + 5, none⟩ = _ := (hbel.cell (p := ⟨b, off + k * 6 + 5, none⟩) hb).trans h5
      have hcall := Hp.out _ (List.getElem_mem hlt) _ wr (Good.kept hkeep ⟨v5, rfl, hI, hbs⟩) hbel
      have hent := fun args w => hg args w
      have Hc := Lib.hid hcall
      clear hd hcall h0 h1 h2 h3 h4 h5 hI hbs hkeep
      generalize fs[k] = y at *
      go_wp2_with fail
      refine (Hc.out).mono ?_
      rintro e w1 ⟨rfl, hb1⟩
      have hbel1 := hbel.trans (hb1.mono hbel.size)
      cases he : p y with
      | true =>
        have He := Lib.hid he
        clear he
        go_wp2_with fail
        go_ret
        exact ⟨by rw [Hf.out, Hd.out]; simp [firstOf, He.out], hbel1⟩
      | false =>
        have He := Lib.hid he
        clear he
        go_wp2_with fail
        go_roundw
        case rel => exact ⟨k + 1, by omega, by go_num, by rw [Hf.out, Hd.out]; simp [firstOf, He.out], hbel1⟩
        case measure => simp [intOf]; omega
    · have hke : k = fs.length := by omega
      subst hke
      go_wp2_with fail
      go_ret
      exact ⟨by rw [Hf.out]; simp [firstOf], hbel⟩

theorem containsFuncC_any (g : Nat) (lb : Array Value) (p : PCode → Bool) (a : Option Addr) (fs : List PCode) (cap : Nat) (w : World) (hfs : rCodes (fun _ => True) w [.slice a fs.length cap] fs)
    (hg : Enters Tryd.prog g) (hp : AnswersC Tryd.prog g lb p fs w) :
    Calls Tryd.prog 100 #[.slice a fs.length cap, .func (.func g) #[] lb] w fun e w' => e = .returned (.bool (fs.any p)) ∧ Below w.heap.size w w' := by
  have Hg := Lib.hid (firstOf_ge p fs 0)
  go_enter Tryd.func100, Tryd.ntmps100
  go_wp2_with fail
  refine (indexFuncC_any g lb p a fs cap w hfs hg hp).mono ?_
  rintro e w1 ⟨rfl, hd⟩
  go_wp2_with fail
  go_ret
  exact ⟨by rw [← Hg.out]; rfl, hd⟩

/-- The closure of checkInvoke: is it the function of this name? -/
theorem named1_answers (s : ByteArray) (fs : List PCode) (w : World) (blk : Nat) (hlt : blk < w.heap.size) (hc : w.cell? ⟨blk, 4, none⟩ = some (.string s)) :
    AnswersC Tryd.prog 162 #[.pointer (some ⟨blk, 0, none⟩)] (fun c => decide (c.name = s)) fs w := by
  intro x _ cs w' hx hb
  have hc' : w'.cell? ⟨blk, 4, none⟩ = some (.string s) := (hb.cell (p := ⟨blk, 4, none⟩) hlt).trans hc
  obtain ⟨v5, rfl, -, -⟩ := hx
  have hlt' : blk < w'.heap.size := Nat.lt_of_lt_of_le hlt hb.size
  by_cases h : x.name = s
  · have h1 := str_eq h
    have Hh := Lib.hid h
    clear h
    go_enter Tryd.func162, Tryd.ntmps162
    go_wp2_with fail
    go_ret
    exact ⟨by simp [Hh.out], (Below.refl _ _).alloc (Nat.le_refl _) _⟩
  · have h1 := str_ne h
    have Hh := Lib.hid h
    clear h
    go_enter Tryd.func162, Tryd.ntmps162
    go_wp2_with fail
    go_ret
    exact ⟨by simp [Hh.out], (Below.refl _ _).alloc (Nat.le_refl _) _⟩
end Go.Proofs.YtaomlfbcfmmhlaaDoor

/-
  ir.checkInvoke: the contract.
-/
namespace Go.Proofs.YtaomlfbcfmmhlaaDoor
open Go.RowKit Go.Pst
set_option linter.unusedVariables false

theorem invokeFaultF_none {fs : List PCode} {i : PInstr} (h : nameAt i.s fs = -1) : invokeFaultF fs i = 6 := by unfold invokeFaultF; rw [h]; rfl
theorem invokeFaultF_some {fs : List PCode} {i : PInstr} {k : Nat} (h : nameAt i.s fs = (k : Int)) (hk : k < fs.length) :
    invokeFaultF fs i = if (i.ars.length : Int) ≠ fs[k].params ∨ (i.ds.length : Int) ≠ fs[k].results then 10 else if i.ds.Nodup then 0 else 7 := by
  unfold invokeFaultF
  rw [h, if_neg (by omega)]
  simp only [Int.toNat_natCast, List.getElem?_eq_getElem hk]
theorem IntsAt.take {w : World} {a : Option Addr} {l : List Int} (h : IntsAt w a l) (n : Nat) : IntsAt w a (l.take n) := by
  intro i hi
  rw [List.length_take] at hi
  obtain ⟨b, off, h1, h2, h3⟩ := h i (by omega)
  exact ⟨b, off, h1, h2, by rw [List.getElem_take]; exact h3⟩
theorem nodup_step {l : List Int} {n : Nat} (hn : n < l.length) (h : (l.take n).Nodup) (hne : ¬ l[n] ∈ l.take n) : (l.take (n + 1)).Nodup :=
  nodup_take_succ hn h (fun j hj e => hne (by
    rw [← e]
    exact List.mem_iff_getElem.2 ⟨j, by rw [List.length_take]; omega, by rw [List.getElem_take]⟩))
theorem not_nodup_mem {l : List Int} {n : Nat} (hn : n < l.length) (h : l[n] ∈ l.take n) : ¬ l.Nodup := by
  obtain ⟨j, hj, hje⟩ := List.mem_iff_getElem.1 h
  rw [List.length_take] at hj
  rw [List.getElem_take] at hje
  exact not_nodup_of hn (by omega) hje

set_option maxRecDepth 4000 in
set_option maxHeartbeats 1000000 in
theorem irInvoke_any (fs : List PCode) (p0 p1 : Value) (x : PInstr) (xcs : List Value) (w : World) (hp : rCodes (fun _ => True) w [p0] fs) (hx : rInstr (fun _ => True) w xcs x) :
    Calls Tryd.prog 134 #[.agg #[p0, p1], .agg xcs.toArray] w fun e w' => e = .returned (.int .i64 (invokeFaultF fs x)) ∧ Below w.heap.size w w' := by
  obtain ⟨v1, v2, v6, rfl, -, h1, h2, -⟩ := hx
  obtain ⟨a1, c1, rfl, hcap1, hmax1, -⟩ := rInts_val h1
  obtain ⟨a1', c1', he1, hl1, hat1, -⟩ := rInts_open h1
  obtain ⟨rfl, rfl⟩ : a1 = a1' ∧ c1 = c1' := by simpa using he1
  clear he1
  unfold maxLen at hmax1
  obtain ⟨a2, c2, rfl, hl2, -, -⟩ := rInts_open h2
  obtain ⟨ap, cp, rfl, hcapp, hmaxp, hatp⟩ := rCodes_val hp
  unfold maxLen at hmaxp
  have Hat1 := Lib.hid hat1
  have Hatp := Lib.hid hatp
  have Hp := Lib.hid hp
  have hent := enters_of (P := Tryd.prog) Tryd.func162 (by kernel_rfl) (by kernel_rfl)
  clear hat1 hatp h1 h2 hp
  go_enter Tryd.func134, Tryd.ntmps134
  go_wp2_with fail
  generalize hw0 : (w.alloc (.cells #[.slice ap fs.length cp, p1] 25)).alloc (.cells #[.int .i64 x.op, .slice a1 x.ds.length c1, .slice a2 x.ars.length c2, .int .i64 x.n, .string x.s, v6] 53) = w0
  have hbel : Below w.heap.size w w0 := by rw [← hw0]; exact below_box2 _ _ _
  have hsz : w0.heap.size = w.heap.size + 2 := by rw [← hw0]; simp
  have bp0 : w0.cell? ⟨w.heap.size, 0, none⟩ = some (.slice ap fs.length cp) := by rw [← hw0, box2_1]; rfl
  have bx1 : w0.cell? ⟨w.heap.size + 1, 1, none⟩ = some (.slice a1 x.ds.length c1) := by rw [← hw0, box2_2]; rfl
  have bx2 : w0.cell? ⟨w.heap.size + 1, 2, none⟩ = some (.slice a2 x.ars.length c2) := by rw [← hw0, box2_2]; rfl
  have bx4 : w0.cell? ⟨w.heap.size + 1, 4, none⟩ = some (.string x.s) := by rw [← hw0, box2_2]; rfl
  clear hw0
  have hans := named1_answers x.s fs w0 (w.heap.size + 1) (by omega) bx4
  have Hans := Lib.hid hans
  have Hent := Lib.hid hent
  have hcal := fun cc => indexFuncC_any 162 #[.pointer (some ⟨w.heap.size + 1, 0, none⟩)] (fun c => decide (c.name = x.s)) ap fs cc w0
  have Hcal := Lib.hid hcal
  clear hans hent hcal
  refine (Hcal.out _ (Good.kept (Keep.of_below' hbel (fun k hk _ => hk)) Hp.out) Hent.out Hans.out).mono ?_
  rintro e w1 ⟨rfl, hb1⟩
  have hl1' : Below w.heap.size w w1 := hbel.trans (hb1.mono (by omega))
  have bp0' := (hb1.cell (p := ⟨w.heap.size, 0, none⟩) (by show w.heap.size < w0.heap.size; omega)).trans bp0
  have bx1' := (hb1.cell (p := ⟨w.heap.size + 1, 1, none⟩) (by show w.heap.size + 1 < w0.heap.size; omega)).trans bx1
  have bx2' := (hb1.cell (p := ⟨w.heap.size + 1, 2, none⟩) (by show w.heap.size + 1 < w0.heap.size; omega)).trans bx2
  clear bp0 bx1 bx2 bx4 Hans Hent Hcal hb1 hbel
  have Hl1 := Lib.hid hl1'
  rcases firstOf_spec (fun c : PCode => decide (c.name = x.s)) fs 0 with ⟨hk, -⟩ | ⟨k, hkl, hk, -, -⟩
  · have Hk := Lib.hid (show nameAt x.s fs = -1 from hk)
    rw [hk]
    clear hk
    go_wp2_with fail
    go_ret
    exact ⟨by rw [invokeFaultF_none Hk.out]; rfl, Hl1.out⟩
  · have hk' : firstOf (fun c : PCode => decide (c.name = x.s)) fs 0 = (k : Int) := by simpa using hk
    have Hk := Lib.hid (show nameAt x.s fs = (k : Int) from hk')
    rw [hk']
    clear hk hk'
    obtain ⟨b, off, v5, rfl, -, hb, -, hcp, hcr, -⟩ := Hatp.out k hkl
    have hkl1 : (k : Int) < (fs.length : Int) := by omega
    have hcp' := (hl1'.cell (p := ⟨b, off + k * 6 + 1, none⟩) hb).trans hcp
    have hcr' := (hl1'.cell (p := ⟨b, off + k * 6 + 2, none⟩) hb).trans hcr
    have Hi := Lib.hid (invokeFaultF_some Hk.out hkl)
    have hat1 := Lib.hid (Hat1.out.below hl1')
    clear hcp hcr hb hl1'
    generalize fs[k] = y at *
    by_cases e1 : (x.ars.length : Int) = y.params
    case neg =>
      have b1 : ((x.ars.length : Int) != y.params) = true := by simpa using e1
      have E1 := Lib.hid e1
      clear e1
      go_wp2_with fail
      go_quiet (fail)
      go_wp2_with fail
      go_ret
      exact ⟨by rw [Hi.out, if_pos (Or.inl E1.out)]; rfl, Hl1.out.trans (Drawn.below (w := w1) ⟨_, rfl⟩ _)⟩
    have b1 : ((x.ars.length : Int) != y.params) = false := by simpa using e1
    have E1 := Lib.hid e1
    clear e1
    by_cases e2 : (x.ds.length : Int) = y.results
    case neg =>
      have b2 : ((x.ds.length : Int) != y.results) = true := by simpa using e2
      have E2 := Lib.hid e2
      clear e2
      go_wp2_with fail
      go_quiet (fail)
      go_wp2_with fail
      go_ret
      exact ⟨by rw [Hi.out, if_pos (Or.inr E2.out)]; rfl, Hl1.out.trans (Drawn.below (w := w1) ⟨_, rfl⟩ _)⟩
    have b2 : ((x.ds.length : Int) != y.results) = false := by simpa using e2
    have E2 := Lib.hid e2
    clear e2
    have Hres := Lib.hid (show invokeFaultF fs x = if x.ds.Nodup then 0 else 7 by
      rw [Hi.out, if_neg (by intro h; exact h.elim (fun h => h E1.out) (fun h => h E2.out))])
    go_wp2_with fail
    go_quiet (fail)
    go_wp2_with fail
    go_loopw [39] (fun i wr => ∃ n : Nat, n ≤ x.ds.length ∧ i = .int .i64 n ∧ (x.ds.take n).Nodup ∧ Drawn w1 wr) (fun i _ => x.ds.length - (intOf i).toNat)
    case atStart => exact ⟨0, Nat.zero_le _, rfl, by simp, ⟨_, rfl⟩⟩
    case round =>
      obtain ⟨n, hn, rfl, hnd, hdr⟩ := hrel
      have Hnd := Lib.hid hnd
      clear hnd
      by_cases hnl : n < x.ds.length
      · have hnl1 : (n : Int) < (x.ds.length : Int) := by omega
        obtain ⟨b1, off1, rfl, hb1, hx1⟩ := hat1.out n hnl
        have hx1' : wr.cell? ⟨b1, off1 + n, none⟩ = some (.int .i64 x.ds[n]) := by rw [hdr.cell]; exact hx1
        have bx1r : wr.cell? ⟨w.heap.size + 1, 1, none⟩ = some (.slice (some ⟨b1, off1, none⟩) x.ds.length c1) := by rw [hdr.cell]; exact bx1'
        clear hx1
        have hcon := fun cc => contains_any x.ds[n] (some ⟨b1, off1, none⟩) (x.ds.take n) cc wr (by rw [List.length_take]; omega) (IntsAt.take (hat1.out.heap hdr.heap) n)
        rw [List.length_take, Nat.min_eq_left hn] at hcon
        have Hcon := Lib.hid hcon
        have Hstep := Lib.hid (nodup_step hnl Hnd.out)
        have Hno := Lib.hid (not_nodup_mem hnl)
        clear hcon
        have hnc : (n : Int) ≤ (c1 : Int) := by omega
        generalize x.ds[n] = q at *
        go_wp2_with fail
        refine (Hcon.out _).mono ?_
        rintro e w2 ⟨rfl, rfl⟩
        by_cases hm : q ∈ x.ds.take n
        · have hmb : decide (q ∈ x.ds.take n) = true := decide_eq_true hm
          have Hnn := Lib.hid (Hno.out hm)
          rw [hmb]
          clear hm hmb
          go_wp2_with fail
          go_ret
          exact ⟨by rw [Hres.out, if_neg Hnn.out]; rfl, Hl1.out.trans (hdr.below _)⟩
        · have hmb : decide (q ∈ x.ds.take n) = false := decide_eq_false hm
          have Hnn := Lib.hid (Hstep.out hm)
          rw [hmb]
          clear hm hmb
          go_wp2_with fail
          go_roundw
          case rel => exact ⟨n + 1, by omega, by go_num, Hnn.out, hdr⟩
          case measure => simp [intOf]; omega
      · have hne : n = x.ds.length := by omega
        have Hnn := Lib.hid (show x.ds.Nodup by have := Hnd.out; rw [hne, List.take_length] at this; exact this)
        subst hne
        clear Hnd
        go_wp2_with fail
        go_ret
        exact ⟨by rw [Hres.out, if_pos Hnn.out]; rfl, Hl1.out.trans (hdr.below _)⟩
end Go.Proofs.YtaomlfbcfmmhlaaDoor

/-
  ir's machine, a step: its arguments; frames of 262 slots (printed by wip/gen_irpre.py).
-/
namespace Go.Proofs.YtaomlfbcfmmhlaaDoor
open Go.RowKit Go.Pst
set_option linter.unusedVariables false
set_option linter.unusedSimpArgs false

set_option maxRecDepth 100000 in
theorem frame262 (t : Array Value) (h : t.size = 262) : t = #[slotOf t 0, slotOf t 1, slotOf t 2, slotOf t 3, slotOf t 4, slotOf t 5, slotOf t 6, slotOf t 7, slotOf t 8, slotOf t 9, slotOf t 10, slotOf t 11, slotOf t 12, slotOf t 13, slotOf t 14, slotOf t 15, slotOf t 16, slotOf t 17, slotOf t 18, slotOf t 19, slotOf t 20, slotOf t 21, slotOf t 22, slotOf t 23, slotOf t 24, slotOf t 25, slotOf t 26, slotOf t 27, slotOf t 28, slotOf t 29, slotOf t 30, slotOf t 31, slotOf t 32, slotOf t 33, slotOf t 34, slotOf t 35, slotOf t 36, slotOf t 37, slotOf t 38, slotOf t 39, slotOf t 40, slotOf t 41, slotOf t 42, slotOf t 43, slotOf t 44, slotOf t 45, slotOf t 46, slotOf t 47, slotOf t 48, slotOf t 49, slotOf t 50, slotOf t 51, slotOf t 52, slotOf t 53, slotOf t 54, slotOf t 55, slotOf t 56, slotOf t 57, slotOf t 58, slotOf t 59, slotOf t 60, slotOf t 61, slotOf t 62, slotOf t 63, slotOf t 64, slotOf t 65, slotOf t 66, slotOf t 67, slotOf t 68, slotOf t 69, slotOf t 70, slotOf t 71, slotOf t 72, slotOf t 73, slotOf t 74, slotOf t 75, slotOf t 76, slotOf t 77, slotOf t 78, slotOf t 79, slotOf t 80, slotOf t 81, slotOf t 82, slotOf t 83, slotOf t 84, slotOf t 85, slotOf t 86, slotOf t 87, slotOf t 88, slotOf t 89, slotOf t 90, slotOf t 91, slotOf t 92, slotOf t 93, slotOf t 94, slotOf t 95, slotOf t 96, slotOf t 97, slotOf t 98, slotOf t 99, slotOf t 100, slotOf t 101, slotOf t 102, slotOf t 103, slotOf t 104, slotOf t 105, slotOf t 106, slotOf t 107, slotOf t 108, slotOf t 109, slotOf t 110, slotOf t 111, slotOf t 112, slotOf t 113, slotOf t 114, slotOf t 115, slotOf t 116, slotOf t 117, slotOf t 118, slotOf t 119, slotOf t 120, slotOf t 121, slotOf t 122, slotOf t 123, slotOf t 124, slotOf t 125, slotOf t 126, slotOf t 127, slotOf t 128, slotOf t 129, slotOf t 130, slotOf t 131, slotOf t 132, slotOf t 133, slotOf t 134, slotOf t 135, slotOf t 136, slotOf t 137, slotOf t 138, slotOf t 139, slotOf t 140, slotOf t 141, slotOf t 142, slotOf t 143, slotOf t 144, slotOf t 145, slotOf t 146, slotOf t 147, slotOf t 148, slotOf t 149, slotOf t 150, slotOf t 151, slotOf t 152, slotOf t 153, slotOf t 154, slotOf t 155, slotOf t 156, slotOf t 157, slotOf t 158, slotOf t 159, slotOf t 160, slotOf t 161, slotOf t 162, slotOf t 163, slotOf t 164, slotOf t 165, slotOf t 166, slotOf t 167, slotOf t 168, slotOf t 169, slotOf t 170, slotOf t 171, slotOf t 172, slotOf t 173, slotOf t 174, slotOf t 175, slotOf t 176, slotOf t 177, slotOf t 178, slotOf t 179, slotOf t 180, slotOf t 181, slotOf t 182, slotOf t 183, slotOf t 184, slotOf t 185, slotOf t 186, slotOf t 187, slotOf t 188, slotOf t 189, slotOf t 190, slotOf t 191, slotOf t 192, slotOf t 193, slotOf t 194, slotOf t 195, slotOf t 196, slotOf t 197, slotOf t 198, slotOf t 199, slotOf t 200, slotOf t 201, slotOf t 202, slotOf t 203, slotOf t 204, slotOf t 205, slotOf t 206, slotOf t 207, slotOf t 208, slotOf t 209, slotOf t 210, slotOf t 211, slotOf t 212, slotOf t 213, slotOf t 214, slotOf t 215, slotOf t 216, slotOf t 217, slotOf t 218, slotOf t 219, slotOf t 220, slotOf t 221, slotOf t 222, slotOf t 223, slotOf t 224, slotOf t 225, slotOf t 226, slotOf t 227, slotOf t 228, slotOf t 229, slotOf t 230, slotOf t 231, slotOf t 232, slotOf t 233, slotOf t 234, slotOf t 235, slotOf t 236, slotOf t 237, slotOf t 238, slotOf t 239, slotOf t 240, slotOf t 241, slotOf t 242, slotOf t 243, slotOf t 244, slotOf t 245, slotOf t 246, slotOf t 247, slotOf t 248, slotOf t 249, slotOf t 250, slotOf t 251, slotOf t 252, slotOf t 253, slotOf t 254, slotOf t 255, slotOf t 256, slotOf t 257, slotOf t 258, slotOf t 259, slotOf t 260, slotOf t 261] := slots_eq t h
noncomputable def irS7 : Code := Code.sub [1, 1, 1] ((Tryd.f62).body.getD .skip)

structure IrPre [Old] (ρ : Nat → Option Lab) (t : Array Value) (w : World) (base bm bi : Nat) (v1 vW vL vF vX u1 u2 u5 : Value) (bF oF cF : Nat) (p : PProg) (limit end_ : Int) (words : List Int) (lines : List ByteArray) (f : Lev) (a : LA) (r : List (Lev × LA)) (i : PInstr) (xs : List Int) : Prop where
  size : t.size = 262
  s0 : slotOf t 0 = .pointer (some ⟨bm, 0, none⟩)
  s1 : slotOf t 1 = .pointer (some ⟨a.gs, 0, none⟩)
  s5 : slotOf t 5 = .pointer (some ⟨bi, 0, none⟩)
  s6 : slotOf t 6 = .int .i64 0
  s7 : slotOf t 7 = vX
  box : w.heap[bi]? = some (.cells #[.int .i64 i.op, u1, u2, .int .i64 i.n, .string i.s, u5] 53)
  i1 : rInts (· < base) w [u1] i.ds
  i2 : rInts (· < base) w [u2] i.ars
  i5 : rInts (· < base) w [u5] i.to
  run : IrAt ρ w base bm v1 vW vL vF bF oF cF p limit end_ words lines (({ f with at_ := f.at_ + 1 }, a) :: r)
  nb : ρ bi = none
  ini : InI i.op ∧ InI i.n ∧ i.s.size ≤ maxLen
  row : w.ownsRow base 3 1 vX xs.length (xs.map (Value.int .i64))
  nx : ∀ k, vX.ownBlock = some k → ρ k = none ∧ k ≠ bi
  tab : TabOK w
  tb : 5 < base

def IrStepPost [Old] (base bm : Nat) (v1 : Value) (bF oF cF : Nat) (p : PProg) (limit end_ : Int) (o : Int × Mach) (e : Ending) (w' : World) : Prop :=
  e = .returned (.int .i64 o.1) ∧ ∃ ρ vW vL vF fr, IrAt ρ w' base bm v1 vW vL vF bF oF cF p limit end_ o.2.words o.2.lines fr ∧ fr.map (·.1) = o.2.frames

set_option maxRecDepth 100000 in
set_option maxHeartbeats 4000000 in
theorem irArgs_any [Old] (R : Ending → World → Prop) (ρ : Nat → Option Lab) (w : World) (base bm : Nat) (v1 vW vL vF u1 u2 u5 : Value) (bF oF cF : Nat) (p : PProg) (limit end_ : Int) (words : List Int) (lines : List ByteArray) (f : Lev) (a : LA) (r : List (Lev × LA)) (i : PInstr)
    (h : IrAt ρ w base bm v1 vW vL vF bF oF cF p limit end_ words lines (({ f with at_ := f.at_ + 1 }, a) :: r)) (hT : TabOK w) (hTb : 5 < base)
    (i1 : rInts (· < base) w [u1] i.ds) (i2 : rInts (· < base) w [u2] i.ars) (i5 : rInts (· < base) w [u5] i.to) (ini : InI i.op ∧ InI i.n ∧ i.s.size ≤ maxLen) (h21 : i.op ≠ 21) (hA : Ins i.ars f.vars.length) (hAl : i.ars.length ≤ 40000) (hVl : f.vars.length ≤ 40000)
    (HQ : Hid (∀ ρ' t w' bi vX, IrPre ρ' t w' base bm bi v1 vW vL vF vX u1 u2 u5 bF oF cF p limit end_ words lines f a r i (argsF false f i) → irS7.wp Tryd.prog (bodyPost Tryd.prog Tryd.f62 R) ⟨t, []⟩ w')) :
    Calls Tryd.prog 62 #[.pointer (some ⟨bm, 0, none⟩), .pointer (some ⟨a.gs, 0, none⟩), .agg #[.int .i64 i.op, u1, u2, .int .i64 i.n, .string i.s, u5]] w R := by
  obtain ⟨a1, c1, rfl⟩ := rSlice_shape i1
  obtain ⟨a5, c5, rfl⟩ := rSlice_shape i5
  obtain ⟨a2, c2, rfl, hc2, hm2, hI2⟩ := rInts_val i2
  obtain ⟨i0, hi, hz0, hz1, hz2⟩ := info_parts info_int
  have e : argsF false f i = i.ars.map (getI f.vars) := by simp [argsF, h21, Lev.src]
  rw [e] at HQ
  have H := Lib.hid h
  have HT := Lib.hid hT
  have H1 := Lib.hid i1
  have H2 := Lib.hid i2
  have H5 := Lib.hid i5
  have HI2 := Lib.hid hI2
  have HA := Lib.hid hA
  have hbase := h.big
  clear h hT i1 i2 i5 hI2 hA e
  go_enter Tryd.func62, Tryd.ntmps62
  refine wp_seq_k fun K1 hK1 => ?_
  have HK1 := Lib.hid hK1
  clear hK1
  go_wp2_with fail
  refine HK1.out _ _ ?_
  refine wp_seq_k fun K2 hK2 => ?_
  have HK2 := Lib.hid hK2
  clear hK2
  go_wp2_with fail
  refine HK2.out _ _ ?_
  refine wp_seq_k fun K3 hK3 => ?_
  have HK3 := Lib.hid hK3
  clear hK3
  generalize hw0 : w.alloc (.cells #[.int .i64 i.op, .slice a1 i.ds.length c1, .slice a2 i.ars.length c2, .int .i64 i.n, .string i.s, .slice a5 i.to.length c5] 53) = w0
  have hb0 : w0.heap[w.heap.size]? = some (.cells #[.int .i64 i.op, .slice a1 i.ds.length c1, .slice a2 i.ars.length c2, .int .i64 i.n, .string i.s, .slice a5 i.to.length c5] 53) := by rw [← hw0]; exact heap_alloc_new w _
  have hbel : Below base w w0 := by rw [← hw0]; exact (Below.refl _ _).alloc hbase _
  have hsin : Since (fun _ => False) w w0 := by rw [← hw0]; exact Since.alloc _ _ _
  clear hw0
  have cb2 : w0.cell? ⟨w.heap.size, 2, none⟩ = some (.slice a2 i.ars.length c2) := by simp [World.cell?, hb0]
  have hrun0 := (H.out.label (ρ' := fun k => if k < w.heap.size then ρ k else none) (fun k hk => by simp [hk])).since hsin
  have HR0 := Lib.hid hrun0
  have HB0 := Lib.hid hb0
  have HBE := Lib.hid hbel
  clear hrun0 hb0 hbel hsin
  generalize hbi : w.heap.size = bi at *
  have Hbi := Lib.hid hbi
  clear hbi
  go_wp2_with fail
  go_loopw [7, 21] (fun vX s wr => ∃ k : Nat, k ≤ i.ars.length ∧ s = .int .i64 k ∧ ∃ ρ', IrAt ρ' wr base bm v1 vW vL vF bF oF cF p limit end_ words lines (({ f with at_ := f.at_ + 1 }, a) :: r) ∧ ρ' bi = none ∧ wr.heap[bi]? = some (.cells #[.int .i64 i.op, .slice a1 i.ds.length c1, .slice a2 i.ars.length c2, .int .i64 i.n, .string i.s, .slice a5 i.to.length c5] 53) ∧ Below base w wr ∧
      wr.ownsRow base 3 1 vX k (((i.ars.take k).map (getI f.vars)).map (Value.int .i64)) ∧ (∀ k, vX.ownBlock = some k → ρ' k = none ∧ k ≠ bi)) (fun _ s _ => i.ars.length - (intOf s).toNat)
  case atStart => exact ⟨0, Nat.zero_le _, rfl, _, HR0.out, by simp, HB0.out, HBE.out, ⟨by simp, Or.inl ⟨rfl, rfl⟩⟩, fun k hk => nomatch (show (none : Option Nat) = some k from hk)⟩
  case round =>
    obtain ⟨k, hk, rfl, ρ', hAt, hnb, hbx, hbw, hrow, hnx⟩ := hrel
    have hbil : bi < wr.heap.size := (Array.getElem?_eq_some_iff.1 hbx).1
    by_cases hlt : k < i.ars.length
    · have hlt1 : (k : Int) < i.ars.length := by omega
      have hk0 : (0 : Int) ≤ k := by omega
      obtain ⟨b2, o2, rfl, hb2, hb2', hcx0, -⟩ := HI2.out k hlt
      have hcx := (hbw.cell (p := ⟨b2, o2 + k, none⟩) hb2).trans hcx0
      have hin := HA.out _ (List.getElem_mem hlt)
      obtain ⟨j, hj⟩ := Int.eq_ofNat_of_zero_le hin.1
      have hjl : j < f.vars.length := by omega
      have hjl1 : (j : Int) < f.vars.length := by omega
      have hj0 : (0 : Int) ≤ j := by omega
      have e1 : wr.cell? ⟨a.gs, 1, none⟩ = some (.slice (some ⟨a.gv, 0, none⟩) f.vars.length f.vars.length) := (hAt.get (j := 1) rfl).1
      obtain ⟨gS, cS, hvS, -, -, -, hcS, -⟩ := row_get hAt.levs.1.vars (i := j) (u := .int .i64 f.vars[j]) (by simp [hjl])
      obtain ⟨rfl, -⟩ : a.gv = gS ∧ _ := by simpa using hvS
      rw [hj] at hcx
      obtain ⟨aX, cX, rfl, hx1, hx2⟩ := row_slice hrow
      have hbigr := hAt.big
      have hX := Lib.hid hAt
      have HX := Lib.hid hnx
      have HBW := Lib.hid hbw
      have HBX := Lib.hid hbx
      have Hnb := Lib.hid hnb
      have Hta := Lib.hid (show ((i.ars.take k).map (getI f.vars)).map (Value.int .i64) ++ [.int .i64 f.vars[j]] = ((i.ars.take (k + 1)).map (getI f.vars)).map (Value.int .i64) by
        rw [List.take_succ_eq_append_getElem hlt]
        simp only [List.map_append, List.map_cons, List.map_nil, hj]
        have : getI f.vars (j : Int) = f.vars[j] := by
          unfold getI
          rw [Int.toNat_natCast, List.getD_eq_getElem?_getD, List.getElem?_eq_getElem hjl]
          rfl
        rw [this])
      clear hAt hnx hvS hj hin hbw hbx hnb hcx0
      generalize f.vars[j] = x at *
      generalize ((i.ars.take k).map (getI f.vars)).map (Value.int .i64) = ys at *
      go_wp2_with (at_builtin; refine wpList_append_own_at _ rfl _ _ 23 rfl base 3 i0 (.int .i64 0) 1 8 Tryd.underlying23 hi hz0 hz1 hz2 rfl (by decide) _ _ _ rfl (hrow.alloc _) ⟨wr.heap.size, 0, none⟩ 1 1 [.int .i64 x] rfl rfl (cell_one_new _ _ _) (ints_oneCell .i64 [x]) (by unfold maxLen; omega) (by omega) (by simp; omega) ?_)
      intro v' w1 hown' hgrow _ hloc
      obtain ⟨gg, cg, rfl⟩ : ∃ gg cg, v' = .slice (some ⟨gg, 0, none⟩) (k + 1) cg := by
        rcases hown'.2 with ⟨_, h⟩ | ⟨gg, cap', _, h, _⟩
        · omega
        · exact ⟨gg, cap', h⟩
      have s1 : Since (fun k' => (Value.slice aX k cX).ownBlock = some k') wr w1 := (Since.alloc _ _ _).trans (Since.grown hgrow)
      have hlt2 : ∀ k', (Value.slice aX k cX).ownBlock = some k' → base ≤ k' ∧ k' < wr.heap.size := hrow.lt
      have hq := (hX.out.label (ρ' := fun k => if k < wr.heap.size then ρ' k else none) (fun k hk => by simp [hk])).sinceN s1 (fun k' e => by simp [(HX.out k' e).1]) (fun k' e => (hlt2 k' e).1)
      have hbx1 := (s1.block bi hbil (fun e => (HX.out bi e).2 rfl)).trans HBX.out
      have hbw1 := HBW.out.trans (s1.below hbigr (fun k' e => (hlt2 k' e).1))
      have hn : ∀ k', (Value.slice (some ⟨gg, 0, none⟩) (k + 1) cg).ownBlock = some k' → (fun k' => if k' < wr.heap.size then ρ' k' else none) k' = none ∧ k' ≠ bi := by
        intro k' e
        rcases hloc with e2 | e2
        · rw [e2] at e
          have := HX.out k' e
          exact ⟨by simp [this.1], this.2⟩
        · rw [e2] at e
          have e' : wr.heap.size + 1 = k' := by simpa using e
          have n1 : ¬ k' < wr.heap.size := by omega
          exact ⟨by simp [n1], by omega⟩
      have Hq := Lib.hid hq
      have Hn := Lib.hid hn
      have Hbx1 := Lib.hid hbx1
      have Hbw1 := Lib.hid hbw1
      clear hq hn hlt2 s1 hloc hgrow hbx1 hbw1 e1 hcS hcx
      go_wp2_with fail
      have Hnn := Hnb.out
      refine ⟨⟨k + 1, by omega, by simp, _, Hq.out, by simp [Hnn], Hbx1.out, Hbw1.out, ?_, Hn.out⟩, by simp only [intOf]; omega⟩
      rw [← Hta.out]
      exact hown'
    · have hke : k = i.ars.length := by omega
      subst hke
      have hlt1 : ¬ ((i.ars.length : Int) < i.ars.length) := by omega
      have hX := Lib.hid hAt
      have HX := Lib.hid hnx
      have HR := Lib.hid hrow
      have HBW := Lib.hid hbw
      have HBX := Lib.hid hbx
      have Hnb := Lib.hid hnb
      clear hAt hnx hrow hbw hbx hnb
      go_wp2_with fail
      refine HK3.out _ _ ?_
      show irS7.wp _ _ _ _
      have hkp : Keep (· < base) w wr := ⟨HBW.out.size, fun k _ hk => HBW.out.block k hk⟩
      exact HQ.out ρ' _ wr bi _ { size := rfl, s0 := rfl, s1 := rfl, s5 := rfl, s6 := rfl, s7 := rfl, box := HBX.out, i1 := Good.kept hkp H1.out, i2 := Good.kept hkp H2.out, i5 := Good.kept hkp H5.out, run := hX.out, nb := Hnb.out, ini := ini, row := (by have := HR.out; rw [List.take_length] at this; rw [List.length_map]; exact this), nx := HX.out, tab := HT.out.since (F := fun k => ¬ k < base) ⟨HBW.out.os, HBW.out.tape, HBW.out.output, HBW.out.size, fun k _ hk => HBW.out.block k (by omega)⟩ (by omega), tb := hTb }
end Go.Proofs.YtaomlfbcfmmhlaaDoor

/-
  ir.math, ir.truth: contracts (printed by wip/gen_irmath.py).
-/
namespace Go.Proofs.YtaomlfbcfmmhlaaDoor
open Go.RowKit Go.Pst
set_option linter.unusedVariables false
set_option linter.unusedSimpArgs false

theorem irTruth_any (b : Bool) (w : World) : Calls Tryd.prog 107 #[.bool b] w fun e w' => e = .returned (.int .i64 (yesF b)) ∧ w = w' := by
  cases b
  all_goals
    go_enter Tryd.func107, Tryd.ntmps107
    go_wp2_with fail
    go_ret
    exact ⟨rfl, rfl⟩

set_option maxHeartbeats 4000000 in
theorem irMath_any (s : ByteArray) (a b : Int) (w : World) (hs : s ∈ mathsF) (ha : InI a) (hb : InI b) :
    Calls Tryd.prog 104 #[.string s, .int .i64 a, .int .i64 b] w fun e w' => e = .returned (.tuple #[.int .i64 (sumF s a b).1, .int .i64 (sumF s a b).2]) ∧ w = w' := by
  obtain ⟨ha1, ha2⟩ := ha
  have Hb := Lib.hid hb
  obtain ⟨hb1, hb2⟩ := hb
  simp only [mathsF, List.mem_cons, List.not_mem_nil, or_false] at hs
  rcases hs with rfl | rfl | rfl | rfl | rfl | rfl | rfl | rfl | rfl | rfl | rfl
  · have Hr := Lib.hid (show sumF { data := #[43] } a b = (wrap64 (a + b), 0) by unfold sumF; simp)
    go_enter Tryd.func104, Tryd.ntmps104
    go_wp2_with fail
    go_ret2
    exact ⟨by rw [Hr.out]; rfl, rfl⟩
  · have Hr := Lib.hid (show sumF { data := #[45] } a b = (wrap64 (a - b), 0) by unfold sumF; simp)
    go_enter Tryd.func104, Tryd.ntmps104
    go_wp2_with fail
    go_ret2
    exact ⟨by rw [Hr.out]; rfl, rfl⟩
  · have Hr := Lib.hid (show sumF { data := #[42] } a b = (wrap64 (a * b), 0) by unfold sumF; simp)
    go_enter Tryd.func104, Tryd.ntmps104
    go_wp2_with fail
    go_ret2
    exact ⟨by rw [Hr.out]; rfl, rfl⟩
  · by_cases hz : b = 0
    · subst hz
      have Hr := Lib.hid (show sumF { data := #[47] } a 0 = (0, 3) by unfold sumF; simp)
      go_enter Tryd.func104, Tryd.ntmps104
      go_wp2_with fail
      go_ret2
      exact ⟨by rw [Hr.out]; rfl, rfl⟩
    by_cases hm : b = -1
    · subst hm
      clear hz
      have Hr := Lib.hid (show sumF { data := #[47] } a (-1) = (wrap64 (-a), 0) by unfold sumF; simp)
      go_enter Tryd.func104, Tryd.ntmps104
      go_wp2_with fail
      go_ret2
      exact ⟨by rw [Hr.out]; rfl, rfl⟩
    · have b0 : (b == 0) = false := by simpa using hz
      have b1 : (b == -1) = false := by simpa using hm
      have Hr := Lib.hid (show sumF { data := #[47] } a b = (wrap64 (a.tdiv b), 0) by unfold sumF; simp [hz, hm])
      clear hm
      go_enter Tryd.func104, Tryd.ntmps104
      go_wp2_with fail
      go_ret2
      exact ⟨by rw [Hr.out]; rfl, rfl⟩
  · by_cases hz : b = 0
    · subst hz
      have Hr := Lib.hid (show sumF { data := #[37] } a 0 = (0, 3) by unfold sumF; simp)
      go_enter Tryd.func104, Tryd.ntmps104
      go_wp2_with fail
      go_ret2
      exact ⟨by rw [Hr.out]; rfl, rfl⟩
    by_cases hm : b = -1
    · subst hm
      clear hz
      have Hr := Lib.hid (show sumF { data := #[37] } a (-1) = (0, 0) by unfold sumF; simp)
      go_enter Tryd.func104, Tryd.ntmps104
      go_wp2_with fail
      go_ret2
      exact ⟨by rw [Hr.out]; rfl, rfl⟩
    · have b0 : (b == 0) = false := by simpa using hz
      have b1 : (b == -1) = false := by simpa using hm
      have Ht := tmod_in (a := a) Hb.out hz
      have Hw := Lib.hid (show wrap64 (a.tmod b) = a.tmod b from wrap64_in Ht.1 Ht.2)
      have Hr := Lib.hid (show sumF { data := #[37] } a b = (a.tmod b, 0) by unfold sumF; simp [hz, hm])
      clear hm Ht
      go_enter Tryd.func104, Tryd.ntmps104
      go_wp2_with fail
      go_ret2
      exact ⟨by rw [Hr.out]; first | rfl | (rw [← Hw.out]; rfl), rfl⟩
  · have Hr := Lib.hid (show sumF { data := #[61, 61] } a b = (yesF (a == b), 0) by unfold sumF; simp)
    go_enter Tryd.func104, Tryd.ntmps104
    go_wp2_with (first | (go_at_call 107; refine (irTruth_any _ _).mono ?_; rintro e w' ⟨rfl, rfl⟩))
    go_ret2
    exact ⟨by rw [Hr.out]; rfl, rfl⟩
  · have Hr := Lib.hid (show sumF { data := #[33, 61] } a b = (yesF (a != b), 0) by unfold sumF; simp)
    go_enter Tryd.func104, Tryd.ntmps104
    go_wp2_with (first | (go_at_call 107; refine (irTruth_any _ _).mono ?_; rintro e w' ⟨rfl, rfl⟩))
    go_ret2
    exact ⟨by rw [Hr.out]; rfl, rfl⟩
  · have Hr := Lib.hid (show sumF { data := #[60] } a b = (yesF (decide (a < b)), 0) by unfold sumF; simp)
    go_enter Tryd.func104, Tryd.ntmps104
    go_wp2_with (first | (go_at_call 107; refine (irTruth_any _ _).mono ?_; rintro e w' ⟨rfl, rfl⟩))
    go_ret2
    exact ⟨by rw [Hr.out]; rfl, rfl⟩
  · have Hr := Lib.hid (show sumF { data := #[60, 61] } a b = (yesF (decide (a ≤ b)), 0) by unfold sumF; simp)
    go_enter Tryd.func104, Tryd.ntmps104
    go_wp2_with (first | (go_at_call 107; refine (irTruth_any _ _).mono ?_; rintro e w' ⟨rfl, rfl⟩))
    go_ret2
    exact ⟨by rw [Hr.out]; rfl, rfl⟩
  · have Hr := Lib.hid (show sumF { data := #[62] } a b = (yesF (decide (b < a)), 0) by unfold sumF; simp)
    go_enter Tryd.func104, Tryd.ntmps104
    go_wp2_with (first | (go_at_call 107; refine (irTruth_any _ _).mono ?_; rintro e w' ⟨rfl, rfl⟩))
    go_ret2
    exact ⟨by rw [Hr.out]; rfl, rfl⟩
  · have Hr := Lib.hid (show sumF { data := #[62, 61] } a b = (yesF (decide (b ≤ a)), 0) by unfold sumF; simp)
    go_enter Tryd.func104, Tryd.ntmps104
    go_wp2_with (first | (go_at_call 107; refine (irTruth_any _ _).mono ?_; rintro e w' ⟨rfl, rfl⟩))
    go_ret2
    exact ⟨by rw [Hr.out]; rfl, rfl⟩
end Go.Proofs.YtaomlfbcfmmhlaaDoor

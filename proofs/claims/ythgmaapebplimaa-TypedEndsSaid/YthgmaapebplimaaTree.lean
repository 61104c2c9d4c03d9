/-
  The plain data of package api (expressions, statements, functions) as trees, and how they read in memory.
-/
import Derived.Test.YthgmaapebplimaaData
namespace Go.Pst
open Go.RowKit
set_option linter.unusedVariables false

inductive PExpr where
  | mk (kind n : Int) (s : ByteArray) (args : List PExpr)
inductive PStmt where
  | mk (kind : Int) (s t : ByteArray) (exprs : List PExpr) (body els : List PStmt) (cases : List (List Int × List PStmt))
namespace PExpr
def kind : PExpr → Int | mk k _ _ _ => k
def n : PExpr → Int | mk _ n _ _ => n
def s : PExpr → ByteArray | mk _ _ s _ => s
def args : PExpr → List PExpr | mk _ _ _ a => a
end PExpr
namespace PStmt
def kind : PStmt → Int | mk k _ _ _ _ _ _ => k
def s : PStmt → ByteArray | mk _ s _ _ _ _ _ => s
def t : PStmt → ByteArray | mk _ _ t _ _ _ _ => t
def exprs : PStmt → List PExpr | mk _ _ _ x _ _ _ => x
def body : PStmt → List PStmt | mk _ _ _ _ b _ _ => b
def els : PStmt → List PStmt | mk _ _ _ _ _ e _ => e
def cases : PStmt → List (List Int × List PStmt) | mk _ _ _ _ _ _ c => c
end PStmt

def rExpr : Nat → Rep PExpr
  | 0 => fun _ _ _ _ => False
  | d + 1 => fun S w cs x => ∃ v3, cs = [.int .i64 x.kind, .int .i64 x.n, .string x.s, v3] ∧ (InI x.kind ∧ InI x.n ∧ x.s.size ≤ maxLen) ∧ rSlice 4 (rExpr d) S w [v3] x.args
def rCase (R : Rep PStmt) : Rep (List Int × List PStmt) := fun S w cs x => ∃ v0 v1, cs = [v0, v1] ∧ rInts S w [v0] x.1 ∧ rSlice 7 R S w [v1] x.2
def rStmt : Nat → Rep PStmt
  | 0 => fun _ _ _ _ => False
  | d + 1 => fun S w cs x => ∃ v3 v4 v5 v6, cs = [.int .i64 x.kind, .string x.s, .string x.t, v3, v4, v5, v6] ∧ (InI x.kind ∧ x.s.size ≤ maxLen ∧ x.t.size ≤ maxLen) ∧
      rSlice 4 (rExpr d) S w [v3] x.exprs ∧ rSlice 7 (rStmt d) S w [v4] x.body ∧ rSlice 7 (rStmt d) S w [v5] x.els ∧ rSlice 2 (rCase (rStmt d)) S w [v6] x.cases

instance good_expr (d : Nat) : Good (rExpr d) := by
  induction d with
  | zero => exact ⟨fun _ _ h => h⟩
  | succ d ih =>
    refine ⟨?_⟩
    rintro S S' w w' cs x hk hs ⟨v3, h1, h2, h3⟩
    exact ⟨v3, h1, h2, Good.keep hk hs h3⟩
instance good_case (R : Rep PStmt) [Good R] : Good (rCase R) := ⟨by
  rintro S S' w w' cs x hk hs ⟨v0, v1, h1, h2, h3⟩
  exact ⟨v0, v1, h1, Good.keep hk hs h2, Good.keep hk hs h3⟩⟩
instance good_stmt (d : Nat) : Good (rStmt d) := by
  induction d with
  | zero => exact ⟨fun _ _ h => h⟩
  | succ d ih =>
    refine ⟨?_⟩
    rintro S S' w w' cs x hk hs ⟨v3, v4, v5, v6, h1, h2, h3, h4, h5, h6⟩
    exact ⟨v3, v4, v5, v6, h1, h2, Good.keep hk hs h3, Good.keep hk hs h4, Good.keep hk hs h5, Good.keep hk hs h6⟩

theorem rSlice_imp {α : Type} {sz : Nat} {R R' : Rep α} {S : Nat → Prop} {w : World} (h : ∀ cs x, R S w cs x → R' S w cs x) {cs : List Value} {l : List α} (hl : rSlice sz R S w cs l) : rSlice sz R' S w cs l := by
  obtain ⟨a, cap, h1, h2, h3, h4⟩ := hl
  refine ⟨a, cap, h1, h2, h3, fun i hi => ?_⟩
  obtain ⟨b, off, es, e1, e2, e3, e4, e5, e6⟩ := h4 i hi
  exact ⟨b, off, es, e1, e2, e3, e4, e5, h _ _ e6⟩
theorem rExpr_succ (d : Nat) : ∀ {S : Nat → Prop} {w : World} (cs : List Value) (x : PExpr), rExpr d S w cs x → rExpr (d + 1) S w cs x := by
  induction d with
  | zero => intro S w cs x h; exact h.elim
  | succ d ih =>
    rintro S w cs x ⟨v3, h1, h2, h3⟩
    exact ⟨v3, h1, h2, rSlice_imp ih h3⟩
theorem rExpr_le {d d' : Nat} (h : d ≤ d') : ∀ {S : Nat → Prop} {w : World} (cs : List Value) (x : PExpr), rExpr d S w cs x → rExpr d' S w cs x := by
  induction h with
  | refl => intro S w cs x h; exact h
  | step _ ih => intro S w cs x h; exact rExpr_succ _ _ _ (ih _ _ h)
theorem rCase_imp {R R' : Rep PStmt} {S : Nat → Prop} {w : World} (h : ∀ cs x, R S w cs x → R' S w cs x) (cs : List Value) (x : List Int × List PStmt) (hc : rCase R S w cs x) : rCase R' S w cs x := by
  obtain ⟨v0, v1, h1, h2, h3⟩ := hc
  exact ⟨v0, v1, h1, h2, rSlice_imp h h3⟩
theorem rStmt_succ (d : Nat) : ∀ {S : Nat → Prop} {w : World} (cs : List Value) (x : PStmt), rStmt d S w cs x → rStmt (d + 1) S w cs x := by
  induction d with
  | zero => intro S w cs x h; exact h.elim
  | succ d ih =>
    rintro S w cs x ⟨v3, v4, v5, v6, h1, h2, h3, h4, h5, h6⟩
    exact ⟨v3, v4, v5, v6, h1, h2, rSlice_imp (rExpr_succ d) h3, rSlice_imp ih h4, rSlice_imp ih h5, rSlice_imp (rCase_imp ih) h6⟩
theorem rStmt_le {d d' : Nat} (h : d ≤ d') : ∀ {S : Nat → Prop} {w : World} (cs : List Value) (x : PStmt), rStmt d S w cs x → rStmt d' S w cs x := by
  induction h with
  | refl => intro S w cs x h; exact h
  | step _ ih => intro S w cs x h; exact rStmt_succ _ _ _ (ih _ _ h)

section
variable {H : Type} {enc : TypeId × Value → H} {P : Program} {w : World}
theorem OpensN.imp {fuel : Nat} {t : TypeId} {α : Type} {R R' : Rep α} {Bd Bd' : α → Prop} (h : OpensN enc P w fuel t R Bd) (hR : ∀ cs x, R (fun _ => True) w cs x → R' (fun _ => True) w cs x) (hB : ∀ x, Bd x → Bd' x) : OpensN enc P w fuel t R' Bd' := by
  intro cs x h1 h2
  obtain ⟨y, h3, h4⟩ := h cs x h1 h2
  exact ⟨y, hR _ _ h3, hB _ h4⟩

/-- The types of package api that statements are made of, at their numbers. -/
structure Types (P : Program) (tint tstr tints texpr texprs tstmt tstmts tcase tcases : TypeId) : Prop where
  int : P.underlying tint = some (.int .i64)
  str : P.underlying tstr = some .string
  ints : P.underlying tints = some (.slice tint)
  expr : P.underlying texpr = some (.struct #[⟨"Kind", tint, 0, false, "", "", 0⟩, ⟨"N", tint, 1, false, "", "", 8⟩, ⟨"S", tstr, 2, false, "", "", 16⟩, ⟨"Args", texprs, 3, false, "", "", 32⟩])
  exprs : P.underlying texprs = some (.slice texpr)
  stmt : P.underlying tstmt = some (.struct #[⟨"Kind", tint, 0, false, "", "", 0⟩, ⟨"S", tstr, 1, false, "", "", 8⟩, ⟨"T", tstr, 2, false, "", "", 24⟩, ⟨"Exprs", texprs, 3, false, "", "", 40⟩, ⟨"Body", tstmts, 4, false, "", "", 64⟩, ⟨"Else", tstmts, 5, false, "", "", 88⟩, ⟨"Cases", tcases, 6, false, "", "", 112⟩])
  stmts : P.underlying tstmts = some (.slice tstmt)
  cas : P.underlying tcase = some (.struct #[⟨"Nums", tints, 0, false, "", "", 0⟩, ⟨"Body", tstmts, 1, false, "", "", 24⟩])
  cases : P.underlying tcases = some (.slice tcase)
  cells : (P.cellsOf tint, P.cellsOf tstr, P.cellsOf tints, P.cellsOf texpr, P.cellsOf texprs, P.cellsOf tstmt, P.cellsOf tstmts, P.cellsOf tcase, P.cellsOf tcases) = (1, 1, 1, 4, 1, 7, 1, 2, 1)
  bytes : (P.bytesOf tint, P.bytesOf texpr, P.bytesOf tstmt, P.bytesOf tcase) = (8, 56, 136, 48)

variable {tint tstr tints texpr texprs tstmt tstmts tcase tcases : TypeId}
theorem opens_expr (T : Types P tint tstr tints texpr texprs tstmt tstmts tcase tcases) : ∀ fuel, OpensN enc P w fuel texpr (rExpr fuel) (fun _ => True) := by
  intro fuel
  induction fuel using Nat.strongRecOn with
  | ind fuel ih =>
    intro cs x h hw
    have hc := T.cells
    have hb := T.bytes
    simp only [Prod.mk.injEq] at hc hb
    obtain ⟨c1, c2, c3, c4, c5, c6, c7, c8, c9⟩ := hc
    obtain ⟨b1, b2, b3, b4⟩ := hb
    obtain ⟨xs, n, rfl, rfl, hcl, hxl, hf⟩ := DataW.trod_struct T.expr h
    rw [c4] at hcl
    match cs, hcl with
    | [a0, a1, a2, a3], _ =>
    match xs, (show xs.length = 4 by simpa using hxl) with
    | [x0, x1, x2, x3], _ =>
    have f0 := hf 0 _ rfl
    have f1 := hf 1 _ rfl
    have f2 := hf 2 _ rfl
    have f3 := hf 3 _ rfl
    simp [c1, c2, c5] at f0 f1 f2 f3
    have hw' : ∀ n ∈ DataW.weightsEach P [tint, tint, tstr, texprs] [x0.1, x1.1, x2.1, x3.1], n ≤ reachBytes := by
      intro n hn
      refine hw n ?_
      simpa [DataW.weights, T.expr] using hn
    obtain ⟨y0, h0, _⟩ := opens_int (enc := enc) (w := w) T.int _ _ _ f0 (weights_part (j := 0) rfl rfl hw')
    obtain ⟨y1, h1, _⟩ := opens_int (enc := enc) (w := w) T.int _ _ _ f1 (weights_part (j := 1) rfl rfl hw')
    obtain ⟨y2, h2, _⟩ := opens_str (enc := enc) (w := w) T.str _ _ _ f2 (weights_part (j := 2) rfl rfl hw')
    obtain ⟨y3, h3, _⟩ := opens_sliceN (enc := enc) (w := w) (R := rExpr n) (Bd := fun _ => True) T.exprs c4 b2 (by decide) (fun m hm => (ih m (by omega)).imp (rExpr_le (by omega)) (fun _ h => h)) _ _ f3 (weights_part (j := 3) rfl rfl hw')
    obtain ⟨e0, i0⟩ := h0
    obtain ⟨e1, i1⟩ := h1
    obtain ⟨e2, i2⟩ := h2
    simp only [List.cons.injEq, and_true] at e0 e1 e2
    subst e0 e1 e2
    exact ⟨.mk y0 y1 y2 y3, ⟨a3, rfl, ⟨i0, i1, i2⟩, h3⟩, trivial⟩

theorem opens_stmt (T : Types P tint tstr tints texpr texprs tstmt tstmts tcase tcases) : ∀ fuel, OpensN enc P w fuel tstmt (rStmt fuel) (fun _ => True) := by
  intro fuel
  induction fuel using Nat.strongRecOn with
  | ind fuel ih =>
    intro cs x h hw
    have hc := T.cells
    have hb := T.bytes
    simp only [Prod.mk.injEq] at hc hb
    obtain ⟨c1, c2, c3, c4, c5, c6, c7, c8, c9⟩ := hc
    obtain ⟨b1, b2, b3, b4⟩ := hb
    obtain ⟨xs, n, rfl, rfl, hcl, hxl, hf⟩ := DataW.trod_struct T.stmt h
    rw [c6] at hcl
    match cs, hcl with
    | [a0, a1, a2, a3, a4, a5, a6], _ =>
    match xs, (show xs.length = 7 by simpa using hxl) with
    | [x0, x1, x2, x3, x4, x5, x6], _ =>
    have f0 := hf 0 _ rfl
    have f1 := hf 1 _ rfl
    have f2 := hf 2 _ rfl
    have f3 := hf 3 _ rfl
    have f4 := hf 4 _ rfl
    have f5 := hf 5 _ rfl
    have f6 := hf 6 _ rfl
    simp [c1, c2, c5, c7, c9] at f0 f1 f2 f3 f4 f5 f6
    have hw' : ∀ n ∈ DataW.weightsEach P [tint, tstr, tstr, texprs, tstmts, tstmts, tcases] [x0.1, x1.1, x2.1, x3.1, x4.1, x5.1, x6.1], n ≤ reachBytes := by
      intro n hn
      refine hw n ?_
      simpa [DataW.weights, T.stmt] using hn
    obtain ⟨y0, h0, _⟩ := opens_int (enc := enc) (w := w) T.int _ _ _ f0 (weights_part (j := 0) rfl rfl hw')
    obtain ⟨y1, h1, _⟩ := opens_str (enc := enc) (w := w) T.str _ _ _ f1 (weights_part (j := 1) rfl rfl hw')
    obtain ⟨y2, h2, _⟩ := opens_str (enc := enc) (w := w) T.str _ _ _ f2 (weights_part (j := 2) rfl rfl hw')
    obtain ⟨y3, h3, _⟩ := opens_sliceN (enc := enc) (w := w) (R := rExpr n) (Bd := fun _ => True) T.exprs c4 b2 (by decide) (fun m hm => (opens_expr T m).imp (rExpr_le (by omega)) (fun _ h => h)) _ _ f3 (weights_part (j := 3) rfl rfl hw')
    have hst : ∀ m, m ≤ n → OpensN enc P w m tstmts (rSlice 7 (rStmt n)) (fun _ => True) := fun m hm =>
      (opens_sliceN (R := rStmt n) (Bd := fun _ => True) T.stmts c6 b3 (by decide) (fun k hk => (ih k (by omega)).imp (rStmt_le (by omega)) (fun _ h => h))).imp (fun _ _ h => h) (fun _ _ => trivial)
    obtain ⟨y4, h4, _⟩ := hst n (Nat.le_refl _) _ _ f4 (weights_part (j := 4) rfl rfl hw')
    obtain ⟨y5, h5, _⟩ := hst n (Nat.le_refl _) _ _ f5 (weights_part (j := 5) rfl rfl hw')
    have hcase : ∀ m, m ≤ n → OpensN enc P w m tcase (rCase (rStmt n)) (fun _ => True) := by
      intro m hm cs x h hw
      obtain ⟨xs, m', rfl, rfl, hcl, hxl, hf⟩ := DataW.trod_struct T.cas h
      rw [c8] at hcl
      match cs, hcl with
      | [a0, a1], _ =>
      match xs, (show xs.length = 2 by simpa using hxl) with
      | [x0, x1], _ =>
      have f0 := hf 0 _ rfl
      have f1 := hf 1 _ rfl
      simp [c3, c7] at f0 f1
      have hw' : ∀ n ∈ DataW.weightsEach P [tints, tstmts] [x0.1, x1.1], n ≤ reachBytes := by
        intro n hn
        refine hw n ?_
        simpa [DataW.weights, T.cas] using hn
      obtain ⟨y0, h0, _⟩ := opens_slice (enc := enc) (w := w) T.ints c1 b1 (by decide) (opens_int T.int) _ _ _ f0 (weights_part (j := 0) rfl rfl hw')
      obtain ⟨y1, h1, _⟩ := hst m' (by omega) _ _ f1 (weights_part (j := 1) rfl rfl hw')
      exact ⟨(y0, y1), ⟨a0, a1, rfl, h0, h1⟩, trivial⟩
    obtain ⟨y6, h6, _⟩ := opens_sliceN (enc := enc) (w := w) (R := rCase (rStmt n)) (Bd := fun _ => True) T.cases c8 b4 (by decide) (fun m hm => hcase m (by omega)) _ _ f6 (weights_part (j := 6) rfl rfl hw')
    obtain ⟨e0, i0⟩ := h0
    obtain ⟨e1, i1⟩ := h1
    obtain ⟨e2, i2⟩ := h2
    simp only [List.cons.injEq, and_true] at e0 e1 e2
    subst e0 e1 e2
    exact ⟨.mk y0 y1 y2 y3 y4 y5 y6, ⟨a3, a4, a5, a6, rfl, ⟨i0, i1, i2⟩, h3, h4, h5, h6⟩, trivial⟩
end

/-- Statements, as a walk wants them. -/
theorem rStmts_val {d : Nat} {S : Nat → Prop} {w : World} {v : Value} {l : List PStmt} (h : rSlice 7 (rStmt (d + 1)) S w [v] l) :
    ∃ a cap, v = .slice a l.length cap ∧ l.length ≤ 9223372036854775807 ∧
    ∀ i (h : i < l.length), ∃ b off v3 v4 v5 v6, a = some ⟨b, off, none⟩ ∧ b < w.heap.size ∧
      (w.cell? ⟨b, off + i * 7, none⟩ = some (.int .i64 l[i].kind) ∧ w.cell? ⟨b, off + i * 7 + 1, none⟩ = some (.string l[i].s) ∧ w.cell? ⟨b, off + i * 7 + 2, none⟩ = some (.string l[i].t) ∧
      w.cell? ⟨b, off + i * 7 + 3, none⟩ = some v3 ∧ w.cell? ⟨b, off + i * 7 + 4, none⟩ = some v4 ∧ w.cell? ⟨b, off + i * 7 + 5, none⟩ = some v5 ∧ w.cell? ⟨b, off + i * 7 + 6, none⟩ = some v6) ∧
      rSlice 4 (rExpr d) S w [v3] l[i].exprs ∧ rSlice 7 (rStmt d) S w [v4] l[i].body ∧ rSlice 7 (rStmt d) S w [v5] l[i].els ∧ rSlice 2 (rCase (rStmt d)) S w [v6] l[i].cases := by
  obtain ⟨a, cap, h1, h2, h3, h4⟩ := rSlice_val h
  refine ⟨a, cap, h1, by unfold maxLen at h3; omega, fun i hi => ?_⟩
  obtain ⟨b, off, es, ha, hS, hb, hl, hc, v3, v4, v5, v6, rfl, hI, r3, r4, r5, r6⟩ := h4 i hi
  exact ⟨b, off, v3, v4, v5, v6, ha, hb, ⟨hc 0 (by decide), hc 1 (by decide), hc 2 (by decide), hc 3 (by decide), hc 4 (by decide), hc 5 (by decide), hc 6 (by decide)⟩, r3, r4, r5, r6⟩
theorem rCases_val {R : Rep PStmt} {S : Nat → Prop} {w : World} {v : Value} {l : List (List Int × List PStmt)} (h : rSlice 2 (rCase R) S w [v] l) :
    ∃ a cap, v = .slice a l.length cap ∧ l.length ≤ 9223372036854775807 ∧
    ∀ i (h : i < l.length), ∃ b off v0 v1, a = some ⟨b, off, none⟩ ∧ b < w.heap.size ∧
      (w.cell? ⟨b, off + i * 2, none⟩ = some v0 ∧ w.cell? ⟨b, off + i * 2 + 1, none⟩ = some v1) ∧ rInts S w [v0] l[i].1 ∧ rSlice 7 R S w [v1] l[i].2 := by
  obtain ⟨a, cap, h1, h2, h3, h4⟩ := rSlice_val h
  refine ⟨a, cap, h1, by unfold maxLen at h3; omega, fun i hi => ?_⟩
  obtain ⟨b, off, es, ha, hS, hb, hl, hc, v0, v1, rfl, r0, r1⟩ := h4 i hi
  exact ⟨b, off, v0, v1, ha, hb, ⟨hc 0 (by decide), hc 1 (by decide)⟩, r0, r1⟩
end Go.Pst

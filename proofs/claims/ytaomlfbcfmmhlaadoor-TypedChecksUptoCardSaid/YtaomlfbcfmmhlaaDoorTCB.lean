/-
  Texts joined: Tree TypeF IMap Row TreeFit.
-/
import Derived.Test.YtaomlfbcfmmhlaaDoorTCA
import Derived.Maps.OwnSet

/-
  The plain data of package api (expressions, statements, functions) as trees, and how they read in memory.
-/
namespace Go.Pst
open Go.RowKit
set_option linter.unusedVariables false

inductive PExpr where
  | mk (kind n : Int) (s : ByteArray) (args : List PExpr)
inductive PStmt where
  | mk (kind : Int) (s t : ByteArray) (exprs : List PExpr) (body els : List PStmt) (cases : List (List Int × List PStmt))
namespace PExpr
def kind : PExpr → Int | mk k _ _ _ => k
def n : PExpr → Int | mk _ n _ _ => n
def s : PExpr → ByteArray | mk _ _ s _ => s
def args : PExpr → List PExpr | mk _ _ _ a => a
end PExpr
namespace PStmt
def kind : PStmt → Int | mk k _ _ _ _ _ _ => k
def s : PStmt → ByteArray | mk _ s _ _ _ _ _ => s
def t : PStmt → ByteArray | mk _ _ t _ _ _ _ => t
def exprs : PStmt → List PExpr | mk _ _ _ x _ _ _ => x
def body : PStmt → List PStmt | mk _ _ _ _ b _ _ => b
def els : PStmt → List PStmt | mk _ _ _ _ _ e _ => e
def cases : PStmt → List (List Int × List PStmt) | mk _ _ _ _ _ _ c => c
end PStmt

def rExpr : Nat → Rep PExpr
  | 0 => fun _ _ _ _ => False
  | d + 1 => fun S w cs x => ∃ v3, cs = [.int .i64 x.kind, .int .i64 x.n, .string x.s, v3] ∧ (InI x.kind ∧ InI x.n ∧ x.s.size ≤ maxLen) ∧ rSlice 4 (rExpr d) S w [v3] x.args
def rCase (R : Rep PStmt) : Rep (List Int × List PStmt) := fun S w cs x => ∃ v0 v1, cs = [v0, v1] ∧ rInts S w [v0] x.1 ∧ rSlice 7 R S w [v1] x.2
def rStmt : Nat → Rep PStmt
  | 0 => fun _ _ _ _ => False
  | d + 1 => fun S w cs x => ∃ v3 v4 v5 v6, cs = [.int .i64 x.kind, .string x.s, .string x.t, v3, v4, v5, v6] ∧ (InI x.kind ∧ x.s.size ≤ maxLen ∧ x.t.size ≤ maxLen) ∧
      rSlice 4 (rExpr d) S w [v3] x.exprs ∧ rSlice 7 (rStmt d) S w [v4] x.body ∧ rSlice 7 (rStmt d) S w [v5] x.els ∧ rSlice 2 (rCase (rStmt d)) S w [v6] x.cases

instance good_expr (d : Nat) : Good (rExpr d) := by
  induction d with
  | zero => exact ⟨fun _ _ h => h⟩
  | succ d ih =>
    refine ⟨?_⟩
    rintro S S' w w' cs x hk hs ⟨v3, h1, h2, h3⟩
    exact ⟨v3, h1, h2, Good.keep hk hs h3⟩
instance good_case (R : Rep PStmt) [Good R] : Good (rCase R) := ⟨by
  rintro S S' w w' cs x hk hs ⟨v0, v1, h1, h2, h3⟩
  exact ⟨v0, v1, h1, Good.keep hk hs h2, Good.keep hk hs h3⟩⟩
instance good_stmt (d : Nat) : Good (rStmt d) := by
  induction d with
  | zero => exact ⟨fun _ _ h => h⟩
  | succ d ih =>
    refine ⟨?_⟩
    rintro S S' w w' cs x hk hs ⟨v3, v4, v5, v6, h1, h2, h3, h4, h5, h6⟩
    exact ⟨v3, v4, v5, v6, h1, h2, Good.keep hk hs h3, Good.keep hk hs h4, Good.keep hk hs h5, Good.keep hk hs h6⟩

theorem rSlice_imp {α : Type} {sz : Nat} {R R' : Rep α} {S : Nat → Prop} {w : World} (h : ∀ cs x, R S w cs x → R' S w cs x) {cs : List Value} {l : List α} (hl : rSlice sz R S w cs l) : rSlice sz R' S w cs l := by
  obtain ⟨a, cap, h1, h2, h3, h4⟩ := hl
  refine ⟨a, cap, h1, h2, h3, fun i hi => ?_⟩
  obtain ⟨b, off, es, e1, e2, e3, e4, e5, e6⟩ := h4 i hi
  exact ⟨b, off, es, e1, e2, e3, e4, e5, h _ _ e6⟩
theorem rExpr_succ (d : Nat) : ∀ {S : Nat → Prop} {w : World} (cs : List Value) (x : PExpr), rExpr d S w cs x → rExpr (d + 1) S w cs x := by
  induction d with
  | zero => intro S w cs x h; exact h.elim
  | succ d ih =>
    rintro S w cs x ⟨v3, h1, h2, h3⟩
    exact ⟨v3, h1, h2, rSlice_imp ih h3⟩
theorem rExpr_le {d d' : Nat} (h : d ≤ d') : ∀ {S : Nat → Prop} {w : World} (cs : List Value) (x : PExpr), rExpr d S w cs x → rExpr d' S w cs x := by
  induction h with
  | refl => intro S w cs x h; exact h
  | step _ ih => intro S w cs x h; exact rExpr_succ _ _ _ (ih _ _ h)
theorem rCase_imp {R R' : Rep PStmt} {S : Nat → Prop} {w : World} (h : ∀ cs x, R S w cs x → R' S w cs x) (cs : List Value) (x : List Int × List PStmt) (hc : rCase R S w cs x) : rCase R' S w cs x := by
  obtain ⟨v0, v1, h1, h2, h3⟩ := hc
  exact ⟨v0, v1, h1, h2, rSlice_imp h h3⟩
theorem rStmt_succ (d : Nat) : ∀ {S : Nat → Prop} {w : World} (cs : List Value) (x : PStmt), rStmt d S w cs x → rStmt (d + 1) S w cs x := by
  induction d with
  | zero => intro S w cs x h; exact h.elim
  | succ d ih =>
    rintro S w cs x ⟨v3, v4, v5, v6, h1, h2, h3, h4, h5, h6⟩
    exact ⟨v3, v4, v5, v6, h1, h2, rSlice_imp (rExpr_succ d) h3, rSlice_imp ih h4, rSlice_imp ih h5, rSlice_imp (rCase_imp ih) h6⟩
theorem rStmt_le {d d' : Nat} (h : d ≤ d') : ∀ {S : Nat → Prop} {w : World} (cs : List Value) (x : PStmt), rStmt d S w cs x → rStmt d' S w cs x := by
  induction h with
  | refl => intro S w cs x h; exact h
  | step _ ih => intro S w cs x h; exact rStmt_succ _ _ _ (ih _ _ h)

section
variable {H : Type} {enc : TypeId × Value → H} {P : Program} {w : World}
theorem OpensN.imp {fuel : Nat} {t : TypeId} {α : Type} {R R' : Rep α} {Bd Bd' : α → Prop} (h : OpensN enc P w fuel t R Bd) (hR : ∀ cs x, R (fun _ => True) w cs x → R' (fun _ => True) w cs x) (hB : ∀ x, Bd x → Bd' x) : OpensN enc P w fuel t R' Bd' := by
  intro cs x h1 h2
  obtain ⟨y, h3, h4⟩ := h cs x h1 h2
  exact ⟨y, hR _ _ h3, hB _ h4⟩

/-- The types of package api that statements are made of, at their numbers. -/
structure Types (P : Program) (tint tstr tints texpr texprs tstmt tstmts tcase tcases : TypeId) : Prop where
  int : P.underlying tint = some (.int .i64)
  str : P.underlying tstr = some .string
  ints : P.underlying tints = some (.slice tint)
  expr : P.underlying texpr = some (.struct #[⟨"Kind", tint, 0, false, "", "", 0⟩, ⟨"N", tint, 1, false, "", "", 8⟩, ⟨"S", tstr, 2, false, "", "", 16⟩, ⟨"Args", texprs, 3, false, "", "", 32⟩])
  exprs : P.underlying texprs = some (.slice texpr)
  stmt : P.underlying tstmt = some (.struct #[⟨"Kind", tint, 0, false, "", "", 0⟩, ⟨"S", tstr, 1, false, "", "", 8⟩, ⟨"T", tstr, 2, false, "", "", 24⟩, ⟨"Exprs", texprs, 3, false, "", "", 40⟩, ⟨"Body", tstmts, 4, false, "", "", 64⟩, ⟨"Else", tstmts, 5, false, "", "", 88⟩, ⟨"Cases", tcases, 6, false, "", "", 112⟩])
  stmts : P.underlying tstmts = some (.slice tstmt)
  cas : P.underlying tcase = some (.struct #[⟨"Nums", tints, 0, false, "", "", 0⟩, ⟨"Body", tstmts, 1, false, "", "", 24⟩])
  cases : P.underlying tcases = some (.slice tcase)
  cells : (P.cellsOf tint, P.cellsOf tstr, P.cellsOf tints, P.cellsOf texpr, P.cellsOf texprs, P.cellsOf tstmt, P.cellsOf tstmts, P.cellsOf tcase, P.cellsOf tcases) = (1, 1, 1, 4, 1, 7, 1, 2, 1)
  bytes : (P.bytesOf tint, P.bytesOf texpr, P.bytesOf tstmt, P.bytesOf tcase) = (8, 56, 136, 48)

variable {tint tstr tints texpr texprs tstmt tstmts tcase tcases : TypeId}
theorem opens_expr (T : Types P tint tstr tints texpr texprs tstmt tstmts tcase tcases) : ∀ fuel, OpensN enc P w fuel texpr (rExpr fuel) (fun _ => True) := by
  intro fuel
  induction fuel using Nat.strongRecOn with
  | ind fuel ih =>
    intro cs x h hw
    have hc := T.cells
    have hb := T.bytes
    simp only [Prod.mk.injEq] at hc hb
    obtain ⟨c1, c2, c3, c4, c5, c6, c7, c8, c9⟩ := hc
    obtain ⟨b1, b2, b3, b4⟩ := hb
    obtain ⟨xs, n, rfl, rfl, hcl, hxl, hf⟩ := DataW.trod_struct T.expr h
    rw [c4] at hcl
    match cs, hcl with
    | [a0, a1, a2, a3], _ =>
    match xs, (show xs.length = 4 by simpa using hxl) with
    | [x0, x1, x2, x3], _ =>
    have f0 := hf 0 _ rfl
    have f1 := hf 1 _ rfl
    have f2 := hf 2 _ rfl
    have f3 := hf 3 _ rfl
    simp [c1, c2, c5] at f0 f1 f2 f3
    have hw' : ∀ n ∈ DataW.weightsEach P [tint, tint, tstr, texprs] [x0.1, x1.1, x2.1, x3.1], n ≤ reachBytes := by
      intro n hn
      refine hw n ?_
      simpa [DataW.weights, T.expr] using hn
    obtain ⟨y0, h0, _⟩ := opens_int (enc := enc) (w := w) T.int _ _ _ f0 (weights_part (j := 0) rfl rfl hw')
    obtain ⟨y1, h1, _⟩ := opens_int (enc := enc) (w := w) T.int _ _ _ f1 (weights_part (j := 1) rfl rfl hw')
    obtain ⟨y2, h2, _⟩ := opens_str (enc := enc) (w := w) T.str _ _ _ f2 (weights_part (j := 2) rfl rfl hw')
    obtain ⟨y3, h3, _⟩ := opens_sliceN (enc := enc) (w := w) (R := rExpr n) (Bd := fun _ => True) T.exprs c4 b2 (by decide) (fun m hm => (ih m (by omega)).imp (rExpr_le (by omega)) (fun _ h => h)) _ _ f3 (weights_part (j := 3) rfl rfl hw')
    obtain ⟨e0, i0⟩ := h0
    obtain ⟨e1, i1⟩ := h1
    obtain ⟨e2, i2⟩ := h2
    simp only [List.cons.injEq, and_true] at e0 e1 e2
    subst e0 e1 e2
    exact ⟨.mk y0 y1 y2 y3, ⟨a3, rfl, ⟨i0, i1, i2⟩, h3⟩, trivial⟩

theorem opens_stmt (T : Types P tint tstr tints texpr texprs tstmt tstmts tcase tcases) : ∀ fuel, OpensN enc P w fuel tstmt (rStmt fuel) (fun _ => True) := by
  intro fuel
  induction fuel using Nat.strongRecOn with
  | ind fuel ih =>
    intro cs x h hw
    have hc := T.cells
    have hb := T.bytes
    simp only [Prod.mk.injEq] at hc hb
    obtain ⟨c1, c2, c3, c4, c5, c6, c7, c8, c9⟩ := hc
    obtain ⟨b1, b2, b3, b4⟩ := hb
    obtain ⟨xs, n, rfl, rfl, hcl, hxl, hf⟩ := DataW.trod_struct T.stmt h
    rw [c6] at hcl
    match cs, hcl with
    | [a0, a1, a2, a3, a4, a5, a6], _ =>
    match xs, (show xs.length = 7 by simpa using hxl) with
    | [x0, x1, x2, x3, x4, x5, x6], _ =>
    have f0 := hf 0 _ rfl
    have f1 := hf 1 _ rfl
    have f2 := hf 2 _ rfl
    have f3 := hf 3 _ rfl
    have f4 := hf 4 _ rfl
    have f5 := hf 5 _ rfl
    have f6 := hf 6 _ rfl
    simp [c1, c2, c5, c7, c9] at f0 f1 f2 f3 f4 f5 f6
    have hw' : ∀ n ∈ DataW.weightsEach P [tint, tstr, tstr, texprs, tstmts, tstmts, tcases] [x0.1, x1.1, x2.1, x3.1, x4.1, x5.1, x6.1], n ≤ reachBytes := by
      intro n hn
      refine hw n ?_
      simpa [DataW.weights, T.stmt] using hn
    obtain ⟨y0, h0, _⟩ := opens_int (enc := enc) (w := w) T.int _ _ _ f0 (weights_part (j := 0) rfl rfl hw')
    obtain ⟨y1, h1, _⟩ := opens_str (enc := enc) (w := w) T.str _ _ _ f1 (weights_part (j := 1) rfl rfl hw')
    obtain ⟨y2, h2, _⟩ := opens_str (enc := enc) (w := w) T.str _ _ _ f2 (weights_part (j := 2) rfl rfl hw')
    obtain ⟨y3, h3, _⟩ := opens_sliceN (enc := enc) (w := w) (R := rExpr n) (Bd := fun _ => True) T.exprs c4 b2 (by decide) (fun m hm => (opens_expr T m).imp (rExpr_le (by omega)) (fun _ h => h)) _ _ f3 (weights_part (j := 3) rfl rfl hw')
    have hst : ∀ m, m ≤ n → OpensN enc P w m tstmts (rSlice 7 (rStmt n)) (fun _ => True) := fun m hm =>
      (opens_sliceN (R := rStmt n) (Bd := fun _ => True) T.stmts c6 b3 (by decide) (fun k hk => (ih k (by omega)).imp (rStmt_le (by omega)) (fun _ h => h))).imp (fun _ _ h => h) (fun _ _ => trivial)
    obtain ⟨y4, h4, _⟩ := hst n (Nat.le_refl _) _ _ f4 (weights_part (j := 4) rfl rfl hw')
    obtain ⟨y5, h5, _⟩ := hst n (Nat.le_refl _) _ _ f5 (weights_part (j := 5) rfl rfl hw')
    have hcase : ∀ m, m ≤ n → OpensN enc P w m tcase (rCase (rStmt n)) (fun _ => True) := by
      intro m hm cs x h hw
      obtain ⟨xs, m', rfl, rfl, hcl, hxl, hf⟩ := DataW.trod_struct T.cas h
      rw [c8] at hcl
      match cs, hcl with
      | [a0, a1], _ =>
      match xs, (show xs.length = 2 by simpa using hxl) with
      | [x0, x1], _ =>
      have f0 := hf 0 _ rfl
      have f1 := hf 1 _ rfl
      simp [c3, c7] at f0 f1
      have hw' : ∀ n ∈ DataW.weightsEach P [tints, tstmts] [x0.1, x1.1], n ≤ reachBytes := by
        intro n hn
        refine hw n ?_
        simpa [DataW.weights, T.cas] using hn
      obtain ⟨y0, h0, _⟩ := opens_slice (enc := enc) (w := w) T.ints c1 b1 (by decide) (opens_int T.int) _ _ _ f0 (weights_part (j := 0) rfl rfl hw')
      obtain ⟨y1, h1, _⟩ := hst m' (by omega) _ _ f1 (weights_part (j := 1) rfl rfl hw')
      exact ⟨(y0, y1), ⟨a0, a1, rfl, h0, h1⟩, trivial⟩
    obtain ⟨y6, h6, _⟩ := opens_sliceN (enc := enc) (w := w) (R := rCase (rStmt n)) (Bd := fun _ => True) T.cases c8 b4 (by decide) (fun m hm => hcase m (by omega)) _ _ f6 (weights_part (j := 6) rfl rfl hw')
    obtain ⟨e0, i0⟩ := h0
    obtain ⟨e1, i1⟩ := h1
    obtain ⟨e2, i2⟩ := h2
    simp only [List.cons.injEq, and_true] at e0 e1 e2
    subst e0 e1 e2
    exact ⟨.mk y0 y1 y2 y3 y4 y5 y6, ⟨a3, a4, a5, a6, rfl, ⟨i0, i1, i2⟩, h3, h4, h5, h6⟩, trivial⟩
end

/-- Statements, as a walk wants them. -/
theorem rStmts_val {d : Nat} {S : Nat → Prop} {w : World} {v : Value} {l : List PStmt} (h : rSlice 7 (rStmt (d + 1)) S w [v] l) :
    ∃ a cap, v = .slice a l.length cap ∧ l.length ≤ 9223372036854775807 ∧
    ∀ i (h : i < l.length), ∃ b off v3 v4 v5 v6, a = some ⟨b, off, none⟩ ∧ b < w.heap.size ∧
      (w.cell? ⟨b, off + i * 7, none⟩ = some (.int .i64 l[i].kind) ∧ w.cell? ⟨b, off + i * 7 + 1, none⟩ = some (.string l[i].s) ∧ w.cell? ⟨b, off + i * 7 + 2, none⟩ = some (.string l[i].t) ∧
      w.cell? ⟨b, off + i * 7 + 3, none⟩ = some v3 ∧ w.cell? ⟨b, off + i * 7 + 4, none⟩ = some v4 ∧ w.cell? ⟨b, off + i * 7 + 5, none⟩ = some v5 ∧ w.cell? ⟨b, off + i * 7 + 6, none⟩ = some v6) ∧
      rSlice 4 (rExpr d) S w [v3] l[i].exprs ∧ rSlice 7 (rStmt d) S w [v4] l[i].body ∧ rSlice 7 (rStmt d) S w [v5] l[i].els ∧ rSlice 2 (rCase (rStmt d)) S w [v6] l[i].cases := by
  obtain ⟨a, cap, h1, h2, h3, h4⟩ := rSlice_val h
  refine ⟨a, cap, h1, by unfold maxLen at h3; omega, fun i hi => ?_⟩
  obtain ⟨b, off, es, ha, hS, hb, hl, hc, v3, v4, v5, v6, rfl, hI, r3, r4, r5, r6⟩ := h4 i hi
  exact ⟨b, off, v3, v4, v5, v6, ha, hb, ⟨hc 0 (by decide), hc 1 (by decide), hc 2 (by decide), hc 3 (by decide), hc 4 (by decide), hc 5 (by decide), hc 6 (by decide)⟩, r3, r4, r5, r6⟩
theorem rCases_val {R : Rep PStmt} {S : Nat → Prop} {w : World} {v : Value} {l : List (List Int × List PStmt)} (h : rSlice 2 (rCase R) S w [v] l) :
    ∃ a cap, v = .slice a l.length cap ∧ l.length ≤ 9223372036854775807 ∧
    ∀ i (h : i < l.length), ∃ b off v0 v1, a = some ⟨b, off, none⟩ ∧ b < w.heap.size ∧
      (w.cell? ⟨b, off + i * 2, none⟩ = some v0 ∧ w.cell? ⟨b, off + i * 2 + 1, none⟩ = some v1) ∧ rInts S w [v0] l[i].1 ∧ rSlice 7 R S w [v1] l[i].2 := by
  obtain ⟨a, cap, h1, h2, h3, h4⟩ := rSlice_val h
  refine ⟨a, cap, h1, by unfold maxLen at h3; omega, fun i hi => ?_⟩
  obtain ⟨b, off, es, ha, hS, hb, hl, hc, v0, v1, rfl, r0, r1⟩ := h4 i hi
  exact ⟨b, off, v0, v1, ha, hb, ⟨hc 0 (by decide), hc 1 (by decide)⟩, r0, r1⟩
end Go.Pst

/-
  Whether functions fit one another (P2.1 .. P2.6), as plain functions on trees.
-/
namespace Go.Pst
open Go.RowKit
set_option linter.unusedVariables false

structure PFunc where
  name : ByteArray
  params : List (ByteArray × Int)
  result : Int
  body : List PStmt

/-- Names with their types, in the order in which they came; the innermost scope first. -/
abbrev Scope := List (ByteArray × Int)
def lookT : Scope → ByteArray → Option Int
  | [], _ => none
  | (s, t) :: r, x => if s = x then some t else lookT r x
def findT : List Scope → ByteArray → Option Int
  | [], _ => none
  | g :: r, x => match lookT g x with
    | some t => some t
    | none => findT r x

def wordsT : List (List UInt8) := [[102,117,110,99],[105,102],[101,108,115,101],[102,111,114],[114,97,110,103,101],[115,119,105,116,99,104],[99,97,115,101],[100,101,102,97,117,108,116],[114,101,116,117,114,110],[112,114,105,110,116],[98,114,101,97,107],[99,111,110,116,105,110,117,101],[100,101,108,101,116,101],[116,114,117,101],[102,97,108,115,101],[108,101,110],[97,112,112,101,110,100],[115,108,105,99,101],[109,97,112],[105,110,116],[98,111,111,108],[115,116,114,105,110,103]]
def smallB (c : UInt8) : Bool := decide (97 ≤ c.toNat) && decide (c.toNat ≤ 122)
def digitB (c : UInt8) : Bool := decide (48 ≤ c.toNat) && decide (c.toNat ≤ 57)
def nameB (s : List UInt8) : Bool := decide (1 ≤ s.length) && decide (s.length ≤ 12) && !(wordsT.contains s) && (match s with | [] => false | c :: _ => smallB c) && s.all fun c => smallB c || digitB c

def argsN (k : Int) : Int := if k = 5 ∨ k = 9 ∨ k = 10 then 2 else if k = 6 ∨ k = 8 then 1 else if k = 7 ∨ k = 11 then -1 else 0

def opT (s : List UInt8) (a b : Int) : Except Int Int :=
  if s = [43] then (if (a = 1 ∨ a = 3) ∧ a = b then .ok a else .error 9)
  else if s = [45] ∨ s = [42] ∨ s = [47] ∨ s = [37] then (if a = 1 ∧ b = 1 then .ok 1 else .error 9)
  else if s = [38, 38] ∨ s = [124, 124] then (if a = 2 ∧ b = 2 then .ok 2 else .error 9)
  else if s = [61, 61] ∨ s = [33, 61] then (if (a = 1 ∨ a = 2 ∨ a = 3) ∧ a = b then .ok 2 else .error 9)
  else if s = [60] ∨ s = [60, 61] ∨ s = [62] ∨ s = [62, 61] then (if (a = 1 ∨ a = 3) ∧ a = b then .ok 2 else .error 9)
  else .error 4

/-- The first function of a name. -/
def callT : List PFunc → ByteArray → List Int → Except Int Int
  | [], _, _ => .error 6
  | f :: r, s, ts => if f.name = s then (if f.params.length ≠ ts.length then .error 10 else if ts = f.params.map (·.2) then .ok f.result else .error 9) else callT r s ts

def kindT (fs : List PFunc) (G : List Scope) (x : PExpr) (ts : List Int) : Except Int Int :=
  if x.kind = 1 then (if -1099511627776 ≤ x.n ∧ x.n ≤ 1099511627776 then .ok 1 else .error 2)
  else if x.kind = 2 then (if 4000 < x.s.size then .error 1 else .ok 3)
  else if x.kind = 3 then (if 0 ≤ x.n ∧ x.n ≤ 1 then .ok 2 else .error 2)
  else if x.kind = 4 then (match findT G x.s with | some t => .ok t | none => .error 6)
  else if x.kind = 5 then opT x.s.toList (ts.getD 0 0) (ts.getD 1 0)
  else if x.kind = 6 then (if x.s.toList = [45] then (if ts.getD 0 0 = 1 then .ok 1 else .error 9) else if x.s.toList = [33] then (if ts.getD 0 0 = 2 then .ok 2 else .error 9) else .error 4)
  else if x.kind = 7 then callT fs x.s ts
  else if x.kind = 8 then (if 3 ≤ ts.getD 0 0 ∧ ts.getD 0 0 ≤ 5 then .ok 1 else .error 9)
  else if x.kind = 9 then (if (3 ≤ ts.getD 0 0 ∧ ts.getD 0 0 ≤ 5) ∧ ts.getD 1 0 = 1 then .ok 1 else .error 9)
  else if x.kind = 10 then (if ts.getD 0 0 = 4 ∧ ts.getD 1 0 = 1 then .ok 4 else .error 9)
  else if x.kind = 11 then (if 4000 < ts.length then .error 1 else if ∀ t ∈ ts, t = 1 then .ok 4 else .error 9)
  else .ok 5

def argsT (f : PExpr → Except Int Int) : List PExpr → Except Int (List Int)
  | [] => .ok []
  | x :: r => match f x with
    | .error e => .error e
    | .ok t => match argsT f r with
      | .error e => .error e
      | .ok ts => .ok (t :: ts)

/-- The type of an expression, so many levels deep. -/
def exprT (fs : List PFunc) (G : List Scope) : Nat → Nat → PExpr → Except Int Int
  | 0, _, _ => .error 8
  | d + 1, k, x =>
    if ¬ (1 ≤ x.kind ∧ x.kind ≤ 12) then .error 3
    else if 0 ≤ argsN x.kind ∧ argsN x.kind ≠ x.args.length then .error 10
    else if 120 < k + 1 then .error 8
    else match argsT (exprT fs G d (k + 1)) x.args with
      | .error e => .error e
      | .ok ts => kindT fs G x ts

def valuedT (r : Except Int Int) : Except Int Int :=
  match r with
  | .error e => .error e
  | .ok t => if 1 ≤ t ∧ t ≤ 5 then .ok t else .error 9
def isT (r : Except Int Int) (u : Int) : Except Int Int :=
  match valuedT r with
  | .error e => .error e
  | .ok t => if t = u then .ok t else .error 9

def declT (G : List Scope) (s : ByteArray) (t : Int) : Except Int (List Scope) :=
  match G with
  | [] => .error 4
  | g :: r => if nameB s.toList = false then .error 4 else if (lookT g s).isSome then .error 7 else if ¬ (1 ≤ t ∧ t ≤ 5) then .error 9 else .ok ((g ++ [(s, t)]) :: r)

def exprsN (k : Int) : Int := if k = 3 then 2 else if k = 10 ∨ k = 11 then 0 else if k = 8 then -1 else 1

/-- Statements one behind the other. -/
def stmtsT (f : List Scope → PStmt → Except Int (List Scope)) : List Scope → List PStmt → Except Int (List Scope)
  | G, [] => .ok G
  | G, s :: r => match f G s with
    | .error e => .error e
    | .ok G' => stmtsT f G' r
/-- .. in a scope of their own. -/
def blockT (f : List Scope → PStmt → Except Int (List Scope)) (G : List Scope) (l : List PStmt) : Except Int (List Scope) :=
  match stmtsT f ([] :: G) l with
  | .error e => .error e
  | .ok _ => .ok G

/-- The numbers of a case: those that were there are 'seen'. -/
def numsT : List Int → List Int → Except Int (List Int)
  | seen, [] => .ok seen
  | seen, n :: r => if ¬ (-1099511627776 ≤ n ∧ n ≤ 1099511627776) then .error 2 else if n ∈ seen then .error 7 else numsT (seen ++ [n]) r
def casesT (f : List PStmt → Except Int (List Scope)) (G : List Scope) : List Int → List (List Int × List PStmt) → Except Int (List Scope)
  | _, [] => .ok G
  | seen, c :: r =>
    if c.1.length = 0 then .error 10
    else match numsT seen c.1 with
      | .error e => .error e
      | .ok seen' => match f c.2 with
        | .error e => .error e
        | .ok _ => casesT f G seen' r

def setT (G : List Scope) (r : Except Int Int) (s : ByteArray) : Except Int (List Scope) :=
  match r with
  | .error e => .error e
  | .ok t => match findT G s with
    | none => .error 6
    | some u => if t = u then .ok G else .error 9
def backT (G : List Scope) (res : Int) (es : List PExpr) (r : PExpr → Except Int Int) : Except Int (List Scope) :=
  if res = 0 then (if es.length = 0 then .ok G else .error 10)
  else match es with
    | [x] => (match isT (r x) res with | .error e => .error e | .ok _ => .ok G)
    | _ => .error 10

/-- A statement: so many loops round it, so deep. -/
def stmtT (fs : List PFunc) (res : Int) : Nat → Nat → Nat → List Scope → PStmt → Except Int (List Scope)
  | 0, _, _, _, _ => .error 8
  | d + 1, loops, k, G, s =>
    if ¬ (1 ≤ s.kind ∧ s.kind ≤ 13) then .error 3
    else if (0 ≤ exprsN s.kind ∧ exprsN s.kind ≠ s.exprs.length) ∨ 2 < s.exprs.length then .error 10
    else if 120 < k + 1 then .error 8
    else
      let ex := exprT fs G d (k + 1)
      let e0 := match s.exprs with | x :: _ => valuedT (ex x) | [] => .error 8
      let body := fun (G' : List Scope) (n : Nat) (l : List PStmt) => blockT (stmtT fs res d n (k + 1)) G' l
      if s.kind = 1 then (match e0 with | .error e => .error e | .ok t => declT G s.s t)
      else if s.kind = 2 then setT G e0 s.s
      else if s.kind = 3 then (match s.exprs with
        | [x, y] => (match isT (ex x) 1 with
          | .error e => .error e
          | .ok _ => match isT (ex y) 1 with
            | .error e => .error e
            | .ok _ => match findT G s.s with
              | none => .error 6
              | some u => if u = 4 ∨ u = 5 then .ok G else .error 9)
        | _ => .error 8)
      else if s.kind = 12 then (match s.exprs with
        | [x] => (match isT (ex x) 1 with
          | .error e => .error e
          | .ok _ => match findT G s.s with
            | none => .error 6
            | some u => if u = 5 then .ok G else .error 9)
        | _ => .error 8)
      else if s.kind = 9 then (match e0 with | .error e => .error e | .ok t => if 3 < t then .error 9 else .ok G)
      else if s.kind = 8 then backT G res s.exprs ex
      else if s.kind = 10 ∨ s.kind = 11 then (if loops = 0 then .error 12 else .ok G)
      else if s.kind = 13 then (match s.exprs with
        | [x] => if x.kind ≠ 7 then .error 4 else (match ex x with | .error e => .error e | .ok _ => .ok G)
        | _ => .error 8)
      else match e0 with
        | .error e => .error e
        | .ok t =>
          if s.kind = 4 then (if t ≠ 2 then .error 9 else match body G loops s.body with
            | .error e => .error e
            | .ok _ => body G loops s.els)
          else if s.kind = 5 then (if t ≠ 2 then .error 9 else body G (loops + 1) s.body)
          else if s.kind = 6 then (if t = 2 then .error 9 else match declT ([] :: G) s.s 1 with
            | .error e => .error e
            | .ok G1 => match declT G1 s.t 1 with
              | .error e => .error e
              | .ok G2 => match body G2 (loops + 1) s.body with
                | .error e => .error e
                | .ok _ => .ok G)
          else if t ≠ 1 then .error 9
          else match casesT (body G loops) G [] s.cases with
            | .error e => .error e
            | .ok _ => body G loops s.els

def paramsT : List Scope → List (ByteArray × Int) → Except Int (List Scope)
  | G, [] => .ok G
  | G, (s, t) :: r => match declT G s t with
    | .error e => .error e
    | .ok G' => paramsT G' r

/-- What is wrong with a function; 0: nothing. 'ends': its body never ends but by a return. -/
def funcT (fs : List PFunc) (d : Nat) (f : PFunc) (ends : Bool) : Int :=
  if ¬ (0 ≤ f.result ∧ f.result ≤ 5) then 3
  else if 4 < f.params.length then 10
  else match paramsT [[]] f.params with
    | .error e => e
    | .ok G => match blockT (stmtT fs f.result d 0 0) G f.body with
      | .error e => e
      | .ok _ => if f.result ≠ 0 ∧ ends = false then 11 else 0
end Go.Pst

/-
  Plain laws on memory, for any program: a map whose keys are ints or strings, as a list of pairs (keys apart); look-up, store, delete, length, at whatever elements.
-/
namespace Go.Pst
open Go.RowKit Go.MapKept Go.ChangeMaps
set_option linter.unusedVariables false
set_option linter.unusedSimpArgs false
set_option linter.unusedSectionVars false

/-- What may be a key here: an int, a string. -/
class MKey (κ : Type) where
  val : κ → Value
  desc : TypeDesc
  same : ∀ [DecidableEq κ] (a b : κ), Instr.sameNow desc (val a) (val b) = some (decide (a = b))
  isKey : ∀ a, IsKey desc (val a)
  bits : ∀ a, Instr.sameBits 10000 (val a) (val a) = true
  inj : ∀ a b, val a = val b → a = b
instance : MKey Int where
  val := Value.int .i64
  desc := .int .i64
  same := fun a b => by simp only [Instr.sameNow, if_true]; congr 1; by_cases h : a = b <;> simp [h]
  isKey := fun a => by simp [IsKey]
  bits := fun a => by unfold Instr.sameBits; simp
  inj := fun a b h => by simpa using h
instance : MKey ByteArray where
  val := Value.string
  desc := .string
  same := fun a b => by
    simp only [Instr.sameNow]; congr 1
    by_cases h : a = b
    · simp [h, (bytes_beq b b).2 rfl]
    · simp only [h, decide_false]
      cases hb : (a == b) with
      | false => rfl
      | true => exact absurd ((bytes_beq a b).1 hb) h
  isKey := fun a => by simp [IsKey]
  bits := fun a => by unfold Instr.sameBits; exact (bytes_beq a a).2 rfl
  inj := fun a b h => by simpa using h

variable {κ : Type} [DecidableEq κ] [MKey κ]
/-- Keys and elements, in the order in which they came. -/
abbrev IMap (κ : Type) := List (κ × Value)
def entI (m : IMap κ) : List (Value × Value) := m.map fun p => (MKey.val p.1, p.2)
/-- Block b is a map that holds m. -/
def MapI (w : World) (b : Nat) (m : IMap κ) : Prop :=
  ∃ es clock, w.heap[b]? = some (.map es clock) ∧ Stamped es clock ∧ es.toList.map (fun e => (e.key, e.val)) = entI m

def lookI : IMap κ → κ → Option Value
  | [], _ => none
  | (k, v) :: r, x => if k = x then some v else lookI r x
def putI : IMap κ → κ → Value → IMap κ
  | [], x, v => [(x, v)]
  | (k, u) :: r, x, v => if k = x then (k, v) :: r else (k, u) :: putI r x v
def delI : IMap κ → κ → IMap κ
  | [], _ => []
  | (k, u) :: r, x => if k = x then r else (k, u) :: delI r x

theorem lookI_put_same (m : IMap κ) (x : κ) (v : Value) : lookI (putI m x v) x = some v := by
  induction m with
  | nil => simp [putI, lookI]
  | cons p r ih =>
    obtain ⟨k, u⟩ := p
    unfold putI
    by_cases h : k = x
    · simp [h, lookI]
    · simp [h, lookI, ih]
theorem lookI_put_other (m : IMap κ) {x y : κ} (v : Value) (h : x ≠ y) : lookI (putI m x v) y = lookI m y := by
  induction m with
  | nil => simp [putI, lookI, h]
  | cons p r ih =>
    obtain ⟨k, u⟩ := p
    unfold putI
    by_cases hk : k = x
    · subst hk; simp [lookI, h]
    · by_cases hy : k = y
      · subst hy; simp [hk, lookI]
      · simp [hk, lookI, hy, ih]

theorem MapI.lt {w : World} {b : Nat} {m : IMap κ} (h : MapI w b m) : b < w.heap.size := by
  obtain ⟨es, clock, hb, _⟩ := h
  exact (Array.getElem?_eq_some_iff.1 hb).1
theorem MapI.keys {w : World} {b : Nat} {m : IMap κ} (h : MapI w b m) : (m.map (·.1)).Nodup := by
  obtain ⟨es, clock, _, ⟨_, _, h3⟩, hm⟩ := h
  have e : es.toList.map (·.key) = (m.map (·.1)).map MKey.val := by
    have := congrArg (List.map Prod.fst) hm
    simpa [entI, Function.comp_def] using this
  rw [e] at h3
  rw [List.nodup_iff_pairwise_ne] at h3 ⊢
  rw [List.pairwise_map] at h3
  exact h3.imp fun hne e => hne (by rw [e])
theorem MapI.heap {w w' : World} {b : Nat} {m : IMap κ} (h : MapI w b m) (e : w'.heap[b]? = w.heap[b]?) : MapI w' b m := by
  obtain ⟨es, clock, hb, r⟩ := h
  exact ⟨es, clock, e.trans hb, r⟩
theorem MapI.kept {w w' : World} {b : Nat} {m : IMap κ} {row : Option Nat} (h : MapI w b m) (hg : w.grownBy w' row) (hne : some b ≠ row) : MapI w' b m :=
  h.heap (hg.block b h.lt hne)
theorem MapI.alloc {w : World} {b : Nat} {m : IMap κ} (h : MapI w b m) (o : Obj) : MapI (w.alloc o) b m := h.kept (World.grownBy_alloc w o none) (by simp)
theorem MapI.drew {w : World} {b : Nat} {m : IMap κ} (h : MapI w b m) : MapI w.drew b m := h
theorem MapI.below {w w' : World} {B b : Nat} {m : IMap κ} (h : MapI w b m) (hb : Below B w w') (hlt : b < B) : MapI w' b m := h.heap (hb.block b hlt)
theorem MapI.setCell {w : World} {b : Nat} {m : IMap κ} (h : MapI w b m) {a : Addr} (ha : b ≠ a.block) (u : Value) : MapI (w.setCell a u) b m :=
  h.heap (Below.heap_setCell _ _ _ _ ha)
theorem MapI.made (κ : Type) [DecidableEq κ] [MKey κ] (w : World) : MapI (w.alloc (.map #[] 0)) w.heap.size ([] : IMap κ) :=
  ⟨#[], 0, (MapKept.heap_alloc w _).1, stamped_empty 0, rfl⟩

section
variable {P : Program} {w : World} {b : Nat} {m : IMap κ} {t kt et : TypeId}

theorem find_I : ∀ (l : List MapEntry) (m : IMap κ) (i : Nat) (x : κ), l.map (fun e => (e.key, e.val)) = entI m →
    (Instr.findNow (MKey.desc κ) (MKey.val x) l i = some none ∧ lookI m x = none ∧ delI m x = m ∧ (∀ v, putI m x v = m ++ [(x, v)]) ∧ (∀ e ∈ l, e.key ≠ MKey.val x)) ∨
    ∃ j e v, Instr.findNow (MKey.desc κ) (MKey.val x) l i = some (some (i + j, v)) ∧ lookI m x = some v ∧ l[j]? = some e ∧ e.key = MKey.val x ∧ e.val = v ∧ delI m x = m.eraseIdx j ∧ (∀ u, putI m x u = m.modify j fun p => (p.1, u))
  | [], m, i, x, h => by
    have : m = [] := by cases m with | nil => rfl | cons p r => simp [entI] at h
    subst this
    exact .inl ⟨rfl, rfl, rfl, fun _ => rfl, by simp⟩
  | e :: l, [], i, x, h => by simp [entI] at h
  | e :: l, (k, u) :: r, i, x, h => by
    simp only [List.map_cons, entI, List.cons.injEq, Prod.mk.injEq] at h
    obtain ⟨⟨hk, hu⟩, hr⟩ := h
    by_cases hx : k = x
    · subst hx
      exact .inr ⟨0, e, u, by simp [Instr.findNow, MKey.same, hk, hu], by simp [lookI], rfl, hk, hu, by simp [delI], fun v => by simp [putI]⟩
    · have hx' : decide (x = k) = false := by simpa using fun e => hx e.symm
      rcases find_I l r (i + 1) x hr with ⟨h1, h2, h3, h4, h5⟩ | ⟨j, e', v, h1, h2, h3, h4, h5, h6, h7⟩
      · refine .inl ⟨by simp [Instr.findNow, MKey.same, hk, hx', h1], by simp [lookI, hx, h2], by simp [delI, hx, h3], fun v => by simp [putI, hx, h4], ?_⟩
        intro y hy
        rcases List.mem_cons.1 hy with rfl | hy
        · rw [hk]; exact fun e => hx (MKey.inj _ _ e)
        · exact h5 y hy
      · exact .inr ⟨j + 1, e', v, by simp [Instr.findNow, MKey.same, hk, hx', h1]; omega, by simp [lookI, hx, h2], by simpa using h3, h4, h5, by simp [delI, hx, h6], fun v => by simp [putI, hx, h7]⟩

theorem isKey_int (x : κ) : IsKey (MKey.desc κ) (MKey.val x) := MKey.isKey x

/-- 'm[k]', 'v, ok := m[k]'. -/
theorem MapI.lookup (h : MapI w b m) (ht : P.underlying t = some (.map kt et)) (hk : P.underlying kt = some (MKey.desc κ)) {z : Value} (hz : (zeroValue et).run P w = .ok z w) (x : κ) (ok : Bool) :
    (Instr.lookup t (.map (some b)) (MKey.val x) ok).run P w = .ok (if ok then .tuple #[(lookI m x).getD z, .bool (lookI m x).isSome] else (lookI m x).getD z) w := by
  obtain ⟨es, clock, hb, hs, hm⟩ := h
  unfold Instr.lookup
  rcases find_I es.toList m 0 x hm with ⟨h1, h2, _⟩ | ⟨j, e, v, h1, h2, _⟩
  · simp [run_underlying ht, Result.andThen, MapKept.run_getObj_map hb, MapKept.run_checkKey hk (isKey_int x), run_findKey hk h1, hz, h2]
  · simp [run_underlying ht, Result.andThen, MapKept.run_getObj_map hb, MapKept.run_checkKey hk (isKey_int x), run_findKey hk h1, h2]
theorem lookup_nilI (ht : P.underlying t = some (.map kt et)) (hk : P.underlying kt = some (MKey.desc κ)) {z : Value} (hz : (zeroValue et).run P w = .ok z w) (x : κ) (ok : Bool) :
    (Instr.lookup t (.map none) (MKey.val x) ok).run P w = .ok (if ok then .tuple #[z, .bool false] else z) w := by
  unfold Instr.lookup
  have h1 : Instr.findNow (MKey.desc κ) (MKey.val x) [] 0 = some none := rfl
  simp [run_underlying ht, Result.andThen, MapKept.run_checkKey hk (isKey_int x), run_findKey hk h1, hz]

theorem sameBits_int (x : κ) : Instr.sameBits 10000 (MKey.val x) (MKey.val x) = true := MKey.bits x
theorem run_keyThatStays (x : κ) : (Instr.keyThatStays (MKey.val x) (MKey.val x)).run P w = .ok (MKey.val x) w := by
  unfold Instr.keyThatStays
  rw [sameBits_int]
  rfl

/-- 'm[k] = v'. -/
theorem MapI.update (h : MapI w b m) (ht : P.underlying t = some (.map kt et)) (hk : P.underlying kt = some (MKey.desc κ)) (x : κ) (v : Value) :
    ∃ w', (Instr.mapUpdate t (.map (some b)) (MKey.val x) v).run P w = .ok () w' ∧ MapI w' b (putI m x v) ∧ w.grownBy w' (some b) := by
  obtain ⟨es, clock, hb, hs, hm⟩ := h
  have grow : ∀ o, w.grownBy { w with heap := w.heap.setIfInBounds b o } (some b) := fun o =>
    ⟨rfl, rfl, rfl, by simp, fun i _ hi => (heap_set (o' := o) hb).2 i (fun e => hi (by rw [e]))⟩
  unfold Instr.mapUpdate
  rcases find_I es.toList m 0 x hm with ⟨h1, h2, _, h4, h5⟩ | ⟨j, e, u, h1, h2, h3, h4, h5, _, h7⟩
  · refine ⟨{ w with heap := w.heap.setIfInBounds b (.map (es.push { key := MKey.val x, val := v, born := clock }) (clock + 1)) }, ?_, ⟨_, _, (heap_set hb).1, ?_, ?_⟩, grow _⟩
    · simp [run_underlying ht, Result.andThen, MapKept.run_getObj_map hb, MapKept.run_checkKey hk (isKey_int x), run_findKey hk h1, run_setObj_map _ hb]
    · obtain ⟨s1, s2, s3⟩ := hs
      refine ⟨?_, ?_, ?_⟩
      · intro y hy
        simp only [Array.toList_push, List.mem_append, List.mem_singleton] at hy
        rcases hy with hy | rfl
        · exact Nat.lt_succ_of_lt (s1 y hy)
        · exact Nat.lt_succ_self _
      · simp only [Array.toList_push, List.map_append, List.map_cons, List.map_nil]
        rw [List.nodup_append]
        refine ⟨s2, by simp, fun a ha c hc e => ?_⟩
        obtain ⟨y, hy, rfl⟩ := List.mem_map.1 ha
        simp only [List.mem_singleton] at hc
        have := s1 y hy
        omega
      · simp only [Array.toList_push, List.map_append, List.map_cons, List.map_nil]
        rw [List.nodup_append]
        refine ⟨s3, by simp, fun a ha c hc e => ?_⟩
        obtain ⟨y, hy, rfl⟩ := List.mem_map.1 ha
        simp only [List.mem_singleton] at hc
        exact h5 y hy (e.trans hc)
    · rw [h4]
      simp [hm, entI]
  · have hj : j < es.size := by
      have := (List.getElem?_eq_some_iff.1 h3).1
      simpa using this
    have hej : es[j]? = some e := by simpa using h3
    refine ⟨{ w with heap := w.heap.setIfInBounds b (.map (es.modify j fun e => { e with key := MKey.val x, val := v }) clock) }, ?_, ⟨_, _, (heap_set hb).1, ?_, ?_⟩, grow _⟩
    · simp [run_underlying ht, Result.andThen, MapKept.run_getObj_map hb, MapKept.run_checkKey hk (isKey_int x), run_findKey hk h1, hej, h4, run_keyThatStays, run_setObj_map _ hb]
    · obtain ⟨s1, s2, s3⟩ := hs
      have hl : (es.modify j fun e => { e with key := MKey.val x, val := v }).toList = es.toList.modify j fun e => { e with key := MKey.val x, val := v } := by simp
      have keys : ∀ (f : MapEntry → Value) (g : MapEntry → Nat) (l : List MapEntry) (j : Nat), (l[j]?.map (·.key) = some (MKey.val x)) → (l.modify j fun e => { e with key := MKey.val x, val := v }).map (·.key) = l.map (·.key) ∧ (l.modify j fun e => { e with key := MKey.val x, val := v }).map (·.born) = l.map (·.born) := by
        intro f g l
        induction l with
        | nil => intro j h; simp at h
        | cons y r ih =>
          intro j h
          rcases j with _ | j
          · simp at h ⊢; exact h.symm
          · simp at h ⊢
            exact ih j (by simpa using h)
      obtain ⟨k1, k2⟩ := keys (·.key) (·.born) es.toList j (by rw [h3]; simp [h4])
      refine ⟨?_, by rw [hl, k2]; exact s2, by rw [hl, k1]; exact s3⟩
      intro y hy
      rw [hl] at hy
      have : y.born ∈ (es.toList.modify j fun e => { e with key := MKey.val x, val := v }).map (·.born) := List.mem_map.2 ⟨y, hy, rfl⟩
      rw [k2] at this
      obtain ⟨z, hz, hzb⟩ := List.mem_map.1 this
      rw [← hzb]
      exact s1 z hz
    · have gen : ∀ (l : List MapEntry) (m : IMap κ) (j : Nat), l.map (fun e => (e.key, e.val)) = entI m → (l[j]?.map (·.key) = some (MKey.val x)) → (l.modify j fun e => { e with key := MKey.val x, val := v }).map (fun e => (e.key, e.val)) = entI (m.modify j fun p => (p.1, v)) := by
        intro l
        induction l with
        | nil => intro m j _ h; simp at h
        | cons y r ih =>
          intro m j hm h
          cases m with
          | nil => simp [entI] at hm
          | cons p q =>
            simp only [List.map_cons, entI, List.cons.injEq, Prod.mk.injEq] at hm
            rcases j with _ | j
            · simp at h
              simp [entI, hm.2, ← hm.1.1, h]
            · simp at h
              have := ih q j hm.2 (by simpa using h)
              simp [entI, hm.1] at this ⊢
              exact this
      rw [h7]
      have hl : (es.modify j fun e => { e with key := MKey.val x, val := v }).toList = es.toList.modify j fun e => { e with key := MKey.val x, val := v } := by simp
      rw [hl]
      exact gen _ _ _ hm (by rw [h3]; simp [h4])

/-- The walk's law at 'm[k] = v'. -/
theorem wpList_updateI {ops : Array Oper} {rest : List Oper} {o : Oper} {a : Act} {Q : Exit → Act → World → Prop}
    (hg : o.guard = none) (mo xo vo : Operand) (t : TypeId) (hop : o.op = Op.mapUpdate t mo xo vo) {kt et : TypeId} (ht : P.underlying t = some (.map kt et)) (hk : P.underlying kt = some (MKey.desc κ))
    (b : Nat) (m : IMap κ) (hm : a.eval mo = .map (some b)) (h : MapI w b m) (x : κ) (v : Value) (hx : a.eval xo = MKey.val x) (hv : a.eval vo = v)
    (hK : ∀ w', MapI w' b (putI m x v) → w.grownBy w' (some b) → wpList P ops Q rest (a.put o.dst undef) w') : wpList P ops Q (o :: rest) a w := by
  refine wpList_plain hg fun K' hK' => ?_
  obtain ⟨w', hrun, r1, r2⟩ := h.update ht hk x v
  unfold Oper.wp
  simp [execOp, hop, hm, hx, hv, hrun, Result.andThen]
  exact hK' _ _ (hK w' r1 r2)
/-- .. at an entry of a map's literal. -/
theorem wpList_insertI {ops : Array Oper} {rest : List Oper} {o : Oper} {a : Act} {Q : Exit → Act → World → Prop}
    (hg : o.guard = none) (mo xo vo : Operand) (t : TypeId) (hop : o.op = Op.insert t mo xo vo) {kt et : TypeId} (ht : P.underlying t = some (.map kt et)) (hk : P.underlying kt = some (MKey.desc κ))
    (b : Nat) (m : IMap κ) (hm : a.eval mo = .map (some b)) (h : MapI w b m) (x : κ) (v : Value) (hx : a.eval xo = MKey.val x) (hv : a.eval vo = v)
    (hK : ∀ w', MapI w' b (putI m x v) → w.grownBy w' (some b) → wpList P ops Q rest (a.put o.dst undef) w') : wpList P ops Q (o :: rest) a w := by
  refine wpList_plain hg fun K' hK' => ?_
  obtain ⟨w', hrun, r1, r2⟩ := h.update ht hk x v
  unfold Oper.wp
  simp [execOp, hop, hm, hx, hv, hrun, Result.andThen]
  exact hK' _ _ (hK w' r1 r2)
/-- The walk's law at 'm[k]', 'v, ok := m[k]'. -/
theorem wpList_lookupI {ops : Array Oper} {rest : List Oper} {o : Oper} {a : Act} {Q : Exit → Act → World → Prop}
    (hg : o.guard = none) (mo xo : Operand) (t : TypeId) (ok : Bool) (hop : o.op = Op.lookup t mo xo ok) {kt et : TypeId} (ht : P.underlying t = some (.map kt et)) (hk : P.underlying kt = some (MKey.desc κ))
    {z : Value} (hz : (zeroValue et).run P w = .ok z w) (b : Nat) (m : IMap κ) (hm : a.eval mo = .map (some b)) (h : MapI w b m) (x : κ) (hx : a.eval xo = MKey.val x)
    (hK : wpList P ops Q rest (a.put o.dst (if ok then .tuple #[(lookI m x).getD z, .bool (lookI m x).isSome] else (lookI m x).getD z)) w) : wpList P ops Q (o :: rest) a w := by
  refine wpList_plain hg fun K' hK' => ?_
  have hrun := h.lookup ht hk hz x ok
  unfold Oper.wp
  simp [execOp, hop, hm, hx, hrun, Result.andThen]
  exact hK' _ _ hK
end
end Go.Pst

/-
  Plain laws on memory, for any program: an element of an owned row read, written; a shorter slice of it.
-/
namespace Go.Pst
open Go.RowKit
set_option linter.unusedVariables false
set_option linter.unusedSimpArgs false
theorem rowGet {w : World} {base n sz : Nat} {e : TypeId} {v : Value} {xs : List Value} (h : w.ownsRow base e sz v n xs) {i : Nat} {u : Value} (hi : xs[i]? = some u) :
    ∃ g cap, v = .slice (some ⟨g, 0, none⟩) n cap ∧ v.ownBlock = some g ∧ base ≤ g ∧ g < w.heap.size ∧ w.cell? ⟨g, i, none⟩ = some u ∧ w.frozen? ⟨g, i, none⟩ = false := by
  rcases h.2 with ⟨rfl, rfl⟩ | ⟨g, cap, cur, rfl, hb, hg, h1, h2, h3, h4⟩
  · have := h.1
    simp at this
    subst this
    simp at hi
  · refine ⟨g, cap, rfl, rfl, hb, (Array.getElem?_eq_some_iff.1 hg).1, ?_, ?_⟩
    · rw [← h4, List.getElem?_take] at hi
      split at hi
      · simp [World.cell?, hg]; simpa using hi
      · simp at hi
    · simp [World.frozen?, hg]
theorem rowPut {w : World} {base n sz : Nat} {e : TypeId} {g cap : Nat} {xs : List Value} (h : w.ownsRow base e sz (.slice (some ⟨g, 0, none⟩) n cap) n xs) (i : Nat) (u : Value) :
    (w.setCell ⟨g, i, none⟩ u).ownsRow base e sz (.slice (some ⟨g, 0, none⟩) n cap) n (xs.set i u) := by
  refine ⟨by simpa using h.1, Or.inr ?_⟩
  rcases h.2 with ⟨h0, _⟩ | ⟨g', cap', cur, hv, hb, hg, h1, h2, h3, h4⟩
  · simp at h0
  · obtain ⟨rfl, rfl⟩ : g = g' ∧ cap = cap' := by simpa using hv
    refine ⟨g, cap, cur.setIfInBounds i u, rfl, hb, ?_, h1, h2, by simpa using h3, ?_⟩
    · simp only [World.setCell, Array.getElem?_modify, hg, Option.map_some]
      simp
    · rw [Array.toList_setIfInBounds, List.take_set, h4]
/-- A shorter slice of an owned row. -/
theorem rowShort {w : World} {base n m sz : Nat} {e : TypeId} {g cap : Nat} {xs : List Value} (h : w.ownsRow base e sz (.slice (some ⟨g, 0, none⟩) n cap) n xs) (hm : m ≤ n) :
    w.ownsRow base e sz (.slice (some ⟨g, 0, none⟩) m cap) m (xs.take (m * sz)) := by
  have hmul : m * sz ≤ n * sz := Nat.mul_le_mul_right _ hm
  refine ⟨by rw [List.length_take, h.1]; omega, Or.inr ?_⟩
  rcases h.2 with ⟨h0, _⟩ | ⟨g', cap', cur, hv, hb, hg, h1, h2, h3, h4⟩
  · simp at h0
  · obtain ⟨rfl, rfl⟩ : g = g' ∧ cap = cap' := by simpa using hv
    refine ⟨g, cap, cur, rfl, hb, hg, by omega, h2, h3, ?_⟩
    rw [← h4, List.take_take]
    congr 1
    omega
end Go.Pst

/-
  How long the rows in a tree are: what fits in memory.
-/
namespace Go.Pst
open Go.RowKit
set_option linter.unusedVariables false

def FitX : Nat → PExpr → Prop
  | 0, _ => False
  | d + 1, x => x.args.length * 56 ≤ reachBytes ∧ ∀ y ∈ x.args, FitX d y
theorem FitX_succ : ∀ (d : Nat) (x : PExpr), FitX d x → FitX (d + 1) x
  | 0, _, h => h.elim
  | d + 1, x, h => ⟨h.1, fun y hy => FitX_succ d y (h.2 y hy)⟩
theorem FitX_le {d d' : Nat} (h : d ≤ d') : ∀ (x : PExpr), FitX d x → FitX d' x := by
  induction h with
  | refl => intro x h; exact h
  | step _ ih => intro x h; exact FitX_succ _ _ (ih _ h)
/-- How many numbers the cases of a switch have. -/
def numsN : List (List Int × List PStmt) → Nat
  | [] => 0
  | c :: r => c.1.length + numsN r
def FitS : Nat → PStmt → Prop
  | 0, _ => False
  | d + 1, s => (s.exprs.length * 56 ≤ reachBytes ∧ ∀ y ∈ s.exprs, FitX d y) ∧ (s.body.length * 136 ≤ reachBytes ∧ ∀ y ∈ s.body, FitS d y) ∧ (s.els.length * 136 ≤ reachBytes ∧ ∀ y ∈ s.els, FitS d y) ∧
      (s.cases.length * 48 ≤ reachBytes ∧ ∀ c ∈ s.cases, c.1.length * 8 ≤ reachBytes ∧ c.2.length * 136 ≤ reachBytes ∧ ∀ y ∈ c.2, FitS d y) ∧ numsN s.cases ≤ 1048576
def FitC (d : Nat) (c : List Int × List PStmt) : Prop := c.1.length * 8 ≤ reachBytes ∧ c.2.length * 136 ≤ reachBytes ∧ ∀ y ∈ c.2, FitS d y
theorem FitS_succ : ∀ (d : Nat) (s : PStmt), FitS d s → FitS (d + 1) s
  | 0, _, h => h.elim
  | d + 1, s, ⟨⟨a1, a2⟩, ⟨b1, b2⟩, ⟨c1, c2⟩, ⟨d1, d2⟩, e1⟩ =>
    ⟨⟨a1, fun y hy => FitX_succ d y (a2 y hy)⟩, ⟨b1, fun y hy => FitS_succ d y (b2 y hy)⟩, ⟨c1, fun y hy => FitS_succ d y (c2 y hy)⟩, ⟨d1, fun c hc => ⟨(d2 c hc).1, (d2 c hc).2.1, fun y hy => FitS_succ d y ((d2 c hc).2.2 y hy)⟩⟩, e1⟩
theorem FitS_le {d d' : Nat} (h : d ≤ d') : ∀ (s : PStmt), FitS d s → FitS d' s := by
  induction h with
  | refl => intro x h; exact h
  | step _ ih => intro x h; exact FitS_succ _ _ (ih _ h)

section
variable {H : Type} {enc : TypeId × Value → H} {P : Program} {w : World}
variable {tint tstr tints texpr texprs tstmt tstmts tcase tcases : TypeId}
theorem opens_exprF (T : Types P tint tstr tints texpr texprs tstmt tstmts tcase tcases) : ∀ fuel, OpensN enc P w fuel texpr (rExpr fuel) (FitX fuel) := by
  intro fuel
  induction fuel using Nat.strongRecOn with
  | ind fuel ih =>
    intro cs x h hw
    have hc := T.cells
    have hb := T.bytes
    simp only [Prod.mk.injEq] at hc hb
    obtain ⟨c1, c2, c3, c4, c5, c6, c7, c8, c9⟩ := hc
    obtain ⟨b1, b2, b3, b4⟩ := hb
    obtain ⟨xs, n, rfl, rfl, hcl, hxl, hf⟩ := DataW.trod_struct T.expr h
    rw [c4] at hcl
    match cs, hcl with
    | [a0, a1, a2, a3], _ =>
    match xs, (show xs.length = 4 by simpa using hxl) with
    | [x0, x1, x2, x3], _ =>
    have f0 := hf 0 _ rfl
    have f1 := hf 1 _ rfl
    have f2 := hf 2 _ rfl
    have f3 := hf 3 _ rfl
    simp [c1, c2, c5] at f0 f1 f2 f3
    have hw' : ∀ n ∈ DataW.weightsEach P [tint, tint, tstr, texprs] [x0.1, x1.1, x2.1, x3.1], n ≤ reachBytes := by
      intro n hn
      refine hw n ?_
      simpa [DataW.weights, T.expr] using hn
    obtain ⟨y0, h0, _⟩ := opens_int (enc := enc) (w := w) T.int _ _ _ f0 (weights_part (j := 0) rfl rfl hw')
    obtain ⟨y1, h1, _⟩ := opens_int (enc := enc) (w := w) T.int _ _ _ f1 (weights_part (j := 1) rfl rfl hw')
    obtain ⟨y2, h2, _⟩ := opens_str (enc := enc) (w := w) T.str _ _ _ f2 (weights_part (j := 2) rfl rfl hw')
    obtain ⟨y3, h3, g3⟩ := opens_sliceN (enc := enc) (w := w) (R := rExpr n) (Bd := FitX n) T.exprs c4 b2 (by decide) (fun m hm => (ih m (by omega)).imp (rExpr_le (by omega)) (FitX_le (by omega))) _ _ f3 (weights_part (j := 3) rfl rfl hw')
    obtain ⟨e0, i0⟩ := h0
    obtain ⟨e1, i1⟩ := h1
    obtain ⟨e2, i2⟩ := h2
    simp only [List.cons.injEq, and_true] at e0 e1 e2
    subst e0 e1 e2
    exact ⟨.mk y0 y1 y2 y3, ⟨a3, rfl, ⟨i0, i1, i2⟩, h3⟩, g3⟩

end
end Go.Pst

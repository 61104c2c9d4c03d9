/-
  Texts joined: RdStm.
-/
import Derived.Test.YtkopjgnjflhkeaaDoorRI

/-
  Statements that are being read: their readings by any depth, the boxes of seven cells, what a part that reads a statement leaves.
-/
namespace Go.Pst
open Go.RowKit
set_option linter.unusedVariables false
def rS : Rep PStmt := fun S w cs x => ∃ d, rStmt d S w cs x
def rSs : Rep (List PStmt) := fun S w cs l => ∃ d, rSlice 7 (rStmt d) S w cs l
def rCs : Rep (List (List Int × List PStmt)) := fun S w cs l => ∃ d, rSlice 2 (rCase (rStmt d)) S w cs l
instance good_rS : Good rS := ⟨by
  rintro S S' w w' cs x hk hs ⟨d, h⟩
  exact ⟨d, Good.keep hk hs h⟩⟩
instance good_rSs : Good rSs := ⟨by
  rintro S S' w w' cs x hk hs ⟨d, h⟩
  exact ⟨d, Good.keep hk hs h⟩⟩
instance good_rCs : Good rCs := ⟨by
  rintro S S' w w' cs x hk hs ⟨d, h⟩
  exact ⟨d, Good.keep hk hs h⟩⟩
theorem rS_shape {S : Nat → Prop} {w : World} {cs : List Value} {x : PStmt} (h : rS S w cs x) : ∃ a3 c3 a4 c4 a5 c5 a6 c6, cs = [.int .i64 x.kind, .string x.s, .string x.t, .slice a3 x.exprs.length c3, .slice a4 x.body.length c4, .slice a5 x.els.length c5, .slice a6 x.cases.length c6] := by
  obtain ⟨d, h⟩ := h
  cases d with
  | zero => exact h.elim
  | succ d =>
    obtain ⟨v3, v4, v5, v6, rfl, _, h3, h4, h5, h6⟩ := h
    obtain ⟨a3, c3, rfl⟩ := rSlice_shape h3
    obtain ⟨a4, c4, rfl⟩ := rSlice_shape h4
    obtain ⟨a5, c5, rfl⟩ := rSlice_shape h5
    obtain ⟨a6, c6, rfl⟩ := rSlice_shape h6
    exact ⟨a3, c3, a4, c4, a5, c5, a6, c6, rfl⟩
theorem rXs_nil (S : Nat → Prop) (w : World) : rXs S w [.slice none 0 0] [] := ⟨0, rSlice_nil _ _ _ _⟩
theorem rSs_nil (S : Nat → Prop) (w : World) : rSs S w [.slice none 0 0] [] := ⟨0, rSlice_nil _ _ _ _⟩
theorem rCs_nil (S : Nat → Prop) (w : World) : rCs S w [.slice none 0 0] [] := ⟨0, rSlice_nil _ _ _ _⟩
theorem rXs_shape {S : Nat → Prop} {w : World} {v : Value} {l : List PExpr} (h : rXs S w [v] l) : ∃ a c, v = .slice a l.length c := by
  obtain ⟨d, h⟩ := h
  exact rSlice_shape h
theorem rSs_shape {S : Nat → Prop} {w : World} {v : Value} {l : List PStmt} (h : rSs S w [v] l) : ∃ a c, v = .slice a l.length c := by
  obtain ⟨d, h⟩ := h
  exact rSlice_shape h
theorem rCs_shape {S : Nat → Prop} {w : World} {v : Value} {l : List (List Int × List PStmt)} (h : rCs S w [v] l) : ∃ a c, v = .slice a l.length c := by
  obtain ⟨d, h⟩ := h
  exact rSlice_shape h
theorem rS_mk {S : Nat → Prop} {w : World} {v3 v4 v5 v6 : Value} {xs : List PExpr} {b e : List PStmt} {cs : List (List Int × List PStmt)} (k : Int) (s t : ByteArray) (hk : InI k) (hs : s.size ≤ maxLen) (ht : t.size ≤ maxLen)
    (h3 : rXs S w [v3] xs) (h4 : rSs S w [v4] b) (h5 : rSs S w [v5] e) (h6 : rCs S w [v6] cs) : rS S w [.int .i64 k, .string s, .string t, v3, v4, v5, v6] (.mk k s t xs b e cs) := by
  obtain ⟨d3, h3⟩ := h3
  obtain ⟨d4, h4⟩ := h4
  obtain ⟨d5, h5⟩ := h5
  obtain ⟨d6, h6⟩ := h6
  exact ⟨max (max d3 d4) (max d5 d6) + 1, v3, v4, v5, v6, rfl, ⟨hk, hs, ht⟩, rSlice_imp (rExpr_le (by omega)) h3, rSlice_imp (rStmt_le (by omega)) h4, rSlice_imp (rStmt_le (by omega)) h5, rSlice_imp (rCase_imp (rStmt_le (by omega))) h6⟩
theorem monoS : MonoR rStmt := fun h => rStmt_le h
def rCaseD (d : Nat) : Rep (List Int × List PStmt) := rCase (rStmt d)
instance good_rCaseD (d : Nat) : Good (rCaseD d) := good_case _
theorem monoC : MonoR rCaseD := fun h => rCase_imp (rStmt_le h)
/-- A list of one expression, in a block of its own. -/
theorem rXs_one {S : Nat → Prop} {w : World} {b c : Nat} {cs : List Value} {x : PExpr} {T : TypeId} (hx : rX S w cs x) (hb : w.heap[b]? = some (.cells cs.toArray T (0, 0))) (hS : S b) (hc : 1 ≤ c) (hc' : c ≤ maxLen) : rXs S w [.slice (some ⟨b, 0, none⟩) 1 c] [x] := by
  obtain ⟨a3, c3, rfl⟩ := rX_shape hx
  obtain ⟨d, h⟩ := hx
  refine ⟨d, _, _, rfl, hc, hc', fun i hi => ?_⟩
  obtain rfl : i = 0 := by simpa using hi
  refine ⟨b, 0, _, rfl, hS, (Array.getElem?_eq_some_iff.1 hb).1, rfl, fun j hj => ?_, h⟩
  have : w.cell? ⟨b, 0 + 0 * 4 + j, none⟩ = [Value.int .i64 x.kind, .int .i64 x.n, .string x.s, .slice a3 x.args.length c3][j]? := by simp [World.cell?, hb]
  exact this
/-- A list of two. -/
theorem rXs_two {S : Nat → Prop} {w : World} {b c : Nat} {cs cs' : List Value} {x y : PExpr} {T : TypeId} (hx : rX S w cs x) (hy : rX S w cs' y) (hb : w.heap[b]? = some (.cells (cs ++ cs').toArray T (0, 0))) (hS : S b) (hc : 2 ≤ c) (hc' : c ≤ maxLen) : rXs S w [.slice (some ⟨b, 0, none⟩) 2 c] [x, y] := by
  obtain ⟨a3, c3, rfl⟩ := rX_shape hx
  obtain ⟨a4, c4, rfl⟩ := rX_shape hy
  obtain ⟨d, h⟩ := hx
  obtain ⟨d', h'⟩ := hy
  refine ⟨max d d', _, _, rfl, hc, hc', fun i hi => ?_⟩
  have hlt := (Array.getElem?_eq_some_iff.1 hb).1
  match i, hi with
  | 0, hi =>
    refine ⟨b, 0, _, rfl, hS, hlt, rfl, fun j hj => ?_, rExpr_le (by omega) _ _ h⟩
    have : w.cell? ⟨b, 0 + 0 * 4 + j, none⟩ = ([Value.int .i64 x.kind, .int .i64 x.n, .string x.s, .slice a3 x.args.length c3] ++ [Value.int .i64 y.kind, .int .i64 y.n, .string y.s, .slice a4 y.args.length c4])[j]? := by simp [World.cell?, hb]
    rw [this, List.getElem?_append_left (by simpa using hj)]
  | 1, hi =>
    refine ⟨b, 0, _, rfl, hS, hlt, rfl, fun j hj => ?_, rExpr_le (by omega) _ _ h'⟩
    have : w.cell? ⟨b, 0 + 1 * 4 + j, none⟩ = ([Value.int .i64 x.kind, .int .i64 x.n, .string x.s, .slice a3 x.args.length c3] ++ [Value.int .i64 y.kind, .int .i64 y.n, .string y.s, .slice a4 y.args.length c4])[4 + j]? := by simp [World.cell?, hb]
    rw [this, List.getElem?_append_right (by simp)]
    simp
/-- A list of one statement. -/
theorem rSs_one {S : Nat → Prop} {w : World} {b c : Nat} {cs : List Value} {x : PStmt} {T : TypeId} (hx : rS S w cs x) (hb : w.heap[b]? = some (.cells cs.toArray T (0, 0))) (hS : S b) (hc : 1 ≤ c) (hc' : c ≤ maxLen) : rSs S w [.slice (some ⟨b, 0, none⟩) 1 c] [x] := by
  obtain ⟨a3, c3, a4, c4, a5, c5, a6, c6, rfl⟩ := rS_shape hx
  obtain ⟨d, h⟩ := hx
  refine ⟨d, _, _, rfl, hc, hc', fun i hi => ?_⟩
  obtain rfl : i = 0 := by simpa using hi
  refine ⟨b, 0, _, rfl, hS, (Array.getElem?_eq_some_iff.1 hb).1, rfl, fun j hj => ?_, h⟩
  have : w.cell? ⟨b, 0 + 0 * 7 + j, none⟩ = [Value.int .i64 x.kind, .string x.s, .string x.t, .slice a3 x.exprs.length c3, .slice a4 x.body.length c4, .slice a5 x.els.length c5, .slice a6 x.cases.length c6][j]? := by simp [World.cell?, hb]
  exact this
section
variable {α β : Type} {T : List Tok} {dep : Int} {st st1 : RSt}
theorem Good'.next {Res : Except (Int × Int) (β × List Tok)} {p : PR α} {q : α → PR β} {x : α} (h : Good' T dep (runR T p st) x st1) (e : Res = runR T (PR.bind p q) st) : Res = runR T (q x) st1 := e.trans h.bind
theorem Good'.yes {Res : Except (Int × Int) (α × List Tok)} {s : ByteArray} {p q : PR α} (h : Good' T dep (runR T (isR s) st) true st1) (e : Res = runR T (branchR s p q) st) : Res = runR T p st1 := e.trans h.bind
theorem Good'.no {Res : Except (Int × Int) (α × List Tok)} {s : ByteArray} {p q : PR α} (h : Good' T dep (runR T (isR s) st) false st1) (e : Res = runR T (branchR s p q) st) : Res = runR T q st1 := e.trans h.bind
theorem Good'.end {Res : Except (Int × Int) (α × List Tok)} {x : α} (e : Res = runR T (PR.ret x) st) (hd : st.fault = 0 → st.depth = dep) : Good' T dep Res x st := e ▸ Good'.ret x hd
/-- At a fault nothing is asked of the answer. -/
theorem Good'.fail {Res : Except (Int × Int) (α × List Tok)} {p : PR α} (x : α) (e : Res = runR T p st) (h : st.fault ≠ 0) : Good' T dep Res x st := by
  rw [e, runR_bad h]
  exact ⟨rfl, rfl, h⟩
end
/-- A cell of a box is written. -/
theorem box_set {w : World} {b : Nat} {xs : Array Value} {T : TypeId} (h : w.heap[b]? = some (.cells xs T (0, 0))) (j : Nat) (u : Value) (hj : j < xs.size) : (w.setCell ⟨b, j, none⟩ u).heap[b]? = some (.cells (xs.set j u) T (0, 0)) := by
  simp [World.setCell, h, Array.getElem?_modify, Array.setIfInBounds, hj]
/-- Seven cells of a box are written. -/
theorem cells7 {w : World} {b : Nat} {T : TypeId} {c0 c1 c2 c3 c4 c5 c6 : Value} (h : w.heap[b]? = some (.cells #[c0, c1, c2, c3, c4, c5, c6] T (0, 0))) (u0 u1 u2 u3 u4 u5 u6 : Value) :
    (((((((w.setCell ⟨b, 0, none⟩ u0).setCell ⟨b, 1, none⟩ u1).setCell ⟨b, 2, none⟩ u2).setCell ⟨b, 3, none⟩ u3).setCell ⟨b, 4, none⟩ u4).setCell ⟨b, 5, none⟩ u5).setCell ⟨b, 6, none⟩ u6).heap[b]? = some (.cells #[u0, u1, u2, u3, u4, u5, u6] T (0, 0)) ∧
    Since (fun k => k = b) w (((((((w.setCell ⟨b, 0, none⟩ u0).setCell ⟨b, 1, none⟩ u1).setCell ⟨b, 2, none⟩ u2).setCell ⟨b, 3, none⟩ u3).setCell ⟨b, 4, none⟩ u4).setCell ⟨b, 5, none⟩ u5).setCell ⟨b, 6, none⟩ u6) := by
  have st : ∀ (w' : World) (i : Nat) (u : Value), Since (fun k => k = b) w w' → Since (fun k => k = b) w (w'.setCell ⟨b, i, none⟩ u) := fun w' i u h => h.trans (Since.setCell w' ⟨b, i, none⟩ u)
  refine ⟨?_, st _ _ _ (st _ _ _ (st _ _ _ (st _ _ _ (st _ _ _ (st _ _ _ (st _ _ _ (Since.refl _ _)))))))⟩
  have h0 := box_set h 0 u0 (by simp)
  have h1 := box_set h0 1 u1 (by simp)
  have h2 := box_set h1 2 u2 (by simp)
  have h3 := box_set h2 3 u3 (by simp)
  have h4 := box_set h3 4 u4 (by simp)
  have h5 := box_set h4 5 u5 (by simp)
  exact box_set h5 6 u6 (by simp)
theorem box4 {w : World} {b : Nat} {T : TypeId} {c0 c1 c2 c3 : Value} (h : w.heap[b]? = some (.cells #[c0, c1, c2, c3] T (0, 0))) (u0 u1 u2 u3 : Value) :
    ((((w.setCell ⟨b, 0, none⟩ u0).setCell ⟨b, 1, none⟩ u1).setCell ⟨b, 2, none⟩ u2).setCell ⟨b, 3, none⟩ u3).heap[b]? = some (.cells #[u0, u1, u2, u3] T (0, 0)) ∧
    Since (fun k => k = b) w ((((w.setCell ⟨b, 0, none⟩ u0).setCell ⟨b, 1, none⟩ u1).setCell ⟨b, 2, none⟩ u2).setCell ⟨b, 3, none⟩ u3) := by
  have st : ∀ (w' : World) (i : Nat) (u : Value), Since (fun k => k = b) w w' → Since (fun k => k = b) w (w'.setCell ⟨b, i, none⟩ u) := fun w' i u h => h.trans (Since.setCell w' ⟨b, i, none⟩ u)
  refine ⟨?_, st _ _ _ (st _ _ _ (st _ _ _ (st _ _ _ (Since.refl _ _))))⟩
  have h0 := box_set h 0 u0 (by simp)
  have h1 := box_set h0 1 u1 (by simp)
  have h2 := box_set h1 2 u2 (by simp)
  exact box_set h2 3 u3 (by simp)
end Go.Pst
namespace Go.Proofs.YtkopjgnjflhkeaaDoor
open Go.RowKit Go.Pst
set_option linter.unusedVariables false
set_option linter.unusedSimpArgs false
/-- What a part of the parser that answers a statement leaves. -/
def RdS (w : World) (br bT cap : Nat) (T : List Tok) (dep : Int) (res : Except (Int × Int) (PStmt × List Tok)) (en : Ending) (w' : World) : Prop :=
  ∃ cs x st', en = .returned (.agg cs.toArray) ∧ rS (fun k => w.heap.size ≤ k) w' cs x ∧ RdAt w' br bT cap T st' ∧ Since (fun k => k = br) w w' ∧ Good' T dep res x st'
def RdSs (w : World) (br bT cap : Nat) (T : List Tok) (dep : Int) (res : Except (Int × Int) (List PStmt × List Tok)) (en : Ending) (w' : World) : Prop :=
  ∃ v l st', en = .returned v ∧ rSs (fun k => w.heap.size ≤ k) w' [v] l ∧ RdAt w' br bT cap T st' ∧ Since (fun k => k = br) w w' ∧ Good' T dep res l st'
/-- block with d levels left answers as blockR says. -/
def BlockOK (d : Nat) : Prop := ∀ (w : World) (br bT cap base : Nat) (T : List Tok) (st : RSt), RdAt w br bT cap T st → RdLaid w base br → (st.fault = 0 → st.depth = 30 - (d : Int)) →
  Calls Tryd.prog 28 #[.pointer (some ⟨br, 0, none⟩)] w (RdSs w br bT cap T (30 - (d : Int)) (runR T (blockR d) st))
def StmtOK (d : Nat) : Prop := ∀ (w : World) (br bT cap base : Nat) (T : List Tok) (st : RSt), RdAt w br bT cap T st → RdLaid w base br → st.fault = 0 → st.depth = 30 - (d : Int) →
  Calls Tryd.prog 49 #[.pointer (some ⟨br, 0, none⟩)] w (RdS w br bT cap T (30 - (d : Int)) (stmtR d (T.drop st.i)))
def IfOK (d : Nat) : Prop := ∀ (w : World) (br bT cap base : Nat) (T : List Tok) (st : RSt), RdAt w br bT cap T st → RdLaid w base br → st.fault = 0 → st.depth = 30 - (d : Int) →
  Calls Tryd.prog 61 #[.pointer (some ⟨br, 0, none⟩)] w (RdS w br bT cap T (30 - (d : Int)) (ifG (exprR d) (blockR d) (elifR d) (T.drop st.i)))
theorem infoS : (Tryd.prog.info? 32).map (fun i => (i.zero, i.size, i.bytes)) = some (some (.agg #[.int .i64 0, .string ByteArray.empty, .string ByteArray.empty, .slice none 0 0, .slice none 0 0, .slice none 0 0, .slice none 0 0]), 7, 136) := by kernel_rfl
end Go.Proofs.YtkopjgnjflhkeaaDoor

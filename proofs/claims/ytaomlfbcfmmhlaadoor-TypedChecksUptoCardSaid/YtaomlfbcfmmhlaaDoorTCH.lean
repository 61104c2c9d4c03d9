/-
  Texts joined: TreeBulk TyTables.
-/
import Derived.Test.YtaomlfbcfmmhlaaDoorRows
import Derived.Test.YtaomlfbcfmmhlaaDoorTCB
import Derived.Test.YtaomlfbcfmmhlaaDoorTCD
import Derived.Test.YtaomlfbcfmmhlaaDoorTCZI
import Derived.Test.YtaomlfbcfmmhlaaDoorTCP
import Derived.Lib.LaidTab
import Derived.ProofKit
import Derived.LaidMore
import Derived.OpenShut
import Derived.Stop.Joined
import Derived.Stop.LaidErr

/-
  Statements and functions read out of a statement's data of bounded bulk: rows are short.
-/
namespace Go.Proofs.YtaomlfbcfmmhlaaDoor
open Go.RowKit Go.Pst
set_option linter.unusedVariables false
set_option linter.unusedSimpArgs false

theorem bulk_pos {H : Type} (d : DataW H) : 1 ≤ Rows.uptoBulk d := by
  cases d with
  | lit l => cases l <;> simp [Rows.uptoBulk]
  | nil => simp [Rows.uptoBulk]
  | ptr d => simp [Rows.uptoBulk]
  | slice elems spare => simp [Rows.uptoBulk]
  | agg parts => simp [Rows.uptoBulk]
  | iface t d => simp [Rows.uptoBulk]
  | map entries => simp [Rows.uptoBulk]
  | held h => simp [Rows.uptoBulk]
theorem bulk_part {H : Type} {d : DataW H} {l : List (DataW H)} (h : d ∈ l) : Rows.uptoBulk d ≤ Rows.uptoBulkAll l := by
  induction l with
  | nil => cases h
  | cons x r ih =>
    simp only [Rows.uptoBulkAll]
    cases List.mem_cons.1 h with
    | inl e => subst e; omega
    | inr e => have := ih e; omega
theorem bulk_sum {H α : Type} (M : α → Nat) : ∀ (l : List α) (es : List (DataW H)), l.length = es.length → (∀ i (h : i < l.length) (h' : i < es.length), M l[i] + 1 ≤ Rows.uptoBulk es[i]) → (l.map fun y => M y + 1).sum ≤ Rows.uptoBulkAll es
  | [], es, _, _ => by simp
  | y :: l, [], h, _ => by simp at h
  | y :: l, e :: es, h, hi => by
    have h0 := hi 0 (by simp) (by simp)
    have h1 := bulk_sum M l es (by simpa using h) (fun i h1 h2 => hi (i + 1) (by simpa using h1) (by simpa using h2))
    simp only [List.map_cons, List.sum_cons, Rows.uptoBulkAll]
    simp only [List.getElem_cons_zero] at h0
    omega
theorem sum_len {α : Type} (M : α → Nat) : ∀ l : List α, l.length ≤ (l.map fun y => M y + 1).sum
  | [] => by simp
  | y :: l => by have := sum_len M l; simp only [List.map_cons, List.sum_cons, List.length_cons]; omega
theorem sum_nums : ∀ l : List (List Int × List PStmt), numsN l ≤ (l.map fun c => c.1.length + 1).sum
  | [] => by simp [numsN]
  | c :: l => by have := sum_nums l; simp only [List.map_cons, List.sum_cons, numsN]; omega

section
variable {H : Type} {enc : TypeId × Value → H} {P : Program} {w : World}
def OpensB (enc : TypeId × Value → H) (P : Program) (w : World) (fuel : Nat) (t : TypeId) {α : Type} (R : Rep α) (Bd : α → Prop) (M : α → Nat) : Prop :=
  ∀ (cs : List Value) (x : DataW H × List MemPlace), DataW.trod enc P w 0 (fun _ => true) true fuel t cs = some x → (∀ n ∈ x.1.weights P t, n ≤ reachBytes) → Rows.uptoBulk x.1 ≤ 1048576 →
    ∃ y, R (fun _ => True) w cs y ∧ Bd y ∧ M y + 1 ≤ Rows.uptoBulk x.1
theorem opensB_of {fuel : Nat} {t : TypeId} {α : Type} {R : Rep α} {Bd : α → Prop} (h : OpensN enc P w fuel t R Bd) : OpensB enc P w fuel t R Bd (fun _ => 0) := by
  intro cs x h1 h2 h3
  obtain ⟨y, h4, h5⟩ := h cs x h1 h2
  exact ⟨y, h4, h5, by have := bulk_pos x.1; omega⟩
theorem OpensB.imp {fuel : Nat} {t : TypeId} {α : Type} {R R' : Rep α} {Bd Bd' : α → Prop} {M M' : α → Nat} (h : OpensB enc P w fuel t R Bd M) (hR : ∀ cs x, R (fun _ => True) w cs x → R' (fun _ => True) w cs x) (hB : ∀ x, Bd x → Bd' x) (hM : ∀ x, M' x ≤ M x) : OpensB enc P w fuel t R' Bd' M' := by
  intro cs x h1 h2 h3
  obtain ⟨y, h4, h5, h6⟩ := h cs x h1 h2 h3
  exact ⟨y, hR _ _ h4, hB _ h5, by have := hM y; omega⟩

theorem opensB_slice {t e : TypeId} {sz bytes fuel : Nat} {α : Type} {R : Rep α} {Bd : α → Prop} {M : α → Nat} (ht : P.underlying t = some (.slice e)) (hsz : P.cellsOf e = sz) (hby : P.bytesOf e = bytes) (hpos : 0 < sz)
    (he : ∀ n, fuel = n + 1 → OpensB enc P w n e R Bd M) : OpensB enc P w fuel t (rSlice sz R) (fun l => (l.length * bytes ≤ reachBytes ∧ ∀ x ∈ l, Bd x) ∧ (l.map fun y => M y + 1).sum ≤ 1048576) (fun l => (l.map fun y => M y + 1).sum) := by
  intro cs x h hw hbk
  rcases DataW.trod_slice ht h with ⟨rfl, rfl⟩ | ⟨a, len, cap, elems, rest, n, hfuel, rfl, rfl, _, hl, hm, hlen, hel, _, _⟩
  · exact ⟨[], rSlice_nil _ _ _ _, by simp, by simp [Rows.uptoBulk]⟩
  · have hmem : ∀ y ∈ elems, ∀ k ∈ y.1.weights P e, k ≤ reachBytes := by
      intro y hy k hk
      refine hw k ?_
      simp only [DataW.weights, ht, List.mem_cons, List.mem_append]
      exact Or.inr (Or.inl (weightsAll_mem (List.mem_map.2 ⟨y, hy, rfl⟩) k hk))
    have hbu : ∀ y ∈ elems, Rows.uptoBulk y.1 ≤ 1048576 := by
      intro y hy
      have h1 : Rows.uptoBulk y.1 ≤ Rows.uptoBulkAll (elems.map (·.1)) := bulk_part (List.mem_map.2 ⟨y, hy, rfl⟩)
      simp only [Rows.uptoBulk] at hbk
      omega
    have hex : ∀ i, i < len → ∃ y, ((∃ cs', w.cells? 0 (a.add (i * P.cellsOf e)) (P.cellsOf e) = some cs' ∧ R (fun _ => True) w cs' y) ∧ Bd y) ∧ ∀ (hi : i < elems.length), M y + 1 ≤ Rows.uptoBulk elems[i].1 := by
      intro i hi
      have h1 := hel i hi
      rw [List.getElem?_eq_getElem (by omega)] at h1
      obtain ⟨cs', h2, h3⟩ := Option.bind_eq_some_iff.1 h1
      obtain ⟨y, hy, hb, hM⟩ := he n hfuel cs' _ h3 (hmem _ (List.getElem_mem _)) (hbu _ (List.getElem_mem _))
      exact ⟨y, ⟨⟨cs', h2, hy⟩, hb⟩, fun _ => hM⟩
    obtain ⟨l, hll, hl2⟩ := list_of_lt hex
    have hsum : (l.map fun y => M y + 1).sum ≤ Rows.uptoBulkAll (elems.map (·.1)) := by
      refine bulk_sum M l _ (by simp [hll, hlen]) fun i h1 h2 => ?_
      have := (hl2 i h1).2 (by simpa using h2)
      simpa using this
    have hsum2 : (l.map fun y => M y + 1).sum + 1 ≤ Rows.uptoBulk (.slice (elems.map (·.1)) (rest.map (·.1)) : DataW H) := by
      simp only [Rows.uptoBulk]
      omega
    have hbk2 : Rows.uptoBulk (.slice (elems.map (·.1)) (rest.map (·.1)) : DataW H) ≤ 1048576 := hbk
    refine ⟨l, ⟨some a, cap, by rw [hll], by omega, hm, fun i hi => ?_⟩, ⟨⟨?_, fun y hy => ?_⟩, by show (l.map fun y => M y + 1).sum ≤ 1048576; omega⟩, hsum2⟩
    · obtain ⟨⟨⟨cs', h1, h2⟩, _⟩, _⟩ := hl2 i hi
      obtain ⟨_, hcl, hcell⟩ := World.cells?_some h1
      obtain ⟨b, off, spot⟩ := a
      have hspot : spot = none := by
        obtain ⟨⟨⟨cs0, h10, _⟩, _⟩, _⟩ := hl2 0 (by omega)
        obtain ⟨_, hlen0, hcell0⟩ := World.cells?_some h10
        have h00 := hcell0 0 (by omega)
        rw [List.getElem?_eq_getElem (by omega)] at h00
        simpa [Addr.add] using World.cell?_spot h00
      subst hspot
      have hadd : ∀ k, (⟨b, off, none⟩ : Addr).add k = ⟨b, off + k, none⟩ := by intro k; unfold Addr.add; split <;> simp_all
      have hblk : b < w.heap.size := by
        have h0 := hcell 0 (by omega)
        rw [List.getElem?_eq_getElem (by omega), hadd, Addr.add] at h0
        simpa using World.block_lt_of_cell? w _ h0
      refine ⟨b, off, cs', rfl, trivial, hblk, by omega, fun j hj => ?_, h2⟩
      have := hcell j (by omega)
      rw [hadd, hsz] at this
      rw [← this]
      unfold Addr.add
      split <;> simp_all
    · rw [hll]
      have := hw (((elems.map (·.1)).length + (rest.map (·.1)).length) * P.bytesOf e) (by simp [DataW.weights, ht])
      simp only [List.length_map, hby, hlen] at this
      exact Nat.le_trans (Nat.mul_le_mul_right _ (Nat.le_add_right _ _)) this
    · obtain ⟨i, hi, rfl⟩ := List.mem_iff_getElem.1 hy
      exact (hl2 i hi).1.2

/-- What a statement read at a fuel is bound by. -/
def BdS (d : Nat) (s : PStmt) : Prop := FitS d s ∧ SmallS d s
theorem smallS_succ : ∀ (d : Nat) (s : PStmt), FitS d s → SmallS d s → SmallS (d + 1) s
  | 0, _, h, _ => h.elim
  | d + 1, s, ⟨_, ⟨_, b2⟩, ⟨_, c2⟩, ⟨_, d2⟩, _⟩, ⟨⟨p1, p2⟩, ⟨q1, q2⟩, r⟩ =>
    ⟨⟨p1, fun y hy => smallS_succ d y (b2 y hy) (p2 y hy)⟩, ⟨q1, fun y hy => smallS_succ d y (c2 y hy) (q2 y hy)⟩, fun c hc => ⟨(r c hc).1, fun y hy => smallS_succ d y ((d2 c hc).2.2 y hy) ((r c hc).2 y hy)⟩⟩
theorem BdS_succ (d : Nat) (s : PStmt) (h : BdS d s) : BdS (d + 1) s := ⟨FitS_succ d s h.1, smallS_succ d s h.1 h.2⟩
theorem BdS_le {d d' : Nat} (h : d ≤ d') : ∀ (s : PStmt), BdS d s → BdS d' s := by
  induction h with
  | refl => intro x h; exact h
  | step _ ih => intro x h; exact BdS_succ _ _ (ih _ h)

variable {tint tstr tints texpr texprs tstmt tstmts tcase tcases : TypeId}
theorem opensB_stmt (T : Types P tint tstr tints texpr texprs tstmt tstmts tcase tcases) : ∀ fuel, OpensB enc P w fuel tstmt (rStmt fuel) (BdS fuel) (fun _ => 0) := by
  intro fuel
  induction fuel using Nat.strongRecOn with
  | ind fuel ih =>
    intro cs x h hw hbk
    have hc := T.cells
    have hb := T.bytes
    simp only [Prod.mk.injEq] at hc hb
    obtain ⟨c1, c2, c3, c4, c5, c6, c7, c8, c9⟩ := hc
    obtain ⟨b1, b2, b3, b4⟩ := hb
    obtain ⟨xs, n, rfl, rfl, hcl, hxl, hf⟩ := DataW.trod_struct T.stmt h
    rw [c6] at hcl
    match cs, hcl with
    | [a0, a1, a2, a3, a4, a5, a6], _ =>
    match xs, (show xs.length = 7 by simpa using hxl) with
    | [x0, x1, x2, x3, x4, x5, x6], _ =>
    have f0 := hf 0 _ rfl
    have f1 := hf 1 _ rfl
    have f2 := hf 2 _ rfl
    have f3 := hf 3 _ rfl
    have f4 := hf 4 _ rfl
    have f5 := hf 5 _ rfl
    have f6 := hf 6 _ rfl
    simp [c1, c2, c5, c7, c9] at f0 f1 f2 f3 f4 f5 f6
    have hw' : ∀ n ∈ DataW.weightsEach P [tint, tstr, tstr, texprs, tstmts, tstmts, tcases] [x0.1, x1.1, x2.1, x3.1, x4.1, x5.1, x6.1], n ≤ reachBytes := by
      intro n hn
      refine hw n ?_
      simpa [DataW.weights, T.stmt] using hn
    have hbs := hbk
    simp only [Rows.uptoBulk, Rows.uptoBulkAll, List.map_cons, List.map_nil] at hbs
    obtain ⟨y0, h0, _⟩ := opens_int (enc := enc) (w := w) T.int _ _ _ f0 (weights_part (j := 0) rfl rfl hw')
    obtain ⟨y1, h1, _⟩ := opens_str (enc := enc) (w := w) T.str _ _ _ f1 (weights_part (j := 1) rfl rfl hw')
    obtain ⟨y2, h2, _⟩ := opens_str (enc := enc) (w := w) T.str _ _ _ f2 (weights_part (j := 2) rfl rfl hw')
    obtain ⟨y3, h3, g3⟩ := opens_sliceN (enc := enc) (w := w) (R := rExpr n) (Bd := FitX n) T.exprs c4 b2 (by decide) (fun m hm => (opens_exprF T m).imp (rExpr_le (by omega)) (FitX_le (by omega))) _ _ f3 (weights_part (j := 3) rfl rfl hw')
    have hst : ∀ m, m ≤ n → OpensB enc P w m tstmts (rSlice 7 (rStmt n)) (fun l => (l.length * 136 ≤ reachBytes ∧ ∀ y ∈ l, BdS n y) ∧ (l.map fun _ => 0 + 1).sum ≤ 1048576) (fun l => (l.map fun _ => 0 + 1).sum) := fun m hm =>
      opensB_slice (R := rStmt n) (Bd := BdS n) (M := fun _ => 0) T.stmts c6 b3 (by decide) (fun k hk => (ih k (by omega)).imp (rStmt_le (by omega)) (BdS_le (by omega)) (fun _ => Nat.le_refl _))
    obtain ⟨y4, h4, g4, _⟩ := hst n (Nat.le_refl _) _ _ f4 (weights_part (j := 4) rfl rfl hw') (by omega)
    obtain ⟨y5, h5, g5, _⟩ := hst n (Nat.le_refl _) _ _ f5 (weights_part (j := 5) rfl rfl hw') (by omega)
    have hcase : ∀ m, m ≤ n → OpensB enc P w m tcase (rCase (rStmt n)) (fun c => c.1.length * 8 ≤ reachBytes ∧ (c.2.length * 136 ≤ reachBytes ∧ ∀ y ∈ c.2, BdS n y) ∧ c.2.length ≤ 1048576) (fun c => c.1.length) := by
      intro m hm cs x h hw hbk
      obtain ⟨xs, m', rfl, rfl, hcl, hxl, hf⟩ := DataW.trod_struct T.cas h
      rw [c8] at hcl
      match cs, hcl with
      | [a0, a1], _ =>
      match xs, (show xs.length = 2 by simpa using hxl) with
      | [x0, x1], _ =>
      have f0 := hf 0 _ rfl
      have f1 := hf 1 _ rfl
      simp [c3, c7] at f0 f1
      have hw' : ∀ n ∈ DataW.weightsEach P [tints, tstmts] [x0.1, x1.1], n ≤ reachBytes := by
        intro n hn
        refine hw n ?_
        simpa [DataW.weights, T.cas] using hn
      simp only [Rows.uptoBulk, Rows.uptoBulkAll, List.map_cons, List.map_nil] at hbk ⊢
      obtain ⟨y0, h0, g0, m0⟩ := opensB_slice (enc := enc) (w := w) (R := rInt) (Bd := fun _ => True) (M := fun _ => 0) T.ints c1 b1 (by decide) (fun k _ => opensB_of (opens_int T.int k)) _ _ f0 (weights_part (j := 0) rfl rfl hw') (by omega)
      obtain ⟨y1, h1, g1, _⟩ := hst m' (by omega) _ _ f1 (weights_part (j := 1) rfl rfl hw') (by omega)
      have l0 := sum_len (fun _ => 0) y0
      have m0' : (y0.map fun _ => 0 + 1).sum + 1 ≤ Rows.uptoBulk x0.1 := m0
      have l1 := sum_len (fun _ => 0) y1
      exact ⟨(y0, y1), ⟨a0, a1, rfl, h0, h1⟩, ⟨g0.1.1, g1.1, by have := g1.2; show y1.length ≤ 1048576; omega⟩, by show y0.length + 1 ≤ _; omega⟩
    obtain ⟨y6, h6, g6, _⟩ := opensB_slice (enc := enc) (w := w) (R := rCase (rStmt n)) T.cases c8 b4 (by decide) (fun m hm => hcase m (by omega)) _ _ f6 (weights_part (j := 6) rfl rfl hw') (by omega)
    obtain ⟨e0, i0⟩ := h0
    obtain ⟨e1, i1⟩ := h1
    obtain ⟨e2, i2⟩ := h2
    simp only [List.cons.injEq, and_true] at e0 e1 e2
    subst e0 e1 e2
    have l4 := sum_len (fun _ => 0) y4
    have l5 := sum_len (fun _ => 0) y5
    have l6 := sum_nums y6
    have := g4.2
    have := g5.2
    have := g6.2
    refine ⟨.mk y0 y1 y2 y3 y4 y5 y6, ⟨a3, a4, a5, a6, rfl, ⟨i0, i1, i2⟩, h3, h4, h5, h6⟩, ⟨?_, ?_⟩, by have := bulk_pos (.agg (List.map (·.1) [x0, x1, x2, x3, x4, x5, x6]) : DataW H); omega⟩
    · exact ⟨g3, ⟨g4.1.1, fun y hy => (g4.1.2 y hy).1⟩, ⟨g5.1.1, fun y hy => (g5.1.2 y hy).1⟩, ⟨g6.1.1, fun c hc => ⟨(g6.1.2 c hc).1, (g6.1.2 c hc).2.1.1, fun y hy => ((g6.1.2 c hc).2.1.2 y hy).1⟩⟩, by show numsN y6 ≤ 1048576; omega⟩
    · exact ⟨⟨by show y4.length ≤ 1048576; omega, fun y hy => (g4.1.2 y hy).2⟩, ⟨by show y5.length ≤ 1048576; omega, fun y hy => (g5.1.2 y hy).2⟩, fun c hc => ⟨(g6.1.2 c hc).2.2, fun y hy => ((g6.1.2 c hc).2.1.2 y hy).2⟩⟩

/-- The types of package api that functions are made of, at their numbers. -/
structure TypesF (P : Program) (tint tstr tstmts tparam tparams tfunc tfuncs : TypeId) : Prop where
  param : P.underlying tparam = some (.struct #[⟨"Name", tstr, 0, false, "", "", 0⟩, ⟨"Type", tint, 1, false, "", "", 16⟩])
  params : P.underlying tparams = some (.slice tparam)
  func : P.underlying tfunc = some (.struct #[⟨"Name", tstr, 0, false, "", "", 0⟩, ⟨"Params", tparams, 1, false, "", "", 16⟩, ⟨"Result", tint, 2, false, "", "", 40⟩, ⟨"Body", tstmts, 3, false, "", "", 48⟩])
  funcs : P.underlying tfuncs = some (.slice tfunc)
  cells : (P.cellsOf tparam, P.cellsOf tparams, P.cellsOf tfunc) = (2, 1, 4)
  bytes : (P.bytesOf tparam, P.bytesOf tfunc) = (24, 72)

def BdF (d : Nat) (f : PFunc) : Prop := (f.body.length * 136 ≤ reachBytes ∧ ∀ y ∈ f.body, BdS d y) ∧ f.body.length ≤ 1048576
variable {tparam tparams tfunc tfuncs : TypeId}
theorem opens_param (T : Types P tint tstr tints texpr texprs tstmt tstmts tcase tcases) (TF : TypesF P tint tstr tstmts tparam tparams tfunc tfuncs) : Opens enc P w tparam rParam (fun _ => True) := by
  intro fuel cs x h hw
  have hc := T.cells
  have hcf := TF.cells
  simp only [Prod.mk.injEq] at hc hcf
  obtain ⟨xs, n, rfl, rfl, hcl, hxl, hf⟩ := DataW.trod_struct TF.param h
  rw [hcf.1] at hcl
  match cs, hcl with
  | [a0, a1], _ =>
  match xs, (show xs.length = 2 by simpa using hxl) with
  | [x0, x1], _ =>
  have f0 := hf 0 _ rfl
  have f1 := hf 1 _ rfl
  simp [hc.1, hc.2.1] at f0 f1
  have hw' : ∀ n ∈ DataW.weightsEach P [tstr, tint] [x0.1, x1.1], n ≤ reachBytes := by
    intro n hn
    refine hw n ?_
    simpa [DataW.weights, TF.param] using hn
  obtain ⟨y0, h0, _⟩ := opens_str (enc := enc) (w := w) T.str _ _ _ f0 (weights_part (j := 0) rfl rfl hw')
  obtain ⟨y1, h1, _⟩ := opens_int (enc := enc) (w := w) T.int _ _ _ f1 (weights_part (j := 1) rfl rfl hw')
  obtain ⟨e0, i0⟩ := h0
  obtain ⟨e1, i1⟩ := h1
  simp only [List.cons.injEq, and_true] at e0 e1
  subst e0 e1
  exact ⟨(y0, y1), ⟨rfl, i0, i1⟩, trivial⟩
theorem opensB_func (T : Types P tint tstr tints texpr texprs tstmt tstmts tcase tcases) (TF : TypesF P tint tstr tstmts tparam tparams tfunc tfuncs) (fuel : Nat) : OpensB enc P w fuel tfunc (rFunc fuel) (BdF fuel) (fun _ => 0) := by
  intro cs x h hw hbk
  have hc := T.cells
  have hb := T.bytes
  have hcf := TF.cells
  have hbf := TF.bytes
  simp only [Prod.mk.injEq] at hc hb hcf hbf
  obtain ⟨c1, c2, c3, c4, c5, c6, c7, c8, c9⟩ := hc
  obtain ⟨xs, n, rfl, rfl, hcl, hxl, hf⟩ := DataW.trod_struct TF.func h
  rw [hcf.2.2] at hcl
  match cs, hcl with
  | [a0, a1, a2, a3], _ =>
  match xs, (show xs.length = 4 by simpa using hxl) with
  | [x0, x1, x2, x3], _ =>
  have f0 := hf 0 _ rfl
  have f1 := hf 1 _ rfl
  have f2 := hf 2 _ rfl
  have f3 := hf 3 _ rfl
  simp [c1, c2, c7, hcf.2.1] at f0 f1 f2 f3
  have hw' : ∀ n ∈ DataW.weightsEach P [tstr, tparams, tint, tstmts] [x0.1, x1.1, x2.1, x3.1], n ≤ reachBytes := by
    intro n hn
    refine hw n ?_
    simpa [DataW.weights, TF.func] using hn
  have hbs := hbk
  simp only [Rows.uptoBulk, Rows.uptoBulkAll, List.map_cons, List.map_nil] at hbs
  obtain ⟨y0, h0, _⟩ := opens_str (enc := enc) (w := w) T.str _ _ _ f0 (weights_part (j := 0) rfl rfl hw')
  obtain ⟨y1, h1, _⟩ := opens_slice (enc := enc) (w := w) TF.params hcf.1 hbf.1 (by decide) (opens_param T TF) _ _ _ f1 (weights_part (j := 1) rfl rfl hw')
  obtain ⟨y2, h2, _⟩ := opens_int (enc := enc) (w := w) T.int _ _ _ f2 (weights_part (j := 2) rfl rfl hw')
  obtain ⟨y3, h3, g3, _⟩ := opensB_slice (enc := enc) (w := w) (R := rStmt (n + 1)) (Bd := BdS (n + 1)) (M := fun _ => 0) T.stmts c6 hb.2.2.1 (by decide) (fun k hk => (opensB_stmt T k).imp (rStmt_le (by omega)) (BdS_le (by omega)) (fun _ => Nat.le_refl _)) _ _ f3 (weights_part (j := 3) rfl rfl hw') (by omega)
  obtain ⟨e0, i0⟩ := h0
  obtain ⟨e2, i2⟩ := h2
  simp only [List.cons.injEq, and_true] at e0 e2
  subst e0 e2
  have l3 := sum_len (fun _ => 0) y3
  have := g3.2
  exact ⟨⟨y0, y1, y2, y3⟩, ⟨a1, a3, rfl, ⟨i0, i2⟩, h1, h3⟩, ⟨g3.1, by show y3.length ≤ 1048576; omega⟩, by have := bulk_pos (.agg (List.map (·.1) [x0, x1, x2, x3]) : DataW H); omega⟩
theorem opensB_funcs (T : Types P tint tstr tints texpr texprs tstmt tstmts tcase tcases) (TF : TypesF P tint tstr tstmts tparam tparams tfunc tfuncs) (fuel : Nat) : OpensB enc P w fuel tfuncs (rFuncs fuel) (fun l => l.length ≤ 1048576 ∧ ∀ f ∈ l, BdF fuel f) (fun _ => 0) := by
  have hcf := TF.cells
  have hbf := TF.bytes
  simp only [Prod.mk.injEq] at hcf hbf
  refine (opensB_slice (enc := enc) (w := w) (R := rFunc fuel) (Bd := BdF fuel) (M := fun _ => 0) TF.funcs hcf.2.2 hbf.2 (by decide) (fun k hk => (opensB_func T TF k).imp (fun cs x => ?_) (fun x hx => ?_) (fun _ => Nat.le_refl _))).imp (fun _ _ h => h) (fun l hl => ⟨?_, hl.1.2⟩) (fun _ => Nat.zero_le _)
  · rintro ⟨v1, v3, h1, h2, h3, h4⟩
    exact ⟨v1, v3, h1, h2, h3, rSlice_imp (rStmt_le (by omega)) h4⟩
  · exact ⟨⟨hx.1.1, fun y hy => BdS_le (by omega) y (hx.1.2 y hy)⟩, hx.2⟩
  · have := sum_len (fun _ => 0) l
    have := hl.2
    omega
end
end Go.Proofs.YtaomlfbcfmmhlaaDoor

/-
  From the card's condition on typed's tables to what the walks ask (TyLaid); the door's own heap meets the condition.
-/
namespace Go.Proofs.YtaomlfbcfmmhlaaDoor
open Go.ChangeShapes Go.WideShapes Go.ChangeAt Go.RowKit Go.Pst
set_option linter.unusedVariables false

abbrev tyTables : List (String × DataW Unit) := [("postern/typed.counts", Rows.laid_postern_typed_counts), ("postern/typed.exprCount", Rows.laid_postern_typed_exprCount)]
theorem gCounts : Tryd.prog.globalNamed "postern/typed.counts" = some 7 := by kernel_rfl
theorem gExprs : Tryd.prog.globalNamed "postern/typed.exprCount" = some 4 := by kernel_rfl
theorem tCounts : (Tryd.prog.globals[7]?).map (·.type) = some 237 := by kernel_rfl
theorem tExprs : (Tryd.prog.globals[4]?).map (·.type) = some 210 := by kernel_rfl
theorem countsData : (Rows.laid_postern_typed_counts : DataW Unit) = Lib.tabData .i64 [0, 0, 0, 0, 0, 2, 1, -1, 1, 2, 2, -1, 0] := rfl
theorem exprsData : (Rows.laid_postern_typed_exprCount : DataW Unit) = Lib.tabData .i64 [0, 1, 1, 2, 1, 1, 1, 1, -1, 1, 0, 0, 1, 1] := rfl
theorem ty_lt_of_cell {W : World} {b o : Nat} {v : Value} (h : W.cell? ⟨b, o, none⟩ = some v) : b < W.heap.size := by
  rcases Nat.lt_or_ge b W.heap.size with h' | h'
  · exact h'
  · simp [World.cell?, Array.getElem?_eq_none h'] at h
theorem tyLaid_of {W : World} (h : laidMetH Tryd.prog tyTables W) : TyLaid W W.heap.size := by
  rw [MakeChecks.laidMetH_plain _ _ _ (by kernel_rfl)] at h
  have h2 := h.tail
  unfold tyTables at h h2
  rw [countsData] at h
  simp only [exprsData] at h2
  have t1 := Lib.tabIs_of_head gCounts tCounts Tryd.underlying237 Tryd.underlying3 (by kernel_rfl) (by kernel_rfl) h
  have t2 := Lib.tabIs_of_head gExprs tExprs Tryd.underlying210 Tryd.underlying3 (by kernel_rfl) (by kernel_rfl) h2
  refine ⟨⟨ty_lt_of_cell (t1.cell gCounts 0 (by decide)), ty_lt_of_cell (t2.cell gExprs 0 (by decide))⟩, fun k h1 h2 => ?_, fun k h1 h2 => ?_⟩
  · rw [t1.cell gCounts k (by simp; omega)]
    rcases (show k = 1 ∨ k = 2 ∨ k = 3 ∨ k = 4 ∨ k = 5 ∨ k = 6 ∨ k = 7 ∨ k = 8 ∨ k = 9 ∨ k = 10 ∨ k = 11 ∨ k = 12 by omega) with rfl | rfl | rfl | rfl | rfl | rfl | rfl | rfl | rfl | rfl | rfl | rfl <;> rfl
  · rw [t2.cell gExprs k (by simp; omega)]
    rcases (show k = 1 ∨ k = 2 ∨ k = 3 ∨ k = 4 ∨ k = 5 ∨ k = 6 ∨ k = 7 ∨ k = 8 ∨ k = 9 ∨ k = 10 ∨ k = 11 ∨ k = 12 ∨ k = 13 by omega) with rfl | rfl | rfl | rfl | rfl | rfl | rfl | rfl | rfl | rfl | rfl | rfl | rfl <;> rfl
theorem ty_door_met (os : Os) (args : Array Value) : laidMetH Tryd.prog tyTables ((World.doorLaid Tryd.prog 400 os).forCall (fun _ _ => 0) ⟨#[], args, []⟩).memory :=
  laidMetH_of_parts3 (fuel := 8) (laidMet_of_run' 8 (by kernel_rfl) (by kernel_rfl)) (by kernel_rfl) (by kernel_rfl)
end Go.Proofs.YtaomlfbcfmmhlaaDoor

/-
  Texts joined: RunAt RanFrame RanPre RanArgs RanArm1.
-/
import Derived.Test.YtaomlfbcfmmhlaaDoorVB
import Derived.Deep.DeepCutAuto
import Derived.Deep.RegionHeld3
import Derived.Deep.RegionLaw
import Derived.Deep.AppendLies
import Derived.Deep.DrawnRows

/-
  The reference's run in memory: its program, its scene, its calls; what a store, an append, a call leaves of it.
-/
namespace Go.Proofs.YtaomlfbcfmmhlaaDoor
open Go.RowKit Go.Pst
set_option linter.unusedVariables false
set_option linter.unusedSimpArgs false

/-- What a block is for. -/
inductive Lab where
  | p | r | s | w | l | c
  | v (i : Nat)
  | t (i : Nat)
  deriving DecidableEq
structure LA where
  gv : Nat
  gs : Nat
  vw : Value
abbrev intRow (w : World) (base g : Nat) (l : List Int) : Prop := w.ownsRow base 3 1 (.slice (some ⟨g, 0, none⟩) l.length l.length) l.length (l.map (Value.int .i64))
def levCells (f : Lev) (a : LA) : List Value := [.int .i64 f.fn, .slice (some ⟨a.gv, 0, none⟩) f.vars.length f.vars.length, .slice (some ⟨a.gs, 0, none⟩) f.slots.length f.slots.length, .int .i64 f.block, .int .i64 f.at_, a.vw]
def rowCells : List (Lev × LA) → List Value
  | [] => []
  | x :: r => rowCells r ++ levCells x.1 x.2
theorem rowCells_length : ∀ fr : List (Lev × LA), (rowCells fr).length = fr.length * 6
  | [] => rfl
  | x :: r => by simp [rowCells, rowCells_length r, levCells]; omega
structure LevAt (ρ : Nat → Option Lab) (w : World) (base i : Nat) (f : Lev) (a : LA) : Prop where
  lv : ρ a.gv = some (.v i)
  lt : ρ a.gs = some (.t i)
  vars : intRow w base a.gv f.vars
  slots : intRow w base a.gs f.slots
  want : rInts (· < base) w [a.vw] f.want
def LevsAt (ρ : Nat → Option Lab) (w : World) (base : Nat) : List (Lev × LA) → Prop
  | [] => True
  | x :: r => LevAt ρ w base r.length x.1 x.2 ∧ LevsAt ρ w base r
/-- The world in which all began. -/
class Old where
  w0 : World
structure RunAt [Old] (ρ : Nat → Option Lab) (w : World) (base bp br bs : Nat) (v0 v1 vW vL vC : Value) (p : PProg) (limit : Int) (words : List Int) (lines : List ByteArray) (fr : List (Lev × LA)) : Prop where
  prog : rProg (· < base) w [v0, v1] p
  p0 : w.cell? ⟨bp, 0, none⟩ = some v0
  p1 : w.cell? ⟨bp, 1, none⟩ = some v1
  r0 : w.cell? ⟨br, 0, none⟩ = some (.slice none 0 0)
  r1 : w.cell? ⟨br, 1, none⟩ = some (.int .i64 0)
  rf0 : w.frozen? ⟨br, 0, none⟩ = false
  rf1 : w.frozen? ⟨br, 1, none⟩ = false
  lp : ρ bp = some .p ∧ bp < w.heap.size
  lr : ρ br = some .r ∧ br < w.heap.size
  ls : ρ bs = some .s
  lw : ∀ k, vW.ownBlock = some k → ρ k = some .w
  ll : ∀ k, vL.ownBlock = some k → ρ k = some .l
  lc : ∀ k, vC.ownBlock = some k → ρ k = some .c
  scene : SceneAt w base bs vW vL words limit lines
  row : w.ownsRow base 164 6 vC fr.length (rowCells fr)
  levs : LevsAt ρ w base fr
  big : base ≤ w.heap.size
  below : Below base Old.w0 w

theorem row_get {w : World} {base n sz : Nat} {e : TypeId} {v : Value} {xs : List Value} (h : w.ownsRow base e sz v n xs) {i : Nat} {u : Value} (hi : xs[i]? = some u) :
    ∃ g cap, v = .slice (some ⟨g, 0, none⟩) n cap ∧ v.ownBlock = some g ∧ base ≤ g ∧ g < w.heap.size ∧ w.cell? ⟨g, i, none⟩ = some u ∧ w.frozen? ⟨g, i, none⟩ = false := by
  rcases h.2 with ⟨rfl, rfl⟩ | ⟨g, cap, cur, rfl, hb, hg, h1, h2, h3, h4⟩
  · have := h.1
    simp at this
    subst this
    simp at hi
  · refine ⟨g, cap, rfl, rfl, hb, (Array.getElem?_eq_some_iff.1 hg).1, ?_, ?_⟩
    · rw [← h4, List.getElem?_take] at hi
      split at hi
      · simp [World.cell?, hg]; simpa using hi
      · simp at hi
    · simp [World.frozen?, hg]
theorem row_put {w : World} {base n sz : Nat} {e : TypeId} {g cap : Nat} {xs : List Value} (h : w.ownsRow base e sz (.slice (some ⟨g, 0, none⟩) n cap) n xs) (i : Nat) (u : Value) :
    (w.setCell ⟨g, i, none⟩ u).ownsRow base e sz (.slice (some ⟨g, 0, none⟩) n cap) n (xs.set i u) := by
  refine ⟨by simpa using h.1, Or.inr ?_⟩
  rcases h.2 with ⟨h0, _⟩ | ⟨g', cap', cur, hv, hb, hg, h1, h2, h3, h4⟩
  · simp at h0
  · obtain ⟨rfl, rfl⟩ : g = g' ∧ cap = cap' := by simpa using hv
    refine ⟨g, cap, cur.setIfInBounds i u, rfl, hb, ?_, h1, h2, by simpa using h3, ?_⟩
    · simp only [World.setCell, Array.getElem?_modify, hg, Option.map_some]
      simp
    · rw [Array.toList_setIfInBounds, List.take_set, h4]
/-- A shorter slice of an owned row. -/
theorem row_short {w : World} {base n m sz : Nat} {e : TypeId} {g cap : Nat} {xs : List Value} (h : w.ownsRow base e sz (.slice (some ⟨g, 0, none⟩) n cap) n xs) (hm : m ≤ n) :
    w.ownsRow base e sz (.slice (some ⟨g, 0, none⟩) m cap) m (xs.take (m * sz)) := by
  have hmul : m * sz ≤ n * sz := Nat.mul_le_mul_right _ hm
  refine ⟨by rw [List.length_take, h.1]; omega, Or.inr ?_⟩
  rcases h.2 with ⟨h0, _⟩ | ⟨g', cap', cur, hv, hb, hg, h1, h2, h3, h4⟩
  · simp at h0
  · obtain ⟨rfl, rfl⟩ : g = g' ∧ cap = cap' := by simpa using hv
    refine ⟨g, cap, cur, rfl, hb, hg, by omega, h2, h3, ?_⟩
    rw [← h4, List.take_take]
    congr 1
    omega

theorem LevAt.since {ρ : Nat → Option Lab} {w w' : World} {base i : Nat} {f : Lev} {a : LA} {F : Nat → Prop} (h : LevAt ρ w base i f a) (hs : Since F w w') (hB : ∀ k, F k → base ≤ k) (h1 : ¬ F a.gv) (h2 : ¬ F a.gs) : LevAt ρ w' base i f a :=
  ⟨h.lv, h.lt, hs.row h.vars (fun k hk e => h1 (by simp [Value.ownBlock] at hk; exact hk ▸ e)), hs.row h.slots (fun k hk e => h2 (by simp [Value.ownBlock] at hk; exact hk ▸ e)),
    Good.kept ((hs.keep).weaken (fun k _ hk e => absurd (hB k e) (by omega))) h.want⟩
theorem LevsAt.since {ρ : Nat → Option Lab} {w w' : World} {base : Nat} {F : Nat → Prop} (hs : Since F w w') (hB : ∀ k, F k → base ≤ k) : ∀ {fr : List (Lev × LA)}, LevsAt ρ w base fr → (∀ k i, F k → i < fr.length → ρ k ≠ some (.v i) ∧ ρ k ≠ some (.t i)) → LevsAt ρ w' base fr
  | [], _, _ => trivial
  | x :: r, h, hF => ⟨h.1.since hs hB (fun e => (hF _ _ e (by simp)).1 h.1.lv) (fun e => (hF _ _ e (by simp)).2 h.1.lt), LevsAt.since hs hB h.2 (fun k i hk hi => hF k i hk (by simp; omega))⟩
theorem LevsAt.label {ρ ρ' : Nat → Option Lab} {w : World} {base : Nat} (hρ : ∀ k, k < w.heap.size → ρ' k = ρ k) : ∀ {fr : List (Lev × LA)}, LevsAt ρ w base fr → LevsAt ρ' w base fr
  | [], _ => trivial
  | x :: r, h => by
    have hv : x.2.gv < w.heap.size := (h.1.vars.lt _ rfl).2
    have ht : x.2.gs < w.heap.size := (h.1.slots.lt _ rfl).2
    exact ⟨⟨by rw [hρ _ hv]; exact h.1.lv, by rw [hρ _ ht]; exact h.1.lt, h.1.vars, h.1.slots, h.1.want⟩, LevsAt.label hρ h.2⟩

def zeros (n : Nat) : Array Value := madeCells #[.int .i64 0] n
theorem make_ints (n : Nat) (h : n ≤ 100000) (w : World) : (Instr.makeSlice 23 (.int .i64 n) (.int .i64 n)).run Tryd.prog w = .ok (.slice (some ⟨w.heap.size, 0, none⟩) n n) (w.alloc (.cells (zeros n) 3)) := by
  obtain ⟨i0, hi, hz0, hz1, hz2⟩ := info_parts info_int
  have := run_make (P := Tryd.prog) w 23 3 i0 (.int .i64 0) Tryd.underlying23 hi hz0 .i64 .i64 n n (by omega) (Int.le_refl _) (by rw [hz2]; omega) (by omega)
  rw [hz1] at this
  simpa [zeros, Value.cells] using this
theorem zeros_row {w : World} {base g n : Nat} (hg : w.heap[g]? = some (.cells (zeros n) 3)) (hb : base ≤ g) (hn : n ≤ 100000) : intRow w base g (List.replicate n 0) := by
  refine ⟨by simp, Or.inr ⟨g, n, zeros n, by simp, hb, hg, by simp, by unfold maxLen; omega, by simp [zeros, size_madeCells], ?_⟩⟩
  unfold zeros
  rw [toList_madeCells_one]
  simp
theorem heap3 (w : World) (a b c : Obj) : (((w.alloc a).alloc b).alloc c).drew.heap[w.heap.size]? = some a ∧ (((w.alloc a).alloc b).alloc c).drew.heap[w.heap.size + 1]? = some b ∧ (((w.alloc a).alloc b).alloc c).drew.heap[w.heap.size + 1 + 1]? = some c ∧ Since (fun _ => False) w (((w.alloc a).alloc b).alloc c).drew := by
  refine ⟨?_, ?_, ?_, ((((Since.alloc _ _ _).trans (Since.alloc _ _ _)).trans (Since.alloc _ _ _)).trans (Since.drew _ _))⟩
  · show (((w.alloc a).alloc b).alloc c).heap[w.heap.size]? = some a
    rw [Below.heap_alloc _ _ _ (by simp; omega), Below.heap_alloc _ _ _ (by simp), heap_alloc_new]
  · show (((w.alloc a).alloc b).alloc c).heap[w.heap.size + 1]? = some b
    rw [Below.heap_alloc _ _ _ (by simp)]
    have := heap_alloc_new (w.alloc a) b
    simpa using this
  · show (((w.alloc a).alloc b).alloc c).heap[w.heap.size + 1 + 1]? = some c
    have := heap_alloc_new ((w.alloc a).alloc b) c
    simpa using this
theorem froz3_2 (w : World) (o1 o3 : Obj) (A : Array Value) (t : TypeId) (j : Nat) : (((w.alloc o1).alloc (.cells A t)).alloc o3).frozen? ⟨w.heap.size + 1, j, none⟩ = false := by
  rw [World.frozen?_alloc_past _ _ _ (by simp), World.frozen?_alloc_at _ _ _ _ (by simp)]
theorem froz3_3 (w : World) (o1 o2 : Obj) (A : Array Value) (t : TypeId) (j : Nat) : (((w.alloc o1).alloc o2).alloc (.cells A t)).frozen? ⟨w.heap.size + 1 + 1, j, none⟩ = false := by
  rw [World.frozen?_alloc_at _ _ _ _ (by simp)]
theorem RunAt.set_lev {r : List (Lev × LA)} {f f' : Lev} {a : LA} {j : Nat} {u : Value} (h : (levCells f a).set j u = levCells f' a) : (rowCells r ++ levCells f a).set (r.length * 6 + j) u = rowCells r ++ levCells f' a := by
  rw [List.set_append_right _ _ (by rw [rowCells_length]; omega), rowCells_length, Nat.add_sub_cancel_left, h]
namespace RunAt
variable [Old] {ρ : Nat → Option Lab} {w w' : World} {base bp br bs : Nat} {v0 v1 vW vL vC : Value} {p : PProg} {limit : Int} {words : List Int} {lines : List ByteArray} {fr : List (Lev × LA)} {F : Nat → Prop}

/-- Other labels for blocks that are not there yet. -/
theorem label {ρ' : Nat → Option Lab} (h : RunAt ρ w base bp br bs v0 v1 vW vL vC p limit words lines fr) (hρ : ∀ k, k < w.heap.size → ρ' k = ρ k) : RunAt ρ' w base bp br bs v0 v1 vW vL vC p limit words lines fr :=
  { h with
    lp := ⟨by rw [hρ _ h.lp.2]; exact h.lp.1, h.lp.2⟩
    lr := ⟨by rw [hρ _ h.lr.2]; exact h.lr.1, h.lr.2⟩
    ls := by rw [hρ _ h.scene.lt.2]; exact h.ls
    lw := fun k hk => by rw [hρ _ (h.scene.oW.lt k hk).2]; exact h.lw k hk
    ll := fun k hk => by rw [hρ _ (h.scene.oL.lt k hk).2]; exact h.ll k hk
    lc := fun k hk => by rw [hρ _ (h.row.lt k hk).2]; exact h.lc k hk
    levs := h.levs.label hρ }

/-- The parts that a change of blocks of some labels leaves; the scene, the row, the calls are given anew. -/
theorem upd (h : RunAt ρ w base bp br bs v0 v1 vW vL vC p limit words lines fr) {vW' vL' vC' : Value} {words' : List Int} {lines' : List ByteArray} {fr' : List (Lev × LA)}
    (hs : Since F w w') (hB : ∀ k, F k → base ≤ k) (hF : ∀ k, F k → ρ k ≠ some .p ∧ ρ k ≠ some .r)
    (sc : SceneAt w' base bs vW' vL' words' limit lines') (rw' : w'.ownsRow base 164 6 vC' fr'.length (rowCells fr')) (lv : LevsAt ρ w' base fr')
    (lw : ∀ k, vW'.ownBlock = some k → ρ k = some .w) (ll : ∀ k, vL'.ownBlock = some k → ρ k = some .l) (lc : ∀ k, vC'.ownBlock = some k → ρ k = some .c) :
    RunAt ρ w' base bp br bs v0 v1 vW' vL' vC' p limit words' lines' fr' :=
  have np : ¬ F bp := fun e => (hF _ e).1 h.lp.1
  have nr : ¬ F br := fun e => (hF _ e).2 h.lr.1
  { prog := Good.kept ((hs.keep).weaken (fun k _ hk e => absurd (hB k e) (by omega))) h.prog
    p0 := (hs.cell h.lp.2 np).trans h.p0
    p1 := (hs.cell h.lp.2 np).trans h.p1
    r0 := (hs.cell h.lr.2 nr).trans h.r0
    r1 := (hs.cell h.lr.2 nr).trans h.r1
    rf0 := (hs.frozen h.lr.2 nr).trans h.rf0
    rf1 := (hs.frozen h.lr.2 nr).trans h.rf1
    lp := ⟨h.lp.1, Nat.lt_of_lt_of_le h.lp.2 hs.size⟩
    lr := ⟨h.lr.1, Nat.lt_of_lt_of_le h.lr.2 hs.size⟩
    ls := h.ls
    lw := lw
    ll := ll
    lc := lc
    scene := sc
    row := rw'
    levs := lv
    big := Nat.le_trans h.big hs.size
    below := h.below.trans (hs.below h.big hB) }

theorem sceneS (h : RunAt ρ w base bp br bs v0 v1 vW vL vC p limit words lines fr) (hs : Since F w w') (hF : ∀ k, F k → ρ k ≠ some .s ∧ ρ k ≠ some .w ∧ ρ k ≠ some .l) : SceneAt w' base bs vW vL words limit lines :=
  h.scene.since hs (fun e => (hF _ e).1 h.ls) (fun k hk e => (hF k e).2.1 (h.lw k hk)) (fun k hk e => (hF k e).2.2 (h.ll k hk))
theorem rowS (h : RunAt ρ w base bp br bs v0 v1 vW vL vC p limit words lines fr) (hs : Since F w w') (hF : ∀ k, F k → ρ k ≠ some .c) : w'.ownsRow base 164 6 vC fr.length (rowCells fr) :=
  hs.row h.row (fun k hk e => hF k e (h.lc k hk))

/-- Only new blocks. -/
theorem since (h : RunAt ρ w base bp br bs v0 v1 vW vL vC p limit words lines fr) (hs : Since (fun _ => False) w w') : RunAt ρ w' base bp br bs v0 v1 vW vL vC p limit words lines fr :=
  h.upd hs (fun _ e => e.elim) (fun _ e => e.elim) (h.sceneS hs (fun _ e => e.elim)) (h.rowS hs (fun _ e => e.elim)) (LevsAt.since hs (fun _ e => e.elim) h.levs (fun _ _ e => e.elim)) h.lw h.ll h.lc

/-- Blocks without a label were written. -/
theorem sinceN (h : RunAt ρ w base bp br bs v0 v1 vW vL vC p limit words lines fr) (hs : Since F w w') (hN : ∀ k, F k → ρ k = none) (hB : ∀ k, F k → base ≤ k) : RunAt ρ w' base bp br bs v0 v1 vW vL vC p limit words lines fr :=
  h.upd hs hB (fun k e => by rw [hN k e]; simp) (h.sceneS hs (fun k e => by rw [hN k e]; simp)) (h.rowS hs (fun k e => by rw [hN k e]; simp)) (LevsAt.since hs hB h.levs (fun k i e _ => by rw [hN k e]; simp)) h.lw h.ll h.lc

/-- A variable of the innermost call is set. -/
theorem setV {f : Lev} {a : LA} {r : List (Lev × LA)} (h : RunAt ρ w base bp br bs v0 v1 vW vL vC p limit words lines ((f, a) :: r)) (d : Nat) (x : Int) :
    RunAt ρ (w.setCell ⟨a.gv, d, none⟩ (.int .i64 x)) base bp br bs v0 v1 vW vL vC p limit words lines (({ f with vars := f.vars.set d x }, a) :: r) := by
  have hs := Since.setCell w ⟨a.gv, d, none⟩ (.int .i64 x)
  have hlv := h.levs.1.lv
  have hB : ∀ k, k = a.gv → base ≤ k := fun k e => by rw [e]; exact (h.levs.1.vars.lt _ rfl).1
  refine h.upd hs hB (fun k e => ?_) (h.sceneS hs (fun k e => ?_)) ?_ ⟨⟨hlv, h.levs.1.lt, ?_, ?_, ?_⟩, LevsAt.since hs hB h.levs.2 (fun k i e hi => ?_)⟩ h.lw h.ll h.lc
  · rw [show k = a.gv from e, hlv]; simp
  · rw [show k = a.gv from e, hlv]; simp
  · have := h.rowS hs (fun k e => by rw [show k = a.gv from e, hlv]; simp)
    simpa [rowCells, levCells] using this
  · have := row_put h.levs.1.vars d (.int .i64 x)
    simpa [intRow] using this
  · refine hs.row h.levs.1.slots (fun k hk e => ?_)
    have h1 : a.gs = k := by simpa [Value.ownBlock] using hk
    have := h.levs.1.lt
    rw [h1, show k = a.gv from e, hlv] at this
    simp at this
  · exact Good.kept ((hs.keep).weaken (fun k _ hk e => absurd (hB k e) (by omega))) h.levs.1.want
  · rw [show k = a.gv from e, hlv]
    simp
    omega
/-- A slot of it. -/
theorem setS {f : Lev} {a : LA} {r : List (Lev × LA)} (h : RunAt ρ w base bp br bs v0 v1 vW vL vC p limit words lines ((f, a) :: r)) (d : Nat) (x : Int) :
    RunAt ρ (w.setCell ⟨a.gs, d, none⟩ (.int .i64 x)) base bp br bs v0 v1 vW vL vC p limit words lines (({ f with slots := f.slots.set d x }, a) :: r) := by
  have hs := Since.setCell w ⟨a.gs, d, none⟩ (.int .i64 x)
  have hlv := h.levs.1.lt
  have hB : ∀ k, k = a.gs → base ≤ k := fun k e => by rw [e]; exact (h.levs.1.slots.lt _ rfl).1
  refine h.upd hs hB (fun k e => ?_) (h.sceneS hs (fun k e => ?_)) ?_ ⟨⟨h.levs.1.lv, hlv, ?_, ?_, ?_⟩, LevsAt.since hs hB h.levs.2 (fun k i e hi => ?_)⟩ h.lw h.ll h.lc
  · rw [show k = a.gs from e, hlv]; simp
  · rw [show k = a.gs from e, hlv]; simp
  · have := h.rowS hs (fun k e => by rw [show k = a.gs from e, hlv]; simp)
    simpa [rowCells, levCells] using this
  · refine hs.row h.levs.1.vars (fun k hk e => ?_)
    have h1 : a.gv = k := by simpa [Value.ownBlock] using hk
    have := h.levs.1.lv
    rw [h1, show k = a.gs from e, hlv] at this
    simp at this
  · have := row_put h.levs.1.slots d (.int .i64 x)
    simpa [intRow] using this
  · exact Good.kept ((hs.keep).weaken (fun k _ hk e => absurd (hB k e) (by omega))) h.levs.1.want
  · rw [show k = a.gs from e, hlv]
    simp
    omega
/-- Where it stands. -/
theorem setC {f f' : Lev} {a : LA} {r : List (Lev × LA)} {g cap : Nat} (h : RunAt ρ w base bp br bs v0 v1 vW vL (.slice (some ⟨g, 0, none⟩) (r.length + 1) cap) p limit words lines ((f, a) :: r)) (j : Nat) (u : Value)
    (h1 : f'.vars = f.vars) (h2 : f'.slots = f.slots) (h3 : f'.want = f.want) (hj : (rowCells r ++ levCells f a).set j u = rowCells r ++ levCells f' a) :
    RunAt ρ (w.setCell ⟨g, j, none⟩ u) base bp br bs v0 v1 vW vL (.slice (some ⟨g, 0, none⟩) (r.length + 1) cap) p limit words lines ((f', a) :: r) := by
  have hs := Since.setCell w ⟨g, j, none⟩ u
  have hlc := h.lc g rfl
  have hB : ∀ k, k = g → base ≤ k := fun k e => by rw [e]; exact (h.row.lt _ rfl).1
  have hlev := LevsAt.since hs hB h.levs (fun k i e hi => by rw [show k = g from e, hlc]; simp)
  refine h.upd hs hB (fun k e => ?_) (h.sceneS hs (fun k e => ?_)) ?_ ⟨⟨hlev.1.lv, hlev.1.lt, ?_, ?_, ?_⟩, hlev.2⟩ h.lw h.ll h.lc
  · rw [show k = g from e, hlc]; simp
  · rw [show k = g from e, hlc]; simp
  · have := row_put h.row j u
    show World.ownsRow _ base _ 6 _ _ (rowCells r ++ levCells f' a)
    rw [← hj]
    exact this
  · rw [h1]; exact hlev.1.vars
  · rw [h2]; exact hlev.1.slots
  · rw [h3]; exact hlev.1.want
/-- A cell of the innermost call. -/
theorem get {f : Lev} {a : LA} {r : List (Lev × LA)} (h : RunAt ρ w base bp br bs v0 v1 vW vL vC p limit words lines ((f, a) :: r)) :
    ∃ g cap, vC = .slice (some ⟨g, 0, none⟩) (r.length + 1) cap ∧ r.length + 1 ≤ cap ∧ base ≤ g ∧ g < w.heap.size ∧ (∀ j u, (levCells f a)[j]? = some u → w.cell? ⟨g, r.length * 6 + j, none⟩ = some u ∧ w.frozen? ⟨g, r.length * 6 + j, none⟩ = false) := by
  have hj : ∀ j u, (levCells f a)[j]? = some u → (rowCells ((f, a) :: r))[r.length * 6 + j]? = some u := fun j u hu => by
    show (rowCells r ++ levCells f a)[r.length * 6 + j]? = some u
    rw [List.getElem?_append_right (by rw [rowCells_length]; omega), rowCells_length, Nat.add_sub_cancel_left, hu]
  obtain ⟨aC, cC, hv, hle, -⟩ := row_slice h.row
  obtain ⟨g, cap, rfl, -, h1, h2, -, -⟩ := row_get h.row (hj 0 _ rfl)
  refine ⟨g, cap, rfl, ?_, h1, h2, fun j u hu => ?_⟩
  · have : cap = cC := by simpa using (Value.slice.inj hv).2.2
    rw [this]; simpa using hle
  obtain ⟨g', cap', hv', -, -, -, hc, hf⟩ := row_get h.row (hj j u hu)
  have : g = g' := by simpa using (Value.slice.inj hv').1
  rw [← this] at hc hf
  exact ⟨hc, hf⟩
/-- The scene turns. -/
theorem turned {vW' vL' : Value} {words' : List Int} {lines' : List ByteArray} (h : RunAt ρ w base bp br bs v0 v1 vW vL vC p limit words lines fr) (hs : Since F w w') (hF : ∀ k, F k → k = bs ∨ vW.ownBlock = some k ∨ vL.ownBlock = some k)
    (sc : SceneAt w' base bs vW' vL' words' limit lines') (nW : ∀ k, vW'.ownBlock = some k → vW.ownBlock = some k ∨ w.heap.size ≤ k) (nL : ∀ k, vL'.ownBlock = some k → vL.ownBlock = some k ∨ w.heap.size ≤ k) :
    ∃ ρ', RunAt ρ' w' base bp br bs v0 v1 vW' vL' vC p limit words' lines' fr := by
  have hlab : ∀ k, F k → ρ k = some .s ∨ ρ k = some .w ∨ ρ k = some .l := fun k e => by
    rcases hF k e with rfl | e | e
    · exact Or.inl h.ls
    · exact Or.inr (Or.inl (h.lw k e))
    · exact Or.inr (Or.inr (h.ll k e))
  have hB : ∀ k, F k → base ≤ k := fun k e => by
    rcases hF k e with rfl | e | e
    · exact h.scene.lt.1
    · exact (h.scene.oW.lt k e).1
    · exact (h.scene.oL.lt k e).1
  have h1 := h.label (ρ' := fun k => if k < w.heap.size then ρ k else if vW'.ownBlock = some k then some .w else some .l) (fun k hk => by simp [hk])
  have hlt : ∀ k, F k → k < w.heap.size := fun k e => by
    rcases hF k e with rfl | e | e
    · exact h.scene.lt.2
    · exact (h.scene.oW.lt k e).2
    · exact (h.scene.oL.lt k e).2
  refine ⟨_, h1.upd hs hB (fun k e => ?_) sc (h1.rowS hs (fun k e => ?_)) (LevsAt.since hs hB h1.levs (fun k i e hi => ?_)) (fun k hk => ?_) (fun k hk => ?_) h1.lc⟩
  · simp only [hlt k e, if_true]
    rcases hlab k e with e | e | e <;> rw [e] <;> simp
  · simp only [hlt k e, if_true]
    rcases hlab k e with e | e | e <;> rw [e] <;> simp
  · simp only [hlt k e, if_true]
    rcases hlab k e with e | e | e <;> rw [e] <;> simp
  · rcases nW k hk with e | e
    · exact h1.lw k e
    · have : ¬ k < w.heap.size := by omega
      simp [this, hk]
  · rcases nL k hk with e | e
    · exact h1.ll k e
    · have : ¬ k < w.heap.size := by omega
      have hne : vW'.ownBlock ≠ some k := fun e2 => sc.nWL k e2 hk
      simp [this, hne]
/-- The innermost call is left. -/
theorem pop {f : Lev} {a : LA} {r : List (Lev × LA)} {g cap : Nat} (h : RunAt ρ w base bp br bs v0 v1 vW vL (.slice (some ⟨g, 0, none⟩) (r.length + 1) cap) p limit words lines ((f, a) :: r)) :
    RunAt ρ w base bp br bs v0 v1 vW vL (.slice (some ⟨g, 0, none⟩) r.length cap) p limit words lines r :=
  { h with
    lc := h.lc
    row := by
      have := row_short (m := r.length) h.row (by simp)
      have e : (rowCells ((f, a) :: r)).take (r.length * 6) = rowCells r := by
        show (rowCells r ++ levCells f a).take (r.length * 6) = rowCells r
        rw [← rowCells_length, List.take_left']
        rfl
      rw [e] at this
      exact this
    levs := h.levs.2 }
/-- A new call. -/
theorem push {w1 w2 : World} {o : Obj} {vC' : Value} {f : Lev} {a : LA} (h : RunAt ρ w base bp br bs v0 v1 vW vL vC p limit words lines fr) (hs : Since (fun _ => False) w w1) (hg : (w1.alloc o).grownBy w2 vC.ownBlock)
    (ho : w2.ownsRow base 164 6 vC' (fr.length + 1) (rowCells fr ++ levCells f a)) (hloc : vC'.ownBlock = vC.ownBlock ∨ vC'.ownBlock = some (w1.heap.size + 1))
    (hv : intRow w1 base a.gv f.vars) (ht : intRow w1 base a.gs f.slots) (nv : w.heap.size ≤ a.gv) (nt : w.heap.size ≤ a.gs) (hne : a.gv ≠ a.gs) (hw : rInts (· < base) w1 [a.vw] f.want) :
    ∃ ρ', RunAt ρ' w2 base bp br bs v0 v1 vW vL vC' p limit words lines ((f, a) :: fr) := by
  have h1 := h.label (ρ' := fun k => if k < w.heap.size then ρ k else if k = a.gv then some (.v fr.length) else if k = a.gs then some (.t fr.length) else some .c) (fun k hk => by simp [hk])
  have s2 : Since (fun k => vC.ownBlock = some k) w1 w2 := (Since.alloc _ _ _).trans (Since.grown hg)
  have s3 : Since (fun k => vC.ownBlock = some k) w w2 := (hs.mono (fun _ e => e.elim)).trans s2
  have hlt : ∀ k, vC.ownBlock = some k → k < w.heap.size := fun k e => (h.row.lt k e).2
  have hB : ∀ k, vC.ownBlock = some k → base ≤ k := fun k e => (h.row.lt k e).1
  have lv : a.gv < w1.heap.size := (hv.lt _ rfl).2
  have lt : a.gs < w1.heap.size := (ht.lt _ rfl).2
  refine ⟨_, h1.upd s3 hB (fun k e => ?_) (h1.sceneS s3 (fun k e => ?_)) ho ⟨⟨?_, ?_, ?_, ?_, ?_⟩, LevsAt.since s3 hB h1.levs (fun k i e hi => ?_)⟩ h1.lw h1.ll (fun k hk => ?_)⟩
  · rw [h1.lc k e]; simp
  · rw [h1.lc k e]; simp
  · have : ¬ a.gv < w.heap.size := by omega
    simp [this]
  · have : ¬ a.gs < w.heap.size := by omega
    simp [this, Ne.symm hne]
  · refine s2.row hv (fun k hk e => ?_)
    have : a.gv = k := by simpa [Value.ownBlock] using hk
    have := hlt k e
    omega
  · refine s2.row ht (fun k hk e => ?_)
    have : a.gs = k := by simpa [Value.ownBlock] using hk
    have := hlt k e
    omega
  · exact Good.kept ((s2.keep).weaken (fun k _ hk e => absurd (hB k e) (by omega))) hw
  · rw [h1.lc k e]; simp
  · rcases hloc with e | e
    · rw [e] at hk
      exact h1.lc k hk
    · rw [e] at hk
      have hk' : w1.heap.size + 1 = k := by simpa using hk
      have := hs.size
      have n1 : ¬ k < w.heap.size := by omega
      have n2 : ¬ k = a.gv := by omega
      have n3 : ¬ k = a.gs := by omega
      simp [n1, n2, n3]
/-- A word more. -/
theorem pushW {w1 : World} {o : Obj} {g cap : Nat} {x : Int} (h : RunAt ρ w base bp br bs v0 v1 vW vL vC p limit words lines fr) (hg : (w.alloc o).drew.grownBy w1 vW.ownBlock)
    (ho : w1.ownsRow base 3 1 (.slice (some ⟨g, 0, none⟩) (words.length + 1) cap) (words.length + 1) (words.map (Value.int .i64) ++ [.int .i64 x])) (hat : vW.ownBlock = some g ∨ g = w.heap.size + 1) :
    ∃ ρ', RunAt ρ' (w1.setCell ⟨bs, 0, none⟩ (.slice (some ⟨g, 0, none⟩) (words.length + 1) cap)) base bp br bs v0 v1 (.slice (some ⟨g, 0, none⟩) (words.length + 1) cap) vL vC p limit (words ++ [x]) lines fr := by
  have h1 := h.since (Since.drew (fun _ => False) w)
  have hg' : (w.drew.alloc o).grownBy w1 vW.ownBlock := hg
  obtain ⟨k1, k2, k3⟩ := h1.scene.pushW hg' ho (by
    rcases hat with e | e
    · exact Or.inl e.symm
    · exact Or.inr (by rw [e]; rfl))
  exact h1.turned k2 (fun k e => e.elim Or.inl (fun e => Or.inr (Or.inl e))) k1 k3 (fun k e => Or.inl e)
/-- The first call. -/
theorem first {w2 : World} {g cap : Nat} {f : Lev} {a : LA} (h : RunAt ρ w base bp br bs v0 v1 vW vL vC p limit words lines []) (hs : Since (fun _ => False) w w2)
    (ho : w2.ownsRow base 164 6 (.slice (some ⟨g, 0, none⟩) 1 cap) 1 (levCells f a)) (hv : intRow w2 base a.gv f.vars) (ht : intRow w2 base a.gs f.slots)
    (n1 : w.heap.size ≤ g) (n2 : w.heap.size ≤ a.gv) (n3 : w.heap.size ≤ a.gs) (n4 : a.gv ≠ a.gs) (n5 : g ≠ a.gv) (n6 : g ≠ a.gs) (hw : rInts (· < base) w2 [a.vw] f.want) :
    ∃ ρ', RunAt ρ' w2 base bp br bs v0 v1 vW vL (.slice (some ⟨g, 0, none⟩) 1 cap) p limit words lines [(f, a)] := by
  have h1 := h.label (ρ' := fun k => if k < w.heap.size then ρ k else if k = a.gv then some (.v 0) else if k = a.gs then some (.t 0) else some .c) (fun k hk => by simp [hk])
  refine ⟨_, h1.upd hs (fun _ e => e.elim) (fun _ e => e.elim) (h1.sceneS hs (fun _ e => e.elim)) (by simpa [rowCells] using ho) ⟨⟨?_, ?_, hv, ht, hw⟩, trivial⟩ h1.lw h1.ll (fun k hk => ?_)⟩
  · have : ¬ a.gv < w.heap.size := by omega
    simp [this]
  · have : ¬ a.gs < w.heap.size := by omega
    simp [this, Ne.symm n4]
  · have hk' : g = k := by simpa [Value.ownBlock] using hk
    subst hk'
    have : ¬ g < w.heap.size := by omega
    simp [this, n5, n6]
/-- The start. -/
theorem start {w w2 : World} {v0 v1 : Value} {p : PProg} {limit : Int} (hold : Below w.heap.size Old.w0 w) (hp : rProg (· < w.heap.size) w [v0, v1] p) (hs : Since (fun _ => False) w w2) (hz : w2.heap.size = w.heap.size + 3)
    (p0 : w2.cell? ⟨w.heap.size, 0, none⟩ = some v0) (p1 : w2.cell? ⟨w.heap.size, 1, none⟩ = some v1)
    (r0 : w2.cell? ⟨w.heap.size + 1, 0, none⟩ = some (.slice none 0 0)) (r1 : w2.cell? ⟨w.heap.size + 1, 1, none⟩ = some (.int .i64 0)) (rf0 : w2.frozen? ⟨w.heap.size + 1, 0, none⟩ = false) (rf1 : w2.frozen? ⟨w.heap.size + 1, 1, none⟩ = false)
    (s0 : w2.cell? ⟨w.heap.size + 1 + 1, 0, none⟩ = some (.slice none 0 0)) (s1 : w2.cell? ⟨w.heap.size + 1 + 1, 1, none⟩ = some (.int .i64 limit)) (s2 : w2.cell? ⟨w.heap.size + 1 + 1, 2, none⟩ = some (.slice none 0 0))
    (sf0 : w2.frozen? ⟨w.heap.size + 1 + 1, 0, none⟩ = false) (sf2 : w2.frozen? ⟨w.heap.size + 1 + 1, 2, none⟩ = false) :
    ∃ ρ, RunAt ρ w2 w.heap.size w.heap.size (w.heap.size + 1) (w.heap.size + 1 + 1) v0 v1 (.slice none 0 0) (.slice none 0 0) (.slice none 0 0) p limit [] [] [] := by
  refine ⟨fun k => if k = w.heap.size then some .p else if k = w.heap.size + 1 then some .r else some .s, ?_⟩
  have hn : ∀ (e : TypeId) (sz : Nat), w2.ownsRow w.heap.size e sz (.slice none 0 0) 0 [] := fun e sz => ⟨by simp, Or.inl ⟨rfl, rfl⟩⟩
  exact { prog := Good.kept ((hs.keep).weaken (fun k _ hk e => e.elim)) hp
          p0 := p0, p1 := p1, r0 := r0, r1 := r1, rf0 := rf0, rf1 := rf1
          lp := ⟨by simp, by omega⟩
          lr := ⟨by simp, by omega⟩
          ls := by simp; omega
          lw := fun k hk => by simp [Value.ownBlock] at hk
          ll := fun k hk => by simp [Value.ownBlock] at hk
          lc := fun k hk => by simp [Value.ownBlock] at hk
          scene := ⟨s0, s1, s2, sf0, sf2, ⟨by omega, by omega⟩, hn _ _, hn _ _, by simp [Value.ownBlock], by simp [Value.ownBlock], fun k hk => by simp [Value.ownBlock] at hk⟩
          row := hn _ _
          levs := trivial
          big := hs.size
          below := hold.trans (hs.below (Nat.le_refl _) (fun _ e => e.elim)) }
end RunAt
end Go.Proofs.YtaomlfbcfmmhlaaDoor

/-
  Frames of ref.ranOf as arrays of so many slots (printed by wip/gen_frame.py), and its loop's body in parts.
-/
namespace Go.Proofs.YtaomlfbcfmmhlaaDoor
open Go.RowKit Go.Pst
set_option linter.unusedVariables false
set_option linter.unusedSimpArgs false

def slotOf (t : Array Value) (k : Nat) : Value := t.getD k undef
def slotsUp (f : Nat → Value) : Nat → Nat → List Value
  | 0, _ => []
  | n + 1, k => f k :: slotsUp f n (k + 1)
theorem slotsUp_length (f : Nat → Value) : ∀ n k, (slotsUp f n k).length = n
  | 0, _ => rfl
  | n + 1, k => by simp [slotsUp, slotsUp_length f n (k + 1)]
theorem slotsUp_get (f : Nat → Value) : ∀ n k i (h : i < (slotsUp f n k).length), (slotsUp f n k)[i] = f (k + i)
  | 0, _, i, h => absurd h (by simp [slotsUp])
  | n + 1, k, 0, h => rfl
  | n + 1, k, i + 1, h => by
    show (slotsUp f n (k + 1))[i]'_ = _
    rw [slotsUp_get f n (k + 1) i]
    congr 1
    omega
theorem slots_eq {n : Nat} (t : Array Value) (h : t.size = n) : t = ⟨slotsUp (slotOf t) n 0⟩ := by
  apply Array.ext
  · simp [slotsUp_length, h]
  · intro i h1 h2
    show t[i] = (slotsUp (slotOf t) n 0)[i]'(by simpa using h2)
    rw [slotsUp_get]
    simp [slotOf, h1]

set_option maxRecDepth 100000 in
theorem frame473 (t : Array Value) (h : t.size = 473) : t = #[slotOf t 0, slotOf t 1, slotOf t 2, slotOf t 3, slotOf t 4, slotOf t 5, slotOf t 6, slotOf t 7, slotOf t 8, slotOf t 9, slotOf t 10, slotOf t 11, slotOf t 12, slotOf t 13, slotOf t 14, slotOf t 15, slotOf t 16, slotOf t 17, slotOf t 18, slotOf t 19, slotOf t 20, slotOf t 21, slotOf t 22, slotOf t 23, slotOf t 24, slotOf t 25, slotOf t 26, slotOf t 27, slotOf t 28, slotOf t 29, slotOf t 30, slotOf t 31, slotOf t 32, slotOf t 33, slotOf t 34, slotOf t 35, slotOf t 36, slotOf t 37, slotOf t 38, slotOf t 39, slotOf t 40, slotOf t 41, slotOf t 42, slotOf t 43, slotOf t 44, slotOf t 45, slotOf t 46, slotOf t 47, slotOf t 48, slotOf t 49, slotOf t 50, slotOf t 51, slotOf t 52, slotOf t 53, slotOf t 54, slotOf t 55, slotOf t 56, slotOf t 57, slotOf t 58, slotOf t 59, slotOf t 60, slotOf t 61, slotOf t 62, slotOf t 63, slotOf t 64, slotOf t 65, slotOf t 66, slotOf t 67, slotOf t 68, slotOf t 69, slotOf t 70, slotOf t 71, slotOf t 72, slotOf t 73, slotOf t 74, slotOf t 75, slotOf t 76, slotOf t 77, slotOf t 78, slotOf t 79, slotOf t 80, slotOf t 81, slotOf t 82, slotOf t 83, slotOf t 84, slotOf t 85, slotOf t 86, slotOf t 87, slotOf t 88, slotOf t 89, slotOf t 90, slotOf t 91, slotOf t 92, slotOf t 93, slotOf t 94, slotOf t 95, slotOf t 96, slotOf t 97, slotOf t 98, slotOf t 99, slotOf t 100, slotOf t 101, slotOf t 102, slotOf t 103, slotOf t 104, slotOf t 105, slotOf t 106, slotOf t 107, slotOf t 108, slotOf t 109, slotOf t 110, slotOf t 111, slotOf t 112, slotOf t 113, slotOf t 114, slotOf t 115, slotOf t 116, slotOf t 117, slotOf t 118, slotOf t 119, slotOf t 120, slotOf t 121, slotOf t 122, slotOf t 123, slotOf t 124, slotOf t 125, slotOf t 126, slotOf t 127, slotOf t 128, slotOf t 129, slotOf t 130, slotOf t 131, slotOf t 132, slotOf t 133, slotOf t 134, slotOf t 135, slotOf t 136, slotOf t 137, slotOf t 138, slotOf t 139, slotOf t 140, slotOf t 141, slotOf t 142, slotOf t 143, slotOf t 144, slotOf t 145, slotOf t 146, slotOf t 147, slotOf t 148, slotOf t 149, slotOf t 150, slotOf t 151, slotOf t 152, slotOf t 153, slotOf t 154, slotOf t 155, slotOf t 156, slotOf t 157, slotOf t 158, slotOf t 159, slotOf t 160, slotOf t 161, slotOf t 162, slotOf t 163, slotOf t 164, slotOf t 165, slotOf t 166, slotOf t 167, slotOf t 168, slotOf t 169, slotOf t 170, slotOf t 171, slotOf t 172, slotOf t 173, slotOf t 174, slotOf t 175, slotOf t 176, slotOf t 177, slotOf t 178, slotOf t 179, slotOf t 180, slotOf t 181, slotOf t 182, slotOf t 183, slotOf t 184, slotOf t 185, slotOf t 186, slotOf t 187, slotOf t 188, slotOf t 189, slotOf t 190, slotOf t 191, slotOf t 192, slotOf t 193, slotOf t 194, slotOf t 195, slotOf t 196, slotOf t 197, slotOf t 198, slotOf t 199, slotOf t 200, slotOf t 201, slotOf t 202, slotOf t 203, slotOf t 204, slotOf t 205, slotOf t 206, slotOf t 207, slotOf t 208, slotOf t 209, slotOf t 210, slotOf t 211, slotOf t 212, slotOf t 213, slotOf t 214, slotOf t 215, slotOf t 216, slotOf t 217, slotOf t 218, slotOf t 219, slotOf t 220, slotOf t 221, slotOf t 222, slotOf t 223, slotOf t 224, slotOf t 225, slotOf t 226, slotOf t 227, slotOf t 228, slotOf t 229, slotOf t 230, slotOf t 231, slotOf t 232, slotOf t 233, slotOf t 234, slotOf t 235, slotOf t 236, slotOf t 237, slotOf t 238, slotOf t 239, slotOf t 240, slotOf t 241, slotOf t 242, slotOf t 243, slotOf t 244, slotOf t 245, slotOf t 246, slotOf t 247, slotOf t 248, slotOf t 249, slotOf t 250, slotOf t 251, slotOf t 252, slotOf t 253, slotOf t 254, slotOf t 255, slotOf t 256, slotOf t 257, slotOf t 258, slotOf t 259, slotOf t 260, slotOf t 261, slotOf t 262, slotOf t 263, slotOf t 264, slotOf t 265, slotOf t 266, slotOf t 267, slotOf t 268, slotOf t 269, slotOf t 270, slotOf t 271, slotOf t 272, slotOf t 273, slotOf t 274, slotOf t 275, slotOf t 276, slotOf t 277, slotOf t 278, slotOf t 279, slotOf t 280, slotOf t 281, slotOf t 282, slotOf t 283, slotOf t 284, slotOf t 285, slotOf t 286, slotOf t 287, slotOf t 288, slotOf t 289, slotOf t 290, slotOf t 291, slotOf t 292, slotOf t 293, slotOf t 294, slotOf t 295, slotOf t 296, slotOf t 297, slotOf t 298, slotOf t 299, slotOf t 300, slotOf t 301, slotOf t 302, slotOf t 303, slotOf t 304, slotOf t 305, slotOf t 306, slotOf t 307, slotOf t 308, slotOf t 309, slotOf t 310, slotOf t 311, slotOf t 312, slotOf t 313, slotOf t 314, slotOf t 315, slotOf t 316, slotOf t 317, slotOf t 318, slotOf t 319, slotOf t 320, slotOf t 321, slotOf t 322, slotOf t 323, slotOf t 324, slotOf t 325, slotOf t 326, slotOf t 327, slotOf t 328, slotOf t 329, slotOf t 330, slotOf t 331, slotOf t 332, slotOf t 333, slotOf t 334, slotOf t 335, slotOf t 336, slotOf t 337, slotOf t 338, slotOf t 339, slotOf t 340, slotOf t 341, slotOf t 342, slotOf t 343, slotOf t 344, slotOf t 345, slotOf t 346, slotOf t 347, slotOf t 348, slotOf t 349, slotOf t 350, slotOf t 351, slotOf t 352, slotOf t 353, slotOf t 354, slotOf t 355, slotOf t 356, slotOf t 357, slotOf t 358, slotOf t 359, slotOf t 360, slotOf t 361, slotOf t 362, slotOf t 363, slotOf t 364, slotOf t 365, slotOf t 366, slotOf t 367, slotOf t 368, slotOf t 369, slotOf t 370, slotOf t 371, slotOf t 372, slotOf t 373, slotOf t 374, slotOf t 375, slotOf t 376, slotOf t 377, slotOf t 378, slotOf t 379, slotOf t 380, slotOf t 381, slotOf t 382, slotOf t 383, slotOf t 384, slotOf t 385, slotOf t 386, slotOf t 387, slotOf t 388, slotOf t 389, slotOf t 390, slotOf t 391, slotOf t 392, slotOf t 393, slotOf t 394, slotOf t 395, slotOf t 396, slotOf t 397, slotOf t 398, slotOf t 399, slotOf t 400, slotOf t 401, slotOf t 402, slotOf t 403, slotOf t 404, slotOf t 405, slotOf t 406, slotOf t 407, slotOf t 408, slotOf t 409, slotOf t 410, slotOf t 411, slotOf t 412, slotOf t 413, slotOf t 414, slotOf t 415, slotOf t 416, slotOf t 417, slotOf t 418, slotOf t 419, slotOf t 420, slotOf t 421, slotOf t 422, slotOf t 423, slotOf t 424, slotOf t 425, slotOf t 426, slotOf t 427, slotOf t 428, slotOf t 429, slotOf t 430, slotOf t 431, slotOf t 432, slotOf t 433, slotOf t 434, slotOf t 435, slotOf t 436, slotOf t 437, slotOf t 438, slotOf t 439, slotOf t 440, slotOf t 441, slotOf t 442, slotOf t 443, slotOf t 444, slotOf t 445, slotOf t 446, slotOf t 447, slotOf t 448, slotOf t 449, slotOf t 450, slotOf t 451, slotOf t 452, slotOf t 453, slotOf t 454, slotOf t 455, slotOf t 456, slotOf t 457, slotOf t 458, slotOf t 459, slotOf t 460, slotOf t 461, slotOf t 462, slotOf t 463, slotOf t 464, slotOf t 465, slotOf t 466, slotOf t 467, slotOf t 468, slotOf t 469, slotOf t 470, slotOf t 471, slotOf t 472] := slots_eq t h

/-- A part of a code. -/
def _root_.Go.Code.sub : List Nat → Code → Code
  | [], c => c
  | 0 :: p, .seq a _ => Code.sub p a
  | 1 :: p, .seq _ b => Code.sub p b
  | 0 :: p, .cond _ a _ => Code.sub p a
  | 1 :: p, .cond _ _ b => Code.sub p b
  | 0 :: p, .block _ c => Code.sub p c
  | 0 :: p, .loop c => Code.sub p c
  | 0 :: p, .scope c => Code.sub p c
  | _, _ => .skip
noncomputable def ranBody : Code := Code.sub [1, 1, 1, 1, 1, 0, 1, 0, 0] ((Tryd.f64).body.getD .skip)
noncomputable def ranS13 : Code := Code.sub [1, 0, 0, 1] ranBody
noncomputable def ranS17 : Code := Code.sub [1, 1, 1, 1] ranS13
noncomputable def ranS20 : Code := Code.sub [1, 1] ranS17
noncomputable def ranS25 : Code := Code.sub [1] ranS20
/-- What stays in the frame. -/
structure FrameIs (t : Array Value) (fuel : Int) (m : Bool) (bp br bs : Nat) : Prop where
  size : t.size = 473
  s2 : slotOf t 2 = .int .i64 fuel
  s3 : slotOf t 3 = .bool m
  s4 : slotOf t 4 = .pointer (some ⟨bp, 0, none⟩)
  s8 : slotOf t 8 = .pointer (some ⟨br, 0, none⟩)
  s9 : slotOf t 9 = .pointer (some ⟨bs, 0, none⟩)
end Go.Proofs.YtaomlfbcfmmhlaaDoor

/-
  ref.ranOf: a round ahead of the switch: the instruction at hand and its arguments.
-/
namespace Go.Proofs.YtaomlfbcfmmhlaaDoor
open Go.RowKit Go.Pst
set_option linter.unusedVariables false
set_option linter.unusedSimpArgs false

/-- What is known when the instruction at hand has been taken. -/
structure AtInstr [Old] (ρ : Nat → Option Lab) (t : Array Value) (w : World) (fuel : Int) (m : Bool) (base bp br bs bi g cap : Nat) (s13 v0 v1 vW vL u1 u2 u5 : Value) (p : PProg) (limit : Int) (words : List Int) (lines : List ByteArray) (f : Lev) (a : LA) (r : List (Lev × LA)) (i : PInstr) : Prop where
  frame : FrameIs t fuel m bp br bs
  s11 : slotOf t 11 = .slice (some ⟨g, 0, none⟩) (r.length + 1) cap
  s12 : slotOf t 12 = .int .i64 0
  s13 : slotOf t 13 = s13
  s14 : slotOf t 14 = .pointer (some ⟨g, r.length * 6, none⟩)
  s15 : slotOf t 15 = .pointer (some ⟨bi, 0, none⟩)
  box : w.heap[bi]? = some (.cells #[.int .i64 i.op, u1, u2, .int .i64 i.n, .string i.s, u5] 53)
  i1 : rInts (· < base) w [u1] i.ds
  i2 : rInts (· < base) w [u2] i.ars
  i5 : rInts (· < base) w [u5] i.to
  run : RunAt ρ w base bp br bs v0 v1 vW vL (.slice (some ⟨g, 0, none⟩) (r.length + 1) cap) p limit words lines (({ f with at_ := f.at_ + 1 }, a) :: r)
  nb : ρ bi = none
  ini : InI i.op ∧ InI i.n ∧ i.s.size ≤ maxLen
/-- .. and its arguments. -/
structure PreArm [Old] (ρ : Nat → Option Lab) (t : Array Value) (w : World) (fuel : Int) (m : Bool) (base bp br bs bi g cap : Nat) (s13 v0 v1 vW vL u1 u2 u5 : Value) (p : PProg) (limit : Int) (words : List Int) (lines : List ByteArray) (f : Lev) (a : LA) (r : List (Lev × LA)) (i : PInstr) (vX : Value) (xs : List Int) : Prop extends AtInstr ρ t w fuel m base bp br bs bi g cap s13 v0 v1 vW vL u1 u2 u5 p limit words lines f a r i where
  s17 : slotOf t 17 = vX
  row : w.ownsRow base 3 1 vX xs.length (xs.map (Value.int .i64))
  nx : ∀ k, vX.ownBlock = some k → ρ k = none ∧ k ≠ bi

/-- The instruction at hand, in memory. -/
theorem instr_mem {base : Nat} {w : World} {v0 v1 : Value} {p : PProg} {f : Lev} (h : rProg (· < base) w [v0, v1] p) (hL : LevOK p f) : ∃ bF oF cF bB oB cB bI oI cI u1 u2 u5, v0 = .slice (some ⟨bF, oF, none⟩) p.funcs.length cF ∧
      w.cell? ⟨bF, oF + f.fn * 6 + 5, none⟩ = some (.slice (some ⟨bB, oB, none⟩) (codeAt p f.fn).blocks.length cB) ∧ w.cell? ⟨bB, oB + f.block, none⟩ = some (.slice (some ⟨bI, oI, none⟩) (blockAt p f).length cI) ∧
      w.cell? ⟨bI, oI + f.at_ * 6, none⟩ = some (.int .i64 (instrAt p f).op) ∧ w.cell? ⟨bI, oI + f.at_ * 6 + 1, none⟩ = some u1 ∧ w.cell? ⟨bI, oI + f.at_ * 6 + 2, none⟩ = some u2 ∧
      (w.cell? ⟨bI, oI + f.at_ * 6 + 3, none⟩ = some (.int .i64 (instrAt p f).n) ∧ w.cell? ⟨bI, oI + f.at_ * 6 + 4, none⟩ = some (.string (instrAt p f).s)) ∧ w.cell? ⟨bI, oI + f.at_ * 6 + 5, none⟩ = some u5 ∧
      rInts (· < base) w [u1] (instrAt p f).ds ∧ rInts (· < base) w [u2] (instrAt p f).ars ∧ rInts (· < base) w [u5] (instrAt p f).to ∧ bF < base ∧ bB < base ∧ bI < base ∧ (InI (instrAt p f).op ∧ InI (instrAt p f).n ∧ (instrAt p f).s.size ≤ maxLen) := by
  obtain ⟨u, u', hv, hc, -⟩ := h
  obtain ⟨rfl, rfl⟩ : v0 = u ∧ v1 = u' := by simpa using hv
  obtain ⟨aF, cF, rfl, -, -, h⟩ := rCodes_val hc
  obtain ⟨bF, oF, v5, rfl, hS, -, -, -, -, -, -, h5, -, hb⟩ := h f.fn hL.fn
  rw [← codeAt_eq hL.fn] at hb
  obtain ⟨aB, cB, rfl, -, -, h⟩ := rSlice_one hb
  obtain ⟨bB, oB, v6, rfl, hSB, -, hcB, hb⟩ := h f.block hL.bl
  have eb : (codeAt p f.fn).blocks[f.block]'hL.bl = blockAt p f := by
    unfold blockAt
    rw [List.getD_eq_getElem?_getD, List.getElem?_eq_getElem hL.bl]
    rfl
  rw [eb] at hb
  obtain ⟨aI, cI, rfl, -, -, h⟩ := rBlock_val hb
  obtain ⟨bI, oI, u1, u2, u5, rfl, hSI, -, g0, g1, g2, g3, g4, g5, gI, r1, r2, r5⟩ := h f.at_ hL.al
  rw [← hL.instr] at g0 g3 g4 gI r1 r2 r5
  exact ⟨bF, oF, cF, bB, oB, cB, bI, oI, cI, u1, u2, u5, rfl, h5, hcB, g0, g1, g2, ⟨g3, g4⟩, g5, r1, r2, r5, hS, hSB, hSI, gI⟩

variable [Old]
set_option maxRecDepth 100000 in
set_option maxHeartbeats 4000000 in
theorem pre_any (Q : Exit → Act → World → Prop) (ρ : Nat → Option Lab) (t : Array Value) (w : World) (fuel : Int) (m : Bool) (base bp br bs : Nat) (v0 v1 vW vL vC : Value) (p : PProg) (limit : Int) (words : List Int) (lines : List ByteArray) (f : Lev) (a : LA) (r : List (Lev × LA))
    (hF : FrameIs t fuel m bp br bs) (h11 : slotOf t 11 = vC) (h12 : slotOf t 12 = .int .i64 0) (hR : RunAt ρ w base bp br bs v0 v1 vW vL vC p limit words lines ((f, a) :: r)) (hL : LevOK p f) (hs : Sound p m) (hr : r.length < 40)
    (HQ : Hid (∀ ρ' t' w' bi g cap u1 u2 u5, AtInstr ρ' t' w' fuel m base bp br bs bi g cap (slotOf t 13) v0 v1 vW vL u1 u2 u5 p limit words lines f a r (instrAt p f) → slotOf t' 16 = .slice (some ⟨a.gv, 0, none⟩) f.vars.length f.vars.length → ranS17.wp Tryd.prog Q ⟨t', []⟩ w')) :
    ranS13.wp Tryd.prog Q ⟨t, []⟩ w := by
  obtain ⟨g, cap, rfl, hcap, hg1, hg2, hcell⟩ := hR.get
  obtain ⟨q0, -⟩ := hcell 0 _ rfl
  obtain ⟨q1, -⟩ := hcell 1 _ rfl
  obtain ⟨q2, -⟩ := hcell 2 _ rfl
  obtain ⟨q3, -⟩ := hcell 3 _ rfl
  obtain ⟨q4, z4⟩ := hcell 4 _ rfl
  have hp0 := hR.p0
  have hbp := hR.lp.2
  obtain ⟨bF, oF, cF, bB, oB, cB, bI, oI, cI, u1, u2, u5, rfl, e1, e2, e3, e4, e5, ⟨e6, e6'⟩, e7, hI1, hI2, hI5, l0, l1, l2, ⟨hop, hin, hss⟩⟩ := instr_mem hR.prog hL
  have big := hR.big
  have hfn := hL.fn
  have hbl := hL.bl
  have hal := hL.al
  obtain ⟨a1, c1, rfl⟩ := rSlice_shape hI1
  obtain ⟨a2, c2, rfl⟩ := rSlice_shape hI2
  obtain ⟨a5, c5, rfl⟩ := rSlice_shape hI5
  have HR := Lib.hid hR
  have HI1 := Lib.hid hI1
  have HI2 := Lib.hid hI2
  have HI5 := Lib.hid hI5
  have HL := Lib.hid hL
  have HF := Lib.hid hF
  have Hop := Lib.hid hop
  have Hin := Lib.hid hin
  have Hss := Lib.hid hss
  have hbk := (hs.codes _ (codeAt_mem hL.fn)).nb.2
  have hbk2 := ((hs.codes _ (codeAt_mem hL.fn)).blk _ hL.blk).2.1
  have hfl := hs.some_.2
  have hI := instrAt p f
  unfold ranS13
  conv => arg 2; whnf
  rw [frame473 t hF.size, hF.s2, hF.s3, hF.s4, hF.s8, hF.s9, h11, h12]
  clear hR hI1 hI2 hI5 hL hF hcell hop hin hss h11 h12
  generalize hNB : (codeAt p f.fn).blocks.length = nB at *
  generalize hNI : (blockAt p f).length = nI at *
  have HNB := Lib.hid hNB
  have HNI := Lib.hid hNI
  clear hNB hNI
  rw [Nat.add_zero] at q0
  go_upto_region 14 with fail
  go_cut [15] from 82 to 102 (fun s15 wx => s15 = .pointer (some ⟨w.heap.size, 0, none⟩) ∧ wx = (w.alloc (.cells #[.int .i64 (instrAt p f).op, .slice a1 (instrAt p f).ds.length c1, .slice a2 (instrAt p f).ars.length c2, .int .i64 (instrAt p f).n, .string (instrAt p f).s, .slice a5 (instrAt p f).to.length c5] 53)).drew)
  case first =>
    go_region_held3 (fun w' => w'.cell? ⟨bp, 0, none⟩ = some (.slice (some ⟨bF, oF, none⟩) p.funcs.length cF) ∧ w'.cell? ⟨g, r.length * 6, none⟩ = some (.int .i64 f.fn) ∧ w'.cell? ⟨bF, oF + f.fn * 6 + 5, none⟩ = some (.slice (some ⟨bB, oB, none⟩) nB cB) ∧
      w'.cell? ⟨g, r.length * 6 + 3, none⟩ = some (.int .i64 f.block) ∧ w'.cell? ⟨bB, oB + f.block, none⟩ = some (.slice (some ⟨bI, oI, none⟩) nI cI) ∧ w'.cell? ⟨g, r.length * 6 + 4, none⟩ = some (.int .i64 f.at_) ∧
      w'.cell? ⟨bI, oI + f.at_ * 6, none⟩ = some (.int .i64 (instrAt p f).op) ∧ w'.cell? ⟨bI, oI + f.at_ * 6 + 1, none⟩ = some (.slice a1 (instrAt p f).ds.length c1) ∧ w'.cell? ⟨bI, oI + f.at_ * 6 + 2, none⟩ = some (.slice a2 (instrAt p f).ars.length c2) ∧
      w'.cell? ⟨bI, oI + f.at_ * 6 + 3, none⟩ = some (.int .i64 (instrAt p f).n) ∧ w'.cell? ⟨bI, oI + f.at_ * 6 + 4, none⟩ = some (.string (instrAt p f).s) ∧ w'.cell? ⟨bI, oI + f.at_ * 6 + 5, none⟩ = some (.slice a5 (instrAt p f).to.length c5)) (go_keep) (fail)
    all_goals (go_wp2_with fail; go_meet; exact ⟨rfl, rfl⟩)
  case rest =>
    obtain ⟨rfl, rfl⟩ := hcut
    have dq4 : ∀ o, (w.alloc o).cell? ⟨g, r.length * 6 + 4, none⟩ = some (.int .i64 f.at_) := fun o => (World.cell?_alloc_lt _ _ _ hg2).trans q4
    have dz4 : ∀ o, (w.alloc o).frozen? ⟨g, r.length * 6 + 4, none⟩ = false := fun o => (World.frozen?_alloc_past _ _ _ hg2).trans z4
    have dq1 : ∀ o, (w.alloc o).cell? ⟨g, r.length * 6 + 1, none⟩ = some (.slice (some ⟨a.gv, 0, none⟩) f.vars.length f.vars.length) := fun o => (World.cell?_alloc_lt _ _ _ hg2).trans q1
    go_upto_region 16 with fail
    go_cut [16] from 110 to 113 (fun s16 wx => s16 = .slice (some ⟨a.gv, 0, none⟩) f.vars.length f.vars.length ∧ ∃ ρ', RunAt ρ' wx base bp br bs (.slice (some ⟨bF, oF, none⟩) p.funcs.length cF) v1 vW vL (.slice (some ⟨g, 0, none⟩) (r.length + 1) cap) p limit words lines (({ f with at_ := f.at_ + 1 }, a) :: r) ∧ ρ' w.heap.size = none ∧
      wx.heap[w.heap.size]? = some (.cells #[.int .i64 (instrAt p f).op, .slice a1 (instrAt p f).ds.length c1, .slice a2 (instrAt p f).ars.length c2, .int .i64 (instrAt p f).n, .string (instrAt p f).s, .slice a5 (instrAt p f).to.length c5] 53) ∧ Since (fun k => k = g) w wx)
    case first =>
      go_wp2_with fail
      go_meet
      have hR := HR.out
      have h1 := hR.setC (f' := { f with at_ := f.at_ + 1 }) (r.length * 6 + 4) (.int .i64 (f.at_ + 1)) rfl rfl rfl (RunAt.set_lev (by simp [levCells]))
      have s1 := Since.setCell w ⟨g, r.length * 6 + 4, none⟩ (.int .i64 (f.at_ + 1))
      refine ⟨rfl, fun k => if k < w.heap.size then ρ k else none, ((h1.label (fun k hk => by simp only [World.size_setCell] at hk; simp [hk])).since (Since.alloc _ _ _)).since (Since.drew _ _), by simp, ?_, (s1.trans (Since.alloc _ _ _)).trans (Since.drew _ _)⟩
      show ((w.setCell _ _).alloc _).heap[w.heap.size]? = _
      have := heap_alloc_new (w.setCell ⟨g, r.length * 6 + 4, none⟩ (.int .i64 (f.at_ + 1))) (Obj.cells #[.int .i64 (instrAt p f).op, .slice a1 (instrAt p f).ds.length c1, .slice a2 (instrAt p f).ars.length c2, .int .i64 (instrAt p f).n, .string (instrAt p f).s, .slice a5 (instrAt p f).to.length c5] 53)
      simpa using this
    case rest =>
      obtain ⟨rfl, ρ1, hR1, hn1, hbox, hsi⟩ := hcut
      rename_i K hK
      refine hK _ _ ?_
      show ranS17.wp _ Q _ _
      have hB : ∀ k, k = g → base ≤ k := fun k e => by rw [e]; exact hg1
      have hkp : Keep (· < base) w wc := hsi.keep.weaken (fun k _ hk e => absurd (hB k e) (by omega))
      exact HQ.out ρ1 _ wc w.heap.size g cap _ _ _ { frame := ⟨rfl, rfl, rfl, rfl, rfl, rfl⟩, s11 := rfl, s12 := rfl, s13 := rfl, s14 := rfl, s15 := rfl, box := hbox, i1 := Good.kept hkp HI1.out, i2 := Good.kept hkp HI2.out, i5 := Good.kept hkp HI5.out, run := hR1, nb := hn1, ini := ⟨Hop.out, Hin.out, Hss.out⟩ } rfl
end Go.Proofs.YtaomlfbcfmmhlaaDoor

/-
  ref.ranOf: a round ahead of the switch: where the arguments come from; the arguments.
-/
namespace Go.Proofs.YtaomlfbcfmmhlaaDoor
open Go.RowKit Go.Pst
set_option linter.unusedVariables false
set_option linter.unusedSimpArgs false
variable [Old]

def srcBlock (m : Bool) (i : PInstr) (a : LA) : Nat := if m = true ∧ (i.op = 7 ∨ i.op = 12) then a.gs else a.gv

set_option maxRecDepth 100000 in
set_option maxHeartbeats 4000000 in
theorem from_any (Q : Exit → Act → World → Prop) (ρ : Nat → Option Lab) (t : Array Value) (w : World) (fuel : Int) (m : Bool) (base bp br bs bi g cap : Nat) (s13 v0 v1 vW vL u1 u2 u5 : Value) (p : PProg) (limit : Int) (words : List Int) (lines : List ByteArray) (f : Lev) (a : LA) (r : List (Lev × LA)) (i : PInstr)
    (h : AtInstr ρ t w fuel m base bp br bs bi g cap s13 v0 v1 vW vL u1 u2 u5 p limit words lines f a r i) (h16 : slotOf t 16 = .slice (some ⟨a.gv, 0, none⟩) f.vars.length f.vars.length)
    (HQ : Hid (∀ t', AtInstr ρ t' w fuel m base bp br bs bi g cap s13 v0 v1 vW vL u1 u2 u5 p limit words lines f a r i → slotOf t' 16 = .slice (some ⟨srcBlock m i a, 0, none⟩) (f.src m i).length (f.src m i).length → slotOf t' 17 = .slice none 0 0 → ranS20.wp Tryd.prog Q ⟨t', []⟩ w)) :
    ranS17.wp Tryd.prog Q ⟨t, []⟩ w := by
  obtain ⟨g', cap', hv, -, -, -, hcell⟩ := h.run.get
  obtain ⟨rfl, -⟩ : g = g' ∧ cap = cap' := by simpa using hv
  obtain ⟨q2, -⟩ := hcell 2 _ rfl
  have c0 : w.cell? ⟨bi, 0, none⟩ = some (.int .i64 i.op) := by simp [World.cell?, h.box]
  have h11 := h.s11
  have h12 := h.s12
  have h13 := h.s13
  have h14 := h.s14
  have h15 := h.s15
  have H := Lib.hid h
  unfold ranS17
  conv => arg 2; whnf
  rw [frame473 t h.frame.size, h.frame.s2, h.frame.s3, h.frame.s4, h.frame.s8, h.frame.s9, h11, h12, h14, h15, h16]
  subst h13
  clear h hcell hv h11 h12 h14 h15 h16
  have fin : ∀ t' : Array Value, FrameIs t' fuel m bp br bs → slotOf t' 11 = .slice (some ⟨g, 0, none⟩) (r.length + 1) cap → slotOf t' 12 = .int .i64 0 → slotOf t' 13 = slotOf t 13 → slotOf t' 14 = .pointer (some ⟨g, r.length * 6, none⟩) → slotOf t' 15 = .pointer (some ⟨bi, 0, none⟩) →
      AtInstr ρ t' w fuel m base bp br bs bi g cap (slotOf t 13) v0 v1 vW vL u1 u2 u5 p limit words lines f a r i := fun t' k0 k1 k2 k3 k4 k5 => { H.out with frame := k0, s11 := k1, s12 := k2, s13 := k3, s14 := k4, s15 := k5 }
  have FIN := Lib.hid fin
  clear fin
  by_cases hm : m = true ∧ (i.op = 7 ∨ i.op = 12)
  · have e1 : srcBlock m i a = a.gs := by simp [srcBlock, hm]
    have e2 : f.src m i = f.slots := by simp [Lev.src, hm]
    rw [e1, e2] at HQ
    clear e1 e2
    obtain ⟨rfl, hop⟩ := hm
    by_cases h7 : i.op = 7
    · have d7 : (i.op == 7) = true := by simp [h7]
      clear hop
      generalize i.op = op at *
      go_upto_region 19 with fail
      go_cut [17] from 125 to 128 (fun s17 wx => s17 = .slice none 0 0 ∧ wx = w)
      case first =>
        go_wp2_with fail
        go_meet
        exact ⟨rfl, rfl⟩
      case rest =>
        obtain ⟨rfl, rfl⟩ := hcut
        rename_i K hK
        refine hK _ _ ?_
        show ranS20.wp _ Q _ _
        exact HQ.out _ (FIN.out _ ⟨rfl, rfl, rfl, rfl, rfl, rfl⟩ rfl rfl rfl rfl rfl) rfl rfl
    · have h12 : i.op = 12 := by omega
      have d7 : (i.op == 7) = false := by simp [h7]
      have d12 : (i.op == 12) = true := by simp [h12]
      clear hop
      generalize i.op = op at *
      go_upto_region 19 with fail
      go_cut [17] from 125 to 128 (fun s17 wx => s17 = .slice none 0 0 ∧ wx = w)
      case first =>
        go_wp2_with fail
        go_meet
        exact ⟨rfl, rfl⟩
      case rest =>
        obtain ⟨rfl, rfl⟩ := hcut
        rename_i K hK
        refine hK _ _ ?_
        show ranS20.wp _ Q _ _
        exact HQ.out _ (FIN.out _ ⟨rfl, rfl, rfl, rfl, rfl, rfl⟩ rfl rfl rfl rfl rfl) rfl rfl
  · have e1 : srcBlock m i a = a.gv := by simp [srcBlock, hm]
    have e2 : f.src m i = f.vars := by simp [Lev.src, hm]
    rw [e1, e2] at HQ
    clear e1 e2
    cases m with
    | false =>
      clear hm
      go_upto_region 19 with fail
      go_cut [17] from 125 to 128 (fun s17 wx => s17 = .slice none 0 0 ∧ wx = w)
      case first =>
        go_wp2_with fail
        go_meet
        exact ⟨rfl, rfl⟩
      case rest =>
        obtain ⟨rfl, rfl⟩ := hcut
        rename_i K hK
        refine hK _ _ ?_
        show ranS20.wp _ Q _ _
        exact HQ.out _ (FIN.out _ ⟨rfl, rfl, rfl, rfl, rfl, rfl⟩ rfl rfl rfl rfl rfl) rfl rfl
    | true =>
      have d7 : (i.op == 7) = false := by simp at hm ⊢; omega
      have d12 : (i.op == 12) = false := by simp at hm ⊢; omega
      clear hm
      generalize i.op = op at *
      go_upto_region 19 with fail
      go_cut [17] from 125 to 128 (fun s17 wx => s17 = .slice none 0 0 ∧ wx = w)
      case first =>
        go_wp2_with fail
        go_meet
        exact ⟨rfl, rfl⟩
      case rest =>
        obtain ⟨rfl, rfl⟩ := hcut
        rename_i K hK
        refine hK _ _ ?_
        show ranS20.wp _ Q _ _
        exact HQ.out _ (FIN.out _ ⟨rfl, rfl, rfl, rfl, rfl, rfl⟩ rfl rfl rfl rfl rfl) rfl rfl

/-- A block of its own was made or written. -/
theorem AtInstr.next {ρ : Nat → Option Lab} {t : Array Value} {w w' : World} {fuel : Int} {m : Bool} {base bp br bs bi g cap : Nat} {s13 v0 v1 vW vL u1 u2 u5 : Value} {p : PProg} {limit : Int} {words : List Int} {lines : List ByteArray} {f : Lev} {a : LA} {r : List (Lev × LA)} {i : PInstr} {F : Nat → Prop}
    (h : AtInstr ρ t w fuel m base bp br bs bi g cap s13 v0 v1 vW vL u1 u2 u5 p limit words lines f a r i) (hs : Since F w w') (hN : ∀ k, F k → ρ k = none ∧ k ≠ bi) (hB : ∀ k, F k → base ≤ k) :
    AtInstr (fun k => if k < w.heap.size then ρ k else none) t w' fuel m base bp br bs bi g cap s13 v0 v1 vW vL u1 u2 u5 p limit words lines f a r i := by
  have hbi : bi < w.heap.size := (Array.getElem?_eq_some_iff.1 h.box).1
  have hk : Keep (· < base) w w' := hs.keep.weaken (fun k _ hk e => absurd (hB k e) (by omega))
  exact { h with
    box := (hs.block bi hbi (fun e => (hN bi e).2 rfl)).trans h.box
    i1 := Good.kept hk h.i1
    i2 := Good.kept hk h.i2
    i5 := Good.kept hk h.i5
    run := (h.run.label (fun k hk => by simp [hk])).sinceN hs (fun k e => by simp [(hN k e).1]) hB
    nb := by simp [h.nb] }
theorem RunAt.src {ρ : Nat → Option Lab} {w : World} {base bp br bs : Nat} {v0 v1 vW vL vC : Value} {p : PProg} {limit : Int} {words : List Int} {lines : List ByteArray} {f : Lev} {a : LA} {r : List (Lev × LA)} {m : Bool} {i : PInstr} {n : Nat}
    (h : RunAt ρ w base bp br bs v0 v1 vW vL vC p limit words lines (({ f with at_ := n }, a) :: r)) : intRow w base (srcBlock m i a) (f.src m i) := by
  unfold srcBlock Lev.src
  split
  · exact h.levs.1.slots
  · exact h.levs.1.vars

set_option maxRecDepth 100000 in
set_option maxHeartbeats 4000000 in
theorem args_any (Q : Exit → Act → World → Prop) (ρ : Nat → Option Lab) (t : Array Value) (w : World) (fuel : Int) (m : Bool) (base bp br bs bi g cap : Nat) (s13 v0 v1 vW vL u1 u2 u5 : Value) (p : PProg) (limit : Int) (words : List Int) (lines : List ByteArray) (f : Lev) (a : LA) (r : List (Lev × LA)) (i : PInstr)
    (h : AtInstr ρ t w fuel m base bp br bs bi g cap s13 v0 v1 vW vL u1 u2 u5 p limit words lines f a r i) (h16 : slotOf t 16 = .slice (some ⟨srcBlock m i a, 0, none⟩) (f.src m i).length (f.src m i).length) (h17 : slotOf t 17 = .slice none 0 0)
    (hA : i.op ≠ 21 → Ins i.ars (f.src m i).length) (hAl : i.ars.length ≤ 40000) (hSl : (f.src m i).length ≤ 40000)
    (HQ : Hid (∀ ρ' t' w' vX, PreArm ρ' t' w' fuel m base bp br bs bi g cap s13 v0 v1 vW vL u1 u2 u5 p limit words lines f a r i vX (argsF m f i) → ranS25.wp Tryd.prog Q ⟨t', []⟩ w')) :
    ranS20.wp Tryd.prog Q ⟨t, []⟩ w := by
  have c0 : w.cell? ⟨bi, 0, none⟩ = some (.int .i64 i.op) := by simp [World.cell?, h.box]
  have h11 := h.s11
  have h12 := h.s12
  have h13 := h.s13
  have h14 := h.s14
  have h15 := h.s15
  obtain ⟨i0, hi, hz0, hz1, hz2⟩ := info_parts info_int
  have H := Lib.hid h
  unfold ranS20
  conv => arg 2; whnf
  rw [frame473 t h.frame.size, h.frame.s2, h.frame.s3, h.frame.s4, h.frame.s8, h.frame.s9, h11, h12, h14, h15, h16, h17]
  subst h13
  clear h h11 h12 h14 h15 h16 h17
  have fin : ∀ (t' : Array Value) (ρ' : Nat → Option Lab) (w' : World) (vX : Value), AtInstr ρ' t w' fuel m base bp br bs bi g cap (slotOf t 13) v0 v1 vW vL u1 u2 u5 p limit words lines f a r i → FrameIs t' fuel m bp br bs → slotOf t' 11 = .slice (some ⟨g, 0, none⟩) (r.length + 1) cap → slotOf t' 12 = .int .i64 0 → slotOf t' 13 = slotOf t 13 → slotOf t' 14 = .pointer (some ⟨g, r.length * 6, none⟩) → slotOf t' 15 = .pointer (some ⟨bi, 0, none⟩) → slotOf t' 17 = vX →
      w'.ownsRow base 3 1 vX (argsF m f i).length ((argsF m f i).map (Value.int .i64)) → (∀ k, vX.ownBlock = some k → ρ' k = none ∧ k ≠ bi) →
      PreArm ρ' t' w' fuel m base bp br bs bi g cap (slotOf t 13) v0 v1 vW vL u1 u2 u5 p limit words lines f a r i vX (argsF m f i) := fun t' ρ' w' vX h k0 k1 k2 k3 k4 k5 k6 k7 k8 => { h with frame := k0, s11 := k1, s12 := k2, s13 := k3, s14 := k4, s15 := k5, s17 := k6, row := k7, nx := k8 }
  have FIN := Lib.hid fin
  clear fin
  by_cases h21 : i.op = 21
  · have d21 : (i.op != 21) = false := by simp [h21]
    have e : argsF m f i = [] := by simp [argsF, h21]
    rw [e] at FIN HQ
    clear hA e
    have H0 := Lib.hid (show w.ownsRow base 3 1 (.slice none 0 0) 0 ([].map (Value.int .i64)) from ⟨by simp, Or.inl ⟨rfl, rfl⟩⟩)
    generalize i.op = op at *
    go_upto_if 131 with fail
    go_cut [17, 18] from 132 to 149 (fun s17 s18 wx => s17 = .slice none 0 0 ∧ wx = w)
    case first =>
      go_wp2_with fail
      go_meet
      exact ⟨rfl, rfl⟩
    case rest =>
      obtain ⟨rfl, rfl⟩ := hcut
      rename_i K hK
      refine hK _ _ ?_
      show ranS25.wp _ Q _ _
      exact HQ.out _ _ _ _ (FIN.out _ _ _ _ H.out ⟨rfl, rfl, rfl, rfl, rfl, rfl⟩ rfl rfl rfl rfl rfl rfl H0.out (fun k hk => nomatch (show (none : Option Nat) = some k from hk)))
  · have d21 : (i.op != 21) = true := by simp [h21]
    have hA' := hA h21
    have e : argsF m f i = i.ars.map (getI (f.src m i)) := by simp [argsF, h21]
    rw [e] at FIN HQ
    clear hA e
    have hbase := H.out.run.big
    have hbi : bi < w.heap.size := (Array.getElem?_eq_some_iff.1 H.out.box).1
    go_upto_if 131 with fail
    go_cut [17, 18] from 132 to 149 (fun s17 s18 wx => ∃ ρ', AtInstr ρ' t wx fuel m base bp br bs bi g cap (slotOf t 13) v0 v1 vW vL u1 u2 u5 p limit words lines f a r i ∧ wx.ownsRow base 3 1 s17 (i.ars.map (getI (f.src m i))).length ((i.ars.map (getI (f.src m i))).map (Value.int .i64)) ∧ (∀ k, s17.ownBlock = some k → ρ' k = none ∧ k ≠ bi))
    case first =>
      obtain ⟨a2, c2, rfl, hc2, hm2, -⟩ := rInts_val H.out.i2
      go_wp2_with fail
      go_loopw [17, 18] (fun vX s wr => ∃ k : Nat, k ≤ i.ars.length ∧ s = .int .i64 k ∧ ∃ ρ', AtInstr ρ' t wr fuel m base bp br bs bi g cap (slotOf t 13) v0 v1 vW vL u1 (.slice a2 i.ars.length c2) u5 p limit words lines f a r i ∧ wr.ownsRow base 3 1 vX k (((i.ars.take k).map (getI (f.src m i))).map (Value.int .i64)) ∧ (∀ k, vX.ownBlock = some k → ρ' k = none ∧ k ≠ bi)) (fun _ s _ => i.ars.length - (intOf s).toNat)
      case atStart => exact ⟨0, Nat.zero_le _, rfl, ρ, H.out, ⟨by simp, Or.inl ⟨rfl, rfl⟩⟩, fun k hk => nomatch (show (none : Option Nat) = some k from hk)⟩
      case round =>
        obtain ⟨k, hk, rfl, ρ', hAt, hrow, hnx⟩ := hrel
        have cb : wr.cell? ⟨bi, 2, none⟩ = some (.slice a2 i.ars.length c2) := by simp [World.cell?, hAt.box]
        by_cases hlt : k < i.ars.length
        · have hlt1 : (k : Int) < i.ars.length := by omega
          have hk0 : (0 : Int) ≤ k := by omega
          obtain ⟨a2', c2', hv2, -, -, h2⟩ := rInts_val hAt.i2
          obtain ⟨b2, o2, ha2, hb2, hb2', hcx, -⟩ := h2 k hlt
          obtain rfl : a2 = some ⟨b2, o2, none⟩ := by rw [(Value.slice.inj hv2).1, ha2]
          have hin := hA' _ (List.getElem_mem hlt)
          have hsrc := hAt.run.src (m := m) (i := i)
          obtain ⟨j, hj⟩ := Int.eq_ofNat_of_zero_le hin.1
          have hjl : j < (f.src m i).length := by omega
          have hjl1 : (j : Int) < (f.src m i).length := by omega
          have hj0 : (0 : Int) ≤ j := by omega
          obtain ⟨gS, cS, hvS, -, -, -, hcS, -⟩ := row_get hsrc (i := j) (u := .int .i64 (f.src m i)[j]) (by simp [hjl])
          obtain rfl : srcBlock m i a = gS := by simpa using (Value.slice.inj hvS).1
          rw [hj] at hcx
          obtain ⟨aX, cX, rfl, hx1, hx2⟩ := row_slice hrow
          have hX := Lib.hid hAt
          have HX := Lib.hid hnx
          have Hta := Lib.hid (show ((i.ars.take k).map (getI (f.src m i))).map (Value.int .i64) ++ [.int .i64 (f.src m i)[j]] = ((i.ars.take (k + 1)).map (getI (f.src m i))).map (Value.int .i64) by
            rw [List.take_succ_eq_append_getElem hlt]
            simp only [List.map_append, List.map_cons, List.map_nil, hj]
            have : getI (f.src m i) (j : Int) = (f.src m i)[j] := by
              unfold getI
              rw [Int.toNat_natCast, List.getD_eq_getElem?_getD, List.getElem?_eq_getElem hjl]
              rfl
            rw [this])
          clear hAt hnx h2 hv2 ha2 hvS hj hin hsrc hA'
          generalize (f.src m i)[j] = x at *
          generalize ((i.ars.take k).map (getI (f.src m i))).map (Value.int .i64) = ys at *
          go_wp2_with (at_builtin; refine wpList_append_own_at _ rfl _ _ 23 rfl base 3 i0 (.int .i64 0) 1 8 Tryd.underlying23 hi hz0 hz1 hz2 rfl (by decide) _ _ _ rfl (hrow.alloc _) ⟨wr.heap.size, 0, none⟩ 1 1 [.int .i64 x] rfl rfl (cell_one_new _ _ _) (ints_oneCell .i64 [x]) (by unfold maxLen; omega) (by omega) (by have := hX.out.run.big; simp; omega) ?_)
          intro v' w1 hown' hgrow _ hloc
          obtain ⟨gg, cg, rfl⟩ : ∃ gg cg, v' = .slice (some ⟨gg, 0, none⟩) (k + 1) cg := by
            rcases hown'.2 with ⟨_, h⟩ | ⟨gg, cap', _, h, _⟩
            · omega
            · exact ⟨gg, cap', h⟩
          have s1 : Since (fun k' => (Value.slice aX k cX).ownBlock = some k') wr w1 := (Since.alloc _ _ _).trans (Since.grown hgrow)
          have hlt2 : ∀ k', (Value.slice aX k cX).ownBlock = some k' → base ≤ k' ∧ k' < wr.heap.size := hrow.lt
          have hq := hX.out.next s1 (fun k' e => HX.out k' e) (fun k' e => (hlt2 k' e).1)
          have hn : ∀ k', (Value.slice (some ⟨gg, 0, none⟩) (k + 1) cg).ownBlock = some k' → (fun k' => if k' < wr.heap.size then ρ' k' else none) k' = none ∧ k' ≠ bi := by
            intro k' e
            have hbi' : bi < wr.heap.size := (Array.getElem?_eq_some_iff.1 hX.out.box).1
            rcases hloc with e2 | e2
            · rw [e2] at e
              have := HX.out k' e
              exact ⟨by simp [this.1], this.2⟩
            · rw [e2] at e
              have e' : wr.heap.size + 1 = k' := by simpa using e
              have n1 : ¬ k' < wr.heap.size := by omega
              exact ⟨by simp [n1], by omega⟩
          have Hq := Lib.hid hq
          have Hn := Lib.hid hn
          clear hq hn hlt2 s1 hloc hgrow
          go_wp2_with fail
          refine ⟨⟨k + 1, by omega, by simp, _, Hq.out, ?_, Hn.out⟩, by simp only [intOf]; omega⟩
          rw [← Hta.out]
          exact hown'
        · have hke : k = i.ars.length := by omega
          subst hke
          have hlt1 : ¬ ((i.ars.length : Int) < i.ars.length) := by omega
          have hX := Lib.hid hAt
          have HX := Lib.hid hnx
          have HR := Lib.hid hrow
          clear hAt hnx hrow
          go_wp2_with fail
          go_meet
          refine ⟨ρ', hX.out, ?_, HX.out⟩
          have := HR.out
          rw [List.take_length] at this
          rw [List.length_map]
          exact this
    case rest =>
      obtain ⟨ρ', hAt, hrow, hnx⟩ := hcut
      rename_i K hK
      refine hK _ _ ?_
      show ranS25.wp _ Q _ _
      exact HQ.out _ _ _ _ (FIN.out _ _ _ _ hAt ⟨rfl, rfl, rfl, rfl, rfl, rfl⟩ rfl rfl rfl rfl rfl rfl hrow hnx)
end Go.Proofs.YtaomlfbcfmmhlaaDoor

/-
  ref.ranOf: arms of the switch: constants, moves, slots.
-/
namespace Go.Proofs.YtaomlfbcfmmhlaaDoor
open Go.RowKit Go.Pst
set_option linter.unusedVariables false
set_option linter.unusedSimpArgs false
variable [Old]

def stateOf (words : List Int) (lines : List ByteArray) (fr : List (Lev × LA)) : Mach := ⟨words, lines, fr.map (·.1)⟩
/-- What a step leaves. -/
def StepPost (t : Array Value) (w : World) (fuel : Int) (m : Bool) (base bp br bs : Nat) (s13 v0 v1 : Value) (p : PProg) (limit : Int) (o : Int × Mach) : Prop :=
  FrameIs t fuel m bp br bs ∧ slotOf t 13 = s13 ∧ slotOf t 12 = .int .i64 o.1 ∧ ∃ ρ vW vL fr, RunAt ρ w base bp br bs v0 v1 vW vL (slotOf t 11) p limit o.2.words o.2.lines fr ∧ fr.map (·.1) = o.2.frames

set_option maxRecDepth 100000 in
set_option maxHeartbeats 4000000 in
theorem arm_const (Q : Exit → Act → World → Prop) (ρ : Nat → Option Lab) (t : Array Value) (w : World) (fuel : Int) (m : Bool) (base bp br bs bi g cap : Nat) (s13 v0 v1 vW vL u1 u2 u5 vX : Value) (p : PProg) (limit : Int) (words : List Int) (lines : List ByteArray) (f : Lev) (a : LA) (r : List (Lev × LA)) (i : PInstr) (xs : List Int)
    (h : PreArm ρ t w fuel m base bp br bs bi g cap s13 v0 v1 vW vL u1 u2 u5 p limit words lines f a r i vX xs) (hi : i = instrAt p f) (hx : xs = argsF m f i) (e : i.op = 1) (d : Nat) (hd : i.ds = [(d : Int)]) (hdl : d < f.vars.length)
    (HQ : Hid (∀ t' w', StepPost t' w' fuel m base bp br bs s13 v0 v1 p limit (stepF p m limit (stateOf words lines ((f, a) :: r))) → Q .normal ⟨t', []⟩ w')) :
    ranS25.wp Tryd.prog Q ⟨t, []⟩ w := by
  have hst : stepF p m limit (stateOf words lines ((f, a) :: r)) = (0, ⟨words, lines, Lev.setV { f with at_ := f.at_ + 1 } i i.n :: r.map (·.1)⟩) := by
    unfold stepF stateOf
    simp only [List.map_cons, ← hi, e, if_true]
  rw [hst] at HQ
  have hcut : True := trivial
  obtain ⟨g', cap', hv, -, -, hgl, hcell⟩ := h.run.get
  obtain ⟨rfl, -⟩ : g = g' ∧ cap = cap' := by simpa using hv
  have q1 : w.cell? ⟨g, r.length * 6 + 1, none⟩ = some (.slice (some ⟨a.gv, 0, none⟩) f.vars.length f.vars.length) := (hcell 1 _ rfl).1
  have hbl : bi < w.heap.size := (Array.getElem?_eq_some_iff.1 h.box).1
  have b0 : w.cell? ⟨bi, 0, none⟩ = some (.int .i64 1) := by simp [World.cell?, h.box, e]
  have b1 : w.cell? ⟨bi, 1, none⟩ = some u1 := by simp [World.cell?, h.box]
  have b3 : w.cell? ⟨bi, 3, none⟩ = some (.int .i64 i.n) := by simp [World.cell?, h.box]
  obtain ⟨bD, oD, cD, rfl, hD1, hD2⟩ : ∃ bD oD cD, u1 = .slice (some ⟨bD, oD, none⟩) 1 cD ∧ bD < base ∧ w.cell? ⟨bD, oD, none⟩ = some (.int .i64 d) := by
    obtain ⟨aD, cD, hv, -, -, hh⟩ := rInts_val h.i1
    rw [hd] at hv hh
    obtain ⟨b, o, rfl, hb, -, hc, -⟩ := hh 0 (by simp)
    exact ⟨b, o, cD, hv, hb, hc⟩
  obtain ⟨_, _, hv2, -, -, hvl, hvc, hvz⟩ := row_get h.run.levs.1.vars (i := d) (u := .int .i64 f.vars[d]) (by simp [hdl])
  obtain ⟨rfl, -⟩ : a.gv = _ ∧ _ := by simpa using hv2
  have hd0 : (0 : Int) ≤ d := by omega
  have hd1 : (d : Int) < f.vars.length := by omega
  have n1 : ¬ g = a.gv := fun e => by have h1 := h.run.lc g rfl; rw [e, h.run.levs.1.lv] at h1; simp at h1
  have n2 : ¬ bi = a.gv := fun e => by have h1 := h.nb; rw [e, h.run.levs.1.lv] at h1; simp at h1
  have n3 : ¬ bD = a.gv := fun e => by have h1 : base ≤ a.gv := (h.run.levs.1.vars.lt _ rfl).1; omega
  have hk : ∀ b o u, ¬ b = a.gv → (w.setCell ⟨a.gv, d, none⟩ u).cell? ⟨b, o, none⟩ = w.cell? ⟨b, o, none⟩ := fun b o u hb => World.cell?_of_block (w := w) (Below.heap_setCell _ _ _ _ hb)
  have k1 := fun u => (hk g (r.length * 6 + 1) u n1).trans q1
  have k2 := fun u => (hk bi 1 u n2).trans b1
  have k3 := fun u => (hk bD oD u n3).trans hD2
  have k4 := fun u => (hk bi 3 u n2).trans b3
  have H := Lib.hid h
  unfold ranS25
  conv => arg 2; whnf
  rw [frame473 t h.frame.size, h.frame.s2, h.frame.s3, h.frame.s4, h.frame.s8, h.frame.s9, h.s11, h.s12, h.s14, h.s15, h.s17]
  have h13 := h.s13
  subst h13
  have Hd := Lib.hid hd
  clear hk h hcell hv hv2 hx hd hst e hi
  generalize f.vars[d] = old at *
  go_upto_region 29 with fail
  go_region_held3 (fun w' => w'.cell? ⟨g, r.length * 6 + 1, none⟩ = some (.slice (some ⟨a.gv, 0, none⟩) f.vars.length f.vars.length) ∧ w'.cell? ⟨bi, 1, none⟩ = some (.slice (some ⟨bD, oD, none⟩) 1 cD) ∧ w'.cell? ⟨bD, oD, none⟩ = some (.int .i64 d) ∧ w'.cell? ⟨bi, 3, none⟩ = some (.int .i64 i.n)) (go_keep) (fail)
  all_goals go_wp2_with fail
  exact HQ.out _ _ ⟨⟨rfl, rfl, rfl, rfl, rfl, rfl⟩, rfl, rfl, ρ, vW, vL, _, (H.out.run.setV d i.n).since (Since.drew _ _), by simp [Lev.setV, getI, Hd.out]⟩
end Go.Proofs.YtaomlfbcfmmhlaaDoor

/-
  Texts joined: YMem.
-/
import Derived.Test.YtaomlfbcfmmhlaaDoorTCB

/-
  The typer of package posternref in memory: its box, its three rows (names, types, marks); what a store, a longer row, a shorter row do to it.
-/
namespace Go.Pst
open Go.RowKit
set_option linter.unusedVariables false
set_option linter.unusedSimpArgs false

/-- All names of scopes, the outermost first. -/
def flatG : List Scope → Scope
  | [] => []
  | g :: r => flatG r ++ g
def marksG : List Scope → List Int
  | [] => []
  | g :: r => marksG r ++ [((flatG r).length : Int)]
theorem marksG_length : ∀ G : List Scope, (marksG G).length = G.length
  | [] => rfl
  | g :: r => by simp [marksG, marksG_length r]
/-- No name is twice in a scope. -/
def UniqG (G : List Scope) : Prop := ∀ g ∈ G, (g.map (·.1)).Nodup
theorem lookT_none {g : Scope} {s : ByteArray} (h : ∀ i (hi : i < g.length), g[i].1 ≠ s) : lookT g s = none := by
  induction g with
  | nil => rfl
  | cons p r ih =>
    obtain ⟨k, t⟩ := p
    unfold lookT
    rw [if_neg (show ¬ k = s from h 0 (by simp))]
    exact ih (fun i hi => h (i + 1) (by simp; omega))
theorem lookT_at {g : Scope} {s : ByteArray} (hu : (g.map (·.1)).Nodup) {i : Nat} (hi : i < g.length) (h : g[i].1 = s) : lookT g s = some g[i].2 := by
  induction g generalizing i with
  | nil => simp at hi
  | cons p r ih =>
    obtain ⟨k, t⟩ := p
    unfold lookT
    cases i with
    | zero => rw [if_pos (show k = s from h)]; rfl
    | succ i =>
      simp only [List.map_cons, List.nodup_cons] at hu
      have hi' : i < r.length := by simpa using hi
      have hn : ¬ k = s := fun e => hu.1 (by rw [e, ← h]; exact List.mem_map.2 ⟨r[i], List.getElem_mem hi', rfl⟩)
      rw [if_neg hn]
      exact ih hu.2 hi' h
theorem findT_none {G : List Scope} {s : ByteArray} (h : ∀ i (hi : i < (flatG G).length), (flatG G)[i].1 ≠ s) : findT G s = none := by
  induction G with
  | nil => rfl
  | cons g r ih =>
    unfold findT
    have h1 : lookT g s = none := lookT_none (fun i hi => by
      have := h ((flatG r).length + i) (by simp [flatG]; omega)
      simpa [flatG, List.getElem_append_right] using this)
    rw [h1]
    exact ih (fun i hi => by
      have := h i (by simp [flatG]; omega)
      rw [show (flatG (g :: r))[i]'(by simp [flatG]; omega) = (flatG r)[i] from List.getElem_append_left hi] at this
      exact this)
/-- The last one of a name counts. -/
theorem findT_at {G : List Scope} {s : ByteArray} (hu : UniqG G) {i : Nat} (hi : i < (flatG G).length) (h : (flatG G)[i].1 = s) (hl : ∀ j (hj : j < (flatG G).length), i < j → (flatG G)[j].1 ≠ s) : findT G s = some (flatG G)[i].2 := by
  induction G with
  | nil => simp [flatG] at hi
  | cons g r ih =>
    unfold findT
    by_cases hir : i < (flatG r).length
    · have e : (flatG (g :: r))[i]'hi = (flatG r)[i] := List.getElem_append_left hir
      have h1 : lookT g s = none := lookT_none (fun k hk => by
        have := hl ((flatG r).length + k) (by simp [flatG]; omega) (by omega)
        simpa [flatG, List.getElem_append_right] using this)
      rw [h1, e]
      refine ih (fun g' hg' => hu g' (List.mem_cons_of_mem _ hg')) hir (e ▸ h) (fun j hj hij => ?_)
      have := hl j (by simp [flatG]; omega) hij
      rw [show (flatG (g :: r))[j]'(by simp [flatG]; omega) = (flatG r)[j] from List.getElem_append_left hj] at this
      exact this
    · have hk : i - (flatG r).length < g.length := by simp [flatG] at hi; omega
      have e : (flatG (g :: r))[i]'hi = g[i - (flatG r).length] := List.getElem_append_right (by omega)
      rw [lookT_at (hu g (by simp)) hk (e ▸ h), e]

/-- What the typer knows. -/
structure YSt where
  ns : List ByteArray
  ts : List Int
  ms : List Int
  loops : Int
  depth : Int
def YSt.of (G : List Scope) (loops depth : Int) : YSt := ⟨(flatG G).map (·.1), (flatG G).map (·.2), marksG G, loops, depth⟩
def yVals (s : YSt) (j : Fin 3) : List Value := if j = 0 then s.ns.map Value.string else if j = 1 then s.ts.map (Value.int .i64) else s.ms.map (Value.int .i64)
def upd3 (V : Fin 3 → Value) (j : Fin 3) (v : Value) : Fin 3 → Value := fun i => if i = j then v else V i
theorem upd3_same (V : Fin 3 → Value) (j : Fin 3) (v : Value) : upd3 V j v j = v := if_pos rfl
theorem upd3_other (V : Fin 3 → Value) {i j : Fin 3} (v : Value) (h : i ≠ j) : upd3 V j v i = V i := if_neg h
theorem own_slice (a : Option Addr) (n m c : Nat) : (Value.slice a n c).ownBlock = (Value.slice a m c).ownBlock := by
  unfold Value.ownBlock
  cases a with
  | none => rfl
  | some ad => rfl
theorem fin3_ne {j : Fin 3} {p : Fin 3 → Prop} (h0 : 0 ≠ j → p 0) (h1 : 1 ≠ j → p 1) (h2 : 2 ≠ j → p 2) : ∀ i, i ≠ j → p i := by
  intro i
  match i with
  | 0 => exact h0
  | 1 => exact h1
  | 2 => exact h2
/-- A shorter slice of an owned row, nil too. -/
theorem rowShorter {w : World} {base n m : Nat} {e : TypeId} {a : Option Addr} {cap : Nat} {xs : List Value} (h : w.ownsRow base e 1 (.slice a n cap) n xs) (hm : m ≤ n) :
    w.ownsRow base e 1 (.slice a m cap) m (xs.take m) := by
  rcases id h.2 with ⟨h0, rfl⟩ | ⟨g, cap', cur, hv, hb, hg, h1, h2, h3, h4⟩
  · obtain ⟨rfl, -, rfl⟩ := Value.slice.inj h0
    obtain rfl : m = 0 := by omega
    exact ⟨by simp, Or.inl ⟨rfl, rfl⟩⟩
  · obtain ⟨rfl, -, rfl⟩ := Value.slice.inj hv
    have := rowShort h hm
    rwa [Nat.mul_one] at this
end Go.Pst
namespace Go.Proofs.YtaomlfbcfmmhlaaDoor
open Go.RowKit Go.Pst
set_option linter.unusedVariables false
set_option linter.unusedSimpArgs false

def yTy (j : Fin 3) : TypeId := if j = 0 then 9 else 3
/-- The typer's blocks. -/
def YM (by_ : Nat) (V : Fin 3 → Value) (k : Nat) : Prop := k = by_ ∨ ∃ j, (V j).ownBlock = some k
structure YAt (w : World) (base by_ : Nat) (vf : Value) (cf : List Value) (V : Fin 3 → Value) (s : YSt) : Prop where
  c0 : w.cell? ⟨by_, 0, none⟩ = some vf
  cl : cf.length = 4
  c1 : ∀ j (h : j < cf.length), w.cell? ⟨by_, 1 + j, none⟩ = some cf[j]
  cR : ∀ j : Fin 3, w.cell? ⟨by_, 5 + j.1, none⟩ = some (V j)
  c8 : w.cell? ⟨by_, 8, none⟩ = some (.int .i64 s.loops)
  c9 : w.cell? ⟨by_, 9, none⟩ = some (.int .i64 s.depth)
  z : ∀ j, w.frozen? ⟨by_, j, none⟩ = false
  lb : base ≤ by_ ∧ by_ < w.heap.size
  rows : ∀ j : Fin 3, w.ownsRow base (yTy j) 1 (V j) (yVals s j).length (yVals s j)
  ne : ∀ j, (V j).ownBlock ≠ some by_
  sep : ∀ i j, i ≠ j → ∀ k, (V i).ownBlock = some k → (V j).ownBlock ≠ some k
  big : base ≤ w.heap.size
namespace YAt
variable {w w' : World} {base by_ : Nat} {vf : Value} {cf : List Value} {V : Fin 3 → Value} {s : YSt} {F : Nat → Prop}
theorem mem_lt (h : YAt w base by_ vf cf V s) {k : Nat} (hk : YM by_ V k) : base ≤ k ∧ k < w.heap.size := by
  rcases hk with rfl | ⟨j, hk⟩
  · exact h.lb
  · exact (h.rows j).lt k hk
theorem since (h : YAt w base by_ vf cf V s) (hs : Since F w w') (hF : ∀ k, F k → ¬ YM by_ V k) : YAt w' base by_ vf cf V s := by
  have hb : ¬ F by_ := fun f => hF _ f (Or.inl rfl)
  have hc := fun j => hs.cell (o := j) h.lb.2 hb
  exact { c0 := (hc _).trans h.c0, cl := h.cl, c1 := fun j hj => (hc _).trans (h.c1 j hj), cR := fun j => (hc _).trans (h.cR j), c8 := (hc _).trans h.c8, c9 := (hc _).trans h.c9, z := fun j => (hs.frozen h.lb.2 hb).trans (h.z j), lb := ⟨h.lb.1, Nat.lt_of_lt_of_le h.lb.2 hs.size⟩, rows := fun j => hs.row (h.rows j) (fun k hk f => hF k f (Or.inr ⟨j, hk⟩)), ne := h.ne, sep := h.sep, big := Nat.le_trans h.big hs.size }
theorem vals_set {s s' : YSt} (h1 : s'.ns = s.ns) (h2 : s'.ts = s.ts) (h3 : s'.ms = s.ms) (j : Fin 3) : yVals s' j = yVals s j := by unfold yVals; rw [h1, h2, h3]
/-- A number of the typer's box is set. -/
theorem set (h : YAt w base by_ vf cf V s) (j : Nat) (x : Int) (s' : YSt) (h1 : s'.ns = s.ns) (h2 : s'.ts = s.ts) (h3 : s'.ms = s.ms) (hj : j = 8 ∨ j = 9) (h8 : s'.loops = if j = 8 then x else s.loops) (h9 : s'.depth = if j = 9 then x else s.depth) :
    YAt (w.setCell ⟨by_, j, none⟩ (.int .i64 x)) base by_ vf cf V s' := by
  have hs : Since (fun k => k = by_) w (w.setCell ⟨by_, j, none⟩ (.int .i64 x)) := Since.setCell w ⟨by_, j, none⟩ (.int .i64 x)
  have get : ∀ i y v, w.cell? ⟨by_, i, none⟩ = some y → (if j = i then v = .int .i64 x else v = y) → (w.setCell ⟨by_, j, none⟩ (.int .i64 x)).cell? ⟨by_, i, none⟩ = some v := by
    intro i y v hi hv
    by_cases e : j = i
    · subst e
      rw [if_pos rfl] at hv
      subst hv
      exact World.cell?_setCell_same _ _ _ hi
    · rw [if_neg e] at hv
      subst hv
      rw [World.cell?_setCell_other (h := fun h => e (by injection h))]
      exact hi
  have far : ∀ i y, i < 8 → w.cell? ⟨by_, i, none⟩ = some y → (w.setCell ⟨by_, j, none⟩ (.int .i64 x)).cell? ⟨by_, i, none⟩ = some y := fun i y hi hy => get i y y hy (by rw [if_neg (by omega)])
  exact { c0 := far _ _ (by decide) h.c0, cl := h.cl, c1 := fun k hk => far _ _ (by have := h.cl; omega) (h.c1 k hk), cR := fun i => far _ _ (by have := i.2; omega) (h.cR i), c8 := get _ _ _ h.c8 (by split <;> simp_all), c9 := get _ _ _ h.c9 (by split <;> simp_all), z := fun i => (by rw [World.frozen?_setCell]; exact h.z i), lb := ⟨h.lb.1, by simpa using h.lb.2⟩, rows := fun i => by rw [vals_set h1 h2 h3 i]; exact hs.row (h.rows i) (fun k hk e => h.ne i (by rw [hk, show k = by_ from e])), ne := h.ne, sep := h.sep, big := by simpa using h.big }
def NewY (w : World) (by_ : Nat) (V V' : Fin 3 → Value) : Prop := ∀ k, YM by_ V' k → YM by_ V k ∨ w.heap.size ≤ k
theorem NewY.refl (w : World) (by_ : Nat) (V : Fin 3 → Value) : NewY w by_ V V := fun k h => Or.inl h
theorem NewY.trans {w w1 : World} {by_ : Nat} {V V1 V2 : Fin 3 → Value} (h : NewY w by_ V V1) (h' : NewY w1 by_ V1 V2) (hs : w.heap.size ≤ w1.heap.size) : NewY w by_ V V2 := fun k hk => by
  rcases h' k hk with e | e
  · exact h k e
  · exact Or.inr (by omega)
theorem NewY.since {w w1 w2 : World} {by_ : Nat} {V V1 : Fin 3 → Value} (h : NewY w by_ V V1) (s1 : Since (YM by_ V) w w1) (s2 : Since (YM by_ V1) w1 w2) : Since (YM by_ V) w w2 := s1.then_new s2 h
/-- A row has been written anew, and the box names it. -/
theorem put (h : YAt w base by_ vf cf V s) (j : Fin 3) {w2 : World} {v' : Value} {s' : YSt} (hs1 : Since (fun k => (V j).ownBlock = some k) w w2)
    (ho : w2.ownsRow base (yTy j) 1 v' (yVals s' j).length (yVals s' j)) (hloc : ∀ k, v'.ownBlock = some k → (V j).ownBlock = some k ∨ w.heap.size ≤ k)
    (hoth : ∀ i, i ≠ j → yVals s' i = yVals s i) (hl : s'.loops = s.loops) (hd : s'.depth = s.depth) :
    YAt (w2.setCell ⟨by_, 5 + j.1, none⟩ v') base by_ vf cf (upd3 V j v') s' ∧ Since (YM by_ V) w (w2.setCell ⟨by_, 5 + j.1, none⟩ v') ∧ NewY w by_ V (upd3 V j v') := by
  have s2 : Since (fun k => k = by_) w2 (w2.setCell ⟨by_, 5 + j.1, none⟩ v') := Since.setCell w2 ⟨by_, 5 + j.1, none⟩ v'
  have s3 : Since (YM by_ V) w (w2.setCell ⟨by_, 5 + j.1, none⟩ v') := (hs1.mono (fun k e => Or.inr ⟨j, e⟩)).trans (s2.mono (fun k e => Or.inl e))
  have hbw := h.lb.2
  have hz1 := hs1.size
  have ne' : v'.ownBlock ≠ some by_ := fun e => by
    rcases hloc _ e with h1 | h1
    · exact h.ne j h1
    · omega
  have hc := fun i => hs1.cell (o := i) hbw (h.ne j)
  have far : ∀ i y, i ≠ 5 + j.1 → w.cell? ⟨by_, i, none⟩ = some y → (w2.setCell ⟨by_, 5 + j.1, none⟩ v').cell? ⟨by_, i, none⟩ = some y := fun i y hi hy => by
    rw [World.cell?_setCell_other (h := fun h => hi (by injection h with _ h; exact h.symm))]
    exact (hc i).trans hy
  have hj := j.2
  refine ⟨{ c0 := far _ _ (by omega) h.c0, cl := h.cl, c1 := fun k hk => far _ _ (by have := h.cl; omega) (h.c1 k hk), cR := fun i => ?_, c8 := by rw [hl]; exact far _ _ (by omega) h.c8, c9 := by rw [hd]; exact far _ _ (by omega) h.c9, z := fun i => (by rw [World.frozen?_setCell]; exact (hs1.frozen hbw (h.ne j)).trans (h.z i)), lb := ⟨h.lb.1, Nat.lt_of_lt_of_le hbw s3.size⟩, rows := fun i => ?_, ne := fun i => ?_, sep := fun i i' hii k hk => ?_, big := Nat.le_trans h.big s3.size }, s3, fun k hk => ?_⟩
  · by_cases e : i = j
    · subst e
      rw [upd3_same]
      exact World.cell?_setCell_same _ _ _ ((hc _).trans (h.cR i))
    · rw [upd3_other _ _ e]
      exact far _ _ (fun e' => e (Fin.ext (by omega))) (h.cR i)
  · by_cases e : i = j
    · subst e
      rw [upd3_same]
      exact s2.row ho (fun k hk e => ne' (by rw [hk, show k = by_ from e]))
    · rw [upd3_other _ _ e, hoth i e]
      exact s2.row (hs1.row (h.rows i) (fun k hk e' => h.sep i j e k hk e')) (fun k hk e' => h.ne i (by rw [hk, show k = by_ from e']))
  · by_cases e : i = j
    · subst e; rw [upd3_same]; exact ne'
    · rw [upd3_other _ _ e]; exact h.ne i
  · by_cases e : i = j
    · subst e
      rw [upd3_same] at hk
      rw [upd3_other _ _ (Ne.symm hii)]
      intro hk'
      rcases hloc _ hk with h1 | h1
      · exact h.sep i i' hii k h1 hk'
      · have := ((h.rows i').lt k hk').2; omega
    · rw [upd3_other _ _ e] at hk
      by_cases e' : i' = j
      · subst e'
        rw [upd3_same]
        intro hk'
        rcases hloc _ hk' with h1 | h1
        · exact h.sep i i' hii k hk h1
        · have := ((h.rows i).lt k hk).2; omega
      · rw [upd3_other _ _ e']
        exact h.sep i i' hii k hk
  · rcases hk with rfl | ⟨i, hk⟩
    · exact Or.inl (Or.inl rfl)
    · by_cases e : i = j
      · subst e
        rw [upd3_same] at hk
        rcases hloc _ hk with h1 | h1
        · exact Or.inl (Or.inr ⟨i, h1⟩)
        · exact Or.inr h1
      · rw [upd3_other _ _ e] at hk
        exact Or.inl (Or.inr ⟨i, hk⟩)
theorem put' (h : YAt w base by_ vf cf V s) (j : Fin 3) {w2 : World} {v' : Value} {s' : YSt} {n : Nat} {xs : List Value} (hs1 : Since (fun k => (V j).ownBlock = some k) w w2)
    (ho : w2.ownsRow base (yTy j) 1 v' n xs) (hxs : yVals s' j = xs) (hloc : ∀ k, v'.ownBlock = some k → (V j).ownBlock = some k ∨ w.heap.size ≤ k)
    (hoth : ∀ i, i ≠ j → yVals s' i = yVals s i) (hl : s'.loops = s.loops) (hd : s'.depth = s.depth) :
    YAt (w2.setCell ⟨by_, 5 + j.1, none⟩ v') base by_ vf cf (upd3 V j v') s' ∧ Since (YM by_ V) w (w2.setCell ⟨by_, 5 + j.1, none⟩ v') ∧ NewY w by_ V (upd3 V j v') := by
  have hn : xs.length = n := by have := ho.1; omega
  subst hn
  exact h.put j hs1 (by rw [hxs]; exact ho) hloc hoth hl hd
end YAt
/-- A typer that was just made. -/
def nil3 : Fin 3 → Value := fun _ => .slice none 0 0
theorem y_new (w : World) (base : Nat) (vf a b c d : Value) (hb : base ≤ w.heap.size) :
    YAt (w.alloc (.cells #[vf, a, b, c, d, .slice none 0 0, .slice none 0 0, .slice none 0 0, .int .i64 0, .int .i64 0] 87)) base w.heap.size vf [a, b, c, d] nil3 (YSt.of [] 0 0) := by
  have hc : ∀ j v, #[vf, a, b, c, d, .slice none 0 0, .slice none 0 0, .slice none 0 0, .int .i64 0, .int .i64 0][j]? = some v → (w.alloc (.cells #[vf, a, b, c, d, .slice none 0 0, .slice none 0 0, .slice none 0 0, .int .i64 0, .int .i64 0] 87)).cell? ⟨w.heap.size, j, none⟩ = some v := fun j v h => by
    rw [World.cell?_alloc_at _ _ _ _ rfl]; exact h
  exact { c0 := hc _ _ rfl, cl := rfl, c1 := fun j hj => by
            have hj' : j < 4 := hj
            match j, hj' with
            | 0, _ => exact hc _ _ rfl
            | 1, _ => exact hc _ _ rfl
            | 2, _ => exact hc _ _ rfl
            | 3, _ => exact hc _ _ rfl
          cR := fun j => by
            match j with
            | 0 => exact hc _ _ rfl
            | 1 => exact hc _ _ rfl
            | 2 => exact hc _ _ rfl
          c8 := hc _ _ rfl, c9 := hc _ _ rfl, z := fun j => World.frozen?_alloc_at _ _ _ _ rfl, lb := ⟨hb, by simp⟩
          rows := fun j => by
            have e : yVals (YSt.of [] 0 0) j = [] := by unfold yVals; split; rfl; split <;> rfl
            rw [e]
            exact ⟨rfl, Or.inl ⟨rfl, rfl⟩⟩
          ne := fun j => by simp [nil3, Value.ownBlock], sep := fun i j _ k hk => by simp [nil3, Value.ownBlock] at hk, big := by simp; omega }
end Go.Proofs.YtaomlfbcfmmhlaaDoor

/-
  slices.Clone at numbers; ssa.clone: an instruction whose rows are new.
-/
import Derived.Test.YthgfdcoicihpdaaDoorBackMem
import Derived.Test.YthgfdcoicihpdaaDoorSep
import Derived.Test.YthgfdcoicihpdaaDoorTailG
import Derived.Test.YthgfdcoicihpdaaDoorFault
import Derived.Test.YthgfdcoicihpdaaDoorShelf
import Derived.Deep.CutBlock
namespace Go.Proofs.YthgfdcoicihpdaaDoor
open Go.RowKit Go.Pst
set_option linter.unusedVariables false
set_option linter.unusedSimpArgs false

theorem cloneInts_any (l : List Int) (v : Value) (w : World) (h : rInts (fun _ => True) w [v] l) (hl : l.length * 8 ≤ reachBytes) :
    Calls Tryd.prog 44 #[v] w fun e w' => ∃ v', e = .returned v' ∧ w'.ownsRow w.heap.size 3 1 v' l.length (l.map (Value.int .i64)) ∧ Below w.heap.size w w' := by
  obtain ⟨a, c, rfl, h1, h2, h3⟩ := rInts_val h
  cases a with
  | none =>
    have : l = [] := by
      cases l with
      | nil => rfl
      | cons x r => obtain ⟨_, _, he, _⟩ := h3 0 (by simp); simp at he
    subst this
    refine (Tryd.slices_Clone_int_nil _ c w).mono ?_
    rintro e w' ⟨rfl, rfl⟩
    exact ⟨_, rfl, ⟨by simp, Or.inl ⟨rfl, rfl⟩⟩, Below.refl _ _⟩
  | some ad =>
    by_cases h0 : l.length = 0
    · have : l = [] := List.eq_nil_of_length_eq_zero h0
      subst this
      refine (Tryd.slices_Clone_int_zero ad c w).mono ?_
      rintro e w' ⟨v', he, ho, -, hb⟩
      exact ⟨v', he, ho, hb⟩
    · obtain ⟨b, off, had, -⟩ := h3 0 (by omega)
      obtain rfl : ad = ⟨b, off, none⟩ := by simpa using had
      refine (Tryd.slices_Clone_int b off l.length c l w (Nat.le_refl _) (by unfold reachBytes at hl; omega) (fun j hj => ?_)).mono ?_
      · obtain ⟨b', o', he, -, -, hc, -⟩ := h3 j hj
        obtain ⟨rfl, rfl⟩ : b = b' ∧ off = o' := by simpa using he
        rw [hc]
        simp [List.getD_eq_getElem?_getD, hj]
      · rintro e w' ⟨v', he, ho, -, hb⟩
        rw [List.take_length] at ho
        exact ⟨v', he, ho, hb⟩

theorem held1 {a : Nat} {A : World → Prop} {l : Array Bool} {w : World} (h : l.getD a true = false → A w) : Held [(a, A)] l w := by
  intro p hp hl
  rw [List.mem_singleton] at hp
  subst hp
  exact h hl
theorem held3 {a b c : Nat} {A B C : World → Prop} {l : Array Bool} {w : World} (h1 : l.getD a true = false → A w) (h2 : l.getD b true = false → B w) (h3 : l.getD c true = false → C w) : Held [(a, A), (b, B), (c, C)] l w := by
  intro p hp hl
  simp only [List.mem_cons, List.not_mem_nil, or_false] at hp
  rcases hp with rfl | rfl | rfl
  · exact h1 hl
  · exact h2 hl
  · exact h3 hl
theorem six_set {w : World} {b : Nat} {T : TypeId} {z0 z1 z2 z3 z4 z5 : Value} (a0 a1 a2 a3 a4 a5 : Value) (h : w.heap[b]? = some (.cells #[z0, z1, z2, z3, z4, z5] T)) :
    ∃ W, ((((((w.setCell ⟨b, 0, none⟩ a0).setCell ⟨b, 1, none⟩ a1).setCell ⟨b, 2, none⟩ a2).setCell ⟨b, 3, none⟩ a3).setCell ⟨b, 4, none⟩ a4).setCell ⟨b, 5, none⟩ a5) = W ∧ W.heap[b]? = some (.cells #[a0, a1, a2, a3, a4, a5] T) ∧ Since (fun k => k = b) w W := by
  refine ⟨_, rfl, ?_, ?_⟩
  · have s5 := heap_setCell_same _ _ 5 _ _ a5 (heap_setCell_same _ _ 4 _ _ a4 (heap_setCell_same _ _ 3 _ _ a3 (heap_setCell_same _ _ 2 _ _ a2 (heap_setCell_same _ _ 1 _ _ a1 (heap_setCell_same _ _ 0 _ _ a0 h)))))
    simpa using s5
  · exact (((((Since.setCell w ⟨b, 0, none⟩ a0).trans (Since.setCell _ ⟨b, 1, none⟩ a1)).trans (Since.setCell _ ⟨b, 2, none⟩ a2)).trans (Since.setCell _ ⟨b, 3, none⟩ a3)).trans (Since.setCell _ ⟨b, 4, none⟩ a4)).trans (Since.setCell _ ⟨b, 5, none⟩ a5)
theorem six_cells {w : World} {b : Nat} {T : TypeId} {a0 a1 a2 a3 a4 a5 : Value} (h : w.heap[b]? = some (.cells #[a0, a1, a2, a3, a4, a5] T)) :
    w.cell? ⟨b, 0, none⟩ = some a0 ∧ w.cell? ⟨b, 1, none⟩ = some a1 ∧ w.cell? ⟨b, 2, none⟩ = some a2 ∧ w.cell? ⟨b, 3, none⟩ = some a3 ∧ w.cell? ⟨b, 4, none⟩ = some a4 ∧ w.cell? ⟨b, 5, none⟩ = some a5 ∧ (∀ j, w.frozen? ⟨b, j, none⟩ = false) ∧ b < w.heap.size :=
  ⟨by simp [World.cell?, h], by simp [World.cell?, h], by simp [World.cell?, h], by simp [World.cell?, h], by simp [World.cell?, h], by simp [World.cell?, h], fun j => by simp [World.frozen?, h], (Array.getElem?_eq_some_iff.1 h).1⟩
/-- The instruction's box B while its rows are cloned; box B + 1 is to hold the result. -/
structure ClSt (w wr : World) (B : Nat) (x : PInstr) (a1 a2 a5 : Value) : Prop where
  box : wr.heap[B]? = some (.cells #[.int .i64 x.op, a1, a2, .int .i64 x.n, .string x.s, a5] 41)
  box2 : wr.heap[B + 1]? = some (.cells #[.int .i64 0, .slice none 0 0, .slice none 0 0, .int .i64 0, .string ⟨#[]⟩, .slice none 0 0] 41)
  lt : w.heap.size ≤ B
  bel : Below w.heap.size w wr
section
variable {w wr w' : World} {B : Nat} {x : PInstr} {a1 a2 a5 : Value}
theorem ClSt.call (h : ClSt w wr B x a1 a2 a5) (hb : Below wr.heap.size wr w') : ClSt w w' B x a1 a2 a5 := by
  have h1 := (Array.getElem?_eq_some_iff.1 h.box).1
  have h2 := (Array.getElem?_eq_some_iff.1 h.box2).1
  exact ⟨(hb.block B h1).trans h.box, (hb.block (B + 1) h2).trans h.box2, h.lt, h.bel.trans (hb.mono h.bel.size)⟩
theorem ClSt.st1 (h : ClSt w wr B x a1 a2 a5) (u : Value) : ClSt w (wr.setCell ⟨B, 1, none⟩ u) B x u a2 a5 := by
  have e := heap_setCell_same wr B 1 _ _ u h.box
  refine ⟨e, ?_, h.lt, h.bel.setCell (p := ⟨B, 1, none⟩) h.lt u⟩
  rw [Below.heap_setCell _ _ _ _ (show B + 1 ≠ B by omega)]
  exact h.box2
theorem ClSt.st2 (h : ClSt w wr B x a1 a2 a5) (u : Value) : ClSt w (wr.setCell ⟨B, 2, none⟩ u) B x a1 u a5 := by
  have e := heap_setCell_same wr B 2 _ _ u h.box
  refine ⟨e, ?_, h.lt, h.bel.setCell (p := ⟨B, 2, none⟩) h.lt u⟩
  rw [Below.heap_setCell _ _ _ _ (show B + 1 ≠ B by omega)]
  exact h.box2
theorem ClSt.st5 (h : ClSt w wr B x a1 a2 a5) (u : Value) : ClSt w (wr.setCell ⟨B, 5, none⟩ u) B x a1 a2 u := by
  have e := heap_setCell_same wr B 5 _ _ u h.box
  refine ⟨e, ?_, h.lt, h.bel.setCell (p := ⟨B, 5, none⟩) h.lt u⟩
  rw [Below.heap_setCell _ _ _ _ (show B + 1 ≠ B by omega)]
  exact h.box2
theorem ClSt.c1 (h : ClSt w wr B x a1 a2 a5) : wr.cell? ⟨B, 1, none⟩ = some a1 := by simp [World.cell?, h.box]
theorem ClSt.c2 (h : ClSt w wr B x a1 a2 a5) : wr.cell? ⟨B, 2, none⟩ = some a2 := by simp [World.cell?, h.box]
theorem ClSt.c5 (h : ClSt w wr B x a1 a2 a5) : wr.cell? ⟨B, 5, none⟩ = some a5 := by simp [World.cell?, h.box]
theorem ClSt.z (h : ClSt w wr B x a1 a2 a5) : ∀ j, wr.frozen? ⟨B, j, none⟩ = false := fun j => by simp [World.frozen?, h.box]
theorem own_call {m n : Nat} {T : TypeId} {u : Value} {xs : List Value} (h : wr.ownsRow m T 1 u n xs) (hb : Below wr.heap.size wr w') : w'.ownsRow m T 1 u n xs := ownsRow_block h (fun k hk => hb.block k (h.lt k hk).2)
theorem own_st {m n j : Nat} {T : TypeId} {u y : Value} {xs : List Value} (h : wr.ownsRow m T 1 u n xs) (hB : B < m) : (wr.setCell ⟨B, j, none⟩ y).ownsRow m T 1 u n xs := ownsRow_block h (fun k hk => Below.heap_setCell _ _ _ _ (fun e => by have := (h.lt k hk).1; have : k = B := e; omega))
end

/-- What is told at the end. -/
theorem clone_end {w wr W : World} {B B2 m1 m2 m5 : Nat} {x : PInstr} {e1 e2 e5 : Option Addr} {d1 d2 d5 : Nat} (hI1 : ∀ y ∈ x.ds, InI y) (hI2 : ∀ y ∈ x.ars, InI y)
    (hs : ClSt w wr B x (.slice e1 x.ds.length d1) (.slice e2 x.ars.length d2) (.slice e5 x.to.length d5))
    (o1 : wr.ownsRow m1 3 1 (.slice e1 x.ds.length d1) x.ds.length (x.ds.map (Value.int .i64))) (o2 : wr.ownsRow m2 3 1 (.slice e2 x.ars.length d2) x.ars.length (x.ars.map (Value.int .i64))) (o5 : wr.ownsRow m5 3 1 (.slice e5 x.to.length d5) x.to.length (x.to.map (Value.int .i64)))
    (hm1 : B < m1 ∧ B + 1 < m1) (h15 : ∀ k, (Value.slice e1 x.ds.length d1).ownBlock = some k → k < m5) (h12 : m1 ≤ m2) (h25 : m2 ≤ m5 ∧ ∀ k, (Value.slice e2 x.ars.length d2).ownBlock = some k → k < m5) (h5 : m5 ≤ wr.heap.size) (hB2 : B2 = B + 1)
    (hsW : Since (fun k => k = B2) wr W) :
    ∃ u1 u2 u5 m, Ending.returned (.agg #[.int .i64 x.op, .slice e1 x.ds.length d1, .slice e2 x.ars.length d2, .int .i64 x.n, .string x.s, .slice e5 x.to.length d5]) = .returned (.agg #[.int .i64 x.op, u1, u2, .int .i64 x.n, .string x.s, u5]) ∧ w.heap.size ≤ m ∧ m ≤ W.heap.size ∧
      rInts (fun k => w.heap.size ≤ k ∧ k < m) W [u1] x.ds ∧ rInts (fun k => w.heap.size ≤ k ∧ k < m) W [u2] x.ars ∧ W.ownsRow m 3 1 u5 x.to.length (x.to.map (Value.int .i64)) ∧ Below w.heap.size w W := by
  have hlt := hs.lt
  have q1 := hsW.row o1 (fun k hk e => by have := (o1.lt k hk).1; have : k = B2 := e; omega)
  have q2 := hsW.row o2 (fun k hk e => by have := (o2.lt k hk).1; have : k = B2 := e; omega)
  have q5 := hsW.row o5 (fun k hk e => by have := (o5.lt k hk).1; have : k = B2 := e; omega)
  refine ⟨_, _, _, m5, rfl, by omega, Nat.le_trans h5 hsW.size, ?_, ?_, q5, hs.bel.trans (hsW.below hs.bel.size (fun k hk => by have : k = B2 := hk; omega))⟩
  · exact rInts_own q1 (fun k hk => ⟨by have := (q1.lt k hk).1; omega, h15 k hk⟩) hI1
  · exact rInts_own q2 (fun k hk => ⟨by have := (q2.lt k hk).1; omega, h25.2 k hk⟩) hI2

set_option maxRecDepth 10000 in
set_option maxHeartbeats 8000000 in
theorem clone_any (x : PInstr) (v1 v2 v5 : Value) (w : World) (h1 : rInts (fun _ => True) w [v1] x.ds) (h2 : rInts (fun _ => True) w [v2] x.ars) (h5 : rInts (fun _ => True) w [v5] x.to) (hf : FitInstr x) :
    Calls Tryd.prog 30 #[.agg #[.int .i64 x.op, v1, v2, .int .i64 x.n, .string x.s, v5]] w fun e w' => ∃ u1 u2 u5 m, e = .returned (.agg #[.int .i64 x.op, u1, u2, .int .i64 x.n, .string x.s, u5]) ∧ w.heap.size ≤ m ∧ m ≤ w'.heap.size ∧
      rInts (fun k => w.heap.size ≤ k ∧ k < m) w' [u1] x.ds ∧ rInts (fun k => w.heap.size ≤ k ∧ k < m) w' [u2] x.ars ∧ w'.ownsRow m 3 1 u5 x.to.length (x.to.map (Value.int .i64)) ∧ Below w.heap.size w w' := by
  have hI1 : ∀ y ∈ x.ds, InI y := by obtain ⟨_, _, _, _, _, h⟩ := rInts_open h1; exact h
  have hI2 : ∀ y ∈ x.ars, InI y := by obtain ⟨_, _, _, _, _, h⟩ := rInts_open h2; exact h
  obtain ⟨a1, c1, rfl, -⟩ := rInts_val h1
  obtain ⟨a2, c2, rfl, -⟩ := rInts_val h2
  obtain ⟨a5, c5, rfl, -⟩ := rInts_val h5
  have R1 := Lib.hid h1
  have R2 := Lib.hid h2
  have R5 := Lib.hid h5
  have HF := Lib.hid hf
  have HI1 := Lib.hid hI1
  have HI2 := Lib.hid hI2
  clear h1 h2 h5 hf hI1 hI2
  go_enter Tryd.func30, Tryd.ntmps30
  go_upto_region 1 with fail
  have h0 : ClSt w ((w.alloc (.cells #[.int .i64 x.op, .slice a1 x.ds.length c1, .slice a2 x.ars.length c2, .int .i64 x.n, .string x.s, .slice a5 x.to.length c5] 41)).alloc (.cells #[.int .i64 0, .slice none 0 0, .slice none 0 0, .int .i64 0, .string ⟨#[]⟩, .slice none 0 0] 41)) w.heap.size x (.slice a1 x.ds.length c1) (.slice a2 x.ars.length c2) (.slice a5 x.to.length c5) := by
    refine ⟨?_, ?_, Nat.le_refl _, below_box2 _ _ _⟩
    · rw [Below.heap_alloc _ _ _ (by simp)]
      exact heap_alloc_new _ _
    · have := heap_alloc_new (w.alloc (.cells #[.int .i64 x.op, .slice a1 x.ds.length c1, .slice a2 x.ars.length c2, .int .i64 x.n, .string x.s, .slice a5 x.to.length c5] 41)) (.cells #[.int .i64 0, .slice none 0 0, .slice none 0 0, .int .i64 0, .string ⟨#[]⟩, .slice none 0 0] 41)
      rw [World.size_alloc] at this
      exact this
  have hB : w.heap.size < ((w.alloc (.cells #[.int .i64 x.op, .slice a1 x.ds.length c1, .slice a2 x.ars.length c2, .int .i64 x.n, .string x.s, .slice a5 x.to.length c5] 41)).alloc (.cells #[.int .i64 0, .slice none 0 0, .slice none 0 0, .int .i64 0, .string ⟨#[]⟩, .slice none 0 0] 41)).heap.size := by simp; omega
  obtain ⟨B, hBe⟩ : ∃ B, B = w.heap.size := ⟨_, rfl⟩
  obtain ⟨B2, hBe2⟩ : ∃ B2, B2 = w.heap.size + 1 := ⟨_, rfl⟩
  rw [← hBe] at h0 hB
  rw [← hBe2, ← hBe]
  have Hb2 := Lib.hid (show B2 = B + 1 by omega)
  clear hBe hBe2
  generalize (w.alloc (.cells #[.int .i64 x.op, .slice a1 x.ds.length c1, .slice a2 x.ars.length c2, .int .i64 x.n, .string x.s, .slice a5 x.to.length c5] 41)).alloc (.cells #[.int .i64 0, .slice none 0 0, .slice none 0 0, .int .i64 0, .string ⟨#[]⟩, .slice none 0 0] 41) = W0 at *
  refine gGo [(10, fun w' => w'.cell? ⟨B, 1, none⟩ = some (.slice a1 x.ds.length c1) ∧ w'.cell? ⟨B, 2, none⟩ = some (.slice a2 x.ars.length c2) ∧ w'.cell? ⟨B, 5, none⟩ = some (.slice a5 x.to.length c5))] ?_
  have s0 := h0.call (w' := W0.drew) ⟨rfl, rfl, rfl, Nat.le_refl _, fun _ _ => rfl⟩
  have z0 : B < W0.drew.heap.size := hB
  clear h0 hB
  generalize W0.drew = wr0 at *
  refine gPu 0 (held1 (fun _ => ⟨s0.c1, s0.c2, s0.c5⟩)) ?_
  refine gRd 1 0 [10] (held1 (fun _ => ⟨s0.c1, s0.c2, s0.c5⟩)) ?_
  refine gPu 3 (held1 (fun _ => ⟨s0.c1, s0.c2, s0.c5⟩)) ?_
  refine gRd 4 0 [10] (held1 (fun _ => ⟨s0.c1, s0.c2, s0.c5⟩)) ?_
  refine gPu 6 (held1 (fun _ => ⟨s0.c1, s0.c2, s0.c5⟩)) ?_
  refine gRd 7 0 [10] (held1 (fun _ => ⟨s0.c1, s0.c2, s0.c5⟩)) ?_
  refine gP1 2 (fun K hK => ?_)
  go_simp
  go_at_call 44
  refine (cloneInts_any x.ds _ _ (Good.kept (Keep.of_below' s0.bel (fun k hk _ => hk)) R1.out) HF.out.1).mono ?_
  rintro e wr1 ⟨u1, rfl, own1, hb⟩
  obtain ⟨e1, d1, rfl⟩ := ownsRow_slice own1
  have s1 := s0.call hb
  have z1 : B < wr1.heap.size := Nat.lt_of_lt_of_le z0 hb.size
  obtain ⟨m1, hm1⟩ : ∃ m, m = wr0.heap.size := ⟨_, rfl⟩
  rw [← hm1] at own1
  have ord1 : B < m1 ∧ B + 1 < m1 := by rw [hm1]; exact ⟨z0, (Array.getElem?_eq_some_iff.1 s0.box2).1⟩
  have le1 : m1 ≤ wr1.heap.size := by rw [hm1]; exact hb.size
  have zm1 : B < m1 := by rw [hm1]; exact z0
  clear hm1 hb s0 z0 
  refine gNx hK (held1 (fun _ => ⟨s1.c1, s1.c2, s1.c5⟩)) ?_
  clear hK K
  refine gPu 9 (held1 (fun _ => ⟨s1.c1, s1.c2, s1.c5⟩)) ?_
  refine gP1 5 (fun K hK => ?_)
  go_simp
  go_at_call 44
  refine (cloneInts_any x.ars _ _ (Good.kept (Keep.of_below' s1.bel (fun k hk _ => hk)) R2.out) HF.out.2.1).mono ?_
  rintro e wr2 ⟨u2, rfl, own2, hb⟩
  obtain ⟨e2, d2, rfl⟩ := ownsRow_slice own2
  have s2 := s1.call hb
  have z2 : B < wr2.heap.size := Nat.lt_of_lt_of_le z1 hb.size
  have o1_2 := own_call own1 hb
  obtain ⟨m2, hm2⟩ : ∃ m, m = wr1.heap.size := ⟨_, rfl⟩
  rw [← hm2] at own2
  have ord2 : m1 ≤ m2 := by rw [hm2]; exact le1
  replace le1 := Nat.le_trans le1 hb.size
  have le2 : m2 ≤ wr2.heap.size := by rw [hm2]; exact hb.size
  have zm2 : B < m2 := by rw [hm2]; exact z1
  clear hm2 hb s1 z1 own1
  refine gNx hK (held1 (fun _ => ⟨s2.c1, s2.c2, s2.c5⟩)) ?_
  clear hK K
  refine gP1 8 (fun K hK => ?_)
  go_simp
  go_at_call 44
  refine (cloneInts_any x.to _ _ (Good.kept (Keep.of_below' s2.bel (fun k hk _ => hk)) R5.out) HF.out.2.2).mono ?_
  rintro e wr3 ⟨u5, rfl, own3, hb⟩
  obtain ⟨e5, d5, rfl⟩ := ownsRow_slice own3
  have s3 := s2.call hb
  have z3 : B < wr3.heap.size := Nat.lt_of_lt_of_le z2 hb.size
  have o1_3 := own_call o1_2 hb
  have o2_3 := own_call own2 hb
  obtain ⟨m5, hm5⟩ : ∃ m, m = wr2.heap.size := ⟨_, rfl⟩
  rw [← hm5] at own3
  have ord0 : ∀ k, (Value.slice e1 x.ds.length d1).ownBlock = some k → k < m5 := fun k hk => by rw [hm5]; exact (o1_2.lt k hk).2
  have ord3 : m2 ≤ m5 ∧ ∀ k, (Value.slice e2 x.ars.length d2).ownBlock = some k → k < m5 := ⟨by rw [hm5]; exact le2, fun k hk => by rw [hm5]; exact (own2.lt k hk).2⟩
  replace le1 := Nat.le_trans le1 hb.size
  replace le2 := Nat.le_trans le2 hb.size
  have le5 : m5 ≤ wr3.heap.size := by rw [hm5]; exact hb.size
  have zm5 : B < m5 := by rw [hm5]; exact z2
  clear hm5 hb s2 z2 o1_2 own2
  refine gNx hK (held1 (fun _ => ⟨s3.c1, s3.c2, s3.c5⟩)) ?_
  clear hK K
  refine gP1 10 (fun K hK => ?_)
  have cf := s3.c1
  have zf := s3.z 1
  have s4 := s3.st1 (.slice e1 x.ds.length d1)
  have z4 : B < (wr3.setCell ⟨B, 1, none⟩ (.slice e1 x.ds.length d1)).heap.size := by rw [World.size_setCell]; exact z3
  have o1_4 := own_st (j := 1) (y := (.slice e1 x.ds.length d1)) o1_3 zm1
  have o2_4 := own_st (j := 1) (y := (.slice e1 x.ds.length d1)) o2_3 zm2
  have o5_4 := own_st (j := 1) (y := (.slice e1 x.ds.length d1)) own3 zm5
  replace le1 : m1 ≤ (wr3.setCell ⟨B, 1, none⟩ (.slice e1 x.ds.length d1)).heap.size := by rw [World.size_setCell]; exact le1
  replace le2 : m2 ≤ (wr3.setCell ⟨B, 1, none⟩ (.slice e1 x.ds.length d1)).heap.size := by rw [World.size_setCell]; exact le2
  replace le5 : m5 ≤ (wr3.setCell ⟨B, 1, none⟩ (.slice e1 x.ds.length d1)).heap.size := by rw [World.size_setCell]; exact le5
  clear s3 z3 o1_3 o2_3 own3
  go_simp
  generalize wr3.setCell ⟨B, 1, none⟩ (.slice e1 x.ds.length d1) = wr4 at *
  clear cf zf
  refine gNx hK (held1 (fun h => absurd h (by decide))) ?_
  clear hK K
  refine gPu 11 (held1 (fun h => absurd h (by decide))) ?_
  refine gP1 12 (fun K hK => ?_)
  have cf := s4.c2
  have zf := s4.z 2
  have s5 := s4.st2 (.slice e2 x.ars.length d2)
  have z5 : B < (wr4.setCell ⟨B, 2, none⟩ (.slice e2 x.ars.length d2)).heap.size := by rw [World.size_setCell]; exact z4
  have o1_5 := own_st (j := 2) (y := (.slice e2 x.ars.length d2)) o1_4 zm1
  have o2_5 := own_st (j := 2) (y := (.slice e2 x.ars.length d2)) o2_4 zm2
  have o5_5 := own_st (j := 2) (y := (.slice e2 x.ars.length d2)) o5_4 zm5
  replace le1 : m1 ≤ (wr4.setCell ⟨B, 2, none⟩ (.slice e2 x.ars.length d2)).heap.size := by rw [World.size_setCell]; exact le1
  replace le2 : m2 ≤ (wr4.setCell ⟨B, 2, none⟩ (.slice e2 x.ars.length d2)).heap.size := by rw [World.size_setCell]; exact le2
  replace le5 : m5 ≤ (wr4.setCell ⟨B, 2, none⟩ (.slice e2 x.ars.length d2)).heap.size := by rw [World.size_setCell]; exact le5
  clear s4 z4 o1_4 o2_4 o5_4
  go_simp
  generalize wr4.setCell ⟨B, 2, none⟩ (.slice e2 x.ars.length d2) = wr5 at *
  clear cf zf
  refine gNx hK (held1 (fun h => absurd h (by decide))) ?_
  clear hK K
  refine gPu 13 (held1 (fun h => absurd h (by decide))) ?_
  refine gP1 14 (fun K hK => ?_)
  have cf := s5.c5
  have zf := s5.z 5
  have s6 := s5.st5 (.slice e5 x.to.length d5)
  have z6 : B < (wr5.setCell ⟨B, 5, none⟩ (.slice e5 x.to.length d5)).heap.size := by rw [World.size_setCell]; exact z5
  have o1_6 := own_st (j := 5) (y := (.slice e5 x.to.length d5)) o1_5 zm1
  have o2_6 := own_st (j := 5) (y := (.slice e5 x.to.length d5)) o2_5 zm2
  have o5_6 := own_st (j := 5) (y := (.slice e5 x.to.length d5)) o5_5 zm5
  replace le1 : m1 ≤ (wr5.setCell ⟨B, 5, none⟩ (.slice e5 x.to.length d5)).heap.size := by rw [World.size_setCell]; exact le1
  replace le2 : m2 ≤ (wr5.setCell ⟨B, 5, none⟩ (.slice e5 x.to.length d5)).heap.size := by rw [World.size_setCell]; exact le2
  replace le5 : m5 ≤ (wr5.setCell ⟨B, 5, none⟩ (.slice e5 x.to.length d5)).heap.size := by rw [World.size_setCell]; exact le5
  clear s5 z5 o1_5 o2_5 o5_5
  go_simp
  generalize wr5.setCell ⟨B, 5, none⟩ (.slice e5 x.to.length d5) = wr6 at *
  clear cf zf
  refine gNx hK (held1 (fun h => absurd h (by decide))) ?_
  clear hK K
  refine gFin ?_
  obtain ⟨g0, g1, g2, g3, g4, g5, gz, gl⟩ := six_cells s6.box
  have hb2 := s6.box2
  rw [← Hb2.out] at hb2
  obtain ⟨y0, y1, y2, y3, y4, y5, yz, yl⟩ := six_cells hb2
  have hneB : B ≠ B2 := by have := Hb2.out; omega
  obtain ⟨W, hW, hWb, hWs⟩ := six_set (.int .i64 x.op) (.slice e1 x.ds.length d1) (.slice e2 x.ars.length d2) (.int .i64 x.n) (.string x.s) (.slice e5 x.to.length d5) hb2
  have HE := Lib.hid (clone_end HI1.out HI2.out s6 o1_6 o2_6 o5_6 ord1 ord0 ord2 ord3 le5 Hb2.out hWs)
  have HbW := Lib.hid hWb
  have HW := Lib.hid hW
  clear hb2 hWb hWs hW s6 o1_6 o2_6 o5_6 ord1 ord2 ord3 ord0 le1 le2 le5
  go_wp2_with fail
  rw [HW.out]
  obtain ⟨w0, w1, w2, w3, w4, w5, -, -⟩ := six_cells HbW.out
  exact bodyPost_ret (v := .agg #[.int .i64 x.op, .slice e1 x.ds.length d1, .slice e2 x.ars.length d2, .int .i64 x.n, .string x.s, .slice e5 x.to.length d5]) (by simp [results, Tryd.results30, go_sem, w0, w1, w2, w3, w4, w5]) rfl HE.out
end Go.Proofs.YthgfdcoicihpdaaDoor

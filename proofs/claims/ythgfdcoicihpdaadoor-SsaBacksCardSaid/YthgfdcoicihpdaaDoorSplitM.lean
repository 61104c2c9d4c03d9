/-
  ssa.split in memory: rows, boxes and the map of new blocks.
-/
import Derived.Test.YthgfdcoicihpdaaDoorSplitRP
import Derived.Test.YthgfdcoicihpdaaDoorReord
namespace Go.Proofs.YthgfdcoicihpdaaDoor
open Go.RowKit Go.Pst
set_option linter.unusedVariables false
set_option linter.unusedSimpArgs false

/-- While ways are split. -/
structure SM (c : PCode) (lo P R : Nat) (w : World) (ah : Value) (vO : Value) (vs : Nat → Value) (lab : Nat → Nat) (wr : World) (X : List (List PInstr)) : Prop where
  m : CodeM lab wr lo vO vs X
  lP : lab P = boxL
  lR : lab R = boxL
  new : ∀ k, wr.heap.size ≤ k → lab k = 0
  low : ∀ k, k < lo → lab k = lowL
  ah_ : rIntss (fun m => lab m = 0) wr [ah] (aheadF c)
  bP : wr.heap[P]? = some (.cells #[.string c.name, .int .i64 c.params, .int .i64 c.results, .int .i64 c.vars, .int .i64 c.slots, vO] 28)
  bR : wr.heap[R]? = some (.cells #[.string ⟨#[]⟩, .int .i64 0, .int .i64 0, .int .i64 0, .int .i64 0, .slice none 0 0] 28)
  bel : Below lo w wr
section
variable {c : PCode} {X : List (List PInstr)} {lo P R : Nat} {w wr w' : World} {vO ah : Value} {vs : Nat → Value} {lab lab' : Nat → Nat}
theorem SM.keep (h : SM c lo P R w ah vO vs lab wr X) (hsz : wr.heap.size ≤ w'.heap.size) (hk : ∀ k, k < wr.heap.size → (lab k ≠ boxL ∨ k = P ∨ k = R) → w'.heap[k]? = wr.heap[k]?) (hl : ∀ k, k < wr.heap.size → lab' k = lab k)
    (hnew : ∀ k, w'.heap.size ≤ k → lab' k = 0) (hbel : Below lo wr w') : SM c lo P R w ah vO vs lab' w' X := by
  have hlen := h.m.len
  have nb : ∀ k, lab k ≤ 2 * X.length + 1 → lab k ≠ boxL := fun k hk e => by rw [e] at hk; unfold boxL at hk; omega
  have n0 : ∀ k, lab k = 0 → lab k ≠ boxL := fun k hk e => by rw [e] at hk; exact absurd hk (by decide)
  have hP := (Array.getElem?_eq_some_iff.1 h.bP).1
  have hR := (Array.getElem?_eq_some_iff.1 h.bR).1
  have K0 : Keep (fun m => lab m = 0) wr w' := ⟨hsz, fun k h1 h2 => hk k h1 (Or.inl (n0 k h2))⟩
  have W0 : ∀ k, k < wr.heap.size → lab k = 0 → lab' k = 0 := fun k h1 h2 => (hl k h1).trans h2
  exact ⟨h.m.keep hsz (fun k h1 h2 => hk k h1 (Or.inl (nb k h2))) (fun k h1 h2 => hl k h1), (hl P hP).trans h.lP, (hl R hR).trans h.lR, hnew, fun k hlt => (hl k (Nat.lt_of_lt_of_le hlt h.m.lo)).trans (h.low k hlt), Good.keep K0 W0 h.ah_, (hk P hP (Or.inr (Or.inl rfl))).trans h.bP, (hk R hR (Or.inr (Or.inr rfl))).trans h.bR, h.bel.trans hbel⟩
/-- One way more, in memory. -/
theorem SM.setTo (h : SM c lo P R w ah vO vs lab wr X) {i k r n cap b o l c3 : Nat} {u : Int} (hi : i < X.length) (hp : 0 < X[i].length) (hnil : ∀ m (hm : m < X[i].length), m ≠ X[i].length - 1 → X[i][m].to = [])
    (hv : vs i = .slice (some ⟨r, 0, none⟩) n cap) (hc : wr.cell? ⟨r, (X[i].length - 1) * 6 + 5, none⟩ = some (.slice (some ⟨b, o, none⟩) l c3)) (hk : k < (toL X[i]).length) (hu : InI u) :
    SM c lo P R w ah vO vs lab (wr.setCell ⟨b, o + k, none⟩ (.int .i64 u)) (X.set i (setToL X[i] ((toL X[i]).set k u))) ∧ lab b = 2 * i + 3 := by
  obtain ⟨a', c', hc', -, hat⟩ := h.m.to_at hi hp hv
  rw [hc] at hc'
  simp only [Option.some.injEq, Value.slice.injEq] at hc'
  obtain ⟨rfl, rfl, rfl⟩ := hc'
  obtain ⟨b', o', e8, hb3, hbl, -, -⟩ := hat k hk
  simp only [Option.some.injEq, Addr.mk.injEq, and_true] at e8
  obtain ⟨rfl, rfl⟩ := e8
  have hlen := h.m.len
  have hb : boxL ≠ 2 * i + 3 := by unfold boxL; omega
  have blk : ∀ m, m ≠ b → (wr.setCell ⟨b, o + k, none⟩ (.int .i64 u)).heap[m]? = wr.heap[m]? := fun m hm => Below.heap_setCell _ _ _ _ hm
  have K0 : Keep (fun m => lab m = 0) wr (wr.setCell ⟨b, o + k, none⟩ (.int .i64 u)) := ⟨by simp, fun m _ hm => blk m (fun e => by rw [e, hb3] at hm; omega)⟩
  have hblo : lo ≤ b := by
    rcases Nat.lt_or_ge b lo with e | e
    · have h9 := h.low b e
      rw [hb3] at h9
      unfold lowL at h9
      omega
    · exact e
  exact ⟨⟨h.m.setTo hi hp hnil hv hc hk hu, h.lP, h.lR, fun m hm => h.new m (by simpa using hm), h.low, Good.kept K0 h.ah_, (blk P (fun e => by have := h.lP; rw [e, hb3] at this; exact hb this.symm)).trans h.bP, (blk R (fun e => by have := h.lR; rw [e, hb3] at this; exact hb this.symm)).trans h.bR, h.bel.setCell (p := ⟨b, o + k, none⟩) hblo _⟩, hb3⟩
/-- A block of its own for a way. -/
theorem SM.app {w6 : World} {vO' : Value} {t : Int} (h : SM c lo P R w ah vO vs lab wr X) (ht : InI t) (hown : w6.ownsRow lo 38 1 vO' (X.length + 1) ((List.range X.length).map vs ++ [.slice (some ⟨wr.heap.size + 1, 0, none⟩) 1 1]))
    (hg : (((wr.alloc (.cells #[.int .i64 t] 3)).alloc (.cells #[.int .i64 9, .slice none 0 0, .slice none 0 0, .int .i64 0, .string ⟨#[]⟩, .slice (some ⟨wr.heap.size, 0, none⟩) 1 1] 41)).alloc (.cells #[.slice (some ⟨wr.heap.size + 1, 0, none⟩) 1 1] 38)).grownBy w6 vO.ownBlock)
    (hat : vO'.ownBlock = vO.ownBlock ∨ ∃ g, vO'.ownBlock = some g ∧ wr.heap.size + 2 ≤ g) (hPlo : lo ≤ P) (hPR : P ≠ R) :
    ∃ lab', SM c lo P R w ah vO' (upd vs X.length (.slice (some ⟨wr.heap.size + 1, 0, none⟩) 1 1)) lab' (w6.setCell ⟨P, 5, none⟩ vO') (X ++ [[jumpI t]]) ∧ (∀ k, k < wr.heap.size → lab' k = lab k) ∧
      (wr.heap.size ≤ (w6.setCell ⟨P, 5, none⟩ vO').heap.size) ∧ ∀ k, k < wr.heap.size → k ≠ P → lab k ≠ 1 → (w6.setCell ⟨P, 5, none⟩ vO').heap[k]? = wr.heap[k]? := by
  generalize hW1 : wr.alloc (.cells #[.int .i64 t] 3) = W1 at hg
  have z1 : W1.heap.size = wr.heap.size + 1 := by rw [← hW1]; simp
  have o1 : ∀ k, k < wr.heap.size → W1.heap[k]? = wr.heap[k]? := fun k hk => by rw [← hW1]; exact Below.heap_alloc _ _ _ hk
  have n1 : W1.heap[wr.heap.size]? = some (.cells #[.int .i64 t] 3) := by rw [← hW1]; exact heap_alloc_new _ _
  generalize hW2 : W1.alloc (.cells #[.int .i64 9, .slice none 0 0, .slice none 0 0, .int .i64 0, .string ⟨#[]⟩, .slice (some ⟨wr.heap.size, 0, none⟩) 1 1] 41) = W2 at hg
  have z2 : W2.heap.size = wr.heap.size + 2 := by rw [← hW2]; simp [z1]
  have o2 : ∀ k, k < wr.heap.size → W2.heap[k]? = wr.heap[k]? := fun k hk => by rw [← hW2, Below.heap_alloc _ _ _ (by omega)]; exact o1 k hk
  have n2 : W2.heap[wr.heap.size]? = some (.cells #[.int .i64 t] 3) := by rw [← hW2, Below.heap_alloc _ _ _ (by omega)]; exact n1
  have n3 : W2.heap[wr.heap.size + 1]? = some (.cells #[.int .i64 9, .slice none 0 0, .slice none 0 0, .int .i64 0, .string ⟨#[]⟩, .slice (some ⟨wr.heap.size, 0, none⟩) 1 1] 41) := by rw [← hW2, ← z1]; exact heap_alloc_new _ _
  have b2 : Below lo wr W2 := by rw [← hW2, ← hW1]; exact ((Below.refl _ _).alloc h.m.lo _).alloc (by have := h.m.lo; simp; omega) _
  clear hW1 hW2 o1 n1 z1
  have hlen := h.m.len
  have hPl := (Array.getElem?_eq_some_iff.1 h.bP).1
  have hRl := (Array.getElem?_eq_some_iff.1 h.bR).1
  obtain ⟨lab1, hlab1⟩ : ∃ l : Nat → Nat, l = fun k => if k = wr.heap.size then 2 * X.length + 3 else if k = wr.heap.size + 1 then 2 * X.length + 2 else lab k := ⟨_, rfl⟩
  have l1 : ∀ k, k < wr.heap.size → lab1 k = lab k := fun k hk => by rw [hlab1]; show (if k = wr.heap.size then _ else if k = wr.heap.size + 1 then _ else lab k) = lab k; rw [if_neg (by omega), if_neg (by omega)]
  have l2 : ∀ k, W2.heap.size ≤ k → lab1 k = 0 := fun k hk => by rw [hlab1]; show (if k = wr.heap.size then _ else if k = wr.heap.size + 1 then _ else lab k) = 0; rw [if_neg (by omega), if_neg (by omega)]; exact h.new k (by omega)
  have l3 : lab1 wr.heap.size = 2 * X.length + 3 := by rw [hlab1]; exact if_pos rfl
  have l4 : lab1 (wr.heap.size + 1) = 2 * X.length + 2 := by rw [hlab1]; show (if wr.heap.size + 1 = wr.heap.size then _ else if wr.heap.size + 1 = wr.heap.size + 1 then _ else lab _) = _; rw [if_neg (by omega), if_pos rfl]
  clear hlab1
  have h2 : SM c lo P R w ah vO vs lab1 W2 X := h.keep (by omega) (fun k hk _ => o2 k hk) l1 l2 b2
  have hrow : RowM lab1 W2 X.length (.slice (some ⟨wr.heap.size + 1, 0, none⟩) 1 1) [jumpI t] := by
    refine ⟨wr.heap.size + 1, 1, rfl, by simp, by decide, l4, by omega, fun j => by simp [World.frozen?, n3], fun k hk => ?_⟩
    obtain rfl : k = 0 := by simpa using hk
    refine ⟨.slice none 0 0, .slice none 0 0, .slice (some ⟨wr.heap.size, 0, none⟩) 1 1, by simp [World.cell?, n3, jumpI], by simp [World.cell?, n3], by simp [World.cell?, n3], by simp [World.cell?, n3, jumpI], by simp [World.cell?, n3, jumpI]; rfl, by simp [World.cell?, n3], ⟨by simp [jumpI, InI], by simp [jumpI, InI], by simp [jumpI]⟩, ⟨none, 0, rfl, by simp [jumpI], by decide, fun i hi => absurd hi (by simp [jumpI])⟩, ⟨none, 0, rfl, by simp [jumpI], by decide, fun i hi => absurd hi (by simp [jumpI])⟩, ?_⟩
    refine ⟨some ⟨wr.heap.size, 0, none⟩, 1, rfl, by simp [jumpI], by decide, fun i hi => ?_⟩
    obtain rfl : i = 0 := by simpa [jumpI] using hi
    refine ⟨wr.heap.size, 0, [.int .i64 t], rfl, ⟨l3, fun j => by simp [World.frozen?, n2]⟩, by omega, rfl, fun j hj => ?_, rfl, ht⟩
    obtain rfl : j = 0 := by omega
    simp [World.cell?, n2]
  have hat2 : vO'.ownBlock = vO.ownBlock ∨ ∃ g, vO'.ownBlock = some g ∧ W2.heap.size ≤ g := by rw [z2]; exact hat
  have hA := h2.m.app hrow hown hg hat2
  have hl6 : ∀ k, k < W2.heap.size → relab lab1 vO' 1 k = lab1 k := fun k hk => relab_old h2.m.lab1 hat2 hk
  have hb6 : Below lo W2 w6 := append_below h2.m.own hg h2.m.lo
  have hz6 := hb6.size
  have oth : ∀ k, k < W2.heap.size → lab1 k ≠ 1 → w6.heap[k]? = W2.heap[k]? := fun k hk hne => grown_other hg hk (fun e => hne (h2.m.lab1 k e))
  have hlP : lab1 P = boxL := h2.lP
  have hlR : lab1 R = boxL := h2.lR
  have hb1 : boxL ≠ 1 := by decide
  have hb0 : boxL ≠ 0 := by decide
  have set_ : ∀ m, m ≠ P → (w6.setCell ⟨P, 5, none⟩ vO').heap[m]? = w6.heap[m]? := fun m hm => Below.heap_setCell _ _ _ _ hm
  have hP6 : w6.heap[P]? = some (.cells #[.string c.name, .int .i64 c.params, .int .i64 c.results, .int .i64 c.vars, .int .i64 c.slots, vO] 28) := (oth P (by omega) (by rw [hlP]; exact hb1)).trans h2.bP
  refine ⟨relab lab1 vO' 1, ⟨hA.box (j := 5) ((hl6 P (by omega)).trans hlP) vO', (hl6 P (by omega)).trans hlP, (hl6 R (by omega)).trans hlR, fun k hk => relab_new hown (fun _ _ _ => trivial) (fun k hk => l2 k (by omega)) k (by simpa using hk),
    fun k hk => (hl6 k (by have := h2.m.lo; omega)).trans (h2.low k hk), Good.keep (R := rIntss) (S := fun m => lab1 m = 0) ⟨by simp; omega, fun k h1 h3 => (set_ k (fun e => by rw [e, hlP] at h3; exact hb0 h3)).trans (oth k h1 (by rw [h3]; decide))⟩ (fun k h1 h3 => (hl6 k h1).trans h3) h2.ah_, ?_,
    (set_ R (fun e => hPR e.symm)).trans ((oth R (by omega) (by rw [hlR]; exact hb1)).trans h2.bR), (h2.bel.trans hb6).setCell (p := ⟨P, 5, none⟩) hPlo _⟩, fun k hk => (hl6 k (by omega)).trans (l1 k hk), by simp; omega, fun k hk h1 h3 => (set_ k h1).trans ((oth k (by omega) (by rw [l1 k hk]; exact h3)).trans (o2 k hk))⟩
  have h := heap_setCell_same w6 P 5 _ _ vO' hP6
  simpa using h
theorem SM.turn {fs : List PCode} {A : Nat → Nat} {L : Nat → List Int} {E F : List (Nat × Nat)} {aO : Option Addr} {cO i k r cap b o l c3 t e : Nat} (H : PhiOK fs c A) (h : SM c lo P R w ah (.slice aO (X ++ F.map fun p => [jumpI p.2]).length cO) vs lab wr (X ++ F.map fun p => [jumpI p.2]))
    (hS : SplitR c.blocks (fun j q => j < i ∨ (j = i ∧ q < k)) X L E) (hi : i < c.blocks.length) (hk : k < (toL c.blocks[i]).length) (ht : (toL c.blocks[i])[k] = (t : Int)) (ht0 : t < c.blocks.length)
    (hN : (E ++ F).Nodup) (he : e < (E ++ F).length) (hee : (E ++ F)[e] = (i, t)) (hF : ∀ e', E.length ≤ e' → e' < (E ++ F).length → e' = e)
    (hv : vs i = .slice (some ⟨r, 0, none⟩) c.blocks[i].length cap) (hc : wr.cell? ⟨r, (c.blocks[i].length - 1) * 6 + 5, none⟩ = some (.slice (some ⟨b, o, none⟩) l c3)) :
    ∃ X' L', SM c lo P R w ah (.slice aO X'.length cO) vs lab (wr.setCell ⟨b, o + k, none⟩ (.int .i64 ((c.blocks.length + e : Nat) : Int))) X' ∧ SplitR c.blocks (fun j q => j < i ∨ (j = i ∧ q < k + 1)) X' L' (E ++ F) ∧ lab b = 2 * i + 3 := by
  have hlen := hS.len
  have hiX : i < X.length := by omega
  have hiY : i < (X ++ F.map fun p => [jumpI p.2]).length := by rw [List.length_append]; omega
  have eY : (X ++ F.map fun p => [jumpI p.2])[i] = X[i] := List.getElem_append_left hiX
  have hl := hS.row_len H hi hiX
  have hto := hS.row_to H hi hiX
  have hp := H.pos _ (List.getElem_mem hi)
  have hsm := h.m.len
  have hE : (c.blocks.length + e : Nat) ≤ 9223372036854775807 := by
    have h1 : (X ++ F.map fun p => [jumpI p.2]).length = c.blocks.length + (E ++ F).length := by simp; omega
    omega
  have h1 := h.setTo (i := i) (k := k) (u := ((c.blocks.length + e : Nat) : Int)) hiY (by rw [eY, hl]; exact hp) (fun m hm hne => by simp only [eY] at hm hne ⊢; exact hS.row_nil H hi hiX m hm hne) hv (by simp only [eY, hl]; exact hc) (by simp only [eY, hto, hS.llen i hi]; exact hk) (by unfold InI; omega)
  have h2 := hS.turn H.pos H.tos hi hk ht ht0 (fun g => by rcases g with g | ⟨-, g⟩ <;> omega) hN he hee hF
  rw [eY, hS.row_set H hi hiX, hto] at h1
  refine ⟨_, _, ?_, h2.wider (fun j q g => by rcases g with (g | ⟨g1, g2⟩) | ⟨g1, g2⟩ <;> omega), h1.2⟩
  rw [List.length_set]
  exact h1.1
end
end Go.Proofs.YthgfdcoicihpdaaDoor

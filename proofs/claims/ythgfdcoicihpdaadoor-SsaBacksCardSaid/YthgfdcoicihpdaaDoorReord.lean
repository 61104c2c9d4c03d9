/-
  ssa.reordered, walked: the arguments of Phis stand in the order of those that are ahead now.
-/
import Derived.Test.YthgfdcoicihpdaaDoorSplitRP
import Derived.Test.YthgfdcoicihpdaaDoorCopied
import Derived.Test.YthgfdcoicihpdaaDoorPhis
namespace Go.Proofs.YthgfdcoicihpdaaDoor
open Go.RowKit Go.Pst
set_option linter.unusedVariables false
set_option linter.unusedSimpArgs false

theorem ahead_len (c : PCode) {i : Nat} (hi : i < (aheadF c).length) : (aheadF c)[i].length ≤ c.blocks.length := by
  have e : (aheadF c)[i] = aheadRow c c.blocks.length i := by simp [aheadF]
  rw [e]
  unfold aheadRow
  rw [List.length_map]
  exact Nat.le_trans (List.length_filter_le _ _) (by simp)
/-- A Phi of the split code is one of the code that came in. -/
theorem split_phi {fs : List PCode} {c : PCode} {A : Nat → Nat} (H : PhiOK fs c A) {done : Nat → Nat → Prop} {X : List (List PInstr)} {L : Nat → List Int} {E : List (Nat × Nat)} (hS : SplitR c.blocks done X L E) {i k : Nat} (hi : i < c.blocks.length) (hiX : i < X.length) (hk : k < X[i].length) (hp : k < phisN X[i]) :
    X[i][k].ars.length = A i ∧ inAll X[i][k].ars c.vars = true := by
  have hlt := H.len _ (List.getElem_mem hi)
  have hb : 0 < c.blocks[i].length := by omega
  have e := hS.old i hi hiX
  have hl : X[i].length = c.blocks[i].length := by rw [e, setToL_len hb]
  have k1 : k < c.blocks[i].length := by omega
  have k4 : k < (setToL c.blocks[i] (L i)).length := by rw [setToL_len hb]; exact k1
  have e1 : X[i][k] = (setToL c.blocks[i] (L i))[k] := by congr 1
  have hph : phisN X[i] = phisN c.blocks[i] := phisN_congr hlt (fun j j1 j2 _ => by
    have j4 : j < (setToL c.blocks[i] (L i)).length := by rw [setToL_len hb]; exact j1
    have : X[i][j] = (setToL c.blocks[i] (L i))[j] := by congr 1
    rw [this, setToL_get hb _ j4 j1]
    split <;> rfl) (by omega)
  rw [hph] at hp
  have ha : X[i][k].ars = c.blocks[i][k].ars := by
    rw [e1, setToL_get hb _ k4 k1]
    split <;> rfl
  obtain ⟨-, q2, -, -, q5, -⟩ := H.phi i hi k k1 hp
  rw [ha]
  exact ⟨q2, q5⟩
/-- While Phis are put anew. -/
structure RO (F : Nat → Prop) (c : PCode) (X : List (List PInstr)) (lo P R : Nat) (w : World) (vO ah was : Value) (vs : Nat → Value) (lab : Nat → Nat) (wr : World) (Y : List (List PInstr)) : Prop where
  m : CodeM lab wr lo vO vs Y
  lP : lab P = 0
  lR : lab R = boxL
  new : ∀ k, wr.heap.size ≤ k → lab k = 0
  low : ∀ k, k < lo → lab k = lowL
  re : ReR X (fun i => ((aheadF (withB c X)).getD i []).length) c.vars Y
  ah_ : rIntss (fun m => lab m = 0) wr [ah] (aheadF (withB c X))
  was_ : rIntss (fun m => lab m = 0) wr [was] (aheadF c)
  bP : wr.heap[P]? = some (.cells #[.string c.name, .int .i64 c.params, .int .i64 c.results, .int .i64 c.vars, .int .i64 c.slots, vO] 28)
  bR : wr.heap[R]? = some (.cells #[.string ⟨#[]⟩, .int .i64 0, .int .i64 0, .int .i64 0, .int .i64 0, .slice none 0 0] 28)
  bel : Below lo w wr
  fx : ∀ k, F k → k < w.heap.size ∧ lab k = boxL ∧ wr.heap[k]? = w.heap[k]?
section
variable {F : Nat → Prop} {c : PCode} {X Y : List (List PInstr)} {lo P R : Nat} {w wr w' : World} {vO ah was : Value} {vs : Nat → Value} {lab lab' : Nat → Nat}
theorem RO.keep (h : RO F c X lo P R w vO ah was vs lab wr Y) (hsz : wr.heap.size ≤ w'.heap.size) (hk : ∀ k, k < wr.heap.size → (lab k ≠ boxL ∨ k = R ∨ F k) → w'.heap[k]? = wr.heap[k]?) (hl : ∀ k, k < wr.heap.size → (lab k ≠ boxL ∨ k = R ∨ F k) → lab' k = lab k)
    (hnew : ∀ k, w'.heap.size ≤ k → lab' k = 0) (hbel : Below lo wr w') : RO F c X lo P R w vO ah was vs lab' w' Y := by
  have hlen := h.m.len
  have nb : ∀ k, lab k ≤ 2 * Y.length + 1 → lab k ≠ boxL := fun k hk e => by rw [e] at hk; unfold boxL at hk; omega
  have n0 : ∀ k, lab k = 0 → lab k ≠ boxL := fun k hk e => by rw [e] at hk; exact absurd hk (by decide)
  have hP := (Array.getElem?_eq_some_iff.1 h.bP).1
  have hR := (Array.getElem?_eq_some_iff.1 h.bR).1
  have K0 : Keep (fun m => lab m = 0) wr w' := ⟨hsz, fun k h1 h2 => hk k h1 (Or.inl (n0 k h2))⟩
  have W0 : ∀ k, k < wr.heap.size → lab k = 0 → lab' k = 0 := fun k h1 h2 => (hl k h1 (Or.inl (n0 k h2))).trans h2
  refine ⟨h.m.keep hsz (fun k h1 h2 => hk k h1 (Or.inl (nb k h2))) (fun k h1 h2 => hl k h1 (Or.inl (nb k h2))), W0 P hP h.lP, (hl R hR (Or.inr (Or.inl rfl))).trans h.lR, hnew, fun k hlt => (hl k (Nat.lt_of_lt_of_le hlt h.m.lo) (Or.inl (fun e => by rw [h.low k hlt] at e; exact absurd e (by decide)))).trans (h.low k hlt), h.re, Good.keep K0 W0 h.ah_, Good.keep K0 W0 h.was_, (hk P hP (Or.inl (n0 P h.lP))).trans h.bP, (hk R hR (Or.inr (Or.inl rfl))).trans h.bR, h.bel.trans hbel, fun k hF => by
    obtain ⟨f1, f2, f3⟩ := h.fx k hF
    have hz := h.bel.size
    exact ⟨f1, (hl k (by omega) (Or.inr (Or.inr hF))).trans f2, (hk k (by omega) (Or.inr (Or.inr hF))).trans f3⟩⟩
theorem RO.setAs {i k r n cap : Nat} {l : List Int} {u : Value} (h : RO F c X lo P R w vO ah was vs lab wr Y) (hi : i < Y.length) (hk : k < Y[i].length) (hv : vs i = .slice (some ⟨r, 0, none⟩) n cap) (hr : lab r = 2 * i + 2) (hu : rInts (fun m => lab m = 0) wr [u] l)
    (hre : ReR X (fun i => ((aheadF (withB c X)).getD i []).length) c.vars (Y.set i (Y[i].set k { Y[i][k] with ars := l }))) :
    RO F c X lo P R w vO ah was vs lab (wr.setCell ⟨r, k * 6 + 2, none⟩ u) (Y.set i (Y[i].set k { Y[i][k] with ars := l })) := by
  have hb : boxL ≠ 2 * i + 2 := by have := h.m.len; unfold boxL; omega
  have blk : ∀ m, m ≠ r → (wr.setCell ⟨r, k * 6 + 2, none⟩ u).heap[m]? = wr.heap[m]? := fun m hm => Below.heap_setCell _ _ _ _ hm
  have hrlo : lo ≤ r := by
    rcases Nat.lt_or_ge r lo with e | e
    · have h9 := h.low r e
      have h8 := h.m.len
      rw [hr] at h9
      unfold lowL at h9
      omega
    · exact e
  have K0 : Keep (fun m => lab m = 0) wr (wr.setCell ⟨r, k * 6 + 2, none⟩ u) := ⟨by simp, fun m _ hm => blk m (fun e => by rw [e, hr] at hm; omega)⟩
  exact ⟨h.m.setAs hi hk hv hu, h.lP, h.lR, fun m hm => h.new m (by simpa using hm), h.low, hre, Good.kept K0 h.ah_, Good.kept K0 h.was_, (blk P (fun e => by have := h.lP; rw [e, hr] at this; omega)).trans h.bP,
    (blk R (fun e => by have := h.lR; rw [e, hr] at this; exact hb this.symm)).trans h.bR, h.bel.setCell (p := ⟨r, k * 6 + 2, none⟩) hrlo u, fun m hF => by
      obtain ⟨f1, f2, f3⟩ := h.fx m hF
      exact ⟨f1, f2, (blk m (fun e => by rw [e, hr] at f2; exact hb f2.symm)).trans f3⟩⟩
theorem RO.fin {W : World} (h : RO F c X lo P R w vO ah was vs lab wr Y) (hs : Since (fun k => k = R) wr W) (hR : lo ≤ R) (hFR : ∀ k, F k → k ≠ R) :
    ReR X (fun i => ((aheadF (withB c X)).getD i []).length) c.vars Y ∧ CodeM lab W lo vO vs Y ∧ (∀ k, W.heap.size ≤ k → lab k = 0) ∧ (∀ k, k < lo → lab k = lowL) ∧ Below lo w W ∧ ∀ k, F k → lab k = boxL ∧ W.heap[k]? = w.heap[k]? := by
  have hlen := h.m.len
  refine ⟨h.re, h.m.keep hs.size (fun k h1 h2 => hs.block k h1 (fun e => by have e' : k = R := e; rw [e', h.lR] at h2; unfold boxL at h2; omega)) (fun _ _ _ => rfl), fun k hk => h.new k (Nat.le_trans hs.size hk), h.low, h.bel.trans (hs.below h.m.lo (fun k hk => by have e : k = R := hk; omega)), fun k hF => by
    obtain ⟨f1, f2, f3⟩ := h.fx k hF
    have hz := h.bel.size
    exact ⟨f2, (hs.block k (by omega) (hFR k hF)).trans f3⟩⟩
theorem ReR.set {X Y : List (List PInstr)} {A : Nat → Nat} {vars : Int} (h : ReR X A vars Y) {i k : Nat} {l : List Int} (hi : i < Y.length) (hk : k < Y[i].length) (hiX : i < X.length) (hkX : k < X[i].length) (he : Y[i][k] = X[i][k]) (hp : k < phisN X[i]) (hl : l.length = A i) (hin : inAll l vars = true) :
    ReR X A vars (Y.set i (Y[i].set k { Y[i][k] with ars := l })) := by
  refine ⟨by rw [List.length_set]; exact h.len, fun j hj h2 => ?_⟩
  rw [List.length_set] at h2
  obtain ⟨g1, g2⟩ := h.at_ j hj h2
  by_cases e : i = j
  · subst e
    rw [List.getElem_set_self]
    refine ⟨by rw [List.length_set]; exact g1, fun k' hk1 hk2 => ?_⟩
    rw [List.length_set] at hk2
    by_cases ek : k = k'
    · subst ek
      rw [List.getElem_set_self, he]
      exact Or.inr ⟨hp, l, rfl, hl, hin⟩
    · rw [List.getElem_set_ne ek]
      exact g2 k' hk1 hk2
  · rw [List.getElem_set_ne e]
    exact ⟨g1, g2⟩
end
/-- Phis put anew so far: block i up to Phi nn, and all blocks ahead of it. -/
def ReD (A : Nat → Nat) (X Y : List (List PInstr)) (i nn : Nat) : Prop := ∀ j k, (j < i ∨ (j = i ∧ k < nn)) → ∀ (h : j < X.length) (hy : j < Y.length) (hk : k < Y[j].length), k < phisN X[j] → Y[j][k].ars.length = A j
theorem ReD.start (A : Nat → Nat) (X Y : List (List PInstr)) : ReD A X Y 0 0 := fun j k h => by omega
theorem ReD.set {A : Nat → Nat} {X Y : List (List PInstr)} {i nn : Nat} (h : ReD A X Y i nn) (hi : i < Y.length) (hn : nn < Y[i].length) {l : List Int} (hl : l.length = A i) : ReD A X (Y.set i (Y[i].set nn { Y[i][nn] with ars := l })) i (nn + 1) := by
  intro j k hjk hX hy hk hp
  by_cases e : j = i
  · subst e
    simp only [List.getElem_set_self] at hk ⊢
    by_cases e2 : k = nn
    · subst e2
      rw [List.getElem_set_self]
      exact hl
    · rw [List.getElem_set_ne (fun e => e2 e.symm)]
      exact h j k (by omega) hX (by rw [List.length_set] at hy; exact hy) (by rw [List.length_set] at hk; exact hk) hp
  · simp only [List.getElem_set_ne (fun e' => e (Eq.symm e'))] at hk ⊢
    exact h j k (by omega) hX (by rw [List.length_set] at hy; exact hy) hk hp
theorem ReD.next {A : Nat → Nat} {X Y : List (List PInstr)} {i nn : Nat} (hi : i < X.length) (hn : nn = phisN X[i]) (h : ReD A X Y i nn) : ReD A X Y (i + 1) 0 := by
  intro j k hjk hX hy hk hp
  refine h j k ?_ hX hy hk hp
  by_cases e : j = i
  · subst e
    exact Or.inr ⟨rfl, by omega⟩
  · omega
theorem ReD.mono {A : Nat → Nat} {X Y : List (List PInstr)} {i i' : Nat} (hi : i' ≤ i ∨ X.length ≤ i) (h : ReD A X Y i 0) : ReD A X Y i' 0 := by
  intro j k hjk hX hy hk hp
  exact h j k (by omega) hX hy hk hp
theorem phis_here {lab : Nat → Nat} {w : World} {i : Nat} {v : Value} {b : List PInstr} (h : RowM lab w i v b) : Calls Tryd.prog 12 #[v] w fun e w' => e = .returned (.int .i64 (phisN b)) ∧ w = w' := phis_any b v w h.reads
theorem code_reads {lab : Nat → Nat} {w : World} {lo : Nat} {vO : Value} {vs : Nat → Value} {X : List (List PInstr)} {c : PCode} (h : CodeM lab w lo vO vs X) (hI : c.name.size ≤ maxLen ∧ InI c.params ∧ InI c.results ∧ InI c.vars ∧ InI c.slots) :
    rCode (fun _ => True) w [.string c.name, .int .i64 c.params, .int .i64 c.results, .int .i64 c.vars, .int .i64 c.slots, vO] (withB c X) := ⟨vO, rfl, hI, h.reads⟩

set_option maxRecDepth 100000 in
set_option maxHeartbeats 16000000 in
theorem reordered_any {fs : List PCode} {c : PCode} {A : Nat → Nat} (H : PhiOK fs c A) {done : Nat → Nat → Prop} {X : List (List PInstr)} {L : Nat → List Int} {E : List (Nat × Nat)} (hS : SplitR c.blocks done X L E)
    (hA : ∀ i, i < c.blocks.length → A i = ((aheadF c).getD i []).length) (hfX : FitCode (withB c X)) (hI : c.name.size ≤ maxLen ∧ InI c.params ∧ InI c.results ∧ InI c.vars ∧ InI c.slots)
    {w : World} {lab : Nat → Nat} {lo : Nat} {vO was : Value} {vs : Nat → Value} (hM : CodeM lab w lo vO vs X) (hnew : ∀ k, w.heap.size ≤ k → lab k = 0) (hlow : ∀ k, k < lo → lab k = lowL) (hW : rIntss (fun m => lab m = 0) w [was] (aheadF c)) {F : Nat → Prop} (hFF : ∀ k, F k → k < w.heap.size ∧ lab k = boxL) :
    Calls Tryd.prog 29 #[.agg #[.string c.name, .int .i64 c.params, .int .i64 c.results, .int .i64 c.vars, .int .i64 c.slots, vO], was] w fun e w' => ∃ lab' X2, e = .returned (.agg #[.string c.name, .int .i64 c.params, .int .i64 c.results, .int .i64 c.vars, .int .i64 c.slots, vO]) ∧ ReD (fun i => ((aheadF (withB c X)).getD i []).length) X X2 c.blocks.length 0 ∧
      ReR X (fun i => ((aheadF (withB c X)).getD i []).length) c.vars X2 ∧ CodeM lab' w' lo vO vs X2 ∧ (∀ k, w'.heap.size ≤ k → lab' k = 0) ∧ (∀ k, k < lo → lab' k = lowL) ∧ Below lo w w' ∧ ∀ k, F k → lab' k = boxL ∧ w'.heap[k]? = w.heap[k]? := by
  obtain ⟨aO, cO, rfl⟩ := ownsRow_slice hM.own
  obtain ⟨aW, cW, rfl, -⟩ := rIntss_open hW
  have hWl : (aheadF c).length = c.blocks.length := by simp [aheadF]
  rw [hWl] at hW ⊢
  have hXl := hM.len
  have hn0 := H.n0
  have hAl : (aheadF (withB c X)).length = X.length := by simp [aheadF, withB]
  have HI := Lib.hid hI
  have HM := Lib.hid hM
  have HN := Lib.hid hnew
  have HLo := Lib.hid hlow
  have HW := Lib.hid hW
  have HFF := Lib.hid hFF
  have HF := Lib.hid hfX
  have hXb : X.length * 24 ≤ 140737488351232 := by have := hfX.1; unfold reachBytes at this; exact this
  clear hI hM hnew hlow hW hfX hFF
  go_enter Tryd.func29, Tryd.ntmps29
  go_wp2_with fail
  generalize hW1 : (w.alloc (.cells #[.string c.name, .int .i64 c.params, .int .i64 c.results, .int .i64 c.vars, .int .i64 c.slots, .slice aO X.length cO] 28)).alloc (.cells #[.string ⟨#[]⟩, .int .i64 0, .int .i64 0, .int .i64 0, .int .i64 0, .slice none 0 0] 28) = W1
  have hs1 : W1.heap.size = w.heap.size + 2 := by rw [← hW1]; simp
  have hb1 : Below w.heap.size w W1 := by rw [← hW1]; exact below_box2 _ _ _
  have hP1 : W1.heap[w.heap.size]? = some (.cells #[.string c.name, .int .i64 c.params, .int .i64 c.results, .int .i64 c.vars, .int .i64 c.slots, .slice aO X.length cO] 28) := by rw [← hW1, Below.heap_alloc _ _ _ (by simp)]; exact heap_alloc_new _ _
  have hR1 : W1.heap[w.heap.size + 1]? = some (.cells #[.string ⟨#[]⟩, .int .i64 0, .int .i64 0, .int .i64 0, .int .i64 0, .slice none 0 0] 28) := by
    have h := heap_alloc_new (w.alloc (.cells #[.string c.name, .int .i64 c.params, .int .i64 c.results, .int .i64 c.vars, .int .i64 c.slots, .slice aO X.length cO] 28)) (.cells #[.string ⟨#[]⟩, .int .i64 0, .int .i64 0, .int .i64 0, .int .i64 0, .slice none 0 0] 28)
    rw [World.size_alloc] at h
    rw [← hW1]; exact h
  clear hW1
  obtain ⟨lab1, hlab1⟩ : ∃ l : Nat → Nat, l = fun k => if k = w.heap.size + 1 then boxL else lab k := ⟨_, rfl⟩
  have l1 : ∀ k, k < w.heap.size → lab1 k = lab k := fun k hk => by rw [hlab1]; exact if_neg (by omega)
  have l2 : ∀ k, W1.heap.size ≤ k → lab1 k = 0 := fun k hk => by rw [hlab1]; show (if k = w.heap.size + 1 then boxL else lab k) = 0; rw [if_neg (by omega)]; exact HN.out k (by omega)
  have l3 : lab1 (w.heap.size + 1) = boxL := by rw [hlab1]; exact if_pos rfl
  have l4 : lab1 w.heap.size = 0 := by rw [hlab1]; show (if w.heap.size = w.heap.size + 1 then boxL else lab w.heap.size) = 0; rw [if_neg (by omega)]; exact HN.out _ (Nat.le_refl _)
  have hM1 : CodeM lab1 W1 lo (.slice aO X.length cO) vs X := HM.out.keep hb1.size (fun k hk _ => hb1.block k hk) (fun k hk _ => l1 k hk)
  have hlo := HM.out.lo
  have hW1' : rIntss (fun m => lab1 m = 0) W1 [.slice aW c.blocks.length cW] (aheadF c) := Good.keep (R := rIntss) (S := fun m => lab m = 0) ⟨hb1.size, fun k hk _ => hb1.block k hk⟩ (fun k hk h => (l1 k hk).trans h) HW.out
  refine (ahead_any (withB c X) _ W1 (code_reads hM1 HI.out) HF.out).mono ?_
  rintro e w2 ⟨va, rfl, hva, hb2⟩
  obtain ⟨aA, cA, rfl, -⟩ := rIntss_open hva
  rw [hAl] at hva ⊢
  have hz2 := hb2.size
  have h0 : RO F c X lo w.heap.size (w.heap.size + 1) w (.slice (aO) X.length cO) (.slice (aA) X.length cA) (.slice (aW) c.blocks.length cW) vs lab1 w2 X :=
    ⟨hM1.below hb2, l4, l3, fun k hk => l2 k (by omega), fun k hk => (l1 k (by omega)).trans (HLo.out k hk), ⟨rfl, fun i h h2 => ⟨rfl, fun k hk hk2 => Or.inl rfl⟩⟩,
      Good.wide (R := rIntss) hva (fun k _ hk => l2 k hk), Good.kept (R := rIntss) ⟨hb2.size, fun k hk _ => hb2.block k hk⟩ hW1', (hb2.block _ (by omega)).trans hP1, (hb2.block _ (by omega)).trans hR1, (hb1.trans (hb2.mono (by omega))).mono hlo, fun k hk => by
        obtain ⟨f1, f2⟩ := HFF.out k hk
        exact ⟨f1, (l1 k f1).trans f2, (hb2.block k (by omega)).trans (hb1.block k f1)⟩⟩
  clear hs1 hb1 hP1 hR1 hlab1 l1 l2 l3 l4 hM1 hW1' hva hb2 hz2 HM HN HLo HW HF
  have p5 : w2.cell? ⟨w.heap.size, 5, none⟩ = some (.slice aO X.length cO) := by simp [World.cell?, h0.bP]
  go_wp2_with fail
  go_loopw [20] (fun iv wr => ∃ (i : Nat) (lab : Nat → Nat) (Y : List (List PInstr)), i ≤ X.length ∧ iv = .int .i64 i ∧ RO F c X lo w.heap.size (w.heap.size + 1) w (.slice (aO) X.length cO) (.slice (aA) X.length cA) (.slice (aW) c.blocks.length cW) vs lab wr Y ∧ ReD (fun i => ((aheadF (withB c X)).getD i []).length) X Y i 0 ∧ ∀ j (h : j < Y.length) (h2 : j < X.length), i ≤ j → Y[j] = X[j]) (fun iv _ => X.length - (intOf iv).toNat)
  case atStart => exact ⟨0, lab1, X, Nat.zero_le _, rfl, h0, ReD.start _ _ _, fun _ _ _ _ => rfl⟩
  case round =>
    clear h0
    obtain ⟨i, lab, Y, hi, rfl, hR, hD, hrest⟩ := hrel
    have HDn := Lib.hid hD
    clear hD
    have hYl : Y.length = X.length := hR.re.len
    by_cases hil : i < X.length
    · have hil1 : (i : Int) < (X.length : Int) := by omega
      have hown := hR.m.own
      obtain ⟨-, aO', cO', he, hcO1, hcO2, hcell⟩ := ownsRow_open hown
      simp only [Value.slice.injEq] at he
      obtain ⟨rfl, -, rfl⟩ := he
      obtain ⟨bO, rfl, -, hbO, hcO, -⟩ := hcell i (by omega)
      have hcO' : wr.cell? ⟨bO, 0 + i, none⟩ = some (vs i) := by rw [Nat.zero_add, hcO]; simp [show i < Y.length by omega]
      obtain ⟨r, capr, hv, hr1, hr2, hr3, hr4, hr5, -⟩ := hR.m.row_at (i := i) (by omega)
      have hYi : Y[i] = X[i] := hrest i (by omega) hil (Nat.le_refl _)
      rw [hYi] at hv hr1
      rw [hv] at hcO'
      by_cases hin : i < c.blocks.length
      · have hin1 : ¬ ((c.blocks.length : Int) ≤ (i : Int)) := by omega
        have hrow : RowM lab wr i (.slice (some ⟨r, 0, none⟩) X[i].length capr) X[i] := by have := hR.m.rows i (by omega); rw [hYi, hv] at this; exact this
        have hri : ∀ (h : i < Y.length), Y[i].length = X[i].length ∧ ∀ k (h1 : k < Y[i].length) (h2 : k < X[i].length), 0 ≤ k → Y[i][k] = X[i][k] := fun h => by rw [hYi]; exact ⟨rfl, fun _ _ _ _ => rfl⟩
        have hrj : ∀ j (h : j < Y.length) (h2 : j < X.length), i < j → Y[j] = X[j] := fun j h h2 hj => hrest j h h2 (by omega)
        have hpl := phisN_le X[i]
        have hpb : phisN X[i] ≤ 9223372036854775807 := by unfold maxLen at hr2; omega
        have Hrow := Lib.hid hrow
        have HR := Lib.hid hR
        have Hri := Lib.hid hri
        have Hrj := Lib.hid hrj
        clear hrow hR hri hrj hrest hown hcell hYi
        go_wp2_with fail
        refine (phis_here Hrow.out).mono ?_
        rintro e w' ⟨rfl, rfl⟩
        go_wp2_with fail
        go_loopw [31] (fun nv wq => ∃ (nn : Nat) (lab : Nat → Nat) (Y : List (List PInstr)), nn ≤ phisN X[i] ∧ nv = .int .i64 nn ∧ RO F c X lo w.heap.size (w.heap.size + 1) w (.slice (some ⟨bO, 0, none⟩) X.length cO) (.slice (aA) X.length cA) (.slice (aW) c.blocks.length cW) vs lab wq Y ∧ ReD (fun i => ((aheadF (withB c X)).getD i []).length) X Y i nn ∧ (∀ (h : i < Y.length), Y[i].length = X[i].length ∧ ∀ k (h1 : k < Y[i].length) (h2 : k < X[i].length), nn ≤ k → Y[i][k] = X[i][k]) ∧
            (∀ j (h : j < Y.length) (h2 : j < X.length), i < j → Y[j] = X[j])) (fun nv _ => phisN X[i] - (intOf nv).toNat)
        case atStart => exact ⟨0, lab, Y, Nat.zero_le _, rfl, HR.out, HDn.out, Hri.out, Hrj.out⟩
        case round =>
          clear HR Hri Hrj Hrow HDn
          obtain ⟨nn, lab2, Y2, hn, rfl, hR, hD, hri, hrj⟩ := hrel
          have HDn := Lib.hid hD
          clear hD
          obtain ⟨w5, hw5⟩ : ∃ wo, wo = wr := ⟨_, rfl⟩
          subst hw5
          have hYl2 : Y2.length = X.length := hR.re.len
          by_cases hnp : nn < phisN X[i]
          · have hnp1 : (nn : Int) < (phisN X[i] : Int) := by omega
            have hiA : i < (aheadF (withB c X)).length := by omega
            obtain ⟨aA', cA', he, hA1, hA2, hAat⟩ := rSlice_one hR.ah_
            simp only [Value.slice.injEq] at he
            obtain ⟨rfl, -, rfl⟩ := he
            obtain ⟨bA, oA, uA, rfl, hSA, hbA, hcA, huA⟩ := hAat i hiA
            obtain ⟨aq, cq, rfl, hq1, hq2, hqat⟩ := rInts_val huA
            unfold maxLen at hq2
            obtain ⟨Aq, hAq⟩ : ∃ l, l = (aheadF (withB c X))[i] := ⟨_, rfl⟩
            rw [← hAq] at hcA hq1 hqat huA
            have hAl2 : Aq.length ≤ X.length := by rw [hAq]; exact ahead_len _ hiA
            have HAq := Lib.hid hAq
            clear hAq
            have hmk := @run_make_row' Tryd.prog 23 3 (.int .i64 0) 8 Tryd.underlying23 Tryd.info_int rfl .i64 .i64 Aq.length (by omega) (by omega)
            have hcA2 : ∀ o, (w5.alloc o).cell? ⟨bA, oA + i, none⟩ = some (.slice aq Aq.length cq) := fun o => (World.cell?_alloc_lt _ _ _ hbA).trans hcA
            have HR := Lib.hid hR
            have Hri := Lib.hid hri
            have Hrj := Lib.hid hrj
            have Hqat := Lib.hid hqat
            clear hR hri hrj hqat huA hAat
            go_wp2_with fail
            clear hmk hcA2
            obtain ⟨g, hg⟩ : ∃ g, g = w5.heap.size := ⟨_, rfl⟩
            obtain ⟨wg, hwg⟩ : ∃ x, x = w5.alloc (.cells (madeCells #[.int .i64 0] Aq.length) 3) := ⟨_, rfl⟩
            have gs : wg.heap.size = g + 1 := by rw [hwg, hg]; simp
            have gold : ∀ k, k < g → wg.heap[k]? = w5.heap[k]? := fun k hk => by rw [hwg]; exact Below.heap_alloc _ _ _ (by omega)
            have gbox : wg.heap[g]? = some (.cells (madeCells #[.int .i64 0] Aq.length) 3) := by rw [hwg, hg]; exact heap_alloc_new _ _
            have gbel : Below lo w5 wg := by rw [hwg]; exact (Below.refl _ _).alloc HR.out.m.lo _
            rw [← hg, ← hwg]
            have Hg := Lib.hid hg
            have Gold := Lib.hid gold
            have Gbel := Lib.hid gbel
            clear hwg hg gold gbel
            go_loopw [45] (fun kv wq => ∃ (kk : Nat) (cur : Array Value), kk ≤ Aq.length ∧ kv = .int .i64 kk ∧ Since (fun m => m = g) wg wq ∧ wq.heap[g]? = some (.cells cur 3) ∧ cur.size = Aq.length ∧ ∀ t, t < kk → ∃ val, cur[t]? = some (.int .i64 val) ∧ 0 ≤ val ∧ val < c.vars) (fun kv _ => Aq.length - (intOf kv).toNat)
            case atStart => exact ⟨0, _, Nat.zero_le _, rfl, Since.refl _ _, gbox, by simp [size_madeCells], fun t ht => absurd ht (by omega)⟩
            case round =>
              clear gbox
              obtain ⟨kk, cur, hk, rfl, hsg, hbg, hcz, hvals⟩ := hrel
              obtain ⟨wq, hwq⟩ : ∃ wo, wo = wr := ⟨_, rfl⟩
              subst hwq
              by_cases hka : kk < Aq.length
              · have hka1 : (kk : Int) < (Aq.length : Int) := by omega
                have hX0 : i < (aheadF c).length := by omega
                obtain ⟨q, o, hqe, hqX, ho, ⟨t, ht, hft⟩, hpick⟩ := reord_pick H hS hin hiA (k := kk) (by rw [← HAq.out]; exact hka) hX0
                have hqe' : Aq[kk] = (q : Int) := (List.getElem_of_eq HAq.out hka).trans hqe
                have hgw : g = w5.heap.size := Hg.out
                have old : ∀ m, m < g → wq.heap[m]? = w5.heap[m]? := fun m hm => (hsg.block m (by omega) (fun e => by have e' : m = g := e; omega)).trans (Gold.out m hm)
                have oldc : ∀ {b j : Nat} {v : Value}, b < w5.heap.size → w5.cell? ⟨b, j, none⟩ = some v → wq.cell? ⟨b, j, none⟩ = some v := fun {b j v} hb e => (World.cell?_of_block (a := ⟨b, j, none⟩) (old b (by omega))).trans e
                obtain ⟨b5, o5, rfl, -, hb5, hc5, -⟩ := Hqat.out kk hka
                rw [hqe'] at hc5
                have hc5' := oldc hb5 hc5
                obtain ⟨aW', cW', he, -, -, hWat⟩ := rSlice_one HR.out.was_
                simp only [hWl, Value.slice.injEq] at he
                obtain ⟨rfl, -, rfl⟩ := he
                obtain ⟨bW, oW, uW, rfl, -, hbW, hcW, huW⟩ := hWat i hX0
                obtain ⟨aw, cw, rfl, hwl, hwat, -⟩ := rInts_open huW
                have hcW' := oldc hbW hcW
                have hwat' : IntsAt wq aw (aheadF c)[i] := fun j hj => by
                  obtain ⟨b, off, e1, e2, e3⟩ := hwat j hj
                  exact ⟨b, off, e1, by have := hsg.size; omega, oldc e2 e3⟩
                obtain ⟨r', cap', hv', -, -, -, hr5', -, hins⟩ := HR.out.m.row_at (i := i) (by omega)
                obtain ⟨hyl, hyk⟩ := Hri.out (by omega)
                rw [hv] at hv'
                simp only [Value.slice.injEq, Option.some.injEq, Addr.mk.injEq, and_true] at hv'
                obtain ⟨rfl, -, -⟩ := hv'
                have hnX : nn < X[i].length := by omega
                have hyn := hyk nn (by omega) hnX (Nat.le_refl _)
                have hin2 := hins nn (by omega)
                rw [hyn] at hin2
                obtain ⟨v1, v2, v5, -, -, k2, -, -, -, -, -, q2, -⟩ := hin2
                obtain ⟨hpa, hpv⟩ := split_phi H hS hin hil hnX hnp
                obtain ⟨ar, cr, rfl, hr1x, hr2x, hrat⟩ := rInts_val q2
                have hAi : A i = (aheadF c)[i].length := by rw [hA i hin]; simp [List.getD, hX0]
                have htl : t < X[i][nn].ars.length := by omega
                obtain ⟨bR, oR, rfl, -, hbR, hcR, -⟩ := hrat t htl
                have k2' := oldc hr5' k2
                have hcR' := oldc hbR hcR
                have hval := inAll_mem hpv (List.getElem_mem htl)
                obtain ⟨val, hvale⟩ : ∃ v, v = X[i][nn].ars[t] := ⟨_, rfl⟩
                rw [← hvale] at hcR' hval
                have hcg : wq.cell? ⟨g, kk, none⟩ = cur[kk]? := by simp [World.cell?, hbg]
                have hcg2 : ∃ z, cur[kk]? = some z := ⟨cur[kk]'(by omega), by simp [show kk < cur.size by omega]⟩
                obtain ⟨zc, hzc⟩ := hcg2
                rw [hzc] at hcg
                have hfg : wq.frozen? ⟨g, kk, none⟩ = false := by simp [World.frozen?, hbg]
                have hnn1 : (nn : Int) < (X[i].length : Int) := by omega
                have ht1 : (t : Int) < (X[i][nn].ars.length : Int) := by omega
                have hX1 : (i : Int) < (c.blocks.length : Int) := by omega
                obtain ⟨al, hal⟩ : ∃ n, n = X[i][nn].ars.length := ⟨_, rfl⟩
                rw [← hal] at k2' ht1
                obtain ⟨wl, hwl2⟩ : ∃ n, n = (aheadF c)[i].length := ⟨_, rfl⟩
                have hidx := fun w' (h : IntsAt w' aw (aheadF c)[i]) => index_any (o : Int) aw (aheadF c)[i] cw w' hwl h
                rw [hft, ← hwl2] at hidx
                rw [← hwl2] at hcW'
                have HIdx := Lib.hid hidx
                have Hwat := Lib.hid hwat'
                have Hold := Lib.hid old
                have Hpick := Lib.hid hpick
                have Hbg := Lib.hid hbg
                have Hvals := Lib.hid hvals
                have Hhval := Lib.hid hval
                clear hidx hwat hwat' old oldc hvale hpick hbg hvals hval hqe hqe' hc5 hcW hins hyk hyn k2 q2 hrat hcR hpv huW hWat hpa hAi htl hal hwl2 hwl hft ht hzc hgw
                by_cases hq0 : q < c.blocks.length
                · have hq1 : ¬ ((c.blocks.length : Int) ≤ (q : Int)) := by omega
                  obtain rfl : o = q := by
                    rcases Hpick.out with h | h
                    · exact h.2
                    · omega
                  clear Hpick
                  go_upto_region 22 with fail
                  refine gGo [(16, fun w' => w'.cell? ⟨r, nn * 6 + 2, none⟩ = some (.slice (some ⟨bR, oR, none⟩) al cr) ∧ w'.cell? ⟨bW, oW + i, none⟩ = some (.slice aw wl cw) ∧ w'.cell? ⟨bR, oR + t, none⟩ = some (.int .i64 val))] ?_
                  have S0 : (wq.drew.cell? ⟨r, nn * 6 + 2, none⟩ = some (.slice (some ⟨bR, oR, none⟩) al cr)) ∧ (wq.drew.cell? ⟨bW, oW + i, none⟩ = some (.slice aw wl cw)) ∧ (wq.drew.cell? ⟨bR, oR + t, none⟩ = some (.int .i64 val)) := ⟨k2', hcW', hcR'⟩
                  have dcg : wq.drew.cell? ⟨g, kk, none⟩ = some zc := hcg
                  have dfg : wq.drew.frozen? ⟨g, kk, none⟩ = false := hfg
                  have dsg : Since (fun m => m = g) wg wq.drew := hsg.trans (Since.drew _ _)
                  have dwat : IntsAt wq.drew aw (aheadF c)[i] := Hwat.out
                  have dbg : wq.drew.heap[g]? = some (.cells cur 3) := Hbg.out
                  clear k2' hcW' hcR' hcg hfg hsg Hwat Hbg Hold hc5'
                  generalize wq.drew = wd at *
                  refine gPu 0 (held1 (fun _ => S0)) ?_
                  refine gPu 1 (held1 (fun _ => S0)) ?_
                  refine gPu 2 (held1 (fun _ => S0)) ?_
                  refine gPu 3 (held1 (fun _ => S0)) ?_
                  refine gPu 4 (held1 (fun _ => S0)) ?_
                  refine gPu 5 (held1 (fun _ => S0)) ?_
                  refine gRd 6 0 [13, 14, 16] (held1 (fun _ => S0)) ?_
                  refine gPu 7 (held1 (fun _ => S0)) ?_
                  refine gPu 8 (held1 (fun _ => S0)) ?_
                  refine gPu 9 (held1 (fun _ => S0)) ?_
                  refine gRd 10 0 [12, 13, 14, 16] (held1 (fun _ => S0)) ?_
                  refine gPu 11 (held1 (fun _ => S0)) ?_
                  refine gP1 12 (fun K hK => ?_)
                  go_simp
                  go_at_call 43
                  refine (HIdx.out wd dwat).mono ?_
                  rintro e w' ⟨rfl, rfl⟩
                  refine gNx hK (held1 (fun _ => S0)) ?_
                  clear hK K
                  refine gPu 13 (held1 (fun _ => S0)) ?_
                  refine gRd 14 0 [16] (held1 (fun _ => S0)) ?_
                  refine gPu 15 (held1 (fun _ => S0)) ?_
                  refine gP1 16 (fun K hK => ?_)
                  go_simp
                  refine gNx hK (held1 (fun h => absurd h (by decide))) ?_
                  clear hK K
                  refine gFin ?_
                  clear dcg dfg S0
                  go_wp2_with fail
                  go_roundw
                  case rel =>
                    refine ⟨kk + 1, cur.setIfInBounds kk (.int .i64 val), by omega, by go_num, dsg.trans (Since.setCell wd ⟨g, kk, none⟩ _), heap_setCell_same wd g kk _ _ _ dbg, by simp [hcz], fun u hu => ?_⟩
                    by_cases e : u = kk
                    · subst e
                      exact ⟨val, by simp [hcz, hka], Hhval.out.1, Hhval.out.2⟩
                    · obtain ⟨x, h1, h2⟩ := Hvals.out u (by omega)
                      exact ⟨x, by rw [Array.getElem?_setIfInBounds_ne (fun e' => e e'.symm)]; exact h1, h2⟩
                  all_goals (simp [intOf]; omega)
                · have hq1 : (c.blocks.length : Int) ≤ (q : Int) := by omega
                  have hpk : ∀ j (hj : j < X.length), j < c.blocks.length → ((q : Int) ∈ toL X[j] ↔ j = o) := by
                    rcases Hpick.out with h | h
                    · omega
                    · exact h.2
                  clear Hpick
                  have p5q : wq.cell? ⟨w.heap.size, 5, none⟩ = some (.slice (some ⟨bO, 0, none⟩) X.length cO) := by
                    have hb := HR.out.bP
                    have hl := (Array.getElem?_eq_some_iff.1 hb).1
                    have e := (Hold.out w.heap.size (by have := Hg.out; omega)).trans hb
                    simp [World.cell?, e]
                  have Hpk := Lib.hid hpk
                  clear hpk
                  have lfacts : ∀ j, j < c.blocks.length → ∃ rj Lj capj a3 l3 cap3, wq.cell? ⟨bO, j, none⟩ = some (.slice (some ⟨rj, 0, none⟩) Lj capj) ∧ 0 < Lj ∧ Lj ≤ 9223372036854775807 ∧ wq.cell? ⟨rj, (Lj - 1) * 6 + 5, none⟩ = some (.slice a3 l3 cap3) ∧ l3 ≤ 9223372036854775807 ∧
                      ∃ tl : List Int, tl.length = l3 ∧ IntsAt wq a3 tl ∧ ((q : Int) ∈ tl ↔ j = o) := by
                    intro j hj
                    have hjY : j < Y2.length := by have := hS.len; omega
                    have hjX : j < X.length := by omega
                    obtain ⟨rj, capj, e1, e2, e3, e4, e5, e6, e7⟩ := HR.out.m.row_at hjY
                    obtain ⟨-, aO2, cO2, he2, -, -, hcell2⟩ := ownsRow_open HR.out.m.own
                    simp only [Value.slice.injEq, Option.some.injEq] at he2
                    obtain ⟨hb2, -, -⟩ := he2
                    obtain ⟨bO2, e8, -, hbO2, hcO2, -⟩ := hcell2 j hjY
                    rw [← hb2] at e8
                    simp only [Option.some.injEq, Addr.mk.injEq, and_true] at e8
                    subst e8
                    have hc : w5.cell? ⟨bO, j, none⟩ = some (vs j) := by rw [hcO2]; simp [hjY]
                    obtain ⟨g1, g2⟩ := HR.out.re.at_ j hjX hjY
                    have hpos : 0 < X[j].length := by
                      have := hS.old j hj hjX
                      rw [this, setToL_len (Nat.lt_of_le_of_lt (Nat.zero_le _) (H.len _ (List.getElem_mem hj)))]
                      exact Nat.lt_of_le_of_lt (Nat.zero_le _) (H.len _ (List.getElem_mem hj))
                    have hposY : 0 < Y2[j].length := by omega
                    obtain ⟨u1, u2, u5, -, -, -, -, -, k5, -, -, -, q5⟩ := e7 (Y2[j].length - 1) (by omega)
                    obtain ⟨a3, cap3, rfl, hl3, hat3, -⟩ := rInts_open q5
                    have up : ∀ {b j : Nat} {v : Value}, b < w5.heap.size → w5.cell? ⟨b, j, none⟩ = some v → wq.cell? ⟨b, j, none⟩ = some v := fun {b j v} hb e => (World.cell?_of_block (a := ⟨b, j, none⟩) (Hold.out b (by have := Hg.out; omega))).trans e
                    refine ⟨rj, Y2[j].length, capj, a3, _, cap3, by rw [← e1]; exact up hbO2 hc, hposY, by unfold maxLen at e3; omega, up e5 k5, hl3, _, rfl, fun t ht => ?_, ?_⟩
                    · obtain ⟨b, off, f1, f2, f3⟩ := hat3 t ht
                      exact ⟨b, off, f1, by have := hsg.size; have := Hg.out; omega, up f2 f3⟩
                    · have : (Y2[j][Y2[j].length - 1]'(by omega)).to = toL X[j] := by
                        rw [toL_at hpos]
                        have h1 : Y2[j].length - 1 = X[j].length - 1 := by omega
                        rcases g2 (Y2[j].length - 1) (by omega) (by omega) with e | ⟨-, l, e, -⟩
                        · rw [e]; congr 2
                        · rw [e]
                          show (X[j][Y2[j].length - 1]'(by omega)).to = _
                          congr 2
                      rw [this]
                      exact Hpk.out j hjX hj
                  have HL := Lib.hid lfacts
                  clear lfacts
                  go_wp2_with fail
                  go_loop [12, 57] (fun ov jv => ∃ j : Nat, j ≤ c.blocks.length ∧ jv = .int .i64 j ∧ ov = .int .i64 (if o < j then (o : Int) else (q : Int))) (fun _ jv => c.blocks.length - (intOf jv).toNat)
                  case atStart => exact ⟨0, Nat.zero_le _, rfl, by rw [if_neg (by omega)]⟩
                  case round =>
                    obtain ⟨j, hj, rfl, rfl⟩ := hrel
                    by_cases hjn : j < c.blocks.length
                    · have hjn1 : (j : Int) < (c.blocks.length : Int) := by omega
                      have hjX1 : (j : Int) < (X.length : Int) := by have := hS.len; omega
                      obtain ⟨rj, Lj, capj, a3, l3, cap3, f1, f2, f3, f4, f5, tl, rfl, f7, f8⟩ := HL.out j hjn
                      have f2' : (0 : Int) < (Lj : Int) := by omega
                      have hct := contains_any (q : Int) a3 tl cap3 wq f5 f7
                      have Hct := Lib.hid hct
                      have F8 := Lib.hid f8
                      clear hct f7 f8
                      obtain ⟨OV, hOV⟩ : ∃ x : Int, x = if o < j then (o : Int) else (q : Int) := ⟨_, rfl⟩
                      rw [← hOV]
                      have HOV := Lib.hid hOV
                      clear hOV
                      by_cases hjo : j = o
                      · have ht : decide ((q : Int) ∈ tl) = true := decide_eq_true (F8.out.2 hjo)
                        rw [ht] at Hct
                        subst hjo
                        clear ht
                        go_wp2_with fail
                        refine Hct.out.mono ?_
                        rintro e w' ⟨rfl, rfl⟩
                        go_wp2_with fail
                        go_round
                        case rel => exact ⟨j + 1, by omega, by go_num, by rw [if_pos (by omega)]⟩
                        all_goals (simp [intOf]; omega)
                      · have ht : decide ((q : Int) ∈ tl) = false := decide_eq_false (fun h => hjo (F8.out.1 h))
                        rw [ht] at Hct
                        clear ht
                        go_wp2_with fail
                        refine Hct.out.mono ?_
                        rintro e w' ⟨rfl, rfl⟩
                        go_wp2_with fail
                        go_round
                        case rel =>
                          refine ⟨j + 1, by omega, by go_num, ?_⟩
                          rw [HOV.out]
                          congr 1
                          by_cases h : o < j
                          · rw [if_pos h, if_pos (by omega)]
                          · rw [if_neg h, if_neg (by omega)]
                        all_goals (simp [intOf]; omega)
                    · have hje : j = c.blocks.length := by omega
                      subst hje
                      rw [if_pos ho]
                      clear HL p5q
                      go_upto_region 22 with fail
                      refine gGo [(16, fun w' => w'.cell? ⟨r, nn * 6 + 2, none⟩ = some (.slice (some ⟨bR, oR, none⟩) al cr) ∧ w'.cell? ⟨bW, oW + i, none⟩ = some (.slice aw wl cw) ∧ w'.cell? ⟨bR, oR + t, none⟩ = some (.int .i64 val))] ?_
                      have S0 : (wq.drew.cell? ⟨r, nn * 6 + 2, none⟩ = some (.slice (some ⟨bR, oR, none⟩) al cr)) ∧ (wq.drew.cell? ⟨bW, oW + i, none⟩ = some (.slice aw wl cw)) ∧ (wq.drew.cell? ⟨bR, oR + t, none⟩ = some (.int .i64 val)) := ⟨k2', hcW', hcR'⟩
                      have dcg : wq.drew.cell? ⟨g, kk, none⟩ = some zc := hcg
                      have dfg : wq.drew.frozen? ⟨g, kk, none⟩ = false := hfg
                      have dsg : Since (fun m => m = g) wg wq.drew := hsg.trans (Since.drew _ _)
                      have dwat : IntsAt wq.drew aw (aheadF c)[i] := Hwat.out
                      have dbg : wq.drew.heap[g]? = some (.cells cur 3) := Hbg.out
                      clear k2' hcW' hcR' hcg hfg hsg Hwat Hbg Hold hc5'
                      generalize wq.drew = wd at *
                      refine gPu 0 (held1 (fun _ => S0)) ?_
                      refine gPu 1 (held1 (fun _ => S0)) ?_
                      refine gPu 2 (held1 (fun _ => S0)) ?_
                      refine gPu 3 (held1 (fun _ => S0)) ?_
                      refine gPu 4 (held1 (fun _ => S0)) ?_
                      refine gPu 5 (held1 (fun _ => S0)) ?_
                      refine gRd 6 0 [13, 14, 16] (held1 (fun _ => S0)) ?_
                      refine gPu 7 (held1 (fun _ => S0)) ?_
                      refine gPu 8 (held1 (fun _ => S0)) ?_
                      refine gPu 9 (held1 (fun _ => S0)) ?_
                      refine gRd 10 0 [12, 13, 14, 16] (held1 (fun _ => S0)) ?_
                      refine gPu 11 (held1 (fun _ => S0)) ?_
                      refine gP1 12 (fun K hK => ?_)
                      go_simp
                      go_at_call 43
                      refine (HIdx.out wd dwat).mono ?_
                      rintro e w' ⟨rfl, rfl⟩
                      refine gNx hK (held1 (fun _ => S0)) ?_
                      clear hK K
                      refine gPu 13 (held1 (fun _ => S0)) ?_
                      refine gRd 14 0 [16] (held1 (fun _ => S0)) ?_
                      refine gPu 15 (held1 (fun _ => S0)) ?_
                      refine gP1 16 (fun K hK => ?_)
                      go_simp
                      refine gNx hK (held1 (fun h => absurd h (by decide))) ?_
                      clear hK K
                      refine gFin ?_
                      clear dcg dfg S0
                      go_wp2_with fail
                      go_roundw
                      case rel =>
                        refine ⟨kk + 1, cur.setIfInBounds kk (.int .i64 val), by omega, by go_num, dsg.trans (Since.setCell wd ⟨g, kk, none⟩ _), heap_setCell_same wd g kk _ _ _ dbg, by simp [hcz], fun u hu => ?_⟩
                        by_cases e : u = kk
                        · subst e
                          exact ⟨val, by simp [hcz, hka], Hhval.out.1, Hhval.out.2⟩
                        · obtain ⟨x, h1, h2⟩ := Hvals.out u (by omega)
                          exact ⟨x, by rw [Array.getElem?_setIfInBounds_ne (fun e' => e e'.symm)]; exact h1, h2⟩
                      all_goals (simp [intOf]; omega)
              · have hke : kk = Aq.length := by omega
                subst hke
                have hgw : g = w5.heap.size := Hg.out
                have old : ∀ m, m < g → wq.heap[m]? = w5.heap[m]? := fun m hm => (hsg.block m (by omega) (fun e => by have e' : m = g := e; omega)).trans (Gold.out m hm)
                have hgz := hsg.size
                obtain ⟨l, hll, hlv⟩ := list_of_lt (n := Aq.length) (p := fun t val => cur[t]? = some (.int .i64 val) ∧ 0 ≤ val ∧ val < c.vars) (fun t ht => by obtain ⟨val, h1, h2⟩ := hvals t ht; exact ⟨val, h1, h2⟩)
                have hvI := H.hdr
                have hRq : RO F c X lo w.heap.size (w.heap.size + 1) w (.slice (some ⟨bO, 0, none⟩) X.length cO) (.slice (some ⟨bA, oA, none⟩) X.length cA) (.slice (aW) c.blocks.length cW) vs lab2 wq Y2 := HR.out.keep (by omega) (fun k hk _ => old k (by omega)) (fun _ _ _ => rfl) (fun k hk => HR.out.new k (by omega)) (Gbel.out.trans (hsg.below (by have := HR.out.m.lo; omega) (fun k hk => by have e : k = g := hk; have := HR.out.m.lo; omega)))
                have hrl : rInts (fun m => lab2 m = 0) wq [.slice (some ⟨g, 0, none⟩) Aq.length Aq.length] l := by
                  refine ⟨some ⟨g, 0, none⟩, Aq.length, by rw [hll], by omega, by unfold maxLen; omega, fun t ht => ?_⟩
                  obtain ⟨h1, h2, h3⟩ := hlv t ht
                  refine ⟨g, 0, [.int .i64 l[t]], rfl, HR.out.new g (by omega), by omega, rfl, fun j hj => ?_, rfl, ?_⟩
                  · obtain rfl : j = 0 := by omega
                    simp only [Nat.mul_one, Nat.zero_add, Nat.add_zero]
                    simp [World.cell?, hbg, h1]
                  · unfold InI; omega
                have hlin : inAll l c.vars = true := inAll_of fun x hx => by
                  obtain ⟨t, ht, rfl⟩ := List.mem_iff_getElem.1 hx
                  exact (hlv t ht).2
                have hiY : i < Y2.length := by omega
                obtain ⟨hyl, hyk⟩ := Hri.out hiY
                have hnX : nn < X[i].length := by omega
                have hnY : nn < Y2[i].length := by omega
                have hyn := hyk nn hnY hnX (Nat.le_refl _)
                obtain ⟨r', cap', hv', -, -, hr4', hr5', hr6', hins⟩ := hRq.m.row_at hiY
                have hvr := hv
                rw [hv] at hv'
                simp only [Value.slice.injEq, Option.some.injEq, Addr.mk.injEq, and_true] at hv'
                obtain ⟨rfl, -, -⟩ := hv'
                obtain ⟨v1, v2, v5, -, -, k2, -⟩ := hins nn hnY
                have f2 := hr6' (nn * 6 + 2)
                have hA2 : l.length = ((aheadF (withB c X)).getD i []).length := by rw [hll, HAq.out]; simp [List.getD, hiA]
                have hRE := hRq.re.set hiY hnY hil hnX hyn hnp hA2 hlin
                have hRS := hRq.setAs hiY hnY hvr hr4' hrl hRE
                have hnn1 : (nn : Int) < (X[i].length : Int) := by omega
                have hri9 : ∀ (h : i < (Y2.set i (Y2[i].set nn { Y2[i][nn] with ars := l })).length), (Y2.set i (Y2[i].set nn { Y2[i][nn] with ars := l }))[i].length = X[i].length ∧ ∀ k (h1 : k < (Y2.set i (Y2[i].set nn { Y2[i][nn] with ars := l }))[i].length) (h2 : k < X[i].length), nn + 1 ≤ k → (Y2.set i (Y2[i].set nn { Y2[i][nn] with ars := l }))[i][k] = X[i][k] := by
                  intro h
                  refine ⟨by rw [List.getElem_set_self, List.length_set]; exact hyl, fun k h1 h2 hk => ?_⟩
                  simp only [List.getElem_set_self]
                  rw [List.getElem_set_ne (by omega)]
                  exact hyk k (by omega) h2 (by omega)
                have hrj9 : ∀ j (h : j < (Y2.set i (Y2[i].set nn { Y2[i][nn] with ars := l })).length) (h2 : j < X.length), i < j → (Y2.set i (Y2[i].set nn { Y2[i][nn] with ars := l }))[j] = X[j] := by
                  intro j h h2 hj
                  rw [List.getElem_set_ne (by omega)]
                  exact Hrj.out j (by rw [List.length_set] at h; exact h) h2 hj
                have HDS := Lib.hid (HDn.out.set hiY hnY hA2)
                have HRS := Lib.hid hRS
                have HR9 := Lib.hid hri9
                have HJ9 := Lib.hid hrj9
                clear hRS hri9 hrj9 hRE hRq hrl hlin hlv hins hyn hyk hyl hgw old hsg hbg hvals hA2 HR Hri Hrj
                go_wp2_with fail
                go_roundw
                case rel => exact ⟨nn + 1, lab2, _, by omega, by go_num, HRS.out, HDS.out, HR9.out, HJ9.out⟩
                all_goals (simp [intOf]; omega)
          · have hne : nn = phisN X[i] := by omega
            have HD2 := Lib.hid (ReD.next hil hne HDn.out)
            subst hne
            go_wp2_with fail
            go_roundw
            case rel => exact ⟨i + 1, lab2, Y2, by omega, by go_num, hR, HD2.out, fun j h h2 hj => hrj j h h2 (by omega)⟩
            all_goals (simp [intOf]; omega)
      · have hin1 : (c.blocks.length : Int) ≤ (i : Int) := by omega
        obtain ⟨g0, g1, g2, g3, g4, g5, gz, gl⟩ := six_cells hR.bP
        obtain ⟨y0, y1, y2, y3, y4, y5, yz, yl⟩ := six_cells hR.bR
        obtain ⟨W, hW, hWb, hWs⟩ := six_set (.string c.name) (.int .i64 c.params) (.int .i64 c.results) (.int .i64 c.vars) (.int .i64 c.slots) (.slice (some ⟨bO, 0, none⟩) X.length cO) hR.bR
        have HE := Lib.hid (hR.fin hWs (by omega) (fun k hk => by have := (hR.fx k hk).1; omega))
        have HbW := Lib.hid hWb
        have HW := Lib.hid hW
        clear hR hWb hW hWs hrest
        go_wp2_with fail
        rw [HW.out]
        obtain ⟨w0, w1, w2, w3, w4, w5, -, -⟩ := six_cells HbW.out
        exact bodyPost_ret (v := .agg #[.string c.name, .int .i64 c.params, .int .i64 c.results, .int .i64 c.vars, .int .i64 c.slots, .slice (some ⟨bO, 0, none⟩) X.length cO]) (by simp [results, Tryd.results29, go_sem, w0, w1, w2, w3, w4, w5]) rfl ⟨lab, Y, rfl, HDn.out.mono (by omega), HE.out⟩
    · obtain ⟨g0, g1, g2, g3, g4, g5, gz, gl⟩ := six_cells hR.bP
      obtain ⟨y0, y1, y2, y3, y4, y5, yz, yl⟩ := six_cells hR.bR
      obtain ⟨W, hW, hWb, hWs⟩ := six_set (.string c.name) (.int .i64 c.params) (.int .i64 c.results) (.int .i64 c.vars) (.int .i64 c.slots) (.slice aO X.length cO) hR.bR
      have HE := Lib.hid (hR.fin hWs (by omega) (fun k hk => by have := (hR.fx k hk).1; omega))
      have HbW := Lib.hid hWb
      have HW := Lib.hid hW
      clear hR hWb hW hWs hrest
      go_wp2_with fail
      rw [HW.out]
      obtain ⟨w0, w1, w2, w3, w4, w5, -, -⟩ := six_cells HbW.out
      exact bodyPost_ret (v := .agg #[.string c.name, .int .i64 c.params, .int .i64 c.results, .int .i64 c.vars, .int .i64 c.slots, .slice aO X.length cO]) (by simp [results, Tryd.results29, go_sem, w0, w1, w2, w3, w4, w5]) rfl ⟨lab, Y, rfl, HDn.out.mono (by omega), HE.out⟩
end Go.Proofs.YthgfdcoicihpdaaDoor

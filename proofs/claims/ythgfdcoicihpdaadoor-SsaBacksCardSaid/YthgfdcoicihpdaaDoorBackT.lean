/-
  ssa.Back in plain words, fourth part: what the code between (split, its Phis put anew) is like.
-/
import Derived.Test.YthgfdcoicihpdaaDoorSplit
namespace Go.Proofs.YthgfdcoicihpdaaDoor
open Go.RowKit Go.Pst
set_option linter.unusedVariables false

theorem sumPhi_none : ∀ {b : List (List PInstr)}, (∀ i (h : i < b.length), phisN b[i] = 0) → sumPhi b = 0
  | [], _ => rfl
  | x :: r, h => by
    have h0 := h 0 (by simp)
    have h1 := sumPhi_none (b := r) (fun i hi => h (i + 1) (by simpa using hi))
    simp only [List.getElem_cons_zero] at h0
    simp only [sumPhi, h0, h1]
theorem sumPhi_more : ∀ {a b : List (List PInstr)}, a.length ≤ b.length → (∀ i (h : i < a.length) (h2 : i < b.length), phisN b[i] = phisN a[i]) → (∀ i (h : i < b.length), a.length ≤ i → phisN b[i] = 0) → sumPhi b = sumPhi a
  | [], b, _, _, h => by rw [sumPhi_none (fun i hi => h i hi (Nat.zero_le _))]; rfl
  | x :: a, [], hl, _, _ => by simp at hl
  | x :: a, y :: b, hl, h1, h2 => by
    have h0 := h1 0 (by simp) (by simp)
    simp only [List.getElem_cons_zero] at h0
    have h3 := sumPhi_more (a := a) (b := b) (by simpa using hl) (fun i hi hi2 => by
      have := h1 (i + 1) (by simpa using hi) (by simpa using hi2)
      simpa using this) (fun i hi hi2 => by
      have := h2 (i + 1) (by simpa using hi) (by simp; omega)
      simpa using this)
    simp only [sumPhi, h0, h3]
/-- What the code between is like: X2's blocks, A2: how many lead to each. -/
structure BF (c : PCode) (X2 : List (List PInstr)) (ah : List (List Int)) : Prop where
  n0 : 0 < c.blocks.length ∧ c.blocks.length ≤ 2000
  n : X2.length ≤ 4002000
  lah : ah.length = X2.length
  mem : ∀ i (hi : i < ah.length), ∀ x ∈ ah[i], ∃ q : Nat, q < X2.length ∧ x = (q : Int)
  pos : ∀ i (h : i < X2.length), phisN X2[i] < X2[i].length
  phi : ∀ i (hi : i < X2.length) (ha : i < ah.length) k (hk : k < X2[i].length), k < phisN X2[i] → X2[i][k].ds.length = 1 ∧ X2[i][k].ars.length = ah[i].length ∧ inAll X2[i][k].ds c.vars = true ∧ inAll X2[i][k].ars c.vars = true
  many : ∀ i (hi : i < X2.length) (ha : i < ah.length), phisN X2[i] = 0 ∨ ah[i].length ≤ 2 * c.blocks.length
  sum : sumPhi X2 = sumPhi c.blocks
  lens : sumLen X2 ≤ sumLen c.blocks + 4000000
theorem phiOf {fs : List PCode} {c : PCode} {A A2 : Nat → Nat} (H : PhiOK fs c A) {done : Nat → Nat → Prop} {X X2 : List (List PInstr)} {L : Nat → List Int} {E : List (Nat × Nat)} (h1 : SplitR c.blocks done X L E) (h2 : ReR X A2 c.vars X2) :
    (∀ i (hi : i < X2.length) (hx : i < X.length), phisN X[i] < X[i].length ∧ phisN X2[i] = phisN X[i] ∧ X2[i].length = X[i].length ∧ toL X2[i] = toL X[i]) ∧ (∀ i (hi : i < c.blocks.length) (hx : i < X.length), phisN X[i] = phisN c.blocks[i] ∧ X[i].length = c.blocks[i].length) ∧ (∀ i (hx : i < X.length), c.blocks.length ≤ i → phisN X[i] = 0) := by
  have hpos := H.pos
  have g2 : ∀ i (hi : i < c.blocks.length) (hx : i < X.length), phisN X[i] = phisN c.blocks[i] ∧ X[i].length = c.blocks[i].length := fun i hi hx => by
    have hb := hpos _ (List.getElem_mem hi)
    have hlt := H.len _ (List.getElem_mem hi)
    have e := h1.row_len H hi hx
    refine ⟨phisN_congr hlt (fun k k1 k2 _ => ?_) (by omega), e⟩
    have k4 : k < (setToL c.blocks[i] (L i)).length := by rw [setToL_len hb]; exact k1
    have e2 : X[i][k] = (setToL c.blocks[i] (L i))[k] := by congr 1; exact h1.old i hi hx
    rw [e2, setToL_get hb _ k4 k1]
    split <;> rfl
  have g3 : ∀ i (hx : i < X.length), c.blocks.length ≤ i → ∃ t : Nat, X[i] = [jumpI t] := fun i hx hn => by
    obtain ⟨e, he⟩ : ∃ e, i = c.blocks.length + e := ⟨i - c.blocks.length, by omega⟩
    subst he
    have := h1.len
    exact ⟨_, h1.new e (by omega) hx⟩
  refine ⟨fun i hi hx => ?_, g2, fun i hx hn => ?_⟩
  · have hlt : phisN X[i] < X[i].length := by
      by_cases hn : i < c.blocks.length
      · obtain ⟨e1, e2⟩ := g2 i hn hx
        have := H.len _ (List.getElem_mem hn)
        omega
      · obtain ⟨t, e⟩ := g3 i hx (by omega)
        rw [e]
        simp [phisN, jumpI]
    obtain ⟨f1, f2⟩ := h2.at_ i hx hi
    have hp : phisN X2[i] = phisN X[i] := phisN_congr hlt (fun k k1 k2 _ => by
      rcases f2 k k1 k2 with e | ⟨-, l, e, -⟩ <;> rw [e]) (by omega)
    refine ⟨hlt, hp, f1, ?_⟩
    rw [toL_at (by omega), toL_at (by omega)]
    have hl : X2[i].length - 1 = X[i].length - 1 := by omega
    rcases f2 (X[i].length - 1) (by omega) (by omega) with e | ⟨e, -⟩
    · simp only [hl, e]
    · omega
  · obtain ⟨t, e⟩ := g3 i hx hn
    rw [e]
    simp [phisN, jumpI]
theorem leadsF_same {c : PCode} {X X2 : List (List PInstr)} (hl : X2.length = X.length) (ht : ∀ i (hi : i < X2.length) (hx : i < X.length), toL X2[i] = toL X[i]) (j : Nat) : leadsF (withB c X2) j = leadsF (withB c X) j := by
  have key : ∀ (Y : List (List PInstr)) (hj : j < Y.length), leadsF (withB c Y) j = (toL Y[j]).filter (inB Y.length) := fun Y hj => by
    rw [leadsF_at (c := withB c Y) hj]
    show (match Y[j].getLast? with | some x => x.to.filter (inB Y.length) | none => []) = _
    unfold toL
    cases Y[j].getLast? <;> rfl
  by_cases hj : j < X.length
  · rw [key X2 (by omega), key X hj, ht j (by omega) hj, hl]
  · have h1 : X2[j]? = none := by simp; omega
    have h2 : X[j]? = none := by simp; omega
    simp [leadsF, withB, h1, h2]
theorem aheadF_same {c : PCode} {X X2 : List (List PInstr)} (hl : X2.length = X.length) (ht : ∀ i (hi : i < X2.length) (hx : i < X.length), toL X2[i] = toL X[i]) : aheadF (withB c X2) = aheadF (withB c X) := by
  unfold aheadF aheadRow
  have e : (withB c X2).blocks.length = (withB c X).blocks.length := hl
  rw [e]
  congr 1
  funext t
  congr 1
  refine List.filter_congr fun j _ => ?_
  rw [leadsF_same hl ht j]
theorem backF {fs : List PCode} {c : PCode} {A : Nat → Nat} (H : PhiOK fs c A) {done : Nat → Nat → Prop} {X X2 : List (List PInstr)} {L : Nat → List Int} {E : List (Nat × Nat)} (h1 : SplitR c.blocks done X L E) (h2 : ReR X (fun i => ((aheadF (withB c X)).getD i []).length) c.vars X2)
    (hD : ReD (fun i => ((aheadF (withB c X)).getD i []).length) X X2 c.blocks.length 0) (hs : sumLen c.blocks ≤ 100000) : BF c X2 (aheadF (withB c X2)) := by
  obtain ⟨g1, g2, g3⟩ := phiOf H h1 h2
  have hl := h2.len
  have hn := h1.len
  have hE := h1.count
  have hn0 := H.n0
  have hEn : E.length ≤ 4000000 := Nat.le_trans hE (Nat.le_trans (Nat.mul_le_mul hn0.2 hn0.2) (by decide))
  have hah : aheadF (withB c X2) = aheadF (withB c X) := aheadF_same hl (fun i hi hx => (g1 i hi hx).2.2.2)
  have hal : (aheadF (withB c X2)).length = X2.length := by simp [aheadF, withB]
  have hmem : ∀ i (hi : i < (aheadF (withB c X2)).length), ∀ x ∈ (aheadF (withB c X2))[i], ∃ q : Nat, ∃ hq : q < X2.length, x = (q : Int) ∧ (i : Int) ∈ toL X2[q] := fun i hi x hx => by
    obtain ⟨q, hq, e, ht⟩ := (ahead_mem hi x).1 hx
    exact ⟨q, hq, e, ht⟩
  refine ⟨hn0, by omega, hal, fun i hi x hx => ?_, fun i h => ?_, fun i hi ha k hk hp => ?_, fun i hi ha => ?_, ?_, ?_⟩
  · obtain ⟨q, hq, e, -⟩ := hmem i hi x hx
    exact ⟨q, hq, e⟩
  · obtain ⟨e1, e2, e3, -⟩ := g1 i h (by omega)
    omega
  · obtain ⟨e1, e2, e3, -⟩ := g1 i hi (by omega)
    have hin : i < c.blocks.length := by
      rcases Nat.lt_or_ge i c.blocks.length with e | e
      · exact e
      · have := g3 i (by omega) e
        omega
    have hd := hD i k (Or.inl hin) (by omega) hi hk (by omega)
    obtain ⟨f1, f2⟩ := g2 i hin (by omega)
    obtain ⟨p1, p2, p3, p4, p5, p6⟩ := H.phi i hin k (by omega) (by omega)
    have hXk : (X[i]'(by omega))[k]'(by omega) = c.blocks[i][k]'(by omega) := by
      have hb := H.pos _ (List.getElem_mem hin)
      have hlt := H.len _ (List.getElem_mem hin)
      have k4 : k < (setToL c.blocks[i] (L i)).length := by rw [setToL_len hb]; omega
      have e2 : (X[i]'(by omega))[k]'(by omega) = (setToL c.blocks[i] (L i))[k] := by congr 1; exact h1.old i hin (by omega)
      rw [e2, setToL_get hb _ k4 (by omega), if_neg (by omega)]
    refine ⟨?_, ?_, ?_, ?_⟩
    · rcases (h2.at_ i (by omega) hi).2 k (by omega) hk with e | ⟨-, l, e, -, -⟩ <;> rw [e, hXk] <;> exact p1
    · rw [hd]
      show ((aheadF (withB c X)).getD i []).length = _
      rw [← hah]
      simp [List.getD, ha]
    · rcases (h2.at_ i (by omega) hi).2 k (by omega) hk with e | ⟨-, l, e, -, -⟩ <;> rw [e, hXk] <;> exact p4
    · rcases (h2.at_ i (by omega) hi).2 k (by omega) hk with e | ⟨-, l, e, -, e5⟩
      · rw [e, hXk]; exact p5
      · rw [e]; exact e5
  · by_cases hin : i < c.blocks.length
    · right
      have h3 := h1.many H.pos H.tos hin (l := ((aheadF (withB c X2))[i]).map Int.toNat) (ahead_nodup _ ha) (fun q hq => by
        obtain ⟨x, hx, e⟩ := List.mem_map.1 hq
        obtain ⟨q', hq', e', ht⟩ := hmem i ha x hx
        subst e'
        have e2 : q = q' := by simpa using e.symm
        subst e2
        exact ⟨by omega, by rw [← (g1 q hq' (by omega)).2.2.2]; exact ht⟩)
      simpa using h3
    · left
      have := g3 i (by omega) (by omega)
      have := (g1 i hi (by omega)).2.1
      omega
  · refine sumPhi_more (by omega) (fun i h h2' => ?_) (fun i h hi => ?_)
    · have e1 := (g1 i h2' (by omega)).2.1
      have e2 := (g2 i h (by omega)).1
      omega
    · have e1 := (g1 i h (by omega)).2.1
      have e2 := g3 i (by omega) hi
      omega
  · have s3 : sumLen X2 = sumLen X := sumLen_same hl (fun i hi hi2 => (h2.at_ i hi2 hi).1)
    have s4 : sumLen X = sumLen c.blocks + E.length := by
      have hsp : X = X.take c.blocks.length ++ X.drop c.blocks.length := (List.take_append_drop _ _).symm
      rw [hsp, sumLen_app]
      have t1 : sumLen (X.take c.blocks.length) = sumLen c.blocks := sumLen_same (by rw [List.length_take]; omega) (fun i hi hi2 => by
        rw [List.getElem_take, h1.old i hi2 (by omega), setToL_len (H.pos _ (List.getElem_mem hi2))])
      have t2 : sumLen (X.drop c.blocks.length) = sumLen (E.map fun p => [jumpI p.2]) := sumLen_same (by rw [List.length_drop, List.length_map]; omega) (fun i hi hi2 => by
        rw [List.getElem_drop, h1.new i (by simpa using hi2) (by rw [List.length_drop] at hi; omega)]
        simp)
      have t3 : ∀ E : List (Nat × Nat), sumLen (E.map fun p => [jumpI p.2]) = E.length := fun E => by
        induction E with
        | nil => rfl
        | cons x r ih => simp only [List.map_cons, sumLen, List.length_cons, List.length_nil, ih]; omega
      have := t3 E
      omega
    omega
/-- While moves are laid: blocks ahead of i are done, and n ways to i. -/
theorem cnt_bound {c : PCode} {X2 : List (List PInstr)} {ah : List (List Int)} (h : BF c X2 ah) (hs : sumPhi c.blocks ≤ 3000) {i n : Nat} (hi : i < X2.length) (ha : i < ah.length) (hn : n ≤ ah[i].length) {cnt : Nat} (hc : cnt ≤ 2 * c.blocks.length * sumPhi (X2.take i) + n * phisN X2[i]) :
    cnt ≤ 2 * c.blocks.length * sumPhi (X2.take (i + 1)) ∧ cnt ≤ 12000000 := by
  have h1 := sumPhi_take hi
  have h2 := sumPhi_take_le X2 (i + 1)
  have h3 := h.sum
  have h4 := h.n0
  have h5 : n * phisN X2[i] ≤ 2 * c.blocks.length * phisN X2[i] := by
    rcases h.many i hi ha with e | e
    · rw [e]; simp
    · exact Nat.mul_le_mul_right _ (by omega)
  have h6 : cnt ≤ 2 * c.blocks.length * sumPhi (X2.take (i + 1)) := by
    rw [h1, Nat.mul_add]
    omega
  refine ⟨h6, Nat.le_trans h6 ?_⟩
  have : 2 * c.blocks.length * sumPhi (X2.take (i + 1)) ≤ 4000 * 3000 := Nat.mul_le_mul (by omega) (by omega)
  omega
theorem ahead_le (c : PCode) (i : Nat) : ((aheadF c).getD i []).length ≤ c.blocks.length := by
  by_cases hi : i < c.blocks.length
  · have e : (aheadF c).getD i [] = aheadRow c c.blocks.length i := by simp [aheadF, List.getD, hi]
    rw [e]
    unfold aheadRow
    rw [List.length_map]
    exact Nat.le_trans (List.length_filter_le _ _) (by simp)
  · have e : (aheadF c).getD i [] = [] := by simp [aheadF, List.getD, hi]
    rw [e]
    simp
theorem fit2 {fs : List PCode} {c : PCode} {A : Nat → Nat} (H : PhiOK fs c A) {done : Nat → Nat → Prop} {X X2 : List (List PInstr)} {L : Nat → List Int} {E : List (Nat × Nat)} (h1 : SplitR c.blocks done X L E) (h2 : ReR X (fun i => ((aheadF (withB c X)).getD i []).length) c.vars X2) (hf : FitCode c) : FitCode (withB c X2) := by
  have hfX := h1.fit H hf
  have hs := h1.small H
  have hl := h2.len
  refine ⟨by unfold reachBytes; show X2.length * 24 ≤ _; omega, fun b hb => ?_⟩
  obtain ⟨i, hi, rfl⟩ := List.mem_iff_getElem.1 (show b ∈ X2 from hb)
  obtain ⟨g1, g2⟩ := h2.at_ i (by omega) hi
  obtain ⟨f1, f2⟩ := hfX.2 X[i] (List.getElem_mem (show i < X.length by omega))
  refine ⟨by rw [g1]; exact f1, fun x hx => ?_⟩
  obtain ⟨k, hk, rfl⟩ := List.mem_iff_getElem.1 hx
  have hk2 : k < X[i].length := by omega
  obtain ⟨p1, p2, p3⟩ := f2 X[i][k] (List.getElem_mem hk2)
  rcases g2 k hk2 hk with e | ⟨-, l, e, e2, -⟩
  · rw [e]
    exact ⟨p1, p2, p3⟩
  · rw [e]
    refine ⟨p1, ?_, p3⟩
    have := ahead_le (withB c X) i
    have e3 : (withB c X).blocks.length = X.length := rfl
    have e4 : l.length ≤ X.length := by
      have e5 : l.length = ((aheadF (withB c X)).getD i []).length := e2
      omega
    show l.length * 8 ≤ reachBytes
    unfold reachBytes
    omega
theorem fitB {fs : List PCode} {c : PCode} {A : Nat → Nat} (H : PhiOK fs c A) (hf : FitCode c) {vars : Int} {Z : List (List PInstr)} {M : Nat → List PInstr} (hr : BackR c vars Z M) (h1 : Z.length ≤ 2000) (h3 : sumLen Z ≤ 6000) : FitCode { c with vars := vars, blocks := Z } := by
  have one : ∀ {x : PInstr}, (∃ d a, x = moveI d a ∧ (0 ≤ d ∧ d < vars) ∧ 0 ≤ a ∧ a < vars) → FitInstr x := fun {x} h => by
    obtain ⟨d, a, rfl, -⟩ := h
    exact ⟨by simp [moveI, reachBytes], by simp [moveI, reachBytes], by simp [moveI, reachBytes]⟩
  refine ⟨by unfold reachBytes; show Z.length * 24 ≤ _; omega, fun b hb => ?_⟩
  obtain ⟨i, hi, rfl⟩ := List.mem_iff_getElem.1 (show b ∈ Z from hb)
  have hs : ∀ {l : List (List PInstr)} {q : Nat} (h : q < l.length), l[q].length ≤ sumLen l := fun {l} => by
    induction l with
    | nil => intro q h; simp at h
    | cons x r ih =>
      intro q h
      cases q with
      | zero => simp [sumLen]
      | succ q =>
        have := ih (q := q) (by simpa using h)
        simp only [List.getElem_cons_succ, sumLen]
        omega
  have hsi := hs hi
  refine ⟨by unfold reachBytes; omega, fun x hx => ?_⟩
  by_cases hn : i < c.blocks.length
  · obtain ⟨l, e, hl, -⟩ := hr.old i hn hi
    obtain ⟨f1, f2⟩ := hf.2 _ (List.getElem_mem hn)
    have hp := H.pos _ (List.getElem_mem hn)
    rw [e] at hx
    rcases List.mem_append.1 hx with hx | hx
    · rcases List.mem_append.1 hx with hx | hx
      · exact f2 x (List.mem_of_mem_drop (List.dropLast_subset _ hx))
      · exact one (hr.moves i hi x hx)
    · rw [List.mem_singleton] at hx
      subst hx
      rw [getLastD_at hp]
      obtain ⟨p1, p2, p3⟩ := f2 _ (List.getElem_mem (show c.blocks[i].length - 1 < c.blocks[i].length by omega))
      rw [toL_at hp] at hl
      exact ⟨p1, p2, by show l.length * 8 ≤ _; rw [hl]; exact p3⟩
  · obtain ⟨t, e, -⟩ := hr.new i hi (by omega)
    rw [e] at hx
    rcases List.mem_append.1 hx with hx | hx
    · exact one (hr.moves i hi x hx)
    · rw [List.mem_singleton] at hx
      subst hx
      exact ⟨by simp [jumpI, reachBytes], by simp [jumpI, reachBytes], by simp [jumpI, reachBytes]⟩
/-- Little code becomes no great code. -/
theorem little_back {fs : List PCode} {c : PCode} {A : Nat → Nat} (H : PhiOK fs c A) {done : Nat → Nat → Prop} {X : List (List PInstr)} {L : Nat → List Int} {E : List (Nat × Nat)} (h1 : SplitR c.blocks done X L E) (hl : c.blocks.length ≤ 20 ∧ c.vars ≤ 40 ∧ sumLen c.blocks ≤ 100) (hs : (sumPhi c.blocks : Int) ≤ c.vars) {cnt : Nat} (hc : cnt ≤ 2 * c.blocks.length * sumPhi c.blocks) :
    E.length ≤ 400 ∧ cnt ≤ 1600 := by
  have h2 := h1.count
  have h3 : c.blocks.length * c.blocks.length ≤ 20 * 20 := Nat.mul_le_mul hl.1 hl.1
  have h4 : 2 * c.blocks.length * sumPhi c.blocks ≤ 40 * 40 := Nat.mul_le_mul (by omega) (by omega)
  omega
end Go.Proofs.YthgfdcoicihpdaaDoor

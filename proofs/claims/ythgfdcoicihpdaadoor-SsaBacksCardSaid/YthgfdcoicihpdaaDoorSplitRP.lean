/-
  ssa.reordered in plain words: which argument of a Phi is taken; rows of Phis' arguments in memory.
-/
import Derived.Test.YthgfdcoicihpdaaDoorBackPQS
import Derived.Test.YthgfdcoicihpdaaDoorBackMem
import Derived.Test.YthgfdcoicihpdaaDoorAhead
import Derived.Test.YthgfdcoicihpdaaDoorIdx
import Derived.Test.YthgfdcoicihpdaaDoorIMap
namespace Go.Proofs.YthgfdcoicihpdaaDoor
open Go.RowKit Go.Pst
set_option linter.unusedVariables false

theorem firstAt_mem {x : Int} : ∀ {l : List Int} {k : Nat}, x ∈ l → ∃ t, t < l.length ∧ firstAt x l k = ((k + t : Nat) : Int)
  | [], k, h => by cases h
  | y :: r, k, h => by
    unfold firstAt
    by_cases e : x = y
    · rw [if_pos e]
      exact ⟨0, by simp, rfl⟩
    · rw [if_neg e]
      rcases List.mem_cons.1 h with h | h
      · exact absurd h e
      · obtain ⟨t, h1, h2⟩ := firstAt_mem (k := k + 1) h
        exact ⟨t + 1, by simp; omega, by rw [h2]; congr 1; omega⟩
theorem leads_toL {c : PCode} {j : Nat} (hj : j < c.blocks.length) (t : Int) : t ∈ leadsF c j ↔ t ∈ toL c.blocks[j] ∧ 0 ≤ t ∧ t < c.blocks.length := by
  rw [leadsF_at hj]
  unfold toL
  cases c.blocks[j].getLast? with
  | none => simp
  | some x => simp [inB]
theorem ahead_mem {c : PCode} {i : Nat} (hi : i < (aheadF c).length) (x : Int) : x ∈ (aheadF c)[i] ↔ ∃ q, ∃ hq : q < c.blocks.length, x = (q : Nat) ∧ (i : Int) ∈ toL c.blocks[q] := by
  have hi' : i < c.blocks.length := by simpa [aheadF] using hi
  have e : (aheadF c)[i] = aheadRow c c.blocks.length i := by simp [aheadF]
  rw [e]
  unfold aheadRow
  constructor
  · intro h
    obtain ⟨q, hq, rfl⟩ := List.mem_map.1 h
    obtain ⟨h1, h2⟩ := List.mem_filter.1 hq
    have hq' := List.mem_range.1 h1
    exact ⟨q, hq', rfl, ((leads_toL hq' _).1 (by simpa using h2)).1⟩
  · rintro ⟨q, hq, rfl, h2⟩
    exact List.mem_map.2 ⟨q, List.mem_filter.2 ⟨List.mem_range.2 hq, by simpa using (leads_toL hq _).2 ⟨h2, by omega, by omega⟩⟩, rfl⟩
theorem ahead_nodup (c : PCode) {i : Nat} (hi : i < (aheadF c).length) : ((aheadF c)[i].map Int.toNat).Nodup := by
  have e : (aheadF c)[i] = aheadRow c c.blocks.length i := by simp [aheadF]
  rw [e]
  unfold aheadRow
  rw [List.map_map]
  have : (Int.toNat ∘ Int.ofNat) = id := by funext x; rfl
  rw [this, List.map_id]
  exact List.nodup_range.filter _
def withB (c : PCode) (X : List (List PInstr)) : PCode := { c with blocks := X }
/-- Which argument a Phi's new one is. -/
theorem reord_pick {fs : List PCode} {c : PCode} {A : Nat → Nat} (H : PhiOK fs c A) {done : Nat → Nat → Prop} {X : List (List PInstr)} {L : Nat → List Int} {E : List (Nat × Nat)} (h : SplitR c.blocks done X L E) {i : Nat} (hi : i < c.blocks.length)
    (hiX : i < (aheadF (withB c X)).length) {k : Nat} (hk : k < (aheadF (withB c X))[i].length) (hi0 : i < (aheadF c).length) :
    ∃ q o : Nat, (aheadF (withB c X))[i][k] = (q : Int) ∧ q < X.length ∧ o < c.blocks.length ∧ (∃ t, t < (aheadF c)[i].length ∧ firstAt (o : Int) (aheadF c)[i] 0 = (t : Int)) ∧
      ((q < c.blocks.length ∧ o = q) ∨ (c.blocks.length ≤ q ∧ ∀ j (hj : j < X.length), j < c.blocks.length → ((q : Int) ∈ toL X[j] ↔ j = o))) := by
  have hpos : ∀ b ∈ c.blocks, 0 < b.length := fun b hb => Nat.lt_of_le_of_lt (Nat.zero_le _) (H.len b hb)
  have hto : ∀ b ∈ c.blocks, inAll (toL b) c.blocks.length = true := fun b hb => by
    have hlt := H.len b hb
    have := (instr_ok (H.bare b hb (b.length - 1) (by omega) (by omega)).1).1
    rw [toL_at (hpos b hb)]
    exact this
  obtain ⟨q, hq, e, hm⟩ := (ahead_mem hiX _).1 (List.getElem_mem hk)
  have hq' : q < X.length := hq
  have hlen := h.len
  rcases h.pred hpos hto hi hq' hm with ⟨h1, h2⟩ | ⟨h1, o, ho, h2, h3, h4, h5⟩
  · obtain ⟨t, ht, e2⟩ := firstAt_mem (k := 0) ((ahead_mem hi0 (q : Int)).2 ⟨q, h1, rfl, h2 h1⟩)
    exact ⟨q, q, e, hq', h1, ⟨t, ht, by rw [e2]; congr 1; omega⟩, Or.inl ⟨h1, rfl⟩⟩
  · obtain ⟨t, ht, e2⟩ := firstAt_mem (k := 0) ((ahead_mem hi0 (o : Int)).2 ⟨o, ho, rfl, h2⟩)
    refine ⟨q, o, e, hq', ho, ⟨t, ht, by rw [e2]; congr 1; omega⟩, Or.inr ⟨h1, fun j hj hj0 => ?_⟩⟩
    have eL : toL X[j] = L j := by rw [h.old j hj0 hj, setToL_to (hpos _ (List.getElem_mem hj0))]
    rw [eL]
    exact ⟨fun hm => h4 j hj0 hm, fun e => by rw [e]; exact h3⟩

/-! ### In memory -/
theorem CodeM.row_at {lab : Nat → Nat} {w : World} {lo : Nat} {vO : Value} {vs : Nat → Value} {X : List (List PInstr)} (h : CodeM lab w lo vO vs X) {i : Nat} (hi : i < X.length) :
    ∃ r cap, vs i = .slice (some ⟨r, 0, none⟩) X[i].length cap ∧ X[i].length ≤ cap ∧ cap ≤ maxLen ∧ lab r = 2 * i + 2 ∧ r < w.heap.size ∧ (∀ j, w.frozen? ⟨r, j, none⟩ = false) ∧
      ∀ k (hk : k < X[i].length), instrAt (fun m => lab m = 0) (fun m => lab m = 2 * i + 3 ∧ ∀ j, w.frozen? ⟨m, j, none⟩ = false) w r (k * 6) X[i][k] := h.rows i hi
theorem CodeM.setAs {lab : Nat → Nat} {w : World} {lo : Nat} {vO u : Value} {vs : Nat → Value} {X : List (List PInstr)} (h : CodeM lab w lo vO vs X) {i k r n cap : Nat} {l : List Int} (hi : i < X.length) (hk : k < X[i].length)
    (hv : vs i = .slice (some ⟨r, 0, none⟩) n cap) (hu : rInts (fun m => lab m = 0) w [u] l) :
    CodeM lab (w.setCell ⟨r, k * 6 + 2, none⟩ u) lo vO vs (X.set i (X[i].set k { X[i][k] with ars := l })) := by
  obtain ⟨r', cap', e1, e2, e3, e4, e5, e6, e7⟩ := h.row_at hi
  rw [hv] at e1
  simp only [Value.slice.injEq, Option.some.injEq, Addr.mk.injEq, and_true] at e1
  obtain ⟨rfl, rfl, rfl⟩ := e1
  have blk : ∀ m, m ≠ r → (w.setCell ⟨r, k * 6 + 2, none⟩ u).heap[m]? = w.heap[m]? := fun m hm => Below.heap_setCell _ _ _ _ hm
  have hsz : (w.setCell ⟨r, k * 6 + 2, none⟩ u).heap.size = w.heap.size := by simp
  refine ⟨?_, fun m hm => h.lab1 m hm, fun j hj => ?_, by rw [hsz]; exact h.lo⟩
  · rw [List.length_set]
    exact ownsRow_block h.own (fun m hm => blk m (fun e => by have := h.lab1 m hm; rw [e, e4] at this; omega))
  · rw [List.length_set] at hj
    by_cases e : i = j
    · subst e
      rw [List.getElem_set_self]
      have hlen : (X[i].set k { X[i][k] with ars := l }).length = X[i].length := List.length_set
      refine ⟨r, cap, by rw [hlen]; exact hv, by rw [hlen]; exact e2, e3, e4, by rw [hsz]; exact e5, fun j => by rw [World.frozen?_setCell]; exact e6 j, fun k' hk' => ?_⟩
      rw [hlen] at hk'
      have S0 : Keep (fun m => lab m = 0) w (w.setCell ⟨r, k * 6 + 2, none⟩ u) := ⟨by rw [hsz]; exact Nat.le_refl _, fun m _ hm => blk m (fun e => by rw [e, e4] at hm; omega)⟩
      have ST : Keep (fun m => lab m = 2 * i + 3 ∧ ∀ j, w.frozen? ⟨m, j, none⟩ = false) w (w.setCell ⟨r, k * 6 + 2, none⟩ u) := ⟨by rw [hsz]; exact Nat.le_refl _, fun m _ hm => blk m (fun e => by have := hm.1; rw [e, e4] at this; omega)⟩
      have hST : ∀ m, m < w.heap.size → (lab m = 2 * i + 3 ∧ ∀ j, w.frozen? ⟨m, j, none⟩ = false) → (lab m = 2 * i + 3 ∧ ∀ j, (w.setCell ⟨r, k * 6 + 2, none⟩ u).frozen? ⟨m, j, none⟩ = false) := fun m _ hm => ⟨hm.1, fun j => by rw [World.frozen?_setCell]; exact hm.2 j⟩
      have far : ∀ o v, o ≠ k * 6 + 2 → w.cell? ⟨r, o, none⟩ = some v → (w.setCell ⟨r, k * 6 + 2, none⟩ u).cell? ⟨r, o, none⟩ = some v := fun o v ho e => (World.cell?_setCell_other _ _ _ _ (fun h => ho (by injection h with _ h2 _; exact h2.symm))).trans e
      obtain ⟨v1, v2, v5, c0, c1, c2, c3, c4, c5, hI, q1, q2, q5⟩ := e7 k' hk'
      by_cases ek : k = k'
      · subst ek
        rw [List.getElem_set_self]
        exact ⟨v1, u, v5, far _ _ (by omega) c0, far _ _ (by omega) c1, World.cell?_setCell_same _ _ _ c2, far _ _ (by omega) c3, far _ _ (by omega) c4, far _ _ (by omega) c5, hI, Good.kept S0 q1, Good.kept S0 hu, Good.keep ST hST q5⟩
      · rw [List.getElem_set_ne ek]
        exact ⟨v1, v2, v5, far _ _ (by omega) c0, far _ _ (by omega) c1, far _ _ (by omega) c2, far _ _ (by omega) c3, far _ _ (by omega) c4, far _ _ (by omega) c5, hI, Good.kept S0 q1, Good.kept S0 q2, Good.keep ST hST q5⟩
    · rw [List.getElem_set_ne e]
      exact (h.rows j hj).keep (by rw [hsz]; exact Nat.le_refl _) (fun m _ hm => blk m (fun e' => by rw [e', e4] at hm; omega)) (fun _ _ _ => rfl)
end Go.Proofs.YthgfdcoicihpdaaDoor

namespace Go.Proofs.YthgfdcoicihpdaaDoor
open Go.RowKit Go.Pst
set_option linter.unusedVariables false

theorem SplitR.wider {X0 X : List (List PInstr)} {done done' : Nat → Nat → Prop} {L : Nat → List Int} {E : List (Nat × Nat)} (h : SplitR X0 done X L E) (hd : ∀ j k, done j k → done' j k) : SplitR X0 done' X L E :=
  ⟨h.len, h.old, h.llen, h.way, fun j hj k hk hk2 hn => h.rest j hj k hk hk2 (fun e => hn (hd j k e)), h.new, h.edge, h.nodup⟩
/-- Who has not been looked at, has no new block. -/
theorem SplitR.fresh {X0 X : List (List PInstr)} {done : Nat → Nat → Prop} {L : Nat → List Int} {E : List (Nat × Nat)} (h : SplitR X0 done X L E) (hto : ∀ b ∈ X0, inAll (toL b) X0.length = true) {i : Nat} (hi : i < X0.length) (hn : ∀ k, ¬ done i k) (t : Nat) : (i, t) ∉ E := fun hm => by
  obtain ⟨e, he, ee⟩ := List.mem_iff_getElem.1 hm
  obtain ⟨h1, -, -, h4⟩ := h.edge e he
  have e1 : E[e].1 = i := by rw [ee]
  rw [e1] at h4
  obtain ⟨k, hk, ek⟩ := List.mem_iff_getElem.1 h4
  have hk2 : k < (toL X0[i]).length := by rw [← h.llen i hi]; exact hk
  have h5 := h.rest i hi k hk hk2 (hn k)
  have h6 := (inAll_mem (hto _ (List.getElem_mem hi)) (List.getElem_mem hk2)).2
  omega
theorem SplitR.turn {X0 X : List (List PInstr)} {done : Nat → Nat → Prop} {L : Nat → List Int} {E F : List (Nat × Nat)} (h : SplitR X0 done X L E) (hpos : ∀ b ∈ X0, 0 < b.length) (hto : ∀ b ∈ X0, inAll (toL b) X0.length = true)
    {i k t e : Nat} (hi : i < X0.length) (hk : k < (toL X0[i]).length) (ht : (toL X0[i])[k] = (t : Int)) (ht0 : t < X0.length) (hnd : ¬ done i k) (hN : (E ++ F).Nodup) (he : e < (E ++ F).length) (hee : (E ++ F)[e] = (i, t)) (hF : ∀ e', E.length ≤ e' → e' < (E ++ F).length → e' = e) :
    SplitR X0 (fun j m => done j m ∨ (j = i ∧ m = k)) ((X ++ F.map fun p => [jumpI p.2]).set i (setToL X0[i] ((L i).set k ((X0.length + e : Nat) : Int)))) (upd L i ((L i).set k ((X0.length + e : Nat) : Int))) (E ++ F) := by
  have hlen := h.len
  have hkL : k < (L i).length := by rw [h.llen i hi]; exact hk
  have eF : (E ++ F).length = E.length + F.length := List.length_append
  refine ⟨by simp; omega, fun j hj h2 => ?_, fun j hj => ?_, fun j hj m hm hm2 => ?_, fun j hj m hm hm2 hn => ?_, fun e' he' h2 => ?_, fun e' he' => ?_, hN⟩
  · by_cases hji : i = j
    · subst hji
      rw [List.getElem_set_self, upd_same]
    · rw [List.getElem_set_ne hji, upd_other _ _ (fun g => hji g.symm), List.getElem_append_left (by omega)]
      exact h.old j hj (by omega)
  · by_cases hji : j = i
    · subst hji
      rw [upd_same, List.length_set]
      exact h.llen j hj
    · rw [upd_other _ _ hji]
      exact h.llen j hj
  · have lift : ∀ (hm' : m < (L j).length), (L j)[m] = (toL X0[j])[m] ∨ ∃ e, ∃ he : e < (E ++ F).length, (E ++ F)[e].1 = j ∧ (toL X0[j])[m] = (E ++ F)[e].2 ∧ (L j)[m] = ((X0.length + e : Nat) : Int) := fun hm' => by
      rcases h.way j hj m hm' hm2 with g | ⟨e', he', g1, g2, g3⟩
      · exact Or.inl g
      · exact Or.inr ⟨e', by omega, by rw [List.getElem_append_left he']; exact ⟨g1, g2, g3⟩⟩
    by_cases hji : j = i
    · subst hji
      simp only [upd_same] at hm ⊢
      by_cases hmk : k = m
      · subst hmk
        refine Or.inr ⟨e, he, by rw [hee], by rw [hee]; exact ht, by rw [List.getElem_set_self]⟩
      · simp only [List.getElem_set_ne hmk]
        exact lift _
    · simp only [upd_other _ _ hji]
      exact lift _
  · by_cases hji : j = i
    · subst hji
      have hmk : k ≠ m := fun g => hn (Or.inr ⟨rfl, g.symm⟩)
      simp only [upd_same, List.getElem_set_ne hmk]
      exact h.rest j hj m _ hm2 (fun g => hn (Or.inl g))
    · simp only [upd_other _ _ hji]
      exact h.rest j hj m _ hm2 (fun g => hn (Or.inl g))
  · rw [List.getElem_set_ne (by omega)]
    by_cases g : e' < E.length
    · rw [List.getElem_append_left (by omega)]
      simp only [List.getElem_append_left g]
      exact h.new e' g (by omega)
    · rw [List.getElem_append_right (by omega)]
      rw [List.getElem_map]
      simp only [List.getElem_append_right (show E.length ≤ e' by omega)]
      have hix : X0.length + e' - X.length = e' - E.length := by omega
      simp only [hix]
  · by_cases g : e' < E.length
    · obtain ⟨h1, h2, h3, h4⟩ := h.edge e' g
      simp only [List.getElem_append_left g]
      refine ⟨h1, h2, h3, ?_⟩
      by_cases hji : E[e'].1 = i
      · rw [hji] at h4 ⊢
        rw [upd_same]
        obtain ⟨m, hm, em⟩ := List.mem_iff_getElem.1 h4
        have hmk : k ≠ m := fun g => by
          subst g
          have h5 := h.rest i hi k hkL hk hnd
          have h6 := (inAll_mem (hto _ (List.getElem_mem hi)) (List.getElem_mem hk)).2
          omega
        exact List.mem_iff_getElem.2 ⟨m, by rw [List.length_set]; exact hm, by rw [List.getElem_set_ne hmk]; exact em⟩
      · rw [upd_other _ _ hji]
        exact h4
    · obtain rfl := hF e' (by omega) he'
      rw [hee]
      refine ⟨hi, ht0, by rw [← ht]; exact List.getElem_mem hk, ?_⟩
      rw [upd_same]
      exact List.mem_iff_getElem.2 ⟨k, by rw [List.length_set]; exact hkL, by rw [List.getElem_set_self]⟩

/-! ### In memory -/
theorem rInts_nil {S S' : Nat → Prop} {w w' : World} {v : Value} (h : rInts S w [v] []) : rInts S' w' [v] [] := by
  obtain ⟨a, cap, h1, h2, h3, -⟩ := h
  exact ⟨a, cap, h1, h2, h3, fun i hi => absurd hi (by simp)⟩
/-- Where row i's last instruction leads, in memory. -/
theorem CodeM.to_at {lab : Nat → Nat} {w : World} {lo : Nat} {vO : Value} {vs : Nat → Value} {X : List (List PInstr)} (h : CodeM lab w lo vO vs X) {i r n cap : Nat} (hi : i < X.length) (hp : 0 < X[i].length) (hv : vs i = .slice (some ⟨r, 0, none⟩) n cap) :
    ∃ a c3, w.cell? ⟨r, (X[i].length - 1) * 6 + 5, none⟩ = some (.slice a (toL X[i]).length c3) ∧ (toL X[i]).length ≤ maxLen ∧ ∀ k (hk : k < (toL X[i]).length), ∃ b o, a = some ⟨b, o, none⟩ ∧ lab b = 2 * i + 3 ∧ b < w.heap.size ∧ w.cell? ⟨b, o + k, none⟩ = some (.int .i64 (toL X[i])[k]) ∧ w.frozen? ⟨b, o + k, none⟩ = false := by
  obtain ⟨r', cap', e1, e2, e3, e4, e5, e6, e7⟩ := h.row_at hi
  rw [hv] at e1
  simp only [Value.slice.injEq, Option.some.injEq, Addr.mk.injEq, and_true] at e1
  obtain ⟨rfl, rfl, rfl⟩ := e1
  obtain ⟨v1, v2, v5, -, -, -, -, -, c5, -, -, -, q5⟩ := e7 (X[i].length - 1) (by omega)
  rw [← toL_at hp] at q5
  obtain ⟨a, c3, e8, h2, h3, h4⟩ := q5
  simp only [List.cons.injEq, and_true] at e8
  subst e8
  refine ⟨a, c3, c5, Nat.le_trans h2 h3, fun k hk => ?_⟩
  obtain ⟨b, o, es, rfl, hS, hb, hl, hc, e9, -⟩ := h4 k hk
  have := hc 0 (by omega)
  rw [Nat.mul_one, Nat.add_zero, e9] at this
  exact ⟨b, o, rfl, hS.1, hb, this, hS.2 _⟩
theorem CodeM.setTo {lab : Nat → Nat} {w : World} {lo : Nat} {vO : Value} {vs : Nat → Value} {X : List (List PInstr)} (h : CodeM lab w lo vO vs X) {i k r n cap b o l c3 : Nat} {u : Int} (hi : i < X.length) (hp : 0 < X[i].length) (hnil : ∀ m (hm : m < X[i].length), m ≠ X[i].length - 1 → X[i][m].to = [])
    (hv : vs i = .slice (some ⟨r, 0, none⟩) n cap) (hc : w.cell? ⟨r, (X[i].length - 1) * 6 + 5, none⟩ = some (.slice (some ⟨b, o, none⟩) l c3)) (hk : k < (toL X[i]).length) (hu : InI u) :
    CodeM lab (w.setCell ⟨b, o + k, none⟩ (.int .i64 u)) lo vO vs (X.set i (setToL X[i] ((toL X[i]).set k u))) := by
  obtain ⟨r', cap', e1, e2, e3, e4, e5, e6, e7⟩ := h.row_at hi
  rw [hv] at e1
  simp only [Value.slice.injEq, Option.some.injEq, Addr.mk.injEq, and_true] at e1
  obtain ⟨rfl, rfl, rfl⟩ := e1
  obtain ⟨a', c', hc', -, hat⟩ := h.to_at hi hp hv
  rw [hc] at hc'
  simp only [Option.some.injEq, Value.slice.injEq] at hc'
  obtain ⟨rfl, rfl, rfl⟩ := hc'
  obtain ⟨b', o', e8, hb3, hbl, hck, hfk⟩ := hat k hk
  simp only [Option.some.injEq, Addr.mk.injEq, and_true] at e8
  obtain ⟨rfl, rfl⟩ := e8
  have blk : ∀ m, m ≠ b → (w.setCell ⟨b, o + k, none⟩ (.int .i64 u)).heap[m]? = w.heap[m]? := fun m hm => Below.heap_setCell _ _ _ _ hm
  have hsz : (w.setCell ⟨b, o + k, none⟩ (.int .i64 u)).heap.size = w.heap.size := by simp
  have S0 : Keep (fun m => lab m = 0) w (w.setCell ⟨b, o + k, none⟩ (.int .i64 u)) := ⟨by rw [hsz]; exact Nat.le_refl _, fun m _ hm => blk m (fun e => by rw [e, hb3] at hm; omega)⟩
  refine ⟨?_, fun m hm => h.lab1 m hm, fun j hj => ?_, by rw [hsz]; exact h.lo⟩
  · rw [List.length_set]
    exact ownsRow_block h.own (fun m hm => blk m (fun e => by have := h.lab1 m hm; rw [e, hb3] at this; omega))
  · rw [List.length_set] at hj
    by_cases e : i = j
    · subst e
      rw [List.getElem_set_self]
      have hlen := setToL_len hp ((toL X[i]).set k u)
      refine ⟨r, cap, by rw [hlen]; exact hv, by rw [hlen]; exact e2, e3, e4, by rw [hsz]; exact e5, fun j => by rw [World.frozen?_setCell]; exact e6 j, fun k' hk' => ?_⟩
      have hk2 : k' < X[i].length := by rw [hlen] at hk'; exact hk'
      have same : ∀ j, (w.setCell ⟨b, o + k, none⟩ (.int .i64 u)).cell? ⟨r, j, none⟩ = w.cell? ⟨r, j, none⟩ := fun j => World.cell?_of_block (a := ⟨r, j, none⟩) (blk r (fun e => by rw [e, hb3] at e4; omega))
      obtain ⟨v1, v2, v5, c0, c1, c2, c3', c4, c5, hI, q1, q2, q5⟩ := e7 k' hk2
      rw [setToL_get hp _ hk' hk2]
      by_cases ek : k' = X[i].length - 1
      · subst ek
        rw [if_pos rfl]
        refine ⟨v1, v2, v5, (same _).trans c0, (same _).trans c1, (same _).trans c2, (same _).trans c3', (same _).trans c4, (same _).trans c5, hI, Good.kept S0 q1, Good.kept S0 q2, ?_⟩
        rw [hc] at c5
        injection c5 with c5
        subst c5
        rw [← toL_at hp] at q5
        obtain ⟨a, c3, e8, h2, h3, h4⟩ := q5
        simp only [List.cons.injEq, Value.slice.injEq, and_true] at e8
        obtain ⟨rfl, -, rfl⟩ := e8
        show rInts _ _ _ ((toL X[i]).set k u)
        refine ⟨_, _, by rw [List.length_set], by rw [List.length_set]; exact h2, h3, fun t ht => ?_⟩
        rw [List.length_set] at ht
        obtain ⟨b', o', es, e8, hS, hb, hl, hcc, e9, hI9⟩ := h4 t ht
        simp only [Option.some.injEq, Addr.mk.injEq, and_true] at e8
        obtain ⟨rfl, rfl⟩ := e8
        by_cases ekt : k = t
        · subst ekt
          refine ⟨b, o, [.int .i64 u], rfl, ⟨hS.1, fun j => by rw [World.frozen?_setCell]; exact hS.2 j⟩, by rw [hsz]; exact hb, rfl, fun j hj => ?_, by rw [List.getElem_set_self], by rw [List.getElem_set_self]; exact hu⟩
          obtain rfl : j = 0 := by omega
          rw [Nat.mul_one, Nat.add_zero]
          exact World.cell?_setCell_same _ _ _ hck
        · refine ⟨b, o, es, rfl, ⟨hS.1, fun j => by rw [World.frozen?_setCell]; exact hS.2 j⟩, by rw [hsz]; exact hb, hl, fun j hj => ?_, by rw [List.getElem_set_ne ekt]; exact e9, by rw [List.getElem_set_ne ekt]; exact hI9⟩
          obtain rfl : j = 0 := by omega
          rw [← hcc 0 hj]
          exact World.cell?_setCell_other _ _ _ _ (fun h => ekt (by injection h with _ h2 _; omega))
      · rw [if_neg ek]
        refine ⟨v1, v2, v5, (same _).trans c0, (same _).trans c1, (same _).trans c2, (same _).trans c3', (same _).trans c4, (same _).trans c5, hI, Good.kept S0 q1, Good.kept S0 q2, ?_⟩
        rw [hnil k' hk2 ek] at q5 ⊢
        exact rInts_nil q5
    · rw [List.getElem_set_ne e]
      exact (h.rows j hj).keep (by rw [hsz]; exact Nat.le_refl _) (fun m _ hm => blk m (fun e' => by rw [e', hb3] at hm; omega)) (fun _ _ _ => rfl)
/-! ### What code without faults gives -/
theorem PhiOK.pos {fs : List PCode} {c : PCode} {A : Nat → Nat} (H : PhiOK fs c A) : ∀ b ∈ c.blocks, 0 < b.length := fun b hb => Nat.lt_of_le_of_lt (Nat.zero_le _) (H.len b hb)
theorem PhiOK.tos {fs : List PCode} {c : PCode} {A : Nat → Nat} (H : PhiOK fs c A) : ∀ b ∈ c.blocks, inAll (toL b) c.blocks.length = true := fun b hb => by
  have hlt := H.len b hb
  have := (instr_ok (H.bare b hb (b.length - 1) (by omega) (by omega)).1).1
  rw [toL_at (H.pos b hb)]
  exact this
theorem PhiOK.nil {fs : List PCode} {c : PCode} {A : Nat → Nat} (H : PhiOK fs c A) {i : Nat} (hi : i < c.blocks.length) {m : Nat} (hm : m < c.blocks[i].length) (hne : m ≠ c.blocks[i].length - 1) : c.blocks[i][m].to = [] := by
  by_cases hp : m < phisN c.blocks[i]
  · exact (H.phi i hi m hm hp).2.2.1
  · obtain ⟨h1, h2⟩ := H.bare _ (List.getElem_mem hi) m hm (by omega)
    exact (instr_ok h1).2 (by rw [h2]; exact decide_eq_false hne)
section
variable {fs : List PCode} {c : PCode} {A : Nat → Nat} {done : Nat → Nat → Prop} {X : List (List PInstr)} {L : Nat → List Int} {E : List (Nat × Nat)}
theorem SplitR.row_len (h : SplitR c.blocks done X L E) (H : PhiOK fs c A) {i : Nat} (hi : i < c.blocks.length) (hX : i < X.length) : X[i].length = c.blocks[i].length := by
  rw [h.old i hi hX, setToL_len (H.pos _ (List.getElem_mem hi))]
theorem SplitR.row_to (h : SplitR c.blocks done X L E) (H : PhiOK fs c A) {i : Nat} (hi : i < c.blocks.length) (hX : i < X.length) : toL X[i] = L i := by
  rw [h.old i hi hX, setToL_to (H.pos _ (List.getElem_mem hi))]
theorem SplitR.row_nil (h : SplitR c.blocks done X L E) (H : PhiOK fs c A) {i : Nat} (hi : i < c.blocks.length) (hX : i < X.length) : ∀ m (hm : m < X[i].length), m ≠ X[i].length - 1 → X[i][m].to = [] := fun m hm hne => by
  have hp := H.pos _ (List.getElem_mem hi)
  have hl := h.row_len H hi hX
  have h2 : m < (setToL c.blocks[i] (L i)).length := by rw [setToL_len hp]; omega
  have e : X[i][m] = (setToL c.blocks[i] (L i))[m] := by congr 1; exact h.old i hi hX
  rw [e, setToL_get hp _ h2 (by omega), if_neg (by omega)]
  exact H.nil hi (by omega) (by omega)
theorem SplitR.row_set (h : SplitR c.blocks done X L E) (H : PhiOK fs c A) {i : Nat} (hi : i < c.blocks.length) (hX : i < X.length) (l : List Int) : setToL X[i] l = setToL c.blocks[i] l := by
  rw [h.old i hi hX, setToL_set (H.pos _ (List.getElem_mem hi))]
theorem SplitR.count (h : SplitR c.blocks done X L E) : E.length ≤ c.blocks.length * c.blocks.length := nodup_pairs h.nodup fun p hp => by
  obtain ⟨e, he, rfl⟩ := List.mem_iff_getElem.1 hp
  obtain ⟨h1, h2, -, -⟩ := h.edge e he
  exact ⟨h1, h2⟩
theorem SplitR.small (h : SplitR c.blocks done X L E) (H : PhiOK fs c A) : X.length ≤ 4002000 := by
  have h1 := h.count
  have h2 := h.len
  have h3 := H.n0.2
  have h4 : c.blocks.length * c.blocks.length ≤ 2000 * 2000 := Nat.mul_le_mul h3 h3
  omega
theorem SplitR.fit (h : SplitR c.blocks done X L E) (H : PhiOK fs c A) (hf : FitCode c) : FitCode (withB c X) := by
  refine ⟨by have := h.small H; unfold reachBytes; show X.length * 24 ≤ _; omega, fun b hb => ?_⟩
  obtain ⟨i, hi, rfl⟩ := List.mem_iff_getElem.1 (show b ∈ X from hb)
  by_cases h0 : i < c.blocks.length
  · have hp := H.pos _ (List.getElem_mem h0)
    obtain ⟨f1, f2⟩ := hf.2 _ (List.getElem_mem h0)
    have hl := h.row_len H h0 hi
    refine ⟨by rw [hl]; exact f1, fun x hx => ?_⟩
    obtain ⟨m, hm, rfl⟩ := List.mem_iff_getElem.1 hx
    have hm0 : m < c.blocks[i].length := by omega
    have h2 : m < (setToL c.blocks[i] (L i)).length := by rw [setToL_len hp]; omega
    have e : X[i][m] = (setToL c.blocks[i] (L i))[m] := by congr 1; exact h.old i h0 hi
    have g := f2 _ (List.getElem_mem hm0)
    rw [e, setToL_get hp _ h2 hm0]
    split
    · rename_i em
      have hll := h.llen i h0
      rw [toL_at hp] at hll
      subst em
      obtain ⟨g1, g2, g3⟩ := g
      exact ⟨g1, g2, by show (L i).length * 8 ≤ _; rw [hll]; exact g3⟩
    · exact g
  · have hlen := h.len
    have e : X[i] = [jumpI (E[i - c.blocks.length]'(by omega)).2] := by
      rw [← h.new (i - c.blocks.length) (by omega) (by omega)]
      congr 1
      omega
    rw [e]
    refine ⟨by unfold reachBytes; simp, fun x hx => ?_⟩
    rw [List.mem_singleton] at hx
    subst hx
    refine ⟨by unfold reachBytes; simp [jumpI], by unfold reachBytes; simp [jumpI], by unfold reachBytes; simp [jumpI]⟩
end
end Go.Proofs.YthgfdcoicihpdaaDoor

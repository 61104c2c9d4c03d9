/-
  Plain laws on memory, for any program: 'for k, v := range m' over a map held as a list of pairs (XIMap), with a round that stores at keys that are there.
-/
import Derived.Test.YthgfdcoicihpdaaDoorIMap
import Derived.Maps.RangeRun
import Derived.Test.YthgfdcoicihpdaaDoorBackPQS
import Derived.Test.YthgfdcoicihpdaaDoorFuncs
import Derived.Test.YthgfdcoicihpdaaDoorBackMem
import Derived.Test.YthgfdcoicihpdaaDoorClone
import Derived.Test.YthgfdcoicihpdaaDoorAhead
namespace Go.Pst
open Go.RowKit Go.MapKept Go.ChangeMaps
set_option linter.unusedVariables false
set_option linter.unusedSimpArgs false
set_option linter.unusedSectionVars false
variable {κ : Type} [DecidableEq κ] [MKey κ]

/-- Block r walks the map of block b, that holds m; left: the keys still to come. -/
def RangeI (w : World) (b r : Nat) (m : IMap κ) (left : List κ) : Prop :=
  ∃ es clock since seen c0, w.heap[b]? = some (.map es clock) ∧ Stamped es clock ∧ es.toList.map (fun e => (e.key, e.val)) = entI m ∧ w.heap[r]? = some (.mapIter (some b) since seen c0) ∧
    (∀ x ∈ es.toList, x.born < since) ∧ since ≤ c0 ∧ since ≤ clock ∧ (leftOf es seen).toList.map (·.key) = left.map MKey.val
theorem RangeI.mapI {w : World} {b r : Nat} {m : IMap κ} {left : List κ} (h : RangeI w b r m left) : MapI w b m := by
  obtain ⟨es, clock, since, seen, c0, h1, h2, h3, -⟩ := h
  exact ⟨es, clock, h1, h2, h3⟩
theorem RangeI.ne {w : World} {b r : Nat} {m : IMap κ} {left : List κ} (h : RangeI w b r m left) : r ≠ b := fun e => by
  obtain ⟨es, clock, since, seen, c0, h1, h2, h3, h4, -⟩ := h
  rw [e, h1] at h4
  cases h4
theorem RangeI.lt {w : World} {b r : Nat} {m : IMap κ} {left : List κ} (h : RangeI w b r m left) : r < w.heap.size := by
  obtain ⟨es, clock, since, seen, c0, h1, h2, h3, h4, -⟩ := h
  exact (Array.getElem?_eq_some_iff.1 h4).1
theorem RangeI.heap {w w' : World} {b r : Nat} {m : IMap κ} {left : List κ} (h : RangeI w b r m left) (e1 : w'.heap[b]? = w.heap[b]?) (e2 : w'.heap[r]? = w.heap[r]?) : RangeI w' b r m left := by
  obtain ⟨es, clock, since, seen, c0, h1, h2, h3, h4, q⟩ := h
  exact ⟨es, clock, since, seen, c0, e1.trans h1, h2, h3, e2.trans h4, q⟩
theorem ent_key {l : List MapEntry} {m : IMap κ} (h : l.map (fun e => (e.key, e.val)) = entI m) {e : MapEntry} (he : e ∈ l) : ∃ x, e.key = MKey.val x ∧ (x, e.val) ∈ m := by
  have h1 : (e.key, e.val) ∈ entI m := h ▸ List.mem_map.2 ⟨e, he, rfl⟩
  obtain ⟨p, hp, e1⟩ := List.mem_map.1 h1
  injection e1 with e1 e2
  exact ⟨p.1, e1.symm, by rw [← e2]; exact hp⟩
theorem mem_lookI : ∀ {m : IMap κ} {x : κ} {v : Value}, (m.map (·.1)).Nodup → (x, v) ∈ m → lookI m x = some v
  | [], _, _, _, h => by cases h
  | (k, u) :: r, x, v, hd, h => by
    rw [List.map_cons, List.nodup_cons] at hd
    unfold lookI
    rcases List.mem_cons.1 h with h | h
    · injection h with h1 h2
      subst h1; subst h2
      rw [if_pos rfl]
    · rw [if_neg (fun e => hd.1 (by rw [e]; exact List.mem_map.2 ⟨_, h, rfl⟩))]
      exact mem_lookI hd.2 h
theorem keys_of : ∀ (l : List MapEntry), (∀ z ∈ l, ∃ y : κ, z.key = MKey.val y) → ∃ ks : List κ, l.map (·.key) = ks.map MKey.val
  | [], _ => ⟨[], rfl⟩
  | z :: l, h => by
    obtain ⟨y, hy⟩ := h z (List.mem_cons_self ..)
    obtain ⟨ks, hk⟩ := keys_of l (fun z hz => h z (List.mem_cons_of_mem _ hz))
    exact ⟨y :: ks, by simp [hy, hk]⟩
theorem nodup_inj {β : Type} {f : MapEntry → β} : ∀ {l : List MapEntry}, (l.map f).Nodup → ∀ {x y : MapEntry}, x ∈ l → y ∈ l → f x = f y → x = y
  | [], _, _, _, h, _, _ => by cases h
  | z :: l, hd, x, y, hx, hy, e => by
    rw [List.map_cons, List.nodup_cons] at hd
    rcases List.mem_cons.1 hx with h1 | h1
    · rcases List.mem_cons.1 hy with h2 | h2
      · exact h1.trans h2.symm
      · exact (hd.1 (List.mem_map.2 ⟨y, h2, by rw [← e, h1]⟩)).elim
    · rcases List.mem_cons.1 hy with h2 | h2
      · exact (hd.1 (List.mem_map.2 ⟨x, h1, by rw [e, h2]⟩)).elim
      · exact nodup_inj hd.2 h1 h2 e
section
variable {P : Program} {w : World} {b r : Nat} {m : IMap κ} {left : List κ} {t kt et : TypeId}
/-- 'range m'. -/
theorem MapI.range (h : MapI w b m) (ht : P.underlying t = some (.map kt et)) :
    ∃ w', (Instr.range t (.map (some b))).run P w = .ok (.pointer (some ⟨w.heap.size, 0, none⟩)) w' ∧ RangeI w' b w.heap.size m (m.map (·.1)) ∧ w.grownBy w' none ∧ w'.heap.size = w.heap.size + 1 := by
  have hlt := h.lt
  obtain ⟨es, clock, hb, hs, hm⟩ := h
  refine ⟨_, run_range_map w t kt et b es clock ht hb, ⟨es, clock, clock, #[], clock, ((MapKept.heap_alloc w _).2 b hlt).trans hb, hs, hm, (MapKept.heap_alloc w _).1, hs.1, Nat.le_refl _, Nat.le_refl _, ?_⟩, World.grownBy_alloc w _ none, by simp⟩
  have := congrArg (List.map Prod.fst) hm
  have hf : (leftOf es #[]) = es := by unfold leftOf; exact Array.filter_eq_self.2 (fun x _ => by simp)
  rw [hf]
  simpa [entI, Function.comp_def] using this
/-- The step. -/
theorem RangeI.next (h : RangeI w b r m left) (ty : TypeId) :
    (left = [] ∧ (Instr.next (.pointer (some ⟨r, 0, none⟩)) false ty).run P w = .ok (.tuple #[.bool false]) w) ∨
    ∃ x v w1 left', x ∈ left ∧ lookI m x = some v ∧ (Instr.next (.pointer (some ⟨r, 0, none⟩)) false ty).run P w = .ok (.tuple #[.bool true, MKey.val x, v]) w1 ∧ RangeI w1 b r m left' ∧ left'.length < left.length ∧ (∀ y ∈ left, y = x ∨ y ∈ left') ∧ (∀ y ∈ left', y ∈ left) ∧ x ∉ left' ∧
      w.grownBy w1 (some r) ∧ w1.heap.size = w.heap.size ∧ (Instr.entry (.pointer (some ⟨r, 0, none⟩))).run P w1 = .ok (.tuple #[MKey.val x, v]) w1 := by
  have hne := h.ne
  have hkeys := h.mapI.keys
  obtain ⟨es, clock, since, seen, c0, h1, h2, h3, h4, h5, h6, h8, h7⟩ := h
  rcases run_next_at (P := P) w ty r b since c0 seen es clock h4 h1 h5 h6 with ⟨h0, hrun⟩ | ⟨e, he, w0, hw0, hrun⟩
  · refine Or.inl ⟨?_, hrun⟩
    have : (leftOf es seen).toList = [] := by
      have : (leftOf es seen) = #[] := Array.eq_empty_of_size_eq_zero h0
      rw [this]
    rw [this] at h7
    cases left with
    | nil => rfl
    | cons a l => simp at h7
  · have hes : e ∈ es.toList := by simp [leftOf] at he ⊢; exact he.1
    obtain ⟨x, hx, hxm⟩ := ent_key h3 hes
    have hxl : x ∈ left := by
      have : e.key ∈ left.map MKey.val := h7 ▸ List.mem_map.2 ⟨e, he, rfl⟩
      obtain ⟨y, hy, ey⟩ := List.mem_map.1 this
      rw [hx] at ey
      exact MKey.inj _ _ ey ▸ hy
    have hw0r : w0.heap = w.heap := by rcases hw0 with rfl | rfl <;> rfl
    have hr0 : w0.heap[r]? = some (.mapIter (some b) since seen c0) := by rw [hw0r]; exact h4
    have hfl : (leftOf es (seen.push e.born)).toList = (leftOf es seen).toList.filter (fun z => decide (z.born ≠ e.born)) := by
      simp only [leftOf, Array.toList_filter, List.filter_filter]
      refine List.filter_congr fun z _ => ?_
      by_cases g : z.born = e.born <;> simp [g]
    obtain ⟨left', hl'⟩ := keys_of (κ := κ) (leftOf es (seen.push e.born)).toList (fun z hz => by
      obtain ⟨y, hy, -⟩ := ent_key h3 (e := z) (by simp [leftOf] at hz ⊢; exact hz.1)
      exact ⟨y, hy⟩)
    have hb1 : (setBlock w0 r (.mapIter (some b) since (seen.push e.born) clock)).heap[b]? = some (.map es clock) := by
      show (w0.heap.setIfInBounds r _)[b]? = _
      rw [Array.getElem?_setIfInBounds_ne hne, hw0r]
      exact h1
    have hr1 : (setBlock w0 r (.mapIter (some b) since (seen.push e.born) clock)).heap[r]? = some (.mapIter (some b) since (seen.push e.born) clock) := by
      show (w0.heap.setIfInBounds r _)[r]? = _
      rw [Array.getElem?_setIfInBounds_self_of_lt (by rw [hw0r]; exact (Array.getElem?_eq_some_iff.1 h4).1)]
    refine Or.inr ⟨x, e.val, _, left', hxl, mem_lookI hkeys hxm, by rw [hrun, hx], ⟨es, clock, since, seen.push e.born, clock, hb1, h2, h3, hr1, h5, h8, h8, hl'⟩, ?_, fun y hy => ?_, fun y hy => ?_, fun hin => ?_, ?_, ?_, ?_⟩
    · have e1 := congrArg List.length hl'
      have e2 := congrArg List.length h7
      rw [List.length_map, List.length_map] at e1 e2
      rw [← e1, ← e2, hfl]
      exact List.length_filter_lt_length_iff_exists.2 ⟨e, he, by simp⟩
    · have : MKey.val y ∈ (leftOf es seen).toList.map (·.key) := h7 ▸ List.mem_map.2 ⟨y, hy, rfl⟩
      obtain ⟨z, hz, ez⟩ := List.mem_map.1 this
      by_cases g : z.born = e.born
      · have hz2 : z ∈ es.toList := by simp [leftOf] at hz ⊢; exact hz.1
        have := nodup_inj h2.2.1 hz2 hes g
        subst this
        exact Or.inl (MKey.inj _ _ (ez.symm.trans hx))
      · right
        have : z ∈ (leftOf es (seen.push e.born)).toList := by rw [hfl]; exact List.mem_filter.2 ⟨hz, by simpa using g⟩
        have : z.key ∈ left'.map MKey.val := hl' ▸ List.mem_map.2 ⟨z, this, rfl⟩
        obtain ⟨y', hy', ey'⟩ := List.mem_map.1 this
        rw [ez] at ey'
        exact MKey.inj _ _ ey' ▸ hy'
    · have : MKey.val y ∈ (leftOf es (seen.push e.born)).toList.map (·.key) := hl' ▸ List.mem_map.2 ⟨y, hy, rfl⟩
      rw [hfl] at this
      obtain ⟨z, hz, ez⟩ := List.mem_map.1 this
      have hz2 := (List.mem_filter.1 hz).1
      have : z.key ∈ left.map MKey.val := h7 ▸ List.mem_map.2 ⟨z, hz2, rfl⟩
      obtain ⟨y', hy', ey'⟩ := List.mem_map.1 this
      rw [ez] at ey'
      exact MKey.inj _ _ ey' ▸ hy'
    · have : MKey.val x ∈ (leftOf es (seen.push e.born)).toList.map (·.key) := hl' ▸ List.mem_map.2 ⟨x, hin, rfl⟩
      rw [hfl] at this
      obtain ⟨z, hz, ez⟩ := List.mem_map.1 this
      obtain ⟨hz1, hz2⟩ := List.mem_filter.1 hz
      have hz3 : z ∈ es.toList := by simp [leftOf] at hz1 ⊢; exact hz1.1
      have e9 : z = e := nodup_inj h2.2.2 hz3 hes (ez.trans hx.symm)
      simp [e9] at hz2
    · rcases hw0 with rfl | rfl <;> exact ⟨rfl, rfl, rfl, by simp [setBlock], fun i _ hi => (heap_set (o' := .mapIter (some b) since (seen.push e.born) clock) hr0).2 i (fun e1 => hi (by rw [e1]))⟩
    · show (w0.heap.setIfInBounds r _).size = _
      rw [Array.size_setIfInBounds, hw0r]
    · rw [run_entry_at (P := P) _ r b since seen es clock e hr1 hb1 hes h2.2.1, hx]
/-- 'm[k] = v' in the round, at a key that is there. -/
theorem RangeI.update (h : RangeI w b r m left) (ht : P.underlying t = some (.map kt et)) (hk : P.underlying kt = some (MKey.desc κ)) (x : κ) (v : Value) (hx : (lookI m x).isSome = true) :
    ∃ w', (Instr.mapUpdate t (.map (some b)) (MKey.val x) v).run P w = .ok () w' ∧ RangeI w' b r (putI m x v) left ∧ w.grownBy w' (some b) := by
  have hne := h.ne
  obtain ⟨w', hrun, hm', hg⟩ := h.mapI.update ht hk x v
  refine ⟨w', hrun, ?_, hg⟩
  obtain ⟨es, clock, since, seen, c0, h1, h2, h3, h4, h5, h6, h8, h7⟩ := h
  have hr' : w'.heap[r]? = w.heap[r]? := hg.block r (Array.getElem?_eq_some_iff.1 h4).1 (fun e => hne (by injection e))
  rcases find_I es.toList m 0 x h3 with ⟨-, g2, -⟩ | ⟨j, e, u, g1, g2, g3, g4, g5, -, g7⟩
  · rw [g2] at hx
    cases hx
  · have hj : j < es.size := by
      have := (List.getElem?_eq_some_iff.1 g3).1
      simpa using this
    have hej : es[j]? = some e := by simpa using g3
    have hrun2 : (Instr.mapUpdate t (.map (some b)) (MKey.val x) v).run P w = .ok () { w with heap := w.heap.setIfInBounds b (.map (es.modify j fun e => { e with key := MKey.val x, val := v }) clock) } := by
      unfold Instr.mapUpdate
      simp [run_underlying ht, Result.andThen, MapKept.run_getObj_map h1, MapKept.run_checkKey hk (isKey_int x), run_findKey hk g1, hej, g4, run_keyThatStays, run_setObj_map _ h1]
    rw [hrun] at hrun2
    injection hrun2 with _ hw
    obtain ⟨es', clock', k1, k2, k3⟩ := hm'
    have hb' : w'.heap[b]? = some (.map (es.modify j fun e => { e with key := MKey.val x, val := v }) clock) := by
      rw [hw]
      exact (heap_set h1).1
    rw [hb'] at k1
    injection k1 with k1
    injection k1 with e1 e2
    subst e1; subst e2
    have keys : ∀ (p : Nat → Bool) (l : List MapEntry) (j : Nat), (l[j]?.map (·.key) = some (MKey.val x)) → ((l.modify j fun e => { e with key := MKey.val x, val := v }).filter (fun e => p e.born)).map (·.key) = (l.filter (fun e => p e.born)).map (·.key) ∧ (l.modify j fun e => { e with key := MKey.val x, val := v }).map (·.born) = l.map (·.born) := by
      intro p l
      induction l with
      | nil => intro j h; simp at h
      | cons y r ih =>
        intro j h
        rcases j with _ | j
        · simp only [List.getElem?_cons_zero, Option.map_some, Option.some.injEq] at h
          simp only [List.modify_zero_cons, List.map_cons, List.filter_cons, and_true]
          split <;> simp [h]
        · obtain ⟨i1, i2⟩ := ih j (by simpa using h)
          simp only [List.modify_succ_cons, List.map_cons, List.filter_cons, i2, and_true]
          split <;> simp [i1]
    have hl : (es.modify j fun e => { e with key := MKey.val x, val := v }).toList = es.toList.modify j fun e => { e with key := MKey.val x, val := v } := by simp
    obtain ⟨q1, q2⟩ := keys (fun n => !seen.contains n) es.toList j (by rw [g3]; simp [g4])
    refine ⟨_, _, since, seen, c0, hb', k2, k3, hr'.trans h4, fun y hy => ?_, h6, h8, ?_⟩
    · rw [hl] at hy
      have : y.born ∈ (es.toList.modify j fun e => { e with key := MKey.val x, val := v }).map (·.born) := List.mem_map.2 ⟨y, hy, rfl⟩
      rw [q2] at this
      obtain ⟨z, hz, hzb⟩ := List.mem_map.1 this
      rw [← hzb]
      exact h5 z hz
    · rw [← h7]
      simp only [leftOf, Array.toList_filter, hl]
      exact q1
/-- The walk's law at 'range m'. -/
theorem wpList_rangeI {ops : Array Oper} {rest : List Oper} {o : Oper} {a : Act} {Q : Exit → Act → World → Prop}
    (hg : o.guard = none) (mo : Operand) (t : TypeId) (hop : o.op = Op.range t mo) {kt et : TypeId} (ht : P.underlying t = some (.map kt et)) (b : Nat) (m : IMap κ) (hm : a.eval mo = .map (some b)) (h : MapI w b m)
    (hK : ∀ w', RangeI w' b w.heap.size m (m.map (·.1)) → w.grownBy w' none → w'.heap.size = w.heap.size + 1 → wpList P ops Q rest (a.put o.dst (.pointer (some ⟨w.heap.size, 0, none⟩))) w') : wpList P ops Q (o :: rest) a w := by
  refine wpList_plain hg fun K' hK' => ?_
  obtain ⟨w', hrun, r1, r2, r3⟩ := h.range ht
  unfold Oper.wp
  simp [execOp, hop, hm, hrun, Result.andThen]
  exact hK' _ _ (hK w' r1 r2 r3)
/-- .. at the step. -/
theorem wpList_nextI {ops : Array Oper} {rest : List Oper} {o : Oper} {a : Act} {Q : Exit → Act → World → Prop}
    (hg : o.guard = none) (it : Operand) (hop : o.op = Op.next it false) (b r : Nat) (m : IMap κ) (left : List κ) (hit : a.eval it = .pointer (some ⟨r, 0, none⟩)) (h : RangeI w b r m left)
    (hDone : left = [] → wpList P ops Q rest (a.put o.dst (.tuple #[.bool false])) w)
    (hMore : ∀ (x : κ) (v : Value) (left' : List κ) (w' : World), x ∈ left → lookI m x = some v → RangeI w' b r m left' → left'.length < left.length → (∀ y ∈ left, y = x ∨ y ∈ left') → (∀ y ∈ left', y ∈ left) → x ∉ left' → w.grownBy w' (some r) → w'.heap.size = w.heap.size →
      (Instr.entry (.pointer (some ⟨r, 0, none⟩))).run P w' = .ok (.tuple #[MKey.val x, v]) w' → wpList P ops Q rest (a.put o.dst (.tuple #[.bool true, MKey.val x, v])) w') : wpList P ops Q (o :: rest) a w := by
  refine wpList_plain hg fun K' hK' => ?_
  unfold Oper.wp
  rcases h.next (P := P) o.type with ⟨h0, hrun⟩ | ⟨x, v, w1, left', q1, q2, hrun, q3, q4, q5, q6, q0, q7, q8, q9⟩
  · simp [execOp, hop, hit, hrun, Result.andThen]
    exact hK' _ _ (hDone h0)
  · simp [execOp, hop, hit, hrun, Result.andThen]
    exact hK' _ _ (hMore x v left' w1 q1 q2 q3 q4 q5 q6 q0 q7 q8 q9)
/-- .. at the entry. -/
theorem wpList_entryI {ops : Array Oper} {rest : List Oper} {o : Oper} {a : Act} {Q : Exit → Act → World → Prop} {w : World}
    (hg : o.guard = none) (it : Operand) (hop : o.op = Op.entry it) (u v : Value) (hit : a.eval it = u) (hrun : (Instr.entry u).run P w = .ok v w) (hK : wpList P ops Q rest (a.put o.dst v) w) : wpList P ops Q (o :: rest) a w := by
  refine wpList_plain hg fun K' hK' => ?_
  unfold Oper.wp
  simp [execOp, hop, hit, hrun, Result.andThen]
  exact hK' _ _ hK
/-- .. at a store in the round. -/
theorem wpList_updateR {ops : Array Oper} {rest : List Oper} {o : Oper} {a : Act} {Q : Exit → Act → World → Prop}
    (hg : o.guard = none) (mo xo vo : Operand) (t : TypeId) (hop : o.op = Op.mapUpdate t mo xo vo) {kt et : TypeId} (ht : P.underlying t = some (.map kt et)) (hk : P.underlying kt = some (MKey.desc κ))
    (b r : Nat) (m : IMap κ) (left : List κ) (hm : a.eval mo = .map (some b)) (h : RangeI w b r m left) (x : κ) (v : Value) (hx : a.eval xo = MKey.val x) (hv : a.eval vo = v) (hin : (lookI m x).isSome = true)
    (hK : ∀ w', RangeI w' b r (putI m x v) left → w.grownBy w' (some b) → wpList P ops Q rest (a.put o.dst undef) w') : wpList P ops Q (o :: rest) a w := by
  refine wpList_plain hg fun K' hK' => ?_
  obtain ⟨w', hrun, r1, r2⟩ := h.update ht hk x v hin
  unfold Oper.wp
  simp [execOp, hop, hm, hx, hv, hrun, Result.andThen]
  exact hK' _ _ (hK w' r1 r2)
/-- 'delete(m, k)'. -/
theorem MapI.delete {w : World} {b : Nat} {m : IMap κ} (h : MapI w b m) (ht : P.underlying t = some (.map kt et)) (hk : P.underlying kt = some (MKey.desc κ)) (x : κ) (ty : TypeId) :
    ∃ w', (Builtin.delete_ #[t, kt] ty #[.map (some b), MKey.val x]).run P w = .ok (.tuple #[]) w' ∧ MapI w' b (delI m x) ∧ w.grownBy w' (some b) ∧ w'.heap.size = w.heap.size := by
  obtain ⟨es, clock, hb, hs, hm⟩ := h
  have grow : ∀ o, w.grownBy (setBlock w b o) (some b) := fun o =>
    ⟨rfl, rfl, rfl, by simp [setBlock], fun i _ hi => (heap_set (o' := o) hb).2 i (fun e => hi (by rw [e]))⟩
  rcases find_I es.toList m 0 x hm with ⟨h1, h2, h3, -⟩ | ⟨j, e, u, h1, h2, h3, h4, h5, h6, -⟩
  · refine ⟨setBlock w b (.map es clock), ?_, ⟨es, clock, (heap_set hb).1, hs, by rw [h3]; exact hm⟩, grow _, by simp [setBlock]⟩
    simp [Builtin.delete_, run_underlying ht, MapKept.run_getObj_map hb, MapKept.run_checkKey hk (isKey_int x), run_findKey hk h1, MapKept.run_setObj_map _ hb, Result.andThen, setBlock]
  · have hj : j < es.size := by
      have := (List.getElem?_eq_some_iff.1 h3).1
      simpa using this
    have hsub : (es.eraseIdxIfInBounds j).toList = es.toList.eraseIdx j := by
      unfold Array.eraseIdxIfInBounds
      rw [dif_pos hj]
      simp
    refine ⟨setBlock w b (.map (es.eraseIdxIfInBounds j) clock), ?_, ⟨_, clock, (heap_set hb).1, stamped_erase hs j, ?_⟩, grow _, by simp [setBlock]⟩
    · simp [Builtin.delete_, run_underlying ht, MapKept.run_getObj_map hb, MapKept.run_checkKey hk (isKey_int x), run_findKey hk h1, MapKept.run_setObj_map _ hb, Result.andThen, setBlock]
    · have er : ∀ {α β : Type} (f : α → β) (l : List α) (j : Nat), (l.eraseIdx j).map f = (l.map f).eraseIdx j := fun f l => by
        induction l with
        | nil => intro j; simp
        | cons y r ih =>
          intro j
          cases j with
          | zero => simp
          | succ j => simp [ih]
      rw [hsub, h6, er, hm]
      unfold entI
      rw [er]
/-- The walk's law at 'delete(m, k)'. -/
theorem wpList_deleteI {ops : Array Oper} {rest : List Oper} {o : Oper} {a : Act} {Q : Exit → Act → World → Prop}
    (hg : o.guard = none) (mo xo : Operand) (t kt : TypeId) (hop : o.op = Op.call { callee := Callee.builtin Builtin.delete, args := #[mo, xo], argTypes := #[t, kt] }) {et : TypeId} (ht : P.underlying t = some (.map kt et)) (hk : P.underlying kt = some (MKey.desc κ))
    (b : Nat) (m : IMap κ) (hm : a.eval mo = .map (some b)) (h : MapI w b m) (x : κ) (hx : a.eval xo = MKey.val x)
    (hK : ∀ w', MapI w' b (delI m x) → w.grownBy w' (some b) → w'.heap.size = w.heap.size → wpList P ops Q rest (a.put o.dst (.tuple #[])) w') : wpList P ops Q (o :: rest) a w := by
  refine wpList_plain hg fun K' hK' => ?_
  obtain ⟨w', hrun, r1, r2, r3⟩ := h.delete ht hk x o.type
  unfold Oper.wp
  simp [execOp, hop, resolve, invoke, builtin, hm, hx, hrun, Result.andThen]
  exact hK' _ _ (hK w' r1 r2 r3)
/-- 'len(m)'. -/
theorem MapI.len {w : World} {b : Nat} {m : IMap κ} (h : MapI w b m) (ht : P.underlying t = some (.map kt et)) (ty : TypeId) : (Builtin.len_ #[t] ty #[.map (some b)]).run P w = .ok (.int .i64 (m.length : Int)) w := by
  obtain ⟨es, clock, hb, hs, hm⟩ := h
  have hl : es.size = m.length := by
    have := congrArg List.length hm
    simpa [entI] using this
  simp [Builtin.len_, run_underlying ht, MapKept.run_getObj_map hb, Result.andThen, goInt, hl]
theorem wpList_lenI {ops : Array Oper} {rest : List Oper} {o : Oper} {a : Act} {Q : Exit → Act → World → Prop}
    (hg : o.guard = none) (mo : Operand) (t : TypeId) (hop : o.op = Op.call { callee := Callee.builtin Builtin.len, args := #[mo], argTypes := #[t] }) {kt et : TypeId} (ht : P.underlying t = some (.map kt et))
    (b : Nat) (m : IMap κ) (hm : a.eval mo = .map (some b)) (h : MapI w b m) (hK : wpList P ops Q rest (a.put o.dst (.int .i64 (m.length : Int))) w) : wpList P ops Q (o :: rest) a w := by
  refine wpList_plain hg fun K' hK' => ?_
  have hrun := h.len ht o.type
  unfold Oper.wp
  simp [execOp, hop, resolve, invoke, builtin, hm, hrun, Result.andThen]
  exact hK' _ _ hK
end
end Go.Pst

namespace Go.Proofs.YthgfdcoicihpdaaDoor
open Go.RowKit Go.Pst
set_option linter.unusedVariables false

theorem lookI_mem : ∀ {m : IMap Int} {x : Int} {v : Value}, lookI m x = some v → (x, v) ∈ m
  | [], _, _, h => by simp [lookI] at h
  | (k, u) :: r, x, v, h => by
    unfold lookI at h
    split at h
    · rename_i e
      injection h with h
      rw [e, h]
      exact List.mem_cons_self ..
    · exact List.mem_cons_of_mem _ (lookI_mem h)
theorem lookI_del : ∀ {m : IMap Int} (x y : Int), (m.map (·.1)).Nodup → lookI (delI m x) y = if y = x then none else lookI m y
  | [], x, y, _ => by simp [delI, lookI]
  | (k, u) :: r, x, y, hd => by
    rw [List.map_cons, List.nodup_cons] at hd
    unfold delI
    by_cases hk : k = x
    · subst hk
      rw [if_pos rfl]
      by_cases hy : y = k
      · subst hy
        rw [if_pos rfl]
        cases e : lookI r y with
        | none => rfl
        | some v => exact absurd (List.mem_map.2 ⟨_, lookI_mem e, rfl⟩) hd.1
      · rw [if_neg hy]
        simp [lookI, show ¬ k = y from fun e => hy e.symm]
    · rw [if_neg hk]
      unfold lookI
      rw [lookI_del x y hd.2]
      by_cases hy : y = x
      · subst hy
        simp [hk]
      · simp [hy]
theorem length_del : ∀ {m : IMap Int} {x : Int}, (lookI m x).isSome = true → (delI m x).length + 1 = m.length
  | [], x, h => by simp [lookI] at h
  | (k, u) :: r, x, h => by
    unfold lookI at h
    unfold delI
    by_cases hk : k = x
    · rw [if_pos hk]; rfl
    · rw [if_neg hk] at h ⊢
      rw [List.length_cons, List.length_cons, length_del h]
theorem length_put : ∀ {m : IMap Int} {x : Int} (v : Value), (lookI m x).isSome = true → (putI m x v).length = m.length
  | [], x, v, h => by simp [lookI] at h
  | (k, u) :: r, x, v, h => by
    unfold lookI at h
    unfold putI
    by_cases hk : k = x
    · rw [if_pos hk]; rfl
    · rw [if_neg hk] at h ⊢
      rw [List.length_cons, List.length_cons, length_put v h]
theorem length_put_le : ∀ (m : IMap Int) (x : Int) (v : Value), (putI m x v).length ≤ m.length + 1
  | [], x, v => by simp [putI]
  | (k, u) :: r, x, v => by
    unfold putI
    split
    · simp
    · have := length_put_le r x v
      simp only [List.length_cons]
      omega

/-- No move that waits needs what d holds. -/
def FreeAt (m : IMap Int) (d : Int) : Prop := (lookI m d).isSome = true ∧ ∀ x, lookI m x ≠ some (.int .i64 d)
/-- While moves are put in a row: k came in, v0 variables were there. -/
structure ParS (v0 : Int) (k : Nat) (order : List Int) (m : IMap Int) (vars : Int) (out : List PInstr) (rings : Nat) : Prop where
  keys : ∀ x, (lookI m x).isSome = true → x ∈ order
  vals : ∀ x v, lookI m x = some v → ∃ a, v = .int .i64 a ∧ 0 ≤ a ∧ a < vars
  ord : ∀ x ∈ order, 0 ≤ x ∧ x < v0
  vars_ : vars = v0 + rings
  outs : ∀ y ∈ out, ∃ d a, y = moveI d a ∧ (0 ≤ d ∧ d < vars) ∧ 0 ≤ a ∧ a < vars
  sum : out.length + m.length ≤ k + rings
section
variable {v0 : Int} {k : Nat} {order : List Int} {m m' : IMap Int} {vars : Int} {out : List PInstr} {rings : Nat}
theorem ParS.move (h : ParS v0 k order m vars out rings) (hd : (m.map (·.1)).Nodup) {d a : Int} (hl : lookI m d = some (.int .i64 a)) : ParS v0 k order (delI m d) vars (out ++ [moveI d a]) rings := by
  have h1 := h.ord d (h.keys d (by rw [hl]; rfl))
  obtain ⟨a', e, h2, h3⟩ := h.vals d _ hl
  have e' : a = a' := by injection e
  subst e'
  have hv := h.vars_
  have hlen := length_del (m := m) (x := d) (by rw [hl]; rfl)
  refine ⟨fun x hx => h.keys x ?_, fun x v hx => h.vals x v ?_, h.ord, hv, fun y hy => ?_, ?_⟩
  · rw [lookI_del d x hd] at hx
    split at hx
    · cases hx
    · exact hx
  · rw [lookI_del d x hd] at hx
    split at hx
    · cases hx
    · exact hx
  · rcases List.mem_append.1 hy with hy | hy
    · exact h.outs y hy
    · rw [List.mem_singleton] at hy
      exact ⟨d, a, hy, ⟨h1.1, by omega⟩, h2, h3⟩
  · have := h.sum
    rw [List.length_append, List.length_singleton]
    omega
/-- A ring: d's value goes into a variable more; who needs it takes it from there. -/
theorem ParS.ring (h : ParS v0 k order m vars out rings) {d : Int} (hd : (lookI m d).isSome = true) (hk : ∀ x, (lookI m' x).isSome = (lookI m x).isSome) (hv : ∀ x v, lookI m' x = some v → (lookI m x = some v ∧ v ≠ .int .i64 d) ∨ v = .int .i64 vars) (hlen : m'.length = m.length) :
    ParS v0 k order m' (vars + 1) (out ++ [moveI vars d]) (rings + 1) ∧ FreeAt m' d := by
  have h1 := h.ord d (h.keys d hd)
  have hvv := h.vars_
  refine ⟨⟨fun x hx => h.keys x (by rw [← hk]; exact hx), fun x v hx => ?_, h.ord, by omega, fun y hy => ?_, ?_⟩, by rw [hk]; exact hd, fun x hx => ?_⟩
  · rcases hv x v hx with ⟨g, -⟩ | g
    · obtain ⟨a, e, g1, g2⟩ := h.vals x v g
      exact ⟨a, e, g1, by omega⟩
    · exact ⟨vars, g, by omega, by omega⟩
  · rcases List.mem_append.1 hy with hy | hy
    · obtain ⟨d', a', e, g1, g2⟩ := h.outs y hy
      exact ⟨d', a', e, by omega, by omega⟩
    · rw [List.mem_singleton] at hy
      exact ⟨vars, d, hy, by omega, by omega⟩
  · have := h.sum
    rw [List.length_append, List.length_singleton]
    omega
  · rcases hv x _ hx with ⟨-, g⟩ | g
    · exact g rfl
    · injection g with _ g
      omega
/-- At the end, where every ring is followed by a move: so many moves, so many variables. -/
theorem ParS.done (h : ParS v0 k order [] vars out rings) (hr : 2 * rings ≤ out.length) : (v0 ≤ vars ∧ vars ≤ v0 + k) ∧ out.length ≤ 2 * k ∧ ∀ x ∈ out, ∃ d a, x = moveI d a ∧ (0 ≤ d ∧ d < vars) ∧ 0 ≤ a ∧ a < vars := by
  have h1 := h.sum
  have h2 := h.vars_
  simp only [List.length_nil] at h1
  exact ⟨by omega, by omega, h.outs⟩
end
/-- While the map is walked through, and who needs d takes it from elsewhere. -/
structure Walk (d vars : Int) (m0 m : IMap Int) (left : List Int) : Prop where
  keys : ∀ x, (lookI m x).isSome = (lookI m0 x).isSome
  old : ∀ x ∈ left, lookI m x = lookI m0 x
  new : ∀ x v, lookI m x = some v → (lookI m0 x = some v ∧ (v ≠ .int .i64 d ∨ x ∈ left)) ∨ v = .int .i64 vars
  len : m.length = m0.length
theorem Walk.start (d vars : Int) (m : IMap Int) : Walk d vars m m (m.map (·.1)) :=
  ⟨fun _ => rfl, fun _ _ => rfl, fun x v h => Or.inl ⟨h, Or.inr (List.mem_map.2 ⟨_, lookI_mem h, rfl⟩)⟩, rfl⟩
section
variable {d vars : Int} {m0 m : IMap Int} {left left' : List Int}
theorem Walk.skip (h : Walk d vars m0 m left) {x : Int} {v : Value} (hx : lookI m x = some v) (hv : v ≠ .int .i64 d) (h1 : ∀ y ∈ left, y = x ∨ y ∈ left') (h2 : ∀ y ∈ left', y ∈ left) : Walk d vars m0 m left' := by
  refine ⟨h.keys, fun y hy => h.old y (h2 y hy), fun y u hu => ?_, h.len⟩
  rcases h.new y u hu with ⟨g1, g2⟩ | g
  · refine Or.inl ⟨g1, ?_⟩
    rcases g2 with g2 | g2
    · exact Or.inl g2
    · rcases h1 y g2 with e | g3
      · subst e
        rw [hx] at hu
        injection hu with hu
        exact Or.inl (hu ▸ hv)
      · exact Or.inr g3
  · exact Or.inr g
theorem Walk.put (h : Walk d vars m0 m left) {x : Int} (hx : (lookI m x).isSome = true) (h1 : ∀ y ∈ left, y = x ∨ y ∈ left') (h2 : ∀ y ∈ left', y ∈ left) (h3 : x ∉ left') : Walk d vars m0 (putI m x (.int .i64 vars)) left' := by
  refine ⟨fun y => ?_, fun y hy => ?_, fun y u hu => ?_, by rw [length_put _ hx, h.len]⟩
  · by_cases e : x = y
    · subst e
      rw [lookI_put_same, ← h.keys, hx]
      rfl
    · rw [lookI_put_other _ _ e]
      exact h.keys y
  · have e : x ≠ y := fun e => h3 (e ▸ hy)
    rw [lookI_put_other _ _ e]
    exact h.old y (h2 y hy)
  · by_cases e : x = y
    · subst e
      rw [lookI_put_same] at hu
      injection hu with hu
      exact Or.inr hu.symm
    · rw [lookI_put_other _ _ e] at hu
      rcases h.new y u hu with ⟨g1, g2⟩ | g
      · refine Or.inl ⟨g1, ?_⟩
        rcases g2 with g2 | g2
        · exact Or.inl g2
        · rcases h1 y g2 with e2 | g3
          · exact absurd e2.symm e
          · exact Or.inr g3
      · exact Or.inr g
theorem Walk.fin (h : Walk d vars m0 m []) : (∀ x, (lookI m x).isSome = (lookI m0 x).isSome) ∧ (∀ x v, lookI m x = some v → (lookI m0 x = some v ∧ v ≠ .int .i64 d) ∨ v = .int .i64 vars) ∧ m.length = m0.length :=
  ⟨h.keys, fun x v hx => by
    rcases h.new x v hx with ⟨g1, g2⟩ | g
    · rcases g2 with g2 | g2
      · exact Or.inl ⟨g1, g2⟩
      · cases g2
    · exact Or.inr g, h.len⟩
end
end Go.Proofs.YthgfdcoicihpdaaDoor

namespace Go.Proofs.YthgfdcoicihpdaaDoor
open Go.RowKit Go.Pst
set_option linter.unusedVariables false
set_option linter.unusedSimpArgs false

theorem Tryd.zero_intP (w : World) : (zeroValue 3).run Tryd.prog w = .ok (.int .i64 0) w := by kernel_rfl
/-- x waits for d. -/
def waitsB (m : IMap Int) (d x : Int) : Bool := match lookI m x with | some (.int .i64 a) => a == d | _ => false
theorem waitsB_iff (m : IMap Int) (d x : Int) : waitsB m d x = true ↔ lookI m x = some (.int .i64 d) := by
  unfold waitsB
  split
  · rename_i a e
    rw [e]
    simp
  · rename_i h
    constructor
    · intro e; cases e
    · intro e; exact absurd e (h d)
/-- Who is free is needed by none that waits. -/
theorem free_any {m : IMap Int} {d : Int} (h : FreeAt m d) (order : List Int) : order.any (waitsB m d) = false := by
  rw [List.any_eq_false]
  intro x _ e
  exact h.2 x ((waitsB_iff m d x).1 e)
theorem waits_any {m : IMap Int} {d x : Int} {bt bd mb : Nat} {w : World} (ht : w.cell? ⟨bt, 0, none⟩ = some (.map (some mb))) (hd : w.cell? ⟨bd, 0, none⟩ = some (.int .i64 d)) (hm : MapI w mb m) (hv : ∀ y v, lookI m y = some v → ∃ a, v = .int .i64 a ∧ InI a) (hdI : InI d) :
    Calls Tryd.prog 33 #[.int .i64 x, .pointer (some ⟨bt, 0, none⟩), .pointer (some ⟨bd, 0, none⟩)] w fun e w' => e = .returned (.bool (waitsB m d x)) ∧ Drawn w w' := by
  cases hl : lookI m x with
  | none =>
    have Hl := Lib.hid hl
    clear hl
    go_enter Tryd.func33, Tryd.ntmps33
    go_wp2_with (refine wpList_lookupI (κ := Int) rfl _ _ 56 true rfl Tryd.underlying56 Tryd.underlying3 (Tryd.zero_intP _) mb _ rfl hm x rfl ?_; rw [Hl.out]; simp only [Option.getD_none, Option.isSome_none])
    go_ret
    exact ⟨by unfold waitsB; rw [Hl.out]; simp, ⟨0, rfl⟩⟩
  | some v =>
    obtain ⟨a, rfl, ha⟩ := hv x v hl
    have Hl := Lib.hid hl
    clear hl
    by_cases e : a = d
    · subst e
      go_enter Tryd.func33, Tryd.ntmps33
      go_wp2_with (refine wpList_lookupI (κ := Int) rfl _ _ 56 true rfl Tryd.underlying56 Tryd.underlying3 (Tryd.zero_intP _) mb _ rfl hm x rfl ?_; rw [Hl.out]; simp only [Option.getD_some, Option.isSome_some])
      go_ret
      exact ⟨by unfold waitsB; rw [Hl.out]; simp, ⟨0, rfl⟩⟩
    · have e2 : ¬ (Value.int IntKind.i64 a = .int .i64 d) := fun h => e (by injection h)
      go_enter Tryd.func33, Tryd.ntmps33
      go_wp2_with (refine wpList_lookupI (κ := Int) rfl _ _ 56 true rfl Tryd.underlying56 Tryd.underlying3 (Tryd.zero_intP _) mb _ rfl hm x rfl ?_; rw [Hl.out]; simp only [Option.getD_some, Option.isSome_some])
      go_ret
      exact ⟨by unfold waitsB; rw [Hl.out]; simp, ⟨0, rfl⟩⟩
end Go.Proofs.YthgfdcoicihpdaaDoor

namespace Go.Proofs.YthgfdcoicihpdaaDoor
open Go.RowKit Go.Pst
set_option linter.unusedVariables false
set_option linter.unusedSimpArgs false

/-- While moves wait: which are left (todo), in which order. -/
structure PW (w : World) (m : IMap Int) (vOr : Value) (order : List Int) (wr : World) : Prop where
  map : MapI wr w.heap.size m
  box : wr.heap[w.heap.size + 1]? = some (.cells #[.map (some w.heap.size)] 56)
  ord : wr.ownsRow (w.heap.size + 2) 3 1 vOr order.length (order.map (Value.int .i64))
  bel : Below w.heap.size w wr
/-- What stays while moves are put in a row. -/
structure PB (w : World) (vOr : Value) (order : List Int) (lab : Nat → Nat) (wr : World) : Prop where
  box : wr.heap[w.heap.size + 1]? = some (.cells #[.map (some w.heap.size)] 56)
  ord : wr.ownsRow (w.heap.size + 2) 3 1 vOr order.length (order.map (Value.int .i64))
  l1 : lab w.heap.size = boxL
  l2 : lab (w.heap.size + 1) = boxL
  l3 : ∀ k, vOr.ownBlock = some k → lab k = 1
  new : ∀ k, wr.heap.size ≤ k → lab k = 0
  low : ∀ k, k < w.heap.size → lab k = 1
  bel : Below w.heap.size w wr
structure PL (w : World) (m : IMap Int) (vOr : Value) (order : List Int) (lab : Nat → Nat) (vOut : Value) (out : List PInstr) (xs : List Value) (wr : World) : Prop where
  b : PB w vOr order lab wr
  map : MapI wr w.heap.size m
  out_ : RowP lab wr (w.heap.size + 2) 0 vOut out xs
/-- While the map is walked through, by the iterator in block r. -/
structure PR (w : World) (r : Nat) (m : IMap Int) (left : List Int) (vOr : Value) (order : List Int) (lab : Nat → Nat) (vOut : Value) (out : List PInstr) (xs : List Value) (wr : World) : Prop where
  b : PB w vOr order lab wr
  map : RangeI wr w.heap.size r m left
  out_ : RowP lab wr (w.heap.size + 2) 0 vOut out xs
  lr : lab r = boxL
  rlo : w.heap.size ≤ r
section
variable {w wr w' : World} {m m' : IMap Int} {left left' : List Int} {vOr vOut : Value} {order : List Int} {lab lab' : Nat → Nat} {out : List PInstr} {xs : List Value} {r : Nat}
theorem PB.lt (h : PB w vOr order lab wr) : w.heap.size + 1 < wr.heap.size := (Array.getElem?_eq_some_iff.1 h.box).1
theorem PB.keep (h : PB w vOr order lab wr) (hsz : wr.heap.size ≤ w'.heap.size) (hk : ∀ k, k < wr.heap.size → (k = w.heap.size + 1 ∨ lab k = 1) → w'.heap[k]? = wr.heap[k]?) (hl : ∀ k, k < wr.heap.size → lab' k = lab k) (hnew : ∀ k, w'.heap.size ≤ k → lab' k = 0) (hbel : Below w.heap.size wr w') : PB w vOr order lab' w' :=
  ⟨(hk _ h.lt (Or.inl rfl)).trans h.box, ownsRow_block h.ord (fun k hkk => hk k (h.ord.lt k hkk).2 (Or.inr (h.l3 k hkk))), (hl _ (by have := h.lt; omega)).trans h.l1, (hl _ h.lt).trans h.l2, fun k hkk => (hl k (h.ord.lt k hkk).2).trans (h.l3 k hkk), hnew, fun k hk => (hl k (by have := h.lt; omega)).trans (h.low k hk), h.bel.trans hbel⟩
theorem PL.start (h : PW w m vOr order wr) : PL w m vOr order (fun k => if k = w.heap.size ∨ k = w.heap.size + 1 then boxL else if vOr.ownBlock = some k ∨ k < w.heap.size then 1 else 0) (.slice none 0 0) [] [] wr := by
  have hl := (Array.getElem?_eq_some_iff.1 h.box).1
  refine ⟨⟨h.box, h.ord, if_pos (Or.inl rfl), if_pos (Or.inr rfl), fun k hk => ?_, fun k hk => ?_, fun k hk => ?_, h.bel⟩, h.map, RowP.start _ _ _ _⟩
  · have := (h.ord.lt k hk).1
    show (if _ then _ else if _ then _ else _) = 1
    rw [if_neg (by omega), if_pos (Or.inl hk)]
  · show (if _ then _ else if _ then _ else _) = 0
    rw [if_neg (by omega), if_neg (fun e => by
      rcases e with e | e
      · have := (h.ord.lt k e).2; omega
      · omega)]
  · show (if _ then _ else if _ then _ else _) = 1
    rw [if_neg (by omega), if_pos (Or.inr hk)]
theorem PL.below (h : PL w m vOr order lab vOut out xs wr) (hb : Below wr.heap.size wr w') : PL w m vOr order lab vOut out xs w' :=
  ⟨h.b.keep hb.size (fun k hk _ => hb.block k hk) (fun _ _ => rfl) (fun k hk => h.b.new k (Nat.le_trans hb.size hk)) (hb.mono (by have := h.b.lt; omega)), h.map.heap (hb.block _ (by have := h.b.lt; omega)), h.out_.below hb⟩
theorem boxL_big : 3 < boxL := by decide
theorem PL.del (h : PL w m vOr order lab vOut out xs wr) (hm : MapI w' w.heap.size m') (hg : wr.grownBy w' (some w.heap.size)) (hz : w'.heap.size = wr.heap.size) : PL w m' vOr order lab vOut out xs w' := by
  have blk : ∀ k, k < wr.heap.size → k ≠ w.heap.size → w'.heap[k]? = wr.heap[k]? := fun k hk hne => hg.block k hk (fun e => by injection e with e; exact hne e)
  have hB := boxL_big
  refine ⟨h.b.keep (by omega) (fun k hk hc => blk k hk (fun e => ?_)) (fun _ _ => rfl) (fun k hk => h.b.new k (by omega)) ?_, hm, h.out_.keep (by omega) (fun k hk hc => blk k hk (fun e => ?_)) (fun _ _ => rfl)⟩
  · subst e
    have := h.b.l1
    omega
  · exact (Below.refl _ _).grown hg (by have := h.b.lt; omega) (fun k hk => by cases hk; exact Nat.le_refl _)
  · subst e
    have := h.b.l1
    omega
/-- One move more. -/
theorem PL.app {d a : Int} {w6 : World} {vOut' : Value} (h : PL w m vOr order lab vOut out xs wr) (hd : InI d) (ha : InI a)
    (hown : w6.ownsRow (w.heap.size + 2) 41 6 vOut' (out.length + 1) (xs ++ [.int .i64 2, .slice (some ⟨wr.heap.size, 0, none⟩) 1 1, .slice (some ⟨wr.heap.size + 1, 0, none⟩) 1 1, .int .i64 0, .string ⟨#[]⟩, .slice none 0 0]))
    (hg : (((wr.alloc (.cells #[.int .i64 d] 3)).alloc (.cells #[.int .i64 a] 3)).alloc (.cells #[.int .i64 2, .slice (some ⟨wr.heap.size, 0, none⟩) 1 1, .slice (some ⟨wr.heap.size + 1, 0, none⟩) 1 1, .int .i64 0, .string ⟨#[]⟩, .slice none 0 0] 41)).grownBy w6 vOut.ownBlock)
    (hat : vOut'.ownBlock = vOut.ownBlock ∨ ∃ g, vOut'.ownBlock = some g ∧ wr.heap.size + 2 ≤ g) :
    PL w m vOr order (relab lab vOut' 2) vOut' (out ++ [moveI d a]) (xs ++ [.int .i64 2, .slice (some ⟨wr.heap.size, 0, none⟩) 1 1, .slice (some ⟨wr.heap.size + 1, 0, none⟩) 1 1, .int .i64 0, .string ⟨#[]⟩, .slice none 0 0]) w6 := by
  have hB := boxL_big
  generalize hW1 : wr.alloc (.cells #[.int .i64 d] 3) = W1 at hg
  have z1 : W1.heap.size = wr.heap.size + 1 := by rw [← hW1]; simp
  have n1 : W1.heap[wr.heap.size]? = some (.cells #[.int .i64 d] 3) := by rw [← hW1]; exact heap_alloc_new _ _
  have b1 : Below wr.heap.size wr W1 := by rw [← hW1]; exact (Below.refl _ _).alloc (Nat.le_refl _) _
  generalize hW2 : W1.alloc (.cells #[.int .i64 a] 3) = W2 at hg
  have z2 : W2.heap.size = wr.heap.size + 2 := by rw [← hW2]; simp [z1]
  have n2 : W2.heap[wr.heap.size]? = some (.cells #[.int .i64 d] 3) := by rw [← hW2, Below.heap_alloc _ _ _ (by omega)]; exact n1
  have n3 : W2.heap[wr.heap.size + 1]? = some (.cells #[.int .i64 a] 3) := by rw [← hW2, ← z1]; exact heap_alloc_new _ _
  have b2 : Below wr.heap.size wr W2 := by rw [← hW2]; exact b1.alloc (by omega) _
  clear hW1 hW2 n1 z1 b1
  have h2 := h.below b2
  have hl0 : lab wr.heap.size = 0 := h.b.new _ (Nat.le_refl _)
  have hl1 : lab (wr.heap.size + 1) = 0 := h.b.new _ (by omega)
  have one : ∀ {k : Nat} {x : Int}, W2.heap[k]? = some (.cells #[.int .i64 x] 3) → InI x → k < W2.heap.size → lab k = 0 → rInts (fun m => lab m = 0) W2 [.slice (some ⟨k, 0, none⟩) 1 1] [x] := fun {k x} hk hx hlt hl => by
    refine ⟨some ⟨k, 0, none⟩, 1, rfl, by simp, by decide, fun i hi => ?_⟩
    obtain rfl : i = 0 := by simpa using hi
    refine ⟨k, 0, [.int .i64 x], rfl, hl, hlt, rfl, fun j hj => ?_, rfl, hx⟩
    obtain rfl : j = 0 := by omega
    simp [World.cell?, hk]
  have hx : instrV lab W2 0 [.int .i64 (moveI d a).op, .slice (some ⟨wr.heap.size, 0, none⟩) 1 1, .slice (some ⟨wr.heap.size + 1, 0, none⟩) 1 1, .int .i64 (moveI d a).n, .string (moveI d a).s, .slice none 0 0] 0 (moveI d a) :=
    ⟨_, _, _, rfl, rfl, rfl, rfl, rfl, rfl, ⟨by simp [moveI, InI], by simp [moveI, InI], by simp [moveI, maxLen]⟩, one n2 hd (by omega) hl0, one n3 ha (by omega) hl1, none, 0, rfl, by simp [moveI], by decide, fun i hi => absurd hi (by simp [moveI])⟩
  have hat2 : vOut'.ownBlock = vOut.ownBlock ∨ ∃ g, vOut'.ownBlock = some g ∧ W2.heap.size ≤ g := by rw [z2]; exact hat
  have hA := h2.out_.app hx hown hg hat2
  have hl6 : ∀ k, k < W2.heap.size → relab lab vOut' 2 k = lab k := fun k hk => relab_old h2.out_.lab_ hat2 hk
  have oth : ∀ k, k < W2.heap.size → lab k ≠ 2 → w6.heap[k]? = W2.heap[k]? := fun k hk hne => grown_other hg hk (fun e => hne (h2.out_.lab_ k e))
  have hb6 : Below (w.heap.size + 2) W2 w6 := append_below h2.out_.own hg (by have := h2.b.lt; omega)
  refine ⟨h2.b.keep hb6.size (fun k hk hc => oth k hk (fun e => ?_)) hl6 (fun k hk => relab_new hown (fun _ _ _ => trivial) (fun k hk => h2.b.new k (by have := hb6.size; omega)) k hk) (hb6.mono (by omega)), h2.map.heap (oth _ (by have := h2.b.lt; omega) (by rw [h2.b.l1]; omega)), hA⟩
  rcases hc with hc | hc
  · subst hc
    have := h2.b.l2
    omega
  · omega
theorem PL.boxed {w3 w6 : World} {o1 o2 o3 : Obj} (h : PL w m vOr order lab vOut out xs w3) (hg : (((w3.alloc o1).alloc o2).alloc o3).grownBy w6 vOut.ownBlock) {k : Nat} (hk : k < w3.heap.size) (h0 : lab k = 0) {v : Value} (hc : w3.cell? ⟨k, 0, none⟩ = some v) : w6.cell? ⟨k, 0, none⟩ = some v ∧ w3.heap.size ≤ w6.heap.size := by
  refine ⟨(World.cell?_of_block (a := ⟨k, 0, none⟩) ((grown_other hg (by simp; omega) (fun e => ?_)).trans ((Below.heap_alloc _ _ _ (by simp; omega)).trans (Below.heap_alloc _ _ _ hk)))).trans hc, ?_⟩
  · have h9 := h.out_.lab_ k e
    rw [h0] at h9
    cases h9
  · have h := hg.size
    simp at h
    omega
/-- What came out, read. -/
theorem PL.reads (h : PL w m vOr order lab vOut out xs wr) : rBlock (fun k => w.heap.size ≤ k) wr [vOut] out := by
  by_cases h0 : 0 < out.length
  · obtain ⟨r, cap, h1, h2, h3, h4, h5, h6, h7⟩ := h.out_.done h0
    have low : ∀ k, lab k ≠ 1 → w.heap.size ≤ k := fun k hk => by
      rcases Nat.lt_or_ge k w.heap.size with e | e
      · exact absurd (h.b.low k e) hk
      · exact e
    refine ⟨some ⟨r, 0, none⟩, cap, by rw [h1], h2, h3, fun k hk => ?_⟩
    obtain ⟨v1, v2, v5, c0, c1, c2, c3, c4, c5, hI, r1, r2, r5⟩ := h7 k hk
    refine ⟨r, 0, [.int .i64 out[k].op, v1, v2, .int .i64 out[k].n, .string out[k].s, v5], rfl, low r (by omega), h5, rfl, fun j hj => ?_, v1, v2, v5, rfl, hI, Good.wide (R := rInts) r1 (fun k _ e => low k (by omega)), Good.wide (R := rInts) r2 (fun k _ e => low k (by omega)), Good.wide (R := rInts) r5 (fun k _ e => low k (by omega))⟩
    rw [Nat.zero_add]
    rcases (show j = 0 ∨ j = 1 ∨ j = 2 ∨ j = 3 ∨ j = 4 ∨ j = 5 by omega) with rfl | rfl | rfl | rfl | rfl | rfl
    · exact c0
    · exact c1
    · exact c2
    · exact c3
    · exact c4
    · exact c5
  · obtain ⟨a, cap, h1, h2, h3⟩ := row_slice h.out_.own
    exact ⟨a, cap, by rw [h1], h2, h3, fun k hk => absurd hk (by omega)⟩
/-- The map is walked through. -/
theorem PR.start (h : PL w m vOr order lab vOut out xs wr) (hm : RangeI w' w.heap.size wr.heap.size m left) (hg : wr.grownBy w' none) (hz : w'.heap.size = wr.heap.size + 1) : PR w wr.heap.size m left vOr order (fun k => if k = wr.heap.size then boxL else lab k) vOut out xs w' := by
  have hl : ∀ k, k < wr.heap.size → (if k = wr.heap.size then boxL else lab k) = lab k := fun k hk => if_neg (by omega)
  have blk : ∀ k, k < wr.heap.size → w'.heap[k]? = wr.heap[k]? := fun k hk => hg.block k hk (fun e => by cases e)
  exact ⟨h.b.keep (by omega) (fun k hk _ => blk k hk) hl (fun k hk => (if_neg (by omega)).trans (h.b.new k (by omega))) ((Below.refl _ _).grown hg (by have := h.b.lt; omega) (fun k hk => by cases hk)), hm, h.out_.keep (by omega) (fun k hk _ => blk k hk) hl, if_pos rfl, by have := h.b.lt; omega⟩
theorem PR.turn {b : Nat} (h : PR w r m left vOr order lab vOut out xs wr) (hb : b = r ∨ b = w.heap.size) (hm : RangeI w' w.heap.size r m' left') (hg : wr.grownBy w' (some b)) (hz : wr.heap.size ≤ w'.heap.size) : PR w r m' left' vOr order lab vOut out xs w' := by
  have hB := boxL_big
  have lb : lab b = boxL := by rcases hb with e | e; rw [e]; exact h.lr; rw [e]; exact h.b.l1
  have hne : b ≠ w.heap.size + 1 := fun e => by
    rcases hb with e1 | e1
    · have h1 := h.b.box
      obtain ⟨_, _, _, _, _, _, _, _, h4, _⟩ := h.map
      rw [← e, e1, h4] at h1
      cases h1
    · omega
  have blo : w.heap.size ≤ b := by rcases hb with e | e; rw [e]; exact h.rlo; omega
  have blk : ∀ k, k < wr.heap.size → k ≠ b → w'.heap[k]? = wr.heap[k]? := fun k hk hne => hg.block k hk (fun e => by injection e with e; exact hne e)
  refine ⟨h.b.keep hz (fun k hk hc => blk k hk (fun e => ?_)) (fun _ _ => rfl) (fun k hk => h.b.new k (by omega)) ((Below.refl _ _).grown hg (by have := h.b.lt; omega) (fun k hk => by cases hk; exact blo)), hm, h.out_.keep hz (fun k hk hc => blk k hk (fun e => ?_)) (fun _ _ => rfl), h.lr, h.rlo⟩
  · subst e
    rcases hc with hc | hc
    · exact hne hc
    · omega
  · subst e
    omega
theorem PR.done (h : PR w r m left vOr order lab vOut out xs wr) : PL w m vOr order lab vOut out xs wr := ⟨h.b, h.map.mapI, h.out_⟩
end
end Go.Proofs.YthgfdcoicihpdaaDoor

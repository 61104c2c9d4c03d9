/-
  Plain laws on memory, for any program: a map whose keys are ints or strings, as a list of pairs (keys apart); look-up, store, delete, length, at whatever elements.
-/
import Derived.Test.YthgfdcoicihpdaaDoorMem
import Derived.Maps.OwnSet
namespace Go.Pst
open Go.RowKit Go.MapKept Go.ChangeMaps
set_option linter.unusedVariables false
set_option linter.unusedSimpArgs false
set_option linter.unusedSectionVars false

/-- What may be a key here: an int, a string. -/
class MKey (κ : Type) where
  val : κ → Value
  desc : TypeDesc
  same : ∀ [DecidableEq κ] (a b : κ), Instr.sameNow desc (val a) (val b) = some (decide (a = b))
  isKey : ∀ a, IsKey desc (val a)
  bits : ∀ a, Instr.sameBits 10000 (val a) (val a) = true
  inj : ∀ a b, val a = val b → a = b
instance : MKey Int where
  val := Value.int .i64
  desc := .int .i64
  same := fun a b => by simp only [Instr.sameNow, if_true]; congr 1; by_cases h : a = b <;> simp [h]
  isKey := fun a => by simp [IsKey]
  bits := fun a => by unfold Instr.sameBits; simp
  inj := fun a b h => by simpa using h
instance : MKey ByteArray where
  val := Value.string
  desc := .string
  same := fun a b => by
    simp only [Instr.sameNow]; congr 1
    by_cases h : a = b
    · simp [h, (bytes_beq b b).2 rfl]
    · simp only [h, decide_false]
      cases hb : (a == b) with
      | false => rfl
      | true => exact absurd ((bytes_beq a b).1 hb) h
  isKey := fun a => by simp [IsKey]
  bits := fun a => by unfold Instr.sameBits; exact (bytes_beq a a).2 rfl
  inj := fun a b h => by simpa using h

variable {κ : Type} [DecidableEq κ] [MKey κ]
/-- Keys and elements, in the order in which they came. -/
abbrev IMap (κ : Type) := List (κ × Value)
def entI (m : IMap κ) : List (Value × Value) := m.map fun p => (MKey.val p.1, p.2)
/-- Block b is a map that holds m. -/
def MapI (w : World) (b : Nat) (m : IMap κ) : Prop :=
  ∃ es clock, w.heap[b]? = some (.map es clock) ∧ Stamped es clock ∧ es.toList.map (fun e => (e.key, e.val)) = entI m

def lookI : IMap κ → κ → Option Value
  | [], _ => none
  | (k, v) :: r, x => if k = x then some v else lookI r x
def putI : IMap κ → κ → Value → IMap κ
  | [], x, v => [(x, v)]
  | (k, u) :: r, x, v => if k = x then (k, v) :: r else (k, u) :: putI r x v
def delI : IMap κ → κ → IMap κ
  | [], _ => []
  | (k, u) :: r, x => if k = x then r else (k, u) :: delI r x

theorem lookI_put_same (m : IMap κ) (x : κ) (v : Value) : lookI (putI m x v) x = some v := by
  induction m with
  | nil => simp [putI, lookI]
  | cons p r ih =>
    obtain ⟨k, u⟩ := p
    unfold putI
    by_cases h : k = x
    · simp [h, lookI]
    · simp [h, lookI, ih]
theorem lookI_put_other (m : IMap κ) {x y : κ} (v : Value) (h : x ≠ y) : lookI (putI m x v) y = lookI m y := by
  induction m with
  | nil => simp [putI, lookI, h]
  | cons p r ih =>
    obtain ⟨k, u⟩ := p
    unfold putI
    by_cases hk : k = x
    · subst hk; simp [lookI, h]
    · by_cases hy : k = y
      · subst hy; simp [hk, lookI]
      · simp [hk, lookI, hy, ih]

theorem MapI.lt {w : World} {b : Nat} {m : IMap κ} (h : MapI w b m) : b < w.heap.size := by
  obtain ⟨es, clock, hb, _⟩ := h
  exact (Array.getElem?_eq_some_iff.1 hb).1
theorem MapI.keys {w : World} {b : Nat} {m : IMap κ} (h : MapI w b m) : (m.map (·.1)).Nodup := by
  obtain ⟨es, clock, _, ⟨_, _, h3⟩, hm⟩ := h
  have e : es.toList.map (·.key) = (m.map (·.1)).map MKey.val := by
    have := congrArg (List.map Prod.fst) hm
    simpa [entI, Function.comp_def] using this
  rw [e] at h3
  rw [List.nodup_iff_pairwise_ne] at h3 ⊢
  rw [List.pairwise_map] at h3
  exact h3.imp fun hne e => hne (by rw [e])
theorem MapI.heap {w w' : World} {b : Nat} {m : IMap κ} (h : MapI w b m) (e : w'.heap[b]? = w.heap[b]?) : MapI w' b m := by
  obtain ⟨es, clock, hb, r⟩ := h
  exact ⟨es, clock, e.trans hb, r⟩
theorem MapI.kept {w w' : World} {b : Nat} {m : IMap κ} {row : Option Nat} (h : MapI w b m) (hg : w.grownBy w' row) (hne : some b ≠ row) : MapI w' b m :=
  h.heap (hg.block b h.lt hne)
theorem MapI.alloc {w : World} {b : Nat} {m : IMap κ} (h : MapI w b m) (o : Obj) : MapI (w.alloc o) b m := h.kept (World.grownBy_alloc w o none) (by simp)
theorem MapI.drew {w : World} {b : Nat} {m : IMap κ} (h : MapI w b m) : MapI w.drew b m := h
theorem MapI.below {w w' : World} {B b : Nat} {m : IMap κ} (h : MapI w b m) (hb : Below B w w') (hlt : b < B) : MapI w' b m := h.heap (hb.block b hlt)
theorem MapI.setCell {w : World} {b : Nat} {m : IMap κ} (h : MapI w b m) {a : Addr} (ha : b ≠ a.block) (u : Value) : MapI (w.setCell a u) b m :=
  h.heap (Below.heap_setCell _ _ _ _ ha)
theorem MapI.made (κ : Type) [DecidableEq κ] [MKey κ] (w : World) : MapI (w.alloc (.map #[] 0)) w.heap.size ([] : IMap κ) :=
  ⟨#[], 0, (MapKept.heap_alloc w _).1, stamped_empty 0, rfl⟩

section
variable {P : Program} {w : World} {b : Nat} {m : IMap κ} {t kt et : TypeId}

theorem find_I : ∀ (l : List MapEntry) (m : IMap κ) (i : Nat) (x : κ), l.map (fun e => (e.key, e.val)) = entI m →
    (Instr.findNow (MKey.desc κ) (MKey.val x) l i = some none ∧ lookI m x = none ∧ delI m x = m ∧ (∀ v, putI m x v = m ++ [(x, v)]) ∧ (∀ e ∈ l, e.key ≠ MKey.val x)) ∨
    ∃ j e v, Instr.findNow (MKey.desc κ) (MKey.val x) l i = some (some (i + j, v)) ∧ lookI m x = some v ∧ l[j]? = some e ∧ e.key = MKey.val x ∧ e.val = v ∧ delI m x = m.eraseIdx j ∧ (∀ u, putI m x u = m.modify j fun p => (p.1, u))
  | [], m, i, x, h => by
    have : m = [] := by cases m with | nil => rfl | cons p r => simp [entI] at h
    subst this
    exact .inl ⟨rfl, rfl, rfl, fun _ => rfl, by simp⟩
  | e :: l, [], i, x, h => by simp [entI] at h
  | e :: l, (k, u) :: r, i, x, h => by
    simp only [List.map_cons, entI, List.cons.injEq, Prod.mk.injEq] at h
    obtain ⟨⟨hk, hu⟩, hr⟩ := h
    by_cases hx : k = x
    · subst hx
      exact .inr ⟨0, e, u, by simp [Instr.findNow, MKey.same, hk, hu], by simp [lookI], rfl, hk, hu, by simp [delI], fun v => by simp [putI]⟩
    · have hx' : decide (x = k) = false := by simpa using fun e => hx e.symm
      rcases find_I l r (i + 1) x hr with ⟨h1, h2, h3, h4, h5⟩ | ⟨j, e', v, h1, h2, h3, h4, h5, h6, h7⟩
      · refine .inl ⟨by simp [Instr.findNow, MKey.same, hk, hx', h1], by simp [lookI, hx, h2], by simp [delI, hx, h3], fun v => by simp [putI, hx, h4], ?_⟩
        intro y hy
        rcases List.mem_cons.1 hy with rfl | hy
        · rw [hk]; exact fun e => hx (MKey.inj _ _ e)
        · exact h5 y hy
      · exact .inr ⟨j + 1, e', v, by simp [Instr.findNow, MKey.same, hk, hx', h1]; omega, by simp [lookI, hx, h2], by simpa using h3, h4, h5, by simp [delI, hx, h6], fun v => by simp [putI, hx, h7]⟩

theorem isKey_int (x : κ) : IsKey (MKey.desc κ) (MKey.val x) := MKey.isKey x

/-- 'm[k]', 'v, ok := m[k]'. -/
theorem MapI.lookup (h : MapI w b m) (ht : P.underlying t = some (.map kt et)) (hk : P.underlying kt = some (MKey.desc κ)) {z : Value} (hz : (zeroValue et).run P w = .ok z w) (x : κ) (ok : Bool) :
    (Instr.lookup t (.map (some b)) (MKey.val x) ok).run P w = .ok (if ok then .tuple #[(lookI m x).getD z, .bool (lookI m x).isSome] else (lookI m x).getD z) w := by
  obtain ⟨es, clock, hb, hs, hm⟩ := h
  unfold Instr.lookup
  rcases find_I es.toList m 0 x hm with ⟨h1, h2, _⟩ | ⟨j, e, v, h1, h2, _⟩
  · simp [run_underlying ht, Result.andThen, MapKept.run_getObj_map hb, MapKept.run_checkKey hk (isKey_int x), run_findKey hk h1, hz, h2]
  · simp [run_underlying ht, Result.andThen, MapKept.run_getObj_map hb, MapKept.run_checkKey hk (isKey_int x), run_findKey hk h1, h2]
theorem lookup_nilI (ht : P.underlying t = some (.map kt et)) (hk : P.underlying kt = some (MKey.desc κ)) {z : Value} (hz : (zeroValue et).run P w = .ok z w) (x : κ) (ok : Bool) :
    (Instr.lookup t (.map none) (MKey.val x) ok).run P w = .ok (if ok then .tuple #[z, .bool false] else z) w := by
  unfold Instr.lookup
  have h1 : Instr.findNow (MKey.desc κ) (MKey.val x) [] 0 = some none := rfl
  simp [run_underlying ht, Result.andThen, MapKept.run_checkKey hk (isKey_int x), run_findKey hk h1, hz]

theorem sameBits_int (x : κ) : Instr.sameBits 10000 (MKey.val x) (MKey.val x) = true := MKey.bits x
theorem run_keyThatStays (x : κ) : (Instr.keyThatStays (MKey.val x) (MKey.val x)).run P w = .ok (MKey.val x) w := by
  unfold Instr.keyThatStays
  rw [sameBits_int]
  rfl

/-- 'm[k] = v'. -/
theorem MapI.update (h : MapI w b m) (ht : P.underlying t = some (.map kt et)) (hk : P.underlying kt = some (MKey.desc κ)) (x : κ) (v : Value) :
    ∃ w', (Instr.mapUpdate t (.map (some b)) (MKey.val x) v).run P w = .ok () w' ∧ MapI w' b (putI m x v) ∧ w.grownBy w' (some b) := by
  obtain ⟨es, clock, hb, hs, hm⟩ := h
  have grow : ∀ o, w.grownBy { w with heap := w.heap.setIfInBounds b o } (some b) := fun o =>
    ⟨rfl, rfl, rfl, by simp, fun i _ hi => (heap_set (o' := o) hb).2 i (fun e => hi (by rw [e]))⟩
  unfold Instr.mapUpdate
  rcases find_I es.toList m 0 x hm with ⟨h1, h2, _, h4, h5⟩ | ⟨j, e, u, h1, h2, h3, h4, h5, _, h7⟩
  · refine ⟨{ w with heap := w.heap.setIfInBounds b (.map (es.push { key := MKey.val x, val := v, born := clock }) (clock + 1)) }, ?_, ⟨_, _, (heap_set hb).1, ?_, ?_⟩, grow _⟩
    · simp [run_underlying ht, Result.andThen, MapKept.run_getObj_map hb, MapKept.run_checkKey hk (isKey_int x), run_findKey hk h1, run_setObj_map _ hb]
    · obtain ⟨s1, s2, s3⟩ := hs
      refine ⟨?_, ?_, ?_⟩
      · intro y hy
        simp only [Array.toList_push, List.mem_append, List.mem_singleton] at hy
        rcases hy with hy | rfl
        · exact Nat.lt_succ_of_lt (s1 y hy)
        · exact Nat.lt_succ_self _
      · simp only [Array.toList_push, List.map_append, List.map_cons, List.map_nil]
        rw [List.nodup_append]
        refine ⟨s2, by simp, fun a ha c hc e => ?_⟩
        obtain ⟨y, hy, rfl⟩ := List.mem_map.1 ha
        simp only [List.mem_singleton] at hc
        have := s1 y hy
        omega
      · simp only [Array.toList_push, List.map_append, List.map_cons, List.map_nil]
        rw [List.nodup_append]
        refine ⟨s3, by simp, fun a ha c hc e => ?_⟩
        obtain ⟨y, hy, rfl⟩ := List.mem_map.1 ha
        simp only [List.mem_singleton] at hc
        exact h5 y hy (e.trans hc)
    · rw [h4]
      simp [hm, entI]
  · have hj : j < es.size := by
      have := (List.getElem?_eq_some_iff.1 h3).1
      simpa using this
    have hej : es[j]? = some e := by simpa using h3
    refine ⟨{ w with heap := w.heap.setIfInBounds b (.map (es.modify j fun e => { e with key := MKey.val x, val := v }) clock) }, ?_, ⟨_, _, (heap_set hb).1, ?_, ?_⟩, grow _⟩
    · simp [run_underlying ht, Result.andThen, MapKept.run_getObj_map hb, MapKept.run_checkKey hk (isKey_int x), run_findKey hk h1, hej, h4, run_keyThatStays, run_setObj_map _ hb]
    · obtain ⟨s1, s2, s3⟩ := hs
      have hl : (es.modify j fun e => { e with key := MKey.val x, val := v }).toList = es.toList.modify j fun e => { e with key := MKey.val x, val := v } := by simp
      have keys : ∀ (f : MapEntry → Value) (g : MapEntry → Nat) (l : List MapEntry) (j : Nat), (l[j]?.map (·.key) = some (MKey.val x)) → (l.modify j fun e => { e with key := MKey.val x, val := v }).map (·.key) = l.map (·.key) ∧ (l.modify j fun e => { e with key := MKey.val x, val := v }).map (·.born) = l.map (·.born) := by
        intro f g l
        induction l with
        | nil => intro j h; simp at h
        | cons y r ih =>
          intro j h
          rcases j with _ | j
          · simp at h ⊢; exact h.symm
          · simp at h ⊢
            exact ih j (by simpa using h)
      obtain ⟨k1, k2⟩ := keys (·.key) (·.born) es.toList j (by rw [h3]; simp [h4])
      refine ⟨?_, by rw [hl, k2]; exact s2, by rw [hl, k1]; exact s3⟩
      intro y hy
      rw [hl] at hy
      have : y.born ∈ (es.toList.modify j fun e => { e with key := MKey.val x, val := v }).map (·.born) := List.mem_map.2 ⟨y, hy, rfl⟩
      rw [k2] at this
      obtain ⟨z, hz, hzb⟩ := List.mem_map.1 this
      rw [← hzb]
      exact s1 z hz
    · have gen : ∀ (l : List MapEntry) (m : IMap κ) (j : Nat), l.map (fun e => (e.key, e.val)) = entI m → (l[j]?.map (·.key) = some (MKey.val x)) → (l.modify j fun e => { e with key := MKey.val x, val := v }).map (fun e => (e.key, e.val)) = entI (m.modify j fun p => (p.1, v)) := by
        intro l
        induction l with
        | nil => intro m j _ h; simp at h
        | cons y r ih =>
          intro m j hm h
          cases m with
          | nil => simp [entI] at hm
          | cons p q =>
            simp only [List.map_cons, entI, List.cons.injEq, Prod.mk.injEq] at hm
            rcases j with _ | j
            · simp at h
              simp [entI, hm.2, ← hm.1.1, h]
            · simp at h
              have := ih q j hm.2 (by simpa using h)
              simp [entI, hm.1] at this ⊢
              exact this
      rw [h7]
      have hl : (es.modify j fun e => { e with key := MKey.val x, val := v }).toList = es.toList.modify j fun e => { e with key := MKey.val x, val := v } := by simp
      rw [hl]
      exact gen _ _ _ hm (by rw [h3]; simp [h4])

/-- The walk's law at 'm[k] = v'. -/
theorem wpList_updateI {ops : Array Oper} {rest : List Oper} {o : Oper} {a : Act} {Q : Exit → Act → World → Prop}
    (hg : o.guard = none) (mo xo vo : Operand) (t : TypeId) (hop : o.op = Op.mapUpdate t mo xo vo) {kt et : TypeId} (ht : P.underlying t = some (.map kt et)) (hk : P.underlying kt = some (MKey.desc κ))
    (b : Nat) (m : IMap κ) (hm : a.eval mo = .map (some b)) (h : MapI w b m) (x : κ) (v : Value) (hx : a.eval xo = MKey.val x) (hv : a.eval vo = v)
    (hK : ∀ w', MapI w' b (putI m x v) → w.grownBy w' (some b) → wpList P ops Q rest (a.put o.dst undef) w') : wpList P ops Q (o :: rest) a w := by
  refine wpList_plain hg fun K' hK' => ?_
  obtain ⟨w', hrun, r1, r2⟩ := h.update ht hk x v
  unfold Oper.wp
  simp [execOp, hop, hm, hx, hv, hrun, Result.andThen]
  exact hK' _ _ (hK w' r1 r2)
/-- .. at an entry of a map's literal. -/
theorem wpList_insertI {ops : Array Oper} {rest : List Oper} {o : Oper} {a : Act} {Q : Exit → Act → World → Prop}
    (hg : o.guard = none) (mo xo vo : Operand) (t : TypeId) (hop : o.op = Op.insert t mo xo vo) {kt et : TypeId} (ht : P.underlying t = some (.map kt et)) (hk : P.underlying kt = some (MKey.desc κ))
    (b : Nat) (m : IMap κ) (hm : a.eval mo = .map (some b)) (h : MapI w b m) (x : κ) (v : Value) (hx : a.eval xo = MKey.val x) (hv : a.eval vo = v)
    (hK : ∀ w', MapI w' b (putI m x v) → w.grownBy w' (some b) → wpList P ops Q rest (a.put o.dst undef) w') : wpList P ops Q (o :: rest) a w := by
  refine wpList_plain hg fun K' hK' => ?_
  obtain ⟨w', hrun, r1, r2⟩ := h.update ht hk x v
  unfold Oper.wp
  simp [execOp, hop, hm, hx, hv, hrun, Result.andThen]
  exact hK' _ _ (hK w' r1 r2)
/-- The walk's law at 'm[k]', 'v, ok := m[k]'. -/
theorem wpList_lookupI {ops : Array Oper} {rest : List Oper} {o : Oper} {a : Act} {Q : Exit → Act → World → Prop}
    (hg : o.guard = none) (mo xo : Operand) (t : TypeId) (ok : Bool) (hop : o.op = Op.lookup t mo xo ok) {kt et : TypeId} (ht : P.underlying t = some (.map kt et)) (hk : P.underlying kt = some (MKey.desc κ))
    {z : Value} (hz : (zeroValue et).run P w = .ok z w) (b : Nat) (m : IMap κ) (hm : a.eval mo = .map (some b)) (h : MapI w b m) (x : κ) (hx : a.eval xo = MKey.val x)
    (hK : wpList P ops Q rest (a.put o.dst (if ok then .tuple #[(lookI m x).getD z, .bool (lookI m x).isSome] else (lookI m x).getD z)) w) : wpList P ops Q (o :: rest) a w := by
  refine wpList_plain hg fun K' hK' => ?_
  have hrun := h.lookup ht hk hz x ok
  unfold Oper.wp
  simp [execOp, hop, hm, hx, hrun, Result.andThen]
  exact hK' _ _ hK
end
end Go.Pst

/-
  Texts joined: IMap Idx Funcs IrLaid IrInvoke VmRules VmInvoke.
-/
import Derived.Test.YtaomlfbcfmmhlaaDoorVA
import Derived.Maps.OwnSet
import Derived.Test.YtaomlfbcfmmhlaaDoorRows
import Derived.Test.YtaomlfbcfmmhlaaDoorVF

/-
  Plain laws on memory, for any program: a map whose keys are ints or strings, as a list of pairs (keys apart); look-up, store, delete, length, at whatever elements.
-/
namespace Go.Pst
open Go.RowKit Go.MapKept Go.ChangeMaps
set_option linter.unusedVariables false
set_option linter.unusedSimpArgs false
set_option linter.unusedSectionVars false

/-- What may be a key here: an int, a string. -/
class MKey (κ : Type) where
  val : κ → Value
  desc : TypeDesc
  same : ∀ [DecidableEq κ] (a b : κ), Instr.sameNow desc (val a) (val b) = some (decide (a = b))
  isKey : ∀ a, IsKey desc (val a)
  bits : ∀ a, Instr.sameBits 10000 (val a) (val a) = true
  inj : ∀ a b, val a = val b → a = b
instance : MKey Int where
  val := Value.int .i64
  desc := .int .i64
  same := fun a b => by simp only [Instr.sameNow, if_true]; congr 1; by_cases h : a = b <;> simp [h]
  isKey := fun a => by simp [IsKey]
  bits := fun a => by unfold Instr.sameBits; simp
  inj := fun a b h => by simpa using h
instance : MKey ByteArray where
  val := Value.string
  desc := .string
  same := fun a b => by
    simp only [Instr.sameNow]; congr 1
    by_cases h : a = b
    · simp [h, (bytes_beq b b).2 rfl]
    · simp only [h, decide_false]
      cases hb : (a == b) with
      | false => rfl
      | true => exact absurd ((bytes_beq a b).1 hb) h
  isKey := fun a => by simp [IsKey]
  bits := fun a => by unfold Instr.sameBits; exact (bytes_beq a a).2 rfl
  inj := fun a b h => by simpa using h

variable {κ : Type} [DecidableEq κ] [MKey κ]
/-- Keys and elements, in the order in which they came. -/
abbrev IMap (κ : Type) := List (κ × Value)
def entI (m : IMap κ) : List (Value × Value) := m.map fun p => (MKey.val p.1, p.2)
/-- Block b is a map that holds m. -/
def MapI (w : World) (b : Nat) (m : IMap κ) : Prop :=
  ∃ es clock, w.heap[b]? = some (.map es clock) ∧ Stamped es clock ∧ es.toList.map (fun e => (e.key, e.val)) = entI m

def lookI : IMap κ → κ → Option Value
  | [], _ => none
  | (k, v) :: r, x => if k = x then some v else lookI r x
def putI : IMap κ → κ → Value → IMap κ
  | [], x, v => [(x, v)]
  | (k, u) :: r, x, v => if k = x then (k, v) :: r else (k, u) :: putI r x v
def delI : IMap κ → κ → IMap κ
  | [], _ => []
  | (k, u) :: r, x => if k = x then r else (k, u) :: delI r x

theorem lookI_put_same (m : IMap κ) (x : κ) (v : Value) : lookI (putI m x v) x = some v := by
  induction m with
  | nil => simp [putI, lookI]
  | cons p r ih =>
    obtain ⟨k, u⟩ := p
    unfold putI
    by_cases h : k = x
    · simp [h, lookI]
    · simp [h, lookI, ih]
theorem lookI_put_other (m : IMap κ) {x y : κ} (v : Value) (h : x ≠ y) : lookI (putI m x v) y = lookI m y := by
  induction m with
  | nil => simp [putI, lookI, h]
  | cons p r ih =>
    obtain ⟨k, u⟩ := p
    unfold putI
    by_cases hk : k = x
    · subst hk; simp [lookI, h]
    · by_cases hy : k = y
      · subst hy; simp [hk, lookI]
      · simp [hk, lookI, hy, ih]

theorem MapI.lt {w : World} {b : Nat} {m : IMap κ} (h : MapI w b m) : b < w.heap.size := by
  obtain ⟨es, clock, hb, _⟩ := h
  exact (Array.getElem?_eq_some_iff.1 hb).1
theorem MapI.keys {w : World} {b : Nat} {m : IMap κ} (h : MapI w b m) : (m.map (·.1)).Nodup := by
  obtain ⟨es, clock, _, ⟨_, _, h3⟩, hm⟩ := h
  have e : es.toList.map (·.key) = (m.map (·.1)).map MKey.val := by
    have := congrArg (List.map Prod.fst) hm
    simpa [entI, Function.comp_def] using this
  rw [e] at h3
  rw [List.nodup_iff_pairwise_ne] at h3 ⊢
  rw [List.pairwise_map] at h3
  exact h3.imp fun hne e => hne (by rw [e])
theorem MapI.heap {w w' : World} {b : Nat} {m : IMap κ} (h : MapI w b m) (e : w'.heap[b]? = w.heap[b]?) : MapI w' b m := by
  obtain ⟨es, clock, hb, r⟩ := h
  exact ⟨es, clock, e.trans hb, r⟩
theorem MapI.kept {w w' : World} {b : Nat} {m : IMap κ} {row : Option Nat} (h : MapI w b m) (hg : w.grownBy w' row) (hne : some b ≠ row) : MapI w' b m :=
  h.heap (hg.block b h.lt hne)
theorem MapI.alloc {w : World} {b : Nat} {m : IMap κ} (h : MapI w b m) (o : Obj) : MapI (w.alloc o) b m := h.kept (World.grownBy_alloc w o none) (by simp)
theorem MapI.drew {w : World} {b : Nat} {m : IMap κ} (h : MapI w b m) : MapI w.drew b m := h
theorem MapI.below {w w' : World} {B b : Nat} {m : IMap κ} (h : MapI w b m) (hb : Below B w w') (hlt : b < B) : MapI w' b m := h.heap (hb.block b hlt)
theorem MapI.setCell {w : World} {b : Nat} {m : IMap κ} (h : MapI w b m) {a : Addr} (ha : b ≠ a.block) (u : Value) : MapI (w.setCell a u) b m :=
  h.heap (Below.heap_setCell _ _ _ _ ha)
theorem MapI.made (κ : Type) [DecidableEq κ] [MKey κ] (w : World) : MapI (w.alloc (.map #[] 0)) w.heap.size ([] : IMap κ) :=
  ⟨#[], 0, (MapKept.heap_alloc w _).1, stamped_empty 0, rfl⟩

section
variable {P : Program} {w : World} {b : Nat} {m : IMap κ} {t kt et : TypeId}

theorem find_I : ∀ (l : List MapEntry) (m : IMap κ) (i : Nat) (x : κ), l.map (fun e => (e.key, e.val)) = entI m →
    (Instr.findNow (MKey.desc κ) (MKey.val x) l i = some none ∧ lookI m x = none ∧ delI m x = m ∧ (∀ v, putI m x v = m ++ [(x, v)]) ∧ (∀ e ∈ l, e.key ≠ MKey.val x)) ∨
    ∃ j e v, Instr.findNow (MKey.desc κ) (MKey.val x) l i = some (some (i + j, v)) ∧ lookI m x = some v ∧ l[j]? = some e ∧ e.key = MKey.val x ∧ e.val = v ∧ delI m x = m.eraseIdx j ∧ (∀ u, putI m x u = m.modify j fun p => (p.1, u))
  | [], m, i, x, h => by
    have : m = [] := by cases m with | nil => rfl | cons p r => simp [entI] at h
    subst this
    exact .inl ⟨rfl, rfl, rfl, fun _ => rfl, by simp⟩
  | e :: l, [], i, x, h => by simp [entI] at h
  | e :: l, (k, u) :: r, i, x, h => by
    simp only [List.map_cons, entI, List.cons.injEq, Prod.mk.injEq] at h
    obtain ⟨⟨hk, hu⟩, hr⟩ := h
    by_cases hx : k = x
    · subst hx
      exact .inr ⟨0, e, u, by simp [Instr.findNow, MKey.same, hk, hu], by simp [lookI], rfl, hk, hu, by simp [delI], fun v => by simp [putI]⟩
    · have hx' : decide (x = k) = false := by simpa using fun e => hx e.symm
      rcases find_I l r (i + 1) x hr with ⟨h1, h2, h3, h4, h5⟩ | ⟨j, e', v, h1, h2, h3, h4, h5, h6, h7⟩
      · refine .inl ⟨by simp [Instr.findNow, MKey.same, hk, hx', h1], by simp [lookI, hx, h2], by simp [delI, hx, h3], fun v => by simp [putI, hx, h4], ?_⟩
        intro y hy
        rcases List.mem_cons.1 hy with rfl | hy
        · rw [hk]; exact fun e => hx (MKey.inj _ _ e)
        · exact h5 y hy
      · exact .inr ⟨j + 1, e', v, by simp [Instr.findNow, MKey.same, hk, hx', h1]; omega, by simp [lookI, hx, h2], by simpa using h3, h4, h5, by simp [delI, hx, h6], fun v => by simp [putI, hx, h7]⟩

theorem isKey_int (x : κ) : IsKey (MKey.desc κ) (MKey.val x) := MKey.isKey x

/-- 'm[k]', 'v, ok := m[k]'. -/
theorem MapI.lookup (h : MapI w b m) (ht : P.underlying t = some (.map kt et)) (hk : P.underlying kt = some (MKey.desc κ)) {z : Value} (hz : (zeroValue et).run P w = .ok z w) (x : κ) (ok : Bool) :
    (Instr.lookup t (.map (some b)) (MKey.val x) ok).run P w = .ok (if ok then .tuple #[(lookI m x).getD z, .bool (lookI m x).isSome] else (lookI m x).getD z) w := by
  obtain ⟨es, clock, hb, hs, hm⟩ := h
  unfold Instr.lookup
  rcases find_I es.toList m 0 x hm with ⟨h1, h2, _⟩ | ⟨j, e, v, h1, h2, _⟩
  · simp [run_underlying ht, Result.andThen, MapKept.run_getObj_map hb, MapKept.run_checkKey hk (isKey_int x), run_findKey hk h1, hz, h2]
  · simp [run_underlying ht, Result.andThen, MapKept.run_getObj_map hb, MapKept.run_checkKey hk (isKey_int x), run_findKey hk h1, h2]
theorem lookup_nilI (ht : P.underlying t = some (.map kt et)) (hk : P.underlying kt = some (MKey.desc κ)) {z : Value} (hz : (zeroValue et).run P w = .ok z w) (x : κ) (ok : Bool) :
    (Instr.lookup t (.map none) (MKey.val x) ok).run P w = .ok (if ok then .tuple #[z, .bool false] else z) w := by
  unfold Instr.lookup
  have h1 : Instr.findNow (MKey.desc κ) (MKey.val x) [] 0 = some none := rfl
  simp [run_underlying ht, Result.andThen, MapKept.run_checkKey hk (isKey_int x), run_findKey hk h1, hz]

theorem sameBits_int (x : κ) : Instr.sameBits 10000 (MKey.val x) (MKey.val x) = true := MKey.bits x
theorem run_keyThatStays (x : κ) : (Instr.keyThatStays (MKey.val x) (MKey.val x)).run P w = .ok (MKey.val x) w := by
  unfold Instr.keyThatStays
  rw [sameBits_int]
  rfl

/-- 'm[k] = v'. -/
theorem MapI.update (h : MapI w b m) (ht : P.underlying t = some (.map kt et)) (hk : P.underlying kt = some (MKey.desc κ)) (x : κ) (v : Value) :
    ∃ w', (Instr.mapUpdate t (.map (some b)) (MKey.val x) v).run P w = .ok () w' ∧ MapI w' b (putI m x v) ∧ w.grownBy w' (some b) := by
  obtain ⟨es, clock, hb, hs, hm⟩ := h
  have grow : ∀ o, w.grownBy { w with heap := w.heap.setIfInBounds b o } (some b) := fun o =>
    ⟨rfl, rfl, rfl, by simp, fun i _ hi => (heap_set (o' := o) hb).2 i (fun e => hi (by rw [e]))⟩
  unfold Instr.mapUpdate
  rcases find_I es.toList m 0 x hm with ⟨h1, h2, _, h4, h5⟩ | ⟨j, e, u, h1, h2, h3, h4, h5, _, h7⟩
  · refine ⟨{ w with heap := w.heap.setIfInBounds b (.map (es.push { key := MKey.val x, val := v, born := clock }) (clock + 1)) }, ?_, ⟨_, _, (heap_set hb).1, ?_, ?_⟩, grow _⟩
    · simp [run_underlying ht, Result.andThen, MapKept.run_getObj_map hb, MapKept.run_checkKey hk (isKey_int x), run_findKey hk h1, run_setObj_map _ hb]
    · obtain ⟨s1, s2, s3⟩ := hs
      refine ⟨?_, ?_, ?_⟩
      · intro y hy
        simp only [Array.toList_push, List.mem_append, List.mem_singleton] at hy
        rcases hy with hy | rfl
        · exact Nat.lt_succ_of_lt (s1 y hy)
        · exact Nat.lt_succ_self _
      · simp only [Array.toList_push, List.map_append, List.map_cons, List.map_nil]
        rw [List.nodup_append]
        refine ⟨s2, by simp, fun a ha c hc e => ?_⟩
        obtain ⟨y, hy, rfl⟩ := List.mem_map.1 ha
        simp only [List.mem_singleton] at hc
        have := s1 y hy
        omega
      · simp only [Array.toList_push, List.map_append, List.map_cons, List.map_nil]
        rw [List.nodup_append]
        refine ⟨s3, by simp, fun a ha c hc e => ?_⟩
        obtain ⟨y, hy, rfl⟩ := List.mem_map.1 ha
        simp only [List.mem_singleton] at hc
        exact h5 y hy (e.trans hc)
    · rw [h4]
      simp [hm, entI]
  · have hj : j < es.size := by
      have := (List.getElem?_eq_some_iff.1 h3).1
      simpa using this
    have hej : es[j]? = some e := by simpa using h3
    refine ⟨{ w with heap := w.heap.setIfInBounds b (.map (es.modify j fun e => { e with key := MKey.val x, val := v }) clock) }, ?_, ⟨_, _, (heap_set hb).1, ?_, ?_⟩, grow _⟩
    · simp [run_underlying ht, Result.andThen, MapKept.run_getObj_map hb, MapKept.run_checkKey hk (isKey_int x), run_findKey hk h1, hej, h4, run_keyThatStays, run_setObj_map _ hb]
    · obtain ⟨s1, s2, s3⟩ := hs
      have hl : (es.modify j fun e => { e with key := MKey.val x, val := v }).toList = es.toList.modify j fun e => { e with key := MKey.val x, val := v } := by simp
      have keys : ∀ (f : MapEntry → Value) (g : MapEntry → Nat) (l : List MapEntry) (j : Nat), (l[j]?.map (·.key) = some (MKey.val x)) → (l.modify j fun e => { e with key := MKey.val x, val := v }).map (·.key) = l.map (·.key) ∧ (l.modify j fun e => { e with key := MKey.val x, val := v }).map (·.born) = l.map (·.born) := by
        intro f g l
        induction l with
        | nil => intro j h; simp at h
        | cons y r ih =>
          intro j h
          rcases j with _ | j
          · simp at h ⊢; exact h.symm
          · simp at h ⊢
            exact ih j (by simpa using h)
      obtain ⟨k1, k2⟩ := keys (·.key) (·.born) es.toList j (by rw [h3]; simp [h4])
      refine ⟨?_, by rw [hl, k2]; exact s2, by rw [hl, k1]; exact s3⟩
      intro y hy
      rw [hl] at hy
      have : y.born ∈ (es.toList.modify j fun e => { e with key := MKey.val x, val := v }).map (·.born) := List.mem_map.2 ⟨y, hy, rfl⟩
      rw [k2] at this
      obtain ⟨z, hz, hzb⟩ := List.mem_map.1 this
      rw [← hzb]
      exact s1 z hz
    · have gen : ∀ (l : List MapEntry) (m : IMap κ) (j : Nat), l.map (fun e => (e.key, e.val)) = entI m → (l[j]?.map (·.key) = some (MKey.val x)) → (l.modify j fun e => { e with key := MKey.val x, val := v }).map (fun e => (e.key, e.val)) = entI (m.modify j fun p => (p.1, v)) := by
        intro l
        induction l with
        | nil => intro m j _ h; simp at h
        | cons y r ih =>
          intro m j hm h
          cases m with
          | nil => simp [entI] at hm
          | cons p q =>
            simp only [List.map_cons, entI, List.cons.injEq, Prod.mk.injEq] at hm
            rcases j with _ | j
            · simp at h
              simp [entI, hm.2, ← hm.1.1, h]
            · simp at h
              have := ih q j hm.2 (by simpa using h)
              simp [entI, hm.1] at this ⊢
              exact this
      rw [h7]
      have hl : (es.modify j fun e => { e with key := MKey.val x, val := v }).toList = es.toList.modify j fun e => { e with key := MKey.val x, val := v } := by simp
      rw [hl]
      exact gen _ _ _ hm (by rw [h3]; simp [h4])

/-- The walk's law at 'm[k] = v'. -/
theorem wpList_updateI {ops : Array Oper} {rest : List Oper} {o : Oper} {a : Act} {Q : Exit → Act → World → Prop}
    (hg : o.guard = none) (mo xo vo : Operand) (t : TypeId) (hop : o.op = Op.mapUpdate t mo xo vo) {kt et : TypeId} (ht : P.underlying t = some (.map kt et)) (hk : P.underlying kt = some (MKey.desc κ))
    (b : Nat) (m : IMap κ) (hm : a.eval mo = .map (some b)) (h : MapI w b m) (x : κ) (v : Value) (hx : a.eval xo = MKey.val x) (hv : a.eval vo = v)
    (hK : ∀ w', MapI w' b (putI m x v) → w.grownBy w' (some b) → wpList P ops Q rest (a.put o.dst undef) w') : wpList P ops Q (o :: rest) a w := by
  refine wpList_plain hg fun K' hK' => ?_
  obtain ⟨w', hrun, r1, r2⟩ := h.update ht hk x v
  unfold Oper.wp
  simp [execOp, hop, hm, hx, hv, hrun, Result.andThen]
  exact hK' _ _ (hK w' r1 r2)
/-- .. at an entry of a map's literal. -/
theorem wpList_insertI {ops : Array Oper} {rest : List Oper} {o : Oper} {a : Act} {Q : Exit → Act → World → Prop}
    (hg : o.guard = none) (mo xo vo : Operand) (t : TypeId) (hop : o.op = Op.insert t mo xo vo) {kt et : TypeId} (ht : P.underlying t = some (.map kt et)) (hk : P.underlying kt = some (MKey.desc κ))
    (b : Nat) (m : IMap κ) (hm : a.eval mo = .map (some b)) (h : MapI w b m) (x : κ) (v : Value) (hx : a.eval xo = MKey.val x) (hv : a.eval vo = v)
    (hK : ∀ w', MapI w' b (putI m x v) → w.grownBy w' (some b) → wpList P ops Q rest (a.put o.dst undef) w') : wpList P ops Q (o :: rest) a w := by
  refine wpList_plain hg fun K' hK' => ?_
  obtain ⟨w', hrun, r1, r2⟩ := h.update ht hk x v
  unfold Oper.wp
  simp [execOp, hop, hm, hx, hv, hrun, Result.andThen]
  exact hK' _ _ (hK w' r1 r2)
/-- The walk's law at 'm[k]', 'v, ok := m[k]'. -/
theorem wpList_lookupI {ops : Array Oper} {rest : List Oper} {o : Oper} {a : Act} {Q : Exit → Act → World → Prop}
    (hg : o.guard = none) (mo xo : Operand) (t : TypeId) (ok : Bool) (hop : o.op = Op.lookup t mo xo ok) {kt et : TypeId} (ht : P.underlying t = some (.map kt et)) (hk : P.underlying kt = some (MKey.desc κ))
    {z : Value} (hz : (zeroValue et).run P w = .ok z w) (b : Nat) (m : IMap κ) (hm : a.eval mo = .map (some b)) (h : MapI w b m) (x : κ) (hx : a.eval xo = MKey.val x)
    (hK : wpList P ops Q rest (a.put o.dst (if ok then .tuple #[(lookI m x).getD z, .bool (lookI m x).isSome] else (lookI m x).getD z)) w) : wpList P ops Q (o :: rest) a w := by
  refine wpList_plain hg fun K' hK' => ?_
  have hrun := h.lookup ht hk hz x ok
  unfold Oper.wp
  simp [execOp, hop, hm, hx, hrun, Result.andThen]
  exact hK' _ _ hK
end
end Go.Pst

/-
  Contracts of slices.Index, slices.Contains at ints.
-/
namespace Go.Proofs.YtaomlfbcfmmhlaaDoor
open Go.RowKit Go.Pst
set_option linter.unusedVariables false

/-- The first place of a number, or -1. -/
def firstAt (x : Int) : List Int → Nat → Int
  | [], _ => -1
  | y :: r, k => if x = y then (k : Int) else firstAt x r (k + 1)
theorem firstAt_ge (x : Int) : ∀ (l : List Int) (k : Nat), (0 ≤ firstAt x l k ↔ x ∈ l)
  | [], k => by simp [firstAt]
  | y :: r, k => by
    unfold firstAt
    by_cases h : x = y
    · simp [h]
    · simp [h, firstAt_ge x r (k + 1)]

set_option maxHeartbeats 400000 in
theorem index_any (x : Int) (a : Option Addr) (l : List Int) (cap : Nat) (w : World) (hl : l.length ≤ 9223372036854775807) (hat : IntsAt w a l) :
    Calls Tryd.prog 135 #[.slice a l.length cap, .int .i64 x] w fun e w' => e = .returned (.int .i64 (firstAt x l 0)) ∧ w = w' := by
  go_enter Tryd.func135, Tryd.ntmps135
  go_wp2
  go_loop [8] (fun i => ∃ k : Nat, k ≤ l.length ∧ i = .int .i64 k ∧ firstAt x l 0 = firstAt x (l.drop k) k) (fun i => l.length - (intOf i).toNat)
  case atStart => exact ⟨0, Nat.zero_le _, rfl, by simp⟩
  case round =>
    obtain ⟨k, hk, rfl, hf⟩ := hrel
    have Hf := Lib.hid hf
    clear hf
    by_cases hlt : k < l.length
    · obtain ⟨b, off, rfl, hb, hc⟩ := hat k hlt
      have hlt1 : (k : Int) < (l.length : Int) := by omega
      have hd : l.drop k = l[k] :: l.drop (k + 1) := List.drop_eq_getElem_cons hlt
      have Hd := Lib.hid hd
      clear hd hat
      generalize l[k] = y at *
      by_cases hxy : x = y
      · subst hxy
        go_wp2
        go_ret
        exact ⟨by rw [Hf.out, Hd.out]; simp [firstAt], rfl⟩
      · have hne : (x == y) = false := by simpa using hxy
        go_wp2
        go_round
        case rel => exact ⟨k + 1, by omega, by go_num, by rw [Hf.out, Hd.out]; simp [firstAt, hxy]⟩
        case measure => simp [intOf]; omega
    · have hke : k = l.length := by omega
      subst hke
      go_wp2
      go_ret
      exact ⟨by rw [Hf.out]; simp [firstAt], rfl⟩

theorem contains_any (x : Int) (a : Option Addr) (l : List Int) (cap : Nat) (w : World) (hl : l.length ≤ 9223372036854775807) (hat : IntsAt w a l) :
    Calls Tryd.prog 76 #[.slice a l.length cap, .int .i64 x] w fun e w' => e = .returned (.bool (decide (x ∈ l))) ∧ w = w' := by
  have hge := firstAt_ge x l 0
  go_enter Tryd.func76, Tryd.ntmps76
  go_wp2_with (go_at_call 135; refine (index_any _ _ _ _ _ hl hat).mono ?_; rintro e w' ⟨rfl, rfl⟩)
  all_goals
    go_ret
    exact ⟨by simp_all, rfl⟩

end Go.Proofs.YtaomlfbcfmmhlaaDoor

/-
  slices.IndexFunc, ContainsFunc at ints, of whatever closure that only reads.
-/
namespace Go.Proofs.YtaomlfbcfmmhlaaDoor
open Go.RowKit Go.Pst
set_option linter.unusedVariables false

/-- The first place of a number that a predicate takes, or -1. -/
def firstBy (p : Int → Bool) : List Int → Nat → Int
  | [], _ => -1
  | y :: r, k => if p y = true then (k : Int) else firstBy p r (k + 1)
theorem firstBy_ge (p : Int → Bool) : ∀ (l : List Int) (k : Nat), decide (0 ≤ firstBy p l k) = l.any p
  | [], k => by simp [firstBy]
  | y :: r, k => by
    unfold firstBy
    by_cases h : p y = true
    · simp [h]
    · simp [h, firstBy_ge p r (k + 1)]

/-- A function of the program's own, entered when it is called. -/
def Enters (P : Program) (g : Nat) : Prop := ∀ (args : Array Value) (w : World), (callFunc g args).run P w = .ok (.enter g args) w
theorem enters_of {P : Program} {g : Nat} {fn : Func} (h : P.funcs[g]? = some fn) (hn : (fn.name == "runtime.NumGoroutine") = false) (hb : fn.body.isNone = false) : Enters P g := by
  intro args w
  have hn' : ¬ fn.name = "runtime.NumGoroutine" := by simpa using hn
  have hb' : ¬ fn.body = none := fun e => by rw [e] at hb; simp at hb
  simp [callFunc, h, hn', hb']

/-- A closure that answers p at each number of l, in whatever world is w but for draws. -/
def Answers (P : Program) (g : Nat) (lb : Array Value) (p : Int → Bool) (l : List Int) (w : World) : Prop :=
  ∀ x ∈ l, ∀ w', Drawn w w' → Calls P g (#[.int .i64 x] ++ lb) w' fun e w'' => e = .returned (.bool (p x)) ∧ Drawn w' w''

theorem Answers.later {P : Program} {g : Nat} {lb : Array Value} {p : Int → Bool} {l : List Int} {w w1 : World} (h : Answers P g lb p l w) (hd : Drawn w w1) : Answers P g lb p l w1 := fun x hx w' hw => h x hx w' (hd.trans hw)

set_option maxHeartbeats 400000 in
theorem indexFunc_ints (g : Nat) (lb : Array Value) (p : Int → Bool) (a : Option Addr) (l : List Int) (cap : Nat) (w : World) (hl : l.length ≤ 9223372036854775807) (hat : IntsAt w a l) (hg : Enters Tryd.prog g) (hp : Answers Tryd.prog g lb p l w) :
    Calls Tryd.prog 77 #[.slice a l.length cap, .func (.func g) #[] lb] w fun e w' => e = .returned (.int .i64 (firstBy p l 0)) ∧ Drawn w w' := by
  go_enter Tryd.func77, Tryd.ntmps77
  go_wp2_with fail
  go_loopw [8] (fun i wr => ∃ k : Nat, k ≤ l.length ∧ i = .int .i64 k ∧ firstBy p l 0 = firstBy p (l.drop k) k ∧ Drawn w wr) (fun i _ => l.length - (intOf i).toNat)
  case atStart => exact ⟨0, Nat.zero_le _, rfl, by simp, Drawn.refl _⟩
  case round =>
    obtain ⟨k, hk, rfl, hf, hdr⟩ := hrel
    have Hf := Lib.hid hf
    clear hf
    by_cases hlt : k < l.length
    · obtain ⟨b, off, rfl, hb, hc⟩ := hat k hlt
      have hcx : wr.cell? ⟨b, off + k, none⟩ = some (.int .i64 l[k]) := by rw [hdr.cell]; exact hc
      have hlt1 : (k : Int) < (l.length : Int) := by omega
      have hd : l.drop k = l[k] :: l.drop (k + 1) := List.drop_eq_getElem_cons hlt
      have Hd := Lib.hid hd
      have hent := fun args w => hg args w
      have hcall := hp _ (List.getElem_mem hlt) wr hdr
      have Hc := Lib.hid hcall
      clear hd hat hcall hc hp
      generalize l[k] = y at *
      go_wp2_with fail
      refine (Hc.out).mono ?_
      rintro e w1 ⟨rfl, hd1⟩
      have hdr1 := hdr.trans hd1
      cases he : p y with
      | true =>
        have He := Lib.hid he
        clear he
        go_wp2_with fail
        go_ret
        exact ⟨by rw [Hf.out, Hd.out]; simp [firstBy, He.out], hdr1⟩
      | false =>
        have He := Lib.hid he
        clear he
        go_wp2_with fail
        go_roundw
        case rel => exact ⟨k + 1, by omega, by go_num, by rw [Hf.out, Hd.out]; simp [firstBy, He.out], hdr1⟩
        case measure => simp [intOf]; omega
    · have hke : k = l.length := by omega
      subst hke
      go_wp2_with fail
      go_ret
      exact ⟨by rw [Hf.out]; simp [firstBy], hdr⟩

theorem containsFunc_ints (g : Nat) (lb : Array Value) (p : Int → Bool) (a : Option Addr) (l : List Int) (cap : Nat) (w : World) (hl : l.length ≤ 9223372036854775807) (hat : IntsAt w a l) (hg : Enters Tryd.prog g) (hp : Answers Tryd.prog g lb p l w) :
    Calls Tryd.prog 34 #[.slice a l.length cap, .func (.func g) #[] lb] w fun e w' => e = .returned (.bool (l.any p)) ∧ Drawn w w' := by
  have Hg := Lib.hid (firstBy_ge p l 0)
  go_enter Tryd.func34, Tryd.ntmps34
  go_wp2_with fail
  refine (indexFunc_ints g lb p a l cap w hl hat hg hp).mono ?_
  rintro e w1 ⟨rfl, hd⟩
  go_wp2_with fail
  go_ret
  exact ⟨by rw [← Hg.out]; rfl, hd⟩
end Go.Proofs.YtaomlfbcfmmhlaaDoor

/-
  ir.rules, ir.maths: what the program's text lays there, and what it gives a walk; the small functions of package ir and of slices that its checks call.
-/
namespace Go.Proofs.YtaomlfbcfmmhlaaDoor
open Go.RowKit Go.Pst
set_option linter.unusedVariables false

/-- ir.rules: how many results, arguments, places (-1: as many as it says). -/
def ruleF : Nat → Int × Int × Int
  | 1 => (1, 0, 0) | 2 => (1, 1, 0) | 3 => (1, 2, 0) | 4 => (1, 1, 0) | 5 => (0, 2, 0) | 6 => (1, 1, 0) | 7 => (-1, -1, 0) | 8 => (0, -1, 0) | 9 => (0, 0, 1)
  | 10 => (0, 1, 2) | 11 => (0, 1, -1) | 12 => (0, -1, 0) | _ => (0, 0, 0)

structure IrLaid (w : World) : Prop where
  lt : 0 < w.heap.size ∧ 1 < w.heap.size
  rules : ∀ k, k < 14 → w.cell? ⟨0, k * 3, none⟩ = some (.int .i64 (ruleF k).1) ∧ w.cell? ⟨0, k * 3 + 1, none⟩ = some (.int .i64 (ruleF k).2.1) ∧ w.cell? ⟨0, k * 3 + 2, none⟩ = some (.int .i64 (ruleF k).2.2)
  maths : ∃ a cap, w.cell? ⟨1, 0, none⟩ = some (.slice a 11 cap) ∧ StrsAt w a mathsF
theorem IrLaid.below {w w' : World} (h : IrLaid w) (hb : Below w.heap.size w w') : IrLaid w' := by
  refine ⟨⟨Nat.lt_of_lt_of_le h.lt.1 hb.size, Nat.lt_of_lt_of_le h.lt.2 hb.size⟩, fun k hk => ?_, ?_⟩
  · obtain ⟨h1, h2, h3⟩ := h.rules k hk
    exact ⟨(hb.cell (p := ⟨_, k * 3, none⟩) h.lt.1).trans h1, (hb.cell (p := ⟨_, k * 3 + 1, none⟩) h.lt.1).trans h2, (hb.cell (p := ⟨_, k * 3 + 2, none⟩) h.lt.1).trans h3⟩
  · obtain ⟨a, cap, h1, h2⟩ := h.maths
    exact ⟨a, cap, (hb.cell (p := ⟨_, 0, none⟩) h.lt.2).trans h1, h2.below hb⟩

theorem irEnds_any (x : Int) (w : World) :
    Calls Tryd.prog 74 #[.int .i64 x] w fun e w' => e = .returned (.bool (closesF x)) ∧ w = w' := by
  go_enter Tryd.func74, Tryd.ntmps74
  by_cases h : 9 ≤ x
  · have h1 : decide (x ≥ 9) = true := decide_eq_true h
    go_wp2
    go_ret
    exact ⟨by simp [closesF, h], rfl⟩
  · have h1 : decide (x ≥ 9) = false := decide_eq_false h
    go_wp2
    go_ret
    exact ⟨by simp [closesF]; omega, rfl⟩

/-- The closures of checkInstr: a number outside. -/
def oddF (hi : Int) (x : Int) : Bool := decide (x < 0) || decide (hi ≤ x)
theorem any_oddF (l : List Int) (hi : Int) : l.any (oddF hi) = !(inAll l hi) := by
  unfold inAll
  induction l with
  | nil => rfl
  | cons x r ih =>
    rw [List.any_cons, List.all_cons, ih]
    by_cases h1 : 0 ≤ x <;> by_cases h2 : x ≤ hi - 1 <;> simp [oddF, h1, h2] <;> omega

theorem odd1_answers (hi : Int) (l : List Int) (w : World) (blk : Nat) (hc : w.cell? ⟨blk, 3, none⟩ = some (.int .i64 hi)) :
    Answers Tryd.prog 131 #[.pointer (some ⟨blk, 0, none⟩)] (oddF hi) l w := by
  intro x _ w' hd
  have hc' : w'.cell? ⟨blk, 3, none⟩ = some (.int .i64 hi) := by rw [hd.cell]; exact hc
  by_cases h : x < 0
  · have h1 : decide (x < 0) = true := decide_eq_true h
    go_enter Tryd.func131, Tryd.ntmps131
    go_wp2_with fail
    go_ret
    exact ⟨by simp [oddF, h], Drawn.refl _⟩
  · have h1 : decide (x < 0) = false := decide_eq_false h
    go_enter Tryd.func131, Tryd.ntmps131
    go_wp2_with fail
    go_ret
    exact ⟨by simp [oddF]; omega, Drawn.refl _⟩

theorem odd2_answers (nb : Nat) (l : List Int) (w : World) (blk : Nat) (a : Option Addr) (cap : Nat) (hn : nb ≤ 9223372036854775807) (hc : w.cell? ⟨blk, 5, none⟩ = some (.slice a nb cap)) :
    Answers Tryd.prog 132 #[.pointer (some ⟨blk, 0, none⟩)] (oddF nb) l w := by
  intro x _ w' hd
  have hc' : w'.cell? ⟨blk, 5, none⟩ = some (.slice a nb cap) := by rw [hd.cell]; exact hc
  by_cases h : x < 0
  · have h1 : decide (x < 0) = true := decide_eq_true h
    go_enter Tryd.func132, Tryd.ntmps132
    go_wp2_with fail
    go_ret
    exact ⟨by simp [oddF, h], Drawn.refl _⟩
  · have h1 : decide (x < 0) = false := decide_eq_false h
    go_enter Tryd.func132, Tryd.ntmps132
    go_wp2_with fail
    go_ret
    exact ⟨by simp [oddF]; omega, Drawn.refl _⟩

set_option maxHeartbeats 400000 in
theorem indexStr_any (x : ByteArray) (a : Option Addr) (l : List ByteArray) (cap : Nat) (w : World) (hl : l.length ≤ 9223372036854775807) (hat : StrsAt w a l) :
    Calls Tryd.prog 161 #[.slice a l.length cap, .string x] w fun e w' => e = .returned (.int .i64 (firstOf (fun y => decide (x = y)) l 0)) ∧ w = w' := by
  go_enter Tryd.func161, Tryd.ntmps161
  go_wp2
  go_loop [8] (fun i => ∃ k : Nat, k ≤ l.length ∧ i = .int .i64 k ∧ firstOf (fun y => decide (x = y)) l 0 = firstOf (fun y => decide (x = y)) (l.drop k) k) (fun i => l.length - (intOf i).toNat)
  case atStart => exact ⟨0, Nat.zero_le _, rfl, by simp⟩
  case round =>
    obtain ⟨k, hk, rfl, hf⟩ := hrel
    have Hf := Lib.hid hf
    clear hf
    by_cases hlt : k < l.length
    · obtain ⟨b, off, rfl, hb, hc⟩ := hat k hlt
      have hlt1 : (k : Int) < (l.length : Int) := by omega
      have hd : l.drop k = l[k] :: l.drop (k + 1) := List.drop_eq_getElem_cons hlt
      have Hd := Lib.hid hd
      clear hd hat
      generalize l[k] = y at *
      by_cases hxy : x = y
      · have h1 := str_eq hxy
        have Hx := Lib.hid hxy
        clear hxy
        go_wp2
        go_ret
        exact ⟨by rw [Hf.out, Hd.out]; simp [firstOf, Hx.out], rfl⟩
      · have h1 := str_ne hxy
        have Hx := Lib.hid hxy
        clear hxy
        go_wp2
        go_round
        case rel => exact ⟨k + 1, by omega, by go_num, by rw [Hf.out, Hd.out]; simp [firstOf, Hx.out]⟩
        case measure => simp [intOf]; omega
    · have hke : k = l.length := by omega
      subst hke
      go_wp2
      go_ret
      exact ⟨by rw [Hf.out]; simp [firstOf], rfl⟩

theorem containsStr_any (x : ByteArray) (a : Option Addr) (l : List ByteArray) (cap : Nat) (w : World) (hl : l.length ≤ 9223372036854775807) (hat : StrsAt w a l) :
    Calls Tryd.prog 133 #[.slice a l.length cap, .string x] w fun e w' => e = .returned (.bool (decide (x ∈ l))) ∧ w = w' := by
  have hge : decide (0 ≤ firstOf (fun y => decide (x = y)) l 0) = decide (x ∈ l) := by
    rw [firstOf_ge, Bool.eq_iff_iff]
    simp
  have Hg := Lib.hid hge
  clear hge
  go_enter Tryd.func133, Tryd.ntmps133
  go_wp2_with fail
  refine (indexStr_any _ _ _ _ _ hl hat).mono ?_
  rintro e w' ⟨rfl, rfl⟩
  go_wp2_with fail
  go_ret
  exact ⟨by rw [← Hg.out]; rfl, rfl⟩

/-- A closure that answers p at each code of l, in whatever later world. -/
def AnswersC (P : Program) (g : Nat) (lb : Array Value) (p : PCode → Bool) (l : List PCode) (w : World) : Prop :=
  ∀ x ∈ l, ∀ cs w', rCode (fun _ => True) w' cs x → Below w.heap.size w w' → Calls P g (#[.agg cs.toArray] ++ lb) w' fun e w'' => e = .returned (.bool (p x)) ∧ Below w'.heap.size w' w''

theorem rSlice_take {α : Type} {sz : Nat} {R : Rep α} {S : Nat → Prop} {w : World} {a : Option Addr} {n cap : Nat} {l : List α} (h : rSlice sz R S w [.slice a n cap] l) {k : Nat} (hk : k ≤ l.length) : rSlice sz R S w [.slice a k cap] (l.take k) := by
  obtain ⟨a', cap', hv, h2, h3, h4⟩ := rSlice_val h
  obtain ⟨rfl, -, rfl⟩ : a = a' ∧ n = l.length ∧ cap = cap' := by simpa using hv
  refine ⟨a, cap, by rw [List.length_take, Nat.min_eq_left hk], by rw [List.length_take]; omega, h3, fun i hi => ?_⟩
  rw [List.length_take] at hi
  obtain ⟨b, off, es, e1, e2, e3, e4, e5, e6⟩ := h4 i (by omega)
  exact ⟨b, off, es, e1, e2, e3, e4, e5, by rw [List.getElem_take]; exact e6⟩

set_option maxHeartbeats 400000 in
theorem indexFuncC_any (g : Nat) (lb : Array Value) (p : PCode → Bool) (a : Option Addr) (fs : List PCode) (cap : Nat) (w : World) (hfs : rCodes (fun _ => True) w [.slice a fs.length cap] fs)
    (hg : Enters Tryd.prog g) (hp : AnswersC Tryd.prog g lb p fs w) :
    Calls Tryd.prog 102 #[.slice a fs.length cap, .func (.func g) #[] lb] w fun e w' => e = .returned (.int .i64 (firstOf p fs 0)) ∧ Below w.heap.size w w' := by
  obtain ⟨a', cap', hv, hcap, hmax, hat⟩ := rCodes_val hfs
  obtain ⟨rfl, rfl⟩ : a = a' ∧ cap = cap' := by simpa using hv
  unfold maxLen at hmax
  clear hv
  have Hat := Lib.hid hat
  have Hfs := Lib.hid hfs
  have Hp := Lib.hid hp
  clear hat hfs hp
  go_enter Tryd.func102, Tryd.ntmps102
  go_wp2_with fail
  go_loopw [8] (fun i wr => ∃ k : Nat, k ≤ fs.length ∧ i = .int .i64 k ∧ firstOf p fs 0 = firstOf p (fs.drop k) k ∧ Below w.heap.size w wr) (fun i _ => fs.length - (intOf i).toNat)
  case atStart => exact ⟨0, Nat.zero_le _, rfl, by simp, Below.refl _ _⟩
  case round =>
    obtain ⟨k, hk, rfl, hf, hbel⟩ := hrel
    have Hf := Lib.hid hf
    clear hf
    by_cases hlt : k < fs.length
    · obtain ⟨b, off, v5, rfl, -, hb, h0, h1, h2, h3, h4, h5, hI, hbs⟩ := Hat.out k hlt
      have hlt1 : (k : Int) < (fs.length : Int) := by omega
      have hd : fs.drop k = fs[k] :: fs.drop (k + 1) := List.drop_eq_getElem_cons hlt
      have Hd := Lib.hid hd
      have hkeep := Keep.of_below' (S := fun _ => True) hbel (fun k hk _ => hk)
      have hy0 : wr.cell? ⟨b, off + k * 6, none⟩ = _ := (hbel.cell (p := ⟨b, off + k * 6, none⟩) hb).trans h0
      have hy1 : wr.cell? ⟨b, off + k * 6 + 1, none⟩ = _ := (hbel.cell (p := ⟨b, off + k * 6 + 1, none⟩) hb).trans h1
      have hy2 : wr.cell? ⟨b, off + k * 6 + 2, none⟩ = _ := (hbel.cell (p := ⟨b, off + k * 6 + 2, none⟩) hb).trans h2
      have hy3 : wr.cell? ⟨b, off + k * 6 + 3, none⟩ = _ := (hbel.cell (p := ⟨b, off + k * 6 + 3, none⟩) hb).trans h3
      have hy4 : wr.cell? ⟨b, off + k * 6 + 4, none⟩ = _ := (hbel.cell (p := ⟨b, off + k * 6 + 4, none⟩) hb).trans h4
      have hy5 : wr.cell? ⟨b, off + k * 6 + 5, none⟩ = _ := (hbel.cell (p := ⟨b, off + k * 6 + 5, none⟩) hb).trans h5
      have hcall := Hp.out _ (List.getElem_mem hlt) _ wr (Good.kept hkeep ⟨v5, rfl, hI, hbs⟩) hbel
      have hent := fun args w => hg args w
      have Hc := Lib.hid hcall
      clear hd hcall h0 h1 h2 h3 h4 h5 hI hbs hkeep
      generalize fs[k] = y at *
      go_wp2_with fail
      refine (Hc.out).mono ?_
      rintro e w1 ⟨rfl, hb1⟩
      have hbel1 := hbel.trans (hb1.mono hbel.size)
      cases he : p y with
      | true =>
        have He := Lib.hid he
        clear he
        go_wp2_with fail
        go_ret
        exact ⟨by rw [Hf.out, Hd.out]; simp [firstOf, He.out], hbel1⟩
      | false =>
        have He := Lib.hid he
        clear he
        go_wp2_with fail
        go_roundw
        case rel => exact ⟨k + 1, by omega, by go_num, by rw [Hf.out, Hd.out]; simp [firstOf, He.out], hbel1⟩
        case measure => simp [intOf]; omega
    · have hke : k = fs.length := by omega
      subst hke
      go_wp2_with fail
      go_ret
      exact ⟨by rw [Hf.out]; simp [firstOf], hbel⟩

theorem containsFuncC_any (g : Nat) (lb : Array Value) (p : PCode → Bool) (a : Option Addr) (fs : List PCode) (cap : Nat) (w : World) (hfs : rCodes (fun _ => True) w [.slice a fs.length cap] fs)
    (hg : Enters Tryd.prog g) (hp : AnswersC Tryd.prog g lb p fs w) :
    Calls Tryd.prog 100 #[.slice a fs.length cap, .func (.func g) #[] lb] w fun e w' => e = .returned (.bool (fs.any p)) ∧ Below w.heap.size w w' := by
  have Hg := Lib.hid (firstOf_ge p fs 0)
  go_enter Tryd.func100, Tryd.ntmps100
  go_wp2_with fail
  refine (indexFuncC_any g lb p a fs cap w hfs hg hp).mono ?_
  rintro e w1 ⟨rfl, hd⟩
  go_wp2_with fail
  go_ret
  exact ⟨by rw [← Hg.out]; rfl, hd⟩

/-- The closure of checkInvoke: is it the function of this name? -/
theorem named1_answers (s : ByteArray) (fs : List PCode) (w : World) (blk : Nat) (hlt : blk < w.heap.size) (hc : w.cell? ⟨blk, 4, none⟩ = some (.string s)) :
    AnswersC Tryd.prog 162 #[.pointer (some ⟨blk, 0, none⟩)] (fun c => decide (c.name = s)) fs w := by
  intro x _ cs w' hx hb
  have hc' : w'.cell? ⟨blk, 4, none⟩ = some (.string s) := (hb.cell (p := ⟨blk, 4, none⟩) hlt).trans hc
  obtain ⟨v5, rfl, -, -⟩ := hx
  have hlt' : blk < w'.heap.size := Nat.lt_of_lt_of_le hlt hb.size
  by_cases h : x.name = s
  · have h1 := str_eq h
    have Hh := Lib.hid h
    clear h
    go_enter Tryd.func162, Tryd.ntmps162
    go_wp2_with fail
    go_ret
    exact ⟨by simp [Hh.out], (Below.refl _ _).alloc (Nat.le_refl _) _⟩
  · have h1 := str_ne h
    have Hh := Lib.hid h
    clear h
    go_enter Tryd.func162, Tryd.ntmps162
    go_wp2_with fail
    go_ret
    exact ⟨by simp [Hh.out], (Below.refl _ _).alloc (Nat.le_refl _) _⟩
end Go.Proofs.YtaomlfbcfmmhlaaDoor

/-
  ir.checkInvoke: the contract.
-/
namespace Go.Proofs.YtaomlfbcfmmhlaaDoor
open Go.RowKit Go.Pst
set_option linter.unusedVariables false

theorem invokeFaultF_none {fs : List PCode} {i : PInstr} (h : nameAt i.s fs = -1) : invokeFaultF fs i = 6 := by unfold invokeFaultF; rw [h]; rfl
theorem invokeFaultF_some {fs : List PCode} {i : PInstr} {k : Nat} (h : nameAt i.s fs = (k : Int)) (hk : k < fs.length) :
    invokeFaultF fs i = if (i.ars.length : Int) ≠ fs[k].params ∨ (i.ds.length : Int) ≠ fs[k].results then 10 else if i.ds.Nodup then 0 else 7 := by
  unfold invokeFaultF
  rw [h, if_neg (by omega)]
  simp only [Int.toNat_natCast, List.getElem?_eq_getElem hk]
theorem IntsAt.take {w : World} {a : Option Addr} {l : List Int} (h : IntsAt w a l) (n : Nat) : IntsAt w a (l.take n) := by
  intro i hi
  rw [List.length_take] at hi
  obtain ⟨b, off, h1, h2, h3⟩ := h i (by omega)
  exact ⟨b, off, h1, h2, by rw [List.getElem_take]; exact h3⟩
theorem nodup_step {l : List Int} {n : Nat} (hn : n < l.length) (h : (l.take n).Nodup) (hne : ¬ l[n] ∈ l.take n) : (l.take (n + 1)).Nodup :=
  nodup_take_succ hn h (fun j hj e => hne (by
    rw [← e]
    exact List.mem_iff_getElem.2 ⟨j, by rw [List.length_take]; omega, by rw [List.getElem_take]⟩))
theorem not_nodup_mem {l : List Int} {n : Nat} (hn : n < l.length) (h : l[n] ∈ l.take n) : ¬ l.Nodup := by
  obtain ⟨j, hj, hje⟩ := List.mem_iff_getElem.1 h
  rw [List.length_take] at hj
  rw [List.getElem_take] at hje
  exact not_nodup_of hn (by omega) hje

set_option maxRecDepth 4000 in
set_option maxHeartbeats 1000000 in
theorem irInvoke_any (fs : List PCode) (p0 p1 : Value) (x : PInstr) (xcs : List Value) (w : World) (hp : rCodes (fun _ => True) w [p0] fs) (hx : rInstr (fun _ => True) w xcs x) :
    Calls Tryd.prog 134 #[.agg #[p0, p1], .agg xcs.toArray] w fun e w' => e = .returned (.int .i64 (invokeFaultF fs x)) ∧ Below w.heap.size w w' := by
  obtain ⟨v1, v2, v6, rfl, -, h1, h2, -⟩ := hx
  obtain ⟨a1, c1, rfl, hcap1, hmax1, -⟩ := rInts_val h1
  obtain ⟨a1', c1', he1, hl1, hat1, -⟩ := rInts_open h1
  obtain ⟨rfl, rfl⟩ : a1 = a1' ∧ c1 = c1' := by simpa using he1
  clear he1
  unfold maxLen at hmax1
  obtain ⟨a2, c2, rfl, hl2, -, -⟩ := rInts_open h2
  obtain ⟨ap, cp, rfl, hcapp, hmaxp, hatp⟩ := rCodes_val hp
  unfold maxLen at hmaxp
  have Hat1 := Lib.hid hat1
  have Hatp := Lib.hid hatp
  have Hp := Lib.hid hp
  have hent := enters_of (P := Tryd.prog) Tryd.func162 (by kernel_rfl) (by kernel_rfl)
  clear hat1 hatp h1 h2 hp
  go_enter Tryd.func134, Tryd.ntmps134
  go_wp2_with fail
  generalize hw0 : (w.alloc (.cells #[.slice ap fs.length cp, p1] 25)).alloc (.cells #[.int .i64 x.op, .slice a1 x.ds.length c1, .slice a2 x.ars.length c2, .int .i64 x.n, .string x.s, v6] 53) = w0
  have hbel : Below w.heap.size w w0 := by rw [← hw0]; exact below_box2 _ _ _
  have hsz : w0.heap.size = w.heap.size + 2 := by rw [← hw0]; simp
  have bp0 : w0.cell? ⟨w.heap.size, 0, none⟩ = some (.slice ap fs.length cp) := by rw [← hw0, box2_1]; rfl
  have bx1 : w0.cell? ⟨w.heap.size + 1, 1, none⟩ = some (.slice a1 x.ds.length c1) := by rw [← hw0, box2_2]; rfl
  have bx2 : w0.cell? ⟨w.heap.size + 1, 2, none⟩ = some (.slice a2 x.ars.length c2) := by rw [← hw0, box2_2]; rfl
  have bx4 : w0.cell? ⟨w.heap.size + 1, 4, none⟩ = some (.string x.s) := by rw [← hw0, box2_2]; rfl
  clear hw0
  have hans := named1_answers x.s fs w0 (w.heap.size + 1) (by omega) bx4
  have Hans := Lib.hid hans
  have Hent := Lib.hid hent
  have hcal := fun cc => indexFuncC_any 162 #[.pointer (some ⟨w.heap.size + 1, 0, none⟩)] (fun c => decide (c.name = x.s)) ap fs cc w0
  have Hcal := Lib.hid hcal
  clear hans hent hcal
  refine (Hcal.out _ (Good.kept (Keep.of_below' hbel (fun k hk _ => hk)) Hp.out) Hent.out Hans.out).mono ?_
  rintro e w1 ⟨rfl, hb1⟩
  have hl1' : Below w.heap.size w w1 := hbel.trans (hb1.mono (by omega))
  have bp0' := (hb1.cell (p := ⟨w.heap.size, 0, none⟩) (by show w.heap.size < w0.heap.size; omega)).trans bp0
  have bx1' := (hb1.cell (p := ⟨w.heap.size + 1, 1, none⟩) (by show w.heap.size + 1 < w0.heap.size; omega)).trans bx1
  have bx2' := (hb1.cell (p := ⟨w.heap.size + 1, 2, none⟩) (by show w.heap.size + 1 < w0.heap.size; omega)).trans bx2
  clear bp0 bx1 bx2 bx4 Hans Hent Hcal hb1 hbel
  have Hl1 := Lib.hid hl1'
  rcases firstOf_spec (fun c : PCode => decide (c.name = x.s)) fs 0 with ⟨hk, -⟩ | ⟨k, hkl, hk, -, -⟩
  · have Hk := Lib.hid (show nameAt x.s fs = -1 from hk)
    rw [hk]
    clear hk
    go_wp2_with fail
    go_ret
    exact ⟨by rw [invokeFaultF_none Hk.out]; rfl, Hl1.out⟩
  · have hk' : firstOf (fun c : PCode => decide (c.name = x.s)) fs 0 = (k : Int) := by simpa using hk
    have Hk := Lib.hid (show nameAt x.s fs = (k : Int) from hk')
    rw [hk']
    clear hk hk'
    obtain ⟨b, off, v5, rfl, -, hb, -, hcp, hcr, -⟩ := Hatp.out k hkl
    have hkl1 : (k : Int) < (fs.length : Int) := by omega
    have hcp' := (hl1'.cell (p := ⟨b, off + k * 6 + 1, none⟩) hb).trans hcp
    have hcr' := (hl1'.cell (p := ⟨b, off + k * 6 + 2, none⟩) hb).trans hcr
    have Hi := Lib.hid (invokeFaultF_some Hk.out hkl)
    have hat1 := Lib.hid (Hat1.out.below hl1')
    clear hcp hcr hb hl1'
    generalize fs[k] = y at *
    by_cases e1 : (x.ars.length : Int) = y.params
    case neg =>
      have b1 : ((x.ars.length : Int) != y.params) = true := by simpa using e1
      have E1 := Lib.hid e1
      clear e1
      go_wp2_with fail
      go_quiet (fail)
      go_wp2_with fail
      go_ret
      exact ⟨by rw [Hi.out, if_pos (Or.inl E1.out)]; rfl, Hl1.out.trans (Drawn.below (w := w1) ⟨_, rfl⟩ _)⟩
    have b1 : ((x.ars.length : Int) != y.params) = false := by simpa using e1
    have E1 := Lib.hid e1
    clear e1
    by_cases e2 : (x.ds.length : Int) = y.results
    case neg =>
      have b2 : ((x.ds.length : Int) != y.results) = true := by simpa using e2
      have E2 := Lib.hid e2
      clear e2
      go_wp2_with fail
      go_quiet (fail)
      go_wp2_with fail
      go_ret
      exact ⟨by rw [Hi.out, if_pos (Or.inr E2.out)]; rfl, Hl1.out.trans (Drawn.below (w := w1) ⟨_, rfl⟩ _)⟩
    have b2 : ((x.ds.length : Int) != y.results) = false := by simpa using e2
    have E2 := Lib.hid e2
    clear e2
    have Hres := Lib.hid (show invokeFaultF fs x = if x.ds.Nodup then 0 else 7 by
      rw [Hi.out, if_neg (by intro h; exact h.elim (fun h => h E1.out) (fun h => h E2.out))])
    go_wp2_with fail
    go_quiet (fail)
    go_wp2_with fail
    go_loopw [39] (fun i wr => ∃ n : Nat, n ≤ x.ds.length ∧ i = .int .i64 n ∧ (x.ds.take n).Nodup ∧ Drawn w1 wr) (fun i _ => x.ds.length - (intOf i).toNat)
    case atStart => exact ⟨0, Nat.zero_le _, rfl, by simp, ⟨_, rfl⟩⟩
    case round =>
      obtain ⟨n, hn, rfl, hnd, hdr⟩ := hrel
      have Hnd := Lib.hid hnd
      clear hnd
      by_cases hnl : n < x.ds.length
      · have hnl1 : (n : Int) < (x.ds.length : Int) := by omega
        obtain ⟨b1, off1, rfl, hb1, hx1⟩ := hat1.out n hnl
        have hx1' : wr.cell? ⟨b1, off1 + n, none⟩ = some (.int .i64 x.ds[n]) := by rw [hdr.cell]; exact hx1
        have bx1r : wr.cell? ⟨w.heap.size + 1, 1, none⟩ = some (.slice (some ⟨b1, off1, none⟩) x.ds.length c1) := by rw [hdr.cell]; exact bx1'
        clear hx1
        have hcon := fun cc => contains_any x.ds[n] (some ⟨b1, off1, none⟩) (x.ds.take n) cc wr (by rw [List.length_take]; omega) (IntsAt.take (hat1.out.heap hdr.heap) n)
        rw [List.length_take, Nat.min_eq_left hn] at hcon
        have Hcon := Lib.hid hcon
        have Hstep := Lib.hid (nodup_step hnl Hnd.out)
        have Hno := Lib.hid (not_nodup_mem hnl)
        clear hcon
        have hnc : (n : Int) ≤ (c1 : Int) := by omega
        generalize x.ds[n] = q at *
        go_wp2_with fail
        refine (Hcon.out _).mono ?_
        rintro e w2 ⟨rfl, rfl⟩
        by_cases hm : q ∈ x.ds.take n
        · have hmb : decide (q ∈ x.ds.take n) = true := decide_eq_true hm
          have Hnn := Lib.hid (Hno.out hm)
          rw [hmb]
          clear hm hmb
          go_wp2_with fail
          go_ret
          exact ⟨by rw [Hres.out, if_neg Hnn.out]; rfl, Hl1.out.trans (hdr.below _)⟩
        · have hmb : decide (q ∈ x.ds.take n) = false := decide_eq_false hm
          have Hnn := Lib.hid (Hstep.out hm)
          rw [hmb]
          clear hm hmb
          go_wp2_with fail
          go_roundw
          case rel => exact ⟨n + 1, by omega, by go_num, Hnn.out, hdr⟩
          case measure => simp [intOf]; omega
      · have hne : n = x.ds.length := by omega
        have Hnn := Lib.hid (show x.ds.Nodup by have := Hnd.out; rw [hne, List.take_length] at this; exact this)
        subst hne
        clear Hnd
        go_wp2_with fail
        go_ret
        exact ⟨by rw [Hres.out, if_pos Hnn.out]; rfl, Hl1.out.trans (hdr.below _)⟩
end Go.Proofs.YtaomlfbcfmmhlaaDoor

/-
  vm.rules (a map that each call makes), vm.ends, vm.function, the closures of vm's checks: contracts.
-/
namespace Go.Proofs.YtaomlfbcfmmhlaaDoor
open Go.RowKit Go.Pst
set_option linter.unusedVariables false

/-- vm.rules: how many results, arguments, places (-1: as many as it says); none: there is no such operator. -/
def ruleM (k : Nat) : Option (Int × Int × Int) :=
  if 1 ≤ k ∧ k ≤ 13 then some (ruleF k) else if k = 21 then some (1, 0, 0) else if k = 22 then some (0, 1, 0) else none
def row3 (r : Int × Int × Int) : Value := .agg #[.int .i64 r.1, .int .i64 r.2.1, .int .i64 r.2.2]
def rulesI : IMap Int := [(1, row3 (1, 0, 0)), (2, row3 (1, 1, 0)), (3, row3 (1, 2, 0)), (4, row3 (1, 1, 0)), (5, row3 (0, 2, 0)), (6, row3 (1, 1, 0)), (7, row3 (-1, -1, 0)), (8, row3 (0, -1, 0)), (9, row3 (0, 0, 1)), (10, row3 (0, 1, 2)), (11, row3 (0, 1, -1)), (12, row3 (0, -1, 0)), (13, row3 (0, 0, 0)), (21, row3 (1, 0, 0)), (22, row3 (0, 1, 0))]
theorem rulesI_at (k : Nat) : lookI rulesI (k : Int) = (ruleM k).map row3 := by
  by_cases h : k ≤ 22
  · have : k = 0 ∨ k = 1 ∨ k = 2 ∨ k = 3 ∨ k = 4 ∨ k = 5 ∨ k = 6 ∨ k = 7 ∨ k = 8 ∨ k = 9 ∨ k = 10 ∨ k = 11 ∨ k = 12 ∨ k = 13 ∨ k = 14 ∨ k = 15 ∨ k = 16 ∨ k = 17 ∨ k = 18 ∨ k = 19 ∨ k = 20 ∨ k = 21 ∨ k = 22 := by omega
    rcases this with rfl | rfl | rfl | rfl | rfl | rfl | rfl | rfl | rfl | rfl | rfl | rfl | rfl | rfl | rfl | rfl | rfl | rfl | rfl | rfl | rfl | rfl | rfl <;> rfl
  · have hm : ruleM k = none := by unfold ruleM; rw [if_neg (by omega), if_neg (by omega), if_neg (by omega)]
    rw [hm]
    unfold rulesI
    repeat (unfold lookI; rw [if_neg (by omega)])
    rfl
theorem rulesI_neg (x : Int) (h : x < 0) : lookI rulesI x = none := by
  unfold rulesI
  repeat (unfold lookI; rw [if_neg (by omega)])
  rfl

set_option maxRecDepth 4000 in
set_option maxHeartbeats 2000000 in
theorem vmRules_any (w : World) :
    Calls Tryd.prog 183 #[] w fun e w' => e = .returned (.map (some w.heap.size)) ∧ MapI w' w.heap.size rulesI ∧ Below w.heap.size w w' ∧ w.heap.size < w'.heap.size := by
  have hmk := @run_makeMap Tryd.prog
  have hm := MapI.made Int w
  have hb : Below w.heap.size w (w.alloc (.map #[] 0)) := (Below.refl _ _).alloc (Nat.le_refl _) _
  have hlt : w.heap.size < (w.alloc (.map #[] 0)).heap.size := by simp
  go_enter Tryd.func183, Tryd.ntmps183
  go_wp2_with (first | (refine wpList_insertI (κ := Int) rfl _ _ _ 228 rfl Tryd.underlying228 Tryd.underlying3 w.heap.size _ rfl hm _ _ rfl rfl ?_; clear hm; intro w1 hm hgr; replace hb := hb.grown hgr (Nat.le_of_lt hlt) (fun k hk => by cases hk; exact Nat.le_refl _); replace hlt := Nat.lt_of_lt_of_le hlt hgr.size; clear hgr))
  go_ret
  exact ⟨rfl, hm, hb, hlt⟩
end Go.Proofs.YtaomlfbcfmmhlaaDoor

/-
  vm.function, vm.checkInvoke: contracts.
-/
namespace Go.Proofs.YtaomlfbcfmmhlaaDoor
open Go.RowKit Go.Pst
set_option linter.unusedVariables false

theorem named3_answers (s : ByteArray) (fs : List PCode) (w : World) (blk : Nat) (hlt : blk < w.heap.size) (hc : w.cell? ⟨blk, 0, none⟩ = some (.string s)) :
    AnswersC Tryd.prog 154 #[.pointer (some ⟨blk, 0, none⟩)] (fun c => decide (c.name = s)) fs w := by
  intro x _ cs w' hx hb
  have hc' : w'.cell? ⟨blk, 0, none⟩ = some (.string s) := (hb.cell (p := ⟨blk, 0, none⟩) hlt).trans hc
  obtain ⟨v5, rfl, -, -⟩ := hx
  have hlt' : blk < w'.heap.size := Nat.lt_of_lt_of_le hlt hb.size
  by_cases h : x.name = s
  · have h1 := str_eq h
    have Hh := Lib.hid h
    clear h
    go_enter Tryd.func154, Tryd.ntmps154
    go_wp2_with fail
    go_ret
    exact ⟨by simp [Hh.out], (Below.refl _ _).alloc (Nat.le_refl _) _⟩
  · have h1 := str_ne h
    have Hh := Lib.hid h
    clear h
    go_enter Tryd.func154, Tryd.ntmps154
    go_wp2_with fail
    go_ret
    exact ⟨by simp [Hh.out], (Below.refl _ _).alloc (Nat.le_refl _) _⟩

set_option maxHeartbeats 400000 in
theorem vmFunction_any (s : ByteArray) (fs : List PCode) (v0 v1 : Value) (w : World) (h : rCodes (fun _ => True) w [v0] fs) :
    Calls Tryd.prog 115 #[.agg #[v0, v1], .string s] w fun e w' => e = .returned (.int .i64 (nameAt s fs)) ∧ Below w.heap.size w w' := by
  have h0 := h
  obtain ⟨a, cap, rfl, -⟩ := rCodes_val h
  have H := Lib.hid h0
  clear h h0
  have hent := enters_of (P := Tryd.prog) Tryd.func154 (by kernel_rfl) (by kernel_rfl)
  have Hent := Lib.hid hent
  clear hent
  go_enter Tryd.func115, Tryd.ntmps115
  go_wp2_with fail
  generalize hw0 : (w.alloc (.cells #[.slice a fs.length cap, v1] 25)).alloc (.cells #[.string s] 9) = w0
  have hbel : Below w.heap.size w w0 := by rw [← hw0]; exact below_box2 _ _ _
  have hsz : w0.heap.size = w.heap.size + 2 := by rw [← hw0]; simp
  have bn : w0.cell? ⟨w.heap.size + 1, 0, none⟩ = some (.string s) := by rw [← hw0, box2_2]; rfl
  clear hw0
  refine (indexFuncC_any 154 #[.pointer (some ⟨w.heap.size + 1, 0, none⟩)] (fun c => decide (c.name = s)) a fs cap w0 (Good.kept (Keep.of_below' hbel (fun k hk _ => hk)) H.out) Hent.out (named3_answers s fs w0 _ (by omega) bn)).mono ?_
  rintro e w1 ⟨rfl, hb1⟩
  have Hb := Lib.hid (hbel.trans (hb1.mono (by omega)))
  clear hb1 hbel bn
  go_wp2_with fail
  go_ret
  exact ⟨rfl, Hb.out⟩

set_option maxRecDepth 4000 in
set_option maxHeartbeats 1000000 in
theorem vmInvoke_any (fs : List PCode) (p0 p1 : Value) (x : PInstr) (xcs : List Value) (w : World) (hp : rCodes (fun _ => True) w [p0] fs) (hx : rInstr (fun _ => True) w xcs x) :
    Calls Tryd.prog 186 #[.agg #[p0, p1], .agg xcs.toArray] w fun e w' => e = .returned (.int .i64 (invokeFaultF fs x)) ∧ Below w.heap.size w w' := by
  obtain ⟨v1, v2, v6, rfl, -, h1, h2, -⟩ := hx
  obtain ⟨a1, c1, rfl, hcap1, hmax1, -⟩ := rInts_val h1
  obtain ⟨a1', c1', he1, hl1, hat1, -⟩ := rInts_open h1
  obtain ⟨rfl, rfl⟩ : a1 = a1' ∧ c1 = c1' := by simpa using he1
  clear he1
  unfold maxLen at hmax1
  obtain ⟨a2, c2, rfl, hl2, -, -⟩ := rInts_open h2
  obtain ⟨ap, cp, rfl, hcapp, hmaxp, hatp⟩ := rCodes_val hp
  unfold maxLen at hmaxp
  have Hat1 := Lib.hid hat1
  have Hatp := Lib.hid hatp
  have Hp := Lib.hid hp
  clear hat1 hatp h1 h2 hp
  go_enter Tryd.func186, Tryd.ntmps186
  go_wp2_with fail
  generalize hw0 : (w.alloc (.cells #[.slice ap fs.length cp, p1] 25)).alloc (.cells #[.int .i64 x.op, .slice a1 x.ds.length c1, .slice a2 x.ars.length c2, .int .i64 x.n, .string x.s, v6] 53) = w0
  have hbel : Below w.heap.size w w0 := by rw [← hw0]; exact below_box2 _ _ _
  have hsz : w0.heap.size = w.heap.size + 2 := by rw [← hw0]; simp
  have bp0 : w0.cell? ⟨w.heap.size, 0, none⟩ = some (.slice ap fs.length cp) := by rw [← hw0, box2_1]; rfl
  have bx1 : w0.cell? ⟨w.heap.size + 1, 1, none⟩ = some (.slice a1 x.ds.length c1) := by rw [← hw0, box2_2]; rfl
  have bx2 : w0.cell? ⟨w.heap.size + 1, 2, none⟩ = some (.slice a2 x.ars.length c2) := by rw [← hw0, box2_2]; rfl
  have bx4 : w0.cell? ⟨w.heap.size + 1, 4, none⟩ = some (.string x.s) := by rw [← hw0, box2_2]; rfl
  have hw0' := hw0
  clear hw0
  have hcal := vmFunction_any x.s fs (.slice ap fs.length cp) p1 w0 (Good.kept (Keep.of_below' hbel (fun k hk _ => hk)) Hp.out)
  have bp1 : w0.cell? ⟨w.heap.size, 1, none⟩ = some p1 := by rw [← hw0', box2_1]; rfl
  have Hcal := Lib.hid hcal
  clear hcal hw0'
  go_wp2_with fail
  refine (Hcal.out).mono ?_
  rintro e w1 ⟨rfl, hb1⟩
  have hl1' : Below w.heap.size w w1 := hbel.trans (hb1.mono (by omega))
  have bp0' := (hb1.cell (p := ⟨w.heap.size, 0, none⟩) (by show w.heap.size < w0.heap.size; omega)).trans bp0
  have bx1' := (hb1.cell (p := ⟨w.heap.size + 1, 1, none⟩) (by show w.heap.size + 1 < w0.heap.size; omega)).trans bx1
  have bx2' := (hb1.cell (p := ⟨w.heap.size + 1, 2, none⟩) (by show w.heap.size + 1 < w0.heap.size; omega)).trans bx2
  clear bp0 bp1 bx1 bx2 bx4 Hcal hb1 hbel
  have Hl1 := Lib.hid hl1'
  rcases firstOf_spec (fun c : PCode => decide (c.name = x.s)) fs 0 with ⟨hk, -⟩ | ⟨k, hkl, hk, -, -⟩
  · have Hk := Lib.hid (show nameAt x.s fs = -1 from hk)
    rw [Hk.out]
    clear hk
    go_wp2_with fail
    go_ret
    exact ⟨by rw [invokeFaultF_none Hk.out]; rfl, Hl1.out⟩
  · have hk' : firstOf (fun c : PCode => decide (c.name = x.s)) fs 0 = (k : Int) := by simpa using hk
    have Hk := Lib.hid (show nameAt x.s fs = (k : Int) from hk')
    rw [Hk.out]
    clear hk hk'
    obtain ⟨b, off, v5, rfl, -, hb, -, hcp, hcr, -⟩ := Hatp.out k hkl
    have hkl1 : (k : Int) < (fs.length : Int) := by omega
    have hcp' := (hl1'.cell (p := ⟨b, off + k * 6 + 1, none⟩) hb).trans hcp
    have hcr' := (hl1'.cell (p := ⟨b, off + k * 6 + 2, none⟩) hb).trans hcr
    have Hi := Lib.hid (invokeFaultF_some Hk.out hkl)
    have hat1 := Lib.hid (Hat1.out.below hl1')
    clear hcp hcr hb hl1'
    generalize fs[k] = y at *
    by_cases e1 : (x.ars.length : Int) = y.params
    case neg =>
      have b1 : ((x.ars.length : Int) != y.params) = true := by simpa using e1
      have E1 := Lib.hid e1
      clear e1
      go_wp2_with fail
      go_quiet (fail)
      go_wp2_with fail
      go_ret
      exact ⟨by rw [Hi.out, if_pos (Or.inl E1.out)]; rfl, Hl1.out.trans (Drawn.below (w := w1) ⟨_, rfl⟩ _)⟩
    have b1 : ((x.ars.length : Int) != y.params) = false := by simpa using e1
    have E1 := Lib.hid e1
    clear e1
    by_cases e2 : (x.ds.length : Int) = y.results
    case neg =>
      have b2 : ((x.ds.length : Int) != y.results) = true := by simpa using e2
      have E2 := Lib.hid e2
      clear e2
      go_wp2_with fail
      go_quiet (fail)
      go_wp2_with fail
      go_ret
      exact ⟨by rw [Hi.out, if_pos (Or.inr E2.out)]; rfl, Hl1.out.trans (Drawn.below (w := w1) ⟨_, rfl⟩ _)⟩
    have b2 : ((x.ds.length : Int) != y.results) = false := by simpa using e2
    have E2 := Lib.hid e2
    clear e2
    have Hres := Lib.hid (show invokeFaultF fs x = if x.ds.Nodup then 0 else 7 by
      rw [Hi.out, if_neg (by intro h; exact h.elim (fun h => h E1.out) (fun h => h E2.out))])
    go_wp2_with fail
    go_quiet (fail)
    go_wp2_with fail
    go_loopw [39] (fun i wr => ∃ n : Nat, n ≤ x.ds.length ∧ i = .int .i64 n ∧ (x.ds.take n).Nodup ∧ Drawn w1 wr) (fun i _ => x.ds.length - (intOf i).toNat)
    case atStart => exact ⟨0, Nat.zero_le _, rfl, by simp, ⟨_, rfl⟩⟩
    case round =>
      obtain ⟨n, hn, rfl, hnd, hdr⟩ := hrel
      have Hnd := Lib.hid hnd
      clear hnd
      by_cases hnl : n < x.ds.length
      · have hnl1 : (n : Int) < (x.ds.length : Int) := by omega
        obtain ⟨b1, off1, rfl, hb1, hx1⟩ := hat1.out n hnl
        have hx1' : wr.cell? ⟨b1, off1 + n, none⟩ = some (.int .i64 x.ds[n]) := by rw [hdr.cell]; exact hx1
        have bx1r : wr.cell? ⟨w.heap.size + 1, 1, none⟩ = some (.slice (some ⟨b1, off1, none⟩) x.ds.length c1) := by rw [hdr.cell]; exact bx1'
        clear hx1
        have hcon := fun cc => contains_any x.ds[n] (some ⟨b1, off1, none⟩) (x.ds.take n) cc wr (by rw [List.length_take]; omega) (IntsAt.take (hat1.out.heap hdr.heap) n)
        rw [List.length_take, Nat.min_eq_left hn] at hcon
        have Hcon := Lib.hid hcon
        have Hstep := Lib.hid (nodup_step hnl Hnd.out)
        have Hno := Lib.hid (not_nodup_mem hnl)
        clear hcon
        have hnc : (n : Int) ≤ (c1 : Int) := by omega
        generalize x.ds[n] = q at *
        go_wp2_with fail
        refine (Hcon.out _).mono ?_
        rintro e w2 ⟨rfl, rfl⟩
        by_cases hm : q ∈ x.ds.take n
        · have hmb : decide (q ∈ x.ds.take n) = true := decide_eq_true hm
          have Hnn := Lib.hid (Hno.out hm)
          rw [hmb]
          clear hm hmb
          go_wp2_with fail
          go_ret
          exact ⟨by rw [Hres.out, if_neg Hnn.out]; rfl, Hl1.out.trans (hdr.below _)⟩
        · have hmb : decide (q ∈ x.ds.take n) = false := decide_eq_false hm
          have Hnn := Lib.hid (Hstep.out hm)
          rw [hmb]
          clear hm hmb
          go_wp2_with fail
          go_roundw
          case rel => exact ⟨n + 1, by omega, by go_num, Hnn.out, hdr⟩
          case measure => simp [intOf]; omega
      · have hne : n = x.ds.length := by omega
        have Hnn := Lib.hid (show x.ds.Nodup by have := Hnd.out; rw [hne, List.take_length] at this; exact this)
        subst hne
        clear Hnd
        go_wp2_with fail
        go_ret
        exact ⟨by rw [Hres.out, if_pos Hnn.out]; rfl, Hl1.out.trans (hdr.below _)⟩
end Go.Proofs.YtaomlfbcfmmhlaaDoor

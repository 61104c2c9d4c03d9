/-
  Texts joined: TyName.
-/
import Derived.Test.YtaomlfbcfmmhlaaDoorTCB
import Derived.Test.YtaomlfbcfmmhlaaDoorTCA
import Derived.Test.YtaomlfbcfmmhlaaDoorProg
import Derived.Lib.ConvBytes

/-
  typed.keywords, typed.name: contracts.
-/
namespace Go.Proofs.YtaomlfbcfmmhlaaDoor
open Go.RowKit Go.Pst
set_option linter.unusedVariables false
set_option linter.unusedSimpArgs false

/-- Block b is a map of just these words. -/
def MapK (w : World) (b : Nat) (ws : List ByteArray) : Prop := ∃ m : IMap ByteArray, MapI w b m ∧ ∀ y, lookI m y = if (ws.any fun x => decide (x = y)) = true then some (.bool true) else none
theorem MapK.made (w : World) : MapK (w.alloc (.map #[] 0)) w.heap.size [] := ⟨[], MapI.made ByteArray w, fun y => by simp [lookI]⟩
theorem wpList_insertK {P : Program} {w : World} {b : Nat} {kt et : TypeId} {ops : Array Oper} {rest : List Oper} {o : Oper} {a : Act} {Q : Exit → Act → World → Prop}
    (hg : o.guard = none) (mo xo vo : Operand) (t : TypeId) (hop : o.op = Op.insert t mo xo vo) (ht : P.underlying t = some (.map kt et)) (hk : P.underlying kt = some .string)
    (ws : List ByteArray) (hm : a.eval mo = .map (some b)) (h : MapK w b ws) (x : ByteArray) (hx : a.eval xo = .string x) (hv : a.eval vo = .bool true)
    (hK : ∀ w', MapK w' b (x :: ws) → w.grownBy w' (some b) → wpList P ops Q rest (a.put o.dst undef) w') : wpList P ops Q (o :: rest) a w := by
  obtain ⟨m, h1, h2⟩ := h
  refine wpList_insertI (κ := ByteArray) hg mo xo vo t hop ht hk b m hm h1 x (.bool true) hx hv (fun w' h3 hgr => hK w' ⟨_, h3, fun y => ?_⟩ hgr)
  by_cases e : x = y
  · subst e
    rw [lookI_put_same]
    simp
  · have e' : decide (x = y) = false := decide_eq_false e
    rw [lookI_put_other _ _ e, h2, List.any_cons, e', Bool.false_or]
def wordsB : List ByteArray := wordsT.map fun l => ⟨l.toArray⟩
theorem any_wordsB (y : ByteArray) : (wordsB.any fun x => decide (x = y)) = wordsT.contains y.toList := by
  unfold wordsB
  rw [List.any_map, List.contains_eq_any_beq]
  congr 1
  funext l
  show decide ((⟨l.toArray⟩ : ByteArray) = y) = (y.toList == l)
  by_cases e : (⟨l.toArray⟩ : ByteArray) = y
  · subst e
    simp [ByteArray.toList_mk]
  · have : ¬ y.toList = l := fun h => e (by rw [← h, ByteArray.toList_eq])
    simp [e, this]

set_option maxRecDepth 10000 in
set_option maxHeartbeats 4000000 in
theorem typedKeywords_any (w : World) :
    Calls Tryd.prog 81 #[] w fun e w' => e = .returned (.map (some w.heap.size)) ∧ (∃ m : IMap ByteArray, MapI w' w.heap.size m ∧ ∀ y, lookI m y = if wordsT.contains y.toList = true then some (.bool true) else none) ∧ Below w.heap.size w w' := by
  have hmk := @run_makeMap Tryd.prog
  have hm := MapK.made w
  have hb : Below w.heap.size w (w.alloc (.map #[] 0)) := (Below.refl _ _).alloc (Nat.le_refl _) _
  have hlt : w.heap.size < (w.alloc (.map #[] 0)).heap.size := by simp
  go_enter Tryd.func81, Tryd.ntmps81
  go_wp2_with (first | (refine wpList_insertK rfl _ _ _ 128 rfl Tryd.underlying128 Tryd.underlying9 _ rfl hm _ rfl rfl ?_; clear hm; intro w1 hm hgr; replace hb := hb.grown hgr (Nat.le_of_lt hlt) (fun k hk => by cases hk; exact Nat.le_refl _); replace hlt := Nat.lt_of_lt_of_le hlt hgr.size; clear hgr))
  go_ret
  obtain ⟨m, h1, h2⟩ := hm
  refine ⟨rfl, ⟨m, h1, fun y => ?_⟩, hb⟩
  rw [h2 y, ← any_wordsB y, ← List.any_reverse]
  rfl

/-- Is a byte no letter, and no digit? -/
def oddB (c : UInt8) : Bool := !(smallB c || digitB c)
theorem typedName1_any (c : UInt8) (w : World) :
    Calls Tryd.prog 83 #[.int .u8 c.toNat] w fun e w' => e = .returned (.bool (oddB c)) ∧ w = w' := by
  have h255 : c.toNat < 256 := c.toNat_lt
  go_enter Tryd.func83, Tryd.ntmps83
  go_wp2_with fail
  all_goals go_ret
  all_goals refine ⟨?_, rfl⟩
  all_goals congr 2
  all_goals unfold oddB smallB digitB
  all_goals
    show Value.bool _ = Value.bool _
    congr 1
    rw [Bool.eq_iff_iff]
    simp only [Bool.not_eq_true', Bool.or_eq_false_iff, Bool.and_eq_false_iff, Bool.and_eq_true, Bool.or_eq_true, decide_eq_true_eq, decide_eq_false_iff_not, iff_true, true_iff, false_iff, iff_false, Bool.false_eq_true] at *
    omega
theorem indexBytes_any (b : Nat) (l : List UInt8) (n cap : Nat) (w : World) (hn : n = l.length) (hl : n ≤ 9223372036854775807) (hat : ∀ i (h : i < l.length), w.cell? ⟨b, i, none⟩ = some (.int .u8 l[i].toNat)) :
    Calls Tryd.prog 138 #[.slice (some ⟨b, 0, none⟩) n cap, .func (.func 83) #[] #[]] w fun e w' => (∃ k : Int, e = .returned (.int .i64 k) ∧ decide (0 ≤ k) = l.any oddB) ∧ w = w' := by
  have Hat := Lib.hid hat
  clear hat
  go_enter Tryd.func138, Tryd.ntmps138
  go_wp2_with fail
  go_loop [8] (fun i => ∃ k : Nat, k ≤ l.length ∧ i = .int .i64 k ∧ (l.take k).any oddB = false) (fun i => l.length - (intOf i).toNat)
  case atStart => exact ⟨0, Nat.zero_le _, rfl, by simp⟩
  case round =>
    obtain ⟨k, hk, rfl, hf⟩ := hrel
    have Hf := Lib.hid hf
    have Hn := Lib.hid hn
    clear hf
    by_cases hlt : k < l.length
    · have hlt1 : (k : Int) < (n : Int) := by omega
      have hk0 : (0 : Int) ≤ k := by omega
      have hc := Hat.out k hlt
      have Ht := Lib.hid (show (l.take (k + 1)).any oddB = oddB l[k] by rw [List.take_succ_eq_append_getElem hlt, List.any_append, Hf.out]; simp)
      have Hm := Lib.hid (List.getElem_mem hlt)
      have hwk : IntKind.i64.wrap ((k : Int) + 1) = (k : Int) + 1 := IntWalk.i64_in _ (by omega)
      clear hn
      generalize l[k] = c at *
      cases ho : oddB c with
      | false =>
        go_wp2_with (first | (go_at_call 83; refine (typedName1_any c _).mono ?_; rintro e w' ⟨rfl, rfl⟩; rw [ho]))
        exact ⟨⟨k + 1, by omega, by simp, by rw [Ht.out, ho]⟩, by simp only [intOf]; omega⟩
      | true =>
        go_wp2_with (first | (go_at_call 83; refine (typedName1_any c _).mono ?_; rintro e w' ⟨rfl, rfl⟩; rw [ho]))
        go_ret
        refine ⟨⟨_, rfl, ?_⟩, rfl⟩
        rw [List.any_eq_true.2 ⟨c, Hm.out, ho⟩]
        simp
    · have hke : k = l.length := by omega
      have hlt1 : ¬ ((k : Int) < (n : Int)) := by omega
      clear hn
      go_wp2_with fail
      go_ret
      refine ⟨⟨_, rfl, ?_⟩, rfl⟩
      have := Hf.out
      rw [hke, List.take_length] at this
      rw [this]
      rfl
theorem containsBytes_any (b : Nat) (l : List UInt8) (n cap : Nat) (w : World) (hn : n = l.length) (hl : n ≤ 9223372036854775807) (hat : ∀ i (h : i < l.length), w.cell? ⟨b, i, none⟩ = some (.int .u8 l[i].toNat)) :
    Calls Tryd.prog 82 #[.slice (some ⟨b, 0, none⟩) n cap, .func (.func 83) #[] #[]] w fun e w' => e = .returned (.bool (l.any oddB)) ∧ w = w' := by
  have hc := indexBytes_any b l n cap w hn hl hat
  have Hc := Lib.hid hc
  clear hc hn hat
  go_enter Tryd.func82, Tryd.ntmps82
  go_wp2_with fail
  refine Hc.out.mono ?_
  rintro e w1 ⟨⟨k, rfl, hk⟩, rfl⟩
  go_wp2_with fail
  go_ret
  exact ⟨by rw [← hk]; rfl, rfl⟩

theorem zero_bool (w : World) : (zeroValue 4).run Tryd.prog w = .ok (.bool false) w := by kernel_rfl
theorem nameB_no {l : List UInt8} {c : UInt8} {r : List UInt8} (h : l = c :: r) (hc : smallB c = false) : nameB l = false := by
  subst h
  unfold nameB
  simp only [hc, Bool.and_false, Bool.false_and]
theorem nameB_yes {l : List UInt8} {c : UInt8} {r : List UInt8} (h1 : 1 ≤ l.length) (h2 : l.length ≤ 12) (hk : wordsT.contains l = false) (h : l = c :: r) (hc : smallB c = true) : nameB l = !(l.any oddB) := by
  unfold nameB
  rw [decide_eq_true h1, decide_eq_true h2, hk]
  subst h
  simp only [hc, Bool.and_true, Bool.true_and, Bool.not_false, ← List.all_eq_not_any_not] at *
  rw [List.not_any_eq_all_not]
  congr 1
  funext x
  unfold oddB
  simp
theorem bytesWorld_below (w : World) (e : TypeId) (s : ByteArray) : Below w.heap.size w (Lib.bytesWorld w e s) :=
  ⟨rfl, rfl, rfl, by rw [Lib.bytesWorld_size]; omega, fun k hk => Lib.bytesWorld_at_old w e s k hk⟩
set_option maxRecDepth 10000 in
set_option maxHeartbeats 1000000 in
theorem typedName_any (s : ByteArray) (w : World) (hs : s.size ≤ maxLen) :
    Calls Tryd.prog 43 #[.string s] w fun e w' => e = .returned (.bool (nameB s.toList)) ∧ Below w.heap.size w w' := by
  have hl : s.toList.length = s.size := by rw [ByteArray.toList_eq]; simp
  by_cases h0 : s.size = 0
  · have hz : s.toList.isEmpty = true := by rw [List.isEmpty_iff]; exact List.eq_nil_of_length_eq_zero (by omega)
    have hr : nameB s.toList = false := by unfold nameB; rw [decide_eq_false (by omega : ¬ 1 ≤ s.toList.length)]; simp
    have Hr := Lib.hid hr
    clear hr
    go_enter Tryd.func43, Tryd.ntmps43
    go_wp2_with fail
    go_ret
    exact ⟨by rw [Hr.out]; rfl, Below.refl _ _⟩
  have hz : s.toList.isEmpty = false := by
    cases hh : s.toList.isEmpty with
    | false => rfl
    | true => rw [List.isEmpty_iff] at hh; rw [hh] at hl; simp at hl; omega
  by_cases h12 : 12 < s.size
  · have d1 : decide ((s.size : Int) > 12) = true := decide_eq_true (by omega)
    have hr : nameB s.toList = false := by unfold nameB; rw [decide_eq_false (by omega : ¬ s.toList.length ≤ 12)]; simp
    have Hr := Lib.hid hr
    clear hr
    go_enter Tryd.func43, Tryd.ntmps43
    go_wp2_with fail
    go_ret
    exact ⟨by rw [Hr.out]; rfl, Below.refl _ _⟩
  have d1 : decide ((s.size : Int) > 12) = false := decide_eq_false (by omega)
  obtain ⟨c, r, hcr⟩ : ∃ c r, s.toList = c :: r := by
    cases hh : s.toList with
    | nil => rw [hh] at hl; simp at hl; omega
    | cons c r => exact ⟨c, r, rfl⟩
  cases hk : wordsT.contains s.toList with
  | true =>
    have hr : nameB s.toList = false := by unfold nameB; rw [hk]; simp
    have Hr := Lib.hid hr
    clear hr hcr
    go_enter Tryd.func43, Tryd.ntmps43
    go_wp2_with (first | (go_at_call 81; refine (typedKeywords_any _).mono ?_; rintro e w1 ⟨rfl, ⟨m, hm, hlook⟩, hb⟩; have hlk : (lookI m s).getD (.bool false) = .bool true := (by simp only [hlook, hk, if_true, Option.getD_some]); clear hlook; have hrun : (Instr.lookup 128 (.map (some w.heap.size)) (.string s) false).run Tryd.prog w1 = .ok (.bool true) w1 := (hm.lookup (κ := ByteArray) Tryd.underlying128 Tryd.underlying9 (zero_bool w1) s false).trans (by simp only [Bool.false_eq_true, if_false, hlk]); have Hb := Lib.hid hb; clear hb hm hlk))
    go_ret
    exact ⟨by rw [Hr.out]; rfl, Hb.out⟩
  | false =>
    have Hdl := Lib.hid (show s.size = s.data.toList.length by simp)
    have Hs0 := Lib.hid (show ∀ h : 0 < s.size, s[0] = c from fun h => by
      have h1 : s.data.toList[0]? = some c := by rw [← ByteArray.toList_eq, hcr]; rfl
      have h2 : s.data.toList[0]? = some s[0] := by
        rw [List.getElem?_eq_getElem (by simpa using h)]
        rfl
      rw [h1] at h2
      exact (Option.some.inj h2).symm)
    obtain ⟨bb, hbb⟩ : ∃ bb, bb = s.data.toList.any oddB := ⟨_, rfl⟩
    have Hbb := Lib.hid hbb
    have Hl := Lib.hid hl
    have Hk := Lib.hid hk
    have Hcr := Lib.hid hcr
    clear hl hcr hbb
    go_enter Tryd.func43, Tryd.ntmps43
    go_wp2_with (first | (go_at_call 81; refine (typedKeywords_any _).mono ?_; rintro e w1 ⟨rfl, ⟨m, hm, hlook⟩, hb⟩; have hlk : (lookI m s).getD (.bool false) = .bool false := (by simp only [hlook, hk, Bool.false_eq_true, if_false, Option.getD_none]); clear hlook; have hrun : (Instr.lookup 128 (.map (some w.heap.size)) (.string s) false).run Tryd.prog w1 = .ok (.bool false) w1 := (hm.lookup (κ := ByteArray) Tryd.underlying128 Tryd.underlying9 (zero_bool w1) s false).trans (by simp only [Bool.false_eq_true, if_false, hlk]); have Hb := Lib.hid hb; have hconv := Lib.run_convert_string_bytes (P := Tryd.prog) w1 9 131 5 s Tryd.underlying9 Tryd.underlying131 Tryd.underlying5; have Hcb := Lib.hid (containsBytes_any w1.heap.size s.data.toList s.size (grownCap w1 s.size 0 5) (Lib.bytesWorld w1 5 s) Hdl.out (by unfold maxLen at hs; omega) (fun i hi => (by rw [Lib.bytesWorld_cell w1 5 s i (by have := Hdl.out; omega), List.getD_eq_getElem?_getD, List.getElem?_eq_getElem hi]; rfl))); rw [← Hbb.out] at Hcb; clear hb hm hlk) | (go_at_call 82; refine Hcb.out.mono ?_; rintro e w2 ⟨rfl, rfl⟩))
    all_goals go_ret
    · rename_i z0 z1 z2
      rw [Hs0.out z0] at z1 z2
      refine ⟨?_, Hb.out⟩
      rw [nameB_no Hcr.out (by unfold smallB; simp only [Bool.and_eq_false_iff, decide_eq_false_iff_not]; omega)]
      rfl
    · rename_i z0 z1 z2
      rw [Hs0.out z0] at z1 z2
      refine ⟨?_, Hb.out.trans ((bytesWorld_below w1 5 s).mono Hb.out.size)⟩
      rw [nameB_yes (by rw [Hl.out]; omega) (by rw [Hl.out]; omega) Hk.out Hcr.out (by unfold smallB; simp only [Bool.and_eq_true, decide_eq_true_eq]; omega), ByteArray.toList_eq, ← Hbb.out]
      rfl
    · rename_i z0 z1
      rw [Hs0.out z0] at z1
      refine ⟨?_, Hb.out⟩
      rw [nameB_no Hcr.out (by unfold smallB; simp only [Bool.and_eq_false_iff, decide_eq_false_iff_not]; omega)]
      rfl
end Go.Proofs.YtaomlfbcfmmhlaaDoor

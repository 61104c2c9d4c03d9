import Derived.Test.YtaomlfbcfmmhlaaDoorTCZB
import Derived.Test.YtaomlfbcfmmhlaaDoorTCZS
import Derived.Test.YtaomlfbcfmmhlaaDoorTCH
import Derived.Test.YtaomlfbcfmmhlaaDoorCards
import Derived.Test.YtaomlfbcfmmhlaaDoorTie
import Derived.SevenTiedAt
import Derived.ProofKit
import Derived.ChangeOld
import Derived.OpenShut
import Derived.Deep.DeepHandedRow
import Derived.Deep.DeepWitnessRowRef

/-
  Proved here: the tied card Rows.TypedChecksUptoCardSaid: where what it reads is of bulk at most 1048576, typed.Check answers what the reference's TypesFault answers.
-/
namespace Go.Proofs.YtaomlfbcfmmhlaaDoor.typedChecks
open Go.ChangeShapes Go.WideShapes Go.ChangeAt Go.RowKit Go.Pst
set_option linter.unusedVariables false
set_option linter.unusedSimpArgs false

theorem types : Types Tryd.prog 3 9 23 213 138 141 73 143 139 :=
  ⟨Tryd.underlying3, Tryd.underlying9, Tryd.underlying23, Tryd.underlying213, Tryd.underlying138, Tryd.underlying141, Tryd.underlying73, Tryd.underlying143, Tryd.underlying139, by kernel_rfl, by kernel_rfl⟩
theorem typesF : TypesF Tryd.prog 3 9 73 90 72 75 32 :=
  ⟨Tryd.underlying90, Tryd.underlying72, Tryd.underlying75, Tryd.underlying32, by kernel_rfl, by kernel_rfl⟩
theorem opens_funcs_here {H : Type} (enc : TypeId × Value → H) (w : World) (fuel : Nat) : OpensB enc Tryd.prog w fuel 32 (rFuncs fuel) (fun l => l.length ≤ 1048576 ∧ ∀ f ∈ l, BdF fuel f) (fun _ => 0) := opensB_funcs types typesF fuel

/-- The cells of a row of functions. -/
theorem funcs_news {d : Nat} {w : World} {b off cap : Nat} {fs : List PFunc} (hf : rFuncs d (fun _ => True) w [.slice (some ⟨b, off, none⟩) fs.length cap] fs) :
    ∃ news : List Value, news.length = fs.length * 4 ∧ (∀ j u, news[j]? = some u → w.cell? ⟨b, off + j, none⟩ = some u) ∧ (∀ u ∈ news, u.oneCell' = true) := by
  obtain ⟨a, c, he, _, _, hat⟩ := rFuncs_val hf
  obtain ⟨rfl, -, rfl⟩ := Value.slice.inj he
  have hex : ∀ j, j < fs.length * 4 → ∃ u, w.cell? ⟨b, off + j, none⟩ = some u ∧ u.oneCell' = true := by
    intro j hj
    obtain ⟨b', off', v1, v3, ha, _, hb, x0, x1, x2, x3, _, _, hps, hbs⟩ := hat (j / 4) (by omega)
    simp only [Option.some.injEq, Addr.mk.injEq] at ha
    obtain ⟨rfl, rfl, -⟩ := ha
    obtain ⟨a1, c1, rfl⟩ := rSlice_shape hps
    obtain ⟨a3, c3, rfl⟩ := rSlice_shape hbs
    rcases (show j % 4 = 0 ∨ j % 4 = 1 ∨ j % 4 = 2 ∨ j % 4 = 3 by omega) with h | h | h | h
    · exact ⟨_, by rw [show off + j = off + j / 4 * 4 by omega]; exact x0, rfl⟩
    · exact ⟨_, by rw [show off + j = off + j / 4 * 4 + 1 by omega]; exact x1, rfl⟩
    · exact ⟨_, by rw [show off + j = off + j / 4 * 4 + 2 by omega]; exact x2, rfl⟩
    · exact ⟨_, by rw [show off + j = off + j / 4 * 4 + 3 by omega]; exact x3, rfl⟩
  obtain ⟨l, hl, hl2⟩ := list_of_lt hex
  refine ⟨l, hl, fun j u hu => ?_, fun u hu => ?_⟩
  · obtain ⟨hj, rfl⟩ := List.getElem?_eq_some_iff.1 hu
    exact (hl2 j hj).1
  · obtain ⟨j, hj, rfl⟩ := List.mem_iff_getElem.1 hu
    exact (hl2 j hj).2
/-- A copy of a row of functions reads as the functions. -/
theorem funcs_copy {d : Nat} {w w1 : World} {B b off cap : Nat} {fs : List PFunc} {news : List Value} {v' : Value} {e : TypeId} (hf : rFuncs d (fun _ => True) w [.slice (some ⟨b, off, none⟩) fs.length cap] fs)
    (hl : news.length = fs.length * 4) (hnews : ∀ j u, news[j]? = some u → w.cell? ⟨b, off + j, none⟩ = some u) (hrow : w1.ownsRow B e 4 v' fs.length news) (hb : Below w.heap.size w w1) : rFuncs d (fun _ => True) w1 [v'] fs := by
  obtain ⟨a, c, he, _, _, hat⟩ := hf
  obtain ⟨rfl, -, rfl⟩ := Value.slice.inj (List.cons.inj he).1
  have hcells := fun g hg => hrow.cells (g := g) hg
  rcases hrow.2 with ⟨rfl, h0⟩ | ⟨g, c', cur, rfl, _, hg, h1, h2, _⟩
  · exact ⟨none, 0, by rw [h0], by omega, by decide, fun i hi => by omega⟩
  · have hadd : ∀ k, (⟨g, 0, none⟩ : Addr).add k = ⟨g, 0 + k, none⟩ := by intro k; unfold Addr.add; split <;> simp_all
    have hc : ∀ j u, news[j]? = some u → w1.cell? ⟨g, 0 + j, none⟩ = some u := fun j u hu => by rw [← hadd]; exact hcells g rfl j u hu
    clear hadd
    refine ⟨_, c', rfl, h1, h2, fun i hi => ?_⟩
    obtain ⟨b', off', es, ha, _, hbl, hel, hce, hr⟩ := hat i hi
    simp only [Option.some.injEq, Addr.mk.injEq] at ha
    obtain ⟨rfl, rfl, -⟩ := ha
    refine ⟨g, 0, es, rfl, trivial, ?_, hel, fun j hj => ?_, Good.kept (Keep.of_below' hb (fun k hk _ => hk)) hr⟩
    · have h0 := hc (i * 4) (news[i * 4]'(by omega)) (List.getElem?_eq_getElem _)
      exact ty_lt_of_cell (b := g) (o := 0 + i * 4) h0
    · have h3 : news[i * 4 + j]? = some (news[i * 4 + j]'(by omega)) := List.getElem?_eq_getElem _
      have h4 := hc _ _ h3
      have h5 := hnews _ _ h3
      have h6 := hce j hj
      rw [← Nat.add_assoc] at h5
      rw [← h6, h5, ← h4, Nat.add_assoc]

theorem Tryd.info_func : (Tryd.prog.info? 75).map (fun i => (i.zero, i.size, i.bytes)) = some (some (.agg #[.string ByteArray.empty, .slice none 0 0, .int .i64 0, .slice none 0 0]), 4, 72) := by kernel_rfl

theorem run_append_none {P : Program} {w : World} {t ty e : TypeId} {i : TypeInfo} (ht : P.underlying t = some (.slice e)) (hi : P.info? e = some i) (c : Nat) :
    (Builtin.append_ #[t, t] ty #[.slice none 0 0, .slice none 0 c]).run P w = .ok (.slice none 0 0) w := by
  simp [Builtin.append_, run_underlying ht, sizeOf, typeInfo, hi, Builtin.lenOf, Builtin.firstCells, loadCells, loadCellsFrom]
theorem wpList_append_none {P : Program} {w : World} {ops : Array Oper} {rest : List Oper} {o : Oper} {a : Act} {Q : Exit → Act → World → Prop} (hgd : o.guard = none) (s x : Operand) (t : TypeId)
    (ho : o.op = .call { callee := .builtin .append, args := #[s, x], argTypes := #[t, t] })
    (e : TypeId) (i : TypeInfo) (ht : P.underlying t = some (.slice e)) (hi : P.info? e = some i) (c : Nat) (hs : a.eval s = .slice none 0 0) (hx : a.eval x = .slice none 0 c)
    (h : wpList P ops Q rest (a.put o.dst (.slice none 0 0)) w) : wpList P ops Q (o :: rest) a w := by
  refine wpList_plain hgd fun K hK => ?_
  have hr := run_append_none (P := P) (w := w) (t := t) (ty := o.type) ht hi c
  unfold Oper.wp execOp
  simp only [ho, resolve, invoke, builtin, Sem.run_bind, Sem.run_pure, Result.andThen_ok, List.map_toArray, List.map_cons, List.map_nil, hs, hx, hr]
  exact hK _ _ h

theorem tyLaid_below {w w' : World} (h : TyLaid w w.heap.size) (hb : Below w.heap.size w w') : TyLaid w' w'.heap.size :=
  ⟨⟨Nat.lt_of_lt_of_le h.lt.1 hb.size, Nat.lt_of_lt_of_le h.lt.2 hb.size⟩, fun k h1 h2 => (hb.cell (p := ⟨_, k, none⟩) h.lt.1).trans (h.counts k h1 h2), fun k h1 h2 => (hb.cell (p := ⟨_, k, none⟩) h.lt.2).trans (h.exprs k h1 h2)⟩

theorem walk {d : Nat} {w : World} (hT : TyLaid w w.heap.size) (fs : List PFunc) (v : Value) (hf : rFuncs d (fun _ => True) w [v] fs) (hfit : fs.length ≤ 1048576 ∧ ∀ f ∈ fs, BdF d f) :
    Calls Tryd.prog 4 #[v] w fun e w' => e = .returned (.bool true) ∧ Below w.heap.size w w' := by
  obtain ⟨i0, hi0, hz0, hz1, hz2⟩ := info_parts Tryd.info_func
  obtain ⟨a, cap, rfl⟩ := rSlice_shape hf
  have Hf := Lib.hid hf
  have HT := Lib.hid hT
  have Hfit := Lib.hid hfit.2
  have hlen := hfit.1
  have Ht := Lib.hid hfit
  clear hfit hT
  -- what is behind the copy
  have rest : ∀ (v' : Value) (w1 : World), rFuncs d (fun _ => True) w1 [v'] fs → Below w.heap.size w w1 →
      Calls Tryd.prog 13 #[v'] w1 (fun e w' => e = .returned (.tuple #[.int .i64 (checkT d fs).1, .int .i64 (checkT d fs).2]) ∧ Below w1.heap.size w1 w') := fun v' w1 h1 hb =>
    typedCheck_any (tyLaid_below HT.out hb) (Good.wide h1 (fun k hk _ => hk)) (fun f hf => ⟨(Hfit.out f hf).1.1, fun y hy => ((Hfit.out f hf).1.2 y hy).1⟩)
  have rest2 : ∀ (w2 : World), Below w.heap.size w w2 →
      Calls Tryd.prog 14 #[.slice a fs.length cap] w2 (fun e w' => e = .returned (.tuple #[.int .i64 (checkT d fs).1, .int .i64 (checkT d fs).2]) ∧ Below w2.heap.size w2 w') := fun w2 hb =>
    typesFault_any (Good.wide (Good.kept (Keep.of_below' (S := fun _ => True) hb (fun k hk _ => hk)) Hf.out) (fun k hk _ => hk)) (fun f hf y hy => ((Hfit.out f hf).1.2 y hy).1) (fun f hf => ⟨(Hfit.out f hf).2, fun y hy => ((Hfit.out f hf).1.2 y hy).2⟩)
  generalize checkT d fs = R at *
  obtain ⟨r1, r2⟩ := R
  simp only at rest rest2
  clear hf
  have hnil : a = none → fs.length = 0 := by
    intro h
    obtain ⟨a', c', he, _, _, hat⟩ := rFuncs_val Hf.out
    obtain ⟨rfl, -, rfl⟩ := Value.slice.inj he
    rcases Nat.eq_zero_or_pos fs.length with h0 | h0
    · exact h0
    · obtain ⟨_, _, _, _, ha, _⟩ := hat 0 h0
      rw [h] at ha
      cases ha
  cases a with
  | none =>
    have h0 := hnil rfl
    have hf0 : fs = [] := List.eq_nil_of_length_eq_zero h0
    subst hf0
    go_enter Tryd.func4, Tryd.ntmps4
    go_wp2_with (at_builtin; refine wpList_append_none rfl _ _ 32 rfl 75 i0 Tryd.underlying32 hi0 cap rfl rfl ?_)
    refine (rest _ w (rSlice_nil _ _ _ _) (Below.refl _ _)).mono ?_
    rintro e w1 ⟨rfl, hb1⟩
    go_wp2_with fail
    refine (rest2 w1 hb1).mono ?_
    rintro e w2 ⟨rfl, hb2⟩
    go_wp2_with fail
    go_ret
    exact ⟨rfl, hb1.trans (hb2.mono hb1.size)⟩
  | some ad =>
    have hnews : ∃ news : List Value, news.length = fs.length * 4 ∧ (∀ j u, news[j]? = some u → w.cell? (ad.add j) = some u) ∧ (∀ u ∈ news, u.oneCell' = true) ∧
        ∀ (v' : Value) (w1 : World) (B : Nat) (e : TypeId), w1.ownsRow B e 4 v' fs.length news → Below w.heap.size w w1 → rFuncs d (fun _ => True) w1 [v'] fs := by
      obtain ⟨a', c', he, hle, hmax, hat⟩ := rFuncs_val Hf.out
      obtain ⟨rfl, -, rfl⟩ := Value.slice.inj he
      rcases Nat.eq_zero_or_pos fs.length with h0 | h0
      · have hf0 : fs = [] := List.eq_nil_of_length_eq_zero h0
        subst hf0
        refine ⟨[], rfl, fun j u h => by simp at h, fun u h => by simp at h, fun v' w1 B e hr _ => ?_⟩
        obtain ⟨a1, c1, rfl, h1, h2⟩ := row_slice hr
        exact ⟨a1, c1, rfl, h1, h2, fun i hi => absurd hi (Nat.not_lt_zero _)⟩
      · obtain ⟨b, off, _, _, ha, _⟩ := hat 0 h0
        cases ha
        have hadd : ∀ k, (⟨b, off, none⟩ : Addr).add k = ⟨b, off + k, none⟩ := by intro k; unfold Addr.add; split <;> simp_all
        obtain ⟨news, n1, n2, n3⟩ := funcs_news Hf.out
        exact ⟨news, n1, fun j u h => by rw [hadd]; exact n2 j u h, n3, fun v' w1 B e hr hb => funcs_copy Hf.out n1 n2 hr hb⟩
    obtain ⟨news, n1, n2, n3, n4⟩ := hnews
    have N1 := Lib.hid n1
    have N2 := Lib.hid n2
    have N3 := Lib.hid n3
    have N4 := Lib.hid n4
    clear n1 n2 n3 n4 hnil
    go_enter Tryd.func4, Tryd.ntmps4
    go_wp2_with (at_builtin; refine wpList_append_own_at _ rfl _ _ 32 rfl w.heap.size 75 i0 _ 4 72 Tryd.underlying32 hi0 hz0 hz1 hz2 rfl (by decide) (.slice none 0 0) 0 [] rfl (World.ownsRow_nil _ _ _ _) ad fs.length cap news rfl N1.out N2.out N3.out (by unfold maxLen; omega) (by omega) (Nat.le_refl _) ?_; intro v1 w1 hown1 hgrow1 hnil1 hat1; clear hnil1; rw [Nat.zero_add, List.nil_append] at hown1; have hb0 := append_below0 (World.ownsRow_nil w w.heap.size 75 4) hgrow1 (Nat.le_refl _); obtain ⟨a1, c1, rfl, -, -⟩ := row_slice hown1; have Hown := Lib.hid hown1; clear hown1 hgrow1 hat1)
    refine (rest _ w1 (N4.out _ _ _ _ Hown.out hb0) hb0).mono ?_
    rintro e w2 ⟨rfl, hb1⟩
    have hb01 := hb0.trans (hb1.mono hb0.size)
    go_wp2_with fail
    refine (rest2 w2 hb01).mono ?_
    rintro e w3 ⟨rfl, hb2⟩
    go_wp2_with fail
    go_ret
    exact ⟨rfl, hb01.trans (hb2.mono hb01.size)⟩

theorem own : ownKnob Tryd.prog.godebug = none := by kernel_rfl
theorem laidOut : laidOutB Tryd.prog = true := by kernel_rfl

set_option maxRecDepth 100000 in
theorem contract (H : Type) (enc : TypeId × Value → H) (W : World) (base : Nat) (args : Array Value) (ds gs : List (DataW H)) (before : List MemPlace)
    (hval0 : ∀ (j : Nat) t v, Tryd.f4.params[j]? = some t → args[j]? = some v → Value.okWide Tryd.prog W .any base t v)
    (hW : DataW.Whole enc Tryd.prog Tryd.f4.params.toList Rows.typedChecksSpec.vars false W args.toList ds gs before)
    (hL : laidMetH Tryd.prog Rows.typedChecksUptoRow.laid W) (hsz0 : (DataW.weightsEach Tryd.prog (Tryd.f4.params.toList ++ Rows.typedChecksSpec.plain.varTypes Tryd.prog) (ds ++ gs)).all (· ≤ reachBytes) = true)
    (hk : Rows.uptoSmall H (ds ++ gs) = true) :
    Calls Tryd.prog 4 args W fun e W' => ∃ v, e = .returned v ∧ Rows.typedChecksSpec.post enc Tryd.prog Tryd.f4 false true false false W args v W' := by
  have hsz := hsz0
  have hval : ∀ (j : Nat) t v, Tryd.f4.params[j]? = some t → args[j]? = some v → Value.okWide Tryd.prog W .any base t v := hval0
  have hW' := hW
  obtain ⟨p, q, hA0, hV, rfl, hfz, hnd⟩ := hW
  have hA : DataW.TrodAll enc Tryd.prog W 0 (fun _ => true) true Tryd.f4.params.toList args.toList ds p := hA0
  rw [Tryd.params4] at hA hval hsz
  obtain ⟨v0, vs0, d0, ds0, p0, q0, hargs, rfl, rfl, h0, r0⟩ := trodAll_cons hA
  obtain ⟨rfl, rfl, rfl⟩ := trodAll_nil r0
  obtain rfl : args = #[v0] := by cases args; simp_all
  obtain ⟨rfl, rfl⟩ := trodVars_none hV
  have hbk : Rows.uptoBulk d0 ≤ 1048576 := by simpa [Rows.uptoSmall, Rows.uptoBulkAll] using hk
  have k0 := h0
  have lt0 : ∀ x ∈ p0, x.block < W.heap.size := by obtain ⟨m, hm⟩ := k0; exact DataW.trod_lt m _ _ _ hm
  obtain ⟨fuel0, hf0⟩ := h0
  have hwt0 : ∀ n ∈ d0.weights Tryd.prog 32, n ≤ reachBytes := fun n hn => of_decide_eq_true (List.all_eq_true.1 hsz n (DataW.weights_mem_each (j := 0) rfl rfl n hn))
  obtain ⟨av0, len0, cap0, rfl⟩ := okWide_slice Tryd.underlying32 (hval 0 32 v0 rfl rfl)
  obtain ⟨x0, hx0, fit0, _⟩ := opens_funcs_here enc W fuel0 _ _ hf0 hwt0 (by omega)
  clear hA0 hval0
  have hwalk := walk (w := W) (tyLaid_of hL) x0 _ hx0 fit0
  refine hwalk.mono fun e W' ⟨he, bel⟩ => ?_
  subst he
  exact ⟨_, rfl, _, _, _, [], _, [], hW', trodAll_mk1 (shut_bool Tryd.underlying4 _), (trodAll_cons_mk (Below.trod laidOut (by kernel_rfl) (of_decide_eq_true (by kernel_rfl)) k0 bel lt0) trodAll_mk0), rfl, bel.frame _, fun h => by cases h⟩

theorem reads (os : Os) {H : Type} (enc : TypeId × Value → H) : ∃ places, DataW.whole enc Tryd.prog ((World.doorLaid Tryd.prog 400 os).forCall (fun _ _ => 0) ⟨#[], #[.slice none 0 0], []⟩).memory Tryd.f4.params.toList (Rows.OpenSpec.upto Rows.typedChecksSpec).vars false #[.slice none 0 0].toList 8 = some ([.nil], [], places) :=
  ⟨[], by kernel_rfl⟩
set_option maxRecDepth 100000 in
theorem lifted (os : Os) (started : os.Started) (H : Type) (enc : TypeId × Value → H) (F : Stop.Interp) :
    ReturnsInHanded {} Tryd.checked os 4 .any ((Rows.OpenSpec.upto Rows.typedChecksSpec).preRow enc Tryd.prog Tryd.f4 Rows.typedChecksUptoRow.domain false Rows.typedChecksUptoRow.laid) (((Rows.OpenSpec.upto Rows.typedChecksSpec).at F).post enc Tryd.prog Tryd.f4 false true false false) := by
  obtain ⟨places, hx⟩ := reads os enc
  refine returnsInHanded_of_row (C := Tryd.checked) (s := Rows.OpenSpec.upto Rows.typedChecksSpec) own started (by kernel_rfl) Tryd.func4
    (witness_row_atRef (enc := enc) (C := Tryd.checked) false (World.doorLaid Tryd.prog 400 os) #[.slice none 0 0] rfl (by kernel_rfl) (by kernel_rfl) (by kernel_rfl)
      (OpenSpec.preRow_of_cond 8 hx (by kernel_rfl) (fun k hk => by cases hk; kernel_rfl) (by kernel_rfl) (ty_door_met os _))) ?_
  intro W base args ds gs before hval hW _ hcond hsz hL _ _
  exact contract H enc W base args ds gs before hval hW hL hsz (hcond _ rfl)

theorem row_holds : Rows.TypedChecksUptoSaid :=
  OpenClaim.holds_of_cond 4 Tryd.f4 rfl rfl rfl rfl rfl rfl rfl ⟨rfl, rfl, rfl, rfl, rfl⟩ rfl rfl rfl rfl rfl (by kernel_rfl) Tryd.func4 (by kernel_rfl)
    (of_decide_eq_true (by kernel_rfl)) (by unfold Func.isWrapper; first | (rw [if_pos (by decide +kernel)]; kernel_rfl) | (rw [if_neg (by decide +kernel)]; exact ⟨rfl, rfl⟩))
    (fun os started H enc _ F => by rw [OpenClaim.pre_eq_preRow]; exact lifted os started H enc F)
theorem proved : Rows.TypedChecksUptoCardSaid :=
  Claim7.holds_tied_plain_at .later [] [.data, .data] true (true, "3849d69d7026fd2f356f4a2944fbe2d82ef5d693eb45e41608ee1879b586f1cc") true
    row_holds (fun _ h => by cases h) (by kernel_rfl) (fun _ h => by cases h) typedChecksUpto_row_tie rfl ⟨rfl, rfl⟩ (by kernel_rfl) rfl
    (fun f fn hf hfn => by
      obtain rfl : f = 4 := Option.some.inj ((show Tryd.prog.funcNamed "postern/posternlaw.TypedChecks" = some 4 by kernel_rfl).symm.trans hf) |>.symm
      obtain rfl : fn = Tryd.f4 := (Option.some.inj (Tryd.func4.symm.trans hfn)).symm
      exact ⟨by kernel_rfl, fun j t ht => by
        rw [Tryd.params4] at ht
        have hm : t ∈ [32] := by simpa using Array.mem_of_getElem? ht
        have hall : ([32].all fun u => !Tryd.prog.wantsStandIn u) = true := by kernel_rfl
        exact (show Tryd.prog.wantsStandIn t = false by simpa using List.all_eq_true.1 hall t hm)⟩)
    (by kernel_rfl)
#print axioms proved

end Go.Proofs.YtaomlfbcfmmhlaaDoor.typedChecks

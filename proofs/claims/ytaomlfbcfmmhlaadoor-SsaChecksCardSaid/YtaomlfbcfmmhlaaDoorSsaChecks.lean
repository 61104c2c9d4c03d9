/-
  Proved here: the tied card Rows.SsaChecksCardSaid: for every program and code, ssa.Check answers what the reference's OnceFault answers; the tables ir.rules, ir.maths hold what the program's text lays.
-/
import Derived.Test.YtaomlfbcfmmhlaaDoorOnceFault
import Derived.Test.YtaomlfbcfmmhlaaDoorOnceCheck
import Derived.Test.YtaomlfbcfmmhlaaDoorIrTables
import Derived.Test.YtaomlfbcfmmhlaaDoorCards
import Derived.Test.YtaomlfbcfmmhlaaDoorTie
import Derived.SevenTiedAt
import Derived.ProofKit
import Derived.ChangeOld
import Derived.OpenShut
namespace Go.Proofs.YtaomlfbcfmmhlaaDoor.ssaChecks
open Go.ChangeShapes Go.WideShapes Go.ChangeAt Go.RowKit Go.Pst
set_option linter.unusedVariables false

theorem opens_code_here {H : Type} (enc : TypeId × Value → H) (w : World) : Opens enc Tryd.prog w 28 rCode FitCode :=
  opens_code Tryd.underlying28 (by kernel_rfl) (by kernel_rfl) (by kernel_rfl) (by kernel_rfl) (by kernel_rfl) (by kernel_rfl) (by kernel_rfl) (by kernel_rfl) Tryd.underlying3 Tryd.underlying9 Tryd.underlying26 Tryd.underlying55
    (opens_instr Tryd.underlying53 (by kernel_rfl) (by kernel_rfl) (by kernel_rfl) (by kernel_rfl) Tryd.underlying3 Tryd.underlying9 Tryd.underlying23 (by kernel_rfl))
theorem opens_prog_here {H : Type} (enc : TypeId × Value → H) (w : World) : Opens enc Tryd.prog w 25 rProg FitProg :=
  opens_prog Tryd.underlying25 (by kernel_rfl) (by kernel_rfl) (by kernel_rfl) Tryd.underlying22 (by kernel_rfl) (by kernel_rfl) Tryd.underlying23 Tryd.underlying3 (by kernel_rfl) (by kernel_rfl) (opens_code_here enc w)

theorem walk {w : World} (hL : IrLaid w) (p : PProg) (pcs : List Value) (hp : rProg (fun _ => True) w pcs p) (hpf : FitProg p) (c : PCode) (cs : List Value) (hc : rCode (fun _ => True) w cs c) (hf : FitCode c) :
    Calls Tryd.prog 3 #[.agg pcs.toArray, .agg cs.toArray] w fun e w' => e = .returned (.bool true) ∧ Below w.heap.size w w' := by
  obtain ⟨p0, p1, rfl, hp0, hp1⟩ := hp
  have hc0 := hc
  obtain ⟨v5, rfl, -, -⟩ := hc
  have Hp := Lib.hid hp0
  have Hd := Lib.hid hp1
  have Hc := Lib.hid hc0
  have HL := Lib.hid hL
  clear hp0 hp1 hc0 hL
  go_enter Tryd.func3, Tryd.ntmps3
  go_wp2_with fail
  generalize hw0 : (w.alloc (.cells #[p0, p1] 25)).alloc (.cells #[.string c.name, .int .i64 c.params, .int .i64 c.results, .int .i64 c.vars, .int .i64 c.slots, v5] 28) = w0
  have hbel : Below w.heap.size w w0 := by rw [← hw0]; exact below_box2 _ _ _
  have hsz : w0.heap.size = w.heap.size + 2 := by rw [← hw0]; simp
  have bp0 : w0.cell? ⟨w.heap.size, 0, none⟩ = some p0 := by rw [← hw0, box2_1]; rfl
  have bp1 : w0.cell? ⟨w.heap.size, 1, none⟩ = some p1 := by rw [← hw0, box2_1]; rfl
  have bc0 : w0.cell? ⟨w.heap.size + 1, 0, none⟩ = some (.string c.name) := by rw [← hw0, box2_2]; rfl
  have bc1 : w0.cell? ⟨w.heap.size + 1, 1, none⟩ = some (.int .i64 c.params) := by rw [← hw0, box2_2]; rfl
  have bc2 : w0.cell? ⟨w.heap.size + 1, 2, none⟩ = some (.int .i64 c.results) := by rw [← hw0, box2_2]; rfl
  have bc3 : w0.cell? ⟨w.heap.size + 1, 3, none⟩ = some (.int .i64 c.vars) := by rw [← hw0, box2_2]; rfl
  have bc4 : w0.cell? ⟨w.heap.size + 1, 4, none⟩ = some (.int .i64 c.slots) := by rw [← hw0, box2_2]; rfl
  have bc5 : w0.cell? ⟨w.heap.size + 1, 5, none⟩ = some v5 := by rw [← hw0, box2_2]; rfl
  clear hw0
  have hk0 := Keep.of_below' (S := fun _ => True) hbel (fun k hk _ => hk)
  refine (check_any p.funcs p.data p0 p1 c _ w0 (Good.kept hk0 Hp.out) (Good.kept hk0 Hd.out) (Good.kept hk0 Hc.out) hf (HL.out.below hbel)).mono ?_
  rintro e w1 ⟨rfl, hb1⟩
  have hb2 : Below w.heap.size w w1 := hbel.trans (hb1.mono (by omega))
  have up : ∀ {b o : Nat} {v : Value}, b < w0.heap.size → w0.cell? ⟨b, o, none⟩ = some v → w1.cell? ⟨b, o, none⟩ = some v := fun {b o v} h e => (hb1.cell (p := ⟨b, o, none⟩) h).trans e
  have ap0 := up (by omega) bp0
  have ap1 := up (by omega) bp1
  have ac0 := up (by omega) bc0
  have ac1 := up (by omega) bc1
  have ac2 := up (by omega) bc2
  have ac3 := up (by omega) bc3
  have ac4 := up (by omega) bc4
  have ac5 := up (by omega) bc5
  have Hb2 := Lib.hid hb2
  clear bp0 bp1 bc0 bc1 bc2 bc3 bc4 bc5 hb1 hbel up hk0 hb2
  have hk1 := Keep.of_below' (S := fun _ => True) Hb2.out (fun k hk _ => hk)
  have Hk1 := Lib.hid hk1
  clear hk1
  go_wp2_with fail
  refine (onceFault_any p.funcs p.data p0 p1 c _ w1 (Good.kept Hk1.out Hp.out) (Good.kept Hk1.out Hd.out) (Good.kept Hk1.out Hc.out) hf).mono ?_
  rintro e w2 ⟨rfl, hb3⟩
  have Hb3 := Lib.hid hb3
  clear hb3
  generalize onceF p.funcs c (rowOf (aheadF c)) (rowOf (aboveF c)) = ev at *
  go_wp2_with fail
  go_ret
  exact ⟨by simp, Hb2.out.trans (Hb3.out.mono Hb2.out.size)⟩

theorem own : ownKnob Tryd.prog.godebug = none := by kernel_rfl
theorem laidOut : laidOutB Tryd.prog = true := by kernel_rfl

set_option maxRecDepth 100000 in
theorem contract (H : Type) (enc : TypeId × Value → H) (W : World) (base : Nat) (args : Array Value) (ds gs : List (DataW H)) (before : List MemPlace)
    (hval0 : ∀ (j : Nat) t v, Tryd.f3.params[j]? = some t → args[j]? = some v → Value.okWide Tryd.prog W .any base t v)
    (hW : DataW.Whole enc Tryd.prog Tryd.f3.params.toList Rows.ssaChecksSpec.vars false W args.toList ds gs before)
    (hL : laidMetH Tryd.prog irTables W) (hsz0 : (DataW.weightsEach Tryd.prog (Tryd.f3.params.toList ++ Rows.ssaChecksSpec.plain.varTypes Tryd.prog) (ds ++ gs)).all (· ≤ reachBytes) = true) :
    Calls Tryd.prog 3 args W fun e W' => ∃ v, e = .returned v ∧ Rows.ssaChecksSpec.post enc Tryd.prog Tryd.f3 false true false false W args v W' := by
  have hsz := hsz0
  have hval : ∀ (j : Nat) t v, Tryd.f3.params[j]? = some t → args[j]? = some v → Value.okWide Tryd.prog W .any base t v := hval0
  have hW' := hW
  obtain ⟨p, q, hA0, hV, rfl, hfz, hnd⟩ := hW
  have hA : DataW.TrodAll enc Tryd.prog W 0 (fun _ => true) true Tryd.f3.params.toList args.toList ds p := hA0
  rw [Tryd.params3] at hA hval hsz
  obtain ⟨v0, vs0, d0, ds0, p0, q0, hargs, rfl, rfl, h0, r0⟩ := trodAll_cons hA
  obtain ⟨v1, vs1, d1, ds1, p1, q1, rfl, rfl, rfl, h1, r1⟩ := trodAll_cons r0
  obtain ⟨rfl, rfl, rfl⟩ := trodAll_nil r1
  obtain rfl : args = #[v0, v1] := by cases args; simp_all
  obtain ⟨rfl, rfl⟩ := trodVars_none hV
  have k0 := h0
  have lt0 : ∀ x ∈ p0, x.block < W.heap.size := by obtain ⟨m, hm⟩ := k0; exact DataW.trod_lt m _ _ _ hm
  obtain ⟨fuel0, hf0⟩ := h0
  have hwt0 : ∀ n ∈ d0.weights Tryd.prog 25, n ≤ reachBytes := fun n hn => of_decide_eq_true (List.all_eq_true.1 hsz n (DataW.weights_mem_each (j := 0) rfl rfl n hn))
  have hv0 := hval 0 25 v0 rfl rfl
  simp only [Value.okWide, Tryd.underlying25] at hv0
  obtain ⟨cs0, rfl, _, _⟩ := hv0
  obtain ⟨x0, hx0, fit0⟩ := opens_prog_here enc W fuel0 _ _ hf0 hwt0
  have hcs0 : (Value.agg cs0).cells.toList.toArray = cs0 := by simp [Value.cells]
  have k1 := h1
  have lt1 : ∀ x ∈ p1, x.block < W.heap.size := by obtain ⟨m, hm⟩ := k1; exact DataW.trod_lt m _ _ _ hm
  obtain ⟨fuel1, hf1⟩ := h1
  have hwt1 : ∀ n ∈ d1.weights Tryd.prog 28, n ≤ reachBytes := fun n hn => of_decide_eq_true (List.all_eq_true.1 hsz n (DataW.weights_mem_each (j := 1) rfl rfl n hn))
  have hv1 := hval 1 28 v1 rfl rfl
  simp only [Value.okWide, Tryd.underlying28] at hv1
  obtain ⟨cs1, rfl, _, _⟩ := hv1
  obtain ⟨x1, hx1, fit1⟩ := opens_code_here enc W fuel1 _ _ hf1 hwt1
  have hcs1 : (Value.agg cs1).cells.toList.toArray = cs1 := by simp [Value.cells]
  clear hA0 hval0
  have hwalk := walk (w := W) (irLaid_of hL) x0 _ hx0 fit0 x1 _ hx1 fit1
  rw [hcs0] at hwalk
  rw [hcs1] at hwalk
  refine hwalk.mono fun e W' ⟨he, bel⟩ => ?_
  subst he
  exact ⟨_, rfl, _, _, _, [], _, [], hW', trodAll_mk1 (shut_bool Tryd.underlying4 _), (trodAll_cons_mk (Below.trod laidOut (by kernel_rfl) (of_decide_eq_true (by kernel_rfl)) k0 bel lt0) (trodAll_cons_mk (Below.trod laidOut (by kernel_rfl) (of_decide_eq_true (by kernel_rfl)) k1 bel lt1) trodAll_mk0)), rfl, bel.frame _, fun h => by cases h⟩

set_option maxRecDepth 100000 in
theorem lifted (os : Os) (started : os.Started) (H : Type) (enc : TypeId × Value → H) :
    ReturnsInHanded {} Tryd.checked os 3 .any (fun w args => (Rows.ssaChecksSpec.pre enc Tryd.prog Tryd.f3 [] false w args ∧ laidMetH Tryd.prog irTables w) ∧ sizedMet enc Tryd.prog Tryd.f3 (OpenSpec.ofChange Rows.ssaChecksSpec) false w args)
      (Rows.ssaChecksSpec.post enc Tryd.prog Tryd.f3 false true false false) := by
  refine returnsInHanded_of_change_and (C := Tryd.checked) (X := fun w _ => laidMetH Tryd.prog irTables w) (fun _ _ _ hh h => h.of_heap hh) own started (by kernel_rfl) Tryd.func3
    (ChangeSpec.witness_shaped (enc := enc) (C := Tryd.checked) (os := os) (X := fun w _ => laidMetH Tryd.prog irTables w) false (World.doorLaid Tryd.prog 400 os) #[.agg #[.slice none 0 0, .slice none 0 0], .agg #[.string ByteArray.empty, .int .i64 0, .int .i64 0, .int .i64 0, .int .i64 0, .slice none 0 0]] 8 rfl (World.shaped_of_RefB (by kernel_rfl) (by kernel_rfl)) (by kernel_rfl) (by kernel_rfl) (by kernel_rfl) (ir_door_met os _)) ?_
  intro W base args ds gs before hval hW _ hsz hL _
  exact contract H enc W base args ds gs before hval hW hL hsz

theorem over : Rows.ssaChecksRow.holds Tryd.pinned (OpenSpec.ofChange Rows.ssaChecksSpec) :=
  OpenClaim.holds_of_wide 3 Tryd.f3 rfl rfl rfl rfl rfl rfl rfl ⟨rfl, rfl, rfl, rfl, rfl⟩ rfl rfl rfl rfl rfl (by kernel_rfl) Tryd.func3 (by kernel_rfl)
    (of_decide_eq_true (by kernel_rfl)) (by unfold Func.isWrapper; first | (rw [if_pos (by decide +kernel)]; kernel_rfl) | (rw [if_neg (by decide +kernel)]; exact ⟨rfl, rfl⟩))
    (fun os started H enc _ => lifted os started H enc)

theorem row_holds : Rows.SsaChecksSaid := over
theorem proved : Rows.SsaChecksCardSaid :=
  Claim7.holds_tied_plain_at .later [] [.data, .widerDeep] true (true, "3849d69d7026fd2f356f4a2944fbe2d82ef5d693eb45e41608ee1879b586f1cc") true
    row_holds (fun _ h => by cases h) (by kernel_rfl) (fun _ h => by cases h) ssaChecks_row_tie rfl ⟨rfl, rfl⟩ (by kernel_rfl) rfl
    (fun f fn hf hfn => by
      obtain rfl : f = 3 := Option.some.inj ((show Tryd.prog.funcNamed "postern/posternlaw.SsaChecks" = some 3 by kernel_rfl).symm.trans hf) |>.symm
      obtain rfl : fn = Tryd.f3 := (Option.some.inj (Tryd.func3.symm.trans hfn)).symm
      exact ⟨by kernel_rfl, fun j t ht => by
        rw [Tryd.params3] at ht
        have hm : t ∈ [25, 28] := by simpa using Array.mem_of_getElem? ht
        have hall : ([25, 28].all fun u => !Tryd.prog.wantsStandIn u) = true := by kernel_rfl
        exact (show Tryd.prog.wantsStandIn t = false by simpa using List.all_eq_true.1 hall t hm)⟩)
    (by kernel_rfl)
#print axioms proved

end Go.Proofs.YtaomlfbcfmmhlaaDoor.ssaChecks

import Derived.Test.YtaomlfbcfmmhlaaDoorVG
import Derived.Test.YtaomlfbcfmmhlaaDoorVI
import Derived.Test.YtaomlfbcfmmhlaaDoorVN
import Derived.Test.YtaomlfbcfmmhlaaDoorCards
import Derived.Test.YtaomlfbcfmmhlaaDoorTie
import Derived.SevenTiedAt
import Derived.ProofKit
import Derived.ChangeOld
import Derived.OpenShut

/-
  Proved here: the tied card Rows.VmRunsCardSaid: for every program, every heap, every fuel, vm.Run answers what the reference's MachineRan answers.
-/
namespace Go.Proofs.YtaomlfbcfmmhlaaDoor.vmRuns
open Go.ChangeShapes Go.WideShapes Go.ChangeAt Go.RowKit Go.Pst
set_option linter.unusedVariables false
set_option linter.unusedSimpArgs false

theorem opens_code_here {H : Type} (enc : TypeId × Value → H) (w : World) : Opens enc Tryd.prog w 28 rCode FitCode :=
  opens_code Tryd.underlying28 (by kernel_rfl) (by kernel_rfl) (by kernel_rfl) (by kernel_rfl) (by kernel_rfl) (by kernel_rfl) (by kernel_rfl) (by kernel_rfl) Tryd.underlying3 Tryd.underlying9 Tryd.underlying26 Tryd.underlying55
    (opens_instr Tryd.underlying53 (by kernel_rfl) (by kernel_rfl) (by kernel_rfl) (by kernel_rfl) Tryd.underlying3 Tryd.underlying9 Tryd.underlying23 (by kernel_rfl))
theorem opens_prog_here {H : Type} (enc : TypeId × Value → H) (w : World) : Opens enc Tryd.prog w 25 rProg FitProg :=
  opens_prog Tryd.underlying25 (by kernel_rfl) (by kernel_rfl) (by kernel_rfl) Tryd.underlying22 (by kernel_rfl) (by kernel_rfl) Tryd.underlying23 Tryd.underlying3 (by kernel_rfl) (by kernel_rfl) (opens_code_here enc w)


theorem row_below {w w' : World} {base n sz : Nat} {e : TypeId} {v : Value} {xs : List Value} (h : w.ownsRow base e sz v n xs) (hb : Below w.heap.size w w') : w'.ownsRow base e sz v n xs :=
  Since.row (F := fun k => ¬ k < w.heap.size) ⟨hb.os, hb.tape, hb.output, hb.size, fun k _ hk => hb.block k (by omega)⟩ h (fun k hk e => e (h.lt k hk).2)

theorem walk {w : World} (hL : VmLaid w ∧ TabOK w) (p : PProg) (pcs : List Value) (hp : rProg (fun _ => True) w pcs p) (hpf : FitProg p) (heap : Int) (hh : InI heap) (fuel : Int) (hfu : InI fuel) :
    Calls Tryd.prog 9 #[.agg pcs.toArray, .int .i64 heap, .int .i64 fuel] w fun e w' => e = .returned (.bool true) ∧ Below w.heap.size w w' := by
  obtain ⟨p0, p1, rfl, hp0, hp1⟩ := hp
  obtain ⟨ap, cp, rfl⟩ := rSlice_shape hp0
  obtain ⟨ad, cd, rfl⟩ := rSlice_shape hp1
  have Hp0 := Lib.hid hp0
  have Hp1 := Lib.hid hp1
  have HL := Lib.hid hL.1
  have HT := Lib.hid hL.2
  clear hp0 hp1 hL
  go_enter Tryd.func9, Tryd.ntmps9
  go_wp2_with fail
  generalize hw0 : w.alloc (.cells #[.slice ap p.funcs.length cp, .slice ad p.data.length cd] 25) = w0
  have hbel : Below w.heap.size w w0 := by rw [← hw0]; exact (Below.refl _ _).alloc (Nat.le_refl _) _
  have hsz : w0.heap.size = w.heap.size + 1 := by rw [← hw0]; simp
  have bp0 : w0.cell? ⟨w.heap.size, 0, none⟩ = some (.slice ap p.funcs.length cp) := by rw [← hw0, World.cell?_alloc_at _ _ _ _ rfl]; rfl
  have bp1 : w0.cell? ⟨w.heap.size, 1, none⟩ = some (.slice ad p.data.length cd) := by rw [← hw0, World.cell?_alloc_at _ _ _ _ rfl]; rfl
  clear hw0
  have hk0 := Keep.of_below' (S := fun _ => True) hbel (fun k hk _ => hk)
  refine (vmRun_any p _ _ heap fuel w0 ⟨_, _, rfl, Good.kept hk0 Hp0.out, Good.kept hk0 Hp1.out⟩ hpf hh hfu (HL.out.below hbel) (HT.out.vmBelow hbel HT.out.lt)).mono ?_
  rintro e w1 ⟨vL, rfl, hrow, hb1⟩
  have hb2 : Below w.heap.size w w1 := hbel.trans (hb1.mono (by omega))
  have ap0 := (hb1.cell (p := ⟨w.heap.size, 0, none⟩) (by show w.heap.size < w0.heap.size; omega)).trans bp0
  have ap1 := (hb1.cell (p := ⟨w.heap.size, 1, none⟩) (by show w.heap.size < w0.heap.size; omega)).trans bp1
  obtain ⟨aL, cL, rfl, -, -⟩ := row_slice hrow
  have Hb2 := Lib.hid hb2
  have Hrow := Lib.hid hrow
  have hlt1 : w.heap.size < w1.heap.size := by have := hb1.size; omega
  clear bp0 bp1 hb1 hbel hk0 hb2 hrow
  generalize hres : resF (machineFaultF p) true 10000000 p heap fuel = r at *
  have Hres := Lib.hid hres
  clear hres
  go_wp2_with fail
  have hk1 := Keep.of_below' (S := fun _ => True) (Hb2.out.alloc Hb2.out.size (.cells #[.slice aL r.1.2.length cL, .int .i64 r.1.1] 41)) (fun k hk _ => hk)
  refine (machRes_any p _ _ heap fuel _ ⟨_, _, rfl, Good.kept hk1 Hp0.out, Good.kept hk1 Hp1.out⟩ hpf hh hfu).mono ?_
  rw [Hres.out]
  rintro e w2 ⟨vM, rfl, hrow2, hb3⟩
  obtain ⟨aM, cM, rfl, -, -⟩ := row_slice hrow2
  have hrow1 := row_below (ownsRow_from (Hrow.out.alloc (.cells #[.slice aL r.1.2.length cL, .int .i64 r.1.1] 41)) (Nat.zero_le _)) hb3
  have hrow3 := ownsRow_from hrow2 (Nat.zero_le _)
  have c0 : w2.cell? ⟨w1.heap.size, 0, none⟩ = some (.slice aL r.1.2.length cL) := by rw [hb3.cell (p := ⟨w1.heap.size, 0, none⟩) (by show w1.heap.size < (w1.alloc _).heap.size; simp), World.cell?_alloc_at _ _ _ _ rfl]; rfl
  have c1 : w2.cell? ⟨w1.heap.size, 1, none⟩ = some (.int .i64 r.1.1) := by rw [hb3.cell (p := ⟨w1.heap.size, 1, none⟩) (by show w1.heap.size < (w1.alloc _).heap.size; simp), World.cell?_alloc_at _ _ _ _ rfl]; rfl
  have hbb : Below w.heap.size w w2 := (Hb2.out.alloc Hb2.out.size _).trans (hb3.mono (by simp; omega))
  have hlt2 : w1.heap.size < w2.heap.size := by have := hb3.size; simp at this; omega
  have H1 := Lib.hid hrow1
  have H3 := Lib.hid hrow3
  have HBB := Lib.hid hbb
  have hrr : (r.2 == r.2) = true := by simp
  clear hrow1 hrow3 hrow2 hbb hb3 hk1
  go_wp2_with (first | (go_at_call 20; refine (sameRun_any r.1.2 r.1.1 _ _ _ 0 (H1.out.alloc _) (H3.out.alloc _)).mono ?_; rintro e w3 ⟨rfl, hb4⟩; have HB4 := Lib.hid hb4; clear hb4))
  go_ret
  exact ⟨rfl, HBB.out.trans (((Below.refl _ _).alloc (Nat.le_refl _) _).trans (HB4.out.mono (by simp))|>.mono HBB.out.size)⟩

theorem own : ownKnob Tryd.prog.godebug = none := by kernel_rfl
theorem laidOut : laidOutB Tryd.prog = true := by kernel_rfl

set_option maxRecDepth 100000 in
theorem contract (H : Type) (enc : TypeId × Value → H) (W : World) (base : Nat) (args : Array Value) (ds gs : List (DataW H)) (before : List MemPlace)
    (hval0 : ∀ (j : Nat) t v, Tryd.f9.params[j]? = some t → args[j]? = some v → Value.okWide Tryd.prog W .any base t v)
    (hW : DataW.Whole enc Tryd.prog Tryd.f9.params.toList Rows.vmRunsSpec.vars false W args.toList ds gs before)
    (hL : laidMetH Tryd.prog vmRunTables W) (hsz0 : (DataW.weightsEach Tryd.prog (Tryd.f9.params.toList ++ Rows.vmRunsSpec.plain.varTypes Tryd.prog) (ds ++ gs)).all (· ≤ reachBytes) = true) :
    Calls Tryd.prog 9 args W fun e W' => ∃ v, e = .returned v ∧ Rows.vmRunsSpec.post enc Tryd.prog Tryd.f9 false true false false W args v W' := by
  have hsz := hsz0
  have hval : ∀ (j : Nat) t v, Tryd.f9.params[j]? = some t → args[j]? = some v → Value.okWide Tryd.prog W .any base t v := hval0
  have hW' := hW
  obtain ⟨p, q, hA0, hV, rfl, hfz, hnd⟩ := hW
  have hA : DataW.TrodAll enc Tryd.prog W 0 (fun _ => true) true Tryd.f9.params.toList args.toList ds p := hA0
  rw [Tryd.params9] at hA hval hsz
  obtain ⟨v0, vs0, d0, ds0, p0, q0, hargs, rfl, rfl, h0, r0⟩ := trodAll_cons hA
  obtain ⟨v1, vs1, d1, ds1, p1, q1, rfl, rfl, rfl, h1, r1⟩ := trodAll_cons r0
  obtain ⟨v2, vs2, d2, ds2, p2, q2, rfl, rfl, rfl, h2, r2⟩ := trodAll_cons r1
  obtain ⟨rfl, rfl, rfl⟩ := trodAll_nil r2
  obtain rfl : args = #[v0, v1, v2] := by cases args; simp_all
  obtain ⟨rfl, rfl⟩ := trodVars_none hV
  have k0 := h0
  have lt0 : ∀ x ∈ p0, x.block < W.heap.size := by obtain ⟨m, hm⟩ := k0; exact DataW.trod_lt m _ _ _ hm
  obtain ⟨fuel0, hf0⟩ := h0
  have hwt0 : ∀ n ∈ d0.weights Tryd.prog 25, n ≤ reachBytes := fun n hn => of_decide_eq_true (List.all_eq_true.1 hsz n (DataW.weights_mem_each (j := 0) rfl rfl n hn))
  have hv0 := hval 0 25 v0 rfl rfl
  simp only [Value.okWide, Tryd.underlying25] at hv0
  obtain ⟨cs0, rfl, _, _⟩ := hv0
  obtain ⟨x0, hx0, fit0⟩ := opens_prog_here enc W fuel0 _ _ hf0 hwt0
  have hcs0 : (Value.agg cs0).cells.toList.toArray = cs0 := by simp [Value.cells]
  obtain ⟨a1, rfl, rfl, rfl, wf1⟩ := open_int Tryd.underlying3 (hval 1 3 v1 rfl rfl) h1
  have in1 : InI a1 := by simpa [Lit.wf, IntKind.min, IntKind.max, IntKind.signed, IntKind.bits, InI] using wf1
  obtain ⟨a2, rfl, rfl, rfl, wf2⟩ := open_int Tryd.underlying3 (hval 2 3 v2 rfl rfl) h2
  have in2 : InI a2 := by simpa [Lit.wf, IntKind.min, IntKind.max, IntKind.signed, IntKind.bits, InI] using wf2
  clear hA0 hval0
  have hwalk := walk (w := W) (vmRunLaid_of hL) x0 _ hx0 fit0 a1 in1 a2 in2
  rw [hcs0] at hwalk
  refine hwalk.mono fun e W' ⟨he, bel⟩ => ?_
  subst he
  exact ⟨_, rfl, _, _, _, [], _, [], hW', trodAll_mk1 (shut_bool Tryd.underlying4 _), (trodAll_cons_mk (Below.trod laidOut (by kernel_rfl) (of_decide_eq_true (by kernel_rfl)) k0 bel lt0) (trodAll_cons_mk (shut_int Tryd.underlying3 wf1) (trodAll_cons_mk (shut_int Tryd.underlying3 wf2) trodAll_mk0))), rfl, bel.frame _, fun h => by cases h⟩

set_option maxRecDepth 100000 in
theorem lifted (os : Os) (started : os.Started) (H : Type) (enc : TypeId × Value → H) :
    ReturnsInHanded {} Tryd.checked os 9 .any (fun w args => (Rows.vmRunsSpec.pre enc Tryd.prog Tryd.f9 [] false w args ∧ laidMetH Tryd.prog vmRunTables w) ∧ sizedMet enc Tryd.prog Tryd.f9 (OpenSpec.ofChange Rows.vmRunsSpec) false w args)
      (Rows.vmRunsSpec.post enc Tryd.prog Tryd.f9 false true false false) := by
  refine returnsInHanded_of_change_and (C := Tryd.checked) (X := fun w _ => laidMetH Tryd.prog vmRunTables w) (fun _ _ _ hh h => h.of_heap hh) own started (by kernel_rfl) Tryd.func9
    (ChangeSpec.witness_shaped (enc := enc) (C := Tryd.checked) (os := os) (X := fun w _ => laidMetH Tryd.prog vmRunTables w) false (World.doorLaid Tryd.prog 400 os) #[.agg #[.slice none 0 0, .slice none 0 0], .int .i64 0, .int .i64 0] 8 rfl (World.shaped_of_RefB (by kernel_rfl) (by kernel_rfl)) (by kernel_rfl) (by kernel_rfl) (by kernel_rfl) (vmRun_door_met os _)) ?_
  intro W base args ds gs before hval hW _ hsz hL _
  exact contract H enc W base args ds gs before hval hW hL hsz

theorem over : Rows.vmRunsRow.holds Tryd.pinned (OpenSpec.ofChange Rows.vmRunsSpec) :=
  OpenClaim.holds_of_wide 9 Tryd.f9 rfl rfl rfl rfl rfl rfl rfl ⟨rfl, rfl, rfl, rfl, rfl⟩ rfl rfl rfl rfl rfl (by kernel_rfl) Tryd.func9 (by kernel_rfl)
    (of_decide_eq_true (by kernel_rfl)) (by unfold Func.isWrapper; first | (rw [if_pos (by decide +kernel)]; kernel_rfl) | (rw [if_neg (by decide +kernel)]; exact ⟨rfl, rfl⟩))
    (fun os started H enc _ => lifted os started H enc)

theorem row_holds : Rows.VmRunsSaid := over
theorem proved : Rows.VmRunsCardSaid :=
  Claim7.holds_tied_plain_at .later [] [.data, .data, .data, .widerDeep] true (true, "3849d69d7026fd2f356f4a2944fbe2d82ef5d693eb45e41608ee1879b586f1cc") true
    row_holds (fun _ h => by cases h) (by kernel_rfl) (fun _ h => by cases h) vmRuns_row_tie rfl ⟨rfl, rfl⟩ (by kernel_rfl) rfl
    (fun f fn hf hfn => by
      obtain rfl : f = 9 := Option.some.inj ((show Tryd.prog.funcNamed "postern/posternlaw.VmRuns" = some 9 by kernel_rfl).symm.trans hf) |>.symm
      obtain rfl : fn = Tryd.f9 := (Option.some.inj (Tryd.func9.symm.trans hfn)).symm
      exact ⟨by kernel_rfl, fun j t ht => by
        rw [Tryd.params9] at ht
        have hm : t ∈ [25, 3, 3] := by simpa using Array.mem_of_getElem? ht
        have hall : ([25, 3, 3].all fun u => !Tryd.prog.wantsStandIn u) = true := by kernel_rfl
        exact (show Tryd.prog.wantsStandIn t = false by simpa using List.all_eq_true.1 hall t hm)⟩)
    (by kernel_rfl)
#print axioms proved

end Go.Proofs.YtaomlfbcfmmhlaaDoor.vmRuns

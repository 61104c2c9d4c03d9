/-
  Proved here: the statement Rows.SsaAboveSaid: for every code, ssa.Above answers what the reference AboveOf answers, and the argument reads afterwards as before. No condition.
-/
import Derived.Test.YthgmaapebplimaaAbove
import Derived.ProofKit
import Derived.ChangeOld
import Derived.OpenShut
namespace Go.Proofs.Ythgmaapebplimaa.ssaAbove
open Go.ChangeShapes Go.WideShapes Go.ChangeAt Go.RowKit Go.Pst
set_option linter.unusedVariables false

theorem opens_code_here {H : Type} (enc : TypeId × Value → H) (w : World) : Opens enc Try.prog w 32 rCode FitCode :=
  opens_code Try.underlying32 (by kernel_rfl) (by kernel_rfl) (by kernel_rfl) (by kernel_rfl) (by kernel_rfl) (by kernel_rfl) (by kernel_rfl) (by kernel_rfl) Try.underlying3 Try.underlying9 Try.underlying30 Try.underlying55
    (opens_instr Try.underlying57 (by kernel_rfl) (by kernel_rfl) (by kernel_rfl) (by kernel_rfl) Try.underlying3 Try.underlying9 Try.underlying24 (by kernel_rfl))

theorem walk (c : PCode) (cs : List Value) {w : World} (hc : rCode (fun _ => True) w cs c) (hf : FitCode c) :
    Calls Try.prog 8 #[.agg cs.toArray] w fun e w' => e = .returned (.bool true) ∧ Below w.heap.size w w' := by
  have hc0 := hc
  obtain ⟨v5, rfl, -, -⟩ := hc
  go_enter Try.func8, Try.ntmps8
  go_wp2_with fail
  refine (above_any c _ _ (Good.keep (Keep.alloc _ _ _) (fun _ _ h => h) hc0) hf).mono ?_
  rintro e w1 ⟨v, rfl, hv, hb1⟩
  have hb1' : Below (w.heap.size + 1) (w.alloc (.cells #[.string c.name, .int .i64 c.params, .int .i64 c.results, .int .i64 c.vars, .int .i64 c.slots, v5] 32)) w1 := by simpa using hb1
  have hbw1 : Below w.heap.size w w1 := ((Below.refl _ _).alloc (Nat.le_refl _) _).trans (hb1'.mono (by omega))
  have bx := fun j => hb1'.cell (p := ⟨w.heap.size, j, none⟩) (by simp)
  simp at bx
  have bx0 := bx 0
  have bx1 := bx 1
  have bx2 := bx 2
  have bx3 := bx 3
  have bx4 := bx 4
  have bx5 := bx 5
  simp at bx0 bx1 bx2 bx3 bx4 bx5
  clear bx hb1
  go_wp2_with fail
  refine (aboveOf_any c _ _ (Good.keep (Keep.of_below' hbw1 (fun k hk _ => hk)) (fun _ _ h => h) hc0) hf).mono ?_
  rintro e w2 ⟨v', rfl, hv', hb2⟩
  obtain ⟨a1, c1, rfl, hl1, hat1⟩ := rIntss_open (Good.keep (S' := fun _ => True) (Keep.of_below' hb2 (fun k hk _ => hk)) (fun _ _ _ => trivial) hv)
  obtain ⟨a2, c2, rfl, _, hat2⟩ := rIntss_open hv'
  have hbw2 := hbw1.trans (hb2.mono hbw1.size)
  clear bx0 bx1 bx2 bx3 bx4 bx5 hv hv' hc0
  go_wp2_with fail
  refine (sameLists_eq _ _ _ _ _ _ hl1 hat1 hat2).mono ?_
  rintro e w3 ⟨rfl, hdr⟩
  go_wp2_with fail
  go_ret
  exact ⟨rfl, hbw2.trans (hdr.below _)⟩

theorem own : ownKnob Try.prog.godebug = none := by kernel_rfl
theorem laidOut : laidOutB Try.prog = true := by kernel_rfl

theorem contract (H : Type) (enc : TypeId × Value → H) (W : World) (base : Nat) (args : Array Value) (ds gs : List (DataW H)) (before : List MemPlace)
    (hval0 : ∀ (j : Nat) t v, Try.f8.params[j]? = some t → args[j]? = some v → Value.okWide Try.prog W .any base t v)
    (hW : DataW.Whole enc Try.prog Try.f8.params.toList Rows.ssaAboveSpec.vars false W args.toList ds gs before)
    (hsz0 : (DataW.weightsEach Try.prog (Try.f8.params.toList ++ Rows.ssaAboveSpec.plain.varTypes Try.prog) (ds ++ gs)).all (· ≤ reachBytes) = true) :
    Calls Try.prog 8 args W fun e W' => ∃ v, e = .returned v ∧ Rows.ssaAboveSpec.post enc Try.prog Try.f8 false true false false W args v W' := by
  have hsz := hsz0
  have hval : ∀ (j : Nat) t v, Try.f8.params[j]? = some t → args[j]? = some v → Value.okWide Try.prog W .any base t v := hval0
  have hW' := hW
  obtain ⟨p, q, hA0, hV, rfl, hfz, hnd⟩ := hW
  have hA : DataW.TrodAll enc Try.prog W 0 (fun _ => true) true Try.f8.params.toList args.toList ds p := hA0
  rw [Try.params8] at hA hval hsz
  obtain ⟨v0, vs0, d0, ds0, p0, q0, hargs, rfl, rfl, h0, r0⟩ := trodAll_cons hA
  obtain ⟨rfl, rfl, rfl⟩ := trodAll_nil r0
  obtain rfl : args = #[v0] := by cases args; simp_all
  obtain ⟨rfl, rfl⟩ := trodVars_none hV
  have k0 := h0
  have lt0 : ∀ x ∈ p0, x.block < W.heap.size := by obtain ⟨m, hm⟩ := k0; exact DataW.trod_lt m _ _ _ hm
  obtain ⟨fuel0, hf0⟩ := h0
  have hwt0 : ∀ n ∈ d0.weights Try.prog 32, n ≤ reachBytes := fun n hn => of_decide_eq_true (List.all_eq_true.1 hsz n (DataW.weights_mem_each (j := 0) rfl rfl n hn))
  have hv0 := hval 0 32 v0 rfl rfl
  simp only [Value.okWide, Try.underlying32] at hv0
  obtain ⟨cs0, rfl, _, _⟩ := hv0
  obtain ⟨x0, hx0, fit0⟩ := opens_code_here enc W fuel0 _ _ hf0 hwt0
  have hcs0 : (Value.agg cs0).cells.toList.toArray = cs0 := by simp [Value.cells]
  clear hA0 hval0
  have hwalk := walk (w := W) x0 _ hx0 fit0
  rw [hcs0] at hwalk
  refine hwalk.mono fun e W' ⟨he, bel⟩ => ?_
  subst he
  exact ⟨_, rfl, _, _, _, [], _, [], hW', trodAll_mk1 (shut_bool Try.underlying4 _), (trodAll_cons_mk (Below.trod laidOut (by kernel_rfl) (of_decide_eq_true (by kernel_rfl)) k0 bel lt0) trodAll_mk0), rfl, bel.frame _, fun h => by cases h⟩

set_option maxRecDepth 100000 in
theorem lifted (os : Os) (started : os.Started) (H : Type) (enc : TypeId × Value → H) :
    ReturnsInHanded {} Try.checked os 8 .any (Rows.ssaAboveSpec.pre6 enc Try.prog Try.f8 Rows.ssaAboveRow.domain false) (Rows.ssaAboveSpec.post enc Try.prog Try.f8 false true false false) := by
  refine returnsInHanded_of_change_sized (C := Try.checked) own started (by kernel_rfl) Try.func8
    (ChangeSpec.witness6 (enc := enc) (C := Try.checked) false ⟨#[], #[.agg #[.string ByteArray.empty, .int .i64 0, .int .i64 0, .int .i64 0, .int .i64 0, .slice none 0 0]], []⟩ 8 (by kernel_rfl) (by kernel_rfl) (by kernel_rfl) (by kernel_rfl)) ?_
  intro W base args ds gs before hval hW _ hsz _
  exact contract H enc W base args ds gs before hval hW hsz

theorem over : Rows.ssaAboveRow.holds Try.pinned (OpenSpec.ofChange Rows.ssaAboveSpec) :=
  OpenClaim.holds_of_wide 8 Try.f8 rfl rfl rfl rfl rfl rfl rfl ⟨rfl, rfl, rfl, rfl, rfl⟩ rfl rfl rfl rfl rfl (by kernel_rfl) Try.func8 (by kernel_rfl)
    (of_decide_eq_true (by kernel_rfl)) (by unfold Func.isWrapper; first | (rw [if_pos (by decide +kernel)]; kernel_rfl) | (rw [if_neg (by decide +kernel)]; exact ⟨rfl, rfl⟩))
    (fun os started H enc _ => lifted os started H enc)

theorem proved : Rows.SsaAboveSaid := over
#print axioms proved
end Go.Proofs.Ythgmaapebplimaa.ssaAbove

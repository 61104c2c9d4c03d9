/-
  Proved here: the statement Rows.TypedEndsSaid: for every list of statements, typed.Ends answers what the reference EndsOf answers, and the argument reads afterwards as before. No condition.
-/
import Derived.Test.YthgmaapebplimaaEnds
import Derived.ProofKit
import Derived.ChangeOld
import Derived.OpenShut
namespace Go.Proofs.Ythgmaapebplimaa.typedEnds
open Go.ChangeShapes Go.WideShapes Go.ChangeAt Go.RowKit Go.Pst
set_option linter.unusedVariables false

theorem types : Types Try.prog 3 9 24 88 46 49 28 52 47 :=
  ⟨Try.underlying3, Try.underlying9, Try.underlying24, Try.underlying88, Try.underlying46, Try.underlying49, Try.underlying28, Try.underlying52, Try.underlying47, by kernel_rfl, by kernel_rfl⟩

theorem opens_stmts_here {H : Type} (enc : TypeId × Value → H) (w : World) (fuel : Nat) : OpensN enc Try.prog w fuel 28 (rSlice 7 (rStmt fuel)) (fun _ => True) := by
  have hc := types.cells
  have hb := types.bytes
  simp only [Prod.mk.injEq] at hc hb
  exact (opens_sliceN (R := rStmt fuel) (Bd := fun _ => True) types.stmts hc.2.2.2.2.2.1 hb.2.2.1 (by decide) (fun m hm => (opens_stmt types m).imp (rStmt_le (by omega)) (fun _ h => h))).imp (fun _ _ h => h) (fun _ _ => trivial)

theorem walk {d : Nat} (l : List PStmt) (v : Value) {w : World} (h : rSlice 7 (rStmt d) (fun _ => True) w [v] l) (_ : True) :
    Calls Try.prog 6 #[v] w fun e w' => e = .returned (.bool true) ∧ Below w.heap.size w w' := by
  have hbb : (endsF d l == endsF d l) = true := by simp
  have Hb := Lib.hid hbb
  clear hbb
  go_enter Try.func6, Try.ntmps6
  go_wp2_with fail
  refine (ends_any d l v _ h).mono ?_
  rintro e w1 ⟨rfl, hb1⟩
  go_wp2_with fail
  refine (endsOf_any d l v _ (Good.keep (Keep.of_below' hb1 (fun k hk _ => hk)) (fun _ _ h => h) h)).mono ?_
  rintro e w2 ⟨rfl, hb2⟩
  go_wp2_with fail
  go_ret
  exact ⟨rfl, hb1.trans (hb2.mono hb1.size)⟩

theorem own : ownKnob Try.prog.godebug = none := by kernel_rfl
theorem laidOut : laidOutB Try.prog = true := by kernel_rfl

theorem contract (H : Type) (enc : TypeId × Value → H) (W : World) (base : Nat) (args : Array Value) (ds gs : List (DataW H)) (before : List MemPlace)
    (hval0 : ∀ (j : Nat) t v, Try.f6.params[j]? = some t → args[j]? = some v → Value.okWide Try.prog W .any base t v)
    (hW : DataW.Whole enc Try.prog Try.f6.params.toList Rows.typedEndsSpec.vars false W args.toList ds gs before)
    (hsz0 : (DataW.weightsEach Try.prog (Try.f6.params.toList ++ Rows.typedEndsSpec.plain.varTypes Try.prog) (ds ++ gs)).all (· ≤ reachBytes) = true) :
    Calls Try.prog 6 args W fun e W' => ∃ v, e = .returned v ∧ Rows.typedEndsSpec.post enc Try.prog Try.f6 false true false false W args v W' := by
  have hsz := hsz0
  have hval : ∀ (j : Nat) t v, Try.f6.params[j]? = some t → args[j]? = some v → Value.okWide Try.prog W .any base t v := hval0
  have hW' := hW
  obtain ⟨p, q, hA0, hV, rfl, hfz, hnd⟩ := hW
  have hA : DataW.TrodAll enc Try.prog W 0 (fun _ => true) true Try.f6.params.toList args.toList ds p := hA0
  rw [Try.params6] at hA hval hsz
  obtain ⟨v0, vs0, d0, ds0, p0, q0, hargs, rfl, rfl, h0, r0⟩ := trodAll_cons hA
  obtain ⟨rfl, rfl, rfl⟩ := trodAll_nil r0
  obtain rfl : args = #[v0] := by cases args; simp_all
  obtain ⟨rfl, rfl⟩ := trodVars_none hV
  have k0 := h0
  have lt0 : ∀ x ∈ p0, x.block < W.heap.size := by obtain ⟨m, hm⟩ := k0; exact DataW.trod_lt m _ _ _ hm
  obtain ⟨fuel0, hf0⟩ := h0
  have hwt0 : ∀ n ∈ d0.weights Try.prog 28, n ≤ reachBytes := fun n hn => of_decide_eq_true (List.all_eq_true.1 hsz n (DataW.weights_mem_each (j := 0) rfl rfl n hn))
  obtain ⟨av0, len0, cap0, rfl⟩ := okWide_slice Try.underlying28 (hval 0 28 v0 rfl rfl)
  obtain ⟨x0, hx0, fit0⟩ := opens_stmts_here enc W fuel0 _ _ hf0 hwt0
  clear hA0 hval0
  have hwalk := walk (w := W) x0 _ hx0 fit0
  refine hwalk.mono fun e W' ⟨he, bel⟩ => ?_
  subst he
  exact ⟨_, rfl, _, _, _, [], _, [], hW', trodAll_mk1 (shut_bool Try.underlying4 _), (trodAll_cons_mk (Below.trod laidOut (by kernel_rfl) (of_decide_eq_true (by kernel_rfl)) k0 bel lt0) trodAll_mk0), rfl, bel.frame _, fun h => by cases h⟩

set_option maxRecDepth 100000 in
theorem lifted (os : Os) (started : os.Started) (H : Type) (enc : TypeId × Value → H) :
    ReturnsInHanded {} Try.checked os 6 .any (Rows.typedEndsSpec.pre6 enc Try.prog Try.f6 Rows.typedEndsRow.domain false) (Rows.typedEndsSpec.post enc Try.prog Try.f6 false true false false) := by
  refine returnsInHanded_of_change_sized (C := Try.checked) own started (by kernel_rfl) Try.func6
    (ChangeSpec.witness6 (enc := enc) (C := Try.checked) false ⟨#[], #[.slice none 0 0], []⟩ 8 (by kernel_rfl) (by kernel_rfl) (by kernel_rfl) (by kernel_rfl)) ?_
  intro W base args ds gs before hval hW _ hsz _
  exact contract H enc W base args ds gs before hval hW hsz

theorem over : Rows.typedEndsRow.holds Try.pinned (OpenSpec.ofChange Rows.typedEndsSpec) :=
  OpenClaim.holds_of_wide 6 Try.f6 rfl rfl rfl rfl rfl rfl rfl ⟨rfl, rfl, rfl, rfl, rfl⟩ rfl rfl rfl rfl rfl (by kernel_rfl) Try.func6 (by kernel_rfl)
    (of_decide_eq_true (by kernel_rfl)) (by unfold Func.isWrapper; first | (rw [if_pos (by decide +kernel)]; kernel_rfl) | (rw [if_neg (by decide +kernel)]; exact ⟨rfl, rfl⟩))
    (fun os started H enc _ => lifted os started H enc)

theorem proved : Rows.TypedEndsSaid := over
#print axioms proved
end Go.Proofs.Ythgmaapebplimaa.typedEnds

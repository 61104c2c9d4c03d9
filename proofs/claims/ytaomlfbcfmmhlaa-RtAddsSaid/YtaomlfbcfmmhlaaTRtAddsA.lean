/-
  Texts joined: RtStep_add RtAddsPure RtAddsRun RtAddsPos RtAddsNeg RtAddsNil RtAddsNilNeg RtAddsWalk.
-/
import Derived.Test.YtaomlfbcfmmhlaaJJ
import Derived.Test.YtaomlfbcfmmhlaaJS

/-
  A run of rt's add, block by block (printed by wip/gen_rtsteps.py).
-/
namespace Go.Proofs.Ytaomlfbcfmmhlaa
open Go.RowKit Go.Pst
set_option linter.unusedVariables false
set_option maxRecDepth 100000

variable {name : ByteArray} {xs : List Int} {r : Nat} {d : List Int} {W : List Int} {L : List ByteArray} {R : List Lev} {want : List Int}
set_option maxHeartbeats 1000000 in
theorem add_b0 (v0 v1 v2 v3 v4 v5 v6 v7 v8 v9 v10 v11 v12 v13 v14 v15 v16 v17 v18 v19 v20 v21 : Int) (t : Nat) (hb : (getI [1, 2] (yesF ((yesF (decide (v1 < v2))) == 0))).toNat = t) :
    stepN (drivenF allL name xs r d) false 20000 4 ⟨W, L, ⟨4, [v0, v1, v2, v3, v4, v5, v6, v7, v8, v9, v10, v11, v12, v13, v14, v15, v16, v17, v18, v19, v20, v21], [], 0, 0, want⟩ :: R⟩ = (0, ⟨W, L, ⟨4, [v0, v1, v2, v3, 1, (wrap64 (v1 + 1)), (yesF (decide (v1 < v2))), v7, v8, v9, v10, v11, v12, v13, v14, v15, v16, v17, v18, v19, v20, v21], [], t, 0, want⟩ :: R⟩) :=
  (stepN_add (show stepN (drivenF allL name xs r d) false 20000 3 ⟨W, L, ⟨4, [v0, v1, v2, v3, v4, v5, v6, v7, v8, v9, v10, v11, v12, v13, v14, v15, v16, v17, v18, v19, v20, v21], [], 0, 0, want⟩ :: R⟩ = (0, ⟨W, L, ⟨4, [v0, v1, v2, v3, 1, (wrap64 (v1 + 1)), (yesF (decide (v1 < v2))), v7, v8, v9, v10, v11, v12, v13, v14, v15, v16, v17, v18, v19, v20, v21], [], 0, 3, want⟩ :: R⟩) by kernel_rfl) (by { have h : stepN (drivenF allL name xs r d) false 20000 1 ⟨W, L, ⟨4, [v0, v1, v2, v3, 1, (wrap64 (v1 + 1)), (yesF (decide (v1 < v2))), v7, v8, v9, v10, v11, v12, v13, v14, v15, v16, v17, v18, v19, v20, v21], [], 0, 3, want⟩ :: R⟩ = (0, ⟨W, L, ⟨4, [v0, v1, v2, v3, 1, (wrap64 (v1 + 1)), (yesF (decide (v1 < v2))), v7, v8, v9, v10, v11, v12, v13, v14, v15, v16, v17, v18, v19, v20, v21], [], (getI [1, 2] (yesF ((yesF (decide (v1 < v2))) == 0))).toNat, 0, want⟩ :: R⟩) := (by kernel_rfl); rw [hb] at h; exact h } : stepN (drivenF allL name xs r d) false 20000 1 ⟨W, L, ⟨4, [v0, v1, v2, v3, 1, (wrap64 (v1 + 1)), (yesF (decide (v1 < v2))), v7, v8, v9, v10, v11, v12, v13, v14, v15, v16, v17, v18, v19, v20, v21], [], 0, 3, want⟩ :: R⟩ = (0, ⟨W, L, ⟨4, [v0, v1, v2, v3, 1, (wrap64 (v1 + 1)), (yesF (decide (v1 < v2))), v7, v8, v9, v10, v11, v12, v13, v14, v15, v16, v17, v18, v19, v20, v21], [], t, 0, want⟩ :: R⟩)))
set_option maxHeartbeats 1000000 in
theorem add_b1 (v0 v1 v2 v3 v4 v5 v6 v7 v8 v9 v10 v11 v12 v13 v14 v15 v16 v17 v18 v19 v20 v21 : Int) (x1 : Int) (p1 : placeF ((wrap64 (v0 + v1))) 0 W.length = x1) (q1 : 0 ≤ x1) (g : Lev) :
    stepN (drivenF allL name xs r d) false 20000 3 ⟨W, L, ⟨4, [v0, v1, v2, v3, v4, v5, v6, v7, v8, v9, v10, v11, v12, v13, v14, v15, v16, v17, v18, v19, v20, v21], [], 1, 0, want⟩ :: g :: R⟩ = (0, ⟨(W.set x1.toNat v3), L, g.put false want [v0, v5, v2] :: R⟩) :=
  (stepN_add (show stepN (drivenF allL name xs r d) false 20000 1 ⟨W, L, ⟨4, [v0, v1, v2, v3, v4, v5, v6, v7, v8, v9, v10, v11, v12, v13, v14, v15, v16, v17, v18, v19, v20, v21], [], 1, 0, want⟩ :: g :: R⟩ = (0, ⟨W, L, ⟨4, [v0, v1, v2, v3, v4, v5, v6, (wrap64 (v0 + v1)), v8, v9, v10, v11, v12, v13, v14, v15, v16, v17, v18, v19, v20, v21], [], 1, 1, want⟩ :: g :: R⟩) by kernel_rfl) (stepN_add (step_store (P := drivenF allL name xs r d) (L := L) (R := g :: R) (want := want) (k := 4) (b := 1) (i := 1) (vs := [v0, v1, v2, v3, v4, v5, v6, (wrap64 (v0 + v1)), v8, v9, v10, v11, v12, v13, v14, v15, v16, v17, v18, v19, v20, v21]) (a := 7) (c := 3) (n := 0) (s := ⟨#[]⟩) (tt := []) (by kernel_rfl) p1 q1 : stepN (drivenF allL name xs r d) false 20000 1 ⟨W, L, ⟨4, [v0, v1, v2, v3, v4, v5, v6, (wrap64 (v0 + v1)), v8, v9, v10, v11, v12, v13, v14, v15, v16, v17, v18, v19, v20, v21], [], 1, 1, want⟩ :: g :: R⟩ = (0, ⟨(W.set x1.toNat v3), L, ⟨4, [v0, v1, v2, v3, v4, v5, v6, (wrap64 (v0 + v1)), v8, v9, v10, v11, v12, v13, v14, v15, v16, v17, v18, v19, v20, v21], [], 1, 2, want⟩ :: g :: R⟩)) (show stepN (drivenF allL name xs r d) false 20000 1 ⟨(W.set x1.toNat v3), L, ⟨4, [v0, v1, v2, v3, v4, v5, v6, (wrap64 (v0 + v1)), v8, v9, v10, v11, v12, v13, v14, v15, v16, v17, v18, v19, v20, v21], [], 1, 2, want⟩ :: g :: R⟩ = (0, ⟨(W.set x1.toNat v3), L, g.put false want [v0, v5, v2] :: R⟩) by kernel_rfl)))
set_option maxHeartbeats 1000000 in
theorem add_b2 (v0 v1 v2 v3 v4 v5 v6 v7 v8 v9 v10 v11 v12 v13 v14 v15 v16 v17 v18 v19 v20 v21 : Int) (t : Nat) (hb : (getI [3, 4] (yesF ((yesF (decide ((wrap64 (v2 + v2)) < 4))) == 0))).toNat = t) :
    stepN (drivenF allL name xs r d) false 20000 4 ⟨W, L, ⟨4, [v0, v1, v2, v3, v4, v5, v6, v7, v8, v9, v10, v11, v12, v13, v14, v15, v16, v17, v18, v19, v20, v21], [], 2, 0, want⟩ :: R⟩ = (0, ⟨W, L, ⟨4, [v0, v1, v2, v3, v4, v5, v6, v7, (wrap64 (v2 + v2)), 4, (yesF (decide ((wrap64 (v2 + v2)) < 4))), v11, v12, v13, v14, v15, v16, v17, v18, v19, v20, v21], [], t, 0, want⟩ :: R⟩) :=
  (stepN_add (show stepN (drivenF allL name xs r d) false 20000 3 ⟨W, L, ⟨4, [v0, v1, v2, v3, v4, v5, v6, v7, v8, v9, v10, v11, v12, v13, v14, v15, v16, v17, v18, v19, v20, v21], [], 2, 0, want⟩ :: R⟩ = (0, ⟨W, L, ⟨4, [v0, v1, v2, v3, v4, v5, v6, v7, (wrap64 (v2 + v2)), 4, (yesF (decide ((wrap64 (v2 + v2)) < 4))), v11, v12, v13, v14, v15, v16, v17, v18, v19, v20, v21], [], 2, 3, want⟩ :: R⟩) by kernel_rfl) (by { have h : stepN (drivenF allL name xs r d) false 20000 1 ⟨W, L, ⟨4, [v0, v1, v2, v3, v4, v5, v6, v7, (wrap64 (v2 + v2)), 4, (yesF (decide ((wrap64 (v2 + v2)) < 4))), v11, v12, v13, v14, v15, v16, v17, v18, v19, v20, v21], [], 2, 3, want⟩ :: R⟩ = (0, ⟨W, L, ⟨4, [v0, v1, v2, v3, v4, v5, v6, v7, (wrap64 (v2 + v2)), 4, (yesF (decide ((wrap64 (v2 + v2)) < 4))), v11, v12, v13, v14, v15, v16, v17, v18, v19, v20, v21], [], (getI [3, 4] (yesF ((yesF (decide ((wrap64 (v2 + v2)) < 4))) == 0))).toNat, 0, want⟩ :: R⟩) := (by kernel_rfl); rw [hb] at h; exact h } : stepN (drivenF allL name xs r d) false 20000 1 ⟨W, L, ⟨4, [v0, v1, v2, v3, v4, v5, v6, v7, (wrap64 (v2 + v2)), 4, (yesF (decide ((wrap64 (v2 + v2)) < 4))), v11, v12, v13, v14, v15, v16, v17, v18, v19, v20, v21], [], 2, 3, want⟩ :: R⟩ = (0, ⟨W, L, ⟨4, [v0, v1, v2, v3, v4, v5, v6, v7, (wrap64 (v2 + v2)), 4, (yesF (decide ((wrap64 (v2 + v2)) < 4))), v11, v12, v13, v14, v15, v16, v17, v18, v19, v20, v21], [], t, 0, want⟩ :: R⟩)))
set_option maxHeartbeats 1000000 in
theorem add_b3 (v0 v1 v2 v3 v4 v5 v6 v7 v8 v9 v10 v11 v12 v13 v14 v15 v16 v17 v18 v19 v20 v21 : Int) :
    stepN (drivenF allL name xs r d) false 20000 3 ⟨W, L, ⟨4, [v0, v1, v2, v3, v4, v5, v6, v7, v8, v9, v10, v11, v12, v13, v14, v15, v16, v17, v18, v19, v20, v21], [], 3, 0, want⟩ :: R⟩ = (0, ⟨W, L, ⟨4, [v0, v1, v2, v3, v4, v5, v6, v7, 4, v9, v10, 4, v12, v13, v14, v15, v16, v17, v18, v19, v20, v21], [], 4, 0, want⟩ :: R⟩) :=
  (show stepN (drivenF allL name xs r d) false 20000 3 ⟨W, L, ⟨4, [v0, v1, v2, v3, v4, v5, v6, v7, v8, v9, v10, v11, v12, v13, v14, v15, v16, v17, v18, v19, v20, v21], [], 3, 0, want⟩ :: R⟩ = (0, ⟨W, L, ⟨4, [v0, v1, v2, v3, v4, v5, v6, v7, 4, v9, v10, 4, v12, v13, v14, v15, v16, v17, v18, v19, v20, v21], [], 4, 0, want⟩ :: R⟩) by kernel_rfl)
set_option maxHeartbeats 1000000 in
theorem add_b4 (v0 v1 v2 v3 v4 v5 v6 v7 v8 v9 v10 v11 v12 v13 v14 v15 v16 v17 v18 v19 v20 v21 : Int) (x0 : Int) (W0 : List Int) (p0 : takeF v8 20000 W = (x0, W0)) (q0 : 0 ≤ x0) :
    stepN (drivenF allL name xs r d) false 20000 4 ⟨W, L, ⟨4, [v0, v1, v2, v3, v4, v5, v6, v7, v8, v9, v10, v11, v12, v13, v14, v15, v16, v17, v18, v19, v20, v21], [], 4, 0, want⟩ :: R⟩ = (0, ⟨W0, L, ⟨4, [v0, v1, v2, v3, v4, v5, v6, v7, v8, v9, v10, v11, x0, 0, 0, v15, v16, v17, v18, v19, v20, v21], [], 5, 0, want⟩ :: R⟩) :=
  (stepN_add (step_alloc (P := drivenF allL name xs r d) (L := L) (R := R) (want := want) (k := 4) (b := 4) (i := 0) (vs := [v0, v1, v2, v3, v4, v5, v6, v7, v8, v9, v10, v11, v12, v13, v14, v15, v16, v17, v18, v19, v20, v21]) (d := 12) (a := 8) (n := 0) (s := ⟨#[]⟩) (tt := []) (by kernel_rfl) p0 q0 : stepN (drivenF allL name xs r d) false 20000 1 ⟨W, L, ⟨4, [v0, v1, v2, v3, v4, v5, v6, v7, v8, v9, v10, v11, v12, v13, v14, v15, v16, v17, v18, v19, v20, v21], [], 4, 0, want⟩ :: R⟩ = (0, ⟨W0, L, ⟨4, [v0, v1, v2, v3, v4, v5, v6, v7, v8, v9, v10, v11, x0, v13, v14, v15, v16, v17, v18, v19, v20, v21], [], 4, 1, want⟩ :: R⟩)) (show stepN (drivenF allL name xs r d) false 20000 3 ⟨W0, L, ⟨4, [v0, v1, v2, v3, v4, v5, v6, v7, v8, v9, v10, v11, x0, v13, v14, v15, v16, v17, v18, v19, v20, v21], [], 4, 1, want⟩ :: R⟩ = (0, ⟨W0, L, ⟨4, [v0, v1, v2, v3, v4, v5, v6, v7, v8, v9, v10, v11, x0, 0, 0, v15, v16, v17, v18, v19, v20, v21], [], 5, 0, want⟩ :: R⟩) by kernel_rfl))
set_option maxHeartbeats 1000000 in
theorem add_b5 (v0 v1 v2 v3 v4 v5 v6 v7 v8 v9 v10 v11 v12 v13 v14 v15 v16 v17 v18 v19 v20 v21 : Int) (t : Nat) (hb : (getI [6, 7] (yesF ((yesF (decide (v14 < v1))) == 0))).toNat = t) :
    stepN (drivenF allL name xs r d) false 20000 2 ⟨W, L, ⟨4, [v0, v1, v2, v3, v4, v5, v6, v7, v8, v9, v10, v11, v12, v13, v14, v15, v16, v17, v18, v19, v20, v21], [], 5, 0, want⟩ :: R⟩ = (0, ⟨W, L, ⟨4, [v0, v1, v2, v3, v4, v5, v6, v7, v8, v9, v10, v11, v12, v13, v14, (yesF (decide (v14 < v1))), v16, v17, v18, v19, v20, v21], [], t, 0, want⟩ :: R⟩) :=
  (stepN_add (show stepN (drivenF allL name xs r d) false 20000 1 ⟨W, L, ⟨4, [v0, v1, v2, v3, v4, v5, v6, v7, v8, v9, v10, v11, v12, v13, v14, v15, v16, v17, v18, v19, v20, v21], [], 5, 0, want⟩ :: R⟩ = (0, ⟨W, L, ⟨4, [v0, v1, v2, v3, v4, v5, v6, v7, v8, v9, v10, v11, v12, v13, v14, (yesF (decide (v14 < v1))), v16, v17, v18, v19, v20, v21], [], 5, 1, want⟩ :: R⟩) by kernel_rfl) (by { have h : stepN (drivenF allL name xs r d) false 20000 1 ⟨W, L, ⟨4, [v0, v1, v2, v3, v4, v5, v6, v7, v8, v9, v10, v11, v12, v13, v14, (yesF (decide (v14 < v1))), v16, v17, v18, v19, v20, v21], [], 5, 1, want⟩ :: R⟩ = (0, ⟨W, L, ⟨4, [v0, v1, v2, v3, v4, v5, v6, v7, v8, v9, v10, v11, v12, v13, v14, (yesF (decide (v14 < v1))), v16, v17, v18, v19, v20, v21], [], (getI [6, 7] (yesF ((yesF (decide (v14 < v1))) == 0))).toNat, 0, want⟩ :: R⟩) := (by kernel_rfl); rw [hb] at h; exact h } : stepN (drivenF allL name xs r d) false 20000 1 ⟨W, L, ⟨4, [v0, v1, v2, v3, v4, v5, v6, v7, v8, v9, v10, v11, v12, v13, v14, (yesF (decide (v14 < v1))), v16, v17, v18, v19, v20, v21], [], 5, 1, want⟩ :: R⟩ = (0, ⟨W, L, ⟨4, [v0, v1, v2, v3, v4, v5, v6, v7, v8, v9, v10, v11, v12, v13, v14, (yesF (decide (v14 < v1))), v16, v17, v18, v19, v20, v21], [], t, 0, want⟩ :: R⟩)))
set_option maxHeartbeats 1000000 in
theorem add_b6 (v0 v1 v2 v3 v4 v5 v6 v7 v8 v9 v10 v11 v12 v13 v14 v15 v16 v17 v18 v19 v20 v21 : Int) (x2 y2 : Int) (p2 : placeF ((wrap64 (v0 + v14))) 0 W.length = x2) (q2 : 0 ≤ x2) (r2 : getI W x2 = y2) (x3 : Int) (p3 : placeF ((wrap64 (v12 + v14))) 0 W.length = x3) (q3 : 0 ≤ x3) :
    stepN (drivenF allL name xs r d) false 20000 8 ⟨W, L, ⟨4, [v0, v1, v2, v3, v4, v5, v6, v7, v8, v9, v10, v11, v12, v13, v14, v15, v16, v17, v18, v19, v20, v21], [], 6, 0, want⟩ :: R⟩ = (0, ⟨(W.set x3.toNat y2), L, ⟨4, [v0, v1, v2, v3, v4, v5, v6, v7, v8, v9, v10, v11, v12, v13, (wrap64 (v14 + 1)), v15, (wrap64 (v12 + v14)), (wrap64 (v0 + v14)), y2, 1, (wrap64 (v14 + 1)), v21], [], 5, 0, want⟩ :: R⟩) :=
  (stepN_add (show stepN (drivenF allL name xs r d) false 20000 2 ⟨W, L, ⟨4, [v0, v1, v2, v3, v4, v5, v6, v7, v8, v9, v10, v11, v12, v13, v14, v15, v16, v17, v18, v19, v20, v21], [], 6, 0, want⟩ :: R⟩ = (0, ⟨W, L, ⟨4, [v0, v1, v2, v3, v4, v5, v6, v7, v8, v9, v10, v11, v12, v13, v14, v15, (wrap64 (v12 + v14)), (wrap64 (v0 + v14)), v18, v19, v20, v21], [], 6, 2, want⟩ :: R⟩) by kernel_rfl) (stepN_add (by have h := step_load (P := drivenF allL name xs r d) (L := L) (R := R) (want := want) (k := 4) (b := 6) (i := 2) (vs := [v0, v1, v2, v3, v4, v5, v6, v7, v8, v9, v10, v11, v12, v13, v14, v15, (wrap64 (v12 + v14)), (wrap64 (v0 + v14)), v18, v19, v20, v21]) (d := 18) (a := 17) (n := 0) (s := ⟨#[]⟩) (tt := []) (by kernel_rfl) p2 q2; rw [r2] at h; exact h : stepN (drivenF allL name xs r d) false 20000 1 ⟨W, L, ⟨4, [v0, v1, v2, v3, v4, v5, v6, v7, v8, v9, v10, v11, v12, v13, v14, v15, (wrap64 (v12 + v14)), (wrap64 (v0 + v14)), v18, v19, v20, v21], [], 6, 2, want⟩ :: R⟩ = (0, ⟨W, L, ⟨4, [v0, v1, v2, v3, v4, v5, v6, v7, v8, v9, v10, v11, v12, v13, v14, v15, (wrap64 (v12 + v14)), (wrap64 (v0 + v14)), y2, v19, v20, v21], [], 6, 3, want⟩ :: R⟩)) (stepN_add (step_store (P := drivenF allL name xs r d) (L := L) (R := R) (want := want) (k := 4) (b := 6) (i := 3) (vs := [v0, v1, v2, v3, v4, v5, v6, v7, v8, v9, v10, v11, v12, v13, v14, v15, (wrap64 (v12 + v14)), (wrap64 (v0 + v14)), y2, v19, v20, v21]) (a := 16) (c := 18) (n := 0) (s := ⟨#[]⟩) (tt := []) (by kernel_rfl) p3 q3 : stepN (drivenF allL name xs r d) false 20000 1 ⟨W, L, ⟨4, [v0, v1, v2, v3, v4, v5, v6, v7, v8, v9, v10, v11, v12, v13, v14, v15, (wrap64 (v12 + v14)), (wrap64 (v0 + v14)), y2, v19, v20, v21], [], 6, 3, want⟩ :: R⟩ = (0, ⟨(W.set x3.toNat y2), L, ⟨4, [v0, v1, v2, v3, v4, v5, v6, v7, v8, v9, v10, v11, v12, v13, v14, v15, (wrap64 (v12 + v14)), (wrap64 (v0 + v14)), y2, v19, v20, v21], [], 6, 4, want⟩ :: R⟩)) (show stepN (drivenF allL name xs r d) false 20000 4 ⟨(W.set x3.toNat y2), L, ⟨4, [v0, v1, v2, v3, v4, v5, v6, v7, v8, v9, v10, v11, v12, v13, v14, v15, (wrap64 (v12 + v14)), (wrap64 (v0 + v14)), y2, v19, v20, v21], [], 6, 4, want⟩ :: R⟩ = (0, ⟨(W.set x3.toNat y2), L, ⟨4, [v0, v1, v2, v3, v4, v5, v6, v7, v8, v9, v10, v11, v12, v13, (wrap64 (v14 + 1)), v15, (wrap64 (v12 + v14)), (wrap64 (v0 + v14)), y2, 1, (wrap64 (v14 + 1)), v21], [], 5, 0, want⟩ :: R⟩) by kernel_rfl))))
set_option maxHeartbeats 1000000 in
theorem add_b7 (v0 v1 v2 v3 v4 v5 v6 v7 v8 v9 v10 v11 v12 v13 v14 v15 v16 v17 v18 v19 v20 v21 : Int) (x1 : Int) (p1 : placeF ((wrap64 (v12 + v1))) 0 W.length = x1) (q1 : 0 ≤ x1) (g : Lev) :
    stepN (drivenF allL name xs r d) false 20000 3 ⟨W, L, ⟨4, [v0, v1, v2, v3, v4, v5, v6, v7, v8, v9, v10, v11, v12, v13, v14, v15, v16, v17, v18, v19, v20, v21], [], 7, 0, want⟩ :: g :: R⟩ = (0, ⟨(W.set x1.toNat v3), L, g.put false want [v12, v5, v8] :: R⟩) :=
  (stepN_add (show stepN (drivenF allL name xs r d) false 20000 1 ⟨W, L, ⟨4, [v0, v1, v2, v3, v4, v5, v6, v7, v8, v9, v10, v11, v12, v13, v14, v15, v16, v17, v18, v19, v20, v21], [], 7, 0, want⟩ :: g :: R⟩ = (0, ⟨W, L, ⟨4, [v0, v1, v2, v3, v4, v5, v6, v7, v8, v9, v10, v11, v12, v13, v14, v15, v16, v17, v18, v19, v20, (wrap64 (v12 + v1))], [], 7, 1, want⟩ :: g :: R⟩) by kernel_rfl) (stepN_add (step_store (P := drivenF allL name xs r d) (L := L) (R := g :: R) (want := want) (k := 4) (b := 7) (i := 1) (vs := [v0, v1, v2, v3, v4, v5, v6, v7, v8, v9, v10, v11, v12, v13, v14, v15, v16, v17, v18, v19, v20, (wrap64 (v12 + v1))]) (a := 21) (c := 3) (n := 0) (s := ⟨#[]⟩) (tt := []) (by kernel_rfl) p1 q1 : stepN (drivenF allL name xs r d) false 20000 1 ⟨W, L, ⟨4, [v0, v1, v2, v3, v4, v5, v6, v7, v8, v9, v10, v11, v12, v13, v14, v15, v16, v17, v18, v19, v20, (wrap64 (v12 + v1))], [], 7, 1, want⟩ :: g :: R⟩ = (0, ⟨(W.set x1.toNat v3), L, ⟨4, [v0, v1, v2, v3, v4, v5, v6, v7, v8, v9, v10, v11, v12, v13, v14, v15, v16, v17, v18, v19, v20, (wrap64 (v12 + v1))], [], 7, 2, want⟩ :: g :: R⟩)) (show stepN (drivenF allL name xs r d) false 20000 1 ⟨(W.set x1.toNat v3), L, ⟨4, [v0, v1, v2, v3, v4, v5, v6, v7, v8, v9, v10, v11, v12, v13, v14, v15, v16, v17, v18, v19, v20, (wrap64 (v12 + v1))], [], 7, 2, want⟩ :: g :: R⟩ = (0, ⟨(W.set x1.toNat v3), L, g.put false want [v12, v5, v8] :: R⟩) by kernel_rfl)))
end Go.Proofs.Ytaomlfbcfmmhlaa

/-
  What rt's _add tells, as plain functions (printed by wip/gen_rtaddpure.py).
-/
namespace Go.Proofs.Ytaomlfbcfmmhlaa
open Go.RowKit Go.Pst
set_option linter.unusedVariables false
set_option linter.unusedSimpArgs false
set_option maxRecDepth 100000

variable {name : ByteArray} {xs : List Int} {r : Nat} {d : List Int} {L : List ByteArray} {R : List Lev} {want : List Int} {g : Lev}
/-- From the loop on: k words were there, c more have been taken. -/
theorem add_loop {n k c : Nat} {x : Int} (hn : n ≤ 1000) (hk : k ≤ 1000) (hnk : n ≤ k) (hc : n < c) (hc2 : c ≤ 5000) : ∀ (m i : Nat) (hi : i + m = n) (W : List Int) (hW : W.length = k + c) (v4 v6 v7 v9 v10 v11 v13 v15 v16 v17 v18 v19 v20 v21 : Int),
    ∃ W', Runs (drivenF allL name xs r d) (20 * m + 10) ⟨W, L, ⟨4, [0, n, k, x, v4, ((n + 1 : Nat) : Int), v6, v7, c, v9, v10, v11, k, v13, i, v15, v16, v17, v18, v19, v20, v21], [], 5, 0, want⟩ :: g :: R⟩ ⟨W', L, g.put false want [(k : Int), ((n + 1 : Nat) : Int), (c : Int)] :: R⟩
  | 0, i, hi, W, hW, v4, v6, v7, v9, v10, v11, v13, v15, v16, v17, v18, v19, v20, v21 => by
    have hia : i = n := by omega
    subst hia
    have w2 : wrap64 ((k : Int) + i) = (k : Int) + i := wrap_id (by omega) (by omega)
    have h5 := Runs.of (add_b5 (name := name) (xs := xs) (r := r) (d := d) (L := L) (want := want) (W := W) (R := g :: R) 0 i k x v4 ((i + 1 : Nat) : Int) v6 v7 c v9 v10 v11 k v13 i v15 v16 v17 v18 v19 v20 v21 7 (pick_no (by simp) rfl))
    have h7 := Runs.of (add_b7 (name := name) (xs := xs) (r := r) (d := d) (L := L) (want := want) (W := W) (R := R) 0 i k x v4 ((i + 1 : Nat) : Int) v6 v7 c v9 v10 v11 k v13 i (yesF (decide ((i : Int) < i))) v16 v17 v18 v19 v20 v21 ((k : Int) + i) (by rw [w2]; exact place_id (by omega) (by omega) (by omega)) (by omega) g)
    exact ⟨_, (h5.trans h7).mono (by omega)⟩
  | m + 1, i, hi, W, hW, v4, v6, v7, v9, v10, v11, v13, v15, v16, v17, v18, v19, v20, v21 => by
    have hia : i < n := by omega
    have q2 : (0 : Int) ≤ (i : Int) := by omega
    have q3 : (0 : Int) ≤ (k : Int) + i := by omega
    have i2 : (i : Int) < W.length := by omega
    have i3 : (k : Int) + i < W.length := by omega
    have i4 : W.length ≤ 20000 := by omega
    have w2 : wrap64 (0 + (i : Int)) = i := by rw [wrap_id (by omega) (by omega)]; omega
    have w4 : wrap64 ((k : Int) + i) = (k : Int) + i := wrap_id (by omega) (by omega)
    have w3 : wrap64 ((i : Int) + 1) = ((i + 1 : Nat) : Int) := by rw [wrap_id (by omega) (by omega)]; omega
    have h5 := Runs.of (add_b5 (name := name) (xs := xs) (r := r) (d := d) (L := L) (want := want) (W := W) (R := g :: R) 0 n k x v4 ((n + 1 : Nat) : Int) v6 v7 c v9 v10 v11 k v13 i v15 v16 v17 v18 v19 v20 v21 6 (pick_yes (by simp; omega) rfl))
    have h6 := add_b6 (name := name) (xs := xs) (r := r) (d := d) (L := L) (want := want) (W := W) (R := g :: R) 0 n k x v4 ((n + 1 : Nat) : Int) v6 v7 c v9 v10 v11 k v13 i (yesF (decide ((i : Int) < n))) v16 v17 v18 v19 v20 v21 i (getI W i) (by rw [w2]; exact place_id q2 i2 i4) q2 rfl ((k : Int) + i) (by rw [w4]; exact place_id q3 i3 i4) q3
    rw [w3] at h6
    obtain ⟨W', hh⟩ := add_loop hn hk hnk hc hc2 m (i + 1) (by omega) (W.set ((k : Int) + i).toNat (getI W i)) (by rw [List.length_set]; exact hW) v4 v6 v7 v9 v10 v11 v13 (yesF (decide ((i : Int) < n))) (wrap64 ((k : Int) + i)) (wrap64 (0 + (i : Int))) (getI W i) 1 ((i + 1 : Nat) : Int) v21
    exact ⟨W', (h5.trans ((Runs.of h6).trans hh)).mono (by omega)⟩
theorem add_grow {n k c : Nat} {x : Int} (hn : n ≤ 1000) (hk : k ≤ 1000) (hnk : n ≤ k) (hc : n < c) (hc2 : c ≤ 5000) (W : List Int) (hW : W.length = k) (v4 v6 v7 v9 v10 v11 v12 v13 v14 v15 v16 v17 v18 v19 v20 v21 : Int) :
    ∃ W', Runs (drivenF allL name xs r d) (20 * n + 20) ⟨W, L, ⟨4, [0, n, k, x, v4, ((n + 1 : Nat) : Int), v6, v7, c, v9, v10, v11, v12, v13, v14, v15, v16, v17, v18, v19, v20, v21], [], 4, 0, want⟩ :: g :: R⟩ ⟨W', L, g.put false want [(k : Int), ((n + 1 : Nat) : Int), (c : Int)] :: R⟩ := by
  have ht : takeF (c : Int) 20000 W = ((k : Int), W ++ List.replicate c 0) := by
    unfold takeF
    rw [if_neg (by omega), if_neg (by omega), hW, Int.toNat_natCast]
  have h4 := Runs.of (add_b4 (name := name) (xs := xs) (r := r) (d := d) (L := L) (want := want) (W := W) (R := g :: R) 0 n k x v4 ((n + 1 : Nat) : Int) v6 v7 c v9 v10 v11 v12 v13 v14 v15 v16 v17 v18 v19 v20 v21 k (W ++ List.replicate c 0) ht (by omega))
  obtain ⟨W', hh⟩ := add_loop (name := name) (xs := xs) (r := r) (d := d) (L := L) (R := R) (want := want) (g := g) (x := x) hn hk hnk hc hc2 n 0 (by omega) (W ++ List.replicate c 0) (by simp [hW]) v4 v6 v7 v9 v10 v11 0 v15 v16 v17 v18 v19 v20 v21
  exact ⟨W', (h4.trans hh).mono (by omega)⟩
theorem add_room {n k : Nat} {x : Int} (hn : n ≤ 1000) (hk : k ≤ 1000) (hnk : n < k) (W : List Int) (hW : W.length = k) :
    ∃ W', Runs (drivenF allL name xs r d) 20 ⟨W, L, ⟨4, [0, n, k, x, 0, 0, 0, 0, 0, 0, 0, 0, 0, 0, 0, 0, 0, 0, 0, 0, 0, 0], [], 0, 0, want⟩ :: g :: R⟩ ⟨W', L, g.put false want [0, ((n + 1 : Nat) : Int), (k : Int)] :: R⟩ := by
  have w1 : wrap64 ((n : Int) + 1) = ((n + 1 : Nat) : Int) := by rw [wrap_id (by omega) (by omega)]; omega
  have w2 : wrap64 (0 + (n : Int)) = n := by rw [wrap_id (by omega) (by omega)]; omega
  have h0 := add_b0 (name := name) (xs := xs) (r := r) (d := d) (L := L) (want := want) (W := W) (R := g :: R) 0 n k x 0 0 0 0 0 0 0 0 0 0 0 0 0 0 0 0 0 0 1 (pick_yes (by simp; omega) rfl)
  rw [w1] at h0
  have h1 := Runs.of (add_b1 (name := name) (xs := xs) (r := r) (d := d) (L := L) (want := want) (W := W) (R := R) 0 n k x 1 ((n + 1 : Nat) : Int) (yesF (decide ((n : Int) < k))) 0 0 0 0 0 0 0 0 0 0 0 0 0 0 0 (n : Int) (by rw [w2]; exact place_id (by omega) (by omega) (by omega)) (by omega) g)
  exact ⟨_, ((Runs.of h0).trans h1).mono (by omega)⟩
theorem add_full {k c : Nat} {x : Int} (hk : k ≤ 1000) (hc : c = max 4 (2 * k)) (W : List Int) (hW : W.length = k) :
    ∃ W', Runs (drivenF allL name xs r d) (20 * k + 60) ⟨W, L, ⟨4, [0, k, k, x, 0, 0, 0, 0, 0, 0, 0, 0, 0, 0, 0, 0, 0, 0, 0, 0, 0, 0], [], 0, 0, want⟩ :: g :: R⟩ ⟨W', L, g.put false want [(k : Int), ((k + 1 : Nat) : Int), (c : Int)] :: R⟩ := by
  have w1 : wrap64 ((k : Int) + 1) = ((k + 1 : Nat) : Int) := by rw [wrap_id (by omega) (by omega)]; omega
  have w2 : wrap64 ((k : Int) + k) = ((2 * k : Nat) : Int) := by rw [wrap_id (by omega) (by omega)]; omega
  have h0 := add_b0 (name := name) (xs := xs) (r := r) (d := d) (L := L) (want := want) (W := W) (R := g :: R) 0 k k x 0 0 0 0 0 0 0 0 0 0 0 0 0 0 0 0 0 0 2 (pick_no (by simp) rfl)
  rw [w1] at h0
  have h2 := fun (t : Nat) (hb : (getI [3, 4] (yesF (yesF (decide (wrap64 ((k : Int) + k) < 4)) == 0))).toNat = t) => add_b2 (name := name) (xs := xs) (r := r) (d := d) (L := L) (want := want) (W := W) (R := g :: R) 0 k k x 1 ((k + 1 : Nat) : Int) (yesF (decide ((k : Int) < k))) 0 0 0 0 0 0 0 0 0 0 0 0 0 0 0 t hb
  by_cases h : 2 * k < 4
  · have e : c = 4 := by omega
    subst e
    have h2 := h2 3 (pick_yes (by rw [w2]; simp; omega) rfl)
    rw [w2] at h2
    have h3 := Runs.of (add_b3 (name := name) (xs := xs) (r := r) (d := d) (L := L) (want := want) (W := W) (R := g :: R) 0 k k x 1 ((k + 1 : Nat) : Int) (yesF (decide ((k : Int) < k))) 0 ((2 * k : Nat) : Int) 4 (yesF (decide (((2 * k : Nat) : Int) < 4))) 0 0 0 0 0 0 0 0 0 0 0)
    obtain ⟨W', hh⟩ := add_grow (name := name) (xs := xs) (r := r) (d := d) (L := L) (R := R) (want := want) (g := g) (x := x) hk hk (Nat.le_refl k) (c := 4) (by omega) (by omega) W hW 1 (yesF (decide ((k : Int) < k))) 0 4 (yesF (decide (((2 * k : Nat) : Int) < 4))) 4 0 0 0 0 0 0 0 0 0 0
    exact ⟨W', ((Runs.of h0).trans ((Runs.of h2).trans (h3.trans hh))).mono (by omega)⟩
  · have e : c = 2 * k := by omega
    subst e
    have h2 := h2 4 (pick_no (by rw [w2]; simp; omega) rfl)
    rw [w2] at h2
    obtain ⟨W', hh⟩ := add_grow (name := name) (xs := xs) (r := r) (d := d) (L := L) (R := R) (want := want) (g := g) (x := x) hk hk (Nat.le_refl k) (c := 2 * k) (by omega) (by omega) W hW 1 (yesF (decide ((k : Int) < k))) 0 4 (yesF (decide (((2 * k : Nat) : Int) < 4))) 0 0 0 0 0 0 0 0 0 0 0
    exact ⟨W', ((Runs.of h0).trans ((Runs.of h2).trans hh)).mono (by omega)⟩
end Go.Proofs.Ytaomlfbcfmmhlaa

/-
  RtAdds: the runs of _add, whole.
-/
namespace Go.Proofs.Ytaomlfbcfmmhlaa
open Go.RowKit Go.Pst
set_option linter.unusedVariables false
set_option linter.unusedSimpArgs false
set_option maxRecDepth 100000
theorem run_add_room {n q : Nat} {x : Int} {D : List Int} (hq : q ≤ 52) (h : n < q) (hD : D.length = q) : runF (drivenF allL ⟨#[95, 97, 100, 100]⟩ [0, (n : Int), (q : Int), x] 3 D) false 20000 200000 (startF (drivenF allL ⟨#[95, 97, 100, 100]⟩ [0, (n : Int), (q : Int), x] 3 D)) = (1, [decS 0, decS ((n + 1 : Nat) : Int), decS (q : Int)]) := by
  have h1 := Runs.of (main_pre_add 0 n q x D)
  obtain ⟨W', h2⟩ := add_room (name := ⟨#[95, 97, 100, 100]⟩) (xs := [0, (n : Int), (q : Int), x]) (r := 3) (d := D) (L := []) (R := []) (want := [4, 5, 6]) (g := ⟨0, [0, n, q, x, 0, 0, 0, 0, 0], [], 0, 5, []⟩) (x := x) (by omega) (by omega) h D hD
  refine (h1.trans h2).run (by omega) (fun k hk => ?_)
  obtain ⟨m, rfl⟩ : ∃ m, k = m + 4 := ⟨k - 4, by omega⟩
  exact main_post_add _ _ _ _ _ _ _ _ _ _
theorem run_add_full {q c : Nat} {x : Int} {D : List Int} (hq : q ≤ 52) (hc : c = max 4 (2 * q)) (hD : D.length = q) : runF (drivenF allL ⟨#[95, 97, 100, 100]⟩ [0, (q : Int), (q : Int), x] 3 D) false 20000 200000 (startF (drivenF allL ⟨#[95, 97, 100, 100]⟩ [0, (q : Int), (q : Int), x] 3 D)) = (1, [decS (q : Int), decS ((q + 1 : Nat) : Int), decS (c : Int)]) := by
  have h1 := Runs.of (main_pre_add 0 q q x D)
  obtain ⟨W', h2⟩ := add_full (name := ⟨#[95, 97, 100, 100]⟩) (xs := [0, (q : Int), (q : Int), x]) (r := 3) (d := D) (L := []) (R := []) (want := [4, 5, 6]) (g := ⟨0, [0, q, q, x, 0, 0, 0, 0, 0], [], 0, 5, []⟩) (x := x) (by omega) hc D hD
  refine (h1.trans h2).run (by omega) (fun k hk => ?_)
  obtain ⟨m, rfl⟩ : ∃ m, k = m + 4 := ⟨k - 4, by omega⟩
  exact main_post_add _ _ _ _ _ _ _ _ _ _
end Go.Proofs.Ytaomlfbcfmmhlaa

/-
  RtAdds, walked: some words, room not below 0.
-/
namespace Go.Proofs.Ytaomlfbcfmmhlaa
open Go.RowKit Go.Pst
set_option linter.unusedVariables false
set_option linter.unusedSimpArgs false
set_option maxRecDepth 100000
set_option maxHeartbeats 4000000 in
theorem rtAdds_pos (l : List Int) (v0 : Value) (room : Int) (hro : InI room) (x : Int) (hx : InI x) {w : World} (ha : ¬ room.tmod 3 < 0) (hb : ¬ l.length % 50 = 0) (hl : rInts (fun _ => True) w [v0] l) :
    Calls Try.prog 6 #[v0, .int .i64 room, .int .i64 x] w fun e w' => e = .returned (.bool true) ∧ Below w.heap.size w w' := by
  obtain ⟨a0, c0, rfl, hcap, -, -⟩ := rSlice_val hl
  obtain ⟨_, _, hv, hl9, hat, hI⟩ := rInts_open hl
  obtain ⟨rfl, rfl⟩ : a0 = _ ∧ c0 = _ := by simpa using hv
  obtain ⟨j0, hj0, hy0, hy1, hy2⟩ := info_parts infoInt
  obtain ⟨n, hn⟩ : ∃ n : Nat, n = l.length % 50 := ⟨_, rfl⟩
  have hn50 : n < 50 := by omega
  have hnl : n ≤ l.length := by omega
  have hN : (l.length : Int) % 50 = n := by omega
  obtain ⟨j, hj⟩ : ∃ j, j = room.tmod 3 := ⟨_, rfl⟩
  have hj3 : -3 < j ∧ j < 3 := by rw [hj]; exact ⟨by have := Int.lt_tmod_of_pos room (b := 3) (by omega); omega, Int.tmod_lt_of_pos room (by omega)⟩
  obtain ⟨hj1, hj2⟩ := hj3
  have hJ : room.tmod 3 = j := hj.symm
  obtain ⟨k, hk⟩ : ∃ k : Nat, k = n + j.toNat := ⟨_, rfl⟩
  have hW : IntKind.i64.wrap ((n : Int) + j) = (n : Int) + j := IntWalk.i64_in _ (by omega)
  have hW2 : wrap64 ((n : Int) + j) = (n : Int) + j := wrap_id (by omega) (by omega)
  have hc1 : (n : Int) ≤ c0 := by omega
  have hn0 : (0 : Int) ≤ n := by omega
  have HL := Lib.hid hl
  have HI := Lib.hid hI
  have HA := Lib.hid hat
  have Hn := Lib.hid hn
  have Hk := Lib.hid hk
  clear hl hI hat hv
  have hneg : ¬ (n : Int) + j < n := by omega
  have hz : ¬ n = 0 := by omega
  clear ha hb hj hn hk
  obtain ⟨b, off, ha0, hb0, -⟩ := HA.out 0 (by omega)
  subst ha0
  have hcells : ∀ i u, (ints (l.take n))[i]? = some u → w.cell? ((⟨b, off, none⟩ : Addr).add i) = some u := fun i u hu => by
    have hi : i < (l.take n).length := by
      have := (List.getElem?_eq_some_iff.1 hu).1
      simpa [ints] using this
    have hil : i < l.length := by rw [List.length_take] at hi; omega
    obtain ⟨b', off', e, _, hc⟩ := HA.out i hil
    obtain ⟨rfl, rfl⟩ : b = b' ∧ off = off' := by simpa using e
    have hadd : (⟨b, off, none⟩ : Addr).add i = ⟨b, off + i, none⟩ := by unfold Addr.add; split <;> simp_all
    rw [hadd, hc]
    rw [ints_get hi] at hu
    rw [← hu]
    simp
  have htk : (l.take n).length = n := by rw [List.length_take]; omega
  have hlen : (ints (l.take n)).length = n * 1 := by simp [ints]; omega
  have hone : ∀ u ∈ ints (l.take n), u.oneCell' = true := fun u hu => by
    simp only [ints, List.mem_map] at hu
    obtain ⟨q, _, rfl⟩ := hu
    rfl
  have Hc := Lib.hid hcells
  have Hlen := Lib.hid hlen
  have Hone := Lib.hid hone
  have Htk := Lib.hid htk
  clear hcells hlen hone htk
  go_enter Try.func6, Try.ntmps6
  go_wp2_with (at_builtin; refine wpList_append_own_at _ rfl _ _ 25 rfl w.heap.size 3 j0 (.int .i64 0) 1 8 Try.underlying25 hj0 hy0 hy1 hy2 rfl (by decide) (.slice none 0 0) 0 [] rfl ⟨rfl, Or.inl ⟨rfl, rfl⟩⟩ ⟨b, off, none⟩ n c0 (ints (l.take n)) rfl Hlen.out Hc.out Hone.out (by unfold maxLen; omega) (by omega) (Nat.le_refl _) ?_; intro v1 w1 hown1 hgrow1 hnil1 hat1; clear hnil1)
  have hb1 : Below w.heap.size w w1 := (Since.grown hgrow1).below (Nat.le_refl _) (fun q hq => by simp [Value.ownBlock] at hq)
  rw [Nat.zero_add, List.nil_append] at hown1
  have hkj : (n : Int) + j = (k : Int) := by rw [Hk.out]; omega
  have hk52 : k ≤ 52 := by rw [Hk.out]; omega
  have hnk : n ≤ k := by rw [Hk.out]; omega
  have HO1 := Lib.hid hown1
  have HB1 := Lib.hid hb1
  clear hown1 hgrow1 hat1 hb1 hW hW2
  rw [hkj]
  go_loopw [9, 10] (fun v i wr => ∃ q : Nat, n ≤ q ∧ q ≤ k ∧ i = .int .i64 q ∧ wr.ownsRow w.heap.size 3 1 v q (ints (l.take n ++ List.replicate (q - n) 0)) ∧ Below w.heap.size w wr) (fun _ i _ => k - (intOf i).toNat)
  case atStart => exact ⟨n, Nat.le_refl _, hnk, rfl, by rw [Nat.sub_self, List.replicate_zero, List.append_nil]; exact HO1.out, HB1.out⟩
  case round =>
    obtain ⟨q, hq1, hq2, rfl, ho, hb⟩ := hrel
    obtain ⟨aB, cB, rfl, -, -⟩ := row_slice ho
    have Ho := Lib.hid ho
    have HB := Lib.hid hb
    clear ho hb
    have hsz := HB.out.size
    by_cases hlt : q < k
    · have hlt1 : (q : Int) < (k : Int) := by omega
      go_wp2_with (at_builtin; refine wpList_append_own_at _ rfl _ _ 25 rfl w.heap.size 3 j0 (.int .i64 0) 1 8 Try.underlying25 hj0 hy0 hy1 hy2 rfl (by decide) (.slice aB q cB) q (ints (l.take n ++ List.replicate (q - n) 0)) rfl (Ho.out.alloc _) ⟨wr.heap.size, 0, none⟩ 1 1 [.int .i64 0] rfl rfl (cell_one_new _ _ _) (by intro u hu; simp at hu; subst hu; rfl) (by unfold maxLen; omega) (by omega) (by simp; omega) ?_; intro v3 w3 hown3 hgrow3 hnil3 hat3; clear hnil3)
      have hown4 : ∀ z, (Value.slice aB q cB).ownBlock = some z → w.heap.size ≤ z := fun z hz => (Ho.out.lt z hz).1
      have b3 : Below w.heap.size w w3 := HB.out.trans (((Below.refl _ _).alloc (by omega) _).trans ((Since.grown hgrow3).below (by simp; omega) (fun z hz => hown4 z hz)))
      refine ⟨⟨q + 1, by omega, by omega, by go_num, ?_, b3⟩, by simp [intOf]; omega⟩
      rw [show q + 1 - n = (q - n) + 1 by omega, List.replicate_succ', ← List.append_assoc]
      simpa [ints] using hown3
    · have hqe : q = k := by omega
      subst hqe
      have hdl : (l.take n ++ List.replicate (q - n) 0).length = q := by rw [List.length_append, List.length_replicate, Htk.out]; omega
      have hdI : ∀ y ∈ l.take n ++ List.replicate (q - n) 0, InI y := fun y hy => (List.mem_append.1 hy).elim (fun h => HI.out y (List.mem_of_mem_take h)) (fun h => by rw [List.eq_of_mem_replicate h]; exact ini rfl)
      have Hq : Hid (Int.ofNat 0 = 0) := Lib.hid rfl
      generalize l.take n ++ List.replicate (q - n) 0 = D at *
      have hvd := ints_own (S := fun _ => True) (w := wr) (v := .slice aB q cB) (l := D) (by rw [hdl]; exact row_base Ho.out (Nat.zero_le _)) (fun _ _ => trivial) hdI
      have HVD := Lib.hid hvd
      have HDL := Lib.hid hdl
      clear hvd hdl hdI Hk
      go_wp2_with fail
      refine (all_any _).mono ?_
      rintro e w2 ⟨g, rfl, hA, hb2⟩
      rw [all_lit] at hA
      have HA2 := Lib.hid hA
      have HB2 := Lib.hid hb2
      clear hA hb2
      go_wp2_with fail
      have hW3 := new_one w2 (.cells #[.int .i64 0, .int .i64 n, .int .i64 q, .int .i64 x] 3)
      have bW3 : Below w2.heap.size w2 (w2.alloc (.cells #[.int .i64 0, .int .i64 n, .int .i64 q, .int .i64 x] 3)) := (Below.refl _ _).alloc (Nat.le_refl _) _
      generalize (w2.alloc (.cells #[.int .i64 0, .int .i64 n, .int .i64 q, .int .i64 x] 3)) = w3 at hW3 bW3 ⊢
      have hlit : rInts (fun _ => True) w3 [.slice (some ⟨w2.heap.size, 0, none⟩) 4 4] [0, (n : Int), (q : Int), x] := rInts_all [0, (n : Int), (q : Int), x] trivial (lens rfl) (fun y hy => by
        simp at hy
        rcases hy with rfl | rfl | rfl | rfl
        · exact ini rfl
        · exact ini_small (by omega) (by omega)
        · exact ini_small (by omega) (by omega)
        · exact hx) hW3
      have b23 := HB2.out.trans (bW3.mono HB2.out.size)
      have hA3 := Good.keep (S' := fun _ => True) (Keep.of_below' bW3 (fun x hx _ => hx)) (fun _ _ _ => trivial) HA2.out
      have hD3 := Good.keep (S' := fun _ => True) (Keep.of_below' b23 (fun x hx _ => hx)) (fun _ _ _ => trivial) HVD.out
      have b03 := HB.out.trans (b23.mono HB.out.size)
      have hDl : D.length ≤ 20000 := by rw [HDL.out]; omega
      have HA3 := Lib.hid hA3
      have HI3 := Lib.hid hlit
      have HD3 := Lib.hid hD3
      have HB3 := Lib.hid b03
      have HDl := Lib.hid hDl
      clear hW3 bW3 hlit b23 hA3 hD3 b03 hDl
      have hn1 : ((n + 1 : Nat) : Int) = (n : Int) + 1 := by omega
      have hwn : IntKind.i64.wrap ((n : Int) + 1) = (n : Int) + 1 := IntWalk.i64_in _ (by omega)
      have hwq : IntKind.i64.wrap (2 * (q : Int)) = 2 * (q : Int) := IntWalk.i64_in _ (by omega)
      have inN : InI ((n : Int) + 1) := ini_small (by omega) (by omega)
      have inQ : InI (q : Int) := ini_small (by omega) (by omega)
      by_cases hnq : n < q
      · have hnq1 : (n : Int) < (q : Int) := by omega
        have hr := run_add_room (x := x) hk52 hnq HDL.out
        rw [hn1, dec_zero] at hr
        have HR := Lib.hid hr
        clear hr hn1
        refine (tells_any (l := [0, (n : Int), (q : Int), x]) (r := 3) (by decide) (by simp) (by decide) HA3.out HI3.out HD3.out (by decide) (by decide) HDl.out (fault_add _ _ _ _ _ HDl.out) (fit_driven _ _ _ _ (by simp) (by decide) HDl.out) HR.out).mono ?_
        rintro e w4 ⟨v4, rfl, ho4, b4⟩
        obtain ⟨g4, c4, hv4⟩ := row_some ho4
        subst hv4
        have HO4 := Lib.hid ho4
        have HB4 := Lib.hid b4
        clear ho4 b4
        go_wp2_with fail
        refine (Dec_any _ inN _).mono ?_
        rintro e w5 ⟨rfl, b5⟩
        have HB5 := Lib.hid b5
        clear b5
        go_wp2_with fail
        refine (Dec_any _ inQ _).mono ?_
        rintro e w6 ⟨rfl, b6⟩
        have HB6 := Lib.hid b6
        clear b6
        go_wp2_with fail
        have c4_ := Below.refl w4.heap.size w4
        have c5_ := c4_.trans (HB5.out.mono c4_.size)
        have c6_ := c5_.trans (HB6.out.mono c5_.size)
        have cl_ := c6_.alloc c6_.size (.cells #[.string ⟨#[48]⟩, .string (decS ((n : Int) + 1)), .string (decS (q : Int))] 9)
        refine (sameTexts_any [⟨#[48]⟩, decS ((n : Int) + 1), decS (q : Int)] _ _ _ 0 (row_base ((Since.of_below' cl_ (fun _ => False)).row HO4.out (fun _ _ f => f)) (Nat.zero_le _)) (own_lits w6 _ 9 #[.string ⟨#[48]⟩, .string (decS ((n : Int) + 1)), .string (decS (q : Int))] 3 1 rfl rfl (by decide))).mono ?_
        rintro e wz ⟨rfl, bz⟩
        have Hz := Lib.hid (cl_.trans (bz.mono cl_.size))
        clear cl_ bz
        go_wp2_with fail
        go_ret
        have r1 := HB3.out
        have r2 := HB4.out.trans (Hz.out.mono HB4.out.size)
        exact ⟨rfl, r1.trans (r2.mono r1.size)⟩
      · have hnq0 : n = q := by omega
        subst hnq0
        clear hnq
        by_cases h4 : 2 * (n : Int) < 4
        · have hr := run_add_full (q := n) (c := 4) (x := x) hk52 (by omega) HDL.out
          rw [hn1] at hr
          have HR := Lib.hid hr
          have in4 : InI 4 := ini rfl
          clear hr hn1
          refine (tells_any (l := [0, (n : Int), (n : Int), x]) (r := 3) (by decide) (by simp) (by decide) HA3.out HI3.out HD3.out (by decide) (by decide) HDl.out (fault_add _ _ _ _ _ HDl.out) (fit_driven _ _ _ _ (by simp) (by decide) HDl.out) HR.out).mono ?_
          rintro e w4 ⟨v4, rfl, ho4, b4⟩
          obtain ⟨g4, c4, hv4⟩ := row_some ho4
          subst hv4
          have HO4 := Lib.hid ho4
          have HB4 := Lib.hid b4
          clear ho4 b4
          go_wp2_with fail
          refine (Dec_any _ inQ _).mono ?_
          rintro e w5 ⟨rfl, b5⟩
          have HB5 := Lib.hid b5
          clear b5
          go_wp2_with fail
          refine (Dec_any _ inN _).mono ?_
          rintro e w6 ⟨rfl, b6⟩
          have HB6 := Lib.hid b6
          clear b6
          go_wp2_with fail
          refine (Dec_any _ in4 _).mono ?_
          rintro e w7 ⟨rfl, b7⟩
          have HB7 := Lib.hid b7
          clear b7
          go_wp2_with fail
          have c4_ := Below.refl w4.heap.size w4
          have c5_ := c4_.trans (HB5.out.mono c4_.size)
          have c6_ := c5_.trans (HB6.out.mono c5_.size)
          have c7_ := c6_.trans (HB7.out.mono c6_.size)
          have cl_ := c7_.alloc c7_.size (.cells #[.string (decS (n : Int)), .string (decS ((n : Int) + 1)), .string (decS 4)] 9)
          refine (sameTexts_any [decS (n : Int), decS ((n : Int) + 1), decS 4] _ _ _ 0 (row_base ((Since.of_below' cl_ (fun _ => False)).row HO4.out (fun _ _ f => f)) (Nat.zero_le _)) (own_lits w7 _ 9 #[.string (decS (n : Int)), .string (decS ((n : Int) + 1)), .string (decS 4)] 3 1 rfl rfl (by decide))).mono ?_
          rintro e wz ⟨rfl, bz⟩
          have Hz := Lib.hid (cl_.trans (bz.mono cl_.size))
          clear cl_ bz
          go_wp2_with fail
          go_ret
          have r1 := HB3.out
          have r2 := HB4.out.trans (Hz.out.mono HB4.out.size)
          exact ⟨rfl, r1.trans (r2.mono r1.size)⟩
        · have hr := run_add_full (q := n) (c := 2 * n) (x := x) hk52 (by omega) HDL.out
          rw [hn1, show ((2 * n : Nat) : Int) = 2 * (n : Int) by omega] at hr
          have HR := Lib.hid hr
          have in4 : InI (2 * (n : Int)) := ini_small (by omega) (by omega)
          clear hr hn1
          refine (tells_any (l := [0, (n : Int), (n : Int), x]) (r := 3) (by decide) (by simp) (by decide) HA3.out HI3.out HD3.out (by decide) (by decide) HDl.out (fault_add _ _ _ _ _ HDl.out) (fit_driven _ _ _ _ (by simp) (by decide) HDl.out) HR.out).mono ?_
          rintro e w4 ⟨v4, rfl, ho4, b4⟩
          obtain ⟨g4, c4, hv4⟩ := row_some ho4
          subst hv4
          have HO4 := Lib.hid ho4
          have HB4 := Lib.hid b4
          clear ho4 b4
          go_wp2_with fail
          refine (Dec_any _ inQ _).mono ?_
          rintro e w5 ⟨rfl, b5⟩
          have HB5 := Lib.hid b5
          clear b5
          go_wp2_with fail
          refine (Dec_any _ inN _).mono ?_
          rintro e w6 ⟨rfl, b6⟩
          have HB6 := Lib.hid b6
          clear b6
          go_wp2_with fail
          refine (Dec_any _ in4 _).mono ?_
          rintro e w7 ⟨rfl, b7⟩
          have HB7 := Lib.hid b7
          clear b7
          go_wp2_with fail
          have c4_ := Below.refl w4.heap.size w4
          have c5_ := c4_.trans (HB5.out.mono c4_.size)
          have c6_ := c5_.trans (HB6.out.mono c5_.size)
          have c7_ := c6_.trans (HB7.out.mono c6_.size)
          have cl_ := c7_.alloc c7_.size (.cells #[.string (decS (n : Int)), .string (decS ((n : Int) + 1)), .string (decS (2 * (n : Int)))] 9)
          refine (sameTexts_any [decS (n : Int), decS ((n : Int) + 1), decS (2 * (n : Int))] _ _ _ 0 (row_base ((Since.of_below' cl_ (fun _ => False)).row HO4.out (fun _ _ f => f)) (Nat.zero_le _)) (own_lits w7 _ 9 #[.string (decS (n : Int)), .string (decS ((n : Int) + 1)), .string (decS (2 * (n : Int)))] 3 1 rfl rfl (by decide))).mono ?_
          rintro e wz ⟨rfl, bz⟩
          have Hz := Lib.hid (cl_.trans (bz.mono cl_.size))
          clear cl_ bz
          go_wp2_with fail
          go_ret
          have r1 := HB3.out
          have r2 := HB4.out.trans (Hz.out.mono HB4.out.size)
          exact ⟨rfl, r1.trans (r2.mono r1.size)⟩
end Go.Proofs.Ytaomlfbcfmmhlaa

/-
  RtAdds, walked: some words, room below 0.
-/
namespace Go.Proofs.Ytaomlfbcfmmhlaa
open Go.RowKit Go.Pst
set_option linter.unusedVariables false
set_option linter.unusedSimpArgs false
set_option maxRecDepth 100000
set_option maxHeartbeats 4000000 in
theorem rtAdds_neg (l : List Int) (v0 : Value) (room : Int) (hro : InI room) (x : Int) (hx : InI x) {w : World} (ha : room.tmod 3 < 0) (hb : ¬ l.length % 50 = 0) (hl : rInts (fun _ => True) w [v0] l) :
    Calls Try.prog 6 #[v0, .int .i64 room, .int .i64 x] w fun e w' => e = .returned (.bool true) ∧ Below w.heap.size w w' := by
  obtain ⟨a0, c0, rfl, hcap, -, -⟩ := rSlice_val hl
  obtain ⟨_, _, hv, hl9, hat, hI⟩ := rInts_open hl
  obtain ⟨rfl, rfl⟩ : a0 = _ ∧ c0 = _ := by simpa using hv
  obtain ⟨j0, hj0, hy0, hy1, hy2⟩ := info_parts infoInt
  obtain ⟨n, hn⟩ : ∃ n : Nat, n = l.length % 50 := ⟨_, rfl⟩
  have hn50 : n < 50 := by omega
  have hnl : n ≤ l.length := by omega
  have hN : (l.length : Int) % 50 = n := by omega
  obtain ⟨j, hj⟩ : ∃ j, j = room.tmod 3 := ⟨_, rfl⟩
  have hj3 : -3 < j ∧ j < 3 := by rw [hj]; exact ⟨by have := Int.lt_tmod_of_pos room (b := 3) (by omega); omega, Int.tmod_lt_of_pos room (by omega)⟩
  obtain ⟨hj1, hj2⟩ := hj3
  have hJ : room.tmod 3 = j := hj.symm
  obtain ⟨k, hk⟩ : ∃ k : Nat, k = n + j.toNat := ⟨_, rfl⟩
  have hW : IntKind.i64.wrap ((n : Int) + j) = (n : Int) + j := IntWalk.i64_in _ (by omega)
  have hW2 : wrap64 ((n : Int) + j) = (n : Int) + j := wrap_id (by omega) (by omega)
  have hc1 : (n : Int) ≤ c0 := by omega
  have hn0 : (0 : Int) ≤ n := by omega
  have HL := Lib.hid hl
  have HI := Lib.hid hI
  have HA := Lib.hid hat
  have Hn := Lib.hid hn
  have Hk := Lib.hid hk
  clear hl hI hat hv
  have hneg : (n : Int) + j < n := by omega
  have hz : ¬ n = 0 := by omega
  clear ha hb hj hn hk
  obtain ⟨b, off, ha0, hb0, -⟩ := HA.out 0 (by omega)
  subst ha0
  have hcells : ∀ i u, (ints (l.take n))[i]? = some u → w.cell? ((⟨b, off, none⟩ : Addr).add i) = some u := fun i u hu => by
    have hi : i < (l.take n).length := by
      have := (List.getElem?_eq_some_iff.1 hu).1
      simpa [ints] using this
    have hil : i < l.length := by rw [List.length_take] at hi; omega
    obtain ⟨b', off', e, _, hc⟩ := HA.out i hil
    obtain ⟨rfl, rfl⟩ : b = b' ∧ off = off' := by simpa using e
    have hadd : (⟨b, off, none⟩ : Addr).add i = ⟨b, off + i, none⟩ := by unfold Addr.add; split <;> simp_all
    rw [hadd, hc]
    rw [ints_get hi] at hu
    rw [← hu]
    simp
  have htk : (l.take n).length = n := by rw [List.length_take]; omega
  have hlen : (ints (l.take n)).length = n * 1 := by simp [ints]; omega
  have hone : ∀ u ∈ ints (l.take n), u.oneCell' = true := fun u hu => by
    simp only [ints, List.mem_map] at hu
    obtain ⟨q, _, rfl⟩ := hu
    rfl
  have Hc := Lib.hid hcells
  have Hlen := Lib.hid hlen
  have Hone := Lib.hid hone
  have Htk := Lib.hid htk
  clear hcells hlen hone htk
  go_enter Try.func6, Try.ntmps6
  go_wp2_with (at_builtin; refine wpList_append_own_at _ rfl _ _ 25 rfl w.heap.size 3 j0 (.int .i64 0) 1 8 Try.underlying25 hj0 hy0 hy1 hy2 rfl (by decide) (.slice none 0 0) 0 [] rfl ⟨rfl, Or.inl ⟨rfl, rfl⟩⟩ ⟨b, off, none⟩ n c0 (ints (l.take n)) rfl Hlen.out Hc.out Hone.out (by unfold maxLen; omega) (by omega) (Nat.le_refl _) ?_; intro v1 w1 hown1 hgrow1 hnil1 hat1; clear hnil1)
  have hb1 : Below w.heap.size w w1 := (Since.grown hgrow1).below (Nat.le_refl _) (fun q hq => by simp [Value.ownBlock] at hq)
  rw [Nat.zero_add, List.nil_append] at hown1
  have hk52 : n ≤ 52 := by omega
  have hnk : n ≤ n := Nat.le_refl _
  have HO1 := Lib.hid hown1
  have HB1 := Lib.hid hb1
  clear hown1 hgrow1 hat1 hb1 hW hW2
  go_loopw [9, 10] (fun v i wr => ∃ q : Nat, n ≤ q ∧ q ≤ n ∧ i = .int .i64 q ∧ wr.ownsRow w.heap.size 3 1 v q (ints (l.take n ++ List.replicate (q - n) 0)) ∧ Below w.heap.size w wr) (fun _ i _ => n - (intOf i).toNat)
  case atStart => exact ⟨n, Nat.le_refl _, hnk, rfl, by rw [Nat.sub_self, List.replicate_zero, List.append_nil]; exact HO1.out, HB1.out⟩
  case round =>
    obtain ⟨q, hq1, hq2, rfl, ho, hb⟩ := hrel
    obtain ⟨aB, cB, rfl, -, -⟩ := row_slice ho
    have Ho := Lib.hid ho
    have HB := Lib.hid hb
    clear ho hb
    have hsz := HB.out.size
    by_cases hlt : q < n
    · exact absurd hlt (by omega)
    · have hqe : n = q := by omega
      subst hqe
      have hdl : (l.take n ++ List.replicate (n - n) 0).length = n := by rw [List.length_append, List.length_replicate, Htk.out]; omega
      have hdI : ∀ y ∈ l.take n ++ List.replicate (n - n) 0, InI y := fun y hy => (List.mem_append.1 hy).elim (fun h => HI.out y (List.mem_of_mem_take h)) (fun h => by rw [List.eq_of_mem_replicate h]; exact ini rfl)
      have Hq : Hid (Int.ofNat 0 = 0) := Lib.hid rfl
      generalize l.take n ++ List.replicate (n - n) 0 = D at *
      have hvd := ints_own (S := fun _ => True) (w := wr) (v := .slice aB n cB) (l := D) (by rw [hdl]; exact row_base Ho.out (Nat.zero_le _)) (fun _ _ => trivial) hdI
      have HVD := Lib.hid hvd
      have HDL := Lib.hid hdl
      clear hvd hdl hdI Hk
      go_wp2_with fail
      refine (all_any _).mono ?_
      rintro e w2 ⟨g, rfl, hA, hb2⟩
      rw [all_lit] at hA
      have HA2 := Lib.hid hA
      have HB2 := Lib.hid hb2
      clear hA hb2
      go_wp2_with fail
      have hW3 := new_one w2 (.cells #[.int .i64 0, .int .i64 n, .int .i64 n, .int .i64 x] 3)
      have bW3 : Below w2.heap.size w2 (w2.alloc (.cells #[.int .i64 0, .int .i64 n, .int .i64 n, .int .i64 x] 3)) := (Below.refl _ _).alloc (Nat.le_refl _) _
      generalize (w2.alloc (.cells #[.int .i64 0, .int .i64 n, .int .i64 n, .int .i64 x] 3)) = w3 at hW3 bW3 ⊢
      have hlit : rInts (fun _ => True) w3 [.slice (some ⟨w2.heap.size, 0, none⟩) 4 4] [0, (n : Int), (n : Int), x] := rInts_all [0, (n : Int), (n : Int), x] trivial (lens rfl) (fun y hy => by
        simp at hy
        rcases hy with rfl | rfl | rfl
        · exact ini rfl
        · exact ini_small (by omega) (by omega)
        · exact hx) hW3
      have b23 := HB2.out.trans (bW3.mono HB2.out.size)
      have hA3 := Good.keep (S' := fun _ => True) (Keep.of_below' bW3 (fun x hx _ => hx)) (fun _ _ _ => trivial) HA2.out
      have hD3 := Good.keep (S' := fun _ => True) (Keep.of_below' b23 (fun x hx _ => hx)) (fun _ _ _ => trivial) HVD.out
      have b03 := HB.out.trans (b23.mono HB.out.size)
      have hDl : D.length ≤ 20000 := by rw [HDL.out]; omega
      have HA3 := Lib.hid hA3
      have HI3 := Lib.hid hlit
      have HD3 := Lib.hid hD3
      have HB3 := Lib.hid b03
      have HDl := Lib.hid hDl
      clear hW3 bW3 hlit b23 hA3 hD3 b03 hDl
      have hn1 : ((n + 1 : Nat) : Int) = (n : Int) + 1 := by omega
      have hwn : IntKind.i64.wrap ((n : Int) + 1) = (n : Int) + 1 := IntWalk.i64_in _ (by omega)
      have hwq : IntKind.i64.wrap (2 * (n : Int)) = 2 * (n : Int) := IntWalk.i64_in _ (by omega)
      have inN : InI ((n : Int) + 1) := ini_small (by omega) (by omega)
      have inQ : InI (n : Int) := ini_small (by omega) (by omega)
      by_cases h4 : 2 * (n : Int) < 4
      · have hr := run_add_full (q := n) (c := 4) (x := x) hk52 (by omega) HDL.out
        rw [hn1] at hr
        have HR := Lib.hid hr
        have in4 : InI 4 := ini rfl
        clear hr hn1
        refine (tells_any (l := [0, (n : Int), (n : Int), x]) (r := 3) (by decide) (by simp) (by decide) HA3.out HI3.out HD3.out (by decide) (by decide) HDl.out (fault_add _ _ _ _ _ HDl.out) (fit_driven _ _ _ _ (by simp) (by decide) HDl.out) HR.out).mono ?_
        rintro e w4 ⟨v4, rfl, ho4, b4⟩
        obtain ⟨g4, c4, hv4⟩ := row_some ho4
        subst hv4
        have HO4 := Lib.hid ho4
        have HB4 := Lib.hid b4
        clear ho4 b4
        go_wp2_with fail
        refine (Dec_any _ inQ _).mono ?_
        rintro e w5 ⟨rfl, b5⟩
        have HB5 := Lib.hid b5
        clear b5
        go_wp2_with fail
        refine (Dec_any _ inN _).mono ?_
        rintro e w6 ⟨rfl, b6⟩
        have HB6 := Lib.hid b6
        clear b6
        go_wp2_with fail
        refine (Dec_any _ in4 _).mono ?_
        rintro e w7 ⟨rfl, b7⟩
        have HB7 := Lib.hid b7
        clear b7
        go_wp2_with fail
        have c4_ := Below.refl w4.heap.size w4
        have c5_ := c4_.trans (HB5.out.mono c4_.size)
        have c6_ := c5_.trans (HB6.out.mono c5_.size)
        have c7_ := c6_.trans (HB7.out.mono c6_.size)
        have cl_ := c7_.alloc c7_.size (.cells #[.string (decS (n : Int)), .string (decS ((n : Int) + 1)), .string (decS 4)] 9)
        refine (sameTexts_any [decS (n : Int), decS ((n : Int) + 1), decS 4] _ _ _ 0 (row_base ((Since.of_below' cl_ (fun _ => False)).row HO4.out (fun _ _ f => f)) (Nat.zero_le _)) (own_lits w7 _ 9 #[.string (decS (n : Int)), .string (decS ((n : Int) + 1)), .string (decS 4)] 3 1 rfl rfl (by decide))).mono ?_
        rintro e wz ⟨rfl, bz⟩
        have Hz := Lib.hid (cl_.trans (bz.mono cl_.size))
        clear cl_ bz
        go_wp2_with fail
        go_ret
        have r1 := HB3.out
        have r2 := HB4.out.trans (Hz.out.mono HB4.out.size)
        exact ⟨rfl, r1.trans (r2.mono r1.size)⟩
      · have hr := run_add_full (q := n) (c := 2 * n) (x := x) hk52 (by omega) HDL.out
        rw [hn1, show ((2 * n : Nat) : Int) = 2 * (n : Int) by omega] at hr
        have HR := Lib.hid hr
        have in4 : InI (2 * (n : Int)) := ini_small (by omega) (by omega)
        clear hr hn1
        refine (tells_any (l := [0, (n : Int), (n : Int), x]) (r := 3) (by decide) (by simp) (by decide) HA3.out HI3.out HD3.out (by decide) (by decide) HDl.out (fault_add _ _ _ _ _ HDl.out) (fit_driven _ _ _ _ (by simp) (by decide) HDl.out) HR.out).mono ?_
        rintro e w4 ⟨v4, rfl, ho4, b4⟩
        obtain ⟨g4, c4, hv4⟩ := row_some ho4
        subst hv4
        have HO4 := Lib.hid ho4
        have HB4 := Lib.hid b4
        clear ho4 b4
        go_wp2_with fail
        refine (Dec_any _ inQ _).mono ?_
        rintro e w5 ⟨rfl, b5⟩
        have HB5 := Lib.hid b5
        clear b5
        go_wp2_with fail
        refine (Dec_any _ inN _).mono ?_
        rintro e w6 ⟨rfl, b6⟩
        have HB6 := Lib.hid b6
        clear b6
        go_wp2_with fail
        refine (Dec_any _ in4 _).mono ?_
        rintro e w7 ⟨rfl, b7⟩
        have HB7 := Lib.hid b7
        clear b7
        go_wp2_with fail
        have c4_ := Below.refl w4.heap.size w4
        have c5_ := c4_.trans (HB5.out.mono c4_.size)
        have c6_ := c5_.trans (HB6.out.mono c5_.size)
        have c7_ := c6_.trans (HB7.out.mono c6_.size)
        have cl_ := c7_.alloc c7_.size (.cells #[.string (decS (n : Int)), .string (decS ((n : Int) + 1)), .string (decS (2 * (n : Int)))] 9)
        refine (sameTexts_any [decS (n : Int), decS ((n : Int) + 1), decS (2 * (n : Int))] _ _ _ 0 (row_base ((Since.of_below' cl_ (fun _ => False)).row HO4.out (fun _ _ f => f)) (Nat.zero_le _)) (own_lits w7 _ 9 #[.string (decS (n : Int)), .string (decS ((n : Int) + 1)), .string (decS (2 * (n : Int)))] 3 1 rfl rfl (by decide))).mono ?_
        rintro e wz ⟨rfl, bz⟩
        have Hz := Lib.hid (cl_.trans (bz.mono cl_.size))
        clear cl_ bz
        go_wp2_with fail
        go_ret
        have r1 := HB3.out
        have r2 := HB4.out.trans (Hz.out.mono HB4.out.size)
        exact ⟨rfl, r1.trans (r2.mono r1.size)⟩
end Go.Proofs.Ytaomlfbcfmmhlaa

/-
  RtAdds, walked: no words, room not below 0.
-/
namespace Go.Proofs.Ytaomlfbcfmmhlaa
open Go.RowKit Go.Pst
set_option linter.unusedVariables false
set_option linter.unusedSimpArgs false
set_option maxRecDepth 100000
theorem wpList_append_zero {P : Program} {w : World} {ops : Array Oper} {rest : List Oper} {o : Oper} {a : Act} {Q : Exit → Act → World → Prop} (hgd : o.guard = none) (s x : Operand) (t : TypeId)
    (ho : o.op = .call { callee := .builtin .append, args := #[s, x], argTypes := #[t, t] }) (e : TypeId) (i : TypeInfo) (ht : P.underlying t = some (.slice e)) (hi : P.info? e = some i)
    (hs : a.eval s = .slice none 0 0) (ax : Option Addr) (m c : Nat) (hm : m = 0) (hx : a.eval x = .slice ax m c) (h : wpList P ops Q rest (a.put o.dst (.slice none 0 0)) w) : wpList P ops Q (o :: rest) a w := by
  subst hm
  refine wpList_plain hgd fun K hK => ?_
  have hr : (Builtin.append_ #[t, t] o.type #[.slice none 0 0, .slice ax 0 c]).run P w = .ok (.slice none 0 0) w := by
    cases ax <;> simp [Builtin.append_, run_underlying ht, sizeOf, typeInfo, hi, Builtin.lenOf, Builtin.firstCells, loadCells, loadCellsFrom]
  unfold Oper.wp execOp
  simp only [ho, resolve, invoke, builtin, Sem.run_bind, Sem.run_pure, Result.andThen_ok, List.map_toArray, List.map_cons, List.map_nil, hs, hx, hr]
  exact hK _ _ h
set_option maxHeartbeats 4000000 in
theorem rtAdds_nil (l : List Int) (v0 : Value) (room : Int) (hro : InI room) (x : Int) (hx : InI x) {w : World} (ha : ¬ room.tmod 3 < 0) (hb : l.length % 50 = 0) (hl : rInts (fun _ => True) w [v0] l) :
    Calls Try.prog 6 #[v0, .int .i64 room, .int .i64 x] w fun e w' => e = .returned (.bool true) ∧ Below w.heap.size w w' := by
  obtain ⟨a0, c0, rfl, hcap, -, -⟩ := rSlice_val hl
  obtain ⟨_, _, hv, hl9, hat, hI⟩ := rInts_open hl
  obtain ⟨rfl, rfl⟩ : a0 = _ ∧ c0 = _ := by simpa using hv
  obtain ⟨j0, hj0, hy0, hy1, hy2⟩ := info_parts infoInt
  obtain ⟨n, hn⟩ : ∃ n : Nat, n = l.length % 50 := ⟨_, rfl⟩
  have hn50 : n < 50 := by omega
  have hnl : n ≤ l.length := by omega
  have hN : (l.length : Int) % 50 = n := by omega
  obtain ⟨j, hj⟩ : ∃ j, j = room.tmod 3 := ⟨_, rfl⟩
  have hj3 : -3 < j ∧ j < 3 := by rw [hj]; exact ⟨by have := Int.lt_tmod_of_pos room (b := 3) (by omega); omega, Int.tmod_lt_of_pos room (by omega)⟩
  obtain ⟨hj1, hj2⟩ := hj3
  have hJ : room.tmod 3 = j := hj.symm
  obtain ⟨k, hk⟩ : ∃ k : Nat, k = n + j.toNat := ⟨_, rfl⟩
  have hW : IntKind.i64.wrap ((n : Int) + j) = (n : Int) + j := IntWalk.i64_in _ (by omega)
  have hW2 : wrap64 ((n : Int) + j) = (n : Int) + j := wrap_id (by omega) (by omega)
  have hc1 : (n : Int) ≤ c0 := by omega
  have hn0 : (0 : Int) ≤ n := by omega
  have HL := Lib.hid hl
  have HI := Lib.hid hI
  have HA := Lib.hid hat
  have Hn := Lib.hid hn
  have Hk := Lib.hid hk
  clear hl hI hat hv
  have hneg : ¬ (n : Int) + j < n := by omega
  have hnz : n = 0 := by omega
  clear ha hb hj hn hk
  have htk : (l.take n).length = n := by rw [List.length_take]; omega
  have Htk := Lib.hid htk
  clear htk
  have HZ := Lib.hid hnz
  clear hnz
  go_enter Try.func6, Try.ntmps6
  go_wp2_with (at_builtin; refine wpList_append_zero rfl _ _ 25 rfl 3 j0 Try.underlying25 hj0 rfl a0 n c0 HZ.out rfl ?_)
  have hb1 : Below w.heap.size w w := Below.refl _ _
  have hown1 : w.ownsRow w.heap.size 3 1 (.slice none 0 0) n (ints (l.take n)) := by rw [HZ.out]; exact ⟨rfl, Or.inl ⟨rfl, rfl⟩⟩
  have hkj : (n : Int) + j = (k : Int) := by rw [Hk.out]; omega
  have hk52 : k ≤ 52 := by rw [Hk.out]; omega
  have hnk : n ≤ k := by rw [Hk.out]; omega
  have HO1 := Lib.hid hown1
  have HB1 := Lib.hid hb1
  clear hown1 hb1 hW hW2
  rw [hkj]
  go_loopw [9, 10] (fun v i wr => ∃ q : Nat, n ≤ q ∧ q ≤ k ∧ i = .int .i64 q ∧ wr.ownsRow w.heap.size 3 1 v q (ints (l.take n ++ List.replicate (q - n) 0)) ∧ Below w.heap.size w wr) (fun _ i _ => k - (intOf i).toNat)
  case atStart => exact ⟨n, Nat.le_refl _, hnk, rfl, by rw [Nat.sub_self, List.replicate_zero, List.append_nil]; exact HO1.out, HB1.out⟩
  case round =>
    obtain ⟨q, hq1, hq2, rfl, ho, hb⟩ := hrel
    obtain ⟨aB, cB, rfl, -, -⟩ := row_slice ho
    have Ho := Lib.hid ho
    have HB := Lib.hid hb
    clear ho hb
    have hsz := HB.out.size
    by_cases hlt : q < k
    · have hlt1 : (q : Int) < (k : Int) := by omega
      go_wp2_with (at_builtin; refine wpList_append_own_at _ rfl _ _ 25 rfl w.heap.size 3 j0 (.int .i64 0) 1 8 Try.underlying25 hj0 hy0 hy1 hy2 rfl (by decide) (.slice aB q cB) q (ints (l.take n ++ List.replicate (q - n) 0)) rfl (Ho.out.alloc _) ⟨wr.heap.size, 0, none⟩ 1 1 [.int .i64 0] rfl rfl (cell_one_new _ _ _) (by intro u hu; simp at hu; subst hu; rfl) (by unfold maxLen; omega) (by omega) (by simp; omega) ?_; intro v3 w3 hown3 hgrow3 hnil3 hat3; clear hnil3)
      have hown4 : ∀ z, (Value.slice aB q cB).ownBlock = some z → w.heap.size ≤ z := fun z hz => (Ho.out.lt z hz).1
      have b3 : Below w.heap.size w w3 := HB.out.trans (((Below.refl _ _).alloc (by omega) _).trans ((Since.grown hgrow3).below (by simp; omega) (fun z hz => hown4 z hz)))
      refine ⟨⟨q + 1, by omega, by omega, by go_num, ?_, b3⟩, by simp [intOf]; omega⟩
      rw [show q + 1 - n = (q - n) + 1 by omega, List.replicate_succ', ← List.append_assoc]
      simpa [ints] using hown3
    · have hqe : q = k := by omega
      subst hqe
      have hdl : (l.take n ++ List.replicate (q - n) 0).length = q := by rw [List.length_append, List.length_replicate, Htk.out]; omega
      have hdI : ∀ y ∈ l.take n ++ List.replicate (q - n) 0, InI y := fun y hy => (List.mem_append.1 hy).elim (fun h => HI.out y (List.mem_of_mem_take h)) (fun h => by rw [List.eq_of_mem_replicate h]; exact ini rfl)
      have Hq : Hid (Int.ofNat 0 = 0) := Lib.hid rfl
      generalize l.take n ++ List.replicate (q - n) 0 = D at *
      have hvd := ints_own (S := fun _ => True) (w := wr) (v := .slice aB q cB) (l := D) (by rw [hdl]; exact row_base Ho.out (Nat.zero_le _)) (fun _ _ => trivial) hdI
      have HVD := Lib.hid hvd
      have HDL := Lib.hid hdl
      clear hvd hdl hdI Hk
      go_wp2_with fail
      refine (all_any _).mono ?_
      rintro e w2 ⟨g, rfl, hA, hb2⟩
      rw [all_lit] at hA
      have HA2 := Lib.hid hA
      have HB2 := Lib.hid hb2
      clear hA hb2
      go_wp2_with fail
      have hW3 := new_one w2 (.cells #[.int .i64 0, .int .i64 n, .int .i64 q, .int .i64 x] 3)
      have bW3 : Below w2.heap.size w2 (w2.alloc (.cells #[.int .i64 0, .int .i64 n, .int .i64 q, .int .i64 x] 3)) := (Below.refl _ _).alloc (Nat.le_refl _) _
      generalize (w2.alloc (.cells #[.int .i64 0, .int .i64 n, .int .i64 q, .int .i64 x] 3)) = w3 at hW3 bW3 ⊢
      have hlit : rInts (fun _ => True) w3 [.slice (some ⟨w2.heap.size, 0, none⟩) 4 4] [0, (n : Int), (q : Int), x] := rInts_all [0, (n : Int), (q : Int), x] trivial (lens rfl) (fun y hy => by
        simp at hy
        rcases hy with rfl | rfl | rfl | rfl
        · exact ini rfl
        · exact ini_small (by omega) (by omega)
        · exact ini_small (by omega) (by omega)
        · exact hx) hW3
      have b23 := HB2.out.trans (bW3.mono HB2.out.size)
      have hA3 := Good.keep (S' := fun _ => True) (Keep.of_below' bW3 (fun x hx _ => hx)) (fun _ _ _ => trivial) HA2.out
      have hD3 := Good.keep (S' := fun _ => True) (Keep.of_below' b23 (fun x hx _ => hx)) (fun _ _ _ => trivial) HVD.out
      have b03 := HB.out.trans (b23.mono HB.out.size)
      have hDl : D.length ≤ 20000 := by rw [HDL.out]; omega
      have HA3 := Lib.hid hA3
      have HI3 := Lib.hid hlit
      have HD3 := Lib.hid hD3
      have HB3 := Lib.hid b03
      have HDl := Lib.hid hDl
      clear hW3 bW3 hlit b23 hA3 hD3 b03 hDl
      have hn1 : ((n + 1 : Nat) : Int) = (n : Int) + 1 := by omega
      have hwn : IntKind.i64.wrap ((n : Int) + 1) = (n : Int) + 1 := IntWalk.i64_in _ (by omega)
      have hwq : IntKind.i64.wrap (2 * (q : Int)) = 2 * (q : Int) := IntWalk.i64_in _ (by omega)
      have inN : InI ((n : Int) + 1) := ini_small (by omega) (by omega)
      have inQ : InI (q : Int) := ini_small (by omega) (by omega)
      by_cases hnq : n < q
      · have hnq1 : (n : Int) < (q : Int) := by omega
        have hr := run_add_room (x := x) hk52 hnq HDL.out
        rw [hn1, dec_zero] at hr
        have HR := Lib.hid hr
        clear hr hn1
        refine (tells_any (l := [0, (n : Int), (q : Int), x]) (r := 3) (by decide) (by simp) (by decide) HA3.out HI3.out HD3.out (by decide) (by decide) HDl.out (fault_add _ _ _ _ _ HDl.out) (fit_driven _ _ _ _ (by simp) (by decide) HDl.out) HR.out).mono ?_
        rintro e w4 ⟨v4, rfl, ho4, b4⟩
        obtain ⟨g4, c4, hv4⟩ := row_some ho4
        subst hv4
        have HO4 := Lib.hid ho4
        have HB4 := Lib.hid b4
        clear ho4 b4
        go_wp2_with fail
        refine (Dec_any _ inN _).mono ?_
        rintro e w5 ⟨rfl, b5⟩
        have HB5 := Lib.hid b5
        clear b5
        go_wp2_with fail
        refine (Dec_any _ inQ _).mono ?_
        rintro e w6 ⟨rfl, b6⟩
        have HB6 := Lib.hid b6
        clear b6
        go_wp2_with fail
        have c4_ := Below.refl w4.heap.size w4
        have c5_ := c4_.trans (HB5.out.mono c4_.size)
        have c6_ := c5_.trans (HB6.out.mono c5_.size)
        have cl_ := c6_.alloc c6_.size (.cells #[.string ⟨#[48]⟩, .string (decS ((n : Int) + 1)), .string (decS (q : Int))] 9)
        refine (sameTexts_any [⟨#[48]⟩, decS ((n : Int) + 1), decS (q : Int)] _ _ _ 0 (row_base ((Since.of_below' cl_ (fun _ => False)).row HO4.out (fun _ _ f => f)) (Nat.zero_le _)) (own_lits w6 _ 9 #[.string ⟨#[48]⟩, .string (decS ((n : Int) + 1)), .string (decS (q : Int))] 3 1 rfl rfl (by decide))).mono ?_
        rintro e wz ⟨rfl, bz⟩
        have Hz := Lib.hid (cl_.trans (bz.mono cl_.size))
        clear cl_ bz
        go_wp2_with fail
        go_ret
        have r1 := HB3.out
        have r2 := HB4.out.trans (Hz.out.mono HB4.out.size)
        exact ⟨rfl, r1.trans (r2.mono r1.size)⟩
      · have hnq0 : n = q := by omega
        subst hnq0
        clear hnq
        by_cases h4 : 2 * (n : Int) < 4
        · have hr := run_add_full (q := n) (c := 4) (x := x) hk52 (by omega) HDL.out
          rw [hn1] at hr
          have HR := Lib.hid hr
          have in4 : InI 4 := ini rfl
          clear hr hn1
          refine (tells_any (l := [0, (n : Int), (n : Int), x]) (r := 3) (by decide) (by simp) (by decide) HA3.out HI3.out HD3.out (by decide) (by decide) HDl.out (fault_add _ _ _ _ _ HDl.out) (fit_driven _ _ _ _ (by simp) (by decide) HDl.out) HR.out).mono ?_
          rintro e w4 ⟨v4, rfl, ho4, b4⟩
          obtain ⟨g4, c4, hv4⟩ := row_some ho4
          subst hv4
          have HO4 := Lib.hid ho4
          have HB4 := Lib.hid b4
          clear ho4 b4
          go_wp2_with fail
          refine (Dec_any _ inQ _).mono ?_
          rintro e w5 ⟨rfl, b5⟩
          have HB5 := Lib.hid b5
          clear b5
          go_wp2_with fail
          refine (Dec_any _ inN _).mono ?_
          rintro e w6 ⟨rfl, b6⟩
          have HB6 := Lib.hid b6
          clear b6
          go_wp2_with fail
          refine (Dec_any _ in4 _).mono ?_
          rintro e w7 ⟨rfl, b7⟩
          have HB7 := Lib.hid b7
          clear b7
          go_wp2_with fail
          have c4_ := Below.refl w4.heap.size w4
          have c5_ := c4_.trans (HB5.out.mono c4_.size)
          have c6_ := c5_.trans (HB6.out.mono c5_.size)
          have c7_ := c6_.trans (HB7.out.mono c6_.size)
          have cl_ := c7_.alloc c7_.size (.cells #[.string (decS (n : Int)), .string (decS ((n : Int) + 1)), .string (decS 4)] 9)
          refine (sameTexts_any [decS (n : Int), decS ((n : Int) + 1), decS 4] _ _ _ 0 (row_base ((Since.of_below' cl_ (fun _ => False)).row HO4.out (fun _ _ f => f)) (Nat.zero_le _)) (own_lits w7 _ 9 #[.string (decS (n : Int)), .string (decS ((n : Int) + 1)), .string (decS 4)] 3 1 rfl rfl (by decide))).mono ?_
          rintro e wz ⟨rfl, bz⟩
          have Hz := Lib.hid (cl_.trans (bz.mono cl_.size))
          clear cl_ bz
          go_wp2_with fail
          go_ret
          have r1 := HB3.out
          have r2 := HB4.out.trans (Hz.out.mono HB4.out.size)
          exact ⟨rfl, r1.trans (r2.mono r1.size)⟩
        · have hr := run_add_full (q := n) (c := 2 * n) (x := x) hk52 (by omega) HDL.out
          rw [hn1, show ((2 * n : Nat) : Int) = 2 * (n : Int) by omega] at hr
          have HR := Lib.hid hr
          have in4 : InI (2 * (n : Int)) := ini_small (by omega) (by omega)
          clear hr hn1
          refine (tells_any (l := [0, (n : Int), (n : Int), x]) (r := 3) (by decide) (by simp) (by decide) HA3.out HI3.out HD3.out (by decide) (by decide) HDl.out (fault_add _ _ _ _ _ HDl.out) (fit_driven _ _ _ _ (by simp) (by decide) HDl.out) HR.out).mono ?_
          rintro e w4 ⟨v4, rfl, ho4, b4⟩
          obtain ⟨g4, c4, hv4⟩ := row_some ho4
          subst hv4
          have HO4 := Lib.hid ho4
          have HB4 := Lib.hid b4
          clear ho4 b4
          go_wp2_with fail
          refine (Dec_any _ inQ _).mono ?_
          rintro e w5 ⟨rfl, b5⟩
          have HB5 := Lib.hid b5
          clear b5
          go_wp2_with fail
          refine (Dec_any _ inN _).mono ?_
          rintro e w6 ⟨rfl, b6⟩
          have HB6 := Lib.hid b6
          clear b6
          go_wp2_with fail
          refine (Dec_any _ in4 _).mono ?_
          rintro e w7 ⟨rfl, b7⟩
          have HB7 := Lib.hid b7
          clear b7
          go_wp2_with fail
          have c4_ := Below.refl w4.heap.size w4
          have c5_ := c4_.trans (HB5.out.mono c4_.size)
          have c6_ := c5_.trans (HB6.out.mono c5_.size)
          have c7_ := c6_.trans (HB7.out.mono c6_.size)
          have cl_ := c7_.alloc c7_.size (.cells #[.string (decS (n : Int)), .string (decS ((n : Int) + 1)), .string (decS (2 * (n : Int)))] 9)
          refine (sameTexts_any [decS (n : Int), decS ((n : Int) + 1), decS (2 * (n : Int))] _ _ _ 0 (row_base ((Since.of_below' cl_ (fun _ => False)).row HO4.out (fun _ _ f => f)) (Nat.zero_le _)) (own_lits w7 _ 9 #[.string (decS (n : Int)), .string (decS ((n : Int) + 1)), .string (decS (2 * (n : Int)))] 3 1 rfl rfl (by decide))).mono ?_
          rintro e wz ⟨rfl, bz⟩
          have Hz := Lib.hid (cl_.trans (bz.mono cl_.size))
          clear cl_ bz
          go_wp2_with fail
          go_ret
          have r1 := HB3.out
          have r2 := HB4.out.trans (Hz.out.mono HB4.out.size)
          exact ⟨rfl, r1.trans (r2.mono r1.size)⟩
end Go.Proofs.Ytaomlfbcfmmhlaa

/-
  RtAdds, walked: no words, room below 0.
-/
namespace Go.Proofs.Ytaomlfbcfmmhlaa
open Go.RowKit Go.Pst
set_option linter.unusedVariables false
set_option linter.unusedSimpArgs false
set_option maxRecDepth 100000
set_option maxHeartbeats 4000000 in
theorem rtAdds_nilneg (l : List Int) (v0 : Value) (room : Int) (hro : InI room) (x : Int) (hx : InI x) {w : World} (ha : room.tmod 3 < 0) (hb : l.length % 50 = 0) (hl : rInts (fun _ => True) w [v0] l) :
    Calls Try.prog 6 #[v0, .int .i64 room, .int .i64 x] w fun e w' => e = .returned (.bool true) ∧ Below w.heap.size w w' := by
  obtain ⟨a0, c0, rfl, hcap, -, -⟩ := rSlice_val hl
  obtain ⟨_, _, hv, hl9, hat, hI⟩ := rInts_open hl
  obtain ⟨rfl, rfl⟩ : a0 = _ ∧ c0 = _ := by simpa using hv
  obtain ⟨j0, hj0, hy0, hy1, hy2⟩ := info_parts infoInt
  obtain ⟨n, hn⟩ : ∃ n : Nat, n = l.length % 50 := ⟨_, rfl⟩
  have hn50 : n < 50 := by omega
  have hnl : n ≤ l.length := by omega
  have hN : (l.length : Int) % 50 = n := by omega
  obtain ⟨j, hj⟩ : ∃ j, j = room.tmod 3 := ⟨_, rfl⟩
  have hj3 : -3 < j ∧ j < 3 := by rw [hj]; exact ⟨by have := Int.lt_tmod_of_pos room (b := 3) (by omega); omega, Int.tmod_lt_of_pos room (by omega)⟩
  obtain ⟨hj1, hj2⟩ := hj3
  have hJ : room.tmod 3 = j := hj.symm
  obtain ⟨k, hk⟩ : ∃ k : Nat, k = n + j.toNat := ⟨_, rfl⟩
  have hW : IntKind.i64.wrap ((n : Int) + j) = (n : Int) + j := IntWalk.i64_in _ (by omega)
  have hW2 : wrap64 ((n : Int) + j) = (n : Int) + j := wrap_id (by omega) (by omega)
  have hc1 : (n : Int) ≤ c0 := by omega
  have hn0 : (0 : Int) ≤ n := by omega
  have HL := Lib.hid hl
  have HI := Lib.hid hI
  have HA := Lib.hid hat
  have Hn := Lib.hid hn
  have Hk := Lib.hid hk
  clear hl hI hat hv
  have hneg : (n : Int) + j < n := by omega
  have hnz : n = 0 := by omega
  clear ha hb hj hn hk
  have htk : (l.take n).length = n := by rw [List.length_take]; omega
  have Htk := Lib.hid htk
  clear htk
  have HZ := Lib.hid hnz
  clear hnz
  go_enter Try.func6, Try.ntmps6
  go_wp2_with (at_builtin; refine wpList_append_zero rfl _ _ 25 rfl 3 j0 Try.underlying25 hj0 rfl a0 n c0 HZ.out rfl ?_)
  have hb1 : Below w.heap.size w w := Below.refl _ _
  have hown1 : w.ownsRow w.heap.size 3 1 (.slice none 0 0) n (ints (l.take n)) := by rw [HZ.out]; exact ⟨rfl, Or.inl ⟨rfl, rfl⟩⟩
  have hk52 : n ≤ 52 := by omega
  have hnk : n ≤ n := Nat.le_refl _
  have HO1 := Lib.hid hown1
  have HB1 := Lib.hid hb1
  clear hown1 hb1 hW hW2
  go_loopw [9, 10] (fun v i wr => ∃ q : Nat, n ≤ q ∧ q ≤ n ∧ i = .int .i64 q ∧ wr.ownsRow w.heap.size 3 1 v q (ints (l.take n ++ List.replicate (q - n) 0)) ∧ Below w.heap.size w wr) (fun _ i _ => n - (intOf i).toNat)
  case atStart => exact ⟨n, Nat.le_refl _, hnk, rfl, by rw [Nat.sub_self, List.replicate_zero, List.append_nil]; exact HO1.out, HB1.out⟩
  case round =>
    obtain ⟨q, hq1, hq2, rfl, ho, hb⟩ := hrel
    obtain ⟨aB, cB, rfl, -, -⟩ := row_slice ho
    have Ho := Lib.hid ho
    have HB := Lib.hid hb
    clear ho hb
    have hsz := HB.out.size
    by_cases hlt : q < n
    · exact absurd hlt (by omega)
    · have hqe : n = q := by omega
      subst hqe
      have hdl : (l.take n ++ List.replicate (n - n) 0).length = n := by rw [List.length_append, List.length_replicate, Htk.out]; omega
      have hdI : ∀ y ∈ l.take n ++ List.replicate (n - n) 0, InI y := fun y hy => (List.mem_append.1 hy).elim (fun h => HI.out y (List.mem_of_mem_take h)) (fun h => by rw [List.eq_of_mem_replicate h]; exact ini rfl)
      have Hq : Hid (Int.ofNat 0 = 0) := Lib.hid rfl
      generalize l.take n ++ List.replicate (n - n) 0 = D at *
      have hvd := ints_own (S := fun _ => True) (w := wr) (v := .slice aB n cB) (l := D) (by rw [hdl]; exact row_base Ho.out (Nat.zero_le _)) (fun _ _ => trivial) hdI
      have HVD := Lib.hid hvd
      have HDL := Lib.hid hdl
      clear hvd hdl hdI Hk
      go_wp2_with fail
      refine (all_any _).mono ?_
      rintro e w2 ⟨g, rfl, hA, hb2⟩
      rw [all_lit] at hA
      have HA2 := Lib.hid hA
      have HB2 := Lib.hid hb2
      clear hA hb2
      go_wp2_with fail
      have hW3 := new_one w2 (.cells #[.int .i64 0, .int .i64 n, .int .i64 n, .int .i64 x] 3)
      have bW3 : Below w2.heap.size w2 (w2.alloc (.cells #[.int .i64 0, .int .i64 n, .int .i64 n, .int .i64 x] 3)) := (Below.refl _ _).alloc (Nat.le_refl _) _
      generalize (w2.alloc (.cells #[.int .i64 0, .int .i64 n, .int .i64 n, .int .i64 x] 3)) = w3 at hW3 bW3 ⊢
      have hlit : rInts (fun _ => True) w3 [.slice (some ⟨w2.heap.size, 0, none⟩) 4 4] [0, (n : Int), (n : Int), x] := rInts_all [0, (n : Int), (n : Int), x] trivial (lens rfl) (fun y hy => by
        simp at hy
        rcases hy with rfl | rfl | rfl
        · exact ini rfl
        · exact ini_small (by omega) (by omega)
        · exact hx) hW3
      have b23 := HB2.out.trans (bW3.mono HB2.out.size)
      have hA3 := Good.keep (S' := fun _ => True) (Keep.of_below' bW3 (fun x hx _ => hx)) (fun _ _ _ => trivial) HA2.out
      have hD3 := Good.keep (S' := fun _ => True) (Keep.of_below' b23 (fun x hx _ => hx)) (fun _ _ _ => trivial) HVD.out
      have b03 := HB.out.trans (b23.mono HB.out.size)
      have hDl : D.length ≤ 20000 := by rw [HDL.out]; omega
      have HA3 := Lib.hid hA3
      have HI3 := Lib.hid hlit
      have HD3 := Lib.hid hD3
      have HB3 := Lib.hid b03
      have HDl := Lib.hid hDl
      clear hW3 bW3 hlit b23 hA3 hD3 b03 hDl
      have hn1 : ((n + 1 : Nat) : Int) = (n : Int) + 1 := by omega
      have hwn : IntKind.i64.wrap ((n : Int) + 1) = (n : Int) + 1 := IntWalk.i64_in _ (by omega)
      have hwq : IntKind.i64.wrap (2 * (n : Int)) = 2 * (n : Int) := IntWalk.i64_in _ (by omega)
      have inN : InI ((n : Int) + 1) := ini_small (by omega) (by omega)
      have inQ : InI (n : Int) := ini_small (by omega) (by omega)
      by_cases h4 : 2 * (n : Int) < 4
      · have hr := run_add_full (q := n) (c := 4) (x := x) hk52 (by omega) HDL.out
        rw [hn1] at hr
        have HR := Lib.hid hr
        have in4 : InI 4 := ini rfl
        clear hr hn1
        refine (tells_any (l := [0, (n : Int), (n : Int), x]) (r := 3) (by decide) (by simp) (by decide) HA3.out HI3.out HD3.out (by decide) (by decide) HDl.out (fault_add _ _ _ _ _ HDl.out) (fit_driven _ _ _ _ (by simp) (by decide) HDl.out) HR.out).mono ?_
        rintro e w4 ⟨v4, rfl, ho4, b4⟩
        obtain ⟨g4, c4, hv4⟩ := row_some ho4
        subst hv4
        have HO4 := Lib.hid ho4
        have HB4 := Lib.hid b4
        clear ho4 b4
        go_wp2_with fail
        refine (Dec_any _ inQ _).mono ?_
        rintro e w5 ⟨rfl, b5⟩
        have HB5 := Lib.hid b5
        clear b5
        go_wp2_with fail
        refine (Dec_any _ inN _).mono ?_
        rintro e w6 ⟨rfl, b6⟩
        have HB6 := Lib.hid b6
        clear b6
        go_wp2_with fail
        refine (Dec_any _ in4 _).mono ?_
        rintro e w7 ⟨rfl, b7⟩
        have HB7 := Lib.hid b7
        clear b7
        go_wp2_with fail
        have c4_ := Below.refl w4.heap.size w4
        have c5_ := c4_.trans (HB5.out.mono c4_.size)
        have c6_ := c5_.trans (HB6.out.mono c5_.size)
        have c7_ := c6_.trans (HB7.out.mono c6_.size)
        have cl_ := c7_.alloc c7_.size (.cells #[.string (decS (n : Int)), .string (decS ((n : Int) + 1)), .string (decS 4)] 9)
        refine (sameTexts_any [decS (n : Int), decS ((n : Int) + 1), decS 4] _ _ _ 0 (row_base ((Since.of_below' cl_ (fun _ => False)).row HO4.out (fun _ _ f => f)) (Nat.zero_le _)) (own_lits w7 _ 9 #[.string (decS (n : Int)), .string (decS ((n : Int) + 1)), .string (decS 4)] 3 1 rfl rfl (by decide))).mono ?_
        rintro e wz ⟨rfl, bz⟩
        have Hz := Lib.hid (cl_.trans (bz.mono cl_.size))
        clear cl_ bz
        go_wp2_with fail
        go_ret
        have r1 := HB3.out
        have r2 := HB4.out.trans (Hz.out.mono HB4.out.size)
        exact ⟨rfl, r1.trans (r2.mono r1.size)⟩
      · have hr := run_add_full (q := n) (c := 2 * n) (x := x) hk52 (by omega) HDL.out
        rw [hn1, show ((2 * n : Nat) : Int) = 2 * (n : Int) by omega] at hr
        have HR := Lib.hid hr
        have in4 : InI (2 * (n : Int)) := ini_small (by omega) (by omega)
        clear hr hn1
        refine (tells_any (l := [0, (n : Int), (n : Int), x]) (r := 3) (by decide) (by simp) (by decide) HA3.out HI3.out HD3.out (by decide) (by decide) HDl.out (fault_add _ _ _ _ _ HDl.out) (fit_driven _ _ _ _ (by simp) (by decide) HDl.out) HR.out).mono ?_
        rintro e w4 ⟨v4, rfl, ho4, b4⟩
        obtain ⟨g4, c4, hv4⟩ := row_some ho4
        subst hv4
        have HO4 := Lib.hid ho4
        have HB4 := Lib.hid b4
        clear ho4 b4
        go_wp2_with fail
        refine (Dec_any _ inQ _).mono ?_
        rintro e w5 ⟨rfl, b5⟩
        have HB5 := Lib.hid b5
        clear b5
        go_wp2_with fail
        refine (Dec_any _ inN _).mono ?_
        rintro e w6 ⟨rfl, b6⟩
        have HB6 := Lib.hid b6
        clear b6
        go_wp2_with fail
        refine (Dec_any _ in4 _).mono ?_
        rintro e w7 ⟨rfl, b7⟩
        have HB7 := Lib.hid b7
        clear b7
        go_wp2_with fail
        have c4_ := Below.refl w4.heap.size w4
        have c5_ := c4_.trans (HB5.out.mono c4_.size)
        have c6_ := c5_.trans (HB6.out.mono c5_.size)
        have c7_ := c6_.trans (HB7.out.mono c6_.size)
        have cl_ := c7_.alloc c7_.size (.cells #[.string (decS (n : Int)), .string (decS ((n : Int) + 1)), .string (decS (2 * (n : Int)))] 9)
        refine (sameTexts_any [decS (n : Int), decS ((n : Int) + 1), decS (2 * (n : Int))] _ _ _ 0 (row_base ((Since.of_below' cl_ (fun _ => False)).row HO4.out (fun _ _ f => f)) (Nat.zero_le _)) (own_lits w7 _ 9 #[.string (decS (n : Int)), .string (decS ((n : Int) + 1)), .string (decS (2 * (n : Int)))] 3 1 rfl rfl (by decide))).mono ?_
        rintro e wz ⟨rfl, bz⟩
        have Hz := Lib.hid (cl_.trans (bz.mono cl_.size))
        clear cl_ bz
        go_wp2_with fail
        go_ret
        have r1 := HB3.out
        have r2 := HB4.out.trans (Hz.out.mono HB4.out.size)
        exact ⟨rfl, r1.trans (r2.mono r1.size)⟩
end Go.Proofs.Ytaomlfbcfmmhlaa

/-
  RtAdds, walked at every argument.
-/
namespace Go.Proofs.Ytaomlfbcfmmhlaa
open Go.RowKit Go.Pst

theorem rtAdds_any (l : List Int) (v0 : Value) (room : Int) (hro : InI room) (x : Int) (hx : InI x) {w : World} (hl : rInts (fun _ => True) w [v0] l) :
    Calls Try.prog 6 #[v0, .int .i64 room, .int .i64 x] w fun e w' => e = .returned (.bool true) ∧ Below w.heap.size w w' := by
  by_cases ha : room.tmod 3 < 0
  · by_cases hb : l.length % 50 = 0
    · exact rtAdds_nilneg l v0 room hro x hx ha hb hl
    · exact rtAdds_neg l v0 room hro x hx ha hb hl
  · by_cases hb : l.length % 50 = 0
    · exact rtAdds_nil l v0 room hro x hx ha hb hl
    · exact rtAdds_pos l v0 room hro x hx ha hb hl
end Go.Proofs.Ytaomlfbcfmmhlaa

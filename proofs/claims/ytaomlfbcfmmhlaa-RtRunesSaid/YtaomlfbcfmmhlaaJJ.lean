/-
  Texts joined: RtStep0 RtStep_same RtStep_less RtStep_cat RtTextsPure RtTextsPure2.
-/
import Derived.Test.YtaomlfbcfmmhlaaJB

/-
  Steps of a run, one behind the other.
-/
namespace Go.Proofs.Ytaomlfbcfmmhlaa
open Go.RowKit Go.Pst
set_option linter.unusedVariables false

def stepN (p : PProg) (m : Bool) (lim : Int) : Nat → Mach → Int × Mach
  | 0, s => (0, s)
  | n + 1, s => if (stepF p m lim s).1 = 0 then stepN p m lim n (stepF p m lim s).2 else stepF p m lim s
theorem stepN_add {p : PProg} {m : Bool} {lim : Int} : ∀ {a b : Nat} {s s1 s2 : Mach}, stepN p m lim a s = (0, s1) → stepN p m lim b s1 = (0, s2) → stepN p m lim (a + b) s = (0, s2)
  | 0, b, s, s1, s2, h1, h2 => by
    simp only [stepN] at h1
    obtain rfl : s = s1 := congrArg Prod.snd h1
    rwa [Nat.zero_add]
  | a + 1, b, s, s1, s2, h1, h2 => by
    rw [show a + 1 + b = (a + b) + 1 by omega]
    unfold stepN at h1 ⊢
    by_cases h : (stepF p m lim s).1 = 0
    · rw [if_pos h] at h1 ⊢
      exact stepN_add h1 h2
    · rw [if_neg h] at h1
      rw [h1] at h
      exact absurd rfl h
theorem runF_stepN {p : PProg} {m : Bool} {lim : Int} : ∀ {k n : Nat} {s s' : Mach}, stepN p m lim k s = (0, s') → runF p m lim (n + k) s = runF p m lim n s'
  | 0, n, s, s', h => by
    simp only [stepN] at h
    obtain rfl : s = s' := congrArg Prod.snd h
    rfl
  | k + 1, n, s, s', h => by
    rw [show n + (k + 1) = (n + k) + 1 by omega]
    unfold stepN at h
    rw [runF]
    by_cases e : (stepF p m lim s).1 = 0
    · rw [if_pos e] at h
      rw [if_pos e]
      exact runF_stepN h
    · rw [if_neg e] at h
      rw [h] at e
      exact absurd rfl e
section
variable {P : PProg} {L : List ByteArray} {R : List Lev} {want : List Int} {k b i : Nat} {vs : List Int} {W : List Int}
theorem stepN_one {p : PProg} {m : Bool} {lim : Int} {s s' : Mach} (h : stepF p m lim s = (0, s')) : stepN p m lim 1 s = (0, s') := by
  simp [stepN, h]
theorem step_load {d a n x : Int} {s : ByteArray} {tt : List Int} (hi : instrAt P ⟨k, vs, [], b, i, want⟩ = ⟨4, [d], [a], n, s, tt⟩) (hx : placeF (getI vs a) n W.length = x) (h0 : 0 ≤ x) :
    stepN P false 20000 1 ⟨W, L, ⟨k, vs, [], b, i, want⟩ :: R⟩ = (0, ⟨W, L, ⟨k, vs.set d.toNat (getI W x), [], b, i + 1, want⟩ :: R⟩) := by
  refine stepN_one ?_
  unfold stepF
  simp only [hi]
  have e : getI (argsF false ⟨k, vs, [], b, i, want⟩ ⟨4, [d], [a], n, s, tt⟩) 0 = getI vs a := rfl
  rw [e, hx]
  simp [Int.not_lt.2 h0, Lev.setV, getI]
theorem step_store {a c n x : Int} {s : ByteArray} {tt : List Int} (hi : instrAt P ⟨k, vs, [], b, i, want⟩ = ⟨5, [], [a, c], n, s, tt⟩) (hx : placeF (getI vs a) n W.length = x) (h0 : 0 ≤ x) :
    stepN P false 20000 1 ⟨W, L, ⟨k, vs, [], b, i, want⟩ :: R⟩ = (0, ⟨W.set x.toNat (getI vs c), L, ⟨k, vs, [], b, i + 1, want⟩ :: R⟩) := by
  refine stepN_one ?_
  unfold stepF
  simp only [hi]
  have e : getI (argsF false ⟨k, vs, [], b, i, want⟩ ⟨5, [], [a, c], n, s, tt⟩) 0 = getI vs a := rfl
  have e1 : getI (argsF false ⟨k, vs, [], b, i, want⟩ ⟨5, [], [a, c], n, s, tt⟩) 1 = getI vs c := rfl
  rw [e, e1, hx]
  simp [Int.not_lt.2 h0]
theorem step_alloc {d a n x : Int} {s : ByteArray} {tt : List Int} {W' : List Int} (hi : instrAt P ⟨k, vs, [], b, i, want⟩ = ⟨6, [d], [a], n, s, tt⟩) (hx : takeF (getI vs a) 20000 W = (x, W')) (h0 : 0 ≤ x) :
    stepN P false 20000 1 ⟨W, L, ⟨k, vs, [], b, i, want⟩ :: R⟩ = (0, ⟨W', L, ⟨k, vs.set d.toNat x, [], b, i + 1, want⟩ :: R⟩) := by
  refine stepN_one ?_
  unfold stepF
  simp only [hi]
  have e : getI (argsF false ⟨k, vs, [], b, i, want⟩ ⟨6, [d], [a], n, s, tt⟩) 0 = getI vs a := rfl
  rw [e, hx]
  have h1 : ¬ x = -1 := by omega
  have h2 : ¬ x = -2 := by omega
  simp [h1, h2, Lev.setV, getI]
end
end Go.Proofs.Ytaomlfbcfmmhlaa

/-
  A run of rt's same, block by block (printed by wip/gen_rtsteps.py).
-/
namespace Go.Proofs.Ytaomlfbcfmmhlaa
open Go.RowKit Go.Pst
set_option linter.unusedVariables false
set_option maxRecDepth 100000

variable {name : ByteArray} {xs : List Int} {r : Nat} {d : List Int} {W : List Int} {L : List ByteArray} {R : List Lev} {want : List Int}
set_option maxHeartbeats 1000000 in
theorem same_b0 (v0 v1 v2 v3 v4 v5 v6 v7 v8 v9 v10 v11 v12 v13 v14 v15 : Int) (t : Nat) (hb : (getI [1, 2] (yesF ((yesF (v1 != v3)) == 0))).toNat = t) :
    stepN (drivenF allL name xs r d) false 20000 3 ⟨W, L, ⟨2, [v0, v1, v2, v3, v4, v5, v6, v7, v8, v9, v10, v11, v12, v13, v14, v15], [], 0, 0, want⟩ :: R⟩ = (0, ⟨W, L, ⟨2, [v0, v1, v2, v3, 0, (yesF (v1 != v3)), v6, v7, v8, v9, v10, v11, v12, v13, v14, v15], [], t, 0, want⟩ :: R⟩) :=
  (stepN_add (show stepN (drivenF allL name xs r d) false 20000 2 ⟨W, L, ⟨2, [v0, v1, v2, v3, v4, v5, v6, v7, v8, v9, v10, v11, v12, v13, v14, v15], [], 0, 0, want⟩ :: R⟩ = (0, ⟨W, L, ⟨2, [v0, v1, v2, v3, 0, (yesF (v1 != v3)), v6, v7, v8, v9, v10, v11, v12, v13, v14, v15], [], 0, 2, want⟩ :: R⟩) by kernel_rfl) (by { have h : stepN (drivenF allL name xs r d) false 20000 1 ⟨W, L, ⟨2, [v0, v1, v2, v3, 0, (yesF (v1 != v3)), v6, v7, v8, v9, v10, v11, v12, v13, v14, v15], [], 0, 2, want⟩ :: R⟩ = (0, ⟨W, L, ⟨2, [v0, v1, v2, v3, 0, (yesF (v1 != v3)), v6, v7, v8, v9, v10, v11, v12, v13, v14, v15], [], (getI [1, 2] (yesF ((yesF (v1 != v3)) == 0))).toNat, 0, want⟩ :: R⟩) := (by kernel_rfl); rw [hb] at h; exact h } : stepN (drivenF allL name xs r d) false 20000 1 ⟨W, L, ⟨2, [v0, v1, v2, v3, 0, (yesF (v1 != v3)), v6, v7, v8, v9, v10, v11, v12, v13, v14, v15], [], 0, 2, want⟩ :: R⟩ = (0, ⟨W, L, ⟨2, [v0, v1, v2, v3, 0, (yesF (v1 != v3)), v6, v7, v8, v9, v10, v11, v12, v13, v14, v15], [], t, 0, want⟩ :: R⟩)))
set_option maxHeartbeats 1000000 in
theorem same_b1 (v0 v1 v2 v3 v4 v5 v6 v7 v8 v9 v10 v11 v12 v13 v14 v15 : Int) (g : Lev) :
    stepN (drivenF allL name xs r d) false 20000 1 ⟨W, L, ⟨2, [v0, v1, v2, v3, v4, v5, v6, v7, v8, v9, v10, v11, v12, v13, v14, v15], [], 1, 0, want⟩ :: g :: R⟩ = (0, ⟨W, L, g.put false want [v4] :: R⟩) :=
  (show stepN (drivenF allL name xs r d) false 20000 1 ⟨W, L, ⟨2, [v0, v1, v2, v3, v4, v5, v6, v7, v8, v9, v10, v11, v12, v13, v14, v15], [], 1, 0, want⟩ :: g :: R⟩ = (0, ⟨W, L, g.put false want [v4] :: R⟩) by kernel_rfl)
set_option maxHeartbeats 1000000 in
theorem same_b2 (v0 v1 v2 v3 v4 v5 v6 v7 v8 v9 v10 v11 v12 v13 v14 v15 : Int) :
    stepN (drivenF allL name xs r d) false 20000 2 ⟨W, L, ⟨2, [v0, v1, v2, v3, v4, v5, v6, v7, v8, v9, v10, v11, v12, v13, v14, v15], [], 2, 0, want⟩ :: R⟩ = (0, ⟨W, L, ⟨2, [v0, v1, v2, v3, v4, v5, v4, v7, v8, v9, v10, v11, v12, v13, v14, v15], [], 3, 0, want⟩ :: R⟩) :=
  (show stepN (drivenF allL name xs r d) false 20000 2 ⟨W, L, ⟨2, [v0, v1, v2, v3, v4, v5, v6, v7, v8, v9, v10, v11, v12, v13, v14, v15], [], 2, 0, want⟩ :: R⟩ = (0, ⟨W, L, ⟨2, [v0, v1, v2, v3, v4, v5, v4, v7, v8, v9, v10, v11, v12, v13, v14, v15], [], 3, 0, want⟩ :: R⟩) by kernel_rfl)
set_option maxHeartbeats 1000000 in
theorem same_b3 (v0 v1 v2 v3 v4 v5 v6 v7 v8 v9 v10 v11 v12 v13 v14 v15 : Int) (t : Nat) (hb : (getI [4, 5] (yesF ((yesF (decide (v6 < v1))) == 0))).toNat = t) :
    stepN (drivenF allL name xs r d) false 20000 2 ⟨W, L, ⟨2, [v0, v1, v2, v3, v4, v5, v6, v7, v8, v9, v10, v11, v12, v13, v14, v15], [], 3, 0, want⟩ :: R⟩ = (0, ⟨W, L, ⟨2, [v0, v1, v2, v3, v4, v5, v6, (yesF (decide (v6 < v1))), v8, v9, v10, v11, v12, v13, v14, v15], [], t, 0, want⟩ :: R⟩) :=
  (stepN_add (show stepN (drivenF allL name xs r d) false 20000 1 ⟨W, L, ⟨2, [v0, v1, v2, v3, v4, v5, v6, v7, v8, v9, v10, v11, v12, v13, v14, v15], [], 3, 0, want⟩ :: R⟩ = (0, ⟨W, L, ⟨2, [v0, v1, v2, v3, v4, v5, v6, (yesF (decide (v6 < v1))), v8, v9, v10, v11, v12, v13, v14, v15], [], 3, 1, want⟩ :: R⟩) by kernel_rfl) (by { have h : stepN (drivenF allL name xs r d) false 20000 1 ⟨W, L, ⟨2, [v0, v1, v2, v3, v4, v5, v6, (yesF (decide (v6 < v1))), v8, v9, v10, v11, v12, v13, v14, v15], [], 3, 1, want⟩ :: R⟩ = (0, ⟨W, L, ⟨2, [v0, v1, v2, v3, v4, v5, v6, (yesF (decide (v6 < v1))), v8, v9, v10, v11, v12, v13, v14, v15], [], (getI [4, 5] (yesF ((yesF (decide (v6 < v1))) == 0))).toNat, 0, want⟩ :: R⟩) := (by kernel_rfl); rw [hb] at h; exact h } : stepN (drivenF allL name xs r d) false 20000 1 ⟨W, L, ⟨2, [v0, v1, v2, v3, v4, v5, v6, (yesF (decide (v6 < v1))), v8, v9, v10, v11, v12, v13, v14, v15], [], 3, 1, want⟩ :: R⟩ = (0, ⟨W, L, ⟨2, [v0, v1, v2, v3, v4, v5, v6, (yesF (decide (v6 < v1))), v8, v9, v10, v11, v12, v13, v14, v15], [], t, 0, want⟩ :: R⟩)))
set_option maxHeartbeats 1000000 in
theorem same_b4 (v0 v1 v2 v3 v4 v5 v6 v7 v8 v9 v10 v11 v12 v13 v14 v15 : Int) (x1 y1 : Int) (p1 : placeF ((wrap64 (v0 + v6))) 0 W.length = x1) (q1 : 0 ≤ x1) (r1 : getI W x1 = y1) (x3 y3 : Int) (p3 : placeF ((wrap64 (v2 + v6))) 0 W.length = x3) (q3 : 0 ≤ x3) (r3 : getI W x3 = y3) (t : Nat) (hb : (getI [6, 7] (yesF ((yesF (y1 != y3)) == 0))).toNat = t) :
    stepN (drivenF allL name xs r d) false 20000 6 ⟨W, L, ⟨2, [v0, v1, v2, v3, v4, v5, v6, v7, v8, v9, v10, v11, v12, v13, v14, v15], [], 4, 0, want⟩ :: R⟩ = (0, ⟨W, L, ⟨2, [v0, v1, v2, v3, v4, v5, v6, v7, (wrap64 (v0 + v6)), y1, (wrap64 (v2 + v6)), y3, (yesF (y1 != y3)), v13, v14, v15], [], t, 0, want⟩ :: R⟩) :=
  (stepN_add (show stepN (drivenF allL name xs r d) false 20000 1 ⟨W, L, ⟨2, [v0, v1, v2, v3, v4, v5, v6, v7, v8, v9, v10, v11, v12, v13, v14, v15], [], 4, 0, want⟩ :: R⟩ = (0, ⟨W, L, ⟨2, [v0, v1, v2, v3, v4, v5, v6, v7, (wrap64 (v0 + v6)), v9, v10, v11, v12, v13, v14, v15], [], 4, 1, want⟩ :: R⟩) by kernel_rfl) (stepN_add (by have h := step_load (P := drivenF allL name xs r d) (L := L) (R := R) (want := want) (k := 2) (b := 4) (i := 1) (vs := [v0, v1, v2, v3, v4, v5, v6, v7, (wrap64 (v0 + v6)), v9, v10, v11, v12, v13, v14, v15]) (d := 9) (a := 8) (n := 0) (s := ⟨#[]⟩) (tt := []) (by kernel_rfl) p1 q1; rw [r1] at h; exact h : stepN (drivenF allL name xs r d) false 20000 1 ⟨W, L, ⟨2, [v0, v1, v2, v3, v4, v5, v6, v7, (wrap64 (v0 + v6)), v9, v10, v11, v12, v13, v14, v15], [], 4, 1, want⟩ :: R⟩ = (0, ⟨W, L, ⟨2, [v0, v1, v2, v3, v4, v5, v6, v7, (wrap64 (v0 + v6)), y1, v10, v11, v12, v13, v14, v15], [], 4, 2, want⟩ :: R⟩)) (stepN_add (show stepN (drivenF allL name xs r d) false 20000 1 ⟨W, L, ⟨2, [v0, v1, v2, v3, v4, v5, v6, v7, (wrap64 (v0 + v6)), y1, v10, v11, v12, v13, v14, v15], [], 4, 2, want⟩ :: R⟩ = (0, ⟨W, L, ⟨2, [v0, v1, v2, v3, v4, v5, v6, v7, (wrap64 (v0 + v6)), y1, (wrap64 (v2 + v6)), v11, v12, v13, v14, v15], [], 4, 3, want⟩ :: R⟩) by kernel_rfl) (stepN_add (by have h := step_load (P := drivenF allL name xs r d) (L := L) (R := R) (want := want) (k := 2) (b := 4) (i := 3) (vs := [v0, v1, v2, v3, v4, v5, v6, v7, (wrap64 (v0 + v6)), y1, (wrap64 (v2 + v6)), v11, v12, v13, v14, v15]) (d := 11) (a := 10) (n := 0) (s := ⟨#[]⟩) (tt := []) (by kernel_rfl) p3 q3; rw [r3] at h; exact h : stepN (drivenF allL name xs r d) false 20000 1 ⟨W, L, ⟨2, [v0, v1, v2, v3, v4, v5, v6, v7, (wrap64 (v0 + v6)), y1, (wrap64 (v2 + v6)), v11, v12, v13, v14, v15], [], 4, 3, want⟩ :: R⟩ = (0, ⟨W, L, ⟨2, [v0, v1, v2, v3, v4, v5, v6, v7, (wrap64 (v0 + v6)), y1, (wrap64 (v2 + v6)), y3, v12, v13, v14, v15], [], 4, 4, want⟩ :: R⟩)) (stepN_add (show stepN (drivenF allL name xs r d) false 20000 1 ⟨W, L, ⟨2, [v0, v1, v2, v3, v4, v5, v6, v7, (wrap64 (v0 + v6)), y1, (wrap64 (v2 + v6)), y3, v12, v13, v14, v15], [], 4, 4, want⟩ :: R⟩ = (0, ⟨W, L, ⟨2, [v0, v1, v2, v3, v4, v5, v6, v7, (wrap64 (v0 + v6)), y1, (wrap64 (v2 + v6)), y3, (yesF (y1 != y3)), v13, v14, v15], [], 4, 5, want⟩ :: R⟩) by kernel_rfl) (by { have h : stepN (drivenF allL name xs r d) false 20000 1 ⟨W, L, ⟨2, [v0, v1, v2, v3, v4, v5, v6, v7, (wrap64 (v0 + v6)), y1, (wrap64 (v2 + v6)), y3, (yesF (y1 != y3)), v13, v14, v15], [], 4, 5, want⟩ :: R⟩ = (0, ⟨W, L, ⟨2, [v0, v1, v2, v3, v4, v5, v6, v7, (wrap64 (v0 + v6)), y1, (wrap64 (v2 + v6)), y3, (yesF (y1 != y3)), v13, v14, v15], [], (getI [6, 7] (yesF ((yesF (y1 != y3)) == 0))).toNat, 0, want⟩ :: R⟩) := (by kernel_rfl); rw [hb] at h; exact h } : stepN (drivenF allL name xs r d) false 20000 1 ⟨W, L, ⟨2, [v0, v1, v2, v3, v4, v5, v6, v7, (wrap64 (v0 + v6)), y1, (wrap64 (v2 + v6)), y3, (yesF (y1 != y3)), v13, v14, v15], [], 4, 5, want⟩ :: R⟩ = (0, ⟨W, L, ⟨2, [v0, v1, v2, v3, v4, v5, v6, v7, (wrap64 (v0 + v6)), y1, (wrap64 (v2 + v6)), y3, (yesF (y1 != y3)), v13, v14, v15], [], t, 0, want⟩ :: R⟩)))))))
set_option maxHeartbeats 1000000 in
theorem same_b5 (v0 v1 v2 v3 v4 v5 v6 v7 v8 v9 v10 v11 v12 v13 v14 v15 : Int) (g : Lev) :
    stepN (drivenF allL name xs r d) false 20000 2 ⟨W, L, ⟨2, [v0, v1, v2, v3, v4, v5, v6, v7, v8, v9, v10, v11, v12, v13, v14, v15], [], 5, 0, want⟩ :: g :: R⟩ = (0, ⟨W, L, g.put false want [1] :: R⟩) :=
  (stepN_add (show stepN (drivenF allL name xs r d) false 20000 1 ⟨W, L, ⟨2, [v0, v1, v2, v3, v4, v5, v6, v7, v8, v9, v10, v11, v12, v13, v14, v15], [], 5, 0, want⟩ :: g :: R⟩ = (0, ⟨W, L, ⟨2, [v0, v1, v2, v3, v4, v5, v6, v7, v8, v9, v10, v11, v12, v13, v14, 1], [], 5, 1, want⟩ :: g :: R⟩) by kernel_rfl) (show stepN (drivenF allL name xs r d) false 20000 1 ⟨W, L, ⟨2, [v0, v1, v2, v3, v4, v5, v6, v7, v8, v9, v10, v11, v12, v13, v14, 1], [], 5, 1, want⟩ :: g :: R⟩ = (0, ⟨W, L, g.put false want [1] :: R⟩) by kernel_rfl))
set_option maxHeartbeats 1000000 in
theorem same_b6 (v0 v1 v2 v3 v4 v5 v6 v7 v8 v9 v10 v11 v12 v13 v14 v15 : Int) (g : Lev) :
    stepN (drivenF allL name xs r d) false 20000 1 ⟨W, L, ⟨2, [v0, v1, v2, v3, v4, v5, v6, v7, v8, v9, v10, v11, v12, v13, v14, v15], [], 6, 0, want⟩ :: g :: R⟩ = (0, ⟨W, L, g.put false want [v4] :: R⟩) :=
  (show stepN (drivenF allL name xs r d) false 20000 1 ⟨W, L, ⟨2, [v0, v1, v2, v3, v4, v5, v6, v7, v8, v9, v10, v11, v12, v13, v14, v15], [], 6, 0, want⟩ :: g :: R⟩ = (0, ⟨W, L, g.put false want [v4] :: R⟩) by kernel_rfl)
set_option maxHeartbeats 1000000 in
theorem same_b7 (v0 v1 v2 v3 v4 v5 v6 v7 v8 v9 v10 v11 v12 v13 v14 v15 : Int) :
    stepN (drivenF allL name xs r d) false 20000 4 ⟨W, L, ⟨2, [v0, v1, v2, v3, v4, v5, v6, v7, v8, v9, v10, v11, v12, v13, v14, v15], [], 7, 0, want⟩ :: R⟩ = (0, ⟨W, L, ⟨2, [v0, v1, v2, v3, v4, v5, (wrap64 (v6 + 1)), v7, v8, v9, v10, v11, v12, 1, (wrap64 (v6 + 1)), v15], [], 3, 0, want⟩ :: R⟩) :=
  (show stepN (drivenF allL name xs r d) false 20000 4 ⟨W, L, ⟨2, [v0, v1, v2, v3, v4, v5, v6, v7, v8, v9, v10, v11, v12, v13, v14, v15], [], 7, 0, want⟩ :: R⟩ = (0, ⟨W, L, ⟨2, [v0, v1, v2, v3, v4, v5, (wrap64 (v6 + 1)), v7, v8, v9, v10, v11, v12, 1, (wrap64 (v6 + 1)), v15], [], 3, 0, want⟩ :: R⟩) by kernel_rfl)
end Go.Proofs.Ytaomlfbcfmmhlaa

/-
  A run of rt's less, block by block (printed by wip/gen_rtsteps.py).
-/
namespace Go.Proofs.Ytaomlfbcfmmhlaa
open Go.RowKit Go.Pst
set_option linter.unusedVariables false
set_option maxRecDepth 100000

variable {name : ByteArray} {xs : List Int} {r : Nat} {d : List Int} {W : List Int} {L : List ByteArray} {R : List Lev} {want : List Int}
set_option maxHeartbeats 1000000 in
theorem less_b0 (v0 v1 v2 v3 v4 v5 v6 v7 v8 v9 v10 v11 v12 v13 v14 v15 v16 v17 : Int) (t : Nat) (hb : (getI [1, 2] (yesF ((yesF (decide (v3 < v1))) == 0))).toNat = t) :
    stepN (drivenF allL name xs r d) false 20000 3 ⟨W, L, ⟨3, [v0, v1, v2, v3, v4, v5, v6, v7, v8, v9, v10, v11, v12, v13, v14, v15, v16, v17], [], 0, 0, want⟩ :: R⟩ = (0, ⟨W, L, ⟨3, [v0, v1, v2, v3, v1, (yesF (decide (v3 < v1))), v6, v7, v8, v9, v10, v11, v12, v13, v14, v15, v16, v17], [], t, 0, want⟩ :: R⟩) :=
  (stepN_add (show stepN (drivenF allL name xs r d) false 20000 2 ⟨W, L, ⟨3, [v0, v1, v2, v3, v4, v5, v6, v7, v8, v9, v10, v11, v12, v13, v14, v15, v16, v17], [], 0, 0, want⟩ :: R⟩ = (0, ⟨W, L, ⟨3, [v0, v1, v2, v3, v1, (yesF (decide (v3 < v1))), v6, v7, v8, v9, v10, v11, v12, v13, v14, v15, v16, v17], [], 0, 2, want⟩ :: R⟩) by kernel_rfl) (by { have h : stepN (drivenF allL name xs r d) false 20000 1 ⟨W, L, ⟨3, [v0, v1, v2, v3, v1, (yesF (decide (v3 < v1))), v6, v7, v8, v9, v10, v11, v12, v13, v14, v15, v16, v17], [], 0, 2, want⟩ :: R⟩ = (0, ⟨W, L, ⟨3, [v0, v1, v2, v3, v1, (yesF (decide (v3 < v1))), v6, v7, v8, v9, v10, v11, v12, v13, v14, v15, v16, v17], [], (getI [1, 2] (yesF ((yesF (decide (v3 < v1))) == 0))).toNat, 0, want⟩ :: R⟩) := (by kernel_rfl); rw [hb] at h; exact h } : stepN (drivenF allL name xs r d) false 20000 1 ⟨W, L, ⟨3, [v0, v1, v2, v3, v1, (yesF (decide (v3 < v1))), v6, v7, v8, v9, v10, v11, v12, v13, v14, v15, v16, v17], [], 0, 2, want⟩ :: R⟩ = (0, ⟨W, L, ⟨3, [v0, v1, v2, v3, v1, (yesF (decide (v3 < v1))), v6, v7, v8, v9, v10, v11, v12, v13, v14, v15, v16, v17], [], t, 0, want⟩ :: R⟩)))
set_option maxHeartbeats 1000000 in
theorem less_b1 (v0 v1 v2 v3 v4 v5 v6 v7 v8 v9 v10 v11 v12 v13 v14 v15 v16 v17 : Int) :
    stepN (drivenF allL name xs r d) false 20000 2 ⟨W, L, ⟨3, [v0, v1, v2, v3, v4, v5, v6, v7, v8, v9, v10, v11, v12, v13, v14, v15, v16, v17], [], 1, 0, want⟩ :: R⟩ = (0, ⟨W, L, ⟨3, [v0, v1, v2, v3, v3, v5, v6, v7, v8, v9, v10, v11, v12, v13, v14, v15, v16, v17], [], 2, 0, want⟩ :: R⟩) :=
  (show stepN (drivenF allL name xs r d) false 20000 2 ⟨W, L, ⟨3, [v0, v1, v2, v3, v4, v5, v6, v7, v8, v9, v10, v11, v12, v13, v14, v15, v16, v17], [], 1, 0, want⟩ :: R⟩ = (0, ⟨W, L, ⟨3, [v0, v1, v2, v3, v3, v5, v6, v7, v8, v9, v10, v11, v12, v13, v14, v15, v16, v17], [], 2, 0, want⟩ :: R⟩) by kernel_rfl)
set_option maxHeartbeats 1000000 in
theorem less_b2 (v0 v1 v2 v3 v4 v5 v6 v7 v8 v9 v10 v11 v12 v13 v14 v15 v16 v17 : Int) :
    stepN (drivenF allL name xs r d) false 20000 3 ⟨W, L, ⟨3, [v0, v1, v2, v3, v4, v5, v6, v7, v8, v9, v10, v11, v12, v13, v14, v15, v16, v17], [], 2, 0, want⟩ :: R⟩ = (0, ⟨W, L, ⟨3, [v0, v1, v2, v3, v4, v5, 0, 0, v8, v9, v10, v11, v12, v13, v14, v15, v16, v17], [], 3, 0, want⟩ :: R⟩) :=
  (show stepN (drivenF allL name xs r d) false 20000 3 ⟨W, L, ⟨3, [v0, v1, v2, v3, v4, v5, v6, v7, v8, v9, v10, v11, v12, v13, v14, v15, v16, v17], [], 2, 0, want⟩ :: R⟩ = (0, ⟨W, L, ⟨3, [v0, v1, v2, v3, v4, v5, 0, 0, v8, v9, v10, v11, v12, v13, v14, v15, v16, v17], [], 3, 0, want⟩ :: R⟩) by kernel_rfl)
set_option maxHeartbeats 1000000 in
theorem less_b3 (v0 v1 v2 v3 v4 v5 v6 v7 v8 v9 v10 v11 v12 v13 v14 v15 v16 v17 : Int) (t : Nat) (hb : (getI [4, 5] (yesF ((yesF (decide (v7 < v4))) == 0))).toNat = t) :
    stepN (drivenF allL name xs r d) false 20000 2 ⟨W, L, ⟨3, [v0, v1, v2, v3, v4, v5, v6, v7, v8, v9, v10, v11, v12, v13, v14, v15, v16, v17], [], 3, 0, want⟩ :: R⟩ = (0, ⟨W, L, ⟨3, [v0, v1, v2, v3, v4, v5, v6, v7, (yesF (decide (v7 < v4))), v9, v10, v11, v12, v13, v14, v15, v16, v17], [], t, 0, want⟩ :: R⟩) :=
  (stepN_add (show stepN (drivenF allL name xs r d) false 20000 1 ⟨W, L, ⟨3, [v0, v1, v2, v3, v4, v5, v6, v7, v8, v9, v10, v11, v12, v13, v14, v15, v16, v17], [], 3, 0, want⟩ :: R⟩ = (0, ⟨W, L, ⟨3, [v0, v1, v2, v3, v4, v5, v6, v7, (yesF (decide (v7 < v4))), v9, v10, v11, v12, v13, v14, v15, v16, v17], [], 3, 1, want⟩ :: R⟩) by kernel_rfl) (by { have h : stepN (drivenF allL name xs r d) false 20000 1 ⟨W, L, ⟨3, [v0, v1, v2, v3, v4, v5, v6, v7, (yesF (decide (v7 < v4))), v9, v10, v11, v12, v13, v14, v15, v16, v17], [], 3, 1, want⟩ :: R⟩ = (0, ⟨W, L, ⟨3, [v0, v1, v2, v3, v4, v5, v6, v7, (yesF (decide (v7 < v4))), v9, v10, v11, v12, v13, v14, v15, v16, v17], [], (getI [4, 5] (yesF ((yesF (decide (v7 < v4))) == 0))).toNat, 0, want⟩ :: R⟩) := (by kernel_rfl); rw [hb] at h; exact h } : stepN (drivenF allL name xs r d) false 20000 1 ⟨W, L, ⟨3, [v0, v1, v2, v3, v4, v5, v6, v7, (yesF (decide (v7 < v4))), v9, v10, v11, v12, v13, v14, v15, v16, v17], [], 3, 1, want⟩ :: R⟩ = (0, ⟨W, L, ⟨3, [v0, v1, v2, v3, v4, v5, v6, v7, (yesF (decide (v7 < v4))), v9, v10, v11, v12, v13, v14, v15, v16, v17], [], t, 0, want⟩ :: R⟩)))
set_option maxHeartbeats 1000000 in
theorem less_b4 (v0 v1 v2 v3 v4 v5 v6 v7 v8 v9 v10 v11 v12 v13 v14 v15 v16 v17 : Int) (x1 y1 : Int) (p1 : placeF ((wrap64 (v0 + v7))) 0 W.length = x1) (q1 : 0 ≤ x1) (r1 : getI W x1 = y1) (x3 y3 : Int) (p3 : placeF ((wrap64 (v2 + v7))) 0 W.length = x3) (q3 : 0 ≤ x3) (r3 : getI W x3 = y3) (t : Nat) (hb : (getI [6, 7] (yesF ((yesF (y1 != y3)) == 0))).toNat = t) :
    stepN (drivenF allL name xs r d) false 20000 6 ⟨W, L, ⟨3, [v0, v1, v2, v3, v4, v5, v6, v7, v8, v9, v10, v11, v12, v13, v14, v15, v16, v17], [], 4, 0, want⟩ :: R⟩ = (0, ⟨W, L, ⟨3, [v0, v1, v2, v3, v4, v5, v6, v7, v8, (wrap64 (v0 + v7)), y1, (wrap64 (v2 + v7)), y3, (yesF (y1 != y3)), v14, v15, v16, v17], [], t, 0, want⟩ :: R⟩) :=
  (stepN_add (show stepN (drivenF allL name xs r d) false 20000 1 ⟨W, L, ⟨3, [v0, v1, v2, v3, v4, v5, v6, v7, v8, v9, v10, v11, v12, v13, v14, v15, v16, v17], [], 4, 0, want⟩ :: R⟩ = (0, ⟨W, L, ⟨3, [v0, v1, v2, v3, v4, v5, v6, v7, v8, (wrap64 (v0 + v7)), v10, v11, v12, v13, v14, v15, v16, v17], [], 4, 1, want⟩ :: R⟩) by kernel_rfl) (stepN_add (by have h := step_load (P := drivenF allL name xs r d) (L := L) (R := R) (want := want) (k := 3) (b := 4) (i := 1) (vs := [v0, v1, v2, v3, v4, v5, v6, v7, v8, (wrap64 (v0 + v7)), v10, v11, v12, v13, v14, v15, v16, v17]) (d := 10) (a := 9) (n := 0) (s := ⟨#[]⟩) (tt := []) (by kernel_rfl) p1 q1; rw [r1] at h; exact h : stepN (drivenF allL name xs r d) false 20000 1 ⟨W, L, ⟨3, [v0, v1, v2, v3, v4, v5, v6, v7, v8, (wrap64 (v0 + v7)), v10, v11, v12, v13, v14, v15, v16, v17], [], 4, 1, want⟩ :: R⟩ = (0, ⟨W, L, ⟨3, [v0, v1, v2, v3, v4, v5, v6, v7, v8, (wrap64 (v0 + v7)), y1, v11, v12, v13, v14, v15, v16, v17], [], 4, 2, want⟩ :: R⟩)) (stepN_add (show stepN (drivenF allL name xs r d) false 20000 1 ⟨W, L, ⟨3, [v0, v1, v2, v3, v4, v5, v6, v7, v8, (wrap64 (v0 + v7)), y1, v11, v12, v13, v14, v15, v16, v17], [], 4, 2, want⟩ :: R⟩ = (0, ⟨W, L, ⟨3, [v0, v1, v2, v3, v4, v5, v6, v7, v8, (wrap64 (v0 + v7)), y1, (wrap64 (v2 + v7)), v12, v13, v14, v15, v16, v17], [], 4, 3, want⟩ :: R⟩) by kernel_rfl) (stepN_add (by have h := step_load (P := drivenF allL name xs r d) (L := L) (R := R) (want := want) (k := 3) (b := 4) (i := 3) (vs := [v0, v1, v2, v3, v4, v5, v6, v7, v8, (wrap64 (v0 + v7)), y1, (wrap64 (v2 + v7)), v12, v13, v14, v15, v16, v17]) (d := 12) (a := 11) (n := 0) (s := ⟨#[]⟩) (tt := []) (by kernel_rfl) p3 q3; rw [r3] at h; exact h : stepN (drivenF allL name xs r d) false 20000 1 ⟨W, L, ⟨3, [v0, v1, v2, v3, v4, v5, v6, v7, v8, (wrap64 (v0 + v7)), y1, (wrap64 (v2 + v7)), v12, v13, v14, v15, v16, v17], [], 4, 3, want⟩ :: R⟩ = (0, ⟨W, L, ⟨3, [v0, v1, v2, v3, v4, v5, v6, v7, v8, (wrap64 (v0 + v7)), y1, (wrap64 (v2 + v7)), y3, v13, v14, v15, v16, v17], [], 4, 4, want⟩ :: R⟩)) (stepN_add (show stepN (drivenF allL name xs r d) false 20000 1 ⟨W, L, ⟨3, [v0, v1, v2, v3, v4, v5, v6, v7, v8, (wrap64 (v0 + v7)), y1, (wrap64 (v2 + v7)), y3, v13, v14, v15, v16, v17], [], 4, 4, want⟩ :: R⟩ = (0, ⟨W, L, ⟨3, [v0, v1, v2, v3, v4, v5, v6, v7, v8, (wrap64 (v0 + v7)), y1, (wrap64 (v2 + v7)), y3, (yesF (y1 != y3)), v14, v15, v16, v17], [], 4, 5, want⟩ :: R⟩) by kernel_rfl) (by { have h : stepN (drivenF allL name xs r d) false 20000 1 ⟨W, L, ⟨3, [v0, v1, v2, v3, v4, v5, v6, v7, v8, (wrap64 (v0 + v7)), y1, (wrap64 (v2 + v7)), y3, (yesF (y1 != y3)), v14, v15, v16, v17], [], 4, 5, want⟩ :: R⟩ = (0, ⟨W, L, ⟨3, [v0, v1, v2, v3, v4, v5, v6, v7, v8, (wrap64 (v0 + v7)), y1, (wrap64 (v2 + v7)), y3, (yesF (y1 != y3)), v14, v15, v16, v17], [], (getI [6, 7] (yesF ((yesF (y1 != y3)) == 0))).toNat, 0, want⟩ :: R⟩) := (by kernel_rfl); rw [hb] at h; exact h } : stepN (drivenF allL name xs r d) false 20000 1 ⟨W, L, ⟨3, [v0, v1, v2, v3, v4, v5, v6, v7, v8, (wrap64 (v0 + v7)), y1, (wrap64 (v2 + v7)), y3, (yesF (y1 != y3)), v14, v15, v16, v17], [], 4, 5, want⟩ :: R⟩ = (0, ⟨W, L, ⟨3, [v0, v1, v2, v3, v4, v5, v6, v7, v8, (wrap64 (v0 + v7)), y1, (wrap64 (v2 + v7)), y3, (yesF (y1 != y3)), v14, v15, v16, v17], [], t, 0, want⟩ :: R⟩)))))))
set_option maxHeartbeats 1000000 in
theorem less_b5 (v0 v1 v2 v3 v4 v5 v6 v7 v8 v9 v10 v11 v12 v13 v14 v15 v16 v17 : Int) (g : Lev) :
    stepN (drivenF allL name xs r d) false 20000 2 ⟨W, L, ⟨3, [v0, v1, v2, v3, v4, v5, v6, v7, v8, v9, v10, v11, v12, v13, v14, v15, v16, v17], [], 5, 0, want⟩ :: g :: R⟩ = (0, ⟨W, L, g.put false want [(yesF (decide (v1 < v3)))] :: R⟩) :=
  (stepN_add (show stepN (drivenF allL name xs r d) false 20000 1 ⟨W, L, ⟨3, [v0, v1, v2, v3, v4, v5, v6, v7, v8, v9, v10, v11, v12, v13, v14, v15, v16, v17], [], 5, 0, want⟩ :: g :: R⟩ = (0, ⟨W, L, ⟨3, [v0, v1, v2, v3, v4, v5, v6, v7, v8, v9, v10, v11, v12, v13, v14, v15, v16, (yesF (decide (v1 < v3)))], [], 5, 1, want⟩ :: g :: R⟩) by kernel_rfl) (show stepN (drivenF allL name xs r d) false 20000 1 ⟨W, L, ⟨3, [v0, v1, v2, v3, v4, v5, v6, v7, v8, v9, v10, v11, v12, v13, v14, v15, v16, (yesF (decide (v1 < v3)))], [], 5, 1, want⟩ :: g :: R⟩ = (0, ⟨W, L, g.put false want [(yesF (decide (v1 < v3)))] :: R⟩) by kernel_rfl))
set_option maxHeartbeats 1000000 in
theorem less_b6 (v0 v1 v2 v3 v4 v5 v6 v7 v8 v9 v10 v11 v12 v13 v14 v15 v16 v17 : Int) (g : Lev) :
    stepN (drivenF allL name xs r d) false 20000 2 ⟨W, L, ⟨3, [v0, v1, v2, v3, v4, v5, v6, v7, v8, v9, v10, v11, v12, v13, v14, v15, v16, v17], [], 6, 0, want⟩ :: g :: R⟩ = (0, ⟨W, L, g.put false want [(yesF (decide (v10 < v12)))] :: R⟩) :=
  (stepN_add (show stepN (drivenF allL name xs r d) false 20000 1 ⟨W, L, ⟨3, [v0, v1, v2, v3, v4, v5, v6, v7, v8, v9, v10, v11, v12, v13, v14, v15, v16, v17], [], 6, 0, want⟩ :: g :: R⟩ = (0, ⟨W, L, ⟨3, [v0, v1, v2, v3, v4, v5, v6, v7, v8, v9, v10, v11, v12, v13, (yesF (decide (v10 < v12))), v15, v16, v17], [], 6, 1, want⟩ :: g :: R⟩) by kernel_rfl) (show stepN (drivenF allL name xs r d) false 20000 1 ⟨W, L, ⟨3, [v0, v1, v2, v3, v4, v5, v6, v7, v8, v9, v10, v11, v12, v13, (yesF (decide (v10 < v12))), v15, v16, v17], [], 6, 1, want⟩ :: g :: R⟩ = (0, ⟨W, L, g.put false want [(yesF (decide (v10 < v12)))] :: R⟩) by kernel_rfl))
set_option maxHeartbeats 1000000 in
theorem less_b7 (v0 v1 v2 v3 v4 v5 v6 v7 v8 v9 v10 v11 v12 v13 v14 v15 v16 v17 : Int) :
    stepN (drivenF allL name xs r d) false 20000 4 ⟨W, L, ⟨3, [v0, v1, v2, v3, v4, v5, v6, v7, v8, v9, v10, v11, v12, v13, v14, v15, v16, v17], [], 7, 0, want⟩ :: R⟩ = (0, ⟨W, L, ⟨3, [v0, v1, v2, v3, v4, v5, v6, (wrap64 (v7 + 1)), v8, v9, v10, v11, v12, v13, v14, 1, (wrap64 (v7 + 1)), v17], [], 3, 0, want⟩ :: R⟩) :=
  (show stepN (drivenF allL name xs r d) false 20000 4 ⟨W, L, ⟨3, [v0, v1, v2, v3, v4, v5, v6, v7, v8, v9, v10, v11, v12, v13, v14, v15, v16, v17], [], 7, 0, want⟩ :: R⟩ = (0, ⟨W, L, ⟨3, [v0, v1, v2, v3, v4, v5, v6, (wrap64 (v7 + 1)), v8, v9, v10, v11, v12, v13, v14, 1, (wrap64 (v7 + 1)), v17], [], 3, 0, want⟩ :: R⟩) by kernel_rfl)
end Go.Proofs.Ytaomlfbcfmmhlaa

/-
  A run of rt's cat, block by block (printed by wip/gen_rtsteps.py).
-/
namespace Go.Proofs.Ytaomlfbcfmmhlaa
open Go.RowKit Go.Pst
set_option linter.unusedVariables false
set_option maxRecDepth 100000

variable {name : ByteArray} {xs : List Int} {r : Nat} {d : List Int} {W : List Int} {L : List ByteArray} {R : List Lev} {want : List Int}
set_option maxHeartbeats 1000000 in
theorem cat_b0 (v0 v1 v2 v3 v4 v5 v6 v7 v8 v9 v10 v11 v12 v13 v14 v15 v16 v17 v18 v19 v20 v21 v22 : Int) (x1 : Int) (W1 : List Int) (p1 : takeF ((wrap64 (v1 + v3))) 20000 W = (x1, W1)) (q1 : 0 ≤ x1) :
    stepN (drivenF allL name xs r d) false 20000 5 ⟨W, L, ⟨1, [v0, v1, v2, v3, v4, v5, v6, v7, v8, v9, v10, v11, v12, v13, v14, v15, v16, v17, v18, v19, v20, v21, v22], [], 0, 0, want⟩ :: R⟩ = (0, ⟨W1, L, ⟨1, [v0, v1, v2, v3, (wrap64 (v1 + v3)), x1, 0, 0, v8, v9, v10, v11, v12, v13, v14, v15, v16, v17, v18, v19, v20, v21, v22], [], 1, 0, want⟩ :: R⟩) :=
  (stepN_add (show stepN (drivenF allL name xs r d) false 20000 1 ⟨W, L, ⟨1, [v0, v1, v2, v3, v4, v5, v6, v7, v8, v9, v10, v11, v12, v13, v14, v15, v16, v17, v18, v19, v20, v21, v22], [], 0, 0, want⟩ :: R⟩ = (0, ⟨W, L, ⟨1, [v0, v1, v2, v3, (wrap64 (v1 + v3)), v5, v6, v7, v8, v9, v10, v11, v12, v13, v14, v15, v16, v17, v18, v19, v20, v21, v22], [], 0, 1, want⟩ :: R⟩) by kernel_rfl) (stepN_add (step_alloc (P := drivenF allL name xs r d) (L := L) (R := R) (want := want) (k := 1) (b := 0) (i := 1) (vs := [v0, v1, v2, v3, (wrap64 (v1 + v3)), v5, v6, v7, v8, v9, v10, v11, v12, v13, v14, v15, v16, v17, v18, v19, v20, v21, v22]) (d := 5) (a := 4) (n := 0) (s := ⟨#[]⟩) (tt := []) (by kernel_rfl) p1 q1 : stepN (drivenF allL name xs r d) false 20000 1 ⟨W, L, ⟨1, [v0, v1, v2, v3, (wrap64 (v1 + v3)), v5, v6, v7, v8, v9, v10, v11, v12, v13, v14, v15, v16, v17, v18, v19, v20, v21, v22], [], 0, 1, want⟩ :: R⟩ = (0, ⟨W1, L, ⟨1, [v0, v1, v2, v3, (wrap64 (v1 + v3)), x1, v6, v7, v8, v9, v10, v11, v12, v13, v14, v15, v16, v17, v18, v19, v20, v21, v22], [], 0, 2, want⟩ :: R⟩)) (show stepN (drivenF allL name xs r d) false 20000 3 ⟨W1, L, ⟨1, [v0, v1, v2, v3, (wrap64 (v1 + v3)), x1, v6, v7, v8, v9, v10, v11, v12, v13, v14, v15, v16, v17, v18, v19, v20, v21, v22], [], 0, 2, want⟩ :: R⟩ = (0, ⟨W1, L, ⟨1, [v0, v1, v2, v3, (wrap64 (v1 + v3)), x1, 0, 0, v8, v9, v10, v11, v12, v13, v14, v15, v16, v17, v18, v19, v20, v21, v22], [], 1, 0, want⟩ :: R⟩) by kernel_rfl)))
set_option maxHeartbeats 1000000 in
theorem cat_b1 (v0 v1 v2 v3 v4 v5 v6 v7 v8 v9 v10 v11 v12 v13 v14 v15 v16 v17 v18 v19 v20 v21 v22 : Int) (t : Nat) (hb : (getI [2, 3] (yesF ((yesF (decide (v7 < v1))) == 0))).toNat = t) :
    stepN (drivenF allL name xs r d) false 20000 2 ⟨W, L, ⟨1, [v0, v1, v2, v3, v4, v5, v6, v7, v8, v9, v10, v11, v12, v13, v14, v15, v16, v17, v18, v19, v20, v21, v22], [], 1, 0, want⟩ :: R⟩ = (0, ⟨W, L, ⟨1, [v0, v1, v2, v3, v4, v5, v6, v7, (yesF (decide (v7 < v1))), v9, v10, v11, v12, v13, v14, v15, v16, v17, v18, v19, v20, v21, v22], [], t, 0, want⟩ :: R⟩) :=
  (stepN_add (show stepN (drivenF allL name xs r d) false 20000 1 ⟨W, L, ⟨1, [v0, v1, v2, v3, v4, v5, v6, v7, v8, v9, v10, v11, v12, v13, v14, v15, v16, v17, v18, v19, v20, v21, v22], [], 1, 0, want⟩ :: R⟩ = (0, ⟨W, L, ⟨1, [v0, v1, v2, v3, v4, v5, v6, v7, (yesF (decide (v7 < v1))), v9, v10, v11, v12, v13, v14, v15, v16, v17, v18, v19, v20, v21, v22], [], 1, 1, want⟩ :: R⟩) by kernel_rfl) (by { have h : stepN (drivenF allL name xs r d) false 20000 1 ⟨W, L, ⟨1, [v0, v1, v2, v3, v4, v5, v6, v7, (yesF (decide (v7 < v1))), v9, v10, v11, v12, v13, v14, v15, v16, v17, v18, v19, v20, v21, v22], [], 1, 1, want⟩ :: R⟩ = (0, ⟨W, L, ⟨1, [v0, v1, v2, v3, v4, v5, v6, v7, (yesF (decide (v7 < v1))), v9, v10, v11, v12, v13, v14, v15, v16, v17, v18, v19, v20, v21, v22], [], (getI [2, 3] (yesF ((yesF (decide (v7 < v1))) == 0))).toNat, 0, want⟩ :: R⟩) := (by kernel_rfl); rw [hb] at h; exact h } : stepN (drivenF allL name xs r d) false 20000 1 ⟨W, L, ⟨1, [v0, v1, v2, v3, v4, v5, v6, v7, (yesF (decide (v7 < v1))), v9, v10, v11, v12, v13, v14, v15, v16, v17, v18, v19, v20, v21, v22], [], 1, 1, want⟩ :: R⟩ = (0, ⟨W, L, ⟨1, [v0, v1, v2, v3, v4, v5, v6, v7, (yesF (decide (v7 < v1))), v9, v10, v11, v12, v13, v14, v15, v16, v17, v18, v19, v20, v21, v22], [], t, 0, want⟩ :: R⟩)))
set_option maxHeartbeats 1000000 in
theorem cat_b2 (v0 v1 v2 v3 v4 v5 v6 v7 v8 v9 v10 v11 v12 v13 v14 v15 v16 v17 v18 v19 v20 v21 v22 : Int) (x2 y2 : Int) (p2 : placeF ((wrap64 (v0 + v7))) 0 W.length = x2) (q2 : 0 ≤ x2) (r2 : getI W x2 = y2) (x3 : Int) (p3 : placeF ((wrap64 (v5 + v7))) 0 W.length = x3) (q3 : 0 ≤ x3) :
    stepN (drivenF allL name xs r d) false 20000 8 ⟨W, L, ⟨1, [v0, v1, v2, v3, v4, v5, v6, v7, v8, v9, v10, v11, v12, v13, v14, v15, v16, v17, v18, v19, v20, v21, v22], [], 2, 0, want⟩ :: R⟩ = (0, ⟨(W.set x3.toNat y2), L, ⟨1, [v0, v1, v2, v3, v4, v5, v6, (wrap64 (v7 + 1)), v8, (wrap64 (v5 + v7)), (wrap64 (v0 + v7)), y2, 1, (wrap64 (v7 + 1)), v14, v15, v16, v17, v18, v19, v20, v21, v22], [], 1, 0, want⟩ :: R⟩) :=
  (stepN_add (show stepN (drivenF allL name xs r d) false 20000 2 ⟨W, L, ⟨1, [v0, v1, v2, v3, v4, v5, v6, v7, v8, v9, v10, v11, v12, v13, v14, v15, v16, v17, v18, v19, v20, v21, v22], [], 2, 0, want⟩ :: R⟩ = (0, ⟨W, L, ⟨1, [v0, v1, v2, v3, v4, v5, v6, v7, v8, (wrap64 (v5 + v7)), (wrap64 (v0 + v7)), v11, v12, v13, v14, v15, v16, v17, v18, v19, v20, v21, v22], [], 2, 2, want⟩ :: R⟩) by kernel_rfl) (stepN_add (by have h := step_load (P := drivenF allL name xs r d) (L := L) (R := R) (want := want) (k := 1) (b := 2) (i := 2) (vs := [v0, v1, v2, v3, v4, v5, v6, v7, v8, (wrap64 (v5 + v7)), (wrap64 (v0 + v7)), v11, v12, v13, v14, v15, v16, v17, v18, v19, v20, v21, v22]) (d := 11) (a := 10) (n := 0) (s := ⟨#[]⟩) (tt := []) (by kernel_rfl) p2 q2; rw [r2] at h; exact h : stepN (drivenF allL name xs r d) false 20000 1 ⟨W, L, ⟨1, [v0, v1, v2, v3, v4, v5, v6, v7, v8, (wrap64 (v5 + v7)), (wrap64 (v0 + v7)), v11, v12, v13, v14, v15, v16, v17, v18, v19, v20, v21, v22], [], 2, 2, want⟩ :: R⟩ = (0, ⟨W, L, ⟨1, [v0, v1, v2, v3, v4, v5, v6, v7, v8, (wrap64 (v5 + v7)), (wrap64 (v0 + v7)), y2, v12, v13, v14, v15, v16, v17, v18, v19, v20, v21, v22], [], 2, 3, want⟩ :: R⟩)) (stepN_add (step_store (P := drivenF allL name xs r d) (L := L) (R := R) (want := want) (k := 1) (b := 2) (i := 3) (vs := [v0, v1, v2, v3, v4, v5, v6, v7, v8, (wrap64 (v5 + v7)), (wrap64 (v0 + v7)), y2, v12, v13, v14, v15, v16, v17, v18, v19, v20, v21, v22]) (a := 9) (c := 11) (n := 0) (s := ⟨#[]⟩) (tt := []) (by kernel_rfl) p3 q3 : stepN (drivenF allL name xs r d) false 20000 1 ⟨W, L, ⟨1, [v0, v1, v2, v3, v4, v5, v6, v7, v8, (wrap64 (v5 + v7)), (wrap64 (v0 + v7)), y2, v12, v13, v14, v15, v16, v17, v18, v19, v20, v21, v22], [], 2, 3, want⟩ :: R⟩ = (0, ⟨(W.set x3.toNat y2), L, ⟨1, [v0, v1, v2, v3, v4, v5, v6, v7, v8, (wrap64 (v5 + v7)), (wrap64 (v0 + v7)), y2, v12, v13, v14, v15, v16, v17, v18, v19, v20, v21, v22], [], 2, 4, want⟩ :: R⟩)) (show stepN (drivenF allL name xs r d) false 20000 4 ⟨(W.set x3.toNat y2), L, ⟨1, [v0, v1, v2, v3, v4, v5, v6, v7, v8, (wrap64 (v5 + v7)), (wrap64 (v0 + v7)), y2, v12, v13, v14, v15, v16, v17, v18, v19, v20, v21, v22], [], 2, 4, want⟩ :: R⟩ = (0, ⟨(W.set x3.toNat y2), L, ⟨1, [v0, v1, v2, v3, v4, v5, v6, (wrap64 (v7 + 1)), v8, (wrap64 (v5 + v7)), (wrap64 (v0 + v7)), y2, 1, (wrap64 (v7 + 1)), v14, v15, v16, v17, v18, v19, v20, v21, v22], [], 1, 0, want⟩ :: R⟩) by kernel_rfl))))
set_option maxHeartbeats 1000000 in
theorem cat_b3 (v0 v1 v2 v3 v4 v5 v6 v7 v8 v9 v10 v11 v12 v13 v14 v15 v16 v17 v18 v19 v20 v21 v22 : Int) :
    stepN (drivenF allL name xs r d) false 20000 4 ⟨W, L, ⟨1, [v0, v1, v2, v3, v4, v5, v6, v7, v8, v9, v10, v11, v12, v13, v14, v15, v16, v17, v18, v19, v20, v21, v22], [], 3, 0, want⟩ :: R⟩ = (0, ⟨W, L, ⟨1, [v0, v1, v2, v3, v4, v5, v6, v7, v8, v9, v10, v11, v12, v13, (wrap64 (v5 + v1)), 0, 0, v17, v18, v19, v20, v21, v22], [], 4, 0, want⟩ :: R⟩) :=
  (show stepN (drivenF allL name xs r d) false 20000 4 ⟨W, L, ⟨1, [v0, v1, v2, v3, v4, v5, v6, v7, v8, v9, v10, v11, v12, v13, v14, v15, v16, v17, v18, v19, v20, v21, v22], [], 3, 0, want⟩ :: R⟩ = (0, ⟨W, L, ⟨1, [v0, v1, v2, v3, v4, v5, v6, v7, v8, v9, v10, v11, v12, v13, (wrap64 (v5 + v1)), 0, 0, v17, v18, v19, v20, v21, v22], [], 4, 0, want⟩ :: R⟩) by kernel_rfl)
set_option maxHeartbeats 1000000 in
theorem cat_b4 (v0 v1 v2 v3 v4 v5 v6 v7 v8 v9 v10 v11 v12 v13 v14 v15 v16 v17 v18 v19 v20 v21 v22 : Int) (t : Nat) (hb : (getI [5, 6] (yesF ((yesF (decide (v16 < v3))) == 0))).toNat = t) :
    stepN (drivenF allL name xs r d) false 20000 2 ⟨W, L, ⟨1, [v0, v1, v2, v3, v4, v5, v6, v7, v8, v9, v10, v11, v12, v13, v14, v15, v16, v17, v18, v19, v20, v21, v22], [], 4, 0, want⟩ :: R⟩ = (0, ⟨W, L, ⟨1, [v0, v1, v2, v3, v4, v5, v6, v7, v8, v9, v10, v11, v12, v13, v14, v15, v16, (yesF (decide (v16 < v3))), v18, v19, v20, v21, v22], [], t, 0, want⟩ :: R⟩) :=
  (stepN_add (show stepN (drivenF allL name xs r d) false 20000 1 ⟨W, L, ⟨1, [v0, v1, v2, v3, v4, v5, v6, v7, v8, v9, v10, v11, v12, v13, v14, v15, v16, v17, v18, v19, v20, v21, v22], [], 4, 0, want⟩ :: R⟩ = (0, ⟨W, L, ⟨1, [v0, v1, v2, v3, v4, v5, v6, v7, v8, v9, v10, v11, v12, v13, v14, v15, v16, (yesF (decide (v16 < v3))), v18, v19, v20, v21, v22], [], 4, 1, want⟩ :: R⟩) by kernel_rfl) (by { have h : stepN (drivenF allL name xs r d) false 20000 1 ⟨W, L, ⟨1, [v0, v1, v2, v3, v4, v5, v6, v7, v8, v9, v10, v11, v12, v13, v14, v15, v16, (yesF (decide (v16 < v3))), v18, v19, v20, v21, v22], [], 4, 1, want⟩ :: R⟩ = (0, ⟨W, L, ⟨1, [v0, v1, v2, v3, v4, v5, v6, v7, v8, v9, v10, v11, v12, v13, v14, v15, v16, (yesF (decide (v16 < v3))), v18, v19, v20, v21, v22], [], (getI [5, 6] (yesF ((yesF (decide (v16 < v3))) == 0))).toNat, 0, want⟩ :: R⟩) := (by kernel_rfl); rw [hb] at h; exact h } : stepN (drivenF allL name xs r d) false 20000 1 ⟨W, L, ⟨1, [v0, v1, v2, v3, v4, v5, v6, v7, v8, v9, v10, v11, v12, v13, v14, v15, v16, (yesF (decide (v16 < v3))), v18, v19, v20, v21, v22], [], 4, 1, want⟩ :: R⟩ = (0, ⟨W, L, ⟨1, [v0, v1, v2, v3, v4, v5, v6, v7, v8, v9, v10, v11, v12, v13, v14, v15, v16, (yesF (decide (v16 < v3))), v18, v19, v20, v21, v22], [], t, 0, want⟩ :: R⟩)))
set_option maxHeartbeats 1000000 in
theorem cat_b5 (v0 v1 v2 v3 v4 v5 v6 v7 v8 v9 v10 v11 v12 v13 v14 v15 v16 v17 v18 v19 v20 v21 v22 : Int) (x2 y2 : Int) (p2 : placeF ((wrap64 (v2 + v16))) 0 W.length = x2) (q2 : 0 ≤ x2) (r2 : getI W x2 = y2) (x3 : Int) (p3 : placeF ((wrap64 (v14 + v16))) 0 W.length = x3) (q3 : 0 ≤ x3) :
    stepN (drivenF allL name xs r d) false 20000 8 ⟨W, L, ⟨1, [v0, v1, v2, v3, v4, v5, v6, v7, v8, v9, v10, v11, v12, v13, v14, v15, v16, v17, v18, v19, v20, v21, v22], [], 5, 0, want⟩ :: R⟩ = (0, ⟨(W.set x3.toNat y2), L, ⟨1, [v0, v1, v2, v3, v4, v5, v6, v7, v8, v9, v10, v11, v12, v13, v14, v15, (wrap64 (v16 + 1)), v17, (wrap64 (v14 + v16)), (wrap64 (v2 + v16)), y2, 1, (wrap64 (v16 + 1))], [], 4, 0, want⟩ :: R⟩) :=
  (stepN_add (show stepN (drivenF allL name xs r d) false 20000 2 ⟨W, L, ⟨1, [v0, v1, v2, v3, v4, v5, v6, v7, v8, v9, v10, v11, v12, v13, v14, v15, v16, v17, v18, v19, v20, v21, v22], [], 5, 0, want⟩ :: R⟩ = (0, ⟨W, L, ⟨1, [v0, v1, v2, v3, v4, v5, v6, v7, v8, v9, v10, v11, v12, v13, v14, v15, v16, v17, (wrap64 (v14 + v16)), (wrap64 (v2 + v16)), v20, v21, v22], [], 5, 2, want⟩ :: R⟩) by kernel_rfl) (stepN_add (by have h := step_load (P := drivenF allL name xs r d) (L := L) (R := R) (want := want) (k := 1) (b := 5) (i := 2) (vs := [v0, v1, v2, v3, v4, v5, v6, v7, v8, v9, v10, v11, v12, v13, v14, v15, v16, v17, (wrap64 (v14 + v16)), (wrap64 (v2 + v16)), v20, v21, v22]) (d := 20) (a := 19) (n := 0) (s := ⟨#[]⟩) (tt := []) (by kernel_rfl) p2 q2; rw [r2] at h; exact h : stepN (drivenF allL name xs r d) false 20000 1 ⟨W, L, ⟨1, [v0, v1, v2, v3, v4, v5, v6, v7, v8, v9, v10, v11, v12, v13, v14, v15, v16, v17, (wrap64 (v14 + v16)), (wrap64 (v2 + v16)), v20, v21, v22], [], 5, 2, want⟩ :: R⟩ = (0, ⟨W, L, ⟨1, [v0, v1, v2, v3, v4, v5, v6, v7, v8, v9, v10, v11, v12, v13, v14, v15, v16, v17, (wrap64 (v14 + v16)), (wrap64 (v2 + v16)), y2, v21, v22], [], 5, 3, want⟩ :: R⟩)) (stepN_add (step_store (P := drivenF allL name xs r d) (L := L) (R := R) (want := want) (k := 1) (b := 5) (i := 3) (vs := [v0, v1, v2, v3, v4, v5, v6, v7, v8, v9, v10, v11, v12, v13, v14, v15, v16, v17, (wrap64 (v14 + v16)), (wrap64 (v2 + v16)), y2, v21, v22]) (a := 18) (c := 20) (n := 0) (s := ⟨#[]⟩) (tt := []) (by kernel_rfl) p3 q3 : stepN (drivenF allL name xs r d) false 20000 1 ⟨W, L, ⟨1, [v0, v1, v2, v3, v4, v5, v6, v7, v8, v9, v10, v11, v12, v13, v14, v15, v16, v17, (wrap64 (v14 + v16)), (wrap64 (v2 + v16)), y2, v21, v22], [], 5, 3, want⟩ :: R⟩ = (0, ⟨(W.set x3.toNat y2), L, ⟨1, [v0, v1, v2, v3, v4, v5, v6, v7, v8, v9, v10, v11, v12, v13, v14, v15, v16, v17, (wrap64 (v14 + v16)), (wrap64 (v2 + v16)), y2, v21, v22], [], 5, 4, want⟩ :: R⟩)) (show stepN (drivenF allL name xs r d) false 20000 4 ⟨(W.set x3.toNat y2), L, ⟨1, [v0, v1, v2, v3, v4, v5, v6, v7, v8, v9, v10, v11, v12, v13, v14, v15, v16, v17, (wrap64 (v14 + v16)), (wrap64 (v2 + v16)), y2, v21, v22], [], 5, 4, want⟩ :: R⟩ = (0, ⟨(W.set x3.toNat y2), L, ⟨1, [v0, v1, v2, v3, v4, v5, v6, v7, v8, v9, v10, v11, v12, v13, v14, v15, (wrap64 (v16 + 1)), v17, (wrap64 (v14 + v16)), (wrap64 (v2 + v16)), y2, 1, (wrap64 (v16 + 1))], [], 4, 0, want⟩ :: R⟩) by kernel_rfl))))
set_option maxHeartbeats 1000000 in
theorem cat_b6 (v0 v1 v2 v3 v4 v5 v6 v7 v8 v9 v10 v11 v12 v13 v14 v15 v16 v17 v18 v19 v20 v21 v22 : Int) (g : Lev) :
    stepN (drivenF allL name xs r d) false 20000 1 ⟨W, L, ⟨1, [v0, v1, v2, v3, v4, v5, v6, v7, v8, v9, v10, v11, v12, v13, v14, v15, v16, v17, v18, v19, v20, v21, v22], [], 6, 0, want⟩ :: g :: R⟩ = (0, ⟨W, L, g.put false want [v5, v4] :: R⟩) :=
  (show stepN (drivenF allL name xs r d) false 20000 1 ⟨W, L, ⟨1, [v0, v1, v2, v3, v4, v5, v6, v7, v8, v9, v10, v11, v12, v13, v14, v15, v16, v17, v18, v19, v20, v21, v22], [], 6, 0, want⟩ :: g :: R⟩ = (0, ⟨W, L, g.put false want [v5, v4] :: R⟩) by kernel_rfl)
end Go.Proofs.Ytaomlfbcfmmhlaa

/-
  What rt's _same, _less, _cat tell, as plain functions.
-/
namespace Go.Proofs.Ytaomlfbcfmmhlaa
open Go.RowKit Go.Pst
set_option linter.unusedVariables false
set_option linter.unusedSimpArgs false
set_option maxRecDepth 100000

def Runs (p : PProg) (c : Nat) (s s' : Mach) : Prop := ∃ c', c' ≤ c ∧ stepN p false 20000 c' s = (0, s')
theorem Runs.of {p : PProg} {c : Nat} {s s' : Mach} (h : stepN p false 20000 c s = (0, s')) : Runs p c s s' := ⟨c, Nat.le_refl _, h⟩
theorem Runs.trans {p : PProg} {a b : Nat} {s s1 s2 : Mach} (h : Runs p a s s1) (k : Runs p b s1 s2) : Runs p (a + b) s s2 := by
  obtain ⟨x, hx, h⟩ := h
  obtain ⟨y, hy, k⟩ := k
  exact ⟨x + y, by omega, stepN_add h k⟩
theorem Runs.mono {p : PProg} {a b : Nat} {s s1 : Mach} (h : Runs p a s s1) (hab : a ≤ b) : Runs p b s s1 := by
  obtain ⟨x, hx, h⟩ := h
  exact ⟨x, by omega, h⟩
theorem Runs.run {p : PProg} {c n : Nat} {s s' : Mach} {r : Int × List ByteArray} (h : Runs p c s s') (hn : c + 10 ≤ n) (hr : ∀ k, 10 ≤ k → runF p false 20000 k s' = r) : runF p false 20000 n s = r := by
  obtain ⟨x, hx, h⟩ := h
  rw [show n = (n - x) + x by omega, runF_stepN h]
  exact hr _ (by omega)

theorem wrap_id {x : Int} (h0 : -1000000 ≤ x) (h1 : x ≤ 1000000) : wrap64 x = x := by
  unfold wrap64
  omega
theorem place_id {x : Int} {n : Nat} (h0 : 0 ≤ x) (h1 : x < n) (h2 : n ≤ 20000) : placeF x 0 n = x := by
  unfold placeF
  rw [if_neg (by omega), if_neg (by omega), if_neg (by omega), if_pos (by omega)]
  omega
theorem getI_app_l {a b : List Int} {k : Nat} (h : k < a.length) : getI (a ++ b) (k : Int) = a[k] := by
  simp [getI, List.getElem?_append_left h, h]
theorem getI_app_r {a b : List Int} {k : Nat} (h : k < b.length) : getI (a ++ b) ((a.length : Int) + k) = b[k] := by
  have e : ((a.length : Int) + k).toNat = a.length + k := by omega
  simp [getI, e, h]
theorem pick_yes {x y : Int} {b : Bool} {t : Nat} (hb : b = true) (ht : x.toNat = t) : (getI [x, y] (yesF (yesF b == 0))).toNat = t := by
  subst hb
  simpa [yesF, getI] using ht
theorem pick_no {x y : Int} {b : Bool} {t : Nat} (hb : b = false) (ht : y.toNat = t) : (getI [x, y] (yesF (yesF b == 0))).toNat = t := by
  subst hb
  simpa [yesF, getI] using ht

variable {name : ByteArray} {xs : List Int} {r : Nat} {d : List Int} {L : List ByteArray} {R : List Lev} {want : List Int} {g : Lev}
theorem same_loop {A B : List Int} (hl : A.length = B.length) (hs : A.length + B.length ≤ 1000) : ∀ (m k : Nat) (hk : k + m = A.length) (v5 v7 v8 v9 v10 v11 v12 v13 v14 v15 : Int),
    Runs (drivenF allL name xs r d) (20 * m + 10) ⟨A ++ B, L, ⟨2, [0, A.length, A.length, B.length, 0, v5, k, v7, v8, v9, v10, v11, v12, v13, v14, v15], [], 3, 0, want⟩ :: g :: R⟩ ⟨A ++ B, L, g.put false want [if A.drop k = B.drop k then 1 else 0] :: R⟩
  | 0, k, hk, v5, v7, v8, v9, v10, v11, v12, v13, v14, v15 => by
    have hka : k = A.length := by omega
    subst hka
    have h3 := Runs.of (same_b3 (name := name) (xs := xs) (r := r) (d := d) (W := A ++ B) (L := L) (want := want) (R := g :: R) 0 A.length A.length B.length 0 v5 A.length v7 v8 v9 v10 v11 v12 v13 v14 v15 5 (pick_no (by simp) rfl))
    have h5 := Runs.of (same_b5 (name := name) (xs := xs) (r := r) (d := d) (W := A ++ B) (L := L) (want := want) (R := R) 0 A.length A.length B.length 0 v5 A.length (yesF (decide ((A.length : Int) < A.length))) v8 v9 v10 v11 v12 v13 v14 v15 g)
    rw [if_pos (by rw [List.drop_length, hl, List.drop_length])]
    exact (h3.trans h5).mono (by omega)
  | m + 1, k, hk, v5, v7, v8, v9, v10, v11, v12, v13, v14, v15 => by
    have hka : k < A.length := by omega
    have hkb : k < B.length := by omega
    have hA : A.drop k = A[k] :: A.drop (k + 1) := List.drop_eq_getElem_cons hka
    have hB : B.drop k = B[k] :: B.drop (k + 1) := List.drop_eq_getElem_cons hkb
    have q1 : (0 : Int) ≤ k := by omega
    have q3 : (0 : Int) ≤ (A.length : Int) + k := by omega
    have w1 : wrap64 (0 + (k : Int)) = k := by rw [wrap_id (by omega) (by omega)]; omega
    have w2 : wrap64 ((A.length : Int) + k) = (A.length : Int) + k := wrap_id (by omega) (by omega)
    have w3 : wrap64 ((k : Int) + 1) = ((k + 1 : Nat) : Int) := by rw [wrap_id (by omega) (by omega)]; omega
    have hlen : (A ++ B).length ≤ 20000 := by simp; omega
    have p1 : placeF (wrap64 (0 + (k : Int))) 0 (A ++ B).length = k := by rw [w1]; exact place_id (by omega) (by simp; omega) hlen
    have p3 : placeF (wrap64 ((A.length : Int) + k)) 0 (A ++ B).length = (A.length : Int) + k := by rw [w2]; exact place_id (by omega) (by simp; omega) hlen
    have h3 := Runs.of (same_b3 (name := name) (xs := xs) (r := r) (d := d) (W := A ++ B) (L := L) (want := want) (R := g :: R) 0 A.length A.length B.length 0 v5 k v7 v8 v9 v10 v11 v12 v13 v14 v15 4 (pick_yes (by simp; omega) rfl))
    have h4 := fun (t : Nat) (hb : (getI [6, 7] (yesF (yesF (A[k] != B[k]) == 0))).toNat = t) => Runs.of (same_b4 (name := name) (xs := xs) (r := r) (d := d) (W := A ++ B) (L := L) (want := want) (R := g :: R) 0 A.length A.length B.length 0 v5 k (yesF (decide ((k : Int) < A.length))) v8 v9 v10 v11 v12 v13 v14 v15 k A[k] p1 q1 (getI_app_l hka) ((A.length : Int) + k) B[k] p3 q3 (getI_app_r hkb) t hb)
    by_cases hab : A[k] = B[k]
    · have h7 := same_b7 (name := name) (xs := xs) (r := r) (d := d) (W := A ++ B) (L := L) (want := want) (R := g :: R) 0 A.length A.length B.length 0 v5 k (yesF (decide ((k : Int) < A.length))) (wrap64 (0 + (k : Int))) A[k] (wrap64 ((A.length : Int) + k)) B[k] (yesF (A[k] != B[k])) v13 v14 v15
      rw [w3] at h7
      have hi := same_loop hl hs m (k + 1) (by omega) v5 (yesF (decide ((k : Int) < A.length))) (wrap64 (0 + (k : Int))) A[k] (wrap64 ((A.length : Int) + k)) B[k] (yesF (A[k] != B[k])) 1 ((k + 1 : Nat) : Int) v15
      have he : (if A.drop k = B.drop k then (1 : Int) else 0) = if A.drop (k + 1) = B.drop (k + 1) then 1 else 0 := by rw [hA, hB, hab]; simp only [List.cons.injEq, true_and]
      rw [he]
      exact (h3.trans ((h4 7 (pick_no (by simp [hab]) rfl)).trans ((Runs.of h7).trans hi))).mono (by omega)
    · have h6 := Runs.of (same_b6 (name := name) (xs := xs) (r := r) (d := d) (W := A ++ B) (L := L) (want := want) (R := R) 0 A.length A.length B.length 0 v5 k (yesF (decide ((k : Int) < A.length))) (wrap64 (0 + (k : Int))) A[k] (wrap64 ((A.length : Int) + k)) B[k] (yesF (A[k] != B[k])) v13 v14 v15 g)
      have he : (if A.drop k = B.drop k then (1 : Int) else 0) = 0 := by rw [hA, hB, if_neg (fun h => hab (by injection h))]
      rw [he]
      exact (h3.trans ((h4 6 (pick_yes (by simpa using hab) rfl)).trans h6)).mono (by omega)

def lexF : List Int → List Int → Bool
  | _, [] => false
  | [], _ :: _ => true
  | x :: a, y :: b => if x = y then lexF a b else decide (x < y)
theorem less_loop {A B : List Int} (hs : A.length + B.length ≤ 1000) : ∀ (m k : Nat) (hk : k + m = min A.length B.length) (v5 v6 v8 v9 v10 v11 v12 v13 v14 v15 v16 v17 : Int),
    Runs (drivenF allL name xs r d) (20 * m + 10) ⟨A ++ B, L, ⟨3, [0, A.length, A.length, B.length, (min A.length B.length : Nat), v5, v6, k, v8, v9, v10, v11, v12, v13, v14, v15, v16, v17], [], 3, 0, want⟩ :: g :: R⟩ ⟨A ++ B, L, g.put false want [yesF (lexF (A.drop k) (B.drop k))] :: R⟩
  | 0, k, hk, v5, v6, v8, v9, v10, v11, v12, v13, v14, v15, v16, v17 => by
    have hka : k = min A.length B.length := by omega
    subst hka
    have h3 := Runs.of (less_b3 (name := name) (xs := xs) (r := r) (d := d) (W := A ++ B) (L := L) (want := want) (R := g :: R) 0 A.length A.length B.length (min A.length B.length : Nat) v5 v6 (min A.length B.length : Nat) v8 v9 v10 v11 v12 v13 v14 v15 v16 v17 5 (pick_no (by simp) rfl))
    have h5 := Runs.of (less_b5 (name := name) (xs := xs) (r := r) (d := d) (W := A ++ B) (L := L) (want := want) (R := R) 0 A.length A.length B.length (min A.length B.length : Nat) v5 v6 (min A.length B.length : Nat) (yesF (decide (((min A.length B.length : Nat) : Int) < (min A.length B.length : Nat)))) v9 v10 v11 v12 v13 v14 v15 v16 v17 g)
    have he : lexF (A.drop (min A.length B.length)) (B.drop (min A.length B.length)) = decide ((A.length : Int) < B.length) := by
      rcases Nat.lt_or_ge A.length B.length with h | h
      · rw [Nat.min_eq_left (by omega), List.drop_length, List.drop_eq_getElem_cons h]
        simp [lexF, h]
      · rw [Nat.min_eq_right h, List.drop_length]
        simp [lexF, h]
    rw [he]
    exact (h3.trans h5).mono (by omega)
  | m + 1, k, hk, v5, v6, v8, v9, v10, v11, v12, v13, v14, v15, v16, v17 => by
    have hka : k < A.length := by omega
    have hkb : k < B.length := by omega
    have hA : A.drop k = A[k] :: A.drop (k + 1) := List.drop_eq_getElem_cons hka
    have hB : B.drop k = B[k] :: B.drop (k + 1) := List.drop_eq_getElem_cons hkb
    have q1 : (0 : Int) ≤ k := by omega
    have q3 : (0 : Int) ≤ (A.length : Int) + k := by omega
    have w1 : wrap64 (0 + (k : Int)) = k := by rw [wrap_id (by omega) (by omega)]; omega
    have w2 : wrap64 ((A.length : Int) + k) = (A.length : Int) + k := wrap_id (by omega) (by omega)
    have w3 : wrap64 ((k : Int) + 1) = ((k + 1 : Nat) : Int) := by rw [wrap_id (by omega) (by omega)]; omega
    have hlen : (A ++ B).length ≤ 20000 := by simp; omega
    have p1 : placeF (wrap64 (0 + (k : Int))) 0 (A ++ B).length = k := by rw [w1]; exact place_id (by omega) (by simp; omega) hlen
    have p3 : placeF (wrap64 ((A.length : Int) + k)) 0 (A ++ B).length = (A.length : Int) + k := by rw [w2]; exact place_id (by omega) (by simp; omega) hlen
    have h3 := Runs.of (less_b3 (name := name) (xs := xs) (r := r) (d := d) (W := A ++ B) (L := L) (want := want) (R := g :: R) 0 A.length A.length B.length (min A.length B.length : Nat) v5 v6 k v8 v9 v10 v11 v12 v13 v14 v15 v16 v17 4 (pick_yes (by simp; omega) rfl))
    have h4 := fun (t : Nat) (hb : (getI [6, 7] (yesF (yesF (A[k] != B[k]) == 0))).toNat = t) => Runs.of (less_b4 (name := name) (xs := xs) (r := r) (d := d) (W := A ++ B) (L := L) (want := want) (R := g :: R) 0 A.length A.length B.length (min A.length B.length : Nat) v5 v6 k (yesF (decide ((k : Int) < (min A.length B.length : Nat)))) v9 v10 v11 v12 v13 v14 v15 v16 v17 k A[k] p1 q1 (getI_app_l hka) ((A.length : Int) + k) B[k] p3 q3 (getI_app_r hkb) t hb)
    by_cases hab : A[k] = B[k]
    · have h7 := less_b7 (name := name) (xs := xs) (r := r) (d := d) (W := A ++ B) (L := L) (want := want) (R := g :: R) 0 A.length A.length B.length (min A.length B.length : Nat) v5 v6 k (yesF (decide ((k : Int) < (min A.length B.length : Nat)))) (wrap64 (0 + (k : Int))) A[k] (wrap64 ((A.length : Int) + k)) B[k] (yesF (A[k] != B[k])) v14 v15 v16 v17
      rw [w3] at h7
      have hi := less_loop hs m (k + 1) (by omega) v5 v6 (yesF (decide ((k : Int) < (min A.length B.length : Nat)))) (wrap64 (0 + (k : Int))) A[k] (wrap64 ((A.length : Int) + k)) B[k] (yesF (A[k] != B[k])) v14 1 ((k + 1 : Nat) : Int) v17
      have he : lexF (A.drop k) (B.drop k) = lexF (A.drop (k + 1)) (B.drop (k + 1)) := by rw [hA, hB]; simp [lexF, hab]
      rw [he]
      exact (h3.trans ((h4 7 (pick_no (by simp [hab]) rfl)).trans ((Runs.of h7).trans hi))).mono (by omega)
    · have h6 := Runs.of (less_b6 (name := name) (xs := xs) (r := r) (d := d) (W := A ++ B) (L := L) (want := want) (R := R) 0 A.length A.length B.length (min A.length B.length : Nat) v5 v6 k (yesF (decide ((k : Int) < (min A.length B.length : Nat)))) (wrap64 (0 + (k : Int))) A[k] (wrap64 ((A.length : Int) + k)) B[k] (yesF (A[k] != B[k])) v14 v15 v16 v17 g)
      have he : lexF (A.drop k) (B.drop k) = decide (A[k] < B[k]) := by rw [hA, hB]; simp [lexF, hab]
      rw [he]
      exact (h3.trans ((h4 6 (pick_yes (by simpa using hab) rfl)).trans h6)).mono (by omega)
end Go.Proofs.Ytaomlfbcfmmhlaa

/-
  What rt's _same, _less, _cat tell, as plain functions: the second half (printed by wip/gen_rtcatpure.py).
-/
namespace Go.Proofs.Ytaomlfbcfmmhlaa
open Go.RowKit Go.Pst
set_option linter.unusedVariables false
set_option linter.unusedSimpArgs false
set_option maxRecDepth 100000

variable {name : ByteArray} {xs : List Int} {r : Nat} {d : List Int} {L : List ByteArray} {R : List Lev} {want : List Int} {g : Lev}
theorem cat_loop2 {a b : Nat} (hs : a + b ≤ 1000) : ∀ (m k : Nat) (hk : k + m = b) (W : List Int) (hW : W.length = 2 * (a + b)) (v6 v7 v8 v9 v10 v11 v12 v13 v15 v17 v18 v19 v20 v21 v22 : Int),
    ∃ W', Runs (drivenF allL name xs r d) (20 * m + 10) ⟨W, L, ⟨1, [0, a, a, b, ((a + b : Nat) : Int), ((a + b : Nat) : Int), v6, v7, v8, v9, v10, v11, v12, v13, ((a + b + a : Nat) : Int), v15, k, v17, v18, v19, v20, v21, v22], [], 4, 0, want⟩ :: g :: R⟩ ⟨W', L, g.put false want [((a + b : Nat) : Int), ((a + b : Nat) : Int)] :: R⟩
  | 0, k, hk, W, hW, v6, v7, v8, v9, v10, v11, v12, v13, v15, v17, v18, v19, v20, v21, v22 => by
    have hka : k = b := by omega
    subst hka
    have h4 := Runs.of (cat_b4 (name := name) (xs := xs) (r := r) (d := d) (L := L) (want := want) (W := W) (R := g :: R) 0 a a k ((a + k : Nat) : Int) ((a + k : Nat) : Int) v6 v7 v8 v9 v10 v11 v12 v13 ((a + k + a : Nat) : Int) v15 k v17 v18 v19 v20 v21 v22 6 (pick_no (by simp) rfl))
    have h6 := Runs.of (cat_b6 (name := name) (xs := xs) (r := r) (d := d) (L := L) (want := want) (W := W) (R := R) 0 a a k ((a + k : Nat) : Int) ((a + k : Nat) : Int) v6 v7 v8 v9 v10 v11 v12 v13 ((a + k + a : Nat) : Int) v15 k (yesF (decide ((k : Int) < k))) v18 v19 v20 v21 v22 g)
    exact ⟨W, (h4.trans h6).mono (by omega)⟩
  | m + 1, k, hk, W, hW, v6, v7, v8, v9, v10, v11, v12, v13, v15, v17, v18, v19, v20, v21, v22 => by
    have hka : k < b := by omega
    have q2 : (0 : Int) ≤ (a : Int) + k := by omega
    have q3 : (0 : Int) ≤ ((a + b + a : Nat) : Int) + k := by omega
    have i2 : (a : Int) + k < W.length := by omega
    have i3 : ((a + b + a : Nat) : Int) + k < W.length := by omega
    have i4 : W.length ≤ 20000 := by omega
    have w2 : wrap64 ((a : Int) + k) = (a : Int) + k := wrap_id (by omega) (by omega)
    have w4 : wrap64 (((a + b + a : Nat) : Int) + k) = ((a + b + a : Nat) : Int) + k := wrap_id (by omega) (by omega)
    have w3 : wrap64 ((k : Int) + 1) = ((k + 1 : Nat) : Int) := by rw [wrap_id (by omega) (by omega)]; omega
    have h4 := Runs.of (cat_b4 (name := name) (xs := xs) (r := r) (d := d) (L := L) (want := want) (W := W) (R := g :: R) 0 a a b ((a + b : Nat) : Int) ((a + b : Nat) : Int) v6 v7 v8 v9 v10 v11 v12 v13 ((a + b + a : Nat) : Int) v15 k v17 v18 v19 v20 v21 v22 5 (pick_yes (by simp; omega) rfl))
    have h5 := cat_b5 (name := name) (xs := xs) (r := r) (d := d) (L := L) (want := want) (W := W) (R := g :: R) 0 a a b ((a + b : Nat) : Int) ((a + b : Nat) : Int) v6 v7 v8 v9 v10 v11 v12 v13 ((a + b + a : Nat) : Int) v15 k (yesF (decide ((k : Int) < b))) v18 v19 v20 v21 v22 ((a : Int) + k) (getI W ((a : Int) + k)) (by rw [w2]; exact place_id q2 i2 i4) q2 rfl (((a + b + a : Nat) : Int) + k) (by rw [w4]; exact place_id q3 i3 i4) q3
    rw [w3] at h5
    obtain ⟨W', hi⟩ := cat_loop2 hs m (k + 1) (by omega) (W.set (((a + b + a : Nat) : Int) + k).toNat (getI W ((a : Int) + k))) (by rw [List.length_set]; exact hW) v6 v7 v8 v9 v10 v11 v12 v13 v15 (yesF (decide ((k : Int) < b))) (wrap64 (((a + b + a : Nat) : Int) + k)) (wrap64 ((a : Int) + k)) (getI W ((a : Int) + k)) 1 ((k + 1 : Nat) : Int)
    exact ⟨W', (h4.trans ((Runs.of h5).trans hi)).mono (by omega)⟩
theorem cat_loop1 {a b : Nat} (hs : a + b ≤ 1000) : ∀ (m k : Nat) (hk : k + m = a) (W : List Int) (hW : W.length = 2 * (a + b)) (v6 v8 v9 v10 v11 v12 v13 v14 v15 v16 v17 v18 v19 v20 v21 v22 : Int),
    ∃ W', Runs (drivenF allL name xs r d) (20 * m + 20 * b + 30) ⟨W, L, ⟨1, [0, a, a, b, ((a + b : Nat) : Int), ((a + b : Nat) : Int), v6, k, v8, v9, v10, v11, v12, v13, v14, v15, v16, v17, v18, v19, v20, v21, v22], [], 1, 0, want⟩ :: g :: R⟩ ⟨W', L, g.put false want [((a + b : Nat) : Int), ((a + b : Nat) : Int)] :: R⟩
  | 0, k, hk, W, hW, v6, v8, v9, v10, v11, v12, v13, v14, v15, v16, v17, v18, v19, v20, v21, v22 => by
    have hka : k = a := by omega
    subst hka
    have w5 : wrap64 (((k + b : Nat) : Int) + k) = ((k + b + k : Nat) : Int) := by rw [wrap_id (by omega) (by omega)]; omega
    have h1 := Runs.of (cat_b1 (name := name) (xs := xs) (r := r) (d := d) (L := L) (want := want) (W := W) (R := g :: R) 0 k k b ((k + b : Nat) : Int) ((k + b : Nat) : Int) v6 k v8 v9 v10 v11 v12 v13 v14 v15 v16 v17 v18 v19 v20 v21 v22 3 (pick_no (by simp) rfl))
    have h3 := cat_b3 (name := name) (xs := xs) (r := r) (d := d) (L := L) (want := want) (W := W) (R := g :: R) 0 k k b ((k + b : Nat) : Int) ((k + b : Nat) : Int) v6 k (yesF (decide ((k : Int) < k))) v9 v10 v11 v12 v13 v14 v15 v16 v17 v18 v19 v20 v21 v22
    rw [w5] at h3
    obtain ⟨W', hi⟩ := cat_loop2 hs b 0 (by omega) W hW v6 k (yesF (decide ((k : Int) < k))) v9 v10 v11 v12 v13 0 v17 v18 v19 v20 v21 v22
    exact ⟨W', (h1.trans ((Runs.of h3).trans hi)).mono (by omega)⟩
  | m + 1, k, hk, W, hW, v6, v8, v9, v10, v11, v12, v13, v14, v15, v16, v17, v18, v19, v20, v21, v22 => by
    have hka : k < a := by omega
    have q2 : (0 : Int) ≤ (k : Int) := by omega
    have q3 : (0 : Int) ≤ ((a + b : Nat) : Int) + k := by omega
    have i2 : (k : Int) < W.length := by omega
    have i3 : ((a + b : Nat) : Int) + k < W.length := by omega
    have i4 : W.length ≤ 20000 := by omega
    have w2 : wrap64 (0 + (k : Int)) = k := by rw [wrap_id (by omega) (by omega)]; omega
    have w4 : wrap64 (((a + b : Nat) : Int) + k) = ((a + b : Nat) : Int) + k := wrap_id (by omega) (by omega)
    have w3 : wrap64 ((k : Int) + 1) = ((k + 1 : Nat) : Int) := by rw [wrap_id (by omega) (by omega)]; omega
    have h1 := Runs.of (cat_b1 (name := name) (xs := xs) (r := r) (d := d) (L := L) (want := want) (W := W) (R := g :: R) 0 a a b ((a + b : Nat) : Int) ((a + b : Nat) : Int) v6 k v8 v9 v10 v11 v12 v13 v14 v15 v16 v17 v18 v19 v20 v21 v22 2 (pick_yes (by simp; omega) rfl))
    have h2 := cat_b2 (name := name) (xs := xs) (r := r) (d := d) (L := L) (want := want) (W := W) (R := g :: R) 0 a a b ((a + b : Nat) : Int) ((a + b : Nat) : Int) v6 k (yesF (decide ((k : Int) < a))) v9 v10 v11 v12 v13 v14 v15 v16 v17 v18 v19 v20 v21 v22 k (getI W k) (by rw [w2]; exact place_id q2 i2 i4) q2 rfl (((a + b : Nat) : Int) + k) (by rw [w4]; exact place_id q3 i3 i4) q3
    rw [w3] at h2
    obtain ⟨W', hi⟩ := cat_loop1 hs m (k + 1) (by omega) (W.set (((a + b : Nat) : Int) + k).toNat (getI W k)) (by rw [List.length_set]; exact hW) v6 (yesF (decide ((k : Int) < a))) (wrap64 (((a + b : Nat) : Int) + k)) (wrap64 (0 + (k : Int))) (getI W k) 1 ((k + 1 : Nat) : Int) v14 v15 v16 v17 v18 v19 v20 v21 v22
    exact ⟨W', (h1.trans ((Runs.of h2).trans hi)).mono (by omega)⟩
theorem cat_all {a b : Nat} (hs : a + b ≤ 1000) (W : List Int) (hW : W.length = a + b) :
    ∃ W', Runs (drivenF allL name xs r d) (20 * a + 20 * b + 40) ⟨W, L, ⟨1, [0, a, a, b, 0, 0, 0, 0, 0, 0, 0, 0, 0, 0, 0, 0, 0, 0, 0, 0, 0, 0, 0], [], 0, 0, want⟩ :: g :: R⟩ ⟨W', L, g.put false want [((a + b : Nat) : Int), ((a + b : Nat) : Int)] :: R⟩ := by
  have w1 : wrap64 ((a : Int) + b) = ((a + b : Nat) : Int) := by rw [wrap_id (by omega) (by omega)]; omega
  have ht : takeF (wrap64 ((a : Int) + b)) 20000 W = (((a + b : Nat) : Int), W ++ List.replicate (a + b) 0) := by
    rw [w1]
    unfold takeF
    rw [if_neg (by omega), if_neg (by omega), hW, Int.toNat_natCast]
  have h0 := cat_b0 (name := name) (xs := xs) (r := r) (d := d) (L := L) (want := want) (W := W) (R := g :: R) 0 a a b 0 0 0 0 0 0 0 0 0 0 0 0 0 0 0 0 0 0 0 ((a + b : Nat) : Int) (W ++ List.replicate (a + b) 0) ht (by omega)
  rw [w1] at h0
  obtain ⟨W', hi⟩ := cat_loop1 (name := name) (xs := xs) (r := r) (d := d) (L := L) (R := R) (want := want) (g := g) hs a 0 (by omega) (W ++ List.replicate (a + b) 0) (by simp [hW]; omega) 0 0 0 0 0 0 0 0 0 0 0 0 0 0 0 0
  exact ⟨W', ((Runs.of h0).trans hi).mono (by omega)⟩
theorem same_all {A B : List Int} (hs : A.length + B.length ≤ 1000) :
    Runs (drivenF allL name xs r d) (20 * A.length + 30) ⟨A ++ B, L, ⟨2, [0, A.length, A.length, B.length, 0, 0, 0, 0, 0, 0, 0, 0, 0, 0, 0, 0], [], 0, 0, want⟩ :: g :: R⟩ ⟨A ++ B, L, g.put false want [if A = B then 1 else 0] :: R⟩ := by
  have h0 := fun (t : Nat) (hb : (getI [1, 2] (yesF (yesF ((A.length : Int) != B.length) == 0))).toNat = t) => Runs.of (same_b0 (name := name) (xs := xs) (r := r) (d := d) (L := L) (want := want) (W := A ++ B) (R := g :: R) 0 A.length A.length B.length 0 0 0 0 0 0 0 0 0 0 0 0 t hb)
  by_cases hl : A.length = B.length
  · have h2 := Runs.of (same_b2 (name := name) (xs := xs) (r := r) (d := d) (L := L) (want := want) (W := A ++ B) (R := g :: R) 0 A.length A.length B.length 0 (yesF ((A.length : Int) != B.length)) 0 0 0 0 0 0 0 0 0 0)
    have hi := same_loop (name := name) (xs := xs) (r := r) (d := d) (L := L) (want := want) (R := R) (g := g) hl hs A.length 0 (by omega) (yesF ((A.length : Int) != B.length)) 0 0 0 0 0 0 0 0 0
    exact ((h0 2 (pick_no (by simp [hl]) rfl)).trans (h2.trans hi)).mono (by omega)
  · have h1 := Runs.of (same_b1 (name := name) (xs := xs) (r := r) (d := d) (L := L) (want := want) (W := A ++ B) (R := R) 0 A.length A.length B.length 0 (yesF ((A.length : Int) != B.length)) 0 0 0 0 0 0 0 0 0 0 g)
    rw [if_neg (fun e => hl (by rw [e]))]
    exact ((h0 1 (pick_yes (by simp; omega) rfl)).trans h1).mono (by omega)
theorem less_all {A B : List Int} (hs : A.length + B.length ≤ 1000) :
    Runs (drivenF allL name xs r d) (20 * A.length + 40) ⟨A ++ B, L, ⟨3, [0, A.length, A.length, B.length, 0, 0, 0, 0, 0, 0, 0, 0, 0, 0, 0, 0, 0, 0], [], 0, 0, want⟩ :: g :: R⟩ ⟨A ++ B, L, g.put false want [yesF (lexF A B)] :: R⟩ := by
  have h0 := fun (t : Nat) (hb : (getI [1, 2] (yesF (yesF (decide ((B.length : Int) < A.length)) == 0))).toNat = t) => Runs.of (less_b0 (name := name) (xs := xs) (r := r) (d := d) (L := L) (want := want) (W := A ++ B) (R := g :: R) 0 A.length A.length B.length 0 0 0 0 0 0 0 0 0 0 0 0 0 0 t hb)
  have hi := less_loop (name := name) (xs := xs) (r := r) (d := d) (L := L) (want := want) (R := R) (g := g) hs (min A.length B.length) 0 (by omega) (yesF (decide ((B.length : Int) < A.length))) 0 0 0 0 0 0 0 0 0 0 0
  have hm : min A.length B.length ≤ A.length := Nat.min_le_left _ _
  by_cases hl : B.length < A.length
  · have e : (min A.length B.length : Nat) = B.length := Nat.min_eq_right (by omega)
    have h1 := Runs.of (less_b1 (name := name) (xs := xs) (r := r) (d := d) (L := L) (want := want) (W := A ++ B) (R := g :: R) 0 A.length A.length B.length A.length (yesF (decide ((B.length : Int) < A.length))) 0 0 0 0 0 0 0 0 0 0 0 0)
    have h2 := Runs.of (less_b2 (name := name) (xs := xs) (r := r) (d := d) (L := L) (want := want) (W := A ++ B) (R := g :: R) 0 A.length A.length B.length B.length (yesF (decide ((B.length : Int) < A.length))) 0 0 0 0 0 0 0 0 0 0 0 0)
    rw [e] at hi
    exact ((h0 1 (pick_yes (by simp; omega) rfl)).trans (h1.trans (h2.trans hi))).mono (by omega)
  · have e : (min A.length B.length : Nat) = A.length := Nat.min_eq_left (by omega)
    have h2 := Runs.of (less_b2 (name := name) (xs := xs) (r := r) (d := d) (L := L) (want := want) (W := A ++ B) (R := g :: R) 0 A.length A.length B.length A.length (yesF (decide ((B.length : Int) < A.length))) 0 0 0 0 0 0 0 0 0 0 0 0)
    rw [e] at hi
    exact ((h0 2 (pick_no (by simp; omega) rfl)).trans (h2.trans hi)).mono (by omega)
theorem main_pre_cat (x0 x1 x2 x3 : Int) (d : List Int) : stepN (drivenF allL ⟨#[95, 99, 97, 116]⟩ [x0, x1, x2, x3] 2 d) false 20000 5 (startF (drivenF allL ⟨#[95, 99, 97, 116]⟩ [x0, x1, x2, x3] 2 d)) = (0, ⟨d, [], [⟨1, [x0, x1, x2, x3, 0, 0, 0, 0, 0, 0, 0, 0, 0, 0, 0, 0, 0, 0, 0, 0, 0, 0, 0], [], 0, 0, [4, 5]⟩, ⟨0, [x0, x1, x2, x3, 0, 0, 0, 0], [], 0, 5, []⟩]⟩) := by kernel_rfl
theorem main_post_cat (x0 x1 x2 x3 y0 y1 : Int) (d W : List Int) (n : Nat) : runF (drivenF allL ⟨#[95, 99, 97, 116]⟩ [x0, x1, x2, x3] 2 d) false 20000 (n + 3) ⟨W, [], [Lev.put ⟨0, [x0, x1, x2, x3, 0, 0, 0, 0], [], 0, 5, []⟩ false [4, 5] [y0, y1]]⟩ = (1, [decS y0, decS y1]) := by kernel_rfl
theorem main_pre_same (x0 x1 x2 x3 : Int) (d : List Int) : stepN (drivenF allL ⟨#[95, 115, 97, 109, 101]⟩ [x0, x1, x2, x3] 1 d) false 20000 5 (startF (drivenF allL ⟨#[95, 115, 97, 109, 101]⟩ [x0, x1, x2, x3] 1 d)) = (0, ⟨d, [], [⟨2, [x0, x1, x2, x3, 0, 0, 0, 0, 0, 0, 0, 0, 0, 0, 0, 0], [], 0, 0, [4]⟩, ⟨0, [x0, x1, x2, x3, 0, 0, 0], [], 0, 5, []⟩]⟩) := by kernel_rfl
theorem main_post_same (x0 x1 x2 x3 y0 : Int) (d W : List Int) (n : Nat) : runF (drivenF allL ⟨#[95, 115, 97, 109, 101]⟩ [x0, x1, x2, x3] 1 d) false 20000 (n + 2) ⟨W, [], [Lev.put ⟨0, [x0, x1, x2, x3, 0, 0, 0], [], 0, 5, []⟩ false [4] [y0]]⟩ = (1, [decS y0]) := by kernel_rfl
theorem main_pre_less (x0 x1 x2 x3 : Int) (d : List Int) : stepN (drivenF allL ⟨#[95, 108, 101, 115, 115]⟩ [x0, x1, x2, x3] 1 d) false 20000 5 (startF (drivenF allL ⟨#[95, 108, 101, 115, 115]⟩ [x0, x1, x2, x3] 1 d)) = (0, ⟨d, [], [⟨3, [x0, x1, x2, x3, 0, 0, 0, 0, 0, 0, 0, 0, 0, 0, 0, 0, 0, 0], [], 0, 0, [4]⟩, ⟨0, [x0, x1, x2, x3, 0, 0, 0], [], 0, 5, []⟩]⟩) := by kernel_rfl
theorem main_post_less (x0 x1 x2 x3 y0 : Int) (d W : List Int) (n : Nat) : runF (drivenF allL ⟨#[95, 108, 101, 115, 115]⟩ [x0, x1, x2, x3] 1 d) false 20000 (n + 2) ⟨W, [], [Lev.put ⟨0, [x0, x1, x2, x3, 0, 0, 0], [], 0, 5, []⟩ false [4] [y0]]⟩ = (1, [decS y0]) := by kernel_rfl
theorem main_pre_add (x0 x1 x2 x3 : Int) (d : List Int) : stepN (drivenF allL ⟨#[95, 97, 100, 100]⟩ [x0, x1, x2, x3] 3 d) false 20000 5 (startF (drivenF allL ⟨#[95, 97, 100, 100]⟩ [x0, x1, x2, x3] 3 d)) = (0, ⟨d, [], [⟨4, [x0, x1, x2, x3, 0, 0, 0, 0, 0, 0, 0, 0, 0, 0, 0, 0, 0, 0, 0, 0, 0, 0], [], 0, 0, [4, 5, 6]⟩, ⟨0, [x0, x1, x2, x3, 0, 0, 0, 0, 0], [], 0, 5, []⟩]⟩) := by kernel_rfl
theorem main_post_add (x0 x1 x2 x3 y0 y1 y2 : Int) (d W : List Int) (n : Nat) : runF (drivenF allL ⟨#[95, 97, 100, 100]⟩ [x0, x1, x2, x3] 3 d) false 20000 (n + 4) ⟨W, [], [Lev.put ⟨0, [x0, x1, x2, x3, 0, 0, 0, 0, 0], [], 0, 5, []⟩ false [4, 5, 6] [y0, y1, y2]]⟩ = (1, [decS y0, decS y1, decS y2]) := by kernel_rfl
end Go.Proofs.Ytaomlfbcfmmhlaa

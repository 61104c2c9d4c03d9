/-
  posternkeep.AheadAbove: what the law asks of a code holds, whatever the code is.
-/
import Derived.Test.YthgmaapebplimaaAheadAbovePure
import Derived.Test.YthgmaapebplimaaAbove
import Derived.Test.YthgmaapebplimaaEqualI
import Derived.Test.YthgmaapebplimaaRaw
namespace Go.Proofs.Ythgmaapebplimaa
open Go.RowKit Go.Pst
set_option linter.unusedVariables false
set_option linter.unusedSimpArgs false

/-- What posternkeep.Code answers, as far as the law asks. -/
def RawCode (l : List PRaw) (v : Value) (w : World) : Prop :=
  Calls Try.prog 19 #[v] w fun e w' => ∃ (b : Nat) (v5 vd : Value) (c : PCode), e = .returned (.agg #[.slice (some ⟨b, 0, none⟩) 2 2, vd]) ∧ b < w'.heap.size ∧
    (w'.cell? ⟨b, 0, none⟩ = some (.string c.name) ∧ w'.cell? ⟨b, 1, none⟩ = some (.int .i64 c.params) ∧ w'.cell? ⟨b, 2, none⟩ = some (.int .i64 c.results) ∧ w'.cell? ⟨b, 3, none⟩ = some (.int .i64 c.vars) ∧ w'.cell? ⟨b, 4, none⟩ = some (.int .i64 c.slots) ∧ w'.cell? ⟨b, 5, none⟩ = some v5) ∧
    rCode (fun _ => True) w' [.string c.name, .int .i64 c.params, .int .i64 c.results, .int .i64 c.vars, .int .i64 c.slots, v5] c ∧ FitCode c ∧ 0 < c.blocks.length ∧ Below w.heap.size w w'

/-- Is k in each row of R that is not empty, at all of A? -/
def allT (R : List (List Int)) (k : Nat) (A : List Int) : Bool := A.all fun x => ((((R.getD x.toNat []).length : Nat) : Int) == 0) || decide ((k : Int) ∈ R.getD x.toNat [])
theorem allT_take (R : List (List Int)) (k : Nat) (A : List Int) (j : Nat) (h : j < A.length) : allT R k (A.take (j + 1)) = (allT R k (A.take j) && (((((R.getD A[j].toNat []).length : Nat) : Int) == 0) || decide ((k : Int) ∈ R.getD A[j].toNat []))) := by
  unfold allT
  rw [List.take_succ_eq_append_getElem h, List.all_append]
  simp
theorem aboveF_len (c : PCode) : (aboveF c).length = c.blocks.length := by simp [aboveF]
theorem aheadF_len (c : PCode) : (aheadF c).length = c.blocks.length := by simp [aheadF]
theorem aboveF_at (c : PCode) (i : Nat) (h : i < (aboveF c).length) : (aboveF c)[i] = aboveRow c c.blocks.length i := by simp [aboveF]
theorem aboveF_getD (c : PCode) (i : Nat) (h : i < c.blocks.length) : (aboveF c).getD i [] = aboveRow c c.blocks.length i := by
  rw [List.getD_eq_getElem?_getD, List.getElem?_eq_getElem (by rw [aboveF_len]; exact h), Option.getD_some, aboveF_at]
theorem aheadF_at (c : PCode) (i : Nat) (h : i < (aheadF c).length) : (aheadF c)[i] = aheadRow c c.blocks.length i := by simp [aheadF]
theorem mem_ahead (c : PCode) (i : Nat) (x : Int) : x ∈ aheadRow c c.blocks.length i ↔ ∃ q : Nat, x = (q : Int) ∧ q < c.blocks.length ∧ (i : Int) ∈ leadsF c q := by
  unfold aheadRow
  rw [List.mem_map]
  constructor
  · rintro ⟨q, hq, rfl⟩
    rw [List.mem_filter, List.mem_range] at hq
    exact ⟨q, rfl, hq.1, by simpa using hq.2⟩
  · rintro ⟨q, rfl, h1, h2⟩
    exact ⟨q, by rw [List.mem_filter, List.mem_range]; exact ⟨h1, by simpa using h2⟩, rfl⟩
/-- The plain law. -/
theorem all_above (c : PCode) (i k : Nat) (hi : 1 ≤ i) (hin : i < c.blocks.length) (hk : k < c.blocks.length) (hne : k ≠ i) (hr : aboveRow c c.blocks.length i ≠ []) :
    allT (aboveF c) k (aheadRow c c.blocks.length i) = decide ((k : Int) ∈ aboveRow c c.blocks.length i) := by
  have h := above_iff hi (above_reach hr) hk hne (aheadRow c c.blocks.length i) (mem_ahead c i)
  rw [Bool.eq_iff_iff, decide_eq_true_iff, ← h]
  unfold allT
  rw [List.all_eq_true]
  refine forall_congr' fun x => forall_congr' fun hx => ?_
  obtain ⟨q, rfl, hq, _⟩ := (mem_ahead c i x).1 hx
  rw [Int.toNat_natCast, aboveF_getD c q hq]
  simp

set_option maxRecDepth 4000 in
set_option maxHeartbeats 4000000 in
theorem walk_law (l : List PRaw) (v : Value) (w : World) (hcode : RawCode l v w) :
    Calls Try.prog 9 #[v] w fun e w' => e = .returned (.bool true) ∧ Below w.heap.size w w' := by
  unfold RawCode at hcode
  have hfd : ∀ (b : Nat) (vd : Value) (w : World), (Instr.field 40 (.agg #[.slice (some ⟨b, 0, none⟩) 2 2, vd]) 0).run Try.prog w = .ok (.slice (some ⟨b, 0, none⟩) 2 2) w := fun _ _ _ => by kernel_rfl
  go_enter Try.func9, Try.ntmps9
  go_wp2_with fail
  refine hcode.mono ?_
  rintro e w1 ⟨b, v5, vd, c, rfl, hb, ⟨x0, x1, x2, x3, x4, x5⟩, hrc, hfit, hpos, hbel⟩
  have Hrc := Lib.hid hrc
  have Hfit := Lib.hid hfit
  have Hbel := Lib.hid hbel
  have hv5 : ∃ a5 c5, v5 = .slice a5 c.blocks.length c5 := by
    obtain ⟨v5', he, _, hbs⟩ := hrc
    simp only [List.cons.injEq, and_true, true_and] at he
    obtain rfl := he
    exact rSlice_shape hbs
  obtain ⟨a5, c5, rfl⟩ := hv5
  clear hrc hfit hbel hcode
  go_wp2_with fail
  generalize hW : w1.alloc (.cells #[.string c.name, .int .i64 c.params, .int .i64 c.results, .int .i64 c.vars, .int .i64 c.slots, .slice a5 c.blocks.length c5] 32) = W
  have hbW : Below w1.heap.size w1 W := by rw [← hW]; exact (Below.refl _ _).alloc (Nat.le_refl _) _
  have hszW : W.heap.size = w1.heap.size + 1 := by rw [← hW]; simp
  have hcW : ∀ j, W.cell? ⟨w1.heap.size, j, none⟩ = (#[Value.string c.name, .int .i64 c.params, .int .i64 c.results, .int .i64 c.vars, .int .i64 c.slots, .slice a5 c.blocks.length c5] : Array Value)[j]? := by
    intro j
    rw [← hW, World.cell?_alloc_new]
  clear hW
  have hrW : rCode (fun _ => True) W [.string c.name, .int .i64 c.params, .int .i64 c.results, .int .i64 c.vars, .int .i64 c.slots, .slice a5 c.blocks.length c5] c := Good.kept (Keep.of_below' hbW (fun k hk _ => hk)) Hrc.out
  refine (ahead_any c _ W hrW Hfit.out).mono ?_
  rintro e w2 ⟨vA, rfl, hA, hb2⟩
  have hA' := (rIntss_open hA)
  obtain ⟨aA, cA, rfl, hlA, hAt⟩ := hA'
  have hbx : w1.heap.size < W.heap.size := by omega
  have z0 : w2.cell? ⟨w1.heap.size, 0, none⟩ = some (.string c.name) := (hb2.cell (p := ⟨_, 0, none⟩) hbx).trans (hcW 0)
  have z1 : w2.cell? ⟨w1.heap.size, 1, none⟩ = some (.int .i64 c.params) := (hb2.cell (p := ⟨_, 1, none⟩) hbx).trans (hcW 1)
  have z2 : w2.cell? ⟨w1.heap.size, 2, none⟩ = some (.int .i64 c.results) := (hb2.cell (p := ⟨_, 2, none⟩) hbx).trans (hcW 2)
  have z3 : w2.cell? ⟨w1.heap.size, 3, none⟩ = some (.int .i64 c.vars) := (hb2.cell (p := ⟨_, 3, none⟩) hbx).trans (hcW 3)
  have z4 : w2.cell? ⟨w1.heap.size, 4, none⟩ = some (.int .i64 c.slots) := (hb2.cell (p := ⟨_, 4, none⟩) hbx).trans (hcW 4)
  have z5 : w2.cell? ⟨w1.heap.size, 5, none⟩ = some (.slice a5 c.blocks.length c5) := (hb2.cell (p := ⟨_, 5, none⟩) hbx).trans (hcW 5)
  have hbW2 : Below w1.heap.size w1 w2 := hbW.trans (hb2.mono hbW.size)
  have Hb2 := Lib.hid hbW2
  have hsz2 : w1.heap.size < w2.heap.size := Nat.lt_of_lt_of_le hbx hb2.size
  have HAt := Lib.hid hAt
  clear hA hAt hb2 hcW hrW hbW hszW hbW2 x0 x1 x2 x3 x4 x5 hb hbx
  rw [aheadF_len] at hlA ⊢
  go_wp2_with fail
  have hr2 : rCode (fun _ => True) w2 [.string c.name, .int .i64 c.params, .int .i64 c.results, .int .i64 c.vars, .int .i64 c.slots, .slice a5 c.blocks.length c5] c := Good.kept (Keep.of_below' Hb2.out (fun k hk _ => hk)) Hrc.out
  refine (above_any c _ w2 hr2 Hfit.out).mono ?_
  rintro e w3 ⟨vB, rfl, hB, hb3⟩
  obtain ⟨aB, cB, rfl, hlB, hBt⟩ := rIntss_open hB
  have y5 : w3.cell? ⟨w1.heap.size, 5, none⟩ = some (.slice a5 c.blocks.length c5) := (hb3.cell (p := ⟨_, 5, none⟩) hsz2).trans z5
  have HA3 := Lib.hid (HAt.out.below hb3)
  have Hb3 := Lib.hid (Hbel.out.trans ((Hb2.out.trans (hb3.mono (Nat.le_of_lt hsz2))).mono Hbel.out.size))
  have hsz3 : w1.heap.size < w3.heap.size := Nat.lt_of_lt_of_le hsz2 hb3.size
  have HB3 := Lib.hid hBt
  clear hB hBt hb3 hr2 z0 z1 z2 z3 z4 z5 HAt Hb2 hsz2
  rw [aboveF_len] at hlB ⊢
  obtain ⟨n, hn⟩ : ∃ n, n = c.blocks.length := ⟨_, rfl⟩
  have Hn := Lib.hid hn
  rw [← hn] at hlA hlB hpos y5 ⊢
  clear hn
  -- the first row
  obtain ⟨b0, off0, r0, k0, e0, hb0, hc0, hm0, hr0⟩ := HB3.out 0 (by rw [aboveF_len, ← Hn.out]; exact hpos)
  rw [aboveF_at, above_first (by rw [← Hn.out]; exact hpos)] at hc0 hm0 hr0
  subst e0
  have hpi : (0 : Int) < (n : Int) := by omega
  have nn : ((n : Int) != (n : Int)) = false := by simp
  have Hr0 := Lib.hid hr0
  clear hr0
  simp only [List.length_singleton, Nat.add_zero] at hc0 hm0
  go_wp2_with fail
  have hIn : IntsAt (w3.alloc (.cells #[.int .i64 0] 3)) (some ⟨w3.heap.size, 0, none⟩) [0] := by
    intro i hi
    obtain rfl : i = 0 := by simpa using hi
    exact ⟨_, _, rfl, by simp, by rw [World.cell?_alloc_new]; rfl⟩
  have hb4 : Below w3.heap.size w3 (w3.alloc (.cells #[.int .i64 0] 3)) := (Below.refl _ _).alloc (Nat.le_refl _) _
  refine (equal_eq r0 _ [0] k0 1 _ (by simp) (Hr0.out.below hb4) hIn).mono ?_
  rintro e w4 ⟨rfl, hdr⟩
  have hb5 : Below w3.heap.size w3 w4 := hb4.trans (hdr.below _)
  have HA4 := Lib.hid (HA3.out.below hb5)
  have HB4 := Lib.hid (HB3.out.below hb5)
  have Hb4 := Lib.hid (Hb3.out.trans (hb5.mono Hb3.out.size))
  have y5' : w4.cell? ⟨w1.heap.size, 5, none⟩ = some (.slice a5 n c5) := (hb5.cell (p := ⟨_, 5, none⟩) hsz3).trans y5
  clear hIn hb4 hdr hb5 HA3 HB3 Hb3 y5 hc0 hm0 Hr0 hb0 nn
  generalize hvB : (some ⟨b0, off0, none⟩ : Option Addr) = aB at *
  clear hvB
  go_wp2_with fail
  go_loop [6] (fun i => ∃ k : Nat, 1 ≤ k ∧ k ≤ n ∧ i = .int .i64 k) (fun i => n - (intOf i).toNat)
  case atStart => exact ⟨1, Nat.le_refl _, hpos, rfl⟩
  case round =>
    obtain ⟨i, hi1, hin, rfl⟩ := hrel
    by_cases hlt : i < n
    · have hlt' : (i : Int) < (n : Int) := by omega
      have hi0 : (0 : Int) ≤ (i : Int) := by omega
      have hwi : IntKind.i64.wrap ((i : Int) + 1) = (i : Int) + 1 := IntWalk.i64_in _ (by omega)
      obtain ⟨bB, oB, rB, kB, eB, hbB, hcB, hmB, hiB⟩ := HB4.out i (by rw [aboveF_len, ← Hn.out]; exact hlt)
      subst eB
      rw [aboveF_at] at hcB hmB
      have HiB := Lib.hid hiB
      clear hiB
      rw [aboveF_at] at HiB
      obtain ⟨row, hrow⟩ : ∃ row, row = aboveRow c c.blocks.length i := ⟨_, rfl⟩
      have Hrow := Lib.hid hrow
      rw [← hrow] at hcB hmB HiB
      clear hrow
      by_cases hz : row.length = 0
      · have hz' : ((row.length : Int) == 0) = true := by simp [hz]
        clear hz
        go_wp2_with fail
        go_round
        case rel => exact ⟨i + 1, by omega, by omega, by go_num⟩
        case measure => simp [intOf]; omega
      · have hz' : ((row.length : Int) == 0) = false := by rw [beq_eq_false_iff_ne]; omega
        have hne : aboveRow c c.blocks.length i ≠ [] := by rw [← Hrow.out]; intro h; rw [h] at hz; exact hz rfl
        have Hne := Lib.hid hne
        have q0 : (0 : Int) ∈ row := by rw [Hrow.out]; exact above_zero (above_reach hne)
        have qi : (i : Int) ∈ row := by rw [Hrow.out]; exact above_self (above_reach hne)
        have d0 : decide ((0 : Int) ∈ row) = true := decide_eq_true q0
        have di : decide ((i : Int) ∈ row) = true := decide_eq_true qi
        clear hz hne q0 qi
        go_wp2_with (first | (refine (contains_any 0 rB row kB w4 hmB HiB.out).mono ?_; rintro e wq ⟨rfl, rfl⟩; rw [d0]) | (refine (contains_any (i : Int) rB row kB w4 hmB HiB.out).mono ?_; rintro e wq ⟨rfl, rfl⟩; rw [di]))
        go_loop [72] (fun q => ∃ k : Nat, k ≤ n ∧ q = .int .i64 k) (fun q => n - (intOf q).toNat)
        case atStart => exact ⟨0, Nat.zero_le _, rfl⟩
        case round =>
          obtain ⟨k, hkn, rfl⟩ := hrel
          by_cases hlk : k < n
          · have hlk' : (k : Int) < (n : Int) := by omega
            have hk0 : (0 : Int) ≤ (k : Int) := by omega
            have hwk : IntKind.i64.wrap ((k : Int) + 1) = (k : Int) + 1 := IntWalk.i64_in _ (by omega)
            obtain ⟨bA, oA, rA, kA, eA, hbA, hcA, hmA, hiA⟩ := HA4.out i (by rw [aheadF_len, ← Hn.out]; exact hlt)
            subst eA
            rw [aheadF_at] at hcA hmA
            have HiA := Lib.hid hiA
            clear hiA
            rw [aheadF_at] at HiA
            obtain ⟨A, hA⟩ : ∃ A, A = aheadRow c c.blocks.length i := ⟨_, rfl⟩
            have HA := Lib.hid hA
            rw [← hA] at hcA hmA HiA
            clear hA
            go_wp2_with fail
            go_loop [80, 8] (fun q al => ∃ j : Nat, j ≤ A.length ∧ q = .int .i64 j ∧ al = .bool (allT (aboveF c) k (A.take j))) (fun q _ => A.length - (intOf q).toNat)
            case atStart => exact ⟨0, Nat.zero_le _, rfl, rfl⟩
            case round =>
              obtain ⟨j, hjn, rfl, rfl⟩ := hrel
              by_cases hlj : j < A.length
              · have hlj' : (j : Int) < (A.length : Int) := by omega
                have hj0 : (0 : Int) ≤ (j : Int) := by omega
                have hwj : IntKind.i64.wrap ((j : Int) + 1) = (j : Int) + 1 := IntWalk.i64_in _ (by omega)
                obtain ⟨bx, ox, ex, hbx, hcx⟩ := HiA.out j hlj
                subst ex
                obtain ⟨q, hq, hqn, _⟩ := (mem_ahead c i A[j]).1 (by rw [← HA.out]; exact List.getElem_mem hlj)
                have hnext := allT_take (aboveF c) k A j hlj
                rw [hq, Int.toNat_natCast, aboveF_getD c q hqn] at hnext
                rw [hq] at hcx
                clear hq
                obtain ⟨bq, oq, rq, kq, eq', hbq, hcq, hmq, hiq⟩ := HB4.out q (by rw [aboveF_len]; exact hqn)
                obtain ⟨rfl, rfl⟩ : bB = bq ∧ oB = oq := by simpa using eq'
                clear eq'
                rw [aboveF_at] at hcq hmq
                have HiQ := Lib.hid hiq
                clear hiq
                rw [aboveF_at] at HiQ
                obtain ⟨rowq, hrowq⟩ : ∃ rowq, rowq = aboveRow c c.blocks.length q := ⟨_, rfl⟩
                rw [← hrowq] at hcq hmq HiQ hnext
                clear hrowq
                have hq0 : (0 : Int) ≤ (q : Int) := by omega
                have hqn' : (q : Int) < (n : Int) := by rw [Hn.out]; omega
                clear hqn
                obtain ⟨bb, hbb⟩ : ∃ bb, bb = allT (aboveF c) k (A.take j) := ⟨_, rfl⟩
                rw [← hbb] at hnext ⊢
                clear hbb
                have Hnext := Lib.hid hnext
                clear hnext
                cases bb with
                | false =>
                  go_wp2_with fail
                  go_round
                  case rel => exact ⟨j + 1, by omega, by go_num, by rw [Hnext.out]; rfl⟩
                  case measure => simp [intOf]; omega
                | true =>
                  by_cases hz2 : rowq.length = 0
                  · have hz3 : ((rowq.length : Int) == 0) = true := by simp [hz2]
                    have Hn2 := Lib.hid (show allT (aboveF c) k (A.take (j + 1)) = true by rw [Hnext.out, hz3]; rfl)
                    clear hz2
                    go_wp2_with fail
                    go_round
                    case rel => exact ⟨j + 1, by omega, by go_num, by rw [Hn2.out]⟩
                    case measure => simp [intOf]; omega
                  · have hz3 : ((rowq.length : Int) == 0) = false := by rw [beq_eq_false_iff_ne]; omega
                    have Hn2 := Lib.hid (show allT (aboveF c) k (A.take (j + 1)) = decide ((k : Int) ∈ rowq) by rw [Hnext.out, hz3]; rfl)
                    clear hz2
                    go_wp2_with (refine (contains_any (k : Int) rq rowq kq w4 hmq HiQ.out).mono ?_; rintro e wq ⟨rfl, rfl⟩; rw [← Hn2.out])
                    go_round
                    case rel => exact ⟨j + 1, by omega, by go_num, rfl⟩
                    case measure => simp [intOf]; omega
              · have hnj : ¬ ((j : Int) < (A.length : Int)) := by omega
                have htk : A.take j = A := List.take_of_length_le (by omega)
                rw [htk]
                clear htk
                by_cases hki : k = i
                · subst hki
                  have hkk : ((k : Int) != (k : Int)) = false := by simp
                  generalize allT (aboveF c) k A = bb
                  go_wp2_with fail
                  go_round
                  case rel => exact ⟨k + 1, by omega, by go_num⟩
                  case measure => simp [intOf]; omega
                · have hkk : ((k : Int) != (i : Int)) = true := by rw [bne_iff_ne]; omega
                  have hall : allT (aboveF c) k A = decide ((k : Int) ∈ row) := by
                    rw [HA.out, Hrow.out]
                    exact all_above c i k hi1 (by rw [← Hn.out]; exact hlt) (by rw [← Hn.out]; exact hlk) hki Hne.out
                  rw [hall]
                  clear hall
                  obtain ⟨bb, hbb⟩ : ∃ bb, bb = decide ((k : Int) ∈ row) := ⟨_, rfl⟩
                  have Hbb := Lib.hid hbb
                  rw [← hbb]
                  clear hbb
                  cases bb with
                  | false =>
                    go_wp2_with (refine (contains_any (k : Int) rB row kB w4 hmB HiB.out).mono ?_; rintro e wq ⟨rfl, rfl⟩; rw [← Hbb.out])
                    go_round
                    case rel => exact ⟨k + 1, by omega, by go_num⟩
                    case measure => simp [intOf]; omega
                  | true =>
                    go_wp2_with (refine (contains_any (k : Int) rB row kB w4 hmB HiB.out).mono ?_; rintro e wq ⟨rfl, rfl⟩; rw [← Hbb.out])
                    go_round
                    case rel => exact ⟨k + 1, by omega, by go_num⟩
                    case measure => simp [intOf]; omega
          · have hnk : ¬ ((k : Int) < (n : Int)) := by omega
            go_wp2_with fail
            go_round
            case rel => exact ⟨i + 1, by omega, by omega, by go_num⟩
            case measure => simp [intOf]; omega
    · have hni : ¬ ((i : Int) < (n : Int)) := by omega
      go_wp2_with fail
      go_ret
      exact ⟨rfl, Hb4.out⟩
end Go.Proofs.Ythgmaapebplimaa

/-
  rt's long: its innermost closure (a loop over the tails), its closure, and itself, walked.
-/
import Derived.Test.YtaomlfbcfmmhlaaRtFnC
namespace Go.Proofs.Ytaomlfbcfmmhlaa
open Go.RowKit Go.Pst
set_option linter.unusedVariables false
set_option linter.unusedSimpArgs false

variable {B bm n k : Nat} {w0 w : World} {l : List (Nat × Nat × Value)} {c : PCode}

def baseF (sz : Nat) : Int := [0, 0, 192, 224, 240].getD sz 0
/-- The code, the block, the variable that holds the rune so far. -/
structure LSt where
  c : PCode
  k : Nat
  r : Int
def longStart (c : PCode) (k : Nat) (b : Int) (sz : Nat) : LSt := ⟨mathF (konstF c k (baseF sz)) k ⟨#[45]⟩ b c.vars, k, (konstF c k (baseF sz)).vars⟩
def longA (s : LSt) (i lo hi : Int) : PCode := konstF (tail_F s.c s.k i lo hi) (tail_K s.c s.k i lo hi) 64
def longB (s : LSt) (i lo hi : Int) : PCode := mathF (longA s i lo hi) (tail_K s.c s.k i lo hi) ⟨#[42]⟩ s.r (tail_F s.c s.k i lo hi).vars
def longStep (s : LSt) (i lo hi : Int) : LSt :=
  ⟨mathF (longB s i lo hi) (tail_K s.c s.k i lo hi) ⟨#[43]⟩ (longA s i lo hi).vars (tail_13 s.c s.k i lo hi).vars, tail_K s.c s.k i lo hi, (longB s i lo hi).vars⟩
def longLoop (s : LSt) (first last : Int) : Nat → LSt
  | 0 => s
  | j + 1 => longStep (longLoop s first last j) ((j : Int) + 1) (if j = 0 then first else 128) (if j = 0 then last else 191)
theorem longStart_len (c : PCode) (k : Nat) (b : Int) (sz : Nat) : (longStart c k b sz).c.blocks.length = c.blocks.length := by simp [longStart, mathF_len, konstF_len]
theorem longStep_len (s : LSt) (i lo hi : Int) : (longStep s i lo hi).c.blocks.length = s.c.blocks.length + 6 := by simp [longStep, longA, longB, mathF_len, konstF_len, tail_len]
theorem longLoop_len (s : LSt) (first last : Int) : ∀ j, (longLoop s first last j).c.blocks.length = s.c.blocks.length + 6 * j
  | 0 => rfl
  | j + 1 => by rw [longLoop, longStep_len, longLoop_len s first last j]; omega
def long11_F (c : PCode) (k : Nat) (sz : Nat) (b first last : Int) : PCode :=
  backF (konstF (longLoop (longStart c k b sz) first last (sz - 1)).c (longLoop (longStart c k b sz) first last (sz - 1)).k sz) (longLoop (longStart c k b sz) first last (sz - 1)).k [(longLoop (longStart c k b sz) first last (sz - 1)).r, (longLoop (longStart c k b sz) first last (sz - 1)).c.vars]
def long11_K (c : PCode) (k : Nat) (sz : Nat) (b first last : Int) : Nat := (longLoop (longStart c k b sz) first last (sz - 1)).k
theorem long11_len (c : PCode) (k : Nat) (sz : Nat) (b first last : Int) : (long11_F c k sz b first last).blocks.length = c.blocks.length + 6 * (sz - 1) := by simp [long11_F, backF_len, konstF_len, longLoop_len, longStart_len]

theorem enters_long11 : Enters Try.prog 73 := enters_of Try.func73 (by kernel_rfl) (by kernel_rfl)
set_option maxHeartbeats 8000000 in
theorem long11_any {b_s b_m b_b b_f b_l sz : Nat} {b first last : Int} (hsz : 2 ≤ sz ∧ sz ≤ 4) (h_b : InI b) (h_first : InI first) (h_last : InI last) (m_s : (b_s, 0, Value.int .i64 sz) ∈ l) (m_m : (b_m, 0, Value.pointer (some ⟨bm, 0, none⟩)) ∈ l) (m_b : (b_b, 0, Value.int .i64 b) ∈ l) (m_f : (b_f, 0, Value.int .i64 first) ∈ l) (m_l : (b_l, 0, Value.int .i64 last) ∈ l) (h : Env B w0 bm l (n + 407) c k w) :
    Calls Try.prog 73 #[.pointer (some ⟨b_s, 0, none⟩), .pointer (some ⟨b_m, 0, none⟩), .pointer (some ⟨b_b, 0, none⟩), .pointer (some ⟨b_f, 0, none⟩), .pointer (some ⟨b_l, 0, none⟩)] w fun e w' => e = .returned (.tuple #[]) ∧ Env B w0 bm l n (long11_F c k sz b first last) (long11_K c k sz b first last) w' := by
  have hbase : (w.alloc (.cells #[.int .i64 0, .int .i64 0, .int .i64 192, .int .i64 224, .int .i64 240] 3)).cell? ⟨w.heap.size, sz, none⟩ = some (.int .i64 (baseF sz)) := by
    rw [World.cell?_alloc_new]
    rcases (by omega : sz = 2 ∨ sz = 3 ∨ sz = 4) with rfl | rfl | rfl <;> rfl
  have hbi : InI (baseF sz) := by rcases (by omega : sz = 2 ∨ sz = 3 ∨ sz = 4) with rfl | rfl | rfl <;> exact ini rfl
  have hs5 : (sz : Int) < 5 := by omega
  have hs0 : (0 : Int) ≤ sz := by omega
  have hsi : InI (sz : Int) := ini_small hs0 (by omega)
  have q_s := h.cell m_s
  have l_s := h.lt m_s
  have hA := h.alloc (.cells #[.int .i64 0, .int .i64 0, .int .i64 192, .int .i64 224, .int .i64 240] 3)
  have HA := Lib.hid hA
  clear h hA
  go_enter Try.func73, Try.ntmps73
  go_wp2_with fail
  generalize w.alloc (.cells #[.int .i64 0, .int .i64 0, .int .i64 192, .int .i64 224, .int .i64 240] 3) = wA at *
  clear hbase q_s l_s
  have hz_64 : InI 64 := ini rfl
  have hz_128 : InI 128 := ini rfl
  have hz_191 : InI 191 := ini rfl
  have hS := keep2 m_m m_b HA.out.x
  go_region_held3 (fun w' => (w'.cell? ⟨b_m, 0, none⟩ = some (.pointer (some ⟨bm, 0, none⟩)) ∧ w'.cell? ⟨b_b, 0, none⟩ = some (.int .i64 b)) ∧ EnvX B w0 bm l w')
    (first | exact hS | exact keep2 m_m m_b HA.out.x.drew | exact keep2 m_m m_b (Env.x (by assumption)) | exact keep2 m_m m_b (EnvX.drew (And.right (by assumption))))
    (first | (go_at_call 35; (refine (konst_any (baseF sz) hbi HA.out.drew).mono ?_); rintro e w1 ⟨rfl, e1⟩) | (go_at_call 31; (refine (math_any ⟨#[45]⟩ b c.vars h_b (InI.vars HA.out) (by decide) e1).mono ?_); rintro e w2 ⟨rfl, e20⟩; have e2 : Env B w0 bm l (n + 403) (longStart c k b sz).c (longStart c k b sz).k w2 := e20; clear e20))
  have hri : InI (longStart c k b sz).r := InI.vars e1
  have H2 := Lib.hid e2
  clear e1 e2 hS
  go_wp2_with fail
  obtain ⟨s0, hs0'⟩ : ∃ s0, s0 = longStart c k b sz := ⟨_, rfl⟩
  have Hs0 := Lib.hid hs0'
  rw [← hs0'] at hri H2
  rw [show (konstF c k (baseF sz)).vars = s0.r by rw [hs0']; rfl]
  clear hs0'
  go_loopw [6, 7] (fun r i wr => ∃ j : Nat, j + 1 ≤ sz ∧ i = .int .i64 ((j : Int) + 1) ∧ r = .int .i64 (longLoop s0 first last j).r ∧ InI (longLoop s0 first last j).r ∧ Env B w0 bm l (n + 3 + (sz - 1 - j) * 100) (longLoop s0 first last j).c (longLoop s0 first last j).k wr) (fun _ i _ => sz - (intOf i).toNat)
  case atStart => exact ⟨0, by omega, rfl, rfl, hri, H2.out.weaken (by omega)⟩
  case round =>
    obtain ⟨j, hj, rfl, rfl, hrj, he⟩ := hrel
    have hwk : IntKind.i64.wrap ((j : Int) + 1 + 1) = (j : Int) + 1 + 1 := IntWalk.i64_in _ (by omega)
    have hwj : ((j + 1 : Nat) : Int) = (j : Int) + 1 := by simp
    have q_s := he.cell m_s
    by_cases hlt : j + 1 < sz
    · have hlt1 : (j : Int) + 1 < sz := by omega
      have hii : InI ((j : Int) + 1) := ini_small (by omega) (by omega)
      have he1 : Env B w0 bm l (n + 3 + (sz - 1 - (j + 1)) * 100 + 6 + 49) (longLoop s0 first last j).c (longLoop s0 first last j).k wr := he.weaken (by omega)
      obtain ⟨lo, hi, hlo, hhi, hstep, hways⟩ : ∃ lo hi, InI lo ∧ InI hi ∧ longLoop s0 first last (j + 1) = longStep (longLoop s0 first last j) ((j : Int) + 1) lo hi ∧ ((j = 0 ∧ lo = first ∧ hi = last) ∨ (j ≠ 0 ∧ lo = 128 ∧ hi = 191)) := by
        by_cases h0 : j = 0
        · exact ⟨first, last, h_first, h_last, by simp [longLoop, h0], Or.inl ⟨h0, rfl, rfl⟩⟩
        · exact ⟨128, 191, ini rfl, ini rfl, by simp [longLoop, h0], Or.inr ⟨h0, rfl, rfl⟩⟩
      have Hstep := Lib.hid hstep
      have Hwj := Lib.hid hwj
      clear hstep hwj he
      generalize hL : longLoop s0 first last j = L at *
      have HL := Lib.hid hL
      clear hL
      have HE := Lib.hid he1
      clear he1
      rcases hways with ⟨h0, rfl, rfl⟩ | ⟨h0, rfl, rfl⟩
      · have hone : ((j : Int) + 1 == 1) = true := by simp; omega
        have Hone := Lib.hid h0
        clear h0
        go_wp2_with fail
        have hF := keep2 m_f m_l HE.out.x
        go_region_held3 (fun w' => (w'.cell? ⟨b_f, 0, none⟩ = some (.int .i64 lo) ∧ w'.cell? ⟨b_l, 0, none⟩ = some (.int .i64 hi)) ∧ EnvX B w0 bm l w')
          (first | exact hF | exact keep2 m_f m_l HE.out.x.drew | exact keep2 m_f m_l (EnvX.drew (And.right (by assumption)))) (fail)
        have HD := Lib.hid HE.out.drew
        have q_m := HD.out.cell m_m
        clear hF q_s
        go_wp2_with fail
        refine (tail_any hii hlo hhi HD.out).mono ?_
        rintro e w3 ⟨rfl, hrt, e3⟩
        have H3 := Lib.hid e3
        clear e3 q_m
        go_wp2_with fail
        have hG := keep1 m_m H3.out.x
        go_region_held3 (fun w' => (w'.cell? ⟨b_m, 0, none⟩ = some (.pointer (some ⟨bm, 0, none⟩))) ∧ EnvX B w0 bm l w') (first | exact hG | exact keep1 m_m H3.out.x.drew | exact keep1 m_m (Env.x (by assumption)) | exact keep1 m_m (EnvX.drew (And.right (by assumption)))) (first | (go_at_call 35; (refine (konst_any 64 hz_64 H3.out.drew).mono ?_); rintro e w4 ⟨rfl, e40⟩; have e4 : Env B w0 bm l (n + 3 + (sz - 1 - (j + 1)) * 100 + 4) (longA L ((j : Int) + 1) lo hi) (tail_K L.c L.k ((j : Int) + 1) lo hi) w4 := e40; clear e40) | (go_at_call 31; (with_reducible refine (math_any ⟨#[42]⟩ L.r _ hrj (InI.vars H3.out) (by decide) e4).mono ?_); rintro e w5 ⟨rfl, e50⟩; have e5 : Env B w0 bm l (n + 3 + (sz - 1 - (j + 1)) * 100 + 2) (longB L ((j : Int) + 1) lo hi) (tail_K L.c L.k ((j : Int) + 1) lo hi) w5 := e50; clear e50) | (go_at_call 31; (with_reducible refine (math_any ⟨#[43]⟩ _ _ (InI.vars e4) hrt (by decide) e5).mono ?_); rintro e w6 ⟨rfl, e60⟩; have e6 : Env B w0 bm l (n + 3 + (sz - 1 - (j + 1)) * 100) (longStep L ((j : Int) + 1) lo hi).c (longStep L ((j : Int) + 1) lo hi).k w6 := e60; clear e60))
        all_goals
          have hr6 : InI (longStep L ((j : Int) + 1) lo hi).r := InI.vars e5
          have H6 := Lib.hid e6
          clear hG e6
          go_wp2_with fail
          go_roundw
          case rel => exact ⟨j + 1, by omega, by rw [Hwj.out], by rw [Hstep.out]; rfl, by rw [Hstep.out]; exact hr6, by rw [Hstep.out]; exact H6.out⟩
          case measure => simp only [intOf]; omega
      · have hone : ((j : Int) + 1 == 1) = false := by simp; omega
        have Hone := Lib.hid h0
        have HD := HE
        have q_m := HD.out.cell m_m
        clear h0
        go_wp2_with fail
        refine (tail_any hii hlo hhi HD.out).mono ?_
        rintro e w3 ⟨rfl, hrt, e3⟩
        have H3 := Lib.hid e3
        clear e3 q_m
        go_wp2_with fail
        have hG := keep1 m_m H3.out.x
        go_region_held3 (fun w' => (w'.cell? ⟨b_m, 0, none⟩ = some (.pointer (some ⟨bm, 0, none⟩))) ∧ EnvX B w0 bm l w') (first | exact hG | exact keep1 m_m H3.out.x.drew | exact keep1 m_m (Env.x (by assumption)) | exact keep1 m_m (EnvX.drew (And.right (by assumption)))) (first | (go_at_call 35; (refine (konst_any 64 hz_64 H3.out.drew).mono ?_); rintro e w4 ⟨rfl, e40⟩; have e4 : Env B w0 bm l (n + 3 + (sz - 1 - (j + 1)) * 100 + 4) (longA L ((j : Int) + 1) 128 191) (tail_K L.c L.k ((j : Int) + 1) 128 191) w4 := e40; clear e40) | (go_at_call 31; (with_reducible refine (math_any ⟨#[42]⟩ L.r _ hrj (InI.vars H3.out) (by decide) e4).mono ?_); rintro e w5 ⟨rfl, e50⟩; have e5 : Env B w0 bm l (n + 3 + (sz - 1 - (j + 1)) * 100 + 2) (longB L ((j : Int) + 1) 128 191) (tail_K L.c L.k ((j : Int) + 1) 128 191) w5 := e50; clear e50) | (go_at_call 31; (with_reducible refine (math_any ⟨#[43]⟩ _ _ (InI.vars e4) hrt (by decide) e5).mono ?_); rintro e w6 ⟨rfl, e60⟩; have e6 : Env B w0 bm l (n + 3 + (sz - 1 - (j + 1)) * 100) (longStep L ((j : Int) + 1) 128 191).c (longStep L ((j : Int) + 1) 128 191).k w6 := e60; clear e60))
        all_goals
          have hr6 : InI (longStep L ((j : Int) + 1) 128 191).r := InI.vars e5
          have H6 := Lib.hid e6
          clear hG e6
          go_wp2_with fail
          go_roundw
          case rel => exact ⟨j + 1, by omega, by rw [Hwj.out], by rw [Hstep.out]; rfl, by rw [Hstep.out]; exact hr6, by rw [Hstep.out]; exact H6.out⟩
          case measure => simp only [intOf]; omega
    · have hje : j + 1 = sz := by omega
      have hlt1 : ¬ ((j : Int) + 1 < sz) := by omega
      have hend := he.weaken (m := n + 3) (by omega)
      have e1 : sz - 1 = j := by omega
      have HE := Lib.hid hend
      have HJ := Lib.hid e1
      clear hend he e1 hje
      go_wp2_with fail
      have hG := keep2 m_s m_m HE.out.x
      go_region_held3 (fun w' => (w'.cell? ⟨b_s, 0, none⟩ = some (.int .i64 sz) ∧ w'.cell? ⟨b_m, 0, none⟩ = some (.pointer (some ⟨bm, 0, none⟩))) ∧ EnvX B w0 bm l w') (first | exact hG | exact keep2 m_s m_m HE.out.x.drew | exact keep2 m_s m_m (Env.x (by assumption)) | exact keep2 m_s m_m (EnvX.drew (And.right (by assumption))) | exact keep2 m_s m_m (EnvX.alloc (Env.x (by assumption)) _) | exact keep2 m_s m_m (EnvX.alloc (And.right (by assumption)) _)) (first | (go_at_call 35; (refine (konst_any (sz : Int) hsi HE.out.drew).mono ?_); rintro e w4 ⟨rfl, e4⟩) | (go_at_call 34; (refine (back_any e4 ((Below.refl _ _).alloc (Nat.le_refl _) _) (rInts_all [(longLoop s0 first last j).r, (longLoop s0 first last j).c.vars] (Nat.le_refl _) (lens rfl) (ini2 hrj (InI.vars HE.out)) (new_one _ _))).mono ?_); rintro e w5 ⟨rfl, e5⟩))
      all_goals
        have H5 := Lib.hid e5
        clear hG e5
        go_wp2_with fail
        refine bodyPost_end (results_none (by kernel_rfl) _ _ _) rfl ⟨rfl, ?_⟩
        have hF : long11_F c k sz b first last = backF (konstF (longLoop s0 first last j).c (longLoop s0 first last j).k sz) (longLoop s0 first last j).k [(longLoop s0 first last j).r, (longLoop s0 first last j).c.vars] := by
          unfold long11_F
          rw [HJ.out, Hs0.out]
        have hK : long11_K c k sz b first last = (longLoop s0 first last j).k := by
          unfold long11_K
          rw [HJ.out, Hs0.out]
        rw [hF, hK]
        exact H5.out
end Go.Proofs.Ytaomlfbcfmmhlaa

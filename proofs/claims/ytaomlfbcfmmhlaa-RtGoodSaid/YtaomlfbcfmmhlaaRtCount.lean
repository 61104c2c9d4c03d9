/-
  rt's maker: count, walked: of whatever closure (printed by wip/gen_rtcount.py).
-/
import Derived.Test.YtaomlfbcfmmhlaaRtWhen
namespace Go.Proofs.Ytaomlfbcfmmhlaa
open Go.RowKit Go.Pst
set_option linter.unusedVariables false
set_option linter.unusedSimpArgs false

variable {B bm n k : Nat} {w0 w : World} {l : List (Nat × Nat × Value)} {c : PCode}
def count1 (c : PCode) (k : Nat) (fr : Int) : PCode := setF (freshF c) k c.vars fr
def count2 (c : PCode) (k : Nat) (fr : Int) : PCode := jumpF (blockF' (blockF' (blockF' (count1 c k fr)))) k c.blocks.length
def count3 (c : PCode) (k : Nat) (fr tt : Int) : PCode := mathF (count2 c k fr) c.blocks.length ⟨#[60]⟩ c.vars tt
def countIn (c : PCode) (k : Nat) (fr tt : Int) : PCode := chooseF (count3 c k fr tt) c.blocks.length (count2 c k fr).vars (c.blocks.length + 1) (c.blocks.length + 2)
def count5 (c : PCode) (k : Nat) (d : Int) : PCode := mathF (konstF c k 1) k ⟨#[43]⟩ d c.vars
def countOut (c : PCode) (k : Nat) (d h : Int) : PCode := jumpF (setF (count5 c k d) k d (konstF c k 1).vars) k h

set_option maxHeartbeats 4000000 in
theorem count_any {g m : Nat} {lb : Array Value} {fr tt : Int} {c3 : PCode} {k3 : Nat} (hfr : InI fr) (htt : InI tt) (hg : Enters Try.prog g) (h : Env B w0 bm l (m + 9) c k w)
    (hdo : ∀ w1, Env B w0 bm l m (countIn c k fr tt) (c.blocks.length + 1) w1 → Calls Try.prog g (#[.int .i64 c.vars] ++ lb) w1 fun e w' => e = .returned (.tuple #[]) ∧ Env B w0 bm l (n + 6) c3 k3 w') (hlen : c.blocks.length + 2 < c3.blocks.length) :
    Calls Try.prog 38 #[.pointer (some ⟨bm, 0, none⟩), .int .i64 fr, .int .i64 tt, .func (.func g) #[] lb] w fun e w' => e = .returned (.tuple #[]) ∧ Env B w0 bm l n (countOut c3 k3 c.vars c.blocks.length) (c.blocks.length + 2) w' := by
  have hnb : (c.blocks.length : Int) + 2 ≤ 1000000 := by have := h.fine.nb; omega
  have hnb0 : (0 : Int) ≤ c.blocks.length := by omega
  have hv0 := h.fine.vars.1
  have hv1 : c.vars ≤ 1000000 := by have := h.fine.vars.2; omega
  have hvi : InI c.vars := ini_small hv0 hv1
  have hent := fun args w => hg args w
  have H := Lib.hid h
  have Hdo := Lib.hid hdo
  clear h hdo hg
  go_enter Try.func38, Try.ntmps38
  go_wp2_with fail
  refine (fresh_any H.out).mono ?_
  rintro e w1 ⟨rfl, h1⟩
  have H1 := Lib.hid h1
  clear h1
  go_wp2_with fail
  refine (set_any c.vars fr hvi hfr H1.out).mono ?_
  rintro e w2 ⟨rfl, h2⟩
  have H2 := Lib.hid h2
  clear h2
  go_wp2_with fail
  refine (block_any H2.out).mono ?_
  rintro e w3 ⟨rfl, h3⟩
  rw [show ((setF (freshF c) k c.vars fr).blocks.length : Int) = c.blocks.length by simp [setF_len, freshF_len]]
  have H3 := Lib.hid h3
  clear h3
  go_wp2_with fail
  refine (block_any H3.out).mono ?_
  rintro e w4 ⟨rfl, h4⟩
  rw [show ((blockF' (setF (freshF c) k c.vars fr)).blocks.length : Int) = c.blocks.length + 1 by simp [setF_len, freshF_len, blockF'_len]; try omega]
  have H4 := Lib.hid h4
  clear h4
  go_wp2_with fail
  refine (block_any H4.out).mono ?_
  rintro e w5 ⟨rfl, h5⟩
  rw [show ((blockF' (blockF' (setF (freshF c) k c.vars fr))).blocks.length : Int) = c.blocks.length + 2 by simp [setF_len, freshF_len, blockF'_len]; try omega]
  have H5 := Lib.hid h5
  clear h5
  go_wp2_with fail
  refine (jump_any c.blocks.length (ini_small hnb0 (by omega)) H5.out).mono ?_
  rintro e w6 ⟨rfl, h6⟩
  obtain ⟨q6, z6⟩ := env_box6 h6
  have h6' : Env B w0 bm l (m + 3) (count2 c k fr) k w6 := h6
  have g6 := env_goto h6' (k' := c.blocks.length) (by (simp [jumpF_len, setF_len, chooseF_len, mathF_len, konstF_len, blockF'_len, freshF_len, count1, count2, count3, countIn, count5, countOut]; try omega))
  have H6 := Lib.hid g6
  clear h6 h6' g6
  go_wp2_with fail
  clear q6 z6
  refine (math_any ⟨#[60]⟩ c.vars tt hvi htt (by decide) H6.out).mono ?_
  rintro e w7 ⟨rfl, h7⟩
  have h7' : Env B w0 bm l (m + 1) (count3 c k fr tt) c.blocks.length w7 := h7
  have hv7 : InI (count2 c k fr).vars := ini_small H6.out.fine.vars.1 (by have := H6.out.fine.vars.2; omega)
  have H7 := Lib.hid h7'
  clear h7 h7'
  go_wp2_with fail
  refine (choose_any (count2 c k fr).vars (c.blocks.length + 1) (c.blocks.length + 2) hv7 (ini_small (by omega) (by omega)) (ini_small (by omega) hnb) H7.out).mono ?_
  rintro e w8 ⟨rfl, h8⟩
  obtain ⟨q8, z8⟩ := env_box6 h8
  have h8' : Env B w0 bm l m (countIn c k fr tt) c.blocks.length w8 := h8
  have g8 := env_goto h8' (k' := c.blocks.length + 1) (by (simp [jumpF_len, setF_len, chooseF_len, mathF_len, konstF_len, blockF'_len, freshF_len, count1, count2, count3, countIn, count5, countOut]; try omega))
  have hgo : ((c.blocks.length + 1 : Nat) : Int) = (c.blocks.length : Int) + 1 := by simp
  rw [hgo] at g8
  have H8 := Lib.hid g8
  clear h8 h8' g8 hgo
  go_wp2_with fail
  clear q8 z8
  refine (Hdo.out _ H8.out).mono ?_
  rintro e w9 ⟨rfl, h9⟩
  have H9 := Lib.hid h9
  clear h9
  have hc3 : InI c3.vars := ini_small H9.out.fine.vars.1 (by have := H9.out.fine.vars.2; omega)
  go_wp2_with fail
  refine (konst_any 1 (ini rfl) H9.out).mono ?_
  rintro e w10 ⟨rfl, h10⟩
  have h10' : Env B w0 bm l (n + 4) (konstF c3 k3 1) k3 w10 := h10
  have H10 := Lib.hid h10'
  clear h10 h10'
  go_wp2_with fail
  refine (math_any ⟨#[43]⟩ c.vars c3.vars hvi hc3 (by decide) H10.out).mono ?_
  rintro e w11 ⟨rfl, h11⟩
  have hv11 : InI (konstF c3 k3 1).vars := ini_small H10.out.fine.vars.1 (by have := H10.out.fine.vars.2; omega)
  have h11' : Env B w0 bm l (n + 2) (count5 c3 k3 c.vars) k3 w11 := h11
  have H11 := Lib.hid h11'
  clear h11 h11'
  go_wp2_with fail
  refine (set_any c.vars (konstF c3 k3 1).vars hvi hv11 H11.out).mono ?_
  rintro e w12 ⟨rfl, h12⟩
  have H12 := Lib.hid h12
  clear h12
  go_wp2_with fail
  refine (jump_any c.blocks.length (ini_small hnb0 (by omega)) H12.out).mono ?_
  rintro e w13 ⟨rfl, h13⟩
  obtain ⟨q13, z13⟩ := env_box6 h13
  have h13' : Env B w0 bm l n (countOut c3 k3 c.vars c.blocks.length) k3 w13 := h13
  have g13 := env_goto h13' (k' := c.blocks.length + 2) (by simp only [jumpF_len, setF_len, chooseF_len, mathF_len, konstF_len, blockF'_len, freshF_len, count1, count2, count3, countIn, count5, countOut]; exact hlen)
  have hgo : ((c.blocks.length + 2 : Nat) : Int) = (c.blocks.length : Int) + 2 := by simp
  rw [hgo] at g13
  have H13 := Lib.hid g13
  clear h13 h13' g13 hgo
  go_wp2_with fail
  exact bodyPost_end (results_none (by kernel_rfl) _ _ _) rfl ⟨rfl, H13.out⟩
end Go.Proofs.Ytaomlfbcfmmhlaa

/-
  rt's same, walked (printed by wip/gen_rtfn.py).
-/
import Derived.Test.YtaomlfbcfmmhlaaRtFnC
import Derived.Test.YtaomlfbcfmmhlaaRtEnd
namespace Go.Proofs.Ytaomlfbcfmmhlaa
open Go.RowKit Go.Pst
set_option linter.unusedVariables false
set_option linter.unusedSimpArgs false

def same_1 (c : PCode) : PCode := konstF c 0 0
def same_2 (c : PCode) : PCode := mathF (same_1 c) 0 ⟨#[33, 61]⟩ 1 3
def same_3 (c : PCode) : PCode := whenOut (same1_F (whenIn (same_2 c) 0 (same_1 c).vars) (same_2 c).blocks.length c.vars) (same1_K (whenIn (same_2 c) 0 (same_1 c).vars) (same_2 c).blocks.length c.vars) (((same_2 c).blocks.length : Int) + 1)
def same_4 (c : PCode) : PCode := countOut (same2_F (countIn (same_3 c) ((same_2 c).blocks.length + 1) c.vars 1) ((same_3 c).blocks.length + 1) (same_3 c).vars c.vars) (same2_K (countIn (same_3 c) ((same_2 c).blocks.length + 1) c.vars 1) ((same_3 c).blocks.length + 1) (same_3 c).vars c.vars) (same_3 c).vars (same_3 c).blocks.length
def same_5 (c : PCode) : PCode := konstF (same_4 c) ((same_3 c).blocks.length + 2) 1
def same_6 (c : PCode) : PCode := backF (same_5 c) ((same_3 c).blocks.length + 2) [(same_4 c).vars]
def same_C : PCode := same_6 (startF ⟨#[95, 115, 97, 109, 101]⟩ 4 1)
set_option maxHeartbeats 16000000 in
theorem rt_same_any (w : World) : Calls Try.prog 16 #[] w (CodePost w same_C) := by
  have hz_0 : InI 0 := ini rfl
  have hz_1 : InI 1 := ini rfl
  have hz_3 : InI 3 := ini rfl
  go_enter Try.func16, Try.ntmps16
  go_wp2_with fail
  refine (start_any ⟨#[95, 115, 97, 109, 101]⟩ 4 1 (by decide) (by decide) (by decide) _).mono ?_
  rintro e w0 ⟨bm, rfl, e00⟩
  have e0 : Env (w.heap.size + 1) (w.alloc (.cells zeroCode 31)) bm [] 900000 (startF ⟨#[95, 115, 97, 109, 101]⟩ 4 1) 0 w0 := by
    rw [World.size_alloc] at e00; exact e00
  clear e00
  obtain ⟨n, hn⟩ : ∃ n, 900000 = n + 42 := ⟨900000 - 42, by decide⟩
  obtain ⟨c, hc⟩ : ∃ c, c = startF ⟨#[95, 115, 97, 109, 101]⟩ 4 1 := ⟨_, rfl⟩
  rw [← hc, hn] at e0
  have HC := Lib.hid hc
  clear hn hc
  obtain ⟨W0, hW0⟩ : ∃ W, W = w.alloc (.cells zeroCode 31) := ⟨_, rfl⟩
  rw [← hW0] at e0
  have HW0 := Lib.hid hW0
  clear hW0
  have b0 := e0.box (.pointer (some ⟨bm, 0, none⟩)) 54
  obtain ⟨l1, hl1⟩ : ∃ l, l = (w0.heap.size, 0, Value.pointer (some ⟨bm, 0, none⟩)) :: [] := ⟨_, rfl⟩
  rw [← hl1] at b0
  obtain ⟨V0, hV0⟩ : ∃ W, W = w0.alloc (.cells #[.pointer (some ⟨bm, 0, none⟩)] 54) := ⟨_, rfl⟩
  rw [← hV0] at b0
  have m_m : (w0.heap.size, 0, Value.pointer (some ⟨bm, 0, none⟩)) ∈ l1 := by rw [hl1]; exact List.mem_cons_self
  have HV0 := Lib.hid hV0
  have H0 := Lib.hid b0
  clear hV0 hl1 b0
  clear e0
  have q_m := H0.out.cell m_m
  rw [HV0.out] at q_m
  go_wp2_with fail
  rw [← HV0.out]
  try rw [show w0.heap.size + 1 = V0.heap.size from by rw [HV0.out, World.size_alloc]]
  clear q_m
  refine (konst_any 0 hz_0 H0.out).mono ?_
  rintro e w1 ⟨rfl, e10⟩
  have e1 : Env (w.heap.size + 1) W0 bm l1 (n + 40) (same_1 c) 0 w1 := e10
  have hr1 := InI.vars H0.out
  have b1 := e1.box (.int .i64 c.vars) 3
  obtain ⟨l2, hl2⟩ : ∃ l, l = (w1.heap.size, 0, Value.int .i64 c.vars) :: l1 := ⟨_, rfl⟩
  rw [← hl2] at b1
  obtain ⟨V1, hV1⟩ : ∃ W, W = w1.alloc (.cells #[.int .i64 c.vars] 3) := ⟨_, rfl⟩
  rw [← hV1] at b1
  have m_m := (show _ ∈ l2 from hl2 ▸ List.mem_cons_of_mem _ m_m)
  have m_no : (w1.heap.size, 0, Value.int .i64 c.vars) ∈ l2 := by rw [hl2]; exact List.mem_cons_self
  have HV1 := Lib.hid hV1
  have H1 := Lib.hid b1
  clear hV1 hl2 b1
  clear e1 e10
  have hS := keep2 m_m m_no H1.out.x
  rw [HV1.out] at hS
  go_wp2_with fail
  rw [← HV1.out] at hS ⊢
  go_region_held3 (fun w' => (w'.cell? ⟨w0.heap.size, 0, none⟩ = some (.pointer (some ⟨bm, 0, none⟩)) ∧ w'.cell? ⟨w1.heap.size, 0, none⟩ = some (.int .i64 c.vars)) ∧ EnvX (w.heap.size + 1) W0 bm l2 w')
    (first | exact hS | exact keep2 m_m m_no H1.out.x.drew | exact keep2 m_m m_no (Env.x (by assumption)) | exact keep2 m_m m_no (EnvX.drew (And.right (by assumption))) | exact keep2 m_m m_no (EnvX.alloc (Env.x (by assumption)) _) | exact keep2 m_m m_no (EnvX.alloc (And.right (by assumption)) _))
    (first | (go_at_call 31; (refine (math_any ⟨#[33, 61]⟩ 1 3 hz_1 hz_3 (by decide) H1.out.drew).mono ?_); rintro e w2 ⟨rfl, e20⟩; have e2 : Env (w.heap.size + 1) W0 bm l2 (n + 38) (same_2 c) 0 w2 := e20; clear e20) | (go_at_call 36; (refine (when_any (ba := #[]) (m := n + 35) (n := n + 33) (c3 := same1_F (whenIn (same_2 c) 0 (same_1 c).vars) (same_2 c).blocks.length c.vars) (k3 := same1_K (whenIn (same_2 c) 0 (same_1 c).vars) (same_2 c).blocks.length c.vars) (InI.vars H1.out) enters_same1 e2 (fun w2 e2 => by exact same1_any hr1 m_m m_no e2) (by rw [same1_len, whenIn_len]; omega)).mono ?_); rintro e w3 ⟨rfl, e30⟩; have e3 : Env (w.heap.size + 1) W0 bm l2 (n + 33) (same_3 c) ((same_2 c).blocks.length + 1) w3 := e30; clear e30))
  all_goals
    have hr2 := InI.vars H1.out
    have H3 := Lib.hid e3
    clear hS
    have q_m := H3.out.cell m_m
    have q_no := H3.out.cell m_no
    go_wp2_with fail
    clear q_m q_no
    refine (count_any (m := n + 24) (n := n + 3) (c3 := same2_F (countIn (same_3 c) ((same_2 c).blocks.length + 1) c.vars 1) ((same_3 c).blocks.length + 1) (same_3 c).vars c.vars) (k3 := same2_K (countIn (same_3 c) ((same_2 c).blocks.length + 1) c.vars 1) ((same_3 c).blocks.length + 1) (same_3 c).vars c.vars) hr1 hz_1 enters_same2 H3.out (fun w2 e2 => by exact same2_any (InI.vars H3.out) hr1 m_m m_no e2) (by rw [same2_len, countIn_len]; omega)).mono ?_
    rintro e w4 ⟨rfl, e40⟩
    have e4 : Env (w.heap.size + 1) W0 bm l2 (n + 3) (same_4 c) ((same_3 c).blocks.length + 2) w4 := e40
    have H4 := Lib.hid e4
    clear e4 e40
    have hS := keep2 m_m m_no H4.out.x
    go_wp2_with fail
    go_region_held3 (fun w' => (w'.cell? ⟨w0.heap.size, 0, none⟩ = some (.pointer (some ⟨bm, 0, none⟩)) ∧ w'.cell? ⟨w1.heap.size, 0, none⟩ = some (.int .i64 c.vars)) ∧ EnvX (w.heap.size + 1) W0 bm l2 w')
      (first | exact hS | exact keep2 m_m m_no H4.out.x.drew | exact keep2 m_m m_no (Env.x (by assumption)) | exact keep2 m_m m_no (EnvX.drew (And.right (by assumption))) | exact keep2 m_m m_no (EnvX.alloc (Env.x (by assumption)) _) | exact keep2 m_m m_no (EnvX.alloc (And.right (by assumption)) _))
      (first | (go_at_call 35; (refine (konst_any 1 hz_1 H4.out.drew).mono ?_); rintro e w5 ⟨rfl, e50⟩; have e5 : Env (w.heap.size + 1) W0 bm l2 (n + 1) (same_5 c) ((same_3 c).blocks.length + 2) w5 := e50; clear e50) | (go_at_call 34; (refine (back_any e5 ((Below.refl _ _).alloc (Nat.le_refl _) _) (rInts_all [(same_4 c).vars] (Nat.le_refl _) (lens rfl) (ini1 (InI.vars H4.out)) (new_one _ _))).mono ?_); rintro e w6 ⟨rfl, e60⟩; have e6 : Env (w.heap.size + 1) W0 bm l2 (n + 0) (same_6 c) ((same_3 c).blocks.length + 2) w6 := e60; clear e60))
    all_goals
      have hr5 := InI.vars H4.out
      have H6 := Lib.hid e6
      clear hS
      obtain ⟨hz1, hz2, gB, cB, ⟨d0, d1, d2, d3, d4, d5⟩, hrd⟩ := env_end H6.out
      obtain ⟨zc, zf⟩ := zero_cells w (HW0.out ▸ H6.out)
      have q_m := H6.out.cell m_m
      have z0 : w6.cell? ⟨w.heap.size, 0, none⟩ = some (.string ⟨#[]⟩) := zc 0
      have z1 : w6.cell? ⟨w.heap.size, 1, none⟩ = some (.int .i64 0) := zc 1
      have z2 : w6.cell? ⟨w.heap.size, 2, none⟩ = some (.int .i64 0) := zc 2
      have z3 : w6.cell? ⟨w.heap.size, 3, none⟩ = some (.int .i64 0) := zc 3
      have z4 : w6.cell? ⟨w.heap.size, 4, none⟩ = some (.int .i64 0) := zc 4
      have z5 : w6.cell? ⟨w.heap.size, 5, none⟩ = some (.slice none 0 0) := zc 5
      have y0 := zf 0
      have y1 := zf 1
      have y2 := zf 2
      have y3 := zf 3
      have y4 := zf 4
      have y5 := zf 5
      have hrd2 := Lib.hid hrd
      clear zc zf hrd
      go_wp2_with fail
      obtain ⟨V, hV, v0, v1, v2, v3, v4, v5, hs⟩ := box_six (.string (same_6 c).name) (.int .i64 (same_6 c).params) (.int .i64 (same_6 c).results) (.int .i64 (same_6 c).vars) (.int .i64 (same_6 c).slots) (.slice (some ⟨gB, 0, none⟩) (same_6 c).blocks.length cB) z0 z1 z2 z3 z4 z5
      rw [← hV]
      refine bodyPost_ret (v := .agg #[.string (same_6 c).name, .int .i64 (same_6 c).params, .int .i64 (same_6 c).results, .int .i64 (same_6 c).vars, .int .i64 (same_6 c).slots, .slice (some ⟨gB, 0, none⟩) (same_6 c).blocks.length cB]) (by simp [results, Try.results16, go_sem, v0, v1, v2, v3, v4, v5]) rfl ?_
      unfold same_C
      rw [← HC.out]
      exact code_post w (HW0.out ▸ H6.out) hs hrd2.out
end Go.Proofs.Ytaomlfbcfmmhlaa

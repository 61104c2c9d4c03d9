/-
  rt's get, drop, walked (printed by wip/gen_rtfn.py).
-/
import Derived.Test.YtaomlfbcfmmhlaaRtFnC
import Derived.Test.YtaomlfbcfmmhlaaRtInvoke
namespace Go.Proofs.Ytaomlfbcfmmhlaa
open Go.RowKit Go.Pst
set_option linter.unusedVariables false
set_option linter.unusedSimpArgs false

def get_1 (c : PCode) : PCode := invokeF c 0 ⟨#[95, 102, 105, 110, 100]⟩ [0, 1]
def get_2 (c : PCode) : PCode := konstF (get_1 c) 0 0
def get_3 (c : PCode) : PCode := mathF (get_2 c) 0 ⟨#[60]⟩ c.vars (get_1 c).vars
def get_4 (c : PCode) : PCode := whenOut (get1_F (whenIn (get_3 c) 0 (get_2 c).vars) (get_3 c).blocks.length (get_1 c).vars) (get1_K (whenIn (get_3 c) 0 (get_2 c).vars) (get_3 c).blocks.length (get_1 c).vars) (((get_3 c).blocks.length : Int) + 1)
def get_5 (c : PCode) : PCode := loadF (get_4 c) ((get_3 c).blocks.length + 1) c.vars 1
def get_6 (c : PCode) : PCode := backF (get_5 c) ((get_3 c).blocks.length + 1) [(get_4 c).vars]
def get_C : PCode := get_6 (startF ⟨#[95, 103, 101, 116]⟩ 2 1)
set_option maxHeartbeats 16000000 in
theorem rt_get_any (w : World) : Calls Try.prog 21 #[] w (CodePost w get_C) := by
  have hz_0 : InI 0 := ini rfl
  have hz_1 : InI 1 := ini rfl
  go_enter Try.func21, Try.ntmps21
  go_wp2_with fail
  refine (start_any ⟨#[95, 103, 101, 116]⟩ 2 1 (by decide) (by decide) (by decide) _).mono ?_
  rintro e w0 ⟨bm, rfl, e00⟩
  have e0 : Env (w.heap.size + 1) (w.alloc (.cells zeroCode 31)) bm [] 900000 (startF ⟨#[95, 103, 101, 116]⟩ 2 1) 0 w0 := by
    rw [World.size_alloc] at e00; exact e00
  clear e00
  obtain ⟨n, hn⟩ : ∃ n, 900000 = n + 14 := ⟨900000 - 14, by decide⟩
  obtain ⟨c, hc⟩ : ∃ c, c = startF ⟨#[95, 103, 101, 116]⟩ 2 1 := ⟨_, rfl⟩
  rw [← hc, hn] at e0
  have HC := Lib.hid hc
  clear hn hc
  obtain ⟨W0, hW0⟩ : ∃ W, W = w.alloc (.cells zeroCode 31) := ⟨_, rfl⟩
  rw [← hW0] at e0
  have HW0 := Lib.hid hW0
  clear hW0
  have b0 := e0.box (.pointer (some ⟨bm, 0, none⟩)) 54
  obtain ⟨l1, hl1⟩ : ∃ l, l = (w0.heap.size, 0, Value.pointer (some ⟨bm, 0, none⟩)) :: [] := ⟨_, rfl⟩
  rw [← hl1] at b0
  obtain ⟨V0, hV0⟩ : ∃ W, W = w0.alloc (.cells #[.pointer (some ⟨bm, 0, none⟩)] 54) := ⟨_, rfl⟩
  rw [← hV0] at b0
  have m_m : (w0.heap.size, 0, Value.pointer (some ⟨bm, 0, none⟩)) ∈ l1 := by rw [hl1]; exact List.mem_cons_self
  have HV0 := Lib.hid hV0
  have H0 := Lib.hid b0
  clear hV0 hl1 b0
  clear e0
  have q_m := H0.out.cell m_m
  rw [HV0.out] at q_m
  go_wp2_with fail
  rw [← HV0.out]
  try rw [show w0.heap.size + 1 = V0.heap.size from by rw [HV0.out, World.size_alloc]]
  clear q_m
  refine (invoke_any (by decide) H0.out ((Below.refl _ _).alloc (Nat.le_refl _) _) (rInts_all [0, 1] (Nat.le_refl _) (lens rfl) (ini2 hz_0 hz_1) (new_one _ _))).mono ?_
  rintro e w1 ⟨ga1, gp1, rfl, gc1, e10⟩
  have e1 : Env (w.heap.size + 1) W0 bm l1 (n + 12) (get_1 c) 0 w1 := e10
  have hr1 := InI.vars H0.out
  have H1 := Lib.hid e1
  clear e1 e10
  have q_m := H1.out.cell m_m
  go_wp2_with fail
  clear q_m
  clear gc1
  refine (konst_any 0 hz_0 H1.out).mono ?_
  rintro e w2 ⟨rfl, e20⟩
  have e2 : Env (w.heap.size + 1) W0 bm l1 (n + 10) (get_2 c) 0 w2 := e20
  have hr2 := InI.vars H1.out
  have b2 := e2.box (.int .i64 (get_1 c).vars) 3
  obtain ⟨l2, hl2⟩ : ∃ l, l = (w2.heap.size, 0, Value.int .i64 (get_1 c).vars) :: l1 := ⟨_, rfl⟩
  rw [← hl2] at b2
  obtain ⟨V2, hV2⟩ : ∃ W, W = w2.alloc (.cells #[.int .i64 (get_1 c).vars] 3) := ⟨_, rfl⟩
  rw [← hV2] at b2
  have m_m := (show _ ∈ l2 from hl2 ▸ List.mem_cons_of_mem _ m_m)
  have m_v : (w2.heap.size, 0, Value.int .i64 (get_1 c).vars) ∈ l2 := by rw [hl2]; exact List.mem_cons_self
  have HV2 := Lib.hid hV2
  have H2 := Lib.hid b2
  clear hV2 hl2 b2
  clear e2 e20
  have hS := keep2 m_m m_v H2.out.x
  rw [HV2.out] at hS
  go_wp2_with fail
  rw [← HV2.out] at hS ⊢
  go_region_held3 (fun w' => (w'.cell? ⟨w0.heap.size, 0, none⟩ = some (.pointer (some ⟨bm, 0, none⟩)) ∧ w'.cell? ⟨w2.heap.size, 0, none⟩ = some (.int .i64 (get_1 c).vars)) ∧ EnvX (w.heap.size + 1) W0 bm l2 w')
    (first | exact hS | exact keep2 m_m m_v H2.out.x.drew | exact keep2 m_m m_v (Env.x (by assumption)) | exact keep2 m_m m_v (EnvX.drew (And.right (by assumption))) | exact keep2 m_m m_v (EnvX.alloc (Env.x (by assumption)) _) | exact keep2 m_m m_v (EnvX.alloc (And.right (by assumption)) _))
    (first | (go_at_call 31; (refine (math_any ⟨#[60]⟩ c.vars (get_1 c).vars hr1 hr2 (by decide) H2.out.drew).mono ?_); rintro e w3 ⟨rfl, e30⟩; have e3 : Env (w.heap.size + 1) W0 bm l2 (n + 8) (get_3 c) 0 w3 := e30; clear e30) | (go_at_call 36; (refine (when_any (ba := #[]) (m := n + 5) (n := n + 3) (c3 := get1_F (whenIn (get_3 c) 0 (get_2 c).vars) (get_3 c).blocks.length (get_1 c).vars) (k3 := get1_K (whenIn (get_3 c) 0 (get_2 c).vars) (get_3 c).blocks.length (get_1 c).vars) (InI.vars H2.out) enters_get1 e3 (fun w2 e2 => by exact get1_any hr2 m_m m_v e2) (by rw [get1_len, whenIn_len]; omega)).mono ?_); rintro e w4 ⟨rfl, e40⟩; have e4 : Env (w.heap.size + 1) W0 bm l2 (n + 3) (get_4 c) ((get_3 c).blocks.length + 1) w4 := e40; clear e40))
  all_goals
    have hr3 := InI.vars H2.out
    have H4 := Lib.hid e4
    clear hS
    have hS := keep2 m_m m_v H4.out.x
    go_wp2_with fail
    go_region_held3 (fun w' => (w'.cell? ⟨w0.heap.size, 0, none⟩ = some (.pointer (some ⟨bm, 0, none⟩)) ∧ w'.cell? ⟨w2.heap.size, 0, none⟩ = some (.int .i64 (get_1 c).vars)) ∧ EnvX (w.heap.size + 1) W0 bm l2 w')
      (first | exact hS | exact keep2 m_m m_v H4.out.x.drew | exact keep2 m_m m_v (Env.x (by assumption)) | exact keep2 m_m m_v (EnvX.drew (And.right (by assumption))) | exact keep2 m_m m_v (EnvX.alloc (Env.x (by assumption)) _) | exact keep2 m_m m_v (EnvX.alloc (And.right (by assumption)) _))
      (first | (go_at_call 40; (refine (load_any c.vars 1 hr1 hz_1 H4.out.drew).mono ?_); rintro e w5 ⟨rfl, e50⟩; have e5 : Env (w.heap.size + 1) W0 bm l2 (n + 1) (get_5 c) ((get_3 c).blocks.length + 1) w5 := e50; clear e50) | (go_at_call 34; (refine (back_any e5 ((Below.refl _ _).alloc (Nat.le_refl _) _) (rInts_all [(get_4 c).vars] (Nat.le_refl _) (lens rfl) (ini1 (InI.vars H4.out)) (new_one _ _))).mono ?_); rintro e w6 ⟨rfl, e60⟩; have e6 : Env (w.heap.size + 1) W0 bm l2 (n + 0) (get_6 c) ((get_3 c).blocks.length + 1) w6 := e60; clear e60))
    all_goals
      have hr5 := InI.vars H4.out
      have H6 := Lib.hid e6
      clear hS
      obtain ⟨hz1, hz2, gB, cB, ⟨d0, d1, d2, d3, d4, d5⟩, hrd⟩ := env_end H6.out
      obtain ⟨zc, zf⟩ := zero_cells w (HW0.out ▸ H6.out)
      have q_m := H6.out.cell m_m
      have z0 : w6.cell? ⟨w.heap.size, 0, none⟩ = some (.string ⟨#[]⟩) := zc 0
      have z1 : w6.cell? ⟨w.heap.size, 1, none⟩ = some (.int .i64 0) := zc 1
      have z2 : w6.cell? ⟨w.heap.size, 2, none⟩ = some (.int .i64 0) := zc 2
      have z3 : w6.cell? ⟨w.heap.size, 3, none⟩ = some (.int .i64 0) := zc 3
      have z4 : w6.cell? ⟨w.heap.size, 4, none⟩ = some (.int .i64 0) := zc 4
      have z5 : w6.cell? ⟨w.heap.size, 5, none⟩ = some (.slice none 0 0) := zc 5
      have y0 := zf 0
      have y1 := zf 1
      have y2 := zf 2
      have y3 := zf 3
      have y4 := zf 4
      have y5 := zf 5
      have hrd2 := Lib.hid hrd
      clear zc zf hrd
      go_wp2_with fail
      obtain ⟨V, hV, v0, v1, v2, v3, v4, v5, hs⟩ := box_six (.string (get_6 c).name) (.int .i64 (get_6 c).params) (.int .i64 (get_6 c).results) (.int .i64 (get_6 c).vars) (.int .i64 (get_6 c).slots) (.slice (some ⟨gB, 0, none⟩) (get_6 c).blocks.length cB) z0 z1 z2 z3 z4 z5
      rw [← hV]
      refine bodyPost_ret (v := .agg #[.string (get_6 c).name, .int .i64 (get_6 c).params, .int .i64 (get_6 c).results, .int .i64 (get_6 c).vars, .int .i64 (get_6 c).slots, .slice (some ⟨gB, 0, none⟩) (get_6 c).blocks.length cB]) (by simp [results, Try.results21, go_sem, v0, v1, v2, v3, v4, v5]) rfl ?_
      unfold get_C
      rw [← HC.out]
      exact code_post w (HW0.out ▸ H6.out) hs hrd2.out
def drop_1 (c : PCode) : PCode := invokeF c 0 ⟨#[95, 102, 105, 110, 100]⟩ [0, 1]
def drop_2 (c : PCode) : PCode := konstF (drop_1 c) 0 0
def drop_3 (c : PCode) : PCode := mathF (drop_2 c) 0 ⟨#[60]⟩ c.vars (drop_1 c).vars
def drop_4 (c : PCode) : PCode := whenOut (drop1_F (whenIn (drop_3 c) 0 (drop_2 c).vars) (drop_3 c).blocks.length) (drop1_K (whenIn (drop_3 c) 0 (drop_2 c).vars) (drop_3 c).blocks.length) (((drop_3 c).blocks.length : Int) + 1)
def drop_5 (c : PCode) : PCode := storeF (drop_4 c) ((drop_3 c).blocks.length + 1) c.vars 2 (drop_1 c).vars
def drop_6 (c : PCode) : PCode := loadF (drop_5 c) ((drop_3 c).blocks.length + 1) 0 3
def drop_7 (c : PCode) : PCode := konstF (drop_6 c) ((drop_3 c).blocks.length + 1) 1
def drop_8 (c : PCode) : PCode := mathF (drop_7 c) ((drop_3 c).blocks.length + 1) ⟨#[45]⟩ (drop_5 c).vars (drop_6 c).vars
def drop_9 (c : PCode) : PCode := storeF (drop_8 c) ((drop_3 c).blocks.length + 1) 0 3 (drop_7 c).vars
def drop_10 (c : PCode) : PCode := backF (drop_9 c) ((drop_3 c).blocks.length + 1) []
def drop_C : PCode := drop_10 (startF ⟨#[95, 100, 114, 111, 112]⟩ 2 0)
set_option maxHeartbeats 16000000 in
theorem rt_drop_any (w : World) : Calls Try.prog 23 #[] w (CodePost w drop_C) := by
  have hz_0 : InI 0 := ini rfl
  have hz_1 : InI 1 := ini rfl
  have hz_2 : InI 2 := ini rfl
  have hz_3 : InI 3 := ini rfl
  go_enter Try.func23, Try.ntmps23
  go_wp2_with fail
  refine (start_any ⟨#[95, 100, 114, 111, 112]⟩ 2 0 (by decide) (by decide) (by decide) _).mono ?_
  rintro e w0 ⟨bm, rfl, e00⟩
  have e0 : Env (w.heap.size + 1) (w.alloc (.cells zeroCode 31)) bm [] 900000 (startF ⟨#[95, 100, 114, 111, 112]⟩ 2 0) 0 w0 := by
    rw [World.size_alloc] at e00; exact e00
  clear e00
  obtain ⟨n, hn⟩ : ∃ n, 900000 = n + 20 := ⟨900000 - 20, by decide⟩
  obtain ⟨c, hc⟩ : ∃ c, c = startF ⟨#[95, 100, 114, 111, 112]⟩ 2 0 := ⟨_, rfl⟩
  rw [← hc, hn] at e0
  have HC := Lib.hid hc
  clear hn hc
  obtain ⟨W0, hW0⟩ : ∃ W, W = w.alloc (.cells zeroCode 31) := ⟨_, rfl⟩
  rw [← hW0] at e0
  have HW0 := Lib.hid hW0
  clear hW0
  have b0 := e0.box (.pointer (some ⟨bm, 0, none⟩)) 54
  obtain ⟨l1, hl1⟩ : ∃ l, l = (w0.heap.size, 0, Value.pointer (some ⟨bm, 0, none⟩)) :: [] := ⟨_, rfl⟩
  rw [← hl1] at b0
  obtain ⟨V0, hV0⟩ : ∃ W, W = w0.alloc (.cells #[.pointer (some ⟨bm, 0, none⟩)] 54) := ⟨_, rfl⟩
  rw [← hV0] at b0
  have m_m : (w0.heap.size, 0, Value.pointer (some ⟨bm, 0, none⟩)) ∈ l1 := by rw [hl1]; exact List.mem_cons_self
  have HV0 := Lib.hid hV0
  have H0 := Lib.hid b0
  clear hV0 hl1 b0
  clear e0
  have q_m := H0.out.cell m_m
  rw [HV0.out] at q_m
  go_wp2_with fail
  rw [← HV0.out]
  try rw [show w0.heap.size + 1 = V0.heap.size from by rw [HV0.out, World.size_alloc]]
  clear q_m
  refine (invoke_any (by decide) H0.out ((Below.refl _ _).alloc (Nat.le_refl _) _) (rInts_all [0, 1] (Nat.le_refl _) (lens rfl) (ini2 hz_0 hz_1) (new_one _ _))).mono ?_
  rintro e w1 ⟨ga1, gp1, rfl, gc1, e10⟩
  have e1 : Env (w.heap.size + 1) W0 bm l1 (n + 18) (drop_1 c) 0 w1 := e10
  have hr1 := InI.vars H0.out
  have H1 := Lib.hid e1
  clear e1 e10
  have q_m := H1.out.cell m_m
  go_wp2_with fail
  clear q_m
  clear gc1
  refine (konst_any 0 hz_0 H1.out).mono ?_
  rintro e w2 ⟨rfl, e20⟩
  have e2 : Env (w.heap.size + 1) W0 bm l1 (n + 16) (drop_2 c) 0 w2 := e20
  have hr2 := InI.vars H1.out
  have H2 := Lib.hid e2
  clear e2 e20
  have hS := keep1 m_m H2.out.x
  go_wp2_with fail
  go_region_held3 (fun w' => (w'.cell? ⟨w0.heap.size, 0, none⟩ = some (.pointer (some ⟨bm, 0, none⟩))) ∧ EnvX (w.heap.size + 1) W0 bm l1 w')
    (first | exact hS | exact keep1 m_m H2.out.x.drew | exact keep1 m_m (Env.x (by assumption)) | exact keep1 m_m (EnvX.drew (And.right (by assumption))) | exact keep1 m_m (EnvX.alloc (Env.x (by assumption)) _) | exact keep1 m_m (EnvX.alloc (And.right (by assumption)) _))
    (first | (go_at_call 31; (refine (math_any ⟨#[60]⟩ c.vars (drop_1 c).vars hr1 hr2 (by decide) H2.out.drew).mono ?_); rintro e w3 ⟨rfl, e30⟩; have e3 : Env (w.heap.size + 1) W0 bm l1 (n + 14) (drop_3 c) 0 w3 := e30; clear e30) | (go_at_call 36; (refine (when_any (ba := #[]) (m := n + 11) (n := n + 9) (c3 := drop1_F (whenIn (drop_3 c) 0 (drop_2 c).vars) (drop_3 c).blocks.length) (k3 := drop1_K (whenIn (drop_3 c) 0 (drop_2 c).vars) (drop_3 c).blocks.length) (InI.vars H2.out) enters_drop1 e3 (fun w2 e2 => by exact drop1_any m_m e2) (by rw [drop1_len, whenIn_len]; omega)).mono ?_); rintro e w4 ⟨rfl, e40⟩; have e4 : Env (w.heap.size + 1) W0 bm l1 (n + 9) (drop_4 c) ((drop_3 c).blocks.length + 1) w4 := e40; clear e40))
  all_goals
    have hr3 := InI.vars H2.out
    have H4 := Lib.hid e4
    clear hS
    have q_m := H4.out.cell m_m
    go_wp2_with fail
    clear q_m
    refine (store_any c.vars 2 (drop_1 c).vars hr1 hz_2 hr2 H4.out).mono ?_
    rintro e w5 ⟨rfl, e50⟩
    have e5 : Env (w.heap.size + 1) W0 bm l1 (n + 8) (drop_5 c) ((drop_3 c).blocks.length + 1) w5 := e50
    have H5 := Lib.hid e5
    clear e5 e50
    have hS := keep1 m_m H5.out.x
    go_wp2_with fail
    go_region_held3 (fun w' => (w'.cell? ⟨w0.heap.size, 0, none⟩ = some (.pointer (some ⟨bm, 0, none⟩))) ∧ EnvX (w.heap.size + 1) W0 bm l1 w')
      (first | exact hS | exact keep1 m_m H5.out.x.drew | exact keep1 m_m (Env.x (by assumption)) | exact keep1 m_m (EnvX.drew (And.right (by assumption))) | exact keep1 m_m (EnvX.alloc (Env.x (by assumption)) _) | exact keep1 m_m (EnvX.alloc (And.right (by assumption)) _))
      (first | (go_at_call 40; (refine (load_any 0 3 hz_0 hz_3 H5.out.drew).mono ?_); rintro e w6 ⟨rfl, e60⟩; have e6 : Env (w.heap.size + 1) W0 bm l1 (n + 6) (drop_6 c) ((drop_3 c).blocks.length + 1) w6 := e60; clear e60) | (go_at_call 35; (refine (konst_any 1 hz_1 e6).mono ?_); rintro e w7 ⟨rfl, e70⟩; have e7 : Env (w.heap.size + 1) W0 bm l1 (n + 4) (drop_7 c) ((drop_3 c).blocks.length + 1) w7 := e70; clear e70) | (go_at_call 31; (refine (math_any ⟨#[45]⟩ (drop_5 c).vars (drop_6 c).vars (InI.vars H5.out) (InI.vars e6) (by decide) e7).mono ?_); rintro e w8 ⟨rfl, e80⟩; have e8 : Env (w.heap.size + 1) W0 bm l1 (n + 2) (drop_8 c) ((drop_3 c).blocks.length + 1) w8 := e80; clear e80) | (go_at_call 48; (refine (store_any 0 3 (drop_7 c).vars hz_0 hz_3 (InI.vars e7) e8).mono ?_); rintro e w9 ⟨rfl, e90⟩; have e9 : Env (w.heap.size + 1) W0 bm l1 (n + 1) (drop_9 c) ((drop_3 c).blocks.length + 1) w9 := e90; clear e90))
    all_goals
      have hr6 := InI.vars H5.out
      have hr7 := InI.vars e6
      have hr8 := InI.vars e7
      have H9 := Lib.hid e9
      clear hS
      have q_m := H9.out.cell m_m
      go_wp2_with fail
      clear q_m
      refine (back_any H9.out (Below.refl _ _) (rSlice_nil _ _ _ _)).mono ?_
      rintro e w10 ⟨rfl, e100⟩
      have e10 : Env (w.heap.size + 1) W0 bm l1 (n + 0) (drop_10 c) ((drop_3 c).blocks.length + 1) w10 := e100
      have H10 := Lib.hid e10
      clear e10 e100
      obtain ⟨hz1, hz2, gB, cB, ⟨d0, d1, d2, d3, d4, d5⟩, hrd⟩ := env_end H10.out
      obtain ⟨zc, zf⟩ := zero_cells w (HW0.out ▸ H10.out)
      have q_m := H10.out.cell m_m
      have z0 : w10.cell? ⟨w.heap.size, 0, none⟩ = some (.string ⟨#[]⟩) := zc 0
      have z1 : w10.cell? ⟨w.heap.size, 1, none⟩ = some (.int .i64 0) := zc 1
      have z2 : w10.cell? ⟨w.heap.size, 2, none⟩ = some (.int .i64 0) := zc 2
      have z3 : w10.cell? ⟨w.heap.size, 3, none⟩ = some (.int .i64 0) := zc 3
      have z4 : w10.cell? ⟨w.heap.size, 4, none⟩ = some (.int .i64 0) := zc 4
      have z5 : w10.cell? ⟨w.heap.size, 5, none⟩ = some (.slice none 0 0) := zc 5
      have y0 := zf 0
      have y1 := zf 1
      have y2 := zf 2
      have y3 := zf 3
      have y4 := zf 4
      have y5 := zf 5
      have hrd2 := Lib.hid hrd
      clear zc zf hrd
      go_wp2_with fail
      obtain ⟨V, hV, v0, v1, v2, v3, v4, v5, hs⟩ := box_six (.string (drop_10 c).name) (.int .i64 (drop_10 c).params) (.int .i64 (drop_10 c).results) (.int .i64 (drop_10 c).vars) (.int .i64 (drop_10 c).slots) (.slice (some ⟨gB, 0, none⟩) (drop_10 c).blocks.length cB) z0 z1 z2 z3 z4 z5
      rw [← hV]
      refine bodyPost_ret (v := .agg #[.string (drop_10 c).name, .int .i64 (drop_10 c).params, .int .i64 (drop_10 c).results, .int .i64 (drop_10 c).vars, .int .i64 (drop_10 c).slots, .slice (some ⟨gB, 0, none⟩) (drop_10 c).blocks.length cB]) (by simp [results, Try.results23, go_sem, v0, v1, v2, v3, v4, v5]) rfl ?_
      unfold drop_C
      rw [← HC.out]
      exact code_post w (HW0.out ▸ H10.out) hs hrd2.out
end Go.Proofs.Ytaomlfbcfmmhlaa

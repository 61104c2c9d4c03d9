/-
  Texts joined: RtCat RtSame RtAdd RtFind RtInvoke RtGet.
-/
import Derived.Test.YtaomlfbcfmmhlaaJH

/-
  rt's cat, empty, walked (printed by wip/gen_rtfn.py).
-/
namespace Go.Proofs.Ytaomlfbcfmmhlaa
open Go.RowKit Go.Pst
set_option linter.unusedVariables false
set_option linter.unusedSimpArgs false

def cat_1 (c : PCode) : PCode := mathF c 0 ⟨#[43]⟩ 1 3
def cat_2 (c : PCode) : PCode := allocF (cat_1 c) 0 c.vars
def cat_3 (c : PCode) : PCode := copyF (cat_2 c) 0 (cat_1 c).vars 0 1
def cat_4 (c : PCode) : PCode := mathF (cat_3 c) ((cat_2 c).blocks.length + 2) ⟨#[43]⟩ (cat_1 c).vars 1
def cat_5 (c : PCode) : PCode := copyF (cat_4 c) ((cat_2 c).blocks.length + 2) (cat_3 c).vars 2 3
def cat_6 (c : PCode) : PCode := backF (cat_5 c) ((cat_4 c).blocks.length + 2) [(cat_1 c).vars, c.vars]
def cat_C : PCode := cat_6 (beginF ⟨#[95, 99, 97, 116]⟩ 4 2)
set_option maxHeartbeats 16000000 in
theorem rt_cat_any (w : World) : Calls Try.prog 15 #[] w (CodePost w cat_C) := by
  have hz_0 : InI 0 := ini rfl
  have hz_1 : InI 1 := ini rfl
  have hz_2 : InI 2 := ini rfl
  have hz_3 : InI 3 := ini rfl
  go_enter Try.func15, Try.ntmps15
  go_wp2_with fail
  refine (start_any ⟨#[95, 99, 97, 116]⟩ 4 2 (by decide) (by decide) (by decide) _).mono ?_
  rintro e w0 ⟨bm, rfl, e00⟩
  have e0 : Env (w.heap.size + 1) (w.alloc (.cells zeroCode 31)) bm [] 900000 (beginF ⟨#[95, 99, 97, 116]⟩ 4 2) 0 w0 := by
    rw [World.size_alloc] at e00; exact e00
  clear e00
  obtain ⟨n, hn⟩ : ∃ n, 900000 = n + 55 := ⟨900000 - 55, by decide⟩
  obtain ⟨c, hc⟩ : ∃ c, c = beginF ⟨#[95, 99, 97, 116]⟩ 4 2 := ⟨_, rfl⟩
  rw [← hc, hn] at e0
  have HC := Lib.hid hc
  clear hn hc
  obtain ⟨W0, hW0⟩ : ∃ W, W = w.alloc (.cells zeroCode 31) := ⟨_, rfl⟩
  rw [← hW0] at e0
  have HW0 := Lib.hid hW0
  clear hW0
  have H0 := Lib.hid e0
  clear e0
  go_wp2_with fail
  refine (math_any ⟨#[43]⟩ 1 3 hz_1 hz_3 (by decide) H0.out).mono ?_
  rintro e w1 ⟨rfl, e10⟩
  have e1 : Env (w.heap.size + 1) W0 bm [] (n + 53) (cat_1 c) 0 w1 := e10
  have hr1 := InI.vars H0.out
  have H1 := Lib.hid e1
  clear e1 e10
  go_wp2_with fail
  refine (alloc_any c.vars hr1 H1.out).mono ?_
  rintro e w2 ⟨rfl, e20⟩
  have e2 : Env (w.heap.size + 1) W0 bm [] (n + 51) (cat_2 c) 0 w2 := e20
  have hr2 := InI.vars H1.out
  have H2 := Lib.hid e2
  clear e2 e20
  go_wp2_with fail
  refine (copy_any hr2 hz_0 hz_1 H2.out).mono ?_
  rintro e w3 ⟨rfl, e30⟩
  have e3 : Env (w.heap.size + 1) W0 bm [] (n + 27) (cat_3 c) ((cat_2 c).blocks.length + 2) w3 := e30
  have H3 := Lib.hid e3
  clear e3 e30
  go_wp2_with fail
  refine (math_any ⟨#[43]⟩ (cat_1 c).vars 1 hr2 hz_1 (by decide) H3.out).mono ?_
  rintro e w4 ⟨rfl, e40⟩
  have e4 : Env (w.heap.size + 1) W0 bm [] (n + 25) (cat_4 c) ((cat_2 c).blocks.length + 2) w4 := e40
  have hr4 := InI.vars H3.out
  have H4 := Lib.hid e4
  clear e4 e40
  go_wp2_with fail
  refine (copy_any hr4 hz_2 hz_3 H4.out).mono ?_
  rintro e w5 ⟨rfl, e50⟩
  have e5 : Env (w.heap.size + 1) W0 bm [] (n + 1) (cat_5 c) ((cat_4 c).blocks.length + 2) w5 := e50
  have H5 := Lib.hid e5
  clear e5 e50
  go_wp2_with fail
  refine (back_any H5.out ((Below.refl _ _).alloc (Nat.le_refl _) _) (rInts_all [(cat_1 c).vars, c.vars] (Nat.le_refl _) (lens rfl) (ini2 hr2 hr1) (new_one _ _))).mono ?_
  rintro e w6 ⟨rfl, e60⟩
  have e6 : Env (w.heap.size + 1) W0 bm [] (n + 0) (cat_6 c) ((cat_4 c).blocks.length + 2) w6 := e60
  have H6 := Lib.hid e6
  clear e6 e60
  obtain ⟨hz1, hz2, gB, cB, ⟨d0, d1, d2, d3, d4, d5⟩, hrd⟩ := env_end H6.out
  obtain ⟨zc, zf⟩ := zero_cells w (HW0.out ▸ H6.out)
  have z0 : w6.cell? ⟨w.heap.size, 0, none⟩ = some (.string ⟨#[]⟩) := zc 0
  have z1 : w6.cell? ⟨w.heap.size, 1, none⟩ = some (.int .i64 0) := zc 1
  have z2 : w6.cell? ⟨w.heap.size, 2, none⟩ = some (.int .i64 0) := zc 2
  have z3 : w6.cell? ⟨w.heap.size, 3, none⟩ = some (.int .i64 0) := zc 3
  have z4 : w6.cell? ⟨w.heap.size, 4, none⟩ = some (.int .i64 0) := zc 4
  have z5 : w6.cell? ⟨w.heap.size, 5, none⟩ = some (.slice none 0 0) := zc 5
  have y0 := zf 0
  have y1 := zf 1
  have y2 := zf 2
  have y3 := zf 3
  have y4 := zf 4
  have y5 := zf 5
  have hrd2 := Lib.hid hrd
  clear zc zf hrd
  go_wp2_with fail
  obtain ⟨V, hV, v0, v1, v2, v3, v4, v5, hs⟩ := box_six (.string (cat_6 c).name) (.int .i64 (cat_6 c).params) (.int .i64 (cat_6 c).results) (.int .i64 (cat_6 c).vars) (.int .i64 (cat_6 c).slots) (.slice (some ⟨gB, 0, none⟩) (cat_6 c).blocks.length cB) z0 z1 z2 z3 z4 z5
  rw [← hV]
  refine bodyPost_ret (v := .agg #[.string (cat_6 c).name, .int .i64 (cat_6 c).params, .int .i64 (cat_6 c).results, .int .i64 (cat_6 c).vars, .int .i64 (cat_6 c).slots, .slice (some ⟨gB, 0, none⟩) (cat_6 c).blocks.length cB]) (by simp [results, Try.results15, go_sem, v0, v1, v2, v3, v4, v5]) rfl ?_
  unfold cat_C
  rw [← HC.out]
  exact code_post w (HW0.out ▸ H6.out) hs hrd2.out
def empty_1 (c : PCode) : PCode := konstF c 0 16
def empty_2 (c : PCode) : PCode := allocF (empty_1 c) 0 c.vars
def empty_3 (c : PCode) : PCode := konstF (empty_2 c) 0 4
def empty_4 (c : PCode) : PCode := storeF (empty_3 c) 0 (empty_1 c).vars 1 (empty_2 c).vars
def empty_5 (c : PCode) : PCode := konstF (empty_4 c) 0 4
def empty_6 (c : PCode) : PCode := mathF (empty_5 c) 0 ⟨#[43]⟩ (empty_1 c).vars (empty_4 c).vars
def empty_7 (c : PCode) : PCode := storeF (empty_6 c) 0 (empty_1 c).vars 2 (empty_5 c).vars
def empty_8 (c : PCode) : PCode := backF (empty_7 c) 0 [(empty_1 c).vars]
def empty_C : PCode := empty_8 (beginF ⟨#[95, 109, 97, 112]⟩ 0 1)
set_option maxHeartbeats 16000000 in
theorem rt_empty_any (w : World) : Calls Try.prog 19 #[] w (CodePost w empty_C) := by
  have hz_1 : InI 1 := ini rfl
  have hz_16 : InI 16 := ini rfl
  have hz_2 : InI 2 := ini rfl
  have hz_4 : InI 4 := ini rfl
  go_enter Try.func19, Try.ntmps19
  go_wp2_with fail
  refine (start_any ⟨#[95, 109, 97, 112]⟩ 0 1 (by decide) (by decide) (by decide) _).mono ?_
  rintro e w0 ⟨bm, rfl, e00⟩
  have e0 : Env (w.heap.size + 1) (w.alloc (.cells zeroCode 31)) bm [] 900000 (beginF ⟨#[95, 109, 97, 112]⟩ 0 1) 0 w0 := by
    rw [World.size_alloc] at e00; exact e00
  clear e00
  obtain ⟨n, hn⟩ : ∃ n, 900000 = n + 13 := ⟨900000 - 13, by decide⟩
  obtain ⟨c, hc⟩ : ∃ c, c = beginF ⟨#[95, 109, 97, 112]⟩ 0 1 := ⟨_, rfl⟩
  rw [← hc, hn] at e0
  have HC := Lib.hid hc
  clear hn hc
  obtain ⟨W0, hW0⟩ : ∃ W, W = w.alloc (.cells zeroCode 31) := ⟨_, rfl⟩
  rw [← hW0] at e0
  have HW0 := Lib.hid hW0
  clear hW0
  have H0 := Lib.hid e0
  clear e0
  go_wp2_with fail
  refine (konst_any 16 hz_16 H0.out).mono ?_
  rintro e w1 ⟨rfl, e10⟩
  have e1 : Env (w.heap.size + 1) W0 bm [] (n + 11) (empty_1 c) 0 w1 := e10
  have hr1 := InI.vars H0.out
  have H1 := Lib.hid e1
  clear e1 e10
  go_wp2_with fail
  refine (alloc_any c.vars hr1 H1.out).mono ?_
  rintro e w2 ⟨rfl, e20⟩
  have e2 : Env (w.heap.size + 1) W0 bm [] (n + 9) (empty_2 c) 0 w2 := e20
  have hr2 := InI.vars H1.out
  have H2 := Lib.hid e2
  clear e2 e20
  go_wp2_with fail
  refine (konst_any 4 hz_4 H2.out).mono ?_
  rintro e w3 ⟨rfl, e30⟩
  have e3 : Env (w.heap.size + 1) W0 bm [] (n + 7) (empty_3 c) 0 w3 := e30
  have hr3 := InI.vars H2.out
  have H3 := Lib.hid e3
  clear e3 e30
  go_wp2_with fail
  refine (store_any (empty_1 c).vars 1 (empty_2 c).vars hr2 hz_1 hr3 H3.out).mono ?_
  rintro e w4 ⟨rfl, e40⟩
  have e4 : Env (w.heap.size + 1) W0 bm [] (n + 6) (empty_4 c) 0 w4 := e40
  have H4 := Lib.hid e4
  clear e4 e40
  go_wp2_with fail
  refine (konst_any 4 hz_4 H4.out).mono ?_
  rintro e w5 ⟨rfl, e50⟩
  have e5 : Env (w.heap.size + 1) W0 bm [] (n + 4) (empty_5 c) 0 w5 := e50
  have hr5 := InI.vars H4.out
  have H5 := Lib.hid e5
  clear e5 e50
  go_wp2_with fail
  refine (math_any ⟨#[43]⟩ (empty_1 c).vars (empty_4 c).vars hr2 hr5 (by decide) H5.out).mono ?_
  rintro e w6 ⟨rfl, e60⟩
  have e6 : Env (w.heap.size + 1) W0 bm [] (n + 2) (empty_6 c) 0 w6 := e60
  have hr6 := InI.vars H5.out
  have H6 := Lib.hid e6
  clear e6 e60
  go_wp2_with fail
  refine (store_any (empty_1 c).vars 2 (empty_5 c).vars hr2 hz_2 hr6 H6.out).mono ?_
  rintro e w7 ⟨rfl, e70⟩
  have e7 : Env (w.heap.size + 1) W0 bm [] (n + 1) (empty_7 c) 0 w7 := e70
  have H7 := Lib.hid e7
  clear e7 e70
  go_wp2_with fail
  refine (back_any H7.out ((Below.refl _ _).alloc (Nat.le_refl _) _) (rInts_all [(empty_1 c).vars] (Nat.le_refl _) (lens rfl) (ini1 hr2) (new_one _ _))).mono ?_
  rintro e w8 ⟨rfl, e80⟩
  have e8 : Env (w.heap.size + 1) W0 bm [] (n + 0) (empty_8 c) 0 w8 := e80
  have H8 := Lib.hid e8
  clear e8 e80
  obtain ⟨hz1, hz2, gB, cB, ⟨d0, d1, d2, d3, d4, d5⟩, hrd⟩ := env_end H8.out
  obtain ⟨zc, zf⟩ := zero_cells w (HW0.out ▸ H8.out)
  have z0 : w8.cell? ⟨w.heap.size, 0, none⟩ = some (.string ⟨#[]⟩) := zc 0
  have z1 : w8.cell? ⟨w.heap.size, 1, none⟩ = some (.int .i64 0) := zc 1
  have z2 : w8.cell? ⟨w.heap.size, 2, none⟩ = some (.int .i64 0) := zc 2
  have z3 : w8.cell? ⟨w.heap.size, 3, none⟩ = some (.int .i64 0) := zc 3
  have z4 : w8.cell? ⟨w.heap.size, 4, none⟩ = some (.int .i64 0) := zc 4
  have z5 : w8.cell? ⟨w.heap.size, 5, none⟩ = some (.slice none 0 0) := zc 5
  have y0 := zf 0
  have y1 := zf 1
  have y2 := zf 2
  have y3 := zf 3
  have y4 := zf 4
  have y5 := zf 5
  have hrd2 := Lib.hid hrd
  clear zc zf hrd
  go_wp2_with fail
  obtain ⟨V, hV, v0, v1, v2, v3, v4, v5, hs⟩ := box_six (.string (empty_8 c).name) (.int .i64 (empty_8 c).params) (.int .i64 (empty_8 c).results) (.int .i64 (empty_8 c).vars) (.int .i64 (empty_8 c).slots) (.slice (some ⟨gB, 0, none⟩) (empty_8 c).blocks.length cB) z0 z1 z2 z3 z4 z5
  rw [← hV]
  refine bodyPost_ret (v := .agg #[.string (empty_8 c).name, .int .i64 (empty_8 c).params, .int .i64 (empty_8 c).results, .int .i64 (empty_8 c).vars, .int .i64 (empty_8 c).slots, .slice (some ⟨gB, 0, none⟩) (empty_8 c).blocks.length cB]) (by simp [results, Try.results19, go_sem, v0, v1, v2, v3, v4, v5]) rfl ?_
  unfold empty_C
  rw [← HC.out]
  exact code_post w (HW0.out ▸ H8.out) hs hrd2.out
end Go.Proofs.Ytaomlfbcfmmhlaa

/-
  rt's same, walked (printed by wip/gen_rtfn.py).
-/
namespace Go.Proofs.Ytaomlfbcfmmhlaa
open Go.RowKit Go.Pst
set_option linter.unusedVariables false
set_option linter.unusedSimpArgs false

def same_1 (c : PCode) : PCode := konstF c 0 0
def same_2 (c : PCode) : PCode := mathF (same_1 c) 0 ⟨#[33, 61]⟩ 1 3
def same_3 (c : PCode) : PCode := whenOut (same1_F (whenIn (same_2 c) 0 (same_1 c).vars) (same_2 c).blocks.length c.vars) (same1_K (whenIn (same_2 c) 0 (same_1 c).vars) (same_2 c).blocks.length c.vars) (((same_2 c).blocks.length : Int) + 1)
def same_4 (c : PCode) : PCode := countOut (same2_F (countIn (same_3 c) ((same_2 c).blocks.length + 1) c.vars 1) ((same_3 c).blocks.length + 1) (same_3 c).vars c.vars) (same2_K (countIn (same_3 c) ((same_2 c).blocks.length + 1) c.vars 1) ((same_3 c).blocks.length + 1) (same_3 c).vars c.vars) (same_3 c).vars (same_3 c).blocks.length
def same_5 (c : PCode) : PCode := konstF (same_4 c) ((same_3 c).blocks.length + 2) 1
def same_6 (c : PCode) : PCode := backF (same_5 c) ((same_3 c).blocks.length + 2) [(same_4 c).vars]
def same_C : PCode := same_6 (beginF ⟨#[95, 115, 97, 109, 101]⟩ 4 1)
set_option maxHeartbeats 16000000 in
theorem rt_same_any (w : World) : Calls Try.prog 16 #[] w (CodePost w same_C) := by
  have hz_0 : InI 0 := ini rfl
  have hz_1 : InI 1 := ini rfl
  have hz_3 : InI 3 := ini rfl
  go_enter Try.func16, Try.ntmps16
  go_wp2_with fail
  refine (start_any ⟨#[95, 115, 97, 109, 101]⟩ 4 1 (by decide) (by decide) (by decide) _).mono ?_
  rintro e w0 ⟨bm, rfl, e00⟩
  have e0 : Env (w.heap.size + 1) (w.alloc (.cells zeroCode 31)) bm [] 900000 (beginF ⟨#[95, 115, 97, 109, 101]⟩ 4 1) 0 w0 := by
    rw [World.size_alloc] at e00; exact e00
  clear e00
  obtain ⟨n, hn⟩ : ∃ n, 900000 = n + 42 := ⟨900000 - 42, by decide⟩
  obtain ⟨c, hc⟩ : ∃ c, c = beginF ⟨#[95, 115, 97, 109, 101]⟩ 4 1 := ⟨_, rfl⟩
  rw [← hc, hn] at e0
  have HC := Lib.hid hc
  clear hn hc
  obtain ⟨W0, hW0⟩ : ∃ W, W = w.alloc (.cells zeroCode 31) := ⟨_, rfl⟩
  rw [← hW0] at e0
  have HW0 := Lib.hid hW0
  clear hW0
  have b0 := e0.box (.pointer (some ⟨bm, 0, none⟩)) 54
  obtain ⟨l1, hl1⟩ : ∃ l, l = (w0.heap.size, 0, Value.pointer (some ⟨bm, 0, none⟩)) :: [] := ⟨_, rfl⟩
  rw [← hl1] at b0
  obtain ⟨V0, hV0⟩ : ∃ W, W = w0.alloc (.cells #[.pointer (some ⟨bm, 0, none⟩)] 54) := ⟨_, rfl⟩
  rw [← hV0] at b0
  have m_m : (w0.heap.size, 0, Value.pointer (some ⟨bm, 0, none⟩)) ∈ l1 := by rw [hl1]; exact List.mem_cons_self
  have HV0 := Lib.hid hV0
  have H0 := Lib.hid b0
  clear hV0 hl1 b0
  clear e0
  have q_m := H0.out.cell m_m
  rw [HV0.out] at q_m
  go_wp2_with fail
  rw [← HV0.out]
  try rw [show w0.heap.size + 1 = V0.heap.size from by rw [HV0.out, World.size_alloc]]
  clear q_m
  refine (konst_any 0 hz_0 H0.out).mono ?_
  rintro e w1 ⟨rfl, e10⟩
  have e1 : Env (w.heap.size + 1) W0 bm l1 (n + 40) (same_1 c) 0 w1 := e10
  have hr1 := InI.vars H0.out
  have b1 := e1.box (.int .i64 c.vars) 3
  obtain ⟨l2, hl2⟩ : ∃ l, l = (w1.heap.size, 0, Value.int .i64 c.vars) :: l1 := ⟨_, rfl⟩
  rw [← hl2] at b1
  obtain ⟨V1, hV1⟩ : ∃ W, W = w1.alloc (.cells #[.int .i64 c.vars] 3) := ⟨_, rfl⟩
  rw [← hV1] at b1
  have m_m := (show _ ∈ l2 from hl2 ▸ List.mem_cons_of_mem _ m_m)
  have m_no : (w1.heap.size, 0, Value.int .i64 c.vars) ∈ l2 := by rw [hl2]; exact List.mem_cons_self
  have HV1 := Lib.hid hV1
  have H1 := Lib.hid b1
  clear hV1 hl2 b1
  clear e1 e10
  have hS := keep2 m_m m_no H1.out.x
  rw [HV1.out] at hS
  go_wp2_with fail
  rw [← HV1.out] at hS ⊢
  go_region_held3 (fun w' => (w'.cell? ⟨w0.heap.size, 0, none⟩ = some (.pointer (some ⟨bm, 0, none⟩)) ∧ w'.cell? ⟨w1.heap.size, 0, none⟩ = some (.int .i64 c.vars)) ∧ EnvX (w.heap.size + 1) W0 bm l2 w')
    (first | exact hS | exact keep2 m_m m_no H1.out.x.drew | exact keep2 m_m m_no (Env.x (by assumption)) | exact keep2 m_m m_no (EnvX.drew (And.right (by assumption))) | exact keep2 m_m m_no (EnvX.alloc (Env.x (by assumption)) _) | exact keep2 m_m m_no (EnvX.alloc (And.right (by assumption)) _))
    (first | (go_at_call 31; (refine (math_any ⟨#[33, 61]⟩ 1 3 hz_1 hz_3 (by decide) H1.out.drew).mono ?_); rintro e w2 ⟨rfl, e20⟩; have e2 : Env (w.heap.size + 1) W0 bm l2 (n + 38) (same_2 c) 0 w2 := e20; clear e20) | (go_at_call 36; (refine (when_any (ba := #[]) (m := n + 35) (n := n + 33) (c3 := same1_F (whenIn (same_2 c) 0 (same_1 c).vars) (same_2 c).blocks.length c.vars) (k3 := same1_K (whenIn (same_2 c) 0 (same_1 c).vars) (same_2 c).blocks.length c.vars) (InI.vars H1.out) enters_same1 e2 (fun w2 e2 => by exact same1_any hr1 m_m m_no e2) (by rw [same1_len, whenIn_len]; omega)).mono ?_); rintro e w3 ⟨rfl, e30⟩; have e3 : Env (w.heap.size + 1) W0 bm l2 (n + 33) (same_3 c) ((same_2 c).blocks.length + 1) w3 := e30; clear e30))
  all_goals
    have hr2 := InI.vars H1.out
    have H3 := Lib.hid e3
    clear hS
    have q_m := H3.out.cell m_m
    have q_no := H3.out.cell m_no
    go_wp2_with fail
    clear q_m q_no
    refine (count_any (m := n + 24) (n := n + 3) (c3 := same2_F (countIn (same_3 c) ((same_2 c).blocks.length + 1) c.vars 1) ((same_3 c).blocks.length + 1) (same_3 c).vars c.vars) (k3 := same2_K (countIn (same_3 c) ((same_2 c).blocks.length + 1) c.vars 1) ((same_3 c).blocks.length + 1) (same_3 c).vars c.vars) hr1 hz_1 enters_same2 H3.out (fun w2 e2 => by exact same2_any (InI.vars H3.out) hr1 m_m m_no e2) (by rw [same2_len, countIn_len]; omega)).mono ?_
    rintro e w4 ⟨rfl, e40⟩
    have e4 : Env (w.heap.size + 1) W0 bm l2 (n + 3) (same_4 c) ((same_3 c).blocks.length + 2) w4 := e40
    have H4 := Lib.hid e4
    clear e4 e40
    have hS := keep2 m_m m_no H4.out.x
    go_wp2_with fail
    go_region_held3 (fun w' => (w'.cell? ⟨w0.heap.size, 0, none⟩ = some (.pointer (some ⟨bm, 0, none⟩)) ∧ w'.cell? ⟨w1.heap.size, 0, none⟩ = some (.int .i64 c.vars)) ∧ EnvX (w.heap.size + 1) W0 bm l2 w')
      (first | exact hS | exact keep2 m_m m_no H4.out.x.drew | exact keep2 m_m m_no (Env.x (by assumption)) | exact keep2 m_m m_no (EnvX.drew (And.right (by assumption))) | exact keep2 m_m m_no (EnvX.alloc (Env.x (by assumption)) _) | exact keep2 m_m m_no (EnvX.alloc (And.right (by assumption)) _))
      (first | (go_at_call 35; (refine (konst_any 1 hz_1 H4.out.drew).mono ?_); rintro e w5 ⟨rfl, e50⟩; have e5 : Env (w.heap.size + 1) W0 bm l2 (n + 1) (same_5 c) ((same_3 c).blocks.length + 2) w5 := e50; clear e50) | (go_at_call 34; (refine (back_any e5 ((Below.refl _ _).alloc (Nat.le_refl _) _) (rInts_all [(same_4 c).vars] (Nat.le_refl _) (lens rfl) (ini1 (InI.vars H4.out)) (new_one _ _))).mono ?_); rintro e w6 ⟨rfl, e60⟩; have e6 : Env (w.heap.size + 1) W0 bm l2 (n + 0) (same_6 c) ((same_3 c).blocks.length + 2) w6 := e60; clear e60))
    all_goals
      have hr5 := InI.vars H4.out
      have H6 := Lib.hid e6
      clear hS
      obtain ⟨hz1, hz2, gB, cB, ⟨d0, d1, d2, d3, d4, d5⟩, hrd⟩ := env_end H6.out
      obtain ⟨zc, zf⟩ := zero_cells w (HW0.out ▸ H6.out)
      have q_m := H6.out.cell m_m
      have z0 : w6.cell? ⟨w.heap.size, 0, none⟩ = some (.string ⟨#[]⟩) := zc 0
      have z1 : w6.cell? ⟨w.heap.size, 1, none⟩ = some (.int .i64 0) := zc 1
      have z2 : w6.cell? ⟨w.heap.size, 2, none⟩ = some (.int .i64 0) := zc 2
      have z3 : w6.cell? ⟨w.heap.size, 3, none⟩ = some (.int .i64 0) := zc 3
      have z4 : w6.cell? ⟨w.heap.size, 4, none⟩ = some (.int .i64 0) := zc 4
      have z5 : w6.cell? ⟨w.heap.size, 5, none⟩ = some (.slice none 0 0) := zc 5
      have y0 := zf 0
      have y1 := zf 1
      have y2 := zf 2
      have y3 := zf 3
      have y4 := zf 4
      have y5 := zf 5
      have hrd2 := Lib.hid hrd
      clear zc zf hrd
      go_wp2_with fail
      obtain ⟨V, hV, v0, v1, v2, v3, v4, v5, hs⟩ := box_six (.string (same_6 c).name) (.int .i64 (same_6 c).params) (.int .i64 (same_6 c).results) (.int .i64 (same_6 c).vars) (.int .i64 (same_6 c).slots) (.slice (some ⟨gB, 0, none⟩) (same_6 c).blocks.length cB) z0 z1 z2 z3 z4 z5
      rw [← hV]
      refine bodyPost_ret (v := .agg #[.string (same_6 c).name, .int .i64 (same_6 c).params, .int .i64 (same_6 c).results, .int .i64 (same_6 c).vars, .int .i64 (same_6 c).slots, .slice (some ⟨gB, 0, none⟩) (same_6 c).blocks.length cB]) (by simp [results, Try.results16, go_sem, v0, v1, v2, v3, v4, v5]) rfl ?_
      unfold same_C
      rw [← HC.out]
      exact code_post w (HW0.out ▸ H6.out) hs hrd2.out
end Go.Proofs.Ytaomlfbcfmmhlaa

/-
  rt's add, walked (printed by wip/gen_rtfn.py).
-/
namespace Go.Proofs.Ytaomlfbcfmmhlaa
open Go.RowKit Go.Pst
set_option linter.unusedVariables false
set_option linter.unusedSimpArgs false

def add_1 (c : PCode) : PCode := konstF c 0 1
def add_2 (c : PCode) : PCode := mathF (add_1 c) 0 ⟨#[43]⟩ 1 c.vars
def add_3 (c : PCode) : PCode := mathF (add_2 c) 0 ⟨#[60]⟩ 1 2
def add_4 (c : PCode) : PCode := whenOut (add1_F (whenIn (add_3 c) 0 (add_2 c).vars) (add_3 c).blocks.length (add_1 c).vars) (add1_K (whenIn (add_3 c) 0 (add_2 c).vars) (add_3 c).blocks.length (add_1 c).vars) (((add_3 c).blocks.length : Int) + 1)
def add_5 (c : PCode) : PCode := mathF (add_4 c) ((add_3 c).blocks.length + 1) ⟨#[43]⟩ 2 2
def add_6 (c : PCode) : PCode := konstF (add_5 c) ((add_3 c).blocks.length + 1) 4
def add_7 (c : PCode) : PCode := mathF (add_6 c) ((add_3 c).blocks.length + 1) ⟨#[60]⟩ (add_4 c).vars (add_5 c).vars
def add_8 (c : PCode) : PCode := whenOut (add2_F (whenIn (add_7 c) ((add_3 c).blocks.length + 1) (add_6 c).vars) (add_7 c).blocks.length (add_4 c).vars) (add2_K (whenIn (add_7 c) ((add_3 c).blocks.length + 1) (add_6 c).vars) (add_7 c).blocks.length (add_4 c).vars) (((add_7 c).blocks.length : Int) + 1)
def add_9 (c : PCode) : PCode := allocF (add_8 c) ((add_7 c).blocks.length + 1) (add_4 c).vars
def add_10 (c : PCode) : PCode := copyF (add_9 c) ((add_7 c).blocks.length + 1) (add_8 c).vars 0 1
def add_11 (c : PCode) : PCode := mathF (add_10 c) ((add_9 c).blocks.length + 2) ⟨#[43]⟩ (add_8 c).vars 1
def add_12 (c : PCode) : PCode := storeF (add_11 c) ((add_9 c).blocks.length + 2) (add_10 c).vars 0 3
def add_13 (c : PCode) : PCode := backF (add_12 c) ((add_9 c).blocks.length + 2) [(add_8 c).vars, (add_1 c).vars, (add_4 c).vars]
def add_C : PCode := add_13 (beginF ⟨#[95, 97, 100, 100]⟩ 4 3)
set_option maxHeartbeats 16000000 in
theorem rt_add_any (w : World) : Calls Try.prog 18 #[] w (CodePost w add_C) := by
  have hz_0 : InI 0 := ini rfl
  have hz_1 : InI 1 := ini rfl
  have hz_2 : InI 2 := ini rfl
  have hz_3 : InI 3 := ini rfl
  have hz_4 : InI 4 := ini rfl
  go_enter Try.func18, Try.ntmps18
  go_wp2_with fail
  refine (start_any ⟨#[95, 97, 100, 100]⟩ 4 3 (by decide) (by decide) (by decide) _).mono ?_
  rintro e w0 ⟨bm, rfl, e00⟩
  have e0 : Env (w.heap.size + 1) (w.alloc (.cells zeroCode 31)) bm [] 900000 (beginF ⟨#[95, 97, 100, 100]⟩ 4 3) 0 w0 := by
    rw [World.size_alloc] at e00; exact e00
  clear e00
  obtain ⟨n, hn⟩ : ∃ n, 900000 = n + 57 := ⟨900000 - 57, by decide⟩
  obtain ⟨c, hc⟩ : ∃ c, c = beginF ⟨#[95, 97, 100, 100]⟩ 4 3 := ⟨_, rfl⟩
  rw [← hc, hn] at e0
  have HC := Lib.hid hc
  clear hn hc
  obtain ⟨W0, hW0⟩ : ∃ W, W = w.alloc (.cells zeroCode 31) := ⟨_, rfl⟩
  rw [← hW0] at e0
  have HW0 := Lib.hid hW0
  clear hW0
  have b0 := e0.box (.pointer (some ⟨bm, 0, none⟩)) 54
  obtain ⟨l1, hl1⟩ : ∃ l, l = (w0.heap.size, 0, Value.pointer (some ⟨bm, 0, none⟩)) :: [] := ⟨_, rfl⟩
  rw [← hl1] at b0
  obtain ⟨V0, hV0⟩ : ∃ W, W = w0.alloc (.cells #[.pointer (some ⟨bm, 0, none⟩)] 54) := ⟨_, rfl⟩
  rw [← hV0] at b0
  have m_m : (w0.heap.size, 0, Value.pointer (some ⟨bm, 0, none⟩)) ∈ l1 := by rw [hl1]; exact List.mem_cons_self
  have HV0 := Lib.hid hV0
  have H0 := Lib.hid b0
  clear hV0 hl1 b0
  clear e0
  have q_m := H0.out.cell m_m
  rw [HV0.out] at q_m
  go_wp2_with fail
  rw [← HV0.out]
  try rw [show w0.heap.size + 1 = V0.heap.size from by rw [HV0.out, World.size_alloc]]
  clear q_m
  refine (konst_any 1 hz_1 H0.out).mono ?_
  rintro e w1 ⟨rfl, e10⟩
  have e1 : Env (w.heap.size + 1) W0 bm l1 (n + 55) (add_1 c) 0 w1 := e10
  have hr1 := InI.vars H0.out
  have H1 := Lib.hid e1
  clear e1 e10
  have q_m := H1.out.cell m_m
  go_wp2_with fail
  clear q_m
  refine (math_any ⟨#[43]⟩ 1 c.vars hz_1 hr1 (by decide) H1.out).mono ?_
  rintro e w2 ⟨rfl, e20⟩
  have e2 : Env (w.heap.size + 1) W0 bm l1 (n + 53) (add_2 c) 0 w2 := e20
  have hr2 := InI.vars H1.out
  have b2 := e2.box (.int .i64 (add_1 c).vars) 3
  obtain ⟨l2, hl2⟩ : ∃ l, l = (w2.heap.size, 0, Value.int .i64 (add_1 c).vars) :: l1 := ⟨_, rfl⟩
  rw [← hl2] at b2
  obtain ⟨V2, hV2⟩ : ∃ W, W = w2.alloc (.cells #[.int .i64 (add_1 c).vars] 3) := ⟨_, rfl⟩
  rw [← hV2] at b2
  have m_m := (show _ ∈ l2 from hl2 ▸ List.mem_cons_of_mem _ m_m)
  have m_n : (w2.heap.size, 0, Value.int .i64 (add_1 c).vars) ∈ l2 := by rw [hl2]; exact List.mem_cons_self
  have HV2 := Lib.hid hV2
  have H2 := Lib.hid b2
  clear hV2 hl2 b2
  clear e2 e20
  have hS := keep2 m_m m_n H2.out.x
  rw [HV2.out] at hS
  go_wp2_with fail
  rw [← HV2.out] at hS ⊢
  go_region_held3 (fun w' => (w'.cell? ⟨w0.heap.size, 0, none⟩ = some (.pointer (some ⟨bm, 0, none⟩)) ∧ w'.cell? ⟨w2.heap.size, 0, none⟩ = some (.int .i64 (add_1 c).vars)) ∧ EnvX (w.heap.size + 1) W0 bm l2 w')
    (first | exact hS | exact keep2 m_m m_n H2.out.x.drew | exact keep2 m_m m_n (Env.x (by assumption)) | exact keep2 m_m m_n (EnvX.drew (And.right (by assumption))) | exact keep2 m_m m_n (EnvX.alloc (Env.x (by assumption)) _) | exact keep2 m_m m_n (EnvX.alloc (And.right (by assumption)) _))
    (first | (go_at_call 31; (refine (math_any ⟨#[60]⟩ 1 2 hz_1 hz_2 (by decide) H2.out.drew).mono ?_); rintro e w3 ⟨rfl, e30⟩; have e3 : Env (w.heap.size + 1) W0 bm l2 (n + 51) (add_3 c) 0 w3 := e30; clear e30) | (go_at_call 36; (refine (when_any (ba := #[]) (m := n + 48) (n := n + 43) (c3 := add1_F (whenIn (add_3 c) 0 (add_2 c).vars) (add_3 c).blocks.length (add_1 c).vars) (k3 := add1_K (whenIn (add_3 c) 0 (add_2 c).vars) (add_3 c).blocks.length (add_1 c).vars) (InI.vars H2.out) enters_add1 e3 (fun w2 e2 => by exact add1_any hr2 m_m m_n e2) (by rw [add1_len, whenIn_len]; omega)).mono ?_); rintro e w4 ⟨rfl, e40⟩; have e4 : Env (w.heap.size + 1) W0 bm l2 (n + 43) (add_4 c) ((add_3 c).blocks.length + 1) w4 := e40; clear e40))
  all_goals
    have hr3 := InI.vars H2.out
    have H4 := Lib.hid e4
    clear hS
    have q_m := H4.out.cell m_m
    have q_n := H4.out.cell m_n
    go_wp2_with fail
    clear q_m q_n
    refine (math_any ⟨#[43]⟩ 2 2 hz_2 hz_2 (by decide) H4.out).mono ?_
    rintro e w5 ⟨rfl, e50⟩
    have e5 : Env (w.heap.size + 1) W0 bm l2 (n + 41) (add_5 c) ((add_3 c).blocks.length + 1) w5 := e50
    have hr5 := InI.vars H4.out
    have b5 := e5.box (.int .i64 (add_4 c).vars) 3
    obtain ⟨l3, hl3⟩ : ∃ l, l = (w5.heap.size, 0, Value.int .i64 (add_4 c).vars) :: l2 := ⟨_, rfl⟩
    rw [← hl3] at b5
    obtain ⟨V5, hV5⟩ : ∃ W, W = w5.alloc (.cells #[.int .i64 (add_4 c).vars] 3) := ⟨_, rfl⟩
    rw [← hV5] at b5
    have m_m := (show _ ∈ l3 from hl3 ▸ List.mem_cons_of_mem _ m_m)
    have m_n := (show _ ∈ l3 from hl3 ▸ List.mem_cons_of_mem _ m_n)
    have m_room : (w5.heap.size, 0, Value.int .i64 (add_4 c).vars) ∈ l3 := by rw [hl3]; exact List.mem_cons_self
    have HV5 := Lib.hid hV5
    have H5 := Lib.hid b5
    clear hV5 hl3 b5
    clear e5 e50
    have hS := keep3 m_m m_n m_room H5.out.x
    rw [HV5.out] at hS
    go_wp2_with fail
    rw [← HV5.out] at hS ⊢
    go_region_held3 (fun w' => (w'.cell? ⟨w0.heap.size, 0, none⟩ = some (.pointer (some ⟨bm, 0, none⟩)) ∧ w'.cell? ⟨w2.heap.size, 0, none⟩ = some (.int .i64 (add_1 c).vars) ∧ w'.cell? ⟨w5.heap.size, 0, none⟩ = some (.int .i64 (add_4 c).vars)) ∧ EnvX (w.heap.size + 1) W0 bm l3 w')
      (first | exact hS | exact keep3 m_m m_n m_room H5.out.x.drew | exact keep3 m_m m_n m_room (Env.x (by assumption)) | exact keep3 m_m m_n m_room (EnvX.drew (And.right (by assumption))) | exact keep3 m_m m_n m_room (EnvX.alloc (Env.x (by assumption)) _) | exact keep3 m_m m_n m_room (EnvX.alloc (And.right (by assumption)) _))
      (first | (go_at_call 35; (refine (konst_any 4 hz_4 H5.out.drew).mono ?_); rintro e w6 ⟨rfl, e60⟩; have e6 : Env (w.heap.size + 1) W0 bm l3 (n + 39) (add_6 c) ((add_3 c).blocks.length + 1) w6 := e60; clear e60) | (go_at_call 31; (refine (math_any ⟨#[60]⟩ (add_4 c).vars (add_5 c).vars hr5 (InI.vars H5.out) (by decide) e6).mono ?_); rintro e w7 ⟨rfl, e70⟩; have e7 : Env (w.heap.size + 1) W0 bm l3 (n + 37) (add_7 c) ((add_3 c).blocks.length + 1) w7 := e70; clear e70) | (go_at_call 36; (refine (when_any (ba := #[]) (m := n + 34) (n := n + 30) (c3 := add2_F (whenIn (add_7 c) ((add_3 c).blocks.length + 1) (add_6 c).vars) (add_7 c).blocks.length (add_4 c).vars) (k3 := add2_K (whenIn (add_7 c) ((add_3 c).blocks.length + 1) (add_6 c).vars) (add_7 c).blocks.length (add_4 c).vars) (InI.vars e6) enters_add2 e7 (fun w2 e2 => by exact add2_any hr5 m_m m_room e2) (by rw [add2_len, whenIn_len]; omega)).mono ?_); rintro e w8 ⟨rfl, e80⟩; have e8 : Env (w.heap.size + 1) W0 bm l3 (n + 30) (add_8 c) ((add_7 c).blocks.length + 1) w8 := e80; clear e80))
    all_goals
      have hr6 := InI.vars H5.out
      have hr7 := InI.vars e6
      have H8 := Lib.hid e8
      clear hS
      have q_m := H8.out.cell m_m
      have q_n := H8.out.cell m_n
      have q_room := H8.out.cell m_room
      go_wp2_with fail
      clear q_m q_n q_room
      refine (alloc_any (add_4 c).vars hr5 H8.out).mono ?_
      rintro e w9 ⟨rfl, e90⟩
      have e9 : Env (w.heap.size + 1) W0 bm l3 (n + 28) (add_9 c) ((add_7 c).blocks.length + 1) w9 := e90
      have hr9 := InI.vars H8.out
      have H9 := Lib.hid e9
      clear e9 e90
      have q_m := H9.out.cell m_m
      have q_n := H9.out.cell m_n
      have q_room := H9.out.cell m_room
      go_wp2_with fail
      clear q_m q_n q_room
      refine (copy_any hr9 hz_0 hz_1 H9.out).mono ?_
      rintro e w10 ⟨rfl, e100⟩
      have e10 : Env (w.heap.size + 1) W0 bm l3 (n + 4) (add_10 c) ((add_9 c).blocks.length + 2) w10 := e100
      have H10 := Lib.hid e10
      clear e10 e100
      have hS := keep3 m_m m_n m_room H10.out.x
      go_wp2_with fail
      go_region_held3 (fun w' => (w'.cell? ⟨w0.heap.size, 0, none⟩ = some (.pointer (some ⟨bm, 0, none⟩)) ∧ w'.cell? ⟨w2.heap.size, 0, none⟩ = some (.int .i64 (add_1 c).vars) ∧ w'.cell? ⟨w5.heap.size, 0, none⟩ = some (.int .i64 (add_4 c).vars)) ∧ EnvX (w.heap.size + 1) W0 bm l3 w')
        (first | exact hS | exact keep3 m_m m_n m_room H10.out.x.drew | exact keep3 m_m m_n m_room (Env.x (by assumption)) | exact keep3 m_m m_n m_room (EnvX.drew (And.right (by assumption))) | exact keep3 m_m m_n m_room (EnvX.alloc (Env.x (by assumption)) _) | exact keep3 m_m m_n m_room (EnvX.alloc (And.right (by assumption)) _))
        (first | (go_at_call 31; (refine (math_any ⟨#[43]⟩ (add_8 c).vars 1 hr9 hz_1 (by decide) H10.out.drew).mono ?_); rintro e w11 ⟨rfl, e110⟩; have e11 : Env (w.heap.size + 1) W0 bm l3 (n + 2) (add_11 c) ((add_9 c).blocks.length + 2) w11 := e110; clear e110) | (go_at_call 48; (refine (store_any (add_10 c).vars 0 3 (InI.vars H10.out) hz_0 hz_3 e11).mono ?_); rintro e w12 ⟨rfl, e120⟩; have e12 : Env (w.heap.size + 1) W0 bm l3 (n + 1) (add_12 c) ((add_9 c).blocks.length + 2) w12 := e120; clear e120))
      all_goals
        have hr11 := InI.vars H10.out
        have H12 := Lib.hid e12
        clear hS
        have q_m := H12.out.cell m_m
        have q_n := H12.out.cell m_n
        have q_room := H12.out.cell m_room
        go_wp2_with fail
        clear q_m q_n q_room
        refine (back_any H12.out ((Below.refl _ _).alloc (Nat.le_refl _) _) (rInts_all [(add_8 c).vars, (add_1 c).vars, (add_4 c).vars] (Nat.le_refl _) (lens rfl) (ini3 hr9 hr2 hr5) (new_one _ _))).mono ?_
        rintro e w13 ⟨rfl, e130⟩
        have e13 : Env (w.heap.size + 1) W0 bm l3 (n + 0) (add_13 c) ((add_9 c).blocks.length + 2) w13 := e130
        have H13 := Lib.hid e13
        clear e13 e130
        obtain ⟨hz1, hz2, gB, cB, ⟨d0, d1, d2, d3, d4, d5⟩, hrd⟩ := env_end H13.out
        obtain ⟨zc, zf⟩ := zero_cells w (HW0.out ▸ H13.out)
        have q_m := H13.out.cell m_m
        have z0 : w13.cell? ⟨w.heap.size, 0, none⟩ = some (.string ⟨#[]⟩) := zc 0
        have z1 : w13.cell? ⟨w.heap.size, 1, none⟩ = some (.int .i64 0) := zc 1
        have z2 : w13.cell? ⟨w.heap.size, 2, none⟩ = some (.int .i64 0) := zc 2
        have z3 : w13.cell? ⟨w.heap.size, 3, none⟩ = some (.int .i64 0) := zc 3
        have z4 : w13.cell? ⟨w.heap.size, 4, none⟩ = some (.int .i64 0) := zc 4
        have z5 : w13.cell? ⟨w.heap.size, 5, none⟩ = some (.slice none 0 0) := zc 5
        have y0 := zf 0
        have y1 := zf 1
        have y2 := zf 2
        have y3 := zf 3
        have y4 := zf 4
        have y5 := zf 5
        have hrd2 := Lib.hid hrd
        clear zc zf hrd
        go_wp2_with fail
        obtain ⟨V, hV, v0, v1, v2, v3, v4, v5, hs⟩ := box_six (.string (add_13 c).name) (.int .i64 (add_13 c).params) (.int .i64 (add_13 c).results) (.int .i64 (add_13 c).vars) (.int .i64 (add_13 c).slots) (.slice (some ⟨gB, 0, none⟩) (add_13 c).blocks.length cB) z0 z1 z2 z3 z4 z5
        rw [← hV]
        refine bodyPost_ret (v := .agg #[.string (add_13 c).name, .int .i64 (add_13 c).params, .int .i64 (add_13 c).results, .int .i64 (add_13 c).vars, .int .i64 (add_13 c).slots, .slice (some ⟨gB, 0, none⟩) (add_13 c).blocks.length cB]) (by simp [results, Try.results18, go_sem, v0, v1, v2, v3, v4, v5]) rfl ?_
        unfold add_C
        rw [← HC.out]
        exact code_post w (HW0.out ▸ H13.out) hs hrd2.out
end Go.Proofs.Ytaomlfbcfmmhlaa

/-
  rt's find, walked (printed by wip/gen_rtfn.py).
-/
namespace Go.Proofs.Ytaomlfbcfmmhlaa
open Go.RowKit Go.Pst
set_option linter.unusedVariables false
set_option linter.unusedSimpArgs false

def find_1 (c : PCode) : PCode := freshF c
def find_2 (c : PCode) : PCode := loadF (find_1 c) 0 0 2
def find_3 (c : PCode) : PCode := setF (find_2 c) 0 c.vars (find_1 c).vars
def find_4 (c : PCode) : PCode := konstF (find_3 c) 0 0
def find_5 (c : PCode) : PCode := loadF (find_4 c) 0 0 0
def find_6 (c : PCode) : PCode := countOut (find1_F (countIn (find_5 c) 0 (find_3 c).vars (find_4 c).vars) ((find_5 c).blocks.length + 1) (find_5 c).vars c.vars) (find1_K (countIn (find_5 c) 0 (find_3 c).vars (find_4 c).vars) ((find_5 c).blocks.length + 1) (find_5 c).vars c.vars) (find_5 c).vars (find_5 c).blocks.length
def find_7 (c : PCode) : PCode := konstF (find_6 c) ((find_5 c).blocks.length + 2) (-1)
def find_8 (c : PCode) : PCode := backF (find_7 c) ((find_5 c).blocks.length + 2) [(find_6 c).vars]
def find_C : PCode := find_8 (beginF ⟨#[95, 102, 105, 110, 100]⟩ 2 1)
set_option maxHeartbeats 16000000 in
theorem rt_find_any (w : World) : Calls Try.prog 20 #[] w (CodePost w find_C) := by
  have hz_m1 : InI (-1) := ini rfl
  have hz_0 : InI 0 := ini rfl
  have hz_2 : InI 2 := ini rfl
  go_enter Try.func20, Try.ntmps20
  go_wp2_with fail
  refine (start_any ⟨#[95, 102, 105, 110, 100]⟩ 2 1 (by decide) (by decide) (by decide) _).mono ?_
  rintro e w0 ⟨bm, rfl, e00⟩
  have e0 : Env (w.heap.size + 1) (w.alloc (.cells zeroCode 31)) bm [] 900000 (beginF ⟨#[95, 102, 105, 110, 100]⟩ 2 1) 0 w0 := by
    rw [World.size_alloc] at e00; exact e00
  clear e00
  obtain ⟨n, hn⟩ : ∃ n, 900000 = n + 46 := ⟨900000 - 46, by decide⟩
  obtain ⟨c, hc⟩ : ∃ c, c = beginF ⟨#[95, 102, 105, 110, 100]⟩ 2 1 := ⟨_, rfl⟩
  rw [← hc, hn] at e0
  have HC := Lib.hid hc
  clear hn hc
  obtain ⟨W0, hW0⟩ : ∃ W, W = w.alloc (.cells zeroCode 31) := ⟨_, rfl⟩
  rw [← hW0] at e0
  have HW0 := Lib.hid hW0
  clear hW0
  have b0 := e0.box (.pointer (some ⟨bm, 0, none⟩)) 54
  obtain ⟨l1, hl1⟩ : ∃ l, l = (w0.heap.size, 0, Value.pointer (some ⟨bm, 0, none⟩)) :: [] := ⟨_, rfl⟩
  rw [← hl1] at b0
  obtain ⟨V0, hV0⟩ : ∃ W, W = w0.alloc (.cells #[.pointer (some ⟨bm, 0, none⟩)] 54) := ⟨_, rfl⟩
  rw [← hV0] at b0
  have m_m : (w0.heap.size, 0, Value.pointer (some ⟨bm, 0, none⟩)) ∈ l1 := by rw [hl1]; exact List.mem_cons_self
  have HV0 := Lib.hid hV0
  have H0 := Lib.hid b0
  clear hV0 hl1 b0
  clear e0
  have q_m := H0.out.cell m_m
  rw [HV0.out] at q_m
  go_wp2_with fail
  rw [← HV0.out]
  try rw [show w0.heap.size + 1 = V0.heap.size from by rw [HV0.out, World.size_alloc]]
  clear q_m
  refine (fresh_any H0.out).mono ?_
  rintro e w1 ⟨rfl, e10⟩
  have e1 : Env (w.heap.size + 1) W0 bm l1 (n + 45) (find_1 c) 0 w1 := e10
  have hr1 := InI.vars H0.out
  have b1 := e1.box (.int .i64 c.vars) 3
  obtain ⟨l2, hl2⟩ : ∃ l, l = (w1.heap.size, 0, Value.int .i64 c.vars) :: l1 := ⟨_, rfl⟩
  rw [← hl2] at b1
  obtain ⟨V1, hV1⟩ : ∃ W, W = w1.alloc (.cells #[.int .i64 c.vars] 3) := ⟨_, rfl⟩
  rw [← hV1] at b1
  have m_m := (show _ ∈ l2 from hl2 ▸ List.mem_cons_of_mem _ m_m)
  have m_at_ : (w1.heap.size, 0, Value.int .i64 c.vars) ∈ l2 := by rw [hl2]; exact List.mem_cons_self
  have HV1 := Lib.hid hV1
  have H1 := Lib.hid b1
  clear hV1 hl2 b1
  clear e1 e10
  have hS := keep2 m_m m_at_ H1.out.x
  rw [HV1.out] at hS
  go_wp2_with fail
  rw [← HV1.out] at hS ⊢
  go_region_held3 (fun w' => (w'.cell? ⟨w0.heap.size, 0, none⟩ = some (.pointer (some ⟨bm, 0, none⟩)) ∧ w'.cell? ⟨w1.heap.size, 0, none⟩ = some (.int .i64 c.vars)) ∧ EnvX (w.heap.size + 1) W0 bm l2 w')
    (first | exact hS | exact keep2 m_m m_at_ H1.out.x.drew | exact keep2 m_m m_at_ (Env.x (by assumption)) | exact keep2 m_m m_at_ (EnvX.drew (And.right (by assumption))) | exact keep2 m_m m_at_ (EnvX.alloc (Env.x (by assumption)) _) | exact keep2 m_m m_at_ (EnvX.alloc (And.right (by assumption)) _))
    (first | (go_at_call 40; (refine (load_any 0 2 hz_0 hz_2 H1.out.drew).mono ?_); rintro e w2 ⟨rfl, e20⟩; have e2 : Env (w.heap.size + 1) W0 bm l2 (n + 43) (find_2 c) 0 w2 := e20; clear e20) | (go_at_call 43; (refine (set_any c.vars (find_1 c).vars hr1 (InI.vars H1.out) e2).mono ?_); rintro e w3 ⟨rfl, e30⟩; have e3 : Env (w.heap.size + 1) W0 bm l2 (n + 42) (find_3 c) 0 w3 := e30; clear e30))
  all_goals
    have hr2 := InI.vars H1.out
    have H3 := Lib.hid e3
    clear hS
    have hS := keep2 m_m m_at_ H3.out.x
    go_wp2_with fail
    go_region_held3 (fun w' => (w'.cell? ⟨w0.heap.size, 0, none⟩ = some (.pointer (some ⟨bm, 0, none⟩)) ∧ w'.cell? ⟨w1.heap.size, 0, none⟩ = some (.int .i64 c.vars)) ∧ EnvX (w.heap.size + 1) W0 bm l2 w')
      (first | exact hS | exact keep2 m_m m_at_ H3.out.x.drew | exact keep2 m_m m_at_ (Env.x (by assumption)) | exact keep2 m_m m_at_ (EnvX.drew (And.right (by assumption))) | exact keep2 m_m m_at_ (EnvX.alloc (Env.x (by assumption)) _) | exact keep2 m_m m_at_ (EnvX.alloc (And.right (by assumption)) _))
      (first | (go_at_call 35; (refine (konst_any 0 hz_0 H3.out.drew).mono ?_); rintro e w4 ⟨rfl, e40⟩; have e4 : Env (w.heap.size + 1) W0 bm l2 (n + 40) (find_4 c) 0 w4 := e40; clear e40) | (go_at_call 40; (refine (load_any 0 0 hz_0 hz_0 e4).mono ?_); rintro e w5 ⟨rfl, e50⟩; have e5 : Env (w.heap.size + 1) W0 bm l2 (n + 38) (find_5 c) 0 w5 := e50; clear e50) | (go_at_call 38; (refine (count_any (m := n + 29) (n := n + 3) (c3 := find1_F (countIn (find_5 c) 0 (find_3 c).vars (find_4 c).vars) ((find_5 c).blocks.length + 1) (find_5 c).vars c.vars) (k3 := find1_K (countIn (find_5 c) 0 (find_3 c).vars (find_4 c).vars) ((find_5 c).blocks.length + 1) (find_5 c).vars c.vars) (InI.vars H3.out) (InI.vars e4) enters_find1 e5 (fun w2 e2 => by exact find1_any (InI.vars e5) hr1 m_m m_at_ e2) (by rw [find1_len, countIn_len]; omega)).mono ?_); rintro e w6 ⟨rfl, e60⟩; have e6 : Env (w.heap.size + 1) W0 bm l2 (n + 3) (find_6 c) ((find_5 c).blocks.length + 2) w6 := e60; clear e60))
    all_goals
      have hr4 := InI.vars H3.out
      have hr5 := InI.vars e4
      have H6 := Lib.hid e6
      clear hS
      have hS := keep2 m_m m_at_ H6.out.x
      go_wp2_with fail
      go_region_held3 (fun w' => (w'.cell? ⟨w0.heap.size, 0, none⟩ = some (.pointer (some ⟨bm, 0, none⟩)) ∧ w'.cell? ⟨w1.heap.size, 0, none⟩ = some (.int .i64 c.vars)) ∧ EnvX (w.heap.size + 1) W0 bm l2 w')
        (first | exact hS | exact keep2 m_m m_at_ H6.out.x.drew | exact keep2 m_m m_at_ (Env.x (by assumption)) | exact keep2 m_m m_at_ (EnvX.drew (And.right (by assumption))) | exact keep2 m_m m_at_ (EnvX.alloc (Env.x (by assumption)) _) | exact keep2 m_m m_at_ (EnvX.alloc (And.right (by assumption)) _))
        (first | (go_at_call 35; (refine (konst_any (-1) hz_m1 H6.out.drew).mono ?_); rintro e w7 ⟨rfl, e70⟩; have e7 : Env (w.heap.size + 1) W0 bm l2 (n + 1) (find_7 c) ((find_5 c).blocks.length + 2) w7 := e70; clear e70) | (go_at_call 34; (refine (back_any e7 ((Below.refl _ _).alloc (Nat.le_refl _) _) (rInts_all [(find_6 c).vars] (Nat.le_refl _) (lens rfl) (ini1 (InI.vars H6.out)) (new_one _ _))).mono ?_); rintro e w8 ⟨rfl, e80⟩; have e8 : Env (w.heap.size + 1) W0 bm l2 (n + 0) (find_8 c) ((find_5 c).blocks.length + 2) w8 := e80; clear e80))
      all_goals
        have hr7 := InI.vars H6.out
        have H8 := Lib.hid e8
        clear hS
        obtain ⟨hz1, hz2, gB, cB, ⟨d0, d1, d2, d3, d4, d5⟩, hrd⟩ := env_end H8.out
        obtain ⟨zc, zf⟩ := zero_cells w (HW0.out ▸ H8.out)
        have q_m := H8.out.cell m_m
        have z0 : w8.cell? ⟨w.heap.size, 0, none⟩ = some (.string ⟨#[]⟩) := zc 0
        have z1 : w8.cell? ⟨w.heap.size, 1, none⟩ = some (.int .i64 0) := zc 1
        have z2 : w8.cell? ⟨w.heap.size, 2, none⟩ = some (.int .i64 0) := zc 2
        have z3 : w8.cell? ⟨w.heap.size, 3, none⟩ = some (.int .i64 0) := zc 3
        have z4 : w8.cell? ⟨w.heap.size, 4, none⟩ = some (.int .i64 0) := zc 4
        have z5 : w8.cell? ⟨w.heap.size, 5, none⟩ = some (.slice none 0 0) := zc 5
        have y0 := zf 0
        have y1 := zf 1
        have y2 := zf 2
        have y3 := zf 3
        have y4 := zf 4
        have y5 := zf 5
        have hrd2 := Lib.hid hrd
        clear zc zf hrd
        go_wp2_with fail
        obtain ⟨V, hV, v0, v1, v2, v3, v4, v5, hs⟩ := box_six (.string (find_8 c).name) (.int .i64 (find_8 c).params) (.int .i64 (find_8 c).results) (.int .i64 (find_8 c).vars) (.int .i64 (find_8 c).slots) (.slice (some ⟨gB, 0, none⟩) (find_8 c).blocks.length cB) z0 z1 z2 z3 z4 z5
        rw [← hV]
        refine bodyPost_ret (v := .agg #[.string (find_8 c).name, .int .i64 (find_8 c).params, .int .i64 (find_8 c).results, .int .i64 (find_8 c).vars, .int .i64 (find_8 c).slots, .slice (some ⟨gB, 0, none⟩) (find_8 c).blocks.length cB]) (by simp [results, Try.results20, go_sem, v0, v1, v2, v3, v4, v5]) rfl ?_
        unfold find_C
        rw [← HC.out]
        exact code_post w (HW0.out ▸ H8.out) hs hrd2.out
end Go.Proofs.Ytaomlfbcfmmhlaa

/-
  rt's maker: invoke of one result, walked.
-/
namespace Go.Proofs.Ytaomlfbcfmmhlaa
open Go.RowKit Go.Pst
set_option linter.unusedVariables false
set_option linter.unusedSimpArgs false

variable {B bm n k : Nat} {w0 w : World} {l : List (Nat × Nat × Value)} {c : PCode}
theorem fresh_exact {v : Int} (c3 : w.cell? ⟨bm, 3, none⟩ = some (.int .i64 v)) (z3 : w.frozen? ⟨bm, 3, none⟩ = false) (hv : 0 ≤ v ∧ v ≤ 1000000) :
    Calls Try.prog 42 #[.pointer (some ⟨bm, 0, none⟩)] w fun e w' => e = .returned (.int .i64 v) ∧ w' = w.setCell ⟨bm, 3, none⟩ (.int .i64 (v + 1)) := by
  obtain ⟨hv1, hv2⟩ := hv
  go_enter Try.func42, Try.ntmps42
  go_wp2_with fail
  go_ret
  exact ⟨ret_int (by omega), rfl⟩
theorem infoInt : (Try.prog.info? 3).map (fun i => (i.zero, i.size, i.bytes)) = some (some (.int .i64 0), 1, 8) := by kernel_rfl
def invokeF (c : PCode) (k : Nat) (name : ByteArray) (a : List Int) : PCode := addF (freshF c) k ⟨7, [c.vars], a, 0, name, []⟩
set_option maxHeartbeats 4000000 in
theorem invoke_any {w1 : World} {name : ByteArray} {aA : Option Addr} {nA cA : Nat} {a : List Int} (hn : name.size ≤ maxLen) (h : Env B w0 bm l (n + 2) c k w1) (hbw : Below w1.heap.size w1 w) (ha : rInts (fun x => w1.heap.size ≤ x) w [.slice aA nA cA] a) :
    Calls Try.prog 53 #[.pointer (some ⟨bm, 0, none⟩), .string name, .int .i64 1, .slice aA nA cA] w fun e w' => ∃ g cap, e = .returned (.slice (some ⟨g, 0, none⟩) 1 cap) ∧ w'.cell? ⟨g, 0, none⟩ = some (.int .i64 c.vars) ∧ Env B w0 bm l n (invokeF c k name a) k w' := by
  have hv := h.fine.vars
  obtain ⟨X, M, ⟨gB, cB, vs, hc⟩, hf, hl, hb, hB, hM⟩ := h
  have hx := hc.x_.2.2
  have hcw := hc.below hbw
  have c3 : w.cell? ⟨bm, 3, none⟩ = some (.int .i64 c.vars) := by simpa using hcw.c3
  have z3 := hcw.z 3
  obtain ⟨i0, hi0, hz0, hz1, hz2⟩ := info_parts infoInt
  have Hc := Lib.hid hc
  have Hcw := Lib.hid hcw
  have Hf := Lib.hid hf
  have Hl := Lib.hid hl
  have Hb := Lib.hid hb
  have HB := Lib.hid hbw
  have HA := Lib.hid ha
  clear hc hcw hf hl hb hbw ha
  go_enter Try.func53, Try.ntmps53
  go_wp2_with fail
  go_loopw [9, 11] (fun v i wr => (v = .slice none 0 0 ∧ i = .int .i64 0 ∧ wr = w) ∨ ∃ g cap, v = .slice (some ⟨g, 0, none⟩) 1 cap ∧ i = .int .i64 1 ∧ wr.ownsRow 0 3 1 (.slice (some ⟨g, 0, none⟩) 1 cap) 1 [.int .i64 c.vars] ∧ w.heap.size ≤ g ∧ g < wr.heap.size ∧ Since (fun _ => False) (w.setCell ⟨bm, 3, none⟩ (.int .i64 (c.vars + 1))) wr) (fun _ i _ => 1 - (intOf i).toNat)
  case atStart => exact Or.inl ⟨rfl, rfl, rfl⟩
  case round =>
    rcases hrel with ⟨rfl, rfl, hw⟩ | ⟨g, cap, rfl, rfl, hg, hgs, hgl, hsn⟩
    · subst hw
      go_wp2_with fail
      refine (fresh_exact c3 z3 ⟨by omega, by omega⟩).mono ?_
      rintro e w2 ⟨rfl, hw2⟩
      have HW2 := Lib.hid hw2
      clear hw2
      go_wp2_with (at_builtin; refine wpList_append_own_at _ rfl _ _ 25 rfl 0 3 i0 (.int .i64 0) 1 8 Try.underlying25 hi0 hz0 hz1 hz2 rfl (by decide) (.slice none 0 0) 0 [] rfl ⟨rfl, Or.inl ⟨rfl, rfl⟩⟩ ⟨w2.heap.size, 0, none⟩ 1 1 [.int .i64 c.vars] rfl rfl (cell_one_new _ _ _) (by intro u hu; simp at hu; subst hu; rfl) (by unfold maxLen; omega) (by omega) (Nat.zero_le _) ?_; intro v' w3 hown hgrow hnil hat; clear hnil; obtain ⟨g, cap, hv'⟩ : ∃ g' c', v' = .slice (some ⟨g', 0, none⟩) (0 + 1) c' := row_some hown; subst hv')
      have hw2 := HW2.out
      have hs2 : w2.heap.size = wr.heap.size := by rw [hw2]; simp
      have hgz : g = w2.heap.size + 1 := by
        simp [Value.ownBlock] at hat
        omega
      have hsz := (hown.lt g rfl).2
      refine ⟨Or.inr ⟨g, cap, rfl, rfl, ?_, by omega, hsz, ?_⟩, by simp [intOf]⟩
      · exact hown
      · rw [← hw2]
        exact ((Since.alloc _ _ _).trans ((Since.grown hgrow).mono (fun x hx => by simp [Value.ownBlock] at hx)))
    · go_wp2_with fail
      have hcw := Hcw.out
      have hbn := hsn.below (Nat.le_refl _) (fun x hx => hx.elim)
      have hfit := hcw.fit
      have hbm := hcw.lt
      have hc1 := hcw.setBox 3 (.int .i64 (c.vars + 1)) (freshF c) k (by decide) rfl hcw.at_ ⟨hfit.1, hfit.2.1, hfit.2.2.1, ⟨by show _ ≤ c.vars + 1; omega, by show c.vars + 1 ≤ _; omega⟩, hfit.2.2.2.2⟩ rfl rfl rfl rfl rfl rfl
      have hc2 := hc1.below hbn
      have hsS : Since M w wr := (Since.setCell w ⟨bm, 3, none⟩ (.int .i64 (c.vars + 1))).mono (fun x hx => by rw [hx]; exact hcw.m_box) |>.trans (hsn.mono (fun _ h => h.elim))
      have hgM : ¬ M g := fun m => by have := hcw.m_lt m; omega
      have haM : rInts (fun x => ¬ M x) wr [.slice aA nA cA] a := Good.keep (S := fun x => w1.heap.size ≤ x ∧ ¬ M x) ⟨hsS.size, fun x hx hS => hsS.block x hx hS.2⟩ (fun x _ hS => hS.2) (Good.wide HA.out (fun x _ hS => ⟨hS, fun m => by have := Hc.out.m_lt m; omega⟩))
      have hdM : rInts (fun x => ¬ M x) wr [.slice (some ⟨g, 0, none⟩) 1 cap] [c.vars] := rSlice_own hg (fun x hx => by simp [Value.ownBlock] at hx; rw [← hx]; exact hgM) (fun i hi => ⟨.int .i64 c.vars, by simp at hi; subst hi; rfl, by simp at hi; subst hi; exact ⟨rfl, hfit.2.2.2.1⟩⟩)
      have hb0 := Hb.out
      have hB2 := HB.out
      have s0 := hb0.size
      have s1 := hB2.size
      have hl2 : ∀ p ∈ l, X p.1 ∧ wr.cell? ⟨p.1, p.2.1, none⟩ = some p.2.2 ∧ wr.frozen? ⟨p.1, p.2.1, none⟩ = false := fun p hp => by
        obtain ⟨l1, l3⟩ := Hl.out p hp
        have l2 := hx _ l1
        have l4 : ¬ (p.1 = bm) := fun e => hcw.x_.1 (e ▸ l1)
        have hsT : Since (fun x => x = bm) w wr := (Since.setCell w ⟨bm, 3, none⟩ (.int .i64 (c.vars + 1))).trans (hsn.mono (fun _ h => h.elim))
        exact ⟨l1, (hsT.cell (by omega) l4).trans ((hB2.cell (p := ⟨p.1, p.2.1, none⟩) l2).trans l3.1), (hsT.frozen (by omega) l4).trans ((hB2.frozen (p := ⟨p.1, p.2.1, none⟩) l2).trans l3.2)⟩
      have hX := hcw.x_.1
      have hb2 : Below B w0 wr := (hb0.trans (hB2.mono (by omega))).trans (((Since.setCell w ⟨bm, 3, none⟩ (.int .i64 (c.vars + 1))).trans (hsn.mono (fun _ h => h.elim))).below (by omega) (fun x hx => by simp at hx; rw [hx]; exact Nat.le_of_not_lt fun h => hX (hM _ h)))
      have hcg : wr.cell? ⟨g, 0, none⟩ = some (.int .i64 c.vars) := by
        rcases hg.2 with ⟨h, _⟩ | ⟨g2, c2, cur, hv2, _, hgx, _, _, _, ht⟩
        · cases h
        · injection hv2 with h1 _ _
          injection h1 with h1
          injection h1 with h1
          subst h1
          have : cur.toList[0]? = some (Value.int .i64 c.vars) := by
            have := congrArg (fun l => l[0]?) ht
            simpa [List.getElem?_take] using this
          simpa [World.cell?, hgx] using this
      refine (add_anyM hc2 Hf.out.fresh hl2 hb2 hB hM (lit_instr (ini rfl) (ini rfl) hn hdM haM (rSlice_nil _ _ _ _))).mono ?_
      rintro e w4 ⟨rfl, h4, h5⟩
      have H5 := Lib.hid h5
      clear h5
      have H4 := Lib.hid h4
      go_wp2_with fail
      refine bodyPost_ret (v := .slice (some ⟨g, 0, none⟩) 1 cap) (by simp [results, Try.results53, go_sem]) rfl ?_
      exact ⟨g, cap, rfl, (H5.out.cell hgl (fun f => hgM f.1)).trans hcg, H4.out⟩
end Go.Proofs.Ytaomlfbcfmmhlaa

/-
  rt's get, drop, walked (printed by wip/gen_rtfn.py).
-/
namespace Go.Proofs.Ytaomlfbcfmmhlaa
open Go.RowKit Go.Pst
set_option linter.unusedVariables false
set_option linter.unusedSimpArgs false

def get_1 (c : PCode) : PCode := invokeF c 0 ⟨#[95, 102, 105, 110, 100]⟩ [0, 1]
def get_2 (c : PCode) : PCode := konstF (get_1 c) 0 0
def get_3 (c : PCode) : PCode := mathF (get_2 c) 0 ⟨#[60]⟩ c.vars (get_1 c).vars
def get_4 (c : PCode) : PCode := whenOut (get1_F (whenIn (get_3 c) 0 (get_2 c).vars) (get_3 c).blocks.length (get_1 c).vars) (get1_K (whenIn (get_3 c) 0 (get_2 c).vars) (get_3 c).blocks.length (get_1 c).vars) (((get_3 c).blocks.length : Int) + 1)
def get_5 (c : PCode) : PCode := loadF (get_4 c) ((get_3 c).blocks.length + 1) c.vars 1
def get_6 (c : PCode) : PCode := backF (get_5 c) ((get_3 c).blocks.length + 1) [(get_4 c).vars]
def get_C : PCode := get_6 (beginF ⟨#[95, 103, 101, 116]⟩ 2 1)
set_option maxHeartbeats 16000000 in
theorem rt_get_any (w : World) : Calls Try.prog 21 #[] w (CodePost w get_C) := by
  have hz_0 : InI 0 := ini rfl
  have hz_1 : InI 1 := ini rfl
  go_enter Try.func21, Try.ntmps21
  go_wp2_with fail
  refine (start_any ⟨#[95, 103, 101, 116]⟩ 2 1 (by decide) (by decide) (by decide) _).mono ?_
  rintro e w0 ⟨bm, rfl, e00⟩
  have e0 : Env (w.heap.size + 1) (w.alloc (.cells zeroCode 31)) bm [] 900000 (beginF ⟨#[95, 103, 101, 116]⟩ 2 1) 0 w0 := by
    rw [World.size_alloc] at e00; exact e00
  clear e00
  obtain ⟨n, hn⟩ : ∃ n, 900000 = n + 14 := ⟨900000 - 14, by decide⟩
  obtain ⟨c, hc⟩ : ∃ c, c = beginF ⟨#[95, 103, 101, 116]⟩ 2 1 := ⟨_, rfl⟩
  rw [← hc, hn] at e0
  have HC := Lib.hid hc
  clear hn hc
  obtain ⟨W0, hW0⟩ : ∃ W, W = w.alloc (.cells zeroCode 31) := ⟨_, rfl⟩
  rw [← hW0] at e0
  have HW0 := Lib.hid hW0
  clear hW0
  have b0 := e0.box (.pointer (some ⟨bm, 0, none⟩)) 54
  obtain ⟨l1, hl1⟩ : ∃ l, l = (w0.heap.size, 0, Value.pointer (some ⟨bm, 0, none⟩)) :: [] := ⟨_, rfl⟩
  rw [← hl1] at b0
  obtain ⟨V0, hV0⟩ : ∃ W, W = w0.alloc (.cells #[.pointer (some ⟨bm, 0, none⟩)] 54) := ⟨_, rfl⟩
  rw [← hV0] at b0
  have m_m : (w0.heap.size, 0, Value.pointer (some ⟨bm, 0, none⟩)) ∈ l1 := by rw [hl1]; exact List.mem_cons_self
  have HV0 := Lib.hid hV0
  have H0 := Lib.hid b0
  clear hV0 hl1 b0
  clear e0
  have q_m := H0.out.cell m_m
  rw [HV0.out] at q_m
  go_wp2_with fail
  rw [← HV0.out]
  try rw [show w0.heap.size + 1 = V0.heap.size from by rw [HV0.out, World.size_alloc]]
  clear q_m
  refine (invoke_any (by decide) H0.out ((Below.refl _ _).alloc (Nat.le_refl _) _) (rInts_all [0, 1] (Nat.le_refl _) (lens rfl) (ini2 hz_0 hz_1) (new_one _ _))).mono ?_
  rintro e w1 ⟨ga1, gp1, rfl, gc1, e10⟩
  have e1 : Env (w.heap.size + 1) W0 bm l1 (n + 12) (get_1 c) 0 w1 := e10
  have hr1 := InI.vars H0.out
  have H1 := Lib.hid e1
  clear e1 e10
  have q_m := H1.out.cell m_m
  go_wp2_with fail
  clear q_m
  clear gc1
  refine (konst_any 0 hz_0 H1.out).mono ?_
  rintro e w2 ⟨rfl, e20⟩
  have e2 : Env (w.heap.size + 1) W0 bm l1 (n + 10) (get_2 c) 0 w2 := e20
  have hr2 := InI.vars H1.out
  have b2 := e2.box (.int .i64 (get_1 c).vars) 3
  obtain ⟨l2, hl2⟩ : ∃ l, l = (w2.heap.size, 0, Value.int .i64 (get_1 c).vars) :: l1 := ⟨_, rfl⟩
  rw [← hl2] at b2
  obtain ⟨V2, hV2⟩ : ∃ W, W = w2.alloc (.cells #[.int .i64 (get_1 c).vars] 3) := ⟨_, rfl⟩
  rw [← hV2] at b2
  have m_m := (show _ ∈ l2 from hl2 ▸ List.mem_cons_of_mem _ m_m)
  have m_v : (w2.heap.size, 0, Value.int .i64 (get_1 c).vars) ∈ l2 := by rw [hl2]; exact List.mem_cons_self
  have HV2 := Lib.hid hV2
  have H2 := Lib.hid b2
  clear hV2 hl2 b2
  clear e2 e20
  have hS := keep2 m_m m_v H2.out.x
  rw [HV2.out] at hS
  go_wp2_with fail
  rw [← HV2.out] at hS ⊢
  go_region_held3 (fun w' => (w'.cell? ⟨w0.heap.size, 0, none⟩ = some (.pointer (some ⟨bm, 0, none⟩)) ∧ w'.cell? ⟨w2.heap.size, 0, none⟩ = some (.int .i64 (get_1 c).vars)) ∧ EnvX (w.heap.size + 1) W0 bm l2 w')
    (first | exact hS | exact keep2 m_m m_v H2.out.x.drew | exact keep2 m_m m_v (Env.x (by assumption)) | exact keep2 m_m m_v (EnvX.drew (And.right (by assumption))) | exact keep2 m_m m_v (EnvX.alloc (Env.x (by assumption)) _) | exact keep2 m_m m_v (EnvX.alloc (And.right (by assumption)) _))
    (first | (go_at_call 31; (refine (math_any ⟨#[60]⟩ c.vars (get_1 c).vars hr1 hr2 (by decide) H2.out.drew).mono ?_); rintro e w3 ⟨rfl, e30⟩; have e3 : Env (w.heap.size + 1) W0 bm l2 (n + 8) (get_3 c) 0 w3 := e30; clear e30) | (go_at_call 36; (refine (when_any (ba := #[]) (m := n + 5) (n := n + 3) (c3 := get1_F (whenIn (get_3 c) 0 (get_2 c).vars) (get_3 c).blocks.length (get_1 c).vars) (k3 := get1_K (whenIn (get_3 c) 0 (get_2 c).vars) (get_3 c).blocks.length (get_1 c).vars) (InI.vars H2.out) enters_get1 e3 (fun w2 e2 => by exact get1_any hr2 m_m m_v e2) (by rw [get1_len, whenIn_len]; omega)).mono ?_); rintro e w4 ⟨rfl, e40⟩; have e4 : Env (w.heap.size + 1) W0 bm l2 (n + 3) (get_4 c) ((get_3 c).blocks.length + 1) w4 := e40; clear e40))
  all_goals
    have hr3 := InI.vars H2.out
    have H4 := Lib.hid e4
    clear hS
    have hS := keep2 m_m m_v H4.out.x
    go_wp2_with fail
    go_region_held3 (fun w' => (w'.cell? ⟨w0.heap.size, 0, none⟩ = some (.pointer (some ⟨bm, 0, none⟩)) ∧ w'.cell? ⟨w2.heap.size, 0, none⟩ = some (.int .i64 (get_1 c).vars)) ∧ EnvX (w.heap.size + 1) W0 bm l2 w')
      (first | exact hS | exact keep2 m_m m_v H4.out.x.drew | exact keep2 m_m m_v (Env.x (by assumption)) | exact keep2 m_m m_v (EnvX.drew (And.right (by assumption))) | exact keep2 m_m m_v (EnvX.alloc (Env.x (by assumption)) _) | exact keep2 m_m m_v (EnvX.alloc (And.right (by assumption)) _))
      (first | (go_at_call 40; (refine (load_any c.vars 1 hr1 hz_1 H4.out.drew).mono ?_); rintro e w5 ⟨rfl, e50⟩; have e5 : Env (w.heap.size + 1) W0 bm l2 (n + 1) (get_5 c) ((get_3 c).blocks.length + 1) w5 := e50; clear e50) | (go_at_call 34; (refine (back_any e5 ((Below.refl _ _).alloc (Nat.le_refl _) _) (rInts_all [(get_4 c).vars] (Nat.le_refl _) (lens rfl) (ini1 (InI.vars H4.out)) (new_one _ _))).mono ?_); rintro e w6 ⟨rfl, e60⟩; have e6 : Env (w.heap.size + 1) W0 bm l2 (n + 0) (get_6 c) ((get_3 c).blocks.length + 1) w6 := e60; clear e60))
    all_goals
      have hr5 := InI.vars H4.out
      have H6 := Lib.hid e6
      clear hS
      obtain ⟨hz1, hz2, gB, cB, ⟨d0, d1, d2, d3, d4, d5⟩, hrd⟩ := env_end H6.out
      obtain ⟨zc, zf⟩ := zero_cells w (HW0.out ▸ H6.out)
      have q_m := H6.out.cell m_m
      have z0 : w6.cell? ⟨w.heap.size, 0, none⟩ = some (.string ⟨#[]⟩) := zc 0
      have z1 : w6.cell? ⟨w.heap.size, 1, none⟩ = some (.int .i64 0) := zc 1
      have z2 : w6.cell? ⟨w.heap.size, 2, none⟩ = some (.int .i64 0) := zc 2
      have z3 : w6.cell? ⟨w.heap.size, 3, none⟩ = some (.int .i64 0) := zc 3
      have z4 : w6.cell? ⟨w.heap.size, 4, none⟩ = some (.int .i64 0) := zc 4
      have z5 : w6.cell? ⟨w.heap.size, 5, none⟩ = some (.slice none 0 0) := zc 5
      have y0 := zf 0
      have y1 := zf 1
      have y2 := zf 2
      have y3 := zf 3
      have y4 := zf 4
      have y5 := zf 5
      have hrd2 := Lib.hid hrd
      clear zc zf hrd
      go_wp2_with fail
      obtain ⟨V, hV, v0, v1, v2, v3, v4, v5, hs⟩ := box_six (.string (get_6 c).name) (.int .i64 (get_6 c).params) (.int .i64 (get_6 c).results) (.int .i64 (get_6 c).vars) (.int .i64 (get_6 c).slots) (.slice (some ⟨gB, 0, none⟩) (get_6 c).blocks.length cB) z0 z1 z2 z3 z4 z5
      rw [← hV]
      refine bodyPost_ret (v := .agg #[.string (get_6 c).name, .int .i64 (get_6 c).params, .int .i64 (get_6 c).results, .int .i64 (get_6 c).vars, .int .i64 (get_6 c).slots, .slice (some ⟨gB, 0, none⟩) (get_6 c).blocks.length cB]) (by simp [results, Try.results21, go_sem, v0, v1, v2, v3, v4, v5]) rfl ?_
      unfold get_C
      rw [← HC.out]
      exact code_post w (HW0.out ▸ H6.out) hs hrd2.out
def drop_1 (c : PCode) : PCode := invokeF c 0 ⟨#[95, 102, 105, 110, 100]⟩ [0, 1]
def drop_2 (c : PCode) : PCode := konstF (drop_1 c) 0 0
def drop_3 (c : PCode) : PCode := mathF (drop_2 c) 0 ⟨#[60]⟩ c.vars (drop_1 c).vars
def drop_4 (c : PCode) : PCode := whenOut (drop1_F (whenIn (drop_3 c) 0 (drop_2 c).vars) (drop_3 c).blocks.length) (drop1_K (whenIn (drop_3 c) 0 (drop_2 c).vars) (drop_3 c).blocks.length) (((drop_3 c).blocks.length : Int) + 1)
def drop_5 (c : PCode) : PCode := storeF (drop_4 c) ((drop_3 c).blocks.length + 1) c.vars 2 (drop_1 c).vars
def drop_6 (c : PCode) : PCode := loadF (drop_5 c) ((drop_3 c).blocks.length + 1) 0 3
def drop_7 (c : PCode) : PCode := konstF (drop_6 c) ((drop_3 c).blocks.length + 1) 1
def drop_8 (c : PCode) : PCode := mathF (drop_7 c) ((drop_3 c).blocks.length + 1) ⟨#[45]⟩ (drop_5 c).vars (drop_6 c).vars
def drop_9 (c : PCode) : PCode := storeF (drop_8 c) ((drop_3 c).blocks.length + 1) 0 3 (drop_7 c).vars
def drop_10 (c : PCode) : PCode := backF (drop_9 c) ((drop_3 c).blocks.length + 1) []
def drop_C : PCode := drop_10 (beginF ⟨#[95, 100, 114, 111, 112]⟩ 2 0)
set_option maxHeartbeats 16000000 in
theorem rt_drop_any (w : World) : Calls Try.prog 23 #[] w (CodePost w drop_C) := by
  have hz_0 : InI 0 := ini rfl
  have hz_1 : InI 1 := ini rfl
  have hz_2 : InI 2 := ini rfl
  have hz_3 : InI 3 := ini rfl
  go_enter Try.func23, Try.ntmps23
  go_wp2_with fail
  refine (start_any ⟨#[95, 100, 114, 111, 112]⟩ 2 0 (by decide) (by decide) (by decide) _).mono ?_
  rintro e w0 ⟨bm, rfl, e00⟩
  have e0 : Env (w.heap.size + 1) (w.alloc (.cells zeroCode 31)) bm [] 900000 (beginF ⟨#[95, 100, 114, 111, 112]⟩ 2 0) 0 w0 := by
    rw [World.size_alloc] at e00; exact e00
  clear e00
  obtain ⟨n, hn⟩ : ∃ n, 900000 = n + 20 := ⟨900000 - 20, by decide⟩
  obtain ⟨c, hc⟩ : ∃ c, c = beginF ⟨#[95, 100, 114, 111, 112]⟩ 2 0 := ⟨_, rfl⟩
  rw [← hc, hn] at e0
  have HC := Lib.hid hc
  clear hn hc
  obtain ⟨W0, hW0⟩ : ∃ W, W = w.alloc (.cells zeroCode 31) := ⟨_, rfl⟩
  rw [← hW0] at e0
  have HW0 := Lib.hid hW0
  clear hW0
  have b0 := e0.box (.pointer (some ⟨bm, 0, none⟩)) 54
  obtain ⟨l1, hl1⟩ : ∃ l, l = (w0.heap.size, 0, Value.pointer (some ⟨bm, 0, none⟩)) :: [] := ⟨_, rfl⟩
  rw [← hl1] at b0
  obtain ⟨V0, hV0⟩ : ∃ W, W = w0.alloc (.cells #[.pointer (some ⟨bm, 0, none⟩)] 54) := ⟨_, rfl⟩
  rw [← hV0] at b0
  have m_m : (w0.heap.size, 0, Value.pointer (some ⟨bm, 0, none⟩)) ∈ l1 := by rw [hl1]; exact List.mem_cons_self
  have HV0 := Lib.hid hV0
  have H0 := Lib.hid b0
  clear hV0 hl1 b0
  clear e0
  have q_m := H0.out.cell m_m
  rw [HV0.out] at q_m
  go_wp2_with fail
  rw [← HV0.out]
  try rw [show w0.heap.size + 1 = V0.heap.size from by rw [HV0.out, World.size_alloc]]
  clear q_m
  refine (invoke_any (by decide) H0.out ((Below.refl _ _).alloc (Nat.le_refl _) _) (rInts_all [0, 1] (Nat.le_refl _) (lens rfl) (ini2 hz_0 hz_1) (new_one _ _))).mono ?_
  rintro e w1 ⟨ga1, gp1, rfl, gc1, e10⟩
  have e1 : Env (w.heap.size + 1) W0 bm l1 (n + 18) (drop_1 c) 0 w1 := e10
  have hr1 := InI.vars H0.out
  have H1 := Lib.hid e1
  clear e1 e10
  have q_m := H1.out.cell m_m
  go_wp2_with fail
  clear q_m
  clear gc1
  refine (konst_any 0 hz_0 H1.out).mono ?_
  rintro e w2 ⟨rfl, e20⟩
  have e2 : Env (w.heap.size + 1) W0 bm l1 (n + 16) (drop_2 c) 0 w2 := e20
  have hr2 := InI.vars H1.out
  have H2 := Lib.hid e2
  clear e2 e20
  have hS := keep1 m_m H2.out.x
  go_wp2_with fail
  go_region_held3 (fun w' => (w'.cell? ⟨w0.heap.size, 0, none⟩ = some (.pointer (some ⟨bm, 0, none⟩))) ∧ EnvX (w.heap.size + 1) W0 bm l1 w')
    (first | exact hS | exact keep1 m_m H2.out.x.drew | exact keep1 m_m (Env.x (by assumption)) | exact keep1 m_m (EnvX.drew (And.right (by assumption))) | exact keep1 m_m (EnvX.alloc (Env.x (by assumption)) _) | exact keep1 m_m (EnvX.alloc (And.right (by assumption)) _))
    (first | (go_at_call 31; (refine (math_any ⟨#[60]⟩ c.vars (drop_1 c).vars hr1 hr2 (by decide) H2.out.drew).mono ?_); rintro e w3 ⟨rfl, e30⟩; have e3 : Env (w.heap.size + 1) W0 bm l1 (n + 14) (drop_3 c) 0 w3 := e30; clear e30) | (go_at_call 36; (refine (when_any (ba := #[]) (m := n + 11) (n := n + 9) (c3 := drop1_F (whenIn (drop_3 c) 0 (drop_2 c).vars) (drop_3 c).blocks.length) (k3 := drop1_K (whenIn (drop_3 c) 0 (drop_2 c).vars) (drop_3 c).blocks.length) (InI.vars H2.out) enters_drop1 e3 (fun w2 e2 => by exact drop1_any m_m e2) (by rw [drop1_len, whenIn_len]; omega)).mono ?_); rintro e w4 ⟨rfl, e40⟩; have e4 : Env (w.heap.size + 1) W0 bm l1 (n + 9) (drop_4 c) ((drop_3 c).blocks.length + 1) w4 := e40; clear e40))
  all_goals
    have hr3 := InI.vars H2.out
    have H4 := Lib.hid e4
    clear hS
    have q_m := H4.out.cell m_m
    go_wp2_with fail
    clear q_m
    refine (store_any c.vars 2 (drop_1 c).vars hr1 hz_2 hr2 H4.out).mono ?_
    rintro e w5 ⟨rfl, e50⟩
    have e5 : Env (w.heap.size + 1) W0 bm l1 (n + 8) (drop_5 c) ((drop_3 c).blocks.length + 1) w5 := e50
    have H5 := Lib.hid e5
    clear e5 e50
    have hS := keep1 m_m H5.out.x
    go_wp2_with fail
    go_region_held3 (fun w' => (w'.cell? ⟨w0.heap.size, 0, none⟩ = some (.pointer (some ⟨bm, 0, none⟩))) ∧ EnvX (w.heap.size + 1) W0 bm l1 w')
      (first | exact hS | exact keep1 m_m H5.out.x.drew | exact keep1 m_m (Env.x (by assumption)) | exact keep1 m_m (EnvX.drew (And.right (by assumption))) | exact keep1 m_m (EnvX.alloc (Env.x (by assumption)) _) | exact keep1 m_m (EnvX.alloc (And.right (by assumption)) _))
      (first | (go_at_call 40; (refine (load_any 0 3 hz_0 hz_3 H5.out.drew).mono ?_); rintro e w6 ⟨rfl, e60⟩; have e6 : Env (w.heap.size + 1) W0 bm l1 (n + 6) (drop_6 c) ((drop_3 c).blocks.length + 1) w6 := e60; clear e60) | (go_at_call 35; (refine (konst_any 1 hz_1 e6).mono ?_); rintro e w7 ⟨rfl, e70⟩; have e7 : Env (w.heap.size + 1) W0 bm l1 (n + 4) (drop_7 c) ((drop_3 c).blocks.length + 1) w7 := e70; clear e70) | (go_at_call 31; (refine (math_any ⟨#[45]⟩ (drop_5 c).vars (drop_6 c).vars (InI.vars H5.out) (InI.vars e6) (by decide) e7).mono ?_); rintro e w8 ⟨rfl, e80⟩; have e8 : Env (w.heap.size + 1) W0 bm l1 (n + 2) (drop_8 c) ((drop_3 c).blocks.length + 1) w8 := e80; clear e80) | (go_at_call 48; (refine (store_any 0 3 (drop_7 c).vars hz_0 hz_3 (InI.vars e7) e8).mono ?_); rintro e w9 ⟨rfl, e90⟩; have e9 : Env (w.heap.size + 1) W0 bm l1 (n + 1) (drop_9 c) ((drop_3 c).blocks.length + 1) w9 := e90; clear e90))
    all_goals
      have hr6 := InI.vars H5.out
      have hr7 := InI.vars e6
      have hr8 := InI.vars e7
      have H9 := Lib.hid e9
      clear hS
      have q_m := H9.out.cell m_m
      go_wp2_with fail
      clear q_m
      refine (back_any H9.out (Below.refl _ _) (rSlice_nil _ _ _ _)).mono ?_
      rintro e w10 ⟨rfl, e100⟩
      have e10 : Env (w.heap.size + 1) W0 bm l1 (n + 0) (drop_10 c) ((drop_3 c).blocks.length + 1) w10 := e100
      have H10 := Lib.hid e10
      clear e10 e100
      obtain ⟨hz1, hz2, gB, cB, ⟨d0, d1, d2, d3, d4, d5⟩, hrd⟩ := env_end H10.out
      obtain ⟨zc, zf⟩ := zero_cells w (HW0.out ▸ H10.out)
      have q_m := H10.out.cell m_m
      have z0 : w10.cell? ⟨w.heap.size, 0, none⟩ = some (.string ⟨#[]⟩) := zc 0
      have z1 : w10.cell? ⟨w.heap.size, 1, none⟩ = some (.int .i64 0) := zc 1
      have z2 : w10.cell? ⟨w.heap.size, 2, none⟩ = some (.int .i64 0) := zc 2
      have z3 : w10.cell? ⟨w.heap.size, 3, none⟩ = some (.int .i64 0) := zc 3
      have z4 : w10.cell? ⟨w.heap.size, 4, none⟩ = some (.int .i64 0) := zc 4
      have z5 : w10.cell? ⟨w.heap.size, 5, none⟩ = some (.slice none 0 0) := zc 5
      have y0 := zf 0
      have y1 := zf 1
      have y2 := zf 2
      have y3 := zf 3
      have y4 := zf 4
      have y5 := zf 5
      have hrd2 := Lib.hid hrd
      clear zc zf hrd
      go_wp2_with fail
      obtain ⟨V, hV, v0, v1, v2, v3, v4, v5, hs⟩ := box_six (.string (drop_10 c).name) (.int .i64 (drop_10 c).params) (.int .i64 (drop_10 c).results) (.int .i64 (drop_10 c).vars) (.int .i64 (drop_10 c).slots) (.slice (some ⟨gB, 0, none⟩) (drop_10 c).blocks.length cB) z0 z1 z2 z3 z4 z5
      rw [← hV]
      refine bodyPost_ret (v := .agg #[.string (drop_10 c).name, .int .i64 (drop_10 c).params, .int .i64 (drop_10 c).results, .int .i64 (drop_10 c).vars, .int .i64 (drop_10 c).slots, .slice (some ⟨gB, 0, none⟩) (drop_10 c).blocks.length cB]) (by simp [results, Try.results23, go_sem, v0, v1, v2, v3, v4, v5]) rfl ?_
      unfold drop_C
      rw [← HC.out]
      exact code_post w (HW0.out ▸ H10.out) hs hrd2.out
end Go.Proofs.Ytaomlfbcfmmhlaa

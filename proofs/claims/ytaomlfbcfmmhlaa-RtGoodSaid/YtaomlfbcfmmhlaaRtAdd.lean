/-
  rt's add, walked (printed by wip/gen_rtfn.py).
-/
import Derived.Test.YtaomlfbcfmmhlaaRtFnC
import Derived.Test.YtaomlfbcfmmhlaaRtEnd
namespace Go.Proofs.Ytaomlfbcfmmhlaa
open Go.RowKit Go.Pst
set_option linter.unusedVariables false
set_option linter.unusedSimpArgs false

def add_1 (c : PCode) : PCode := konstF c 0 1
def add_2 (c : PCode) : PCode := mathF (add_1 c) 0 ⟨#[43]⟩ 1 c.vars
def add_3 (c : PCode) : PCode := mathF (add_2 c) 0 ⟨#[60]⟩ 1 2
def add_4 (c : PCode) : PCode := whenOut (add1_F (whenIn (add_3 c) 0 (add_2 c).vars) (add_3 c).blocks.length (add_1 c).vars) (add1_K (whenIn (add_3 c) 0 (add_2 c).vars) (add_3 c).blocks.length (add_1 c).vars) (((add_3 c).blocks.length : Int) + 1)
def add_5 (c : PCode) : PCode := mathF (add_4 c) ((add_3 c).blocks.length + 1) ⟨#[43]⟩ 2 2
def add_6 (c : PCode) : PCode := konstF (add_5 c) ((add_3 c).blocks.length + 1) 4
def add_7 (c : PCode) : PCode := mathF (add_6 c) ((add_3 c).blocks.length + 1) ⟨#[60]⟩ (add_4 c).vars (add_5 c).vars
def add_8 (c : PCode) : PCode := whenOut (add2_F (whenIn (add_7 c) ((add_3 c).blocks.length + 1) (add_6 c).vars) (add_7 c).blocks.length (add_4 c).vars) (add2_K (whenIn (add_7 c) ((add_3 c).blocks.length + 1) (add_6 c).vars) (add_7 c).blocks.length (add_4 c).vars) (((add_7 c).blocks.length : Int) + 1)
def add_9 (c : PCode) : PCode := allocF (add_8 c) ((add_7 c).blocks.length + 1) (add_4 c).vars
def add_10 (c : PCode) : PCode := copyF (add_9 c) ((add_7 c).blocks.length + 1) (add_8 c).vars 0 1
def add_11 (c : PCode) : PCode := mathF (add_10 c) ((add_9 c).blocks.length + 2) ⟨#[43]⟩ (add_8 c).vars 1
def add_12 (c : PCode) : PCode := storeF (add_11 c) ((add_9 c).blocks.length + 2) (add_10 c).vars 0 3
def add_13 (c : PCode) : PCode := backF (add_12 c) ((add_9 c).blocks.length + 2) [(add_8 c).vars, (add_1 c).vars, (add_4 c).vars]
def add_C : PCode := add_13 (startF ⟨#[95, 97, 100, 100]⟩ 4 3)
set_option maxHeartbeats 16000000 in
theorem rt_add_any (w : World) : Calls Try.prog 18 #[] w (CodePost w add_C) := by
  have hz_0 : InI 0 := ini rfl
  have hz_1 : InI 1 := ini rfl
  have hz_2 : InI 2 := ini rfl
  have hz_3 : InI 3 := ini rfl
  have hz_4 : InI 4 := ini rfl
  go_enter Try.func18, Try.ntmps18
  go_wp2_with fail
  refine (start_any ⟨#[95, 97, 100, 100]⟩ 4 3 (by decide) (by decide) (by decide) _).mono ?_
  rintro e w0 ⟨bm, rfl, e00⟩
  have e0 : Env (w.heap.size + 1) (w.alloc (.cells zeroCode 31)) bm [] 900000 (startF ⟨#[95, 97, 100, 100]⟩ 4 3) 0 w0 := by
    rw [World.size_alloc] at e00; exact e00
  clear e00
  obtain ⟨n, hn⟩ : ∃ n, 900000 = n + 57 := ⟨900000 - 57, by decide⟩
  obtain ⟨c, hc⟩ : ∃ c, c = startF ⟨#[95, 97, 100, 100]⟩ 4 3 := ⟨_, rfl⟩
  rw [← hc, hn] at e0
  have HC := Lib.hid hc
  clear hn hc
  obtain ⟨W0, hW0⟩ : ∃ W, W = w.alloc (.cells zeroCode 31) := ⟨_, rfl⟩
  rw [← hW0] at e0
  have HW0 := Lib.hid hW0
  clear hW0
  have b0 := e0.box (.pointer (some ⟨bm, 0, none⟩)) 54
  obtain ⟨l1, hl1⟩ : ∃ l, l = (w0.heap.size, 0, Value.pointer (some ⟨bm, 0, none⟩)) :: [] := ⟨_, rfl⟩
  rw [← hl1] at b0
  obtain ⟨V0, hV0⟩ : ∃ W, W = w0.alloc (.cells #[.pointer (some ⟨bm, 0, none⟩)] 54) := ⟨_, rfl⟩
  rw [← hV0] at b0
  have m_m : (w0.heap.size, 0, Value.pointer (some ⟨bm, 0, none⟩)) ∈ l1 := by rw [hl1]; exact List.mem_cons_self
  have HV0 := Lib.hid hV0
  have H0 := Lib.hid b0
  clear hV0 hl1 b0
  clear e0
  have q_m := H0.out.cell m_m
  rw [HV0.out] at q_m
  go_wp2_with fail
  rw [← HV0.out]
  try rw [show w0.heap.size + 1 = V0.heap.size from by rw [HV0.out, World.size_alloc]]
  clear q_m
  refine (konst_any 1 hz_1 H0.out).mono ?_
  rintro e w1 ⟨rfl, e10⟩
  have e1 : Env (w.heap.size + 1) W0 bm l1 (n + 55) (add_1 c) 0 w1 := e10
  have hr1 := InI.vars H0.out
  have H1 := Lib.hid e1
  clear e1 e10
  have q_m := H1.out.cell m_m
  go_wp2_with fail
  clear q_m
  refine (math_any ⟨#[43]⟩ 1 c.vars hz_1 hr1 (by decide) H1.out).mono ?_
  rintro e w2 ⟨rfl, e20⟩
  have e2 : Env (w.heap.size + 1) W0 bm l1 (n + 53) (add_2 c) 0 w2 := e20
  have hr2 := InI.vars H1.out
  have b2 := e2.box (.int .i64 (add_1 c).vars) 3
  obtain ⟨l2, hl2⟩ : ∃ l, l = (w2.heap.size, 0, Value.int .i64 (add_1 c).vars) :: l1 := ⟨_, rfl⟩
  rw [← hl2] at b2
  obtain ⟨V2, hV2⟩ : ∃ W, W = w2.alloc (.cells #[.int .i64 (add_1 c).vars] 3) := ⟨_, rfl⟩
  rw [← hV2] at b2
  have m_m := (show _ ∈ l2 from hl2 ▸ List.mem_cons_of_mem _ m_m)
  have m_n : (w2.heap.size, 0, Value.int .i64 (add_1 c).vars) ∈ l2 := by rw [hl2]; exact List.mem_cons_self
  have HV2 := Lib.hid hV2
  have H2 := Lib.hid b2
  clear hV2 hl2 b2
  clear e2 e20
  have hS := keep2 m_m m_n H2.out.x
  rw [HV2.out] at hS
  go_wp2_with fail
  rw [← HV2.out] at hS ⊢
  go_region_held3 (fun w' => (w'.cell? ⟨w0.heap.size, 0, none⟩ = some (.pointer (some ⟨bm, 0, none⟩)) ∧ w'.cell? ⟨w2.heap.size, 0, none⟩ = some (.int .i64 (add_1 c).vars)) ∧ EnvX (w.heap.size + 1) W0 bm l2 w')
    (first | exact hS | exact keep2 m_m m_n H2.out.x.drew | exact keep2 m_m m_n (Env.x (by assumption)) | exact keep2 m_m m_n (EnvX.drew (And.right (by assumption))) | exact keep2 m_m m_n (EnvX.alloc (Env.x (by assumption)) _) | exact keep2 m_m m_n (EnvX.alloc (And.right (by assumption)) _))
    (first | (go_at_call 31; (refine (math_any ⟨#[60]⟩ 1 2 hz_1 hz_2 (by decide) H2.out.drew).mono ?_); rintro e w3 ⟨rfl, e30⟩; have e3 : Env (w.heap.size + 1) W0 bm l2 (n + 51) (add_3 c) 0 w3 := e30; clear e30) | (go_at_call 36; (refine (when_any (ba := #[]) (m := n + 48) (n := n + 43) (c3 := add1_F (whenIn (add_3 c) 0 (add_2 c).vars) (add_3 c).blocks.length (add_1 c).vars) (k3 := add1_K (whenIn (add_3 c) 0 (add_2 c).vars) (add_3 c).blocks.length (add_1 c).vars) (InI.vars H2.out) enters_add1 e3 (fun w2 e2 => by exact add1_any hr2 m_m m_n e2) (by rw [add1_len, whenIn_len]; omega)).mono ?_); rintro e w4 ⟨rfl, e40⟩; have e4 : Env (w.heap.size + 1) W0 bm l2 (n + 43) (add_4 c) ((add_3 c).blocks.length + 1) w4 := e40; clear e40))
  all_goals
    have hr3 := InI.vars H2.out
    have H4 := Lib.hid e4
    clear hS
    have q_m := H4.out.cell m_m
    have q_n := H4.out.cell m_n
    go_wp2_with fail
    clear q_m q_n
    refine (math_any ⟨#[43]⟩ 2 2 hz_2 hz_2 (by decide) H4.out).mono ?_
    rintro e w5 ⟨rfl, e50⟩
    have e5 : Env (w.heap.size + 1) W0 bm l2 (n + 41) (add_5 c) ((add_3 c).blocks.length + 1) w5 := e50
    have hr5 := InI.vars H4.out
    have b5 := e5.box (.int .i64 (add_4 c).vars) 3
    obtain ⟨l3, hl3⟩ : ∃ l, l = (w5.heap.size, 0, Value.int .i64 (add_4 c).vars) :: l2 := ⟨_, rfl⟩
    rw [← hl3] at b5
    obtain ⟨V5, hV5⟩ : ∃ W, W = w5.alloc (.cells #[.int .i64 (add_4 c).vars] 3) := ⟨_, rfl⟩
    rw [← hV5] at b5
    have m_m := (show _ ∈ l3 from hl3 ▸ List.mem_cons_of_mem _ m_m)
    have m_n := (show _ ∈ l3 from hl3 ▸ List.mem_cons_of_mem _ m_n)
    have m_room : (w5.heap.size, 0, Value.int .i64 (add_4 c).vars) ∈ l3 := by rw [hl3]; exact List.mem_cons_self
    have HV5 := Lib.hid hV5
    have H5 := Lib.hid b5
    clear hV5 hl3 b5
    clear e5 e50
    have hS := keep3 m_m m_n m_room H5.out.x
    rw [HV5.out] at hS
    go_wp2_with fail
    rw [← HV5.out] at hS ⊢
    go_region_held3 (fun w' => (w'.cell? ⟨w0.heap.size, 0, none⟩ = some (.pointer (some ⟨bm, 0, none⟩)) ∧ w'.cell? ⟨w2.heap.size, 0, none⟩ = some (.int .i64 (add_1 c).vars) ∧ w'.cell? ⟨w5.heap.size, 0, none⟩ = some (.int .i64 (add_4 c).vars)) ∧ EnvX (w.heap.size + 1) W0 bm l3 w')
      (first | exact hS | exact keep3 m_m m_n m_room H5.out.x.drew | exact keep3 m_m m_n m_room (Env.x (by assumption)) | exact keep3 m_m m_n m_room (EnvX.drew (And.right (by assumption))) | exact keep3 m_m m_n m_room (EnvX.alloc (Env.x (by assumption)) _) | exact keep3 m_m m_n m_room (EnvX.alloc (And.right (by assumption)) _))
      (first | (go_at_call 35; (refine (konst_any 4 hz_4 H5.out.drew).mono ?_); rintro e w6 ⟨rfl, e60⟩; have e6 : Env (w.heap.size + 1) W0 bm l3 (n + 39) (add_6 c) ((add_3 c).blocks.length + 1) w6 := e60; clear e60) | (go_at_call 31; (refine (math_any ⟨#[60]⟩ (add_4 c).vars (add_5 c).vars hr5 (InI.vars H5.out) (by decide) e6).mono ?_); rintro e w7 ⟨rfl, e70⟩; have e7 : Env (w.heap.size + 1) W0 bm l3 (n + 37) (add_7 c) ((add_3 c).blocks.length + 1) w7 := e70; clear e70) | (go_at_call 36; (refine (when_any (ba := #[]) (m := n + 34) (n := n + 30) (c3 := add2_F (whenIn (add_7 c) ((add_3 c).blocks.length + 1) (add_6 c).vars) (add_7 c).blocks.length (add_4 c).vars) (k3 := add2_K (whenIn (add_7 c) ((add_3 c).blocks.length + 1) (add_6 c).vars) (add_7 c).blocks.length (add_4 c).vars) (InI.vars e6) enters_add2 e7 (fun w2 e2 => by exact add2_any hr5 m_m m_room e2) (by rw [add2_len, whenIn_len]; omega)).mono ?_); rintro e w8 ⟨rfl, e80⟩; have e8 : Env (w.heap.size + 1) W0 bm l3 (n + 30) (add_8 c) ((add_7 c).blocks.length + 1) w8 := e80; clear e80))
    all_goals
      have hr6 := InI.vars H5.out
      have hr7 := InI.vars e6
      have H8 := Lib.hid e8
      clear hS
      have q_m := H8.out.cell m_m
      have q_n := H8.out.cell m_n
      have q_room := H8.out.cell m_room
      go_wp2_with fail
      clear q_m q_n q_room
      refine (alloc_any (add_4 c).vars hr5 H8.out).mono ?_
      rintro e w9 ⟨rfl, e90⟩
      have e9 : Env (w.heap.size + 1) W0 bm l3 (n + 28) (add_9 c) ((add_7 c).blocks.length + 1) w9 := e90
      have hr9 := InI.vars H8.out
      have H9 := Lib.hid e9
      clear e9 e90
      have q_m := H9.out.cell m_m
      have q_n := H9.out.cell m_n
      have q_room := H9.out.cell m_room
      go_wp2_with fail
      clear q_m q_n q_room
      refine (copy_any hr9 hz_0 hz_1 H9.out).mono ?_
      rintro e w10 ⟨rfl, e100⟩
      have e10 : Env (w.heap.size + 1) W0 bm l3 (n + 4) (add_10 c) ((add_9 c).blocks.length + 2) w10 := e100
      have H10 := Lib.hid e10
      clear e10 e100
      have hS := keep3 m_m m_n m_room H10.out.x
      go_wp2_with fail
      go_region_held3 (fun w' => (w'.cell? ⟨w0.heap.size, 0, none⟩ = some (.pointer (some ⟨bm, 0, none⟩)) ∧ w'.cell? ⟨w2.heap.size, 0, none⟩ = some (.int .i64 (add_1 c).vars) ∧ w'.cell? ⟨w5.heap.size, 0, none⟩ = some (.int .i64 (add_4 c).vars)) ∧ EnvX (w.heap.size + 1) W0 bm l3 w')
        (first | exact hS | exact keep3 m_m m_n m_room H10.out.x.drew | exact keep3 m_m m_n m_room (Env.x (by assumption)) | exact keep3 m_m m_n m_room (EnvX.drew (And.right (by assumption))) | exact keep3 m_m m_n m_room (EnvX.alloc (Env.x (by assumption)) _) | exact keep3 m_m m_n m_room (EnvX.alloc (And.right (by assumption)) _))
        (first | (go_at_call 31; (refine (math_any ⟨#[43]⟩ (add_8 c).vars 1 hr9 hz_1 (by decide) H10.out.drew).mono ?_); rintro e w11 ⟨rfl, e110⟩; have e11 : Env (w.heap.size + 1) W0 bm l3 (n + 2) (add_11 c) ((add_9 c).blocks.length + 2) w11 := e110; clear e110) | (go_at_call 48; (refine (store_any (add_10 c).vars 0 3 (InI.vars H10.out) hz_0 hz_3 e11).mono ?_); rintro e w12 ⟨rfl, e120⟩; have e12 : Env (w.heap.size + 1) W0 bm l3 (n + 1) (add_12 c) ((add_9 c).blocks.length + 2) w12 := e120; clear e120))
      all_goals
        have hr11 := InI.vars H10.out
        have H12 := Lib.hid e12
        clear hS
        have q_m := H12.out.cell m_m
        have q_n := H12.out.cell m_n
        have q_room := H12.out.cell m_room
        go_wp2_with fail
        clear q_m q_n q_room
        refine (back_any H12.out ((Below.refl _ _).alloc (Nat.le_refl _) _) (rInts_all [(add_8 c).vars, (add_1 c).vars, (add_4 c).vars] (Nat.le_refl _) (lens rfl) (ini3 hr9 hr2 hr5) (new_one _ _))).mono ?_
        rintro e w13 ⟨rfl, e130⟩
        have e13 : Env (w.heap.size + 1) W0 bm l3 (n + 0) (add_13 c) ((add_9 c).blocks.length + 2) w13 := e130
        have H13 := Lib.hid e13
        clear e13 e130
        obtain ⟨hz1, hz2, gB, cB, ⟨d0, d1, d2, d3, d4, d5⟩, hrd⟩ := env_end H13.out
        obtain ⟨zc, zf⟩ := zero_cells w (HW0.out ▸ H13.out)
        have q_m := H13.out.cell m_m
        have z0 : w13.cell? ⟨w.heap.size, 0, none⟩ = some (.string ⟨#[]⟩) := zc 0
        have z1 : w13.cell? ⟨w.heap.size, 1, none⟩ = some (.int .i64 0) := zc 1
        have z2 : w13.cell? ⟨w.heap.size, 2, none⟩ = some (.int .i64 0) := zc 2
        have z3 : w13.cell? ⟨w.heap.size, 3, none⟩ = some (.int .i64 0) := zc 3
        have z4 : w13.cell? ⟨w.heap.size, 4, none⟩ = some (.int .i64 0) := zc 4
        have z5 : w13.cell? ⟨w.heap.size, 5, none⟩ = some (.slice none 0 0) := zc 5
        have y0 := zf 0
        have y1 := zf 1
        have y2 := zf 2
        have y3 := zf 3
        have y4 := zf 4
        have y5 := zf 5
        have hrd2 := Lib.hid hrd
        clear zc zf hrd
        go_wp2_with fail
        obtain ⟨V, hV, v0, v1, v2, v3, v4, v5, hs⟩ := box_six (.string (add_13 c).name) (.int .i64 (add_13 c).params) (.int .i64 (add_13 c).results) (.int .i64 (add_13 c).vars) (.int .i64 (add_13 c).slots) (.slice (some ⟨gB, 0, none⟩) (add_13 c).blocks.length cB) z0 z1 z2 z3 z4 z5
        rw [← hV]
        refine bodyPost_ret (v := .agg #[.string (add_13 c).name, .int .i64 (add_13 c).params, .int .i64 (add_13 c).results, .int .i64 (add_13 c).vars, .int .i64 (add_13 c).slots, .slice (some ⟨gB, 0, none⟩) (add_13 c).blocks.length cB]) (by simp [results, Try.results18, go_sem, v0, v1, v2, v3, v4, v5]) rfl ?_
        unfold add_C
        rw [← HC.out]
        exact code_post w (HW0.out ▸ H13.out) hs hrd2.out
end Go.Proofs.Ytaomlfbcfmmhlaa

/-
  rt's find, walked (printed by wip/gen_rtfn.py).
-/
import Derived.Test.YtaomlfbcfmmhlaaRtFnC
import Derived.Test.YtaomlfbcfmmhlaaRtEnd
namespace Go.Proofs.Ytaomlfbcfmmhlaa
open Go.RowKit Go.Pst
set_option linter.unusedVariables false
set_option linter.unusedSimpArgs false

def find_1 (c : PCode) : PCode := freshF c
def find_2 (c : PCode) : PCode := loadF (find_1 c) 0 0 2
def find_3 (c : PCode) : PCode := setF (find_2 c) 0 c.vars (find_1 c).vars
def find_4 (c : PCode) : PCode := konstF (find_3 c) 0 0
def find_5 (c : PCode) : PCode := loadF (find_4 c) 0 0 0
def find_6 (c : PCode) : PCode := countOut (find1_F (countIn (find_5 c) 0 (find_3 c).vars (find_4 c).vars) ((find_5 c).blocks.length + 1) (find_5 c).vars c.vars) (find1_K (countIn (find_5 c) 0 (find_3 c).vars (find_4 c).vars) ((find_5 c).blocks.length + 1) (find_5 c).vars c.vars) (find_5 c).vars (find_5 c).blocks.length
def find_7 (c : PCode) : PCode := konstF (find_6 c) ((find_5 c).blocks.length + 2) (-1)
def find_8 (c : PCode) : PCode := backF (find_7 c) ((find_5 c).blocks.length + 2) [(find_6 c).vars]
def find_C : PCode := find_8 (startF ⟨#[95, 102, 105, 110, 100]⟩ 2 1)
set_option maxHeartbeats 16000000 in
theorem rt_find_any (w : World) : Calls Try.prog 20 #[] w (CodePost w find_C) := by
  have hz_m1 : InI (-1) := ini rfl
  have hz_0 : InI 0 := ini rfl
  have hz_2 : InI 2 := ini rfl
  go_enter Try.func20, Try.ntmps20
  go_wp2_with fail
  refine (start_any ⟨#[95, 102, 105, 110, 100]⟩ 2 1 (by decide) (by decide) (by decide) _).mono ?_
  rintro e w0 ⟨bm, rfl, e00⟩
  have e0 : Env (w.heap.size + 1) (w.alloc (.cells zeroCode 31)) bm [] 900000 (startF ⟨#[95, 102, 105, 110, 100]⟩ 2 1) 0 w0 := by
    rw [World.size_alloc] at e00; exact e00
  clear e00
  obtain ⟨n, hn⟩ : ∃ n, 900000 = n + 46 := ⟨900000 - 46, by decide⟩
  obtain ⟨c, hc⟩ : ∃ c, c = startF ⟨#[95, 102, 105, 110, 100]⟩ 2 1 := ⟨_, rfl⟩
  rw [← hc, hn] at e0
  have HC := Lib.hid hc
  clear hn hc
  obtain ⟨W0, hW0⟩ : ∃ W, W = w.alloc (.cells zeroCode 31) := ⟨_, rfl⟩
  rw [← hW0] at e0
  have HW0 := Lib.hid hW0
  clear hW0
  have b0 := e0.box (.pointer (some ⟨bm, 0, none⟩)) 54
  obtain ⟨l1, hl1⟩ : ∃ l, l = (w0.heap.size, 0, Value.pointer (some ⟨bm, 0, none⟩)) :: [] := ⟨_, rfl⟩
  rw [← hl1] at b0
  obtain ⟨V0, hV0⟩ : ∃ W, W = w0.alloc (.cells #[.pointer (some ⟨bm, 0, none⟩)] 54) := ⟨_, rfl⟩
  rw [← hV0] at b0
  have m_m : (w0.heap.size, 0, Value.pointer (some ⟨bm, 0, none⟩)) ∈ l1 := by rw [hl1]; exact List.mem_cons_self
  have HV0 := Lib.hid hV0
  have H0 := Lib.hid b0
  clear hV0 hl1 b0
  clear e0
  have q_m := H0.out.cell m_m
  rw [HV0.out] at q_m
  go_wp2_with fail
  rw [← HV0.out]
  try rw [show w0.heap.size + 1 = V0.heap.size from by rw [HV0.out, World.size_alloc]]
  clear q_m
  refine (fresh_any H0.out).mono ?_
  rintro e w1 ⟨rfl, e10⟩
  have e1 : Env (w.heap.size + 1) W0 bm l1 (n + 45) (find_1 c) 0 w1 := e10
  have hr1 := InI.vars H0.out
  have b1 := e1.box (.int .i64 c.vars) 3
  obtain ⟨l2, hl2⟩ : ∃ l, l = (w1.heap.size, 0, Value.int .i64 c.vars) :: l1 := ⟨_, rfl⟩
  rw [← hl2] at b1
  obtain ⟨V1, hV1⟩ : ∃ W, W = w1.alloc (.cells #[.int .i64 c.vars] 3) := ⟨_, rfl⟩
  rw [← hV1] at b1
  have m_m := (show _ ∈ l2 from hl2 ▸ List.mem_cons_of_mem _ m_m)
  have m_at_ : (w1.heap.size, 0, Value.int .i64 c.vars) ∈ l2 := by rw [hl2]; exact List.mem_cons_self
  have HV1 := Lib.hid hV1
  have H1 := Lib.hid b1
  clear hV1 hl2 b1
  clear e1 e10
  have hS := keep2 m_m m_at_ H1.out.x
  rw [HV1.out] at hS
  go_wp2_with fail
  rw [← HV1.out] at hS ⊢
  go_region_held3 (fun w' => (w'.cell? ⟨w0.heap.size, 0, none⟩ = some (.pointer (some ⟨bm, 0, none⟩)) ∧ w'.cell? ⟨w1.heap.size, 0, none⟩ = some (.int .i64 c.vars)) ∧ EnvX (w.heap.size + 1) W0 bm l2 w')
    (first | exact hS | exact keep2 m_m m_at_ H1.out.x.drew | exact keep2 m_m m_at_ (Env.x (by assumption)) | exact keep2 m_m m_at_ (EnvX.drew (And.right (by assumption))) | exact keep2 m_m m_at_ (EnvX.alloc (Env.x (by assumption)) _) | exact keep2 m_m m_at_ (EnvX.alloc (And.right (by assumption)) _))
    (first | (go_at_call 40; (refine (load_any 0 2 hz_0 hz_2 H1.out.drew).mono ?_); rintro e w2 ⟨rfl, e20⟩; have e2 : Env (w.heap.size + 1) W0 bm l2 (n + 43) (find_2 c) 0 w2 := e20; clear e20) | (go_at_call 43; (refine (set_any c.vars (find_1 c).vars hr1 (InI.vars H1.out) e2).mono ?_); rintro e w3 ⟨rfl, e30⟩; have e3 : Env (w.heap.size + 1) W0 bm l2 (n + 42) (find_3 c) 0 w3 := e30; clear e30))
  all_goals
    have hr2 := InI.vars H1.out
    have H3 := Lib.hid e3
    clear hS
    have hS := keep2 m_m m_at_ H3.out.x
    go_wp2_with fail
    go_region_held3 (fun w' => (w'.cell? ⟨w0.heap.size, 0, none⟩ = some (.pointer (some ⟨bm, 0, none⟩)) ∧ w'.cell? ⟨w1.heap.size, 0, none⟩ = some (.int .i64 c.vars)) ∧ EnvX (w.heap.size + 1) W0 bm l2 w')
      (first | exact hS | exact keep2 m_m m_at_ H3.out.x.drew | exact keep2 m_m m_at_ (Env.x (by assumption)) | exact keep2 m_m m_at_ (EnvX.drew (And.right (by assumption))) | exact keep2 m_m m_at_ (EnvX.alloc (Env.x (by assumption)) _) | exact keep2 m_m m_at_ (EnvX.alloc (And.right (by assumption)) _))
      (first | (go_at_call 35; (refine (konst_any 0 hz_0 H3.out.drew).mono ?_); rintro e w4 ⟨rfl, e40⟩; have e4 : Env (w.heap.size + 1) W0 bm l2 (n + 40) (find_4 c) 0 w4 := e40; clear e40) | (go_at_call 40; (refine (load_any 0 0 hz_0 hz_0 e4).mono ?_); rintro e w5 ⟨rfl, e50⟩; have e5 : Env (w.heap.size + 1) W0 bm l2 (n + 38) (find_5 c) 0 w5 := e50; clear e50) | (go_at_call 38; (refine (count_any (m := n + 29) (n := n + 3) (c3 := find1_F (countIn (find_5 c) 0 (find_3 c).vars (find_4 c).vars) ((find_5 c).blocks.length + 1) (find_5 c).vars c.vars) (k3 := find1_K (countIn (find_5 c) 0 (find_3 c).vars (find_4 c).vars) ((find_5 c).blocks.length + 1) (find_5 c).vars c.vars) (InI.vars H3.out) (InI.vars e4) enters_find1 e5 (fun w2 e2 => by exact find1_any (InI.vars e5) hr1 m_m m_at_ e2) (by rw [find1_len, countIn_len]; omega)).mono ?_); rintro e w6 ⟨rfl, e60⟩; have e6 : Env (w.heap.size + 1) W0 bm l2 (n + 3) (find_6 c) ((find_5 c).blocks.length + 2) w6 := e60; clear e60))
    all_goals
      have hr4 := InI.vars H3.out
      have hr5 := InI.vars e4
      have H6 := Lib.hid e6
      clear hS
      have hS := keep2 m_m m_at_ H6.out.x
      go_wp2_with fail
      go_region_held3 (fun w' => (w'.cell? ⟨w0.heap.size, 0, none⟩ = some (.pointer (some ⟨bm, 0, none⟩)) ∧ w'.cell? ⟨w1.heap.size, 0, none⟩ = some (.int .i64 c.vars)) ∧ EnvX (w.heap.size + 1) W0 bm l2 w')
        (first | exact hS | exact keep2 m_m m_at_ H6.out.x.drew | exact keep2 m_m m_at_ (Env.x (by assumption)) | exact keep2 m_m m_at_ (EnvX.drew (And.right (by assumption))) | exact keep2 m_m m_at_ (EnvX.alloc (Env.x (by assumption)) _) | exact keep2 m_m m_at_ (EnvX.alloc (And.right (by assumption)) _))
        (first | (go_at_call 35; (refine (konst_any (-1) hz_m1 H6.out.drew).mono ?_); rintro e w7 ⟨rfl, e70⟩; have e7 : Env (w.heap.size + 1) W0 bm l2 (n + 1) (find_7 c) ((find_5 c).blocks.length + 2) w7 := e70; clear e70) | (go_at_call 34; (refine (back_any e7 ((Below.refl _ _).alloc (Nat.le_refl _) _) (rInts_all [(find_6 c).vars] (Nat.le_refl _) (lens rfl) (ini1 (InI.vars H6.out)) (new_one _ _))).mono ?_); rintro e w8 ⟨rfl, e80⟩; have e8 : Env (w.heap.size + 1) W0 bm l2 (n + 0) (find_8 c) ((find_5 c).blocks.length + 2) w8 := e80; clear e80))
      all_goals
        have hr7 := InI.vars H6.out
        have H8 := Lib.hid e8
        clear hS
        obtain ⟨hz1, hz2, gB, cB, ⟨d0, d1, d2, d3, d4, d5⟩, hrd⟩ := env_end H8.out
        obtain ⟨zc, zf⟩ := zero_cells w (HW0.out ▸ H8.out)
        have q_m := H8.out.cell m_m
        have z0 : w8.cell? ⟨w.heap.size, 0, none⟩ = some (.string ⟨#[]⟩) := zc 0
        have z1 : w8.cell? ⟨w.heap.size, 1, none⟩ = some (.int .i64 0) := zc 1
        have z2 : w8.cell? ⟨w.heap.size, 2, none⟩ = some (.int .i64 0) := zc 2
        have z3 : w8.cell? ⟨w.heap.size, 3, none⟩ = some (.int .i64 0) := zc 3
        have z4 : w8.cell? ⟨w.heap.size, 4, none⟩ = some (.int .i64 0) := zc 4
        have z5 : w8.cell? ⟨w.heap.size, 5, none⟩ = some (.slice none 0 0) := zc 5
        have y0 := zf 0
        have y1 := zf 1
        have y2 := zf 2
        have y3 := zf 3
        have y4 := zf 4
        have y5 := zf 5
        have hrd2 := Lib.hid hrd
        clear zc zf hrd
        go_wp2_with fail
        obtain ⟨V, hV, v0, v1, v2, v3, v4, v5, hs⟩ := box_six (.string (find_8 c).name) (.int .i64 (find_8 c).params) (.int .i64 (find_8 c).results) (.int .i64 (find_8 c).vars) (.int .i64 (find_8 c).slots) (.slice (some ⟨gB, 0, none⟩) (find_8 c).blocks.length cB) z0 z1 z2 z3 z4 z5
        rw [← hV]
        refine bodyPost_ret (v := .agg #[.string (find_8 c).name, .int .i64 (find_8 c).params, .int .i64 (find_8 c).results, .int .i64 (find_8 c).vars, .int .i64 (find_8 c).slots, .slice (some ⟨gB, 0, none⟩) (find_8 c).blocks.length cB]) (by simp [results, Try.results20, go_sem, v0, v1, v2, v3, v4, v5]) rfl ?_
        unfold find_C
        rw [← HC.out]
        exact code_post w (HW0.out ▸ H8.out) hs hrd2.out
end Go.Proofs.Ytaomlfbcfmmhlaa

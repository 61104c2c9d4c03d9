/-
  rt's cat, empty, walked (printed by wip/gen_rtfn.py).
-/
import Derived.Test.YtaomlfbcfmmhlaaRtFnC
import Derived.Test.YtaomlfbcfmmhlaaRtEnd
namespace Go.Proofs.Ytaomlfbcfmmhlaa
open Go.RowKit Go.Pst
set_option linter.unusedVariables false
set_option linter.unusedSimpArgs false

def cat_1 (c : PCode) : PCode := mathF c 0 ⟨#[43]⟩ 1 3
def cat_2 (c : PCode) : PCode := allocF (cat_1 c) 0 c.vars
def cat_3 (c : PCode) : PCode := copyF (cat_2 c) 0 (cat_1 c).vars 0 1
def cat_4 (c : PCode) : PCode := mathF (cat_3 c) ((cat_2 c).blocks.length + 2) ⟨#[43]⟩ (cat_1 c).vars 1
def cat_5 (c : PCode) : PCode := copyF (cat_4 c) ((cat_2 c).blocks.length + 2) (cat_3 c).vars 2 3
def cat_6 (c : PCode) : PCode := backF (cat_5 c) ((cat_4 c).blocks.length + 2) [(cat_1 c).vars, c.vars]
def cat_C : PCode := cat_6 (startF ⟨#[95, 99, 97, 116]⟩ 4 2)
set_option maxHeartbeats 16000000 in
theorem rt_cat_any (w : World) : Calls Try.prog 15 #[] w (CodePost w cat_C) := by
  have hz_0 : InI 0 := ini rfl
  have hz_1 : InI 1 := ini rfl
  have hz_2 : InI 2 := ini rfl
  have hz_3 : InI 3 := ini rfl
  go_enter Try.func15, Try.ntmps15
  go_wp2_with fail
  refine (start_any ⟨#[95, 99, 97, 116]⟩ 4 2 (by decide) (by decide) (by decide) _).mono ?_
  rintro e w0 ⟨bm, rfl, e00⟩
  have e0 : Env (w.heap.size + 1) (w.alloc (.cells zeroCode 31)) bm [] 900000 (startF ⟨#[95, 99, 97, 116]⟩ 4 2) 0 w0 := by
    rw [World.size_alloc] at e00; exact e00
  clear e00
  obtain ⟨n, hn⟩ : ∃ n, 900000 = n + 55 := ⟨900000 - 55, by decide⟩
  obtain ⟨c, hc⟩ : ∃ c, c = startF ⟨#[95, 99, 97, 116]⟩ 4 2 := ⟨_, rfl⟩
  rw [← hc, hn] at e0
  have HC := Lib.hid hc
  clear hn hc
  obtain ⟨W0, hW0⟩ : ∃ W, W = w.alloc (.cells zeroCode 31) := ⟨_, rfl⟩
  rw [← hW0] at e0
  have HW0 := Lib.hid hW0
  clear hW0
  have H0 := Lib.hid e0
  clear e0
  go_wp2_with fail
  refine (math_any ⟨#[43]⟩ 1 3 hz_1 hz_3 (by decide) H0.out).mono ?_
  rintro e w1 ⟨rfl, e10⟩
  have e1 : Env (w.heap.size + 1) W0 bm [] (n + 53) (cat_1 c) 0 w1 := e10
  have hr1 := InI.vars H0.out
  have H1 := Lib.hid e1
  clear e1 e10
  go_wp2_with fail
  refine (alloc_any c.vars hr1 H1.out).mono ?_
  rintro e w2 ⟨rfl, e20⟩
  have e2 : Env (w.heap.size + 1) W0 bm [] (n + 51) (cat_2 c) 0 w2 := e20
  have hr2 := InI.vars H1.out
  have H2 := Lib.hid e2
  clear e2 e20
  go_wp2_with fail
  refine (copy_any hr2 hz_0 hz_1 H2.out).mono ?_
  rintro e w3 ⟨rfl, e30⟩
  have e3 : Env (w.heap.size + 1) W0 bm [] (n + 27) (cat_3 c) ((cat_2 c).blocks.length + 2) w3 := e30
  have H3 := Lib.hid e3
  clear e3 e30
  go_wp2_with fail
  refine (math_any ⟨#[43]⟩ (cat_1 c).vars 1 hr2 hz_1 (by decide) H3.out).mono ?_
  rintro e w4 ⟨rfl, e40⟩
  have e4 : Env (w.heap.size + 1) W0 bm [] (n + 25) (cat_4 c) ((cat_2 c).blocks.length + 2) w4 := e40
  have hr4 := InI.vars H3.out
  have H4 := Lib.hid e4
  clear e4 e40
  go_wp2_with fail
  refine (copy_any hr4 hz_2 hz_3 H4.out).mono ?_
  rintro e w5 ⟨rfl, e50⟩
  have e5 : Env (w.heap.size + 1) W0 bm [] (n + 1) (cat_5 c) ((cat_4 c).blocks.length + 2) w5 := e50
  have H5 := Lib.hid e5
  clear e5 e50
  go_wp2_with fail
  refine (back_any H5.out ((Below.refl _ _).alloc (Nat.le_refl _) _) (rInts_all [(cat_1 c).vars, c.vars] (Nat.le_refl _) (lens rfl) (ini2 hr2 hr1) (new_one _ _))).mono ?_
  rintro e w6 ⟨rfl, e60⟩
  have e6 : Env (w.heap.size + 1) W0 bm [] (n + 0) (cat_6 c) ((cat_4 c).blocks.length + 2) w6 := e60
  have H6 := Lib.hid e6
  clear e6 e60
  obtain ⟨hz1, hz2, gB, cB, ⟨d0, d1, d2, d3, d4, d5⟩, hrd⟩ := env_end H6.out
  obtain ⟨zc, zf⟩ := zero_cells w (HW0.out ▸ H6.out)
  have z0 : w6.cell? ⟨w.heap.size, 0, none⟩ = some (.string ⟨#[]⟩) := zc 0
  have z1 : w6.cell? ⟨w.heap.size, 1, none⟩ = some (.int .i64 0) := zc 1
  have z2 : w6.cell? ⟨w.heap.size, 2, none⟩ = some (.int .i64 0) := zc 2
  have z3 : w6.cell? ⟨w.heap.size, 3, none⟩ = some (.int .i64 0) := zc 3
  have z4 : w6.cell? ⟨w.heap.size, 4, none⟩ = some (.int .i64 0) := zc 4
  have z5 : w6.cell? ⟨w.heap.size, 5, none⟩ = some (.slice none 0 0) := zc 5
  have y0 := zf 0
  have y1 := zf 1
  have y2 := zf 2
  have y3 := zf 3
  have y4 := zf 4
  have y5 := zf 5
  have hrd2 := Lib.hid hrd
  clear zc zf hrd
  go_wp2_with fail
  obtain ⟨V, hV, v0, v1, v2, v3, v4, v5, hs⟩ := box_six (.string (cat_6 c).name) (.int .i64 (cat_6 c).params) (.int .i64 (cat_6 c).results) (.int .i64 (cat_6 c).vars) (.int .i64 (cat_6 c).slots) (.slice (some ⟨gB, 0, none⟩) (cat_6 c).blocks.length cB) z0 z1 z2 z3 z4 z5
  rw [← hV]
  refine bodyPost_ret (v := .agg #[.string (cat_6 c).name, .int .i64 (cat_6 c).params, .int .i64 (cat_6 c).results, .int .i64 (cat_6 c).vars, .int .i64 (cat_6 c).slots, .slice (some ⟨gB, 0, none⟩) (cat_6 c).blocks.length cB]) (by simp [results, Try.results15, go_sem, v0, v1, v2, v3, v4, v5]) rfl ?_
  unfold cat_C
  rw [← HC.out]
  exact code_post w (HW0.out ▸ H6.out) hs hrd2.out
def empty_1 (c : PCode) : PCode := konstF c 0 16
def empty_2 (c : PCode) : PCode := allocF (empty_1 c) 0 c.vars
def empty_3 (c : PCode) : PCode := konstF (empty_2 c) 0 4
def empty_4 (c : PCode) : PCode := storeF (empty_3 c) 0 (empty_1 c).vars 1 (empty_2 c).vars
def empty_5 (c : PCode) : PCode := konstF (empty_4 c) 0 4
def empty_6 (c : PCode) : PCode := mathF (empty_5 c) 0 ⟨#[43]⟩ (empty_1 c).vars (empty_4 c).vars
def empty_7 (c : PCode) : PCode := storeF (empty_6 c) 0 (empty_1 c).vars 2 (empty_5 c).vars
def empty_8 (c : PCode) : PCode := backF (empty_7 c) 0 [(empty_1 c).vars]
def empty_C : PCode := empty_8 (startF ⟨#[95, 109, 97, 112]⟩ 0 1)
set_option maxHeartbeats 16000000 in
theorem rt_empty_any (w : World) : Calls Try.prog 19 #[] w (CodePost w empty_C) := by
  have hz_1 : InI 1 := ini rfl
  have hz_16 : InI 16 := ini rfl
  have hz_2 : InI 2 := ini rfl
  have hz_4 : InI 4 := ini rfl
  go_enter Try.func19, Try.ntmps19
  go_wp2_with fail
  refine (start_any ⟨#[95, 109, 97, 112]⟩ 0 1 (by decide) (by decide) (by decide) _).mono ?_
  rintro e w0 ⟨bm, rfl, e00⟩
  have e0 : Env (w.heap.size + 1) (w.alloc (.cells zeroCode 31)) bm [] 900000 (startF ⟨#[95, 109, 97, 112]⟩ 0 1) 0 w0 := by
    rw [World.size_alloc] at e00; exact e00
  clear e00
  obtain ⟨n, hn⟩ : ∃ n, 900000 = n + 13 := ⟨900000 - 13, by decide⟩
  obtain ⟨c, hc⟩ : ∃ c, c = startF ⟨#[95, 109, 97, 112]⟩ 0 1 := ⟨_, rfl⟩
  rw [← hc, hn] at e0
  have HC := Lib.hid hc
  clear hn hc
  obtain ⟨W0, hW0⟩ : ∃ W, W = w.alloc (.cells zeroCode 31) := ⟨_, rfl⟩
  rw [← hW0] at e0
  have HW0 := Lib.hid hW0
  clear hW0
  have H0 := Lib.hid e0
  clear e0
  go_wp2_with fail
  refine (konst_any 16 hz_16 H0.out).mono ?_
  rintro e w1 ⟨rfl, e10⟩
  have e1 : Env (w.heap.size + 1) W0 bm [] (n + 11) (empty_1 c) 0 w1 := e10
  have hr1 := InI.vars H0.out
  have H1 := Lib.hid e1
  clear e1 e10
  go_wp2_with fail
  refine (alloc_any c.vars hr1 H1.out).mono ?_
  rintro e w2 ⟨rfl, e20⟩
  have e2 : Env (w.heap.size + 1) W0 bm [] (n + 9) (empty_2 c) 0 w2 := e20
  have hr2 := InI.vars H1.out
  have H2 := Lib.hid e2
  clear e2 e20
  go_wp2_with fail
  refine (konst_any 4 hz_4 H2.out).mono ?_
  rintro e w3 ⟨rfl, e30⟩
  have e3 : Env (w.heap.size + 1) W0 bm [] (n + 7) (empty_3 c) 0 w3 := e30
  have hr3 := InI.vars H2.out
  have H3 := Lib.hid e3
  clear e3 e30
  go_wp2_with fail
  refine (store_any (empty_1 c).vars 1 (empty_2 c).vars hr2 hz_1 hr3 H3.out).mono ?_
  rintro e w4 ⟨rfl, e40⟩
  have e4 : Env (w.heap.size + 1) W0 bm [] (n + 6) (empty_4 c) 0 w4 := e40
  have H4 := Lib.hid e4
  clear e4 e40
  go_wp2_with fail
  refine (konst_any 4 hz_4 H4.out).mono ?_
  rintro e w5 ⟨rfl, e50⟩
  have e5 : Env (w.heap.size + 1) W0 bm [] (n + 4) (empty_5 c) 0 w5 := e50
  have hr5 := InI.vars H4.out
  have H5 := Lib.hid e5
  clear e5 e50
  go_wp2_with fail
  refine (math_any ⟨#[43]⟩ (empty_1 c).vars (empty_4 c).vars hr2 hr5 (by decide) H5.out).mono ?_
  rintro e w6 ⟨rfl, e60⟩
  have e6 : Env (w.heap.size + 1) W0 bm [] (n + 2) (empty_6 c) 0 w6 := e60
  have hr6 := InI.vars H5.out
  have H6 := Lib.hid e6
  clear e6 e60
  go_wp2_with fail
  refine (store_any (empty_1 c).vars 2 (empty_5 c).vars hr2 hz_2 hr6 H6.out).mono ?_
  rintro e w7 ⟨rfl, e70⟩
  have e7 : Env (w.heap.size + 1) W0 bm [] (n + 1) (empty_7 c) 0 w7 := e70
  have H7 := Lib.hid e7
  clear e7 e70
  go_wp2_with fail
  refine (back_any H7.out ((Below.refl _ _).alloc (Nat.le_refl _) _) (rInts_all [(empty_1 c).vars] (Nat.le_refl _) (lens rfl) (ini1 hr2) (new_one _ _))).mono ?_
  rintro e w8 ⟨rfl, e80⟩
  have e8 : Env (w.heap.size + 1) W0 bm [] (n + 0) (empty_8 c) 0 w8 := e80
  have H8 := Lib.hid e8
  clear e8 e80
  obtain ⟨hz1, hz2, gB, cB, ⟨d0, d1, d2, d3, d4, d5⟩, hrd⟩ := env_end H8.out
  obtain ⟨zc, zf⟩ := zero_cells w (HW0.out ▸ H8.out)
  have z0 : w8.cell? ⟨w.heap.size, 0, none⟩ = some (.string ⟨#[]⟩) := zc 0
  have z1 : w8.cell? ⟨w.heap.size, 1, none⟩ = some (.int .i64 0) := zc 1
  have z2 : w8.cell? ⟨w.heap.size, 2, none⟩ = some (.int .i64 0) := zc 2
  have z3 : w8.cell? ⟨w.heap.size, 3, none⟩ = some (.int .i64 0) := zc 3
  have z4 : w8.cell? ⟨w.heap.size, 4, none⟩ = some (.int .i64 0) := zc 4
  have z5 : w8.cell? ⟨w.heap.size, 5, none⟩ = some (.slice none 0 0) := zc 5
  have y0 := zf 0
  have y1 := zf 1
  have y2 := zf 2
  have y3 := zf 3
  have y4 := zf 4
  have y5 := zf 5
  have hrd2 := Lib.hid hrd
  clear zc zf hrd
  go_wp2_with fail
  obtain ⟨V, hV, v0, v1, v2, v3, v4, v5, hs⟩ := box_six (.string (empty_8 c).name) (.int .i64 (empty_8 c).params) (.int .i64 (empty_8 c).results) (.int .i64 (empty_8 c).vars) (.int .i64 (empty_8 c).slots) (.slice (some ⟨gB, 0, none⟩) (empty_8 c).blocks.length cB) z0 z1 z2 z3 z4 z5
  rw [← hV]
  refine bodyPost_ret (v := .agg #[.string (empty_8 c).name, .int .i64 (empty_8 c).params, .int .i64 (empty_8 c).results, .int .i64 (empty_8 c).vars, .int .i64 (empty_8 c).slots, .slice (some ⟨gB, 0, none⟩) (empty_8 c).blocks.length cB]) (by simp [results, Try.results19, go_sem, v0, v1, v2, v3, v4, v5]) rfl ?_
  unfold empty_C
  rw [← HC.out]
  exact code_post w (HW0.out ▸ H8.out) hs hrd2.out
end Go.Proofs.Ytaomlfbcfmmhlaa

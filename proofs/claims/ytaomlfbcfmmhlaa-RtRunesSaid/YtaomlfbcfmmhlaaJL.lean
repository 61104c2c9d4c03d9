/-
  Texts joined: RtAll RtLit RtFaults.
-/
import Derived.Test.YtaomlfbcfmmhlaaJI
import Derived.Test.YtaomlfbcfmmhlaaJN
import Derived.Test.YtaomlfbcfmmhlaaJO
import Derived.Test.YtaomlfbcfmmhlaaJP
import Derived.Test.YtaomlfbcfmmhlaaJB
import Derived.Test.YtaomlfbcfmmhlaaJR

/-
  rt.All, walked: ten codes (printed by wip/gen_rtall.py).
-/
namespace Go.Proofs.Ytaomlfbcfmmhlaa
open Go.RowKit Go.Pst
set_option linter.unusedVariables false
set_option linter.unusedSimpArgs false

def allC : List PCode := [cat_C, same_C, less_C, add_C, empty_C, find_C, get_C, put_C, drop_C, char_C]
theorem code_keep {w w' : World} {c : PCode} {v5 : Value} (h : rCode (fun _ => True) w [.string c.name, .int .i64 c.params, .int .i64 c.results, .int .i64 c.vars, .int .i64 c.slots, v5] c) (hb : Below w.heap.size w w') :
    rCode (fun _ => True) w' [.string c.name, .int .i64 c.params, .int .i64 c.results, .int .i64 c.vars, .int .i64 c.slots, v5] c := Good.keep (Keep.of_below' hb (fun x hx _ => hx)) (fun _ _ _ => trivial) h
set_option maxHeartbeats 16000000 in
theorem all_any (w : World) : Calls Try.prog 7 #[] w fun e w' => ∃ g, e = .returned (.slice (some ⟨g, 0, none⟩) 10 10) ∧ rSlice 6 rCode (fun _ => True) w' [.slice (some ⟨g, 0, none⟩) 10 10] allC ∧ Below w.heap.size w w' := by
  go_enter Try.func7, Try.ntmps7
  go_wp2_with fail
  refine (rt_cat_any _).mono ?_
  rintro e w1 ⟨v1, rfl, r1, b1⟩
  obtain ⟨c1, hc1⟩ : ∃ c, c = cat_C := ⟨_, rfl⟩
  rw [← hc1] at r1 ⊢
  have R1 := Lib.hid r1
  have B1 := Lib.hid b1
  have HC1 := Lib.hid hc1
  clear r1 b1 hc1
  go_wp2_with fail
  refine (rt_same_any _).mono ?_
  rintro e w2 ⟨v2, rfl, r2, b2⟩
  obtain ⟨c2, hc2⟩ : ∃ c, c = same_C := ⟨_, rfl⟩
  rw [← hc2] at r2 ⊢
  have R2 := Lib.hid r2
  have B2 := Lib.hid b2
  have HC2 := Lib.hid hc2
  clear r2 b2 hc2
  go_wp2_with fail
  refine (rt_less_any _).mono ?_
  rintro e w3 ⟨v3, rfl, r3, b3⟩
  obtain ⟨c3, hc3⟩ : ∃ c, c = less_C := ⟨_, rfl⟩
  rw [← hc3] at r3 ⊢
  have R3 := Lib.hid r3
  have B3 := Lib.hid b3
  have HC3 := Lib.hid hc3
  clear r3 b3 hc3
  go_wp2_with fail
  refine (rt_add_any _).mono ?_
  rintro e w4 ⟨v4, rfl, r4, b4⟩
  obtain ⟨c4, hc4⟩ : ∃ c, c = add_C := ⟨_, rfl⟩
  rw [← hc4] at r4 ⊢
  have R4 := Lib.hid r4
  have B4 := Lib.hid b4
  have HC4 := Lib.hid hc4
  clear r4 b4 hc4
  go_wp2_with fail
  refine (rt_empty_any _).mono ?_
  rintro e w5 ⟨v5, rfl, r5, b5⟩
  obtain ⟨c5, hc5⟩ : ∃ c, c = empty_C := ⟨_, rfl⟩
  rw [← hc5] at r5 ⊢
  have R5 := Lib.hid r5
  have B5 := Lib.hid b5
  have HC5 := Lib.hid hc5
  clear r5 b5 hc5
  go_wp2_with fail
  refine (rt_find_any _).mono ?_
  rintro e w6 ⟨v6, rfl, r6, b6⟩
  obtain ⟨c6, hc6⟩ : ∃ c, c = find_C := ⟨_, rfl⟩
  rw [← hc6] at r6 ⊢
  have R6 := Lib.hid r6
  have B6 := Lib.hid b6
  have HC6 := Lib.hid hc6
  clear r6 b6 hc6
  go_wp2_with fail
  refine (rt_get_any _).mono ?_
  rintro e w7 ⟨v7, rfl, r7, b7⟩
  obtain ⟨c7, hc7⟩ : ∃ c, c = get_C := ⟨_, rfl⟩
  rw [← hc7] at r7 ⊢
  have R7 := Lib.hid r7
  have B7 := Lib.hid b7
  have HC7 := Lib.hid hc7
  clear r7 b7 hc7
  go_wp2_with fail
  refine (rt_put_any _).mono ?_
  rintro e w8 ⟨v8, rfl, r8, b8⟩
  obtain ⟨c8, hc8⟩ : ∃ c, c = put_C := ⟨_, rfl⟩
  rw [← hc8] at r8 ⊢
  have R8 := Lib.hid r8
  have B8 := Lib.hid b8
  have HC8 := Lib.hid hc8
  clear r8 b8 hc8
  go_wp2_with fail
  refine (rt_drop_any _).mono ?_
  rintro e w9 ⟨v9, rfl, r9, b9⟩
  obtain ⟨c9, hc9⟩ : ∃ c, c = drop_C := ⟨_, rfl⟩
  rw [← hc9] at r9 ⊢
  have R9 := Lib.hid r9
  have B9 := Lib.hid b9
  have HC9 := Lib.hid hc9
  clear r9 b9 hc9
  go_wp2_with fail
  refine (rt_char_any _).mono ?_
  rintro e w10 ⟨v10, rfl, r10, b10⟩
  obtain ⟨c10, hc10⟩ : ∃ c, c = char_C := ⟨_, rfl⟩
  rw [← hc10] at r10 ⊢
  have R10 := Lib.hid r10
  have B10 := Lib.hid b10
  have HC10 := Lib.hid hc10
  clear r10 b10 hc10
  go_wp2_with fail
  refine bodyPost_ret (v := .slice (some ⟨w10.heap.size, 0, none⟩) 10 10) (by simp [results, Try.results7, go_sem]) rfl ?_
  have hl : allC = [c1, c2, c3, c4, c5, c6, c7, c8, c9, c10] := by unfold allC; rw [HC1.out, HC2.out, HC3.out, HC4.out, HC5.out, HC6.out, HC7.out, HC8.out, HC9.out, HC10.out]
  rw [hl]
  clear hl
  have hW := heap_alloc_new w10 (.cells (List.flatten [[.string c1.name, .int .i64 c1.params, .int .i64 c1.results, .int .i64 c1.vars, .int .i64 c1.slots, v1], [.string c2.name, .int .i64 c2.params, .int .i64 c2.results, .int .i64 c2.vars, .int .i64 c2.slots, v2], [.string c3.name, .int .i64 c3.params, .int .i64 c3.results, .int .i64 c3.vars, .int .i64 c3.slots, v3], [.string c4.name, .int .i64 c4.params, .int .i64 c4.results, .int .i64 c4.vars, .int .i64 c4.slots, v4], [.string c5.name, .int .i64 c5.params, .int .i64 c5.results, .int .i64 c5.vars, .int .i64 c5.slots, v5], [.string c6.name, .int .i64 c6.params, .int .i64 c6.results, .int .i64 c6.vars, .int .i64 c6.slots, v6], [.string c7.name, .int .i64 c7.params, .int .i64 c7.results, .int .i64 c7.vars, .int .i64 c7.slots, v7], [.string c8.name, .int .i64 c8.params, .int .i64 c8.results, .int .i64 c8.vars, .int .i64 c8.slots, v8], [.string c9.name, .int .i64 c9.params, .int .i64 c9.results, .int .i64 c9.vars, .int .i64 c9.slots, v9], [.string c10.name, .int .i64 c10.params, .int .i64 c10.results, .int .i64 c10.vars, .int .i64 c10.slots, v10]]).toArray 31)
  have b10 : Below w10.heap.size w10 (w10.alloc (.cells (List.flatten [[.string c1.name, .int .i64 c1.params, .int .i64 c1.results, .int .i64 c1.vars, .int .i64 c1.slots, v1], [.string c2.name, .int .i64 c2.params, .int .i64 c2.results, .int .i64 c2.vars, .int .i64 c2.slots, v2], [.string c3.name, .int .i64 c3.params, .int .i64 c3.results, .int .i64 c3.vars, .int .i64 c3.slots, v3], [.string c4.name, .int .i64 c4.params, .int .i64 c4.results, .int .i64 c4.vars, .int .i64 c4.slots, v4], [.string c5.name, .int .i64 c5.params, .int .i64 c5.results, .int .i64 c5.vars, .int .i64 c5.slots, v5], [.string c6.name, .int .i64 c6.params, .int .i64 c6.results, .int .i64 c6.vars, .int .i64 c6.slots, v6], [.string c7.name, .int .i64 c7.params, .int .i64 c7.results, .int .i64 c7.vars, .int .i64 c7.slots, v7], [.string c8.name, .int .i64 c8.params, .int .i64 c8.results, .int .i64 c8.vars, .int .i64 c8.slots, v8], [.string c9.name, .int .i64 c9.params, .int .i64 c9.results, .int .i64 c9.vars, .int .i64 c9.slots, v9], [.string c10.name, .int .i64 c10.params, .int .i64 c10.results, .int .i64 c10.vars, .int .i64 c10.slots, v10]]).toArray 31)) := (Below.refl _ _).alloc (Nat.le_refl _) _
  refine (fun (h : ∀ W, W.heap[w10.heap.size]? = some (.cells (List.flatten [[.string c1.name, .int .i64 c1.params, .int .i64 c1.results, .int .i64 c1.vars, .int .i64 c1.slots, v1], [.string c2.name, .int .i64 c2.params, .int .i64 c2.results, .int .i64 c2.vars, .int .i64 c2.slots, v2], [.string c3.name, .int .i64 c3.params, .int .i64 c3.results, .int .i64 c3.vars, .int .i64 c3.slots, v3], [.string c4.name, .int .i64 c4.params, .int .i64 c4.results, .int .i64 c4.vars, .int .i64 c4.slots, v4], [.string c5.name, .int .i64 c5.params, .int .i64 c5.results, .int .i64 c5.vars, .int .i64 c5.slots, v5], [.string c6.name, .int .i64 c6.params, .int .i64 c6.results, .int .i64 c6.vars, .int .i64 c6.slots, v6], [.string c7.name, .int .i64 c7.params, .int .i64 c7.results, .int .i64 c7.vars, .int .i64 c7.slots, v7], [.string c8.name, .int .i64 c8.params, .int .i64 c8.results, .int .i64 c8.vars, .int .i64 c8.slots, v8], [.string c9.name, .int .i64 c9.params, .int .i64 c9.results, .int .i64 c9.vars, .int .i64 c9.slots, v9], [.string c10.name, .int .i64 c10.params, .int .i64 c10.results, .int .i64 c10.vars, .int .i64 c10.slots, v10]]).toArray 31) → Below w10.heap.size w10 W → (∃ g, Ending.returned (Value.slice (some ⟨w10.heap.size, 0, none⟩) 10 10) = Ending.returned (.slice (some ⟨g, 0, none⟩) 10 10) ∧ rSlice 6 rCode (fun _ => True) W [.slice (some ⟨g, 0, none⟩) 10 10] [c1, c2, c3, c4, c5, c6, c7, c8, c9, c10] ∧ Below w.heap.size w W)) => h _ hW b10) (fun W hW b10 => ?_)
  have b9 := B10.out.trans (b10.mono B10.out.size)
  have b8 := B9.out.trans (b9.mono B9.out.size)
  have b7 := B8.out.trans (b8.mono B8.out.size)
  have b6 := B7.out.trans (b7.mono B7.out.size)
  have b5 := B6.out.trans (b6.mono B6.out.size)
  have b4 := B5.out.trans (b5.mono B5.out.size)
  have b3 := B4.out.trans (b4.mono B4.out.size)
  have b2 := B3.out.trans (b3.mono B3.out.size)
  have b1 := B2.out.trans (b2.mono B2.out.size)
  have b0 := B1.out.trans (b1.mono B1.out.size)
  exact ⟨_, rfl, rSlice_all (l := [c1, c2, c3, c4, c5, c6, c7, c8, c9, c10]) [[.string c1.name, .int .i64 c1.params, .int .i64 c1.results, .int .i64 c1.vars, .int .i64 c1.slots, v1], [.string c2.name, .int .i64 c2.params, .int .i64 c2.results, .int .i64 c2.vars, .int .i64 c2.slots, v2], [.string c3.name, .int .i64 c3.params, .int .i64 c3.results, .int .i64 c3.vars, .int .i64 c3.slots, v3], [.string c4.name, .int .i64 c4.params, .int .i64 c4.results, .int .i64 c4.vars, .int .i64 c4.slots, v4], [.string c5.name, .int .i64 c5.params, .int .i64 c5.results, .int .i64 c5.vars, .int .i64 c5.slots, v5], [.string c6.name, .int .i64 c6.params, .int .i64 c6.results, .int .i64 c6.vars, .int .i64 c6.slots, v6], [.string c7.name, .int .i64 c7.params, .int .i64 c7.results, .int .i64 c7.vars, .int .i64 c7.slots, v7], [.string c8.name, .int .i64 c8.params, .int .i64 c8.results, .int .i64 c8.vars, .int .i64 c8.slots, v8], [.string c9.name, .int .i64 c9.params, .int .i64 c9.results, .int .i64 c9.vars, .int .i64 c9.slots, v9], [.string c10.name, .int .i64 c10.params, .int .i64 c10.results, .int .i64 c10.vars, .int .i64 c10.slots, v10]] trivial (lens rfl) hW ⟨⟨rfl, code_keep R1.out b1⟩, ⟨rfl, code_keep R2.out b2⟩, ⟨rfl, code_keep R3.out b3⟩, ⟨rfl, code_keep R4.out b4⟩, ⟨rfl, code_keep R5.out b5⟩, ⟨rfl, code_keep R6.out b6⟩, ⟨rfl, code_keep R7.out b7⟩, ⟨rfl, code_keep R8.out b8⟩, ⟨rfl, code_keep R9.out b9⟩, ⟨rfl, code_keep R10.out b10⟩, trivial⟩, b0⟩
end Go.Proofs.Ytaomlfbcfmmhlaa

/-
  rt's functions, written out.
-/
namespace Go.Proofs.Ytaomlfbcfmmhlaa
open Go.RowKit Go.Pst
set_option linter.unusedVariables false
set_option maxRecDepth 100000

theorem cat_lit : cat_C = cat_L := by kernel_rfl
theorem same_lit : same_C = same_L := by kernel_rfl
theorem less_lit : less_C = less_L := by kernel_rfl
theorem add_lit : add_C = add_L := by kernel_rfl
theorem empty_lit : empty_C = empty_L := by kernel_rfl
theorem find_lit : find_C = find_L := by kernel_rfl
theorem get_lit : get_C = get_L := by kernel_rfl
theorem put_lit : put_C = put_L := by kernel_rfl
theorem drop_lit : drop_C = drop_L := by kernel_rfl
theorem char_lit : char_C = char_L := by kernel_rfl
end Go.Proofs.Ytaomlfbcfmmhlaa

/-
  rt's programs as they are driven: they may be, and fit.
-/
namespace Go.Proofs.Ytaomlfbcfmmhlaa
open Go.RowKit Go.Pst
set_option linter.unusedVariables false
set_option linter.unusedSimpArgs false
set_option maxRecDepth 100000

theorem all_lit : allC = allL := by unfold allC allL; rw [cat_lit, same_lit, less_lit, add_lit, empty_lit, find_lit, get_lit, put_lit, drop_lit, char_lit]
theorem fit_lit : ∀ c ∈ allL, FitCode c := by
  have h : (allL.all fun c => decide (c.blocks.length * 24 ≤ reachBytes) && c.blocks.all fun b => decide (b.length * 104 ≤ reachBytes) && b.all fun i => decide (i.ds.length * 8 ≤ reachBytes) && decide (i.ars.length * 8 ≤ reachBytes) && decide (i.to.length * 8 ≤ reachBytes)) = true := by kernel_rfl
  intro c hc
  have h1 := List.all_eq_true.1 h c hc
  rw [Bool.and_eq_true] at h1
  refine ⟨of_decide_eq_true h1.1, fun b hb => ?_⟩
  have h2 := List.all_eq_true.1 h1.2 b hb
  rw [Bool.and_eq_true] at h2
  refine ⟨of_decide_eq_true h2.1, fun i hi => ?_⟩
  have h3 := List.all_eq_true.1 h2.2 i hi
  rw [Bool.and_eq_true, Bool.and_eq_true] at h3
  exact ⟨of_decide_eq_true h3.1.1, of_decide_eq_true h3.1.2, of_decide_eq_true h3.2⟩
theorem upI_len (a k : Nat) : (upI a k).length = k := by simp [upI]
theorem fit_main (name : ByteArray) (l : List Int) (r : Nat) (hl : l.length ≤ 1000) (hr : r ≤ 1000) : FitCode (mainF name l r) := by
  have hm : reachBytes = 140737488351232 := rfl
  refine ⟨by show 1 * 24 ≤ _; omega, fun b hb => ?_⟩
  obtain rfl : b = mainIs name l r := by simpa [mainF] using hb
  refine ⟨by simp [mainIs, consts]; omega, fun i hi => ?_⟩
  simp only [mainIs, consts, List.mem_append, List.mem_map, List.mem_singleton] at hi
  rcases hi with ((⟨j, hj, rfl⟩ | rfl) | ⟨j, hj, rfl⟩) | rfl
  · exact ⟨by show 1 * 8 ≤ _; omega, by show 0 * 8 ≤ _; omega, by show 0 * 8 ≤ _; omega⟩
  · exact ⟨by show (upI _ _).length * 8 ≤ _; rw [upI_len]; omega, by show (upI _ _).length * 8 ≤ _; rw [upI_len]; omega, by show 0 * 8 ≤ _; omega⟩
  · exact ⟨by show 0 * 8 ≤ _; omega, by show 1 * 8 ≤ _; omega, by show 0 * 8 ≤ _; omega⟩
  · exact ⟨by show 0 * 8 ≤ _; omega, by show 0 * 8 ≤ _; omega, by show 0 * 8 ≤ _; omega⟩
theorem fit_driven (name : ByteArray) (l : List Int) (r : Nat) (d : List Int) (hl : l.length ≤ 1000) (hr : r ≤ 1000) (hd : d.length ≤ 20000) : FitProg (drivenF allL name l r d) := by
  have hm : reachBytes = 140737488351232 := rfl
  refine ⟨⟨by show 11 * 72 ≤ _; omega, fun c hc => ?_⟩, by show d.length * 8 ≤ _; omega⟩
  rcases List.mem_cons.1 hc with rfl | hc
  · exact fit_main name l r hl hr
  · exact fit_lit c hc
theorem fault_same (x0 x1 x2 x3 : Int) (d : List Int) (hd : d.length ≤ 20000) : programFaultF (drivenF allL ⟨#[95, 115, 97, 109, 101]⟩ [x0, x1, x2, x3] 1 d) = 0 := by
  have hn : ((drivenF allL ⟨#[95, 115, 97, 109, 101]⟩ [x0, x1, x2, x3] 1 d).funcs.map (·.name)).Nodup := of_decide_eq_true (by kernel_rfl)
  have hh : headsFault (drivenF allL ⟨#[95, 115, 97, 109, 101]⟩ [x0, x1, x2, x3] 1 d) = 0 := by
    unfold headsFault
    rw [if_neg (by show ¬ (11 = 0); decide), if_neg (by show ¬ (20000 < d.length ∨ 40 < 11); omega), if_neg (not_not_intro hn), if_neg (by show ¬ (((0 : Int) + 0) % 18446744073709551616 ≠ 0); decide)]
  have h2 : codesF (codeFaultF (drivenF allL ⟨#[95, 115, 97, 109, 101]⟩ [x0, x1, x2, x3] 1 d).funcs) (drivenF allL ⟨#[95, 115, 97, 109, 101]⟩ [x0, x1, x2, x3] 1 d).funcs = 0 := by kernel_rfl
  unfold programFaultF
  rw [hh, h2]
  rfl
theorem fault_less (x0 x1 x2 x3 : Int) (d : List Int) (hd : d.length ≤ 20000) : programFaultF (drivenF allL ⟨#[95, 108, 101, 115, 115]⟩ [x0, x1, x2, x3] 1 d) = 0 := by
  have hn : ((drivenF allL ⟨#[95, 108, 101, 115, 115]⟩ [x0, x1, x2, x3] 1 d).funcs.map (·.name)).Nodup := of_decide_eq_true (by kernel_rfl)
  have hh : headsFault (drivenF allL ⟨#[95, 108, 101, 115, 115]⟩ [x0, x1, x2, x3] 1 d) = 0 := by
    unfold headsFault
    rw [if_neg (by show ¬ (11 = 0); decide), if_neg (by show ¬ (20000 < d.length ∨ 40 < 11); omega), if_neg (not_not_intro hn), if_neg (by show ¬ (((0 : Int) + 0) % 18446744073709551616 ≠ 0); decide)]
  have h2 : codesF (codeFaultF (drivenF allL ⟨#[95, 108, 101, 115, 115]⟩ [x0, x1, x2, x3] 1 d).funcs) (drivenF allL ⟨#[95, 108, 101, 115, 115]⟩ [x0, x1, x2, x3] 1 d).funcs = 0 := by kernel_rfl
  unfold programFaultF
  rw [hh, h2]
  rfl
theorem fault_cat (x0 x1 x2 x3 : Int) (d : List Int) (hd : d.length ≤ 20000) : programFaultF (drivenF allL ⟨#[95, 99, 97, 116]⟩ [x0, x1, x2, x3] 2 d) = 0 := by
  have hn : ((drivenF allL ⟨#[95, 99, 97, 116]⟩ [x0, x1, x2, x3] 2 d).funcs.map (·.name)).Nodup := of_decide_eq_true (by kernel_rfl)
  have hh : headsFault (drivenF allL ⟨#[95, 99, 97, 116]⟩ [x0, x1, x2, x3] 2 d) = 0 := by
    unfold headsFault
    rw [if_neg (by show ¬ (11 = 0); decide), if_neg (by show ¬ (20000 < d.length ∨ 40 < 11); omega), if_neg (not_not_intro hn), if_neg (by show ¬ (((0 : Int) + 0) % 18446744073709551616 ≠ 0); decide)]
  have h2 : codesF (codeFaultF (drivenF allL ⟨#[95, 99, 97, 116]⟩ [x0, x1, x2, x3] 2 d).funcs) (drivenF allL ⟨#[95, 99, 97, 116]⟩ [x0, x1, x2, x3] 2 d).funcs = 0 := by kernel_rfl
  unfold programFaultF
  rw [hh, h2]
  rfl
theorem fault_add (x0 x1 x2 x3 : Int) (d : List Int) (hd : d.length ≤ 20000) : programFaultF (drivenF allL ⟨#[95, 97, 100, 100]⟩ [x0, x1, x2, x3] 3 d) = 0 := by
  have hn : ((drivenF allL ⟨#[95, 97, 100, 100]⟩ [x0, x1, x2, x3] 3 d).funcs.map (·.name)).Nodup := of_decide_eq_true (by kernel_rfl)
  have hh : headsFault (drivenF allL ⟨#[95, 97, 100, 100]⟩ [x0, x1, x2, x3] 3 d) = 0 := by
    unfold headsFault
    rw [if_neg (by show ¬ (11 = 0); decide), if_neg (by show ¬ (20000 < d.length ∨ 40 < 11); omega), if_neg (not_not_intro hn), if_neg (by show ¬ (((0 : Int) + 0) % 18446744073709551616 ≠ 0); decide)]
  have h2 : codesF (codeFaultF (drivenF allL ⟨#[95, 97, 100, 100]⟩ [x0, x1, x2, x3] 3 d).funcs) (drivenF allL ⟨#[95, 97, 100, 100]⟩ [x0, x1, x2, x3] 3 d).funcs = 0 := by kernel_rfl
  unfold programFaultF
  rw [hh, h2]
  rfl
theorem fault_rune (x0 x1 x2 : Int) (d : List Int) (hd : d.length ≤ 20000) : programFaultF (drivenF allL ⟨#[95, 114, 117, 110, 101]⟩ [x0, x1, x2] 2 d) = 0 := by
  have hn : ((drivenF allL ⟨#[95, 114, 117, 110, 101]⟩ [x0, x1, x2] 2 d).funcs.map (·.name)).Nodup := of_decide_eq_true (by kernel_rfl)
  have hh : headsFault (drivenF allL ⟨#[95, 114, 117, 110, 101]⟩ [x0, x1, x2] 2 d) = 0 := by
    unfold headsFault
    rw [if_neg (by show ¬ (11 = 0); decide), if_neg (by show ¬ (20000 < d.length ∨ 40 < 11); omega), if_neg (not_not_intro hn), if_neg (by show ¬ (((0 : Int) + 0) % 18446744073709551616 ≠ 0); decide)]
  have h2 : codesF (codeFaultF (drivenF allL ⟨#[95, 114, 117, 110, 101]⟩ [x0, x1, x2] 2 d).funcs) (drivenF allL ⟨#[95, 114, 117, 110, 101]⟩ [x0, x1, x2] 2 d).funcs = 0 := by kernel_rfl
  unfold programFaultF
  rw [hh, h2]
  rfl
end Go.Proofs.Ytaomlfbcfmmhlaa

/-
  rt's bad, tail, walked (printed by wip/gen_rtfn.py).
-/
import Derived.Test.YtaomlfbcfmmhlaaRtFnB
namespace Go.Proofs.Ytaomlfbcfmmhlaa
open Go.RowKit Go.Pst
set_option linter.unusedVariables false
set_option linter.unusedSimpArgs false

variable {B bm n k : Nat} {w0 w : World} {l : List (Nat × Nat × Value)} {c : PCode}
theorem keep4 {b1 b2 b3 b4 : Nat} {v1 v2 v3 v4 : Value} (h1 : (b1, 0, v1) ∈ l) (h2 : (b2, 0, v2) ∈ l) (h3 : (b3, 0, v3) ∈ l) (h4 : (b4, 0, v4) ∈ l) (hx : EnvX B w0 bm l w) : (w.cell? ⟨b1, 0, none⟩ = some v1 ∧ w.cell? ⟨b2, 0, none⟩ = some v2 ∧ w.cell? ⟨b3, 0, none⟩ = some v3 ∧ w.cell? ⟨b4, 0, none⟩ = some v4) ∧ EnvX B w0 bm l w := ⟨⟨hx.cell h1, hx.cell h2, hx.cell h3, hx.cell h4⟩, hx⟩
theorem keep5 {b1 b2 b3 b4 b5 : Nat} {v1 v2 v3 v4 v5 : Value} (h1 : (b1, 0, v1) ∈ l) (h2 : (b2, 0, v2) ∈ l) (h3 : (b3, 0, v3) ∈ l) (h4 : (b4, 0, v4) ∈ l) (h5 : (b5, 0, v5) ∈ l) (hx : EnvX B w0 bm l w) : (w.cell? ⟨b1, 0, none⟩ = some v1 ∧ w.cell? ⟨b2, 0, none⟩ = some v2 ∧ w.cell? ⟨b3, 0, none⟩ = some v3 ∧ w.cell? ⟨b4, 0, none⟩ = some v4 ∧ w.cell? ⟨b5, 0, none⟩ = some v5) ∧ EnvX B w0 bm l w := ⟨⟨hx.cell h1, hx.cell h2, hx.cell h3, hx.cell h4, hx.cell h5⟩, hx⟩
theorem keep6 {b1 b2 b3 b4 b5 b6 : Nat} {v1 v2 v3 v4 v5 v6 : Value} (h1 : (b1, 0, v1) ∈ l) (h2 : (b2, 0, v2) ∈ l) (h3 : (b3, 0, v3) ∈ l) (h4 : (b4, 0, v4) ∈ l) (h5 : (b5, 0, v5) ∈ l) (h6 : (b6, 0, v6) ∈ l) (hx : EnvX B w0 bm l w) : (w.cell? ⟨b1, 0, none⟩ = some v1 ∧ w.cell? ⟨b2, 0, none⟩ = some v2 ∧ w.cell? ⟨b3, 0, none⟩ = some v3 ∧ w.cell? ⟨b4, 0, none⟩ = some v4 ∧ w.cell? ⟨b5, 0, none⟩ = some v5 ∧ w.cell? ⟨b6, 0, none⟩ = some v6) ∧ EnvX B w0 bm l w := ⟨⟨hx.cell h1, hx.cell h2, hx.cell h3, hx.cell h4, hx.cell h5, hx.cell h6⟩, hx⟩
def bad_1 (c : PCode) (k : Nat) : PCode := konstF c k 65533
theorem bad_1_len (c : PCode) (k : Nat) : (bad_1 c k).blocks.length = c.blocks.length + 0 := by
  simp only [bad_1, mathF_len, konstF_len, loadF_len, allocF_len, setF_len, storeF_len, backF_len, freshF_len, copyF_len, whenOut_len, whenIn_len, countOut_len, countIn_len] <;> try omega
def bad_2 (c : PCode) (k : Nat) : PCode := konstF (bad_1 c k) k 1
theorem bad_2_len (c : PCode) (k : Nat) : (bad_2 c k).blocks.length = c.blocks.length + 0 := by
  simp only [bad_2, mathF_len, konstF_len, loadF_len, allocF_len, setF_len, storeF_len, backF_len, freshF_len, copyF_len, whenOut_len, whenIn_len, countOut_len, countIn_len, bad_1_len] <;> try omega
def bad_3 (c : PCode) (k : Nat) : PCode := backF (bad_2 c k) k [c.vars, (bad_1 c k).vars]
theorem bad_3_len (c : PCode) (k : Nat) : (bad_3 c k).blocks.length = c.blocks.length + 0 := by
  simp only [bad_3, mathF_len, konstF_len, loadF_len, allocF_len, setF_len, storeF_len, backF_len, freshF_len, copyF_len, whenOut_len, whenIn_len, countOut_len, countIn_len, bad_2_len] <;> try omega
def bad_F (c : PCode) (k : Nat) : PCode := (bad_3 c k)
def bad_K (c : PCode) (k : Nat) : Nat := k
theorem bad_len (c : PCode) (k : Nat) : (bad_F c k).blocks.length = c.blocks.length + 0 := bad_3_len c k
theorem enters_bad : Enters Try.prog 60 := enters_of Try.func60 (by kernel_rfl) (by kernel_rfl)
set_option maxHeartbeats 8000000 in
theorem bad_any (h : Env B w0 bm l (n + 5) c k w) :
    Calls Try.prog 60 #[.pointer (some ⟨bm, 0, none⟩)] w fun e w' => e = .returned (.tuple #[]) ∧ Env B w0 bm l n (bad_F c k) (bad_K c k) w' := by
  have hz_1 : InI 1 := ini rfl
  have hz_65533 : InI 65533 := ini rfl
  have H0 := Lib.hid h
  clear h
  go_enter Try.func60, Try.ntmps60
  go_wp2_with fail
  refine (konst_any 65533 hz_65533 H0.out).mono ?_
  rintro e w1 ⟨rfl, e10⟩
  have e1 : Env B w0 bm l (n + 3) (bad_1 c k) k w1 := e10
  have hr1 := InI.vars H0.out
  have H1 := Lib.hid e1
  clear e1 e10
  go_wp2_with fail
  refine (konst_any 1 hz_1 H1.out).mono ?_
  rintro e w2 ⟨rfl, e20⟩
  have e2 : Env B w0 bm l (n + 1) (bad_2 c k) k w2 := e20
  have hr2 := InI.vars H1.out
  have H2 := Lib.hid e2
  clear e2 e20
  go_wp2_with fail
  refine (back_any H2.out ((Below.refl _ _).alloc (Nat.le_refl _) _) (rInts_all [c.vars, (bad_1 c k).vars] (Nat.le_refl _) (lens rfl) (ini2 hr1 hr2) (new_one _ _))).mono ?_
  rintro e w3 ⟨rfl, e30⟩
  have e3 : Env B w0 bm l n (bad_3 c k) k w3 := e30
  have H3 := Lib.hid e3
  clear e3 e30
  go_wp2_with fail
  exact bodyPost_end (results_none (by kernel_rfl) _ _ _) rfl ⟨rfl, H3.out⟩
def tail_1 (c : PCode) (k : Nat) (i : Int) (low : Int) (high : Int) : PCode := konstF c k i
theorem tail_1_len (c : PCode) (k : Nat) (i : Int) (low : Int) (high : Int) : (tail_1 c k i low high).blocks.length = c.blocks.length + 0 := by
  simp only [tail_1, mathF_len, konstF_len, loadF_len, allocF_len, setF_len, storeF_len, backF_len, freshF_len, copyF_len, whenOut_len, whenIn_len, countOut_len, countIn_len] <;> try omega
def tail_2 (c : PCode) (k : Nat) (i : Int) (low : Int) (high : Int) : PCode := mathF (tail_1 c k i low high) k ⟨#[43]⟩ 2 c.vars
theorem tail_2_len (c : PCode) (k : Nat) (i : Int) (low : Int) (high : Int) : (tail_2 c k i low high).blocks.length = c.blocks.length + 0 := by
  simp only [tail_2, mathF_len, konstF_len, loadF_len, allocF_len, setF_len, storeF_len, backF_len, freshF_len, copyF_len, whenOut_len, whenIn_len, countOut_len, countIn_len, tail_1_len] <;> try omega
def tail_3 (c : PCode) (k : Nat) (i : Int) (low : Int) (high : Int) : PCode := mathF (tail_2 c k i low high) k ⟨#[62, 61]⟩ (tail_1 c k i low high).vars 1
theorem tail_3_len (c : PCode) (k : Nat) (i : Int) (low : Int) (high : Int) : (tail_3 c k i low high).blocks.length = c.blocks.length + 0 := by
  simp only [tail_3, mathF_len, konstF_len, loadF_len, allocF_len, setF_len, storeF_len, backF_len, freshF_len, copyF_len, whenOut_len, whenIn_len, countOut_len, countIn_len, tail_2_len] <;> try omega
def tail_4 (c : PCode) (k : Nat) (i : Int) (low : Int) (high : Int) : PCode := whenOut (bad_F (whenIn (tail_3 c k i low high) k (tail_2 c k i low high).vars) (tail_3 c k i low high).blocks.length) (bad_K (whenIn (tail_3 c k i low high) k (tail_2 c k i low high).vars) (tail_3 c k i low high).blocks.length) (((tail_3 c k i low high).blocks.length : Int) + 1)
theorem tail_4_len (c : PCode) (k : Nat) (i : Int) (low : Int) (high : Int) : (tail_4 c k i low high).blocks.length = c.blocks.length + 2 := by
  simp only [tail_4, mathF_len, konstF_len, loadF_len, allocF_len, setF_len, storeF_len, backF_len, freshF_len, copyF_len, whenOut_len, whenIn_len, countOut_len, countIn_len, bad_len, tail_3_len] <;> try omega
def tail_5 (c : PCode) (k : Nat) (i : Int) (low : Int) (high : Int) : PCode := mathF (tail_4 c k i low high) ((tail_3 c k i low high).blocks.length + 1) ⟨#[43]⟩ 0 (tail_1 c k i low high).vars
theorem tail_5_len (c : PCode) (k : Nat) (i : Int) (low : Int) (high : Int) : (tail_5 c k i low high).blocks.length = c.blocks.length + 2 := by
  simp only [tail_5, mathF_len, konstF_len, loadF_len, allocF_len, setF_len, storeF_len, backF_len, freshF_len, copyF_len, whenOut_len, whenIn_len, countOut_len, countIn_len, tail_4_len] <;> try omega
def tail_6 (c : PCode) (k : Nat) (i : Int) (low : Int) (high : Int) : PCode := loadF (tail_5 c k i low high) ((tail_3 c k i low high).blocks.length + 1) (tail_4 c k i low high).vars 0
theorem tail_6_len (c : PCode) (k : Nat) (i : Int) (low : Int) (high : Int) : (tail_6 c k i low high).blocks.length = c.blocks.length + 2 := by
  simp only [tail_6, mathF_len, konstF_len, loadF_len, allocF_len, setF_len, storeF_len, backF_len, freshF_len, copyF_len, whenOut_len, whenIn_len, countOut_len, countIn_len, tail_5_len] <;> try omega
def tail_7 (c : PCode) (k : Nat) (i : Int) (low : Int) (high : Int) : PCode := konstF (tail_6 c k i low high) ((tail_3 c k i low high).blocks.length + 1) low
theorem tail_7_len (c : PCode) (k : Nat) (i : Int) (low : Int) (high : Int) : (tail_7 c k i low high).blocks.length = c.blocks.length + 2 := by
  simp only [tail_7, mathF_len, konstF_len, loadF_len, allocF_len, setF_len, storeF_len, backF_len, freshF_len, copyF_len, whenOut_len, whenIn_len, countOut_len, countIn_len, tail_6_len] <;> try omega
def tail_8 (c : PCode) (k : Nat) (i : Int) (low : Int) (high : Int) : PCode := mathF (tail_7 c k i low high) ((tail_3 c k i low high).blocks.length + 1) ⟨#[60]⟩ (tail_5 c k i low high).vars (tail_6 c k i low high).vars
theorem tail_8_len (c : PCode) (k : Nat) (i : Int) (low : Int) (high : Int) : (tail_8 c k i low high).blocks.length = c.blocks.length + 2 := by
  simp only [tail_8, mathF_len, konstF_len, loadF_len, allocF_len, setF_len, storeF_len, backF_len, freshF_len, copyF_len, whenOut_len, whenIn_len, countOut_len, countIn_len, tail_7_len] <;> try omega
def tail_9 (c : PCode) (k : Nat) (i : Int) (low : Int) (high : Int) : PCode := whenOut (bad_F (whenIn (tail_8 c k i low high) ((tail_3 c k i low high).blocks.length + 1) (tail_7 c k i low high).vars) (tail_8 c k i low high).blocks.length) (bad_K (whenIn (tail_8 c k i low high) ((tail_3 c k i low high).blocks.length + 1) (tail_7 c k i low high).vars) (tail_8 c k i low high).blocks.length) (((tail_8 c k i low high).blocks.length : Int) + 1)
theorem tail_9_len (c : PCode) (k : Nat) (i : Int) (low : Int) (high : Int) : (tail_9 c k i low high).blocks.length = c.blocks.length + 4 := by
  simp only [tail_9, mathF_len, konstF_len, loadF_len, allocF_len, setF_len, storeF_len, backF_len, freshF_len, copyF_len, whenOut_len, whenIn_len, countOut_len, countIn_len, bad_len, tail_8_len] <;> try omega
def tail_10 (c : PCode) (k : Nat) (i : Int) (low : Int) (high : Int) : PCode := konstF (tail_9 c k i low high) ((tail_8 c k i low high).blocks.length + 1) high
theorem tail_10_len (c : PCode) (k : Nat) (i : Int) (low : Int) (high : Int) : (tail_10 c k i low high).blocks.length = c.blocks.length + 4 := by
  simp only [tail_10, mathF_len, konstF_len, loadF_len, allocF_len, setF_len, storeF_len, backF_len, freshF_len, copyF_len, whenOut_len, whenIn_len, countOut_len, countIn_len, tail_9_len] <;> try omega
def tail_11 (c : PCode) (k : Nat) (i : Int) (low : Int) (high : Int) : PCode := mathF (tail_10 c k i low high) ((tail_8 c k i low high).blocks.length + 1) ⟨#[62]⟩ (tail_5 c k i low high).vars (tail_9 c k i low high).vars
theorem tail_11_len (c : PCode) (k : Nat) (i : Int) (low : Int) (high : Int) : (tail_11 c k i low high).blocks.length = c.blocks.length + 4 := by
  simp only [tail_11, mathF_len, konstF_len, loadF_len, allocF_len, setF_len, storeF_len, backF_len, freshF_len, copyF_len, whenOut_len, whenIn_len, countOut_len, countIn_len, tail_10_len] <;> try omega
def tail_12 (c : PCode) (k : Nat) (i : Int) (low : Int) (high : Int) : PCode := whenOut (bad_F (whenIn (tail_11 c k i low high) ((tail_8 c k i low high).blocks.length + 1) (tail_10 c k i low high).vars) (tail_11 c k i low high).blocks.length) (bad_K (whenIn (tail_11 c k i low high) ((tail_8 c k i low high).blocks.length + 1) (tail_10 c k i low high).vars) (tail_11 c k i low high).blocks.length) (((tail_11 c k i low high).blocks.length : Int) + 1)
theorem tail_12_len (c : PCode) (k : Nat) (i : Int) (low : Int) (high : Int) : (tail_12 c k i low high).blocks.length = c.blocks.length + 6 := by
  simp only [tail_12, mathF_len, konstF_len, loadF_len, allocF_len, setF_len, storeF_len, backF_len, freshF_len, copyF_len, whenOut_len, whenIn_len, countOut_len, countIn_len, bad_len, tail_11_len] <;> try omega
def tail_13 (c : PCode) (k : Nat) (i : Int) (low : Int) (high : Int) : PCode := konstF (tail_12 c k i low high) ((tail_11 c k i low high).blocks.length + 1) 128
theorem tail_13_len (c : PCode) (k : Nat) (i : Int) (low : Int) (high : Int) : (tail_13 c k i low high).blocks.length = c.blocks.length + 6 := by
  simp only [tail_13, mathF_len, konstF_len, loadF_len, allocF_len, setF_len, storeF_len, backF_len, freshF_len, copyF_len, whenOut_len, whenIn_len, countOut_len, countIn_len, tail_12_len] <;> try omega
def tail_14 (c : PCode) (k : Nat) (i : Int) (low : Int) (high : Int) : PCode := mathF (tail_13 c k i low high) ((tail_11 c k i low high).blocks.length + 1) ⟨#[45]⟩ (tail_5 c k i low high).vars (tail_12 c k i low high).vars
theorem tail_14_len (c : PCode) (k : Nat) (i : Int) (low : Int) (high : Int) : (tail_14 c k i low high).blocks.length = c.blocks.length + 6 := by
  simp only [tail_14, mathF_len, konstF_len, loadF_len, allocF_len, setF_len, storeF_len, backF_len, freshF_len, copyF_len, whenOut_len, whenIn_len, countOut_len, countIn_len, tail_13_len] <;> try omega
def tail_F (c : PCode) (k : Nat) (i : Int) (low : Int) (high : Int) : PCode := (tail_14 c k i low high)
def tail_K (c : PCode) (k : Nat) (i : Int) (low : Int) (high : Int) : Nat := ((tail_11 c k i low high).blocks.length + 1)
theorem tail_len (c : PCode) (k : Nat) (i : Int) (low : Int) (high : Int) : (tail_F c k i low high).blocks.length = c.blocks.length + 6 := tail_14_len c k i low high
theorem enters_tail : Enters Try.prog 74 := enters_of Try.func74 (by kernel_rfl) (by kernel_rfl)
set_option maxHeartbeats 8000000 in
theorem tail_any {i low high : Int} (h_i : InI i) (h_low : InI low) (h_high : InI high) (h : Env B w0 bm l (n + 49) c k w) :
    Calls Try.prog 74 #[.pointer (some ⟨bm, 0, none⟩), .int .i64 i, .int .i64 low, .int .i64 high] w fun e w' => e = .returned (.int .i64 (tail_13 c k i low high).vars) ∧ InI (tail_13 c k i low high).vars ∧ Env B w0 bm l n (tail_F c k i low high) (tail_K c k i low high) w' := by
  have hz_0 : InI 0 := ini rfl
  have hz_1 : InI 1 := ini rfl
  have hz_128 : InI 128 := ini rfl
  have hz_2 : InI 2 := ini rfl
  have H0 := Lib.hid h
  clear h
  go_enter Try.func74, Try.ntmps74
  go_wp2_with fail
  refine (konst_any i h_i H0.out).mono ?_
  rintro e w1 ⟨rfl, e10⟩
  have e1 : Env B w0 bm l (n + 47) (tail_1 c k i low high) k w1 := e10
  have hr1 := InI.vars H0.out
  have H1 := Lib.hid e1
  clear e1 e10
  go_wp2_with fail
  refine (math_any ⟨#[43]⟩ 2 c.vars hz_2 hr1 (by decide) H1.out).mono ?_
  rintro e w2 ⟨rfl, e20⟩
  have e2 : Env B w0 bm l (n + 45) (tail_2 c k i low high) k w2 := e20
  have hr2 := InI.vars H1.out
  have H2 := Lib.hid e2
  clear e2 e20
  go_wp2_with fail
  refine (math_any ⟨#[62, 61]⟩ (tail_1 c k i low high).vars 1 hr2 hz_1 (by decide) H2.out).mono ?_
  rintro e w3 ⟨rfl, e30⟩
  have e3 : Env B w0 bm l (n + 43) (tail_3 c k i low high) k w3 := e30
  have hr3 := InI.vars H2.out
  have H3 := Lib.hid e3
  clear e3 e30
  go_wp2_with fail
  refine (when_any (ba := #[.pointer (some ⟨bm, 0, none⟩)]) (m := n + 40) (n := n + 34) (c3 := bad_F (whenIn (tail_3 c k i low high) k (tail_2 c k i low high).vars) (tail_3 c k i low high).blocks.length) (k3 := bad_K (whenIn (tail_3 c k i low high) k (tail_2 c k i low high).vars) (tail_3 c k i low high).blocks.length) hr3 enters_bad H3.out (fun w2 e2 => by exact bad_any e2) (by rw [bad_len, whenIn_len]; omega)).mono ?_
  rintro e w4 ⟨rfl, e40⟩
  have e4 : Env B w0 bm l (n + 34) (tail_4 c k i low high) ((tail_3 c k i low high).blocks.length + 1) w4 := e40
  have H4 := Lib.hid e4
  clear e4 e40
  go_wp2_with fail
  refine (math_any ⟨#[43]⟩ 0 (tail_1 c k i low high).vars hz_0 hr2 (by decide) H4.out).mono ?_
  rintro e w5 ⟨rfl, e50⟩
  have e5 : Env B w0 bm l (n + 32) (tail_5 c k i low high) ((tail_3 c k i low high).blocks.length + 1) w5 := e50
  have hr5 := InI.vars H4.out
  have H5 := Lib.hid e5
  clear e5 e50
  go_wp2_with fail
  refine (load_any (tail_4 c k i low high).vars 0 hr5 hz_0 H5.out).mono ?_
  rintro e w6 ⟨rfl, e60⟩
  have e6 : Env B w0 bm l (n + 30) (tail_6 c k i low high) ((tail_3 c k i low high).blocks.length + 1) w6 := e60
  have hr6 := InI.vars H5.out
  have H6 := Lib.hid e6
  clear e6 e60
  go_wp2_with fail
  refine (konst_any low h_low H6.out).mono ?_
  rintro e w7 ⟨rfl, e70⟩
  have e7 : Env B w0 bm l (n + 28) (tail_7 c k i low high) ((tail_3 c k i low high).blocks.length + 1) w7 := e70
  have hr7 := InI.vars H6.out
  have H7 := Lib.hid e7
  clear e7 e70
  go_wp2_with fail
  refine (math_any ⟨#[60]⟩ (tail_5 c k i low high).vars (tail_6 c k i low high).vars hr6 hr7 (by decide) H7.out).mono ?_
  rintro e w8 ⟨rfl, e80⟩
  have e8 : Env B w0 bm l (n + 26) (tail_8 c k i low high) ((tail_3 c k i low high).blocks.length + 1) w8 := e80
  have hr8 := InI.vars H7.out
  have H8 := Lib.hid e8
  clear e8 e80
  go_wp2_with fail
  refine (when_any (ba := #[.pointer (some ⟨bm, 0, none⟩)]) (m := n + 23) (n := n + 17) (c3 := bad_F (whenIn (tail_8 c k i low high) ((tail_3 c k i low high).blocks.length + 1) (tail_7 c k i low high).vars) (tail_8 c k i low high).blocks.length) (k3 := bad_K (whenIn (tail_8 c k i low high) ((tail_3 c k i low high).blocks.length + 1) (tail_7 c k i low high).vars) (tail_8 c k i low high).blocks.length) hr8 enters_bad H8.out (fun w2 e2 => by exact bad_any e2) (by rw [bad_len, whenIn_len]; omega)).mono ?_
  rintro e w9 ⟨rfl, e90⟩
  have e9 : Env B w0 bm l (n + 17) (tail_9 c k i low high) ((tail_8 c k i low high).blocks.length + 1) w9 := e90
  have H9 := Lib.hid e9
  clear e9 e90
  go_wp2_with fail
  refine (konst_any high h_high H9.out).mono ?_
  rintro e w10 ⟨rfl, e100⟩
  have e10 : Env B w0 bm l (n + 15) (tail_10 c k i low high) ((tail_8 c k i low high).blocks.length + 1) w10 := e100
  have hr10 := InI.vars H9.out
  have H10 := Lib.hid e10
  clear e10 e100
  go_wp2_with fail
  refine (math_any ⟨#[62]⟩ (tail_5 c k i low high).vars (tail_9 c k i low high).vars hr6 hr10 (by decide) H10.out).mono ?_
  rintro e w11 ⟨rfl, e110⟩
  have e11 : Env B w0 bm l (n + 13) (tail_11 c k i low high) ((tail_8 c k i low high).blocks.length + 1) w11 := e110
  have hr11 := InI.vars H10.out
  have H11 := Lib.hid e11
  clear e11 e110
  go_wp2_with fail
  refine (when_any (ba := #[.pointer (some ⟨bm, 0, none⟩)]) (m := n + 10) (n := n + 4) (c3 := bad_F (whenIn (tail_11 c k i low high) ((tail_8 c k i low high).blocks.length + 1) (tail_10 c k i low high).vars) (tail_11 c k i low high).blocks.length) (k3 := bad_K (whenIn (tail_11 c k i low high) ((tail_8 c k i low high).blocks.length + 1) (tail_10 c k i low high).vars) (tail_11 c k i low high).blocks.length) hr11 enters_bad H11.out (fun w2 e2 => by exact bad_any e2) (by rw [bad_len, whenIn_len]; omega)).mono ?_
  rintro e w12 ⟨rfl, e120⟩
  have e12 : Env B w0 bm l (n + 4) (tail_12 c k i low high) ((tail_11 c k i low high).blocks.length + 1) w12 := e120
  have H12 := Lib.hid e12
  clear e12 e120
  go_wp2_with fail
  refine (konst_any 128 hz_128 H12.out).mono ?_
  rintro e w13 ⟨rfl, e130⟩
  have e13 : Env B w0 bm l (n + 2) (tail_13 c k i low high) ((tail_11 c k i low high).blocks.length + 1) w13 := e130
  have hr13 := InI.vars H12.out
  have H13 := Lib.hid e13
  clear e13 e130
  go_wp2_with fail
  refine (math_any ⟨#[45]⟩ (tail_5 c k i low high).vars (tail_12 c k i low high).vars hr6 hr13 (by decide) H13.out).mono ?_
  rintro e w14 ⟨rfl, e140⟩
  have e14 : Env B w0 bm l n (tail_14 c k i low high) ((tail_11 c k i low high).blocks.length + 1) w14 := e140
  have hr14 := InI.vars H13.out
  have H14 := Lib.hid e14
  clear e14 e140
  go_wp2_with fail
  go_ret
  exact ⟨rfl, hr14, H14.out⟩
end Go.Proofs.Ytaomlfbcfmmhlaa

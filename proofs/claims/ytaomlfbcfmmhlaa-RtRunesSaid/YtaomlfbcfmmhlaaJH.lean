/-
  Texts joined: RtFnA RtFnB RtFnC RtLong RtLong2 RtStart RtEnd.
-/
import Derived.Test.YtaomlfbcfmmhlaaJG

/-
  rt's same: its closures, walked (printed by wip/gen_rtfn.py).
-/
namespace Go.Proofs.Ytaomlfbcfmmhlaa
open Go.RowKit Go.Pst
set_option linter.unusedVariables false
set_option linter.unusedSimpArgs false

variable {B bm n k : Nat} {w0 w : World} {l : List (Nat × Nat × Value)} {c : PCode}
theorem whenIn_len (c : PCode) (k : Nat) (a : Int) : (whenIn c k a).blocks.length = c.blocks.length + 2 := by simp [whenIn, chooseF_len, blockF'_len]
theorem whenOut_len (c : PCode) (k : Nat) (on : Int) : (whenOut c k on).blocks.length = c.blocks.length := by unfold whenOut; split <;> simp [jumpF_len]
theorem countOut_len (c : PCode) (k : Nat) (d h : Int) : (countOut c k d h).blocks.length = c.blocks.length := by simp [countOut, count5, jumpF_len, setF_len, mathF_len, konstF_len]
theorem copyF_len (c : PCode) (k : Nat) (tt fr m : Int) : (copyF c k tt fr m).blocks.length = c.blocks.length + 3 := by simp [copyF, copyIn, countOut_len, copyBody_len, countIn_len, konstF_len]
theorem ini3 {a b d : Int} (ha : InI a) (hb : InI b) (hd : InI d) : ∀ y ∈ [a, b, d], InI y := fun y hy => by
  simp at hy
  rcases hy with rfl | rfl | rfl
  · exact ha
  · exact hb
  · exact hd
def same1_1 (c : PCode) (k : Nat) (no : Int) : PCode := backF c k [no]
theorem same1_1_len (c : PCode) (k : Nat) (no : Int) : (same1_1 c k no).blocks.length = c.blocks.length + 0 := by
  simp only [same1_1, mathF_len, konstF_len, loadF_len, allocF_len, setF_len, storeF_len, backF_len, freshF_len, copyF_len, whenOut_len, whenIn_len, countOut_len, countIn_len] <;> try omega
def same1_F (c : PCode) (k : Nat) (no : Int) : PCode := (same1_1 c k no)
def same1_K (c : PCode) (k : Nat) (no : Int) : Nat := k
theorem same1_len (c : PCode) (k : Nat) (no : Int) : (same1_F c k no).blocks.length = c.blocks.length + 0 := same1_1_len c k no
theorem enters_same1 : Enters Try.prog 37 := enters_of Try.func37 (by kernel_rfl) (by kernel_rfl)
set_option maxHeartbeats 8000000 in
theorem same1_any {b_m b_no : Nat} {no : Int} (h_no : InI no) (m_m : (b_m, 0, Value.pointer (some ⟨bm, 0, none⟩)) ∈ l) (m_no : (b_no, 0, Value.int .i64 no) ∈ l) (h : Env B w0 bm l (n + 1) c k w) :
    Calls Try.prog 37 #[.pointer (some ⟨b_m, 0, none⟩), .pointer (some ⟨b_no, 0, none⟩)] w fun e w' => e = .returned (.tuple #[]) ∧ Env B w0 bm l n (same1_F c k no) (same1_K c k no) w' := by
  have H0 := Lib.hid h
  clear h
  go_enter Try.func37, Try.ntmps37
  have q_m := H0.out.cell m_m
  have q_no := H0.out.cell m_no
  go_wp2_with fail
  clear q_m q_no
  refine (back_any H0.out ((Below.refl _ _).alloc (Nat.le_refl _) _) (rInts_all [no] (Nat.le_refl _) (lens rfl) (ini1 h_no) (new_one _ _))).mono ?_
  rintro e w1 ⟨rfl, e10⟩
  have e1 : Env B w0 bm l n (same1_1 c k no) k w1 := e10
  have H1 := Lib.hid e1
  clear e1 e10
  go_wp2_with fail
  exact bodyPost_end (results_none (by kernel_rfl) _ _ _) rfl ⟨rfl, H1.out⟩
def same21_1 (c : PCode) (k : Nat) (no : Int) : PCode := backF c k [no]
theorem same21_1_len (c : PCode) (k : Nat) (no : Int) : (same21_1 c k no).blocks.length = c.blocks.length + 0 := by
  simp only [same21_1, mathF_len, konstF_len, loadF_len, allocF_len, setF_len, storeF_len, backF_len, freshF_len, copyF_len, whenOut_len, whenIn_len, countOut_len, countIn_len] <;> try omega
def same21_F (c : PCode) (k : Nat) (no : Int) : PCode := (same21_1 c k no)
def same21_K (c : PCode) (k : Nat) (no : Int) : Nat := k
theorem same21_len (c : PCode) (k : Nat) (no : Int) : (same21_F c k no).blocks.length = c.blocks.length + 0 := same21_1_len c k no
theorem enters_same21 : Enters Try.prog 41 := enters_of Try.func41 (by kernel_rfl) (by kernel_rfl)
set_option maxHeartbeats 8000000 in
theorem same21_any {b_m b_no : Nat} {no : Int} (h_no : InI no) (m_m : (b_m, 0, Value.pointer (some ⟨bm, 0, none⟩)) ∈ l) (m_no : (b_no, 0, Value.int .i64 no) ∈ l) (h : Env B w0 bm l (n + 1) c k w) :
    Calls Try.prog 41 #[.pointer (some ⟨b_m, 0, none⟩), .pointer (some ⟨b_no, 0, none⟩)] w fun e w' => e = .returned (.tuple #[]) ∧ Env B w0 bm l n (same21_F c k no) (same21_K c k no) w' := by
  have H0 := Lib.hid h
  clear h
  go_enter Try.func41, Try.ntmps41
  have q_m := H0.out.cell m_m
  have q_no := H0.out.cell m_no
  go_wp2_with fail
  clear q_m q_no
  refine (back_any H0.out ((Below.refl _ _).alloc (Nat.le_refl _) _) (rInts_all [no] (Nat.le_refl _) (lens rfl) (ini1 h_no) (new_one _ _))).mono ?_
  rintro e w1 ⟨rfl, e10⟩
  have e1 : Env B w0 bm l n (same21_1 c k no) k w1 := e10
  have H1 := Lib.hid e1
  clear e1 e10
  go_wp2_with fail
  exact bodyPost_end (results_none (by kernel_rfl) _ _ _) rfl ⟨rfl, H1.out⟩
def same2_1 (c : PCode) (k : Nat) (i : Int) (no : Int) : PCode := mathF c k ⟨#[43]⟩ 0 i
theorem same2_1_len (c : PCode) (k : Nat) (i : Int) (no : Int) : (same2_1 c k i no).blocks.length = c.blocks.length + 0 := by
  simp only [same2_1, mathF_len, konstF_len, loadF_len, allocF_len, setF_len, storeF_len, backF_len, freshF_len, copyF_len, whenOut_len, whenIn_len, countOut_len, countIn_len] <;> try omega
def same2_2 (c : PCode) (k : Nat) (i : Int) (no : Int) : PCode := loadF (same2_1 c k i no) k c.vars 0
theorem same2_2_len (c : PCode) (k : Nat) (i : Int) (no : Int) : (same2_2 c k i no).blocks.length = c.blocks.length + 0 := by
  simp only [same2_2, mathF_len, konstF_len, loadF_len, allocF_len, setF_len, storeF_len, backF_len, freshF_len, copyF_len, whenOut_len, whenIn_len, countOut_len, countIn_len, same2_1_len] <;> try omega
def same2_3 (c : PCode) (k : Nat) (i : Int) (no : Int) : PCode := mathF (same2_2 c k i no) k ⟨#[43]⟩ 2 i
theorem same2_3_len (c : PCode) (k : Nat) (i : Int) (no : Int) : (same2_3 c k i no).blocks.length = c.blocks.length + 0 := by
  simp only [same2_3, mathF_len, konstF_len, loadF_len, allocF_len, setF_len, storeF_len, backF_len, freshF_len, copyF_len, whenOut_len, whenIn_len, countOut_len, countIn_len, same2_2_len] <;> try omega
def same2_4 (c : PCode) (k : Nat) (i : Int) (no : Int) : PCode := loadF (same2_3 c k i no) k (same2_2 c k i no).vars 0
theorem same2_4_len (c : PCode) (k : Nat) (i : Int) (no : Int) : (same2_4 c k i no).blocks.length = c.blocks.length + 0 := by
  simp only [same2_4, mathF_len, konstF_len, loadF_len, allocF_len, setF_len, storeF_len, backF_len, freshF_len, copyF_len, whenOut_len, whenIn_len, countOut_len, countIn_len, same2_3_len] <;> try omega
def same2_5 (c : PCode) (k : Nat) (i : Int) (no : Int) : PCode := mathF (same2_4 c k i no) k ⟨#[33, 61]⟩ (same2_1 c k i no).vars (same2_3 c k i no).vars
theorem same2_5_len (c : PCode) (k : Nat) (i : Int) (no : Int) : (same2_5 c k i no).blocks.length = c.blocks.length + 0 := by
  simp only [same2_5, mathF_len, konstF_len, loadF_len, allocF_len, setF_len, storeF_len, backF_len, freshF_len, copyF_len, whenOut_len, whenIn_len, countOut_len, countIn_len, same2_4_len] <;> try omega
def same2_6 (c : PCode) (k : Nat) (i : Int) (no : Int) : PCode := whenOut (same21_F (whenIn (same2_5 c k i no) k (same2_4 c k i no).vars) (same2_5 c k i no).blocks.length no) (same21_K (whenIn (same2_5 c k i no) k (same2_4 c k i no).vars) (same2_5 c k i no).blocks.length no) (((same2_5 c k i no).blocks.length : Int) + 1)
theorem same2_6_len (c : PCode) (k : Nat) (i : Int) (no : Int) : (same2_6 c k i no).blocks.length = c.blocks.length + 2 := by
  simp only [same2_6, mathF_len, konstF_len, loadF_len, allocF_len, setF_len, storeF_len, backF_len, freshF_len, copyF_len, whenOut_len, whenIn_len, countOut_len, countIn_len, same21_len, same2_5_len] <;> try omega
def same2_F (c : PCode) (k : Nat) (i : Int) (no : Int) : PCode := (same2_6 c k i no)
def same2_K (c : PCode) (k : Nat) (i : Int) (no : Int) : Nat := ((same2_5 c k i no).blocks.length + 1)
theorem same2_len (c : PCode) (k : Nat) (i : Int) (no : Int) : (same2_F c k i no).blocks.length = c.blocks.length + 2 := same2_6_len c k i no
theorem enters_same2 : Enters Try.prog 39 := enters_of Try.func39 (by kernel_rfl) (by kernel_rfl)
set_option maxHeartbeats 8000000 in
theorem same2_any {b_m b_no : Nat} {i no : Int} (h_i : InI i) (h_no : InI no) (m_m : (b_m, 0, Value.pointer (some ⟨bm, 0, none⟩)) ∈ l) (m_no : (b_no, 0, Value.int .i64 no) ∈ l) (h : Env B w0 bm l (n + 15) c k w) :
    Calls Try.prog 39 #[.int .i64 i, .pointer (some ⟨b_m, 0, none⟩), .pointer (some ⟨b_no, 0, none⟩)] w fun e w' => e = .returned (.tuple #[]) ∧ Env B w0 bm l n (same2_F c k i no) (same2_K c k i no) w' := by
  have hz_0 : InI 0 := ini rfl
  have hz_2 : InI 2 := ini rfl
  have H0 := Lib.hid h
  clear h
  go_enter Try.func39, Try.ntmps39
  have hS := keep2 m_m m_no H0.out.x
  go_wp2_with fail
  go_region_held3 (fun w' => (w'.cell? ⟨b_m, 0, none⟩ = some (.pointer (some ⟨bm, 0, none⟩)) ∧ w'.cell? ⟨b_no, 0, none⟩ = some (.int .i64 no)) ∧ EnvX B w0 bm l w')
    (first | exact hS | exact keep2 m_m m_no H0.out.x.drew | exact keep2 m_m m_no (Env.x (by assumption)) | exact keep2 m_m m_no (EnvX.drew (And.right (by assumption))) | exact keep2 m_m m_no (EnvX.alloc (Env.x (by assumption)) _) | exact keep2 m_m m_no (EnvX.alloc (And.right (by assumption)) _))
    (first | (go_at_call 31; (with_reducible refine (math_any ⟨#[43]⟩ 0 i hz_0 h_i (by decide) H0.out.drew).mono ?_); rintro e w1 ⟨rfl, e10⟩; have e1 : Env B w0 bm l (n + 13) (same2_1 c k i no) k w1 := e10; clear e10) | (go_at_call 40; (with_reducible refine (load_any c.vars 0 (InI.vars H0.out) hz_0 e1).mono ?_); rintro e w2 ⟨rfl, e20⟩; have e2 : Env B w0 bm l (n + 11) (same2_2 c k i no) k w2 := e20; clear e20) | (go_at_call 31; (with_reducible refine (math_any ⟨#[43]⟩ 2 i hz_2 h_i (by decide) e2).mono ?_); rintro e w3 ⟨rfl, e30⟩; have e3 : Env B w0 bm l (n + 9) (same2_3 c k i no) k w3 := e30; clear e30) | (go_at_call 40; (with_reducible refine (load_any (same2_2 c k i no).vars 0 (InI.vars e2) hz_0 e3).mono ?_); rintro e w4 ⟨rfl, e40⟩; have e4 : Env B w0 bm l (n + 7) (same2_4 c k i no) k w4 := e40; clear e40))
  all_goals
    have hr1 := InI.vars H0.out
    have hr2 := InI.vars e1
    have hr3 := InI.vars e2
    have hr4 := InI.vars e3
    have H4 := Lib.hid e4
    clear hS
    have hS := keep2 m_m m_no H4.out.x
    go_wp2_with fail
    go_region_held3 (fun w' => (w'.cell? ⟨b_m, 0, none⟩ = some (.pointer (some ⟨bm, 0, none⟩)) ∧ w'.cell? ⟨b_no, 0, none⟩ = some (.int .i64 no)) ∧ EnvX B w0 bm l w')
      (first | exact hS | exact keep2 m_m m_no H4.out.x.drew | exact keep2 m_m m_no (Env.x (by assumption)) | exact keep2 m_m m_no (EnvX.drew (And.right (by assumption))) | exact keep2 m_m m_no (EnvX.alloc (Env.x (by assumption)) _) | exact keep2 m_m m_no (EnvX.alloc (And.right (by assumption)) _))
      (first | (go_at_call 31; (refine (math_any ⟨#[33, 61]⟩ (same2_1 c k i no).vars (same2_3 c k i no).vars hr2 hr4 (by decide) H4.out.drew).mono ?_); rintro e w5 ⟨rfl, e50⟩; have e5 : Env B w0 bm l (n + 5) (same2_5 c k i no) k w5 := e50; clear e50) | (go_at_call 36; (refine (when_any (ba := #[]) (m := n + 2) (n := n + 0) (c3 := same21_F (whenIn (same2_5 c k i no) k (same2_4 c k i no).vars) (same2_5 c k i no).blocks.length no) (k3 := same21_K (whenIn (same2_5 c k i no) k (same2_4 c k i no).vars) (same2_5 c k i no).blocks.length no) (InI.vars H4.out) enters_same21 e5 (fun w2 e2 => by exact same21_any h_no m_m m_no e2) (by rw [same21_len, whenIn_len]; omega)).mono ?_); rintro e w6 ⟨rfl, e60⟩; have e6 : Env B w0 bm l n (same2_6 c k i no) ((same2_5 c k i no).blocks.length + 1) w6 := e60; clear e60))
    all_goals
      have hr5 := InI.vars H4.out
      have H6 := Lib.hid e6
      clear hS
      go_wp2_with fail
      exact bodyPost_end (results_none (by kernel_rfl) _ _ _) rfl ⟨rfl, H6.out⟩
end Go.Proofs.Ytaomlfbcfmmhlaa

/-
  rt's less, add, find, get, put, drop, char: closures, walked (printed by wip/gen_rtfn.py).
-/
namespace Go.Proofs.Ytaomlfbcfmmhlaa
open Go.RowKit Go.Pst
set_option linter.unusedVariables false
set_option linter.unusedSimpArgs false

variable {B bm n k : Nat} {w0 w : World} {l : List (Nat × Nat × Value)} {c : PCode}
def less1_1 (c : PCode) (k : Nat) (v : Int) : PCode := setF c k v 3
theorem less1_1_len (c : PCode) (k : Nat) (v : Int) : (less1_1 c k v).blocks.length = c.blocks.length + 0 := by
  simp only [less1_1, mathF_len, konstF_len, loadF_len, allocF_len, setF_len, storeF_len, backF_len, freshF_len, copyF_len, whenOut_len, whenIn_len, countOut_len, countIn_len] <;> try omega
def less1_F (c : PCode) (k : Nat) (v : Int) : PCode := (less1_1 c k v)
def less1_K (c : PCode) (k : Nat) (v : Int) : Nat := k
theorem less1_len (c : PCode) (k : Nat) (v : Int) : (less1_F c k v).blocks.length = c.blocks.length + 0 := less1_1_len c k v
theorem enters_less1 : Enters Try.prog 44 := enters_of Try.func44 (by kernel_rfl) (by kernel_rfl)
set_option maxHeartbeats 8000000 in
theorem less1_any {b_m b_v : Nat} {v : Int} (h_v : InI v) (m_m : (b_m, 0, Value.pointer (some ⟨bm, 0, none⟩)) ∈ l) (m_v : (b_v, 0, Value.int .i64 v) ∈ l) (h : Env B w0 bm l (n + 1) c k w) :
    Calls Try.prog 44 #[.pointer (some ⟨b_m, 0, none⟩), .pointer (some ⟨b_v, 0, none⟩)] w fun e w' => e = .returned (.tuple #[]) ∧ Env B w0 bm l n (less1_F c k v) (less1_K c k v) w' := by
  have hz_3 : InI 3 := ini rfl
  have H0 := Lib.hid h
  clear h
  go_enter Try.func44, Try.ntmps44
  have q_m := H0.out.cell m_m
  have q_v := H0.out.cell m_v
  go_wp2_with fail
  clear q_m q_v
  refine (set_any v 3 h_v hz_3 H0.out).mono ?_
  rintro e w1 ⟨rfl, e10⟩
  have e1 : Env B w0 bm l n (less1_1 c k v) k w1 := e10
  have H1 := Lib.hid e1
  clear e1 e10
  go_wp2_with fail
  exact bodyPost_end (results_none (by kernel_rfl) _ _ _) rfl ⟨rfl, H1.out⟩
def less21_1 (c : PCode) (k : Nat) (x : Int) (y : Int) : PCode := mathF c k ⟨#[60]⟩ x y
theorem less21_1_len (c : PCode) (k : Nat) (x : Int) (y : Int) : (less21_1 c k x y).blocks.length = c.blocks.length + 0 := by
  simp only [less21_1, mathF_len, konstF_len, loadF_len, allocF_len, setF_len, storeF_len, backF_len, freshF_len, copyF_len, whenOut_len, whenIn_len, countOut_len, countIn_len] <;> try omega
def less21_2 (c : PCode) (k : Nat) (x : Int) (y : Int) : PCode := backF (less21_1 c k x y) k [c.vars]
theorem less21_2_len (c : PCode) (k : Nat) (x : Int) (y : Int) : (less21_2 c k x y).blocks.length = c.blocks.length + 0 := by
  simp only [less21_2, mathF_len, konstF_len, loadF_len, allocF_len, setF_len, storeF_len, backF_len, freshF_len, copyF_len, whenOut_len, whenIn_len, countOut_len, countIn_len, less21_1_len] <;> try omega
def less21_F (c : PCode) (k : Nat) (x : Int) (y : Int) : PCode := (less21_2 c k x y)
def less21_K (c : PCode) (k : Nat) (x : Int) (y : Int) : Nat := k
theorem less21_len (c : PCode) (k : Nat) (x : Int) (y : Int) : (less21_F c k x y).blocks.length = c.blocks.length + 0 := less21_2_len c k x y
theorem enters_less21 : Enters Try.prog 46 := enters_of Try.func46 (by kernel_rfl) (by kernel_rfl)
set_option maxHeartbeats 8000000 in
theorem less21_any {b_m b_x b_y : Nat} {x y : Int} (h_x : InI x) (h_y : InI y) (m_m : (b_m, 0, Value.pointer (some ⟨bm, 0, none⟩)) ∈ l) (m_x : (b_x, 0, Value.int .i64 x) ∈ l) (m_y : (b_y, 0, Value.int .i64 y) ∈ l) (h : Env B w0 bm l (n + 3) c k w) :
    Calls Try.prog 46 #[.pointer (some ⟨b_m, 0, none⟩), .pointer (some ⟨b_x, 0, none⟩), .pointer (some ⟨b_y, 0, none⟩)] w fun e w' => e = .returned (.tuple #[]) ∧ Env B w0 bm l n (less21_F c k x y) (less21_K c k x y) w' := by
  have H0 := Lib.hid h
  clear h
  go_enter Try.func46, Try.ntmps46
  have hS := keep3 m_m m_x m_y H0.out.x
  go_wp2_with fail
  go_region_held3 (fun w' => (w'.cell? ⟨b_m, 0, none⟩ = some (.pointer (some ⟨bm, 0, none⟩)) ∧ w'.cell? ⟨b_x, 0, none⟩ = some (.int .i64 x) ∧ w'.cell? ⟨b_y, 0, none⟩ = some (.int .i64 y)) ∧ EnvX B w0 bm l w')
    (first | exact hS | exact keep3 m_m m_x m_y H0.out.x.drew | exact keep3 m_m m_x m_y (Env.x (by assumption)) | exact keep3 m_m m_x m_y (EnvX.drew (And.right (by assumption))) | exact keep3 m_m m_x m_y (EnvX.alloc (Env.x (by assumption)) _) | exact keep3 m_m m_x m_y (EnvX.alloc (And.right (by assumption)) _))
    (first | (go_at_call 31; (refine (math_any ⟨#[60]⟩ x y h_x h_y (by decide) H0.out.drew).mono ?_); rintro e w1 ⟨rfl, e10⟩; have e1 : Env B w0 bm l (n + 1) (less21_1 c k x y) k w1 := e10; clear e10) | (go_at_call 34; (refine (back_any e1 ((Below.refl _ _).alloc (Nat.le_refl _) _) (rInts_all [c.vars] (Nat.le_refl _) (lens rfl) (ini1 (InI.vars H0.out)) (new_one _ _))).mono ?_); rintro e w2 ⟨rfl, e20⟩; have e2 : Env B w0 bm l n (less21_2 c k x y) k w2 := e20; clear e20))
  all_goals
    have hr1 := InI.vars H0.out
    have H2 := Lib.hid e2
    clear hS
    go_wp2_with fail
    exact bodyPost_end (results_none (by kernel_rfl) _ _ _) rfl ⟨rfl, H2.out⟩
def add1_1 (c : PCode) (k : Nat) (v : Int) : PCode := mathF c k ⟨#[43]⟩ 0 1
theorem add1_1_len (c : PCode) (k : Nat) (v : Int) : (add1_1 c k v).blocks.length = c.blocks.length + 0 := by
  simp only [add1_1, mathF_len, konstF_len, loadF_len, allocF_len, setF_len, storeF_len, backF_len, freshF_len, copyF_len, whenOut_len, whenIn_len, countOut_len, countIn_len] <;> try omega
def add1_2 (c : PCode) (k : Nat) (v : Int) : PCode := storeF (add1_1 c k v) k c.vars 0 3
theorem add1_2_len (c : PCode) (k : Nat) (v : Int) : (add1_2 c k v).blocks.length = c.blocks.length + 0 := by
  simp only [add1_2, mathF_len, konstF_len, loadF_len, allocF_len, setF_len, storeF_len, backF_len, freshF_len, copyF_len, whenOut_len, whenIn_len, countOut_len, countIn_len, add1_1_len] <;> try omega
def add1_3 (c : PCode) (k : Nat) (v : Int) : PCode := backF (add1_2 c k v) k [0, v, 2]
theorem add1_3_len (c : PCode) (k : Nat) (v : Int) : (add1_3 c k v).blocks.length = c.blocks.length + 0 := by
  simp only [add1_3, mathF_len, konstF_len, loadF_len, allocF_len, setF_len, storeF_len, backF_len, freshF_len, copyF_len, whenOut_len, whenIn_len, countOut_len, countIn_len, add1_2_len] <;> try omega
def add1_F (c : PCode) (k : Nat) (v : Int) : PCode := (add1_3 c k v)
def add1_K (c : PCode) (k : Nat) (v : Int) : Nat := k
theorem add1_len (c : PCode) (k : Nat) (v : Int) : (add1_F c k v).blocks.length = c.blocks.length + 0 := add1_3_len c k v
theorem enters_add1 : Enters Try.prog 47 := enters_of Try.func47 (by kernel_rfl) (by kernel_rfl)
set_option maxHeartbeats 8000000 in
theorem add1_any {b_m b_v : Nat} {v : Int} (h_v : InI v) (m_m : (b_m, 0, Value.pointer (some ⟨bm, 0, none⟩)) ∈ l) (m_v : (b_v, 0, Value.int .i64 v) ∈ l) (h : Env B w0 bm l (n + 4) c k w) :
    Calls Try.prog 47 #[.pointer (some ⟨b_m, 0, none⟩), .pointer (some ⟨b_v, 0, none⟩)] w fun e w' => e = .returned (.tuple #[]) ∧ Env B w0 bm l n (add1_F c k v) (add1_K c k v) w' := by
  have hz_0 : InI 0 := ini rfl
  have hz_1 : InI 1 := ini rfl
  have hz_2 : InI 2 := ini rfl
  have hz_3 : InI 3 := ini rfl
  have H0 := Lib.hid h
  clear h
  go_enter Try.func47, Try.ntmps47
  have hS := keep2 m_m m_v H0.out.x
  go_wp2_with fail
  go_region_held3 (fun w' => (w'.cell? ⟨b_m, 0, none⟩ = some (.pointer (some ⟨bm, 0, none⟩)) ∧ w'.cell? ⟨b_v, 0, none⟩ = some (.int .i64 v)) ∧ EnvX B w0 bm l w')
    (first | exact hS | exact keep2 m_m m_v H0.out.x.drew | exact keep2 m_m m_v (Env.x (by assumption)) | exact keep2 m_m m_v (EnvX.drew (And.right (by assumption))) | exact keep2 m_m m_v (EnvX.alloc (Env.x (by assumption)) _) | exact keep2 m_m m_v (EnvX.alloc (And.right (by assumption)) _))
    (first | (go_at_call 31; (refine (math_any ⟨#[43]⟩ 0 1 hz_0 hz_1 (by decide) H0.out.drew).mono ?_); rintro e w1 ⟨rfl, e10⟩; have e1 : Env B w0 bm l (n + 2) (add1_1 c k v) k w1 := e10; clear e10) | (go_at_call 48; (refine (store_any c.vars 0 3 (InI.vars H0.out) hz_0 hz_3 e1).mono ?_); rintro e w2 ⟨rfl, e20⟩; have e2 : Env B w0 bm l (n + 1) (add1_2 c k v) k w2 := e20; clear e20))
  all_goals
    have hr1 := InI.vars H0.out
    have H2 := Lib.hid e2
    clear hS
    have q_m := H2.out.cell m_m
    have q_v := H2.out.cell m_v
    go_wp2_with fail
    clear q_m q_v
    refine (back_any H2.out ((Below.refl _ _).alloc (Nat.le_refl _) _) (rInts_all [0, v, 2] (Nat.le_refl _) (lens rfl) (ini3 hz_0 h_v hz_2) (new_one _ _))).mono ?_
    rintro e w3 ⟨rfl, e30⟩
    have e3 : Env B w0 bm l n (add1_3 c k v) k w3 := e30
    have H3 := Lib.hid e3
    clear e3 e30
    go_wp2_with fail
    exact bodyPost_end (results_none (by kernel_rfl) _ _ _) rfl ⟨rfl, H3.out⟩
def add2_1 (c : PCode) (k : Nat) (v : Int) : PCode := konstF c k 4
theorem add2_1_len (c : PCode) (k : Nat) (v : Int) : (add2_1 c k v).blocks.length = c.blocks.length + 0 := by
  simp only [add2_1, mathF_len, konstF_len, loadF_len, allocF_len, setF_len, storeF_len, backF_len, freshF_len, copyF_len, whenOut_len, whenIn_len, countOut_len, countIn_len] <;> try omega
def add2_2 (c : PCode) (k : Nat) (v : Int) : PCode := setF (add2_1 c k v) k v c.vars
theorem add2_2_len (c : PCode) (k : Nat) (v : Int) : (add2_2 c k v).blocks.length = c.blocks.length + 0 := by
  simp only [add2_2, mathF_len, konstF_len, loadF_len, allocF_len, setF_len, storeF_len, backF_len, freshF_len, copyF_len, whenOut_len, whenIn_len, countOut_len, countIn_len, add2_1_len] <;> try omega
def add2_F (c : PCode) (k : Nat) (v : Int) : PCode := (add2_2 c k v)
def add2_K (c : PCode) (k : Nat) (v : Int) : Nat := k
theorem add2_len (c : PCode) (k : Nat) (v : Int) : (add2_F c k v).blocks.length = c.blocks.length + 0 := add2_2_len c k v
theorem enters_add2 : Enters Try.prog 49 := enters_of Try.func49 (by kernel_rfl) (by kernel_rfl)
set_option maxHeartbeats 8000000 in
theorem add2_any {b_m b_v : Nat} {v : Int} (h_v : InI v) (m_m : (b_m, 0, Value.pointer (some ⟨bm, 0, none⟩)) ∈ l) (m_v : (b_v, 0, Value.int .i64 v) ∈ l) (h : Env B w0 bm l (n + 3) c k w) :
    Calls Try.prog 49 #[.pointer (some ⟨b_m, 0, none⟩), .pointer (some ⟨b_v, 0, none⟩)] w fun e w' => e = .returned (.tuple #[]) ∧ Env B w0 bm l n (add2_F c k v) (add2_K c k v) w' := by
  have hz_4 : InI 4 := ini rfl
  have H0 := Lib.hid h
  clear h
  go_enter Try.func49, Try.ntmps49
  have hS := keep2 m_m m_v H0.out.x
  go_wp2_with fail
  go_region_held3 (fun w' => (w'.cell? ⟨b_m, 0, none⟩ = some (.pointer (some ⟨bm, 0, none⟩)) ∧ w'.cell? ⟨b_v, 0, none⟩ = some (.int .i64 v)) ∧ EnvX B w0 bm l w')
    (first | exact hS | exact keep2 m_m m_v H0.out.x.drew | exact keep2 m_m m_v (Env.x (by assumption)) | exact keep2 m_m m_v (EnvX.drew (And.right (by assumption))) | exact keep2 m_m m_v (EnvX.alloc (Env.x (by assumption)) _) | exact keep2 m_m m_v (EnvX.alloc (And.right (by assumption)) _))
    (first | (go_at_call 35; (refine (konst_any 4 hz_4 H0.out.drew).mono ?_); rintro e w1 ⟨rfl, e10⟩; have e1 : Env B w0 bm l (n + 1) (add2_1 c k v) k w1 := e10; clear e10) | (go_at_call 43; (refine (set_any v c.vars h_v (InI.vars H0.out) e1).mono ?_); rintro e w2 ⟨rfl, e20⟩; have e2 : Env B w0 bm l n (add2_2 c k v) k w2 := e20; clear e20))
  all_goals
    have hr1 := InI.vars H0.out
    have H2 := Lib.hid e2
    clear hS
    go_wp2_with fail
    exact bodyPost_end (results_none (by kernel_rfl) _ _ _) rfl ⟨rfl, H2.out⟩
def find111_1 (c : PCode) (k : Nat) (at_ : Int) : PCode := backF c k [at_]
theorem find111_1_len (c : PCode) (k : Nat) (at_ : Int) : (find111_1 c k at_).blocks.length = c.blocks.length + 0 := by
  simp only [find111_1, mathF_len, konstF_len, loadF_len, allocF_len, setF_len, storeF_len, backF_len, freshF_len, copyF_len, whenOut_len, whenIn_len, countOut_len, countIn_len] <;> try omega
def find111_F (c : PCode) (k : Nat) (at_ : Int) : PCode := (find111_1 c k at_)
def find111_K (c : PCode) (k : Nat) (at_ : Int) : Nat := k
theorem find111_len (c : PCode) (k : Nat) (at_ : Int) : (find111_F c k at_).blocks.length = c.blocks.length + 0 := find111_1_len c k at_
theorem enters_find111 : Enters Try.prog 52 := enters_of Try.func52 (by kernel_rfl) (by kernel_rfl)
set_option maxHeartbeats 8000000 in
theorem find111_any {b_m b_at_ : Nat} {at_ : Int} (h_at_ : InI at_) (m_m : (b_m, 0, Value.pointer (some ⟨bm, 0, none⟩)) ∈ l) (m_at_ : (b_at_, 0, Value.int .i64 at_) ∈ l) (h : Env B w0 bm l (n + 1) c k w) :
    Calls Try.prog 52 #[.pointer (some ⟨b_m, 0, none⟩), .pointer (some ⟨b_at_, 0, none⟩)] w fun e w' => e = .returned (.tuple #[]) ∧ Env B w0 bm l n (find111_F c k at_) (find111_K c k at_) w' := by
  have H0 := Lib.hid h
  clear h
  go_enter Try.func52, Try.ntmps52
  have q_m := H0.out.cell m_m
  have q_at_ := H0.out.cell m_at_
  go_wp2_with fail
  clear q_m q_at_
  refine (back_any H0.out ((Below.refl _ _).alloc (Nat.le_refl _) _) (rInts_all [at_] (Nat.le_refl _) (lens rfl) (ini1 h_at_) (new_one _ _))).mono ?_
  rintro e w1 ⟨rfl, e10⟩
  have e1 : Env B w0 bm l n (find111_1 c k at_) k w1 := e10
  have H1 := Lib.hid e1
  clear e1 e10
  go_wp2_with fail
  exact bodyPost_end (results_none (by kernel_rfl) _ _ _) rfl ⟨rfl, H1.out⟩
def find11_1 (c : PCode) (k : Nat) (at_ : Int) : PCode := loadF c k at_ 0
theorem find11_1_len (c : PCode) (k : Nat) (at_ : Int) : (find11_1 c k at_).blocks.length = c.blocks.length + 0 := by
  simp only [find11_1, mathF_len, konstF_len, loadF_len, allocF_len, setF_len, storeF_len, backF_len, freshF_len, copyF_len, whenOut_len, whenIn_len, countOut_len, countIn_len] <;> try omega
def find11_2 (c : PCode) (k : Nat) (at_ : Int) : PCode := mathF (find11_1 c k at_) k ⟨#[61, 61]⟩ c.vars 1
theorem find11_2_len (c : PCode) (k : Nat) (at_ : Int) : (find11_2 c k at_).blocks.length = c.blocks.length + 0 := by
  simp only [find11_2, mathF_len, konstF_len, loadF_len, allocF_len, setF_len, storeF_len, backF_len, freshF_len, copyF_len, whenOut_len, whenIn_len, countOut_len, countIn_len, find11_1_len] <;> try omega
def find11_3 (c : PCode) (k : Nat) (at_ : Int) : PCode := whenOut (find111_F (whenIn (find11_2 c k at_) k (find11_1 c k at_).vars) (find11_2 c k at_).blocks.length at_) (find111_K (whenIn (find11_2 c k at_) k (find11_1 c k at_).vars) (find11_2 c k at_).blocks.length at_) (((find11_2 c k at_).blocks.length : Int) + 1)
theorem find11_3_len (c : PCode) (k : Nat) (at_ : Int) : (find11_3 c k at_).blocks.length = c.blocks.length + 2 := by
  simp only [find11_3, mathF_len, konstF_len, loadF_len, allocF_len, setF_len, storeF_len, backF_len, freshF_len, copyF_len, whenOut_len, whenIn_len, countOut_len, countIn_len, find111_len, find11_2_len] <;> try omega
def find11_F (c : PCode) (k : Nat) (at_ : Int) : PCode := (find11_3 c k at_)
def find11_K (c : PCode) (k : Nat) (at_ : Int) : Nat := ((find11_2 c k at_).blocks.length + 1)
theorem find11_len (c : PCode) (k : Nat) (at_ : Int) : (find11_F c k at_).blocks.length = c.blocks.length + 2 := find11_3_len c k at_
theorem enters_find11 : Enters Try.prog 51 := enters_of Try.func51 (by kernel_rfl) (by kernel_rfl)
set_option maxHeartbeats 8000000 in
theorem find11_any {b_m b_at_ : Nat} {at_ : Int} (h_at_ : InI at_) (m_m : (b_m, 0, Value.pointer (some ⟨bm, 0, none⟩)) ∈ l) (m_at_ : (b_at_, 0, Value.int .i64 at_) ∈ l) (h : Env B w0 bm l (n + 9) c k w) :
    Calls Try.prog 51 #[.pointer (some ⟨b_m, 0, none⟩), .pointer (some ⟨b_at_, 0, none⟩)] w fun e w' => e = .returned (.tuple #[]) ∧ Env B w0 bm l n (find11_F c k at_) (find11_K c k at_) w' := by
  have hz_0 : InI 0 := ini rfl
  have hz_1 : InI 1 := ini rfl
  have H0 := Lib.hid h
  clear h
  go_enter Try.func51, Try.ntmps51
  have hS := keep2 m_m m_at_ H0.out.x
  go_wp2_with fail
  go_region_held3 (fun w' => (w'.cell? ⟨b_m, 0, none⟩ = some (.pointer (some ⟨bm, 0, none⟩)) ∧ w'.cell? ⟨b_at_, 0, none⟩ = some (.int .i64 at_)) ∧ EnvX B w0 bm l w')
    (first | exact hS | exact keep2 m_m m_at_ H0.out.x.drew | exact keep2 m_m m_at_ (Env.x (by assumption)) | exact keep2 m_m m_at_ (EnvX.drew (And.right (by assumption))) | exact keep2 m_m m_at_ (EnvX.alloc (Env.x (by assumption)) _) | exact keep2 m_m m_at_ (EnvX.alloc (And.right (by assumption)) _))
    (first | (go_at_call 40; (refine (load_any at_ 0 h_at_ hz_0 H0.out.drew).mono ?_); rintro e w1 ⟨rfl, e10⟩; have e1 : Env B w0 bm l (n + 7) (find11_1 c k at_) k w1 := e10; clear e10) | (go_at_call 31; (refine (math_any ⟨#[61, 61]⟩ c.vars 1 (InI.vars H0.out) hz_1 (by decide) e1).mono ?_); rintro e w2 ⟨rfl, e20⟩; have e2 : Env B w0 bm l (n + 5) (find11_2 c k at_) k w2 := e20; clear e20) | (go_at_call 36; (refine (when_any (ba := #[]) (m := n + 2) (n := n + 0) (c3 := find111_F (whenIn (find11_2 c k at_) k (find11_1 c k at_).vars) (find11_2 c k at_).blocks.length at_) (k3 := find111_K (whenIn (find11_2 c k at_) k (find11_1 c k at_).vars) (find11_2 c k at_).blocks.length at_) (InI.vars e1) enters_find111 e2 (fun w2 e2 => by exact find111_any h_at_ m_m m_at_ e2) (by rw [find111_len, whenIn_len]; omega)).mono ?_); rintro e w3 ⟨rfl, e30⟩; have e3 : Env B w0 bm l n (find11_3 c k at_) ((find11_2 c k at_).blocks.length + 1) w3 := e30; clear e30))
  all_goals
    have hr1 := InI.vars H0.out
    have hr2 := InI.vars e1
    have H3 := Lib.hid e3
    clear hS
    go_wp2_with fail
    exact bodyPost_end (results_none (by kernel_rfl) _ _ _) rfl ⟨rfl, H3.out⟩
def find1_1 (c : PCode) (k : Nat) (i : Int) (at_ : Int) : PCode := loadF c k at_ 2
theorem find1_1_len (c : PCode) (k : Nat) (i : Int) (at_ : Int) : (find1_1 c k i at_).blocks.length = c.blocks.length + 0 := by
  simp only [find1_1, mathF_len, konstF_len, loadF_len, allocF_len, setF_len, storeF_len, backF_len, freshF_len, copyF_len, whenOut_len, whenIn_len, countOut_len, countIn_len] <;> try omega
def find1_2 (c : PCode) (k : Nat) (i : Int) (at_ : Int) : PCode := whenOut (find11_F (whenIn (find1_1 c k i at_) k c.vars) (find1_1 c k i at_).blocks.length at_) (find11_K (whenIn (find1_1 c k i at_) k c.vars) (find1_1 c k i at_).blocks.length at_) (((find1_1 c k i at_).blocks.length : Int) + 1)
theorem find1_2_len (c : PCode) (k : Nat) (i : Int) (at_ : Int) : (find1_2 c k i at_).blocks.length = c.blocks.length + 4 := by
  simp only [find1_2, mathF_len, konstF_len, loadF_len, allocF_len, setF_len, storeF_len, backF_len, freshF_len, copyF_len, whenOut_len, whenIn_len, countOut_len, countIn_len, find11_len, find1_1_len] <;> try omega
def find1_3 (c : PCode) (k : Nat) (i : Int) (at_ : Int) : PCode := konstF (find1_2 c k i at_) ((find1_1 c k i at_).blocks.length + 1) 3
theorem find1_3_len (c : PCode) (k : Nat) (i : Int) (at_ : Int) : (find1_3 c k i at_).blocks.length = c.blocks.length + 4 := by
  simp only [find1_3, mathF_len, konstF_len, loadF_len, allocF_len, setF_len, storeF_len, backF_len, freshF_len, copyF_len, whenOut_len, whenIn_len, countOut_len, countIn_len, find1_2_len] <;> try omega
def find1_4 (c : PCode) (k : Nat) (i : Int) (at_ : Int) : PCode := mathF (find1_3 c k i at_) ((find1_1 c k i at_).blocks.length + 1) ⟨#[43]⟩ at_ (find1_2 c k i at_).vars
theorem find1_4_len (c : PCode) (k : Nat) (i : Int) (at_ : Int) : (find1_4 c k i at_).blocks.length = c.blocks.length + 4 := by
  simp only [find1_4, mathF_len, konstF_len, loadF_len, allocF_len, setF_len, storeF_len, backF_len, freshF_len, copyF_len, whenOut_len, whenIn_len, countOut_len, countIn_len, find1_3_len] <;> try omega
def find1_5 (c : PCode) (k : Nat) (i : Int) (at_ : Int) : PCode := setF (find1_4 c k i at_) ((find1_1 c k i at_).blocks.length + 1) at_ (find1_3 c k i at_).vars
theorem find1_5_len (c : PCode) (k : Nat) (i : Int) (at_ : Int) : (find1_5 c k i at_).blocks.length = c.blocks.length + 4 := by
  simp only [find1_5, mathF_len, konstF_len, loadF_len, allocF_len, setF_len, storeF_len, backF_len, freshF_len, copyF_len, whenOut_len, whenIn_len, countOut_len, countIn_len, find1_4_len] <;> try omega
def find1_F (c : PCode) (k : Nat) (i : Int) (at_ : Int) : PCode := (find1_5 c k i at_)
def find1_K (c : PCode) (k : Nat) (i : Int) (at_ : Int) : Nat := ((find1_1 c k i at_).blocks.length + 1)
theorem find1_len (c : PCode) (k : Nat) (i : Int) (at_ : Int) : (find1_F c k i at_).blocks.length = c.blocks.length + 4 := find1_5_len c k i at_
theorem enters_find1 : Enters Try.prog 50 := enters_of Try.func50 (by kernel_rfl) (by kernel_rfl)
set_option maxHeartbeats 8000000 in
theorem find1_any {b_m b_at_ : Nat} {i at_ : Int} (h_i : InI i) (h_at_ : InI at_) (m_m : (b_m, 0, Value.pointer (some ⟨bm, 0, none⟩)) ∈ l) (m_at_ : (b_at_, 0, Value.int .i64 at_) ∈ l) (h : Env B w0 bm l (n + 20) c k w) :
    Calls Try.prog 50 #[.int .i64 i, .pointer (some ⟨b_m, 0, none⟩), .pointer (some ⟨b_at_, 0, none⟩)] w fun e w' => e = .returned (.tuple #[]) ∧ Env B w0 bm l n (find1_F c k i at_) (find1_K c k i at_) w' := by
  have hz_2 : InI 2 := ini rfl
  have hz_3 : InI 3 := ini rfl
  have H0 := Lib.hid h
  clear h
  go_enter Try.func50, Try.ntmps50
  have hS := keep2 m_m m_at_ H0.out.x
  go_wp2_with fail
  go_region_held3 (fun w' => (w'.cell? ⟨b_m, 0, none⟩ = some (.pointer (some ⟨bm, 0, none⟩)) ∧ w'.cell? ⟨b_at_, 0, none⟩ = some (.int .i64 at_)) ∧ EnvX B w0 bm l w')
    (first | exact hS | exact keep2 m_m m_at_ H0.out.x.drew | exact keep2 m_m m_at_ (Env.x (by assumption)) | exact keep2 m_m m_at_ (EnvX.drew (And.right (by assumption))) | exact keep2 m_m m_at_ (EnvX.alloc (Env.x (by assumption)) _) | exact keep2 m_m m_at_ (EnvX.alloc (And.right (by assumption)) _))
    (first | (go_at_call 40; (refine (load_any at_ 2 h_at_ hz_2 H0.out.drew).mono ?_); rintro e w1 ⟨rfl, e10⟩; have e1 : Env B w0 bm l (n + 18) (find1_1 c k i at_) k w1 := e10; clear e10) | (go_at_call 36; (refine (when_any (ba := #[]) (m := n + 15) (n := n + 5) (c3 := find11_F (whenIn (find1_1 c k i at_) k c.vars) (find1_1 c k i at_).blocks.length at_) (k3 := find11_K (whenIn (find1_1 c k i at_) k c.vars) (find1_1 c k i at_).blocks.length at_) (InI.vars H0.out) enters_find11 e1 (fun w2 e2 => by exact find11_any h_at_ m_m m_at_ e2) (by rw [find11_len, whenIn_len]; omega)).mono ?_); rintro e w2 ⟨rfl, e20⟩; have e2 : Env B w0 bm l (n + 5) (find1_2 c k i at_) ((find1_1 c k i at_).blocks.length + 1) w2 := e20; clear e20))
  all_goals
    have hr1 := InI.vars H0.out
    have H2 := Lib.hid e2
    clear hS
    have hS := keep2 m_m m_at_ H2.out.x
    go_wp2_with fail
    go_region_held3 (fun w' => (w'.cell? ⟨b_m, 0, none⟩ = some (.pointer (some ⟨bm, 0, none⟩)) ∧ w'.cell? ⟨b_at_, 0, none⟩ = some (.int .i64 at_)) ∧ EnvX B w0 bm l w')
      (first | exact hS | exact keep2 m_m m_at_ H2.out.x.drew | exact keep2 m_m m_at_ (Env.x (by assumption)) | exact keep2 m_m m_at_ (EnvX.drew (And.right (by assumption))) | exact keep2 m_m m_at_ (EnvX.alloc (Env.x (by assumption)) _) | exact keep2 m_m m_at_ (EnvX.alloc (And.right (by assumption)) _))
      (first | (go_at_call 35; (refine (konst_any 3 hz_3 H2.out.drew).mono ?_); rintro e w3 ⟨rfl, e30⟩; have e3 : Env B w0 bm l (n + 3) (find1_3 c k i at_) ((find1_1 c k i at_).blocks.length + 1) w3 := e30; clear e30) | (go_at_call 31; (refine (math_any ⟨#[43]⟩ at_ (find1_2 c k i at_).vars h_at_ (InI.vars H2.out) (by decide) e3).mono ?_); rintro e w4 ⟨rfl, e40⟩; have e4 : Env B w0 bm l (n + 1) (find1_4 c k i at_) ((find1_1 c k i at_).blocks.length + 1) w4 := e40; clear e40) | (go_at_call 43; (refine (set_any at_ (find1_3 c k i at_).vars h_at_ (InI.vars e3) e4).mono ?_); rintro e w5 ⟨rfl, e50⟩; have e5 : Env B w0 bm l n (find1_5 c k i at_) ((find1_1 c k i at_).blocks.length + 1) w5 := e50; clear e50))
    all_goals
      have hr3 := InI.vars H2.out
      have hr4 := InI.vars e3
      have H5 := Lib.hid e5
      clear hS
      go_wp2_with fail
      exact bodyPost_end (results_none (by kernel_rfl) _ _ _) rfl ⟨rfl, H5.out⟩
def get1_1 (c : PCode) (k : Nat) (v : Int) : PCode := backF c k [v]
theorem get1_1_len (c : PCode) (k : Nat) (v : Int) : (get1_1 c k v).blocks.length = c.blocks.length + 0 := by
  simp only [get1_1, mathF_len, konstF_len, loadF_len, allocF_len, setF_len, storeF_len, backF_len, freshF_len, copyF_len, whenOut_len, whenIn_len, countOut_len, countIn_len] <;> try omega
def get1_F (c : PCode) (k : Nat) (v : Int) : PCode := (get1_1 c k v)
def get1_K (c : PCode) (k : Nat) (v : Int) : Nat := k
theorem get1_len (c : PCode) (k : Nat) (v : Int) : (get1_F c k v).blocks.length = c.blocks.length + 0 := get1_1_len c k v
theorem enters_get1 : Enters Try.prog 54 := enters_of Try.func54 (by kernel_rfl) (by kernel_rfl)
set_option maxHeartbeats 8000000 in
theorem get1_any {b_m b_v : Nat} {v : Int} (h_v : InI v) (m_m : (b_m, 0, Value.pointer (some ⟨bm, 0, none⟩)) ∈ l) (m_v : (b_v, 0, Value.int .i64 v) ∈ l) (h : Env B w0 bm l (n + 1) c k w) :
    Calls Try.prog 54 #[.pointer (some ⟨b_m, 0, none⟩), .pointer (some ⟨b_v, 0, none⟩)] w fun e w' => e = .returned (.tuple #[]) ∧ Env B w0 bm l n (get1_F c k v) (get1_K c k v) w' := by
  have H0 := Lib.hid h
  clear h
  go_enter Try.func54, Try.ntmps54
  have q_m := H0.out.cell m_m
  have q_v := H0.out.cell m_v
  go_wp2_with fail
  clear q_m q_v
  refine (back_any H0.out ((Below.refl _ _).alloc (Nat.le_refl _) _) (rInts_all [v] (Nat.le_refl _) (lens rfl) (ini1 h_v) (new_one _ _))).mono ?_
  rintro e w1 ⟨rfl, e10⟩
  have e1 : Env B w0 bm l n (get1_1 c k v) k w1 := e10
  have H1 := Lib.hid e1
  clear e1 e10
  go_wp2_with fail
  exact bodyPost_end (results_none (by kernel_rfl) _ _ _) rfl ⟨rfl, H1.out⟩
def put1_1 (c : PCode) (k : Nat) (at_ : Int) : PCode := storeF c k at_ 1 2
theorem put1_1_len (c : PCode) (k : Nat) (at_ : Int) : (put1_1 c k at_).blocks.length = c.blocks.length + 0 := by
  simp only [put1_1, mathF_len, konstF_len, loadF_len, allocF_len, setF_len, storeF_len, backF_len, freshF_len, copyF_len, whenOut_len, whenIn_len, countOut_len, countIn_len] <;> try omega
def put1_2 (c : PCode) (k : Nat) (at_ : Int) : PCode := backF (put1_1 c k at_) k []
theorem put1_2_len (c : PCode) (k : Nat) (at_ : Int) : (put1_2 c k at_).blocks.length = c.blocks.length + 0 := by
  simp only [put1_2, mathF_len, konstF_len, loadF_len, allocF_len, setF_len, storeF_len, backF_len, freshF_len, copyF_len, whenOut_len, whenIn_len, countOut_len, countIn_len, put1_1_len] <;> try omega
def put1_F (c : PCode) (k : Nat) (at_ : Int) : PCode := (put1_2 c k at_)
def put1_K (c : PCode) (k : Nat) (at_ : Int) : Nat := k
theorem put1_len (c : PCode) (k : Nat) (at_ : Int) : (put1_F c k at_).blocks.length = c.blocks.length + 0 := put1_2_len c k at_
theorem enters_put1 : Enters Try.prog 55 := enters_of Try.func55 (by kernel_rfl) (by kernel_rfl)
set_option maxHeartbeats 8000000 in
theorem put1_any {b_m b_at_ : Nat} {at_ : Int} (h_at_ : InI at_) (m_m : (b_m, 0, Value.pointer (some ⟨bm, 0, none⟩)) ∈ l) (m_at_ : (b_at_, 0, Value.int .i64 at_) ∈ l) (h : Env B w0 bm l (n + 2) c k w) :
    Calls Try.prog 55 #[.pointer (some ⟨b_m, 0, none⟩), .pointer (some ⟨b_at_, 0, none⟩)] w fun e w' => e = .returned (.tuple #[]) ∧ Env B w0 bm l n (put1_F c k at_) (put1_K c k at_) w' := by
  have hz_1 : InI 1 := ini rfl
  have hz_2 : InI 2 := ini rfl
  have H0 := Lib.hid h
  clear h
  go_enter Try.func55, Try.ntmps55
  have q_m := H0.out.cell m_m
  have q_at_ := H0.out.cell m_at_
  go_wp2_with fail
  clear q_m q_at_
  refine (store_any at_ 1 2 h_at_ hz_1 hz_2 H0.out).mono ?_
  rintro e w1 ⟨rfl, e10⟩
  have e1 : Env B w0 bm l (n + 1) (put1_1 c k at_) k w1 := e10
  have H1 := Lib.hid e1
  clear e1 e10
  have q_m := H1.out.cell m_m
  have q_at_ := H1.out.cell m_at_
  go_wp2_with fail
  clear q_m q_at_
  refine (back_any H1.out (Below.refl _ _) (rSlice_nil _ _ _ _)).mono ?_
  rintro e w2 ⟨rfl, e20⟩
  have e2 : Env B w0 bm l n (put1_2 c k at_) k w2 := e20
  have H2 := Lib.hid e2
  clear e2 e20
  go_wp2_with fail
  exact bodyPost_end (results_none (by kernel_rfl) _ _ _) rfl ⟨rfl, H2.out⟩
def put2_1 (c : PCode) (k : Nat) (room : Int) (v : Int) : PCode := mathF c k ⟨#[43]⟩ room room
theorem put2_1_len (c : PCode) (k : Nat) (room : Int) (v : Int) : (put2_1 c k room v).blocks.length = c.blocks.length + 0 := by
  simp only [put2_1, mathF_len, konstF_len, loadF_len, allocF_len, setF_len, storeF_len, backF_len, freshF_len, copyF_len, whenOut_len, whenIn_len, countOut_len, countIn_len] <;> try omega
def put2_2 (c : PCode) (k : Nat) (room : Int) (v : Int) : PCode := konstF (put2_1 c k room v) k 3
theorem put2_2_len (c : PCode) (k : Nat) (room : Int) (v : Int) : (put2_2 c k room v).blocks.length = c.blocks.length + 0 := by
  simp only [put2_2, mathF_len, konstF_len, loadF_len, allocF_len, setF_len, storeF_len, backF_len, freshF_len, copyF_len, whenOut_len, whenIn_len, countOut_len, countIn_len, put2_1_len] <;> try omega
def put2_3 (c : PCode) (k : Nat) (room : Int) (v : Int) : PCode := mathF (put2_2 c k room v) k ⟨#[42]⟩ c.vars (put2_1 c k room v).vars
theorem put2_3_len (c : PCode) (k : Nat) (room : Int) (v : Int) : (put2_3 c k room v).blocks.length = c.blocks.length + 0 := by
  simp only [put2_3, mathF_len, konstF_len, loadF_len, allocF_len, setF_len, storeF_len, backF_len, freshF_len, copyF_len, whenOut_len, whenIn_len, countOut_len, countIn_len, put2_2_len] <;> try omega
def put2_4 (c : PCode) (k : Nat) (room : Int) (v : Int) : PCode := allocF (put2_3 c k room v) k (put2_2 c k room v).vars
theorem put2_4_len (c : PCode) (k : Nat) (room : Int) (v : Int) : (put2_4 c k room v).blocks.length = c.blocks.length + 0 := by
  simp only [put2_4, mathF_len, konstF_len, loadF_len, allocF_len, setF_len, storeF_len, backF_len, freshF_len, copyF_len, whenOut_len, whenIn_len, countOut_len, countIn_len, put2_3_len] <;> try omega
def put2_5 (c : PCode) (k : Nat) (room : Int) (v : Int) : PCode := loadF (put2_4 c k room v) k 0 2
theorem put2_5_len (c : PCode) (k : Nat) (room : Int) (v : Int) : (put2_5 c k room v).blocks.length = c.blocks.length + 0 := by
  simp only [put2_5, mathF_len, konstF_len, loadF_len, allocF_len, setF_len, storeF_len, backF_len, freshF_len, copyF_len, whenOut_len, whenIn_len, countOut_len, countIn_len, put2_4_len] <;> try omega
def put2_6 (c : PCode) (k : Nat) (room : Int) (v : Int) : PCode := mathF (put2_5 c k room v) k ⟨#[42]⟩ v (put2_1 c k room v).vars
theorem put2_6_len (c : PCode) (k : Nat) (room : Int) (v : Int) : (put2_6 c k room v).blocks.length = c.blocks.length + 0 := by
  simp only [put2_6, mathF_len, konstF_len, loadF_len, allocF_len, setF_len, storeF_len, backF_len, freshF_len, copyF_len, whenOut_len, whenIn_len, countOut_len, countIn_len, put2_5_len] <;> try omega
def put2_7 (c : PCode) (k : Nat) (room : Int) (v : Int) : PCode := copyF (put2_6 c k room v) k (put2_3 c k room v).vars (put2_4 c k room v).vars (put2_5 c k room v).vars
theorem put2_7_len (c : PCode) (k : Nat) (room : Int) (v : Int) : (put2_7 c k room v).blocks.length = c.blocks.length + 3 := by
  simp only [put2_7, mathF_len, konstF_len, loadF_len, allocF_len, setF_len, storeF_len, backF_len, freshF_len, copyF_len, whenOut_len, whenIn_len, countOut_len, countIn_len, put2_6_len] <;> try omega
def put2_8 (c : PCode) (k : Nat) (room : Int) (v : Int) : PCode := storeF (put2_7 c k room v) ((put2_6 c k room v).blocks.length + 2) 0 1 c.vars
theorem put2_8_len (c : PCode) (k : Nat) (room : Int) (v : Int) : (put2_8 c k room v).blocks.length = c.blocks.length + 3 := by
  simp only [put2_8, mathF_len, konstF_len, loadF_len, allocF_len, setF_len, storeF_len, backF_len, freshF_len, copyF_len, whenOut_len, whenIn_len, countOut_len, countIn_len, put2_7_len] <;> try omega
def put2_9 (c : PCode) (k : Nat) (room : Int) (v : Int) : PCode := storeF (put2_8 c k room v) ((put2_6 c k room v).blocks.length + 2) 0 2 (put2_3 c k room v).vars
theorem put2_9_len (c : PCode) (k : Nat) (room : Int) (v : Int) : (put2_9 c k room v).blocks.length = c.blocks.length + 3 := by
  simp only [put2_9, mathF_len, konstF_len, loadF_len, allocF_len, setF_len, storeF_len, backF_len, freshF_len, copyF_len, whenOut_len, whenIn_len, countOut_len, countIn_len, put2_8_len] <;> try omega
def put2_F (c : PCode) (k : Nat) (room : Int) (v : Int) : PCode := (put2_9 c k room v)
def put2_K (c : PCode) (k : Nat) (room : Int) (v : Int) : Nat := ((put2_6 c k room v).blocks.length + 2)
theorem put2_len (c : PCode) (k : Nat) (room : Int) (v : Int) : (put2_F c k room v).blocks.length = c.blocks.length + 3 := put2_9_len c k room v
theorem enters_put2 : Enters Try.prog 56 := enters_of Try.func56 (by kernel_rfl) (by kernel_rfl)
set_option maxHeartbeats 8000000 in
theorem put2_any {b_m b_room b_v : Nat} {room v : Int} (h_room : InI room) (h_v : InI v) (m_m : (b_m, 0, Value.pointer (some ⟨bm, 0, none⟩)) ∈ l) (m_room : (b_room, 0, Value.int .i64 room) ∈ l) (m_v : (b_v, 0, Value.int .i64 v) ∈ l) (h : Env B w0 bm l (n + 38) c k w) :
    Calls Try.prog 56 #[.pointer (some ⟨b_m, 0, none⟩), .pointer (some ⟨b_room, 0, none⟩), .pointer (some ⟨b_v, 0, none⟩)] w fun e w' => e = .returned (.tuple #[]) ∧ Env B w0 bm l n (put2_F c k room v) (put2_K c k room v) w' := by
  have hz_0 : InI 0 := ini rfl
  have hz_1 : InI 1 := ini rfl
  have hz_2 : InI 2 := ini rfl
  have hz_3 : InI 3 := ini rfl
  have H0 := Lib.hid h
  clear h
  go_enter Try.func56, Try.ntmps56
  have q_m := H0.out.cell m_m
  have q_room := H0.out.cell m_room
  have q_v := H0.out.cell m_v
  go_wp2_with fail
  clear q_m q_room q_v
  refine (math_any ⟨#[43]⟩ room room h_room h_room (by decide) H0.out).mono ?_
  rintro e w1 ⟨rfl, e10⟩
  have e1 : Env B w0 bm l (n + 36) (put2_1 c k room v) k w1 := e10
  have hr1 := InI.vars H0.out
  have H1 := Lib.hid e1
  clear e1 e10
  have q_m := H1.out.cell m_m
  have q_room := H1.out.cell m_room
  have q_v := H1.out.cell m_v
  go_wp2_with fail
  clear q_m q_room q_v
  refine (konst_any 3 hz_3 H1.out).mono ?_
  rintro e w2 ⟨rfl, e20⟩
  have e2 : Env B w0 bm l (n + 34) (put2_2 c k room v) k w2 := e20
  have hr2 := InI.vars H1.out
  have H2 := Lib.hid e2
  clear e2 e20
  have hS := keep3 m_m m_room m_v H2.out.x
  go_wp2_with fail
  go_region_held3 (fun w' => (w'.cell? ⟨b_m, 0, none⟩ = some (.pointer (some ⟨bm, 0, none⟩)) ∧ w'.cell? ⟨b_room, 0, none⟩ = some (.int .i64 room) ∧ w'.cell? ⟨b_v, 0, none⟩ = some (.int .i64 v)) ∧ EnvX B w0 bm l w')
    (first | exact hS | exact keep3 m_m m_room m_v H2.out.x.drew | exact keep3 m_m m_room m_v (Env.x (by assumption)) | exact keep3 m_m m_room m_v (EnvX.drew (And.right (by assumption))) | exact keep3 m_m m_room m_v (EnvX.alloc (Env.x (by assumption)) _) | exact keep3 m_m m_room m_v (EnvX.alloc (And.right (by assumption)) _))
    (first | (go_at_call 31; (refine (math_any ⟨#[42]⟩ c.vars (put2_1 c k room v).vars hr1 hr2 (by decide) H2.out.drew).mono ?_); rintro e w3 ⟨rfl, e30⟩; have e3 : Env B w0 bm l (n + 32) (put2_3 c k room v) k w3 := e30; clear e30) | (go_at_call 32; (refine (alloc_any (put2_2 c k room v).vars (InI.vars H2.out) e3).mono ?_); rintro e w4 ⟨rfl, e40⟩; have e4 : Env B w0 bm l (n + 30) (put2_4 c k room v) k w4 := e40; clear e40))
  all_goals
    have hr3 := InI.vars H2.out
    have hr4 := InI.vars e3
    have H4 := Lib.hid e4
    clear hS
    have hS := keep3 m_m m_room m_v H4.out.x
    go_wp2_with fail
    go_region_held3 (fun w' => (w'.cell? ⟨b_m, 0, none⟩ = some (.pointer (some ⟨bm, 0, none⟩)) ∧ w'.cell? ⟨b_room, 0, none⟩ = some (.int .i64 room) ∧ w'.cell? ⟨b_v, 0, none⟩ = some (.int .i64 v)) ∧ EnvX B w0 bm l w')
      (first | exact hS | exact keep3 m_m m_room m_v H4.out.x.drew | exact keep3 m_m m_room m_v (Env.x (by assumption)) | exact keep3 m_m m_room m_v (EnvX.drew (And.right (by assumption))) | exact keep3 m_m m_room m_v (EnvX.alloc (Env.x (by assumption)) _) | exact keep3 m_m m_room m_v (EnvX.alloc (And.right (by assumption)) _))
      (first | (go_at_call 40; (refine (load_any 0 2 hz_0 hz_2 H4.out.drew).mono ?_); rintro e w5 ⟨rfl, e50⟩; have e5 : Env B w0 bm l (n + 28) (put2_5 c k room v) k w5 := e50; clear e50) | (go_at_call 31; (refine (math_any ⟨#[42]⟩ v (put2_1 c k room v).vars h_v hr2 (by decide) e5).mono ?_); rintro e w6 ⟨rfl, e60⟩; have e6 : Env B w0 bm l (n + 26) (put2_6 c k room v) k w6 := e60; clear e60) | (go_at_call 33; (refine (copy_any hr4 (InI.vars H4.out) (InI.vars e5) e6).mono ?_); rintro e w7 ⟨rfl, e70⟩; have e7 : Env B w0 bm l (n + 2) (put2_7 c k room v) ((put2_6 c k room v).blocks.length + 2) w7 := e70; clear e70))
    all_goals
      have hr5 := InI.vars H4.out
      have hr6 := InI.vars e5
      have H7 := Lib.hid e7
      clear hS
      have q_m := H7.out.cell m_m
      have q_room := H7.out.cell m_room
      have q_v := H7.out.cell m_v
      go_wp2_with fail
      clear q_m q_room q_v
      refine (store_any 0 1 c.vars hz_0 hz_1 hr1 H7.out).mono ?_
      rintro e w8 ⟨rfl, e80⟩
      have e8 : Env B w0 bm l (n + 1) (put2_8 c k room v) ((put2_6 c k room v).blocks.length + 2) w8 := e80
      have H8 := Lib.hid e8
      clear e8 e80
      have q_m := H8.out.cell m_m
      have q_room := H8.out.cell m_room
      have q_v := H8.out.cell m_v
      go_wp2_with fail
      clear q_m q_room q_v
      refine (store_any 0 2 (put2_3 c k room v).vars hz_0 hz_2 hr4 H8.out).mono ?_
      rintro e w9 ⟨rfl, e90⟩
      have e9 : Env B w0 bm l n (put2_9 c k room v) ((put2_6 c k room v).blocks.length + 2) w9 := e90
      have H9 := Lib.hid e9
      clear e9 e90
      go_wp2_with fail
      exact bodyPost_end (results_none (by kernel_rfl) _ _ _) rfl ⟨rfl, H9.out⟩
def drop1_1 (c : PCode) (k : Nat) : PCode := backF c k []
theorem drop1_1_len (c : PCode) (k : Nat) : (drop1_1 c k).blocks.length = c.blocks.length + 0 := by
  simp only [drop1_1, mathF_len, konstF_len, loadF_len, allocF_len, setF_len, storeF_len, backF_len, freshF_len, copyF_len, whenOut_len, whenIn_len, countOut_len, countIn_len] <;> try omega
def drop1_F (c : PCode) (k : Nat) : PCode := (drop1_1 c k)
def drop1_K (c : PCode) (k : Nat) : Nat := k
theorem drop1_len (c : PCode) (k : Nat) : (drop1_F c k).blocks.length = c.blocks.length + 0 := drop1_1_len c k
theorem enters_drop1 : Enters Try.prog 57 := enters_of Try.func57 (by kernel_rfl) (by kernel_rfl)
set_option maxHeartbeats 8000000 in
theorem drop1_any {b_m : Nat} (m_m : (b_m, 0, Value.pointer (some ⟨bm, 0, none⟩)) ∈ l) (h : Env B w0 bm l (n + 1) c k w) :
    Calls Try.prog 57 #[.pointer (some ⟨b_m, 0, none⟩)] w fun e w' => e = .returned (.tuple #[]) ∧ Env B w0 bm l n (drop1_F c k) (drop1_K c k) w' := by
  have H0 := Lib.hid h
  clear h
  go_enter Try.func57, Try.ntmps57
  have q_m := H0.out.cell m_m
  go_wp2_with fail
  clear q_m
  refine (back_any H0.out (Below.refl _ _) (rSlice_nil _ _ _ _)).mono ?_
  rintro e w1 ⟨rfl, e10⟩
  have e1 : Env B w0 bm l n (drop1_1 c k) k w1 := e10
  have H1 := Lib.hid e1
  clear e1 e10
  go_wp2_with fail
  exact bodyPost_end (results_none (by kernel_rfl) _ _ _) rfl ⟨rfl, H1.out⟩
def char1_1 (c : PCode) (k : Nat) (b : Int) : PCode := konstF c k 1
theorem char1_1_len (c : PCode) (k : Nat) (b : Int) : (char1_1 c k b).blocks.length = c.blocks.length + 0 := by
  simp only [char1_1, mathF_len, konstF_len, loadF_len, allocF_len, setF_len, storeF_len, backF_len, freshF_len, copyF_len, whenOut_len, whenIn_len, countOut_len, countIn_len] <;> try omega
def char1_2 (c : PCode) (k : Nat) (b : Int) : PCode := backF (char1_1 c k b) k [b, c.vars]
theorem char1_2_len (c : PCode) (k : Nat) (b : Int) : (char1_2 c k b).blocks.length = c.blocks.length + 0 := by
  simp only [char1_2, mathF_len, konstF_len, loadF_len, allocF_len, setF_len, storeF_len, backF_len, freshF_len, copyF_len, whenOut_len, whenIn_len, countOut_len, countIn_len, char1_1_len] <;> try omega
def char1_F (c : PCode) (k : Nat) (b : Int) : PCode := (char1_2 c k b)
def char1_K (c : PCode) (k : Nat) (b : Int) : Nat := k
theorem char1_len (c : PCode) (k : Nat) (b : Int) : (char1_F c k b).blocks.length = c.blocks.length + 0 := char1_2_len c k b
theorem enters_char1 : Enters Try.prog 58 := enters_of Try.func58 (by kernel_rfl) (by kernel_rfl)
set_option maxHeartbeats 8000000 in
theorem char1_any {b_m b_b : Nat} {b : Int} (h_b : InI b) (m_m : (b_m, 0, Value.pointer (some ⟨bm, 0, none⟩)) ∈ l) (m_b : (b_b, 0, Value.int .i64 b) ∈ l) (h : Env B w0 bm l (n + 3) c k w) :
    Calls Try.prog 58 #[.pointer (some ⟨b_m, 0, none⟩), .pointer (some ⟨b_b, 0, none⟩)] w fun e w' => e = .returned (.tuple #[]) ∧ Env B w0 bm l n (char1_F c k b) (char1_K c k b) w' := by
  have hz_1 : InI 1 := ini rfl
  have H0 := Lib.hid h
  clear h
  go_enter Try.func58, Try.ntmps58
  have hS := keep2 m_m m_b H0.out.x
  go_wp2_with fail
  go_region_held3 (fun w' => (w'.cell? ⟨b_m, 0, none⟩ = some (.pointer (some ⟨bm, 0, none⟩)) ∧ w'.cell? ⟨b_b, 0, none⟩ = some (.int .i64 b)) ∧ EnvX B w0 bm l w')
    (first | exact hS | exact keep2 m_m m_b H0.out.x.drew | exact keep2 m_m m_b (Env.x (by assumption)) | exact keep2 m_m m_b (EnvX.drew (And.right (by assumption))) | exact keep2 m_m m_b (EnvX.alloc (Env.x (by assumption)) _) | exact keep2 m_m m_b (EnvX.alloc (And.right (by assumption)) _))
    (first | (go_at_call 35; (refine (konst_any 1 hz_1 H0.out.drew).mono ?_); rintro e w1 ⟨rfl, e10⟩; have e1 : Env B w0 bm l (n + 1) (char1_1 c k b) k w1 := e10; clear e10) | (go_at_call 34; (refine (back_any e1 ((Below.refl _ _).alloc (Nat.le_refl _) _) (rInts_all [b, c.vars] (Nat.le_refl _) (lens rfl) (ini2 h_b (InI.vars H0.out)) (new_one _ _))).mono ?_); rintro e w2 ⟨rfl, e20⟩; have e2 : Env B w0 bm l n (char1_2 c k b) k w2 := e20; clear e20))
  all_goals
    have hr1 := InI.vars H0.out
    have H2 := Lib.hid e2
    clear hS
    go_wp2_with fail
    exact bodyPost_end (results_none (by kernel_rfl) _ _ _) rfl ⟨rfl, H2.out⟩
end Go.Proofs.Ytaomlfbcfmmhlaa

/-
  rt's bad, tail, walked (printed by wip/gen_rtfn.py).
-/
namespace Go.Proofs.Ytaomlfbcfmmhlaa
open Go.RowKit Go.Pst
set_option linter.unusedVariables false
set_option linter.unusedSimpArgs false

variable {B bm n k : Nat} {w0 w : World} {l : List (Nat × Nat × Value)} {c : PCode}
theorem keep4 {b1 b2 b3 b4 : Nat} {v1 v2 v3 v4 : Value} (h1 : (b1, 0, v1) ∈ l) (h2 : (b2, 0, v2) ∈ l) (h3 : (b3, 0, v3) ∈ l) (h4 : (b4, 0, v4) ∈ l) (hx : EnvX B w0 bm l w) : (w.cell? ⟨b1, 0, none⟩ = some v1 ∧ w.cell? ⟨b2, 0, none⟩ = some v2 ∧ w.cell? ⟨b3, 0, none⟩ = some v3 ∧ w.cell? ⟨b4, 0, none⟩ = some v4) ∧ EnvX B w0 bm l w := ⟨⟨hx.cell h1, hx.cell h2, hx.cell h3, hx.cell h4⟩, hx⟩
theorem keep5 {b1 b2 b3 b4 b5 : Nat} {v1 v2 v3 v4 v5 : Value} (h1 : (b1, 0, v1) ∈ l) (h2 : (b2, 0, v2) ∈ l) (h3 : (b3, 0, v3) ∈ l) (h4 : (b4, 0, v4) ∈ l) (h5 : (b5, 0, v5) ∈ l) (hx : EnvX B w0 bm l w) : (w.cell? ⟨b1, 0, none⟩ = some v1 ∧ w.cell? ⟨b2, 0, none⟩ = some v2 ∧ w.cell? ⟨b3, 0, none⟩ = some v3 ∧ w.cell? ⟨b4, 0, none⟩ = some v4 ∧ w.cell? ⟨b5, 0, none⟩ = some v5) ∧ EnvX B w0 bm l w := ⟨⟨hx.cell h1, hx.cell h2, hx.cell h3, hx.cell h4, hx.cell h5⟩, hx⟩
theorem keep6 {b1 b2 b3 b4 b5 b6 : Nat} {v1 v2 v3 v4 v5 v6 : Value} (h1 : (b1, 0, v1) ∈ l) (h2 : (b2, 0, v2) ∈ l) (h3 : (b3, 0, v3) ∈ l) (h4 : (b4, 0, v4) ∈ l) (h5 : (b5, 0, v5) ∈ l) (h6 : (b6, 0, v6) ∈ l) (hx : EnvX B w0 bm l w) : (w.cell? ⟨b1, 0, none⟩ = some v1 ∧ w.cell? ⟨b2, 0, none⟩ = some v2 ∧ w.cell? ⟨b3, 0, none⟩ = some v3 ∧ w.cell? ⟨b4, 0, none⟩ = some v4 ∧ w.cell? ⟨b5, 0, none⟩ = some v5 ∧ w.cell? ⟨b6, 0, none⟩ = some v6) ∧ EnvX B w0 bm l w := ⟨⟨hx.cell h1, hx.cell h2, hx.cell h3, hx.cell h4, hx.cell h5, hx.cell h6⟩, hx⟩
def bad_1 (c : PCode) (k : Nat) : PCode := konstF c k 65533
theorem bad_1_len (c : PCode) (k : Nat) : (bad_1 c k).blocks.length = c.blocks.length + 0 := by
  simp only [bad_1, mathF_len, konstF_len, loadF_len, allocF_len, setF_len, storeF_len, backF_len, freshF_len, copyF_len, whenOut_len, whenIn_len, countOut_len, countIn_len] <;> try omega
def bad_2 (c : PCode) (k : Nat) : PCode := konstF (bad_1 c k) k 1
theorem bad_2_len (c : PCode) (k : Nat) : (bad_2 c k).blocks.length = c.blocks.length + 0 := by
  simp only [bad_2, mathF_len, konstF_len, loadF_len, allocF_len, setF_len, storeF_len, backF_len, freshF_len, copyF_len, whenOut_len, whenIn_len, countOut_len, countIn_len, bad_1_len] <;> try omega
def bad_3 (c : PCode) (k : Nat) : PCode := backF (bad_2 c k) k [c.vars, (bad_1 c k).vars]
theorem bad_3_len (c : PCode) (k : Nat) : (bad_3 c k).blocks.length = c.blocks.length + 0 := by
  simp only [bad_3, mathF_len, konstF_len, loadF_len, allocF_len, setF_len, storeF_len, backF_len, freshF_len, copyF_len, whenOut_len, whenIn_len, countOut_len, countIn_len, bad_2_len] <;> try omega
def bad_F (c : PCode) (k : Nat) : PCode := (bad_3 c k)
def bad_K (c : PCode) (k : Nat) : Nat := k
theorem bad_len (c : PCode) (k : Nat) : (bad_F c k).blocks.length = c.blocks.length + 0 := bad_3_len c k
theorem enters_bad : Enters Try.prog 60 := enters_of Try.func60 (by kernel_rfl) (by kernel_rfl)
set_option maxHeartbeats 8000000 in
theorem bad_any (h : Env B w0 bm l (n + 5) c k w) :
    Calls Try.prog 60 #[.pointer (some ⟨bm, 0, none⟩)] w fun e w' => e = .returned (.tuple #[]) ∧ Env B w0 bm l n (bad_F c k) (bad_K c k) w' := by
  have hz_1 : InI 1 := ini rfl
  have hz_65533 : InI 65533 := ini rfl
  have H0 := Lib.hid h
  clear h
  go_enter Try.func60, Try.ntmps60
  go_wp2_with fail
  refine (konst_any 65533 hz_65533 H0.out).mono ?_
  rintro e w1 ⟨rfl, e10⟩
  have e1 : Env B w0 bm l (n + 3) (bad_1 c k) k w1 := e10
  have hr1 := InI.vars H0.out
  have H1 := Lib.hid e1
  clear e1 e10
  go_wp2_with fail
  refine (konst_any 1 hz_1 H1.out).mono ?_
  rintro e w2 ⟨rfl, e20⟩
  have e2 : Env B w0 bm l (n + 1) (bad_2 c k) k w2 := e20
  have hr2 := InI.vars H1.out
  have H2 := Lib.hid e2
  clear e2 e20
  go_wp2_with fail
  refine (back_any H2.out ((Below.refl _ _).alloc (Nat.le_refl _) _) (rInts_all [c.vars, (bad_1 c k).vars] (Nat.le_refl _) (lens rfl) (ini2 hr1 hr2) (new_one _ _))).mono ?_
  rintro e w3 ⟨rfl, e30⟩
  have e3 : Env B w0 bm l n (bad_3 c k) k w3 := e30
  have H3 := Lib.hid e3
  clear e3 e30
  go_wp2_with fail
  exact bodyPost_end (results_none (by kernel_rfl) _ _ _) rfl ⟨rfl, H3.out⟩
def tail_1 (c : PCode) (k : Nat) (i : Int) (low : Int) (high : Int) : PCode := konstF c k i
theorem tail_1_len (c : PCode) (k : Nat) (i : Int) (low : Int) (high : Int) : (tail_1 c k i low high).blocks.length = c.blocks.length + 0 := by
  simp only [tail_1, mathF_len, konstF_len, loadF_len, allocF_len, setF_len, storeF_len, backF_len, freshF_len, copyF_len, whenOut_len, whenIn_len, countOut_len, countIn_len] <;> try omega
def tail_2 (c : PCode) (k : Nat) (i : Int) (low : Int) (high : Int) : PCode := mathF (tail_1 c k i low high) k ⟨#[43]⟩ 2 c.vars
theorem tail_2_len (c : PCode) (k : Nat) (i : Int) (low : Int) (high : Int) : (tail_2 c k i low high).blocks.length = c.blocks.length + 0 := by
  simp only [tail_2, mathF_len, konstF_len, loadF_len, allocF_len, setF_len, storeF_len, backF_len, freshF_len, copyF_len, whenOut_len, whenIn_len, countOut_len, countIn_len, tail_1_len] <;> try omega
def tail_3 (c : PCode) (k : Nat) (i : Int) (low : Int) (high : Int) : PCode := mathF (tail_2 c k i low high) k ⟨#[62, 61]⟩ (tail_1 c k i low high).vars 1
theorem tail_3_len (c : PCode) (k : Nat) (i : Int) (low : Int) (high : Int) : (tail_3 c k i low high).blocks.length = c.blocks.length + 0 := by
  simp only [tail_3, mathF_len, konstF_len, loadF_len, allocF_len, setF_len, storeF_len, backF_len, freshF_len, copyF_len, whenOut_len, whenIn_len, countOut_len, countIn_len, tail_2_len] <;> try omega
def tail_4 (c : PCode) (k : Nat) (i : Int) (low : Int) (high : Int) : PCode := whenOut (bad_F (whenIn (tail_3 c k i low high) k (tail_2 c k i low high).vars) (tail_3 c k i low high).blocks.length) (bad_K (whenIn (tail_3 c k i low high) k (tail_2 c k i low high).vars) (tail_3 c k i low high).blocks.length) (((tail_3 c k i low high).blocks.length : Int) + 1)
theorem tail_4_len (c : PCode) (k : Nat) (i : Int) (low : Int) (high : Int) : (tail_4 c k i low high).blocks.length = c.blocks.length + 2 := by
  simp only [tail_4, mathF_len, konstF_len, loadF_len, allocF_len, setF_len, storeF_len, backF_len, freshF_len, copyF_len, whenOut_len, whenIn_len, countOut_len, countIn_len, bad_len, tail_3_len] <;> try omega
def tail_5 (c : PCode) (k : Nat) (i : Int) (low : Int) (high : Int) : PCode := mathF (tail_4 c k i low high) ((tail_3 c k i low high).blocks.length + 1) ⟨#[43]⟩ 0 (tail_1 c k i low high).vars
theorem tail_5_len (c : PCode) (k : Nat) (i : Int) (low : Int) (high : Int) : (tail_5 c k i low high).blocks.length = c.blocks.length + 2 := by
  simp only [tail_5, mathF_len, konstF_len, loadF_len, allocF_len, setF_len, storeF_len, backF_len, freshF_len, copyF_len, whenOut_len, whenIn_len, countOut_len, countIn_len, tail_4_len] <;> try omega
def tail_6 (c : PCode) (k : Nat) (i : Int) (low : Int) (high : Int) : PCode := loadF (tail_5 c k i low high) ((tail_3 c k i low high).blocks.length + 1) (tail_4 c k i low high).vars 0
theorem tail_6_len (c : PCode) (k : Nat) (i : Int) (low : Int) (high : Int) : (tail_6 c k i low high).blocks.length = c.blocks.length + 2 := by
  simp only [tail_6, mathF_len, konstF_len, loadF_len, allocF_len, setF_len, storeF_len, backF_len, freshF_len, copyF_len, whenOut_len, whenIn_len, countOut_len, countIn_len, tail_5_len] <;> try omega
def tail_7 (c : PCode) (k : Nat) (i : Int) (low : Int) (high : Int) : PCode := konstF (tail_6 c k i low high) ((tail_3 c k i low high).blocks.length + 1) low
theorem tail_7_len (c : PCode) (k : Nat) (i : Int) (low : Int) (high : Int) : (tail_7 c k i low high).blocks.length = c.blocks.length + 2 := by
  simp only [tail_7, mathF_len, konstF_len, loadF_len, allocF_len, setF_len, storeF_len, backF_len, freshF_len, copyF_len, whenOut_len, whenIn_len, countOut_len, countIn_len, tail_6_len] <;> try omega
def tail_8 (c : PCode) (k : Nat) (i : Int) (low : Int) (high : Int) : PCode := mathF (tail_7 c k i low high) ((tail_3 c k i low high).blocks.length + 1) ⟨#[60]⟩ (tail_5 c k i low high).vars (tail_6 c k i low high).vars
theorem tail_8_len (c : PCode) (k : Nat) (i : Int) (low : Int) (high : Int) : (tail_8 c k i low high).blocks.length = c.blocks.length + 2 := by
  simp only [tail_8, mathF_len, konstF_len, loadF_len, allocF_len, setF_len, storeF_len, backF_len, freshF_len, copyF_len, whenOut_len, whenIn_len, countOut_len, countIn_len, tail_7_len] <;> try omega
def tail_9 (c : PCode) (k : Nat) (i : Int) (low : Int) (high : Int) : PCode := whenOut (bad_F (whenIn (tail_8 c k i low high) ((tail_3 c k i low high).blocks.length + 1) (tail_7 c k i low high).vars) (tail_8 c k i low high).blocks.length) (bad_K (whenIn (tail_8 c k i low high) ((tail_3 c k i low high).blocks.length + 1) (tail_7 c k i low high).vars) (tail_8 c k i low high).blocks.length) (((tail_8 c k i low high).blocks.length : Int) + 1)
theorem tail_9_len (c : PCode) (k : Nat) (i : Int) (low : Int) (high : Int) : (tail_9 c k i low high).blocks.length = c.blocks.length + 4 := by
  simp only [tail_9, mathF_len, konstF_len, loadF_len, allocF_len, setF_len, storeF_len, backF_len, freshF_len, copyF_len, whenOut_len, whenIn_len, countOut_len, countIn_len, bad_len, tail_8_len] <;> try omega
def tail_10 (c : PCode) (k : Nat) (i : Int) (low : Int) (high : Int) : PCode := konstF (tail_9 c k i low high) ((tail_8 c k i low high).blocks.length + 1) high
theorem tail_10_len (c : PCode) (k : Nat) (i : Int) (low : Int) (high : Int) : (tail_10 c k i low high).blocks.length = c.blocks.length + 4 := by
  simp only [tail_10, mathF_len, konstF_len, loadF_len, allocF_len, setF_len, storeF_len, backF_len, freshF_len, copyF_len, whenOut_len, whenIn_len, countOut_len, countIn_len, tail_9_len] <;> try omega
def tail_11 (c : PCode) (k : Nat) (i : Int) (low : Int) (high : Int) : PCode := mathF (tail_10 c k i low high) ((tail_8 c k i low high).blocks.length + 1) ⟨#[62]⟩ (tail_5 c k i low high).vars (tail_9 c k i low high).vars
theorem tail_11_len (c : PCode) (k : Nat) (i : Int) (low : Int) (high : Int) : (tail_11 c k i low high).blocks.length = c.blocks.length + 4 := by
  simp only [tail_11, mathF_len, konstF_len, loadF_len, allocF_len, setF_len, storeF_len, backF_len, freshF_len, copyF_len, whenOut_len, whenIn_len, countOut_len, countIn_len, tail_10_len] <;> try omega
def tail_12 (c : PCode) (k : Nat) (i : Int) (low : Int) (high : Int) : PCode := whenOut (bad_F (whenIn (tail_11 c k i low high) ((tail_8 c k i low high).blocks.length + 1) (tail_10 c k i low high).vars) (tail_11 c k i low high).blocks.length) (bad_K (whenIn (tail_11 c k i low high) ((tail_8 c k i low high).blocks.length + 1) (tail_10 c k i low high).vars) (tail_11 c k i low high).blocks.length) (((tail_11 c k i low high).blocks.length : Int) + 1)
theorem tail_12_len (c : PCode) (k : Nat) (i : Int) (low : Int) (high : Int) : (tail_12 c k i low high).blocks.length = c.blocks.length + 6 := by
  simp only [tail_12, mathF_len, konstF_len, loadF_len, allocF_len, setF_len, storeF_len, backF_len, freshF_len, copyF_len, whenOut_len, whenIn_len, countOut_len, countIn_len, bad_len, tail_11_len] <;> try omega
def tail_13 (c : PCode) (k : Nat) (i : Int) (low : Int) (high : Int) : PCode := konstF (tail_12 c k i low high) ((tail_11 c k i low high).blocks.length + 1) 128
theorem tail_13_len (c : PCode) (k : Nat) (i : Int) (low : Int) (high : Int) : (tail_13 c k i low high).blocks.length = c.blocks.length + 6 := by
  simp only [tail_13, mathF_len, konstF_len, loadF_len, allocF_len, setF_len, storeF_len, backF_len, freshF_len, copyF_len, whenOut_len, whenIn_len, countOut_len, countIn_len, tail_12_len] <;> try omega
def tail_14 (c : PCode) (k : Nat) (i : Int) (low : Int) (high : Int) : PCode := mathF (tail_13 c k i low high) ((tail_11 c k i low high).blocks.length + 1) ⟨#[45]⟩ (tail_5 c k i low high).vars (tail_12 c k i low high).vars
theorem tail_14_len (c : PCode) (k : Nat) (i : Int) (low : Int) (high : Int) : (tail_14 c k i low high).blocks.length = c.blocks.length + 6 := by
  simp only [tail_14, mathF_len, konstF_len, loadF_len, allocF_len, setF_len, storeF_len, backF_len, freshF_len, copyF_len, whenOut_len, whenIn_len, countOut_len, countIn_len, tail_13_len] <;> try omega
def tail_F (c : PCode) (k : Nat) (i : Int) (low : Int) (high : Int) : PCode := (tail_14 c k i low high)
def tail_K (c : PCode) (k : Nat) (i : Int) (low : Int) (high : Int) : Nat := ((tail_11 c k i low high).blocks.length + 1)
theorem tail_len (c : PCode) (k : Nat) (i : Int) (low : Int) (high : Int) : (tail_F c k i low high).blocks.length = c.blocks.length + 6 := tail_14_len c k i low high
theorem enters_tail : Enters Try.prog 74 := enters_of Try.func74 (by kernel_rfl) (by kernel_rfl)
set_option maxHeartbeats 8000000 in
theorem tail_any {i low high : Int} (h_i : InI i) (h_low : InI low) (h_high : InI high) (h : Env B w0 bm l (n + 49) c k w) :
    Calls Try.prog 74 #[.pointer (some ⟨bm, 0, none⟩), .int .i64 i, .int .i64 low, .int .i64 high] w fun e w' => e = .returned (.int .i64 (tail_13 c k i low high).vars) ∧ InI (tail_13 c k i low high).vars ∧ Env B w0 bm l n (tail_F c k i low high) (tail_K c k i low high) w' := by
  have hz_0 : InI 0 := ini rfl
  have hz_1 : InI 1 := ini rfl
  have hz_128 : InI 128 := ini rfl
  have hz_2 : InI 2 := ini rfl
  have H0 := Lib.hid h
  clear h
  go_enter Try.func74, Try.ntmps74
  go_wp2_with fail
  refine (konst_any i h_i H0.out).mono ?_
  rintro e w1 ⟨rfl, e10⟩
  have e1 : Env B w0 bm l (n + 47) (tail_1 c k i low high) k w1 := e10
  have hr1 := InI.vars H0.out
  have H1 := Lib.hid e1
  clear e1 e10
  go_wp2_with fail
  refine (math_any ⟨#[43]⟩ 2 c.vars hz_2 hr1 (by decide) H1.out).mono ?_
  rintro e w2 ⟨rfl, e20⟩
  have e2 : Env B w0 bm l (n + 45) (tail_2 c k i low high) k w2 := e20
  have hr2 := InI.vars H1.out
  have H2 := Lib.hid e2
  clear e2 e20
  go_wp2_with fail
  refine (math_any ⟨#[62, 61]⟩ (tail_1 c k i low high).vars 1 hr2 hz_1 (by decide) H2.out).mono ?_
  rintro e w3 ⟨rfl, e30⟩
  have e3 : Env B w0 bm l (n + 43) (tail_3 c k i low high) k w3 := e30
  have hr3 := InI.vars H2.out
  have H3 := Lib.hid e3
  clear e3 e30
  go_wp2_with fail
  refine (when_any (ba := #[.pointer (some ⟨bm, 0, none⟩)]) (m := n + 40) (n := n + 34) (c3 := bad_F (whenIn (tail_3 c k i low high) k (tail_2 c k i low high).vars) (tail_3 c k i low high).blocks.length) (k3 := bad_K (whenIn (tail_3 c k i low high) k (tail_2 c k i low high).vars) (tail_3 c k i low high).blocks.length) hr3 enters_bad H3.out (fun w2 e2 => by exact bad_any e2) (by rw [bad_len, whenIn_len]; omega)).mono ?_
  rintro e w4 ⟨rfl, e40⟩
  have e4 : Env B w0 bm l (n + 34) (tail_4 c k i low high) ((tail_3 c k i low high).blocks.length + 1) w4 := e40
  have H4 := Lib.hid e4
  clear e4 e40
  go_wp2_with fail
  refine (math_any ⟨#[43]⟩ 0 (tail_1 c k i low high).vars hz_0 hr2 (by decide) H4.out).mono ?_
  rintro e w5 ⟨rfl, e50⟩
  have e5 : Env B w0 bm l (n + 32) (tail_5 c k i low high) ((tail_3 c k i low high).blocks.length + 1) w5 := e50
  have hr5 := InI.vars H4.out
  have H5 := Lib.hid e5
  clear e5 e50
  go_wp2_with fail
  refine (load_any (tail_4 c k i low high).vars 0 hr5 hz_0 H5.out).mono ?_
  rintro e w6 ⟨rfl, e60⟩
  have e6 : Env B w0 bm l (n + 30) (tail_6 c k i low high) ((tail_3 c k i low high).blocks.length + 1) w6 := e60
  have hr6 := InI.vars H5.out
  have H6 := Lib.hid e6
  clear e6 e60
  go_wp2_with fail
  refine (konst_any low h_low H6.out).mono ?_
  rintro e w7 ⟨rfl, e70⟩
  have e7 : Env B w0 bm l (n + 28) (tail_7 c k i low high) ((tail_3 c k i low high).blocks.length + 1) w7 := e70
  have hr7 := InI.vars H6.out
  have H7 := Lib.hid e7
  clear e7 e70
  go_wp2_with fail
  refine (math_any ⟨#[60]⟩ (tail_5 c k i low high).vars (tail_6 c k i low high).vars hr6 hr7 (by decide) H7.out).mono ?_
  rintro e w8 ⟨rfl, e80⟩
  have e8 : Env B w0 bm l (n + 26) (tail_8 c k i low high) ((tail_3 c k i low high).blocks.length + 1) w8 := e80
  have hr8 := InI.vars H7.out
  have H8 := Lib.hid e8
  clear e8 e80
  go_wp2_with fail
  refine (when_any (ba := #[.pointer (some ⟨bm, 0, none⟩)]) (m := n + 23) (n := n + 17) (c3 := bad_F (whenIn (tail_8 c k i low high) ((tail_3 c k i low high).blocks.length + 1) (tail_7 c k i low high).vars) (tail_8 c k i low high).blocks.length) (k3 := bad_K (whenIn (tail_8 c k i low high) ((tail_3 c k i low high).blocks.length + 1) (tail_7 c k i low high).vars) (tail_8 c k i low high).blocks.length) hr8 enters_bad H8.out (fun w2 e2 => by exact bad_any e2) (by rw [bad_len, whenIn_len]; omega)).mono ?_
  rintro e w9 ⟨rfl, e90⟩
  have e9 : Env B w0 bm l (n + 17) (tail_9 c k i low high) ((tail_8 c k i low high).blocks.length + 1) w9 := e90
  have H9 := Lib.hid e9
  clear e9 e90
  go_wp2_with fail
  refine (konst_any high h_high H9.out).mono ?_
  rintro e w10 ⟨rfl, e100⟩
  have e10 : Env B w0 bm l (n + 15) (tail_10 c k i low high) ((tail_8 c k i low high).blocks.length + 1) w10 := e100
  have hr10 := InI.vars H9.out
  have H10 := Lib.hid e10
  clear e10 e100
  go_wp2_with fail
  refine (math_any ⟨#[62]⟩ (tail_5 c k i low high).vars (tail_9 c k i low high).vars hr6 hr10 (by decide) H10.out).mono ?_
  rintro e w11 ⟨rfl, e110⟩
  have e11 : Env B w0 bm l (n + 13) (tail_11 c k i low high) ((tail_8 c k i low high).blocks.length + 1) w11 := e110
  have hr11 := InI.vars H10.out
  have H11 := Lib.hid e11
  clear e11 e110
  go_wp2_with fail
  refine (when_any (ba := #[.pointer (some ⟨bm, 0, none⟩)]) (m := n + 10) (n := n + 4) (c3 := bad_F (whenIn (tail_11 c k i low high) ((tail_8 c k i low high).blocks.length + 1) (tail_10 c k i low high).vars) (tail_11 c k i low high).blocks.length) (k3 := bad_K (whenIn (tail_11 c k i low high) ((tail_8 c k i low high).blocks.length + 1) (tail_10 c k i low high).vars) (tail_11 c k i low high).blocks.length) hr11 enters_bad H11.out (fun w2 e2 => by exact bad_any e2) (by rw [bad_len, whenIn_len]; omega)).mono ?_
  rintro e w12 ⟨rfl, e120⟩
  have e12 : Env B w0 bm l (n + 4) (tail_12 c k i low high) ((tail_11 c k i low high).blocks.length + 1) w12 := e120
  have H12 := Lib.hid e12
  clear e12 e120
  go_wp2_with fail
  refine (konst_any 128 hz_128 H12.out).mono ?_
  rintro e w13 ⟨rfl, e130⟩
  have e13 : Env B w0 bm l (n + 2) (tail_13 c k i low high) ((tail_11 c k i low high).blocks.length + 1) w13 := e130
  have hr13 := InI.vars H12.out
  have H13 := Lib.hid e13
  clear e13 e130
  go_wp2_with fail
  refine (math_any ⟨#[45]⟩ (tail_5 c k i low high).vars (tail_12 c k i low high).vars hr6 hr13 (by decide) H13.out).mono ?_
  rintro e w14 ⟨rfl, e140⟩
  have e14 : Env B w0 bm l n (tail_14 c k i low high) ((tail_11 c k i low high).blocks.length + 1) w14 := e140
  have hr14 := InI.vars H13.out
  have H14 := Lib.hid e14
  clear e14 e140
  go_wp2_with fail
  go_ret
  exact ⟨rfl, hr14, H14.out⟩
end Go.Proofs.Ytaomlfbcfmmhlaa

/-
  rt's long: its innermost closure (a loop over the tails), its closure, and itself, walked.
-/
namespace Go.Proofs.Ytaomlfbcfmmhlaa
open Go.RowKit Go.Pst
set_option linter.unusedVariables false
set_option linter.unusedSimpArgs false

variable {B bm n k : Nat} {w0 w : World} {l : List (Nat × Nat × Value)} {c : PCode}

def baseF (sz : Nat) : Int := [0, 0, 192, 224, 240].getD sz 0
/-- The code, the block, the variable that holds the rune so far. -/
structure LSt where
  c : PCode
  k : Nat
  r : Int
def longStart (c : PCode) (k : Nat) (b : Int) (sz : Nat) : LSt := ⟨mathF (konstF c k (baseF sz)) k ⟨#[45]⟩ b c.vars, k, (konstF c k (baseF sz)).vars⟩
def longA (s : LSt) (i lo hi : Int) : PCode := konstF (tail_F s.c s.k i lo hi) (tail_K s.c s.k i lo hi) 64
def longB (s : LSt) (i lo hi : Int) : PCode := mathF (longA s i lo hi) (tail_K s.c s.k i lo hi) ⟨#[42]⟩ s.r (tail_F s.c s.k i lo hi).vars
def longStep (s : LSt) (i lo hi : Int) : LSt :=
  ⟨mathF (longB s i lo hi) (tail_K s.c s.k i lo hi) ⟨#[43]⟩ (longA s i lo hi).vars (tail_13 s.c s.k i lo hi).vars, tail_K s.c s.k i lo hi, (longB s i lo hi).vars⟩
def longLoop (s : LSt) (first last : Int) : Nat → LSt
  | 0 => s
  | j + 1 => longStep (longLoop s first last j) ((j : Int) + 1) (if j = 0 then first else 128) (if j = 0 then last else 191)
theorem longStart_len (c : PCode) (k : Nat) (b : Int) (sz : Nat) : (longStart c k b sz).c.blocks.length = c.blocks.length := by simp [longStart, mathF_len, konstF_len]
theorem longStep_len (s : LSt) (i lo hi : Int) : (longStep s i lo hi).c.blocks.length = s.c.blocks.length + 6 := by simp [longStep, longA, longB, mathF_len, konstF_len, tail_len]
theorem longLoop_len (s : LSt) (first last : Int) : ∀ j, (longLoop s first last j).c.blocks.length = s.c.blocks.length + 6 * j
  | 0 => rfl
  | j + 1 => by rw [longLoop, longStep_len, longLoop_len s first last j]; omega
def long11_F (c : PCode) (k : Nat) (sz : Nat) (b first last : Int) : PCode :=
  backF (konstF (longLoop (longStart c k b sz) first last (sz - 1)).c (longLoop (longStart c k b sz) first last (sz - 1)).k sz) (longLoop (longStart c k b sz) first last (sz - 1)).k [(longLoop (longStart c k b sz) first last (sz - 1)).r, (longLoop (longStart c k b sz) first last (sz - 1)).c.vars]
def long11_K (c : PCode) (k : Nat) (sz : Nat) (b first last : Int) : Nat := (longLoop (longStart c k b sz) first last (sz - 1)).k
theorem long11_len (c : PCode) (k : Nat) (sz : Nat) (b first last : Int) : (long11_F c k sz b first last).blocks.length = c.blocks.length + 6 * (sz - 1) := by simp [long11_F, backF_len, konstF_len, longLoop_len, longStart_len]

theorem enters_long11 : Enters Try.prog 73 := enters_of Try.func73 (by kernel_rfl) (by kernel_rfl)
set_option maxHeartbeats 8000000 in
theorem long11_any {b_s b_m b_b b_f b_l sz : Nat} {b first last : Int} (hsz : 2 ≤ sz ∧ sz ≤ 4) (h_b : InI b) (h_first : InI first) (h_last : InI last) (m_s : (b_s, 0, Value.int .i64 sz) ∈ l) (m_m : (b_m, 0, Value.pointer (some ⟨bm, 0, none⟩)) ∈ l) (m_b : (b_b, 0, Value.int .i64 b) ∈ l) (m_f : (b_f, 0, Value.int .i64 first) ∈ l) (m_l : (b_l, 0, Value.int .i64 last) ∈ l) (h : Env B w0 bm l (n + 407) c k w) :
    Calls Try.prog 73 #[.pointer (some ⟨b_s, 0, none⟩), .pointer (some ⟨b_m, 0, none⟩), .pointer (some ⟨b_b, 0, none⟩), .pointer (some ⟨b_f, 0, none⟩), .pointer (some ⟨b_l, 0, none⟩)] w fun e w' => e = .returned (.tuple #[]) ∧ Env B w0 bm l n (long11_F c k sz b first last) (long11_K c k sz b first last) w' := by
  have hbase : (w.alloc (.cells #[.int .i64 0, .int .i64 0, .int .i64 192, .int .i64 224, .int .i64 240] 3)).cell? ⟨w.heap.size, sz, none⟩ = some (.int .i64 (baseF sz)) := by
    rw [World.cell?_alloc_new]
    rcases (by omega : sz = 2 ∨ sz = 3 ∨ sz = 4) with rfl | rfl | rfl <;> rfl
  have hbi : InI (baseF sz) := by rcases (by omega : sz = 2 ∨ sz = 3 ∨ sz = 4) with rfl | rfl | rfl <;> exact ini rfl
  have hs5 : (sz : Int) < 5 := by omega
  have hs0 : (0 : Int) ≤ sz := by omega
  have hsi : InI (sz : Int) := ini_small hs0 (by omega)
  have q_s := h.cell m_s
  have l_s := h.lt m_s
  have hA := h.alloc (.cells #[.int .i64 0, .int .i64 0, .int .i64 192, .int .i64 224, .int .i64 240] 3)
  have HA := Lib.hid hA
  clear h hA
  go_enter Try.func73, Try.ntmps73
  go_wp2_with fail
  generalize w.alloc (.cells #[.int .i64 0, .int .i64 0, .int .i64 192, .int .i64 224, .int .i64 240] 3) = wA at *
  clear hbase q_s l_s
  have hz_64 : InI 64 := ini rfl
  have hz_128 : InI 128 := ini rfl
  have hz_191 : InI 191 := ini rfl
  have hS := keep2 m_m m_b HA.out.x
  go_region_held3 (fun w' => (w'.cell? ⟨b_m, 0, none⟩ = some (.pointer (some ⟨bm, 0, none⟩)) ∧ w'.cell? ⟨b_b, 0, none⟩ = some (.int .i64 b)) ∧ EnvX B w0 bm l w')
    (first | exact hS | exact keep2 m_m m_b HA.out.x.drew | exact keep2 m_m m_b (Env.x (by assumption)) | exact keep2 m_m m_b (EnvX.drew (And.right (by assumption))))
    (first | (go_at_call 35; (refine (konst_any (baseF sz) hbi HA.out.drew).mono ?_); rintro e w1 ⟨rfl, e1⟩) | (go_at_call 31; (refine (math_any ⟨#[45]⟩ b c.vars h_b (InI.vars HA.out) (by decide) e1).mono ?_); rintro e w2 ⟨rfl, e20⟩; have e2 : Env B w0 bm l (n + 403) (longStart c k b sz).c (longStart c k b sz).k w2 := e20; clear e20))
  have hri : InI (longStart c k b sz).r := InI.vars e1
  have H2 := Lib.hid e2
  clear e1 e2 hS
  go_wp2_with fail
  obtain ⟨s0, hs0'⟩ : ∃ s0, s0 = longStart c k b sz := ⟨_, rfl⟩
  have Hs0 := Lib.hid hs0'
  rw [← hs0'] at hri H2
  rw [show (konstF c k (baseF sz)).vars = s0.r by rw [hs0']; rfl]
  clear hs0'
  go_loopw [6, 7] (fun r i wr => ∃ j : Nat, j + 1 ≤ sz ∧ i = .int .i64 ((j : Int) + 1) ∧ r = .int .i64 (longLoop s0 first last j).r ∧ InI (longLoop s0 first last j).r ∧ Env B w0 bm l (n + 3 + (sz - 1 - j) * 100) (longLoop s0 first last j).c (longLoop s0 first last j).k wr) (fun _ i _ => sz - (intOf i).toNat)
  case atStart => exact ⟨0, by omega, rfl, rfl, hri, H2.out.weaken (by omega)⟩
  case round =>
    obtain ⟨j, hj, rfl, rfl, hrj, he⟩ := hrel
    have hwk : IntKind.i64.wrap ((j : Int) + 1 + 1) = (j : Int) + 1 + 1 := IntWalk.i64_in _ (by omega)
    have hwj : ((j + 1 : Nat) : Int) = (j : Int) + 1 := by simp
    have q_s := he.cell m_s
    by_cases hlt : j + 1 < sz
    · have hlt1 : (j : Int) + 1 < sz := by omega
      have hii : InI ((j : Int) + 1) := ini_small (by omega) (by omega)
      have he1 : Env B w0 bm l (n + 3 + (sz - 1 - (j + 1)) * 100 + 6 + 49) (longLoop s0 first last j).c (longLoop s0 first last j).k wr := he.weaken (by omega)
      obtain ⟨lo, hi, hlo, hhi, hstep, hways⟩ : ∃ lo hi, InI lo ∧ InI hi ∧ longLoop s0 first last (j + 1) = longStep (longLoop s0 first last j) ((j : Int) + 1) lo hi ∧ ((j = 0 ∧ lo = first ∧ hi = last) ∨ (j ≠ 0 ∧ lo = 128 ∧ hi = 191)) := by
        by_cases h0 : j = 0
        · exact ⟨first, last, h_first, h_last, by simp [longLoop, h0], Or.inl ⟨h0, rfl, rfl⟩⟩
        · exact ⟨128, 191, ini rfl, ini rfl, by simp [longLoop, h0], Or.inr ⟨h0, rfl, rfl⟩⟩
      have Hstep := Lib.hid hstep
      have Hwj := Lib.hid hwj
      clear hstep hwj he
      generalize hL : longLoop s0 first last j = L at *
      have HL := Lib.hid hL
      clear hL
      have HE := Lib.hid he1
      clear he1
      rcases hways with ⟨h0, rfl, rfl⟩ | ⟨h0, rfl, rfl⟩
      · have hone : ((j : Int) + 1 == 1) = true := by simp; omega
        have Hone := Lib.hid h0
        clear h0
        go_wp2_with fail
        have hF := keep2 m_f m_l HE.out.x
        go_region_held3 (fun w' => (w'.cell? ⟨b_f, 0, none⟩ = some (.int .i64 lo) ∧ w'.cell? ⟨b_l, 0, none⟩ = some (.int .i64 hi)) ∧ EnvX B w0 bm l w')
          (first | exact hF | exact keep2 m_f m_l HE.out.x.drew | exact keep2 m_f m_l (EnvX.drew (And.right (by assumption)))) (fail)
        have HD := Lib.hid HE.out.drew
        have q_m := HD.out.cell m_m
        clear hF q_s
        go_wp2_with fail
        refine (tail_any hii hlo hhi HD.out).mono ?_
        rintro e w3 ⟨rfl, hrt, e3⟩
        have H3 := Lib.hid e3
        clear e3 q_m
        go_wp2_with fail
        have hG := keep1 m_m H3.out.x
        go_region_held3 (fun w' => (w'.cell? ⟨b_m, 0, none⟩ = some (.pointer (some ⟨bm, 0, none⟩))) ∧ EnvX B w0 bm l w') (first | exact hG | exact keep1 m_m H3.out.x.drew | exact keep1 m_m (Env.x (by assumption)) | exact keep1 m_m (EnvX.drew (And.right (by assumption)))) (first | (go_at_call 35; (refine (konst_any 64 hz_64 H3.out.drew).mono ?_); rintro e w4 ⟨rfl, e40⟩; have e4 : Env B w0 bm l (n + 3 + (sz - 1 - (j + 1)) * 100 + 4) (longA L ((j : Int) + 1) lo hi) (tail_K L.c L.k ((j : Int) + 1) lo hi) w4 := e40; clear e40) | (go_at_call 31; (with_reducible refine (math_any ⟨#[42]⟩ L.r _ hrj (InI.vars H3.out) (by decide) e4).mono ?_); rintro e w5 ⟨rfl, e50⟩; have e5 : Env B w0 bm l (n + 3 + (sz - 1 - (j + 1)) * 100 + 2) (longB L ((j : Int) + 1) lo hi) (tail_K L.c L.k ((j : Int) + 1) lo hi) w5 := e50; clear e50) | (go_at_call 31; (with_reducible refine (math_any ⟨#[43]⟩ _ _ (InI.vars e4) hrt (by decide) e5).mono ?_); rintro e w6 ⟨rfl, e60⟩; have e6 : Env B w0 bm l (n + 3 + (sz - 1 - (j + 1)) * 100) (longStep L ((j : Int) + 1) lo hi).c (longStep L ((j : Int) + 1) lo hi).k w6 := e60; clear e60))
        all_goals
          have hr6 : InI (longStep L ((j : Int) + 1) lo hi).r := InI.vars e5
          have H6 := Lib.hid e6
          clear hG e6
          go_wp2_with fail
          go_roundw
          case rel => exact ⟨j + 1, by omega, by rw [Hwj.out], by rw [Hstep.out]; rfl, by rw [Hstep.out]; exact hr6, by rw [Hstep.out]; exact H6.out⟩
          case measure => simp only [intOf]; omega
      · have hone : ((j : Int) + 1 == 1) = false := by simp; omega
        have Hone := Lib.hid h0
        have HD := HE
        have q_m := HD.out.cell m_m
        clear h0
        go_wp2_with fail
        refine (tail_any hii hlo hhi HD.out).mono ?_
        rintro e w3 ⟨rfl, hrt, e3⟩
        have H3 := Lib.hid e3
        clear e3 q_m
        go_wp2_with fail
        have hG := keep1 m_m H3.out.x
        go_region_held3 (fun w' => (w'.cell? ⟨b_m, 0, none⟩ = some (.pointer (some ⟨bm, 0, none⟩))) ∧ EnvX B w0 bm l w') (first | exact hG | exact keep1 m_m H3.out.x.drew | exact keep1 m_m (Env.x (by assumption)) | exact keep1 m_m (EnvX.drew (And.right (by assumption)))) (first | (go_at_call 35; (refine (konst_any 64 hz_64 H3.out.drew).mono ?_); rintro e w4 ⟨rfl, e40⟩; have e4 : Env B w0 bm l (n + 3 + (sz - 1 - (j + 1)) * 100 + 4) (longA L ((j : Int) + 1) 128 191) (tail_K L.c L.k ((j : Int) + 1) 128 191) w4 := e40; clear e40) | (go_at_call 31; (with_reducible refine (math_any ⟨#[42]⟩ L.r _ hrj (InI.vars H3.out) (by decide) e4).mono ?_); rintro e w5 ⟨rfl, e50⟩; have e5 : Env B w0 bm l (n + 3 + (sz - 1 - (j + 1)) * 100 + 2) (longB L ((j : Int) + 1) 128 191) (tail_K L.c L.k ((j : Int) + 1) 128 191) w5 := e50; clear e50) | (go_at_call 31; (with_reducible refine (math_any ⟨#[43]⟩ _ _ (InI.vars e4) hrt (by decide) e5).mono ?_); rintro e w6 ⟨rfl, e60⟩; have e6 : Env B w0 bm l (n + 3 + (sz - 1 - (j + 1)) * 100) (longStep L ((j : Int) + 1) 128 191).c (longStep L ((j : Int) + 1) 128 191).k w6 := e60; clear e60))
        all_goals
          have hr6 : InI (longStep L ((j : Int) + 1) 128 191).r := InI.vars e5
          have H6 := Lib.hid e6
          clear hG e6
          go_wp2_with fail
          go_roundw
          case rel => exact ⟨j + 1, by omega, by rw [Hwj.out], by rw [Hstep.out]; rfl, by rw [Hstep.out]; exact hr6, by rw [Hstep.out]; exact H6.out⟩
          case measure => simp only [intOf]; omega
    · have hje : j + 1 = sz := by omega
      have hlt1 : ¬ ((j : Int) + 1 < sz) := by omega
      have hend := he.weaken (m := n + 3) (by omega)
      have e1 : sz - 1 = j := by omega
      have HE := Lib.hid hend
      have HJ := Lib.hid e1
      clear hend he e1 hje
      go_wp2_with fail
      have hG := keep2 m_s m_m HE.out.x
      go_region_held3 (fun w' => (w'.cell? ⟨b_s, 0, none⟩ = some (.int .i64 sz) ∧ w'.cell? ⟨b_m, 0, none⟩ = some (.pointer (some ⟨bm, 0, none⟩))) ∧ EnvX B w0 bm l w') (first | exact hG | exact keep2 m_s m_m HE.out.x.drew | exact keep2 m_s m_m (Env.x (by assumption)) | exact keep2 m_s m_m (EnvX.drew (And.right (by assumption))) | exact keep2 m_s m_m (EnvX.alloc (Env.x (by assumption)) _) | exact keep2 m_s m_m (EnvX.alloc (And.right (by assumption)) _)) (first | (go_at_call 35; (refine (konst_any (sz : Int) hsi HE.out.drew).mono ?_); rintro e w4 ⟨rfl, e4⟩) | (go_at_call 34; (refine (back_any e4 ((Below.refl _ _).alloc (Nat.le_refl _) _) (rInts_all [(longLoop s0 first last j).r, (longLoop s0 first last j).c.vars] (Nat.le_refl _) (lens rfl) (ini2 hrj (InI.vars HE.out)) (new_one _ _))).mono ?_); rintro e w5 ⟨rfl, e5⟩))
      all_goals
        have H5 := Lib.hid e5
        clear hG e5
        go_wp2_with fail
        refine bodyPost_end (results_none (by kernel_rfl) _ _ _) rfl ⟨rfl, ?_⟩
        have hF : long11_F c k sz b first last = backF (konstF (longLoop s0 first last j).c (longLoop s0 first last j).k sz) (longLoop s0 first last j).k [(longLoop s0 first last j).r, (longLoop s0 first last j).c.vars] := by
          unfold long11_F
          rw [HJ.out, Hs0.out]
        have hK : long11_K c k sz b first last = (longLoop s0 first last j).k := by
          unfold long11_K
          rw [HJ.out, Hs0.out]
        rw [hF, hK]
        exact H5.out
end Go.Proofs.Ytaomlfbcfmmhlaa

/-
  rt's long: its closure, and itself, walked.
-/
namespace Go.Proofs.Ytaomlfbcfmmhlaa
open Go.RowKit Go.Pst
set_option linter.unusedVariables false
set_option linter.unusedSimpArgs false

variable {B bm n k : Nat} {w0 w : World} {l : List (Nat × Nat × Value)} {c : PCode}

def long1_1 (c : PCode) (k : Nat) (high : Int) : PCode := konstF c k high
def long1_2 (c : PCode) (k : Nat) (b high : Int) : PCode := mathF (long1_1 c k high) k ⟨#[60, 61]⟩ b c.vars
theorem long1_2_len (c : PCode) (k : Nat) (b high : Int) : (long1_2 c k b high).blocks.length = c.blocks.length := by simp [long1_2, long1_1, mathF_len, konstF_len]
def long1_in (c : PCode) (k : Nat) (b high : Int) : PCode := whenIn (long1_2 c k b high) k (long1_1 c k high).vars
def long1_F (c : PCode) (k : Nat) (sz : Nat) (b high first last : Int) : PCode :=
  whenOut (long11_F (long1_in c k b high) (long1_2 c k b high).blocks.length sz b first last) (long11_K (long1_in c k b high) (long1_2 c k b high).blocks.length sz b first last) (((long1_2 c k b high).blocks.length : Int) + 1)
def long1_K (c : PCode) (k : Nat) (b high : Int) : Nat := (long1_2 c k b high).blocks.length + 1
theorem long1_len (c : PCode) (k : Nat) (sz : Nat) (b high first last : Int) : (long1_F c k sz b high first last).blocks.length = c.blocks.length + 2 + 6 * (sz - 1) := by simp [long1_F, whenOut_len, long11_len, long1_in, whenIn_len, long1_2_len]
theorem enters_long1 : Enters Try.prog 72 := enters_of Try.func72 (by kernel_rfl) (by kernel_rfl)
set_option maxHeartbeats 8000000 in
theorem long1_any {b_m b_b b_h b_s b_f b_l sz : Nat} {b high first last : Int} (hsz : 2 ≤ sz ∧ sz ≤ 4) (h_b : InI b) (h_high : InI high) (h_first : InI first) (h_last : InI last) (m_m : (b_m, 0, Value.pointer (some ⟨bm, 0, none⟩)) ∈ l) (m_b : (b_b, 0, Value.int .i64 b) ∈ l) (m_h : (b_h, 0, Value.int .i64 high) ∈ l) (m_s : (b_s, 0, Value.int .i64 sz) ∈ l) (m_f : (b_f, 0, Value.int .i64 first) ∈ l) (m_l : (b_l, 0, Value.int .i64 last) ∈ l) (h : Env B w0 bm l (n + 415) c k w) :
    Calls Try.prog 72 #[.pointer (some ⟨b_m, 0, none⟩), .pointer (some ⟨b_b, 0, none⟩), .pointer (some ⟨b_h, 0, none⟩), .pointer (some ⟨b_s, 0, none⟩), .pointer (some ⟨b_f, 0, none⟩), .pointer (some ⟨b_l, 0, none⟩)] w fun e w' => e = .returned (.tuple #[]) ∧ Env B w0 bm l n (long1_F c k sz b high first last) (long1_K c k b high) w' := by
  have H0 := Lib.hid h
  have hS := keep3 m_m m_b m_h h.x
  clear h
  go_enter Try.func72, Try.ntmps72
  go_wp2_with fail
  go_region_held3 (fun w' => (w'.cell? ⟨b_m, 0, none⟩ = some (.pointer (some ⟨bm, 0, none⟩)) ∧ w'.cell? ⟨b_b, 0, none⟩ = some (.int .i64 b) ∧ w'.cell? ⟨b_h, 0, none⟩ = some (.int .i64 high)) ∧ EnvX B w0 bm l w')
    (first | exact hS | exact keep3 m_m m_b m_h H0.out.x.drew | exact keep3 m_m m_b m_h (Env.x (by assumption)) | exact keep3 m_m m_b m_h (EnvX.drew (And.right (by assumption))))
    (first | (go_at_call 35; (refine (konst_any high h_high H0.out.drew).mono ?_); rintro e w1 ⟨rfl, e10⟩; have e1 : Env B w0 bm l (n + 413) (long1_1 c k high) k w1 := e10; clear e10) | (go_at_call 31; (refine (math_any ⟨#[60, 61]⟩ b c.vars h_b (InI.vars H0.out) (by decide) e1).mono ?_); rintro e w2 ⟨rfl, e20⟩; have e2 : Env B w0 bm l (n + 411) (long1_2 c k b high) k w2 := e20; clear e20) | (go_at_call 36; (refine (when_any (ba := #[]) (m := n + 408) (n := n) (c3 := long11_F (long1_in c k b high) (long1_2 c k b high).blocks.length sz b first last) (k3 := long11_K (long1_in c k b high) (long1_2 c k b high).blocks.length sz b first last) (InI.vars e1) enters_long11 e2 (fun w2 e2 => by exact long11_any (b_s := b_s) (b_m := b_m) (b_b := b_b) (b_f := b_f) (b_l := b_l) hsz h_b h_first h_last m_s m_m m_b m_f m_l e2) (by rw [long11_len, long1_in, whenIn_len]; omega)).mono ?_); rintro e w3 ⟨rfl, e3⟩))
  all_goals
    have H3 := Lib.hid e3
    clear hS e3
    go_wp2_with fail
    exact bodyPost_end (results_none (by kernel_rfl) _ _ _) rfl ⟨rfl, H3.out⟩

def long_1 (c : PCode) (k : Nat) (low : Int) : PCode := konstF c k low
def long_2 (c : PCode) (k : Nat) (b low : Int) : PCode := mathF (long_1 c k low) k ⟨#[62, 61]⟩ b c.vars
theorem long_2_len (c : PCode) (k : Nat) (b low : Int) : (long_2 c k b low).blocks.length = c.blocks.length := by simp [long_2, long_1, mathF_len, konstF_len]
def long_in (c : PCode) (k : Nat) (b low : Int) : PCode := whenIn (long_2 c k b low) k (long_1 c k low).vars
def long_F (c : PCode) (k : Nat) (b low high : Int) (sz : Nat) (first last : Int) : PCode :=
  whenOut (long1_F (long_in c k b low) (long_2 c k b low).blocks.length sz b high first last) (long1_K (long_in c k b low) (long_2 c k b low).blocks.length b high) (((long_2 c k b low).blocks.length : Int) + 1)
def long_K (c : PCode) (k : Nat) (b low : Int) : Nat := (long_2 c k b low).blocks.length + 1
theorem long_len (c : PCode) (k : Nat) (b low high : Int) (sz : Nat) (first last : Int) : (long_F c k b low high sz first last).blocks.length = c.blocks.length + 2 + 2 + 6 * (sz - 1) := by simp [long_F, whenOut_len, long1_len, long_in, whenIn_len, long_2_len]
set_option maxHeartbeats 8000000 in
theorem long_any {sz : Nat} {b low high first last : Int} (hsz : 2 ≤ sz ∧ sz ≤ 4) (h_b : InI b) (h_low : InI low) (h_high : InI high) (h_first : InI first) (h_last : InI last) (h : Env B w0 bm l (n + 423) c k w) :
    Calls Try.prog 59 #[.pointer (some ⟨bm, 0, none⟩), .int .i64 b, .int .i64 low, .int .i64 high, .int .i64 sz, .int .i64 first, .int .i64 last] w fun e w' => e = .returned (.tuple #[]) ∧ Env B w0 bm l n (long_F c k b low high sz first last) (long_K c k b low) w' := by
  have h1 := h.box (.pointer (some ⟨bm, 0, none⟩)) 54
  have h2 := h1.box (.int .i64 b) 3
  have h3 := h2.box (.int .i64 high) 3
  have h4 := h3.box (.int .i64 sz) 3
  have h5 := h4.box (.int .i64 first) 3
  have h6 := h5.box (.int .i64 last) 3
  simp only [World.size_alloc] at h2 h3 h4 h5 h6
  obtain ⟨LL, hLL⟩ : ∃ LL, LL = (w.heap.size + 1 + 1 + 1 + 1 + 1, 0, Value.int .i64 last) :: (w.heap.size + 1 + 1 + 1 + 1, 0, Value.int .i64 first) :: (w.heap.size + 1 + 1 + 1, 0, Value.int .i64 sz) :: (w.heap.size + 1 + 1, 0, Value.int .i64 high) :: (w.heap.size + 1, 0, Value.int .i64 b) :: (w.heap.size, 0, Value.pointer (some ⟨bm, 0, none⟩)) :: l := ⟨_, rfl⟩
  rw [← hLL] at h6
  have m_m : (w.heap.size, 0, Value.pointer (some ⟨bm, 0, none⟩)) ∈ LL := by rw [hLL]; simp
  have m_b : (w.heap.size + 1, 0, Value.int .i64 b) ∈ LL := by rw [hLL]; simp
  have m_h : (w.heap.size + 1 + 1, 0, Value.int .i64 high) ∈ LL := by rw [hLL]; simp
  have m_s : (w.heap.size + 1 + 1 + 1, 0, Value.int .i64 sz) ∈ LL := by rw [hLL]; simp
  have m_f : (w.heap.size + 1 + 1 + 1 + 1, 0, Value.int .i64 first) ∈ LL := by rw [hLL]; simp
  have m_l : (w.heap.size + 1 + 1 + 1 + 1 + 1, 0, Value.int .i64 last) ∈ LL := by rw [hLL]; simp
  have hfew : ∀ p ∈ l, p ∈ LL := fun p hp => by rw [hLL]; simp [hp]
  generalize hW : (((((w.alloc (.cells #[.pointer (some ⟨bm, 0, none⟩)] 54)).alloc (.cells #[.int .i64 b] 3)).alloc (.cells #[.int .i64 high] 3)).alloc (.cells #[.int .i64 sz] 3)).alloc (.cells #[.int .i64 first] 3)).alloc (.cells #[.int .i64 last] 3) = W at h6
  have H0 := Lib.hid h6
  have HW := Lib.hid hW
  have hS := keep2 m_m m_b h6.x
  clear h h1 h2 h3 h4 h5 h6 hW hLL
  go_enter Try.func59, Try.ntmps59
  go_wp2_with fail
  rw [HW.out]
  go_region_held3 (fun w' => (w'.cell? ⟨w.heap.size, 0, none⟩ = some (.pointer (some ⟨bm, 0, none⟩)) ∧ w'.cell? ⟨w.heap.size + 1, 0, none⟩ = some (.int .i64 b)) ∧ EnvX B w0 bm LL w')
    (first | exact hS | exact keep2 m_m m_b H0.out.x.drew | exact keep2 m_m m_b (Env.x (by assumption)) | exact keep2 m_m m_b (EnvX.drew (And.right (by assumption))))
    (first | (go_at_call 35; (refine (konst_any low h_low H0.out.drew).mono ?_); rintro e w1 ⟨rfl, e10⟩; have e1 : Env B w0 bm LL (n + 421) (long_1 c k low) k w1 := e10; clear e10) | (go_at_call 31; (refine (math_any ⟨#[62, 61]⟩ b c.vars h_b (InI.vars H0.out) (by decide) e1).mono ?_); rintro e w2 ⟨rfl, e20⟩; have e2 : Env B w0 bm LL (n + 419) (long_2 c k b low) k w2 := e20; clear e20) | (go_at_call 36; (refine (when_any (ba := #[]) (m := n + 416) (n := n) (c3 := long1_F (long_in c k b low) (long_2 c k b low).blocks.length sz b high first last) (k3 := long1_K (long_in c k b low) (long_2 c k b low).blocks.length b high) (InI.vars e1) enters_long1 e2 (fun w2 e2 => by exact long1_any hsz h_b h_high h_first h_last m_m m_b m_h m_s m_f m_l e2) (by rw [long1_len, long_in, whenIn_len]; omega)).mono ?_); rintro e w3 ⟨rfl, e3⟩))
  all_goals
    have H3 := Lib.hid (e3.fewer hfew)
    clear hS e3
    go_wp2_with fail
    exact bodyPost_end (results_none (by kernel_rfl) _ _ _) rfl ⟨rfl, H3.out⟩
end Go.Proofs.Ytaomlfbcfmmhlaa

/-
  rt's start, invoke (of one result), walked; what is told at the end.
-/
namespace Go.Proofs.Ytaomlfbcfmmhlaa
open Go.RowKit Go.Pst
set_option linter.unusedVariables false
set_option linter.unusedSimpArgs false

variable {B bm n k : Nat} {w0 w : World} {l : List (Nat × Nat × Value)} {c : PCode}
def beginF (name : ByteArray) (p r : Int) : PCode := ⟨name, p, r, p, 0, [[]]⟩
theorem start_any (name : ByteArray) (p r : Int) (hn : name.size ≤ maxLen) (hp : 0 ≤ p ∧ p ≤ 1000) (hr : 0 ≤ r ∧ r ≤ 1000) (w : World) :
    Calls Try.prog 30 #[.string name, .int .i64 p, .int .i64 r] w fun e w' => ∃ bm, e = .returned (.pointer (some ⟨bm, 0, none⟩)) ∧ Env w.heap.size w bm [] 900000 (beginF name p r) 0 w' := by
  obtain ⟨p1, p2⟩ := hp
  obtain ⟨r1, r2⟩ := hr
  go_enter Try.func30, Try.ntmps30
  go_wp2_with fail
  go_ret
  refine ⟨w.heap.size + 1, rfl, fun x => x < w.heap.size, fun x => x = w.heap.size + 1 ∨ x = w.heap.size ∨ x < w.heap.size, ?_, ⟨⟨p1, by show p + 900000 ≤ _; omega⟩, by simp [beginF], by intro b hb; simp [beginF] at hb; subst hb; simp, by simp [beginF]⟩, by simp, ((Below.refl _ _).alloc (Nat.le_refl _) _).alloc (by simp) _, Nat.le_refl _, fun x hx => hx⟩
  have hW := new_two w (.cells #[.slice none 0 0] 46) (.cells #[.string name, .int .i64 p, .int .i64 r, .int .i64 p, .int .i64 0, .slice (some ⟨w.heap.size, 0, none⟩) 1 1, .int .i64 0] 61)
  have hsz : ((w.alloc (.cells #[.slice none 0 0] 46)).alloc (.cells #[.string name, .int .i64 p, .int .i64 r, .int .i64 p, .int .i64 0, .slice (some ⟨w.heap.size, 0, none⟩) 1 1, .int .i64 0] 61)).heap.size = w.heap.size + 2 := by simp
  generalize (w.alloc (.cells #[.slice none 0 0] 46)).alloc (.cells #[.string name, .int .i64 p, .int .i64 r, .int .i64 p, .int .i64 0, .slice (some ⟨w.heap.size, 0, none⟩) 1 1, .int .i64 0] 61) = W at *
  obtain ⟨hg, hb⟩ := hW
  have hc : ∀ j, W.cell? ⟨w.heap.size + 1, j, none⟩ = #[.string name, .int .i64 p, .int .i64 r, .int .i64 p, .int .i64 0, .slice (some ⟨w.heap.size, 0, none⟩) 1 1, .int .i64 0][j]? := fun j => by simp [World.cell?, hb]
  refine ⟨w.heap.size, 1, [.slice none 0 0], ⟨by omega, hc 0, hc 1, hc 2, hc 3, hc 4, hc 5, hc 6, fun j => by simp [World.frozen?, hb], by omega, ⟨hn, ⟨by show _ ≤ p; omega, by show p ≤ _; omega⟩, ⟨by show _ ≤ r; omega, by show r ≤ _; omega⟩, ⟨by show _ ≤ p; omega, by show p ≤ _; omega⟩, ini rfl⟩, ?_, rfl, fun t ht ht' => ?_, by omega, by simp [Value.ownBlock], by simp, fun x => by simp [Value.ownBlock], ⟨by omega, by omega, fun x hx => by omega⟩, by simp [beginF]⟩⟩
  · exact ⟨by simp [beginF], Or.inr ⟨w.heap.size, 1, #[.slice none 0 0], rfl, Nat.zero_le _, hg, by simp [beginF], by decide, rfl, by simp [beginF]⟩⟩
  · obtain rfl : t = 0 := by simp at ht'; omega
    exact Blk.nil _ _
end Go.Proofs.Ytaomlfbcfmmhlaa

/-
  rt's functions: what is told at the end; invoke, walked.
-/
namespace Go.Proofs.Ytaomlfbcfmmhlaa
open Go.RowKit Go.Pst
set_option linter.unusedVariables false
set_option linter.unusedSimpArgs false

variable {B bm n k : Nat} {w0 w : World} {l : List (Nat × Nat × Value)} {c : PCode}
theorem env_end (h : Env B w0 bm l n c k w) : B ≤ bm ∧ bm < w.heap.size ∧ ∃ gB cB, (w.cell? ⟨bm, 0, none⟩ = some (.string c.name) ∧ w.cell? ⟨bm, 1, none⟩ = some (.int .i64 c.params) ∧ w.cell? ⟨bm, 2, none⟩ = some (.int .i64 c.results) ∧ w.cell? ⟨bm, 3, none⟩ = some (.int .i64 c.vars) ∧ w.cell? ⟨bm, 4, none⟩ = some (.int .i64 c.slots) ∧ w.cell? ⟨bm, 5, none⟩ = some (.slice (some ⟨gB, 0, none⟩) c.blocks.length cB)) ∧
    rCode (fun x => B ≤ x) w [.string c.name, .int .i64 c.params, .int .i64 c.results, .int .i64 c.vars, .int .i64 c.slots, .slice (some ⟨gB, 0, none⟩) c.blocks.length cB] c := by
  obtain ⟨X, M, ⟨gB, cB, vs, hc⟩, -, -, -, -, hM⟩ := h
  refine ⟨Nat.le_of_not_lt fun h => hc.x_.1 (hM _ h), hc.lt, gB, cB, ⟨by simpa using hc.c0, by simpa using hc.c1, by simpa using hc.c2, by simpa using hc.c3, by simpa using hc.c4, by simpa using hc.c5⟩, _, rfl, hc.fit, ?_⟩
  have hX : ∀ x, ¬ M x → B ≤ x := fun x hm => Nat.le_of_not_lt (fun h => hm ((hc.mine x).2 (Or.inr (Or.inr (Or.inr (hM _ h))))))
  exact rSlice_own hc.row (fun x hx => by
    simp [Value.ownBlock] at hx
    rw [← hx]
    exact Nat.le_of_not_lt fun h => hc.x_.2.1 (hM _ h)) (fun i hi => ⟨vs[i]'(by rw [hc.len]; exact hi), by simp [hc.len, hi], (hc.blk i hi (by rw [hc.len]; exact hi)).reads' (fun x hx => by
      exact Nat.le_of_not_lt fun h => (hc.own _ (List.getElem_mem (by rw [hc.len]; exact hi))).2.2 x hx (hM _ h)) hX⟩)
/-- Six cells of one block written anew. -/
theorem box_six {W : World} {b : Nat} {x0 x1 x2 x3 x4 x5 : Value} (u0 u1 u2 u3 u4 u5 : Value) (h0 : W.cell? ⟨b, 0, none⟩ = some x0) (h1 : W.cell? ⟨b, 1, none⟩ = some x1) (h2 : W.cell? ⟨b, 2, none⟩ = some x2) (h3 : W.cell? ⟨b, 3, none⟩ = some x3) (h4 : W.cell? ⟨b, 4, none⟩ = some x4) (h5 : W.cell? ⟨b, 5, none⟩ = some x5) :
    ∃ V, V = (((((W.setCell ⟨b, 0, none⟩ u0).setCell ⟨b, 1, none⟩ u1).setCell ⟨b, 2, none⟩ u2).setCell ⟨b, 3, none⟩ u3).setCell ⟨b, 4, none⟩ u4).setCell ⟨b, 5, none⟩ u5 ∧
      V.cell? ⟨b, 0, none⟩ = some u0 ∧ V.cell? ⟨b, 1, none⟩ = some u1 ∧ V.cell? ⟨b, 2, none⟩ = some u2 ∧ V.cell? ⟨b, 3, none⟩ = some u3 ∧ V.cell? ⟨b, 4, none⟩ = some u4 ∧ V.cell? ⟨b, 5, none⟩ = some u5 ∧ Since (fun k => k = b) W V := by
  have o : ∀ (X : World) (i j : Nat) (u : Value), j ≠ i → (X.setCell ⟨b, i, none⟩ u).cell? ⟨b, j, none⟩ = X.cell? ⟨b, j, none⟩ := fun X i j u hne => World.cell?_setCell_other _ _ _ _ (fun e => hne (by injection e with _ h1 _; exact h1.symm))
  have s : ∀ (X : World) (i : Nat) (x u : Value), X.cell? ⟨b, i, none⟩ = some x → (X.setCell ⟨b, i, none⟩ u).cell? ⟨b, i, none⟩ = some u := fun X i x u h => World.cell?_setCell_same _ _ _ h
  have q : ∀ (X : World) (i : Nat) (u : Value), Since (fun k => k = b) X (X.setCell ⟨b, i, none⟩ u) := fun X i u => Since.setCell X ⟨b, i, none⟩ u
  refine ⟨_, rfl, ?_, ?_, ?_, ?_, ?_, ?_, ((((q _ _ _).trans (q _ _ _)).trans (q _ _ _)).trans (q _ _ _)).trans (q _ _ _) |>.trans (q _ _ _)⟩
  · rw [o _ 5 0 _ (by decide), o _ 4 0 _ (by decide), o _ 3 0 _ (by decide), o _ 2 0 _ (by decide), o _ 1 0 _ (by decide)]
    exact s _ _ _ _ h0
  · rw [o _ 5 1 _ (by decide), o _ 4 1 _ (by decide), o _ 3 1 _ (by decide), o _ 2 1 _ (by decide)]
    exact s _ _ _ _ ((o _ 0 1 _ (by decide)).trans h1)
  · rw [o _ 5 2 _ (by decide), o _ 4 2 _ (by decide), o _ 3 2 _ (by decide)]
    exact s _ _ _ _ ((o _ 1 2 _ (by decide)).trans ((o _ 0 2 _ (by decide)).trans h2))
  · rw [o _ 5 3 _ (by decide), o _ 4 3 _ (by decide)]
    exact s _ _ _ _ ((o _ 2 3 _ (by decide)).trans ((o _ 1 3 _ (by decide)).trans ((o _ 0 3 _ (by decide)).trans h3)))
  · rw [o _ 5 4 _ (by decide)]
    exact s _ _ _ _ ((o _ 3 4 _ (by decide)).trans ((o _ 2 4 _ (by decide)).trans ((o _ 1 4 _ (by decide)).trans ((o _ 0 4 _ (by decide)).trans h4))))
  · exact s _ _ _ _ ((o _ 4 5 _ (by decide)).trans ((o _ 3 5 _ (by decide)).trans ((o _ 2 5 _ (by decide)).trans ((o _ 1 5 _ (by decide)).trans ((o _ 0 5 _ (by decide)).trans h5)))))

/-- The ways through a region meet again: one, two boxes more. -/
def Cut1 (A : Nat → Act) (R : Nat → World → Prop) : Exit → Act → World → Prop
  | .normal, a, w => ∃ x, a = A x ∧ R x w
  | _, _, _ => False
def Cut2 (A : Nat → Nat → Act) (R : Nat → Nat → World → Prop) : Exit → Act → World → Prop
  | .normal, a, w => ∃ x y, a = A x y ∧ R x y w
  | _, _, _ => False
theorem cut1 {P : Program} {c : Code} {Q : Exit → Act → World → Prop} {a : Act} {w : World} (A : Nat → Act) (R : Nat → World → Prop) (h : c.wp P (Cut1 A R) a w) (k : ∀ x w', R x w' → Q .normal (A x) w') : c.wp P Q a w :=
  Code.wp_mono (fun e a' w' hq => by
    cases e <;> first | exact (hq : False).elim | skip
    obtain ⟨x, ha, hr⟩ := hq
    subst ha; exact k x w' hr) h
theorem cut2 {P : Program} {c : Code} {Q : Exit → Act → World → Prop} {a : Act} {w : World} (A : Nat → Nat → Act) (R : Nat → Nat → World → Prop) (h : c.wp P (Cut2 A R) a w) (k : ∀ x y w', R x y w' → Q .normal (A x y) w') : c.wp P Q a w :=
  Code.wp_mono (fun e a' w' hq => by
    cases e <;> first | exact (hq : False).elim | skip
    obtain ⟨x, y, ha, hr⟩ := hq
    subst ha; exact k x y w' hr) h
/-- The result's box, as the function begins. -/
def zeroCode : Array Value := #[.string ⟨#[]⟩, .int .i64 0, .int .i64 0, .int .i64 0, .int .i64 0, .slice none 0 0]
def CodePost (w : World) (c : PCode) (e : Ending) (w' : World) : Prop :=
  ∃ v5, e = .returned (.agg #[.string c.name, .int .i64 c.params, .int .i64 c.results, .int .i64 c.vars, .int .i64 c.slots, v5]) ∧ rCode (fun _ => True) w' [.string c.name, .int .i64 c.params, .int .i64 c.results, .int .i64 c.vars, .int .i64 c.slots, v5] c ∧ Below w.heap.size w w'
theorem zero_cells (w : World) {t : TypeId} (h : Env (w.heap.size + 1) (w.alloc (.cells zeroCode t)) bm l n c k w0) : (∀ j, w0.cell? ⟨w.heap.size, j, none⟩ = zeroCode[j]?) ∧ ∀ j, w0.frozen? ⟨w.heap.size, j, none⟩ = false := by
  have hb := h.below
  exact ⟨fun j => by rw [hb.cell (p := ⟨w.heap.size, j, none⟩) (by simp), World.cell?_alloc_new], fun j => by rw [hb.frozen (p := ⟨w.heap.size, j, none⟩) (by simp), World.frozen?_alloc_new]⟩
theorem code_post (w : World) {W V : World} {t : TypeId} {gB cB : Nat} (h : Env (w.heap.size + 1) (w.alloc (.cells zeroCode t)) bm l n c k W) (hs : Since (fun x => x = w.heap.size) W V)
    (hr : rCode (fun x => w.heap.size + 1 ≤ x) W [.string c.name, .int .i64 c.params, .int .i64 c.results, .int .i64 c.vars, .int .i64 c.slots, .slice (some ⟨gB, 0, none⟩) c.blocks.length cB] c) :
    CodePost w c (.returned (.agg #[.string c.name, .int .i64 c.params, .int .i64 c.results, .int .i64 c.vars, .int .i64 c.slots, .slice (some ⟨gB, 0, none⟩) c.blocks.length cB])) V := by
  refine ⟨_, rfl, Good.keep (S := fun x => w.heap.size + 1 ≤ x) ⟨hs.size, fun x hx hS => hs.block x hx (by omega)⟩ (fun _ _ _ => trivial) hr, ?_⟩
  have hb := h.below
  have h1 : Below w.heap.size w (w.alloc (.cells zeroCode t)) := (Below.refl _ _).alloc (Nat.le_refl _) _
  have h2 := h1.trans (hb.mono (by omega))
  exact h2.trans (hs.below h2.size (fun x hx => by omega))
end Go.Proofs.Ytaomlfbcfmmhlaa

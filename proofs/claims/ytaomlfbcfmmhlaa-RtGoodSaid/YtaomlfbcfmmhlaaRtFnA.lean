/-
  rt's same: its closures, walked (printed by wip/gen_rtfn.py).
-/
import Derived.Test.YtaomlfbcfmmhlaaRtCopy
namespace Go.Proofs.Ytaomlfbcfmmhlaa
open Go.RowKit Go.Pst
set_option linter.unusedVariables false
set_option linter.unusedSimpArgs false

variable {B bm n k : Nat} {w0 w : World} {l : List (Nat × Nat × Value)} {c : PCode}
theorem whenIn_len (c : PCode) (k : Nat) (a : Int) : (whenIn c k a).blocks.length = c.blocks.length + 2 := by simp [whenIn, chooseF_len, blockF'_len]
theorem whenOut_len (c : PCode) (k : Nat) (on : Int) : (whenOut c k on).blocks.length = c.blocks.length := by unfold whenOut; split <;> simp [jumpF_len]
theorem countOut_len (c : PCode) (k : Nat) (d h : Int) : (countOut c k d h).blocks.length = c.blocks.length := by simp [countOut, count5, jumpF_len, setF_len, mathF_len, konstF_len]
theorem copyF_len (c : PCode) (k : Nat) (tt fr m : Int) : (copyF c k tt fr m).blocks.length = c.blocks.length + 3 := by simp [copyF, copyIn, countOut_len, copyBody_len, countIn_len, konstF_len]
theorem ini3 {a b d : Int} (ha : InI a) (hb : InI b) (hd : InI d) : ∀ y ∈ [a, b, d], InI y := fun y hy => by
  simp at hy
  rcases hy with rfl | rfl | rfl
  · exact ha
  · exact hb
  · exact hd
def same1_1 (c : PCode) (k : Nat) (no : Int) : PCode := backF c k [no]
theorem same1_1_len (c : PCode) (k : Nat) (no : Int) : (same1_1 c k no).blocks.length = c.blocks.length + 0 := by
  simp only [same1_1, mathF_len, konstF_len, loadF_len, allocF_len, setF_len, storeF_len, backF_len, freshF_len, copyF_len, whenOut_len, whenIn_len, countOut_len, countIn_len] <;> try omega
def same1_F (c : PCode) (k : Nat) (no : Int) : PCode := (same1_1 c k no)
def same1_K (c : PCode) (k : Nat) (no : Int) : Nat := k
theorem same1_len (c : PCode) (k : Nat) (no : Int) : (same1_F c k no).blocks.length = c.blocks.length + 0 := same1_1_len c k no
theorem enters_same1 : Enters Try.prog 37 := enters_of Try.func37 (by kernel_rfl) (by kernel_rfl)
set_option maxHeartbeats 8000000 in
theorem same1_any {b_m b_no : Nat} {no : Int} (h_no : InI no) (m_m : (b_m, 0, Value.pointer (some ⟨bm, 0, none⟩)) ∈ l) (m_no : (b_no, 0, Value.int .i64 no) ∈ l) (h : Env B w0 bm l (n + 1) c k w) :
    Calls Try.prog 37 #[.pointer (some ⟨b_m, 0, none⟩), .pointer (some ⟨b_no, 0, none⟩)] w fun e w' => e = .returned (.tuple #[]) ∧ Env B w0 bm l n (same1_F c k no) (same1_K c k no) w' := by
  have H0 := Lib.hid h
  clear h
  go_enter Try.func37, Try.ntmps37
  have q_m := H0.out.cell m_m
  have q_no := H0.out.cell m_no
  go_wp2_with fail
  clear q_m q_no
  refine (back_any H0.out ((Below.refl _ _).alloc (Nat.le_refl _) _) (rInts_all [no] (Nat.le_refl _) (lens rfl) (ini1 h_no) (new_one _ _))).mono ?_
  rintro e w1 ⟨rfl, e10⟩
  have e1 : Env B w0 bm l n (same1_1 c k no) k w1 := e10
  have H1 := Lib.hid e1
  clear e1 e10
  go_wp2_with fail
  exact bodyPost_end (results_none (by kernel_rfl) _ _ _) rfl ⟨rfl, H1.out⟩
def same21_1 (c : PCode) (k : Nat) (no : Int) : PCode := backF c k [no]
theorem same21_1_len (c : PCode) (k : Nat) (no : Int) : (same21_1 c k no).blocks.length = c.blocks.length + 0 := by
  simp only [same21_1, mathF_len, konstF_len, loadF_len, allocF_len, setF_len, storeF_len, backF_len, freshF_len, copyF_len, whenOut_len, whenIn_len, countOut_len, countIn_len] <;> try omega
def same21_F (c : PCode) (k : Nat) (no : Int) : PCode := (same21_1 c k no)
def same21_K (c : PCode) (k : Nat) (no : Int) : Nat := k
theorem same21_len (c : PCode) (k : Nat) (no : Int) : (same21_F c k no).blocks.length = c.blocks.length + 0 := same21_1_len c k no
theorem enters_same21 : Enters Try.prog 41 := enters_of Try.func41 (by kernel_rfl) (by kernel_rfl)
set_option maxHeartbeats 8000000 in
theorem same21_any {b_m b_no : Nat} {no : Int} (h_no : InI no) (m_m : (b_m, 0, Value.pointer (some ⟨bm, 0, none⟩)) ∈ l) (m_no : (b_no, 0, Value.int .i64 no) ∈ l) (h : Env B w0 bm l (n + 1) c k w) :
    Calls Try.prog 41 #[.pointer (some ⟨b_m, 0, none⟩), .pointer (some ⟨b_no, 0, none⟩)] w fun e w' => e = .returned (.tuple #[]) ∧ Env B w0 bm l n (same21_F c k no) (same21_K c k no) w' := by
  have H0 := Lib.hid h
  clear h
  go_enter Try.func41, Try.ntmps41
  have q_m := H0.out.cell m_m
  have q_no := H0.out.cell m_no
  go_wp2_with fail
  clear q_m q_no
  refine (back_any H0.out ((Below.refl _ _).alloc (Nat.le_refl _) _) (rInts_all [no] (Nat.le_refl _) (lens rfl) (ini1 h_no) (new_one _ _))).mono ?_
  rintro e w1 ⟨rfl, e10⟩
  have e1 : Env B w0 bm l n (same21_1 c k no) k w1 := e10
  have H1 := Lib.hid e1
  clear e1 e10
  go_wp2_with fail
  exact bodyPost_end (results_none (by kernel_rfl) _ _ _) rfl ⟨rfl, H1.out⟩
def same2_1 (c : PCode) (k : Nat) (i : Int) (no : Int) : PCode := mathF c k ⟨#[43]⟩ 0 i
theorem same2_1_len (c : PCode) (k : Nat) (i : Int) (no : Int) : (same2_1 c k i no).blocks.length = c.blocks.length + 0 := by
  simp only [same2_1, mathF_len, konstF_len, loadF_len, allocF_len, setF_len, storeF_len, backF_len, freshF_len, copyF_len, whenOut_len, whenIn_len, countOut_len, countIn_len] <;> try omega
def same2_2 (c : PCode) (k : Nat) (i : Int) (no : Int) : PCode := loadF (same2_1 c k i no) k c.vars 0
theorem same2_2_len (c : PCode) (k : Nat) (i : Int) (no : Int) : (same2_2 c k i no).blocks.length = c.blocks.length + 0 := by
  simp only [same2_2, mathF_len, konstF_len, loadF_len, allocF_len, setF_len, storeF_len, backF_len, freshF_len, copyF_len, whenOut_len, whenIn_len, countOut_len, countIn_len, same2_1_len] <;> try omega
def same2_3 (c : PCode) (k : Nat) (i : Int) (no : Int) : PCode := mathF (same2_2 c k i no) k ⟨#[43]⟩ 2 i
theorem same2_3_len (c : PCode) (k : Nat) (i : Int) (no : Int) : (same2_3 c k i no).blocks.length = c.blocks.length + 0 := by
  simp only [same2_3, mathF_len, konstF_len, loadF_len, allocF_len, setF_len, storeF_len, backF_len, freshF_len, copyF_len, whenOut_len, whenIn_len, countOut_len, countIn_len, same2_2_len] <;> try omega
def same2_4 (c : PCode) (k : Nat) (i : Int) (no : Int) : PCode := loadF (same2_3 c k i no) k (same2_2 c k i no).vars 0
theorem same2_4_len (c : PCode) (k : Nat) (i : Int) (no : Int) : (same2_4 c k i no).blocks.length = c.blocks.length + 0 := by
  simp only [same2_4, mathF_len, konstF_len, loadF_len, allocF_len, setF_len, storeF_len, backF_len, freshF_len, copyF_len, whenOut_len, whenIn_len, countOut_len, countIn_len, same2_3_len] <;> try omega
def same2_5 (c : PCode) (k : Nat) (i : Int) (no : Int) : PCode := mathF (same2_4 c k i no) k ⟨#[33, 61]⟩ (same2_1 c k i no).vars (same2_3 c k i no).vars
theorem same2_5_len (c : PCode) (k : Nat) (i : Int) (no : Int) : (same2_5 c k i no).blocks.length = c.blocks.length + 0 := by
  simp only [same2_5, mathF_len, konstF_len, loadF_len, allocF_len, setF_len, storeF_len, backF_len, freshF_len, copyF_len, whenOut_len, whenIn_len, countOut_len, countIn_len, same2_4_len] <;> try omega
def same2_6 (c : PCode) (k : Nat) (i : Int) (no : Int) : PCode := whenOut (same21_F (whenIn (same2_5 c k i no) k (same2_4 c k i no).vars) (same2_5 c k i no).blocks.length no) (same21_K (whenIn (same2_5 c k i no) k (same2_4 c k i no).vars) (same2_5 c k i no).blocks.length no) (((same2_5 c k i no).blocks.length : Int) + 1)
theorem same2_6_len (c : PCode) (k : Nat) (i : Int) (no : Int) : (same2_6 c k i no).blocks.length = c.blocks.length + 2 := by
  simp only [same2_6, mathF_len, konstF_len, loadF_len, allocF_len, setF_len, storeF_len, backF_len, freshF_len, copyF_len, whenOut_len, whenIn_len, countOut_len, countIn_len, same21_len, same2_5_len] <;> try omega
def same2_F (c : PCode) (k : Nat) (i : Int) (no : Int) : PCode := (same2_6 c k i no)
def same2_K (c : PCode) (k : Nat) (i : Int) (no : Int) : Nat := ((same2_5 c k i no).blocks.length + 1)
theorem same2_len (c : PCode) (k : Nat) (i : Int) (no : Int) : (same2_F c k i no).blocks.length = c.blocks.length + 2 := same2_6_len c k i no
theorem enters_same2 : Enters Try.prog 39 := enters_of Try.func39 (by kernel_rfl) (by kernel_rfl)
set_option maxHeartbeats 8000000 in
theorem same2_any {b_m b_no : Nat} {i no : Int} (h_i : InI i) (h_no : InI no) (m_m : (b_m, 0, Value.pointer (some ⟨bm, 0, none⟩)) ∈ l) (m_no : (b_no, 0, Value.int .i64 no) ∈ l) (h : Env B w0 bm l (n + 15) c k w) :
    Calls Try.prog 39 #[.int .i64 i, .pointer (some ⟨b_m, 0, none⟩), .pointer (some ⟨b_no, 0, none⟩)] w fun e w' => e = .returned (.tuple #[]) ∧ Env B w0 bm l n (same2_F c k i no) (same2_K c k i no) w' := by
  have hz_0 : InI 0 := ini rfl
  have hz_2 : InI 2 := ini rfl
  have H0 := Lib.hid h
  clear h
  go_enter Try.func39, Try.ntmps39
  have hS := keep2 m_m m_no H0.out.x
  go_wp2_with fail
  go_region_held3 (fun w' => (w'.cell? ⟨b_m, 0, none⟩ = some (.pointer (some ⟨bm, 0, none⟩)) ∧ w'.cell? ⟨b_no, 0, none⟩ = some (.int .i64 no)) ∧ EnvX B w0 bm l w')
    (first | exact hS | exact keep2 m_m m_no H0.out.x.drew | exact keep2 m_m m_no (Env.x (by assumption)) | exact keep2 m_m m_no (EnvX.drew (And.right (by assumption))) | exact keep2 m_m m_no (EnvX.alloc (Env.x (by assumption)) _) | exact keep2 m_m m_no (EnvX.alloc (And.right (by assumption)) _))
    (first | (go_at_call 31; (with_reducible refine (math_any ⟨#[43]⟩ 0 i hz_0 h_i (by decide) H0.out.drew).mono ?_); rintro e w1 ⟨rfl, e10⟩; have e1 : Env B w0 bm l (n + 13) (same2_1 c k i no) k w1 := e10; clear e10) | (go_at_call 40; (with_reducible refine (load_any c.vars 0 (InI.vars H0.out) hz_0 e1).mono ?_); rintro e w2 ⟨rfl, e20⟩; have e2 : Env B w0 bm l (n + 11) (same2_2 c k i no) k w2 := e20; clear e20) | (go_at_call 31; (with_reducible refine (math_any ⟨#[43]⟩ 2 i hz_2 h_i (by decide) e2).mono ?_); rintro e w3 ⟨rfl, e30⟩; have e3 : Env B w0 bm l (n + 9) (same2_3 c k i no) k w3 := e30; clear e30) | (go_at_call 40; (with_reducible refine (load_any (same2_2 c k i no).vars 0 (InI.vars e2) hz_0 e3).mono ?_); rintro e w4 ⟨rfl, e40⟩; have e4 : Env B w0 bm l (n + 7) (same2_4 c k i no) k w4 := e40; clear e40))
  all_goals
    have hr1 := InI.vars H0.out
    have hr2 := InI.vars e1
    have hr3 := InI.vars e2
    have hr4 := InI.vars e3
    have H4 := Lib.hid e4
    clear hS
    have hS := keep2 m_m m_no H4.out.x
    go_wp2_with fail
    go_region_held3 (fun w' => (w'.cell? ⟨b_m, 0, none⟩ = some (.pointer (some ⟨bm, 0, none⟩)) ∧ w'.cell? ⟨b_no, 0, none⟩ = some (.int .i64 no)) ∧ EnvX B w0 bm l w')
      (first | exact hS | exact keep2 m_m m_no H4.out.x.drew | exact keep2 m_m m_no (Env.x (by assumption)) | exact keep2 m_m m_no (EnvX.drew (And.right (by assumption))) | exact keep2 m_m m_no (EnvX.alloc (Env.x (by assumption)) _) | exact keep2 m_m m_no (EnvX.alloc (And.right (by assumption)) _))
      (first | (go_at_call 31; (refine (math_any ⟨#[33, 61]⟩ (same2_1 c k i no).vars (same2_3 c k i no).vars hr2 hr4 (by decide) H4.out.drew).mono ?_); rintro e w5 ⟨rfl, e50⟩; have e5 : Env B w0 bm l (n + 5) (same2_5 c k i no) k w5 := e50; clear e50) | (go_at_call 36; (refine (when_any (ba := #[]) (m := n + 2) (n := n + 0) (c3 := same21_F (whenIn (same2_5 c k i no) k (same2_4 c k i no).vars) (same2_5 c k i no).blocks.length no) (k3 := same21_K (whenIn (same2_5 c k i no) k (same2_4 c k i no).vars) (same2_5 c k i no).blocks.length no) (InI.vars H4.out) enters_same21 e5 (fun w2 e2 => by exact same21_any h_no m_m m_no e2) (by rw [same21_len, whenIn_len]; omega)).mono ?_); rintro e w6 ⟨rfl, e60⟩; have e6 : Env B w0 bm l n (same2_6 c k i no) ((same2_5 c k i no).blocks.length + 1) w6 := e60; clear e60))
    all_goals
      have hr5 := InI.vars H4.out
      have H6 := Lib.hid e6
      clear hS
      go_wp2_with fail
      exact bodyPost_end (results_none (by kernel_rfl) _ _ _) rfl ⟨rfl, H6.out⟩
end Go.Proofs.Ytaomlfbcfmmhlaa

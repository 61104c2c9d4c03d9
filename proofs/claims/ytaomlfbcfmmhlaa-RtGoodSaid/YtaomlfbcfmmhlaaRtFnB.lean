/-
  rt's less, add, find, get, put, drop, char: closures, walked (printed by wip/gen_rtfn.py).
-/
import Derived.Test.YtaomlfbcfmmhlaaRtFnA
namespace Go.Proofs.Ytaomlfbcfmmhlaa
open Go.RowKit Go.Pst
set_option linter.unusedVariables false
set_option linter.unusedSimpArgs false

variable {B bm n k : Nat} {w0 w : World} {l : List (Nat × Nat × Value)} {c : PCode}
def less1_1 (c : PCode) (k : Nat) (v : Int) : PCode := setF c k v 3
theorem less1_1_len (c : PCode) (k : Nat) (v : Int) : (less1_1 c k v).blocks.length = c.blocks.length + 0 := by
  simp only [less1_1, mathF_len, konstF_len, loadF_len, allocF_len, setF_len, storeF_len, backF_len, freshF_len, copyF_len, whenOut_len, whenIn_len, countOut_len, countIn_len] <;> try omega
def less1_F (c : PCode) (k : Nat) (v : Int) : PCode := (less1_1 c k v)
def less1_K (c : PCode) (k : Nat) (v : Int) : Nat := k
theorem less1_len (c : PCode) (k : Nat) (v : Int) : (less1_F c k v).blocks.length = c.blocks.length + 0 := less1_1_len c k v
theorem enters_less1 : Enters Try.prog 44 := enters_of Try.func44 (by kernel_rfl) (by kernel_rfl)
set_option maxHeartbeats 8000000 in
theorem less1_any {b_m b_v : Nat} {v : Int} (h_v : InI v) (m_m : (b_m, 0, Value.pointer (some ⟨bm, 0, none⟩)) ∈ l) (m_v : (b_v, 0, Value.int .i64 v) ∈ l) (h : Env B w0 bm l (n + 1) c k w) :
    Calls Try.prog 44 #[.pointer (some ⟨b_m, 0, none⟩), .pointer (some ⟨b_v, 0, none⟩)] w fun e w' => e = .returned (.tuple #[]) ∧ Env B w0 bm l n (less1_F c k v) (less1_K c k v) w' := by
  have hz_3 : InI 3 := ini rfl
  have H0 := Lib.hid h
  clear h
  go_enter Try.func44, Try.ntmps44
  have q_m := H0.out.cell m_m
  have q_v := H0.out.cell m_v
  go_wp2_with fail
  clear q_m q_v
  refine (set_any v 3 h_v hz_3 H0.out).mono ?_
  rintro e w1 ⟨rfl, e10⟩
  have e1 : Env B w0 bm l n (less1_1 c k v) k w1 := e10
  have H1 := Lib.hid e1
  clear e1 e10
  go_wp2_with fail
  exact bodyPost_end (results_none (by kernel_rfl) _ _ _) rfl ⟨rfl, H1.out⟩
def less21_1 (c : PCode) (k : Nat) (x : Int) (y : Int) : PCode := mathF c k ⟨#[60]⟩ x y
theorem less21_1_len (c : PCode) (k : Nat) (x : Int) (y : Int) : (less21_1 c k x y).blocks.length = c.blocks.length + 0 := by
  simp only [less21_1, mathF_len, konstF_len, loadF_len, allocF_len, setF_len, storeF_len, backF_len, freshF_len, copyF_len, whenOut_len, whenIn_len, countOut_len, countIn_len] <;> try omega
def less21_2 (c : PCode) (k : Nat) (x : Int) (y : Int) : PCode := backF (less21_1 c k x y) k [c.vars]
theorem less21_2_len (c : PCode) (k : Nat) (x : Int) (y : Int) : (less21_2 c k x y).blocks.length = c.blocks.length + 0 := by
  simp only [less21_2, mathF_len, konstF_len, loadF_len, allocF_len, setF_len, storeF_len, backF_len, freshF_len, copyF_len, whenOut_len, whenIn_len, countOut_len, countIn_len, less21_1_len] <;> try omega
def less21_F (c : PCode) (k : Nat) (x : Int) (y : Int) : PCode := (less21_2 c k x y)
def less21_K (c : PCode) (k : Nat) (x : Int) (y : Int) : Nat := k
theorem less21_len (c : PCode) (k : Nat) (x : Int) (y : Int) : (less21_F c k x y).blocks.length = c.blocks.length + 0 := less21_2_len c k x y
theorem enters_less21 : Enters Try.prog 46 := enters_of Try.func46 (by kernel_rfl) (by kernel_rfl)
set_option maxHeartbeats 8000000 in
theorem less21_any {b_m b_x b_y : Nat} {x y : Int} (h_x : InI x) (h_y : InI y) (m_m : (b_m, 0, Value.pointer (some ⟨bm, 0, none⟩)) ∈ l) (m_x : (b_x, 0, Value.int .i64 x) ∈ l) (m_y : (b_y, 0, Value.int .i64 y) ∈ l) (h : Env B w0 bm l (n + 3) c k w) :
    Calls Try.prog 46 #[.pointer (some ⟨b_m, 0, none⟩), .pointer (some ⟨b_x, 0, none⟩), .pointer (some ⟨b_y, 0, none⟩)] w fun e w' => e = .returned (.tuple #[]) ∧ Env B w0 bm l n (less21_F c k x y) (less21_K c k x y) w' := by
  have H0 := Lib.hid h
  clear h
  go_enter Try.func46, Try.ntmps46
  have hS := keep3 m_m m_x m_y H0.out.x
  go_wp2_with fail
  go_region_held3 (fun w' => (w'.cell? ⟨b_m, 0, none⟩ = some (.pointer (some ⟨bm, 0, none⟩)) ∧ w'.cell? ⟨b_x, 0, none⟩ = some (.int .i64 x) ∧ w'.cell? ⟨b_y, 0, none⟩ = some (.int .i64 y)) ∧ EnvX B w0 bm l w')
    (first | exact hS | exact keep3 m_m m_x m_y H0.out.x.drew | exact keep3 m_m m_x m_y (Env.x (by assumption)) | exact keep3 m_m m_x m_y (EnvX.drew (And.right (by assumption))) | exact keep3 m_m m_x m_y (EnvX.alloc (Env.x (by assumption)) _) | exact keep3 m_m m_x m_y (EnvX.alloc (And.right (by assumption)) _))
    (first | (go_at_call 31; (refine (math_any ⟨#[60]⟩ x y h_x h_y (by decide) H0.out.drew).mono ?_); rintro e w1 ⟨rfl, e10⟩; have e1 : Env B w0 bm l (n + 1) (less21_1 c k x y) k w1 := e10; clear e10) | (go_at_call 34; (refine (back_any e1 ((Below.refl _ _).alloc (Nat.le_refl _) _) (rInts_all [c.vars] (Nat.le_refl _) (lens rfl) (ini1 (InI.vars H0.out)) (new_one _ _))).mono ?_); rintro e w2 ⟨rfl, e20⟩; have e2 : Env B w0 bm l n (less21_2 c k x y) k w2 := e20; clear e20))
  all_goals
    have hr1 := InI.vars H0.out
    have H2 := Lib.hid e2
    clear hS
    go_wp2_with fail
    exact bodyPost_end (results_none (by kernel_rfl) _ _ _) rfl ⟨rfl, H2.out⟩
def add1_1 (c : PCode) (k : Nat) (v : Int) : PCode := mathF c k ⟨#[43]⟩ 0 1
theorem add1_1_len (c : PCode) (k : Nat) (v : Int) : (add1_1 c k v).blocks.length = c.blocks.length + 0 := by
  simp only [add1_1, mathF_len, konstF_len, loadF_len, allocF_len, setF_len, storeF_len, backF_len, freshF_len, copyF_len, whenOut_len, whenIn_len, countOut_len, countIn_len] <;> try omega
def add1_2 (c : PCode) (k : Nat) (v : Int) : PCode := storeF (add1_1 c k v) k c.vars 0 3
theorem add1_2_len (c : PCode) (k : Nat) (v : Int) : (add1_2 c k v).blocks.length = c.blocks.length + 0 := by
  simp only [add1_2, mathF_len, konstF_len, loadF_len, allocF_len, setF_len, storeF_len, backF_len, freshF_len, copyF_len, whenOut_len, whenIn_len, countOut_len, countIn_len, add1_1_len] <;> try omega
def add1_3 (c : PCode) (k : Nat) (v : Int) : PCode := backF (add1_2 c k v) k [0, v, 2]
theorem add1_3_len (c : PCode) (k : Nat) (v : Int) : (add1_3 c k v).blocks.length = c.blocks.length + 0 := by
  simp only [add1_3, mathF_len, konstF_len, loadF_len, allocF_len, setF_len, storeF_len, backF_len, freshF_len, copyF_len, whenOut_len, whenIn_len, countOut_len, countIn_len, add1_2_len] <;> try omega
def add1_F (c : PCode) (k : Nat) (v : Int) : PCode := (add1_3 c k v)
def add1_K (c : PCode) (k : Nat) (v : Int) : Nat := k
theorem add1_len (c : PCode) (k : Nat) (v : Int) : (add1_F c k v).blocks.length = c.blocks.length + 0 := add1_3_len c k v
theorem enters_add1 : Enters Try.prog 47 := enters_of Try.func47 (by kernel_rfl) (by kernel_rfl)
set_option maxHeartbeats 8000000 in
theorem add1_any {b_m b_v : Nat} {v : Int} (h_v : InI v) (m_m : (b_m, 0, Value.pointer (some ⟨bm, 0, none⟩)) ∈ l) (m_v : (b_v, 0, Value.int .i64 v) ∈ l) (h : Env B w0 bm l (n + 4) c k w) :
    Calls Try.prog 47 #[.pointer (some ⟨b_m, 0, none⟩), .pointer (some ⟨b_v, 0, none⟩)] w fun e w' => e = .returned (.tuple #[]) ∧ Env B w0 bm l n (add1_F c k v) (add1_K c k v) w' := by
  have hz_0 : InI 0 := ini rfl
  have hz_1 : InI 1 := ini rfl
  have hz_2 : InI 2 := ini rfl
  have hz_3 : InI 3 := ini rfl
  have H0 := Lib.hid h
  clear h
  go_enter Try.func47, Try.ntmps47
  have hS := keep2 m_m m_v H0.out.x
  go_wp2_with fail
  go_region_held3 (fun w' => (w'.cell? ⟨b_m, 0, none⟩ = some (.pointer (some ⟨bm, 0, none⟩)) ∧ w'.cell? ⟨b_v, 0, none⟩ = some (.int .i64 v)) ∧ EnvX B w0 bm l w')
    (first | exact hS | exact keep2 m_m m_v H0.out.x.drew | exact keep2 m_m m_v (Env.x (by assumption)) | exact keep2 m_m m_v (EnvX.drew (And.right (by assumption))) | exact keep2 m_m m_v (EnvX.alloc (Env.x (by assumption)) _) | exact keep2 m_m m_v (EnvX.alloc (And.right (by assumption)) _))
    (first | (go_at_call 31; (refine (math_any ⟨#[43]⟩ 0 1 hz_0 hz_1 (by decide) H0.out.drew).mono ?_); rintro e w1 ⟨rfl, e10⟩; have e1 : Env B w0 bm l (n + 2) (add1_1 c k v) k w1 := e10; clear e10) | (go_at_call 48; (refine (store_any c.vars 0 3 (InI.vars H0.out) hz_0 hz_3 e1).mono ?_); rintro e w2 ⟨rfl, e20⟩; have e2 : Env B w0 bm l (n + 1) (add1_2 c k v) k w2 := e20; clear e20))
  all_goals
    have hr1 := InI.vars H0.out
    have H2 := Lib.hid e2
    clear hS
    have q_m := H2.out.cell m_m
    have q_v := H2.out.cell m_v
    go_wp2_with fail
    clear q_m q_v
    refine (back_any H2.out ((Below.refl _ _).alloc (Nat.le_refl _) _) (rInts_all [0, v, 2] (Nat.le_refl _) (lens rfl) (ini3 hz_0 h_v hz_2) (new_one _ _))).mono ?_
    rintro e w3 ⟨rfl, e30⟩
    have e3 : Env B w0 bm l n (add1_3 c k v) k w3 := e30
    have H3 := Lib.hid e3
    clear e3 e30
    go_wp2_with fail
    exact bodyPost_end (results_none (by kernel_rfl) _ _ _) rfl ⟨rfl, H3.out⟩
def add2_1 (c : PCode) (k : Nat) (v : Int) : PCode := konstF c k 4
theorem add2_1_len (c : PCode) (k : Nat) (v : Int) : (add2_1 c k v).blocks.length = c.blocks.length + 0 := by
  simp only [add2_1, mathF_len, konstF_len, loadF_len, allocF_len, setF_len, storeF_len, backF_len, freshF_len, copyF_len, whenOut_len, whenIn_len, countOut_len, countIn_len] <;> try omega
def add2_2 (c : PCode) (k : Nat) (v : Int) : PCode := setF (add2_1 c k v) k v c.vars
theorem add2_2_len (c : PCode) (k : Nat) (v : Int) : (add2_2 c k v).blocks.length = c.blocks.length + 0 := by
  simp only [add2_2, mathF_len, konstF_len, loadF_len, allocF_len, setF_len, storeF_len, backF_len, freshF_len, copyF_len, whenOut_len, whenIn_len, countOut_len, countIn_len, add2_1_len] <;> try omega
def add2_F (c : PCode) (k : Nat) (v : Int) : PCode := (add2_2 c k v)
def add2_K (c : PCode) (k : Nat) (v : Int) : Nat := k
theorem add2_len (c : PCode) (k : Nat) (v : Int) : (add2_F c k v).blocks.length = c.blocks.length + 0 := add2_2_len c k v
theorem enters_add2 : Enters Try.prog 49 := enters_of Try.func49 (by kernel_rfl) (by kernel_rfl)
set_option maxHeartbeats 8000000 in
theorem add2_any {b_m b_v : Nat} {v : Int} (h_v : InI v) (m_m : (b_m, 0, Value.pointer (some ⟨bm, 0, none⟩)) ∈ l) (m_v : (b_v, 0, Value.int .i64 v) ∈ l) (h : Env B w0 bm l (n + 3) c k w) :
    Calls Try.prog 49 #[.pointer (some ⟨b_m, 0, none⟩), .pointer (some ⟨b_v, 0, none⟩)] w fun e w' => e = .returned (.tuple #[]) ∧ Env B w0 bm l n (add2_F c k v) (add2_K c k v) w' := by
  have hz_4 : InI 4 := ini rfl
  have H0 := Lib.hid h
  clear h
  go_enter Try.func49, Try.ntmps49
  have hS := keep2 m_m m_v H0.out.x
  go_wp2_with fail
  go_region_held3 (fun w' => (w'.cell? ⟨b_m, 0, none⟩ = some (.pointer (some ⟨bm, 0, none⟩)) ∧ w'.cell? ⟨b_v, 0, none⟩ = some (.int .i64 v)) ∧ EnvX B w0 bm l w')
    (first | exact hS | exact keep2 m_m m_v H0.out.x.drew | exact keep2 m_m m_v (Env.x (by assumption)) | exact keep2 m_m m_v (EnvX.drew (And.right (by assumption))) | exact keep2 m_m m_v (EnvX.alloc (Env.x (by assumption)) _) | exact keep2 m_m m_v (EnvX.alloc (And.right (by assumption)) _))
    (first | (go_at_call 35; (refine (konst_any 4 hz_4 H0.out.drew).mono ?_); rintro e w1 ⟨rfl, e10⟩; have e1 : Env B w0 bm l (n + 1) (add2_1 c k v) k w1 := e10; clear e10) | (go_at_call 43; (refine (set_any v c.vars h_v (InI.vars H0.out) e1).mono ?_); rintro e w2 ⟨rfl, e20⟩; have e2 : Env B w0 bm l n (add2_2 c k v) k w2 := e20; clear e20))
  all_goals
    have hr1 := InI.vars H0.out
    have H2 := Lib.hid e2
    clear hS
    go_wp2_with fail
    exact bodyPost_end (results_none (by kernel_rfl) _ _ _) rfl ⟨rfl, H2.out⟩
def find111_1 (c : PCode) (k : Nat) (at_ : Int) : PCode := backF c k [at_]
theorem find111_1_len (c : PCode) (k : Nat) (at_ : Int) : (find111_1 c k at_).blocks.length = c.blocks.length + 0 := by
  simp only [find111_1, mathF_len, konstF_len, loadF_len, allocF_len, setF_len, storeF_len, backF_len, freshF_len, copyF_len, whenOut_len, whenIn_len, countOut_len, countIn_len] <;> try omega
def find111_F (c : PCode) (k : Nat) (at_ : Int) : PCode := (find111_1 c k at_)
def find111_K (c : PCode) (k : Nat) (at_ : Int) : Nat := k
theorem find111_len (c : PCode) (k : Nat) (at_ : Int) : (find111_F c k at_).blocks.length = c.blocks.length + 0 := find111_1_len c k at_
theorem enters_find111 : Enters Try.prog 52 := enters_of Try.func52 (by kernel_rfl) (by kernel_rfl)
set_option maxHeartbeats 8000000 in
theorem find111_any {b_m b_at_ : Nat} {at_ : Int} (h_at_ : InI at_) (m_m : (b_m, 0, Value.pointer (some ⟨bm, 0, none⟩)) ∈ l) (m_at_ : (b_at_, 0, Value.int .i64 at_) ∈ l) (h : Env B w0 bm l (n + 1) c k w) :
    Calls Try.prog 52 #[.pointer (some ⟨b_m, 0, none⟩), .pointer (some ⟨b_at_, 0, none⟩)] w fun e w' => e = .returned (.tuple #[]) ∧ Env B w0 bm l n (find111_F c k at_) (find111_K c k at_) w' := by
  have H0 := Lib.hid h
  clear h
  go_enter Try.func52, Try.ntmps52
  have q_m := H0.out.cell m_m
  have q_at_ := H0.out.cell m_at_
  go_wp2_with fail
  clear q_m q_at_
  refine (back_any H0.out ((Below.refl _ _).alloc (Nat.le_refl _) _) (rInts_all [at_] (Nat.le_refl _) (lens rfl) (ini1 h_at_) (new_one _ _))).mono ?_
  rintro e w1 ⟨rfl, e10⟩
  have e1 : Env B w0 bm l n (find111_1 c k at_) k w1 := e10
  have H1 := Lib.hid e1
  clear e1 e10
  go_wp2_with fail
  exact bodyPost_end (results_none (by kernel_rfl) _ _ _) rfl ⟨rfl, H1.out⟩
def find11_1 (c : PCode) (k : Nat) (at_ : Int) : PCode := loadF c k at_ 0
theorem find11_1_len (c : PCode) (k : Nat) (at_ : Int) : (find11_1 c k at_).blocks.length = c.blocks.length + 0 := by
  simp only [find11_1, mathF_len, konstF_len, loadF_len, allocF_len, setF_len, storeF_len, backF_len, freshF_len, copyF_len, whenOut_len, whenIn_len, countOut_len, countIn_len] <;> try omega
def find11_2 (c : PCode) (k : Nat) (at_ : Int) : PCode := mathF (find11_1 c k at_) k ⟨#[61, 61]⟩ c.vars 1
theorem find11_2_len (c : PCode) (k : Nat) (at_ : Int) : (find11_2 c k at_).blocks.length = c.blocks.length + 0 := by
  simp only [find11_2, mathF_len, konstF_len, loadF_len, allocF_len, setF_len, storeF_len, backF_len, freshF_len, copyF_len, whenOut_len, whenIn_len, countOut_len, countIn_len, find11_1_len] <;> try omega
def find11_3 (c : PCode) (k : Nat) (at_ : Int) : PCode := whenOut (find111_F (whenIn (find11_2 c k at_) k (find11_1 c k at_).vars) (find11_2 c k at_).blocks.length at_) (find111_K (whenIn (find11_2 c k at_) k (find11_1 c k at_).vars) (find11_2 c k at_).blocks.length at_) (((find11_2 c k at_).blocks.length : Int) + 1)
theorem find11_3_len (c : PCode) (k : Nat) (at_ : Int) : (find11_3 c k at_).blocks.length = c.blocks.length + 2 := by
  simp only [find11_3, mathF_len, konstF_len, loadF_len, allocF_len, setF_len, storeF_len, backF_len, freshF_len, copyF_len, whenOut_len, whenIn_len, countOut_len, countIn_len, find111_len, find11_2_len] <;> try omega
def find11_F (c : PCode) (k : Nat) (at_ : Int) : PCode := (find11_3 c k at_)
def find11_K (c : PCode) (k : Nat) (at_ : Int) : Nat := ((find11_2 c k at_).blocks.length + 1)
theorem find11_len (c : PCode) (k : Nat) (at_ : Int) : (find11_F c k at_).blocks.length = c.blocks.length + 2 := find11_3_len c k at_
theorem enters_find11 : Enters Try.prog 51 := enters_of Try.func51 (by kernel_rfl) (by kernel_rfl)
set_option maxHeartbeats 8000000 in
theorem find11_any {b_m b_at_ : Nat} {at_ : Int} (h_at_ : InI at_) (m_m : (b_m, 0, Value.pointer (some ⟨bm, 0, none⟩)) ∈ l) (m_at_ : (b_at_, 0, Value.int .i64 at_) ∈ l) (h : Env B w0 bm l (n + 9) c k w) :
    Calls Try.prog 51 #[.pointer (some ⟨b_m, 0, none⟩), .pointer (some ⟨b_at_, 0, none⟩)] w fun e w' => e = .returned (.tuple #[]) ∧ Env B w0 bm l n (find11_F c k at_) (find11_K c k at_) w' := by
  have hz_0 : InI 0 := ini rfl
  have hz_1 : InI 1 := ini rfl
  have H0 := Lib.hid h
  clear h
  go_enter Try.func51, Try.ntmps51
  have hS := keep2 m_m m_at_ H0.out.x
  go_wp2_with fail
  go_region_held3 (fun w' => (w'.cell? ⟨b_m, 0, none⟩ = some (.pointer (some ⟨bm, 0, none⟩)) ∧ w'.cell? ⟨b_at_, 0, none⟩ = some (.int .i64 at_)) ∧ EnvX B w0 bm l w')
    (first | exact hS | exact keep2 m_m m_at_ H0.out.x.drew | exact keep2 m_m m_at_ (Env.x (by assumption)) | exact keep2 m_m m_at_ (EnvX.drew (And.right (by assumption))) | exact keep2 m_m m_at_ (EnvX.alloc (Env.x (by assumption)) _) | exact keep2 m_m m_at_ (EnvX.alloc (And.right (by assumption)) _))
    (first | (go_at_call 40; (refine (load_any at_ 0 h_at_ hz_0 H0.out.drew).mono ?_); rintro e w1 ⟨rfl, e10⟩; have e1 : Env B w0 bm l (n + 7) (find11_1 c k at_) k w1 := e10; clear e10) | (go_at_call 31; (refine (math_any ⟨#[61, 61]⟩ c.vars 1 (InI.vars H0.out) hz_1 (by decide) e1).mono ?_); rintro e w2 ⟨rfl, e20⟩; have e2 : Env B w0 bm l (n + 5) (find11_2 c k at_) k w2 := e20; clear e20) | (go_at_call 36; (refine (when_any (ba := #[]) (m := n + 2) (n := n + 0) (c3 := find111_F (whenIn (find11_2 c k at_) k (find11_1 c k at_).vars) (find11_2 c k at_).blocks.length at_) (k3 := find111_K (whenIn (find11_2 c k at_) k (find11_1 c k at_).vars) (find11_2 c k at_).blocks.length at_) (InI.vars e1) enters_find111 e2 (fun w2 e2 => by exact find111_any h_at_ m_m m_at_ e2) (by rw [find111_len, whenIn_len]; omega)).mono ?_); rintro e w3 ⟨rfl, e30⟩; have e3 : Env B w0 bm l n (find11_3 c k at_) ((find11_2 c k at_).blocks.length + 1) w3 := e30; clear e30))
  all_goals
    have hr1 := InI.vars H0.out
    have hr2 := InI.vars e1
    have H3 := Lib.hid e3
    clear hS
    go_wp2_with fail
    exact bodyPost_end (results_none (by kernel_rfl) _ _ _) rfl ⟨rfl, H3.out⟩
def find1_1 (c : PCode) (k : Nat) (i : Int) (at_ : Int) : PCode := loadF c k at_ 2
theorem find1_1_len (c : PCode) (k : Nat) (i : Int) (at_ : Int) : (find1_1 c k i at_).blocks.length = c.blocks.length + 0 := by
  simp only [find1_1, mathF_len, konstF_len, loadF_len, allocF_len, setF_len, storeF_len, backF_len, freshF_len, copyF_len, whenOut_len, whenIn_len, countOut_len, countIn_len] <;> try omega
def find1_2 (c : PCode) (k : Nat) (i : Int) (at_ : Int) : PCode := whenOut (find11_F (whenIn (find1_1 c k i at_) k c.vars) (find1_1 c k i at_).blocks.length at_) (find11_K (whenIn (find1_1 c k i at_) k c.vars) (find1_1 c k i at_).blocks.length at_) (((find1_1 c k i at_).blocks.length : Int) + 1)
theorem find1_2_len (c : PCode) (k : Nat) (i : Int) (at_ : Int) : (find1_2 c k i at_).blocks.length = c.blocks.length + 4 := by
  simp only [find1_2, mathF_len, konstF_len, loadF_len, allocF_len, setF_len, storeF_len, backF_len, freshF_len, copyF_len, whenOut_len, whenIn_len, countOut_len, countIn_len, find11_len, find1_1_len] <;> try omega
def find1_3 (c : PCode) (k : Nat) (i : Int) (at_ : Int) : PCode := konstF (find1_2 c k i at_) ((find1_1 c k i at_).blocks.length + 1) 3
theorem find1_3_len (c : PCode) (k : Nat) (i : Int) (at_ : Int) : (find1_3 c k i at_).blocks.length = c.blocks.length + 4 := by
  simp only [find1_3, mathF_len, konstF_len, loadF_len, allocF_len, setF_len, storeF_len, backF_len, freshF_len, copyF_len, whenOut_len, whenIn_len, countOut_len, countIn_len, find1_2_len] <;> try omega
def find1_4 (c : PCode) (k : Nat) (i : Int) (at_ : Int) : PCode := mathF (find1_3 c k i at_) ((find1_1 c k i at_).blocks.length + 1) ⟨#[43]⟩ at_ (find1_2 c k i at_).vars
theorem find1_4_len (c : PCode) (k : Nat) (i : Int) (at_ : Int) : (find1_4 c k i at_).blocks.length = c.blocks.length + 4 := by
  simp only [find1_4, mathF_len, konstF_len, loadF_len, allocF_len, setF_len, storeF_len, backF_len, freshF_len, copyF_len, whenOut_len, whenIn_len, countOut_len, countIn_len, find1_3_len] <;> try omega
def find1_5 (c : PCode) (k : Nat) (i : Int) (at_ : Int) : PCode := setF (find1_4 c k i at_) ((find1_1 c k i at_).blocks.length + 1) at_ (find1_3 c k i at_).vars
theorem find1_5_len (c : PCode) (k : Nat) (i : Int) (at_ : Int) : (find1_5 c k i at_).blocks.length = c.blocks.length + 4 := by
  simp only [find1_5, mathF_len, konstF_len, loadF_len, allocF_len, setF_len, storeF_len, backF_len, freshF_len, copyF_len, whenOut_len, whenIn_len, countOut_len, countIn_len, find1_4_len] <;> try omega
def find1_F (c : PCode) (k : Nat) (i : Int) (at_ : Int) : PCode := (find1_5 c k i at_)
def find1_K (c : PCode) (k : Nat) (i : Int) (at_ : Int) : Nat := ((find1_1 c k i at_).blocks.length + 1)
theorem find1_len (c : PCode) (k : Nat) (i : Int) (at_ : Int) : (find1_F c k i at_).blocks.length = c.blocks.length + 4 := find1_5_len c k i at_
theorem enters_find1 : Enters Try.prog 50 := enters_of Try.func50 (by kernel_rfl) (by kernel_rfl)
set_option maxHeartbeats 8000000 in
theorem find1_any {b_m b_at_ : Nat} {i at_ : Int} (h_i : InI i) (h_at_ : InI at_) (m_m : (b_m, 0, Value.pointer (some ⟨bm, 0, none⟩)) ∈ l) (m_at_ : (b_at_, 0, Value.int .i64 at_) ∈ l) (h : Env B w0 bm l (n + 20) c k w) :
    Calls Try.prog 50 #[.int .i64 i, .pointer (some ⟨b_m, 0, none⟩), .pointer (some ⟨b_at_, 0, none⟩)] w fun e w' => e = .returned (.tuple #[]) ∧ Env B w0 bm l n (find1_F c k i at_) (find1_K c k i at_) w' := by
  have hz_2 : InI 2 := ini rfl
  have hz_3 : InI 3 := ini rfl
  have H0 := Lib.hid h
  clear h
  go_enter Try.func50, Try.ntmps50
  have hS := keep2 m_m m_at_ H0.out.x
  go_wp2_with fail
  go_region_held3 (fun w' => (w'.cell? ⟨b_m, 0, none⟩ = some (.pointer (some ⟨bm, 0, none⟩)) ∧ w'.cell? ⟨b_at_, 0, none⟩ = some (.int .i64 at_)) ∧ EnvX B w0 bm l w')
    (first | exact hS | exact keep2 m_m m_at_ H0.out.x.drew | exact keep2 m_m m_at_ (Env.x (by assumption)) | exact keep2 m_m m_at_ (EnvX.drew (And.right (by assumption))) | exact keep2 m_m m_at_ (EnvX.alloc (Env.x (by assumption)) _) | exact keep2 m_m m_at_ (EnvX.alloc (And.right (by assumption)) _))
    (first | (go_at_call 40; (refine (load_any at_ 2 h_at_ hz_2 H0.out.drew).mono ?_); rintro e w1 ⟨rfl, e10⟩; have e1 : Env B w0 bm l (n + 18) (find1_1 c k i at_) k w1 := e10; clear e10) | (go_at_call 36; (refine (when_any (ba := #[]) (m := n + 15) (n := n + 5) (c3 := find11_F (whenIn (find1_1 c k i at_) k c.vars) (find1_1 c k i at_).blocks.length at_) (k3 := find11_K (whenIn (find1_1 c k i at_) k c.vars) (find1_1 c k i at_).blocks.length at_) (InI.vars H0.out) enters_find11 e1 (fun w2 e2 => by exact find11_any h_at_ m_m m_at_ e2) (by rw [find11_len, whenIn_len]; omega)).mono ?_); rintro e w2 ⟨rfl, e20⟩; have e2 : Env B w0 bm l (n + 5) (find1_2 c k i at_) ((find1_1 c k i at_).blocks.length + 1) w2 := e20; clear e20))
  all_goals
    have hr1 := InI.vars H0.out
    have H2 := Lib.hid e2
    clear hS
    have hS := keep2 m_m m_at_ H2.out.x
    go_wp2_with fail
    go_region_held3 (fun w' => (w'.cell? ⟨b_m, 0, none⟩ = some (.pointer (some ⟨bm, 0, none⟩)) ∧ w'.cell? ⟨b_at_, 0, none⟩ = some (.int .i64 at_)) ∧ EnvX B w0 bm l w')
      (first | exact hS | exact keep2 m_m m_at_ H2.out.x.drew | exact keep2 m_m m_at_ (Env.x (by assumption)) | exact keep2 m_m m_at_ (EnvX.drew (And.right (by assumption))) | exact keep2 m_m m_at_ (EnvX.alloc (Env.x (by assumption)) _) | exact keep2 m_m m_at_ (EnvX.alloc (And.right (by assumption)) _))
      (first | (go_at_call 35; (refine (konst_any 3 hz_3 H2.out.drew).mono ?_); rintro e w3 ⟨rfl, e30⟩; have e3 : Env B w0 bm l (n + 3) (find1_3 c k i at_) ((find1_1 c k i at_).blocks.length + 1) w3 := e30; clear e30) | (go_at_call 31; (refine (math_any ⟨#[43]⟩ at_ (find1_2 c k i at_).vars h_at_ (InI.vars H2.out) (by decide) e3).mono ?_); rintro e w4 ⟨rfl, e40⟩; have e4 : Env B w0 bm l (n + 1) (find1_4 c k i at_) ((find1_1 c k i at_).blocks.length + 1) w4 := e40; clear e40) | (go_at_call 43; (refine (set_any at_ (find1_3 c k i at_).vars h_at_ (InI.vars e3) e4).mono ?_); rintro e w5 ⟨rfl, e50⟩; have e5 : Env B w0 bm l n (find1_5 c k i at_) ((find1_1 c k i at_).blocks.length + 1) w5 := e50; clear e50))
    all_goals
      have hr3 := InI.vars H2.out
      have hr4 := InI.vars e3
      have H5 := Lib.hid e5
      clear hS
      go_wp2_with fail
      exact bodyPost_end (results_none (by kernel_rfl) _ _ _) rfl ⟨rfl, H5.out⟩
def get1_1 (c : PCode) (k : Nat) (v : Int) : PCode := backF c k [v]
theorem get1_1_len (c : PCode) (k : Nat) (v : Int) : (get1_1 c k v).blocks.length = c.blocks.length + 0 := by
  simp only [get1_1, mathF_len, konstF_len, loadF_len, allocF_len, setF_len, storeF_len, backF_len, freshF_len, copyF_len, whenOut_len, whenIn_len, countOut_len, countIn_len] <;> try omega
def get1_F (c : PCode) (k : Nat) (v : Int) : PCode := (get1_1 c k v)
def get1_K (c : PCode) (k : Nat) (v : Int) : Nat := k
theorem get1_len (c : PCode) (k : Nat) (v : Int) : (get1_F c k v).blocks.length = c.blocks.length + 0 := get1_1_len c k v
theorem enters_get1 : Enters Try.prog 54 := enters_of Try.func54 (by kernel_rfl) (by kernel_rfl)
set_option maxHeartbeats 8000000 in
theorem get1_any {b_m b_v : Nat} {v : Int} (h_v : InI v) (m_m : (b_m, 0, Value.pointer (some ⟨bm, 0, none⟩)) ∈ l) (m_v : (b_v, 0, Value.int .i64 v) ∈ l) (h : Env B w0 bm l (n + 1) c k w) :
    Calls Try.prog 54 #[.pointer (some ⟨b_m, 0, none⟩), .pointer (some ⟨b_v, 0, none⟩)] w fun e w' => e = .returned (.tuple #[]) ∧ Env B w0 bm l n (get1_F c k v) (get1_K c k v) w' := by
  have H0 := Lib.hid h
  clear h
  go_enter Try.func54, Try.ntmps54
  have q_m := H0.out.cell m_m
  have q_v := H0.out.cell m_v
  go_wp2_with fail
  clear q_m q_v
  refine (back_any H0.out ((Below.refl _ _).alloc (Nat.le_refl _) _) (rInts_all [v] (Nat.le_refl _) (lens rfl) (ini1 h_v) (new_one _ _))).mono ?_
  rintro e w1 ⟨rfl, e10⟩
  have e1 : Env B w0 bm l n (get1_1 c k v) k w1 := e10
  have H1 := Lib.hid e1
  clear e1 e10
  go_wp2_with fail
  exact bodyPost_end (results_none (by kernel_rfl) _ _ _) rfl ⟨rfl, H1.out⟩
def put1_1 (c : PCode) (k : Nat) (at_ : Int) : PCode := storeF c k at_ 1 2
theorem put1_1_len (c : PCode) (k : Nat) (at_ : Int) : (put1_1 c k at_).blocks.length = c.blocks.length + 0 := by
  simp only [put1_1, mathF_len, konstF_len, loadF_len, allocF_len, setF_len, storeF_len, backF_len, freshF_len, copyF_len, whenOut_len, whenIn_len, countOut_len, countIn_len] <;> try omega
def put1_2 (c : PCode) (k : Nat) (at_ : Int) : PCode := backF (put1_1 c k at_) k []
theorem put1_2_len (c : PCode) (k : Nat) (at_ : Int) : (put1_2 c k at_).blocks.length = c.blocks.length + 0 := by
  simp only [put1_2, mathF_len, konstF_len, loadF_len, allocF_len, setF_len, storeF_len, backF_len, freshF_len, copyF_len, whenOut_len, whenIn_len, countOut_len, countIn_len, put1_1_len] <;> try omega
def put1_F (c : PCode) (k : Nat) (at_ : Int) : PCode := (put1_2 c k at_)
def put1_K (c : PCode) (k : Nat) (at_ : Int) : Nat := k
theorem put1_len (c : PCode) (k : Nat) (at_ : Int) : (put1_F c k at_).blocks.length = c.blocks.length + 0 := put1_2_len c k at_
theorem enters_put1 : Enters Try.prog 55 := enters_of Try.func55 (by kernel_rfl) (by kernel_rfl)
set_option maxHeartbeats 8000000 in
theorem put1_any {b_m b_at_ : Nat} {at_ : Int} (h_at_ : InI at_) (m_m : (b_m, 0, Value.pointer (some ⟨bm, 0, none⟩)) ∈ l) (m_at_ : (b_at_, 0, Value.int .i64 at_) ∈ l) (h : Env B w0 bm l (n + 2) c k w) :
    Calls Try.prog 55 #[.pointer (some ⟨b_m, 0, none⟩), .pointer (some ⟨b_at_, 0, none⟩)] w fun e w' => e = .returned (.tuple #[]) ∧ Env B w0 bm l n (put1_F c k at_) (put1_K c k at_) w' := by
  have hz_1 : InI 1 := ini rfl
  have hz_2 : InI 2 := ini rfl
  have H0 := Lib.hid h
  clear h
  go_enter Try.func55, Try.ntmps55
  have q_m := H0.out.cell m_m
  have q_at_ := H0.out.cell m_at_
  go_wp2_with fail
  clear q_m q_at_
  refine (store_any at_ 1 2 h_at_ hz_1 hz_2 H0.out).mono ?_
  rintro e w1 ⟨rfl, e10⟩
  have e1 : Env B w0 bm l (n + 1) (put1_1 c k at_) k w1 := e10
  have H1 := Lib.hid e1
  clear e1 e10
  have q_m := H1.out.cell m_m
  have q_at_ := H1.out.cell m_at_
  go_wp2_with fail
  clear q_m q_at_
  refine (back_any H1.out (Below.refl _ _) (rSlice_nil _ _ _ _)).mono ?_
  rintro e w2 ⟨rfl, e20⟩
  have e2 : Env B w0 bm l n (put1_2 c k at_) k w2 := e20
  have H2 := Lib.hid e2
  clear e2 e20
  go_wp2_with fail
  exact bodyPost_end (results_none (by kernel_rfl) _ _ _) rfl ⟨rfl, H2.out⟩
def put2_1 (c : PCode) (k : Nat) (room : Int) (v : Int) : PCode := mathF c k ⟨#[43]⟩ room room
theorem put2_1_len (c : PCode) (k : Nat) (room : Int) (v : Int) : (put2_1 c k room v).blocks.length = c.blocks.length + 0 := by
  simp only [put2_1, mathF_len, konstF_len, loadF_len, allocF_len, setF_len, storeF_len, backF_len, freshF_len, copyF_len, whenOut_len, whenIn_len, countOut_len, countIn_len] <;> try omega
def put2_2 (c : PCode) (k : Nat) (room : Int) (v : Int) : PCode := konstF (put2_1 c k room v) k 3
theorem put2_2_len (c : PCode) (k : Nat) (room : Int) (v : Int) : (put2_2 c k room v).blocks.length = c.blocks.length + 0 := by
  simp only [put2_2, mathF_len, konstF_len, loadF_len, allocF_len, setF_len, storeF_len, backF_len, freshF_len, copyF_len, whenOut_len, whenIn_len, countOut_len, countIn_len, put2_1_len] <;> try omega
def put2_3 (c : PCode) (k : Nat) (room : Int) (v : Int) : PCode := mathF (put2_2 c k room v) k ⟨#[42]⟩ c.vars (put2_1 c k room v).vars
theorem put2_3_len (c : PCode) (k : Nat) (room : Int) (v : Int) : (put2_3 c k room v).blocks.length = c.blocks.length + 0 := by
  simp only [put2_3, mathF_len, konstF_len, loadF_len, allocF_len, setF_len, storeF_len, backF_len, freshF_len, copyF_len, whenOut_len, whenIn_len, countOut_len, countIn_len, put2_2_len] <;> try omega
def put2_4 (c : PCode) (k : Nat) (room : Int) (v : Int) : PCode := allocF (put2_3 c k room v) k (put2_2 c k room v).vars
theorem put2_4_len (c : PCode) (k : Nat) (room : Int) (v : Int) : (put2_4 c k room v).blocks.length = c.blocks.length + 0 := by
  simp only [put2_4, mathF_len, konstF_len, loadF_len, allocF_len, setF_len, storeF_len, backF_len, freshF_len, copyF_len, whenOut_len, whenIn_len, countOut_len, countIn_len, put2_3_len] <;> try omega
def put2_5 (c : PCode) (k : Nat) (room : Int) (v : Int) : PCode := loadF (put2_4 c k room v) k 0 2
theorem put2_5_len (c : PCode) (k : Nat) (room : Int) (v : Int) : (put2_5 c k room v).blocks.length = c.blocks.length + 0 := by
  simp only [put2_5, mathF_len, konstF_len, loadF_len, allocF_len, setF_len, storeF_len, backF_len, freshF_len, copyF_len, whenOut_len, whenIn_len, countOut_len, countIn_len, put2_4_len] <;> try omega
def put2_6 (c : PCode) (k : Nat) (room : Int) (v : Int) : PCode := mathF (put2_5 c k room v) k ⟨#[42]⟩ v (put2_1 c k room v).vars
theorem put2_6_len (c : PCode) (k : Nat) (room : Int) (v : Int) : (put2_6 c k room v).blocks.length = c.blocks.length + 0 := by
  simp only [put2_6, mathF_len, konstF_len, loadF_len, allocF_len, setF_len, storeF_len, backF_len, freshF_len, copyF_len, whenOut_len, whenIn_len, countOut_len, countIn_len, put2_5_len] <;> try omega
def put2_7 (c : PCode) (k : Nat) (room : Int) (v : Int) : PCode := copyF (put2_6 c k room v) k (put2_3 c k room v).vars (put2_4 c k room v).vars (put2_5 c k room v).vars
theorem put2_7_len (c : PCode) (k : Nat) (room : Int) (v : Int) : (put2_7 c k room v).blocks.length = c.blocks.length + 3 := by
  simp only [put2_7, mathF_len, konstF_len, loadF_len, allocF_len, setF_len, storeF_len, backF_len, freshF_len, copyF_len, whenOut_len, whenIn_len, countOut_len, countIn_len, put2_6_len] <;> try omega
def put2_8 (c : PCode) (k : Nat) (room : Int) (v : Int) : PCode := storeF (put2_7 c k room v) ((put2_6 c k room v).blocks.length + 2) 0 1 c.vars
theorem put2_8_len (c : PCode) (k : Nat) (room : Int) (v : Int) : (put2_8 c k room v).blocks.length = c.blocks.length + 3 := by
  simp only [put2_8, mathF_len, konstF_len, loadF_len, allocF_len, setF_len, storeF_len, backF_len, freshF_len, copyF_len, whenOut_len, whenIn_len, countOut_len, countIn_len, put2_7_len] <;> try omega
def put2_9 (c : PCode) (k : Nat) (room : Int) (v : Int) : PCode := storeF (put2_8 c k room v) ((put2_6 c k room v).blocks.length + 2) 0 2 (put2_3 c k room v).vars
theorem put2_9_len (c : PCode) (k : Nat) (room : Int) (v : Int) : (put2_9 c k room v).blocks.length = c.blocks.length + 3 := by
  simp only [put2_9, mathF_len, konstF_len, loadF_len, allocF_len, setF_len, storeF_len, backF_len, freshF_len, copyF_len, whenOut_len, whenIn_len, countOut_len, countIn_len, put2_8_len] <;> try omega
def put2_F (c : PCode) (k : Nat) (room : Int) (v : Int) : PCode := (put2_9 c k room v)
def put2_K (c : PCode) (k : Nat) (room : Int) (v : Int) : Nat := ((put2_6 c k room v).blocks.length + 2)
theorem put2_len (c : PCode) (k : Nat) (room : Int) (v : Int) : (put2_F c k room v).blocks.length = c.blocks.length + 3 := put2_9_len c k room v
theorem enters_put2 : Enters Try.prog 56 := enters_of Try.func56 (by kernel_rfl) (by kernel_rfl)
set_option maxHeartbeats 8000000 in
theorem put2_any {b_m b_room b_v : Nat} {room v : Int} (h_room : InI room) (h_v : InI v) (m_m : (b_m, 0, Value.pointer (some ⟨bm, 0, none⟩)) ∈ l) (m_room : (b_room, 0, Value.int .i64 room) ∈ l) (m_v : (b_v, 0, Value.int .i64 v) ∈ l) (h : Env B w0 bm l (n + 38) c k w) :
    Calls Try.prog 56 #[.pointer (some ⟨b_m, 0, none⟩), .pointer (some ⟨b_room, 0, none⟩), .pointer (some ⟨b_v, 0, none⟩)] w fun e w' => e = .returned (.tuple #[]) ∧ Env B w0 bm l n (put2_F c k room v) (put2_K c k room v) w' := by
  have hz_0 : InI 0 := ini rfl
  have hz_1 : InI 1 := ini rfl
  have hz_2 : InI 2 := ini rfl
  have hz_3 : InI 3 := ini rfl
  have H0 := Lib.hid h
  clear h
  go_enter Try.func56, Try.ntmps56
  have q_m := H0.out.cell m_m
  have q_room := H0.out.cell m_room
  have q_v := H0.out.cell m_v
  go_wp2_with fail
  clear q_m q_room q_v
  refine (math_any ⟨#[43]⟩ room room h_room h_room (by decide) H0.out).mono ?_
  rintro e w1 ⟨rfl, e10⟩
  have e1 : Env B w0 bm l (n + 36) (put2_1 c k room v) k w1 := e10
  have hr1 := InI.vars H0.out
  have H1 := Lib.hid e1
  clear e1 e10
  have q_m := H1.out.cell m_m
  have q_room := H1.out.cell m_room
  have q_v := H1.out.cell m_v
  go_wp2_with fail
  clear q_m q_room q_v
  refine (konst_any 3 hz_3 H1.out).mono ?_
  rintro e w2 ⟨rfl, e20⟩
  have e2 : Env B w0 bm l (n + 34) (put2_2 c k room v) k w2 := e20
  have hr2 := InI.vars H1.out
  have H2 := Lib.hid e2
  clear e2 e20
  have hS := keep3 m_m m_room m_v H2.out.x
  go_wp2_with fail
  go_region_held3 (fun w' => (w'.cell? ⟨b_m, 0, none⟩ = some (.pointer (some ⟨bm, 0, none⟩)) ∧ w'.cell? ⟨b_room, 0, none⟩ = some (.int .i64 room) ∧ w'.cell? ⟨b_v, 0, none⟩ = some (.int .i64 v)) ∧ EnvX B w0 bm l w')
    (first | exact hS | exact keep3 m_m m_room m_v H2.out.x.drew | exact keep3 m_m m_room m_v (Env.x (by assumption)) | exact keep3 m_m m_room m_v (EnvX.drew (And.right (by assumption))) | exact keep3 m_m m_room m_v (EnvX.alloc (Env.x (by assumption)) _) | exact keep3 m_m m_room m_v (EnvX.alloc (And.right (by assumption)) _))
    (first | (go_at_call 31; (refine (math_any ⟨#[42]⟩ c.vars (put2_1 c k room v).vars hr1 hr2 (by decide) H2.out.drew).mono ?_); rintro e w3 ⟨rfl, e30⟩; have e3 : Env B w0 bm l (n + 32) (put2_3 c k room v) k w3 := e30; clear e30) | (go_at_call 32; (refine (alloc_any (put2_2 c k room v).vars (InI.vars H2.out) e3).mono ?_); rintro e w4 ⟨rfl, e40⟩; have e4 : Env B w0 bm l (n + 30) (put2_4 c k room v) k w4 := e40; clear e40))
  all_goals
    have hr3 := InI.vars H2.out
    have hr4 := InI.vars e3
    have H4 := Lib.hid e4
    clear hS
    have hS := keep3 m_m m_room m_v H4.out.x
    go_wp2_with fail
    go_region_held3 (fun w' => (w'.cell? ⟨b_m, 0, none⟩ = some (.pointer (some ⟨bm, 0, none⟩)) ∧ w'.cell? ⟨b_room, 0, none⟩ = some (.int .i64 room) ∧ w'.cell? ⟨b_v, 0, none⟩ = some (.int .i64 v)) ∧ EnvX B w0 bm l w')
      (first | exact hS | exact keep3 m_m m_room m_v H4.out.x.drew | exact keep3 m_m m_room m_v (Env.x (by assumption)) | exact keep3 m_m m_room m_v (EnvX.drew (And.right (by assumption))) | exact keep3 m_m m_room m_v (EnvX.alloc (Env.x (by assumption)) _) | exact keep3 m_m m_room m_v (EnvX.alloc (And.right (by assumption)) _))
      (first | (go_at_call 40; (refine (load_any 0 2 hz_0 hz_2 H4.out.drew).mono ?_); rintro e w5 ⟨rfl, e50⟩; have e5 : Env B w0 bm l (n + 28) (put2_5 c k room v) k w5 := e50; clear e50) | (go_at_call 31; (refine (math_any ⟨#[42]⟩ v (put2_1 c k room v).vars h_v hr2 (by decide) e5).mono ?_); rintro e w6 ⟨rfl, e60⟩; have e6 : Env B w0 bm l (n + 26) (put2_6 c k room v) k w6 := e60; clear e60) | (go_at_call 33; (refine (copy_any hr4 (InI.vars H4.out) (InI.vars e5) e6).mono ?_); rintro e w7 ⟨rfl, e70⟩; have e7 : Env B w0 bm l (n + 2) (put2_7 c k room v) ((put2_6 c k room v).blocks.length + 2) w7 := e70; clear e70))
    all_goals
      have hr5 := InI.vars H4.out
      have hr6 := InI.vars e5
      have H7 := Lib.hid e7
      clear hS
      have q_m := H7.out.cell m_m
      have q_room := H7.out.cell m_room
      have q_v := H7.out.cell m_v
      go_wp2_with fail
      clear q_m q_room q_v
      refine (store_any 0 1 c.vars hz_0 hz_1 hr1 H7.out).mono ?_
      rintro e w8 ⟨rfl, e80⟩
      have e8 : Env B w0 bm l (n + 1) (put2_8 c k room v) ((put2_6 c k room v).blocks.length + 2) w8 := e80
      have H8 := Lib.hid e8
      clear e8 e80
      have q_m := H8.out.cell m_m
      have q_room := H8.out.cell m_room
      have q_v := H8.out.cell m_v
      go_wp2_with fail
      clear q_m q_room q_v
      refine (store_any 0 2 (put2_3 c k room v).vars hz_0 hz_2 hr4 H8.out).mono ?_
      rintro e w9 ⟨rfl, e90⟩
      have e9 : Env B w0 bm l n (put2_9 c k room v) ((put2_6 c k room v).blocks.length + 2) w9 := e90
      have H9 := Lib.hid e9
      clear e9 e90
      go_wp2_with fail
      exact bodyPost_end (results_none (by kernel_rfl) _ _ _) rfl ⟨rfl, H9.out⟩
def drop1_1 (c : PCode) (k : Nat) : PCode := backF c k []
theorem drop1_1_len (c : PCode) (k : Nat) : (drop1_1 c k).blocks.length = c.blocks.length + 0 := by
  simp only [drop1_1, mathF_len, konstF_len, loadF_len, allocF_len, setF_len, storeF_len, backF_len, freshF_len, copyF_len, whenOut_len, whenIn_len, countOut_len, countIn_len] <;> try omega
def drop1_F (c : PCode) (k : Nat) : PCode := (drop1_1 c k)
def drop1_K (c : PCode) (k : Nat) : Nat := k
theorem drop1_len (c : PCode) (k : Nat) : (drop1_F c k).blocks.length = c.blocks.length + 0 := drop1_1_len c k
theorem enters_drop1 : Enters Try.prog 57 := enters_of Try.func57 (by kernel_rfl) (by kernel_rfl)
set_option maxHeartbeats 8000000 in
theorem drop1_any {b_m : Nat} (m_m : (b_m, 0, Value.pointer (some ⟨bm, 0, none⟩)) ∈ l) (h : Env B w0 bm l (n + 1) c k w) :
    Calls Try.prog 57 #[.pointer (some ⟨b_m, 0, none⟩)] w fun e w' => e = .returned (.tuple #[]) ∧ Env B w0 bm l n (drop1_F c k) (drop1_K c k) w' := by
  have H0 := Lib.hid h
  clear h
  go_enter Try.func57, Try.ntmps57
  have q_m := H0.out.cell m_m
  go_wp2_with fail
  clear q_m
  refine (back_any H0.out (Below.refl _ _) (rSlice_nil _ _ _ _)).mono ?_
  rintro e w1 ⟨rfl, e10⟩
  have e1 : Env B w0 bm l n (drop1_1 c k) k w1 := e10
  have H1 := Lib.hid e1
  clear e1 e10
  go_wp2_with fail
  exact bodyPost_end (results_none (by kernel_rfl) _ _ _) rfl ⟨rfl, H1.out⟩
def char1_1 (c : PCode) (k : Nat) (b : Int) : PCode := konstF c k 1
theorem char1_1_len (c : PCode) (k : Nat) (b : Int) : (char1_1 c k b).blocks.length = c.blocks.length + 0 := by
  simp only [char1_1, mathF_len, konstF_len, loadF_len, allocF_len, setF_len, storeF_len, backF_len, freshF_len, copyF_len, whenOut_len, whenIn_len, countOut_len, countIn_len] <;> try omega
def char1_2 (c : PCode) (k : Nat) (b : Int) : PCode := backF (char1_1 c k b) k [b, c.vars]
theorem char1_2_len (c : PCode) (k : Nat) (b : Int) : (char1_2 c k b).blocks.length = c.blocks.length + 0 := by
  simp only [char1_2, mathF_len, konstF_len, loadF_len, allocF_len, setF_len, storeF_len, backF_len, freshF_len, copyF_len, whenOut_len, whenIn_len, countOut_len, countIn_len, char1_1_len] <;> try omega
def char1_F (c : PCode) (k : Nat) (b : Int) : PCode := (char1_2 c k b)
def char1_K (c : PCode) (k : Nat) (b : Int) : Nat := k
theorem char1_len (c : PCode) (k : Nat) (b : Int) : (char1_F c k b).blocks.length = c.blocks.length + 0 := char1_2_len c k b
theorem enters_char1 : Enters Try.prog 58 := enters_of Try.func58 (by kernel_rfl) (by kernel_rfl)
set_option maxHeartbeats 8000000 in
theorem char1_any {b_m b_b : Nat} {b : Int} (h_b : InI b) (m_m : (b_m, 0, Value.pointer (some ⟨bm, 0, none⟩)) ∈ l) (m_b : (b_b, 0, Value.int .i64 b) ∈ l) (h : Env B w0 bm l (n + 3) c k w) :
    Calls Try.prog 58 #[.pointer (some ⟨b_m, 0, none⟩), .pointer (some ⟨b_b, 0, none⟩)] w fun e w' => e = .returned (.tuple #[]) ∧ Env B w0 bm l n (char1_F c k b) (char1_K c k b) w' := by
  have hz_1 : InI 1 := ini rfl
  have H0 := Lib.hid h
  clear h
  go_enter Try.func58, Try.ntmps58
  have hS := keep2 m_m m_b H0.out.x
  go_wp2_with fail
  go_region_held3 (fun w' => (w'.cell? ⟨b_m, 0, none⟩ = some (.pointer (some ⟨bm, 0, none⟩)) ∧ w'.cell? ⟨b_b, 0, none⟩ = some (.int .i64 b)) ∧ EnvX B w0 bm l w')
    (first | exact hS | exact keep2 m_m m_b H0.out.x.drew | exact keep2 m_m m_b (Env.x (by assumption)) | exact keep2 m_m m_b (EnvX.drew (And.right (by assumption))) | exact keep2 m_m m_b (EnvX.alloc (Env.x (by assumption)) _) | exact keep2 m_m m_b (EnvX.alloc (And.right (by assumption)) _))
    (first | (go_at_call 35; (refine (konst_any 1 hz_1 H0.out.drew).mono ?_); rintro e w1 ⟨rfl, e10⟩; have e1 : Env B w0 bm l (n + 1) (char1_1 c k b) k w1 := e10; clear e10) | (go_at_call 34; (refine (back_any e1 ((Below.refl _ _).alloc (Nat.le_refl _) _) (rInts_all [b, c.vars] (Nat.le_refl _) (lens rfl) (ini2 h_b (InI.vars H0.out)) (new_one _ _))).mono ?_); rintro e w2 ⟨rfl, e20⟩; have e2 : Env B w0 bm l n (char1_2 c k b) k w2 := e20; clear e20))
  all_goals
    have hr1 := InI.vars H0.out
    have H2 := Lib.hid e2
    clear hS
    go_wp2_with fail
    exact bodyPost_end (results_none (by kernel_rfl) _ _ _) rfl ⟨rfl, H2.out⟩
end Go.Proofs.Ytaomlfbcfmmhlaa

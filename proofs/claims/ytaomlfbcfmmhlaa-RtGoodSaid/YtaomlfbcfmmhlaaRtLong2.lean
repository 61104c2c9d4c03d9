/-
  rt's long: its closure, and itself, walked.
-/
import Derived.Test.YtaomlfbcfmmhlaaRtLong
namespace Go.Proofs.Ytaomlfbcfmmhlaa
open Go.RowKit Go.Pst
set_option linter.unusedVariables false
set_option linter.unusedSimpArgs false

variable {B bm n k : Nat} {w0 w : World} {l : List (Nat × Nat × Value)} {c : PCode}

def long1_1 (c : PCode) (k : Nat) (high : Int) : PCode := konstF c k high
def long1_2 (c : PCode) (k : Nat) (b high : Int) : PCode := mathF (long1_1 c k high) k ⟨#[60, 61]⟩ b c.vars
theorem long1_2_len (c : PCode) (k : Nat) (b high : Int) : (long1_2 c k b high).blocks.length = c.blocks.length := by simp [long1_2, long1_1, mathF_len, konstF_len]
def long1_in (c : PCode) (k : Nat) (b high : Int) : PCode := whenIn (long1_2 c k b high) k (long1_1 c k high).vars
def long1_F (c : PCode) (k : Nat) (sz : Nat) (b high first last : Int) : PCode :=
  whenOut (long11_F (long1_in c k b high) (long1_2 c k b high).blocks.length sz b first last) (long11_K (long1_in c k b high) (long1_2 c k b high).blocks.length sz b first last) (((long1_2 c k b high).blocks.length : Int) + 1)
def long1_K (c : PCode) (k : Nat) (b high : Int) : Nat := (long1_2 c k b high).blocks.length + 1
theorem long1_len (c : PCode) (k : Nat) (sz : Nat) (b high first last : Int) : (long1_F c k sz b high first last).blocks.length = c.blocks.length + 2 + 6 * (sz - 1) := by simp [long1_F, whenOut_len, long11_len, long1_in, whenIn_len, long1_2_len]
theorem enters_long1 : Enters Try.prog 72 := enters_of Try.func72 (by kernel_rfl) (by kernel_rfl)
set_option maxHeartbeats 8000000 in
theorem long1_any {b_m b_b b_h b_s b_f b_l sz : Nat} {b high first last : Int} (hsz : 2 ≤ sz ∧ sz ≤ 4) (h_b : InI b) (h_high : InI high) (h_first : InI first) (h_last : InI last) (m_m : (b_m, 0, Value.pointer (some ⟨bm, 0, none⟩)) ∈ l) (m_b : (b_b, 0, Value.int .i64 b) ∈ l) (m_h : (b_h, 0, Value.int .i64 high) ∈ l) (m_s : (b_s, 0, Value.int .i64 sz) ∈ l) (m_f : (b_f, 0, Value.int .i64 first) ∈ l) (m_l : (b_l, 0, Value.int .i64 last) ∈ l) (h : Env B w0 bm l (n + 415) c k w) :
    Calls Try.prog 72 #[.pointer (some ⟨b_m, 0, none⟩), .pointer (some ⟨b_b, 0, none⟩), .pointer (some ⟨b_h, 0, none⟩), .pointer (some ⟨b_s, 0, none⟩), .pointer (some ⟨b_f, 0, none⟩), .pointer (some ⟨b_l, 0, none⟩)] w fun e w' => e = .returned (.tuple #[]) ∧ Env B w0 bm l n (long1_F c k sz b high first last) (long1_K c k b high) w' := by
  have H0 := Lib.hid h
  have hS := keep3 m_m m_b m_h h.x
  clear h
  go_enter Try.func72, Try.ntmps72
  go_wp2_with fail
  go_region_held3 (fun w' => (w'.cell? ⟨b_m, 0, none⟩ = some (.pointer (some ⟨bm, 0, none⟩)) ∧ w'.cell? ⟨b_b, 0, none⟩ = some (.int .i64 b) ∧ w'.cell? ⟨b_h, 0, none⟩ = some (.int .i64 high)) ∧ EnvX B w0 bm l w')
    (first | exact hS | exact keep3 m_m m_b m_h H0.out.x.drew | exact keep3 m_m m_b m_h (Env.x (by assumption)) | exact keep3 m_m m_b m_h (EnvX.drew (And.right (by assumption))))
    (first | (go_at_call 35; (refine (konst_any high h_high H0.out.drew).mono ?_); rintro e w1 ⟨rfl, e10⟩; have e1 : Env B w0 bm l (n + 413) (long1_1 c k high) k w1 := e10; clear e10) | (go_at_call 31; (refine (math_any ⟨#[60, 61]⟩ b c.vars h_b (InI.vars H0.out) (by decide) e1).mono ?_); rintro e w2 ⟨rfl, e20⟩; have e2 : Env B w0 bm l (n + 411) (long1_2 c k b high) k w2 := e20; clear e20) | (go_at_call 36; (refine (when_any (ba := #[]) (m := n + 408) (n := n) (c3 := long11_F (long1_in c k b high) (long1_2 c k b high).blocks.length sz b first last) (k3 := long11_K (long1_in c k b high) (long1_2 c k b high).blocks.length sz b first last) (InI.vars e1) enters_long11 e2 (fun w2 e2 => by exact long11_any (b_s := b_s) (b_m := b_m) (b_b := b_b) (b_f := b_f) (b_l := b_l) hsz h_b h_first h_last m_s m_m m_b m_f m_l e2) (by rw [long11_len, long1_in, whenIn_len]; omega)).mono ?_); rintro e w3 ⟨rfl, e3⟩))
  all_goals
    have H3 := Lib.hid e3
    clear hS e3
    go_wp2_with fail
    exact bodyPost_end (results_none (by kernel_rfl) _ _ _) rfl ⟨rfl, H3.out⟩

def long_1 (c : PCode) (k : Nat) (low : Int) : PCode := konstF c k low
def long_2 (c : PCode) (k : Nat) (b low : Int) : PCode := mathF (long_1 c k low) k ⟨#[62, 61]⟩ b c.vars
theorem long_2_len (c : PCode) (k : Nat) (b low : Int) : (long_2 c k b low).blocks.length = c.blocks.length := by simp [long_2, long_1, mathF_len, konstF_len]
def long_in (c : PCode) (k : Nat) (b low : Int) : PCode := whenIn (long_2 c k b low) k (long_1 c k low).vars
def long_F (c : PCode) (k : Nat) (b low high : Int) (sz : Nat) (first last : Int) : PCode :=
  whenOut (long1_F (long_in c k b low) (long_2 c k b low).blocks.length sz b high first last) (long1_K (long_in c k b low) (long_2 c k b low).blocks.length b high) (((long_2 c k b low).blocks.length : Int) + 1)
def long_K (c : PCode) (k : Nat) (b low : Int) : Nat := (long_2 c k b low).blocks.length + 1
theorem long_len (c : PCode) (k : Nat) (b low high : Int) (sz : Nat) (first last : Int) : (long_F c k b low high sz first last).blocks.length = c.blocks.length + 2 + 2 + 6 * (sz - 1) := by simp [long_F, whenOut_len, long1_len, long_in, whenIn_len, long_2_len]
set_option maxHeartbeats 8000000 in
theorem long_any {sz : Nat} {b low high first last : Int} (hsz : 2 ≤ sz ∧ sz ≤ 4) (h_b : InI b) (h_low : InI low) (h_high : InI high) (h_first : InI first) (h_last : InI last) (h : Env B w0 bm l (n + 423) c k w) :
    Calls Try.prog 59 #[.pointer (some ⟨bm, 0, none⟩), .int .i64 b, .int .i64 low, .int .i64 high, .int .i64 sz, .int .i64 first, .int .i64 last] w fun e w' => e = .returned (.tuple #[]) ∧ Env B w0 bm l n (long_F c k b low high sz first last) (long_K c k b low) w' := by
  have h1 := h.box (.pointer (some ⟨bm, 0, none⟩)) 54
  have h2 := h1.box (.int .i64 b) 3
  have h3 := h2.box (.int .i64 high) 3
  have h4 := h3.box (.int .i64 sz) 3
  have h5 := h4.box (.int .i64 first) 3
  have h6 := h5.box (.int .i64 last) 3
  simp only [World.size_alloc] at h2 h3 h4 h5 h6
  obtain ⟨LL, hLL⟩ : ∃ LL, LL = (w.heap.size + 1 + 1 + 1 + 1 + 1, 0, Value.int .i64 last) :: (w.heap.size + 1 + 1 + 1 + 1, 0, Value.int .i64 first) :: (w.heap.size + 1 + 1 + 1, 0, Value.int .i64 sz) :: (w.heap.size + 1 + 1, 0, Value.int .i64 high) :: (w.heap.size + 1, 0, Value.int .i64 b) :: (w.heap.size, 0, Value.pointer (some ⟨bm, 0, none⟩)) :: l := ⟨_, rfl⟩
  rw [← hLL] at h6
  have m_m : (w.heap.size, 0, Value.pointer (some ⟨bm, 0, none⟩)) ∈ LL := by rw [hLL]; simp
  have m_b : (w.heap.size + 1, 0, Value.int .i64 b) ∈ LL := by rw [hLL]; simp
  have m_h : (w.heap.size + 1 + 1, 0, Value.int .i64 high) ∈ LL := by rw [hLL]; simp
  have m_s : (w.heap.size + 1 + 1 + 1, 0, Value.int .i64 sz) ∈ LL := by rw [hLL]; simp
  have m_f : (w.heap.size + 1 + 1 + 1 + 1, 0, Value.int .i64 first) ∈ LL := by rw [hLL]; simp
  have m_l : (w.heap.size + 1 + 1 + 1 + 1 + 1, 0, Value.int .i64 last) ∈ LL := by rw [hLL]; simp
  have hfew : ∀ p ∈ l, p ∈ LL := fun p hp => by rw [hLL]; simp [hp]
  generalize hW : (((((w.alloc (.cells #[.pointer (some ⟨bm, 0, none⟩)] 54)).alloc (.cells #[.int .i64 b] 3)).alloc (.cells #[.int .i64 high] 3)).alloc (.cells #[.int .i64 sz] 3)).alloc (.cells #[.int .i64 first] 3)).alloc (.cells #[.int .i64 last] 3) = W at h6
  have H0 := Lib.hid h6
  have HW := Lib.hid hW
  have hS := keep2 m_m m_b h6.x
  clear h h1 h2 h3 h4 h5 h6 hW hLL
  go_enter Try.func59, Try.ntmps59
  go_wp2_with fail
  rw [HW.out]
  go_region_held3 (fun w' => (w'.cell? ⟨w.heap.size, 0, none⟩ = some (.pointer (some ⟨bm, 0, none⟩)) ∧ w'.cell? ⟨w.heap.size + 1, 0, none⟩ = some (.int .i64 b)) ∧ EnvX B w0 bm LL w')
    (first | exact hS | exact keep2 m_m m_b H0.out.x.drew | exact keep2 m_m m_b (Env.x (by assumption)) | exact keep2 m_m m_b (EnvX.drew (And.right (by assumption))))
    (first | (go_at_call 35; (refine (konst_any low h_low H0.out.drew).mono ?_); rintro e w1 ⟨rfl, e10⟩; have e1 : Env B w0 bm LL (n + 421) (long_1 c k low) k w1 := e10; clear e10) | (go_at_call 31; (refine (math_any ⟨#[62, 61]⟩ b c.vars h_b (InI.vars H0.out) (by decide) e1).mono ?_); rintro e w2 ⟨rfl, e20⟩; have e2 : Env B w0 bm LL (n + 419) (long_2 c k b low) k w2 := e20; clear e20) | (go_at_call 36; (refine (when_any (ba := #[]) (m := n + 416) (n := n) (c3 := long1_F (long_in c k b low) (long_2 c k b low).blocks.length sz b high first last) (k3 := long1_K (long_in c k b low) (long_2 c k b low).blocks.length b high) (InI.vars e1) enters_long1 e2 (fun w2 e2 => by exact long1_any hsz h_b h_high h_first h_last m_m m_b m_h m_s m_f m_l e2) (by rw [long1_len, long_in, whenIn_len]; omega)).mono ?_); rintro e w3 ⟨rfl, e3⟩))
  all_goals
    have H3 := Lib.hid (e3.fewer hfew)
    clear hS e3
    go_wp2_with fail
    exact bodyPost_end (results_none (by kernel_rfl) _ _ _) rfl ⟨rfl, H3.out⟩
end Go.Proofs.Ytaomlfbcfmmhlaa

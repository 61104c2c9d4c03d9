/-
  rt's maker: copy, walked.
-/
import Derived.Test.YtaomlfbcfmmhlaaRtCount
namespace Go.Proofs.Ytaomlfbcfmmhlaa
open Go.RowKit Go.Pst
set_option linter.unusedVariables false
set_option linter.unusedSimpArgs false

variable {B bm n k : Nat} {w0 w : World} {l : List (Nat × Nat × Value)} {c : PCode}
theorem keep1 {b1 : Nat} {v1 : Value} (h1 : (b1, 0, v1) ∈ l) (hx : EnvX B w0 bm l w) : w.cell? ⟨b1, 0, none⟩ = some v1 ∧ EnvX B w0 bm l w := ⟨hx.cell h1, hx⟩
theorem keep2 {b1 b2 : Nat} {v1 v2 : Value} (h1 : (b1, 0, v1) ∈ l) (h2 : (b2, 0, v2) ∈ l) (hx : EnvX B w0 bm l w) : (w.cell? ⟨b1, 0, none⟩ = some v1 ∧ w.cell? ⟨b2, 0, none⟩ = some v2) ∧ EnvX B w0 bm l w := ⟨⟨hx.cell h1, hx.cell h2⟩, hx⟩
theorem keep3 {b1 b2 b3 : Nat} {v1 v2 v3 : Value} (h1 : (b1, 0, v1) ∈ l) (h2 : (b2, 0, v2) ∈ l) (h3 : (b3, 0, v3) ∈ l) (hx : EnvX B w0 bm l w) : (w.cell? ⟨b1, 0, none⟩ = some v1 ∧ w.cell? ⟨b2, 0, none⟩ = some v2 ∧ w.cell? ⟨b3, 0, none⟩ = some v3) ∧ EnvX B w0 bm l w := ⟨⟨hx.cell h1, hx.cell h2, hx.cell h3⟩, hx⟩
theorem InI.vars (h : Env B w0 bm l n c k w) : InI c.vars := ini_small h.fine.vars.1 (by have := h.fine.vars.2; omega)

def copyBody (c : PCode) (k : Nat) (tt fr d : Int) : PCode :=
  storeF (loadF (mathF (mathF c k ⟨#[43]⟩ tt d) k ⟨#[43]⟩ fr d) k (mathF c k ⟨#[43]⟩ tt d).vars 0) k c.vars 0 (mathF (mathF c k ⟨#[43]⟩ tt d) k ⟨#[43]⟩ fr d).vars

set_option maxHeartbeats 4000000 in
theorem copyBody_any {b1 b2 b3 : Nat} {tt fr d : Int} (ht : InI tt) (hf : InI fr) (hd : InI d) (h1 : (b1, 0, Value.pointer (some ⟨bm, 0, none⟩)) ∈ l) (h2 : (b2, 0, Value.int .i64 tt) ∈ l) (h3 : (b3, 0, Value.int .i64 fr) ∈ l) (h : Env B w0 bm l (n + 7) c k w) :
    Calls Try.prog 68 #[.int .i64 d, .pointer (some ⟨b1, 0, none⟩), .pointer (some ⟨b2, 0, none⟩), .pointer (some ⟨b3, 0, none⟩)] w fun e w' => e = .returned (.tuple #[]) ∧ Env B w0 bm l n (copyBody c k tt fr d) k w' := by
  have hvi := InI.vars h
  have H := Lib.hid h
  have hS := keep3 h1 h2 h3 h.x
  clear h
  go_enter Try.func68, Try.ntmps68
  go_wp2_with fail
  go_region_held3 (fun w' => (w'.cell? ⟨b1, 0, none⟩ = some (.pointer (some ⟨bm, 0, none⟩)) ∧ w'.cell? ⟨b2, 0, none⟩ = some (.int .i64 tt) ∧ w'.cell? ⟨b3, 0, none⟩ = some (.int .i64 fr)) ∧ EnvX B w0 bm l w')
    (first | exact hS | exact keep3 h1 h2 h3 H.out.x.drew | exact keep3 h1 h2 h3 (Env.x (by assumption)) | exact keep3 h1 h2 h3 (EnvX.drew (And.right (by assumption))))
    (first | (go_at_call 31; (with_reducible refine (math_any ⟨#[43]⟩ tt d ht hd (by decide) H.out.drew).mono ?_); rintro e w1 ⟨rfl, e1⟩) | (go_at_call 31; (with_reducible refine (math_any ⟨#[43]⟩ fr d hf hd (by decide) e1).mono ?_); rintro e w2 ⟨rfl, e2⟩) | (go_at_call 40; refine (load_any _ 0 (InI.vars e1) (ini rfl) e2).mono ?_; rintro e w3 ⟨rfl, e3⟩) | (go_at_call 48; refine (store_any _ 0 _ hvi (ini rfl) (InI.vars e2) e3).mono ?_; rintro e w4 ⟨rfl, e4⟩))
  all_goals
    go_wp2_with fail
    exact bodyPost_end (results_none (by kernel_rfl) _ _ _) rfl ⟨rfl, e4⟩

theorem enters_copy : Enters Try.prog 68 := enters_of Try.func68 (by kernel_rfl) (by kernel_rfl)
def copyIn (c : PCode) (k : Nat) (m : Int) : PCode := countIn (konstF c k 0) k c.vars m
def copyF (c : PCode) (k : Nat) (tt fr m : Int) : PCode := countOut (copyBody (copyIn c k m) (c.blocks.length + 1) tt fr (c.vars + 1)) (c.blocks.length + 1) (c.vars + 1) c.blocks.length
theorem countIn_len (c : PCode) (k : Nat) (fr tt : Int) : (countIn c k fr tt).blocks.length = c.blocks.length + 3 := by simp [countIn, count3, count2, count1, jumpF_len, setF_len, chooseF_len, freshF_len, blockF'_len, mathF_len]
theorem copyBody_len (c : PCode) (k : Nat) (tt fr d : Int) : (copyBody c k tt fr d).blocks.length = c.blocks.length := by simp [copyBody, storeF_len, loadF_len, mathF_len]

set_option maxHeartbeats 4000000 in
theorem copy_any {tt fr m : Int} (ht : InI tt) (hf : InI fr) (hm : InI m) (h : Env B w0 bm l (n + 24) c k w) :
    Calls Try.prog 33 #[.pointer (some ⟨bm, 0, none⟩), .int .i64 tt, .int .i64 fr, .int .i64 m] w fun e w' => e = .returned (.tuple #[]) ∧ Env B w0 bm l n (copyF c k tt fr m) (c.blocks.length + 2) w' := by
  have hvi := InI.vars h
  have hb1 := h.box (.pointer (some ⟨bm, 0, none⟩)) 54
  have hb2 := hb1.box (.int .i64 tt) 3
  have hb3 := hb2.box (.int .i64 fr) 3
  simp only [World.size_alloc] at hb2 hb3
  generalize hW : ((w.alloc (.cells #[.pointer (some ⟨bm, 0, none⟩)] 54)).alloc (.cells #[.int .i64 tt] 3)).alloc (.cells #[.int .i64 fr] 3) = W at hb3
  obtain ⟨LL, hLL⟩ : ∃ LL, LL = (w.heap.size + 1 + 1, 0, Value.int .i64 fr) :: (w.heap.size + 1, 0, Value.int .i64 tt) :: (w.heap.size, 0, Value.pointer (some ⟨bm, 0, none⟩)) :: l := ⟨_, rfl⟩
  rw [← hLL] at hb3
  have m1 : (w.heap.size, 0, Value.pointer (some ⟨bm, 0, none⟩)) ∈ LL := by rw [hLL]; simp
  have m2 : (w.heap.size + 1, 0, Value.int .i64 tt) ∈ LL := by rw [hLL]; simp
  have m3 : (w.heap.size + 1 + 1, 0, Value.int .i64 fr) ∈ LL := by rw [hLL]; simp
  have hfew : ∀ p ∈ l, p ∈ LL := fun p hp => by rw [hLL]; simp [hp]
  have H := Lib.hid hb3
  have HW := Lib.hid hW
  have hn : (konstF c k 0).blocks.length = c.blocks.length := konstF_len _ _ _
  have hS := keep1 m1 hb3.x
  have Hn := Lib.hid hn
  clear h hb1 hb2 hb3 hW hn hLL
  go_enter Try.func33, Try.ntmps33
  go_wp2_with fail
  rw [HW.out]
  go_region_held3 (fun w' => (w'.cell? ⟨w.heap.size, 0, none⟩ = some (.pointer (some ⟨bm, 0, none⟩))) ∧ EnvX B w0 bm LL w')
    (first | exact hS | exact keep1 m1 (Env.x (by assumption)) | exact keep1 m1 (EnvX.drew (And.right (by assumption))))
    (first | (go_at_call 35; refine (konst_any 0 (ini rfl) H.out.drew).mono ?_; rintro e w1 ⟨rfl, e1⟩) | (go_at_call 38; refine (count_any (m := n + 13) (n := n) (c3 := copyBody (copyIn c k m) (c.blocks.length + 1) tt fr (c.vars + 1)) (k3 := c.blocks.length + 1) hvi hm enters_copy e1 (fun w2 e2 => by { rw [Hn.out] at e2; exact copyBody_any (b1 := w.heap.size) (b2 := w.heap.size + 1) (b3 := w.heap.size + 1 + 1) ht hf (InI.vars e1) m1 m2 m3 e2 }) (by rw [copyBody_len]; unfold copyIn; rw [countIn_len, Hn.out]; omega)).mono ?_; rintro e w3 ⟨rfl, e3⟩))
  all_goals
    go_wp2_with fail
    refine bodyPost_end (results_none (by kernel_rfl) _ _ _) rfl ⟨rfl, ?_⟩
    have e4 : Env B w0 bm LL n (countOut (copyBody (copyIn c k m) (c.blocks.length + 1) tt fr (c.vars + 1)) (c.blocks.length + 1) (konstF c k 0).vars (konstF c k 0).blocks.length) ((konstF c k 0).blocks.length + 2) w3 := e3
    rw [Hn.out] at e4
    exact e4.fewer hfew
end Go.Proofs.Ytaomlfbcfmmhlaa

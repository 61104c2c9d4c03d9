/-
  rt's maker: konst, math, load, alloc, set, store, jump, choose, back, walked (printed by wip/gen_rtops.py).
-/
import Derived.Test.YtaomlfbcfmmhlaaRtOps2
namespace Go.Proofs.Ytaomlfbcfmmhlaa
open Go.RowKit Go.Pst
set_option linter.unusedVariables false
set_option linter.unusedSimpArgs false

variable {B bm n k : Nat} {w0 w : World} {l : List (Nat × Nat × Value)} {c : PCode}
def setI (d a : Int) : PInstr := ⟨2, [d], [a], 0, ⟨#[]⟩, []⟩
def mathI (s : ByteArray) (d a b : Int) : PInstr := ⟨3, [d], [a, b], 0, s, []⟩
def konstI (d x : Int) : PInstr := ⟨1, [d], [], x, ⟨#[]⟩, []⟩
def loadI (d a x : Int) : PInstr := ⟨4, [d], [a], x, ⟨#[]⟩, []⟩
def allocI (d a : Int) : PInstr := ⟨6, [d], [a], 0, ⟨#[]⟩, []⟩
def storeI (a x v : Int) : PInstr := ⟨5, [], [a, v], x, ⟨#[]⟩, []⟩
def jumpI (t : Int) : PInstr := ⟨9, [], [], 0, ⟨#[]⟩, [t]⟩
def chooseI (a yes no : Int) : PInstr := ⟨10, [], [a], 0, ⟨#[]⟩, [yes, no]⟩
def backI (xs : List Int) : PInstr := ⟨12, [], xs, 0, ⟨#[]⟩, []⟩
def konstF (c : PCode) (k : Nat) (x : Int) : PCode := addF (freshF c) k (konstI c.vars x)
def mathF (c : PCode) (k : Nat) (s : ByteArray) (a b : Int) : PCode := addF (freshF c) k (mathI s c.vars a b)
def loadF (c : PCode) (k : Nat) (a x : Int) : PCode := addF (freshF c) k (loadI c.vars a x)
def allocF (c : PCode) (k : Nat) (a : Int) : PCode := addF (freshF c) k (allocI c.vars a)
def setF (c : PCode) (k : Nat) (d a : Int) : PCode := addF c k (setI d a)
def storeF (c : PCode) (k : Nat) (a x v : Int) : PCode := addF c k (storeI a x v)
def jumpF (c : PCode) (k : Nat) (t : Int) : PCode := addF c k (jumpI t)
def chooseF (c : PCode) (k : Nat) (a yes no : Int) : PCode := addF c k (chooseI a yes no)
def backF (c : PCode) (k : Nat) (xs : List Int) : PCode := addF c k (backI xs)
theorem addF_len (c : PCode) (k : Nat) (i : PInstr) : (addF c k i).blocks.length = c.blocks.length := by simp [addF]
theorem freshF_len (c : PCode) : (freshF c).blocks.length = c.blocks.length := rfl
theorem blockF'_len (c : PCode) : (blockF' c).blocks.length = c.blocks.length + 1 := by simp [blockF']
theorem konstF_len (c : PCode) (k : Nat) (x : Int) : (konstF c k x).blocks.length = c.blocks.length := by simp [konstF, addF_len, freshF_len]
theorem mathF_len (c : PCode) (k : Nat) (s : ByteArray) (a b : Int) : (mathF c k s a b).blocks.length = c.blocks.length := by simp [mathF, addF_len, freshF_len]
theorem loadF_len (c : PCode) (k : Nat) (a x : Int) : (loadF c k a x).blocks.length = c.blocks.length := by simp [loadF, addF_len, freshF_len]
theorem allocF_len (c : PCode) (k : Nat) (a : Int) : (allocF c k a).blocks.length = c.blocks.length := by simp [allocF, addF_len, freshF_len]
theorem setF_len (c : PCode) (k : Nat) (d a : Int) : (setF c k d a).blocks.length = c.blocks.length := addF_len _ _ _
theorem storeF_len (c : PCode) (k : Nat) (a x v : Int) : (storeF c k a x v).blocks.length = c.blocks.length := addF_len _ _ _
theorem jumpF_len (c : PCode) (k : Nat) (t : Int) : (jumpF c k t).blocks.length = c.blocks.length := addF_len _ _ _
theorem chooseF_len (c : PCode) (k : Nat) (a y n : Int) : (chooseF c k a y n).blocks.length = c.blocks.length := addF_len _ _ _
theorem backF_len (c : PCode) (k : Nat) (xs : List Int) : (backF c k xs).blocks.length = c.blocks.length := addF_len _ _ _
theorem new_one (w : World) (a : Obj) : (w.alloc a).heap[w.heap.size]? = some a := heap_alloc_new w a
theorem new_two (w : World) (a b : Obj) : ((w.alloc a).alloc b).heap[w.heap.size]? = some a ∧ ((w.alloc a).alloc b).heap[w.heap.size + 1]? = some b := ⟨allocs_get [a, b] w 0 (by simp), allocs_get [a, b] w 1 (by simp)⟩
theorem ini_small {x : Int} (h : 0 ≤ x) (h' : x ≤ 1000000) : InI x := ⟨by omega, by omega⟩
theorem ini1 {a : Int} (ha : InI a) : ∀ y ∈ [a], InI y := fun y hy => by simp at hy; subst hy; exact ha
theorem ini2 {a b : Int} (ha : InI a) (hb : InI b) : ∀ y ∈ [a, b], InI y := fun y hy => by
  simp at hy
  rcases hy with rfl | rfl
  · exact ha
  · exact hb
theorem konst_any (x : Int) (hx : InI x) (h : Env B w0 bm l (n + 1 + 1) c k w) :
    Calls Try.prog 35 #[.pointer (some ⟨bm, 0, none⟩), .int .i64 x] w fun e w' => e = .returned (.int .i64 c.vars) ∧ Env B w0 bm l n (konstF c k x) k w' := by
  have hvi : InI c.vars := ini_small h.fine.vars.1 (by have := h.fine.vars.2; omega)
  have H := Lib.hid h
  clear h
  go_enter Try.func35, Try.ntmps35
  go_wp2_with fail
  refine (fresh_any H.out).mono ?_
  rintro e w1 ⟨rfl, h1⟩
  have H1 := Lib.hid h1
  clear h1
  go_wp2_with fail
  refine (add_any H1.out ((Below.refl _ _).alloc (Nat.le_refl _) _) (lit_instr (ini rfl) hx (by decide) (rInts_all [c.vars] (Nat.le_refl _) (lens rfl) (ini1 hvi) (new_one w1 (.cells #[.int .i64 c.vars] 3))) (rSlice_nil _ _ _ _) (rSlice_nil _ _ _ _))).mono ?_
  rintro e w2 ⟨rfl, h2⟩
  go_wp2_with fail
  go_ret
  exact ⟨rfl, h2⟩
theorem math_any (s : ByteArray) (a : Int) (b : Int) (ha : InI a) (hb : InI b) (hs : s.size ≤ maxLen) (h : Env B w0 bm l (n + 1 + 1) c k w) :
    Calls Try.prog 31 #[.pointer (some ⟨bm, 0, none⟩), .string s, .int .i64 a, .int .i64 b] w fun e w' => e = .returned (.int .i64 c.vars) ∧ Env B w0 bm l n (mathF c k s a b) k w' := by
  have hvi : InI c.vars := ini_small h.fine.vars.1 (by have := h.fine.vars.2; omega)
  have H := Lib.hid h
  clear h
  go_enter Try.func31, Try.ntmps31
  go_wp2_with fail
  refine (fresh_any H.out).mono ?_
  rintro e w1 ⟨rfl, h1⟩
  have H1 := Lib.hid h1
  clear h1
  go_wp2_with fail
  refine (add_any H1.out (((Below.refl _ _).alloc (Nat.le_refl _) _).alloc (by simp) _) (lit_instr (ini rfl) (ini rfl) hs (rInts_all [c.vars] (Nat.le_refl _) (lens rfl) (ini1 hvi) (new_two w1 (.cells #[.int .i64 c.vars] 3) (.cells #[.int .i64 a, .int .i64 b] 3)).1) (rInts_all [a, b] (Nat.le_succ _) (lens rfl) (ini2 ha hb) (new_two w1 (.cells #[.int .i64 c.vars] 3) (.cells #[.int .i64 a, .int .i64 b] 3)).2) (rSlice_nil _ _ _ _))).mono ?_
  rintro e w2 ⟨rfl, h2⟩
  go_wp2_with fail
  go_ret
  exact ⟨rfl, h2⟩
theorem load_any (a : Int) (x : Int) (ha : InI a) (hx : InI x) (h : Env B w0 bm l (n + 1 + 1) c k w) :
    Calls Try.prog 40 #[.pointer (some ⟨bm, 0, none⟩), .int .i64 a, .int .i64 x] w fun e w' => e = .returned (.int .i64 c.vars) ∧ Env B w0 bm l n (loadF c k a x) k w' := by
  have hvi : InI c.vars := ini_small h.fine.vars.1 (by have := h.fine.vars.2; omega)
  have H := Lib.hid h
  clear h
  go_enter Try.func40, Try.ntmps40
  go_wp2_with fail
  refine (fresh_any H.out).mono ?_
  rintro e w1 ⟨rfl, h1⟩
  have H1 := Lib.hid h1
  clear h1
  go_wp2_with fail
  refine (add_any H1.out (((Below.refl _ _).alloc (Nat.le_refl _) _).alloc (by simp) _) (lit_instr (ini rfl) hx (by decide) (rInts_all [c.vars] (Nat.le_refl _) (lens rfl) (ini1 hvi) (new_two w1 (.cells #[.int .i64 c.vars] 3) (.cells #[.int .i64 a] 3)).1) (rInts_all [a] (Nat.le_succ _) (lens rfl) (ini1 ha) (new_two w1 (.cells #[.int .i64 c.vars] 3) (.cells #[.int .i64 a] 3)).2) (rSlice_nil _ _ _ _))).mono ?_
  rintro e w2 ⟨rfl, h2⟩
  go_wp2_with fail
  go_ret
  exact ⟨rfl, h2⟩
theorem alloc_any (a : Int) (ha : InI a) (h : Env B w0 bm l (n + 1 + 1) c k w) :
    Calls Try.prog 32 #[.pointer (some ⟨bm, 0, none⟩), .int .i64 a] w fun e w' => e = .returned (.int .i64 c.vars) ∧ Env B w0 bm l n (allocF c k a) k w' := by
  have hvi : InI c.vars := ini_small h.fine.vars.1 (by have := h.fine.vars.2; omega)
  have H := Lib.hid h
  clear h
  go_enter Try.func32, Try.ntmps32
  go_wp2_with fail
  refine (fresh_any H.out).mono ?_
  rintro e w1 ⟨rfl, h1⟩
  have H1 := Lib.hid h1
  clear h1
  go_wp2_with fail
  refine (add_any H1.out (((Below.refl _ _).alloc (Nat.le_refl _) _).alloc (by simp) _) (lit_instr (ini rfl) (ini rfl) (by decide) (rInts_all [c.vars] (Nat.le_refl _) (lens rfl) (ini1 hvi) (new_two w1 (.cells #[.int .i64 c.vars] 3) (.cells #[.int .i64 a] 3)).1) (rInts_all [a] (Nat.le_succ _) (lens rfl) (ini1 ha) (new_two w1 (.cells #[.int .i64 c.vars] 3) (.cells #[.int .i64 a] 3)).2) (rSlice_nil _ _ _ _))).mono ?_
  rintro e w2 ⟨rfl, h2⟩
  go_wp2_with fail
  go_ret
  exact ⟨rfl, h2⟩
theorem set_any (d : Int) (a : Int) (hd : InI d) (ha : InI a) (h : Env B w0 bm l (n + 1) c k w) :
    Calls Try.prog 43 #[.pointer (some ⟨bm, 0, none⟩), .int .i64 d, .int .i64 a] w fun e w' => e = .returned (.tuple #[]) ∧ Env B w0 bm l n (setF c k d a) k w' := by
  have hvi : InI c.vars := ini_small h.fine.vars.1 (by have := h.fine.vars.2; omega)
  have H := Lib.hid h
  clear h
  go_enter Try.func43, Try.ntmps43
  go_wp2_with fail
  refine (add_any H.out (((Below.refl _ _).alloc (Nat.le_refl _) _).alloc (by simp) _) (lit_instr (ini rfl) (ini rfl) (by decide) (rInts_all [d] (Nat.le_refl _) (lens rfl) (ini1 hd) (new_two w (.cells #[.int .i64 d] 3) (.cells #[.int .i64 a] 3)).1) (rInts_all [a] (Nat.le_succ _) (lens rfl) (ini1 ha) (new_two w (.cells #[.int .i64 d] 3) (.cells #[.int .i64 a] 3)).2) (rSlice_nil _ _ _ _))).mono ?_
  rintro e w2 ⟨rfl, h2⟩
  go_wp2_with fail
  exact bodyPost_end (results_none (by kernel_rfl) _ _ _) rfl ⟨rfl, h2⟩
theorem store_any (a : Int) (x : Int) (v : Int) (ha : InI a) (hx : InI x) (hv : InI v) (h : Env B w0 bm l (n + 1) c k w) :
    Calls Try.prog 48 #[.pointer (some ⟨bm, 0, none⟩), .int .i64 a, .int .i64 x, .int .i64 v] w fun e w' => e = .returned (.tuple #[]) ∧ Env B w0 bm l n (storeF c k a x v) k w' := by
  have hvi : InI c.vars := ini_small h.fine.vars.1 (by have := h.fine.vars.2; omega)
  have H := Lib.hid h
  clear h
  go_enter Try.func48, Try.ntmps48
  go_wp2_with fail
  refine (add_any H.out ((Below.refl _ _).alloc (Nat.le_refl _) _) (lit_instr (ini rfl) hx (by decide) (rSlice_nil _ _ _ _) (rInts_all [a, v] (Nat.le_refl _) (lens rfl) (ini2 ha hv) (new_one w (.cells #[.int .i64 a, .int .i64 v] 3))) (rSlice_nil _ _ _ _))).mono ?_
  rintro e w2 ⟨rfl, h2⟩
  go_wp2_with fail
  exact bodyPost_end (results_none (by kernel_rfl) _ _ _) rfl ⟨rfl, h2⟩
theorem jump_any (t : Int) (ht : InI t) (h : Env B w0 bm l (n + 1) c k w) :
    Calls Try.prog 71 #[.pointer (some ⟨bm, 0, none⟩), .int .i64 t] w fun e w' => e = .returned (.tuple #[]) ∧ Env B w0 bm l n (jumpF c k t) k w' := by
  have hvi : InI c.vars := ini_small h.fine.vars.1 (by have := h.fine.vars.2; omega)
  have H := Lib.hid h
  clear h
  go_enter Try.func71, Try.ntmps71
  go_wp2_with fail
  refine (add_any H.out ((Below.refl _ _).alloc (Nat.le_refl _) _) (lit_instr (ini rfl) (ini rfl) (by decide) (rSlice_nil _ _ _ _) (rSlice_nil _ _ _ _) (rInts_all [t] (Nat.le_refl _) (lens rfl) (ini1 ht) (new_one w (.cells #[.int .i64 t] 3))))).mono ?_
  rintro e w2 ⟨rfl, h2⟩
  go_wp2_with fail
  exact bodyPost_end (results_none (by kernel_rfl) _ _ _) rfl ⟨rfl, h2⟩
theorem choose_any (a : Int) (yes : Int) (no : Int) (ha : InI a) (hyes : InI yes) (hno : InI no) (h : Env B w0 bm l (n + 1) c k w) :
    Calls Try.prog 70 #[.pointer (some ⟨bm, 0, none⟩), .int .i64 a, .int .i64 yes, .int .i64 no] w fun e w' => e = .returned (.tuple #[]) ∧ Env B w0 bm l n (chooseF c k a yes no) k w' := by
  have hvi : InI c.vars := ini_small h.fine.vars.1 (by have := h.fine.vars.2; omega)
  have H := Lib.hid h
  clear h
  go_enter Try.func70, Try.ntmps70
  go_wp2_with fail
  refine (add_any H.out (((Below.refl _ _).alloc (Nat.le_refl _) _).alloc (by simp) _) (lit_instr (ini rfl) (ini rfl) (by decide) (rSlice_nil _ _ _ _) (rInts_all [a] (Nat.le_refl _) (lens rfl) (ini1 ha) (new_two w (.cells #[.int .i64 a] 3) (.cells #[.int .i64 yes, .int .i64 no] 3)).1) (rInts_all [yes, no] (Nat.le_succ _) (lens rfl) (ini2 hyes hno) (new_two w (.cells #[.int .i64 a] 3) (.cells #[.int .i64 yes, .int .i64 no] 3)).2))).mono ?_
  rintro e w2 ⟨rfl, h2⟩
  go_wp2_with fail
  exact bodyPost_end (results_none (by kernel_rfl) _ _ _) rfl ⟨rfl, h2⟩

theorem back_any {w1 : World} {v : Value} {xs : List Int} (h : Env B w0 bm l (n + 1) c k w1) (hb : Below w1.heap.size w1 w) (hv : rInts (fun x => w1.heap.size ≤ x) w [v] xs) :
    Calls Try.prog 34 #[.pointer (some ⟨bm, 0, none⟩), v] w fun e w' => e = .returned (.tuple #[]) ∧ Env B w0 bm l n (backF c k xs) k w' := by
  obtain ⟨av, cv, rfl⟩ := rSlice_shape hv
  have H := Lib.hid h
  have Hb := Lib.hid hb
  have Hv := Lib.hid hv
  clear h hb hv
  go_enter Try.func34, Try.ntmps34
  go_wp2_with fail
  refine (add_any H.out Hb.out (lit_instr (ini rfl) (ini rfl) (by decide) (rSlice_nil _ _ _ _) Hv.out (rSlice_nil _ _ _ _))).mono ?_
  rintro e w2 ⟨rfl, h2⟩
  go_wp2_with fail
  exact bodyPost_end (results_none (by kernel_rfl) _ _ _) rfl ⟨rfl, h2⟩
end Go.Proofs.Ytaomlfbcfmmhlaa

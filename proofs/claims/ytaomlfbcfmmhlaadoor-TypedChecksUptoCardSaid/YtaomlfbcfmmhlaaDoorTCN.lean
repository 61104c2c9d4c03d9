/-
  Texts joined: TyKind.
-/
import Derived.Test.YtaomlfbcfmmhlaaDoorTCJ
import Derived.Test.YtaomlfbcfmmhlaaDoorTCM

/-
  typed's checker: kind: the contract (printed by wip/gen_tykind.py).
-/
namespace Go.Proofs.YtaomlfbcfmmhlaaDoor
open Go.RowKit Go.Pst
set_option linter.unusedVariables false
set_option linter.unusedSimpArgs false

set_option maxRecDepth 10000 in
set_option maxHeartbeats 2000000 in
theorem kind_1 (w : World) (base bc : Nat) (vf : Value) (cf : List Value) (vS : Value) (bs : List Nat) (st : Chk) (h : ChkAt w base bc vf cf vS bs st) (h0 : st.fault = 0) (n : Int) (s : ByteArray) (a3 : Option Addr) (l3 c3 : Nat) (aT : Option Addr) (lT cT : Nat) (R : Except Int Int) (hR : R = if -1099511627776 ≤ n ∧ n ≤ 1099511627776 then .ok 1 else .error 2) :
    Calls Tryd.prog 190 #[.pointer (some ⟨bc, 0, none⟩), .agg #[.int .i64 1, .int .i64 n, .string s, .slice a3 l3 c3], .slice aT lT cT] w (OpPost w base bc vf cf vS bs st R) := by
  have H0 := Lib.hid h0
  have HR := Lib.hid hR
  have hlt := h.lb.2
  have sB := Since.alloc (fun k => k = bc) w (.cells #[.int .i64 1, .int .i64 n, .string s, .slice a3 l3 c3] 213)
  have HB := Lib.hid (h.since (Since.alloc (fun _ => False) w (.cells #[.int .i64 1, .int .i64 n, .string s, .slice a3 l3 c3] 213)) (fun _ e => e.elim))
  have SB := Lib.hid sB
  clear h h0 hR sB
  go_enter Tryd.func190, Tryd.ntmps190
  go_wp2_with (first | (go_at_call 86; refine (typedWrong_any _ base bc vf cf vS bs st HB.out 2).mono ?_; rintro en w1 ⟨rfl, hc1, hs1⟩))
  all_goals go_ret
  all_goals simp only [bne_iff_ne, ne_eq, bne_eq_false_iff_eq, Decidable.not_not] at *
  all_goals first
    | exact ⟨_, _, rfl, hc1, SB.out.trans hs1, by rw [HR.out, if_neg (by omega)]; exact KindEnd.bad H0.out _ (by decide)⟩
    | exact ⟨_, _, rfl, HB.out, SB.out, by rw [HR.out, if_pos (by omega)]; exact ⟨rfl, rfl⟩⟩

set_option maxRecDepth 10000 in
set_option maxHeartbeats 2000000 in
theorem kind_2 (w : World) (base bc : Nat) (vf : Value) (cf : List Value) (vS : Value) (bs : List Nat) (st : Chk) (h : ChkAt w base bc vf cf vS bs st) (h0 : st.fault = 0) (n : Int) (s : ByteArray) (a3 : Option Addr) (l3 c3 : Nat) (aT : Option Addr) (lT cT : Nat) (R : Except Int Int) (hR : R = if (s.size : Int) ≤ 4000 then .ok 3 else .error 1) :
    Calls Tryd.prog 190 #[.pointer (some ⟨bc, 0, none⟩), .agg #[.int .i64 2, .int .i64 n, .string s, .slice a3 l3 c3], .slice aT lT cT] w (OpPost w base bc vf cf vS bs st R) := by
  have H0 := Lib.hid h0
  have HR := Lib.hid hR
  have hlt := h.lb.2
  have sB := Since.alloc (fun k => k = bc) w (.cells #[.int .i64 2, .int .i64 n, .string s, .slice a3 l3 c3] 213)
  have HB := Lib.hid (h.since (Since.alloc (fun _ => False) w (.cells #[.int .i64 2, .int .i64 n, .string s, .slice a3 l3 c3] 213)) (fun _ e => e.elim))
  have SB := Lib.hid sB
  clear h h0 hR sB
  go_enter Tryd.func190, Tryd.ntmps190
  go_wp2_with (first | (go_at_call 86; refine (typedWrong_any _ base bc vf cf vS bs st HB.out 1).mono ?_; rintro en w1 ⟨rfl, hc1, hs1⟩))
  all_goals go_ret
  all_goals simp only [bne_iff_ne, ne_eq, bne_eq_false_iff_eq, Decidable.not_not] at *
  all_goals first
    | exact ⟨_, _, rfl, hc1, SB.out.trans hs1, by rw [HR.out, if_neg (by omega)]; exact KindEnd.bad H0.out _ (by decide)⟩
    | exact ⟨_, _, rfl, HB.out, SB.out, by rw [HR.out, if_pos (by omega)]; exact ⟨rfl, rfl⟩⟩

set_option maxRecDepth 10000 in
set_option maxHeartbeats 2000000 in
theorem kind_3 (w : World) (base bc : Nat) (vf : Value) (cf : List Value) (vS : Value) (bs : List Nat) (st : Chk) (h : ChkAt w base bc vf cf vS bs st) (h0 : st.fault = 0) (n : Int) (s : ByteArray) (a3 : Option Addr) (l3 c3 : Nat) (aT : Option Addr) (lT cT : Nat) (R : Except Int Int) (hR : R = if 0 ≤ n ∧ n ≤ 1 then .ok 2 else .error 2) :
    Calls Tryd.prog 190 #[.pointer (some ⟨bc, 0, none⟩), .agg #[.int .i64 3, .int .i64 n, .string s, .slice a3 l3 c3], .slice aT lT cT] w (OpPost w base bc vf cf vS bs st R) := by
  have H0 := Lib.hid h0
  have HR := Lib.hid hR
  have hlt := h.lb.2
  have sB := Since.alloc (fun k => k = bc) w (.cells #[.int .i64 3, .int .i64 n, .string s, .slice a3 l3 c3] 213)
  have HB := Lib.hid (h.since (Since.alloc (fun _ => False) w (.cells #[.int .i64 3, .int .i64 n, .string s, .slice a3 l3 c3] 213)) (fun _ e => e.elim))
  have SB := Lib.hid sB
  clear h h0 hR sB
  go_enter Tryd.func190, Tryd.ntmps190
  go_wp2_with (first | (go_at_call 86; refine (typedWrong_any _ base bc vf cf vS bs st HB.out 2).mono ?_; rintro en w1 ⟨rfl, hc1, hs1⟩))
  all_goals go_ret
  all_goals simp only [bne_iff_ne, ne_eq, bne_eq_false_iff_eq, Decidable.not_not] at *
  all_goals first
    | exact ⟨_, _, rfl, hc1, SB.out.trans hs1, by rw [HR.out, if_neg (by omega)]; exact KindEnd.bad H0.out _ (by decide)⟩
    | exact ⟨_, _, rfl, HB.out, SB.out, by rw [HR.out, if_pos (by omega)]; exact ⟨rfl, rfl⟩⟩

set_option maxRecDepth 10000 in
set_option maxHeartbeats 2000000 in
theorem kind_4 (w : World) (base bc : Nat) (vf : Value) (cf : List Value) (vS : Value) (bs : List Nat) (st : Chk) (h : ChkAt w base bc vf cf vS bs st) (h0 : st.fault = 0) (n : Int) (s : ByteArray) (a3 : Option Addr) (l3 c3 : Nat) (aT : Option Addr) (lT cT : Nat) (hl : st.G.length ≤ 200000) (hl0 : 0 < st.G.length) (R : Except Int Int) (hR : R = (match findT st.G s with | some t => .ok t | none => .error 6)) :
    Calls Tryd.prog 190 #[.pointer (some ⟨bc, 0, none⟩), .agg #[.int .i64 4, .int .i64 n, .string s, .slice a3 l3 c3], .slice aT lT cT] w (OpPost w base bc vf cf vS bs st R) := by
  have H0 := Lib.hid h0
  have HR := Lib.hid hR
  have hlt := h.lb.2
  have sB := Since.alloc (fun k => k = bc) w (.cells #[.int .i64 4, .int .i64 n, .string s, .slice a3 l3 c3] 213)
  have HB := Lib.hid (h.since (Since.alloc (fun _ => False) w (.cells #[.int .i64 4, .int .i64 n, .string s, .slice a3 l3 c3] 213)) (fun _ e => e.elim))
  have SB := Lib.hid sB
  clear h h0 hR sB
  go_enter Tryd.func190, Tryd.ntmps190
  go_wp2_with fail
  refine (typedFind_any _ base bc vf cf vS bs st HB.out H0.out hl hl0 s).mono ?_
  rintro en w1 ⟨x, st', rfl, hc1, hs1, hk1⟩
  have HC1 := Lib.hid hc1
  have HS1 := Lib.hid hs1
  have HK1 := Lib.hid hk1
  clear hc1 hs1 hk1
  go_wp2_with fail
  go_ret
  exact ⟨_, _, rfl, HC1.out, SB.out.trans (HS1.out), by rw [HR.out]; exact HK1.out⟩

set_option maxRecDepth 10000 in
set_option maxHeartbeats 2000000 in
theorem kind_5 (w : World) (base bc : Nat) (vf : Value) (cf : List Value) (vS : Value) (bs : List Nat) (st : Chk) (h : ChkAt w base bc vf cf vS bs st) (h0 : st.fault = 0) (n : Int) (s : ByteArray) (a3 : Option Addr) (l3 c3 : Nat) (gT cT : Nat) (a b : Int) (hT : w.cell? ⟨gT, 0, none⟩ = some (.int .i64 a)) (hT2 : w.cell? ⟨gT, 1, none⟩ = some (.int .i64 b)) (hgT : gT < w.heap.size) (hnT : gT ≠ bc) (R : Except Int Int) (hR : R = opT s.toList a b) :
    Calls Tryd.prog 190 #[.pointer (some ⟨bc, 0, none⟩), .agg #[.int .i64 5, .int .i64 n, .string s, .slice a3 l3 c3], .slice (some ⟨gT, 0, none⟩) 2 cT] w (OpPost w base bc vf cf vS bs st R) := by
  have H0 := Lib.hid h0
  have HR := Lib.hid hR
  have hlt := h.lb.2
  have sB := Since.alloc (fun k => k = bc) w (.cells #[.int .i64 5, .int .i64 n, .string s, .slice a3 l3 c3] 213)
  have HB := Lib.hid (h.since (Since.alloc (fun _ => False) w (.cells #[.int .i64 5, .int .i64 n, .string s, .slice a3 l3 c3] 213)) (fun _ e => e.elim))
  have SB := Lib.hid sB
  have hT' : (w.alloc (.cells #[.int .i64 5, .int .i64 n, .string s, .slice a3 l3 c3] 213)).cell? ⟨gT, 0, none⟩ = some (.int .i64 a) := (World.cell?_alloc_lt _ _ _ hgT).trans hT
  have hT2' : (w.alloc (.cells #[.int .i64 5, .int .i64 n, .string s, .slice a3 l3 c3] 213)).cell? ⟨gT, 1, none⟩ = some (.int .i64 b) := (World.cell?_alloc_lt _ _ _ hgT).trans hT2
  clear h h0 hR sB
  go_enter Tryd.func190, Tryd.ntmps190
  have hgW : gT < (w.alloc (.cells #[.int .i64 5, .int .i64 n, .string s, .slice a3 l3 c3] 213)).heap.size := by simp; omega
  have hlW : w.heap.size < (w.alloc (.cells #[.int .i64 5, .int .i64 n, .string s, .slice a3 l3 c3] 213)).heap.size := by simp
  have hwb : w.heap.size ≠ bc := by omega
  have hq2 : (w.alloc (.cells #[.int .i64 5, .int .i64 n, .string s, .slice a3 l3 c3] 213)).cell? ⟨w.heap.size, 2, none⟩ = some (.string s) := by rw [World.cell?_alloc_at _ _ _ _ rfl]; rfl
  go_wp2_with fail
  have hS0 : (fun w' : World => w'.cell? ⟨gT, 0, none⟩ = some (.int .i64 a) ∧ w'.cell? ⟨gT, 1, none⟩ = some (.int .i64 b) ∧ w'.cell? ⟨w.heap.size, 2, none⟩ = some (.string s)) (w.alloc (.cells #[.int .i64 5, .int .i64 n, .string s, .slice a3 l3 c3] 213)) := ⟨hT', hT2', hq2⟩
  have HSS := Lib.hid (show ∀ w3, Since (fun k => k = bc) (w.alloc (.cells #[.int .i64 5, .int .i64 n, .string s, .slice a3 l3 c3] 213)).drew w3 → (fun w' : World => w'.cell? ⟨gT, 0, none⟩ = some (.int .i64 a) ∧ w'.cell? ⟨gT, 1, none⟩ = some (.int .i64 b) ∧ w'.cell? ⟨w.heap.size, 2, none⟩ = some (.string s)) w3 from fun w3 hs => ⟨(hs.cell (o := 0) hgW hnT).trans hT', (hs.cell (o := 1) hgW hnT).trans hT2', (hs.cell (o := 2) hlW hwb).trans hq2⟩)
  have Hcall := Lib.hid (typedTwo_any (w.alloc (.cells #[.int .i64 5, .int .i64 n, .string s, .slice a3 l3 c3] 213)).drew base bc vf cf vS bs st (HB.out.since (Since.drew (fun _ => False) _) (fun _ e => e.elim)) H0.out s a b)
  go_region_held3 (fun w' : World => w'.cell? ⟨gT, 0, none⟩ = some (.int .i64 a) ∧ w'.cell? ⟨gT, 1, none⟩ = some (.int .i64 b) ∧ w'.cell? ⟨w.heap.size, 2, none⟩ = some (.string s)) (first | exact hS0 | exact hS2)
    (first | (go_at_call 198; refine Hcall.out.mono ?_; rintro en w1 ⟨x, st', rfl, hc1, hs1, hk1⟩; have hS2 := HSS.out w1 hs1))
  have HC1 := Lib.hid hc1
  have HS1 := Lib.hid hs1
  have HK1 := Lib.hid hk1
  clear hc1 hs1 hk1
  all_goals go_wp2_with fail
  go_ret
  exact ⟨_, _, rfl, HC1.out, SB.out.trans ((Since.drew _ _).trans HS1.out), by rw [HR.out]; exact HK1.out⟩

set_option maxRecDepth 10000 in
set_option maxHeartbeats 2000000 in
theorem kind_6 (w : World) (base bc : Nat) (vf : Value) (cf : List Value) (vS : Value) (bs : List Nat) (st : Chk) (h : ChkAt w base bc vf cf vS bs st) (h0 : st.fault = 0) (n : Int) (s : ByteArray) (a3 : Option Addr) (l3 c3 : Nat) (gT cT : Nat) (a : Int) (hT : w.cell? ⟨gT, 0, none⟩ = some (.int .i64 a)) (hgT : gT < w.heap.size) (hnT : gT ≠ bc) (R : Except Int Int) (hR : R = oneT s.toList a) :
    Calls Tryd.prog 190 #[.pointer (some ⟨bc, 0, none⟩), .agg #[.int .i64 6, .int .i64 n, .string s, .slice a3 l3 c3], .slice (some ⟨gT, 0, none⟩) 1 cT] w (OpPost w base bc vf cf vS bs st R) := by
  have H0 := Lib.hid h0
  have HR := Lib.hid hR
  have hlt := h.lb.2
  have sB := Since.alloc (fun k => k = bc) w (.cells #[.int .i64 6, .int .i64 n, .string s, .slice a3 l3 c3] 213)
  have HB := Lib.hid (h.since (Since.alloc (fun _ => False) w (.cells #[.int .i64 6, .int .i64 n, .string s, .slice a3 l3 c3] 213)) (fun _ e => e.elim))
  have SB := Lib.hid sB
  have hT' : (w.alloc (.cells #[.int .i64 6, .int .i64 n, .string s, .slice a3 l3 c3] 213)).cell? ⟨gT, 0, none⟩ = some (.int .i64 a) := (World.cell?_alloc_lt _ _ _ hgT).trans hT
  clear h h0 hR sB
  go_enter Tryd.func190, Tryd.ntmps190
  have hgW : gT < (w.alloc (.cells #[.int .i64 6, .int .i64 n, .string s, .slice a3 l3 c3] 213)).heap.size := by simp; omega
  have hlW : w.heap.size < (w.alloc (.cells #[.int .i64 6, .int .i64 n, .string s, .slice a3 l3 c3] 213)).heap.size := by simp
  have hwb : w.heap.size ≠ bc := by omega
  have hq2 : (w.alloc (.cells #[.int .i64 6, .int .i64 n, .string s, .slice a3 l3 c3] 213)).cell? ⟨w.heap.size, 2, none⟩ = some (.string s) := by rw [World.cell?_alloc_at _ _ _ _ rfl]; rfl
  go_wp2_with fail
  have hS0 : (fun w' : World => w'.cell? ⟨gT, 0, none⟩ = some (.int .i64 a) ∧ w'.cell? ⟨w.heap.size, 2, none⟩ = some (.string s)) (w.alloc (.cells #[.int .i64 6, .int .i64 n, .string s, .slice a3 l3 c3] 213)) := ⟨hT', hq2⟩
  have HSS := Lib.hid (show ∀ w3, Since (fun k => k = bc) (w.alloc (.cells #[.int .i64 6, .int .i64 n, .string s, .slice a3 l3 c3] 213)).drew w3 → (fun w' : World => w'.cell? ⟨gT, 0, none⟩ = some (.int .i64 a) ∧ w'.cell? ⟨w.heap.size, 2, none⟩ = some (.string s)) w3 from fun w3 hs => ⟨(hs.cell (o := 0) hgW hnT).trans hT', (hs.cell (o := 2) hlW hwb).trans hq2⟩)
  have Hcall := Lib.hid (typedOne_any (w.alloc (.cells #[.int .i64 6, .int .i64 n, .string s, .slice a3 l3 c3] 213)).drew base bc vf cf vS bs st (HB.out.since (Since.drew (fun _ => False) _) (fun _ e => e.elim)) H0.out s a)
  go_region_held3 (fun w' : World => w'.cell? ⟨gT, 0, none⟩ = some (.int .i64 a) ∧ w'.cell? ⟨w.heap.size, 2, none⟩ = some (.string s)) (first | exact hS0 | exact hS2)
    (first | (go_at_call 199; refine Hcall.out.mono ?_; rintro en w1 ⟨x, st', rfl, hc1, hs1, hk1⟩; have hS2 := HSS.out w1 hs1))
  have HC1 := Lib.hid hc1
  have HS1 := Lib.hid hs1
  have HK1 := Lib.hid hk1
  clear hc1 hs1 hk1
  all_goals go_wp2_with fail
  go_ret
  exact ⟨_, _, rfl, HC1.out, SB.out.trans ((Since.drew _ _).trans HS1.out), by rw [HR.out]; exact HK1.out⟩

set_option maxRecDepth 10000 in
set_option maxHeartbeats 2000000 in
theorem kind_7 (w : World) (base bc : Nat) (vf : Value) (cf : List Value) (vS : Value) (bs : List Nat) (st : Chk) (h : ChkAt w base bc vf cf vS bs st) (h0 : st.fault = 0) (n : Int) (s : ByteArray) (a3 : Option Addr) (l3 c3 : Nat) (d : Nat) (fs : List PFunc) (ts : List Int) (aT : Option Addr) (cT : Nat) (hf : rFuncs d (· < base) w [vf] fs) (hts : w.ownsRow base 3 1 (.slice aT ts.length cT) ts.length (ts.map (Value.int .i64))) (hnT : (Value.slice aT ts.length cT).ownBlock ≠ some bc) (R : Except Int Int) (hR : R = callT fs s ts) :
    Calls Tryd.prog 190 #[.pointer (some ⟨bc, 0, none⟩), .agg #[.int .i64 7, .int .i64 n, .string s, .slice a3 l3 c3], .slice aT ts.length cT] w (OpPost w base bc vf cf vS bs st R) := by
  have H0 := Lib.hid h0
  have HR := Lib.hid hR
  have hlt := h.lb.2
  have sB := Since.alloc (fun k => k = bc) w (.cells #[.int .i64 7, .int .i64 n, .string s, .slice a3 l3 c3] 213)
  have HB := Lib.hid (h.since (Since.alloc (fun _ => False) w (.cells #[.int .i64 7, .int .i64 n, .string s, .slice a3 l3 c3] 213)) (fun _ e => e.elim))
  have SB := Lib.hid sB
  have Hf := Lib.hid (Good.kept ((Since.alloc (fun _ => False) w (.cells #[.int .i64 7, .int .i64 n, .string s, .slice a3 l3 c3] 213)).keep.weaken (fun _ _ _ e => e.elim)) hf)
  have Hts := Lib.hid (hts.alloc (.cells #[.int .i64 7, .int .i64 n, .string s, .slice a3 l3 c3] 213))
  clear h h0 hR sB
  go_enter Tryd.func190, Tryd.ntmps190
  go_wp2_with fail
  refine (typedCall_any d fs _ base bc vf cf vS bs st HB.out H0.out s ts _ Hf.out Hts.out hnT).mono ?_
  rintro en w1 ⟨x, st', rfl, hc1, hs1, hk1⟩
  have HC1 := Lib.hid hc1
  have HS1 := Lib.hid hs1
  have HK1 := Lib.hid hk1
  clear hc1 hs1 hk1
  go_wp2_with fail
  go_ret
  exact ⟨_, _, rfl, HC1.out, SB.out.trans (HS1.out), by rw [HR.out]; exact HK1.out⟩

set_option maxRecDepth 10000 in
set_option maxHeartbeats 2000000 in
theorem kind_8 (w : World) (base bc : Nat) (vf : Value) (cf : List Value) (vS : Value) (bs : List Nat) (st : Chk) (h : ChkAt w base bc vf cf vS bs st) (h0 : st.fault = 0) (n : Int) (s : ByteArray) (a3 : Option Addr) (l3 c3 : Nat) (gT cT : Nat) (a : Int) (hT : w.cell? ⟨gT, 0, none⟩ = some (.int .i64 a)) (hgT : gT < w.heap.size) (hnT : gT ≠ bc) (R : Except Int Int) (hR : R = if 3 ≤ a ∧ a ≤ 5 then .ok 1 else .error 9) :
    Calls Tryd.prog 190 #[.pointer (some ⟨bc, 0, none⟩), .agg #[.int .i64 8, .int .i64 n, .string s, .slice a3 l3 c3], .slice (some ⟨gT, 0, none⟩) 1 cT] w (OpPost w base bc vf cf vS bs st R) := by
  have H0 := Lib.hid h0
  have HR := Lib.hid hR
  have hlt := h.lb.2
  have sB := Since.alloc (fun k => k = bc) w (.cells #[.int .i64 8, .int .i64 n, .string s, .slice a3 l3 c3] 213)
  have HB := Lib.hid (h.since (Since.alloc (fun _ => False) w (.cells #[.int .i64 8, .int .i64 n, .string s, .slice a3 l3 c3] 213)) (fun _ e => e.elim))
  have SB := Lib.hid sB
  have hT' : (w.alloc (.cells #[.int .i64 8, .int .i64 n, .string s, .slice a3 l3 c3] 213)).cell? ⟨gT, 0, none⟩ = some (.int .i64 a) := (World.cell?_alloc_lt _ _ _ hgT).trans hT
  clear h h0 hR sB
  go_enter Tryd.func190, Tryd.ntmps190
  go_wp2_with (first | (go_at_call 86; refine (typedWrong_any _ base bc vf cf vS bs st HB.out 9).mono ?_; rintro en w1 ⟨rfl, hc1, hs1⟩))
  all_goals go_ret
  all_goals simp only [bne_iff_ne, ne_eq, bne_eq_false_iff_eq, Decidable.not_not] at *
  all_goals first
    | exact ⟨_, _, rfl, hc1, SB.out.trans hs1, by rw [HR.out, if_neg (by omega)]; exact KindEnd.bad H0.out _ (by decide)⟩
    | exact ⟨_, _, rfl, HB.out, SB.out, by rw [HR.out, if_pos (by omega)]; exact ⟨rfl, rfl⟩⟩

set_option maxRecDepth 10000 in
set_option maxHeartbeats 2000000 in
theorem kind_9 (w : World) (base bc : Nat) (vf : Value) (cf : List Value) (vS : Value) (bs : List Nat) (st : Chk) (h : ChkAt w base bc vf cf vS bs st) (h0 : st.fault = 0) (n : Int) (s : ByteArray) (a3 : Option Addr) (l3 c3 : Nat) (gT cT : Nat) (a b : Int) (hT : w.cell? ⟨gT, 0, none⟩ = some (.int .i64 a)) (hT2 : w.cell? ⟨gT, 1, none⟩ = some (.int .i64 b)) (hgT : gT < w.heap.size) (hnT : gT ≠ bc) (R : Except Int Int) (hR : R = if (3 ≤ a ∧ a ≤ 5) ∧ b = 1 then .ok 1 else .error 9) :
    Calls Tryd.prog 190 #[.pointer (some ⟨bc, 0, none⟩), .agg #[.int .i64 9, .int .i64 n, .string s, .slice a3 l3 c3], .slice (some ⟨gT, 0, none⟩) 2 cT] w (OpPost w base bc vf cf vS bs st R) := by
  have H0 := Lib.hid h0
  have HR := Lib.hid hR
  have hlt := h.lb.2
  have sB := Since.alloc (fun k => k = bc) w (.cells #[.int .i64 9, .int .i64 n, .string s, .slice a3 l3 c3] 213)
  have HB := Lib.hid (h.since (Since.alloc (fun _ => False) w (.cells #[.int .i64 9, .int .i64 n, .string s, .slice a3 l3 c3] 213)) (fun _ e => e.elim))
  have SB := Lib.hid sB
  have hT' : (w.alloc (.cells #[.int .i64 9, .int .i64 n, .string s, .slice a3 l3 c3] 213)).cell? ⟨gT, 0, none⟩ = some (.int .i64 a) := (World.cell?_alloc_lt _ _ _ hgT).trans hT
  have hT2' : (w.alloc (.cells #[.int .i64 9, .int .i64 n, .string s, .slice a3 l3 c3] 213)).cell? ⟨gT, 1, none⟩ = some (.int .i64 b) := (World.cell?_alloc_lt _ _ _ hgT).trans hT2
  clear h h0 hR sB
  go_enter Tryd.func190, Tryd.ntmps190
  go_wp2_with (first | (go_at_call 86; refine (typedWrong_any _ base bc vf cf vS bs st HB.out 9).mono ?_; rintro en w1 ⟨rfl, hc1, hs1⟩) | (go_at_call 165; refine (typedWant_any _ base bc vf cf vS bs st HB.out b 1).mono ?_; rintro en w1 ⟨rfl, hc1, hs1⟩))
  all_goals go_ret
  all_goals simp only [bne_iff_ne, ne_eq, bne_eq_false_iff_eq, Decidable.not_not] at *
  all_goals first
    | exact ⟨_, _, rfl, hc1, SB.out.trans hs1, by rw [HR.out, if_neg (by omega)]; exact KindEnd.bad H0.out _ (by decide)⟩
    | (refine ⟨_, _, rfl, hc1, SB.out.trans hs1, ?_⟩
       rw [HR.out, show (if (3 ≤ a ∧ a ≤ 5) ∧ b = 1 then (Except.ok 1 : Except Int Int) else .error 9) = if b = 1 then .ok 1 else .error 9 by by_cases hb : b = 1 <;> simp [hb] <;> omega]
       exact KindEnd.want1 H0.out b 1 1)

set_option maxRecDepth 10000 in
set_option maxHeartbeats 2000000 in
theorem kind_10 (w : World) (base bc : Nat) (vf : Value) (cf : List Value) (vS : Value) (bs : List Nat) (st : Chk) (h : ChkAt w base bc vf cf vS bs st) (h0 : st.fault = 0) (n : Int) (s : ByteArray) (a3 : Option Addr) (l3 c3 : Nat) (gT cT : Nat) (a b : Int) (hT : w.cell? ⟨gT, 0, none⟩ = some (.int .i64 a)) (hT2 : w.cell? ⟨gT, 1, none⟩ = some (.int .i64 b)) (hgT : gT < w.heap.size) (hnT : gT ≠ bc) (R : Except Int Int) (hR : R = if a = 4 ∧ b = 1 then .ok 4 else .error 9) :
    Calls Tryd.prog 190 #[.pointer (some ⟨bc, 0, none⟩), .agg #[.int .i64 10, .int .i64 n, .string s, .slice a3 l3 c3], .slice (some ⟨gT, 0, none⟩) 2 cT] w (OpPost w base bc vf cf vS bs st R) := by
  have H0 := Lib.hid h0
  have HR := Lib.hid hR
  have hlt := h.lb.2
  have sB := Since.alloc (fun k => k = bc) w (.cells #[.int .i64 10, .int .i64 n, .string s, .slice a3 l3 c3] 213)
  have HB := Lib.hid (h.since (Since.alloc (fun _ => False) w (.cells #[.int .i64 10, .int .i64 n, .string s, .slice a3 l3 c3] 213)) (fun _ e => e.elim))
  have SB := Lib.hid sB
  have hT' : (w.alloc (.cells #[.int .i64 10, .int .i64 n, .string s, .slice a3 l3 c3] 213)).cell? ⟨gT, 0, none⟩ = some (.int .i64 a) := (World.cell?_alloc_lt _ _ _ hgT).trans hT
  have hT2' : (w.alloc (.cells #[.int .i64 10, .int .i64 n, .string s, .slice a3 l3 c3] 213)).cell? ⟨gT, 1, none⟩ = some (.int .i64 b) := (World.cell?_alloc_lt _ _ _ hgT).trans hT2
  clear h h0 hR sB
  go_enter Tryd.func190, Tryd.ntmps190
  have hgW : gT < (w.alloc (.cells #[.int .i64 10, .int .i64 n, .string s, .slice a3 l3 c3] 213)).heap.size := by simp; omega
  go_wp2_with fail
  refine (typedWant_any _ base bc vf cf vS bs st HB.out a 4).mono ?_
  rintro en w1 ⟨rfl, hc1, hs1⟩
  have hT2w := (hs1.cell (o := 1) hgW hnT).trans hT2'
  have HC1 := Lib.hid hc1
  have HS1 := Lib.hid hs1
  clear hc1 hs1
  go_wp2_with fail
  refine (typedWant_any w1 base bc vf cf vS bs _ HC1.out b 1).mono ?_
  rintro en w2 ⟨rfl, hc2, hs2⟩
  have HC2 := Lib.hid hc2
  have HS2 := Lib.hid hs2
  clear hc2 hs2
  go_wp2_with fail
  go_ret
  exact ⟨_, _, rfl, HC2.out, SB.out.trans (HS1.out.trans HS2.out), by rw [HR.out]; exact KindEnd.want2 H0.out a b 4 1 4⟩

/-- The checker's state behind the first elements of a list. -/
noncomputable def listSt (st : Chk) (ts : List Int) (k : Nat) : Chk := if ∀ t ∈ ts.take k, t = 1 then st else st.bad 9
theorem listSt_zero (st : Chk) (ts : List Int) : listSt st ts 0 = st := by unfold listSt; rw [if_pos (by simp)]
theorem listSt_succ (st : Chk) {ts : List Int} {k : Nat} (h : k < ts.length) : listSt st ts (k + 1) = if ts[k] = 1 then listSt st ts k else (listSt st ts k).bad 9 := by
  unfold listSt
  rw [List.take_succ_eq_append_getElem h]
  by_cases hk : ∀ t ∈ ts.take k, t = 1
  · by_cases he : ts[k] = 1
    · rw [if_pos (by intro t ht; rcases List.mem_append.1 ht with ht | ht; exact hk t ht; simp at ht; rw [ht]; exact he), if_pos he, if_pos hk]
    · rw [if_neg (fun e => he (e _ (List.mem_append.2 (Or.inr (by simp))))), if_neg he, if_pos hk]
  · rw [if_neg (fun e => hk (fun t ht => e t (List.mem_append.2 (Or.inl ht)))), if_neg hk, Chk.bad_bad st (by decide)]
    split <;> rfl
theorem listSt_end {st : Chk} (h0 : st.fault = 0) (ts : List Int) : KindEnd st (if ∀ t ∈ ts, t = 1 then .ok 4 else .error 9) 4 (listSt st ts ts.length) := by
  unfold listSt
  rw [List.take_length]
  by_cases he : ∀ t ∈ ts, t = 1
  · rw [if_pos he, if_pos he]; exact ⟨rfl, rfl⟩
  · rw [if_neg he, if_neg he]; exact KindEnd.bad h0 _ (by decide)

set_option maxRecDepth 10000 in
set_option maxHeartbeats 2000000 in
theorem kind_11 (w : World) (base bc : Nat) (vf : Value) (cf : List Value) (vS : Value) (bs : List Nat) (st : Chk) (h : ChkAt w base bc vf cf vS bs st) (h0 : st.fault = 0) (n : Int) (s : ByteArray) (a3 : Option Addr) (l3 c3 : Nat) (ts : List Int) (aT : Option Addr) (cT : Nat) (hts : w.ownsRow base 3 1 (.slice aT ts.length cT) ts.length (ts.map (Value.int .i64))) (hnT : (Value.slice aT ts.length cT).ownBlock ≠ some bc) (R : Except Int Int) (hR : R = if 4000 < ts.length then .error 1 else if ∀ t ∈ ts, t = 1 then .ok 4 else .error 9) :
    Calls Tryd.prog 190 #[.pointer (some ⟨bc, 0, none⟩), .agg #[.int .i64 11, .int .i64 n, .string s, .slice a3 l3 c3], .slice aT ts.length cT] w (OpPost w base bc vf cf vS bs st R) := by
  have H0 := Lib.hid h0
  have HR := Lib.hid hR
  have hlt := h.lb.2
  have sB := Since.alloc (fun k => k = bc) w (.cells #[.int .i64 11, .int .i64 n, .string s, .slice a3 l3 c3] 213)
  have HB := Lib.hid (h.since (Since.alloc (fun _ => False) w (.cells #[.int .i64 11, .int .i64 n, .string s, .slice a3 l3 c3] 213)) (fun _ e => e.elim))
  have SB := Lib.hid sB
  have hts' := hts.alloc (.cells #[.int .i64 11, .int .i64 n, .string s, .slice a3 l3 c3] 213)
  have Hts := Lib.hid hts'
  have HnT := Lib.hid hnT
  clear hts hts' hnT
  clear h h0 hR sB
  go_enter Tryd.func190, Tryd.ntmps190
  by_cases hbig : 4000 < ts.length
  · have d1 : decide ((ts.length : Int) > 4000) = true := decide_eq_true (by omega)
    have Hb := Lib.hid hbig
    go_wp2_with (first | (go_at_call 86; refine (typedWrong_any _ base bc vf cf vS bs st HB.out 1).mono ?_; rintro en w1 ⟨rfl, hc1, hs1⟩))
    go_ret
    exact ⟨_, _, rfl, hc1, SB.out.trans hs1, by rw [HR.out, if_pos Hb.out]; exact KindEnd.bad H0.out _ (by decide)⟩
  · have d1 : decide ((ts.length : Int) > 4000) = false := decide_eq_false (by omega)
    have Hb := Lib.hid hbig
    clear hbig
    go_wp2_with fail
    generalize hW : w.alloc (.cells #[.int .i64 11, .int .i64 n, .string s, .slice a3 l3 c3] 213) = W at *
    clear hW
    go_loopw [8, 143] (fun s8 s143 wr => ∃ k : Nat, k ≤ ts.length ∧ s143 = .int .i64 k ∧ ChkAt wr base bc vf cf vS bs (listSt st ts k) ∧ Since (fun k => k = bc) W wr) (fun _ s143 _ => ts.length - (intOf s143).toNat)
    case atStart => exact ⟨0, Nat.zero_le _, rfl, by rw [listSt_zero]; exact HB.out, Since.refl _ _⟩
    case round =>
      obtain ⟨k, hk, rfl, hcr, hsr⟩ := hrel
      have HCr := Lib.hid hcr
      have HSr := Lib.hid hsr
      clear hcr hsr
      by_cases hlt2 : k < ts.length
      · have hlt1 : (k : Int) < (ts.length : Int) := by omega
        have hk0 : (0 : Int) ≤ k := by omega
        obtain ⟨gT, cT', hvT, -, -, hgl, hTc, -⟩ := rowGet Hts.out (i := k) (u := .int .i64 ts[k]) (by simp [hlt2])
        obtain rfl : aT = some ⟨gT, 0, none⟩ := (Value.slice.inj hvT).1
        have hTn : gT ≠ bc := fun e => HnT.out (by rw [← e]; rfl)
        have hTc' := (HSr.out.cell (o := k) hgl hTn).trans hTc
        have Hsu := Lib.hid (listSt_succ st hlt2)
        have hwk : IntKind.i64.wrap ((k : Int) + 1) = (k : Int) + 1 := IntWalk.i64_in _ (by have := Hb.out; omega)
        clear hTc hvT
        generalize ts[k] = tk at *
        go_wp2_with fail
        refine (typedWant_any wr base bc vf cf vS bs _ HCr.out tk 1).mono ?_
        rintro en w3 ⟨rfl, hc3, hs3⟩
        have HC3 := Lib.hid hc3
        have HS3 := Lib.hid hs3
        clear hc3 hs3
        go_wp2_with fail
        go_roundw
        case rel => exact ⟨k + 1, by omega, by go_num, by rw [Hsu.out]; exact HC3.out, HSr.out.trans HS3.out⟩
        case measure => simp [intOf]; omega
      · have hke : k = ts.length := by omega
        subst hke
        go_wp2_with fail
        go_ret
        exact ⟨_, _, rfl, HCr.out, SB.out.trans HSr.out, by rw [HR.out, if_neg Hb.out]; exact listSt_end H0.out ts⟩

set_option maxRecDepth 10000 in
set_option maxHeartbeats 2000000 in
theorem kind_12 (w : World) (base bc : Nat) (vf : Value) (cf : List Value) (vS : Value) (bs : List Nat) (st : Chk) (h : ChkAt w base bc vf cf vS bs st) (h0 : st.fault = 0) (n : Int) (s : ByteArray) (a3 : Option Addr) (l3 c3 : Nat) (aT : Option Addr) (lT cT : Nat) (R : Except Int Int) (hR : R = .ok 5) :
    Calls Tryd.prog 190 #[.pointer (some ⟨bc, 0, none⟩), .agg #[.int .i64 12, .int .i64 n, .string s, .slice a3 l3 c3], .slice aT lT cT] w (OpPost w base bc vf cf vS bs st R) := by
  have H0 := Lib.hid h0
  have HR := Lib.hid hR
  have hlt := h.lb.2
  have sB := Since.alloc (fun k => k = bc) w (.cells #[.int .i64 12, .int .i64 n, .string s, .slice a3 l3 c3] 213)
  have HB := Lib.hid (h.since (Since.alloc (fun _ => False) w (.cells #[.int .i64 12, .int .i64 n, .string s, .slice a3 l3 c3] 213)) (fun _ e => e.elim))
  have SB := Lib.hid sB
  clear h h0 hR sB
  go_enter Tryd.func190, Tryd.ntmps190
  go_wp2_with fail
  go_ret
  exact ⟨_, _, rfl, HB.out, SB.out, by rw [HR.out]; exact ⟨rfl, rfl⟩⟩
end Go.Proofs.YtaomlfbcfmmhlaaDoor

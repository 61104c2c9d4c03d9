/-
  The reference's machineInstrFault: the contract.
-/
import Derived.Test.YthgmaapebplimaaDoorInstrFault
namespace Go.Proofs.YthgmaapebplimaaDoor
open Go.RowKit Go.Pst
set_option linter.unusedVariables false

theorem machF_slot {fs : List PCode} {vars slots results : Int} {nb : Nat} {i : PInstr} (h : i.op = 21 ∨ i.op = 22) : machineInstrFaultF fs vars slots results nb i =
    if i.ds.length ≠ (if i.op = 22 then 0 else 1) ∨ i.as.length ≠ (if i.op = 22 then 1 else 0) ∨ i.to.length ≠ 0 then 10
    else if (inAll i.ds vars && inAll i.as vars && decide (0 ≤ i.n) && decide (i.n ≤ slots - 1)) = false then 2
    else 0 := by unfold machineInstrFaultF; rw [if_pos h]
theorem machF_call {fs : List PCode} {vars slots results : Int} {nb : Nat} {i : PInstr} (h : ¬ (i.op = 21 ∨ i.op = 22)) (h7 : i.op = 7 ∨ i.op = 12) : machineInstrFaultF fs vars slots results nb i = instrFaultF fs slots results nb i := by
  unfold machineInstrFaultF; rw [if_neg h, if_pos h7]
theorem machF_else {fs : List PCode} {vars slots results : Int} {nb : Nat} {i : PInstr} (h : ¬ (i.op = 21 ∨ i.op = 22)) (h7 : ¬ (i.op = 7 ∨ i.op = 12)) : machineInstrFaultF fs vars slots results nb i = instrFaultF fs vars results nb i := by
  unfold machineInstrFaultF; rw [if_neg h, if_neg h7]

theorem nei_t (n k : Nat) (h : ¬ n = k) : ((n : Int) != ((k : Nat) : Int)) = true := by simp; omega
theorem nei_f (n k : Nat) (h : n = k) : ((n : Int) != ((k : Nat) : Int)) = false := by simp; omega

set_option maxRecDepth 4000 in
set_option maxHeartbeats 2000000 in
theorem machInstr_any (fs : List PCode) (p0 p1 : Value) (c : PCode) (ccs : List Value) (x : PInstr) (xcs : List Value) (w : World) (hp : rCodes (fun _ => True) w [p0] fs)
    (hc : rCode (fun _ => True) w ccs c) (hx : rInstr (fun _ => True) w xcs x) (hv : 0 ≤ c.vars) (hs0 : 0 ≤ c.slots) :
    Calls Tryd.prog 34 #[.agg #[p0, p1], .agg ccs.toArray, .agg xcs.toArray] w fun e w' => e = .returned (.int .i64 (machineInstrFaultF fs c.vars c.slots c.results c.blocks.length x)) ∧ Below w.heap.size w w' := by
  have Hx := Lib.hid hx
  have Hp := Lib.hid hp
  obtain ⟨v5, rfl, ⟨hnm, hpr, hres, hvars, hslots⟩, hbs⟩ := hc
  obtain ⟨v1, v2, v6, rfl, ⟨hop, hn, hs⟩, h1, h2, h6⟩ := hx
  obtain ⟨a5, c5, rfl⟩ := rSlice_shape hbs
  obtain ⟨a1, c1, rfl, hl1, hat1, -⟩ := rInts_open h1
  obtain ⟨a2, c2, rfl, hl2, hat2, -⟩ := rInts_open h2
  obtain ⟨a6, c6, rfl, hl6, hat6, -⟩ := rInts_open h6
  have Hat1 := Lib.hid hat1
  have Hat2 := Lib.hid hat2
  have hvi := hvars.2
  have hsi := hslots.2
  have Hbs := Lib.hid hbs
  have HI := Lib.hid (And.intro hnm (And.intro hpr (And.intro hres (And.intro hvars hslots))))
  clear h1 h2 h6 hop hn hs hvars hres hslots hpr hnm hat1 hat2 hat6 hbs hp
  by_cases hs21 : x.op = 21
  · have Hsl := Lib.hid (show machineInstrFaultF fs c.vars c.slots c.results c.blocks.length x = if x.ds.length ≠ 1 ∨ x.as.length ≠ 0 ∨ x.to.length ≠ 0 then 10 else if (inAll x.ds c.vars && inAll x.as c.vars && decide (0 ≤ x.n) && decide (x.n ≤ c.slots - 1)) = false then 2 else 0 by
      rw [machF_slot (Or.inl hs21), hs21]; rfl)
    rw [hs21]
    clear hs21
    by_cases e1 : x.ds.length = 1
    case neg =>
      have b1 : ((x.ds.length : Int) != 1) = true := nei_t _ 1 e1
      have E := Lib.hid e1
      clear e1
      go_enter Tryd.func34, Tryd.ntmps34
      go_wp2_with fail
      go_ret
      exact ⟨by rw [Hsl.out, if_pos (Or.inl E.out)]; rfl, below_box3 _ _ _ _⟩
    have b1 : ((x.ds.length : Int) != 1) = false := nei_f _ 1 e1
    by_cases e2 : x.as.length = 0
    case neg =>
      have b2 : ((x.as.length : Int) != 0) = true := nei_t _ 0 e2
      have E := Lib.hid e2
      clear e1 e2
      go_enter Tryd.func34, Tryd.ntmps34
      go_wp2_with fail
      go_ret
      exact ⟨by rw [Hsl.out, if_pos (Or.inr (Or.inl E.out))]; rfl, below_box3 _ _ _ _⟩
    have b2 : ((x.as.length : Int) != 0) = false := nei_f _ 0 e2
    by_cases e3 : x.to.length = 0
    case neg =>
      have b3 : ((x.to.length : Int) != 0) = true := nei_t _ 0 e3
      have E := Lib.hid e3
      clear e1 e2 e3
      go_enter Tryd.func34, Tryd.ntmps34
      go_wp2_with fail
      go_ret
      exact ⟨by rw [Hsl.out, if_pos (Or.inr (Or.inr E.out))]; rfl, below_box3 _ _ _ _⟩
    have b3 : ((x.to.length : Int) != 0) = false := nei_f _ 0 e3
    have Hs2 := Lib.hid (show machineInstrFaultF fs c.vars c.slots c.results c.blocks.length x = if (inAll x.ds c.vars && inAll x.as c.vars && decide (0 ≤ x.n) && decide (x.n ≤ c.slots - 1)) = false then 2 else 0 by
      rw [Hsl.out, if_neg (fun h => h.elim (fun h => h e1) (fun h => h.elim (fun h => h e2) (fun h => h e3)))])
    clear e1 e2 e3 Hsl
    generalize hw0 : ((w.alloc (.cells #[p0, p1] 25)).alloc (.cells #[.string c.name, .int .i64 c.params, .int .i64 c.results, .int .i64 c.vars, .int .i64 c.slots, .slice a5 c.blocks.length c5] 28)).alloc
        (.cells #[.int .i64 21, .slice a1 x.ds.length c1, .slice a2 x.as.length c2, .int .i64 x.n, .string x.s, .slice a6 x.to.length c6] 36) = w0
    have hbel : Below w.heap.size w w0 := by rw [← hw0]; exact below_box3 _ _ _ _
    have Hbel := Lib.hid hbel
    have f1 := Lib.hid (fun cc => allIn_any 0 (c.vars - 1) a1 x.ds cc w0 hl1 (Hat1.out.below hbel))
    have f2 := Lib.hid (fun cc => allIn_any 0 (c.vars - 1) a2 x.as cc w0 hl2 (Hat2.out.below hbel))
    have f3 := Lib.hid (refIn_any x.n 0 (c.slots - 1) w0)
    have bc3 : w0.cell? ⟨w.heap.size + 1, 3, none⟩ = some (.int .i64 c.vars) := by rw [← hw0, box3_2]; rfl
    have bc4 : w0.cell? ⟨w.heap.size + 1, 4, none⟩ = some (.int .i64 c.slots) := by rw [← hw0, box3_2]; rfl
    have bx1 : w0.cell? ⟨w.heap.size + 1 + 1, 1, none⟩ = some (.slice a1 x.ds.length c1) := by rw [← hw0, box3_3]; rfl
    have bx2 : w0.cell? ⟨w.heap.size + 1 + 1, 2, none⟩ = some (.slice a2 x.as.length c2) := by rw [← hw0, box3_3]; rfl
    have bx3 : w0.cell? ⟨w.heap.size + 1 + 1, 3, none⟩ = some (.int .i64 x.n) := by rw [← hw0, box3_3]; rfl
    have Hw0 := Lib.hid hw0
    clear hbel hw0
    go_enter Tryd.func34, Tryd.ntmps34
    go_wp2_with fail
    rw [Hw0.out]
    refine (f1.out _).mono ?_
    rintro e w1 ⟨rfl, rfl⟩
    have e1 : (x.ds.all fun x => decide (0 ≤ x) && decide (x ≤ c.vars - 1)) = inAll x.ds c.vars := rfl
    rw [e1]
    clear e1 f1
    cases q1 : inAll x.ds c.vars with
    | false =>
      have Q := Lib.hid q1
      clear q1
      go_wp2_with fail
      go_ret
      exact ⟨by rw [Hs2.out, if_pos (by rw [Q.out]; rfl)]; rfl, Hbel.out⟩
    | true =>
    have Q1 := Lib.hid q1
    clear q1
    go_wp2_with fail
    refine (f2.out _).mono ?_
    rintro e w1 ⟨rfl, rfl⟩
    have e1 : (x.as.all fun x => decide (0 ≤ x) && decide (x ≤ c.vars - 1)) = inAll x.as c.vars := rfl
    rw [e1]
    clear e1 f2
    cases q1 : inAll x.as c.vars with
    | false =>
      have Q := Lib.hid q1
      clear q1
      go_wp2_with fail
      go_ret
      exact ⟨by rw [Hs2.out, if_pos (by rw [Q1.out, Q.out]; rfl)]; rfl, Hbel.out⟩
    | true =>
    have Q2 := Lib.hid q1
    clear q1
    go_wp2_with fail
    refine (f3.out).mono ?_
    rintro e w1 ⟨rfl, rfl⟩
    clear f3
    cases q1 : (decide (0 ≤ x.n) && decide (x.n ≤ c.slots - 1)) with
    | false =>
      have Q := Lib.hid q1
      clear q1
      go_wp2_with fail
      go_ret
      exact ⟨by rw [Hs2.out, if_pos (by rw [Q1.out, Q2.out, Bool.true_and, Bool.true_and, Q.out])]; rfl, Hbel.out⟩
    | true =>
      have Q := Lib.hid q1
      clear q1
      go_wp2_with fail
      go_ret
      exact ⟨by rw [Hs2.out, if_neg (by rw [Q1.out, Q2.out, Bool.true_and, Bool.true_and, Q.out]; decide)]; rfl, Hbel.out⟩
  by_cases hs22 : x.op = 22
  · have Hsl := Lib.hid (show machineInstrFaultF fs c.vars c.slots c.results c.blocks.length x = if x.ds.length ≠ 0 ∨ x.as.length ≠ 1 ∨ x.to.length ≠ 0 then 10 else if (inAll x.ds c.vars && inAll x.as c.vars && decide (0 ≤ x.n) && decide (x.n ≤ c.slots - 1)) = false then 2 else 0 by
      rw [machF_slot (Or.inr hs22), hs22]; rfl)
    rw [hs22]
    clear hs22
    by_cases e1 : x.ds.length = 0
    case neg =>
      have b1 : ((x.ds.length : Int) != 0) = true := nei_t _ 0 e1
      have E := Lib.hid e1
      clear e1
      go_enter Tryd.func34, Tryd.ntmps34
      go_wp2_with fail
      go_ret
      exact ⟨by rw [Hsl.out, if_pos (Or.inl E.out)]; rfl, below_box3 _ _ _ _⟩
    have b1 : ((x.ds.length : Int) != 0) = false := nei_f _ 0 e1
    by_cases e2 : x.as.length = 1
    case neg =>
      have b2 : ((x.as.length : Int) != 1) = true := nei_t _ 1 e2
      have E := Lib.hid e2
      clear e1 e2
      go_enter Tryd.func34, Tryd.ntmps34
      go_wp2_with fail
      go_ret
      exact ⟨by rw [Hsl.out, if_pos (Or.inr (Or.inl E.out))]; rfl, below_box3 _ _ _ _⟩
    have b2 : ((x.as.length : Int) != 1) = false := nei_f _ 1 e2
    by_cases e3 : x.to.length = 0
    case neg =>
      have b3 : ((x.to.length : Int) != 0) = true := nei_t _ 0 e3
      have E := Lib.hid e3
      clear e1 e2 e3
      go_enter Tryd.func34, Tryd.ntmps34
      go_wp2_with fail
      go_ret
      exact ⟨by rw [Hsl.out, if_pos (Or.inr (Or.inr E.out))]; rfl, below_box3 _ _ _ _⟩
    have b3 : ((x.to.length : Int) != 0) = false := nei_f _ 0 e3
    have Hs2 := Lib.hid (show machineInstrFaultF fs c.vars c.slots c.results c.blocks.length x = if (inAll x.ds c.vars && inAll x.as c.vars && decide (0 ≤ x.n) && decide (x.n ≤ c.slots - 1)) = false then 2 else 0 by
      rw [Hsl.out, if_neg (fun h => h.elim (fun h => h e1) (fun h => h.elim (fun h => h e2) (fun h => h e3)))])
    clear e1 e2 e3 Hsl
    generalize hw0 : ((w.alloc (.cells #[p0, p1] 25)).alloc (.cells #[.string c.name, .int .i64 c.params, .int .i64 c.results, .int .i64 c.vars, .int .i64 c.slots, .slice a5 c.blocks.length c5] 28)).alloc
        (.cells #[.int .i64 22, .slice a1 x.ds.length c1, .slice a2 x.as.length c2, .int .i64 x.n, .string x.s, .slice a6 x.to.length c6] 36) = w0
    have hbel : Below w.heap.size w w0 := by rw [← hw0]; exact below_box3 _ _ _ _
    have Hbel := Lib.hid hbel
    have f1 := Lib.hid (fun cc => allIn_any 0 (c.vars - 1) a1 x.ds cc w0 hl1 (Hat1.out.below hbel))
    have f2 := Lib.hid (fun cc => allIn_any 0 (c.vars - 1) a2 x.as cc w0 hl2 (Hat2.out.below hbel))
    have f3 := Lib.hid (refIn_any x.n 0 (c.slots - 1) w0)
    have bc3 : w0.cell? ⟨w.heap.size + 1, 3, none⟩ = some (.int .i64 c.vars) := by rw [← hw0, box3_2]; rfl
    have bc4 : w0.cell? ⟨w.heap.size + 1, 4, none⟩ = some (.int .i64 c.slots) := by rw [← hw0, box3_2]; rfl
    have bx1 : w0.cell? ⟨w.heap.size + 1 + 1, 1, none⟩ = some (.slice a1 x.ds.length c1) := by rw [← hw0, box3_3]; rfl
    have bx2 : w0.cell? ⟨w.heap.size + 1 + 1, 2, none⟩ = some (.slice a2 x.as.length c2) := by rw [← hw0, box3_3]; rfl
    have bx3 : w0.cell? ⟨w.heap.size + 1 + 1, 3, none⟩ = some (.int .i64 x.n) := by rw [← hw0, box3_3]; rfl
    have Hw0 := Lib.hid hw0
    clear hbel hw0
    go_enter Tryd.func34, Tryd.ntmps34
    go_wp2_with fail
    rw [Hw0.out]
    refine (f1.out _).mono ?_
    rintro e w1 ⟨rfl, rfl⟩
    have e1 : (x.ds.all fun x => decide (0 ≤ x) && decide (x ≤ c.vars - 1)) = inAll x.ds c.vars := rfl
    rw [e1]
    clear e1 f1
    cases q1 : inAll x.ds c.vars with
    | false =>
      have Q := Lib.hid q1
      clear q1
      go_wp2_with fail
      go_ret
      exact ⟨by rw [Hs2.out, if_pos (by rw [Q.out]; rfl)]; rfl, Hbel.out⟩
    | true =>
    have Q1 := Lib.hid q1
    clear q1
    go_wp2_with fail
    refine (f2.out _).mono ?_
    rintro e w1 ⟨rfl, rfl⟩
    have e1 : (x.as.all fun x => decide (0 ≤ x) && decide (x ≤ c.vars - 1)) = inAll x.as c.vars := rfl
    rw [e1]
    clear e1 f2
    cases q1 : inAll x.as c.vars with
    | false =>
      have Q := Lib.hid q1
      clear q1
      go_wp2_with fail
      go_ret
      exact ⟨by rw [Hs2.out, if_pos (by rw [Q1.out, Q.out]; rfl)]; rfl, Hbel.out⟩
    | true =>
    have Q2 := Lib.hid q1
    clear q1
    go_wp2_with fail
    refine (f3.out).mono ?_
    rintro e w1 ⟨rfl, rfl⟩
    clear f3
    cases q1 : (decide (0 ≤ x.n) && decide (x.n ≤ c.slots - 1)) with
    | false =>
      have Q := Lib.hid q1
      clear q1
      go_wp2_with fail
      go_ret
      exact ⟨by rw [Hs2.out, if_pos (by rw [Q1.out, Q2.out, Bool.true_and, Bool.true_and, Q.out])]; rfl, Hbel.out⟩
    | true =>
      have Q := Lib.hid q1
      clear q1
      go_wp2_with fail
      go_ret
      exact ⟨by rw [Hs2.out, if_neg (by rw [Q1.out, Q2.out, Bool.true_and, Bool.true_and, Q.out]; decide)]; rfl, Hbel.out⟩
  have hno : ¬ (x.op = 21 ∨ x.op = 22) := fun h => h.elim hs21 hs22
  have o21 : (x.op == 21) = false := by simpa using hs21
  have o22 : (x.op == 22) = false := by simpa using hs22
  clear hs21 hs22
  have Hno := Lib.hid hno
  have hbel : ∀ A B C, Below w.heap.size w (((w.alloc (.cells A 25)).alloc (.cells B 28)).alloc (.cells C 36)) := fun A B C => below_box3 _ _ _ _
  have Hbel := Lib.hid hbel
  clear hno hbel
  have hsp : x.op = 7 ∨ (¬ x.op = 7 ∧ x.op = 12) ∨ (¬ x.op = 7 ∧ ¬ x.op = 12) := by
    by_cases h7 : x.op = 7
    · exact Or.inl h7
    · by_cases h12 : x.op = 12
      · exact Or.inr (Or.inl ⟨h7, h12⟩)
      · exact Or.inr (Or.inr ⟨h7, h12⟩)
  rcases hsp with e7 | ⟨e7, e12⟩ | ⟨e7, e12⟩
  · have o7 : (x.op == 7) = true := by simpa using e7
    have Hf := Lib.hid (machF_call (fs := fs) (vars := c.vars) (slots := c.slots) (results := c.results) (nb := c.blocks.length) Hno.out (Or.inl e7))
    clear e7
    go_enter Tryd.func34, Tryd.ntmps34
    go_wp2_with fail
    refine (instrFault_any fs p0 p1 { c with vars := c.slots } _ x _ _ (Good.kept (Keep.of_below' (Hbel.out _ _ _) (fun k hk _ => hk)) Hp.out) (Good.kept (Keep.of_below' (Hbel.out _ _ _) (fun k hk _ => hk)) ⟨_, rfl, ⟨HI.out.1, HI.out.2.1, HI.out.2.2.1, HI.out.2.2.2.2, HI.out.2.2.2.2⟩, Hbs.out⟩) (Good.kept (Keep.of_below' (Hbel.out _ _ _) (fun k hk _ => hk)) Hx.out) hs0).mono ?_
    rintro e w1 ⟨rfl, hb1⟩
    have Hb1 := Lib.hid hb1
    clear hb1
    go_wp2_with fail
    go_ret
    exact ⟨by rw [Hf.out]; rfl, (Hbel.out _ _ _).trans (Hb1.out.mono (by simp; omega))⟩
  · have o7 : (x.op == 7) = false := by simpa using e7
    have o12 : (x.op == 12) = true := by simpa using e12
    have Hf := Lib.hid (machF_call (fs := fs) (vars := c.vars) (slots := c.slots) (results := c.results) (nb := c.blocks.length) Hno.out (Or.inr e12))
    clear e7 e12
    go_enter Tryd.func34, Tryd.ntmps34
    go_wp2_with fail
    refine (instrFault_any fs p0 p1 { c with vars := c.slots } _ x _ _ (Good.kept (Keep.of_below' (Hbel.out _ _ _) (fun k hk _ => hk)) Hp.out) (Good.kept (Keep.of_below' (Hbel.out _ _ _) (fun k hk _ => hk)) ⟨_, rfl, ⟨HI.out.1, HI.out.2.1, HI.out.2.2.1, HI.out.2.2.2.2, HI.out.2.2.2.2⟩, Hbs.out⟩) (Good.kept (Keep.of_below' (Hbel.out _ _ _) (fun k hk _ => hk)) Hx.out) hs0).mono ?_
    rintro e w1 ⟨rfl, hb1⟩
    have Hb1 := Lib.hid hb1
    clear hb1
    go_wp2_with fail
    go_ret
    exact ⟨by rw [Hf.out]; rfl, (Hbel.out _ _ _).trans (Hb1.out.mono (by simp; omega))⟩
  · have o7 : (x.op == 7) = false := by simpa using e7
    have o12 : (x.op == 12) = false := by simpa using e12
    have Hf := Lib.hid (machF_else (fs := fs) (vars := c.vars) (slots := c.slots) (results := c.results) (nb := c.blocks.length) Hno.out (fun h => h.elim e7 e12))
    clear e7 e12
    go_enter Tryd.func34, Tryd.ntmps34
    go_wp2_with fail
    refine (instrFault_any fs p0 p1 c _ x _ _ (Good.kept (Keep.of_below' (Hbel.out _ _ _) (fun k hk _ => hk)) Hp.out) (Good.kept (Keep.of_below' (Hbel.out _ _ _) (fun k hk _ => hk)) ⟨_, rfl, HI.out, Hbs.out⟩) (Good.kept (Keep.of_below' (Hbel.out _ _ _) (fun k hk _ => hk)) Hx.out) hv).mono ?_
    rintro e w1 ⟨rfl, hb1⟩
    have Hb1 := Lib.hid hb1
    clear hb1
    go_wp2_with fail
    go_ret
    exact ⟨by rw [Hf.out]; rfl, (Hbel.out _ _ _).trans (Hb1.out.mono (by simp; omega))⟩
end Go.Proofs.YthgmaapebplimaaDoor

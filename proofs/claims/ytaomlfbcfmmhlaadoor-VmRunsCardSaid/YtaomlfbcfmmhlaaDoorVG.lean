/-
  Texts joined: MachInstr MachCode MachFault RanRes SameRun.
-/
import Derived.Test.YtaomlfbcfmmhlaaDoorVF
import Derived.StillTailTactics

/-
  The reference's machineInstrFault: the contract.
-/
namespace Go.Proofs.YtaomlfbcfmmhlaaDoor
open Go.RowKit Go.Pst
set_option linter.unusedVariables false

theorem machF_slot {fs : List PCode} {vars slots results : Int} {nb : Nat} {i : PInstr} (h : i.op = 21 ∨ i.op = 22) : machineInstrFaultF fs vars slots results nb i =
    if i.ds.length ≠ (if i.op = 22 then 0 else 1) ∨ i.ars.length ≠ (if i.op = 22 then 1 else 0) ∨ i.to.length ≠ 0 then 10
    else if (inAll i.ds vars && inAll i.ars vars && decide (0 ≤ i.n) && decide (i.n ≤ slots - 1)) = false then 2
    else 0 := by unfold machineInstrFaultF; rw [if_pos h]
theorem machF_call {fs : List PCode} {vars slots results : Int} {nb : Nat} {i : PInstr} (h : ¬ (i.op = 21 ∨ i.op = 22)) (h7 : i.op = 7 ∨ i.op = 12) : machineInstrFaultF fs vars slots results nb i = instrFaultF fs slots results nb i := by
  unfold machineInstrFaultF; rw [if_neg h, if_pos h7]
theorem machF_else {fs : List PCode} {vars slots results : Int} {nb : Nat} {i : PInstr} (h : ¬ (i.op = 21 ∨ i.op = 22)) (h7 : ¬ (i.op = 7 ∨ i.op = 12)) : machineInstrFaultF fs vars slots results nb i = instrFaultF fs vars results nb i := by
  unfold machineInstrFaultF; rw [if_neg h, if_neg h7]

theorem nei_t (n k : Nat) (h : ¬ n = k) : ((n : Int) != ((k : Nat) : Int)) = true := by simp; omega
theorem nei_f (n k : Nat) (h : n = k) : ((n : Int) != ((k : Nat) : Int)) = false := by simp; omega

set_option maxRecDepth 4000 in
set_option maxHeartbeats 2000000 in
theorem machInstr_any (fs : List PCode) (p0 p1 : Value) (c : PCode) (ccs : List Value) (x : PInstr) (xcs : List Value) (w : World) (hp : rCodes (fun _ => True) w [p0] fs)
    (hc : rCode (fun _ => True) w ccs c) (hx : rInstr (fun _ => True) w xcs x) (hv : 0 ≤ c.vars) (hs0 : 0 ≤ c.slots) :
    Calls Tryd.prog 157 #[.agg #[p0, p1], .agg ccs.toArray, .agg xcs.toArray] w fun e w' => e = .returned (.int .i64 (machineInstrFaultF fs c.vars c.slots c.results c.blocks.length x)) ∧ Below w.heap.size w w' := by
  have Hx := Lib.hid hx
  have Hp := Lib.hid hp
  obtain ⟨v5, rfl, ⟨hnm, hpr, hres, hvars, hslots⟩, hbs⟩ := hc
  obtain ⟨v1, v2, v6, rfl, ⟨hop, hn, hs⟩, h1, h2, h6⟩ := hx
  obtain ⟨a5, c5, rfl⟩ := rSlice_shape hbs
  obtain ⟨a1, c1, rfl, hl1, hat1, -⟩ := rInts_open h1
  obtain ⟨a2, c2, rfl, hl2, hat2, -⟩ := rInts_open h2
  obtain ⟨a6, c6, rfl, hl6, hat6, -⟩ := rInts_open h6
  have Hat1 := Lib.hid hat1
  have Hat2 := Lib.hid hat2
  have hvi := hvars.2
  have hsi := hslots.2
  have Hbs := Lib.hid hbs
  have HI := Lib.hid (And.intro hnm (And.intro hpr (And.intro hres (And.intro hvars hslots))))
  clear h1 h2 h6 hop hn hs hvars hres hslots hpr hnm hat1 hat2 hat6 hbs hp
  by_cases hs21 : x.op = 21
  · have Hsl := Lib.hid (show machineInstrFaultF fs c.vars c.slots c.results c.blocks.length x = if x.ds.length ≠ 1 ∨ x.ars.length ≠ 0 ∨ x.to.length ≠ 0 then 10 else if (inAll x.ds c.vars && inAll x.ars c.vars && decide (0 ≤ x.n) && decide (x.n ≤ c.slots - 1)) = false then 2 else 0 by
      rw [machF_slot (Or.inl hs21), hs21]; rfl)
    rw [hs21]
    clear hs21
    by_cases e1 : x.ds.length = 1
    case neg =>
      have b1 : ((x.ds.length : Int) != 1) = true := nei_t _ 1 e1
      have E := Lib.hid e1
      clear e1
      go_enter Tryd.func157, Tryd.ntmps157
      go_wp2_with fail
      go_ret
      exact ⟨by rw [Hsl.out, if_pos (Or.inl E.out)]; rfl, below_box3 _ _ _ _⟩
    have b1 : ((x.ds.length : Int) != 1) = false := nei_f _ 1 e1
    by_cases e2 : x.ars.length = 0
    case neg =>
      have b2 : ((x.ars.length : Int) != 0) = true := nei_t _ 0 e2
      have E := Lib.hid e2
      clear e1 e2
      go_enter Tryd.func157, Tryd.ntmps157
      go_wp2_with fail
      go_ret
      exact ⟨by rw [Hsl.out, if_pos (Or.inr (Or.inl E.out))]; rfl, below_box3 _ _ _ _⟩
    have b2 : ((x.ars.length : Int) != 0) = false := nei_f _ 0 e2
    by_cases e3 : x.to.length = 0
    case neg =>
      have b3 : ((x.to.length : Int) != 0) = true := nei_t _ 0 e3
      have E := Lib.hid e3
      clear e1 e2 e3
      go_enter Tryd.func157, Tryd.ntmps157
      go_wp2_with fail
      go_ret
      exact ⟨by rw [Hsl.out, if_pos (Or.inr (Or.inr E.out))]; rfl, below_box3 _ _ _ _⟩
    have b3 : ((x.to.length : Int) != 0) = false := nei_f _ 0 e3
    have Hs2 := Lib.hid (show machineInstrFaultF fs c.vars c.slots c.results c.blocks.length x = if (inAll x.ds c.vars && inAll x.ars c.vars && decide (0 ≤ x.n) && decide (x.n ≤ c.slots - 1)) = false then 2 else 0 by
      rw [Hsl.out, if_neg (fun h => h.elim (fun h => h e1) (fun h => h.elim (fun h => h e2) (fun h => h e3)))])
    clear e1 e2 e3 Hsl
    generalize hw0 : ((w.alloc (.cells #[p0, p1] 25)).alloc (.cells #[.string c.name, .int .i64 c.params, .int .i64 c.results, .int .i64 c.vars, .int .i64 c.slots, .slice a5 c.blocks.length c5] 28)).alloc
        (.cells #[.int .i64 21, .slice a1 x.ds.length c1, .slice a2 x.ars.length c2, .int .i64 x.n, .string x.s, .slice a6 x.to.length c6] 53) = w0
    have hbel : Below w.heap.size w w0 := by rw [← hw0]; exact below_box3 _ _ _ _
    have Hbel := Lib.hid hbel
    have f1 := Lib.hid (fun cc => allIn_any 0 (c.vars - 1) a1 x.ds cc w0 hl1 (Hat1.out.below hbel))
    have f2 := Lib.hid (fun cc => allIn_any 0 (c.vars - 1) a2 x.ars cc w0 hl2 (Hat2.out.below hbel))
    have f3 := Lib.hid (refIn_any x.n 0 (c.slots - 1) w0)
    have bc3 : w0.cell? ⟨w.heap.size + 1, 3, none⟩ = some (.int .i64 c.vars) := by rw [← hw0, box3_2]; rfl
    have bc4 : w0.cell? ⟨w.heap.size + 1, 4, none⟩ = some (.int .i64 c.slots) := by rw [← hw0, box3_2]; rfl
    have bx1 : w0.cell? ⟨w.heap.size + 1 + 1, 1, none⟩ = some (.slice a1 x.ds.length c1) := by rw [← hw0, box3_3]; rfl
    have bx2 : w0.cell? ⟨w.heap.size + 1 + 1, 2, none⟩ = some (.slice a2 x.ars.length c2) := by rw [← hw0, box3_3]; rfl
    have bx3 : w0.cell? ⟨w.heap.size + 1 + 1, 3, none⟩ = some (.int .i64 x.n) := by rw [← hw0, box3_3]; rfl
    have Hw0 := Lib.hid hw0
    clear hbel hw0
    go_enter Tryd.func157, Tryd.ntmps157
    go_wp2_with fail
    rw [Hw0.out]
    refine (f1.out _).mono ?_
    rintro e w1 ⟨rfl, rfl⟩
    have e1 : (x.ds.all fun x => decide (0 ≤ x) && decide (x ≤ c.vars - 1)) = inAll x.ds c.vars := rfl
    rw [e1]
    clear e1 f1
    cases q1 : inAll x.ds c.vars with
    | false =>
      have Q := Lib.hid q1
      clear q1
      go_wp2_with fail
      go_ret
      exact ⟨by rw [Hs2.out, if_pos (by rw [Q.out]; rfl)]; rfl, Hbel.out⟩
    | true =>
    have Q1 := Lib.hid q1
    clear q1
    go_wp2_with fail
    refine (f2.out _).mono ?_
    rintro e w1 ⟨rfl, rfl⟩
    have e1 : (x.ars.all fun x => decide (0 ≤ x) && decide (x ≤ c.vars - 1)) = inAll x.ars c.vars := rfl
    rw [e1]
    clear e1 f2
    cases q1 : inAll x.ars c.vars with
    | false =>
      have Q := Lib.hid q1
      clear q1
      go_wp2_with fail
      go_ret
      exact ⟨by rw [Hs2.out, if_pos (by rw [Q1.out, Q.out]; rfl)]; rfl, Hbel.out⟩
    | true =>
    have Q2 := Lib.hid q1
    clear q1
    go_wp2_with fail
    refine (f3.out).mono ?_
    rintro e w1 ⟨rfl, rfl⟩
    clear f3
    cases q1 : (decide (0 ≤ x.n) && decide (x.n ≤ c.slots - 1)) with
    | false =>
      have Q := Lib.hid q1
      clear q1
      go_wp2_with fail
      go_ret
      exact ⟨by rw [Hs2.out, if_pos (by rw [Q1.out, Q2.out, Bool.true_and, Bool.true_and, Q.out])]; rfl, Hbel.out⟩
    | true =>
      have Q := Lib.hid q1
      clear q1
      go_wp2_with fail
      go_ret
      exact ⟨by rw [Hs2.out, if_neg (by rw [Q1.out, Q2.out, Bool.true_and, Bool.true_and, Q.out]; decide)]; rfl, Hbel.out⟩
  by_cases hs22 : x.op = 22
  · have Hsl := Lib.hid (show machineInstrFaultF fs c.vars c.slots c.results c.blocks.length x = if x.ds.length ≠ 0 ∨ x.ars.length ≠ 1 ∨ x.to.length ≠ 0 then 10 else if (inAll x.ds c.vars && inAll x.ars c.vars && decide (0 ≤ x.n) && decide (x.n ≤ c.slots - 1)) = false then 2 else 0 by
      rw [machF_slot (Or.inr hs22), hs22]; rfl)
    rw [hs22]
    clear hs22
    by_cases e1 : x.ds.length = 0
    case neg =>
      have b1 : ((x.ds.length : Int) != 0) = true := nei_t _ 0 e1
      have E := Lib.hid e1
      clear e1
      go_enter Tryd.func157, Tryd.ntmps157
      go_wp2_with fail
      go_ret
      exact ⟨by rw [Hsl.out, if_pos (Or.inl E.out)]; rfl, below_box3 _ _ _ _⟩
    have b1 : ((x.ds.length : Int) != 0) = false := nei_f _ 0 e1
    by_cases e2 : x.ars.length = 1
    case neg =>
      have b2 : ((x.ars.length : Int) != 1) = true := nei_t _ 1 e2
      have E := Lib.hid e2
      clear e1 e2
      go_enter Tryd.func157, Tryd.ntmps157
      go_wp2_with fail
      go_ret
      exact ⟨by rw [Hsl.out, if_pos (Or.inr (Or.inl E.out))]; rfl, below_box3 _ _ _ _⟩
    have b2 : ((x.ars.length : Int) != 1) = false := nei_f _ 1 e2
    by_cases e3 : x.to.length = 0
    case neg =>
      have b3 : ((x.to.length : Int) != 0) = true := nei_t _ 0 e3
      have E := Lib.hid e3
      clear e1 e2 e3
      go_enter Tryd.func157, Tryd.ntmps157
      go_wp2_with fail
      go_ret
      exact ⟨by rw [Hsl.out, if_pos (Or.inr (Or.inr E.out))]; rfl, below_box3 _ _ _ _⟩
    have b3 : ((x.to.length : Int) != 0) = false := nei_f _ 0 e3
    have Hs2 := Lib.hid (show machineInstrFaultF fs c.vars c.slots c.results c.blocks.length x = if (inAll x.ds c.vars && inAll x.ars c.vars && decide (0 ≤ x.n) && decide (x.n ≤ c.slots - 1)) = false then 2 else 0 by
      rw [Hsl.out, if_neg (fun h => h.elim (fun h => h e1) (fun h => h.elim (fun h => h e2) (fun h => h e3)))])
    clear e1 e2 e3 Hsl
    generalize hw0 : ((w.alloc (.cells #[p0, p1] 25)).alloc (.cells #[.string c.name, .int .i64 c.params, .int .i64 c.results, .int .i64 c.vars, .int .i64 c.slots, .slice a5 c.blocks.length c5] 28)).alloc
        (.cells #[.int .i64 22, .slice a1 x.ds.length c1, .slice a2 x.ars.length c2, .int .i64 x.n, .string x.s, .slice a6 x.to.length c6] 53) = w0
    have hbel : Below w.heap.size w w0 := by rw [← hw0]; exact below_box3 _ _ _ _
    have Hbel := Lib.hid hbel
    have f1 := Lib.hid (fun cc => allIn_any 0 (c.vars - 1) a1 x.ds cc w0 hl1 (Hat1.out.below hbel))
    have f2 := Lib.hid (fun cc => allIn_any 0 (c.vars - 1) a2 x.ars cc w0 hl2 (Hat2.out.below hbel))
    have f3 := Lib.hid (refIn_any x.n 0 (c.slots - 1) w0)
    have bc3 : w0.cell? ⟨w.heap.size + 1, 3, none⟩ = some (.int .i64 c.vars) := by rw [← hw0, box3_2]; rfl
    have bc4 : w0.cell? ⟨w.heap.size + 1, 4, none⟩ = some (.int .i64 c.slots) := by rw [← hw0, box3_2]; rfl
    have bx1 : w0.cell? ⟨w.heap.size + 1 + 1, 1, none⟩ = some (.slice a1 x.ds.length c1) := by rw [← hw0, box3_3]; rfl
    have bx2 : w0.cell? ⟨w.heap.size + 1 + 1, 2, none⟩ = some (.slice a2 x.ars.length c2) := by rw [← hw0, box3_3]; rfl
    have bx3 : w0.cell? ⟨w.heap.size + 1 + 1, 3, none⟩ = some (.int .i64 x.n) := by rw [← hw0, box3_3]; rfl
    have Hw0 := Lib.hid hw0
    clear hbel hw0
    go_enter Tryd.func157, Tryd.ntmps157
    go_wp2_with fail
    rw [Hw0.out]
    refine (f1.out _).mono ?_
    rintro e w1 ⟨rfl, rfl⟩
    have e1 : (x.ds.all fun x => decide (0 ≤ x) && decide (x ≤ c.vars - 1)) = inAll x.ds c.vars := rfl
    rw [e1]
    clear e1 f1
    cases q1 : inAll x.ds c.vars with
    | false =>
      have Q := Lib.hid q1
      clear q1
      go_wp2_with fail
      go_ret
      exact ⟨by rw [Hs2.out, if_pos (by rw [Q.out]; rfl)]; rfl, Hbel.out⟩
    | true =>
    have Q1 := Lib.hid q1
    clear q1
    go_wp2_with fail
    refine (f2.out _).mono ?_
    rintro e w1 ⟨rfl, rfl⟩
    have e1 : (x.ars.all fun x => decide (0 ≤ x) && decide (x ≤ c.vars - 1)) = inAll x.ars c.vars := rfl
    rw [e1]
    clear e1 f2
    cases q1 : inAll x.ars c.vars with
    | false =>
      have Q := Lib.hid q1
      clear q1
      go_wp2_with fail
      go_ret
      exact ⟨by rw [Hs2.out, if_pos (by rw [Q1.out, Q.out]; rfl)]; rfl, Hbel.out⟩
    | true =>
    have Q2 := Lib.hid q1
    clear q1
    go_wp2_with fail
    refine (f3.out).mono ?_
    rintro e w1 ⟨rfl, rfl⟩
    clear f3
    cases q1 : (decide (0 ≤ x.n) && decide (x.n ≤ c.slots - 1)) with
    | false =>
      have Q := Lib.hid q1
      clear q1
      go_wp2_with fail
      go_ret
      exact ⟨by rw [Hs2.out, if_pos (by rw [Q1.out, Q2.out, Bool.true_and, Bool.true_and, Q.out])]; rfl, Hbel.out⟩
    | true =>
      have Q := Lib.hid q1
      clear q1
      go_wp2_with fail
      go_ret
      exact ⟨by rw [Hs2.out, if_neg (by rw [Q1.out, Q2.out, Bool.true_and, Bool.true_and, Q.out]; decide)]; rfl, Hbel.out⟩
  have hno : ¬ (x.op = 21 ∨ x.op = 22) := fun h => h.elim hs21 hs22
  have o21 : (x.op == 21) = false := by simpa using hs21
  have o22 : (x.op == 22) = false := by simpa using hs22
  clear hs21 hs22
  have Hno := Lib.hid hno
  have hbel : ∀ A B C, Below w.heap.size w (((w.alloc (.cells A 25)).alloc (.cells B 28)).alloc (.cells C 53)) := fun A B C => below_box3 _ _ _ _
  have Hbel := Lib.hid hbel
  clear hno hbel
  have hsp : x.op = 7 ∨ (¬ x.op = 7 ∧ x.op = 12) ∨ (¬ x.op = 7 ∧ ¬ x.op = 12) := by
    by_cases h7 : x.op = 7
    · exact Or.inl h7
    · by_cases h12 : x.op = 12
      · exact Or.inr (Or.inl ⟨h7, h12⟩)
      · exact Or.inr (Or.inr ⟨h7, h12⟩)
  rcases hsp with e7 | ⟨e7, e12⟩ | ⟨e7, e12⟩
  · have o7 : (x.op == 7) = true := by simpa using e7
    have Hf := Lib.hid (machF_call (fs := fs) (vars := c.vars) (slots := c.slots) (results := c.results) (nb := c.blocks.length) Hno.out (Or.inl e7))
    clear e7
    go_enter Tryd.func157, Tryd.ntmps157
    go_wp2_with fail
    refine (instrFault_any fs p0 p1 { c with vars := c.slots } _ x _ _ (Good.kept (Keep.of_below' (Hbel.out _ _ _) (fun k hk _ => hk)) Hp.out) (Good.kept (Keep.of_below' (Hbel.out _ _ _) (fun k hk _ => hk)) ⟨_, rfl, ⟨HI.out.1, HI.out.2.1, HI.out.2.2.1, HI.out.2.2.2.2, HI.out.2.2.2.2⟩, Hbs.out⟩) (Good.kept (Keep.of_below' (Hbel.out _ _ _) (fun k hk _ => hk)) Hx.out) hs0).mono ?_
    rintro e w1 ⟨rfl, hb1⟩
    have Hb1 := Lib.hid hb1
    clear hb1
    go_wp2_with fail
    go_ret
    exact ⟨by rw [Hf.out]; rfl, (Hbel.out _ _ _).trans (Hb1.out.mono (by simp; omega))⟩
  · have o7 : (x.op == 7) = false := by simpa using e7
    have o12 : (x.op == 12) = true := by simpa using e12
    have Hf := Lib.hid (machF_call (fs := fs) (vars := c.vars) (slots := c.slots) (results := c.results) (nb := c.blocks.length) Hno.out (Or.inr e12))
    clear e7 e12
    go_enter Tryd.func157, Tryd.ntmps157
    go_wp2_with fail
    refine (instrFault_any fs p0 p1 { c with vars := c.slots } _ x _ _ (Good.kept (Keep.of_below' (Hbel.out _ _ _) (fun k hk _ => hk)) Hp.out) (Good.kept (Keep.of_below' (Hbel.out _ _ _) (fun k hk _ => hk)) ⟨_, rfl, ⟨HI.out.1, HI.out.2.1, HI.out.2.2.1, HI.out.2.2.2.2, HI.out.2.2.2.2⟩, Hbs.out⟩) (Good.kept (Keep.of_below' (Hbel.out _ _ _) (fun k hk _ => hk)) Hx.out) hs0).mono ?_
    rintro e w1 ⟨rfl, hb1⟩
    have Hb1 := Lib.hid hb1
    clear hb1
    go_wp2_with fail
    go_ret
    exact ⟨by rw [Hf.out]; rfl, (Hbel.out _ _ _).trans (Hb1.out.mono (by simp; omega))⟩
  · have o7 : (x.op == 7) = false := by simpa using e7
    have o12 : (x.op == 12) = false := by simpa using e12
    have Hf := Lib.hid (machF_else (fs := fs) (vars := c.vars) (slots := c.slots) (results := c.results) (nb := c.blocks.length) Hno.out (fun h => h.elim e7 e12))
    clear e7 e12
    go_enter Tryd.func157, Tryd.ntmps157
    go_wp2_with fail
    refine (instrFault_any fs p0 p1 c _ x _ _ (Good.kept (Keep.of_below' (Hbel.out _ _ _) (fun k hk _ => hk)) Hp.out) (Good.kept (Keep.of_below' (Hbel.out _ _ _) (fun k hk _ => hk)) ⟨_, rfl, HI.out, Hbs.out⟩) (Good.kept (Keep.of_below' (Hbel.out _ _ _) (fun k hk _ => hk)) Hx.out) hv).mono ?_
    rintro e w1 ⟨rfl, hb1⟩
    have Hb1 := Lib.hid hb1
    clear hb1
    go_wp2_with fail
    go_ret
    exact ⟨by rw [Hf.out]; rfl, (Hbel.out _ _ _).trans (Hb1.out.mono (by simp; omega))⟩
end Go.Proofs.YtaomlfbcfmmhlaaDoor

/-
  The reference's machineCodeFault: the contract.
-/
namespace Go.Proofs.YtaomlfbcfmmhlaaDoor
open Go.RowKit Go.Pst
set_option linter.unusedVariables false

set_option maxRecDepth 4000 in
set_option maxHeartbeats 2000000 in
theorem machCode_any (fs : List PCode) (p0 p1 : Value) (c : PCode) (ccs : List Value) (w : World) (hp : rCodes (fun _ => True) w [p0] fs)
    (hc : rCode (fun _ => True) w ccs c) (hf : FitCode c) :
    Calls Tryd.prog 125 #[.agg #[p0, p1], .agg ccs.toArray] w fun e w' => e = .returned (.int .i64 (machineCodeFaultF fs c)) ∧ Below w.heap.size w w' := by
  have hc0 := hc
  obtain ⟨v5, rfl, -, hbs⟩ := hc
  obtain ⟨a5, c5, rfl, hcap5, hmax5, hat⟩ := rSlice_one hbs
  unfold maxLen at hmax5
  have hnb : c.blocks.length ≤ 9223372036854775807 := by omega
  clear hbs hcap5 hmax5
  have Hc := Lib.hid hc0
  have Hat := Lib.hid hat
  have Hp := Lib.hid hp
  clear hc0 hat hp
  by_cases z : c.blocks.length = 0
  · have z1 : ((c.blocks.length : Int) == 0) = true := by simpa using z
    have Z := Lib.hid z
    clear z
    go_enter Tryd.func125, Tryd.ntmps125
    go_wp2_with fail
    go_ret
    exact ⟨by unfold machineCodeFaultF; rw [if_pos Z.out]; rfl, below_box2 _ _ _⟩
  have z1 : ((c.blocks.length : Int) == 0) = false := by simpa using z
  have Z := Lib.hid z
  clear z
  by_cases s0 : 2000 < c.blocks.length
  · have b : decide ((c.blocks.length : Int) > 2000) = true := decide_eq_true (by omega)
    have S := Lib.hid s0
    clear s0
    go_enter Tryd.func125, Tryd.ntmps125
    go_wp2_with fail
    go_ret
    exact ⟨by unfold machineCodeFaultF; rw [if_neg Z.out, if_pos (Or.inl S.out)]; rfl, below_box2 _ _ _⟩
  have bs0 : decide ((c.blocks.length : Int) > 2000) = false := decide_eq_false (by omega)
  have Hs0 := Lib.hid s0
  clear s0
  by_cases s1 : 8 < c.vars
  · have b : decide (c.vars > 8) = true := decide_eq_true (by omega)
    have S := Lib.hid s1
    clear s1
    go_enter Tryd.func125, Tryd.ntmps125
    go_wp2_with fail
    go_ret
    exact ⟨by unfold machineCodeFaultF; rw [if_neg Z.out, if_pos (Or.inr (Or.inl S.out))]; rfl, below_box2 _ _ _⟩
  have bs1 : decide (c.vars > 8) = false := decide_eq_false (by omega)
  have Hs1 := Lib.hid s1
  clear s1
  by_cases s2 : 3000 < c.slots
  · have b : decide (c.slots > 3000) = true := decide_eq_true (by omega)
    have S := Lib.hid s2
    clear s2
    go_enter Tryd.func125, Tryd.ntmps125
    go_wp2_with fail
    go_ret
    exact ⟨by unfold machineCodeFaultF; rw [if_neg Z.out, if_pos (Or.inr (Or.inr (Or.inl S.out)))]; rfl, below_box2 _ _ _⟩
  have bs2 : decide (c.slots > 3000) = false := decide_eq_false (by omega)
  have Hs2 := Lib.hid s2
  clear s2
  by_cases s3 : 16 < c.params
  · have b : decide (c.params > 16) = true := decide_eq_true (by omega)
    have S := Lib.hid s3
    clear s3
    go_enter Tryd.func125, Tryd.ntmps125
    go_wp2_with fail
    go_ret
    exact ⟨by unfold machineCodeFaultF; rw [if_neg Z.out, if_pos (Or.inr (Or.inr (Or.inr (Or.inl S.out))))]; rfl, below_box2 _ _ _⟩
  have bs3 : decide (c.params > 16) = false := decide_eq_false (by omega)
  have Hs3 := Lib.hid s3
  clear s3
  by_cases s4 : 16 < c.results
  · have b : decide (c.results > 16) = true := decide_eq_true (by omega)
    have S := Lib.hid s4
    clear s4
    go_enter Tryd.func125, Tryd.ntmps125
    go_wp2_with fail
    go_ret
    exact ⟨by unfold machineCodeFaultF; rw [if_neg Z.out, if_pos (Or.inr (Or.inr (Or.inr (Or.inr (S.out)))))]; rfl, below_box2 _ _ _⟩
  have bs4 : decide (c.results > 16) = false := decide_eq_false (by omega)
  have Hs4 := Lib.hid s4
  clear s4
  have hs := Lib.hid (show ¬ (2000 < c.blocks.length ∨ 8 < c.vars ∨ 3000 < c.slots ∨ 16 < c.params ∨ 16 < c.results) from (fun h => h.elim Hs0.out (fun h => h.elim Hs1.out (fun h => h.elim Hs2.out (fun h => h.elim Hs3.out Hs4.out)))))
  by_cases r0 : c.params < 0
  · have b : decide (c.params < 0) = true := decide_eq_true (by omega)
    have S := Lib.hid r0
    clear r0
    go_enter Tryd.func125, Tryd.ntmps125
    go_wp2_with fail
    go_ret
    exact ⟨by unfold machineCodeFaultF; rw [if_neg Z.out, if_neg hs.out, if_pos (Or.inl S.out)]; rfl, below_box2 _ _ _⟩
  have br0 : decide (c.params < 0) = false := decide_eq_false (by omega)
  have Hr0 := Lib.hid r0
  clear r0
  by_cases r1 : c.results < 0
  · have b : decide (c.results < 0) = true := decide_eq_true (by omega)
    have S := Lib.hid r1
    clear r1
    go_enter Tryd.func125, Tryd.ntmps125
    go_wp2_with fail
    go_ret
    exact ⟨by unfold machineCodeFaultF; rw [if_neg Z.out, if_neg hs.out, if_pos (Or.inr (Or.inl S.out))]; rfl, below_box2 _ _ _⟩
  have br1 : decide (c.results < 0) = false := decide_eq_false (by omega)
  have Hr1 := Lib.hid r1
  clear r1
  by_cases r2 : c.vars < 0
  · have b : decide (c.vars < 0) = true := decide_eq_true (by omega)
    have S := Lib.hid r2
    clear r2
    go_enter Tryd.func125, Tryd.ntmps125
    go_wp2_with fail
    go_ret
    exact ⟨by unfold machineCodeFaultF; rw [if_neg Z.out, if_neg hs.out, if_pos (Or.inr (Or.inr (Or.inl S.out)))]; rfl, below_box2 _ _ _⟩
  have br2 : decide (c.vars < 0) = false := decide_eq_false (by omega)
  have Hr2 := Lib.hid r2
  clear r2
  by_cases r3 : c.slots < c.params
  · have b : decide (c.slots < c.params) = true := decide_eq_true (by omega)
    have S := Lib.hid r3
    clear r3
    go_enter Tryd.func125, Tryd.ntmps125
    go_wp2_with fail
    go_ret
    exact ⟨by unfold machineCodeFaultF; rw [if_neg Z.out, if_neg hs.out, if_pos (Or.inr (Or.inr (Or.inr (S.out))))]; rfl, below_box2 _ _ _⟩
  have br3 : decide (c.slots < c.params) = false := decide_eq_false (by omega)
  have Hr3 := Lib.hid r3
  clear r3
  have hres := Lib.hid (show machineCodeFaultF fs c = blocksF (machineInstrFaultF fs c.vars c.slots c.results c.blocks.length) 36000 c.blocks 0 by
    unfold machineCodeFaultF
    rw [if_neg Z.out, if_neg hs.out, if_neg (fun h => h.elim Hr0.out (fun h => h.elim Hr1.out (fun h => h.elim Hr2.out Hr3.out)))])
  have hv : 0 ≤ c.vars := by have := Hr2.out; omega
  have hs0 : 0 ≤ c.slots := by have := Hr0.out; have := Hr3.out; omega
  go_enter Tryd.func125, Tryd.ntmps125
  go_wp2_with fail
  clear z1 bs0 bs1 bs2 bs3 bs4 br0 br1 br2 br3 Hr0 Hr1 Hr2 Hr3 Hs0 Hs1 Hs2 Hs3 Hs4 hs Z
  go_loopw [5, 6] (fun q i wr => ∃ all n : Nat, n ≤ c.blocks.length ∧ all ≤ 36000 ∧ q = .int .i64 all ∧ i = .int .i64 n ∧ machineCodeFaultF fs c = blocksF (machineInstrFaultF fs c.vars c.slots c.results c.blocks.length) 36000 (c.blocks.drop n) all ∧
      Below (w.heap.size + 2) ((w.alloc (.cells #[p0, p1] 25)).alloc (.cells #[.string c.name, .int .i64 c.params, .int .i64 c.results, .int .i64 c.vars, .int .i64 c.slots, .slice a5 c.blocks.length c5] 28)) wr) (fun _ i _ => c.blocks.length - (intOf i).toNat)
  case atStart => exact ⟨0, 0, Nat.zero_le _, by omega, rfl, rfl, by rw [hres.out]; rfl, Below.refl _ _⟩
  case round =>
    obtain ⟨all, n, hn, hall, rfl, rfl, hrs, hbel⟩ := hrel
    have Hrs := Lib.hid hrs
    clear hrs
    have bc5 := hbel.cell (p := ⟨w.heap.size + 1, 5, none⟩) (by simp)
    rw [box2_2] at bc5
    by_cases hnl : n < c.blocks.length
    · have hnl1 : (n : Int) < (c.blocks.length : Int) := by omega
      obtain ⟨b, off, u, rfl, -, hb, hcell, hu⟩ := Hat.out n hnl
      obtain ⟨a2, cap2, rfl, hcap2, hmax2, hat2⟩ := rBlock_val hu
      have hcx : wr.cell? ⟨b, off + n, none⟩ = some (.slice a2 c.blocks[n].length cap2) := by
        rw [hbel.cell (p := ⟨b, off + n, none⟩) (by show b < _; omega), World.cell?_alloc_lt _ _ _ (by simp; omega), World.cell?_alloc_lt _ _ _ hb]; exact hcell
      have hfb := (hf.2 _ (List.getElem_mem hnl)).1
      unfold reachBytes at hfb
      have hstep := blocksF_at (g := machineInstrFaultF fs c.vars c.slots c.results c.blocks.length) (most := 36000) (all := all) hnl
      have Hstep := Lib.hid hstep
      have Hat2 := Lib.hid hat2
      unfold maxLen at hmax2
      have Hcell := Lib.hid hcell
      clear hat2 hu hcell hstep
      generalize c.blocks[n] = bl at *
      have hbm : bl.length ≤ 9223372036854775807 := by omega
      by_cases z : bl.length = 0
      · have z1 : ((bl.length : Int) == 0) = true := by simpa using z
        have Z := Lib.hid z
        clear z
        go_wp2_with fail
        go_ret
        exact ⟨by rw [Hrs.out, Hstep.out, if_pos Z.out]; rfl, (below_box2 _ _ _).trans (hbel.mono (by omega))⟩
      have z1 : ((bl.length : Int) == 0) = false := by simpa using z
      have Z := Lib.hid z
      clear z
      by_cases g : 36000 < all + bl.length
      · have g1 : decide ((all : Int) + (bl.length : Int) > 36000) = true := decide_eq_true (by omega)
        have G := Lib.hid g
        clear g
        go_wp2_with fail
        go_ret
        exact ⟨by rw [Hrs.out, Hstep.out, if_neg Z.out, if_pos G.out]; rfl, (below_box2 _ _ _).trans (hbel.mono (by omega))⟩
      have g1 : decide ((all : Int) + (bl.length : Int) > 36000) = false := decide_eq_false (by omega)
      have Hs2 := Lib.hid (show machineCodeFaultF fs c = if blockF (machineInstrFaultF fs c.vars c.slots c.results c.blocks.length) bl ≠ 0 then blockF (machineInstrFaultF fs c.vars c.slots c.results c.blocks.length) bl else blocksF (machineInstrFaultF fs c.vars c.slots c.results c.blocks.length) 36000 (c.blocks.drop (n + 1)) (all + bl.length) by
        rw [Hrs.out, Hstep.out, if_neg Z.out, if_neg g])
      have G := Lib.hid g
      clear g Z Hstep Hrs
      go_wp2_with fail
      clear g1 z1 hcx bc5
      go_loopw [8] (fun i wr => ∃ k : Nat, k ≤ bl.length ∧ i = .int .i64 k ∧ blockF (machineInstrFaultF fs c.vars c.slots c.results c.blocks.length) bl = blockF (machineInstrFaultF fs c.vars c.slots c.results c.blocks.length) (bl.drop k) ∧
        Below (w.heap.size + 2) ((w.alloc (.cells #[p0, p1] 25)).alloc (.cells #[.string c.name, .int .i64 c.params, .int .i64 c.results, .int .i64 c.vars, .int .i64 c.slots, .slice (some ⟨b, off, none⟩) c.blocks.length c5] 28)) wr) (fun i _ => bl.length - (intOf i).toNat)
      case atStart => exact ⟨0, Nat.zero_le _, rfl, by rw [List.drop_zero], hbel⟩
      case round =>
        clear hbel
        obtain ⟨k, hk, rfl, hbk, hbel⟩ := hrel
        have Hbk := Lib.hid hbk
        clear hbk
        by_cases hkl : k < bl.length
        · have hkl1 : (k : Int) < (bl.length : Int) := by omega
          have bx := fun j => hbel.cell (p := ⟨w.heap.size + 1, j, none⟩) (by simp)
          simp only [box2_2] at bx
          have bc0 : wr.cell? ⟨w.heap.size + 1, 0, none⟩ = some (.string c.name) := bx 0
          have bc1 : wr.cell? ⟨w.heap.size + 1, 1, none⟩ = some (.int .i64 c.params) := bx 1
          have bc2 : wr.cell? ⟨w.heap.size + 1, 2, none⟩ = some (.int .i64 c.results) := bx 2
          have bc3 : wr.cell? ⟨w.heap.size + 1, 3, none⟩ = some (.int .i64 c.vars) := bx 3
          have bc4 : wr.cell? ⟨w.heap.size + 1, 4, none⟩ = some (.int .i64 c.slots) := bx 4
          have bc5 : wr.cell? ⟨w.heap.size + 1, 5, none⟩ = some (.slice (some ⟨b, off, none⟩) c.blocks.length c5) := bx 5
          have bp := fun j => hbel.cell (p := ⟨w.heap.size, j, none⟩) (by show w.heap.size < w.heap.size + 2; omega)
          simp only [box2_1] at bp
          have bp0 : wr.cell? ⟨w.heap.size, 0, none⟩ = some p0 := bp 0
          have bp1 : wr.cell? ⟨w.heap.size, 1, none⟩ = some p1 := bp 1
          clear bx bp
          have hbw : Below w.heap.size w wr := (below_box2 _ _ _).trans (hbel.mono (by omega))
          have hkeep := Keep.of_below' (S := fun _ => True) hbw (fun k hk _ => hk)
          have hsz : w.heap.size + 2 ≤ wr.heap.size := by have := hbel.size; simpa using this
          have hcx : wr.cell? ⟨b, off + n, none⟩ = some (.slice a2 bl.length cap2) := by rw [hbw.cell (p := ⟨b, off + n, none⟩) hb]; exact Hcell.out
          obtain ⟨b2, off2, v1, v2, v6, rfl, -, hb2, hx0, hx1, hx2, hx3, hx4, hx5, hI, rx1, rx2, rx6⟩ := Hat2.out k hkl
          have hcal := machInstr_any fs p0 p1 c _ bl[k] _ wr.drew (Good.kept (hkeep.trans (Keep.drew _ _)) Hp.out) (Good.kept (hkeep.trans (Keep.drew _ _)) Hc.out) (Good.kept (hkeep.trans (Keep.drew _ _)) ⟨v1, v2, v6, rfl, hI, rx1, rx2, rx6⟩) hv hs0
          have ho := hI.1
          have hy0 : wr.cell? ⟨b2, off2 + k * 6, none⟩ = _ := (hbw.cell (p := ⟨b2, off2 + k * 6, none⟩) hb2).trans hx0
          have hy1 : wr.cell? ⟨b2, off2 + k * 6 + 1, none⟩ = _ := (hbw.cell (p := ⟨b2, off2 + k * 6 + 1, none⟩) hb2).trans hx1
          have hy2 : wr.cell? ⟨b2, off2 + k * 6 + 2, none⟩ = _ := (hbw.cell (p := ⟨b2, off2 + k * 6 + 2, none⟩) hb2).trans hx2
          have hy3 : wr.cell? ⟨b2, off2 + k * 6 + 3, none⟩ = _ := (hbw.cell (p := ⟨b2, off2 + k * 6 + 3, none⟩) hb2).trans hx3
          have hy4 : wr.cell? ⟨b2, off2 + k * 6 + 4, none⟩ = _ := (hbw.cell (p := ⟨b2, off2 + k * 6 + 4, none⟩) hb2).trans hx4
          have hy5 : wr.cell? ⟨b2, off2 + k * 6 + 5, none⟩ = _ := (hbw.cell (p := ⟨b2, off2 + k * 6 + 5, none⟩) hb2).trans hx5
          have hat := blockF_at (g := machineInstrFaultF fs c.vars c.slots c.results c.blocks.length) hkl
          have Hat3 := Lib.hid hat
          have Hcal := Lib.hid hcal
          have Hz := Lib.hid hsz
          clear hx0 hx1 hx2 hx3 hx4 hx5 hI rx1 rx2 rx6 hat hcal hkeep hsz ho
          generalize bl[k] = x at *
          go_wp2_with fail
          go_still_tail 10, (by kernel_rfl)
          change wpList _ _ _ _ _ wr.drew
          go_wp2_with fail
          refine (Hcal.out).mono ?_
          rintro e w1 ⟨rfl, hb1⟩
          have hl1 : Below wr.heap.size wr w1 := ((Drawn.drew wr).below _).trans hb1
          have Hl1 := Lib.hid (hbel.trans (hl1.mono Hz.out))
          have bc5' := (hl1.cell (p := ⟨w.heap.size + 1, 5, none⟩) (by have := Hz.out; show w.heap.size + 1 < wr.heap.size; omega)).trans bc5
          have hcx' := (hl1.cell (p := ⟨b, off + n, none⟩) (by have := Hz.out; show b < wr.heap.size; omega)).trans hcx
          have hy0' := (hl1.cell (p := ⟨b2, off2 + k * 6, none⟩) (by have := Hz.out; show b2 < wr.heap.size; omega)).trans hy0
          clear bc0 bc1 bc2 bc3 bc4 bc5 bp0 bp1 hcx hy0 hy1 hy2 hy3 hy4 hy5 hbw hb1 hl1 hbel Hcal
          generalize hev : machineInstrFaultF fs c.vars c.slots c.results c.blocks.length x = ev at *
          by_cases he : ev = 0
          case neg =>
            have he1 : (ev == 0) = false := by simpa using he
            have he2 : (ev != 0) = true := by simpa using he
            have He := Lib.hid he
            clear he
            go_wp2_with fail
            go_ret
            exact ⟨by
              have hbe : blockF (machineInstrFaultF fs c.vars c.slots c.results c.blocks.length) bl = ev := by rw [Hbk.out, Hat3.out, if_pos He.out]
              rw [Hs2.out, hbe, if_pos He.out]; rfl, (below_box2 _ _ _).trans (Hl1.out.mono (by omega))⟩
          subst he
          by_cases hq : k + 1 = bl.length
          · have hq1 : ((k : Int) == (bl.length : Int) - 1) = true := by simpa using (show (k : Int) = (bl.length : Int) - 1 by omega)
            have Hq := Lib.hid (decide_eq_true hq)
            clear hq
            go_wp2_with fail
            refine (closes_any x.op w1).mono ?_
            rintro e w2 ⟨rfl, rfl⟩
            cases cl : closesF x.op with
            | true =>
              have Cl := Lib.hid cl
              clear cl
              go_wp2_with fail
              go_roundw
              case rel => exact ⟨k + 1, by omega, by go_num, by rw [Hbk.out, Hat3.out, if_neg (by simp), if_neg (by rw [Cl.out, Hq.out]; simp)], Hl1.out⟩
              case measure => simp [intOf]; omega
            | false =>
              have Cl := Lib.hid cl
              clear cl
              go_wp2_with fail
              go_ret
              exact ⟨by
                have hbe : blockF (machineInstrFaultF fs c.vars c.slots c.results c.blocks.length) bl = 4 := by rw [Hbk.out, Hat3.out, if_neg (by simp), if_pos (by rw [Cl.out, Hq.out]; simp)]
                rw [Hs2.out, hbe, if_pos (by decide)]; rfl, (below_box2 _ _ _).trans (Hl1.out.mono (by omega))⟩
          · have hq1 : ((k : Int) == (bl.length : Int) - 1) = false := by simpa using (show ¬ (k : Int) = (bl.length : Int) - 1 by omega)
            have Hq := Lib.hid (decide_eq_false hq)
            clear hq
            go_wp2_with fail
            refine (closes_any x.op w1).mono ?_
            rintro e w2 ⟨rfl, rfl⟩
            cases cl : closesF x.op with
            | true =>
              have Cl := Lib.hid cl
              clear cl
              go_wp2_with fail
              go_ret
              exact ⟨by
                have hbe : blockF (machineInstrFaultF fs c.vars c.slots c.results c.blocks.length) bl = 4 := by rw [Hbk.out, Hat3.out, if_neg (by simp), if_pos (by rw [Cl.out, Hq.out]; simp)]
                rw [Hs2.out, hbe, if_pos (by decide)]; rfl, (below_box2 _ _ _).trans (Hl1.out.mono (by omega))⟩
            | false =>
              have Cl := Lib.hid cl
              clear cl
              go_wp2_with fail
              go_roundw
              case rel => exact ⟨k + 1, by omega, by go_num, by rw [Hbk.out, Hat3.out, if_neg (by simp), if_neg (by rw [Cl.out, Hq.out]; simp)], Hl1.out⟩
              case measure => simp [intOf]; omega
        · have hke : k = bl.length := by omega
          subst hke
          have Hs3 := Lib.hid (show machineCodeFaultF fs c = blocksF (machineInstrFaultF fs c.vars c.slots c.results c.blocks.length) 36000 (c.blocks.drop (n + 1)) (all + bl.length) by
            have hbe : blockF (machineInstrFaultF fs c.vars c.slots c.results c.blocks.length) bl = 0 := by rw [Hbk.out, List.drop_length]; rfl
            rw [Hs2.out, hbe, if_neg (by simp)])
          have hg := G.out
          clear Hbk Hs2
          go_wp2_with fail
          go_roundw
          case rel => exact ⟨all + bl.length, n + 1, by omega, by omega, by go_num, by go_num, Hs3.out, hbel⟩
          case measure => simp [intOf]; omega
    · have hne : n = c.blocks.length := by omega
      subst hne
      go_wp2_with fail
      go_ret
      exact ⟨by rw [Hrs.out, List.drop_length]; rfl, (below_box2 _ _ _).trans (hbel.mono (by omega))⟩
end Go.Proofs.YtaomlfbcfmmhlaaDoor

/-
  The reference's MachineFault: the contract.
-/
namespace Go.Proofs.YtaomlfbcfmmhlaaDoor
open Go.RowKit Go.Pst
set_option linter.unusedVariables false

set_option maxRecDepth 4000 in
set_option maxHeartbeats 2000000 in
theorem machFault_any (p : PProg) (pcs : List Value) (w : World) (hp : rProg (fun _ => True) w pcs p) (hf : FitProg p) :
    Calls Tryd.prog 70 #[.agg pcs.toArray] w fun e w' => e = .returned (.int .i64 (machineFaultF p)) ∧ Below w.heap.size w w' := by
  obtain ⟨p0, p1, rfl, hp0, hp1⟩ := hp
  obtain ⟨ap, cp, rfl, hcapp, hmaxp, hatp⟩ := rCodes_val hp0
  obtain ⟨ad, cd, rfl, hld, -, -⟩ := rInts_open hp1
  unfold maxLen at hmaxp
  have hlf : p.funcs.length ≤ 9223372036854775807 := by omega
  have Hatp := Lib.hid hatp
  have Hp := Lib.hid hp0
  have Hf := Lib.hid hf
  clear hatp hp0 hp1 hf hcapp hmaxp
  by_cases z : p.funcs.length = 0
  · have z1 : ((p.funcs.length : Int) == 0) = true := by simpa using z
    have Z := Lib.hid (show machineFaultF p = 6 by unfold machineFaultF headsFault; rw [if_pos z]; rfl)
    clear z
    go_enter Tryd.func70, Tryd.ntmps70
    go_wp2_with fail
    go_ret
    exact ⟨by rw [Z.out]; rfl, (Below.refl _ _).alloc (Nat.le_refl _) _⟩
  by_cases s : 20000 < p.data.length ∨ 40 < p.funcs.length
  · have z1 : ((p.funcs.length : Int) == 0) = false := by simpa using z
    have Z := Lib.hid (show machineFaultF p = 1 by unfold machineFaultF headsFault; rw [if_neg z, if_pos s]; rfl)
    have s' : 20000 < (p.data.length : Int) ∨ 40 < (p.funcs.length : Int) := by omega
    clear z s
    go_enter Tryd.func70, Tryd.ntmps70
    rcases s' with s | s
    · go_wp2_with fail
      go_ret
      exact ⟨by rw [Z.out]; rfl, (Below.refl _ _).alloc (Nat.le_refl _) _⟩
    · by_cases s2 : 20000 < (p.data.length : Int)
      all_goals
        go_wp2_with fail
        go_ret
        exact ⟨by rw [Z.out]; rfl, (Below.refl _ _).alloc (Nat.le_refl _) _⟩
  have z1 : ((p.funcs.length : Int) == 0) = false := by simpa using z
  have z : ¬ (p.funcs.length = 0 ∨ 20000 < p.data.length ∨ 40 < p.funcs.length) := by omega
  have Z := Lib.hid z
  have z2 : decide ((p.data.length : Int) > 20000) = false := decide_eq_false (by omega)
  have z3 : decide ((p.funcs.length : Int) > 40) = false := decide_eq_false (by omega)
  have hlpos : 0 < p.funcs.length := by omega
  clear z s
  have hhead : headsFault p = if ¬ (p.funcs.map (·.name)).Nodup then 7 else if ((p.funcs.headD default).params + (p.funcs.headD default).results) % 18446744073709551616 ≠ 0 then 10 else 0 := by
    have hz := Z.out
    unfold headsFault
    rw [if_neg (fun h => hz (Or.inl h)), if_neg (fun h => hz (Or.inr h))]
  have Hh := Lib.hid hhead
  clear hhead
  go_enter Tryd.func70, Tryd.ntmps70
  go_wp2_with fail
  clear z1 z2 z3
  go_loopw [3] (fun i wr => ∃ n : Nat, n ≤ p.funcs.length ∧ i = .int .i64 n ∧ ((namesF p.funcs).take n).Nodup ∧ Below (w.heap.size + 1) (w.alloc (.cells #[.slice ap p.funcs.length cp, .slice ad p.data.length cd] 25)) wr) (fun i _ => p.funcs.length - (intOf i).toNat)
  case atStart => exact ⟨0, Nat.zero_le _, rfl, by simp, Below.refl _ _⟩
  case round =>
    obtain ⟨n, hn, rfl, hnd, hbel⟩ := hrel
    have Hnd := Lib.hid hnd
    clear hnd
    have bp0 := hbel.cell (p := ⟨w.heap.size, 0, none⟩) (by simp)
    rw [World.cell?_alloc_at _ _ _ _ rfl] at bp0
    have bp0 : wr.cell? ⟨w.heap.size, 0, none⟩ = some (.slice ap p.funcs.length cp) := bp0
    have bp1 := hbel.cell (p := ⟨w.heap.size, 1, none⟩) (by simp)
    rw [World.cell?_alloc_at _ _ _ _ rfl] at bp1
    have bp1 : wr.cell? ⟨w.heap.size, 1, none⟩ = some (.slice ad p.data.length cd) := bp1
    have hbw : Below w.heap.size w wr := box_below hbel
    have hsz : w.heap.size + 1 ≤ wr.heap.size := by have := hbel.size; simpa using this
    have Hsz := Lib.hid hsz
    clear hsz
    by_cases hnl : n < p.funcs.length
    · have hnl1 : (n : Int) < (p.funcs.length : Int) := by omega
      obtain ⟨b, off, v5, rfl, -, hb, h0, h1, h2, h3, h4, h5, hI, hbs⟩ := Hatp.out n hnl
      have hy0 : wr.cell? ⟨b, off + n * 6, none⟩ = _ := (hbw.cell (p := ⟨b, off + n * 6, none⟩) hb).trans h0
      have hkeep := Keep.of_below' (S := fun _ => True) (hbw.trans ((Drawn.drew wr).below _)) (fun k hk _ => hk)
      have hcal := funcNamed_any p.funcs[n].name p.funcs (.slice (some ⟨b, off, none⟩) p.funcs.length cp) (.slice ad p.data.length cd) wr.drew (Good.kept hkeep Hp.out)
      have Hcal := Lib.hid hcal
      have Hstep := Lib.hid (names_step hnl Hnd.out)
      have Hbad := Lib.hid (names_bad hnl)
      have hrange := firstOf_range (fun c : PCode => decide (c.name = p.funcs[n].name)) p.funcs
      have hra : -1 ≤ nameAt p.funcs[n].name p.funcs ∧ nameAt p.funcs[n].name p.funcs < p.funcs.length := hrange
      clear hcal h0 h1 h2 h3 h4 h5 hI hbs hkeep hrange
      generalize p.funcs[n].name = s at *
      generalize hev : nameAt s p.funcs = ev at *
      have Hev := Lib.hid hev
      clear hev
      have Hbw := Lib.hid hbw
      have Hbel := Lib.hid hbel
      clear hbw hbel
      go_wp2_with fail
      go_region_with (go_at_call 99; refine (Hcal.out).mono ?_; rintro e w1 ⟨rfl, hb1⟩)
      all_goals
        have hb2 : Below wr.heap.size wr w1 := ((Drawn.drew wr).below _).trans hb1
        have Hb2 := Lib.hid hb2
        clear hb1 hb2 Hcal
        by_cases he : ev = (n : Int)
        · have he1 : (ev != (n : Int)) = false := by simpa using he
          have He := Lib.hid he
          clear he
          go_wp2_with fail
          go_roundw
          case rel => exact ⟨n + 1, by omega, by go_num, Hstep.out He.out, Hbel.out.trans (Hb2.out.mono Hsz.out)⟩
          case measure => simp [intOf]; omega
        · have he1 : (ev != (n : Int)) = true := by simpa using he
          have He := Lib.hid he
          clear he
          go_wp2_with fail
          go_ret
          exact ⟨by unfold machineFaultF; rw [Hh.out, if_pos (Hbad.out He.out)]; rfl, Hbw.out.trans (Hb2.out.mono (by have := Hsz.out; omega))⟩
    · have hne : n = p.funcs.length := by omega
      subst hne
      have Hnm := Lib.hid (names_all Hnd.out)
      have hh2 : headsFault p = if ((p.funcs.headD default).params + (p.funcs.headD default).results) % 18446744073709551616 ≠ 0 then 10 else 0 := by
        rw [Hh.out, if_neg (fun h => h Hnm.out)]
      have Hh2 := Lib.hid hh2
      clear hh2 Hnm Hnd
      obtain ⟨b, off, v5, rfl, -, hb, h0, h1, h2, h3, h4, h5, hI, hbs⟩ := Hatp.out 0 hlpos
      have hy1 : wr.cell? ⟨b, off + 1, none⟩ = _ := (hbw.cell (p := ⟨b, off + 1, none⟩) hb).trans (by simpa using h1)
      have hy2 : wr.cell? ⟨b, off + 2, none⟩ = _ := (hbw.cell (p := ⟨b, off + 2, none⟩) hb).trans (by simpa using h2)
      have Hs := Lib.hid (heads_sum _ _ hI.2.1 hI.2.2.1)
      have h00 : (0 : Int) < (p.funcs.length : Int) := by omega
      have Hd0 := Lib.hid (headD_at hlpos)
      clear h0 h1 h2 h3 h4 h5 hbs hI
      cases h : (p.funcs[0].params != wrap64 (-p.funcs[0].results)) with
      | true =>
        go_wp2_with fail
        go_quiet (fail)
        go_wp2_with fail
        go_ret
        exact ⟨by
          have hx : headsFault p = 10 := by rw [Hh2.out, Hd0.out, if_pos (fun e => by have := Hs.out.1 e; simp [this] at h)]
          unfold machineFaultF; rw [hx]; rfl, hbw.trans (Drawn.below (w := wr) ⟨_, rfl⟩ _)⟩
      | false =>
        go_wp2_with fail
        go_quiet (fail)
        go_wp2_with fail
        have hh3 : headsFault p = 0 := by rw [Hh2.out, Hd0.out, if_neg (fun hn => hn (Hs.out.2 (by simpa using h)))]
        have Hh3 := Lib.hid (show machineFaultF p = codesF (machineCodeFaultF p.funcs) p.funcs by unfold machineFaultF; rw [hh3]; rfl)
        clear hh3 Hh2 Hs Hd0 h
        have Hb0 := Lib.hid (show Below (w.heap.size + 1) (w.alloc (.cells #[.slice (some ⟨b, off, none⟩) p.funcs.length cp, .slice ad p.data.length cd] 25)) (wr.drewN nq) from hbel.trans (Drawn.below (w := wr) ⟨_, rfl⟩ _))
        clear hbel bp0 bp1 hy1 hy2 hbw
        go_loopw [4] (fun i wr => ∃ n : Nat, n ≤ p.funcs.length ∧ i = .int .i64 n ∧ machineFaultF p = codesF (machineCodeFaultF p.funcs) (p.funcs.drop n) ∧ Below (w.heap.size + 1) (w.alloc (.cells #[.slice (some ⟨b, off, none⟩) p.funcs.length cp, .slice ad p.data.length cd] 25)) wr) (fun i _ => p.funcs.length - (intOf i).toNat)
        case atStart => exact ⟨0, Nat.zero_le _, rfl, by rw [Hh3.out]; rfl, Hb0.out⟩
        case round =>
          obtain ⟨n, hn, rfl, hrs, hbel⟩ := hrel
          have Hrs := Lib.hid hrs
          clear hrs
          clear bp0 bp1
          have bp := fun j => hbel.cell (p := ⟨w.heap.size, j, none⟩) (by show w.heap.size < w.heap.size + 1; omega)
          simp only [World.cell?_alloc_at _ _ _ _ rfl] at bp
          have bp0 : wr.cell? ⟨w.heap.size, 0, none⟩ = some (.slice (some ⟨b, off, none⟩) p.funcs.length cp) := bp 0
          have bp1 : wr.cell? ⟨w.heap.size, 1, none⟩ = some (.slice ad p.data.length cd) := bp 1
          have hbw : Below w.heap.size w wr := box_below hbel
          have hsz : w.heap.size + 1 ≤ wr.heap.size := by have := hbel.size; simpa using this
          have Hsz := Lib.hid hsz
          clear bp hsz
          by_cases hnl : n < p.funcs.length
          · have hnl1 : (n : Int) < (p.funcs.length : Int) := by omega
            obtain ⟨b', off', v5, hbb, -, -, h0, h1, h2, h3, h4, h5, hI, hbs⟩ := Hatp.out n hnl
            obtain ⟨rfl, rfl⟩ : b = b' ∧ off = off' := by simpa using hbb
            have hy0 : wr.cell? ⟨b, off + n * 6, none⟩ = _ := (hbw.cell (p := ⟨b, off + n * 6, none⟩) hb).trans h0
            have hy1 : wr.cell? ⟨b, off + n * 6 + 1, none⟩ = _ := (hbw.cell (p := ⟨b, off + n * 6 + 1, none⟩) hb).trans h1
            have hy2 : wr.cell? ⟨b, off + n * 6 + 2, none⟩ = _ := (hbw.cell (p := ⟨b, off + n * 6 + 2, none⟩) hb).trans h2
            have hy3 : wr.cell? ⟨b, off + n * 6 + 3, none⟩ = _ := (hbw.cell (p := ⟨b, off + n * 6 + 3, none⟩) hb).trans h3
            have hy4 : wr.cell? ⟨b, off + n * 6 + 4, none⟩ = _ := (hbw.cell (p := ⟨b, off + n * 6 + 4, none⟩) hb).trans h4
            have hy5 : wr.cell? ⟨b, off + n * 6 + 5, none⟩ = _ := (hbw.cell (p := ⟨b, off + n * 6 + 5, none⟩) hb).trans h5
            have hkeep := Keep.of_below' (S := fun _ => True) (hbw.trans ((Drawn.drew wr).below _)) (fun k hk _ => hk)
            have hcal := machCode_any p.funcs (.slice (some ⟨b, off, none⟩) p.funcs.length cp) (.slice ad p.data.length cd) p.funcs[n] _ wr.drew (Good.kept hkeep Hp.out) (Good.kept hkeep ⟨v5, rfl, hI, hbs⟩) (Hf.out.1.2 _ (List.getElem_mem hnl))
            have Hcal := Lib.hid hcal
            have Hat := Lib.hid (codesF_at (g := machineCodeFaultF p.funcs) hnl)
            clear hcal h0 h1 h2 h3 h4 h5 hI hbs hkeep hbb
            generalize p.funcs[n] = c at *
            generalize hev : machineCodeFaultF p.funcs c = ev at *
            have Hbw := Lib.hid hbw
            have Hbel := Lib.hid hbel
            clear hbw hbel hev
            go_wp2_with fail
            go_still_tail 6, (by kernel_rfl)
            change wpList _ _ _ _ _ wr.drew
            go_wp2_with fail
            refine (Hcal.out).mono ?_
            rintro e w1 ⟨rfl, hb1⟩
            have hb2 : Below wr.heap.size wr w1 := ((Drawn.drew wr).below _).trans hb1
            have Hb2 := Lib.hid hb2
            clear hb1 hb2 Hcal
            by_cases he : ev = 0
            · subst he
              go_wp2_with fail
              go_roundw
              case rel => first | exact ⟨n + 1, by omega, by go_num, by rw [Hrs.out, Hat.out, if_neg (by simp)], Hbel.out.trans (Hb2.out.mono Hsz.out)⟩ | ((repeat apply Exists.intro); exact ⟨⟨n + 1, by omega, by go_num, by rw [Hrs.out, Hat.out, if_neg (by simp)], Hbel.out.trans (Hb2.out.mono Hsz.out)⟩, rfl⟩)
              case measure => simp [intOf]; omega
            · have he1 : (ev != 0) = true := by simpa using he
              have He := Lib.hid he
              clear he
              go_wp2_with fail
              go_ret
              exact ⟨by rw [Hrs.out, Hat.out, if_pos He.out]; rfl, Hbw.out.trans (Hb2.out.mono (by have := Hsz.out; omega))⟩
          · have hne : n = p.funcs.length := by omega
            subst hne
            go_wp2_with fail
            go_ret
            exact ⟨by rw [Hrs.out, List.drop_length]; rfl, hbw⟩
end Go.Proofs.YtaomlfbcfmmhlaaDoor

/-
  RanOf, MachineRan: the reference's answers, with what refuses them (printed by wip/gen_ranres.py).
-/
namespace Go.Proofs.YtaomlfbcfmmhlaaDoor
open Go.RowKit Go.Pst
set_option linter.unusedVariables false
set_option linter.unusedSimpArgs false

/-- What a run answers: how it ended, what it told; what refuses it. -/
def resF (e : Int) (m : Bool) (most : Int) (p : PProg) (heap fuel : Int) : (Int × List ByteArray) × Int :=
  if e ≠ 0 then ((0, []), e) else if (p.data.length : Int) ≤ heap ∧ heap ≤ 20000 ∧ 0 ≤ fuel ∧ fuel ≤ most then (runF p m heap fuel.toNat (startF p), 0) else ((0, []), 2)
def ResPost (w : World) (r : (Int × List ByteArray) × Int) (e : Ending) (w' : World) : Prop :=
  ∃ vL, e = .returned (.tuple #[.agg #[vL, .int .i64 r.1.1], .int .i64 r.2]) ∧ w'.ownsRow w.heap.size 9 1 vL r.1.2.length (r.1.2.map Value.string) ∧ Below w.heap.size w w'
theorem instr_n {p : PProg} {w : World} {v0 v1 : Value} (h : rProg (fun _ => True) w [v0, v1] p) : ∀ f, LevOK p f → InI (instrAt p f).n := fun f hL => by
  have h' : rProg (· < w.heap.size) w [v0, v1] p := Good.wide h (fun k hk _ => hk)
  obtain ⟨bF, oF, cF, bB, oB, cB, bI, oI, cI, u1, u2, u5, -, -, -, -, -, -, -, -, -, -, -, -, -, -, hI⟩ := instr_mem h' hL
  exact hI.2.1
theorem box_two {W : World} {b : Nat} {x y : Value} (u v : Value) (h0 : W.cell? ⟨b, 0, none⟩ = some x) (h1 : W.cell? ⟨b, 1, none⟩ = some y) :
    ((W.setCell ⟨b, 0, none⟩ u).setCell ⟨b, 1, none⟩ v).cell? ⟨b, 0, none⟩ = some u ∧ ((W.setCell ⟨b, 0, none⟩ u).setCell ⟨b, 1, none⟩ v).cell? ⟨b, 1, none⟩ = some v ∧ Since (fun k => k = b) W ((W.setCell ⟨b, 0, none⟩ u).setCell ⟨b, 1, none⟩ v) := by
  have h1' : (W.setCell ⟨b, 0, none⟩ u).cell? ⟨b, 1, none⟩ = some y := by rw [World.cell?_setCell_other (h := by simp)]; exact h1
  refine ⟨?_, World.cell?_setCell_same _ _ _ h1', (Since.setCell W ⟨b, 0, none⟩ u).trans (Since.setCell (W.setCell ⟨b, 0, none⟩ u) ⟨b, 1, none⟩ v)⟩
  rw [World.cell?_setCell_other (h := by simp)]
  exact World.cell?_setCell_same _ _ _ h0
theorem nil_row (w : World) (base : Nat) : w.ownsRow base 9 1 (.slice none 0 0) ([] : List ByteArray).length (([] : List ByteArray).map Value.string) := ⟨rfl, Or.inl ⟨rfl, rfl⟩⟩

set_option maxHeartbeats 2000000 in
theorem ranRes_any (p : PProg) (v0 v1 : Value) (heap fuel : Int) (w : World) (hp : rProg (fun _ => True) w [v0, v1] p) (hf : FitProg p) (hh : InI heap) (hfu : InI fuel) :
    Calls Tryd.prog 19 #[.agg #[v0, v1], .int .i64 heap, .int .i64 fuel] w (ResPost w (resF (programFaultF p) false 1000000 p heap fuel)) := by
  obtain ⟨p0, p1, hv, hp0, hp1⟩ := id hp
  obtain ⟨rfl, rfl⟩ : v0 = p0 ∧ v1 = p1 := by simpa using hv
  obtain ⟨ap, cp, rfl⟩ := rSlice_shape hp0
  obtain ⟨ad, cd, rfl, hld, -, -⟩ := rInts_open hp1
  have Hp := Lib.hid hp
  clear hp hv hp0 hp1
  go_enter Tryd.func19, Tryd.ntmps19
  go_wp2_with fail
  generalize hw0 : (w.alloc (.cells #[.slice ap p.funcs.length cp, .slice ad p.data.length cd] 25)).alloc (.cells #[.slice none 0 0, .int .i64 0] 41) = w0
  have hbel : Below w.heap.size w w0 := by rw [← hw0]; exact ((Below.refl _ _).alloc (Nat.le_refl _) _).alloc (by simp) _
  have hsz : w0.heap.size = w.heap.size + 2 := by rw [← hw0]; simp
  have bp0 : w0.cell? ⟨w.heap.size, 0, none⟩ = some (.slice ap p.funcs.length cp) := by rw [← hw0, World.cell?_alloc_lt _ _ _ (by simp), World.cell?_alloc_at _ _ _ _ rfl]; rfl
  have bp1 : w0.cell? ⟨w.heap.size, 1, none⟩ = some (.slice ad p.data.length cd) := by rw [← hw0, World.cell?_alloc_lt _ _ _ (by simp), World.cell?_alloc_at _ _ _ _ rfl]; rfl
  have br0 : w0.cell? ⟨w.heap.size + 1, 0, none⟩ = some (.slice none 0 0) := by rw [← hw0, World.cell?_alloc_at _ _ _ _ (by simp)]; rfl
  have br1 : w0.cell? ⟨w.heap.size + 1, 1, none⟩ = some (.int .i64 0) := by rw [← hw0, World.cell?_alloc_at _ _ _ _ (by simp)]; rfl
  have bz0 : w0.frozen? ⟨w.heap.size + 1, 0, none⟩ = false := by rw [← hw0, World.frozen?_alloc_at _ _ _ _ (by simp)]
  have bz1 : w0.frozen? ⟨w.heap.size + 1, 1, none⟩ = false := by rw [← hw0, World.frozen?_alloc_at _ _ _ _ (by simp)]
  clear hw0
  have hk0 := Keep.of_below' (S := fun _ => True) hbel (fun k hk _ => hk)
  refine (programFault_any p _ w0 (Good.kept hk0 Hp.out) hf).mono ?_
  rintro e w1 ⟨rfl, hb1⟩
  have hb2 : Below w.heap.size w w1 := hbel.trans (hb1.mono (by omega))
  have ap0 := (hb1.cell (p := ⟨w.heap.size, 0, none⟩) (by show w.heap.size < w0.heap.size; omega)).trans bp0
  have ap1 := (hb1.cell (p := ⟨w.heap.size, 1, none⟩) (by show w.heap.size < w0.heap.size; omega)).trans bp1
  have ar0 := (hb1.cell (p := ⟨w.heap.size + 1, 0, none⟩) (by show w.heap.size + 1 < w0.heap.size; omega)).trans br0
  have ar1 := (hb1.cell (p := ⟨w.heap.size + 1, 1, none⟩) (by show w.heap.size + 1 < w0.heap.size; omega)).trans br1
  have az0 := (hb1.frozen (p := ⟨w.heap.size + 1, 0, none⟩) (by show w.heap.size + 1 < w0.heap.size; omega)).trans bz0
  have az1 := (hb1.frozen (p := ⟨w.heap.size + 1, 1, none⟩) (by show w.heap.size + 1 < w0.heap.size; omega)).trans bz1
  have Hb2 := Lib.hid hb2
  have hz1 := hb1.size
  clear bp0 bp1 br0 br1 bz0 bz1 hb1 hbel hk0 hb2
  generalize hev : programFaultF p = ev at *
  by_cases hz : ev = 0
  · subst hz
    cases hc1 : (decide ((p.data.length : Int) ≤ heap) && decide (heap ≤ 20000)) with
    | false =>
      have Hr := Lib.hid (show resF 0 false 1000000 p heap fuel = ((0, []), 2) by
        have : ¬ ((p.data.length : Int) ≤ heap ∧ heap ≤ 20000) := by simpa using hc1
        unfold resF
        rw [if_neg (by simp), if_neg (by omega)])
      have Hc := Lib.hid hc1
      clear hev hc1
      go_wp2_with (first | (go_at_call 48; refine (refIn_any _ _ _ _).mono ?_; rintro e w' ⟨rfl, rfl⟩; rw [Hc.out]))
      obtain ⟨g0, g1, gs⟩ := box_two (.slice none 0 0) (.int .i64 0) ar0 ar1
      refine bodyPost_ret (v := .tuple #[.agg #[.slice none 0 0, .int .i64 0], .int .i64 2]) (by simp [results, Tryd.results19, go_sem, g0, g1]) rfl ?_
      rw [Hr.out]
      exact ⟨_, rfl, nil_row _ _, Hb2.out.trans (gs.below Hb2.out.size (fun k e => by omega))⟩
    | true =>
      cases hc2 : (decide (0 ≤ fuel) && decide (fuel ≤ 1000000)) with
      | false =>
        have Hr := Lib.hid (show resF 0 false 1000000 p heap fuel = ((0, []), 2) by
          have : ¬ (0 ≤ fuel ∧ fuel ≤ 1000000) := by simpa using hc2
          unfold resF
          rw [if_neg (by simp), if_neg (by omega)])
        have Hc := Lib.hid hc1
        have Hc2 := Lib.hid hc2
        clear hev hc1 hc2
        go_wp2_with (first | (go_at_call 48; refine (refIn_any _ _ _ _).mono ?_; rintro e w' ⟨rfl, rfl⟩; first | rw [Hc.out] | rw [Hc2.out]))
        obtain ⟨g0, g1, gs⟩ := box_two (.slice none 0 0) (.int .i64 0) ar0 ar1
        refine bodyPost_ret (v := .tuple #[.agg #[.slice none 0 0, .int .i64 0], .int .i64 2]) (by simp [results, Tryd.results19, go_sem, g0, g1]) rfl ?_
        rw [Hr.out]
        exact ⟨_, rfl, nil_row _ _, Hb2.out.trans (gs.below Hb2.out.size (fun k e => by omega))⟩
      | true =>
        have hb1 : (p.data.length : Int) ≤ heap ∧ heap ≤ 20000 := by simpa using hc1
        have hb2 : 0 ≤ fuel ∧ fuel ≤ 1000000 := by simpa using hc2
        have Hr := Lib.hid (show resF 0 false 1000000 p heap fuel = (runF p false heap fuel.toNat (startF p), 0) by
          unfold resF
          rw [if_neg (by simp), if_pos ⟨hb1.1, hb1.2, hb2⟩])
        have hk1 := Keep.of_below' (S := fun _ => True) Hb2.out (fun k hk _ => hk)
        have hp1 := Good.kept hk1 Hp.out
        have hcon := ranOf_any p _ _ heap fuel false w1 hp1 (programFaultF_ok hev) hb1.1 hb1.2 hb2.1 (by omega) (instr_n hp1)
        have Hcon := Lib.hid hcon
        have Hc := Lib.hid hc1
        have Hc2 := Lib.hid hc2
        clear hev hc1 hc2 hb1 hb2 hp1 hk1 hcon
        generalize runF p false heap fuel.toNat (startF p) = R at *
        go_wp2_with (first | (go_at_call 48; refine (refIn_any _ _ _ _).mono ?_; rintro e w' ⟨rfl, rfl⟩; first | rw [Hc.out] | rw [Hc2.out]))
        refine Hcon.out.mono ?_
        rintro e w2 ⟨vL, rfl, hrow, hb3⟩
        obtain ⟨aL, cL, rfl, -, -⟩ := row_slice hrow
        have cr0 := (hb3.cell (p := ⟨w.heap.size + 1, 0, none⟩) (by show w.heap.size + 1 < w1.heap.size; omega)).trans ar0
        have cr1 := (hb3.cell (p := ⟨w.heap.size + 1, 1, none⟩) (by show w.heap.size + 1 < w1.heap.size; omega)).trans ar1
        have cz0 := (hb3.frozen (p := ⟨w.heap.size + 1, 0, none⟩) (by show w.heap.size + 1 < w1.heap.size; omega)).trans az0
        have cz1 := (hb3.frozen (p := ⟨w.heap.size + 1, 1, none⟩) (by show w.heap.size + 1 < w1.heap.size; omega)).trans az1
        have Hrow := Lib.hid hrow
        have Hb3 := Lib.hid hb3
        clear hrow hb3 ap0 ap1 ar0 ar1 az0 az1 Hcon
        go_wp2_with fail
        obtain ⟨g0, g1, gs⟩ := box_two (.slice aL R.2.length cL) (.int .i64 R.1) cr0 cr1
        refine bodyPost_ret (v := .tuple #[.agg #[.slice aL R.2.length cL, .int .i64 R.1], .int .i64 0]) (by simp [results, Tryd.results19, go_sem, g0, g1]) rfl ?_
        rw [Hr.out]
        have hz2 := Hb2.out.size
        have hbb := Hb2.out.trans (Hb3.out.mono hz2)
        have hr := Hrow.out
        refine ⟨_, rfl, gs.row (ownsRow_from hr hz2) (fun k hk e => ?_), hbb.trans (gs.below hbb.size (fun k e => by omega))⟩
        have := (hr.lt k hk).1
        omega
  · have hz' : (ev == 0) = false := by simpa using hz
    have Hr := Lib.hid (show resF ev false 1000000 p heap fuel = ((0, []), ev) by
      unfold resF
      rw [if_pos hz])
    clear hev hz
    go_wp2_with fail
    obtain ⟨g0, g1, gs⟩ := box_two (.slice none 0 0) (.int .i64 0) ar0 ar1
    refine bodyPost_ret (v := .tuple #[.agg #[.slice none 0 0, .int .i64 0], .int .i64 ev]) (by simp [results, Tryd.results19, go_sem, g0, g1]) rfl ?_
    rw [Hr.out]
    exact ⟨_, rfl, nil_row _ _, Hb2.out.trans (gs.below Hb2.out.size (fun k e => by omega))⟩

set_option maxHeartbeats 2000000 in
theorem machRes_any (p : PProg) (v0 v1 : Value) (heap fuel : Int) (w : World) (hp : rProg (fun _ => True) w [v0, v1] p) (hf : FitProg p) (hh : InI heap) (hfu : InI fuel) :
    Calls Tryd.prog 27 #[.agg #[v0, v1], .int .i64 heap, .int .i64 fuel] w (ResPost w (resF (machineFaultF p) true 10000000 p heap fuel)) := by
  obtain ⟨p0, p1, hv, hp0, hp1⟩ := id hp
  obtain ⟨rfl, rfl⟩ : v0 = p0 ∧ v1 = p1 := by simpa using hv
  obtain ⟨ap, cp, rfl⟩ := rSlice_shape hp0
  obtain ⟨ad, cd, rfl, hld, -, -⟩ := rInts_open hp1
  have Hp := Lib.hid hp
  clear hp hv hp0 hp1
  go_enter Tryd.func27, Tryd.ntmps27
  go_wp2_with fail
  generalize hw0 : (w.alloc (.cells #[.slice ap p.funcs.length cp, .slice ad p.data.length cd] 25)).alloc (.cells #[.slice none 0 0, .int .i64 0] 41) = w0
  have hbel : Below w.heap.size w w0 := by rw [← hw0]; exact ((Below.refl _ _).alloc (Nat.le_refl _) _).alloc (by simp) _
  have hsz : w0.heap.size = w.heap.size + 2 := by rw [← hw0]; simp
  have bp0 : w0.cell? ⟨w.heap.size, 0, none⟩ = some (.slice ap p.funcs.length cp) := by rw [← hw0, World.cell?_alloc_lt _ _ _ (by simp), World.cell?_alloc_at _ _ _ _ rfl]; rfl
  have bp1 : w0.cell? ⟨w.heap.size, 1, none⟩ = some (.slice ad p.data.length cd) := by rw [← hw0, World.cell?_alloc_lt _ _ _ (by simp), World.cell?_alloc_at _ _ _ _ rfl]; rfl
  have br0 : w0.cell? ⟨w.heap.size + 1, 0, none⟩ = some (.slice none 0 0) := by rw [← hw0, World.cell?_alloc_at _ _ _ _ (by simp)]; rfl
  have br1 : w0.cell? ⟨w.heap.size + 1, 1, none⟩ = some (.int .i64 0) := by rw [← hw0, World.cell?_alloc_at _ _ _ _ (by simp)]; rfl
  have bz0 : w0.frozen? ⟨w.heap.size + 1, 0, none⟩ = false := by rw [← hw0, World.frozen?_alloc_at _ _ _ _ (by simp)]
  have bz1 : w0.frozen? ⟨w.heap.size + 1, 1, none⟩ = false := by rw [← hw0, World.frozen?_alloc_at _ _ _ _ (by simp)]
  clear hw0
  have hk0 := Keep.of_below' (S := fun _ => True) hbel (fun k hk _ => hk)
  refine (machFault_any p _ w0 (Good.kept hk0 Hp.out) hf).mono ?_
  rintro e w1 ⟨rfl, hb1⟩
  have hb2 : Below w.heap.size w w1 := hbel.trans (hb1.mono (by omega))
  have ap0 := (hb1.cell (p := ⟨w.heap.size, 0, none⟩) (by show w.heap.size < w0.heap.size; omega)).trans bp0
  have ap1 := (hb1.cell (p := ⟨w.heap.size, 1, none⟩) (by show w.heap.size < w0.heap.size; omega)).trans bp1
  have ar0 := (hb1.cell (p := ⟨w.heap.size + 1, 0, none⟩) (by show w.heap.size + 1 < w0.heap.size; omega)).trans br0
  have ar1 := (hb1.cell (p := ⟨w.heap.size + 1, 1, none⟩) (by show w.heap.size + 1 < w0.heap.size; omega)).trans br1
  have az0 := (hb1.frozen (p := ⟨w.heap.size + 1, 0, none⟩) (by show w.heap.size + 1 < w0.heap.size; omega)).trans bz0
  have az1 := (hb1.frozen (p := ⟨w.heap.size + 1, 1, none⟩) (by show w.heap.size + 1 < w0.heap.size; omega)).trans bz1
  have Hb2 := Lib.hid hb2
  have hz1 := hb1.size
  clear bp0 bp1 br0 br1 bz0 bz1 hb1 hbel hk0 hb2
  generalize hev : machineFaultF p = ev at *
  by_cases hz : ev = 0
  · subst hz
    cases hc1 : (decide ((p.data.length : Int) ≤ heap) && decide (heap ≤ 20000)) with
    | false =>
      have Hr := Lib.hid (show resF 0 true 10000000 p heap fuel = ((0, []), 2) by
        have : ¬ ((p.data.length : Int) ≤ heap ∧ heap ≤ 20000) := by simpa using hc1
        unfold resF
        rw [if_neg (by simp), if_neg (by omega)])
      have Hc := Lib.hid hc1
      clear hev hc1
      go_wp2_with (first | (go_at_call 48; refine (refIn_any _ _ _ _).mono ?_; rintro e w' ⟨rfl, rfl⟩; rw [Hc.out]))
      obtain ⟨g0, g1, gs⟩ := box_two (.slice none 0 0) (.int .i64 0) ar0 ar1
      refine bodyPost_ret (v := .tuple #[.agg #[.slice none 0 0, .int .i64 0], .int .i64 2]) (by simp [results, Tryd.results27, go_sem, g0, g1]) rfl ?_
      rw [Hr.out]
      exact ⟨_, rfl, nil_row _ _, Hb2.out.trans (gs.below Hb2.out.size (fun k e => by omega))⟩
    | true =>
      cases hc2 : (decide (0 ≤ fuel) && decide (fuel ≤ 10000000)) with
      | false =>
        have Hr := Lib.hid (show resF 0 true 10000000 p heap fuel = ((0, []), 2) by
          have : ¬ (0 ≤ fuel ∧ fuel ≤ 10000000) := by simpa using hc2
          unfold resF
          rw [if_neg (by simp), if_neg (by omega)])
        have Hc := Lib.hid hc1
        have Hc2 := Lib.hid hc2
        clear hev hc1 hc2
        go_wp2_with (first | (go_at_call 48; refine (refIn_any _ _ _ _).mono ?_; rintro e w' ⟨rfl, rfl⟩; first | rw [Hc.out] | rw [Hc2.out]))
        obtain ⟨g0, g1, gs⟩ := box_two (.slice none 0 0) (.int .i64 0) ar0 ar1
        refine bodyPost_ret (v := .tuple #[.agg #[.slice none 0 0, .int .i64 0], .int .i64 2]) (by simp [results, Tryd.results27, go_sem, g0, g1]) rfl ?_
        rw [Hr.out]
        exact ⟨_, rfl, nil_row _ _, Hb2.out.trans (gs.below Hb2.out.size (fun k e => by omega))⟩
      | true =>
        have hb1 : (p.data.length : Int) ≤ heap ∧ heap ≤ 20000 := by simpa using hc1
        have hb2 : 0 ≤ fuel ∧ fuel ≤ 10000000 := by simpa using hc2
        have Hr := Lib.hid (show resF 0 true 10000000 p heap fuel = (runF p true heap fuel.toNat (startF p), 0) by
          unfold resF
          rw [if_neg (by simp), if_pos ⟨hb1.1, hb1.2, hb2⟩])
        have hk1 := Keep.of_below' (S := fun _ => True) Hb2.out (fun k hk _ => hk)
        have hp1 := Good.kept hk1 Hp.out
        have hcon := ranOf_any p _ _ heap fuel true w1 hp1 (machineFaultF_ok hev) hb1.1 hb1.2 hb2.1 (by omega) (instr_n hp1)
        have Hcon := Lib.hid hcon
        have Hc := Lib.hid hc1
        have Hc2 := Lib.hid hc2
        clear hev hc1 hc2 hb1 hb2 hp1 hk1 hcon
        generalize runF p true heap fuel.toNat (startF p) = R at *
        go_wp2_with (first | (go_at_call 48; refine (refIn_any _ _ _ _).mono ?_; rintro e w' ⟨rfl, rfl⟩; first | rw [Hc.out] | rw [Hc2.out]))
        refine Hcon.out.mono ?_
        rintro e w2 ⟨vL, rfl, hrow, hb3⟩
        obtain ⟨aL, cL, rfl, -, -⟩ := row_slice hrow
        have cr0 := (hb3.cell (p := ⟨w.heap.size + 1, 0, none⟩) (by show w.heap.size + 1 < w1.heap.size; omega)).trans ar0
        have cr1 := (hb3.cell (p := ⟨w.heap.size + 1, 1, none⟩) (by show w.heap.size + 1 < w1.heap.size; omega)).trans ar1
        have cz0 := (hb3.frozen (p := ⟨w.heap.size + 1, 0, none⟩) (by show w.heap.size + 1 < w1.heap.size; omega)).trans az0
        have cz1 := (hb3.frozen (p := ⟨w.heap.size + 1, 1, none⟩) (by show w.heap.size + 1 < w1.heap.size; omega)).trans az1
        have Hrow := Lib.hid hrow
        have Hb3 := Lib.hid hb3
        clear hrow hb3 ap0 ap1 ar0 ar1 az0 az1 Hcon
        go_wp2_with fail
        obtain ⟨g0, g1, gs⟩ := box_two (.slice aL R.2.length cL) (.int .i64 R.1) cr0 cr1
        refine bodyPost_ret (v := .tuple #[.agg #[.slice aL R.2.length cL, .int .i64 R.1], .int .i64 0]) (by simp [results, Tryd.results27, go_sem, g0, g1]) rfl ?_
        rw [Hr.out]
        have hz2 := Hb2.out.size
        have hbb := Hb2.out.trans (Hb3.out.mono hz2)
        have hr := Hrow.out
        refine ⟨_, rfl, gs.row (ownsRow_from hr hz2) (fun k hk e => ?_), hbb.trans (gs.below hbb.size (fun k e => by omega))⟩
        have := (hr.lt k hk).1
        omega
  · have hz' : (ev == 0) = false := by simpa using hz
    have Hr := Lib.hid (show resF ev true 10000000 p heap fuel = ((0, []), ev) by
      unfold resF
      rw [if_pos hz])
    clear hev hz
    go_wp2_with fail
    obtain ⟨g0, g1, gs⟩ := box_two (.slice none 0 0) (.int .i64 0) ar0 ar1
    refine bodyPost_ret (v := .tuple #[.agg #[.slice none 0 0, .int .i64 0], .int .i64 ev]) (by simp [results, Tryd.results27, go_sem, g0, g1]) rfl ?_
    rw [Hr.out]
    exact ⟨_, rfl, nil_row _ _, Hb2.out.trans (gs.below Hb2.out.size (fun k e => by omega))⟩

end Go.Proofs.YtaomlfbcfmmhlaaDoor

/-
  The law's own functions: sameTexts, sameRun.
-/
namespace Go.Proofs.YtaomlfbcfmmhlaaDoor
open Go.RowKit Go.Pst
set_option linter.unusedVariables false
set_option linter.unusedSimpArgs false

theorem sameTexts_any (l : List ByteArray) (va vb : Value) (w : World) (base : Nat) (ha : w.ownsRow base 9 1 va l.length (l.map Value.string)) (hb : w.ownsRow base 9 1 vb l.length (l.map Value.string)) :
    Calls Tryd.prog 65 #[va, vb] w fun e w' => e = .returned (.bool true) ∧ Below w.heap.size w w' := by
  obtain ⟨aa, ca, rfl, hz1, hz2⟩ := row_slice ha
  have hl : l.length ≤ 9223372036854775807 := by unfold maxLen at hz2; omega
  clear hz1 hz2
  obtain ⟨ab, cb, rfl, -, -⟩ := row_slice hb
  have HA := Lib.hid ha
  have HB := Lib.hid hb
  clear ha hb
  go_enter Tryd.func65, Tryd.ntmps65
  go_wp2_with fail
  go_loopw [5] (fun i wr => ∃ k : Nat, k ≤ l.length ∧ i = .int .i64 k ∧ Since (fun _ => False) w wr) (fun i _ => l.length - (intOf i).toNat)
  case atStart => exact ⟨0, Nat.zero_le _, rfl, Since.refl _ _⟩
  case round =>
    obtain ⟨k, hk, rfl, hs⟩ := hrel
    by_cases hlt : k < l.length
    · have hlt1 : (k : Int) < l.length := by omega
      have hk0 : (0 : Int) ≤ k := by omega
      obtain ⟨ga, c1, hva, -, -, hla, hca, -⟩ := row_get HA.out (i := k) (u := .string l[k]) (by simp [hlt])
      obtain ⟨gb, c2, hvb, -, -, hlb, hcb, -⟩ := row_get HB.out (i := k) (u := .string l[k]) (by simp [hlt])
      obtain ⟨rfl, rfl⟩ : aa = some ⟨ga, 0, none⟩ ∧ ca = c1 := by simpa using hva
      obtain ⟨rfl, rfl⟩ : ab = some ⟨gb, 0, none⟩ ∧ cb = c2 := by simpa using hvb
      have da := (hs.cell (o := k) hla (fun e => e)).trans hca
      have db := (hs.cell (o := k) hlb (fun e => e)).trans hcb
      have HS := Lib.hid hs
      have hwk : IntKind.i64.wrap ((k : Int) + 1) = (k : Int) + 1 := IntWalk.i64_in _ (by omega)
      clear hs hva hvb hca hcb
      generalize l[k] = s at *
      have hne : (s != s) = false := by simp
      go_wp2_with fail
      go_region_held3 (fun w' => w'.cell? ⟨ga, k, none⟩ = some (.string s) ∧ w'.cell? ⟨gb, k, none⟩ = some (.string s)) (go_keep) (fail)
      all_goals (go_wp2_with fail; exact ⟨⟨k + 1, by omega, by simp, HS.out.trans (Since.drew _ _)⟩, by simp only [intOf]; omega⟩)
    · have hlt1 : ¬ ((k : Int) < l.length) := by omega
      have HS := Lib.hid hs
      clear hs
      go_wp2_with fail
      go_ret
      exact ⟨rfl, HS.out.below (Nat.le_refl _) (fun _ e => e.elim)⟩

theorem sameRun_any (l : List ByteArray) (x : Int) (va vb : Value) (w : World) (base : Nat) (ha : w.ownsRow base 9 1 va l.length (l.map Value.string)) (hb : w.ownsRow base 9 1 vb l.length (l.map Value.string)) :
    Calls Tryd.prog 20 #[.agg #[va, .int .i64 x], .agg #[vb, .int .i64 x]] w fun e w' => e = .returned (.bool true) ∧ Below w.heap.size w w' := by
  obtain ⟨aa, ca, rfl, -, -⟩ := row_slice ha
  obtain ⟨ab, cb, rfl, -, -⟩ := row_slice hb
  have HA := Lib.hid ha
  have HB := Lib.hid hb
  clear ha hb
  have hx : (x == x) = true := by simp
  go_enter Tryd.func20, Tryd.ntmps20
  go_wp2_with (first | (go_at_call 65; refine (sameTexts_any l _ _ _ base ((HA.out.alloc _).alloc _) ((HB.out.alloc _).alloc _)).mono ?_; rintro e w2 ⟨rfl, hb2⟩; have HB2 := Lib.hid hb2; clear hb2))
  go_ret
  exact ⟨rfl, (((Below.refl _ _).alloc (Nat.le_refl _) _).alloc (by simp) _).trans (HB2.out.mono (by simp; omega))⟩
end Go.Proofs.YtaomlfbcfmmhlaaDoor

/-
  Texts joined: IrInstr VmCase VmTables Tab VmRunTables VmAt VmTurn VmReg.
-/
import Derived.Test.YtaomlfbcfmmhlaaDoorVH
import Derived.Deep.CutBlock
import Derived.Test.YtaomlfbcfmmhlaaDoorVG
import Derived.ProofKit
import Derived.LaidMore
import Derived.OpenShut
import Derived.Stop.Joined
import Derived.Test.YtaomlfbcfmmhlaaDoorVC
import Derived.Lib.LaidTab
import Derived.Stop.LaidErr
import Derived.BigQuiet
import Derived.Deep.RegionHeld3
import Derived.Deep.QuietTactic

/-
  ir.checkInstr: the contract.
-/
namespace Go.Proofs.YtaomlfbcfmmhlaaDoor
open Go.RowKit Go.Pst
set_option linter.unusedVariables false

/-- What the test on the counts says. -/
def badCount (x : PInstr) : Prop := let r := ruleF x.op.toNat
  (0 ≤ r.1 ∧ (x.ds.length : Int) ≠ r.1) ∨ (0 ≤ r.2.1 ∧ (x.ars.length : Int) ≠ r.2.1) ∨ (0 ≤ r.2.2 ∧ (x.to.length : Int) ≠ r.2.2) ∨ (x.op = 11 ∧ x.to.length = 0)
theorem badCount_iff {x : PInstr} {k : Nat} (h : x.op = (k : Int)) (h1 : 1 ≤ k) (h2 : k ≤ 13) : ∃ d a t, arity x = some (d, a, t) ∧ (badCount x ↔ (x.ds.length ≠ d ∨ x.ars.length ≠ a ∨ x.to.length ≠ t)) := by
  have hk : k = 1 ∨ k = 2 ∨ k = 3 ∨ k = 4 ∨ k = 5 ∨ k = 6 ∨ k = 7 ∨ k = 8 ∨ k = 9 ∨ k = 10 ∨ k = 11 ∨ k = 12 ∨ k = 13 := by omega
  have fin : ∀ (r0 r1 r2 : Int) (d a t : Nat), ruleF k = (r0, r1, r2) → ((0 ≤ r0 ∧ (x.ds.length : Int) ≠ r0) ∨ (0 ≤ r1 ∧ (x.ars.length : Int) ≠ r1) ∨ (0 ≤ r2 ∧ (x.to.length : Int) ≠ r2) ∨ (k = 11 ∧ x.to.length = 0) ↔ (x.ds.length ≠ d ∨ x.ars.length ≠ a ∨ x.to.length ≠ t)) → (badCount x ↔ (x.ds.length ≠ d ∨ x.ars.length ≠ a ∨ x.to.length ≠ t)) := by
    intro r0 r1 r2 d a t hr e
    rw [← e]
    unfold badCount
    rw [h]
    simp only [Int.toNat_natCast, hr]
    have : ((k : Int) = 11) ↔ k = 11 := by omega
    rw [this]
  rcases hk with rfl | rfl | rfl | rfl | rfl | rfl | rfl | rfl | rfl | rfl | rfl | rfl | rfl
  · exact ⟨1, 0, 0, by simp [arity, h], fin 1 0 0 1 0 0 rfl (by omega)⟩
  · exact ⟨1, 1, 0, by simp [arity, h], fin 1 1 0 1 1 0 rfl (by omega)⟩
  · exact ⟨1, 2, 0, by simp [arity, h], fin 1 2 0 1 2 0 rfl (by omega)⟩
  · exact ⟨1, 1, 0, by simp [arity, h], fin 1 1 0 1 1 0 rfl (by omega)⟩
  · exact ⟨0, 2, 0, by simp [arity, h], fin 0 2 0 0 2 0 rfl (by omega)⟩
  · exact ⟨1, 1, 0, by simp [arity, h], fin 1 1 0 1 1 0 rfl (by omega)⟩
  · exact ⟨x.ds.length, x.ars.length, 0, by simp [arity, h], fin (-1) (-1) 0 x.ds.length x.ars.length 0 rfl (by omega)⟩
  · exact ⟨0, x.ars.length, 0, by simp [arity, h], fin 0 (-1) 0 0 x.ars.length 0 rfl (by omega)⟩
  · exact ⟨0, 0, 1, by simp [arity, h], fin 0 0 1 0 0 1 rfl (by omega)⟩
  · exact ⟨0, 1, 2, by simp [arity, h], fin 0 1 2 0 1 2 rfl (by omega)⟩
  · by_cases ht : x.to.length = 0
    · exact ⟨0, 1, 1, by simp [arity, h, ht], fin 0 1 (-1) 0 1 1 rfl (by omega)⟩
    · exact ⟨0, 1, x.to.length, by simp [arity, h, ht], fin 0 1 (-1) 0 1 x.to.length rfl (by omega)⟩
  · exact ⟨0, x.ars.length, 0, by simp [arity, h], fin 0 (-1) 0 0 x.ars.length 0 rfl (by omega)⟩
  · exact ⟨0, 0, 0, by simp [arity, h], fin 0 0 0 0 0 0 rfl (by omega)⟩
theorem stage (n : Nat) (r : Int) : (decide (r ≥ 0) = true ∧ ((n : Int) != r) = true ∧ (0 ≤ r ∧ (n : Int) ≠ r)) ∨ (decide (r ≥ 0) = false ∧ ¬ (0 ≤ r ∧ (n : Int) ≠ r)) ∨ (decide (r ≥ 0) = true ∧ ((n : Int) != r) = false ∧ ¬ (0 ≤ r ∧ (n : Int) ≠ r)) := by
  by_cases h : 0 ≤ r
  · by_cases e : (n : Int) = r
    · exact Or.inr (Or.inr ⟨decide_eq_true h, by simpa using e, fun h => h.2 e⟩)
    · exact Or.inl ⟨decide_eq_true h, by simpa using e, h, e⟩
  · exact Or.inr (Or.inl ⟨decide_eq_false h, fun h' => h h'.1⟩)
open Classical in
noncomputable def badB (x : PInstr) : Bool := decide (badCount x)
theorem badB_t {x : PInstr} (h : badCount x) : badB x = true := by unfold badB; simpa using h
theorem badB_f {x : PInstr} (h : ¬ badCount x) : badB x = false := by unfold badB; simpa using h

set_option maxRecDepth 4000 in
set_option maxHeartbeats 2000000 in
theorem irInstr_any (fs : List PCode) (p0 p1 : Value) (c : PCode) (ccs : List Value) (x : PInstr) (xcs : List Value) (w : World) (hp : rCodes (fun _ => True) w [p0] fs)
    (hc : rCode (fun _ => True) w ccs c) (hx : rInstr (fun _ => True) w xcs x) (hv : 0 ≤ c.vars) (hL : IrLaid w) :
    Calls Tryd.prog 73 #[.agg #[p0, p1], .agg ccs.toArray, .agg xcs.toArray] w fun e w' => e = .returned (.int .i64 (instrFaultF fs c.vars c.results c.blocks.length x)) ∧ Below w.heap.size w w' := by
  have Hx := Lib.hid hx
  obtain ⟨v5, rfl, ⟨-, -, hres, hvars, -⟩, hbs⟩ := hc
  obtain ⟨v1, v2, v6, rfl, ⟨hop, hn, hs⟩, h1, h2, h6⟩ := hx
  obtain ⟨a5, c5, rfl, hcap5, hmax5, -⟩ := rSlice_one hbs
  obtain ⟨a1, c1, rfl, hl1, hat1, -⟩ := rInts_open h1
  obtain ⟨a2, c2, rfl, hl2, hat2, -⟩ := rInts_open h2
  obtain ⟨a6, c6, rfl, hl6, hat6, -⟩ := rInts_open h6
  unfold maxLen at hmax5
  have hnb : c.blocks.length ≤ 9223372036854775807 := by omega
  have hvi := hvars.2
  clear hbs h1 h2 h6 hcap5 hmax5 hop hn hs hvars hres
  generalize c.blocks.length = nb at *
  generalize hop : x.op = op at *
  generalize c.vars = vars at *
  generalize c.results = results at *
  have HL := Lib.hid hL
  clear hL
  by_cases hlo : op < 1
  · have b1 : decide (op < 1) = true := decide_eq_true hlo
    have ha : arity x = none := by unfold arity; simp only [hop]; repeat rw [if_neg (by omega)]
    have Ha := Lib.hid ha
    clear ha
    go_enter Tryd.func73, Tryd.ntmps73
    go_wp2_with fail
    go_ret
    exact ⟨by unfold instrFaultF; rw [Ha.out]; rfl, below_box3 _ _ _ _⟩
  have b1 : decide (op < 1) = false := decide_eq_false hlo
  by_cases hhi : 13 < op
  · have b2 : decide (op > 13) = true := decide_eq_true hhi
    have ha : arity x = none := by unfold arity; simp only [hop]; repeat rw [if_neg (by omega)]
    have Ha := Lib.hid ha
    clear ha
    go_enter Tryd.func73, Tryd.ntmps73
    go_wp2_with fail
    go_ret
    exact ⟨by unfold instrFaultF; rw [Ha.out]; rfl, below_box3 _ _ _ _⟩
  have b2 : decide (op > 13) = false := decide_eq_false (by omega)
  obtain ⟨k, rfl⟩ : ∃ k : Nat, op = (k : Int) := ⟨op.toNat, by omega⟩
  obtain ⟨r0, r1, r2⟩ := HL.out.rules k (by omega)
  have g0 := HL.out.lt.1
  have hk14 : (k : Int) < 14 := by omega
  go_enter Tryd.func73, Tryd.ntmps73
  go_upto_region 4 with fail
  go_cut [69] from 22 to 69 (fun s69 wx => s69 = .bool (badB x) ∧ wx = (((w.alloc (.cells #[p0, p1] 25)).alloc (.cells #[.string c.name, .int .i64 c.params, .int .i64 results, .int .i64 vars, .int .i64 c.slots, .slice a5 nb c5] 28)).alloc
        (.cells #[.int .i64 k, .slice a1 x.ds.length c1, .slice a2 x.ars.length c2, .int .i64 x.n, .string x.s, .slice a6 x.to.length c6] 53)).alloc (.cells #[.int .i64 (ruleF k).1, .int .i64 (ruleF k).2.1, .int .i64 (ruleF k).2.2] 178))
  case first =>
    have hkt : x.op.toNat = k := by omega
    have Hkt := Lib.hid hkt
    have Hop := Lib.hid hop
    clear hop hkt HL Hx hp hat1 hat2 hat6 r0 r1 r2
    rcases stage x.ds.length (ruleF k).1 with ⟨q1, q2, hb⟩ | ⟨q1, hb⟩ | ⟨q1, q2, hb⟩
    · have Hb := Lib.hid (badB_t (x := x) (by unfold badCount; rw [Hkt.out]; exact Or.inl hb))
      clear hb
      go_wp2_with fail
      go_meet
      case rel => exact ⟨by rw [Hb.out], rfl⟩
    all_goals
      have Hb1 := Lib.hid hb
      clear hb
    all_goals
      rcases stage x.ars.length (ruleF k).2.1 with ⟨q3, q4, hb⟩ | ⟨q3, hb⟩ | ⟨q3, q4, hb⟩
      · have Hb := Lib.hid (badB_t (x := x) (by unfold badCount; rw [Hkt.out]; exact Or.inr (Or.inl hb)))
        clear hb
        go_wp2_with fail
        go_meet
        case rel => exact ⟨by rw [Hb.out], rfl⟩
      all_goals
        have Hb2 := Lib.hid hb
        clear hb
    all_goals
      rcases stage x.to.length (ruleF k).2.2 with ⟨q5, q6, hb⟩ | ⟨q5, hb⟩ | ⟨q5, q6, hb⟩
      · have Hb := Lib.hid (badB_t (x := x) (by unfold badCount; rw [Hkt.out]; exact Or.inr (Or.inr (Or.inl hb))))
        clear hb
        go_wp2_with fail
        go_meet
        case rel => exact ⟨by rw [Hb.out], rfl⟩
      all_goals
        have Hb3 := Lib.hid hb
        clear hb
    all_goals
      by_cases h11 : k = 11
      case neg =>
        have o11 : ((k : Int) == 11) = false := by simpa using (show ¬ (k : Int) = 11 by omega)
        have Hb := Lib.hid (badB_f (x := x) (by
          unfold badCount; rw [Hkt.out]
          exact fun h => h.elim Hb1.out (fun h => h.elim Hb2.out (fun h => h.elim Hb3.out (fun h => h11 (by have := Hop.out; omega))))))
        clear h11
        go_wp2_with fail
        go_meet
        case rel => exact ⟨by rw [Hb.out], rfl⟩
      case pos =>
        have o11 : ((k : Int) == 11) = true := by simpa using (show (k : Int) = 11 by omega)
        by_cases ht : x.to.length = 0
        · have t0 : ((x.to.length : Int) == 0) = true := by simpa using ht
          have Hb := Lib.hid (badB_t (x := x) (by unfold badCount; exact Or.inr (Or.inr (Or.inr ⟨by have := Hop.out; omega, ht⟩))))
          clear h11 ht
          go_wp2_with fail
          go_meet
          case rel => exact ⟨by rw [Hb.out], rfl⟩
        · have t0 : ((x.to.length : Int) == 0) = false := by simpa using ht
          have Hb := Lib.hid (badB_f (x := x) (by
            unfold badCount; rw [Hkt.out]
            exact fun h => h.elim Hb1.out (fun h => h.elim Hb2.out (fun h => h.elim Hb3.out (fun h => ht h.2)))))
          clear h11 ht
          go_wp2_with fail
          go_meet
          case rel => exact ⟨by rw [Hb.out], rfl⟩
  case rest =>
    obtain ⟨rfl, hw⟩ := hcut
    have hbel : Below w.heap.size w wc := by rw [hw]; exact (below_box3 _ _ _ _).alloc (by simp; omega) _
    have hsz : wc.heap.size = w.heap.size + 4 := by rw [hw]; simp
    have ex : ∀ (b j : Nat), b < w.heap.size + 3 → wc.cell? ⟨b, j, none⟩ = (((w.alloc (.cells #[p0, p1] 25)).alloc (.cells #[.string c.name, .int .i64 c.params, .int .i64 results, .int .i64 vars, .int .i64 c.slots, .slice a5 nb c5] 28)).alloc
        (.cells #[.int .i64 k, .slice a1 x.ds.length c1, .slice a2 x.ars.length c2, .int .i64 x.n, .string x.s, .slice a6 x.to.length c6] 53)).cell? ⟨b, j, none⟩ := fun b j hb => by rw [hw]; exact World.cell?_alloc_lt _ _ _ (by simp; omega)
    have bp0 : wc.cell? ⟨w.heap.size, 0, none⟩ = some p0 := by rw [ex _ _ (by omega), box3_1]; rfl
    have bp1 : wc.cell? ⟨w.heap.size, 1, none⟩ = some p1 := by rw [ex _ _ (by omega), box3_1]; rfl
    have bc2 : wc.cell? ⟨w.heap.size + 1, 2, none⟩ = some (.int .i64 results) := by rw [ex _ _ (by omega), box3_2]; rfl
    have bc3 : wc.cell? ⟨w.heap.size + 1, 3, none⟩ = some (.int .i64 vars) := by rw [ex _ _ (by omega), box3_2]; rfl
    have bc5 : wc.cell? ⟨w.heap.size + 1, 5, none⟩ = some (.slice a5 nb c5) := by rw [ex _ _ (by omega), box3_2]; rfl
    have bx0 : wc.cell? ⟨w.heap.size + 1 + 1, 0, none⟩ = some (.int .i64 k) := by rw [ex _ _ (by omega), box3_3]; rfl
    have bx1 : wc.cell? ⟨w.heap.size + 1 + 1, 1, none⟩ = some (.slice a1 x.ds.length c1) := by rw [ex _ _ (by omega), box3_3]; rfl
    have bx2 : wc.cell? ⟨w.heap.size + 1 + 1, 2, none⟩ = some (.slice a2 x.ars.length c2) := by rw [ex _ _ (by omega), box3_3]; rfl
    have bx3 : wc.cell? ⟨w.heap.size + 1 + 1, 3, none⟩ = some (.int .i64 x.n) := by rw [ex _ _ (by omega), box3_3]; rfl
    have bx4 : wc.cell? ⟨w.heap.size + 1 + 1, 4, none⟩ = some (.string x.s) := by rw [ex _ _ (by omega), box3_3]; rfl
    have bx5 : wc.cell? ⟨w.heap.size + 1 + 1, 5, none⟩ = some (.slice a6 x.to.length c6) := by rw [ex _ _ (by omega), box3_3]; rfl
    clear hw ex r0 r1 r2
    have Hlow := Lib.hid hbel
    obtain ⟨d, a, t, har, hbc⟩ := badCount_iff hop (by omega) (by omega)
    by_cases hbad : badCount x
    · have Hb := Lib.hid (hbc.1 hbad)
      have Har := Lib.hid har
      rw [badB_t hbad]
      clear hbc hbad har hat1 hat2 hat6 hp Hx HL
      go_wp2_with fail
      go_ret
      exact ⟨by rw [instrFaultF_count Har.out Hb.out]; rfl, Hlow.out⟩
    rw [badB_f hbad]
    have har' : arity x = some (x.ds.length, x.ars.length, x.to.length) := by
      rw [har]
      have : ¬ (x.ds.length ≠ d ∨ x.ars.length ≠ a ∨ x.to.length ≠ t) := fun h => hbad (hbc.2 h)
      obtain ⟨rfl, rfl, rfl⟩ : x.ds.length = d ∧ x.ars.length = a ∧ x.to.length = t := by omega
      rfl
    have Har := Lib.hid har'
    clear har har' hbc hbad
    have Hp := Lib.hid (Good.keep (S' := fun _ => True) (Keep.of_below' hbel (fun k hk _ => hk)) (fun _ _ h => h) hp)
    have Hx2 := Lib.hid (Good.keep (S' := fun _ => True) (Keep.of_below' hbel (fun k hk _ => hk)) (fun _ _ h => h) Hx.out)
    have HL2 := Lib.hid (HL.out.below hbel)
    have en1 := enters_of (P := Tryd.prog) Tryd.func131 (by kernel_rfl) (by kernel_rfl)
    have en2 := enters_of (P := Tryd.prog) Tryd.func132 (by kernel_rfl) (by kernel_rfl)
    have F1 := Lib.hid (fun cc => containsFunc_ints 131 #[.pointer (some ⟨w.heap.size + 1, 0, none⟩)] (oddF vars) a1 x.ds cc wc hl1 (hat1.below hbel) en1 (odd1_answers vars x.ds wc _ bc3))
    have F2 := Lib.hid (fun cc n => containsFunc_ints 131 #[.pointer (some ⟨w.heap.size + 1, 0, none⟩)] (oddF vars) a2 x.ars cc (wc.drewN n) hl2 ((hat2.below hbel).heap rfl) en1 ((odd1_answers vars x.ars wc _ bc3).later ⟨n, rfl⟩))
    have F6 := Lib.hid (fun cc n => containsFunc_ints 132 #[.pointer (some ⟨w.heap.size + 1, 0, none⟩)] (oddF nb) a6 x.to cc (wc.drewN n) hl6 ((hat6.below hbel).heap rfl) en2 ((odd2_answers nb x.to wc _ _ _ hnb bc5).later ⟨n, rfl⟩))
    clear en1 en2 hat1 hat2 hat6 hp Hx HL hbel
    go_wp2_with fail
    refine (F1.out _).mono ?_
    rintro e w1 ⟨rfl, n1, rfl⟩
    rw [any_oddF]
    cases q1 : inAll x.ds vars with
    | false =>
      have Q1 := Lib.hid q1
      clear q1
      go_wp2_with fail
      go_ret
      exact ⟨by rw [instrFaultF_range Har.out (by rw [Q1.out]; rfl)]; rfl, Hlow.out.trans (Drawn.below (w := wc) ⟨_, rfl⟩ _)⟩
    | true =>
    have Q1 := Lib.hid q1
    clear q1
    go_wp2_with fail
    refine (F2.out _ _).mono ?_
    rintro e w1 ⟨rfl, n2, rfl⟩
    rw [any_oddF, World.drewN_drewN]
    generalize n1 + n2 = n2 at *
    cases q2 : inAll x.ars vars with
    | false =>
      have Q2 := Lib.hid q2
      clear q2
      go_wp2_with fail
      go_ret
      exact ⟨by rw [instrFaultF_range Har.out (by rw [Q2.out]; simp)]; rfl, Hlow.out.trans (Drawn.below (w := wc) ⟨_, rfl⟩ _)⟩
    | true =>
    have Q2 := Lib.hid q2
    clear q2
    go_wp2_with fail
    refine (F6.out _ _).mono ?_
    rintro e w1 ⟨rfl, n3, rfl⟩
    rw [any_oddF, World.drewN_drewN]
    cases q6 : inAll x.to nb with
    | false =>
      have Q6 := Lib.hid q6
      clear q6
      go_wp2_with fail
      go_ret
      exact ⟨by rw [instrFaultF_range Har.out (by rw [Q6.out]; simp)]; rfl, Hlow.out.trans (Drawn.below (w := wc) ⟨_, rfl⟩ _)⟩
    | true =>
    have Q6 := Lib.hid q6
    clear q6
    have hgood := instrFaultF_good (fs := fs) (vars := vars) (results := results) (nb := nb) Har.out (by rw [Q1.out, Q2.out, Q6.out]; rfl)
    have Hg := Lib.hid hgood
    clear hgood Har Q1 Q2 Q6 F1 F2 F6
    generalize n2 + n3 = nn at *
    have Hdr := Lib.hid (Drawn.below (w := wc) (w' := wc.drewN nn) ⟨_, rfl⟩ wc.heap.size)
    by_cases h3 : k = 3
    · subst h3
      obtain ⟨am, cm, hmc, hstr⟩ := HL2.out.maths
      have gm := HL2.out.lt.2
      have Hcs := Lib.hid (containsStr_any x.s am mathsF cm (wc.drewN nn) (by decide) (fun i hi => hstr i hi))
      clear hstr
      go_wp2_with fail
      refine (Hcs.out).mono ?_
      rintro e w1 ⟨rfl, rfl⟩
      cases hm : decide (x.s ∈ mathsF) with
      | false =>
        have Hm := Lib.hid hm
        clear hm
        go_wp2_with fail
        go_ret
        exact ⟨by rw [Hg.out, show x.op = 3 from hop, if_pos rfl, if_neg (of_decide_eq_false Hm.out)]; rfl, Hlow.out.trans (Drawn.below (w := wc) ⟨_, rfl⟩ _)⟩
      | true =>
        have Hm := Lib.hid hm
        clear hm
        go_wp2_with fail
        go_ret
        exact ⟨by rw [Hg.out, show x.op = 3 from hop, if_pos rfl, if_pos (of_decide_eq_true Hm.out)]; rfl, Hlow.out.trans (Drawn.below (w := wc) ⟨_, rfl⟩ _)⟩
    by_cases h8 : k = 8
    · subst h8
      by_cases t1 : x.s = sText
      · have q1 : (x.s.toList == [116, 101, 120, 116]) = true := str_eqc t1
        have T1 := Lib.hid t1
        clear t1
        by_cases l2 : x.ars.length = 2
        · have L2 := Lib.hid l2
          rw [l2] at bx2 ⊢
          go_wp2_with fail
          go_ret
          exact ⟨by rw [Hg.out, show x.op = 8 from hop, if_neg (by decide), if_pos rfl, if_pos T1.out, if_pos L2.out]; rfl, Hlow.out.trans (Drawn.below (w := wc) ⟨_, rfl⟩ _)⟩
        · have lb2 : ((x.ars.length : Int) != 2) = true := by simp; omega
          have L2 := Lib.hid l2
          clear l2
          go_wp2_with fail
          go_ret
          exact ⟨by rw [Hg.out, show x.op = 8 from hop, if_neg (by decide), if_pos rfl, if_pos T1.out, if_neg L2.out]; rfl, Hlow.out.trans (Drawn.below (w := wc) ⟨_, rfl⟩ _)⟩
      · have q1 : (x.s.toList == [116, 101, 120, 116]) = false := str_nec (y := sText) t1
        have T1 := Lib.hid t1
        clear t1
        by_cases t2 : x.s = sInt ∨ x.s = sBool
        · have T2 := Lib.hid t2
          by_cases l2 : x.ars.length = 1
          · have L2 := Lib.hid l2
            rw [l2] at bx2 ⊢
            by_cases t3 : x.s = sInt
            · have q2 : (x.s.toList == [105, 110, 116]) = true := str_eqc (y := sInt) t3
              clear t2 t3
              go_wp2_with fail
              go_ret
              exact ⟨by rw [Hg.out, show x.op = 8 from hop, if_neg (by decide), if_pos rfl, if_neg T1.out, if_pos T2.out, if_pos L2.out]; rfl, Hlow.out.trans (Drawn.below (w := wc) ⟨_, rfl⟩ _)⟩
            · have q2 : (x.s.toList == [105, 110, 116]) = false := str_nec (y := sInt) t3
              have q3 : (x.s.toList == [98, 111, 111, 108]) = true := str_eqc (y := sBool) (t2.resolve_left t3)
              clear t2 t3
              go_wp2_with fail
              go_ret
              exact ⟨by rw [Hg.out, show x.op = 8 from hop, if_neg (by decide), if_pos rfl, if_neg T1.out, if_pos T2.out, if_pos L2.out]; rfl, Hlow.out.trans (Drawn.below (w := wc) ⟨_, rfl⟩ _)⟩
          · have lb2 : ((x.ars.length : Int) != 1) = true := by simp; omega
            have L2 := Lib.hid l2
            clear l2
            by_cases t3 : x.s = sInt
            · have q2 : (x.s.toList == [105, 110, 116]) = true := str_eqc (y := sInt) t3
              clear t2 t3
              go_wp2_with fail
              go_ret
              exact ⟨by rw [Hg.out, show x.op = 8 from hop, if_neg (by decide), if_pos rfl, if_neg T1.out, if_pos T2.out, if_neg L2.out]; rfl, Hlow.out.trans (Drawn.below (w := wc) ⟨_, rfl⟩ _)⟩
            · have q2 : (x.s.toList == [105, 110, 116]) = false := str_nec (y := sInt) t3
              have q3 : (x.s.toList == [98, 111, 111, 108]) = true := str_eqc (y := sBool) (t2.resolve_left t3)
              clear t2 t3
              go_wp2_with fail
              go_ret
              exact ⟨by rw [Hg.out, show x.op = 8 from hop, if_neg (by decide), if_pos rfl, if_neg T1.out, if_pos T2.out, if_neg L2.out]; rfl, Hlow.out.trans (Drawn.below (w := wc) ⟨_, rfl⟩ _)⟩
        · have q2 : (x.s.toList == [105, 110, 116]) = false := str_nec (y := sInt) (fun h => t2 (Or.inl h))
          have q3 : (x.s.toList == [98, 111, 111, 108]) = false := str_nec (y := sBool) (fun h => t2 (Or.inr h))
          have T2 := Lib.hid t2
          clear t2
          go_wp2_with fail
          go_ret
          exact ⟨by rw [Hg.out, show x.op = 8 from hop, if_neg (by decide), if_pos rfl, if_neg T1.out, if_neg T2.out]; rfl, Hlow.out.trans (Drawn.below (w := wc) ⟨_, rfl⟩ _)⟩
    by_cases h12 : k = 12
    · subst h12
      by_cases l2 : (x.ars.length : Int) = results
      · have lb2 : ((x.ars.length : Int) != results) = false := by simpa using l2
        have L2 := Lib.hid l2
        clear l2
        go_wp2_with fail
        go_ret
        exact ⟨by rw [Hg.out, show x.op = 12 from hop, if_neg (by decide), if_neg (by decide), if_pos rfl, if_pos L2.out]; rfl, Hlow.out.trans (Drawn.below (w := wc) ⟨_, rfl⟩ _)⟩
      · have lb2 : ((x.ars.length : Int) != results) = true := by simpa using l2
        have L2 := Lib.hid l2
        clear l2
        go_wp2_with fail
        go_ret
        exact ⟨by rw [Hg.out, show x.op = 12 from hop, if_neg (by decide), if_neg (by decide), if_pos rfl, if_neg L2.out]; rfl, Hlow.out.trans (Drawn.below (w := wc) ⟨_, rfl⟩ _)⟩
    by_cases h13 : k = 13
    · subst h13
      by_cases n2 : x.n < 2
      · have nb2 : decide (x.n < 2) = true := decide_eq_true n2
        have Nn := Lib.hid (show ¬ (2 ≤ x.n ∧ x.n ≤ 5) by omega)
        clear n2
        go_wp2_with fail
        go_ret
        exact ⟨by rw [Hg.out, show x.op = 13 from hop, if_neg (by decide), if_neg (by decide), if_neg (by decide), if_pos rfl, if_neg Nn.out]; rfl, Hlow.out.trans (Drawn.below (w := wc) ⟨_, rfl⟩ _)⟩
      have nb2 : decide (x.n < 2) = false := decide_eq_false n2
      by_cases n5 : 5 < x.n
      · have nb5 : decide (x.n > 5) = true := decide_eq_true n5
        have Nn := Lib.hid (show ¬ (2 ≤ x.n ∧ x.n ≤ 5) by omega)
        clear n2 n5
        go_wp2_with fail
        go_ret
        exact ⟨by rw [Hg.out, show x.op = 13 from hop, if_neg (by decide), if_neg (by decide), if_neg (by decide), if_pos rfl, if_neg Nn.out]; rfl, Hlow.out.trans (Drawn.below (w := wc) ⟨_, rfl⟩ _)⟩
      have nb5 : decide (x.n > 5) = false := decide_eq_false (by omega)
      have Nn := Lib.hid (show 2 ≤ x.n ∧ x.n ≤ 5 by omega)
      clear n2 n5
      go_wp2_with fail
      go_ret
      exact ⟨by rw [Hg.out, show x.op = 13 from hop, if_neg (by decide), if_neg (by decide), if_neg (by decide), if_pos rfl, if_pos Nn.out]; rfl, Hlow.out.trans (Drawn.below (w := wc) ⟨_, rfl⟩ _)⟩
    by_cases h7 : k = 7
    · subst h7
      have Hci := Lib.hid (irInvoke_any fs p0 p1 x _ (wc.drewN nn) (Good.kept (Keep.of_below' (Drawn.below (w := wc) ⟨nn, rfl⟩ wc.heap.size) (fun k hk _ => hk)) Hp.out) (Good.kept (Keep.of_below' (Drawn.below (w := wc) ⟨nn, rfl⟩ wc.heap.size) (fun k hk _ => hk)) Hx2.out))
      go_wp2_with fail
      refine (Hci.out).mono ?_
      rintro e w1 ⟨rfl, hb1⟩
      have Hb1 := Lib.hid hb1
      clear hb1
      go_wp2_with fail
      go_ret
      exact ⟨by rw [Hg.out, show x.op = 7 from hop, if_neg (by decide), if_neg (by decide), if_neg (by decide), if_neg (by decide), if_pos rfl]; rfl, Hlow.out.trans ((Hdr.out.trans Hb1.out).mono (by omega))⟩
    have o3 : ((k : Int) == 3) = false := by simpa using (show ¬ (k : Int) = 3 by omega)
    have o8 : ((k : Int) == 8) = false := by simpa using (show ¬ (k : Int) = 8 by omega)
    have o12 : ((k : Int) == 12) = false := by simpa using (show ¬ (k : Int) = 12 by omega)
    have o13 : ((k : Int) == 13) = false := by simpa using (show ¬ (k : Int) = 13 by omega)
    have o7 : ((k : Int) == 7) = false := by simpa using (show ¬ (k : Int) = 7 by omega)
    have Hn := Lib.hid (And.intro h3 (And.intro h8 (And.intro h12 (And.intro h13 h7))))
    clear h3 h8 h12 h13 h7
    go_wp2_with fail
    go_ret
    exact ⟨by
      have hn := Hn.out
      rw [Hg.out, hop, if_neg (by omega), if_neg (by omega), if_neg (by omega), if_neg (by omega), if_neg (by omega)]; rfl, Hlow.out.trans (Drawn.below (w := wc) ⟨_, rfl⟩ _)⟩
end Go.Proofs.YtaomlfbcfmmhlaaDoor

/-
  What machineInstrFaultF says, in the order in which vm.checkInstr asks: plain.
-/
namespace Go.Proofs.YtaomlfbcfmmhlaaDoor
open Go.RowKit Go.Pst
set_option linter.unusedVariables false

def badR (r : Int × Int × Int) (x : PInstr) : Prop :=
  (0 ≤ r.1 ∧ (x.ds.length : Int) ≠ r.1) ∨ (0 ≤ r.2.1 ∧ (x.ars.length : Int) ≠ r.2.1) ∨ (0 ≤ r.2.2 ∧ (x.to.length : Int) ≠ r.2.2) ∨ (x.op = 11 ∧ x.to.length = 0)
open Classical in
noncomputable def badRB (r : Int × Int × Int) (x : PInstr) : Bool := decide (badR r x)
theorem badRB_t {r : Int × Int × Int} {x : PInstr} (h : badR r x) : badRB r x = true := by unfold badRB; simpa using h
theorem badRB_f {r : Int × Int × Int} {x : PInstr} (h : ¬ badR r x) : badRB r x = false := by unfold badRB; simpa using h

def vmGood (fs : List PCode) (slots results : Int) (x : PInstr) : Int :=
  if x.op = 21 ∨ x.op = 22 then (if 0 ≤ x.n ∧ x.n ≤ slots - 1 then 0 else 2)
  else if x.op = 3 then (if x.s ∈ mathsF then 0 else 4)
  else if x.op = 8 then
    (if x.s = sText then (if x.ars.length = 2 then 0 else 10) else if x.s = sInt ∨ x.s = sBool then (if x.ars.length = 1 then 0 else 10) else 4)
  else if x.op = 12 then (if (x.ars.length : Int) = results then 0 else 10)
  else if x.op = 13 then (if 2 ≤ x.n ∧ x.n ≤ 5 then 0 else 4)
  else if x.op = 7 then invokeFaultF fs x
  else 0

structure VmCase (fs : List PCode) (vars slots results : Int) (nb : Nat) (x : PInstr) (r : Int × Int × Int) (most : Int) : Prop where
  row : lookI rulesI x.op = some (row3 r)
  mostIs : most = if x.op = 7 ∨ x.op = 12 then slots else vars
  count : badR r x → machineInstrFaultF fs vars slots results nb x = 10
  range : ¬ badR r x → (inAll x.ds most && inAll x.ars most && inAll x.to nb) = false → machineInstrFaultF fs vars slots results nb x = 2
  good : ¬ badR r x → (inAll x.ds most && inAll x.ars most && inAll x.to nb) = true → machineInstrFaultF fs vars slots results nb x = vmGood fs slots results x

theorem vmCase_of (fs : List PCode) (vars slots results : Int) (nb : Nat) (x : PInstr) :
    (lookI rulesI x.op = none ∧ machineInstrFaultF fs vars slots results nb x = 3) ∨ ∃ r most, VmCase fs vars slots results nb x r most := by
  by_cases hs : x.op = 21 ∨ x.op = 22
  · right
    have hF := machF_slot (fs := fs) (vars := vars) (slots := slots) (results := results) (nb := nb) hs
    have h7 : ¬ (x.op = 7 ∨ x.op = 12) := by omega
    have key : ∀ (d a : Nat), (if x.op = 22 then 0 else 1) = d → (if x.op = 22 then 1 else 0) = a → (badR ((d : Int), (a : Int), 0) x ↔ (x.ds.length ≠ d ∨ x.ars.length ≠ a ∨ x.to.length ≠ 0)) := by
      intro d a _ _
      unfold badR
      simp only
      omega
    have fin : ∀ (d a : Nat), (if x.op = 22 then 0 else 1) = d → (if x.op = 22 then 1 else 0) = a → lookI rulesI x.op = some (row3 ((d : Int), (a : Int), 0)) → ∃ r most, VmCase fs vars slots results nb x r most := by
      intro d a hd ha hrow
      refine ⟨_, vars, hrow, by rw [if_neg h7], fun hb => ?_, fun hb hr => ?_, fun hb hr => ?_⟩
      · rw [hF, hd, ha, if_pos ((key d a hd ha).1 hb)]
      · have hn : ¬ (x.ds.length ≠ d ∨ x.ars.length ≠ a ∨ x.to.length ≠ 0) := fun h => hb ((key d a hd ha).2 h)
        have hto : x.to = [] := List.eq_nil_of_length_eq_zero (by omega)
        rw [hF, hd, ha, if_neg hn, if_pos]
        rw [hto] at hr
        have : (inAll x.ds vars && inAll x.ars vars) = false := by simpa [inAll] using hr
        rw [this]; rfl
      · have hn : ¬ (x.ds.length ≠ d ∨ x.ars.length ≠ a ∨ x.to.length ≠ 0) := fun h => hb ((key d a hd ha).2 h)
        simp only [Bool.and_eq_true] at hr
        rw [hF, hd, ha, if_neg hn, hr.1.1, hr.1.2]
        unfold vmGood
        rw [if_pos hs]
        by_cases c : 0 ≤ x.n ∧ x.n ≤ slots - 1
        · rw [if_pos c]; simp [c.1, c.2]
        · rw [if_neg c, if_pos]
          by_cases c0 : 0 ≤ x.n
          · have : ¬ x.n ≤ slots - 1 := fun h => c ⟨c0, h⟩
            simp [this]
          · simp [c0]
    rcases hs with h | h
    · exact fin 1 0 (by rw [h]; rfl) (by rw [h]; rfl) (by rw [h]; exact rulesI_at 21)
    · exact fin 0 1 (by rw [h]; rfl) (by rw [h]; rfl) (by rw [h]; exact rulesI_at 22)
  by_cases hk : 1 ≤ x.op ∧ x.op ≤ 13
  · right
    obtain ⟨k, hop⟩ : ∃ k : Nat, x.op = (k : Int) := ⟨x.op.toNat, by omega⟩
    obtain ⟨d, a, t, har, hbc⟩ := badCount_iff hop (by omega) (by omega)
    have hbad : badR (ruleF k) x ↔ badCount x := by
      unfold badR badCount
      rw [hop]
      simp only [Int.toNat_natCast]
    refine ⟨ruleF k, _, ?_, rfl, fun hb => ?_, fun hb hr => ?_, fun hb hr => ?_⟩
    · rw [hop, rulesI_at]
      have : ruleM k = some (ruleF k) := by unfold ruleM; rw [if_pos (by omega)]
      rw [this]; rfl
    · have := instrFaultF_count (fs := fs) (vars := if x.op = 7 ∨ x.op = 12 then slots else vars) (results := results) (nb := nb) har (hbc.1 (hbad.1 hb))
      unfold machineInstrFaultF
      rw [if_neg hs]; exact this
    · have hn : ¬ (x.ds.length ≠ d ∨ x.ars.length ≠ a ∨ x.to.length ≠ t) := fun h => hb (hbad.2 (hbc.2 h))
      obtain ⟨rfl, rfl, rfl⟩ : x.ds.length = d ∧ x.ars.length = a ∧ x.to.length = t := by omega
      unfold machineInstrFaultF
      rw [if_neg hs]; exact instrFaultF_range har hr
    · have hn : ¬ (x.ds.length ≠ d ∨ x.ars.length ≠ a ∨ x.to.length ≠ t) := fun h => hb (hbad.2 (hbc.2 h))
      obtain ⟨rfl, rfl, rfl⟩ : x.ds.length = d ∧ x.ars.length = a ∧ x.to.length = t := by omega
      unfold machineInstrFaultF vmGood
      rw [if_neg hs, if_neg hs]; exact instrFaultF_good har hr
  · left
    have har : arity x = none := by unfold arity; repeat rw [if_neg (by omega)]
    refine ⟨?_, by unfold machineInstrFaultF; rw [if_neg hs]; unfold instrFaultF; rw [har]⟩
    by_cases h0 : x.op < 0
    · exact rulesI_neg _ h0
    · obtain ⟨k, hop⟩ : ∃ k : Nat, x.op = (k : Int) := ⟨x.op.toNat, by omega⟩
      rw [hop, rulesI_at]
      have : ruleM k = none := by unfold ruleM; rw [if_neg (by omega), if_neg (by omega), if_neg (by omega)]
      rw [this]; rfl

/-- The closures of checkInstr: a number outside. -/
theorem odd3_answers (hi : Int) (l : List Int) (w : World) (blk : Nat) (hc : w.cell? ⟨blk, 0, none⟩ = some (.int .i64 hi)) :
    Answers Tryd.prog 184 #[.pointer (some ⟨blk, 0, none⟩)] (oddF hi) l w := by
  intro x _ w' hd
  have hc' : w'.cell? ⟨blk, 0, none⟩ = some (.int .i64 hi) := by rw [hd.cell]; exact hc
  by_cases h : x < 0
  · have h1 : decide (x < 0) = true := decide_eq_true h
    go_enter Tryd.func184, Tryd.ntmps184
    go_wp2_with fail
    go_ret
    exact ⟨by simp [oddF, h], Drawn.refl _⟩
  · have h1 : decide (x < 0) = false := decide_eq_false h
    go_enter Tryd.func184, Tryd.ntmps184
    go_wp2_with fail
    go_ret
    exact ⟨by simp [oddF]; omega, Drawn.refl _⟩

theorem odd4_answers (nb : Nat) (l : List Int) (w : World) (blk : Nat) (a : Option Addr) (cap : Nat) (hn : nb ≤ 9223372036854775807) (hc : w.cell? ⟨blk, 5, none⟩ = some (.slice a nb cap)) :
    Answers Tryd.prog 185 #[.pointer (some ⟨blk, 0, none⟩)] (oddF nb) l w := by
  intro x _ w' hd
  have hc' : w'.cell? ⟨blk, 5, none⟩ = some (.slice a nb cap) := by rw [hd.cell]; exact hc
  by_cases h : x < 0
  · have h1 : decide (x < 0) = true := decide_eq_true h
    go_enter Tryd.func185, Tryd.ntmps185
    go_wp2_with fail
    go_ret
    exact ⟨by simp [oddF, h], Drawn.refl _⟩
  · have h1 : decide (x < 0) = false := decide_eq_false h
    go_enter Tryd.func185, Tryd.ntmps185
    go_wp2_with fail
    go_ret
    exact ⟨by simp [oddF]; omega, Drawn.refl _⟩
structure VmLaid (w : World) : Prop where
  lt : 6 < w.heap.size
  maths : ∃ a cap, w.cell? ⟨6, 0, none⟩ = some (.slice a 11 cap) ∧ StrsAt w a mathsF
theorem VmLaid.below {w w' : World} (h : VmLaid w) (hb : Below w.heap.size w w') : VmLaid w' := by
  refine ⟨Nat.lt_of_lt_of_le h.lt hb.size, ?_⟩
  obtain ⟨a, cap, h1, h2⟩ := h.maths
  exact ⟨a, cap, (hb.cell (p := ⟨_, 0, none⟩) h.lt).trans h1, h2.below hb⟩
end Go.Proofs.YtaomlfbcfmmhlaaDoor

/-
  From the card's condition on vm.maths to what the walks ask (VmLaid); the door's own heap meets the condition.
-/
namespace Go.Proofs.YtaomlfbcfmmhlaaDoor
open Go.ChangeShapes Go.WideShapes Go.ChangeAt Go.RowKit Go.Pst
set_option linter.unusedVariables false

abbrev vmTables : List (String × DataW Unit) := [("postern/vm.maths", Rows.laid_postern_vm_maths)]
theorem gVmMaths : Tryd.prog.globalNamed "postern/vm.maths" = some 6 := by kernel_rfl
theorem tVmMaths : (Tryd.prog.globals[6]?).map (·.type) = some 39 := by kernel_rfl

theorem lt_of_cell3 {W : World} {b o : Nat} {v : Value} (h : W.cell? ⟨b, o, none⟩ = some v) : b < W.heap.size := by
  rcases Nat.lt_or_ge b W.heap.size with h' | h'
  · exact h'
  · simp [World.cell?, Array.getElem?_eq_none h'] at h

theorem vmLaid_of {W : World} (h : laidMetH Tryd.prog vmTables W) : VmLaid W := by
  rw [MakeChecks.laidMetH_plain _ _ _ (by kernel_rfl)] at h
  obtain ⟨ps, ⟨g0, t0, cs0, f0, p0, q0, hg0, ht0, hv0, hd0, _, _⟩, _, _⟩ := h
  obtain rfl := Option.some.inj (gVmMaths.symm.trans hg0)
  obtain rfl := Option.some.inj (tVmMaths.symm.trans ht0)
  have maths : ∃ a cap, W.cell? ⟨6, 0, none⟩ = some (.slice a 11 cap) ∧ StrsAt W a mathsF := by
    obtain ⟨a, cap, hcs, hle, hrow⟩ := open_row Tryd.underlying39 (by kernel_rfl) hd0
    have hc := World.var?_cell hg0 hv0 0
    rw [Array.eq_one_of_toList hcs] at hc
    have key : ∀ i (h : i < mathsF.length), W.cell? (a.add i) = some (.string mathsF[i]) := by
      intro i hi
      have hdat : ∀ (i : Nat) (h : i < mathsF.length), ([.lit (.string [43]), .lit (.string [45]), .lit (.string [42]), .lit (.string [47]), .lit (.string [37]), .lit (.string [61, 61]), .lit (.string [33, 61]), .lit (.string [60]), .lit (.string [60, 61]), .lit (.string [62]), .lit (.string [62, 61])] : List (DataW Unit))[i]? = some (.lit (.string mathsF[i].data.toList)) := by
        intro i h
        have h' : i < 11 := h
        match i, h' with
        | 0, _ | 1, _ | 2, _ | 3, _ | 4, _ | 5, _ | 6, _ | 7, _ | 8, _ | 9, _ | 10, _ => rfl
      obtain ⟨v, n, q, hv, ht⟩ := hrow i _ (hdat i hi)
      obtain ⟨t, e1, e2, _⟩ := DataW.trod_string Tryd.underlying9 ht
      simp only [Prod.mk.injEq, DataW.lit.injEq, Lit.string.injEq, List.cons.injEq, and_true] at e1 e2
      rw [hv, e1]
      congr 2
      exact ByteArray.ext (Array.toList_inj.mp e2.1.symm)
    obtain ⟨b, off, spot⟩ := a
    have hspot : spot = none := by
      have := key 0 (by decide)
      simpa [Addr.add] using World.cell?_spot this
    subst hspot
    have hadd : ∀ k, (⟨b, off, none⟩ : Addr).add k = ⟨b, off + k, none⟩ := by intro k; unfold Addr.add; split <;> simp_all
    refine ⟨some ⟨b, off, none⟩, cap, by simpa using hc, fun i hi => ⟨b, off, rfl, ?_, ?_⟩⟩
    · have := key i hi
      rw [hadd] at this
      exact lt_of_cell3 this
    · have := key i hi
      rw [hadd] at this
      exact this
  exact ⟨by obtain ⟨a, cap, h, _⟩ := maths; exact lt_of_cell3 h, maths⟩

/-- The door's own heap meets the condition. -/
theorem vm_door_met (os : Os) (args : Array Value) : laidMetH Tryd.prog vmTables ((World.doorLaid Tryd.prog 400 os).forCall (fun _ _ => 0) ⟨#[], args, []⟩).memory :=
  laidMetH_of_parts3 (fuel := 8) (laidMet_of_run' 8 (by kernel_rfl) (by kernel_rfl)) (by kernel_rfl) (by kernel_rfl)
end Go.Proofs.YtaomlfbcfmmhlaaDoor

/-
  strconv's table of powers, as the rows lay it.
-/
namespace Go.Proofs.YtaomlfbcfmmhlaaDoor
open Go.RowKit Go.Pst
set_option linter.unusedVariables false
set_option linter.unusedSimpArgs false

/-- strconv's table of powers, as the rows lay it. -/
structure TabOK (w : World) : Prop where
  is_ : Lib.TabIs Tryd.prog w "internal/strconv.uint64pow10" .u64 Lib.pow10Tab
  lt : 5 < w.heap.size
theorem TabOK.since {F : Nat → Prop} {w w' : World} (h : TabOK w) (hs : Since F w w') (hF : ¬ F 5) : TabOK w' := by
  refine ⟨?_, Nat.lt_of_lt_of_le h.lt hs.size⟩
  have h1 := h.is_
  have hg : Tryd.prog.globalNamed "internal/strconv.uint64pow10" = some 5 := by kernel_rfl
  unfold Lib.TabIs World.var? at *
  rw [hg] at h1 ⊢
  simp only [Option.bind_some] at h1 ⊢
  rw [hs.block _ h.lt hF]
  exact h1
end Go.Proofs.YtaomlfbcfmmhlaaDoor

/-
  From the card's condition on the tables of vm and strconv to what the walks ask; the door's own heap meets it.
-/
namespace Go.Proofs.YtaomlfbcfmmhlaaDoor
open Go.ChangeShapes Go.WideShapes Go.ChangeAt Go.RowKit Go.Pst
set_option linter.unusedVariables false

abbrev vmRunTables : List (String × DataW Unit) := [("math/bits.deBruijn32tab", Rows.laid_math_bits_deBruijn32tab), ("math/bits.deBruijn64tab", Rows.laid_math_bits_deBruijn64tab), ("internal/strconv.uint64pow10", Rows.laid_internal_strconv_uint64pow10), ("postern/vm.maths", Rows.laid_postern_vm_maths)]
theorem vmGPow : Tryd.prog.globalNamed "internal/strconv.uint64pow10" = some 5 := by kernel_rfl
theorem vmTPow : (Tryd.prog.globals[5]?).map (·.type) = some 222 := by kernel_rfl
theorem vmPowData : (Rows.laid_internal_strconv_uint64pow10 : DataW Unit) = Lib.tabData .u64 Lib.pow10Tab := by
  unfold Rows.laid_internal_strconv_uint64pow10 Lib.tabData Lib.pow10Tab
  simp [List.range, List.range.loop]
theorem vmRunLaid_of {W : World} (h : laidMetH Tryd.prog vmRunTables W) : VmLaid W ∧ TabOK W := by
  rw [MakeChecks.laidMetH_plain _ _ _ (by kernel_rfl)] at h
  have h3 := h.tail.tail
  have h4 := h3.tail
  refine ⟨vmLaid_of (by rw [MakeChecks.laidMetH_plain _ _ _ (by kernel_rfl)]; exact h4), ?_⟩
  rw [vmPowData] at h3
  have ht := Lib.tabIs_of_head vmGPow vmTPow Tryd.underlying222 Tryd.underlying197 (by kernel_rfl) (by kernel_rfl) h3
  exact ⟨ht, lt_of_cell3 (ht.cell vmGPow 0 (by rw [Lib.pow10Tab_length]; decide))⟩
theorem vmRun_door_met (os : Os) (args : Array Value) : laidMetH Tryd.prog vmRunTables ((World.doorLaid Tryd.prog 400 os).forCall (fun _ _ => 0) ⟨#[], args, []⟩).memory :=
  laidMetH_of_parts3 (fuel := 8) (laidMet_of_run' 8 (by kernel_rfl) (by kernel_rfl)) (by kernel_rfl) (by kernel_rfl)
end Go.Proofs.YtaomlfbcfmmhlaaDoor

/-
  vm's machine in memory: its program, its words, its lines, its frames; what a store, an append, a call leaves of it.
-/
namespace Go.Proofs.YtaomlfbcfmmhlaaDoor
open Go.RowKit Go.Pst
set_option linter.unusedVariables false
set_option linter.unusedSimpArgs false

/-- A frame's blocks (its slots, itself), where the results go, the registers that its code does not have. -/
structure LV where
  gv : Nat
  gs : Nat
  vw : Value
  rest : List Int
def vmCells (bF oF : Nat) (f : Lev) (a : LV) : List Value := .pointer (some ⟨bF, oF + f.fn * 6, none⟩) :: ((f.vars ++ a.rest).map (Value.int .i64) ++ [.slice (some ⟨a.gv, 0, none⟩) f.slots.length f.slots.length, .int .i64 f.block, .int .i64 f.at_, a.vw])
def vmRow : List (Lev × LV) → List Value
  | [] => []
  | x :: r => vmRow r ++ [.pointer (some ⟨x.2.gs, 0, none⟩)]
theorem vmRow_length : ∀ fr : List (Lev × LV), (vmRow fr).length = fr.length
  | [] => rfl
  | x :: r => by simp [vmRow, vmRow_length r]
structure LevVm (ρ : Nat → Option Lab) (w : World) (base bF oF i : Nat) (f : Lev) (a : LV) : Prop where
  lv : ρ a.gv = some (.v i)
  lt : ρ a.gs = some (.t i)
  eight : f.vars.length + a.rest.length = 8
  slots : intRow w base a.gv f.slots
  cells : w.ownsRow base 117 13 (.slice (some ⟨a.gs, 0, none⟩) 1 1) 1 (vmCells bF oF f a)
  want : rInts (· < base) w [a.vw] f.want
def LevsVm (ρ : Nat → Option Lab) (w : World) (base bF oF : Nat) : List (Lev × LV) → Prop
  | [] => True
  | x :: r => LevVm ρ w base bF oF r.length x.1 x.2 ∧ LevsVm ρ w base bF oF r
structure VmAt [Old] (ρ : Nat → Option Lab) (w : World) (base bm : Nat) (v1 vW vL vF : Value) (bF oF cF : Nat) (p : PProg) (limit : Int) (words : List Int) (lines : List ByteArray) (fr : List (Lev × LV)) : Prop where
  prog : rProg (· < base) w [.slice (some ⟨bF, oF, none⟩) p.funcs.length cF, v1] p
  c0 : w.cell? ⟨bm, 0, none⟩ = some (.slice (some ⟨bF, oF, none⟩) p.funcs.length cF)
  c1 : w.cell? ⟨bm, 1, none⟩ = some v1
  c2 : w.cell? ⟨bm, 2, none⟩ = some vW
  c3 : w.cell? ⟨bm, 3, none⟩ = some (.int .i64 limit)
  c4 : w.cell? ⟨bm, 4, none⟩ = some vF
  c5 : w.cell? ⟨bm, 5, none⟩ = some vL
  z : ∀ j, w.frozen? ⟨bm, j, none⟩ = false
  lm : ρ bm = some .s ∧ base ≤ bm ∧ bm < w.heap.size
  lw : ∀ k, vW.ownBlock = some k → ρ k = some .w
  ll : ∀ k, vL.ownBlock = some k → ρ k = some .l
  lc : ∀ k, vF.ownBlock = some k → ρ k = some .c
  oW : w.ownsRow base 3 1 vW words.length (words.map (Value.int .i64))
  oL : w.ownsRow base 9 1 vL lines.length (lines.map Value.string)
  rF : w.ownsRow base 114 1 vF fr.length (vmRow fr)
  levs : LevsVm ρ w base bF oF fr
  big : base ≤ w.heap.size
  below : Below base Old.w0 w

theorem LevVm.since {ρ : Nat → Option Lab} {w w' : World} {base bF oF i : Nat} {f : Lev} {a : LV} {F : Nat → Prop} (h : LevVm ρ w base bF oF i f a) (hs : Since F w w') (hB : ∀ k, F k → base ≤ k) (h1 : ¬ F a.gv) (h2 : ¬ F a.gs) : LevVm ρ w' base bF oF i f a :=
  ⟨h.lv, h.lt, h.eight, hs.row h.slots (fun k hk e => h1 (by simp [Value.ownBlock] at hk; exact hk ▸ e)), hs.row h.cells (fun k hk e => h2 (by simp [Value.ownBlock] at hk; exact hk ▸ e)),
    Good.kept ((hs.keep).weaken (fun k _ hk e => absurd (hB k e) (by omega))) h.want⟩
theorem LevsVm.since {ρ : Nat → Option Lab} {w w' : World} {base bF oF : Nat} {F : Nat → Prop} (hs : Since F w w') (hB : ∀ k, F k → base ≤ k) : ∀ {fr : List (Lev × LV)}, LevsVm ρ w base bF oF fr → (∀ k i, F k → i < fr.length → ρ k ≠ some (.v i) ∧ ρ k ≠ some (.t i)) → LevsVm ρ w' base bF oF fr
  | [], _, _ => trivial
  | x :: r, h, hF => ⟨h.1.since hs hB (fun e => (hF _ _ e (by simp)).1 h.1.lv) (fun e => (hF _ _ e (by simp)).2 h.1.lt), LevsVm.since hs hB h.2 (fun k i hk hi => hF k i hk (by simp; omega))⟩
theorem LevsVm.label {ρ ρ' : Nat → Option Lab} {w : World} {base bF oF : Nat} (hρ : ∀ k, k < w.heap.size → ρ' k = ρ k) : ∀ {fr : List (Lev × LV)}, LevsVm ρ w base bF oF fr → LevsVm ρ' w base bF oF fr
  | [], _ => trivial
  | x :: r, h => by
    have hv : x.2.gv < w.heap.size := (h.1.slots.lt _ rfl).2
    have ht : x.2.gs < w.heap.size := (h.1.cells.lt _ rfl).2
    exact ⟨⟨by rw [hρ _ hv]; exact h.1.lv, by rw [hρ _ ht]; exact h.1.lt, h.1.eight, h.1.slots, h.1.cells, h.1.want⟩, LevsVm.label hρ h.2⟩
namespace VmAt
/-- What stands behind the registers: the slots, the block, the place, where the results go. -/
theorem cells_tail {f : Lev} {a : LV} {bF oF : Nat} (h : f.vars.length + a.rest.length = 8) (j : Nat) : (vmCells bF oF f a)[9 + j]? = ([.slice (some ⟨a.gv, 0, none⟩) f.slots.length f.slots.length, .int .i64 f.block, .int .i64 f.at_, a.vw] : List Value)[j]? := by
  unfold vmCells
  rw [show 9 + j = (8 + j) + 1 by omega, List.getElem?_cons_succ, List.getElem?_append_right (by simp; omega)]
  congr 1
  simp
  omega
theorem cells_reg {f : Lev} {a : LV} {bF oF : Nat} (k : Nat) (hk : k < f.vars.length) : (vmCells bF oF f a)[1 + k]? = some (.int .i64 f.vars[k]) := by
  unfold vmCells
  rw [Nat.add_comm 1 k, List.getElem?_cons_succ, List.getElem?_append_left (by simp; omega), List.getElem?_map, List.getElem?_append_left hk, List.getElem?_eq_getElem hk]
  rfl
variable [Old] {ρ : Nat → Option Lab} {w w' : World} {base bm : Nat} {v1 vW vL vF : Value} {bF oF cF : Nat} {p : PProg} {limit : Int} {words : List Int} {lines : List ByteArray} {fr : List (Lev × LV)} {F : Nat → Prop}

theorem label {ρ' : Nat → Option Lab} (h : VmAt ρ w base bm v1 vW vL vF bF oF cF p limit words lines fr) (hρ : ∀ k, k < w.heap.size → ρ' k = ρ k) : VmAt ρ' w base bm v1 vW vL vF bF oF cF p limit words lines fr :=
  { h with
    lm := ⟨by rw [hρ _ h.lm.2.2]; exact h.lm.1, h.lm.2⟩
    lw := fun k hk => by rw [hρ _ (h.oW.lt k hk).2]; exact h.lw k hk
    ll := fun k hk => by rw [hρ _ (h.oL.lt k hk).2]; exact h.ll k hk
    lc := fun k hk => by rw [hρ _ (h.rF.lt k hk).2]; exact h.lc k hk
    levs := h.levs.label hρ }
/-- Blocks were written that are not the machine's own; what they hold is given anew. -/
theorem upd (h : VmAt ρ w base bm v1 vW vL vF bF oF cF p limit words lines fr) {words' : List Int} {lines' : List ByteArray} {fr' : List (Lev × LV)}
    (hs : Since F w w') (hB : ∀ k, F k → base ≤ k) (hF : ∀ k, F k → ρ k ≠ some .s)
    (oW : w'.ownsRow base 3 1 vW words'.length (words'.map (Value.int .i64))) (oL : w'.ownsRow base 9 1 vL lines'.length (lines'.map Value.string)) (oF' : w'.ownsRow base 114 1 vF fr'.length (vmRow fr')) (lv : LevsVm ρ w' base bF oF fr') :
    VmAt ρ w' base bm v1 vW vL vF bF oF cF p limit words' lines' fr' :=
  have np : ¬ F bm := fun e => (hF _ e) h.lm.1
  { prog := Good.kept ((hs.keep).weaken (fun k _ hk e => absurd (hB k e) (by omega))) h.prog
    c0 := (hs.cell h.lm.2.2 np).trans h.c0
    c1 := (hs.cell h.lm.2.2 np).trans h.c1
    c2 := (hs.cell h.lm.2.2 np).trans h.c2
    c3 := (hs.cell h.lm.2.2 np).trans h.c3
    c4 := (hs.cell h.lm.2.2 np).trans h.c4
    c5 := (hs.cell h.lm.2.2 np).trans h.c5
    z := fun j => (hs.frozen h.lm.2.2 np).trans (h.z j)
    lm := ⟨h.lm.1, h.lm.2.1, Nat.lt_of_lt_of_le h.lm.2.2 hs.size⟩
    lw := h.lw
    ll := h.ll
    lc := h.lc
    oW := oW
    oL := oL
    rF := oF'
    levs := lv
    big := Nat.le_trans h.big hs.size
    below := h.below.trans (hs.below h.big hB) }
theorem sW (h : VmAt ρ w base bm v1 vW vL vF bF oF cF p limit words lines fr) (hs : Since F w w') (hF : ∀ k, F k → ρ k ≠ some .w) : w'.ownsRow base 3 1 vW words.length (words.map (Value.int .i64)) :=
  hs.row h.oW (fun k hk e => hF k e (h.lw k hk))
theorem sL (h : VmAt ρ w base bm v1 vW vL vF bF oF cF p limit words lines fr) (hs : Since F w w') (hF : ∀ k, F k → ρ k ≠ some .l) : w'.ownsRow base 9 1 vL lines.length (lines.map Value.string) :=
  hs.row h.oL (fun k hk e => hF k e (h.ll k hk))
theorem sF (h : VmAt ρ w base bm v1 vW vL vF bF oF cF p limit words lines fr) (hs : Since F w w') (hF : ∀ k, F k → ρ k ≠ some .c) : w'.ownsRow base 114 1 vF fr.length (vmRow fr) :=
  hs.row h.rF (fun k hk e => hF k e (h.lc k hk))
/-- Only new blocks. -/
theorem since (h : VmAt ρ w base bm v1 vW vL vF bF oF cF p limit words lines fr) (hs : Since (fun _ => False) w w') : VmAt ρ w' base bm v1 vW vL vF bF oF cF p limit words lines fr :=
  h.upd hs (fun _ e => e.elim) (fun _ e => e.elim) (h.sW hs (fun _ e => e.elim)) (h.sL hs (fun _ e => e.elim)) (h.sF hs (fun _ e => e.elim)) (LevsVm.since hs (fun _ e => e.elim) h.levs (fun _ _ e => e.elim))
/-- Blocks without a label were written. -/
theorem sinceN (h : VmAt ρ w base bm v1 vW vL vF bF oF cF p limit words lines fr) (hs : Since F w w') (hN : ∀ k, F k → ρ k = none) (hB : ∀ k, F k → base ≤ k) : VmAt ρ w' base bm v1 vW vL vF bF oF cF p limit words lines fr :=
  h.upd hs hB (fun k e => by rw [hN k e]; simp) (h.sW hs (fun k e => by rw [hN k e]; simp)) (h.sL hs (fun k e => by rw [hN k e]; simp)) (h.sF hs (fun k e => by rw [hN k e]; simp)) (LevsVm.since hs hB h.levs (fun k i e _ => by rw [hN k e]; simp))
/-- A slot of the innermost frame is set. -/
theorem setS {f : Lev} {a : LV} {r : List (Lev × LV)} (h : VmAt ρ w base bm v1 vW vL vF bF oF cF p limit words lines ((f, a) :: r)) (d : Nat) (x : Int) :
    VmAt ρ (w.setCell ⟨a.gv, d, none⟩ (.int .i64 x)) base bm v1 vW vL vF bF oF cF p limit words lines (({ f with slots := f.slots.set d x }, a) :: r) := by
  have hs := Since.setCell w ⟨a.gv, d, none⟩ (.int .i64 x)
  have hlv := h.levs.1.lv
  have hB : ∀ k, k = a.gv → base ≤ k := fun k e => by rw [e]; exact (h.levs.1.slots.lt _ rfl).1
  refine h.upd hs hB (fun k e => ?_) (h.sW hs (fun k e => ?_)) (h.sL hs (fun k e => ?_)) (h.sF hs (fun k e => ?_)) ⟨⟨hlv, h.levs.1.lt, h.levs.1.eight, ?_, ?_, ?_⟩, LevsVm.since hs hB h.levs.2 (fun k i e hi => ?_)⟩
  · rw [show k = a.gv from e, hlv]; simp
  · rw [show k = a.gv from e, hlv]; simp
  · rw [show k = a.gv from e, hlv]; simp
  · rw [show k = a.gv from e, hlv]; simp
  · have := row_put h.levs.1.slots d (.int .i64 x)
    simpa [intRow] using this
  · have h2 := hs.row h.levs.1.cells (fun k hk e => by
      have h1 : a.gs = k := by simpa [Value.ownBlock] using hk
      have := h.levs.1.lt
      rw [h1, show k = a.gv from e, hlv] at this
      simp at this)
    have e2 : vmCells bF oF { f with slots := f.slots.set d x } a = vmCells bF oF f a := by simp [vmCells]
    rw [e2]
    exact h2
  · exact Good.kept ((hs.keep).weaken (fun k _ hk e => absurd (hB k e) (by omega))) h.levs.1.want
  · rw [show k = a.gv from e, hlv]
    simp
    omega
/-- A cell of the innermost frame is set. -/
theorem setC {f f' : Lev} {a : LV} {r : List (Lev × LV)} (h : VmAt ρ w base bm v1 vW vL vF bF oF cF p limit words lines ((f, a) :: r)) (j : Nat) (u : Value)
    (h1 : f'.slots = f.slots) (h8 : f'.vars.length = f.vars.length) (h3 : f'.want = f.want) (hj : (vmCells bF oF f a).set j u = vmCells bF oF f' a) :
    VmAt ρ (w.setCell ⟨a.gs, j, none⟩ u) base bm v1 vW vL vF bF oF cF p limit words lines ((f', a) :: r) := by
  have hs := Since.setCell w ⟨a.gs, j, none⟩ u
  have hlv := h.levs.1.lt
  have hB : ∀ k, k = a.gs → base ≤ k := fun k e => by rw [e]; exact (h.levs.1.cells.lt _ rfl).1
  refine h.upd hs hB (fun k e => ?_) (h.sW hs (fun k e => ?_)) (h.sL hs (fun k e => ?_)) (h.sF hs (fun k e => ?_)) ⟨⟨h.levs.1.lv, hlv, (by rw [h8]; exact h.levs.1.eight), ?_, ?_, ?_⟩, LevsVm.since hs hB h.levs.2 (fun k i e hi => ?_)⟩
  · rw [show k = a.gs from e, hlv]; simp
  · rw [show k = a.gs from e, hlv]; simp
  · rw [show k = a.gs from e, hlv]; simp
  · rw [show k = a.gs from e, hlv]; simp
  · rw [h1]
    refine hs.row h.levs.1.slots (fun k hk e => ?_)
    have h1 : a.gv = k := by simpa [Value.ownBlock] using hk
    have := h.levs.1.lv
    rw [h1, show k = a.gs from e, hlv] at this
    simp at this
  · rw [← hj]
    exact row_put h.levs.1.cells j u
  · rw [h3]
    exact Good.kept ((hs.keep).weaken (fun k _ hk e => absurd (hB k e) (by omega))) h.levs.1.want
  · rw [show k = a.gs from e, hlv]
    simp
    omega
/-- A cell of the innermost frame. -/
theorem get {f : Lev} {a : LV} {r : List (Lev × LV)} (h : VmAt ρ w base bm v1 vW vL vF bF oF cF p limit words lines ((f, a) :: r)) {j : Nat} {u : Value} (hu : (vmCells bF oF f a)[j]? = some u) :
    w.cell? ⟨a.gs, j, none⟩ = some u ∧ w.frozen? ⟨a.gs, j, none⟩ = false ∧ a.gs < w.heap.size := by
  obtain ⟨g, cap, hv, -, -, hl, hc, hf⟩ := row_get h.levs.1.cells hu
  obtain ⟨rfl, -⟩ : a.gs = g ∧ _ := by simpa using hv
  exact ⟨hc, hf, hl⟩
/-- The row of frames, its last one. -/
theorem top {f : Lev} {a : LV} {r : List (Lev × LV)} (h : VmAt ρ w base bm v1 vW vL vF bF oF cF p limit words lines ((f, a) :: r)) :
    ∃ g cap, vF = .slice (some ⟨g, 0, none⟩) (r.length + 1) cap ∧ r.length + 1 ≤ cap ∧ base ≤ g ∧ g < w.heap.size ∧ w.cell? ⟨g, r.length, none⟩ = some (.pointer (some ⟨a.gs, 0, none⟩)) ∧ w.frozen? ⟨g, r.length, none⟩ = false := by
  obtain ⟨aC, cC, hv, hle, -⟩ := row_slice h.rF
  obtain ⟨g, cap, rfl, -, h1, h2, h3, h4⟩ := row_get h.rF (i := r.length) (u := .pointer (some ⟨a.gs, 0, none⟩)) (by
    show (vmRow r ++ [_])[r.length]? = _
    rw [List.getElem?_append_right (by rw [vmRow_length]; omega), vmRow_length, Nat.sub_self]
    rfl)
  have : cap = cC := by simpa using (Value.slice.inj hv).2.2
  exact ⟨g, cap, rfl, by rw [this]; simpa using hle, h1, h2, h3, h4⟩
/-- A cell of the machine, with what it is for, is set anew. -/
theorem setM (h : VmAt ρ w base bm v1 vW vL vF bF oF cF p limit words lines fr) (j : Nat) (u : Value) (hj : j < 6) {vW' vL' vF' : Value} {words' : List Int} {lines' : List ByteArray} {fr' : List (Lev × LV)}
    (k2 : j ≠ 2 → vW' = vW) (k4 : j ≠ 4 → vF' = vF) (k5 : j ≠ 5 → vL' = vL) (u2 : j = 2 → u = vW') (u4 : j = 4 → u = vF') (u5 : j = 5 → u = vL') (hj0 : 2 ≤ j) (hj3 : j ≠ 3)
    (lw : ∀ k, vW'.ownBlock = some k → ρ k = some .w) (ll : ∀ k, vL'.ownBlock = some k → ρ k = some .l) (lc : ∀ k, vF'.ownBlock = some k → ρ k = some .c)
    (oW : w.ownsRow base 3 1 vW' words'.length (words'.map (Value.int .i64))) (oL : w.ownsRow base 9 1 vL' lines'.length (lines'.map Value.string)) (oF' : w.ownsRow base 114 1 vF' fr'.length (vmRow fr')) (lv : LevsVm ρ w base bF oF fr') :
    VmAt ρ (w.setCell ⟨bm, j, none⟩ u) base bm v1 vW' vL' vF' bF oF cF p limit words' lines' fr' := by
  have hs := Since.setCell w ⟨bm, j, none⟩ u
  have hB : ∀ k, k = bm → base ≤ k := fun k e => by rw [e]; exact h.lm.2.1
  have hl : ∀ lb, lb ≠ .s → ∀ k, k = bm → ρ k ≠ some lb := fun lb hl k e => by rw [e, h.lm.1]; intro h; exact hl (Option.some.inj h).symm
  have get : ∀ i v, w.cell? ⟨bm, i, none⟩ = some v → i ≠ j → (w.setCell ⟨bm, j, none⟩ u).cell? ⟨bm, i, none⟩ = some v := fun i v hv hn => by
    rw [World.cell?_setCell_other (h := by simp <;> omega)]; exact hv
  refine { prog := Good.kept ((hs.keep).weaken (fun k _ hk e => absurd (hB k e) (by omega))) h.prog, c0 := get _ _ h.c0 (by omega), c1 := get _ _ h.c1 (by omega), c2 := ?_, c3 := get _ _ h.c3 (by omega), c4 := ?_, c5 := ?_, z := fun j' => (by rw [World.frozen?_setCell]; exact h.z j'), lm := ⟨h.lm.1, h.lm.2.1, (by simp; exact h.lm.2.2)⟩, lw := lw, ll := ll, lc := lc, oW := hs.row oW (fun k hk e => hl .w (by simp) k e (lw k hk)), oL := hs.row oL (fun k hk e => hl .l (by simp) k e (ll k hk)), rF := hs.row oF' (fun k hk e => hl .c (by simp) k e (lc k hk)), levs := LevsVm.since hs hB lv (fun k i e _ => ⟨hl _ (by simp) k e, hl _ (by simp) k e⟩), big := (by simp; exact h.big), below := h.below.trans (hs.below h.big hB) }
  · by_cases e : j = 2
    · subst e; rw [← u2 rfl]; exact World.cell?_setCell_same _ _ _ h.c2
    · rw [k2 e]; exact get _ _ h.c2 (by omega)
  · by_cases e : j = 4
    · subst e; rw [← u4 rfl]; exact World.cell?_setCell_same _ _ _ h.c4
    · rw [k4 e]; exact get _ _ h.c4 (by omega)
  · by_cases e : j = 5
    · subst e; rw [← u5 rfl]; exact World.cell?_setCell_same _ _ _ h.c5
    · rw [k5 e]; exact get _ _ h.c5 (by omega)
/-- A register of the innermost frame is set. -/
theorem setR {f : Lev} {a : LV} {r : List (Lev × LV)} (h : VmAt ρ w base bm v1 vW vL vF bF oF cF p limit words lines ((f, a) :: r)) (d : Nat) (x : Int) (hd : d < f.vars.length) :
    VmAt ρ (w.setCell ⟨a.gs, 1 + d, none⟩ (.int .i64 x)) base bm v1 vW vL vF bF oF cF p limit words lines (({ f with vars := f.vars.set d x }, a) :: r) := by
  refine h.setC (1 + d) (.int .i64 x) rfl (by simp) rfl ?_
  unfold vmCells
  rw [Nat.add_comm 1 d, List.set_cons_succ, List.set_append_left _ _ (by simp; omega), List.map_append, List.set_append_left _ _ (by simpa using hd), ← List.map_set, ← List.map_append]
end VmAt
end Go.Proofs.YtaomlfbcfmmhlaaDoor

/-
  vm's machine: its words or its lines turn.
-/
namespace Go.Proofs.YtaomlfbcfmmhlaaDoor
open Go.RowKit Go.Pst
set_option linter.unusedVariables false
set_option linter.unusedSimpArgs false

theorem VmAt.turn [Old] {ρ : Nat → Option Lab} {w w2 : World} {base bm : Nat} {v1 vW vL vF : Value} {bF oF cF : Nat} {p : PProg} {limit : Int} {words : List Int} {lines : List ByteArray} {fr : List (Lev × LV)} {F : Nat → Prop}
    (h : VmAt ρ w base bm v1 vW vL vF bF oF cF p limit words lines fr) (s2 : Since F w w2) (j : Nat) (hj : j = 2 ∨ j = 5) (u : Value) {vW' vL' : Value} {words' : List Int} {lines' : List ByteArray}
    (hF : ∀ k, F k → (j = 2 ∧ vW.ownBlock = some k) ∨ (j = 5 ∧ vL.ownBlock = some k)) (kW : j ≠ 2 → vW' = vW ∧ words' = words) (kL : j ≠ 5 → vL' = vL ∧ lines' = lines) (uW : j = 2 → u = vW') (uL : j = 5 → u = vL')
    (oW : j = 2 → w2.ownsRow base 3 1 vW' words'.length (words'.map (Value.int .i64))) (oL : j = 5 → w2.ownsRow base 9 1 vL' lines'.length (lines'.map Value.string))
    (nW : j = 2 → ∀ k, vW'.ownBlock = some k → vW.ownBlock = some k ∨ w.heap.size ≤ k) (nL : j = 5 → ∀ k, vL'.ownBlock = some k → vL.ownBlock = some k ∨ w.heap.size ≤ k) :
    ∃ ρ', VmAt ρ' (w2.setCell ⟨bm, j, none⟩ u) base bm v1 vW' vL' vF bF oF cF p limit words' lines' fr := by
  have lab : ∀ k, F k → (j = 2 ∧ ρ k = some .w) ∨ (j = 5 ∧ ρ k = some .l) := fun k e => (hF k e).imp (fun h' => ⟨h'.1, h.lw k h'.2⟩) (fun h' => ⟨h'.1, h.ll k h'.2⟩)
  have nbF : ¬ F bm := fun e => by rcases lab bm e with ⟨-, e⟩ | ⟨-, e⟩ <;> rw [h.lm.1] at e <;> simp at e
  have hltF : ∀ k, F k → base ≤ k ∧ k < w.heap.size := fun k e => by
    rcases hF k e with ⟨-, e⟩ | ⟨-, e⟩
    · exact h.oW.lt k e
    · exact h.oL.lt k e
  have s4 := Since.setCell w2 ⟨bm, j, none⟩ u
  have s5 : Since (fun k => F k ∨ k = bm) w (w2.setCell ⟨bm, j, none⟩ u) := (s2.mono (fun _ e => Or.inl e)).trans (s4.mono (fun _ e => Or.inr e))
  have hB : ∀ k, (F k ∨ k = bm) → base ≤ k := fun k e => by
    rcases e with e | e
    · exact (hltF k e).1
    · rw [e]; exact h.lm.2.1
  have h1 := h.label (ρ' := fun k => if k < w.heap.size then ρ k else if j = 2 then some .w else some .l) (fun k hk => by simp [hk])
  have lab1 : ∀ k, (F k ∨ k = bm) → (if k < w.heap.size then ρ k else if j = 2 then some Lab.w else some Lab.l) = some .w ∨ (if k < w.heap.size then ρ k else if j = 2 then some Lab.w else some Lab.l) = some .l ∨ (if k < w.heap.size then ρ k else if j = 2 then some Lab.w else some Lab.l) = some .s := fun k e => by
    rcases e with e | e
    · simp only [(hltF k e).2, if_true]
      rcases lab k e with ⟨-, e⟩ | ⟨-, e⟩
      · exact Or.inl e
      · exact Or.inr (Or.inl e)
    · rw [e]
      simp only [h.lm.2.2, if_true]
      exact Or.inr (Or.inr h.lm.1)
  have get : ∀ i v, w.cell? ⟨bm, i, none⟩ = some v → i ≠ j → (w2.setCell ⟨bm, j, none⟩ u).cell? ⟨bm, i, none⟩ = some v := fun i v hv hn => by
    rw [World.cell?_setCell_other (h := by simp <;> omega)]
    exact (s2.cell h.lm.2.2 nbF).trans hv
  have hlw : ∀ k, vW'.ownBlock = some k → (if k < w.heap.size then ρ k else if j = 2 then some Lab.w else some Lab.l) = some .w := fun k hk => by
    by_cases e : j = 2
    · rcases nW e k hk with e1 | e1
      · simp only [(h.oW.lt k e1).2, if_true]; exact h.lw k e1
      · simp [show ¬ k < w.heap.size by omega, e]
    · rw [(kW e).1] at hk
      simp only [(h.oW.lt k hk).2, if_true]; exact h.lw k hk
  have hll : ∀ k, vL'.ownBlock = some k → (if k < w.heap.size then ρ k else if j = 2 then some Lab.w else some Lab.l) = some .l := fun k hk => by
    by_cases e : j = 5
    · rcases nL e k hk with e1 | e1
      · simp only [(h.oL.lt k e1).2, if_true]; exact h.ll k e1
      · simp [show ¬ k < w.heap.size by omega, e]
    · rw [(kL e).1] at hk
      simp only [(h.oL.lt k hk).2, if_true]; exact h.ll k hk
  have bmL : (if bm < w.heap.size then ρ bm else if j = 2 then some Lab.w else some Lab.l) = some .s := by simp only [h.lm.2.2, if_true]; exact h.lm.1
  have oW2 : w2.ownsRow base 3 1 vW' words'.length (words'.map (Value.int .i64)) := by
    by_cases e : j = 2
    · exact oW e
    · rw [(kW e).1, (kW e).2]
      exact h.sW s2 (fun k e' => by rcases lab k e' with ⟨e1, -⟩ | ⟨-, e1⟩; exact absurd e1 e; rw [e1]; simp)
  have oL2 : w2.ownsRow base 9 1 vL' lines'.length (lines'.map Value.string) := by
    by_cases e : j = 5
    · exact oL e
    · rw [(kL e).1, (kL e).2]
      exact h.sL s2 (fun k e' => by rcases lab k e' with ⟨-, e1⟩ | ⟨e1, -⟩; rw [e1]; simp; exact absurd e1 e)
  refine ⟨_, { prog := Good.kept ((s5.keep).weaken (fun k _ hk e => absurd (hB k e) (by omega))) h.prog
               c0 := get _ _ h.c0 (by omega)
               c1 := get _ _ h.c1 (by omega)
               c2 := ?_
               c3 := get _ _ h.c3 (by omega)
               c4 := get _ _ h.c4 (by omega)
               c5 := ?_
               z := fun i => (by rw [World.frozen?_setCell]; exact (s2.frozen h.lm.2.2 nbF).trans (h.z i))
               lm := ⟨bmL, h.lm.2.1, Nat.lt_of_lt_of_le h.lm.2.2 s5.size⟩
               lw := hlw
               ll := hll
               lc := h1.lc
               oW := s4.row oW2 (fun k hk e => by have := hlw k hk; rw [show k = bm from e, bmL] at this; simp at this)
               oL := s4.row oL2 (fun k hk e => by have := hll k hk; rw [show k = bm from e, bmL] at this; simp at this)
               rF := s5.row h.rF (fun k hk e => by have h2 := h1.lc k hk; rcases lab1 k e with e | e | e <;> rw [e] at h2 <;> simp at h2)
               levs := LevsVm.since s5 hB h1.levs (fun k i e hi => by rcases lab1 k e with e | e | e <;> simp only [e] <;> simp)
               big := Nat.le_trans h.big s5.size
               below := h.below.trans (s5.below h.big hB) }⟩
  · by_cases e : j = 2
    · subst e; rw [← uW rfl]; exact World.cell?_setCell_same _ _ _ ((s2.cell h.lm.2.2 nbF).trans h.c2)
    · rw [(kW e).1]; exact get _ _ h.c2 (by omega)
  · by_cases e : j = 5
    · subst e; rw [← uL rfl]; exact World.cell?_setCell_same _ _ _ ((s2.cell h.lm.2.2 nbF).trans h.c5)
    · rw [(kL e).1]; exact get _ _ h.c5 (by omega)

end Go.Proofs.YtaomlfbcfmmhlaaDoor

/-
  vm's machine: the closures that read and set a register, the slots that an instruction names.
-/
namespace Go.Proofs.YtaomlfbcfmmhlaaDoor
open Go.RowKit Go.Pst
set_option linter.unusedVariables false
set_option linter.unusedSimpArgs false

theorem reg_any (w : World) (lf li gs bA oA cA n m k : Nat) (x : Int) (hn : n < m) (hm : m ≤ 9223372036854775807) (hk : k < 8)
    (c1 : w.cell? ⟨lf, 0, none⟩ = some (.pointer (some ⟨gs, 0, none⟩))) (c2 : w.cell? ⟨li, 2, none⟩ = some (.slice (some ⟨bA, oA, none⟩) m cA)) (c3 : w.cell? ⟨bA, oA + n, none⟩ = some (.int .i64 (k : Int))) (c4 : w.cell? ⟨gs, 1 + k, none⟩ = some (.int .i64 x)) :
    Calls Tryd.prog 117 #[.int .i64 (n : Int), .pointer (some ⟨lf, 0, none⟩), .pointer (some ⟨li, 0, none⟩)] w fun e w' => e = .returned (.int .i64 x) ∧ Drawn w w' := by
  have h1 : (n : Int) < (m : Int) := by omega
  have h2 : (k : Int) < 8 := by omega
  have h3 : (0 : Int) ≤ (n : Int) := by omega
  have h4 : (0 : Int) ≤ (k : Int) := by omega
  go_enter Tryd.func117, Tryd.ntmps117
  go_wp2_with fail
  go_quiet (fail)
  go_wp2_with fail
  go_ret
  exact ⟨rfl, _, rfl⟩
theorem set_any (w : World) (lf li gs bD oD cD k : Nat) (v x : Int) (hk : k < 8) (n1 : lf ≠ gs) (n2 : li ≠ gs) (n3 : bD ≠ gs)
    (c1 : w.cell? ⟨lf, 0, none⟩ = some (.pointer (some ⟨gs, 0, none⟩))) (c2 : w.cell? ⟨li, 1, none⟩ = some (.slice (some ⟨bD, oD, none⟩) 1 cD)) (c3 : w.cell? ⟨bD, oD, none⟩ = some (.int .i64 (k : Int))) (c4 : w.cell? ⟨gs, 1 + k, none⟩ = some (.int .i64 x)) (c5 : w.frozen? ⟨gs, 1 + k, none⟩ = false) (hl : gs < w.heap.size) :
    Calls Tryd.prog 118 #[.int .i64 v, .pointer (some ⟨lf, 0, none⟩), .pointer (some ⟨li, 0, none⟩)] w fun e w' => e = .returned (.tuple #[]) ∧ w' = (w.setCell ⟨gs, 1 + k, none⟩ (.int .i64 v)).drew := by
  have h2 : (k : Int) < 8 := by omega
  have h4 : (0 : Int) ≤ (k : Int) := by omega
  have hkk : ∀ b o u, ¬ b = gs → (w.setCell ⟨gs, 1 + k, none⟩ u).cell? ⟨b, o, none⟩ = w.cell? ⟨b, o, none⟩ := fun b o u hb => World.cell?_of_block (w := w) (Below.heap_setCell _ _ _ _ hb)
  have k0 := fun u => (hkk lf 0 u n1).trans c1
  have k1 := fun u => (hkk li 1 u n2).trans c2
  have k2 := fun u => (hkk bD oD u n3).trans c3
  clear hkk
  go_enter Tryd.func118, Tryd.ntmps118
  go_wp2_with fail
  go_region_held3 (fun w' => w'.cell? ⟨lf, 0, none⟩ = some (.pointer (some ⟨gs, 0, none⟩)) ∧ w'.cell? ⟨li, 1, none⟩ = some (.slice (some ⟨bD, oD, none⟩) 1 cD) ∧ w'.cell? ⟨bD, oD, none⟩ = some (.int .i64 (k : Int))) (go_keep) (fail)
  all_goals go_wp2_with fail
  go_end0
  exact ⟨rfl, rfl⟩
end Go.Proofs.YtaomlfbcfmmhlaaDoor

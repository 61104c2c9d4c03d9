/-
  ir.checkInstr: the contract.
-/
import Derived.Test.YthgfdcoicihpdaaDoorIrInvoke
import Derived.Deep.CutBlock
namespace Go.Proofs.YthgfdcoicihpdaaDoor
open Go.RowKit Go.Pst
set_option linter.unusedVariables false

/-- What the test on the counts says. -/
def badCount (x : PInstr) : Prop := let r := ruleF x.op.toNat
  (0 ≤ r.1 ∧ (x.ds.length : Int) ≠ r.1) ∨ (0 ≤ r.2.1 ∧ (x.ars.length : Int) ≠ r.2.1) ∨ (0 ≤ r.2.2 ∧ (x.to.length : Int) ≠ r.2.2) ∨ (x.op = 11 ∧ x.to.length = 0)
theorem badCount_iff {x : PInstr} {k : Nat} (h : x.op = (k : Int)) (h1 : 1 ≤ k) (h2 : k ≤ 13) : ∃ d a t, arity x = some (d, a, t) ∧ (badCount x ↔ (x.ds.length ≠ d ∨ x.ars.length ≠ a ∨ x.to.length ≠ t)) := by
  have hk : k = 1 ∨ k = 2 ∨ k = 3 ∨ k = 4 ∨ k = 5 ∨ k = 6 ∨ k = 7 ∨ k = 8 ∨ k = 9 ∨ k = 10 ∨ k = 11 ∨ k = 12 ∨ k = 13 := by omega
  have fin : ∀ (r0 r1 r2 : Int) (d a t : Nat), ruleF k = (r0, r1, r2) → ((0 ≤ r0 ∧ (x.ds.length : Int) ≠ r0) ∨ (0 ≤ r1 ∧ (x.ars.length : Int) ≠ r1) ∨ (0 ≤ r2 ∧ (x.to.length : Int) ≠ r2) ∨ (k = 11 ∧ x.to.length = 0) ↔ (x.ds.length ≠ d ∨ x.ars.length ≠ a ∨ x.to.length ≠ t)) → (badCount x ↔ (x.ds.length ≠ d ∨ x.ars.length ≠ a ∨ x.to.length ≠ t)) := by
    intro r0 r1 r2 d a t hr e
    rw [← e]
    unfold badCount
    rw [h]
    simp only [Int.toNat_natCast, hr]
    have : ((k : Int) = 11) ↔ k = 11 := by omega
    rw [this]
  rcases hk with rfl | rfl | rfl | rfl | rfl | rfl | rfl | rfl | rfl | rfl | rfl | rfl | rfl
  · exact ⟨1, 0, 0, by simp [arity, h], fin 1 0 0 1 0 0 rfl (by omega)⟩
  · exact ⟨1, 1, 0, by simp [arity, h], fin 1 1 0 1 1 0 rfl (by omega)⟩
  · exact ⟨1, 2, 0, by simp [arity, h], fin 1 2 0 1 2 0 rfl (by omega)⟩
  · exact ⟨1, 1, 0, by simp [arity, h], fin 1 1 0 1 1 0 rfl (by omega)⟩
  · exact ⟨0, 2, 0, by simp [arity, h], fin 0 2 0 0 2 0 rfl (by omega)⟩
  · exact ⟨1, 1, 0, by simp [arity, h], fin 1 1 0 1 1 0 rfl (by omega)⟩
  · exact ⟨x.ds.length, x.ars.length, 0, by simp [arity, h], fin (-1) (-1) 0 x.ds.length x.ars.length 0 rfl (by omega)⟩
  · exact ⟨0, x.ars.length, 0, by simp [arity, h], fin 0 (-1) 0 0 x.ars.length 0 rfl (by omega)⟩
  · exact ⟨0, 0, 1, by simp [arity, h], fin 0 0 1 0 0 1 rfl (by omega)⟩
  · exact ⟨0, 1, 2, by simp [arity, h], fin 0 1 2 0 1 2 rfl (by omega)⟩
  · by_cases ht : x.to.length = 0
    · exact ⟨0, 1, 1, by simp [arity, h, ht], fin 0 1 (-1) 0 1 1 rfl (by omega)⟩
    · exact ⟨0, 1, x.to.length, by simp [arity, h, ht], fin 0 1 (-1) 0 1 x.to.length rfl (by omega)⟩
  · exact ⟨0, x.ars.length, 0, by simp [arity, h], fin 0 (-1) 0 0 x.ars.length 0 rfl (by omega)⟩
  · exact ⟨0, 0, 0, by simp [arity, h], fin 0 0 0 0 0 0 rfl (by omega)⟩
theorem stage (n : Nat) (r : Int) : (decide (r ≥ 0) = true ∧ ((n : Int) != r) = true ∧ (0 ≤ r ∧ (n : Int) ≠ r)) ∨ (decide (r ≥ 0) = false ∧ ¬ (0 ≤ r ∧ (n : Int) ≠ r)) ∨ (decide (r ≥ 0) = true ∧ ((n : Int) != r) = false ∧ ¬ (0 ≤ r ∧ (n : Int) ≠ r)) := by
  by_cases h : 0 ≤ r
  · by_cases e : (n : Int) = r
    · exact Or.inr (Or.inr ⟨decide_eq_true h, by simpa using e, fun h => h.2 e⟩)
    · exact Or.inl ⟨decide_eq_true h, by simpa using e, h, e⟩
  · exact Or.inr (Or.inl ⟨decide_eq_false h, fun h' => h h'.1⟩)
open Classical in
noncomputable def badB (x : PInstr) : Bool := decide (badCount x)
theorem badB_t {x : PInstr} (h : badCount x) : badB x = true := by unfold badB; simpa using h
theorem badB_f {x : PInstr} (h : ¬ badCount x) : badB x = false := by unfold badB; simpa using h

set_option maxRecDepth 4000 in
set_option maxHeartbeats 2000000 in
theorem irInstr_any (fs : List PCode) (p0 p1 : Value) (c : PCode) (ccs : List Value) (x : PInstr) (xcs : List Value) (w : World) (hp : rCodes (fun _ => True) w [p0] fs)
    (hc : rCode (fun _ => True) w ccs c) (hx : rInstr (fun _ => True) w xcs x) (hv : 0 ≤ c.vars) (hL : IrLaid w) :
    Calls Tryd.prog 38 #[.agg #[p0, p1], .agg ccs.toArray, .agg xcs.toArray] w fun e w' => e = .returned (.int .i64 (instrFaultF fs c.vars c.results c.blocks.length x)) ∧ Below w.heap.size w w' := by
  have Hx := Lib.hid hx
  obtain ⟨v5, rfl, ⟨-, -, hres, hvars, -⟩, hbs⟩ := hc
  obtain ⟨v1, v2, v6, rfl, ⟨hop, hn, hs⟩, h1, h2, h6⟩ := hx
  obtain ⟨a5, c5, rfl, hcap5, hmax5, -⟩ := rSlice_one hbs
  obtain ⟨a1, c1, rfl, hl1, hat1, -⟩ := rInts_open h1
  obtain ⟨a2, c2, rfl, hl2, hat2, -⟩ := rInts_open h2
  obtain ⟨a6, c6, rfl, hl6, hat6, -⟩ := rInts_open h6
  unfold maxLen at hmax5
  have hnb : c.blocks.length ≤ 9223372036854775807 := by omega
  have hvi := hvars.2
  clear hbs h1 h2 h6 hcap5 hmax5 hop hn hs hvars hres
  generalize c.blocks.length = nb at *
  generalize hop : x.op = op at *
  generalize c.vars = vars at *
  generalize c.results = results at *
  have HL := Lib.hid hL
  clear hL
  by_cases hlo : op < 1
  · have b1 : decide (op < 1) = true := decide_eq_true hlo
    have ha : arity x = none := by unfold arity; simp only [hop]; repeat rw [if_neg (by omega)]
    have Ha := Lib.hid ha
    clear ha
    go_enter Tryd.func38, Tryd.ntmps38
    go_wp2_with fail
    go_ret
    exact ⟨by unfold instrFaultF; rw [Ha.out]; rfl, below_box3 _ _ _ _⟩
  have b1 : decide (op < 1) = false := decide_eq_false hlo
  by_cases hhi : 13 < op
  · have b2 : decide (op > 13) = true := decide_eq_true hhi
    have ha : arity x = none := by unfold arity; simp only [hop]; repeat rw [if_neg (by omega)]
    have Ha := Lib.hid ha
    clear ha
    go_enter Tryd.func38, Tryd.ntmps38
    go_wp2_with fail
    go_ret
    exact ⟨by unfold instrFaultF; rw [Ha.out]; rfl, below_box3 _ _ _ _⟩
  have b2 : decide (op > 13) = false := decide_eq_false (by omega)
  obtain ⟨k, rfl⟩ : ∃ k : Nat, op = (k : Int) := ⟨op.toNat, by omega⟩
  obtain ⟨r0, r1, r2⟩ := HL.out.rules k (by omega)
  have g0 := HL.out.lt.1
  have hk14 : (k : Int) < 14 := by omega
  go_enter Tryd.func38, Tryd.ntmps38
  go_upto_region 4 with fail
  go_cut [69] from 22 to 69 (fun s69 wx => s69 = .bool (badB x) ∧ wx = (((w.alloc (.cells #[p0, p1] 25)).alloc (.cells #[.string c.name, .int .i64 c.params, .int .i64 results, .int .i64 vars, .int .i64 c.slots, .slice a5 nb c5] 28)).alloc
        (.cells #[.int .i64 k, .slice a1 x.ds.length c1, .slice a2 x.ars.length c2, .int .i64 x.n, .string x.s, .slice a6 x.to.length c6] 41)).alloc (.cells #[.int .i64 (ruleF k).1, .int .i64 (ruleF k).2.1, .int .i64 (ruleF k).2.2] 75))
  case first =>
    have hkt : x.op.toNat = k := by omega
    have Hkt := Lib.hid hkt
    have Hop := Lib.hid hop
    clear hop hkt HL Hx hp hat1 hat2 hat6 r0 r1 r2
    rcases stage x.ds.length (ruleF k).1 with ⟨q1, q2, hb⟩ | ⟨q1, hb⟩ | ⟨q1, q2, hb⟩
    · have Hb := Lib.hid (badB_t (x := x) (by unfold badCount; rw [Hkt.out]; exact Or.inl hb))
      clear hb
      go_wp2_with fail
      go_meet
      case rel => exact ⟨by rw [Hb.out], rfl⟩
    all_goals
      have Hb1 := Lib.hid hb
      clear hb
    all_goals
      rcases stage x.ars.length (ruleF k).2.1 with ⟨q3, q4, hb⟩ | ⟨q3, hb⟩ | ⟨q3, q4, hb⟩
      · have Hb := Lib.hid (badB_t (x := x) (by unfold badCount; rw [Hkt.out]; exact Or.inr (Or.inl hb)))
        clear hb
        go_wp2_with fail
        go_meet
        case rel => exact ⟨by rw [Hb.out], rfl⟩
      all_goals
        have Hb2 := Lib.hid hb
        clear hb
    all_goals
      rcases stage x.to.length (ruleF k).2.2 with ⟨q5, q6, hb⟩ | ⟨q5, hb⟩ | ⟨q5, q6, hb⟩
      · have Hb := Lib.hid (badB_t (x := x) (by unfold badCount; rw [Hkt.out]; exact Or.inr (Or.inr (Or.inl hb))))
        clear hb
        go_wp2_with fail
        go_meet
        case rel => exact ⟨by rw [Hb.out], rfl⟩
      all_goals
        have Hb3 := Lib.hid hb
        clear hb
    all_goals
      by_cases h11 : k = 11
      case neg =>
        have o11 : ((k : Int) == 11) = false := by simpa using (show ¬ (k : Int) = 11 by omega)
        have Hb := Lib.hid (badB_f (x := x) (by
          unfold badCount; rw [Hkt.out]
          exact fun h => h.elim Hb1.out (fun h => h.elim Hb2.out (fun h => h.elim Hb3.out (fun h => h11 (by have := Hop.out; omega))))))
        clear h11
        go_wp2_with fail
        go_meet
        case rel => exact ⟨by rw [Hb.out], rfl⟩
      case pos =>
        have o11 : ((k : Int) == 11) = true := by simpa using (show (k : Int) = 11 by omega)
        by_cases ht : x.to.length = 0
        · have t0 : ((x.to.length : Int) == 0) = true := by simpa using ht
          have Hb := Lib.hid (badB_t (x := x) (by unfold badCount; exact Or.inr (Or.inr (Or.inr ⟨by have := Hop.out; omega, ht⟩))))
          clear h11 ht
          go_wp2_with fail
          go_meet
          case rel => exact ⟨by rw [Hb.out], rfl⟩
        · have t0 : ((x.to.length : Int) == 0) = false := by simpa using ht
          have Hb := Lib.hid (badB_f (x := x) (by
            unfold badCount; rw [Hkt.out]
            exact fun h => h.elim Hb1.out (fun h => h.elim Hb2.out (fun h => h.elim Hb3.out (fun h => ht h.2)))))
          clear h11 ht
          go_wp2_with fail
          go_meet
          case rel => exact ⟨by rw [Hb.out], rfl⟩
  case rest =>
    obtain ⟨rfl, hw⟩ := hcut
    have hbel : Below w.heap.size w wc := by rw [hw]; exact (below_box3 _ _ _ _).alloc (by simp; omega) _
    have hsz : wc.heap.size = w.heap.size + 4 := by rw [hw]; simp
    have ex : ∀ (b j : Nat), b < w.heap.size + 3 → wc.cell? ⟨b, j, none⟩ = (((w.alloc (.cells #[p0, p1] 25)).alloc (.cells #[.string c.name, .int .i64 c.params, .int .i64 results, .int .i64 vars, .int .i64 c.slots, .slice a5 nb c5] 28)).alloc
        (.cells #[.int .i64 k, .slice a1 x.ds.length c1, .slice a2 x.ars.length c2, .int .i64 x.n, .string x.s, .slice a6 x.to.length c6] 41)).cell? ⟨b, j, none⟩ := fun b j hb => by rw [hw]; exact World.cell?_alloc_lt _ _ _ (by simp; omega)
    have bp0 : wc.cell? ⟨w.heap.size, 0, none⟩ = some p0 := by rw [ex _ _ (by omega), box3_1]; rfl
    have bp1 : wc.cell? ⟨w.heap.size, 1, none⟩ = some p1 := by rw [ex _ _ (by omega), box3_1]; rfl
    have bc2 : wc.cell? ⟨w.heap.size + 1, 2, none⟩ = some (.int .i64 results) := by rw [ex _ _ (by omega), box3_2]; rfl
    have bc3 : wc.cell? ⟨w.heap.size + 1, 3, none⟩ = some (.int .i64 vars) := by rw [ex _ _ (by omega), box3_2]; rfl
    have bc5 : wc.cell? ⟨w.heap.size + 1, 5, none⟩ = some (.slice a5 nb c5) := by rw [ex _ _ (by omega), box3_2]; rfl
    have bx0 : wc.cell? ⟨w.heap.size + 1 + 1, 0, none⟩ = some (.int .i64 k) := by rw [ex _ _ (by omega), box3_3]; rfl
    have bx1 : wc.cell? ⟨w.heap.size + 1 + 1, 1, none⟩ = some (.slice a1 x.ds.length c1) := by rw [ex _ _ (by omega), box3_3]; rfl
    have bx2 : wc.cell? ⟨w.heap.size + 1 + 1, 2, none⟩ = some (.slice a2 x.ars.length c2) := by rw [ex _ _ (by omega), box3_3]; rfl
    have bx3 : wc.cell? ⟨w.heap.size + 1 + 1, 3, none⟩ = some (.int .i64 x.n) := by rw [ex _ _ (by omega), box3_3]; rfl
    have bx4 : wc.cell? ⟨w.heap.size + 1 + 1, 4, none⟩ = some (.string x.s) := by rw [ex _ _ (by omega), box3_3]; rfl
    have bx5 : wc.cell? ⟨w.heap.size + 1 + 1, 5, none⟩ = some (.slice a6 x.to.length c6) := by rw [ex _ _ (by omega), box3_3]; rfl
    clear hw ex r0 r1 r2
    have Hlow := Lib.hid hbel
    obtain ⟨d, a, t, har, hbc⟩ := badCount_iff hop (by omega) (by omega)
    by_cases hbad : badCount x
    · have Hb := Lib.hid (hbc.1 hbad)
      have Har := Lib.hid har
      rw [badB_t hbad]
      clear hbc hbad har hat1 hat2 hat6 hp Hx HL
      go_wp2_with fail
      go_ret
      exact ⟨by rw [instrFaultF_count Har.out Hb.out]; rfl, Hlow.out⟩
    rw [badB_f hbad]
    have har' : arity x = some (x.ds.length, x.ars.length, x.to.length) := by
      rw [har]
      have : ¬ (x.ds.length ≠ d ∨ x.ars.length ≠ a ∨ x.to.length ≠ t) := fun h => hbad (hbc.2 h)
      obtain ⟨rfl, rfl, rfl⟩ : x.ds.length = d ∧ x.ars.length = a ∧ x.to.length = t := by omega
      rfl
    have Har := Lib.hid har'
    clear har har' hbc hbad
    have Hp := Lib.hid (Good.keep (S' := fun _ => True) (Keep.of_below' hbel (fun k hk _ => hk)) (fun _ _ h => h) hp)
    have Hx2 := Lib.hid (Good.keep (S' := fun _ => True) (Keep.of_below' hbel (fun k hk _ => hk)) (fun _ _ h => h) Hx.out)
    have HL2 := Lib.hid (HL.out.below hbel)
    have en1 := enters_of (P := Tryd.prog) Tryd.func46 (by kernel_rfl) (by kernel_rfl)
    have en2 := enters_of (P := Tryd.prog) Tryd.func47 (by kernel_rfl) (by kernel_rfl)
    have F1 := Lib.hid (fun cc => containsFunc_ints 46 #[.pointer (some ⟨w.heap.size + 1, 0, none⟩)] (oddF vars) a1 x.ds cc wc hl1 (hat1.below hbel) en1 (odd1_answers vars x.ds wc _ bc3))
    have F2 := Lib.hid (fun cc n => containsFunc_ints 46 #[.pointer (some ⟨w.heap.size + 1, 0, none⟩)] (oddF vars) a2 x.ars cc (wc.drewN n) hl2 ((hat2.below hbel).heap rfl) en1 ((odd1_answers vars x.ars wc _ bc3).later ⟨n, rfl⟩))
    have F6 := Lib.hid (fun cc n => containsFunc_ints 47 #[.pointer (some ⟨w.heap.size + 1, 0, none⟩)] (oddF nb) a6 x.to cc (wc.drewN n) hl6 ((hat6.below hbel).heap rfl) en2 ((odd2_answers nb x.to wc _ _ _ hnb bc5).later ⟨n, rfl⟩))
    clear en1 en2 hat1 hat2 hat6 hp Hx HL hbel
    go_wp2_with fail
    refine (F1.out _).mono ?_
    rintro e w1 ⟨rfl, n1, rfl⟩
    rw [any_oddF]
    cases q1 : inAll x.ds vars with
    | false =>
      have Q1 := Lib.hid q1
      clear q1
      go_wp2_with fail
      go_ret
      exact ⟨by rw [instrFaultF_range Har.out (by rw [Q1.out]; rfl)]; rfl, Hlow.out.trans (Drawn.below (w := wc) ⟨_, rfl⟩ _)⟩
    | true =>
    have Q1 := Lib.hid q1
    clear q1
    go_wp2_with fail
    refine (F2.out _ _).mono ?_
    rintro e w1 ⟨rfl, n2, rfl⟩
    rw [any_oddF, World.drewN_drewN]
    generalize n1 + n2 = n2 at *
    cases q2 : inAll x.ars vars with
    | false =>
      have Q2 := Lib.hid q2
      clear q2
      go_wp2_with fail
      go_ret
      exact ⟨by rw [instrFaultF_range Har.out (by rw [Q2.out]; simp)]; rfl, Hlow.out.trans (Drawn.below (w := wc) ⟨_, rfl⟩ _)⟩
    | true =>
    have Q2 := Lib.hid q2
    clear q2
    go_wp2_with fail
    refine (F6.out _ _).mono ?_
    rintro e w1 ⟨rfl, n3, rfl⟩
    rw [any_oddF, World.drewN_drewN]
    cases q6 : inAll x.to nb with
    | false =>
      have Q6 := Lib.hid q6
      clear q6
      go_wp2_with fail
      go_ret
      exact ⟨by rw [instrFaultF_range Har.out (by rw [Q6.out]; simp)]; rfl, Hlow.out.trans (Drawn.below (w := wc) ⟨_, rfl⟩ _)⟩
    | true =>
    have Q6 := Lib.hid q6
    clear q6
    have hgood := instrFaultF_good (fs := fs) (vars := vars) (results := results) (nb := nb) Har.out (by rw [Q1.out, Q2.out, Q6.out]; rfl)
    have Hg := Lib.hid hgood
    clear hgood Har Q1 Q2 Q6 F1 F2 F6
    generalize n2 + n3 = nn at *
    have Hdr := Lib.hid (Drawn.below (w := wc) (w' := wc.drewN nn) ⟨_, rfl⟩ wc.heap.size)
    by_cases h3 : k = 3
    · subst h3
      obtain ⟨am, cm, hmc, hstr⟩ := HL2.out.maths
      have gm := HL2.out.lt.2
      have Hcs := Lib.hid (containsStr_any x.s am mathsF cm (wc.drewN nn) (by decide) (fun i hi => hstr i hi))
      clear hstr
      go_wp2_with fail
      refine (Hcs.out).mono ?_
      rintro e w1 ⟨rfl, rfl⟩
      cases hm : decide (x.s ∈ mathsF) with
      | false =>
        have Hm := Lib.hid hm
        clear hm
        go_wp2_with fail
        go_ret
        exact ⟨by rw [Hg.out, show x.op = 3 from hop, if_pos rfl, if_neg (of_decide_eq_false Hm.out)]; rfl, Hlow.out.trans (Drawn.below (w := wc) ⟨_, rfl⟩ _)⟩
      | true =>
        have Hm := Lib.hid hm
        clear hm
        go_wp2_with fail
        go_ret
        exact ⟨by rw [Hg.out, show x.op = 3 from hop, if_pos rfl, if_pos (of_decide_eq_true Hm.out)]; rfl, Hlow.out.trans (Drawn.below (w := wc) ⟨_, rfl⟩ _)⟩
    by_cases h8 : k = 8
    · subst h8
      by_cases t1 : x.s = sText
      · have q1 : (x.s.toList == [116, 101, 120, 116]) = true := str_eqc t1
        have T1 := Lib.hid t1
        clear t1
        by_cases l2 : x.ars.length = 2
        · have L2 := Lib.hid l2
          rw [l2] at bx2 ⊢
          go_wp2_with fail
          go_ret
          exact ⟨by rw [Hg.out, show x.op = 8 from hop, if_neg (by decide), if_pos rfl, if_pos T1.out, if_pos L2.out]; rfl, Hlow.out.trans (Drawn.below (w := wc) ⟨_, rfl⟩ _)⟩
        · have lb2 : ((x.ars.length : Int) != 2) = true := by simp; omega
          have L2 := Lib.hid l2
          clear l2
          go_wp2_with fail
          go_ret
          exact ⟨by rw [Hg.out, show x.op = 8 from hop, if_neg (by decide), if_pos rfl, if_pos T1.out, if_neg L2.out]; rfl, Hlow.out.trans (Drawn.below (w := wc) ⟨_, rfl⟩ _)⟩
      · have q1 : (x.s.toList == [116, 101, 120, 116]) = false := str_nec (y := sText) t1
        have T1 := Lib.hid t1
        clear t1
        by_cases t2 : x.s = sInt ∨ x.s = sBool
        · have T2 := Lib.hid t2
          by_cases l2 : x.ars.length = 1
          · have L2 := Lib.hid l2
            rw [l2] at bx2 ⊢
            by_cases t3 : x.s = sInt
            · have q2 : (x.s.toList == [105, 110, 116]) = true := str_eqc (y := sInt) t3
              clear t2 t3
              go_wp2_with fail
              go_ret
              exact ⟨by rw [Hg.out, show x.op = 8 from hop, if_neg (by decide), if_pos rfl, if_neg T1.out, if_pos T2.out, if_pos L2.out]; rfl, Hlow.out.trans (Drawn.below (w := wc) ⟨_, rfl⟩ _)⟩
            · have q2 : (x.s.toList == [105, 110, 116]) = false := str_nec (y := sInt) t3
              have q3 : (x.s.toList == [98, 111, 111, 108]) = true := str_eqc (y := sBool) (t2.resolve_left t3)
              clear t2 t3
              go_wp2_with fail
              go_ret
              exact ⟨by rw [Hg.out, show x.op = 8 from hop, if_neg (by decide), if_pos rfl, if_neg T1.out, if_pos T2.out, if_pos L2.out]; rfl, Hlow.out.trans (Drawn.below (w := wc) ⟨_, rfl⟩ _)⟩
          · have lb2 : ((x.ars.length : Int) != 1) = true := by simp; omega
            have L2 := Lib.hid l2
            clear l2
            by_cases t3 : x.s = sInt
            · have q2 : (x.s.toList == [105, 110, 116]) = true := str_eqc (y := sInt) t3
              clear t2 t3
              go_wp2_with fail
              go_ret
              exact ⟨by rw [Hg.out, show x.op = 8 from hop, if_neg (by decide), if_pos rfl, if_neg T1.out, if_pos T2.out, if_neg L2.out]; rfl, Hlow.out.trans (Drawn.below (w := wc) ⟨_, rfl⟩ _)⟩
            · have q2 : (x.s.toList == [105, 110, 116]) = false := str_nec (y := sInt) t3
              have q3 : (x.s.toList == [98, 111, 111, 108]) = true := str_eqc (y := sBool) (t2.resolve_left t3)
              clear t2 t3
              go_wp2_with fail
              go_ret
              exact ⟨by rw [Hg.out, show x.op = 8 from hop, if_neg (by decide), if_pos rfl, if_neg T1.out, if_pos T2.out, if_neg L2.out]; rfl, Hlow.out.trans (Drawn.below (w := wc) ⟨_, rfl⟩ _)⟩
        · have q2 : (x.s.toList == [105, 110, 116]) = false := str_nec (y := sInt) (fun h => t2 (Or.inl h))
          have q3 : (x.s.toList == [98, 111, 111, 108]) = false := str_nec (y := sBool) (fun h => t2 (Or.inr h))
          have T2 := Lib.hid t2
          clear t2
          go_wp2_with fail
          go_ret
          exact ⟨by rw [Hg.out, show x.op = 8 from hop, if_neg (by decide), if_pos rfl, if_neg T1.out, if_neg T2.out]; rfl, Hlow.out.trans (Drawn.below (w := wc) ⟨_, rfl⟩ _)⟩
    by_cases h12 : k = 12
    · subst h12
      by_cases l2 : (x.ars.length : Int) = results
      · have lb2 : ((x.ars.length : Int) != results) = false := by simpa using l2
        have L2 := Lib.hid l2
        clear l2
        go_wp2_with fail
        go_ret
        exact ⟨by rw [Hg.out, show x.op = 12 from hop, if_neg (by decide), if_neg (by decide), if_pos rfl, if_pos L2.out]; rfl, Hlow.out.trans (Drawn.below (w := wc) ⟨_, rfl⟩ _)⟩
      · have lb2 : ((x.ars.length : Int) != results) = true := by simpa using l2
        have L2 := Lib.hid l2
        clear l2
        go_wp2_with fail
        go_ret
        exact ⟨by rw [Hg.out, show x.op = 12 from hop, if_neg (by decide), if_neg (by decide), if_pos rfl, if_neg L2.out]; rfl, Hlow.out.trans (Drawn.below (w := wc) ⟨_, rfl⟩ _)⟩
    by_cases h13 : k = 13
    · subst h13
      by_cases n2 : x.n < 2
      · have nb2 : decide (x.n < 2) = true := decide_eq_true n2
        have Nn := Lib.hid (show ¬ (2 ≤ x.n ∧ x.n ≤ 5) by omega)
        clear n2
        go_wp2_with fail
        go_ret
        exact ⟨by rw [Hg.out, show x.op = 13 from hop, if_neg (by decide), if_neg (by decide), if_neg (by decide), if_pos rfl, if_neg Nn.out]; rfl, Hlow.out.trans (Drawn.below (w := wc) ⟨_, rfl⟩ _)⟩
      have nb2 : decide (x.n < 2) = false := decide_eq_false n2
      by_cases n5 : 5 < x.n
      · have nb5 : decide (x.n > 5) = true := decide_eq_true n5
        have Nn := Lib.hid (show ¬ (2 ≤ x.n ∧ x.n ≤ 5) by omega)
        clear n2 n5
        go_wp2_with fail
        go_ret
        exact ⟨by rw [Hg.out, show x.op = 13 from hop, if_neg (by decide), if_neg (by decide), if_neg (by decide), if_pos rfl, if_neg Nn.out]; rfl, Hlow.out.trans (Drawn.below (w := wc) ⟨_, rfl⟩ _)⟩
      have nb5 : decide (x.n > 5) = false := decide_eq_false (by omega)
      have Nn := Lib.hid (show 2 ≤ x.n ∧ x.n ≤ 5 by omega)
      clear n2 n5
      go_wp2_with fail
      go_ret
      exact ⟨by rw [Hg.out, show x.op = 13 from hop, if_neg (by decide), if_neg (by decide), if_neg (by decide), if_pos rfl, if_pos Nn.out]; rfl, Hlow.out.trans (Drawn.below (w := wc) ⟨_, rfl⟩ _)⟩
    by_cases h7 : k = 7
    · subst h7
      have Hci := Lib.hid (irInvoke_any fs p0 p1 x _ (wc.drewN nn) (Good.kept (Keep.of_below' (Drawn.below (w := wc) ⟨nn, rfl⟩ wc.heap.size) (fun k hk _ => hk)) Hp.out) (Good.kept (Keep.of_below' (Drawn.below (w := wc) ⟨nn, rfl⟩ wc.heap.size) (fun k hk _ => hk)) Hx2.out))
      go_wp2_with fail
      refine (Hci.out).mono ?_
      rintro e w1 ⟨rfl, hb1⟩
      have Hb1 := Lib.hid hb1
      clear hb1
      go_wp2_with fail
      go_ret
      exact ⟨by rw [Hg.out, show x.op = 7 from hop, if_neg (by decide), if_neg (by decide), if_neg (by decide), if_neg (by decide), if_pos rfl]; rfl, Hlow.out.trans ((Hdr.out.trans Hb1.out).mono (by omega))⟩
    have o3 : ((k : Int) == 3) = false := by simpa using (show ¬ (k : Int) = 3 by omega)
    have o8 : ((k : Int) == 8) = false := by simpa using (show ¬ (k : Int) = 8 by omega)
    have o12 : ((k : Int) == 12) = false := by simpa using (show ¬ (k : Int) = 12 by omega)
    have o13 : ((k : Int) == 13) = false := by simpa using (show ¬ (k : Int) = 13 by omega)
    have o7 : ((k : Int) == 7) = false := by simpa using (show ¬ (k : Int) = 7 by omega)
    have Hn := Lib.hid (And.intro h3 (And.intro h8 (And.intro h12 (And.intro h13 h7))))
    clear h3 h8 h12 h13 h7
    go_wp2_with fail
    go_ret
    exact ⟨by
      have hn := Hn.out
      rw [Hg.out, hop, if_neg (by omega), if_neg (by omega), if_neg (by omega), if_neg (by omega), if_neg (by omega)]; rfl, Hlow.out.trans (Drawn.below (w := wc) ⟨_, rfl⟩ _)⟩
end Go.Proofs.YthgfdcoicihpdaaDoor

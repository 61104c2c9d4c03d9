/-
  Texts joined: IrInstr IrCode IrCheck.
-/
import Derived.Test.YtaomlfbcfmmhlaaDoorBigH
import Derived.Deep.CutBlock
import Derived.Test.YtaomlfbcfmmhlaaDoorBigF

/-
  ir.checkInstr: the contract.
-/
namespace Go.Proofs.YtaomlfbcfmmhlaaDoor
open Go.RowKit Go.Pst
set_option linter.unusedVariables false

/-- What the test on the counts says. -/
def badCount (x : PInstr) : Prop := let r := ruleF x.op.toNat
  (0 ≤ r.1 ∧ (x.ds.length : Int) ≠ r.1) ∨ (0 ≤ r.2.1 ∧ (x.ars.length : Int) ≠ r.2.1) ∨ (0 ≤ r.2.2 ∧ (x.to.length : Int) ≠ r.2.2) ∨ (x.op = 11 ∧ x.to.length = 0)
theorem badCount_iff {x : PInstr} {k : Nat} (h : x.op = (k : Int)) (h1 : 1 ≤ k) (h2 : k ≤ 13) : ∃ d a t, arity x = some (d, a, t) ∧ (badCount x ↔ (x.ds.length ≠ d ∨ x.ars.length ≠ a ∨ x.to.length ≠ t)) := by
  have hk : k = 1 ∨ k = 2 ∨ k = 3 ∨ k = 4 ∨ k = 5 ∨ k = 6 ∨ k = 7 ∨ k = 8 ∨ k = 9 ∨ k = 10 ∨ k = 11 ∨ k = 12 ∨ k = 13 := by omega
  have fin : ∀ (r0 r1 r2 : Int) (d a t : Nat), ruleF k = (r0, r1, r2) → ((0 ≤ r0 ∧ (x.ds.length : Int) ≠ r0) ∨ (0 ≤ r1 ∧ (x.ars.length : Int) ≠ r1) ∨ (0 ≤ r2 ∧ (x.to.length : Int) ≠ r2) ∨ (k = 11 ∧ x.to.length = 0) ↔ (x.ds.length ≠ d ∨ x.ars.length ≠ a ∨ x.to.length ≠ t)) → (badCount x ↔ (x.ds.length ≠ d ∨ x.ars.length ≠ a ∨ x.to.length ≠ t)) := by
    intro r0 r1 r2 d a t hr e
    rw [← e]
    unfold badCount
    rw [h]
    simp only [Int.toNat_natCast, hr]
    have : ((k : Int) = 11) ↔ k = 11 := by omega
    rw [this]
  rcases hk with rfl | rfl | rfl | rfl | rfl | rfl | rfl | rfl | rfl | rfl | rfl | rfl | rfl
  · exact ⟨1, 0, 0, by simp [arity, h], fin 1 0 0 1 0 0 rfl (by omega)⟩
  · exact ⟨1, 1, 0, by simp [arity, h], fin 1 1 0 1 1 0 rfl (by omega)⟩
  · exact ⟨1, 2, 0, by simp [arity, h], fin 1 2 0 1 2 0 rfl (by omega)⟩
  · exact ⟨1, 1, 0, by simp [arity, h], fin 1 1 0 1 1 0 rfl (by omega)⟩
  · exact ⟨0, 2, 0, by simp [arity, h], fin 0 2 0 0 2 0 rfl (by omega)⟩
  · exact ⟨1, 1, 0, by simp [arity, h], fin 1 1 0 1 1 0 rfl (by omega)⟩
  · exact ⟨x.ds.length, x.ars.length, 0, by simp [arity, h], fin (-1) (-1) 0 x.ds.length x.ars.length 0 rfl (by omega)⟩
  · exact ⟨0, x.ars.length, 0, by simp [arity, h], fin 0 (-1) 0 0 x.ars.length 0 rfl (by omega)⟩
  · exact ⟨0, 0, 1, by simp [arity, h], fin 0 0 1 0 0 1 rfl (by omega)⟩
  · exact ⟨0, 1, 2, by simp [arity, h], fin 0 1 2 0 1 2 rfl (by omega)⟩
  · by_cases ht : x.to.length = 0
    · exact ⟨0, 1, 1, by simp [arity, h, ht], fin 0 1 (-1) 0 1 1 rfl (by omega)⟩
    · exact ⟨0, 1, x.to.length, by simp [arity, h, ht], fin 0 1 (-1) 0 1 x.to.length rfl (by omega)⟩
  · exact ⟨0, x.ars.length, 0, by simp [arity, h], fin 0 (-1) 0 0 x.ars.length 0 rfl (by omega)⟩
  · exact ⟨0, 0, 0, by simp [arity, h], fin 0 0 0 0 0 0 rfl (by omega)⟩
theorem stage (n : Nat) (r : Int) : (decide (r ≥ 0) = true ∧ ((n : Int) != r) = true ∧ (0 ≤ r ∧ (n : Int) ≠ r)) ∨ (decide (r ≥ 0) = false ∧ ¬ (0 ≤ r ∧ (n : Int) ≠ r)) ∨ (decide (r ≥ 0) = true ∧ ((n : Int) != r) = false ∧ ¬ (0 ≤ r ∧ (n : Int) ≠ r)) := by
  by_cases h : 0 ≤ r
  · by_cases e : (n : Int) = r
    · exact Or.inr (Or.inr ⟨decide_eq_true h, by simpa using e, fun h => h.2 e⟩)
    · exact Or.inl ⟨decide_eq_true h, by simpa using e, h, e⟩
  · exact Or.inr (Or.inl ⟨decide_eq_false h, fun h' => h h'.1⟩)
open Classical in
noncomputable def badB (x : PInstr) : Bool := decide (badCount x)
theorem badB_t {x : PInstr} (h : badCount x) : badB x = true := by unfold badB; simpa using h
theorem badB_f {x : PInstr} (h : ¬ badCount x) : badB x = false := by unfold badB; simpa using h

set_option maxRecDepth 4000 in
set_option maxHeartbeats 2000000 in
theorem irInstr_any (fs : List PCode) (p0 p1 : Value) (c : PCode) (ccs : List Value) (x : PInstr) (xcs : List Value) (w : World) (hp : rCodes (fun _ => True) w [p0] fs)
    (hc : rCode (fun _ => True) w ccs c) (hx : rInstr (fun _ => True) w xcs x) (hv : 0 ≤ c.vars) (hL : IrLaid w) :
    Calls Tryd.prog 73 #[.agg #[p0, p1], .agg ccs.toArray, .agg xcs.toArray] w fun e w' => e = .returned (.int .i64 (instrFaultF fs c.vars c.results c.blocks.length x)) ∧ Below w.heap.size w w' := by
  have Hx := Lib.hid hx
  obtain ⟨v5, rfl, ⟨-, -, hres, hvars, -⟩, hbs⟩ := hc
  obtain ⟨v1, v2, v6, rfl, ⟨hop, hn, hs⟩, h1, h2, h6⟩ := hx
  obtain ⟨a5, c5, rfl, hcap5, hmax5, -⟩ := rSlice_one hbs
  obtain ⟨a1, c1, rfl, hl1, hat1, -⟩ := rInts_open h1
  obtain ⟨a2, c2, rfl, hl2, hat2, -⟩ := rInts_open h2
  obtain ⟨a6, c6, rfl, hl6, hat6, -⟩ := rInts_open h6
  unfold maxLen at hmax5
  have hnb : c.blocks.length ≤ 9223372036854775807 := by omega
  have hvi := hvars.2
  clear hbs h1 h2 h6 hcap5 hmax5 hop hn hs hvars hres
  generalize c.blocks.length = nb at *
  generalize hop : x.op = op at *
  generalize c.vars = vars at *
  generalize c.results = results at *
  have HL := Lib.hid hL
  clear hL
  by_cases hlo : op < 1
  · have b1 : decide (op < 1) = true := decide_eq_true hlo
    have ha : arity x = none := by unfold arity; simp only [hop]; repeat rw [if_neg (by omega)]
    have Ha := Lib.hid ha
    clear ha
    go_enter Tryd.func73, Tryd.ntmps73
    go_wp2_with fail
    go_ret
    exact ⟨by unfold instrFaultF; rw [Ha.out]; rfl, below_box3 _ _ _ _⟩
  have b1 : decide (op < 1) = false := decide_eq_false hlo
  by_cases hhi : 13 < op
  · have b2 : decide (op > 13) = true := decide_eq_true hhi
    have ha : arity x = none := by unfold arity; simp only [hop]; repeat rw [if_neg (by omega)]
    have Ha := Lib.hid ha
    clear ha
    go_enter Tryd.func73, Tryd.ntmps73
    go_wp2_with fail
    go_ret
    exact ⟨by unfold instrFaultF; rw [Ha.out]; rfl, below_box3 _ _ _ _⟩
  have b2 : decide (op > 13) = false := decide_eq_false (by omega)
  obtain ⟨k, rfl⟩ : ∃ k : Nat, op = (k : Int) := ⟨op.toNat, by omega⟩
  obtain ⟨r0, r1, r2⟩ := HL.out.rules k (by omega)
  have g0 := HL.out.lt.1
  have hk14 : (k : Int) < 14 := by omega
  go_enter Tryd.func73, Tryd.ntmps73
  go_upto_region 4 with fail
  go_cut [69] from 22 to 69 (fun s69 wx => s69 = .bool (badB x) ∧ wx = (((w.alloc (.cells #[p0, p1] 25)).alloc (.cells #[.string c.name, .int .i64 c.params, .int .i64 results, .int .i64 vars, .int .i64 c.slots, .slice a5 nb c5] 28)).alloc
        (.cells #[.int .i64 k, .slice a1 x.ds.length c1, .slice a2 x.ars.length c2, .int .i64 x.n, .string x.s, .slice a6 x.to.length c6] 53)).alloc (.cells #[.int .i64 (ruleF k).1, .int .i64 (ruleF k).2.1, .int .i64 (ruleF k).2.2] 178))
  case first =>
    have hkt : x.op.toNat = k := by omega
    have Hkt := Lib.hid hkt
    have Hop := Lib.hid hop
    clear hop hkt HL Hx hp hat1 hat2 hat6 r0 r1 r2
    rcases stage x.ds.length (ruleF k).1 with ⟨q1, q2, hb⟩ | ⟨q1, hb⟩ | ⟨q1, q2, hb⟩
    · have Hb := Lib.hid (badB_t (x := x) (by unfold badCount; rw [Hkt.out]; exact Or.inl hb))
      clear hb
      go_wp2_with fail
      go_meet
      case rel => exact ⟨by rw [Hb.out], rfl⟩
    all_goals
      have Hb1 := Lib.hid hb
      clear hb
    all_goals
      rcases stage x.ars.length (ruleF k).2.1 with ⟨q3, q4, hb⟩ | ⟨q3, hb⟩ | ⟨q3, q4, hb⟩
      · have Hb := Lib.hid (badB_t (x := x) (by unfold badCount; rw [Hkt.out]; exact Or.inr (Or.inl hb)))
        clear hb
        go_wp2_with fail
        go_meet
        case rel => exact ⟨by rw [Hb.out], rfl⟩
      all_goals
        have Hb2 := Lib.hid hb
        clear hb
    all_goals
      rcases stage x.to.length (ruleF k).2.2 with ⟨q5, q6, hb⟩ | ⟨q5, hb⟩ | ⟨q5, q6, hb⟩
      · have Hb := Lib.hid (badB_t (x := x) (by unfold badCount; rw [Hkt.out]; exact Or.inr (Or.inr (Or.inl hb))))
        clear hb
        go_wp2_with fail
        go_meet
        case rel => exact ⟨by rw [Hb.out], rfl⟩
      all_goals
        have Hb3 := Lib.hid hb
        clear hb
    all_goals
      by_cases h11 : k = 11
      case neg =>
        have o11 : ((k : Int) == 11) = false := by simpa using (show ¬ (k : Int) = 11 by omega)
        have Hb := Lib.hid (badB_f (x := x) (by
          unfold badCount; rw [Hkt.out]
          exact fun h => h.elim Hb1.out (fun h => h.elim Hb2.out (fun h => h.elim Hb3.out (fun h => h11 (by have := Hop.out; omega))))))
        clear h11
        go_wp2_with fail
        go_meet
        case rel => exact ⟨by rw [Hb.out], rfl⟩
      case pos =>
        have o11 : ((k : Int) == 11) = true := by simpa using (show (k : Int) = 11 by omega)
        by_cases ht : x.to.length = 0
        · have t0 : ((x.to.length : Int) == 0) = true := by simpa using ht
          have Hb := Lib.hid (badB_t (x := x) (by unfold badCount; exact Or.inr (Or.inr (Or.inr ⟨by have := Hop.out; omega, ht⟩))))
          clear h11 ht
          go_wp2_with fail
          go_meet
          case rel => exact ⟨by rw [Hb.out], rfl⟩
        · have t0 : ((x.to.length : Int) == 0) = false := by simpa using ht
          have Hb := Lib.hid (badB_f (x := x) (by
            unfold badCount; rw [Hkt.out]
            exact fun h => h.elim Hb1.out (fun h => h.elim Hb2.out (fun h => h.elim Hb3.out (fun h => ht h.2)))))
          clear h11 ht
          go_wp2_with fail
          go_meet
          case rel => exact ⟨by rw [Hb.out], rfl⟩
  case rest =>
    obtain ⟨rfl, hw⟩ := hcut
    have hbel : Below w.heap.size w wc := by rw [hw]; exact (below_box3 _ _ _ _).alloc (by simp; omega) _
    have hsz : wc.heap.size = w.heap.size + 4 := by rw [hw]; simp
    have ex : ∀ (b j : Nat), b < w.heap.size + 3 → wc.cell? ⟨b, j, none⟩ = (((w.alloc (.cells #[p0, p1] 25)).alloc (.cells #[.string c.name, .int .i64 c.params, .int .i64 results, .int .i64 vars, .int .i64 c.slots, .slice a5 nb c5] 28)).alloc
        (.cells #[.int .i64 k, .slice a1 x.ds.length c1, .slice a2 x.ars.length c2, .int .i64 x.n, .string x.s, .slice a6 x.to.length c6] 53)).cell? ⟨b, j, none⟩ := fun b j hb => by rw [hw]; exact World.cell?_alloc_lt _ _ _ (by simp; omega)
    have bp0 : wc.cell? ⟨w.heap.size, 0, none⟩ = some p0 := by rw [ex _ _ (by omega), box3_1]; rfl
    have bp1 : wc.cell? ⟨w.heap.size, 1, none⟩ = some p1 := by rw [ex _ _ (by omega), box3_1]; rfl
    have bc2 : wc.cell? ⟨w.heap.size + 1, 2, none⟩ = some (.int .i64 results) := by rw [ex _ _ (by omega), box3_2]; rfl
    have bc3 : wc.cell? ⟨w.heap.size + 1, 3, none⟩ = some (.int .i64 vars) := by rw [ex _ _ (by omega), box3_2]; rfl
    have bc5 : wc.cell? ⟨w.heap.size + 1, 5, none⟩ = some (.slice a5 nb c5) := by rw [ex _ _ (by omega), box3_2]; rfl
    have bx0 : wc.cell? ⟨w.heap.size + 1 + 1, 0, none⟩ = some (.int .i64 k) := by rw [ex _ _ (by omega), box3_3]; rfl
    have bx1 : wc.cell? ⟨w.heap.size + 1 + 1, 1, none⟩ = some (.slice a1 x.ds.length c1) := by rw [ex _ _ (by omega), box3_3]; rfl
    have bx2 : wc.cell? ⟨w.heap.size + 1 + 1, 2, none⟩ = some (.slice a2 x.ars.length c2) := by rw [ex _ _ (by omega), box3_3]; rfl
    have bx3 : wc.cell? ⟨w.heap.size + 1 + 1, 3, none⟩ = some (.int .i64 x.n) := by rw [ex _ _ (by omega), box3_3]; rfl
    have bx4 : wc.cell? ⟨w.heap.size + 1 + 1, 4, none⟩ = some (.string x.s) := by rw [ex _ _ (by omega), box3_3]; rfl
    have bx5 : wc.cell? ⟨w.heap.size + 1 + 1, 5, none⟩ = some (.slice a6 x.to.length c6) := by rw [ex _ _ (by omega), box3_3]; rfl
    clear hw ex r0 r1 r2
    have Hlow := Lib.hid hbel
    obtain ⟨d, a, t, har, hbc⟩ := badCount_iff hop (by omega) (by omega)
    by_cases hbad : badCount x
    · have Hb := Lib.hid (hbc.1 hbad)
      have Har := Lib.hid har
      rw [badB_t hbad]
      clear hbc hbad har hat1 hat2 hat6 hp Hx HL
      go_wp2_with fail
      go_ret
      exact ⟨by rw [instrFaultF_count Har.out Hb.out]; rfl, Hlow.out⟩
    rw [badB_f hbad]
    have har' : arity x = some (x.ds.length, x.ars.length, x.to.length) := by
      rw [har]
      have : ¬ (x.ds.length ≠ d ∨ x.ars.length ≠ a ∨ x.to.length ≠ t) := fun h => hbad (hbc.2 h)
      obtain ⟨rfl, rfl, rfl⟩ : x.ds.length = d ∧ x.ars.length = a ∧ x.to.length = t := by omega
      rfl
    have Har := Lib.hid har'
    clear har har' hbc hbad
    have Hp := Lib.hid (Good.keep (S' := fun _ => True) (Keep.of_below' hbel (fun k hk _ => hk)) (fun _ _ h => h) hp)
    have Hx2 := Lib.hid (Good.keep (S' := fun _ => True) (Keep.of_below' hbel (fun k hk _ => hk)) (fun _ _ h => h) Hx.out)
    have HL2 := Lib.hid (HL.out.below hbel)
    have en1 := enters_of (P := Tryd.prog) Tryd.func131 (by kernel_rfl) (by kernel_rfl)
    have en2 := enters_of (P := Tryd.prog) Tryd.func132 (by kernel_rfl) (by kernel_rfl)
    have F1 := Lib.hid (fun cc => containsFunc_ints 131 #[.pointer (some ⟨w.heap.size + 1, 0, none⟩)] (oddF vars) a1 x.ds cc wc hl1 (hat1.below hbel) en1 (odd1_answers vars x.ds wc _ bc3))
    have F2 := Lib.hid (fun cc n => containsFunc_ints 131 #[.pointer (some ⟨w.heap.size + 1, 0, none⟩)] (oddF vars) a2 x.ars cc (wc.drewN n) hl2 ((hat2.below hbel).heap rfl) en1 ((odd1_answers vars x.ars wc _ bc3).later ⟨n, rfl⟩))
    have F6 := Lib.hid (fun cc n => containsFunc_ints 132 #[.pointer (some ⟨w.heap.size + 1, 0, none⟩)] (oddF nb) a6 x.to cc (wc.drewN n) hl6 ((hat6.below hbel).heap rfl) en2 ((odd2_answers nb x.to wc _ _ _ hnb bc5).later ⟨n, rfl⟩))
    clear en1 en2 hat1 hat2 hat6 hp Hx HL hbel
    go_wp2_with fail
    refine (F1.out _).mono ?_
    rintro e w1 ⟨rfl, n1, rfl⟩
    rw [any_oddF]
    cases q1 : inAll x.ds vars with
    | false =>
      have Q1 := Lib.hid q1
      clear q1
      go_wp2_with fail
      go_ret
      exact ⟨by rw [instrFaultF_range Har.out (by rw [Q1.out]; rfl)]; rfl, Hlow.out.trans (Drawn.below (w := wc) ⟨_, rfl⟩ _)⟩
    | true =>
    have Q1 := Lib.hid q1
    clear q1
    go_wp2_with fail
    refine (F2.out _ _).mono ?_
    rintro e w1 ⟨rfl, n2, rfl⟩
    rw [any_oddF, World.drewN_drewN]
    generalize n1 + n2 = n2 at *
    cases q2 : inAll x.ars vars with
    | false =>
      have Q2 := Lib.hid q2
      clear q2
      go_wp2_with fail
      go_ret
      exact ⟨by rw [instrFaultF_range Har.out (by rw [Q2.out]; simp)]; rfl, Hlow.out.trans (Drawn.below (w := wc) ⟨_, rfl⟩ _)⟩
    | true =>
    have Q2 := Lib.hid q2
    clear q2
    go_wp2_with fail
    refine (F6.out _ _).mono ?_
    rintro e w1 ⟨rfl, n3, rfl⟩
    rw [any_oddF, World.drewN_drewN]
    cases q6 : inAll x.to nb with
    | false =>
      have Q6 := Lib.hid q6
      clear q6
      go_wp2_with fail
      go_ret
      exact ⟨by rw [instrFaultF_range Har.out (by rw [Q6.out]; simp)]; rfl, Hlow.out.trans (Drawn.below (w := wc) ⟨_, rfl⟩ _)⟩
    | true =>
    have Q6 := Lib.hid q6
    clear q6
    have hgood := instrFaultF_good (fs := fs) (vars := vars) (results := results) (nb := nb) Har.out (by rw [Q1.out, Q2.out, Q6.out]; rfl)
    have Hg := Lib.hid hgood
    clear hgood Har Q1 Q2 Q6 F1 F2 F6
    generalize n2 + n3 = nn at *
    have Hdr := Lib.hid (Drawn.below (w := wc) (w' := wc.drewN nn) ⟨_, rfl⟩ wc.heap.size)
    by_cases h3 : k = 3
    · subst h3
      obtain ⟨am, cm, hmc, hstr⟩ := HL2.out.maths
      have gm := HL2.out.lt.2
      have Hcs := Lib.hid (containsStr_any x.s am mathsF cm (wc.drewN nn) (by decide) (fun i hi => hstr i hi))
      clear hstr
      go_wp2_with fail
      refine (Hcs.out).mono ?_
      rintro e w1 ⟨rfl, rfl⟩
      cases hm : decide (x.s ∈ mathsF) with
      | false =>
        have Hm := Lib.hid hm
        clear hm
        go_wp2_with fail
        go_ret
        exact ⟨by rw [Hg.out, show x.op = 3 from hop, if_pos rfl, if_neg (of_decide_eq_false Hm.out)]; rfl, Hlow.out.trans (Drawn.below (w := wc) ⟨_, rfl⟩ _)⟩
      | true =>
        have Hm := Lib.hid hm
        clear hm
        go_wp2_with fail
        go_ret
        exact ⟨by rw [Hg.out, show x.op = 3 from hop, if_pos rfl, if_pos (of_decide_eq_true Hm.out)]; rfl, Hlow.out.trans (Drawn.below (w := wc) ⟨_, rfl⟩ _)⟩
    by_cases h8 : k = 8
    · subst h8
      by_cases t1 : x.s = sText
      · have q1 : (x.s.toList == [116, 101, 120, 116]) = true := str_eqc t1
        have T1 := Lib.hid t1
        clear t1
        by_cases l2 : x.ars.length = 2
        · have L2 := Lib.hid l2
          rw [l2] at bx2 ⊢
          go_wp2_with fail
          go_ret
          exact ⟨by rw [Hg.out, show x.op = 8 from hop, if_neg (by decide), if_pos rfl, if_pos T1.out, if_pos L2.out]; rfl, Hlow.out.trans (Drawn.below (w := wc) ⟨_, rfl⟩ _)⟩
        · have lb2 : ((x.ars.length : Int) != 2) = true := by simp; omega
          have L2 := Lib.hid l2
          clear l2
          go_wp2_with fail
          go_ret
          exact ⟨by rw [Hg.out, show x.op = 8 from hop, if_neg (by decide), if_pos rfl, if_pos T1.out, if_neg L2.out]; rfl, Hlow.out.trans (Drawn.below (w := wc) ⟨_, rfl⟩ _)⟩
      · have q1 : (x.s.toList == [116, 101, 120, 116]) = false := str_nec (y := sText) t1
        have T1 := Lib.hid t1
        clear t1
        by_cases t2 : x.s = sInt ∨ x.s = sBool
        · have T2 := Lib.hid t2
          by_cases l2 : x.ars.length = 1
          · have L2 := Lib.hid l2
            rw [l2] at bx2 ⊢
            by_cases t3 : x.s = sInt
            · have q2 : (x.s.toList == [105, 110, 116]) = true := str_eqc (y := sInt) t3
              clear t2 t3
              go_wp2_with fail
              go_ret
              exact ⟨by rw [Hg.out, show x.op = 8 from hop, if_neg (by decide), if_pos rfl, if_neg T1.out, if_pos T2.out, if_pos L2.out]; rfl, Hlow.out.trans (Drawn.below (w := wc) ⟨_, rfl⟩ _)⟩
            · have q2 : (x.s.toList == [105, 110, 116]) = false := str_nec (y := sInt) t3
              have q3 : (x.s.toList == [98, 111, 111, 108]) = true := str_eqc (y := sBool) (t2.resolve_left t3)
              clear t2 t3
              go_wp2_with fail
              go_ret
              exact ⟨by rw [Hg.out, show x.op = 8 from hop, if_neg (by decide), if_pos rfl, if_neg T1.out, if_pos T2.out, if_pos L2.out]; rfl, Hlow.out.trans (Drawn.below (w := wc) ⟨_, rfl⟩ _)⟩
          · have lb2 : ((x.ars.length : Int) != 1) = true := by simp; omega
            have L2 := Lib.hid l2
            clear l2
            by_cases t3 : x.s = sInt
            · have q2 : (x.s.toList == [105, 110, 116]) = true := str_eqc (y := sInt) t3
              clear t2 t3
              go_wp2_with fail
              go_ret
              exact ⟨by rw [Hg.out, show x.op = 8 from hop, if_neg (by decide), if_pos rfl, if_neg T1.out, if_pos T2.out, if_neg L2.out]; rfl, Hlow.out.trans (Drawn.below (w := wc) ⟨_, rfl⟩ _)⟩
            · have q2 : (x.s.toList == [105, 110, 116]) = false := str_nec (y := sInt) t3
              have q3 : (x.s.toList == [98, 111, 111, 108]) = true := str_eqc (y := sBool) (t2.resolve_left t3)
              clear t2 t3
              go_wp2_with fail
              go_ret
              exact ⟨by rw [Hg.out, show x.op = 8 from hop, if_neg (by decide), if_pos rfl, if_neg T1.out, if_pos T2.out, if_neg L2.out]; rfl, Hlow.out.trans (Drawn.below (w := wc) ⟨_, rfl⟩ _)⟩
        · have q2 : (x.s.toList == [105, 110, 116]) = false := str_nec (y := sInt) (fun h => t2 (Or.inl h))
          have q3 : (x.s.toList == [98, 111, 111, 108]) = false := str_nec (y := sBool) (fun h => t2 (Or.inr h))
          have T2 := Lib.hid t2
          clear t2
          go_wp2_with fail
          go_ret
          exact ⟨by rw [Hg.out, show x.op = 8 from hop, if_neg (by decide), if_pos rfl, if_neg T1.out, if_neg T2.out]; rfl, Hlow.out.trans (Drawn.below (w := wc) ⟨_, rfl⟩ _)⟩
    by_cases h12 : k = 12
    · subst h12
      by_cases l2 : (x.ars.length : Int) = results
      · have lb2 : ((x.ars.length : Int) != results) = false := by simpa using l2
        have L2 := Lib.hid l2
        clear l2
        go_wp2_with fail
        go_ret
        exact ⟨by rw [Hg.out, show x.op = 12 from hop, if_neg (by decide), if_neg (by decide), if_pos rfl, if_pos L2.out]; rfl, Hlow.out.trans (Drawn.below (w := wc) ⟨_, rfl⟩ _)⟩
      · have lb2 : ((x.ars.length : Int) != results) = true := by simpa using l2
        have L2 := Lib.hid l2
        clear l2
        go_wp2_with fail
        go_ret
        exact ⟨by rw [Hg.out, show x.op = 12 from hop, if_neg (by decide), if_neg (by decide), if_pos rfl, if_neg L2.out]; rfl, Hlow.out.trans (Drawn.below (w := wc) ⟨_, rfl⟩ _)⟩
    by_cases h13 : k = 13
    · subst h13
      by_cases n2 : x.n < 2
      · have nb2 : decide (x.n < 2) = true := decide_eq_true n2
        have Nn := Lib.hid (show ¬ (2 ≤ x.n ∧ x.n ≤ 5) by omega)
        clear n2
        go_wp2_with fail
        go_ret
        exact ⟨by rw [Hg.out, show x.op = 13 from hop, if_neg (by decide), if_neg (by decide), if_neg (by decide), if_pos rfl, if_neg Nn.out]; rfl, Hlow.out.trans (Drawn.below (w := wc) ⟨_, rfl⟩ _)⟩
      have nb2 : decide (x.n < 2) = false := decide_eq_false n2
      by_cases n5 : 5 < x.n
      · have nb5 : decide (x.n > 5) = true := decide_eq_true n5
        have Nn := Lib.hid (show ¬ (2 ≤ x.n ∧ x.n ≤ 5) by omega)
        clear n2 n5
        go_wp2_with fail
        go_ret
        exact ⟨by rw [Hg.out, show x.op = 13 from hop, if_neg (by decide), if_neg (by decide), if_neg (by decide), if_pos rfl, if_neg Nn.out]; rfl, Hlow.out.trans (Drawn.below (w := wc) ⟨_, rfl⟩ _)⟩
      have nb5 : decide (x.n > 5) = false := decide_eq_false (by omega)
      have Nn := Lib.hid (show 2 ≤ x.n ∧ x.n ≤ 5 by omega)
      clear n2 n5
      go_wp2_with fail
      go_ret
      exact ⟨by rw [Hg.out, show x.op = 13 from hop, if_neg (by decide), if_neg (by decide), if_neg (by decide), if_pos rfl, if_pos Nn.out]; rfl, Hlow.out.trans (Drawn.below (w := wc) ⟨_, rfl⟩ _)⟩
    by_cases h7 : k = 7
    · subst h7
      have Hci := Lib.hid (irInvoke_any fs p0 p1 x _ (wc.drewN nn) (Good.kept (Keep.of_below' (Drawn.below (w := wc) ⟨nn, rfl⟩ wc.heap.size) (fun k hk _ => hk)) Hp.out) (Good.kept (Keep.of_below' (Drawn.below (w := wc) ⟨nn, rfl⟩ wc.heap.size) (fun k hk _ => hk)) Hx2.out))
      go_wp2_with fail
      refine (Hci.out).mono ?_
      rintro e w1 ⟨rfl, hb1⟩
      have Hb1 := Lib.hid hb1
      clear hb1
      go_wp2_with fail
      go_ret
      exact ⟨by rw [Hg.out, show x.op = 7 from hop, if_neg (by decide), if_neg (by decide), if_neg (by decide), if_neg (by decide), if_pos rfl]; rfl, Hlow.out.trans ((Hdr.out.trans Hb1.out).mono (by omega))⟩
    have o3 : ((k : Int) == 3) = false := by simpa using (show ¬ (k : Int) = 3 by omega)
    have o8 : ((k : Int) == 8) = false := by simpa using (show ¬ (k : Int) = 8 by omega)
    have o12 : ((k : Int) == 12) = false := by simpa using (show ¬ (k : Int) = 12 by omega)
    have o13 : ((k : Int) == 13) = false := by simpa using (show ¬ (k : Int) = 13 by omega)
    have o7 : ((k : Int) == 7) = false := by simpa using (show ¬ (k : Int) = 7 by omega)
    have Hn := Lib.hid (And.intro h3 (And.intro h8 (And.intro h12 (And.intro h13 h7))))
    clear h3 h8 h12 h13 h7
    go_wp2_with fail
    go_ret
    exact ⟨by
      have hn := Hn.out
      rw [Hg.out, hop, if_neg (by omega), if_neg (by omega), if_neg (by omega), if_neg (by omega), if_neg (by omega)]; rfl, Hlow.out.trans (Drawn.below (w := wc) ⟨_, rfl⟩ _)⟩
end Go.Proofs.YtaomlfbcfmmhlaaDoor

/-
  ir.CheckCode: the contract.
-/
namespace Go.Proofs.YtaomlfbcfmmhlaaDoor
open Go.RowKit Go.Pst
set_option linter.unusedVariables false

set_option maxRecDepth 4000 in
set_option maxHeartbeats 2000000 in
theorem irCode_any (fs : List PCode) (p0 p1 : Value) (c : PCode) (ccs : List Value) (w : World) (hp : rCodes (fun _ => True) w [p0] fs)
    (hc : rCode (fun _ => True) w ccs c) (hf : FitCode c) (hL : IrLaid w) :
    Calls Tryd.prog 29 #[.agg #[p0, p1], .agg ccs.toArray] w fun e w' => e = .returned (.int .i64 (codeFaultF fs c)) ∧ Below w.heap.size w w' := by
  have hc0 := hc
  obtain ⟨v5, rfl, -, hbs⟩ := hc
  obtain ⟨a5, c5, rfl, hcap5, hmax5, hat⟩ := rSlice_one hbs
  unfold maxLen at hmax5
  have hnb : c.blocks.length ≤ 9223372036854775807 := by omega
  clear hbs hcap5 hmax5
  have Hc := Lib.hid hc0
  have HL := Lib.hid hL
  have Hat := Lib.hid hat
  have Hp := Lib.hid hp
  clear hc0 hat hp hL
  by_cases z : c.blocks.length = 0
  · have z1 : ((c.blocks.length : Int) == 0) = true := by simpa using z
    have Z := Lib.hid z
    clear z
    go_enter Tryd.func29, Tryd.ntmps29
    go_wp2_with fail
    go_ret
    exact ⟨by unfold codeFaultF; rw [if_pos Z.out]; rfl, below_box2 _ _ _⟩
  have z1 : ((c.blocks.length : Int) == 0) = false := by simpa using z
  have Z := Lib.hid z
  clear z
  by_cases s1 : 2000 < c.blocks.length
  · have b : decide ((c.blocks.length : Int) > 2000) = true := decide_eq_true (by omega)
    have S := Lib.hid s1
    clear s1
    go_enter Tryd.func29, Tryd.ntmps29
    go_wp2_with fail
    go_ret
    exact ⟨by unfold codeFaultF; rw [if_neg Z.out, if_pos (Or.inl S.out)]; rfl, below_box2 _ _ _⟩
  have bs1 : decide ((c.blocks.length : Int) > 2000) = false := decide_eq_false (by omega)
  have Hs1 := Lib.hid s1
  clear s1
  by_cases s2 : 3000 < c.vars
  · have b : decide (c.vars > 3000) = true := decide_eq_true (by omega)
    have S := Lib.hid s2
    clear s2
    go_enter Tryd.func29, Tryd.ntmps29
    go_wp2_with fail
    go_ret
    exact ⟨by unfold codeFaultF; rw [if_neg Z.out, if_pos (Or.inr (Or.inl S.out))]; rfl, below_box2 _ _ _⟩
  have bs2 : decide (c.vars > 3000) = false := decide_eq_false (by omega)
  have Hs2 := Lib.hid s2
  clear s2
  by_cases s3 : 16 < c.params
  · have b : decide (c.params > 16) = true := decide_eq_true (by omega)
    have S := Lib.hid s3
    clear s3
    go_enter Tryd.func29, Tryd.ntmps29
    go_wp2_with fail
    go_ret
    exact ⟨by unfold codeFaultF; rw [if_neg Z.out, if_pos (Or.inr (Or.inr (Or.inl S.out)))]; rfl, below_box2 _ _ _⟩
  have bs3 : decide (c.params > 16) = false := decide_eq_false (by omega)
  have Hs3 := Lib.hid s3
  clear s3
  by_cases s4 : 16 < c.results
  · have b : decide (c.results > 16) = true := decide_eq_true (by omega)
    have S := Lib.hid s4
    clear s4
    go_enter Tryd.func29, Tryd.ntmps29
    go_wp2_with fail
    go_ret
    exact ⟨by unfold codeFaultF; rw [if_neg Z.out, if_pos (Or.inr (Or.inr (Or.inr S.out)))]; rfl, below_box2 _ _ _⟩
  have bs4 : decide (c.results > 16) = false := decide_eq_false (by omega)
  have Hs4 := Lib.hid s4
  clear s4
  have hs := Lib.hid (show ¬ (2000 < c.blocks.length ∨ 3000 < c.vars ∨ 16 < c.params ∨ 16 < c.results) from fun h => h.elim Hs1.out (fun h => h.elim Hs2.out (fun h => h.elim Hs3.out Hs4.out)))
  by_cases r1 : c.params < 0
  · have b : decide (c.params < 0) = true := decide_eq_true (by omega)
    have S := Lib.hid r1
    clear r1
    go_enter Tryd.func29, Tryd.ntmps29
    go_wp2_with fail
    go_ret
    exact ⟨by unfold codeFaultF; rw [if_neg Z.out, if_neg hs.out, if_pos (Or.inl S.out)]; rfl, below_box2 _ _ _⟩
  have br1 : decide (c.params < 0) = false := decide_eq_false (by omega)
  have Hr1 := Lib.hid r1
  clear r1
  by_cases r2 : c.results < 0
  · have b : decide (c.results < 0) = true := decide_eq_true (by omega)
    have S := Lib.hid r2
    clear r2
    go_enter Tryd.func29, Tryd.ntmps29
    go_wp2_with fail
    go_ret
    exact ⟨by unfold codeFaultF; rw [if_neg Z.out, if_neg hs.out, if_pos (Or.inr (Or.inl S.out))]; rfl, below_box2 _ _ _⟩
  have br2 : decide (c.results < 0) = false := decide_eq_false (by omega)
  have Hr2 := Lib.hid r2
  clear r2
  by_cases r3 : c.vars < c.params
  · have b : decide (c.vars < c.params) = true := decide_eq_true (by omega)
    have S := Lib.hid r3
    clear r3
    go_enter Tryd.func29, Tryd.ntmps29
    go_wp2_with fail
    go_ret
    exact ⟨by unfold codeFaultF; rw [if_neg Z.out, if_neg hs.out, if_pos (Or.inr (Or.inr (Or.inl S.out)))]; rfl, below_box2 _ _ _⟩
  have br3 : decide (c.vars < c.params) = false := decide_eq_false (by omega)
  have Hr3 := Lib.hid r3
  clear r3
  by_cases r4 : c.slots ≠ 0
  · have b : (c.slots != 0) = true := (by simpa using r4)
    have S := Lib.hid r4
    clear r4
    go_enter Tryd.func29, Tryd.ntmps29
    go_wp2_with fail
    go_ret
    exact ⟨by unfold codeFaultF; rw [if_neg Z.out, if_neg hs.out, if_pos (Or.inr (Or.inr (Or.inr S.out)))]; rfl, below_box2 _ _ _⟩
  have br4 : (c.slots != 0) = false := (by simpa using r4)
  have Hr4 := Lib.hid r4
  clear r4
  have hres := Lib.hid (show codeFaultF fs c = blocksF (instrFaultF fs c.vars c.results c.blocks.length) 6000 c.blocks 0 by
    unfold codeFaultF
    rw [if_neg Z.out, if_neg hs.out, if_neg (fun h => h.elim Hr1.out (fun h => h.elim Hr2.out (fun h => h.elim Hr3.out Hr4.out)))])
  have hv : 0 ≤ c.vars := by have := Hr1.out; have := Hr3.out; omega
  go_enter Tryd.func29, Tryd.ntmps29
  go_wp2_with fail
  clear z1 bs1 bs2 bs3 bs4 br1 br2 br3 br4 Hr1 Hr2 Hr3 Hr4 Hs1 Hs2 Hs3 Hs4 hs Z
  go_loopw [5, 57] (fun q i wr => ∃ all n : Nat, n ≤ c.blocks.length ∧ all ≤ 6000 ∧ q = .int .i64 all ∧ i = .int .i64 n ∧ codeFaultF fs c = blocksF (instrFaultF fs c.vars c.results c.blocks.length) 6000 (c.blocks.drop n) all ∧
      Below (w.heap.size + 2) ((w.alloc (.cells #[p0, p1] 25)).alloc (.cells #[.string c.name, .int .i64 c.params, .int .i64 c.results, .int .i64 c.vars, .int .i64 c.slots, .slice a5 c.blocks.length c5] 28)) wr) (fun _ i _ => c.blocks.length - (intOf i).toNat)
  case atStart => exact ⟨0, 0, Nat.zero_le _, by omega, rfl, rfl, by rw [hres.out]; rfl, Below.refl _ _⟩
  case round =>
    obtain ⟨all, n, hn, hall, rfl, rfl, hrs, hbel⟩ := hrel
    have Hrs := Lib.hid hrs
    clear hrs
    have bc5 := hbel.cell (p := ⟨w.heap.size + 1, 5, none⟩) (by simp)
    rw [box2_2] at bc5
    by_cases hnl : n < c.blocks.length
    · have hnl1 : (n : Int) < (c.blocks.length : Int) := by omega
      obtain ⟨b, off, u, rfl, -, hb, hcell, hu⟩ := Hat.out n hnl
      obtain ⟨a2, cap2, rfl, hcap2, hmax2, hat2⟩ := rBlock_val hu
      have hcx : wr.cell? ⟨b, off + n, none⟩ = some (.slice a2 c.blocks[n].length cap2) := by
        rw [hbel.cell (p := ⟨b, off + n, none⟩) (by show b < _; omega), World.cell?_alloc_lt _ _ _ (by simp; omega), World.cell?_alloc_lt _ _ _ hb]; exact hcell
      have hfb := (hf.2 _ (List.getElem_mem hnl)).1
      unfold reachBytes at hfb
      have hstep := blocksF_at (g := instrFaultF fs c.vars c.results c.blocks.length) (most := 6000) (all := all) hnl
      have Hstep := Lib.hid hstep
      have Hat2 := Lib.hid hat2
      unfold maxLen at hmax2
      have Hcell := Lib.hid hcell
      clear hat2 hu hcell hstep
      generalize c.blocks[n] = bl at *
      have hbm : bl.length ≤ 9223372036854775807 := by omega
      by_cases z : bl.length = 0
      · have z1 : ((bl.length : Int) == 0) = true := by simpa using z
        have Z := Lib.hid z
        clear z
        go_wp2_with fail
        go_ret
        exact ⟨by rw [Hrs.out, Hstep.out, if_pos Z.out]; rfl, (below_box2 _ _ _).trans (hbel.mono (by omega))⟩
      have z1 : ((bl.length : Int) == 0) = false := by simpa using z
      have Z := Lib.hid z
      clear z
      by_cases g : 6000 < all + bl.length
      · have g1 : decide ((all : Int) + (bl.length : Int) > 6000) = true := decide_eq_true (by omega)
        have G := Lib.hid g
        clear g
        go_wp2_with fail
        go_ret
        exact ⟨by rw [Hrs.out, Hstep.out, if_neg Z.out, if_pos G.out]; rfl, (below_box2 _ _ _).trans (hbel.mono (by omega))⟩
      have g1 : decide ((all : Int) + (bl.length : Int) > 6000) = false := decide_eq_false (by omega)
      have Hs2 := Lib.hid (show codeFaultF fs c = if blockF (instrFaultF fs c.vars c.results c.blocks.length) bl ≠ 0 then blockF (instrFaultF fs c.vars c.results c.blocks.length) bl else blocksF (instrFaultF fs c.vars c.results c.blocks.length) 6000 (c.blocks.drop (n + 1)) (all + bl.length) by
        rw [Hrs.out, Hstep.out, if_neg Z.out, if_neg g])
      have G := Lib.hid g
      clear g Z Hstep Hrs
      go_wp2_with fail
      clear g1 z1 hcx bc5
      go_loopw [72] (fun i wr => ∃ k : Nat, k ≤ bl.length ∧ i = .int .i64 k ∧ blockF (instrFaultF fs c.vars c.results c.blocks.length) bl = blockF (instrFaultF fs c.vars c.results c.blocks.length) (bl.drop k) ∧
        Below (w.heap.size + 2) ((w.alloc (.cells #[p0, p1] 25)).alloc (.cells #[.string c.name, .int .i64 c.params, .int .i64 c.results, .int .i64 c.vars, .int .i64 c.slots, .slice (some ⟨b, off, none⟩) c.blocks.length c5] 28)) wr) (fun i _ => bl.length - (intOf i).toNat)
      case atStart => exact ⟨0, Nat.zero_le _, rfl, by rw [List.drop_zero], hbel⟩
      case round =>
        clear hbel
        obtain ⟨k, hk, rfl, hbk, hbel⟩ := hrel
        have Hbk := Lib.hid hbk
        clear hbk
        by_cases hkl : k < bl.length
        · have hkl1 : (k : Int) < (bl.length : Int) := by omega
          have bx := fun j => hbel.cell (p := ⟨w.heap.size + 1, j, none⟩) (by simp)
          simp only [box2_2] at bx
          have bc0 : wr.cell? ⟨w.heap.size + 1, 0, none⟩ = some (.string c.name) := bx 0
          have bc1 : wr.cell? ⟨w.heap.size + 1, 1, none⟩ = some (.int .i64 c.params) := bx 1
          have bc2 : wr.cell? ⟨w.heap.size + 1, 2, none⟩ = some (.int .i64 c.results) := bx 2
          have bc3 : wr.cell? ⟨w.heap.size + 1, 3, none⟩ = some (.int .i64 c.vars) := bx 3
          have bc4 : wr.cell? ⟨w.heap.size + 1, 4, none⟩ = some (.int .i64 c.slots) := bx 4
          have bc5 : wr.cell? ⟨w.heap.size + 1, 5, none⟩ = some (.slice (some ⟨b, off, none⟩) c.blocks.length c5) := bx 5
          have bp := fun j => hbel.cell (p := ⟨w.heap.size, j, none⟩) (by show w.heap.size < w.heap.size + 2; omega)
          simp only [box2_1] at bp
          have bp0 : wr.cell? ⟨w.heap.size, 0, none⟩ = some p0 := bp 0
          have bp1 : wr.cell? ⟨w.heap.size, 1, none⟩ = some p1 := bp 1
          clear bx bp
          have hbw : Below w.heap.size w wr := (below_box2 _ _ _).trans (hbel.mono (by omega))
          have hkeep := Keep.of_below' (S := fun _ => True) hbw (fun k hk _ => hk)
          have hsz : w.heap.size + 2 ≤ wr.heap.size := by have := hbel.size; simpa using this
          have hcx : wr.cell? ⟨b, off + n, none⟩ = some (.slice a2 bl.length cap2) := by rw [hbw.cell (p := ⟨b, off + n, none⟩) hb]; exact Hcell.out
          obtain ⟨b2, off2, v1, v2, v6, rfl, -, hb2, hx0, hx1, hx2, hx3, hx4, hx5, hI, rx1, rx2, rx6⟩ := Hat2.out k hkl
          obtain ⟨sa1, sc1, rfl⟩ := rSlice_shape rx1
          obtain ⟨sa2, sc2, rfl⟩ := rSlice_shape rx2
          obtain ⟨sa6, sc6, rfl⟩ := rSlice_shape rx6
          have hcal := fun (o : Obj) => irInstr_any fs p0 p1 c _ bl[k] _ (wr.alloc o) (Good.kept (hkeep.trans (Keep.alloc _ _ _)) Hp.out) (Good.kept (hkeep.trans (Keep.alloc _ _ _)) Hc.out) (Good.kept (hkeep.trans (Keep.alloc _ _ _)) ⟨_, _, _, rfl, hI, rx1, rx2, rx6⟩) hv ((HL.out.below hbw).below ((Below.refl _ _).alloc (Nat.le_refl _) _))
          have ho := hI.1
          have hy0 : wr.cell? ⟨b2, off2 + k * 6, none⟩ = _ := (hbw.cell (p := ⟨b2, off2 + k * 6, none⟩) hb2).trans hx0
          have hy1 : wr.cell? ⟨b2, off2 + k * 6 + 1, none⟩ = _ := (hbw.cell (p := ⟨b2, off2 + k * 6 + 1, none⟩) hb2).trans hx1
          have hy2 : wr.cell? ⟨b2, off2 + k * 6 + 2, none⟩ = _ := (hbw.cell (p := ⟨b2, off2 + k * 6 + 2, none⟩) hb2).trans hx2
          have hy3 : wr.cell? ⟨b2, off2 + k * 6 + 3, none⟩ = _ := (hbw.cell (p := ⟨b2, off2 + k * 6 + 3, none⟩) hb2).trans hx3
          have hy4 : wr.cell? ⟨b2, off2 + k * 6 + 4, none⟩ = _ := (hbw.cell (p := ⟨b2, off2 + k * 6 + 4, none⟩) hb2).trans hx4
          have hy5 : wr.cell? ⟨b2, off2 + k * 6 + 5, none⟩ = _ := (hbw.cell (p := ⟨b2, off2 + k * 6 + 5, none⟩) hb2).trans hx5
          have hat := blockF_at (g := instrFaultF fs c.vars c.results c.blocks.length) hkl
          have Hat3 := Lib.hid hat
          have Hcal := Lib.hid hcal
          have Hz := Lib.hid hsz
          have hlt1 : w.heap.size < wr.heap.size := by omega
          have hlt2 : w.heap.size + 1 < wr.heap.size := by omega
          clear hx0 hx1 hx2 hx3 hx4 hx5 hI rx1 rx2 rx6 hat hcal hkeep hsz ho
          generalize bl[k] = x at *
          go_wp2_with fail
          refine (Hcal.out _).mono ?_
          rintro e w1 ⟨rfl, hb1⟩
          have hx0b := hb1.cell (p := ⟨wr.heap.size, 0, none⟩) (by simp)
          rw [World.cell?_alloc_at _ _ _ _ rfl] at hx0b
          have hx0c : w1.cell? ⟨wr.heap.size, 0, none⟩ = some (.int .i64 x.op) := hx0b
          have hl1 : Below wr.heap.size wr w1 := ((Below.refl _ _).alloc (Nat.le_refl _) _).trans (hb1.mono (by simp))
          have Hl1 := Lib.hid (hbel.trans (hl1.mono Hz.out))
          clear bc0 bc1 bc2 bc3 bc4 bc5 bp0 bp1 hcx hy0 hy1 hy2 hy3 hy4 hy5 hbw hb1 hl1 hbel Hcal hx0b
          generalize hev : instrFaultF fs c.vars c.results c.blocks.length x = ev at *
          by_cases he : ev = 0
          case neg =>
            have he1 : (ev == 0) = false := by simpa using he
            have he2 : (ev != 0) = true := by simpa using he
            have He := Lib.hid he
            clear he
            go_wp2_with fail
            go_ret
            exact ⟨by
              have hbe : blockF (instrFaultF fs c.vars c.results c.blocks.length) bl = ev := by rw [Hbk.out, Hat3.out, if_pos He.out]
              rw [Hs2.out, hbe, if_pos He.out]; rfl, (below_box2 _ _ _).trans (Hl1.out.mono (by omega))⟩
          subst he
          by_cases hq : k + 1 = bl.length
          · have hq1 : ((k : Int) == (bl.length : Int) - 1) = true := by simpa using (show (k : Int) = (bl.length : Int) - 1 by omega)
            have Hq := Lib.hid (decide_eq_true hq)
            clear hq
            go_wp2_with fail
            refine (irEnds_any x.op w1).mono ?_
            rintro e w2 ⟨rfl, rfl⟩
            cases cl : closesF x.op with
            | true =>
              have Cl := Lib.hid cl
              clear cl
              go_wp2_with fail
              go_roundw
              case rel => exact ⟨k + 1, by omega, by go_num, by rw [Hbk.out, Hat3.out, if_neg (by simp), if_neg (by rw [Cl.out, Hq.out]; simp)], Hl1.out⟩
              case measure => simp [intOf]; omega
            | false =>
              have Cl := Lib.hid cl
              clear cl
              go_wp2_with fail
              go_ret
              exact ⟨by
                have hbe : blockF (instrFaultF fs c.vars c.results c.blocks.length) bl = 4 := by rw [Hbk.out, Hat3.out, if_neg (by simp), if_pos (by rw [Cl.out, Hq.out]; simp)]
                rw [Hs2.out, hbe, if_pos (by decide)]; rfl, (below_box2 _ _ _).trans (Hl1.out.mono (by omega))⟩
          · have hq1 : ((k : Int) == (bl.length : Int) - 1) = false := by simpa using (show ¬ (k : Int) = (bl.length : Int) - 1 by omega)
            have Hq := Lib.hid (decide_eq_false hq)
            clear hq
            go_wp2_with fail
            refine (irEnds_any x.op w1).mono ?_
            rintro e w2 ⟨rfl, rfl⟩
            cases cl : closesF x.op with
            | true =>
              have Cl := Lib.hid cl
              clear cl
              go_wp2_with fail
              go_ret
              exact ⟨by
                have hbe : blockF (instrFaultF fs c.vars c.results c.blocks.length) bl = 4 := by rw [Hbk.out, Hat3.out, if_neg (by simp), if_pos (by rw [Cl.out, Hq.out]; simp)]
                rw [Hs2.out, hbe, if_pos (by decide)]; rfl, (below_box2 _ _ _).trans (Hl1.out.mono (by omega))⟩
            | false =>
              have Cl := Lib.hid cl
              clear cl
              go_wp2_with fail
              go_roundw
              case rel => exact ⟨k + 1, by omega, by go_num, by rw [Hbk.out, Hat3.out, if_neg (by simp), if_neg (by rw [Cl.out, Hq.out]; simp)], Hl1.out⟩
              case measure => simp [intOf]; omega
        · have hke : k = bl.length := by omega
          subst hke
          have Hs3 := Lib.hid (show codeFaultF fs c = blocksF (instrFaultF fs c.vars c.results c.blocks.length) 6000 (c.blocks.drop (n + 1)) (all + bl.length) by
            have hbe : blockF (instrFaultF fs c.vars c.results c.blocks.length) bl = 0 := by rw [Hbk.out, List.drop_length]; rfl
            rw [Hs2.out, hbe, if_neg (by simp)])
          have hg := G.out
          clear Hbk Hs2
          go_wp2_with fail
          go_roundw
          case rel => exact ⟨all + bl.length, n + 1, by omega, by omega, by go_num, by go_num, Hs3.out, hbel⟩
          case measure => simp [intOf]; omega
    · have hne : n = c.blocks.length := by omega
      subst hne
      go_wp2_with fail
      go_ret
      exact ⟨by rw [Hrs.out, List.drop_length]; rfl, (below_box2 _ _ _).trans (hbel.mono (by omega))⟩
end Go.Proofs.YtaomlfbcfmmhlaaDoor

/-
  ir.Check: the contract.
-/
namespace Go.Proofs.YtaomlfbcfmmhlaaDoor
open Go.RowKit Go.Pst
set_option linter.unusedVariables false

theorem heads_sum' (a b : Int) : ((a + b) % 18446744073709551616 = 0) ↔ wrap64 (a + b) = 0 := by unfold wrap64; omega

/-- The closure of Check: has it this name? -/
theorem named2_answers (s : ByteArray) (fs : List PCode) (w : World) (blk : Nat) (hlt : blk < w.heap.size) (hc : w.cell? ⟨blk, 0, none⟩ = some (.string s)) :
    AnswersC Tryd.prog 101 #[.pointer (some ⟨blk, 0, none⟩)] (fun c => decide (c.name = s)) fs w := by
  intro x _ cs w' hx hb
  have hc' : w'.cell? ⟨blk, 0, none⟩ = some (.string s) := (hb.cell (p := ⟨blk, 0, none⟩) hlt).trans hc
  obtain ⟨v5, rfl, -, -⟩ := hx
  have hlt' : blk < w'.heap.size := Nat.lt_of_lt_of_le hlt hb.size
  by_cases h : x.name = s
  · have h1 := str_eq h
    have Hh := Lib.hid h
    clear h
    go_enter Tryd.func101, Tryd.ntmps101
    go_wp2_with fail
    go_ret
    exact ⟨by simp [Hh.out], (Below.refl _ _).alloc (Nat.le_refl _) _⟩
  · have h1 := str_ne h
    have Hh := Lib.hid h
    clear h
    go_enter Tryd.func101, Tryd.ntmps101
    go_wp2_with fail
    go_ret
    exact ⟨by simp [Hh.out], (Below.refl _ _).alloc (Nat.le_refl _) _⟩

theorem names_ok {fs : List PCode} {n : Nat} (hn : n < fs.length) (h : ((namesF fs).take n).Nodup) (ha : ((fs.take n).any fun c => decide (c.name = fs[n].name)) = false) : ((namesF fs).take (n + 1)).Nodup :=
  nodupA_take_succ (by simpa using hn) h ((names_any hn).1 ha)
theorem names_no {fs : List PCode} {n : Nat} (hn : n < fs.length) (ha : ((fs.take n).any fun c => decide (c.name = fs[n].name)) = true) : ¬ (namesF fs).Nodup := by
  obtain ⟨c, hc, hd⟩ := List.any_eq_true.1 ha
  obtain ⟨j, hj, rfl⟩ := List.mem_iff_getElem.1 hc
  rw [List.length_take] at hj
  exact nodupA_not (l := namesF fs) (by simpa using hn) (show j < n by omega) (by simpa using hd)

set_option maxRecDepth 4000 in
set_option maxHeartbeats 2000000 in
theorem irCheck_any (p : PProg) (pcs : List Value) (w : World) (hp : rProg (fun _ => True) w pcs p) (hf : FitProg p) (hL : IrLaid w) :
    Calls Tryd.prog 59 #[.agg pcs.toArray] w fun e w' => e = .returned (.int .i64 (programFaultF p)) ∧ Below w.heap.size w w' := by
  obtain ⟨p0, p1, rfl, hp0, hp1⟩ := hp
  obtain ⟨ap, cp, rfl, hcapp, hmaxp, hatp⟩ := rCodes_val hp0
  obtain ⟨ad, cd, rfl, hld, -, -⟩ := rInts_open hp1
  unfold maxLen at hmaxp
  have hlf : p.funcs.length ≤ 9223372036854775807 := by omega
  have Hatp := Lib.hid hatp
  have Hp := Lib.hid hp0
  have Hf := Lib.hid hf
  have HL := Lib.hid hL
  have hent := enters_of (P := Tryd.prog) Tryd.func101 (by kernel_rfl) (by kernel_rfl)
  have Hent := Lib.hid hent
  clear hatp hp0 hp1 hf hL hent hmaxp
  by_cases z : p.funcs.length = 0
  · have z1 : ((p.funcs.length : Int) == 0) = true := by simpa using z
    have Z := Lib.hid (show programFaultF p = 6 by unfold programFaultF headsFault; rw [if_pos z]; rfl)
    clear z
    go_enter Tryd.func59, Tryd.ntmps59
    go_wp2_with fail
    go_ret
    exact ⟨by rw [Z.out]; rfl, (Below.refl _ _).alloc (Nat.le_refl _) _⟩
  by_cases s : 20000 < p.data.length ∨ 40 < p.funcs.length
  · have z1 : ((p.funcs.length : Int) == 0) = false := by simpa using z
    have Z := Lib.hid (show programFaultF p = 1 by unfold programFaultF headsFault; rw [if_neg z, if_pos s]; rfl)
    have s' : 20000 < (p.data.length : Int) ∨ 40 < (p.funcs.length : Int) := by omega
    clear z s
    go_enter Tryd.func59, Tryd.ntmps59
    rcases s' with s | s
    · go_wp2_with fail
      go_ret
      exact ⟨by rw [Z.out]; rfl, (Below.refl _ _).alloc (Nat.le_refl _) _⟩
    · by_cases s2 : 20000 < (p.data.length : Int)
      all_goals
        go_wp2_with fail
        go_ret
        exact ⟨by rw [Z.out]; rfl, (Below.refl _ _).alloc (Nat.le_refl _) _⟩
  have z1 : ((p.funcs.length : Int) == 0) = false := by simpa using z
  have z : ¬ (p.funcs.length = 0 ∨ 20000 < p.data.length ∨ 40 < p.funcs.length) := by omega
  have Z := Lib.hid z
  have z2 : decide ((p.data.length : Int) > 20000) = false := decide_eq_false (by omega)
  have z3 : decide ((p.funcs.length : Int) > 40) = false := decide_eq_false (by omega)
  have hlpos : 0 < p.funcs.length := by omega
  clear z s
  have hhead : headsFault p = if ¬ (p.funcs.map (·.name)).Nodup then 7 else if ((p.funcs.headD default).params + (p.funcs.headD default).results) % 18446744073709551616 ≠ 0 then 10 else 0 := by
    have hz := Z.out
    unfold headsFault
    rw [if_neg (fun h => hz (Or.inl h)), if_neg (fun h => hz (Or.inr h))]
  have Hh := Lib.hid hhead
  clear hhead
  go_enter Tryd.func59, Tryd.ntmps59
  go_wp2_with fail
  clear z1 z2 z3
  go_loopw [25] (fun i wr => ∃ n : Nat, n ≤ p.funcs.length ∧ i = .int .i64 n ∧ ((namesF p.funcs).take n).Nodup ∧ Below (w.heap.size + 1) (w.alloc (.cells #[.slice ap p.funcs.length cp, .slice ad p.data.length cd] 25)) wr) (fun i _ => p.funcs.length - (intOf i).toNat)
  case atStart => exact ⟨0, Nat.zero_le _, rfl, by simp, Below.refl _ _⟩
  case round =>
    obtain ⟨n, hn, rfl, hnd, hbel⟩ := hrel
    have Hnd := Lib.hid hnd
    clear hnd
    have bp := fun j => hbel.cell (p := ⟨w.heap.size, j, none⟩) (by show w.heap.size < w.heap.size + 1; omega)
    simp only [World.cell?_alloc_at _ _ _ _ rfl] at bp
    have bp0 : wr.cell? ⟨w.heap.size, 0, none⟩ = some (.slice ap p.funcs.length cp) := bp 0
    have bp1 : wr.cell? ⟨w.heap.size, 1, none⟩ = some (.slice ad p.data.length cd) := bp 1
    have hbw : Below w.heap.size w wr := box_below hbel
    have hsz : w.heap.size + 1 ≤ wr.heap.size := by have := hbel.size; simpa using this
    have Hsz := Lib.hid hsz
    clear hsz bp
    by_cases hnl : n < p.funcs.length
    · have hnl1 : (n : Int) < (p.funcs.length : Int) := by omega
      obtain ⟨b, off, v5, rfl, -, hb, h0, h1, h2, h3, h4, h5, hI, hbs⟩ := Hatp.out n hnl
      obtain ⟨a5, c5, rfl⟩ := rSlice_shape hbs
      have hy0 : wr.cell? ⟨b, off + n * 6, none⟩ = _ := (hbw.cell (p := ⟨b, off + n * 6, none⟩) hb).trans h0
      have hy1 : wr.cell? ⟨b, off + n * 6 + 1, none⟩ = _ := (hbw.cell (p := ⟨b, off + n * 6 + 1, none⟩) hb).trans h1
      have hy2 : wr.cell? ⟨b, off + n * 6 + 2, none⟩ = _ := (hbw.cell (p := ⟨b, off + n * 6 + 2, none⟩) hb).trans h2
      have hy3 : wr.cell? ⟨b, off + n * 6 + 3, none⟩ = _ := (hbw.cell (p := ⟨b, off + n * 6 + 3, none⟩) hb).trans h3
      have hy4 : wr.cell? ⟨b, off + n * 6 + 4, none⟩ = _ := (hbw.cell (p := ⟨b, off + n * 6 + 4, none⟩) hb).trans h4
      have hy5 : wr.cell? ⟨b, off + n * 6 + 5, none⟩ = _ := (hbw.cell (p := ⟨b, off + n * 6 + 5, none⟩) hb).trans h5
      have Hok := Lib.hid (names_ok hnl Hnd.out)
      have Hno := Lib.hid (names_no hnl)
      have Hkeep := Lib.hid (Good.kept (Keep.of_below' (S := fun _ => True) hbw (fun k hk _ => hk)) Hp.out)
      have hne : (n : Int) ≤ (cp : Int) := by omega
      clear h0 h1 h2 h3 h4 h5 hI hbs
      generalize p.funcs[n] = c at *
      have Hbw := Lib.hid hbw
      have Hbel := Lib.hid hbel
      have hszw : w.heap.size < wr.heap.size := by have := Hsz.out; omega
      have hp0' : ∀ o, (wr.alloc o).cell? ⟨w.heap.size, 0, none⟩ = some (.slice (some ⟨b, off, none⟩) p.funcs.length cp) := fun o => (World.cell?_alloc_lt _ _ _ hszw).trans bp0
      clear hbw hbel
      go_wp2_with fail
      clear hp0'
      generalize hw2 : wr.alloc (.cells #[.string c.name, .int .i64 c.params, .int .i64 c.results, .int .i64 c.vars, .int .i64 c.slots, .slice a5 c.blocks.length c5] 28) = w2
      have hb2 : Below wr.heap.size wr w2 := by rw [← hw2]; exact (Below.refl _ _).alloc (Nat.le_refl _) _
      have hn0 : w2.cell? ⟨wr.heap.size, 0, none⟩ = some (.string c.name) := by rw [← hw2, World.cell?_alloc_at _ _ _ _ rfl]; rfl
      have hs2 : wr.heap.size < w2.heap.size := by rw [← hw2]; simp
      have Hn0 := Lib.hid hn0
      have Hb2 := Lib.hid hb2
      have Hs2 := Lib.hid hs2
      have hq0 : w2.cell? ⟨w.heap.size, 0, none⟩ = _ := (hb2.cell (p := ⟨w.heap.size, 0, none⟩) (by have := Hsz.out; show w.heap.size < wr.heap.size; omega)).trans bp0
      clear hw2 hn0 hb2 hs2 bp0 bp1 hy0 hy1 hy2 hy3 hy4 hy5
      have hcal := containsFuncC_any 101 #[.pointer (some ⟨wr.heap.size, 0, none⟩)] (fun x => decide (x.name = c.name)) (some ⟨b, off, none⟩) (p.funcs.take n) cp w2 (by rw [List.length_take, Nat.min_eq_left hn]; exact rSlice_take (Good.kept (Keep.of_below' (S := fun _ => True) Hb2.out (fun k hk _ => hk)) Hkeep.out) hn) Hent.out (named2_answers _ _ _ _ Hs2.out Hn0.out)
      rw [List.length_take, Nat.min_eq_left hn] at hcal
      have Hcal := Lib.hid hcal
      clear hcal
      go_wp2_with fail
      refine (Hcal.out).mono ?_
      rintro e w1 ⟨rfl, hb1⟩
      have hl1 : Below wr.heap.size wr w1 := Hb2.out.trans (hb1.mono Hb2.out.size)
      have Hl1 := Lib.hid hl1
      clear hb1 hl1 Hcal hq0
      cases he : (p.funcs.take n).any fun x => decide (x.name = c.name) with
      | true =>
        have He := Lib.hid he
        clear he
        go_wp2_with fail
        go_ret
        exact ⟨by unfold programFaultF; rw [Hh.out, if_pos (Hno.out He.out)]; rfl, Hbw.out.trans (Hl1.out.mono (by have := Hsz.out; omega))⟩
      | false =>
        have He := Lib.hid he
        clear he
        go_wp2_with fail
        go_roundw
        case rel => exact ⟨n + 1, by omega, by go_num, Hok.out He.out, Hbel.out.trans (Hl1.out.mono Hsz.out)⟩
        case measure => simp [intOf]; omega
    · have hne : n = p.funcs.length := by omega
      subst hne
      have Hnm := Lib.hid (names_all Hnd.out)
      have hh2 : headsFault p = if ((p.funcs.headD default).params + (p.funcs.headD default).results) % 18446744073709551616 ≠ 0 then 10 else 0 := by
        rw [Hh.out, if_neg (fun h => h Hnm.out)]
      have Hh2 := Lib.hid hh2
      clear hh2 Hnm Hnd
      obtain ⟨b, off, v5, rfl, -, hb, h0, h1, h2, h3, h4, h5, hI, hbs⟩ := Hatp.out 0 hlpos
      have hy1 : wr.cell? ⟨b, off + 1, none⟩ = _ := (hbw.cell (p := ⟨b, off + 1, none⟩) hb).trans (by simpa using h1)
      have hy2 : wr.cell? ⟨b, off + 2, none⟩ = _ := (hbw.cell (p := ⟨b, off + 2, none⟩) hb).trans (by simpa using h2)
      have Hs := Lib.hid (heads_sum' p.funcs[0].params p.funcs[0].results)
      have h00 : (0 : Int) < (p.funcs.length : Int) := by omega
      have Hd0 := Lib.hid (headD_at hlpos)
      clear h0 h1 h2 h3 h4 h5 hbs hI
      cases h : (wrap64 (p.funcs[0].params + p.funcs[0].results) != 0) with
      | true =>
        go_wp2_with fail
        go_quiet (fail)
        go_wp2_with fail
        go_ret
        exact ⟨by
          have hx : headsFault p = 10 := by rw [Hh2.out, Hd0.out, if_pos (fun e => by have := Hs.out.1 e; simp [this] at h)]
          unfold programFaultF; rw [hx]; rfl, hbw.trans (Drawn.below (w := wr) ⟨_, rfl⟩ _)⟩
      | false =>
        go_wp2_with fail
        go_quiet (fail)
        go_wp2_with fail
        have hh3 : headsFault p = 0 := by rw [Hh2.out, Hd0.out, if_neg (fun hn => hn (Hs.out.2 (by simpa using h)))]
        have Hh3 := Lib.hid (show programFaultF p = codesF (codeFaultF p.funcs) p.funcs by unfold programFaultF; rw [hh3]; rfl)
        clear hh3 Hh2 Hs Hd0 h
        have Hb0 := Lib.hid (show Below (w.heap.size + 1) (w.alloc (.cells #[.slice (some ⟨b, off, none⟩) p.funcs.length cp, .slice ad p.data.length cd] 25)) (wr.drewN nq) from hbel.trans (Drawn.below (w := wr) ⟨_, rfl⟩ _))
        clear hbel bp0 bp1 hy1 hy2 hbw
        go_loopw [52] (fun i wr => ∃ n : Nat, n ≤ p.funcs.length ∧ i = .int .i64 n ∧ programFaultF p = codesF (codeFaultF p.funcs) (p.funcs.drop n) ∧ Below (w.heap.size + 1) (w.alloc (.cells #[.slice (some ⟨b, off, none⟩) p.funcs.length cp, .slice ad p.data.length cd] 25)) wr) (fun i _ => p.funcs.length - (intOf i).toNat)
        case atStart => exact ⟨0, Nat.zero_le _, rfl, by rw [Hh3.out]; rfl, Hb0.out⟩
        case round =>
          obtain ⟨n, hn, rfl, hrs, hbel⟩ := hrel
          have Hrs := Lib.hid hrs
          clear hrs
          have bp := fun j => hbel.cell (p := ⟨w.heap.size, j, none⟩) (by show w.heap.size < w.heap.size + 1; omega)
          simp only [World.cell?_alloc_at _ _ _ _ rfl] at bp
          have bp0 : wr.cell? ⟨w.heap.size, 0, none⟩ = some (.slice (some ⟨b, off, none⟩) p.funcs.length cp) := bp 0
          have bp1 : wr.cell? ⟨w.heap.size, 1, none⟩ = some (.slice ad p.data.length cd) := bp 1
          have hbw : Below w.heap.size w wr := box_below hbel
          have hsz : w.heap.size + 1 ≤ wr.heap.size := by have := hbel.size; simpa using this
          have Hsz := Lib.hid hsz
          clear bp hsz
          by_cases hnl : n < p.funcs.length
          · have hnl1 : (n : Int) < (p.funcs.length : Int) := by omega
            obtain ⟨b', off', v5, hbb, -, -, h0, h1, h2, h3, h4, h5, hI, hbs⟩ := Hatp.out n hnl
            obtain ⟨a5, c5, rfl⟩ := rSlice_shape hbs
            obtain ⟨rfl, rfl⟩ : b = b' ∧ off = off' := by simpa using hbb
            have hy0 : wr.cell? ⟨b, off + n * 6, none⟩ = _ := (hbw.cell (p := ⟨b, off + n * 6, none⟩) hb).trans h0
            have hy1 : wr.cell? ⟨b, off + n * 6 + 1, none⟩ = _ := (hbw.cell (p := ⟨b, off + n * 6 + 1, none⟩) hb).trans h1
            have hy2 : wr.cell? ⟨b, off + n * 6 + 2, none⟩ = _ := (hbw.cell (p := ⟨b, off + n * 6 + 2, none⟩) hb).trans h2
            have hy3 : wr.cell? ⟨b, off + n * 6 + 3, none⟩ = _ := (hbw.cell (p := ⟨b, off + n * 6 + 3, none⟩) hb).trans h3
            have hy4 : wr.cell? ⟨b, off + n * 6 + 4, none⟩ = _ := (hbw.cell (p := ⟨b, off + n * 6 + 4, none⟩) hb).trans h4
            have hy5 : wr.cell? ⟨b, off + n * 6 + 5, none⟩ = _ := (hbw.cell (p := ⟨b, off + n * 6 + 5, none⟩) hb).trans h5
            have hb3 : ∀ o, Below wr.heap.size wr (wr.alloc o) := fun o => (Below.refl _ _).alloc (Nat.le_refl _) _
            have hkeep := fun o => Keep.of_below' (S := fun _ => True) (hbw.trans ((hb3 o).mono hbw.size)) (fun k hk _ => hk)
            have hcal := fun o => irCode_any p.funcs (.slice (some ⟨b, off, none⟩) p.funcs.length cp) (.slice ad p.data.length cd) p.funcs[n] _ (wr.alloc o) (Good.kept (hkeep o) Hp.out) (Good.kept (hkeep o) ⟨_, rfl, hI, hbs⟩) (Hf.out.1.2 _ (List.getElem_mem hnl)) (HL.out.below (hbw.trans ((hb3 o).mono hbw.size)))
            have Hcal := Lib.hid hcal
            have Hat := Lib.hid (codesF_at (g := codeFaultF p.funcs) hnl)
            have Hb3 := Lib.hid hb3
            clear hcal h0 h1 h2 h3 h4 h5 hI hbs hkeep hbb hb3
            generalize p.funcs[n] = c at *
            generalize hev : codeFaultF p.funcs c = ev at *
            have Hbw := Lib.hid hbw
            have Hbel := Lib.hid hbel
            have hszw : w.heap.size < wr.heap.size := by have := Hsz.out; omega
            have hp0' : ∀ o, (wr.alloc o).cell? ⟨w.heap.size, 0, none⟩ = some (.slice (some ⟨b, off, none⟩) p.funcs.length cp) := fun o => (World.cell?_alloc_lt _ _ _ hszw).trans bp0
            have hp1' : ∀ o, (wr.alloc o).cell? ⟨w.heap.size, 1, none⟩ = some (.slice ad p.data.length cd) := fun o => (World.cell?_alloc_lt _ _ _ hszw).trans bp1
            clear hbw hbel hev
            go_wp2_with fail
            clear hp0' hp1'
            refine (Hcal.out _).mono ?_
            rintro e w1 ⟨rfl, hb1⟩
            have hb2 : Below wr.heap.size wr w1 := (Hb3.out _).trans (hb1.mono (by simp))
            have Hb2 := Lib.hid hb2
            clear hb1 hb2 Hcal
            by_cases he : ev = 0
            · subst he
              go_wp2_with fail
              go_roundw
              case rel => exact ⟨n + 1, by omega, by go_num, by rw [Hrs.out, Hat.out, if_neg (by simp)], Hbel.out.trans (Hb2.out.mono Hsz.out)⟩
              case measure => simp [intOf]; omega
            · have he1 : (ev != 0) = true := by simpa using he
              have He := Lib.hid he
              clear he
              go_wp2_with fail
              go_ret
              exact ⟨by rw [Hrs.out, Hat.out, if_pos He.out]; rfl, Hbw.out.trans (Hb2.out.mono (by have := Hsz.out; omega))⟩
          · have hne : n = p.funcs.length := by omega
            subst hne
            go_wp2_with fail
            go_ret
            exact ⟨by rw [Hrs.out, List.drop_length]; rfl, hbw⟩
end Go.Proofs.YtaomlfbcfmmhlaaDoor

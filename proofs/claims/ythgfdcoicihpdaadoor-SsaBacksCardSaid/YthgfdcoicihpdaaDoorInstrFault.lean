/-
  The reference's instrFault: the contract.
-/
import Derived.Test.YthgfdcoicihpdaaDoorMaths
import Derived.Deep.CutBlock
namespace Go.Proofs.YthgfdcoicihpdaaDoor
open Go.RowKit Go.Pst
set_option linter.unusedVariables false

set_option maxRecDepth 4000 in
set_option maxHeartbeats 2000000 in
theorem instrFault_any (fs : List PCode) (p0 p1 : Value) (c : PCode) (ccs : List Value) (x : PInstr) (xcs : List Value) (w : World) (hp : rCodes (fun _ => True) w [p0] fs)
    (hc : rCode (fun _ => True) w ccs c) (hx : rInstr (fun _ => True) w xcs x) (hv : 0 ≤ c.vars) :
    Calls Tryd.prog 21 #[.agg #[p0, p1], .agg ccs.toArray, .agg xcs.toArray] w fun e w' => e = .returned (.int .i64 (instrFaultF fs c.vars c.results c.blocks.length x)) ∧ Below w.heap.size w w' := by
  obtain ⟨v5, rfl, ⟨-, -, hres, hvars, -⟩, hbs⟩ := hc
  obtain ⟨v1, v2, v6, rfl, ⟨hop, hn, hs⟩, h1, h2, h6⟩ := hx
  obtain ⟨a5, c5, rfl, hcap5, hmax5, -⟩ := rSlice_one hbs
  obtain ⟨a1, c1, rfl, hl1, hat1, -⟩ := rInts_open h1
  obtain ⟨a2, c2, rfl, hl2, hat2, -⟩ := rInts_open h2
  obtain ⟨a6, c6, rfl, hl6, hat6, -⟩ := rInts_open h6
  unfold maxLen at hmax5
  have hnb : c.blocks.length ≤ 9223372036854775807 := by omega
  have hvi := hvars.2
  clear hbs h1 h2 h6 hcap5 hmax5 hop hn hs hvars hres
  generalize c.blocks.length = nb at *
  generalize hop : x.op = op at *
  generalize c.vars = vars at *
  generalize c.results = results at *
  go_enter Tryd.func21, Tryd.ntmps21
  go_upto_block 0 with fail
  go_cut [7, 8, 9] from 15 to 51 (fun s7 s8 s9 wx => ∃ d a t : Nat, arity x = some (d, a, t) ∧ s7 = .int .i64 d ∧ s8 = .int .i64 a ∧ s9 = .int .i64 t ∧
      wx = ((w.alloc (.cells #[p0, p1] 25)).alloc (.cells #[.string c.name, .int .i64 c.params, .int .i64 results, .int .i64 vars, .int .i64 c.slots, .slice a5 nb c5] 28)).alloc
        (.cells #[.int .i64 op, .slice a1 x.ds.length c1, .slice a2 x.ars.length c2, .int .i64 x.n, .string x.s, .slice a6 x.to.length c6] 41))
  case first =>
    by_cases h1 : op = 1
    · subst h1
      go_wp2_with fail
      go_meet
      case rel => exact ⟨_, _, _, by simp [arity, hop], rfl, rfl, rfl, rfl⟩
    by_cases h2 : op = 2
    · subst h2
      go_wp2_with fail
      go_meet
      case rel => exact ⟨_, _, _, by simp [arity, hop], rfl, rfl, rfl, rfl⟩
    by_cases h3 : op = 3
    · subst h3
      go_wp2_with fail
      go_meet
      case rel => exact ⟨_, _, _, by simp [arity, hop], rfl, rfl, rfl, rfl⟩
    by_cases h4 : op = 4
    · subst h4
      go_wp2_with fail
      go_meet
      case rel => exact ⟨_, _, _, by simp [arity, hop], rfl, rfl, rfl, rfl⟩
    by_cases h5 : op = 5
    · subst h5
      go_wp2_with fail
      go_meet
      case rel => exact ⟨_, _, _, by simp [arity, hop], rfl, rfl, rfl, rfl⟩
    by_cases h6 : op = 6
    · subst h6
      go_wp2_with fail
      go_meet
      case rel => exact ⟨_, _, _, by simp [arity, hop], rfl, rfl, rfl, rfl⟩
    by_cases h7 : op = 7
    · subst h7
      go_wp2_with fail
      go_meet
      case rel => exact ⟨_, _, _, by simp [arity, hop], rfl, rfl, rfl, rfl⟩
    by_cases h8 : op = 8
    · subst h8
      go_wp2_with fail
      go_meet
      case rel => exact ⟨_, _, _, by simp [arity, hop], rfl, rfl, rfl, rfl⟩
    by_cases h9 : op = 9
    · subst h9
      go_wp2_with fail
      go_meet
      case rel => exact ⟨_, _, _, by simp [arity, hop], rfl, rfl, rfl, rfl⟩
    by_cases h10 : op = 10
    · subst h10
      go_wp2_with fail
      go_meet
      case rel => exact ⟨_, _, _, by simp [arity, hop], rfl, rfl, rfl, rfl⟩
    by_cases h12 : op = 12
    · subst h12
      go_wp2_with fail
      go_meet
      case rel => exact ⟨_, _, _, by simp [arity, hop], rfl, rfl, rfl, rfl⟩
    by_cases h13 : op = 13
    · subst h13
      go_wp2_with fail
      go_meet
      case rel => exact ⟨_, _, _, by simp [arity, hop], rfl, rfl, rfl, rfl⟩
    by_cases h11 : op = 11
    · subst h11
      by_cases ht : x.to.length = 0
      · go_wp2_with fail
        go_meet
        case rel => exact ⟨0, 1, 1, by simp [arity, hop, ht], rfl, rfl, rfl, by simp [ht]⟩
      · have ht1 : ((x.to.length : Int) == 0) = false := by simpa using (show ¬ (x.to.length : Int) = 0 by omega)
        go_wp2_with fail
        go_meet
        case rel => exact ⟨_, _, _, by simp [arity, hop, ht], rfl, rfl, rfl, rfl⟩
    have ha : arity x = none := by simp [arity, *]
    go_wp2_with fail
    go_ret
    exact ⟨by unfold instrFaultF; rw [ha]; rfl, (((Below.refl _ _).alloc (Nat.le_refl _) _).alloc (by simp) _).alloc (by simp; omega) _⟩
  case rest =>
    obtain ⟨d, a, t, har, rfl, rfl, rfl, hw⟩ := hcut
    have hbel : Below w.heap.size w wc := by rw [hw]; exact (((Below.refl _ _).alloc (Nat.le_refl _) _).alloc (by simp) _).alloc (by simp; omega) _
    have hsz : wc.heap.size = w.heap.size + 3 := by rw [hw]; simp
    have bp0 : wc.cell? ⟨w.heap.size, 0, none⟩ = some p0 := by rw [hw, box3_1]; rfl
    have bp1 : wc.cell? ⟨w.heap.size, 1, none⟩ = some p1 := by rw [hw, box3_1]; rfl
    have bc2 : wc.cell? ⟨w.heap.size + 1, 2, none⟩ = some (.int .i64 results) := by rw [hw, box3_2]; rfl
    have bc3 : wc.cell? ⟨w.heap.size + 1, 3, none⟩ = some (.int .i64 vars) := by rw [hw, box3_2]; rfl
    have bc5 : wc.cell? ⟨w.heap.size + 1, 5, none⟩ = some (.slice a5 nb c5) := by rw [hw, box3_2]; rfl
    have bx0 : wc.cell? ⟨w.heap.size + 1 + 1, 0, none⟩ = some (.int .i64 op) := by rw [hw, box3_3]; rfl
    have bx1 : wc.cell? ⟨w.heap.size + 1 + 1, 1, none⟩ = some (.slice a1 x.ds.length c1) := by rw [hw, box3_3]; rfl
    have bx2 : wc.cell? ⟨w.heap.size + 1 + 1, 2, none⟩ = some (.slice a2 x.ars.length c2) := by rw [hw, box3_3]; rfl
    have bx3 : wc.cell? ⟨w.heap.size + 1 + 1, 3, none⟩ = some (.int .i64 x.n) := by rw [hw, box3_3]; rfl
    have bx4 : wc.cell? ⟨w.heap.size + 1 + 1, 4, none⟩ = some (.string x.s) := by rw [hw, box3_3]; rfl
    have bx5 : wc.cell? ⟨w.heap.size + 1 + 1, 5, none⟩ = some (.slice a6 x.to.length c6) := by rw [hw, box3_3]; rfl
    clear hw
    have hat1' := hat1.below hbel
    have hat2' := hat2.below hbel
    have hat6' := hat6.below hbel
    have hp' := Good.keep (S' := fun _ => True) (Keep.of_below' hbel (fun k hk _ => hk)) (fun _ _ h => h) hp
    clear hat1 hat2 hat6 hp
    have Hlow := Lib.hid hbel
    clear hbel
    by_cases e1 : x.ds.length = d
    case neg =>
      have hb1 : ((x.ds.length : Int) != (d : Int)) = true := by simp; omega
      have Har := Lib.hid har
      clear har hat1' hat2' hat6' hp'
      go_wp2_with fail
      go_ret
      exact ⟨by rw [instrFaultF_count Har.out (Or.inl e1)]; rfl, Hlow.out⟩
    subst e1
    by_cases e2 : x.ars.length = a
    case neg =>
      have hb1 : ((x.ars.length : Int) != (a : Int)) = true := by simp; omega
      have Har := Lib.hid har
      clear har hat1' hat2' hat6' hp'
      go_wp2_with fail
      go_ret
      exact ⟨by rw [instrFaultF_count Har.out (Or.inr (Or.inl e2))]; rfl, Hlow.out⟩
    subst e2
    by_cases e3 : x.to.length = t
    case neg =>
      have hb1 : ((x.to.length : Int) != (t : Int)) = true := by simp; omega
      have Har := Lib.hid har
      clear har hat1' hat2' hat6' hp'
      go_wp2_with fail
      go_ret
      exact ⟨by rw [instrFaultF_count Har.out (Or.inr (Or.inr e3))]; rfl, Hlow.out⟩
    subst e3
    have Har := Lib.hid har
    clear har
    have Hp := Lib.hid hp'
    clear hp'
    have Hat1 := Lib.hid hat1'
    have Hat2 := Lib.hid hat2'
    have Hat6 := Lib.hid hat6'
    clear hat1' hat2' hat6'
    have f1 := fun c => allIn_any 0 (vars - 1) a1 x.ds c wc hl1 Hat1.out
    have f2 := fun c => allIn_any 0 (vars - 1) a2 x.ars c wc hl2 Hat2.out
    have f6 := fun c => allIn_any 0 ((nb : Int) - 1) a6 x.to c wc hl6 Hat6.out
    have F1 := Lib.hid f1
    have F2 := Lib.hid f2
    have F6 := Lib.hid f6
    clear f1 f2 f6
    go_wp2_with fail
    refine (F1.out _).mono ?_
    rintro e w1 ⟨rfl, rfl⟩
    cases r1 : (x.ds.all fun x => decide (0 ≤ x) && decide (x ≤ vars - 1)) with
    | false =>
      have R1 := Lib.hid r1
      clear r1
      go_wp2_with fail
      go_ret
      exact ⟨by rw [instrFaultF_range Har.out (by unfold inAll; rw [R1.out]; rfl)]; rfl, Hlow.out⟩
    | true =>
    have R1 := Lib.hid r1
    clear r1
    go_wp2_with fail
    refine (F2.out _).mono ?_
    rintro e w1 ⟨rfl, rfl⟩
    cases r2 : (x.ars.all fun x => decide (0 ≤ x) && decide (x ≤ vars - 1)) with
    | false =>
      have R2 := Lib.hid r2
      clear r2
      go_wp2_with fail
      go_ret
      exact ⟨by rw [instrFaultF_range Har.out (by unfold inAll; rw [R2.out]; simp)]; rfl, Hlow.out⟩
    | true =>
    have R2 := Lib.hid r2
    clear r2
    go_wp2_with fail
    refine (F6.out _).mono ?_
    rintro e w1 ⟨rfl, rfl⟩
    cases r6 : (x.to.all fun x => decide (0 ≤ x) && decide (x ≤ (nb : Int) - 1)) with
    | false =>
      have R6 := Lib.hid r6
      clear r6
      go_wp2_with fail
      go_ret
      exact ⟨by rw [instrFaultF_range Har.out (by unfold inAll; rw [R6.out]; simp)]; rfl, Hlow.out⟩
    | true =>
    have R6 := Lib.hid r6
    clear r6
    have hgood := instrFaultF_good (fs := fs) (vars := vars) (results := results) (nb := nb) Har.out (by unfold inAll; rw [R1.out, R2.out, R6.out]; rfl)
    have Hg := Lib.hid hgood
    clear hgood Har R1 R2 R6 F1 F2 F6 Hat2 Hat6
    by_cases h3 : op = 3
    · subst h3
      go_wp2_with fail
      refine (isMath_any x.s wc).mono ?_
      rintro e w1 ⟨rfl, hb1⟩
      have bx0' := hb1.cell (p := ⟨w.heap.size + 1 + 1, 0, none⟩) (by show w.heap.size + 1 + 1 < wc.heap.size; omega)
      rw [bx0] at bx0'
      cases hm : decide (x.s ∈ mathsF) with
      | false =>
        have Hm := Lib.hid hm
        clear hm
        go_wp2_with fail
        go_ret
        exact ⟨by rw [Hg.out, hop, if_pos rfl, if_neg (of_decide_eq_false Hm.out)]; rfl, Hlow.out.trans (hb1.mono (by omega))⟩
      | true =>
        have Hm := Lib.hid hm
        clear hm
        go_wp2_with fail
        go_ret
        exact ⟨by rw [Hg.out, hop, if_pos rfl, if_pos (of_decide_eq_true Hm.out)]; rfl, Hlow.out.trans (hb1.mono (by omega))⟩
    by_cases h8 : op = 8
    · subst h8
      by_cases t1 : x.s = sText
      · have q1 : (x.s.toList == [116, 101, 120, 116]) = true := str_eqc t1
        have q2 : (x.s.toList == [105, 110, 116]) = false := str_nec (y := sInt) (by rw [t1]; decide)
        have q3 : (x.s.toList == [98, 111, 111, 108]) = false := str_nec (y := sBool) (by rw [t1]; decide)
        have T1 := Lib.hid t1
        clear t1
        by_cases l2 : x.ars.length = 2
        · have L2 := Lib.hid l2
          rw [l2] at bx2 ⊢
          go_wp2_with fail
          go_ret
          exact ⟨by rw [Hg.out, hop, if_neg (by decide), if_pos rfl, if_pos T1.out, if_pos L2.out]; rfl, Hlow.out⟩
        · have lb2 : ((x.ars.length : Int) != 2) = true := by simp; omega
          have L2 := Lib.hid l2
          clear l2
          go_wp2_with fail
          go_ret
          exact ⟨by rw [Hg.out, hop, if_neg (by decide), if_pos rfl, if_pos T1.out, if_neg L2.out]; rfl, Hlow.out⟩
      · have q1 : (x.s.toList == [116, 101, 120, 116]) = false := str_nec (y := sText) t1
        have T1 := Lib.hid t1
        clear t1
        by_cases t2 : x.s = sInt ∨ x.s = sBool
        · have T2 := Lib.hid t2
          by_cases l2 : x.ars.length = 1
          · have L2 := Lib.hid l2
            rw [l2] at bx2 ⊢
            by_cases t3 : x.s = sInt
            · have q2 : (x.s.toList == [105, 110, 116]) = true := str_eqc (y := sInt) t3
              clear t2 t3
              go_wp2_with fail
              go_ret
              exact ⟨by rw [Hg.out, hop, if_neg (by decide), if_pos rfl, if_neg T1.out, if_pos T2.out, if_pos L2.out]; rfl, Hlow.out⟩
            · have q2 : (x.s.toList == [105, 110, 116]) = false := str_nec (y := sInt) t3
              have q3 : (x.s.toList == [98, 111, 111, 108]) = true := str_eqc (y := sBool) (t2.resolve_left t3)
              clear t2 t3
              go_wp2_with fail
              go_ret
              exact ⟨by rw [Hg.out, hop, if_neg (by decide), if_pos rfl, if_neg T1.out, if_pos T2.out, if_pos L2.out]; rfl, Hlow.out⟩
          · have lb2 : ((x.ars.length : Int) != 1) = true := by simp; omega
            have L2 := Lib.hid l2
            clear l2
            by_cases t3 : x.s = sInt
            · have q2 : (x.s.toList == [105, 110, 116]) = true := str_eqc (y := sInt) t3
              clear t2 t3
              go_wp2_with fail
              go_ret
              exact ⟨by rw [Hg.out, hop, if_neg (by decide), if_pos rfl, if_neg T1.out, if_pos T2.out, if_neg L2.out]; rfl, Hlow.out⟩
            · have q2 : (x.s.toList == [105, 110, 116]) = false := str_nec (y := sInt) t3
              have q3 : (x.s.toList == [98, 111, 111, 108]) = true := str_eqc (y := sBool) (t2.resolve_left t3)
              clear t2 t3
              go_wp2_with fail
              go_ret
              exact ⟨by rw [Hg.out, hop, if_neg (by decide), if_pos rfl, if_neg T1.out, if_pos T2.out, if_neg L2.out]; rfl, Hlow.out⟩
        · have q2 : (x.s.toList == [105, 110, 116]) = false := str_nec (y := sInt) (fun h => t2 (Or.inl h))
          have q3 : (x.s.toList == [98, 111, 111, 108]) = false := str_nec (y := sBool) (fun h => t2 (Or.inr h))
          have T2 := Lib.hid t2
          clear t2
          go_wp2_with fail
          go_ret
          exact ⟨by rw [Hg.out, hop, if_neg (by decide), if_pos rfl, if_neg T1.out, if_neg T2.out]; rfl, Hlow.out⟩
    by_cases h12 : op = 12
    · subst h12
      by_cases l2 : (x.ars.length : Int) = results
      · have L2 := Lib.hid l2
        subst l2
        go_wp2_with fail
        go_ret
        exact ⟨by rw [Hg.out, hop, if_neg (by decide), if_neg (by decide), if_pos rfl, if_pos trivial]; rfl, Hlow.out⟩
      · have lb2 : ((x.ars.length : Int) != results) = true := by simpa using l2
        have L2 := Lib.hid l2
        clear l2
        go_wp2_with fail
        go_ret
        exact ⟨by rw [Hg.out, hop, if_neg (by decide), if_neg (by decide), if_pos rfl, if_neg L2.out]; rfl, Hlow.out⟩
    by_cases h13 : op = 13
    · subst h13
      go_wp2_with fail
      refine (refIn_any x.n 2 5 wc).mono ?_
      rintro e w1 ⟨rfl, rfl⟩
      cases rn : (decide (2 ≤ x.n) && decide (x.n ≤ 5)) with
      | true =>
        have Rn := Lib.hid rn
        clear rn
        go_wp2_with fail
        go_ret
        exact ⟨by rw [Hg.out, hop, if_neg (by decide), if_neg (by decide), if_neg (by decide), if_pos rfl, if_pos (by simpa using Rn.out)]; rfl, Hlow.out⟩
      | false =>
        have Rn := Lib.hid rn
        clear rn
        go_wp2_with fail
        go_ret
        exact ⟨by rw [Hg.out, hop, if_neg (by decide), if_neg (by decide), if_neg (by decide), if_pos rfl, if_neg (by have := Rn.out; simp at this; omega)]; rfl, Hlow.out⟩
    by_cases h7 : op = 7
    case neg =>
      have o3 : (op == 3) = false := by simpa using h3
      have o8 : (op == 8) = false := by simpa using h8
      have o12 : (op == 12) = false := by simpa using h12
      have o13 : (op == 13) = false := by simpa using h13
      have o7 : (op != 7) = true := by simpa using h7
      have Hn := Lib.hid (And.intro h3 (And.intro h8 (And.intro h12 (And.intro h13 h7))))
      clear h3 h8 h12 h13 h7
      go_wp2_with fail
      go_ret
      exact ⟨by rw [Hg.out, hop, if_neg Hn.out.1, if_neg Hn.out.2.1, if_neg Hn.out.2.2.1, if_neg Hn.out.2.2.2.1, if_neg Hn.out.2.2.2.2]; rfl, Hlow.out⟩
    subst h7
    obtain ⟨ap, cp, rfl, hcapp, hmaxp, hatp⟩ := rCodes_val Hp.out
    have Hatp := Lib.hid hatp
    clear hatp
    unfold maxLen at hmaxp
    go_wp2_with fail
    refine (funcNamed_any x.s fs _ p1 wc Hp.out).mono ?_
    rintro e w1 ⟨rfl, hb1⟩
    have bp0' := hb1.cell (p := ⟨w.heap.size, 0, none⟩) (by show w.heap.size < wc.heap.size; omega)
    rw [bp0] at bp0'
    have bx1' := hb1.cell (p := ⟨w.heap.size + 1 + 1, 1, none⟩) (by show w.heap.size + 1 + 1 < wc.heap.size; omega)
    rw [bx1] at bx1'
    have hat1 := Hat1.out.below hb1
    have Hl := Lib.hid (Hlow.out.trans (hb1.mono (by omega)))
    rcases firstOf_spec (fun c : PCode => decide (c.name = x.s)) fs 0 with ⟨hk, -⟩ | ⟨k, hkl, hk, -, -⟩
    · have hk' : nameAt x.s fs = -1 := hk
      have Hk := Lib.hid hk'
      rw [hk']
      clear hk hk' hat1 hb1
      go_wp2_with fail
      go_ret
      exact ⟨by rw [Hg.out, hop, if_neg (by decide), if_neg (by decide), if_neg (by decide), if_neg (by decide), if_pos rfl]; unfold invokeFaultF; rw [Hk.out]; rfl, Hl.out⟩
    · have hk' : nameAt x.s fs = (k : Int) := by unfold nameAt; simpa using hk
      have Hk := Lib.hid hk'
      rw [hk']
      clear hk hk'
      obtain ⟨b, off, v5, rfl, -, hb, -, hcp, hcr, -⟩ := Hatp.out k hkl
      have hkl1 : (k : Int) < (fs.length : Int) := by omega
      have hcp' := hb1.cell (p := ⟨b, off + k * 6 + 1, none⟩) hb
      rw [hcp] at hcp'
      have hcr' := hb1.cell (p := ⟨b, off + k * 6 + 2, none⟩) hb
      rw [hcr] at hcr'
      have hinv : invokeFaultF fs x = if (x.ars.length : Int) ≠ fs[k].params ∨ (x.ds.length : Int) ≠ fs[k].results then 10 else if x.ds.Nodup then 0 else 7 := by
        unfold invokeFaultF
        rw [Hk.out, if_neg (by omega)]
        simp only [Int.toNat_natCast, List.getElem?_eq_getElem hkl]
      have Hi := Lib.hid hinv
      clear hinv hcp hcr hb1 hb
      generalize fs[k] = y at *
      by_cases e1 : (x.ars.length : Int) = y.params
      case neg =>
        have b1 : ((x.ars.length : Int) != y.params) = true := by simpa using e1
        have E1 := Lib.hid e1
        clear e1 hat1
        go_wp2_with fail
        go_ret
        exact ⟨by rw [Hg.out, hop, if_neg (by decide), if_neg (by decide), if_neg (by decide), if_neg (by decide), if_pos rfl, Hi.out, if_pos (Or.inl E1.out)]; rfl, Hl.out⟩
      have b1 : ((x.ars.length : Int) != y.params) = false := by simpa using e1
      have E1 := Lib.hid e1
      clear e1
      by_cases e2 : (x.ds.length : Int) = y.results
      case neg =>
        have b2 : ((x.ds.length : Int) != y.results) = true := by simpa using e2
        have E2 := Lib.hid e2
        clear e2 hat1
        go_wp2_with fail
        go_ret
        exact ⟨by rw [Hg.out, hop, if_neg (by decide), if_neg (by decide), if_neg (by decide), if_neg (by decide), if_pos rfl, Hi.out, if_pos (Or.inr E2.out)]; rfl, Hl.out⟩
      have b2 : ((x.ds.length : Int) != y.results) = false := by simpa using e2
      have E2 := Lib.hid e2
      clear e2
      have hres : instrFaultF fs vars results nb x = if x.ds.Nodup then 0 else 7 := by
        rw [Hg.out, hop, if_neg (by decide), if_neg (by decide), if_neg (by decide), if_neg (by decide), if_pos rfl, Hi.out, if_neg (by intro h; exact h.elim (fun h => h E1.out) (fun h => h E2.out))]
      have Hres := Lib.hid hres
      have Hat := Lib.hid hat1
      clear hres hat1 Hg Hi E1 E2 Hatp Hat1 Hp
      go_wp2_with fail
      go_loopw [11] (fun i wr => ∃ n : Nat, n ≤ x.ds.length ∧ i = .int .i64 n ∧ (x.ds.take n).Nodup ∧ Drawn w1 wr) (fun i _ => x.ds.length - (intOf i).toNat)
      case atStart => exact ⟨0, Nat.zero_le _, rfl, by simp, Drawn.refl _⟩
      case round =>
        obtain ⟨n, hn, rfl, hnd, hdr⟩ := hrel
        have Hnd := Lib.hid hnd
        clear hnd
        by_cases hnl : n < x.ds.length
        · have hnl1 : (n : Int) < (x.ds.length : Int) := by omega
          go_wp2_with fail
          go_loopw [12] (fun i wr => ∃ m : Nat, m ≤ n ∧ i = .int .i64 m ∧ (∀ j (hj : j < m) (hjn : j < x.ds.length), ¬ x.ds[j] = x.ds[n]) ∧ Drawn w1 wr) (fun i _ => n - (intOf i).toNat)
          case atStart => exact ⟨0, Nat.zero_le _, rfl, fun j hj => absurd hj (by omega), hdr⟩
          case round =>
            clear hdr
            obtain ⟨m, hm, rfl, hne, hdr⟩ := hrel
            have Hne := Lib.hid hne
            clear hne
            by_cases hmn : m < n
            · have hmn1 : (m : Int) < (n : Int) := by omega
              have hml1 : (m : Int) < (x.ds.length : Int) := by omega
              obtain ⟨b1, off1, rfl, hb1, hx1⟩ := Hat.out m (by omega)
              obtain ⟨b2, off2, hab, hb2, hx2⟩ := Hat.out n hnl
              obtain ⟨rfl, rfl⟩ : b1 = b2 ∧ off1 = off2 := by simpa using hab
              have hx1' : wr.cell? ⟨b1, off1 + m, none⟩ = some (.int .i64 x.ds[m]) := by rw [hdr.cell]; exact hx1
              have hx2' : wr.cell? ⟨b1, off1 + n, none⟩ = some (.int .i64 x.ds[n]) := by rw [hdr.cell]; exact hx2
              have bx1r : wr.cell? ⟨w.heap.size + 1 + 1, 1, none⟩ = some (.slice (some ⟨b1, off1, none⟩) x.ds.length c1) := by rw [hdr.cell]; exact bx1'
              clear hx1 hx2 hab
              by_cases he : x.ds[m] = x.ds[n]
              · have hee : (x.ds[m] == x.ds[n]) = true := by simpa using he
                have Hnn := Lib.hid (not_nodup_of hnl hmn he)
                clear he
                generalize x.ds[m] = q1 at *
                generalize x.ds[n] = q2 at *
                go_wp2_with fail
                go_quiet (fail)
                go_wp2_with fail
                go_ret
                exact ⟨by rw [Hres.out, if_neg Hnn.out]; rfl, Hl.out.trans ((hdr.more _).below _)⟩
              · have hee : (x.ds[m] == x.ds[n]) = false := by simpa using he
                have Hnn := Lib.hid (show ∀ j (hj : j < m + 1) (hjn : j < x.ds.length), ¬ x.ds[j] = x.ds[n] from fun j hj hjn => by
                  by_cases h : j < m
                  · exact Hne.out j h hjn
                  · obtain rfl : j = m := by omega
                    exact he)
                clear he
                generalize hq1 : x.ds[m] = q1 at *
                generalize hq2 : x.ds[n] = q2 at *
                clear hq1
                have Hq2 := Lib.hid hq2
                clear hq2
                go_wp2_with fail
                go_quiet (fail)
                go_wp2_with fail
                go_roundw
                case rel => exact ⟨m + 1, by omega, by go_num, Hnn.out, hdr.more _⟩
                case measure => simp [intOf]; omega
            · have hme : m = n := by omega
              subst hme
              have Hnn := Lib.hid (nodup_take_succ hnl Hnd.out (fun j hj => Hne.out j hj (by omega)))
              go_wp2_with fail
              go_roundw
              case rel => exact ⟨m + 1, by omega, by go_num, Hnn.out, hdr⟩
              case measure => simp [intOf]; omega
        · have hne : n = x.ds.length := by omega
          have Hnn := Lib.hid (show x.ds.Nodup by have := Hnd.out; rw [hne, List.take_length] at this; exact this)
          subst hne
          clear Hnd
          go_wp2_with fail
          go_ret
          exact ⟨by rw [Hres.out, if_pos Hnn.out]; rfl, Hl.out.trans (hdr.below _)⟩
end Go.Proofs.YthgfdcoicihpdaaDoor

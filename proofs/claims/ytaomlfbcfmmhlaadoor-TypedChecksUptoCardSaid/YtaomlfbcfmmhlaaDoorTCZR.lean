/-
  Texts joined: YInG.
-/
import Derived.Test.YtaomlfbcfmmhlaaDoorTCZQ
import Derived.Test.YtaomlfbcfmmhlaaDoorTCZK
import Derived.Deep.RegionHeld3
import Derived.Test.YtaomlfbcfmmhlaaDoorTCT

/-
  posternref's typer: stmtInner at a switch: every kind: the contract (printed by wip/gen_yinner.py).
-/
namespace Go.Proofs.YtaomlfbcfmmhlaaDoor
open Go.RowKit Go.Pst
set_option linter.unusedVariables false
set_option linter.unusedSimpArgs false

/-- The map of the numbers that were there. -/
def SeenIs (m : IMap Int) (seen : List Int) : Prop := ∀ n, lookI m n = if n ∈ seen then some (.bool true) else none
theorem SeenIs.put {m : IMap Int} {seen : List Int} (h : SeenIs m seen) (n : Int) : SeenIs (putI m n (.bool true)) (seen ++ [n]) := fun x => by
  by_cases e : n = x
  · subst e; rw [lookI_put_same, if_pos (by simp)]
  · rw [lookI_put_other m _ e, h x]
    have e' : ¬ x = n := fun h => e h.symm
    simp [e']
theorem casesT_step {f : List PStmt → Except Int (List Scope)} {G : List Scope} {seen : List Int} {c : List Int × List PStmt} {r : List (List Int × List PStmt)} (h0 : ¬ c.1.length = 0) : casesT f G seen (c :: r) = match numsT seen c.1 with | .error e => .error e | .ok seen' => match f c.2 with | .error e => .error e | .ok _ => casesT f G seen' r := by
  rw [casesT, if_neg h0]
  cases numsT seen c.1 with
  | error e => rfl
  | ok s' => cases f c.2 <;> rfl

set_option maxRecDepth 10000 in
set_option maxHeartbeats 4000000 in
theorem yInner_7 {fs : List PFunc} {dF : Nat} {res : Int} {base by_ : Nat} {vf : Value} {cf : List Value} {d : Nat} (hS : YStmtSaid fs dF res base by_ vf cf d) (s : PStmt) (cs : List Value) (w : World) (V : Fin 3 → Value) (G : List Scope) (lp : Int) (k : Nat) (h : YIn fs dF res 2 2000001 w base by_ vf cf V G lp (k + 1)) (hlp : lp + 1 ≤ ((k + 1 : Nat) : Int)) (hpos : 0 < G.length)
    (hr : rStmt (d + 1) (· < base) w cs s) (hf : FitS (d + 1) s) (hsm : SmallS (d + 1) s) (hk : s.kind = 7) (hnb : ¬ BadCount s) :
    Calls Tryd.prog 145 #[.pointer (some ⟨by_, 0, none⟩), .agg cs.toArray] w (YStmtPost w base by_ vf cf V G lp (k + 1) (stmtT fs res (d + 1) lp.toNat k G s)) := by
  obtain ⟨v3, v4, v5, v6, rfl, ⟨hI0, hI1, hI2⟩, r3, r4, r5, r6⟩ := hr
  obtain ⟨a3, c3, rfl⟩ := rSlice_shape r3
  obtain ⟨a4, c4, rfl⟩ := rSlice_shape r4
  obtain ⟨a5, c5, rfl⟩ := rSlice_shape r5
  obtain ⟨a6, c6, rfl⟩ := rSlice_shape r6
  obtain ⟨⟨f1, f2⟩, ⟨f3, f4⟩, ⟨f5, f6⟩, ⟨f7, f8⟩, f9⟩ := hf
  obtain ⟨⟨sm1, sm2⟩, ⟨sm3, sm4⟩, sm5⟩ := hsm
  have hnb' : ¬ ((0 ≤ exprsN s.kind ∧ exprsN s.kind ≠ s.exprs.length) ∨ 2 < s.exprs.length) := hnb
  rw [hk, show exprsN (7 : Int) = 1 by decide] at hnb'
  have hlt := h.at_.lb.2
  have hbase := h.at_.lb.1
  have hdeep := h.deep
  have hgb := h.gb
  rw [hk]
  obtain ⟨W, hW⟩ : ∃ W, W = w.alloc (.cells #[.int .i64 7, .string s.s, .string s.t, .slice a3 s.exprs.length c3, .slice a4 s.body.length c4, .slice a5 s.els.length c5, .slice a6 s.cases.length c6] 141) := ⟨_, rfl⟩
  have sA : Since (fun _ => False) w W := by rw [hW]; exact Since.alloc _ _ _
  have q0 : W.cell? ⟨w.heap.size, 0, none⟩ = some (.int .i64 7) := by rw [hW, World.cell?_alloc_at _ _ _ _ rfl]; rfl
  have q1 : W.cell? ⟨w.heap.size, 1, none⟩ = some (.string s.s) := by rw [hW, World.cell?_alloc_at _ _ _ _ rfl]; rfl
  have q2 : W.cell? ⟨w.heap.size, 2, none⟩ = some (.string s.t) := by rw [hW, World.cell?_alloc_at _ _ _ _ rfl]; rfl
  have q3 : W.cell? ⟨w.heap.size, 3, none⟩ = some (.slice a3 s.exprs.length c3) := by rw [hW, World.cell?_alloc_at _ _ _ _ rfl]; rfl
  have q4 : W.cell? ⟨w.heap.size, 4, none⟩ = some (.slice a4 s.body.length c4) := by rw [hW, World.cell?_alloc_at _ _ _ _ rfl]; rfl
  have q5 : W.cell? ⟨w.heap.size, 5, none⟩ = some (.slice a5 s.els.length c5) := by rw [hW, World.cell?_alloc_at _ _ _ _ rfl]; rfl
  have q6 : W.cell? ⟨w.heap.size, 6, none⟩ = some (.slice a6 s.cases.length c6) := by rw [hW, World.cell?_alloc_at _ _ _ _ rfl]; rfl
  have hlW : w.heap.size < W.heap.size := by rw [hW]; simp
  have n2 : w.heap.size ≠ by_ := by omega
  have hmm : ∀ j, YM by_ V j → base ≤ j ∧ j < w.heap.size := fun j hj => h.at_.mem_lt hj
  have nY : ¬ YM by_ V w.heap.size := fun f => by have := (hmm _ f).2; omega
  have hin : YIn fs dF res 2 2000001 W base by_ vf cf V G lp (k + 1) := h.next (h.at_.since sA (fun _ e => e.elim)) (sA.mono (fun _ e => e.elim)) h.uniq h.deep h.pos h.len h.loops h.names
  obtain ⟨R, hR⟩ : ∃ R, R = stmtT fs res (d + 1) lp.toNat k G s := ⟨_, rfl⟩
  obtain ⟨x, hxe⟩ : ∃ x, s.exprs = [x] := by
    match hq : s.exprs, (show s.exprs.length = 1 by omega) with
    | [x], _ => exact ⟨x, rfl⟩
  have hfx : FitX d x := f2 x (by rw [hxe]; simp)
  have r3' := r3
  rw [hxe] at r3'
  obtain ⟨b, off, cap, ax, cx, hv, hSb, hbl, x0, x1, x2, x3, hrx⟩ := rExprs_get r3' 0 (by simp)
  obtain ⟨rfl, -, rfl⟩ := Value.slice.inj hv
  simp only [List.getElem_cons_zero, Nat.zero_mul, Nat.add_zero] at x0 x1 x2 x3 hrx
  have tx := fun o => sA.cell (o := o) hbl (fun e => e)
  have y0 := (tx _).trans x0
  have y1 := (tx _).trans x1
  have y2 := (tx _).trans x2
  have y3 := (tx _).trans x3
  have hbn : b ≠ by_ := by omega
  have hrx2 : rExpr d (· < base) W _ x := Good.kept (sA.keep.weaken (fun _ _ _ e => e.elim)) hrx
  have hval := yWorth_any hin.expr hrx2 hfx
  have Hval := Lib.hid hval
  have hl0 : (0 : Int) < (s.exprs.length : Int) := by rw [hxe]; simp
  have hl1 : 0 < s.exprs.length := by rw [hxe]; simp
  have HR := Lib.hid (show R = switchT fs res d lp.toNat (k + 1) G x s.els s.cases by
    rw [hR]
    unfold stmtT
    rw [hk, if_neg (by omega), show exprsN (7 : Int) = 1 by decide, if_neg hnb', if_neg (by omega), hxe]
    simp [ifT, forT, rangeT, switchT]
    try rfl)
  rw [← hR]
  have Hin := Lib.hid hin
  have HY := Lib.hid hin.at_
  have SA := Lib.hid (sA.mono (G := YM by_ V) (fun _ e => e.elim))
  have SA0 := Lib.hid sA
  have Hmm := Lib.hid hmm
  have HnY := Lib.hid nY
  have HSt := Lib.hid hS
  have HI1 := Lib.hid hI1
  have HI2 := Lib.hid hI2
  have Hlp := Lib.hid hlp
  have Hpos := Lib.hid hpos
  have hbad : ∀ (e : Int) (w1 : World) (k' : Int), R = .error e → e ≠ 0 → YAt w1 base by_ vf cf V (YSt.of G lp k') → Since (YM by_ V) w w1 → YStmtPost w base by_ vf cf V G lp (k + 1) R (.returned (.int .i64 e)) w1 := fun e w1 k' hRe he h1 h2 => ⟨e, rfl, by rw [hRe]; exact ⟨rfl, he, G, lp, k', Nat.le_refl _, hgb, V, h1, h2, YAt.NewY.refl _ _ _⟩⟩
  have hok : ∀ (w1 : World), R = .ok G → YAt w1 base by_ vf cf V (YSt.of G lp ((k + 1 : Nat) : Int)) → Since (YM by_ V) w w1 → YStmtPost w base by_ vf cf V G lp (k + 1) R (.returned (.int .i64 0)) w1 := fun w1 hRe h1 h2 => ⟨0, rfl, by rw [hRe]; exact ⟨rfl, ⟨V, h1, h2, YAt.NewY.refl _ _ _⟩, h.uniq, SameG.of rfl, by omega⟩⟩
  have Hbad := Lib.hid hbad
  have Hok := Lib.hid hok
  have r4W : ∀ w', Since (YM by_ V) w w' → rSlice 7 (rStmt d) (· < base) w' [.slice a4 s.body.length c4] s.body := fun w' hs => Good.kept (hs.keep.weaken (fun j _ hj e => by have := (hmm j e).1; omega)) r4
  have r5W : ∀ w', Since (YM by_ V) w w' → rSlice 7 (rStmt d) (· < base) w' [.slice a5 s.els.length c5] s.els := fun w' hs => Good.kept (hs.keep.weaken (fun j _ hj e => by have := (hmm j e).1; omega)) r5
  have R4 := Lib.hid r4W
  have R5 := Lib.hid r5W
  have F4 := Lib.hid f4
  have F6 := Lib.hid f6
  have S2 := Lib.hid sm2
  have S4 := Lib.hid sm4
  have L1 := Lib.hid sm1
  have L3 := Lib.hid sm3
  have hG1 : G.length + 2 ≤ 2 + 2 * (k + 1) := h.len
  have hG2 : (flatG G).length + 2000001 ≤ (k + 1 + 1) * 2000000 := h.names
  have hG3 := h.loops
  have HG := Lib.hid (And.intro hG1 (And.intro hG2 hG3))
  have HU := Lib.hid h.uniq
  have HDp := Lib.hid h.deep
  have HIN := Lib.hid h
  clear r4W r5W hG1 hG2 hG3
  obtain ⟨a6', c6', hv6, hcl6, hcat⟩ := rCases_get r6
  obtain ⟨rfl, -, rfl⟩ := Value.slice.inj hv6
  have Hcat := Lib.hid hcat
  have Hfc := Lib.hid f8
  have Hsc := Lib.hid sm5
  clear hcat hv6
  clear hxe hfx r3' hv x0 x1 x2 x3 tx hrx hrx2 hval
  clear h hin hS hnb hnb' hR hbad hok hgb sA hmm nY hI0 hI1 hI2 hlp hpos hdeep r3 r4 r5 r6 f1 f2 f3 f4 f5 f6 f7 f8 f9 sm1 sm2 sm3 sm4 sm5
  subst hW
  go_enter Tryd.func145, Tryd.ntmps145
  go_wp2_with fail
  refine Hval.out.mono ?_
  rintro en w1 ⟨t, e, k', rfl, hy1, hs1, hp1⟩
  have HY1 := Lib.hid hy1
  have HS1 := Lib.hid hs1
  have HSM := Lib.hid (SA.out.trans (hs1.mono (G := YM by_ V) (fun j e => Or.inl e)))
  have z0 := (hs1.cell (o := 0) hlW n2).trans q0
  have z1 := (hs1.cell (o := 1) hlW n2).trans q1
  have z2 := (hs1.cell (o := 2) hlW n2).trans q2
  have z4 := (hs1.cell (o := 4) hlW n2).trans q4
  have z5 := (hs1.cell (o := 5) hlW n2).trans q5
  have z6 := (hs1.cell (o := 6) hlW n2).trans q6
  clear hy1 hs1 q0 q1 q2 q3 q4 q5 q6
  cases hE : valuedT (exprT fs G d (k + 1) x) with
  | error e' =>
    rw [hE] at hp1
    obtain ⟨rfl, hne⟩ := hp1
    have he1 : (e != 0) = true := by simpa using hne
    have he2 : (e == 0) = false := by simpa using hne
    have HP := Lib.hid (Hbad.out e w1 _ (by rw [HR.out, switchT, hE]) hne HY1.out HSM.out)
    clear hne hE
    go_wp2_with fail
    go_ret
    exact HP.out
  | ok u =>
    rw [hE] at hp1
    obtain ⟨rfl, rfl, rfl⟩ := hp1
    have HE := Lib.hid hE
    clear hE
    by_cases ht : t = 1
    rotate_left
    · have ht1 : (t != 1) = true := by simpa using ht
      have HP := Lib.hid (Hbad.out 9 w1 _ (by rw [HR.out, switchT, HE.out]; simp only [ne_eq, ht, not_false_eq_true, if_true]) (by decide) HY1.out HSM.out)
      clear ht
      go_wp2_with fail
      go_ret
      exact HP.out
    have ht1 : (t != 1) = false := by simp [ht]
    obtain ⟨f, hf⟩ : ∃ f, f = blockT (stmtT fs res d lp.toNat (k + 1)) G := ⟨_, rfl⟩
    have Hff := Lib.hid hf
    have HR2 := Lib.hid (show R = match casesT f G [] s.cases with | .error e => .error e | .ok _ => blockT (stmtT fs res d lp.toNat (k + 1)) G s.els by rw [HR.out, switchT, HE.out, hf]; simp only [ht]; rfl)
    have hmk := @run_makeMap Tryd.prog
    have hw1l : w.heap.size < w1.heap.size := Nat.lt_of_lt_of_le hlW HS1.out.size
    have hY1m := HY1.out.since (Since.alloc (fun _ => False) w1 (.map #[] 0)) (fun _ e => e.elim)
    have HYm := Lib.hid hY1m
    have Hm0 := Lib.hid (MapI.made Int w1)
    have Hnb0 := Lib.hid (show ¬ YM by_ V w1.heap.size from fun f => by have := (HY1.out.mem_lt f).2; omega)
    have Hsm0 := Lib.hid (Since.alloc (YM by_ V) w1 (.map #[] 0))
    clear ht hf hY1m
    go_wp2_with fail
    go_loopw [21] (fun s21 wr => ∃ (i : Nat) (seen : List Int) (m : IMap Int) (Vi : Fin 3 → Value), i ≤ s.cases.length ∧ s21 = .int .i64 i ∧ casesT f G [] s.cases = casesT f G seen (s.cases.drop i) ∧ MapI wr w1.heap.size m ∧ SeenIs m seen ∧ YAt wr base by_ vf cf Vi (YSt.of G lp ((k + 1 : Nat) : Int)) ∧ Since (YM by_ V) w1 wr ∧ YAt.NewY w1 by_ V Vi ∧ ¬ YM by_ Vi w1.heap.size) (fun s21 _ => s.cases.length - (intOf s21).toNat)
    case atStart => exact ⟨0, [], [], V, Nat.zero_le _, rfl, by simp, Hm0.out, fun n => by simp [lookI], HYm.out, Hsm0.out, YAt.NewY.refl _ _ _, Hnb0.out⟩
    case round =>
      obtain ⟨i, seen, m, Vi, hi, rfl, hcs, hm, hsn, hyi, hsi, hni, hnb⟩ := hrel
      have Hcs := Lib.hid hcs
      have Hm := Lib.hid hm
      have Hsn := Lib.hid hsn
      have Hyi := Lib.hid hyi
      have Hsi := Lib.hid hsi
      have Hni := Lib.hid hni
      have Hnb := Lib.hid hnb
      have z6r := (hsi.cell (o := 6) hw1l HnY.out).trans z6
      have z5r := (hsi.cell (o := 5) hw1l HnY.out).trans z5
      clear hcs hm hsn hyi hsi hni hnb
      by_cases hil : i < s.cases.length
      · have hi0 : (0 : Int) ≤ i := by omega
        have hi1 : (i : Int) < (s.cases.length : Int) := by omega
        have hwk : IntKind.i64.wrap ((i : Int) + 1) = (i : Int) + 1 := IntWalk.i64_in _ (by omega)
        obtain ⟨b6, off6, a0, c0, a1, c1, rfl, hSb6, hbl6, x60, x61, hnr, hbr⟩ := Hcat.out i hil
        have hsw := HSM.out.trans Hsi.out
        have hw := fun o => hsw.cell (o := o) hbl6 (fun f => by have := (Hmm.out _ f).1; omega)
        have y60 := (hw _).trans x60
        have y61 := (hw _).trans x61
        have Hd := Lib.hid (List.drop_eq_getElem_cons hil : s.cases.drop i = s.cases[i] :: s.cases.drop (i + 1))
        have hfc := Hfc.out s.cases[i] (List.getElem_mem hil)
        have hsc := Hsc.out s.cases[i] (List.getElem_mem hil)
        have Hfci := Lib.hid (And.intro hfc hsc)
        have Hbr := Lib.hid hbr
        have Hnr := Lib.hid hnr
        clear x60 x61 hw hnr hbr hsw hfc hsc
        generalize s.cases[i] = c at *
        by_cases hemp : c.1.length = 0
        · have hemp' : ((c.1.length : Int) == 0) = true := by rw [hemp]; rfl
          have HP : YStmtPost w base by_ vf cf V G lp (k + 1) R (.returned (.int .i64 10)) wr := ⟨10, rfl, by
            rw [HR2.out, Hcs.out, Hd.out, casesT, if_pos hemp]
            exact ⟨rfl, by decide, G, lp, _, Nat.le_refl _, HIN.out.gb, YDone.trans HSM.out (YAt.NewY.refl _ _ _) ⟨Vi, Hyi.out, Hsi.out, Hni.out⟩⟩⟩
          have HP := Lib.hid HP
          clear hemp
          go_wp2_with fail
          go_ret
          exact HP.out
        · have hemp' : ((c.1.length : Int) == 0) = false := by rw [beq_eq_false_iff_ne]; omega
          have Hstep := Lib.hid (show casesT f G [] s.cases = match numsT seen c.1 with | .error e => .error e | .ok seen' => match f c.2 with | .error e => .error e | .ok _ => casesT f G seen' (s.cases.drop (i + 1)) by rw [Hcs.out, Hd.out, casesT_step hemp])
          clear hemp
          obtain ⟨wo, hwo⟩ : ∃ wo, wo = wr := ⟨_, rfl⟩
          subst hwo
          go_wp2_with fail
          go_loopw [22] (fun s22 wq => ∃ (j : Nat) (seen' : List Int) (m' : IMap Int), j ≤ c.1.length ∧ s22 = .int .i64 j ∧ numsT seen c.1 = numsT seen' (c.1.drop j) ∧ MapI wq w1.heap.size m' ∧ SeenIs m' seen' ∧ YAt wq base by_ vf cf Vi (YSt.of G lp ((k + 1 : Nat) : Int)) ∧ Since (YM by_ V) w1 wq) (fun s22 _ => c.1.length - (intOf s22).toNat)
          case atStart => exact ⟨0, seen, m, Nat.zero_le _, rfl, by simp, Hm.out, Hsn.out, Hyi.out, Hsi.out⟩
          case round =>
            obtain ⟨wq, hwq0⟩ : ∃ wq, wq = wr := ⟨_, rfl⟩
            subst hwq0
            obtain ⟨j, seen', m', hj, rfl, hns, hm, hsn, hyq, hsq⟩ := hrel
            have Hns := Lib.hid hns
            have Hm' := Lib.hid hm
            have Hsn' := Lib.hid hsn
            have Hyq := Lib.hid hyq
            have Hsq := Lib.hid hsq
            have z6q := (hsq.cell (o := 6) hw1l HnY.out).trans z6
            have hswq := HSM.out.trans hsq
            have hwq := fun o => hswq.cell (o := o) hbl6 (fun f => by have := (Hmm.out _ f).1; omega)
            have hrq : wq.cell? ⟨b6, off6 + i * 2, none⟩ = some (.slice a0 c.1.length c0) := (hwq _).trans (((HSM.out.trans Hsi.out).cell (o := off6 + i * 2) hbl6 (fun f => by have := (Hmm.out _ f).1; omega)).symm.trans y60)
            have hrq1 : wq.cell? ⟨b6, off6 + i * 2 + 1, none⟩ = some (.slice a1 c.2.length c1) := (hwq _).trans (((HSM.out.trans Hsi.out).cell (o := off6 + i * 2 + 1) hbl6 (fun f => by have := (Hmm.out _ f).1; omega)).symm.trans y61)
            clear hns hm hsn hyq hsq hwq
            by_cases hjl : j < c.1.length
            · have hj0 : (0 : Int) ≤ j := by omega
              have hj1 : (j : Int) < (c.1.length : Int) := by omega
              obtain ⟨_, _, _, hnl63, _, _⟩ := rInts_open Hnr.out
              have hwj : IntKind.i64.wrap ((j : Int) + 1) = (j : Int) + 1 := IntWalk.i64_in _ (by omega)
              have hnrq : rInts (· < base) wq [.slice a0 c.1.length c0] c.1 := Good.kept (hswq.keep.weaken (fun j _ hj e => by have := (Hmm.out j e).1; omega)) Hnr.out
              obtain ⟨_, _, hva, -, hnat, -⟩ := rInts_open hnrq
              obtain ⟨rfl, -, rfl⟩ := Value.slice.inj hva
              obtain ⟨bn, on, rfl, hbn1, yn⟩ := hnat j hjl
              have Hdj := Lib.hid (List.drop_eq_getElem_cons hjl : c.1.drop j = c.1[j] :: c.1.drop (j + 1))
              clear hnrq hva hnat hswq
              generalize c.1[j] = n at *
              have herr : ∀ (e : Int) (w2 : World), e ≠ 0 → numsT seen c.1 = .error e → YAt w2 base by_ vf cf Vi (YSt.of G lp ((k + 1 : Nat) : Int)) → Since (YM by_ V) w1 w2 → YStmtPost w base by_ vf cf V G lp (k + 1) R (.returned (.int .i64 e)) w2 := fun e w2 he hn2 hy hs => ⟨e, rfl, by
                rw [HR2.out, Hstep.out, hn2]
                exact ⟨rfl, he, G, lp, _, Nat.le_refl _, HIN.out.gb, YDone.trans HSM.out (YAt.NewY.refl _ _ _) ⟨Vi, hy, hs, Hni.out⟩⟩⟩
              have Herr := Lib.hid herr
              clear herr
              cases hb : (decide ((-1099511627776 : Int) ≤ n) && decide (n ≤ 1099511627776)) with
              | false =>
                have Hb := Lib.hid hb
                have HP := Lib.hid (Herr.out 2 wq (by decide) (by rw [Hns.out, Hdj.out, numsT, if_pos (fun h => by simp [h] at hb)]) Hyq.out Hsq.out)
                clear hb
                go_wp2_with (first | (go_at_call 48; refine (refIn_any _ _ _ _).mono ?_; rintro e w' ⟨rfl, rfl⟩; rw [Hb.out]))
                go_ret
                exact HP.out
              | true =>
                have Hb := Lib.hid hb
                have hrange : -1099511627776 ≤ n ∧ n ≤ 1099511627776 := by simpa using hb
                have Hrange := Lib.hid hrange
                have hm := Hm'.out
                have hlk := Hsn'.out n
                clear hb hrange
                by_cases hin : n ∈ seen'
                · rw [if_pos hin] at hlk
                  have Hlk := Lib.hid hlk
                  have HP := Lib.hid (Herr.out 7 wq (by decide) (by rw [Hns.out, Hdj.out, numsT, if_neg (fun h => h Hrange.out), if_pos hin]) Hyq.out Hsq.out)
                  clear hin hlk
                  go_wp2_with (first | (go_at_call 48; refine (refIn_any _ _ _ _).mono ?_; rintro e w' ⟨rfl, rfl⟩; rw [Hb.out]) | (refine wpList_lookupI (κ := Int) rfl _ _ 220 false rfl Tryd.underlying220 Tryd.underlying3 (zero_bool _) w1.heap.size _ rfl hm n rfl ?_; rw [Hlk.out]; simp only [Option.getD_some, Bool.false_eq_true, if_false]))
                  go_ret
                  exact HP.out
                · rw [if_neg hin] at hlk
                  have Hlk := Lib.hid hlk
                  have Hin2 := Lib.hid hin
                  clear hin hlk
                  go_wp2_with (first | (go_at_call 48; refine (refIn_any _ _ _ _).mono ?_; rintro e w' ⟨rfl, rfl⟩; rw [Hb.out]) | (refine wpList_lookupI (κ := Int) rfl _ _ 220 false rfl Tryd.underlying220 Tryd.underlying3 (zero_bool _) w1.heap.size _ rfl hm n rfl ?_; rw [Hlk.out]; simp only [Option.getD_none, Bool.false_eq_true, if_false]) | (refine wpList_updateI (κ := Int) rfl _ _ _ 220 rfl Tryd.underlying220 Tryd.underlying3 w1.heap.size _ rfl hm n (.bool true) rfl rfl ?_; clear hm; intro w2 hm2 hgr))
                  have sg : Since (fun j => some w1.heap.size = some j) wq w2 := Since.grown hgr
                  have HM2 := Lib.hid hm2
                  have HY2 := Lib.hid (Hyq.out.since sg (fun j e hj => Hnb.out ((Option.some.inj e) ▸ hj)))
                  have HS2 := Lib.hid (Hsq.out.then_new sg (fun j e => Or.inr (by have := Option.some.inj e; omega)))
                  clear hm2 hgr sg
                  go_roundw
                  case rel => exact ⟨j + 1, seen' ++ [n], _, by omega, by go_num, by rw [Hns.out, Hdj.out, numsT, if_neg (fun h => h Hrange.out), if_neg Hin2.out], HM2.out, Hsn'.out.put n, HY2.out, HS2.out⟩
                  case measure => simp only [intOf]; omega
            · have hje : j = c.1.length := by omega
              have hjl1 : decide ((j : Int) < (c.1.length : Int)) = false := decide_eq_false (by omega)
              have Hnd := Lib.hid (show numsT seen c.1 = .ok seen' by rw [Hns.out, hje, List.drop_length]; rfl)
              have Hst2 := Lib.hid (show casesT f G [] s.cases = match f c.2 with | .error e => .error e | .ok _ => casesT f G seen' (s.cases.drop (i + 1)) by rw [Hstep.out, Hnd.out])
              have hbrq : rSlice 7 (rStmt d) (· < base) wq [.slice a1 c.2.length c1] c.2 := Good.kept (hswq.keep.weaken (fun j _ hj e => by have := (Hmm.out j e).1; omega)) Hbr.out
              have hblk := yBlock_any HSt.out c.2 (HIN.out.next Hyq.out hswq HU.out HDp.out (by omega) (by have := HG.out.1; omega) HG.out.2.2 (by have := HG.out.2.1; have := Hfci.out.2.1; omega)) _ hbrq Hfci.out.1.2.2 Hfci.out.2.2
              have Hblk := Lib.hid hblk
              have hwql : w1.heap.size < wq.heap.size := Hm'.out.lt
              clear hje hbrq hblk hswq
              go_wp2_with fail
              refine Hblk.out.mono ?_
              rintro en w3 ⟨e, rfl, hp3⟩
              have eF : blockT (stmtT fs res d lp.toNat (k + 1)) G c.2 = f c.2 := by rw [Hff.out]
              rw [eF] at hp3
              cases hB : f c.2 with
              | error e' =>
                rw [hB] at hp3
                obtain ⟨rfl, hne, G', lp', k', g1, g2, V3, g3, g4, g5⟩ := hp3
                have he1 : (e != 0) = true := by simpa using hne
                have HP : YStmtPost w base by_ vf cf V G lp (k + 1) R (.returned (.int .i64 e)) w3 := ⟨e, rfl, by
                  rw [HR2.out, Hst2.out, hB]
                  exact ⟨rfl, hne, G', lp', k', g1, g2, YDone.trans HSM.out (YAt.NewY.refl _ _ _) ⟨V3, g3, Hni.out.since Hsq.out g4, Hni.out.trans g5 Hsq.out.size⟩⟩⟩
                have HP := Lib.hid HP
                clear hne hB g1 g2 g3 g4 g5 eF
                go_wp2_with fail
                go_ret
                exact HP.out
              | ok G' =>
                rw [hB] at hp3
                have hG' : G' = G := blockT_same (eF.trans hB)
                subst hG'
                obtain ⟨rfl, ⟨V3, g3, g4, g5⟩, -⟩ := hp3
                have HY3 := Lib.hid g3
                have HS3 := Lib.hid (Hni.out.since Hsq.out g4)
                have HN3 := Lib.hid (Hni.out.trans g5 Hsq.out.size)
                have HM3 := Lib.hid (Hm'.out.heap (g4.block _ hwql Hnb.out))
                have HNb3 := Lib.hid (show ¬ YM by_ V3 w1.heap.size from fun f => by
                  rcases g5 _ f with e1 | e1
                  · exact Hnb.out e1
                  · omega)
                have Hst3 := Lib.hid (show casesT f G' [] s.cases = casesT f G' seen' (s.cases.drop (i + 1)) by rw [Hst2.out, hB])
                clear hB g3 g4 g5 eF
                go_wp2_with fail
                go_roundw
                case rel => exact ⟨i + 1, seen', m', V3, by omega, by go_num, Hst3.out, HM3.out, Hsn'.out, HY3.out, HS3.out, HN3.out, HNb3.out⟩
                case measure => simp only [intOf]; omega
      · have hie : i = s.cases.length := by omega
        have hil1 : decide ((i : Int) < (s.cases.length : Int)) = false := decide_eq_false (by omega)
        have HR3 := Lib.hid (show R = blockT (stmtT fs res d lp.toNat (k + 1)) G s.els by rw [HR2.out, Hcs.out, hie, List.drop_length]; rfl)
        have hsw := HSM.out.trans Hsi.out
        have hblk := yBlock_any HSt.out s.els (HIN.out.next Hyi.out hsw HU.out HDp.out (by omega) (by have := HG.out.1; omega) HG.out.2.2 (by have := HG.out.2.1; have := L3.out; omega)) _ (R5.out wr hsw) F6.out S4.out
        rw [← HR3.out] at hblk
        have Hblk := Lib.hid hblk
        have HSW := Lib.hid hsw
        clear hie hblk hsw
        go_wp2_with fail
        refine Hblk.out.mono ?_
        rintro en w3 hp3
        have HP : YStmtPost w base by_ vf cf V G lp (k + 1) R en w3 := YStmtPost.trans HSW.out (fun j hj => (Hni.out j hj).imp id (fun e => Nat.le_trans HSM.out.size e)) hp3
        obtain ⟨e3, rfl, -⟩ := hp3
        have HP := Lib.hid HP
        go_wp2_with fail
        go_ret
        exact HP.out

theorem yStmt_any (fs : List PFunc) (dF : Nat) (res : Int) (base by_ : Nat) (vf : Value) (cf : List Value) : ∀ d, YStmtSaid fs dF res base by_ vf cf d := by
  intro d
  induction d with
  | zero => intro s cs w V G lp k _ h _ _; exact h.elim
  | succ d ih =>
    refine yStmt_of_inner ?_
    intro s cs w V G lp k h hlp hpos hr hf hsm hkr hnb
    obtain ⟨j, hj⟩ := Int.eq_ofNat_of_zero_le (show 0 ≤ s.kind by omega)
    have : j = 1 ∨ j = 2 ∨ j = 3 ∨ j = 4 ∨ j = 5 ∨ j = 6 ∨ j = 7 ∨ j = 8 ∨ j = 9 ∨ j = 10 ∨ j = 11 ∨ j = 12 ∨ j = 13 := by omega
    rcases this with rfl | rfl | rfl | rfl | rfl | rfl | rfl | rfl | rfl | rfl | rfl | rfl | rfl
    · exact yInner_1 ih s cs w V G lp k h hlp hpos hr hf hsm hj hnb
    · exact yInner_2 ih s cs w V G lp k h hlp hpos hr hf hsm hj hnb
    · exact yInner_3 ih s cs w V G lp k h hlp hpos hr hf hsm hj hnb
    · exact yInner_4 ih s cs w V G lp k h hlp hpos hr hf hsm hj hnb
    · exact yInner_5 ih s cs w V G lp k h hlp hpos hr hf hsm hj hnb
    · exact yInner_6 ih s cs w V G lp k h hlp hpos hr hf hsm hj hnb
    · exact yInner_7 ih s cs w V G lp k h hlp hpos hr hf hsm hj hnb
    · exact yInner_8 ih s cs w V G lp k h hlp hpos hr hf hsm hj hnb
    · exact yInner_9 ih s cs w V G lp k h hlp hpos hr hf hsm hj hnb
    · exact yInner_10 ih s cs w V G lp k h hlp hpos hr hf hsm hj hnb
    · exact yInner_11 ih s cs w V G lp k h hlp hpos hr hf hsm hj hnb
    · exact yInner_12 ih s cs w V G lp k h hlp hpos hr hf hsm hj hnb
    · exact yInner_13 ih s cs w V G lp k h hlp hpos hr hf hsm hj hnb
end Go.Proofs.YtaomlfbcfmmhlaaDoor

/-
  Texts joined: YInF.
-/
import Derived.Test.YtaomlfbcfmmhlaaDoorTCZP
import Derived.Test.YtaomlfbcfmmhlaaDoorTCZK
import Derived.Deep.RegionHeld3
import Derived.Test.YtaomlfbcfmmhlaaDoorTCT

/-
  posternref's typer: stmtInner at a range: the contract (printed by wip/gen_yinner.py).
-/
namespace Go.Proofs.YtaomlfbcfmmhlaaDoor
open Go.RowKit Go.Pst
set_option linter.unusedVariables false
set_option linter.unusedSimpArgs false

theorem declT_keeps {G G' : List Scope} {s : ByteArray} {t : Int} (hu : UniqG G) (hD : declT G s t = .ok G') : UniqG G' ∧ SameG G' G ∧ (flatG G').length ≤ (flatG G).length + 1 := by
  cases G with
  | nil => cases hD
  | cons g r =>
  unfold declT at hD
  simp only at hD
  split at hD
  · cases hD
  · split at hD
    · cases hD
    · rename_i hno
      split at hD
      · cases hD
      · cases hD
        refine ⟨fun g' hg' => ?_, ⟨by simp, rfl⟩, by simp [flatG]; omega⟩
        rcases List.mem_cons.1 hg' with e | e
        · subst e
          rw [List.map_append]
          refine List.nodup_append.2 ⟨hu g (by simp), by simp, fun a ha b hb => ?_⟩
          simp at hb
          subst hb
          intro e
          subst e
          obtain ⟨p, hp, hps⟩ := List.mem_map.1 ha
          obtain ⟨i, hi, hip⟩ := List.mem_iff_getElem.1 hp
          exact hno (by rw [lookT_at (hu g (by simp)) hi (by rw [hip]; exact hps)]; rfl)
        · exact hu g' (List.mem_cons_of_mem _ e)
theorem cons_of_len {α : Type} {l : List α} (h : 0 < l.length) : ∃ a r, l = a :: r := by
  cases l with
  | nil => simp at h
  | cons a r => exact ⟨a, r, rfl⟩
theorem blockT_same {f : List Scope → PStmt → Except Int (List Scope)} {G G' : List Scope} {L : List PStmt} (h : blockT f G L = .ok G') : G' = G := by
  unfold blockT at h
  split at h
  · cases h
  · cases h; rfl

set_option maxRecDepth 10000 in
set_option maxHeartbeats 4000000 in
theorem yInner_6 {fs : List PFunc} {dF : Nat} {res : Int} {base by_ : Nat} {vf : Value} {cf : List Value} {d : Nat} (hS : YStmtSaid fs dF res base by_ vf cf d) (s : PStmt) (cs : List Value) (w : World) (V : Fin 3 → Value) (G : List Scope) (lp : Int) (k : Nat) (h : YIn fs dF res 2 2000001 w base by_ vf cf V G lp (k + 1)) (hlp : lp + 1 ≤ ((k + 1 : Nat) : Int)) (hpos : 0 < G.length)
    (hr : rStmt (d + 1) (· < base) w cs s) (hf : FitS (d + 1) s) (hsm : SmallS (d + 1) s) (hk : s.kind = 6) (hnb : ¬ BadCount s) :
    Calls Tryd.prog 145 #[.pointer (some ⟨by_, 0, none⟩), .agg cs.toArray] w (YStmtPost w base by_ vf cf V G lp (k + 1) (stmtT fs res (d + 1) lp.toNat k G s)) := by
  obtain ⟨v3, v4, v5, v6, rfl, ⟨hI0, hI1, hI2⟩, r3, r4, r5, r6⟩ := hr
  obtain ⟨a3, c3, rfl⟩ := rSlice_shape r3
  obtain ⟨a4, c4, rfl⟩ := rSlice_shape r4
  obtain ⟨a5, c5, rfl⟩ := rSlice_shape r5
  obtain ⟨a6, c6, rfl⟩ := rSlice_shape r6
  obtain ⟨⟨f1, f2⟩, ⟨f3, f4⟩, ⟨f5, f6⟩, ⟨f7, f8⟩, f9⟩ := hf
  obtain ⟨⟨sm1, sm2⟩, ⟨sm3, sm4⟩, sm5⟩ := hsm
  have hnb' : ¬ ((0 ≤ exprsN s.kind ∧ exprsN s.kind ≠ s.exprs.length) ∨ 2 < s.exprs.length) := hnb
  rw [hk, show exprsN (6 : Int) = 1 by decide] at hnb'
  have hlt := h.at_.lb.2
  have hbase := h.at_.lb.1
  have hdeep := h.deep
  have hgb := h.gb
  rw [hk]
  obtain ⟨W, hW⟩ : ∃ W, W = w.alloc (.cells #[.int .i64 6, .string s.s, .string s.t, .slice a3 s.exprs.length c3, .slice a4 s.body.length c4, .slice a5 s.els.length c5, .slice a6 s.cases.length c6] 141) := ⟨_, rfl⟩
  have sA : Since (fun _ => False) w W := by rw [hW]; exact Since.alloc _ _ _
  have q0 : W.cell? ⟨w.heap.size, 0, none⟩ = some (.int .i64 6) := by rw [hW, World.cell?_alloc_at _ _ _ _ rfl]; rfl
  have q1 : W.cell? ⟨w.heap.size, 1, none⟩ = some (.string s.s) := by rw [hW, World.cell?_alloc_at _ _ _ _ rfl]; rfl
  have q2 : W.cell? ⟨w.heap.size, 2, none⟩ = some (.string s.t) := by rw [hW, World.cell?_alloc_at _ _ _ _ rfl]; rfl
  have q3 : W.cell? ⟨w.heap.size, 3, none⟩ = some (.slice a3 s.exprs.length c3) := by rw [hW, World.cell?_alloc_at _ _ _ _ rfl]; rfl
  have q4 : W.cell? ⟨w.heap.size, 4, none⟩ = some (.slice a4 s.body.length c4) := by rw [hW, World.cell?_alloc_at _ _ _ _ rfl]; rfl
  have q5 : W.cell? ⟨w.heap.size, 5, none⟩ = some (.slice a5 s.els.length c5) := by rw [hW, World.cell?_alloc_at _ _ _ _ rfl]; rfl
  have q6 : W.cell? ⟨w.heap.size, 6, none⟩ = some (.slice a6 s.cases.length c6) := by rw [hW, World.cell?_alloc_at _ _ _ _ rfl]; rfl
  have hlW : w.heap.size < W.heap.size := by rw [hW]; simp
  have n2 : w.heap.size ≠ by_ := by omega
  have hmm : ∀ j, YM by_ V j → base ≤ j ∧ j < w.heap.size := fun j hj => h.at_.mem_lt hj
  have nY : ¬ YM by_ V w.heap.size := fun f => by have := (hmm _ f).2; omega
  have hin : YIn fs dF res 2 2000001 W base by_ vf cf V G lp (k + 1) := h.next (h.at_.since sA (fun _ e => e.elim)) (sA.mono (fun _ e => e.elim)) h.uniq h.deep h.pos h.len h.loops h.names
  obtain ⟨R, hR⟩ : ∃ R, R = stmtT fs res (d + 1) lp.toNat k G s := ⟨_, rfl⟩
  obtain ⟨x, hxe⟩ : ∃ x, s.exprs = [x] := by
    match hq : s.exprs, (show s.exprs.length = 1 by omega) with
    | [x], _ => exact ⟨x, rfl⟩
  have hfx : FitX d x := f2 x (by rw [hxe]; simp)
  have r3' := r3
  rw [hxe] at r3'
  obtain ⟨b, off, cap, ax, cx, hv, hSb, hbl, x0, x1, x2, x3, hrx⟩ := rExprs_get r3' 0 (by simp)
  obtain ⟨rfl, -, rfl⟩ := Value.slice.inj hv
  simp only [List.getElem_cons_zero, Nat.zero_mul, Nat.add_zero] at x0 x1 x2 x3 hrx
  have tx := fun o => sA.cell (o := o) hbl (fun e => e)
  have y0 := (tx _).trans x0
  have y1 := (tx _).trans x1
  have y2 := (tx _).trans x2
  have y3 := (tx _).trans x3
  have hbn : b ≠ by_ := by omega
  have hrx2 : rExpr d (· < base) W _ x := Good.kept (sA.keep.weaken (fun _ _ _ e => e.elim)) hrx
  have hval := yWorth_any hin.expr hrx2 hfx
  have Hval := Lib.hid hval
  have hl0 : (0 : Int) < (s.exprs.length : Int) := by rw [hxe]; simp
  have hl1 : 0 < s.exprs.length := by rw [hxe]; simp
  have HR := Lib.hid (show R = rangeT fs res d lp.toNat (k + 1) G x s.s s.t s.body by
    rw [hR]
    unfold stmtT
    rw [hk, if_neg (by omega), show exprsN (6 : Int) = 1 by decide, if_neg hnb', if_neg (by omega), hxe]
    simp [ifT, forT, rangeT, switchT]
    try rfl)
  rw [← hR]
  have Hin := Lib.hid hin
  have HY := Lib.hid hin.at_
  have SA := Lib.hid (sA.mono (G := YM by_ V) (fun _ e => e.elim))
  have SA0 := Lib.hid sA
  have Hmm := Lib.hid hmm
  have HnY := Lib.hid nY
  have HSt := Lib.hid hS
  have HI1 := Lib.hid hI1
  have HI2 := Lib.hid hI2
  have Hlp := Lib.hid hlp
  have Hpos := Lib.hid hpos
  have hbad : ∀ (e : Int) (w1 : World) (k' : Int), R = .error e → e ≠ 0 → YAt w1 base by_ vf cf V (YSt.of G lp k') → Since (YM by_ V) w w1 → YStmtPost w base by_ vf cf V G lp (k + 1) R (.returned (.int .i64 e)) w1 := fun e w1 k' hRe he h1 h2 => ⟨e, rfl, by rw [hRe]; exact ⟨rfl, he, G, lp, k', Nat.le_refl _, hgb, V, h1, h2, YAt.NewY.refl _ _ _⟩⟩
  have hok : ∀ (w1 : World), R = .ok G → YAt w1 base by_ vf cf V (YSt.of G lp ((k + 1 : Nat) : Int)) → Since (YM by_ V) w w1 → YStmtPost w base by_ vf cf V G lp (k + 1) R (.returned (.int .i64 0)) w1 := fun w1 hRe h1 h2 => ⟨0, rfl, by rw [hRe]; exact ⟨rfl, ⟨V, h1, h2, YAt.NewY.refl _ _ _⟩, h.uniq, SameG.of rfl, by omega⟩⟩
  have Hbad := Lib.hid hbad
  have Hok := Lib.hid hok
  have r4W : ∀ w', Since (YM by_ V) w w' → rSlice 7 (rStmt d) (· < base) w' [.slice a4 s.body.length c4] s.body := fun w' hs => Good.kept (hs.keep.weaken (fun j _ hj e => by have := (hmm j e).1; omega)) r4
  have r5W : ∀ w', Since (YM by_ V) w w' → rSlice 7 (rStmt d) (· < base) w' [.slice a5 s.els.length c5] s.els := fun w' hs => Good.kept (hs.keep.weaken (fun j _ hj e => by have := (hmm j e).1; omega)) r5
  have R4 := Lib.hid r4W
  have R5 := Lib.hid r5W
  have F4 := Lib.hid f4
  have F6 := Lib.hid f6
  have S2 := Lib.hid sm2
  have S4 := Lib.hid sm4
  have L1 := Lib.hid sm1
  have L3 := Lib.hid sm3
  have hG1 : G.length + 2 ≤ 2 + 2 * (k + 1) := h.len
  have hG2 : (flatG G).length + 2000001 ≤ (k + 1 + 1) * 2000000 := h.names
  have hG3 := h.loops
  have HG := Lib.hid (And.intro hG1 (And.intro hG2 hG3))
  have HU := Lib.hid h.uniq
  have HDp := Lib.hid h.deep
  have HIN := Lib.hid h
  clear r4W r5W hG1 hG2 hG3
  clear hxe hfx r3' hv x0 x1 x2 x3 tx hrx hrx2 hval
  clear h hin hS hnb hnb' hR hbad hok hgb sA hmm nY hI0 hI1 hI2 hlp hpos hdeep r3 r4 r5 r6 f1 f2 f3 f4 f5 f6 f7 f8 f9 sm1 sm2 sm3 sm4 sm5
  subst hW
  go_enter Tryd.func145, Tryd.ntmps145
  go_wp2_with fail
  refine Hval.out.mono ?_
  rintro en w1 ⟨t, e, k', rfl, hy1, hs1, hp1⟩
  have HY1 := Lib.hid hy1
  have HS1 := Lib.hid hs1
  have HSM := Lib.hid (SA.out.trans (hs1.mono (G := YM by_ V) (fun j e => Or.inl e)))
  have z0 := (hs1.cell (o := 0) hlW n2).trans q0
  have z1 := (hs1.cell (o := 1) hlW n2).trans q1
  have z2 := (hs1.cell (o := 2) hlW n2).trans q2
  have z4 := (hs1.cell (o := 4) hlW n2).trans q4
  have z5 := (hs1.cell (o := 5) hlW n2).trans q5
  have z6 := (hs1.cell (o := 6) hlW n2).trans q6
  clear hy1 hs1 q0 q1 q2 q3 q4 q5 q6
  cases hE : valuedT (exprT fs G d (k + 1) x) with
  | error e' =>
    rw [hE] at hp1
    obtain ⟨rfl, hne⟩ := hp1
    have he1 : (e != 0) = true := by simpa using hne
    have he2 : (e == 0) = false := by simpa using hne
    have HP := Lib.hid (Hbad.out e w1 _ (by rw [HR.out, rangeT, hE]) hne HY1.out HSM.out)
    clear hne hE
    go_wp2_with fail
    go_ret
    exact HP.out
  | ok u =>
    rw [hE] at hp1
    obtain ⟨rfl, rfl, rfl⟩ := hp1
    have HE := Lib.hid hE
    clear hE
    by_cases ht : t = 2
    · have ht1 : (t == 2) = true := by simp [ht]
      have HP := Lib.hid (Hbad.out 9 w1 _ (by rw [HR.out, rangeT, HE.out]; simp only [if_pos ht]) (by decide) HY1.out HSM.out)
      clear ht
      go_wp2_with fail
      go_ret
      exact HP.out
    · have ht1 : (t == 2) = false := beq_eq_false_iff_ne.2 ht
      have HR2 := Lib.hid (show R = match declT ([] :: G) s.s 1 with | .error e => .error e | .ok G1 => match declT G1 s.t 1 with | .error e => .error e | .ok G2 => match blockT (stmtT fs res d (lp.toNat + 1) (k + 1)) G2 s.body with | .error e => .error e | .ok _ => .ok G by rw [HR.out, rangeT, HE.out]; simp only [if_neg ht]; rfl)
      have hw1l : w.heap.size < w1.heap.size := Nat.lt_of_lt_of_le hlW HS1.out.size
      have hent := yEnter_any HY1.out (by have := HG.out.1; have := HDp.out; omega) (by have := HIN.out.gb.2; omega)
      have Hent := Lib.hid hent
      clear hent ht
      go_wp2_with fail
      refine Hent.out.mono ?_
      rintro en w2 ⟨rfl, V2, hy2, hs2, hn2⟩
      have HY2 := Lib.hid hy2
      have HS2 := Lib.hid hs2
      have HN2 := Lib.hid hn2
      have b1 := (hs2.cell (o := 1) hw1l HnY.out).trans z1
      have HU0 := Lib.hid (show UniqG ([] :: G) from fun g hg => by rcases List.mem_cons.1 hg with rfl | e; simp; exact HU.out g e)
      have hgb2 : GB ([] :: G) := ⟨by have := HG.out.1; have := HDp.out; simp; omega, by have := HIN.out.gb.2; simpa [flatG] using this⟩
      have HGB2 := Lib.hid hgb2
      have hnm := yName_any hy2 (by have := hgb2.1; simp at this; omega) (by have := hgb2.2; omega) s.s HI1.out 1
      have Hnm := Lib.hid hnm
      clear hy2 hs2 hn2 hnm hgb2
      go_wp2_with fail
      refine Hnm.out.mono ?_
      rintro en w3 ⟨e, rfl, hp3⟩
      cases hD1 : declT ([] :: G) s.s 1 with
      | error e' =>
        rw [hD1] at hp3
        obtain ⟨rfl, hne, V3, hy3, hs3, hn3⟩ := hp3
        have he1 : (e == 0) = false := beq_eq_false_iff_ne.2 hne
        have Hne := Lib.hid hne
        have HY3 := Lib.hid hy3
        have HS3 := Lib.hid (HN2.out.since HS2.out hs3)
        have HN3 := Lib.hid (HN2.out.trans hn3 HS2.out.size)
        have HR3 := Lib.hid (show R = .error e by rw [HR2.out, hD1])
        clear hne hy3 hs3 hn3 hD1
        have hlv := yLeave_any HY3.out (by have := (HGB2.out).1; simp at this; omega) (by have := (HGB2.out).2; omega)
        have Hlv := Lib.hid hlv
        clear hlv
        go_wp2_with fail
        refine Hlv.out.mono ?_
        rintro en w9 ⟨rfl, d9⟩
        have HP : YStmtPost w base by_ vf cf V G lp (k + 1) R (.returned (.int .i64 e)) w9 := by
          exact ⟨e, rfl, by
            rw [HR3.out]
            exact ⟨rfl, Hne.out, G, lp, _, Nat.le_refl _, HIN.out.gb, YDone.trans (HSM.out.trans HS3.out) (fun j hj => (HN3.out j hj).imp id (fun e => Nat.le_trans HSM.out.size e)) d9⟩⟩
        have HP := Lib.hid HP
        clear d9
        go_wp2_with fail
        go_ret
        exact HP.out
      | ok G1 =>
        rw [hD1] at hp3
        obtain ⟨rfl, V3, hy3, hs3, hn3⟩ := hp3
        obtain ⟨hu1, hg1, hf1⟩ := declT_keeps HU0.out hD1
        have HY3 := Lib.hid hy3
        have HS3 := Lib.hid (HN2.out.since HS2.out hs3)
        have HN3 := Lib.hid (HN2.out.trans hn3 HS2.out.size)
        have HR3 := Lib.hid (show R = match declT G1 s.t 1 with | .error e => .error e | .ok G2 => match blockT (stmtT fs res d (lp.toNat + 1) (k + 1)) G2 s.body with | .error e => .error e | .ok _ => .ok G by rw [HR2.out, hD1])
        have b2 := (HS3.out.cell (o := 2) hw1l HnY.out).trans z2
        have hf1' : (flatG G1).length ≤ (flatG G).length + 1 := by simpa [flatG] using hf1
        have hl1 : G1.length = G.length + 1 := hg1.1
        have ht1' : G1.tail = G := hg1.2
        have HU1 := Lib.hid hu1
        have HF1 := Lib.hid hf1'
        have HT1 := Lib.hid ht1'
        obtain ⟨ga, ra, hgra⟩ := cons_of_len (show 0 < G1.length by omega)
        have hra : ra = G := by rw [← ht1', hgra]; rfl
        subst hra
        subst hgra
        have hgb3 : GB (ga :: ra) := ⟨by have := HG.out.1; have := HDp.out; simp; omega, by have := HG.out.2.1; have := HDp.out; omega⟩
        have HGB3 := Lib.hid hgb3
        have hnm := yName_any hy3 (by have := hgb3.1; simp at this; omega) (by have := hgb3.2; omega) s.t HI2.out 1
        have Hnm2 := Lib.hid hnm
        clear hy3 hs3 hn3 hD1 hnm hgb3 hu1 hg1 hf1 hf1' ht1' hl1
        go_wp2_with fail
        refine Hnm2.out.mono ?_
        rintro en w4 ⟨e, rfl, hp4⟩
        cases hD2 : declT (ga :: ra) s.t 1 with
        | error e' =>
          rw [hD2] at hp4
          obtain ⟨rfl, hne, V4, hy4, hs4, hn4⟩ := hp4
          have he1 : (e == 0) = false := beq_eq_false_iff_ne.2 hne
          have Hne := Lib.hid hne
          have HY4 := Lib.hid hy4
          have HS4 := Lib.hid (HN3.out.since HS3.out hs4)
          have HN4 := Lib.hid (HN3.out.trans hn4 HS3.out.size)
          have HR4 := Lib.hid (show R = .error e by rw [HR3.out, hD2])
          clear hne hy4 hs4 hn4 hD2
          have hlv := yLeave_any HY4.out (by have := (HGB3.out).1; simp at this; omega) (by have := (HGB3.out).2; omega)
          have Hlv := Lib.hid hlv
          clear hlv
          go_wp2_with fail
          refine Hlv.out.mono ?_
          rintro en w9 ⟨rfl, d9⟩
          have HP : YStmtPost w base by_ vf cf V ra lp (k + 1) R (.returned (.int .i64 e)) w9 := by
            exact ⟨e, rfl, by
              rw [HR4.out]
              exact ⟨rfl, Hne.out, ra, lp, _, Nat.le_refl _, HIN.out.gb, YDone.trans (HSM.out.trans HS4.out) (fun j hj => (HN4.out j hj).imp id (fun e => Nat.le_trans HSM.out.size e)) d9⟩⟩
          have HP := Lib.hid HP
          clear d9
          go_wp2_with fail
          go_ret
          exact HP.out
        | ok G2 =>
          rw [hD2] at hp4
          obtain ⟨rfl, V4, hy4, hs4, hn4⟩ := hp4
          obtain ⟨hu2, hg2, hf2⟩ := declT_keeps HU1.out hD2
          have HS4 := Lib.hid (HN3.out.since HS3.out hs4)
          have HN4 := Lib.hid (HN3.out.trans hn4 HS3.out.size)
          have hl2 : G2.length = ra.length + 1 := by have := hg2.1; simpa using this
          have ht2 : G2.tail = ra := hg2.2
          have hf2' : (flatG G2).length ≤ (flatG ra).length + 2 := by have := HF1.out; omega
          obtain ⟨gb, rb, hgrb⟩ := cons_of_len (show 0 < G2.length by omega)
          have hrb : rb = ra := by rw [← ht2, hgrb]; rfl
          subst hrb
          subst hgrb
          have HR4 := Lib.hid (show R = match blockT (stmtT fs res d (lp + 1).toNat (k + 1)) (gb :: rb) s.body with | .error e => .error e | .ok _ => .ok rb by rw [HR3.out, hD2, show (lp + 1).toNat = lp.toNat + 1 by have := HG.out.2.2.1; omega])
          have c8 : w4.cell? ⟨by_, 8, none⟩ = some (.int .i64 lp) := hy4.c8
          have zz8 := hy4.z 8
          have hbl4 := hy4.lb.2
          have hwl : IntKind.i64.wrap (lp + 1) = lp + 1 := IntWalk.i64_in _ (by have := HG.out.2.2; have := HDp.out; omega)
          have s8 : Since (YM by_ V4) w4 (w4.setCell ⟨by_, 8, none⟩ (.int .i64 (lp + 1))) := (Since.setCell w4 ⟨by_, 8, none⟩ (.int .i64 (lp + 1))).mono (fun j e => Or.inl e)
          have hs8 : Since (YM by_ V) w1 (w4.setCell ⟨by_, 8, none⟩ (.int .i64 (lp + 1))) := HN4.out.since HS4.out s8
          have hs8w := HSM.out.trans hs8
          have hin8 : YIn fs dF res 1 s.body.length (w4.setCell ⟨by_, 8, none⟩ (.int .i64 (lp + 1))) base by_ vf cf V4 (gb :: rb) (lp + 1) (k + 1) :=
            HIN.out.next (hy4.setLoops (lp + 1)) hs8w hu2 HDp.out (by omega) (by have := HG.out.1; simp at hl2 ⊢; omega) (by have := HG.out.2.2.1; have := Hlp.out; omega) (by have := HG.out.2.1; have := L1.out; omega)
          have hblk := yBlock_any HSt.out s.body hin8 _ (R4.out _ hs8w) F4.out S2.out
          have Hblk := Lib.hid hblk
          have HS8 := Lib.hid hs8
          have b4 := (hs8.cell (o := 4) hw1l HnY.out).trans z4
          have Hf2 := Lib.hid hf2'
          have HUb := Lib.hid hu2
          clear hblk s8 hs8 hs8w hin8 hy4 hs4 hn4 hD2 hu2 hg2 hf2 hf2' hl2 ht2
          go_wp2_with fail
          refine Hblk.out.mono ?_
          rintro en w5 hp5
          -- behind the block: a state, and the loops
          have hx : ∃ (e lx kx : Int) (gx : Scope) (rx : List Scope) (V5 : Fin 3 → Value), en = .returned (.int .i64 e) ∧ YAt w5 base by_ vf cf V5 (YSt.of (gx :: rx) lx kx) ∧ Since (YM by_ V) w1 w5 ∧ YAt.NewY w1 by_ V V5 ∧ GB (gx :: rx) ∧
              (∀ w9, YDone w base by_ vf cf V rx (IntKind.i64.wrap (lx - 1)) kx w9 → YStmtPost w base by_ vf cf V rb lp (k + 1) R (.returned (.int .i64 e)) w9) := by
            obtain ⟨e, rfl, hp⟩ := hp5
            cases hB : blockT (stmtT fs res d (lp + 1).toNat (k + 1)) (gb :: rb) s.body with
            | error e' =>
              rw [hB] at hp
              obtain ⟨rfl, hne, G', lp', k', g1, g2, V5, g3, g4, g5⟩ := hp
              obtain ⟨gx, rx, hgx⟩ := cons_of_len (show 0 < G'.length by simp at g1; omega)
              subst hgx
              refine ⟨e, lp', k', gx, rx, V5, rfl, g3, HN4.out.since HS8.out g4, fun j hj => ?_, g2, fun w9 d9 => ⟨e, rfl, ?_⟩⟩
              · rcases g5 j hj with e1 | e1
                · exact HN4.out j e1
                · exact Or.inr (Nat.le_trans HS8.out.size e1)
              · rw [HR4.out, hB]
                exact ⟨rfl, hne, rx, _, _, by simp at g1; omega, ⟨by have := g2.1; simp at this; omega, by have := g2.2; simp [flatG] at this; omega⟩, d9⟩
            | ok G' =>
              rw [hB] at hp
              have hG' := blockT_same hB
              subst hG'
              obtain ⟨rfl, ⟨V5, g3, g4, g5⟩, g6, g7, g8⟩ := hp
              refine ⟨0, lp + 1, _, gb, rb, V5, rfl, g3, HN4.out.since HS8.out g4, fun j hj => ?_, ⟨by have := HG.out.1; have := HDp.out; simp; omega, by have := Hf2.out; have := HIN.out.gb.2; have := HG.out.2.1; have := HDp.out; omega⟩, fun w9 d9 => ⟨0, rfl, ?_⟩⟩
              · rcases g5 j hj with e1 | e1
                · exact HN4.out j e1
                · exact Or.inr (Nat.le_trans HS8.out.size e1)
              · rw [HR4.out, hB]
                have e1 : IntKind.i64.wrap (lp + 1 - 1) = lp := by rw [show lp + 1 - 1 = lp by omega]; exact IntWalk.i64_in _ (by have := HG.out.2.2; have := HDp.out; omega)
                rw [e1] at d9
                exact ⟨rfl, d9, HU.out, SameG.of rfl, by omega⟩
          obtain ⟨e, lx, kx, gx, rx, V5, rfl, hy5, hs5, hn5, hgb5, hend⟩ := hx
          obtain ⟨dv, hdv⟩ : ∃ dv, IntKind.i64.wrap (lx - 1) = dv := ⟨_, rfl⟩
          rw [hdv] at hend
          have c85 : w5.cell? ⟨by_, 8, none⟩ = some (.int .i64 lx) := hy5.c8
          have z85 := hy5.z 8
          have hl5 := hy5.lb.2
          have s85 : Since (YM by_ V5) w5 (w5.setCell ⟨by_, 8, none⟩ (.int .i64 dv)) := (Since.setCell w5 ⟨by_, 8, none⟩ (.int .i64 dv)).mono (fun j e => Or.inl e)
          have HS5 := Lib.hid (hn5.since hs5 s85)
          have HN5 := Lib.hid hn5
          have HY5 := Lib.hid (hy5.setLoops dv)
          have Hend := Lib.hid hend
          have HGB5 := Lib.hid hgb5
          clear hp5 hy5 hs5 hn5 hgb5 hend s85 c8 zz8
          have hlv := yLeave_any HY5.out (by have := (HGB5.out).1; simp at this; omega) (by have := (HGB5.out).2; omega)
          have Hlv := Lib.hid hlv
          clear hlv
          go_wp2_with fail
          refine Hlv.out.mono ?_
          rintro en w9 ⟨rfl, d9⟩
          have HP : YStmtPost w base by_ vf cf V rb lp (k + 1) R (.returned (.int .i64 e)) w9 := by
            exact Hend.out w9 (YDone.trans (HSM.out.trans HS5.out) (fun j hj => (HN5.out j hj).imp id (fun e => Nat.le_trans HSM.out.size e)) d9)
          have HP := Lib.hid HP
          clear d9
          go_wp2_with fail
          go_ret
          exact HP.out

end Go.Proofs.YtaomlfbcfmmhlaaDoor

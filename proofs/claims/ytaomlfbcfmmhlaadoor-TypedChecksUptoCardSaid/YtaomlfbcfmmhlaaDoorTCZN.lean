/-
  Texts joined: YInC.
-/
import Derived.Test.YtaomlfbcfmmhlaaDoorTCZM
import Derived.Test.YtaomlfbcfmmhlaaDoorTCZK
import Derived.Deep.RegionHeld3
import Derived.Test.YtaomlfbcfmmhlaaDoorTCT

/-
  posternref's typer: stmtInner at a put, a delete: the contract (printed by wip/gen_yinner.py).
-/
namespace Go.Proofs.YtaomlfbcfmmhlaaDoor
open Go.RowKit Go.Pst
set_option linter.unusedVariables false
set_option linter.unusedSimpArgs false

set_option maxRecDepth 10000 in
set_option maxHeartbeats 4000000 in
theorem yInner_3 {fs : List PFunc} {dF : Nat} {res : Int} {base by_ : Nat} {vf : Value} {cf : List Value} {d : Nat} (hS : YStmtSaid fs dF res base by_ vf cf d) (s : PStmt) (cs : List Value) (w : World) (V : Fin 3 → Value) (G : List Scope) (lp : Int) (k : Nat) (h : YIn fs dF res 2 2000001 w base by_ vf cf V G lp (k + 1)) (hlp : lp + 1 ≤ ((k + 1 : Nat) : Int)) (hpos : 0 < G.length)
    (hr : rStmt (d + 1) (· < base) w cs s) (hf : FitS (d + 1) s) (hsm : SmallS (d + 1) s) (hk : s.kind = 3) (hnb : ¬ BadCount s) :
    Calls Tryd.prog 145 #[.pointer (some ⟨by_, 0, none⟩), .agg cs.toArray] w (YStmtPost w base by_ vf cf V G lp (k + 1) (stmtT fs res (d + 1) lp.toNat k G s)) := by
  obtain ⟨v3, v4, v5, v6, rfl, ⟨hI0, hI1, hI2⟩, r3, r4, r5, r6⟩ := hr
  obtain ⟨a3, c3, rfl⟩ := rSlice_shape r3
  obtain ⟨a4, c4, rfl⟩ := rSlice_shape r4
  obtain ⟨a5, c5, rfl⟩ := rSlice_shape r5
  obtain ⟨a6, c6, rfl⟩ := rSlice_shape r6
  obtain ⟨⟨f1, f2⟩, ⟨f3, f4⟩, ⟨f5, f6⟩, ⟨f7, f8⟩, f9⟩ := hf
  obtain ⟨⟨sm1, sm2⟩, ⟨sm3, sm4⟩, sm5⟩ := hsm
  have hnb' : ¬ ((0 ≤ exprsN s.kind ∧ exprsN s.kind ≠ s.exprs.length) ∨ 2 < s.exprs.length) := hnb
  rw [hk, show exprsN (3 : Int) = 2 by decide] at hnb'
  have hlt := h.at_.lb.2
  have hbase := h.at_.lb.1
  have hdeep := h.deep
  have hgb := h.gb
  rw [hk]
  obtain ⟨W, hW⟩ : ∃ W, W = w.alloc (.cells #[.int .i64 3, .string s.s, .string s.t, .slice a3 s.exprs.length c3, .slice a4 s.body.length c4, .slice a5 s.els.length c5, .slice a6 s.cases.length c6] 141) := ⟨_, rfl⟩
  have sA : Since (fun _ => False) w W := by rw [hW]; exact Since.alloc _ _ _
  have q0 : W.cell? ⟨w.heap.size, 0, none⟩ = some (.int .i64 3) := by rw [hW, World.cell?_alloc_at _ _ _ _ rfl]; rfl
  have q1 : W.cell? ⟨w.heap.size, 1, none⟩ = some (.string s.s) := by rw [hW, World.cell?_alloc_at _ _ _ _ rfl]; rfl
  have q2 : W.cell? ⟨w.heap.size, 2, none⟩ = some (.string s.t) := by rw [hW, World.cell?_alloc_at _ _ _ _ rfl]; rfl
  have q3 : W.cell? ⟨w.heap.size, 3, none⟩ = some (.slice a3 s.exprs.length c3) := by rw [hW, World.cell?_alloc_at _ _ _ _ rfl]; rfl
  have q4 : W.cell? ⟨w.heap.size, 4, none⟩ = some (.slice a4 s.body.length c4) := by rw [hW, World.cell?_alloc_at _ _ _ _ rfl]; rfl
  have q5 : W.cell? ⟨w.heap.size, 5, none⟩ = some (.slice a5 s.els.length c5) := by rw [hW, World.cell?_alloc_at _ _ _ _ rfl]; rfl
  have q6 : W.cell? ⟨w.heap.size, 6, none⟩ = some (.slice a6 s.cases.length c6) := by rw [hW, World.cell?_alloc_at _ _ _ _ rfl]; rfl
  have hlW : w.heap.size < W.heap.size := by rw [hW]; simp
  have n2 : w.heap.size ≠ by_ := by omega
  have hmm : ∀ j, YM by_ V j → base ≤ j ∧ j < w.heap.size := fun j hj => h.at_.mem_lt hj
  have nY : ¬ YM by_ V w.heap.size := fun f => by have := (hmm _ f).2; omega
  have hin : YIn fs dF res 2 2000001 W base by_ vf cf V G lp (k + 1) := h.next (h.at_.since sA (fun _ e => e.elim)) (sA.mono (fun _ e => e.elim)) h.uniq h.deep h.pos h.len h.loops h.names
  obtain ⟨R, hR⟩ : ∃ R, R = stmtT fs res (d + 1) lp.toNat k G s := ⟨_, rfl⟩
  have HR := Lib.hid (show R = (match s.exprs with | [x, y] => (match isT (exprT fs G d (k + 1) x) 1 with | .error e => .error e | .ok _ => match isT (exprT fs G d (k + 1) y) 1 with | .error e => .error e | .ok _ => match findT G s.s with | none => .error 6 | some u => if u = 4 ∨ u = 5 then .ok G else .error 9) | _ => .error 8) by
    rw [hR]
    unfold stmtT
    rw [hk, if_neg (by omega), show exprsN (3 : Int) = 2 by decide, if_neg hnb', if_neg (by omega)]
    simp
    try rfl)
  rw [← hR]
  have Hin := Lib.hid hin
  have HY := Lib.hid hin.at_
  have SA := Lib.hid (sA.mono (G := YM by_ V) (fun _ e => e.elim))
  have SA0 := Lib.hid sA
  have Hmm := Lib.hid hmm
  have HnY := Lib.hid nY
  have HSt := Lib.hid hS
  have HI1 := Lib.hid hI1
  have HI2 := Lib.hid hI2
  have Hlp := Lib.hid hlp
  have Hpos := Lib.hid hpos
  have hbad : ∀ (e : Int) (w1 : World) (k' : Int), R = .error e → e ≠ 0 → YAt w1 base by_ vf cf V (YSt.of G lp k') → Since (YM by_ V) w w1 → YStmtPost w base by_ vf cf V G lp (k + 1) R (.returned (.int .i64 e)) w1 := fun e w1 k' hRe he h1 h2 => ⟨e, rfl, by rw [hRe]; exact ⟨rfl, he, G, lp, k', Nat.le_refl _, hgb, V, h1, h2, YAt.NewY.refl _ _ _⟩⟩
  have hok : ∀ (w1 : World), R = .ok G → YAt w1 base by_ vf cf V (YSt.of G lp ((k + 1 : Nat) : Int)) → Since (YM by_ V) w w1 → YStmtPost w base by_ vf cf V G lp (k + 1) R (.returned (.int .i64 0)) w1 := fun w1 hRe h1 h2 => ⟨0, rfl, by rw [hRe]; exact ⟨rfl, ⟨V, h1, h2, YAt.NewY.refl _ _ _⟩, h.uniq, SameG.of rfl, by omega⟩⟩
  have Hbad := Lib.hid hbad
  have Hok := Lib.hid hok
  have hlen : s.exprs.length = 2 := by omega
  obtain ⟨E, hE0⟩ : ∃ E : PExpr → Except Int Int, E = fun x => isT (exprT fs G d (k + 1) x) 1 := ⟨_, rfl⟩
  have hfail : ∀ i (hi : i < s.exprs.length) (e : Int), (∀ j (hj : j < s.exprs.length), j < i → ∃ v, E s.exprs[j] = .ok v) → E s.exprs[i] = .error e → R = .error e := fun i hi e hpre he => by
    rw [HR.out]
    subst hE0
    match hq : s.exprs, hlen with
    | [x, y], _ =>
      simp only [hq] at hi hpre he ⊢
      match i, hi with
      | 0, _ =>
        simp only [List.getElem_cons_zero] at he
        rw [he]
      | 1, _ =>
        obtain ⟨v, hv⟩ := hpre 0 (by simp) (by omega)
        simp only [List.getElem_cons_zero] at hv
        simp only [List.getElem_cons_succ, List.getElem_cons_zero] at he
        rw [hv, he]
  have hdone : (∀ j (hj : j < s.exprs.length), ∃ v, E s.exprs[j] = .ok v) → R = match findT G s.s with | none => .error 6 | some u => if u = 4 ∨ u = 5 then .ok G else .error 9 := fun hall => by
    rw [HR.out]
    subst hE0
    match hq : s.exprs, hlen with
    | [x, y], _ =>
      simp only [hq] at hall ⊢
      obtain ⟨v, hv⟩ := hall 0 (by simp)
      obtain ⟨v', hv'⟩ := hall 1 (by simp)
      simp only [List.getElem_cons_zero] at hv
      simp only [List.getElem_cons_succ, List.getElem_cons_zero] at hv'
      rw [hv, hv']
  have Hfail := Lib.hid hfail
  have Hdone := Lib.hid hdone
  have HE0 := Lib.hid hE0
  have r3W : rSlice 4 (rExpr d) (· < base) W [.slice a3 s.exprs.length c3] s.exprs := Good.kept (sA.keep.weaken (fun _ _ _ e => e.elim)) r3
  have Hr3 := Lib.hid r3W
  have Hf2 := Lib.hid f2
  have hexl : s.exprs.length ≤ 3 := by omega
  clear hfail hdone hE0 r3W hlen
  clear h hin hS hnb hnb' hR hbad hok hgb sA hmm nY hI0 hI1 hI2 hlp hpos hdeep r3 r4 r5 r6 f1 f2 f3 f4 f5 f6 f7 f8 f9 sm1 sm2 sm3 sm4 sm5
  have HhlW := Lib.hid hlW
  subst hW
  go_enter Tryd.func145, Tryd.ntmps145
  go_wp2_with fail
  go_loopw [10] (fun s10 wr => ∃ i : Nat, i ≤ s.exprs.length ∧ s10 = .int .i64 i ∧ (∀ j (hj : j < s.exprs.length), j < i → ∃ v, E s.exprs[j] = .ok v) ∧ YAt wr base by_ vf cf V (YSt.of G lp ((k + 1 : Nat) : Int)) ∧ Since (fun j => j = by_) (w.alloc (.cells #[.int .i64 3, .string s.s, .string s.t, .slice a3 s.exprs.length c3, .slice a4 s.body.length c4, .slice a5 s.els.length c5, .slice a6 s.cases.length c6] 141)) wr) (fun s10 _ => s.exprs.length - (intOf s10).toNat)
  case atStart => exact ⟨0, Nat.zero_le _, rfl, fun j hj h => by omega, HY.out, Since.refl _ _⟩
  case round =>
    obtain ⟨i, hi, rfl, hpre, hyr, hsr⟩ := hrel
    have Hpre := Lib.hid hpre
    have Hyr := Lib.hid hyr
    have Hsr := Lib.hid hsr
    have z0 := (hsr.cell (o := 0) HhlW.out n2).trans q0
    have z1 := (hsr.cell (o := 1) HhlW.out n2).trans q1
    have z3 := (hsr.cell (o := 3) HhlW.out n2).trans q3
    clear hpre hyr hsr
    by_cases hil : i < s.exprs.length
    · have hi0 : (0 : Int) ≤ i := by omega
      have hi1 : (i : Int) < (s.exprs.length : Int) := by omega
      have hwk : IntKind.i64.wrap ((i : Int) + 1) = (i : Int) + 1 := IntWalk.i64_in _ (by omega)
      have hr3 := Hr3.out
      obtain ⟨b, off, cap, ax, cx, hv, hSb, hbl, x0, x1, x2, x3, hrx⟩ := rExprs_get hr3 i hil
      obtain ⟨rfl, -, rfl⟩ := Value.slice.inj hv
      have hbn : b ≠ by_ := by omega
      have tx := fun o => Hsr.out.cell (o := o) hbl hbn
      have y0 := (tx _).trans x0
      have y1 := (tx _).trans x1
      have y2 := (tx _).trans x2
      have y3 := (tx _).trans x3
      have Hfl := Lib.hid (fun e => Hfail.out i hil e Hpre.out)
      have hval := yIs_any (Hin.out.expr.next Hyr.out Hsr.out) (Good.kept (Hsr.out.keep.weaken (fun j _ hj e => by omega)) hrx) (Hf2.out _ (List.getElem_mem hil)) 1
      have hstep : (∃ v, E s.exprs[i] = .ok v) → ∀ j (hj : j < s.exprs.length), j < i + 1 → ∃ v, E s.exprs[j] = .ok v := fun hv j hj hji => by
        by_cases e : j = i
        · subst e; exact hv
        · exact Hpre.out j hj (by omega)
      have Hstep := Lib.hid hstep
      have eE : isT (exprT fs G d (k + 1) s.exprs[i]) 1 = E s.exprs[i] := by rw [HE0.out]
      rw [eE] at hval
      have Hval := Lib.hid hval
      clear hv x0 x1 x2 x3 tx hrx hval hr3 eE hstep
      generalize E s.exprs[i] = RE at *
      generalize s.exprs[i] = x at *
      go_wp2_with fail
      refine Hval.out.mono ?_
      rintro en w1 ⟨e, k', rfl, hy1, hs1, hp1⟩
      have HY1 := Lib.hid hy1
      have HS1 := Lib.hid hs1
      clear hy1 hs1
      cases RE with
      | error e' =>
        obtain ⟨rfl, hne⟩ := hp1
        have he1 : (e != 0) = true := by simpa using hne
        have HP := Lib.hid (Hbad.out e w1 _ (Hfl.out e rfl) hne HY1.out (SA.out.trans ((Hsr.out.trans HS1.out).mono (fun j e => Or.inl e))))
        clear hne
        go_wp2_with fail
        go_ret
        exact HP.out
      | ok v =>
        obtain ⟨rfl, rfl⟩ := hp1
        have HSt := Lib.hid (Hstep.out ⟨v, rfl⟩)
        go_wp2_with fail
        go_roundw
        case rel => exact ⟨i + 1, by omega, by go_num, HSt.out, HY1.out, Hsr.out.trans HS1.out⟩
        case measure => simp only [intOf]; omega
    · have hie : i = s.exprs.length := by omega
      have hil1 : decide ((i : Int) < (s.exprs.length : Int)) = false := decide_eq_false (by omega)
      have HR2 := Lib.hid (Hdone.out (fun j hj => Hpre.out j hj (by omega)))
      have hto := yTypeOf_any Hyr.out Hin.out.uniq s.s
      have Hto := Lib.hid hto
      clear hto hie
      go_wp2_with fail
      refine Hto.out.mono ?_
      rintro en w2 ⟨rfl, rfl⟩
      have HSM := Lib.hid (SA.out.trans (Hsr.out.mono (G := YM by_ V) (fun j e => Or.inl e)))
      cases hF : findT G s.s with
      | none =>
        have e1 : typeOfT G s.s = (0, 6) := by unfold typeOfT; rw [hF]
        rw [e1]
        have HP := Lib.hid (Hbad.out 6 wr _ (by rw [HR2.out, hF]) (by decide) Hyr.out HSM.out)
        clear hF
        go_wp2_with fail
        go_ret
        exact HP.out
      | some u =>
        have e1 : typeOfT G s.s = (u, 0) := by unfold typeOfT; rw [hF]
        rw [e1]
        by_cases h5 : u = 5
        · have h51 : (u != 5) = false := by simp [h5]
          have HP := Lib.hid (Hok.out wr (by rw [HR2.out, hF]; simp only [if_pos ((Or.inr h5 : u = 4 ∨ u = 5))]) Hyr.out HSM.out)
          clear hF h5
          go_wp2_with fail
          go_ret
          exact HP.out
        · have h51 : (u != 5) = true := by simpa using h5
          by_cases h4 : u = 4
          · have h41 : (u != 4) = false := by simp [h4]
            have HP := Lib.hid (Hok.out wr (by rw [HR2.out, hF]; simp only [if_pos (Or.inl h4 : u = 4 ∨ u = 5)]) Hyr.out HSM.out)
            clear hF h5 h4
            go_wp2_with fail
            go_ret
            exact HP.out
          · have h41 : (u != 4) = true := by simpa using h4
            have HP := Lib.hid (Hbad.out 9 wr _ (by rw [HR2.out, hF]; simp only [if_neg (fun e : u = 4 ∨ u = 5 => e.elim h4 h5)]) (by decide) Hyr.out HSM.out)
            clear hF h5 h4
            go_wp2_with fail
            go_ret
            exact HP.out

set_option maxRecDepth 10000 in
set_option maxHeartbeats 4000000 in
theorem yInner_12 {fs : List PFunc} {dF : Nat} {res : Int} {base by_ : Nat} {vf : Value} {cf : List Value} {d : Nat} (hS : YStmtSaid fs dF res base by_ vf cf d) (s : PStmt) (cs : List Value) (w : World) (V : Fin 3 → Value) (G : List Scope) (lp : Int) (k : Nat) (h : YIn fs dF res 2 2000001 w base by_ vf cf V G lp (k + 1)) (hlp : lp + 1 ≤ ((k + 1 : Nat) : Int)) (hpos : 0 < G.length)
    (hr : rStmt (d + 1) (· < base) w cs s) (hf : FitS (d + 1) s) (hsm : SmallS (d + 1) s) (hk : s.kind = 12) (hnb : ¬ BadCount s) :
    Calls Tryd.prog 145 #[.pointer (some ⟨by_, 0, none⟩), .agg cs.toArray] w (YStmtPost w base by_ vf cf V G lp (k + 1) (stmtT fs res (d + 1) lp.toNat k G s)) := by
  obtain ⟨v3, v4, v5, v6, rfl, ⟨hI0, hI1, hI2⟩, r3, r4, r5, r6⟩ := hr
  obtain ⟨a3, c3, rfl⟩ := rSlice_shape r3
  obtain ⟨a4, c4, rfl⟩ := rSlice_shape r4
  obtain ⟨a5, c5, rfl⟩ := rSlice_shape r5
  obtain ⟨a6, c6, rfl⟩ := rSlice_shape r6
  obtain ⟨⟨f1, f2⟩, ⟨f3, f4⟩, ⟨f5, f6⟩, ⟨f7, f8⟩, f9⟩ := hf
  obtain ⟨⟨sm1, sm2⟩, ⟨sm3, sm4⟩, sm5⟩ := hsm
  have hnb' : ¬ ((0 ≤ exprsN s.kind ∧ exprsN s.kind ≠ s.exprs.length) ∨ 2 < s.exprs.length) := hnb
  rw [hk, show exprsN (12 : Int) = 1 by decide] at hnb'
  have hlt := h.at_.lb.2
  have hbase := h.at_.lb.1
  have hdeep := h.deep
  have hgb := h.gb
  rw [hk]
  obtain ⟨W, hW⟩ : ∃ W, W = w.alloc (.cells #[.int .i64 12, .string s.s, .string s.t, .slice a3 s.exprs.length c3, .slice a4 s.body.length c4, .slice a5 s.els.length c5, .slice a6 s.cases.length c6] 141) := ⟨_, rfl⟩
  have sA : Since (fun _ => False) w W := by rw [hW]; exact Since.alloc _ _ _
  have q0 : W.cell? ⟨w.heap.size, 0, none⟩ = some (.int .i64 12) := by rw [hW, World.cell?_alloc_at _ _ _ _ rfl]; rfl
  have q1 : W.cell? ⟨w.heap.size, 1, none⟩ = some (.string s.s) := by rw [hW, World.cell?_alloc_at _ _ _ _ rfl]; rfl
  have q2 : W.cell? ⟨w.heap.size, 2, none⟩ = some (.string s.t) := by rw [hW, World.cell?_alloc_at _ _ _ _ rfl]; rfl
  have q3 : W.cell? ⟨w.heap.size, 3, none⟩ = some (.slice a3 s.exprs.length c3) := by rw [hW, World.cell?_alloc_at _ _ _ _ rfl]; rfl
  have q4 : W.cell? ⟨w.heap.size, 4, none⟩ = some (.slice a4 s.body.length c4) := by rw [hW, World.cell?_alloc_at _ _ _ _ rfl]; rfl
  have q5 : W.cell? ⟨w.heap.size, 5, none⟩ = some (.slice a5 s.els.length c5) := by rw [hW, World.cell?_alloc_at _ _ _ _ rfl]; rfl
  have q6 : W.cell? ⟨w.heap.size, 6, none⟩ = some (.slice a6 s.cases.length c6) := by rw [hW, World.cell?_alloc_at _ _ _ _ rfl]; rfl
  have hlW : w.heap.size < W.heap.size := by rw [hW]; simp
  have n2 : w.heap.size ≠ by_ := by omega
  have hmm : ∀ j, YM by_ V j → base ≤ j ∧ j < w.heap.size := fun j hj => h.at_.mem_lt hj
  have nY : ¬ YM by_ V w.heap.size := fun f => by have := (hmm _ f).2; omega
  have hin : YIn fs dF res 2 2000001 W base by_ vf cf V G lp (k + 1) := h.next (h.at_.since sA (fun _ e => e.elim)) (sA.mono (fun _ e => e.elim)) h.uniq h.deep h.pos h.len h.loops h.names
  obtain ⟨R, hR⟩ : ∃ R, R = stmtT fs res (d + 1) lp.toNat k G s := ⟨_, rfl⟩
  have HR := Lib.hid (show R = (match s.exprs with | [x] => (match isT (exprT fs G d (k + 1) x) 1 with | .error e => .error e | .ok _ => match findT G s.s with | none => .error 6 | some u => if u = 5 then .ok G else .error 9) | _ => .error 8) by
    rw [hR]
    unfold stmtT
    rw [hk, if_neg (by omega), show exprsN (12 : Int) = 1 by decide, if_neg hnb', if_neg (by omega)]
    simp
    try rfl)
  rw [← hR]
  have Hin := Lib.hid hin
  have HY := Lib.hid hin.at_
  have SA := Lib.hid (sA.mono (G := YM by_ V) (fun _ e => e.elim))
  have SA0 := Lib.hid sA
  have Hmm := Lib.hid hmm
  have HnY := Lib.hid nY
  have HSt := Lib.hid hS
  have HI1 := Lib.hid hI1
  have HI2 := Lib.hid hI2
  have Hlp := Lib.hid hlp
  have Hpos := Lib.hid hpos
  have hbad : ∀ (e : Int) (w1 : World) (k' : Int), R = .error e → e ≠ 0 → YAt w1 base by_ vf cf V (YSt.of G lp k') → Since (YM by_ V) w w1 → YStmtPost w base by_ vf cf V G lp (k + 1) R (.returned (.int .i64 e)) w1 := fun e w1 k' hRe he h1 h2 => ⟨e, rfl, by rw [hRe]; exact ⟨rfl, he, G, lp, k', Nat.le_refl _, hgb, V, h1, h2, YAt.NewY.refl _ _ _⟩⟩
  have hok : ∀ (w1 : World), R = .ok G → YAt w1 base by_ vf cf V (YSt.of G lp ((k + 1 : Nat) : Int)) → Since (YM by_ V) w w1 → YStmtPost w base by_ vf cf V G lp (k + 1) R (.returned (.int .i64 0)) w1 := fun w1 hRe h1 h2 => ⟨0, rfl, by rw [hRe]; exact ⟨rfl, ⟨V, h1, h2, YAt.NewY.refl _ _ _⟩, h.uniq, SameG.of rfl, by omega⟩⟩
  have Hbad := Lib.hid hbad
  have Hok := Lib.hid hok
  have hlen : s.exprs.length = 1 := by omega
  obtain ⟨E, hE0⟩ : ∃ E : PExpr → Except Int Int, E = fun x => isT (exprT fs G d (k + 1) x) 1 := ⟨_, rfl⟩
  have hfail : ∀ i (hi : i < s.exprs.length) (e : Int), (∀ j (hj : j < s.exprs.length), j < i → ∃ v, E s.exprs[j] = .ok v) → E s.exprs[i] = .error e → R = .error e := fun i hi e hpre he => by
    rw [HR.out]
    subst hE0
    match hq : s.exprs, hlen with
    | [x], _ =>
      simp only [hq] at hi hpre he ⊢
      match i, hi with
      | 0, _ =>
        simp only [List.getElem_cons_zero] at he
        rw [he]
  have hdone : (∀ j (hj : j < s.exprs.length), ∃ v, E s.exprs[j] = .ok v) → R = match findT G s.s with | none => .error 6 | some u => if u = 5 then .ok G else .error 9 := fun hall => by
    rw [HR.out]
    subst hE0
    match hq : s.exprs, hlen with
    | [x], _ =>
      simp only [hq] at hall ⊢
      obtain ⟨v, hv⟩ := hall 0 (by simp)
      simp only [List.getElem_cons_zero] at hv
      rw [hv]
  have Hfail := Lib.hid hfail
  have Hdone := Lib.hid hdone
  have HE0 := Lib.hid hE0
  have r3W : rSlice 4 (rExpr d) (· < base) W [.slice a3 s.exprs.length c3] s.exprs := Good.kept (sA.keep.weaken (fun _ _ _ e => e.elim)) r3
  have Hr3 := Lib.hid r3W
  have Hf2 := Lib.hid f2
  have hexl : s.exprs.length ≤ 3 := by omega
  clear hfail hdone hE0 r3W hlen
  clear h hin hS hnb hnb' hR hbad hok hgb sA hmm nY hI0 hI1 hI2 hlp hpos hdeep r3 r4 r5 r6 f1 f2 f3 f4 f5 f6 f7 f8 f9 sm1 sm2 sm3 sm4 sm5
  have HhlW := Lib.hid hlW
  subst hW
  go_enter Tryd.func145, Tryd.ntmps145
  go_wp2_with fail
  go_loopw [10] (fun s10 wr => ∃ i : Nat, i ≤ s.exprs.length ∧ s10 = .int .i64 i ∧ (∀ j (hj : j < s.exprs.length), j < i → ∃ v, E s.exprs[j] = .ok v) ∧ YAt wr base by_ vf cf V (YSt.of G lp ((k + 1 : Nat) : Int)) ∧ Since (fun j => j = by_) (w.alloc (.cells #[.int .i64 12, .string s.s, .string s.t, .slice a3 s.exprs.length c3, .slice a4 s.body.length c4, .slice a5 s.els.length c5, .slice a6 s.cases.length c6] 141)) wr) (fun s10 _ => s.exprs.length - (intOf s10).toNat)
  case atStart => exact ⟨0, Nat.zero_le _, rfl, fun j hj h => by omega, HY.out, Since.refl _ _⟩
  case round =>
    obtain ⟨i, hi, rfl, hpre, hyr, hsr⟩ := hrel
    have Hpre := Lib.hid hpre
    have Hyr := Lib.hid hyr
    have Hsr := Lib.hid hsr
    have z0 := (hsr.cell (o := 0) HhlW.out n2).trans q0
    have z1 := (hsr.cell (o := 1) HhlW.out n2).trans q1
    have z3 := (hsr.cell (o := 3) HhlW.out n2).trans q3
    clear hpre hyr hsr
    by_cases hil : i < s.exprs.length
    · have hi0 : (0 : Int) ≤ i := by omega
      have hi1 : (i : Int) < (s.exprs.length : Int) := by omega
      have hwk : IntKind.i64.wrap ((i : Int) + 1) = (i : Int) + 1 := IntWalk.i64_in _ (by omega)
      have hr3 := Hr3.out
      obtain ⟨b, off, cap, ax, cx, hv, hSb, hbl, x0, x1, x2, x3, hrx⟩ := rExprs_get hr3 i hil
      obtain ⟨rfl, -, rfl⟩ := Value.slice.inj hv
      have hbn : b ≠ by_ := by omega
      have tx := fun o => Hsr.out.cell (o := o) hbl hbn
      have y0 := (tx _).trans x0
      have y1 := (tx _).trans x1
      have y2 := (tx _).trans x2
      have y3 := (tx _).trans x3
      have Hfl := Lib.hid (fun e => Hfail.out i hil e Hpre.out)
      have hval := yIs_any (Hin.out.expr.next Hyr.out Hsr.out) (Good.kept (Hsr.out.keep.weaken (fun j _ hj e => by omega)) hrx) (Hf2.out _ (List.getElem_mem hil)) 1
      have hstep : (∃ v, E s.exprs[i] = .ok v) → ∀ j (hj : j < s.exprs.length), j < i + 1 → ∃ v, E s.exprs[j] = .ok v := fun hv j hj hji => by
        by_cases e : j = i
        · subst e; exact hv
        · exact Hpre.out j hj (by omega)
      have Hstep := Lib.hid hstep
      have eE : isT (exprT fs G d (k + 1) s.exprs[i]) 1 = E s.exprs[i] := by rw [HE0.out]
      rw [eE] at hval
      have Hval := Lib.hid hval
      clear hv x0 x1 x2 x3 tx hrx hval hr3 eE hstep
      generalize E s.exprs[i] = RE at *
      generalize s.exprs[i] = x at *
      go_wp2_with fail
      refine Hval.out.mono ?_
      rintro en w1 ⟨e, k', rfl, hy1, hs1, hp1⟩
      have HY1 := Lib.hid hy1
      have HS1 := Lib.hid hs1
      clear hy1 hs1
      cases RE with
      | error e' =>
        obtain ⟨rfl, hne⟩ := hp1
        have he1 : (e != 0) = true := by simpa using hne
        have HP := Lib.hid (Hbad.out e w1 _ (Hfl.out e rfl) hne HY1.out (SA.out.trans ((Hsr.out.trans HS1.out).mono (fun j e => Or.inl e))))
        clear hne
        go_wp2_with fail
        go_ret
        exact HP.out
      | ok v =>
        obtain ⟨rfl, rfl⟩ := hp1
        have HSt := Lib.hid (Hstep.out ⟨v, rfl⟩)
        go_wp2_with fail
        go_roundw
        case rel => exact ⟨i + 1, by omega, by go_num, HSt.out, HY1.out, Hsr.out.trans HS1.out⟩
        case measure => simp only [intOf]; omega
    · have hie : i = s.exprs.length := by omega
      have hil1 : decide ((i : Int) < (s.exprs.length : Int)) = false := decide_eq_false (by omega)
      have HR2 := Lib.hid (Hdone.out (fun j hj => Hpre.out j hj (by omega)))
      have hto := yTypeOf_any Hyr.out Hin.out.uniq s.s
      have Hto := Lib.hid hto
      clear hto hie
      go_wp2_with fail
      refine Hto.out.mono ?_
      rintro en w2 ⟨rfl, rfl⟩
      have HSM := Lib.hid (SA.out.trans (Hsr.out.mono (G := YM by_ V) (fun j e => Or.inl e)))
      cases hF : findT G s.s with
      | none =>
        have e1 : typeOfT G s.s = (0, 6) := by unfold typeOfT; rw [hF]
        rw [e1]
        have HP := Lib.hid (Hbad.out 6 wr _ (by rw [HR2.out, hF]) (by decide) Hyr.out HSM.out)
        clear hF
        go_wp2_with fail
        go_ret
        exact HP.out
      | some u =>
        have e1 : typeOfT G s.s = (u, 0) := by unfold typeOfT; rw [hF]
        rw [e1]
        by_cases h5 : u = 5
        · have h51 : (u != 5) = false := by simp [h5]
          have HP := Lib.hid (Hok.out wr (by rw [HR2.out, hF]; simp only [if_pos (h5)]) Hyr.out HSM.out)
          clear hF h5
          go_wp2_with fail
          go_ret
          exact HP.out
        · have h51 : (u != 5) = true := by simpa using h5
          have HP := Lib.hid (Hbad.out 9 wr _ (by rw [HR2.out, hF]; simp only [if_neg h5]) (by decide) Hyr.out HSM.out)
          clear hF h5
          go_wp2_with fail
          go_ret
          exact HP.out

end Go.Proofs.YtaomlfbcfmmhlaaDoor

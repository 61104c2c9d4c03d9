/-
  Texts joined: YInB.
-/
import Derived.Test.YtaomlfbcfmmhlaaDoorTCZL
import Derived.Test.YtaomlfbcfmmhlaaDoorTCZK
import Derived.Deep.RegionHeld3
import Derived.Test.YtaomlfbcfmmhlaaDoorTCT

/-
  posternref's typer: stmtInner at a set, a do: the contract (printed by wip/gen_yinner.py).
-/
namespace Go.Proofs.YtaomlfbcfmmhlaaDoor
open Go.RowKit Go.Pst
set_option linter.unusedVariables false
set_option linter.unusedSimpArgs false

set_option maxRecDepth 10000 in
set_option maxHeartbeats 4000000 in
theorem yInner_2 {fs : List PFunc} {dF : Nat} {res : Int} {base by_ : Nat} {vf : Value} {cf : List Value} {d : Nat} (hS : YStmtSaid fs dF res base by_ vf cf d) (s : PStmt) (cs : List Value) (w : World) (V : Fin 3 → Value) (G : List Scope) (lp : Int) (k : Nat) (h : YIn fs dF res 2 2000001 w base by_ vf cf V G lp (k + 1)) (hlp : lp + 1 ≤ ((k + 1 : Nat) : Int)) (hpos : 0 < G.length)
    (hr : rStmt (d + 1) (· < base) w cs s) (hf : FitS (d + 1) s) (hsm : SmallS (d + 1) s) (hk : s.kind = 2) (hnb : ¬ BadCount s) :
    Calls Tryd.prog 145 #[.pointer (some ⟨by_, 0, none⟩), .agg cs.toArray] w (YStmtPost w base by_ vf cf V G lp (k + 1) (stmtT fs res (d + 1) lp.toNat k G s)) := by
  obtain ⟨v3, v4, v5, v6, rfl, ⟨hI0, hI1, hI2⟩, r3, r4, r5, r6⟩ := hr
  obtain ⟨a3, c3, rfl⟩ := rSlice_shape r3
  obtain ⟨a4, c4, rfl⟩ := rSlice_shape r4
  obtain ⟨a5, c5, rfl⟩ := rSlice_shape r5
  obtain ⟨a6, c6, rfl⟩ := rSlice_shape r6
  obtain ⟨⟨f1, f2⟩, ⟨f3, f4⟩, ⟨f5, f6⟩, ⟨f7, f8⟩, f9⟩ := hf
  obtain ⟨⟨sm1, sm2⟩, ⟨sm3, sm4⟩, sm5⟩ := hsm
  have hnb' : ¬ ((0 ≤ exprsN s.kind ∧ exprsN s.kind ≠ s.exprs.length) ∨ 2 < s.exprs.length) := hnb
  rw [hk, show exprsN (2 : Int) = 1 by decide] at hnb'
  have hlt := h.at_.lb.2
  have hbase := h.at_.lb.1
  have hdeep := h.deep
  have hgb := h.gb
  rw [hk]
  obtain ⟨W, hW⟩ : ∃ W, W = w.alloc (.cells #[.int .i64 2, .string s.s, .string s.t, .slice a3 s.exprs.length c3, .slice a4 s.body.length c4, .slice a5 s.els.length c5, .slice a6 s.cases.length c6] 141) := ⟨_, rfl⟩
  have sA : Since (fun _ => False) w W := by rw [hW]; exact Since.alloc _ _ _
  have q0 : W.cell? ⟨w.heap.size, 0, none⟩ = some (.int .i64 2) := by rw [hW, World.cell?_alloc_at _ _ _ _ rfl]; rfl
  have q1 : W.cell? ⟨w.heap.size, 1, none⟩ = some (.string s.s) := by rw [hW, World.cell?_alloc_at _ _ _ _ rfl]; rfl
  have q2 : W.cell? ⟨w.heap.size, 2, none⟩ = some (.string s.t) := by rw [hW, World.cell?_alloc_at _ _ _ _ rfl]; rfl
  have q3 : W.cell? ⟨w.heap.size, 3, none⟩ = some (.slice a3 s.exprs.length c3) := by rw [hW, World.cell?_alloc_at _ _ _ _ rfl]; rfl
  have q4 : W.cell? ⟨w.heap.size, 4, none⟩ = some (.slice a4 s.body.length c4) := by rw [hW, World.cell?_alloc_at _ _ _ _ rfl]; rfl
  have q5 : W.cell? ⟨w.heap.size, 5, none⟩ = some (.slice a5 s.els.length c5) := by rw [hW, World.cell?_alloc_at _ _ _ _ rfl]; rfl
  have q6 : W.cell? ⟨w.heap.size, 6, none⟩ = some (.slice a6 s.cases.length c6) := by rw [hW, World.cell?_alloc_at _ _ _ _ rfl]; rfl
  have hlW : w.heap.size < W.heap.size := by rw [hW]; simp
  have n2 : w.heap.size ≠ by_ := by omega
  have hmm : ∀ j, YM by_ V j → base ≤ j ∧ j < w.heap.size := fun j hj => h.at_.mem_lt hj
  have nY : ¬ YM by_ V w.heap.size := fun f => by have := (hmm _ f).2; omega
  have hin : YIn fs dF res 2 2000001 W base by_ vf cf V G lp (k + 1) := h.next (h.at_.since sA (fun _ e => e.elim)) (sA.mono (fun _ e => e.elim)) h.uniq h.deep h.pos h.len h.loops h.names
  obtain ⟨R, hR⟩ : ∃ R, R = stmtT fs res (d + 1) lp.toNat k G s := ⟨_, rfl⟩
  obtain ⟨x, hxe⟩ : ∃ x, s.exprs = [x] := by
    match hq : s.exprs, (show s.exprs.length = 1 by omega) with
    | [x], _ => exact ⟨x, rfl⟩
  have hfx : FitX d x := f2 x (by rw [hxe]; simp)
  have r3' := r3
  rw [hxe] at r3'
  obtain ⟨b, off, cap, ax, cx, hv, hSb, hbl, x0, x1, x2, x3, hrx⟩ := rExprs_get r3' 0 (by simp)
  obtain ⟨rfl, -, rfl⟩ := Value.slice.inj hv
  simp only [List.getElem_cons_zero, Nat.zero_mul, Nat.add_zero] at x0 x1 x2 x3 hrx
  have tx := fun o => sA.cell (o := o) hbl (fun e => e)
  have y0 := (tx _).trans x0
  have y1 := (tx _).trans x1
  have y2 := (tx _).trans x2
  have y3 := (tx _).trans x3
  have hbn : b ≠ by_ := by omega
  have hrx2 : rExpr d (· < base) W _ x := Good.kept (sA.keep.weaken (fun _ _ _ e => e.elim)) hrx
  have hval := yWorth_any hin.expr hrx2 hfx
  have Hval := Lib.hid hval
  have hl0 : (0 : Int) < (s.exprs.length : Int) := by rw [hxe]; simp
  have hl1 : 0 < s.exprs.length := by rw [hxe]; simp
  have HR := Lib.hid (show R = setT G (valuedT (exprT fs G d (k + 1) x)) s.s by
    rw [hR]
    unfold stmtT
    rw [hk, if_neg (by omega), show exprsN (2 : Int) = 1 by decide, if_neg hnb', if_neg (by omega), hxe]
    simp
    try rfl)
  rw [← hR]
  have Hin := Lib.hid hin
  have HY := Lib.hid hin.at_
  have SA := Lib.hid (sA.mono (G := YM by_ V) (fun _ e => e.elim))
  have SA0 := Lib.hid sA
  have Hmm := Lib.hid hmm
  have HnY := Lib.hid nY
  have HSt := Lib.hid hS
  have HI1 := Lib.hid hI1
  have HI2 := Lib.hid hI2
  have Hlp := Lib.hid hlp
  have Hpos := Lib.hid hpos
  have hbad : ∀ (e : Int) (w1 : World) (k' : Int), R = .error e → e ≠ 0 → YAt w1 base by_ vf cf V (YSt.of G lp k') → Since (YM by_ V) w w1 → YStmtPost w base by_ vf cf V G lp (k + 1) R (.returned (.int .i64 e)) w1 := fun e w1 k' hRe he h1 h2 => ⟨e, rfl, by rw [hRe]; exact ⟨rfl, he, G, lp, k', Nat.le_refl _, hgb, V, h1, h2, YAt.NewY.refl _ _ _⟩⟩
  have hok : ∀ (w1 : World), R = .ok G → YAt w1 base by_ vf cf V (YSt.of G lp ((k + 1 : Nat) : Int)) → Since (YM by_ V) w w1 → YStmtPost w base by_ vf cf V G lp (k + 1) R (.returned (.int .i64 0)) w1 := fun w1 hRe h1 h2 => ⟨0, rfl, by rw [hRe]; exact ⟨rfl, ⟨V, h1, h2, YAt.NewY.refl _ _ _⟩, h.uniq, SameG.of rfl, by omega⟩⟩
  have Hbad := Lib.hid hbad
  have Hok := Lib.hid hok
  clear hxe hfx r3' hv x0 x1 x2 x3 tx hrx hrx2 hval
  clear h hin hS hnb hnb' hR hbad hok hgb sA hmm nY hI0 hI1 hI2 hlp hpos hdeep r3 r4 r5 r6 f1 f2 f3 f4 f5 f6 f7 f8 f9 sm1 sm2 sm3 sm4 sm5
  subst hW
  go_enter Tryd.func145, Tryd.ntmps145
  go_wp2_with fail
  refine Hval.out.mono ?_
  rintro en w1 ⟨t, e, k', rfl, hy1, hs1, hp1⟩
  have HY1 := Lib.hid hy1
  have HS1 := Lib.hid hs1
  have HSM := Lib.hid (SA.out.trans (hs1.mono (G := YM by_ V) (fun j e => Or.inl e)))
  have z0 := (hs1.cell (o := 0) hlW n2).trans q0
  have z1 := (hs1.cell (o := 1) hlW n2).trans q1
  have z2 := (hs1.cell (o := 2) hlW n2).trans q2
  have z4 := (hs1.cell (o := 4) hlW n2).trans q4
  have z5 := (hs1.cell (o := 5) hlW n2).trans q5
  have z6 := (hs1.cell (o := 6) hlW n2).trans q6
  clear hy1 hs1 q0 q1 q2 q3 q4 q5 q6
  cases hE : valuedT (exprT fs G d (k + 1) x) with
  | error e' =>
    rw [hE] at hp1
    obtain ⟨rfl, hne⟩ := hp1
    have he1 : (e != 0) = true := by simpa using hne
    have he2 : (e == 0) = false := by simpa using hne
    have HP := Lib.hid (Hbad.out e w1 _ (by rw [HR.out, hE]; rfl) hne HY1.out HSM.out)
    clear hne hE
    go_wp2_with fail
    go_ret
    exact HP.out
  | ok u =>
    rw [hE] at hp1
    obtain ⟨rfl, rfl, rfl⟩ := hp1
    have HE := Lib.hid hE
    clear hE
    have hto := yTypeOf_any HY1.out Hin.out.uniq s.s
    have Hto := Lib.hid hto
    clear hto
    go_wp2_with fail
    refine Hto.out.mono ?_
    rintro en w2 ⟨rfl, rfl⟩
    cases hF : findT G s.s with
    | none =>
      have e1 : typeOfT G s.s = (0, 6) := by unfold typeOfT; rw [hF]
      rw [e1]
      have HP := Lib.hid (Hbad.out 6 w1 _ (by rw [HR.out, HE.out, setT, hF]) (by decide) HY1.out HSM.out)
      clear hF
      go_wp2_with fail
      go_ret
      exact HP.out
    | some u =>
      have e1 : typeOfT G s.s = (u, 0) := by unfold typeOfT; rw [hF]
      rw [e1]
      have HF := Lib.hid hF
      clear hF
      by_cases hu : t = u
      · have hu1 : (u != t) = false := by simp [hu]
        have HP := Lib.hid (Hok.out w1 (by rw [HR.out, HE.out, setT, HF.out]; simp only [if_pos hu]) HY1.out HSM.out)
        clear hu
        go_wp2_with fail
        go_ret
        exact HP.out
      · have hu1 : (u != t) = true := bne_iff_ne.2 (fun e => hu e.symm)
        have HP := Lib.hid (Hbad.out 9 w1 _ (by rw [HR.out, HE.out, setT, HF.out]; simp only [if_neg hu]) (by decide) HY1.out HSM.out)
        clear hu
        go_wp2_with fail
        go_ret
        exact HP.out

set_option maxRecDepth 10000 in
set_option maxHeartbeats 4000000 in
theorem yInner_13 {fs : List PFunc} {dF : Nat} {res : Int} {base by_ : Nat} {vf : Value} {cf : List Value} {d : Nat} (hS : YStmtSaid fs dF res base by_ vf cf d) (s : PStmt) (cs : List Value) (w : World) (V : Fin 3 → Value) (G : List Scope) (lp : Int) (k : Nat) (h : YIn fs dF res 2 2000001 w base by_ vf cf V G lp (k + 1)) (hlp : lp + 1 ≤ ((k + 1 : Nat) : Int)) (hpos : 0 < G.length)
    (hr : rStmt (d + 1) (· < base) w cs s) (hf : FitS (d + 1) s) (hsm : SmallS (d + 1) s) (hk : s.kind = 13) (hnb : ¬ BadCount s) :
    Calls Tryd.prog 145 #[.pointer (some ⟨by_, 0, none⟩), .agg cs.toArray] w (YStmtPost w base by_ vf cf V G lp (k + 1) (stmtT fs res (d + 1) lp.toNat k G s)) := by
  obtain ⟨v3, v4, v5, v6, rfl, ⟨hI0, hI1, hI2⟩, r3, r4, r5, r6⟩ := hr
  obtain ⟨a3, c3, rfl⟩ := rSlice_shape r3
  obtain ⟨a4, c4, rfl⟩ := rSlice_shape r4
  obtain ⟨a5, c5, rfl⟩ := rSlice_shape r5
  obtain ⟨a6, c6, rfl⟩ := rSlice_shape r6
  obtain ⟨⟨f1, f2⟩, ⟨f3, f4⟩, ⟨f5, f6⟩, ⟨f7, f8⟩, f9⟩ := hf
  obtain ⟨⟨sm1, sm2⟩, ⟨sm3, sm4⟩, sm5⟩ := hsm
  have hnb' : ¬ ((0 ≤ exprsN s.kind ∧ exprsN s.kind ≠ s.exprs.length) ∨ 2 < s.exprs.length) := hnb
  rw [hk, show exprsN (13 : Int) = 1 by decide] at hnb'
  have hlt := h.at_.lb.2
  have hbase := h.at_.lb.1
  have hdeep := h.deep
  have hgb := h.gb
  rw [hk]
  obtain ⟨W, hW⟩ : ∃ W, W = w.alloc (.cells #[.int .i64 13, .string s.s, .string s.t, .slice a3 s.exprs.length c3, .slice a4 s.body.length c4, .slice a5 s.els.length c5, .slice a6 s.cases.length c6] 141) := ⟨_, rfl⟩
  have sA : Since (fun _ => False) w W := by rw [hW]; exact Since.alloc _ _ _
  have q0 : W.cell? ⟨w.heap.size, 0, none⟩ = some (.int .i64 13) := by rw [hW, World.cell?_alloc_at _ _ _ _ rfl]; rfl
  have q1 : W.cell? ⟨w.heap.size, 1, none⟩ = some (.string s.s) := by rw [hW, World.cell?_alloc_at _ _ _ _ rfl]; rfl
  have q2 : W.cell? ⟨w.heap.size, 2, none⟩ = some (.string s.t) := by rw [hW, World.cell?_alloc_at _ _ _ _ rfl]; rfl
  have q3 : W.cell? ⟨w.heap.size, 3, none⟩ = some (.slice a3 s.exprs.length c3) := by rw [hW, World.cell?_alloc_at _ _ _ _ rfl]; rfl
  have q4 : W.cell? ⟨w.heap.size, 4, none⟩ = some (.slice a4 s.body.length c4) := by rw [hW, World.cell?_alloc_at _ _ _ _ rfl]; rfl
  have q5 : W.cell? ⟨w.heap.size, 5, none⟩ = some (.slice a5 s.els.length c5) := by rw [hW, World.cell?_alloc_at _ _ _ _ rfl]; rfl
  have q6 : W.cell? ⟨w.heap.size, 6, none⟩ = some (.slice a6 s.cases.length c6) := by rw [hW, World.cell?_alloc_at _ _ _ _ rfl]; rfl
  have hlW : w.heap.size < W.heap.size := by rw [hW]; simp
  have n2 : w.heap.size ≠ by_ := by omega
  have hmm : ∀ j, YM by_ V j → base ≤ j ∧ j < w.heap.size := fun j hj => h.at_.mem_lt hj
  have nY : ¬ YM by_ V w.heap.size := fun f => by have := (hmm _ f).2; omega
  have hin : YIn fs dF res 2 2000001 W base by_ vf cf V G lp (k + 1) := h.next (h.at_.since sA (fun _ e => e.elim)) (sA.mono (fun _ e => e.elim)) h.uniq h.deep h.pos h.len h.loops h.names
  obtain ⟨R, hR⟩ : ∃ R, R = stmtT fs res (d + 1) lp.toNat k G s := ⟨_, rfl⟩
  obtain ⟨x, hxe⟩ : ∃ x, s.exprs = [x] := by
    match hq : s.exprs, (show s.exprs.length = 1 by omega) with
    | [x], _ => exact ⟨x, rfl⟩
  have hfx : FitX d x := f2 x (by rw [hxe]; simp)
  have r3' := r3
  rw [hxe] at r3'
  obtain ⟨b, off, cap, ax, cx, hv, hSb, hbl, x0, x1, x2, x3, hrx⟩ := rExprs_get r3' 0 (by simp)
  obtain ⟨rfl, -, rfl⟩ := Value.slice.inj hv
  simp only [List.getElem_cons_zero, Nat.zero_mul, Nat.add_zero] at x0 x1 x2 x3 hrx
  have tx := fun o => sA.cell (o := o) hbl (fun e => e)
  have y0 := (tx _).trans x0
  have y1 := (tx _).trans x1
  have y2 := (tx _).trans x2
  have y3 := (tx _).trans x3
  have hbn : b ≠ by_ := by omega
  have hrx2 : rExpr d (· < base) W _ x := Good.kept (sA.keep.weaken (fun _ _ _ e => e.elim)) hrx
  have hval := YTypedSaid.at hin.expr hrx2 hfx
  have Hval := Lib.hid hval
  have hl0 : (0 : Int) < (s.exprs.length : Int) := by rw [hxe]; simp
  have hl1 : 0 < s.exprs.length := by rw [hxe]; simp
  have HR := Lib.hid (show R = (if x.kind ≠ 7 then .error 4 else (match exprT fs G d (k + 1) x with | .error e => .error e | .ok _ => .ok G)) by
    rw [hR]
    unfold stmtT
    rw [hk, if_neg (by omega), show exprsN (13 : Int) = 1 by decide, if_neg hnb', if_neg (by omega), hxe]
    simp
    try rfl)
  rw [← hR]
  have Hin := Lib.hid hin
  have HY := Lib.hid hin.at_
  have SA := Lib.hid (sA.mono (G := YM by_ V) (fun _ e => e.elim))
  have SA0 := Lib.hid sA
  have Hmm := Lib.hid hmm
  have HnY := Lib.hid nY
  have HSt := Lib.hid hS
  have HI1 := Lib.hid hI1
  have HI2 := Lib.hid hI2
  have Hlp := Lib.hid hlp
  have Hpos := Lib.hid hpos
  have hbad : ∀ (e : Int) (w1 : World) (k' : Int), R = .error e → e ≠ 0 → YAt w1 base by_ vf cf V (YSt.of G lp k') → Since (YM by_ V) w w1 → YStmtPost w base by_ vf cf V G lp (k + 1) R (.returned (.int .i64 e)) w1 := fun e w1 k' hRe he h1 h2 => ⟨e, rfl, by rw [hRe]; exact ⟨rfl, he, G, lp, k', Nat.le_refl _, hgb, V, h1, h2, YAt.NewY.refl _ _ _⟩⟩
  have hok : ∀ (w1 : World), R = .ok G → YAt w1 base by_ vf cf V (YSt.of G lp ((k + 1 : Nat) : Int)) → Since (YM by_ V) w w1 → YStmtPost w base by_ vf cf V G lp (k + 1) R (.returned (.int .i64 0)) w1 := fun w1 hRe h1 h2 => ⟨0, rfl, by rw [hRe]; exact ⟨rfl, ⟨V, h1, h2, YAt.NewY.refl _ _ _⟩, h.uniq, SameG.of rfl, by omega⟩⟩
  have Hbad := Lib.hid hbad
  have Hok := Lib.hid hok
  clear hxe hfx r3' hv x0 x1 x2 x3 tx hrx hrx2 hval
  clear h hin hS hnb hnb' hR hbad hok hgb sA hmm nY hI0 hI1 hI2 hlp hpos hdeep r3 r4 r5 r6 f1 f2 f3 f4 f5 f6 f7 f8 f9 sm1 sm2 sm3 sm4 sm5
  by_cases h7 : x.kind = 7
  · have h71 : (x.kind != 7) = false := by simp [h7]
    have HR2 := Lib.hid (show R = (match exprT fs G d (k + 1) x with | .error e => .error e | .ok _ => .ok G) by rw [HR.out, if_neg (by simp [h7])])
    clear h7
    subst hW
    go_enter Tryd.func145, Tryd.ntmps145
    go_wp2_with fail
    refine Hval.out.mono ?_
    rintro en w1 ⟨t, e, k', rfl, hy1, hs1, hp1⟩
    have HY1 := Lib.hid hy1
    have HS1 := Lib.hid hs1
    have HSM := Lib.hid (SA.out.trans (hs1.mono (G := YM by_ V) (fun j e => Or.inl e)))
    have z0 := (hs1.cell (o := 0) hlW n2).trans q0
    have z1 := (hs1.cell (o := 1) hlW n2).trans q1
    have z2 := (hs1.cell (o := 2) hlW n2).trans q2
    have z4 := (hs1.cell (o := 4) hlW n2).trans q4
    have z5 := (hs1.cell (o := 5) hlW n2).trans q5
    have z6 := (hs1.cell (o := 6) hlW n2).trans q6
    clear hy1 hs1 q0 q1 q2 q3 q4 q5 q6
    cases hE : exprT fs G d (k + 1) x with
    | error e' =>
      rw [hE] at hp1
      obtain ⟨rfl, hne⟩ := hp1
      have he1 : (e != 0) = true := by simpa using hne
      have he2 : (e == 0) = false := by simpa using hne
      have HP := Lib.hid (Hbad.out e w1 _ (by rw [HR2.out, hE]) hne HY1.out HSM.out)
      clear hne hE
      go_wp2_with fail
      go_ret
      exact HP.out
    | ok u =>
      rw [hE] at hp1
      obtain ⟨rfl, rfl, rfl⟩ := hp1
      have HE := Lib.hid hE
      clear hE
      have HP := Lib.hid (Hok.out w1 (by rw [HR2.out, HE.out]) HY1.out HSM.out)
      go_wp2_with fail
      go_ret
      exact HP.out
  · have h71 : (x.kind != 7) = true := by simpa using h7
    have HP := Lib.hid (Hbad.out 4 W _ (by rw [HR.out, if_pos h7]) (by decide) HY.out SA.out)
    clear h7
    subst hW
    go_enter Tryd.func145, Tryd.ntmps145
    go_wp2_with fail
    go_ret
    exact HP.out

end Go.Proofs.YtaomlfbcfmmhlaaDoor

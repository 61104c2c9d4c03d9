/-
  Texts joined: YInD.
-/
import Derived.Test.YtaomlfbcfmmhlaaDoorTCZN
import Derived.Test.YtaomlfbcfmmhlaaDoorTCZK
import Derived.Deep.RegionHeld3
import Derived.Test.YtaomlfbcfmmhlaaDoorTCT

/-
  posternref's typer: stmtInner at a return, an if: the contract (printed by wip/gen_yinner.py).
-/
namespace Go.Proofs.YtaomlfbcfmmhlaaDoor
open Go.RowKit Go.Pst
set_option linter.unusedVariables false
set_option linter.unusedSimpArgs false

theorem YAt.res {w : World} {base by_ : Nat} {vf : Value} {cf : List Value} {V : Fin 3 → Value} {s : YSt} (h : YAt w base by_ vf cf V s) {v : Value} (hv : cf[2]? = some v) : w.cell? ⟨by_, 3, none⟩ = some v := by
  have hl := h.cl
  have := h.c1 2 (by omega)
  rw [List.getElem?_eq_getElem (by omega)] at hv
  exact this.trans hv
theorem YAt.setLoops {w : World} {base by_ : Nat} {vf : Value} {cf : List Value} {V : Fin 3 → Value} {G : List Scope} {l d : Int} (h : YAt w base by_ vf cf V (YSt.of G l d)) (x : Int) : YAt (w.setCell ⟨by_, 8, none⟩ (.int .i64 x)) base by_ vf cf V (YSt.of G x d) :=
  h.set 8 x _ rfl rfl rfl (Or.inl rfl) rfl rfl
theorem YDone.loops {w w1 : World} {base by_ : Nat} {vf : Value} {cf : List Value} {V : Fin 3 → Value} {G : List Scope} {lp k : Int} (h : YDone w base by_ vf cf V G lp k w1) (x : Int) : YDone w base by_ vf cf V G x k (w1.setCell ⟨by_, 8, none⟩ (.int .i64 x)) := by
  obtain ⟨V2, h1, h2, h3⟩ := h
  have s2 : Since (fun j => j = by_) w1 (w1.setCell ⟨by_, 8, none⟩ (.int .i64 x)) := Since.setCell w1 ⟨by_, 8, none⟩ (.int .i64 x)
  exact ⟨V2, h1.setLoops x, h2.trans (s2.mono (fun k e => Or.inl e)), h3⟩
theorem YStmtPost.since {w w2 : World} {base by_ : Nat} {vf : Value} {cf : List Value} {V : Fin 3 → Value} {G : List Scope} {lp : Int} {k : Nat} {R : Except Int (List Scope)} {en : Ending} (p : YStmtPost w base by_ vf cf V G lp k R en w2) : Since (YM by_ V) w w2 := by
  obtain ⟨e, he, p⟩ := p
  cases R with
  | error e' =>
    obtain ⟨p1, p2, G', lp', k', p3, p4, V2, q1, q2, q3⟩ := p
    exact q2
  | ok G' =>
    obtain ⟨p1, ⟨V2, q1, q2, q3⟩, p3, p4, p5⟩ := p
    exact q2
theorem YStmtPost.trans {w w1 w2 : World} {base by_ : Nat} {vf : Value} {cf : List Value} {V V1 : Fin 3 → Value} {G : List Scope} {lp : Int} {k : Nat} {R : Except Int (List Scope)} {en : Ending} (hs : Since (YM by_ V) w w1) (hn : YAt.NewY w by_ V V1) (p : YStmtPost w1 base by_ vf cf V1 G lp k R en w2) : YStmtPost w base by_ vf cf V G lp k R en w2 := by
  obtain ⟨e, he, p⟩ := p
  refine ⟨e, he, ?_⟩
  cases R with
  | error e' =>
    obtain ⟨p1, p2, G', lp', k', p3, p4, p5⟩ := p
    exact ⟨p1, p2, G', lp', k', p3, p4, YDone.trans hs hn p5⟩
  | ok G' =>
    obtain ⟨p1, p2, p3, p4, p5⟩ := p
    exact ⟨p1, YDone.trans hs hn p2, p3, p4, p5⟩

set_option maxRecDepth 10000 in
set_option maxHeartbeats 4000000 in
theorem yInner_8 {fs : List PFunc} {dF : Nat} {res : Int} {base by_ : Nat} {vf : Value} {cf : List Value} {d : Nat} (hS : YStmtSaid fs dF res base by_ vf cf d) (s : PStmt) (cs : List Value) (w : World) (V : Fin 3 → Value) (G : List Scope) (lp : Int) (k : Nat) (h : YIn fs dF res 2 2000001 w base by_ vf cf V G lp (k + 1)) (hlp : lp + 1 ≤ ((k + 1 : Nat) : Int)) (hpos : 0 < G.length)
    (hr : rStmt (d + 1) (· < base) w cs s) (hf : FitS (d + 1) s) (hsm : SmallS (d + 1) s) (hk : s.kind = 8) (hnb : ¬ BadCount s) :
    Calls Tryd.prog 145 #[.pointer (some ⟨by_, 0, none⟩), .agg cs.toArray] w (YStmtPost w base by_ vf cf V G lp (k + 1) (stmtT fs res (d + 1) lp.toNat k G s)) := by
  obtain ⟨v3, v4, v5, v6, rfl, ⟨hI0, hI1, hI2⟩, r3, r4, r5, r6⟩ := hr
  obtain ⟨a3, c3, rfl⟩ := rSlice_shape r3
  obtain ⟨a4, c4, rfl⟩ := rSlice_shape r4
  obtain ⟨a5, c5, rfl⟩ := rSlice_shape r5
  obtain ⟨a6, c6, rfl⟩ := rSlice_shape r6
  obtain ⟨⟨f1, f2⟩, ⟨f3, f4⟩, ⟨f5, f6⟩, ⟨f7, f8⟩, f9⟩ := hf
  obtain ⟨⟨sm1, sm2⟩, ⟨sm3, sm4⟩, sm5⟩ := hsm
  have hnb' : ¬ ((0 ≤ exprsN s.kind ∧ exprsN s.kind ≠ s.exprs.length) ∨ 2 < s.exprs.length) := hnb
  rw [hk, show exprsN (8 : Int) = (-1) by decide] at hnb'
  have hlt := h.at_.lb.2
  have hbase := h.at_.lb.1
  have hdeep := h.deep
  have hgb := h.gb
  rw [hk]
  obtain ⟨W, hW⟩ : ∃ W, W = w.alloc (.cells #[.int .i64 8, .string s.s, .string s.t, .slice a3 s.exprs.length c3, .slice a4 s.body.length c4, .slice a5 s.els.length c5, .slice a6 s.cases.length c6] 141) := ⟨_, rfl⟩
  have sA : Since (fun _ => False) w W := by rw [hW]; exact Since.alloc _ _ _
  have q0 : W.cell? ⟨w.heap.size, 0, none⟩ = some (.int .i64 8) := by rw [hW, World.cell?_alloc_at _ _ _ _ rfl]; rfl
  have q1 : W.cell? ⟨w.heap.size, 1, none⟩ = some (.string s.s) := by rw [hW, World.cell?_alloc_at _ _ _ _ rfl]; rfl
  have q2 : W.cell? ⟨w.heap.size, 2, none⟩ = some (.string s.t) := by rw [hW, World.cell?_alloc_at _ _ _ _ rfl]; rfl
  have q3 : W.cell? ⟨w.heap.size, 3, none⟩ = some (.slice a3 s.exprs.length c3) := by rw [hW, World.cell?_alloc_at _ _ _ _ rfl]; rfl
  have q4 : W.cell? ⟨w.heap.size, 4, none⟩ = some (.slice a4 s.body.length c4) := by rw [hW, World.cell?_alloc_at _ _ _ _ rfl]; rfl
  have q5 : W.cell? ⟨w.heap.size, 5, none⟩ = some (.slice a5 s.els.length c5) := by rw [hW, World.cell?_alloc_at _ _ _ _ rfl]; rfl
  have q6 : W.cell? ⟨w.heap.size, 6, none⟩ = some (.slice a6 s.cases.length c6) := by rw [hW, World.cell?_alloc_at _ _ _ _ rfl]; rfl
  have hlW : w.heap.size < W.heap.size := by rw [hW]; simp
  have n2 : w.heap.size ≠ by_ := by omega
  have hmm : ∀ j, YM by_ V j → base ≤ j ∧ j < w.heap.size := fun j hj => h.at_.mem_lt hj
  have nY : ¬ YM by_ V w.heap.size := fun f => by have := (hmm _ f).2; omega
  have hin : YIn fs dF res 2 2000001 W base by_ vf cf V G lp (k + 1) := h.next (h.at_.since sA (fun _ e => e.elim)) (sA.mono (fun _ e => e.elim)) h.uniq h.deep h.pos h.len h.loops h.names
  obtain ⟨R, hR⟩ : ∃ R, R = stmtT fs res (d + 1) lp.toNat k G s := ⟨_, rfl⟩
  have HR := Lib.hid (show R = backT G res s.exprs (exprT fs G d (k + 1)) by
    rw [hR]
    unfold stmtT
    rw [hk, if_neg (by omega), show exprsN (8 : Int) = (-1) by decide, if_neg hnb', if_neg (by omega)]
    simp)
  rw [← hR]
  have Hin := Lib.hid hin
  have HY := Lib.hid hin.at_
  have SA := Lib.hid (sA.mono (G := YM by_ V) (fun _ e => e.elim))
  have SA0 := Lib.hid sA
  have Hmm := Lib.hid hmm
  have HnY := Lib.hid nY
  have HSt := Lib.hid hS
  have HI1 := Lib.hid hI1
  have HI2 := Lib.hid hI2
  have Hlp := Lib.hid hlp
  have Hpos := Lib.hid hpos
  have hbad : ∀ (e : Int) (w1 : World) (k' : Int), R = .error e → e ≠ 0 → YAt w1 base by_ vf cf V (YSt.of G lp k') → Since (YM by_ V) w w1 → YStmtPost w base by_ vf cf V G lp (k + 1) R (.returned (.int .i64 e)) w1 := fun e w1 k' hRe he h1 h2 => ⟨e, rfl, by rw [hRe]; exact ⟨rfl, he, G, lp, k', Nat.le_refl _, hgb, V, h1, h2, YAt.NewY.refl _ _ _⟩⟩
  have hok : ∀ (w1 : World), R = .ok G → YAt w1 base by_ vf cf V (YSt.of G lp ((k + 1 : Nat) : Int)) → Since (YM by_ V) w w1 → YStmtPost w base by_ vf cf V G lp (k + 1) R (.returned (.int .i64 0)) w1 := fun w1 hRe h1 h2 => ⟨0, rfl, by rw [hRe]; exact ⟨rfl, ⟨V, h1, h2, YAt.NewY.refl _ _ _⟩, h.uniq, SameG.of rfl, by omega⟩⟩
  have Hbad := Lib.hid hbad
  have Hok := Lib.hid hok
  have Hr3 := Lib.hid r3
  have Hf2 := Lib.hid f2
  clear h hin hS hnb hnb' hR hbad hok hgb sA hmm nY hI0 hI1 hI2 hlp hpos hdeep r3 r4 r5 r6 f1 f2 f3 f4 f5 f6 f7 f8 f9 sm1 sm2 sm3 sm4 sm5
  have cr : W.cell? ⟨by_, 3, none⟩ = some (.int .i64 res) := HY.out.res Hin.out.res
  by_cases hr : res = 0
  · subst hr
    by_cases hl : s.exprs.length = 0
    · have hl' : ((s.exprs.length : Int) != 0) = false := by rw [bne_eq_false_iff_eq]; omega
      have HP := Lib.hid (Hok.out W (by rw [HR.out]; unfold backT; rw [if_pos rfl, if_pos hl]) HY.out SA.out)
      clear hl
      subst hW
      go_enter Tryd.func145, Tryd.ntmps145
      go_wp2_with fail
      go_ret
      exact HP.out
    · have hl' : ((s.exprs.length : Int) != 0) = true := bne_iff_ne.2 (by omega)
      have HP := Lib.hid (Hbad.out 10 W _ (by rw [HR.out]; unfold backT; rw [if_pos rfl, if_neg hl]) (by decide) HY.out SA.out)
      clear hl
      subst hW
      go_enter Tryd.func145, Tryd.ntmps145
      go_wp2_with fail
      go_ret
      exact HP.out
  · have hr1 : (res == 0) = false := beq_eq_false_iff_ne.2 hr
    by_cases hl : s.exprs.length = 1
    · have hl' : ((s.exprs.length : Int) != 1) = false := by rw [bne_eq_false_iff_eq]; omega
      obtain ⟨x, hxe⟩ : ∃ x, s.exprs = [x] := by
        match hq : s.exprs, hl with
        | [x], _ => exact ⟨x, rfl⟩
      have hfx : FitX d x := Hf2.out x (by rw [hxe]; simp)
      have r3' := Hr3.out
      rw [hxe] at r3'
      obtain ⟨b, off, cap, ax, cx, hv, hSb, hbl, x0, x1, x2, x3, hrx⟩ := rExprs_get r3' 0 (by simp)
      obtain ⟨rfl, -, rfl⟩ := Value.slice.inj hv
      simp only [List.getElem_cons_zero, Nat.zero_mul, Nat.add_zero] at x0 x1 x2 x3 hrx
      have tx := fun o => SA0.out.cell (o := o) hbl (fun e => e)
      have hbn : b ≠ by_ := by omega
      have hbW : b < W.heap.size := by omega
      have hval := yIs_any (Hin.out.expr.new (Since.drew (fun _ => False) W)) (Good.kept ((SA0.out.trans (Since.drew (fun _ => False) W)).keep.weaken (fun _ _ _ e => e.elim)) hrx) hfx res
      have Hval := Lib.hid hval
      have hS0 : (fun w' : World => w'.cell? ⟨w.heap.size, 3, none⟩ = some (.slice (some ⟨b, off, none⟩) s.exprs.length c3) ∧ w'.cell? ⟨b, off, none⟩ = some (.int .i64 x.kind) ∧ w'.cell? ⟨b, off + 1, none⟩ = some (.int .i64 x.n) ∧ w'.cell? ⟨b, off + 2, none⟩ = some (.string x.s) ∧ w'.cell? ⟨b, off + 3, none⟩ = some (.slice ax x.args.length cx) ∧ w'.cell? ⟨by_, 3, none⟩ = some (.int .i64 res)) W := ⟨q3, (tx _).trans x0, (tx _).trans x1, (tx _).trans x2, (tx _).trans x3, cr⟩
      have HSS := Lib.hid (show ∀ w3 k', YAt w3 base by_ vf cf V (YSt.of G lp k') → Since (fun j => j = by_) W w3 → (fun w' : World => w'.cell? ⟨w.heap.size, 3, none⟩ = some (.slice (some ⟨b, off, none⟩) s.exprs.length c3) ∧ w'.cell? ⟨b, off, none⟩ = some (.int .i64 x.kind) ∧ w'.cell? ⟨b, off + 1, none⟩ = some (.int .i64 x.n) ∧ w'.cell? ⟨b, off + 2, none⟩ = some (.string x.s) ∧ w'.cell? ⟨b, off + 3, none⟩ = some (.slice ax x.args.length cx) ∧ w'.cell? ⟨by_, 3, none⟩ = some (.int .i64 res)) w3 from fun w3 k' hy hs => ⟨(hs.cell (o := 3) hlW n2).trans hS0.1, (hs.cell (o := off) hbW hbn).trans hS0.2.1, (hs.cell (o := off + 1) hbW hbn).trans hS0.2.2.1, (hs.cell (o := off + 2) hbW hbn).trans hS0.2.2.2.1, (hs.cell (o := off + 3) hbW hbn).trans hS0.2.2.2.2.1, hy.res Hin.out.res⟩)
      have HD := Lib.hid (Since.drew (fun j => j = by_) W)
      have hl0 : (0 : Int) < (s.exprs.length : Int) := by omega
      have hl1 : 0 < s.exprs.length := by omega
      have HR2 := Lib.hid (show R = match isT (exprT fs G d (k + 1) x) res with | .error e => .error e | .ok _ => .ok G by rw [HR.out]; unfold backT; rw [if_neg hr, hxe]; rfl)
      clear hxe hfx r3' hv x0 x1 x2 x3 tx hrx hval hl hr
      subst hW
      go_enter Tryd.func145, Tryd.ntmps145
      go_wp2_with fail
      go_region_held3 (fun w' : World => w'.cell? ⟨w.heap.size, 3, none⟩ = some (.slice (some ⟨b, off, none⟩) s.exprs.length c3) ∧ w'.cell? ⟨b, off, none⟩ = some (.int .i64 x.kind) ∧ w'.cell? ⟨b, off + 1, none⟩ = some (.int .i64 x.n) ∧ w'.cell? ⟨b, off + 2, none⟩ = some (.string x.s) ∧ w'.cell? ⟨b, off + 3, none⟩ = some (.slice ax x.args.length cx) ∧ w'.cell? ⟨by_, 3, none⟩ = some (.int .i64 res)) (first | exact hS0 | exact hS2) (first | (go_at_call 174; refine Hval.out.mono ?_; rintro en w1 ⟨e, k', rfl, hy1, hs1, hp1⟩; have hS2 := HSS.out w1 k' hy1 (HD.out.trans hs1)))
      have HP : YStmtPost w base by_ vf cf V G lp (k + 1) R (.returned (.int .i64 e)) w1 := by
        have hsm := SA.out.trans ((HD.out.trans hs1).mono (G := YM by_ V) (fun j e => Or.inl e))
        cases hE : isT (exprT fs G d (k + 1) x) res with
        | error e' =>
          rw [hE] at hp1
          obtain ⟨rfl, hne⟩ := hp1
          exact Hbad.out e w1 _ (by rw [HR2.out, hE]) hne hy1 hsm
        | ok v =>
          rw [hE] at hp1
          obtain ⟨rfl, rfl⟩ := hp1
          exact Hok.out w1 (by rw [HR2.out, hE]) hy1 hsm
      have HP := Lib.hid HP
      clear hy1 hs1 hp1 hS2
      all_goals go_wp2_with fail
      go_ret
      exact HP.out
    · have hl' : ((s.exprs.length : Int) != 1) = true := bne_iff_ne.2 (by omega)
      have HP := Lib.hid (Hbad.out 10 W _ (by
        rw [HR.out]
        unfold backT
        rw [if_neg hr]
        split
        · rename_i x hx; rw [hx] at hl; exact absurd rfl hl
        · rfl) (by decide) HY.out SA.out)
      clear hl hr
      subst hW
      go_enter Tryd.func145, Tryd.ntmps145
      go_wp2_with fail
      go_ret
      exact HP.out

set_option maxRecDepth 10000 in
set_option maxHeartbeats 4000000 in
theorem yInner_4 {fs : List PFunc} {dF : Nat} {res : Int} {base by_ : Nat} {vf : Value} {cf : List Value} {d : Nat} (hS : YStmtSaid fs dF res base by_ vf cf d) (s : PStmt) (cs : List Value) (w : World) (V : Fin 3 → Value) (G : List Scope) (lp : Int) (k : Nat) (h : YIn fs dF res 2 2000001 w base by_ vf cf V G lp (k + 1)) (hlp : lp + 1 ≤ ((k + 1 : Nat) : Int)) (hpos : 0 < G.length)
    (hr : rStmt (d + 1) (· < base) w cs s) (hf : FitS (d + 1) s) (hsm : SmallS (d + 1) s) (hk : s.kind = 4) (hnb : ¬ BadCount s) :
    Calls Tryd.prog 145 #[.pointer (some ⟨by_, 0, none⟩), .agg cs.toArray] w (YStmtPost w base by_ vf cf V G lp (k + 1) (stmtT fs res (d + 1) lp.toNat k G s)) := by
  obtain ⟨v3, v4, v5, v6, rfl, ⟨hI0, hI1, hI2⟩, r3, r4, r5, r6⟩ := hr
  obtain ⟨a3, c3, rfl⟩ := rSlice_shape r3
  obtain ⟨a4, c4, rfl⟩ := rSlice_shape r4
  obtain ⟨a5, c5, rfl⟩ := rSlice_shape r5
  obtain ⟨a6, c6, rfl⟩ := rSlice_shape r6
  obtain ⟨⟨f1, f2⟩, ⟨f3, f4⟩, ⟨f5, f6⟩, ⟨f7, f8⟩, f9⟩ := hf
  obtain ⟨⟨sm1, sm2⟩, ⟨sm3, sm4⟩, sm5⟩ := hsm
  have hnb' : ¬ ((0 ≤ exprsN s.kind ∧ exprsN s.kind ≠ s.exprs.length) ∨ 2 < s.exprs.length) := hnb
  rw [hk, show exprsN (4 : Int) = 1 by decide] at hnb'
  have hlt := h.at_.lb.2
  have hbase := h.at_.lb.1
  have hdeep := h.deep
  have hgb := h.gb
  rw [hk]
  obtain ⟨W, hW⟩ : ∃ W, W = w.alloc (.cells #[.int .i64 4, .string s.s, .string s.t, .slice a3 s.exprs.length c3, .slice a4 s.body.length c4, .slice a5 s.els.length c5, .slice a6 s.cases.length c6] 141) := ⟨_, rfl⟩
  have sA : Since (fun _ => False) w W := by rw [hW]; exact Since.alloc _ _ _
  have q0 : W.cell? ⟨w.heap.size, 0, none⟩ = some (.int .i64 4) := by rw [hW, World.cell?_alloc_at _ _ _ _ rfl]; rfl
  have q1 : W.cell? ⟨w.heap.size, 1, none⟩ = some (.string s.s) := by rw [hW, World.cell?_alloc_at _ _ _ _ rfl]; rfl
  have q2 : W.cell? ⟨w.heap.size, 2, none⟩ = some (.string s.t) := by rw [hW, World.cell?_alloc_at _ _ _ _ rfl]; rfl
  have q3 : W.cell? ⟨w.heap.size, 3, none⟩ = some (.slice a3 s.exprs.length c3) := by rw [hW, World.cell?_alloc_at _ _ _ _ rfl]; rfl
  have q4 : W.cell? ⟨w.heap.size, 4, none⟩ = some (.slice a4 s.body.length c4) := by rw [hW, World.cell?_alloc_at _ _ _ _ rfl]; rfl
  have q5 : W.cell? ⟨w.heap.size, 5, none⟩ = some (.slice a5 s.els.length c5) := by rw [hW, World.cell?_alloc_at _ _ _ _ rfl]; rfl
  have q6 : W.cell? ⟨w.heap.size, 6, none⟩ = some (.slice a6 s.cases.length c6) := by rw [hW, World.cell?_alloc_at _ _ _ _ rfl]; rfl
  have hlW : w.heap.size < W.heap.size := by rw [hW]; simp
  have n2 : w.heap.size ≠ by_ := by omega
  have hmm : ∀ j, YM by_ V j → base ≤ j ∧ j < w.heap.size := fun j hj => h.at_.mem_lt hj
  have nY : ¬ YM by_ V w.heap.size := fun f => by have := (hmm _ f).2; omega
  have hin : YIn fs dF res 2 2000001 W base by_ vf cf V G lp (k + 1) := h.next (h.at_.since sA (fun _ e => e.elim)) (sA.mono (fun _ e => e.elim)) h.uniq h.deep h.pos h.len h.loops h.names
  obtain ⟨R, hR⟩ : ∃ R, R = stmtT fs res (d + 1) lp.toNat k G s := ⟨_, rfl⟩
  obtain ⟨x, hxe⟩ : ∃ x, s.exprs = [x] := by
    match hq : s.exprs, (show s.exprs.length = 1 by omega) with
    | [x], _ => exact ⟨x, rfl⟩
  have hfx : FitX d x := f2 x (by rw [hxe]; simp)
  have r3' := r3
  rw [hxe] at r3'
  obtain ⟨b, off, cap, ax, cx, hv, hSb, hbl, x0, x1, x2, x3, hrx⟩ := rExprs_get r3' 0 (by simp)
  obtain ⟨rfl, -, rfl⟩ := Value.slice.inj hv
  simp only [List.getElem_cons_zero, Nat.zero_mul, Nat.add_zero] at x0 x1 x2 x3 hrx
  have tx := fun o => sA.cell (o := o) hbl (fun e => e)
  have y0 := (tx _).trans x0
  have y1 := (tx _).trans x1
  have y2 := (tx _).trans x2
  have y3 := (tx _).trans x3
  have hbn : b ≠ by_ := by omega
  have hrx2 : rExpr d (· < base) W _ x := Good.kept (sA.keep.weaken (fun _ _ _ e => e.elim)) hrx
  have hval := yWorth_any hin.expr hrx2 hfx
  have Hval := Lib.hid hval
  have hl0 : (0 : Int) < (s.exprs.length : Int) := by rw [hxe]; simp
  have hl1 : 0 < s.exprs.length := by rw [hxe]; simp
  have HR := Lib.hid (show R = ifT fs res d lp.toNat (k + 1) G x s.body s.els by
    rw [hR]
    unfold stmtT
    rw [hk, if_neg (by omega), show exprsN (4 : Int) = 1 by decide, if_neg hnb', if_neg (by omega), hxe]
    simp [ifT, forT, rangeT, switchT]
    try rfl)
  rw [← hR]
  have Hin := Lib.hid hin
  have HY := Lib.hid hin.at_
  have SA := Lib.hid (sA.mono (G := YM by_ V) (fun _ e => e.elim))
  have SA0 := Lib.hid sA
  have Hmm := Lib.hid hmm
  have HnY := Lib.hid nY
  have HSt := Lib.hid hS
  have HI1 := Lib.hid hI1
  have HI2 := Lib.hid hI2
  have Hlp := Lib.hid hlp
  have Hpos := Lib.hid hpos
  have hbad : ∀ (e : Int) (w1 : World) (k' : Int), R = .error e → e ≠ 0 → YAt w1 base by_ vf cf V (YSt.of G lp k') → Since (YM by_ V) w w1 → YStmtPost w base by_ vf cf V G lp (k + 1) R (.returned (.int .i64 e)) w1 := fun e w1 k' hRe he h1 h2 => ⟨e, rfl, by rw [hRe]; exact ⟨rfl, he, G, lp, k', Nat.le_refl _, hgb, V, h1, h2, YAt.NewY.refl _ _ _⟩⟩
  have hok : ∀ (w1 : World), R = .ok G → YAt w1 base by_ vf cf V (YSt.of G lp ((k + 1 : Nat) : Int)) → Since (YM by_ V) w w1 → YStmtPost w base by_ vf cf V G lp (k + 1) R (.returned (.int .i64 0)) w1 := fun w1 hRe h1 h2 => ⟨0, rfl, by rw [hRe]; exact ⟨rfl, ⟨V, h1, h2, YAt.NewY.refl _ _ _⟩, h.uniq, SameG.of rfl, by omega⟩⟩
  have Hbad := Lib.hid hbad
  have Hok := Lib.hid hok
  have r4W : ∀ w', Since (YM by_ V) w w' → rSlice 7 (rStmt d) (· < base) w' [.slice a4 s.body.length c4] s.body := fun w' hs => Good.kept (hs.keep.weaken (fun j _ hj e => by have := (hmm j e).1; omega)) r4
  have r5W : ∀ w', Since (YM by_ V) w w' → rSlice 7 (rStmt d) (· < base) w' [.slice a5 s.els.length c5] s.els := fun w' hs => Good.kept (hs.keep.weaken (fun j _ hj e => by have := (hmm j e).1; omega)) r5
  have R4 := Lib.hid r4W
  have R5 := Lib.hid r5W
  have F4 := Lib.hid f4
  have F6 := Lib.hid f6
  have S2 := Lib.hid sm2
  have S4 := Lib.hid sm4
  have L1 := Lib.hid sm1
  have L3 := Lib.hid sm3
  have hG1 : G.length + 2 ≤ 2 + 2 * (k + 1) := h.len
  have hG2 : (flatG G).length + 2000001 ≤ (k + 1 + 1) * 2000000 := h.names
  have hG3 := h.loops
  have HG := Lib.hid (And.intro hG1 (And.intro hG2 hG3))
  have HU := Lib.hid h.uniq
  have HDp := Lib.hid h.deep
  have HIN := Lib.hid h
  clear r4W r5W hG1 hG2 hG3
  clear hxe hfx r3' hv x0 x1 x2 x3 tx hrx hrx2 hval
  clear h hin hS hnb hnb' hR hbad hok hgb sA hmm nY hI0 hI1 hI2 hlp hpos hdeep r3 r4 r5 r6 f1 f2 f3 f4 f5 f6 f7 f8 f9 sm1 sm2 sm3 sm4 sm5
  subst hW
  go_enter Tryd.func145, Tryd.ntmps145
  go_wp2_with fail
  refine Hval.out.mono ?_
  rintro en w1 ⟨t, e, k', rfl, hy1, hs1, hp1⟩
  have HY1 := Lib.hid hy1
  have HS1 := Lib.hid hs1
  have HSM := Lib.hid (SA.out.trans (hs1.mono (G := YM by_ V) (fun j e => Or.inl e)))
  have z0 := (hs1.cell (o := 0) hlW n2).trans q0
  have z1 := (hs1.cell (o := 1) hlW n2).trans q1
  have z2 := (hs1.cell (o := 2) hlW n2).trans q2
  have z4 := (hs1.cell (o := 4) hlW n2).trans q4
  have z5 := (hs1.cell (o := 5) hlW n2).trans q5
  have z6 := (hs1.cell (o := 6) hlW n2).trans q6
  clear hy1 hs1 q0 q1 q2 q3 q4 q5 q6
  cases hE : valuedT (exprT fs G d (k + 1) x) with
  | error e' =>
    rw [hE] at hp1
    obtain ⟨rfl, hne⟩ := hp1
    have he1 : (e != 0) = true := by simpa using hne
    have he2 : (e == 0) = false := by simpa using hne
    have HP := Lib.hid (Hbad.out e w1 _ (by rw [HR.out, ifT, hE]) hne HY1.out HSM.out)
    clear hne hE
    go_wp2_with fail
    go_ret
    exact HP.out
  | ok u =>
    rw [hE] at hp1
    obtain ⟨rfl, rfl, rfl⟩ := hp1
    have HE := Lib.hid hE
    clear hE
    by_cases ht : t = 2
    · have ht1 : (t != 2) = false := by simp [ht]
      have HR2 := Lib.hid (show R = match blockT (stmtT fs res d lp.toNat (k + 1)) G s.body with | .error e => .error e | .ok _ => blockT (stmtT fs res d lp.toNat (k + 1)) G s.els by rw [HR.out, ifT, HE.out]; simp only [ht]; rfl)
      have hblk := yBlock_any HSt.out s.body (HIN.out.next HY1.out HSM.out HU.out HDp.out (by omega) (by have := HG.out.1; omega) HG.out.2.2 (by have := HG.out.2.1; have := L1.out; omega)) _ (R4.out w1 HSM.out) F4.out S2.out
      have Hblk := Lib.hid hblk
      clear hblk ht
      go_wp2_with fail
      refine Hblk.out.mono ?_
      rintro en w2 hp2
      have hsn := hp2.since
      have u5 := (hsn.cell (o := 5) (Nat.lt_of_lt_of_le (by have := SA0.out.size; exact hlW) HS1.out.size) HnY.out).trans z5
      have u0 := (hsn.cell (o := 0) (Nat.lt_of_lt_of_le (by have := SA0.out.size; exact hlW) HS1.out.size) HnY.out).trans z0
      clear hsn
      obtain ⟨e, rfl, hp2⟩ := hp2
      cases hB : blockT (stmtT fs res d lp.toNat (k + 1)) G s.body with
      | error e' =>
        rw [hB] at hp2
        have HP : YStmtPost w base by_ vf cf V G lp (k + 1) R (.returned (.int .i64 e)) w2 := YStmtPost.trans HSM.out (YAt.NewY.refl _ _ _) ⟨e, rfl, by rw [HR2.out, hB]; exact hp2⟩
        have HP := Lib.hid HP
        obtain ⟨rfl, hne, -⟩ := hp2
        have he1 : (e != 0) = true := by simpa using hne
        clear hne hB
        go_wp2_with fail
        go_ret
        exact HP.out
      | ok G' =>
        have hG' : G' = G := by
          unfold blockT at hB
          split at hB
          · cases hB
          · cases hB; rfl
        subst hG'
        rw [hB] at hp2
        obtain ⟨rfl, ⟨V2, d1, d2, d3⟩, -⟩ := hp2
        have HR3 := Lib.hid (show R = blockT (stmtT fs res d lp.toNat (k + 1)) G' s.els by rw [HR2.out, hB])
        have HS2 := Lib.hid (HSM.out.trans d2)
        have HN2 := Lib.hid (show YAt.NewY w by_ V V2 from (YAt.NewY.refl w by_ V).trans (fun j hj => (d3 j hj).imp id (fun e => Nat.le_trans HSM.out.size e)) (Nat.le_refl _))
        have hblk2 := yBlock_any HSt.out s.els (HIN.out.next d1 HS2.out HU.out HDp.out (by omega) (by have := HG.out.1; omega) HG.out.2.2 (by have := HG.out.2.1; have := L3.out; omega)) _ (R5.out w2 HS2.out) F6.out S4.out
        have Hblk2 := Lib.hid hblk2
        clear hblk2 hB d1 d2 d3
        go_wp2_with fail
        refine Hblk2.out.mono ?_
        rintro en w3 hp3
        have HP : YStmtPost w base by_ vf cf V G' lp (k + 1) R en w3 := YStmtPost.trans HS2.out HN2.out (by rw [HR3.out]; exact hp3)
        obtain ⟨e3, rfl, -⟩ := hp3
        have HP := Lib.hid HP
        go_wp2_with fail
        go_ret
        exact HP.out
    · have ht1 : (t != 2) = true := by simpa using ht
      have HP := Lib.hid (Hbad.out 9 w1 _ (by rw [HR.out, ifT, HE.out]; simp only [ne_eq, ht, not_false_eq_true, if_true]) (by decide) HY1.out HSM.out)
      clear ht
      go_wp2_with fail
      go_ret
      exact HP.out

end Go.Proofs.YtaomlfbcfmmhlaaDoor

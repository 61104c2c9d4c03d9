/-
  Texts joined: YStmt.
-/
import Derived.Test.YtaomlfbcfmmhlaaDoorTCZI

/-
  posternref's typer: stmtFault, out of stmtInner: the contract (printed by wip/gen_ystmt.py).
-/
namespace Go.Proofs.YtaomlfbcfmmhlaaDoor
open Go.RowKit Go.Pst
set_option linter.unusedVariables false
set_option linter.unusedSimpArgs false

def BadCount (s : PStmt) : Prop := (0 ≤ exprsN s.kind ∧ exprsN s.kind ≠ s.exprs.length) ∨ 2 < s.exprs.length
instance (s : PStmt) : Decidable (BadCount s) := by unfold BadCount; infer_instance
section
variable (fs : List PFunc) (dF : Nat) (res : Int) (base by_ : Nat) (vf : Value) (cf : List Value)
/-- What stmtInner does, one level deeper. -/
def YInnerSaid (d : Nat) : Prop := ∀ (s : PStmt) (cs : List Value) (w : World) (V : Fin 3 → Value) (G : List Scope) (lp : Int) (k : Nat), YIn fs dF res 2 2000001 w base by_ vf cf V G lp (k + 1) → lp + 1 ≤ ((k + 1 : Nat) : Int) → 0 < G.length → rStmt (d + 1) (· < base) w cs s → FitS (d + 1) s → SmallS (d + 1) s →
  1 ≤ s.kind ∧ s.kind ≤ 13 → ¬ BadCount s →
  Calls Tryd.prog 145 #[.pointer (some ⟨by_, 0, none⟩), .agg cs.toArray] w (YStmtPost w base by_ vf cf V G lp (k + 1) (stmtT fs res (d + 1) lp.toNat k G s))
end
theorem YDone.depth {w w1 : World} {base by_ : Nat} {vf : Value} {cf : List Value} {V : Fin 3 → Value} {G : List Scope} {lp k : Int} (h : YDone w base by_ vf cf V G lp k w1) (x : Int) : YDone w base by_ vf cf V G lp x (w1.setCell ⟨by_, 9, none⟩ (.int .i64 x)) := by
  obtain ⟨V2, h1, h2, h3⟩ := h
  have s2 : Since (fun j => j = by_) w1 (w1.setCell ⟨by_, 9, none⟩ (.int .i64 x)) := Since.setCell w1 ⟨by_, 9, none⟩ (.int .i64 x)
  exact ⟨V2, h1.setDepth x, h2.trans (s2.mono (fun k e => Or.inl e)), h3⟩
set_option maxRecDepth 10000 in
set_option maxHeartbeats 4000000 in
theorem yStmt_of_inner {fs : List PFunc} {dF : Nat} {res : Int} {base by_ : Nat} {vf : Value} {cf : List Value} {d : Nat} (hI : YInnerSaid fs dF res base by_ vf cf d) : YStmtSaid fs dF res base by_ vf cf (d + 1) := by
  intro s cs w V G lp k h hr hf hsm
  have hr0 := hr
  obtain ⟨v3, v4, v5, v6, rfl, ⟨hI0, hI1, hI2⟩, r3, r4, r5, r6⟩ := hr
  obtain ⟨a3, c3, rfl⟩ := rSlice_shape r3
  obtain ⟨a4, c4, rfl⟩ := rSlice_shape r4
  obtain ⟨a5, c5, rfl⟩ := rSlice_shape r5
  obtain ⟨a6, c6, rfl⟩ := rSlice_shape r6
  have hlt := h.at_.lb.2
  have hbase := h.at_.lb.1
  have hgb := h.gb
  obtain ⟨W, hW⟩ : ∃ W, W = w.alloc (.cells #[.int .i64 s.kind, .string s.s, .string s.t, .slice a3 s.exprs.length c3, .slice a4 s.body.length c4, .slice a5 s.els.length c5, .slice a6 s.cases.length c6] 141) := ⟨_, rfl⟩
  have sA : Since (fun _ => False) w W := by rw [hW]; exact Since.alloc _ _ _
  have q0 : W.cell? ⟨w.heap.size, 0, none⟩ = some (.int .i64 s.kind) := by rw [hW, World.cell?_alloc_at _ _ _ _ rfl]; rfl
  have q1 : W.cell? ⟨w.heap.size, 1, none⟩ = some (.string s.s) := by rw [hW, World.cell?_alloc_at _ _ _ _ rfl]; rfl
  have q2 : W.cell? ⟨w.heap.size, 2, none⟩ = some (.string s.t) := by rw [hW, World.cell?_alloc_at _ _ _ _ rfl]; rfl
  have q3 : W.cell? ⟨w.heap.size, 3, none⟩ = some (.slice a3 s.exprs.length c3) := by rw [hW, World.cell?_alloc_at _ _ _ _ rfl]; rfl
  have q4 : W.cell? ⟨w.heap.size, 4, none⟩ = some (.slice a4 s.body.length c4) := by rw [hW, World.cell?_alloc_at _ _ _ _ rfl]; rfl
  have q5 : W.cell? ⟨w.heap.size, 5, none⟩ = some (.slice a5 s.els.length c5) := by rw [hW, World.cell?_alloc_at _ _ _ _ rfl]; rfl
  have q6 : W.cell? ⟨w.heap.size, 6, none⟩ = some (.slice a6 s.cases.length c6) := by rw [hW, World.cell?_alloc_at _ _ _ _ rfl]; rfl
  have hlW : w.heap.size < W.heap.size := by rw [hW]; simp
  have n2 : w.heap.size ≠ by_ := by omega
  obtain ⟨R, hR⟩ : ∃ R, R = stmtT fs res (d + 1) lp.toNat k G s := ⟨_, rfl⟩
  rw [← hR]
  have hY := h.at_.since sA (fun _ e => e.elim)
  have H := Lib.hid h
  have HY := Lib.hid hY
  have HR := Lib.hid hR
  have Hgb := Lib.hid hgb
  have SA := Lib.hid (sA.mono (G := YM by_ V) (fun _ e => e.elim))
  have SA0 := Lib.hid sA
  have HI := Lib.hid hI
  have Hr0 := Lib.hid hr0
  have Hf := Lib.hid hf
  have Hsm := Lib.hid hsm
  have hbad : ∀ (e : Int) (w1 : World) (k' : Int), R = .error e → e ≠ 0 → YAt w1 base by_ vf cf V (YSt.of G lp k') → Since (YM by_ V) w w1 → YStmtPost w base by_ vf cf V G lp k R (.returned (.int .i64 e)) w1 := fun e w1 k' hRe he h1 h2 => ⟨e, rfl, by rw [hRe]; exact ⟨rfl, he, G, lp, k', Nat.le_refl _, Hgb.out, V, h1, h2, YAt.NewY.refl _ _ _⟩⟩
  have Hbad := Lib.hid hbad
  clear h hY hR hgb sA hI hr0 hf hsm hbad r3 r4 r5 r6
  by_cases hkr : ¬ (1 ≤ s.kind ∧ s.kind ≤ 13)
  · have hd : (decide ((1 : Int) ≤ s.kind) && decide (s.kind ≤ 13)) = false := by simp; omega
    have HP := Lib.hid (Hbad.out 3 W k (by rw [HR.out]; unfold stmtT; rw [if_pos hkr]) (by decide) HY.out SA.out)
    clear hkr
    go_enter Tryd.func93, Tryd.ntmps93
    go_wp2_with fail
    rw [← hW]
    clear hW
    refine (refIn_any _ _ _ _).mono ?_
    rintro e w' ⟨rfl, rfl⟩
    rw [hd]
    go_wp2_with fail
    go_ret
    exact HP.out
  rw [Decidable.not_not] at hkr
  have hd : (decide ((1 : Int) ≤ s.kind) && decide (s.kind ≤ 13)) = true := by simp; omega
  have Hkr := Lib.hid hkr
  have Hn := Lib.hid (show R = if BadCount s then .error 10 else if 120 < k + 1 then .error 8 else stmtT fs res (d + 1) lp.toNat k G s by
    rw [HR.out]
    by_cases hb : BadCount s
    · have hb' : (0 ≤ exprsN s.kind ∧ exprsN s.kind ≠ s.exprs.length) ∨ 2 < s.exprs.length := hb
      rw [if_pos hb]; unfold stmtT; rw [if_neg (by omega), if_pos hb']
    · have hb' : ¬ ((0 ≤ exprsN s.kind ∧ exprsN s.kind ≠ s.exprs.length) ∨ 2 < s.exprs.length) := hb
      rw [if_neg hb]
      by_cases h8 : 120 < k + 1
      · rw [if_pos h8]; unfold stmtT; rw [if_neg (by omega), if_neg hb', if_pos h8]
      · rw [if_neg h8])
  have c9 : W.cell? ⟨by_, 9, none⟩ = some (.int .i64 (k : Int)) := HY.out.c9
  have z9 := HY.out.z 9
  have hltB := HY.out.lb.2
  have hk := H.out.deep
  have hw9 : IntKind.i64.wrap ((k : Int) + 1) = (k : Int) + 1 := IntWalk.i64_in _ (by omega)
  -- behind depth++
  obtain ⟨W2, hW2⟩ : ∃ W2, W2 = W.setCell ⟨by_, 9, none⟩ (.int .i64 ((k : Int) + 1)) := ⟨_, rfl⟩
  have s9 : Since (fun j => j = by_) W W2 := by rw [hW2]; exact Since.setCell W ⟨by_, 9, none⟩ (.int .i64 ((k : Int) + 1))
  have hY2 : YAt W2 base by_ vf cf V (YSt.of G lp ((k + 1 : Nat) : Int)) := by rw [hW2]; exact HY.out.setDepth ((k : Int) + 1)
  have HY2 := Lib.hid hY2
  have HS2 := Lib.hid (SA.out.trans (s9.mono (G := YM by_ V) (fun k e => Or.inl e)))
  have hx := fun o => s9.cell (o := o) hlW n2
  have p0 := (hx _).trans q0
  have p1 := (hx _).trans q1
  have p2 := (hx _).trans q2
  have p3 := (hx _).trans q3
  have p4 := (hx _).trans q4
  have p5 := (hx _).trans q5
  have p6 := (hx _).trans q6
  have hlen := H.out.len
  have hlps := H.out.loops
  have hnms := H.out.names
  have hps := H.out.pos
  have hcall : ¬ BadCount s → ¬ 120 < k + 1 → Calls Tryd.prog 145 #[.pointer (some ⟨by_, 0, none⟩), .agg #[.int .i64 s.kind, .string s.s, .string s.t, .slice a3 s.exprs.length c3, .slice a4 s.body.length c4, .slice a5 s.els.length c5, .slice a6 s.cases.length c6]] W2 (YStmtPost W2 base by_ vf cf V G lp (k + 1) R) := fun hb h8 => by
    rw [HR.out]
    exact HI.out s _ W2 V G lp k (H.out.next hY2 HS2.out H.out.uniq (by omega) (by omega) (by omega) (by omega) (by omega)) (by omega) (by omega)
      (Good.kept (HS2.out.keep.weaken (fun j _ hj e => by have := (H.out.at_.mem_lt e).1; omega)) Hr0.out) Hf.out Hsm.out Hkr.out hb
  have Hcall := Lib.hid hcall
  have hout : ∀ en w3, YStmtPost W2 base by_ vf cf V G lp (k + 1) R en w3 → ∃ (e kx : Int), en = .returned (.int .i64 e) ∧ w3.cell? ⟨by_, 9, none⟩ = some (.int .i64 kx) ∧ w3.frozen? ⟨by_, 9, none⟩ = false ∧ by_ < w3.heap.size ∧ YStmtPost w base by_ vf cf V G lp k R (.returned (.int .i64 e)) (w3.setCell ⟨by_, 9, none⟩ (.int .i64 (IntKind.i64.wrap (kx - 1)))) := fun en w3 hp => by
    obtain ⟨e, rfl, hp⟩ := hp
    cases hRR : R with
    | error e' =>
      rw [hRR] at hp
      obtain ⟨rfl, hne, G', lp', k', g1, g2, V3, g3, g4, g5⟩ := hp
      refine ⟨e, k', rfl, g3.c9, g3.z 9, g3.lb.2, e, rfl, rfl, hne, G', lp', _, g1, g2, (YDone.trans HS2.out (YAt.NewY.refl _ _ _) ⟨V3, g3, g4, g5⟩).depth _⟩
    | ok G' =>
      rw [hRR] at hp
      obtain ⟨rfl, ⟨V3, g3, g4, g5⟩, g6, g7, g8⟩ := hp
      refine ⟨0, ((k + 1 : Nat) : Int), rfl, g3.c9, g3.z 9, g3.lb.2, 0, rfl, rfl, ?_, g6, g7, g8⟩
      have e1 : IntKind.i64.wrap (((k + 1 : Nat) : Int) - 1) = (k : Int) := by rw [show ((k + 1 : Nat) : Int) - 1 = (k : Int) by omega]; exact IntWalk.i64_in _ (by omega)
      rw [e1]
      exact (YDone.trans HS2.out (YAt.NewY.refl _ _ _) ⟨V3, g3, g4, g5⟩).depth _
  have Hout := Lib.hid hout
  clear hx s9 hcall hout hlen hlps hnms hps hY2 q1 q2 q4 q5 q6
  have hcase : s.kind = 3 ∨ s.kind = 10 ∨ s.kind = 11 ∨ s.kind = 8 ∨ (s.kind ≠ 3 ∧ s.kind ≠ 10 ∧ s.kind ≠ 11 ∧ s.kind ≠ 8) := by omega
  clear hkr
  rcases hcase with hc | hc | hc | hc | hc
  · have HK := Lib.hid hc
    rw [hc] at q0 p0 hd hW ⊢
    have he : exprsN s.kind = 2 := by
      unfold exprsN
      rw [hc]; decide
    have He := Lib.hid he
    clear hc he
    by_cases hb : s.exprs.length ≠ 2
    · have b1 : ((s.exprs.length : Int) != 2) = true := bne_iff_ne.2 (by omega)
      have HP := Lib.hid (Hbad.out 10 W k (by rw [Hn.out, if_pos (by unfold BadCount; rw [He.out]; omega)]) (by decide) HY.out SA.out)
      clear hb
      clear hW2 p0 p1 p2 p3 p4 p5 p6
      go_enter Tryd.func93, Tryd.ntmps93
      go_wp2_with fail
      rw [← hW]
      clear hW
      refine (refIn_any _ _ _ _).mono ?_
      rintro e w' ⟨rfl, rfl⟩
      rw [hd]
      go_wp2_with fail
      go_ret
      exact HP.out
    have hb : s.exprs.length = 2 := by omega
    have b1 : ((s.exprs.length : Int) != 2) = false := by rw [bne_eq_false_iff_eq]; omega
    have b2 : decide ((s.exprs.length : Int) > 2) = false := decide_eq_false (by omega)
    have hnb : ¬ BadCount s := by unfold BadCount; rw [He.out]; omega
    clear hb
    have Hnb := Lib.hid hnb
    clear hnb
    by_cases h8 : 120 < k + 1
    · have d5 : decide ((k : Int) + 1 > 120) = true := decide_eq_true (by omega)
      have HP := Lib.hid (Hbad.out 8 W2 _ (by rw [Hn.out, if_neg Hnb.out, if_pos h8]) (by decide) HY2.out HS2.out)
      rw [hW2] at HP
      clear h8 hW2 p0 p1 p2 p3 p4 p5 p6
      go_enter Tryd.func93, Tryd.ntmps93
      go_wp2_with fail
      rw [← hW]
      clear hW
      refine (refIn_any _ _ _ _).mono ?_
      rintro e w' ⟨rfl, rfl⟩
      rw [hd]
      go_wp2_with fail
      go_ret
      exact HP.out
    · have d5 : decide ((k : Int) + 1 > 120) = false := decide_eq_false (by omega)
      have Hc2 := Hcall.out Hnb.out h8
      have Hc3 := Lib.hid Hc2
      rw [hW2] at p0 p1 p2 p3 p4 p5 p6 Hc3
      clear h8 Hc2
      rw [HK.out] at Hc3
      have HW2 := Lib.hid hW2
      clear hW2
      go_enter Tryd.func93, Tryd.ntmps93
      go_wp2_with fail
      rw [← hW]
      clear hW
      refine (refIn_any _ _ _ _).mono ?_
      rintro e w' ⟨rfl, rfl⟩
      rw [hd]
      go_wp2_with fail
      refine Hc3.out.mono ?_
      rintro en w3 hp
      rw [← HW2.out] at hp
      obtain ⟨e, kx, rfl, x1, x2, x3, x4⟩ := Hout.out en w3 hp
      obtain ⟨dv, hdv⟩ : ∃ dv, IntKind.i64.wrap (kx - 1) = dv := ⟨_, rfl⟩
      rw [hdv] at x4
      have X4 := Lib.hid x4
      clear hp x4 p0 p1 p2 p3 p4 p5 p6
      go_wp2_with fail
      go_ret
      exact X4.out
  · have HK := Lib.hid hc
    rw [hc] at q0 p0 hd hW ⊢
    have he : exprsN s.kind = 0 := by
      unfold exprsN
      rw [hc]; decide
    have He := Lib.hid he
    clear hc he
    by_cases hb : s.exprs.length ≠ 0
    · have b1 : ((s.exprs.length : Int) != 0) = true := bne_iff_ne.2 (by omega)
      have HP := Lib.hid (Hbad.out 10 W k (by rw [Hn.out, if_pos (by unfold BadCount; rw [He.out]; omega)]) (by decide) HY.out SA.out)
      clear hb
      clear hW2 p0 p1 p2 p3 p4 p5 p6
      go_enter Tryd.func93, Tryd.ntmps93
      go_wp2_with fail
      rw [← hW]
      clear hW
      refine (refIn_any _ _ _ _).mono ?_
      rintro e w' ⟨rfl, rfl⟩
      rw [hd]
      go_wp2_with fail
      go_ret
      exact HP.out
    have hb : s.exprs.length = 0 := by omega
    have b1 : ((s.exprs.length : Int) != 0) = false := by rw [bne_eq_false_iff_eq]; omega
    have b2 : decide ((s.exprs.length : Int) > 2) = false := decide_eq_false (by omega)
    have hnb : ¬ BadCount s := by unfold BadCount; rw [He.out]; omega
    clear hb
    have Hnb := Lib.hid hnb
    clear hnb
    by_cases h8 : 120 < k + 1
    · have d5 : decide ((k : Int) + 1 > 120) = true := decide_eq_true (by omega)
      have HP := Lib.hid (Hbad.out 8 W2 _ (by rw [Hn.out, if_neg Hnb.out, if_pos h8]) (by decide) HY2.out HS2.out)
      rw [hW2] at HP
      clear h8 hW2 p0 p1 p2 p3 p4 p5 p6
      go_enter Tryd.func93, Tryd.ntmps93
      go_wp2_with fail
      rw [← hW]
      clear hW
      refine (refIn_any _ _ _ _).mono ?_
      rintro e w' ⟨rfl, rfl⟩
      rw [hd]
      go_wp2_with fail
      go_ret
      exact HP.out
    · have d5 : decide ((k : Int) + 1 > 120) = false := decide_eq_false (by omega)
      have Hc2 := Hcall.out Hnb.out h8
      have Hc3 := Lib.hid Hc2
      rw [hW2] at p0 p1 p2 p3 p4 p5 p6 Hc3
      clear h8 Hc2
      rw [HK.out] at Hc3
      have HW2 := Lib.hid hW2
      clear hW2
      go_enter Tryd.func93, Tryd.ntmps93
      go_wp2_with fail
      rw [← hW]
      clear hW
      refine (refIn_any _ _ _ _).mono ?_
      rintro e w' ⟨rfl, rfl⟩
      rw [hd]
      go_wp2_with fail
      refine Hc3.out.mono ?_
      rintro en w3 hp
      rw [← HW2.out] at hp
      obtain ⟨e, kx, rfl, x1, x2, x3, x4⟩ := Hout.out en w3 hp
      obtain ⟨dv, hdv⟩ : ∃ dv, IntKind.i64.wrap (kx - 1) = dv := ⟨_, rfl⟩
      rw [hdv] at x4
      have X4 := Lib.hid x4
      clear hp x4 p0 p1 p2 p3 p4 p5 p6
      go_wp2_with fail
      go_ret
      exact X4.out
  · have HK := Lib.hid hc
    rw [hc] at q0 p0 hd hW ⊢
    have he : exprsN s.kind = 0 := by
      unfold exprsN
      rw [hc]; decide
    have He := Lib.hid he
    clear hc he
    by_cases hb : s.exprs.length ≠ 0
    · have b1 : ((s.exprs.length : Int) != 0) = true := bne_iff_ne.2 (by omega)
      have HP := Lib.hid (Hbad.out 10 W k (by rw [Hn.out, if_pos (by unfold BadCount; rw [He.out]; omega)]) (by decide) HY.out SA.out)
      clear hb
      clear hW2 p0 p1 p2 p3 p4 p5 p6
      go_enter Tryd.func93, Tryd.ntmps93
      go_wp2_with fail
      rw [← hW]
      clear hW
      refine (refIn_any _ _ _ _).mono ?_
      rintro e w' ⟨rfl, rfl⟩
      rw [hd]
      go_wp2_with fail
      go_ret
      exact HP.out
    have hb : s.exprs.length = 0 := by omega
    have b1 : ((s.exprs.length : Int) != 0) = false := by rw [bne_eq_false_iff_eq]; omega
    have b2 : decide ((s.exprs.length : Int) > 2) = false := decide_eq_false (by omega)
    have hnb : ¬ BadCount s := by unfold BadCount; rw [He.out]; omega
    clear hb
    have Hnb := Lib.hid hnb
    clear hnb
    by_cases h8 : 120 < k + 1
    · have d5 : decide ((k : Int) + 1 > 120) = true := decide_eq_true (by omega)
      have HP := Lib.hid (Hbad.out 8 W2 _ (by rw [Hn.out, if_neg Hnb.out, if_pos h8]) (by decide) HY2.out HS2.out)
      rw [hW2] at HP
      clear h8 hW2 p0 p1 p2 p3 p4 p5 p6
      go_enter Tryd.func93, Tryd.ntmps93
      go_wp2_with fail
      rw [← hW]
      clear hW
      refine (refIn_any _ _ _ _).mono ?_
      rintro e w' ⟨rfl, rfl⟩
      rw [hd]
      go_wp2_with fail
      go_ret
      exact HP.out
    · have d5 : decide ((k : Int) + 1 > 120) = false := decide_eq_false (by omega)
      have Hc2 := Hcall.out Hnb.out h8
      have Hc3 := Lib.hid Hc2
      rw [hW2] at p0 p1 p2 p3 p4 p5 p6 Hc3
      clear h8 Hc2
      rw [HK.out] at Hc3
      have HW2 := Lib.hid hW2
      clear hW2
      go_enter Tryd.func93, Tryd.ntmps93
      go_wp2_with fail
      rw [← hW]
      clear hW
      refine (refIn_any _ _ _ _).mono ?_
      rintro e w' ⟨rfl, rfl⟩
      rw [hd]
      go_wp2_with fail
      refine Hc3.out.mono ?_
      rintro en w3 hp
      rw [← HW2.out] at hp
      obtain ⟨e, kx, rfl, x1, x2, x3, x4⟩ := Hout.out en w3 hp
      obtain ⟨dv, hdv⟩ : ∃ dv, IntKind.i64.wrap (kx - 1) = dv := ⟨_, rfl⟩
      rw [hdv] at x4
      have X4 := Lib.hid x4
      clear hp x4 p0 p1 p2 p3 p4 p5 p6
      go_wp2_with fail
      go_ret
      exact X4.out
  · have HK := Lib.hid hc
    rw [hc] at q0 p0 hd hW ⊢
    have he : exprsN s.kind = (-1) := by
      unfold exprsN
      rw [hc]; decide
    have He := Lib.hid he
    clear hc he
    by_cases hb : 2 < s.exprs.length
    · have b2 : decide ((s.exprs.length : Int) > 2) = true := decide_eq_true (by omega)
      have HP := Lib.hid (Hbad.out 10 W k (by rw [Hn.out, if_pos (by unfold BadCount; rw [He.out]; omega)]) (by decide) HY.out SA.out)
      clear hW2 p0 p1 p2 p3 p4 p5 p6
      go_enter Tryd.func93, Tryd.ntmps93
      go_wp2_with fail
      rw [← hW]
      clear hW
      refine (refIn_any _ _ _ _).mono ?_
      rintro e w' ⟨rfl, rfl⟩
      rw [hd]
      go_wp2_with fail
      go_ret
      exact HP.out
    have b2 : decide ((s.exprs.length : Int) > 2) = false := decide_eq_false (by omega)
    have hnb : ¬ BadCount s := by unfold BadCount; rw [He.out]; omega
    have Hnb := Lib.hid hnb
    clear hnb
    by_cases h8 : 120 < k + 1
    · have d5 : decide ((k : Int) + 1 > 120) = true := decide_eq_true (by omega)
      have HP := Lib.hid (Hbad.out 8 W2 _ (by rw [Hn.out, if_neg Hnb.out, if_pos h8]) (by decide) HY2.out HS2.out)
      rw [hW2] at HP
      clear h8 hW2 p0 p1 p2 p3 p4 p5 p6
      go_enter Tryd.func93, Tryd.ntmps93
      go_wp2_with fail
      rw [← hW]
      clear hW
      refine (refIn_any _ _ _ _).mono ?_
      rintro e w' ⟨rfl, rfl⟩
      rw [hd]
      go_wp2_with fail
      go_ret
      exact HP.out
    · have d5 : decide ((k : Int) + 1 > 120) = false := decide_eq_false (by omega)
      have Hc2 := Hcall.out Hnb.out h8
      have Hc3 := Lib.hid Hc2
      rw [hW2] at p0 p1 p2 p3 p4 p5 p6 Hc3
      clear h8 Hc2
      rw [HK.out] at Hc3
      have HW2 := Lib.hid hW2
      clear hW2
      go_enter Tryd.func93, Tryd.ntmps93
      go_wp2_with fail
      rw [← hW]
      clear hW
      refine (refIn_any _ _ _ _).mono ?_
      rintro e w' ⟨rfl, rfl⟩
      rw [hd]
      go_wp2_with fail
      refine Hc3.out.mono ?_
      rintro en w3 hp
      rw [← HW2.out] at hp
      obtain ⟨e, kx, rfl, x1, x2, x3, x4⟩ := Hout.out en w3 hp
      obtain ⟨dv, hdv⟩ : ∃ dv, IntKind.i64.wrap (kx - 1) = dv := ⟨_, rfl⟩
      rw [hdv] at x4
      have X4 := Lib.hid x4
      clear hp x4 p0 p1 p2 p3 p4 p5 p6
      go_wp2_with fail
      go_ret
      exact X4.out
  · have HK := Lib.hid hc
    have f3 : (s.kind == 3) = false := beq_eq_false_iff_ne.2 hc.1
    have f10 : (s.kind == 10) = false := beq_eq_false_iff_ne.2 hc.2.1
    have f11 : (s.kind == 11) = false := beq_eq_false_iff_ne.2 hc.2.2.1
    have f8 : (s.kind != 8) = true := bne_iff_ne.2 hc.2.2.2
    have he : exprsN s.kind = 1 := by
      unfold exprsN
      rw [if_neg hc.1, if_neg (by omega), if_neg hc.2.2.2]
    have He := Lib.hid he
    clear hc he
    by_cases hb : s.exprs.length ≠ 1
    · have b1 : ((s.exprs.length : Int) != 1) = true := bne_iff_ne.2 (by omega)
      have HP := Lib.hid (Hbad.out 10 W k (by rw [Hn.out, if_pos (by unfold BadCount; rw [He.out]; omega)]) (by decide) HY.out SA.out)
      clear hb
      clear hW2 p0 p1 p2 p3 p4 p5 p6
      go_enter Tryd.func93, Tryd.ntmps93
      go_wp2_with fail
      rw [← hW]
      clear hW
      refine (refIn_any _ _ _ _).mono ?_
      rintro e w' ⟨rfl, rfl⟩
      rw [hd]
      go_wp2_with fail
      go_ret
      exact HP.out
    have hb : s.exprs.length = 1 := by omega
    have b1 : ((s.exprs.length : Int) != 1) = false := by rw [bne_eq_false_iff_eq]; omega
    have b2 : decide ((s.exprs.length : Int) > 2) = false := decide_eq_false (by omega)
    have hnb : ¬ BadCount s := by unfold BadCount; rw [He.out]; omega
    clear hb
    have Hnb := Lib.hid hnb
    clear hnb
    by_cases h8 : 120 < k + 1
    · have d5 : decide ((k : Int) + 1 > 120) = true := decide_eq_true (by omega)
      have HP := Lib.hid (Hbad.out 8 W2 _ (by rw [Hn.out, if_neg Hnb.out, if_pos h8]) (by decide) HY2.out HS2.out)
      rw [hW2] at HP
      clear h8 hW2 p0 p1 p2 p3 p4 p5 p6
      go_enter Tryd.func93, Tryd.ntmps93
      go_wp2_with fail
      rw [← hW]
      clear hW
      refine (refIn_any _ _ _ _).mono ?_
      rintro e w' ⟨rfl, rfl⟩
      rw [hd]
      go_wp2_with fail
      go_ret
      exact HP.out
    · have d5 : decide ((k : Int) + 1 > 120) = false := decide_eq_false (by omega)
      have Hc2 := Hcall.out Hnb.out h8
      have Hc3 := Lib.hid Hc2
      rw [hW2] at p0 p1 p2 p3 p4 p5 p6 Hc3
      clear h8 Hc2
      have HW2 := Lib.hid hW2
      clear hW2
      go_enter Tryd.func93, Tryd.ntmps93
      go_wp2_with fail
      rw [← hW]
      clear hW
      refine (refIn_any _ _ _ _).mono ?_
      rintro e w' ⟨rfl, rfl⟩
      rw [hd]
      go_wp2_with fail
      refine Hc3.out.mono ?_
      rintro en w3 hp
      rw [← HW2.out] at hp
      obtain ⟨e, kx, rfl, x1, x2, x3, x4⟩ := Hout.out en w3 hp
      obtain ⟨dv, hdv⟩ : ∃ dv, IntKind.i64.wrap (kx - 1) = dv := ⟨_, rfl⟩
      rw [hdv] at x4
      have X4 := Lib.hid x4
      clear hp x4 p0 p1 p2 p3 p4 p5 p6
      go_wp2_with fail
      go_ret
      exact X4.out
end Go.Proofs.YtaomlfbcfmmhlaaDoor

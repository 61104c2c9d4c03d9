/-
  Texts joined: YBlock.
-/
import Derived.Test.YtaomlfbcfmmhlaaDoorTCZH
import Derived.Test.YtaomlfbcfmmhlaaDoorTCQ

/-
  posternref's typer: blockFault: the contract.
-/
namespace Go.Proofs.YtaomlfbcfmmhlaaDoor
open Go.RowKit Go.Pst
set_option linter.unusedVariables false
set_option linter.unusedSimpArgs false

/-- No row of statements is long. -/
def SmallS : Nat → PStmt → Prop
  | 0, _ => True
  | d + 1, s => (s.body.length ≤ 1048576 ∧ ∀ y ∈ s.body, SmallS d y) ∧ (s.els.length ≤ 1048576 ∧ ∀ y ∈ s.els, SmallS d y) ∧ ∀ c ∈ s.cases, c.2.length ≤ 1048576 ∧ ∀ y ∈ c.2, SmallS d y
/-- Scopes that are not many, nor long. -/
def GB (G : List Scope) : Prop := G.length ≤ 1000 ∧ (flatG G).length ≤ 1000000000
/-- What stmtFault (e = 0), blockFault (e = 1) want to find; so many names more may come. -/
structure YIn (fs : List PFunc) (dF : Nat) (res : Int) (e n : Nat) (w : World) (base by_ : Nat) (vf : Value) (cf : List Value) (V : Fin 3 → Value) (G : List Scope) (lp : Int) (k : Nat) : Prop where
  at_ : YAt w base by_ vf cf V (YSt.of G lp k)
  uniq : UniqG G
  funcs : rFuncs dF (· < base) w [vf] fs
  res : cf[2]? = some (.int .i64 res)
  deep : k ≤ 120
  pos : 0 < G.length + e
  len : G.length + e ≤ 2 + 2 * k
  loops : 0 ≤ lp ∧ lp ≤ k
  names : (flatG G).length + n ≤ (k + 1) * 2000000
theorem YIn.gb {fs : List PFunc} {dF : Nat} {res : Int} {e n : Nat} {w : World} {base by_ : Nat} {vf : Value} {cf : List Value} {V : Fin 3 → Value} {G : List Scope} {lp : Int} {k : Nat} (h : YIn fs dF res e n w base by_ vf cf V G lp k) : GB G := by
  have h1 := h.len
  have h2 := h.deep
  have h3 := h.names
  have : (k + 1) * 2000000 ≤ 121 * 2000000 := Nat.mul_le_mul_right _ (by omega)
  exact ⟨by omega, by omega⟩
theorem YIn.expr {fs : List PFunc} {dF : Nat} {res : Int} {e n : Nat} {w : World} {base by_ : Nat} {vf : Value} {cf : List Value} {V : Fin 3 → Value} {G : List Scope} {lp : Int} {k : Nat} (h : YIn fs dF res e n w base by_ vf cf V G lp k) : YExprIn fs dF w base by_ vf cf V G lp k := ⟨h.at_, h.uniq, h.funcs, h.deep⟩
theorem YIn.next {fs : List PFunc} {dF : Nat} {res : Int} {e n e' n' : Nat} {w w' : World} {base by_ : Nat} {vf : Value} {cf : List Value} {V V' : Fin 3 → Value} {G G' : List Scope} {lp lp' : Int} {k k' : Nat} (h : YIn fs dF res e n w base by_ vf cf V G lp k) (h1 : YAt w' base by_ vf cf V' (YSt.of G' lp' k')) (hs : Since (YM by_ V) w w')
    (hu : UniqG G') (hd : k' ≤ 120) (hp : 0 < G'.length + e') (hl : G'.length + e' ≤ 2 + 2 * k') (hlp : 0 ≤ lp' ∧ lp' ≤ k') (hn : (flatG G').length + n' ≤ (k' + 1) * 2000000) : YIn fs dF res e' n' w' base by_ vf cf V' G' lp' k' := by
  have hm := fun k (hk : YM by_ V k) => (h.at_.mem_lt hk).1
  exact ⟨h1, hu, Good.kept (hs.keep.weaken (fun k _ hk e => by have := hm k e; omega)) h.funcs, h.res, hd, hp, hl, hlp, hn⟩

def YStmtPost (w : World) (base by_ : Nat) (vf : Value) (cf : List Value) (V : Fin 3 → Value) (G : List Scope) (lp : Int) (k : Nat) (R : Except Int (List Scope)) (en : Ending) (w' : World) : Prop :=
  ∃ e : Int, en = .returned (.int .i64 e) ∧ match R with
    | .ok G' => e = 0 ∧ YDone w base by_ vf cf V G' lp k w' ∧ UniqG G' ∧ SameG G' G ∧ (flatG G').length ≤ (flatG G).length + 1
    | .error e' => e = e' ∧ e' ≠ 0 ∧ ∃ G' lp' k', G.length ≤ G'.length ∧ GB G' ∧ YDone w base by_ vf cf V G' lp' k' w'
theorem YDone.trans {w w1 w2 : World} {base by_ : Nat} {vf : Value} {cf : List Value} {V V1 : Fin 3 → Value} {G : List Scope} {lp k : Int} (hs : Since (YM by_ V) w w1) (hn : YAt.NewY w by_ V V1) (h : YDone w1 base by_ vf cf V1 G lp k w2) : YDone w base by_ vf cf V G lp k w2 := by
  obtain ⟨V2, h1, h2, h3⟩ := h
  exact ⟨V2, h1, hn.since hs h2, hn.trans h3 hs.size⟩
section
variable (fs : List PFunc) (dF : Nat) (res : Int) (base by_ : Nat) (vf : Value) (cf : List Value)
/-- What stmtFault does at trees so deep. -/
def YStmtSaid (d : Nat) : Prop := ∀ (s : PStmt) (cs : List Value) (w : World) (V : Fin 3 → Value) (G : List Scope) (lp : Int) (k : Nat), YIn fs dF res 0 1 w base by_ vf cf V G lp k → rStmt d (· < base) w cs s → FitS d s → SmallS d s →
  Calls Tryd.prog 93 #[.pointer (some ⟨by_, 0, none⟩), .agg cs.toArray] w (YStmtPost w base by_ vf cf V G lp k (stmtT fs res d lp.toNat k G s))
end
theorem blockT_stop {f : List Scope → PStmt → Except Int (List Scope)} {G G' : List Scope} {L : List PStmt} {i : Nat} (hi : i < L.length) (h : stmtsT f ([] :: G) (L.take i) = .ok G') {e : Int} (he : f G' L[i] = .error e) : blockT f G L = .error e := by
  have h1 : stmtsT f ([] :: G) (L.take (i + 1)) = .error e := by rw [List.take_succ_eq_append_getElem hi, stmtsT_snoc, h]; exact he
  have front : ∀ (l1 l2 : List PStmt) (G : List Scope), stmtsT f G l1 = .error e → stmtsT f G (l1 ++ l2) = .error e := by
    intro l1
    induction l1 with
    | nil => intro l2 G h; cases h
    | cons x r ih =>
      intro l2 G h
      simp only [List.cons_append, stmtsT] at h ⊢
      cases hx : f G x with
      | error e' => rw [hx] at h; exact h
      | ok G1 => rw [hx] at h; exact ih l2 G1 h
  have h2 := front _ (L.drop (i + 1)) _ h1
  rw [List.take_append_drop] at h2
  unfold blockT
  rw [h2]

set_option maxHeartbeats 2000000 in
theorem yBlock_any {fs : List PFunc} {dF : Nat} {res : Int} {w : World} {base by_ : Nat} {vf : Value} {cf : List Value} {V : Fin 3 → Value} {G : List Scope} {lp : Int} {k d : Nat} (hS : YStmtSaid fs dF res base by_ vf cf d) (L : List PStmt) (h : YIn fs dF res 1 L.length w base by_ vf cf V G lp k) (v : Value)
    (hl : rSlice 7 (rStmt d) (· < base) w [v] L) (hf : ∀ y ∈ L, FitS d y) (hsm : ∀ y ∈ L, SmallS d y) :
    Calls Tryd.prog 51 #[.pointer (some ⟨by_, 0, none⟩), v] w (YStmtPost w base by_ vf cf V G lp k (blockT (stmtT fs res d lp.toNat k) G L)) := by
  obtain ⟨a, cap, rfl, hc1, hc2, hat⟩ := rStmts_get hl
  obtain ⟨R, hR⟩ : ∃ R, R = blockT (stmtT fs res d lp.toNat k) G L := ⟨_, rfl⟩
  rw [← hR]
  have hgb := h.gb
  have HR := Lib.hid hR
  have H := Lib.hid h
  have HSt := Lib.hid hS
  have Hf := Lib.hid hf
  have Hsm := Lib.hid hsm
  have Hat := Lib.hid hat
  have hal : L.length ≤ 9223372036854775807 := by unfold maxLen at hc2; omega
  have hent := yEnter_any h.at_ (by have := hgb.1; omega) (by have := hgb.2; omega)
  have Hent := Lib.hid hent
  have Hgb := Lib.hid hgb
  clear hR h hS hl hf hat hc1 hc2 hent hsm hgb
  go_enter Tryd.func51, Tryd.ntmps51
  go_wp2_with fail
  refine Hent.out.mono ?_
  rintro en w1 ⟨rfl, V1, h1, h2, h3⟩
  have HY1 := Lib.hid h1
  have HS1 := Lib.hid h2
  have HN1 := Lib.hid h3
  clear h1 h2 h3
  go_wp2_with fail
  go_loopw [5] (fun s5 wr => ∃ (i : Nat) (Vi : Fin 3 → Value) (Gi : List Scope), i ≤ L.length ∧ s5 = .int .i64 i ∧ stmtsT (stmtT fs res d lp.toNat k) ([] :: G) (L.take i) = .ok Gi ∧ YAt wr base by_ vf cf Vi (YSt.of Gi lp k) ∧ UniqG Gi ∧ SameG Gi ([] :: G) ∧ (flatG Gi).length ≤ (flatG G).length + i ∧ Since (YM by_ V1) w1 wr ∧ YAt.NewY w1 by_ V1 Vi) (fun s5 _ => L.length - (intOf s5).toNat)
  case atStart => exact ⟨0, V1, [] :: G, Nat.zero_le _, rfl, rfl, HY1.out, fun g hg => by rcases List.mem_cons.1 hg with rfl | e; simp; exact H.out.uniq g e, SameG.of rfl, by simp [flatG], Since.refl _ _, YAt.NewY.refl _ _ _⟩
  case round =>
    obtain ⟨i, Vi, Gi, hi, rfl, hst, hyi, hui, hgi, hni, hsi, hnw⟩ := hrel
    have Hst := Lib.hid hst
    have Hyi := Lib.hid hyi
    have Hui := Lib.hid hui
    have Hgi := Lib.hid hgi
    have Hni := Lib.hid hni
    have Hsi := Lib.hid hsi
    have Hnw := Lib.hid hnw
    clear hst hyi hui hgi hni hsi hnw
    by_cases hlt : i < L.length
    · have hlt1 : decide ((i : Int) < (L.length : Int)) = true := decide_eq_true (by omega)
      have hi0 : (0 : Int) ≤ i := by omega
      have hi1 : (i : Int) < (L.length : Int) := by omega
      have hwk : IntKind.i64.wrap ((i : Int) + 1) = (i : Int) + 1 := IntWalk.i64_in _ (by omega)
      obtain ⟨b, off, a3, c3, a4, c4, a5, c5, a6, c6, rfl, hSb, hbl, x0, x1, x2, x3, x4, x5, x6, hr⟩ := Hat.out i hlt
      have hsw := HN1.out.since HS1.out Hsi.out
      have hmb : ∀ k, YM by_ V k → base ≤ k := fun k hk => (H.out.at_.mem_lt hk).1
      have hw := fun o => hsw.cell (o := o) hbl (fun f => by have := hmb _ f; omega)
      have y0 := (hw _).trans x0
      have y1 := (hw _).trans x1
      have y2 := (hw _).trans x2
      have y3 := (hw _).trans x3
      have y4 := (hw _).trans x4
      have y5 := (hw _).trans x5
      have y6 := (hw _).trans x6
      have Hstop := Lib.hid (fun (e : Int) (he : stmtT fs res d lp.toNat k Gi L[i] = .error e) => blockT_stop hlt Hst.out he)
      have Hstep := Lib.hid (fun (G' : List Scope) (he : stmtT fs res d lp.toNat k Gi L[i] = .ok G') => (show stmtsT (stmtT fs res d lp.toNat k) ([] :: G) (L.take (i + 1)) = .ok G' by rw [List.take_succ_eq_append_getElem hlt, stmtsT_snoc, Hst.out]; exact he))
      have hln : Gi.length = G.length + 1 := Hgi.out.1
      have hin : YIn fs dF res 0 1 wr base by_ vf cf Vi Gi lp k := H.out.next Hyi.out hsw Hui.out H.out.deep (by omega) (by have := H.out.len; omega) H.out.loops (by have := H.out.names; have := Hni.out; omega)
      have hcall := HSt.out L[i] _ wr Vi Gi lp k hin (Good.kept (hsw.keep.weaken (fun k _ hk e => by have := hmb k e; omega)) hr) (Hf.out _ (List.getElem_mem hlt)) (Hsm.out _ (List.getElem_mem hlt))
      have Hcall := Lib.hid hcall
      have HSW := Lib.hid hsw
      clear x0 x1 x2 x3 x4 x5 x6 hw hin hcall hr hsw hmb
      generalize L[i] = s at *
      go_wp2_with fail
      refine Hcall.out.mono ?_
      rintro en w3 ⟨e, rfl, hp⟩
      cases hE : stmtT fs res d lp.toNat k Gi s with
      | error e' =>
        rw [hE] at hp
        obtain ⟨rfl, hne, G', lp', k', g1, g2, g3⟩ := hp
        have he1 : (e != 0) = true := by simpa using hne
        have HP : YStmtPost w base by_ vf cf V G lp k R (.returned (.int .i64 e)) w3 := ⟨e, rfl, by
          rw [HR.out, Hstop.out e hE]
          exact ⟨rfl, hne, G', lp', k', by omega, g2, YDone.trans HSW.out (HN1.out.trans Hnw.out HS1.out.size) g3⟩⟩
        have HP := Lib.hid HP
        clear hne g1 g2 g3 hE
        go_wp2_with fail
        go_ret
        exact HP.out
      | ok G' =>
        rw [hE] at hp
        obtain ⟨rfl, ⟨V3, d1, d2, d3⟩, g1, g2, g3⟩ := hp
        have D1 := Lib.hid d1
        have D2 := Lib.hid (Hnw.out.since Hsi.out d2)
        have D3 := Lib.hid (Hnw.out.trans d3 Hsi.out.size)
        have G1 := Lib.hid g1
        have G2 := Lib.hid (g2.trans Hgi.out)
        have G3 := Lib.hid g3
        have HE := Lib.hid (Hstep.out G' hE)
        clear d1 d2 d3 g1 g2 g3 hE
        go_wp2_with fail
        go_roundw
        case rel => exact ⟨i + 1, V3, G', by omega, by go_num, HE.out, D1.out, G1.out, G2.out, by have := G3.out; have := Hni.out; omega, D2.out, D3.out⟩
        case measure => simp only [intOf]; omega
    · have hie : i = L.length := by omega
      subst hie
      have hlt1 : decide ((L.length : Int) < (L.length : Int)) = false := decide_eq_false (by omega)
      have hE := Hst.out
      rw [List.take_length] at hE
      have Hr := Lib.hid (show R = .ok G by rw [HR.out]; unfold blockT; rw [hE])
      have hgi := Hgi.out
      obtain ⟨g, r, hgr⟩ : ∃ g r, Gi = g :: r := by
        cases hg : Gi with
        | nil => rw [hg] at hgi; simp [SameG] at hgi
        | cons g r => exact ⟨g, r, rfl⟩
      subst hgr
      have hrG : r = G := hgi.2
      subst hrG
      have hgb := Hgb.out
      have hni := Hni.out
      have hnm := H.out.names
      have hdp := H.out.deep
      have hmul : (k + 1) * 2000000 ≤ 121 * 2000000 := Nat.mul_le_mul_right _ (by omega)
      have hlv := yLeave_any Hyi.out (by have := hgb.1; omega) (by omega)
      have Hlv := Lib.hid hlv
      clear hE hgi hlv hlt hgb hni hnm hdp hmul
      go_wp2_with fail
      refine Hlv.out.mono ?_
      rintro en w3 ⟨rfl, V3, d1, d2, d3⟩
      have HP : YStmtPost w base by_ vf cf V r lp k R (.returned (.int .i64 0)) w3 := ⟨0, rfl, by
        rw [Hr.out]
        exact ⟨rfl, ⟨V3, d1, HN1.out.since HS1.out (Hnw.out.since Hsi.out d2), HN1.out.trans (Hnw.out.trans d3 Hsi.out.size) HS1.out.size⟩, H.out.uniq, SameG.of rfl, by omega⟩⟩
      have HP := Lib.hid HP
      clear d1 d2 d3
      go_wp2_with fail
      go_ret
      exact HP.out
end Go.Proofs.YtaomlfbcfmmhlaaDoor

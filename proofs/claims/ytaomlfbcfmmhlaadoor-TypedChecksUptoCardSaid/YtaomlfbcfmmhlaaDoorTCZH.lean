/-
  Texts joined: YWorth.
-/
import Derived.Test.YtaomlfbcfmmhlaaDoorTCZG
import Derived.Test.YtaomlfbcfmmhlaaDoorTCR

/-
  posternref's typer: worth, is: contracts.
-/
namespace Go.Proofs.YtaomlfbcfmmhlaaDoor
open Go.RowKit Go.Pst
set_option linter.unusedVariables false
set_option linter.unusedSimpArgs false

/-- What typed wants to find. -/
structure YExprIn (fs : List PFunc) (dF : Nat) (w : World) (base by_ : Nat) (vf : Value) (cf : List Value) (V : Fin 3 → Value) (G : List Scope) (l : Int) (k : Nat) : Prop where
  at_ : YAt w base by_ vf cf V (YSt.of G l k)
  uniq : UniqG G
  funcs : rFuncs dF (· < base) w [vf] fs
  deep : k ≤ 120
theorem YExprIn.new {fs : List PFunc} {dF : Nat} {w w' : World} {base by_ : Nat} {vf : Value} {cf : List Value} {V : Fin 3 → Value} {G : List Scope} {l : Int} {k : Nat} (h : YExprIn fs dF w base by_ vf cf V G l k) (hs : Since (fun _ => False) w w') : YExprIn fs dF w' base by_ vf cf V G l k :=
  ⟨h.at_.since hs (fun _ e => e.elim), h.uniq, Good.kept (hs.keep.weaken (fun _ _ _ e => e.elim)) h.funcs, h.deep⟩
theorem YExprIn.next {fs : List PFunc} {dF : Nat} {w w' : World} {base by_ : Nat} {vf : Value} {cf : List Value} {V : Fin 3 → Value} {G : List Scope} {l : Int} {k : Nat} (h : YExprIn fs dF w base by_ vf cf V G l k) (h1 : YAt w' base by_ vf cf V (YSt.of G l k)) (hs : Since (fun j => j = by_) w w') : YExprIn fs dF w' base by_ vf cf V G l k := by
  have hb := h.at_.lb.1
  exact ⟨h1, h.uniq, Good.kept (hs.keep.weaken (fun k _ hk e => by omega)) h.funcs, h.deep⟩
theorem YTypedSaid.at {fs : List PFunc} {dF : Nat} {w : World} {base by_ : Nat} {vf : Value} {cf : List Value} {V : Fin 3 → Value} {G : List Scope} {l : Int} {k : Nat} (h : YExprIn fs dF w base by_ vf cf V G l k) {d : Nat} {x : PExpr} {cs : List Value} (hx : rExpr d (· < base) w cs x) (hf : FitX d x) :
    Calls Tryd.prog 175 #[.pointer (some ⟨by_, 0, none⟩), .agg cs.toArray] w (YExprPost w base by_ vf cf V G l k (exprT fs G d k x)) :=
  yTyped_any fs dF base by_ vf cf V G l h.uniq d x cs w k h.at_ h.funcs h.deep hx hf

set_option maxHeartbeats 1000000 in
theorem yWorth_any {fs : List PFunc} {dF : Nat} {w : World} {base by_ : Nat} {vf : Value} {cf : List Value} {V : Fin 3 → Value} {G : List Scope} {l : Int} {k : Nat} (h : YExprIn fs dF w base by_ vf cf V G l k) {d : Nat} {x : PExpr} {cs : List Value} (hx : rExpr d (· < base) w cs x) (hf : FitX d x) :
    Calls Tryd.prog 172 #[.pointer (some ⟨by_, 0, none⟩), .agg cs.toArray] w (YExprPost w base by_ vf cf V G l k (valuedT (exprT fs G d k x))) := by
  obtain ⟨a3, c3, rfl⟩ := rExpr_cells hx
  have hsa := Since.alloc (fun _ => False) w (.cells #[.int .i64 x.kind, .int .i64 x.n, .string x.s, .slice a3 x.args.length c3] 213)
  have hE := Lib.hid (YTypedSaid.at (h.new hsa) (Good.kept (hsa.keep.weaken (fun _ _ _ e => e.elim)) hx) hf)
  have SA := Lib.hid (hsa.mono (G := fun k => k = by_) (fun _ e => e.elim))
  obtain ⟨R, hR⟩ : ∃ R : Except Int Int, R = exprT fs G d k x := ⟨_, rfl⟩
  rw [← hR] at hE ⊢
  clear hR h hx hf hsa
  go_enter Tryd.func172, Tryd.ntmps172
  go_wp2_with fail
  refine hE.out.mono ?_
  rintro en w1 ⟨t, e, k', rfl, h1, h2, h3⟩
  have HC := Lib.hid h1
  have HS := Lib.hid h2
  clear h1 h2
  cases R with
  | error e' =>
    obtain ⟨rfl, hne⟩ := h3
    have he1 : (e == 0) = false := by simpa using hne
    have HP : YExprPost w base by_ vf cf V G l k (valuedT (.error e)) (.returned (.tuple #[.int .i64 t, .int .i64 e])) w1 := ⟨t, e, k', rfl, HC.out, SA.out.trans HS.out, rfl, hne⟩
    have HP := Lib.hid HP
    clear hne
    go_wp2_with fail
    go_ret2
    exact HP.out
  | ok u =>
    obtain ⟨rfl, rfl, rfl⟩ := h3
    cases hb : (decide ((1 : Int) ≤ t) && decide (t ≤ 5)) with
    | true =>
      have Hb := Lib.hid hb
      have HP : YExprPost w base by_ vf cf V G l k (valuedT (.ok t)) (.returned (.tuple #[.int .i64 t, .int .i64 0])) w1 := ⟨t, 0, k, rfl, HC.out, SA.out.trans HS.out, by
        have : 1 ≤ t ∧ t ≤ 5 := by simpa using hb
        simp [valuedT, if_pos this]⟩
      have HP := Lib.hid HP
      clear hb
      go_wp2_with (first | (go_at_call 48; refine (refIn_any _ _ _ _).mono ?_; rintro e w' ⟨rfl, rfl⟩; rw [Hb.out]))
      go_ret2
      exact HP.out
    | false =>
      have Hb := Lib.hid hb
      have HP : YExprPost w base by_ vf cf V G l k (valuedT (.ok t)) (.returned (.tuple #[.int .i64 t, .int .i64 9])) w1 := ⟨t, 9, k, rfl, HC.out, SA.out.trans HS.out, by
        have : ¬ (1 ≤ t ∧ t ≤ 5) := fun h => by simp [h] at hb
        simp only [valuedT, if_neg this]
        exact ⟨trivial, by decide⟩⟩
      have HP := Lib.hid HP
      clear hb
      go_wp2_with (first | (go_at_call 48; refine (refIn_any _ _ _ _).mono ?_; rintro e w' ⟨rfl, rfl⟩; rw [Hb.out]))
      go_ret2
      exact HP.out

def YIsPost (w : World) (base by_ : Nat) (vf : Value) (cf : List Value) (V : Fin 3 → Value) (G : List Scope) (l : Int) (k : Nat) (R : Except Int Int) (en : Ending) (w' : World) : Prop :=
  ∃ (e k' : Int), en = .returned (.int .i64 e) ∧ YAt w' base by_ vf cf V (YSt.of G l k') ∧ Since (fun j => j = by_) w w' ∧ match R with | .ok _ => e = 0 ∧ k' = (k : Int) | .error e' => e = e' ∧ e' ≠ 0
set_option maxHeartbeats 1000000 in
theorem yIs_any {fs : List PFunc} {dF : Nat} {w : World} {base by_ : Nat} {vf : Value} {cf : List Value} {V : Fin 3 → Value} {G : List Scope} {l : Int} {k : Nat} (h : YExprIn fs dF w base by_ vf cf V G l k) {d : Nat} {x : PExpr} {cs : List Value} (hx : rExpr d (· < base) w cs x) (hf : FitX d x) (u : Int) :
    Calls Tryd.prog 174 #[.pointer (some ⟨by_, 0, none⟩), .agg cs.toArray, .int .i64 u] w (YIsPost w base by_ vf cf V G l k (isT (exprT fs G d k x) u)) := by
  obtain ⟨a3, c3, rfl⟩ := rExpr_cells hx
  have hsa := Since.alloc (fun _ => False) w (.cells #[.int .i64 x.kind, .int .i64 x.n, .string x.s, .slice a3 x.args.length c3] 213)
  have hE := yWorth_any (h.new hsa) (Good.kept (hsa.keep.weaken (fun _ _ _ e => e.elim)) hx) hf
  have SA := Lib.hid (hsa.mono (G := fun k => k = by_) (fun _ e => e.elim))
  unfold isT
  obtain ⟨R, hR⟩ : ∃ R : Except Int Int, R = valuedT (exprT fs G d k x) := ⟨_, rfl⟩
  rw [← hR] at hE ⊢
  have hE := Lib.hid hE
  clear hR h hx hf hsa
  go_enter Tryd.func174, Tryd.ntmps174
  go_wp2_with fail
  refine hE.out.mono ?_
  rintro en w1 ⟨t, e, k', rfl, h1, h2, h3⟩
  have HC := Lib.hid h1
  have HS := Lib.hid h2
  clear h1 h2
  cases R with
  | error e' =>
    obtain ⟨rfl, hne⟩ := h3
    have he1 : (e == 0) = false := by simpa using hne
    have Hne := Lib.hid hne
    clear hne
    go_wp2_with fail
    go_ret
    exact ⟨e, k', rfl, HC.out, SA.out.trans HS.out, rfl, Hne.out⟩
  | ok v =>
    obtain ⟨rfl, rfl, rfl⟩ := h3
    by_cases hu : t = u
    · have hu1 : (t != u) = false := by simp [hu]
      have Hu := Lib.hid hu
      clear hu
      go_wp2_with fail
      go_ret
      exact ⟨0, k, rfl, HC.out, SA.out.trans HS.out, by simp [if_pos Hu.out]⟩
    · have hu1 : (t != u) = true := by simpa using hu
      have Hu := Lib.hid hu
      clear hu
      go_wp2_with fail
      go_ret
      exact ⟨9, k, rfl, HC.out, SA.out.trans HS.out, by simp only [if_neg Hu.out]; exact ⟨trivial, by decide⟩⟩
end Go.Proofs.YtaomlfbcfmmhlaaDoor

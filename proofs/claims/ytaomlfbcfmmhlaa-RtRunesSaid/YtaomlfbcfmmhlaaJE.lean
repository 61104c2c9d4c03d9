/-
  Texts joined: RanStep RanLoop RanOf.
-/
import Derived.Test.YtaomlfbcfmmhlaaJC
import Derived.Test.YtaomlfbcfmmhlaaJD
import Derived.Test.YtaomlfbcfmmhlaaJQ
import Derived.Deep.DeepCutAuto
import Derived.Deep.CutBlock
import Derived.Deep.RegionHeld3
import Derived.Deep.RegionLaw
import Derived.Deep.AppendLies
import Derived.Deep.DrawnRows

/-
  ref.ranOf: a whole step: the instruction at hand, its arguments, the arm.
-/
namespace Go.Proofs.Ytaomlfbcfmmhlaa
open Go.RowKit Go.Pst
set_option linter.unusedVariables false
set_option linter.unusedSimpArgs false

theorem Chain.want {p : PProg} {m : Bool} {f g : Lev} {r : List Lev} (h : Chain p m (f :: g :: r)) : (f.want.length : Int) = (codeAt p f.fn).results ∧ Ins f.want (if m then g.slots.length else g.vars.length) := ⟨h.1, h.2.1⟩

variable [Old]
set_option maxHeartbeats 4000000 in
theorem step_any (Q : Exit → Act → World → Prop) (ρ : Nat → Option Lab) (t : Array Value) (w : World) (fuel : Int) (m : Bool) (base bp br bs : Nat) (v0 v1 vW vL vC : Value) (p : PProg) (limit : Int) (words : List Int) (lines : List ByteArray) (f : Lev) (a : LA) (r : List (Lev × LA))
    (hF : FrameIs t fuel m bp br bs) (h11 : slotOf t 11 = vC) (h12 : slotOf t 12 = .int .i64 0) (hR : RunAt ρ w base bp br bs v0 v1 vW vL vC p limit words lines ((f, a) :: r))
    (hfit : Fits p m limit (stateOf words lines ((f, a) :: r))) (hs : Sound p m) (hl0 : 0 ≤ limit) (hl : limit ≤ 20000)
    (HQ : Hid (∀ t' w', StepPost t' w' fuel m base bp br bs (slotOf t 13) v0 v1 p limit (stepF p m limit (stateOf words lines ((f, a) :: r))) → Q .normal ⟨t', []⟩ w')) :
    ranS13.wp Try.prog Q ⟨t, []⟩ w := by
  have hL : LevOK p f := hfit.levs f (by simp [stateOf])
  have hlen := hfit.some_
  simp only [stateOf, List.map_cons, List.length_cons, List.length_map] at hlen
  have hrl : r.length < 40 := by omega
  have hwI := hfit.words
  have hww : words.length ≤ 20000 := by have : (words.length : Int) ≤ limit := hwI.2; omega
  have hll : lines.length ≤ 2000 := hfit.lines
  have hco := hs.codes _ (codeAt_mem hL.fn)
  have hvl := hL.vl
  have hsl := hL.sl
  have hsm := hco.small
  obtain ⟨hok, hcl⟩ := hL.ok hs
  have hxI : ∀ x ∈ argsF m f (instrAt p f), InI x := argsF_in (m := m) hL.toLevIn (instrAt p f)
  have hnb := hco.nb
  have hpar := hco.pars
  have hchain := hfit.chain
  simp only [stateOf, List.map_cons] at hchain
  have hsrcl : (f.src m (instrAt p f)).length ≤ 40000 := by unfold Lev.src; split <;> omega
  have hbl := (hco.blk _ hL.blk).2.1
  have hlb : Ins (instrAt p f).to (codeAt p f.fn).blocks.length → ∀ x ∈ (instrAt p f).to, 0 ≤ x := fun h x hx => (h x hx).1
  have hargs : (instrAt p f).op ≠ 21 → Ins (instrAt p f).ars (f.src m (instrAt p f)).length := by
    intro h21
    have one : ∀ a : Nat, ∀ n : Nat, a < n → Ins [(a : Int)] n := fun a n h x hx => by simp at hx; omega
    have two : ∀ a b : Nat, ∀ n : Nat, a < n → b < n → Ins [(a : Int), (b : Int)] n := fun a b n h h' x hx => by simp at hx; rcases hx with rfl | rfl <;> omega
    have nil : ∀ n : Nat, Ins [] n := fun n x hx => by simp at hx
    unfold Lev.src
    rcases hok with ⟨e, d, hd, hd', ha⟩ | ⟨e, d, a, hd, hd', ha, ha'⟩ | ⟨e, hss, d, a, b, hd, hd', ha, ha', hb'⟩ | ⟨e, d, a, hd, hd', ha, ha'⟩ | ⟨e, a, b, ha, ha', hb'⟩ | ⟨e, d, a, hd, hd', ha, ha'⟩ | ⟨e, k, g, hk, hg, hp, hr, ia, id⟩ | ⟨e, ⟨hs1, a, b, ha, ha', hb'⟩ | ⟨hs1, a, ha, ha'⟩⟩ | ⟨e, ha, tt, ht, ht'⟩ | ⟨e, a, tt, u, ha, ha', ht, ht', hu'⟩ | ⟨e, ⟨a, ha, ha'⟩, ht, ht'⟩ | ⟨e, hr, ia⟩ | ⟨e, ha, n1, n2⟩ | ⟨em, e, ha, d, n, hd, hd', hn1, hn2⟩ | ⟨em, e, a, n, ha, ha', hn1, hn2⟩
    all_goals simp only [e, Int.reduceEq, or_self, or_false, or_true, and_false, and_true, if_false, reduceIte] at *
    all_goals try rw [ha]
    · exact nil _
    · exact one _ _ ha'
    · exact two _ _ _ ha' hb'
    · exact one _ _ ha'
    · exact two _ _ _ ha' hb'
    · exact one _ _ ha'
    · cases m <;> simpa using ia
    · exact two _ _ _ ha' hb'
    · exact one _ _ ha'
    · exact nil _
    · exact one _ _ ha'
    · exact one _ _ ha'
    · cases m <;> simpa using ia
    · exact nil _
    · exact absurd rfl h21
    · exact one _ _ ha'
  have hal : (instrAt p f).ars.length ≤ 16 ∨ (instrAt p f).ars.length ≤ 2 := by
    rcases hok with ⟨e, d, hd, hd', ha⟩ | ⟨e, d, a, hd, hd', ha, ha'⟩ | ⟨e, hss, d, a, b, hd, hd', ha, ha', hb'⟩ | ⟨e, d, a, hd, hd', ha, ha'⟩ | ⟨e, a, b, ha, ha', hb'⟩ | ⟨e, d, a, hd, hd', ha, ha'⟩ | ⟨e, k, g, hk, hg, hp, hr, ia, id⟩ | ⟨e, ⟨hs1, a, b, ha, ha', hb'⟩ | ⟨hs1, a, ha, ha'⟩⟩ | ⟨e, ha, tt, ht, ht'⟩ | ⟨e, a, tt, u, ha, ha', ht, ht', hu'⟩ | ⟨e, ⟨a, ha, ha'⟩, ht, ht'⟩ | ⟨e, hr, ia⟩ | ⟨e, ha, n1, n2⟩ | ⟨em, e, ha, d, n, hd, hd', hn1, hn2⟩ | ⟨em, e, a, n, ha, ha', hn1, hn2⟩
    case inr.inr.inr.inr.inr.inr.inl =>
      have := (hs.codes g (List.mem_of_getElem? hg)).pars
      left
      omega
    case inr.inr.inr.inr.inr.inr.inr.inr.inr.inr.inr.inl => left; omega
    all_goals (right; rw [ha]; simp)
  have hto : (instrAt p f).to.length ≤ 9223372036854775807 → True := fun _ => trivial
  have HOK := Lib.hid hok
  refine pre_any Q ρ t w fuel m base bp br bs v0 v1 vW vL vC p limit words lines f a r hF h11 h12 hR hL hs hrl (Lib.hid ?_)
  intro ρ1 t1 w1 bi g cap u1 u2 u5 h1 h16
  refine from_any Q ρ1 t1 w1 fuel m base bp br bs bi g cap _ v0 v1 vW vL u1 u2 u5 p limit words lines f a r _ h1 h16 (Lib.hid ?_)
  intro t2 h2 h216 h217
  refine args_any Q ρ1 t2 w1 fuel m base bp br bs bi g cap _ v0 v1 vW vL u1 u2 u5 p limit words lines f a r _ h2 h216 h217 hargs (by omega) hsrcl (Lib.hid ?_)
  intro ρ3 t3 w3 vX h3
  have hxl : (instrAt p f).op ≠ 21 → (argsF m f (instrAt p f)).length = (instrAt p f).ars.length := fun h => by unfold argsF; rw [if_neg h]; simp
  have hcd : ∀ k : Nat, ∀ g : PCode, p.funcs[k]? = some g → k < p.funcs.length ∧ codeAt p k = g := fun k g hg => by
    obtain ⟨h1, h2⟩ := List.getElem?_eq_some_iff.1 hg
    exact ⟨h1, by rw [codeAt_eq h1, h2]⟩
  clear h1 h2 h16 h216 h217
  rcases hok with ⟨e, d, hd, hd', ha⟩ | ⟨e, d, a', hd, hd', ha, ha'⟩ | ⟨e, hss, d, a', b, hd, hd', ha, ha', hb'⟩ | ⟨e, d, a', hd, hd', ha, ha'⟩ | ⟨e, a', b, ha, ha', hb'⟩ | ⟨e, d, a', hd, hd', ha, ha'⟩ | ⟨e, k, gc, hk, hg, hp, hr, ia, id⟩ | ⟨e, ⟨hs1, a', b, ha, ha', hb'⟩ | ⟨hs1, a', ha, ha'⟩⟩ | ⟨e, ha, tt, ht, ht'⟩ | ⟨e, a', tt, u, ha, ha', ht, ht', hu'⟩ | ⟨e, ⟨a', ha, ha'⟩, ht, ht'⟩ | ⟨e, hr, ia⟩ | ⟨e, ha, n1, n2⟩ | ⟨em, e, ha, d, n, hd, hd', hn1, hn2⟩ | ⟨em, e, a', n, ha, ha', hn1, hn2⟩
  · exact arm_const Q ρ3 t3 w3 fuel m base bp br bs bi g cap _ v0 v1 vW vL u1 u2 u5 vX p limit words lines f a r _ _ h3 rfl rfl e d hd hd' HQ
  · exact arm_move Q ρ3 t3 w3 fuel m base bp br bs bi g cap _ v0 v1 vW vL u1 u2 u5 vX p limit words lines f a r _ _ h3 rfl rfl e d a' hd hd' ha HQ
  · exact arm_math Q ρ3 t3 w3 fuel m base bp br bs bi g cap _ v0 v1 vW vL u1 u2 u5 vX p limit words lines f a r _ _ h3 rfl rfl e d a' b hd hd' ha hxI HQ
  · exact arm_load Q ρ3 t3 w3 fuel m base bp br bs bi g cap _ v0 v1 vW vL u1 u2 u5 vX p limit words lines f a r _ _ h3 rfl rfl e d a' hd hd' ha hxI hww HQ
  · exact arm_store Q ρ3 t3 w3 fuel m base bp br bs bi g cap _ v0 v1 vW vL u1 u2 u5 vX p limit words lines f a r _ _ h3 rfl rfl e a' b ha hxI hww HQ
  · exact arm_alloc Q ρ3 t3 w3 fuel m base bp br bs bi g cap _ v0 v1 vW vL u1 u2 u5 vX p limit words lines f a r _ _ h3 rfl rfl e d a' hd hd' ha hxI hww hl0 hl HQ
  · by_cases h40 : 40 ≤ r.length + 1
    · exact arm_invoke0 Q ρ3 t3 w3 fuel m base bp br bs bi g cap _ v0 v1 vW vL u1 u2 u5 vX p limit words lines f a r _ _ h3 rfl rfl e h40 (by omega) HQ
    · obtain ⟨hkl, hck⟩ := hcd k gc hg
      have hcc := hs.codes _ (codeAt_mem hkl)
      obtain ⟨c1, c2, c3, c4⟩ := hcc.small
      obtain ⟨nv, hnv⟩ := Int.eq_ofNat_of_zero_le c1
      obtain ⟨ns, hns⟩ := Int.eq_ofNat_of_zero_le c3
      have hroom := hcc.room
      have hxl' := hxl (by omega)
      rw [← hck] at hp
      cases m
      · simp only [Bool.false_eq_true, if_false] at hroom
        exact arm_invoke_false Q ρ3 t3 w3 fuel base bp br bs bi g cap _ v0 v1 vW vL u1 u2 u5 vX p limit words lines f a r _ _ h3 rfl rfl e k nv ns hk hkl hs.some_.2 hnv hns (by omega) (by omega) (by omega) (by omega) HQ
      · simp only [if_true] at hroom
        exact arm_invoke_true Q ρ3 t3 w3 fuel base bp br bs bi g cap _ v0 v1 vW vL u1 u2 u5 vX p limit words lines f a r _ _ h3 rfl rfl e k nv ns hk hkl hs.some_.2 hnv hns (by omega) (by omega) (by omega) (by omega) HQ
  · exact arm_show2 Q ρ3 t3 w3 fuel m base bp br bs bi g cap _ v0 v1 vW vL u1 u2 u5 vX p limit words lines f a r _ _ h3 rfl rfl e a' b ha hxI hww hll HQ
  · exact arm_show1 Q ρ3 t3 w3 fuel m base bp br bs bi g cap _ v0 v1 vW vL u1 u2 u5 vX p limit words lines f a r _ _ h3 rfl rfl e a' ha hxI hww hll HQ
  · exact arm_jump Q ρ3 t3 w3 fuel m base bp br bs bi g cap _ v0 v1 vW vL u1 u2 u5 vX p limit words lines f a r _ _ h3 rfl rfl e tt ht HQ
  · exact arm_choose Q ρ3 t3 w3 fuel m base bp br bs bi g cap _ v0 v1 vW vL u1 u2 u5 vX p limit words lines f a r _ _ h3 rfl rfl e a' tt u ha ht HQ
  · obtain ⟨n, hn⟩ : ∃ n, (instrAt p f).to.length = n + 1 := ⟨(instrAt p f).to.length - 1, by omega⟩
    have hn5 : n ≤ 9223372036854775806 := by
      obtain ⟨a5, c5, -, h51, h52, -⟩ := rInts_val h3.i5
      unfold maxLen at h52
      omega
    exact arm_pick Q ρ3 t3 w3 fuel m base bp br bs bi g cap _ v0 v1 vW vL u1 u2 u5 vX p limit words lines f a r _ _ h3 rfl rfl e a' n ha hn hn5 (hlb ht') HQ
  · have hxl' := hxl (by omega)
    cases r with
    | nil => exact arm_back0 Q ρ3 t3 w3 fuel m base bp br bs bi g cap _ v0 v1 vW vL u1 u2 u5 vX p limit words lines f a [] _ _ h3 rfl rfl e rfl HQ
    | cons x r' =>
      obtain ⟨f1, a1⟩ := x
      obtain ⟨hw1, hw2⟩ := Chain.want hchain
      simp only [List.length_cons] at hlen
      cases m
      · simp only [Bool.false_eq_true, if_false] at hw2
        exact arm_back_false Q ρ3 t3 w3 fuel base bp br bs bi g cap _ v0 v1 vW vL u1 u2 u5 vX p limit words lines f a _ _ _ h3 rfl rfl e f1 a1 r' rfl (by omega) (by omega) (by omega) hw2 HQ
      · simp only [if_true] at hw2
        exact arm_back_true Q ρ3 t3 w3 fuel base bp br bs bi g cap _ v0 v1 vW vL u1 u2 u5 vX p limit words lines f a _ _ _ h3 rfl rfl e f1 a1 r' rfl (by omega) (by omega) (by omega) hw2 HQ
  · exact arm_fail Q ρ3 t3 w3 fuel m base bp br bs bi g cap _ v0 v1 vW vL u1 u2 u5 vX p limit words lines f a r _ _ h3 rfl rfl e HQ
  · exact arm_loadSlot Q ρ3 t3 w3 fuel m base bp br bs bi g cap _ v0 v1 vW vL u1 u2 u5 vX p limit words lines f a r _ _ h3 rfl rfl e d n hd hd' hn1 hn2 HQ
  · exact arm_storeSlot Q ρ3 t3 w3 fuel m base bp br bs bi g cap _ v0 v1 vW vL u1 u2 u5 vX p limit words lines f a r _ _ h3 rfl rfl e a' n ha hn1 hn2 HQ
end Go.Proofs.Ytaomlfbcfmmhlaa

/-
  ref.ranOf: the loop over steps.
-/
namespace Go.Proofs.Ytaomlfbcfmmhlaa
open Go.RowKit Go.Pst
set_option linter.unusedVariables false
set_option linter.unusedSimpArgs false
variable [Old]

noncomputable def ranLoop : Code := Code.sub [1, 1, 1, 1, 1, 0, 1, 0] ((Try.f66).body.getD .skip)
/-- What the loop over steps knows: so many steps are left at most. -/
def LoopI (fuel : Int) (m : Bool) (base bp br bs : Nat) (v0 v1 : Value) (p : PProg) (limit : Int) (R : Int × List ByteArray) (k : Nat) (a : Act) (w : World) : Prop :=
  ∃ t, a = ⟨t, []⟩ ∧ FrameIs t fuel m bp br bs ∧ ∃ ρ vW vL words lines fr, RunAt ρ w base bp br bs v0 v1 vW vL (slotOf t 11) p limit words lines fr ∧
    ((∃ n : Nat, slotOf t 12 = .int .i64 0 ∧ slotOf t 13 = .int .i64 (fuel - n) ∧ (n : Int) ≤ fuel ∧ k = n + 1 ∧ Fits p m limit (stateOf words lines fr) ∧ runF p m limit n (stateOf words lines fr) = R) ∨
     (∃ e : Int, slotOf t 12 = .int .i64 e ∧ e ≠ 0 ∧ k = 0 ∧ R = (e, lines)))

set_option maxRecDepth 100000 in
set_option maxHeartbeats 4000000 in
theorem loop_any (Q : Exit → Act → World → Prop) (t : Array Value) (w : World) (fuel : Int) (m : Bool) (base bp br bs : Nat) (v0 v1 : Value) (p : PProg) (limit : Int) (R : Int × List ByteArray) (k : Nat)
    (h0 : LoopI fuel m base bp br bs v0 v1 p limit R k ⟨t, []⟩ w) (hs : Sound p m) (hl0 : 0 ≤ limit) (hl : limit ≤ 20000) (hf0 : 0 ≤ fuel) (hf1 : fuel ≤ 10000000) (hn : ∀ f, LevOK p f → InI (instrAt p f).n)
    (HQ : Hid (∀ t' w', FrameIs t' fuel m bp br bs → slotOf t' 12 = .int .i64 R.1 → (∃ ρ vW vL words fr, RunAt ρ w' base bp br bs v0 v1 vW vL (slotOf t' 11) p limit words R.2 fr) → Q (.exit 2) ⟨t', []⟩ w')) :
    ranLoop.wp Try.prog Q ⟨t, []⟩ w := by
  show (Code.loop ranBody).wp Try.prog Q ⟨t, []⟩ w
  refine wp_loop_ghost (LoopI fuel m base bp br bs v0 v1 p limit R) k h0 ?_
  clear h0 t w
  rintro n _ w ⟨t, rfl, hF, ρ, vW, vL, words, lines, fr, hR, h⟩
  have H := Lib.hid hR
  rcases h with ⟨n, h12, h13, hnf, rfl, hfit, hrun⟩ | ⟨e, h12, he, rfl, rfl⟩
  · have Hfit := Lib.hid hfit
    have Hrun := Lib.hid hrun
    cases n with
    | zero =>
      have hR0 : R = (6, lines) := hrun.symm
      have h13' : slotOf t 13 = .int .i64 fuel := by rw [h13]; simp
      subst hR0
      unfold ranBody
      conv => arg 2; whnf
      rw [frame473 t hF.size, hF.s2, hF.s3, hF.s4, hF.s8, hF.s9, h12, h13']
      generalize h11 : slotOf t 11 = vC at *
      have H11 := Lib.hid h11
      clear hR hfit hrun h12 h13 h13' hF h11
      go_wp2_with fail
      exact HQ.out _ _ ⟨rfl, rfl, rfl, rfl, rfl, rfl⟩ rfl ⟨ρ, vW, vL, words, fr, H.out⟩
    | succ n =>
      have hne : (fuel - ((n + 1 : Nat) : Int) == fuel) = false := by simp; omega
      have hfr := hfit.some_.1
      obtain ⟨f, a, r, rfl⟩ : ∃ f a r, fr = (f, a) :: r := by
        cases fr with
        | nil => simp [stateOf] at hfr
        | cons x r => exact ⟨x.1, x.2, r, rfl⟩
      unfold ranBody
      conv => arg 2; whnf
      rw [frame473 t hF.size, hF.s2, hF.s3, hF.s4, hF.s8, hF.s9, h12, h13]
      generalize h11 : slotOf t 11 = vC at *
      have hq0 : (0 : Int) ≤ fuel - ((n + 1 : Nat) : Int) := by omega
      have hq1 : fuel - ((n + 1 : Nat) : Int) ≤ 10000000 := by omega
      have Hq2 := Lib.hid (show fuel - ((n + 1 : Nat) : Int) + 1 = fuel - (n : Int) by omega)
      clear hR hfit hrun h12 h13 hF h11
      generalize fuel - ((n + 1 : Nat) : Int) = st at *
      refine wp_seq_k fun K hK => ?_
      have HK := Lib.hid hK
      clear hK
      go_wp2_with fail
      refine HK.out _ _ ?_
      refine wp_seq_k fun K2 hK2 => ?_
      have HK2 := Lib.hid hK2
      clear hK2
      refine wp_block ?_
      refine wp_seq_k fun K3 hK3 => ?_
      have HK3 := Lib.hid hK3
      clear hK3
      go_wp2_with fail
      refine HK3.out _ _ ?_
      show ranS13.wp _ _ _ _
      refine step_any _ ρ _ w fuel m base bp br bs v0 v1 vW vL _ p limit words lines f a r ⟨rfl, rfl, rfl, rfl, rfl, rfl⟩ rfl rfl H.out Hfit.out hs hl0 hl (Lib.hid ?_)
      rintro t' w' ⟨hF', h13', h12', ρ', vW', vL', fr', hR', hfr'⟩
      refine HK2.out _ _ ?_
      have h13'' : slotOf t' 13 = .int .i64 st := h13'
      generalize h11' : slotOf t' 11 = vC' at *
      rw [frame473 t' hF'.size, hF'.s2, hF'.s3, hF'.s4, hF'.s8, hF'.s9, h11', h12', h13'']
      have HR' := Lib.hid hR'
      have Hfr' := Lib.hid hfr'
      clear hR' hfr' h13' h12' h13'' hF' h11'
      generalize ho : stepF p m limit (stateOf words lines ((f, a) :: r)) = o at *
      have Ho := Lib.hid ho
      clear ho
      go_wp2_with fail
      have hst : stateOf o.2.words o.2.lines fr' = o.2 := by unfold stateOf; rw [Hfr'.out]
      by_cases hz : o.1 = 0
      · refine ⟨n + 1, by omega, _, rfl, ⟨rfl, rfl, rfl, rfl, rfl, rfl⟩, ρ', vW', vL', _, _, fr', HR'.out, Or.inl ⟨n, ?_, ?_, by omega, rfl, ?_, ?_⟩⟩
        · show Value.int .i64 o.1 = _
          rw [hz]
        · show Value.int .i64 (st + 1) = _
          rw [Hq2.out]
        · rw [hst, ← Ho.out]
          exact stepF_fits hs hn hl Hfit.out (by rw [Ho.out]; exact hz)
        · rw [hst, ← Hrun.out]
          show _ = (if (stepF p m limit (stateOf words lines ((f, a) :: r))).1 = 0 then _ else _)
          rw [Ho.out, if_pos hz]
      · refine ⟨0, by omega, _, rfl, ⟨rfl, rfl, rfl, rfl, rfl, rfl⟩, ρ', vW', vL', _, _, fr', HR'.out, Or.inr ⟨o.1, rfl, hz, rfl, ?_⟩⟩
        rw [← Hrun.out]
        show (if (stepF p m limit (stateOf words lines ((f, a) :: r))).1 = 0 then _ else _) = _
        rw [Ho.out, if_neg hz]
  · have hez : (e == 0) = false := by simpa using he
    unfold ranBody
    conv => arg 2; whnf
    rw [frame473 t hF.size, hF.s2, hF.s3, hF.s4, hF.s8, hF.s9, h12]
    generalize h11 : slotOf t 11 = vC at *
    generalize h13 : slotOf t 13 = v13 at *
    clear hR h12 hF h11 h13 he
    go_wp2_with fail
    exact HQ.out _ _ ⟨rfl, rfl, rfl, rfl, rfl, rfl⟩ rfl ⟨ρ, vW, vL, words, fr, H.out⟩
end Go.Proofs.Ytaomlfbcfmmhlaa

/-
  The reference's run (ref.ranOf): the contract.
-/
namespace Go.Proofs.Ytaomlfbcfmmhlaa
open Go.RowKit Go.Pst
set_option linter.unusedVariables false
set_option linter.unusedSimpArgs false

theorem start_fits {p : PProg} {m : Bool} {limit : Int} (hs : Sound p m) (hl : (p.data.length : Int) ≤ limit) (hd : ∀ x ∈ p.data, InI x) : Fits p m limit (startF p) := by
  have hco := hs.codes _ (codeAt_mem hs.some_.1)
  have h0 : ∀ n, ∀ x ∈ List.replicate n (0 : Int), InI x := fun n x hx => by rw [List.eq_of_mem_replicate hx]; exact ⟨by decide, by decide⟩
  refine ⟨by simp [startF], fun f hf => ?_, trivial, ⟨hd, hl⟩, by simp [startF]⟩
  have hf' : f = ⟨0, List.replicate (codeAt p 0).vars.toNat 0, List.replicate (codeAt p 0).slots.toNat 0, 0, 0, []⟩ := by simpa [startF] using hf
  subst hf'
  refine ⟨⟨hs.some_.1, by simp, by simp, h0 _, h0 _⟩, hco.nb.1, ?_⟩
  show 0 < ((codeAt p 0).blocks.getD 0 []).length
  have := (hco.blk ((codeAt p 0).blocks.getD 0 []) (by rw [List.getD_eq_getElem?_getD, List.getElem?_eq_getElem hco.nb.1]; exact List.getElem_mem hco.nb.1)).1
  omega
/-- What the reference's run answers. -/
def RanPost (base : Nat) (w0 : World) (R : Int × List ByteArray) (e : Ending) (w' : World) : Prop :=
  ∃ vL, e = .returned (.agg #[vL, .int .i64 R.1]) ∧ w'.ownsRow base 9 1 vL R.2.length (R.2.map Value.string) ∧ Below base w0 w'

set_option maxRecDepth 100000 in
set_option maxHeartbeats 4000000 in
theorem ranOf_core [Old] (p : PProg) (v0 v1 : Value) (heap fuel : Int) (m : Bool) (w : World) (hp : rProg (fun _ => True) w [v0, v1] p) (hs : Sound p m) (h1 : (p.data.length : Int) ≤ heap) (h2 : heap ≤ 20000) (h3 : 0 ≤ fuel) (h4 : fuel ≤ 10000000) (hn : ∀ f, LevOK p f → InI (instrAt p f).n) (hold : Below w.heap.size Old.w0 w) :
    Calls Try.prog 66 #[.agg #[v0, v1], .int .i64 heap, .int .i64 fuel, .bool m] w (RanPost w.heap.size Old.w0 (runF p m heap fuel.toNat (startF p))) := by
  have hpw : rProg (· < w.heap.size) w [v0, v1] p := Good.wide hp (fun k hk _ => hk)
  obtain ⟨v0', v1', hv, hc, hd⟩ := hp
  obtain ⟨rfl, rfl⟩ : v0 = v0' ∧ v1 = v1' := by simpa using hv
  obtain ⟨aD, cD, rfl, hd1, hd2, hd3⟩ := rInts_val hd
  obtain ⟨aF, cF, rfl, hc1, hc2, hc3⟩ := rCodes_val hc
  obtain ⟨i0, hi, hz0, hz1, hz2⟩ := info_parts info_int
  have hfu : fuel ≤ 9223372036854775807 := by omega
  have hdl := hs.data
  have Hdat := Lib.hid (show ∀ x ∈ p.data, InI x from fun x hx => by
    obtain ⟨i, hi, rfl⟩ := List.mem_iff_getElem.1 hx
    obtain ⟨_, _, _, _, _, _, hI⟩ := hd3 i hi
    exact hI)
  have Hd3 := Lib.hid hd3
  have Hpw := Lib.hid hpw
  clear hd3 hc3 hd hc hv hpw
  go_enter Try.func66, Try.ntmps66
  go_wp2_with fail
  go_loopw [10] (fun i wr => ∃ k : Nat, k ≤ p.data.length ∧ i = .int .i64 k ∧ ∃ ρ vW, RunAt ρ wr w.heap.size w.heap.size (w.heap.size + 1) (w.heap.size + 1 + 1) (.slice aF p.funcs.length cF) (.slice aD p.data.length cD) vW (.slice none 0 0) (.slice none 0 0) p heap (p.data.take k) [] []) (fun i _ => p.data.length - (intOf i).toNat)
  case atStart =>
    obtain ⟨ρ, h⟩ := RunAt.start (limit := heap) hold (w2 := ((w.alloc (.cells #[.slice aF p.funcs.length cF, .slice aD p.data.length cD] 27)).alloc (.cells #[.slice none 0 0, .int .i64 0] 51)).alloc (.cells #[.slice none 0 0, .int .i64 heap, .slice none 0 0] 81)) Hpw.out (((Since.alloc _ _ _).trans (Since.alloc _ _ _)).trans (Since.alloc _ _ _)) (by simp) (box3_1 _ _ _ _ _ 0) (box3_1 _ _ _ _ _ 1) (box3_2 _ _ _ _ _ 0) (box3_2 _ _ _ _ _ 1) (froz3_2 _ _ _ _ _ 0) (froz3_2 _ _ _ _ _ 1) (box3_3 _ _ _ _ _ 0) (box3_3 _ _ _ _ _ 1) (box3_3 _ _ _ _ _ 2) (froz3_3 _ _ _ _ _ 0) (froz3_3 _ _ _ _ _ 2)
    exact ⟨0, Nat.zero_le _, rfl, ρ, _, h⟩
  case round =>
    obtain ⟨k, hk, rfl, ρ, vW, hR⟩ := hrel
    have c1 := hR.p1
    by_cases hlt : k < p.data.length
    · have hlt1 : (k : Int) < p.data.length := by omega
      have hk0 : (0 : Int) ≤ k := by omega
      obtain ⟨aX, cX, rfl, hx1, hx2⟩ := row_slice hR.scene.oW
      have c0 := hR.scene.c0
      have f0 := hR.scene.f0
      have hown := hR.scene.oW
      obtain ⟨bD, off, rfl, hb1, hb2, hcd, hIn⟩ : ∃ bD off, aD = some ⟨bD, off, none⟩ ∧ bD < w.heap.size ∧ bD < wr.heap.size ∧ wr.cell? ⟨bD, off + k, none⟩ = some (.int .i64 p.data[k]) ∧ InI p.data[k] := by
        obtain ⟨u0, u1, hv, -, hd⟩ := hR.prog
        obtain ⟨rfl, rfl⟩ : _ = u0 ∧ _ = u1 := by simpa using hv
        obtain ⟨a, c, hv, -, -, h⟩ := rInts_val hd
        obtain ⟨b, off, rfl, hS, hb, hc, hI⟩ := h k hlt
        exact ⟨b, off, by simpa using (Value.slice.inj hv).1, hS, hb, hc, hI⟩
      have htl : (p.data.take k).length = k := by simp; omega
      have Htk := Lib.hid (show p.data.take k ++ [p.data[k]] = p.data.take (k + 1) by rw [List.take_succ_eq_append_getElem hlt])
      have HR := Lib.hid hR
      have big := hR.big
      have hsz := hR.scene.lt.2
      have hfz : ∀ o, (wr.alloc o).drew.frozen? ⟨w.heap.size + 1 + 1, 0, none⟩ = false := fun o => (World.frozen?_of_block (w := wr) (Below.heap_alloc _ _ _ hsz)).trans f0
      have n1 : some (w.heap.size + 1 + 1) ≠ (Value.slice aX (p.data.take k).length cX).ownBlock := fun e => hR.scene.nW (by rw [htl] at e ⊢; exact e.symm)
      have n2 : some w.heap.size ≠ (Value.slice aX (p.data.take k).length cX).ownBlock := fun e => by have := hR.lw _ e.symm; rw [hR.lp.1] at this; simp at this
      have n3 : some bD ≠ (Value.slice aX (p.data.take k).length cX).ownBlock := fun e => by have := (hR.scene.oW.lt _ e.symm).1; omega
      clear hR hIn
      generalize p.data[k] = x at *
      generalize p.data.take k = ws at *
      subst htl
      go_wp2_with fail
      have hcl : ∀ (o : Obj) (b j : Nat), b < wr.heap.size → (wr.alloc o).cell? ⟨b, j, none⟩ = wr.cell? ⟨b, j, none⟩ := fun o b j h => World.cell?_alloc_lt _ _ _ h
      go_region_law (first
        | (refine step_append_lies _ (by rfl) _ _ _ (by rfl) w.heap.size 3 i0 (.int .i64 0) 1 8 Try.underlying25 hi hz0 hz1 hz2 rfl (by decide) _ _ _ (by rfl) ((hown.alloc _).drew)
            ⟨wr.heap.size, 0, none⟩ 1 1 [.int .i64 x] (by rfl) (by rfl) (World.news_of_block (cs := #[.int .i64 x]) (t := 3) (fr := (0, 0)) (heap_alloc_new wr _)) (ints_oneCell .i64 [x])
            (by decide) (by unfold maxLen; omega) (by omega) (by simp; omega) (wr.heap.size + 1) (by simp) ?_; intro gg cap w1 hown1 hgrow hat hlt2; have k0 : w1.cell? ⟨w.heap.size + 1 + 1, 0, none⟩ = some (.slice aX ws.length cX) := (hgrow.cell_far _ (by simp; omega) n1).trans ((hcl _ _ _ hsz).trans c0); have k1 : w1.frozen? ⟨w.heap.size + 1 + 1, 0, none⟩ = false := (hgrow.frozen_far _ (by simp; omega) n1).trans (hfz _)))
      all_goals (go_wp2_with fail; obtain ⟨ρ', hq⟩ := HR.out.pushW hgrow hown1 hat; exact ⟨⟨ws.length + 1, by omega, by simp, ρ', _, Htk.out ▸ hq⟩, by simp only [intOf]; omega⟩)
    · have hke : k = p.data.length := by omega
      have hR' : RunAt ρ wr w.heap.size w.heap.size (w.heap.size + 1) (w.heap.size + 1 + 1) (.slice aF p.funcs.length cF) (.slice aD p.data.length cD) vW (.slice none 0 0) (.slice none 0 0) p heap p.data [] [] := by
        have := hR
        rw [hke, List.take_length] at this
        exact this
      have c0 := hR.p0
      have hlp := hR.lp.2
      have h0 := hs.some_.1
      obtain ⟨bF, oF, rfl, hF1, hF2, hv, hsl⟩ : ∃ bF oF, aF = some ⟨bF, oF, none⟩ ∧ bF < w.heap.size ∧ bF < wr.heap.size ∧ wr.cell? ⟨bF, oF + 3, none⟩ = some (.int .i64 p.funcs[0].vars) ∧ wr.cell? ⟨bF, oF + 4, none⟩ = some (.int .i64 p.funcs[0].slots) := by
        obtain ⟨u0, u1, hv, hc, -⟩ := hR.prog
        obtain ⟨rfl, rfl⟩ : _ = u0 ∧ _ = u1 := by simpa using hv
        obtain ⟨a, c, hv, -, -, h⟩ := rSlice_val hc
        obtain ⟨b, off, es, rfl, hS, hb, hl, hcl, v5, rfl, -⟩ := h 0 h0
        have := hcl 3 (by decide)
        have := hcl 4 (by decide)
        exact ⟨b, off, by simpa using (Value.slice.inj hv).1, hS, hb, by simpa using hcl 3 (by decide), by simpa using hcl 4 (by decide)⟩
      have hco := hs.codes _ (List.getElem_mem h0)
      obtain ⟨q1, q2, q3, q4⟩ := hco.small
      have HR := Lib.hid hR'
      clear hR hR' hlt hco
      subst hke
      have Hst := Lib.hid (show startF p = ⟨p.data, [], [⟨0, List.replicate p.funcs[0].vars.toNat 0, List.replicate p.funcs[0].slots.toNat 0, 0, 0, []⟩]⟩ by unfold startF; rw [codeAt_eq h0])
      generalize p.funcs[0] = cc at *
      obtain ⟨nv, hnv⟩ := Int.eq_ofNat_of_zero_le q1
      obtain ⟨ns, hns⟩ := Int.eq_ofNat_of_zero_le q3
      rw [hnv] at hv q1 q2 Hst
      rw [hns] at hsl q3 q4 Hst
      clear hnv hns
      have hmv := make_ints nv (by omega)
      have hms := make_ints ns (by omega)
      have d0 : ∀ o, (wr.alloc o).cell? ⟨w.heap.size, 0, none⟩ = some (.slice (some ⟨bF, oF, none⟩) p.funcs.length cF) := fun o => (World.cell?_alloc_lt _ _ _ hlp).trans c0
      have dv : ∀ o, (wr.alloc o).cell? ⟨bF, oF + 3, none⟩ = some (.int .i64 nv) := fun o => (World.cell?_alloc_lt _ _ _ hF2).trans hv
      have ds : ∀ o, (wr.alloc o).cell? ⟨bF, oF + 4, none⟩ = some (.int .i64 ns) := fun o => (World.cell?_alloc_lt _ _ _ hF2).trans hsl
      go_upto_region 6 with fail
      go_cut [11] from 56 to 69 (fun s11 wx => ∃ g gv gs, s11 = .slice (some ⟨g, 0, none⟩) 1 1 ∧ Since (fun _ => False) wr wx ∧ wx.heap[g]? = some (.cells #[.int .i64 0, .slice (some ⟨gv, 0, none⟩) nv nv, .slice (some ⟨gs, 0, none⟩) ns ns, .int .i64 0, .int .i64 0, .slice none 0 0] 83) ∧
        wx.heap[gv]? = some (.cells (zeros nv) 3) ∧ wx.heap[gs]? = some (.cells (zeros ns) 3) ∧ wr.heap.size ≤ g ∧ wr.heap.size ≤ gv ∧ wr.heap.size ≤ gs ∧ gv ≠ gs ∧ g ≠ gv ∧ g ≠ gs)
      case first =>
        go_region_held3 (fun w' => w'.cell? ⟨w.heap.size, 0, none⟩ = some (.slice (some ⟨bF, oF, none⟩) p.funcs.length cF) ∧ w'.cell? ⟨bF, oF + 3, none⟩ = some (.int .i64 nv) ∧ w'.cell? ⟨bF, oF + 4, none⟩ = some (.int .i64 ns)) (go_keep) (fail)
        all_goals (go_wp2_with fail; go_meet; obtain ⟨k1, k2, k3, k4⟩ := heap3 wr _ _ _)
        · exact ⟨_, _, _, rfl, k4, k3, k1, k2, by omega, by omega, by omega, by omega, by omega, by omega⟩
        · exact ⟨_, _, _, rfl, k4, k3, k2, k1, by omega, by omega, by omega, by omega, by omega, by omega⟩
      case rest =>
        obtain ⟨g, gv, gs, rfl, k1, k2, k3, k4, k5, k6, k7, k8, k9, k10⟩ := hcut
        obtain ⟨ρ1, hR1⟩ := HR.out.first (f := ⟨0, List.replicate nv 0, List.replicate ns 0, 0, 0, []⟩) (a := ⟨gv, gs, .slice none 0 0⟩) k1 ⟨by simp [levCells], Or.inr ⟨g, 1, _, rfl, by have := HR.out.big; omega, k2, by omega, by decide, by simp, by simp [levCells]⟩⟩
          (zeros_row k3 (by have := HR.out.big; simp only []; omega) (by omega)) (zeros_row k4 (by have := HR.out.big; simp only []; omega) (by omega)) k5 k6 k7 k8 k9 k10 (rSlice_nil _ _ _ _)
        have HR1 := Lib.hid hR1
        clear hR1 HR k1 k2 k3 k4 k5 k6 k7 k8 k9 k10 c1 c0 hv hsl d0 dv ds hmv hms hi hz0 hz1 hz2
        go_wp2_with fail
        generalize hR : runF p m heap fuel.toNat (startF p) = R at *
        have HRR := Lib.hid hR
        clear hR
        show ranLoop.wp _ _ _ _
        refine loop_any _ _ _ fuel m w.heap.size w.heap.size (w.heap.size + 1) (w.heap.size + 1 + 1) _ _ p heap R (fuel.toNat + 1) ⟨_, rfl, ⟨rfl, rfl, rfl, rfl, rfl, rfl⟩, ρ1, _, _, _, _, _, HR1.out, Or.inl ⟨fuel.toNat, rfl, ?_, by omega, rfl, ?_, ?_⟩⟩ hs (by omega) (by omega) h3 (by omega) hn (Lib.hid ?_)
        · show Value.int .i64 0 = .int .i64 (fuel - (fuel.toNat : Int))
          rw [show fuel - (fuel.toNat : Int) = 0 by omega]
        · have := start_fits hs h1 Hdat.out
          rw [Hst.out] at this
          exact this
        · rw [← HRR.out, Hst.out]
          rfl
        · rintro t' w' hF h12 ⟨ρ', vW', vL', words', fr', hR'⟩
          rename_i K hK
          show K _ _
          refine hK _ _ ?_
          have c0 := hR'.r0
          have c1 := hR'.r1
          have f0 := hR'.rf0
          have f1 := hR'.rf1
          obtain ⟨aL, cL, rfl, hL1, hL2⟩ := row_slice hR'.scene.oL
          have s2 := hR'.scene.c2
          have HF := Lib.hid hR'
          rw [frame473 t' hF.size, hF.s2, hF.s3, hF.s4, hF.s8, hF.s9, h12]
          clear hR' hF h12
          go_wp2_with fail
          have g0 := (World.cell?_setCell_other (w := w'.setCell ⟨w.heap.size + 1, 0, none⟩ (.slice aL R.2.length cL)) (a := ⟨w.heap.size + 1, 1, none⟩) (v := .int .i64 R.1) (b := ⟨w.heap.size + 1, 0, none⟩) (h := by simp)).trans (World.cell?_setCell_same w' ⟨w.heap.size + 1, 0, none⟩ (.slice aL R.2.length cL) c0)
          have c1' := (World.cell?_setCell_other (w := w') (a := ⟨w.heap.size + 1, 0, none⟩) (v := .slice aL R.2.length cL) (b := ⟨w.heap.size + 1, 1, none⟩) (h := by simp)).trans c1
          have g1 := World.cell?_setCell_same _ _ (.int .i64 R.1) c1'
          have sS := (Since.setCell w' ⟨w.heap.size + 1, 0, none⟩ (.slice aL R.2.length cL)).trans (Since.setCell (w'.setCell ⟨w.heap.size + 1, 0, none⟩ (.slice aL R.2.length cL)) ⟨w.heap.size + 1, 1, none⟩ (.int .i64 R.1))
          have SS := Lib.hid sS
          clear sS c0 c1 c1' f0 f1 s2
          refine bodyPost_ret (v := .agg #[.slice aL R.2.length cL, .int .i64 R.1]) (by simp [results, Try.results66, go_sem, g0, g1]) rfl ⟨_, rfl, ?_, ?_⟩
          · refine SS.out.row HF.out.scene.oL (fun k hk e => ?_)
            have h1 := HF.out.ll k hk
            have h2 := HF.out.lr.1
            rw [show k = w.heap.size + 1 from e, h2] at h1
            simp at h1
          · exact HF.out.below.trans (SS.out.below HF.out.big (fun k e => by rw [show k = w.heap.size + 1 from e]; omega))
theorem ranOf_any (p : PProg) (v0 v1 : Value) (heap fuel : Int) (m : Bool) (w : World) (hp : rProg (fun _ => True) w [v0, v1] p) (hs : Sound p m) (h1 : (p.data.length : Int) ≤ heap) (h2 : heap ≤ 20000) (h3 : 0 ≤ fuel) (h4 : fuel ≤ 10000000) (hn : ∀ f, LevOK p f → InI (instrAt p f).n) :
    Calls Try.prog 66 #[.agg #[v0, v1], .int .i64 heap, .int .i64 fuel, .bool m] w (RanPost w.heap.size w (runF p m heap fuel.toNat (startF p))) :=
  @ranOf_core ⟨w⟩ p v0 v1 heap fuel m w hp hs h1 h2 h3 h4 hn (Below.refl _ _)
end Go.Proofs.Ytaomlfbcfmmhlaa

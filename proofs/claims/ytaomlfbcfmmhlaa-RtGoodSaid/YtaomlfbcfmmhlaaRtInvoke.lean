/-
  rt's maker: invoke of one result, walked.
-/
import Derived.Test.YtaomlfbcfmmhlaaRtEnd
namespace Go.Proofs.Ytaomlfbcfmmhlaa
open Go.RowKit Go.Pst
set_option linter.unusedVariables false
set_option linter.unusedSimpArgs false

variable {B bm n k : Nat} {w0 w : World} {l : List (Nat × Nat × Value)} {c : PCode}
theorem fresh_exact {v : Int} (c3 : w.cell? ⟨bm, 3, none⟩ = some (.int .i64 v)) (z3 : w.frozen? ⟨bm, 3, none⟩ = false) (hv : 0 ≤ v ∧ v ≤ 1000000) :
    Calls Try.prog 42 #[.pointer (some ⟨bm, 0, none⟩)] w fun e w' => e = .returned (.int .i64 v) ∧ w' = w.setCell ⟨bm, 3, none⟩ (.int .i64 (v + 1)) := by
  obtain ⟨hv1, hv2⟩ := hv
  go_enter Try.func42, Try.ntmps42
  go_wp2_with fail
  go_ret
  exact ⟨ret_int (by omega), rfl⟩
theorem infoInt : (Try.prog.info? 3).map (fun i => (i.zero, i.size, i.bytes)) = some (some (.int .i64 0), 1, 8) := by kernel_rfl
def invokeF (c : PCode) (k : Nat) (name : ByteArray) (a : List Int) : PCode := addF (freshF c) k ⟨7, [c.vars], a, 0, name, []⟩
set_option maxHeartbeats 4000000 in
theorem invoke_any {w1 : World} {name : ByteArray} {aA : Option Addr} {nA cA : Nat} {a : List Int} (hn : name.size ≤ maxLen) (h : Env B w0 bm l (n + 2) c k w1) (hbw : Below w1.heap.size w1 w) (ha : rInts (fun x => w1.heap.size ≤ x) w [.slice aA nA cA] a) :
    Calls Try.prog 53 #[.pointer (some ⟨bm, 0, none⟩), .string name, .int .i64 1, .slice aA nA cA] w fun e w' => ∃ g cap, e = .returned (.slice (some ⟨g, 0, none⟩) 1 cap) ∧ w'.cell? ⟨g, 0, none⟩ = some (.int .i64 c.vars) ∧ Env B w0 bm l n (invokeF c k name a) k w' := by
  have hv := h.fine.vars
  obtain ⟨X, M, ⟨gB, cB, vs, hc⟩, hf, hl, hb, hB, hM⟩ := h
  have hx := hc.x_.2.2
  have hcw := hc.below hbw
  have c3 : w.cell? ⟨bm, 3, none⟩ = some (.int .i64 c.vars) := by simpa using hcw.c3
  have z3 := hcw.z 3
  obtain ⟨i0, hi0, hz0, hz1, hz2⟩ := info_parts infoInt
  have Hc := Lib.hid hc
  have Hcw := Lib.hid hcw
  have Hf := Lib.hid hf
  have Hl := Lib.hid hl
  have Hb := Lib.hid hb
  have HB := Lib.hid hbw
  have HA := Lib.hid ha
  clear hc hcw hf hl hb hbw ha
  go_enter Try.func53, Try.ntmps53
  go_wp2_with fail
  go_loopw [9, 11] (fun v i wr => (v = .slice none 0 0 ∧ i = .int .i64 0 ∧ wr = w) ∨ ∃ g cap, v = .slice (some ⟨g, 0, none⟩) 1 cap ∧ i = .int .i64 1 ∧ wr.ownsRow 0 3 1 (.slice (some ⟨g, 0, none⟩) 1 cap) 1 [.int .i64 c.vars] ∧ w.heap.size ≤ g ∧ g < wr.heap.size ∧ Since (fun _ => False) (w.setCell ⟨bm, 3, none⟩ (.int .i64 (c.vars + 1))) wr) (fun _ i _ => 1 - (intOf i).toNat)
  case atStart => exact Or.inl ⟨rfl, rfl, rfl⟩
  case round =>
    rcases hrel with ⟨rfl, rfl, hw⟩ | ⟨g, cap, rfl, rfl, hg, hgs, hgl, hsn⟩
    · subst hw
      go_wp2_with fail
      refine (fresh_exact c3 z3 ⟨by omega, by omega⟩).mono ?_
      rintro e w2 ⟨rfl, hw2⟩
      have HW2 := Lib.hid hw2
      clear hw2
      go_wp2_with (at_builtin; refine wpList_append_own_at _ rfl _ _ 25 rfl 0 3 i0 (.int .i64 0) 1 8 Try.underlying25 hi0 hz0 hz1 hz2 rfl (by decide) (.slice none 0 0) 0 [] rfl ⟨rfl, Or.inl ⟨rfl, rfl⟩⟩ ⟨w2.heap.size, 0, none⟩ 1 1 [.int .i64 c.vars] rfl rfl (cell_one_new _ _ _) (by intro u hu; simp at hu; subst hu; rfl) (by unfold maxLen; omega) (by omega) (Nat.zero_le _) ?_; intro v' w3 hown hgrow hnil hat; clear hnil; obtain ⟨g, cap, hv'⟩ : ∃ g' c', v' = .slice (some ⟨g', 0, none⟩) (0 + 1) c' := row_some hown; subst hv')
      have hw2 := HW2.out
      have hs2 : w2.heap.size = wr.heap.size := by rw [hw2]; simp
      have hgz : g = w2.heap.size + 1 := by
        simp [Value.ownBlock] at hat
        omega
      have hsz := (hown.lt g rfl).2
      refine ⟨Or.inr ⟨g, cap, rfl, rfl, ?_, by omega, hsz, ?_⟩, by simp [intOf]⟩
      · exact hown
      · rw [← hw2]
        exact ((Since.alloc _ _ _).trans ((Since.grown hgrow).mono (fun x hx => by simp [Value.ownBlock] at hx)))
    · go_wp2_with fail
      have hcw := Hcw.out
      have hbn := hsn.below (Nat.le_refl _) (fun x hx => hx.elim)
      have hfit := hcw.fit
      have hbm := hcw.lt
      have hc1 := hcw.setBox 3 (.int .i64 (c.vars + 1)) (freshF c) k (by decide) rfl hcw.at_ ⟨hfit.1, hfit.2.1, hfit.2.2.1, ⟨by show _ ≤ c.vars + 1; omega, by show c.vars + 1 ≤ _; omega⟩, hfit.2.2.2.2⟩ rfl rfl rfl rfl rfl rfl
      have hc2 := hc1.below hbn
      have hsS : Since M w wr := (Since.setCell w ⟨bm, 3, none⟩ (.int .i64 (c.vars + 1))).mono (fun x hx => by rw [hx]; exact hcw.m_box) |>.trans (hsn.mono (fun _ h => h.elim))
      have hgM : ¬ M g := fun m => by have := hcw.m_lt m; omega
      have haM : rInts (fun x => ¬ M x) wr [.slice aA nA cA] a := Good.keep (S := fun x => w1.heap.size ≤ x ∧ ¬ M x) ⟨hsS.size, fun x hx hS => hsS.block x hx hS.2⟩ (fun x _ hS => hS.2) (Good.wide HA.out (fun x _ hS => ⟨hS, fun m => by have := Hc.out.m_lt m; omega⟩))
      have hdM : rInts (fun x => ¬ M x) wr [.slice (some ⟨g, 0, none⟩) 1 cap] [c.vars] := rSlice_own hg (fun x hx => by simp [Value.ownBlock] at hx; rw [← hx]; exact hgM) (fun i hi => ⟨.int .i64 c.vars, by simp at hi; subst hi; rfl, by simp at hi; subst hi; exact ⟨rfl, hfit.2.2.2.1⟩⟩)
      have hb0 := Hb.out
      have hB2 := HB.out
      have s0 := hb0.size
      have s1 := hB2.size
      have hl2 : ∀ p ∈ l, X p.1 ∧ wr.cell? ⟨p.1, p.2.1, none⟩ = some p.2.2 ∧ wr.frozen? ⟨p.1, p.2.1, none⟩ = false := fun p hp => by
        obtain ⟨l1, l3⟩ := Hl.out p hp
        have l2 := hx _ l1
        have l4 : ¬ (p.1 = bm) := fun e => hcw.x_.1 (e ▸ l1)
        have hsT : Since (fun x => x = bm) w wr := (Since.setCell w ⟨bm, 3, none⟩ (.int .i64 (c.vars + 1))).trans (hsn.mono (fun _ h => h.elim))
        exact ⟨l1, (hsT.cell (by omega) l4).trans ((hB2.cell (p := ⟨p.1, p.2.1, none⟩) l2).trans l3.1), (hsT.frozen (by omega) l4).trans ((hB2.frozen (p := ⟨p.1, p.2.1, none⟩) l2).trans l3.2)⟩
      have hX := hcw.x_.1
      have hb2 : Below B w0 wr := (hb0.trans (hB2.mono (by omega))).trans (((Since.setCell w ⟨bm, 3, none⟩ (.int .i64 (c.vars + 1))).trans (hsn.mono (fun _ h => h.elim))).below (by omega) (fun x hx => by simp at hx; rw [hx]; exact Nat.le_of_not_lt fun h => hX (hM _ h)))
      have hcg : wr.cell? ⟨g, 0, none⟩ = some (.int .i64 c.vars) := by
        rcases hg.2 with ⟨h, _⟩ | ⟨g2, c2, cur, hv2, _, hgx, _, _, _, ht⟩
        · cases h
        · injection hv2 with h1 _ _
          injection h1 with h1
          injection h1 with h1
          subst h1
          have : cur.toList[0]? = some (Value.int .i64 c.vars) := by
            have := congrArg (fun l => l[0]?) ht
            simpa [List.getElem?_take] using this
          simpa [World.cell?, hgx] using this
      refine (add_anyM hc2 Hf.out.fresh hl2 hb2 hB hM (lit_instr (ini rfl) (ini rfl) hn hdM haM (rSlice_nil _ _ _ _))).mono ?_
      rintro e w4 ⟨rfl, h4, h5⟩
      have H5 := Lib.hid h5
      clear h5
      have H4 := Lib.hid h4
      go_wp2_with fail
      refine bodyPost_ret (v := .slice (some ⟨g, 0, none⟩) 1 cap) (by simp [results, Try.results53, go_sem]) rfl ?_
      exact ⟨g, cap, rfl, (H5.out.cell hgl (fun f => hgM f.1)).trans hcg, H4.out⟩
end Go.Proofs.Ytaomlfbcfmmhlaa

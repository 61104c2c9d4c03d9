/-
  Texts joined: RanOf InstrFault CodeFault Heads WholeFault.
-/
import Derived.Test.YtaomlfbcfmmhlaaDoorVE
import Derived.Deep.DeepCutAuto
import Derived.Deep.CutBlock
import Derived.Deep.RegionHeld3
import Derived.Deep.RegionLaw
import Derived.Deep.AppendLies
import Derived.Deep.DrawnRows
import Derived.Test.YtaomlfbcfmmhlaaDoorVA
import Derived.StillTailTactics
import Derived.Deep.RegionWith

/-
  The reference's run (ref.ranOf): the contract.
-/
namespace Go.Proofs.YtaomlfbcfmmhlaaDoor
open Go.RowKit Go.Pst
set_option linter.unusedVariables false
set_option linter.unusedSimpArgs false

theorem start_fits {p : PProg} {m : Bool} {limit : Int} (hs : Sound p m) (hl : (p.data.length : Int) ≤ limit) (hd : ∀ x ∈ p.data, InI x) : Fits p m limit (startF p) := by
  have hco := hs.codes _ (codeAt_mem hs.some_.1)
  have h0 : ∀ n, ∀ x ∈ List.replicate n (0 : Int), InI x := fun n x hx => by rw [List.eq_of_mem_replicate hx]; exact ⟨by decide, by decide⟩
  refine ⟨by simp [startF], fun f hf => ?_, trivial, ⟨hd, hl⟩, by simp [startF]⟩
  have hf' : f = ⟨0, List.replicate (codeAt p 0).vars.toNat 0, List.replicate (codeAt p 0).slots.toNat 0, 0, 0, []⟩ := by simpa [startF] using hf
  subst hf'
  refine ⟨⟨hs.some_.1, by simp, by simp, h0 _, h0 _⟩, hco.nb.1, ?_⟩
  show 0 < ((codeAt p 0).blocks.getD 0 []).length
  have := (hco.blk ((codeAt p 0).blocks.getD 0 []) (by rw [List.getD_eq_getElem?_getD, List.getElem?_eq_getElem hco.nb.1]; exact List.getElem_mem hco.nb.1)).1
  omega
/-- What the reference's run answers. -/
def RanPost (base : Nat) (w0 : World) (R : Int × List ByteArray) (e : Ending) (w' : World) : Prop :=
  ∃ vL, e = .returned (.agg #[vL, .int .i64 R.1]) ∧ w'.ownsRow base 9 1 vL R.2.length (R.2.map Value.string) ∧ Below base w0 w'

set_option maxRecDepth 100000 in
set_option maxHeartbeats 4000000 in
theorem ranOf_core [Old] (p : PProg) (v0 v1 : Value) (heap fuel : Int) (m : Bool) (w : World) (hp : rProg (fun _ => True) w [v0, v1] p) (hs : Sound p m) (h1 : (p.data.length : Int) ≤ heap) (h2 : heap ≤ 20000) (h3 : 0 ≤ fuel) (h4 : fuel ≤ 10000000) (hn : ∀ f, LevOK p f → InI (instrAt p f).n) (hold : Below w.heap.size Old.w0 w) :
    Calls Tryd.prog 64 #[.agg #[v0, v1], .int .i64 heap, .int .i64 fuel, .bool m] w (RanPost w.heap.size Old.w0 (runF p m heap fuel.toNat (startF p))) := by
  have hpw : rProg (· < w.heap.size) w [v0, v1] p := Good.wide hp (fun k hk _ => hk)
  obtain ⟨v0', v1', hv, hc, hd⟩ := hp
  obtain ⟨rfl, rfl⟩ : v0 = v0' ∧ v1 = v1' := by simpa using hv
  obtain ⟨aD, cD, rfl, hd1, hd2, hd3⟩ := rInts_val hd
  obtain ⟨aF, cF, rfl, hc1, hc2, hc3⟩ := rCodes_val hc
  obtain ⟨i0, hi, hz0, hz1, hz2⟩ := info_parts info_int
  have hfu : fuel ≤ 9223372036854775807 := by omega
  have hdl := hs.data
  have Hdat := Lib.hid (show ∀ x ∈ p.data, InI x from fun x hx => by
    obtain ⟨i, hi, rfl⟩ := List.mem_iff_getElem.1 hx
    obtain ⟨_, _, _, _, _, _, hI⟩ := hd3 i hi
    exact hI)
  have Hd3 := Lib.hid hd3
  have Hpw := Lib.hid hpw
  clear hd3 hc3 hd hc hv hpw
  go_enter Tryd.func64, Tryd.ntmps64
  go_wp2_with fail
  go_loopw [10] (fun i wr => ∃ k : Nat, k ≤ p.data.length ∧ i = .int .i64 k ∧ ∃ ρ vW, RunAt ρ wr w.heap.size w.heap.size (w.heap.size + 1) (w.heap.size + 1 + 1) (.slice aF p.funcs.length cF) (.slice aD p.data.length cD) vW (.slice none 0 0) (.slice none 0 0) p heap (p.data.take k) [] []) (fun i _ => p.data.length - (intOf i).toNat)
  case atStart =>
    obtain ⟨ρ, h⟩ := RunAt.start (limit := heap) hold (w2 := ((w.alloc (.cells #[.slice aF p.funcs.length cF, .slice aD p.data.length cD] 25)).alloc (.cells #[.slice none 0 0, .int .i64 0] 41)).alloc (.cells #[.slice none 0 0, .int .i64 heap, .slice none 0 0] 162)) Hpw.out (((Since.alloc _ _ _).trans (Since.alloc _ _ _)).trans (Since.alloc _ _ _)) (by simp) (box3_1 _ _ _ _ _ 0) (box3_1 _ _ _ _ _ 1) (box3_2 _ _ _ _ _ 0) (box3_2 _ _ _ _ _ 1) (froz3_2 _ _ _ _ _ 0) (froz3_2 _ _ _ _ _ 1) (box3_3 _ _ _ _ _ 0) (box3_3 _ _ _ _ _ 1) (box3_3 _ _ _ _ _ 2) (froz3_3 _ _ _ _ _ 0) (froz3_3 _ _ _ _ _ 2)
    exact ⟨0, Nat.zero_le _, rfl, ρ, _, h⟩
  case round =>
    obtain ⟨k, hk, rfl, ρ, vW, hR⟩ := hrel
    have c1 := hR.p1
    by_cases hlt : k < p.data.length
    · have hlt1 : (k : Int) < p.data.length := by omega
      have hk0 : (0 : Int) ≤ k := by omega
      obtain ⟨aX, cX, rfl, hx1, hx2⟩ := row_slice hR.scene.oW
      have c0 := hR.scene.c0
      have f0 := hR.scene.f0
      have hown := hR.scene.oW
      obtain ⟨bD, off, rfl, hb1, hb2, hcd, hIn⟩ : ∃ bD off, aD = some ⟨bD, off, none⟩ ∧ bD < w.heap.size ∧ bD < wr.heap.size ∧ wr.cell? ⟨bD, off + k, none⟩ = some (.int .i64 p.data[k]) ∧ InI p.data[k] := by
        obtain ⟨u0, u1, hv, -, hd⟩ := hR.prog
        obtain ⟨rfl, rfl⟩ : _ = u0 ∧ _ = u1 := by simpa using hv
        obtain ⟨a, c, hv, -, -, h⟩ := rInts_val hd
        obtain ⟨b, off, rfl, hS, hb, hc, hI⟩ := h k hlt
        exact ⟨b, off, by simpa using (Value.slice.inj hv).1, hS, hb, hc, hI⟩
      have htl : (p.data.take k).length = k := by simp; omega
      have Htk := Lib.hid (show p.data.take k ++ [p.data[k]] = p.data.take (k + 1) by rw [List.take_succ_eq_append_getElem hlt])
      have HR := Lib.hid hR
      have big := hR.big
      have hsz := hR.scene.lt.2
      have hfz : ∀ o, (wr.alloc o).drew.frozen? ⟨w.heap.size + 1 + 1, 0, none⟩ = false := fun o => (World.frozen?_of_block (w := wr) (Below.heap_alloc _ _ _ hsz)).trans f0
      have n1 : some (w.heap.size + 1 + 1) ≠ (Value.slice aX (p.data.take k).length cX).ownBlock := fun e => hR.scene.nW (by rw [htl] at e ⊢; exact e.symm)
      have n2 : some w.heap.size ≠ (Value.slice aX (p.data.take k).length cX).ownBlock := fun e => by have := hR.lw _ e.symm; rw [hR.lp.1] at this; simp at this
      have n3 : some bD ≠ (Value.slice aX (p.data.take k).length cX).ownBlock := fun e => by have := (hR.scene.oW.lt _ e.symm).1; omega
      clear hR hIn
      generalize p.data[k] = x at *
      generalize p.data.take k = ws at *
      subst htl
      go_wp2_with fail
      have hcl : ∀ (o : Obj) (b j : Nat), b < wr.heap.size → (wr.alloc o).cell? ⟨b, j, none⟩ = wr.cell? ⟨b, j, none⟩ := fun o b j h => World.cell?_alloc_lt _ _ _ h
      go_region_law (first
        | (refine step_append_lies _ (by rfl) _ _ _ (by rfl) w.heap.size 3 i0 (.int .i64 0) 1 8 Tryd.underlying23 hi hz0 hz1 hz2 rfl (by decide) _ _ _ (by rfl) ((hown.alloc _).drew)
            ⟨wr.heap.size, 0, none⟩ 1 1 [.int .i64 x] (by rfl) (by rfl) (World.news_of_block (cs := #[.int .i64 x]) (t := 3) (fr := (0, 0)) (heap_alloc_new wr _)) (ints_oneCell .i64 [x])
            (by decide) (by unfold maxLen; omega) (by omega) (by simp; omega) (wr.heap.size + 1) (by simp) ?_; intro gg cap w1 hown1 hgrow hat hlt2; have k0 : w1.cell? ⟨w.heap.size + 1 + 1, 0, none⟩ = some (.slice aX ws.length cX) := (hgrow.cell_far _ (by simp; omega) n1).trans ((hcl _ _ _ hsz).trans c0); have k1 : w1.frozen? ⟨w.heap.size + 1 + 1, 0, none⟩ = false := (hgrow.frozen_far _ (by simp; omega) n1).trans (hfz _)))
      all_goals (go_wp2_with fail; obtain ⟨ρ', hq⟩ := HR.out.pushW hgrow hown1 hat; exact ⟨⟨ws.length + 1, by omega, by simp, ρ', _, Htk.out ▸ hq⟩, by simp only [intOf]; omega⟩)
    · have hke : k = p.data.length := by omega
      have hR' : RunAt ρ wr w.heap.size w.heap.size (w.heap.size + 1) (w.heap.size + 1 + 1) (.slice aF p.funcs.length cF) (.slice aD p.data.length cD) vW (.slice none 0 0) (.slice none 0 0) p heap p.data [] [] := by
        have := hR
        rw [hke, List.take_length] at this
        exact this
      have c0 := hR.p0
      have hlp := hR.lp.2
      have h0 := hs.some_.1
      obtain ⟨bF, oF, rfl, hF1, hF2, hv, hsl⟩ : ∃ bF oF, aF = some ⟨bF, oF, none⟩ ∧ bF < w.heap.size ∧ bF < wr.heap.size ∧ wr.cell? ⟨bF, oF + 3, none⟩ = some (.int .i64 p.funcs[0].vars) ∧ wr.cell? ⟨bF, oF + 4, none⟩ = some (.int .i64 p.funcs[0].slots) := by
        obtain ⟨u0, u1, hv, hc, -⟩ := hR.prog
        obtain ⟨rfl, rfl⟩ : _ = u0 ∧ _ = u1 := by simpa using hv
        obtain ⟨a, c, hv, -, -, h⟩ := rSlice_val hc
        obtain ⟨b, off, es, rfl, hS, hb, hl, hcl, v5, rfl, -⟩ := h 0 h0
        have := hcl 3 (by decide)
        have := hcl 4 (by decide)
        exact ⟨b, off, by simpa using (Value.slice.inj hv).1, hS, hb, by simpa using hcl 3 (by decide), by simpa using hcl 4 (by decide)⟩
      have hco := hs.codes _ (List.getElem_mem h0)
      obtain ⟨q1, q2, q3, q4⟩ := hco.small
      have HR := Lib.hid hR'
      clear hR hR' hlt hco
      subst hke
      have Hst := Lib.hid (show startF p = ⟨p.data, [], [⟨0, List.replicate p.funcs[0].vars.toNat 0, List.replicate p.funcs[0].slots.toNat 0, 0, 0, []⟩]⟩ by unfold startF; rw [codeAt_eq h0])
      generalize p.funcs[0] = cc at *
      obtain ⟨nv, hnv⟩ := Int.eq_ofNat_of_zero_le q1
      obtain ⟨ns, hns⟩ := Int.eq_ofNat_of_zero_le q3
      rw [hnv] at hv q1 q2 Hst
      rw [hns] at hsl q3 q4 Hst
      clear hnv hns
      have hmv := make_ints nv (by omega)
      have hms := make_ints ns (by omega)
      have d0 : ∀ o, (wr.alloc o).cell? ⟨w.heap.size, 0, none⟩ = some (.slice (some ⟨bF, oF, none⟩) p.funcs.length cF) := fun o => (World.cell?_alloc_lt _ _ _ hlp).trans c0
      have dv : ∀ o, (wr.alloc o).cell? ⟨bF, oF + 3, none⟩ = some (.int .i64 nv) := fun o => (World.cell?_alloc_lt _ _ _ hF2).trans hv
      have ds : ∀ o, (wr.alloc o).cell? ⟨bF, oF + 4, none⟩ = some (.int .i64 ns) := fun o => (World.cell?_alloc_lt _ _ _ hF2).trans hsl
      go_upto_region 6 with fail
      go_cut [11] from 56 to 69 (fun s11 wx => ∃ g gv gs, s11 = .slice (some ⟨g, 0, none⟩) 1 1 ∧ Since (fun _ => False) wr wx ∧ wx.heap[g]? = some (.cells #[.int .i64 0, .slice (some ⟨gv, 0, none⟩) nv nv, .slice (some ⟨gs, 0, none⟩) ns ns, .int .i64 0, .int .i64 0, .slice none 0 0] 164) ∧
        wx.heap[gv]? = some (.cells (zeros nv) 3) ∧ wx.heap[gs]? = some (.cells (zeros ns) 3) ∧ wr.heap.size ≤ g ∧ wr.heap.size ≤ gv ∧ wr.heap.size ≤ gs ∧ gv ≠ gs ∧ g ≠ gv ∧ g ≠ gs)
      case first =>
        go_region_held3 (fun w' => w'.cell? ⟨w.heap.size, 0, none⟩ = some (.slice (some ⟨bF, oF, none⟩) p.funcs.length cF) ∧ w'.cell? ⟨bF, oF + 3, none⟩ = some (.int .i64 nv) ∧ w'.cell? ⟨bF, oF + 4, none⟩ = some (.int .i64 ns)) (go_keep) (fail)
        all_goals (go_wp2_with fail; go_meet; obtain ⟨k1, k2, k3, k4⟩ := heap3 wr _ _ _)
        · exact ⟨_, _, _, rfl, k4, k3, k1, k2, by omega, by omega, by omega, by omega, by omega, by omega⟩
        · exact ⟨_, _, _, rfl, k4, k3, k2, k1, by omega, by omega, by omega, by omega, by omega, by omega⟩
      case rest =>
        obtain ⟨g, gv, gs, rfl, k1, k2, k3, k4, k5, k6, k7, k8, k9, k10⟩ := hcut
        obtain ⟨ρ1, hR1⟩ := HR.out.first (f := ⟨0, List.replicate nv 0, List.replicate ns 0, 0, 0, []⟩) (a := ⟨gv, gs, .slice none 0 0⟩) k1 ⟨by simp [levCells], Or.inr ⟨g, 1, _, rfl, by have := HR.out.big; omega, k2, by omega, by decide, by simp, by simp [levCells]⟩⟩
          (zeros_row k3 (by have := HR.out.big; simp only []; omega) (by omega)) (zeros_row k4 (by have := HR.out.big; simp only []; omega) (by omega)) k5 k6 k7 k8 k9 k10 (rSlice_nil _ _ _ _)
        have HR1 := Lib.hid hR1
        clear hR1 HR k1 k2 k3 k4 k5 k6 k7 k8 k9 k10 c1 c0 hv hsl d0 dv ds hmv hms hi hz0 hz1 hz2
        go_wp2_with fail
        generalize hR : runF p m heap fuel.toNat (startF p) = R at *
        have HRR := Lib.hid hR
        clear hR
        show ranLoop.wp _ _ _ _
        refine loop_any _ _ _ fuel m w.heap.size w.heap.size (w.heap.size + 1) (w.heap.size + 1 + 1) _ _ p heap R (fuel.toNat + 1) ⟨_, rfl, ⟨rfl, rfl, rfl, rfl, rfl, rfl⟩, ρ1, _, _, _, _, _, HR1.out, Or.inl ⟨fuel.toNat, rfl, ?_, by omega, rfl, ?_, ?_⟩⟩ hs (by omega) (by omega) h3 (by omega) hn (Lib.hid ?_)
        · show Value.int .i64 0 = .int .i64 (fuel - (fuel.toNat : Int))
          rw [show fuel - (fuel.toNat : Int) = 0 by omega]
        · have := start_fits hs h1 Hdat.out
          rw [Hst.out] at this
          exact this
        · rw [← HRR.out, Hst.out]
          rfl
        · rintro t' w' hF h12 ⟨ρ', vW', vL', words', fr', hR'⟩
          rename_i K hK
          show K _ _
          refine hK _ _ ?_
          have c0 := hR'.r0
          have c1 := hR'.r1
          have f0 := hR'.rf0
          have f1 := hR'.rf1
          obtain ⟨aL, cL, rfl, hL1, hL2⟩ := row_slice hR'.scene.oL
          have s2 := hR'.scene.c2
          have HF := Lib.hid hR'
          rw [frame473 t' hF.size, hF.s2, hF.s3, hF.s4, hF.s8, hF.s9, h12]
          clear hR' hF h12
          go_wp2_with fail
          have g0 := (World.cell?_setCell_other (w := w'.setCell ⟨w.heap.size + 1, 0, none⟩ (.slice aL R.2.length cL)) (a := ⟨w.heap.size + 1, 1, none⟩) (v := .int .i64 R.1) (b := ⟨w.heap.size + 1, 0, none⟩) (h := by simp)).trans (World.cell?_setCell_same w' ⟨w.heap.size + 1, 0, none⟩ (.slice aL R.2.length cL) c0)
          have c1' := (World.cell?_setCell_other (w := w') (a := ⟨w.heap.size + 1, 0, none⟩) (v := .slice aL R.2.length cL) (b := ⟨w.heap.size + 1, 1, none⟩) (h := by simp)).trans c1
          have g1 := World.cell?_setCell_same _ _ (.int .i64 R.1) c1'
          have sS := (Since.setCell w' ⟨w.heap.size + 1, 0, none⟩ (.slice aL R.2.length cL)).trans (Since.setCell (w'.setCell ⟨w.heap.size + 1, 0, none⟩ (.slice aL R.2.length cL)) ⟨w.heap.size + 1, 1, none⟩ (.int .i64 R.1))
          have SS := Lib.hid sS
          clear sS c0 c1 c1' f0 f1 s2
          refine bodyPost_ret (v := .agg #[.slice aL R.2.length cL, .int .i64 R.1]) (by simp [results, Tryd.results64, go_sem, g0, g1]) rfl ⟨_, rfl, ?_, ?_⟩
          · refine SS.out.row HF.out.scene.oL (fun k hk e => ?_)
            have h1 := HF.out.ll k hk
            have h2 := HF.out.lr.1
            rw [show k = w.heap.size + 1 from e, h2] at h1
            simp at h1
          · exact HF.out.below.trans (SS.out.below HF.out.big (fun k e => by rw [show k = w.heap.size + 1 from e]; omega))
theorem ranOf_any (p : PProg) (v0 v1 : Value) (heap fuel : Int) (m : Bool) (w : World) (hp : rProg (fun _ => True) w [v0, v1] p) (hs : Sound p m) (h1 : (p.data.length : Int) ≤ heap) (h2 : heap ≤ 20000) (h3 : 0 ≤ fuel) (h4 : fuel ≤ 10000000) (hn : ∀ f, LevOK p f → InI (instrAt p f).n) :
    Calls Tryd.prog 64 #[.agg #[v0, v1], .int .i64 heap, .int .i64 fuel, .bool m] w (RanPost w.heap.size w (runF p m heap fuel.toNat (startF p))) :=
  @ranOf_core ⟨w⟩ p v0 v1 heap fuel m w hp hs h1 h2 h3 h4 hn (Below.refl _ _)
end Go.Proofs.YtaomlfbcfmmhlaaDoor

/-
  The reference's instrFault: the contract.
-/
namespace Go.Proofs.YtaomlfbcfmmhlaaDoor
open Go.RowKit Go.Pst
set_option linter.unusedVariables false

set_option maxRecDepth 4000 in
set_option maxHeartbeats 2000000 in
theorem instrFault_any (fs : List PCode) (p0 p1 : Value) (c : PCode) (ccs : List Value) (x : PInstr) (xcs : List Value) (w : World) (hp : rCodes (fun _ => True) w [p0] fs)
    (hc : rCode (fun _ => True) w ccs c) (hx : rInstr (fun _ => True) w xcs x) (hv : 0 ≤ c.vars) :
    Calls Tryd.prog 57 #[.agg #[p0, p1], .agg ccs.toArray, .agg xcs.toArray] w fun e w' => e = .returned (.int .i64 (instrFaultF fs c.vars c.results c.blocks.length x)) ∧ Below w.heap.size w w' := by
  obtain ⟨v5, rfl, ⟨-, -, hres, hvars, -⟩, hbs⟩ := hc
  obtain ⟨v1, v2, v6, rfl, ⟨hop, hn, hs⟩, h1, h2, h6⟩ := hx
  obtain ⟨a5, c5, rfl, hcap5, hmax5, -⟩ := rSlice_one hbs
  obtain ⟨a1, c1, rfl, hl1, hat1, -⟩ := rInts_open h1
  obtain ⟨a2, c2, rfl, hl2, hat2, -⟩ := rInts_open h2
  obtain ⟨a6, c6, rfl, hl6, hat6, -⟩ := rInts_open h6
  unfold maxLen at hmax5
  have hnb : c.blocks.length ≤ 9223372036854775807 := by omega
  have hvi := hvars.2
  clear hbs h1 h2 h6 hcap5 hmax5 hop hn hs hvars hres
  generalize c.blocks.length = nb at *
  generalize hop : x.op = op at *
  generalize c.vars = vars at *
  generalize c.results = results at *
  go_enter Tryd.func57, Tryd.ntmps57
  go_upto_block 0 with fail
  go_cut [7, 8, 9] from 15 to 51 (fun s7 s8 s9 wx => ∃ d a t : Nat, arity x = some (d, a, t) ∧ s7 = .int .i64 d ∧ s8 = .int .i64 a ∧ s9 = .int .i64 t ∧
      wx = ((w.alloc (.cells #[p0, p1] 25)).alloc (.cells #[.string c.name, .int .i64 c.params, .int .i64 results, .int .i64 vars, .int .i64 c.slots, .slice a5 nb c5] 28)).alloc
        (.cells #[.int .i64 op, .slice a1 x.ds.length c1, .slice a2 x.ars.length c2, .int .i64 x.n, .string x.s, .slice a6 x.to.length c6] 53))
  case first =>
    by_cases h1 : op = 1
    · subst h1
      go_wp2_with fail
      go_meet
      case rel => exact ⟨_, _, _, by simp [arity, hop], rfl, rfl, rfl, rfl⟩
    by_cases h2 : op = 2
    · subst h2
      go_wp2_with fail
      go_meet
      case rel => exact ⟨_, _, _, by simp [arity, hop], rfl, rfl, rfl, rfl⟩
    by_cases h3 : op = 3
    · subst h3
      go_wp2_with fail
      go_meet
      case rel => exact ⟨_, _, _, by simp [arity, hop], rfl, rfl, rfl, rfl⟩
    by_cases h4 : op = 4
    · subst h4
      go_wp2_with fail
      go_meet
      case rel => exact ⟨_, _, _, by simp [arity, hop], rfl, rfl, rfl, rfl⟩
    by_cases h5 : op = 5
    · subst h5
      go_wp2_with fail
      go_meet
      case rel => exact ⟨_, _, _, by simp [arity, hop], rfl, rfl, rfl, rfl⟩
    by_cases h6 : op = 6
    · subst h6
      go_wp2_with fail
      go_meet
      case rel => exact ⟨_, _, _, by simp [arity, hop], rfl, rfl, rfl, rfl⟩
    by_cases h7 : op = 7
    · subst h7
      go_wp2_with fail
      go_meet
      case rel => exact ⟨_, _, _, by simp [arity, hop], rfl, rfl, rfl, rfl⟩
    by_cases h8 : op = 8
    · subst h8
      go_wp2_with fail
      go_meet
      case rel => exact ⟨_, _, _, by simp [arity, hop], rfl, rfl, rfl, rfl⟩
    by_cases h9 : op = 9
    · subst h9
      go_wp2_with fail
      go_meet
      case rel => exact ⟨_, _, _, by simp [arity, hop], rfl, rfl, rfl, rfl⟩
    by_cases h10 : op = 10
    · subst h10
      go_wp2_with fail
      go_meet
      case rel => exact ⟨_, _, _, by simp [arity, hop], rfl, rfl, rfl, rfl⟩
    by_cases h12 : op = 12
    · subst h12
      go_wp2_with fail
      go_meet
      case rel => exact ⟨_, _, _, by simp [arity, hop], rfl, rfl, rfl, rfl⟩
    by_cases h13 : op = 13
    · subst h13
      go_wp2_with fail
      go_meet
      case rel => exact ⟨_, _, _, by simp [arity, hop], rfl, rfl, rfl, rfl⟩
    by_cases h11 : op = 11
    · subst h11
      by_cases ht : x.to.length = 0
      · go_wp2_with fail
        go_meet
        case rel => exact ⟨0, 1, 1, by simp [arity, hop, ht], rfl, rfl, rfl, by simp [ht]⟩
      · have ht1 : ((x.to.length : Int) == 0) = false := by simpa using (show ¬ (x.to.length : Int) = 0 by omega)
        go_wp2_with fail
        go_meet
        case rel => exact ⟨_, _, _, by simp [arity, hop, ht], rfl, rfl, rfl, rfl⟩
    have ha : arity x = none := by simp [arity, *]
    go_wp2_with fail
    go_ret
    exact ⟨by unfold instrFaultF; rw [ha]; rfl, (((Below.refl _ _).alloc (Nat.le_refl _) _).alloc (by simp) _).alloc (by simp; omega) _⟩
  case rest =>
    obtain ⟨d, a, t, har, rfl, rfl, rfl, hw⟩ := hcut
    have hbel : Below w.heap.size w wc := by rw [hw]; exact (((Below.refl _ _).alloc (Nat.le_refl _) _).alloc (by simp) _).alloc (by simp; omega) _
    have hsz : wc.heap.size = w.heap.size + 3 := by rw [hw]; simp
    have bp0 : wc.cell? ⟨w.heap.size, 0, none⟩ = some p0 := by rw [hw, box3_1]; rfl
    have bp1 : wc.cell? ⟨w.heap.size, 1, none⟩ = some p1 := by rw [hw, box3_1]; rfl
    have bc2 : wc.cell? ⟨w.heap.size + 1, 2, none⟩ = some (.int .i64 results) := by rw [hw, box3_2]; rfl
    have bc3 : wc.cell? ⟨w.heap.size + 1, 3, none⟩ = some (.int .i64 vars) := by rw [hw, box3_2]; rfl
    have bc5 : wc.cell? ⟨w.heap.size + 1, 5, none⟩ = some (.slice a5 nb c5) := by rw [hw, box3_2]; rfl
    have bx0 : wc.cell? ⟨w.heap.size + 1 + 1, 0, none⟩ = some (.int .i64 op) := by rw [hw, box3_3]; rfl
    have bx1 : wc.cell? ⟨w.heap.size + 1 + 1, 1, none⟩ = some (.slice a1 x.ds.length c1) := by rw [hw, box3_3]; rfl
    have bx2 : wc.cell? ⟨w.heap.size + 1 + 1, 2, none⟩ = some (.slice a2 x.ars.length c2) := by rw [hw, box3_3]; rfl
    have bx3 : wc.cell? ⟨w.heap.size + 1 + 1, 3, none⟩ = some (.int .i64 x.n) := by rw [hw, box3_3]; rfl
    have bx4 : wc.cell? ⟨w.heap.size + 1 + 1, 4, none⟩ = some (.string x.s) := by rw [hw, box3_3]; rfl
    have bx5 : wc.cell? ⟨w.heap.size + 1 + 1, 5, none⟩ = some (.slice a6 x.to.length c6) := by rw [hw, box3_3]; rfl
    clear hw
    have hat1' := hat1.below hbel
    have hat2' := hat2.below hbel
    have hat6' := hat6.below hbel
    have hp' := Good.keep (S' := fun _ => True) (Keep.of_below' hbel (fun k hk _ => hk)) (fun _ _ h => h) hp
    clear hat1 hat2 hat6 hp
    have Hlow := Lib.hid hbel
    clear hbel
    by_cases e1 : x.ds.length = d
    case neg =>
      have hb1 : ((x.ds.length : Int) != (d : Int)) = true := by simp; omega
      have Har := Lib.hid har
      clear har hat1' hat2' hat6' hp'
      go_wp2_with fail
      go_ret
      exact ⟨by rw [instrFaultF_count Har.out (Or.inl e1)]; rfl, Hlow.out⟩
    subst e1
    by_cases e2 : x.ars.length = a
    case neg =>
      have hb1 : ((x.ars.length : Int) != (a : Int)) = true := by simp; omega
      have Har := Lib.hid har
      clear har hat1' hat2' hat6' hp'
      go_wp2_with fail
      go_ret
      exact ⟨by rw [instrFaultF_count Har.out (Or.inr (Or.inl e2))]; rfl, Hlow.out⟩
    subst e2
    by_cases e3 : x.to.length = t
    case neg =>
      have hb1 : ((x.to.length : Int) != (t : Int)) = true := by simp; omega
      have Har := Lib.hid har
      clear har hat1' hat2' hat6' hp'
      go_wp2_with fail
      go_ret
      exact ⟨by rw [instrFaultF_count Har.out (Or.inr (Or.inr e3))]; rfl, Hlow.out⟩
    subst e3
    have Har := Lib.hid har
    clear har
    have Hp := Lib.hid hp'
    clear hp'
    have Hat1 := Lib.hid hat1'
    have Hat2 := Lib.hid hat2'
    have Hat6 := Lib.hid hat6'
    clear hat1' hat2' hat6'
    have f1 := fun c => allIn_any 0 (vars - 1) a1 x.ds c wc hl1 Hat1.out
    have f2 := fun c => allIn_any 0 (vars - 1) a2 x.ars c wc hl2 Hat2.out
    have f6 := fun c => allIn_any 0 ((nb : Int) - 1) a6 x.to c wc hl6 Hat6.out
    have F1 := Lib.hid f1
    have F2 := Lib.hid f2
    have F6 := Lib.hid f6
    clear f1 f2 f6
    go_wp2_with fail
    refine (F1.out _).mono ?_
    rintro e w1 ⟨rfl, rfl⟩
    cases r1 : (x.ds.all fun x => decide (0 ≤ x) && decide (x ≤ vars - 1)) with
    | false =>
      have R1 := Lib.hid r1
      clear r1
      go_wp2_with fail
      go_ret
      exact ⟨by rw [instrFaultF_range Har.out (by unfold inAll; rw [R1.out]; rfl)]; rfl, Hlow.out⟩
    | true =>
    have R1 := Lib.hid r1
    clear r1
    go_wp2_with fail
    refine (F2.out _).mono ?_
    rintro e w1 ⟨rfl, rfl⟩
    cases r2 : (x.ars.all fun x => decide (0 ≤ x) && decide (x ≤ vars - 1)) with
    | false =>
      have R2 := Lib.hid r2
      clear r2
      go_wp2_with fail
      go_ret
      exact ⟨by rw [instrFaultF_range Har.out (by unfold inAll; rw [R2.out]; simp)]; rfl, Hlow.out⟩
    | true =>
    have R2 := Lib.hid r2
    clear r2
    go_wp2_with fail
    refine (F6.out _).mono ?_
    rintro e w1 ⟨rfl, rfl⟩
    cases r6 : (x.to.all fun x => decide (0 ≤ x) && decide (x ≤ (nb : Int) - 1)) with
    | false =>
      have R6 := Lib.hid r6
      clear r6
      go_wp2_with fail
      go_ret
      exact ⟨by rw [instrFaultF_range Har.out (by unfold inAll; rw [R6.out]; simp)]; rfl, Hlow.out⟩
    | true =>
    have R6 := Lib.hid r6
    clear r6
    have hgood := instrFaultF_good (fs := fs) (vars := vars) (results := results) (nb := nb) Har.out (by unfold inAll; rw [R1.out, R2.out, R6.out]; rfl)
    have Hg := Lib.hid hgood
    clear hgood Har R1 R2 R6 F1 F2 F6 Hat2 Hat6
    by_cases h3 : op = 3
    · subst h3
      go_wp2_with fail
      refine (isMath_any x.s wc).mono ?_
      rintro e w1 ⟨rfl, hb1⟩
      have bx0' := hb1.cell (p := ⟨w.heap.size + 1 + 1, 0, none⟩) (by show w.heap.size + 1 + 1 < wc.heap.size; omega)
      rw [bx0] at bx0'
      cases hm : decide (x.s ∈ mathsF) with
      | false =>
        have Hm := Lib.hid hm
        clear hm
        go_wp2_with fail
        go_ret
        exact ⟨by rw [Hg.out, hop, if_pos rfl, if_neg (of_decide_eq_false Hm.out)]; rfl, Hlow.out.trans (hb1.mono (by omega))⟩
      | true =>
        have Hm := Lib.hid hm
        clear hm
        go_wp2_with fail
        go_ret
        exact ⟨by rw [Hg.out, hop, if_pos rfl, if_pos (of_decide_eq_true Hm.out)]; rfl, Hlow.out.trans (hb1.mono (by omega))⟩
    by_cases h8 : op = 8
    · subst h8
      by_cases t1 : x.s = sText
      · have q1 : (x.s.toList == [116, 101, 120, 116]) = true := str_eqc t1
        have q2 : (x.s.toList == [105, 110, 116]) = false := str_nec (y := sInt) (by rw [t1]; decide)
        have q3 : (x.s.toList == [98, 111, 111, 108]) = false := str_nec (y := sBool) (by rw [t1]; decide)
        have T1 := Lib.hid t1
        clear t1
        by_cases l2 : x.ars.length = 2
        · have L2 := Lib.hid l2
          rw [l2] at bx2 ⊢
          go_wp2_with fail
          go_ret
          exact ⟨by rw [Hg.out, hop, if_neg (by decide), if_pos rfl, if_pos T1.out, if_pos L2.out]; rfl, Hlow.out⟩
        · have lb2 : ((x.ars.length : Int) != 2) = true := by simp; omega
          have L2 := Lib.hid l2
          clear l2
          go_wp2_with fail
          go_ret
          exact ⟨by rw [Hg.out, hop, if_neg (by decide), if_pos rfl, if_pos T1.out, if_neg L2.out]; rfl, Hlow.out⟩
      · have q1 : (x.s.toList == [116, 101, 120, 116]) = false := str_nec (y := sText) t1
        have T1 := Lib.hid t1
        clear t1
        by_cases t2 : x.s = sInt ∨ x.s = sBool
        · have T2 := Lib.hid t2
          by_cases l2 : x.ars.length = 1
          · have L2 := Lib.hid l2
            rw [l2] at bx2 ⊢
            by_cases t3 : x.s = sInt
            · have q2 : (x.s.toList == [105, 110, 116]) = true := str_eqc (y := sInt) t3
              clear t2 t3
              go_wp2_with fail
              go_ret
              exact ⟨by rw [Hg.out, hop, if_neg (by decide), if_pos rfl, if_neg T1.out, if_pos T2.out, if_pos L2.out]; rfl, Hlow.out⟩
            · have q2 : (x.s.toList == [105, 110, 116]) = false := str_nec (y := sInt) t3
              have q3 : (x.s.toList == [98, 111, 111, 108]) = true := str_eqc (y := sBool) (t2.resolve_left t3)
              clear t2 t3
              go_wp2_with fail
              go_ret
              exact ⟨by rw [Hg.out, hop, if_neg (by decide), if_pos rfl, if_neg T1.out, if_pos T2.out, if_pos L2.out]; rfl, Hlow.out⟩
          · have lb2 : ((x.ars.length : Int) != 1) = true := by simp; omega
            have L2 := Lib.hid l2
            clear l2
            by_cases t3 : x.s = sInt
            · have q2 : (x.s.toList == [105, 110, 116]) = true := str_eqc (y := sInt) t3
              clear t2 t3
              go_wp2_with fail
              go_ret
              exact ⟨by rw [Hg.out, hop, if_neg (by decide), if_pos rfl, if_neg T1.out, if_pos T2.out, if_neg L2.out]; rfl, Hlow.out⟩
            · have q2 : (x.s.toList == [105, 110, 116]) = false := str_nec (y := sInt) t3
              have q3 : (x.s.toList == [98, 111, 111, 108]) = true := str_eqc (y := sBool) (t2.resolve_left t3)
              clear t2 t3
              go_wp2_with fail
              go_ret
              exact ⟨by rw [Hg.out, hop, if_neg (by decide), if_pos rfl, if_neg T1.out, if_pos T2.out, if_neg L2.out]; rfl, Hlow.out⟩
        · have q2 : (x.s.toList == [105, 110, 116]) = false := str_nec (y := sInt) (fun h => t2 (Or.inl h))
          have q3 : (x.s.toList == [98, 111, 111, 108]) = false := str_nec (y := sBool) (fun h => t2 (Or.inr h))
          have T2 := Lib.hid t2
          clear t2
          go_wp2_with fail
          go_ret
          exact ⟨by rw [Hg.out, hop, if_neg (by decide), if_pos rfl, if_neg T1.out, if_neg T2.out]; rfl, Hlow.out⟩
    by_cases h12 : op = 12
    · subst h12
      by_cases l2 : (x.ars.length : Int) = results
      · have L2 := Lib.hid l2
        subst l2
        go_wp2_with fail
        go_ret
        exact ⟨by rw [Hg.out, hop, if_neg (by decide), if_neg (by decide), if_pos rfl, if_pos trivial]; rfl, Hlow.out⟩
      · have lb2 : ((x.ars.length : Int) != results) = true := by simpa using l2
        have L2 := Lib.hid l2
        clear l2
        go_wp2_with fail
        go_ret
        exact ⟨by rw [Hg.out, hop, if_neg (by decide), if_neg (by decide), if_pos rfl, if_neg L2.out]; rfl, Hlow.out⟩
    by_cases h13 : op = 13
    · subst h13
      go_wp2_with fail
      refine (refIn_any x.n 2 5 wc).mono ?_
      rintro e w1 ⟨rfl, rfl⟩
      cases rn : (decide (2 ≤ x.n) && decide (x.n ≤ 5)) with
      | true =>
        have Rn := Lib.hid rn
        clear rn
        go_wp2_with fail
        go_ret
        exact ⟨by rw [Hg.out, hop, if_neg (by decide), if_neg (by decide), if_neg (by decide), if_pos rfl, if_pos (by simpa using Rn.out)]; rfl, Hlow.out⟩
      | false =>
        have Rn := Lib.hid rn
        clear rn
        go_wp2_with fail
        go_ret
        exact ⟨by rw [Hg.out, hop, if_neg (by decide), if_neg (by decide), if_neg (by decide), if_pos rfl, if_neg (by have := Rn.out; simp at this; omega)]; rfl, Hlow.out⟩
    by_cases h7 : op = 7
    case neg =>
      have o3 : (op == 3) = false := by simpa using h3
      have o8 : (op == 8) = false := by simpa using h8
      have o12 : (op == 12) = false := by simpa using h12
      have o13 : (op == 13) = false := by simpa using h13
      have o7 : (op != 7) = true := by simpa using h7
      have Hn := Lib.hid (And.intro h3 (And.intro h8 (And.intro h12 (And.intro h13 h7))))
      clear h3 h8 h12 h13 h7
      go_wp2_with fail
      go_ret
      exact ⟨by rw [Hg.out, hop, if_neg Hn.out.1, if_neg Hn.out.2.1, if_neg Hn.out.2.2.1, if_neg Hn.out.2.2.2.1, if_neg Hn.out.2.2.2.2]; rfl, Hlow.out⟩
    subst h7
    obtain ⟨ap, cp, rfl, hcapp, hmaxp, hatp⟩ := rCodes_val Hp.out
    have Hatp := Lib.hid hatp
    clear hatp
    unfold maxLen at hmaxp
    go_wp2_with fail
    refine (funcNamed_any x.s fs _ p1 wc Hp.out).mono ?_
    rintro e w1 ⟨rfl, hb1⟩
    have bp0' := hb1.cell (p := ⟨w.heap.size, 0, none⟩) (by show w.heap.size < wc.heap.size; omega)
    rw [bp0] at bp0'
    have bx1' := hb1.cell (p := ⟨w.heap.size + 1 + 1, 1, none⟩) (by show w.heap.size + 1 + 1 < wc.heap.size; omega)
    rw [bx1] at bx1'
    have hat1 := Hat1.out.below hb1
    have Hl := Lib.hid (Hlow.out.trans (hb1.mono (by omega)))
    rcases firstOf_spec (fun c : PCode => decide (c.name = x.s)) fs 0 with ⟨hk, -⟩ | ⟨k, hkl, hk, -, -⟩
    · have hk' : nameAt x.s fs = -1 := hk
      have Hk := Lib.hid hk'
      rw [hk']
      clear hk hk' hat1 hb1
      go_wp2_with fail
      go_ret
      exact ⟨by rw [Hg.out, hop, if_neg (by decide), if_neg (by decide), if_neg (by decide), if_neg (by decide), if_pos rfl]; unfold invokeFaultF; rw [Hk.out]; rfl, Hl.out⟩
    · have hk' : nameAt x.s fs = (k : Int) := by unfold nameAt; simpa using hk
      have Hk := Lib.hid hk'
      rw [hk']
      clear hk hk'
      obtain ⟨b, off, v5, rfl, -, hb, -, hcp, hcr, -⟩ := Hatp.out k hkl
      have hkl1 : (k : Int) < (fs.length : Int) := by omega
      have hcp' := hb1.cell (p := ⟨b, off + k * 6 + 1, none⟩) hb
      rw [hcp] at hcp'
      have hcr' := hb1.cell (p := ⟨b, off + k * 6 + 2, none⟩) hb
      rw [hcr] at hcr'
      have hinv : invokeFaultF fs x = if (x.ars.length : Int) ≠ fs[k].params ∨ (x.ds.length : Int) ≠ fs[k].results then 10 else if x.ds.Nodup then 0 else 7 := by
        unfold invokeFaultF
        rw [Hk.out, if_neg (by omega)]
        simp only [Int.toNat_natCast, List.getElem?_eq_getElem hkl]
      have Hi := Lib.hid hinv
      clear hinv hcp hcr hb1 hb
      generalize fs[k] = y at *
      by_cases e1 : (x.ars.length : Int) = y.params
      case neg =>
        have b1 : ((x.ars.length : Int) != y.params) = true := by simpa using e1
        have E1 := Lib.hid e1
        clear e1 hat1
        go_wp2_with fail
        go_ret
        exact ⟨by rw [Hg.out, hop, if_neg (by decide), if_neg (by decide), if_neg (by decide), if_neg (by decide), if_pos rfl, Hi.out, if_pos (Or.inl E1.out)]; rfl, Hl.out⟩
      have b1 : ((x.ars.length : Int) != y.params) = false := by simpa using e1
      have E1 := Lib.hid e1
      clear e1
      by_cases e2 : (x.ds.length : Int) = y.results
      case neg =>
        have b2 : ((x.ds.length : Int) != y.results) = true := by simpa using e2
        have E2 := Lib.hid e2
        clear e2 hat1
        go_wp2_with fail
        go_ret
        exact ⟨by rw [Hg.out, hop, if_neg (by decide), if_neg (by decide), if_neg (by decide), if_neg (by decide), if_pos rfl, Hi.out, if_pos (Or.inr E2.out)]; rfl, Hl.out⟩
      have b2 : ((x.ds.length : Int) != y.results) = false := by simpa using e2
      have E2 := Lib.hid e2
      clear e2
      have hres : instrFaultF fs vars results nb x = if x.ds.Nodup then 0 else 7 := by
        rw [Hg.out, hop, if_neg (by decide), if_neg (by decide), if_neg (by decide), if_neg (by decide), if_pos rfl, Hi.out, if_neg (by intro h; exact h.elim (fun h => h E1.out) (fun h => h E2.out))]
      have Hres := Lib.hid hres
      have Hat := Lib.hid hat1
      clear hres hat1 Hg Hi E1 E2 Hatp Hat1 Hp
      go_wp2_with fail
      go_loopw [11] (fun i wr => ∃ n : Nat, n ≤ x.ds.length ∧ i = .int .i64 n ∧ (x.ds.take n).Nodup ∧ Drawn w1 wr) (fun i _ => x.ds.length - (intOf i).toNat)
      case atStart => exact ⟨0, Nat.zero_le _, rfl, by simp, Drawn.refl _⟩
      case round =>
        obtain ⟨n, hn, rfl, hnd, hdr⟩ := hrel
        have Hnd := Lib.hid hnd
        clear hnd
        by_cases hnl : n < x.ds.length
        · have hnl1 : (n : Int) < (x.ds.length : Int) := by omega
          go_wp2_with fail
          go_loopw [12] (fun i wr => ∃ m : Nat, m ≤ n ∧ i = .int .i64 m ∧ (∀ j (hj : j < m) (hjn : j < x.ds.length), ¬ x.ds[j] = x.ds[n]) ∧ Drawn w1 wr) (fun i _ => n - (intOf i).toNat)
          case atStart => exact ⟨0, Nat.zero_le _, rfl, fun j hj => absurd hj (by omega), hdr⟩
          case round =>
            clear hdr
            obtain ⟨m, hm, rfl, hne, hdr⟩ := hrel
            have Hne := Lib.hid hne
            clear hne
            by_cases hmn : m < n
            · have hmn1 : (m : Int) < (n : Int) := by omega
              have hml1 : (m : Int) < (x.ds.length : Int) := by omega
              obtain ⟨b1, off1, rfl, hb1, hx1⟩ := Hat.out m (by omega)
              obtain ⟨b2, off2, hab, hb2, hx2⟩ := Hat.out n hnl
              obtain ⟨rfl, rfl⟩ : b1 = b2 ∧ off1 = off2 := by simpa using hab
              have hx1' : wr.cell? ⟨b1, off1 + m, none⟩ = some (.int .i64 x.ds[m]) := by rw [hdr.cell]; exact hx1
              have hx2' : wr.cell? ⟨b1, off1 + n, none⟩ = some (.int .i64 x.ds[n]) := by rw [hdr.cell]; exact hx2
              have bx1r : wr.cell? ⟨w.heap.size + 1 + 1, 1, none⟩ = some (.slice (some ⟨b1, off1, none⟩) x.ds.length c1) := by rw [hdr.cell]; exact bx1'
              clear hx1 hx2 hab
              by_cases he : x.ds[m] = x.ds[n]
              · have hee : (x.ds[m] == x.ds[n]) = true := by simpa using he
                have Hnn := Lib.hid (not_nodup_of hnl hmn he)
                clear he
                generalize x.ds[m] = q1 at *
                generalize x.ds[n] = q2 at *
                go_wp2_with fail
                go_quiet (fail)
                go_wp2_with fail
                go_ret
                exact ⟨by rw [Hres.out, if_neg Hnn.out]; rfl, Hl.out.trans ((hdr.more _).below _)⟩
              · have hee : (x.ds[m] == x.ds[n]) = false := by simpa using he
                have Hnn := Lib.hid (show ∀ j (hj : j < m + 1) (hjn : j < x.ds.length), ¬ x.ds[j] = x.ds[n] from fun j hj hjn => by
                  by_cases h : j < m
                  · exact Hne.out j h hjn
                  · obtain rfl : j = m := by omega
                    exact he)
                clear he
                generalize hq1 : x.ds[m] = q1 at *
                generalize hq2 : x.ds[n] = q2 at *
                clear hq1
                have Hq2 := Lib.hid hq2
                clear hq2
                go_wp2_with fail
                go_quiet (fail)
                go_wp2_with fail
                go_roundw
                case rel => exact ⟨m + 1, by omega, by go_num, Hnn.out, hdr.more _⟩
                case measure => simp [intOf]; omega
            · have hme : m = n := by omega
              subst hme
              have Hnn := Lib.hid (nodup_take_succ hnl Hnd.out (fun j hj => Hne.out j hj (by omega)))
              go_wp2_with fail
              go_roundw
              case rel => exact ⟨m + 1, by omega, by go_num, Hnn.out, hdr⟩
              case measure => simp [intOf]; omega
        · have hne : n = x.ds.length := by omega
          have Hnn := Lib.hid (show x.ds.Nodup by have := Hnd.out; rw [hne, List.take_length] at this; exact this)
          subst hne
          clear Hnd
          go_wp2_with fail
          go_ret
          exact ⟨by rw [Hres.out, if_pos Hnn.out]; rfl, Hl.out.trans (hdr.below _)⟩
end Go.Proofs.YtaomlfbcfmmhlaaDoor

/-
  The reference's CodeFault: the contract.
-/
namespace Go.Proofs.YtaomlfbcfmmhlaaDoor
open Go.RowKit Go.Pst
set_option linter.unusedVariables false

set_option maxRecDepth 4000 in
set_option maxHeartbeats 2000000 in
theorem codeFault_any (fs : List PCode) (p0 p1 : Value) (c : PCode) (ccs : List Value) (w : World) (hp : rCodes (fun _ => True) w [p0] fs)
    (hc : rCode (fun _ => True) w ccs c) (hf : FitCode c) :
    Calls Tryd.prog 17 #[.agg #[p0, p1], .agg ccs.toArray] w fun e w' => e = .returned (.int .i64 (codeFaultF fs c)) ∧ Below w.heap.size w w' := by
  have hc0 := hc
  obtain ⟨v5, rfl, -, hbs⟩ := hc
  obtain ⟨a5, c5, rfl, hcap5, hmax5, hat⟩ := rSlice_one hbs
  unfold maxLen at hmax5
  have hnb : c.blocks.length ≤ 9223372036854775807 := by omega
  clear hbs hcap5 hmax5
  have Hc := Lib.hid hc0
  have Hat := Lib.hid hat
  have Hp := Lib.hid hp
  clear hc0 hat hp
  by_cases z : c.blocks.length = 0
  · have z1 : ((c.blocks.length : Int) == 0) = true := by simpa using z
    have Z := Lib.hid z
    clear z
    go_enter Tryd.func17, Tryd.ntmps17
    go_wp2_with fail
    go_ret
    exact ⟨by unfold codeFaultF; rw [if_pos Z.out]; rfl, below_box2 _ _ _⟩
  have z1 : ((c.blocks.length : Int) == 0) = false := by simpa using z
  have Z := Lib.hid z
  clear z
  by_cases s1 : 2000 < c.blocks.length
  · have b : decide ((c.blocks.length : Int) > 2000) = true := decide_eq_true (by omega)
    have S := Lib.hid s1
    clear s1
    go_enter Tryd.func17, Tryd.ntmps17
    go_wp2_with fail
    go_ret
    exact ⟨by unfold codeFaultF; rw [if_neg Z.out, if_pos (Or.inl S.out)]; rfl, below_box2 _ _ _⟩
  have bs1 : decide ((c.blocks.length : Int) > 2000) = false := decide_eq_false (by omega)
  have Hs1 := Lib.hid s1
  clear s1
  by_cases s2 : 3000 < c.vars
  · have b : decide (c.vars > 3000) = true := decide_eq_true (by omega)
    have S := Lib.hid s2
    clear s2
    go_enter Tryd.func17, Tryd.ntmps17
    go_wp2_with fail
    go_ret
    exact ⟨by unfold codeFaultF; rw [if_neg Z.out, if_pos (Or.inr (Or.inl S.out))]; rfl, below_box2 _ _ _⟩
  have bs2 : decide (c.vars > 3000) = false := decide_eq_false (by omega)
  have Hs2 := Lib.hid s2
  clear s2
  by_cases s3 : 16 < c.params
  · have b : decide (c.params > 16) = true := decide_eq_true (by omega)
    have S := Lib.hid s3
    clear s3
    go_enter Tryd.func17, Tryd.ntmps17
    go_wp2_with fail
    go_ret
    exact ⟨by unfold codeFaultF; rw [if_neg Z.out, if_pos (Or.inr (Or.inr (Or.inl S.out)))]; rfl, below_box2 _ _ _⟩
  have bs3 : decide (c.params > 16) = false := decide_eq_false (by omega)
  have Hs3 := Lib.hid s3
  clear s3
  by_cases s4 : 16 < c.results
  · have b : decide (c.results > 16) = true := decide_eq_true (by omega)
    have S := Lib.hid s4
    clear s4
    go_enter Tryd.func17, Tryd.ntmps17
    go_wp2_with fail
    go_ret
    exact ⟨by unfold codeFaultF; rw [if_neg Z.out, if_pos (Or.inr (Or.inr (Or.inr S.out)))]; rfl, below_box2 _ _ _⟩
  have bs4 : decide (c.results > 16) = false := decide_eq_false (by omega)
  have Hs4 := Lib.hid s4
  clear s4
  have hs := Lib.hid (show ¬ (2000 < c.blocks.length ∨ 3000 < c.vars ∨ 16 < c.params ∨ 16 < c.results) from fun h => h.elim Hs1.out (fun h => h.elim Hs2.out (fun h => h.elim Hs3.out Hs4.out)))
  by_cases r1 : c.params < 0
  · have b : decide (c.params < 0) = true := decide_eq_true (by omega)
    have S := Lib.hid r1
    clear r1
    go_enter Tryd.func17, Tryd.ntmps17
    go_wp2_with fail
    go_ret
    exact ⟨by unfold codeFaultF; rw [if_neg Z.out, if_neg hs.out, if_pos (Or.inl S.out)]; rfl, below_box2 _ _ _⟩
  have br1 : decide (c.params < 0) = false := decide_eq_false (by omega)
  have Hr1 := Lib.hid r1
  clear r1
  by_cases r2 : c.results < 0
  · have b : decide (c.results < 0) = true := decide_eq_true (by omega)
    have S := Lib.hid r2
    clear r2
    go_enter Tryd.func17, Tryd.ntmps17
    go_wp2_with fail
    go_ret
    exact ⟨by unfold codeFaultF; rw [if_neg Z.out, if_neg hs.out, if_pos (Or.inr (Or.inl S.out))]; rfl, below_box2 _ _ _⟩
  have br2 : decide (c.results < 0) = false := decide_eq_false (by omega)
  have Hr2 := Lib.hid r2
  clear r2
  by_cases r3 : c.vars < c.params
  · have b : decide (c.vars < c.params) = true := decide_eq_true (by omega)
    have S := Lib.hid r3
    clear r3
    go_enter Tryd.func17, Tryd.ntmps17
    go_wp2_with fail
    go_ret
    exact ⟨by unfold codeFaultF; rw [if_neg Z.out, if_neg hs.out, if_pos (Or.inr (Or.inr (Or.inl S.out)))]; rfl, below_box2 _ _ _⟩
  have br3 : decide (c.vars < c.params) = false := decide_eq_false (by omega)
  have Hr3 := Lib.hid r3
  clear r3
  by_cases r4 : c.slots ≠ 0
  · have b : (c.slots != 0) = true := (by simpa using r4)
    have S := Lib.hid r4
    clear r4
    go_enter Tryd.func17, Tryd.ntmps17
    go_wp2_with fail
    go_ret
    exact ⟨by unfold codeFaultF; rw [if_neg Z.out, if_neg hs.out, if_pos (Or.inr (Or.inr (Or.inr S.out)))]; rfl, below_box2 _ _ _⟩
  have br4 : (c.slots != 0) = false := (by simpa using r4)
  have Hr4 := Lib.hid r4
  clear r4
  have hres := Lib.hid (show codeFaultF fs c = blocksF (instrFaultF fs c.vars c.results c.blocks.length) 6000 c.blocks 0 by
    unfold codeFaultF
    rw [if_neg Z.out, if_neg hs.out, if_neg (fun h => h.elim Hr1.out (fun h => h.elim Hr2.out (fun h => h.elim Hr3.out Hr4.out)))])
  have hv : 0 ≤ c.vars := by have := Hr1.out; have := Hr3.out; omega
  go_enter Tryd.func17, Tryd.ntmps17
  go_wp2_with fail
  clear z1 bs1 bs2 bs3 bs4 br1 br2 br3 br4 Hr1 Hr2 Hr3 Hr4 Hs1 Hs2 Hs3 Hs4 hs Z
  go_loopw [5, 6] (fun q i wr => ∃ all n : Nat, n ≤ c.blocks.length ∧ all ≤ 6000 ∧ q = .int .i64 all ∧ i = .int .i64 n ∧ codeFaultF fs c = blocksF (instrFaultF fs c.vars c.results c.blocks.length) 6000 (c.blocks.drop n) all ∧
      Below (w.heap.size + 2) ((w.alloc (.cells #[p0, p1] 25)).alloc (.cells #[.string c.name, .int .i64 c.params, .int .i64 c.results, .int .i64 c.vars, .int .i64 c.slots, .slice a5 c.blocks.length c5] 28)) wr) (fun _ i _ => c.blocks.length - (intOf i).toNat)
  case atStart => exact ⟨0, 0, Nat.zero_le _, by omega, rfl, rfl, by rw [hres.out]; rfl, Below.refl _ _⟩
  case round =>
    obtain ⟨all, n, hn, hall, rfl, rfl, hrs, hbel⟩ := hrel
    have Hrs := Lib.hid hrs
    clear hrs
    have bc5 := hbel.cell (p := ⟨w.heap.size + 1, 5, none⟩) (by simp)
    rw [box2_2] at bc5
    by_cases hnl : n < c.blocks.length
    · have hnl1 : (n : Int) < (c.blocks.length : Int) := by omega
      obtain ⟨b, off, u, rfl, -, hb, hcell, hu⟩ := Hat.out n hnl
      obtain ⟨a2, cap2, rfl, hcap2, hmax2, hat2⟩ := rBlock_val hu
      have hcx : wr.cell? ⟨b, off + n, none⟩ = some (.slice a2 c.blocks[n].length cap2) := by
        rw [hbel.cell (p := ⟨b, off + n, none⟩) (by show b < _; omega), World.cell?_alloc_lt _ _ _ (by simp; omega), World.cell?_alloc_lt _ _ _ hb]; exact hcell
      have hfb := (hf.2 _ (List.getElem_mem hnl)).1
      unfold reachBytes at hfb
      have hstep := blocksF_at (g := instrFaultF fs c.vars c.results c.blocks.length) (most := 6000) (all := all) hnl
      have Hstep := Lib.hid hstep
      have Hat2 := Lib.hid hat2
      unfold maxLen at hmax2
      have Hcell := Lib.hid hcell
      clear hat2 hu hcell hstep
      generalize c.blocks[n] = bl at *
      have hbm : bl.length ≤ 9223372036854775807 := by omega
      by_cases z : bl.length = 0
      · have z1 : ((bl.length : Int) == 0) = true := by simpa using z
        have Z := Lib.hid z
        clear z
        go_wp2_with fail
        go_ret
        exact ⟨by rw [Hrs.out, Hstep.out, if_pos Z.out]; rfl, (below_box2 _ _ _).trans (hbel.mono (by omega))⟩
      have z1 : ((bl.length : Int) == 0) = false := by simpa using z
      have Z := Lib.hid z
      clear z
      by_cases g : 6000 < all + bl.length
      · have g1 : decide ((all : Int) + (bl.length : Int) > 6000) = true := decide_eq_true (by omega)
        have G := Lib.hid g
        clear g
        go_wp2_with fail
        go_ret
        exact ⟨by rw [Hrs.out, Hstep.out, if_neg Z.out, if_pos G.out]; rfl, (below_box2 _ _ _).trans (hbel.mono (by omega))⟩
      have g1 : decide ((all : Int) + (bl.length : Int) > 6000) = false := decide_eq_false (by omega)
      have Hs2 := Lib.hid (show codeFaultF fs c = if blockF (instrFaultF fs c.vars c.results c.blocks.length) bl ≠ 0 then blockF (instrFaultF fs c.vars c.results c.blocks.length) bl else blocksF (instrFaultF fs c.vars c.results c.blocks.length) 6000 (c.blocks.drop (n + 1)) (all + bl.length) by
        rw [Hrs.out, Hstep.out, if_neg Z.out, if_neg g])
      have G := Lib.hid g
      clear g Z Hstep Hrs
      go_wp2_with fail
      clear g1 z1 hcx bc5
      go_loopw [8] (fun i wr => ∃ k : Nat, k ≤ bl.length ∧ i = .int .i64 k ∧ blockF (instrFaultF fs c.vars c.results c.blocks.length) bl = blockF (instrFaultF fs c.vars c.results c.blocks.length) (bl.drop k) ∧
        Below (w.heap.size + 2) ((w.alloc (.cells #[p0, p1] 25)).alloc (.cells #[.string c.name, .int .i64 c.params, .int .i64 c.results, .int .i64 c.vars, .int .i64 c.slots, .slice (some ⟨b, off, none⟩) c.blocks.length c5] 28)) wr) (fun i _ => bl.length - (intOf i).toNat)
      case atStart => exact ⟨0, Nat.zero_le _, rfl, by rw [List.drop_zero], hbel⟩
      case round =>
        clear hbel
        obtain ⟨k, hk, rfl, hbk, hbel⟩ := hrel
        have Hbk := Lib.hid hbk
        clear hbk
        by_cases hkl : k < bl.length
        · have hkl1 : (k : Int) < (bl.length : Int) := by omega
          have bx := fun j => hbel.cell (p := ⟨w.heap.size + 1, j, none⟩) (by simp)
          simp only [box2_2] at bx
          have bc0 : wr.cell? ⟨w.heap.size + 1, 0, none⟩ = some (.string c.name) := bx 0
          have bc1 : wr.cell? ⟨w.heap.size + 1, 1, none⟩ = some (.int .i64 c.params) := bx 1
          have bc2 : wr.cell? ⟨w.heap.size + 1, 2, none⟩ = some (.int .i64 c.results) := bx 2
          have bc3 : wr.cell? ⟨w.heap.size + 1, 3, none⟩ = some (.int .i64 c.vars) := bx 3
          have bc4 : wr.cell? ⟨w.heap.size + 1, 4, none⟩ = some (.int .i64 c.slots) := bx 4
          have bc5 : wr.cell? ⟨w.heap.size + 1, 5, none⟩ = some (.slice (some ⟨b, off, none⟩) c.blocks.length c5) := bx 5
          have bp := fun j => hbel.cell (p := ⟨w.heap.size, j, none⟩) (by show w.heap.size < w.heap.size + 2; omega)
          simp only [box2_1] at bp
          have bp0 : wr.cell? ⟨w.heap.size, 0, none⟩ = some p0 := bp 0
          have bp1 : wr.cell? ⟨w.heap.size, 1, none⟩ = some p1 := bp 1
          clear bx bp
          have hbw : Below w.heap.size w wr := (below_box2 _ _ _).trans (hbel.mono (by omega))
          have hkeep := Keep.of_below' (S := fun _ => True) hbw (fun k hk _ => hk)
          have hsz : w.heap.size + 2 ≤ wr.heap.size := by have := hbel.size; simpa using this
          have hcx : wr.cell? ⟨b, off + n, none⟩ = some (.slice a2 bl.length cap2) := by rw [hbw.cell (p := ⟨b, off + n, none⟩) hb]; exact Hcell.out
          obtain ⟨b2, off2, v1, v2, v6, rfl, -, hb2, hx0, hx1, hx2, hx3, hx4, hx5, hI, rx1, rx2, rx6⟩ := Hat2.out k hkl
          have hcal := instrFault_any fs p0 p1 c _ bl[k] _ wr.drew (Good.kept (hkeep.trans (Keep.drew _ _)) Hp.out) (Good.kept (hkeep.trans (Keep.drew _ _)) Hc.out) (Good.kept (hkeep.trans (Keep.drew _ _)) ⟨v1, v2, v6, rfl, hI, rx1, rx2, rx6⟩) hv
          have ho := hI.1
          have hy0 : wr.cell? ⟨b2, off2 + k * 6, none⟩ = _ := (hbw.cell (p := ⟨b2, off2 + k * 6, none⟩) hb2).trans hx0
          have hy1 : wr.cell? ⟨b2, off2 + k * 6 + 1, none⟩ = _ := (hbw.cell (p := ⟨b2, off2 + k * 6 + 1, none⟩) hb2).trans hx1
          have hy2 : wr.cell? ⟨b2, off2 + k * 6 + 2, none⟩ = _ := (hbw.cell (p := ⟨b2, off2 + k * 6 + 2, none⟩) hb2).trans hx2
          have hy3 : wr.cell? ⟨b2, off2 + k * 6 + 3, none⟩ = _ := (hbw.cell (p := ⟨b2, off2 + k * 6 + 3, none⟩) hb2).trans hx3
          have hy4 : wr.cell? ⟨b2, off2 + k * 6 + 4, none⟩ = _ := (hbw.cell (p := ⟨b2, off2 + k * 6 + 4, none⟩) hb2).trans hx4
          have hy5 : wr.cell? ⟨b2, off2 + k * 6 + 5, none⟩ = _ := (hbw.cell (p := ⟨b2, off2 + k * 6 + 5, none⟩) hb2).trans hx5
          have hat := blockF_at (g := instrFaultF fs c.vars c.results c.blocks.length) hkl
          have Hat3 := Lib.hid hat
          have Hcal := Lib.hid hcal
          have Hz := Lib.hid hsz
          clear hx0 hx1 hx2 hx3 hx4 hx5 hI rx1 rx2 rx6 hat hcal hkeep hsz ho
          generalize bl[k] = x at *
          go_wp2_with fail
          go_still_tail 10, (by kernel_rfl)
          change wpList _ _ _ _ _ wr.drew
          go_wp2_with fail
          refine (Hcal.out).mono ?_
          rintro e w1 ⟨rfl, hb1⟩
          have hl1 : Below wr.heap.size wr w1 := ((Drawn.drew wr).below _).trans hb1
          have Hl1 := Lib.hid (hbel.trans (hl1.mono Hz.out))
          have bc5' := (hl1.cell (p := ⟨w.heap.size + 1, 5, none⟩) (by have := Hz.out; show w.heap.size + 1 < wr.heap.size; omega)).trans bc5
          have hcx' := (hl1.cell (p := ⟨b, off + n, none⟩) (by have := Hz.out; show b < wr.heap.size; omega)).trans hcx
          have hy0' := (hl1.cell (p := ⟨b2, off2 + k * 6, none⟩) (by have := Hz.out; show b2 < wr.heap.size; omega)).trans hy0
          clear bc0 bc1 bc2 bc3 bc4 bc5 bp0 bp1 hcx hy0 hy1 hy2 hy3 hy4 hy5 hbw hb1 hl1 hbel Hcal
          generalize hev : instrFaultF fs c.vars c.results c.blocks.length x = ev at *
          by_cases he : ev = 0
          case neg =>
            have he1 : (ev == 0) = false := by simpa using he
            have he2 : (ev != 0) = true := by simpa using he
            have He := Lib.hid he
            clear he
            go_wp2_with fail
            go_ret
            exact ⟨by
              have hbe : blockF (instrFaultF fs c.vars c.results c.blocks.length) bl = ev := by rw [Hbk.out, Hat3.out, if_pos He.out]
              rw [Hs2.out, hbe, if_pos He.out]; rfl, (below_box2 _ _ _).trans (Hl1.out.mono (by omega))⟩
          subst he
          by_cases hq : k + 1 = bl.length
          · have hq1 : ((k : Int) == (bl.length : Int) - 1) = true := by simpa using (show (k : Int) = (bl.length : Int) - 1 by omega)
            have Hq := Lib.hid (decide_eq_true hq)
            clear hq
            go_wp2_with fail
            refine (closes_any x.op w1).mono ?_
            rintro e w2 ⟨rfl, rfl⟩
            cases cl : closesF x.op with
            | true =>
              have Cl := Lib.hid cl
              clear cl
              go_wp2_with fail
              go_roundw
              case rel => exact ⟨k + 1, by omega, by go_num, by rw [Hbk.out, Hat3.out, if_neg (by simp), if_neg (by rw [Cl.out, Hq.out]; simp)], Hl1.out⟩
              case measure => simp [intOf]; omega
            | false =>
              have Cl := Lib.hid cl
              clear cl
              go_wp2_with fail
              go_ret
              exact ⟨by
                have hbe : blockF (instrFaultF fs c.vars c.results c.blocks.length) bl = 4 := by rw [Hbk.out, Hat3.out, if_neg (by simp), if_pos (by rw [Cl.out, Hq.out]; simp)]
                rw [Hs2.out, hbe, if_pos (by decide)]; rfl, (below_box2 _ _ _).trans (Hl1.out.mono (by omega))⟩
          · have hq1 : ((k : Int) == (bl.length : Int) - 1) = false := by simpa using (show ¬ (k : Int) = (bl.length : Int) - 1 by omega)
            have Hq := Lib.hid (decide_eq_false hq)
            clear hq
            go_wp2_with fail
            refine (closes_any x.op w1).mono ?_
            rintro e w2 ⟨rfl, rfl⟩
            cases cl : closesF x.op with
            | true =>
              have Cl := Lib.hid cl
              clear cl
              go_wp2_with fail
              go_ret
              exact ⟨by
                have hbe : blockF (instrFaultF fs c.vars c.results c.blocks.length) bl = 4 := by rw [Hbk.out, Hat3.out, if_neg (by simp), if_pos (by rw [Cl.out, Hq.out]; simp)]
                rw [Hs2.out, hbe, if_pos (by decide)]; rfl, (below_box2 _ _ _).trans (Hl1.out.mono (by omega))⟩
            | false =>
              have Cl := Lib.hid cl
              clear cl
              go_wp2_with fail
              go_roundw
              case rel => exact ⟨k + 1, by omega, by go_num, by rw [Hbk.out, Hat3.out, if_neg (by simp), if_neg (by rw [Cl.out, Hq.out]; simp)], Hl1.out⟩
              case measure => simp [intOf]; omega
        · have hke : k = bl.length := by omega
          subst hke
          have Hs3 := Lib.hid (show codeFaultF fs c = blocksF (instrFaultF fs c.vars c.results c.blocks.length) 6000 (c.blocks.drop (n + 1)) (all + bl.length) by
            have hbe : blockF (instrFaultF fs c.vars c.results c.blocks.length) bl = 0 := by rw [Hbk.out, List.drop_length]; rfl
            rw [Hs2.out, hbe, if_neg (by simp)])
          have hg := G.out
          clear Hbk Hs2
          go_wp2_with fail
          go_roundw
          case rel => exact ⟨all + bl.length, n + 1, by omega, by omega, by go_num, by go_num, Hs3.out, hbel⟩
          case measure => simp [intOf]; omega
    · have hne : n = c.blocks.length := by omega
      subst hne
      go_wp2_with fail
      go_ret
      exact ⟨by rw [Hrs.out, List.drop_length]; rfl, (below_box2 _ _ _).trans (hbel.mono (by omega))⟩
end Go.Proofs.YtaomlfbcfmmhlaaDoor

/-
  The names of a program's functions: plain laws (each name once).
-/
namespace Go.Pst

theorem nodupA_take_succ {α : Type} {l : List α} {n : Nat} (hn : n < l.length) (h : (l.take n).Nodup) (hne : ∀ j (hj : j < n), ¬ l[j] = l[n]) : (l.take (n + 1)).Nodup := by
  rw [List.take_succ_eq_append_getElem hn, List.nodup_append]
  refine ⟨h, by simp, ?_⟩
  intro a ha b hb e
  rw [List.mem_singleton] at hb
  subst hb
  obtain ⟨j, hj, hje⟩ := List.mem_iff_getElem.1 ha
  rw [List.length_take] at hj
  rw [List.getElem_take] at hje
  exact hne j (by omega) (hje.trans e)
theorem nodupA_not {α : Type} {l : List α} {m n : Nat} (hn : n < l.length) (hm : m < n) (h : l[m] = l[n]) : ¬ l.Nodup := by
  intro hd
  have := (List.nodup_iff_pairwise_ne.1 hd)
  rw [List.pairwise_iff_getElem] at this
  exact this m n (by omega) hn hm h

abbrev namesF (fs : List PCode) : List ByteArray := fs.map (·.name)
theorem names_step {fs : List PCode} {n : Nat} (hn : n < fs.length) (h : ((namesF fs).take n).Nodup) (ha : nameAt fs[n].name fs = (n : Int)) : ((namesF fs).take (n + 1)).Nodup := by
  refine nodupA_take_succ (by simpa using hn) h (fun j hj e => ?_)
  rcases firstOf_spec (fun c : PCode => decide (c.name = fs[n].name)) fs 0 with ⟨h1, _⟩ | ⟨i, hi, h1, _, h3⟩
  · have : nameAt fs[n].name fs = -1 := h1
    omega
  · have h1' : nameAt fs[n].name fs = ((0 + i : Nat) : Int) := h1
    obtain rfl : i = n := by omega
    have := h3 j hj
    simp at this e
    exact this e
theorem names_bad {fs : List PCode} {n : Nat} (hn : n < fs.length) (ha : ¬ nameAt fs[n].name fs = (n : Int)) : ¬ (namesF fs).Nodup := by
  rcases firstOf_spec (fun c : PCode => decide (c.name = fs[n].name)) fs 0 with ⟨_, h2⟩ | ⟨i, hi, h1, h2, h3⟩
  · exfalso
    rw [List.any_eq_false] at h2
    exact h2 _ (List.getElem_mem hn) (by simp)
  · have h1' : nameAt fs[n].name fs = ((0 + i : Nat) : Int) := h1
    rcases Nat.lt_trichotomy i n with h | h | h
    · exact nodupA_not (by simpa using hn) h (by simpa using h2)
    · exact absurd (by rw [h1', h]; simp) ha
    · have := h3 n h
      simp at this
theorem names_any {fs : List PCode} {n : Nat} (hn : n < fs.length) : ((fs.take n).any fun c => decide (c.name = fs[n].name)) = false ↔ ∀ j (hj : j < n), ¬ (namesF fs)[j]'(by simp; omega) = (namesF fs)[n]'(by simpa using hn) := by
  rw [List.any_eq_false]
  constructor
  · intro h j hj e
    refine h fs[j] (List.mem_iff_getElem.2 ⟨j, by rw [List.length_take]; omega, by rw [List.getElem_take]⟩) ?_
    simpa using e
  · intro h c hc hd
    obtain ⟨j, hj, rfl⟩ := List.mem_iff_getElem.1 hc
    rw [List.length_take] at hj
    refine h j (by omega) ?_
    simpa using hd
end Go.Pst

/-
  The reference's ProgramFault: the contract.
-/
namespace Go.Proofs.YtaomlfbcfmmhlaaDoor
open Go.RowKit Go.Pst
set_option linter.unusedVariables false

theorem codesF_at {g : PCode → Int} {l : List PCode} {n : Nat} (hn : n < l.length) : codesF g (l.drop n) = if g l[n] ≠ 0 then g l[n] else codesF g (l.drop (n + 1)) := by
  rw [List.drop_eq_getElem_cons hn]; rfl
theorem names_all {fs : List PCode} (h : ((namesF fs).take fs.length).Nodup) : (fs.map (·.name)).Nodup := by
  rw [List.take_of_length_le (by simp)] at h; exact h
theorem headD_at {fs : List PCode} (h : 0 < fs.length) : fs.headD default = fs[0] := by
  cases fs with
  | nil => simp at h
  | cons a r => rfl
theorem heads_sum (a b : Int) (ha : InI a) (hb : InI b) : ((a + b) % 18446744073709551616 = 0) ↔ a = wrap64 (-b) := by
  unfold InI at ha hb
  by_cases e : b = -9223372036854775808
  · subst e
    unfold wrap64; omega
  · unfold wrap64; omega

set_option maxRecDepth 4000 in
set_option maxHeartbeats 2000000 in
theorem programFault_any (p : PProg) (pcs : List Value) (w : World) (hp : rProg (fun _ => True) w pcs p) (hf : FitProg p) :
    Calls Tryd.prog 63 #[.agg pcs.toArray] w fun e w' => e = .returned (.int .i64 (programFaultF p)) ∧ Below w.heap.size w w' := by
  obtain ⟨p0, p1, rfl, hp0, hp1⟩ := hp
  obtain ⟨ap, cp, rfl, hcapp, hmaxp, hatp⟩ := rCodes_val hp0
  obtain ⟨ad, cd, rfl, hld, -, -⟩ := rInts_open hp1
  unfold maxLen at hmaxp
  have hlf : p.funcs.length ≤ 9223372036854775807 := by omega
  have Hatp := Lib.hid hatp
  have Hp := Lib.hid hp0
  have Hf := Lib.hid hf
  clear hatp hp0 hp1 hf hcapp hmaxp
  by_cases z : p.funcs.length = 0
  · have z1 : ((p.funcs.length : Int) == 0) = true := by simpa using z
    have Z := Lib.hid (show programFaultF p = 6 by unfold programFaultF headsFault; rw [if_pos z]; rfl)
    clear z
    go_enter Tryd.func63, Tryd.ntmps63
    go_wp2_with fail
    go_ret
    exact ⟨by rw [Z.out]; rfl, (Below.refl _ _).alloc (Nat.le_refl _) _⟩
  by_cases s : 20000 < p.data.length ∨ 40 < p.funcs.length
  · have z1 : ((p.funcs.length : Int) == 0) = false := by simpa using z
    have Z := Lib.hid (show programFaultF p = 1 by unfold programFaultF headsFault; rw [if_neg z, if_pos s]; rfl)
    have s' : 20000 < (p.data.length : Int) ∨ 40 < (p.funcs.length : Int) := by omega
    clear z s
    go_enter Tryd.func63, Tryd.ntmps63
    rcases s' with s | s
    · go_wp2_with fail
      go_ret
      exact ⟨by rw [Z.out]; rfl, (Below.refl _ _).alloc (Nat.le_refl _) _⟩
    · by_cases s2 : 20000 < (p.data.length : Int)
      all_goals
        go_wp2_with fail
        go_ret
        exact ⟨by rw [Z.out]; rfl, (Below.refl _ _).alloc (Nat.le_refl _) _⟩
  have z1 : ((p.funcs.length : Int) == 0) = false := by simpa using z
  have z : ¬ (p.funcs.length = 0 ∨ 20000 < p.data.length ∨ 40 < p.funcs.length) := by omega
  have Z := Lib.hid z
  have z2 : decide ((p.data.length : Int) > 20000) = false := decide_eq_false (by omega)
  have z3 : decide ((p.funcs.length : Int) > 40) = false := decide_eq_false (by omega)
  have hlpos : 0 < p.funcs.length := by omega
  clear z s
  have hhead : headsFault p = if ¬ (p.funcs.map (·.name)).Nodup then 7 else if ((p.funcs.headD default).params + (p.funcs.headD default).results) % 18446744073709551616 ≠ 0 then 10 else 0 := by
    have hz := Z.out
    unfold headsFault
    rw [if_neg (fun h => hz (Or.inl h)), if_neg (fun h => hz (Or.inr h))]
  have Hh := Lib.hid hhead
  clear hhead
  go_enter Tryd.func63, Tryd.ntmps63
  go_wp2_with fail
  clear z1 z2 z3
  go_loopw [3] (fun i wr => ∃ n : Nat, n ≤ p.funcs.length ∧ i = .int .i64 n ∧ ((namesF p.funcs).take n).Nodup ∧ Below (w.heap.size + 1) (w.alloc (.cells #[.slice ap p.funcs.length cp, .slice ad p.data.length cd] 25)) wr) (fun i _ => p.funcs.length - (intOf i).toNat)
  case atStart => exact ⟨0, Nat.zero_le _, rfl, by simp, Below.refl _ _⟩
  case round =>
    obtain ⟨n, hn, rfl, hnd, hbel⟩ := hrel
    have Hnd := Lib.hid hnd
    clear hnd
    have bp0 := hbel.cell (p := ⟨w.heap.size, 0, none⟩) (by simp)
    rw [World.cell?_alloc_at _ _ _ _ rfl] at bp0
    have bp0 : wr.cell? ⟨w.heap.size, 0, none⟩ = some (.slice ap p.funcs.length cp) := bp0
    have bp1 := hbel.cell (p := ⟨w.heap.size, 1, none⟩) (by simp)
    rw [World.cell?_alloc_at _ _ _ _ rfl] at bp1
    have bp1 : wr.cell? ⟨w.heap.size, 1, none⟩ = some (.slice ad p.data.length cd) := bp1
    have hbw : Below w.heap.size w wr := box_below hbel
    have hsz : w.heap.size + 1 ≤ wr.heap.size := by have := hbel.size; simpa using this
    have Hsz := Lib.hid hsz
    clear hsz
    by_cases hnl : n < p.funcs.length
    · have hnl1 : (n : Int) < (p.funcs.length : Int) := by omega
      obtain ⟨b, off, v5, rfl, -, hb, h0, h1, h2, h3, h4, h5, hI, hbs⟩ := Hatp.out n hnl
      have hy0 : wr.cell? ⟨b, off + n * 6, none⟩ = _ := (hbw.cell (p := ⟨b, off + n * 6, none⟩) hb).trans h0
      have hkeep := Keep.of_below' (S := fun _ => True) (hbw.trans ((Drawn.drew wr).below _)) (fun k hk _ => hk)
      have hcal := funcNamed_any p.funcs[n].name p.funcs (.slice (some ⟨b, off, none⟩) p.funcs.length cp) (.slice ad p.data.length cd) wr.drew (Good.kept hkeep Hp.out)
      have Hcal := Lib.hid hcal
      have Hstep := Lib.hid (names_step hnl Hnd.out)
      have Hbad := Lib.hid (names_bad hnl)
      have hrange := firstOf_range (fun c : PCode => decide (c.name = p.funcs[n].name)) p.funcs
      have hra : -1 ≤ nameAt p.funcs[n].name p.funcs ∧ nameAt p.funcs[n].name p.funcs < p.funcs.length := hrange
      clear hcal h0 h1 h2 h3 h4 h5 hI hbs hkeep hrange
      generalize p.funcs[n].name = s at *
      generalize hev : nameAt s p.funcs = ev at *
      have Hev := Lib.hid hev
      clear hev
      have Hbw := Lib.hid hbw
      have Hbel := Lib.hid hbel
      clear hbw hbel
      go_wp2_with fail
      go_region_with (go_at_call 99; refine (Hcal.out).mono ?_; rintro e w1 ⟨rfl, hb1⟩)
      all_goals
        have hb2 : Below wr.heap.size wr w1 := ((Drawn.drew wr).below _).trans hb1
        have Hb2 := Lib.hid hb2
        clear hb1 hb2 Hcal
        by_cases he : ev = (n : Int)
        · have he1 : (ev != (n : Int)) = false := by simpa using he
          have He := Lib.hid he
          clear he
          go_wp2_with fail
          go_roundw
          case rel => exact ⟨n + 1, by omega, by go_num, Hstep.out He.out, Hbel.out.trans (Hb2.out.mono Hsz.out)⟩
          case measure => simp [intOf]; omega
        · have he1 : (ev != (n : Int)) = true := by simpa using he
          have He := Lib.hid he
          clear he
          go_wp2_with fail
          go_ret
          exact ⟨by unfold programFaultF; rw [Hh.out, if_pos (Hbad.out He.out)]; rfl, Hbw.out.trans (Hb2.out.mono (by have := Hsz.out; omega))⟩
    · have hne : n = p.funcs.length := by omega
      subst hne
      have Hnm := Lib.hid (names_all Hnd.out)
      have hh2 : headsFault p = if ((p.funcs.headD default).params + (p.funcs.headD default).results) % 18446744073709551616 ≠ 0 then 10 else 0 := by
        rw [Hh.out, if_neg (fun h => h Hnm.out)]
      have Hh2 := Lib.hid hh2
      clear hh2 Hnm Hnd
      obtain ⟨b, off, v5, rfl, -, hb, h0, h1, h2, h3, h4, h5, hI, hbs⟩ := Hatp.out 0 hlpos
      have hy1 : wr.cell? ⟨b, off + 1, none⟩ = _ := (hbw.cell (p := ⟨b, off + 1, none⟩) hb).trans (by simpa using h1)
      have hy2 : wr.cell? ⟨b, off + 2, none⟩ = _ := (hbw.cell (p := ⟨b, off + 2, none⟩) hb).trans (by simpa using h2)
      have Hs := Lib.hid (heads_sum _ _ hI.2.1 hI.2.2.1)
      have h00 : (0 : Int) < (p.funcs.length : Int) := by omega
      have Hd0 := Lib.hid (headD_at hlpos)
      clear h0 h1 h2 h3 h4 h5 hbs hI
      cases h : (p.funcs[0].params != wrap64 (-p.funcs[0].results)) with
      | true =>
        go_wp2_with fail
        go_quiet (fail)
        go_wp2_with fail
        go_ret
        exact ⟨by
          have hx : headsFault p = 10 := by rw [Hh2.out, Hd0.out, if_pos (fun e => by have := Hs.out.1 e; simp [this] at h)]
          unfold programFaultF; rw [hx]; rfl, hbw.trans (Drawn.below (w := wr) ⟨_, rfl⟩ _)⟩
      | false =>
        go_wp2_with fail
        go_quiet (fail)
        go_wp2_with fail
        have hh3 : headsFault p = 0 := by rw [Hh2.out, Hd0.out, if_neg (fun hn => hn (Hs.out.2 (by simpa using h)))]
        have Hh3 := Lib.hid (show programFaultF p = codesF (codeFaultF p.funcs) p.funcs by unfold programFaultF; rw [hh3]; rfl)
        clear hh3 Hh2 Hs Hd0 h
        have Hb0 := Lib.hid (show Below (w.heap.size + 1) (w.alloc (.cells #[.slice (some ⟨b, off, none⟩) p.funcs.length cp, .slice ad p.data.length cd] 25)) (wr.drewN nq) from hbel.trans (Drawn.below (w := wr) ⟨_, rfl⟩ _))
        clear hbel bp0 bp1 hy1 hy2 hbw
        go_loopw [4] (fun i wr => ∃ n : Nat, n ≤ p.funcs.length ∧ i = .int .i64 n ∧ programFaultF p = codesF (codeFaultF p.funcs) (p.funcs.drop n) ∧ Below (w.heap.size + 1) (w.alloc (.cells #[.slice (some ⟨b, off, none⟩) p.funcs.length cp, .slice ad p.data.length cd] 25)) wr) (fun i _ => p.funcs.length - (intOf i).toNat)
        case atStart => exact ⟨0, Nat.zero_le _, rfl, by rw [Hh3.out]; rfl, Hb0.out⟩
        case round =>
          obtain ⟨n, hn, rfl, hrs, hbel⟩ := hrel
          have Hrs := Lib.hid hrs
          clear hrs
          clear bp0 bp1
          have bp := fun j => hbel.cell (p := ⟨w.heap.size, j, none⟩) (by show w.heap.size < w.heap.size + 1; omega)
          simp only [World.cell?_alloc_at _ _ _ _ rfl] at bp
          have bp0 : wr.cell? ⟨w.heap.size, 0, none⟩ = some (.slice (some ⟨b, off, none⟩) p.funcs.length cp) := bp 0
          have bp1 : wr.cell? ⟨w.heap.size, 1, none⟩ = some (.slice ad p.data.length cd) := bp 1
          have hbw : Below w.heap.size w wr := box_below hbel
          have hsz : w.heap.size + 1 ≤ wr.heap.size := by have := hbel.size; simpa using this
          have Hsz := Lib.hid hsz
          clear bp hsz
          by_cases hnl : n < p.funcs.length
          · have hnl1 : (n : Int) < (p.funcs.length : Int) := by omega
            obtain ⟨b', off', v5, hbb, -, -, h0, h1, h2, h3, h4, h5, hI, hbs⟩ := Hatp.out n hnl
            obtain ⟨rfl, rfl⟩ : b = b' ∧ off = off' := by simpa using hbb
            have hy0 : wr.cell? ⟨b, off + n * 6, none⟩ = _ := (hbw.cell (p := ⟨b, off + n * 6, none⟩) hb).trans h0
            have hy1 : wr.cell? ⟨b, off + n * 6 + 1, none⟩ = _ := (hbw.cell (p := ⟨b, off + n * 6 + 1, none⟩) hb).trans h1
            have hy2 : wr.cell? ⟨b, off + n * 6 + 2, none⟩ = _ := (hbw.cell (p := ⟨b, off + n * 6 + 2, none⟩) hb).trans h2
            have hy3 : wr.cell? ⟨b, off + n * 6 + 3, none⟩ = _ := (hbw.cell (p := ⟨b, off + n * 6 + 3, none⟩) hb).trans h3
            have hy4 : wr.cell? ⟨b, off + n * 6 + 4, none⟩ = _ := (hbw.cell (p := ⟨b, off + n * 6 + 4, none⟩) hb).trans h4
            have hy5 : wr.cell? ⟨b, off + n * 6 + 5, none⟩ = _ := (hbw.cell (p := ⟨b, off + n * 6 + 5, none⟩) hb).trans h5
            have hkeep := Keep.of_below' (S := fun _ => True) (hbw.trans ((Drawn.drew wr).below _)) (fun k hk _ => hk)
            have hcal := codeFault_any p.funcs (.slice (some ⟨b, off, none⟩) p.funcs.length cp) (.slice ad p.data.length cd) p.funcs[n] _ wr.drew (Good.kept hkeep Hp.out) (Good.kept hkeep ⟨v5, rfl, hI, hbs⟩) (Hf.out.1.2 _ (List.getElem_mem hnl))
            have Hcal := Lib.hid hcal
            have Hat := Lib.hid (codesF_at (g := codeFaultF p.funcs) hnl)
            clear hcal h0 h1 h2 h3 h4 h5 hI hbs hkeep hbb
            generalize p.funcs[n] = c at *
            generalize hev : codeFaultF p.funcs c = ev at *
            have Hbw := Lib.hid hbw
            have Hbel := Lib.hid hbel
            clear hbw hbel hev
            go_wp2_with fail
            go_still_tail 6, (by kernel_rfl)
            change wpList _ _ _ _ _ wr.drew
            go_wp2_with fail
            refine (Hcal.out).mono ?_
            rintro e w1 ⟨rfl, hb1⟩
            have hb2 : Below wr.heap.size wr w1 := ((Drawn.drew wr).below _).trans hb1
            have Hb2 := Lib.hid hb2
            clear hb1 hb2 Hcal
            by_cases he : ev = 0
            · subst he
              go_wp2_with fail
              go_roundw
              case rel => first | exact ⟨n + 1, by omega, by go_num, by rw [Hrs.out, Hat.out, if_neg (by simp)], Hbel.out.trans (Hb2.out.mono Hsz.out)⟩ | ((repeat apply Exists.intro); exact ⟨⟨n + 1, by omega, by go_num, by rw [Hrs.out, Hat.out, if_neg (by simp)], Hbel.out.trans (Hb2.out.mono Hsz.out)⟩, rfl⟩)
              case measure => simp [intOf]; omega
            · have he1 : (ev != 0) = true := by simpa using he
              have He := Lib.hid he
              clear he
              go_wp2_with fail
              go_ret
              exact ⟨by rw [Hrs.out, Hat.out, if_pos He.out]; rfl, Hbw.out.trans (Hb2.out.mono (by have := Hsz.out; omega))⟩
          · have hne : n = p.funcs.length := by omega
            subst hne
            go_wp2_with fail
            go_ret
            exact ⟨by rw [Hrs.out, List.drop_length]; rfl, hbw⟩
end Go.Proofs.YtaomlfbcfmmhlaaDoor

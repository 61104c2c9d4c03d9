/-
  Texts joined: IrRun SameRun IrTables RunTables.
-/
import Derived.Test.YtaomlfbcfmmhlaaDoorBigK
import Derived.Test.YtaomlfbcfmmhlaaDoorBigL
import Derived.Test.YtaomlfbcfmmhlaaDoorBigH
import Derived.ProofKit
import Derived.LaidMore
import Derived.OpenShut
import Derived.Stop.Joined
import Derived.Stop.LaidErr

/-
  ir.Run: the contract.
-/
namespace Go.Proofs.YtaomlfbcfmmhlaaDoor
open Go.RowKit Go.Pst
set_option linter.unusedVariables false
set_option linter.unusedSimpArgs false

theorem cloneInts_any (l : List Int) (v : Value) (w : World) (h : rInts (fun _ => True) w [v] l) (hl : l.length ≤ 20000) :
    Calls Tryd.prog 60 #[v] w fun e w' => ∃ v', e = .returned v' ∧ w'.ownsRow w.heap.size 3 1 v' l.length (l.map (Value.int .i64)) ∧ Below w.heap.size w w' := by
  obtain ⟨a, c, rfl, h1, h2, h3⟩ := rInts_val h
  cases a with
  | none =>
    have : l = [] := by
      cases l with
      | nil => rfl
      | cons x r => obtain ⟨_, _, he, _⟩ := h3 0 (by simp); simp at he
    subst this
    refine (Tryd.slices_Clone_int_nil _ c w).mono ?_
    rintro e w' ⟨rfl, rfl⟩
    exact ⟨_, rfl, ⟨by simp, Or.inl ⟨rfl, rfl⟩⟩, Below.refl _ _⟩
  | some ad =>
    by_cases h0 : l.length = 0
    · have : l = [] := List.eq_nil_of_length_eq_zero h0
      subst this
      refine (Tryd.slices_Clone_int_zero ad c w).mono ?_
      rintro e w' ⟨v', he, ho, -, hb⟩
      exact ⟨v', he, ho, hb⟩
    · obtain ⟨b, off, had, -⟩ := h3 0 (by omega)
      obtain rfl : ad = ⟨b, off, none⟩ := by simpa using had
      refine (Tryd.slices_Clone_int b off l.length c l w (Nat.le_refl _) (by omega) (fun j hj => ?_)).mono ?_
      · obtain ⟨b', o', he, -, -, hc, -⟩ := h3 j hj
        obtain ⟨rfl, rfl⟩ : b = b' ∧ off = o' := by simpa using he
        rw [hc]
        simp [List.getD_eq_getElem?_getD, hj]
      · rintro e w' ⟨v', he, ho, -, hb⟩
        rw [List.take_length] at ho
        exact ⟨v', he, ho, hb⟩

theorem IrAt.start [Old] {w2 : World} {base bm : Nat} {v1 vW : Value} {bF oF cF : Nat} {p : PProg} {limit : Int} (hp : rProg (· < base) w2 [.slice (some ⟨bF, oF, none⟩) p.funcs.length cF, v1] p)
    (hm : w2.heap[bm]? = some (.cells #[.slice (some ⟨bF, oF, none⟩) p.funcs.length cF, v1, vW, .int .i64 limit, .slice none 0 0, .slice none 0 0, .int .i64 0] 102)) (hb : base ≤ bm)
    (oW : w2.ownsRow base 3 1 vW p.data.length (p.data.map (Value.int .i64))) (hne : vW.ownBlock ≠ some bm) (hbel : Below base Old.w0 w2) (hbig : base ≤ w2.heap.size) :
    ∃ ρ, IrAt ρ w2 base bm v1 vW (.slice none 0 0) (.slice none 0 0) bF oF cF p limit 0 p.data [] [] := by
  have hl : bm < w2.heap.size := (Array.getElem?_eq_some_iff.1 hm).1
  refine ⟨fun k => if k = bm then some .s else some .w, { prog := hp, c0 := by simp [World.cell?, hm], c2 := by simp [World.cell?, hm], c3 := by simp [World.cell?, hm], c4 := by simp [World.cell?, hm], c5 := by simp [World.cell?, hm], c6 := by simp [World.cell?, hm], z := fun j => by simp [World.frozen?, hm], lm := ⟨by simp, hb, hl⟩, lw := fun k hk => ?_, ll := fun k hk => by simp [Value.ownBlock] at hk, lc := fun k hk => by simp [Value.ownBlock] at hk, oW := oW, oL := ⟨by simp, Or.inl ⟨rfl, rfl⟩⟩, rF := ⟨by simp [irRow], Or.inl ⟨rfl, rfl⟩⟩, levs := trivial, big := hbig, below := hbel }⟩
  have : k ≠ bm := fun e => hne (by rw [hk, e])
  simp [this]

/-- What ir's loop knows: so many steps are left at most. -/
def IrLoop [Old] (base bm : Nat) (v1 : Value) (bF oF cF : Nat) (p : PProg) (limit : Int) (R : Int × List ByteArray) (k : Nat) (s2 : Value) (w : World) : Prop :=
  ∃ ρ vW vL vF words lines fr end_, IrAt ρ w base bm v1 vW vL vF bF oF cF p limit end_ words lines fr ∧
    ((∃ n : Nat, s2 = .int .i64 n ∧ end_ = 0 ∧ k = n + 1 ∧ n ≤ 1000000 ∧ Fits p false limit (stateOf words lines fr) ∧ runF p false limit n (stateOf words lines fr) = R) ∨
     (end_ ≠ 0 ∧ (∃ z, s2 = .int .i64 z) ∧ k = 0 ∧ R = (end_, lines)))
theorem nameAt_first (s : ByteArray) (l : List PCode) (h : 0 < l.length) (hs : s = l[0].name) : nameAt s l = 0 := by
  cases l with
  | nil => simp at h
  | cons x r => simp [nameAt, firstOf, hs]
theorem nil_int (w : World) (base : Nat) : w.ownsRow base 3 1 (.slice none 0 0) ([] : List Int).length (([] : List Int).map (Value.int .i64)) := ⟨rfl, Or.inl ⟨rfl, rfl⟩⟩
theorem IrAt.setEnd [Old] {ρ : Nat → Option Lab} {w : World} {base bm : Nat} {v1 vW vL vF : Value} {bF oF cF : Nat} {p : PProg} {limit end_ : Int} {words : List Int} {lines : List ByteArray} {fr : List (Lev × LA)} (h : IrAt ρ w base bm v1 vW vL vF bF oF cF p limit end_ words lines fr) (e : Int) :
    IrAt ρ (w.setCell ⟨bm, 6, none⟩ (.int .i64 e)) base bm v1 vW vL vF bF oF cF p limit e words lines fr :=
  h.setM 6 _ (by decide) (by simp) (by simp) (by simp) (by simp) (by simp) (by simp) (by simp) (by simp) (by decide) (by decide) h.lw h.ll h.lc h.oW h.oL h.rF h.levs

theorem TabOK.below {base : Nat} {w w' : World} (h : TabOK w) (hb : Below base w w') (hl : 5 < base) : TabOK w' :=
  h.since (F := fun k => ¬ k < base) ⟨hb.os, hb.tape, hb.output, hb.size, fun k _ hk => hb.block k (Decidable.of_not_not hk)⟩ (fun e => e hl)
theorem irRun_end [Old] {w w1 W W' : World} {ρ : Nat → Option Lab} {bm : Nat} {v1 vW vL vF : Value} {bF oF cF : Nat} {p : PProg} {limit end_ : Int} {words : List Int} {lines : List ByteArray} {fr : List (Lev × LA)} (h : IrAt ρ W w1.heap.size bm v1 vW vL vF bF oF cF p limit end_ words lines fr)
    (hO : Old.w0 = w1) (hb : Below w.heap.size w w1) (hl : w.heap.size + 1 < w1.heap.size) (hs : Since (fun k => k = w.heap.size + 1) W W') : ResPost w ((end_, lines), 0) (.returned (.tuple #[.agg #[vL, .int .i64 end_], .int .i64 0])) W' := by
  have hB : Below w1.heap.size w1 W := by have := h.below; rw [hO] at this; exact this
  have h1 := hb.size
  have h2 := hb.trans (hB.mono h1)
  refine ⟨vL, rfl, hs.row (ownsRow_from h.oL h1) (fun k hk e => ?_), h2.trans (hs.below h2.size (fun k e => by omega))⟩
  have := (h.oL.lt k hk).1
  omega

set_option maxRecDepth 100000 in
set_option maxHeartbeats 4000000 in
theorem irRun_any (p : PProg) (v0 v1 : Value) (heap fuel : Int) (w : World) (hp : rProg (fun _ => True) w [v0, v1] p) (hf : FitProg p) (hh : InI heap) (hfu : InI fuel) (hL : IrLaid w) (hT : TabOK w) :
    Calls Tryd.prog 18 #[.agg #[v0, v1], .int .i64 heap, .int .i64 fuel] w (ResPost w (resF (programFaultF p) false 1000000 p heap fuel)) := by
  obtain ⟨p0, p1, hv, hp0, hp1⟩ := id hp
  obtain ⟨rfl, rfl⟩ : v0 = p0 ∧ v1 = p1 := by simpa using hv
  obtain ⟨ap, cp, rfl⟩ := rSlice_shape hp0
  obtain ⟨ad, cd, rfl, hld, -, -⟩ := rInts_open hp1
  have Hp := Lib.hid hp
  have Hp1 := Lib.hid hp1
  have HL := Lib.hid hL
  have HT := Lib.hid hT
  obtain ⟨hh1, hh2⟩ := hh
  obtain ⟨hfu1, hfu2⟩ := hfu
  clear hp hv hp0 hp1 hL hT
  go_enter Tryd.func18, Tryd.ntmps18
  go_wp2_with fail
  generalize hw0 : (w.alloc (.cells #[.slice ap p.funcs.length cp, .slice ad p.data.length cd] 25)).alloc (.cells #[.slice none 0 0, .int .i64 0] 41) = w0
  have hbel : Below w.heap.size w w0 := by rw [← hw0]; exact ((Below.refl _ _).alloc (Nat.le_refl _) _).alloc (by simp) _
  have hsz : w0.heap.size = w.heap.size + 2 := by rw [← hw0]; simp
  have bp0 : w0.cell? ⟨w.heap.size, 0, none⟩ = some (.slice ap p.funcs.length cp) := by rw [← hw0, World.cell?_alloc_lt _ _ _ (by simp), World.cell?_alloc_at _ _ _ _ rfl]; rfl
  have bp1 : w0.cell? ⟨w.heap.size, 1, none⟩ = some (.slice ad p.data.length cd) := by rw [← hw0, World.cell?_alloc_lt _ _ _ (by simp), World.cell?_alloc_at _ _ _ _ rfl]; rfl
  have br0 : w0.cell? ⟨w.heap.size + 1, 0, none⟩ = some (.slice none 0 0) := by rw [← hw0, World.cell?_alloc_at _ _ _ _ (by simp)]; rfl
  have br1 : w0.cell? ⟨w.heap.size + 1, 1, none⟩ = some (.int .i64 0) := by rw [← hw0, World.cell?_alloc_at _ _ _ _ (by simp)]; rfl
  have bz0 : w0.frozen? ⟨w.heap.size + 1, 0, none⟩ = false := by rw [← hw0, World.frozen?_alloc_at _ _ _ _ (by simp)]
  have bz1 : w0.frozen? ⟨w.heap.size + 1, 1, none⟩ = false := by rw [← hw0, World.frozen?_alloc_at _ _ _ _ (by simp)]
  clear hw0
  have hk0 := Keep.of_below' (S := fun _ => True) hbel (fun k hk _ => hk)
  refine (irCheck_any p _ w0 (Good.kept hk0 Hp.out) hf (HL.out.below hbel)).mono ?_
  rintro e w1 ⟨rfl, hb1⟩
  have hb2 : Below w.heap.size w w1 := hbel.trans (hb1.mono (by omega))
  have ap0 := (hb1.cell (p := ⟨w.heap.size, 0, none⟩) (by show w.heap.size < w0.heap.size; omega)).trans bp0
  have ap1 := (hb1.cell (p := ⟨w.heap.size, 1, none⟩) (by show w.heap.size < w0.heap.size; omega)).trans bp1
  have ar0 := (hb1.cell (p := ⟨w.heap.size + 1, 0, none⟩) (by show w.heap.size + 1 < w0.heap.size; omega)).trans br0
  have ar1 := (hb1.cell (p := ⟨w.heap.size + 1, 1, none⟩) (by show w.heap.size + 1 < w0.heap.size; omega)).trans br1
  have az0 := (hb1.frozen (p := ⟨w.heap.size + 1, 0, none⟩) (by show w.heap.size + 1 < w0.heap.size; omega)).trans bz0
  have az1 := (hb1.frozen (p := ⟨w.heap.size + 1, 1, none⟩) (by show w.heap.size + 1 < w0.heap.size; omega)).trans bz1
  have Hb2 := Lib.hid hb2
  have hz1 := hb1.size
  clear bp0 bp1 br0 br1 bz0 bz1 hb1 hbel hk0 hb2
  generalize hev : programFaultF p = ev at *
  by_cases hz : ev = 0
  · subst hz
    by_cases hr : (p.data.length : Int) ≤ heap ∧ heap ≤ 20000 ∧ 0 ≤ fuel ∧ fuel ≤ 1000000
    · obtain ⟨hr1, hr2, hr3, hr4⟩ := hr
      have d1 : decide (heap < (p.data.length : Int)) = false := decide_eq_false (by omega)
      have d2 : decide (heap > 20000) = false := decide_eq_false (by omega)
      have d3 : decide (fuel < 0) = false := decide_eq_false (by omega)
      have d4 : decide (fuel > 1000000) = false := decide_eq_false (by omega)
      have Hr := Lib.hid (show resF 0 false 1000000 p heap fuel = (runF p false heap fuel.toNat (startF p), 0) by
        unfold resF
        rw [if_neg (by simp), if_pos ⟨hr1, hr2, hr3, hr4⟩])
      have hs := programFaultF_ok hev
      have HS := Lib.hid hs
      clear hev hs
      have hs := HS.out
      have h00 : 0 < p.funcs.length := hs.some_.1
      obtain ⟨bF, oF, rfl, hbF, hnm⟩ : ∃ bF oF, ap = some ⟨bF, oF, none⟩ ∧ bF < w.heap.size ∧ w.cell? ⟨bF, oF, none⟩ = some (.string (p.funcs[0]'h00).name) := by
        obtain ⟨u0, u1, hv, hc, -⟩ : rProg (· < w.heap.size) w _ p := Good.wide Hp.out (fun k hk _ => hk)
        obtain ⟨rfl, rfl⟩ : _ = u0 ∧ _ = u1 := by simpa using hv
        obtain ⟨a, c, hv, -, -, h⟩ := rSlice_val hc
        obtain ⟨b, off, es, rfl, hS, hb, hl, hcl, v5, rfl, -⟩ := h 0 h00
        have h0 := hcl 0 (by decide)
        exact ⟨b, off, by simpa using (Value.slice.inj hv).1, hS, by simpa using h0⟩
      have dnm := (Hb2.out.cell (p := ⟨bF, oF, none⟩) hbF).trans hnm
      have hk1 := Keep.of_below' (S := fun _ => True) Hb2.out (fun k hk _ => hk)
      have hbF2 : bF < w1.heap.size := by omega
      have hdr := (Since.drew (fun _ => False) w1).below (Nat.le_refl w1.heap.size) (fun _ (e : False) => e.elim)
      have Hcl := Lib.hid (cloneInts_any p.data _ w1.drew (Good.kept (Keep.of_below' (S := fun _ => True) hdr (fun k hk _ => hk)) (Good.kept hk1 Hp1.out)) (by omega))
      have hlp : w.heap.size < w1.heap.size := by omega
      have hlr : w.heap.size + 1 < w1.heap.size := by omega
      have hdat : ∀ x ∈ p.data, InI x := fun x hx => by
        obtain ⟨_, _, _, _, _, hd3⟩ := rInts_val Hp1.out
        obtain ⟨i, hi, rfl⟩ := List.mem_iff_getElem.1 hx
        obtain ⟨_, _, _, _, _, _, hI⟩ := hd3 i hi
        exact hI
      have Hst := Lib.hid (start_fits hs hr1 hdat)
      have Hn := Lib.hid (instr_n Hp.out)
      have h0c := hs.codes _ (codeAt_mem h00)
      obtain ⟨q1, q2, q3, q4⟩ := h0c.small
      obtain ⟨nv, hnv⟩ := Int.eq_ofNat_of_zero_le q1
      have hfl := hs.some_.2
      have Hnm := Lib.hid (nameAt_first _ p.funcs h00 rfl)
      have Hnv := Lib.hid (show (codeAt p 0).vars = (nv : Int) ∧ nv ≤ 3000 from ⟨hnv, by omega⟩)
      obtain ⟨nf, hnf⟩ := Int.eq_ofNat_of_zero_le hr3
      have Hfu := Lib.hid (show fuel.toNat = nf ∧ nf ≤ 1000000 from ⟨by omega, by omega⟩)
      clear hdr hs hk1 hnm hdat h0c q1 q2 q3 q4 hnv
      generalize hR : runF p false heap fuel.toNat (startF p) = R at *
      have HRR := Lib.hid hR
      clear hR
      generalize (p.funcs[0]'h00).name = nm at *
      obtain ⟨O, hO⟩ : ∃ O : Old, O.w0 = w1 := ⟨⟨w1⟩, rfl⟩
      have HO := Lib.hid hO
      clear hO
      go_upto_region 6 with fail
      go_cut [9] from 36 to 42 (fun s9 wx => ∃ vW w2, s9 = .pointer (some ⟨w2.heap.size, 0, none⟩) ∧ w2.ownsRow w1.heap.size 3 1 vW p.data.length (p.data.map (Value.int .i64)) ∧ Below w1.heap.size w1 w2 ∧ wx = (w2.alloc (.cells #[.slice (some ⟨bF, oF, none⟩) p.funcs.length cp, .slice ad p.data.length cd, vW, .int .i64 heap, .slice none 0 0, .slice none 0 0, .int .i64 0] 102)))
      case first =>
        go_region_held3 (fun w' => w'.cell? ⟨w.heap.size, 0, none⟩ = some (.slice (some ⟨bF, oF, none⟩) p.funcs.length cp) ∧ w'.cell? ⟨w.heap.size, 1, none⟩ = some (.slice ad p.data.length cd)) (go_keep) (first | (go_at_call 60; refine Hcl.out.mono ?_; rintro e w2 ⟨vW, rfl, oW, hbc'⟩; obtain ⟨aW, cW, rfl, -, -⟩ := row_slice oW; have hbc := ((Since.drew (fun _ => False) w1).below (Nat.le_refl w1.heap.size) (fun _ (e : False) => e.elim)).trans hbc'; clear hbc'; have z0 := (hbc.cell (p := ⟨w.heap.size, 0, none⟩) hlp).trans ap0; have z1 := (hbc.cell (p := ⟨w.heap.size, 1, none⟩) hlp).trans ap1; have OW := Lib.hid oW; have HBC := Lib.hid hbc; clear oW hbc))
        all_goals (go_wp2_with fail; go_meet; exact ⟨_, _, rfl, OW.out, HBC.out, rfl⟩)
      case rest =>
        obtain ⟨vW, w2, rfl, oW, hbc, rfl⟩ := hcut
        have hb3 : Below w1.heap.size w1 (w2.alloc (.cells #[.slice (some ⟨bF, oF, none⟩) p.funcs.length cp, .slice ad p.data.length cd, vW, .int .i64 heap, .slice none 0 0, .slice none 0 0, .int .i64 0] 102)) := hbc.trans ((Since.alloc _ w2 (.cells #[.slice (some ⟨bF, oF, none⟩) p.funcs.length cp, .slice ad p.data.length cd, vW, .int .i64 heap, .slice none 0 0, .slice none 0 0, .int .i64 0] 102)).below hbc.size (fun _ (e : False) => e.elim))
        have hprog : rProg (· < w1.heap.size) ((w2.alloc (.cells #[.slice (some ⟨bF, oF, none⟩) p.funcs.length cp, .slice ad p.data.length cd, vW, .int .i64 heap, .slice none 0 0, .slice none 0 0, .int .i64 0] 102))) [.slice (some ⟨bF, oF, none⟩) p.funcs.length cp, .slice ad p.data.length cd] p :=
          Good.kept (Keep.of_below' (S := (· < w1.heap.size)) hb3 (fun k hk _ => hk)) (Good.kept (Keep.of_below' (S := (· < w1.heap.size)) Hb2.out (fun k hk _ => hk)) (Good.wide Hp.out (fun k hk _ => by have := Hb2.out.size; omega)))
        obtain ⟨ρ0, hst⟩ := IrAt.start (base := w1.heap.size) (bm := w2.heap.size) (limit := heap) (w2 := (w2.alloc (.cells #[.slice (some ⟨bF, oF, none⟩) p.funcs.length cp, .slice ad p.data.length cd, vW, .int .i64 heap, .slice none 0 0, .slice none 0 0, .int .i64 0] 102))) hprog (heap_alloc_new w2 (.cells #[.slice (some ⟨bF, oF, none⟩) p.funcs.length cp, .slice ad p.data.length cd, vW, .int .i64 heap, .slice none 0 0, .slice none 0 0, .int .i64 0] 102)) hbc.size (oW.alloc (.cells #[.slice (some ⟨bF, oF, none⟩) p.funcs.length cp, .slice ad p.data.length cd, vW, .int .i64 heap, .slice none 0 0, .slice none 0 0, .int .i64 0] 102)) (fun e => by have := (oW.lt _ e).2; omega) (by rw [HO.out]; exact hb3) hb3.size
        have d0 := (hb3.cell (p := ⟨w.heap.size, 0, none⟩) hlp).trans ap0
        have d1' := (hb3.cell (p := ⟨bF, oF, none⟩) hbF2).trans dnm
        have HST := Lib.hid hst
        have hbl := hst.lm.2.2
        clear hst hprog oW hbc hb3
        generalize (w2.alloc (.cells #[.slice (some ⟨bF, oF, none⟩) p.funcs.length cp, .slice ad p.data.length cd, vW, .int .i64 heap, .slice none 0 0, .slice none 0 0, .int .i64 0] 102)) = w3 at *
        generalize w2.heap.size = bm at *
        go_wp2_with (first | (go_at_call 61; refine (irEnter1 ρ0 w3 w1.heap.size bm _ _ _ _ _ _ nm bF oF cp p heap 0 p.data [] [] [] [] 0 nv HST.out (by decide) (nil_int w3 w1.heap.size) (rSlice_nil _ _ _ _) Hnm.out h00 hfl Hnv.out.1 (by simp) Hnv.out.2).mono ?_; rintro e w4 ⟨rfl, ρ1, vF1, fr1, hA, hfr⟩; have HA := Lib.hid hA; have Hfr := Lib.hid hfr; clear hA hfr))
        go_loopg [2, 10, 11] (nf + 1) (fun k s2 s10 s11 wr => IrLoop w1.heap.size bm (.slice ad p.data.length cd) bF oF cp p heap R k s2 wr)
        case atStart =>
          obtain ⟨rfl, h5⟩ := Hfu.out
          refine ⟨ρ1, _, _, vF1, _, _, fr1, _, HA.out, Or.inl ⟨_, hnf ▸ rfl, rfl, rfl, h5, ?_, ?_⟩⟩
          · rw [show stateOf p.data [] fr1 = startF p by
              unfold stateOf startF
              rw [Hfr.out, Hnv.out.1]
              simp]
            exact Hst.out
          · rw [show stateOf p.data [] fr1 = startF p by
              unfold stateOf startF
              rw [Hfr.out, Hnv.out.1]
              simp]
            exact HRR.out
        case round =>
          obtain ⟨ρ, vW', vL, vF, words, lines, fr, end_, hA, hq⟩ := hrel
          obtain ⟨aL, cL, rfl, -, -⟩ := row_slice hA.oL
          have c6 := hA.c6
          have c5 := hA.c5
          have c4 := hA.c4
          have z6 := hA.z 6
          have hbr : Below w1.heap.size w1 wr := by have := hA.below; rw [HO.out] at this; exact this
          have e0 := (hbr.cell (p := ⟨w.heap.size + 1, 0, none⟩) hlr).trans ar0
          have e1 := (hbr.cell (p := ⟨w.heap.size + 1, 1, none⟩) hlr).trans ar1
          have f0 := (hbr.frozen (p := ⟨w.heap.size + 1, 0, none⟩) hlr).trans az0
          have f1 := (hbr.frozen (p := ⟨w.heap.size + 1, 1, none⟩) hlr).trans az1
          have hbm := hA.lm.2
          have HB := Lib.hid hbr
          have HL2 := Lib.hid hA
          clear hA hbr
          rcases hq with ⟨n, rfl, rfl, rfl, hn6, hfit, hrun⟩ | ⟨hne, ⟨z, rfl⟩, rfl, hR⟩
          · have Hfit := Lib.hid hfit
            have Hrun := Lib.hid hrun
            cases n with
            | zero =>
              have hR6 : R = (6, lines) := hrun.symm
              have HR6 := Lib.hid hR6
              have hnb : w.heap.size + 1 ≠ bm := by omega
              have e0' : (wr.setCell ⟨bm, 6, none⟩ (.int .i64 6)).cell? ⟨w.heap.size + 1, 0, none⟩ = some (.slice none 0 0) := by rw [World.cell?_setCell_other (h := by simp [hnb])]; exact e0
              have e1' : (wr.setCell ⟨bm, 6, none⟩ (.int .i64 6)).cell? ⟨w.heap.size + 1, 1, none⟩ = some (.int .i64 0) := by rw [World.cell?_setCell_other (h := by simp [hnb])]; exact e1
              have f0' : (wr.setCell ⟨bm, 6, none⟩ (.int .i64 6)).frozen? ⟨w.heap.size + 1, 0, none⟩ = false := by rw [World.frozen?_setCell]; exact f0
              have f1' : (wr.setCell ⟨bm, 6, none⟩ (.int .i64 6)).frozen? ⟨w.heap.size + 1, 1, none⟩ = false := by rw [World.frozen?_setCell]; exact f1
              have c5' : (wr.setCell ⟨bm, 6, none⟩ (.int .i64 6)).cell? ⟨bm, 5, none⟩ = some (.slice aL lines.length cL) := by rw [World.cell?_setCell_other (h := by simp)]; exact c5
              have c6' : (wr.setCell ⟨bm, 6, none⟩ (.int .i64 6)).cell? ⟨bm, 6, none⟩ = some (.int .i64 6) := World.cell?_setCell_same _ _ _ c6
              have HE := Lib.hid (HL2.out.setEnd 6)
              have Hww := Lib.hid (show ∀ W, wr.setCell ⟨bm, 6, none⟩ (.int .i64 6) = W → W = W from fun W _ => rfl)
              clear hfit hrun hR6
              go_wp2_with fail
              obtain ⟨k0, k1, ks⟩ := box_two (.slice aL lines.length cL) (.int .i64 6) e0' e1'
              refine bodyPost_ret (v := .tuple #[.agg #[.slice aL lines.length cL, .int .i64 6], .int .i64 0]) (by simp [results, Tryd.results18, go_sem, k0, k1]) rfl ?_
              rw [← hnf, Hr.out, HR6.out]
              exact irRun_end HE.out HO.out Hb2.out hlr ks
            | succ n =>
              have hne1 : (((n + 1 : Nat) : Int) == 0) = false := by simp; omega
              obtain ⟨⟨f, a⟩, r, rfl⟩ : ∃ x r, fr = x :: r := by
                have := hfit.some_.1
                cases fr with
                | nil => simp [stateOf] at this
                | cons x r => exact ⟨x, r, rfl⟩
              have hA := HL2.out
              obtain ⟨g, cap, rfl, hcap, hg1, hg2, hpt, hpz⟩ := hA.top
              have hL : LevOK p f := hfit.levs f (by simp [stateOf])
              have hlen := hfit.some_
              simp only [stateOf, List.map_cons, List.length_cons, List.length_map] at hlen
              have hr40 : r.length < 40 := by omega
              obtain ⟨bF', oF', cF', bB, oB, cB, bI, oI, cI, u1, u2, u5, hv, i1, i2, i3, i4, i5, ⟨i6, i7⟩, i8, hI1, hI2, hI5, l0, l1, l2, hini⟩ := instr_mem hA.prog hL
              obtain ⟨⟨rfl, rfl⟩, rfl⟩ : (bF = bF' ∧ oF = oF') ∧ cp = cF' := by simpa using hv
              have g0 := (hA.get (j := 0) rfl).1
              have g2 := (hA.get (j := 2) rfl).1
              have g3 := (hA.get (j := 3) rfl).1
              have g3z := (hA.get (j := 3) rfl).2
              have hfn := hL.fn
              have hbl' := hL.bl
              have hal := hL.al
              have hbk := (HS.out.codes _ (codeAt_mem hL.fn)).nb.2
              have hbk2 := ((HS.out.codes _ (codeAt_mem hL.fn)).blk _ hL.blk).2.1
              obtain ⟨a1, c1, rfl⟩ := rSlice_shape hI1
              obtain ⟨a2, c2, rfl⟩ := rSlice_shape hI2
              obtain ⟨a5, c5', rfl⟩ := rSlice_shape hI5
              have HL' := Lib.hid hL
              have HI := Lib.hid (And.intro hI1 (And.intro hI2 (And.intro hI5 hini)))
              have hw0 : IntKind.i64.wrap (((r.length + 1 : Nat) : Int) - 1) = (r.length : Int) := by rw [show ((r.length + 1 : Nat) : Int) - 1 = r.length by omega]; exact IntWalk.i64_in _ (by omega)
              obtain ⟨m1, hm1⟩ : ∃ m1, m1 = r.length + 1 := ⟨_, rfl⟩
              have HM1 := Lib.hid hm1
              have hj0 : (0 : Int) ≤ (r.length : Int) := by omega
              have hj1 : (r.length : Int) < (m1 : Int) := by omega
              have hj2 : r.length < m1 := by omega
              rw [← hm1] at c4 hw0
              have hB1 : (f.block : Int) < ((codeAt p f.fn).blocks.length : Int) := by omega
              have hB0 : (0 : Int) ≤ (f.block : Int) := by omega
              have hA1 : (f.at_ : Int) < ((blockAt p f).length : Int) := by omega
              have hA0 : (0 : Int) ≤ (f.at_ : Int) := by omega
              clear hm1 hcap hfit hrun hA hL hlen hv hI1 hI2 hI5 hini hpz
              generalize hNB : (codeAt p f.fn).blocks.length = nB at *
              generalize hNI : (blockAt p f).length = nI at *
              have HNB := Lib.hid hNB
              have HNI := Lib.hid hNI
              clear hNB hNI
              go_upto_region 12 with fail
              go_cut [10] from 64 to 75 (fun s10 wx => s10 = .pointer (some ⟨a.gs, 0, none⟩) ∧ wx = wr.drew)
              case first =>
                go_region_held3 (fun w' => w'.cell? ⟨bm, 4, none⟩ = some (.slice (some ⟨g, 0, none⟩) m1 cap) ∧ w'.cell? ⟨g, r.length, none⟩ = some (.pointer (some ⟨a.gs, 0, none⟩))) (go_keep) (fail)
                all_goals (go_wp2_with fail; go_meet; exact ⟨rfl, rfl⟩)
              case rest =>
                obtain ⟨rfl, rfl⟩ := hcut
                have hg3b : a.gs < wr.heap.size := g3z.2
                have hg3f := g3z.1
                clear hpt hw0 hj0 hj1 hj2 c4
                have dq3 : ∀ o, (wr.alloc o).cell? ⟨a.gs, 3, none⟩ = some (.int .i64 f.at_) := fun o => (World.cell?_alloc_lt _ _ _ hg3b).trans g3
                have dz3 : ∀ o, (wr.alloc o).frozen? ⟨a.gs, 3, none⟩ = false := fun o => (World.frozen?_alloc_past _ _ _ hg3b).trans hg3f
                have hwat : IntKind.i64.wrap ((f.at_ : Int) + 1) = (f.at_ : Int) + 1 := IntWalk.i64_in _ (by omega)
                go_upto_region 13 with fail
                go_cut [11] from 76 to 94 (fun s11 wx => s11 = .pointer (some ⟨wr.heap.size, 0, none⟩) ∧ wx = (wr.alloc (.cells #[.int .i64 (instrAt p f).op, .slice a1 (instrAt p f).ds.length c1, .slice a2 (instrAt p f).ars.length c2, .int .i64 (instrAt p f).n, .string (instrAt p f).s, .slice a5 (instrAt p f).to.length c5'] 53)).drew.drew)
                case first =>
                  go_region_held3 (fun w' => w'.cell? ⟨a.gs, 0, none⟩ = some (.pointer (some ⟨bF, oF + f.fn * 6, none⟩)) ∧ w'.cell? ⟨bF, oF + f.fn * 6 + 5, none⟩ = some (.slice (some ⟨bB, oB, none⟩) nB cB) ∧
                    w'.cell? ⟨a.gs, 2, none⟩ = some (.int .i64 f.block) ∧ w'.cell? ⟨bB, oB + f.block, none⟩ = some (.slice (some ⟨bI, oI, none⟩) nI cI) ∧ w'.cell? ⟨a.gs, 3, none⟩ = some (.int .i64 f.at_) ∧
                    w'.cell? ⟨bI, oI + f.at_ * 6, none⟩ = some (.int .i64 (instrAt p f).op) ∧ w'.cell? ⟨bI, oI + f.at_ * 6 + 1, none⟩ = some (.slice a1 (instrAt p f).ds.length c1) ∧ w'.cell? ⟨bI, oI + f.at_ * 6 + 2, none⟩ = some (.slice a2 (instrAt p f).ars.length c2) ∧
                    w'.cell? ⟨bI, oI + f.at_ * 6 + 3, none⟩ = some (.int .i64 (instrAt p f).n) ∧ w'.cell? ⟨bI, oI + f.at_ * 6 + 4, none⟩ = some (.string (instrAt p f).s) ∧ w'.cell? ⟨bI, oI + f.at_ * 6 + 5, none⟩ = some (.slice a5 (instrAt p f).to.length c5')) (go_keep) (fail)
                  all_goals (go_wp2_with fail; go_meet; exact ⟨rfl, rfl⟩)
                case rest =>
                  obtain ⟨rfl, rfl⟩ := hcut
                  go_upto_region 14 with fail
                  go_cut [11] from 95 to 101 (fun s11 wx => s11 = .pointer (some ⟨wr.heap.size, 0, none⟩) ∧ ∃ ρ', IrAt ρ' wx w1.heap.size bm (.slice ad p.data.length cd) vW' (.slice aL lines.length cL) (.slice (some ⟨g, 0, none⟩) (r.length + 1) cap) bF oF cp p heap 0 words lines (({ f with at_ := f.at_ + 1 }, a) :: r) ∧
                    wx.heap[wr.heap.size]? = some (.cells #[.int .i64 (instrAt p f).op, .slice a1 (instrAt p f).ds.length c1, .slice a2 (instrAt p f).ars.length c2, .int .i64 (instrAt p f).n, .string (instrAt p f).s, .slice a5 (instrAt p f).to.length c5'] 53) ∧ Since (fun k => k = a.gs) wr wx)
                  case first =>
                    go_wp2_with fail
                    go_meet
                    have hR := HL2.out
                    have h1 := hR.setC (f' := { f with at_ := f.at_ + 1 }) 3 (.int .i64 (f.at_ + 1)) rfl rfl rfl
                    have s1 := Since.setCell wr ⟨a.gs, 3, none⟩ (.int .i64 (f.at_ + 1))
                    have s2 : Since (fun _ => False) (wr.setCell ⟨a.gs, 3, none⟩ (.int .i64 (f.at_ + 1))) ((wr.setCell ⟨a.gs, 3, none⟩ (.int .i64 (f.at_ + 1))).alloc (.cells #[.int .i64 (instrAt p f).op, .slice a1 (instrAt p f).ds.length c1, .slice a2 (instrAt p f).ars.length c2, .int .i64 (instrAt p f).n, .string (instrAt p f).s, .slice a5 (instrAt p f).to.length c5'] 53)).drew.drew := ((Since.alloc _ _ _).trans (Since.drew _ _)).trans (Since.drew _ _)
                    refine ⟨rfl, fun k => if k < wr.heap.size then ρ k else none, (h1.label (fun k hk => by simp only [World.size_setCell] at hk; simp [hk])).since s2, ?_, s1.trans (((Since.alloc _ _ _).trans (Since.drew _ _)).trans (Since.drew _ _))⟩
                    show ((wr.setCell _ _).alloc _).heap[wr.heap.size]? = _
                    have := heap_alloc_new (wr.setCell ⟨a.gs, 3, none⟩ (.int .i64 (f.at_ + 1))) (.cells #[.int .i64 (instrAt p f).op, .slice a1 (instrAt p f).ds.length c1, .slice a2 (instrAt p f).ars.length c2, .int .i64 (instrAt p f).n, .string (instrAt p f).s, .slice a5 (instrAt p f).to.length c5'] 53)
                    simpa using this
                  case rest =>
                    obtain ⟨rfl, ρ', h5, hbox, hsi⟩ := hcut
                    have b0 : wc.cell? ⟨wr.heap.size, 0, none⟩ = some (.int .i64 (instrAt p f).op) := by simp [World.cell?, hbox]
                    have b1 : wc.cell? ⟨wr.heap.size, 1, none⟩ = some (.slice a1 (instrAt p f).ds.length c1) := by simp [World.cell?, hbox]
                    have b2 : wc.cell? ⟨wr.heap.size, 2, none⟩ = some (.slice a2 (instrAt p f).ars.length c2) := by simp [World.cell?, hbox]
                    have b3 : wc.cell? ⟨wr.heap.size, 3, none⟩ = some (.int .i64 (instrAt p f).n) := by simp [World.cell?, hbox]
                    have b4 : wc.cell? ⟨wr.heap.size, 4, none⟩ = some (.string (instrAt p f).s) := by simp [World.cell?, hbox]
                    have b5 : wc.cell? ⟨wr.heap.size, 5, none⟩ = some (.slice a5 (instrAt p f).to.length c5') := by simp [World.cell?, hbox]
                    have hgb : w1.heap.size ≤ a.gs := (HL2.out.levs.1.cells.lt _ rfl).1
                    have hkp : Keep (· < w1.heap.size) wr wc := hsi.keep.weaken (fun k _ hk e => absurd (show k = a.gs from e) (by omega))
                    have hT1 := (HT.out.below Hb2.out HT.out.lt).below HB.out (Nat.lt_of_lt_of_le HT.out.lt (by omega))
                    have hT2 := hT1.since hsi (fun e => by have h1 : _ = a.gs := e; have := HT.out.lt; omega)
                    obtain ⟨hI1, hI2, hI5, hini⟩ := HI.out
                    have Hstep := Lib.hid (irStep_any ρ' wc w1.heap.size bm _ _ _ _ _ _ _ bF oF cp p heap 0 words lines f a r h5 Hfit.out HS.out hT2 (Nat.lt_of_lt_of_le HT.out.lt (by omega)) (by omega) hr2 (Good.kept hkp hI1) (Good.kept hkp hI2) (Good.kept hkp hI5) hini)
                    clear hT1 hT2 hkp hI1 hI2 hI5 hini hsi hbox h5 dq3 dz3 hwat hA0 hA1 hB0 hB1 i1 i2 i3 i4 i5 i6 i7 i8 g0 g2 g3 g3z hg3b hg3f e0 e1 f0 f1 c5 c6 z6 hbk hbk2
                    go_wp2_with (first | (go_at_call 62; refine Hstep.out.mono ?_; rintro e w6 ⟨rfl, ρ6, vW6, vL6, vF6, fr6, h6, hfr6⟩; have c6 := h6.c6; have z6 := h6.z 6; have H6 := Lib.hid h6; have Hfr6 := Lib.hid hfr6; clear h6 hfr6))
                    generalize ho : stepF p false heap (stateOf words lines ((f, a) :: r)) = o at *
                    have Ho := Lib.hid ho
                    clear ho
                    have hst : stateOf o.2.words o.2.lines fr6 = o.2 := by unfold stateOf; rw [Hfr6.out]
                    by_cases hz : o.1 = 0
                    · go_roundg (n + 1)
                      case measure => omega
                      case rel =>
                        refine ⟨ρ6, vW6, vL6, vF6, _, _, fr6, o.1, H6.out.setEnd o.1, Or.inl ⟨n, rfl, hz, rfl, by omega, ?_, ?_⟩⟩
                        · rw [hst, ← Ho.out]
                          exact stepF_fits HS.out Hn.out hr2 Hfit.out (by rw [Ho.out]; exact hz)
                        · rw [hst, ← Hrun.out]
                          show _ = (if (stepF p false heap (stateOf words lines ((f, a) :: r))).1 = 0 then _ else _)
                          rw [Ho.out, if_pos hz]
                    · go_roundg 0
                      case measure => omega
                      case rel =>
                        refine ⟨ρ6, vW6, vL6, vF6, _, _, fr6, o.1, H6.out.setEnd o.1, Or.inr ⟨hz, ⟨_, rfl⟩, rfl, ?_⟩⟩
                        rw [← Hrun.out]
                        show (if (stepF p false heap (stateOf words lines ((f, a) :: r))).1 = 0 then _ else _) = _
                        rw [Ho.out, if_neg hz]
          · have hne' : (end_ == 0) = false := by simpa using hne
            have HR := Lib.hid hR
            clear hne hR
            go_wp2_with fail
            obtain ⟨k0, k1, ks⟩ := box_two (.slice aL lines.length cL) (.int .i64 end_) e0 e1
            refine bodyPost_ret (v := .tuple #[.agg #[.slice aL lines.length cL, .int .i64 end_], .int .i64 0]) (by simp [results, Tryd.results18, go_sem, k0, k1]) rfl ?_
            rw [Hr.out, HR.out]
            exact irRun_end HL2.out HO.out Hb2.out hlr ks
    · have hr' : heap < (p.data.length : Int) ∨ heap > 20000 ∨ fuel < 0 ∨ fuel > 1000000 := by omega
      have Hr := Lib.hid (show resF 0 false 1000000 p heap fuel = ((0, []), 2) by
        unfold resF
        rw [if_neg (by simp), if_neg hr])
      clear hev hr
      by_cases h1 : heap < (p.data.length : Int)
      · have d1 : decide (heap < (p.data.length : Int)) = true := decide_eq_true h1
        clear hr'
        go_wp2_with fail
        obtain ⟨g0, g1, gs⟩ := box_two (.slice none 0 0) (.int .i64 0) ar0 ar1
        refine bodyPost_ret (v := .tuple #[.agg #[.slice none 0 0, .int .i64 0], .int .i64 2]) (by simp [results, Tryd.results18, go_sem, g0, g1]) rfl ?_
        rw [Hr.out]
        exact ⟨_, rfl, nil_row _ _, Hb2.out.trans (gs.below Hb2.out.size (fun k e => by omega))⟩
      · have hr' := hr'
        by_cases h2 : heap > 20000
        · have d1 : decide (heap < (p.data.length : Int)) = false := decide_eq_false h1; have d2 : decide (heap > 20000) = true := decide_eq_true h2
          clear hr'
          go_wp2_with fail
          obtain ⟨g0, g1, gs⟩ := box_two (.slice none 0 0) (.int .i64 0) ar0 ar1
          refine bodyPost_ret (v := .tuple #[.agg #[.slice none 0 0, .int .i64 0], .int .i64 2]) (by simp [results, Tryd.results18, go_sem, g0, g1]) rfl ?_
          rw [Hr.out]
          exact ⟨_, rfl, nil_row _ _, Hb2.out.trans (gs.below Hb2.out.size (fun k e => by omega))⟩
        · have hr' := hr'
          by_cases h3 : fuel < 0
          · have d1 : decide (heap < (p.data.length : Int)) = false := decide_eq_false h1; have d2 : decide (heap > 20000) = false := decide_eq_false h2; have d3 : decide (fuel < 0) = true := decide_eq_true h3
            clear hr'
            go_wp2_with fail
            obtain ⟨g0, g1, gs⟩ := box_two (.slice none 0 0) (.int .i64 0) ar0 ar1
            refine bodyPost_ret (v := .tuple #[.agg #[.slice none 0 0, .int .i64 0], .int .i64 2]) (by simp [results, Tryd.results18, go_sem, g0, g1]) rfl ?_
            rw [Hr.out]
            exact ⟨_, rfl, nil_row _ _, Hb2.out.trans (gs.below Hb2.out.size (fun k e => by omega))⟩
          · have hr' := hr'
            have d1 : decide (heap < (p.data.length : Int)) = false := decide_eq_false h1; have d2 : decide (heap > 20000) = false := decide_eq_false h2; have d3 : decide (fuel < 0) = false := decide_eq_false h3; have d4 : decide (fuel > 1000000) = true := decide_eq_true (by omega)
            clear hr'
            go_wp2_with fail
            obtain ⟨g0, g1, gs⟩ := box_two (.slice none 0 0) (.int .i64 0) ar0 ar1
            refine bodyPost_ret (v := .tuple #[.agg #[.slice none 0 0, .int .i64 0], .int .i64 2]) (by simp [results, Tryd.results18, go_sem, g0, g1]) rfl ?_
            rw [Hr.out]
            exact ⟨_, rfl, nil_row _ _, Hb2.out.trans (gs.below Hb2.out.size (fun k e => by omega))⟩
  · have hz' : (ev == 0) = false := by simpa using hz
    have Hr := Lib.hid (show resF ev false 1000000 p heap fuel = ((0, []), ev) by
      unfold resF
      rw [if_pos hz])
    clear hev hz
    go_wp2_with fail
    obtain ⟨g0, g1, gs⟩ := box_two (.slice none 0 0) (.int .i64 0) ar0 ar1
    refine bodyPost_ret (v := .tuple #[.agg #[.slice none 0 0, .int .i64 0], .int .i64 ev]) (by simp [results, Tryd.results18, go_sem, g0, g1]) rfl ?_
    rw [Hr.out]
    exact ⟨_, rfl, nil_row _ _, Hb2.out.trans (gs.below Hb2.out.size (fun k e => by omega))⟩
end Go.Proofs.YtaomlfbcfmmhlaaDoor

/-
  The law's own functions: sameTexts, sameRun.
-/
namespace Go.Proofs.YtaomlfbcfmmhlaaDoor
open Go.RowKit Go.Pst
set_option linter.unusedVariables false
set_option linter.unusedSimpArgs false

theorem sameTexts_any (l : List ByteArray) (va vb : Value) (w : World) (base : Nat) (ha : w.ownsRow base 9 1 va l.length (l.map Value.string)) (hb : w.ownsRow base 9 1 vb l.length (l.map Value.string)) :
    Calls Tryd.prog 65 #[va, vb] w fun e w' => e = .returned (.bool true) ∧ Below w.heap.size w w' := by
  obtain ⟨aa, ca, rfl, hz1, hz2⟩ := row_slice ha
  have hl : l.length ≤ 9223372036854775807 := by unfold maxLen at hz2; omega
  clear hz1 hz2
  obtain ⟨ab, cb, rfl, -, -⟩ := row_slice hb
  have HA := Lib.hid ha
  have HB := Lib.hid hb
  clear ha hb
  go_enter Tryd.func65, Tryd.ntmps65
  go_wp2_with fail
  go_loopw [5] (fun i wr => ∃ k : Nat, k ≤ l.length ∧ i = .int .i64 k ∧ Since (fun _ => False) w wr) (fun i _ => l.length - (intOf i).toNat)
  case atStart => exact ⟨0, Nat.zero_le _, rfl, Since.refl _ _⟩
  case round =>
    obtain ⟨k, hk, rfl, hs⟩ := hrel
    by_cases hlt : k < l.length
    · have hlt1 : (k : Int) < l.length := by omega
      have hk0 : (0 : Int) ≤ k := by omega
      obtain ⟨ga, c1, hva, -, -, hla, hca, -⟩ := row_get HA.out (i := k) (u := .string l[k]) (by simp [hlt])
      obtain ⟨gb, c2, hvb, -, -, hlb, hcb, -⟩ := row_get HB.out (i := k) (u := .string l[k]) (by simp [hlt])
      obtain ⟨rfl, rfl⟩ : aa = some ⟨ga, 0, none⟩ ∧ ca = c1 := by simpa using hva
      obtain ⟨rfl, rfl⟩ : ab = some ⟨gb, 0, none⟩ ∧ cb = c2 := by simpa using hvb
      have da := (hs.cell (o := k) hla (fun e => e)).trans hca
      have db := (hs.cell (o := k) hlb (fun e => e)).trans hcb
      have HS := Lib.hid hs
      have hwk : IntKind.i64.wrap ((k : Int) + 1) = (k : Int) + 1 := IntWalk.i64_in _ (by omega)
      clear hs hva hvb hca hcb
      generalize l[k] = s at *
      have hne : (s != s) = false := by simp
      go_wp2_with fail
      go_region_held3 (fun w' => w'.cell? ⟨ga, k, none⟩ = some (.string s) ∧ w'.cell? ⟨gb, k, none⟩ = some (.string s)) (go_keep) (fail)
      all_goals (go_wp2_with fail; exact ⟨⟨k + 1, by omega, by simp, HS.out.trans (Since.drew _ _)⟩, by simp only [intOf]; omega⟩)
    · have hlt1 : ¬ ((k : Int) < l.length) := by omega
      have HS := Lib.hid hs
      clear hs
      go_wp2_with fail
      go_ret
      exact ⟨rfl, HS.out.below (Nat.le_refl _) (fun _ e => e.elim)⟩

theorem sameRun_any (l : List ByteArray) (x : Int) (va vb : Value) (w : World) (base : Nat) (ha : w.ownsRow base 9 1 va l.length (l.map Value.string)) (hb : w.ownsRow base 9 1 vb l.length (l.map Value.string)) :
    Calls Tryd.prog 20 #[.agg #[va, .int .i64 x], .agg #[vb, .int .i64 x]] w fun e w' => e = .returned (.bool true) ∧ Below w.heap.size w w' := by
  obtain ⟨aa, ca, rfl, -, -⟩ := row_slice ha
  obtain ⟨ab, cb, rfl, -, -⟩ := row_slice hb
  have HA := Lib.hid ha
  have HB := Lib.hid hb
  clear ha hb
  have hx : (x == x) = true := by simp
  go_enter Tryd.func20, Tryd.ntmps20
  go_wp2_with (first | (go_at_call 65; refine (sameTexts_any l _ _ _ base ((HA.out.alloc _).alloc _) ((HB.out.alloc _).alloc _)).mono ?_; rintro e w2 ⟨rfl, hb2⟩; have HB2 := Lib.hid hb2; clear hb2))
  go_ret
  exact ⟨rfl, (((Below.refl _ _).alloc (Nat.le_refl _) _).alloc (by simp) _).trans (HB2.out.mono (by simp; omega))⟩
end Go.Proofs.YtaomlfbcfmmhlaaDoor

/-
  From the card's condition on ir.rules, ir.maths to what the walks ask (IrLaid); the door's own heap meets the condition.
-/
namespace Go.Proofs.YtaomlfbcfmmhlaaDoor
open Go.ChangeShapes Go.WideShapes Go.ChangeAt Go.RowKit Go.Pst
set_option linter.unusedVariables false

abbrev irTables : List (String × DataW Unit) := [("postern/ir.rules", Rows.laid_postern_ir_rules), ("postern/ir.maths", Rows.laid_postern_ir_maths)]
theorem gRules : Tryd.prog.globalNamed "postern/ir.rules" = some 0 := by kernel_rfl
theorem gMaths : Tryd.prog.globalNamed "postern/ir.maths" = some 1 := by kernel_rfl
theorem tRules : (Tryd.prog.globals[0]?).map (·.type) = some 179 := by kernel_rfl
theorem tMaths : (Tryd.prog.globals[1]?).map (·.type) = some 39 := by kernel_rfl

theorem lt_of_cell {W : World} {b o : Nat} {v : Value} (h : W.cell? ⟨b, o, none⟩ = some v) : b < W.heap.size := by
  rcases Nat.lt_or_ge b W.heap.size with h' | h'
  · exact h'
  · simp [World.cell?, Array.getElem?_eq_none h'] at h

set_option maxRecDepth 100000 in
/-- Three numbers, read as a struct of three ints. -/
theorem three_open {W : World} {base : Nat} {sp : Nat → Bool} {held : Bool} {m : Nat} {L : List Value} {y : DataW Unit × List MemPlace}
    (h : DataW.trod (fun _ => ()) Tryd.prog W base sp held m 178 L = some y) :
    ∃ n0 n1 n2 : Int, L = [.int .i64 n0, .int .i64 n1, .int .i64 n2] ∧ y.1 = .agg [.lit (.int .i64 n0), .lit (.int .i64 n1), .lit (.int .i64 n2)] := by
  obtain ⟨ys, n, _, rfl, hcl, hyl, hf⟩ := DataW.trod_struct Tryd.underlying178 h
  have c3 : Tryd.prog.cellsOf 178 = 3 := by kernel_rfl
  have c1 : Tryd.prog.cellsOf 3 = 1 := by kernel_rfl
  rw [c3] at hcl
  match L, hcl, ys, (show ys.length = 3 by simpa using hyl) with
  | [a0, a1, a2], _, [y0, y1, y2], _ =>
    have f0 := hf 0 _ rfl
    have f1 := hf 1 _ rfl
    have f2 := hf 2 _ rfl
    simp [c1] at f0 f1 f2
    obtain ⟨n0, e0, g0, _⟩ := DataW.trod_int Tryd.underlying3 f0
    obtain ⟨n1, e1, g1, _⟩ := DataW.trod_int Tryd.underlying3 f1
    obtain ⟨n2, e2, g2, _⟩ := DataW.trod_int Tryd.underlying3 f2
    simp only [List.cons.injEq, and_true] at e0 e1 e2
    subst e0 e1 e2
    exact ⟨n0, n1, n2, rfl, by simp [g0, g1, g2]⟩

set_option maxRecDepth 100000 in
theorem irLaid_of {W : World} (h : laidMetH Tryd.prog irTables W) : IrLaid W := by
  rw [MakeChecks.laidMetH_plain _ _ _ (by kernel_rfl)] at h
  obtain ⟨ps, ⟨g0, t0, cs0, f0, p0, q0, hg0, ht0, hv0, hd0, ⟨g1, t1, cs1, f1, p1, q1, hg1, ht1, hv1, hd1, _, _⟩, _⟩, _, _⟩ := h
  obtain rfl := Option.some.inj (gRules.symm.trans hg0)
  obtain rfl := Option.some.inj (gMaths.symm.trans hg1)
  obtain rfl := Option.some.inj (tRules.symm.trans ht0)
  obtain rfl := Option.some.inj (tMaths.symm.trans ht1)
  have rules : ∀ k, k < 14 → W.cell? ⟨0, k * 3, none⟩ = some (.int .i64 (ruleF k).1) ∧ W.cell? ⟨0, k * 3 + 1, none⟩ = some (.int .i64 (ruleF k).2.1) ∧ W.cell? ⟨0, k * 3 + 2, none⟩ = some (.int .i64 (ruleF k).2.2) := by
    intro k hk
    obtain ⟨xs, m, rfl, hx1, hlen, hn3, hel⟩ := DataW.trod_array Tryd.underlying179 hd0
    have h0 := hel k hk
    have c3 : Tryd.prog.cellsOf 178 = 3 := by kernel_rfl
    rw [c3] at h0
    simp only [Prod.mk.injEq, DataW.agg.injEq, Rows.laid_postern_ir_rules] at hx1
    obtain ⟨n0, n1, n2, hL, hy⟩ := three_open (h0.trans (List.getElem?_eq_getElem (by omega)))
    have hd := congrArg (fun l => l[k]?) hx1.1
    simp only [List.getElem?_map, List.getElem?_eq_getElem (show k < xs.length by omega), Option.map_some, hy] at hd
    have cell : ∀ j, j < 3 → W.cell? ⟨0, k * 3 + j, none⟩ = [Value.int .i64 n0, Value.int .i64 n1, Value.int .i64 n2][j]? := by
      intro j hj
      rw [World.var?_cell hg0 hv0, ← hL, List.getElem?_take, if_pos hj, List.getElem?_drop]
      simp
    have k0 := cell 0 (by omega)
    have k1 := cell 1 (by omega)
    have k2 := cell 2 (by omega)
    simp only [Nat.add_zero] at k0
    have : n0 = (ruleF k).1 ∧ n1 = (ruleF k).2.1 ∧ n2 = (ruleF k).2.2 := by
      clear k0 k1 k2 cell hL h0 hel hlen hx1 hy
      match k, hk with
      | 0, _ | 1, _ | 2, _ | 3, _ | 4, _ | 5, _ | 6, _ | 7, _ | 8, _ | 9, _ | 10, _ | 11, _ | 12, _ | 13, _ =>
        simp at hd
        obtain ⟨rfl, rfl, rfl⟩ := hd
        exact ⟨rfl, rfl, rfl⟩
    obtain ⟨rfl, rfl, rfl⟩ := this
    exact ⟨k0, k1, k2⟩
  have maths : ∃ a cap, W.cell? ⟨1, 0, none⟩ = some (.slice a 11 cap) ∧ StrsAt W a mathsF := by
    obtain ⟨a, cap, hcs, hle, hrow⟩ := open_row Tryd.underlying39 (by kernel_rfl) hd1
    have hc := World.var?_cell hg1 hv1 0
    rw [Array.eq_one_of_toList hcs] at hc
    have key : ∀ i (h : i < mathsF.length), W.cell? (a.add i) = some (.string mathsF[i]) := by
      intro i hi
      have hdat : ∀ (i : Nat) (h : i < mathsF.length), ([.lit (.string [43]), .lit (.string [45]), .lit (.string [42]), .lit (.string [47]), .lit (.string [37]), .lit (.string [61, 61]), .lit (.string [33, 61]), .lit (.string [60]), .lit (.string [60, 61]), .lit (.string [62]), .lit (.string [62, 61])] : List (DataW Unit))[i]? = some (.lit (.string mathsF[i].data.toList)) := by
        intro i h
        have h' : i < 11 := h
        match i, h' with
        | 0, _ | 1, _ | 2, _ | 3, _ | 4, _ | 5, _ | 6, _ | 7, _ | 8, _ | 9, _ | 10, _ => rfl
      obtain ⟨v, n, q, hv, ht⟩ := hrow i _ (hdat i hi)
      obtain ⟨t, e1, e2, _⟩ := DataW.trod_string Tryd.underlying9 ht
      simp only [Prod.mk.injEq, DataW.lit.injEq, Lit.string.injEq, List.cons.injEq, and_true] at e1 e2
      rw [hv, e1]
      congr 2
      exact ByteArray.ext (Array.toList_inj.mp e2.1.symm)
    obtain ⟨b, off, spot⟩ := a
    have hspot : spot = none := by
      have := key 0 (by decide)
      simpa [Addr.add] using World.cell?_spot this
    subst hspot
    have hadd : ∀ k, (⟨b, off, none⟩ : Addr).add k = ⟨b, off + k, none⟩ := by intro k; unfold Addr.add; split <;> simp_all
    refine ⟨some ⟨b, off, none⟩, cap, by simpa using hc, fun i hi => ⟨b, off, rfl, ?_, ?_⟩⟩
    · have := key i hi
      rw [hadd] at this
      exact lt_of_cell this
    · have := key i hi
      rw [hadd] at this
      exact this
  exact ⟨⟨lt_of_cell (rules 0 (by omega)).1, by obtain ⟨a, cap, h, _⟩ := maths; exact lt_of_cell h⟩, rules, maths⟩

/-- The door's own heap meets the condition. -/
theorem ir_door_met (os : Os) (args : Array Value) : laidMetH Tryd.prog irTables ((World.doorLaid Tryd.prog 400 os).forCall (fun _ _ => 0) ⟨#[], args, []⟩).memory :=
  laidMetH_of_parts3 (fuel := 8) (laidMet_of_run' 8 (by kernel_rfl) (by kernel_rfl)) (by kernel_rfl) (by kernel_rfl)
end Go.Proofs.YtaomlfbcfmmhlaaDoor

/-
  From the card's condition on the tables of ir and strconv to what the walks ask; the door's own heap meets it.
-/
namespace Go.Proofs.YtaomlfbcfmmhlaaDoor
open Go.ChangeShapes Go.WideShapes Go.ChangeAt Go.RowKit Go.Pst
set_option linter.unusedVariables false

abbrev runTables : List (String × DataW Unit) := [("math/bits.deBruijn32tab", Rows.laid_math_bits_deBruijn32tab), ("math/bits.deBruijn64tab", Rows.laid_math_bits_deBruijn64tab), ("internal/strconv.uint64pow10", Rows.laid_internal_strconv_uint64pow10), ("postern/ir.rules", Rows.laid_postern_ir_rules), ("postern/ir.maths", Rows.laid_postern_ir_maths)]
theorem gPow : Tryd.prog.globalNamed "internal/strconv.uint64pow10" = some 5 := by kernel_rfl
theorem tPow : (Tryd.prog.globals[5]?).map (·.type) = some 222 := by kernel_rfl
theorem powData : (Rows.laid_internal_strconv_uint64pow10 : DataW Unit) = Lib.tabData .u64 Lib.pow10Tab := by
  unfold Rows.laid_internal_strconv_uint64pow10 Lib.tabData Lib.pow10Tab
  simp [List.range, List.range.loop]
theorem runLaid_of {W : World} (h : laidMetH Tryd.prog runTables W) : IrLaid W ∧ TabOK W := by
  rw [MakeChecks.laidMetH_plain _ _ _ (by kernel_rfl)] at h
  have h3 := h.tail.tail
  have h4 := h3.tail
  refine ⟨irLaid_of (by rw [MakeChecks.laidMetH_plain _ _ _ (by kernel_rfl)]; exact h4), ?_⟩
  rw [powData] at h3
  have ht := Lib.tabIs_of_head gPow tPow Tryd.underlying222 Tryd.underlying197 (by kernel_rfl) (by kernel_rfl) h3
  exact ⟨ht, lt_of_cell (ht.cell gPow 0 (by rw [Lib.pow10Tab_length]; decide))⟩
theorem run_door_met (os : Os) (args : Array Value) : laidMetH Tryd.prog runTables ((World.doorLaid Tryd.prog 400 os).forCall (fun _ _ => 0) ⟨#[], args, []⟩).memory :=
  laidMetH_of_parts3 (fuel := 8) (laidMet_of_run' 8 (by kernel_rfl) (by kernel_rfl)) (by kernel_rfl) (by kernel_rfl)
end Go.Proofs.YtaomlfbcfmmhlaaDoor

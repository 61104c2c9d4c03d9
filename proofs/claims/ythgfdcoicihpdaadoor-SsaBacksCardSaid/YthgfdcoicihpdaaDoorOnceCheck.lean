/-
  ssa.Check: the contract.
-/
import Derived.Test.YthgfdcoicihpdaaDoorUses
import Derived.Test.YthgfdcoicihpdaaDoorBare
import Derived.Test.YthgfdcoicihpdaaDoorIrCode
import Derived.Test.YthgfdcoicihpdaaDoorOnceOK
import Derived.Deep.RegionHeld3
namespace Go.Proofs.YthgfdcoicihpdaaDoor
open Go.RowKit Go.Pst
set_option linter.unusedVariables false
set_option linter.unusedSimpArgs false

/-- s[:k]. -/
theorem run_take {P : Program} {t e : TypeId} {sz : Nat} (hu : P.underlying t = some (.slice e)) (hsz : ∀ w, (sizeOf e).run P w = .ok sz w) (a : Option Addr) (len cap k : Nat) (hk : k ≤ cap) (w : World) :
    (Instr.slice t (.slice a len cap) none (some (.int .i64 (k : Int))) none).run P w = .ok (.slice a k cap) w := by
  have e0 : (if cap = 0 then a else a.map (·.add (0 * sz))) = a := by
    split
    · rfl
    · cases a with
      | none => rfl
      | some x => obtain ⟨b, off, sp⟩ := x; cases sp <;> simp [Addr.add]
  simp [Instr.slice, run_underlying hu, Result.andThen, Instr.sliceBounds, Instr.sliceBound, asIntOf, hsz, hk]
  simpa using e0
theorem below_more {w0 w1 w2 : World} (h : Below w0.heap.size w0 w1) (k : Below w1.heap.size w1 w2) : Below w0.heap.size w0 w2 := h.trans (k.mono h.size)
theorem odd3_answers (hi : Int) (l : List Int) (w : World) (blk : Nat) (hc : w.cell? ⟨blk, 3, none⟩ = some (.int .i64 hi)) :
    Answers Tryd.prog 25 #[.pointer (some ⟨blk, 0, none⟩)] (oddF hi) l w := by
  intro x _ w' hd
  have hc' : w'.cell? ⟨blk, 3, none⟩ = some (.int .i64 hi) := by rw [hd.cell]; exact hc
  by_cases h : x < 0
  · have h1 : decide (x < 0) = true := decide_eq_true h
    go_enter Tryd.func25, Tryd.ntmps25
    go_wp2_with fail
    go_ret
    exact ⟨by simp [oddF, h], Drawn.refl _⟩
  · have h1 : decide (x < 0) = false := decide_eq_false h
    go_enter Tryd.func25, Tryd.ntmps25
    go_wp2_with fail
    go_ret
    exact ⟨by simp [oddF]; omega, Drawn.refl _⟩
theorem enters_odd3 : Enters Tryd.prog 25 := enters_of Tryd.func25 (by kernel_rfl) (by kernel_rfl)

set_option maxRecDepth 100000 in
set_option maxHeartbeats 4000000 in
theorem check_any (fs : List PCode) (D : List Int) (p0 p1 : Value) (c : PCode) (cs : List Value) (w : World) (hp : rCodes (fun _ => True) w [p0] fs) (hd : rInts (fun _ => True) w [p1] D) (hc : rCode (fun _ => True) w cs c) (hf : FitCode c) (hL : IrLaid w) :
    Calls Tryd.prog 8 #[.agg #[p0, p1], .agg cs.toArray] w fun e w' => e = .returned (.int .i64 (onceF fs c (rowOf (aheadF c)) (rowOf (aboveF c)))) ∧ Below w.heap.size w w' := by
  have hc0 := hc
  obtain ⟨v5, rfl, hI, hbs⟩ := hc
  obtain ⟨a, cap, rfl, hcap, hmax, hat⟩ := rSlice_one hbs
  unfold maxLen at hmax
  have hnb : c.blocks.length ≤ 9223372036854775807 := by omega
  obtain ⟨sp0, sn0, rfl⟩ := rSlice_shape hp
  obtain ⟨sp1, sn1, rfl⟩ := rSlice_shape hd
  have Hat := Lib.hid hat
  have Hc := Lib.hid hc0
  have HI := Lib.hid hI
  have Hp := Lib.hid hp
  have HL := Lib.hid hL
  clear hbs hat hI hc0 hcap hmax hp hd hL
  go_enter Tryd.func8, Tryd.ntmps8
  go_upto_region 1 with fail
  generalize hw0 : (w.alloc (.cells #[.slice sp0 fs.length sn0, .slice sp1 D.length sn1] 25)).alloc (.cells #[.string c.name, .int .i64 c.params, .int .i64 c.results, .int .i64 c.vars, .int .i64 c.slots, .slice a c.blocks.length cap] 28) = w0
  have hbel0 : Below w.heap.size w w0 := by rw [← hw0]; exact below_box2 _ _ _
  have hsz0 : w0.heap.size = w.heap.size + 2 := by rw [← hw0]; simp
  have bp : ∀ j, w0.cell? ⟨w.heap.size, j, none⟩ = (#[.slice sp0 fs.length sn0, .slice sp1 D.length sn1] : Array Value)[j]? := fun j => by rw [← hw0, box2_1]
  have bc : ∀ j, w0.cell? ⟨w.heap.size + 1, j, none⟩ = (#[.string c.name, .int .i64 c.params, .int .i64 c.results, .int .i64 c.vars, .int .i64 c.slots, .slice a c.blocks.length cap] : Array Value)[j]? := fun j => by rw [← hw0, box2_2]
  clear hw0
  have HS : ∀ w', Below w0.heap.size w0 w' → (w'.cell? ⟨w.heap.size, 0, none⟩ = some (.slice sp0 fs.length sn0) ∧ w'.cell? ⟨w.heap.size, 1, none⟩ = some (.slice sp1 D.length sn1) ∧ w'.cell? ⟨w.heap.size + 1, 0, none⟩ = some (.string c.name) ∧ w'.cell? ⟨w.heap.size + 1, 1, none⟩ = some (.int .i64 c.params) ∧ w'.cell? ⟨w.heap.size + 1, 2, none⟩ = some (.int .i64 c.results) ∧ w'.cell? ⟨w.heap.size + 1, 3, none⟩ = some (.int .i64 c.vars) ∧ w'.cell? ⟨w.heap.size + 1, 4, none⟩ = some (.int .i64 c.slots) ∧ w'.cell? ⟨w.heap.size + 1, 5, none⟩ = some (.slice a c.blocks.length cap)) ∧ Below w0.heap.size w0 w' := by
    intro w' h
    have h1 := fun j => (h.cell (p := ⟨w.heap.size, j, none⟩) (by show w.heap.size < _; omega)).trans (bp j)
    have h2 := fun j => (h.cell (p := ⟨w.heap.size + 1, j, none⟩) (by show w.heap.size + 1 < _; omega)).trans (bc j)
    exact ⟨⟨h1 0, h1 1, h2 0, h2 1, h2 2, h2 3, h2 4, h2 5⟩, h⟩
  have hS0 := HS w0 (Below.refl _ _)
  have HHS := Lib.hid HS
  have Hb0 := Lib.hid hbel0
  have Hcal1 := Lib.hid (fun (w' : World) (h : Below w0.heap.size w0 w') => (bare_any c _ w' (Good.kept (Keep.of_below' (hbel0.trans (h.mono (by omega))) (fun k hk _ => hk)) Hc.out) hf).mono (fun e w5 ⟨cs', he, hr, hb⟩ => (⟨cs', he, hr, below_more h hb⟩ : ∃ cs', e = Ending.returned (.agg (List.toArray cs')) ∧ rCode (fun _ => True) w5 cs' (plainF c) ∧ Below w0.heap.size w0 w5)))
  have Hcal2 := Lib.hid (fun (cs' : List Value) (w' : World) (h : Below w0.heap.size w0 w') (hr : rCode (fun _ => True) w' cs' (plainF c)) => (irCode_any fs (.slice sp0 fs.length sn0) (.slice sp1 D.length sn1) (plainF c) cs' w' (Good.kept (Keep.of_below' (hbel0.trans (h.mono (by omega))) (fun k hk _ => hk)) Hp.out) hr (fit_plain hf) (HL.out.below (hbel0.trans (h.mono (by omega))))).mono (fun e w6 ⟨he, hb⟩ => (⟨he, below_more h hb⟩ : e = Ending.returned (.int .i64 (codeFaultF fs (plainF c))) ∧ Below w0.heap.size w0 w6)))
  clear HS bp bc hbel0
  go_region_held3 (fun w' => (w'.cell? ⟨w.heap.size, 0, none⟩ = some (.slice sp0 fs.length sn0) ∧ w'.cell? ⟨w.heap.size, 1, none⟩ = some (.slice sp1 D.length sn1) ∧ w'.cell? ⟨w.heap.size + 1, 0, none⟩ = some (.string c.name) ∧ w'.cell? ⟨w.heap.size + 1, 1, none⟩ = some (.int .i64 c.params) ∧ w'.cell? ⟨w.heap.size + 1, 2, none⟩ = some (.int .i64 c.results) ∧ w'.cell? ⟨w.heap.size + 1, 3, none⟩ = some (.int .i64 c.vars) ∧ w'.cell? ⟨w.heap.size + 1, 4, none⟩ = some (.int .i64 c.slots) ∧ w'.cell? ⟨w.heap.size + 1, 5, none⟩ = some (.slice a c.blocks.length cap)) ∧ Below w0.heap.size w0 w')
    (first | exact hS0 | (refine HHS.out _ ?_; first | assumption | exact Drawn.below (Drawn.drew _) _))
    (first | (go_at_call 24; refine (Hcal1.out _ (And.right (by assumption))).mono ?_; rintro e w5 ⟨cs', rfl, hr, hb5⟩) | (go_at_call 23; refine (Hcal2.out _ _ (And.right (by assumption)) (by assumption)).mono ?_; rintro e w6 ⟨rfl, hb6⟩))
  have hb6' := hb6
  generalize hev : codeFaultF fs (plainF c) = ev at *
  by_cases he : ev = 0
  case neg =>
    have he1 : (ev == 0) = false := by simpa using he
    have he2 : (ev != 0) = true := by simpa using he
    have He := Lib.hid he
    have Hev := Lib.hid hev
    clear he hev
    go_wp2_with fail
    go_ret
    refine ⟨?_, Hb0.out.trans (hb6'.mono Hb0.out.size)⟩
    unfold onceF
    rw [Hev.out, if_pos He.out]
    rfl
  subst he
  have hok := onceOK hev
  have Hev := Lib.hid hev
  have Hok := Lib.hid hok
  clear hok hev hr
  have hah := Lib.hid (fun (w' : World) (h : Below w0.heap.size w0 w') => (ahead_any c _ w' (Good.kept (Keep.of_below' (Hb0.out.trans (h.mono Hb0.out.size)) (fun k hk _ => hk)) Hc.out) hf).mono (fun e w5 ⟨v, he, hr, hb⟩ => (⟨v, he, Good.wide hr (fun _ _ _ => trivial), below_more h hb⟩ : ∃ v, e = Ending.returned v ∧ rIntss (fun _ => True) w5 [v] (aheadF c) ∧ Below w0.heap.size w0 w5)))
  obtain ⟨AH, hAH⟩ : ∃ AH, AH = aheadF c := ⟨_, rfl⟩
  rw [← hAH] at hah
  have HAH := Lib.hid hAH
  have hAl : AH.length = c.blocks.length := by rw [hAH]; simp [aheadF]
  have HAl := Lib.hid hAl
  have Hres := Lib.hid (show onceF fs c (rowOf (aheadF c)) (rowOf (aboveF c)) = if blocksPhis c (fun i => (rowOf AH i).length) 0 ≠ 0 then blocksPhis c (fun i => (rowOf AH i).length) 0 else if 0 < (rowOf AH 0).length then 4 else match placesF c with | none => 7 | some acc => usesF c acc (rowOf AH) (rowOf (aboveF c)) by
    unfold onceF
    rw [Hev.out, if_neg (by simp), ← hAH]
    rfl)
  clear hAH hAl hb6'
  go_wp2_with fail
  refine (hah.out _ hb6).mono ?_
  rintro e w7 ⟨vH, rfl, hH, hb7⟩
  obtain ⟨aH, cH, rfl, hlH, hatH⟩ := rIntss_open hH
  rw [HAl.out] at hlH ⊢
  have HH := Lib.hid hH
  have HatH := Lib.hid hatH
  obtain ⟨⟨s0, s1, s2, s3, s4, s5, s6, s7⟩, -⟩ := HHS.out _ hb7
  clear hH hatH hb6
  go_wp2_with fail
  clear s0 s1 s2 s3 s4 s5 s6 s7
  have hpos := Hok.out.some_.1
  have Hpos := Lib.hid hpos
  clear hpos
  go_loopw [26] (fun i wr => ∃ n : Nat, n ≤ c.blocks.length ∧ i = .int .i64 n ∧ blocksPhis c (fun i => (rowOf AH i).length) 0 = blocksPhis c (fun i => (rowOf AH i).length) n ∧ Below w0.heap.size w0 wr ∧ Below w7.heap.size w7 wr) (fun i _ => c.blocks.length - (intOf i).toNat)
  case atStart => exact ⟨0, Nat.zero_le _, rfl, rfl, hb7, Below.refl _ _⟩
  case round =>
    clear hb7
    obtain ⟨n, hn, rfl, hph, hbel, hbel7⟩ := hrel
    have Hph := Lib.hid hph
    clear hph
    have hbw : Below w.heap.size w wr := Hb0.out.trans (hbel.mono Hb0.out.size)
    by_cases hnl : n < c.blocks.length
    · have hnl1 : (n : Int) < (c.blocks.length : Int) := by omega
      obtain ⟨b, off, u, rfl, -, hb, hcell, hu⟩ := Hat.out n hnl
      obtain ⟨a2, cap2, rfl, hcap2, hmax2, hat2⟩ := rBlock_val hu
      unfold maxLen at hmax2
      have hcx : wr.cell? ⟨b, off + n, none⟩ = some (.slice a2 c.blocks[n].length cap2) := (hbw.cell (p := ⟨b, off + n, none⟩) hb).trans hcell
      have hle := phisN_le c.blocks[n]
      have hsl := run_take (P := Tryd.prog) Tryd.underlying38 Tryd.size_instr a2 c.blocks[n].length cap2 (phisN c.blocks[n]) (by omega)
      have Hphis := Lib.hid (phis_any c.blocks[n] _ wr (Good.kept (Keep.of_below' hbw (fun k hk _ => hk)) hu))
      have Hstep := Lib.hid (blocksPhis_step (c := c) (A := fun i => (rowOf AH i).length) hnl)
      have hbm : (phisN c.blocks[n] : Int) ≤ 9223372036854775807 := by omega
      have Hat2 := Lib.hid hat2
      clear hat2 hu hcell hmax2 hcap2 hbw
      generalize c.blocks[n] = bl at *
      go_wp2_with fail
      refine (Hphis.out).mono ?_
      rintro e w8 ⟨rfl, rfl⟩
      go_wp2_with fail
      clear hsl hcx
      go_loopw [36] (fun i wr => ∃ k : Nat, k ≤ phisN bl ∧ i = .int .i64 k ∧ phisFrom c.vars (rowOf AH n).length n bl 0 = phisFrom c.vars (rowOf AH n).length n bl k ∧ Below w0.heap.size w0 wr ∧ Below w7.heap.size w7 wr) (fun i _ => phisN bl - (intOf i).toNat)
      case atStart => exact ⟨0, Nat.zero_le _, rfl, rfl, hbel, hbel7⟩
      case round =>
        clear hbel hbel7
        obtain ⟨k, hk, rfl, hpf, hbel, hbel7⟩ := hrel
        have Hpf := Lib.hid hpf
        clear hpf
        by_cases hkl : k < phisN bl
        · have hkl1 : (k : Int) < (phisN bl : Int) := by omega
          have hkb : k < bl.length := by omega
          have hbw : Below w.heap.size w wr := Hb0.out.trans (hbel.mono Hb0.out.size)
          obtain ⟨b2, off2, v1, v2, v6, rfl, -, hb2, hx0, hx1, hx2, hx3, hx4, hx5, hI, rx1, rx2, rx6⟩ := Hat2.out k hkb
          obtain ⟨sa1, sc1, rfl, hl1, hi1, -⟩ := rInts_open rx1
          obtain ⟨sa2, sc2, rfl, hl2, hi2, -⟩ := rInts_open rx2
          obtain ⟨sa6, sc6, rfl⟩ := rSlice_shape rx6
          have hy0 : wr.cell? ⟨b2, off2 + k * 6, none⟩ = _ := (hbw.cell (p := ⟨b2, off2 + k * 6, none⟩) hb2).trans hx0
          have hy1 : wr.cell? ⟨b2, off2 + k * 6 + 1, none⟩ = _ := (hbw.cell (p := ⟨b2, off2 + k * 6 + 1, none⟩) hb2).trans hx1
          have hy2 : wr.cell? ⟨b2, off2 + k * 6 + 2, none⟩ = _ := (hbw.cell (p := ⟨b2, off2 + k * 6 + 2, none⟩) hb2).trans hx2
          have hy3 : wr.cell? ⟨b2, off2 + k * 6 + 3, none⟩ = _ := (hbw.cell (p := ⟨b2, off2 + k * 6 + 3, none⟩) hb2).trans hx3
          have hy4 : wr.cell? ⟨b2, off2 + k * 6 + 4, none⟩ = _ := (hbw.cell (p := ⟨b2, off2 + k * 6 + 4, none⟩) hb2).trans hx4
          have hy5 : wr.cell? ⟨b2, off2 + k * 6 + 5, none⟩ = _ := (hbw.cell (p := ⟨b2, off2 + k * 6 + 5, none⟩) hb2).trans hx5
          obtain ⟨⟨-, -, -, -, -, hv3, -, -⟩, -⟩ := HHS.out _ hbel
          have hsz := hbel.size
          have hsz7 := hbel7.size
          obtain ⟨bA, oA, aR, cR, rfl, hbA, hcA, hlR, -⟩ := row_at (HatH.out.below hbel7) (n := n) (by rw [HAl.out]; exact hnl)
          have Hs2 := Lib.hid (phisFrom_step (vars := c.vars) (m := (rowOf AH n).length) (i := n) hkb hkl)
          have Hi1 := Lib.hid (hi1.below hbw)
          have Hi2 := Lib.hid (hi2.below hbw)
          have hblt : w.heap.size + 1 < wr.heap.size := by omega
          clear hx0 hx1 hx2 hx3 hx4 hx5 hI rx1 rx2 rx6 hi1 hi2 hbw
          generalize bl[k] = x at *
          go_wp2_with fail
          have hbel' := hbel.alloc hsz (.cells #[.int .i64 x.op, .slice sa1 x.ds.length sc1, .slice sa2 x.ars.length sc2, .int .i64 x.n, .string x.s, .slice sa6 x.to.length sc6] 41)
          have hbel7' := hbel7.alloc hsz7 (.cells #[.int .i64 x.op, .slice sa1 x.ds.length sc1, .slice sa2 x.ars.length sc2, .int .i64 x.n, .string x.s, .slice sa6 x.to.length sc6] 41)
          have Hi1 := Lib.hid (Hi1.out.below ((Below.refl _ _).alloc (Nat.le_refl _) (.cells #[.int .i64 x.op, .slice sa1 x.ds.length sc1, .slice sa2 x.ars.length sc2, .int .i64 x.n, .string x.s, .slice sa6 x.to.length sc6] 41)))
          have Hi2 := Lib.hid (Hi2.out.below ((Below.refl _ _).alloc (Nat.le_refl _) (.cells #[.int .i64 x.op, .slice sa1 x.ds.length sc1, .slice sa2 x.ars.length sc2, .int .i64 x.n, .string x.s, .slice sa6 x.to.length sc6] 41)))
          have g : ∀ j, (wr.alloc (.cells #[.int .i64 x.op, .slice sa1 x.ds.length sc1, .slice sa2 x.ars.length sc2, .int .i64 x.n, .string x.s, .slice sa6 x.to.length sc6] 41)).cell? ⟨wr.heap.size, j, none⟩ = (#[.int .i64 x.op, .slice sa1 x.ds.length sc1, .slice sa2 x.ars.length sc2, .int .i64 x.n, .string x.s, .slice sa6 x.to.length sc6] : Array Value)[j]? := fun j => by rw [World.cell?_alloc_at _ _ _ _ rfl]
          have hcA' : (wr.alloc (.cells #[.int .i64 x.op, .slice sa1 x.ds.length sc1, .slice sa2 x.ars.length sc2, .int .i64 x.n, .string x.s, .slice sa6 x.to.length sc6] 41)).cell? ⟨bA, oA + n, none⟩ = some (.slice aR (rowOf AH n).length cR) := by rw [World.cell?_alloc_lt _ _ _ hbA]; exact hcA
          have hv3' : (wr.alloc (.cells #[.int .i64 x.op, .slice sa1 x.ds.length sc1, .slice sa2 x.ars.length sc2, .int .i64 x.n, .string x.s, .slice sa6 x.to.length sc6] 41)).cell? ⟨w.heap.size + 1, 3, none⟩ = some (.int .i64 c.vars) := by rw [World.cell?_alloc_lt _ _ _ hblt]; exact hv3
          clear hy0 hy1 hy2 hy3 hy4 hy5 hcA hv3 hbel hbel7 hsz hsz7 hbA hblt
          generalize wr.alloc (.cells #[.int .i64 x.op, .slice sa1 x.ds.length sc1, .slice sa2 x.ars.length sc2, .int .i64 x.n, .string x.s, .slice sa6 x.to.length sc6] 41) = w9 at *
          generalize wr.heap.size = bx at *
          have g1 := g 1
          have g2 := g 2
          have g5 := g 5
          simp at g1 g2 g5
          clear g
          -- what follows from a Phi's fault
          have hfault : phiFault c.vars (rowOf AH n).length n x ≠ 0 → onceF fs c (rowOf (aheadF c)) (rowOf (aboveF c)) = phiFault c.vars (rowOf AH n).length n x := fun h => by
            have e1 : phisFrom c.vars (rowOf AH n).length n bl 0 = phiFault c.vars (rowOf AH n).length n x := by rw [Hpf.out, Hs2.out, if_pos h]
            have e2 : blocksPhis c (fun i => (rowOf AH i).length) 0 = phiFault c.vars (rowOf AH n).length n x := by
              rw [Hph.out, Hstep.out]
              simp only [e1]
              rw [if_pos h]
            rw [Hres.out, e2, if_pos h]
          have Hfault := Lib.hid hfault
          have hgood : phiFault c.vars (rowOf AH n).length n x = 0 → phisFrom c.vars (rowOf AH n).length n bl 0 = phisFrom c.vars (rowOf AH n).length n bl (k + 1) := fun h => by rw [Hpf.out, Hs2.out, if_neg (by rw [h]; simp)]
          have Hgood := Lib.hid hgood
          clear hfault hgood
          generalize hm : (rowOf AH n).length = m at *
          have Hm := Lib.hid hm
          clear hm
          have hcount : ∀ (P : Prop), (x.ds.length ≠ 1 ∨ x.ars.length ≠ m ∨ 0 < x.to.length) → onceF fs c (rowOf (aheadF c)) (rowOf (aboveF c)) = 10 := fun _ h => by
            have e : phiFault c.vars m n x = 10 := by unfold phiFault; rw [if_pos h]
            rw [Hfault.out (by rw [e]; decide), e]
          have Hcount := Lib.hid hcount
          clear hcount
          by_cases A1 : x.ds.length = 1
          case neg =>
            have d1 : ((x.ds.length : Int) != 1) = true := by simpa using (show ¬ (x.ds.length : Int) = 1 by omega)
            have HA := Lib.hid (Hcount.out True (Or.inl A1))
            clear A1
            go_quiet (fail)
            go_wp2_with fail
            go_ret
            refine ⟨?_, Hb0.out.trans ((hbel'.trans (Drawn.below ⟨_, rfl⟩ _)).mono Hb0.out.size)⟩
            rw [HA.out]
            rfl
          have d1 : ((x.ds.length : Int) != 1) = false := by simpa using (show (x.ds.length : Int) = 1 by omega)
          by_cases A2 : x.ars.length = m
          case neg =>
            have d2 : ((x.ars.length : Int) != (m : Int)) = true := by simpa using (show ¬ (x.ars.length : Int) = m by omega)
            have HA := Lib.hid (Hcount.out True (Or.inr (Or.inl A2)))
            clear A2 A1
            go_quiet (fail)
            go_wp2_with fail
            go_ret
            refine ⟨?_, Hb0.out.trans ((hbel'.trans (Drawn.below ⟨_, rfl⟩ _)).mono Hb0.out.size)⟩
            rw [HA.out]
            rfl
          have d2 : ((x.ars.length : Int) != (m : Int)) = false := by simpa using (show (x.ars.length : Int) = m by omega)
          by_cases A3 : x.to.length = 0
          case neg =>
            have hpo : 0 < x.to.length := by omega
            have d3 : decide (0 < x.to.length) = true := decide_eq_true hpo
            have HA := Lib.hid (Hcount.out True (Or.inr (Or.inr hpo)))
            clear A2 A1 A3
            go_quiet (fail)
            go_wp2_with fail
            go_ret
            refine ⟨?_, Hb0.out.trans ((hbel'.trans (Drawn.below ⟨_, rfl⟩ _)).mono Hb0.out.size)⟩
            rw [HA.out]
            rfl
          have hform : phiFault c.vars m n x = if (inAll x.ds c.vars && inAll x.ars c.vars) = false then 2 else if n = 0 then 4 else 0 := by unfold phiFault; rw [if_neg (by omega)]
          have Hform := Lib.hid hform
          have Ha1 := Lib.hid (any_oddF x.ds c.vars)
          have Ha2 := Lib.hid (any_oddF x.ars c.vars)
          rw [A3] at g5
          clear hform A1 A2 A3
          go_quiet (fail)
          go_wp2_with fail
          refine (containsFunc_ints 25 _ (oddF c.vars) sa1 x.ds sc1 (w9.drewN nq) hl1 (Hi1.out.heap rfl) enters_odd3 (odd3_answers c.vars x.ds (w9.drewN nq) (w.heap.size + 1) hv3')).mono ?_
          rintro e w10 ⟨rfl, hd1⟩
          have hbel10 := (hbel'.trans (Drawn.below ⟨_, rfl⟩ _)).trans (hd1.below w0.heap.size)
          have hv4 : w10.cell? ⟨w.heap.size + 1, 3, none⟩ = some (.int .i64 c.vars) := (hd1.cell _).trans hv3'
          have g2' : w10.cell? ⟨bx, 2, none⟩ = some (.slice sa2 x.ars.length sc2) := (hd1.cell _).trans g2
          have hi2' : IntsAt w10 sa2 x.ars := (Hi2.out.heap (w' := w9.drewN nq) rfl).heap hd1.heap
          have Hi2' := Lib.hid hi2'
          have hbel710 := (hbel7'.trans (Drawn.below ⟨_, rfl⟩ _)).trans (hd1.below w7.heap.size)
          clear hi2' hv3' g1 g2 g5 hcA' Hi1 Hi2 hbel' hbel7' hd1
          cases h1 : x.ds.any (oddF c.vars) with
          | true =>
            have HA := Lib.hid (show onceF fs c (rowOf (aheadF c)) (rowOf (aboveF c)) = 2 by
              have e1 : inAll x.ds c.vars = false := by have := Ha1.out; rw [h1] at this; simpa using this.symm
              have e : phiFault c.vars m n x = 2 := by rw [Hform.out, if_pos (by rw [e1]; rfl)]
              rw [Hfault.out (by rw [e]; decide), e])
            clear h1
            go_wp2_with fail
            go_ret
            refine ⟨?_, Hb0.out.trans ((hbel10).mono Hb0.out.size)⟩
            rw [HA.out]
            rfl
          | false =>
            have e1 := Lib.hid (show inAll x.ds c.vars = true by have := Ha1.out; rw [h1] at this; simpa using this.symm)
            clear h1
            go_wp2_with fail
            refine (containsFunc_ints 25 _ (oddF c.vars) sa2 x.ars sc2 _ hl2 Hi2'.out enters_odd3 (odd3_answers c.vars x.ars _ (w.heap.size + 1) hv4)).mono ?_
            rintro e w11 ⟨rfl, hd2⟩
            have hbel11 := hbel10.trans (hd2.below w0.heap.size)
            have hbel711 := hbel710.trans (hd2.below w7.heap.size)
            clear hv4 g2' Hi2' hbel10 hbel710 hd2
            cases h2 : x.ars.any (oddF c.vars) with
            | true =>
              have HA := Lib.hid (show onceF fs c (rowOf (aheadF c)) (rowOf (aboveF c)) = 2 by
                have e2 : inAll x.ars c.vars = false := by have := Ha2.out; rw [h2] at this; simpa using this.symm
                have e : phiFault c.vars m n x = 2 := by rw [Hform.out, if_pos (by rw [e2, Bool.and_false])]
                rw [Hfault.out (by rw [e]; decide), e])
              clear h2
              go_wp2_with fail
              go_ret
              refine ⟨?_, Hb0.out.trans ((hbel11).mono Hb0.out.size)⟩
              rw [HA.out]
              rfl
            | false =>
              have e2 := Lib.hid (show inAll x.ars c.vars = true by have := Ha2.out; rw [h2] at this; simpa using this.symm)
              clear h2
              by_cases hn0 : n = 0
              · have d4 : ((n : Int) == 0) = true := by simpa using hn0
                have HA := Lib.hid (show onceF fs c (rowOf (aheadF c)) (rowOf (aboveF c)) = 4 by
                  have e : phiFault c.vars m n x = 4 := by rw [Hform.out, if_neg (by rw [e1.out, e2.out]; simp), if_pos hn0]
                  rw [Hfault.out (by rw [e]; decide), e])
                clear hn0
                go_wp2_with fail
                go_ret
                refine ⟨?_, Hb0.out.trans ((hbel11).mono Hb0.out.size)⟩
                rw [HA.out]
                rfl
              · have d4 : ((n : Int) == 0) = false := by simpa using hn0
                have HA := Lib.hid (Hgood.out (by rw [Hform.out, if_neg (by rw [e1.out, e2.out]; simp), if_neg hn0]))
                clear hn0
                go_wp2_with fail
                go_roundw
                case rel => exact ⟨k + 1, by omega, by go_num, by rw [Hm.out]; exact HA.out, hbel11, hbel711⟩
                case measure => simp [intOf]; omega
        · have hke : k = phisN bl := by omega
          subst hke
          have HA := Lib.hid (show blocksPhis c (fun i => (rowOf AH i).length) 0 = blocksPhis c (fun i => (rowOf AH i).length) (n + 1) by
            have e1 : phisFrom c.vars (rowOf AH n).length n bl 0 = 0 := by rw [Hpf.out, phisFrom_end (Nat.le_refl _)]
            rw [Hph.out, Hstep.out]
            simp only [e1]
            rw [if_neg (by simp)])
          go_wp2_with fail
          go_roundw
          case rel => exact ⟨n + 1, by omega, by go_num, HA.out, hbel, hbel7⟩
          case measure => simp [intOf]; omega
    · have hne : n = c.blocks.length := by omega
      subst hne
      have Hb0' := Lib.hid (Hph.out.trans (blocksPhis_end (Nat.le_refl _)))
      have Hres2 := Lib.hid (show onceF fs c (rowOf (aheadF c)) (rowOf (aboveF c)) = if 0 < (rowOf AH 0).length then 4 else match placesF c with | none => 7 | some acc => usesF c acc (rowOf AH) (rowOf (aboveF c)) by
        rw [Hres.out, Hb0'.out, if_neg (by simp)])
      obtain ⟨bA, oA, aR, cR, rfl, hbA, hcA, hlR, -⟩ := row_at (HatH.out.below hbel7) (n := 0) (by rw [HAl.out]; exact Hpos.out)
      have hnz : (0 : Int) < (c.blocks.length : Int) := by have := Hpos.out; omega
      rw [Nat.add_zero] at hcA
      by_cases hz : (rowOf AH 0).length = 0
      case neg =>
        have hpo : 0 < (rowOf AH 0).length := by omega
        have d3 : decide (0 < (rowOf AH 0).length) = true := decide_eq_true hpo
        have HA := Lib.hid (show onceF fs c (rowOf (aheadF c)) (rowOf (aboveF c)) = 4 by rw [Hres2.out, if_pos hpo])
        clear hz
        generalize (rowOf AH 0).length = l0 at *
        go_wp2_with fail
        go_ret
        refine ⟨?_, Hb0.out.trans ((hbel).mono Hb0.out.size)⟩
        rw [HA.out]
        rfl
      have Hres3 := Lib.hid (show onceF fs c (rowOf (aheadF c)) (rowOf (aboveF c)) = match placesF c with | none => 7 | some acc => usesF c acc (rowOf AH) (rowOf (aboveF c)) by rw [Hres2.out, if_neg (by omega)])
      rw [hz] at hcA hlR
      clear hz
      obtain ⟨⟨s0, s1, s2, s3, s4, s5, s6, s7⟩, -⟩ := HHS.out _ hbel
      have Hpl := Lib.hid (places_any c _ wr (Good.kept (Keep.of_below' (Hb0.out.trans (hbel.mono Hb0.out.size)) (fun k hk _ => hk)) Hc.out) hf Hok.out.pars.1)
      go_wp2_with fail
      refine (Hpl.out).mono ?_
      rintro e w8 ⟨hb8, hcase⟩
      have hbel8 := below_more hbel hb8
      have hbel78 := below_more hbel7 hb8
      clear s0 s1 s2 s3 s4 s5 s6 s7 hcA hbA
      rcases hcase with ⟨hnone, rfl⟩ | ⟨acc, hsome, rfl, hmI⟩
      · have HA := Lib.hid (show onceF fs c (rowOf (aheadF c)) (rowOf (aboveF c)) = 7 by rw [Hres3.out, hnone])
        clear hnone
        go_wp2_with fail
        go_ret
        refine ⟨?_, Hb0.out.trans ((hbel8).mono Hb0.out.size)⟩
        rw [HA.out]
        rfl
      · have HA := Lib.hid (show onceF fs c (rowOf (aheadF c)) (rowOf (aboveF c)) = usesF c acc (rowOf AH) (rowOf (aboveF c)) by rw [Hres3.out, hsome])
        clear hsome
        obtain ⟨⟨s0, s1, s2, s3, s4, s5, s6, s7⟩, -⟩ := HHS.out _ hbel8
        have Hus := Lib.hid (uses_any c _ acc AH _ _ w8 (Good.kept (Keep.of_below' (Hb0.out.trans (hbel8.mono Hb0.out.size)) (fun k hk _ => hk)) Hc.out) hf hmI (Good.keep (Keep.of_below' hbel78 (fun k hk _ => hk)) (fun _ _ h => h) HH.out) HAl.out
          (fun i hi x hx => by
            have hx' : x ∈ aheadRow c c.blocks.length i := by
              simp only [HAH.out, aheadF, List.getElem_map, List.getElem_range] at hx
              exact hx
            have := mem_aheadRow c _ i x hx'
            omega)
          (fun i hi k hk hp => phi_args (A := fun i => (rowOf AH i).length) Hok.out Hb0'.out hi hk hp))
        have hx := Hus.out
        rw [HAl.out] at hx
        have Hx := Lib.hid hx
        clear hmI hx Hus
        go_wp2_with fail
        refine (Hx.out).mono ?_
        rintro e w9 ⟨rfl, hb9⟩
        clear s0 s1 s2 s3 s4 s5 s6 s7
        have hbel9 := below_more hbel8 hb9
        go_wp2_with fail
        go_ret
        refine ⟨?_, Hb0.out.trans ((hbel9).mono Hb0.out.size)⟩
        rw [HA.out]
        rfl
end Go.Proofs.YthgfdcoicihpdaaDoor

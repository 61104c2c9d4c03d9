/-
  ssa.uses and its closure: is each variable set on every way to where it is asked?
-/
import Derived.Test.YthgfdcoicihpdaaDoorPlaces
import Derived.Test.YthgfdcoicihpdaaDoorAbove
namespace Go.Proofs.YthgfdcoicihpdaaDoor
open Go.RowKit Go.Pst
set_option linter.unusedVariables false
set_option linter.unusedSimpArgs false

def rowOf (L : List (List Int)) (i : Nat) : List Int := L.getD i []

theorem row_at {w : World} {a : Option Addr} {L : List (List Int)} (h : IntssAt w a L) {n : Nat} (hn : n < L.length) :
    ∃ b off a' cap', a = some ⟨b, off, none⟩ ∧ b < w.heap.size ∧ w.cell? ⟨b, off + n, none⟩ = some (.slice a' (rowOf L n).length cap') ∧ (rowOf L n).length ≤ 9223372036854775807 ∧ IntsAt w a' (rowOf L n) := by
  have e : rowOf L n = L[n] := by simp [rowOf, hn]
  rw [e]
  exact h n hn

set_option maxHeartbeats 1000000 in
theorem known_any (acc : Sets) (L : List (List Int)) (v : Int) (b k la lb bm : Nat) (aa : Option Addr) (ca : Nat) (w : World) (hb : b < L.length) (hk : (k : Int) ≤ 9223372036854775807) (hL : L.length ≤ 9223372036854775807)
    (c1 : w.cell? ⟨la, 0, none⟩ = some (.map (some bm))) (c2 : w.cell? ⟨lb, 0, none⟩ = some (.slice aa L.length ca)) (l1 : la < w.heap.size) (l2 : lb < w.heap.size) (hm : MapI w bm (placeMap acc)) (hA : IntssAt w aa L) :
    Calls Tryd.prog 42 #[.int .i64 v, .int .i64 (b : Int), .int .i64 (k : Int), .pointer (some ⟨la, 0, none⟩), .pointer (some ⟨lb, 0, none⟩)] w fun e w' => e = .returned (.bool (knownF acc (rowOf L) v b k)) ∧ Below w.heap.size w w' := by
  have hlk := placeMap_look acc v
  have hbi : (b : Int) < (L.length : Int) := by omega
  obtain ⟨b1, off1, a2, cap2, rfl, hb1, hc1, hl2, hat2⟩ := hA b hb
  have hrow : rowOf L b = L[b] := by simp [rowOf, hb]
  have hc1' : ∀ o, (w.alloc o).cell? ⟨b1, off1 + b, none⟩ = some (.slice a2 L[b].length cap2) := fun o => by rw [World.cell?_alloc_lt _ _ _ hb1]; exact hc1
  have c2' : ∀ o, (w.alloc o).cell? ⟨lb, 0, none⟩ = some (.slice (some ⟨b1, off1, none⟩) L.length ca) := fun o => by rw [World.cell?_alloc_lt _ _ _ l2]; exact c2
  have hat3 : ∀ o, IntsAt (w.alloc o) a2 L[b] := fun o => hat2.below ((Below.refl _ _).alloc (Nat.le_refl _) o)
  have Hr := Lib.hid hrow
  clear hA hat2 hrow hc1
  generalize L[b] = row at *
  cases hs : lookS acc v with
  | none =>
    rw [hs] at hlk
    have Hs := Lib.hid hs
    have Hlk := Lib.hid hlk
    clear hs hlk
    go_enter Tryd.func42, Tryd.ntmps42
    go_wp2_with (refine wpList_lookupI (κ := Int) rfl _ _ 51 true rfl Tryd.underlying51 Tryd.underlying3 (Tryd.zero_place _) bm _ rfl hm v rfl ?_; rw [Hlk.out]; simp only [Option.map_none, Option.getD_none, Option.isSome_none])
    go_ret
    exact ⟨by simp [knownF, Hs.out], (Below.refl _ _).alloc (Nat.le_refl _) _⟩
  | some p =>
    obtain ⟨pb, pk⟩ := p
    rw [hs] at hlk
    have Hlk := Lib.hid hlk
    have Hk := Lib.hid (show knownF acc (rowOf L) v b k = (decide (pb < 0) || (decide (pb = b) && decide (pk < k)) || (decide (pb ≠ b) && decide (pb ∈ row))) by unfold knownF; rw [hs, Hr.out])
    clear hlk hs
    by_cases h1 : pb < 0
    · have d1 : decide (pb < 0) = true := decide_eq_true h1
      have d2 : (pb == (b : Int)) = false := by simpa using (show ¬ pb = (b : Int) by omega)
      go_enter Tryd.func42, Tryd.ntmps42
      go_wp2_with (refine wpList_lookupI (κ := Int) rfl _ _ 51 true rfl Tryd.underlying51 Tryd.underlying3 (Tryd.zero_place _) bm _ rfl hm v rfl ?_; rw [Hlk.out]; simp only [Option.map_some, Option.getD_some, Option.isSome_some, encP])
      go_quiet (fail)
      go_wp2_with fail
      go_ret
      exact ⟨by rw [Hk.out, d1]; rfl, ((Below.refl _ _).alloc (Nat.le_refl _) _).trans (Drawn.below ⟨_, rfl⟩ _)⟩
    · have d1 : decide (pb < 0) = false := decide_eq_false h1
      by_cases h2 : pb = b
      · have d2 : (pb == (b : Int)) = true := by simpa using h2
        have d3 : (pb != (b : Int)) = false := by simpa using h2
        have H2 := Lib.hid h2
        clear h2
        by_cases h3 : pk < k
        · have d4 : decide (pk < (k : Int)) = true := decide_eq_true h3
          go_enter Tryd.func42, Tryd.ntmps42
          go_wp2_with (refine wpList_lookupI (κ := Int) rfl _ _ 51 true rfl Tryd.underlying51 Tryd.underlying3 (Tryd.zero_place _) bm _ rfl hm v rfl ?_; rw [Hlk.out]; simp only [Option.map_some, Option.getD_some, Option.isSome_some, encP])
          go_quiet (fail)
          go_wp2_with fail
          go_ret
          exact ⟨by rw [Hk.out, d4, decide_eq_true H2.out]; simp, ((Below.refl _ _).alloc (Nat.le_refl _) _).trans (Drawn.below ⟨_, rfl⟩ _)⟩
        · have d4 : decide (pk < (k : Int)) = false := decide_eq_false h3
          go_enter Tryd.func42, Tryd.ntmps42
          go_wp2_with (refine wpList_lookupI (κ := Int) rfl _ _ 51 true rfl Tryd.underlying51 Tryd.underlying3 (Tryd.zero_place _) bm _ rfl hm v rfl ?_; rw [Hlk.out]; simp only [Option.map_some, Option.getD_some, Option.isSome_some, encP])
          go_quiet (fail)
          go_wp2_with fail
          go_ret
          exact ⟨by rw [Hk.out, d1, d4]; simp [H2.out], ((Below.refl _ _).alloc (Nat.le_refl _) _).trans (Drawn.below ⟨_, rfl⟩ _)⟩
      · have d2 : (pb == (b : Int)) = false := by simpa using h2
        have d3 : (pb != (b : Int)) = true := by simpa using h2
        have H2 := Lib.hid h2
        clear h2
        go_enter Tryd.func42, Tryd.ntmps42
        go_wp2_with (refine wpList_lookupI (κ := Int) rfl _ _ 51 true rfl Tryd.underlying51 Tryd.underlying3 (Tryd.zero_place _) bm _ rfl hm v rfl ?_; rw [Hlk.out]; simp only [Option.map_some, Option.getD_some, Option.isSome_some, encP])
        go_quiet ((go_at_call 32; go_must (refine Calls.quiet_of_same ((contains_any pb a2 row cap2 _ hl2 (by exact (hat3 _).heap rfl)).mono fun _ _ ⟨he, hw⟩ => ⟨he, hw.symm⟩))))
        go_wp2_with fail
        go_ret
        exact ⟨by rw [Hk.out, d1]; simp [H2.out], ((Below.refl _ _).alloc (Nat.le_refl _) _).trans (Drawn.below ⟨_, rfl⟩ _)⟩

open Classical in
noncomputable def usesF (c : PCode) (acc : Sets) (ahead above : Nat → List Int) : Int := if usesOK c acc ahead above then 0 else 12
theorem usesF_bad {c : PCode} {acc : Sets} {ahead above : Nat → List Int} {i k n : Nat} (hi : i < c.blocks.length) (ha : above i ≠ []) (hk : k < c.blocks[i].length) (hn : n < c.blocks[i][k].ars.length) (h : argOK c acc ahead above i k n c.blocks[i][k] = false) : usesF c acc ahead above = 12 := by
  unfold usesF
  rw [if_neg]
  intro hu
  rw [hu i hi ha k hk n hn] at h
  cases h
/-- What has been asked of a block's instructions ahead of the k-th. -/
def BlkOK (c : PCode) (acc : Sets) (ahead above : Nat → List Int) (i : Nat) (bl : List PInstr) (k : Nat) : Prop := ∀ k' (hk : k' < bl.length), k' < k → ∀ n, n < bl[k'].ars.length → argOK c acc ahead above i k' n bl[k'] = true
def RowsOK (c : PCode) (acc : Sets) (ahead above : Nat → List Int) (m : Nat) : Prop := ∀ i (hi : i < c.blocks.length), i < m → above i ≠ [] → BlkOK c acc ahead above i c.blocks[i] c.blocks[i].length
theorem usesF_ok {c : PCode} {acc : Sets} {ahead above : Nat → List Int} (h : RowsOK c acc ahead above c.blocks.length) : usesF c acc ahead above = 0 := by
  unfold usesF
  rw [if_pos]
  exact fun i hi ha k hk n hn => h i hi hi ha k hk hk n hn
theorem aboveF_len (c : PCode) : (aboveF c).length = c.blocks.length := by simp [aboveF]

set_option maxRecDepth 100000 in
set_option maxHeartbeats 4000000 in
theorem uses_any (c : PCode) (cs : List Value) (acc : Sets) (AH : List (List Int)) (bm : Nat) (va : Value) (w : World) (hc : rCode (fun _ => True) w cs c) (hf : FitCode c) (hm : MapI w bm (placeMap acc)) (ha : rIntss (fun _ => True) w [va] AH)
    (hlen : AH.length = c.blocks.length) (hin : ∀ i (hi : i < AH.length), ∀ x ∈ AH[i], 0 ≤ x ∧ x < c.blocks.length)
    (hphi : ∀ i (hi : i < c.blocks.length) k (hk : k < c.blocks[i].length), c.blocks[i][k].op = 14 → c.blocks[i][k].ars.length = (rowOf AH i).length) :
    Calls Tryd.prog 28 #[.agg cs.toArray, .map (some bm), va] w fun e w' => e = .returned (.int .i64 (usesF c acc (rowOf AH) (rowOf (aboveF c)))) ∧ Below w.heap.size w w' := by
  have hc0 := hc
  obtain ⟨v5, rfl, hI, hbs⟩ := hc
  obtain ⟨a, cap, rfl, hcap, hmax, hat⟩ := rSlice_one hbs
  unfold maxLen at hmax
  have hnb : c.blocks.length ≤ 9223372036854775807 := by omega
  obtain ⟨aH, cH, rfl, hlH, hatH⟩ := rIntss_open ha
  rw [hlen] at hlH
  have Hat := Lib.hid hat
  have Hc := Lib.hid hc0
  have HatH := Lib.hid hatH
  have Hlen := Lib.hid hlen
  have Hin := Lib.hid hin
  have Hphi := Lib.hid hphi
  have Hm := Lib.hid hm
  have Hal := Lib.hid (aboveF_len c)
  rw [hlen]
  generalize hAB : aboveF c = AB at *
  have HAB := Lib.hid hAB
  clear hbs hAB hat hI hc0 hcap hmax hatH ha hlen hin hphi hm
  go_enter Tryd.func28, Tryd.ntmps28
  go_wp2_with fail
  generalize hw0 : (w.alloc (.cells #[.string c.name, .int .i64 c.params, .int .i64 c.results, .int .i64 c.vars, .int .i64 c.slots, .slice a c.blocks.length cap] 28)).alloc (.cells #[.map (some bm)] 51) = w0
  have hbel0 : Below w.heap.size w w0 := by rw [← hw0]; exact below_box2 _ _ _
  have hsz0 : w0.heap.size = w.heap.size + 2 := by rw [← hw0]; simp
  have bc : ∀ j, w0.cell? ⟨w.heap.size, j, none⟩ = (#[.string c.name, .int .i64 c.params, .int .i64 c.results, .int .i64 c.vars, .int .i64 c.slots, .slice a c.blocks.length cap] : Array Value)[j]? := fun j => by rw [← hw0, box2_1]
  have bm0 : w0.cell? ⟨w.heap.size + 1, 0, none⟩ = some (.map (some bm)) := by rw [← hw0, box2_2]; rfl
  have bc5 := bc 5
  simp at bc5
  clear hw0 bc
  refine (above_any c _ w0 (Good.kept (Keep.of_below' hbel0 (fun k hk _ => hk)) Hc.out) hf).mono ?_
  rintro e w1 ⟨vA, rfl, hvA, hb1⟩
  rw [HAB.out] at hvA
  obtain ⟨aA, cA, rfl, hlA, hatA⟩ := rIntss_open hvA
  rw [Hal.out] at hlA ⊢
  have bc5' := (hb1.cell (p := ⟨w.heap.size, 5, none⟩) (by show w.heap.size < _; omega)).trans bc5
  have bm0' := (hb1.cell (p := ⟨w.heap.size + 1, 0, none⟩) (by show w.heap.size + 1 < _; omega)).trans bm0
  have hw1 := hb1.size
  have hl0 : w.heap.size < w1.heap.size := by omega
  clear bc5 bm0 hvA
  go_wp2_with fail
  have hb2 : Below w.heap.size w (w1.alloc (.cells #[.slice aA c.blocks.length cA] 36)) := (hbel0.trans (hb1.mono (by omega))).alloc (by omega) _
  have k5 : (w1.alloc (.cells #[.slice aA c.blocks.length cA] 36)).cell? ⟨w.heap.size, 5, none⟩ = some (.slice a c.blocks.length cap) := by rw [World.cell?_alloc_lt _ _ _ (show w.heap.size < _ by omega)]; exact bc5'
  have k6 : (w1.alloc (.cells #[.slice aA c.blocks.length cA] 36)).cell? ⟨w.heap.size + 1, 0, none⟩ = some (.map (some bm)) := by rw [World.cell?_alloc_lt _ _ _ (show w.heap.size + 1 < _ by omega)]; exact bm0'
  have k7 : (w1.alloc (.cells #[.slice aA c.blocks.length cA] 36)).cell? ⟨w1.heap.size, 0, none⟩ = some (.slice aA c.blocks.length cA) := by rw [World.cell?_alloc_at _ _ _ _ rfl]; rfl
  have kA := hatA.below ((Below.refl w1.heap.size w1).alloc (Nat.le_refl _) (.cells #[.slice aA c.blocks.length cA] 36))
  have hs2 : w1.heap.size < (w1.alloc (.cells #[.slice aA c.blocks.length cA] 36)).heap.size := by simp
  generalize w1.alloc (.cells #[.slice aA c.blocks.length cA] 36) = w2 at *
  generalize hB : w1.heap.size = B at *
  have Hb2 := Lib.hid hb2
  have K5 := Lib.hid k5
  have K6 := Lib.hid k6
  have K7 := Lib.hid k7
  have KA := Lib.hid kA
  clear hbel0 hsz0 hatA hb1 bc5' bm0' hw1 hB hb2 k5 k6 k7 kA
  go_loopw [22] (fun i wr => ∃ n : Nat, n ≤ c.blocks.length ∧ i = .int .i64 n ∧ RowsOK c acc (rowOf AH) (rowOf AB) n ∧ Below w2.heap.size w2 wr) (fun i _ => c.blocks.length - (intOf i).toNat)
  case atStart => exact ⟨0, Nat.zero_le _, rfl, fun i hi h => by omega, Below.refl _ _⟩
  case round =>
    obtain ⟨n, hn, rfl, hrok, hbel⟩ := hrel
    have Hrok := Lib.hid hrok
    clear hrok
    by_cases hnl : n < c.blocks.length
    · have hnl1 : (n : Int) < (c.blocks.length : Int) := by omega
      have hbw : Below w.heap.size w wr := Hb2.out.trans (hbel.mono Hb2.out.size)
      obtain ⟨b, off, u, rfl, -, hb, hcell, hu⟩ := Hat.out n hnl
      obtain ⟨a2, cap2, rfl, hcap2, hmax2, hat2⟩ := rBlock_val hu
      have hcx : wr.cell? ⟨b, off + n, none⟩ = some (.slice a2 c.blocks[n].length cap2) := (hbw.cell (p := ⟨b, off + n, none⟩) hb).trans hcell
      obtain ⟨bA, oA, aR, cR, rfl, hbA, hcA, hlR, -⟩ := row_at (KA.out.below hbel) (n := n) (by rw [Hal.out]; exact hnl)
      have k7 := (hbel.cell (p := ⟨B, 0, none⟩) (by show B < _; omega)).trans K7.out
      unfold maxLen at hmax2
      have hbm : c.blocks[n].length ≤ 9223372036854775807 := by omega
      by_cases hz : (rowOf AB n).length = 0
      · have z1 : (((rowOf AB n).length : Int) == 0) = true := by simpa using hz
        have Hz := Lib.hid (List.eq_nil_of_length_eq_zero hz)
        clear hz hat2 hu hcell hbw hcap2 hmax2
        generalize hrow : rowOf AB n = row at *
        have Hrow := Lib.hid hrow
        clear hrow
        generalize c.blocks[n] = bl at *
        go_wp2_with fail
        go_roundw
        case rel => exact ⟨n + 1, by omega, by go_num, fun i hi h1 h2 => by
          by_cases e : i < n
          · exact Hrok.out i hi e h2
          · obtain rfl : i = n := by omega
            exact absurd (Hrow.out.trans Hz.out) h2, hbel⟩
        case measure => simp [intOf]; omega
      · have z1 : (((rowOf AB n).length : Int) == 0) = false := by simpa using hz
        have Hz := Lib.hid (show rowOf AB n ≠ [] from fun e => hz (by rw [e]; rfl))
        have Hbad := Lib.hid (fun k hk j hj h => usesF_bad (c := c) (acc := acc) (ahead := rowOf AH) (above := rowOf AB) (i := n) (k := k) (n := j) hnl Hz.out hk hj h)
        have Hph := Lib.hid (Hphi.out n hnl)
        have Hat2 := Lib.hid hat2
        clear hz hat2 hu hcell hbw hcap2 hmax2
        generalize hrow : rowOf AB n = row at *
        have Hrow := Lib.hid hrow
        clear hrow
        generalize hbl : c.blocks[n] = bl at *
        have Hbl := Lib.hid hbl
        clear hbl
        go_wp2_with fail
        have hok0 : BlkOK c acc (rowOf AH) (rowOf AB) n bl 0 := fun k' _ h => absurd h (by omega)
        go_loopw [35] (fun i wr => ∃ k : Nat, k ≤ bl.length ∧ i = .int .i64 k ∧ BlkOK c acc (rowOf AH) (rowOf AB) n bl k ∧ Below w2.heap.size w2 wr) (fun i _ => bl.length - (intOf i).toNat)
        case atStart => exact ⟨0, Nat.zero_le _, rfl, hok0, hbel⟩
        case round =>
          clear hbel hok0 hcx hcA hbA k7 z1
          obtain ⟨k, hk, rfl, hbk, hbel⟩ := hrel
          have Hbk := Lib.hid hbk
          clear hbk
          by_cases hkl : k < bl.length
          · have hkl1 : (k : Int) < (bl.length : Int) := by omega
            have hbw : Below w.heap.size w wr := Hb2.out.trans (hbel.mono Hb2.out.size)
            obtain ⟨b2, off2, v1, v2, v6, rfl, -, hb2, hx0, hx1, hx2, hx3, hx4, hx5, hI, rx1, rx2, rx6⟩ := Hat2.out k hkl
            obtain ⟨sa1, sc1, rfl⟩ := rSlice_shape rx1
            obtain ⟨sa2, sc2, rfl, hl1, hi1, -⟩ := rInts_open rx2
            obtain ⟨sa6, sc6, rfl⟩ := rSlice_shape rx6
            have hy0 : wr.cell? ⟨b2, off2 + k * 6, none⟩ = _ := (hbw.cell (p := ⟨b2, off2 + k * 6, none⟩) hb2).trans hx0
            have hy1 : wr.cell? ⟨b2, off2 + k * 6 + 1, none⟩ = _ := (hbw.cell (p := ⟨b2, off2 + k * 6 + 1, none⟩) hb2).trans hx1
            have hy2 : wr.cell? ⟨b2, off2 + k * 6 + 2, none⟩ = _ := (hbw.cell (p := ⟨b2, off2 + k * 6 + 2, none⟩) hb2).trans hx2
            have hy3 : wr.cell? ⟨b2, off2 + k * 6 + 3, none⟩ = _ := (hbw.cell (p := ⟨b2, off2 + k * 6 + 3, none⟩) hb2).trans hx3
            have hy4 : wr.cell? ⟨b2, off2 + k * 6 + 4, none⟩ = _ := (hbw.cell (p := ⟨b2, off2 + k * 6 + 4, none⟩) hb2).trans hx4
            have hy5 : wr.cell? ⟨b2, off2 + k * 6 + 5, none⟩ = _ := (hbw.cell (p := ⟨b2, off2 + k * 6 + 5, none⟩) hb2).trans hx5
            have Hi1 := Lib.hid hi1
            have Hbad2 := Lib.hid (Hbad.out k hkl)
            have Hph2 := Lib.hid (Hph.out k hkl)
            have hgs : w2.heap.size ≤ wr.heap.size := hbel.size
            clear hx0 hx1 hx2 hx3 hx4 hx5 hI rx1 rx2 rx6 hi1 hbw
            generalize hxe : bl[k] = x at *
            have Hxe := Lib.hid hxe
            clear hxe
            go_wp2_with fail
            have hbel' := hbel.alloc hgs (.cells #[.int .i64 x.op, .slice sa1 x.ds.length sc1, .slice sa2 x.ars.length sc2, .int .i64 x.n, .string x.s, .slice sa6 x.to.length sc6] 41)
            have hop : (wr.alloc (.cells #[.int .i64 x.op, .slice sa1 x.ds.length sc1, .slice sa2 x.ars.length sc2, .int .i64 x.n, .string x.s, .slice sa6 x.to.length sc6] 41)).cell? ⟨wr.heap.size, 0, none⟩ = some (.int .i64 x.op) := by rw [World.cell?_alloc_at _ _ _ _ rfl]; rfl
            have hbx : wr.heap.size < (wr.alloc (.cells #[.int .i64 x.op, .slice sa1 x.ds.length sc1, .slice sa2 x.ars.length sc2, .int .i64 x.n, .string x.s, .slice sa6 x.to.length sc6] 41)).heap.size := by simp
            clear hy0 hy1 hy2 hy3 hy4 hy5 hbel hgs
            generalize wr.alloc (.cells #[.int .i64 x.op, .slice sa1 x.ds.length sc1, .slice sa2 x.ars.length sc2, .int .i64 x.n, .string x.s, .slice sa6 x.to.length sc6] 41) = w3 at *
            generalize wr.heap.size = bx at *
            go_loopw [43] (fun i wr => ∃ j : Nat, j ≤ x.ars.length ∧ i = .int .i64 j ∧ (∀ j', j' < j → argOK c acc (rowOf AH) (rowOf AB) n k j' x = true) ∧ Below w2.heap.size w2 wr ∧ Below w3.heap.size w3 wr) (fun i _ => x.ars.length - (intOf i).toNat)
            case atStart => exact ⟨0, Nat.zero_le _, rfl, fun j h => absurd h (by omega), hbel', Below.refl _ _⟩
            case round =>
              clear hbel'
              obtain ⟨j, hj, rfl, hargs, hbel, hbel3⟩ := hrel
              have Hargs := Lib.hid hargs
              clear hargs
              by_cases hjl : j < x.ars.length
              · have hjl1 : (j : Int) < (x.ars.length : Int) := by omega
                have hbw : Below w.heap.size w wr := Hb2.out.trans (hbel.mono Hb2.out.size)
                obtain ⟨b3, off3, rfl, hb3, hc3⟩ := (Hi1.out.below hbw) j hjl
                have hop' := (hbel3.cell (p := ⟨bx, 0, none⟩) hbx).trans hop
                have k5 := (hbel.cell (p := ⟨w.heap.size, 5, none⟩) (by show w.heap.size < _; omega)).trans K5.out
                have k6 := (hbel.cell (p := ⟨w.heap.size + 1, 0, none⟩) (by show w.heap.size + 1 < _; omega)).trans K6.out
                have k7 := (hbel.cell (p := ⟨B, 0, none⟩) (by show B < _; omega)).trans K7.out
                have kA := KA.out.below hbel
                have hsz := hbel.size
                have hmw := Hm.out.below hbw Hm.out.lt
                have hAH := (HatH.out).below hbw
                by_cases hp : x.op = 14
                · have hp1 : (x.op == 14) = true := by simpa using hp
                  have hjH : j < (rowOf AH n).length := by rw [← Hph2.out hp]; exact hjl
                  obtain ⟨bH, oH, aR2, cR2, rfl, hbH, hcH, hlR2, hatR2⟩ := row_at hAH (n := n) (by rw [Hlen.out]; exact hnl)
                  obtain ⟨bQ, oQ, rfl, hbQ, hcQ⟩ := hatR2 j hjH
                  have hq0 := Hin.out n (by rw [Hlen.out]; exact hnl) ((rowOf AH n)[j]) (by
                    have e : rowOf AH n = AH[n]'(by rw [Hlen.out]; exact hnl) := by simp [rowOf, show n < AH.length by rw [Hlen.out]; exact hnl]
                    simp only [e]
                    exact List.getElem_mem _)
                  obtain ⟨q, hq⟩ := Int.eq_ofNat_of_zero_le hq0.1
                  have hgd : (rowOf AH n).getD j 0 = (q : Int) := by rw [← hq]; simp [List.getD, hjH]
                  rw [hq] at hcQ hq0
                  have hqn : q < c.blocks.length := by omega
                  have hqn1 : (q : Int) < (c.blocks.length : Int) := by omega
                  have hjH1 : (j : Int) < ((rowOf AH n).length : Int) := by omega
                  obtain ⟨bA3, oA3, aR3, cR3, hae, hbA3, hcA3, hlR3, -⟩ := row_at kA (n := q) (by rw [Hal.out]; exact hqn)
                  obtain ⟨rfl, rfl⟩ : bA3 = bA ∧ oA3 = oA := by simpa using hae.symm
                  obtain ⟨bq, offq, uq, hae2, -, hbq, hcellq, huq⟩ := Hat.out q hqn
                  obtain ⟨rfl, rfl⟩ : bq = b ∧ offq = off := by simpa using hae2.symm
                  obtain ⟨a4, cap4, rfl, hcap4, hmax4, -⟩ := rBlock_val huq
                  unfold maxLen at hmax4
                  have hcxq : wr.cell? ⟨bq, offq + q, none⟩ = some (.slice a4 c.blocks[q].length cap4) := (hbw.cell (p := ⟨bq, offq + q, none⟩) hbq).trans hcellq
                  have hgq : c.blocks.getD q [] = c.blocks[q] := by simp [hqn]
                  have hbq2 : (c.blocks[q].length : Int) ≤ 9223372036854775807 := by omega
                  have Harg := Lib.hid (show argOK c acc (rowOf AH) (rowOf AB) n k j x = ((rowOf AB q).isEmpty || knownF acc (rowOf AB) (x.ars[j]) q c.blocks[q].length) by
                    unfold argOK
                    rw [if_pos hp]
                    simp only [hgd, Int.toNat_natCast, hgq]
                    rw [show x.ars.getD j 0 = x.ars[j] by simp [List.getD, hjl]])
                  have Hop := Lib.hid hop'
                  have Hkn := Lib.hid (fun v => known_any acc AB v q c.blocks[q].length (w.heap.size + 1) B bm (some ⟨bA3, oA3, none⟩) cA wr (by rw [Hal.out]; exact hqn) hbq2 (by rw [Hal.out]; exact hlA) k6 (by rw [Hal.out]; exact k7) (by omega) (by omega) hmw kA)
                  clear hp hgd hq hae hae2 huq hcellq hcap4 hmax4 hgq hmw hAH kA hatR2 hop hq0
                  generalize x.ars[j] = y at *
                  generalize hrq : rowOf AB q = rq at *
                  have Hrq := Lib.hid hrq
                  clear hrq
                  generalize c.blocks[q].length = lq at *
                  generalize rowOf AH n = rh at *
                  by_cases hz : rq.length = 0
                  · have hz1 : decide ((rq.length : Int) > 0) = false := decide_eq_false (by omega)
                    have Hok := Lib.hid (show argOK c acc (rowOf AH) (rowOf AB) n k j x = true by rw [Harg.out, List.eq_nil_of_length_eq_zero hz]; rfl)
                    obtain rfl := List.eq_nil_of_length_eq_zero hz
                    clear hz hz1
                    go_wp2_with fail
                    go_roundw
                    case rel => exact ⟨j + 1, by omega, by go_num, fun j' h => by
                      by_cases e : j' < j
                      · exact Hargs.out j' e
                      · obtain rfl : j' = j := by omega
                        exact Hok.out, hbel, hbel3⟩
                    case measure => simp [intOf]; omega
                  · have hz1 : decide ((rq.length : Int) > 0) = true := decide_eq_true (by omega)
                    have hre : rq.isEmpty = false := by
                      cases rq with
                      | nil => exact absurd rfl hz
                      | cons _ _ => rfl
                    have Hre := Lib.hid hre
                    have hpos : 0 < rq.length := by omega
                    have hz2 : decide (0 < rq.length) = true := decide_eq_true hpos
                    clear hz hre
                    go_wp2_with fail
                    refine (Hkn.out y).mono ?_
                    rintro e w4 ⟨rfl, hb4⟩
                    cases hkn : knownF acc (rowOf AB) y q lq with
                    | true =>
                      have Hok := Lib.hid (show argOK c acc (rowOf AH) (rowOf AB) n k j x = true by rw [Harg.out, hkn, Bool.or_true])
                      clear hkn
                      go_wp2_with fail
                      go_roundw
                      case rel => exact ⟨j + 1, by omega, by go_num, fun j' h => by
                        by_cases e : j' < j
                        · exact Hargs.out j' e
                        · obtain rfl : j' = j := by omega
                          exact Hok.out, hbel.trans (hb4.mono hbel.size), hbel3.trans (hb4.mono hbel3.size)⟩
                      case measure => simp [intOf]; omega
                    | false =>
                      have Hok := Lib.hid (show argOK c acc (rowOf AH) (rowOf AB) n k j x = false by rw [Harg.out, hkn, Hre.out]; rfl)
                      clear hkn
                      go_wp2_with fail
                      go_ret
                      refine ⟨?_, Hb2.out.trans ((hbel.trans (hb4.mono hbel.size)).mono Hb2.out.size)⟩
                      rw [Hbad2.out j hjl Hok.out]
                      rfl
                · have hp1 : (x.op == 14) = false := by simpa using hp
                  have Harg := Lib.hid (show argOK c acc (rowOf AH) (rowOf AB) n k j x = knownF acc (rowOf AB) (x.ars[j]) n k by
                    unfold argOK
                    rw [if_neg hp, show x.ars.getD j 0 = x.ars[j] by simp [List.getD, hjl]])
                  have Hkn := Lib.hid (fun v => known_any acc AB v n k (w.heap.size + 1) B bm (some ⟨bA, oA, none⟩) cA wr (by rw [Hal.out]; exact hnl) (by omega) (by rw [Hal.out]; exact hlA) k6 (by rw [Hal.out]; exact k7) (by omega) (by omega) hmw kA)
                  clear hp hmw hAH kA hop
                  generalize x.ars[j] = y at *
                  go_wp2_with fail
                  refine (Hkn.out y).mono ?_
                  rintro e w4 ⟨rfl, hb4⟩
                  cases hkn : knownF acc (rowOf AB) y n k with
                  | true =>
                    have Hok := Lib.hid (show argOK c acc (rowOf AH) (rowOf AB) n k j x = true by rw [Harg.out, hkn])
                    clear hkn
                    go_wp2_with fail
                    go_roundw
                    case rel => exact ⟨j + 1, by omega, by go_num, fun j' h => by
                      by_cases e : j' < j
                      · exact Hargs.out j' e
                      · obtain rfl : j' = j := by omega
                        exact Hok.out, hbel.trans (hb4.mono hbel.size), hbel3.trans (hb4.mono hbel3.size)⟩
                    case measure => simp [intOf]; omega
                  | false =>
                    have Hok := Lib.hid (show argOK c acc (rowOf AH) (rowOf AB) n k j x = false by rw [Harg.out, hkn])
                    clear hkn
                    go_wp2_with fail
                    go_ret
                    refine ⟨?_, Hb2.out.trans ((hbel.trans (hb4.mono hbel.size)).mono Hb2.out.size)⟩
                    rw [Hbad2.out j hjl Hok.out]
                    rfl
              · have hje : j = x.ars.length := by omega
                subst hje
                go_wp2_with fail
                go_roundw
                case rel => exact ⟨k + 1, by omega, by go_num, fun k' h1 h2 j' h3 => by
                  by_cases e : k' < k
                  · exact Hbk.out k' h1 e j' h3
                  · obtain rfl : k' = k := by omega
                    rw [Hxe.out] at h3 ⊢
                    exact Hargs.out j' h3, hbel⟩
                case measure => simp [intOf]; omega
          · have hke : k = bl.length := by omega
            subst hke
            go_wp2_with fail
            go_roundw
            case rel => exact ⟨n + 1, by omega, by go_num, fun i hi h1 h2 => by
              by_cases e : i < n
              · exact Hrok.out i hi e h2
              · obtain rfl : i = n := by omega
                rw [Hbl.out]
                exact Hbk.out, hbel⟩
            case measure => simp [intOf]; omega
    · have hne : n = c.blocks.length := by omega
      subst hne
      go_wp2_with fail
      go_ret
      refine ⟨?_, Hb2.out.trans (hbel.mono Hb2.out.size)⟩
      rw [usesF_ok Hrok.out]
      rfl
end Go.Proofs.YthgfdcoicihpdaaDoor

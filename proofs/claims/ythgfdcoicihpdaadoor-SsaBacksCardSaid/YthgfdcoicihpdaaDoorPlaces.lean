/-
  ssa.places: where each variable is set: the contract.
-/
import Derived.Test.YthgfdcoicihpdaaDoorPhis
import Derived.Test.YthgfdcoicihpdaaDoorIMap
import Derived.WalkSmall
namespace Go.Proofs.YthgfdcoicihpdaaDoor
open Go.RowKit Go.Pst
set_option linter.unusedVariables false
set_option linter.unusedSimpArgs false

def encP (p : Int × Int) : Value := .agg #[.int .i64 p.1, .int .i64 p.2]
def placeMap (acc : Sets) : IMap Int := acc.map fun s => (s.1, encP s.2)
theorem placeMap_look : ∀ (acc : Sets) (x : Int), Go.Pst.lookI (placeMap acc) x = (lookS acc x).map encP
  | [], x => rfl
  | (v, p) :: r, x => by
    show Go.Pst.lookI ((v, encP p) :: placeMap r) x = _
    unfold Go.Pst.lookI lookS
    by_cases h : v = x
    · simp [h]
    · simp only [h, if_false]
      exact placeMap_look r x
theorem placeMap_put : ∀ (acc : Sets) (x : Int) (p : Int × Int), lookS acc x = none → putI (placeMap acc) x (encP p) = placeMap (acc ++ [(x, p)])
  | [], x, p, _ => rfl
  | (v, q) :: r, x, p, h => by
    unfold lookS at h
    show putI ((v, encP q) :: placeMap r) x (encP p) = (v, encP q) :: placeMap (r ++ [(x, p)])
    unfold putI
    by_cases hv : v = x
    · rw [if_pos hv] at h; exact absurd h (by simp)
    · rw [if_neg hv] at h
      rw [if_neg hv, placeMap_put r x p h]
theorem paramsS_none (n : Nat) : ∀ k, k ≤ n → lookS (paramsS k) (n : Int) = none := by
  intro k
  induction k with
  | zero => intro _; rfl
  | succ k ih =>
    intro h
    have e : paramsS (k + 1) = paramsS k ++ [((k : Int), -1, -1)] := by simp [paramsS, List.range_succ]
    rw [e, lookS_append, ih (by omega)]
    unfold lookS
    rw [if_neg (by omega)]
    rfl
theorem paramsS_succ (k : Nat) : paramsS (k + 1) = paramsS k ++ [((k : Int), -1, -1)] := by simp [paramsS, List.range_succ]

theorem Tryd.zero_place (w : World) : (zeroValue 68).run Tryd.prog w = .ok (.agg #[.int .i64 0, .int .i64 0]) w := by kernel_rfl
theorem tup2 {p : Int × Int} : encP p = .agg #[.int .i64 p.1, .int .i64 p.2] := rfl
/-- Behind 'm[k] = v': what lies below the map, or beside it. -/
theorem below_put {w w' : World} {B b : Nat} (hg : w.grownBy w' (some b)) (hb : B ≤ b) (hB : B ≤ w.heap.size) : Below B w w' :=
  (Below.refl B w).grown hg hB (fun k hk => by cases hk; exact hb)

set_option maxRecDepth 100000 in
set_option maxHeartbeats 4000000 in
theorem places_any (c : PCode) (cs : List Value) (w : World) (hc : rCode (fun _ => True) w cs c) (hf : FitCode c) (hp : 0 ≤ c.params) :
    Calls Tryd.prog 27 #[.agg cs.toArray] w fun e w' => Below w.heap.size w w' ∧
      ((placesF c = none ∧ e = .returned (.tuple #[.map none, .bool false])) ∨ ∃ acc, placesF c = some acc ∧ e = .returned (.tuple #[.map (some (w.heap.size + 1)), .bool true]) ∧ MapI w' (w.heap.size + 1) (placeMap acc)) := by
  have hc0 := hc
  obtain ⟨v5, rfl, hI, hbs⟩ := hc
  obtain ⟨a, cap, rfl, hcap, hmax, hat⟩ := rSlice_one hbs
  unfold maxLen at hmax
  have hnb : c.blocks.length ≤ 9223372036854775807 := by omega
  obtain ⟨P, hP⟩ := Int.eq_ofNat_of_zero_le hp
  have hPn : c.params.toNat = P := by omega
  have hpl : placesF c = addS (paramsS P) (setsAll 0 (c.blocks.drop 0)) := by unfold placesF; rw [hPn, List.drop_zero]
  have hP2 : (P : Int) ≤ 9223372036854775807 := by have := hI.2.1.2; omega
  have Hat := Lib.hid hat
  have Hc := Lib.hid hc0
  have Hpl := Lib.hid hpl
  rw [hP]
  clear hbs hat hI hc0 hpl hPn hp hcap hmax hP
  have hmk := @run_makeMap Tryd.prog
  have Hmk := Lib.hid hmk
  have hmk1 := fun w : World => hmk 51 w
  clear hmk
  go_enter Tryd.func27, Tryd.ntmps27
  go_wp2_with fail
  have hm0 : MapI ((w.alloc (.cells #[.string c.name, .int .i64 (P : Int), .int .i64 c.results, .int .i64 c.vars, .int .i64 c.slots, .slice a c.blocks.length cap] 28)).alloc (.map #[] 0)) (w.heap.size + 1) (placeMap (paramsS 0)) := by
    show MapI _ _ ([] : IMap Int)
    have := MapI.made Int (w.alloc (.cells #[.string c.name, .int .i64 (P : Int), .int .i64 c.results, .int .i64 c.vars, .int .i64 c.slots, .slice a c.blocks.length cap] 28))
    simpa using this
  clear hmk1
  go_loopw [17] (fun i wr => ∃ k : Nat, k ≤ P ∧ i = .int .i64 k ∧ MapI wr (w.heap.size + 1) (placeMap (paramsS k)) ∧ Below (w.heap.size + 1) (w.alloc (.cells #[.string c.name, .int .i64 (P : Int), .int .i64 c.results, .int .i64 c.vars, .int .i64 c.slots, .slice a c.blocks.length cap] 28)) wr) (fun i _ => P - (intOf i).toNat)
  case atStart => exact ⟨0, Nat.zero_le _, rfl, hm0, (Below.refl _ _).alloc (by simp) _⟩
  case round =>
    clear hm0
    obtain ⟨k, hk, rfl, hm, hbel⟩ := hrel
    have bx1 := box_cell hbel 1
    have bx5 := box_cell hbel 5
    simp at bx1 bx5
    have hmlt := hm.lt
    by_cases hlt : k < P
    · have hlt1 : (k : Int) < (P : Int) := by omega
      have hput := placeMap_put (paramsS k) (k : Int) (-1, -1) (paramsS_none k k (Nat.le_refl _))
      rw [← paramsS_succ] at hput
      have Hput := Lib.hid hput
      clear hput
      go_wp2_with (refine wpList_updateI (κ := Int) rfl _ _ _ 51 rfl Tryd.underlying51 Tryd.underlying3 (w.heap.size + 1) _ rfl hm (k : Int) (encP (-1, -1)) rfl rfl ?_; clear hm; intro w1 hm hgr)
      rw [Hput.out] at hm
      go_roundw
      case rel => exact ⟨k + 1, by omega, by go_num, hm, hbel.trans (below_put hgr (Nat.le_refl _) (by omega))⟩
      case measure => simp [intOf]; omega
    · have hke : k = P := by omega
      subst hke
      clear hlt
      go_wp2_with fail
      generalize hbx : (w.alloc (.cells #[.string c.name, .int .i64 (k : Int), .int .i64 c.results, .int .i64 c.vars, .int .i64 c.slots, .slice a c.blocks.length cap] 28)) = wb at hbel
      have Hbx := Lib.hid (show Below w.heap.size w wb by rw [← hbx]; exact (Below.refl _ _).alloc (Nat.le_refl _) _)
      clear hbx
      go_loopw [27] (fun i wr => ∃ (n : Nat) (acc : Sets), n ≤ c.blocks.length ∧ i = .int .i64 n ∧ placesF c = addS acc (setsAll n (c.blocks.drop n)) ∧ MapI wr (w.heap.size + 1) (placeMap acc) ∧ Below (w.heap.size + 1) wb wr) (fun i _ => c.blocks.length - (intOf i).toNat)
      case atStart => exact ⟨0, _, Nat.zero_le _, rfl, Hpl.out, hm, hbel⟩
      case round =>
        clear hm hbel hmlt bx1 bx5
        obtain ⟨n, acc, hn, rfl, hpl, hm, hbel⟩ := hrel
        have Hp := Lib.hid hpl
        clear hpl Hpl
        by_cases hnl : n < c.blocks.length
        · have hnl1 : (n : Int) < (c.blocks.length : Int) := by omega
          obtain ⟨b, off, u, rfl, -, hb, hcell, hu⟩ := Hat.out n hnl
          obtain ⟨a2, cap2, rfl, hcap2, hmax2, hat2⟩ := rBlock_val hu
          have hbw : Below w.heap.size w wr := Hbx.out.trans (hbel.mono (by omega))
          have hcx : wr.cell? ⟨b, off + n, none⟩ = some (.slice a2 c.blocks[n].length cap2) := (hbw.cell (p := ⟨b, off + n, none⟩) hb).trans hcell
          have Hd := Lib.hid (setsAll_drop (i := n) hnl)
          unfold maxLen at hmax2
          have hbm : c.blocks[n].length ≤ 9223372036854775807 := by omega
          have Hat2 := Lib.hid hat2
          clear hat2 hu hcell hmax2 hcap2 hbw
          generalize c.blocks[n] = bl at *
          go_wp2_with fail
          have hp0 : placesF c = addS acc (setsBlk n 0 (bl.drop 0) ++ setsAll (n + 1) (c.blocks.drop (n + 1))) := by rw [Hp.out, Hd.out, List.drop_zero]
          have Hp0 := Lib.hid hp0
          clear hp0 Hp Hd hcx
          go_loopw [34] (fun i wr => ∃ (k : Nat) (acc : Sets), k ≤ bl.length ∧ i = .int .i64 k ∧ placesF c = addS acc (setsBlk n k (bl.drop k) ++ setsAll (n + 1) (c.blocks.drop (n + 1))) ∧ MapI wr (w.heap.size + 1) (placeMap acc) ∧ Below (w.heap.size + 1) wb wr) (fun i _ => bl.length - (intOf i).toNat)
          case atStart => exact ⟨0, _, Nat.zero_le _, rfl, Hp0.out, hm, hbel⟩
          case round =>
            clear hm hbel Hp0
            clear acc
            obtain ⟨k, acc, hk, rfl, hpl, hm, hbel⟩ := hrel
            have Hp := Lib.hid hpl
            clear hpl
            by_cases hkl : k < bl.length
            · have hkl1 : (k : Int) < (bl.length : Int) := by omega
              have hbw : Below w.heap.size w wr := Hbx.out.trans (hbel.mono (by omega))
              obtain ⟨b2, off2, v1, v2, v6, rfl, -, hb2, hx0, hx1, hx2, hx3, hx4, hx5, hI, rx1, rx2, rx6⟩ := Hat2.out k hkl
              obtain ⟨sa2, sc2, rfl⟩ := rSlice_shape rx2
              obtain ⟨sa6, sc6, rfl⟩ := rSlice_shape rx6
              obtain ⟨sa1, sc1, rfl, hl1, hi1, -⟩ := rInts_open rx1
              have hy0 : wr.cell? ⟨b2, off2 + k * 6, none⟩ = _ := (hbw.cell (p := ⟨b2, off2 + k * 6, none⟩) hb2).trans hx0
              have hy1 : wr.cell? ⟨b2, off2 + k * 6 + 1, none⟩ = _ := (hbw.cell (p := ⟨b2, off2 + k * 6 + 1, none⟩) hb2).trans hx1
              have hy2 : wr.cell? ⟨b2, off2 + k * 6 + 2, none⟩ = _ := (hbw.cell (p := ⟨b2, off2 + k * 6 + 2, none⟩) hb2).trans hx2
              have hy3 : wr.cell? ⟨b2, off2 + k * 6 + 3, none⟩ = _ := (hbw.cell (p := ⟨b2, off2 + k * 6 + 3, none⟩) hb2).trans hx3
              have hy4 : wr.cell? ⟨b2, off2 + k * 6 + 4, none⟩ = _ := (hbw.cell (p := ⟨b2, off2 + k * 6 + 4, none⟩) hb2).trans hx4
              have hy5 : wr.cell? ⟨b2, off2 + k * 6 + 5, none⟩ = _ := (hbw.cell (p := ⟨b2, off2 + k * 6 + 5, none⟩) hb2).trans hx5
              have Hi1 := Lib.hid hi1
              have Hd := Lib.hid (setsBlk_drop (i := n) hkl)
              have hmlt := hm.lt
              clear hx0 hx1 hx2 hx3 hx4 hx5 hI rx1 rx2 rx6 hi1 hbw
              generalize bl[k] = x at *
              go_wp2_with fail
              have hp0 : placesF c = addS acc (setsOf n k (x.ds.drop 0) ++ (setsBlk n (k + 1) (bl.drop (k + 1)) ++ setsAll (n + 1) (c.blocks.drop (n + 1)))) := by rw [Hp.out, Hd.out, List.drop_zero, List.append_assoc]
              have Hp0 := Lib.hid hp0
              clear hp0 Hp Hd hy0 hy1 hy2 hy3 hy4 hy5
              have hm' := hm.alloc (.cells #[.int .i64 x.op, .slice sa1 x.ds.length sc1, .slice sa2 x.ars.length sc2, .int .i64 x.n, .string x.s, .slice sa6 x.to.length sc6] 41)
              have hbel' := hbel.alloc (Nat.le_of_lt hmlt) (.cells #[.int .i64 x.op, .slice sa1 x.ds.length sc1, .slice sa2 x.ars.length sc2, .int .i64 x.n, .string x.s, .slice sa6 x.to.length sc6] 41)
              clear hm hbel hmlt
              generalize wr.alloc (.cells #[.int .i64 x.op, .slice sa1 x.ds.length sc1, .slice sa2 x.ars.length sc2, .int .i64 x.n, .string x.s, .slice sa6 x.to.length sc6] 41) = wq at *
              go_loopw [42] (fun i wr => ∃ (j : Nat) (acc : Sets), j ≤ x.ds.length ∧ i = .int .i64 j ∧ placesF c = addS acc (setsOf n k (x.ds.drop j) ++ (setsBlk n (k + 1) (bl.drop (k + 1)) ++ setsAll (n + 1) (c.blocks.drop (n + 1)))) ∧ MapI wr (w.heap.size + 1) (placeMap acc) ∧ Below (w.heap.size + 1) wb wr) (fun i _ => x.ds.length - (intOf i).toNat)
              case atStart => exact ⟨0, _, Nat.zero_le _, rfl, Hp0.out, hm', hbel'⟩
              case round =>
                clear hm' hbel' Hp0
                clear acc
                obtain ⟨j, acc, hj, rfl, hpl, hm, hbel⟩ := hrel
                have Hp := Lib.hid hpl
                clear hpl
                by_cases hjl : j < x.ds.length
                · have hjl1 : (j : Int) < (x.ds.length : Int) := by omega
                  have hbw : Below w.heap.size w wr := Hbx.out.trans (hbel.mono (by omega))
                  obtain ⟨b3, off3, rfl, hb3, hc3⟩ := (Hi1.out.below hbw) j hjl
                  have Hd := Lib.hid (setsOf_drop (i := n) (k := k) hjl)
                  have hmlt := hm.lt
                  have hlk := placeMap_look acc x.ds[j]
                  clear hbw
                  generalize x.ds[j] = y at *
                  cases hs : lookS acc y with
                  | none =>
                    rw [hs] at hlk
                    have Hput := Lib.hid (placeMap_put acc y ((n : Int), (k : Int)) hs)
                    have Hs := Lib.hid hs
                    have Hlk := Lib.hid hlk
                    clear hlk hs
                    go_wp2_with (first | (refine wpList_lookupI (κ := Int) rfl _ _ 51 true rfl Tryd.underlying51 Tryd.underlying3 (Tryd.zero_place _) (w.heap.size + 1) _ rfl hm y rfl ?_; rw [Hlk.out]) | (refine wpList_updateI (κ := Int) rfl _ _ _ 51 rfl Tryd.underlying51 Tryd.underlying3 (w.heap.size + 1) _ rfl (hm.alloc _) y (encP ((n : Int), (k : Int))) rfl rfl ?_; intro w1 hm1 hgr))
                    rw [Hput.out] at hm1
                    have hbel1 := (hbel.alloc (Nat.le_of_lt hmlt) _).trans (below_put hgr (Nat.le_refl _) (by simp; omega))
                    go_roundw
                    case rel => exact ⟨j + 1, _, by omega, by go_num, by rw [Hp.out, Hd.out, List.cons_append, addS, if_neg (by rw [Hs.out]; simp)], hm1, hbel1⟩
                    case measure => simp [intOf]; omega
                  | some p =>
                    rw [hs] at hlk
                    have Hs := Lib.hid hs
                    have Hlk := Lib.hid hlk
                    clear hlk hs
                    obtain ⟨p1, p2⟩ := p
                    go_wp2_with (first | (refine wpList_lookupI (κ := Int) rfl _ _ 51 true rfl Tryd.underlying51 Tryd.underlying3 (Tryd.zero_place _) (w.heap.size + 1) _ rfl hm y rfl ?_; rw [Hlk.out]; simp only [Option.map_some, Option.getD_some, Option.isSome_some, encP]))
                    go_ret2
                    exact ⟨(Hbx.out.trans (hbel.mono (by omega))).alloc (by omega) _, Or.inl ⟨by rw [Hp.out, Hd.out, List.cons_append, addS, if_pos (by rw [Hs.out]; rfl)], rfl⟩⟩
                · have hje : j = x.ds.length := by omega
                  subst hje
                  have hp1 := Hp.out
                  rw [List.drop_length] at hp1
                  have Hp1 := Lib.hid hp1
                  clear hp1 Hp
                  go_wp2_with fail
                  go_roundw
                  case rel => exact ⟨k + 1, acc, by omega, by go_num, Hp1.out, hm, hbel⟩
                  case measure => simp [intOf]; omega
            · have hke : k = bl.length := by omega
              subst hke
              have hp1 := Hp.out
              rw [List.drop_length] at hp1
              have Hp1 := Lib.hid hp1
              clear hp1 Hp
              go_wp2_with fail
              go_roundw
              case rel => exact ⟨n + 1, acc, by omega, by go_num, Hp1.out, hm, hbel⟩
              case measure => simp [intOf]; omega
        · have hne : n = c.blocks.length := by omega
          subst hne
          have hp1 := Hp.out
          rw [List.drop_length] at hp1
          have Hp1 := Lib.hid hp1
          clear hp1 Hp
          go_wp2_with fail
          go_ret2
          exact ⟨Hbx.out.trans (hbel.mono (by omega)), Or.inr ⟨acc, by rw [Hp1.out]; rfl, rfl, hm⟩⟩
end Go.Proofs.YthgfdcoicihpdaaDoor

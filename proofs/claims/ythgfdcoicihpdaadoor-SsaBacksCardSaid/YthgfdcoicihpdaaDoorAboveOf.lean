/-
  posternref.In, doneWithout, AboveOf: the contracts.
-/
import Derived.Test.YthgfdcoicihpdaaDoorReached
import Derived.Test.YthgfdcoicihpdaaDoorAheadOf
namespace Go.Proofs.YthgfdcoicihpdaaDoor
open Go.RowKit Go.Pst
set_option linter.unusedVariables false

theorem in_any (x a b : Int) (w : World) : Calls Tryd.prog 34 #[.int .i64 x, .int .i64 a, .int .i64 b] w fun e w' => e = .returned (.bool (decide (a ≤ x) && decide (x ≤ b))) ∧ w = w' := by
  by_cases h1 : a ≤ x
  · have h1d : decide (a ≤ x) = true := by simpa using h1
    go_enter Tryd.func34, Tryd.ntmps34
    go_wp2_with fail
    all_goals go_ret
    all_goals exact ⟨by simp_all, rfl⟩
  · have h1d : decide (a ≤ x) = false := by simpa using h1
    go_enter Tryd.func34, Tryd.ntmps34
    go_wp2_with fail
    all_goals go_ret
    all_goals exact ⟨by simp_all, rfl⟩

/-- How the rounds' state reads, at the head of the loop over blocks: in the round that began with u0 unseen. -/
def Inner (c : PCode) (x : Option Nat) (u0 i : Nat) (seen : Nat → Bool) (b : Bool) : Prop :=
  unseen c.blocks.length seen + (if b then 1 else 0) ≤ u0 ∧ Round c x seen ∧ (b = false → ∀ j, j < i → seen j = true → ∀ t : Nat, (t : Int) ∈ leadsF c j → x ≠ some t → seen t = true)
/-- .. while block i's places are looked through. -/
def Inmost (c : PCode) (x : Option Nat) (u0 i q : Nat) (seen : Nat → Bool) (b : Bool) : Prop :=
  Inner c x u0 i seen b ∧ seen i = true ∧ (b = false → ∀ t : Nat, t < c.blocks.length → (t : Int) ∈ (lastTo c i).take q → x ≠ some t → seen t = true)
theorem Inner.next_unseen {c : PCode} {x : Option Nat} {u0 i : Nat} {seen : Nat → Bool} {b : Bool} (h : Inner c x u0 i seen b) (hs : seen i = false) : Inner c x u0 (i + 1) seen b :=
  ⟨h.1, h.2.1, fun hb j hj hsj => by
    by_cases e : j = i
    · subst e; rw [hs] at hsj; cases hsj
    · exact h.2.2 hb j (by omega) hsj⟩
theorem Inner.enter {c : PCode} {x : Option Nat} {u0 i : Nat} {seen : Nat → Bool} {b : Bool} (h : Inner c x u0 i seen b) (hs : seen i = true) : Inmost c x u0 i 0 seen b := ⟨h, hs, fun _ t _ ht => by simp at ht⟩
theorem Inmost.leave {c : PCode} {x : Option Nat} {u0 i : Nat} {seen : Nat → Bool} {b : Bool} (h : Inmost c x u0 i (lastTo c i).length seen b) : Inner c x u0 (i + 1) seen b :=
  ⟨h.1.1, h.1.2.1, fun hb j hj hsj t ht hx => by
    by_cases e : j = i
    · subst e
      have htl := leads_in c _ _ ht
      exact h.2.2 hb t (by omega) (by rw [List.take_length]; exact (mem_lastTo c j t (by omega)).2 ht) hx
    · exact h.1.2.2 hb j (by omega) hsj t ht hx⟩
theorem Inmost.leave0 {c : PCode} {x : Option Nat} {u0 i : Nat} {seen : Nat → Bool} {b : Bool} (h : Inmost c x u0 i 0 seen b) (e : lastTo c i = []) : Inner c x u0 (i + 1) seen b := by
  have e' : (lastTo c i).length = 0 := by rw [e]; rfl
  rw [← e'] at h
  exact h.leave
theorem Inmost.skip {c : PCode} {x : Option Nat} {u0 i q : Nat} {seen : Nat → Bool} {b : Bool} (h : Inmost c x u0 i q seen b) (hq : q < (lastTo c i).length) (hs : ∀ t : Nat, t < c.blocks.length → (lastTo c i)[q] = (t : Int) → x ≠ some t → seen t = true) : Inmost c x u0 i (q + 1) seen b :=
  ⟨h.1, h.2.1, fun hb t ht htm hx => by
    rcases (mem_take_succ hq _).1 htm with h1 | h1
    · exact h.2.2 hb t ht h1 hx
    · exact hs t ht h1.symm hx⟩
theorem Inmost.add {c : PCode} {x : Option Nat} {u0 i q t0 : Nat} {seen : Nat → Bool} {b : Bool} (h : Inmost c x u0 i q seen b) (hq : q < (lastTo c i).length) (ht : (lastTo c i)[q] = (t0 : Int)) (htn : t0 < c.blocks.length) (hs : seen t0 = false) (hx : x ≠ some t0) : Inmost c x u0 i (q + 1) (upd seen t0 true) true := by
  have hmem : (t0 : Int) ∈ leadsF c i := (mem_lastTo c i t0 htn).1 (by rw [← ht]; exact List.getElem_mem hq)
  have hun := unseen_upd htn hs
  refine ⟨⟨?_, h.1.2.1.add h.2.1 hmem hx, fun h => by cases h⟩, ?_, fun h => by cases h⟩
  · have h1 := h.1.1
    simp only [if_true]
    split at h1 <;> omega
  · by_cases e : i = t0
    · subst e; simp [upd]
    · rw [upd_other _ _ e]; exact h.2.1

set_option maxRecDepth 100000 in
set_option maxHeartbeats 2000000 in
theorem doneWithout_any (c : PCode) (cs : List Value) (o : Int) (x : Option Nat) (hx : ∀ t : Nat, x ≠ some t ↔ o ≠ (t : Int)) (w : World) (hc : rCode (fun _ => True) w cs c) (hf : FitCode c) :
    Calls Tryd.prog 35 #[.agg cs.toArray, .int .i64 o] w fun e w' => ∃ g, e = .returned (.slice (some ⟨g, 0, none⟩) c.blocks.length c.blocks.length) ∧ w.heap.size ≤ g ∧ w'.rowIs g 4 c.blocks.length (fun j => .bool (reachB c x j)) ∧ Below w.heap.size w w' := by
  obtain ⟨v5, rfl, hI, hbs⟩ := hc
  obtain ⟨a, cap, rfl, hcap, hmax, hat⟩ := rSlice_one hbs
  unfold maxLen at hmax
  have hfit := hf.1
  unfold reachBytes at hfit
  have hmk := @run_make_row' Tryd.prog 62 4 (.bool false) 1 Tryd.underlying62 Tryd.info_bool rfl .i64 .i64 c.blocks.length (by omega) (by omega)
  clear hbs hI
  have hrow := World.rowIs_made (w.alloc (.cells #[.string c.name, .int .i64 c.params, .int .i64 c.results, .int .i64 c.vars, .int .i64 c.slots, .slice a c.blocks.length cap] 28)) (.bool false) c.blocks.length 4
  simp only [World.size_alloc] at hrow
  by_cases ho : o = 0
  · have hx0 : x = some 0 := by
      rcases x with _ | x
      · exact absurd ((hx 0).1 (by simp)) (by simp [ho])
      · by_cases e : x = 0
        · rw [e]
        · exact absurd ((hx 0).1 (by simpa using e)) (by simp [ho])
    have hz := reachB_none c x (Or.inl hx0)
    have Hrow := Lib.hid (hrow.congr (g := fun j => .bool (reachB c x j)) (fun i hi => by rw [hz i]))
    have ho1 : (o == 0) = true := by simp [ho]
    clear hrow hz hx0 ho hx hat
    go_enter Tryd.func35, Tryd.ntmps35
    go_wp2_with fail
    go_ret
    exact ⟨w.heap.size + 1, rfl, by omega, Hrow.out, ((Below.refl _ _).alloc (Nat.le_refl _) _).alloc (by simp) _⟩
  · have ho1 : (o == 0) = false := by simpa using ho
    by_cases hn : c.blocks.length = 0
    · have hz := reachB_none c x (Or.inr hn)
      have Hrow := Lib.hid (hrow.congr (g := fun j => .bool (reachB c x j)) (fun i hi => by rw [hz i]))
      have hn0 : ((c.blocks.length : Int) == 0) = true := by simp [hn]
      clear hrow hz hx hat hn ho
      go_enter Tryd.func35, Tryd.ntmps35
      go_wp2_with fail
      go_ret
      exact ⟨w.heap.size + 1, rfl, by omega, Hrow.out, ((Below.refl _ _).alloc (Nat.le_refl _) _).alloc (by simp) _⟩
    · have hn0 : ((c.blocks.length : Int) == 0) = false := by simpa using hn
      have hn1 : (0 : Int) < (c.blocks.length : Int) := by omega
      have hcell := hrow.cell (i := 0) (by omega)
      have hfrz := hrow.frozen 0
      clear hrow
      have hrow := rowIs_made_set (w.alloc (.cells #[.string c.name, .int .i64 c.params, .int .i64 c.results, .int .i64 c.vars, .int .i64 c.slots, .slice a c.blocks.length cap] 28)) (.bool false) (.bool true) c.blocks.length 0 4
      simp only [World.size_alloc] at hrow
      have Hrow := Lib.hid hrow
      have hx0 : x ≠ some 0 := (hx 0).2 (by simpa using ho)
      have Hx0 := Lib.hid hx0
      have Hx := Lib.hid hx
      clear hrow hx0 ho hx
      go_enter Tryd.func35, Tryd.ntmps35
      go_wp2_with fail
      clear hcell hfrz
      go_loopg [6] (unseen c.blocks.length (upd (fun _ => false) 0 true) + 1) (fun k v wr => ∃ (seen : Nat → Bool) (b : Bool), v = .bool b ∧ unseen c.blocks.length seen + (if b then 1 else 0) ≤ k ∧ Round c x seen ∧
          (b = false → ∀ j, j < c.blocks.length → seen j = true → ∀ t : Nat, (t : Int) ∈ leadsF c j → x ≠ some t → seen t = true) ∧
          wr.rowIs (w.heap.size + 1) 4 c.blocks.length (fun j => .bool (seen j)) ∧
          Below (w.heap.size + 1) (w.alloc (.cells #[.string c.name, .int .i64 c.params, .int .i64 c.results, .int .i64 c.vars, .int .i64 c.slots, .slice a c.blocks.length cap] 28)) wr)
      case atStart =>
        refine ⟨upd (fun _ => false) 0 true, true, rfl, by simp, Round.start Hx0.out (by omega), (fun h => by cases h), Hrow.out.congr (fun i hi => ?_), (Below.refl _ _).alloc (by simp) _⟩
        by_cases e : i = 0 <;> simp [upd, e]
      case round =>
        obtain ⟨seen, b, rfl, hk, hr, hcl, hrow, hbel⟩ := hrel
        cases b with
        | false =>
          have Hcl := Lib.hid (hcl rfl)
          clear hcl
          go_wp2_with fail
          go_ret
          exact ⟨w.heap.size + 1, rfl, by omega, hrow.congr (fun j hj => by rw [hr.done (fun i hi hs t ht hx => Hcl.out i hi hs t ht hx) j]), box_below hbel⟩
        | true =>
          simp only [if_true] at hk
          clear hcl
          go_wp2_with fail
          go_loopw [6, 7] (fun v i wr => ∃ (i' : Nat) (seen' : Nat → Bool) (b : Bool), i' ≤ c.blocks.length ∧ i = .int .i64 i' ∧ v = .bool b ∧ Inner c x (unseen c.blocks.length seen) i' seen' b ∧
              wr.rowIs (w.heap.size + 1) 4 c.blocks.length (fun j => .bool (seen' j)) ∧
              Below (w.heap.size + 1) (w.alloc (.cells #[.string c.name, .int .i64 c.params, .int .i64 c.results, .int .i64 c.vars, .int .i64 c.slots, .slice a c.blocks.length cap] 28)) wr) (fun _ i _ => c.blocks.length - (intOf i).toNat)
          case atStart => exact ⟨0, seen, false, Nat.zero_le _, rfl, rfl, ⟨by simp, hr, fun _ j hj => absurd hj (by omega)⟩, hrow, hbel⟩
          case round =>
            clear hr hrow hbel
            obtain ⟨i, seen', b, hi, rfl, rfl, hin, hrow, hbel⟩ := hrel
            have bx5 := box_cell hbel 5
            simp at bx5
            by_cases hil : i < c.blocks.length
            · have hil1 : (i : Int) < (c.blocks.length : Int) := by omega
              have hrc := hrow.cell hil
              cases hs : seen' i with
              | false =>
                have Hin := Lib.hid (hin.next_unseen hs)
                rw [hs] at hrc
                clear hs hin
                go_wp2_with fail
                go_roundw
                case rel => exact ⟨i + 1, seen', b, by omega, by go_num, rfl, Hin.out, hrow, hbel⟩
                case measure => simp [intOf]; omega
              | true =>
                have Hin := Lib.hid (hin.enter hs)
                rw [hs] at hrc
                clear hs hin
                obtain ⟨bb, off, u, rfl, -, hb, hcell, hu⟩ := hat i hil
                obtain ⟨a2, cap2, rfl, hcap2, hmax2, hat2⟩ := rBlock_val hu
                have hbw := box_below hbel
                have hcx : wr.cell? ⟨bb, off + i, none⟩ = some (.slice a2 c.blocks[i].length cap2) := by rw [hbw.cell (p := ⟨bb, off + i, none⟩) hb]; exact hcell
                have hll := lastTo_at hil
                have hfi := hf.2 _ (List.getElem_mem hil)
                generalize c.blocks[i] = bl at *
                by_cases hn2 : bl = []
                · have hz : bl.length = 0 := by rw [hn2]; rfl
                  have hz2 : lastTo c i = [] := by rw [hll, hn2]; rfl
                  rw [hz] at hcx
                  have Hz2 := Lib.hid hz2
                  clear hz2 hll hn2 hz hat2 hu hfi hcell hat
                  go_wp2_with fail
                  go_loop [6, 10] (fun v i' => v = .bool b ∧ i' = .int .i64 0) (fun _ _ => 0)
                  case atStart => exact ⟨rfl, rfl⟩
                  case round =>
                    obtain ⟨rfl, rfl⟩ := hrel
                    go_wp2_with fail
                    go_roundw
                    case rel => exact ⟨i + 1, seen', b, by omega, by go_num, rfl, Hin.out.leave0 Hz2.out, hrow, hbel⟩
                    case measure => simp [intOf]; omega
                · have hpos := List.length_pos_iff.2 hn2
                  obtain ⟨b2, off2, v1, v2, v6, rfl, -, hb2, -, -, -, -, -, hto, -, -, -, rto⟩ := hat2 (bl.length - 1) (by omega)
                  obtain ⟨a3, cap3, rfl, hl3, hi3, hI3⟩ := rInts_open rto
                  have hto' : wr.cell? ⟨b2, off2 + (bl.length - 1) * 6 + 5, none⟩ = some (.slice a3 bl[bl.length - 1].to.length cap3) := by rw [hbw.cell (p := ⟨b2, _, none⟩) hb2]; exact hto
                  have hlast : lastTo c i = bl[bl.length - 1].to := by rw [hll, List.getLast?_eq_getElem?, List.getElem?_eq_getElem (by omega)]
                  generalize bl[bl.length - 1].to = l at *
                  subst hlast
                  have hne : (0 : Int) < (bl.length : Int) := by omega
                  have hbm : bl.length ≤ 9223372036854775807 := by unfold maxLen at hmax2; omega
                  clear hll hn2 hat2 hu hfi hcell hat hto rto hbw
                  go_wp2_with fail
                  go_loopw [6, 10] (fun v i' wr => ∃ (q : Nat) (seen' : Nat → Bool) (b : Bool), q ≤ (lastTo c i).length ∧ i' = .int .i64 q ∧ v = .bool b ∧ Inmost c x (unseen c.blocks.length seen) i q seen' b ∧
                      wr.rowIs (w.heap.size + 1) 4 c.blocks.length (fun j => .bool (seen' j)) ∧
                      Below (w.heap.size + 1) (w.alloc (.cells #[.string c.name, .int .i64 c.params, .int .i64 c.results, .int .i64 c.vars, .int .i64 c.slots, .slice (some ⟨bb, off, none⟩) c.blocks.length cap] 28)) wr) (fun _ i' _ => (lastTo c i).length - (intOf i').toNat)
                  case atStart => exact ⟨0, seen', b, Nat.zero_le _, rfl, rfl, Hin.out, hrow, hbel⟩
                  case round =>
                    clear Hin hrow hbel hrc bx5 hcx hto'
                    obtain ⟨q, seen', b, hq, rfl, rfl, hin, hrow, hbel⟩ := hrel
                    by_cases hql : q < (lastTo c i).length
                    · obtain ⟨b3, off3, rfl, hb3, hc3⟩ := hi3 q hql
                      have hc4 : wr.cell? ⟨b3, off3 + q, none⟩ = some (.int .i64 (lastTo c i)[q]) := by rw [(box_below hbel).cell (p := ⟨b3, off3 + q, none⟩) hb3]; exact hc3
                      have hql1 : (q : Int) < ((lastTo c i).length : Int) := by omega
                      have hskip := hin.skip hql
                      have hadd := fun t0 => hin.add (t0 := t0) hql
                      have hIy := hI3 _ (List.getElem_mem hql)
                      clear hin hi3 hI3 hc3
                      generalize (lastTo c i)[q] = y at *
                      by_cases hyo : y = o
                      · have Hs := Lib.hid (hskip (fun t _ e hx => by have := (Hx.out t).1 hx; omega))
                        have hyo1 : (y != o) = false := by simp [hyo]
                        clear hskip hadd hyo
                        go_wp2_with fail
                        go_roundw
                        case rel => exact ⟨q + 1, seen', b, by omega, by go_num, rfl, Hs.out, hrow, hbel⟩
                        case measure => simp [intOf]; omega
                      · have hyo1 : (y != o) = true := by simpa using hyo
                        by_cases hy0 : 0 ≤ y
                        · by_cases hyn : y < (c.blocks.length : Int)
                          · obtain ⟨t0, rfl⟩ := Int.eq_ofNat_of_zero_le hy0
                            have ht1 : t0 < c.blocks.length := by omega
                            have hd1 : decide ((0 : Int) ≤ (t0 : Int)) = true := by simp
                            have hd2 : decide ((t0 : Int) ≤ (c.blocks.length : Int) - 1) = true := by simp; omega
                            have hrc := hrow.cell ht1
                            cases hs : seen' t0 with
                            | true =>
                              have Hs := Lib.hid (hskip (fun t _ e _ => by have : t = t0 := by omega
                                                                           rw [this]; exact hs))
                              rw [hs] at hrc
                              clear hskip hadd hyo hs
                              go_wp2_with (go_at_call 34; refine (in_any _ _ _ _).mono ?_; rintro e w' ⟨rfl, rfl⟩)
                              go_roundw
                              case rel => exact ⟨q + 1, seen', b, by omega, by go_num, rfl, Hs.out, hrow, hbel⟩
                              case measure => simp [intOf]; omega
                            | false =>
                              have Hs := Lib.hid (hadd t0 rfl ht1 hs ((Hx.out t0).2 (fun e => hyo e.symm)))
                              rw [hs] at hrc
                              have hfz := hrow.frozen t0
                              have Hrow2 := Lib.hid (hrow.set t0 (.bool true))
                              have Hbel2 := Lib.hid (hbel.setCell (p := ⟨w.heap.size + 1, t0, none⟩) (Nat.le_refl _) (.bool true))
                              clear hskip hadd hyo hs hrow hbel
                              go_wp2_with (go_at_call 34; refine (in_any _ _ _ _).mono ?_; rintro e w' ⟨rfl, rfl⟩)
                              go_roundw
                              case rel => exact ⟨q + 1, _, true, by omega, by go_num, rfl, Hs.out, Hrow2.out.congr (fun j _ => by unfold upd; split <;> rfl), Hbel2.out⟩
                              case measure => simp [intOf]; omega
                          · have Hs := Lib.hid (hskip (fun t ht e _ => by omega))
                            have hd1 : decide ((0 : Int) ≤ y) = true := by simpa using hy0
                            have hd2 : decide (y ≤ (c.blocks.length : Int) - 1) = false := by simp; omega
                            clear hskip hadd hyo
                            go_wp2_with (go_at_call 34; refine (in_any _ _ _ _).mono ?_; rintro e w' ⟨rfl, rfl⟩)
                            go_roundw
                            case rel => exact ⟨q + 1, seen', b, by omega, by go_num, rfl, Hs.out, hrow, hbel⟩
                            case measure => simp [intOf]; omega
                        · have Hs := Lib.hid (hskip (fun t ht e _ => by omega))
                          have hd1 : decide ((0 : Int) ≤ y) = false := by simpa using hy0
                          clear hskip hadd hyo
                          go_wp2_with (go_at_call 34; refine (in_any _ _ _ _).mono ?_; rintro e w' ⟨rfl, rfl⟩)
                          go_roundw
                          case rel => exact ⟨q + 1, seen', b, by omega, by go_num, rfl, Hs.out, hrow, hbel⟩
                          case measure => simp [intOf]; omega
                    · have hqe : q = (lastTo c i).length := by omega
                      subst hqe
                      have Hin := Lib.hid hin
                      clear hin
                      go_wp2_with fail
                      go_roundw
                      case rel => exact ⟨i + 1, seen', b, by omega, by go_num, rfl, Hin.out.leave, hrow, hbel⟩
                      case measure => simp [intOf]; omega
            · have hie : i = c.blocks.length := by omega
              subst hie
              have Hin := Lib.hid hin
              clear hin
              go_wp2_with fail
              go_roundg (unseen c.blocks.length seen' + (if b then 1 else 0))
              case measure => have := Hin.out.1; omega
              case rel => exact ⟨seen', b, rfl, Nat.le_refl _, Hin.out.2.1, Hin.out.2.2, hrow, hbel⟩

set_option maxHeartbeats 2000000 in
theorem aboveOf_any (c : PCode) (cs : List Value) (w : World) (hc : rCode (fun _ => True) w cs c) (hf : FitCode c) :
    Calls Tryd.prog 18 #[.agg cs.toArray] w fun e w' => ∃ v, e = .returned v ∧ rIntss (fun k => w.heap.size ≤ k) w' [v] (aboveF c) ∧ Below w.heap.size w w' := by
  obtain ⟨i0, hi0, hz0, hz1, hz2⟩ := info_parts Tryd.info_int
  have hc0 := hc
  obtain ⟨v5, rfl, hI, hbs⟩ := hc
  obtain ⟨a, cap, rfl, hcap, hmax, hat⟩ := rSlice_one hbs
  unfold maxLen at hmax
  have hfit := hf.1
  unfold reachBytes at hfit
  have hmk := @run_make_row' Tryd.prog 36 23 (.slice none 0 0) 24 Tryd.underlying36 Tryd.info_ints rfl .i64 .i64 c.blocks.length (by omega) (by omega)
  clear hbs hI hat
  go_enter Tryd.func18, Tryd.ntmps18
  go_wp2_with fail
  clear hmk
  have hb0 : Below (w.heap.size + 1) (w.alloc (.cells #[.string c.name, .int .i64 c.params, .int .i64 c.results, .int .i64 c.vars, .int .i64 c.slots, .slice a c.blocks.length cap] 28)) ((w.alloc (.cells #[.string c.name, .int .i64 c.params, .int .i64 c.results, .int .i64 c.vars, .int .i64 c.slots, .slice a c.blocks.length cap] 28)).alloc (.cells (madeCells #[.slice none 0 0] c.blocks.length) 23)) := (Below.refl _ _).alloc (by simp) _
  refine (doneWithout_any c _ (-1) none (fun t => by simp) _ (Good.keep (Keep.of_below' (box_below hb0) (fun k hk _ => hk)) (fun _ _ h => h) hc0) hf).mono ?_
  rintro e w1 ⟨g, rfl, hg, hlive, hb1⟩
  have hbel := hb0.trans (hb1.mono (by simp))
  have hg2 : w.heap.size + 2 ≤ g := by simpa using hg
  have hgB : g < w1.heap.size := hlive.lt
  have hm0 := ownMat_made (te := 23) (e := 3) (f := Value.int .i64) (w.alloc (.cells #[.string c.name, .int .i64 c.params, .int .i64 c.results, .int .i64 c.vars, .int .i64 c.slots, .slice a c.blocks.length cap] 28)) c.blocks.length (B := w1.heap.size) (g := w.heap.size + 1) (by simp) (by omega)
  have hm := hm0.below hb1
  have hBs : w1.heap.size ≤ w1.heap.size := Nat.le_refl _
  generalize hBe : w1.heap.size = B at hm hgB
  rw [hBe] at hBs
  have hB1 : w1.heap.size = B := hBe
  have hB2 : B ≤ w1.heap.size := by omega
  clear hb0 hm0 hb1 hg hBe hBs hB1
  go_wp2_with fail
  go_loopw [5] (fun i wr => ∃ (k : Nat) (vs : Nat → Value), k ≤ c.blocks.length ∧ i = .int .i64 k ∧ OwnMat 23 3 (Value.int .i64) wr B (w.heap.size + 1) c.blocks.length vs (aboveRow c k) ∧ B ≤ wr.heap.size ∧
      wr.rowIs g 4 c.blocks.length (fun j => .bool (reachB c none j)) ∧
      Below (w.heap.size + 1) (w.alloc (.cells #[.string c.name, .int .i64 c.params, .int .i64 c.results, .int .i64 c.vars, .int .i64 c.slots, .slice a c.blocks.length cap] 28)) wr) (fun i _ => c.blocks.length - (intOf i).toNat)
  case atStart => exact ⟨0, _, Nat.zero_le _, rfl, hm.congr (fun _ _ => by simp [aboveRow]), hB2, hlive, hbel⟩
  case round =>
    clear hm hB2 hlive hbel
    obtain ⟨k, vs, hk, rfl, hm, hB2, hlive, hbel⟩ := hrel
    have bx0 := box_cell hbel 0
    have bx1 := box_cell hbel 1
    have bx2 := box_cell hbel 2
    have bx3 := box_cell hbel 3
    have bx4 := box_cell hbel 4
    have bx5 := box_cell hbel 5
    simp at bx0 bx1 bx2 bx3 bx4 bx5
    by_cases hlt : k < c.blocks.length
    · have hlt1 : (k : Int) < (c.blocks.length : Int) := by omega
      have hlc := hlive.cell hlt
      cases hl : reachB c none k with
      | false =>
        rw [hl] at hlc
        have Hm := Lib.hid (hm.congr (F' := aboveRow c (k + 1)) (fun t _ => by rw [aboveRow_succ, hl]; simp))
        clear hm hl
        go_wp2_with fail
        go_roundw
        case rel => exact ⟨k + 1, vs, by omega, by go_num, Hm.out, hB2, hlive, hbel⟩
        case measure => simp [intOf]; omega
      | true =>
        rw [hl] at hlc
        have Hl := Lib.hid hl
        clear hl
        have hcw : rCode (fun _ => True) wr _ c := Good.keep (Keep.of_below' (box_below hbel) (fun k hk _ => hk)) (fun _ _ _ => trivial) hc0
        have hoptk : ∀ t : Nat, (some k : Option Nat) ≠ some t ↔ (k : Int) ≠ (t : Int) := fun t => by simp; omega
        have Hopt := Lib.hid hoptk
        clear hoptk
        go_wp2_with fail
        refine (doneWithout_any c _ (k : Int) (some k) Hopt.out _ hcw hf).mono ?_
        rintro e w2 ⟨g', rfl, hg', hseen, hb2⟩
        have hm2 := hm.below hb2
        have hlive2 := hlive.of_block (hb2.block _ hlive.lt)
        have hbel2 := hbel.trans (hb2.mono (by have := hm.lt; have := hm.row.lt; omega))
        have hsep : ∀ t, t < c.blocks.length → (vs t).ownBlock ≠ some g' := fun t ht hq => by
          have := ((hm.own t ht).lt g' hq).2
          omega
        have hB3 : B ≤ w2.heap.size := by have := hb2.size; omega
        have hg3 : B ≤ g' := by omega
        clear hm hB2 hlive hbel hcw hb2 bx0 bx1 bx2 bx3 bx4 bx5 hlc hg'
        go_wp2_with fail
        go_loopw [7] (fun i wr => ∃ (i' : Nat) (vs : Nat → Value), i' ≤ c.blocks.length ∧ i = .int .i64 i' ∧ OwnMat 23 3 (Value.int .i64) wr B (w.heap.size + 1) c.blocks.length vs (fun t => if t < i' then aboveRow c (k + 1) t else aboveRow c k t) ∧ B ≤ wr.heap.size ∧
            wr.rowIs g 4 c.blocks.length (fun j => .bool (reachB c none j)) ∧ wr.rowIs g' 4 c.blocks.length (fun j => .bool (reachB c (some k) j)) ∧ (∀ t, t < c.blocks.length → (vs t).ownBlock ≠ some g') ∧
            Below (w.heap.size + 1) (w.alloc (.cells #[.string c.name, .int .i64 c.params, .int .i64 c.results, .int .i64 c.vars, .int .i64 c.slots, .slice a c.blocks.length cap] 28)) wr) (fun i _ => c.blocks.length - (intOf i).toNat)
        case atStart => exact ⟨0, vs, Nat.zero_le _, rfl, hm2.congr (fun t _ => by simp), hB3, hlive2, hseen, hsep, hbel2⟩
        case round =>
          clear hm2 hB3 hlive2 hseen hsep hbel2
          obtain ⟨i, vs, hi, rfl, hm, hB2, hlive, hseen, hsep, hbel⟩ := hrel
          have bx5 := box_cell hbel 5
          simp at bx5
          by_cases hil : i < c.blocks.length
          · have hil1 : (i : Int) < (c.blocks.length : Int) := by omega
            have hlc := hlive.cell hil
            have hsc := hseen.cell hil
            have hnext : ∀ t, (if t < i + 1 then aboveRow c (k + 1) t else aboveRow c k t) = if t = i then aboveRow c k i ++ (if (reachB c none i && !reachB c (some k) i) = true then [(k : Int)] else []) else (if t < i then aboveRow c (k + 1) t else aboveRow c k t) := fun t => by
              by_cases h1 : t = i
              · subst h1
                rw [if_pos (by omega), if_pos rfl, aboveRow_succ, Hl.out]
                simp
              · rw [if_neg h1]
                by_cases h2 : t < i
                · rw [if_pos (by omega), if_pos h2]
                · rw [if_neg (by omega), if_neg h2]
            have hlen := aboveRow_len c k i
            cases hl2 : reachB c none i with
            | false =>
              rw [hl2] at hlc
              have Hm := Lib.hid (hm.congr (F' := fun t => if t < i + 1 then aboveRow c (k + 1) t else aboveRow c k t) (fun t _ => by
                rw [hnext, hl2]
                by_cases h1 : t = i
                · subst h1; simp
                · simp [h1]))
              clear hm hl2 hnext
              go_wp2_with fail
              go_roundw
              case rel => exact ⟨i + 1, vs, by omega, by go_num, Hm.out, hB2, hlive, hseen, hsep, hbel⟩
              case measure => simp [intOf]; omega
            | true =>
              rw [hl2] at hlc
              cases hs2 : reachB c (some k) i with
              | true =>
                rw [hs2] at hsc
                have Hm := Lib.hid (hm.congr (F' := fun t => if t < i + 1 then aboveRow c (k + 1) t else aboveRow c k t) (fun t _ => by
                  rw [hnext, hl2, hs2]
                  by_cases h1 : t = i
                  · subst h1; simp
                  · simp [h1]))
                clear hm hl2 hs2 hnext
                go_wp2_with fail
                go_roundw
                case rel => exact ⟨i + 1, vs, by omega, by go_num, Hm.out, hB2, hlive, hseen, hsep, hbel⟩
                case measure => simp [intOf]; omega
              | false =>
                rw [hs2] at hsc
                have Hn := Lib.hid (fun t => (hnext t).trans (by rw [hl2, hs2]; rfl : _ = if t = i then aboveRow c k i ++ [(k : Int)] else (if t < i then aboveRow c (k + 1) t else aboveRow c k t)))
                have hrc := hm.row.cell hil
                have hrow0 := hm.own i hil
                simp only [Nat.lt_irrefl, if_false] at hrow0
                obtain ⟨at', capt, hvt, hlt3, hat3⟩ := ownsRow_ints hrow0
                have Hvt := Lib.hid hvt
                rw [hvt] at hrc hrow0
                clear hvt hat3 hl2 hs2 hnext
                go_wp2_with (at_builtin; refine wpList_append_own_at _ rfl _ _ 23 rfl B 3 i0 (.int .i64 0) 1 8 Tryd.underlying23 hi0 hz0 hz1 hz2 rfl (by decide) _ _ _ rfl (hrow0.alloc _) ⟨wr.heap.size, 0, none⟩ 1 1 [.int .i64 k] rfl rfl ?c1 ?c2 ?c3 ?c4 ?c5 ?_)
                case c1 => exact cell_one_at _ _ _ rfl
                case c2 => intro u hu; simp at hu; subst hu; rfl
                case c3 => unfold maxLen; omega
                case c4 => omega
                case c5 => simp; omega
                intro v' w3 hown' hgrow _ hatv
                rw [← Hvt.out] at hgrow hatv
                have hrow3 := hm.app_row hil hgrow
                have hcell3 := hrow3.cell hil
                have hfz3 := hrow3.frozen i
                obtain ⟨av, capv, hv'⟩ := ownsRow_slice hown'
                clear hrc hrow0
                rw [hv']
                have Hv' := Lib.hid hv'
                clear hv'
                go_wp2_with fail
                go_roundw
                case rel =>
                  rw [← Hv'.out]
                  have hlt2 := hm.lt
                  refine ⟨i + 1, _, by omega, by go_num, (hm.app hil (by simpa using hown') hgrow (by simpa using hatv)).congr (fun t _ => ?_), by have := hgrow.size; simp at this ⊢; omega,
                    hlive.of_block (OwnMat.app_block hgrow hlive.lt (fun e => by have := (hm.own i hil).lt g e.symm; omega) (by omega)),
                    hseen.of_block (OwnMat.app_block hgrow hseen.lt (fun e => hsep i hil e.symm) (by omega)), fun t ht hq => ?_, hbel.trans (hm.below_app hil hB2 hgrow)⟩
                  · rw [Hn.out]
                    by_cases h1 : t = i
                    · subst h1; simp [upd]
                    · rw [upd_other _ _ h1, if_neg h1]
                  · by_cases h1 : t = i
                    · subst h1
                      rw [upd_same] at hq
                      rcases hatv with h2 | h2
                      · rw [h2] at hq; exact hsep t ht hq
                      · rw [h2] at hq
                        have := hseen.lt
                        simp at hq
                        omega
                    · rw [upd_other _ _ h1] at hq
                      exact hsep t ht hq
                case measure => simp [intOf]; omega
          · have hie : i = c.blocks.length := by omega
            subst hie
            have Hm := Lib.hid (hm.congr (F' := aboveRow c (k + 1)) (fun t ht => by simp [ht]))
            clear hm
            go_wp2_with fail
            go_roundw
            case rel => exact ⟨k + 1, vs, by omega, by go_num, Hm.out, hB2, hlive, hbel⟩
            case measure => simp [intOf]; omega
    · have hke : k = c.blocks.length := by omega
      subst hke
      go_wp2_with fail
      go_ret
      refine ⟨_, rfl, hm.reads_ints (by unfold maxLen; omega) (fun t ht x hx => ?_) (fun k hk => by omega), box_below hbel⟩
      have := mem_aboveRow c _ t x hx
      unfold InI
      omega
end Go.Proofs.YthgfdcoicihpdaaDoor

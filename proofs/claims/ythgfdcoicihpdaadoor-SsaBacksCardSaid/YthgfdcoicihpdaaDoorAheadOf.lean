/-
  posternref.AheadOf: the contract: the same lists as ssa.Ahead's.
-/
import Derived.Test.YthgfdcoicihpdaaDoorAhead
namespace Go.Proofs.YthgfdcoicihpdaaDoor
open Go.RowKit Go.Pst
set_option linter.unusedVariables false

theorem aheadRow_succ (c : PCode) (i t : Nat) : aheadRow c (i + 1) t = aheadRow c i t ++ if (t : Int) ∈ leadsF c i then [(i : Int)] else [] := by
  unfold aheadRow
  rw [List.range_succ, List.filter_append, List.map_append]
  congr 1
  by_cases h : (t : Int) ∈ leadsF c i <;> simp [h]
theorem aheadRow_len (c : PCode) (i t : Nat) : (aheadRow c i t).length ≤ i := by
  unfold aheadRow
  have := List.length_filter_le (fun i => decide ((t : Int) ∈ leadsF c i)) (List.range i)
  simpa using this
/-- While row t is made: the rows ahead of it are whole. -/
def aheadPart (c : PCode) (t i j : Nat) : List Int := if j < t then aheadRow c c.blocks.length j else if j = t then aheadRow c i j else []

set_option maxHeartbeats 1000000 in
theorem aheadOf_any (c : PCode) (cs : List Value) (w : World) (hc : rCode (fun _ => True) w cs c) (hf : FitCode c) :
    Calls Tryd.prog 16 #[.agg cs.toArray] w fun e w' => ∃ v, e = .returned v ∧ rIntss (fun k => w.heap.size ≤ k) w' [v] (aheadF c) ∧ Below w.heap.size w w' := by
  obtain ⟨i0, hi0, hz0, hz1, hz2⟩ := info_parts Tryd.info_int
  obtain ⟨v5, rfl, hI, hbs⟩ := hc
  obtain ⟨a, cap, rfl, hcap, hmax, hat⟩ := rSlice_one hbs
  unfold maxLen at hmax
  have hfit := hf.1
  unfold reachBytes at hfit
  have hmk := @run_make_row' Tryd.prog 36 23 (.slice none 0 0) 24 Tryd.underlying36 Tryd.info_ints rfl .i64 .i64 c.blocks.length (by omega) (by omega)
  clear hbs hI
  go_enter Tryd.func16, Tryd.ntmps16
  go_wp2
  clear hmk
  go_loopw [4] (fun i wr => ∃ (t : Nat) (vs : Nat → Value), t ≤ c.blocks.length ∧ i = .int .i64 t ∧ OwnMat 23 3 (Value.int .i64) wr (w.heap.size + 2) (w.heap.size + 1) c.blocks.length vs (aheadPart c t 0) ∧
      Below (w.heap.size + 1) (w.alloc (.cells #[.string c.name, .int .i64 c.params, .int .i64 c.results, .int .i64 c.vars, .int .i64 c.slots, .slice a c.blocks.length cap] 28)) wr) (fun i _ => c.blocks.length - (intOf i).toNat)
  case atStart => exact ⟨0, _, Nat.zero_le _, rfl, (ownMat_made _ _ (by simp) (by omega)).congr (fun _ _ => by simp [aheadPart, aheadRow]), (Below.refl _ _).alloc (by simp) _⟩
  case round =>
    obtain ⟨t, vs, ht, rfl, hm, hbel⟩ := hrel
    have bx5 := hbel.cell (p := ⟨w.heap.size, 5, none⟩) (by simp)
    simp at bx5
    by_cases hlt : t < c.blocks.length
    · have hlt1 : (t : Int) < (c.blocks.length : Int) := by omega
      go_wp2_with fail
      go_loopw [5] (fun i wr => ∃ (i' : Nat) (vs : Nat → Value), i' ≤ c.blocks.length ∧ i = .int .i64 i' ∧ OwnMat 23 3 (Value.int .i64) wr (w.heap.size + 2) (w.heap.size + 1) c.blocks.length vs (aheadPart c t i') ∧
          Below (w.heap.size + 1) (w.alloc (.cells #[.string c.name, .int .i64 c.params, .int .i64 c.results, .int .i64 c.vars, .int .i64 c.slots, .slice a c.blocks.length cap] 28)) wr) (fun i _ => c.blocks.length - (intOf i).toNat)
      case atStart => exact ⟨0, _, Nat.zero_le _, rfl, hm, hbel⟩
      case round =>
        clear hm hbel bx5
        clear vs
        obtain ⟨i, vs, hi, rfl, hm, hbel⟩ := hrel
        have bx5 := hbel.cell (p := ⟨w.heap.size, 5, none⟩) (by simp)
        simp at bx5
        by_cases hil : i < c.blocks.length
        · have hil1 : (i : Int) < (c.blocks.length : Int) := by omega
          obtain ⟨b, off, u, rfl, -, hb, hcell, hu⟩ := hat i hil
          obtain ⟨a2, cap2, rfl, hcap2, hmax2, hat2⟩ := rBlock_val hu
          have hcx : wr.cell? ⟨b, off + i, none⟩ = some (.slice a2 c.blocks[i].length cap2) := by
            rw [hbel.cell (p := ⟨b, off + i, none⟩) (by show b < _; omega), World.cell?_alloc_lt _ _ _ hb]; exact hcell
          have hmem := List.getElem_mem hil
          have hll := lastTo_at hil
          have hmt := mem_lastTo c i t hlt
          have hsucc := aheadRow_succ c i t
          have hlen := aheadRow_len c i t
          have hpart : ∀ j, aheadPart c t (i + 1) j = if j = t then aheadRow c (i + 1) t else aheadPart c t i j := fun j => by
            unfold aheadPart
            by_cases h1 : j = t
            · subst h1; simp
            · simp [h1]
          have hpt : aheadPart c t i t = aheadRow c i t := by simp [aheadPart]
          have hfi := hf.2 _ hmem
          generalize c.blocks[i] = bl at *
          by_cases hn : bl = []
          · have hnot : ¬ (t : Int) ∈ leadsF c i := by rw [← hmt, hll, hn]; simp
            rw [if_neg hnot, List.append_nil] at hsucc
            have hz : bl.length = 0 := by rw [hn]; rfl
            rw [hz] at hcx
            have Hp := Lib.hid hpart
            have Hs := Lib.hid hsucc
            have Ht := Lib.hid hpt
            clear hpart hsucc hpt hll hmt hn hz hat2 hu hat hmem hfi hcell
            go_wp2_with fail
            go_loop [7, 8] (fun f i => f = .bool false ∧ i = .int .i64 0) (fun _ _ => 0)
            case atStart => exact ⟨rfl, rfl⟩
            case round =>
              obtain ⟨rfl, rfl⟩ := hrel
              go_wp2_with fail
              go_roundw
              case rel => exact ⟨i + 1, vs, by omega, by go_num, hm.congr (fun j _ => by
                rw [Hp.out]
                by_cases h1 : j = t
                · rw [if_pos h1, h1, Ht.out, Hs.out]
                · rw [if_neg h1]), hbel⟩
              case measure => simp [intOf]; omega
          · have hbw : Below w.heap.size w wr := ((Below.refl _ _).alloc (Nat.le_refl _) _).trans (hbel.mono (by omega))
            have hpos := List.length_pos_iff.2 hn
            obtain ⟨b2, off2, v1, v2, v6, rfl, -, hb2, -, -, -, -, -, hto, -, -, -, rto⟩ := hat2 (bl.length - 1) (by omega)
            obtain ⟨a3, cap3, rfl, hl3, hi3, -⟩ := rInts_open rto
            have hto' : wr.cell? ⟨b2, off2 + (bl.length - 1) * 6 + 5, none⟩ = some (.slice a3 bl[bl.length - 1].to.length cap3) := by rw [hbw.cell (p := ⟨b2, _, none⟩) hb2]; exact hto
            have hi3' := hi3.below hbw
            have hlast : lastTo c i = bl[bl.length - 1].to := by rw [hll, List.getLast?_eq_getElem?, List.getElem?_eq_getElem (by omega)]
            generalize bl[bl.length - 1].to = l at *
            subst hlast
            have hne : (0 : Int) < (bl.length : Int) := by omega
            have hbm : bl.length ≤ 9223372036854775807 := by unfold maxLen at hmax2; omega
            have Hp := Lib.hid hpart
            have Hs := Lib.hid hsucc
            have Ht := Lib.hid hpt
            clear hpart hsucc hpt hll hmt hn hat2 hu hat hmem hfi hcell hto hi3
            go_wp2_with fail
            go_loop [7, 8] (fun f i' => ∃ k : Nat, k ≤ (lastTo c i).length ∧ i' = .int .i64 k ∧ f = .bool (decide ((t : Int) ∈ (lastTo c i).take k))) (fun _ i' => (lastTo c i).length - (intOf i').toNat)
            case atStart => exact ⟨0, Nat.zero_le _, rfl, by simp⟩
            case round =>
              obtain ⟨k, hk, rfl, rfl⟩ := hrel
              by_cases hkl : k < (lastTo c i).length
              · have hkl1 : (k : Int) < ((lastTo c i).length : Int) := by omega
                obtain ⟨b3, off3, rfl, hb3, hc3⟩ := hi3' k hkl
                have hts := mem_take_succ hkl (t : Int)
                clear hi3'
                generalize (lastTo c i)[k] = x at *
                by_cases hin : (t : Int) ∈ (lastTo c i).take k
                · have hd : decide ((t : Int) ∈ (lastTo c i).take k) = true := by simpa using hin
                  have hd2 : decide ((t : Int) ∈ (lastTo c i).take (k + 1)) = true := by simpa using hts.2 (Or.inl hin)
                  have Hd2 := Lib.hid hd2
                  rw [hd]
                  clear hts hd2
                  go_wp2_with fail
                  go_round
                  case rel => exact ⟨k + 1, by omega, by go_num, by rw [Hd2.out]⟩
                  case measure => simp [intOf]; omega
                · have hd : decide ((t : Int) ∈ (lastTo c i).take k) = false := by simpa using hin
                  have hd2 : decide ((t : Int) ∈ (lastTo c i).take (k + 1)) = (x == (t : Int)) := by
                    rw [Bool.eq_iff_iff]
                    simp only [decide_eq_true_eq, hts, beq_iff_eq]
                    constructor
                    · rintro (h | h)
                      · exact absurd h hin
                      · exact h.symm
                    · intro h; exact Or.inr h.symm
                  have Hd2 := Lib.hid hd2
                  rw [hd]
                  clear hts hd2
                  go_wp2_with fail
                  go_round
                  case rel => exact ⟨k + 1, by omega, by go_num, by rw [Hd2.out]⟩
                  case measure => simp [intOf]; omega
              · have hke : k = (lastTo c i).length := by omega
                subst hke
                rw [List.take_length]
                by_cases hin : (t : Int) ∈ lastTo c i
                · have hd : decide ((t : Int) ∈ lastTo c i) = true := by simpa using hin
                  rw [hd]
                  have hrc := hm.row.cell hlt
                  obtain ⟨at', capt, hvt, hlt3, hat3⟩ := ownsRow_ints (hm.own t hlt)
                  have Hvt := Lib.hid hvt
                  rw [hvt] at hrc
                  have hown0 := hm.own t hlt
                  rw [hvt] at hown0
                  clear hvt hat3
                  have hwq : w.heap.size + 2 ≤ wr.heap.size := by have := hm.row.lt; omega
                  have hlen2 : (aheadPart c t i t).length ≤ i := by rw [Ht.out]; exact hlen
                  go_wp2_with (at_builtin; refine wpList_append_own_at _ rfl _ _ 23 rfl (w.heap.size + 2) 3 i0 (.int .i64 0) 1 8 Tryd.underlying23 hi0 hz0 hz1 hz2 rfl (by decide) _ _ _ rfl (hown0.alloc _) ⟨wr.heap.size, 0, none⟩ 1 1 [.int .i64 i] rfl rfl ?c1 ?c2 ?c3 ?c4 ?c5 ?_)
                  case c2 => rfl
                  case c3 => unfold maxLen; omega
                  case c4 => omega
                  case c5 => omega
                  intro v' w2 hown' hgrow _ hatv
                  rw [← Hvt.out] at hgrow hatv
                  have hrow2 := hm.app_row hlt hgrow
                  have hcell2 := hrow2.cell hlt
                  have hfz2 := hrow2.frozen t
                  obtain ⟨av, capv, hv'⟩ := ownsRow_slice hown'
                  clear hrc hown0
                  rw [hv']
                  have Hv' := Lib.hid hv'
                  clear hv'
                  go_wp2_with fail
                  go_roundw
                  case rel =>
                    rw [← Hv'.out]
                    refine ⟨i + 1, _, by omega, by go_num, (hm.app hlt hown' hgrow (by simpa using hatv)).congr (fun j _ => ?_), hbel.trans (hm.below_app hlt hwq hgrow)⟩
                    rw [Hp.out]
                    by_cases h1 : j = t
                    · subst h1
                      rw [upd_same, if_pos rfl, Hs.out, Ht.out, if_pos ((mem_lastTo c i j hlt).1 hin)]
                    · rw [upd_other _ _ h1, if_neg h1]
                  case measure => simp [intOf]; omega
                · have hd : decide ((t : Int) ∈ lastTo c i) = false := by simpa using hin
                  rw [hd]
                  go_wp2_with fail
                  go_roundw
                  case rel => exact ⟨i + 1, vs, by omega, by go_num, hm.congr (fun j _ => by
                    rw [Hp.out]
                    by_cases h1 : j = t
                    · rw [if_pos h1, h1, Ht.out, Hs.out, if_neg (fun h => hin ((mem_lastTo c i t hlt).2 h)), List.append_nil]
                    · rw [if_neg h1]), hbel⟩
                  case measure => simp [intOf]; omega
        · have hie : i = c.blocks.length := by omega
          subst hie
          go_wp2_with fail
          go_roundw
          case rel => exact ⟨t + 1, vs, by omega, by go_num, hm.congr (fun j _ => by
            unfold aheadPart
            by_cases h1 : j < t
            · rw [if_pos h1, if_pos (by omega)]
            · rw [if_neg h1]
              by_cases h2 : j = t
              · rw [if_pos h2, if_pos (by omega)]
              · rw [if_neg h2, if_neg (by omega)]
                by_cases h3 : j = t + 1
                · rw [if_pos h3]; simp [aheadRow]
                · rw [if_neg h3]), hbel⟩
          case measure => simp [intOf]; omega
    · have hke : t = c.blocks.length := by omega
      subst hke
      go_wp2
      go_ret
      refine ⟨_, rfl, (hm.congr (F' := aheadRow c c.blocks.length) (fun j hj => by simp [aheadPart, hj])).reads_ints (by unfold maxLen; omega) (fun t ht x hx => ?_) (fun k hk => by omega), ((Below.refl _ _).alloc (Nat.le_refl _) _).trans (hbel.mono (by omega))⟩
      have := mem_aheadRow c _ t x hx
      unfold InI
      omega
end Go.Proofs.YthgfdcoicihpdaaDoor

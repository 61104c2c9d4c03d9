/-
  ssa.Ahead: the contract: of each block those that lead to it.
-/
import Derived.Test.YthgfdcoicihpdaaDoorLeads
import Derived.Test.YthgfdcoicihpdaaDoorIdx
import Derived.Test.YthgfdcoicihpdaaDoorMat
namespace Go.Proofs.YthgfdcoicihpdaaDoor
open Go.RowKit Go.Pst
set_option linter.unusedVariables false

theorem Tryd.info_ints : (Tryd.prog.info? 23).map (fun i => (i.zero, i.size, i.bytes)) = some (some (.slice none 0 0), 1, 24) := by kernel_rfl

/-- Of the first m blocks those that lead to t. -/
def aheadRow (c : PCode) (m t : Nat) : List Int := ((List.range m).filter fun i => decide ((t : Int) ∈ leadsF c i)).map Int.ofNat
def aheadF (c : PCode) : List (List Int) := (List.range c.blocks.length).map (aheadRow c c.blocks.length)
def aheadMid (c : PCode) (i k t : Nat) : List Int := aheadRow c i t ++ if (t : Int) ∈ (leadsF c i).take k then [(i : Int)] else []

theorem aheadMid_zero (c : PCode) (i t : Nat) : aheadMid c i 0 t = aheadRow c i t := by simp [aheadMid]
theorem aheadMid_end (c : PCode) (i t : Nat) : aheadMid c i (leadsF c i).length t = aheadRow c (i + 1) t := by
  unfold aheadMid aheadRow
  rw [List.range_succ, List.filter_append, List.map_append, List.take_length]
  congr 1
  by_cases h : (t : Int) ∈ leadsF c i <;> simp [h]
theorem mem_aheadRow (c : PCode) (i t : Nat) (x : Int) (h : x ∈ aheadRow c i t) : 0 ≤ x ∧ x < (i : Int) := by
  simp [aheadRow] at h
  omega
theorem mem_aheadMid (c : PCode) (i k t : Nat) : ((i : Int) ∈ aheadMid c i k t) ↔ (t : Int) ∈ (leadsF c i).take k := by
  unfold aheadMid
  constructor
  · intro h
    rcases List.mem_append.1 h with h | h
    · have := mem_aheadRow c i t _ h; omega
    · by_cases h' : (t : Int) ∈ (leadsF c i).take k
      · exact h'
      · simp [h'] at h
  · intro h
    simp [h]
theorem aheadMid_len (c : PCode) (i k t : Nat) : (aheadMid c i k t).length ≤ i + 1 := by
  unfold aheadMid aheadRow
  have := List.length_filter_le (fun i => decide ((t : Int) ∈ leadsF c i)) (List.range i)
  simp only [List.length_append, List.length_map, List.length_range] at *
  split <;> simp <;> omega
theorem aheadMid_same {c : PCode} {i k : Nat} (h : k < (leadsF c i).length) {t0 : Nat} (ht : (leadsF c i)[k] = (t0 : Int)) (hin : (i : Int) ∈ aheadMid c i k t0) (t : Nat) : aheadMid c i k t = aheadMid c i (k + 1) t := by
  rw [mem_aheadMid] at hin
  unfold aheadMid
  congr 1
  by_cases e : t = t0
  · subst e
    rw [if_pos hin, if_pos ((mem_take_succ h _).2 (Or.inl hin))]
  · have : (t : Int) ∈ (leadsF c i).take (k + 1) ↔ (t : Int) ∈ (leadsF c i).take k := by
      rw [mem_take_succ h, ht]
      constructor
      · rintro (h1 | h1)
        · exact h1
        · omega
      · exact Or.inl
    simp only [this]
theorem aheadMid_more {c : PCode} {i k : Nat} (h : k < (leadsF c i).length) {t0 : Nat} (ht : (leadsF c i)[k] = (t0 : Int)) (hin : ¬ (i : Int) ∈ aheadMid c i k t0) (t : Nat) :
    upd (aheadMid c i k) t0 (aheadMid c i k t0 ++ [(i : Int)]) t = aheadMid c i (k + 1) t := by
  rw [mem_aheadMid] at hin
  by_cases e : t = t0
  · subst e
    rw [upd_same]
    unfold aheadMid
    rw [if_neg hin, if_pos ((mem_take_succ h _).2 (Or.inr ht.symm))]
    simp
  · rw [upd_other _ _ e]
    unfold aheadMid
    congr 1
    have : (t : Int) ∈ (leadsF c i).take (k + 1) ↔ (t : Int) ∈ (leadsF c i).take k := by
      rw [mem_take_succ h, ht]
      constructor
      · rintro (h1 | h1)
        · exact h1
        · omega
      · exact Or.inl
    simp only [this]
set_option maxHeartbeats 1000000 in
theorem ahead_any (c : PCode) (cs : List Value) (w : World) (hc : rCode (fun _ => True) w cs c) (hf : FitCode c) :
    Calls Tryd.prog 11 #[.agg cs.toArray] w fun e w' => ∃ v, e = .returned v ∧ rIntss (fun k => w.heap.size ≤ k) w' [v] (aheadF c) ∧ Below w.heap.size w w' := by
  obtain ⟨i0, hi0, hz0, hz1, hz2⟩ := info_parts Tryd.info_int
  have hc0 := hc
  obtain ⟨v5, rfl, hI, hbs⟩ := hc
  obtain ⟨a, cap, rfl, hcap, hmax, hat⟩ := rSlice_one hbs
  unfold maxLen at hmax
  have hfit := hf.1
  unfold reachBytes at hfit
  have hmk := @run_make_row' Tryd.prog 36 23 (.slice none 0 0) 24 Tryd.underlying36 Tryd.info_ints rfl .i64 .i64 c.blocks.length (by omega) (by omega)
  clear hbs hat hI
  go_enter Tryd.func11, Tryd.ntmps11
  go_wp2
  clear hmk
  go_loopw [14] (fun i wr => ∃ (k : Nat) (vs : Nat → Value), k ≤ c.blocks.length ∧ i = .int .i64 k ∧ OwnMat 23 3 (Value.int .i64) wr (w.heap.size + 2) (w.heap.size + 1) c.blocks.length vs (aheadRow c k) ∧
      Below (w.heap.size + 1) (w.alloc (.cells #[.string c.name, .int .i64 c.params, .int .i64 c.results, .int .i64 c.vars, .int .i64 c.slots, .slice a c.blocks.length cap] 28)) wr) (fun i _ => c.blocks.length - (intOf i).toNat)
  case atStart => exact ⟨0, _, Nat.zero_le _, rfl, (ownMat_made _ _ (by simp) (by omega)).congr (fun _ _ => rfl), (Below.refl _ _).alloc (by simp) _⟩
  case round =>
    obtain ⟨k, vs, hk, rfl, hm, hbel⟩ := hrel
    by_cases hlt : k < c.blocks.length
    · have hlt1 : (k : Int) < (c.blocks.length : Int) := by omega
      have hbw : Below w.heap.size w wr := ((Below.refl _ _).alloc (Nat.le_refl _) _).trans (hbel.mono (by omega))
      have hcw : rCode (fun _ => True) wr _ c := Good.keep (Keep.of_below' hbw (fun k hk _ => hk)) (fun _ _ _ => trivial) hc0
      have bx := fun j => hbel.cell (p := ⟨w.heap.size, j, none⟩) (by simp)
      simp at bx
      have bx0 := bx 0
      have bx1 := bx 1
      have bx2 := bx 2
      have bx3 := bx 3
      have bx4 := bx 4
      have bx5 := bx 5
      simp at bx0 bx1 bx2 bx3 bx4 bx5
      clear bx
      go_wp2_with fail
      refine (leads_any c _ k _ hcw hlt hf).mono ?_
      rintro e w1 ⟨v, rfl, hv, hb1⟩
      obtain ⟨al, capl, rfl, hll, -⟩ := ownsRow_ints hv
      have hm1 := hm.below hb1
      have hbel1 := hbel.trans (hb1.mono (by have := hm.lt; have := hm.row.lt; omega))
      have hvs : ∀ t, t < c.blocks.length → ∀ p, (vs t).ownBlock = some p → p < wr.heap.size := fun t ht p hp => ((hm.own t ht).lt p hp).2
      have hsep : ∀ t, t < c.blocks.length → ∀ p, (Value.slice al (leadsF c k).length capl).ownBlock = some p → (vs t).ownBlock ≠ some p := fun t ht p hp hq => by
        have := hvs t ht p hq
        have := (hv.lt p hp).1
        omega
      have hwr : w.heap.size + 2 ≤ wr.heap.size := by have := hbel.size; have := hm.row.lt; simp at *; omega
      have hv2 : w1.ownsRow (w.heap.size + 2) 3 1 (.slice al (leadsF c k).length capl) (leadsF c k).length ((leadsF c k).map (Value.int .i64)) := ownsRow_from hv hwr
      have hw1 : w.heap.size + 2 ≤ w1.heap.size := by have := hb1.size; omega
      clear hv hm hbel hbw hcw bx0 bx1 bx2 bx3 bx4 bx5 hvs hb1 hwr
      go_wp2_with fail
      go_loopw [21] (fun i wq => ∃ (q : Nat) (vs : Nat → Value), q ≤ (leadsF c k).length ∧ i = .int .i64 q ∧ OwnMat 23 3 (Value.int .i64) wq (w.heap.size + 2) (w.heap.size + 1) c.blocks.length vs (aheadMid c k q) ∧
          wq.ownsRow (w.heap.size + 2) 3 1 (.slice al (leadsF c k).length capl) (leadsF c k).length ((leadsF c k).map (Value.int .i64)) ∧ w.heap.size + 2 ≤ wq.heap.size ∧
          (∀ t, t < c.blocks.length → ∀ p, (Value.slice al (leadsF c k).length capl).ownBlock = some p → (vs t).ownBlock ≠ some p) ∧
          Below (w.heap.size + 1) (w.alloc (.cells #[.string c.name, .int .i64 c.params, .int .i64 c.results, .int .i64 c.vars, .int .i64 c.slots, .slice a c.blocks.length cap] 28)) wq) (fun i _ => (leadsF c k).length - (intOf i).toNat)
      case atStart => exact ⟨0, vs, Nat.zero_le _, rfl, hm1.congr (fun t _ => (aheadMid_zero c k t).symm), hv2, hw1, hsep, hbel1⟩
      case round =>
        clear hm1 hv2 hw1 hsep hbel1
        clear vs
        obtain ⟨q, vs, hq, rfl, hm, hv, hwq, hsep, hbel⟩ := hrel
        by_cases hql : q < (leadsF c k).length
        · obtain ⟨_, al', capl', he, hcl, -, hvat⟩ := ownsRow_open hv
          simp only [Value.slice.injEq] at he
          obtain ⟨rfl, -, rfl⟩ := he
          obtain ⟨bl, rfl, -, hbl, hcx, -⟩ := hvat q hql
          have hql1 : (q : Int) < ((leadsF c k).length : Int) := by omega
          obtain ⟨hx0, hx1⟩ := leads_in c k _ (List.getElem_mem hql)
          obtain ⟨t0, ht0⟩ := Int.eq_ofNat_of_zero_le hx0
          have hcx1 : wr.cell? ⟨bl, q, none⟩ = some (.int .i64 (t0 : Int)) := by rw [hcx]; simp [hql, ht0]
          have ht1 : t0 < c.blocks.length := by omega
          have ht2 : (t0 : Int) < (c.blocks.length : Int) := by omega
          have Hsame := fun h t => aheadMid_same hql ht0 h t
          have Hmore := fun h t => aheadMid_more hql ht0 h t
          have hlen := aheadMid_len c k q t0
          clear hcx hvat hx0 hx1
          have hrc := hm.row.cell ht1
          obtain ⟨at', capt, hvt, hlt3, hat3⟩ := ownsRow_ints (hm.own t0 ht1)
          have Hvt := Lib.hid hvt
          rw [hvt] at hrc
          clear hvt
          by_cases hin : (k : Int) ∈ aheadMid c k q t0
          · have Hs := Lib.hid (Hsame hin)
            clear Hsame Hmore
            have hdec : decide ((k : Int) ∈ aheadMid c k q t0) = true := by simpa using hin
            go_wp2_with fail
            refine (contains_any _ _ _ _ _ hlt3 hat3).mono ?_
            rintro e w' ⟨rfl, rfl⟩
            go_wp2_with fail
            go_roundw
            case rel => exact ⟨q + 1, vs, by omega, by go_num, hm.congr (fun t _ => Hs.out t), hv, hwq, hsep, hbel⟩
            case measure => simp [intOf]; omega
          · have Hs := Lib.hid (Hmore hin)
            clear Hsame Hmore
            have hdec : decide ((k : Int) ∈ aheadMid c k q t0) = false := by simpa using hin
            go_wp2_with fail
            refine (contains_any _ _ _ _ _ hlt3 hat3).mono ?_
            rintro e w' ⟨rfl, rfl⟩
            have hown0 := hm.own t0 ht1
            rw [Hvt.out] at hown0
            go_wp2_with (at_builtin; refine wpList_append_own_at _ rfl _ _ 23 rfl (w.heap.size + 2) 3 i0 (.int .i64 0) 1 8 Tryd.underlying23 hi0 hz0 hz1 hz2 rfl (by decide) _ _ _ rfl (hown0.alloc _) ⟨wr.heap.size, 0, none⟩ 1 1 [.int .i64 k] rfl rfl ?c1 ?c2 ?c3 ?c4 ?c5 ?_)
            case c1 => exact (cell_one_new _ _ _)
            case c2 => intro u hu; simp at hu; subst hu; rfl
            case c3 => unfold maxLen; omega
            case c4 => omega
            case c5 => simp; omega
            intro v' w2 hown' hgrow _ hatv
            rw [← Hvt.out] at hgrow hatv
            have hrow2 := hm.app_row ht1 hgrow
            have hcell2 := hrow2.cell ht1
            have hfz2 := hrow2.frozen t0
            obtain ⟨av, capv, hv'⟩ := ownsRow_slice hown'
            clear hrc hat3 hown0
            rw [hv']
            have Hv' := Lib.hid hv'
            clear hv'
            go_wp2_with fail
            go_roundw
            case rel =>
              rw [← Hv'.out]
              have hkeep := fun (p : Nat) (hp : (Value.slice (some ⟨bl, 0, none⟩ : Option Addr) (leadsF c k).length capl).ownBlock = some p) =>
                OwnMat.app_block (g := w.heap.size + 1) (v' := v') hgrow (hv.lt p hp).2 (fun e => hsep t0 ht1 p hp e.symm) (by have := (hv.lt p hp).1; omega)
              refine ⟨q + 1, _, by omega, by go_num, (hm.app ht1 hown' hgrow (by simpa using hatv)).congr (fun t _ => Hs.out t), ownsRow_block hv hkeep, ?_, ?_, hbel.trans (hm.below_app ht1 hwq hgrow)⟩
              · have := hgrow.size
                simp at this ⊢
                omega
              · intro t ht p hp
                by_cases e : t = t0
                · subst e
                  rw [upd_same]
                  rcases hatv with h1 | h1
                  · rw [h1]; exact hsep t ht p hp
                  · rw [h1]
                    intro h2
                    have := (hv.lt p hp).2
                    simp at h2
                    omega
                · rw [upd_other _ _ e]
                  exact hsep t ht p hp
            case measure => simp [intOf]; omega
        · have hqe : q = (leadsF c k).length := by omega
          subst hqe
          go_wp2_with fail
          go_roundw
          case rel => exact ⟨k + 1, vs, by omega, by go_num, hm.congr (fun t _ => aheadMid_end c k t), hbel⟩
          case measure => simp [intOf]; omega
    · have hke : k = c.blocks.length := by omega
      subst hke
      go_wp2
      go_ret
      refine ⟨_, rfl, hm.reads_ints (by unfold maxLen; omega) (fun t ht x hx => ?_) (fun k hk => by omega), ((Below.refl _ _).alloc (Nat.le_refl _) _).trans (hbel.mono (by omega))⟩
      have := mem_aheadRow c _ t x hx
      unfold InI
      omega
end Go.Proofs.YthgfdcoicihpdaaDoor

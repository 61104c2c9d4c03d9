/-
  ssa.reached: the contract: which blocks are reached.
-/
import Derived.Test.YthgfdcoicihpdaaDoorAhead
import Derived.WalkSmall
namespace Go.Proofs.YthgfdcoicihpdaaDoor
open Go.RowKit Go.Pst
set_option linter.unusedVariables false

theorem Tryd.info_bool : (Tryd.prog.info? 4).map (fun i => (i.zero, i.size, i.bytes)) = some (some (.bool false), 1, 1) := by kernel_rfl

theorem owns_lit (w : World) (B : Nat) (e : TypeId) (c : Array Value) (n : Nat) (hn : c.size = n) (hm : n ≤ maxLen) (hB : B ≤ w.heap.size) : (w.alloc (.cells c e)).ownsRow B e 1 (.slice (some ⟨w.heap.size, 0, none⟩) n n) n c.toList :=
  ⟨by simpa using hn, .inr ⟨w.heap.size, n, c, rfl, hB, heap_alloc_new w _, Nat.le_refl _, hm, by simpa using hn, by rw [List.take_of_length_le (by simp [hn])]⟩⟩

set_option maxHeartbeats 2000000 in
theorem reached_any (c : PCode) (cs : List Value) (w : World) (hc : rCode (fun _ => True) w cs c) (hf : FitCode c) :
    Calls Tryd.prog 50 #[.agg cs.toArray] w fun e w' => ∃ g, e = .returned (.slice (some ⟨g, 0, none⟩) c.blocks.length c.blocks.length) ∧ w.heap.size ≤ g ∧ w'.rowIs g 4 c.blocks.length (fun j => .bool (reachB c none j)) ∧ Below w.heap.size w w' := by
  obtain ⟨i0, hi0, hz0, hz1, hz2⟩ := info_parts Tryd.info_int
  have hc0 := hc
  obtain ⟨v5, rfl, hI, hbs⟩ := hc
  obtain ⟨a, cap, rfl, hcap, hmax, hat⟩ := rSlice_one hbs
  unfold maxLen at hmax
  have hfit := hf.1
  unfold reachBytes at hfit
  have hmk := @run_make_row' Tryd.prog 62 4 (.bool false) 1 Tryd.underlying62 Tryd.info_bool rfl .i64 .i64 c.blocks.length (by omega) (by omega)
  clear hbs hat hI
  by_cases hn : c.blocks.length = 0
  · have hn0 : ((c.blocks.length : Int) == 0) = true := by simp [hn]
    have hrow := World.rowIs_made (w.alloc (.cells #[.string c.name, .int .i64 c.params, .int .i64 c.results, .int .i64 c.vars, .int .i64 c.slots, .slice a c.blocks.length cap] 28)) (.bool false) c.blocks.length 4
    simp only [World.size_alloc] at hrow
    have Hrow := Lib.hid hrow
    have Hn := Lib.hid hn
    clear hrow hn
    go_enter Tryd.func50, Tryd.ntmps50
    go_wp2_with fail
    go_ret
    exact ⟨w.heap.size + 1, rfl, by omega, Hrow.out.congr (fun i hi => by have := Hn.out; omega), ((Below.refl _ _).alloc (Nat.le_refl _) _).alloc (by simp) _⟩
  · have hn0 : ((c.blocks.length : Int) == 0) = false := by simpa using hn
    have hn1 : (0 : Int) < (c.blocks.length : Int) := by omega
    have hrow := World.rowIs_made (w.alloc (.cells #[.string c.name, .int .i64 c.params, .int .i64 c.results, .int .i64 c.vars, .int .i64 c.slots, .slice a c.blocks.length cap] 28)) (.bool false) c.blocks.length 4
    simp only [World.size_alloc] at hrow
    have hcell := (hrow.alloc (.cells #[.int .i64 0] 3)).cell (i := 0) (by omega)
    have hfrz := (hrow.alloc (.cells #[.int .i64 0] 3)).frozen 0
    clear hrow
    have hrow := rowIs_made_set (w.alloc (.cells #[.string c.name, .int .i64 c.params, .int .i64 c.results, .int .i64 c.vars, .int .i64 c.slots, .slice a c.blocks.length cap] 28)) (.bool false) (.bool true) c.blocks.length 0 4
    simp only [World.size_alloc] at hrow
    have Hrow := Lib.hid hrow
    clear hrow
    go_enter Tryd.func50, Tryd.ntmps50
    go_wp2_with fail
    clear hcell hfrz
    go_loopg [4] (2 * unseen c.blocks.length (upd (fun _ => false) 0 true) + 1) (fun k v wr => ∃ (seen : Nat → Bool) (ws : List Nat), 2 * unseen c.blocks.length seen + ws.length ≤ k ∧ Work c seen ws (fun _ _ => False) ∧
        wr.rowIs (w.heap.size + 1) 4 c.blocks.length (fun j => .bool (seen j)) ∧ wr.ownsRow (w.heap.size + 2) 3 1 v ws.length (ws.map fun j : Nat => Value.int .i64 (j : Int)) ∧ w.heap.size + 2 ≤ wr.heap.size ∧ 2 * unseen c.blocks.length seen + ws.length ≤ 2 * c.blocks.length + 1 ∧
        Below (w.heap.size + 1) (w.alloc (.cells #[.string c.name, .int .i64 c.params, .int .i64 c.results, .int .i64 c.vars, .int .i64 c.slots, .slice a c.blocks.length cap] 28)) wr)
    case atStart =>
      refine ⟨upd (fun _ => false) 0 true, [0], by simp, Work.start (by omega), (Hrow.out.alloc _).congr (fun i hi => ?_), ?_, by simp, by have := unseen_le c.blocks.length (upd (fun _ => false) 0 true); simp; omega, (((Below.refl _ _).alloc (by simp) _).alloc (by simp) _)⟩
      · by_cases e : i = 0 <;> simp [upd, e]
      · have h1 := owns_lit ((w.alloc (.cells #[.string c.name, .int .i64 c.params, .int .i64 c.results, .int .i64 c.vars, .int .i64 c.slots, .slice a c.blocks.length cap] 28)).alloc (.cells ((madeCells #[.bool false] c.blocks.length).setIfInBounds 0 (.bool true)) 4)) (w.heap.size + 2) 3 #[.int .i64 0] 1 rfl (by decide) (by simp)
        simpa using h1
    case round =>
      obtain ⟨seen, ws, hk, hw, hrow, hown, hsz, hwl, hbel⟩ := hrel
      have hbw : Below w.heap.size w wr := ((Below.refl _ _).alloc (Nat.le_refl _) _).trans (hbel.mono (by omega))
      have hcw : rCode (fun _ => True) wr _ c := Good.keep (Keep.of_below' hbw (fun k hk _ => hk)) (fun _ _ _ => trivial) hc0
      have bx := fun j => hbel.cell (p := ⟨w.heap.size, j, none⟩) (by simp)
      simp at bx
      have bx0 := bx 0
      have bx1 := bx 1
      have bx2 := bx 2
      have bx3 := bx 3
      have bx4 := bx 4
      have bx5 := bx 5
      simp at bx0 bx1 bx2 bx3 bx4 bx5
      clear bx
      rcases List.eq_nil_or_concat ws with rfl | ⟨ws', i, rfl⟩
      · obtain ⟨av, cv, hv⟩ := ownsRow_slice hown
        simp only [List.length_nil] at hv
        subst hv
        have hl0 : ¬ (0 : Int) < ((0 : Nat) : Int) := by omega
        clear bx0 bx1 bx2 bx3 bx4 bx5 hown
        go_wp2_with fail
        go_ret
        exact ⟨w.heap.size + 1, rfl, by omega, hrow.congr (fun j hj => by rw [hw.done j]), hbw⟩
      · rw [List.concat_eq_append] at hk hw hown hwl
        have hi : seen i = true := hw.mem i (by simp)
        have hir := hw.live i hi
        have hil := hir.lt
        have hil1 : (i : Int) < (c.blocks.length : Int) := by omega
        rw [List.length_append, List.length_singleton] at hk hown hwl
        rw [List.map_append] at hown
        obtain ⟨g, cv, hv, hcv, hmv, hgv, hgs⟩ := ownsRow_pos hown
        subst hv
        obtain ⟨-, a', c', he, -, -, hcells⟩ := ownsRow_open hown
        simp only [Value.slice.injEq] at he
        obtain ⟨rfl, -, rfl⟩ := he
        obtain ⟨b', hb', -, -, hcx, -⟩ := hcells ws'.length (by omega)
        simp only [Option.some.injEq, Addr.mk.injEq, and_true] at hb'
        subst hb'
        have hcx1 : wr.cell? ⟨g, ws'.length, none⟩ = some (.int .i64 (i : Int)) := by rw [hcx]; simp
        have hpop := ownsRow_pop (xs := ws'.map fun j : Nat => Value.int .i64 (j : Int)) (last := [.int .i64 (i : Int)]) (by simp) hown
        have hpos : (0 : Int) < ((ws'.length + 1 : Nat) : Int) := by omega
        have hcv1 : ((ws'.length + 1 : Nat) : Int) ≤ (cv : Int) := by omega
        unfold maxLen at hmv
        clear hcells hcx hown
        go_wp2_with fail
        refine (leads_any c _ i _ hcw hil hf).mono ?_
        rintro e w1 ⟨v, rfl, hv, hb1⟩
        obtain ⟨al, capl, rfl, hll, -⟩ := ownsRow_ints hv
        have hrow1 := hrow.of_block (hb1.block _ hrow.lt)
        have hpop1 := ownsRow_block hpop (w' := w1) (fun k hk => hb1.block _ (hpop.lt k hk).2)
        have hbel1 := hbel.trans (hb1.mono (by omega))
        have hsep : ∀ p, (Value.slice al (leadsF c i).length capl).ownBlock = some p → (Value.slice (some (⟨g, 0, none⟩ : Addr)) ws'.length cv).ownBlock ≠ some p := fun p hp hq => by
          have := (hpop.lt p hq).2
          have := (hv.lt p hp).1
          omega
        have hv2 : w1.ownsRow (w.heap.size + 2) 3 1 (.slice al (leadsF c i).length capl) (leadsF c i).length ((leadsF c i).map (Value.int .i64)) := ownsRow_from hv hsz
        have hw1 : w.heap.size + 2 ≤ w1.heap.size := by have := hb1.size; omega
        have hwp := hw.pop
        clear hv hrow hbel hbw hcw bx0 bx1 bx2 bx3 bx4 bx5 hb1 hpop hw hcx1 hsz
        go_wp2_with fail
        go_loopw [4, 37] (fun v i' wr => ∃ (q : Nat) (seen : Nat → Bool) (ws : List Nat), q ≤ (leadsF c i).length ∧ i' = .int .i64 q ∧ 2 * unseen c.blocks.length seen + (ws.length + 1) ≤ gk ∧ 2 * unseen c.blocks.length seen + (ws.length + 1) ≤ 2 * c.blocks.length + 1 ∧
            Work c seen ws (fun j t => j = i ∧ ¬ (t : Int) ∈ (leadsF c i).take q) ∧ seen i = true ∧ wr.rowIs (w.heap.size + 1) 4 c.blocks.length (fun j => .bool (seen j)) ∧
            wr.ownsRow (w.heap.size + 2) 3 1 v ws.length (ws.map fun j : Nat => Value.int .i64 (j : Int)) ∧ w.heap.size + 2 ≤ wr.heap.size ∧
            wr.ownsRow (w.heap.size + 2) 3 1 (.slice al (leadsF c i).length capl) (leadsF c i).length ((leadsF c i).map (Value.int .i64)) ∧
            (∀ p, (Value.slice al (leadsF c i).length capl).ownBlock = some p → v.ownBlock ≠ some p) ∧
            Below (w.heap.size + 1) (w.alloc (.cells #[.string c.name, .int .i64 c.params, .int .i64 c.results, .int .i64 c.vars, .int .i64 c.slots, .slice a c.blocks.length cap] 28)) wr) (fun _ i' _ => (leadsF c i).length - (intOf i').toNat)
        case atStart => exact ⟨0, seen, ws', Nat.zero_le _, rfl, hk, hwl, hwp, hi, hrow1, hpop1, hw1, hv2, hsep, hbel1⟩
        case round =>
          clear hwp hi hrow1 hpop1 hw1 hv2 hsep hbel1 hk hwl hpos hcv hcv1 hgv hgs hmv
          obtain ⟨q, seen, ws, hq, rfl, hk, hwl, hw, hi, hrow, hown, hsz, hv, hsep, hbel⟩ := hrel
          by_cases hql : q < (leadsF c i).length
          · obtain ⟨-, al', capl', he, hcl, -, hvat⟩ := ownsRow_open hv
            simp only [Value.slice.injEq] at he
            obtain ⟨rfl, -, rfl⟩ := he
            obtain ⟨bl, rfl, -, hbl, hcx, -⟩ := hvat q hql
            have hql1 : (q : Int) < ((leadsF c i).length : Int) := by omega
            obtain ⟨hx0, hx1⟩ := leads_in c i _ (List.getElem_mem hql)
            obtain ⟨t0, ht0⟩ := Int.eq_ofNat_of_zero_le hx0
            have hcx1 : wr.cell? ⟨bl, q, none⟩ = some (.int .i64 (t0 : Int)) := by rw [hcx]; simp [hql, ht0]
            have ht1 : t0 < c.blocks.length := by omega
            have ht2 : (t0 : Int) < (c.blocks.length : Int) := by omega
            have hrc := hrow.cell ht1
            clear hcx hvat hx0 hx1
            cases hs : seen t0 with
            | true =>
              have Hw := Lib.hid (hw.old hql ht0 hs)
              rw [hs] at hrc
              clear hs hw
              go_wp2_with fail
              go_roundw
              case rel => exact ⟨q + 1, seen, ws, by omega, by go_num, hk, hwl, Hw.out, hi, hrow, hown, hsz, hv, hsep, hbel⟩
              case measure => simp [intOf]; omega
            | false =>
              have Hw := Lib.hid (hw.new hi hql ht0)
              have hun := unseen_upd ht1 hs
              have Hun := Lib.hid hun
              rw [hs] at hrc
              clear hs hw hun
              have hrow2 := hrow.set t0 (.bool true)
              have hown2 := ownsRow_block hown (w' := wr.setCell ⟨w.heap.size + 1, t0, none⟩ (.bool true)) (fun k hk => Below.heap_setCell _ _ _ _ (by have := (hown.lt k hk).1; simp; omega))
              have hv2 := ownsRow_block hv (w' := wr.setCell ⟨w.heap.size + 1, t0, none⟩ (.bool true)) (fun k hk => Below.heap_setCell _ _ _ _ (by have := (hv.lt k hk).1; simp; omega))
              have hbel2 := hbel.setCell (p := ⟨w.heap.size + 1, t0, none⟩) (Nat.le_refl _) (.bool true)
              have hfrz := hrow.frozen t0
              have hszs : (wr.setCell ⟨w.heap.size + 1, t0, none⟩ (.bool true)).heap.size = wr.heap.size := by simp [World.setCell]
              have Hsz := Lib.hid hszs
              clear hszs hown hv hbel hrow
              go_wp2_with (at_builtin; refine wpList_append_own_at _ rfl _ _ 23 rfl (w.heap.size + 2) 3 i0 (.int .i64 0) 1 8 Tryd.underlying23 hi0 hz0 hz1 hz2 rfl (by decide) _ _ _ rfl (hown2.alloc _) ⟨wr.heap.size, 0, none⟩ 1 1 [.int .i64 t0] rfl rfl ?c1 ?c2 ?c3 ?c4 ?c5 ?_)
              case c1 => exact cell_one_at _ _ _ (by simp)
              case c2 => intro u hu; simp at hu; subst hu; rfl
              case c3 => unfold maxLen; omega
              case c4 => omega
              case c5 => simp; omega
              intro v' w2 hown' hgrow _ hatv
              go_wp2_with fail
              go_roundw
              case rel =>
                have hbb := append_below hown2 hgrow (by rw [Hsz.out]; exact hsz)
                refine ⟨q + 1, upd seen t0 true, ws ++ [t0], by omega, by go_num, by have := Hun.out; simp; omega, by have := Hun.out; simp; omega, Hw.out, ?_, (hrow2.of_block (hbb.block _ (by omega))).congr (fun j _ => by unfold upd; split <;> rfl), by simpa using hown', by have := hbb.size; rw [Hsz.out] at this; omega,
                  ownsRow_block hv2 (fun k hk => grown_other hgrow (hv2.lt k hk).2 (hsep k hk)), fun p hp => ?_, hbel2.trans (hbb.mono (by omega))⟩
                · by_cases e : i = t0
                  · subst e; simp [upd]
                  · rw [upd_other _ _ e]; exact hi
                · rcases hatv with h1 | h1
                  · rw [h1]; exact hsep p hp
                  · rw [h1]
                    intro h2
                    have := (hv2.lt p hp).2
                    rw [Hsz.out] at this
                    simp at h2
                    omega
              case measure => simp [intOf]; omega
          · have hqe : q = (leadsF c i).length := by omega
            subst hqe
            go_wp2_with fail
            go_roundg (2 * unseen c.blocks.length seen + ws.length)
            case measure => omega
            case rel => exact ⟨seen, ws, Nat.le_refl _, hw.whole, hrow, hown, hsz, by omega, hbel⟩
end Go.Proofs.YthgfdcoicihpdaaDoor

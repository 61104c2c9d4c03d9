/-
  ssa.leads: the contract, and the readings of package api's types at this program's numbers.
-/
import Derived.Test.YthgfdcoicihpdaaDoorRows
import Derived.Test.YthgfdcoicihpdaaDoorData
import Derived.Test.YthgfdcoicihpdaaDoorReach
namespace Go.Proofs.YthgfdcoicihpdaaDoor
open Go.RowKit Go.Pst
set_option linter.unusedVariables false

theorem Tryd.info_int : (Tryd.prog.info? 3).map (fun i => (i.zero, i.size, i.bytes)) = some (some (.int .i64 0), 1, 8) := by kernel_rfl

theorem filter_snoc_yes {α : Type} {p : α → Bool} {l : List α} {k : Nat} (h : k < l.length) (hp : p l[k] = true) : (l.take (k + 1)).filter p = (l.take k).filter p ++ [l[k]] := by
  rw [List.take_succ_eq_append_getElem h, List.filter_append, List.filter_cons_of_pos hp]; rfl
theorem filter_snoc_no {α : Type} {p : α → Bool} {l : List α} {k : Nat} (h : k < l.length) (hp : ¬ p l[k] = true) : (l.take (k + 1)).filter p = (l.take k).filter p := by
  rw [List.take_succ_eq_append_getElem h, List.filter_append, List.filter_cons_of_neg hp]; simp

/-- What the round carries: an owned row that holds what was filtered so far. -/
def LeadsRel (B n : Nat) (l : List Int) (k : Nat) (out : Value) (wr : World) : Prop :=
  wr.ownsRow B 3 1 out ((l.take k).filter (inB n)).length (((l.take k).filter (inB n)).map (Value.int .i64))
theorem LeadsRel.yes {B n : Nat} {l : List Int} {k : Nat} {out : Value} {wr : World} (h : k < l.length) (hp : inB n l[k] = true)
    (hw : wr.ownsRow B 3 1 out (((l.take k).filter (inB n)).length + 1) (((l.take k).filter (inB n)).map (Value.int .i64) ++ [.int .i64 l[k]])) : LeadsRel B n l (k + 1) out wr := by
  unfold LeadsRel
  rw [filter_snoc_yes h hp]
  simpa using hw
theorem LeadsRel.no {B n : Nat} {l : List Int} {k : Nat} {out : Value} {wr : World} (h : k < l.length) (hp : ¬ inB n l[k] = true) (hw : LeadsRel B n l k out wr) : LeadsRel B n l (k + 1) out wr := by
  unfold LeadsRel
  rw [filter_snoc_no h hp]
  exact hw

set_option maxHeartbeats 1000000 in
theorem leads_core (nm : ByteArray) (p r va sl : Int) (b off n cap i b2 off2 L cap2 : Nat) (a3 : Option Addr) (l : List Int) (cap3 : Nat) (w : World)
    (hi1 : (i : Int) < (n : Int)) (hb : b < w.heap.size) (hcell : w.cell? ⟨b, off + i, none⟩ = some (.slice (some ⟨b2, off2, none⟩) L cap2)) (hmax : n ≤ 9223372036854775807)
    (hn1 : (0 : Int) < (L : Int)) (hne : ((L : Int) == 0) = false) (hmax2 : L ≤ 9223372036854775807) (hb2 : b2 < w.heap.size) (hto : w.cell? ⟨b2, off2 + (L - 1) * 6 + 5, none⟩ = some (.slice a3 l.length cap3))
    (hl : l.length * 8 ≤ 140737488351232)
    (hat : ∀ k (h : k < l.length), ∃ b off, a3 = some ⟨b, off, none⟩ ∧ b < w.heap.size ∧ w.cell? ⟨b, off + k, none⟩ = some (.int .i64 l[k])) :
    Calls Tryd.prog 31 #[.agg #[.string nm, .int .i64 p, .int .i64 r, .int .i64 va, .int .i64 sl, .slice (some ⟨b, off, none⟩) n cap], .int .i64 i] w fun e w' =>
      ∃ v, e = .returned v ∧ LeadsRel (w.heap.size + 1) n l l.length v w' ∧ Below w.heap.size w w' := by
  obtain ⟨i0, hi0, hz0, hz1, hz2⟩ := info_parts Tryd.info_int
  go_enter Tryd.func31, Tryd.ntmps31
  go_wp2
  go_loopw [6, 25] (fun out i wr => ∃ k : Nat, k ≤ l.length ∧ i = .int .i64 k ∧ LeadsRel (w.heap.size + 1) n l k out wr ∧ Below w.heap.size w wr ∧ wr.cell? ⟨w.heap.size, 5, none⟩ = some (.slice (some ⟨b, off, none⟩) n cap) ∧ w.heap.size + 1 ≤ wr.heap.size) (fun _ i _ => l.length - (intOf i).toNat)
  case atStart => exact ⟨0, Nat.zero_le _, rfl, World.ownsRow_nil _ _ _ _, (Below.refl _ _).alloc (Nat.le_refl _) _, by simp, by simp⟩
  case round =>
    obtain ⟨k, hk, rfl, hown, hbel, hbox, hsz⟩ := hrel
    by_cases hlt : k < l.length
    · obtain ⟨b3, off3, rfl, hb3, hc3⟩ := hat k hlt
      have hlt1 : (k : Int) < (l.length : Int) := by omega
      have hcx : wr.cell? ⟨b3, off3 + k, none⟩ = some (.int .i64 l[k]) := by rw [hbel.cell (p := ⟨b3, off3 + k, none⟩) hb3]; exact hc3
      have hyes := fun out wr => @LeadsRel.yes (w.heap.size + 1) n l k out wr hlt
      have hno := fun out wr => @LeadsRel.no (w.heap.size + 1) n l k out wr hlt
      have hfl : ((l.take k).filter (inB n)).length ≤ k := Nat.le_trans (List.length_filter_le _ _) (List.length_take_le _ _)
      generalize l[k] = x at *
      have hnn : x < 0 → ¬ inB n x = true := fun h => by simp [inB]; omega
      have hnn2 : (n : Int) ≤ x → ¬ inB n x = true := fun h => by simp [inB]; omega
      have hyy : 0 ≤ x → x < (n : Int) → inB n x = true := fun h h' => by simp [inB]; omega
      by_cases hx0 : 0 ≤ x
      · by_cases hx1 : x < (n : Int)
        · have Hyes := Lib.hid (fun out wr => hyes out wr (hyy hx0 hx1))
          clear hyes hno hnn hnn2 hyy hat hcell hto hc3
          unfold LeadsRel at hown
          generalize (l.take k).filter (inB n) = ys at *
          go_wp2_with (at_builtin; refine wpList_append_own _ rfl _ _ 23 rfl (w.heap.size + 1) 3 i0 (.int .i64 0) 1 8 Tryd.underlying23 hi0 hz0 hz1 hz2 rfl (by decide) _ _ _ rfl (hown.alloc _) ⟨wr.heap.size, 0, none⟩ 1 1 [.int .i64 x] rfl rfl ?c1 ?c2 ?c3 ?c4 ?c5 ?_)
          case c1 => exact (cell_one_new _ _ _)
          case c2 => intro u hu; simp at hu; subst hu; rfl
          case c3 => unfold maxLen; omega
          case c4 => omega
          case c5 => simp; omega
          intro v' w1 hown' hgrow _
          go_wp2
          go_roundw
          case rel =>
            have hb1 := append_below hown hgrow hsz
            exact ⟨k + 1, by omega, by go_num, Hyes.out _ _ hown', hbel.trans (hb1.mono (by omega)), by rw [hb1.cell (by simp)]; exact hbox, by have := hb1.size; omega⟩
          case measure => simp [intOf]; omega
        · have Hno := Lib.hid (fun out wr => hno out wr (hnn2 (by omega)))
          clear hyes hno hnn hnn2 hyy hat hcell hto hc3
          go_wp2
          go_roundw
          case rel => exact ⟨k + 1, by omega, by go_num, Hno.out _ _ hown, hbel, hbox, hsz⟩
          case measure => simp [intOf]; omega
      · have Hno := Lib.hid (fun out wr => hno out wr (hnn (by omega)))
        clear hyes hno hnn hnn2 hyy hat hcell hto hc3
        have hdec : decide (0 ≤ x) = false := by simpa using hx0
        go_wp2
        go_roundw
        case rel => exact ⟨k + 1, by omega, by go_num, Hno.out _ _ hown, hbel, hbox, hsz⟩
        case measure => simp [intOf]; omega
    · have hke : k = l.length := by omega
      go_wp2
      go_ret
      exact ⟨_, rfl, by rw [← hke]; exact hown, hbel⟩

/-- A block without instructions leads nowhere. -/
theorem leads_none (nm : ByteArray) (p r va sl : Int) (b off n cap i : Nat) (a2 : Option Addr) (cap2 : Nat) (w : World)
    (hi1 : (i : Int) < (n : Int)) (hb : b < w.heap.size) (hcell : w.cell? ⟨b, off + i, none⟩ = some (.slice a2 0 cap2)) (hmax : n ≤ 9223372036854775807) :
    Calls Tryd.prog 31 #[.agg #[.string nm, .int .i64 p, .int .i64 r, .int .i64 va, .int .i64 sl, .slice (some ⟨b, off, none⟩) n cap], .int .i64 i] w fun e w' =>
      e = .returned (.slice none 0 0) ∧ Below w.heap.size w w' := by
  go_enter Tryd.func31, Tryd.ntmps31
  go_wp2
  go_ret
  exact ⟨rfl, (Below.refl _ _).alloc (Nat.le_refl _) _⟩

theorem leads_any (c : PCode) (cs : List Value) (i : Nat) (w : World) (hc : rCode (fun _ => True) w cs c) (hi : i < c.blocks.length) (hf : FitCode c) :
    Calls Tryd.prog 31 #[.agg cs.toArray, .int .i64 i] w fun e w' => ∃ v, e = .returned v ∧ w'.ownsRow w.heap.size 3 1 v (leadsF c i).length ((leadsF c i).map (Value.int .i64)) ∧ Below w.heap.size w w' := by
  obtain ⟨v5, rfl, hI, hbs⟩ := hc
  obtain ⟨a, cap, rfl, hcap, hmax, hat⟩ := rSlice_one hbs
  obtain ⟨b, off, u, rfl, -, hb, hcell, hu⟩ := hat i hi
  obtain ⟨a2, cap2, rfl, hcap2, hmax2, hat2⟩ := rBlock_val hu
  unfold maxLen at hmax hmax2
  have hmem := List.getElem_mem hi
  have hl := leadsF_at hi
  rw [hl]
  have hfi := hf.2 _ hmem
  generalize c.blocks[i] = bl at *
  clear hl hbs hu hat hmem
  by_cases hn : bl = []
  · subst hn
    refine (leads_none _ _ _ _ _ b off _ cap i a2 cap2 w (by omega) hb hcell (by omega)).mono ?_
    rintro e w' ⟨rfl, hbel⟩
    exact ⟨_, rfl, World.ownsRow_nil _ _ _ _, hbel⟩
  · have hpos := List.length_pos_iff.2 hn
    obtain ⟨b2, off2, v1, v2, v6, rfl, -, hb2, -, -, -, -, -, hto, -, -, -, rto⟩ := hat2 (bl.length - 1) (by omega)
    obtain ⟨a3, cap3, rfl, hcap3, hmax3, hat3⟩ := rInts_val rto
    have hlast : bl.getLast? = some bl[bl.length - 1] := by rw [List.getLast?_eq_getElem?]; simp
    rw [hlast]
    have hff := hfi.2 _ (List.getElem_mem (show bl.length - 1 < bl.length by omega))
    generalize bl[bl.length - 1] = x at *
    refine (leads_core _ _ _ _ _ b off _ cap i b2 off2 bl.length cap2 a3 x.to cap3 w (by omega) hb hcell (by omega) (by omega) (by simp; omega) (by omega) hb2 hto hff.2.2
      (fun k hk => by obtain ⟨b, off, h1, _, h2, h3, _⟩ := hat3 k hk; exact ⟨b, off, h1, h2, h3⟩)).mono ?_
    rintro e w' ⟨v, rfl, hrel, hbel⟩
    refine ⟨v, rfl, ?_, hbel⟩
    unfold LeadsRel at hrel
    rw [List.take_length] at hrel
    exact ownsRow_from hrel (by omega)
end Go.Proofs.YthgfdcoicihpdaaDoor

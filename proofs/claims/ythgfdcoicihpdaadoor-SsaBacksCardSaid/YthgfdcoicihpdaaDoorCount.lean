/-
  ssa.count and posternlaw.little, walked: how many instructions.
-/
import Derived.Test.YthgfdcoicihpdaaDoorBackPQS
import Derived.Test.YthgfdcoicihpdaaDoorLeads
namespace Go.Proofs.YthgfdcoicihpdaaDoor
open Go.RowKit Go.Pst
set_option linter.unusedVariables false
set_option linter.unusedSimpArgs false

theorem sumLen_take : ∀ {l : List (List PInstr)} {i : Nat} (h : i < l.length), sumLen (l.take (i + 1)) = sumLen (l.take i) + l[i].length
  | [], i, h => absurd h (by simp)
  | x :: r, 0, h => by simp [sumLen]
  | x :: r, i + 1, h => by
    have := sumLen_take (l := r) (i := i) (by simpa using h)
    rw [List.take_succ_cons, List.take_succ_cons, sumLen, sumLen, this, List.getElem_cons_succ]
    omega
theorem sumLen_take_le : ∀ (l : List (List PInstr)) (i : Nat), sumLen (l.take i) ≤ sumLen l
  | [], i => by simp
  | x :: r, 0 => by simp [sumLen]
  | x :: r, i + 1 => by
    have := sumLen_take_le r i
    rw [List.take_succ_cons, sumLen, sumLen]
    omega
set_option maxRecDepth 100000 in
theorem count_any (c : PCode) (cs : List Value) (w : World) (hc : rCode (fun _ => True) w cs c) (hs : sumLen c.blocks ≤ 1000000000) (hn : c.blocks.length ≤ 1000000000) :
    Calls Tryd.prog 14 #[.agg cs.toArray] w fun e w' => e = .returned (.int .i64 (sumLen c.blocks)) ∧ Below w.heap.size w w' := by
  obtain ⟨v5, rfl, hI, hbs⟩ := hc
  obtain ⟨a, cap, rfl, hcap, hmax, hat⟩ := rSlice_one hbs
  have Hat := Lib.hid hat
  clear hI hat hbs hcap hmax
  go_enter Tryd.func14, Tryd.ntmps14
  go_wp2_with fail
  generalize hW : w.alloc (.cells #[.string c.name, .int .i64 c.params, .int .i64 c.results, .int .i64 c.vars, .int .i64 c.slots, .slice a c.blocks.length cap] 28) = W
  have hb : Below w.heap.size w W := by rw [← hW]; exact (Below.refl _ _).alloc (Nat.le_refl _) _
  clear hW
  go_loop [3, 9] (fun nv iv => ∃ i : Nat, i ≤ c.blocks.length ∧ iv = .int .i64 i ∧ nv = .int .i64 (sumLen (c.blocks.take i) : Nat)) (fun _ iv => c.blocks.length - (intOf iv).toNat)
  case atStart => exact ⟨0, Nat.zero_le _, rfl, by simp [sumLen]⟩
  case round =>
    obtain ⟨i, hi, rfl, rfl⟩ := hrel
    by_cases hil : i < c.blocks.length
    · have hil1 : (i : Int) < (c.blocks.length : Int) := by omega
      obtain ⟨b, off, u, rfl, -, hbl, hcell, hu⟩ := Hat.out i hil
      obtain ⟨a2, cap2, rfl⟩ := rSlice_shape hu
      have hcx : W.cell? ⟨b, off + i, none⟩ = some (.slice a2 c.blocks[i].length cap2) := (hb.cell (p := ⟨b, off + i, none⟩) hbl).trans hcell
      have ht := sumLen_take hil
      have ht2 := sumLen_take_le c.blocks (i + 1)
      obtain ⟨n, hn2⟩ : ∃ n, n = c.blocks[i].length := ⟨_, rfl⟩
      obtain ⟨m, hm⟩ : ∃ m, m = sumLen (c.blocks.take i) := ⟨_, rfl⟩
      rw [← hn2] at hcx ht
      rw [← hm] at ht ⊢
      have Ht := Lib.hid ht
      clear hcell hu hn2 hm ht
      go_wp2_with fail
      go_round
      case rel => exact ⟨i + 1, by omega, by go_num, by rw [Ht.out]; have := Ht.out; exact congrArg _ ((IntWalk.wrap64_in _ ⟨by omega, by omega⟩).trans (by simp))⟩
      all_goals (simp [intOf]; omega)
    · obtain rfl : i = c.blocks.length := by omega
      go_wp2_with fail
      go_ret
      exact ⟨rfl, hb⟩
set_option maxRecDepth 100000 in
theorem little_any (c : PCode) (cs : List Value) (w : World) (hc : rCode (fun _ => True) w cs c) (hs : sumLen c.blocks ≤ 1000000000) (hn : c.blocks.length ≤ 1000000000) :
    Calls Tryd.prog 6 #[.agg cs.toArray] w fun e w' => e = .returned (.bool (decide (c.blocks.length ≤ 20) && (decide (c.vars ≤ 40) && decide (sumLen c.blocks ≤ 100)))) ∧ Below w.heap.size w w' := by
  obtain ⟨v5, rfl, hI, hbs⟩ := hc
  obtain ⟨a, cap, rfl, hcap, hmax, hat⟩ := rSlice_one hbs
  have Hat := Lib.hid hat
  clear hI hat hbs hcap hmax
  go_enter Tryd.func6, Tryd.ntmps6
  go_wp2_with fail
  generalize hW : w.alloc (.cells #[.string c.name, .int .i64 c.params, .int .i64 c.results, .int .i64 c.vars, .int .i64 c.slots, .slice a c.blocks.length cap] 28) = W
  have hb : Below w.heap.size w W := by rw [← hW]; exact (Below.refl _ _).alloc (Nat.le_refl _) _
  have c5 : W.cell? ⟨w.heap.size, 5, none⟩ = some (.slice a c.blocks.length cap) := by rw [← hW]; have h := heap_alloc_new w (.cells #[.string c.name, .int .i64 c.params, .int .i64 c.results, .int .i64 c.vars, .int .i64 c.slots, .slice a c.blocks.length cap] 28); unfold World.cell?; rw [h]; rfl
  have c3 : W.cell? ⟨w.heap.size, 3, none⟩ = some (.int .i64 c.vars) := by rw [← hW]; have h := heap_alloc_new w (.cells #[.string c.name, .int .i64 c.params, .int .i64 c.results, .int .i64 c.vars, .int .i64 c.slots, .slice a c.blocks.length cap] 28); unfold World.cell?; rw [h]; rfl
  clear hW
  go_loop [3, 4] (fun nv iv => ∃ i : Nat, i ≤ c.blocks.length ∧ iv = .int .i64 i ∧ nv = .int .i64 (sumLen (c.blocks.take i) : Nat)) (fun _ iv => c.blocks.length - (intOf iv).toNat)
  case atStart => exact ⟨0, Nat.zero_le _, rfl, by simp [sumLen]⟩
  case round =>
    obtain ⟨i, hi, rfl, rfl⟩ := hrel
    by_cases hil : i < c.blocks.length
    · have hil1 : (i : Int) < (c.blocks.length : Int) := by omega
      obtain ⟨b, off, u, rfl, -, hbl, hcell, hu⟩ := Hat.out i hil
      obtain ⟨a2, cap2, rfl⟩ := rSlice_shape hu
      have hcx : W.cell? ⟨b, off + i, none⟩ = some (.slice a2 c.blocks[i].length cap2) := (hb.cell (p := ⟨b, off + i, none⟩) hbl).trans hcell
      have ht := sumLen_take hil
      have ht2 := sumLen_take_le c.blocks (i + 1)
      obtain ⟨n, hn2⟩ : ∃ n, n = c.blocks[i].length := ⟨_, rfl⟩
      obtain ⟨m, hm⟩ : ∃ m, m = sumLen (c.blocks.take i) := ⟨_, rfl⟩
      rw [← hn2] at hcx ht
      rw [← hm] at ht ⊢
      have Ht := Lib.hid ht
      clear hcell hu hn2 hm ht
      go_wp2_with fail
      go_round
      case rel => exact ⟨i + 1, by omega, by go_num, by rw [Ht.out]; have := Ht.out; exact congrArg _ ((IntWalk.wrap64_in _ ⟨by omega, by omega⟩).trans (by simp))⟩
      all_goals (simp [intOf]; omega)
    · obtain rfl : i = c.blocks.length := by omega
      rw [List.take_length]
      by_cases e1 : c.blocks.length ≤ 20
      · have e1' : (c.blocks.length : Int) ≤ 20 := by omega
        by_cases e2 : c.vars ≤ 40
        · by_cases e3 : sumLen c.blocks ≤ 100
          · have e3' : (sumLen c.blocks : Int) ≤ 100 := by omega
            go_wp2_with fail
            go_ret
            exact ⟨by simp [e1, e2, e3], hb⟩
          · have e3' : ¬ (sumLen c.blocks : Int) ≤ 100 := by omega
            go_wp2_with fail
            go_ret
            exact ⟨by simp [e1, e2, e3], hb⟩
        · go_wp2_with fail
          go_ret
          exact ⟨by simp [e1, e2]; intro h; omega, hb⟩
      · have e1' : ¬ (c.blocks.length : Int) ≤ 20 := by omega
        go_wp2_with fail
        go_ret
        exact ⟨by simp [e1], hb⟩
end Go.Proofs.YthgfdcoicihpdaaDoor

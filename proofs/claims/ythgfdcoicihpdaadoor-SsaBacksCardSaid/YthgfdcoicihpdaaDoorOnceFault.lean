/-
  posternref.OnceFault: the contract.
-/
import Derived.Test.YthgfdcoicihpdaaDoorOnceCheck
import Derived.Test.YthgfdcoicihpdaaDoorOnceKnown
import Derived.Test.YthgfdcoicihpdaaDoorCodeFault
import Derived.Test.YthgfdcoicihpdaaDoorTail
import Derived.Laws.EntriesVeiled
namespace Go.Proofs.YthgfdcoicihpdaaDoor
open Go.RowKit Go.Pst
set_option linter.unusedVariables false
set_option linter.unusedSimpArgs false

set_option maxRecDepth 100000 in
set_option maxHeartbeats 16000000 in
theorem onceFault_any (fs : List PCode) (D : List Int) (p0 p1 : Value) (c : PCode) (cs : List Value) (w : World) (hp : rCodes (fun _ => True) w [p0] fs) (hd : rInts (fun _ => True) w [p1] D) (hc : rCode (fun _ => True) w cs c) (hf : FitCode c) :
    Calls Tryd.prog 5 #[.agg #[p0, p1], .agg cs.toArray] w fun e w' => e = .returned (.int .i64 (onceF fs c (rowOf (aheadF c)) (rowOf (aboveF c)))) ∧ Below w.heap.size w w' := by
  obtain ⟨i0, hi0, hz0, hz1, hz2⟩ := info_parts Tryd.info_blk
  have hc0 := hc
  obtain ⟨v5, rfl, hI, hbs⟩ := hc
  obtain ⟨a, cap, rfl, hcap, hmax, hat⟩ := rSlice_one hbs
  unfold maxLen at hmax
  have hnb : c.blocks.length ≤ 9223372036854775807 := by omega
  have hfit := hf.1
  unfold reachBytes at hfit
  obtain ⟨sp0, sn0, rfl⟩ := rSlice_shape hp
  obtain ⟨sp1, sn1, rfl⟩ := rSlice_shape hd
  have Hat := Lib.hid hat
  have Hc := Lib.hid hc0
  have HI := Lib.hid hI
  have Hp := Lib.hid hp
  clear hbs hat hI hc0 hcap hmax hp hd
  go_enter Tryd.func5, Tryd.ntmps5
  go_wp2_with fail
  generalize hW0 : (w.alloc (.cells #[.slice sp0 fs.length sn0, .slice sp1 D.length sn1] 25)).alloc (.cells #[.string c.name, .int .i64 c.params, .int .i64 c.results, .int .i64 c.vars, .int .i64 c.slots, .slice a c.blocks.length cap] 28) = W0
  have hs0 : W0.heap.size = w.heap.size + 1 + 1 := by rw [← hW0]; simp
  have hb0 : Below w.heap.size w W0 := by rw [← hW0]; exact below_box2 _ _ _
  have bp : ∀ j, W0.cell? ⟨w.heap.size, j, none⟩ = (#[.slice sp0 fs.length sn0, .slice sp1 D.length sn1] : Array Value)[j]? := fun j => by rw [← hW0, box2_1]
  have bc : ∀ j, W0.cell? ⟨w.heap.size + 1, j, none⟩ = (#[.string c.name, .int .i64 c.params, .int .i64 c.results, .int .i64 c.vars, .int .i64 c.slots, .slice a c.blocks.length cap] : Array Value)[j]? := fun j => by rw [← hW0, box2_2]
  have Hs0 := Lib.hid hs0
  have Hb0 := Lib.hid hb0
  -- what lies in the two boxes, as long as nothing below W0's end is written
  have Hbox := Lib.hid (show ∀ w', Below (w.heap.size + 1 + 1) W0 w' → (w'.cell? ⟨w.heap.size, 0, none⟩ = some (.slice sp0 fs.length sn0) ∧ w'.cell? ⟨w.heap.size, 1, none⟩ = some (.slice sp1 D.length sn1)) ∧ (w'.cell? ⟨w.heap.size + 1, 0, none⟩ = some (.string c.name) ∧ w'.cell? ⟨w.heap.size + 1, 1, none⟩ = some (.int .i64 c.params) ∧ w'.cell? ⟨w.heap.size + 1, 2, none⟩ = some (.int .i64 c.results) ∧ w'.cell? ⟨w.heap.size + 1, 3, none⟩ = some (.int .i64 c.vars) ∧ w'.cell? ⟨w.heap.size + 1, 4, none⟩ = some (.int .i64 c.slots) ∧ w'.cell? ⟨w.heap.size + 1, 5, none⟩ = some (.slice a c.blocks.length cap)) from by
    intro w' h
    have h1 := fun j => (h.cell (p := ⟨w.heap.size, j, none⟩) (by show w.heap.size < _; omega)).trans (bp j)
    have h2 := fun j => (h.cell (p := ⟨w.heap.size + 1, j, none⟩) (by show w.heap.size + 1 < _; omega)).trans (bc j)
    exact ⟨⟨h1 0, h1 1⟩, h2 0, h2 1, h2 2, h2 3, h2 4, h2 5⟩)
  have hat0 : BareAt c w [] 0 := ⟨rfl, fun i _ h => absurd h (by omega)⟩
  have hh0 : (W0.alloc (.cells #[.string c.name, .int .i64 c.params, .int .i64 c.results, .int .i64 c.vars, .int .i64 c.slots, .slice none 0 0] 28)).heap[w.heap.size + 1 + 1]? = some (.cells #[.string c.name, .int .i64 c.params, .int .i64 c.results, .int .i64 c.vars, .int .i64 c.slots, .slice none 0 0] 28) := by rw [← hs0]; exact heap_alloc_new _ _
  have hbl0 : Below (w.heap.size + 1 + 1) W0 (W0.alloc (.cells #[.string c.name, .int .i64 c.params, .int .i64 c.results, .int .i64 c.vars, .int .i64 c.slots, .slice none 0 0] 28)) := (Below.refl _ _).alloc (by omega) _
  clear hW0 hs0 hb0 bp bc
  go_loopw [6] (fun i wr => ∃ (n : Nat) (xs : List Value) (v : Value), n ≤ c.blocks.length ∧ i = .int .i64 n ∧ wr.ownsRow (w.heap.size + 1 + 1 + 1) 38 1 v n xs ∧ BareAt c w xs n ∧
      wr.heap[w.heap.size + 1 + 1]? = some (.cells #[.string c.name, .int .i64 c.params, .int .i64 c.results, .int .i64 c.vars, .int .i64 c.slots, v] 28) ∧ Below (w.heap.size + 1 + 1) W0 wr) (fun i _ => c.blocks.length - (intOf i).toNat)
  case atStart => exact ⟨0, [], .slice none 0 0, Nat.zero_le _, rfl, World.ownsRow_nil _ _ _ _, hat0, hh0, hbl0⟩
  case round =>
    clear hat0 hh0 hbl0
    obtain ⟨n, xs, v, hn, rfl, hown, hba, hh, hbel⟩ := hrel
    obtain ⟨av, cv, rfl⟩ := ownsRow_slice hown
    have c5 : wr.cell? ⟨w.heap.size + 1 + 1, 5, none⟩ = some (.slice av n cv) := by simp [World.cell?, hh]
    have f5 : wr.frozen? ⟨w.heap.size + 1 + 1, 5, none⟩ = false := by simp [World.frozen?, hh]
    have hlt := (Array.getElem?_eq_some_iff.1 hh).1
    have bc5 := (Hbox.out _ hbel).2.2.2.2.2.2
    by_cases hnl : n < c.blocks.length
    · have hnl1 : (n : Int) < (c.blocks.length : Int) := by omega
      have hbw : Below w.heap.size w wr := Hb0.out.trans (hbel.mono (by omega))
      obtain ⟨b, off, u, rfl, -, hb, hcell, hu⟩ := Hat.out n hnl
      obtain ⟨a2, cap2, rfl, hcap2, hmax2, -⟩ := rBlock_val hu
      have hcx : wr.cell? ⟨b, off + n, none⟩ = some (.slice a2 c.blocks[n].length cap2) := (hbw.cell (p := ⟨b, off + n, none⟩) hb).trans hcell
      have hub : rBlock (fun _ => True) wr [.slice a2 c.blocks[n].length cap2] c.blocks[n] := Good.kept (Keep.of_below' hbw (fun k hk _ => hk)) hu
      have hle := phisN_le c.blocks[n]
      have hdrop := rSlice_drop hu hle
      have hsl := run_drop (P := Tryd.prog) Tryd.underlying38 Tryd.size_instr a2 c.blocks[n].length cap2 (phisN c.blocks[n]) hle
      obtain ⟨a3, ha3⟩ : ∃ a3, a3 = (if cap2 = phisN c.blocks[n] then a2 else a2.map (·.add (phisN c.blocks[n] * 6))) := ⟨_, rfl⟩
      rw [← ha3] at hsl hdrop
      have Hown := Lib.hid hown
      have Hba := Lib.hid hba
      have Hhh := Lib.hid hh
      have Hdrop := Lib.hid hdrop
      have Hub := Lib.hid hub
      have hphis := fun (w' : World) (h : Keep (fun _ => True) wr w') => phisOf_any c.blocks[n] _ w' (Good.kept h Hub.out)
      have Hph := Lib.hid hphis
      have hlt1 : w.heap.size + 1 + 1 + 1 ≤ wr.heap.size := hlt
      have n1 : some (w.heap.size + 1 + 1) ≠ (Value.slice av n cv).ownBlock := fun e => by have := (hown.lt _ e.symm).1; omega
      have hfz : ∀ o, (wr.alloc o).drew.frozen? ⟨w.heap.size + 1 + 1, 5, none⟩ = false := fun o => (World.frozen?_of_block (w := wr) (Below.heap_alloc _ _ _ hlt)).trans f5
      clear hown hba hh hcell hu ha3 hdrop hub hphis hbw hcap2 hmax2
      generalize hbl : c.blocks[n] = bl at *
      go_wp2_with fail
      have l1 : w.heap.size + 1 < wr.heap.size := by omega
      have l2 : b < wr.heap.size := by omega
      have hcl : ∀ (o : Obj) (b j : Nat), b < wr.heap.size → (wr.alloc o).drew.cell? ⟨b, j, none⟩ = wr.cell? ⟨b, j, none⟩ := fun o b j h => World.cell?_alloc_lt _ _ _ h
      have n2 : some (w.heap.size + 1) ≠ (Value.slice av n cv).ownBlock := fun e => by have := (Hown.out.lt _ e.symm).1; omega
      have n3 : some b ≠ (Value.slice av n cv).ownBlock := fun e => by have := (Hown.out.lt _ e.symm).1; omega
      refine WpT.start (fun w' => w'.cell? ⟨w.heap.size + 1 + 1, 5, none⟩ = some (.slice av n cv) ∧ w'.cell? ⟨w.heap.size + 1, 5, none⟩ = some (.slice (some ⟨b, off, none⟩) c.blocks.length cap) ∧ w'.cell? ⟨b, off + n, none⟩ = some (.slice a2 bl.length cap2)) 17 (by kernel_rfl) ?_
      have hS0 : wr.drew.cell? ⟨w.heap.size + 1 + 1, 5, none⟩ = some (.slice av n cv) ∧ wr.drew.cell? ⟨w.heap.size + 1, 5, none⟩ = some (.slice (some ⟨b, off, none⟩) c.blocks.length cap) ∧ wr.drew.cell? ⟨b, off + n, none⟩ = some (.slice a2 bl.length cap2) := ⟨c5, bc5, hcx⟩
      have hS1 : (wr.alloc (.cells #[.slice a3 (bl.length - phisN bl) (cap2 - phisN bl)] 38)).drew.cell? ⟨w.heap.size + 1 + 1, 5, none⟩ = some (.slice av n cv) ∧ (wr.alloc (.cells #[.slice a3 (bl.length - phisN bl) (cap2 - phisN bl)] 38)).drew.cell? ⟨w.heap.size + 1, 5, none⟩ = some (.slice (some ⟨b, off, none⟩) c.blocks.length cap) ∧ (wr.alloc (.cells #[.slice a3 (bl.length - phisN bl) (cap2 - phisN bl)] 38)).drew.cell? ⟨b, off + n, none⟩ = some (.slice a2 bl.length cap2) := ⟨(hcl _ _ _ hlt).trans c5, (hcl _ _ _ l1).trans bc5, (hcl _ _ _ l2).trans hcx⟩
      refine WpT.take (i := 0) (v := ?_) rfl (by kernel_rfl) (by kernel_rfl) (by kernel_rfl) (by kernel_rfl) (fun _ _ _ h => h) (Or.inl ⟨by rfl, ?_⟩) hS0 ?_
      rotate_left
      · intro wS hSw; (try dsimp only at hSw); go_simp; (first | done | with_reducible rfl)
      try simp only [Act.put, List.setIfInBounds_toArray, List.set_cons_zero, List.set_cons_succ]
      refine WpT.take (i := 1) (v := ?_) rfl (by kernel_rfl) (by kernel_rfl) (by kernel_rfl) (by kernel_rfl) (fun _ _ _ h => h) (Or.inl ⟨by rfl, ?_⟩) hS0 ?_
      rotate_left
      · intro wS hSw; (try dsimp only at hSw); go_simp; (first | done | with_reducible rfl)
      try simp only [Act.put, List.setIfInBounds_toArray, List.set_cons_zero, List.set_cons_succ]
      refine WpT.take (i := 2) (v := ?_) rfl (by kernel_rfl) (by kernel_rfl) (by kernel_rfl) (by kernel_rfl) (fun _ _ _ h => h) (Or.inl ⟨by rfl, ?_⟩) hS0 ?_
      rotate_left
      · intro wS hSw; (try dsimp only at hSw); go_simp; (first | done | with_reducible rfl)
      try simp only [Act.put, List.setIfInBounds_toArray, List.set_cons_zero, List.set_cons_succ]
      refine WpT.take (i := 3) (v := ?_) rfl (by kernel_rfl) (by kernel_rfl) (by kernel_rfl) (by kernel_rfl) (fun _ _ _ h => h) (Or.inl ⟨by rfl, ?_⟩) hS0 ?_
      rotate_left
      · intro wS hSw; (try dsimp only at hSw); go_simp; (first | done | with_reducible rfl)
      try simp only [Act.put, List.setIfInBounds_toArray, List.set_cons_zero, List.set_cons_succ]
      refine WpT.take (i := 4) (v := ?_) rfl (by kernel_rfl) (by kernel_rfl) (by kernel_rfl) (by kernel_rfl) (fun _ _ _ h => h) (Or.inl ⟨by rfl, ?_⟩) hS0 ?_
      rotate_left
      · intro wS hSw; (try dsimp only at hSw); go_simp; (first | done | with_reducible rfl)
      try simp only [Act.put, List.setIfInBounds_toArray, List.set_cons_zero, List.set_cons_succ]
      refine WpT.take (i := 5) (v := ?_) rfl (by kernel_rfl) (by kernel_rfl) (by kernel_rfl) (by kernel_rfl) (fun _ _ _ h => h) (Or.inl ⟨by rfl, ?_⟩) hS0 ?_
      rotate_left
      · intro wS hSw; (try dsimp only at hSw); go_simp; (first | done | with_reducible rfl)
      try simp only [Act.put, List.setIfInBounds_toArray, List.set_cons_zero, List.set_cons_succ]
      refine WpT.take (i := 6) (v := ?_) rfl (by kernel_rfl) (by kernel_rfl) (by kernel_rfl) (by kernel_rfl) (fun _ _ _ h => h) (Or.inl ⟨by rfl, ?_⟩) hS0 ?_
      rotate_left
      · intro wS hSw; (try dsimp only at hSw); go_simp; (first | done | with_reducible rfl)
      try simp only [Act.put, List.setIfInBounds_toArray, List.set_cons_zero, List.set_cons_succ]
      refine WpT.take (i := 7) (v := ?_) rfl (by kernel_rfl) (by kernel_rfl) (by kernel_rfl) (by kernel_rfl) (fun _ _ _ h => h) (Or.inl ⟨by rfl, ?_⟩) hS0 ?_
      rotate_left
      · intro wS hSw; (try dsimp only at hSw); go_simp; (first | done | with_reducible rfl)
      try simp only [Act.put, List.setIfInBounds_toArray, List.set_cons_zero, List.set_cons_succ]
      refine WpT.take (i := 8) (v := ?_) rfl (by kernel_rfl) (by kernel_rfl) (by kernel_rfl) (by kernel_rfl) (fun _ _ _ h => h) (Or.inl ⟨by rfl, ?_⟩) hS0 ?_
      rotate_left
      · intro wS hSw; (try dsimp only at hSw); go_simp; (first | done | with_reducible rfl)
      try simp only [Act.put, List.setIfInBounds_toArray, List.set_cons_zero, List.set_cons_succ]
      refine WpT.take (i := 9) (v := ?_) rfl (by kernel_rfl) (by kernel_rfl) (by kernel_rfl) (by kernel_rfl) (fun _ _ _ h => h) (Or.inl ⟨by rfl, ?_⟩) hS0 ?_
      rotate_left
      · intro wS hSw; (try dsimp only at hSw); go_simp; (first | done | with_reducible rfl)
      try simp only [Act.put, List.setIfInBounds_toArray, List.set_cons_zero, List.set_cons_succ]
      refine WpT.take (i := 10) (v := ?_) rfl (by kernel_rfl) (by kernel_rfl) (by kernel_rfl) (by kernel_rfl) (fun _ _ _ h => h) (Or.inl ⟨by rfl, ?_⟩) hS0 ?_
      rotate_left
      · intro wS hSw; (try dsimp only at hSw); go_simp; (first | done | with_reducible rfl)
      try simp only [Act.put, List.setIfInBounds_toArray, List.set_cons_zero, List.set_cons_succ]
      refine WpT.take (i := 11) (v := ?_) rfl (by kernel_rfl) (by kernel_rfl) (by kernel_rfl) (by kernel_rfl) (fun _ _ _ h => h) (Or.inl ⟨by rfl, ?_⟩) hS0 ?_
      rotate_left
      · intro wS hSw; (try dsimp only at hSw); go_simp; (first | done | with_reducible rfl)
      try simp only [Act.put, List.setIfInBounds_toArray, List.set_cons_zero, List.set_cons_succ]
      refine WpT.one (i := 12) (by kernel_rfl) rfl (fun K hK => ?_)
      go_simp
      go_at_call 15
      refine (Hph.out _ (Keep.drew _ _)).mono ?_
      rintro e w' ⟨rfl, rfl⟩
      refine hK.out _ _ (fun _ _ => hS0) ?_
      clear hK K
      try simp only [Act.put, List.setIfInBounds_toArray, List.set_cons_zero, List.set_cons_succ]
      refine WpT.take (i := 13) (v := ?_) rfl (by kernel_rfl) (by kernel_rfl) (by kernel_rfl) (by kernel_rfl) (fun _ _ _ h => h) (Or.inl ⟨by rfl, ?_⟩) hS0 ?_
      rotate_left
      · intro wS hSw; (try dsimp only at hSw); go_simp; (first | done | with_reducible rfl)
      try simp only [Act.put, List.setIfInBounds_toArray, List.set_cons_zero, List.set_cons_succ]
      refine WpT.one (i := 14) (by kernel_rfl) rfl (fun K hK => ?_)
      go_simp
      refine hK.out _ _ (fun _ _ => hS1) ?_
      clear hK K
      try simp only [Act.put, List.setIfInBounds_toArray, List.set_cons_zero, List.set_cons_succ]
      refine WpT.one (i := 15) (by kernel_rfl) rfl (fun K hK => ?_)
      refine step_append_lies _ (by rfl) _ _ _ (by rfl) (w.heap.size + 1 + 1 + 1) 38 i0 (.slice none 0 0) 1 24 Tryd.underlying26 hi0 hz0 hz1 hz2 rfl (by decide) _ _ _ (by rfl) ((Hown.out.alloc _).drew) ⟨wr.heap.size, 0, none⟩ 1 1 [.slice a3 (bl.length - phisN bl) (cap2 - phisN bl)] (by rfl) (by rfl) (World.news_of_block (cs := #[.slice a3 (bl.length - phisN bl) (cap2 - phisN bl)]) (t := 38) (fr := (0, 0)) (heap_alloc_new wr _)) (by simp [Value.oneCell']) (by decide) (by unfold maxLen; omega) (by omega) (by simp; omega) (wr.heap.size + 1) (by simp) ?_
      intro gg cap w1 hown1 hgrow hat hlt2
      have k0 : w1.cell? ⟨w.heap.size + 1 + 1, 5, none⟩ = some (.slice av n cv) := (hgrow.cell_far _ (by simp; omega) n1).trans ((hcl _ _ _ hlt).trans c5)
      have k1 : w1.frozen? ⟨w.heap.size + 1 + 1, 5, none⟩ = false := (hgrow.frozen_far _ (by simp; omega) n1).trans (hfz _)
      have hS2 := (⟨k0, (hgrow.cell_far _ (by simp; omega) n2).trans ((hcl _ _ _ l1).trans bc5), (hgrow.cell_far _ (by simp; omega) n3).trans ((hcl _ _ _ l2).trans hcx)⟩ : w1.cell? ⟨w.heap.size + 1 + 1, 5, none⟩ = some (.slice av n cv) ∧ w1.cell? ⟨w.heap.size + 1, 5, none⟩ = some (.slice (some ⟨b, off, none⟩) c.blocks.length _) ∧ w1.cell? ⟨b, off + n, none⟩ = some (.slice a2 bl.length cap2))
      refine hK.out _ _ (fun _ _ => hS2) ?_
      clear hK K
      try simp only [Act.put, List.setIfInBounds_toArray, List.set_cons_zero, List.set_cons_succ]
      refine WpT.take (i := 16) (v := ?_) rfl (by kernel_rfl) (by kernel_rfl) (by kernel_rfl) (by kernel_rfl) (fun _ _ _ h => h) (Or.inl ⟨by rfl, ?_⟩) hS2 ?_
      rotate_left
      · intro wS hSw; (try dsimp only at hSw); go_simp; (first | done | with_reducible rfl)
      try simp only [Act.put, List.setIfInBounds_toArray, List.set_cons_zero, List.set_cons_succ]
      refine WpT.one (i := 17) (by kernel_rfl) rfl (fun K hK => ?_)
      go_simp
      refine hK.out _ _ (fun h => absurd rfl h) ?_
      clear hK K
      try simp only [Act.put, List.setIfInBounds_toArray, List.set_cons_zero, List.set_cons_succ]
      refine WpT.done (by kernel_rfl) ?_ _
      go_wp2_with fail
      go_roundw
      case rel =>
        obtain ⟨q1, q2, q3⟩ := own_field (j := 5) Hhh.out hgrow n1 (fun k hk => by have := (Hown.out.lt k hk).1; omega) hown1 (by omega)
        refine ⟨n + 1, _, _, by omega, by go_num, q1, ⟨by simp [Hba.out.1], fun i hi hin => ?_⟩, q2, hbel.trans q3⟩
        by_cases e : i < n
        · obtain ⟨u, hu, hr⟩ := Hba.out.2 i hi e
          exact ⟨u, by rw [List.getElem?_append_left (by rw [Hba.out.1]; exact e)]; exact hu, hr⟩
        · obtain rfl : i = n := by omega
          refine ⟨_, by rw [List.getElem?_append_right (by rw [Hba.out.1]; omega), Hba.out.1, Nat.sub_self]; rfl, ?_⟩
          rw [hbl]
          exact Hdrop.out
      case measure => simp [intOf]; omega
    · have hne : n = c.blocks.length := by omega
      subst hne
      clear hnl hn
      have g : ∀ j, wr.cell? ⟨w.heap.size + 1 + 1, j, none⟩ = (#[.string c.name, .int .i64 c.params, .int .i64 c.results, .int .i64 c.vars, .int .i64 c.slots, .slice av c.blocks.length cv] : Array Value)[j]? := fun j => by simp [World.cell?, hh]
      have g0 := g 0
      have g1 := g 1
      have g2 := g 2
      have g3 := g 3
      have g4 := g 4
      simp at g0 g1 g2 g3 g4
      obtain ⟨⟨q0, q1⟩, -⟩ := Hbox.out _ hbel
      have hbw : Below w.heap.size w wr := Hb0.out.trans (hbel.mono (by omega))
      have hrc : rCode (fun _ => True) wr [.string c.name, .int .i64 c.params, .int .i64 c.results, .int .i64 c.vars, .int .i64 c.slots, .slice av c.blocks.length cv] (plainF c) := by
        have hl : (plainF c).blocks.length = c.blocks.length := by simp [plainF]
        refine ⟨_, rfl, HI.out, rSlice_own (by rw [hl]; exact hown) (fun _ _ => trivial) (fun i hi => ?_)⟩
        rw [hl] at hi
        obtain ⟨u, hu, hr⟩ := hba.2 i hi hi
        exact ⟨u, hu, by simpa [plainF] using Good.kept (Keep.of_below' hbw (fun k hk _ => hk)) hr⟩
      have Hcf := Lib.hid (codeFault_any fs (.slice sp0 fs.length sn0) (.slice sp1 D.length sn1) (plainF c) _ wr (Good.kept (Keep.of_below' hbw (fun k hk _ => hk)) Hp.out) hrc (fit_plain hf))
      clear g hh hown hba hrc hbw f5
      go_wp2_with fail
      refine (Hcf.out).mono ?_
      rintro e w1 ⟨rfl, hb1⟩
      have hbel1 : Below (w.heap.size + 1 + 1) W0 w1 := hbel.trans (hb1.mono (by omega))
      clear g0 g1 g2 g3 g4 q0 q1 c5 bc5 Hcf hb1
      generalize hev : codeFaultF fs (plainF c) = ev at *
      by_cases he : ev = 0
      case neg =>
        have he1 : (ev == 0) = false := by simpa using he
        have he2 : (ev != 0) = true := by simpa using he
        have He := Lib.hid he
        have Hev := Lib.hid hev
        clear he hev
        go_wp2_with fail
        go_ret
        refine ⟨?_, Hb0.out.trans (hbel1.mono (by omega))⟩
        unfold onceF
        rw [Hev.out, if_pos He.out]
        rfl
      subst he
      have hok := onceOK hev
      have Hev := Lib.hid hev
      have Hok := Lib.hid hok
      clear hok hev hbel hlt
      have Hbb := Lib.hid (show ∀ (w' : World), Below (w.heap.size + 1 + 1) W0 w' → Below w.heap.size w w' from fun w' h => Hb0.out.trans (h.mono (by omega)))
      have Hsz := Lib.hid (show ∀ (w' : World), Below (w.heap.size + 1 + 1) W0 w' → w.heap.size + 1 + 1 ≤ w'.heap.size from fun w' h => by have h1 := h.size; rw [Hs0.out] at h1; exact h1)
      obtain ⟨-, q0, q1, q2, q3, q4, q5⟩ := Hbox.out _ hbel1
      obtain ⟨AH, hAH⟩ : ∃ AH, AH = aheadF c := ⟨_, rfl⟩
      have hah := aheadOf_any c _ w1 (Good.kept (Keep.of_below' (Hbb.out _ hbel1) (fun k hk _ => hk)) Hc.out) hf
      rw [← hAH] at hah
      have Hah := Lib.hid hah
      have HAH := Lib.hid hAH
      have hAl : AH.length = c.blocks.length := by rw [hAH]; simp [aheadF]
      have HAl := Lib.hid hAl
      have Hres := Lib.hid (show onceF fs c (rowOf (aheadF c)) (rowOf (aboveF c)) = if blocksPhis c (fun i => (rowOf AH i).length) 0 ≠ 0 then blocksPhis c (fun i => (rowOf AH i).length) 0 else if 0 < (rowOf AH 0).length then 4 else match placesF c with | none => 7 | some acc => usesF c acc (rowOf AH) (rowOf (aboveF c)) by
        unfold onceF
        rw [Hev.out, if_neg (by simp), ← hAH]
        rfl)
      clear hah hAH hAl
      go_wp2_with fail
      refine (Hah.out).mono ?_
      rintro e w2 ⟨vH, rfl, hH, hb2⟩
      obtain ⟨aH, cH, rfl, hlH, hatH⟩ := rIntss_open hH
      rw [HAl.out] at hlH ⊢
      have HatH := Lib.hid hatH
      have hbel2 : Below (w.heap.size + 1 + 1) W0 w2 := hbel1.trans (hb2.mono (Hsz.out _ hbel1))
      clear q0 q1 q2 q3 q4 q5 hH hatH hb2 hbel1 Hah
      go_wp2_with fail
      have hv0 : 0 ≤ c.vars ∧ c.vars ≤ 3000 := by have := Hok.out.pars; omega
      go_loopw [9] (fun i wr => ∃ n : Nat, n ≤ c.blocks.length ∧ i = .int .i64 n ∧ blocksPhis c (fun i => (rowOf AH i).length) 0 = blocksPhis c (fun i => (rowOf AH i).length) n ∧ Below (w.heap.size + 1 + 1) W0 wr ∧ Below w2.heap.size w2 wr) (fun i _ => c.blocks.length - (intOf i).toNat)
      case atStart => exact ⟨0, Nat.zero_le _, rfl, rfl, hbel2, Below.refl _ _⟩
      case round =>
        clear hbel2
        obtain ⟨n, hn, rfl, hph, hbel, hbel7⟩ := hrel
        have Hph := Lib.hid hph
        clear hph
        have hbw : Below w.heap.size w wr := Hbb.out _ hbel
        obtain ⟨-, q0, q1, q2, q3, q4, q5⟩ := Hbox.out _ hbel
        clear q0 q1 q2 q4
        by_cases hnl : n < c.blocks.length
        · have hnl1 : (n : Int) < (c.blocks.length : Int) := by omega
          obtain ⟨b, off, u, rfl, -, hb, hcell, hu⟩ := Hat.out n hnl
          obtain ⟨a2, cap2, rfl, hcap2, hmax2, hat2⟩ := rBlock_val hu
          unfold maxLen at hmax2
          have Hcell := Lib.hid hcell
          have hle := phisN_le c.blocks[n]
          have Hu := Lib.hid hu
          have Hphis := Lib.hid (fun (w' : World) (h : Below (w.heap.size + 1 + 1) W0 w') => phisOf_any c.blocks[n] _ w' (Good.kept (Keep.of_below' (Hbb.out _ h) (fun k hk _ => hk)) hu))
          have Hstep := Lib.hid (blocksPhis_step (c := c) (A := fun i => (rowOf AH i).length) hnl)
          have hbm : (phisN c.blocks[n] : Int) ≤ 9223372036854775807 := by omega
          have Hat2 := Lib.hid hat2
          clear hat2 hu hcell hmax2 hcap2 hbw q3
          generalize c.blocks[n] = bl at *
          go_wp2_with fail
          clear q5
          go_loopw [10] (fun i wr => ∃ k : Nat, k ≤ phisN bl ∧ i = .int .i64 k ∧ phisFrom c.vars (rowOf AH n).length n bl 0 = phisFrom c.vars (rowOf AH n).length n bl k ∧ Below (w.heap.size + 1 + 1) W0 wr ∧ Below w2.heap.size w2 wr) (fun i _ => phisN bl - (intOf i).toNat)
          case atStart => exact ⟨0, Nat.zero_le _, rfl, rfl, hbel, hbel7⟩
          case round =>
            clear hbel hbel7
            obtain ⟨k, hk, rfl, hpf, hbel, hbel7⟩ := hrel
            have Hpf := Lib.hid hpf
            clear hpf
            have hbw : Below w.heap.size w wr := Hbb.out _ hbel
            obtain ⟨-, q0, q1, q2, q3, q4, q5⟩ := Hbox.out _ hbel
            clear q0 q1 q2 q4
            have hcx : wr.cell? ⟨b, off + n, none⟩ = some (.slice a2 bl.length cap2) := (hbw.cell (p := ⟨b, off + n, none⟩) hb).trans Hcell.out
            by_cases hkl : k < phisN bl
            · have hkl1 : (k : Int) < (phisN bl : Int) := by omega
              have hkb : k < bl.length := by omega
              have hkb1 : (k : Int) < (bl.length : Int) := by omega
              obtain ⟨b2, off2, v1, v2, v6, rfl, -, hb2, hx0, hx1, hx2, hx3, hx4, hx5, hI, rx1, rx2, rx6⟩ := Hat2.out k hkb
              obtain ⟨sa1, sc1, rfl, hl1, hi1, -⟩ := rInts_open rx1
              obtain ⟨sa2, sc2, rfl, hl2, hi2, -⟩ := rInts_open rx2
              obtain ⟨sa6, sc6, rfl⟩ := rSlice_shape rx6
              have hy0 : wr.cell? ⟨b2, off2 + k * 6, none⟩ = _ := (hbw.cell (p := ⟨b2, off2 + k * 6, none⟩) hb2).trans hx0
              have hy1 : wr.cell? ⟨b2, off2 + k * 6 + 1, none⟩ = _ := (hbw.cell (p := ⟨b2, off2 + k * 6 + 1, none⟩) hb2).trans hx1
              have hy2 : wr.cell? ⟨b2, off2 + k * 6 + 2, none⟩ = _ := (hbw.cell (p := ⟨b2, off2 + k * 6 + 2, none⟩) hb2).trans hx2
              have hy3 : wr.cell? ⟨b2, off2 + k * 6 + 3, none⟩ = _ := (hbw.cell (p := ⟨b2, off2 + k * 6 + 3, none⟩) hb2).trans hx3
              have hy4 : wr.cell? ⟨b2, off2 + k * 6 + 4, none⟩ = _ := (hbw.cell (p := ⟨b2, off2 + k * 6 + 4, none⟩) hb2).trans hx4
              have hy5 : wr.cell? ⟨b2, off2 + k * 6 + 5, none⟩ = _ := (hbw.cell (p := ⟨b2, off2 + k * 6 + 5, none⟩) hb2).trans hx5
              have hsz := Hsz.out _ hbel
              have hsz7 := hbel7.size
              obtain ⟨bA, oA, aR, cR, rfl, hbA, hcA, hlR, -⟩ := row_at (HatH.out.below hbel7) (n := n) (by rw [HAl.out]; exact hnl)
              have Hs2 := Lib.hid (phisFrom_step (vars := c.vars) (m := (rowOf AH n).length) (i := n) hkb hkl)
              have Hi1 := Lib.hid (hi1.below hbw)
              have Hi2 := Lib.hid (hi2.below hbw)
              have hblt : w.heap.size + 1 < wr.heap.size := by omega
              clear hx0 hx1 hx2 hx3 hx4 hx5 hI rx1 rx2 rx6 hi1 hi2 hbw
              generalize bl[k] = x at *
              go_wp2_with fail
              refine (Hphis.out _ hbel).mono ?_
              rintro e w8 ⟨rfl, rfl⟩
              go_wp2_with fail
              have hbel' := hbel.alloc hsz (.cells #[.int .i64 x.op, .slice sa1 x.ds.length sc1, .slice sa2 x.ars.length sc2, .int .i64 x.n, .string x.s, .slice sa6 x.to.length sc6] 41)
              have hbel7' := hbel7.alloc hsz7 (.cells #[.int .i64 x.op, .slice sa1 x.ds.length sc1, .slice sa2 x.ars.length sc2, .int .i64 x.n, .string x.s, .slice sa6 x.to.length sc6] 41)
              have Hi1 := Lib.hid (Hi1.out.below ((Below.refl _ _).alloc (Nat.le_refl _) (.cells #[.int .i64 x.op, .slice sa1 x.ds.length sc1, .slice sa2 x.ars.length sc2, .int .i64 x.n, .string x.s, .slice sa6 x.to.length sc6] 41)))
              have Hi2 := Lib.hid (Hi2.out.below ((Below.refl _ _).alloc (Nat.le_refl _) (.cells #[.int .i64 x.op, .slice sa1 x.ds.length sc1, .slice sa2 x.ars.length sc2, .int .i64 x.n, .string x.s, .slice sa6 x.to.length sc6] 41)))
              have g : ∀ j, (wr.alloc (.cells #[.int .i64 x.op, .slice sa1 x.ds.length sc1, .slice sa2 x.ars.length sc2, .int .i64 x.n, .string x.s, .slice sa6 x.to.length sc6] 41)).cell? ⟨wr.heap.size, j, none⟩ = (#[.int .i64 x.op, .slice sa1 x.ds.length sc1, .slice sa2 x.ars.length sc2, .int .i64 x.n, .string x.s, .slice sa6 x.to.length sc6] : Array Value)[j]? := fun j => by rw [World.cell?_alloc_at _ _ _ _ rfl]
              have hcA' : (wr.alloc (.cells #[.int .i64 x.op, .slice sa1 x.ds.length sc1, .slice sa2 x.ars.length sc2, .int .i64 x.n, .string x.s, .slice sa6 x.to.length sc6] 41)).cell? ⟨bA, oA + n, none⟩ = some (.slice aR (rowOf AH n).length cR) := by rw [World.cell?_alloc_lt _ _ _ hbA]; exact hcA
              have hv3' : (wr.alloc (.cells #[.int .i64 x.op, .slice sa1 x.ds.length sc1, .slice sa2 x.ars.length sc2, .int .i64 x.n, .string x.s, .slice sa6 x.to.length sc6] 41)).cell? ⟨w.heap.size + 1, 3, none⟩ = some (.int .i64 c.vars) := by rw [World.cell?_alloc_lt _ _ _ hblt]; exact q3
              clear hy0 hy1 hy2 hy3 hy4 hy5 hcA q3 q5 hcx hbel hbel7 hsz hsz7 hbA hblt
              generalize wr.alloc (.cells #[.int .i64 x.op, .slice sa1 x.ds.length sc1, .slice sa2 x.ars.length sc2, .int .i64 x.n, .string x.s, .slice sa6 x.to.length sc6] 41) = w9 at *
              generalize wr.heap.size = bx at *
              have g1 := g 1
              have g2 := g 2
              have g5 := g 5
              simp at g1 g2 g5
              clear g
              have hfault : phiFault c.vars (rowOf AH n).length n x ≠ 0 → onceF fs c (rowOf (aheadF c)) (rowOf (aboveF c)) = phiFault c.vars (rowOf AH n).length n x := fun h => by
                have e1 : phisFrom c.vars (rowOf AH n).length n bl 0 = phiFault c.vars (rowOf AH n).length n x := by rw [Hpf.out, Hs2.out, if_pos h]
                have e2 : blocksPhis c (fun i => (rowOf AH i).length) 0 = phiFault c.vars (rowOf AH n).length n x := by
                  rw [Hph.out, Hstep.out]
                  simp only [e1]
                  rw [if_pos h]
                rw [Hres.out, e2, if_pos h]
              have Hfault := Lib.hid hfault
              have hgood : phiFault c.vars (rowOf AH n).length n x = 0 → phisFrom c.vars (rowOf AH n).length n bl 0 = phisFrom c.vars (rowOf AH n).length n bl (k + 1) := fun h => by rw [Hpf.out, Hs2.out, if_neg (by rw [h]; simp)]
              have Hgood := Lib.hid hgood
              clear hfault hgood
              generalize hm : (rowOf AH n).length = m at *
              have Hm := Lib.hid hm
              clear hm
              have hcount : ∀ (P : Prop), (x.ds.length ≠ 1 ∨ x.ars.length ≠ m ∨ 0 < x.to.length) → onceF fs c (rowOf (aheadF c)) (rowOf (aboveF c)) = 10 := fun _ h => by
                have e : phiFault c.vars m n x = 10 := by unfold phiFault; rw [if_pos h]
                rw [Hfault.out (by rw [e]; decide), e]
              have Hcount := Lib.hid hcount
              clear hcount
              by_cases A1 : x.ds.length = 1
              case neg =>
                have d1 : ((x.ds.length : Int) != 1) = true := by simpa using (show ¬ (x.ds.length : Int) = 1 by omega)
                have HA := Lib.hid (Hcount.out True (Or.inl A1))
                clear A1
                go_quiet (fail)
                go_wp2_with fail
                go_ret
                refine ⟨?_, Hb0.out.trans ((hbel'.trans (Drawn.below ⟨_, rfl⟩ _)).mono (by omega))⟩
                rw [HA.out]
                rfl
              have d1 : ((x.ds.length : Int) != 1) = false := by simpa using (show (x.ds.length : Int) = 1 by omega)
              by_cases A2 : x.ars.length = m
              case neg =>
                have d2 : ((x.ars.length : Int) != (m : Int)) = true := by simpa using (show ¬ (x.ars.length : Int) = m by omega)
                have HA := Lib.hid (Hcount.out True (Or.inr (Or.inl A2)))
                clear A2 A1
                go_quiet (fail)
                go_wp2_with fail
                go_ret
                refine ⟨?_, Hb0.out.trans ((hbel'.trans (Drawn.below ⟨_, rfl⟩ _)).mono (by omega))⟩
                rw [HA.out]
                rfl
              have d2 : ((x.ars.length : Int) != (m : Int)) = false := by simpa using (show (x.ars.length : Int) = m by omega)
              by_cases A3 : x.to.length = 0
              case neg =>
                have hpo : 0 < x.to.length := by omega
                have d3 : decide (0 < x.to.length) = true := decide_eq_true hpo
                have HA := Lib.hid (Hcount.out True (Or.inr (Or.inr hpo)))
                clear A2 A1 A3
                go_quiet (fail)
                go_wp2_with fail
                go_ret
                refine ⟨?_, Hb0.out.trans ((hbel'.trans (Drawn.below ⟨_, rfl⟩ _)).mono (by omega))⟩
                rw [HA.out]
                rfl
              have hform : phiFault c.vars m n x = if (inAll x.ds c.vars && inAll x.ars c.vars) = false then 2 else if n = 0 then 4 else 0 := by unfold phiFault; rw [if_neg (by omega)]
              have Hform := Lib.hid hform
              rw [A3] at g5
              clear hform A1 A2 A3
              go_quiet (fail)
              go_wp2_with fail
              refine (allIn_any 0 (c.vars - 1) sa1 x.ds sc1 (w9.drewN nq) hl1 (Hi1.out.heap rfl)).mono ?_
              rintro e w10 ⟨rfl, rfl⟩
              have hbel10 : Below (w.heap.size + 1 + 1) W0 (w9.drewN nq) := hbel'.trans (Drawn.below ⟨_, rfl⟩ _)
              have hbel710 : Below w2.heap.size w2 (w9.drewN nq) := hbel7'.trans (Drawn.below ⟨_, rfl⟩ _)
              cases h1 : (x.ds.all fun y => decide (0 ≤ y) && decide (y ≤ c.vars - 1)) with
              | false =>
                have HA := Lib.hid (show onceF fs c (rowOf (aheadF c)) (rowOf (aboveF c)) = 2 by
                  have e : phiFault c.vars m n x = 2 := by rw [Hform.out, if_pos (by unfold inAll; rw [h1]; rfl)]
                  rw [Hfault.out (by rw [e]; decide), e])
                clear h1
                go_wp2_with fail
                go_ret
                refine ⟨?_, Hb0.out.trans ((hbel10).mono (by omega))⟩
                rw [HA.out]
                rfl
              | true =>
                have e1 := Lib.hid (show inAll x.ds c.vars = true from h1)
                clear h1
                go_wp2_with fail
                refine (allIn_any 0 (c.vars - 1) sa2 x.ars sc2 (w9.drewN nq) hl2 (Hi2.out.heap rfl)).mono ?_
                rintro e w10 ⟨rfl, rfl⟩
                clear hv3' g1 g2 g5 hcA'
                cases h2 : (x.ars.all fun y => decide (0 ≤ y) && decide (y ≤ c.vars - 1)) with
                | false =>
                  have HA := Lib.hid (show onceF fs c (rowOf (aheadF c)) (rowOf (aboveF c)) = 2 by
                    have e : phiFault c.vars m n x = 2 := by rw [Hform.out, if_pos (by rw [show inAll x.ars c.vars = false from h2, Bool.and_false])]
                    rw [Hfault.out (by rw [e]; decide), e])
                  clear h2
                  go_wp2_with fail
                  go_ret
                  refine ⟨?_, Hb0.out.trans ((hbel10).mono (by omega))⟩
                  rw [HA.out]
                  rfl
                | true =>
                  have e2 := Lib.hid (show inAll x.ars c.vars = true from h2)
                  clear h2
                  by_cases hn0 : n = 0
                  · have d4 : ((n : Int) == 0) = true := by simpa using hn0
                    have HA := Lib.hid (show onceF fs c (rowOf (aheadF c)) (rowOf (aboveF c)) = 4 by
                      have e : phiFault c.vars m n x = 4 := by rw [Hform.out, if_neg (by rw [e1.out, e2.out]; simp), if_pos hn0]
                      rw [Hfault.out (by rw [e]; decide), e])
                    clear hn0
                    go_wp2_with fail
                    go_ret
                    refine ⟨?_, Hb0.out.trans ((hbel10).mono (by omega))⟩
                    rw [HA.out]
                    rfl
                  · have d4 : ((n : Int) == 0) = false := by simpa using hn0
                    have HA := Lib.hid (Hgood.out (by rw [Hform.out, if_neg (by rw [e1.out, e2.out]; simp), if_neg hn0]))
                    clear hn0
                    go_wp2_with fail
                    go_roundw
                    case rel => exact ⟨k + 1, by omega, by go_num, by rw [Hm.out]; exact HA.out, hbel10, hbel710⟩
                    case measure => simp [intOf]; omega
            · have hke : k = phisN bl := by omega
              subst hke
              have HA := Lib.hid (show blocksPhis c (fun i => (rowOf AH i).length) 0 = blocksPhis c (fun i => (rowOf AH i).length) (n + 1) by
                have e1 : phisFrom c.vars (rowOf AH n).length n bl 0 = 0 := by rw [Hpf.out, phisFrom_end (Nat.le_refl _)]
                rw [Hph.out, Hstep.out]
                simp only [e1]
                rw [if_neg (by simp)])
              go_wp2_with fail
              refine (Hphis.out _ hbel).mono ?_
              rintro e w8 ⟨rfl, rfl⟩
              go_wp2_with fail
              go_roundw
              case rel => exact ⟨n + 1, by omega, by go_num, HA.out, hbel, hbel7⟩
              case measure => simp [intOf]; omega
        · have hne : n = c.blocks.length := by omega
          subst hne
          clear hnl hn hbw q3 q5
          obtain ⟨-, q0, q1, q2, q3, q4, q5⟩ := Hbox.out _ hbel
          have Hb0' := Lib.hid (Hph.out.trans (blocksPhis_end (Nat.le_refl _)))
          have Hres2 := Lib.hid (show onceF fs c (rowOf (aheadF c)) (rowOf (aboveF c)) = if 0 < (rowOf AH 0).length then 4 else match placesF c with | none => 7 | some acc => usesF c acc (rowOf AH) (rowOf (aboveF c)) by
            rw [Hres.out, Hb0'.out, if_neg (by simp)])
          obtain ⟨bA, oA, aR, cR, rfl, hbA, hcA, hlR, -⟩ := row_at (HatH.out.below hbel7) (n := 0) (by rw [HAl.out]; exact Hok.out.some_.1)
          have hnz : (0 : Int) < (c.blocks.length : Int) := by have := Hok.out.some_.1; omega
          rw [Nat.add_zero] at hcA
          by_cases hz : (rowOf AH 0).length = 0
          case neg =>
            have hpo : 0 < (rowOf AH 0).length := by omega
            have d3 : decide (0 < (rowOf AH 0).length) = true := decide_eq_true hpo
            have HA := Lib.hid (show onceF fs c (rowOf (aheadF c)) (rowOf (aboveF c)) = 4 by rw [Hres2.out, if_pos hpo])
            clear hz
            generalize (rowOf AH 0).length = l0 at *
            go_wp2_with fail
            go_ret
            refine ⟨?_, Hb0.out.trans ((hbel).mono (by omega))⟩
            rw [HA.out]
            rfl
          have Hres3 := Lib.hid (show onceF fs c (rowOf (aheadF c)) (rowOf (aboveF c)) = match placesF c with | none => 7 | some acc => usesF c acc (rowOf AH) (rowOf (aboveF c)) by rw [Hres2.out, if_neg (by omega)])
          rw [hz] at hcA hlR
          clear hz
          obtain ⟨vn, hvn⟩ := Int.eq_ofNat_of_zero_le hv0.1
          have hmk := @run_make_row' Tryd.prog 23 3 (.int .i64 0) 8 Tryd.underlying23 Tryd.info_int rfl .i64 .i64 vn (by omega) (by omega)
          rw [hvn] at q3
          have hvn3 : vn ≤ 3000 := by omega
          have hblt : w.heap.size + 1 < wr.heap.size := by have := Hsz.out _ hbel; omega
          have hblt2 : w.heap.size < wr.heap.size := by omega
          obtain ⟨P, hP⟩ := Int.eq_ofNat_of_zero_le Hok.out.pars.1
          have hPv : P ≤ vn := by have := Hok.out.pars.2.1; omega
          rw [hP] at q1
          have HP := Lib.hid hP
          have Hvn := Lib.hid hvn
          clear hP hvn hv0
          go_wp2_with fail
          clear hmk hcA hbA hlR
          have hrows : OnceRows vn wr.heap.size wr ((((wr.alloc (.cells (madeCells #[.int .i64 0] vn) 3)).alloc (.cells #[.slice (some ⟨wr.heap.size, 0, none⟩) vn vn] 23)).alloc (.cells (madeCells #[.int .i64 0] vn) 3)).alloc (.cells #[.slice (some ⟨wr.heap.size + 1 + 1, 0, none⟩) vn vn] 23)) (fun j => bOf (paramsS 0) (j : Int)) (fun j => pOf (paramsS 0) (j : Int)) := by
            refine ⟨((((Below.refl _ _).alloc (Nat.le_refl _) _).alloc (by simp) _).alloc (by simp; omega) _).alloc (by simp; omega) _, by simp, ?_, ?_, ?_, ?_⟩
            · exact ((((World.rowIs_made wr (.int .i64 0) vn 3).alloc _).alloc _).alloc _)
            · rw [World.cell?_alloc_lt _ _ _ (by first | (simp; done) | (simp; omega)), World.cell?_alloc_lt _ _ _ (by first | (simp; done) | (simp; omega)), World.cell?_alloc_at _ _ _ _ (by simp)]; rfl
            · have h := World.rowIs_made ((wr.alloc (.cells (madeCells #[.int .i64 0] vn) 3)).alloc (.cells #[.slice (some ⟨wr.heap.size, 0, none⟩) vn vn] 23)) (.int .i64 0) vn 3
              simp only [World.size_alloc] at h
              exact h.alloc _
            · rw [World.cell?_alloc_at _ _ _ _ (by simp)]; rfl
          generalize (((wr.alloc (.cells (madeCells #[.int .i64 0] vn) 3)).alloc (.cells #[.slice (some ⟨wr.heap.size, 0, none⟩) vn vn] 23)).alloc (.cells (madeCells #[.int .i64 0] vn) 3)).alloc (.cells #[.slice (some ⟨wr.heap.size + 1 + 1, 0, none⟩) vn vn] 23) = w3 at *
          have hBB : w.heap.size + 1 + 1 ≤ wr.heap.size := Hsz.out _ hbel
          have hB2 := hbel7.size
          -- from here on: below B all is as in wB
          have Hup := Lib.hid (show ∀ (w' : World) (f1 f2 : Nat → Int), OnceRows vn wr.heap.size wr w' f1 f2 → Below (w.heap.size + 1 + 1) W0 w' ∧ Below w2.heap.size w2 w' from fun w' f1 f2 h => ⟨hbel.trans (h.below.mono hBB), hbel7.trans (h.below.mono hB2)⟩)
          have Hbel := Lib.hid hbel
          clear hbel hbel7 hB2
          generalize hB : wr.heap.size = B at *
          obtain ⟨wB, hwB⟩ : ∃ wB : World, wB = wr := ⟨_, rfl⟩
          rw [← hwB] at hrows Hup Hbel
          have HwB := Lib.hid hwB
          have HB := Lib.hid hB
          clear hwB hB q0 q1 q2 q3 q4 q5 hblt hblt2
          go_loopw [14] (fun i wr => ∃ k : Nat, k ≤ P ∧ i = .int .i64 k ∧ OnceRows vn B wB wr (fun j => bOf (paramsS k) (j : Int)) (fun j => pOf (paramsS k) (j : Int))) (fun i _ => P - (intOf i).toNat)
          case atStart => exact ⟨0, Nat.zero_le _, rfl, hrows⟩
          case round =>
            clear hrows
            obtain ⟨k, hk, rfl, hrows⟩ := hrel
            obtain ⟨-, q0, q1, q2, q3, q4, q5⟩ := Hbox.out _ (Hup.out _ _ _ hrows).1
            rw [HP.out] at q1
            by_cases hkl : k < P
            · have hkl1 : (k : Int) < (P : Int) := by omega
              have hkv1 : (k : Int) < (vn : Int) := by omega
              have b1 := hrows.box1
              have hfz := hrows.row1.frozen k
              have hcl := hrows.row1.cell (show k < vn by omega)
              have hs := hrows.size
              have hlt : B < wr.heap.size := by omega
              have hset := hrows.set1 k (-1)
              have Hset := Lib.hid hset
              clear q0 q2 q3 q4 hset hs
              go_wp2_with fail
              go_roundw
              case rel => exact ⟨k + 1, by omega, by go_num, Hset.out.congr (fun j _ => by
                rw [bOf_param]
                unfold upd
                by_cases e : j = k
                · simp [e]
                · rw [if_neg e, if_neg (by omega)]) (fun j _ => by rw [pOf_param, pOf_param])⟩
              case measure => simp [intOf]; omega
            · have hke : k = P := by omega
              subst hke
              have Hpl := Lib.hid (show placesF c = addS (paramsS k) (setsAll 0 (c.blocks.drop 0)) by unfold placesF; rw [HP.out, Int.toNat_natCast, List.drop_zero])
              go_wp2_with fail
              clear q0 q1 q2 q3 q4 q5
              go_loopw [15] (fun i wr => ∃ (n : Nat) (acc : Sets), n ≤ c.blocks.length ∧ i = .int .i64 n ∧ placesF c = addS acc (setsAll n (c.blocks.drop n)) ∧ OnceRows vn B wB wr (fun j => bOf acc (j : Int)) (fun j => pOf acc (j : Int))) (fun i _ => c.blocks.length - (intOf i).toNat)
              case atStart => exact ⟨0, _, Nat.zero_le _, rfl, Hpl.out, hrows⟩
              case round =>
                clear hrows Hpl
                obtain ⟨n, acc, hn, rfl, hpl, hrows⟩ := hrel
                have Hpl := Lib.hid hpl
                clear hpl
                obtain ⟨-, q0, q1, q2, q3, q4, q5⟩ := Hbox.out _ (Hup.out _ _ _ hrows).1
                clear q0 q1 q2 q3 q4
                by_cases hnl : n < c.blocks.length
                · have hnl1 : (n : Int) < (c.blocks.length : Int) := by omega
                  obtain ⟨b, off, u, rfl, -, hb, hcell, hu⟩ := Hat.out n hnl
                  obtain ⟨a2, cap2, rfl, hcap2, hmax2, hat2⟩ := rBlock_val hu
                  unfold maxLen at hmax2
                  have Hcell := Lib.hid hcell
                  have Hd := Lib.hid (setsAll_drop (i := n) hnl)
                  have hbm : (c.blocks[n].length : Int) ≤ 9223372036854775807 := by omega
                  have Hat2 := Lib.hid hat2
                  have Hin := Lib.hid (fun k hk => (ds_in (A := fun i => (rowOf AH i).length) Hok.out Hb0'.out hnl (k := k) hk).1)
                  clear hat2 hu hcell hmax2 hcap2
                  generalize c.blocks[n] = bl at *
                  go_wp2_with fail
                  clear q5
                  have hp0 : placesF c = addS acc (setsBlk n 0 (bl.drop 0) ++ setsAll (n + 1) (c.blocks.drop (n + 1))) := by rw [Hpl.out, Hd.out, List.drop_zero]
                  have Hp0 := Lib.hid hp0
                  clear hp0 Hpl Hd
                  go_loopw [16] (fun i wr => ∃ (k : Nat) (acc : Sets), k ≤ bl.length ∧ i = .int .i64 k ∧ placesF c = addS acc (setsBlk n k (bl.drop k) ++ setsAll (n + 1) (c.blocks.drop (n + 1))) ∧ OnceRows vn B wB wr (fun j => bOf acc (j : Int)) (fun j => pOf acc (j : Int))) (fun i _ => bl.length - (intOf i).toNat)
                  case atStart => exact ⟨0, _, Nat.zero_le _, rfl, Hp0.out, hrows⟩
                  case round =>
                    clear hrows Hp0
                    clear acc
                    obtain ⟨k, acc, hk, rfl, hpl, hrows⟩ := hrel
                    have Hp := Lib.hid hpl
                    clear hpl
                    obtain ⟨-, q0, q1, q2, q3, q4, q5⟩ := Hbox.out _ (Hup.out _ _ _ hrows).1
                    clear q0 q1 q2 q3 q4
                    have hbw : Below w.heap.size w wr := Hbb.out _ (Hup.out _ _ _ hrows).1
                    have hcx : wr.cell? ⟨b, off + n, none⟩ = some (.slice a2 bl.length cap2) := (hbw.cell (p := ⟨b, off + n, none⟩) hb).trans Hcell.out
                    by_cases hkl : k < bl.length
                    · have hkl1 : (k : Int) < (bl.length : Int) := by omega
                      obtain ⟨b2, off2, v1, v2, v6, rfl, -, hb2, hx0, hx1, hx2, hx3, hx4, hx5, hI, rx1, rx2, rx6⟩ := Hat2.out k hkl
                      obtain ⟨sa1, sc1, rfl, hl1, hi1, -⟩ := rInts_open rx1
                      obtain ⟨sa2, sc2, rfl⟩ := rSlice_shape rx2
                      obtain ⟨sa6, sc6, rfl⟩ := rSlice_shape rx6
                      have hy0 : wr.cell? ⟨b2, off2 + k * 6, none⟩ = _ := (hbw.cell (p := ⟨b2, off2 + k * 6, none⟩) hb2).trans hx0
                      have hy1 : wr.cell? ⟨b2, off2 + k * 6 + 1, none⟩ = _ := (hbw.cell (p := ⟨b2, off2 + k * 6 + 1, none⟩) hb2).trans hx1
                      have hy2 : wr.cell? ⟨b2, off2 + k * 6 + 2, none⟩ = _ := (hbw.cell (p := ⟨b2, off2 + k * 6 + 2, none⟩) hb2).trans hx2
                      have hy3 : wr.cell? ⟨b2, off2 + k * 6 + 3, none⟩ = _ := (hbw.cell (p := ⟨b2, off2 + k * 6 + 3, none⟩) hb2).trans hx3
                      have hy4 : wr.cell? ⟨b2, off2 + k * 6 + 4, none⟩ = _ := (hbw.cell (p := ⟨b2, off2 + k * 6 + 4, none⟩) hb2).trans hx4
                      have hy5 : wr.cell? ⟨b2, off2 + k * 6 + 5, none⟩ = _ := (hbw.cell (p := ⟨b2, off2 + k * 6 + 5, none⟩) hb2).trans hx5
                      have Hi1 := Lib.hid hi1
                      have Hd := Lib.hid (setsBlk_drop (i := n) hkl)
                      have Hin2 := Lib.hid (Hin.out k hkl)
                      have hs := hrows.size
                      clear hx0 hx1 hx2 hx3 hx4 hx5 hI rx1 rx2 rx6 hi1 hbw
                      generalize bl[k] = x at *
                      go_wp2_with fail
                      have hrows' := hrows.later ((Below.refl (B + 4) wr).alloc hs (.cells #[.int .i64 x.op, .slice sa1 x.ds.length sc1, .slice sa2 x.ars.length sc2, .int .i64 x.n, .string x.s, .slice sa6 x.to.length sc6] 41))
                      have hbx1 : (wr.alloc (.cells #[.int .i64 x.op, .slice sa1 x.ds.length sc1, .slice sa2 x.ars.length sc2, .int .i64 x.n, .string x.s, .slice sa6 x.to.length sc6] 41)).cell? ⟨wr.heap.size, 1, none⟩ = some (.slice sa1 x.ds.length sc1) := by rw [World.cell?_alloc_at _ _ _ _ rfl]; rfl
                      have hbx2 : wr.heap.size < (wr.alloc (.cells #[.int .i64 x.op, .slice sa1 x.ds.length sc1, .slice sa2 x.ars.length sc2, .int .i64 x.n, .string x.s, .slice sa6 x.to.length sc6] 41)).heap.size := by simp
                      have hp0 : placesF c = addS acc (setsOf n k (x.ds.drop 0) ++ (setsBlk n (k + 1) (bl.drop (k + 1)) ++ setsAll (n + 1) (c.blocks.drop (n + 1)))) := by rw [Hp.out, Hd.out, List.drop_zero, List.append_assoc]
                      have Hp0 := Lib.hid hp0
                      clear hp0 Hp Hd hy0 hy1 hy2 hy3 hy4 hy5 hrows q5 hcx
                      generalize wr.alloc (.cells #[.int .i64 x.op, .slice sa1 x.ds.length sc1, .slice sa2 x.ars.length sc2, .int .i64 x.n, .string x.s, .slice sa6 x.to.length sc6] 41) = wx at *
                      have hBbx : B + 4 ≤ wr.heap.size := hs
                      clear hs
                      generalize wr.heap.size = bx at *
                      go_loopw [18] (fun i wr => ∃ (j : Nat) (acc : Sets), j ≤ x.ds.length ∧ i = .int .i64 j ∧ placesF c = addS acc (setsOf n k (x.ds.drop j) ++ (setsBlk n (k + 1) (bl.drop (k + 1)) ++ setsAll (n + 1) (c.blocks.drop (n + 1)))) ∧ OnceRows vn B wB wr (fun j => bOf acc (j : Int)) (fun j => pOf acc (j : Int)) ∧ wr.cell? ⟨bx, 1, none⟩ = some (.slice sa1 x.ds.length sc1) ∧ bx < wr.heap.size) (fun i _ => x.ds.length - (intOf i).toNat)
                      case atStart => exact ⟨0, _, Nat.zero_le _, rfl, Hp0.out, hrows', hbx1, hbx2⟩
                      case round =>
                        clear hrows' hbx1 hbx2 Hp0
                        clear acc
                        obtain ⟨j, acc, hj, rfl, hpl, hrows, hbx1, hbx2⟩ := hrel
                        have Hp := Lib.hid hpl
                        clear hpl
                        by_cases hjl : j < x.ds.length
                        · have hjl1 : (j : Int) < (x.ds.length : Int) := by omega
                          have hbw : Below w.heap.size w wr := Hbb.out _ (Hup.out _ _ _ hrows).1
                          obtain ⟨b3, off3, rfl, hb3, hc3⟩ := (Hi1.out.below hbw) j hjl
                          obtain ⟨b3', off3', e3, hb3w, -⟩ := Hi1.out j hjl
                          obtain ⟨rfl, rfl⟩ : b3 = b3' ∧ off3 = off3' := by simpa using e3
                          have Hd := Lib.hid (setsOf_drop (i := n) (k := k) hjl)
                          have hyi : 0 ≤ x.ds[j] ∧ x.ds[j] ≤ c.vars - 1 := by
                            have := List.all_eq_true.1 Hin2.out _ (List.getElem_mem hjl)
                            simpa using this
                          obtain ⟨y, hy⟩ := Int.eq_ofNat_of_zero_le hyi.1
                          rw [hy] at hc3 hyi Hd
                          have hyv : y < vn := by have := Hvn.out; omega
                          have hyv1 : (y : Int) < (vn : Int) := by omega
                          have b1 := hrows.box1
                          have b2' := hrows.box2
                          have r1 := hrows.row1.cell hyv
                          have r2 := hrows.row2.cell hyv
                          have z1 := hrows.row1.frozen y
                          have z2 := hrows.row2.frozen y
                          have hs := hrows.size
                          clear hy hyi e3 hbw
                          cases hlk : lookS acc (y : Int) with
                          | some p =>
                            have hne : (bOf acc (y : Int) != 0) = true := by simpa using bOf_some hlk
                            have HA := Lib.hid (show onceF fs c (rowOf (aheadF c)) (rowOf (aboveF c)) = 7 by
                              rw [Hres3.out, Hp.out, Hd.out, List.cons_append, addS, if_pos (by rw [hlk]; rfl)])
                            have Hrows := Lib.hid hrows
                            clear hlk hrows
                            generalize bOf acc (y : Int) = z at *
                            go_wp2_with fail
                            go_quiet (fail)
                            go_wp2_with fail
                            go_ret
                            refine ⟨?_, Hbb.out _ ((Hup.out _ _ _ Hrows.out).1.trans (Drawn.below ⟨_, rfl⟩ _))⟩
                            rw [HA.out]
                            rfl
                          | none =>
                            have hz0 : bOf acc (y : Int) = 0 := bOf_none hlk
                            rw [hz0] at r1
                            have Hlk := Lib.hid hlk
                            have Hrows := Lib.hid hrows
                            clear hlk hrows hz0
                            go_wp2_with fail
                            go_quiet (fail)
                            have hd : Drawn wr (wr.drewN nq) := ⟨nq, rfl⟩
                            have Hrowsz := Lib.hid (Hrows.out.later (hd.below (B + 4)))
                            have hbx1z := (hd.cell _).trans hbx1
                            have hbx2z : bx < (wr.drewN nq).heap.size := by rw [hd.heap]; exact hbx2
                            have hc3z := (hd.cell _).trans hc3
                            clear hd b1 b2' r1 r2 z1 z2 hbx1 hbx2 hc3 hb3 hs Hrows
                            generalize wr.drewN nq = wz at *
                            have b1 := Hrowsz.out.box1
                            have b2' := Hrowsz.out.box2
                            have r1 := Hrowsz.out.row1.cell hyv
                            have r2 := Hrowsz.out.row2.cell hyv
                            have z1 := Hrowsz.out.row1.frozen y
                            have z2 := Hrowsz.out.row2.frozen y
                            have hs := Hrowsz.out.size
                            have hBw : w.heap.size + 1 + 1 ≤ B := hBB
                            have hB1 : B < wz.heap.size := by omega
                            have hB2 : B + 1 + 1 < wz.heap.size := by omega
                            have hn1 : (n : Int) + 1 ≤ 9223372036854775807 := by omega
                            go_wp2_with fail
                            have hwrap : IntKind.i64.wrap ((n : Int) + 1) = (n : Int) + 1 := IntWalk.i64_in _ (by omega)
                            refine WpT.start (fun w' => w'.cell? ⟨B + 1, 0, none⟩ = some (.slice (some ⟨B, 0, none⟩) vn vn) ∧ w'.cell? ⟨bx, 1, none⟩ = some (.slice (some ⟨b3, off3, none⟩) x.ds.length sc1) ∧ w'.cell? ⟨b3, off3 + j, none⟩ = some (.int .i64 (y : Int))) 9 (by kernel_rfl) ?_
                            have hS0 : wz.drew.cell? ⟨B + 1, 0, none⟩ = some (.slice (some ⟨B, 0, none⟩) vn vn) ∧ wz.drew.cell? ⟨bx, 1, none⟩ = some (.slice (some ⟨b3, off3, none⟩) x.ds.length sc1) ∧ wz.drew.cell? ⟨b3, off3 + j, none⟩ = some (.int .i64 (y : Int)) := ⟨b1, hbx1z, hc3z⟩
                            refine WpT.take (i := 0) (v := ?_) rfl (by kernel_rfl) (by kernel_rfl) (by kernel_rfl) (by kernel_rfl) (fun _ _ _ h => h) (Or.inl ⟨by rfl, ?_⟩) hS0 ?_
                            rotate_left
                            · intro wS hSw; (try dsimp only at hSw); go_simp; (first | done | with_reducible rfl)
                            try simp only [Act.put, List.setIfInBounds_toArray, List.set_cons_zero, List.set_cons_succ]
                            refine WpT.take (i := 1) (v := ?_) rfl (by kernel_rfl) (by kernel_rfl) (by kernel_rfl) (by kernel_rfl) (fun _ _ _ h => h) (Or.inl ⟨by rfl, ?_⟩) hS0 ?_
                            rotate_left
                            · intro wS hSw; (try dsimp only at hSw); go_simp; (first | done | with_reducible rfl)
                            try simp only [Act.put, List.setIfInBounds_toArray, List.set_cons_zero, List.set_cons_succ]
                            refine WpT.take (i := 2) (v := ?_) rfl (by kernel_rfl) (by kernel_rfl) (by kernel_rfl) (by kernel_rfl) (fun _ _ _ h => h) (Or.inl ⟨by rfl, ?_⟩) hS0 ?_
                            rotate_left
                            · intro wS hSw; (try dsimp only at hSw); go_simp; (first | done | with_reducible rfl)
                            try simp only [Act.put, List.setIfInBounds_toArray, List.set_cons_zero, List.set_cons_succ]
                            refine WpT.take (i := 3) (v := ?_) rfl (by kernel_rfl) (by kernel_rfl) (by kernel_rfl) (by kernel_rfl) (fun _ _ _ h => h) (Or.inl ⟨by rfl, ?_⟩) hS0 ?_
                            rotate_left
                            · intro wS hSw; (try dsimp only at hSw); go_simp; (first | done | with_reducible rfl)
                            try simp only [Act.put, List.setIfInBounds_toArray, List.set_cons_zero, List.set_cons_succ]
                            refine WpT.take (i := 4) (v := ?_) rfl (by kernel_rfl) (by kernel_rfl) (by kernel_rfl) (by kernel_rfl) (fun _ _ _ h => h) (Or.inl ⟨by rfl, ?_⟩) hS0 ?_
                            rotate_left
                            · intro wS hSw; (try dsimp only at hSw); go_simp; (first | done | with_reducible rfl)
                            try simp only [Act.put, List.setIfInBounds_toArray, List.set_cons_zero, List.set_cons_succ]
                            refine WpT.take (i := 5) (v := ?_) rfl (by kernel_rfl) (by kernel_rfl) (by kernel_rfl) (by kernel_rfl) (fun _ _ _ h => h) (Or.inl ⟨by rfl, ?_⟩) hS0 ?_
                            rotate_left
                            · intro wS hSw; (try dsimp only at hSw); go_simp; (first | done | with_reducible rfl)
                            try simp only [Act.put, List.setIfInBounds_toArray, List.set_cons_zero, List.set_cons_succ]
                            refine WpT.take (i := 6) (v := ?_) rfl (by kernel_rfl) (by kernel_rfl) (by kernel_rfl) (by kernel_rfl) (fun _ _ _ h => h) (Or.inl ⟨by rfl, ?_⟩) hS0 ?_
                            rotate_left
                            · intro wS hSw; (try dsimp only at hSw); go_simp; (first | done | with_reducible rfl)
                            try simp only [Act.put, List.setIfInBounds_toArray, List.set_cons_zero, List.set_cons_succ]
                            refine WpT.take (i := 7) (v := ?_) rfl (by kernel_rfl) (by kernel_rfl) (by kernel_rfl) (by kernel_rfl) (fun _ _ _ h => h) (Or.inl ⟨by rfl, ?_⟩) hS0 ?_
                            rotate_left
                            · intro wS hSw; (try dsimp only at hSw); go_simp; (first | done | with_reducible rfl)
                            try simp only [Act.put, List.setIfInBounds_toArray, List.set_cons_zero, List.set_cons_succ]
                            refine WpT.take (i := 8) (v := ?_) rfl (by kernel_rfl) (by kernel_rfl) (by kernel_rfl) (by kernel_rfl) (fun _ _ _ h => h) (Or.inl ⟨by rfl, ?_⟩) hS0 ?_
                            rotate_left
                            · intro wS hSw; (try dsimp only at hSw); go_simp; (first | done | with_reducible rfl)
                            try simp only [Act.put, List.setIfInBounds_toArray, List.set_cons_zero, List.set_cons_succ]
                            refine WpT.one (i := 9) (by kernel_rfl) rfl (fun K hK => ?_)
                            go_simp
                            refine hK.out _ _ (fun h => absurd rfl h) ?_
                            clear hK K
                            try simp only [Act.put, List.setIfInBounds_toArray, List.set_cons_zero, List.set_cons_succ]
                            refine WpT.done (by kernel_rfl) ?_ _
                            clear hS0 hwrap
                            go_wp2_with fail
                            have hset1 := (Hrowsz.out.set1 y ((n : Int) + 1)).later ((Drawn.drew _).below (B + 4))
                            have hk1 : ∀ b o, b ≠ B → (wz.setCell ⟨B, y, none⟩ (.int .i64 ((n : Int) + 1))).drew.cell? ⟨b, o, none⟩ = wz.cell? ⟨b, o, none⟩ := fun b o hb => World.cell?_of_block (w := wz) (a := ⟨b, o, none⟩) (Below.heap_setCell _ _ _ _ hb)
                            have hbx1s := (hk1 bx 1 (by omega)).trans hbx1z
                            have hc3s := (hk1 b3 (off3 + j) (by omega)).trans hc3z
                            have hbx2s : bx < (wz.setCell ⟨B, y, none⟩ (.int .i64 ((n : Int) + 1))).drew.heap.size := by show bx < (wz.setCell _ _).heap.size; simpa [World.setCell] using hbx2z
                            have Hset1 := Lib.hid hset1
                            clear hset1 hk1 hbx1z hbx2z hc3z b1 b2' r1 r2 z1 z2 hs hB1 hB2 Hrowsz
                            generalize (wz.setCell ⟨B, y, none⟩ (.int .i64 ((n : Int) + 1))).drew = wy at *
                            have b2' := Hset1.out.box2
                            have r2 := Hset1.out.row2.cell hyv
                            have z2 := Hset1.out.row2.frozen y
                            have hs := Hset1.out.size
                            have hB2 : B + 1 + 1 < wy.heap.size := by omega
                            refine WpT.start (fun w' => w'.cell? ⟨B + 1 + 1 + 1, 0, none⟩ = some (.slice (some ⟨B + 1 + 1, 0, none⟩) vn vn) ∧ w'.cell? ⟨bx, 1, none⟩ = some (.slice (some ⟨b3, off3, none⟩) x.ds.length sc1) ∧ w'.cell? ⟨b3, off3 + j, none⟩ = some (.int .i64 (y : Int))) 8 (by kernel_rfl) ?_
                            have hS0 : wy.drew.cell? ⟨B + 1 + 1 + 1, 0, none⟩ = some (.slice (some ⟨B + 1 + 1, 0, none⟩) vn vn) ∧ wy.drew.cell? ⟨bx, 1, none⟩ = some (.slice (some ⟨b3, off3, none⟩) x.ds.length sc1) ∧ wy.drew.cell? ⟨b3, off3 + j, none⟩ = some (.int .i64 (y : Int)) := ⟨b2', hbx1s, hc3s⟩
                            refine WpT.take (i := 0) (v := ?_) rfl (by kernel_rfl) (by kernel_rfl) (by kernel_rfl) (by kernel_rfl) (fun _ _ _ h => h) (Or.inl ⟨by rfl, ?_⟩) hS0 ?_
                            rotate_left
                            · intro wS hSw; (try dsimp only at hSw); go_simp; (first | done | with_reducible rfl)
                            try simp only [Act.put, List.setIfInBounds_toArray, List.set_cons_zero, List.set_cons_succ]
                            refine WpT.take (i := 1) (v := ?_) rfl (by kernel_rfl) (by kernel_rfl) (by kernel_rfl) (by kernel_rfl) (fun _ _ _ h => h) (Or.inl ⟨by rfl, ?_⟩) hS0 ?_
                            rotate_left
                            · intro wS hSw; (try dsimp only at hSw); go_simp; (first | done | with_reducible rfl)
                            try simp only [Act.put, List.setIfInBounds_toArray, List.set_cons_zero, List.set_cons_succ]
                            refine WpT.take (i := 2) (v := ?_) rfl (by kernel_rfl) (by kernel_rfl) (by kernel_rfl) (by kernel_rfl) (fun _ _ _ h => h) (Or.inl ⟨by rfl, ?_⟩) hS0 ?_
                            rotate_left
                            · intro wS hSw; (try dsimp only at hSw); go_simp; (first | done | with_reducible rfl)
                            try simp only [Act.put, List.setIfInBounds_toArray, List.set_cons_zero, List.set_cons_succ]
                            refine WpT.take (i := 3) (v := ?_) rfl (by kernel_rfl) (by kernel_rfl) (by kernel_rfl) (by kernel_rfl) (fun _ _ _ h => h) (Or.inl ⟨by rfl, ?_⟩) hS0 ?_
                            rotate_left
                            · intro wS hSw; (try dsimp only at hSw); go_simp; (first | done | with_reducible rfl)
                            try simp only [Act.put, List.setIfInBounds_toArray, List.set_cons_zero, List.set_cons_succ]
                            refine WpT.take (i := 4) (v := ?_) rfl (by kernel_rfl) (by kernel_rfl) (by kernel_rfl) (by kernel_rfl) (fun _ _ _ h => h) (Or.inl ⟨by rfl, ?_⟩) hS0 ?_
                            rotate_left
                            · intro wS hSw; (try dsimp only at hSw); go_simp; (first | done | with_reducible rfl)
                            try simp only [Act.put, List.setIfInBounds_toArray, List.set_cons_zero, List.set_cons_succ]
                            refine WpT.take (i := 5) (v := ?_) rfl (by kernel_rfl) (by kernel_rfl) (by kernel_rfl) (by kernel_rfl) (fun _ _ _ h => h) (Or.inl ⟨by rfl, ?_⟩) hS0 ?_
                            rotate_left
                            · intro wS hSw; (try dsimp only at hSw); go_simp; (first | done | with_reducible rfl)
                            try simp only [Act.put, List.setIfInBounds_toArray, List.set_cons_zero, List.set_cons_succ]
                            refine WpT.take (i := 6) (v := ?_) rfl (by kernel_rfl) (by kernel_rfl) (by kernel_rfl) (by kernel_rfl) (fun _ _ _ h => h) (Or.inl ⟨by rfl, ?_⟩) hS0 ?_
                            rotate_left
                            · intro wS hSw; (try dsimp only at hSw); go_simp; (first | done | with_reducible rfl)
                            try simp only [Act.put, List.setIfInBounds_toArray, List.set_cons_zero, List.set_cons_succ]
                            refine WpT.take (i := 7) (v := ?_) rfl (by kernel_rfl) (by kernel_rfl) (by kernel_rfl) (by kernel_rfl) (fun _ _ _ h => h) (Or.inl ⟨by rfl, ?_⟩) hS0 ?_
                            rotate_left
                            · intro wS hSw; (try dsimp only at hSw); go_simp; (first | done | with_reducible rfl)
                            try simp only [Act.put, List.setIfInBounds_toArray, List.set_cons_zero, List.set_cons_succ]
                            refine WpT.one (i := 8) (by kernel_rfl) rfl (fun K hK => ?_)
                            go_simp
                            refine hK.out _ _ (fun h => absurd rfl h) ?_
                            clear hK K
                            try simp only [Act.put, List.setIfInBounds_toArray, List.set_cons_zero, List.set_cons_succ]
                            refine WpT.done (by kernel_rfl) ?_ _
                            clear hS0
                            have hset2 := (Hset1.out.set2 y (k : Int)).later ((Drawn.drew _).below (B + 4))
                            have hk2 : ∀ b o, b ≠ B + 1 + 1 → (wy.setCell ⟨B + 1 + 1, y, none⟩ (.int .i64 (k : Int))).drew.cell? ⟨b, o, none⟩ = wy.cell? ⟨b, o, none⟩ := fun b o hb => World.cell?_of_block (w := wy) (a := ⟨b, o, none⟩) (Below.heap_setCell _ _ _ _ hb)
                            have hbx1t := (hk2 bx 1 (by omega)).trans hbx1s
                            have hbx2t : bx < (wy.setCell ⟨B + 1 + 1, y, none⟩ (.int .i64 (k : Int))).drew.heap.size := by show bx < (wy.setCell _ _).heap.size; simpa [World.setCell] using hbx2s
                            have Hset2 := Lib.hid hset2
                            have Hbx1t := Lib.hid hbx1t
                            have Hbx2t := Lib.hid hbx2t
                            clear hset2 hk2 hbx1s hbx2s hc3s b2' r2 z2 hs hB2 hbx1t hbx2t
                            go_wp2_with fail
                            go_roundw
                            case rel => exact ⟨j + 1, _, by omega, by go_num, by rw [Hp.out, Hd.out, List.cons_append, addS, if_neg (by rw [Hlk.out]; simp)], Hset2.out.congr (fun v _ => by
                              rw [bOf_put Hlk.out]
                              unfold upd
                              by_cases e : v = y
                              · simp [e]
                              · rw [if_neg e, if_neg (by omega)]) (fun v _ => by
                              rw [pOf_put Hlk.out]
                              unfold upd
                              by_cases e : v = y
                              · simp [e]
                              · rw [if_neg e, if_neg (by omega)]), Hbx1t.out, Hbx2t.out⟩
                            case measure => simp [intOf]; omega
                        · have hje : j = x.ds.length := by omega
                          subst hje
                          have hp1 := Hp.out
                          rw [List.drop_length] at hp1
                          have Hp1 := Lib.hid hp1
                          clear hp1 Hp
                          go_wp2_with fail
                          go_roundw
                          case rel => exact ⟨k + 1, acc, by omega, by go_num, Hp1.out, hrows⟩
                          case measure => simp [intOf]; omega
                    · have hke : k = bl.length := by omega
                      subst hke
                      have hp1 := Hp.out
                      rw [List.drop_length] at hp1
                      have Hp1 := Lib.hid hp1
                      clear hp1 Hp
                      go_wp2_with fail
                      go_roundw
                      case rel => exact ⟨n + 1, acc, by omega, by go_num, Hp1.out, hrows⟩
                      case measure => simp [intOf]; omega
                · have hne : n = c.blocks.length := by omega
                  subst hne
                  have hp1 := Hpl.out
                  rw [List.drop_length] at hp1
                  have Hacc := Lib.hid (show placesF c = some acc by rw [hp1]; rfl)
                  clear hp1 Hpl hnl hn q5
                  have hlt4 := places_lt Hacc.out Hok.out.some_.2
                  have Hlt4 := Lib.hid hlt4
                  obtain ⟨AB, hAB⟩ : ∃ AB, AB = aboveF c := ⟨_, rfl⟩
                  have HA := Lib.hid (show onceF fs c (rowOf (aheadF c)) (rowOf (aboveF c)) = usesF c acc (rowOf AH) (rowOf AB) by rw [Hres3.out, Hacc.out, hAB])
                  have hbw : Below w.heap.size w wr := Hbb.out _ (Hup.out _ _ _ hrows).1
                  have hab := aboveOf_any c _ wr (Good.kept (Keep.of_below' hbw (fun k hk _ => hk)) Hc.out) hf
                  rw [← hAB] at hab
                  have hABl : AB.length = c.blocks.length := by rw [hAB]; simp [aboveF]
                  have Hal := Lib.hid hABl
                  have Hab := Lib.hid hab
                  obtain ⟨-, q0, q1, q2, q3, q4, q5⟩ := Hbox.out _ (Hup.out _ _ _ hrows).1
                  clear hlt4 hAB hbw hab hABl
                  go_wp2_with fail
                  refine (Hab.out).mono ?_
                  rintro e w4 ⟨vA, rfl, hvA, hb4⟩
                  have hrows4 := hrows.later (hb4.mono hrows.size)
                  obtain ⟨aA, cA, rfl, hlA, hatA⟩ := rIntss_open hvA
                  rw [Hal.out] at hlA ⊢
                  clear q0 q1 q2 q3 q4 q5 hvA hb4 hrows Hab
                  go_wp2_with fail
                  have hs4 := hrows4.size
                  have hrows5 := hrows4.later (((Below.refl (B + 4) w4).alloc hs4 (.cells #[.slice aA c.blocks.length cA] 36)).alloc (by simp; omega) (.cells #[.func (.func 19) #[] #[.pointer (some ⟨w4.heap.size, 0, none⟩)]] 46))
                  have hatA5 := hatA.below (((Below.refl w4.heap.size w4).alloc (Nat.le_refl _) (.cells #[.slice aA c.blocks.length cA] 36)).alloc (by simp) (.cells #[.func (.func 19) #[] #[.pointer (some ⟨w4.heap.size, 0, none⟩)]] 46))
                  have c19 : ((w4.alloc (.cells #[.slice aA c.blocks.length cA] 36)).alloc (.cells #[.func (.func 19) #[] #[.pointer (some ⟨w4.heap.size, 0, none⟩)]] 46)).cell? ⟨w4.heap.size, 0, none⟩ = some (.slice aA c.blocks.length cA) := by rw [box2_1]; rfl
                  have c20 : ((w4.alloc (.cells #[.slice aA c.blocks.length cA] 36)).alloc (.cells #[.func (.func 19) #[] #[.pointer (some ⟨w4.heap.size, 0, none⟩)]] 46)).cell? ⟨w4.heap.size + 1, 0, none⟩ = some (.func (.func 19) #[] #[.pointer (some ⟨w4.heap.size, 0, none⟩)]) := by rw [box2_2]; rfl
                  have hs5 : ((w4.alloc (.cells #[.slice aA c.blocks.length cA] 36)).alloc (.cells #[.func (.func 19) #[] #[.pointer (some ⟨w4.heap.size, 0, none⟩)]] 46)).heap.size = w4.heap.size + 2 := by simp
                  generalize (w4.alloc (.cells #[.slice aA c.blocks.length cA] 36)).alloc (.cells #[.func (.func 19) #[] #[.pointer (some ⟨w4.heap.size, 0, none⟩)]] 46) = w5 at *
                  generalize w4.heap.size = L at *
                  clear hrows4 hatA
                  have Hrows := Lib.hid hrows5
                  have HatA := Lib.hid hatA5
                  have C19 := Lib.hid c19
                  have C20 := Lib.hid c20
                  have Hs5 := Lib.hid hs5
                  -- all that a round needs of its world
                  have Hw := Lib.hid (show ∀ (w' : World), Below w5.heap.size w5 w' → OnceRows vn B wB w' (fun j => bOf acc (j : Int)) (fun j => pOf acc (j : Int)) ∧ IntssAt w' aA AB ∧ w'.cell? ⟨L, 0, none⟩ = some (.slice aA c.blocks.length cA) ∧ w'.cell? ⟨L + 1, 0, none⟩ = some (.func (.func 19) #[] #[.pointer (some ⟨L, 0, none⟩)]) from fun w' h => ⟨hrows5.later (h.mono (by omega)), hatA5.below h, (h.cell (p := ⟨L, 0, none⟩) (by show L < _; omega)).trans c19, (h.cell (p := ⟨L + 1, 0, none⟩) (by show L + 1 < _; omega)).trans c20⟩)
                  clear hrows5 hatA5 c19 c20 hs4 hs5
                  go_loopw [22] (fun i wr => ∃ n : Nat, n ≤ c.blocks.length ∧ i = .int .i64 n ∧ RowsOK c acc (rowOf AH) (rowOf AB) n ∧ Below w5.heap.size w5 wr) (fun i _ => c.blocks.length - (intOf i).toNat)
                  case atStart => exact ⟨0, Nat.zero_le _, rfl, fun i hi h => by omega, Below.refl _ _⟩
                  case round =>
                    obtain ⟨n, hn, rfl, hrok, hbel⟩ := hrel
                    have Hrok := Lib.hid hrok
                    clear hrok
                    obtain ⟨hrows, hatA, c19, c20⟩ := Hw.out _ hbel
                    obtain ⟨-, q0, q1, q2, q3, q4, q5⟩ := Hbox.out _ (Hup.out _ _ _ hrows).1
                    have hbw : Below w.heap.size w wr := Hbb.out _ (Hup.out _ _ _ hrows).1
                    clear q0 q1 q2 q3 q4 c20 hrows
                    by_cases hnl : n < c.blocks.length
                    · have hnl1 : (n : Int) < (c.blocks.length : Int) := by omega
                      obtain ⟨b, off, u, rfl, -, hb, hcell, hu⟩ := Hat.out n hnl
                      obtain ⟨a2, cap2, rfl, hcap2, hmax2, hat2⟩ := rBlock_val hu
                      have Hcell := Lib.hid hcell
                      obtain ⟨bA, oA, aR, cR, rfl, hbA, hcA, hlR, -⟩ := row_at hatA (n := n) (by rw [Hal.out]; exact hnl)
                      unfold maxLen at hmax2
                      have hbm : c.blocks[n].length ≤ 9223372036854775807 := by omega
                      by_cases hz : (rowOf AB n).length = 0
                      · have z1 : (((rowOf AB n).length : Int) == 0) = true := by simpa using hz
                        have Hz := Lib.hid (List.eq_nil_of_length_eq_zero hz)
                        clear hz hat2 hu hcell hbw hcap2 hmax2 hatA
                        generalize hrow : rowOf AB n = row at *
                        have Hrow := Lib.hid hrow
                        clear hrow
                        generalize c.blocks[n] = bl at *
                        go_wp2_with fail
                        go_roundw
                        case rel => exact ⟨n + 1, by omega, by go_num, fun i hi h1 h2 => by
                          by_cases e : i < n
                          · exact Hrok.out i hi e h2
                          · obtain rfl : i = n := by omega
                            exact absurd (Hrow.out.trans Hz.out) h2, hbel⟩
                        case measure => simp [intOf]; omega
                      · have z1 : (((rowOf AB n).length : Int) == 0) = false := by simpa using hz
                        have Hz := Lib.hid (show rowOf AB n ≠ [] from fun e => hz (by rw [e]; rfl))
                        have Hbad := Lib.hid (fun k hk j hj h => usesF_bad (c := c) (acc := acc) (ahead := rowOf AH) (above := rowOf AB) (i := n) (k := k) (n := j) hnl Hz.out hk hj h)
                        have Hph := Lib.hid (fun k hk hp => phi_args (A := fun i => (rowOf AH i).length) Hok.out Hb0'.out hnl (k := k) hk hp)
                        have Hin := Lib.hid (fun k hk => (ds_in (A := fun i => (rowOf AH i).length) Hok.out Hb0'.out hnl (k := k) hk).2)
                        have Hat2 := Lib.hid hat2
                        clear hz hat2 hu hcell hbw hcap2 hmax2 hatA
                        generalize rowOf AB n = row at *
                        generalize hbl : c.blocks[n] = bl at *
                        have Hbl := Lib.hid hbl
                        clear hbl
                        go_wp2_with fail
                        clear q5 c19 hcA hbA z1
                        have hok0 : BlkOK c acc (rowOf AH) (rowOf AB) n bl 0 := fun k' _ h => absurd h (by omega)
                        go_loopw [23] (fun i wr => ∃ k : Nat, k ≤ bl.length ∧ i = .int .i64 k ∧ BlkOK c acc (rowOf AH) (rowOf AB) n bl k ∧ Below w5.heap.size w5 wr) (fun i _ => bl.length - (intOf i).toNat)
                        case atStart => exact ⟨0, Nat.zero_le _, rfl, hok0, hbel⟩
                        case round =>
                          clear hbel hok0
                          obtain ⟨k, hk, rfl, hbk, hbel⟩ := hrel
                          have Hbk := Lib.hid hbk
                          clear hbk
                          obtain ⟨hrows, -, -, -⟩ := Hw.out _ hbel
                          obtain ⟨-, q0, q1, q2, q3, q4, q5⟩ := Hbox.out _ (Hup.out _ _ _ hrows).1
                          have hbw : Below w.heap.size w wr := Hbb.out _ (Hup.out _ _ _ hrows).1
                          have hcx : wr.cell? ⟨b, off + n, none⟩ = some (.slice a2 bl.length cap2) := (hbw.cell (p := ⟨b, off + n, none⟩) hb).trans Hcell.out
                          clear q0 q1 q2 q3 q4 hrows
                          by_cases hkl : k < bl.length
                          · have hkl1 : (k : Int) < (bl.length : Int) := by omega
                            obtain ⟨b2, off2, v1, v2, v6, rfl, -, hb2, hx0, hx1, hx2, hx3, hx4, hx5, hI, rx1, rx2, rx6⟩ := Hat2.out k hkl
                            obtain ⟨sa1, sc1, rfl⟩ := rSlice_shape rx1
                            obtain ⟨sa2, sc2, rfl, hl1, hi1, -⟩ := rInts_open rx2
                            obtain ⟨sa6, sc6, rfl⟩ := rSlice_shape rx6
                            have hy0 : wr.cell? ⟨b2, off2 + k * 6, none⟩ = _ := (hbw.cell (p := ⟨b2, off2 + k * 6, none⟩) hb2).trans hx0
                            have hy1 : wr.cell? ⟨b2, off2 + k * 6 + 1, none⟩ = _ := (hbw.cell (p := ⟨b2, off2 + k * 6 + 1, none⟩) hb2).trans hx1
                            have hy2 : wr.cell? ⟨b2, off2 + k * 6 + 2, none⟩ = _ := (hbw.cell (p := ⟨b2, off2 + k * 6 + 2, none⟩) hb2).trans hx2
                            have hy3 : wr.cell? ⟨b2, off2 + k * 6 + 3, none⟩ = _ := (hbw.cell (p := ⟨b2, off2 + k * 6 + 3, none⟩) hb2).trans hx3
                            have hy4 : wr.cell? ⟨b2, off2 + k * 6 + 4, none⟩ = _ := (hbw.cell (p := ⟨b2, off2 + k * 6 + 4, none⟩) hb2).trans hx4
                            have hy5 : wr.cell? ⟨b2, off2 + k * 6 + 5, none⟩ = _ := (hbw.cell (p := ⟨b2, off2 + k * 6 + 5, none⟩) hb2).trans hx5
                            have Hi1 := Lib.hid hi1
                            have Hbad2 := Lib.hid (Hbad.out k hkl)
                            have Hph2 := Lib.hid (Hph.out k hkl)
                            have Hin2 := Lib.hid (Hin.out k hkl)
                            have hgs : w5.heap.size ≤ wr.heap.size := hbel.size
                            clear hx0 hx1 hx2 hx3 hx4 hx5 hI rx1 rx2 rx6 hi1 hbw
                            generalize hxe : bl[k] = x at *
                            have Hxe := Lib.hid hxe
                            clear hxe
                            go_wp2_with fail
                            have hbel' := hbel.alloc hgs (.cells #[.int .i64 x.op, .slice sa1 x.ds.length sc1, .slice sa2 x.ars.length sc2, .int .i64 x.n, .string x.s, .slice sa6 x.to.length sc6] 41)
                            have hop : (wr.alloc (.cells #[.int .i64 x.op, .slice sa1 x.ds.length sc1, .slice sa2 x.ars.length sc2, .int .i64 x.n, .string x.s, .slice sa6 x.to.length sc6] 41)).cell? ⟨wr.heap.size, 0, none⟩ = some (.int .i64 x.op) := by rw [World.cell?_alloc_at _ _ _ _ rfl]; rfl
                            have hoa : (wr.alloc (.cells #[.int .i64 x.op, .slice sa1 x.ds.length sc1, .slice sa2 x.ars.length sc2, .int .i64 x.n, .string x.s, .slice sa6 x.to.length sc6] 41)).cell? ⟨wr.heap.size, 2, none⟩ = some (.slice sa2 x.ars.length sc2) := by rw [World.cell?_alloc_at _ _ _ _ rfl]; rfl
                            have hbx : wr.heap.size < (wr.alloc (.cells #[.int .i64 x.op, .slice sa1 x.ds.length sc1, .slice sa2 x.ars.length sc2, .int .i64 x.n, .string x.s, .slice sa6 x.to.length sc6] 41)).heap.size := by simp
                            clear hy0 hy1 hy2 hy3 hy4 hy5 hbel hgs q5 hcx
                            generalize wr.alloc (.cells #[.int .i64 x.op, .slice sa1 x.ds.length sc1, .slice sa2 x.ars.length sc2, .int .i64 x.n, .string x.s, .slice sa6 x.to.length sc6] 41) = w6 at *
                            generalize wr.heap.size = bx at *
                            go_loopw [25] (fun i wr => ∃ j : Nat, j ≤ x.ars.length ∧ i = .int .i64 j ∧ (∀ j', j' < j → argOK c acc (rowOf AH) (rowOf AB) n k j' x = true) ∧ Below w5.heap.size w5 wr ∧ Below w6.heap.size w6 wr) (fun i _ => x.ars.length - (intOf i).toNat)
                            case atStart => exact ⟨0, Nat.zero_le _, rfl, fun j h => absurd h (by omega), hbel', Below.refl _ _⟩
                            case round =>
                              clear hbel'
                              obtain ⟨j, hj, rfl, hargs, hbel, hbel3⟩ := hrel
                              have Hargs := Lib.hid hargs
                              clear hargs
                              have hoa' := (hbel3.cell (p := ⟨bx, 2, none⟩) hbx).trans hoa
                              by_cases hjl : j < x.ars.length
                              · have hjl1 : (j : Int) < (x.ars.length : Int) := by omega
                                have hop' := (hbel3.cell (p := ⟨bx, 0, none⟩) hbx).trans hop
                                obtain ⟨hrows, hatA, c19, c20⟩ := Hw.out _ hbel
                                obtain ⟨-, q0, q1, q2, q3, q4, q5⟩ := Hbox.out _ (Hup.out _ _ _ hrows).1
                                have hbw : Below w.heap.size w wr := Hbb.out _ (Hup.out _ _ _ hrows).1
                                obtain ⟨b3, off3, rfl, hb3, hc3⟩ := (Hi1.out.below hbw) j hjl
                                have hyi : 0 ≤ x.ars[j] ∧ x.ars[j] ≤ c.vars - 1 := by
                                  have := List.all_eq_true.1 Hin2.out _ (List.getElem_mem hjl)
                                  simpa using this
                                have hAH := HatH.out.below (Hup.out _ _ _ hrows).2
                                have b1 := hrows.box1
                                have b2' := hrows.box2
                                have r1 := hrows.row1
                                have r2 := hrows.row2
                                have Hrr := Lib.hid hrows
                                clear q0 q1 q2 q3 q4 hrows
                                by_cases hp : x.op = 14
                                · have hp1 : (x.op == 14) = true := by simpa using hp
                                  have hjH : j < (rowOf AH n).length := by
                                    have := Hph2.out hp
                                    omega
                                  obtain ⟨bH, oH, aR2, cR2, hae0, hbH, hcH, hlR2, hatR2⟩ := row_at hAH (n := n) (by rw [HAl.out]; exact hnl)
                                  obtain ⟨rfl, rfl⟩ := (show _ ∧ _ by simpa using hae0)
                                  obtain ⟨bQ, oQ, rfl, hbQ, hcQ⟩ := hatR2 j hjH
                                  have hq0 : 0 ≤ (rowOf AH n)[j] ∧ (rowOf AH n)[j] < (c.blocks.length : Int) := by
                                    have hm : (rowOf AH n)[j] ∈ aheadRow c c.blocks.length n := by
                                      have e : rowOf AH n = aheadRow c c.blocks.length n := by simp [rowOf, HAH.out, aheadF, hnl]
                                      rw [← e]
                                      exact List.getElem_mem _
                                    have := mem_aheadRow c _ n _ hm
                                    omega
                                  obtain ⟨q, hq⟩ := Int.eq_ofNat_of_zero_le hq0.1
                                  have hgd : (rowOf AH n).getD j 0 = (q : Int) := by rw [← hq]; simp [List.getD, hjH]
                                  rw [hq] at hcQ hq0
                                  have hqn : q < c.blocks.length := by omega
                                  have hqn1 : (q : Int) < (c.blocks.length : Int) := by omega
                                  have hjH1 : (j : Int) < ((rowOf AH n).length : Int) := by omega
                                  obtain ⟨bA3, oA3, aR3, cR3, hae, hbA3, hcA3, hlR3, -⟩ := row_at hatA (n := q) (by rw [Hal.out]; exact hqn)
                                  obtain ⟨rfl, rfl⟩ : bA3 = bA ∧ oA3 = oA := by simpa using hae.symm
                                  obtain ⟨bq, offq, uq, hae2, -, hbq, hcellq, huq⟩ := Hat.out q hqn
                                  obtain ⟨rfl, rfl⟩ : bq = b ∧ offq = off := by simpa using hae2.symm
                                  obtain ⟨a4, cap4, rfl, hcap4, hmax4, -⟩ := rBlock_val huq
                                  unfold maxLen at hmax4
                                  have hcxq : wr.cell? ⟨bq, offq + q, none⟩ = some (.slice a4 c.blocks[q].length cap4) := (hbw.cell (p := ⟨bq, offq + q, none⟩) hbq).trans hcellq
                                  have hgq : c.blocks.getD q [] = c.blocks[q] := by simp [hqn]
                                  have hbq2 : (c.blocks[q].length : Int) ≤ 9223372036854775807 := by omega
                                  obtain ⟨y, hy⟩ := Int.eq_ofNat_of_zero_le hyi.1
                                  have Harg := Lib.hid (show argOK c acc (rowOf AH) (rowOf AB) n k j x = ((rowOf AB q).isEmpty || knownF acc (rowOf AB) (y : Int) q c.blocks[q].length) by
                                    unfold argOK
                                    rw [if_pos hp]
                                    simp only [hgd, Int.toNat_natCast, hgq]
                                    rw [show x.ars.getD j 0 = (y : Int) by rw [← hy]; simp [List.getD, hjl]])
                                  rw [hy] at hc3 hyi
                                  have hyv : y < vn := by have := Hvn.out; omega
                                  have Hkn := Lib.hid (known2_any acc AB vn y q c.blocks[q].length (B + 1) (B + 1 + 1 + 1) (L + 1) L B (B + 1 + 1) (some ⟨bA3, oA3, none⟩) cA wr (by rw [Hal.out]; exact hqn) hbq2 (by rw [Hal.out]; exact hlA) hyv hvn3 Hlt4.out b1 b2' c20 (by rw [Hal.out]; exact c19) r1 r2 hatA)
                                  clear hp hgd hq hae hae0 hae2 huq hcellq hcap4 hmax4 hgq hAH hatR2 hop hoa hq0 hy hyi r1 r2 hatA b1 b2' c20
                                  generalize hrq : rowOf AB q = rq at *
                                  have Hrq := Lib.hid hrq
                                  clear hrq
                                  generalize c.blocks[q].length = lq at *
                                  generalize rowOf AH n = rh at *
                                  by_cases hz : rq.length = 0
                                  · have Hok2 := Lib.hid (show argOK c acc (rowOf AH) (rowOf AB) n k j x = true by rw [Harg.out, List.eq_nil_of_length_eq_zero hz]; rfl)
                                    obtain rfl := List.eq_nil_of_length_eq_zero hz
                                    clear hz
                                    go_wp2_with fail
                                    go_roundw
                                    case rel => exact ⟨j + 1, by omega, by go_num, fun j' h => by
                                      by_cases e : j' < j
                                      · exact Hargs.out j' e
                                      · obtain rfl : j' = j := by omega
                                        exact Hok2.out, hbel, hbel3⟩
                                    case measure => simp [intOf]; omega
                                  · have hz1 : ((rq.length : Int) == 0) = false := by simpa using hz
                                    have hre : rq.isEmpty = false := by
                                      cases rq with
                                      | nil => exact absurd rfl hz
                                      | cons _ _ => rfl
                                    have Hre := Lib.hid hre
                                    have hpos : 0 < rq.length := by omega
                                    clear hz hre
                                    go_wp2_with fail
                                    refine (Hkn.out).mono ?_
                                    rintro e w7 ⟨rfl, rfl⟩
                                    clear c19 q5
                                    cases hkn : knownF acc (rowOf AB) (y : Int) q lq with
                                    | true =>
                                      have Hok2 := Lib.hid (show argOK c acc (rowOf AH) (rowOf AB) n k j x = true by rw [Harg.out, hkn, Bool.or_true])
                                      clear hkn
                                      go_wp2_with fail
                                      go_roundw
                                      case rel => exact ⟨j + 1, by omega, by go_num, fun j' h => by
                                        by_cases e : j' < j
                                        · exact Hargs.out j' e
                                        · obtain rfl : j' = j := by omega
                                          exact Hok2.out, hbel, hbel3⟩
                                      case measure => simp [intOf]; omega
                                    | false =>
                                      have Hok2 := Lib.hid (show argOK c acc (rowOf AH) (rowOf AB) n k j x = false by rw [Harg.out, hkn, Hre.out]; rfl)
                                      have HA2 := Lib.hid (HA.out.trans (Hbad2.out j hjl Hok2.out))
                                      clear hkn
                                      go_wp2_with fail
                                      go_ret
                                      refine ⟨?_, hbw⟩
                                      rw [HA2.out]
                                      rfl
                                · have hp1 : (x.op == 14) = false := by simpa using hp
                                  have Harg := Lib.hid (show argOK c acc (rowOf AH) (rowOf AB) n k j x = knownF acc (rowOf AB) (x.ars[j]) n k by
                                    unfold argOK
                                    rw [if_neg hp, show x.ars.getD j 0 = x.ars[j] by simp [List.getD, hjl]])
                                  obtain ⟨y, hy⟩ := Int.eq_ofNat_of_zero_le hyi.1
                                  rw [hy] at hc3 hyi Harg
                                  have hyv : y < vn := by have := Hvn.out; omega
                                  have Hkn := Lib.hid (known2_any acc AB vn y n k (B + 1) (B + 1 + 1 + 1) (L + 1) L B (B + 1 + 1) (some ⟨bA, oA, none⟩) cA wr (by rw [Hal.out]; exact hnl) (by omega) (by rw [Hal.out]; exact hlA) hyv hvn3 Hlt4.out b1 b2' c20 (by rw [Hal.out]; exact c19) r1 r2 hatA)
                                  clear hp hAH hop hoa hy hyi r1 r2 hatA b1 b2' c19 c20 q5
                                  go_wp2_with fail
                                  refine (Hkn.out).mono ?_
                                  rintro e w7 ⟨rfl, rfl⟩
                                  cases hkn : knownF acc (rowOf AB) (y : Int) n k with
                                  | true =>
                                    have Hok2 := Lib.hid (show argOK c acc (rowOf AH) (rowOf AB) n k j x = true by rw [Harg.out, hkn])
                                    clear hkn
                                    go_wp2_with fail
                                    go_roundw
                                    case rel => exact ⟨j + 1, by omega, by go_num, fun j' h => by
                                      by_cases e : j' < j
                                      · exact Hargs.out j' e
                                      · obtain rfl : j' = j := by omega
                                        exact Hok2.out, hbel, hbel3⟩
                                    case measure => simp [intOf]; omega
                                  | false =>
                                    have Hok2 := Lib.hid (show argOK c acc (rowOf AH) (rowOf AB) n k j x = false by rw [Harg.out, hkn])
                                    have HA2 := Lib.hid (HA.out.trans (Hbad2.out j hjl Hok2.out))
                                    clear hkn
                                    go_wp2_with fail
                                    go_ret
                                    refine ⟨?_, hbw⟩
                                    rw [HA2.out]
                                    rfl
                              · have hje : j = x.ars.length := by omega
                                subst hje
                                go_wp2_with fail
                                go_roundw
                                case rel => exact ⟨k + 1, by omega, by go_num, fun k' h1 h2 j' h3 => by
                                  by_cases e : k' < k
                                  · exact Hbk.out k' h1 e j' h3
                                  · obtain rfl : k' = k := by omega
                                    rw [Hxe.out] at h3 ⊢
                                    exact Hargs.out j' h3, hbel⟩
                                case measure => simp [intOf]; omega
                          · have hke : k = bl.length := by omega
                            subst hke
                            go_wp2_with fail
                            go_roundw
                            case rel => exact ⟨n + 1, by omega, by go_num, fun i hi h1 h2 => by
                              by_cases e : i < n
                              · exact Hrok.out i hi e h2
                              · obtain rfl : i = n := by omega
                                rw [Hbl.out]
                                exact Hbk.out, hbel⟩
                            case measure => simp [intOf]; omega
                    · have hne : n = c.blocks.length := by omega
                      subst hne
                      have HA2 := Lib.hid (HA.out.trans (usesF_ok Hrok.out))
                      go_wp2_with fail
                      go_ret
                      refine ⟨?_, hbw⟩
                      rw [HA2.out]
                      rfl
end Go.Proofs.YthgfdcoicihpdaaDoor

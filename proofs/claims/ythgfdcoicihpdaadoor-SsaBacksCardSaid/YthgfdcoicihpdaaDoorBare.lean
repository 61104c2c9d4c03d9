/-
  ssa.bare: code without its Phis: the contract.
-/
import Derived.Test.YthgfdcoicihpdaaDoorPhis
import Derived.Test.YthgfdcoicihpdaaDoorMat
import Derived.Deep.RegionLaw
import Derived.Deep.AppendLies
namespace Go.Pst
open Go.RowKit

/-- s[k:]. -/
theorem run_drop {P : Program} {t e : TypeId} {sz : Nat} (hu : P.underlying t = some (.slice e)) (hsz : ∀ w, (sizeOf e).run P w = .ok sz w) (a : Option Addr) (len cap k : Nat) (hk : k ≤ len) (w : World) :
    (Instr.slice t (.slice a len cap) (some (.int .i64 (k : Int))) none none).run P w = .ok (.slice (if cap = k then a else a.map (·.add (k * sz))) (len - k) (cap - k)) w := by
  have h0 : (0 : Int) ≤ (k : Int) ∧ (k : Int) ≤ (len : Int) := by omega
  simp [Instr.slice, run_underlying hu, Result.andThen, Instr.sliceBounds, Instr.sliceBound, asIntOf, hsz, hk]
theorem rSlice_drop {α : Type} {sz : Nat} {R : Rep α} {S : Nat → Prop} {w : World} {a : Option Addr} {l : List α} {cap k : Nat} (h : rSlice sz R S w [.slice a l.length cap] l) (hk : k ≤ l.length) :
    rSlice sz R S w [.slice (if cap = k then a else a.map (·.add (k * sz))) (l.length - k) (cap - k)] (l.drop k) := by
  obtain ⟨a', cap', he, h2, h3, h4⟩ := rSlice_val h
  simp only [Value.slice.injEq, true_and] at he
  obtain ⟨rfl, rfl⟩ := he
  refine ⟨_, cap - k, by rw [List.length_drop], by rw [List.length_drop]; omega, by omega, fun i hi => ?_⟩
  rw [List.length_drop] at hi
  obtain ⟨b, off, es, ha, hS, hb, hl, hc, hR⟩ := h4 (k + i) (by omega)
  refine ⟨b, off + k * sz, es, ?_, hS, hb, hl, fun j hj => ?_, ?_⟩
  · rw [if_neg (by omega), ha]
    simp [Addr.add]
  · rw [← hc j hj]
    congr 2
    rw [Nat.add_mul]
    omega
  · rw [List.getElem_drop]
    exact hR
/-- Behind 's.f = append(s.f, x)' at a struct of the call's own: the row, the struct, what lies below. -/
theorem own_field {wr w1 : World} {o : Obj} {B base : Nat} {C : Array Value} {T e : TypeId} {row : Option Nat} {v' : Value} {n j : Nat} {xs : List Value}
    (hh : wr.heap[B]? = some (.cells C T)) (hg : (wr.alloc o).drew.grownBy w1 row) (n1 : some B ≠ row) (hlow : ∀ k, row = some k → B ≤ k) (ho : w1.ownsRow base e 1 v' n xs) (hb : B < base) :
    (w1.setCell ⟨B, j, none⟩ v').ownsRow base e 1 v' n xs ∧ (w1.setCell ⟨B, j, none⟩ v').heap[B]? = some (.cells (C.setIfInBounds j v') T) ∧ Below B wr (w1.setCell ⟨B, j, none⟩ v') := by
  have hlt := (Array.getElem?_eq_some_iff.1 hh).1
  have h1 : w1.heap[B]? = some (.cells C T) := by
    rw [hg.block B (by simp; omega) n1]
    show (wr.alloc o).heap[B]? = _
    rw [Below.heap_alloc _ _ _ hlt]
    exact hh
  refine ⟨ownsRow_block ho (fun k hk => Below.heap_setCell _ _ _ _ ?_), heap_setCell_same _ _ _ _ _ _ h1, ?_⟩
  · have := (ho.lt k hk).1
    show k ≠ B
    omega
  · exact ((((Below.refl B wr).alloc (by omega) o).drew).grown hg (by simp; omega) hlow).setCell (Nat.le_refl _) _
end Go.Pst
namespace Go.Proofs.YthgfdcoicihpdaaDoor
open Go.RowKit Go.Pst
set_option linter.unusedVariables false
set_option linter.unusedSimpArgs false

theorem Tryd.info_blk : (Tryd.prog.info? 38).map (fun i => (i.zero, i.size, i.bytes)) = some (some (.slice none 0 0), 1, 24) := by kernel_rfl
theorem Tryd.size_instr (w : World) : (sizeOf 41).run Tryd.prog w = .ok 6 w := by kernel_rfl

/-- What the loop has collected of the blocks. -/
def BareAt (c : PCode) (w : World) (xs : List Value) (n : Nat) : Prop := xs.length = n ∧ ∀ i (h : i < c.blocks.length), i < n → ∃ u, xs[i]? = some u ∧ rBlock (fun _ => True) w [u] (c.blocks[i].drop (phisN c.blocks[i]))

set_option maxRecDepth 100000 in
set_option maxHeartbeats 4000000 in
theorem bare_any (c : PCode) (cs : List Value) (w : World) (hc : rCode (fun _ => True) w cs c) (hf : FitCode c) :
    Calls Tryd.prog 24 #[.agg cs.toArray] w fun e w' => ∃ cs', e = .returned (.agg (List.toArray cs')) ∧ rCode (fun _ => True) w' cs' (plainF c) ∧ Below w.heap.size w w' := by
  obtain ⟨i0, hi0, hz0, hz1, hz2⟩ := info_parts Tryd.info_blk
  obtain ⟨v5, rfl, hI, hbs⟩ := hc
  obtain ⟨a, cap, rfl, hcap, hmax, hat⟩ := rSlice_one hbs
  unfold maxLen at hmax
  have hfit := hf.1
  unfold reachBytes at hfit
  have hnb : c.blocks.length ≤ 9223372036854775807 := by omega
  have Hat := Lib.hid hat
  have HI := Lib.hid hI
  clear hat hI hbs hcap hmax
  go_enter Tryd.func24, Tryd.ntmps24
  go_wp2_with fail
  generalize hW0 : (w.alloc (.cells #[.string c.name, .int .i64 c.params, .int .i64 c.results, .int .i64 c.vars, .int .i64 c.slots, .slice a c.blocks.length cap] 28)).alloc (.cells #[.string ⟨#[]⟩, .int .i64 0, .int .i64 0, .int .i64 0, .int .i64 0, .slice none 0 0] 28) = W0
  have hs0 : W0.heap.size = w.heap.size + 1 + 1 := by rw [← hW0]; simp
  have hb0 : Below w.heap.size w W0 := by rw [← hW0]; exact below_box2 _ _ _
  have hz : W0.heap[w.heap.size + 1]? = some (.cells #[.string ⟨#[]⟩, .int .i64 0, .int .i64 0, .int .i64 0, .int .i64 0, .slice none 0 0] 28) := by
    rw [← hW0]
    have h := heap_alloc_new (w.alloc (.cells #[.string c.name, .int .i64 c.params, .int .i64 c.results, .int .i64 c.vars, .int .i64 c.slots, .slice a c.blocks.length cap] 28)) (.cells #[.string ⟨#[]⟩, .int .i64 0, .int .i64 0, .int .i64 0, .int .i64 0, .slice none 0 0] 28)
    rw [World.size_alloc] at h
    exact h
  have Hs0 := Lib.hid hs0
  have Hb0 := Lib.hid hb0
  have Hz := Lib.hid hz
  have hat0 : BareAt c w [] 0 := ⟨rfl, fun i _ h => absurd h (by omega)⟩
  have hh0 : (W0.alloc (.cells #[.string c.name, .int .i64 c.params, .int .i64 c.results, .int .i64 c.vars, .int .i64 c.slots, .slice none 0 0] 28)).heap[w.heap.size + 1 + 1]? = some (.cells #[.string c.name, .int .i64 c.params, .int .i64 c.results, .int .i64 c.vars, .int .i64 c.slots, .slice none 0 0] 28) := by rw [← hs0]; exact heap_alloc_new _ _
  have hbl0 : Below (w.heap.size + 1 + 1) W0 (W0.alloc (.cells #[.string c.name, .int .i64 c.params, .int .i64 c.results, .int .i64 c.vars, .int .i64 c.slots, .slice none 0 0] 28)) := (Below.refl _ _).alloc (by omega) _
  clear hW0 hs0 hb0 hz
  go_loopw [11] (fun i wr => ∃ (n : Nat) (xs : List Value) (v : Value), n ≤ c.blocks.length ∧ i = .int .i64 n ∧ wr.ownsRow (w.heap.size + 1 + 1 + 1) 38 1 v n xs ∧ BareAt c w xs n ∧
      wr.heap[w.heap.size + 1 + 1]? = some (.cells #[.string c.name, .int .i64 c.params, .int .i64 c.results, .int .i64 c.vars, .int .i64 c.slots, v] 28) ∧ Below (w.heap.size + 1 + 1) W0 wr) (fun i _ => c.blocks.length - (intOf i).toNat)
  case atStart => exact ⟨0, [], .slice none 0 0, Nat.zero_le _, rfl, World.ownsRow_nil _ _ _ _, hat0, hh0, hbl0⟩
  case round =>
    clear hat0 hh0 hbl0
    obtain ⟨n, xs, v, hn, rfl, hown, hba, hh, hbel⟩ := hrel
    obtain ⟨av, cv, rfl⟩ := ownsRow_slice hown
    have c5 : wr.cell? ⟨w.heap.size + 1 + 1, 5, none⟩ = some (.slice av n cv) := by simp [World.cell?, hh]
    have f5 : wr.frozen? ⟨w.heap.size + 1 + 1, 5, none⟩ = false := by simp [World.frozen?, hh]
    have hlt := (Array.getElem?_eq_some_iff.1 hh).1
    by_cases hnl : n < c.blocks.length
    · have hnl1 : (n : Int) < (c.blocks.length : Int) := by omega
      have hbw : Below w.heap.size w wr := Hb0.out.trans (hbel.mono (by omega))
      obtain ⟨b, off, u, rfl, -, hb, hcell, hu⟩ := Hat.out n hnl
      obtain ⟨a2, cap2, rfl, hcap2, hmax2, -⟩ := rBlock_val hu
      have hcx : wr.cell? ⟨b, off + n, none⟩ = some (.slice a2 c.blocks[n].length cap2) := (hbw.cell (p := ⟨b, off + n, none⟩) hb).trans hcell
      have hub : rBlock (fun _ => True) wr [.slice a2 c.blocks[n].length cap2] c.blocks[n] := Good.kept (Keep.of_below' hbw (fun k hk _ => hk)) hu
      have hle := phisN_le c.blocks[n]
      have hdrop := rSlice_drop hu hle
      have hsl := run_drop (P := Tryd.prog) Tryd.underlying38 Tryd.size_instr a2 c.blocks[n].length cap2 (phisN c.blocks[n]) hle
      obtain ⟨a3, ha3⟩ : ∃ a3, a3 = (if cap2 = phisN c.blocks[n] then a2 else a2.map (·.add (phisN c.blocks[n] * 6))) := ⟨_, rfl⟩
      rw [← ha3] at hsl hdrop
      have Hown := Lib.hid hown
      have Hba := Lib.hid hba
      have Hhh := Lib.hid hh
      have Hdrop := Lib.hid hdrop
      have Hub := Lib.hid hub
      have hphis := fun (w' : World) (h : Keep (fun _ => True) wr w') => phis_any c.blocks[n] _ w' (Good.kept h Hub.out)
      have Hph := Lib.hid hphis
      have hlt1 : w.heap.size + 1 + 1 + 1 ≤ wr.heap.size := hlt
      have n1 : some (w.heap.size + 1 + 1) ≠ (Value.slice av n cv).ownBlock := fun e => by have := (hown.lt _ e.symm).1; omega
      have hfz : ∀ o, (wr.alloc o).drew.frozen? ⟨w.heap.size + 1 + 1, 5, none⟩ = false := fun o => (World.frozen?_of_block (w := wr) (Below.heap_alloc _ _ _ hlt)).trans f5
      clear hown hba hh hcell hu ha3 hdrop hub hphis hbw hcap2 hmax2
      generalize hbl : c.blocks[n] = bl at *
      go_wp2_with fail
      have hcl : ∀ (o : Obj) (b j : Nat), b < wr.heap.size → (wr.alloc o).cell? ⟨b, j, none⟩ = wr.cell? ⟨b, j, none⟩ := fun o b j h => World.cell?_alloc_lt _ _ _ h
      go_region_law (first
        | (refine step_append_lies _ (by rfl) _ _ _ (by rfl) (w.heap.size + 1 + 1 + 1) 38 i0 (.slice none 0 0) 1 24 Tryd.underlying26 hi0 hz0 hz1 hz2 rfl (by decide) _ _ _ (by rfl) ((Hown.out.alloc _).drew)
            ⟨wr.heap.size, 0, none⟩ 1 1 [.slice a3 (bl.length - phisN bl) (cap2 - phisN bl)] (by rfl) (by rfl) (World.news_of_block (cs := #[.slice a3 (bl.length - phisN bl) (cap2 - phisN bl)]) (t := 38) (fr := (0, 0)) (heap_alloc_new wr _)) (by simp [Value.oneCell'])
            (by decide) (by unfold maxLen; omega) (by omega) (by simp; omega) (wr.heap.size + 1) (by simp) ?_; intro gg cap w1 hown1 hgrow hat hlt2; have k0 : w1.cell? ⟨w.heap.size + 1 + 1, 5, none⟩ = some (.slice av n cv) := (hgrow.cell_far _ (by simp; omega) n1).trans ((hcl _ _ _ hlt).trans c5); have k1 : w1.frozen? ⟨w.heap.size + 1 + 1, 5, none⟩ = false := (hgrow.frozen_far _ (by simp; omega) n1).trans (hfz _))
        | (go_simp; go_at_call 12; refine (Hph.out _ (by first | exact Keep.refl _ _ | exact Keep.drew _ _)).mono ?_; rintro e w' ⟨rfl, rfl⟩))
      all_goals go_wp2_with fail
      all_goals go_roundw
      case rel | rel | rel =>
        obtain ⟨q1, q2, q3⟩ := own_field (j := 5) Hhh.out hgrow n1 (fun k hk => by have := (Hown.out.lt k hk).1; omega) hown1 (by omega)
        refine ⟨n + 1, _, _, by omega, by go_num, q1, ⟨by simp [Hba.out.1], fun i hi hin => ?_⟩, q2, hbel.trans q3⟩
        by_cases e : i < n
        · obtain ⟨u, hu, hr⟩ := Hba.out.2 i hi e
          exact ⟨u, by rw [List.getElem?_append_left (by rw [Hba.out.1]; exact e)]; exact hu, hr⟩
        · obtain rfl : i = n := by omega
          refine ⟨_, by rw [List.getElem?_append_right (by rw [Hba.out.1]; omega), Hba.out.1, Nat.sub_self]; rfl, ?_⟩
          rw [hbl]
          exact Hdrop.out
      all_goals (simp [intOf]; omega)
    · have hne : n = c.blocks.length := by omega
      subst hne
      have z1 := hbel.block (w.heap.size + 1) (by omega)
      rw [Hz.out] at z1
      have g : ∀ j, wr.cell? ⟨w.heap.size + 1 + 1, j, none⟩ = (#[.string c.name, .int .i64 c.params, .int .i64 c.results, .int .i64 c.vars, .int .i64 c.slots, .slice av c.blocks.length cv] : Array Value)[j]? := fun j => by simp [World.cell?, hh]
      have g0 := g 0
      have g1 := g 1
      have g2 := g 2
      have g3 := g 3
      have g4 := g 4
      simp at g0 g1 g2 g3 g4
      have y : ∀ j, wr.cell? ⟨w.heap.size + 1, j, none⟩ = (#[.string ⟨#[]⟩, .int .i64 0, .int .i64 0, .int .i64 0, .int .i64 0, .slice none 0 0] : Array Value)[j]? := fun j => by simp [World.cell?, z1]
      have y0 := y 0
      have y1 := y 1
      have y2 := y 2
      have y3 := y 3
      have y4 := y 4
      have y5 := y 5
      simp at y0 y1 y2 y3 y4 y5
      have yf : ∀ j, wr.frozen? ⟨w.heap.size + 1, j, none⟩ = false := fun j => by simp [World.frozen?, z1]
      have yl := (Array.getElem?_eq_some_iff.1 z1).1
      have Hown := Lib.hid hown
      have Hba := Lib.hid hba
      have s5 := heap_setCell_same _ _ 5 _ _ (.slice av c.blocks.length cv) (heap_setCell_same _ _ 4 _ _ (.int .i64 c.slots) (heap_setCell_same _ _ 3 _ _ (.int .i64 c.vars) (heap_setCell_same _ _ 2 _ _ (.int .i64 c.results) (heap_setCell_same _ _ 1 _ _ (.int .i64 c.params) (heap_setCell_same _ _ 0 _ _ (.string c.name) z1)))))
      have hb9 := (((((hbel.mono (show w.heap.size + 1 ≤ _ by omega)).setCell (p := ⟨w.heap.size + 1, 0, none⟩) (Nat.le_refl _) (.string c.name)).setCell (p := ⟨w.heap.size + 1, 1, none⟩) (Nat.le_refl _) (.int .i64 c.params)).setCell (p := ⟨w.heap.size + 1, 2, none⟩) (Nat.le_refl _) (.int .i64 c.results)).setCell (p := ⟨w.heap.size + 1, 3, none⟩) (Nat.le_refl _) (.int .i64 c.vars)).setCell (p := ⟨w.heap.size + 1, 4, none⟩) (Nat.le_refl _) (.int .i64 c.slots) |>.setCell (p := ⟨w.heap.size + 1, 5, none⟩) (Nat.le_refl _) (.slice av c.blocks.length cv)
      have hk9 : ∀ k, k ≠ w.heap.size + 1 → ((((((wr.setCell ⟨w.heap.size + 1, 0, none⟩ (.string c.name)).setCell ⟨w.heap.size + 1, 1, none⟩ (.int .i64 c.params)).setCell ⟨w.heap.size + 1, 2, none⟩ (.int .i64 c.results)).setCell ⟨w.heap.size + 1, 3, none⟩ (.int .i64 c.vars)).setCell ⟨w.heap.size + 1, 4, none⟩ (.int .i64 c.slots)).setCell ⟨w.heap.size + 1, 5, none⟩ (.slice av c.blocks.length cv)).heap[k]? = wr.heap[k]? := fun k hk => by
        rw [Below.heap_setCell _ _ _ _ hk, Below.heap_setCell _ _ _ _ hk, Below.heap_setCell _ _ _ _ hk, Below.heap_setCell _ _ _ _ hk, Below.heap_setCell _ _ _ _ hk, Below.heap_setCell _ _ _ _ hk]
      have S5 := Lib.hid s5
      have Hb9 := Lib.hid hb9
      have Hk9 := Lib.hid hk9
      clear g y z1 hh hown hba s5 hb9 hk9
      go_wp2_with fail
      clear g0 g1 g2 g3 g4 y0 y1 y2 y3 y4 y5 yf c5 f5
      generalize ((((((wr.setCell ⟨w.heap.size + 1, 0, none⟩ (.string c.name)).setCell ⟨w.heap.size + 1, 1, none⟩ (.int .i64 c.params)).setCell ⟨w.heap.size + 1, 2, none⟩ (.int .i64 c.results)).setCell ⟨w.heap.size + 1, 3, none⟩ (.int .i64 c.vars)).setCell ⟨w.heap.size + 1, 4, none⟩ (.int .i64 c.slots)).setCell ⟨w.heap.size + 1, 5, none⟩ (.slice av c.blocks.length cv)) = w9 at *
      have q : ∀ j, w9.cell? ⟨w.heap.size + 1, j, none⟩ = (#[.string c.name, .int .i64 c.params, .int .i64 c.results, .int .i64 c.vars, .int .i64 c.slots, .slice av c.blocks.length cv] : Array Value)[j]? := fun j => by simp [World.cell?, S5.out]
      have q0 := q 0
      have q1 := q 1
      have q2 := q 2
      have q3 := q 3
      have q4 := q 4
      have q5 := q 5
      simp at q0 q1 q2 q3 q4 q5
      have hbw : Below w.heap.size w w9 := Hb0.out.trans (Hb9.out.mono (by omega))
      refine bodyPost_ret (v := .agg #[.string c.name, .int .i64 c.params, .int .i64 c.results, .int .i64 c.vars, .int .i64 c.slots, .slice av c.blocks.length cv]) (by simp [results, Tryd.results24, go_sem, q0, q1, q2, q3, q4, q5]) rfl ⟨[.string c.name, .int .i64 c.params, .int .i64 c.results, .int .i64 c.vars, .int .i64 c.slots, .slice av c.blocks.length cv], rfl, ⟨_, rfl, HI.out, ?_⟩, hbw⟩
      have hl : (plainF c).blocks.length = c.blocks.length := by simp [plainF]
      have ho9 : w9.ownsRow (w.heap.size + 1 + 1 + 1) 38 1 (.slice av c.blocks.length cv) c.blocks.length xs := ownsRow_block Hown.out (fun k hk => Hk9.out k (by have := (Hown.out.lt k hk).1; omega))
      refine rSlice_own (by rw [hl]; exact ho9) (fun _ _ => trivial) (fun i hi => ?_)
      rw [hl] at hi
      obtain ⟨u, hu, hr⟩ := Hba.out.2 i hi hi
      exact ⟨u, hu, by simpa [plainF] using Good.kept (Keep.of_below' hbw (fun k hk _ => hk)) hr⟩
end Go.Proofs.YthgfdcoicihpdaaDoor

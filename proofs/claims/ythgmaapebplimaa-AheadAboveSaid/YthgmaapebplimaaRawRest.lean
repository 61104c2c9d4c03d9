/-
  posternkeep.Code: behind the inner loop.
-/
import Derived.Test.YthgmaapebplimaaRawF
namespace Go.Proofs.Ythgmaapebplimaa
open Go.RowKit Go.Pst
set_option linter.unusedVariables false
set_option linter.unusedSimpArgs false

set_option maxRecDepth 100000 in
set_option maxHeartbeats 40000000 in
theorem raw_rest {w w0 : World} {a aM : Option Addr} {m cap m2 bm bp bc bg b j cM : Nat} {vB : Value} {bs : List (List PInstr)} {t : Array Value} {v : Value} {ls : List PInstr} {wr : World} (hctx : RawCtx w w0 m2 bm bp bc bg) (hmine : Mine w aM j)
    (hf : FrameR w a m cap m2 bm bp bc bg b t) (h9 : slotOf t 9 = v) (h10 : slotOf t 10 = .slice aM j cM) (hjl : ls.length = j) (hI : InAt bc w0 vB bs v ls wr) (hnM60 : j ≤ 60) (hbl : bs.length = b ∧ b ≤ 1 + m2 ∧ b < 1 + m2)
    (K K9 K0 : Act → World → Prop) (Res : Ending → World → Prop) (hKK : ∀ a' w', (∃ (t : Array Value) (vB : Value) (bs : List (List PInstr)), a' = ⟨t, []⟩ ∧ FrameR w a m cap m2 bm bp bc bg b t ∧ bs.length = b + 1 ∧ CAt bc w0 vB bs w') → K a' w') :
    rawRest.wp Try.prog (Exit.inBlock 1 (Exit.then K (Exit.then K9 (Exit.inBlock 0 (Exit.then K0 (bodyPost Try.prog Try.f19 Res)))))) ⟨t, []⟩ wr := by
  obtain ⟨ii, hi0, hz0, hz1, hz2⟩ := info_parts infoI
  obtain ⟨ib, hib, hb0', hb1', hb2'⟩ := info_parts infoB
  obtain ⟨hb0, ⟨l1, l2, l3, l4, l5, l6⟩, hm2, hcm⟩ := hctx
  obtain ⟨hsize, h0, h2, h3, h4, h5, h6, h7, h42, h43⟩ := hf
  have Hcm := Lib.hid hcm
  have Hl := Lib.hid (And.intro hbl.1 hbl.2.1)
  have hb6 : b ≤ 6 := by omega
  have hmi2 : (m2 : Int) ≤ 6 := by omega
  have Hmine := Lib.hid (show ∀ i, i < j → ∃ (bX oX : Nat) (r : PRaw), aM = some ⟨bX, oX, none⟩ ∧ bX < w.heap.size ∧ w.cell? ⟨bX, oX + i * 4, none⟩ = some (.int .i64 r.kind) ∧ w.cell? ⟨bX, oX + i * 4 + 1, none⟩ = some (.int .i64 r.a) ∧ w.cell? ⟨bX, oX + i * 4 + 2, none⟩ = some (.int .i64 r.b) ∧ w.cell? ⟨bX, oX + i * 4 + 3, none⟩ = some (.int .i64 r.c) ∧ InI r.kind ∧ InI r.a ∧ InI r.b ∧ InI r.c from hmine)
  have hlt : True := trivial
  have hj : True := trivial
  clear hcm hmine hbl
  obtain ⟨ess, hown, hall⟩ := id hI.blk
  obtain ⟨aV, cV, rfl, -, -⟩ := row_slice hown
  have hnlt : ¬ ((j : Int) < (j : Int)) := by omega
  have hs := hI.code.since
  have hszw : w0.heap.size ≤ wr.heap.size := hs.size
  have cmx : wr.cell? ⟨bm, 0, none⟩ = some (.int .i64 (1 + (m2 : Int))) := (hs.cell (b := bm) (o := 0) (by omega) (by omega)).trans Hcm.out
  have hrow : 0 < j → ∃ (bX oX : Nat) (r : PRaw), aM = some ⟨bX, oX, none⟩ ∧ wr.cell? ⟨bX, oX + (j - 1) * 4, none⟩ = some (.int .i64 r.kind) ∧ wr.cell? ⟨bX, oX + (j - 1) * 4 + 1, none⟩ = some (.int .i64 r.a) ∧ wr.cell? ⟨bX, oX + (j - 1) * 4 + 2, none⟩ = some (.int .i64 r.b) ∧ wr.cell? ⟨bX, oX + (j - 1) * 4 + 3, none⟩ = some (.int .i64 r.c) ∧
      InI r.kind ∧ InI r.a ∧ InI r.b ∧ InI r.c := fun h0 => by
    obtain ⟨bX, oX, r, e, hbX, e0, e1, e2, e3, i⟩ := Hmine.out (j - 1) (by omega)
    have tr : ∀ o u, w.cell? ⟨bX, o, none⟩ = some u → wr.cell? ⟨bX, o, none⟩ = some u := fun o u e => (hs.cell (by omega) (by omega)).trans ((hb0.cell (p := ⟨bX, o, none⟩) hbX).trans e)
    exact ⟨bX, oX, r, e, tr _ _ e0, tr _ _ e1, tr _ _ e2, tr _ _ e3, i⟩
  have HI := Lib.hid hI
  have Hown := Lib.hid hown
  have Hall := Lib.hid hall
  have Hrow := Lib.hid hrow
  have Hj := Lib.hid hjl
  clear hI hown hall hs hjl hj hlt hrow
  unfold rawRest rawBody
  conv => arg 2; whnf
  rw [frame240 t hsize, h0, h2, h3, h4, h5, h6, h7, h42, h43, h9, h10]
  clear hsize h0 h2 h3 h4 h5 h6 h7 h42 h43 h9 h10
  go_upto_if 165 with fail
  go_cut [] from 163 to 171 (fun wx => ∃ r : PRaw, (InI r.kind ∧ InI r.a ∧ InI r.b ∧ InI r.c) ∧ wx.cell? ⟨wr.heap.size, 0, none⟩ = some (.int .i64 r.kind) ∧ wx.cell? ⟨wr.heap.size, 1, none⟩ = some (.int .i64 r.a) ∧ wx.cell? ⟨wr.heap.size, 2, none⟩ = some (.int .i64 r.b) ∧ wx.cell? ⟨wr.heap.size, 3, none⟩ = some (.int .i64 r.c) ∧ Below wr.heap.size wr wx ∧ wr.heap.size < wx.heap.size)
  case first =>
    by_cases h0 : j = 0
    · have h0f : ¬ (0 < (j : Int)) := by omega
      clear h0
      go_wp2_with fail
      go_meet
      case rel =>
        exact ⟨⟨0, 0, 0, 0⟩, ⟨ini rfl, ini rfl, ini rfl, ini rfl⟩, (by rw [box_cell (Below.refl _ _)]; rfl), (by rw [box_cell (Below.refl _ _)]; rfl), (by rw [box_cell (Below.refl _ _)]; rfl), (by rw [box_cell (Below.refl _ _)]; rfl), (Below.refl _ _).alloc (Nat.le_refl _) _, by simp⟩
    · obtain ⟨bX, oX, r, rfl, e0, e1, e2, e3, i0⟩ := Hrow.out (by omega)
      obtain ⟨i, hi⟩ : ∃ i, j = i + 1 := ⟨j - 1, by omega⟩
      have h0t : 0 < (j : Int) := by omega
      have hjI : (j : Int) - 1 = (i : Int) := by omega
      have hiJ : (i : Int) < (j : Int) := by omega
      have hi60 : (j : Int) ≤ 60 := by omega
      have hbX : bX < wr.heap.size := by
        rcases Nat.lt_or_ge bX wr.heap.size with h | h
        · exact h
        · simp [World.cell?, Array.getElem?_eq_none h] at e0
      rw [show j - 1 = i by omega] at e0 e1 e2 e3
      have al : ∀ (o : Obj) (k : Nat) (u : Value), wr.cell? ⟨bX, k, none⟩ = some u → (wr.alloc o).cell? ⟨bX, k, none⟩ = some u := fun o k u e =>
        ((World.cell?_of_block (w := wr) (a := ⟨bX, k, none⟩) (Below.heap_alloc _ _ _ hbX))).trans e
      have a0 := fun o => al o _ _ e0
      have a1 := fun o => al o _ _ e1
      have a2 := fun o => al o _ _ e2
      have a3 := fun o => al o _ _ e3
      clear al e0 e1 e2 e3 hi
      go_wp2_with fail
      go_meet
      case rel =>
        exact ⟨r, i0, (by rw [box_cell (Below.refl _ _)]; rfl), (by rw [box_cell (Below.refl _ _)]; rfl), (by rw [box_cell (Below.refl _ _)]; rfl), (by rw [box_cell (Below.refl _ _)]; rfl), (Below.refl _ _).alloc (Nat.le_refl _) _, by simp⟩
  case rest =>
    obtain ⟨r, ⟨i0, i1, i2, i3⟩, e0, e1, e2, e3, hbx, hltx⟩ := hcut
    have al : ∀ (o : Obj) (k : Nat) (u : Value), wc.cell? ⟨wr.heap.size, k, none⟩ = some u → (wc.alloc o).cell? ⟨wr.heap.size, k, none⟩ = some u := fun o k u e =>
      ((World.cell?_of_block (w := wc) (a := ⟨wr.heap.size, k, none⟩) (Below.heap_alloc _ _ _ hltx))).trans e
    have e0' := al (.cells #[.int .i64 12, .slice none 0 0, .slice none 0 0, .int .i64 0, .string ⟨#[]⟩, .slice none 0 0] 57) _ _ e0
    have e1' := al (.cells #[.int .i64 12, .slice none 0 0, .slice none 0 0, .int .i64 0, .string ⟨#[]⟩, .slice none 0 0] 57) _ _ e1
    have e2' := al (.cells #[.int .i64 12, .slice none 0 0, .slice none 0 0, .int .i64 0, .string ⟨#[]⟩, .slice none 0 0] 57) _ _ e2
    have e3' := al (.cells #[.int .i64 12, .slice none 0 0, .slice none 0 0, .int .i64 0, .string ⟨#[]⟩, .slice none 0 0] 57) _ _ e3
    clear al e0 e1 e2 e3
    go_wp2_with fail
    refine (picked_any _ 5 _ (inI_wrap _) (by decide) (ini rfl)).mono ?_
    rintro e w1 ⟨rfl, rfl⟩
    have hk5 := @pickF_in (wrap64 (r.kind.tdiv 5)) 5 (by decide)
    generalize hk : pickF (wrap64 (r.kind.tdiv 5)) 5 = kk at *
    obtain ⟨bE, hbE⟩ : ∃ bE, bE = wc.heap.size := ⟨_, rfl⟩
    have hcmE : (wc.alloc (.cells #[.int .i64 12, .slice none 0 0, .slice none 0 0, .int .i64 0, .string ⟨#[]⟩, .slice none 0 0] 57)).cell? ⟨bm, 0, none⟩ = some (.int .i64 (1 + (m2 : Int))) :=
      (World.cell?_of_block (w := wc) (a := ⟨bm, 0, none⟩) (Below.heap_alloc _ _ _ (show bm < wc.heap.size by omega))).trans ((hbx.cell (p := ⟨bm, 0, none⟩) (show bm < wr.heap.size by omega)).trans cmx)
    have hE : (wc.alloc (.cells #[.int .i64 12, .slice none 0 0, .slice none 0 0, .int .i64 0, .string ⟨#[]⟩, .slice none 0 0] 57)).heap[bE]? = some (.cells #[.int .i64 12, .slice none 0 0, .slice none 0 0, .int .i64 0, .string ⟨#[]⟩, .slice none 0 0] 57) := by rw [hbE]; exact heap_alloc_new wc _
    have hbE' : Below wr.heap.size wr (wc.alloc (.cells #[.int .i64 12, .slice none 0 0, .slice none 0 0, .int .i64 0, .string ⟨#[]⟩, .slice none 0 0] 57)) := hbx.alloc (by omega) _
    have hltE : bE < (wc.alloc (.cells #[.int .i64 12, .slice none 0 0, .slice none 0 0, .int .i64 0, .string ⟨#[]⟩, .slice none 0 0] 57)).heap.size := by rw [hbE]; simp
    have hltE2 : wr.heap.size < bE := by omega
    rw [← hbE]
    clear hbE hk hbx hltx
    generalize wc.alloc (.cells #[.int .i64 12, .slice none 0 0, .slice none 0 0, .int .i64 0, .string ⟨#[]⟩, .slice none 0 0] 57) = wE at *
    have f0 : ∀ i, wE.cell? ⟨bE, i, none⟩ = (#[.int .i64 12, .slice none 0 0, .slice none 0 0, .int .i64 0, .string ⟨#[]⟩, .slice none 0 0] : Array Value)[i]? := fun i => by simp [World.cell?, hE]
    have fz : ∀ i, wE.frozen? ⟨bE, i, none⟩ = false := fun i => by simp [World.frozen?, hE]
    have g0 : wE.cell? ⟨bE, 0, none⟩ = some (.int .i64 12) := f0 0
    have g1 : wE.cell? ⟨bE, 1, none⟩ = some (.slice none 0 0) := f0 1
    have g2 : wE.cell? ⟨bE, 2, none⟩ = some (.slice none 0 0) := f0 2
    have g3 : wE.cell? ⟨bE, 3, none⟩ = some (.int .i64 0) := f0 3
    have g4 : wE.cell? ⟨bE, 4, none⟩ = some (.string ⟨#[]⟩) := f0 4
    have g5 : wE.cell? ⟨bE, 5, none⟩ = some (.slice none 0 0) := f0 5
    have HbE := Lib.hid hbE'
    clear f0 hE hbE'
    go_upto_block 5 with fail
    go_cut [] from 178 to 224 (fun wx => ∃ (op n : Int) (s : ByteArray) (v1 v2 v5 : Value) (i : PInstr), wx.cell? ⟨bE, 0, none⟩ = some (.int .i64 op) ∧ wx.cell? ⟨bE, 1, none⟩ = some v1 ∧ wx.cell? ⟨bE, 2, none⟩ = some v2 ∧ wx.cell? ⟨bE, 3, none⟩ = some (.int .i64 n) ∧ wx.cell? ⟨bE, 4, none⟩ = some (.string s) ∧ wx.cell? ⟨bE, 5, none⟩ = some v5 ∧
      rInstr (fun k => wr.heap.size ≤ k) wx [.int .i64 op, v1, v2, .int .i64 n, .string s, v5] i ∧ FitInstr i ∧ Below wr.heap.size wr wx ∧ bE < wx.heap.size)
    case first =>
      obtain ⟨hk50, hk51⟩ := hk5
      have HM : 0 < 1 + (m2 : Int) := by omega
      have HMI : InI (1 + (m2 : Int)) := ⟨by omega, by omega⟩
      have e0 := e0'
      have e1 := e1'
      have e2 := e2'
      have e3 := e3'
      clear e0' e1' e2' e3'
      have hkc : kk = 0 ∨ kk = 1 ∨ kk = 2 ∨ kk = 3 ∨ kk = 4 := by omega
      clear hk50 hk51
      have hS0 : wE.cell? ⟨wr.heap.size, 1, none⟩ = some (.int .i64 r.a) ∧ wE.cell? ⟨wr.heap.size, 2, none⟩ = some (.int .i64 r.b) ∧ wE.cell? ⟨wr.heap.size, 3, none⟩ = some (.int .i64 r.c) ∧ wE.cell? ⟨bm, 0, none⟩ = some (.int .i64 (1 + (m2 : Int))) := ⟨e1, e2, e3, hcmE⟩
      have hS1 : ∀ o : Obj, (wE.alloc o).cell? ⟨wr.heap.size, 1, none⟩ = some (.int .i64 r.a) ∧ (wE.alloc o).cell? ⟨wr.heap.size, 2, none⟩ = some (.int .i64 r.b) ∧ (wE.alloc o).cell? ⟨wr.heap.size, 3, none⟩ = some (.int .i64 r.c) ∧ (wE.alloc o).cell? ⟨bm, 0, none⟩ = some (.int .i64 (1 + (m2 : Int))) := fun o => by
        have al : ∀ (b k : Nat) (u : Value), b < wE.heap.size → wE.cell? ⟨b, k, none⟩ = some u → (wE.alloc o).cell? ⟨b, k, none⟩ = some u := fun b k u hb e =>
          ((World.cell?_of_block (w := wE) (a := ⟨b, k, none⟩) (Below.heap_alloc _ _ _ hb))).trans e
        exact ⟨al _ _ _ (by omega) e1, al _ _ _ (by omega) e2, al _ _ _ (by omega) e3, al _ _ _ (by omega) hcmE⟩
      have hS2 : ∀ o o2 : Obj, ((wE.alloc o).alloc o2).cell? ⟨wr.heap.size, 1, none⟩ = some (.int .i64 r.a) ∧ ((wE.alloc o).alloc o2).cell? ⟨wr.heap.size, 2, none⟩ = some (.int .i64 r.b) ∧ ((wE.alloc o).alloc o2).cell? ⟨wr.heap.size, 3, none⟩ = some (.int .i64 r.c) ∧ ((wE.alloc o).alloc o2).cell? ⟨bm, 0, none⟩ = some (.int .i64 (1 + (m2 : Int))) := fun o o2 => by
        have al : ∀ (b k : Nat) (u : Value), b < wE.heap.size → (wE.alloc o).cell? ⟨b, k, none⟩ = some u → ((wE.alloc o).alloc o2).cell? ⟨b, k, none⟩ = some u := fun b k u hb e =>
          ((World.cell?_of_block (w := wE.alloc o) (a := ⟨b, k, none⟩) (Below.heap_alloc _ _ _ (by simp; omega)))).trans e
        exact ⟨al _ _ _ (by omega) (hS1 o).1, al _ _ _ (by omega) (hS1 o).2.1, al _ _ _ (by omega) (hS1 o).2.2.1, al _ _ _ (by omega) (hS1 o).2.2.2⟩
      have HtM := Lib.hid (show ∀ n, InI (pickF n (1 + (m2 : Int))) from fun n => by have := @pickF_in n _ HM; exact ⟨by omega, by omega⟩)
      have Hb5 := Lib.hid (show InI (pickF r.b 5) by have := @pickF_in r.b 5 (by decide); exact ⟨by omega, by omega⟩)
      rcases hkc with rfl | rfl | rfl | rfl | rfl
      · go_wp2_with fail
        refine (turn_any r.a _ bm _ hcmE i1 HM HMI).mono ?_
        rintro e w1 ⟨rfl, rfl⟩
        go_wp2_with fail
        go_meet
        case rel =>
          obtain ⟨⟨c0, c1, c2, c3, c4, c5⟩, hs, hh⟩ := six_rows hltE g0 g1 g2 g3 g4 g5 (.int .i64 9) (.slice none 0 0) (.slice none 0 0) (.int .i64 0) (.string ⟨#[]⟩) (.slice (some ⟨wE.heap.size, 0, none⟩) 1 1) [(.cells #[.int .i64 (pickF r.a (1 + (m2 : Int)))] 3)] _ rfl
          exact ⟨9, 0, ⟨#[]⟩, _, _, _, ⟨9, [], [], 0, ⟨#[]⟩, [pickF r.a (1 + (m2 : Int))]⟩, c0, c1, c2, c3, c4, c5, lit_instr (ini rfl) (ini rfl) (by decide) (rSlice_nil _ _ _ _) (rSlice_nil _ _ _ _) (rInts_all [pickF r.a (1 + (m2 : Int))] (by omega) (lens rfl) (ini1 (HtM.out _)) (hh 0 (by simp))), ⟨Nat.le_of_ble_eq_true rfl, Nat.le_of_ble_eq_true rfl, Nat.le_of_ble_eq_true rfl⟩, HbE.out.trans (hs.below (by omega) (fun k e => by omega)), Nat.lt_of_lt_of_le hltE hs.size⟩
      · go_wp2_with fail
        refine WpT.start (fun w' => w'.cell? ⟨wr.heap.size, 1, none⟩ = some (.int .i64 r.a) ∧ w'.cell? ⟨wr.heap.size, 2, none⟩ = some (.int .i64 r.b) ∧ w'.cell? ⟨wr.heap.size, 3, none⟩ = some (.int .i64 r.c) ∧ w'.cell? ⟨bm, 0, none⟩ = some (.int .i64 (1 + (m2 : Int)))) 15 (by kernel_rfl) ?_
        refine WpT.take (i := 0) (v := ?_) rfl (by kernel_rfl) (by kernel_rfl) (by kernel_rfl) (by kernel_rfl) (fun _ _ _ h => h) (Or.inl ⟨by rfl, ?_⟩) hS0 ?_
        rotate_left
        · intro wS hSw; (try dsimp only at hSw); go_simp; (first | done | with_reducible rfl)
        try simp only [Act.put, List.setIfInBounds_toArray, List.set_cons_zero, List.set_cons_succ]
        refine WpT.take (i := 1) (v := ?_) rfl (by kernel_rfl) (by kernel_rfl) (by kernel_rfl) (by kernel_rfl) (fun _ _ _ h => h) (Or.inl ⟨by rfl, ?_⟩) hS0 ?_
        rotate_left
        · intro wS hSw; (try dsimp only at hSw); go_simp; (first | done | with_reducible rfl)
        try simp only [Act.put, List.setIfInBounds_toArray, List.set_cons_zero, List.set_cons_succ]
        refine WpT.take (i := 2) (v := ?_) rfl (by kernel_rfl) (by kernel_rfl) (by kernel_rfl) (by kernel_rfl) (fun _ _ _ h => h) (Or.inl ⟨by rfl, ?_⟩) hS0 ?_
        rotate_left
        · intro wS hSw; (try dsimp only at hSw); go_simp; (first | done | with_reducible rfl)
        try simp only [Act.put, List.setIfInBounds_toArray, List.set_cons_zero, List.set_cons_succ]
        refine WpT.take (i := 5) (v := ?_) rfl (by kernel_rfl) (by kernel_rfl) (by kernel_rfl) (by kernel_rfl) (fun _ _ _ h => h) (Or.inl ⟨by rfl, ?_⟩) hS0 ?_
        rotate_left
        · intro wS hSw; (try dsimp only at hSw); go_simp; (first | done | with_reducible rfl)
        try simp only [Act.put, List.setIfInBounds_toArray, List.set_cons_zero, List.set_cons_succ]
        refine WpT.take (i := 6) (v := ?_) rfl (by kernel_rfl) (by kernel_rfl) (by kernel_rfl) (by kernel_rfl) (fun _ _ _ h => h) (Or.inl ⟨by rfl, ?_⟩) hS0 ?_
        rotate_left
        · intro wS hSw; (try dsimp only at hSw); go_simp; (first | done | with_reducible rfl)
        try simp only [Act.put, List.setIfInBounds_toArray, List.set_cons_zero, List.set_cons_succ]
        refine WpT.take (i := 7) (v := ?_) rfl (by kernel_rfl) (by kernel_rfl) (by kernel_rfl) (by kernel_rfl) (fun _ _ _ h => h) (Or.inl ⟨by rfl, ?_⟩) hS0 ?_
        rotate_left
        · intro wS hSw; (try dsimp only at hSw); go_simp; (first | done | with_reducible rfl)
        try simp only [Act.put, List.setIfInBounds_toArray, List.set_cons_zero, List.set_cons_succ]
        refine WpT.take (i := 9) (v := ?_) rfl (by kernel_rfl) (by kernel_rfl) (by kernel_rfl) (by kernel_rfl) (fun _ _ _ h => h) (Or.inl ⟨by rfl, ?_⟩) hS0 ?_
        rotate_left
        · intro wS hSw; (try dsimp only at hSw); go_simp; (first | done | with_reducible rfl)
        try simp only [Act.put, List.setIfInBounds_toArray, List.set_cons_zero, List.set_cons_succ]
        refine WpT.take (i := 10) (v := ?_) rfl (by kernel_rfl) (by kernel_rfl) (by kernel_rfl) (by kernel_rfl) (fun _ _ _ h => h) (Or.inl ⟨by rfl, ?_⟩) hS0 ?_
        rotate_left
        · intro wS hSw; (try dsimp only at hSw); go_simp; (first | done | with_reducible rfl)
        try simp only [Act.put, List.setIfInBounds_toArray, List.set_cons_zero, List.set_cons_succ]
        refine WpT.take (i := 11) (v := ?_) rfl (by kernel_rfl) (by kernel_rfl) (by kernel_rfl) (by kernel_rfl) (fun _ _ _ h => h) (Or.inl ⟨by rfl, ?_⟩) hS0 ?_
        rotate_left
        · intro wS hSw; (try dsimp only at hSw); go_simp; (first | done | with_reducible rfl)
        try simp only [Act.put, List.setIfInBounds_toArray, List.set_cons_zero, List.set_cons_succ]
        refine WpT.one (i := 3) (by kernel_rfl) rfl (fun K hK => ?_)
        go_simp
        go_at_call 30
        refine (picked_any _ 5 _ i2 (by decide) (ini rfl)).mono ?_
        rintro e w1 ⟨rfl, rfl⟩
        refine hK.out _ _ (fun _ _ => by first | exact hS0 | exact hS1 _ | exact hS2 _ _) ?_
        clear hK K
        try simp only [Act.put, List.setIfInBounds_toArray, List.set_cons_zero, List.set_cons_succ]
        refine WpT.two (i := 4) (j := 8) (by kernel_rfl) rfl rfl (fun K hK => ?_) (fun K hK => ?_)
        · go_simp
          refine hK.out _ _ (fun _ _ => by first | exact hS0 | exact hS1 _ | exact hS2 _ _) ?_
          clear hK K
          try simp only [Act.put, List.setIfInBounds_toArray, List.set_cons_zero, List.set_cons_succ]
          refine WpT.one (i := 8) (by kernel_rfl) rfl (fun K hK => ?_)
          go_simp
          go_at_call 31
          refine (turn_any _ _ bm _ (by first | exact hcmE | exact (hS1 _).2.2.2 | exact (hS2 _ _).2.2.2) i1 HM HMI).mono ?_
          rintro e w1 ⟨rfl, rfl⟩
          refine hK.out _ _ (fun _ _ => by first | exact hS0 | exact hS1 _ | exact hS2 _ _) ?_
          clear hK K
          try simp only [Act.put, List.setIfInBounds_toArray, List.set_cons_zero, List.set_cons_succ]
          refine WpT.one (i := 12) (by kernel_rfl) rfl (fun K hK => ?_)
          go_simp
          go_at_call 31
          refine (turn_any _ _ bm _ (by first | exact hcmE | exact (hS1 _).2.2.2 | exact (hS2 _ _).2.2.2) i3 HM HMI).mono ?_
          rintro e w1 ⟨rfl, rfl⟩
          refine hK.out _ _ (fun _ _ => by first | exact hS0 | exact hS1 _ | exact hS2 _ _) ?_
          clear hK K
          try simp only [Act.put, List.setIfInBounds_toArray, List.set_cons_zero, List.set_cons_succ]
          refine WpT.one (i := 13) (by kernel_rfl) rfl (fun K hK => ?_)
          go_simp
          refine hK.out _ _ (fun _ _ => by first | exact hS0 | exact hS1 _ | exact hS2 _ _) ?_
          clear hK K
          try simp only [Act.put, List.setIfInBounds_toArray, List.set_cons_zero, List.set_cons_succ]
          refine WpT.one (i := 14) (by kernel_rfl) rfl (fun K hK => ?_)
          go_simp
          refine hK.out _ _ (fun _ _ => by first | exact hS0 | exact hS1 _ | exact hS2 _ _) ?_
          clear hK K
          try simp only [Act.put, List.setIfInBounds_toArray, List.set_cons_zero, List.set_cons_succ]
          refine WpT.one (i := 15) (by kernel_rfl) rfl (fun K hK => ?_)
          go_simp
          refine hK.out _ _ (fun h => absurd rfl h) ?_
          clear hK K
          try simp only [Act.put, List.setIfInBounds_toArray, List.set_cons_zero, List.set_cons_succ]
          refine WpT.done (by kernel_rfl) ?_ _
          go_wp2_with fail
          go_meet
          case rel =>
            obtain ⟨⟨c0, c1, c2, c3, c4, c5⟩, hs, hh⟩ := six_rowsD hltE g0 g1 g2 g3 g4 g5 (.int .i64 10) (.slice none 0 0) (.slice (some ⟨wE.heap.size, 0, none⟩) 1 1) (.int .i64 0) (.string ⟨#[]⟩) (.slice (some ⟨wE.heap.size + 1, 0, none⟩) 2 2) [(.cells #[.int .i64 (pickF r.b 5)] 3), (.cells #[.int .i64 (pickF r.a (1 + (m2 : Int))), .int .i64 (pickF r.c (1 + (m2 : Int)))] 3)] _ rfl
            exact ⟨10, 0, ⟨#[]⟩, _, _, _, ⟨10, [], [pickF r.b 5], 0, ⟨#[]⟩, [pickF r.a (1 + (m2 : Int)), pickF r.c (1 + (m2 : Int))]⟩, c0, c1, c2, c3, c4, c5, lit_instr (ini rfl) (ini rfl) (by decide) (rSlice_nil _ _ _ _) (rInts_all [pickF r.b 5] (by omega) (lens rfl) (ini1 Hb5.out) (hh 0 (by simp))) (rInts_all [pickF r.a (1 + (m2 : Int)), pickF r.c (1 + (m2 : Int))] (by omega) (lens rfl) (ini2 (HtM.out _) (HtM.out _)) (hh 1 (by simp))), ⟨Nat.le_of_ble_eq_true rfl, Nat.le_of_ble_eq_true rfl, Nat.le_of_ble_eq_true rfl⟩, HbE.out.trans (hs.below (by omega) (fun k e => by omega)), Nat.lt_of_lt_of_le hltE hs.size⟩
        · go_simp
          go_at_call 31
          refine (turn_any _ _ bm _ (by first | exact hcmE | exact (hS1 _).2.2.2 | exact (hS2 _ _).2.2.2) i1 HM HMI).mono ?_
          rintro e w1 ⟨rfl, rfl⟩
          refine hK.out _ _ (fun _ _ => by first | exact hS0 | exact hS1 _ | exact hS2 _ _) ?_
          clear hK K
          try simp only [Act.put, List.setIfInBounds_toArray, List.set_cons_zero, List.set_cons_succ]
          refine WpT.two (i := 4) (j := 12) (by kernel_rfl) rfl rfl (fun K hK => ?_) (fun K hK => ?_)
          · go_simp
            refine hK.out _ _ (fun _ _ => by first | exact hS0 | exact hS1 _ | exact hS2 _ _) ?_
            clear hK K
            try simp only [Act.put, List.setIfInBounds_toArray, List.set_cons_zero, List.set_cons_succ]
            refine WpT.one (i := 12) (by kernel_rfl) rfl (fun K hK => ?_)
            go_simp
            go_at_call 31
            refine (turn_any _ _ bm _ (by first | exact hcmE | exact (hS1 _).2.2.2 | exact (hS2 _ _).2.2.2) i3 HM HMI).mono ?_
            rintro e w1 ⟨rfl, rfl⟩
            refine hK.out _ _ (fun _ _ => by first | exact hS0 | exact hS1 _ | exact hS2 _ _) ?_
            clear hK K
            try simp only [Act.put, List.setIfInBounds_toArray, List.set_cons_zero, List.set_cons_succ]
            refine WpT.one (i := 13) (by kernel_rfl) rfl (fun K hK => ?_)
            go_simp
            refine hK.out _ _ (fun _ _ => by first | exact hS0 | exact hS1 _ | exact hS2 _ _) ?_
            clear hK K
            try simp only [Act.put, List.setIfInBounds_toArray, List.set_cons_zero, List.set_cons_succ]
            refine WpT.one (i := 14) (by kernel_rfl) rfl (fun K hK => ?_)
            go_simp
            refine hK.out _ _ (fun _ _ => by first | exact hS0 | exact hS1 _ | exact hS2 _ _) ?_
            clear hK K
            try simp only [Act.put, List.setIfInBounds_toArray, List.set_cons_zero, List.set_cons_succ]
            refine WpT.one (i := 15) (by kernel_rfl) rfl (fun K hK => ?_)
            go_simp
            refine hK.out _ _ (fun h => absurd rfl h) ?_
            clear hK K
            try simp only [Act.put, List.setIfInBounds_toArray, List.set_cons_zero, List.set_cons_succ]
            refine WpT.done (by kernel_rfl) ?_ _
            go_wp2_with fail
            go_meet
            case rel =>
              obtain ⟨⟨c0, c1, c2, c3, c4, c5⟩, hs, hh⟩ := six_rowsD hltE g0 g1 g2 g3 g4 g5 (.int .i64 10) (.slice none 0 0) (.slice (some ⟨wE.heap.size, 0, none⟩) 1 1) (.int .i64 0) (.string ⟨#[]⟩) (.slice (some ⟨wE.heap.size + 1, 0, none⟩) 2 2) [(.cells #[.int .i64 (pickF r.b 5)] 3), (.cells #[.int .i64 (pickF r.a (1 + (m2 : Int))), .int .i64 (pickF r.c (1 + (m2 : Int)))] 3)] _ rfl
              exact ⟨10, 0, ⟨#[]⟩, _, _, _, ⟨10, [], [pickF r.b 5], 0, ⟨#[]⟩, [pickF r.a (1 + (m2 : Int)), pickF r.c (1 + (m2 : Int))]⟩, c0, c1, c2, c3, c4, c5, lit_instr (ini rfl) (ini rfl) (by decide) (rSlice_nil _ _ _ _) (rInts_all [pickF r.b 5] (by omega) (lens rfl) (ini1 Hb5.out) (hh 0 (by simp))) (rInts_all [pickF r.a (1 + (m2 : Int)), pickF r.c (1 + (m2 : Int))] (by omega) (lens rfl) (ini2 (HtM.out _) (HtM.out _)) (hh 1 (by simp))), ⟨Nat.le_of_ble_eq_true rfl, Nat.le_of_ble_eq_true rfl, Nat.le_of_ble_eq_true rfl⟩, HbE.out.trans (hs.below (by omega) (fun k e => by omega)), Nat.lt_of_lt_of_le hltE hs.size⟩
          · go_simp
            go_at_call 31
            refine (turn_any _ _ bm _ (by first | exact hcmE | exact (hS1 _).2.2.2 | exact (hS2 _ _).2.2.2) i3 HM HMI).mono ?_
            rintro e w1 ⟨rfl, rfl⟩
            refine hK.out _ _ (fun _ _ => by first | exact hS0 | exact hS1 _ | exact hS2 _ _) ?_
            clear hK K
            try simp only [Act.put, List.setIfInBounds_toArray, List.set_cons_zero, List.set_cons_succ]
            refine WpT.two (i := 4) (j := 13) (by kernel_rfl) rfl rfl (fun K hK => ?_) (fun K hK => ?_)
            · go_simp
              refine hK.out _ _ (fun _ _ => by first | exact hS0 | exact hS1 _ | exact hS2 _ _) ?_
              clear hK K
              try simp only [Act.put, List.setIfInBounds_toArray, List.set_cons_zero, List.set_cons_succ]
              refine WpT.one (i := 13) (by kernel_rfl) rfl (fun K hK => ?_)
              go_simp
              refine hK.out _ _ (fun _ _ => by first | exact hS0 | exact hS1 _ | exact hS2 _ _) ?_
              clear hK K
              try simp only [Act.put, List.setIfInBounds_toArray, List.set_cons_zero, List.set_cons_succ]
              refine WpT.one (i := 14) (by kernel_rfl) rfl (fun K hK => ?_)
              go_simp
              refine hK.out _ _ (fun _ _ => by first | exact hS0 | exact hS1 _ | exact hS2 _ _) ?_
              clear hK K
              try simp only [Act.put, List.setIfInBounds_toArray, List.set_cons_zero, List.set_cons_succ]
              refine WpT.one (i := 15) (by kernel_rfl) rfl (fun K hK => ?_)
              go_simp
              refine hK.out _ _ (fun h => absurd rfl h) ?_
              clear hK K
              try simp only [Act.put, List.setIfInBounds_toArray, List.set_cons_zero, List.set_cons_succ]
              refine WpT.done (by kernel_rfl) ?_ _
              go_wp2_with fail
              go_meet
              case rel =>
                obtain ⟨⟨c0, c1, c2, c3, c4, c5⟩, hs, hh⟩ := six_rowsD hltE g0 g1 g2 g3 g4 g5 (.int .i64 10) (.slice none 0 0) (.slice (some ⟨wE.heap.size, 0, none⟩) 1 1) (.int .i64 0) (.string ⟨#[]⟩) (.slice (some ⟨wE.heap.size + 1, 0, none⟩) 2 2) [(.cells #[.int .i64 (pickF r.b 5)] 3), (.cells #[.int .i64 (pickF r.a (1 + (m2 : Int))), .int .i64 (pickF r.c (1 + (m2 : Int)))] 3)] _ rfl
                exact ⟨10, 0, ⟨#[]⟩, _, _, _, ⟨10, [], [pickF r.b 5], 0, ⟨#[]⟩, [pickF r.a (1 + (m2 : Int)), pickF r.c (1 + (m2 : Int))]⟩, c0, c1, c2, c3, c4, c5, lit_instr (ini rfl) (ini rfl) (by decide) (rSlice_nil _ _ _ _) (rInts_all [pickF r.b 5] (by omega) (lens rfl) (ini1 Hb5.out) (hh 0 (by simp))) (rInts_all [pickF r.a (1 + (m2 : Int)), pickF r.c (1 + (m2 : Int))] (by omega) (lens rfl) (ini2 (HtM.out _) (HtM.out _)) (hh 1 (by simp))), ⟨Nat.le_of_ble_eq_true rfl, Nat.le_of_ble_eq_true rfl, Nat.le_of_ble_eq_true rfl⟩, HbE.out.trans (hs.below (by omega) (fun k e => by omega)), Nat.lt_of_lt_of_le hltE hs.size⟩
            · go_simp
              refine hK.out _ _ (fun _ _ => by first | exact hS0 | exact hS1 _ | exact hS2 _ _) ?_
              clear hK K
              try simp only [Act.put, List.setIfInBounds_toArray, List.set_cons_zero, List.set_cons_succ]
              refine WpT.one (i := 4) (by kernel_rfl) rfl (fun K hK => ?_)
              go_simp
              refine hK.out _ _ (fun _ _ => by first | exact hS0 | exact hS1 _ | exact hS2 _ _) ?_
              clear hK K
              try simp only [Act.put, List.setIfInBounds_toArray, List.set_cons_zero, List.set_cons_succ]
              refine WpT.one (i := 14) (by kernel_rfl) rfl (fun K hK => ?_)
              go_simp
              refine hK.out _ _ (fun _ _ => by first | exact hS0 | exact hS1 _ | exact hS2 _ _) ?_
              clear hK K
              try simp only [Act.put, List.setIfInBounds_toArray, List.set_cons_zero, List.set_cons_succ]
              refine WpT.one (i := 15) (by kernel_rfl) rfl (fun K hK => ?_)
              go_simp
              refine hK.out _ _ (fun h => absurd rfl h) ?_
              clear hK K
              try simp only [Act.put, List.setIfInBounds_toArray, List.set_cons_zero, List.set_cons_succ]
              refine WpT.done (by kernel_rfl) ?_ _
              go_wp2_with fail
              go_meet
              case rel =>
                obtain ⟨⟨c0, c1, c2, c3, c4, c5⟩, hs, hh⟩ := six_rowsD hltE g0 g1 g2 g3 g4 g5 (.int .i64 10) (.slice none 0 0) (.slice (some ⟨wE.heap.size + 1, 0, none⟩) 1 1) (.int .i64 0) (.string ⟨#[]⟩) (.slice (some ⟨wE.heap.size, 0, none⟩) 2 2) [(.cells #[.int .i64 (pickF r.a (1 + (m2 : Int))), .int .i64 (pickF r.c (1 + (m2 : Int)))] 3), (.cells #[.int .i64 (pickF r.b 5)] 3)] _ rfl
                exact ⟨10, 0, ⟨#[]⟩, _, _, _, ⟨10, [], [pickF r.b 5], 0, ⟨#[]⟩, [pickF r.a (1 + (m2 : Int)), pickF r.c (1 + (m2 : Int))]⟩, c0, c1, c2, c3, c4, c5, lit_instr (ini rfl) (ini rfl) (by decide) (rSlice_nil _ _ _ _) (rInts_all [pickF r.b 5] (by omega) (lens rfl) (ini1 Hb5.out) (hh 1 (by simp))) (rInts_all [pickF r.a (1 + (m2 : Int)), pickF r.c (1 + (m2 : Int))] (by omega) (lens rfl) (ini2 (HtM.out _) (HtM.out _)) (hh 0 (by simp))), ⟨Nat.le_of_ble_eq_true rfl, Nat.le_of_ble_eq_true rfl, Nat.le_of_ble_eq_true rfl⟩, HbE.out.trans (hs.below (by omega) (fun k e => by omega)), Nat.lt_of_lt_of_le hltE hs.size⟩
      · go_wp2_with fail
        refine WpT.start (fun w' => w'.cell? ⟨wr.heap.size, 1, none⟩ = some (.int .i64 r.a) ∧ w'.cell? ⟨wr.heap.size, 2, none⟩ = some (.int .i64 r.b) ∧ w'.cell? ⟨wr.heap.size, 3, none⟩ = some (.int .i64 r.c) ∧ w'.cell? ⟨bm, 0, none⟩ = some (.int .i64 (1 + (m2 : Int)))) 15 (by kernel_rfl) ?_
        refine WpT.take (i := 0) (v := ?_) rfl (by kernel_rfl) (by kernel_rfl) (by kernel_rfl) (by kernel_rfl) (fun _ _ _ h => h) (Or.inl ⟨by rfl, ?_⟩) hS0 ?_
        rotate_left
        · intro wS hSw; (try dsimp only at hSw); go_simp; (first | done | with_reducible rfl)
        try simp only [Act.put, List.setIfInBounds_toArray, List.set_cons_zero, List.set_cons_succ]
        refine WpT.take (i := 1) (v := ?_) rfl (by kernel_rfl) (by kernel_rfl) (by kernel_rfl) (by kernel_rfl) (fun _ _ _ h => h) (Or.inl ⟨by rfl, ?_⟩) hS0 ?_
        rotate_left
        · intro wS hSw; (try dsimp only at hSw); go_simp; (first | done | with_reducible rfl)
        try simp only [Act.put, List.setIfInBounds_toArray, List.set_cons_zero, List.set_cons_succ]
        refine WpT.take (i := 2) (v := ?_) rfl (by kernel_rfl) (by kernel_rfl) (by kernel_rfl) (by kernel_rfl) (fun _ _ _ h => h) (Or.inl ⟨by rfl, ?_⟩) hS0 ?_
        rotate_left
        · intro wS hSw; (try dsimp only at hSw); go_simp; (first | done | with_reducible rfl)
        try simp only [Act.put, List.setIfInBounds_toArray, List.set_cons_zero, List.set_cons_succ]
        refine WpT.take (i := 5) (v := ?_) rfl (by kernel_rfl) (by kernel_rfl) (by kernel_rfl) (by kernel_rfl) (fun _ _ _ h => h) (Or.inl ⟨by rfl, ?_⟩) hS0 ?_
        rotate_left
        · intro wS hSw; (try dsimp only at hSw); go_simp; (first | done | with_reducible rfl)
        try simp only [Act.put, List.setIfInBounds_toArray, List.set_cons_zero, List.set_cons_succ]
        refine WpT.take (i := 6) (v := ?_) rfl (by kernel_rfl) (by kernel_rfl) (by kernel_rfl) (by kernel_rfl) (fun _ _ _ h => h) (Or.inl ⟨by rfl, ?_⟩) hS0 ?_
        rotate_left
        · intro wS hSw; (try dsimp only at hSw); go_simp; (first | done | with_reducible rfl)
        try simp only [Act.put, List.setIfInBounds_toArray, List.set_cons_zero, List.set_cons_succ]
        refine WpT.take (i := 7) (v := ?_) rfl (by kernel_rfl) (by kernel_rfl) (by kernel_rfl) (by kernel_rfl) (fun _ _ _ h => h) (Or.inl ⟨by rfl, ?_⟩) hS0 ?_
        rotate_left
        · intro wS hSw; (try dsimp only at hSw); go_simp; (first | done | with_reducible rfl)
        try simp only [Act.put, List.setIfInBounds_toArray, List.set_cons_zero, List.set_cons_succ]
        refine WpT.take (i := 9) (v := ?_) rfl (by kernel_rfl) (by kernel_rfl) (by kernel_rfl) (by kernel_rfl) (fun _ _ _ h => h) (Or.inl ⟨by rfl, ?_⟩) hS0 ?_
        rotate_left
        · intro wS hSw; (try dsimp only at hSw); go_simp; (first | done | with_reducible rfl)
        try simp only [Act.put, List.setIfInBounds_toArray, List.set_cons_zero, List.set_cons_succ]
        refine WpT.take (i := 10) (v := ?_) rfl (by kernel_rfl) (by kernel_rfl) (by kernel_rfl) (by kernel_rfl) (fun _ _ _ h => h) (Or.inl ⟨by rfl, ?_⟩) hS0 ?_
        rotate_left
        · intro wS hSw; (try dsimp only at hSw); go_simp; (first | done | with_reducible rfl)
        try simp only [Act.put, List.setIfInBounds_toArray, List.set_cons_zero, List.set_cons_succ]
        refine WpT.take (i := 11) (v := ?_) rfl (by kernel_rfl) (by kernel_rfl) (by kernel_rfl) (by kernel_rfl) (fun _ _ _ h => h) (Or.inl ⟨by rfl, ?_⟩) hS0 ?_
        rotate_left
        · intro wS hSw; (try dsimp only at hSw); go_simp; (first | done | with_reducible rfl)
        try simp only [Act.put, List.setIfInBounds_toArray, List.set_cons_zero, List.set_cons_succ]
        refine WpT.one (i := 3) (by kernel_rfl) rfl (fun K hK => ?_)
        go_simp
        go_at_call 30
        refine (picked_any _ 5 _ i2 (by decide) (ini rfl)).mono ?_
        rintro e w1 ⟨rfl, rfl⟩
        refine hK.out _ _ (fun _ _ => by first | exact hS0 | exact hS1 _ | exact hS2 _ _) ?_
        clear hK K
        try simp only [Act.put, List.setIfInBounds_toArray, List.set_cons_zero, List.set_cons_succ]
        refine WpT.two (i := 4) (j := 8) (by kernel_rfl) rfl rfl (fun K hK => ?_) (fun K hK => ?_)
        · go_simp
          refine hK.out _ _ (fun _ _ => by first | exact hS0 | exact hS1 _ | exact hS2 _ _) ?_
          clear hK K
          try simp only [Act.put, List.setIfInBounds_toArray, List.set_cons_zero, List.set_cons_succ]
          refine WpT.one (i := 8) (by kernel_rfl) rfl (fun K hK => ?_)
          go_simp
          go_at_call 31
          refine (turn_any _ _ bm _ (by first | exact hcmE | exact (hS1 _).2.2.2 | exact (hS2 _ _).2.2.2) i1 HM HMI).mono ?_
          rintro e w1 ⟨rfl, rfl⟩
          refine hK.out _ _ (fun _ _ => by first | exact hS0 | exact hS1 _ | exact hS2 _ _) ?_
          clear hK K
          try simp only [Act.put, List.setIfInBounds_toArray, List.set_cons_zero, List.set_cons_succ]
          refine WpT.one (i := 12) (by kernel_rfl) rfl (fun K hK => ?_)
          go_simp
          go_at_call 31
          refine (turn_any _ _ bm _ (by first | exact hcmE | exact (hS1 _).2.2.2 | exact (hS2 _ _).2.2.2) i3 HM HMI).mono ?_
          rintro e w1 ⟨rfl, rfl⟩
          refine hK.out _ _ (fun _ _ => by first | exact hS0 | exact hS1 _ | exact hS2 _ _) ?_
          clear hK K
          try simp only [Act.put, List.setIfInBounds_toArray, List.set_cons_zero, List.set_cons_succ]
          refine WpT.one (i := 13) (by kernel_rfl) rfl (fun K hK => ?_)
          go_simp
          refine hK.out _ _ (fun _ _ => by first | exact hS0 | exact hS1 _ | exact hS2 _ _) ?_
          clear hK K
          try simp only [Act.put, List.setIfInBounds_toArray, List.set_cons_zero, List.set_cons_succ]
          refine WpT.one (i := 14) (by kernel_rfl) rfl (fun K hK => ?_)
          go_simp
          refine hK.out _ _ (fun _ _ => by first | exact hS0 | exact hS1 _ | exact hS2 _ _) ?_
          clear hK K
          try simp only [Act.put, List.setIfInBounds_toArray, List.set_cons_zero, List.set_cons_succ]
          refine WpT.one (i := 15) (by kernel_rfl) rfl (fun K hK => ?_)
          go_simp
          refine hK.out _ _ (fun h => absurd rfl h) ?_
          clear hK K
          try simp only [Act.put, List.setIfInBounds_toArray, List.set_cons_zero, List.set_cons_succ]
          refine WpT.done (by kernel_rfl) ?_ _
          go_wp2_with fail
          go_meet
          case rel =>
            obtain ⟨⟨c0, c1, c2, c3, c4, c5⟩, hs, hh⟩ := six_rowsD hltE g0 g1 g2 g3 g4 g5 (.int .i64 10) (.slice none 0 0) (.slice (some ⟨wE.heap.size, 0, none⟩) 1 1) (.int .i64 0) (.string ⟨#[]⟩) (.slice (some ⟨wE.heap.size + 1, 0, none⟩) 2 2) [(.cells #[.int .i64 (pickF r.b 5)] 3), (.cells #[.int .i64 (pickF r.a (1 + (m2 : Int))), .int .i64 (pickF r.c (1 + (m2 : Int)))] 3)] _ rfl
            exact ⟨10, 0, ⟨#[]⟩, _, _, _, ⟨10, [], [pickF r.b 5], 0, ⟨#[]⟩, [pickF r.a (1 + (m2 : Int)), pickF r.c (1 + (m2 : Int))]⟩, c0, c1, c2, c3, c4, c5, lit_instr (ini rfl) (ini rfl) (by decide) (rSlice_nil _ _ _ _) (rInts_all [pickF r.b 5] (by omega) (lens rfl) (ini1 Hb5.out) (hh 0 (by simp))) (rInts_all [pickF r.a (1 + (m2 : Int)), pickF r.c (1 + (m2 : Int))] (by omega) (lens rfl) (ini2 (HtM.out _) (HtM.out _)) (hh 1 (by simp))), ⟨Nat.le_of_ble_eq_true rfl, Nat.le_of_ble_eq_true rfl, Nat.le_of_ble_eq_true rfl⟩, HbE.out.trans (hs.below (by omega) (fun k e => by omega)), Nat.lt_of_lt_of_le hltE hs.size⟩
        · go_simp
          go_at_call 31
          refine (turn_any _ _ bm _ (by first | exact hcmE | exact (hS1 _).2.2.2 | exact (hS2 _ _).2.2.2) i1 HM HMI).mono ?_
          rintro e w1 ⟨rfl, rfl⟩
          refine hK.out _ _ (fun _ _ => by first | exact hS0 | exact hS1 _ | exact hS2 _ _) ?_
          clear hK K
          try simp only [Act.put, List.setIfInBounds_toArray, List.set_cons_zero, List.set_cons_succ]
          refine WpT.two (i := 4) (j := 12) (by kernel_rfl) rfl rfl (fun K hK => ?_) (fun K hK => ?_)
          · go_simp
            refine hK.out _ _ (fun _ _ => by first | exact hS0 | exact hS1 _ | exact hS2 _ _) ?_
            clear hK K
            try simp only [Act.put, List.setIfInBounds_toArray, List.set_cons_zero, List.set_cons_succ]
            refine WpT.one (i := 12) (by kernel_rfl) rfl (fun K hK => ?_)
            go_simp
            go_at_call 31
            refine (turn_any _ _ bm _ (by first | exact hcmE | exact (hS1 _).2.2.2 | exact (hS2 _ _).2.2.2) i3 HM HMI).mono ?_
            rintro e w1 ⟨rfl, rfl⟩
            refine hK.out _ _ (fun _ _ => by first | exact hS0 | exact hS1 _ | exact hS2 _ _) ?_
            clear hK K
            try simp only [Act.put, List.setIfInBounds_toArray, List.set_cons_zero, List.set_cons_succ]
            refine WpT.one (i := 13) (by kernel_rfl) rfl (fun K hK => ?_)
            go_simp
            refine hK.out _ _ (fun _ _ => by first | exact hS0 | exact hS1 _ | exact hS2 _ _) ?_
            clear hK K
            try simp only [Act.put, List.setIfInBounds_toArray, List.set_cons_zero, List.set_cons_succ]
            refine WpT.one (i := 14) (by kernel_rfl) rfl (fun K hK => ?_)
            go_simp
            refine hK.out _ _ (fun _ _ => by first | exact hS0 | exact hS1 _ | exact hS2 _ _) ?_
            clear hK K
            try simp only [Act.put, List.setIfInBounds_toArray, List.set_cons_zero, List.set_cons_succ]
            refine WpT.one (i := 15) (by kernel_rfl) rfl (fun K hK => ?_)
            go_simp
            refine hK.out _ _ (fun h => absurd rfl h) ?_
            clear hK K
            try simp only [Act.put, List.setIfInBounds_toArray, List.set_cons_zero, List.set_cons_succ]
            refine WpT.done (by kernel_rfl) ?_ _
            go_wp2_with fail
            go_meet
            case rel =>
              obtain ⟨⟨c0, c1, c2, c3, c4, c5⟩, hs, hh⟩ := six_rowsD hltE g0 g1 g2 g3 g4 g5 (.int .i64 10) (.slice none 0 0) (.slice (some ⟨wE.heap.size, 0, none⟩) 1 1) (.int .i64 0) (.string ⟨#[]⟩) (.slice (some ⟨wE.heap.size + 1, 0, none⟩) 2 2) [(.cells #[.int .i64 (pickF r.b 5)] 3), (.cells #[.int .i64 (pickF r.a (1 + (m2 : Int))), .int .i64 (pickF r.c (1 + (m2 : Int)))] 3)] _ rfl
              exact ⟨10, 0, ⟨#[]⟩, _, _, _, ⟨10, [], [pickF r.b 5], 0, ⟨#[]⟩, [pickF r.a (1 + (m2 : Int)), pickF r.c (1 + (m2 : Int))]⟩, c0, c1, c2, c3, c4, c5, lit_instr (ini rfl) (ini rfl) (by decide) (rSlice_nil _ _ _ _) (rInts_all [pickF r.b 5] (by omega) (lens rfl) (ini1 Hb5.out) (hh 0 (by simp))) (rInts_all [pickF r.a (1 + (m2 : Int)), pickF r.c (1 + (m2 : Int))] (by omega) (lens rfl) (ini2 (HtM.out _) (HtM.out _)) (hh 1 (by simp))), ⟨Nat.le_of_ble_eq_true rfl, Nat.le_of_ble_eq_true rfl, Nat.le_of_ble_eq_true rfl⟩, HbE.out.trans (hs.below (by omega) (fun k e => by omega)), Nat.lt_of_lt_of_le hltE hs.size⟩
          · go_simp
            go_at_call 31
            refine (turn_any _ _ bm _ (by first | exact hcmE | exact (hS1 _).2.2.2 | exact (hS2 _ _).2.2.2) i3 HM HMI).mono ?_
            rintro e w1 ⟨rfl, rfl⟩
            refine hK.out _ _ (fun _ _ => by first | exact hS0 | exact hS1 _ | exact hS2 _ _) ?_
            clear hK K
            try simp only [Act.put, List.setIfInBounds_toArray, List.set_cons_zero, List.set_cons_succ]
            refine WpT.two (i := 4) (j := 13) (by kernel_rfl) rfl rfl (fun K hK => ?_) (fun K hK => ?_)
            · go_simp
              refine hK.out _ _ (fun _ _ => by first | exact hS0 | exact hS1 _ | exact hS2 _ _) ?_
              clear hK K
              try simp only [Act.put, List.setIfInBounds_toArray, List.set_cons_zero, List.set_cons_succ]
              refine WpT.one (i := 13) (by kernel_rfl) rfl (fun K hK => ?_)
              go_simp
              refine hK.out _ _ (fun _ _ => by first | exact hS0 | exact hS1 _ | exact hS2 _ _) ?_
              clear hK K
              try simp only [Act.put, List.setIfInBounds_toArray, List.set_cons_zero, List.set_cons_succ]
              refine WpT.one (i := 14) (by kernel_rfl) rfl (fun K hK => ?_)
              go_simp
              refine hK.out _ _ (fun _ _ => by first | exact hS0 | exact hS1 _ | exact hS2 _ _) ?_
              clear hK K
              try simp only [Act.put, List.setIfInBounds_toArray, List.set_cons_zero, List.set_cons_succ]
              refine WpT.one (i := 15) (by kernel_rfl) rfl (fun K hK => ?_)
              go_simp
              refine hK.out _ _ (fun h => absurd rfl h) ?_
              clear hK K
              try simp only [Act.put, List.setIfInBounds_toArray, List.set_cons_zero, List.set_cons_succ]
              refine WpT.done (by kernel_rfl) ?_ _
              go_wp2_with fail
              go_meet
              case rel =>
                obtain ⟨⟨c0, c1, c2, c3, c4, c5⟩, hs, hh⟩ := six_rowsD hltE g0 g1 g2 g3 g4 g5 (.int .i64 10) (.slice none 0 0) (.slice (some ⟨wE.heap.size, 0, none⟩) 1 1) (.int .i64 0) (.string ⟨#[]⟩) (.slice (some ⟨wE.heap.size + 1, 0, none⟩) 2 2) [(.cells #[.int .i64 (pickF r.b 5)] 3), (.cells #[.int .i64 (pickF r.a (1 + (m2 : Int))), .int .i64 (pickF r.c (1 + (m2 : Int)))] 3)] _ rfl
                exact ⟨10, 0, ⟨#[]⟩, _, _, _, ⟨10, [], [pickF r.b 5], 0, ⟨#[]⟩, [pickF r.a (1 + (m2 : Int)), pickF r.c (1 + (m2 : Int))]⟩, c0, c1, c2, c3, c4, c5, lit_instr (ini rfl) (ini rfl) (by decide) (rSlice_nil _ _ _ _) (rInts_all [pickF r.b 5] (by omega) (lens rfl) (ini1 Hb5.out) (hh 0 (by simp))) (rInts_all [pickF r.a (1 + (m2 : Int)), pickF r.c (1 + (m2 : Int))] (by omega) (lens rfl) (ini2 (HtM.out _) (HtM.out _)) (hh 1 (by simp))), ⟨Nat.le_of_ble_eq_true rfl, Nat.le_of_ble_eq_true rfl, Nat.le_of_ble_eq_true rfl⟩, HbE.out.trans (hs.below (by omega) (fun k e => by omega)), Nat.lt_of_lt_of_le hltE hs.size⟩
            · go_simp
              refine hK.out _ _ (fun _ _ => by first | exact hS0 | exact hS1 _ | exact hS2 _ _) ?_
              clear hK K
              try simp only [Act.put, List.setIfInBounds_toArray, List.set_cons_zero, List.set_cons_succ]
              refine WpT.one (i := 4) (by kernel_rfl) rfl (fun K hK => ?_)
              go_simp
              refine hK.out _ _ (fun _ _ => by first | exact hS0 | exact hS1 _ | exact hS2 _ _) ?_
              clear hK K
              try simp only [Act.put, List.setIfInBounds_toArray, List.set_cons_zero, List.set_cons_succ]
              refine WpT.one (i := 14) (by kernel_rfl) rfl (fun K hK => ?_)
              go_simp
              refine hK.out _ _ (fun _ _ => by first | exact hS0 | exact hS1 _ | exact hS2 _ _) ?_
              clear hK K
              try simp only [Act.put, List.setIfInBounds_toArray, List.set_cons_zero, List.set_cons_succ]
              refine WpT.one (i := 15) (by kernel_rfl) rfl (fun K hK => ?_)
              go_simp
              refine hK.out _ _ (fun h => absurd rfl h) ?_
              clear hK K
              try simp only [Act.put, List.setIfInBounds_toArray, List.set_cons_zero, List.set_cons_succ]
              refine WpT.done (by kernel_rfl) ?_ _
              go_wp2_with fail
              go_meet
              case rel =>
                obtain ⟨⟨c0, c1, c2, c3, c4, c5⟩, hs, hh⟩ := six_rowsD hltE g0 g1 g2 g3 g4 g5 (.int .i64 10) (.slice none 0 0) (.slice (some ⟨wE.heap.size + 1, 0, none⟩) 1 1) (.int .i64 0) (.string ⟨#[]⟩) (.slice (some ⟨wE.heap.size, 0, none⟩) 2 2) [(.cells #[.int .i64 (pickF r.a (1 + (m2 : Int))), .int .i64 (pickF r.c (1 + (m2 : Int)))] 3), (.cells #[.int .i64 (pickF r.b 5)] 3)] _ rfl
                exact ⟨10, 0, ⟨#[]⟩, _, _, _, ⟨10, [], [pickF r.b 5], 0, ⟨#[]⟩, [pickF r.a (1 + (m2 : Int)), pickF r.c (1 + (m2 : Int))]⟩, c0, c1, c2, c3, c4, c5, lit_instr (ini rfl) (ini rfl) (by decide) (rSlice_nil _ _ _ _) (rInts_all [pickF r.b 5] (by omega) (lens rfl) (ini1 Hb5.out) (hh 1 (by simp))) (rInts_all [pickF r.a (1 + (m2 : Int)), pickF r.c (1 + (m2 : Int))] (by omega) (lens rfl) (ini2 (HtM.out _) (HtM.out _)) (hh 0 (by simp))), ⟨Nat.le_of_ble_eq_true rfl, Nat.le_of_ble_eq_true rfl, Nat.le_of_ble_eq_true rfl⟩, HbE.out.trans (hs.below (by omega) (fun k e => by omega)), Nat.lt_of_lt_of_le hltE hs.size⟩
      · go_wp2_with fail
        refine WpT.start (fun w' => w'.cell? ⟨wr.heap.size, 1, none⟩ = some (.int .i64 r.a) ∧ w'.cell? ⟨wr.heap.size, 2, none⟩ = some (.int .i64 r.b) ∧ w'.cell? ⟨wr.heap.size, 3, none⟩ = some (.int .i64 r.c) ∧ w'.cell? ⟨bm, 0, none⟩ = some (.int .i64 (1 + (m2 : Int)))) 19 (by kernel_rfl) ?_
        refine WpT.take (i := 0) (v := ?_) rfl (by kernel_rfl) (by kernel_rfl) (by kernel_rfl) (by kernel_rfl) (fun _ _ _ h => h) (Or.inl ⟨by rfl, ?_⟩) hS0 ?_
        rotate_left
        · intro wS hSw; (try dsimp only at hSw); go_simp; (first | done | with_reducible rfl)
        try simp only [Act.put, List.setIfInBounds_toArray, List.set_cons_zero, List.set_cons_succ]
        refine WpT.take (i := 1) (v := ?_) rfl (by kernel_rfl) (by kernel_rfl) (by kernel_rfl) (by kernel_rfl) (fun _ _ _ h => h) (Or.inl ⟨by rfl, ?_⟩) hS0 ?_
        rotate_left
        · intro wS hSw; (try dsimp only at hSw); go_simp; (first | done | with_reducible rfl)
        try simp only [Act.put, List.setIfInBounds_toArray, List.set_cons_zero, List.set_cons_succ]
        refine WpT.take (i := 2) (v := ?_) rfl (by kernel_rfl) (by kernel_rfl) (by kernel_rfl) (by kernel_rfl) (fun _ _ _ h => h) (Or.inl ⟨by rfl, ?_⟩) hS0 ?_
        rotate_left
        · intro wS hSw; (try dsimp only at hSw); go_simp; (first | done | with_reducible rfl)
        try simp only [Act.put, List.setIfInBounds_toArray, List.set_cons_zero, List.set_cons_succ]
        refine WpT.take (i := 5) (v := ?_) rfl (by kernel_rfl) (by kernel_rfl) (by kernel_rfl) (by kernel_rfl) (fun _ _ _ h => h) (Or.inl ⟨by rfl, ?_⟩) hS0 ?_
        rotate_left
        · intro wS hSw; (try dsimp only at hSw); go_simp; (first | done | with_reducible rfl)
        try simp only [Act.put, List.setIfInBounds_toArray, List.set_cons_zero, List.set_cons_succ]
        refine WpT.take (i := 6) (v := ?_) rfl (by kernel_rfl) (by kernel_rfl) (by kernel_rfl) (by kernel_rfl) (fun _ _ _ h => h) (Or.inl ⟨by rfl, ?_⟩) hS0 ?_
        rotate_left
        · intro wS hSw; (try dsimp only at hSw); go_simp; (first | done | with_reducible rfl)
        try simp only [Act.put, List.setIfInBounds_toArray, List.set_cons_zero, List.set_cons_succ]
        refine WpT.take (i := 7) (v := ?_) rfl (by kernel_rfl) (by kernel_rfl) (by kernel_rfl) (by kernel_rfl) (fun _ _ _ h => h) (Or.inl ⟨by rfl, ?_⟩) hS0 ?_
        rotate_left
        · intro wS hSw; (try dsimp only at hSw); go_simp; (first | done | with_reducible rfl)
        try simp only [Act.put, List.setIfInBounds_toArray, List.set_cons_zero, List.set_cons_succ]
        refine WpT.take (i := 9) (v := ?_) rfl (by kernel_rfl) (by kernel_rfl) (by kernel_rfl) (by kernel_rfl) (fun _ _ _ h => h) (Or.inl ⟨by rfl, ?_⟩) hS0 ?_
        rotate_left
        · intro wS hSw; (try dsimp only at hSw); go_simp; (first | done | with_reducible rfl)
        try simp only [Act.put, List.setIfInBounds_toArray, List.set_cons_zero, List.set_cons_succ]
        refine WpT.take (i := 10) (v := ?_) rfl (by kernel_rfl) (by kernel_rfl) (by kernel_rfl) (by kernel_rfl) (fun _ _ _ h => h) (Or.inl ⟨by rfl, ?_⟩) hS0 ?_
        rotate_left
        · intro wS hSw; (try dsimp only at hSw); go_simp; (first | done | with_reducible rfl)
        try simp only [Act.put, List.setIfInBounds_toArray, List.set_cons_zero, List.set_cons_succ]
        refine WpT.take (i := 11) (v := ?_) rfl (by kernel_rfl) (by kernel_rfl) (by kernel_rfl) (by kernel_rfl) (fun _ _ _ h => h) (Or.inl ⟨by rfl, ?_⟩) hS0 ?_
        rotate_left
        · intro wS hSw; (try dsimp only at hSw); go_simp; (first | done | with_reducible rfl)
        try simp only [Act.put, List.setIfInBounds_toArray, List.set_cons_zero, List.set_cons_succ]
        refine WpT.take (i := 13) (v := ?_) rfl (by kernel_rfl) (by kernel_rfl) (by kernel_rfl) (by kernel_rfl) (fun _ _ _ h => h) (Or.inl ⟨by rfl, ?_⟩) hS0 ?_
        rotate_left
        · intro wS hSw; (try dsimp only at hSw); go_simp; (first | done | with_reducible rfl)
        try simp only [Act.put, List.setIfInBounds_toArray, List.set_cons_zero, List.set_cons_succ]
        refine WpT.take (i := 14) (v := ?_) rfl (by kernel_rfl) (by kernel_rfl) (by kernel_rfl) (by kernel_rfl) (fun _ _ _ h => h) (Or.inl ⟨by rfl, ?_⟩) hS0 ?_
        rotate_left
        · intro wS hSw; (try dsimp only at hSw); go_simp; (first | done | with_reducible rfl)
        try simp only [Act.put, List.setIfInBounds_toArray, List.set_cons_zero, List.set_cons_succ]
        refine WpT.take (i := 15) (v := ?_) rfl (by kernel_rfl) (by kernel_rfl) (by kernel_rfl) (by kernel_rfl) (fun _ _ _ h => h) (Or.inl ⟨by rfl, ?_⟩) hS0 ?_
        rotate_left
        · intro wS hSw; (try dsimp only at hSw); go_simp; (first | done | with_reducible rfl)
        try simp only [Act.put, List.setIfInBounds_toArray, List.set_cons_zero, List.set_cons_succ]
        refine WpT.one (i := 3) (by kernel_rfl) rfl (fun K hK => ?_)
        go_simp
        go_at_call 30
        refine (picked_any _ 5 _ i2 (by decide) (ini rfl)).mono ?_
        rintro e w1 ⟨rfl, rfl⟩
        refine hK.out _ _ (fun _ _ => by first | exact hS0 | exact hS1 _ | exact hS2 _ _) ?_
        clear hK K
        try simp only [Act.put, List.setIfInBounds_toArray, List.set_cons_zero, List.set_cons_succ]
        refine WpT.two (i := 4) (j := 8) (by kernel_rfl) rfl rfl (fun K hK => ?_) (fun K hK => ?_)
        · go_simp
          refine hK.out _ _ (fun _ _ => by first | exact hS0 | exact hS1 _ | exact hS2 _ _) ?_
          clear hK K
          try simp only [Act.put, List.setIfInBounds_toArray, List.set_cons_zero, List.set_cons_succ]
          refine WpT.one (i := 8) (by kernel_rfl) rfl (fun K hK => ?_)
          go_simp
          go_at_call 31
          refine (turn_any _ _ bm _ (by first | exact hcmE | exact (hS1 _).2.2.2 | exact (hS2 _ _).2.2.2) i1 HM HMI).mono ?_
          rintro e w1 ⟨rfl, rfl⟩
          refine hK.out _ _ (fun _ _ => by first | exact hS0 | exact hS1 _ | exact hS2 _ _) ?_
          clear hK K
          try simp only [Act.put, List.setIfInBounds_toArray, List.set_cons_zero, List.set_cons_succ]
          refine WpT.one (i := 12) (by kernel_rfl) rfl (fun K hK => ?_)
          go_simp
          go_at_call 31
          refine (turn_any _ _ bm _ (by first | exact hcmE | exact (hS1 _).2.2.2 | exact (hS2 _ _).2.2.2) i2 HM HMI).mono ?_
          rintro e w1 ⟨rfl, rfl⟩
          refine hK.out _ _ (fun _ _ => by first | exact hS0 | exact hS1 _ | exact hS2 _ _) ?_
          clear hK K
          try simp only [Act.put, List.setIfInBounds_toArray, List.set_cons_zero, List.set_cons_succ]
          refine WpT.one (i := 16) (by kernel_rfl) rfl (fun K hK => ?_)
          go_simp
          go_at_call 31
          refine (turn_any _ _ bm _ (by first | exact hcmE | exact (hS1 _).2.2.2 | exact (hS2 _ _).2.2.2) i3 HM HMI).mono ?_
          rintro e w1 ⟨rfl, rfl⟩
          refine hK.out _ _ (fun _ _ => by first | exact hS0 | exact hS1 _ | exact hS2 _ _) ?_
          clear hK K
          try simp only [Act.put, List.setIfInBounds_toArray, List.set_cons_zero, List.set_cons_succ]
          refine WpT.one (i := 17) (by kernel_rfl) rfl (fun K hK => ?_)
          go_simp
          refine hK.out _ _ (fun _ _ => by first | exact hS0 | exact hS1 _ | exact hS2 _ _) ?_
          clear hK K
          try simp only [Act.put, List.setIfInBounds_toArray, List.set_cons_zero, List.set_cons_succ]
          refine WpT.one (i := 18) (by kernel_rfl) rfl (fun K hK => ?_)
          go_simp
          refine hK.out _ _ (fun _ _ => by first | exact hS0 | exact hS1 _ | exact hS2 _ _) ?_
          clear hK K
          try simp only [Act.put, List.setIfInBounds_toArray, List.set_cons_zero, List.set_cons_succ]
          refine WpT.one (i := 19) (by kernel_rfl) rfl (fun K hK => ?_)
          go_simp
          refine hK.out _ _ (fun h => absurd rfl h) ?_
          clear hK K
          try simp only [Act.put, List.setIfInBounds_toArray, List.set_cons_zero, List.set_cons_succ]
          refine WpT.done (by kernel_rfl) ?_ _
          go_wp2_with fail
          go_meet
          case rel =>
            obtain ⟨⟨c0, c1, c2, c3, c4, c5⟩, hs, hh⟩ := six_rowsD hltE g0 g1 g2 g3 g4 g5 (.int .i64 11) (.slice none 0 0) (.slice (some ⟨wE.heap.size, 0, none⟩) 1 1) (.int .i64 0) (.string ⟨#[]⟩) (.slice (some ⟨wE.heap.size + 1, 0, none⟩) 3 3) [(.cells #[.int .i64 (pickF r.b 5)] 3), (.cells #[.int .i64 (pickF r.a (1 + (m2 : Int))), .int .i64 (pickF r.b (1 + (m2 : Int))), .int .i64 (pickF r.c (1 + (m2 : Int)))] 3)] _ rfl
            exact ⟨11, 0, ⟨#[]⟩, _, _, _, ⟨11, [], [pickF r.b 5], 0, ⟨#[]⟩, [pickF r.a (1 + (m2 : Int)), pickF r.b (1 + (m2 : Int)), pickF r.c (1 + (m2 : Int))]⟩, c0, c1, c2, c3, c4, c5, lit_instr (ini rfl) (ini rfl) (by decide) (rSlice_nil _ _ _ _) (rInts_all [pickF r.b 5] (by omega) (lens rfl) (ini1 Hb5.out) (hh 0 (by simp))) (rInts_all [pickF r.a (1 + (m2 : Int)), pickF r.b (1 + (m2 : Int)), pickF r.c (1 + (m2 : Int))] (by omega) (lens rfl) (ini3 (HtM.out _) (HtM.out _) (HtM.out _)) (hh 1 (by simp))), ⟨Nat.le_of_ble_eq_true rfl, Nat.le_of_ble_eq_true rfl, Nat.le_of_ble_eq_true rfl⟩, HbE.out.trans (hs.below (by omega) (fun k e => by omega)), Nat.lt_of_lt_of_le hltE hs.size⟩
        · go_simp
          go_at_call 31
          refine (turn_any _ _ bm _ (by first | exact hcmE | exact (hS1 _).2.2.2 | exact (hS2 _ _).2.2.2) i1 HM HMI).mono ?_
          rintro e w1 ⟨rfl, rfl⟩
          refine hK.out _ _ (fun _ _ => by first | exact hS0 | exact hS1 _ | exact hS2 _ _) ?_
          clear hK K
          try simp only [Act.put, List.setIfInBounds_toArray, List.set_cons_zero, List.set_cons_succ]
          refine WpT.two (i := 4) (j := 12) (by kernel_rfl) rfl rfl (fun K hK => ?_) (fun K hK => ?_)
          · go_simp
            refine hK.out _ _ (fun _ _ => by first | exact hS0 | exact hS1 _ | exact hS2 _ _) ?_
            clear hK K
            try simp only [Act.put, List.setIfInBounds_toArray, List.set_cons_zero, List.set_cons_succ]
            refine WpT.one (i := 12) (by kernel_rfl) rfl (fun K hK => ?_)
            go_simp
            go_at_call 31
            refine (turn_any _ _ bm _ (by first | exact hcmE | exact (hS1 _).2.2.2 | exact (hS2 _ _).2.2.2) i2 HM HMI).mono ?_
            rintro e w1 ⟨rfl, rfl⟩
            refine hK.out _ _ (fun _ _ => by first | exact hS0 | exact hS1 _ | exact hS2 _ _) ?_
            clear hK K
            try simp only [Act.put, List.setIfInBounds_toArray, List.set_cons_zero, List.set_cons_succ]
            refine WpT.one (i := 16) (by kernel_rfl) rfl (fun K hK => ?_)
            go_simp
            go_at_call 31
            refine (turn_any _ _ bm _ (by first | exact hcmE | exact (hS1 _).2.2.2 | exact (hS2 _ _).2.2.2) i3 HM HMI).mono ?_
            rintro e w1 ⟨rfl, rfl⟩
            refine hK.out _ _ (fun _ _ => by first | exact hS0 | exact hS1 _ | exact hS2 _ _) ?_
            clear hK K
            try simp only [Act.put, List.setIfInBounds_toArray, List.set_cons_zero, List.set_cons_succ]
            refine WpT.one (i := 17) (by kernel_rfl) rfl (fun K hK => ?_)
            go_simp
            refine hK.out _ _ (fun _ _ => by first | exact hS0 | exact hS1 _ | exact hS2 _ _) ?_
            clear hK K
            try simp only [Act.put, List.setIfInBounds_toArray, List.set_cons_zero, List.set_cons_succ]
            refine WpT.one (i := 18) (by kernel_rfl) rfl (fun K hK => ?_)
            go_simp
            refine hK.out _ _ (fun _ _ => by first | exact hS0 | exact hS1 _ | exact hS2 _ _) ?_
            clear hK K
            try simp only [Act.put, List.setIfInBounds_toArray, List.set_cons_zero, List.set_cons_succ]
            refine WpT.one (i := 19) (by kernel_rfl) rfl (fun K hK => ?_)
            go_simp
            refine hK.out _ _ (fun h => absurd rfl h) ?_
            clear hK K
            try simp only [Act.put, List.setIfInBounds_toArray, List.set_cons_zero, List.set_cons_succ]
            refine WpT.done (by kernel_rfl) ?_ _
            go_wp2_with fail
            go_meet
            case rel =>
              obtain ⟨⟨c0, c1, c2, c3, c4, c5⟩, hs, hh⟩ := six_rowsD hltE g0 g1 g2 g3 g4 g5 (.int .i64 11) (.slice none 0 0) (.slice (some ⟨wE.heap.size, 0, none⟩) 1 1) (.int .i64 0) (.string ⟨#[]⟩) (.slice (some ⟨wE.heap.size + 1, 0, none⟩) 3 3) [(.cells #[.int .i64 (pickF r.b 5)] 3), (.cells #[.int .i64 (pickF r.a (1 + (m2 : Int))), .int .i64 (pickF r.b (1 + (m2 : Int))), .int .i64 (pickF r.c (1 + (m2 : Int)))] 3)] _ rfl
              exact ⟨11, 0, ⟨#[]⟩, _, _, _, ⟨11, [], [pickF r.b 5], 0, ⟨#[]⟩, [pickF r.a (1 + (m2 : Int)), pickF r.b (1 + (m2 : Int)), pickF r.c (1 + (m2 : Int))]⟩, c0, c1, c2, c3, c4, c5, lit_instr (ini rfl) (ini rfl) (by decide) (rSlice_nil _ _ _ _) (rInts_all [pickF r.b 5] (by omega) (lens rfl) (ini1 Hb5.out) (hh 0 (by simp))) (rInts_all [pickF r.a (1 + (m2 : Int)), pickF r.b (1 + (m2 : Int)), pickF r.c (1 + (m2 : Int))] (by omega) (lens rfl) (ini3 (HtM.out _) (HtM.out _) (HtM.out _)) (hh 1 (by simp))), ⟨Nat.le_of_ble_eq_true rfl, Nat.le_of_ble_eq_true rfl, Nat.le_of_ble_eq_true rfl⟩, HbE.out.trans (hs.below (by omega) (fun k e => by omega)), Nat.lt_of_lt_of_le hltE hs.size⟩
          · go_simp
            go_at_call 31
            refine (turn_any _ _ bm _ (by first | exact hcmE | exact (hS1 _).2.2.2 | exact (hS2 _ _).2.2.2) i2 HM HMI).mono ?_
            rintro e w1 ⟨rfl, rfl⟩
            refine hK.out _ _ (fun _ _ => by first | exact hS0 | exact hS1 _ | exact hS2 _ _) ?_
            clear hK K
            try simp only [Act.put, List.setIfInBounds_toArray, List.set_cons_zero, List.set_cons_succ]
            refine WpT.two (i := 4) (j := 16) (by kernel_rfl) rfl rfl (fun K hK => ?_) (fun K hK => ?_)
            · go_simp
              refine hK.out _ _ (fun _ _ => by first | exact hS0 | exact hS1 _ | exact hS2 _ _) ?_
              clear hK K
              try simp only [Act.put, List.setIfInBounds_toArray, List.set_cons_zero, List.set_cons_succ]
              refine WpT.one (i := 16) (by kernel_rfl) rfl (fun K hK => ?_)
              go_simp
              go_at_call 31
              refine (turn_any _ _ bm _ (by first | exact hcmE | exact (hS1 _).2.2.2 | exact (hS2 _ _).2.2.2) i3 HM HMI).mono ?_
              rintro e w1 ⟨rfl, rfl⟩
              refine hK.out _ _ (fun _ _ => by first | exact hS0 | exact hS1 _ | exact hS2 _ _) ?_
              clear hK K
              try simp only [Act.put, List.setIfInBounds_toArray, List.set_cons_zero, List.set_cons_succ]
              refine WpT.one (i := 17) (by kernel_rfl) rfl (fun K hK => ?_)
              go_simp
              refine hK.out _ _ (fun _ _ => by first | exact hS0 | exact hS1 _ | exact hS2 _ _) ?_
              clear hK K
              try simp only [Act.put, List.setIfInBounds_toArray, List.set_cons_zero, List.set_cons_succ]
              refine WpT.one (i := 18) (by kernel_rfl) rfl (fun K hK => ?_)
              go_simp
              refine hK.out _ _ (fun _ _ => by first | exact hS0 | exact hS1 _ | exact hS2 _ _) ?_
              clear hK K
              try simp only [Act.put, List.setIfInBounds_toArray, List.set_cons_zero, List.set_cons_succ]
              refine WpT.one (i := 19) (by kernel_rfl) rfl (fun K hK => ?_)
              go_simp
              refine hK.out _ _ (fun h => absurd rfl h) ?_
              clear hK K
              try simp only [Act.put, List.setIfInBounds_toArray, List.set_cons_zero, List.set_cons_succ]
              refine WpT.done (by kernel_rfl) ?_ _
              go_wp2_with fail
              go_meet
              case rel =>
                obtain ⟨⟨c0, c1, c2, c3, c4, c5⟩, hs, hh⟩ := six_rowsD hltE g0 g1 g2 g3 g4 g5 (.int .i64 11) (.slice none 0 0) (.slice (some ⟨wE.heap.size, 0, none⟩) 1 1) (.int .i64 0) (.string ⟨#[]⟩) (.slice (some ⟨wE.heap.size + 1, 0, none⟩) 3 3) [(.cells #[.int .i64 (pickF r.b 5)] 3), (.cells #[.int .i64 (pickF r.a (1 + (m2 : Int))), .int .i64 (pickF r.b (1 + (m2 : Int))), .int .i64 (pickF r.c (1 + (m2 : Int)))] 3)] _ rfl
                exact ⟨11, 0, ⟨#[]⟩, _, _, _, ⟨11, [], [pickF r.b 5], 0, ⟨#[]⟩, [pickF r.a (1 + (m2 : Int)), pickF r.b (1 + (m2 : Int)), pickF r.c (1 + (m2 : Int))]⟩, c0, c1, c2, c3, c4, c5, lit_instr (ini rfl) (ini rfl) (by decide) (rSlice_nil _ _ _ _) (rInts_all [pickF r.b 5] (by omega) (lens rfl) (ini1 Hb5.out) (hh 0 (by simp))) (rInts_all [pickF r.a (1 + (m2 : Int)), pickF r.b (1 + (m2 : Int)), pickF r.c (1 + (m2 : Int))] (by omega) (lens rfl) (ini3 (HtM.out _) (HtM.out _) (HtM.out _)) (hh 1 (by simp))), ⟨Nat.le_of_ble_eq_true rfl, Nat.le_of_ble_eq_true rfl, Nat.le_of_ble_eq_true rfl⟩, HbE.out.trans (hs.below (by omega) (fun k e => by omega)), Nat.lt_of_lt_of_le hltE hs.size⟩
            · go_simp
              go_at_call 31
              refine (turn_any _ _ bm _ (by first | exact hcmE | exact (hS1 _).2.2.2 | exact (hS2 _ _).2.2.2) i3 HM HMI).mono ?_
              rintro e w1 ⟨rfl, rfl⟩
              refine hK.out _ _ (fun _ _ => by first | exact hS0 | exact hS1 _ | exact hS2 _ _) ?_
              clear hK K
              try simp only [Act.put, List.setIfInBounds_toArray, List.set_cons_zero, List.set_cons_succ]
              refine WpT.two (i := 4) (j := 17) (by kernel_rfl) rfl rfl (fun K hK => ?_) (fun K hK => ?_)
              · go_simp
                refine hK.out _ _ (fun _ _ => by first | exact hS0 | exact hS1 _ | exact hS2 _ _) ?_
                clear hK K
                try simp only [Act.put, List.setIfInBounds_toArray, List.set_cons_zero, List.set_cons_succ]
                refine WpT.one (i := 17) (by kernel_rfl) rfl (fun K hK => ?_)
                go_simp
                refine hK.out _ _ (fun _ _ => by first | exact hS0 | exact hS1 _ | exact hS2 _ _) ?_
                clear hK K
                try simp only [Act.put, List.setIfInBounds_toArray, List.set_cons_zero, List.set_cons_succ]
                refine WpT.one (i := 18) (by kernel_rfl) rfl (fun K hK => ?_)
                go_simp
                refine hK.out _ _ (fun _ _ => by first | exact hS0 | exact hS1 _ | exact hS2 _ _) ?_
                clear hK K
                try simp only [Act.put, List.setIfInBounds_toArray, List.set_cons_zero, List.set_cons_succ]
                refine WpT.one (i := 19) (by kernel_rfl) rfl (fun K hK => ?_)
                go_simp
                refine hK.out _ _ (fun h => absurd rfl h) ?_
                clear hK K
                try simp only [Act.put, List.setIfInBounds_toArray, List.set_cons_zero, List.set_cons_succ]
                refine WpT.done (by kernel_rfl) ?_ _
                go_wp2_with fail
                go_meet
                case rel =>
                  obtain ⟨⟨c0, c1, c2, c3, c4, c5⟩, hs, hh⟩ := six_rowsD hltE g0 g1 g2 g3 g4 g5 (.int .i64 11) (.slice none 0 0) (.slice (some ⟨wE.heap.size, 0, none⟩) 1 1) (.int .i64 0) (.string ⟨#[]⟩) (.slice (some ⟨wE.heap.size + 1, 0, none⟩) 3 3) [(.cells #[.int .i64 (pickF r.b 5)] 3), (.cells #[.int .i64 (pickF r.a (1 + (m2 : Int))), .int .i64 (pickF r.b (1 + (m2 : Int))), .int .i64 (pickF r.c (1 + (m2 : Int)))] 3)] _ rfl
                  exact ⟨11, 0, ⟨#[]⟩, _, _, _, ⟨11, [], [pickF r.b 5], 0, ⟨#[]⟩, [pickF r.a (1 + (m2 : Int)), pickF r.b (1 + (m2 : Int)), pickF r.c (1 + (m2 : Int))]⟩, c0, c1, c2, c3, c4, c5, lit_instr (ini rfl) (ini rfl) (by decide) (rSlice_nil _ _ _ _) (rInts_all [pickF r.b 5] (by omega) (lens rfl) (ini1 Hb5.out) (hh 0 (by simp))) (rInts_all [pickF r.a (1 + (m2 : Int)), pickF r.b (1 + (m2 : Int)), pickF r.c (1 + (m2 : Int))] (by omega) (lens rfl) (ini3 (HtM.out _) (HtM.out _) (HtM.out _)) (hh 1 (by simp))), ⟨Nat.le_of_ble_eq_true rfl, Nat.le_of_ble_eq_true rfl, Nat.le_of_ble_eq_true rfl⟩, HbE.out.trans (hs.below (by omega) (fun k e => by omega)), Nat.lt_of_lt_of_le hltE hs.size⟩
              · go_simp
                refine hK.out _ _ (fun _ _ => by first | exact hS0 | exact hS1 _ | exact hS2 _ _) ?_
                clear hK K
                try simp only [Act.put, List.setIfInBounds_toArray, List.set_cons_zero, List.set_cons_succ]
                refine WpT.one (i := 4) (by kernel_rfl) rfl (fun K hK => ?_)
                go_simp
                refine hK.out _ _ (fun _ _ => by first | exact hS0 | exact hS1 _ | exact hS2 _ _) ?_
                clear hK K
                try simp only [Act.put, List.setIfInBounds_toArray, List.set_cons_zero, List.set_cons_succ]
                refine WpT.one (i := 18) (by kernel_rfl) rfl (fun K hK => ?_)
                go_simp
                refine hK.out _ _ (fun _ _ => by first | exact hS0 | exact hS1 _ | exact hS2 _ _) ?_
                clear hK K
                try simp only [Act.put, List.setIfInBounds_toArray, List.set_cons_zero, List.set_cons_succ]
                refine WpT.one (i := 19) (by kernel_rfl) rfl (fun K hK => ?_)
                go_simp
                refine hK.out _ _ (fun h => absurd rfl h) ?_
                clear hK K
                try simp only [Act.put, List.setIfInBounds_toArray, List.set_cons_zero, List.set_cons_succ]
                refine WpT.done (by kernel_rfl) ?_ _
                go_wp2_with fail
                go_meet
                case rel =>
                  obtain ⟨⟨c0, c1, c2, c3, c4, c5⟩, hs, hh⟩ := six_rowsD hltE g0 g1 g2 g3 g4 g5 (.int .i64 11) (.slice none 0 0) (.slice (some ⟨wE.heap.size + 1, 0, none⟩) 1 1) (.int .i64 0) (.string ⟨#[]⟩) (.slice (some ⟨wE.heap.size, 0, none⟩) 3 3) [(.cells #[.int .i64 (pickF r.a (1 + (m2 : Int))), .int .i64 (pickF r.b (1 + (m2 : Int))), .int .i64 (pickF r.c (1 + (m2 : Int)))] 3), (.cells #[.int .i64 (pickF r.b 5)] 3)] _ rfl
                  exact ⟨11, 0, ⟨#[]⟩, _, _, _, ⟨11, [], [pickF r.b 5], 0, ⟨#[]⟩, [pickF r.a (1 + (m2 : Int)), pickF r.b (1 + (m2 : Int)), pickF r.c (1 + (m2 : Int))]⟩, c0, c1, c2, c3, c4, c5, lit_instr (ini rfl) (ini rfl) (by decide) (rSlice_nil _ _ _ _) (rInts_all [pickF r.b 5] (by omega) (lens rfl) (ini1 Hb5.out) (hh 1 (by simp))) (rInts_all [pickF r.a (1 + (m2 : Int)), pickF r.b (1 + (m2 : Int)), pickF r.c (1 + (m2 : Int))] (by omega) (lens rfl) (ini3 (HtM.out _) (HtM.out _) (HtM.out _)) (hh 0 (by simp))), ⟨Nat.le_of_ble_eq_true rfl, Nat.le_of_ble_eq_true rfl, Nat.le_of_ble_eq_true rfl⟩, HbE.out.trans (hs.below (by omega) (fun k e => by omega)), Nat.lt_of_lt_of_le hltE hs.size⟩
      · go_wp2_with fail
        go_meet
        case rel =>
          exact ⟨12, 0, ⟨#[]⟩, _, _, _, ⟨12, [], [], 0, ⟨#[]⟩, []⟩, g0, g1, g2, g3, g4, g5, lit_instr (ini rfl) (ini rfl) (by decide) (rSlice_nil _ _ _ _) (rSlice_nil _ _ _ _) (rSlice_nil _ _ _ _), ⟨Nat.le_of_ble_eq_true rfl, Nat.le_of_ble_eq_true rfl, Nat.le_of_ble_eq_true rfl⟩, HbE.out, hltE⟩
    case rest =>
      obtain ⟨op, nn, ss, v1, v2, v5, ii2, c0, c1, c2, c3, c4, c5, hri, hfi, hbc, hltc⟩ := hcut
      have hone : ∀ u ∈ [Value.int .i64 op, v1, v2, .int .i64 nn, .string ss, v5], u.oneCell' = true := by
        obtain ⟨x1, x2, x5, he, _, hr1, hr2, hr5⟩ := id hri
        simp only [List.cons.injEq, and_true, true_and] at he
        obtain ⟨_, rfl, rfl, _, _, rfl⟩ := he
        obtain ⟨a1, k1, rfl⟩ := rSlice_shape hr1
        obtain ⟨a2, k2, rfl⟩ := rSlice_shape hr2
        obtain ⟨a5, k5, rfl⟩ := rSlice_shape hr5
        simp [Value.oneCell']
      have Hone := Lib.hid hone
      clear hone
      clear g0 g1 g2 g3 g4 g5 fz e0' e1' e2' e3' hcmE hk5
      have hsW : Since (fun _ => False) wr wc := ⟨hbc.os, hbc.tape, hbc.output, hbc.size, fun k hk _ => hbc.block k hk⟩
      have hbcw : bc < wr.heap.size := by omega
      have hown2 := hsW.row Hown.out (fun _ _ f => f)
      have n1 : (Value.slice aV ls.length cV).ownBlock ≠ some bc := fun e => by have := (HI.out.own bc e).1; omega
      have n2 : (Value.slice aV ls.length cV).ownBlock ≠ some bE := fun e => by have := (Hown.out.lt bE e).2; omega
      have b5 : wc.cell? ⟨bc, 5, none⟩ = some vB := (hsW.cell hbcw (fun f => f)).trans HI.out.code.c5
      have hls60 : ls.length ≤ 60 := by have := Hj.out; omega
      have hsr := hbc.size
      have Hown2 := Lib.hid hown2
      have Hbc := Lib.hid hbc
      have Hri := Lib.hid hri
      have Hfi := Lib.hid hfi
      have Hl' := Lib.hid (Hl.out)
      clear hown2 hbc hri hfi hsW
      go_wp2_with fail
      refine WpT.start (fun w' => w'.cell? ⟨bE, 0, none⟩ = some (.int .i64 op) ∧ w'.cell? ⟨bE, 1, none⟩ = some v1 ∧ w'.cell? ⟨bE, 2, none⟩ = some v2 ∧ w'.cell? ⟨bE, 3, none⟩ = some (.int .i64 nn) ∧ w'.cell? ⟨bE, 4, none⟩ = some (.string ss) ∧ w'.cell? ⟨bE, 5, none⟩ = some v5 ∧ w'.cell? ⟨bc, 5, none⟩ = some vB) 9 (by kernel_rfl) ?_
      have hS0 : wc.cell? ⟨bE, 0, none⟩ = some (.int .i64 op) ∧ wc.cell? ⟨bE, 1, none⟩ = some v1 ∧ wc.cell? ⟨bE, 2, none⟩ = some v2 ∧ wc.cell? ⟨bE, 3, none⟩ = some (.int .i64 nn) ∧ wc.cell? ⟨bE, 4, none⟩ = some (.string ss) ∧ wc.cell? ⟨bE, 5, none⟩ = some v5 ∧ wc.cell? ⟨bc, 5, none⟩ = some vB := ⟨c0, c1, c2, c3, c4, c5, b5⟩
      have hS1 : ∀ (F : Nat → Prop) (w1 w2 : World), Since F w1 w2 → ¬ F bE → ¬ F bc → bE < w1.heap.size → bc < w1.heap.size → (w1.cell? ⟨bE, 0, none⟩ = some (.int .i64 op) ∧ w1.cell? ⟨bE, 1, none⟩ = some v1 ∧ w1.cell? ⟨bE, 2, none⟩ = some v2 ∧ w1.cell? ⟨bE, 3, none⟩ = some (.int .i64 nn) ∧ w1.cell? ⟨bE, 4, none⟩ = some (.string ss) ∧ w1.cell? ⟨bE, 5, none⟩ = some v5 ∧ w1.cell? ⟨bc, 5, none⟩ = some vB) →
          w2.cell? ⟨bE, 0, none⟩ = some (.int .i64 op) ∧ w2.cell? ⟨bE, 1, none⟩ = some v1 ∧ w2.cell? ⟨bE, 2, none⟩ = some v2 ∧ w2.cell? ⟨bE, 3, none⟩ = some (.int .i64 nn) ∧ w2.cell? ⟨bE, 4, none⟩ = some (.string ss) ∧ w2.cell? ⟨bE, 5, none⟩ = some v5 ∧ w2.cell? ⟨bc, 5, none⟩ = some vB := fun F w1 w2 hs f1 f2 l1 l2 h => by
        obtain ⟨h0, h1, h2, h3, h4, h5, h6⟩ := h
        exact ⟨(hs.cell l1 f1).trans h0, (hs.cell l1 f1).trans h1, (hs.cell l1 f1).trans h2, (hs.cell l1 f1).trans h3, (hs.cell l1 f1).trans h4, (hs.cell l1 f1).trans h5, (hs.cell l2 f2).trans h6⟩
      have hbcc : bc < wc.heap.size := by omega
      refine WpT.take (i := 0) (v := ?_) rfl (by kernel_rfl) (by kernel_rfl) (by kernel_rfl) (by kernel_rfl) (fun _ _ _ h => h) (Or.inl ⟨by rfl, ?_⟩) hS0 ?_
      rotate_left
      · intro wS hSw; (try dsimp only at hSw); go_simp; (first | done | with_reducible rfl)
      try simp only [Act.put, List.setIfInBounds_toArray, List.set_cons_zero, List.set_cons_succ]
      refine WpT.take (i := 1) (v := ?_) rfl (by kernel_rfl) (by kernel_rfl) (by kernel_rfl) (by kernel_rfl) (fun _ _ _ h => h) (Or.inl ⟨by rfl, ?_⟩) hS0 ?_
      rotate_left
      · intro wS hSw; (try dsimp only at hSw); go_simp; (first | done | with_reducible rfl)
      try simp only [Act.put, List.setIfInBounds_toArray, List.set_cons_zero, List.set_cons_succ]
      refine WpT.take (i := 2) (v := ?_) rfl (by kernel_rfl) (by kernel_rfl) (by kernel_rfl) (by kernel_rfl) (fun _ _ _ h => h) (Or.inl ⟨by rfl, ?_⟩) hS0 ?_
      rotate_left
      · intro wS hSw; (try dsimp only at hSw); go_simp; (first | done | with_reducible rfl)
      try simp only [Act.put, List.setIfInBounds_toArray, List.set_cons_zero, List.set_cons_succ]
      refine WpT.take (i := 3) (v := ?_) rfl (by kernel_rfl) (by kernel_rfl) (by kernel_rfl) (by kernel_rfl) (fun _ _ _ h => h) (Or.inl ⟨by rfl, ?_⟩) hS0 ?_
      rotate_left
      · intro wS hSw; (try dsimp only at hSw); go_simp; (first | done | with_reducible rfl)
      try simp only [Act.put, List.setIfInBounds_toArray, List.set_cons_zero, List.set_cons_succ]
      refine WpT.one (i := 4) (by kernel_rfl) rfl (fun K hK => ?_)
      go_simp
      have hSa := hS1 (fun _ => False) wc (wc.alloc (.cells #[.int .i64 op, v1, v2, .int .i64 nn, .string ss, v5] 57)) (Since.alloc _ _ _) (fun f => f) (fun f => f) hltc hbcc hS0
      refine hK.out _ _ (fun _ _ => hSa) ?_
      clear hK K
      try simp only [Act.put, List.setIfInBounds_toArray, List.set_cons_zero, List.set_cons_succ]
      refine WpT.one (i := 5) (by kernel_rfl) rfl (fun K hK => ?_)
      refine step_append_lies _ (by rfl) _ _ _ (by rfl) 0 57 ii _ 6 104 Try.underlying55 hi0 hz0 hz1 hz2 rfl (by decide) (.slice aV ls.length cV) ls.length ess.flatten (by rfl) ((Hown2.out.alloc _).drew) ⟨wc.heap.size, 0, none⟩ 1 1 [.int .i64 op, v1, v2, .int .i64 nn, .string ss, v5] (by rfl) (by rfl) (World.news_of_block (cs := #[.int .i64 op, v1, v2, .int .i64 nn, .string ss, v5]) (t := 57) (fr := (0, 0)) (heap_alloc_new wc _)) Hone.out (by decide) (by unfold maxLen; omega) (by omega) (Nat.zero_le _) (wc.heap.size + 1) (by simp) ?_
      intro g3 cap3 w3 hown3 hgrow3 hat3 hlt3
      replace hgrow3 : (wc.alloc (.cells #[.int .i64 op, v1, v2, .int .i64 nn, .string ss, v5] 57)).grownBy w3 (Value.slice aV ls.length cV).ownBlock := ⟨hgrow3.os, hgrow3.tape, hgrow3.output, hgrow3.size, hgrow3.block⟩
      have hg3 : Since (fun k => (Value.slice aV ls.length cV).ownBlock = some k) (wc.alloc (.cells #[.int .i64 op, v1, v2, .int .i64 nn, .string ss, v5] 57)) w3 := Since.grown hgrow3
      have hSb := hS1 _ _ w3 hg3 n2 n1 (by simp; omega) (by simp; omega) hSa
      have I2 := Lib.hid (HI.out.push (w1 := wc) (i := ii2) Hall.out Hbc.out rfl Hri.out Hfi.out hown3 hgrow3 (hat3.imp (fun e => e.symm) (fun e => by rw [e]; rfl)))
      have hsz3 := hg3.size
      have hsz3' : wc.heap.size + 1 ≤ w3.heap.size := by simpa using hsz3
      clear hown3 hgrow3 hat3 hg3 hSa hsz3
      refine hK.out _ _ (fun _ _ => hSb) ?_
      clear hK K
      try simp only [Act.put, List.setIfInBounds_toArray, List.set_cons_zero, List.set_cons_succ]
      refine WpT.one (i := 6) (by kernel_rfl) rfl (fun K hK => ?_)
      go_simp
      have hSc := hS1 (fun _ => False) w3 (w3.alloc (.cells #[.slice (some ⟨g3, 0, none⟩) (ls.length + 1) cap3] 55)) (Since.alloc _ _ _) (fun f => f) (fun f => f) (by omega) (by omega) hSb
      refine hK.out _ _ (fun _ _ => hSc) ?_
      clear hK K
      try simp only [Act.put, List.setIfInBounds_toArray, List.set_cons_zero, List.set_cons_succ]
      obtain ⟨vs, hrow4, hall4⟩ := I2.out.rd
      have nb1 : vB.ownBlock ≠ some bc := fun e => by have := (hrow4.lt bc e).1; omega
      have nb2 : vB.ownBlock ≠ some bE := fun e => by
        obtain ⟨vs', hr', _⟩ := HI.out.rd
        have := (hr'.lt bE e).2
        omega
      have hbs7 : bs.length ≤ 6 := by have := Hl'.out; omega
      refine WpT.one (i := 7) (by kernel_rfl) rfl (fun K hK => ?_)
      refine step_append_lies _ (by rfl) _ _ _ (by rfl) w0.heap.size 55 ib _ 1 24 Try.underlying30 hib hb0' hb1' hb2' rfl (by decide) vB bs.length vs (by rfl) (hrow4.alloc _) ⟨w3.heap.size, 0, none⟩ 1 1 [.slice (some ⟨g3, 0, none⟩) (ls.length + 1) cap3] (by rfl) (by rfl) (World.news_of_block (cs := #[.slice (some ⟨g3, 0, none⟩) (ls.length + 1) cap3]) (t := 55) (fr := (0, 0)) (heap_alloc_new w3 _)) (by simp [Value.oneCell']) (by decide) (by unfold maxLen; omega) (by omega) (by simp; omega) (w3.heap.size + 1) (by simp) ?_
      intro g4 cap4 w4 hown4 hgrow4 hat4 hlt4
      have hg4 : Since (fun k => vB.ownBlock = some k) (w3.alloc (.cells #[.slice (some ⟨g3, 0, none⟩) (ls.length + 1) cap3] 55)) w4 := Since.grown hgrow4
      have hSd := hS1 _ _ w4 hg4 nb2 nb1 (by simp; omega) (by simp; omega) hSc
      have C2 := Lib.hid (I2.out.close (by simp; omega) hrow4 hall4 hown4 hgrow4 (hat4.imp (fun e => e.symm) (fun e => by rw [e]; rfl)))
      have fz4 : w4.frozen? ⟨bc, 5, none⟩ = false := (hg4.frozen (by simp; omega) nb1).trans (((Since.alloc (fun _ => False) w3 _).frozen (by omega) (fun f => f)).trans (I2.out.code.z 5))
      have bc4 : w4.cell? ⟨bc, 5, none⟩ = some vB := hSd.2.2.2.2.2.2
      clear hown4 hgrow4 hat4 hg4 hrow4 hall4 hSb hSc
      refine hK.out _ _ (fun _ _ => hSd) ?_
      clear hK K
      try simp only [Act.put, List.setIfInBounds_toArray, List.set_cons_zero, List.set_cons_succ]
      refine WpT.take (i := 8) (v := ?_) rfl (by kernel_rfl) (by kernel_rfl) (by kernel_rfl) (by kernel_rfl) (fun _ _ _ h => h) (Or.inl ⟨by rfl, ?_⟩) hSd ?_
      rotate_left
      · intro wS hSw; (try dsimp only at hSw); go_simp; (first | done | with_reducible rfl)
      try simp only [Act.put, List.setIfInBounds_toArray, List.set_cons_zero, List.set_cons_succ]
      refine WpT.one (i := 9) (by kernel_rfl) rfl (fun K hK => ?_)
      go_simp
      refine hK.out _ _ (fun h => absurd rfl h) ?_
      clear hK K
      try simp only [Act.put, List.setIfInBounds_toArray, List.set_cons_zero, List.set_cons_succ]
      refine WpT.done (by kernel_rfl) ?_ _
      go_wp2_with fail
      exact ⟨_, _, _, rfl, ⟨rfl, rfl, rfl, rfl, rfl, rfl, rfl, rfl, rfl, rfl⟩, by have := Hl'.out; simp; omega, C2.out⟩

end Go.Proofs.Ythgmaapebplimaa

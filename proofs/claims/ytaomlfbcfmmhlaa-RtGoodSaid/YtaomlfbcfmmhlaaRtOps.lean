/-
  rt's maker: its small methods, walked.
-/
import Derived.Test.YtaomlfbcfmmhlaaRtEnv
import Derived.Test.YtaomlfbcfmmhlaaProg
import Derived.StillTailTactics
import Derived.Deep.RegionHeld3
import Derived.Deep.AppendLies
import Derived.Deep.RegionLaw
namespace Go.Proofs.Ytaomlfbcfmmhlaa
open Go.RowKit Go.Pst
set_option linter.unusedVariables false
set_option linter.unusedSimpArgs false

variable {B bm n k : Nat} {w0 w : World} {l : List (Nat × Nat × Value)} {c : PCode}

theorem ret_int {k : IntKind} {a b : Int} (h : a = b) : Ending.returned (.int k a) = .returned (.int k b) := by rw [h]
/-- Behind a store to the maker's box. -/
theorem env_box {X M : Nat → Prop} {gB cB : Nat} {vs : List Value} {c' : PCode} {k' n' j : Nat} {u : Value} (hc' : MkCore 0 6 bm gB cB vs X M c' k' (w.setCell ⟨bm, j, none⟩ u)) (hc : M bm) (hf : Fine n' c' k')
    (hl : ∀ p ∈ l, X p.1 ∧ w.cell? ⟨p.1, p.2.1, none⟩ = some p.2.2 ∧ w.frozen? ⟨p.1, p.2.1, none⟩ = false) (hb : Below B w0 w) (hB : B ≤ w0.heap.size) (hM : ∀ x, x < B → X x) : Env B w0 bm l n' c' k' (w.setCell ⟨bm, j, none⟩ u) := by
  refine ⟨X, M, ⟨gB, cB, vs, hc'⟩, hf, fun p hp => ⟨(hl p hp).1, ?_, by rw [World.frozen?_setCell]; exact (hl p hp).2.2⟩, hb.setCell (Nat.le_of_not_lt fun h => hc'.x_.1 (hM _ h)) u, hB, hM⟩
  rw [World.cell?_setCell_other (h := fun e => hc'.x_.1 (by injection e with e1 _ _; rw [e1]; exact (hl p hp).1))]
  exact (hl p hp).2.1

theorem fresh_any (h : Env B w0 bm l (n + 1) c k w) :
    Calls Try.prog 42 #[.pointer (some ⟨bm, 0, none⟩)] w fun e w' => e = .returned (.int .i64 c.vars) ∧ Env B w0 bm l n (freshF c) k w' := by
  obtain ⟨X, M, ⟨gB, cB, vs, hc⟩, hf, hl, hb, hB, hM⟩ := h
  have c3 : w.cell? ⟨bm, 3, none⟩ = some (.int .i64 c.vars) := by simpa using hc.c3
  have z3 := hc.z 3
  have hv1 := hf.vars.1
  have hv2 : c.vars ≤ 1000000 := by have := hf.vars.2; omega
  have Hc := Lib.hid hc
  have Hf := Lib.hid hf
  have Hl := Lib.hid hl
  have Hb := Lib.hid hb
  clear hc hf hl hb
  go_enter Try.func42, Try.ntmps42
  go_wp2_with fail
  go_ret
  refine ⟨ret_int (by omega), ?_⟩
  have hfit := Hc.out.fit
  exact env_box (Hc.out.setBox 3 _ (freshF c) k (by decide) rfl Hc.out.at_ ⟨hfit.1, hfit.2.1, hfit.2.2.1, ⟨by show _ ≤ c.vars + 1; omega, by show c.vars + 1 ≤ _; omega⟩, hfit.2.2.2.2⟩ rfl rfl rfl rfl rfl rfl) Hc.out.m_box Hf.out.fresh Hl.out Hb.out hB hM

/-- Behind a step that wrote the maker's blocks alone. -/
theorem env_step {X M M' : Nat → Prop} {W w' : World} {c' : PCode} {k' n' : Nat} (hx : ∀ x, X x → x < w.heap.size) (hw : Below w.heap.size w W) (hl : ∀ p ∈ l, X p.1 ∧ w.cell? ⟨p.1, p.2.1, none⟩ = some p.2.2 ∧ w.frozen? ⟨p.1, p.2.1, none⟩ = false) (hb : Below B w0 w) (hB : B ≤ w0.heap.size) (hM : ∀ x, x < B → X x)
    (hc' : MkAt 0 6 bm X M' c' k' w') (hS : Since (fun x => M x ∧ ¬ X x) W w') (hM' : ∀ x, M' x → M x ∨ W.heap.size ≤ x) (hf : Fine n' c' k') : Env B w0 bm l n' c' k' w' := by
  have h1 := hb.size
  have h2 := hw.size
  refine ⟨X, M', hc', hf, fun p hp => ?_, hb.trans ((hw.mono (by omega)).trans (hS.below (by omega) (fun k hk => Nat.le_of_not_lt fun h => hk.2 (hM _ h)))), hB, hM⟩
  obtain ⟨l1, l3⟩ := hl p hp
  have l2 := hx _ l1
  exact ⟨l1, (hS.cell (by omega) (fun f => f.2 l1)).trans ((hw.cell (p := ⟨p.1, p.2.1, none⟩) l2).trans l3.1), (hS.frozen (by omega) (fun f => f.2 l1)).trans ((hw.frozen (p := ⟨p.1, p.2.1, none⟩) l2).trans l3.2)⟩
theorem infoI : (Try.prog.info? 48).map (fun i => (i.zero, i.size, i.bytes)) = some (some (.agg #[.int .i64 0, .slice none 0 0, .slice none 0 0, .int .i64 0, .string ByteArray.empty, .slice none 0 0]), 6, 104) := by kernel_rfl
set_option maxHeartbeats 4000000 in
theorem add_anyM {X M : Nat → Prop} {gB cB : Nat} {vs : List Value} {op nn : Int} {s : ByteArray} {v1 v2 v5 : Value} {i : PInstr} (hc' : MkCore 0 6 bm gB cB vs X M c k w) (hf : Fine (n + 1) c k) (hl' : ∀ p ∈ l, X p.1 ∧ w.cell? ⟨p.1, p.2.1, none⟩ = some p.2.2 ∧ w.frozen? ⟨p.1, p.2.1, none⟩ = false) (hb' : Below B w0 w) (hB : B ≤ w0.heap.size) (hM : ∀ x, x < B → X x) (hi' : rInstr (fun x => ¬ M x) w [.int .i64 op, v1, v2, .int .i64 nn, .string s, v5] i) :
    Calls Try.prog 67 #[.pointer (some ⟨bm, 0, none⟩), .agg #[.int .i64 op, v1, v2, .int .i64 nn, .string s, v5]] w fun e w' => e = .returned (.tuple #[]) ∧ Env B w0 bm l n (addF c k i) k w' ∧ Since (fun x => M x ∧ ¬ X x) w w' := by
  have hkv : k < vs.length := by rw [hc'.len]; exact hc'.at_
  have hblk := hc'.blk k hc'.at_ hkv
  have hbl := hf.len (c.blocks[k]'hc'.at_) (List.getElem_mem hc'.at_)
  have eL : c.blocks[k]'hc'.at_ = c.blocks[k]! := by simp [hc'.at_]
  rw [eL] at hblk hbl
  obtain ⟨ess, ho, hr⟩ := hblk
  obtain ⟨av, cv, hav, hcv1, hcv2⟩ := row_slice ho
  obtain ⟨gg, cc, hgv, -, -, hgl, hgc, hgz⟩ := row_at hc'.row (i := k) (u := vs[k]) (by simp [hkv])
  obtain ⟨rfl, rfl⟩ : gB = gg ∧ cB = cc := by simpa using hgv
  obtain ⟨u1, u2, u5, hu, -, h1, h2, h5⟩ := id hi'
  obtain ⟨rfl, rfl, rfl⟩ : v1 = u1 ∧ v2 = u2 ∧ v5 = u5 := by simp at hu; exact ⟨hu.2.1, hu.2.2.1, hu.2.2.2.2.2⟩
  obtain ⟨a1, n1, rfl⟩ := rSlice_shape h1
  obtain ⟨a2, n2, rfl⟩ := rSlice_shape h2
  obtain ⟨a5, n5, rfl⟩ := rSlice_shape h5
  have c5 : w.cell? ⟨bm, 5, none⟩ = some (.slice (some ⟨gB, 0, none⟩) c.blocks.length cB) := by simpa using hc'.c5
  have c6 := hc'.c6
  rw [hav] at hgc
  generalize hLL : c.blocks[k]! = L at *
  have hk1 : (k : Int) < c.blocks.length := by have := hc'.at_; omega
  have hk0 : (0 : Int) ≤ k := by omega
  have hnb := hf.nb
  have hnb2 : c.blocks.length ≤ 9223372036854775807 := by omega
  have hbm := hc'.lt
  have Hc := Lib.hid hc'
  have Hf := Lib.hid hf
  have Hl := Lib.hid hl'
  have Hb := Lib.hid hb'
  have Hi := Lib.hid hi'
  have Ho := Lib.hid ho
  have Hr := Lib.hid hr
  have Hav := Lib.hid hav
  have HLL := Lib.hid hLL
  clear hc' hf hl' hb' hi' ho hr hav hgv hLL eL hu h1 h2 h5
  go_enter Try.func67, Try.ntmps67
  go_wp2_with fail
  have hgB := Hc.out.gB_lt
  obtain ⟨i0, hi0, hz0, hz1, hz2⟩ := info_parts infoI
  have hCB : ∀ x, w.cell? x = w.cell? x := fun _ => rfl
  generalize hwB : w.alloc (.cells #[.int .i64 op, .slice a1 i.ds.length n1, .slice a2 i.ars.length n2, .int .i64 nn, .string s, .slice a5 i.to.length n5] 48) = wB
  have bel : Below w.heap.size w wB := by rw [← hwB]; exact (Below.refl _ _).alloc (Nat.le_refl _) _
  have hbs : wB.heap.size = w.heap.size + 1 := by rw [← hwB]; simp
  have q0 : wB.cell? ⟨w.heap.size, 0, none⟩ = some (.int .i64 op) := by rw [← hwB, World.cell?_alloc_new]; rfl
  have q1 : wB.cell? ⟨w.heap.size, 1, none⟩ = some (.slice a1 i.ds.length n1) := by rw [← hwB, World.cell?_alloc_new]; rfl
  have q2 : wB.cell? ⟨w.heap.size, 2, none⟩ = some (.slice a2 i.ars.length n2) := by rw [← hwB, World.cell?_alloc_new]; rfl
  have q3 : wB.cell? ⟨w.heap.size, 3, none⟩ = some (.int .i64 nn) := by rw [← hwB, World.cell?_alloc_new]; rfl
  have q4 : wB.cell? ⟨w.heap.size, 4, none⟩ = some (.string s) := by rw [← hwB, World.cell?_alloc_new]; rfl
  have q5 : wB.cell? ⟨w.heap.size, 5, none⟩ = some (.slice a5 i.to.length n5) := by rw [← hwB, World.cell?_alloc_new]; rfl
  have r5 := (bel.cell (p := ⟨bm, 5, none⟩) hbm).trans c5
  have r6 := (bel.cell (p := ⟨bm, 6, none⟩) hbm).trans c6
  have rg := (bel.cell (p := ⟨gB, k, none⟩) hgl).trans hgc
  have rz := (bel.frozen (p := ⟨gB, k, none⟩) hgl).trans hgz
  have Hrow := Lib.hid ((Since.of_below bel).row Ho.out (fun x hx e => by have := (Ho.out.lt x hx).2; omega))
  have hv1 : some gB ≠ vs[k].ownBlock := fun e => (Hc.out.own _ (List.getElem_mem hkv)).2.1 e.symm
  have hv2 : some bm ≠ vs[k].ownBlock := fun e => (Hc.out.own _ (List.getElem_mem hkv)).1 e.symm
  have lb1 : gB < wB.heap.size := by omega
  have lb2 : bm < wB.heap.size := by omega
  have lb3 : w.heap.size < wB.heap.size := by omega
  have Hbel := Lib.hid bel
  have Hbs := Lib.hid hbs
  clear c5 c6 hgc hgz hwB bel hbs hCB
  have hSA : (wB.alloc (.cells #[.int .i64 op, .slice a1 i.ds.length n1, .slice a2 i.ars.length n2, .int .i64 nn, .string s, .slice a5 i.to.length n5] 48)).drew.cell? ⟨bm, 5, none⟩ = some (.slice (some ⟨gB, 0, none⟩) c.blocks.length cB) ∧ (wB.alloc (.cells #[.int .i64 op, .slice a1 i.ds.length n1, .slice a2 i.ars.length n2, .int .i64 nn, .string s, .slice a5 i.to.length n5] 48)).drew.cell? ⟨bm, 6, none⟩ = some (.int .i64 k) ∧ ((wB.alloc (.cells #[.int .i64 op, .slice a1 i.ds.length n1, .slice a2 i.ars.length n2, .int .i64 nn, .string s, .slice a5 i.to.length n5] 48)).drew.cell? ⟨w.heap.size, 0, none⟩ = some (.int .i64 op) ∧ (wB.alloc (.cells #[.int .i64 op, .slice a1 i.ds.length n1, .slice a2 i.ars.length n2, .int .i64 nn, .string s, .slice a5 i.to.length n5] 48)).drew.cell? ⟨w.heap.size, 1, none⟩ = some (.slice a1 i.ds.length n1) ∧ (wB.alloc (.cells #[.int .i64 op, .slice a1 i.ds.length n1, .slice a2 i.ars.length n2, .int .i64 nn, .string s, .slice a5 i.to.length n5] 48)).drew.cell? ⟨w.heap.size, 2, none⟩ = some (.slice a2 i.ars.length n2) ∧ (wB.alloc (.cells #[.int .i64 op, .slice a1 i.ds.length n1, .slice a2 i.ars.length n2, .int .i64 nn, .string s, .slice a5 i.to.length n5] 48)).drew.cell? ⟨w.heap.size, 3, none⟩ = some (.int .i64 nn) ∧ (wB.alloc (.cells #[.int .i64 op, .slice a1 i.ds.length n1, .slice a2 i.ars.length n2, .int .i64 nn, .string s, .slice a5 i.to.length n5] 48)).drew.cell? ⟨w.heap.size, 4, none⟩ = some (.string s) ∧ (wB.alloc (.cells #[.int .i64 op, .slice a1 i.ds.length n1, .slice a2 i.ars.length n2, .int .i64 nn, .string s, .slice a5 i.to.length n5] 48)).drew.cell? ⟨w.heap.size, 5, none⟩ = some (.slice a5 i.to.length n5)) := by
    have g1 := fun j => World.cell?_alloc_lt wB (.cells #[.int .i64 op, .slice a1 i.ds.length n1, .slice a2 i.ars.length n2, .int .i64 nn, .string s, .slice a5 i.to.length n5] 48) ⟨bm, j, none⟩ lb2
    have g2 := fun j => World.cell?_alloc_lt wB (.cells #[.int .i64 op, .slice a1 i.ds.length n1, .slice a2 i.ars.length n2, .int .i64 nn, .string s, .slice a5 i.to.length n5] 48) ⟨w.heap.size, j, none⟩ lb3
    exact ⟨(g1 5).trans r5, (g1 6).trans r6, (g2 0).trans q0, (g2 1).trans q1, (g2 2).trans q2, (g2 3).trans q3, (g2 4).trans q4, (g2 5).trans q5⟩
  have hv3 : some w.heap.size ≠ vs[k].ownBlock := fun e => by have := (Ho.out.lt _ e.symm).2; omega
  have hne1 : gB ≠ bm := Hc.out.ne
  have hne2 : gB ≠ w.heap.size := by omega
  refine wp_region_held_drew (S := (fun w' => w'.cell? ⟨bm, 5, none⟩ = some (.slice (some ⟨gB, 0, none⟩) c.blocks.length cB) ∧ w'.cell? ⟨bm, 6, none⟩ = some (.int .i64 k) ∧ (w'.cell? ⟨w.heap.size, 0, none⟩ = some (.int .i64 op) ∧ w'.cell? ⟨w.heap.size, 1, none⟩ = some (.slice a1 i.ds.length n1) ∧ w'.cell? ⟨w.heap.size, 2, none⟩ = some (.slice a2 i.ars.length n2) ∧ w'.cell? ⟨w.heap.size, 3, none⟩ = some (.int .i64 nn) ∧ w'.cell? ⟨w.heap.size, 4, none⟩ = some (.string s) ∧ w'.cell? ⟨w.heap.size, 5, none⟩ = some (.slice a5 i.to.length n5)))) (by kernel_rfl) ?_ (fun hHeld => ?_)
  · exact ⟨r5, r6, q0, q1, q2, q3, q4, q5⟩
  refine wpAnyH_take (i := 0) (v := ?_) rfl (by kernel_rfl) (by kernel_rfl) (by kernel_rfl) (fun _ _ _ h => h) (Or.inl ⟨by rfl, ?_⟩) (by assumption) ?_
  rotate_left
  · intro w hSw; (try dsimp only at hSw); go_simp; (first | done | with_reducible rfl)
  try simp only [Act.put, List.setIfInBounds_toArray, List.set_cons_zero, List.set_cons_succ]
  refine wpAnyH_take (i := 1) (v := ?_) rfl (by kernel_rfl) (by kernel_rfl) (by kernel_rfl) (fun _ _ _ h => h) (Or.inl ⟨by rfl, ?_⟩) (by assumption) ?_
  rotate_left
  · intro w hSw; (try dsimp only at hSw); go_simp; (first | done | with_reducible rfl)
  try simp only [Act.put, List.setIfInBounds_toArray, List.set_cons_zero, List.set_cons_succ]
  refine wpAnyH_take (i := 2) (v := ?_) rfl (by kernel_rfl) (by kernel_rfl) (by kernel_rfl) (fun _ _ _ h => h) (Or.inl ⟨by rfl, ?_⟩) (by assumption) ?_
  rotate_left
  · intro w hSw; (try dsimp only at hSw); go_simp; (first | done | with_reducible rfl)
  try simp only [Act.put, List.setIfInBounds_toArray, List.set_cons_zero, List.set_cons_succ]
  refine wpAnyH_take (i := 3) (v := ?_) rfl (by kernel_rfl) (by kernel_rfl) (by kernel_rfl) (fun _ _ _ h => h) (Or.inl ⟨by rfl, ?_⟩) (by assumption) ?_
  rotate_left
  · intro w hSw; (try dsimp only at hSw); go_simp; (first | done | with_reducible rfl)
  try simp only [Act.put, List.setIfInBounds_toArray, List.set_cons_zero, List.set_cons_succ]
  refine wpAnyH_take (i := 4) (v := ?_) rfl (by kernel_rfl) (by kernel_rfl) (by kernel_rfl) (fun _ _ _ h => h) (Or.inl ⟨by rfl, ?_⟩) (by assumption) ?_
  rotate_left
  · intro w hSw; (try dsimp only at hSw); go_simp; (first | done | with_reducible rfl)
  try simp only [Act.put, List.setIfInBounds_toArray, List.set_cons_zero, List.set_cons_succ]
  refine wpAnyH_take (i := 5) (v := ?_) rfl (by kernel_rfl) (by kernel_rfl) (by kernel_rfl) (fun _ _ _ h => h) (Or.inl ⟨by rfl, ?_⟩) (by assumption) ?_
  rotate_left
  · intro w hSw; (try dsimp only at hSw); go_simp; (first | done | with_reducible rfl)
  try simp only [Act.put, List.setIfInBounds_toArray, List.set_cons_zero, List.set_cons_succ]
  refine wpAnyH_take (i := 6) (v := ?_) rfl (by kernel_rfl) (by kernel_rfl) (by kernel_rfl) (fun _ _ _ h => h) (Or.inl ⟨by rfl, ?_⟩) (by assumption) ?_
  rotate_left
  · intro w hSw; (try dsimp only at hSw); go_simp; (first | done | with_reducible rfl)
  try simp only [Act.put, List.setIfInBounds_toArray, List.set_cons_zero, List.set_cons_succ]
  refine wpAnyH_take (i := 7) (v := ?_) rfl (by kernel_rfl) (by kernel_rfl) (by kernel_rfl) (fun _ _ _ h => h) (Or.inl ⟨by rfl, ?_⟩) (by assumption) ?_
  rotate_left
  · intro w hSw; (try dsimp only at hSw); go_simp; (first | done | with_reducible rfl)
  try simp only [Act.put, List.setIfInBounds_toArray, List.set_cons_zero, List.set_cons_succ]
  refine wpAnyH_take (i := 8) (v := ?_) rfl (by kernel_rfl) (by kernel_rfl) (by kernel_rfl) (fun _ _ _ h => h) (Or.inl ⟨by rfl, ?_⟩) (by assumption) ?_
  rotate_left
  · intro w hSw; (try dsimp only at hSw); go_simp; (first | done | with_reducible rfl)
  try simp only [Act.put, List.setIfInBounds_toArray, List.set_cons_zero, List.set_cons_succ]
  refine wpAnyH_take (i := 9) (v := ?_) rfl (by kernel_rfl) (by kernel_rfl) (by kernel_rfl) (fun _ _ _ h => h) (Or.inl ⟨by rfl, ?_⟩) (by assumption) ?_
  rotate_left
  · intro w hSw; (try dsimp only at hSw); go_simp; (first | done | with_reducible rfl)
  try simp only [Act.put, List.setIfInBounds_toArray, List.set_cons_zero, List.set_cons_succ]
  refine wpAnyH_take (i := 10) (v := ?_) rfl (by kernel_rfl) (by kernel_rfl) (by kernel_rfl) (fun _ _ _ h => h) (Or.inl ⟨by rfl, ?_⟩) (by assumption) ?_
  rotate_left
  · intro w hSw; (try dsimp only at hSw); go_simp; (first | done | with_reducible rfl)
  try simp only [Act.put, List.setIfInBounds_toArray, List.set_cons_zero, List.set_cons_succ]
  refine wpAnyH_take (i := 11) (v := ?_) rfl (by kernel_rfl) (by kernel_rfl) (by kernel_rfl) (fun _ _ _ h => h) (Or.inl ⟨by rfl, ?_⟩) (by assumption) ?_
  rotate_left
  · intro w hSw; (try dsimp only at hSw); go_simp; (first | done | with_reducible rfl)
  try simp only [Act.put, List.setIfInBounds_toArray, List.set_cons_zero, List.set_cons_succ]
  refine wpAnyH_take (i := 12) (v := ?_) rfl (by kernel_rfl) (by kernel_rfl) (by kernel_rfl) (fun _ _ _ h => h) (Or.inl ⟨by rfl, ?_⟩) (by assumption) ?_
  rotate_left
  · intro w hSw; (try dsimp only at hSw); go_simp; (first | done | with_reducible rfl)
  try simp only [Act.put, List.setIfInBounds_toArray, List.set_cons_zero, List.set_cons_succ]
  refine wpAnyH_take (i := 13) (v := ?_) rfl (by kernel_rfl) (by kernel_rfl) (by kernel_rfl) (fun _ _ _ h => h) (Or.inl ⟨by rfl, ?_⟩) (by assumption) ?_
  rotate_left
  · intro w hSw; (try dsimp only at hSw); go_simp; (first | done | with_reducible rfl)
  try simp only [Act.put, List.setIfInBounds_toArray, List.set_cons_zero, List.set_cons_succ]
  refine wpAnyH_take (i := 14) (v := ?_) rfl (by kernel_rfl) (by kernel_rfl) (by kernel_rfl) (fun _ _ _ h => h) (Or.inl ⟨by rfl, ?_⟩) (by assumption) ?_
  rotate_left
  · intro w hSw; (try dsimp only at hSw); go_simp; (first | done | with_reducible rfl)
  try simp only [Act.put, List.setIfInBounds_toArray, List.set_cons_zero, List.set_cons_succ]
  refine wpAnyH_take (i := 15) (v := ?_) rfl (by kernel_rfl) (by kernel_rfl) (by kernel_rfl) (fun _ _ _ h => h) (Or.inl ⟨by rfl, ?_⟩) (by assumption) ?_
  rotate_left
  · intro w hSw; (try dsimp only at hSw); go_simp; (first | done | with_reducible rfl)
  try simp only [Act.put, List.setIfInBounds_toArray, List.set_cons_zero, List.set_cons_succ]
  refine wpAnyH_take (i := 16) (v := ?_) rfl (by kernel_rfl) (by kernel_rfl) (by kernel_rfl) (fun _ _ _ h => h) (Or.inl ⟨by rfl, ?_⟩) (by assumption) ?_
  rotate_left
  · intro w hSw; (try dsimp only at hSw); go_simp; (first | done | with_reducible rfl)
  try simp only [Act.put, List.setIfInBounds_toArray, List.set_cons_zero, List.set_cons_succ]
  refine wpAnyH_take (i := 17) (v := ?_) rfl (by kernel_rfl) (by kernel_rfl) (by kernel_rfl) (fun _ _ _ h => h) (Or.inl ⟨by rfl, ?_⟩) (by assumption) ?_
  rotate_left
  · intro w hSw; (try dsimp only at hSw); go_simp; (first | done | with_reducible rfl)
  try simp only [Act.put, List.setIfInBounds_toArray, List.set_cons_zero, List.set_cons_succ]
  refine wpAnyH_take (i := 18) (v := ?_) rfl (by kernel_rfl) (by kernel_rfl) (by kernel_rfl) (fun _ _ _ h => h) (Or.inl ⟨by rfl, ?_⟩) (by assumption) ?_
  rotate_left
  · intro w hSw; (try dsimp only at hSw); go_simp; (first | done | with_reducible rfl)
  try simp only [Act.put, List.setIfInBounds_toArray, List.set_cons_zero, List.set_cons_succ]
  refine wpAnyH_take (i := 20) (v := ?_) rfl (by kernel_rfl) (by kernel_rfl) (by kernel_rfl) (fun _ _ _ h => h) (Or.inl ⟨by rfl, ?_⟩) (by assumption) ?_
  rotate_left
  · intro w hSw; (try dsimp only at hSw); go_simp; (first | done | with_reducible rfl)
  try simp only [Act.put, List.setIfInBounds_toArray, List.set_cons_zero, List.set_cons_succ]
  refine wpAnyH_ready (rs := [19, 21]) (by kernel_rfl) (by simp) ?_
  refine AllReadyH.cons rfl (fun K hK => ?_) (AllReadyH.cons rfl (fun K hK => ?_) AllReadyH.nil)
  · go_simp
    refine hK.out _ _ hHeld (fun hHeld => ?_)
    clear hK K
    try simp only [Act.put, List.setIfInBounds_toArray, List.set_cons_zero, List.set_cons_succ]
    refine wpAnyH_ready (rs := [21]) (by kernel_rfl) (by simp) ?_
    refine AllReadyH.cons rfl (fun K hK => ?_) AllReadyH.nil
    go_simp
    refine hK.out _ _ hSA (fun hHeld => ?_)
    clear hK K
    try simp only [Act.put, List.setIfInBounds_toArray, List.set_cons_zero, List.set_cons_succ]
    refine wpAnyH_ready (rs := [22]) (by kernel_rfl) (by simp) ?_
    refine AllReadyH.cons rfl (fun K hK => ?_) AllReadyH.nil
    refine step_append_lies _ (by rfl) _ _ _ (by rfl) 0 48 i0 _ 6 104 Try.underlying46 hi0 hz0 hz1 hz2 rfl (by omega) vs[k] L.length ess.flatten (by rw [Hav.out]; rfl) ((Hrow.out.alloc _).drew) ⟨wB.heap.size, 0, none⟩ 1 1 [.int .i64 op, .slice a1 i.ds.length n1, .slice a2 i.ars.length n2, .int .i64 nn, .string s, .slice a5 i.to.length n5] (by rfl) (by rfl) (World.news_of_block (cs := #[.int .i64 op, .slice a1 i.ds.length n1, .slice a2 i.ars.length n2, .int .i64 nn, .string s, .slice a5 i.to.length n5]) (t := 48) (fr := (0, 0)) (heap_alloc_new wB _)) (by simp [Value.oneCell']) (by omega) (by unfold maxLen; omega) (by omega) (Nat.zero_le _) (wB.heap.size + 1) (by simp) ?_; intro gg cap w2 hown2 hgrow hat hlt; have s5 : w2.cell? ⟨gB, k, none⟩ = some (.slice av L.length cv) := by { rw [hgrow.cell_far _ (by simp; omega) hv1]; show (wB.alloc _).cell? _ = _; rw [World.cell?_alloc_lt _ _ _ lb1]; exact rg }; have sz : w2.frozen? ⟨gB, k, none⟩ = false := by { rw [hgrow.frozen_far _ (by simp; omega) hv1]; show (wB.alloc _).frozen? _ = _; rw [World.frozen?_alloc_old _ _ _ (show gB ≠ wB.heap.size by omega)]; exact rz }; have t5 : w2.cell? ⟨bm, 5, none⟩ = some (.slice (some ⟨gB, 0, none⟩) c.blocks.length cB) := by { rw [hgrow.cell_far _ (by simp; omega) hv2]; show (wB.alloc _).cell? _ = _; rw [World.cell?_alloc_lt _ _ _ lb2]; exact r5 }; have t6 : w2.cell? ⟨bm, 6, none⟩ = some (.int .i64 k) := by { rw [hgrow.cell_far _ (by simp; omega) hv2]; show (wB.alloc _).cell? _ = _; rw [World.cell?_alloc_lt _ _ _ lb2]; exact r6 }
    refine hK.out _ _ ?_ (fun hHeld => ?_)
    · exact (by { have f1 := fun j => hgrow.cell_far ⟨bm, j, none⟩ (by simp; omega) hv2; have f2 := fun j => hgrow.cell_far ⟨w.heap.size, j, none⟩ (by simp; omega) hv3; exact ⟨(f1 5).trans hSA.1, (f1 6).trans hSA.2.1, (f2 0).trans hSA.2.2.1, (f2 1).trans hSA.2.2.2.1, (f2 2).trans hSA.2.2.2.2.1, (f2 3).trans hSA.2.2.2.2.2.1, (f2 4).trans hSA.2.2.2.2.2.2.1, (f2 5).trans hSA.2.2.2.2.2.2.2⟩ })
    clear hK K
    try simp only [Act.put, List.setIfInBounds_toArray, List.set_cons_zero, List.set_cons_succ]
    refine wpAnyH_take (i := 23) (v := ?_) rfl (by kernel_rfl) (by kernel_rfl) (by kernel_rfl) (fun _ _ _ h => h) (Or.inl ⟨by rfl, ?_⟩) (by assumption) ?_
    rotate_left
    · intro w hSw; (try dsimp only at hSw); go_simp; (first | done | with_reducible rfl)
    try simp only [Act.put, List.setIfInBounds_toArray, List.set_cons_zero, List.set_cons_succ]
    refine wpAnyH_ready (rs := [24]) (by kernel_rfl) (by simp) ?_
    refine AllReadyH.cons rfl (fun K hK => ?_) AllReadyH.nil
    go_simp
    refine hK.out _ _ ?_ (fun hHeld => ?_)
    · exact (by { have f1 := fun j => World.cell?_setCell_other w2 ⟨gB, k, none⟩ ⟨bm, j, none⟩ (.slice (some ⟨gg, 0, none⟩) (L.length + 1) cap) (fun e => hne1 (by injection e)); have f2 := fun j => World.cell?_setCell_other w2 ⟨gB, k, none⟩ ⟨w.heap.size, j, none⟩ (.slice (some ⟨gg, 0, none⟩) (L.length + 1) cap) (fun e => hne2 (by injection e)); exact ⟨(f1 5).trans hHeld.1, (f1 6).trans hHeld.2.1, (f2 0).trans hHeld.2.2.1, (f2 1).trans hHeld.2.2.2.1, (f2 2).trans hHeld.2.2.2.2.1, (f2 3).trans hHeld.2.2.2.2.2.1, (f2 4).trans hHeld.2.2.2.2.2.2.1, (f2 5).trans hHeld.2.2.2.2.2.2.2⟩ })
    clear hK K
    try simp only [Act.put, List.setIfInBounds_toArray, List.set_cons_zero, List.set_cons_succ]
    refine wpAnyH_done (by kernel_rfl) ?_ _
    refine bodyPost_end (results_none (by kernel_rfl) _ _ _) rfl ?_
    have hcW := (Hc.out.below Hbel.out).below (Drawn.below (Drawn.drew wB) _)
    have kp : Keep (fun x => ¬ M x) w wB.drew := Keep.of_below' (Hbel.out.trans (Drawn.below (Drawn.drew wB) _)) (fun x hx _ => hx)
    obtain ⟨M', hM1, hS, hM2⟩ := hcW.push (w1 := w2) (ob := .cells #[.int .i64 op, .slice a1 i.ds.length n1, .slice a2 i.ars.length n2, .int .i64 nn, .string s, .slice a5 i.to.length n5] 48) (v' := .slice (some ⟨gg, 0, none⟩) (L.length + 1) cap) (ess := ess) (es := [.int .i64 op, .slice a1 i.ds.length n1, .slice a2 i.ars.length n2, .int .i64 nn, .string s, .slice a5 i.to.length n5]) (i := i) hkv rfl
      (Good.keep kp (fun _ _ h => h) Hi.out) (by rw [HLL.out]; exact rAll_keep kp (fun _ _ h => h) Hr.out) (by rw [HLL.out]; exact hown2) hgrow (hat.imp (fun e => e.symm) (fun e => by rw [e]; simp [Value.ownBlock]))
    exact ⟨rfl, env_step Hc.out.x_.2.2 (Hbel.out.trans (Drawn.below (Drawn.drew wB) _)) Hl.out Hb.out hB hM ⟨_, _, _, hM1⟩ hS hM2 Hf.out.add, (Since.of_below' (Hbel.out.trans (Drawn.below (Drawn.drew wB) _)) _).trans hS⟩
  · go_simp
    refine hK.out _ _ hSA (fun hHeld => ?_)
    clear hK K
    try simp only [Act.put, List.setIfInBounds_toArray, List.set_cons_zero, List.set_cons_succ]
    refine wpAnyH_ready (rs := [19]) (by kernel_rfl) (by simp) ?_
    refine AllReadyH.cons rfl (fun K hK => ?_) AllReadyH.nil
    go_simp
    refine hK.out _ _ hHeld (fun hHeld => ?_)
    clear hK K
    try simp only [Act.put, List.setIfInBounds_toArray, List.set_cons_zero, List.set_cons_succ]
    refine wpAnyH_ready (rs := [22]) (by kernel_rfl) (by simp) ?_
    refine AllReadyH.cons rfl (fun K hK => ?_) AllReadyH.nil
    refine step_append_lies _ (by rfl) _ _ _ (by rfl) 0 48 i0 _ 6 104 Try.underlying46 hi0 hz0 hz1 hz2 rfl (by omega) vs[k] L.length ess.flatten (by rw [Hav.out]; rfl) ((Hrow.out.alloc _).drew) ⟨wB.heap.size, 0, none⟩ 1 1 [.int .i64 op, .slice a1 i.ds.length n1, .slice a2 i.ars.length n2, .int .i64 nn, .string s, .slice a5 i.to.length n5] (by rfl) (by rfl) (World.news_of_block (cs := #[.int .i64 op, .slice a1 i.ds.length n1, .slice a2 i.ars.length n2, .int .i64 nn, .string s, .slice a5 i.to.length n5]) (t := 48) (fr := (0, 0)) (heap_alloc_new wB _)) (by simp [Value.oneCell']) (by omega) (by unfold maxLen; omega) (by omega) (Nat.zero_le _) (wB.heap.size + 1) (by simp) ?_; intro gg cap w2 hown2 hgrow hat hlt; have s5 : w2.cell? ⟨gB, k, none⟩ = some (.slice av L.length cv) := by { rw [hgrow.cell_far _ (by simp; omega) hv1]; show (wB.alloc _).cell? _ = _; rw [World.cell?_alloc_lt _ _ _ lb1]; exact rg }; have sz : w2.frozen? ⟨gB, k, none⟩ = false := by { rw [hgrow.frozen_far _ (by simp; omega) hv1]; show (wB.alloc _).frozen? _ = _; rw [World.frozen?_alloc_old _ _ _ (show gB ≠ wB.heap.size by omega)]; exact rz }; have t5 : w2.cell? ⟨bm, 5, none⟩ = some (.slice (some ⟨gB, 0, none⟩) c.blocks.length cB) := by { rw [hgrow.cell_far _ (by simp; omega) hv2]; show (wB.alloc _).cell? _ = _; rw [World.cell?_alloc_lt _ _ _ lb2]; exact r5 }; have t6 : w2.cell? ⟨bm, 6, none⟩ = some (.int .i64 k) := by { rw [hgrow.cell_far _ (by simp; omega) hv2]; show (wB.alloc _).cell? _ = _; rw [World.cell?_alloc_lt _ _ _ lb2]; exact r6 }
    refine hK.out _ _ ?_ (fun hHeld => ?_)
    · exact (by { have f1 := fun j => hgrow.cell_far ⟨bm, j, none⟩ (by simp; omega) hv2; have f2 := fun j => hgrow.cell_far ⟨w.heap.size, j, none⟩ (by simp; omega) hv3; exact ⟨(f1 5).trans hSA.1, (f1 6).trans hSA.2.1, (f2 0).trans hSA.2.2.1, (f2 1).trans hSA.2.2.2.1, (f2 2).trans hSA.2.2.2.2.1, (f2 3).trans hSA.2.2.2.2.2.1, (f2 4).trans hSA.2.2.2.2.2.2.1, (f2 5).trans hSA.2.2.2.2.2.2.2⟩ })
    clear hK K
    try simp only [Act.put, List.setIfInBounds_toArray, List.set_cons_zero, List.set_cons_succ]
    refine wpAnyH_take (i := 23) (v := ?_) rfl (by kernel_rfl) (by kernel_rfl) (by kernel_rfl) (fun _ _ _ h => h) (Or.inl ⟨by rfl, ?_⟩) (by assumption) ?_
    rotate_left
    · intro w hSw; (try dsimp only at hSw); go_simp; (first | done | with_reducible rfl)
    try simp only [Act.put, List.setIfInBounds_toArray, List.set_cons_zero, List.set_cons_succ]
    refine wpAnyH_ready (rs := [24]) (by kernel_rfl) (by simp) ?_
    refine AllReadyH.cons rfl (fun K hK => ?_) AllReadyH.nil
    go_simp
    refine hK.out _ _ ?_ (fun hHeld => ?_)
    · exact (by { have f1 := fun j => World.cell?_setCell_other w2 ⟨gB, k, none⟩ ⟨bm, j, none⟩ (.slice (some ⟨gg, 0, none⟩) (L.length + 1) cap) (fun e => hne1 (by injection e)); have f2 := fun j => World.cell?_setCell_other w2 ⟨gB, k, none⟩ ⟨w.heap.size, j, none⟩ (.slice (some ⟨gg, 0, none⟩) (L.length + 1) cap) (fun e => hne2 (by injection e)); exact ⟨(f1 5).trans hHeld.1, (f1 6).trans hHeld.2.1, (f2 0).trans hHeld.2.2.1, (f2 1).trans hHeld.2.2.2.1, (f2 2).trans hHeld.2.2.2.2.1, (f2 3).trans hHeld.2.2.2.2.2.1, (f2 4).trans hHeld.2.2.2.2.2.2.1, (f2 5).trans hHeld.2.2.2.2.2.2.2⟩ })
    clear hK K
    try simp only [Act.put, List.setIfInBounds_toArray, List.set_cons_zero, List.set_cons_succ]
    refine wpAnyH_done (by kernel_rfl) ?_ _
    refine bodyPost_end (results_none (by kernel_rfl) _ _ _) rfl ?_
    have hcW := (Hc.out.below Hbel.out).below (Drawn.below (Drawn.drew wB) _)
    have kp : Keep (fun x => ¬ M x) w wB.drew := Keep.of_below' (Hbel.out.trans (Drawn.below (Drawn.drew wB) _)) (fun x hx _ => hx)
    obtain ⟨M', hM1, hS, hM2⟩ := hcW.push (w1 := w2) (ob := .cells #[.int .i64 op, .slice a1 i.ds.length n1, .slice a2 i.ars.length n2, .int .i64 nn, .string s, .slice a5 i.to.length n5] 48) (v' := .slice (some ⟨gg, 0, none⟩) (L.length + 1) cap) (ess := ess) (es := [.int .i64 op, .slice a1 i.ds.length n1, .slice a2 i.ars.length n2, .int .i64 nn, .string s, .slice a5 i.to.length n5]) (i := i) hkv rfl
      (Good.keep kp (fun _ _ h => h) Hi.out) (by rw [HLL.out]; exact rAll_keep kp (fun _ _ h => h) Hr.out) (by rw [HLL.out]; exact hown2) hgrow (hat.imp (fun e => e.symm) (fun e => by rw [e]; simp [Value.ownBlock]))
    exact ⟨rfl, env_step Hc.out.x_.2.2 (Hbel.out.trans (Drawn.below (Drawn.drew wB) _)) Hl.out Hb.out hB hM ⟨_, _, _, hM1⟩ hS hM2 Hf.out.add, (Since.of_below' (Hbel.out.trans (Drawn.below (Drawn.drew wB) _)) _).trans hS⟩
theorem add_any {w1 : World} {op nn : Int} {s : ByteArray} {v1 v2 v5 : Value} {i : PInstr} (h : Env B w0 bm l (n + 1) c k w1) (hbw : Below w1.heap.size w1 w) (hi : rInstr (fun x => w1.heap.size ≤ x) w [.int .i64 op, v1, v2, .int .i64 nn, .string s, v5] i) :
    Calls Try.prog 67 #[.pointer (some ⟨bm, 0, none⟩), .agg #[.int .i64 op, v1, v2, .int .i64 nn, .string s, v5]] w fun e w' => e = .returned (.tuple #[]) ∧ Env B w0 bm l n (addF c k i) k w' := by
  obtain ⟨X, M, ⟨gB, cB, vs, hc⟩, hf, hl, hb, hB, hM⟩ := h
  have hi' : rInstr (fun x => ¬ M x) w [.int .i64 op, v1, v2, .int .i64 nn, .string s, v5] i := Good.wide hi (fun x _ hx m => by have := hc.m_lt m; omega)
  have hx := hc.x_.2.2
  have hl' : ∀ p ∈ l, X p.1 ∧ w.cell? ⟨p.1, p.2.1, none⟩ = some p.2.2 ∧ w.frozen? ⟨p.1, p.2.1, none⟩ = false := fun p hp => ⟨(hl p hp).1, (hbw.cell (p := ⟨p.1, p.2.1, none⟩) (hx _ (hl p hp).1)).trans (hl p hp).2.1, (hbw.frozen (p := ⟨p.1, p.2.1, none⟩) (hx _ (hl p hp).1)).trans (hl p hp).2.2⟩
  have hb' := hb.trans (hbw.mono (Nat.le_trans hB hb.size))
  have hc' := hc.below hbw
  exact (add_anyM hc' hf hl' hb' hB hM hi').mono (fun e w' h => ⟨h.1, h.2.1⟩)
end Go.Proofs.Ytaomlfbcfmmhlaa

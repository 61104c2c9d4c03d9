/-
  posternkeep.Code's inner round: kinds 4, 5.
-/
import Derived.Test.YthgmaapebplimaaRawF
namespace Go.Proofs.Ythgmaapebplimaa
open Go.RowKit Go.Pst
set_option linter.unusedVariables false
set_option linter.unusedSimpArgs false

set_option maxRecDepth 100000 in
set_option maxHeartbeats 40000000 in
theorem raw_kind4 {w w0 : World} {a aM : Option Addr} {m cap m2 bm bp bc bg b nM cM : Nat} {vB : Value} {bs : List (List PInstr)} {gk j : Nat} {t : Array Value} {v : Value} {ls : List PInstr} {wr : World} {bX oX : Nat} {r : PRaw} (hctx : RawCtx w w0 m2 bm bp bc bg) (hrel : InnerR w w0 a aM m cap m2 bm bp bc bg b nM cM vB bs gk j t v ls wr) (hlt : j < nM) (haM : aM = some ⟨bX, oX, none⟩) (hbX : bX < w.heap.size) (hrow : RowX w bX oX j r) (hk : pickF r.kind 12 = 4) :
    InnerTo w w0 a aM m cap m2 bm bp bc bg b nM cM vB bs gk ⟨t, []⟩ wr := by
  obtain ⟨ii, hi0, hz0, hz1, hz2⟩ := info_parts infoI
  obtain ⟨hb0, ⟨l1, l2, l3, l4, l5, l6⟩, hm2, hcm⟩ := hctx
  obtain ⟨⟨hsize, h0, h2, h3, h4, h5, h6, h7, h42, h43⟩, h9, h10, h61, h62, h63, hj, hjl, hI, hmes, hnM60⟩ := hrel
  obtain ⟨e0, e1, e2, e3, i0, i1, i2, i3⟩ := hrow
  subst haM
  intro J K Q hJ hKK
  obtain ⟨k', rfl⟩ : ∃ k', gk = k' + 1 := ⟨gk - 1, by omega⟩
  have hsz2 : w0.heap.size ≤ wr.heap.size := hI.code.since.size
  have hnI : (nM : Int) ≤ 60 := by omega
  have Hk := Lib.hid hk
  clear hk hcm
  have hs := hI.code.since
  have tr : ∀ o u, w.cell? ⟨bX, o, none⟩ = some u → wr.cell? ⟨bX, o, none⟩ = some u := fun o u e => (hs.cell (by omega) (by omega)).trans ((hb0.cell (p := ⟨bX, o, none⟩) hbX).trans e)
  replace e0 := tr _ _ e0
  replace e1 := tr _ _ e1
  replace e2 := tr _ _ e2
  replace e3 := tr _ _ e3
  obtain ⟨ess, hown, hall⟩ := id hI.blk
  obtain ⟨aV, cV, rfl, -, -⟩ := row_slice hown
  have hltI : (j : Int) < (nM : Int) := by omega
  have HI := Lib.hid hI
  have Hown := Lib.hid hown
  have Hall := Lib.hid hall
  have Hs := Lib.hid hs
  have Hj := Lib.hid (And.intro hj (And.intro hjl hlt))
  clear hI hown hall hs hj hjl hlt tr
  have rb : ∀ (o : Obj) (i : Nat), ((wr.alloc (.cells #[.int .i64 r.kind, .int .i64 r.a, .int .i64 r.b, .int .i64 r.c] 64)).alloc o).cell? ⟨wr.heap.size, i, none⟩ = #[Value.int .i64 r.kind, .int .i64 r.a, .int .i64 r.b, .int .i64 r.c][i]? := fun o i => box_cell ((Below.refl _ _).alloc (by simp) o) i
  have rb0 : ∀ o : Obj, ((wr.alloc (.cells #[.int .i64 r.kind, .int .i64 r.a, .int .i64 r.b, .int .i64 r.c] 64)).alloc o).cell? ⟨wr.heap.size, 0, none⟩ = some (.int .i64 r.kind) := fun o => rb o 0
  have rb1 : ∀ o : Obj, ((wr.alloc (.cells #[.int .i64 r.kind, .int .i64 r.a, .int .i64 r.b, .int .i64 r.c] 64)).alloc o).cell? ⟨wr.heap.size, 1, none⟩ = some (.int .i64 r.a) := fun o => rb o 1
  have rb2 : ∀ o : Obj, ((wr.alloc (.cells #[.int .i64 r.kind, .int .i64 r.a, .int .i64 r.b, .int .i64 r.c] 64)).alloc o).cell? ⟨wr.heap.size, 2, none⟩ = some (.int .i64 r.b) := fun o => rb o 2
  have rb3 : ∀ o : Obj, ((wr.alloc (.cells #[.int .i64 r.kind, .int .i64 r.a, .int .i64 r.b, .int .i64 r.c] 64)).alloc o).cell? ⟨wr.heap.size, 3, none⟩ = some (.int .i64 r.c) := fun o => rb o 3
  clear rb
  unfold rawInner rawBody
  conv => arg 2; whnf
  rw [frame240 t hsize, h0, h2, h3, h4, h5, h6, h7, h42, h43, h9, h10, h61, h62, h63]
  clear hsize h0 h2 h3 h4 h5 h6 h7 h42 h43 h9 h10 h61 h62 h63
  go_wp2_with fail
  refine (picked_any r.a 5 _ i1 (by decide) (ini rfl)).mono ?_
  rintro e w1 ⟨rfl, rfl⟩
  go_wp2_with fail
  refine (picked_any r.b 5 _ i2 (by decide) (ini rfl)).mono ?_
  rintro e w1 ⟨rfl, rfl⟩
  go_wp2_with fail
  refine (picked_any r.c 5 _ i3 (by decide) (ini rfl)).mono ?_
  rintro e w1 ⟨rfl, rfl⟩
  go_wp2_with fail
  refine (picked_any r.kind 12 _ i0 (by decide) (ini rfl)).mono ?_
  rintro e w1 ⟨rfl, rfl⟩
  have hbP : Below wr.heap.size wr ((wr.alloc (.cells #[.int .i64 r.kind, .int .i64 r.a, .int .i64 r.b, .int .i64 r.c] 64)).alloc (.cells #[.int .i64 (pickF r.a 5)] 3)) := ((Below.refl _ _).alloc (Nat.le_refl _) _).alloc (by simp) _
  have hltP : wr.heap.size + 1 < ((wr.alloc (.cells #[.int .i64 r.kind, .int .i64 r.a, .int .i64 r.b, .int .i64 r.c] 64)).alloc (.cells #[.int .i64 (pickF r.a 5)] 3)).heap.size := by simp
  have hd : ((wr.alloc (.cells #[.int .i64 r.kind, .int .i64 r.a, .int .i64 r.b, .int .i64 r.c] 64)).alloc (.cells #[.int .i64 (pickF r.a 5)] 3)).heap[wr.heap.size + 1]? = some (.cells #[.int .i64 (pickF r.a 5)] 3) := allocs_get [(.cells #[.int .i64 r.kind, .int .i64 r.a, .int .i64 r.b, .int .i64 r.c] 64), (.cells #[.int .i64 (pickF r.a 5)] 3)] wr 1 (by simp)
  replace rb0 := rb0 (.cells #[.int .i64 (pickF r.a 5)] 3)
  replace rb1 := rb1 (.cells #[.int .i64 (pickF r.a 5)] 3)
  replace rb2 := rb2 (.cells #[.int .i64 (pickF r.a 5)] 3)
  replace rb3 := rb3 (.cells #[.int .i64 (pickF r.a 5)] 3)
  generalize (wr.alloc (.cells #[.int .i64 r.kind, .int .i64 r.a, .int .i64 r.b, .int .i64 r.c] 64)).alloc (.cells #[.int .i64 (pickF r.a 5)] 3) = wP at *
  have hownP := (Since.mk (F := fun _ => False) hbP.os hbP.tape hbP.output hbP.size (fun k hk _ => hbP.block k hk)).row Hown.out (fun _ _ f => f)
  have HownP := Lib.hid hownP
  have HbP := Lib.hid hbP
  have HdP := Lib.hid hd
  have Hdk1 := Lib.hid (fun o : Obj => (Below.heap_alloc wP o (wr.heap.size + 1) (by omega)).trans hd)
  have Hdk2 := Lib.hid (fun o o2 : Obj => (Below.heap_alloc (wP.alloc o) o2 (wr.heap.size + 1) (by simp; omega)).trans ((Below.heap_alloc wP o (wr.heap.size + 1) (by omega)).trans hd))
  have p5 : ∀ n : Int, InI (pickF n 5) := fun n => by have := @pickF_in n 5 (by decide); exact ⟨by omega, by omega⟩
  have HI5a := Lib.hid (p5 r.a)
  have HI5b := Lib.hid (p5 r.b)
  have HI5c := Lib.hid (p5 r.c)
  have HI2c := Lib.hid (show InI (pickF r.c 2) by have := @pickF_in r.c 2 (by decide); exact ⟨by omega, by omega⟩)
  have hls60 : ls.length ≤ 60 := by have := Hj.out; omega
  have rk : ∀ o : Obj, (wP.alloc o).cell? ⟨wr.heap.size, 0, none⟩ = some (.int .i64 r.kind) := fun o => (World.cell?_of_block (w := wP) (a := ⟨wr.heap.size, 0, none⟩) (Below.heap_alloc _ _ _ (show wr.heap.size < wP.heap.size by omega))).trans rb0
  have rc : ∀ o : Obj, (wP.alloc o).cell? ⟨wr.heap.size, 3, none⟩ = some (.int .i64 r.c) := fun o => (World.cell?_of_block (w := wP) (a := ⟨wr.heap.size, 3, none⟩) (Below.heap_alloc _ _ _ (show wr.heap.size < wP.heap.size by omega))).trans rb3
  clear hownP hbP hd p5 e0 e1 e2 e3
  generalize pickF r.kind 12 = kk at *
  obtain rfl := Hk.out
  go_wp2_with fail
  refine (picked_any _ 6 _ (inI_wrap _) (by decide) (ini rfl)).mono ?_
  rintro e w1 ⟨rfl, rfl⟩
  obtain ⟨pq, hpq, hpq6⟩ : ∃ pq : Nat, pickF (wrap64 (r.kind.tdiv 12)) 6 = (pq : Int) ∧ pq < 6 := by have := @pickF_in (wrap64 (r.kind.tdiv 12)) 6 (by decide); exact ⟨(pickF (wrap64 (r.kind.tdiv 12)) 6).toNat, by omega, by omega⟩
  rw [hpq]
  clear hpq
  have hpqI : (pq : Int) < 6 := by omega
  obtain ⟨sp, hsp1, hsp2⟩ : ∃ sp : ByteArray, (wP.alloc (.cells #[.string ⟨#[43]⟩, .string ⟨#[45]⟩, .string ⟨#[42]⟩, .string ⟨#[60]⟩, .string ⟨#[61, 61]⟩, .string ⟨#[47]⟩] 9)).cell? ⟨wP.heap.size, pq, none⟩ = some (.string sp) ∧ sp.size ≤ maxLen := by
    rw [show (wP.alloc (.cells #[.string ⟨#[43]⟩, .string ⟨#[45]⟩, .string ⟨#[42]⟩, .string ⟨#[60]⟩, .string ⟨#[61, 61]⟩, .string ⟨#[47]⟩] 9)).cell? ⟨wP.heap.size, pq, none⟩ = #[Value.string ⟨#[43]⟩, .string ⟨#[45]⟩, .string ⟨#[42]⟩, .string ⟨#[60]⟩, .string ⟨#[61, 61]⟩, .string ⟨#[47]⟩][pq]? from box_cell (Below.refl _ _) pq]
    have h6 : pq = 0 ∨ pq = 1 ∨ pq = 2 ∨ pq = 3 ∨ pq = 4 ∨ pq = 5 := by omega
    rcases h6 with rfl | rfl | rfl | rfl | rfl | rfl <;> exact ⟨_, rfl, by decide⟩
  have Hsp := Lib.hid hsp2
  go_wp2_with (at_builtin; refine wpList_append_own_at _ rfl _ _ 55 rfl 0 57 ii _ 6 104 Try.underlying55 hi0 hz0 hz1 hz2 rfl (by decide) (.slice aV ls.length cV) ls.length ess.flatten rfl (((HownP.out.alloc _).alloc _).alloc _) ⟨wP.heap.size + 1 + 1, 0, none⟩ 1 1 [.int .i64 3, .slice (some ⟨wr.heap.size + 1, 0, none⟩) 1 1, .slice (some ⟨wP.heap.size + 1, 0, none⟩) 2 2, .int .i64 0, .string sp, .slice none 0 0] rfl rfl (World.news_of_block (allocs_get [(.cells #[.string ⟨#[43]⟩, .string ⟨#[45]⟩, .string ⟨#[42]⟩, .string ⟨#[60]⟩, .string ⟨#[61, 61]⟩, .string ⟨#[47]⟩] 9), (.cells #[.int .i64 (pickF r.b 5), .int .i64 (pickF r.c 5)] 3), (.cells #[.int .i64 3, .slice (some ⟨wr.heap.size + 1, 0, none⟩) 1 1, .slice (some ⟨wP.heap.size + 1, 0, none⟩) 2 2, .int .i64 0, .string sp, .slice none 0 0] 57)] wP 2 (by simp))) (by simp [Value.oneCell']) (by unfold maxLen; omega) (by omega) (Nat.zero_le _) ?_; intro v2 w2 hown2 hgrow2 hnil2 hat2; clear hnil2; have I2 := Lib.hid (HI.out.push (w1 := ((wP.alloc (.cells #[.string ⟨#[43]⟩, .string ⟨#[45]⟩, .string ⟨#[42]⟩, .string ⟨#[60]⟩, .string ⟨#[61, 61]⟩, .string ⟨#[47]⟩] 9)).alloc (.cells #[.int .i64 (pickF r.b 5), .int .i64 (pickF r.c 5)] 3))) (i := ⟨3, [pickF r.a 5], [pickF r.b 5, pickF r.c 5], 0, sp, []⟩) Hall.out (Below.alloc (Below.alloc HbP.out (by first | omega | (simp; omega)) _) (by first | omega | (simp; omega)) _) rfl (lit_instr (ini rfl) (ini rfl) (by exact Hsp.out) (rInts_all [pickF r.a 5] (by omega) (lens rfl) (ini1 HI5a.out) (Hdk2.out _ _)) (rInts_all [pickF r.b 5, pickF r.c 5] (by omega) (lens rfl) (ini2 HI5b.out HI5c.out) (allocs_get [(.cells #[.string ⟨#[43]⟩, .string ⟨#[45]⟩, .string ⟨#[42]⟩, .string ⟨#[60]⟩, .string ⟨#[61, 61]⟩, .string ⟨#[47]⟩] 9), (.cells #[.int .i64 (pickF r.b 5), .int .i64 (pickF r.c 5)] 3)] wP 1 (by simp))) (rSlice_nil _ _ _ _)) ⟨Nat.le_of_ble_eq_true rfl, Nat.le_of_ble_eq_true rfl, Nat.le_of_ble_eq_true rfl⟩ hown2 hgrow2 (by first | exact hat2 | simpa using hat2)); obtain ⟨aW, cW, rfl, -, -⟩ := row_slice hown2; clear hown2 hgrow2 hat2)
  refine Handed.intro k' ?measure ?_
  rotate_left
  go_step
  rotate_left
  · omega
  · exact ⟨_, j + 1, _, _, rfl, ⟨rfl, rfl, rfl, rfl, rfl, rfl, rfl, rfl, rfl, rfl⟩, rfl, rfl, rfl, rfl, rfl, by have := Hj.out; omega, by have := Hj.out; simp; omega, I2.out, by have := Hj.out; omega, by have := Hj.out; omega⟩

set_option maxRecDepth 100000 in
set_option maxHeartbeats 40000000 in
theorem raw_kind5 {w w0 : World} {a aM : Option Addr} {m cap m2 bm bp bc bg b nM cM : Nat} {vB : Value} {bs : List (List PInstr)} {gk j : Nat} {t : Array Value} {v : Value} {ls : List PInstr} {wr : World} {bX oX : Nat} {r : PRaw} (hctx : RawCtx w w0 m2 bm bp bc bg) (hrel : InnerR w w0 a aM m cap m2 bm bp bc bg b nM cM vB bs gk j t v ls wr) (hlt : j < nM) (haM : aM = some ⟨bX, oX, none⟩) (hbX : bX < w.heap.size) (hrow : RowX w bX oX j r) (hk : pickF r.kind 12 = 5) :
    InnerTo w w0 a aM m cap m2 bm bp bc bg b nM cM vB bs gk ⟨t, []⟩ wr := by
  obtain ⟨ii, hi0, hz0, hz1, hz2⟩ := info_parts infoI
  obtain ⟨hb0, ⟨l1, l2, l3, l4, l5, l6⟩, hm2, hcm⟩ := hctx
  obtain ⟨⟨hsize, h0, h2, h3, h4, h5, h6, h7, h42, h43⟩, h9, h10, h61, h62, h63, hj, hjl, hI, hmes, hnM60⟩ := hrel
  obtain ⟨e0, e1, e2, e3, i0, i1, i2, i3⟩ := hrow
  subst haM
  intro J K Q hJ hKK
  obtain ⟨k', rfl⟩ : ∃ k', gk = k' + 1 := ⟨gk - 1, by omega⟩
  have hsz2 : w0.heap.size ≤ wr.heap.size := hI.code.since.size
  have hnI : (nM : Int) ≤ 60 := by omega
  have Hk := Lib.hid hk
  clear hk hcm
  have hs := hI.code.since
  have tr : ∀ o u, w.cell? ⟨bX, o, none⟩ = some u → wr.cell? ⟨bX, o, none⟩ = some u := fun o u e => (hs.cell (by omega) (by omega)).trans ((hb0.cell (p := ⟨bX, o, none⟩) hbX).trans e)
  replace e0 := tr _ _ e0
  replace e1 := tr _ _ e1
  replace e2 := tr _ _ e2
  replace e3 := tr _ _ e3
  obtain ⟨ess, hown, hall⟩ := id hI.blk
  obtain ⟨aV, cV, rfl, -, -⟩ := row_slice hown
  have hltI : (j : Int) < (nM : Int) := by omega
  have HI := Lib.hid hI
  have Hown := Lib.hid hown
  have Hall := Lib.hid hall
  have Hs := Lib.hid hs
  have Hj := Lib.hid (And.intro hj (And.intro hjl hlt))
  clear hI hown hall hs hj hjl hlt tr
  have rb : ∀ (o : Obj) (i : Nat), ((wr.alloc (.cells #[.int .i64 r.kind, .int .i64 r.a, .int .i64 r.b, .int .i64 r.c] 64)).alloc o).cell? ⟨wr.heap.size, i, none⟩ = #[Value.int .i64 r.kind, .int .i64 r.a, .int .i64 r.b, .int .i64 r.c][i]? := fun o i => box_cell ((Below.refl _ _).alloc (by simp) o) i
  have rb0 : ∀ o : Obj, ((wr.alloc (.cells #[.int .i64 r.kind, .int .i64 r.a, .int .i64 r.b, .int .i64 r.c] 64)).alloc o).cell? ⟨wr.heap.size, 0, none⟩ = some (.int .i64 r.kind) := fun o => rb o 0
  have rb1 : ∀ o : Obj, ((wr.alloc (.cells #[.int .i64 r.kind, .int .i64 r.a, .int .i64 r.b, .int .i64 r.c] 64)).alloc o).cell? ⟨wr.heap.size, 1, none⟩ = some (.int .i64 r.a) := fun o => rb o 1
  have rb2 : ∀ o : Obj, ((wr.alloc (.cells #[.int .i64 r.kind, .int .i64 r.a, .int .i64 r.b, .int .i64 r.c] 64)).alloc o).cell? ⟨wr.heap.size, 2, none⟩ = some (.int .i64 r.b) := fun o => rb o 2
  have rb3 : ∀ o : Obj, ((wr.alloc (.cells #[.int .i64 r.kind, .int .i64 r.a, .int .i64 r.b, .int .i64 r.c] 64)).alloc o).cell? ⟨wr.heap.size, 3, none⟩ = some (.int .i64 r.c) := fun o => rb o 3
  clear rb
  unfold rawInner rawBody
  conv => arg 2; whnf
  rw [frame240 t hsize, h0, h2, h3, h4, h5, h6, h7, h42, h43, h9, h10, h61, h62, h63]
  clear hsize h0 h2 h3 h4 h5 h6 h7 h42 h43 h9 h10 h61 h62 h63
  go_wp2_with fail
  refine (picked_any r.a 5 _ i1 (by decide) (ini rfl)).mono ?_
  rintro e w1 ⟨rfl, rfl⟩
  go_wp2_with fail
  refine (picked_any r.b 5 _ i2 (by decide) (ini rfl)).mono ?_
  rintro e w1 ⟨rfl, rfl⟩
  go_wp2_with fail
  refine (picked_any r.c 5 _ i3 (by decide) (ini rfl)).mono ?_
  rintro e w1 ⟨rfl, rfl⟩
  go_wp2_with fail
  refine (picked_any r.kind 12 _ i0 (by decide) (ini rfl)).mono ?_
  rintro e w1 ⟨rfl, rfl⟩
  have hbP : Below wr.heap.size wr ((wr.alloc (.cells #[.int .i64 r.kind, .int .i64 r.a, .int .i64 r.b, .int .i64 r.c] 64)).alloc (.cells #[.int .i64 (pickF r.a 5)] 3)) := ((Below.refl _ _).alloc (Nat.le_refl _) _).alloc (by simp) _
  have hltP : wr.heap.size + 1 < ((wr.alloc (.cells #[.int .i64 r.kind, .int .i64 r.a, .int .i64 r.b, .int .i64 r.c] 64)).alloc (.cells #[.int .i64 (pickF r.a 5)] 3)).heap.size := by simp
  have hd : ((wr.alloc (.cells #[.int .i64 r.kind, .int .i64 r.a, .int .i64 r.b, .int .i64 r.c] 64)).alloc (.cells #[.int .i64 (pickF r.a 5)] 3)).heap[wr.heap.size + 1]? = some (.cells #[.int .i64 (pickF r.a 5)] 3) := allocs_get [(.cells #[.int .i64 r.kind, .int .i64 r.a, .int .i64 r.b, .int .i64 r.c] 64), (.cells #[.int .i64 (pickF r.a 5)] 3)] wr 1 (by simp)
  replace rb0 := rb0 (.cells #[.int .i64 (pickF r.a 5)] 3)
  replace rb1 := rb1 (.cells #[.int .i64 (pickF r.a 5)] 3)
  replace rb2 := rb2 (.cells #[.int .i64 (pickF r.a 5)] 3)
  replace rb3 := rb3 (.cells #[.int .i64 (pickF r.a 5)] 3)
  generalize (wr.alloc (.cells #[.int .i64 r.kind, .int .i64 r.a, .int .i64 r.b, .int .i64 r.c] 64)).alloc (.cells #[.int .i64 (pickF r.a 5)] 3) = wP at *
  have hownP := (Since.mk (F := fun _ => False) hbP.os hbP.tape hbP.output hbP.size (fun k hk _ => hbP.block k hk)).row Hown.out (fun _ _ f => f)
  have HownP := Lib.hid hownP
  have HbP := Lib.hid hbP
  have HdP := Lib.hid hd
  have Hdk1 := Lib.hid (fun o : Obj => (Below.heap_alloc wP o (wr.heap.size + 1) (by omega)).trans hd)
  have Hdk2 := Lib.hid (fun o o2 : Obj => (Below.heap_alloc (wP.alloc o) o2 (wr.heap.size + 1) (by simp; omega)).trans ((Below.heap_alloc wP o (wr.heap.size + 1) (by omega)).trans hd))
  have p5 : ∀ n : Int, InI (pickF n 5) := fun n => by have := @pickF_in n 5 (by decide); exact ⟨by omega, by omega⟩
  have HI5a := Lib.hid (p5 r.a)
  have HI5b := Lib.hid (p5 r.b)
  have HI5c := Lib.hid (p5 r.c)
  have HI2c := Lib.hid (show InI (pickF r.c 2) by have := @pickF_in r.c 2 (by decide); exact ⟨by omega, by omega⟩)
  have hls60 : ls.length ≤ 60 := by have := Hj.out; omega
  have rk : ∀ o : Obj, (wP.alloc o).cell? ⟨wr.heap.size, 0, none⟩ = some (.int .i64 r.kind) := fun o => (World.cell?_of_block (w := wP) (a := ⟨wr.heap.size, 0, none⟩) (Below.heap_alloc _ _ _ (show wr.heap.size < wP.heap.size by omega))).trans rb0
  have rc : ∀ o : Obj, (wP.alloc o).cell? ⟨wr.heap.size, 3, none⟩ = some (.int .i64 r.c) := fun o => (World.cell?_of_block (w := wP) (a := ⟨wr.heap.size, 3, none⟩) (Below.heap_alloc _ _ _ (show wr.heap.size < wP.heap.size by omega))).trans rb3
  clear hownP hbP hd p5 e0 e1 e2 e3
  generalize pickF r.kind 12 = kk at *
  obtain rfl := Hk.out
  go_wp2_with fail
  refine (picked_any _ 6 _ (inI_wrap _) (by decide) (ini rfl)).mono ?_
  rintro e w1 ⟨rfl, rfl⟩
  obtain ⟨pq, hpq, hpq6⟩ : ∃ pq : Nat, pickF (wrap64 (r.kind.tdiv 12)) 6 = (pq : Int) ∧ pq < 6 := by have := @pickF_in (wrap64 (r.kind.tdiv 12)) 6 (by decide); exact ⟨(pickF (wrap64 (r.kind.tdiv 12)) 6).toNat, by omega, by omega⟩
  rw [hpq]
  clear hpq
  have hpqI : (pq : Int) < 6 := by omega
  obtain ⟨sp, hsp1, hsp2⟩ : ∃ sp : ByteArray, (wP.alloc (.cells #[.string ⟨#[43]⟩, .string ⟨#[45]⟩, .string ⟨#[42]⟩, .string ⟨#[60]⟩, .string ⟨#[61, 61]⟩, .string ⟨#[47]⟩] 9)).cell? ⟨wP.heap.size, pq, none⟩ = some (.string sp) ∧ sp.size ≤ maxLen := by
    rw [show (wP.alloc (.cells #[.string ⟨#[43]⟩, .string ⟨#[45]⟩, .string ⟨#[42]⟩, .string ⟨#[60]⟩, .string ⟨#[61, 61]⟩, .string ⟨#[47]⟩] 9)).cell? ⟨wP.heap.size, pq, none⟩ = #[Value.string ⟨#[43]⟩, .string ⟨#[45]⟩, .string ⟨#[42]⟩, .string ⟨#[60]⟩, .string ⟨#[61, 61]⟩, .string ⟨#[47]⟩][pq]? from box_cell (Below.refl _ _) pq]
    have h6 : pq = 0 ∨ pq = 1 ∨ pq = 2 ∨ pq = 3 ∨ pq = 4 ∨ pq = 5 := by omega
    rcases h6 with rfl | rfl | rfl | rfl | rfl | rfl <;> exact ⟨_, rfl, by decide⟩
  have Hsp := Lib.hid hsp2
  go_wp2_with (at_builtin; refine wpList_append_own_at _ rfl _ _ 55 rfl 0 57 ii _ 6 104 Try.underlying55 hi0 hz0 hz1 hz2 rfl (by decide) (.slice aV ls.length cV) ls.length ess.flatten rfl (((HownP.out.alloc _).alloc _).alloc _) ⟨wP.heap.size + 1 + 1, 0, none⟩ 1 1 [.int .i64 3, .slice (some ⟨wr.heap.size + 1, 0, none⟩) 1 1, .slice (some ⟨wP.heap.size + 1, 0, none⟩) 2 2, .int .i64 0, .string sp, .slice none 0 0] rfl rfl (World.news_of_block (allocs_get [(.cells #[.string ⟨#[43]⟩, .string ⟨#[45]⟩, .string ⟨#[42]⟩, .string ⟨#[60]⟩, .string ⟨#[61, 61]⟩, .string ⟨#[47]⟩] 9), (.cells #[.int .i64 (pickF r.b 5), .int .i64 (pickF r.c 5)] 3), (.cells #[.int .i64 3, .slice (some ⟨wr.heap.size + 1, 0, none⟩) 1 1, .slice (some ⟨wP.heap.size + 1, 0, none⟩) 2 2, .int .i64 0, .string sp, .slice none 0 0] 57)] wP 2 (by simp))) (by simp [Value.oneCell']) (by unfold maxLen; omega) (by omega) (Nat.zero_le _) ?_; intro v2 w2 hown2 hgrow2 hnil2 hat2; clear hnil2; have I2 := Lib.hid (HI.out.push (w1 := ((wP.alloc (.cells #[.string ⟨#[43]⟩, .string ⟨#[45]⟩, .string ⟨#[42]⟩, .string ⟨#[60]⟩, .string ⟨#[61, 61]⟩, .string ⟨#[47]⟩] 9)).alloc (.cells #[.int .i64 (pickF r.b 5), .int .i64 (pickF r.c 5)] 3))) (i := ⟨3, [pickF r.a 5], [pickF r.b 5, pickF r.c 5], 0, sp, []⟩) Hall.out (Below.alloc (Below.alloc HbP.out (by first | omega | (simp; omega)) _) (by first | omega | (simp; omega)) _) rfl (lit_instr (ini rfl) (ini rfl) (by exact Hsp.out) (rInts_all [pickF r.a 5] (by omega) (lens rfl) (ini1 HI5a.out) (Hdk2.out _ _)) (rInts_all [pickF r.b 5, pickF r.c 5] (by omega) (lens rfl) (ini2 HI5b.out HI5c.out) (allocs_get [(.cells #[.string ⟨#[43]⟩, .string ⟨#[45]⟩, .string ⟨#[42]⟩, .string ⟨#[60]⟩, .string ⟨#[61, 61]⟩, .string ⟨#[47]⟩] 9), (.cells #[.int .i64 (pickF r.b 5), .int .i64 (pickF r.c 5)] 3)] wP 1 (by simp))) (rSlice_nil _ _ _ _)) ⟨Nat.le_of_ble_eq_true rfl, Nat.le_of_ble_eq_true rfl, Nat.le_of_ble_eq_true rfl⟩ hown2 hgrow2 (by first | exact hat2 | simpa using hat2)); obtain ⟨aW, cW, rfl, -, -⟩ := row_slice hown2; clear hown2 hgrow2 hat2)
  refine Handed.intro k' ?measure ?_
  rotate_left
  go_step
  rotate_left
  · omega
  · exact ⟨_, j + 1, _, _, rfl, ⟨rfl, rfl, rfl, rfl, rfl, rfl, rfl, rfl, rfl, rfl⟩, rfl, rfl, rfl, rfl, rfl, by have := Hj.out; omega, by have := Hj.out; simp; omega, I2.out, by have := Hj.out; omega, by have := Hj.out; omega⟩

end Go.Proofs.Ythgmaapebplimaa

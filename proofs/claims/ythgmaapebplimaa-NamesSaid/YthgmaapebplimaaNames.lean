/-
  Proved here: the statement Rows.NamesSaid: the law Names returns true. No condition.
-/
import Derived.Test.YthgmaapebplimaaMat
import Derived.Test.YthgmaapebplimaaLists
import Derived.Test.YthgmaapebplimaaLeads
import Derived.ProofKit
import Derived.ChangeOld
import Derived.OpenShut
namespace Go.Proofs.Ythgmaapebplimaa.names
open Go.ChangeShapes Go.WideShapes Go.ChangeAt Go.RowKit Go.Pst
set_option linter.unusedVariables false

/-- Two rows of the call's own, in two blocks, with the same content. -/
structure Twins (w : World) (B : Nat) (va vb : Value) (n : Nat) (xs : List Value) : Prop where
  a : w.ownsRow B 3 1 va n xs
  b : w.ownsRow B 3 1 vb n xs
  ne : va.ownBlock ≠ vb.ownBlock
  some : ∃ k, vb.ownBlock = some k
  le : B ≤ w.heap.size
theorem Twins.alloc {w : World} {B n : Nat} {va vb : Value} {xs : List Value} (h : Twins w B va vb n xs) (o : Obj) : Twins (w.alloc o) B va vb n xs :=
  ⟨h.a.alloc o, h.b.alloc o, h.ne, h.some, by have := h.le; simp; omega⟩
/-- One is appended to: it is as said, the other is as it was, and they still lie apart. -/
structure Half (w : World) (B : Nat) (va vb : Value) (n m : Nat) (xs ys : List Value) : Prop where
  a : w.ownsRow B 3 1 va n xs
  b : w.ownsRow B 3 1 vb m ys
  ne : va.ownBlock ≠ vb.ownBlock
  some : ∃ k, vb.ownBlock = some k
  le : B ≤ w.heap.size
theorem half_step {w w1 : World} {B n m k : Nat} {va vb v' : Value} {xs ys zs : List Value} (h : Half w B va vb n m xs ys) (hown : w1.ownsRow B 3 1 v' k zs) (hg : w.grownBy w1 va.ownBlock) (hat : v'.ownBlock = va.ownBlock ∨ v'.ownBlock = some w.heap.size) :
    Half w1 B v' vb k m zs ys := by
  refine ⟨hown, h.b.kept hg (Or.inr (fun e => h.ne e.symm)), ?_, h.some, by have := hg.size; have := h.le; omega⟩
  rcases hat with e | e
  · rw [e]; exact h.ne
  · rw [e]
    intro e2
    have := (h.b.lt _ e2.symm).2
    omega
theorem half_swap {w : World} {B n m : Nat} {va vb : Value} {xs ys : List Value} (h : Half w B va vb n m xs ys) (hs : ∃ k, va.ownBlock = some k) : Half w B vb va m n ys xs := ⟨h.b, h.a, fun e => h.ne e.symm, hs, h.le⟩
theorem half_alloc {w : World} {B n m : Nat} {va vb : Value} {xs ys : List Value} (h : Half w B va vb n m xs ys) (o : Obj) : Half (w.alloc o) B va vb n m xs ys :=
  ⟨h.a.alloc o, h.b.alloc o, h.ne, h.some, by have := h.le; simp; omega⟩
theorem owns_lit (w : World) (B : Nat) (e : TypeId) (c : Array Value) (n : Nat) (hn : c.size = n) (hm : n ≤ maxLen) (hB : B ≤ w.heap.size) : (w.alloc (.cells c e)).ownsRow B e 1 (.slice (some ⟨w.heap.size, 0, none⟩) n n) n c.toList :=
  ⟨by simpa using hn, .inr ⟨w.heap.size, n, c, rfl, hB, heap_alloc_new w _, Nat.le_refl _, hm, by simpa using hn, by rw [List.take_of_length_le (by simp [hn])]⟩⟩
theorem own_some {w : World} {B n : Nat} {e : TypeId} {v : Value} {xs : List Value} (h : w.ownsRow B e 1 v n xs) (hn : 0 < n) : ∃ k, v.ownBlock = some k := by
  rcases h.2 with ⟨rfl, h0⟩ | ⟨g, cap, cur, rfl, _⟩
  · omega
  · exact ⟨g, rfl⟩
def vals (l : List Int) : List Value := l.map (Value.int .i64)
theorem vals_append (l r : List Int) : vals l ++ vals r = vals (l ++ r) := by simp [vals]
theorem cells_lit (w : World) (c : Array Value) (e : TypeId) (l : List Int) (hc : c.toList = vals l) (g : Nat) (hg : g = w.heap.size) (j : Nat) (u : Value) (h : (vals l)[j]? = some u) : (w.alloc (.cells c e)).cell? ((⟨g, 0, none⟩ : Addr).add j) = some u := by
  subst hg
  have hadd : (⟨w.heap.size, 0, none⟩ : Addr).add j = ⟨w.heap.size, j, none⟩ := by unfold Addr.add; split <;> simp_all
  rw [hadd, World.cell?_alloc_new, ← Array.getElem?_toList, hc]
  exact h
theorem ones (l : List Int) : ∀ u ∈ vals l, u.oneCell' = true := by
  intro u hu
  obtain ⟨x, _, rfl⟩ := List.mem_map.1 hu
  rfl

def lims : List Int := [4000, 12, 30, 20, 4, 1099511627776, 20000, 1000000, 40, 2000, 3000, 2000, 6000, 8, 3000, 16]
def part0 : List Int := [0, 1, 2, 3, 4, 5, 1, 2, 3, 4, 5, 6, 7, 8, 9, 10, 11, 12]
def part1 : List Int := [1, 2, 3, 4, 5, 6, 7, 8, 9, 10, 11, 12, 13]
def part2 : List Int := [1, 2, 3, 4, 5, 6, 7]
def part3 : List Int := [1, 2, 3, 4, 5, 6, 7, 8, 9, 10, 11, 12, 13, 14, 21, 22]
def all : List Int := lims ++ part0 ++ part1 ++ part2 ++ part3
def IntAt (w : World) (a : Option Addr) (k : Nat) (x : Int) : Prop := ∃ b off, a = some ⟨b, off, none⟩ ∧ b < w.heap.size ∧ w.cell? ⟨b, off + k, none⟩ = some (.int .i64 x)
theorem half_start (w : World) (E : Obj) : Half (((w.alloc E).alloc (.cells (vals lims).toArray 3)).alloc (.cells (vals lims).toArray 3)) w.heap.size (.slice (some ⟨w.heap.size + 1, 0, none⟩) 16 16) (.slice (some ⟨w.heap.size + 2, 0, none⟩) 16 16) 16 16 (vals lims) (vals lims) := by
  have h1 := owns_lit (w.alloc E) w.heap.size 3 (vals lims).toArray 16 rfl (by decide) (by simp)
  have h2 := owns_lit ((w.alloc E).alloc (.cells (vals lims).toArray 3)) w.heap.size 3 (vals lims).toArray 16 rfl (by decide) (by simp; omega)
  simp only [World.size_alloc] at h1 h2
  exact ⟨h1.alloc _, h2, by simp [Value.ownBlock], ⟨_, rfl⟩, by simp; omega⟩
set_option maxRecDepth 100000 in
set_option maxHeartbeats 4000000 in
theorem walk {w : World} :
    Calls Try.prog 3 #[] w fun e w' => e = .returned (.bool true) ∧ Below w.heap.size w w' := by
  obtain ⟨i0, hi0, hz0, hz1, hz2⟩ := info_parts Try.info_int
  have herr : ∀ k : Nat, k < 13 → (w.alloc (.cells #[.int .i64 0, .int .i64 1, .int .i64 2, .int .i64 3, .int .i64 4, .int .i64 5, .int .i64 6, .int .i64 7, .int .i64 8, .int .i64 9, .int .i64 10, .int .i64 11, .int .i64 12] 22)).cell? ⟨w.heap.size, k, none⟩ = some (.int .i64 (k : Int)) := by
    intro k hk
    rw [World.cell?_alloc_new]
    match k, hk with
    | 0, _ => rfl
    | 1, _ => rfl
    | 2, _ => rfl
    | 3, _ => rfl
    | 4, _ => rfl
    | 5, _ => rfl
    | 6, _ => rfl
    | 7, _ => rfl
    | 8, _ => rfl
    | 9, _ => rfl
    | 10, _ => rfl
    | 11, _ => rfl
    | 12, _ => rfl
  go_enter Try.func3, Try.ntmps3
  go_wp2_with fail
  go_loop [2] (fun i => ∃ k : Nat, k ≤ 13 ∧ i = .int .i64 k) (fun i => 13 - (intOf i).toNat)
  case atStart => exact ⟨0, Nat.zero_le _, rfl⟩
  case round =>
    obtain ⟨k, hk, rfl⟩ := hrel
    by_cases hlt : k < 13
    · have hlt1 : (k : Int) < 13 := by omega
      have hc := herr k hlt
      clear herr
      go_wp2_with fail
      go_round
      case rel => exact ⟨k + 1, by omega, by go_num⟩
      case measure => simp [intOf]; omega
    · have hke : k = 13 := by omega
      subst hke
      clear herr
      have h0 : Half (((w.alloc (.cells #[.int .i64 0, .int .i64 1, .int .i64 2, .int .i64 3, .int .i64 4, .int .i64 5, .int .i64 6, .int .i64 7, .int .i64 8, .int .i64 9, .int .i64 10, .int .i64 11, .int .i64 12] 22)).alloc (.cells #[.int .i64 4000, .int .i64 12, .int .i64 30, .int .i64 20, .int .i64 4, .int .i64 1099511627776, .int .i64 20000, .int .i64 1000000, .int .i64 40, .int .i64 2000, .int .i64 3000, .int .i64 2000, .int .i64 6000, .int .i64 8, .int .i64 3000, .int .i64 16] 3)).alloc (.cells #[.int .i64 4000, .int .i64 12, .int .i64 30, .int .i64 20, .int .i64 4, .int .i64 1099511627776, .int .i64 20000, .int .i64 1000000, .int .i64 40, .int .i64 2000, .int .i64 3000, .int .i64 2000, .int .i64 6000, .int .i64 8, .int .i64 3000, .int .i64 16] 3)) w.heap.size (.slice (some ⟨w.heap.size + 1, 0, none⟩) 16 16) (.slice (some ⟨w.heap.size + 2, 0, none⟩) 16 16) 16 16 (vals lims) (vals lims) := by
        exact half_start w _
      have hb0 : Below w.heap.size w (((w.alloc (.cells #[.int .i64 0, .int .i64 1, .int .i64 2, .int .i64 3, .int .i64 4, .int .i64 5, .int .i64 6, .int .i64 7, .int .i64 8, .int .i64 9, .int .i64 10, .int .i64 11, .int .i64 12] 22)).alloc (.cells #[.int .i64 4000, .int .i64 12, .int .i64 30, .int .i64 20, .int .i64 4, .int .i64 1099511627776, .int .i64 20000, .int .i64 1000000, .int .i64 40, .int .i64 2000, .int .i64 3000, .int .i64 2000, .int .i64 6000, .int .i64 8, .int .i64 3000, .int .i64 16] 3)).alloc (.cells #[.int .i64 4000, .int .i64 12, .int .i64 30, .int .i64 20, .int .i64 4, .int .i64 1099511627776, .int .i64 20000, .int .i64 1000000, .int .i64 40, .int .i64 2000, .int .i64 3000, .int .i64 2000, .int .i64 6000, .int .i64 8, .int .i64 3000, .int .i64 16] 3)) := (((Below.refl _ _).alloc (Nat.le_refl _) _).alloc (by simp) _).alloc (by simp; omega) _
      have H0 := Lib.hid h0
      have B0 := Lib.hid hb0
      clear h0 hb0
      have own0 := half_alloc H0.out (.cells #[.int .i64 0, .int .i64 1, .int .i64 2, .int .i64 3, .int .i64 4, .int .i64 5, .int .i64 1, .int .i64 2, .int .i64 3, .int .i64 4, .int .i64 5, .int .i64 6, .int .i64 7, .int .i64 8, .int .i64 9, .int .i64 10, .int .i64 11, .int .i64 12] 3)
      have Own0 := Lib.hid own0
      clear own0
      go_wp2_with (at_builtin; go_must (refine wpList_append_own_at _ rfl _ _ 24 rfl w.heap.size 3 i0 (.int .i64 0) 1 8 Try.underlying24 hi0 hz0 hz1 hz2 rfl (by decide) _ _ _ rfl Own0.out.a ⟨w.heap.size + 3, 0, none⟩ 18 18 (vals part0) rfl rfl (cells_lit _ #[.int .i64 0, .int .i64 1, .int .i64 2, .int .i64 3, .int .i64 4, .int .i64 5, .int .i64 1, .int .i64 2, .int .i64 3, .int .i64 4, .int .i64 5, .int .i64 6, .int .i64 7, .int .i64 8, .int .i64 9, .int .i64 10, .int .i64 11, .int .i64 12] _ part0 rfl _ (by simp)) (ones part0) (by decide) (by decide) Own0.out.le ?_))
      intro v0 w0 hown0 hgrow0 _ hat0
      have hs0 := half_swap (half_step Own0.out hown0 hgrow0 (by simpa using hat0)) (own_some hown0 (by decide))
      have bb0 := (B0.out.alloc (by have := H0.out.le; omega) (.cells #[.int .i64 0, .int .i64 1, .int .i64 2, .int .i64 3, .int .i64 4, .int .i64 5, .int .i64 1, .int .i64 2, .int .i64 3, .int .i64 4, .int .i64 5, .int .i64 6, .int .i64 7, .int .i64 8, .int .i64 9, .int .i64 10, .int .i64 11, .int .i64 12] 3)).grown hgrow0 Own0.out.le (fun k hk => (Own0.out.a.lt k hk).1)
      have H1 := Lib.hid hs0
      have B1 := Lib.hid bb0
      clear hs0 bb0 hown0 hgrow0 hat0 Own0 H0 B0
      have own1 := half_alloc H1.out (.cells #[.int .i64 0, .int .i64 1, .int .i64 2, .int .i64 3, .int .i64 4, .int .i64 5, .int .i64 1, .int .i64 2, .int .i64 3, .int .i64 4, .int .i64 5, .int .i64 6, .int .i64 7, .int .i64 8, .int .i64 9, .int .i64 10, .int .i64 11, .int .i64 12] 3)
      have Own1 := Lib.hid own1
      clear own1
      go_wp2_with (at_builtin; go_must (refine wpList_append_own_at _ rfl _ _ 24 rfl w.heap.size 3 i0 (.int .i64 0) 1 8 Try.underlying24 hi0 hz0 hz1 hz2 rfl (by decide) _ _ _ rfl Own1.out.a ⟨w0.heap.size, 0, none⟩ 18 18 (vals part0) rfl rfl (cells_lit _ #[.int .i64 0, .int .i64 1, .int .i64 2, .int .i64 3, .int .i64 4, .int .i64 5, .int .i64 1, .int .i64 2, .int .i64 3, .int .i64 4, .int .i64 5, .int .i64 6, .int .i64 7, .int .i64 8, .int .i64 9, .int .i64 10, .int .i64 11, .int .i64 12] _ part0 rfl _ (by simp)) (ones part0) (by decide) (by decide) Own1.out.le ?_))
      intro v1 w1 hown1 hgrow1 _ hat1
      have hs1 := half_swap (half_step Own1.out hown1 hgrow1 (by simpa using hat1)) (own_some hown1 (by decide))
      have bb1 := (B1.out.alloc (by have := H1.out.le; omega) (.cells #[.int .i64 0, .int .i64 1, .int .i64 2, .int .i64 3, .int .i64 4, .int .i64 5, .int .i64 1, .int .i64 2, .int .i64 3, .int .i64 4, .int .i64 5, .int .i64 6, .int .i64 7, .int .i64 8, .int .i64 9, .int .i64 10, .int .i64 11, .int .i64 12] 3)).grown hgrow1 Own1.out.le (fun k hk => (Own1.out.a.lt k hk).1)
      have H2 := Lib.hid hs1
      have B2 := Lib.hid bb1
      clear hs1 bb1 hown1 hgrow1 hat1 Own1 H1 B1
      have own2 := half_alloc H2.out (.cells #[.int .i64 1, .int .i64 2, .int .i64 3, .int .i64 4, .int .i64 5, .int .i64 6, .int .i64 7, .int .i64 8, .int .i64 9, .int .i64 10, .int .i64 11, .int .i64 12, .int .i64 13] 3)
      have Own2 := Lib.hid own2
      clear own2
      go_wp2_with (at_builtin; go_must (refine wpList_append_own_at _ rfl _ _ 24 rfl w.heap.size 3 i0 (.int .i64 0) 1 8 Try.underlying24 hi0 hz0 hz1 hz2 rfl (by decide) _ _ _ rfl Own2.out.a ⟨w1.heap.size, 0, none⟩ 13 13 (vals part1) rfl rfl (cells_lit _ #[.int .i64 1, .int .i64 2, .int .i64 3, .int .i64 4, .int .i64 5, .int .i64 6, .int .i64 7, .int .i64 8, .int .i64 9, .int .i64 10, .int .i64 11, .int .i64 12, .int .i64 13] _ part1 rfl _ (by simp)) (ones part1) (by decide) (by decide) Own2.out.le ?_))
      intro v2 w2 hown2 hgrow2 _ hat2
      have hs2 := half_swap (half_step Own2.out hown2 hgrow2 (by simpa using hat2)) (own_some hown2 (by decide))
      have bb2 := (B2.out.alloc (by have := H2.out.le; omega) (.cells #[.int .i64 1, .int .i64 2, .int .i64 3, .int .i64 4, .int .i64 5, .int .i64 6, .int .i64 7, .int .i64 8, .int .i64 9, .int .i64 10, .int .i64 11, .int .i64 12, .int .i64 13] 3)).grown hgrow2 Own2.out.le (fun k hk => (Own2.out.a.lt k hk).1)
      have H3 := Lib.hid hs2
      have B3 := Lib.hid bb2
      clear hs2 bb2 hown2 hgrow2 hat2 Own2 H2 B2
      have own3 := half_alloc H3.out (.cells #[.int .i64 1, .int .i64 2, .int .i64 3, .int .i64 4, .int .i64 5, .int .i64 6, .int .i64 7, .int .i64 8, .int .i64 9, .int .i64 10, .int .i64 11, .int .i64 12, .int .i64 13] 3)
      have Own3 := Lib.hid own3
      clear own3
      go_wp2_with (at_builtin; go_must (refine wpList_append_own_at _ rfl _ _ 24 rfl w.heap.size 3 i0 (.int .i64 0) 1 8 Try.underlying24 hi0 hz0 hz1 hz2 rfl (by decide) _ _ _ rfl Own3.out.a ⟨w2.heap.size, 0, none⟩ 13 13 (vals part1) rfl rfl (cells_lit _ #[.int .i64 1, .int .i64 2, .int .i64 3, .int .i64 4, .int .i64 5, .int .i64 6, .int .i64 7, .int .i64 8, .int .i64 9, .int .i64 10, .int .i64 11, .int .i64 12, .int .i64 13] _ part1 rfl _ (by simp)) (ones part1) (by decide) (by decide) Own3.out.le ?_))
      intro v3 w3 hown3 hgrow3 _ hat3
      have hs3 := half_swap (half_step Own3.out hown3 hgrow3 (by simpa using hat3)) (own_some hown3 (by decide))
      have bb3 := (B3.out.alloc (by have := H3.out.le; omega) (.cells #[.int .i64 1, .int .i64 2, .int .i64 3, .int .i64 4, .int .i64 5, .int .i64 6, .int .i64 7, .int .i64 8, .int .i64 9, .int .i64 10, .int .i64 11, .int .i64 12, .int .i64 13] 3)).grown hgrow3 Own3.out.le (fun k hk => (Own3.out.a.lt k hk).1)
      have H4 := Lib.hid hs3
      have B4 := Lib.hid bb3
      clear hs3 bb3 hown3 hgrow3 hat3 Own3 H3 B3
      have own4 := half_alloc H4.out (.cells #[.int .i64 1, .int .i64 2, .int .i64 3, .int .i64 4, .int .i64 5, .int .i64 6, .int .i64 7] 3)
      have Own4 := Lib.hid own4
      clear own4
      go_wp2_with (at_builtin; go_must (refine wpList_append_own_at _ rfl _ _ 24 rfl w.heap.size 3 i0 (.int .i64 0) 1 8 Try.underlying24 hi0 hz0 hz1 hz2 rfl (by decide) _ _ _ rfl Own4.out.a ⟨w3.heap.size, 0, none⟩ 7 7 (vals part2) rfl rfl (cells_lit _ #[.int .i64 1, .int .i64 2, .int .i64 3, .int .i64 4, .int .i64 5, .int .i64 6, .int .i64 7] _ part2 rfl _ (by simp)) (ones part2) (by decide) (by decide) Own4.out.le ?_))
      intro v4 w4 hown4 hgrow4 _ hat4
      have hs4 := half_swap (half_step Own4.out hown4 hgrow4 (by simpa using hat4)) (own_some hown4 (by decide))
      have bb4 := (B4.out.alloc (by have := H4.out.le; omega) (.cells #[.int .i64 1, .int .i64 2, .int .i64 3, .int .i64 4, .int .i64 5, .int .i64 6, .int .i64 7] 3)).grown hgrow4 Own4.out.le (fun k hk => (Own4.out.a.lt k hk).1)
      have H5 := Lib.hid hs4
      have B5 := Lib.hid bb4
      clear hs4 bb4 hown4 hgrow4 hat4 Own4 H4 B4
      have own5 := half_alloc H5.out (.cells #[.int .i64 1, .int .i64 2, .int .i64 3, .int .i64 4, .int .i64 5, .int .i64 6, .int .i64 7] 3)
      have Own5 := Lib.hid own5
      clear own5
      go_wp2_with (at_builtin; go_must (refine wpList_append_own_at _ rfl _ _ 24 rfl w.heap.size 3 i0 (.int .i64 0) 1 8 Try.underlying24 hi0 hz0 hz1 hz2 rfl (by decide) _ _ _ rfl Own5.out.a ⟨w4.heap.size, 0, none⟩ 7 7 (vals part2) rfl rfl (cells_lit _ #[.int .i64 1, .int .i64 2, .int .i64 3, .int .i64 4, .int .i64 5, .int .i64 6, .int .i64 7] _ part2 rfl _ (by simp)) (ones part2) (by decide) (by decide) Own5.out.le ?_))
      intro v5 w5 hown5 hgrow5 _ hat5
      have hs5 := half_swap (half_step Own5.out hown5 hgrow5 (by simpa using hat5)) (own_some hown5 (by decide))
      have bb5 := (B5.out.alloc (by have := H5.out.le; omega) (.cells #[.int .i64 1, .int .i64 2, .int .i64 3, .int .i64 4, .int .i64 5, .int .i64 6, .int .i64 7] 3)).grown hgrow5 Own5.out.le (fun k hk => (Own5.out.a.lt k hk).1)
      have H6 := Lib.hid hs5
      have B6 := Lib.hid bb5
      clear hs5 bb5 hown5 hgrow5 hat5 Own5 H5 B5
      have own6 := half_alloc H6.out (.cells #[.int .i64 1, .int .i64 2, .int .i64 3, .int .i64 4, .int .i64 5, .int .i64 6, .int .i64 7, .int .i64 8, .int .i64 9, .int .i64 10, .int .i64 11, .int .i64 12, .int .i64 13, .int .i64 14, .int .i64 21, .int .i64 22] 3)
      have Own6 := Lib.hid own6
      clear own6
      go_wp2_with (at_builtin; go_must (refine wpList_append_own_at _ rfl _ _ 24 rfl w.heap.size 3 i0 (.int .i64 0) 1 8 Try.underlying24 hi0 hz0 hz1 hz2 rfl (by decide) _ _ _ rfl Own6.out.a ⟨w5.heap.size, 0, none⟩ 16 16 (vals part3) rfl rfl (cells_lit _ #[.int .i64 1, .int .i64 2, .int .i64 3, .int .i64 4, .int .i64 5, .int .i64 6, .int .i64 7, .int .i64 8, .int .i64 9, .int .i64 10, .int .i64 11, .int .i64 12, .int .i64 13, .int .i64 14, .int .i64 21, .int .i64 22] _ part3 rfl _ (by simp)) (ones part3) (by decide) (by decide) Own6.out.le ?_))
      intro v6 w6 hown6 hgrow6 _ hat6
      have hs6 := half_swap (half_step Own6.out hown6 hgrow6 (by simpa using hat6)) (own_some hown6 (by decide))
      have bb6 := (B6.out.alloc (by have := H6.out.le; omega) (.cells #[.int .i64 1, .int .i64 2, .int .i64 3, .int .i64 4, .int .i64 5, .int .i64 6, .int .i64 7, .int .i64 8, .int .i64 9, .int .i64 10, .int .i64 11, .int .i64 12, .int .i64 13, .int .i64 14, .int .i64 21, .int .i64 22] 3)).grown hgrow6 Own6.out.le (fun k hk => (Own6.out.a.lt k hk).1)
      have H7 := Lib.hid hs6
      have B7 := Lib.hid bb6
      clear hs6 bb6 hown6 hgrow6 hat6 Own6 H6 B6
      have own7 := half_alloc H7.out (.cells #[.int .i64 1, .int .i64 2, .int .i64 3, .int .i64 4, .int .i64 5, .int .i64 6, .int .i64 7, .int .i64 8, .int .i64 9, .int .i64 10, .int .i64 11, .int .i64 12, .int .i64 13, .int .i64 14, .int .i64 21, .int .i64 22] 3)
      have Own7 := Lib.hid own7
      clear own7
      go_wp2_with (at_builtin; go_must (refine wpList_append_own_at _ rfl _ _ 24 rfl w.heap.size 3 i0 (.int .i64 0) 1 8 Try.underlying24 hi0 hz0 hz1 hz2 rfl (by decide) _ _ _ rfl Own7.out.a ⟨w6.heap.size, 0, none⟩ 16 16 (vals part3) rfl rfl (cells_lit _ #[.int .i64 1, .int .i64 2, .int .i64 3, .int .i64 4, .int .i64 5, .int .i64 6, .int .i64 7, .int .i64 8, .int .i64 9, .int .i64 10, .int .i64 11, .int .i64 12, .int .i64 13, .int .i64 14, .int .i64 21, .int .i64 22] _ part3 rfl _ (by simp)) (ones part3) (by decide) (by decide) Own7.out.le ?_))
      intro v7 w7 hown7 hgrow7 _ hat7
      have hs7 := half_swap (half_step Own7.out hown7 hgrow7 (by simpa using hat7)) (own_some hown7 (by decide))
      have bb7 := (B7.out.alloc (by have := H7.out.le; omega) (.cells #[.int .i64 1, .int .i64 2, .int .i64 3, .int .i64 4, .int .i64 5, .int .i64 6, .int .i64 7, .int .i64 8, .int .i64 9, .int .i64 10, .int .i64 11, .int .i64 12, .int .i64 13, .int .i64 14, .int .i64 21, .int .i64 22] 3)).grown hgrow7 Own7.out.le (fun k hk => (Own7.out.a.lt k hk).1)
      have H8 := Lib.hid hs7
      have B8 := Lib.hid bb7
      clear hs7 bb7 hown7 hgrow7 hat7 Own7 H7 B7
      have hA := H8.out.a
      have hB := H8.out.b
      have hall : vals lims ++ (vals part0 ++ (vals part1 ++ (vals part2 ++ vals part3))) = all.map (Value.int .i64) := by simp only [vals_append]; rfl
      rw [hall] at hA hB
      obtain ⟨aa, ca, hva, hla, hia⟩ := ownsRow_ints (l := all) hA
      obtain ⟨ab, cb, hvb, hlb, hib⟩ := ownsRow_ints (l := all) hB
      have hlen : all.length = 70 := rfl
      rw [hlen] at hva hvb
      have hel : ∀ k, k < 70 → ∃ x, IntAt w7 aa k x ∧ IntAt w7 ab k x := fun k hk => ⟨all[k]'(by rw [hlen]; exact hk), hia k (by rw [hlen]; exact hk), hib k (by rw [hlen]; exact hk)⟩
      clear hA hB hall hlen hla hlb hia hib H8
      rw [hva, hvb]
      clear hva hvb
      have hbw := B8.out
      clear B8
      go_wp2_with fail
      go_loopw [5] (fun i wr => ∃ k : Nat, k ≤ 70 ∧ i = .int .i64 k ∧ Drawn w7 wr) (fun i _ => 70 - (intOf i).toNat)
      case atStart => exact ⟨0, Nat.zero_le _, rfl, Drawn.refl _⟩
      case round =>
        obtain ⟨k, hk, rfl, hdr⟩ := hrel
        by_cases hlt : k < 70
        · obtain ⟨x, ⟨b1, o1, rfl, hb1, hc1⟩, ⟨b2, o2, rfl, hb2, hc2⟩⟩ := hel k hlt
          have hlt1 : (k : Int) < 70 := by omega
          have hx1 : wr.cell? ⟨b1, o1 + k, none⟩ = some (.int .i64 x) := by rw [hdr.cell]; exact hc1
          have hx2 : wr.cell? ⟨b2, o2 + k, none⟩ = some (.int .i64 x) := by rw [hdr.cell]; exact hc2
          clear hel hc1 hc2 hbw
          go_wp2_with fail
          go_quiet (fail)
          go_wp2_with fail
          go_roundw
          case rel => exact ⟨k + 1, by omega, by go_num, hdr.more _⟩
          case measure => simp [intOf]; omega
        · have hke : k = 70 := by omega
          subst hke
          clear hel
          go_wp2_with fail
          go_ret
          exact ⟨rfl, hbw.trans (hdr.below _)⟩

theorem own : ownKnob Try.prog.godebug = none := by kernel_rfl
theorem laidOut : laidOutB Try.prog = true := by kernel_rfl

theorem contract (H : Type) (enc : TypeId × Value → H) (W : World) (base : Nat) (args : Array Value) (ds gs : List (DataW H)) (before : List MemPlace)
    (hval0 : ∀ (j : Nat) t v, Try.f3.params[j]? = some t → args[j]? = some v → Value.okWide Try.prog W .any base t v)
    (hW : DataW.Whole enc Try.prog Try.f3.params.toList Rows.namesSpec.vars false W args.toList ds gs before)
    (hsz0 : (DataW.weightsEach Try.prog (Try.f3.params.toList ++ Rows.namesSpec.plain.varTypes Try.prog) (ds ++ gs)).all (· ≤ reachBytes) = true) :
    Calls Try.prog 3 args W fun e W' => ∃ v, e = .returned v ∧ Rows.namesSpec.post enc Try.prog Try.f3 false true false false W args v W' := by
  have hsz := hsz0
  have hval : ∀ (j : Nat) t v, Try.f3.params[j]? = some t → args[j]? = some v → Value.okWide Try.prog W .any base t v := hval0
  have hW' := hW
  obtain ⟨p, q, hA0, hV, rfl, hfz, hnd⟩ := hW
  have hA : DataW.TrodAll enc Try.prog W 0 (fun _ => true) true Try.f3.params.toList args.toList ds p := hA0
  rw [Try.params3] at hA hval hsz
  obtain ⟨hargs, rfl, rfl⟩ := trodAll_nil hA
  obtain rfl : args = #[] := by cases args; simp_all
  obtain ⟨rfl, rfl⟩ := trodVars_none hV
  clear hA0 hval0
  have hwalk := walk (w := W) 
  refine hwalk.mono fun e W' ⟨he, bel⟩ => ?_
  subst he
  exact ⟨_, rfl, _, _, _, [], _, [], hW', trodAll_mk1 (shut_bool Try.underlying4 _), trodAll_mk0, rfl, bel.frame _, fun h => by cases h⟩

set_option maxRecDepth 100000 in
theorem lifted (os : Os) (started : os.Started) (H : Type) (enc : TypeId × Value → H) :
    ReturnsInHanded {} Try.checked os 3 .any (Rows.namesSpec.pre6 enc Try.prog Try.f3 Rows.namesRow.domain false) (Rows.namesSpec.post enc Try.prog Try.f3 false true false false) := by
  refine returnsInHanded_of_change_sized (C := Try.checked) own started (by kernel_rfl) Try.func3
    (ChangeSpec.witness6 (enc := enc) (C := Try.checked) false ⟨#[], #[], []⟩ 8 (by kernel_rfl) (by kernel_rfl) (by kernel_rfl) (by kernel_rfl)) ?_
  intro W base args ds gs before hval hW _ hsz _
  exact contract H enc W base args ds gs before hval hW hsz

theorem over : Rows.namesRow.holds Try.pinned (OpenSpec.ofChange Rows.namesSpec) :=
  OpenClaim.holds_of_wide 3 Try.f3 rfl rfl rfl rfl rfl rfl rfl ⟨rfl, rfl, rfl, rfl, rfl⟩ rfl rfl rfl rfl rfl (by kernel_rfl) Try.func3 (by kernel_rfl)
    (of_decide_eq_true (by kernel_rfl)) (by unfold Func.isWrapper; first | (rw [if_pos (by decide +kernel)]; kernel_rfl) | (rw [if_neg (by decide +kernel)]; exact ⟨rfl, rfl⟩))
    (fun os started H enc _ => lifted os started H enc)

theorem proved : Rows.NamesSaid := over
#print axioms proved
end Go.Proofs.Ythgmaapebplimaa.names

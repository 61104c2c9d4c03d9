/-
  posternlaw.driven under way, behind the call: the instructions so far and the box of main's code; a row's cells, one by one (plain memory).
-/
import Derived.Test.YtaomlfbcfmmhlaaDrv
namespace Go.Pst
open Go.RowKit
set_option linter.unusedVariables false
set_option linter.unusedSimpArgs false

/-- M: the result's box, the box of main's code, the instructions' row. -/
structure Dr2 (mv : Int) (rb base mb : Nat) (vB : Value) (L : List PInstr) (w : World) : Prop where
  mlt : mb < w.heap.size
  ml : base ≤ mb
  rlt : rb < w.heap.size
  rl : base ≤ rb
  hB : ∀ k, vB.ownBlock = some k → base ≤ k ∧ k ≠ mb ∧ k ≠ rb
  blk : Blk (fun k => (k = mb ∨ k = rb) ∨ vB.ownBlock = some k) w vB L
  m0 : w.cell? ⟨mb, 0, none⟩ = some (.string ⟨#[109, 97, 105, 110]⟩)
  m1 : w.cell? ⟨mb, 1, none⟩ = some (.int .i64 0)
  m2 : w.cell? ⟨mb, 2, none⟩ = some (.int .i64 0)
  m3 : w.cell? ⟨mb, 3, none⟩ = some (.int .i64 mv)
  m4 : w.cell? ⟨mb, 4, none⟩ = some (.int .i64 0)
  m5 : w.cell? ⟨mb, 5, none⟩ = some (.slice none 0 0)
  mz : ∀ j, w.frozen? ⟨mb, j, none⟩ = false
  q0 : w.cell? ⟨rb, 0, none⟩ = some (.slice none 0 0)
  q1 : w.cell? ⟨rb, 1, none⟩ = some (.slice none 0 0)
  qz : ∀ j, w.frozen? ⟨rb, j, none⟩ = false

section
variable {mv : Int} {rb base xb mb : Nat} {ρ : Nat → Nat} {vB vA vD v' : Value} {L : List PInstr} {A D : List Int} {name : ByteArray} {w w1 w2 : World}
theorem InI_nat {k : Nat} (h : k ≤ 1000000) : InI (k : Int) := ⟨by omega, by omega⟩
theorem ints_get {l : List Int} {i : Nat} (h : i < l.length) : (ints l)[i]? = some (.int .i64 l[i]) := by simp [ints, h]
theorem ints_own {S : Nat → Prop} {v : Value} {l : List Int} (h : w.ownsRow 0 3 1 v l.length (ints l)) (hS : ∀ k, v.ownBlock = some k → S k) (hI : ∀ x ∈ l, InI x) : rInts S w [v] l :=
  rSlice_own h hS (fun i hi => ⟨_, ints_get hi, rfl, hI _ (List.getElem_mem hi)⟩)

/-- The call is appended: its rows become data. -/
theorem Drv.pushX (h : Drv rb base xb mb ρ vB vA vD L A D name w) (hb : Below w.heap.size w w1) {ess : List (List Value)} (hr : rAll 6 rInstr (fun k => ¬ ρ k ≠ 0) w ess L)
    (ho : w2.ownsRow 0 48 6 v' (L.length + 1) (ess.flatten ++ [.int .i64 7, vD, vA, .int .i64 0, .string name, .slice none 0 0])) (hg : w1.grownBy w2 vB.ownBlock) (hat : v'.ownBlock = vB.ownBlock ∨ ∃ g, v'.ownBlock = some g ∧ w1.heap.size ≤ g)
    (hn : name.size ≤ maxLen) (hA : ∀ x ∈ A, InI x) (hD : ∀ x ∈ D, InI x) : Dr2 0 rb base mb v' (L ++ [⟨7, D, A, 0, name, []⟩]) w2 := by
  have hs : Since (fun k => vB.ownBlock = some k) w w2 := Since.trans ⟨hb.os, hb.tape, hb.output, hb.size, fun k hk _ => hb.block k hk⟩ (Since.grown hg)
  have hs1 := hb.size
  have hl1 := h.low mb (by rw [h.r2]; decide)
  have hl6 := h.low rb (by rw [h.r6]; decide)
  have nr : ¬ (vB.ownBlock = some rb) := fun e => by have := h.hB _ e; rw [h.r6] at this; exact absurd this (by decide)
  have cr := fun j => hs.cell (o := j) h.rlt nr
  have own : ∀ k, v'.ownBlock = some k → ρ k = 3 ∨ w1.heap.size ≤ k := fun k hk => by
    rcases hat with e | ⟨g, e, hg⟩
    · exact Or.inl (h.hB k (by rw [← e]; exact hk))
    · obtain rfl : g = k := by rw [e] at hk; injection hk
      exact Or.inr hg
  have nm : ¬ (vB.ownBlock = some mb) := fun e => by have := h.hB _ e; rw [h.r2] at this; exact absurd this (by decide)
  have cm := fun j => hs.cell (o := j) h.mlt nm
  have notM : ∀ k, k < w.heap.size → ρ k ≠ 3 → k ≠ mb → k ≠ rb → ¬ ((k = mb ∨ k = rb) ∨ v'.ownBlock = some k) := fun k hk h3 hm hr6 e => by
    rcases e with (e | e) | e
    · exact hm e
    · exact hr6 e
    · rcases own k e with r | r
      · exact h3 r
      · omega
  have nA : ∀ k, vA.ownBlock = some k → ¬ (vB.ownBlock = some k) := fun k hk e => by have := h.hB _ e; rw [h.hA k hk] at this; exact absurd this (by decide)
  have nD : ∀ k, vD.ownBlock = some k → ¬ (vB.ownBlock = some k) := fun k hk e => by have := h.hB _ e; rw [h.hD k hk] at this; exact absurd this (by decide)
  have hg2 := hg.size
  refine ⟨by omega, hl1.1, by omega, hl6.1, fun k hk => ?_, ⟨ess ++ [[.int .i64 7, vD, vA, .int .i64 0, .string name, .slice none 0 0]], by simpa [List.flatten_append] using ho, rAll_snoc rfl (lit_instr (ini rfl) (ini rfl) hn ?_ ?_ (rSlice_nil _ _ _ _)) (rAll_keep ⟨hs.size, fun k hk hS => hs.block k hk (fun e => hS (by rw [h.hB k e]; decide))⟩ (fun k hk hS => notM k hk (fun e => hS (by rw [e]; decide)) (fun e => hS (by rw [e, h.r2]; decide)) (fun e => hS (by rw [e, h.r6]; decide))) hr)⟩,
    (cm _).trans h.m0, (cm _).trans h.m1, (cm _).trans h.m2, (cm _).trans h.m3, (cm _).trans h.m4, (cm _).trans h.m5, fun j => (hs.frozen h.mlt nm).trans (h.mz j), (cr _).trans h.q0, (cr _).trans h.q1, fun j => (hs.frozen h.rlt nr).trans (h.qz j)⟩
  · rcases own k hk with r | r
    · exact ⟨(h.low k (by rw [r]; decide)).1, fun e => by rw [e, h.r2] at r; exact absurd r (by decide), fun e => by rw [e, h.r6] at r; exact absurd r (by decide)⟩
    · exact ⟨by omega, by omega, by omega⟩
  · exact ints_own (hs.row h.rowD nD) (fun k hk => notM k (h.low k (by rw [h.hD k hk]; decide)).2 (by rw [h.hD k hk]; decide) (fun e => by have := h.hD k hk; rw [e, h.r2] at this; exact absurd this (by decide)) (fun e => by have := h.hD k hk; rw [e, h.r6] at this; exact absurd this (by decide))) hD
  · exact ints_own (hs.row h.rowA nA) (fun k hk => notM k (h.low k (by rw [h.hA k hk]; decide)).2 (by rw [h.hA k hk]; decide) (fun e => by have := h.hA k hk; rw [e, h.r2] at this; exact absurd this (by decide)) (fun e => by have := h.hA k hk; rw [e, h.r6] at this; exact absurd this (by decide))) hA
/-- An instruction is appended. -/
theorem Dr2.push (h : Dr2 mv rb base mb vB L w) (hb : Below w.heap.size w w1) {ess : List (List Value)} {es : List Value} {i : PInstr} (hr : rAll 6 rInstr (fun k => ¬ ((k = mb ∨ k = rb) ∨ vB.ownBlock = some k)) w ess L) (hlt : ∀ k, vB.ownBlock = some k → k < w.heap.size) (hes : es.length = 6) (hi : rInstr (fun k => w.heap.size ≤ k) w1 es i)
    (ho : w2.ownsRow 0 48 6 v' (L.length + 1) (ess.flatten ++ es)) (hg : w1.grownBy w2 vB.ownBlock) (hat : v'.ownBlock = vB.ownBlock ∨ ∃ g, v'.ownBlock = some g ∧ w1.heap.size ≤ g) : Dr2 mv rb base mb v' (L ++ [i]) w2 := by
  have hs : Since (fun k => vB.ownBlock = some k) w w2 := Since.trans ⟨hb.os, hb.tape, hb.output, hb.size, fun k hk _ => hb.block k hk⟩ (Since.grown hg)
  have hs1 := hb.size
  have hml := h.mlt
  have hml2 := h.ml
  have hrl := h.rlt
  have hrl2 := h.rl
  have own : ∀ k, v'.ownBlock = some k → vB.ownBlock = some k ∨ w1.heap.size ≤ k := fun k hk => by
    rcases hat with e | ⟨g, e, hg⟩
    · exact Or.inl (by rw [← e]; exact hk)
    · obtain rfl : g = k := by rw [e] at hk; injection hk
      exact Or.inr hg
  have nm : ¬ (vB.ownBlock = some mb) := fun e => (h.hB _ e).2.1 rfl
  have cm := fun j => hs.cell (o := j) h.mlt nm
  have nr : ¬ (vB.ownBlock = some rb) := fun e => (h.hB _ e).2.2 rfl
  have cr := fun j => hs.cell (o := j) h.rlt nr
  have hk1 : Keep (fun k => w.heap.size ≤ k) w1 w2 := ⟨hg.size, fun k hk hS => (Since.grown hg).block k hk (fun e => by have := hlt k e; omega)⟩
  refine ⟨by have := hg.size; omega, hml2, by have := hg.size; omega, hrl2, fun k hk => ?_, ⟨ess ++ [es], by simpa [List.flatten_append] using ho, rAll_snoc hes (Good.keep hk1 (fun k hk hS m => ?_) hi) (rAll_keep ⟨hs.size, fun k hk hS => hs.block k hk (fun e => hS (Or.inr e))⟩ (fun k hk hS m => hS (m.imp id (fun e => (own k e).elim id (fun r => by omega)))) hr)⟩,
    (cm _).trans h.m0, (cm _).trans h.m1, (cm _).trans h.m2, (cm _).trans h.m3, (cm _).trans h.m4, (cm _).trans h.m5, fun j => (hs.frozen h.mlt nm).trans (h.mz j), (cr _).trans h.q0, (cr _).trans h.q1, fun j => (hs.frozen h.rlt nr).trans (h.qz j)⟩
  · rcases own k hk with r | r
    · exact h.hB k r
    · exact ⟨by omega, by omega, by omega⟩
  · rcases m with (m | m) | m
    · omega
    · omega
    · rcases own k m with r | r
      · have := hlt k r; omega
      · omega
theorem Dr2.later (h : Dr2 mv rb base mb vB L w) (hb : Below w.heap.size w w1) : Dr2 mv rb base mb vB L w1 := by
  have hs : Since (fun _ => False) w w1 := ⟨hb.os, hb.tape, hb.output, hb.size, fun k hk _ => hb.block k hk⟩
  have cm := fun j => hs.cell (o := j) h.mlt id
  have cr := fun j => hs.cell (o := j) h.rlt id
  exact ⟨Nat.lt_of_lt_of_le h.mlt hb.size, h.ml, Nat.lt_of_lt_of_le h.rlt hb.size, h.rl, h.hB, h.blk.keep hs (fun _ f => f.elim) (fun _ _ => id) (fun _ _ m => m), (cm _).trans h.m0, (cm _).trans h.m1, (cm _).trans h.m2, (cm _).trans h.m3, (cm _).trans h.m4, (cm _).trans h.m5, fun j => (hs.frozen h.mlt id).trans (h.mz j), (cr _).trans h.q0, (cr _).trans h.q1, fun j => (hs.frozen h.rlt id).trans (h.qz j)⟩
theorem Dr2.below (h : Dr2 mv rb base mb vB L w) (hb : Below w.heap.size w w1) (hg : w1.grownBy w2 vB.ownBlock) : Below base w w2 := by
  have hs : Since (fun k => vB.ownBlock = some k) w w2 := Since.trans ⟨hb.os, hb.tape, hb.output, hb.size, fun k hk _ => hb.block k hk⟩ (Since.grown hg)
  exact hs.below (by have := h.mlt; have := h.ml; omega) (fun k e => (h.hB k e).1)
theorem Dr2.setVars (h : Dr2 mv rb base mb vB L w) (x : Int) (hne : rb ≠ mb) : Dr2 x rb base mb vB L (w.setCell ⟨mb, 3, none⟩ (.int .i64 x)) := by
  have hs : Since (fun k => k = mb) w (w.setCell ⟨mb, 3, none⟩ (.int .i64 x)) := Since.setCell w ⟨mb, 3, none⟩ (.int .i64 x)
  have cm := fun (j : Nat) (hj : ¬ 3 = j) => World.cell?_setCell_other w ⟨mb, 3, none⟩ ⟨mb, j, none⟩ (.int .i64 x) (fun e => by injection e with _ e2 _; exact hj e2)
  have cr := fun j => hs.cell (o := j) h.rlt hne
  exact ⟨by have := h.mlt; simpa using this, h.ml, by have := h.rlt; simpa using this, h.rl, h.hB, h.blk.keep hs (fun k e => Or.inl (Or.inl e)) (fun k hk e => (h.hB k hk).2.1 e) (fun _ _ m => m),
    (cm 0 (by decide)).trans h.m0, (cm 1 (by decide)).trans h.m1, (cm 2 (by decide)).trans h.m2, World.cell?_setCell_same _ _ _ h.m3, (cm 4 (by decide)).trans h.m4, (cm 5 (by decide)).trans h.m5, fun j => by rw [World.frozen?_setCell]; exact h.mz j,
    (cr _).trans h.q0, (cr _).trans h.q1, fun j => by rw [World.frozen?_setCell]; exact h.qz j⟩
end

/-- The cells of a row that came in, one by one. -/
theorem rAll_of {α : Type} {sz : Nat} {R : Rep α} {S : Nat → Prop} {w : World} : ∀ {ess : List (List Value)} {l : List α} (hl : ess.length = l.length), (∀ i (h : i < l.length) (h' : i < ess.length), ess[i].length = sz ∧ R S w ess[i] l[i]) → rAll sz R S w ess l
  | [], [], _, _ => trivial
  | [], _ :: _, h, _ => by simp at h
  | _ :: _, [], h, _ => by simp at h
  | e :: r, x :: l, hl, h => ⟨h 0 (by simp) (by simp), rAll_of (by simpa using hl) (fun i hi hi' => h (i + 1) (Nat.succ_lt_succ hi) (Nat.succ_lt_succ hi'))⟩
theorem row_cells {α : Type} {sz : Nat} {R : Rep α} {S : Nat → Prop} {w : World} {a : Option Addr} {cap : Nat} {l : List α} (hsz : 0 < sz) (hne : 0 < l.length) (h : rSlice sz R S w [.slice a l.length cap] l) :
    ∃ b off ess, a = some ⟨b, off, none⟩ ∧ b < w.heap.size ∧ rAll sz R S w ess l ∧ ∀ j u, ess.flatten[j]? = some u → w.cell? ((⟨b, off, none⟩ : Addr).add j) = some u := by
  obtain ⟨a', c, h1, h2, h3, h4⟩ := rSlice_val h
  obtain ⟨rfl, rfl⟩ : a = a' ∧ cap = c := by simpa using h1
  obtain ⟨b, off, _, rfl, _, hb, _⟩ := h4 0 hne
  have h5 : ∀ i : Fin l.length, ∃ es : List Value, es.length = sz ∧ (∀ j, j < sz → w.cell? ⟨b, off + i * sz + j, none⟩ = es[j]?) ∧ R S w es l[i] := fun i => by
    obtain ⟨b', off', es, e, _, _, r1, r2, r3⟩ := h4 i i.2
    obtain ⟨rfl, rfl⟩ : b = b' ∧ off = off' := by simpa using e
    exact ⟨es, r1, r2, r3⟩
  obtain ⟨f, hf⟩ := Classical.axiomOfChoice h5
  have hlen : (List.ofFn f).length = l.length := by simp
  have hall : rAll sz R S w (List.ofFn f) l := rAll_of hlen (fun i hi hi' => by
    rw [List.getElem_ofFn]
    exact ⟨(hf ⟨i, hi⟩).1, (hf ⟨i, hi⟩).2.2⟩)
  refine ⟨b, off, List.ofFn f, rfl, hb, hall, fun j u hu => ?_⟩
  have hs := rAll_size hall
  have hj : j < (List.ofFn f).length * sz := by
    have := (List.getElem?_eq_some_iff.1 hu).1
    rwa [flatten_len hs] at this
  have hi : j / sz < (List.ofFn f).length := Nat.div_lt_of_lt_mul (by rw [Nat.mul_comm]; exact hj)
  have hm : j % sz < sz := Nat.mod_lt _ hsz
  have hd : j / sz * sz + j % sz = j := by rw [Nat.mul_comm]; exact Nat.div_add_mod j sz
  have hg := flat_get (List.ofFn f) (j / sz) (j % sz) hi hs hm
  rw [hd, hu, List.getElem_ofFn] at hg
  have hc := (hf ⟨j / sz, by rw [← hlen]; exact hi⟩).2.1 (j % sz) hm
  have hadd : (⟨b, off, none⟩ : Addr).add j = ⟨b, off + j, none⟩ := by unfold Addr.add; split <;> simp_all
  rw [hadd, hg, ← hc]
  rw [Nat.add_assoc, hd]
theorem codes_one {S : Nat → Prop} {w : World} : ∀ {ess : List (List Value)} {l : List PCode}, rAll 6 rCode S w ess l → ∀ u ∈ ess.flatten, u.oneCell' = true
  | [], [], _, u, hu => by simp at hu
  | es :: r, x :: l, h, u, hu => by
    rw [List.flatten_cons] at hu
    rcases List.mem_append.1 hu with hu | hu
    · obtain ⟨v5, rfl, _, h5⟩ := h.1.2
      obtain ⟨a5, c5, rfl⟩ := rSlice_shape h5
      simp at hu
      rcases hu with rfl | rfl | rfl | rfl | rfl | rfl <;> rfl
    · exact codes_one h.2 u hu
end Go.Pst

/-
  Texts joined: TyFind.
-/
import Derived.Test.YtaomlfbcfmmhlaaDoorTCI
import Derived.Test.YtaomlfbcfmmhlaaDoorTCL
import Derived.RangeFuncFrom
import Derived.RangeFuncNested
import Derived.RangeFuncBound
import Derived.RangeFuncCalls
import Derived.RangeFuncLeaves
import Derived.Shelf.Abstract
import Derived.WalkKit
import Derived.OwnWalkIn
import Derived.TacticsInMore
import Derived.LoopNIn
import Derived.LoopIn

/-
  typed's checker: find (a range over slices.Backward): the contract.
-/
namespace Go.Proofs.YtaomlfbcfmmhlaaDoor
open Go.RowKit Go.Pst Go.Shelf
set_option linter.unusedVariables false
set_option linter.unusedSimpArgs false
attribute [local go_sem] Oper.semAt_some

theorem finRange_take_succ {n k : Nat} (h : k < n) : (List.finRange n).take (k + 1) = (List.finRange n).take k ++ [⟨k, h⟩] := by
  rw [List.take_succ_eq_append_getElem (by simpa using h)]
  simp
set_option maxRecDepth 100000 in
set_option maxHeartbeats 2000000 in
/-- slices.Backward's closure. -/
theorem backward1 (N : Nat) (hn : 1 ≤ N) (l Bs n₀ g len cap : Nat) (bk : Fin len → Nat) (hg : g < n₀) (hB : Bs < n₀) (hlen : len ≤ 200000) (J Jx : List (Fin len) → World → Prop)
    (hY : ∀ pre x W, J pre W → pre.length < len → YieldAt Fence.wide (N - 1) Tryd.prog l #[.int .i64 ((len - 1 - x.1 : Nat) : Int), .map (some (bk x))] W fun e W' =>
      (e = .returned (.bool true) ∧ J (pre ++ [x]) W' ∧ Below n₀ W W') ∨ (e = .returned (.bool false) ∧ Jx (pre ++ [x]) W'))
    (W : World) (hBs : W.cell? ⟨Bs, 0, none⟩ = some (.slice (some ⟨g, 0, none⟩) len cap)) (hc : ∀ x : Fin len, W.cell? ⟨g, len - 1 - x.1, none⟩ = some (.map (some (bk x)))) (h0 : J [] W) :
    CallsIn Fence.wide N Tryd.prog 197 #[.func (.yield l) #[] #[], .pointer (some ⟨Bs, 0, none⟩)] W fun e W' => (∃ v, e = .returned v) ∧
      (J (List.finRange len) W' ∨ ∃ k, k ≤ len ∧ Jx ((List.finRange len).take k) W') := by
  refine callsIn_of_wp Tryd.func197 rfl trivial ?_ rfl
  simp only [Tryd.ntmps197, List.size_toArray, List.length_cons, List.length_nil, Nat.reduceAdd, Nat.reduceSub, Array.replicate_succ, Array.replicate_zero, List.push_toArray, List.append_toArray, List.nil_append, List.cons_append]
  have hw0 : IntKind.i64.wrap ((len : Int) - 1) = (len : Int) - 1 := IntWalk.i64_in _ (by omega)
  gi_wp2
  gi_loopw [3] (fun i wr => ∃ k : Nat, k ≤ len ∧ i = .int .i64 ((len : Int) - 1 - k) ∧ J ((List.finRange len).take k) wr ∧ Below n₀ W wr)
    (fun i _ => ((intOf i) + 1).toNat)
  case atStart => exact ⟨0, Nat.zero_le _, by simp, h0, Below.refl _ _⟩
  case round =>
    obtain ⟨k, hk, rfl, hJs, hnx⟩ := hrel
    by_cases hlt : k < len
    · obtain ⟨j, hj⟩ : ∃ j, j = len - 1 - k := ⟨_, rfl⟩
      have hji : (len : Int) - 1 - k = (j : Int) := by omega
      have hj0 : (0 : Int) ≤ (j : Int) := by omega
      have hj1 : (j : Int) < (len : Int) := by omega
      have hwj : IntKind.i64.wrap ((j : Int) - 1) = (j : Int) - 1 := IntWalk.i64_in _ (by omega)
      have hcB := (hnx.cell (p := ⟨Bs, 0, none⟩) hB).trans hBs
      have hcx := (hnx.cell (p := ⟨g, j, none⟩) hg).trans (show W.cell? ⟨g, j, none⟩ = some (.map (some (bk ⟨k, hlt⟩))) by rw [hj]; exact hc ⟨k, hlt⟩)
      obtain ⟨fn, tmps, assign, body, hy, hR⟩ := hY _ ⟨k, hlt⟩ wr hJs (by simp; omega)
      dsimp only at hy hR
      rw [← hj] at hy
      have Hk := Lib.hid (show (len : Int) - 1 - ((k + 1 : Nat) : Int) = (j : Int) - 1 by omega)
      rw [hji]
      clear hj hji
      gi_wp2
      refine hR.mono ?_
      rintro e W3 (⟨rfl, hJ3, hk3⟩ | ⟨rfl, hJx3⟩)
      · gi_wp2
        go_roundw
        case rel => exact ⟨k + 1, by omega, by rw [Hk.out], by rw [finRange_take_succ hlt]; exact hJ3, hnx.trans hk3⟩
        case measure => simp [intOf]
      · gi_wp2
        refine bodyPost_ret (results_none rfl _ _ _) rfl ?_
        exact ⟨⟨_, rfl⟩, .inr ⟨k + 1, by omega, by rw [finRange_take_succ hlt]; exact hJx3⟩⟩
    · obtain rfl : k = len := by omega
      have hneg : (k : Int) - 1 - k = -1 := by omega
      rw [hneg]
      gi_wp2
      go_end0
      refine ⟨⟨_, rfl⟩, .inl ?_⟩
      have := hJs
      rwa [List.take_of_length_le (by simp)] at this
theorem backward_stops (N : Nat) (hn : 1 ≤ N) (Bs n₀ g len cap : Nat) (bk : Fin len → Nat) (hg : g < n₀) (hB : Bs < n₀) (hlen : len ≤ 200000) (w : World) (hn₀ : n₀ ≤ w.heap.size)
    (hBs : w.cell? ⟨Bs, 0, none⟩ = some (.slice (some ⟨g, 0, none⟩) len cap)) (hc : ∀ x : Fin len, w.cell? ⟨g, len - 1 - x.1, none⟩ = some (.map (some (bk x)))) :
    SeqStopsK Fence.wide N Tryd.prog 197 #[.pointer (some ⟨Bs, 0, none⟩)] (fun x : Fin len => #[Value.int .i64 ((len - 1 - x.1 : Nat) : Int), .map (some (bk x))]) (Below n₀) (fun ys => ys = List.finRange len) (fun pre => ∃ k, k ≤ len ∧ pre = (List.finRange len).take k) len w := fun l J Jx W hW _ _ hY h0 => by
  refine (backward1 N hn l Bs n₀ g len cap bk hg hB hlen J Jx hY W ((hW.cell (p := ⟨Bs, 0, none⟩) (by show Bs < _; omega)).trans hBs) (fun x => (hW.cell (p := ⟨g, len - 1 - x.1, none⟩) (by show g < _; omega)).trans (hc x)) h0).mono ?_
  rintro e W' ⟨he, hj | ⟨k, hk, hj⟩⟩
  · exact ⟨he, .inl ⟨_, rfl, hj⟩⟩
  · exact ⟨he, .inr ⟨_, ⟨k, hk, rfl⟩, hj⟩⟩
theorem backward_any (N : Nat) (a : Option Addr) (len cap : Nat) (w : World) :
    CallsIn Fence.wide N Tryd.prog 189 #[.slice a len cap] w fun e w' => e = .returned (.func (.func 197) #[] #[.pointer (some ⟨w.heap.size, 0, none⟩)]) ∧ w' = w.alloc (.cells #[.slice a len cap] 80) := by
  refine callsIn_of_wp Tryd.func189 rfl trivial ?_ rfl
  simp only [Tryd.ntmps189, List.size_toArray, List.length_cons, List.length_nil, Nat.reduceAdd, Nat.reduceSub, Array.replicate_succ, Array.replicate_zero, List.push_toArray, List.append_toArray, List.nil_append, List.cons_append]
  gi_wp2
  go_ret
  exact ⟨rfl, rfl⟩

/-- What is found: the first scope that has the name. -/
theorem findT_none {s : ByteArray} : ∀ {G : List Scope}, (∀ g ∈ G, lookT g s = none) → findT G s = none
  | [], _ => rfl
  | g :: r, h => by
    unfold findT
    rw [h g (by simp)]
    exact findT_none (fun x hx => h x (by simp [hx]))
theorem findT_some {s : ByteArray} {t : Int} : ∀ {G : List Scope} (k : Nat) (hk : k < G.length), (∀ j (h : j < k), lookT (G[j]'(by omega)) s = none) → lookT G[k] s = some t → findT G s = some t
  | g :: r, 0, _, _, h => by
    unfold findT
    rw [show lookT g s = some t from h]
  | g :: r, k + 1, hk, h1, h2 => by
    unfold findT
    rw [show lookT g s = none from h1 0 (by omega)]
    exact findT_some k (by simpa using hk) (fun j hj => by have := h1 (j + 1) (by omega); simpa using this) (by simpa using h2)
theorem mapsGet {w : World} {base : Nat} : ∀ {bs : List Nat} {G : List Scope}, MapsAt w base bs G → ∀ k (h : k < bs.length) (h' : k < G.length), ∃ m : IMap ByteArray, MapI w bs[k] m ∧ ScopeIs m G[k]
  | b :: bs, g :: G, h, 0, _, _ => h.1.2.2
  | b :: bs, g :: G, h, k + 1, h1, h2 => mapsGet h.2 k (by simpa using h1) (by simpa using h2)
  | [], _ :: _, h, _, _, _ => h.elim
  | _ :: _, [], h, _, _, _ => h.elim
  | [], [], _, k, h1, _ => absurd h1 (by simp)
theorem mapRow_get : ∀ {bs : List Nat} (k : Nat) (h : k < bs.length), (mapRow bs)[bs.length - 1 - k]? = some (.map (some bs[k]))
  | b :: bs, 0, _ => by
    show (mapRow bs ++ [_])[bs.length + 1 - 1 - 0]? = _
    rw [List.getElem?_append_right (by rw [mapRow_length]; omega), mapRow_length]
    simp
  | b :: bs, k + 1, h => by
    have hk : k < bs.length := by simpa using h
    show (mapRow bs ++ [_])[bs.length + 1 - 1 - (k + 1)]? = _
    rw [List.getElem?_append_left (by rw [mapRow_length]; omega), show bs.length + 1 - 1 - (k + 1) = bs.length - 1 - k by omega]
    exact mapRow_get k hk
theorem cells_old (w : World) (v : Value) (t : TypeId) : (w.alloc (.cells #[v] t)).cell? ⟨w.heap.size, 0, none⟩ = some v ∧ (w.alloc (.cells #[v] t)).frozen? ⟨w.heap.size, 0, none⟩ = false := by
  constructor
  · rw [World.cell?_alloc_at _ _ _ _ rfl]; rfl
  · rw [World.frozen?_alloc_at _ _ _ _ rfl]

set_option maxRecDepth 100000 in
set_option maxHeartbeats 4000000 in
theorem typedFind_any (w : World) (base bc : Nat) (vf : Value) (cf : List Value) (vS : Value) (bs : List Nat) (st : Chk) (h : ChkAt w base bc vf cf vS bs st) (h0 : st.fault = 0) (hl : st.G.length ≤ 200000) (hl0 : 0 < st.G.length) (s : ByteArray) :
    Calls Tryd.prog 166 #[.pointer (some ⟨bc, 0, none⟩), .string s] w (OpPost w base bc vf cf vS bs st (match findT st.G s with | some t => .ok t | none => .error 6)) := by
  have hlen := h.maps.len
  have hget := mapsGet h.maps
  have hrow := h.row
  obtain ⟨gS, cap, rfl, -, -, hgl, -, -⟩ := rowGet hrow (i := 0) (u := (mapRow bs)[0]'(by rw [mapRow_length]; omega)) (by simp)
  have hbk : ∀ x : Fin st.G.length, w.cell? ⟨gS, st.G.length - 1 - x.1, none⟩ = some (.map (some (bs[x.1]'(by omega)))) := fun x => by
    obtain ⟨g', c', hv, -, -, -, hc, -⟩ := rowGet hrow (i := st.G.length - 1 - x.1) (u := .map (some (bs[x.1]'(by omega)))) (by rw [show st.G.length - 1 - x.1 = bs.length - 1 - x.1 by omega]; exact mapRow_get x.1 (by omega))
    obtain ⟨rfl, -⟩ : gS = g' ∧ _ := by simpa using hv
    exact hc
  obtain ⟨bk, hbkd⟩ : ∃ bk : Fin st.G.length → Nat, bk = fun x => bs[x.1]'(by omega) := ⟨_, rfl⟩
  have hbk' : ∀ x : Fin st.G.length, w.cell? ⟨gS, st.G.length - 1 - x.1, none⟩ = some (.map (some (bk x))) := fun x => by rw [hbkd]; exact hbk x
  have hmap : ∀ x : Fin st.G.length, ∃ m : IMap ByteArray, MapI w (bk x) m ∧ ScopeIs m st.G[x.1] := fun x => by rw [hbkd]; exact hget x.1 (by omega) x.2
  have c5 := h.c5
  have hlt := h.lb.2
  have H := Lib.hid h
  have H0 := Lib.hid h0
  have Hmap := Lib.hid hmap
  obtain ⟨R, hR⟩ : ∃ R : Except Int Int, R = match findT st.G s with | some t => .ok t | none => .error 6 := ⟨_, rfl⟩
  rw [← hR]
  have HR := Lib.hid hR
  clear h h0 hR hbk hbkd hget hrow hmap
  refine (callsIn_wide (n := 8)).1 ?_
  refine callsIn_of_wp_marks Tryd.func166 rfl trivial ?_ rfl
  simp only [Tryd.ntmps166, List.size_toArray, List.length_cons, List.length_nil, Nat.reduceAdd, Nat.reduceSub, Array.replicate_succ, Array.replicate_zero, List.push_toArray, List.append_toArray, List.nil_append, List.cons_append]
  have e0 := cells_old w (.string s) 9
  have e1 := cells_old (w.alloc (.cells #[.string s] 9)) (.int .i64 0) 3
  have e2 := cells_old ((w.alloc (.cells #[.string s] 9)).alloc (.cells #[.int .i64 0] 3)) (.slice (some ⟨gS, 0, none⟩) st.G.length cap) 80
  simp only [World.size_alloc] at e1 e2
  have c5' : ((w.alloc (.cells #[.string s] 9)).alloc (.cells #[.int .i64 0] 3)).cell? ⟨bc, 5, none⟩ = some (.slice (some ⟨gS, 0, none⟩) st.G.length cap) := (World.cell?_alloc_lt _ _ _ (by simp; omega)).trans ((World.cell?_alloc_lt _ _ _ hlt).trans c5)
  gi_wp2_with (refine ⟨trivial, ?_⟩; gi_at_call 189; refine (backward_any _ _ _ _ _).mono ?_; rintro e w' ⟨rfl, rfl⟩)
  obtain ⟨W0, hW0⟩ : ∃ W0, ((w.alloc (.cells #[.string s] 9)).alloc (.cells #[.int .i64 0] 3)).alloc (.cells #[.slice (some ⟨gS, 0, none⟩) st.G.length cap] 80) = W0 := ⟨_, rfl⟩
  have hs0 : W0.heap.size = w.heap.size + 3 := by rw [← hW0]; simp
  have hB0 : Below w.heap.size w W0 := by rw [← hW0]; exact (((Below.refl _ w).alloc (Nat.le_refl _) _).alloc (by simp) _).alloc (by simp; omega) _
  have f0 : W0.cell? ⟨w.heap.size, 0, none⟩ = some (.string s) := by rw [← hW0, World.cell?_alloc_lt _ _ _ (by simp; omega), World.cell?_alloc_lt _ _ _ (by simp)]; exact e0.1
  have f1 : W0.cell? ⟨w.heap.size + 1, 0, none⟩ = some (.int .i64 0) := by rw [← hW0, World.cell?_alloc_lt _ _ _ (by simp)]; exact e1.1
  have f1z : W0.frozen? ⟨w.heap.size + 1, 0, none⟩ = false := by rw [← hW0, World.frozen?_alloc_past _ _ _ (by simp)]; exact e1.2
  have f2 : W0.cell? ⟨w.heap.size + 1 + 1, 0, none⟩ = some (.slice (some ⟨gS, 0, none⟩) st.G.length cap) := by rw [← hW0]; exact e2.1
  have fk : ∀ x : Fin st.G.length, W0.cell? ⟨gS, st.G.length - 1 - x.1, none⟩ = some (.map (some (bk x))) := fun x => (hB0.cell (p := ⟨gS, st.G.length - 1 - x.1, none⟩) hgl).trans (hbk' x)
  rw [hW0]
  clear hW0 e0 e1 e2 c5' hbk'
  refine wpIn_rangeFunc_ownF (α := Fin st.G.length) rfl (by decide) (gf := 197) (lb := #[.pointer (some ⟨w.heap.size + 1 + 1, 0, none⟩)]) rfl trivial (enters_of Tryd.func197 (by kernel_rfl) rfl)
    (backward_stops 7 (by decide) (w.heap.size + 1 + 1) W0.heap.size gS st.G.length cap bk (by omega) (by omega) hl W0 (Nat.le_refl _) f2 fk) belowK_t (belowK_b (Nat.le_refl _)) (Below.refl _ _) (fun _ => rfl)
    (fun pre W => ((∀ y ∈ pre, lookT st.G[y.1] s = none) ∧ W.cell? ⟨w.heap.size, 0, none⟩ = some (.string s) ∧ W.cell? ⟨w.heap.size + 1, 0, none⟩ = some (.int .i64 0) ∧ W.frozen? ⟨w.heap.size + 1, 0, none⟩ = false) ∧ Below w.heap.size w W)
    (fun c q W => (c = .ret ∧ ∃ pre x t, q = pre ++ [x] ∧ (∀ y ∈ pre, lookT st.G[y.1] s = none) ∧ lookT st.G[x.1] s = some t ∧ W.cell? ⟨w.heap.size + 1, 0, none⟩ = some (.int .i64 t)) ∧ Below w.heap.size w W)
    (OwnFrom.and (Own.from (fun s A B row hs hg hr => ⟨hs.1, cell_kept hs.2.1 hg hr, cell_kept hs.2.2.1 hg hr, (frozen_kept hs.2.2.1 hg hr).trans hs.2.2.2⟩) _) (ownFrom_below (Nat.le_refl _) (by omega)))
    (fun c => OwnFrom.and (Own.from (fun s A B row hs hg hr => ⟨hs.1, by obtain ⟨_, pre, x, t, q1, q2, q3, q4⟩ := hs; exact ⟨pre, x, t, q1, q2, q3, cell_kept q4 hg hr⟩⟩) _) (ownFrom_below (Nat.le_refl _) (by omega)))
    ⟨⟨by simp, f0, f1, f1z⟩, hB0⟩
    (fun x => { tmps := #[.pointer (some ⟨bc, 0, none⟩), .string s, undef, .pointer (some ⟨w.heap.size, 0, none⟩), .pointer (some ⟨w.heap.size + 1, 0, none⟩), undef, .map (some (bk x)), undef, undef, .pointer (some ⟨bc, 0, none⟩), .pointer (some ⟨bc, 0, none⟩), .pointer (some ⟨bc, 5, none⟩), .slice (some ⟨gS, 0, none⟩) st.G.length cap, .func (.func 197) #[] #[.pointer (some ⟨w.heap.size + 1 + 1, 0, none⟩)], .int .i64 ((st.G.length - 1 - x.1 : Nat) : Int), .map (some (bk x)), undef, undef, undef, undef, undef, undef, undef, undef, undef, undef], defers := [] }) ?assign ?body ?done ?stop
  case assign =>
    intro l x W K hK
    gi_wp2
    exact hK
  case body =>
    rintro l pre x W ⟨⟨hp, hcw, hcr, hfr⟩, hB⟩ _
    obtain ⟨m, hm, hsc⟩ := Hmap.out x
    have hlk : (Instr.lookup 186 (.map (some (bk x))) (.string s) true).run Tryd.prog W = .ok (.tuple #[.int .i64 ((lookT st.G[x.1] s).getD 0), .bool (lookT st.G[x.1] s).isSome]) W := by
      refine ((hm.below hB hm.lt).lookup (κ := ByteArray) Tryd.underlying186 Tryd.underlying9 (zero_int _) s true).trans ?_
      rw [if_pos rfl, hsc s]
      cases lookT st.G[x.1] s <;> rfl
    cases hh : lookT st.G[x.1] s with
    | some t =>
      rw [hh] at hlk
      simp only [Option.getD_some, Option.isSome_some] at hlk
      gi_wp2
      exact ⟨KeepsOthers.setCell _ _ _, ⟨rfl, pre, x, t, rfl, hp, hh, World.cell?_setCell_same' _ _ _ (by rw [hcr]; rfl)⟩, hB.setCell (p := ⟨w.heap.size + 1, 0, none⟩) (by simp) _⟩
    | none =>
      rw [hh] at hlk
      simp only [Option.getD_none, Option.isSome_none] at hlk
      gi_wp2
      exact ⟨KeepsOthers.refl _, Below.refl _ _, ⟨fun y hy => (List.mem_append.1 hy).elim (hp y) (fun e => by simp at e; rw [e]; exact hh), hcw, hcr, hfr⟩, hB⟩
  case done =>
    rintro D ys W hD rfl ⟨⟨hne, _, hcr, hfr⟩, hB⟩ hK
    have hsW : Since (fun _ => False) w W := ⟨hB.os, hB.tape, hB.output, hB.size, fun k hk _ => hB.block k hk⟩
    have HCW := Lib.hid (H.out.since hsW (fun _ e => e.elim))
    have hwr := typedWrong_any W base bc vf cf _ bs st HCW.out 6
    have Hwr := Lib.hid hwr
    have HsW := Lib.hid hsW
    have hsz : w.heap.size + 1 < W.heap.size := by
      rcases Nat.lt_or_ge (w.heap.size + 1) W.heap.size with h' | h'
      · exact h'
      · simp [World.cell?, Array.getElem?_eq_none h'] at hcr
    have Hne := Lib.hid hne
    clear hwr hsW hB hne
    gi_wp2_with (refine ⟨trivial, ?_⟩; gi_at_call 86; refine (callsIn_wide.2 Hwr.out).mono ?_; rintro en W2 ⟨rfl, hc2, hs2⟩; have hcr2 := (hs2.cell (o := 0) hsz (by omega)).trans hcr; have hfr2 := (hs2.frozen (o := 0) hsz (by omega)).trans hfr; have hK2 := (hs2.block D (Array.getElem?_eq_some_iff.1 hK).1 (by omega)).trans hK)
    have hK' := (KeepsOthers.setCell W2 ⟨w.heap.size + 1, 0, none⟩ (.int .i64 0)).same D _ hK2 rfl
    have HC2 := Lib.hid hc2
    have HS2 := Lib.hid hs2
    clear hc2 hs2
    have hc5 := cell_kept (World.cell?_setCell_same' W2 ⟨w.heap.size + 1, 0, none⟩ (.int .i64 0) (by rw [hcr2]; rfl)) (grownBy_putObj' _ D (.deferred none)) (fun r e => by cases e; exact ⟨_, hK', rfl⟩)
    have s3 : Since (fun k => k = w.heap.size + 1) W2 (W2.setCell ⟨w.heap.size + 1, 0, none⟩ (.int .i64 0)) := Since.setCell W2 ⟨w.heap.size + 1, 0, none⟩ (.int .i64 0)
    have s4 : Since (fun k => some D = some k) (W2.setCell ⟨w.heap.size + 1, 0, none⟩ (.int .i64 0)) ((W2.setCell ⟨w.heap.size + 1, 0, none⟩ (.int .i64 0)).putObj D (.deferred none)) := Since.grown (grownBy_putObj' _ D (.deferred none))
    have hlow : ∀ k, ChkM bc (.slice (some ⟨gS, 0, none⟩) st.G.length cap) bs k → k < w.heap.size := fun k hk => (H.out.mem_lt hk).2
    refine ⟨by simp, .inl ⟨_, _, rfl, run_takeDeferred hK', ?_⟩⟩
    refine ⟨.int .i64 0, ?_, ?_⟩
    · simp [results, Tryd.f166, go_sem, hc5]
    · refine ⟨0, st.bad 6, rfl, (HC2.out.since s3 (fun k e hk => by have := hlow k hk; omega)).since s4 (fun k e hk => by have := hlow k hk; have := Option.some.inj e; omega), ?_, ?_⟩
      · exact (((HsW.out.mono (fun _ e => e.elim)).trans HS2.out).then_new s3 (fun k e => Or.inr (by omega))).then_new s4 (fun k e => Or.inr (by have := Option.some.inj e; omega))
      · rw [HR.out, findT_none (fun g hg => by obtain ⟨j, hj, rfl⟩ := List.mem_iff_getElem.1 hg; exact Hne.out ⟨j, hj⟩ (by simp))]
        exact KindEnd.bad H0.out _ (by decide)
  case stop =>
    rintro D c q W hD ⟨k, hk, rfl⟩ ⟨⟨rfl, pre, x, t, q1, q2, q3, hcr⟩, hB⟩ hK
    have hsW : Since (fun _ => False) w W := ⟨hB.os, hB.tape, hB.output, hB.size, fun k hk _ => hB.block k hk⟩
    have HCW := Lib.hid (H.out.since hsW (fun _ e => e.elim))
    have HsW := Lib.hid hsW
    have Hq := Lib.hid (show findT st.G s = some t by
      have hl1 : pre.length + 1 = k := by have := congrArg List.length q1; simp at this; omega
      subst hl1
      rw [finRange_take_succ (show pre.length < st.G.length by omega)] at q1
      obtain ⟨p1, p2⟩ := List.append_inj' q1 rfl
      have hx : x = ⟨pre.length, by omega⟩ := by simpa using p2.symm
      subst hx
      refine findT_some pre.length (by omega) (fun j hj => q2 ⟨j, by omega⟩ ?_) q3
      have e := congrArg (fun l => l[j]?) p1
      exact List.mem_of_getElem? (e.symm.trans (by
        show (List.take pre.length (List.finRange st.G.length))[j]? = _
        rw [List.getElem?_take, if_pos hj, List.getElem?_eq_getElem (by simp; omega)]
        simp)))
    clear hsW hB q1 q2 q3
    gi_wp2
    have hc5 := cell_kept hcr (grownBy_putObj' _ D (.deferred none)) (fun r e => by cases e; exact ⟨_, hK, rfl⟩)
    have s4 : Since (fun k => some D = some k) W (W.putObj D (.deferred none)) := Since.grown (grownBy_putObj' _ D (.deferred none))
    have hlow : ∀ k, ChkM bc (.slice (some ⟨gS, 0, none⟩) st.G.length cap) bs k → k < w.heap.size := fun k hk => (H.out.mem_lt hk).2
    refine ⟨by simp, .inl ⟨_, _, rfl, run_takeDeferred hK, ?_⟩⟩
    refine ⟨.int .i64 t, ?_, ?_⟩
    · simp [results, Tryd.f166, go_sem, hc5]
    · refine ⟨t, st, rfl, HCW.out.since s4 (fun k e hk => by have := hlow k hk; have := Option.some.inj e; omega), ?_, ?_⟩
      · exact (HsW.out.mono (fun _ e => e.elim)).then_new s4 (fun k e => Or.inr (by have := Option.some.inj e; omega))
      · rw [HR.out, Hq.out]
        exact ⟨rfl, rfl⟩
end Go.Proofs.YtaomlfbcfmmhlaaDoor

/-
  Texts joined: RanArm12.
-/
import Derived.Test.YtaomlfbcfmmhlaaJC

/-
  ref.ranOf: arms of the switch: a call (printed by wip/gen_arms12.py).
-/
namespace Go.Proofs.Ytaomlfbcfmmhlaa
open Go.RowKit Go.Pst
set_option linter.unusedVariables false
set_option linter.unusedSimpArgs false
abbrev zeroLev : Value := .agg #[.int .i64 0, .slice none 0 0, .slice none 0 0, .int .i64 0, .int .i64 0, .slice none 0 0]
theorem info_level : (Try.prog.info? 83).map (fun i => (i.zero, i.size, i.bytes)) = some (some zeroLev, 6, 96) := by kernel_rfl
theorem info_levels : Try.prog.underlying 84 = some (.slice 83) := Try.underlying84
/-- The code of a function, in memory. -/
theorem code_mem {base : Nat} {w : World} {v0 v1 : Value} {p : PProg} {k : Nat} (h : rProg (· < base) w [v0, v1] p) (hk : k < p.funcs.length) : ∃ bF oF cF, v0 = .slice (some ⟨bF, oF, none⟩) p.funcs.length cF ∧ bF < base ∧ bF < w.heap.size ∧
      w.cell? ⟨bF, oF + k * 6 + 3, none⟩ = some (.int .i64 (codeAt p k).vars) ∧ w.cell? ⟨bF, oF + k * 6 + 4, none⟩ = some (.int .i64 (codeAt p k).slots) := by
  obtain ⟨u, u', hv, hc, -⟩ := h
  obtain ⟨rfl, rfl⟩ : v0 = u ∧ v1 = u' := by simpa using hv
  obtain ⟨aF, cF, rfl, -, -, h⟩ := rCodes_val hc
  obtain ⟨bF, oF, v5, rfl, hS, hbl, -, -, -, c3, c4, -, -, -⟩ := h k hk
  rw [← codeAt_eq hk] at c3 c4
  exact ⟨bF, oF, cF, rfl, hS, hbl, c3, c4⟩
theorem cells_new (w : World) (l : List Value) (t : TypeId) : ∀ j u, l[j]? = some u → (w.alloc (.cells l.toArray t)).cell? ((⟨w.heap.size, 0, none⟩ : Addr).add j) = some u := by
  intro j u hj
  have : ((⟨w.heap.size, 0, none⟩ : Addr).add j) = ⟨w.heap.size, j, none⟩ := by by_cases h : j = 0 <;> simp [Addr.add, h]
  rw [this, World.cell?_alloc_new]
  simpa using hj
theorem fill_step {xs : List Int} {n N : Nat} (h1 : n < xs.length) (h2 : xs.length ≤ N) : (xs.take n ++ (List.replicate N (0 : Int)).drop n).set n xs[n] = xs.take (n + 1) ++ (List.replicate N (0 : Int)).drop (n + 1) := by
  have hl : (xs.take n).length = n := by simp; omega
  rw [List.set_append_right _ _ (by omega), hl, Nat.sub_self, List.drop_eq_getElem_cons (by simp; omega), List.set_cons_zero, List.take_succ_eq_append_getElem h1]
  simp only [List.append_assoc, List.cons_append, List.nil_append]

variable [Old]
set_option maxRecDepth 100000 in
set_option maxHeartbeats 4000000 in
theorem arm_invoke0 (Q : Exit → Act → World → Prop) (ρ : Nat → Option Lab) (t : Array Value) (w : World) (fuel : Int) (m : Bool) (base bp br bs bi g cap : Nat) (s13 v0 v1 vW vL u1 u2 u5 vX : Value) (p : PProg) (limit : Int) (words : List Int) (lines : List ByteArray) (f : Lev) (a : LA) (r : List (Lev × LA)) (i : PInstr) (xs : List Int)
    (h : PreArm ρ t w fuel m base bp br bs bi g cap s13 v0 v1 vW vL u1 u2 u5 p limit words lines f a r i vX xs) (hi : i = instrAt p f) (hx : xs = argsF m f i) (e : i.op = 7) (h40 : 40 ≤ r.length + 1) (hrl : r.length ≤ 100000)
    (HQ : Hid (∀ t' w', StepPost t' w' fuel m base bp br bs s13 v0 v1 p limit (stepF p m limit (stateOf words lines ((f, a) :: r))) → Q .normal ⟨t', []⟩ w')) :
    ranS25.wp Try.prog Q ⟨t, []⟩ w := by
  have hst : stepF p m limit (stateOf words lines ((f, a) :: r)) = (4, ⟨words, lines, { f with at_ := f.at_ + 1 } :: r.map (·.1)⟩) := by
    unfold stepF stateOf
    simp only [List.map_cons, ← hi, ← hx, e]
    show (if 40 ≤ (((f, a) :: r).map (·.1)).length then _ else _) = _
    rw [if_pos (by simpa using h40)]
  rw [hst] at HQ
  obtain ⟨g', cap', hv, -, -, hgl, hcell⟩ := h.run.get
  obtain ⟨rfl, -⟩ : g = g' ∧ cap = cap' := by simpa using hv
  have q1 : w.cell? ⟨g, r.length * 6 + 1, none⟩ = some (.slice (some ⟨a.gv, 0, none⟩) f.vars.length f.vars.length) := (hcell 1 _ rfl).1
  have q2 : w.cell? ⟨g, r.length * 6 + 2, none⟩ = some (.slice (some ⟨a.gs, 0, none⟩) f.slots.length f.slots.length) := (hcell 2 _ rfl).1
  have hbl : bi < w.heap.size := (Array.getElem?_eq_some_iff.1 h.box).1
  have b0 : w.cell? ⟨bi, 0, none⟩ = some (.int .i64 7) := by simp [World.cell?, h.box, e]
  have H := Lib.hid h
  unfold ranS25
  conv => arg 2; whnf
  rw [frame473 t h.frame.size, h.frame.s2, h.frame.s3, h.frame.s4, h.frame.s8, h.frame.s9, h.s11, h.s12, h.s14, h.s15, h.s17]
  have h13 := h.s13
  subst h13
  have h40' : decide (((r.length + 1 : Nat) : Int) ≥ 40) = true := decide_eq_true (by omega)
  have h40'' : decide (((r.length : Nat) : Int) + 1 ≥ 40) = true := decide_eq_true (by omega)
  clear h hcell hv hx hst e hi
  go_wp2_with fail
  exact HQ.out _ _ ⟨⟨rfl, rfl, rfl, rfl, rfl, rfl⟩, rfl, rfl, ρ, vW, vL, _, H.out.run, by simp⟩

set_option maxRecDepth 100000 in
set_option maxHeartbeats 4000000 in
theorem arm_invoke_false (Q : Exit → Act → World → Prop) (ρ : Nat → Option Lab) (t : Array Value) (w : World) (fuel : Int) (base bp br bs bi g cap : Nat) (s13 v0 v1 vW vL u1 u2 u5 vX : Value) (p : PProg) (limit : Int) (words : List Int) (lines : List ByteArray) (f : Lev) (a : LA) (r : List (Lev × LA)) (i : PInstr) (xs : List Int)
    (h : PreArm ρ t w fuel false base bp br bs bi g cap s13 v0 v1 vW vL u1 u2 u5 p limit words lines f a r i vX xs) (hi : i = instrAt p f) (hx : xs = argsF false f i) (e : i.op = 7) (k nv ns : Nat) (hnm : nameAt i.s p.funcs = k) (hkl : k < p.funcs.length) (hfl : p.funcs.length ≤ 40) (hcv : (codeAt p k).vars = nv) (hcs : (codeAt p k).slots = ns) (hroom : xs.length ≤ nv) (hnv : nv ≤ 3000) (hns : ns ≤ 3000) (h40 : r.length + 1 < 40)
    (HQ : Hid (∀ t' w', StepPost t' w' fuel false base bp br bs s13 v0 v1 p limit (stepF p false limit (stateOf words lines ((f, a) :: r))) → Q .normal ⟨t', []⟩ w')) :
    ranS25.wp Try.prog Q ⟨t, []⟩ w := by
  have hst : stepF p false limit (stateOf words lines ((f, a) :: r)) = (0, ⟨words, lines, ⟨k, xs ++ (List.replicate nv (0 : Int)).drop xs.length, List.replicate ns (0 : Int), 0, 0, i.ds⟩ :: { f with at_ := f.at_ + 1 } :: r.map (·.1)⟩) := by
    unfold stepF stateOf
    simp only [List.map_cons, ← hi, ← hx, e]
    show (if 40 ≤ (((f, a) :: r).map (·.1)).length then _ else (0, (⟨words, lines, newLev p false (nameAt i.s p.funcs).toNat xs i.ds :: _⟩ : Mach))) = _
    rw [if_neg (by simp; omega), hnm]
    simp [newLev, hcv, hcs]
  rw [hst] at HQ
  obtain ⟨g', cap', hv, -, -, hgl, hcell⟩ := h.run.get
  obtain ⟨rfl, -⟩ : g = g' ∧ cap = cap' := by simpa using hv
  have q1 : w.cell? ⟨g, r.length * 6 + 1, none⟩ = some (.slice (some ⟨a.gv, 0, none⟩) f.vars.length f.vars.length) := (hcell 1 _ rfl).1
  have q2 : w.cell? ⟨g, r.length * 6 + 2, none⟩ = some (.slice (some ⟨a.gs, 0, none⟩) f.slots.length f.slots.length) := (hcell 2 _ rfl).1
  have hbl : bi < w.heap.size := (Array.getElem?_eq_some_iff.1 h.box).1
  have b0 : w.cell? ⟨bi, 0, none⟩ = some (.int .i64 7) := by simp [World.cell?, h.box, e]
  have b4 : w.cell? ⟨bi, 4, none⟩ = some (.string i.s) := by simp [World.cell?, h.box]
  have b1 : w.cell? ⟨bi, 1, none⟩ = some u1 := by simp [World.cell?, h.box]
  obtain ⟨aD, cD, rfl⟩ := rSlice_shape h.i1
  obtain ⟨bF, oF, cF, rfl, hF1, hF2, f3, f4⟩ := code_mem h.run.prog hkl
  rw [hcv] at f3
  rw [hcs] at f4
  have p0 := h.run.p0
  have p1 := h.run.p1
  have hpl := h.run.lp.2
  obtain ⟨aX, cX, rfl, hX1, hX2⟩ := row_slice h.row
  have hcodes : rCodes (fun _ => True) w [.slice (some ⟨bF, oF, none⟩) p.funcs.length cF] p.funcs := by
    obtain ⟨u, u', hv, hc, -⟩ := h.run.prog
    obtain ⟨rfl, rfl⟩ : _ = u ∧ v1 = u' := by simpa using hv
    exact Good.wide hc (fun _ _ _ => trivial)
  have hmv := make_ints nv (by omega)
  have hms := make_ints ns (by omega)
  have hcall := funcNamed_any i.s p.funcs _ v1 w hcodes
  rw [hnm] at hcall
  have Hcall := Lib.hid hcall
  have H := Lib.hid h
  unfold ranS25
  conv => arg 2; whnf
  rw [frame473 t h.frame.size, h.frame.s2, h.frame.s3, h.frame.s4, h.frame.s8, h.frame.s9, h.s11, h.s12, h.s14, h.s15, h.s17]
  have h13 := h.s13
  subst h13
  have h40' : decide (((r.length + 1 : Nat) : Int) ≥ 40) = false := decide_eq_false (by omega)
  have h40'' : decide (((r.length : Nat) : Int) + 1 ≥ 40) = false := decide_eq_false (by omega)
  have hk0 : (0 : Int) ≤ k := by omega
  have hk1 : (k : Int) < p.funcs.length := by omega
  have Hmv := Lib.hid hmv
  have Hms := Lib.hid hms
  clear hcall h hcell hv hx hst e hi hcodes hnm hcv hcs hkl hmv hms
  go_wp2_with fail
  refine Hcall.out.mono ?_
  rintro e w1 ⟨rfl, hb1⟩
  have s1 : Since (fun _ => False) w w1 := ⟨hb1.os, hb1.tape, hb1.output, hb1.size, fun k hk _ => hb1.block k hk⟩
  have q0' := (s1.cell (o := 0) hpl id).trans p0
  have f3' := (s1.cell (o := oF + k * 6 + 3) hF2 id).trans f3
  have f4' := (s1.cell (o := oF + k * 6 + 4) hF2 id).trans f4
  have b1' := (s1.cell (o := 1) hbl id).trans b1
  have z1 := Nat.lt_of_lt_of_le hpl s1.size
  have z2 := Nat.lt_of_lt_of_le hF2 s1.size
  have z3 := Nat.lt_of_lt_of_le hbl s1.size
  have dp : ∀ o, (w1.alloc o).cell? ⟨bp, 0, none⟩ = _ := fun o => (World.cell?_alloc_lt _ _ _ z1).trans q0'
  have d3 : ∀ o, (w1.alloc o).cell? ⟨bF, oF + k * 6 + 3, none⟩ = _ := fun o => (World.cell?_alloc_lt _ _ _ z2).trans f3'
  have d4 : ∀ o, (w1.alloc o).cell? ⟨bF, oF + k * 6 + 4, none⟩ = _ := fun o => (World.cell?_alloc_lt _ _ _ z2).trans f4'
  have d1 : ∀ o, (w1.alloc o).cell? ⟨bi, 1, none⟩ = _ := fun o => (World.cell?_alloc_lt _ _ _ z3).trans b1'
  have S1 := Lib.hid s1
  have hmv := Hmv.out
  have hms := Hms.out
  clear hb1 Hcall q1 q2 b0 b4 s1 p0 p1 f3 f4 b1
  go_upto_region 72 with fail
  go_cut [26] from 373 to 390 (fun s26 wx => ∃ gb gv gs, s26 = .pointer (some ⟨gb, 0, none⟩) ∧ Since (fun _ => False) w1 wx ∧ wx.heap[gb]? = some (.cells #[.int .i64 k, .slice (some ⟨gv, 0, none⟩) nv nv, .slice (some ⟨gs, 0, none⟩) ns ns, .int .i64 0, .int .i64 0, .slice aD i.ds.length cD] 83) ∧
        wx.heap[gv]? = some (.cells (zeros nv) 3) ∧ wx.heap[gs]? = some (.cells (zeros ns) 3) ∧ w1.heap.size ≤ gb ∧ w1.heap.size ≤ gv ∧ w1.heap.size ≤ gs ∧ gv ≠ gs ∧ gb ≠ gv ∧ gb ≠ gs)
  case first =>
    go_region_held3 (fun w' => w'.cell? ⟨bp, 0, none⟩ = some (.slice (some ⟨bF, oF, none⟩) p.funcs.length cF) ∧ w'.cell? ⟨bF, oF + k * 6 + 3, none⟩ = some (.int .i64 nv) ∧ w'.cell? ⟨bF, oF + k * 6 + 4, none⟩ = some (.int .i64 ns) ∧ w'.cell? ⟨bi, 1, none⟩ = some (.slice aD i.ds.length cD)) (go_keep) (fail)
    all_goals (go_wp2_with fail; go_meet)
    all_goals (obtain ⟨k1, k2, k3, k4⟩ := heap3 w1 _ _ _)
    all_goals (first
      | exact ⟨_, _, _, rfl, k4, k1, k2, k3, by omega, by omega, by omega, by omega, by omega, by omega⟩
      | exact ⟨_, _, _, rfl, k4, k1, k3, k2, by omega, by omega, by omega, by omega, by omega, by omega⟩
      | exact ⟨_, _, _, rfl, k4, k2, k1, k3, by omega, by omega, by omega, by omega, by omega, by omega⟩
      | exact ⟨_, _, _, rfl, k4, k2, k3, k1, by omega, by omega, by omega, by omega, by omega, by omega⟩
      | exact ⟨_, _, _, rfl, k4, k3, k1, k2, by omega, by omega, by omega, by omega, by omega, by omega⟩
      | exact ⟨_, _, _, rfl, k4, k3, k2, k1, by omega, by omega, by omega, by omega, by omega, by omega⟩)
  case rest =>
    obtain ⟨gb, gv, gs, rfl, sx, hb, hgv, hgs, l1, l2, l3, n1, n2, n3⟩ := hcut
    have e1 : wc.cell? ⟨gb, 1, none⟩ = some (.slice (some ⟨gv, 0, none⟩) nv nv) := by simp [World.cell?, hb]
    have e2 : wc.cell? ⟨gb, 2, none⟩ = some (.slice (some ⟨gs, 0, none⟩) ns ns) := by simp [World.cell?, hb]
    have sw := S1.out.trans sx
    have hbig := H.out.run.big
    have gbl : gb < wc.heap.size := (Array.getElem?_eq_some_iff.1 hb).1
    have gvl : gv < wc.heap.size := (Array.getElem?_eq_some_iff.1 hgv).1
    have gsl : gs < wc.heap.size := (Array.getElem?_eq_some_iff.1 hgs).1
    have hz1 := S1.out.size
    have Hb := Lib.hid hb
    have HZ := Lib.hid (zeros_row (base := base) hgv (by omega) (by omega) : intRow wc base gv (List.replicate nv 0))
    have HO := Lib.hid (zeros_row (base := base) hgs (by omega) (by omega) : intRow wc base gs (List.replicate ns 0))
    have SW := Lib.hid sw
    have Hrow := Lib.hid H.out.row
    have Hroom := Lib.hid hroom
    clear hb hgv hgs sw sx hmv hms dp d3 d4 d1 q0' f3' f4' b1' S1 Hmv Hms hX1 hX2 h40' h40''
    go_wp2_with fail
    go_loopw [28] (fun s wr => ∃ n : Nat, n ≤ xs.length ∧ s = .int .i64 n ∧ Since (fun k => k = gv) wc wr ∧ intRow wr base gv (xs.take n ++ (List.replicate nv (0 : Int)).drop n)) (fun s _ => xs.length - (intOf s).toNat)
    case atStart => exact ⟨0, Nat.zero_le _, rfl, Since.refl _ _, HZ.out⟩
    case round =>
      obtain ⟨n, hn, rfl, hs1, hR⟩ := hrel
      by_cases hlt : n < xs.length
      · have hlt1 : (n : Int) < xs.length := by omega
        have hn0 : (0 : Int) ≤ n := by omega
        have hnN : (n : Int) < nv := by omega
        obtain ⟨gX, cX', hvX, hX3, -, hXl, hcX0, -⟩ := row_get Hrow.out (i := n) (u := .int .i64 xs[n]) (by simp [hlt])
        obtain rfl : aX = some ⟨gX, 0, none⟩ := (Value.slice.inj hvX).1
        have hXl2 := Nat.lt_of_lt_of_le hXl SW.out.size
        have hcX : wr.cell? ⟨gX, n, none⟩ = some (.int .i64 xs[n]) := (hs1.cell hXl2 (by omega)).trans ((SW.out.cell hXl id).trans hcX0)
        have hLl : (xs.take n ++ (List.replicate nv (0 : Int)).drop n).length = nv := by simp; omega
        obtain ⟨_, _, hvT, -, -, -, hcT, hzT⟩ := row_get hR (i := n) (u := .int .i64 ((xs.take n ++ (List.replicate nv (0 : Int)).drop n)[n]'(by omega))) (by rw [List.getElem?_map, List.getElem?_eq_getElem (by omega)]; rfl)
        obtain ⟨rfl, -⟩ : gv = _ ∧ _ := by simpa using hvT
        have HN := Lib.hid (show (xs.take n ++ (List.replicate nv (0 : Int)).drop n).set n xs[n] = xs.take (n + 1) ++ (List.replicate nv (0 : Int)).drop (n + 1) from fill_step hlt Hroom.out)
        have HR := Lib.hid (row_put hR n (.int .i64 xs[n]))
        have HS := Lib.hid hs1
        generalize (xs.take n ++ (List.replicate nv (0 : Int)).drop n)[n]'(by omega) = old at *
        generalize hLL : xs.take n ++ (List.replicate nv (0 : Int)).drop n = LL at *
        have HLL := Lib.hid hLL
        have HLl := Lib.hid hLl
        clear hR hs1 hvT hvX hcX0 hLl hLL hXl2
        generalize hxn : xs[n] = xn at *
        have Hxn := Lib.hid hxn
        clear hxn
        go_wp2_with fail
        refine ⟨⟨n + 1, by omega, by simp, ?_, ?_⟩, by simp only [intOf]; omega⟩
        · exact HS.out.trans (Since.setCell wr ⟨gv, n, none⟩ (.int .i64 xn))
        · have := HR.out
          rw [← HN.out]
          have e3 : (LL.set n xn).length = LL.length := by simp
          unfold intRow
          rw [e3, List.map_set]
          exact this
      · have hne : n = xs.length := by omega
        subst hne
        have hlt1 : ¬ ((xs.length : Int) < xs.length) := by omega
        rw [List.take_length] at hR
        have swr : Since (fun _ => False) w wr := SW.out.then_new hs1 (fun k e => Or.inr (by have := SW.out.size; rw [e]; omega))
        have hO := hs1.row HO.out (fun k hk e => by simp [Value.ownBlock] at hk; omega)
        have hbw : wr.heap[gb]? = _ := (hs1.block gb gbl (by omega)).trans Hb.out
        have b0 : wr.cell? ⟨gb, 0, none⟩ = some (.int .i64 k) := by simp [World.cell?, hbw]
        have b1 : wr.cell? ⟨gb, 1, none⟩ = some (.slice (some ⟨gv, 0, none⟩) nv nv) := by simp [World.cell?, hbw]
        have b2 : wr.cell? ⟨gb, 2, none⟩ = some (.slice (some ⟨gs, 0, none⟩) ns ns) := by simp [World.cell?, hbw]
        have b3 : wr.cell? ⟨gb, 3, none⟩ = some (.int .i64 0) := by simp [World.cell?, hbw]
        have b4 : wr.cell? ⟨gb, 4, none⟩ = some (.int .i64 0) := by simp [World.cell?, hbw]
        have b5 : wr.cell? ⟨gb, 5, none⟩ = some (.slice aD i.ds.length cD) := by simp [World.cell?, hbw]
        have hrun := H.out.run.since swr
        have hrow := hrun.row
        have hd1 := Good.kept (swr.keep.weaken (fun k _ _ e => e.elim)) H.out.i1
        have hbg := hrun.big
        have HRow := Lib.hid hR
        have HOr := Lib.hid hO
        have Hrun := Lib.hid hrun
        have HD1 := Lib.hid hd1
        have SWR := Lib.hid swr
        obtain ⟨iL, hiL, hL0, hL1, hL2⟩ := info_parts info_level
        clear hR hO hrun hd1 hs1 hbw swr hlt hn
        have hnews : levCells ⟨k, xs ++ (List.replicate nv (0 : Int)).drop xs.length, List.replicate ns (0 : Int), 0, 0, i.ds⟩ ⟨gv, gs, .slice aD i.ds.length cD⟩ = [.int .i64 k, .slice (some ⟨gv, 0, none⟩) nv nv, .slice (some ⟨gs, 0, none⟩) ns ns, .int .i64 0, .int .i64 0, .slice aD i.ds.length cD] := by
          have := Hroom.out
          simp [levCells]
          try omega
        have Hnews := Lib.hid hnews
        clear hnews
        go_wp2_with (at_builtin; refine wpList_append_own_at _ rfl _ _ 84 rfl base 83 iL zeroLev 6 96 info_levels hiL hL0 hL1 hL2 rfl (by decide) _ _ _ rfl (hrow.alloc _) ⟨wr.heap.size, 0, none⟩ 1 1 [.int .i64 k, .slice (some ⟨gv, 0, none⟩) nv nv, .slice (some ⟨gs, 0, none⟩) ns ns, .int .i64 0, .int .i64 0, .slice aD i.ds.length cD] rfl rfl (cells_new _ _ _) (by intro u hu; simp at hu; rcases hu with rfl | rfl | rfl | rfl | rfl <;> rfl) (by unfold maxLen; simp only [List.length_cons]; omega) (by simp only [List.length_cons]; omega) (by simp; omega) ?_)
        intro v' w2 hown hgrow _ hloc
        obtain ⟨ρ2, hq⟩ := H.out.run.push (f := ⟨k, xs ++ (List.replicate nv (0 : Int)).drop xs.length, List.replicate ns (0 : Int), 0, 0, i.ds⟩) (a := ⟨gv, gs, .slice aD i.ds.length cD⟩) SWR.out hgrow (by rw [Hnews.out]; exact hown) hloc HRow.out HOr.out (Nat.le_trans hz1 l2) (Nat.le_trans hz1 l3) n1 HD1.out
        have Hq := Lib.hid hq
        clear hq hown hgrow hloc hrow
        go_wp2_with fail
        exact HQ.out _ _ ⟨⟨rfl, rfl, rfl, rfl, rfl, rfl⟩, rfl, rfl, ρ2, vW, vL, _, Hq.out, rfl⟩
set_option maxRecDepth 100000 in
set_option maxHeartbeats 4000000 in
theorem arm_invoke_true (Q : Exit → Act → World → Prop) (ρ : Nat → Option Lab) (t : Array Value) (w : World) (fuel : Int) (base bp br bs bi g cap : Nat) (s13 v0 v1 vW vL u1 u2 u5 vX : Value) (p : PProg) (limit : Int) (words : List Int) (lines : List ByteArray) (f : Lev) (a : LA) (r : List (Lev × LA)) (i : PInstr) (xs : List Int)
    (h : PreArm ρ t w fuel true base bp br bs bi g cap s13 v0 v1 vW vL u1 u2 u5 p limit words lines f a r i vX xs) (hi : i = instrAt p f) (hx : xs = argsF true f i) (e : i.op = 7) (k nv ns : Nat) (hnm : nameAt i.s p.funcs = k) (hkl : k < p.funcs.length) (hfl : p.funcs.length ≤ 40) (hcv : (codeAt p k).vars = nv) (hcs : (codeAt p k).slots = ns) (hroom : xs.length ≤ ns) (hnv : nv ≤ 3000) (hns : ns ≤ 3000) (h40 : r.length + 1 < 40)
    (HQ : Hid (∀ t' w', StepPost t' w' fuel true base bp br bs s13 v0 v1 p limit (stepF p true limit (stateOf words lines ((f, a) :: r))) → Q .normal ⟨t', []⟩ w')) :
    ranS25.wp Try.prog Q ⟨t, []⟩ w := by
  have hst : stepF p true limit (stateOf words lines ((f, a) :: r)) = (0, ⟨words, lines, ⟨k, List.replicate nv (0 : Int), xs ++ (List.replicate ns (0 : Int)).drop xs.length, 0, 0, i.ds⟩ :: { f with at_ := f.at_ + 1 } :: r.map (·.1)⟩) := by
    unfold stepF stateOf
    simp only [List.map_cons, ← hi, ← hx, e]
    show (if 40 ≤ (((f, a) :: r).map (·.1)).length then _ else (0, (⟨words, lines, newLev p true (nameAt i.s p.funcs).toNat xs i.ds :: _⟩ : Mach))) = _
    rw [if_neg (by simp; omega), hnm]
    simp [newLev, hcv, hcs]
  rw [hst] at HQ
  obtain ⟨g', cap', hv, -, -, hgl, hcell⟩ := h.run.get
  obtain ⟨rfl, -⟩ : g = g' ∧ cap = cap' := by simpa using hv
  have q1 : w.cell? ⟨g, r.length * 6 + 1, none⟩ = some (.slice (some ⟨a.gv, 0, none⟩) f.vars.length f.vars.length) := (hcell 1 _ rfl).1
  have q2 : w.cell? ⟨g, r.length * 6 + 2, none⟩ = some (.slice (some ⟨a.gs, 0, none⟩) f.slots.length f.slots.length) := (hcell 2 _ rfl).1
  have hbl : bi < w.heap.size := (Array.getElem?_eq_some_iff.1 h.box).1
  have b0 : w.cell? ⟨bi, 0, none⟩ = some (.int .i64 7) := by simp [World.cell?, h.box, e]
  have b4 : w.cell? ⟨bi, 4, none⟩ = some (.string i.s) := by simp [World.cell?, h.box]
  have b1 : w.cell? ⟨bi, 1, none⟩ = some u1 := by simp [World.cell?, h.box]
  obtain ⟨aD, cD, rfl⟩ := rSlice_shape h.i1
  obtain ⟨bF, oF, cF, rfl, hF1, hF2, f3, f4⟩ := code_mem h.run.prog hkl
  rw [hcv] at f3
  rw [hcs] at f4
  have p0 := h.run.p0
  have p1 := h.run.p1
  have hpl := h.run.lp.2
  obtain ⟨aX, cX, rfl, hX1, hX2⟩ := row_slice h.row
  have hcodes : rCodes (fun _ => True) w [.slice (some ⟨bF, oF, none⟩) p.funcs.length cF] p.funcs := by
    obtain ⟨u, u', hv, hc, -⟩ := h.run.prog
    obtain ⟨rfl, rfl⟩ : _ = u ∧ v1 = u' := by simpa using hv
    exact Good.wide hc (fun _ _ _ => trivial)
  have hmv := make_ints nv (by omega)
  have hms := make_ints ns (by omega)
  have hcall := funcNamed_any i.s p.funcs _ v1 w hcodes
  rw [hnm] at hcall
  have Hcall := Lib.hid hcall
  have H := Lib.hid h
  unfold ranS25
  conv => arg 2; whnf
  rw [frame473 t h.frame.size, h.frame.s2, h.frame.s3, h.frame.s4, h.frame.s8, h.frame.s9, h.s11, h.s12, h.s14, h.s15, h.s17]
  have h13 := h.s13
  subst h13
  have h40' : decide (((r.length + 1 : Nat) : Int) ≥ 40) = false := decide_eq_false (by omega)
  have h40'' : decide (((r.length : Nat) : Int) + 1 ≥ 40) = false := decide_eq_false (by omega)
  have hk0 : (0 : Int) ≤ k := by omega
  have hk1 : (k : Int) < p.funcs.length := by omega
  have Hmv := Lib.hid hmv
  have Hms := Lib.hid hms
  clear hcall h hcell hv hx hst e hi hcodes hnm hcv hcs hkl hmv hms
  go_wp2_with fail
  refine Hcall.out.mono ?_
  rintro e w1 ⟨rfl, hb1⟩
  have s1 : Since (fun _ => False) w w1 := ⟨hb1.os, hb1.tape, hb1.output, hb1.size, fun k hk _ => hb1.block k hk⟩
  have q0' := (s1.cell (o := 0) hpl id).trans p0
  have f3' := (s1.cell (o := oF + k * 6 + 3) hF2 id).trans f3
  have f4' := (s1.cell (o := oF + k * 6 + 4) hF2 id).trans f4
  have b1' := (s1.cell (o := 1) hbl id).trans b1
  have z1 := Nat.lt_of_lt_of_le hpl s1.size
  have z2 := Nat.lt_of_lt_of_le hF2 s1.size
  have z3 := Nat.lt_of_lt_of_le hbl s1.size
  have dp : ∀ o, (w1.alloc o).cell? ⟨bp, 0, none⟩ = _ := fun o => (World.cell?_alloc_lt _ _ _ z1).trans q0'
  have d3 : ∀ o, (w1.alloc o).cell? ⟨bF, oF + k * 6 + 3, none⟩ = _ := fun o => (World.cell?_alloc_lt _ _ _ z2).trans f3'
  have d4 : ∀ o, (w1.alloc o).cell? ⟨bF, oF + k * 6 + 4, none⟩ = _ := fun o => (World.cell?_alloc_lt _ _ _ z2).trans f4'
  have d1 : ∀ o, (w1.alloc o).cell? ⟨bi, 1, none⟩ = _ := fun o => (World.cell?_alloc_lt _ _ _ z3).trans b1'
  have S1 := Lib.hid s1
  have hmv := Hmv.out
  have hms := Hms.out
  clear hb1 Hcall q1 q2 b0 b4 s1 p0 p1 f3 f4 b1
  go_upto_region 72 with fail
  go_cut [26] from 373 to 390 (fun s26 wx => ∃ gb gv gs, s26 = .pointer (some ⟨gb, 0, none⟩) ∧ Since (fun _ => False) w1 wx ∧ wx.heap[gb]? = some (.cells #[.int .i64 k, .slice (some ⟨gv, 0, none⟩) nv nv, .slice (some ⟨gs, 0, none⟩) ns ns, .int .i64 0, .int .i64 0, .slice aD i.ds.length cD] 83) ∧
        wx.heap[gv]? = some (.cells (zeros nv) 3) ∧ wx.heap[gs]? = some (.cells (zeros ns) 3) ∧ w1.heap.size ≤ gb ∧ w1.heap.size ≤ gv ∧ w1.heap.size ≤ gs ∧ gv ≠ gs ∧ gb ≠ gv ∧ gb ≠ gs)
  case first =>
    go_region_held3 (fun w' => w'.cell? ⟨bp, 0, none⟩ = some (.slice (some ⟨bF, oF, none⟩) p.funcs.length cF) ∧ w'.cell? ⟨bF, oF + k * 6 + 3, none⟩ = some (.int .i64 nv) ∧ w'.cell? ⟨bF, oF + k * 6 + 4, none⟩ = some (.int .i64 ns) ∧ w'.cell? ⟨bi, 1, none⟩ = some (.slice aD i.ds.length cD)) (go_keep) (fail)
    all_goals (go_wp2_with fail; go_meet)
    all_goals (obtain ⟨k1, k2, k3, k4⟩ := heap3 w1 _ _ _)
    all_goals (first
      | exact ⟨_, _, _, rfl, k4, k1, k2, k3, by omega, by omega, by omega, by omega, by omega, by omega⟩
      | exact ⟨_, _, _, rfl, k4, k1, k3, k2, by omega, by omega, by omega, by omega, by omega, by omega⟩
      | exact ⟨_, _, _, rfl, k4, k2, k1, k3, by omega, by omega, by omega, by omega, by omega, by omega⟩
      | exact ⟨_, _, _, rfl, k4, k2, k3, k1, by omega, by omega, by omega, by omega, by omega, by omega⟩
      | exact ⟨_, _, _, rfl, k4, k3, k1, k2, by omega, by omega, by omega, by omega, by omega, by omega⟩
      | exact ⟨_, _, _, rfl, k4, k3, k2, k1, by omega, by omega, by omega, by omega, by omega, by omega⟩)
  case rest =>
    obtain ⟨gb, gv, gs, rfl, sx, hb, hgv, hgs, l1, l2, l3, n1, n2, n3⟩ := hcut
    have e1 : wc.cell? ⟨gb, 1, none⟩ = some (.slice (some ⟨gv, 0, none⟩) nv nv) := by simp [World.cell?, hb]
    have e2 : wc.cell? ⟨gb, 2, none⟩ = some (.slice (some ⟨gs, 0, none⟩) ns ns) := by simp [World.cell?, hb]
    have sw := S1.out.trans sx
    have hbig := H.out.run.big
    have gbl : gb < wc.heap.size := (Array.getElem?_eq_some_iff.1 hb).1
    have gvl : gv < wc.heap.size := (Array.getElem?_eq_some_iff.1 hgv).1
    have gsl : gs < wc.heap.size := (Array.getElem?_eq_some_iff.1 hgs).1
    have hz1 := S1.out.size
    have Hb := Lib.hid hb
    have HZ := Lib.hid (zeros_row (base := base) hgs (by omega) (by omega) : intRow wc base gs (List.replicate ns 0))
    have HO := Lib.hid (zeros_row (base := base) hgv (by omega) (by omega) : intRow wc base gv (List.replicate nv 0))
    have SW := Lib.hid sw
    have Hrow := Lib.hid H.out.row
    have Hroom := Lib.hid hroom
    clear hb hgv hgs sw sx hmv hms dp d3 d4 d1 q0' f3' f4' b1' S1 Hmv Hms hX1 hX2 h40' h40''
    go_wp2_with fail
    go_loopw [28] (fun s wr => ∃ n : Nat, n ≤ xs.length ∧ s = .int .i64 n ∧ Since (fun k => k = gs) wc wr ∧ intRow wr base gs (xs.take n ++ (List.replicate ns (0 : Int)).drop n)) (fun s _ => xs.length - (intOf s).toNat)
    case atStart => exact ⟨0, Nat.zero_le _, rfl, Since.refl _ _, HZ.out⟩
    case round =>
      obtain ⟨n, hn, rfl, hs1, hR⟩ := hrel
      by_cases hlt : n < xs.length
      · have hlt1 : (n : Int) < xs.length := by omega
        have hn0 : (0 : Int) ≤ n := by omega
        have hnN : (n : Int) < ns := by omega
        obtain ⟨gX, cX', hvX, hX3, -, hXl, hcX0, -⟩ := row_get Hrow.out (i := n) (u := .int .i64 xs[n]) (by simp [hlt])
        obtain rfl : aX = some ⟨gX, 0, none⟩ := (Value.slice.inj hvX).1
        have hXl2 := Nat.lt_of_lt_of_le hXl SW.out.size
        have hcX : wr.cell? ⟨gX, n, none⟩ = some (.int .i64 xs[n]) := (hs1.cell hXl2 (by omega)).trans ((SW.out.cell hXl id).trans hcX0)
        have hLl : (xs.take n ++ (List.replicate ns (0 : Int)).drop n).length = ns := by simp; omega
        obtain ⟨_, _, hvT, -, -, -, hcT, hzT⟩ := row_get hR (i := n) (u := .int .i64 ((xs.take n ++ (List.replicate ns (0 : Int)).drop n)[n]'(by omega))) (by rw [List.getElem?_map, List.getElem?_eq_getElem (by omega)]; rfl)
        obtain ⟨rfl, -⟩ : gs = _ ∧ _ := by simpa using hvT
        have HN := Lib.hid (show (xs.take n ++ (List.replicate ns (0 : Int)).drop n).set n xs[n] = xs.take (n + 1) ++ (List.replicate ns (0 : Int)).drop (n + 1) from fill_step hlt Hroom.out)
        have HR := Lib.hid (row_put hR n (.int .i64 xs[n]))
        have HS := Lib.hid hs1
        generalize (xs.take n ++ (List.replicate ns (0 : Int)).drop n)[n]'(by omega) = old at *
        generalize hLL : xs.take n ++ (List.replicate ns (0 : Int)).drop n = LL at *
        have HLL := Lib.hid hLL
        have HLl := Lib.hid hLl
        clear hR hs1 hvT hvX hcX0 hLl hLL hXl2
        generalize hxn : xs[n] = xn at *
        have Hxn := Lib.hid hxn
        clear hxn
        go_wp2_with fail
        refine ⟨⟨n + 1, by omega, by simp, ?_, ?_⟩, by simp only [intOf]; omega⟩
        · exact HS.out.trans (Since.setCell wr ⟨gs, n, none⟩ (.int .i64 xn))
        · have := HR.out
          rw [← HN.out]
          have e3 : (LL.set n xn).length = LL.length := by simp
          unfold intRow
          rw [e3, List.map_set]
          exact this
      · have hne : n = xs.length := by omega
        subst hne
        have hlt1 : ¬ ((xs.length : Int) < xs.length) := by omega
        rw [List.take_length] at hR
        have swr : Since (fun _ => False) w wr := SW.out.then_new hs1 (fun k e => Or.inr (by have := SW.out.size; rw [e]; omega))
        have hO := hs1.row HO.out (fun k hk e => by simp [Value.ownBlock] at hk; omega)
        have hbw : wr.heap[gb]? = _ := (hs1.block gb gbl (by omega)).trans Hb.out
        have b0 : wr.cell? ⟨gb, 0, none⟩ = some (.int .i64 k) := by simp [World.cell?, hbw]
        have b1 : wr.cell? ⟨gb, 1, none⟩ = some (.slice (some ⟨gv, 0, none⟩) nv nv) := by simp [World.cell?, hbw]
        have b2 : wr.cell? ⟨gb, 2, none⟩ = some (.slice (some ⟨gs, 0, none⟩) ns ns) := by simp [World.cell?, hbw]
        have b3 : wr.cell? ⟨gb, 3, none⟩ = some (.int .i64 0) := by simp [World.cell?, hbw]
        have b4 : wr.cell? ⟨gb, 4, none⟩ = some (.int .i64 0) := by simp [World.cell?, hbw]
        have b5 : wr.cell? ⟨gb, 5, none⟩ = some (.slice aD i.ds.length cD) := by simp [World.cell?, hbw]
        have hrun := H.out.run.since swr
        have hrow := hrun.row
        have hd1 := Good.kept (swr.keep.weaken (fun k _ _ e => e.elim)) H.out.i1
        have hbg := hrun.big
        have HRow := Lib.hid hR
        have HOr := Lib.hid hO
        have Hrun := Lib.hid hrun
        have HD1 := Lib.hid hd1
        have SWR := Lib.hid swr
        obtain ⟨iL, hiL, hL0, hL1, hL2⟩ := info_parts info_level
        clear hR hO hrun hd1 hs1 hbw swr hlt hn
        have hnews : levCells ⟨k, List.replicate nv (0 : Int), xs ++ (List.replicate ns (0 : Int)).drop xs.length, 0, 0, i.ds⟩ ⟨gv, gs, .slice aD i.ds.length cD⟩ = [.int .i64 k, .slice (some ⟨gv, 0, none⟩) nv nv, .slice (some ⟨gs, 0, none⟩) ns ns, .int .i64 0, .int .i64 0, .slice aD i.ds.length cD] := by
          have := Hroom.out
          simp [levCells]
          try omega
        have Hnews := Lib.hid hnews
        clear hnews
        go_wp2_with (at_builtin; refine wpList_append_own_at _ rfl _ _ 84 rfl base 83 iL zeroLev 6 96 info_levels hiL hL0 hL1 hL2 rfl (by decide) _ _ _ rfl (hrow.alloc _) ⟨wr.heap.size, 0, none⟩ 1 1 [.int .i64 k, .slice (some ⟨gv, 0, none⟩) nv nv, .slice (some ⟨gs, 0, none⟩) ns ns, .int .i64 0, .int .i64 0, .slice aD i.ds.length cD] rfl rfl (cells_new _ _ _) (by intro u hu; simp at hu; rcases hu with rfl | rfl | rfl | rfl | rfl <;> rfl) (by unfold maxLen; simp only [List.length_cons]; omega) (by simp only [List.length_cons]; omega) (by simp; omega) ?_)
        intro v' w2 hown hgrow _ hloc
        obtain ⟨ρ2, hq⟩ := H.out.run.push (f := ⟨k, List.replicate nv (0 : Int), xs ++ (List.replicate ns (0 : Int)).drop xs.length, 0, 0, i.ds⟩) (a := ⟨gv, gs, .slice aD i.ds.length cD⟩) SWR.out hgrow (by rw [Hnews.out]; exact hown) hloc HOr.out HRow.out (Nat.le_trans hz1 l2) (Nat.le_trans hz1 l3) n1 HD1.out
        have Hq := Lib.hid hq
        clear hq hown hgrow hloc hrow
        go_wp2_with fail
        exact HQ.out _ _ ⟨⟨rfl, rfl, rfl, rfl, rfl, rfl⟩, rfl, rfl, ρ2, vW, vL, _, Hq.out, rfl⟩
end Go.Proofs.Ytaomlfbcfmmhlaa

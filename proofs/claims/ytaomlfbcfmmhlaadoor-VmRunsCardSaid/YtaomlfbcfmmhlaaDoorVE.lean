/-
  Texts joined: RanArm11 RanArm12 RanStep RanLoop.
-/
import Derived.Test.YtaomlfbcfmmhlaaDoorVC
import Derived.Test.YtaomlfbcfmmhlaaDoorVD

/-
  ref.ranOf: arms of the switch: a return (printed by wip/gen_arms11.py).
-/
namespace Go.Proofs.YtaomlfbcfmmhlaaDoor
open Go.RowKit Go.Pst
set_option linter.unusedVariables false
set_option linter.unusedSimpArgs false
theorem putAll_snoc : ∀ (l ds vs : List Int) (n : Nat) (h1 : n < ds.length) (h2 : n < vs.length), putAll l (ds.take (n + 1)) (vs.take (n + 1)) = (putAll l (ds.take n) (vs.take n)).set (ds[n]).toNat vs[n]
  | l, d :: ds, v :: vs, 0, _, _ => by simp [putAll]
  | l, d :: ds, v :: vs, n + 1, h1, h2 => by
    simp only [List.take_succ_cons, List.getElem_cons_succ]
    exact putAll_snoc (l.set d.toNat v) ds vs n (by simpa using h1) (by simpa using h2)
theorem wants_shape {ρ : Nat → Option Lab} {w : World} {base i : Nat} {f : Lev} {a : LA} (h : LevAt ρ w base i f a) : ∃ aW cW, a.vw = .slice aW f.want.length cW ∧ ∀ j (hj : j < f.want.length), ∃ b o, aW = some ⟨b, o, none⟩ ∧ b < base ∧ b < w.heap.size ∧ w.cell? ⟨b, o + j, none⟩ = some (.int .i64 f.want[j]) := by
  obtain ⟨aW, cW, hv, -, -, hh⟩ := rInts_val h.want
  refine ⟨aW, cW, hv, fun j hj => ?_⟩
  obtain ⟨b, o, h1, h2, h3, h4, -⟩ := hh j hj
  exact ⟨b, o, h1, h2, h3, h4⟩

variable [Old]
set_option maxRecDepth 100000 in
set_option maxHeartbeats 4000000 in
theorem arm_back0 (Q : Exit → Act → World → Prop) (ρ : Nat → Option Lab) (t : Array Value) (w : World) (fuel : Int) (m : Bool) (base bp br bs bi g cap : Nat) (s13 v0 v1 vW vL u1 u2 u5 vX : Value) (p : PProg) (limit : Int) (words : List Int) (lines : List ByteArray) (f : Lev) (a : LA) (r : List (Lev × LA)) (i : PInstr) (xs : List Int)
    (h : PreArm ρ t w fuel m base bp br bs bi g cap s13 v0 v1 vW vL u1 u2 u5 p limit words lines f a r i vX xs) (hi : i = instrAt p f) (hx : xs = argsF m f i) (e : i.op = 12) (hr : r = [])
    (HQ : Hid (∀ t' w', StepPost t' w' fuel m base bp br bs s13 v0 v1 p limit (stepF p m limit (stateOf words lines ((f, a) :: r))) → Q .normal ⟨t', []⟩ w')) :
    ranS25.wp Tryd.prog Q ⟨t, []⟩ w := by
  subst hr
  have hst : stepF p m limit (stateOf words lines ((f, a) :: [])) = (1, ⟨words, lines, []⟩) := by
    unfold stepF stateOf
    simp only [List.map_cons, List.map_nil, ← hi, ← hx, e]
    rfl
  rw [hst] at HQ
  obtain ⟨g', cap', hv, hcap, -, hgl, hcell⟩ := h.run.get
  obtain ⟨rfl, rfl⟩ : g = g' ∧ cap = cap' := by simpa using hv
  obtain ⟨aW, cW, hvw, -⟩ := wants_shape h.run.levs.1
  have q5 : w.cell? ⟨g, 5, none⟩ = some (.slice aW f.want.length cW) := by have := (hcell 5 _ rfl).1; rw [hvw] at this; simpa using this
  have hbl : bi < w.heap.size := (Array.getElem?_eq_some_iff.1 h.box).1
  have hb0 : w.cell? ⟨bi, 0, none⟩ = some (.int .i64 12) := by simp [World.cell?, h.box, e]
  have hcap1 : (1 : Nat) ≤ cap := by simpa using hcap
  have h11 : slotOf t 11 = .slice (some ⟨g, 0, none⟩) 1 cap := by simpa using h.s11
  have h14 : slotOf t 14 = .pointer (some ⟨g, 0, none⟩) := by simpa using h.s14
  have H := Lib.hid h
  unfold ranS25
  conv => arg 2; whnf
  rw [frame473 t h.frame.size, h.frame.s2, h.frame.s3, h.frame.s4, h.frame.s8, h.frame.s9, h11, h.s12, h14, h.s15, h.s17]
  have h13 := h.s13
  subst h13
  clear h hcell hv hx hst e hi hvw h11 h14 hcap
  go_wp2_with fail
  exact HQ.out _ _ ⟨⟨rfl, rfl, rfl, rfl, rfl, rfl⟩, rfl, rfl, ρ, vW, vL, [], H.out.run.pop, rfl⟩

set_option maxRecDepth 100000 in
set_option maxHeartbeats 4000000 in
theorem arm_back_false (Q : Exit → Act → World → Prop) (ρ : Nat → Option Lab) (t : Array Value) (w : World) (fuel : Int) (base bp br bs bi g cap : Nat) (s13 v0 v1 vW vL u1 u2 u5 vX : Value) (p : PProg) (limit : Int) (words : List Int) (lines : List ByteArray) (f : Lev) (a : LA) (r : List (Lev × LA)) (i : PInstr) (xs : List Int)
    (h : PreArm ρ t w fuel false base bp br bs bi g cap s13 v0 v1 vW vL u1 u2 u5 p limit words lines f a r i vX xs) (hi : i = instrAt p f) (hx : xs = argsF false f i) (e : i.op = 12) (f1 : Lev) (a1 : LA) (r' : List (Lev × LA)) (hr : r = (f1, a1) :: r') (hwl : f.want.length = xs.length) (hwl2 : xs.length ≤ 40000) (hlen : r'.length ≤ 100000) (hwi : Ins f.want f1.vars.length)
    (HQ : Hid (∀ t' w', StepPost t' w' fuel false base bp br bs s13 v0 v1 p limit (stepF p false limit (stateOf words lines ((f, a) :: r))) → Q .normal ⟨t', []⟩ w')) :
    ranS25.wp Tryd.prog Q ⟨t, []⟩ w := by
  subst hr
  have hst : stepF p false limit (stateOf words lines ((f, a) :: (f1, a1) :: r')) = (0, ⟨words, lines, { f1 with vars := putAll f1.vars f.want xs } :: r'.map (·.1)⟩) := by
    unfold stepF stateOf
    simp only [List.map_cons, ← hi, ← hx, e]
    rfl
  rw [hst] at HQ
  obtain ⟨g', cap', hv, hcap, -, hgl, hcell⟩ := h.run.get
  obtain ⟨rfl, rfl⟩ : g = g' ∧ cap = cap' := by simpa using hv
  obtain ⟨aW, cW, hvw, hW⟩ := wants_shape h.run.levs.1
  have q5 : w.cell? ⟨g, (r'.length + 1) * 6 + 5, none⟩ = some (.slice aW f.want.length cW) := by have := (hcell 5 _ rfl).1; rw [hvw] at this; simpa using this
  have hb0 : w.cell? ⟨bi, 0, none⟩ = some (.int .i64 12) := by simp [World.cell?, h.box, e]
  have hpop := h.run.pop
  obtain ⟨g2, cap2, hv2, -, -, -, hcell2⟩ := hpop.get
  obtain ⟨rfl, rfl⟩ : g = g2 ∧ cap = cap2 := by simpa using hv2
  have p1 : w.cell? ⟨g, r'.length * 6 + 1, none⟩ = some (.slice (some ⟨a1.gv, 0, none⟩) f1.vars.length f1.vars.length) := (hcell2 1 _ rfl).1
  have p2 : w.cell? ⟨g, r'.length * 6 + 2, none⟩ = some (.slice (some ⟨a1.gs, 0, none⟩) f1.slots.length f1.slots.length) := (hcell2 2 _ rfl).1
  have hcap1 : r'.length + 1 + 1 ≤ cap := by simpa using hcap
  have h11 : slotOf t 11 = .slice (some ⟨g, 0, none⟩) (r'.length + 1 + 1) cap := by simpa using h.s11
  have h14 : slotOf t 14 = .pointer (some ⟨g, (r'.length + 1) * 6, none⟩) := by simpa using h.s14
  obtain ⟨aX, cX, rfl, hX1, hX2⟩ := row_slice h.row
  have hrow := h.row
  have hnx := h.nx
  have H := Lib.hid h
  have HP := Lib.hid hpop
  unfold ranS25
  conv => arg 2; whnf
  rw [frame473 t h.frame.size, h.frame.s2, h.frame.s3, h.frame.s4, h.frame.s8, h.frame.s9, h11, h.s12, h14, h.s15, h.s17]
  have h13 := h.s13
  subst h13
  have Hrow := Lib.hid hrow
  have Hnx := Lib.hid hnx
  have HW := Lib.hid hW
  have Hwl := Lib.hid hwl
  have Hwi := Lib.hid hwi
  have hr0 := h.run.big
  rw [hwl] at q5
  have hcr : r'.length ≤ 100000 := hlen
  clear h hcell hv hx hst e hi hvw h11 h14 hcap hpop hv2 hcell2 hrow hnx hW hwl hwi
  go_upto_region 90 with fail
  go_loopw [31] (fun s wr => ∃ n : Nat, n ≤ xs.length ∧ s = .int .i64 n ∧ Since (fun k => k = a1.gv) w wr ∧ RunAt ρ wr base bp br bs v0 v1 vW vL (.slice (some ⟨g, 0, none⟩) (r'.length + 1) cap) p limit words lines (({ f1 with vars := putAll f1.vars (f.want.take n) (xs.take n) }, a1) :: r')) (fun s _ => xs.length - (intOf s).toNat)
  case atStart => exact ⟨0, Nat.zero_le _, rfl, Since.refl _ _, HP.out⟩
  case round =>
    obtain ⟨n, hn, rfl, hs1, hR⟩ := hrel
    by_cases hlt : n < xs.length
    · have hlt1 : (n : Int) < xs.length := by omega
      have hn0 : (0 : Int) ≤ n := by omega
      have hltW : n < f.want.length := by rw [Hwl.out]; exact hlt
      obtain ⟨bW, oW, rfl, hbW, hbWl, hcW0⟩ := HW.out n hltW
      have hin := Hwi.out _ (List.getElem_mem hltW)
      obtain ⟨d, hd⟩ := Int.eq_ofNat_of_zero_le hin.1
      have hdl : d < f1.vars.length := by omega
      have hdl1 : (d : Int) < f1.vars.length := by omega
      have hd0 : (0 : Int) ≤ d := by omega
      have hgb : base ≤ a1.gv := (hR.levs.1.vars.lt _ rfl).1
      have nW : ¬ bW = a1.gv := by omega
      rw [hd] at hcW0
      have hcW : wr.cell? ⟨bW, oW + n, none⟩ = some (.int .i64 d) := (hs1.cell hbWl nW).trans hcW0
      obtain ⟨gX, cX', hvX, hX3, -, hXl, hcX0, -⟩ := row_get Hrow.out (i := n) (u := .int .i64 xs[n]) (by simp [hlt])
      obtain rfl : aX = some ⟨gX, 0, none⟩ := (Value.slice.inj hvX).1
      have hXn := Hnx.out gX rfl
      have nX : ¬ gX = a1.gv := fun e => by have h1 := hXn.1; rw [e, hR.levs.1.lv] at h1; simp at h1
      have hcX : wr.cell? ⟨gX, n, none⟩ = some (.int .i64 xs[n]) := (hs1.cell hXl nX).trans hcX0
      have hpl : (putAll f1.vars (f.want.take n) (xs.take n)).length = f1.vars.length := putAll_length _ _ _
      obtain ⟨_, _, hvT, -, -, -, hcT, hzT⟩ := row_get hR.levs.1.vars (i := d) (u := .int .i64 ((putAll f1.vars (f.want.take n) (xs.take n))[d]'(by omega))) (by simp [hpl, hdl])
      obtain ⟨rfl, -⟩ : a1.gv = _ ∧ _ := by simpa using hvT
      have hk : ∀ b o u, ¬ b = a1.gv → (wr.setCell ⟨a1.gv, d, none⟩ u).cell? ⟨b, o, none⟩ = wr.cell? ⟨b, o, none⟩ := fun b o u hb => World.cell?_of_block (w := wr) (Below.heap_setCell _ _ _ _ hb)
      have k0 := fun u => (hk bW (oW + n) u nW).trans hcW
      have k1 := fun u => (hk gX n u nX).trans hcX
      have HN := Lib.hid (show ({ f1 with vars := (putAll f1.vars (f.want.take n) (xs.take n)).set d xs[n] } : Lev) = { f1 with vars := putAll f1.vars (f.want.take (n + 1)) (xs.take (n + 1)) } by rw [putAll_snoc _ _ _ _ hltW hlt, hd]; rfl)
      have HR := Lib.hid (hR.setV d xs[n])
      have HS := Lib.hid hs1
      generalize (putAll f1.vars (f.want.take n) (xs.take n))[d] = old at *
      clear hR hs1 hk hvT hpl hXn hvX hcX0 hcW0 hin hd nW nX
      generalize hxn : xs[n] = xn at *
      go_upto_region 92 with fail
      go_region_held3 (fun w' => w'.cell? ⟨bW, oW + n, none⟩ = some (.int .i64 d) ∧ w'.cell? ⟨gX, n, none⟩ = some (.int .i64 xn)) (go_keep) (fail)
      all_goals go_wp2_with fail
      refine ⟨⟨n + 1, by omega, by simp, ?_, ?_⟩, by simp only [intOf]; omega⟩
      · exact (HS.out.trans (Since.setCell wr ⟨a1.gv, d, none⟩ (.int .i64 xn))).trans (Since.drew _ _)
      · rw [← HN.out]
        exact HR.out.since (Since.drew _ _)
    · have hne : n = xs.length := by omega
      subst hne
      have hlt1 : ¬ ((xs.length : Int) < xs.length) := by omega
      have HR := Lib.hid hR
      have HE := Lib.hid (show putAll f1.vars (f.want.take xs.length) (xs.take xs.length) = putAll f1.vars f.want xs by rw [List.take_length, ← Hwl.out, List.take_length])
      clear hR hs1 hlt
      go_wp2_with fail
      refine HQ.out _ _ ⟨⟨rfl, rfl, rfl, rfl, rfl, rfl⟩, rfl, rfl, ρ, vW, vL, _, HR.out, ?_⟩
      rw [HE.out]
      rfl

set_option maxRecDepth 100000 in
set_option maxHeartbeats 4000000 in
theorem arm_back_true (Q : Exit → Act → World → Prop) (ρ : Nat → Option Lab) (t : Array Value) (w : World) (fuel : Int) (base bp br bs bi g cap : Nat) (s13 v0 v1 vW vL u1 u2 u5 vX : Value) (p : PProg) (limit : Int) (words : List Int) (lines : List ByteArray) (f : Lev) (a : LA) (r : List (Lev × LA)) (i : PInstr) (xs : List Int)
    (h : PreArm ρ t w fuel true base bp br bs bi g cap s13 v0 v1 vW vL u1 u2 u5 p limit words lines f a r i vX xs) (hi : i = instrAt p f) (hx : xs = argsF true f i) (e : i.op = 12) (f1 : Lev) (a1 : LA) (r' : List (Lev × LA)) (hr : r = (f1, a1) :: r') (hwl : f.want.length = xs.length) (hwl2 : xs.length ≤ 40000) (hlen : r'.length ≤ 100000) (hwi : Ins f.want f1.slots.length)
    (HQ : Hid (∀ t' w', StepPost t' w' fuel true base bp br bs s13 v0 v1 p limit (stepF p true limit (stateOf words lines ((f, a) :: r))) → Q .normal ⟨t', []⟩ w')) :
    ranS25.wp Tryd.prog Q ⟨t, []⟩ w := by
  subst hr
  have hst : stepF p true limit (stateOf words lines ((f, a) :: (f1, a1) :: r')) = (0, ⟨words, lines, { f1 with slots := putAll f1.slots f.want xs } :: r'.map (·.1)⟩) := by
    unfold stepF stateOf
    simp only [List.map_cons, ← hi, ← hx, e]
    rfl
  rw [hst] at HQ
  obtain ⟨g', cap', hv, hcap, -, hgl, hcell⟩ := h.run.get
  obtain ⟨rfl, rfl⟩ : g = g' ∧ cap = cap' := by simpa using hv
  obtain ⟨aW, cW, hvw, hW⟩ := wants_shape h.run.levs.1
  have q5 : w.cell? ⟨g, (r'.length + 1) * 6 + 5, none⟩ = some (.slice aW f.want.length cW) := by have := (hcell 5 _ rfl).1; rw [hvw] at this; simpa using this
  have hb0 : w.cell? ⟨bi, 0, none⟩ = some (.int .i64 12) := by simp [World.cell?, h.box, e]
  have hpop := h.run.pop
  obtain ⟨g2, cap2, hv2, -, -, -, hcell2⟩ := hpop.get
  obtain ⟨rfl, rfl⟩ : g = g2 ∧ cap = cap2 := by simpa using hv2
  have p1 : w.cell? ⟨g, r'.length * 6 + 1, none⟩ = some (.slice (some ⟨a1.gv, 0, none⟩) f1.vars.length f1.vars.length) := (hcell2 1 _ rfl).1
  have p2 : w.cell? ⟨g, r'.length * 6 + 2, none⟩ = some (.slice (some ⟨a1.gs, 0, none⟩) f1.slots.length f1.slots.length) := (hcell2 2 _ rfl).1
  have hcap1 : r'.length + 1 + 1 ≤ cap := by simpa using hcap
  have h11 : slotOf t 11 = .slice (some ⟨g, 0, none⟩) (r'.length + 1 + 1) cap := by simpa using h.s11
  have h14 : slotOf t 14 = .pointer (some ⟨g, (r'.length + 1) * 6, none⟩) := by simpa using h.s14
  obtain ⟨aX, cX, rfl, hX1, hX2⟩ := row_slice h.row
  have hrow := h.row
  have hnx := h.nx
  have H := Lib.hid h
  have HP := Lib.hid hpop
  unfold ranS25
  conv => arg 2; whnf
  rw [frame473 t h.frame.size, h.frame.s2, h.frame.s3, h.frame.s4, h.frame.s8, h.frame.s9, h11, h.s12, h14, h.s15, h.s17]
  have h13 := h.s13
  subst h13
  have Hrow := Lib.hid hrow
  have Hnx := Lib.hid hnx
  have HW := Lib.hid hW
  have Hwl := Lib.hid hwl
  have Hwi := Lib.hid hwi
  have hr0 := h.run.big
  rw [hwl] at q5
  have hcr : r'.length ≤ 100000 := hlen
  clear h hcell hv hx hst e hi hvw h11 h14 hcap hpop hv2 hcell2 hrow hnx hW hwl hwi
  go_upto_region 90 with fail
  go_loopw [31] (fun s wr => ∃ n : Nat, n ≤ xs.length ∧ s = .int .i64 n ∧ Since (fun k => k = a1.gs) w wr ∧ RunAt ρ wr base bp br bs v0 v1 vW vL (.slice (some ⟨g, 0, none⟩) (r'.length + 1) cap) p limit words lines (({ f1 with slots := putAll f1.slots (f.want.take n) (xs.take n) }, a1) :: r')) (fun s _ => xs.length - (intOf s).toNat)
  case atStart => exact ⟨0, Nat.zero_le _, rfl, Since.refl _ _, HP.out⟩
  case round =>
    obtain ⟨n, hn, rfl, hs1, hR⟩ := hrel
    by_cases hlt : n < xs.length
    · have hlt1 : (n : Int) < xs.length := by omega
      have hn0 : (0 : Int) ≤ n := by omega
      have hltW : n < f.want.length := by rw [Hwl.out]; exact hlt
      obtain ⟨bW, oW, rfl, hbW, hbWl, hcW0⟩ := HW.out n hltW
      have hin := Hwi.out _ (List.getElem_mem hltW)
      obtain ⟨d, hd⟩ := Int.eq_ofNat_of_zero_le hin.1
      have hdl : d < f1.slots.length := by omega
      have hdl1 : (d : Int) < f1.slots.length := by omega
      have hd0 : (0 : Int) ≤ d := by omega
      have hgb : base ≤ a1.gs := (hR.levs.1.slots.lt _ rfl).1
      have nW : ¬ bW = a1.gs := by omega
      rw [hd] at hcW0
      have hcW : wr.cell? ⟨bW, oW + n, none⟩ = some (.int .i64 d) := (hs1.cell hbWl nW).trans hcW0
      obtain ⟨gX, cX', hvX, hX3, -, hXl, hcX0, -⟩ := row_get Hrow.out (i := n) (u := .int .i64 xs[n]) (by simp [hlt])
      obtain rfl : aX = some ⟨gX, 0, none⟩ := (Value.slice.inj hvX).1
      have hXn := Hnx.out gX rfl
      have nX : ¬ gX = a1.gs := fun e => by have h1 := hXn.1; rw [e, hR.levs.1.lt] at h1; simp at h1
      have hcX : wr.cell? ⟨gX, n, none⟩ = some (.int .i64 xs[n]) := (hs1.cell hXl nX).trans hcX0
      have hpl : (putAll f1.slots (f.want.take n) (xs.take n)).length = f1.slots.length := putAll_length _ _ _
      obtain ⟨_, _, hvT, -, -, -, hcT, hzT⟩ := row_get hR.levs.1.slots (i := d) (u := .int .i64 ((putAll f1.slots (f.want.take n) (xs.take n))[d]'(by omega))) (by simp [hpl, hdl])
      obtain ⟨rfl, -⟩ : a1.gs = _ ∧ _ := by simpa using hvT
      have hk : ∀ b o u, ¬ b = a1.gs → (wr.setCell ⟨a1.gs, d, none⟩ u).cell? ⟨b, o, none⟩ = wr.cell? ⟨b, o, none⟩ := fun b o u hb => World.cell?_of_block (w := wr) (Below.heap_setCell _ _ _ _ hb)
      have k0 := fun u => (hk bW (oW + n) u nW).trans hcW
      have k1 := fun u => (hk gX n u nX).trans hcX
      have HN := Lib.hid (show ({ f1 with slots := (putAll f1.slots (f.want.take n) (xs.take n)).set d xs[n] } : Lev) = { f1 with slots := putAll f1.slots (f.want.take (n + 1)) (xs.take (n + 1)) } by rw [putAll_snoc _ _ _ _ hltW hlt, hd]; rfl)
      have HR := Lib.hid (hR.setS d xs[n])
      have HS := Lib.hid hs1
      generalize (putAll f1.slots (f.want.take n) (xs.take n))[d] = old at *
      clear hR hs1 hk hvT hpl hXn hvX hcX0 hcW0 hin hd nW nX
      generalize hxn : xs[n] = xn at *
      go_upto_region 92 with fail
      go_region_held3 (fun w' => w'.cell? ⟨bW, oW + n, none⟩ = some (.int .i64 d) ∧ w'.cell? ⟨gX, n, none⟩ = some (.int .i64 xn)) (go_keep) (fail)
      all_goals go_wp2_with fail
      refine ⟨⟨n + 1, by omega, by simp, ?_, ?_⟩, by simp only [intOf]; omega⟩
      · exact (HS.out.trans (Since.setCell wr ⟨a1.gs, d, none⟩ (.int .i64 xn))).trans (Since.drew _ _)
      · rw [← HN.out]
        exact HR.out.since (Since.drew _ _)
    · have hne : n = xs.length := by omega
      subst hne
      have hlt1 : ¬ ((xs.length : Int) < xs.length) := by omega
      have HR := Lib.hid hR
      have HE := Lib.hid (show putAll f1.slots (f.want.take xs.length) (xs.take xs.length) = putAll f1.slots f.want xs by rw [List.take_length, ← Hwl.out, List.take_length])
      clear hR hs1 hlt
      go_wp2_with fail
      refine HQ.out _ _ ⟨⟨rfl, rfl, rfl, rfl, rfl, rfl⟩, rfl, rfl, ρ, vW, vL, _, HR.out, ?_⟩
      rw [HE.out]
      rfl

end Go.Proofs.YtaomlfbcfmmhlaaDoor

/-
  ref.ranOf: arms of the switch: a call (printed by wip/gen_arms12.py).
-/
namespace Go.Proofs.YtaomlfbcfmmhlaaDoor
open Go.RowKit Go.Pst
set_option linter.unusedVariables false
set_option linter.unusedSimpArgs false
abbrev zeroLev : Value := .agg #[.int .i64 0, .slice none 0 0, .slice none 0 0, .int .i64 0, .int .i64 0, .slice none 0 0]
theorem info_level : (Tryd.prog.info? 164).map (fun i => (i.zero, i.size, i.bytes)) = some (some zeroLev, 6, 96) := by kernel_rfl
theorem info_levels : Tryd.prog.underlying 165 = some (.slice 164) := Tryd.underlying165
/-- The code of a function, in memory. -/
theorem code_mem {base : Nat} {w : World} {v0 v1 : Value} {p : PProg} {k : Nat} (h : rProg (· < base) w [v0, v1] p) (hk : k < p.funcs.length) : ∃ bF oF cF, v0 = .slice (some ⟨bF, oF, none⟩) p.funcs.length cF ∧ bF < base ∧ bF < w.heap.size ∧
      w.cell? ⟨bF, oF + k * 6 + 3, none⟩ = some (.int .i64 (codeAt p k).vars) ∧ w.cell? ⟨bF, oF + k * 6 + 4, none⟩ = some (.int .i64 (codeAt p k).slots) := by
  obtain ⟨u, u', hv, hc, -⟩ := h
  obtain ⟨rfl, rfl⟩ : v0 = u ∧ v1 = u' := by simpa using hv
  obtain ⟨aF, cF, rfl, -, -, h⟩ := rCodes_val hc
  obtain ⟨bF, oF, v5, rfl, hS, hbl, -, -, -, c3, c4, -, -, -⟩ := h k hk
  rw [← codeAt_eq hk] at c3 c4
  exact ⟨bF, oF, cF, rfl, hS, hbl, c3, c4⟩
theorem cells_new (w : World) (l : List Value) (t : TypeId) : ∀ j u, l[j]? = some u → (w.alloc (.cells l.toArray t)).cell? ((⟨w.heap.size, 0, none⟩ : Addr).add j) = some u := by
  intro j u hj
  have : ((⟨w.heap.size, 0, none⟩ : Addr).add j) = ⟨w.heap.size, j, none⟩ := by by_cases h : j = 0 <;> simp [Addr.add, h]
  rw [this, World.cell?_alloc_new]
  simpa using hj
theorem fill_step {xs : List Int} {n N : Nat} (h1 : n < xs.length) (h2 : xs.length ≤ N) : (xs.take n ++ (List.replicate N (0 : Int)).drop n).set n xs[n] = xs.take (n + 1) ++ (List.replicate N (0 : Int)).drop (n + 1) := by
  have hl : (xs.take n).length = n := by simp; omega
  rw [List.set_append_right _ _ (by omega), hl, Nat.sub_self, List.drop_eq_getElem_cons (by simp; omega), List.set_cons_zero, List.take_succ_eq_append_getElem h1]
  simp only [List.append_assoc, List.cons_append, List.nil_append]

variable [Old]
set_option maxRecDepth 100000 in
set_option maxHeartbeats 4000000 in
theorem arm_invoke0 (Q : Exit → Act → World → Prop) (ρ : Nat → Option Lab) (t : Array Value) (w : World) (fuel : Int) (m : Bool) (base bp br bs bi g cap : Nat) (s13 v0 v1 vW vL u1 u2 u5 vX : Value) (p : PProg) (limit : Int) (words : List Int) (lines : List ByteArray) (f : Lev) (a : LA) (r : List (Lev × LA)) (i : PInstr) (xs : List Int)
    (h : PreArm ρ t w fuel m base bp br bs bi g cap s13 v0 v1 vW vL u1 u2 u5 p limit words lines f a r i vX xs) (hi : i = instrAt p f) (hx : xs = argsF m f i) (e : i.op = 7) (h40 : 40 ≤ r.length + 1) (hrl : r.length ≤ 100000)
    (HQ : Hid (∀ t' w', StepPost t' w' fuel m base bp br bs s13 v0 v1 p limit (stepF p m limit (stateOf words lines ((f, a) :: r))) → Q .normal ⟨t', []⟩ w')) :
    ranS25.wp Tryd.prog Q ⟨t, []⟩ w := by
  have hst : stepF p m limit (stateOf words lines ((f, a) :: r)) = (4, ⟨words, lines, { f with at_ := f.at_ + 1 } :: r.map (·.1)⟩) := by
    unfold stepF stateOf
    simp only [List.map_cons, ← hi, ← hx, e]
    show (if 40 ≤ (((f, a) :: r).map (·.1)).length then _ else _) = _
    rw [if_pos (by simpa using h40)]
  rw [hst] at HQ
  obtain ⟨g', cap', hv, -, -, hgl, hcell⟩ := h.run.get
  obtain ⟨rfl, -⟩ : g = g' ∧ cap = cap' := by simpa using hv
  have q1 : w.cell? ⟨g, r.length * 6 + 1, none⟩ = some (.slice (some ⟨a.gv, 0, none⟩) f.vars.length f.vars.length) := (hcell 1 _ rfl).1
  have q2 : w.cell? ⟨g, r.length * 6 + 2, none⟩ = some (.slice (some ⟨a.gs, 0, none⟩) f.slots.length f.slots.length) := (hcell 2 _ rfl).1
  have hbl : bi < w.heap.size := (Array.getElem?_eq_some_iff.1 h.box).1
  have b0 : w.cell? ⟨bi, 0, none⟩ = some (.int .i64 7) := by simp [World.cell?, h.box, e]
  have H := Lib.hid h
  unfold ranS25
  conv => arg 2; whnf
  rw [frame473 t h.frame.size, h.frame.s2, h.frame.s3, h.frame.s4, h.frame.s8, h.frame.s9, h.s11, h.s12, h.s14, h.s15, h.s17]
  have h13 := h.s13
  subst h13
  have h40' : decide (((r.length + 1 : Nat) : Int) ≥ 40) = true := decide_eq_true (by omega)
  have h40'' : decide (((r.length : Nat) : Int) + 1 ≥ 40) = true := decide_eq_true (by omega)
  clear h hcell hv hx hst e hi
  go_wp2_with fail
  exact HQ.out _ _ ⟨⟨rfl, rfl, rfl, rfl, rfl, rfl⟩, rfl, rfl, ρ, vW, vL, _, H.out.run, by simp⟩

set_option maxRecDepth 100000 in
set_option maxHeartbeats 4000000 in
theorem arm_invoke_false (Q : Exit → Act → World → Prop) (ρ : Nat → Option Lab) (t : Array Value) (w : World) (fuel : Int) (base bp br bs bi g cap : Nat) (s13 v0 v1 vW vL u1 u2 u5 vX : Value) (p : PProg) (limit : Int) (words : List Int) (lines : List ByteArray) (f : Lev) (a : LA) (r : List (Lev × LA)) (i : PInstr) (xs : List Int)
    (h : PreArm ρ t w fuel false base bp br bs bi g cap s13 v0 v1 vW vL u1 u2 u5 p limit words lines f a r i vX xs) (hi : i = instrAt p f) (hx : xs = argsF false f i) (e : i.op = 7) (k nv ns : Nat) (hnm : nameAt i.s p.funcs = k) (hkl : k < p.funcs.length) (hfl : p.funcs.length ≤ 40) (hcv : (codeAt p k).vars = nv) (hcs : (codeAt p k).slots = ns) (hroom : xs.length ≤ nv) (hnv : nv ≤ 3000) (hns : ns ≤ 3000) (h40 : r.length + 1 < 40)
    (HQ : Hid (∀ t' w', StepPost t' w' fuel false base bp br bs s13 v0 v1 p limit (stepF p false limit (stateOf words lines ((f, a) :: r))) → Q .normal ⟨t', []⟩ w')) :
    ranS25.wp Tryd.prog Q ⟨t, []⟩ w := by
  have hst : stepF p false limit (stateOf words lines ((f, a) :: r)) = (0, ⟨words, lines, ⟨k, xs ++ (List.replicate nv (0 : Int)).drop xs.length, List.replicate ns (0 : Int), 0, 0, i.ds⟩ :: { f with at_ := f.at_ + 1 } :: r.map (·.1)⟩) := by
    unfold stepF stateOf
    simp only [List.map_cons, ← hi, ← hx, e]
    show (if 40 ≤ (((f, a) :: r).map (·.1)).length then _ else (0, (⟨words, lines, newLev p false (nameAt i.s p.funcs).toNat xs i.ds :: _⟩ : Mach))) = _
    rw [if_neg (by simp; omega), hnm]
    simp [newLev, hcv, hcs]
  rw [hst] at HQ
  obtain ⟨g', cap', hv, -, -, hgl, hcell⟩ := h.run.get
  obtain ⟨rfl, -⟩ : g = g' ∧ cap = cap' := by simpa using hv
  have q1 : w.cell? ⟨g, r.length * 6 + 1, none⟩ = some (.slice (some ⟨a.gv, 0, none⟩) f.vars.length f.vars.length) := (hcell 1 _ rfl).1
  have q2 : w.cell? ⟨g, r.length * 6 + 2, none⟩ = some (.slice (some ⟨a.gs, 0, none⟩) f.slots.length f.slots.length) := (hcell 2 _ rfl).1
  have hbl : bi < w.heap.size := (Array.getElem?_eq_some_iff.1 h.box).1
  have b0 : w.cell? ⟨bi, 0, none⟩ = some (.int .i64 7) := by simp [World.cell?, h.box, e]
  have b4 : w.cell? ⟨bi, 4, none⟩ = some (.string i.s) := by simp [World.cell?, h.box]
  have b1 : w.cell? ⟨bi, 1, none⟩ = some u1 := by simp [World.cell?, h.box]
  obtain ⟨aD, cD, rfl⟩ := rSlice_shape h.i1
  obtain ⟨bF, oF, cF, rfl, hF1, hF2, f3, f4⟩ := code_mem h.run.prog hkl
  rw [hcv] at f3
  rw [hcs] at f4
  have p0 := h.run.p0
  have p1 := h.run.p1
  have hpl := h.run.lp.2
  obtain ⟨aX, cX, rfl, hX1, hX2⟩ := row_slice h.row
  have hcodes : rCodes (fun _ => True) w [.slice (some ⟨bF, oF, none⟩) p.funcs.length cF] p.funcs := by
    obtain ⟨u, u', hv, hc, -⟩ := h.run.prog
    obtain ⟨rfl, rfl⟩ : _ = u ∧ v1 = u' := by simpa using hv
    exact Good.wide hc (fun _ _ _ => trivial)
  have hmv := make_ints nv (by omega)
  have hms := make_ints ns (by omega)
  have hcall := funcNamed_any i.s p.funcs _ v1 w hcodes
  rw [hnm] at hcall
  have Hcall := Lib.hid hcall
  have H := Lib.hid h
  unfold ranS25
  conv => arg 2; whnf
  rw [frame473 t h.frame.size, h.frame.s2, h.frame.s3, h.frame.s4, h.frame.s8, h.frame.s9, h.s11, h.s12, h.s14, h.s15, h.s17]
  have h13 := h.s13
  subst h13
  have h40' : decide (((r.length + 1 : Nat) : Int) ≥ 40) = false := decide_eq_false (by omega)
  have h40'' : decide (((r.length : Nat) : Int) + 1 ≥ 40) = false := decide_eq_false (by omega)
  have hk0 : (0 : Int) ≤ k := by omega
  have hk1 : (k : Int) < p.funcs.length := by omega
  have Hmv := Lib.hid hmv
  have Hms := Lib.hid hms
  clear hcall h hcell hv hx hst e hi hcodes hnm hcv hcs hkl hmv hms
  go_wp2_with fail
  refine Hcall.out.mono ?_
  rintro e w1 ⟨rfl, hb1⟩
  have s1 : Since (fun _ => False) w w1 := ⟨hb1.os, hb1.tape, hb1.output, hb1.size, fun k hk _ => hb1.block k hk⟩
  have q0' := (s1.cell (o := 0) hpl id).trans p0
  have f3' := (s1.cell (o := oF + k * 6 + 3) hF2 id).trans f3
  have f4' := (s1.cell (o := oF + k * 6 + 4) hF2 id).trans f4
  have b1' := (s1.cell (o := 1) hbl id).trans b1
  have z1 := Nat.lt_of_lt_of_le hpl s1.size
  have z2 := Nat.lt_of_lt_of_le hF2 s1.size
  have z3 := Nat.lt_of_lt_of_le hbl s1.size
  have dp : ∀ o, (w1.alloc o).cell? ⟨bp, 0, none⟩ = _ := fun o => (World.cell?_alloc_lt _ _ _ z1).trans q0'
  have d3 : ∀ o, (w1.alloc o).cell? ⟨bF, oF + k * 6 + 3, none⟩ = _ := fun o => (World.cell?_alloc_lt _ _ _ z2).trans f3'
  have d4 : ∀ o, (w1.alloc o).cell? ⟨bF, oF + k * 6 + 4, none⟩ = _ := fun o => (World.cell?_alloc_lt _ _ _ z2).trans f4'
  have d1 : ∀ o, (w1.alloc o).cell? ⟨bi, 1, none⟩ = _ := fun o => (World.cell?_alloc_lt _ _ _ z3).trans b1'
  have S1 := Lib.hid s1
  have hmv := Hmv.out
  have hms := Hms.out
  clear hb1 Hcall q1 q2 b0 b4 s1 p0 p1 f3 f4 b1
  go_upto_region 72 with fail
  go_cut [26] from 373 to 390 (fun s26 wx => ∃ gb gv gs, s26 = .pointer (some ⟨gb, 0, none⟩) ∧ Since (fun _ => False) w1 wx ∧ wx.heap[gb]? = some (.cells #[.int .i64 k, .slice (some ⟨gv, 0, none⟩) nv nv, .slice (some ⟨gs, 0, none⟩) ns ns, .int .i64 0, .int .i64 0, .slice aD i.ds.length cD] 164) ∧
        wx.heap[gv]? = some (.cells (zeros nv) 3) ∧ wx.heap[gs]? = some (.cells (zeros ns) 3) ∧ w1.heap.size ≤ gb ∧ w1.heap.size ≤ gv ∧ w1.heap.size ≤ gs ∧ gv ≠ gs ∧ gb ≠ gv ∧ gb ≠ gs)
  case first =>
    go_region_held3 (fun w' => w'.cell? ⟨bp, 0, none⟩ = some (.slice (some ⟨bF, oF, none⟩) p.funcs.length cF) ∧ w'.cell? ⟨bF, oF + k * 6 + 3, none⟩ = some (.int .i64 nv) ∧ w'.cell? ⟨bF, oF + k * 6 + 4, none⟩ = some (.int .i64 ns) ∧ w'.cell? ⟨bi, 1, none⟩ = some (.slice aD i.ds.length cD)) (go_keep) (fail)
    all_goals (go_wp2_with fail; go_meet)
    all_goals (obtain ⟨k1, k2, k3, k4⟩ := heap3 w1 _ _ _)
    all_goals (first
      | exact ⟨_, _, _, rfl, k4, k1, k2, k3, by omega, by omega, by omega, by omega, by omega, by omega⟩
      | exact ⟨_, _, _, rfl, k4, k1, k3, k2, by omega, by omega, by omega, by omega, by omega, by omega⟩
      | exact ⟨_, _, _, rfl, k4, k2, k1, k3, by omega, by omega, by omega, by omega, by omega, by omega⟩
      | exact ⟨_, _, _, rfl, k4, k2, k3, k1, by omega, by omega, by omega, by omega, by omega, by omega⟩
      | exact ⟨_, _, _, rfl, k4, k3, k1, k2, by omega, by omega, by omega, by omega, by omega, by omega⟩
      | exact ⟨_, _, _, rfl, k4, k3, k2, k1, by omega, by omega, by omega, by omega, by omega, by omega⟩)
  case rest =>
    obtain ⟨gb, gv, gs, rfl, sx, hb, hgv, hgs, l1, l2, l3, n1, n2, n3⟩ := hcut
    have e1 : wc.cell? ⟨gb, 1, none⟩ = some (.slice (some ⟨gv, 0, none⟩) nv nv) := by simp [World.cell?, hb]
    have e2 : wc.cell? ⟨gb, 2, none⟩ = some (.slice (some ⟨gs, 0, none⟩) ns ns) := by simp [World.cell?, hb]
    have sw := S1.out.trans sx
    have hbig := H.out.run.big
    have gbl : gb < wc.heap.size := (Array.getElem?_eq_some_iff.1 hb).1
    have gvl : gv < wc.heap.size := (Array.getElem?_eq_some_iff.1 hgv).1
    have gsl : gs < wc.heap.size := (Array.getElem?_eq_some_iff.1 hgs).1
    have hz1 := S1.out.size
    have Hb := Lib.hid hb
    have HZ := Lib.hid (zeros_row (base := base) hgv (by omega) (by omega) : intRow wc base gv (List.replicate nv 0))
    have HO := Lib.hid (zeros_row (base := base) hgs (by omega) (by omega) : intRow wc base gs (List.replicate ns 0))
    have SW := Lib.hid sw
    have Hrow := Lib.hid H.out.row
    have Hroom := Lib.hid hroom
    clear hb hgv hgs sw sx hmv hms dp d3 d4 d1 q0' f3' f4' b1' S1 Hmv Hms hX1 hX2 h40' h40''
    go_wp2_with fail
    go_loopw [28] (fun s wr => ∃ n : Nat, n ≤ xs.length ∧ s = .int .i64 n ∧ Since (fun k => k = gv) wc wr ∧ intRow wr base gv (xs.take n ++ (List.replicate nv (0 : Int)).drop n)) (fun s _ => xs.length - (intOf s).toNat)
    case atStart => exact ⟨0, Nat.zero_le _, rfl, Since.refl _ _, HZ.out⟩
    case round =>
      obtain ⟨n, hn, rfl, hs1, hR⟩ := hrel
      by_cases hlt : n < xs.length
      · have hlt1 : (n : Int) < xs.length := by omega
        have hn0 : (0 : Int) ≤ n := by omega
        have hnN : (n : Int) < nv := by omega
        obtain ⟨gX, cX', hvX, hX3, -, hXl, hcX0, -⟩ := row_get Hrow.out (i := n) (u := .int .i64 xs[n]) (by simp [hlt])
        obtain rfl : aX = some ⟨gX, 0, none⟩ := (Value.slice.inj hvX).1
        have hXl2 := Nat.lt_of_lt_of_le hXl SW.out.size
        have hcX : wr.cell? ⟨gX, n, none⟩ = some (.int .i64 xs[n]) := (hs1.cell hXl2 (by omega)).trans ((SW.out.cell hXl id).trans hcX0)
        have hLl : (xs.take n ++ (List.replicate nv (0 : Int)).drop n).length = nv := by simp; omega
        obtain ⟨_, _, hvT, -, -, -, hcT, hzT⟩ := row_get hR (i := n) (u := .int .i64 ((xs.take n ++ (List.replicate nv (0 : Int)).drop n)[n]'(by omega))) (by rw [List.getElem?_map, List.getElem?_eq_getElem (by omega)]; rfl)
        obtain ⟨rfl, -⟩ : gv = _ ∧ _ := by simpa using hvT
        have HN := Lib.hid (show (xs.take n ++ (List.replicate nv (0 : Int)).drop n).set n xs[n] = xs.take (n + 1) ++ (List.replicate nv (0 : Int)).drop (n + 1) from fill_step hlt Hroom.out)
        have HR := Lib.hid (row_put hR n (.int .i64 xs[n]))
        have HS := Lib.hid hs1
        generalize (xs.take n ++ (List.replicate nv (0 : Int)).drop n)[n]'(by omega) = old at *
        generalize hLL : xs.take n ++ (List.replicate nv (0 : Int)).drop n = LL at *
        have HLL := Lib.hid hLL
        have HLl := Lib.hid hLl
        clear hR hs1 hvT hvX hcX0 hLl hLL hXl2
        generalize hxn : xs[n] = xn at *
        have Hxn := Lib.hid hxn
        clear hxn
        go_wp2_with fail
        refine ⟨⟨n + 1, by omega, by simp, ?_, ?_⟩, by simp only [intOf]; omega⟩
        · exact HS.out.trans (Since.setCell wr ⟨gv, n, none⟩ (.int .i64 xn))
        · have := HR.out
          rw [← HN.out]
          have e3 : (LL.set n xn).length = LL.length := by simp
          unfold intRow
          rw [e3, List.map_set]
          exact this
      · have hne : n = xs.length := by omega
        subst hne
        have hlt1 : ¬ ((xs.length : Int) < xs.length) := by omega
        rw [List.take_length] at hR
        have swr : Since (fun _ => False) w wr := SW.out.then_new hs1 (fun k e => Or.inr (by have := SW.out.size; rw [e]; omega))
        have hO := hs1.row HO.out (fun k hk e => by simp [Value.ownBlock] at hk; omega)
        have hbw : wr.heap[gb]? = _ := (hs1.block gb gbl (by omega)).trans Hb.out
        have b0 : wr.cell? ⟨gb, 0, none⟩ = some (.int .i64 k) := by simp [World.cell?, hbw]
        have b1 : wr.cell? ⟨gb, 1, none⟩ = some (.slice (some ⟨gv, 0, none⟩) nv nv) := by simp [World.cell?, hbw]
        have b2 : wr.cell? ⟨gb, 2, none⟩ = some (.slice (some ⟨gs, 0, none⟩) ns ns) := by simp [World.cell?, hbw]
        have b3 : wr.cell? ⟨gb, 3, none⟩ = some (.int .i64 0) := by simp [World.cell?, hbw]
        have b4 : wr.cell? ⟨gb, 4, none⟩ = some (.int .i64 0) := by simp [World.cell?, hbw]
        have b5 : wr.cell? ⟨gb, 5, none⟩ = some (.slice aD i.ds.length cD) := by simp [World.cell?, hbw]
        have hrun := H.out.run.since swr
        have hrow := hrun.row
        have hd1 := Good.kept (swr.keep.weaken (fun k _ _ e => e.elim)) H.out.i1
        have hbg := hrun.big
        have HRow := Lib.hid hR
        have HOr := Lib.hid hO
        have Hrun := Lib.hid hrun
        have HD1 := Lib.hid hd1
        have SWR := Lib.hid swr
        obtain ⟨iL, hiL, hL0, hL1, hL2⟩ := info_parts info_level
        clear hR hO hrun hd1 hs1 hbw swr hlt hn
        have hnews : levCells ⟨k, xs ++ (List.replicate nv (0 : Int)).drop xs.length, List.replicate ns (0 : Int), 0, 0, i.ds⟩ ⟨gv, gs, .slice aD i.ds.length cD⟩ = [.int .i64 k, .slice (some ⟨gv, 0, none⟩) nv nv, .slice (some ⟨gs, 0, none⟩) ns ns, .int .i64 0, .int .i64 0, .slice aD i.ds.length cD] := by
          have := Hroom.out
          simp [levCells]
          try omega
        have Hnews := Lib.hid hnews
        clear hnews
        go_wp2_with (at_builtin; refine wpList_append_own_at _ rfl _ _ 165 rfl base 164 iL zeroLev 6 96 info_levels hiL hL0 hL1 hL2 rfl (by decide) _ _ _ rfl (hrow.alloc _) ⟨wr.heap.size, 0, none⟩ 1 1 [.int .i64 k, .slice (some ⟨gv, 0, none⟩) nv nv, .slice (some ⟨gs, 0, none⟩) ns ns, .int .i64 0, .int .i64 0, .slice aD i.ds.length cD] rfl rfl (cells_new _ _ _) (by intro u hu; simp at hu; rcases hu with rfl | rfl | rfl | rfl | rfl <;> rfl) (by unfold maxLen; simp only [List.length_cons]; omega) (by simp only [List.length_cons]; omega) (by simp; omega) ?_)
        intro v' w2 hown hgrow _ hloc
        obtain ⟨ρ2, hq⟩ := H.out.run.push (f := ⟨k, xs ++ (List.replicate nv (0 : Int)).drop xs.length, List.replicate ns (0 : Int), 0, 0, i.ds⟩) (a := ⟨gv, gs, .slice aD i.ds.length cD⟩) SWR.out hgrow (by rw [Hnews.out]; exact hown) hloc HRow.out HOr.out (Nat.le_trans hz1 l2) (Nat.le_trans hz1 l3) n1 HD1.out
        have Hq := Lib.hid hq
        clear hq hown hgrow hloc hrow
        go_wp2_with fail
        exact HQ.out _ _ ⟨⟨rfl, rfl, rfl, rfl, rfl, rfl⟩, rfl, rfl, ρ2, vW, vL, _, Hq.out, rfl⟩
set_option maxRecDepth 100000 in
set_option maxHeartbeats 4000000 in
theorem arm_invoke_true (Q : Exit → Act → World → Prop) (ρ : Nat → Option Lab) (t : Array Value) (w : World) (fuel : Int) (base bp br bs bi g cap : Nat) (s13 v0 v1 vW vL u1 u2 u5 vX : Value) (p : PProg) (limit : Int) (words : List Int) (lines : List ByteArray) (f : Lev) (a : LA) (r : List (Lev × LA)) (i : PInstr) (xs : List Int)
    (h : PreArm ρ t w fuel true base bp br bs bi g cap s13 v0 v1 vW vL u1 u2 u5 p limit words lines f a r i vX xs) (hi : i = instrAt p f) (hx : xs = argsF true f i) (e : i.op = 7) (k nv ns : Nat) (hnm : nameAt i.s p.funcs = k) (hkl : k < p.funcs.length) (hfl : p.funcs.length ≤ 40) (hcv : (codeAt p k).vars = nv) (hcs : (codeAt p k).slots = ns) (hroom : xs.length ≤ ns) (hnv : nv ≤ 3000) (hns : ns ≤ 3000) (h40 : r.length + 1 < 40)
    (HQ : Hid (∀ t' w', StepPost t' w' fuel true base bp br bs s13 v0 v1 p limit (stepF p true limit (stateOf words lines ((f, a) :: r))) → Q .normal ⟨t', []⟩ w')) :
    ranS25.wp Tryd.prog Q ⟨t, []⟩ w := by
  have hst : stepF p true limit (stateOf words lines ((f, a) :: r)) = (0, ⟨words, lines, ⟨k, List.replicate nv (0 : Int), xs ++ (List.replicate ns (0 : Int)).drop xs.length, 0, 0, i.ds⟩ :: { f with at_ := f.at_ + 1 } :: r.map (·.1)⟩) := by
    unfold stepF stateOf
    simp only [List.map_cons, ← hi, ← hx, e]
    show (if 40 ≤ (((f, a) :: r).map (·.1)).length then _ else (0, (⟨words, lines, newLev p true (nameAt i.s p.funcs).toNat xs i.ds :: _⟩ : Mach))) = _
    rw [if_neg (by simp; omega), hnm]
    simp [newLev, hcv, hcs]
  rw [hst] at HQ
  obtain ⟨g', cap', hv, -, -, hgl, hcell⟩ := h.run.get
  obtain ⟨rfl, -⟩ : g = g' ∧ cap = cap' := by simpa using hv
  have q1 : w.cell? ⟨g, r.length * 6 + 1, none⟩ = some (.slice (some ⟨a.gv, 0, none⟩) f.vars.length f.vars.length) := (hcell 1 _ rfl).1
  have q2 : w.cell? ⟨g, r.length * 6 + 2, none⟩ = some (.slice (some ⟨a.gs, 0, none⟩) f.slots.length f.slots.length) := (hcell 2 _ rfl).1
  have hbl : bi < w.heap.size := (Array.getElem?_eq_some_iff.1 h.box).1
  have b0 : w.cell? ⟨bi, 0, none⟩ = some (.int .i64 7) := by simp [World.cell?, h.box, e]
  have b4 : w.cell? ⟨bi, 4, none⟩ = some (.string i.s) := by simp [World.cell?, h.box]
  have b1 : w.cell? ⟨bi, 1, none⟩ = some u1 := by simp [World.cell?, h.box]
  obtain ⟨aD, cD, rfl⟩ := rSlice_shape h.i1
  obtain ⟨bF, oF, cF, rfl, hF1, hF2, f3, f4⟩ := code_mem h.run.prog hkl
  rw [hcv] at f3
  rw [hcs] at f4
  have p0 := h.run.p0
  have p1 := h.run.p1
  have hpl := h.run.lp.2
  obtain ⟨aX, cX, rfl, hX1, hX2⟩ := row_slice h.row
  have hcodes : rCodes (fun _ => True) w [.slice (some ⟨bF, oF, none⟩) p.funcs.length cF] p.funcs := by
    obtain ⟨u, u', hv, hc, -⟩ := h.run.prog
    obtain ⟨rfl, rfl⟩ : _ = u ∧ v1 = u' := by simpa using hv
    exact Good.wide hc (fun _ _ _ => trivial)
  have hmv := make_ints nv (by omega)
  have hms := make_ints ns (by omega)
  have hcall := funcNamed_any i.s p.funcs _ v1 w hcodes
  rw [hnm] at hcall
  have Hcall := Lib.hid hcall
  have H := Lib.hid h
  unfold ranS25
  conv => arg 2; whnf
  rw [frame473 t h.frame.size, h.frame.s2, h.frame.s3, h.frame.s4, h.frame.s8, h.frame.s9, h.s11, h.s12, h.s14, h.s15, h.s17]
  have h13 := h.s13
  subst h13
  have h40' : decide (((r.length + 1 : Nat) : Int) ≥ 40) = false := decide_eq_false (by omega)
  have h40'' : decide (((r.length : Nat) : Int) + 1 ≥ 40) = false := decide_eq_false (by omega)
  have hk0 : (0 : Int) ≤ k := by omega
  have hk1 : (k : Int) < p.funcs.length := by omega
  have Hmv := Lib.hid hmv
  have Hms := Lib.hid hms
  clear hcall h hcell hv hx hst e hi hcodes hnm hcv hcs hkl hmv hms
  go_wp2_with fail
  refine Hcall.out.mono ?_
  rintro e w1 ⟨rfl, hb1⟩
  have s1 : Since (fun _ => False) w w1 := ⟨hb1.os, hb1.tape, hb1.output, hb1.size, fun k hk _ => hb1.block k hk⟩
  have q0' := (s1.cell (o := 0) hpl id).trans p0
  have f3' := (s1.cell (o := oF + k * 6 + 3) hF2 id).trans f3
  have f4' := (s1.cell (o := oF + k * 6 + 4) hF2 id).trans f4
  have b1' := (s1.cell (o := 1) hbl id).trans b1
  have z1 := Nat.lt_of_lt_of_le hpl s1.size
  have z2 := Nat.lt_of_lt_of_le hF2 s1.size
  have z3 := Nat.lt_of_lt_of_le hbl s1.size
  have dp : ∀ o, (w1.alloc o).cell? ⟨bp, 0, none⟩ = _ := fun o => (World.cell?_alloc_lt _ _ _ z1).trans q0'
  have d3 : ∀ o, (w1.alloc o).cell? ⟨bF, oF + k * 6 + 3, none⟩ = _ := fun o => (World.cell?_alloc_lt _ _ _ z2).trans f3'
  have d4 : ∀ o, (w1.alloc o).cell? ⟨bF, oF + k * 6 + 4, none⟩ = _ := fun o => (World.cell?_alloc_lt _ _ _ z2).trans f4'
  have d1 : ∀ o, (w1.alloc o).cell? ⟨bi, 1, none⟩ = _ := fun o => (World.cell?_alloc_lt _ _ _ z3).trans b1'
  have S1 := Lib.hid s1
  have hmv := Hmv.out
  have hms := Hms.out
  clear hb1 Hcall q1 q2 b0 b4 s1 p0 p1 f3 f4 b1
  go_upto_region 72 with fail
  go_cut [26] from 373 to 390 (fun s26 wx => ∃ gb gv gs, s26 = .pointer (some ⟨gb, 0, none⟩) ∧ Since (fun _ => False) w1 wx ∧ wx.heap[gb]? = some (.cells #[.int .i64 k, .slice (some ⟨gv, 0, none⟩) nv nv, .slice (some ⟨gs, 0, none⟩) ns ns, .int .i64 0, .int .i64 0, .slice aD i.ds.length cD] 164) ∧
        wx.heap[gv]? = some (.cells (zeros nv) 3) ∧ wx.heap[gs]? = some (.cells (zeros ns) 3) ∧ w1.heap.size ≤ gb ∧ w1.heap.size ≤ gv ∧ w1.heap.size ≤ gs ∧ gv ≠ gs ∧ gb ≠ gv ∧ gb ≠ gs)
  case first =>
    go_region_held3 (fun w' => w'.cell? ⟨bp, 0, none⟩ = some (.slice (some ⟨bF, oF, none⟩) p.funcs.length cF) ∧ w'.cell? ⟨bF, oF + k * 6 + 3, none⟩ = some (.int .i64 nv) ∧ w'.cell? ⟨bF, oF + k * 6 + 4, none⟩ = some (.int .i64 ns) ∧ w'.cell? ⟨bi, 1, none⟩ = some (.slice aD i.ds.length cD)) (go_keep) (fail)
    all_goals (go_wp2_with fail; go_meet)
    all_goals (obtain ⟨k1, k2, k3, k4⟩ := heap3 w1 _ _ _)
    all_goals (first
      | exact ⟨_, _, _, rfl, k4, k1, k2, k3, by omega, by omega, by omega, by omega, by omega, by omega⟩
      | exact ⟨_, _, _, rfl, k4, k1, k3, k2, by omega, by omega, by omega, by omega, by omega, by omega⟩
      | exact ⟨_, _, _, rfl, k4, k2, k1, k3, by omega, by omega, by omega, by omega, by omega, by omega⟩
      | exact ⟨_, _, _, rfl, k4, k2, k3, k1, by omega, by omega, by omega, by omega, by omega, by omega⟩
      | exact ⟨_, _, _, rfl, k4, k3, k1, k2, by omega, by omega, by omega, by omega, by omega, by omega⟩
      | exact ⟨_, _, _, rfl, k4, k3, k2, k1, by omega, by omega, by omega, by omega, by omega, by omega⟩)
  case rest =>
    obtain ⟨gb, gv, gs, rfl, sx, hb, hgv, hgs, l1, l2, l3, n1, n2, n3⟩ := hcut
    have e1 : wc.cell? ⟨gb, 1, none⟩ = some (.slice (some ⟨gv, 0, none⟩) nv nv) := by simp [World.cell?, hb]
    have e2 : wc.cell? ⟨gb, 2, none⟩ = some (.slice (some ⟨gs, 0, none⟩) ns ns) := by simp [World.cell?, hb]
    have sw := S1.out.trans sx
    have hbig := H.out.run.big
    have gbl : gb < wc.heap.size := (Array.getElem?_eq_some_iff.1 hb).1
    have gvl : gv < wc.heap.size := (Array.getElem?_eq_some_iff.1 hgv).1
    have gsl : gs < wc.heap.size := (Array.getElem?_eq_some_iff.1 hgs).1
    have hz1 := S1.out.size
    have Hb := Lib.hid hb
    have HZ := Lib.hid (zeros_row (base := base) hgs (by omega) (by omega) : intRow wc base gs (List.replicate ns 0))
    have HO := Lib.hid (zeros_row (base := base) hgv (by omega) (by omega) : intRow wc base gv (List.replicate nv 0))
    have SW := Lib.hid sw
    have Hrow := Lib.hid H.out.row
    have Hroom := Lib.hid hroom
    clear hb hgv hgs sw sx hmv hms dp d3 d4 d1 q0' f3' f4' b1' S1 Hmv Hms hX1 hX2 h40' h40''
    go_wp2_with fail
    go_loopw [28] (fun s wr => ∃ n : Nat, n ≤ xs.length ∧ s = .int .i64 n ∧ Since (fun k => k = gs) wc wr ∧ intRow wr base gs (xs.take n ++ (List.replicate ns (0 : Int)).drop n)) (fun s _ => xs.length - (intOf s).toNat)
    case atStart => exact ⟨0, Nat.zero_le _, rfl, Since.refl _ _, HZ.out⟩
    case round =>
      obtain ⟨n, hn, rfl, hs1, hR⟩ := hrel
      by_cases hlt : n < xs.length
      · have hlt1 : (n : Int) < xs.length := by omega
        have hn0 : (0 : Int) ≤ n := by omega
        have hnN : (n : Int) < ns := by omega
        obtain ⟨gX, cX', hvX, hX3, -, hXl, hcX0, -⟩ := row_get Hrow.out (i := n) (u := .int .i64 xs[n]) (by simp [hlt])
        obtain rfl : aX = some ⟨gX, 0, none⟩ := (Value.slice.inj hvX).1
        have hXl2 := Nat.lt_of_lt_of_le hXl SW.out.size
        have hcX : wr.cell? ⟨gX, n, none⟩ = some (.int .i64 xs[n]) := (hs1.cell hXl2 (by omega)).trans ((SW.out.cell hXl id).trans hcX0)
        have hLl : (xs.take n ++ (List.replicate ns (0 : Int)).drop n).length = ns := by simp; omega
        obtain ⟨_, _, hvT, -, -, -, hcT, hzT⟩ := row_get hR (i := n) (u := .int .i64 ((xs.take n ++ (List.replicate ns (0 : Int)).drop n)[n]'(by omega))) (by rw [List.getElem?_map, List.getElem?_eq_getElem (by omega)]; rfl)
        obtain ⟨rfl, -⟩ : gs = _ ∧ _ := by simpa using hvT
        have HN := Lib.hid (show (xs.take n ++ (List.replicate ns (0 : Int)).drop n).set n xs[n] = xs.take (n + 1) ++ (List.replicate ns (0 : Int)).drop (n + 1) from fill_step hlt Hroom.out)
        have HR := Lib.hid (row_put hR n (.int .i64 xs[n]))
        have HS := Lib.hid hs1
        generalize (xs.take n ++ (List.replicate ns (0 : Int)).drop n)[n]'(by omega) = old at *
        generalize hLL : xs.take n ++ (List.replicate ns (0 : Int)).drop n = LL at *
        have HLL := Lib.hid hLL
        have HLl := Lib.hid hLl
        clear hR hs1 hvT hvX hcX0 hLl hLL hXl2
        generalize hxn : xs[n] = xn at *
        have Hxn := Lib.hid hxn
        clear hxn
        go_wp2_with fail
        refine ⟨⟨n + 1, by omega, by simp, ?_, ?_⟩, by simp only [intOf]; omega⟩
        · exact HS.out.trans (Since.setCell wr ⟨gs, n, none⟩ (.int .i64 xn))
        · have := HR.out
          rw [← HN.out]
          have e3 : (LL.set n xn).length = LL.length := by simp
          unfold intRow
          rw [e3, List.map_set]
          exact this
      · have hne : n = xs.length := by omega
        subst hne
        have hlt1 : ¬ ((xs.length : Int) < xs.length) := by omega
        rw [List.take_length] at hR
        have swr : Since (fun _ => False) w wr := SW.out.then_new hs1 (fun k e => Or.inr (by have := SW.out.size; rw [e]; omega))
        have hO := hs1.row HO.out (fun k hk e => by simp [Value.ownBlock] at hk; omega)
        have hbw : wr.heap[gb]? = _ := (hs1.block gb gbl (by omega)).trans Hb.out
        have b0 : wr.cell? ⟨gb, 0, none⟩ = some (.int .i64 k) := by simp [World.cell?, hbw]
        have b1 : wr.cell? ⟨gb, 1, none⟩ = some (.slice (some ⟨gv, 0, none⟩) nv nv) := by simp [World.cell?, hbw]
        have b2 : wr.cell? ⟨gb, 2, none⟩ = some (.slice (some ⟨gs, 0, none⟩) ns ns) := by simp [World.cell?, hbw]
        have b3 : wr.cell? ⟨gb, 3, none⟩ = some (.int .i64 0) := by simp [World.cell?, hbw]
        have b4 : wr.cell? ⟨gb, 4, none⟩ = some (.int .i64 0) := by simp [World.cell?, hbw]
        have b5 : wr.cell? ⟨gb, 5, none⟩ = some (.slice aD i.ds.length cD) := by simp [World.cell?, hbw]
        have hrun := H.out.run.since swr
        have hrow := hrun.row
        have hd1 := Good.kept (swr.keep.weaken (fun k _ _ e => e.elim)) H.out.i1
        have hbg := hrun.big
        have HRow := Lib.hid hR
        have HOr := Lib.hid hO
        have Hrun := Lib.hid hrun
        have HD1 := Lib.hid hd1
        have SWR := Lib.hid swr
        obtain ⟨iL, hiL, hL0, hL1, hL2⟩ := info_parts info_level
        clear hR hO hrun hd1 hs1 hbw swr hlt hn
        have hnews : levCells ⟨k, List.replicate nv (0 : Int), xs ++ (List.replicate ns (0 : Int)).drop xs.length, 0, 0, i.ds⟩ ⟨gv, gs, .slice aD i.ds.length cD⟩ = [.int .i64 k, .slice (some ⟨gv, 0, none⟩) nv nv, .slice (some ⟨gs, 0, none⟩) ns ns, .int .i64 0, .int .i64 0, .slice aD i.ds.length cD] := by
          have := Hroom.out
          simp [levCells]
          try omega
        have Hnews := Lib.hid hnews
        clear hnews
        go_wp2_with (at_builtin; refine wpList_append_own_at _ rfl _ _ 165 rfl base 164 iL zeroLev 6 96 info_levels hiL hL0 hL1 hL2 rfl (by decide) _ _ _ rfl (hrow.alloc _) ⟨wr.heap.size, 0, none⟩ 1 1 [.int .i64 k, .slice (some ⟨gv, 0, none⟩) nv nv, .slice (some ⟨gs, 0, none⟩) ns ns, .int .i64 0, .int .i64 0, .slice aD i.ds.length cD] rfl rfl (cells_new _ _ _) (by intro u hu; simp at hu; rcases hu with rfl | rfl | rfl | rfl | rfl <;> rfl) (by unfold maxLen; simp only [List.length_cons]; omega) (by simp only [List.length_cons]; omega) (by simp; omega) ?_)
        intro v' w2 hown hgrow _ hloc
        obtain ⟨ρ2, hq⟩ := H.out.run.push (f := ⟨k, List.replicate nv (0 : Int), xs ++ (List.replicate ns (0 : Int)).drop xs.length, 0, 0, i.ds⟩) (a := ⟨gv, gs, .slice aD i.ds.length cD⟩) SWR.out hgrow (by rw [Hnews.out]; exact hown) hloc HOr.out HRow.out (Nat.le_trans hz1 l2) (Nat.le_trans hz1 l3) n1 HD1.out
        have Hq := Lib.hid hq
        clear hq hown hgrow hloc hrow
        go_wp2_with fail
        exact HQ.out _ _ ⟨⟨rfl, rfl, rfl, rfl, rfl, rfl⟩, rfl, rfl, ρ2, vW, vL, _, Hq.out, rfl⟩
end Go.Proofs.YtaomlfbcfmmhlaaDoor

/-
  ref.ranOf: a whole step: the instruction at hand, its arguments, the arm.
-/
namespace Go.Proofs.YtaomlfbcfmmhlaaDoor
open Go.RowKit Go.Pst
set_option linter.unusedVariables false
set_option linter.unusedSimpArgs false

theorem Chain.want {p : PProg} {m : Bool} {f g : Lev} {r : List Lev} (h : Chain p m (f :: g :: r)) : (f.want.length : Int) = (codeAt p f.fn).results ∧ Ins f.want (if m then g.slots.length else g.vars.length) := ⟨h.1, h.2.1⟩

variable [Old]
set_option maxHeartbeats 4000000 in
theorem step_any (Q : Exit → Act → World → Prop) (ρ : Nat → Option Lab) (t : Array Value) (w : World) (fuel : Int) (m : Bool) (base bp br bs : Nat) (v0 v1 vW vL vC : Value) (p : PProg) (limit : Int) (words : List Int) (lines : List ByteArray) (f : Lev) (a : LA) (r : List (Lev × LA))
    (hF : FrameIs t fuel m bp br bs) (h11 : slotOf t 11 = vC) (h12 : slotOf t 12 = .int .i64 0) (hR : RunAt ρ w base bp br bs v0 v1 vW vL vC p limit words lines ((f, a) :: r))
    (hfit : Fits p m limit (stateOf words lines ((f, a) :: r))) (hs : Sound p m) (hl0 : 0 ≤ limit) (hl : limit ≤ 20000)
    (HQ : Hid (∀ t' w', StepPost t' w' fuel m base bp br bs (slotOf t 13) v0 v1 p limit (stepF p m limit (stateOf words lines ((f, a) :: r))) → Q .normal ⟨t', []⟩ w')) :
    ranS13.wp Tryd.prog Q ⟨t, []⟩ w := by
  have hL : LevOK p f := hfit.levs f (by simp [stateOf])
  have hlen := hfit.some_
  simp only [stateOf, List.map_cons, List.length_cons, List.length_map] at hlen
  have hrl : r.length < 40 := by omega
  have hwI := hfit.words
  have hww : words.length ≤ 20000 := by have : (words.length : Int) ≤ limit := hwI.2; omega
  have hll : lines.length ≤ 2000 := hfit.lines
  have hco := hs.codes _ (codeAt_mem hL.fn)
  have hvl := hL.vl
  have hsl := hL.sl
  have hsm := hco.small
  obtain ⟨hok, hcl⟩ := hL.ok hs
  have hxI : ∀ x ∈ argsF m f (instrAt p f), InI x := argsF_in (m := m) hL.toLevIn (instrAt p f)
  have hnb := hco.nb
  have hpar := hco.pars
  have hchain := hfit.chain
  simp only [stateOf, List.map_cons] at hchain
  have hsrcl : (f.src m (instrAt p f)).length ≤ 40000 := by unfold Lev.src; split <;> omega
  have hbl := (hco.blk _ hL.blk).2.1
  have hlb : Ins (instrAt p f).to (codeAt p f.fn).blocks.length → ∀ x ∈ (instrAt p f).to, 0 ≤ x := fun h x hx => (h x hx).1
  have hargs : (instrAt p f).op ≠ 21 → Ins (instrAt p f).ars (f.src m (instrAt p f)).length := by
    intro h21
    have one : ∀ a : Nat, ∀ n : Nat, a < n → Ins [(a : Int)] n := fun a n h x hx => by simp at hx; omega
    have two : ∀ a b : Nat, ∀ n : Nat, a < n → b < n → Ins [(a : Int), (b : Int)] n := fun a b n h h' x hx => by simp at hx; rcases hx with rfl | rfl <;> omega
    have nil : ∀ n : Nat, Ins [] n := fun n x hx => by simp at hx
    unfold Lev.src
    rcases hok with ⟨e, d, hd, hd', ha⟩ | ⟨e, d, a, hd, hd', ha, ha'⟩ | ⟨e, hss, d, a, b, hd, hd', ha, ha', hb'⟩ | ⟨e, d, a, hd, hd', ha, ha'⟩ | ⟨e, a, b, ha, ha', hb'⟩ | ⟨e, d, a, hd, hd', ha, ha'⟩ | ⟨e, k, g, hk, hg, hp, hr, ia, id⟩ | ⟨e, ⟨hs1, a, b, ha, ha', hb'⟩ | ⟨hs1, a, ha, ha'⟩⟩ | ⟨e, ha, tt, ht, ht'⟩ | ⟨e, a, tt, u, ha, ha', ht, ht', hu'⟩ | ⟨e, ⟨a, ha, ha'⟩, ht, ht'⟩ | ⟨e, hr, ia⟩ | ⟨e, ha, n1, n2⟩ | ⟨em, e, ha, d, n, hd, hd', hn1, hn2⟩ | ⟨em, e, a, n, ha, ha', hn1, hn2⟩
    all_goals simp only [e, Int.reduceEq, or_self, or_false, or_true, and_false, and_true, if_false, reduceIte] at *
    all_goals try rw [ha]
    · exact nil _
    · exact one _ _ ha'
    · exact two _ _ _ ha' hb'
    · exact one _ _ ha'
    · exact two _ _ _ ha' hb'
    · exact one _ _ ha'
    · cases m <;> simpa using ia
    · exact two _ _ _ ha' hb'
    · exact one _ _ ha'
    · exact nil _
    · exact one _ _ ha'
    · exact one _ _ ha'
    · cases m <;> simpa using ia
    · exact nil _
    · exact absurd rfl h21
    · exact one _ _ ha'
  have hal : (instrAt p f).ars.length ≤ 16 ∨ (instrAt p f).ars.length ≤ 2 := by
    rcases hok with ⟨e, d, hd, hd', ha⟩ | ⟨e, d, a, hd, hd', ha, ha'⟩ | ⟨e, hss, d, a, b, hd, hd', ha, ha', hb'⟩ | ⟨e, d, a, hd, hd', ha, ha'⟩ | ⟨e, a, b, ha, ha', hb'⟩ | ⟨e, d, a, hd, hd', ha, ha'⟩ | ⟨e, k, g, hk, hg, hp, hr, ia, id⟩ | ⟨e, ⟨hs1, a, b, ha, ha', hb'⟩ | ⟨hs1, a, ha, ha'⟩⟩ | ⟨e, ha, tt, ht, ht'⟩ | ⟨e, a, tt, u, ha, ha', ht, ht', hu'⟩ | ⟨e, ⟨a, ha, ha'⟩, ht, ht'⟩ | ⟨e, hr, ia⟩ | ⟨e, ha, n1, n2⟩ | ⟨em, e, ha, d, n, hd, hd', hn1, hn2⟩ | ⟨em, e, a, n, ha, ha', hn1, hn2⟩
    case inr.inr.inr.inr.inr.inr.inl =>
      have := (hs.codes g (List.mem_of_getElem? hg)).pars
      left
      omega
    case inr.inr.inr.inr.inr.inr.inr.inr.inr.inr.inr.inl => left; omega
    all_goals (right; rw [ha]; simp)
  have hto : (instrAt p f).to.length ≤ 9223372036854775807 → True := fun _ => trivial
  have HOK := Lib.hid hok
  refine pre_any Q ρ t w fuel m base bp br bs v0 v1 vW vL vC p limit words lines f a r hF h11 h12 hR hL hs hrl (Lib.hid ?_)
  intro ρ1 t1 w1 bi g cap u1 u2 u5 h1 h16
  refine from_any Q ρ1 t1 w1 fuel m base bp br bs bi g cap _ v0 v1 vW vL u1 u2 u5 p limit words lines f a r _ h1 h16 (Lib.hid ?_)
  intro t2 h2 h216 h217
  refine args_any Q ρ1 t2 w1 fuel m base bp br bs bi g cap _ v0 v1 vW vL u1 u2 u5 p limit words lines f a r _ h2 h216 h217 hargs (by omega) hsrcl (Lib.hid ?_)
  intro ρ3 t3 w3 vX h3
  have hxl : (instrAt p f).op ≠ 21 → (argsF m f (instrAt p f)).length = (instrAt p f).ars.length := fun h => by unfold argsF; rw [if_neg h]; simp
  have hcd : ∀ k : Nat, ∀ g : PCode, p.funcs[k]? = some g → k < p.funcs.length ∧ codeAt p k = g := fun k g hg => by
    obtain ⟨h1, h2⟩ := List.getElem?_eq_some_iff.1 hg
    exact ⟨h1, by rw [codeAt_eq h1, h2]⟩
  clear h1 h2 h16 h216 h217
  rcases hok with ⟨e, d, hd, hd', ha⟩ | ⟨e, d, a', hd, hd', ha, ha'⟩ | ⟨e, hss, d, a', b, hd, hd', ha, ha', hb'⟩ | ⟨e, d, a', hd, hd', ha, ha'⟩ | ⟨e, a', b, ha, ha', hb'⟩ | ⟨e, d, a', hd, hd', ha, ha'⟩ | ⟨e, k, gc, hk, hg, hp, hr, ia, id⟩ | ⟨e, ⟨hs1, a', b, ha, ha', hb'⟩ | ⟨hs1, a', ha, ha'⟩⟩ | ⟨e, ha, tt, ht, ht'⟩ | ⟨e, a', tt, u, ha, ha', ht, ht', hu'⟩ | ⟨e, ⟨a', ha, ha'⟩, ht, ht'⟩ | ⟨e, hr, ia⟩ | ⟨e, ha, n1, n2⟩ | ⟨em, e, ha, d, n, hd, hd', hn1, hn2⟩ | ⟨em, e, a', n, ha, ha', hn1, hn2⟩
  · exact arm_const Q ρ3 t3 w3 fuel m base bp br bs bi g cap _ v0 v1 vW vL u1 u2 u5 vX p limit words lines f a r _ _ h3 rfl rfl e d hd hd' HQ
  · exact arm_move Q ρ3 t3 w3 fuel m base bp br bs bi g cap _ v0 v1 vW vL u1 u2 u5 vX p limit words lines f a r _ _ h3 rfl rfl e d a' hd hd' ha HQ
  · exact arm_math Q ρ3 t3 w3 fuel m base bp br bs bi g cap _ v0 v1 vW vL u1 u2 u5 vX p limit words lines f a r _ _ h3 rfl rfl e d a' b hd hd' ha hxI HQ
  · exact arm_load Q ρ3 t3 w3 fuel m base bp br bs bi g cap _ v0 v1 vW vL u1 u2 u5 vX p limit words lines f a r _ _ h3 rfl rfl e d a' hd hd' ha hxI hww HQ
  · exact arm_store Q ρ3 t3 w3 fuel m base bp br bs bi g cap _ v0 v1 vW vL u1 u2 u5 vX p limit words lines f a r _ _ h3 rfl rfl e a' b ha hxI hww HQ
  · exact arm_alloc Q ρ3 t3 w3 fuel m base bp br bs bi g cap _ v0 v1 vW vL u1 u2 u5 vX p limit words lines f a r _ _ h3 rfl rfl e d a' hd hd' ha hxI hww hl0 hl HQ
  · by_cases h40 : 40 ≤ r.length + 1
    · exact arm_invoke0 Q ρ3 t3 w3 fuel m base bp br bs bi g cap _ v0 v1 vW vL u1 u2 u5 vX p limit words lines f a r _ _ h3 rfl rfl e h40 (by omega) HQ
    · obtain ⟨hkl, hck⟩ := hcd k gc hg
      have hcc := hs.codes _ (codeAt_mem hkl)
      obtain ⟨c1, c2, c3, c4⟩ := hcc.small
      obtain ⟨nv, hnv⟩ := Int.eq_ofNat_of_zero_le c1
      obtain ⟨ns, hns⟩ := Int.eq_ofNat_of_zero_le c3
      have hroom := hcc.room
      have hxl' := hxl (by omega)
      rw [← hck] at hp
      cases m
      · simp only [Bool.false_eq_true, if_false] at hroom
        exact arm_invoke_false Q ρ3 t3 w3 fuel base bp br bs bi g cap _ v0 v1 vW vL u1 u2 u5 vX p limit words lines f a r _ _ h3 rfl rfl e k nv ns hk hkl hs.some_.2 hnv hns (by omega) (by omega) (by omega) (by omega) HQ
      · simp only [if_true] at hroom
        exact arm_invoke_true Q ρ3 t3 w3 fuel base bp br bs bi g cap _ v0 v1 vW vL u1 u2 u5 vX p limit words lines f a r _ _ h3 rfl rfl e k nv ns hk hkl hs.some_.2 hnv hns (by omega) (by omega) (by omega) (by omega) HQ
  · exact arm_show2 Q ρ3 t3 w3 fuel m base bp br bs bi g cap _ v0 v1 vW vL u1 u2 u5 vX p limit words lines f a r _ _ h3 rfl rfl e a' b ha hxI hww hll HQ
  · exact arm_show1 Q ρ3 t3 w3 fuel m base bp br bs bi g cap _ v0 v1 vW vL u1 u2 u5 vX p limit words lines f a r _ _ h3 rfl rfl e a' ha hxI hww hll HQ
  · exact arm_jump Q ρ3 t3 w3 fuel m base bp br bs bi g cap _ v0 v1 vW vL u1 u2 u5 vX p limit words lines f a r _ _ h3 rfl rfl e tt ht HQ
  · exact arm_choose Q ρ3 t3 w3 fuel m base bp br bs bi g cap _ v0 v1 vW vL u1 u2 u5 vX p limit words lines f a r _ _ h3 rfl rfl e a' tt u ha ht HQ
  · obtain ⟨n, hn⟩ : ∃ n, (instrAt p f).to.length = n + 1 := ⟨(instrAt p f).to.length - 1, by omega⟩
    have hn5 : n ≤ 9223372036854775806 := by
      obtain ⟨a5, c5, -, h51, h52, -⟩ := rInts_val h3.i5
      unfold maxLen at h52
      omega
    exact arm_pick Q ρ3 t3 w3 fuel m base bp br bs bi g cap _ v0 v1 vW vL u1 u2 u5 vX p limit words lines f a r _ _ h3 rfl rfl e a' n ha hn hn5 (hlb ht') HQ
  · have hxl' := hxl (by omega)
    cases r with
    | nil => exact arm_back0 Q ρ3 t3 w3 fuel m base bp br bs bi g cap _ v0 v1 vW vL u1 u2 u5 vX p limit words lines f a [] _ _ h3 rfl rfl e rfl HQ
    | cons x r' =>
      obtain ⟨f1, a1⟩ := x
      obtain ⟨hw1, hw2⟩ := Chain.want hchain
      simp only [List.length_cons] at hlen
      cases m
      · simp only [Bool.false_eq_true, if_false] at hw2
        exact arm_back_false Q ρ3 t3 w3 fuel base bp br bs bi g cap _ v0 v1 vW vL u1 u2 u5 vX p limit words lines f a _ _ _ h3 rfl rfl e f1 a1 r' rfl (by omega) (by omega) (by omega) hw2 HQ
      · simp only [if_true] at hw2
        exact arm_back_true Q ρ3 t3 w3 fuel base bp br bs bi g cap _ v0 v1 vW vL u1 u2 u5 vX p limit words lines f a _ _ _ h3 rfl rfl e f1 a1 r' rfl (by omega) (by omega) (by omega) hw2 HQ
  · exact arm_fail Q ρ3 t3 w3 fuel m base bp br bs bi g cap _ v0 v1 vW vL u1 u2 u5 vX p limit words lines f a r _ _ h3 rfl rfl e HQ
  · exact arm_loadSlot Q ρ3 t3 w3 fuel m base bp br bs bi g cap _ v0 v1 vW vL u1 u2 u5 vX p limit words lines f a r _ _ h3 rfl rfl e d n hd hd' hn1 hn2 HQ
  · exact arm_storeSlot Q ρ3 t3 w3 fuel m base bp br bs bi g cap _ v0 v1 vW vL u1 u2 u5 vX p limit words lines f a r _ _ h3 rfl rfl e a' n ha hn1 hn2 HQ
end Go.Proofs.YtaomlfbcfmmhlaaDoor

/-
  ref.ranOf: the loop over steps.
-/
namespace Go.Proofs.YtaomlfbcfmmhlaaDoor
open Go.RowKit Go.Pst
set_option linter.unusedVariables false
set_option linter.unusedSimpArgs false
variable [Old]

noncomputable def ranLoop : Code := Code.sub [1, 1, 1, 1, 1, 0, 1, 0] ((Tryd.f64).body.getD .skip)
/-- What the loop over steps knows: so many steps are left at most. -/
def LoopI (fuel : Int) (m : Bool) (base bp br bs : Nat) (v0 v1 : Value) (p : PProg) (limit : Int) (R : Int × List ByteArray) (k : Nat) (a : Act) (w : World) : Prop :=
  ∃ t, a = ⟨t, []⟩ ∧ FrameIs t fuel m bp br bs ∧ ∃ ρ vW vL words lines fr, RunAt ρ w base bp br bs v0 v1 vW vL (slotOf t 11) p limit words lines fr ∧
    ((∃ n : Nat, slotOf t 12 = .int .i64 0 ∧ slotOf t 13 = .int .i64 (fuel - n) ∧ (n : Int) ≤ fuel ∧ k = n + 1 ∧ Fits p m limit (stateOf words lines fr) ∧ runF p m limit n (stateOf words lines fr) = R) ∨
     (∃ e : Int, slotOf t 12 = .int .i64 e ∧ e ≠ 0 ∧ k = 0 ∧ R = (e, lines)))

set_option maxRecDepth 100000 in
set_option maxHeartbeats 4000000 in
theorem loop_any (Q : Exit → Act → World → Prop) (t : Array Value) (w : World) (fuel : Int) (m : Bool) (base bp br bs : Nat) (v0 v1 : Value) (p : PProg) (limit : Int) (R : Int × List ByteArray) (k : Nat)
    (h0 : LoopI fuel m base bp br bs v0 v1 p limit R k ⟨t, []⟩ w) (hs : Sound p m) (hl0 : 0 ≤ limit) (hl : limit ≤ 20000) (hf0 : 0 ≤ fuel) (hf1 : fuel ≤ 10000000) (hn : ∀ f, LevOK p f → InI (instrAt p f).n)
    (HQ : Hid (∀ t' w', FrameIs t' fuel m bp br bs → slotOf t' 12 = .int .i64 R.1 → (∃ ρ vW vL words fr, RunAt ρ w' base bp br bs v0 v1 vW vL (slotOf t' 11) p limit words R.2 fr) → Q (.exit 2) ⟨t', []⟩ w')) :
    ranLoop.wp Tryd.prog Q ⟨t, []⟩ w := by
  show (Code.loop ranBody).wp Tryd.prog Q ⟨t, []⟩ w
  refine wp_loop_ghost (LoopI fuel m base bp br bs v0 v1 p limit R) k h0 ?_
  clear h0 t w
  rintro n _ w ⟨t, rfl, hF, ρ, vW, vL, words, lines, fr, hR, h⟩
  have H := Lib.hid hR
  rcases h with ⟨n, h12, h13, hnf, rfl, hfit, hrun⟩ | ⟨e, h12, he, rfl, rfl⟩
  · have Hfit := Lib.hid hfit
    have Hrun := Lib.hid hrun
    cases n with
    | zero =>
      have hR0 : R = (6, lines) := hrun.symm
      have h13' : slotOf t 13 = .int .i64 fuel := by rw [h13]; simp
      subst hR0
      unfold ranBody
      conv => arg 2; whnf
      rw [frame473 t hF.size, hF.s2, hF.s3, hF.s4, hF.s8, hF.s9, h12, h13']
      generalize h11 : slotOf t 11 = vC at *
      have H11 := Lib.hid h11
      clear hR hfit hrun h12 h13 h13' hF h11
      go_wp2_with fail
      exact HQ.out _ _ ⟨rfl, rfl, rfl, rfl, rfl, rfl⟩ rfl ⟨ρ, vW, vL, words, fr, H.out⟩
    | succ n =>
      have hne : (fuel - ((n + 1 : Nat) : Int) == fuel) = false := by simp; omega
      have hfr := hfit.some_.1
      obtain ⟨f, a, r, rfl⟩ : ∃ f a r, fr = (f, a) :: r := by
        cases fr with
        | nil => simp [stateOf] at hfr
        | cons x r => exact ⟨x.1, x.2, r, rfl⟩
      unfold ranBody
      conv => arg 2; whnf
      rw [frame473 t hF.size, hF.s2, hF.s3, hF.s4, hF.s8, hF.s9, h12, h13]
      generalize h11 : slotOf t 11 = vC at *
      have hq0 : (0 : Int) ≤ fuel - ((n + 1 : Nat) : Int) := by omega
      have hq1 : fuel - ((n + 1 : Nat) : Int) ≤ 10000000 := by omega
      have Hq2 := Lib.hid (show fuel - ((n + 1 : Nat) : Int) + 1 = fuel - (n : Int) by omega)
      clear hR hfit hrun h12 h13 hF h11
      generalize fuel - ((n + 1 : Nat) : Int) = st at *
      refine wp_seq_k fun K hK => ?_
      have HK := Lib.hid hK
      clear hK
      go_wp2_with fail
      refine HK.out _ _ ?_
      refine wp_seq_k fun K2 hK2 => ?_
      have HK2 := Lib.hid hK2
      clear hK2
      refine wp_block ?_
      refine wp_seq_k fun K3 hK3 => ?_
      have HK3 := Lib.hid hK3
      clear hK3
      go_wp2_with fail
      refine HK3.out _ _ ?_
      show ranS13.wp _ _ _ _
      refine step_any _ ρ _ w fuel m base bp br bs v0 v1 vW vL _ p limit words lines f a r ⟨rfl, rfl, rfl, rfl, rfl, rfl⟩ rfl rfl H.out Hfit.out hs hl0 hl (Lib.hid ?_)
      rintro t' w' ⟨hF', h13', h12', ρ', vW', vL', fr', hR', hfr'⟩
      refine HK2.out _ _ ?_
      have h13'' : slotOf t' 13 = .int .i64 st := h13'
      generalize h11' : slotOf t' 11 = vC' at *
      rw [frame473 t' hF'.size, hF'.s2, hF'.s3, hF'.s4, hF'.s8, hF'.s9, h11', h12', h13'']
      have HR' := Lib.hid hR'
      have Hfr' := Lib.hid hfr'
      clear hR' hfr' h13' h12' h13'' hF' h11'
      generalize ho : stepF p m limit (stateOf words lines ((f, a) :: r)) = o at *
      have Ho := Lib.hid ho
      clear ho
      go_wp2_with fail
      have hst : stateOf o.2.words o.2.lines fr' = o.2 := by unfold stateOf; rw [Hfr'.out]
      by_cases hz : o.1 = 0
      · refine ⟨n + 1, by omega, _, rfl, ⟨rfl, rfl, rfl, rfl, rfl, rfl⟩, ρ', vW', vL', _, _, fr', HR'.out, Or.inl ⟨n, ?_, ?_, by omega, rfl, ?_, ?_⟩⟩
        · show Value.int .i64 o.1 = _
          rw [hz]
        · show Value.int .i64 (st + 1) = _
          rw [Hq2.out]
        · rw [hst, ← Ho.out]
          exact stepF_fits hs hn hl Hfit.out (by rw [Ho.out]; exact hz)
        · rw [hst, ← Hrun.out]
          show _ = (if (stepF p m limit (stateOf words lines ((f, a) :: r))).1 = 0 then _ else _)
          rw [Ho.out, if_pos hz]
      · refine ⟨0, by omega, _, rfl, ⟨rfl, rfl, rfl, rfl, rfl, rfl⟩, ρ', vW', vL', _, _, fr', HR'.out, Or.inr ⟨o.1, rfl, hz, rfl, ?_⟩⟩
        rw [← Hrun.out]
        show (if (stepF p m limit (stateOf words lines ((f, a) :: r))).1 = 0 then _ else _) = _
        rw [Ho.out, if_neg hz]
  · have hez : (e == 0) = false := by simpa using he
    unfold ranBody
    conv => arg 2; whnf
    rw [frame473 t hF.size, hF.s2, hF.s3, hF.s4, hF.s8, hF.s9, h12]
    generalize h11 : slotOf t 11 = vC at *
    generalize h13 : slotOf t 13 = v13 at *
    clear hR h12 hF h11 h13 he
    go_wp2_with fail
    exact HQ.out _ _ ⟨rfl, rfl, rfl, rfl, rfl, rfl⟩ rfl ⟨ρ, vW, vL, words, fr, H.out⟩
end Go.Proofs.YtaomlfbcfmmhlaaDoor

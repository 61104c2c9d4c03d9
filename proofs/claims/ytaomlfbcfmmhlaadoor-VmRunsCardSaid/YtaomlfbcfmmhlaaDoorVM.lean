/-
  Texts joined: VmInstr VmCode IrCode.
-/
import Derived.Test.YtaomlfbcfmmhlaaDoorVI
import Derived.Deep.RegionWith
import Derived.Deep.CutBlock

/-
  vm.checkInstr: the contract.
-/
namespace Go.Proofs.YtaomlfbcfmmhlaaDoor
open Go.RowKit Go.Pst
set_option linter.unusedVariables false

/-- The row that was looked up, in a variable of its own. -/
def RowAt (w0 wx : World) (s7 : Value) (r : Int × Int × Int) : Prop := ∃ bk, s7 = .pointer (some ⟨bk, 0, none⟩) ∧ w0.heap.size ≤ bk ∧ bk < wx.heap.size ∧ Below w0.heap.size w0 wx ∧
  wx.cell? ⟨bk, 0, none⟩ = some (.int .i64 r.1) ∧ wx.cell? ⟨bk, 1, none⟩ = some (.int .i64 r.2.1) ∧ wx.cell? ⟨bk, 2, none⟩ = some (.int .i64 r.2.2)
theorem rowAt_mk {w0 w1 : World} {r : Int × Int × Int} {t : TypeId} (hb : Below w0.heap.size w0 w1) : RowAt w0 (w1.alloc (.cells #[.int .i64 r.1, .int .i64 r.2.1, .int .i64 r.2.2] t)) (.pointer (some ⟨w1.heap.size, 0, none⟩)) r := by
  refine ⟨_, rfl, hb.size, by simp, hb.alloc hb.size _, ?_, ?_, ?_⟩ <;> (rw [World.cell?_alloc_at _ _ _ _ rfl]; rfl)
/-- Three fresh zeros. -/
def ZerosAt (w : World) (b : Nat) : Prop := ∀ j, j < 3 → w.cell? ⟨b, j, none⟩ = some (.int .i64 0) ∧ w.frozen? ⟨b, j, none⟩ = false
theorem zerosAt_mk {w0 w' : World} {t : TypeId} (h : Below (w0.heap.size + 1) (w0.alloc (.cells #[.int .i64 0, .int .i64 0, .int .i64 0] t)).drew w') : ZerosAt w' w0.heap.size := by
  intro j hj
  constructor
  · rw [h.cell (p := ⟨w0.heap.size, j, none⟩) (Nat.lt_succ_self _)]
    show (w0.alloc _).cell? _ = _
    rw [World.cell?_alloc_at _ _ _ _ rfl]
    match j, hj with
    | 0, _ | 1, _ | 2, _ => rfl
  · rw [h.frozen (p := ⟨w0.heap.size, j, none⟩) (Nat.lt_succ_self _)]
    show (w0.alloc _).frozen? _ = _
    exact World.frozen?_alloc_new _ _ _ _
theorem rowAt_set {w0 w1 : World} {r : Int × Int × Int} (hb : Below w0.heap.size w0 w1) (hlt : w0.heap.size + 1 < w1.heap.size) (hz : ZerosAt w1 w0.heap.size) :
    RowAt w0 (((w1.setCell ⟨w0.heap.size, 0, none⟩ (.int .i64 r.1)).setCell ⟨w0.heap.size, 1, none⟩ (.int .i64 r.2.1)).setCell ⟨w0.heap.size, 2, none⟩ (.int .i64 r.2.2)) (.pointer (some ⟨w0.heap.size, 0, none⟩)) r := by
  have e0 := (hz 0 (by decide)).1
  have e1 := (hz 1 (by decide)).1
  have e2 := (hz 2 (by decide)).1
  refine ⟨_, rfl, Nat.le_refl _, by simp only [World.size_setCell]; omega, ((hb.setCell (Nat.le_refl _) _).setCell (Nat.le_refl _) _).setCell (Nat.le_refl _) _, ?_, ?_, ?_⟩
  · rw [World.cell?_setCell_other (h := by simp), World.cell?_setCell_other (h := by simp), World.cell?_setCell_same (h := e0)]
  · rw [World.cell?_setCell_other (h := by simp), World.cell?_setCell_same (u := .int .i64 0) (h := by rw [World.cell?_setCell_other (h := by simp)]; exact e1)]
  · rw [World.cell?_setCell_same (u := .int .i64 0) (h := by rw [World.cell?_setCell_other (h := by simp), World.cell?_setCell_other (h := by simp)]; exact e2)]
theorem RowAt.below {w0 wx : World} {s7 : Value} {r : Int × Int × Int} (h : RowAt w0 wx s7 r) : Below w0.heap.size w0 wx := by obtain ⟨bk, _, _, _, h, _⟩ := h; exact h
theorem grown_cell {w w' : World} {b k o : Nat} (hg : w.grownBy w' (some k)) (hlt : b < w.heap.size) (hne : b ≠ k) : w'.cell? ⟨b, o, none⟩ = w.cell? ⟨b, o, none⟩ :=
  World.cell?_of_block (w := w) (a := ⟨b, o, none⟩) (hg.block b hlt (by simpa using hne))
def wantF (s : ByteArray) : Nat := if s = sInt then 1 else if s = sBool then 1 else if s = sText then 2 else 0
theorem showGet (s : ByteArray) : (lookI (putI (putI (putI ([] : IMap ByteArray) sInt (.int .i64 1)) sBool (.int .i64 1)) sText (.int .i64 2)) s).getD (.int .i64 0) = .int .i64 (wantF s) := by
  have e : putI (putI (putI ([] : IMap ByteArray) sInt (.int .i64 1)) sBool (.int .i64 1)) sText (.int .i64 2) = [(sInt, .int .i64 1), (sBool, .int .i64 1), (sText, .int .i64 2)] := by
    simp [putI, show ¬ sInt = sBool by decide, show ¬ sInt = sText by decide, show ¬ sBool = sText by decide]
  rw [e]
  unfold wantF
  by_cases h1 : s = sInt
  · subst h1; rfl
  · have h1' : ¬ sInt = s := fun h => h1 h.symm
    by_cases h2 : s = sBool
    · subst h2; rfl
    · have h2' : ¬ sBool = s := fun h => h2 h.symm
      by_cases h3 : s = sText
      · subst h3; rfl
      · have h3' : ¬ sText = s := fun h => h3 h.symm
        simp [lookI, h1, h2, h3, h1', h2', h3']
theorem vmGood8 {fs : List PCode} {slots results : Int} {x : PInstr} (h8 : x.op = 8) : vmGood fs slots results x =
    if x.s = sText then (if x.ars.length = 2 then 0 else 10) else if x.s = sInt ∨ x.s = sBool then (if x.ars.length = 1 then 0 else 10) else 4 := by
  unfold vmGood
  rw [if_neg (show ¬ (x.op = 21 ∨ x.op = 22) by omega), if_neg (show ¬ x.op = 3 by omega), if_pos h8]
theorem show_good {fs : List PCode} {slots results : Int} {x : PInstr} (h8 : x.op = 8) : wantF x.s = 0 ∧ vmGood fs slots results x = 4 ∨ wantF x.s ≠ 0 ∧ vmGood fs slots results x = if x.ars.length = wantF x.s then 0 else 10 := by
  rw [vmGood8 h8]
  by_cases h1 : x.s = sInt
  · have e : wantF x.s = 1 := by unfold wantF; rw [if_pos h1]
    right
    rw [e, if_neg (show ¬ x.s = sText by rw [h1]; decide), if_pos (Or.inl h1)]
    exact ⟨by decide, rfl⟩
  · by_cases h2 : x.s = sBool
    · have e : wantF x.s = 1 := by unfold wantF; rw [if_neg h1, if_pos h2]
      right
      rw [e, if_neg (show ¬ x.s = sText by rw [h2]; decide), if_pos (Or.inr h2)]
      exact ⟨by decide, rfl⟩
    · by_cases h3 : x.s = sText
      · have e : wantF x.s = 2 := by unfold wantF; rw [if_neg h1, if_neg h2, if_pos h3]
        right
        rw [e, if_pos h3]
        exact ⟨by decide, rfl⟩
      · have e : wantF x.s = 0 := by unfold wantF; rw [if_neg h1, if_neg h2, if_neg h3]
        left
        rw [e, if_neg h3, if_neg (show ¬ (x.s = sInt ∨ x.s = sBool) from fun h => h.elim h1 h2)]
        exact ⟨rfl, rfl⟩
theorem lt_of_cell2 {W : World} {b o : Nat} {v : Value} (h : W.cell? ⟨b, o, none⟩ = some v) : b < W.heap.size := by
  rcases Nat.lt_or_ge b W.heap.size with h' | h'
  · exact h'
  · simp [World.cell?, Array.getElem?_eq_none h'] at h
def callB (op : Int) : Bool := decide (op = 7) || decide (op = 12)
theorem zeroRow (w : World) : (zeroValue 226).run Tryd.prog w = .ok (row3 (0, 0, 0)) w := by kernel_rfl
theorem zeroInt (w : World) : (zeroValue 3).run Tryd.prog w = .ok (.int .i64 0) w := by kernel_rfl

theorem lookup_none {w1 : World} {b : Nat} {op : Int} (hm : MapI w1 b rulesI) (h : lookI rulesI op = none) :
    (Instr.lookup 228 (.map (some b)) (.int .i64 op) true).run Tryd.prog w1 = .ok (.tuple #[.agg #[.int .i64 0, .int .i64 0, .int .i64 0], .bool false]) w1 := by
  have := hm.lookup (P := Tryd.prog) (t := 228) Tryd.underlying228 Tryd.underlying3 (zeroRow w1) op true
  rw [h] at this
  exact this
theorem lookup_row {w1 : World} {b : Nat} {op : Int} {r : Int × Int × Int} (hm : MapI w1 b rulesI) (h : lookI rulesI op = some (row3 r)) :
    (Instr.lookup 228 (.map (some b)) (.int .i64 op) true).run Tryd.prog w1 = .ok (.tuple #[.agg #[.int .i64 r.1, .int .i64 r.2.1, .int .i64 r.2.2], .bool true]) w1 := by
  have := hm.lookup (P := Tryd.prog) (t := 228) Tryd.underlying228 Tryd.underlying3 (zeroRow w1) op true
  rw [h] at this
  exact this

set_option maxRecDepth 4000 in
set_option maxHeartbeats 4000000 in
theorem vmInstr_any (fs : List PCode) (p0 p1 : Value) (c : PCode) (ccs : List Value) (x : PInstr) (xcs : List Value) (w : World) (hp : rCodes (fun _ => True) w [p0] fs)
    (hc : rCode (fun _ => True) w ccs c) (hx : rInstr (fun _ => True) w xcs x) (hL : VmLaid w) :
    Calls Tryd.prog 155 #[.agg #[p0, p1], .agg ccs.toArray, .agg xcs.toArray] w fun e w' => e = .returned (.int .i64 (machineInstrFaultF fs c.vars c.slots c.results c.blocks.length x)) ∧ Below w.heap.size w w' := by
  have Hx := Lib.hid hx
  have Hp := Lib.hid hp
  obtain ⟨v5, rfl, ⟨-, -, hres, hvars, -⟩, hbs⟩ := hc
  obtain ⟨v1, v2, v6, rfl, ⟨hop, hn, hs⟩, h1, h2, h6⟩ := hx
  obtain ⟨a5, c5, rfl, hcap5, hmax5, -⟩ := rSlice_one hbs
  obtain ⟨a1, c1, rfl, hl1, hat1, -⟩ := rInts_open h1
  obtain ⟨a2, c2, rfl, hl2, hat2, -⟩ := rInts_open h2
  obtain ⟨a6, c6, rfl, hl6, hat6, -⟩ := rInts_open h6
  unfold maxLen at hmax5
  have hnb : c.blocks.length ≤ 9223372036854775807 := by omega
  have Hat1 := Lib.hid hat1
  have Hat2 := Lib.hid hat2
  have Hat6 := Lib.hid hat6
  clear hbs h1 h2 h6 hcap5 hmax5 hop hn hs hvars hres hat1 hat2 hat6 hp
  generalize c.blocks.length = nb at *
  generalize c.vars = vars at *
  generalize c.slots = slots at *
  generalize c.results = results at *
  generalize hF : machineInstrFaultF fs vars slots results nb x = F at *
  have HF := Lib.hid hF
  clear hF
  have HL := Lib.hid hL
  clear hL
  generalize hop : x.op = op at *
  have Hop := Lib.hid hop
  clear hop
  go_enter Tryd.func155, Tryd.ntmps155
  go_upto_region 1 with fail
  generalize hw0 : ((w.alloc (.cells #[p0, p1] 25)).alloc (.cells #[.string c.name, .int .i64 c.params, .int .i64 results, .int .i64 vars, .int .i64 slots, .slice a5 nb c5] 28)).alloc
        (.cells #[.int .i64 op, .slice a1 x.ds.length c1, .slice a2 x.ars.length c2, .int .i64 x.n, .string x.s, .slice a6 x.to.length c6] 53) = w0
  have hbel : Below w.heap.size w w0 := by rw [← hw0]; exact below_box3 _ _ _ _
  have hsz : w0.heap.size = w.heap.size + 3 := by rw [← hw0]; simp
  have bp0 : w0.cell? ⟨w.heap.size, 0, none⟩ = some p0 := by rw [← hw0, box3_1]; rfl
  have bp1 : w0.cell? ⟨w.heap.size, 1, none⟩ = some p1 := by rw [← hw0, box3_1]; rfl
  have bc2 : w0.cell? ⟨w.heap.size + 1, 2, none⟩ = some (.int .i64 results) := by rw [← hw0, box3_2]; rfl
  have bc3 : w0.cell? ⟨w.heap.size + 1, 3, none⟩ = some (.int .i64 vars) := by rw [← hw0, box3_2]; rfl
  have bc4 : w0.cell? ⟨w.heap.size + 1, 4, none⟩ = some (.int .i64 slots) := by rw [← hw0, box3_2]; rfl
  have bc5 : w0.cell? ⟨w.heap.size + 1, 5, none⟩ = some (.slice a5 nb c5) := by rw [← hw0, box3_2]; rfl
  have bx0 : w0.cell? ⟨w.heap.size + 1 + 1, 0, none⟩ = some (.int .i64 op) := by rw [← hw0, box3_3]; rfl
  have bx1 : w0.cell? ⟨w.heap.size + 1 + 1, 1, none⟩ = some (.slice a1 x.ds.length c1) := by rw [← hw0, box3_3]; rfl
  have bx2 : w0.cell? ⟨w.heap.size + 1 + 1, 2, none⟩ = some (.slice a2 x.ars.length c2) := by rw [← hw0, box3_3]; rfl
  have bx3 : w0.cell? ⟨w.heap.size + 1 + 1, 3, none⟩ = some (.int .i64 x.n) := by rw [← hw0, box3_3]; rfl
  have bx4 : w0.cell? ⟨w.heap.size + 1 + 1, 4, none⟩ = some (.string x.s) := by rw [← hw0, box3_3]; rfl
  have bx5 : w0.cell? ⟨w.heap.size + 1 + 1, 5, none⟩ = some (.slice a6 x.to.length c6) := by rw [← hw0, box3_3]; rfl
  have Hbel := Lib.hid hbel
  have Hsz := Lib.hid hsz
  clear hw0 hbel hsz
  have hrl : Calls Tryd.prog 183 #[] w0.drew (fun e w' => e = .returned (.map (some w0.heap.size)) ∧ MapI w' w0.heap.size rulesI ∧ Below w0.heap.size w0 w' ∧ w0.heap.size < w'.heap.size) :=
    (vmRules_any w0.drew).mono (fun e w' h => ⟨h.1, h.2.1, ((Drawn.drew w0).below _).trans h.2.2.1, h.2.2.2⟩)
  have Hrl := Lib.hid hrl
  have hrl2 : Calls Tryd.prog 183 #[] (w0.alloc (.cells #[.int .i64 0, .int .i64 0, .int .i64 0] 226)).drew (fun e w' => e = .returned (.map (some (w0.heap.size + 1))) ∧ MapI w' (w0.heap.size + 1) rulesI ∧ Below w0.heap.size w0 w' ∧ w0.heap.size + 1 < w'.heap.size ∧ ZerosAt w' w0.heap.size) := by
    refine (vmRules_any (w0.alloc (.cells #[.int .i64 0, .int .i64 0, .int .i64 0] 226)).drew).mono (fun e w' h => ?_)
    have hz : (w0.alloc (.cells #[.int .i64 0, .int .i64 0, .int .i64 0] 226)).drew.heap.size = w0.heap.size + 1 := by show (w0.alloc _).heap.size = _; simp
    rw [hz] at h
    obtain ⟨h1, h2, h3, h4⟩ := h
    exact ⟨h1, h2, (((Below.refl _ _).alloc (Nat.le_refl _) _).trans ((Drawn.drew _).below _)).trans (h3.mono (by omega)), h4, zerosAt_mk h3⟩
  have Hrl2 := Lib.hid hrl2
  clear hrl hrl2
  have hq2 : ∀ o, (w0.alloc o).cell? ⟨w.heap.size + 1 + 1, 0, none⟩ = some (.int .i64 op) := fun o => (World.cell?_alloc_lt _ _ _ (show w.heap.size + 1 + 1 < w0.heap.size by have := Hsz.out; omega)).trans bx0
  rcases vmCase_of fs vars slots results nb x with ⟨hr, h3⟩ | ⟨r, most, hcase⟩
  · rw [HF.out] at h3
    subst h3
    rw [Hop.out] at hr
    have Hr := Lib.hid hr
    clear hr
    go_region_with (first | (go_at_call 183; refine (Hrl.out).mono ?_; rintro e w1 ⟨rfl, hm, hb1, hlt1⟩; have hq0 : w1.cell? ⟨w.heap.size + 1 + 1, 0, none⟩ = _ := (hb1.cell (p := ⟨w.heap.size + 1 + 1, 0, none⟩) (by have := Hsz.out; show w.heap.size + 1 + 1 < w0.heap.size; omega)).trans bx0; have hlk : (Instr.lookup 228 (.map (some w0.heap.size)) (.int .i64 op) true).run Tryd.prog w1 = .ok (.tuple #[.agg #[.int .i64 0, .int .i64 0, .int .i64 0], .bool false]) w1 := lookup_none hm Hr.out; have hlk2 : ∀ o, (Instr.lookup 228 (.map (some w0.heap.size)) (.int .i64 op) true).run Tryd.prog (w1.alloc o) = .ok (.tuple #[.agg #[.int .i64 0, .int .i64 0, .int .i64 0], .bool false]) (w1.alloc o) := fun o => lookup_none (hm.alloc o) Hr.out; have hq1 : ∀ o, (w1.alloc o).cell? ⟨w.heap.size + 1 + 1, 0, none⟩ = some (.int .i64 op) := fun o => (World.cell?_alloc_lt _ _ _ (show w.heap.size + 1 + 1 < w1.heap.size by have := Hsz.out; omega)).trans hq0; clear hm hlt1; have Hb1 := Lib.hid hb1; clear hb1) | (go_at_call 183; refine (Hrl2.out).mono ?_; rintro e w1 ⟨rfl, hm, hb1, hlt1, hz1⟩; have hq0 : w1.cell? ⟨w.heap.size + 1 + 1, 0, none⟩ = _ := (hb1.cell (p := ⟨w.heap.size + 1 + 1, 0, none⟩) (by have := Hsz.out; show w.heap.size + 1 + 1 < w0.heap.size; omega)).trans bx0; have hlk : (Instr.lookup 228 (.map (some (w0.heap.size + 1))) (.int .i64 op) true).run Tryd.prog w1 = .ok (.tuple #[.agg #[.int .i64 0, .int .i64 0, .int .i64 0], .bool false]) w1 := lookup_none hm Hr.out; have z0 := hz1 0 (by decide); have z1 := hz1 1 (by decide); have z2 := hz1 2 (by decide); have Hz1 := Lib.hid hz1; have Hlt1 := Lib.hid hlt1; clear hm hz1 hlt1; have Hb1 := Lib.hid hb1; clear hb1))
    all_goals
      go_wp2_with fail
      go_ret
      first | exact ⟨rfl, Hbel.out.trans ((rowAt_mk (r := (0, 0, 0)) Hb1.out).below.mono Hbel.out.size)⟩ | exact ⟨rfl, Hbel.out.trans ((rowAt_set (r := (0, 0, 0)) Hb1.out Hlt1.out Hz1.out).below.mono Hbel.out.size)⟩
  obtain ⟨r0, r1, r2⟩ := r
  have hrow := hcase.row
  rw [Hop.out] at hrow
  have Hrow := Lib.hid hrow
  have Hcase := Lib.hid hcase
  clear hrow hcase
  go_cut [7, 8] from 12 to 18 (fun s7 s8 wx => s8 = .bool true ∧ RowAt w0 wx s7 (r0, r1, r2))
  case first =>
    clear Hat1 Hat2 Hat6 Hx Hp HL Hcase HF
    go_region_with (first | (go_at_call 183; refine (Hrl.out).mono ?_; rintro e w1 ⟨rfl, hm, hb1, hlt1⟩; have hq0 : w1.cell? ⟨w.heap.size + 1 + 1, 0, none⟩ = _ := (hb1.cell (p := ⟨w.heap.size + 1 + 1, 0, none⟩) (by have := Hsz.out; show w.heap.size + 1 + 1 < w0.heap.size; omega)).trans bx0; have hlk : (Instr.lookup 228 (.map (some w0.heap.size)) (.int .i64 op) true).run Tryd.prog w1 = .ok (.tuple #[.agg #[.int .i64 r0, .int .i64 r1, .int .i64 r2], .bool true]) w1 := lookup_row hm Hrow.out; have hlk2 : ∀ o, (Instr.lookup 228 (.map (some w0.heap.size)) (.int .i64 op) true).run Tryd.prog (w1.alloc o) = .ok (.tuple #[.agg #[.int .i64 r0, .int .i64 r1, .int .i64 r2], .bool true]) (w1.alloc o) := fun o => lookup_row (hm.alloc o) Hrow.out; have hq1 : ∀ o, (w1.alloc o).cell? ⟨w.heap.size + 1 + 1, 0, none⟩ = some (.int .i64 op) := fun o => (World.cell?_alloc_lt _ _ _ (show w.heap.size + 1 + 1 < w1.heap.size by have := Hsz.out; omega)).trans hq0; clear hm hlt1; have Hb1 := Lib.hid hb1; clear hb1) | (go_at_call 183; refine (Hrl2.out).mono ?_; rintro e w1 ⟨rfl, hm, hb1, hlt1, hz1⟩; have hq0 : w1.cell? ⟨w.heap.size + 1 + 1, 0, none⟩ = _ := (hb1.cell (p := ⟨w.heap.size + 1 + 1, 0, none⟩) (by have := Hsz.out; show w.heap.size + 1 + 1 < w0.heap.size; omega)).trans bx0; have hlk : (Instr.lookup 228 (.map (some (w0.heap.size + 1))) (.int .i64 op) true).run Tryd.prog w1 = .ok (.tuple #[.agg #[.int .i64 r0, .int .i64 r1, .int .i64 r2], .bool true]) w1 := lookup_row hm Hrow.out; have z0 := hz1 0 (by decide); have z1 := hz1 1 (by decide); have z2 := hz1 2 (by decide); have Hz1 := Lib.hid hz1; have Hlt1 := Lib.hid hlt1; clear hm hz1 hlt1; have Hb1 := Lib.hid hb1; clear hb1))
    all_goals
      go_wp2_with fail
      go_meet
      case rel => first | exact ⟨rfl, rowAt_mk (r := (r0, r1, r2)) Hb1.out⟩ | exact ⟨rfl, rowAt_set (r := (r0, r1, r2)) Hb1.out Hlt1.out Hz1.out⟩
  case rest =>
    obtain ⟨rfl, bk, rfl, hbk0, hbk1, hbw, k0, k1, k2⟩ := hcut
    obtain ⟨w1, hw1⟩ : ∃ w1 : World, w1 = wc := ⟨_, rfl⟩
    subst hw1
    have up : ∀ {b o : Nat} {v : Value}, b < w0.heap.size → w0.cell? ⟨b, o, none⟩ = some v → w1.cell? ⟨b, o, none⟩ = some v := fun {b o v} h e => (hbw.cell (p := ⟨b, o, none⟩) h).trans e
    have hs3 := Hsz.out
    replace bp0 := up (by omega) bp0
    replace bp1 := up (by omega) bp1
    replace bc2 := up (by omega) bc2
    replace bc3 := up (by omega) bc3
    replace bc4 := up (by omega) bc4
    replace bc5 := up (by omega) bc5
    replace bx0 := up (by omega) bx0
    replace bx1 := up (by omega) bx1
    replace bx2 := up (by omega) bx2
    replace bx3 := up (by omega) bx3
    replace bx4 := up (by omega) bx4
    replace bx5 := up (by omega) bx5
    have Hlow := Lib.hid (show Below w.heap.size w w1 from Hbel.out.trans (hbw.mono Hbel.out.size))
    have Hszw := Lib.hid (show w.heap.size + 3 ≤ w1.heap.size by omega)
    clear up hs3 hbk0 hbw Hrl Hrl2 Hrow hq2 Hbel Hsz
    go_upto_region 4 with fail
    go_cut [68] from 21 to 68 (fun s68 wx => s68 = .bool (badRB (r0, r1, r2) x) ∧ wx = w1)
    case first =>
      clear Hat1 Hat2 Hat6 Hx Hp HL Hcase HF
      rcases stage x.ds.length r0 with ⟨q1, q2, hb⟩ | ⟨q1, hb⟩ | ⟨q1, q2, hb⟩
      · have Hb := Lib.hid (badRB_t (r := (r0, r1, r2)) (x := x) (Or.inl hb))
        clear hb
        go_wp2_with fail
        go_meet
        case rel => exact ⟨by rw [Hb.out], rfl⟩
      all_goals
        have Hb1 := Lib.hid hb
        clear hb
      all_goals
        rcases stage x.ars.length r1 with ⟨q3, q4, hb⟩ | ⟨q3, hb⟩ | ⟨q3, q4, hb⟩
        · have Hb := Lib.hid (badRB_t (r := (r0, r1, r2)) (x := x) (Or.inr (Or.inl hb)))
          clear hb
          go_wp2_with fail
          go_meet
          case rel => exact ⟨by rw [Hb.out], rfl⟩
        all_goals
          have Hb2 := Lib.hid hb
          clear hb
      all_goals
        rcases stage x.to.length r2 with ⟨q5, q6, hb⟩ | ⟨q5, hb⟩ | ⟨q5, q6, hb⟩
        · have Hb := Lib.hid (badRB_t (r := (r0, r1, r2)) (x := x) (Or.inr (Or.inr (Or.inl hb))))
          clear hb
          go_wp2_with fail
          go_meet
          case rel => exact ⟨by rw [Hb.out], rfl⟩
        all_goals
          have Hb3 := Lib.hid hb
          clear hb
      all_goals
        by_cases h11 : op = 11
        case neg =>
          have o11 : (op == 11) = false := by simpa using h11
          have Hb := Lib.hid (badRB_f (r := (r0, r1, r2)) (x := x) (fun h => h.elim Hb1.out (fun h => h.elim Hb2.out (fun h => h.elim Hb3.out (fun h => h11 (Hop.out ▸ h.1))))))
          clear h11
          go_wp2_with fail
          go_meet
          case rel => exact ⟨by rw [Hb.out], rfl⟩
        case pos =>
          have o11 : (op == 11) = true := by simpa using h11
          by_cases ht : x.to.length = 0
          · have t0 : ((x.to.length : Int) == 0) = true := by simpa using ht
            have Hb := Lib.hid (badRB_t (r := (r0, r1, r2)) (x := x) (Or.inr (Or.inr (Or.inr ⟨Hop.out.trans h11, ht⟩))))
            clear h11 ht
            go_wp2_with fail
            go_meet
            case rel => exact ⟨by rw [Hb.out], rfl⟩
          · have t0 : ((x.to.length : Int) == 0) = false := by simpa using ht
            have Hb := Lib.hid (badRB_f (r := (r0, r1, r2)) (x := x) (fun h => h.elim Hb1.out (fun h => h.elim Hb2.out (fun h => h.elim Hb3.out (fun h => ht h.2)))))
            clear h11 ht
            go_wp2_with fail
            go_meet
            case rel => exact ⟨by rw [Hb.out], rfl⟩
    case rest =>
      obtain ⟨rfl, rfl⟩ := hcut
      clear k0 k1 k2
      by_cases hbad : badR (r0, r1, r2) x
      · have Hb := Lib.hid (Hcase.out.count hbad)
        rw [badRB_t hbad]
        clear hbad
        go_wp2_with fail
        go_ret
        exact ⟨by rw [show F = 10 from HF.out.symm.trans Hb.out]; rfl, Hlow.out⟩
      rw [badRB_f hbad]
      have Hrange := Lib.hid (Hcase.out.range hbad)
      have Hgood := Lib.hid (Hcase.out.good hbad)
      have hmost := Hcase.out.mostIs
      rw [Hop.out] at hmost
      have Hmost := Lib.hid hmost
      clear hbad hmost Hcase
      obtain ⟨w2, hw2⟩ : ∃ w2 : World, w2 = wc := ⟨_, rfl⟩
      subst hw2
      have ha0 : ∀ o, (w2.alloc o).cell? ⟨w.heap.size + 1 + 1, 0, none⟩ = some (.int .i64 op) := fun o => (World.cell?_alloc_lt _ _ _ (show w.heap.size + 1 + 1 < w2.heap.size by have := Hszw.out; omega)).trans bx0
      have ha4 : ∀ o, (w2.alloc o).cell? ⟨w.heap.size + 1, 4, none⟩ = some (.int .i64 slots) := fun o => (World.cell?_alloc_lt _ _ _ (show w.heap.size + 1 < w2.heap.size by have := Hszw.out; omega)).trans bc4
      go_upto_region 7 with fail
      go_cut [78] from 71 to 78 (fun s78 wx => s78 = .bool (callB op) ∧ wx = w2.alloc (.cells #[.int .i64 vars] 3))
      case first =>
        clear Hat1 Hat2 Hat6 Hx Hp HL HF Hrange Hgood
        by_cases e7 : op = 7
        · have o7 : (op == 7) = true := by simpa using e7
          have Hc := Lib.hid (show callB op = true by simp [callB, e7])
          clear e7
          go_wp2_with fail
          go_meet
          case rel => exact ⟨by rw [Hc.out], rfl⟩
        have o7 : (op == 7) = false := by simpa using e7
        by_cases e12 : op = 12
        · have o12 : (op == 12) = true := by simpa using e12
          have Hc := Lib.hid (show callB op = true by simp [callB, e12])
          clear e7 e12
          go_wp2_with fail
          go_meet
          case rel => exact ⟨by rw [Hc.out], rfl⟩
        · have o12 : (op == 12) = false := by simpa using e12
          have Hc := Lib.hid (show callB op = false by simp [callB, e7, e12])
          clear e7 e12
          go_wp2_with fail
          go_meet
          case rel => exact ⟨by rw [Hc.out], rfl⟩
      case rest =>
      obtain ⟨rfl, hwv⟩ := hcut
      subst hwv
      go_upto_if 78 with fail
      go_cut [78, 79, 80] from 79 to 80 (fun s78 s79 s80 wx => s78 = .bool (callB op) ∧ wx = w2.alloc (.cells #[.int .i64 most] 3))
      case first =>
        clear Hat1 Hat2 Hat6 Hx Hp HL HF Hrange Hgood
        cases hcb : callB op with
        | true =>
          have hm : most = slots := by rw [Hmost.out, if_pos (by simpa [callB] using hcb)]
          subst hm
          have Hc := Lib.hid hcb
          clear hcb
          go_wp2_with fail
          go_meet
          case rel => exact ⟨by rw [Hc.out], rfl⟩
        | false =>
          have hm : most = vars := by rw [Hmost.out, if_neg (by simpa [callB] using hcb)]
          subst hm
          have Hc := Lib.hid hcb
          clear hcb
          go_wp2_with fail
          go_meet
          case rel => exact ⟨by rw [Hc.out], rfl⟩
      case rest =>
        obtain ⟨rfl, hw⟩ := hcut
        clear ha0 ha4
        have hb2 : Below w2.heap.size w2 wc := by rw [hw]; exact (Below.refl _ _).alloc (Nat.le_refl _) _
        have hm0 : wc.cell? ⟨w2.heap.size, 0, none⟩ = some (.int .i64 most) := by rw [hw, World.cell?_alloc_at _ _ _ _ rfl]; rfl
        have up : ∀ {b o : Nat} {v : Value}, b < w2.heap.size → w2.cell? ⟨b, o, none⟩ = some v → wc.cell? ⟨b, o, none⟩ = some v := fun {b o v} h e => (hb2.cell (p := ⟨b, o, none⟩) h).trans e
        have hs3 := Hszw.out
        replace bp0 := up (by omega) bp0
        replace bp1 := up (by omega) bp1
        replace bc2 := up (by omega) bc2
        replace bc4 := up (by omega) bc4
        replace bc5 := up (by omega) bc5
        replace bx0 := up (by omega) bx0
        replace bx1 := up (by omega) bx1
        replace bx2 := up (by omega) bx2
        replace bx3 := up (by omega) bx3
        replace bx4 := up (by omega) bx4
        replace bx5 := up (by omega) bx5
        have hlow : Below w.heap.size w wc := Hlow.out.trans (hb2.mono (by omega))
        have Hlw := Lib.hid hlow
        have en1 := enters_of (P := Tryd.prog) Tryd.func184 (by kernel_rfl) (by kernel_rfl)
        have en2 := enters_of (P := Tryd.prog) Tryd.func185 (by kernel_rfl) (by kernel_rfl)
        have F1 := Lib.hid (fun cc => containsFunc_ints 184 #[.pointer (some ⟨w2.heap.size, 0, none⟩)] (oddF most) a1 x.ds cc wc hl1 (Hat1.out.below hlow) en1 (odd3_answers most x.ds wc _ hm0))
        have F2 := Lib.hid (fun cc n => containsFunc_ints 184 #[.pointer (some ⟨w2.heap.size, 0, none⟩)] (oddF most) a2 x.ars cc (wc.drewN n) hl2 ((Hat2.out.below hlow).heap rfl) en1 ((odd3_answers most x.ars wc _ hm0).later ⟨n, rfl⟩))
        have F6 := Lib.hid (fun cc n => containsFunc_ints 185 #[.pointer (some ⟨w.heap.size + 1, 0, none⟩)] (oddF nb) a6 x.to cc (wc.drewN n) hl6 ((Hat6.out.below hlow).heap rfl) en2 ((odd4_answers nb x.to wc _ _ _ hnb bc5).later ⟨n, rfl⟩))
        have HL2 := Lib.hid (HL.out.below hlow)
        have Hp2 := Lib.hid (Good.kept (Keep.of_below' (S := fun _ => True) hlow (fun k hk _ => hk)) Hp.out)
        have Hx2 := Lib.hid (Good.kept (Keep.of_below' (S := fun _ => True) hlow (fun k hk _ => hk)) Hx.out)
        clear hw hb2 hm0 up hs3 hlow en1 en2 Hat1 Hat2 Hat6 bc3 HL Hlow
        go_wp2_with fail
        refine (F1.out _).mono ?_
        rintro e w3 ⟨rfl, n1, rfl⟩
        rw [any_oddF]
        cases q1 : inAll x.ds most with
        | false =>
          have Q1 := Lib.hid q1
          clear q1
          go_wp2_with fail
          go_ret
          exact ⟨by rw [show F = 2 from HF.out.symm.trans (Hrange.out (by rw [Q1.out]; rfl))]; rfl, Hlw.out.trans (Drawn.below (w := wc) ⟨_, rfl⟩ _)⟩
        | true =>
        have Q1 := Lib.hid q1
        clear q1
        go_wp2_with fail
        refine (F2.out _ _).mono ?_
        rintro e w3 ⟨rfl, n2, rfl⟩
        rw [any_oddF, World.drewN_drewN]
        generalize n1 + n2 = n2 at *
        cases q2 : inAll x.ars most with
        | false =>
          have Q2 := Lib.hid q2
          clear q2
          go_wp2_with fail
          go_ret
          exact ⟨by rw [show F = 2 from HF.out.symm.trans (Hrange.out (by rw [Q2.out]; simp))]; rfl, Hlw.out.trans (Drawn.below (w := wc) ⟨_, rfl⟩ _)⟩
        | true =>
        have Q2 := Lib.hid q2
        clear q2
        go_wp2_with fail
        refine (F6.out _ _).mono ?_
        rintro e w3 ⟨rfl, n3, rfl⟩
        rw [any_oddF, World.drewN_drewN]
        cases q6 : inAll x.to nb with
        | false =>
          have Q6 := Lib.hid q6
          clear q6
          go_wp2_with fail
          go_ret
          exact ⟨by rw [show F = 2 from HF.out.symm.trans (Hrange.out (by rw [Q6.out]; simp))]; rfl, Hlw.out.trans (Drawn.below (w := wc) ⟨_, rfl⟩ _)⟩
        | true =>
        have Q6 := Lib.hid q6
        clear q6
        have hg : F = vmGood fs slots results x := HF.out.symm.trans (Hgood.out (by rw [Q1.out, Q2.out, Q6.out]; rfl))
        have Hg := Lib.hid hg
        clear hg Q1 Q2 Q6 F1 F2 F6 Hrange Hgood Hmost
        generalize n2 + n3 = nn at *
        have Hdr := Lib.hid (Drawn.below (w := wc) (w' := wc.drewN nn) ⟨_, rfl⟩ wc.heap.size)
        by_cases h21 : op = 21
        · subst h21
          have Hg2 := Lib.hid (show F = if 0 ≤ x.n ∧ x.n ≤ slots - 1 then 0 else 2 by rw [Hg.out]; unfold vmGood; rw [if_pos (Or.inl Hop.out)])
          clear Hg
          by_cases n0 : x.n < 0
          · have b0 : decide (x.n < 0) = true := decide_eq_true n0
            have Nn := Lib.hid (show ¬ (0 ≤ x.n ∧ x.n ≤ slots - 1) by omega)
            clear n0
            go_wp2_with fail
            go_ret
            exact ⟨by rw [Hg2.out, if_neg Nn.out]; rfl, Hlw.out.trans (Drawn.below (w := wc) ⟨_, rfl⟩ _)⟩
          have b0 : decide (x.n < 0) = false := decide_eq_false n0
          by_cases n1 : slots ≤ x.n
          · have b1 : decide (x.n ≥ slots) = true := decide_eq_true n1
            have Nn := Lib.hid (show ¬ (0 ≤ x.n ∧ x.n ≤ slots - 1) by omega)
            clear n0 n1
            go_wp2_with fail
            go_ret
            exact ⟨by rw [Hg2.out, if_neg Nn.out]; rfl, Hlw.out.trans (Drawn.below (w := wc) ⟨_, rfl⟩ _)⟩
          · have b1 : decide (x.n ≥ slots) = false := decide_eq_false n1
            have Nn := Lib.hid (show 0 ≤ x.n ∧ x.n ≤ slots - 1 by omega)
            clear n0 n1
            go_wp2_with fail
            go_ret
            exact ⟨by rw [Hg2.out, if_pos Nn.out]; rfl, Hlw.out.trans (Drawn.below (w := wc) ⟨_, rfl⟩ _)⟩
        by_cases h22 : op = 22
        · subst h22
          have Hg2 := Lib.hid (show F = if 0 ≤ x.n ∧ x.n ≤ slots - 1 then 0 else 2 by rw [Hg.out]; unfold vmGood; rw [if_pos (Or.inr Hop.out)])
          clear Hg
          by_cases n0 : x.n < 0
          · have b0 : decide (x.n < 0) = true := decide_eq_true n0
            have Nn := Lib.hid (show ¬ (0 ≤ x.n ∧ x.n ≤ slots - 1) by omega)
            clear n0
            go_wp2_with fail
            go_ret
            exact ⟨by rw [Hg2.out, if_neg Nn.out]; rfl, Hlw.out.trans (Drawn.below (w := wc) ⟨_, rfl⟩ _)⟩
          have b0 : decide (x.n < 0) = false := decide_eq_false n0
          by_cases n1 : slots ≤ x.n
          · have b1 : decide (x.n ≥ slots) = true := decide_eq_true n1
            have Nn := Lib.hid (show ¬ (0 ≤ x.n ∧ x.n ≤ slots - 1) by omega)
            clear n0 n1
            go_wp2_with fail
            go_ret
            exact ⟨by rw [Hg2.out, if_neg Nn.out]; rfl, Hlw.out.trans (Drawn.below (w := wc) ⟨_, rfl⟩ _)⟩
          · have b1 : decide (x.n ≥ slots) = false := decide_eq_false n1
            have Nn := Lib.hid (show 0 ≤ x.n ∧ x.n ≤ slots - 1 by omega)
            clear n0 n1
            go_wp2_with fail
            go_ret
            exact ⟨by rw [Hg2.out, if_pos Nn.out]; rfl, Hlw.out.trans (Drawn.below (w := wc) ⟨_, rfl⟩ _)⟩
        have Hns := Lib.hid (show ¬ (x.op = 21 ∨ x.op = 22) by rw [Hop.out]; omega)
        have o21 : (op == 21) = false := by simpa using h21
        have o22 : (op == 22) = false := by simpa using h22
        clear h21 h22
        by_cases h3 : op = 3
        · subst h3
          have Hg2 := Lib.hid (show F = if x.s ∈ mathsF then 0 else 4 by rw [Hg.out]; unfold vmGood; rw [if_neg Hns.out, if_pos Hop.out])
          obtain ⟨am, cm, hmc, hstr⟩ := HL2.out.maths
          have gm := HL2.out.lt
          have Hcs := Lib.hid (containsStr_any x.s am mathsF cm (wc.drewN nn) (by decide) (fun i hi => hstr i hi))
          clear hstr Hg
          go_wp2_with fail
          refine (Hcs.out).mono ?_
          rintro e w3 ⟨rfl, rfl⟩
          cases hm : decide (x.s ∈ mathsF) with
          | false =>
            have Hm := Lib.hid hm
            clear hm
            go_wp2_with fail
            go_ret
            exact ⟨by rw [Hg2.out, if_neg (of_decide_eq_false Hm.out)]; rfl, Hlw.out.trans (Drawn.below (w := wc) ⟨_, rfl⟩ _)⟩
          | true =>
            have Hm := Lib.hid hm
            clear hm
            go_wp2_with fail
            go_ret
            exact ⟨by rw [Hg2.out, if_pos (of_decide_eq_true Hm.out)]; rfl, Hlw.out.trans (Drawn.below (w := wc) ⟨_, rfl⟩ _)⟩
        by_cases h8 : op = 8
        · subst h8
          have hmk := @run_makeMap Tryd.prog
          have hm : MapI ((wc.alloc (.map #[] 0)).drewN nn) wc.heap.size ([] : IMap ByteArray) := (MapI.made ByteArray wc).heap rfl
          have hb : Below wc.heap.size wc ((wc.alloc (.map #[] 0)).drewN nn) := ((Below.refl _ _).alloc (Nat.le_refl _) _).trans (Drawn.below (w := wc.alloc (.map #[] 0)) ⟨nn, rfl⟩ _)
          have hlt : wc.heap.size < ((wc.alloc (.map #[] 0)).drewN nn).heap.size := by show _ < (wc.alloc _).heap.size; simp
          have hsz3 := lt_of_cell2 bx4
          have hx4 := (hb.cell (p := ⟨w.heap.size + 1 + 1, 4, none⟩) hsz3).trans bx4
          have hx2 := (hb.cell (p := ⟨w.heap.size + 1 + 1, 2, none⟩) hsz3).trans bx2
          obtain ⟨wn, hwn⟩ : ∃ wn, wn = wantF x.s := ⟨_, rfl⟩
          have hgd := show_good (fs := fs) (slots := slots) (results := results) Hop.out
          rw [← hwn, ← Hg.out] at hgd
          have Hwn := Lib.hid hwn
          clear hwn bp0 bp1 bc2 bc4 bc5 bx1 bx3 bx5 HL2 Hp2 Hx2 Hg Hdr
          rcases hgd with ⟨g0, g1⟩ | ⟨g0, g1⟩
          · have G1 := Lib.hid g1
            subst g0
            clear g1
            go_wp2_with (first | (refine wpList_insertI (κ := ByteArray) rfl _ _ _ 186 rfl Tryd.underlying186 Tryd.underlying9 wc.heap.size _ rfl hm _ _ rfl rfl ?_; clear hm; intro w4 hm hgr; replace hb := hb.grown hgr (Nat.le_of_lt hlt) (fun k hk => by cases hk; exact Nat.le_refl _); replace hlt := Nat.lt_of_lt_of_le hlt hgr.size; clear hgr; replace hx4 := (hb.cell (p := ⟨w.heap.size + 1 + 1, 4, none⟩) hsz3).trans bx4; replace hx2 := (hb.cell (p := ⟨w.heap.size + 1 + 1, 2, none⟩) hsz3).trans bx2) | (have hm' : MapI _ wc.heap.size (putI (putI (putI ([] : IMap ByteArray) sInt (.int .i64 1)) sBool (.int .i64 1)) sText (.int .i64 2)) := hm; refine wpList_lookupI (κ := ByteArray) rfl _ _ 186 false rfl Tryd.underlying186 Tryd.underlying9 (zeroInt _) wc.heap.size _ rfl hm' x.s rfl ?_; clear hm'; simp only [Bool.false_eq_true, if_false]; rw [showGet, ← Hwn.out]))
            go_ret
            exact ⟨by rw [G1.out]; rfl, Hlw.out.trans (hb.mono Hlw.out.size)⟩
          · by_cases l2 : x.ars.length = wn
            · have G1 := Lib.hid (show F = 0 by rw [g1, if_pos l2])
              have lb2 : ((x.ars.length : Int) != (wn : Int)) = false := nei_f _ _ l2
              have wb : ((wn : Int) == 0) = false := by simpa using g0
              clear g1 l2 g0
              go_wp2_with (first | (refine wpList_insertI (κ := ByteArray) rfl _ _ _ 186 rfl Tryd.underlying186 Tryd.underlying9 wc.heap.size _ rfl hm _ _ rfl rfl ?_; clear hm; intro w4 hm hgr; replace hb := hb.grown hgr (Nat.le_of_lt hlt) (fun k hk => by cases hk; exact Nat.le_refl _); replace hlt := Nat.lt_of_lt_of_le hlt hgr.size; clear hgr; replace hx4 := (hb.cell (p := ⟨w.heap.size + 1 + 1, 4, none⟩) hsz3).trans bx4; replace hx2 := (hb.cell (p := ⟨w.heap.size + 1 + 1, 2, none⟩) hsz3).trans bx2) | (have hm' : MapI _ wc.heap.size (putI (putI (putI ([] : IMap ByteArray) sInt (.int .i64 1)) sBool (.int .i64 1)) sText (.int .i64 2)) := hm; refine wpList_lookupI (κ := ByteArray) rfl _ _ 186 false rfl Tryd.underlying186 Tryd.underlying9 (zeroInt _) wc.heap.size _ rfl hm' x.s rfl ?_; clear hm'; simp only [Bool.false_eq_true, if_false]; rw [showGet, ← Hwn.out]))
              go_ret
              exact ⟨by rw [G1.out]; rfl, Hlw.out.trans (hb.mono Hlw.out.size)⟩
            · have G1 := Lib.hid (show F = 10 by rw [g1, if_neg l2])
              have lb2 : ((x.ars.length : Int) != (wn : Int)) = true := nei_t _ _ l2
              have wb : ((wn : Int) == 0) = false := by simpa using g0
              clear g1 l2 g0
              go_wp2_with (first | (refine wpList_insertI (κ := ByteArray) rfl _ _ _ 186 rfl Tryd.underlying186 Tryd.underlying9 wc.heap.size _ rfl hm _ _ rfl rfl ?_; clear hm; intro w4 hm hgr; replace hb := hb.grown hgr (Nat.le_of_lt hlt) (fun k hk => by cases hk; exact Nat.le_refl _); replace hlt := Nat.lt_of_lt_of_le hlt hgr.size; clear hgr; replace hx4 := (hb.cell (p := ⟨w.heap.size + 1 + 1, 4, none⟩) hsz3).trans bx4; replace hx2 := (hb.cell (p := ⟨w.heap.size + 1 + 1, 2, none⟩) hsz3).trans bx2) | (have hm' : MapI _ wc.heap.size (putI (putI (putI ([] : IMap ByteArray) sInt (.int .i64 1)) sBool (.int .i64 1)) sText (.int .i64 2)) := hm; refine wpList_lookupI (κ := ByteArray) rfl _ _ 186 false rfl Tryd.underlying186 Tryd.underlying9 (zeroInt _) wc.heap.size _ rfl hm' x.s rfl ?_; clear hm'; simp only [Bool.false_eq_true, if_false]; rw [showGet, ← Hwn.out]))
              go_ret
              exact ⟨by rw [G1.out]; rfl, Hlw.out.trans (hb.mono Hlw.out.size)⟩
        by_cases h12 : op = 12
        · subst h12
          have Hg2 := Lib.hid (show F = if (x.ars.length : Int) = results then 0 else 10 by rw [Hg.out]; unfold vmGood; rw [if_neg Hns.out, if_neg (by rw [Hop.out]; decide), if_neg (by rw [Hop.out]; decide), if_pos Hop.out])
          clear Hg
          by_cases l2 : (x.ars.length : Int) = results
          · have lb2 : ((x.ars.length : Int) != results) = false := by simpa using l2
            have L2 := Lib.hid l2
            clear l2
            go_wp2_with fail
            go_ret
            exact ⟨by rw [Hg2.out, if_pos L2.out]; rfl, Hlw.out.trans (Drawn.below (w := wc) ⟨_, rfl⟩ _)⟩
          · have lb2 : ((x.ars.length : Int) != results) = true := by simpa using l2
            have L2 := Lib.hid l2
            clear l2
            go_wp2_with fail
            go_ret
            exact ⟨by rw [Hg2.out, if_neg L2.out]; rfl, Hlw.out.trans (Drawn.below (w := wc) ⟨_, rfl⟩ _)⟩
        by_cases h13 : op = 13
        · subst h13
          have Hg2 := Lib.hid (show F = if 2 ≤ x.n ∧ x.n ≤ 5 then 0 else 4 by rw [Hg.out]; unfold vmGood; rw [if_neg Hns.out, if_neg (by rw [Hop.out]; decide), if_neg (by rw [Hop.out]; decide), if_neg (by rw [Hop.out]; decide), if_pos Hop.out])
          clear Hg
          by_cases n2 : x.n < 2
          · have nb2 : decide (x.n < 2) = true := decide_eq_true n2
            have Nn := Lib.hid (show ¬ (2 ≤ x.n ∧ x.n ≤ 5) by omega)
            clear n2
            go_wp2_with fail
            go_ret
            exact ⟨by rw [Hg2.out, if_neg Nn.out]; rfl, Hlw.out.trans (Drawn.below (w := wc) ⟨_, rfl⟩ _)⟩
          have nb2 : decide (x.n < 2) = false := decide_eq_false n2
          by_cases n5 : 5 < x.n
          · have nb5 : decide (x.n > 5) = true := decide_eq_true n5
            have Nn := Lib.hid (show ¬ (2 ≤ x.n ∧ x.n ≤ 5) by omega)
            clear n2 n5
            go_wp2_with fail
            go_ret
            exact ⟨by rw [Hg2.out, if_neg Nn.out]; rfl, Hlw.out.trans (Drawn.below (w := wc) ⟨_, rfl⟩ _)⟩
          have nb5 : decide (x.n > 5) = false := decide_eq_false (by omega)
          have Nn := Lib.hid (show 2 ≤ x.n ∧ x.n ≤ 5 by omega)
          clear n2 n5
          go_wp2_with fail
          go_ret
          exact ⟨by rw [Hg2.out, if_pos Nn.out]; rfl, Hlw.out.trans (Drawn.below (w := wc) ⟨_, rfl⟩ _)⟩
        by_cases h7 : op = 7
        · subst h7
          have Hg2 := Lib.hid (show F = invokeFaultF fs x by rw [Hg.out]; unfold vmGood; rw [if_neg Hns.out, if_neg (by rw [Hop.out]; decide), if_neg (by rw [Hop.out]; decide), if_neg (by rw [Hop.out]; decide), if_neg (by rw [Hop.out]; decide), if_pos Hop.out])
          have Hci := Lib.hid (vmInvoke_any fs p0 p1 x _ (wc.drewN nn) (Good.kept (Keep.of_below' (Drawn.below (w := wc) ⟨nn, rfl⟩ wc.heap.size) (fun k hk _ => hk)) Hp2.out) (Good.kept (Keep.of_below' (Drawn.below (w := wc) ⟨nn, rfl⟩ wc.heap.size) (fun k hk _ => hk)) Hx2.out))
          clear Hg
          go_wp2_with fail
          refine (Hci.out).mono ?_
          rintro e w3 ⟨rfl, hb1⟩
          have Hb1 := Lib.hid hb1
          clear hb1
          go_wp2_with fail
          go_ret
          exact ⟨by rw [Hg2.out]; rfl, Hlw.out.trans ((Hdr.out.trans Hb1.out).mono Hlw.out.size)⟩
        have o3 : (op == 3) = false := by simpa using h3
        have o8 : (op == 8) = false := by simpa using h8
        have o12 : (op == 12) = false := by simpa using h12
        have o13 : (op == 13) = false := by simpa using h13
        have o7 : (op == 7) = false := by simpa using h7
        have Hg2 := Lib.hid (show F = 0 by rw [Hg.out]; unfold vmGood; rw [if_neg Hns.out, if_neg (by rw [Hop.out]; exact h3), if_neg (by rw [Hop.out]; exact h8), if_neg (by rw [Hop.out]; exact h12), if_neg (by rw [Hop.out]; exact h13), if_neg (by rw [Hop.out]; exact h7)])
        clear Hg h3 h8 h12 h13 h7
        go_wp2_with fail
        go_ret
        exact ⟨by rw [Hg2.out]; rfl, Hlw.out.trans (Drawn.below (w := wc) ⟨_, rfl⟩ _)⟩
end Go.Proofs.YtaomlfbcfmmhlaaDoor

/-
  vm.checkCode: the contract.
-/
namespace Go.Proofs.YtaomlfbcfmmhlaaDoor
open Go.RowKit Go.Pst
set_option linter.unusedVariables false

theorem vmEnds_any (x : Int) (w : World) :
    Calls Tryd.prog 156 #[.int .i64 x] w fun e w' => e = .returned (.bool (closesF x)) ∧ w = w' := by
  go_enter Tryd.func156, Tryd.ntmps156
  by_cases h : 9 ≤ x
  · have h1 : decide (x ≥ 9) = true := decide_eq_true h
    go_wp2
    go_ret
    exact ⟨by simp [closesF, h], rfl⟩
  · have h1 : decide (x ≥ 9) = false := decide_eq_false h
    go_wp2
    go_ret
    exact ⟨by simp [closesF]; omega, rfl⟩

set_option maxRecDepth 4000 in
set_option maxHeartbeats 2000000 in
theorem vmCode_any (fs : List PCode) (p0 p1 : Value) (c : PCode) (ccs : List Value) (w : World) (hp : rCodes (fun _ => True) w [p0] fs)
    (hc : rCode (fun _ => True) w ccs c) (hf : FitCode c) (hL : VmLaid w) :
    Calls Tryd.prog 116 #[.agg #[p0, p1], .agg ccs.toArray] w fun e w' => e = .returned (.int .i64 (machineCodeFaultF fs c)) ∧ Below w.heap.size w w' := by
  have hc0 := hc
  obtain ⟨v5, rfl, -, hbs⟩ := hc
  obtain ⟨a5, c5, rfl, hcap5, hmax5, hat⟩ := rSlice_one hbs
  unfold maxLen at hmax5
  have hnb : c.blocks.length ≤ 9223372036854775807 := by omega
  clear hbs hcap5 hmax5
  have Hc := Lib.hid hc0
  have HL := Lib.hid hL
  have Hat := Lib.hid hat
  have Hp := Lib.hid hp
  clear hc0 hat hp hL
  by_cases z : c.blocks.length = 0
  · have z1 : ((c.blocks.length : Int) == 0) = true := by simpa using z
    have Z := Lib.hid z
    clear z
    go_enter Tryd.func116, Tryd.ntmps116
    go_wp2_with fail
    go_ret
    exact ⟨by unfold machineCodeFaultF; rw [if_pos Z.out]; rfl, below_box2 _ _ _⟩
  have z1 : ((c.blocks.length : Int) == 0) = false := by simpa using z
  have Z := Lib.hid z
  clear z
  by_cases s0 : 2000 < c.blocks.length
  · have b : decide ((c.blocks.length : Int) > 2000) = true := decide_eq_true (by omega)
    have S := Lib.hid s0
    clear s0
    go_enter Tryd.func116, Tryd.ntmps116
    go_wp2_with fail
    go_ret
    exact ⟨by unfold machineCodeFaultF; rw [if_neg Z.out, if_pos (Or.inl S.out)]; rfl, below_box2 _ _ _⟩
  have bs0 : decide ((c.blocks.length : Int) > 2000) = false := decide_eq_false (by omega)
  have Hs0 := Lib.hid s0
  clear s0
  by_cases s1 : 8 < c.vars
  · have b : decide (c.vars > 8) = true := decide_eq_true (by omega)
    have S := Lib.hid s1
    clear s1
    go_enter Tryd.func116, Tryd.ntmps116
    go_wp2_with fail
    go_ret
    exact ⟨by unfold machineCodeFaultF; rw [if_neg Z.out, if_pos (Or.inr (Or.inl S.out))]; rfl, below_box2 _ _ _⟩
  have bs1 : decide (c.vars > 8) = false := decide_eq_false (by omega)
  have Hs1 := Lib.hid s1
  clear s1
  by_cases s2 : 3000 < c.slots
  · have b : decide (c.slots > 3000) = true := decide_eq_true (by omega)
    have S := Lib.hid s2
    clear s2
    go_enter Tryd.func116, Tryd.ntmps116
    go_wp2_with fail
    go_ret
    exact ⟨by unfold machineCodeFaultF; rw [if_neg Z.out, if_pos (Or.inr (Or.inr (Or.inl S.out)))]; rfl, below_box2 _ _ _⟩
  have bs2 : decide (c.slots > 3000) = false := decide_eq_false (by omega)
  have Hs2 := Lib.hid s2
  clear s2
  by_cases s3 : 16 < c.params
  · have b : decide (c.params > 16) = true := decide_eq_true (by omega)
    have S := Lib.hid s3
    clear s3
    go_enter Tryd.func116, Tryd.ntmps116
    go_wp2_with fail
    go_ret
    exact ⟨by unfold machineCodeFaultF; rw [if_neg Z.out, if_pos (Or.inr (Or.inr (Or.inr (Or.inl S.out))))]; rfl, below_box2 _ _ _⟩
  have bs3 : decide (c.params > 16) = false := decide_eq_false (by omega)
  have Hs3 := Lib.hid s3
  clear s3
  by_cases s4 : 16 < c.results
  · have b : decide (c.results > 16) = true := decide_eq_true (by omega)
    have S := Lib.hid s4
    clear s4
    go_enter Tryd.func116, Tryd.ntmps116
    go_wp2_with fail
    go_ret
    exact ⟨by unfold machineCodeFaultF; rw [if_neg Z.out, if_pos (Or.inr (Or.inr (Or.inr (Or.inr (S.out)))))]; rfl, below_box2 _ _ _⟩
  have bs4 : decide (c.results > 16) = false := decide_eq_false (by omega)
  have Hs4 := Lib.hid s4
  clear s4
  have hs := Lib.hid (show ¬ (2000 < c.blocks.length ∨ 8 < c.vars ∨ 3000 < c.slots ∨ 16 < c.params ∨ 16 < c.results) from (fun h => h.elim Hs0.out (fun h => h.elim Hs1.out (fun h => h.elim Hs2.out (fun h => h.elim Hs3.out Hs4.out)))))
  by_cases r0 : c.params < 0
  · have b : decide (c.params < 0) = true := decide_eq_true (by omega)
    have S := Lib.hid r0
    clear r0
    go_enter Tryd.func116, Tryd.ntmps116
    go_wp2_with fail
    go_ret
    exact ⟨by unfold machineCodeFaultF; rw [if_neg Z.out, if_neg hs.out, if_pos (Or.inl S.out)]; rfl, below_box2 _ _ _⟩
  have br0 : decide (c.params < 0) = false := decide_eq_false (by omega)
  have Hr0 := Lib.hid r0
  clear r0
  by_cases r1 : c.results < 0
  · have b : decide (c.results < 0) = true := decide_eq_true (by omega)
    have S := Lib.hid r1
    clear r1
    go_enter Tryd.func116, Tryd.ntmps116
    go_wp2_with fail
    go_ret
    exact ⟨by unfold machineCodeFaultF; rw [if_neg Z.out, if_neg hs.out, if_pos (Or.inr (Or.inl S.out))]; rfl, below_box2 _ _ _⟩
  have br1 : decide (c.results < 0) = false := decide_eq_false (by omega)
  have Hr1 := Lib.hid r1
  clear r1
  by_cases r2 : c.vars < 0
  · have b : decide (c.vars < 0) = true := decide_eq_true (by omega)
    have S := Lib.hid r2
    clear r2
    go_enter Tryd.func116, Tryd.ntmps116
    go_wp2_with fail
    go_ret
    exact ⟨by unfold machineCodeFaultF; rw [if_neg Z.out, if_neg hs.out, if_pos (Or.inr (Or.inr (Or.inl S.out)))]; rfl, below_box2 _ _ _⟩
  have br2 : decide (c.vars < 0) = false := decide_eq_false (by omega)
  have Hr2 := Lib.hid r2
  clear r2
  by_cases r3 : c.slots < c.params
  · have b : decide (c.slots < c.params) = true := decide_eq_true (by omega)
    have S := Lib.hid r3
    clear r3
    go_enter Tryd.func116, Tryd.ntmps116
    go_wp2_with fail
    go_ret
    exact ⟨by unfold machineCodeFaultF; rw [if_neg Z.out, if_neg hs.out, if_pos (Or.inr (Or.inr (Or.inr (S.out))))]; rfl, below_box2 _ _ _⟩
  have br3 : decide (c.slots < c.params) = false := decide_eq_false (by omega)
  have Hr3 := Lib.hid r3
  clear r3
  have hres := Lib.hid (show machineCodeFaultF fs c = blocksF (machineInstrFaultF fs c.vars c.slots c.results c.blocks.length) 36000 c.blocks 0 by
    unfold machineCodeFaultF
    rw [if_neg Z.out, if_neg hs.out, if_neg (fun h => h.elim Hr0.out (fun h => h.elim Hr1.out (fun h => h.elim Hr2.out Hr3.out)))])
  go_enter Tryd.func116, Tryd.ntmps116
  go_wp2_with fail
  clear z1 bs0 bs1 bs2 bs3 bs4 br0 br1 br2 br3 Hr0 Hr1 Hr2 Hr3 Hs0 Hs1 Hs2 Hs3 Hs4 hs Z
  go_loopw [5, 62] (fun q i wr => ∃ all n : Nat, n ≤ c.blocks.length ∧ all ≤ 36000 ∧ q = .int .i64 all ∧ i = .int .i64 n ∧ machineCodeFaultF fs c = blocksF (machineInstrFaultF fs c.vars c.slots c.results c.blocks.length) 36000 (c.blocks.drop n) all ∧
      Below (w.heap.size + 2) ((w.alloc (.cells #[p0, p1] 25)).alloc (.cells #[.string c.name, .int .i64 c.params, .int .i64 c.results, .int .i64 c.vars, .int .i64 c.slots, .slice a5 c.blocks.length c5] 28)) wr) (fun _ i _ => c.blocks.length - (intOf i).toNat)
  case atStart => exact ⟨0, 0, Nat.zero_le _, by omega, rfl, rfl, by rw [hres.out]; rfl, Below.refl _ _⟩
  case round =>
    obtain ⟨all, n, hn, hall, rfl, rfl, hrs, hbel⟩ := hrel
    have Hrs := Lib.hid hrs
    clear hrs
    have bc5 := hbel.cell (p := ⟨w.heap.size + 1, 5, none⟩) (by simp)
    rw [box2_2] at bc5
    by_cases hnl : n < c.blocks.length
    · have hnl1 : (n : Int) < (c.blocks.length : Int) := by omega
      obtain ⟨b, off, u, rfl, -, hb, hcell, hu⟩ := Hat.out n hnl
      obtain ⟨a2, cap2, rfl, hcap2, hmax2, hat2⟩ := rBlock_val hu
      have hcx : wr.cell? ⟨b, off + n, none⟩ = some (.slice a2 c.blocks[n].length cap2) := by
        rw [hbel.cell (p := ⟨b, off + n, none⟩) (by show b < _; omega), World.cell?_alloc_lt _ _ _ (by simp; omega), World.cell?_alloc_lt _ _ _ hb]; exact hcell
      have hfb := (hf.2 _ (List.getElem_mem hnl)).1
      unfold reachBytes at hfb
      have hstep := blocksF_at (g := machineInstrFaultF fs c.vars c.slots c.results c.blocks.length) (most := 36000) (all := all) hnl
      have Hstep := Lib.hid hstep
      have Hat2 := Lib.hid hat2
      unfold maxLen at hmax2
      have Hcell := Lib.hid hcell
      clear hat2 hu hcell hstep
      generalize c.blocks[n] = bl at *
      have hbm : bl.length ≤ 9223372036854775807 := by omega
      by_cases z : bl.length = 0
      · have z1 : ((bl.length : Int) == 0) = true := by simpa using z
        have Z := Lib.hid z
        clear z
        go_wp2_with fail
        go_ret
        exact ⟨by rw [Hrs.out, Hstep.out, if_pos Z.out]; rfl, (below_box2 _ _ _).trans (hbel.mono (by omega))⟩
      have z1 : ((bl.length : Int) == 0) = false := by simpa using z
      have Z := Lib.hid z
      clear z
      by_cases g : 36000 < all + bl.length
      · have g1 : decide ((all : Int) + (bl.length : Int) > 36000) = true := decide_eq_true (by omega)
        have G := Lib.hid g
        clear g
        go_wp2_with fail
        go_ret
        exact ⟨by rw [Hrs.out, Hstep.out, if_neg Z.out, if_pos G.out]; rfl, (below_box2 _ _ _).trans (hbel.mono (by omega))⟩
      have g1 : decide ((all : Int) + (bl.length : Int) > 36000) = false := decide_eq_false (by omega)
      have Hs2 := Lib.hid (show machineCodeFaultF fs c = if blockF (machineInstrFaultF fs c.vars c.slots c.results c.blocks.length) bl ≠ 0 then blockF (machineInstrFaultF fs c.vars c.slots c.results c.blocks.length) bl else blocksF (machineInstrFaultF fs c.vars c.slots c.results c.blocks.length) 36000 (c.blocks.drop (n + 1)) (all + bl.length) by
        rw [Hrs.out, Hstep.out, if_neg Z.out, if_neg g])
      have G := Lib.hid g
      clear g Z Hstep Hrs
      go_wp2_with fail
      clear g1 z1 hcx bc5
      go_loopw [77] (fun i wr => ∃ k : Nat, k ≤ bl.length ∧ i = .int .i64 k ∧ blockF (machineInstrFaultF fs c.vars c.slots c.results c.blocks.length) bl = blockF (machineInstrFaultF fs c.vars c.slots c.results c.blocks.length) (bl.drop k) ∧
        Below (w.heap.size + 2) ((w.alloc (.cells #[p0, p1] 25)).alloc (.cells #[.string c.name, .int .i64 c.params, .int .i64 c.results, .int .i64 c.vars, .int .i64 c.slots, .slice (some ⟨b, off, none⟩) c.blocks.length c5] 28)) wr) (fun i _ => bl.length - (intOf i).toNat)
      case atStart => exact ⟨0, Nat.zero_le _, rfl, by rw [List.drop_zero], hbel⟩
      case round =>
        clear hbel
        obtain ⟨k, hk, rfl, hbk, hbel⟩ := hrel
        have Hbk := Lib.hid hbk
        clear hbk
        by_cases hkl : k < bl.length
        · have hkl1 : (k : Int) < (bl.length : Int) := by omega
          have bx := fun j => hbel.cell (p := ⟨w.heap.size + 1, j, none⟩) (by simp)
          simp only [box2_2] at bx
          have bc0 : wr.cell? ⟨w.heap.size + 1, 0, none⟩ = some (.string c.name) := bx 0
          have bc1 : wr.cell? ⟨w.heap.size + 1, 1, none⟩ = some (.int .i64 c.params) := bx 1
          have bc2 : wr.cell? ⟨w.heap.size + 1, 2, none⟩ = some (.int .i64 c.results) := bx 2
          have bc3 : wr.cell? ⟨w.heap.size + 1, 3, none⟩ = some (.int .i64 c.vars) := bx 3
          have bc4 : wr.cell? ⟨w.heap.size + 1, 4, none⟩ = some (.int .i64 c.slots) := bx 4
          have bc5 : wr.cell? ⟨w.heap.size + 1, 5, none⟩ = some (.slice (some ⟨b, off, none⟩) c.blocks.length c5) := bx 5
          have bp := fun j => hbel.cell (p := ⟨w.heap.size, j, none⟩) (by show w.heap.size < w.heap.size + 2; omega)
          simp only [box2_1] at bp
          have bp0 : wr.cell? ⟨w.heap.size, 0, none⟩ = some p0 := bp 0
          have bp1 : wr.cell? ⟨w.heap.size, 1, none⟩ = some p1 := bp 1
          clear bx bp
          have hbw : Below w.heap.size w wr := (below_box2 _ _ _).trans (hbel.mono (by omega))
          have hkeep := Keep.of_below' (S := fun _ => True) hbw (fun k hk _ => hk)
          have hsz : w.heap.size + 2 ≤ wr.heap.size := by have := hbel.size; simpa using this
          have hcx : wr.cell? ⟨b, off + n, none⟩ = some (.slice a2 bl.length cap2) := by rw [hbw.cell (p := ⟨b, off + n, none⟩) hb]; exact Hcell.out
          obtain ⟨b2, off2, v1, v2, v6, rfl, -, hb2, hx0, hx1, hx2, hx3, hx4, hx5, hI, rx1, rx2, rx6⟩ := Hat2.out k hkl
          obtain ⟨sa1, sc1, rfl⟩ := rSlice_shape rx1
          obtain ⟨sa2, sc2, rfl⟩ := rSlice_shape rx2
          obtain ⟨sa6, sc6, rfl⟩ := rSlice_shape rx6
          have hcal := fun (o : Obj) => vmInstr_any fs p0 p1 c _ bl[k] _ (wr.alloc o) (Good.kept (hkeep.trans (Keep.alloc _ _ _)) Hp.out) (Good.kept (hkeep.trans (Keep.alloc _ _ _)) Hc.out) (Good.kept (hkeep.trans (Keep.alloc _ _ _)) ⟨_, _, _, rfl, hI, rx1, rx2, rx6⟩) ((HL.out.below hbw).below ((Below.refl _ _).alloc (Nat.le_refl _) _))
          have ho := hI.1
          have hy0 : wr.cell? ⟨b2, off2 + k * 6, none⟩ = _ := (hbw.cell (p := ⟨b2, off2 + k * 6, none⟩) hb2).trans hx0
          have hy1 : wr.cell? ⟨b2, off2 + k * 6 + 1, none⟩ = _ := (hbw.cell (p := ⟨b2, off2 + k * 6 + 1, none⟩) hb2).trans hx1
          have hy2 : wr.cell? ⟨b2, off2 + k * 6 + 2, none⟩ = _ := (hbw.cell (p := ⟨b2, off2 + k * 6 + 2, none⟩) hb2).trans hx2
          have hy3 : wr.cell? ⟨b2, off2 + k * 6 + 3, none⟩ = _ := (hbw.cell (p := ⟨b2, off2 + k * 6 + 3, none⟩) hb2).trans hx3
          have hy4 : wr.cell? ⟨b2, off2 + k * 6 + 4, none⟩ = _ := (hbw.cell (p := ⟨b2, off2 + k * 6 + 4, none⟩) hb2).trans hx4
          have hy5 : wr.cell? ⟨b2, off2 + k * 6 + 5, none⟩ = _ := (hbw.cell (p := ⟨b2, off2 + k * 6 + 5, none⟩) hb2).trans hx5
          have hat := blockF_at (g := machineInstrFaultF fs c.vars c.slots c.results c.blocks.length) hkl
          have Hat3 := Lib.hid hat
          have Hcal := Lib.hid hcal
          have Hz := Lib.hid hsz
          have hlt1 : w.heap.size < wr.heap.size := by omega
          have hlt2 : w.heap.size + 1 < wr.heap.size := by omega
          clear hx0 hx1 hx2 hx3 hx4 hx5 hI rx1 rx2 rx6 hat hcal hkeep hsz ho
          generalize bl[k] = x at *
          go_wp2_with fail
          refine (Hcal.out _).mono ?_
          rintro e w1 ⟨rfl, hb1⟩
          have hx0b := hb1.cell (p := ⟨wr.heap.size, 0, none⟩) (by simp)
          rw [World.cell?_alloc_at _ _ _ _ rfl] at hx0b
          have hx0c : w1.cell? ⟨wr.heap.size, 0, none⟩ = some (.int .i64 x.op) := hx0b
          have hl1 : Below wr.heap.size wr w1 := ((Below.refl _ _).alloc (Nat.le_refl _) _).trans (hb1.mono (by simp))
          have Hl1 := Lib.hid (hbel.trans (hl1.mono Hz.out))
          clear bc0 bc1 bc2 bc3 bc4 bc5 bp0 bp1 hcx hy0 hy1 hy2 hy3 hy4 hy5 hbw hb1 hl1 hbel Hcal hx0b
          generalize hev : machineInstrFaultF fs c.vars c.slots c.results c.blocks.length x = ev at *
          by_cases he : ev = 0
          case neg =>
            have he1 : (ev == 0) = false := by simpa using he
            have he2 : (ev != 0) = true := by simpa using he
            have He := Lib.hid he
            clear he
            go_wp2_with fail
            go_ret
            exact ⟨by
              have hbe : blockF (machineInstrFaultF fs c.vars c.slots c.results c.blocks.length) bl = ev := by rw [Hbk.out, Hat3.out, if_pos He.out]
              rw [Hs2.out, hbe, if_pos He.out]; rfl, (below_box2 _ _ _).trans (Hl1.out.mono (by omega))⟩
          subst he
          by_cases hq : k + 1 = bl.length
          · have hq1 : ((k : Int) == (bl.length : Int) - 1) = true := by simpa using (show (k : Int) = (bl.length : Int) - 1 by omega)
            have Hq := Lib.hid (decide_eq_true hq)
            clear hq
            go_wp2_with fail
            refine (vmEnds_any x.op w1).mono ?_
            rintro e w2 ⟨rfl, rfl⟩
            cases cl : closesF x.op with
            | true =>
              have Cl := Lib.hid cl
              clear cl
              go_wp2_with fail
              go_roundw
              case rel => exact ⟨k + 1, by omega, by go_num, by rw [Hbk.out, Hat3.out, if_neg (by simp), if_neg (by rw [Cl.out, Hq.out]; simp)], Hl1.out⟩
              case measure => simp [intOf]; omega
            | false =>
              have Cl := Lib.hid cl
              clear cl
              go_wp2_with fail
              go_ret
              exact ⟨by
                have hbe : blockF (machineInstrFaultF fs c.vars c.slots c.results c.blocks.length) bl = 4 := by rw [Hbk.out, Hat3.out, if_neg (by simp), if_pos (by rw [Cl.out, Hq.out]; simp)]
                rw [Hs2.out, hbe, if_pos (by decide)]; rfl, (below_box2 _ _ _).trans (Hl1.out.mono (by omega))⟩
          · have hq1 : ((k : Int) == (bl.length : Int) - 1) = false := by simpa using (show ¬ (k : Int) = (bl.length : Int) - 1 by omega)
            have Hq := Lib.hid (decide_eq_false hq)
            clear hq
            go_wp2_with fail
            refine (vmEnds_any x.op w1).mono ?_
            rintro e w2 ⟨rfl, rfl⟩
            cases cl : closesF x.op with
            | true =>
              have Cl := Lib.hid cl
              clear cl
              go_wp2_with fail
              go_ret
              exact ⟨by
                have hbe : blockF (machineInstrFaultF fs c.vars c.slots c.results c.blocks.length) bl = 4 := by rw [Hbk.out, Hat3.out, if_neg (by simp), if_pos (by rw [Cl.out, Hq.out]; simp)]
                rw [Hs2.out, hbe, if_pos (by decide)]; rfl, (below_box2 _ _ _).trans (Hl1.out.mono (by omega))⟩
            | false =>
              have Cl := Lib.hid cl
              clear cl
              go_wp2_with fail
              go_roundw
              case rel => exact ⟨k + 1, by omega, by go_num, by rw [Hbk.out, Hat3.out, if_neg (by simp), if_neg (by rw [Cl.out, Hq.out]; simp)], Hl1.out⟩
              case measure => simp [intOf]; omega
        · have hke : k = bl.length := by omega
          subst hke
          have Hs3 := Lib.hid (show machineCodeFaultF fs c = blocksF (machineInstrFaultF fs c.vars c.slots c.results c.blocks.length) 36000 (c.blocks.drop (n + 1)) (all + bl.length) by
            have hbe : blockF (machineInstrFaultF fs c.vars c.slots c.results c.blocks.length) bl = 0 := by rw [Hbk.out, List.drop_length]; rfl
            rw [Hs2.out, hbe, if_neg (by simp)])
          have hg := G.out
          clear Hbk Hs2
          go_wp2_with fail
          go_roundw
          case rel => exact ⟨all + bl.length, n + 1, by omega, by omega, by go_num, by go_num, Hs3.out, hbel⟩
          case measure => simp [intOf]; omega
    · have hne : n = c.blocks.length := by omega
      subst hne
      go_wp2_with fail
      go_ret
      exact ⟨by rw [Hrs.out, List.drop_length]; rfl, (below_box2 _ _ _).trans (hbel.mono (by omega))⟩
end Go.Proofs.YtaomlfbcfmmhlaaDoor

/-
  ir.CheckCode: the contract.
-/
namespace Go.Proofs.YtaomlfbcfmmhlaaDoor
open Go.RowKit Go.Pst
set_option linter.unusedVariables false

set_option maxRecDepth 4000 in
set_option maxHeartbeats 2000000 in
theorem irCode_any (fs : List PCode) (p0 p1 : Value) (c : PCode) (ccs : List Value) (w : World) (hp : rCodes (fun _ => True) w [p0] fs)
    (hc : rCode (fun _ => True) w ccs c) (hf : FitCode c) (hL : IrLaid w) :
    Calls Tryd.prog 29 #[.agg #[p0, p1], .agg ccs.toArray] w fun e w' => e = .returned (.int .i64 (codeFaultF fs c)) ∧ Below w.heap.size w w' := by
  have hc0 := hc
  obtain ⟨v5, rfl, -, hbs⟩ := hc
  obtain ⟨a5, c5, rfl, hcap5, hmax5, hat⟩ := rSlice_one hbs
  unfold maxLen at hmax5
  have hnb : c.blocks.length ≤ 9223372036854775807 := by omega
  clear hbs hcap5 hmax5
  have Hc := Lib.hid hc0
  have HL := Lib.hid hL
  have Hat := Lib.hid hat
  have Hp := Lib.hid hp
  clear hc0 hat hp hL
  by_cases z : c.blocks.length = 0
  · have z1 : ((c.blocks.length : Int) == 0) = true := by simpa using z
    have Z := Lib.hid z
    clear z
    go_enter Tryd.func29, Tryd.ntmps29
    go_wp2_with fail
    go_ret
    exact ⟨by unfold codeFaultF; rw [if_pos Z.out]; rfl, below_box2 _ _ _⟩
  have z1 : ((c.blocks.length : Int) == 0) = false := by simpa using z
  have Z := Lib.hid z
  clear z
  by_cases s1 : 2000 < c.blocks.length
  · have b : decide ((c.blocks.length : Int) > 2000) = true := decide_eq_true (by omega)
    have S := Lib.hid s1
    clear s1
    go_enter Tryd.func29, Tryd.ntmps29
    go_wp2_with fail
    go_ret
    exact ⟨by unfold codeFaultF; rw [if_neg Z.out, if_pos (Or.inl S.out)]; rfl, below_box2 _ _ _⟩
  have bs1 : decide ((c.blocks.length : Int) > 2000) = false := decide_eq_false (by omega)
  have Hs1 := Lib.hid s1
  clear s1
  by_cases s2 : 3000 < c.vars
  · have b : decide (c.vars > 3000) = true := decide_eq_true (by omega)
    have S := Lib.hid s2
    clear s2
    go_enter Tryd.func29, Tryd.ntmps29
    go_wp2_with fail
    go_ret
    exact ⟨by unfold codeFaultF; rw [if_neg Z.out, if_pos (Or.inr (Or.inl S.out))]; rfl, below_box2 _ _ _⟩
  have bs2 : decide (c.vars > 3000) = false := decide_eq_false (by omega)
  have Hs2 := Lib.hid s2
  clear s2
  by_cases s3 : 16 < c.params
  · have b : decide (c.params > 16) = true := decide_eq_true (by omega)
    have S := Lib.hid s3
    clear s3
    go_enter Tryd.func29, Tryd.ntmps29
    go_wp2_with fail
    go_ret
    exact ⟨by unfold codeFaultF; rw [if_neg Z.out, if_pos (Or.inr (Or.inr (Or.inl S.out)))]; rfl, below_box2 _ _ _⟩
  have bs3 : decide (c.params > 16) = false := decide_eq_false (by omega)
  have Hs3 := Lib.hid s3
  clear s3
  by_cases s4 : 16 < c.results
  · have b : decide (c.results > 16) = true := decide_eq_true (by omega)
    have S := Lib.hid s4
    clear s4
    go_enter Tryd.func29, Tryd.ntmps29
    go_wp2_with fail
    go_ret
    exact ⟨by unfold codeFaultF; rw [if_neg Z.out, if_pos (Or.inr (Or.inr (Or.inr S.out)))]; rfl, below_box2 _ _ _⟩
  have bs4 : decide (c.results > 16) = false := decide_eq_false (by omega)
  have Hs4 := Lib.hid s4
  clear s4
  have hs := Lib.hid (show ¬ (2000 < c.blocks.length ∨ 3000 < c.vars ∨ 16 < c.params ∨ 16 < c.results) from fun h => h.elim Hs1.out (fun h => h.elim Hs2.out (fun h => h.elim Hs3.out Hs4.out)))
  by_cases r1 : c.params < 0
  · have b : decide (c.params < 0) = true := decide_eq_true (by omega)
    have S := Lib.hid r1
    clear r1
    go_enter Tryd.func29, Tryd.ntmps29
    go_wp2_with fail
    go_ret
    exact ⟨by unfold codeFaultF; rw [if_neg Z.out, if_neg hs.out, if_pos (Or.inl S.out)]; rfl, below_box2 _ _ _⟩
  have br1 : decide (c.params < 0) = false := decide_eq_false (by omega)
  have Hr1 := Lib.hid r1
  clear r1
  by_cases r2 : c.results < 0
  · have b : decide (c.results < 0) = true := decide_eq_true (by omega)
    have S := Lib.hid r2
    clear r2
    go_enter Tryd.func29, Tryd.ntmps29
    go_wp2_with fail
    go_ret
    exact ⟨by unfold codeFaultF; rw [if_neg Z.out, if_neg hs.out, if_pos (Or.inr (Or.inl S.out))]; rfl, below_box2 _ _ _⟩
  have br2 : decide (c.results < 0) = false := decide_eq_false (by omega)
  have Hr2 := Lib.hid r2
  clear r2
  by_cases r3 : c.vars < c.params
  · have b : decide (c.vars < c.params) = true := decide_eq_true (by omega)
    have S := Lib.hid r3
    clear r3
    go_enter Tryd.func29, Tryd.ntmps29
    go_wp2_with fail
    go_ret
    exact ⟨by unfold codeFaultF; rw [if_neg Z.out, if_neg hs.out, if_pos (Or.inr (Or.inr (Or.inl S.out)))]; rfl, below_box2 _ _ _⟩
  have br3 : decide (c.vars < c.params) = false := decide_eq_false (by omega)
  have Hr3 := Lib.hid r3
  clear r3
  by_cases r4 : c.slots ≠ 0
  · have b : (c.slots != 0) = true := (by simpa using r4)
    have S := Lib.hid r4
    clear r4
    go_enter Tryd.func29, Tryd.ntmps29
    go_wp2_with fail
    go_ret
    exact ⟨by unfold codeFaultF; rw [if_neg Z.out, if_neg hs.out, if_pos (Or.inr (Or.inr (Or.inr S.out)))]; rfl, below_box2 _ _ _⟩
  have br4 : (c.slots != 0) = false := (by simpa using r4)
  have Hr4 := Lib.hid r4
  clear r4
  have hres := Lib.hid (show codeFaultF fs c = blocksF (instrFaultF fs c.vars c.results c.blocks.length) 6000 c.blocks 0 by
    unfold codeFaultF
    rw [if_neg Z.out, if_neg hs.out, if_neg (fun h => h.elim Hr1.out (fun h => h.elim Hr2.out (fun h => h.elim Hr3.out Hr4.out)))])
  have hv : 0 ≤ c.vars := by have := Hr1.out; have := Hr3.out; omega
  go_enter Tryd.func29, Tryd.ntmps29
  go_wp2_with fail
  clear z1 bs1 bs2 bs3 bs4 br1 br2 br3 br4 Hr1 Hr2 Hr3 Hr4 Hs1 Hs2 Hs3 Hs4 hs Z
  go_loopw [5, 57] (fun q i wr => ∃ all n : Nat, n ≤ c.blocks.length ∧ all ≤ 6000 ∧ q = .int .i64 all ∧ i = .int .i64 n ∧ codeFaultF fs c = blocksF (instrFaultF fs c.vars c.results c.blocks.length) 6000 (c.blocks.drop n) all ∧
      Below (w.heap.size + 2) ((w.alloc (.cells #[p0, p1] 25)).alloc (.cells #[.string c.name, .int .i64 c.params, .int .i64 c.results, .int .i64 c.vars, .int .i64 c.slots, .slice a5 c.blocks.length c5] 28)) wr) (fun _ i _ => c.blocks.length - (intOf i).toNat)
  case atStart => exact ⟨0, 0, Nat.zero_le _, by omega, rfl, rfl, by rw [hres.out]; rfl, Below.refl _ _⟩
  case round =>
    obtain ⟨all, n, hn, hall, rfl, rfl, hrs, hbel⟩ := hrel
    have Hrs := Lib.hid hrs
    clear hrs
    have bc5 := hbel.cell (p := ⟨w.heap.size + 1, 5, none⟩) (by simp)
    rw [box2_2] at bc5
    by_cases hnl : n < c.blocks.length
    · have hnl1 : (n : Int) < (c.blocks.length : Int) := by omega
      obtain ⟨b, off, u, rfl, -, hb, hcell, hu⟩ := Hat.out n hnl
      obtain ⟨a2, cap2, rfl, hcap2, hmax2, hat2⟩ := rBlock_val hu
      have hcx : wr.cell? ⟨b, off + n, none⟩ = some (.slice a2 c.blocks[n].length cap2) := by
        rw [hbel.cell (p := ⟨b, off + n, none⟩) (by show b < _; omega), World.cell?_alloc_lt _ _ _ (by simp; omega), World.cell?_alloc_lt _ _ _ hb]; exact hcell
      have hfb := (hf.2 _ (List.getElem_mem hnl)).1
      unfold reachBytes at hfb
      have hstep := blocksF_at (g := instrFaultF fs c.vars c.results c.blocks.length) (most := 6000) (all := all) hnl
      have Hstep := Lib.hid hstep
      have Hat2 := Lib.hid hat2
      unfold maxLen at hmax2
      have Hcell := Lib.hid hcell
      clear hat2 hu hcell hstep
      generalize c.blocks[n] = bl at *
      have hbm : bl.length ≤ 9223372036854775807 := by omega
      by_cases z : bl.length = 0
      · have z1 : ((bl.length : Int) == 0) = true := by simpa using z
        have Z := Lib.hid z
        clear z
        go_wp2_with fail
        go_ret
        exact ⟨by rw [Hrs.out, Hstep.out, if_pos Z.out]; rfl, (below_box2 _ _ _).trans (hbel.mono (by omega))⟩
      have z1 : ((bl.length : Int) == 0) = false := by simpa using z
      have Z := Lib.hid z
      clear z
      by_cases g : 6000 < all + bl.length
      · have g1 : decide ((all : Int) + (bl.length : Int) > 6000) = true := decide_eq_true (by omega)
        have G := Lib.hid g
        clear g
        go_wp2_with fail
        go_ret
        exact ⟨by rw [Hrs.out, Hstep.out, if_neg Z.out, if_pos G.out]; rfl, (below_box2 _ _ _).trans (hbel.mono (by omega))⟩
      have g1 : decide ((all : Int) + (bl.length : Int) > 6000) = false := decide_eq_false (by omega)
      have Hs2 := Lib.hid (show codeFaultF fs c = if blockF (instrFaultF fs c.vars c.results c.blocks.length) bl ≠ 0 then blockF (instrFaultF fs c.vars c.results c.blocks.length) bl else blocksF (instrFaultF fs c.vars c.results c.blocks.length) 6000 (c.blocks.drop (n + 1)) (all + bl.length) by
        rw [Hrs.out, Hstep.out, if_neg Z.out, if_neg g])
      have G := Lib.hid g
      clear g Z Hstep Hrs
      go_wp2_with fail
      clear g1 z1 hcx bc5
      go_loopw [72] (fun i wr => ∃ k : Nat, k ≤ bl.length ∧ i = .int .i64 k ∧ blockF (instrFaultF fs c.vars c.results c.blocks.length) bl = blockF (instrFaultF fs c.vars c.results c.blocks.length) (bl.drop k) ∧
        Below (w.heap.size + 2) ((w.alloc (.cells #[p0, p1] 25)).alloc (.cells #[.string c.name, .int .i64 c.params, .int .i64 c.results, .int .i64 c.vars, .int .i64 c.slots, .slice (some ⟨b, off, none⟩) c.blocks.length c5] 28)) wr) (fun i _ => bl.length - (intOf i).toNat)
      case atStart => exact ⟨0, Nat.zero_le _, rfl, by rw [List.drop_zero], hbel⟩
      case round =>
        clear hbel
        obtain ⟨k, hk, rfl, hbk, hbel⟩ := hrel
        have Hbk := Lib.hid hbk
        clear hbk
        by_cases hkl : k < bl.length
        · have hkl1 : (k : Int) < (bl.length : Int) := by omega
          have bx := fun j => hbel.cell (p := ⟨w.heap.size + 1, j, none⟩) (by simp)
          simp only [box2_2] at bx
          have bc0 : wr.cell? ⟨w.heap.size + 1, 0, none⟩ = some (.string c.name) := bx 0
          have bc1 : wr.cell? ⟨w.heap.size + 1, 1, none⟩ = some (.int .i64 c.params) := bx 1
          have bc2 : wr.cell? ⟨w.heap.size + 1, 2, none⟩ = some (.int .i64 c.results) := bx 2
          have bc3 : wr.cell? ⟨w.heap.size + 1, 3, none⟩ = some (.int .i64 c.vars) := bx 3
          have bc4 : wr.cell? ⟨w.heap.size + 1, 4, none⟩ = some (.int .i64 c.slots) := bx 4
          have bc5 : wr.cell? ⟨w.heap.size + 1, 5, none⟩ = some (.slice (some ⟨b, off, none⟩) c.blocks.length c5) := bx 5
          have bp := fun j => hbel.cell (p := ⟨w.heap.size, j, none⟩) (by show w.heap.size < w.heap.size + 2; omega)
          simp only [box2_1] at bp
          have bp0 : wr.cell? ⟨w.heap.size, 0, none⟩ = some p0 := bp 0
          have bp1 : wr.cell? ⟨w.heap.size, 1, none⟩ = some p1 := bp 1
          clear bx bp
          have hbw : Below w.heap.size w wr := (below_box2 _ _ _).trans (hbel.mono (by omega))
          have hkeep := Keep.of_below' (S := fun _ => True) hbw (fun k hk _ => hk)
          have hsz : w.heap.size + 2 ≤ wr.heap.size := by have := hbel.size; simpa using this
          have hcx : wr.cell? ⟨b, off + n, none⟩ = some (.slice a2 bl.length cap2) := by rw [hbw.cell (p := ⟨b, off + n, none⟩) hb]; exact Hcell.out
          obtain ⟨b2, off2, v1, v2, v6, rfl, -, hb2, hx0, hx1, hx2, hx3, hx4, hx5, hI, rx1, rx2, rx6⟩ := Hat2.out k hkl
          obtain ⟨sa1, sc1, rfl⟩ := rSlice_shape rx1
          obtain ⟨sa2, sc2, rfl⟩ := rSlice_shape rx2
          obtain ⟨sa6, sc6, rfl⟩ := rSlice_shape rx6
          have hcal := fun (o : Obj) => irInstr_any fs p0 p1 c _ bl[k] _ (wr.alloc o) (Good.kept (hkeep.trans (Keep.alloc _ _ _)) Hp.out) (Good.kept (hkeep.trans (Keep.alloc _ _ _)) Hc.out) (Good.kept (hkeep.trans (Keep.alloc _ _ _)) ⟨_, _, _, rfl, hI, rx1, rx2, rx6⟩) hv ((HL.out.below hbw).below ((Below.refl _ _).alloc (Nat.le_refl _) _))
          have ho := hI.1
          have hy0 : wr.cell? ⟨b2, off2 + k * 6, none⟩ = _ := (hbw.cell (p := ⟨b2, off2 + k * 6, none⟩) hb2).trans hx0
          have hy1 : wr.cell? ⟨b2, off2 + k * 6 + 1, none⟩ = _ := (hbw.cell (p := ⟨b2, off2 + k * 6 + 1, none⟩) hb2).trans hx1
          have hy2 : wr.cell? ⟨b2, off2 + k * 6 + 2, none⟩ = _ := (hbw.cell (p := ⟨b2, off2 + k * 6 + 2, none⟩) hb2).trans hx2
          have hy3 : wr.cell? ⟨b2, off2 + k * 6 + 3, none⟩ = _ := (hbw.cell (p := ⟨b2, off2 + k * 6 + 3, none⟩) hb2).trans hx3
          have hy4 : wr.cell? ⟨b2, off2 + k * 6 + 4, none⟩ = _ := (hbw.cell (p := ⟨b2, off2 + k * 6 + 4, none⟩) hb2).trans hx4
          have hy5 : wr.cell? ⟨b2, off2 + k * 6 + 5, none⟩ = _ := (hbw.cell (p := ⟨b2, off2 + k * 6 + 5, none⟩) hb2).trans hx5
          have hat := blockF_at (g := instrFaultF fs c.vars c.results c.blocks.length) hkl
          have Hat3 := Lib.hid hat
          have Hcal := Lib.hid hcal
          have Hz := Lib.hid hsz
          have hlt1 : w.heap.size < wr.heap.size := by omega
          have hlt2 : w.heap.size + 1 < wr.heap.size := by omega
          clear hx0 hx1 hx2 hx3 hx4 hx5 hI rx1 rx2 rx6 hat hcal hkeep hsz ho
          generalize bl[k] = x at *
          go_wp2_with fail
          refine (Hcal.out _).mono ?_
          rintro e w1 ⟨rfl, hb1⟩
          have hx0b := hb1.cell (p := ⟨wr.heap.size, 0, none⟩) (by simp)
          rw [World.cell?_alloc_at _ _ _ _ rfl] at hx0b
          have hx0c : w1.cell? ⟨wr.heap.size, 0, none⟩ = some (.int .i64 x.op) := hx0b
          have hl1 : Below wr.heap.size wr w1 := ((Below.refl _ _).alloc (Nat.le_refl _) _).trans (hb1.mono (by simp))
          have Hl1 := Lib.hid (hbel.trans (hl1.mono Hz.out))
          clear bc0 bc1 bc2 bc3 bc4 bc5 bp0 bp1 hcx hy0 hy1 hy2 hy3 hy4 hy5 hbw hb1 hl1 hbel Hcal hx0b
          generalize hev : instrFaultF fs c.vars c.results c.blocks.length x = ev at *
          by_cases he : ev = 0
          case neg =>
            have he1 : (ev == 0) = false := by simpa using he
            have he2 : (ev != 0) = true := by simpa using he
            have He := Lib.hid he
            clear he
            go_wp2_with fail
            go_ret
            exact ⟨by
              have hbe : blockF (instrFaultF fs c.vars c.results c.blocks.length) bl = ev := by rw [Hbk.out, Hat3.out, if_pos He.out]
              rw [Hs2.out, hbe, if_pos He.out]; rfl, (below_box2 _ _ _).trans (Hl1.out.mono (by omega))⟩
          subst he
          by_cases hq : k + 1 = bl.length
          · have hq1 : ((k : Int) == (bl.length : Int) - 1) = true := by simpa using (show (k : Int) = (bl.length : Int) - 1 by omega)
            have Hq := Lib.hid (decide_eq_true hq)
            clear hq
            go_wp2_with fail
            refine (irEnds_any x.op w1).mono ?_
            rintro e w2 ⟨rfl, rfl⟩
            cases cl : closesF x.op with
            | true =>
              have Cl := Lib.hid cl
              clear cl
              go_wp2_with fail
              go_roundw
              case rel => exact ⟨k + 1, by omega, by go_num, by rw [Hbk.out, Hat3.out, if_neg (by simp), if_neg (by rw [Cl.out, Hq.out]; simp)], Hl1.out⟩
              case measure => simp [intOf]; omega
            | false =>
              have Cl := Lib.hid cl
              clear cl
              go_wp2_with fail
              go_ret
              exact ⟨by
                have hbe : blockF (instrFaultF fs c.vars c.results c.blocks.length) bl = 4 := by rw [Hbk.out, Hat3.out, if_neg (by simp), if_pos (by rw [Cl.out, Hq.out]; simp)]
                rw [Hs2.out, hbe, if_pos (by decide)]; rfl, (below_box2 _ _ _).trans (Hl1.out.mono (by omega))⟩
          · have hq1 : ((k : Int) == (bl.length : Int) - 1) = false := by simpa using (show ¬ (k : Int) = (bl.length : Int) - 1 by omega)
            have Hq := Lib.hid (decide_eq_false hq)
            clear hq
            go_wp2_with fail
            refine (irEnds_any x.op w1).mono ?_
            rintro e w2 ⟨rfl, rfl⟩
            cases cl : closesF x.op with
            | true =>
              have Cl := Lib.hid cl
              clear cl
              go_wp2_with fail
              go_ret
              exact ⟨by
                have hbe : blockF (instrFaultF fs c.vars c.results c.blocks.length) bl = 4 := by rw [Hbk.out, Hat3.out, if_neg (by simp), if_pos (by rw [Cl.out, Hq.out]; simp)]
                rw [Hs2.out, hbe, if_pos (by decide)]; rfl, (below_box2 _ _ _).trans (Hl1.out.mono (by omega))⟩
            | false =>
              have Cl := Lib.hid cl
              clear cl
              go_wp2_with fail
              go_roundw
              case rel => exact ⟨k + 1, by omega, by go_num, by rw [Hbk.out, Hat3.out, if_neg (by simp), if_neg (by rw [Cl.out, Hq.out]; simp)], Hl1.out⟩
              case measure => simp [intOf]; omega
        · have hke : k = bl.length := by omega
          subst hke
          have Hs3 := Lib.hid (show codeFaultF fs c = blocksF (instrFaultF fs c.vars c.results c.blocks.length) 6000 (c.blocks.drop (n + 1)) (all + bl.length) by
            have hbe : blockF (instrFaultF fs c.vars c.results c.blocks.length) bl = 0 := by rw [Hbk.out, List.drop_length]; rfl
            rw [Hs2.out, hbe, if_neg (by simp)])
          have hg := G.out
          clear Hbk Hs2
          go_wp2_with fail
          go_roundw
          case rel => exact ⟨all + bl.length, n + 1, by omega, by omega, by go_num, by go_num, Hs3.out, hbel⟩
          case measure => simp [intOf]; omega
    · have hne : n = c.blocks.length := by omega
      subst hne
      go_wp2_with fail
      go_ret
      exact ⟨by rw [Hrs.out, List.drop_length]; rfl, (below_box2 _ _ _).trans (hbel.mono (by omega))⟩
end Go.Proofs.YtaomlfbcfmmhlaaDoor

/-
  Texts joined: VmPre VmArm1 VmMath VmArm2 VmArm3 VmArm4 VmSlots VmBack VmArm5.
-/
import Derived.Test.YtaomlfbcfmmhlaaDoorVI
import Derived.Test.YtaomlfbcfmmhlaaDoorVC
import Derived.Deep.DeepCutAuto
import Derived.Deep.RegionHeld3
import Derived.Deep.QuietTactic
import Derived.BigQuiet
import Derived.Test.YtaomlfbcfmmhlaaDoorVB
import Derived.RegionTactic
import Derived.BigRegion

/-
  vm's machine, a step: its frame and its instruction are boxed, its closures made; frames of 232 slots (frame232 is printed).
-/
namespace Go.Proofs.YtaomlfbcfmmhlaaDoor
open Go.RowKit Go.Pst
set_option linter.unusedVariables false
set_option linter.unusedSimpArgs false

set_option maxRecDepth 100000 in
theorem frame232 (t : Array Value) (h : t.size = 232) : t = #[slotOf t 0, slotOf t 1, slotOf t 2, slotOf t 3, slotOf t 4, slotOf t 5, slotOf t 6, slotOf t 7, slotOf t 8, slotOf t 9, slotOf t 10, slotOf t 11, slotOf t 12, slotOf t 13, slotOf t 14, slotOf t 15, slotOf t 16, slotOf t 17, slotOf t 18, slotOf t 19, slotOf t 20, slotOf t 21, slotOf t 22, slotOf t 23, slotOf t 24, slotOf t 25, slotOf t 26, slotOf t 27, slotOf t 28, slotOf t 29, slotOf t 30, slotOf t 31, slotOf t 32, slotOf t 33, slotOf t 34, slotOf t 35, slotOf t 36, slotOf t 37, slotOf t 38, slotOf t 39, slotOf t 40, slotOf t 41, slotOf t 42, slotOf t 43, slotOf t 44, slotOf t 45, slotOf t 46, slotOf t 47, slotOf t 48, slotOf t 49, slotOf t 50, slotOf t 51, slotOf t 52, slotOf t 53, slotOf t 54, slotOf t 55, slotOf t 56, slotOf t 57, slotOf t 58, slotOf t 59, slotOf t 60, slotOf t 61, slotOf t 62, slotOf t 63, slotOf t 64, slotOf t 65, slotOf t 66, slotOf t 67, slotOf t 68, slotOf t 69, slotOf t 70, slotOf t 71, slotOf t 72, slotOf t 73, slotOf t 74, slotOf t 75, slotOf t 76, slotOf t 77, slotOf t 78, slotOf t 79, slotOf t 80, slotOf t 81, slotOf t 82, slotOf t 83, slotOf t 84, slotOf t 85, slotOf t 86, slotOf t 87, slotOf t 88, slotOf t 89, slotOf t 90, slotOf t 91, slotOf t 92, slotOf t 93, slotOf t 94, slotOf t 95, slotOf t 96, slotOf t 97, slotOf t 98, slotOf t 99, slotOf t 100, slotOf t 101, slotOf t 102, slotOf t 103, slotOf t 104, slotOf t 105, slotOf t 106, slotOf t 107, slotOf t 108, slotOf t 109, slotOf t 110, slotOf t 111, slotOf t 112, slotOf t 113, slotOf t 114, slotOf t 115, slotOf t 116, slotOf t 117, slotOf t 118, slotOf t 119, slotOf t 120, slotOf t 121, slotOf t 122, slotOf t 123, slotOf t 124, slotOf t 125, slotOf t 126, slotOf t 127, slotOf t 128, slotOf t 129, slotOf t 130, slotOf t 131, slotOf t 132, slotOf t 133, slotOf t 134, slotOf t 135, slotOf t 136, slotOf t 137, slotOf t 138, slotOf t 139, slotOf t 140, slotOf t 141, slotOf t 142, slotOf t 143, slotOf t 144, slotOf t 145, slotOf t 146, slotOf t 147, slotOf t 148, slotOf t 149, slotOf t 150, slotOf t 151, slotOf t 152, slotOf t 153, slotOf t 154, slotOf t 155, slotOf t 156, slotOf t 157, slotOf t 158, slotOf t 159, slotOf t 160, slotOf t 161, slotOf t 162, slotOf t 163, slotOf t 164, slotOf t 165, slotOf t 166, slotOf t 167, slotOf t 168, slotOf t 169, slotOf t 170, slotOf t 171, slotOf t 172, slotOf t 173, slotOf t 174, slotOf t 175, slotOf t 176, slotOf t 177, slotOf t 178, slotOf t 179, slotOf t 180, slotOf t 181, slotOf t 182, slotOf t 183, slotOf t 184, slotOf t 185, slotOf t 186, slotOf t 187, slotOf t 188, slotOf t 189, slotOf t 190, slotOf t 191, slotOf t 192, slotOf t 193, slotOf t 194, slotOf t 195, slotOf t 196, slotOf t 197, slotOf t 198, slotOf t 199, slotOf t 200, slotOf t 201, slotOf t 202, slotOf t 203, slotOf t 204, slotOf t 205, slotOf t 206, slotOf t 207, slotOf t 208, slotOf t 209, slotOf t 210, slotOf t 211, slotOf t 212, slotOf t 213, slotOf t 214, slotOf t 215, slotOf t 216, slotOf t 217, slotOf t 218, slotOf t 219, slotOf t 220, slotOf t 221, slotOf t 222, slotOf t 223, slotOf t 224, slotOf t 225, slotOf t 226, slotOf t 227, slotOf t 228, slotOf t 229, slotOf t 230, slotOf t 231] := slots_eq t h
noncomputable def vmS3 : Code := Code.sub [1, 1, 1] ((Tryd.f69).body.getD .skip)

def vmState (words : List Int) (lines : List ByteArray) (fr : List (Lev × LV)) : Mach := ⟨words, lines, fr.map (·.1)⟩

def VmStepPost [Old] (base bm : Nat) (v1 : Value) (bF oF cF : Nat) (p : PProg) (limit : Int) (o : Int × Mach) (e : Ending) (w' : World) : Prop :=
  e = .returned (.int .i64 o.1) ∧ ∃ ρ vW vL vF fr, VmAt ρ w' base bm v1 vW vL vF bF oF cF p limit o.2.words o.2.lines fr ∧ fr.map (·.1) = o.2.frames

structure VmPre [Old] (ρ : Nat → Option Lab) (t : Array Value) (w : World) (base bm lf li : Nat) (v1 vW vL vF u1 u2 u5 : Value) (bF oF cF : Nat) (p : PProg) (limit : Int) (words : List Int) (lines : List ByteArray) (f : Lev) (a : LV) (r : List (Lev × LV)) (i : PInstr) : Prop where
  size : t.size = 232
  s0 : slotOf t 0 = .pointer (some ⟨bm, 0, none⟩)
  s4 : slotOf t 4 = .pointer (some ⟨lf, 0, none⟩)
  s5 : slotOf t 5 = .pointer (some ⟨li, 0, none⟩)
  s6 : slotOf t 6 = .int .i64 0
  s7 : slotOf t 7 = .func (.func 117) #[] #[.pointer (some ⟨lf, 0, none⟩), .pointer (some ⟨li, 0, none⟩)]
  s8 : slotOf t 8 = .func (.func 118) #[] #[.pointer (some ⟨lf, 0, none⟩), .pointer (some ⟨li, 0, none⟩)]
  fbox : w.cell? ⟨lf, 0, none⟩ = some (.pointer (some ⟨a.gs, 0, none⟩))
  box : w.heap[li]? = some (.cells #[.int .i64 i.op, u1, u2, .int .i64 i.n, .string i.s, u5] 53)
  i1 : rInts (· < base) w [u1] i.ds
  i2 : rInts (· < base) w [u2] i.ars
  i5 : rInts (· < base) w [u5] i.to
  run : VmAt ρ w base bm v1 vW vL vF bF oF cF p limit words lines (({ f with at_ := f.at_ + 1 }, a) :: r)
  nf : ρ lf = none
  ni : ρ li = none
  lfl : lf < w.heap.size
  ini : InI i.op ∧ InI i.n ∧ i.s.size ≤ maxLen
  tab : TabOK w
  tb : 5 < base

theorem VmPre.lil [Old] {ρ : Nat → Option Lab} {t : Array Value} {w : World} {base bm lf li : Nat} {v1 vW vL vF u1 u2 u5 : Value} {bF oF cF : Nat} {p : PProg} {limit : Int} {words : List Int} {lines : List ByteArray} {f : Lev} {a : LV} {r : List (Lev × LV)} {i : PInstr}
    (h : VmPre ρ t w base bm lf li v1 vW vL vF u1 u2 u5 bF oF cF p limit words lines f a r i) : li < w.heap.size := (Array.getElem?_eq_some_iff.1 h.box).1
theorem VmPre.ngf [Old] {ρ : Nat → Option Lab} {t : Array Value} {w : World} {base bm lf li : Nat} {v1 vW vL vF u1 u2 u5 : Value} {bF oF cF : Nat} {p : PProg} {limit : Int} {words : List Int} {lines : List ByteArray} {f : Lev} {a : LV} {r : List (Lev × LV)} {i : PInstr}
    (h : VmPre ρ t w base bm lf li v1 vW vL vF u1 u2 u5 bF oF cF p limit words lines f a r i) : lf ≠ a.gs := fun e => by have h1 := h.nf; rw [e, h.run.levs.1.lt] at h1; simp at h1
theorem VmPre.ngi [Old] {ρ : Nat → Option Lab} {t : Array Value} {w : World} {base bm lf li : Nat} {v1 vW vL vF u1 u2 u5 : Value} {bF oF cF : Nat} {p : PProg} {limit : Int} {words : List Int} {lines : List ByteArray} {f : Lev} {a : LV} {r : List (Lev × LV)} {i : PInstr}
    (h : VmPre ρ t w base bm lf li v1 vW vL vF u1 u2 u5 bF oF cF p limit words lines f a r i) : li ≠ a.gs := fun e => by have h1 := h.ni; rw [e, h.run.levs.1.lt] at h1; simp at h1
/-- A register is read. -/
theorem VmPre.reg [Old] {ρ : Nat → Option Lab} {t : Array Value} {w : World} {base bm lf li : Nat} {v1 vW vL vF u1 u2 u5 : Value} {bF oF cF : Nat} {p : PProg} {limit : Int} {words : List Int} {lines : List ByteArray} {f : Lev} {a : LV} {r : List (Lev × LV)} {i : PInstr}
    (h : VmPre ρ t w base bm lf li v1 vW vL vF u1 u2 u5 bF oF cF p limit words lines f a r i) (n y : Nat) (hn : i.ars[n]? = some (y : Int)) (hy : y < f.vars.length) (w' : World) (hk : Below w.heap.size w w') :
    Calls Tryd.prog 117 #[.int .i64 (n : Int), .pointer (some ⟨lf, 0, none⟩), .pointer (some ⟨li, 0, none⟩)] w' fun e w'' => e = .returned (.int .i64 (getI f.vars (y : Int))) ∧ Drawn w' w'' := by
  obtain ⟨h1, h2⟩ := List.getElem?_eq_some_iff.1 hn
  obtain ⟨aA, cA, hv, hcA, hm, hh⟩ := rInts_val h.i2
  obtain ⟨bA, oA, rfl, hb, -, hc, -⟩ := hh n h1
  subst hv
  have b2 : w.cell? ⟨li, 2, none⟩ = some (.slice (some ⟨bA, oA, none⟩) i.ars.length cA) := by simp [World.cell?, h.box]
  have h8 : f.vars.length + a.rest.length = 8 := h.run.levs.1.eight
  obtain ⟨gc, -, gl⟩ := h.run.get (j := 1 + y) (VmAt.cells_reg (f := { f with at_ := f.at_ + 1 }) y hy)
  have e : getI f.vars (y : Int) = f.vars[y] := by
    unfold getI
    rw [Int.toNat_natCast, List.getD_eq_getElem?_getD, List.getElem?_eq_getElem hy]
    rfl
  have hbig := h.run.big
  rw [e]
  rw [h2] at hc
  unfold maxLen at hm
  exact reg_any w' lf li a.gs bA oA cA n i.ars.length y _ h1 (by omega) (by omega) ((hk.cell (p := ⟨lf, 0, none⟩) h.lfl).trans h.fbox) ((hk.cell (p := ⟨li, 2, none⟩) h.lil).trans b2) ((hk.cell (p := ⟨bA, oA + n, none⟩) (by show bA < _; omega)).trans hc) ((hk.cell (p := ⟨a.gs, 1 + y, none⟩) gl).trans gc)
theorem VmPre.ngv [Old] {ρ : Nat → Option Lab} {t : Array Value} {w : World} {base bm lf li : Nat} {v1 vW vL vF u1 u2 u5 : Value} {bF oF cF : Nat} {p : PProg} {limit : Int} {words : List Int} {lines : List ByteArray} {f : Lev} {a : LV} {r : List (Lev × LV)} {i : PInstr}
    (h : VmPre ρ t w base bm lf li v1 vW vL vF u1 u2 u5 bF oF cF p limit words lines f a r i) : a.gs ≠ a.gv := fun e => by have h1 := h.run.levs.1.lt; rw [e, h.run.levs.1.lv] at h1; simp at h1
theorem VmPre.nvf [Old] {ρ : Nat → Option Lab} {t : Array Value} {w : World} {base bm lf li : Nat} {v1 vW vL vF u1 u2 u5 : Value} {bF oF cF : Nat} {p : PProg} {limit : Int} {words : List Int} {lines : List ByteArray} {f : Lev} {a : LV} {r : List (Lev × LV)} {i : PInstr}
    (h : VmPre ρ t w base bm lf li v1 vW vL vF u1 u2 u5 bF oF cF p limit words lines f a r i) : lf ≠ a.gv := fun e => by have h1 := h.nf; rw [e, h.run.levs.1.lv] at h1; simp at h1
theorem VmPre.nvi [Old] {ρ : Nat → Option Lab} {t : Array Value} {w : World} {base bm lf li : Nat} {v1 vW vL vF u1 u2 u5 : Value} {bF oF cF : Nat} {p : PProg} {limit : Int} {words : List Int} {lines : List ByteArray} {f : Lev} {a : LV} {r : List (Lev × LV)} {i : PInstr}
    (h : VmPre ρ t w base bm lf li v1 vW vL vF u1 u2 u5 bF oF cF p limit words lines f a r i) : li ≠ a.gv := fun e => by have h1 := h.ni; rw [e, h.run.levs.1.lv] at h1; simp at h1
def VmRegIs (lf li : Nat) (n : Int) (x : Int) (w' : World) : Prop :=
  Calls Tryd.prog 117 #[.int .i64 n, .pointer (some ⟨lf, 0, none⟩), .pointer (some ⟨li, 0, none⟩)] w' fun e w'' => e = .returned (.int .i64 x) ∧ Drawn w' w''
/-- A register is read, where the frame's slots may have turned. -/
theorem VmPre.regK [Old] {ρ : Nat → Option Lab} {t : Array Value} {w : World} {base bm lf li : Nat} {v1 vW vL vF u1 u2 u5 : Value} {bF oF cF : Nat} {p : PProg} {limit : Int} {words : List Int} {lines : List ByteArray} {f : Lev} {a : LV} {r : List (Lev × LV)} {i : PInstr}
    (h : VmPre ρ t w base bm lf li v1 vW vL vF u1 u2 u5 bF oF cF p limit words lines f a r i) (n y : Nat) (hn : i.ars[n]? = some (y : Int)) (hy : y < f.vars.length) (w' : World) (hk : ∀ b o v, b ≠ a.gv → w.cell? ⟨b, o, none⟩ = some v → w'.cell? ⟨b, o, none⟩ = some v) :
    VmRegIs lf li (n : Int) (getI f.vars (y : Int)) w' := by
  obtain ⟨h1, h2⟩ := List.getElem?_eq_some_iff.1 hn
  obtain ⟨aA, cA, hv, hcA, hm, hh⟩ := rInts_val h.i2
  obtain ⟨bA, oA, rfl, hb, -, hc, -⟩ := hh n h1
  subst hv
  have b2 : w.cell? ⟨li, 2, none⟩ = some (.slice (some ⟨bA, oA, none⟩) i.ars.length cA) := by simp [World.cell?, h.box]
  have h8 : f.vars.length + a.rest.length = 8 := h.run.levs.1.eight
  obtain ⟨gc, -, gl⟩ := h.run.get (j := 1 + y) (VmAt.cells_reg (f := { f with at_ := f.at_ + 1 }) y hy)
  have e : getI f.vars (y : Int) = f.vars[y] := by
    unfold getI
    rw [Int.toNat_natCast, List.getD_eq_getElem?_getD, List.getElem?_eq_getElem hy]
    rfl
  have hbig := h.run.big
  rw [e]
  rw [h2] at hc
  unfold maxLen at hm
  exact reg_any w' lf li a.gs bA oA cA n i.ars.length y _ h1 (by omega) (by omega) (hk _ _ _ h.nvf h.fbox) (hk _ _ _ h.nvi b2) (hk _ _ _ (fun e => by have h1 : base ≤ a.gv := (h.run.levs.1.slots.lt _ rfl).1; omega) hc) (hk _ _ _ h.ngv gc)
/-- A register is set. -/
theorem VmPre.set [Old] {ρ : Nat → Option Lab} {t : Array Value} {w : World} {base bm lf li : Nat} {v1 vW vL vF u1 u2 u5 : Value} {bF oF cF : Nat} {p : PProg} {limit : Int} {words : List Int} {lines : List ByteArray} {f : Lev} {a : LV} {r : List (Lev × LV)} {i : PInstr}
    (h : VmPre ρ t w base bm lf li v1 vW vL vF u1 u2 u5 bF oF cF p limit words lines f a r i) (d : Nat) (hd : i.ds = [(d : Int)]) (hdl : d < f.vars.length) (w' : World) (hk : Below w.heap.size w w') (v : Int) :
    Calls Tryd.prog 118 #[.int .i64 v, .pointer (some ⟨lf, 0, none⟩), .pointer (some ⟨li, 0, none⟩)] w' fun e w'' => e = .returned (.tuple #[]) ∧ w'' = (w'.setCell ⟨a.gs, 1 + d, none⟩ (.int .i64 v)).drew := by
  have hv := h.i1
  obtain ⟨aD, cD, hv, -, -, hh⟩ := rInts_val h.i1
  obtain ⟨bD, oD, rfl, hbD, -, hc, -⟩ := hh 0 (by simp [hd])
  subst hv
  have hl : i.ds.length = 1 := by simp [hd]
  have b1 : w.cell? ⟨li, 1, none⟩ = some (.slice (some ⟨bD, oD, none⟩) 1 cD) := by simp [World.cell?, h.box, hl]
  have hc' : w.cell? ⟨bD, oD, none⟩ = some (.int .i64 d) := by
    have : i.ds[0]'(by omega) = (d : Int) := by simp [hd]
    rw [this] at hc
    exact hc
  have nbD : bD ≠ a.gs := fun e => by have h1 : base ≤ a.gs := (h.run.levs.1.cells.lt _ rfl).1; omega
  have h8 : f.vars.length + a.rest.length = 8 := h.run.levs.1.eight
  obtain ⟨gc, gz, gl⟩ := h.run.get (j := 1 + d) (VmAt.cells_reg (f := { f with at_ := f.at_ + 1 }) d hdl)
  have hbig := h.run.big
  exact set_any w' lf li a.gs bD oD cD d v _ (by omega) h.ngf h.ngi nbD ((hk.cell (p := ⟨lf, 0, none⟩) h.lfl).trans h.fbox) ((hk.cell (p := ⟨li, 1, none⟩) h.lil).trans b1) ((hk.cell (p := ⟨bD, oD, none⟩) (by show bD < _; omega)).trans hc') ((hk.cell (p := ⟨a.gs, 1 + d, none⟩) gl).trans gc) ((hk.frozen (p := ⟨a.gs, 1 + d, none⟩) gl).trans gz) (Nat.lt_of_lt_of_le gl hk.size)

set_option maxRecDepth 100000 in
set_option maxHeartbeats 4000000 in
theorem vmPre_any [Old] (R : Ending → World → Prop) (ρ : Nat → Option Lab) (w : World) (base bm : Nat) (v1 vW vL vF u1 u2 u5 : Value) (bF oF cF : Nat) (p : PProg) (limit : Int) (words : List Int) (lines : List ByteArray) (f : Lev) (a : LV) (r : List (Lev × LV)) (i : PInstr)
    (h : VmAt ρ w base bm v1 vW vL vF bF oF cF p limit words lines (({ f with at_ := f.at_ + 1 }, a) :: r)) (hT : TabOK w) (hTb : 5 < base)
    (i1 : rInts (· < base) w [u1] i.ds) (i2 : rInts (· < base) w [u2] i.ars) (i5 : rInts (· < base) w [u5] i.to) (ini : InI i.op ∧ InI i.n ∧ i.s.size ≤ maxLen)
    (HQ : Hid (∀ ρ' t w' lf li, VmPre ρ' t w' base bm lf li v1 vW vL vF u1 u2 u5 bF oF cF p limit words lines f a r i → vmS3.wp Tryd.prog (bodyPost Tryd.prog Tryd.f69 R) ⟨t, []⟩ w')) :
    Calls Tryd.prog 69 #[.pointer (some ⟨bm, 0, none⟩), .pointer (some ⟨a.gs, 0, none⟩), .agg #[.int .i64 i.op, u1, u2, .int .i64 i.n, .string i.s, u5]] w R := by
  obtain ⟨a1, c1, rfl⟩ := rSlice_shape i1
  obtain ⟨a5, c5, rfl⟩ := rSlice_shape i5
  obtain ⟨a2, c2, rfl⟩ := rSlice_shape i2
  have H := Lib.hid h
  have HT := Lib.hid hT
  have H1 := Lib.hid i1
  have H2 := Lib.hid i2
  have H5 := Lib.hid i5
  have hbase := h.big
  clear h hT i1 i2 i5
  go_enter Tryd.func69, Tryd.ntmps69
  refine wp_seq_k fun K1 hK1 => ?_
  have HK1 := Lib.hid hK1
  clear hK1
  go_wp2_with fail
  refine HK1.out _ _ ?_
  refine wp_seq_k fun K2 hK2 => ?_
  have HK2 := Lib.hid hK2
  clear hK2
  go_wp2_with fail
  refine HK2.out _ _ ?_
  refine wp_seq_k fun K3 hK3 => ?_
  have HK3 := Lib.hid hK3
  clear hK3
  go_wp2_with fail
  refine HK3.out _ _ ?_
  show vmS3.wp _ _ _ _
  generalize hw0 : (w.alloc (.cells #[.pointer (some ⟨a.gs, 0, none⟩)] 114)).alloc (.cells #[.int .i64 i.op, .slice a1 i.ds.length c1, .slice a2 i.ars.length c2, .int .i64 i.n, .string i.s, .slice a5 i.to.length c5] 53) = w0
  have hb0 : w0.heap[w.heap.size + 1]? = some (.cells #[.int .i64 i.op, .slice a1 i.ds.length c1, .slice a2 i.ars.length c2, .int .i64 i.n, .string i.s, .slice a5 i.to.length c5] 53) := by
    rw [← hw0]
    have := heap_alloc_new (w.alloc (.cells #[.pointer (some ⟨a.gs, 0, none⟩)] 114)) (Obj.cells #[.int .i64 i.op, .slice a1 i.ds.length c1, .slice a2 i.ars.length c2, .int .i64 i.n, .string i.s, .slice a5 i.to.length c5] 53)
    simpa using this
  have hf0 : w0.heap[w.heap.size]? = some (.cells #[.pointer (some ⟨a.gs, 0, none⟩)] 114) := by rw [← hw0, Below.heap_alloc _ _ _ (by simp), heap_alloc_new]
  have hbel : Below base w w0 := by rw [← hw0]; exact ((Below.refl _ _).alloc hbase _).alloc (by simp; omega) _
  have hsin : Since (fun _ => False) w w0 := by rw [← hw0]; exact (Since.alloc _ _ _).trans (Since.alloc _ _ _)
  clear hw0
  have hkp : Keep (· < base) w w0 := ⟨hbel.size, fun k _ hk => hbel.block k hk⟩
  exact HQ.out (fun k => if k < w.heap.size then ρ k else none) _ w0 w.heap.size (w.heap.size + 1) { size := rfl, s0 := rfl, s4 := rfl, s5 := rfl, s6 := rfl, s7 := rfl, s8 := rfl, fbox := (by simp [World.cell?, hf0]), box := hb0, i1 := Good.kept hkp H1.out, i2 := Good.kept hkp H2.out, i5 := Good.kept hkp H5.out, run := (H.out.label (ρ' := fun k => if k < w.heap.size then ρ k else none) (fun k hk => by simp [hk])).since hsin, nf := (by simp), ni := (by simp; omega), lfl := (Array.getElem?_eq_some_iff.1 hf0).1, ini := ini, tab := HT.out.since (F := fun k => ¬ k < base) ⟨hbel.os, hbel.tape, hbel.output, hbel.size, fun k _ hk => hbel.block k (by omega)⟩ (by omega), tb := hTb }
end Go.Proofs.YtaomlfbcfmmhlaaDoor

/-
  vm's machine, a step: constants, moves, ends (printed by wip/gen_vmarms.py).
-/
namespace Go.Proofs.YtaomlfbcfmmhlaaDoor
open Go.RowKit Go.Pst
set_option linter.unusedVariables false
set_option linter.unusedSimpArgs false
variable [Old]
set_option maxRecDepth 100000 in
set_option maxHeartbeats 4000000 in
theorem vm_const (ρ : Nat → Option Lab) (t : Array Value) (w : World) (base bm lf li : Nat) (v1 vW vL vF u1 u2 u5 : Value) (bF oF cF : Nat) (p : PProg) (limit : Int) (words : List Int) (lines : List ByteArray) (f : Lev) (a : LV) (r : List (Lev × LV)) (i : PInstr)
    (h : VmPre ρ t w base bm lf li v1 vW vL vF u1 u2 u5 bF oF cF p limit words lines f a r i) (hi : i = instrAt p f) (e : i.op = 1) (d : Nat) (hd : i.ds = [(d : Int)]) (hdl : d < f.vars.length) :
    vmS3.wp Tryd.prog (bodyPost Tryd.prog Tryd.f69 (VmStepPost base bm v1 bF oF cF p limit (stepF p true limit (vmState words lines ((f, a) :: r))))) ⟨t, []⟩ w := by
  have hli := h.lil
  have b0 : w.cell? ⟨li, 0, none⟩ = some (.int .i64 1) := by simp [World.cell?, h.box, e]
  have b3 : w.cell? ⟨li, 3, none⟩ = some (.int .i64 i.n) := by simp [World.cell?, h.box]
  have f0 := h.fbox
  have hlf := h.lfl
  have H := Lib.hid h
  have Hset := Lib.hid (h.set d hd hdl)
  have Hd := Lib.hid hd
  have hst : stepF p true limit (vmState words lines ((f, a) :: r)) = (0, ⟨words, lines, Lev.setV { f with at_ := f.at_ + 1 } i i.n :: r.map (·.1)⟩) := by
    unfold stepF vmState
    simp only [List.map_cons, ← hi, e]
    rfl
  rw [hst]
  unfold vmS3
  conv => arg 2; whnf
  rw [frame232 t H.out.size, H.out.s0, H.out.s4, H.out.s5, H.out.s6, H.out.s7, H.out.s8]
  clear hst h hd hi e
  go_wp2_with fail
  refine (Hset.out w (Below.refl _ _) i.n).mono ?_
  rintro e w1 ⟨rfl, rfl⟩
  go_wp2_with fail
  go_ret
  exact ⟨rfl, ρ, vW, vL, vF, _, (H.out.run.setR d i.n hdl).since (Since.drew _ _), by simp [Lev.setV, getI, Hd.out]⟩

set_option maxRecDepth 100000 in
set_option maxHeartbeats 4000000 in
theorem vm_move (ρ : Nat → Option Lab) (t : Array Value) (w : World) (base bm lf li : Nat) (v1 vW vL vF u1 u2 u5 : Value) (bF oF cF : Nat) (p : PProg) (limit : Int) (words : List Int) (lines : List ByteArray) (f : Lev) (a : LV) (r : List (Lev × LV)) (i : PInstr)
    (h : VmPre ρ t w base bm lf li v1 vW vL vF u1 u2 u5 bF oF cF p limit words lines f a r i) (hi : i = instrAt p f) (e : i.op = 2) (d : Nat) (hd : i.ds = [(d : Int)]) (hdl : d < f.vars.length) (y : Nat) (ha : i.ars = [(y : Int)]) (hy : y < f.vars.length) :
    vmS3.wp Tryd.prog (bodyPost Tryd.prog Tryd.f69 (VmStepPost base bm v1 bF oF cF p limit (stepF p true limit (vmState words lines ((f, a) :: r))))) ⟨t, []⟩ w := by
  have hli := h.lil
  have b0 : w.cell? ⟨li, 0, none⟩ = some (.int .i64 2) := by simp [World.cell?, h.box, e]
  have b3 : w.cell? ⟨li, 3, none⟩ = some (.int .i64 i.n) := by simp [World.cell?, h.box]
  have f0 := h.fbox
  have hlf := h.lfl
  have H := Lib.hid h
  have Hset := Lib.hid (h.set d hd hdl)
  have Hd := Lib.hid hd
  have Hreg := Lib.hid (h.reg 0 y (by simp [ha]) hy)
  have hxs : argsF true f i = [getI f.vars (y : Int)] := by simp [argsF, e, ha, Lev.src]
  have hst : stepF p true limit (vmState words lines ((f, a) :: r)) = (0, ⟨words, lines, Lev.setV { f with at_ := f.at_ + 1 } i (getI f.vars (y : Int)) :: r.map (·.1)⟩) := by
    unfold stepF vmState
    simp only [List.map_cons, ← hi, e, hxs]
    rfl
  rw [hst]
  unfold vmS3
  conv => arg 2; whnf
  rw [frame232 t H.out.size, H.out.s0, H.out.s4, H.out.s5, H.out.s6, H.out.s7, H.out.s8]
  clear hst h hd hi e ha hxs
  generalize getI f.vars (y : Int) = x at *
  go_wp2_with fail
  refine (Hreg.out w (Below.refl _ _)).mono ?_
  rintro e w1 ⟨rfl, k, rfl⟩
  go_wp2_with fail
  refine (Hset.out _ (Drawn.below ⟨k, rfl⟩ _) x).mono ?_
  rintro e w1 ⟨rfl, rfl⟩
  go_wp2_with fail
  go_ret
  exact ⟨rfl, ρ, vW, vL, vF, _, ((H.out.run.since (Since.drewN _ _ _)).setR d x hdl).since (Since.drew _ _), by simp [Lev.setV, getI, Hd.out]⟩

set_option maxRecDepth 100000 in
set_option maxHeartbeats 4000000 in
theorem vm_fail (ρ : Nat → Option Lab) (t : Array Value) (w : World) (base bm lf li : Nat) (v1 vW vL vF u1 u2 u5 : Value) (bF oF cF : Nat) (p : PProg) (limit : Int) (words : List Int) (lines : List ByteArray) (f : Lev) (a : LV) (r : List (Lev × LV)) (i : PInstr)
    (h : VmPre ρ t w base bm lf li v1 vW vL vF u1 u2 u5 bF oF cF p limit words lines f a r i) (hi : i = instrAt p f) (e : i.op = 13) :
    vmS3.wp Tryd.prog (bodyPost Tryd.prog Tryd.f69 (VmStepPost base bm v1 bF oF cF p limit (stepF p true limit (vmState words lines ((f, a) :: r))))) ⟨t, []⟩ w := by
  have hli := h.lil
  have b0 : w.cell? ⟨li, 0, none⟩ = some (.int .i64 13) := by simp [World.cell?, h.box, e]
  have b3 : w.cell? ⟨li, 3, none⟩ = some (.int .i64 i.n) := by simp [World.cell?, h.box]
  have f0 := h.fbox
  have hlf := h.lfl
  have H := Lib.hid h
  have hst : stepF p true limit (vmState words lines ((f, a) :: r)) = (i.n, ⟨words, lines, { f with at_ := f.at_ + 1 } :: r.map (·.1)⟩) := by
    unfold stepF vmState
    simp only [List.map_cons, ← hi, e]
    rfl
  rw [hst]
  unfold vmS3
  conv => arg 2; whnf
  rw [frame232 t H.out.size, H.out.s0, H.out.s4, H.out.s5, H.out.s6, H.out.s7, H.out.s8]
  clear hst h hi e
  go_wp2_with fail
  go_ret
  exact ⟨rfl, ρ, vW, vL, vF, _, H.out.run, rfl⟩

end Go.Proofs.YtaomlfbcfmmhlaaDoor

/-
  vm.math, vm.truth: contracts (printed by wip/gen_irmath.py).
-/
namespace Go.Proofs.YtaomlfbcfmmhlaaDoor
open Go.RowKit Go.Pst
set_option linter.unusedVariables false
set_option linter.unusedSimpArgs false

theorem vmTruth_any (b : Bool) (w : World) : Calls Tryd.prog 124 #[.bool b] w fun e w' => e = .returned (.int .i64 (yesF b)) ∧ w = w' := by
  cases b
  all_goals
    go_enter Tryd.func124, Tryd.ntmps124
    go_wp2_with fail
    go_ret
    exact ⟨rfl, rfl⟩

set_option maxHeartbeats 4000000 in
theorem vmMath_any (s : ByteArray) (a b : Int) (w : World) (hs : s ∈ mathsF) (ha : InI a) (hb : InI b) :
    Calls Tryd.prog 119 #[.string s, .int .i64 a, .int .i64 b] w fun e w' => e = .returned (.tuple #[.int .i64 (sumF s a b).1, .int .i64 (sumF s a b).2]) ∧ w = w' := by
  obtain ⟨ha1, ha2⟩ := ha
  have Hb := Lib.hid hb
  obtain ⟨hb1, hb2⟩ := hb
  simp only [mathsF, List.mem_cons, List.not_mem_nil, or_false] at hs
  rcases hs with rfl | rfl | rfl | rfl | rfl | rfl | rfl | rfl | rfl | rfl | rfl
  · have Hr := Lib.hid (show sumF { data := #[43] } a b = (wrap64 (a + b), 0) by unfold sumF; simp)
    go_enter Tryd.func119, Tryd.ntmps119
    go_wp2_with fail
    go_ret2
    exact ⟨by rw [Hr.out]; rfl, rfl⟩
  · have Hr := Lib.hid (show sumF { data := #[45] } a b = (wrap64 (a - b), 0) by unfold sumF; simp)
    go_enter Tryd.func119, Tryd.ntmps119
    go_wp2_with fail
    go_ret2
    exact ⟨by rw [Hr.out]; rfl, rfl⟩
  · have Hr := Lib.hid (show sumF { data := #[42] } a b = (wrap64 (a * b), 0) by unfold sumF; simp)
    go_enter Tryd.func119, Tryd.ntmps119
    go_wp2_with fail
    go_ret2
    exact ⟨by rw [Hr.out]; rfl, rfl⟩
  · by_cases hz : b = 0
    · subst hz
      have Hr := Lib.hid (show sumF { data := #[47] } a 0 = (0, 3) by unfold sumF; simp)
      go_enter Tryd.func119, Tryd.ntmps119
      go_wp2_with fail
      go_ret2
      exact ⟨by rw [Hr.out]; rfl, rfl⟩
    by_cases hm : b = -1
    · subst hm
      clear hz
      have Hr := Lib.hid (show sumF { data := #[47] } a (-1) = (wrap64 (-a), 0) by unfold sumF; simp)
      go_enter Tryd.func119, Tryd.ntmps119
      go_wp2_with fail
      go_ret2
      exact ⟨by rw [Hr.out]; rfl, rfl⟩
    · have b0 : (b == 0) = false := by simpa using hz
      have b1 : (b == -1) = false := by simpa using hm
      have Hr := Lib.hid (show sumF { data := #[47] } a b = (wrap64 (a.tdiv b), 0) by unfold sumF; simp [hz, hm])
      clear hm
      go_enter Tryd.func119, Tryd.ntmps119
      go_wp2_with fail
      go_ret2
      exact ⟨by rw [Hr.out]; rfl, rfl⟩
  · by_cases hz : b = 0
    · subst hz
      have Hr := Lib.hid (show sumF { data := #[37] } a 0 = (0, 3) by unfold sumF; simp)
      go_enter Tryd.func119, Tryd.ntmps119
      go_wp2_with fail
      go_ret2
      exact ⟨by rw [Hr.out]; rfl, rfl⟩
    by_cases hm : b = -1
    · subst hm
      clear hz
      have Hr := Lib.hid (show sumF { data := #[37] } a (-1) = (0, 0) by unfold sumF; simp)
      go_enter Tryd.func119, Tryd.ntmps119
      go_wp2_with fail
      go_ret2
      exact ⟨by rw [Hr.out]; rfl, rfl⟩
    · have b0 : (b == 0) = false := by simpa using hz
      have b1 : (b == -1) = false := by simpa using hm
      have Ht := tmod_in (a := a) Hb.out hz
      have Hw := Lib.hid (show wrap64 (a.tmod b) = a.tmod b from wrap64_in Ht.1 Ht.2)
      have Hr := Lib.hid (show sumF { data := #[37] } a b = (a.tmod b, 0) by unfold sumF; simp [hz, hm])
      clear hm Ht
      go_enter Tryd.func119, Tryd.ntmps119
      go_wp2_with fail
      go_ret2
      exact ⟨by rw [Hr.out]; first | rfl | (rw [← Hw.out]; rfl), rfl⟩
  · have Hr := Lib.hid (show sumF { data := #[61, 61] } a b = (yesF (a == b), 0) by unfold sumF; simp)
    go_enter Tryd.func119, Tryd.ntmps119
    go_wp2_with (first | (go_at_call 124; refine (vmTruth_any _ _).mono ?_; rintro e w' ⟨rfl, rfl⟩))
    go_ret2
    exact ⟨by rw [Hr.out]; rfl, rfl⟩
  · have Hr := Lib.hid (show sumF { data := #[33, 61] } a b = (yesF (a != b), 0) by unfold sumF; simp)
    go_enter Tryd.func119, Tryd.ntmps119
    go_wp2_with (first | (go_at_call 124; refine (vmTruth_any _ _).mono ?_; rintro e w' ⟨rfl, rfl⟩))
    go_ret2
    exact ⟨by rw [Hr.out]; rfl, rfl⟩
  · have Hr := Lib.hid (show sumF { data := #[60] } a b = (yesF (decide (a < b)), 0) by unfold sumF; simp)
    go_enter Tryd.func119, Tryd.ntmps119
    go_wp2_with (first | (go_at_call 124; refine (vmTruth_any _ _).mono ?_; rintro e w' ⟨rfl, rfl⟩))
    go_ret2
    exact ⟨by rw [Hr.out]; rfl, rfl⟩
  · have Hr := Lib.hid (show sumF { data := #[60, 61] } a b = (yesF (decide (a ≤ b)), 0) by unfold sumF; simp)
    go_enter Tryd.func119, Tryd.ntmps119
    go_wp2_with (first | (go_at_call 124; refine (vmTruth_any _ _).mono ?_; rintro e w' ⟨rfl, rfl⟩))
    go_ret2
    exact ⟨by rw [Hr.out]; rfl, rfl⟩
  · have Hr := Lib.hid (show sumF { data := #[62] } a b = (yesF (decide (b < a)), 0) by unfold sumF; simp)
    go_enter Tryd.func119, Tryd.ntmps119
    go_wp2_with (first | (go_at_call 124; refine (vmTruth_any _ _).mono ?_; rintro e w' ⟨rfl, rfl⟩))
    go_ret2
    exact ⟨by rw [Hr.out]; rfl, rfl⟩
  · have Hr := Lib.hid (show sumF { data := #[62, 61] } a b = (yesF (decide (b ≤ a)), 0) by unfold sumF; simp)
    go_enter Tryd.func119, Tryd.ntmps119
    go_wp2_with (first | (go_at_call 124; refine (vmTruth_any _ _).mono ?_; rintro e w' ⟨rfl, rfl⟩))
    go_ret2
    exact ⟨by rw [Hr.out]; rfl, rfl⟩
end Go.Proofs.YtaomlfbcfmmhlaaDoor

/-
  vm's machine, a step: math (printed by wip/gen_vmarms.py).
-/
namespace Go.Proofs.YtaomlfbcfmmhlaaDoor
open Go.RowKit Go.Pst
set_option linter.unusedVariables false
set_option linter.unusedSimpArgs false
variable [Old]
set_option maxRecDepth 100000 in
set_option maxHeartbeats 4000000 in
theorem vm_math (ρ : Nat → Option Lab) (t : Array Value) (w : World) (base bm lf li : Nat) (v1 vW vL vF u1 u2 u5 : Value) (bF oF cF : Nat) (p : PProg) (limit : Int) (words : List Int) (lines : List ByteArray) (f : Lev) (a : LV) (r : List (Lev × LV)) (i : PInstr)
    (h : VmPre ρ t w base bm lf li v1 vW vL vF u1 u2 u5 bF oF cF p limit words lines f a r i) (hi : i = instrAt p f) (e : i.op = 3) (d : Nat) (hd : i.ds = [(d : Int)]) (hdl : d < f.vars.length) (y z : Nat) (ha : i.ars = [(y : Int), (z : Int)]) (hy : y < f.vars.length) (hz : z < f.vars.length) (hss : i.s ∈ mathsF) (hI : InI (getI f.vars (y : Int)) ∧ InI (getI f.vars (z : Int))) :
    vmS3.wp Tryd.prog (bodyPost Tryd.prog Tryd.f69 (VmStepPost base bm v1 bF oF cF p limit (stepF p true limit (vmState words lines ((f, a) :: r))))) ⟨t, []⟩ w := by
  have hli := h.lil
  have b0 : w.cell? ⟨li, 0, none⟩ = some (.int .i64 3) := by simp [World.cell?, h.box, e]
  have b3 : w.cell? ⟨li, 3, none⟩ = some (.int .i64 i.n) := by simp [World.cell?, h.box]
  have f0 := h.fbox
  have hlf := h.lfl
  have H := Lib.hid h
  have b4 : w.cell? ⟨li, 4, none⟩ = some (.string i.s) := by simp [World.cell?, h.box]
  have Hset := Lib.hid (h.set d hd hdl)
  have Hd := Lib.hid hd
  have Hreg0 := Lib.hid (h.reg 0 y (by simp [ha]) hy)
  have Hreg1 := Lib.hid (h.reg 1 z (by simp [ha]) hz)
  have hxs : argsF true f i = [getI f.vars (y : Int), getI f.vars (z : Int)] := by simp [argsF, e, ha, Lev.src]
  generalize getI f.vars (y : Int) = x0 at *
  generalize getI f.vars (z : Int) = x1 at *
  have Hregs := Lib.hid (show ∀ (k : Int) (w' : World), Below w.heap.size w w' → (k = 0 ∨ k = 1) → Calls Tryd.prog 117 #[.int .i64 k, .pointer (some ⟨lf, 0, none⟩), .pointer (some ⟨li, 0, none⟩)] w' (fun e w'' => e = .returned (.int .i64 (if k = 0 then x0 else x1)) ∧ Drawn w' w'') from fun k w' hb hk => by
    rcases hk with rfl | rfl
    · exact Hreg0.out w' hb
    · exact Hreg1.out w' hb)
  clear Hreg0 Hreg1
  have Hm := Lib.hid (fun w' => vmMath_any i.s x0 x1 w' hss hI.1 hI.2)
  have hst : stepF p true limit (vmState words lines ((f, a) :: r)) = if (sumF i.s x0 x1).2 = 0 then (0, ⟨words, lines, Lev.setV { f with at_ := f.at_ + 1 } i (sumF i.s x0 x1).1 :: r.map (·.1)⟩) else ((sumF i.s x0 x1).2, ⟨words, lines, { f with at_ := f.at_ + 1 } :: r.map (·.1)⟩) := by
    unfold stepF vmState
    simp only [List.map_cons, ← hi, e, hxs]
    rfl
  rw [hst]
  generalize (sumF i.s x0 x1).1 = n at *
  generalize (sumF i.s x0 x1).2 = c at *
  clear hst h hd hi e hxs ha hss hI
  by_cases hc : c = 0
  · subst hc
    rw [if_pos rfl]
    have hcb : ((0 : Int) != 0) = false := by decide
    unfold vmS3
    conv => arg 2; whnf
    rw [frame232 t H.out.size, H.out.s0, H.out.s4, H.out.s5, H.out.s6, H.out.s7, H.out.s8]
    go_upto_region 14 with fail
    go_quiet (first
      | (go_at_call 117; go_must (refine Calls.quiet_of (Hregs.out _ _ (Drawn.below ⟨_, rfl⟩ _) (by decide))))
      | (go_at_call 119; go_must (refine Calls.quiet_of_same ((Hm.out _).mono fun _ _ ⟨he, hw⟩ => ⟨he, hw.symm⟩))))
    go_wp2_with fail
    refine (Hset.out _ (Drawn.below ⟨_, rfl⟩ _) n).mono ?_
    rintro e w1 ⟨rfl, rfl⟩
    go_wp2_with fail
    go_ret
    exact ⟨rfl, ρ, vW, vL, vF, _, ((H.out.run.since (Since.drewN _ _ _)).setR d n hdl).since (Since.drew _ _), by simp [Lev.setV, getI, Hd.out]⟩
  · rw [if_neg hc]
    have hcb : (c != 0) = true := by simpa using hc
    unfold vmS3
    conv => arg 2; whnf
    rw [frame232 t H.out.size, H.out.s0, H.out.s4, H.out.s5, H.out.s6, H.out.s7, H.out.s8]
    go_upto_region 14 with fail
    go_quiet (first
      | (go_at_call 117; go_must (refine Calls.quiet_of (Hregs.out _ _ (Drawn.below ⟨_, rfl⟩ _) (by decide))))
      | (go_at_call 119; go_must (refine Calls.quiet_of_same ((Hm.out _).mono fun _ _ ⟨he, hw⟩ => ⟨he, hw.symm⟩))))
    go_wp2_with fail
    go_ret
    exact ⟨rfl, ρ, vW, vL, vF, _, H.out.run.since (Since.drewN _ _ _), rfl⟩
end Go.Proofs.YtaomlfbcfmmhlaaDoor

/-
  vm's machine, a step: slots (printed by wip/gen_vmarms.py).
-/
namespace Go.Proofs.YtaomlfbcfmmhlaaDoor
open Go.RowKit Go.Pst
set_option linter.unusedVariables false
set_option linter.unusedSimpArgs false
variable [Old]
set_option maxRecDepth 100000 in
set_option maxHeartbeats 4000000 in
theorem vm_loadslot (ρ : Nat → Option Lab) (t : Array Value) (w : World) (base bm lf li : Nat) (v1 vW vL vF u1 u2 u5 : Value) (bF oF cF : Nat) (p : PProg) (limit : Int) (words : List Int) (lines : List ByteArray) (f : Lev) (a : LV) (r : List (Lev × LV)) (i : PInstr)
    (h : VmPre ρ t w base bm lf li v1 vW vL vF u1 u2 u5 bF oF cF p limit words lines f a r i) (hi : i = instrAt p f) (e : i.op = 21) (d : Nat) (hd : i.ds = [(d : Int)]) (hdl : d < f.vars.length) (hn : 0 ≤ i.n ∧ i.n < f.slots.length) :
    vmS3.wp Tryd.prog (bodyPost Tryd.prog Tryd.f69 (VmStepPost base bm v1 bF oF cF p limit (stepF p true limit (vmState words lines ((f, a) :: r))))) ⟨t, []⟩ w := by
  have hli := h.lil
  have b0 : w.cell? ⟨li, 0, none⟩ = some (.int .i64 21) := by simp [World.cell?, h.box, e]
  have b3 : w.cell? ⟨li, 3, none⟩ = some (.int .i64 i.n) := by simp [World.cell?, h.box]
  have f0 := h.fbox
  have hlf := h.lfl
  have H := Lib.hid h
  have Hset := Lib.hid (h.set d hd hdl)
  have Hd := Lib.hid hd
  have hst : stepF p true limit (vmState words lines ((f, a) :: r)) = (0, ⟨words, lines, Lev.setV { f with at_ := f.at_ + 1 } i (getI f.slots i.n) :: r.map (·.1)⟩) := by
    unfold stepF vmState
    simp only [List.map_cons, ← hi, e]
    rfl
  rw [hst]
  obtain ⟨n0, n1⟩ := hn
  obtain ⟨m, hm⟩ := Int.eq_ofNat_of_zero_le n0
  have hml : m < f.slots.length := by omega
  have q9 : w.cell? ⟨a.gs, 9, none⟩ = some (.slice (some ⟨a.gv, 0, none⟩) f.slots.length f.slots.length) := by
    have h8 : ({ f with at_ := f.at_ + 1 } : Lev).vars.length + a.rest.length = 8 := h.run.levs.1.eight
    exact (h.run.get (j := 9) (VmAt.cells_tail h8 0)).1
  have hgs := (h.run.levs.1.cells.lt _ rfl).2
  obtain ⟨_, _, hv2, -, -, hvl, hvc, hvz⟩ := row_get h.run.levs.1.slots (i := m) (u := .int .i64 f.slots[m]) (by simp [hml])
  obtain ⟨rfl, -⟩ : a.gv = _ ∧ _ := by simpa using hv2
  clear hv2
  have hm0 : (0 : Int) ≤ m := by omega
  have hm1 : (m : Int) < f.slots.length := by omega
  rw [hm] at b3
  have hx : getI f.slots i.n = f.slots[m] := by
    unfold getI
    rw [hm, Int.toNat_natCast, List.getD_eq_getElem?_getD, List.getElem?_eq_getElem hml]
    rfl
  rw [hx]
  generalize f.slots[m] = x at *
  unfold vmS3
  conv => arg 2; whnf
  rw [frame232 t H.out.size, H.out.s0, H.out.s4, H.out.s5, H.out.s6, H.out.s7, H.out.s8]
  have h8 : f.vars.length + a.rest.length = 8 := h.run.levs.1.eight
  have ngv : a.gv ≠ a.gs := fun e => by have h1 := h.run.levs.1.lt; rw [← e, h.run.levs.1.lv] at h1; simp at h1
  have hS0 : w.cell? ⟨lf, 0, none⟩ = some (.pointer (some ⟨a.gs, 0, none⟩)) ∧ w.cell? ⟨a.gs, 9, none⟩ = some (.slice (some ⟨a.gv, 0, none⟩) f.slots.length f.slots.length) ∧ w.cell? ⟨li, 3, none⟩ = some (.int .i64 m) ∧ w.cell? ⟨a.gv, m, none⟩ = some (.int .i64 x) := ⟨f0, q9, b3, hvc⟩
  have HS2 := Lib.hid (show ∀ u, (fun w' : World => w'.cell? ⟨lf, 0, none⟩ = some (.pointer (some ⟨a.gs, 0, none⟩)) ∧ w'.cell? ⟨a.gs, 9, none⟩ = some (.slice (some ⟨a.gv, 0, none⟩) f.slots.length f.slots.length) ∧ w'.cell? ⟨li, 3, none⟩ = some (.int .i64 m) ∧ w'.cell? ⟨a.gv, m, none⟩ = some (.int .i64 x)) ((w.drew.setCell ⟨a.gs, 1 + d, none⟩ u).drew) from fun u => by
    have n1 := h.ngf
    have n2 := h.ngi
    refine ⟨Eq.trans ?_ f0, Eq.trans ?_ q9, Eq.trans ?_ b3, Eq.trans ?_ hvc⟩
    all_goals
      show (w.drew.setCell ⟨a.gs, 1 + d, none⟩ u).cell? _ = w.drew.cell? _
      rw [World.cell?_setCell_other (h := by simp <;> omega)])
  clear hst h hd hi e hx hm n0 n1
  go_upto_region 10 with fail
  go_region_held3 (fun w' => (w'.cell? ⟨lf, 0, none⟩ = some (.pointer (some ⟨a.gs, 0, none⟩)) ∧ w'.cell? ⟨a.gs, 9, none⟩ = some (.slice (some ⟨a.gv, 0, none⟩) f.slots.length f.slots.length) ∧ w'.cell? ⟨li, 3, none⟩ = some (.int .i64 m) ∧ w'.cell? ⟨a.gv, m, none⟩ = some (.int .i64 x))) (first | exact hS0 | exact HS2.out _)
    (first | (go_at_call 118; refine (Hset.out _ (Drawn.below (Drawn.drew _) _) _).mono ?_; rintro e w1 ⟨rfl, rfl⟩))
  all_goals go_wp2_with fail
  go_ret
  exact ⟨rfl, ρ, vW, vL, vF, _, ((H.out.run.since (Since.drew _ _)).setR d x hdl).since (Since.drew _ _), by simp [Lev.setV, getI, Hd.out]⟩

set_option maxRecDepth 100000 in
set_option maxHeartbeats 4000000 in
theorem vm_storeslot (ρ : Nat → Option Lab) (t : Array Value) (w : World) (base bm lf li : Nat) (v1 vW vL vF u1 u2 u5 : Value) (bF oF cF : Nat) (p : PProg) (limit : Int) (words : List Int) (lines : List ByteArray) (f : Lev) (a : LV) (r : List (Lev × LV)) (i : PInstr)
    (h : VmPre ρ t w base bm lf li v1 vW vL vF u1 u2 u5 bF oF cF p limit words lines f a r i) (hi : i = instrAt p f) (e : i.op = 22) (y : Nat) (ha : i.ars = [(y : Int)]) (hy : y < f.vars.length) (hn : 0 ≤ i.n ∧ i.n < f.slots.length) :
    vmS3.wp Tryd.prog (bodyPost Tryd.prog Tryd.f69 (VmStepPost base bm v1 bF oF cF p limit (stepF p true limit (vmState words lines ((f, a) :: r))))) ⟨t, []⟩ w := by
  have hli := h.lil
  have b0 : w.cell? ⟨li, 0, none⟩ = some (.int .i64 22) := by simp [World.cell?, h.box, e]
  have b3 : w.cell? ⟨li, 3, none⟩ = some (.int .i64 i.n) := by simp [World.cell?, h.box]
  have f0 := h.fbox
  have hlf := h.lfl
  have H := Lib.hid h
  have hxs : argsF true f i = [getI f.vars (y : Int)] := by simp [argsF, e, ha, Lev.src]
  have hst : stepF p true limit (vmState words lines ((f, a) :: r)) = (0, ⟨words, lines, { f with at_ := f.at_ + 1, slots := f.slots.set i.n.toNat (getI f.vars (y : Int)) } :: r.map (·.1)⟩) := by
    unfold stepF vmState
    simp only [List.map_cons, ← hi, e, hxs]
    rfl
  rw [hst]
  obtain ⟨n0, n1⟩ := hn
  obtain ⟨m, hm⟩ := Int.eq_ofNat_of_zero_le n0
  have hml : m < f.slots.length := by omega
  have q9 : w.cell? ⟨a.gs, 9, none⟩ = some (.slice (some ⟨a.gv, 0, none⟩) f.slots.length f.slots.length) := by
    have h8 : ({ f with at_ := f.at_ + 1 } : Lev).vars.length + a.rest.length = 8 := h.run.levs.1.eight
    exact (h.run.get (j := 9) (VmAt.cells_tail h8 0)).1
  have hgs := (h.run.levs.1.cells.lt _ rfl).2
  obtain ⟨_, _, hv2, -, -, hvl, hvc, hvz⟩ := row_get h.run.levs.1.slots (i := m) (u := .int .i64 f.slots[m]) (by simp [hml])
  obtain ⟨rfl, -⟩ : a.gv = _ ∧ _ := by simpa using hv2
  clear hv2
  have hm0 : (0 : Int) ≤ m := by omega
  have hm1 : (m : Int) < f.slots.length := by omega
  rw [hm] at b3
  have hregK := fun w' hk => h.regK 0 y (by simp [ha]) hy w' hk
  generalize getI f.vars (y : Int) = x at *
  have hSS : ∀ w' : World, (∀ b o v, b ≠ a.gv → w.cell? ⟨b, o, none⟩ = some v → w'.cell? ⟨b, o, none⟩ = some v) → (w'.cell? ⟨lf, 0, none⟩ = some (.pointer (some ⟨a.gs, 0, none⟩)) ∧ w'.cell? ⟨a.gs, 9, none⟩ = some (.slice (some ⟨a.gv, 0, none⟩) f.slots.length f.slots.length) ∧ w'.cell? ⟨li, 3, none⟩ = some (.int .i64 m) ∧ VmRegIs lf li 0 x w') := fun w' hk => ⟨hk _ _ _ h.nvf f0, hk _ _ _ h.ngv q9, hk _ _ _ h.nvi b3, hregK w' hk⟩
  have hS0 := hSS w (fun _ _ _ _ h => h)
  have HS2 := Lib.hid (fun u k => hSS ((w.drewN k).setCell ⟨a.gv, m, none⟩ u) (fun b o v hb hv => (World.cell?_of_block (w := w.drewN k) (Below.heap_setCell _ _ _ _ hb)).trans hv))
  have HSD := Lib.hid (fun k => hSS (w.drewN k) (fun b o v hb hv => hv))
  have hregD := Lib.hid (show Calls Tryd.prog 117 #[.int .i64 ((0 : Nat) : Int), .pointer (some ⟨lf, 0, none⟩), .pointer (some ⟨li, 0, none⟩)] w.drew (fun e w'' => e = .returned (.int .i64 x) ∧ Drawn w.drew w'') from hregK w.drew (fun b o v hb hv => hv))
  clear hSS hregK
  have Hm := Lib.hid hm
  unfold vmS3
  conv => arg 2; whnf
  rw [frame232 t H.out.size, H.out.s0, H.out.s4, H.out.s5, H.out.s6, H.out.s7, H.out.s8]
  clear hst h hi e hm n0 n1 ha hxs
  generalize f.slots[m] = old at *
  go_upto_region 12 with fail
  go_region_held3 (fun w' => w'.cell? ⟨lf, 0, none⟩ = some (.pointer (some ⟨a.gs, 0, none⟩)) ∧ w'.cell? ⟨a.gs, 9, none⟩ = some (.slice (some ⟨a.gv, 0, none⟩) f.slots.length f.slots.length) ∧ w'.cell? ⟨li, 3, none⟩ = some (.int .i64 m) ∧ VmRegIs lf li 0 x w') (first | exact hS0 | exact HSD.out _ | exact HS2.out _ _)
    (first | (go_at_call 117; refine (hregD.out).mono ?_; rintro e w1 ⟨rfl, k, rfl⟩))
  all_goals go_wp2_with fail
  go_ret
  refine ⟨rfl, ρ, vW, vL, vF, _, (H.out.run.since (Since.drewN _ _ _)).setS m x, ?_⟩
  simp [Hm.out]
end Go.Proofs.YtaomlfbcfmmhlaaDoor

/-
  vm's machine, a step: jumps (printed by wip/gen_vmarms.py).
-/
namespace Go.Proofs.YtaomlfbcfmmhlaaDoor
open Go.RowKit Go.Pst
set_option linter.unusedVariables false
set_option linter.unusedSimpArgs false
variable [Old]
omit [Old] in
theorem vmCells_set {bF oF : Nat} {f : Lev} {a : LV} (h : f.vars.length + a.rest.length = 8) (j : Nat) (u : Value) : (vmCells bF oF f a).set (9 + j) u =
    .pointer (some ⟨bF, oF + f.fn * 6, none⟩) :: ((f.vars ++ a.rest).map (Value.int .i64) ++ ([.slice (some ⟨a.gv, 0, none⟩) f.slots.length f.slots.length, .int .i64 f.block, .int .i64 f.at_, a.vw] : List Value).set j u) := by
  unfold vmCells
  rw [show 9 + j = (8 + j) + 1 by omega, List.set_cons_succ, List.set_append_right _ _ (by simp; omega)]
  congr 3
  simp
  omega
theorem VmAt.goto {ρ : Nat → Option Lab} {w : World} {base bm : Nat} {v1 vW vL vF : Value} {bF oF cF : Nat} {p : PProg} {limit : Int} {words : List Int} {lines : List ByteArray} {f : Lev} {a : LV} {r : List (Lev × LV)}
    (h : VmAt ρ w base bm v1 vW vL vF bF oF cF p limit words lines ((f, a) :: r)) (k : Nat) :
    VmAt ρ ((w.setCell ⟨a.gs, 10, none⟩ (.int .i64 k)).setCell ⟨a.gs, 11, none⟩ (.int .i64 0)) base bm v1 vW vL vF bF oF cF p limit words lines ((f.goto k, a) :: r) := by
  have h8 := h.levs.1.eight
  have h1 := h.setC (f' := { f with block := k }) 10 (.int .i64 k) rfl rfl rfl (vmCells_set h8 1 _)
  exact h1.setC (f' := f.goto k) 11 (.int .i64 0) rfl rfl rfl (by rw [vmCells_set (f := { f with block := k }) h8 2]; simp [vmCells, Lev.goto])
set_option maxRecDepth 100000 in
set_option maxHeartbeats 4000000 in
theorem vm_jump (ρ : Nat → Option Lab) (t : Array Value) (w : World) (base bm lf li : Nat) (v1 vW vL vF u1 u2 u5 : Value) (bF oF cF : Nat) (p : PProg) (limit : Int) (words : List Int) (lines : List ByteArray) (f : Lev) (a : LV) (r : List (Lev × LV)) (i : PInstr)
    (h : VmPre ρ t w base bm lf li v1 vW vL vF u1 u2 u5 bF oF cF p limit words lines f a r i) (hi : i = instrAt p f) (e : i.op = 9) (k : Nat) (hto : i.to = [(k : Int)]) :
    vmS3.wp Tryd.prog (bodyPost Tryd.prog Tryd.f69 (VmStepPost base bm v1 bF oF cF p limit (stepF p true limit (vmState words lines ((f, a) :: r))))) ⟨t, []⟩ w := by
  have hli := h.lil
  have b0 : w.cell? ⟨li, 0, none⟩ = some (.int .i64 9) := by simp [World.cell?, h.box, e]
  have b3 : w.cell? ⟨li, 3, none⟩ = some (.int .i64 i.n) := by simp [World.cell?, h.box]
  have f0 := h.fbox
  have hlf := h.lfl
  have H := Lib.hid h
  have hst : stepF p true limit (vmState words lines ((f, a) :: r)) = (0, ⟨words, lines, Lev.goto { f with at_ := f.at_ + 1 } k :: r.map (·.1)⟩) := by
    unfold stepF vmState
    simp only [List.map_cons, ← hi, e, hto]
    rfl
  rw [hst]
  have h8 : f.vars.length + a.rest.length = 8 := h.run.levs.1.eight
  have n1 := h.ngf
  have n2 := h.ngi
  obtain ⟨g2, z2, hgl⟩ := h.run.get (j := 10) (u := .int .i64 f.block) (VmAt.cells_tail (f := { f with at_ := f.at_ + 1 }) h8 1)
  obtain ⟨g3, z3, -⟩ := h.run.get (j := 11) (u := .int .i64 ((f.at_ + 1 : Nat) : Int)) (VmAt.cells_tail (f := { f with at_ := f.at_ + 1 }) h8 2)
  have b5 : w.cell? ⟨li, 5, none⟩ = some u5 := by simp [World.cell?, h.box]
  obtain ⟨bT, oT, cT, rfl, hTb, hT2⟩ : ∃ bT oT cT, u5 = .slice (some ⟨bT, oT, none⟩) 1 cT ∧ bT < base ∧ w.cell? ⟨bT, oT, none⟩ = some (.int .i64 k) := by
    obtain ⟨aD, cD, hv, -, -, hh⟩ := rInts_val h.i5
    rw [hto] at hv hh
    obtain ⟨b, o, rfl, hb, -, hc, -⟩ := hh 0 (by simp)
    exact ⟨b, o, cD, hv, hb, hc⟩
  have n3 : bT ≠ a.gs := fun e => by have h1 : base ≤ a.gs := (h.run.levs.1.cells.lt _ rfl).1; omega
  have hSS : ∀ w' : World, (∀ b o v, b ≠ a.gs → w.cell? ⟨b, o, none⟩ = some v → w'.cell? ⟨b, o, none⟩ = some v) → (w'.cell? ⟨lf, 0, none⟩ = some (.pointer (some ⟨a.gs, 0, none⟩)) ∧ w'.cell? ⟨li, 5, none⟩ = some (.slice (some ⟨bT, oT, none⟩) 1 cT) ∧ w'.cell? ⟨bT, oT, none⟩ = some (.int .i64 k)) := fun w' hk => ⟨hk _ _ _ n1 f0, hk _ _ _ n2 b5, hk _ _ _ n3 hT2⟩
  have hS0 := hSS w (fun _ _ _ _ h => h)
  have HS1 := Lib.hid (fun u j k => hSS ((w.drewN k).setCell ⟨a.gs, j, none⟩ u) (fun b o v hb hv => (World.cell?_of_block (w := w.drewN k) (Below.heap_setCell _ _ _ _ hb)).trans hv))
  have HS2 := Lib.hid (fun u j u' j' k => hSS (((w.drewN k).setCell ⟨a.gs, j, none⟩ u).setCell ⟨a.gs, j', none⟩ u') (fun b o v hb hv => (World.cell?_of_block (w := (w.drewN k).setCell ⟨a.gs, j, none⟩ u) (Below.heap_setCell _ _ _ _ hb)).trans ((World.cell?_of_block (w := w.drewN k) (Below.heap_setCell _ _ _ _ hb)).trans hv)))
  clear hSS
  unfold vmS3
  conv => arg 2; whnf
  rw [frame232 t H.out.size, H.out.s0, H.out.s4, H.out.s5, H.out.s6, H.out.s7, H.out.s8]
  clear hst h hi e hto
  go_upto_region 41 with fail
  go_region_held3 (fun w' => w'.cell? ⟨lf, 0, none⟩ = some (.pointer (some ⟨a.gs, 0, none⟩)) ∧ w'.cell? ⟨li, 5, none⟩ = some (.slice (some ⟨bT, oT, none⟩) 1 cT) ∧ w'.cell? ⟨bT, oT, none⟩ = some (.int .i64 k)) (first | exact hS0 | exact HS1.out _ _ 1 | exact HS2.out _ _ _ _ 1) (fail)
  all_goals go_wp2_with fail
  go_ret
  exact ⟨rfl, ρ, vW, vL, vF, _, (H.out.run.goto k).since (Since.drew _ _), by simp⟩

set_option maxRecDepth 100000 in
set_option maxHeartbeats 4000000 in
theorem vm_choose (ρ : Nat → Option Lab) (t : Array Value) (w : World) (base bm lf li : Nat) (v1 vW vL vF u1 u2 u5 : Value) (bF oF cF : Nat) (p : PProg) (limit : Int) (words : List Int) (lines : List ByteArray) (f : Lev) (a : LV) (r : List (Lev × LV)) (i : PInstr)
    (h : VmPre ρ t w base bm lf li v1 vW vL vF u1 u2 u5 bF oF cF p limit words lines f a r i) (hi : i = instrAt p f) (e : i.op = 10) (y : Nat) (ha : i.ars = [(y : Int)]) (hy : y < f.vars.length) (k0 k1 : Nat) (hto : i.to = [(k0 : Int), (k1 : Int)]) :
    vmS3.wp Tryd.prog (bodyPost Tryd.prog Tryd.f69 (VmStepPost base bm v1 bF oF cF p limit (stepF p true limit (vmState words lines ((f, a) :: r))))) ⟨t, []⟩ w := by
  have hli := h.lil
  have b0 : w.cell? ⟨li, 0, none⟩ = some (.int .i64 10) := by simp [World.cell?, h.box, e]
  have b3 : w.cell? ⟨li, 3, none⟩ = some (.int .i64 i.n) := by simp [World.cell?, h.box]
  have f0 := h.fbox
  have hlf := h.lfl
  have H := Lib.hid h
  have Hreg0 := Lib.hid (h.reg 0 y (by simp [ha]) hy)
  have hxs : argsF true f i = [getI f.vars (y : Int)] := by simp [argsF, e, ha, Lev.src]
  have hst : stepF p true limit (vmState words lines ((f, a) :: r)) = (0, ⟨words, lines, Lev.goto { f with at_ := f.at_ + 1 } (getI i.to (yesF (getI f.vars (y : Int) == 0))) :: r.map (·.1)⟩) := by
    unfold stepF vmState
    simp only [List.map_cons, ← hi, e, hxs]
    rfl
  rw [hst]
  have h8 : f.vars.length + a.rest.length = 8 := h.run.levs.1.eight
  have n1 := h.ngf
  have n2 := h.ngi
  obtain ⟨g2, z2, hgl⟩ := h.run.get (j := 10) (u := .int .i64 f.block) (VmAt.cells_tail (f := { f with at_ := f.at_ + 1 }) h8 1)
  obtain ⟨g3, z3, -⟩ := h.run.get (j := 11) (u := .int .i64 ((f.at_ + 1 : Nat) : Int)) (VmAt.cells_tail (f := { f with at_ := f.at_ + 1 }) h8 2)
  have b5 : w.cell? ⟨li, 5, none⟩ = some u5 := by simp [World.cell?, h.box]
  obtain ⟨bT, oT, cT, rfl, hTb, hT2, hT3⟩ : ∃ bT oT cT, u5 = .slice (some ⟨bT, oT, none⟩) 2 cT ∧ bT < base ∧ w.cell? ⟨bT, oT, none⟩ = some (.int .i64 k0) ∧ w.cell? ⟨bT, oT + 1, none⟩ = some (.int .i64 k1) := by
    obtain ⟨aD, cD, hv, -, -, hh⟩ := rInts_val h.i5
    rw [hto] at hv hh
    obtain ⟨b, o, rfl, hb, -, hc, -⟩ := hh 0 (by simp)
    obtain ⟨b', o', he, -, -, hc', -⟩ := hh 1 (by simp)
    obtain ⟨rfl, rfl⟩ : b = b' ∧ o = o' := by simpa using he
    exact ⟨b, o, cD, hv, hb, hc, hc'⟩
  have n3 : bT ≠ a.gs := fun e => by have h1 : base ≤ a.gs := (h.run.levs.1.cells.lt _ rfl).1; omega
  have hSS : ∀ w' : World, (∀ b o v, b ≠ a.gs → w.cell? ⟨b, o, none⟩ = some v → w'.cell? ⟨b, o, none⟩ = some v) → (w'.cell? ⟨lf, 0, none⟩ = some (.pointer (some ⟨a.gs, 0, none⟩)) ∧ w'.cell? ⟨li, 5, none⟩ = some (.slice (some ⟨bT, oT, none⟩) 2 cT) ∧ w'.cell? ⟨bT, oT, none⟩ = some (.int .i64 k0) ∧ w'.cell? ⟨bT, oT + 1, none⟩ = some (.int .i64 k1)) := fun w' hk => ⟨hk _ _ _ n1 f0, hk _ _ _ n2 b5, hk _ _ _ n3 hT2, hk _ _ _ n3 hT3⟩
  have hS0 := hSS w (fun _ _ _ _ h => h)
  have HS1 := Lib.hid (fun u j k => hSS ((w.drewN k).setCell ⟨a.gs, j, none⟩ u) (fun b o v hb hv => (World.cell?_of_block (w := w.drewN k) (Below.heap_setCell _ _ _ _ hb)).trans hv))
  have HS2 := Lib.hid (fun u j u' j' k => hSS (((w.drewN k).setCell ⟨a.gs, j, none⟩ u).setCell ⟨a.gs, j', none⟩ u') (fun b o v hb hv => (World.cell?_of_block (w := (w.drewN k).setCell ⟨a.gs, j, none⟩ u) (Below.heap_setCell _ _ _ _ hb)).trans ((World.cell?_of_block (w := w.drewN k) (Below.heap_setCell _ _ _ _ hb)).trans hv)))
  clear hSS
  generalize getI f.vars (y : Int) = x at *
  by_cases hx0 : x = 0
  · have hxb : (x == 0) = true := by simp [hx0]
    have hTr := Lib.hid (fun w' => vmTruth_any true w')
    have hy : yesF true = 1 := by decide
    rw [hxb, hy]
    have hsel : Lev.goto { f with at_ := f.at_ + 1 } (getI i.to 1) = Lev.goto { f with at_ := f.at_ + 1 } (k1 : Int) := by rw [hto]; rfl
    rw [hsel]
    clear hsel hto
    unfold vmS3
    conv => arg 2; whnf
    rw [frame232 t H.out.size, H.out.s0, H.out.s4, H.out.s5, H.out.s6, H.out.s7, H.out.s8]
    clear hst h hi e ha hxs
    go_upto_region 43 with fail
    go_region_held3 (fun w' => w'.cell? ⟨lf, 0, none⟩ = some (.pointer (some ⟨a.gs, 0, none⟩)) ∧ w'.cell? ⟨li, 5, none⟩ = some (.slice (some ⟨bT, oT, none⟩) 2 cT) ∧ w'.cell? ⟨bT, oT, none⟩ = some (.int .i64 k0) ∧ w'.cell? ⟨bT, oT + 1, none⟩ = some (.int .i64 k1)) (first | exact hS0 | exact HS1.out _ _ _ | exact HS2.out _ _ _ _ _)
      (first
        | (go_at_call 117; refine (Hreg0.out _ (Drawn.below (Drawn.drew _) _)).mono ?_; rintro e w1 ⟨rfl, k, rfl⟩)
        | (go_at_call 124; refine (hTr.out _).mono ?_; rintro e w1 ⟨rfl, rfl⟩))
    all_goals go_wp2_with fail
    go_ret
    exact ⟨rfl, ρ, vW, vL, vF, _, (H.out.run.since (Since.drewN _ _ _)).goto k1, by simp⟩
  · have hxb : (x == 0) = false := by simp [hx0]
    have hTr := Lib.hid (fun w' => vmTruth_any false w')
    have hy : yesF false = 0 := by decide
    rw [hxb, hy]
    have hsel : Lev.goto { f with at_ := f.at_ + 1 } (getI i.to 0) = Lev.goto { f with at_ := f.at_ + 1 } (k0 : Int) := by rw [hto]; rfl
    rw [hsel]
    clear hsel hto
    unfold vmS3
    conv => arg 2; whnf
    rw [frame232 t H.out.size, H.out.s0, H.out.s4, H.out.s5, H.out.s6, H.out.s7, H.out.s8]
    clear hst h hi e ha hxs
    go_upto_region 43 with fail
    go_region_held3 (fun w' => w'.cell? ⟨lf, 0, none⟩ = some (.pointer (some ⟨a.gs, 0, none⟩)) ∧ w'.cell? ⟨li, 5, none⟩ = some (.slice (some ⟨bT, oT, none⟩) 2 cT) ∧ w'.cell? ⟨bT, oT, none⟩ = some (.int .i64 k0) ∧ w'.cell? ⟨bT, oT + 1, none⟩ = some (.int .i64 k1)) (first | exact hS0 | exact HS1.out _ _ _ | exact HS2.out _ _ _ _ _)
      (first
        | (go_at_call 117; refine (Hreg0.out _ (Drawn.below (Drawn.drew _) _)).mono ?_; rintro e w1 ⟨rfl, k, rfl⟩)
        | (go_at_call 124; refine (hTr.out _).mono ?_; rintro e w1 ⟨rfl, rfl⟩))
    all_goals go_wp2_with fail
    go_ret
    exact ⟨rfl, ρ, vW, vL, vF, _, (H.out.run.since (Since.drewN _ _ _)).goto k0, by simp⟩

end Go.Proofs.YtaomlfbcfmmhlaaDoor

/-
  vm's machine: the slots that an instruction names: the contract.
-/
namespace Go.Proofs.YtaomlfbcfmmhlaaDoor
open Go.RowKit Go.Pst
set_option linter.unusedVariables false
set_option linter.unusedSimpArgs false

def VmSlotsPost (base : Nat) (w : World) (xs : List Int) (e : Ending) (w' : World) : Prop :=
  ∃ v, e = .returned v ∧ w'.ownsRow base 3 1 v xs.length (xs.map (Value.int .i64)) ∧ Below base w w'

set_option maxRecDepth 100000 in
set_option maxHeartbeats 4000000 in
theorem vmSlots_any (w : World) (gs gv : Nat) (vA : Value) (slots ars : List Int) (n : Nat) (hn : slots.length = n) (hnm : n ≤ 3000) (ha : rInts (fun k => k < w.heap.size) w [vA] ars) (hA : Ins ars n) (hAl : ars.length ≤ 40000)
    (c9 : w.cell? ⟨gs, 9, none⟩ = some (.slice (some ⟨gv, 0, none⟩) n n)) (hgs : gs < w.heap.size) (hgv : gv < w.heap.size) (hs : ∀ i x, slots[i]? = some x → w.cell? ⟨gv, i, none⟩ = some (.int .i64 x)) :
    Calls Tryd.prog 121 #[.pointer (some ⟨gs, 0, none⟩), vA] w (VmSlotsPost w.heap.size w (ars.map (getI slots))) := by
  obtain ⟨a2, c2, rfl, hc2, hm2, hI2⟩ := rInts_val ha
  obtain ⟨i0, hi, hz0, hz1, hz2⟩ := info_parts info_int
  have HI2 := Lib.hid hI2
  have HS := Lib.hid hs
  have HA := Lib.hid hA
  clear ha hI2 hs hA
  go_enter Tryd.func121, Tryd.ntmps121
  go_wp2_with fail
  go_loopw [5, 10] (fun vX s wr => ∃ k : Nat, k ≤ ars.length ∧ s = .int .i64 k ∧ Below w.heap.size w wr ∧ wr.ownsRow w.heap.size 3 1 vX k (((ars.take k).map (getI slots)).map (Value.int .i64))) (fun _ s _ => ars.length - (intOf s).toNat)
  case atStart => exact ⟨0, Nat.zero_le _, rfl, Below.refl _ _, ⟨by simp, Or.inl ⟨rfl, rfl⟩⟩⟩
  case round =>
    obtain ⟨k, hk, rfl, hbw, hrow⟩ := hrel
    by_cases hlt : k < ars.length
    · have hlt1 : (k : Int) < ars.length := by omega
      have hk0 : (0 : Int) ≤ k := by omega
      obtain ⟨b2, o2, rfl, hb2, hb2', hcx0, -⟩ := HI2.out k hlt
      have hcx := (hbw.cell (p := ⟨b2, o2 + k, none⟩) hb2').trans hcx0
      have hin := HA.out _ (List.getElem_mem hlt)
      obtain ⟨j, hj⟩ := Int.eq_ofNat_of_zero_le hin.1
      have hjl : j < slots.length := by omega
      have hjl1 : (j : Int) < n := by omega
      have hj0 : (0 : Int) ≤ j := by omega
      have e1 := (hbw.cell (p := ⟨gs, 9, none⟩) hgs).trans c9
      have hcS := (hbw.cell (p := ⟨gv, j, none⟩) hgv).trans (HS.out j slots[j] (List.getElem?_eq_getElem hjl))
      rw [hj] at hcx
      obtain ⟨aX, cX, rfl, hx1, hx2⟩ := row_slice hrow
      have hbigr := hbw.size
      have HBW := Lib.hid hbw
      have Hta := Lib.hid (show ((ars.take k).map (getI slots)).map (Value.int .i64) ++ [.int .i64 slots[j]] = ((ars.take (k + 1)).map (getI slots)).map (Value.int .i64) by
        rw [List.take_succ_eq_append_getElem hlt]
        simp only [List.map_append, List.map_cons, List.map_nil, hj]
        have : getI slots (j : Int) = slots[j] := by
          unfold getI
          rw [Int.toNat_natCast, List.getD_eq_getElem?_getD, List.getElem?_eq_getElem hjl]
          rfl
        rw [this])
      clear hj hin hbw hcx0
      generalize slots[j] = x at *
      generalize ((ars.take k).map (getI slots)).map (Value.int .i64) = ys at *
      go_wp2_with (at_builtin; refine wpList_append_own_at _ rfl _ _ 23 rfl w.heap.size 3 i0 (.int .i64 0) 1 8 Tryd.underlying23 hi hz0 hz1 hz2 rfl (by decide) _ _ _ rfl (hrow.alloc _) ⟨wr.heap.size, 0, none⟩ 1 1 [.int .i64 x] rfl rfl (cell_one_new _ _ _) (ints_oneCell .i64 [x]) (by unfold maxLen; omega) (by omega) (by simp; omega) ?_)
      intro v' w1 hown' hgrow _ hloc
      obtain ⟨gg, cg, rfl⟩ : ∃ gg cg, v' = .slice (some ⟨gg, 0, none⟩) (k + 1) cg := by
        rcases hown'.2 with ⟨_, h⟩ | ⟨gg, cap', _, h, _⟩
        · omega
        · exact ⟨gg, cap', h⟩
      have s1 : Since (fun k' => (Value.slice aX k cX).ownBlock = some k') wr w1 := (Since.alloc _ _ _).trans (Since.grown hgrow)
      have hlt2 : ∀ k', (Value.slice aX k cX).ownBlock = some k' → w.heap.size ≤ k' := fun k' e => (hrow.lt k' e).1
      have hbw1 := HBW.out.trans (s1.below hbigr hlt2)
      have Hbw1 := Lib.hid hbw1
      clear hlt2 s1 hloc hgrow hbw1 e1 hcS hcx
      go_wp2_with fail
      refine ⟨⟨k + 1, by omega, by simp, Hbw1.out, ?_⟩, by simp only [intOf]; omega⟩
      rw [← Hta.out]
      exact hown'
    · have hke : k = ars.length := by omega
      subst hke
      have hlt1 : ¬ ((ars.length : Int) < ars.length) := by omega
      have HR := Lib.hid hrow
      have HBW := Lib.hid hbw
      clear hrow hbw
      go_wp2_with fail
      go_ret
      exact ⟨_, rfl, (by have := HR.out; rw [List.take_length] at this; rw [List.length_map]; exact this), HBW.out⟩
end Go.Proofs.YtaomlfbcfmmhlaaDoor

/-
  vm's machine: back to the caller: the contract.
-/
namespace Go.Proofs.YtaomlfbcfmmhlaaDoor
open Go.RowKit Go.Pst
set_option linter.unusedVariables false
set_option linter.unusedSimpArgs false

theorem vmPutAll_snoc : ∀ (l ds vs : List Int) (n : Nat) (h1 : n < ds.length) (h2 : n < vs.length), putAll l (ds.take (n + 1)) (vs.take (n + 1)) = (putAll l (ds.take n) (vs.take n)).set (ds[n]).toNat vs[n]
  | l, d :: ds, v :: vs, 0, _, _ => by simp [putAll]
  | l, d :: ds, v :: vs, n + 1, h1, h2 => by
    simp only [List.take_succ_cons, List.getElem_cons_succ]
    exact vmPutAll_snoc (l.set d.toNat v) ds vs n (by simpa using h1) (by simpa using h2)
theorem VmAt.pop [Old] {ρ : Nat → Option Lab} {w : World} {base bm : Nat} {v1 vW vL : Value} {bF oF cF : Nat} {p : PProg} {limit : Int} {words : List Int} {lines : List ByteArray} {f : Lev} {a : LV} {r : List (Lev × LV)} {g cap : Nat}
    (h : VmAt ρ w base bm v1 vW vL (.slice (some ⟨g, 0, none⟩) (r.length + 1) cap) bF oF cF p limit words lines ((f, a) :: r)) :
    VmAt ρ (w.setCell ⟨bm, 4, none⟩ (.slice (some ⟨g, 0, none⟩) r.length cap)) base bm v1 vW vL (.slice (some ⟨g, 0, none⟩) r.length cap) bF oF cF p limit words lines r := by
  have hr := row_short (m := r.length) h.rF (by simp)
  have e : (vmRow ((f, a) :: r)).take (r.length * 1) = vmRow r := by
    show (vmRow r ++ _).take (r.length * 1) = vmRow r
    rw [Nat.mul_one, ← vmRow_length, List.take_left']
    rfl
  rw [e] at hr
  exact h.setM 4 _ (by decide) (by simp) (by simp) (by simp) (by simp) (by simp) (by simp) (by decide) (by decide) h.lw h.ll h.lc h.oW h.oL hr h.levs.2

def vmPutBack (r : List (Lev × LV)) (want xs : List Int) : List (Lev × LV) :=
  match r with
  | [] => []
  | (g, b) :: r' => ({ g with slots := putAll g.slots want xs }, b) :: r'
def VmBackPost [Old] (base bm : Nat) (v1 vW vL : Value) (bF oF cF : Nat) (p : PProg) (limit : Int) (words : List Int) (lines : List ByteArray) (fr : List (Lev × LV)) (c : Int) (e : Ending) (w' : World) : Prop :=
  e = .returned (.int .i64 c) ∧ ∃ ρ vF, VmAt ρ w' base bm v1 vW vL vF bF oF cF p limit words lines fr

set_option maxRecDepth 100000 in
set_option maxHeartbeats 4000000 in
theorem vmBack0 [Old] (ρ : Nat → Option Lab) (w : World) (base bm : Nat) (v1 vW vL vF vX : Value) (bF oF cF : Nat) (p : PProg) (limit : Int) (words : List Int) (lines : List ByteArray) (f : Lev) (a : LV)
    (h : VmAt ρ w base bm v1 vW vL vF bF oF cF p limit words lines [(f, a)]) :
    Calls Tryd.prog 122 #[.pointer (some ⟨bm, 0, none⟩), vX] w (VmBackPost base bm v1 vW vL bF oF cF p limit words lines [] 1) := by
  obtain ⟨g, cap, rfl, hcap, hg1, hg2, hp, hpz⟩ := h.top
  have c4 := h.c4
  have z4 := h.z 4
  have hcap1 : (1 : Nat) ≤ cap := by simpa using hcap
  simp only [List.length_nil, Nat.zero_add] at c4 hp hcap
  have H := Lib.hid h
  clear h hpz hcap
  have hw0 : IntKind.i64.wrap (1 - 1) = 0 := by decide
  have hw1 : IntKind.i64.wrap 0 = 0 := by decide
  go_enter Tryd.func122, Tryd.ntmps122
  go_wp2_with fail
  go_quiet (fail)
  go_wp2_with fail
  go_region
  all_goals go_wp2_with fail
  go_ret
  exact ⟨rfl, ρ, _, (H.out.since (Since.drewN _ w (nq + 1))).pop⟩

set_option maxRecDepth 100000 in
set_option maxHeartbeats 4000000 in
theorem vmBack1 [Old] (ρ : Nat → Option Lab) (w : World) (base bm : Nat) (v1 vW vL vF vX : Value) (bF oF cF : Nat) (p : PProg) (limit : Int) (words : List Int) (lines : List ByteArray) (f f1 : Lev) (a a1 : LV) (r : List (Lev × LV)) (xs : List Int)
    (h : VmAt ρ w base bm v1 vW vL vF bF oF cF p limit words lines ((f, a) :: (f1, a1) :: r)) (hrow : w.ownsRow base 3 1 vX xs.length (xs.map (Value.int .i64))) (hnx : ∀ k, vX.ownBlock = some k → ρ k = none)
    (hwl : f.want.length = xs.length) (hwl2 : xs.length ≤ 40000) (hlen : r.length ≤ 100000) (hwi : Ins f.want f1.slots.length) :
    Calls Tryd.prog 122 #[.pointer (some ⟨bm, 0, none⟩), vX] w (VmBackPost base bm v1 vW vL bF oF cF p limit words lines (({ f1 with slots := putAll f1.slots f.want xs }, a1) :: r) 0) := by
  obtain ⟨g, cap, rfl, hcap, hg1, hg2, hp, hpz⟩ := h.top
  have c4 := h.c4
  have z4 := h.z 4
  have hcap1 : r.length + 1 + 1 ≤ cap := by simpa using hcap
  obtain ⟨aW, cW, hvw, hW⟩ : ∃ aW cW, a.vw = .slice aW f.want.length cW ∧ ∀ j (hj : j < f.want.length), ∃ b o, aW = some ⟨b, o, none⟩ ∧ b < base ∧ b < w.heap.size ∧ w.cell? ⟨b, o + j, none⟩ = some (.int .i64 f.want[j]) := by
    obtain ⟨aW, cW, hv, -, -, hh⟩ := rInts_val h.levs.1.want
    refine ⟨aW, cW, hv, fun j hj => ?_⟩
    obtain ⟨b, o, h1, h2, h3, h4, -⟩ := hh j hj
    exact ⟨b, o, h1, h2, h3, h4⟩
  have q4 : w.cell? ⟨a.gs, 12, none⟩ = some (.slice aW f.want.length cW) := by have := (h.get (j := 9 + 3) (VmAt.cells_tail h.levs.1.eight 3)).1; rw [hvw] at this; exact this
  simp only [List.length_cons] at c4 hp hcap
  obtain ⟨aX, cX, rfl, hX1, hX2⟩ := row_slice hrow
  have hgl := (h.get (j := 9 + 3) (VmAt.cells_tail h.levs.1.eight 3)).2.2
  have nbg : ¬ a.gs = bm := fun e => by have h1 := h.levs.1.lt; rw [e, h.lm.1] at h1; simp at h1
  have H := Lib.hid h
  have Hrow := Lib.hid hrow
  have Hnx := Lib.hid hnx
  have HW := Lib.hid hW
  have Hwl := Lib.hid hwl
  have Hwi := Lib.hid hwi
  have hbig := h.big
  rw [hwl] at q4
  clear h hpz hcap hrow hnx hW hwl hwi hvw
  have hw0 : IntKind.i64.wrap (((r.length + 1 + 1 : Nat) : Int) - 1) = ((r.length + 1 : Nat) : Int) := by rw [show (((r.length + 1 + 1 : Nat) : Int) - 1) = ((r.length + 1 : Nat) : Int) by omega]; exact IntWalk.i64_in _ (by omega)
  have hw1 : IntKind.i64.wrap ((r.length : Int) + 1 + 1 - 1) = (r.length : Int) + 1 := by rw [show ((r.length : Int) + 1 + 1 - 1) = (r.length : Int) + 1 by omega]; exact IntWalk.i64_in _ (by omega)
  have hw2 : IntKind.i64.wrap ((r.length : Int) + 1) = (r.length : Int) + 1 := IntWalk.i64_in _ (by omega)
  have hw3 : IntKind.i64.wrap ((r.length : Int) + 1 - 1) = (r.length : Int) := by rw [show ((r.length : Int) + 1 - 1) = (r.length : Int) by omega]; exact IntWalk.i64_in _ (by omega)
  have hw4 : IntKind.i64.wrap (r.length : Int) = (r.length : Int) := IntWalk.i64_in _ (by omega)
  have hn0 : (0 : Int) ≤ r.length := by omega
  go_enter Tryd.func122, Tryd.ntmps122
  go_wp2_with fail
  go_quiet (fail)
  go_wp2_with fail
  go_region
  all_goals go_wp2_with fail
  have hq := (H.out.since (Since.drewN _ w (nq + 1))).pop
  have hsW := (Since.drewN (fun k => k = bm) w (nq + 1)).trans (Since.setCell (w.drewN (nq + 1)) ⟨bm, 4, none⟩ (.slice (some ⟨g, 0, none⟩) (r.length + 1) cap))
  have hq4 := (hsW.cell (o := 12) hgl nbg).trans q4
  generalize (w.drewN (nq + 1)).setCell ⟨bm, 4, none⟩ (.slice (some ⟨g, 0, none⟩) (r.length + 1) cap) = W at *
  obtain ⟨g', cap', hv', -, -, -, hp2, -⟩ := hq.top
  obtain ⟨rfl, -⟩ : g = g' ∧ _ := by simpa using hv'
  have c4' := hq.c4
  have e1 : W.cell? ⟨a1.gs, 9, none⟩ = some (.slice (some ⟨a1.gv, 0, none⟩) f1.slots.length f1.slots.length) := (hq.get (j := 9 + 0) (VmAt.cells_tail hq.levs.1.eight 0)).1
  have HQ2 := Lib.hid hq
  have HsW := Lib.hid hsW
  clear hq hsW hv' q4 hp c4 z4
  simp only [List.length_cons] at c4'
  go_quiet (fail)
  go_wp2_with fail
  have hIr := HQ2.out.since (Since.drewN _ W nq)
  have hsI := Since.drewN (fun k => k = a1.gv) W nq
  have HI := Lib.hid hIr
  have HSI := Lib.hid hsI
  clear hIr hsI hp2 c4' e1 hq4 hw0 hw1 hw2 hw3 hw4
  go_loopw [58] (fun s wr => ∃ n : Nat, n ≤ xs.length ∧ s = .int .i64 n ∧ Since (fun k => k = a1.gv) W wr ∧ VmAt ρ wr base bm v1 vW vL (.slice (some ⟨g, 0, none⟩) (r.length + 1) cap) bF oF cF p limit words lines (({ f1 with slots := putAll f1.slots (f.want.take n) (xs.take n) }, a1) :: r)) (fun s _ => xs.length - (intOf s).toNat)
  case atStart => exact ⟨0, Nat.zero_le _, rfl, HSI.out, HI.out⟩
  case round =>
    obtain ⟨n, hn, rfl, hs1, hR⟩ := hrel
    by_cases hlt : n < xs.length
    · have hlt1 : (n : Int) < xs.length := by omega
      have hn0 : (0 : Int) ≤ n := by omega
      have hltW : n < f.want.length := by rw [Hwl.out]; exact hlt
      obtain ⟨bW, oW, rfl, hbW, hbWl, hcW0⟩ := HW.out n hltW
      have hin := Hwi.out _ (List.getElem_mem hltW)
      obtain ⟨d, hd⟩ := Int.eq_ofNat_of_zero_le hin.1
      have hdl : d < f1.slots.length := by omega
      have hdl1 : (d : Int) < f1.slots.length := by omega
      have hd0 : (0 : Int) ≤ d := by omega
      have hgb : base ≤ a1.gv := (hR.levs.1.slots.lt _ rfl).1
      have hbmb := H.out.lm.2.1
      have hWs := HsW.out.size
      rw [hd] at hcW0
      have hcW : wr.cell? ⟨bW, oW + n, none⟩ = some (.int .i64 d) := (hs1.cell (Nat.lt_of_lt_of_le hbWl hWs) (by omega)).trans ((HsW.out.cell hbWl (by omega)).trans hcW0)
      obtain ⟨gX, cX', hvX, hX3, -, hXl, hcX0, -⟩ := row_get Hrow.out (i := n) (u := .int .i64 xs[n]) (by simp [hlt])
      obtain rfl : aX = some ⟨gX, 0, none⟩ := (Value.slice.inj hvX).1
      have hXn := Hnx.out gX rfl
      have nX : ¬ gX = a1.gv := fun e => by have h1 := hXn; rw [e, hR.levs.1.lv] at h1; simp at h1
      have nXb : ¬ gX = bm := fun e => by have h1 := hXn; rw [e, hR.lm.1] at h1; simp at h1
      have hcX : wr.cell? ⟨gX, n, none⟩ = some (.int .i64 xs[n]) := (hs1.cell (Nat.lt_of_lt_of_le hXl hWs) nX).trans ((HsW.out.cell hXl nXb).trans hcX0)
      have hpl : (putAll f1.slots (f.want.take n) (xs.take n)).length = f1.slots.length := putAll_length _ _ _
      have e1 : wr.cell? ⟨a1.gs, 9, none⟩ = some (.slice (some ⟨a1.gv, 0, none⟩) f1.slots.length f1.slots.length) := by
        have := (hR.get (j := 9 + 0) (VmAt.cells_tail hR.levs.1.eight 0)).1
        simp only [hpl] at this
        exact this
      have nG : ¬ a1.gs = a1.gv := fun e => by have h1 := hR.levs.1.lt; rw [e, hR.levs.1.lv] at h1; simp at h1
      obtain ⟨_, _, hvT, -, -, -, hcT, hzT⟩ := row_get hR.levs.1.slots (i := d) (u := .int .i64 ((putAll f1.slots (f.want.take n) (xs.take n))[d]'(by omega))) (by simp [hpl, hdl])
      obtain ⟨rfl, -⟩ : a1.gv = _ ∧ _ := by simpa using hvT
      have hk : ∀ b o u, ¬ b = a1.gv → (wr.setCell ⟨a1.gv, d, none⟩ u).cell? ⟨b, o, none⟩ = wr.cell? ⟨b, o, none⟩ := fun b o u hb => World.cell?_of_block (w := wr) (Below.heap_setCell _ _ _ _ hb)
      have k0 := fun u => (hk a1.gs 9 u nG).trans e1
      have k1 := fun u => (hk gX n u nX).trans hcX
      have HN := Lib.hid (show ({ f1 with slots := (putAll f1.slots (f.want.take n) (xs.take n)).set d xs[n] } : Lev) = { f1 with slots := putAll f1.slots (f.want.take (n + 1)) (xs.take (n + 1)) } by rw [vmPutAll_snoc _ _ _ _ hltW hlt, hd]; rfl)
      have HR := Lib.hid (hR.setS d xs[n])
      have HS := Lib.hid hs1
      generalize (putAll f1.slots (f.want.take n) (xs.take n))[d] = old at *
      clear hR hs1 hk hvT hpl hXn hvX hcX0 hcW0 hin hd nX nXb nG
      generalize hxn : xs[n] = xn at *
      go_wp2_with fail
      go_region_held3 (fun w' => w'.cell? ⟨a1.gs, 9, none⟩ = some (.slice (some ⟨a1.gv, 0, none⟩) f1.slots.length f1.slots.length) ∧ w'.cell? ⟨gX, n, none⟩ = some (.int .i64 xn)) (go_keep) (fail)
      all_goals go_wp2_with fail
      refine ⟨⟨_, _, .int .i64 ((n + 1 : Nat) : Int), _, _, _, _, _, _, _, _, _, _, _, _, _, _, _, ⟨n + 1, by omega, rfl, ?_, ?_⟩, rfl⟩, ?_⟩
      · exact (HS.out.trans (Since.setCell wr ⟨a1.gv, d, none⟩ (.int .i64 xn))).trans (Since.drew _ _)
      · rw [← HN.out]
        exact HR.out.since (Since.drew _ _)
      · show xs.length - (intOf (.int .i64 ((n : Int) + 1))).toNat < xs.length - (intOf (.int .i64 (n : Int))).toNat
        simp only [intOf]
        omega
    · have hne : n = xs.length := by omega
      subst hne
      have hlt1 : ¬ ((xs.length : Int) < xs.length) := by omega
      have HR := Lib.hid hR
      have HE := Lib.hid (show putAll f1.slots (f.want.take xs.length) (xs.take xs.length) = putAll f1.slots f.want xs by rw [List.take_length, ← Hwl.out, List.take_length])
      clear hR hs1 hlt
      go_wp2_with fail
      go_ret
      refine ⟨rfl, ρ, .slice (some ⟨g, 0, none⟩) (r.length + 1) cap, ?_⟩
      rw [← HE.out]
      exact HR.out
end Go.Proofs.YtaomlfbcfmmhlaaDoor

/-
  vm's machine, a step: back (printed by wip/gen_vmarms.py).
-/
namespace Go.Proofs.YtaomlfbcfmmhlaaDoor
open Go.RowKit Go.Pst
set_option linter.unusedVariables false
set_option linter.unusedSimpArgs false
variable [Old]
theorem VmPre.slotsOf {ρ : Nat → Option Lab} {t : Array Value} {w : World} {base bm lf li : Nat} {v1 vW vL vF u1 u2 u5 : Value} {bF oF cF : Nat} {p : PProg} {limit : Int} {words : List Int} {lines : List ByteArray} {f : Lev} {a : LV} {r : List (Lev × LV)} {i : PInstr}
    (h : VmPre ρ t w base bm lf li v1 vW vL vF u1 u2 u5 bF oF cF p limit words lines f a r i) (hA : Ins i.ars f.slots.length) (hAl : i.ars.length ≤ 40000) (hnm : f.slots.length ≤ 3000) :
    Calls Tryd.prog 121 #[.pointer (some ⟨a.gs, 0, none⟩), u2] w (VmSlotsPost w.heap.size w (i.ars.map (getI f.slots))) := by
  have h8 : f.vars.length + a.rest.length = 8 := h.run.levs.1.eight
  obtain ⟨q9, -, gl⟩ := h.run.get (j := 9) (VmAt.cells_tail (f := { f with at_ := f.at_ + 1 }) h8 0)
  have hbig := h.run.big
  refine vmSlots_any w a.gs a.gv u2 f.slots i.ars f.slots.length rfl hnm (Good.wide h.i2 (fun k hk _ => by omega)) hA hAl q9 gl (h.run.levs.1.slots.lt _ rfl).2 (fun j x hj => ?_)
  obtain ⟨_, _, hv2, -, -, -, hvc, -⟩ := row_get h.run.levs.1.slots (i := j) (u := .int .i64 x) (by simp [hj])
  obtain ⟨rfl, -⟩ : a.gv = _ ∧ _ := by simpa using hv2
  exact hvc
set_option maxRecDepth 100000 in
set_option maxHeartbeats 4000000 in
theorem vm_back0 (ρ : Nat → Option Lab) (t : Array Value) (w : World) (base bm lf li : Nat) (v1 vW vL vF u1 u2 u5 : Value) (bF oF cF : Nat) (p : PProg) (limit : Int) (words : List Int) (lines : List ByteArray) (f : Lev) (a : LV) (r : List (Lev × LV)) (i : PInstr)
    (h : VmPre ρ t w base bm lf li v1 vW vL vF u1 u2 u5 bF oF cF p limit words lines f a r i) (hi : i = instrAt p f) (e : i.op = 12) (hA : Ins i.ars f.slots.length) (hAl : i.ars.length ≤ 40000) (hnm : f.slots.length ≤ 3000) (hr : r = []) :
    vmS3.wp Tryd.prog (bodyPost Tryd.prog Tryd.f69 (VmStepPost base bm v1 bF oF cF p limit (stepF p true limit (vmState words lines ((f, a) :: r))))) ⟨t, []⟩ w := by
  subst hr
  have hli := h.lil
  have b0 : w.cell? ⟨li, 0, none⟩ = some (.int .i64 12) := by simp [World.cell?, h.box, e]
  have b3 : w.cell? ⟨li, 3, none⟩ = some (.int .i64 i.n) := by simp [World.cell?, h.box]
  have f0 := h.fbox
  have hlf := h.lfl
  have H := Lib.hid h
  have b2 : w.cell? ⟨li, 2, none⟩ = some u2 := by simp [World.cell?, h.box]
  have Hsl := Lib.hid (h.slotsOf hA hAl hnm)
  have hst : stepF p true limit (vmState words lines [(f, a)]) = (1, ⟨words, lines, []⟩) := by
    unfold stepF vmState
    simp only [List.map_cons, List.map_nil, ← hi, e]
    rfl
  rw [hst]
  unfold vmS3
  conv => arg 2; whnf
  rw [frame232 t H.out.size, H.out.s0, H.out.s4, H.out.s5, H.out.s6, H.out.s7, H.out.s8]
  clear hst h hi e
  go_wp2_with fail
  refine Hsl.out.mono ?_
  rintro e w1 ⟨v, rfl, hrow, hbw⟩
  have HS := Lib.hid (show Since (fun _ => False) w w1 from ⟨hbw.os, hbw.tape, hbw.output, hbw.size, fun k hk _ => hbw.block k hk⟩)
  clear hrow hbw
  go_wp2_with fail
  refine (vmBack0 ρ w1 base bm v1 vW vL vF v bF oF cF p limit words lines _ a (H.out.run.since HS.out)).mono ?_
  rintro e w2 ⟨rfl, ρ2, vF2, hq⟩
  have HQ := Lib.hid hq
  clear hq
  go_wp2_with fail
  go_ret
  exact ⟨rfl, ρ2, vW, vL, vF2, _, HQ.out, rfl⟩

set_option maxRecDepth 100000 in
set_option maxHeartbeats 4000000 in
theorem vm_back1 (ρ : Nat → Option Lab) (t : Array Value) (w : World) (base bm lf li : Nat) (v1 vW vL vF u1 u2 u5 : Value) (bF oF cF : Nat) (p : PProg) (limit : Int) (words : List Int) (lines : List ByteArray) (f : Lev) (a : LV) (r : List (Lev × LV)) (i : PInstr)
    (h : VmPre ρ t w base bm lf li v1 vW vL vF u1 u2 u5 bF oF cF p limit words lines f a r i) (hi : i = instrAt p f) (e : i.op = 12) (hA : Ins i.ars f.slots.length) (hAl : i.ars.length ≤ 40000) (hnm : f.slots.length ≤ 3000) (f1 : Lev) (a1 : LV) (r' : List (Lev × LV)) (hr : r = (f1, a1) :: r') (hwl : f.want.length = i.ars.length) (hlen : r'.length ≤ 100000) (hwi : Ins f.want f1.slots.length) :
    vmS3.wp Tryd.prog (bodyPost Tryd.prog Tryd.f69 (VmStepPost base bm v1 bF oF cF p limit (stepF p true limit (vmState words lines ((f, a) :: r))))) ⟨t, []⟩ w := by
  subst hr
  have hli := h.lil
  have b0 : w.cell? ⟨li, 0, none⟩ = some (.int .i64 12) := by simp [World.cell?, h.box, e]
  have b3 : w.cell? ⟨li, 3, none⟩ = some (.int .i64 i.n) := by simp [World.cell?, h.box]
  have f0 := h.fbox
  have hlf := h.lfl
  have H := Lib.hid h
  have b2 : w.cell? ⟨li, 2, none⟩ = some u2 := by simp [World.cell?, h.box]
  have Hsl := Lib.hid (h.slotsOf hA hAl hnm)
  have hxs : argsF true f i = i.ars.map (getI f.slots) := by simp [argsF, e, Lev.src]
  have hst : stepF p true limit (vmState words lines ((f, a) :: (f1, a1) :: r')) = (0, ⟨words, lines, { f1 with slots := putAll f1.slots f.want (i.ars.map (getI f.slots)) } :: r'.map (·.1)⟩) := by
    unfold stepF vmState
    simp only [List.map_cons, ← hi, e, hxs]
    rfl
  rw [hst]
  unfold vmS3
  conv => arg 2; whnf
  rw [frame232 t H.out.size, H.out.s0, H.out.s4, H.out.s5, H.out.s6, H.out.s7, H.out.s8]
  clear hst h hi e hxs
  go_wp2_with fail
  refine Hsl.out.mono ?_
  rintro e w1 ⟨v, rfl, hrow, hbw⟩
  have HS := Lib.hid (show Since (fun _ => False) w w1 from ⟨hbw.os, hbw.tape, hbw.output, hbw.size, fun k hk _ => hbw.block k hk⟩)
  have HR := Lib.hid hrow
  clear hrow hbw
  go_wp2_with fail
  refine (vmBack1 (fun k => if k < w.heap.size then ρ k else none) w1 base bm v1 vW vL vF v bF oF cF p limit words lines { f with at_ := f.at_ + 1 } f1 a a1 r' (i.ars.map (getI f.slots)) ((H.out.run.label (ρ' := fun k => if k < w.heap.size then ρ k else none) (fun k hk => by simp [hk])).since HS.out) (ownsRow_from HR.out H.out.run.big) (fun k hk => by have := (HR.out.lt k hk).1; simp; omega) (by simpa using hwl) (by simpa using hAl) hlen hwi).mono ?_
  rintro e w2 ⟨rfl, ρ2, vF2, hq⟩
  have HQ := Lib.hid hq
  clear hq
  go_wp2_with fail
  go_ret
  exact ⟨rfl, ρ2, vW, vL, vF2, _, HQ.out, rfl⟩
end Go.Proofs.YtaomlfbcfmmhlaaDoor

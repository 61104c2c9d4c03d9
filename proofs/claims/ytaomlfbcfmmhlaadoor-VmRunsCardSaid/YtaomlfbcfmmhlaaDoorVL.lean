/-
  Texts joined: VmShow VmShowT VmArm10 VmArm11 VmStep.
-/
import Derived.Test.YtaomlfbcfmmhlaaDoorVI
import Derived.Deep.RegionHeld3
import Derived.Deep.QuietTactic
import Derived.BigQuiet
import Derived.Test.YtaomlfbcfmmhlaaDoorVK
import Derived.Test.YtaomlfbcfmmhlaaDoorShelf
import Derived.Deep.Cut
import Derived.Test.YtaomlfbcfmmhlaaDoorVJ
import Derived.Deep.DeepCutAuto
import Derived.Test.YtaomlfbcfmmhlaaDoorVE

/-
  vm's machine: a line is shown: the contract (printed by wip/gen_vmshow.py).
-/
namespace Go.Proofs.YtaomlfbcfmmhlaaDoor
open Go.RowKit Go.Pst
set_option linter.unusedVariables false
set_option linter.unusedSimpArgs false

def VmShowPost [Old] (w : World) (vL0 : Value) (base bm : Nat) (v1 vW vF : Value) (bF oF cF : Nat) (p : PProg) (limit : Int) (words : List Int) (fr : List (Lev × LV)) (r : Int × List ByteArray) (e : Ending) (w' : World) : Prop :=
  e = .returned (.int .i64 r.1) ∧ ∃ ρ vL, VmAt ρ w' base bm v1 vW vL vF bF oF cF p limit words r.2 fr ∧ Since (fun k => vL0.ownBlock = some k ∨ k = bm) w w'

set_option maxRecDepth 100000 in
set_option maxHeartbeats 4000000 in
theorem vmShow_full [Old] (ρ : Nat → Option Lab) (w : World) (base bm : Nat) (v1 vW vL vF : Value) (s : ByteArray) (bF oF cF : Nat) (p : PProg) (limit : Int) (words : List Int) (lines : List ByteArray) (fr : List (Lev × LV))
    (h : VmAt ρ w base bm v1 vW vL vF bF oF cF p limit words lines fr) (hl : lines.length = 2000) (x y : Int) :
    Calls Tryd.prog 123 #[.pointer (some ⟨bm, 0, none⟩), .string s, .int .i64 x, .int .i64 y] w (VmShowPost w vL base bm v1 vW vF bF oF cF p limit words fr (7, lines)) := by
  obtain ⟨aL, cL, rfl, hL1, hL2⟩ := row_slice h.oL
  have c5 := h.c5
  have H := Lib.hid h
  have hbm := h.lm.2.2
  have hd : ((lines.length : Int) == 2000) = true := by simp; omega
  clear h
  go_enter Tryd.func123, Tryd.ntmps123
  go_wp2_with fail
  go_ret
  exact ⟨rfl, ρ, _, H.out, Since.refl _ _⟩

set_option maxRecDepth 100000 in
set_option maxHeartbeats 4000000 in
theorem vmShow_int [Old] (ρ : Nat → Option Lab) (w : World) (base bm : Nat) (v1 vW vL vF : Value) (bF oF cF : Nat) (p : PProg) (limit : Int) (words : List Int) (lines : List ByteArray) (fr : List (Lev × LV))
    (h : VmAt ρ w base bm v1 vW vL vF bF oF cF p limit words lines fr) (hT : TabOK w) (x y : Int) (hI : InI x) (hl : lines.length < 2000) :
    Calls Tryd.prog 123 #[.pointer (some ⟨bm, 0, none⟩), .string sInt, .int .i64 x, .int .i64 y] w (VmShowPost w vL base bm v1 vW vF bF oF cF p limit words fr (0, lines ++ [decS x])) := by
  obtain ⟨aL, cL, rfl, hL1, hL2⟩ := row_slice h.oL
  have c5 := h.c5
  have H := Lib.hid h
  have hbm := h.lm.2.2
  obtain ⟨i0, hi, hz0, hz1, hz2⟩ := info_parts info_str
  have hd : ((lines.length : Int) == 2000) = false := by simp; omega
  have hitoa := fun hh => Tryd.strconv_Itoa x hI.1 hI.2 w hh
  have Hitoa := Lib.hid (hitoa hT.is_)
  clear h hT hitoa
  go_enter Tryd.func123, Tryd.ntmps123
  go_wp2_with fail
  refine Hitoa.out.mono ?_
  rintro e w1 ⟨rfl, kk, os, hw1⟩
  have s1 : Since (fun _ => False) w w1 := by rw [hw1]; exact ⟨rfl, rfl, rfl, by simp [Go.Sort.grow, World.drewN], fun k hk _ => by simp [Go.Sort.grow, World.drewN]; rw [Array.getElem?_append_left hk]⟩
  have S1 := Lib.hid s1
  clear hw1 s1
  have hrun := H.out.since S1.out
  have c51 := hrun.c5
  have z51 := hrun.z 5
  have hown := hrun.oL
  have hbm1 := hrun.lm.2.2
  have hbig1 := hrun.big
  have nb : (Value.slice aL lines.length cL).ownBlock ≠ some bm := fun e => by have h1 := hrun.ll bm e; rw [hrun.lm.1] at h1; simp at h1
  have HR := Lib.hid hrun
  have Nb := Lib.hid nb
  clear hrun nb
  go_wp2_with (at_builtin; refine wpList_append_own_at _ rfl _ _ 39 rfl base 9 i0 (.string ByteArray.empty) 1 16 Tryd.underlying39 hi hz0 hz1 hz2 rfl (by decide) _ _ _ rfl (hown.alloc _) ⟨w1.heap.size, 0, none⟩ 1 1 [.string (decS x)] rfl rfl (cell_one_new _ _ _) (by intro u hu; simp at hu; subst hu; rfl) (by unfold maxLen; omega) (by omega) (by simp; omega) ?_)
  intro v' w3 hown' hgrow _ hloc
  obtain ⟨gg, cg, rfl⟩ : ∃ gg cg, v' = .slice (some ⟨gg, 0, none⟩) (lines.length + 1) cg := by
    rcases hown'.2 with ⟨_, h⟩ | ⟨gg, cap', _, h, _⟩
    · omega
    · exact ⟨gg, cap', h⟩
  have sg : Since (fun k => (Value.slice aL lines.length cL).ownBlock = some k) w1 w3 := (Since.alloc _ _ _).trans (Since.grown hgrow)
  have c53 := (sg.cell (o := 5) hbm1 Nb.out).trans c51
  have z53 := (sg.frozen (o := 5) hbm1 Nb.out).trans z51
  obtain ⟨ρ', hq⟩ := HR.out.turn (lines' := lines ++ [(decS x)]) sg 5 (Or.inr rfl) (.slice (some ⟨gg, 0, none⟩) (lines.length + 1) cg) (fun k e => Or.inr ⟨rfl, e⟩) (fun _ => ⟨rfl, rfl⟩) (fun e => absurd rfl e) (fun e => absurd e (by decide)) (fun _ => rfl) (fun e => absurd e (by decide)) (fun _ => by simpa using hown') (fun e => absurd e (by decide))
    (fun _ k hk => by
      rcases hloc with e | e
      · rw [e] at hk; exact Or.inl hk
      · rw [e] at hk
        have : w1.heap.size + 1 = k := by simpa using hk
        exact Or.inr (by omega))
  have HQ := Lib.hid hq
  have HSF := Lib.hid (((S1.out.mono (fun _ e => e.elim)).trans (sg.mono (fun _ e => Or.inl e))).trans ((Since.setCell _ ⟨bm, 5, none⟩ (.slice (some ⟨gg, 0, none⟩) (lines.length + 1) cg)).mono (fun _ e => Or.inr e)) : Since (fun k => (Value.slice aL lines.length cL).ownBlock = some k ∨ k = bm) w _)
  clear hq hown' hgrow hloc sg hown c51 z51
  go_wp2_with fail
  go_ret
  exact ⟨rfl, ρ', _, HQ.out, HSF.out⟩

set_option maxRecDepth 100000 in
set_option maxHeartbeats 4000000 in
theorem vmShow_bool [Old] (ρ : Nat → Option Lab) (w : World) (base bm : Nat) (v1 vW vL vF : Value) (bF oF cF : Nat) (p : PProg) (limit : Int) (words : List Int) (lines : List ByteArray) (fr : List (Lev × LV))
    (h : VmAt ρ w base bm v1 vW vL vF bF oF cF p limit words lines fr) (hT : TabOK w) (x y : Int) (hI : InI x) (hl : lines.length < 2000) :
    Calls Tryd.prog 123 #[.pointer (some ⟨bm, 0, none⟩), .string sBool, .int .i64 x, .int .i64 y] w (VmShowPost w vL base bm v1 vW vF bF oF cF p limit words fr (0, lines ++ [if x = 0 then sFalse else sTrue])) := by
  obtain ⟨aL, cL, rfl, hL1, hL2⟩ := row_slice h.oL
  have c5 := h.c5
  have H := Lib.hid h
  have hbm := h.lm.2.2
  obtain ⟨i0, hi, hz0, hz1, hz2⟩ := info_parts info_str
  have hd : ((lines.length : Int) == 2000) = false := by simp; omega
  have hitoa := fun hh => Tryd.strconv_Itoa x hI.1 hI.2 w hh
  have Hitoa := Lib.hid (hitoa hT.is_)
  clear h hT hitoa
  by_cases hz : x = 0
  · have hzb : (x != 0) = false := by simp [hz]
    rw [show (if x = 0 then sFalse else sTrue) = sFalse from if_pos hz]
    have hfb : ∀ w', Calls Tryd.prog 146 #[.bool false] w' fun e w'' => e = .returned (.string sFalse) ∧ w'' = w' := fun w' => Tryd.strconv_FormatBool false w'
    have Hfb := Lib.hid hfb
    clear hfb hz
    go_enter Tryd.func123, Tryd.ntmps123
    go_wp2_with fail
    refine Hitoa.out.mono ?_
    rintro e w1 ⟨rfl, kk, os, hw1⟩
    have s1 : Since (fun _ => False) w w1 := by rw [hw1]; exact ⟨rfl, rfl, rfl, by simp [Go.Sort.grow, World.drewN], fun k hk _ => by simp [Go.Sort.grow, World.drewN]; rw [Array.getElem?_append_left hk]⟩
    have S1 := Lib.hid s1
    clear hw1 s1
    go_wp2_with fail
    refine (Hfb.out _).mono ?_
    rintro e w' ⟨rfl, hww⟩
    have hww' := hww.symm
    clear hww
    subst hww'
    have hrun := H.out.since S1.out
    have c51 := hrun.c5
    have z51 := hrun.z 5
    have hown := hrun.oL
    have hbm1 := hrun.lm.2.2
    have hbig1 := hrun.big
    have nb : (Value.slice aL lines.length cL).ownBlock ≠ some bm := fun e => by have h1 := hrun.ll bm e; rw [hrun.lm.1] at h1; simp at h1
    have HR := Lib.hid hrun
    have Nb := Lib.hid nb
    clear hrun nb
    go_wp2_with (at_builtin; refine wpList_append_own_at _ rfl _ _ 39 rfl base 9 i0 (.string ByteArray.empty) 1 16 Tryd.underlying39 hi hz0 hz1 hz2 rfl (by decide) _ _ _ rfl (hown.alloc _) ⟨w1.heap.size, 0, none⟩ 1 1 [.string sFalse] rfl rfl (cell_one_new _ _ _) (by intro u hu; simp at hu; subst hu; rfl) (by unfold maxLen; omega) (by omega) (by simp; omega) ?_)
    intro v' w3 hown' hgrow _ hloc
    obtain ⟨gg, cg, rfl⟩ : ∃ gg cg, v' = .slice (some ⟨gg, 0, none⟩) (lines.length + 1) cg := by
      rcases hown'.2 with ⟨_, h⟩ | ⟨gg, cap', _, h, _⟩
      · omega
      · exact ⟨gg, cap', h⟩
    have sg : Since (fun k => (Value.slice aL lines.length cL).ownBlock = some k) w1 w3 := (Since.alloc _ _ _).trans (Since.grown hgrow)
    have c53 := (sg.cell (o := 5) hbm1 Nb.out).trans c51
    have z53 := (sg.frozen (o := 5) hbm1 Nb.out).trans z51
    obtain ⟨ρ', hq⟩ := HR.out.turn (lines' := lines ++ [sFalse]) sg 5 (Or.inr rfl) (.slice (some ⟨gg, 0, none⟩) (lines.length + 1) cg) (fun k e => Or.inr ⟨rfl, e⟩) (fun _ => ⟨rfl, rfl⟩) (fun e => absurd rfl e) (fun e => absurd e (by decide)) (fun _ => rfl) (fun e => absurd e (by decide)) (fun _ => by simpa using hown') (fun e => absurd e (by decide))
      (fun _ k hk => by
        rcases hloc with e | e
        · rw [e] at hk; exact Or.inl hk
        · rw [e] at hk
          have : w1.heap.size + 1 = k := by simpa using hk
          exact Or.inr (by omega))
    have HQ := Lib.hid hq
    have HSF := Lib.hid (((S1.out.mono (fun _ e => e.elim)).trans (sg.mono (fun _ e => Or.inl e))).trans ((Since.setCell _ ⟨bm, 5, none⟩ (.slice (some ⟨gg, 0, none⟩) (lines.length + 1) cg)).mono (fun _ e => Or.inr e)) : Since (fun k => (Value.slice aL lines.length cL).ownBlock = some k ∨ k = bm) w _)
    clear hq hown' hgrow hloc sg hown c51 z51
    go_wp2_with fail
    go_ret
    exact ⟨rfl, ρ', _, HQ.out, HSF.out⟩
  · have hzb : (x != 0) = true := by simp [hz]
    rw [show (if x = 0 then sFalse else sTrue) = sTrue from if_neg hz]
    have hfb : ∀ w', Calls Tryd.prog 146 #[.bool true] w' fun e w'' => e = .returned (.string sTrue) ∧ w'' = w' := fun w' => Tryd.strconv_FormatBool true w'
    have Hfb := Lib.hid hfb
    clear hfb hz
    go_enter Tryd.func123, Tryd.ntmps123
    go_wp2_with fail
    refine Hitoa.out.mono ?_
    rintro e w1 ⟨rfl, kk, os, hw1⟩
    have s1 : Since (fun _ => False) w w1 := by rw [hw1]; exact ⟨rfl, rfl, rfl, by simp [Go.Sort.grow, World.drewN], fun k hk _ => by simp [Go.Sort.grow, World.drewN]; rw [Array.getElem?_append_left hk]⟩
    have S1 := Lib.hid s1
    clear hw1 s1
    go_wp2_with fail
    refine (Hfb.out _).mono ?_
    rintro e w' ⟨rfl, hww⟩
    have hww' := hww.symm
    clear hww
    subst hww'
    have hrun := H.out.since S1.out
    have c51 := hrun.c5
    have z51 := hrun.z 5
    have hown := hrun.oL
    have hbm1 := hrun.lm.2.2
    have hbig1 := hrun.big
    have nb : (Value.slice aL lines.length cL).ownBlock ≠ some bm := fun e => by have h1 := hrun.ll bm e; rw [hrun.lm.1] at h1; simp at h1
    have HR := Lib.hid hrun
    have Nb := Lib.hid nb
    clear hrun nb
    go_wp2_with (at_builtin; refine wpList_append_own_at _ rfl _ _ 39 rfl base 9 i0 (.string ByteArray.empty) 1 16 Tryd.underlying39 hi hz0 hz1 hz2 rfl (by decide) _ _ _ rfl (hown.alloc _) ⟨w1.heap.size, 0, none⟩ 1 1 [.string sTrue] rfl rfl (cell_one_new _ _ _) (by intro u hu; simp at hu; subst hu; rfl) (by unfold maxLen; omega) (by omega) (by simp; omega) ?_)
    intro v' w3 hown' hgrow _ hloc
    obtain ⟨gg, cg, rfl⟩ : ∃ gg cg, v' = .slice (some ⟨gg, 0, none⟩) (lines.length + 1) cg := by
      rcases hown'.2 with ⟨_, h⟩ | ⟨gg, cap', _, h, _⟩
      · omega
      · exact ⟨gg, cap', h⟩
    have sg : Since (fun k => (Value.slice aL lines.length cL).ownBlock = some k) w1 w3 := (Since.alloc _ _ _).trans (Since.grown hgrow)
    have c53 := (sg.cell (o := 5) hbm1 Nb.out).trans c51
    have z53 := (sg.frozen (o := 5) hbm1 Nb.out).trans z51
    obtain ⟨ρ', hq⟩ := HR.out.turn (lines' := lines ++ [sTrue]) sg 5 (Or.inr rfl) (.slice (some ⟨gg, 0, none⟩) (lines.length + 1) cg) (fun k e => Or.inr ⟨rfl, e⟩) (fun _ => ⟨rfl, rfl⟩) (fun e => absurd rfl e) (fun e => absurd e (by decide)) (fun _ => rfl) (fun e => absurd e (by decide)) (fun _ => by simpa using hown') (fun e => absurd e (by decide))
      (fun _ k hk => by
        rcases hloc with e | e
        · rw [e] at hk; exact Or.inl hk
        · rw [e] at hk
          have : w1.heap.size + 1 = k := by simpa using hk
          exact Or.inr (by omega))
    have HQ := Lib.hid hq
    have HSF := Lib.hid (((S1.out.mono (fun _ e => e.elim)).trans (sg.mono (fun _ e => Or.inl e))).trans ((Since.setCell _ ⟨bm, 5, none⟩ (.slice (some ⟨gg, 0, none⟩) (lines.length + 1) cg)).mono (fun _ e => Or.inr e)) : Since (fun k => (Value.slice aL lines.length cL).ownBlock = some k ∨ k = bm) w _)
    clear hq hown' hgrow hloc sg hown c51 z51
    go_wp2_with fail
    go_ret
    exact ⟨rfl, ρ', _, HQ.out, HSF.out⟩
set_option maxRecDepth 100000 in
set_option maxHeartbeats 4000000 in
theorem vmByteF_cells (l : List Int) : Lib.byteCells (l.map byteF) = l.map fun x => Value.int .u8 (x % 256) := by
  unfold Lib.byteCells
  rw [List.map_map]
  refine List.map_congr_left fun x _ => ?_
  simp [byteF]
  omega

set_option maxRecDepth 100000 in
set_option maxHeartbeats 4000000 in
theorem vmShow_text_n1 [Old] (ρ : Nat → Option Lab) (w : World) (base bm : Nat) (v1 vW vL vF : Value) (bF oF cF : Nat) (p : PProg) (limit : Int) (words : List Int) (lines : List ByteArray) (fr : List (Lev × LV))
    (h : VmAt ρ w base bm v1 vW vL vF bF oF cF p limit words lines fr) (hT : TabOK w) (x y : Int) (hI : InI x) (hI2 : InI y) (hl : lines.length < 2000) (hwl : words.length ≤ 20000) (hy : y < 0) :
    Calls Tryd.prog 123 #[.pointer (some ⟨bm, 0, none⟩), .string sText, .int .i64 x, .int .i64 y] w (VmShowPost w vL base bm v1 vW vF bF oF cF p limit words fr (2, lines)) := by
  obtain ⟨aL, cL, rfl, hL1, hL2⟩ := row_slice h.oL
  have c5 := h.c5
  have H := Lib.hid h
  have hbm := h.lm.2.2
  obtain ⟨i0, hi, hz0, hz1, hz2⟩ := info_parts info_str
  have hd : ((lines.length : Int) == 2000) = false := by simp; omega
  have hitoa := fun hh => Tryd.strconv_Itoa x hI.1 hI.2 w hh
  have Hitoa := Lib.hid (hitoa hT.is_)
  obtain ⟨aW, cW, rfl, hW1, hW2⟩ := row_slice h.oW
  have c2 := h.c2
  have HoW := Lib.hid h.oW
  obtain ⟨hI1, hI1'⟩ := hI
  obtain ⟨hI3, hI3'⟩ := hI2
  have d1 : decide (y < 0) = true := decide_eq_true hy
  clear h hT hitoa
  go_enter Tryd.func123, Tryd.ntmps123
  go_wp2_with fail
  refine Hitoa.out.mono ?_
  rintro e w1 ⟨rfl, kk, os, hw1⟩
  have s1 : Since (fun _ => False) w w1 := by rw [hw1]; exact ⟨rfl, rfl, rfl, by simp [Go.Sort.grow, World.drewN], fun k hk _ => by simp [Go.Sort.grow, World.drewN]; rw [Array.getElem?_append_left hk]⟩
  have S1 := Lib.hid s1
  clear hw1 s1
  have hc2 := (S1.out.cell (o := 2) hbm id).trans c2
  have hz1w := S1.out.size
  have hbm1' := Nat.lt_of_lt_of_le hbm hz1w
  clear c2 c5
  go_wp2_with fail
  go_ret
  exact ⟨rfl, ρ, _, H.out.since S1.out, S1.out.mono (fun _ e => e.elim)⟩

set_option maxRecDepth 100000 in
set_option maxHeartbeats 4000000 in
theorem vmShow_text_n2 [Old] (ρ : Nat → Option Lab) (w : World) (base bm : Nat) (v1 vW vL vF : Value) (bF oF cF : Nat) (p : PProg) (limit : Int) (words : List Int) (lines : List ByteArray) (fr : List (Lev × LV))
    (h : VmAt ρ w base bm v1 vW vL vF bF oF cF p limit words lines fr) (hT : TabOK w) (x y : Int) (hI : InI x) (hI2 : InI y) (hl : lines.length < 2000) (hwl : words.length ≤ 20000) (hy : 0 ≤ y) (h3 : y ≤ words.length) (hx : x < 0) :
    Calls Tryd.prog 123 #[.pointer (some ⟨bm, 0, none⟩), .string sText, .int .i64 x, .int .i64 y] w (VmShowPost w vL base bm v1 vW vF bF oF cF p limit words fr (2, lines)) := by
  obtain ⟨aL, cL, rfl, hL1, hL2⟩ := row_slice h.oL
  have c5 := h.c5
  have H := Lib.hid h
  have hbm := h.lm.2.2
  obtain ⟨i0, hi, hz0, hz1, hz2⟩ := info_parts info_str
  have hd : ((lines.length : Int) == 2000) = false := by simp; omega
  have hitoa := fun hh => Tryd.strconv_Itoa x hI.1 hI.2 w hh
  have Hitoa := Lib.hid (hitoa hT.is_)
  obtain ⟨aW, cW, rfl, hW1, hW2⟩ := row_slice h.oW
  have c2 := h.c2
  have HoW := Lib.hid h.oW
  obtain ⟨hI1, hI1'⟩ := hI
  obtain ⟨hI3, hI3'⟩ := hI2
  have d3 : decide (y > (words.length : Int)) = false := decide_eq_false (by omega)
  have d1 : decide (y < 0) = false := decide_eq_false (by omega)
  have d2 : decide (x < 0) = true := decide_eq_true hx
  clear h hT hitoa
  go_enter Tryd.func123, Tryd.ntmps123
  go_wp2_with fail
  refine Hitoa.out.mono ?_
  rintro e w1 ⟨rfl, kk, os, hw1⟩
  have s1 : Since (fun _ => False) w w1 := by rw [hw1]; exact ⟨rfl, rfl, rfl, by simp [Go.Sort.grow, World.drewN], fun k hk _ => by simp [Go.Sort.grow, World.drewN]; rw [Array.getElem?_append_left hk]⟩
  have S1 := Lib.hid s1
  clear hw1 s1
  have hc2 := (S1.out.cell (o := 2) hbm id).trans c2
  have hz1w := S1.out.size
  have hbm1' := Nat.lt_of_lt_of_le hbm hz1w
  clear c2 c5
  go_wp2_with fail
  go_ret
  exact ⟨rfl, ρ, _, H.out.since S1.out, S1.out.mono (fun _ e => e.elim)⟩

set_option maxRecDepth 100000 in
set_option maxHeartbeats 4000000 in
theorem vmShow_text_n3 [Old] (ρ : Nat → Option Lab) (w : World) (base bm : Nat) (v1 vW vL vF : Value) (bF oF cF : Nat) (p : PProg) (limit : Int) (words : List Int) (lines : List ByteArray) (fr : List (Lev × LV))
    (h : VmAt ρ w base bm v1 vW vL vF bF oF cF p limit words lines fr) (hT : TabOK w) (x y : Int) (hI : InI x) (hI2 : InI y) (hl : lines.length < 2000) (hwl : words.length ≤ 20000) (hy : 0 ≤ y) (h3 : words.length < y) :
    Calls Tryd.prog 123 #[.pointer (some ⟨bm, 0, none⟩), .string sText, .int .i64 x, .int .i64 y] w (VmShowPost w vL base bm v1 vW vF bF oF cF p limit words fr (2, lines)) := by
  obtain ⟨aL, cL, rfl, hL1, hL2⟩ := row_slice h.oL
  have c5 := h.c5
  have H := Lib.hid h
  have hbm := h.lm.2.2
  obtain ⟨i0, hi, hz0, hz1, hz2⟩ := info_parts info_str
  have hd : ((lines.length : Int) == 2000) = false := by simp; omega
  have hitoa := fun hh => Tryd.strconv_Itoa x hI.1 hI.2 w hh
  have Hitoa := Lib.hid (hitoa hT.is_)
  obtain ⟨aW, cW, rfl, hW1, hW2⟩ := row_slice h.oW
  have c2 := h.c2
  have HoW := Lib.hid h.oW
  obtain ⟨hI1, hI1'⟩ := hI
  obtain ⟨hI3, hI3'⟩ := hI2
  have d1 : decide (y < 0) = false := decide_eq_false (by omega)
  have d3 : decide (y > (words.length : Int)) = true := decide_eq_true h3
  clear h hT hitoa
  go_enter Tryd.func123, Tryd.ntmps123
  go_wp2_with fail
  refine Hitoa.out.mono ?_
  rintro e w1 ⟨rfl, kk, os, hw1⟩
  have s1 : Since (fun _ => False) w w1 := by rw [hw1]; exact ⟨rfl, rfl, rfl, by simp [Go.Sort.grow, World.drewN], fun k hk _ => by simp [Go.Sort.grow, World.drewN]; rw [Array.getElem?_append_left hk]⟩
  have S1 := Lib.hid s1
  clear hw1 s1
  have hc2 := (S1.out.cell (o := 2) hbm id).trans c2
  have hz1w := S1.out.size
  have hbm1' := Nat.lt_of_lt_of_le hbm hz1w
  clear c2 c5
  go_wp2_with fail
  go_ret
  exact ⟨rfl, ρ, _, H.out.since S1.out, S1.out.mono (fun _ e => e.elim)⟩

set_option maxRecDepth 100000 in
set_option maxHeartbeats 4000000 in
theorem vmShow_text_n4 [Old] (ρ : Nat → Option Lab) (w : World) (base bm : Nat) (v1 vW vL vF : Value) (bF oF cF : Nat) (p : PProg) (limit : Int) (words : List Int) (lines : List ByteArray) (fr : List (Lev × LV))
    (h : VmAt ρ w base bm v1 vW vL vF bF oF cF p limit words lines fr) (hT : TabOK w) (x y : Int) (hI : InI x) (hI2 : InI y) (hl : lines.length < 2000) (hwl : words.length ≤ 20000) (hy : 0 ≤ y) (hx : 0 ≤ x) (h3 : y ≤ words.length) (h4 : words.length - y < x) :
    Calls Tryd.prog 123 #[.pointer (some ⟨bm, 0, none⟩), .string sText, .int .i64 x, .int .i64 y] w (VmShowPost w vL base bm v1 vW vF bF oF cF p limit words fr (2, lines)) := by
  obtain ⟨aL, cL, rfl, hL1, hL2⟩ := row_slice h.oL
  have c5 := h.c5
  have H := Lib.hid h
  have hbm := h.lm.2.2
  obtain ⟨i0, hi, hz0, hz1, hz2⟩ := info_parts info_str
  have hd : ((lines.length : Int) == 2000) = false := by simp; omega
  have hitoa := fun hh => Tryd.strconv_Itoa x hI.1 hI.2 w hh
  have Hitoa := Lib.hid (hitoa hT.is_)
  obtain ⟨aW, cW, rfl, hW1, hW2⟩ := row_slice h.oW
  have c2 := h.c2
  have HoW := Lib.hid h.oW
  obtain ⟨hI1, hI1'⟩ := hI
  obtain ⟨hI3, hI3'⟩ := hI2
  have hws : IntKind.i64.wrap ((words.length : Int) - y) = words.length - y := IntWalk.i64_in _ (by omega)
  have d1 : decide (y < 0) = false := decide_eq_false (by omega)
  have d2 : decide (x < 0) = false := decide_eq_false (by omega)
  have d3 : decide (y > (words.length : Int)) = false := decide_eq_false (by omega)
  have d4 : decide (x > (words.length : Int) - y) = true := decide_eq_true h4
  clear h hT hitoa
  go_enter Tryd.func123, Tryd.ntmps123
  go_wp2_with fail
  refine Hitoa.out.mono ?_
  rintro e w1 ⟨rfl, kk, os, hw1⟩
  have s1 : Since (fun _ => False) w w1 := by rw [hw1]; exact ⟨rfl, rfl, rfl, by simp [Go.Sort.grow, World.drewN], fun k hk _ => by simp [Go.Sort.grow, World.drewN]; rw [Array.getElem?_append_left hk]⟩
  have S1 := Lib.hid s1
  clear hw1 s1
  have hc2 := (S1.out.cell (o := 2) hbm id).trans c2
  have hz1w := S1.out.size
  have hbm1' := Nat.lt_of_lt_of_le hbm hz1w
  clear c2 c5
  go_wp2_with fail
  go_ret
  exact ⟨rfl, ρ, _, H.out.since S1.out, S1.out.mono (fun _ e => e.elim)⟩


end Go.Proofs.YtaomlfbcfmmhlaaDoor

/-
  vm's machine: a text is shown: the contract (printed by wip/gen_vmshow.py).
-/
namespace Go.Proofs.YtaomlfbcfmmhlaaDoor
open Go.RowKit Go.Pst
set_option linter.unusedVariables false
set_option linter.unusedSimpArgs false

set_option maxRecDepth 100000 in
set_option maxHeartbeats 4000000 in
theorem vmShow_text_pos [Old] (ρ : Nat → Option Lab) (w : World) (base bm : Nat) (v1 vW vL vF : Value) (bF oF cF : Nat) (p : PProg) (limit : Int) (words : List Int) (lines : List ByteArray) (fr : List (Lev × LV))
    (h : VmAt ρ w base bm v1 vW vL vF bF oF cF p limit words lines fr) (hT : TabOK w) (x y : Int) (hl : lines.length < 2000) (hwl : words.length ≤ 20000) (hx : 0 ≤ x) (hy : 0 ≤ y) (hXY : x + y ≤ words.length) (hY : 0 < y) :
    Calls Tryd.prog 123 #[.pointer (some ⟨bm, 0, none⟩), .string sText, .int .i64 x, .int .i64 y] w (VmShowPost w vL base bm v1 vW vF bF oF cF p limit words fr (0, lines ++ [bytesF ((words.drop x.toNat).take y.toNat)])) := by
  obtain ⟨aL, cL, rfl, hL1, hL2⟩ := row_slice h.oL
  have c5 := h.c5
  have H := Lib.hid h
  have hbm := h.lm.2.2
  have hI : InI x := ⟨by omega, by omega⟩
  obtain ⟨i0, hi, hz0, hz1, hz2⟩ := info_parts info_str
  have hd : ((lines.length : Int) == 2000) = false := by simp; omega
  have hitoa := fun hh => Tryd.strconv_Itoa x hI.1 hI.2 w hh
  have Hitoa := Lib.hid (hitoa hT.is_)
  obtain ⟨aW, cW, rfl, hW1, hW2⟩ := row_slice h.oW
  unfold maxLen at hW2
  have c2 := h.c2
  have HoW := Lib.hid h.oW
  have d1 : decide (y < 0) = false := decide_eq_false (by omega)
  have d2 : decide (x < 0) = false := decide_eq_false (by omega)
  have d3 : decide (y > (words.length : Int)) = false := decide_eq_false (by omega)
  have d4 : decide (x > (words.length : Int) - y) = false := decide_eq_false (by omega)
  have hws : IntKind.i64.wrap ((words.length : Int) - y) = words.length - y := IntWalk.i64_in _ (by omega)
  clear h hT hitoa
  go_enter Tryd.func123, Tryd.ntmps123
  go_wp2_with fail
  refine Hitoa.out.mono ?_
  rintro e w1 ⟨rfl, kk, os, hw1⟩
  have s1 : Since (fun _ => False) w w1 := by rw [hw1]; exact ⟨rfl, rfl, rfl, by simp [Go.Sort.grow, World.drewN], fun k hk _ => by simp [Go.Sort.grow, World.drewN]; rw [Array.getElem?_append_left hk]⟩
  have S1 := Lib.hid s1
  clear hw1 s1
  have hc2 := (S1.out.cell (o := 2) hbm id).trans c2
  have hz1w := S1.out.size
  have hbm1' := Nat.lt_of_lt_of_le hbm hz1w
  clear c2 c5
  go_upto_region 8 with fail
  go_upto_region 11 with fail
  clear d1 d2 d3 d4 hws
  obtain ⟨X, rfl⟩ := Int.eq_ofNat_of_zero_le hx
  obtain ⟨Y, rfl⟩ := Int.eq_ofNat_of_zero_le hy
  have hb : X + Y ≤ words.length := by omega
  generalize hWW : w1.alloc (.cells #[.pointer none, .slice none 0 0] 193) = W
  have sB : Since (fun _ => False) w1 W := by rw [← hWW]; exact Since.alloc _ _ _
  have hbld : W.heap[w1.heap.size]? = some (.cells #[.pointer none, .slice none 0 0] 193) := by
    rw [← hWW]
    exact heap_alloc_new w1 _
  have hWsz : W.heap.size = w1.heap.size + 1 := by rw [← hWW]; simp
  have sBb : Below w1.heap.size w1 W := by rw [← hWW]; exact (Below.refl _ _).alloc (Nat.le_refl _) _
  clear hWW
  have gW2 := (sB.cell (o := 2) hbm1' id).trans hc2
  have hx0 : (0 : Int) ≤ X := by omega
  have hy0 : (0 : Int) ≤ Y := by omega
  have hxy : (X : Int) ≤ X + Y := by omega
  have hxyc : (X : Int) + Y ≤ cW := by omega
  have hws2 : IntKind.i64.wrap ((X : Int) + Y) = X + Y := IntWalk.i64_in _ (by omega)
  have htn : ((X : Int) + Y).toNat = X + Y := by omega
  have hsub : X + Y - X = Y := by omega
  have hcl : ¬ cW = X := by omega
  obtain ⟨gW, cW', hvW, -, -, hgWl, -, -⟩ := row_get HoW.out (i := X) (u := .int .i64 (words[X]'(by omega))) (by rw [List.getElem?_map, List.getElem?_eq_getElem (by omega)]; rfl)
  obtain rfl : aW = some ⟨gW, 0, none⟩ := (Value.slice.inj hvW).1
  clear hvW
  have SB := Lib.hid sBb
  have Hbld := Lib.hid hbld
  clear sB sBb hbld hc2
  go_wp2_with fail
  have hIB : Lib.IsBuilder 193 5 w1.heap.size w1.heap.size (((words.drop X).take 0).map fun x => Value.int .u8 (x % 256)) W := Or.inl ⟨Nat.le_refl _, .slice none 0 0, Hbld.out, ⟨by simp, Or.inl ⟨rfl, by simp⟩⟩, by simp [Value.ownBlock]⟩
  have hBW : Below w1.heap.size w1 W := SB.out
  have HIB := Lib.hid hIB
  have HBW := Lib.hid hBW
  clear hIB hBW gW2 Hbld SB
  go_loopw [65] (fun s wr => ∃ n : Nat, n ≤ Y ∧ s = .int .i64 n ∧ Lib.IsBuilder 193 5 w1.heap.size w1.heap.size (((words.drop X).take n).map fun x => Value.int .u8 (x % 256)) wr ∧ Below w1.heap.size w1 wr) (fun s _ => Y - (intOf s).toNat)
  case atStart => exact ⟨0, Nat.zero_le _, rfl, HIB.out, HBW.out⟩
  case round =>
    obtain ⟨n, hn, rfl, hbd, hbw⟩ := hrel
    have hbig1 := hbw.size
    by_cases hlt : n < Y
    · have hlt1 : (n : Int) < Y := by omega
      have hn0 : (0 : Int) ≤ n := by omega
      obtain ⟨gW', cW'', hvW, -, -, -, hcw0, -⟩ := row_get HoW.out (i := X + n) (u := .int .i64 (words[X + n]'(by omega))) (by rw [List.getElem?_map, List.getElem?_eq_getElem (by omega)]; rfl)
      obtain ⟨rfl, -⟩ : gW = gW' ∧ _ := by simpa using hvW
      clear hvW
      have hcw : wr.cell? ⟨gW, X + n, none⟩ = some (.int .i64 (words[X + n]'(by omega))) := (hbw.cell (p := ⟨gW, X + n, none⟩) (by show gW < w1.heap.size; omega)).trans ((S1.out.cell hgWl id).trans hcw0)
      have hlen : (((words.drop X).take n).map fun x => Value.int .u8 (x % 256)).length + 1 ≤ 140737488355328 := by simp; omega
      have HN := Lib.hid (show (((words.drop X).take n).map fun x => Value.int .u8 (x % 256)) ++ [.int .u8 (words[X + n]'(by omega) % 256)] = ((words.drop X).take (n + 1)).map fun x => Value.int .u8 (x % 256) by
        rw [List.take_succ_eq_append_getElem (by simp; omega), List.getElem_drop, List.map_append]
        rfl)
      have HBD := Lib.hid hbd
      have HBW' := Lib.hid hbw
      have Hlen := Lib.hid hlen
      clear hbd hbw hcw0 hlen
      generalize words[X + n]'(by omega) = xw at *
      go_wp2_with fail
      refine (writeByte_any w1.heap.size w1.heap.size _ _ wr HBD.out Hlen.out hbig1).mono ?_
      rintro e w3 ⟨rfl, hb3, hw3⟩
      have HB3 := Lib.hid hb3
      have HW3 := Lib.hid hw3
      clear hb3 hw3
      go_wp2_with fail
      refine ⟨⟨n + 1, by omega, by simp, ?_, HBW'.out.trans HW3.out⟩, by simp only [intOf]; omega⟩
      rw [← HN.out]
      exact Or.inr HB3.out
    · have hne : n = Y := by omega
      subst hne
      have hlt1 : ¬ ((n : Int) < n) := by omega
      have hb8 : ((words.drop X).take n).map (fun x => Value.int .u8 (x % 256)) = Lib.byteCells (((words.drop X).take n).map byteF) := (vmByteF_cells _).symm
      rw [hb8] at hbd
      have HBD := Lib.hid hbd
      have HBW' := Lib.hid hbw
      clear hbd hbw hb8 hlt
      go_wp2_with fail
      refine (Tryd.Builder_String_any w1.heap.size w1.heap.size _ wr HBD.out hbig1).mono ?_
      rintro e w4 ⟨he, hb4⟩
      have hln : (⟨(((words.drop X).take n).map byteF).toArray⟩ : ByteArray) = bytesF ((words.drop X).take n) := rfl
      rw [hln] at he
      have Hhl := Lib.hid (decS_size 0 ⟨by decide, by decide⟩)
      generalize hln2 : bytesF ((words.drop X).take n) = ln at he
      have Hln := Lib.hid hln2
      clear hln hln2 Hhl
      subst he
      have s4 : Since (fun _ => False) w w4 := S1.out.trans (let hh := HBW'.out.trans hb4; ⟨hh.os, hh.tape, hh.output, hh.size, fun k hk _ => hh.block k hk⟩)
      have S4 := Lib.hid s4
      clear hb4 s4 HBD
      have hrun := H.out.since S4.out
      have c51 := hrun.c5
      have z51 := hrun.z 5
      have hown := hrun.oL
      have hbm1 := hrun.lm.2.2
      have hbig1 := hrun.big
      have nb : (Value.slice aL lines.length cL).ownBlock ≠ some bm := fun e => by have h1 := hrun.ll bm e; rw [hrun.lm.1] at h1; simp at h1
      have HR := Lib.hid hrun
      have Nb := Lib.hid nb
      clear hrun nb
      go_wp2_with (at_builtin; refine wpList_append_own_at _ rfl _ _ 39 rfl base 9 i0 (.string ByteArray.empty) 1 16 Tryd.underlying39 hi hz0 hz1 hz2 rfl (by decide) _ _ _ rfl (hown.alloc _) ⟨w4.heap.size, 0, none⟩ 1 1 [.string ln] rfl rfl (cell_one_new _ _ _) (by intro u hu; simp at hu; subst hu; rfl) (by unfold maxLen; omega) (by omega) (by simp; omega) ?_)
      intro v' w3 hown' hgrow _ hloc
      obtain ⟨gg, cg, rfl⟩ : ∃ gg cg, v' = .slice (some ⟨gg, 0, none⟩) (lines.length + 1) cg := by
        rcases hown'.2 with ⟨_, h⟩ | ⟨gg, cap', _, h, _⟩
        · omega
        · exact ⟨gg, cap', h⟩
      have sg : Since (fun k => (Value.slice aL lines.length cL).ownBlock = some k) w4 w3 := (Since.alloc _ _ _).trans (Since.grown hgrow)
      have c53 := (sg.cell (o := 5) hbm1 Nb.out).trans c51
      have z53 := (sg.frozen (o := 5) hbm1 Nb.out).trans z51
      obtain ⟨ρ', hq⟩ := HR.out.turn (lines' := lines ++ [ln]) sg 5 (Or.inr rfl) (.slice (some ⟨gg, 0, none⟩) (lines.length + 1) cg) (fun k e => Or.inr ⟨rfl, e⟩) (fun _ => ⟨rfl, rfl⟩) (fun e => absurd rfl e) (fun e => absurd e (by decide)) (fun _ => rfl) (fun e => absurd e (by decide)) (fun _ => by simpa using hown') (fun e => absurd e (by decide))
        (fun _ k hk => by
          rcases hloc with e | e
          · rw [e] at hk; exact Or.inl hk
          · rw [e] at hk
            have : w4.heap.size + 1 = k := by simpa using hk
            exact Or.inr (by omega))
      have HQ := Lib.hid hq
      have HSF := Lib.hid (((S4.out.mono (fun _ e => e.elim)).trans (sg.mono (fun _ e => Or.inl e))).trans ((Since.setCell _ ⟨bm, 5, none⟩ (.slice (some ⟨gg, 0, none⟩) (lines.length + 1) cg)).mono (fun _ e => Or.inr e)) : Since (fun k => (Value.slice aL lines.length cL).ownBlock = some k ∨ k = bm) w _)
      clear hq hown' hgrow hloc sg hown c51 z51
      go_wp2_with fail
      go_ret
      refine ⟨rfl, ρ', .slice (some ⟨gg, 0, none⟩) (lines.length + 1) cg, ?_, HSF.out⟩
      simp only [Int.toNat_natCast]
      rw [Hln.out]
      exact HQ.out

set_option maxRecDepth 100000 in
set_option maxHeartbeats 4000000 in
theorem vmShow_text_zero [Old] (ρ : Nat → Option Lab) (w : World) (base bm : Nat) (v1 vW vL vF : Value) (bF oF cF : Nat) (p : PProg) (limit : Int) (words : List Int) (lines : List ByteArray) (fr : List (Lev × LV))
    (h : VmAt ρ w base bm v1 vW vL vF bF oF cF p limit words lines fr) (hT : TabOK w) (x y : Int) (hl : lines.length < 2000) (hwl : words.length ≤ 20000) (hx : 0 ≤ x) (hy : 0 ≤ y) (hXY : x + y ≤ words.length) (hY : y = 0) :
    Calls Tryd.prog 123 #[.pointer (some ⟨bm, 0, none⟩), .string sText, .int .i64 x, .int .i64 y] w (VmShowPost w vL base bm v1 vW vF bF oF cF p limit words fr (0, lines ++ [bytesF ((words.drop x.toNat).take y.toNat)])) := by
  obtain ⟨aL, cL, rfl, hL1, hL2⟩ := row_slice h.oL
  have c5 := h.c5
  have H := Lib.hid h
  have hbm := h.lm.2.2
  have hI : InI x := ⟨by omega, by omega⟩
  obtain ⟨i0, hi, hz0, hz1, hz2⟩ := info_parts info_str
  have hd : ((lines.length : Int) == 2000) = false := by simp; omega
  have hitoa := fun hh => Tryd.strconv_Itoa x hI.1 hI.2 w hh
  have Hitoa := Lib.hid (hitoa hT.is_)
  obtain ⟨aW, cW, rfl, hW1, hW2⟩ := row_slice h.oW
  unfold maxLen at hW2
  have c2 := h.c2
  have HoW := Lib.hid h.oW
  have d1 : decide (y < 0) = false := decide_eq_false (by omega)
  have d2 : decide (x < 0) = false := decide_eq_false (by omega)
  have d3 : decide (y > (words.length : Int)) = false := decide_eq_false (by omega)
  have d4 : decide (x > (words.length : Int) - y) = false := decide_eq_false (by omega)
  have hws : IntKind.i64.wrap ((words.length : Int) - y) = words.length - y := IntWalk.i64_in _ (by omega)
  have HY := Lib.hid hY
  clear hY
  clear h hT hitoa
  go_enter Tryd.func123, Tryd.ntmps123
  go_wp2_with fail
  refine Hitoa.out.mono ?_
  rintro e w1 ⟨rfl, kk, os, hw1⟩
  have s1 : Since (fun _ => False) w w1 := by rw [hw1]; exact ⟨rfl, rfl, rfl, by simp [Go.Sort.grow, World.drewN], fun k hk _ => by simp [Go.Sort.grow, World.drewN]; rw [Array.getElem?_append_left hk]⟩
  have S1 := Lib.hid s1
  clear hw1 s1
  have hc2 := (S1.out.cell (o := 2) hbm id).trans c2
  have hz1w := S1.out.size
  have hbm1' := Nat.lt_of_lt_of_le hbm hz1w
  clear c2 c5
  go_upto_region 8 with fail
  go_upto_region 11 with fail
  clear d1 d2 d3 d4 hws
  obtain ⟨X, rfl⟩ := Int.eq_ofNat_of_zero_le hx
  obtain ⟨Y, rfl⟩ := Int.eq_ofNat_of_zero_le hy
  have hb : X + Y ≤ words.length := by omega
  generalize hWW : w1.alloc (.cells #[.pointer none, .slice none 0 0] 193) = W
  have sB : Since (fun _ => False) w1 W := by rw [← hWW]; exact Since.alloc _ _ _
  have hbld : W.heap[w1.heap.size]? = some (.cells #[.pointer none, .slice none 0 0] 193) := by
    rw [← hWW]
    exact heap_alloc_new w1 _
  have hWsz : W.heap.size = w1.heap.size + 1 := by rw [← hWW]; simp
  have sBb : Below w1.heap.size w1 W := by rw [← hWW]; exact (Below.refl _ _).alloc (Nat.le_refl _) _
  clear hWW
  have gW2 := (sB.cell (o := 2) hbm1' id).trans hc2
  have hx0 : (0 : Int) ≤ X := by omega
  have hy0 : (0 : Int) ≤ Y := by omega
  have hxy : (X : Int) ≤ X + Y := by omega
  have hxyc : (X : Int) + Y ≤ cW := by omega
  have hws2 : IntKind.i64.wrap ((X : Int) + Y) = X + Y := IntWalk.i64_in _ (by omega)
  have htn : ((X : Int) + Y).toNat = X + Y := by omega
  have hsub : X + Y - X = Y := by omega
  by_cases hcl : cW = X
  · have hY2 : Y = 0 := by have := HY.out; omega
    have HY2 := Lib.hid hY2
    clear hY2
    have SB := Lib.hid sBb
    have Hbld := Lib.hid hbld
    clear sB sBb hbld hc2
    go_wp2_with fail
    have hIB : Lib.IsBuilder 193 5 w1.heap.size w1.heap.size (((words.drop X).take 0).map fun x => Value.int .u8 (x % 256)) W := Or.inl ⟨Nat.le_refl _, .slice none 0 0, Hbld.out, ⟨by simp, Or.inl ⟨rfl, by simp⟩⟩, by simp [Value.ownBlock]⟩
    have hBW : Below w1.heap.size w1 W := SB.out
    have HIB := Lib.hid hIB
    have HBW := Lib.hid hBW
    clear hIB hBW gW2 Hbld SB
    go_loopw [65] (fun s wr => ∃ n : Nat, n ≤ Y ∧ s = .int .i64 n ∧ Lib.IsBuilder 193 5 w1.heap.size w1.heap.size (((words.drop X).take n).map fun x => Value.int .u8 (x % 256)) wr ∧ Below w1.heap.size w1 wr) (fun s _ => Y - (intOf s).toNat)
    case atStart => exact ⟨0, Nat.zero_le _, rfl, HIB.out, HBW.out⟩
    case round =>
      obtain ⟨n, hn, rfl, hbd, hbw⟩ := hrel
      have hbig1 := hbw.size
      by_cases hlt : n < Y
      · have hlt1 : (n : Int) < Y := by omega
        have hn0 : (0 : Int) ≤ n := by omega
        exact absurd hlt (by have := HY2.out; omega)
      · have hne : n = Y := by omega
        subst hne
        have hlt1 : ¬ ((n : Int) < n) := by omega
        have hb8 : ((words.drop X).take n).map (fun x => Value.int .u8 (x % 256)) = Lib.byteCells (((words.drop X).take n).map byteF) := (vmByteF_cells _).symm
        rw [hb8] at hbd
        have HBD := Lib.hid hbd
        have HBW' := Lib.hid hbw
        clear hbd hbw hb8 hlt
        go_wp2_with fail
        refine (Tryd.Builder_String_any w1.heap.size w1.heap.size _ wr HBD.out hbig1).mono ?_
        rintro e w4 ⟨he, hb4⟩
        have hln : (⟨(((words.drop X).take n).map byteF).toArray⟩ : ByteArray) = bytesF ((words.drop X).take n) := rfl
        rw [hln] at he
        have Hhl := Lib.hid (decS_size 0 ⟨by decide, by decide⟩)
        generalize hln2 : bytesF ((words.drop X).take n) = ln at he
        have Hln := Lib.hid hln2
        clear hln hln2 Hhl
        subst he
        have s4 : Since (fun _ => False) w w4 := S1.out.trans (let hh := HBW'.out.trans hb4; ⟨hh.os, hh.tape, hh.output, hh.size, fun k hk _ => hh.block k hk⟩)
        have S4 := Lib.hid s4
        clear hb4 s4 HBD
        have hrun := H.out.since S4.out
        have c51 := hrun.c5
        have z51 := hrun.z 5
        have hown := hrun.oL
        have hbm1 := hrun.lm.2.2
        have hbig1 := hrun.big
        have nb : (Value.slice aL lines.length cL).ownBlock ≠ some bm := fun e => by have h1 := hrun.ll bm e; rw [hrun.lm.1] at h1; simp at h1
        have HR := Lib.hid hrun
        have Nb := Lib.hid nb
        clear hrun nb
        go_wp2_with (at_builtin; refine wpList_append_own_at _ rfl _ _ 39 rfl base 9 i0 (.string ByteArray.empty) 1 16 Tryd.underlying39 hi hz0 hz1 hz2 rfl (by decide) _ _ _ rfl (hown.alloc _) ⟨w4.heap.size, 0, none⟩ 1 1 [.string ln] rfl rfl (cell_one_new _ _ _) (by intro u hu; simp at hu; subst hu; rfl) (by unfold maxLen; omega) (by omega) (by simp; omega) ?_)
        intro v' w3 hown' hgrow _ hloc
        obtain ⟨gg, cg, rfl⟩ : ∃ gg cg, v' = .slice (some ⟨gg, 0, none⟩) (lines.length + 1) cg := by
          rcases hown'.2 with ⟨_, h⟩ | ⟨gg, cap', _, h, _⟩
          · omega
          · exact ⟨gg, cap', h⟩
        have sg : Since (fun k => (Value.slice aL lines.length cL).ownBlock = some k) w4 w3 := (Since.alloc _ _ _).trans (Since.grown hgrow)
        have c53 := (sg.cell (o := 5) hbm1 Nb.out).trans c51
        have z53 := (sg.frozen (o := 5) hbm1 Nb.out).trans z51
        obtain ⟨ρ', hq⟩ := HR.out.turn (lines' := lines ++ [ln]) sg 5 (Or.inr rfl) (.slice (some ⟨gg, 0, none⟩) (lines.length + 1) cg) (fun k e => Or.inr ⟨rfl, e⟩) (fun _ => ⟨rfl, rfl⟩) (fun e => absurd rfl e) (fun e => absurd e (by decide)) (fun _ => rfl) (fun e => absurd e (by decide)) (fun _ => by simpa using hown') (fun e => absurd e (by decide))
          (fun _ k hk => by
            rcases hloc with e | e
            · rw [e] at hk; exact Or.inl hk
            · rw [e] at hk
              have : w4.heap.size + 1 = k := by simpa using hk
              exact Or.inr (by omega))
        have HQ := Lib.hid hq
        have HSF := Lib.hid (((S4.out.mono (fun _ e => e.elim)).trans (sg.mono (fun _ e => Or.inl e))).trans ((Since.setCell _ ⟨bm, 5, none⟩ (.slice (some ⟨gg, 0, none⟩) (lines.length + 1) cg)).mono (fun _ e => Or.inr e)) : Since (fun k => (Value.slice aL lines.length cL).ownBlock = some k ∨ k = bm) w _)
        clear hq hown' hgrow hloc sg hown c51 z51
        go_wp2_with fail
        go_ret
        refine ⟨rfl, ρ', .slice (some ⟨gg, 0, none⟩) (lines.length + 1) cg, ?_, HSF.out⟩
        simp only [Int.toNat_natCast]
        rw [Hln.out]
        exact HQ.out
  · have hY2 : Y = 0 := by have := HY.out; omega
    have HY2 := Lib.hid hY2
    clear hY2
    have SB := Lib.hid sBb
    have Hbld := Lib.hid hbld
    clear sB sBb hbld hc2
    go_wp2_with fail
    have hIB : Lib.IsBuilder 193 5 w1.heap.size w1.heap.size (((words.drop X).take 0).map fun x => Value.int .u8 (x % 256)) W := Or.inl ⟨Nat.le_refl _, .slice none 0 0, Hbld.out, ⟨by simp, Or.inl ⟨rfl, by simp⟩⟩, by simp [Value.ownBlock]⟩
    have hBW : Below w1.heap.size w1 W := SB.out
    have HIB := Lib.hid hIB
    have HBW := Lib.hid hBW
    clear hIB hBW gW2 Hbld SB
    go_loopw [65] (fun s wr => ∃ n : Nat, n ≤ Y ∧ s = .int .i64 n ∧ Lib.IsBuilder 193 5 w1.heap.size w1.heap.size (((words.drop X).take n).map fun x => Value.int .u8 (x % 256)) wr ∧ Below w1.heap.size w1 wr) (fun s _ => Y - (intOf s).toNat)
    case atStart => exact ⟨0, Nat.zero_le _, rfl, HIB.out, HBW.out⟩
    case round =>
      obtain ⟨n, hn, rfl, hbd, hbw⟩ := hrel
      have hbig1 := hbw.size
      by_cases hlt : n < Y
      · have hlt1 : (n : Int) < Y := by omega
        have hn0 : (0 : Int) ≤ n := by omega
        exact absurd hlt (by have := HY2.out; omega)
      · have hne : n = Y := by omega
        subst hne
        have hlt1 : ¬ ((n : Int) < n) := by omega
        have hb8 : ((words.drop X).take n).map (fun x => Value.int .u8 (x % 256)) = Lib.byteCells (((words.drop X).take n).map byteF) := (vmByteF_cells _).symm
        rw [hb8] at hbd
        have HBD := Lib.hid hbd
        have HBW' := Lib.hid hbw
        clear hbd hbw hb8 hlt
        go_wp2_with fail
        refine (Tryd.Builder_String_any w1.heap.size w1.heap.size _ wr HBD.out hbig1).mono ?_
        rintro e w4 ⟨he, hb4⟩
        have hln : (⟨(((words.drop X).take n).map byteF).toArray⟩ : ByteArray) = bytesF ((words.drop X).take n) := rfl
        rw [hln] at he
        have Hhl := Lib.hid (decS_size 0 ⟨by decide, by decide⟩)
        generalize hln2 : bytesF ((words.drop X).take n) = ln at he
        have Hln := Lib.hid hln2
        clear hln hln2 Hhl
        subst he
        have s4 : Since (fun _ => False) w w4 := S1.out.trans (let hh := HBW'.out.trans hb4; ⟨hh.os, hh.tape, hh.output, hh.size, fun k hk _ => hh.block k hk⟩)
        have S4 := Lib.hid s4
        clear hb4 s4 HBD
        have hrun := H.out.since S4.out
        have c51 := hrun.c5
        have z51 := hrun.z 5
        have hown := hrun.oL
        have hbm1 := hrun.lm.2.2
        have hbig1 := hrun.big
        have nb : (Value.slice aL lines.length cL).ownBlock ≠ some bm := fun e => by have h1 := hrun.ll bm e; rw [hrun.lm.1] at h1; simp at h1
        have HR := Lib.hid hrun
        have Nb := Lib.hid nb
        clear hrun nb
        go_wp2_with (at_builtin; refine wpList_append_own_at _ rfl _ _ 39 rfl base 9 i0 (.string ByteArray.empty) 1 16 Tryd.underlying39 hi hz0 hz1 hz2 rfl (by decide) _ _ _ rfl (hown.alloc _) ⟨w4.heap.size, 0, none⟩ 1 1 [.string ln] rfl rfl (cell_one_new _ _ _) (by intro u hu; simp at hu; subst hu; rfl) (by unfold maxLen; omega) (by omega) (by simp; omega) ?_)
        intro v' w3 hown' hgrow _ hloc
        obtain ⟨gg, cg, rfl⟩ : ∃ gg cg, v' = .slice (some ⟨gg, 0, none⟩) (lines.length + 1) cg := by
          rcases hown'.2 with ⟨_, h⟩ | ⟨gg, cap', _, h, _⟩
          · omega
          · exact ⟨gg, cap', h⟩
        have sg : Since (fun k => (Value.slice aL lines.length cL).ownBlock = some k) w4 w3 := (Since.alloc _ _ _).trans (Since.grown hgrow)
        have c53 := (sg.cell (o := 5) hbm1 Nb.out).trans c51
        have z53 := (sg.frozen (o := 5) hbm1 Nb.out).trans z51
        obtain ⟨ρ', hq⟩ := HR.out.turn (lines' := lines ++ [ln]) sg 5 (Or.inr rfl) (.slice (some ⟨gg, 0, none⟩) (lines.length + 1) cg) (fun k e => Or.inr ⟨rfl, e⟩) (fun _ => ⟨rfl, rfl⟩) (fun e => absurd rfl e) (fun e => absurd e (by decide)) (fun _ => rfl) (fun e => absurd e (by decide)) (fun _ => by simpa using hown') (fun e => absurd e (by decide))
          (fun _ k hk => by
            rcases hloc with e | e
            · rw [e] at hk; exact Or.inl hk
            · rw [e] at hk
              have : w4.heap.size + 1 = k := by simpa using hk
              exact Or.inr (by omega))
        have HQ := Lib.hid hq
        have HSF := Lib.hid (((S4.out.mono (fun _ e => e.elim)).trans (sg.mono (fun _ e => Or.inl e))).trans ((Since.setCell _ ⟨bm, 5, none⟩ (.slice (some ⟨gg, 0, none⟩) (lines.length + 1) cg)).mono (fun _ e => Or.inr e)) : Since (fun k => (Value.slice aL lines.length cL).ownBlock = some k ∨ k = bm) w _)
        clear hq hown' hgrow hloc sg hown c51 z51
        go_wp2_with fail
        go_ret
        refine ⟨rfl, ρ', .slice (some ⟨gg, 0, none⟩) (lines.length + 1) cg, ?_, HSF.out⟩
        simp only [Int.toNat_natCast]
        rw [Hln.out]
        exact HQ.out

end Go.Proofs.YtaomlfbcfmmhlaaDoor

/-
  vm's machine, a step: lines (printed by wip/gen_vmarms.py).
-/
namespace Go.Proofs.YtaomlfbcfmmhlaaDoor
open Go.RowKit Go.Pst
set_option linter.unusedVariables false
set_option linter.unusedSimpArgs false
variable [Old]
omit [Old] in
theorem vmSayF_some {s : ByteArray} {a b : Int} {words : List Int} {lines : List ByteArray} {l : ByteArray} (h : ¬ 2000 ≤ lines.length) (hl : lineF s a b words = some l) : sayF s a b words lines = (0, lines ++ [l]) := by unfold sayF; rw [if_neg h, hl]
omit [Old] in
theorem vmSayF_none {s : ByteArray} {a b : Int} {words : List Int} {lines : List ByteArray} (h : ¬ 2000 ≤ lines.length) (hl : lineF s a b words = none) : sayF s a b words lines = (2, lines) := by unfold sayF; rw [if_neg h, hl]
set_option maxRecDepth 100000 in
set_option maxHeartbeats 4000000 in
theorem vm_show1 (ρ : Nat → Option Lab) (t : Array Value) (w : World) (base bm lf li : Nat) (v1 vW vL vF u1 u2 u5 : Value) (bF oF cF : Nat) (p : PProg) (limit : Int) (words : List Int) (lines : List ByteArray) (f : Lev) (a : LV) (r : List (Lev × LV)) (i : PInstr)
    (h : VmPre ρ t w base bm lf li v1 vW vL vF u1 u2 u5 bF oF cF p limit words lines f a r i) (hi : i = instrAt p f) (e : i.op = 8) (y : Nat) (ha : i.ars = [(y : Int)]) (hy : y < f.vars.length) (hs : i.s = sInt ∨ i.s = sBool) (hI : InI (getI f.vars (y : Int))) (hwl : words.length ≤ 20000) (hll : lines.length ≤ 2000) :
    vmS3.wp Tryd.prog (bodyPost Tryd.prog Tryd.f69 (VmStepPost base bm v1 bF oF cF p limit (stepF p true limit (vmState words lines ((f, a) :: r))))) ⟨t, []⟩ w := by
  have hli := h.lil
  have b0 : w.cell? ⟨li, 0, none⟩ = some (.int .i64 8) := by simp [World.cell?, h.box, e]
  have b3 : w.cell? ⟨li, 3, none⟩ = some (.int .i64 i.n) := by simp [World.cell?, h.box]
  have f0 := h.fbox
  have hlf := h.lfl
  have H := Lib.hid h
  have b4 : w.cell? ⟨li, 4, none⟩ = some (.string i.s) := by simp [World.cell?, h.box]
  have Hreg0 := Lib.hid (h.reg 0 y (by simp [ha]) hy)
  have hxs : argsF true f i = [getI f.vars (y : Int)] := by simp [argsF, e, ha, Lev.src]
  generalize getI f.vars (y : Int) = x0 at *
  have Hregs := Lib.hid (show ∀ (k : Int) (w' : World), Below w.heap.size w w' → k = 0 → Calls Tryd.prog 117 #[.int .i64 k, .pointer (some ⟨lf, 0, none⟩), .pointer (some ⟨li, 0, none⟩)] w' (fun e w'' => e = .returned (.int .i64 x0) ∧ Drawn w' w'') from fun k w' hb hk => by
    subst hk
    exact Hreg0.out w' hb)
  clear Hreg0
  have hst : stepF p true limit (vmState words lines ((f, a) :: r)) = ((sayF i.s x0 x0 words lines).1, ⟨words, (sayF i.s x0 x0 words lines).2, { f with at_ := f.at_ + 1 } :: r.map (·.1)⟩) := by
    unfold stepF vmState
    simp only [List.map_cons, ← hi, e, hxs]
    rfl
  rw [hst]
  have hcall : ∀ w', Drawn w w' → Calls Tryd.prog 123 #[.pointer (some ⟨bm, 0, none⟩), .string i.s, .int .i64 x0, .int .i64 x0] w' (VmShowPost w' vL base bm v1 vW vF bF oF cF p limit words (({ f with at_ := f.at_ + 1 }, a) :: r) (sayF i.s x0 x0 words lines)) := by
    rintro w' ⟨kd, rfl⟩
    have hrun := h.run.since (Since.drewN _ _ kd)
    have htab := h.tab.since (Since.drewN (fun _ => False) w kd) id
    by_cases hfull : lines.length = 2000
    · rw [show sayF i.s x0 x0 words lines = (7, lines) by unfold sayF; rw [if_pos (by omega)]]
      exact vmShow_full ρ _ base bm v1 vW vL vF i.s bF oF cF p limit words lines _ hrun hfull x0 x0
    have hl2 : lines.length < 2000 := by omega
    rcases hs with hs | hs
    · rw [vmSayF_some (l := decS x0) (by omega) (by rw [hs]; unfold lineF; rw [if_pos rfl]), hs]
      exact vmShow_int ρ _ base bm v1 vW vL vF bF oF cF p limit words lines _ hrun htab x0 x0 hI hl2
    · rw [vmSayF_some (l := if x0 = 0 then sFalse else sTrue) (by omega) (by rw [hs]; unfold lineF; rw [if_neg (by decide), if_pos rfl]), hs]
      exact vmShow_bool ρ _ base bm v1 vW vL vF bF oF cF p limit words lines _ hrun htab x0 x0 hI hl2
  have nF : ∀ k, (vL.ownBlock = some k ∨ k = bm) → k ≠ li := fun k hk => by
    rcases hk with hk | rfl
    · have h1 := h.run.ll k hk
      exact fun e => by rw [e, h.ni] at h1; simp at h1
    · have h1 := h.run.lm.1
      exact fun e => by rw [e, h.ni] at h1; simp at h1
  obtain ⟨a2, c2, rfl⟩ := rSlice_shape h.i2
  have b2 : w.cell? ⟨li, 2, none⟩ = some (.slice a2 i.ars.length c2) := by simp [World.cell?, h.box]
  rw [show i.ars.length = 1 by rw [ha]; rfl] at b2
  have HSs := Lib.hid (show ∀ w1 w2, Drawn w w1 → Since (fun k => vL.ownBlock = some k ∨ k = bm) w1 w2 → (fun w' => w'.cell? ⟨li, 4, none⟩ = some (.string i.s) ∧ w'.cell? ⟨li, 2, none⟩ = some (.slice a2 1 c2)) w2 from fun w1 w2 hd hs => by
    obtain ⟨kd, rfl⟩ := hd
    exact ⟨(hs.cell (o := 4) hli (fun e => nF _ e rfl)).trans b4, (hs.cell (o := 2) hli (fun e => nF _ e rfl)).trans b2⟩)
  have hS0 : (fun w' => w'.cell? ⟨li, 4, none⟩ = some (.string i.s) ∧ w'.cell? ⟨li, 2, none⟩ = some (.slice a2 1 c2)) w := ⟨b4, b2⟩
  have HSd := Lib.hid (show ∀ w', Drawn w w' → (fun w' => w'.cell? ⟨li, 4, none⟩ = some (.string i.s) ∧ w'.cell? ⟨li, 2, none⟩ = some (.slice a2 1 c2)) w' from fun w' hd => by obtain ⟨kd, rfl⟩ := hd; exact ⟨b4, b2⟩)
  have Hcall := Lib.hid hcall
  unfold vmS3
  conv => arg 2; whnf
  rw [frame232 t H.out.size, H.out.s0, H.out.s4, H.out.s5, H.out.s6, H.out.s7, H.out.s8]
  clear hst h hi e hcall hs ha hxs
  generalize sayF i.s x0 x0 words lines = sr at *
  go_upto_region 39 with fail
  go_region_held3 (fun w' => w'.cell? ⟨li, 4, none⟩ = some (.string i.s) ∧ w'.cell? ⟨li, 2, none⟩ = some (.slice a2 1 c2)) (first | exact hS0 | exact hS2 | exact HSd.out _ (by first | exact Drawn.drew _ | exact ⟨_, rfl⟩ | exact (Drawn.drew _).trans ⟨_, rfl⟩ | exact ((Drawn.drew _).trans ⟨_, rfl⟩).trans ⟨_, rfl⟩))
    (first
      | (go_at_call 117; refine (Hregs.out _ _ (Drawn.below (by first | exact Drawn.drew _ | exact ⟨_, rfl⟩ | exact (Drawn.drew _).trans ⟨_, rfl⟩ | exact ((Drawn.drew _).trans ⟨_, rfl⟩).trans ⟨_, rfl⟩) _) (by decide)).mono ?_; rintro e w1 ⟨rfl, kk, rfl⟩)
      | (go_at_call 123; refine (Hcall.out _ (by first | exact Drawn.drew _ | exact ⟨_, rfl⟩ | exact (Drawn.drew _).trans ⟨_, rfl⟩ | exact ((Drawn.drew _).trans ⟨_, rfl⟩).trans ⟨_, rfl⟩)).mono ?_; rintro e w2 ⟨rfl, ρ2, vL2, hq, hs2⟩; have hS2 := HSs.out _ w2 (by first | exact Drawn.drew _ | exact ⟨_, rfl⟩ | exact (Drawn.drew _).trans ⟨_, rfl⟩ | exact ((Drawn.drew _).trans ⟨_, rfl⟩).trans ⟨_, rfl⟩) hs2))
  have HQ := Lib.hid hq
  clear hq hs2 hS2
  all_goals go_wp2_with fail
  go_ret
  exact ⟨rfl, ρ2, vW, vL2, vF, _, HQ.out, by simp⟩

set_option maxRecDepth 100000 in
set_option maxHeartbeats 4000000 in
theorem vm_show2 (ρ : Nat → Option Lab) (t : Array Value) (w : World) (base bm lf li : Nat) (v1 vW vL vF u1 u2 u5 : Value) (bF oF cF : Nat) (p : PProg) (limit : Int) (words : List Int) (lines : List ByteArray) (f : Lev) (a : LV) (r : List (Lev × LV)) (i : PInstr)
    (h : VmPre ρ t w base bm lf li v1 vW vL vF u1 u2 u5 bF oF cF p limit words lines f a r i) (hi : i = instrAt p f) (e : i.op = 8) (y z : Nat) (ha : i.ars = [(y : Int), (z : Int)]) (hy : y < f.vars.length) (hz : z < f.vars.length) (hs : i.s = sText) (hI : InI (getI f.vars (y : Int)) ∧ InI (getI f.vars (z : Int))) (hwl : words.length ≤ 20000) (hll : lines.length ≤ 2000) :
    vmS3.wp Tryd.prog (bodyPost Tryd.prog Tryd.f69 (VmStepPost base bm v1 bF oF cF p limit (stepF p true limit (vmState words lines ((f, a) :: r))))) ⟨t, []⟩ w := by
  have hli := h.lil
  have b0 : w.cell? ⟨li, 0, none⟩ = some (.int .i64 8) := by simp [World.cell?, h.box, e]
  have b3 : w.cell? ⟨li, 3, none⟩ = some (.int .i64 i.n) := by simp [World.cell?, h.box]
  have f0 := h.fbox
  have hlf := h.lfl
  have H := Lib.hid h
  have b4 : w.cell? ⟨li, 4, none⟩ = some (.string i.s) := by simp [World.cell?, h.box]
  have Hreg0 := Lib.hid (h.reg 0 y (by simp [ha]) hy)
  have Hreg1 := Lib.hid (h.reg 1 z (by simp [ha]) hz)
  have hxs : argsF true f i = [getI f.vars (y : Int), getI f.vars (z : Int)] := by simp [argsF, e, ha, Lev.src]
  generalize getI f.vars (y : Int) = x0 at *
  generalize getI f.vars (z : Int) = x1 at *
  have Hregs := Lib.hid (show ∀ (k : Int) (w' : World), Below w.heap.size w w' → (k = 0 ∨ k = 1) → Calls Tryd.prog 117 #[.int .i64 k, .pointer (some ⟨lf, 0, none⟩), .pointer (some ⟨li, 0, none⟩)] w' (fun e w'' => e = .returned (.int .i64 (if k = 0 then x0 else x1)) ∧ Drawn w' w'') from fun k w' hb hk => by
    rcases hk with rfl | rfl
    · exact Hreg0.out w' hb
    · exact Hreg1.out w' hb)
  clear Hreg0 Hreg1
  have hst : stepF p true limit (vmState words lines ((f, a) :: r)) = ((sayF i.s x0 x1 words lines).1, ⟨words, (sayF i.s x0 x1 words lines).2, { f with at_ := f.at_ + 1 } :: r.map (·.1)⟩) := by
    unfold stepF vmState
    simp only [List.map_cons, ← hi, e, hxs]
    rfl
  rw [hst]
  have hcall : ∀ w', Drawn w w' → Calls Tryd.prog 123 #[.pointer (some ⟨bm, 0, none⟩), .string i.s, .int .i64 x0, .int .i64 x1] w' (VmShowPost w' vL base bm v1 vW vF bF oF cF p limit words (({ f with at_ := f.at_ + 1 }, a) :: r) (sayF i.s x0 x1 words lines)) := by
    rintro w' ⟨kd, rfl⟩
    have hrun := h.run.since (Since.drewN _ _ kd)
    have htab := h.tab.since (Since.drewN (fun _ => False) w kd) id
    by_cases hfull : lines.length = 2000
    · rw [show sayF i.s x0 x1 words lines = (7, lines) by unfold sayF; rw [if_pos (by omega)]]
      exact vmShow_full ρ _ base bm v1 vW vL vF i.s bF oF cF p limit words lines _ hrun hfull x0 x1
    have hl2 : lines.length < 2000 := by omega
    have no : ¬ (0 ≤ x1 ∧ x1 ≤ words.length ∧ 0 ≤ x0 ∧ x0 ≤ words.length - x1) → sayF i.s x0 x1 words lines = (2, lines) := fun hn => vmSayF_none (by omega) (by rw [hs]; unfold lineF; rw [if_neg (by decide), if_neg (by decide), if_neg hn])
    obtain ⟨hI0, hI1⟩ := hI
    by_cases c1 : x1 < 0
    · rw [no (by omega), hs]
      exact vmShow_text_n1 ρ _ base bm v1 vW vL vF bF oF cF p limit words lines _ hrun htab x0 x1 hI0 hI1 hl2 hwl c1
    by_cases c3 : words.length < x1
    · rw [no (by omega), hs]
      by_cases c2 : x0 < 0
      · exact vmShow_text_n3 ρ _ base bm v1 vW vL vF bF oF cF p limit words lines _ hrun htab x0 x1 hI0 hI1 hl2 hwl (by omega) c3
      · exact vmShow_text_n3 ρ _ base bm v1 vW vL vF bF oF cF p limit words lines _ hrun htab x0 x1 hI0 hI1 hl2 hwl (by omega) c3
    by_cases c2 : x0 < 0
    · rw [no (by omega), hs]
      exact vmShow_text_n2 ρ _ base bm v1 vW vL vF bF oF cF p limit words lines _ hrun htab x0 x1 hI0 hI1 hl2 hwl (by omega) (by omega) c2
    by_cases c4 : words.length - x1 < x0
    · rw [no (by omega), hs]
      exact vmShow_text_n4 ρ _ base bm v1 vW vL vF bF oF cF p limit words lines _ hrun htab x0 x1 hI0 hI1 hl2 hwl (by omega) (by omega) (by omega) c4
    rw [vmSayF_some (l := bytesF ((words.drop x0.toNat).take x1.toNat)) (by omega) (by rw [hs]; unfold lineF; rw [if_neg (by decide), if_neg (by decide), if_pos (by omega)]), hs]
    by_cases c5 : x1 = 0
    · exact vmShow_text_zero ρ _ base bm v1 vW vL vF bF oF cF p limit words lines _ hrun htab x0 x1 hl2 hwl (by omega) (by omega) (by omega) c5
    · exact vmShow_text_pos ρ _ base bm v1 vW vL vF bF oF cF p limit words lines _ hrun htab x0 x1 hl2 hwl (by omega) (by omega) (by omega) (by omega)
  have nF : ∀ k, (vL.ownBlock = some k ∨ k = bm) → k ≠ li := fun k hk => by
    rcases hk with hk | rfl
    · have h1 := h.run.ll k hk
      exact fun e => by rw [e, h.ni] at h1; simp at h1
    · have h1 := h.run.lm.1
      exact fun e => by rw [e, h.ni] at h1; simp at h1
  obtain ⟨a2, c2, rfl⟩ := rSlice_shape h.i2
  have b2 : w.cell? ⟨li, 2, none⟩ = some (.slice a2 i.ars.length c2) := by simp [World.cell?, h.box]
  rw [show i.ars.length = 2 by rw [ha]; rfl] at b2
  have HSs := Lib.hid (show ∀ w1 w2, Drawn w w1 → Since (fun k => vL.ownBlock = some k ∨ k = bm) w1 w2 → (fun w' => w'.cell? ⟨li, 4, none⟩ = some (.string i.s) ∧ w'.cell? ⟨li, 2, none⟩ = some (.slice a2 2 c2)) w2 from fun w1 w2 hd hs => by
    obtain ⟨kd, rfl⟩ := hd
    exact ⟨(hs.cell (o := 4) hli (fun e => nF _ e rfl)).trans b4, (hs.cell (o := 2) hli (fun e => nF _ e rfl)).trans b2⟩)
  have hS0 : (fun w' => w'.cell? ⟨li, 4, none⟩ = some (.string i.s) ∧ w'.cell? ⟨li, 2, none⟩ = some (.slice a2 2 c2)) w := ⟨b4, b2⟩
  have HSd := Lib.hid (show ∀ w', Drawn w w' → (fun w' => w'.cell? ⟨li, 4, none⟩ = some (.string i.s) ∧ w'.cell? ⟨li, 2, none⟩ = some (.slice a2 2 c2)) w' from fun w' hd => by obtain ⟨kd, rfl⟩ := hd; exact ⟨b4, b2⟩)
  have Hcall := Lib.hid hcall
  unfold vmS3
  conv => arg 2; whnf
  rw [frame232 t H.out.size, H.out.s0, H.out.s4, H.out.s5, H.out.s6, H.out.s7, H.out.s8]
  clear hst h hi e hcall hs ha hxs
  generalize sayF i.s x0 x1 words lines = sr at *
  go_upto_region 39 with fail
  go_region_held3 (fun w' => w'.cell? ⟨li, 4, none⟩ = some (.string i.s) ∧ w'.cell? ⟨li, 2, none⟩ = some (.slice a2 2 c2)) (first | exact hS0 | exact hS2 | exact HSd.out _ (by first | exact Drawn.drew _ | exact ⟨_, rfl⟩ | exact (Drawn.drew _).trans ⟨_, rfl⟩ | exact ((Drawn.drew _).trans ⟨_, rfl⟩).trans ⟨_, rfl⟩))
    (first
      | (go_at_call 117; refine (Hregs.out _ _ (Drawn.below (by first | exact Drawn.drew _ | exact ⟨_, rfl⟩ | exact (Drawn.drew _).trans ⟨_, rfl⟩ | exact ((Drawn.drew _).trans ⟨_, rfl⟩).trans ⟨_, rfl⟩) _) (by decide)).mono ?_; rintro e w1 ⟨rfl, kk, rfl⟩)
      | (go_at_call 123; refine (Hcall.out _ (by first | exact Drawn.drew _ | exact ⟨_, rfl⟩ | exact (Drawn.drew _).trans ⟨_, rfl⟩ | exact ((Drawn.drew _).trans ⟨_, rfl⟩).trans ⟨_, rfl⟩)).mono ?_; rintro e w2 ⟨rfl, ρ2, vL2, hq, hs2⟩; have hS2 := HSs.out _ w2 (by first | exact Drawn.drew _ | exact ⟨_, rfl⟩ | exact (Drawn.drew _).trans ⟨_, rfl⟩ | exact ((Drawn.drew _).trans ⟨_, rfl⟩).trans ⟨_, rfl⟩) hs2))
  have HQ := Lib.hid hq
  clear hq hs2 hS2
  all_goals go_wp2_with fail
  go_ret
  exact ⟨rfl, ρ2, vW, vL2, vF, _, HQ.out, by simp⟩
end Go.Proofs.YtaomlfbcfmmhlaaDoor

/-
  vm's machine, a step: choices (printed by wip/gen_vmarms.py).
-/
namespace Go.Proofs.YtaomlfbcfmmhlaaDoor
open Go.RowKit Go.Pst
set_option linter.unusedVariables false
set_option linter.unusedSimpArgs false
variable [Old]
set_option maxRecDepth 100000 in
set_option maxHeartbeats 4000000 in
theorem vm_pick (ρ : Nat → Option Lab) (t : Array Value) (w : World) (base bm lf li : Nat) (v1 vW vL vF u1 u2 u5 : Value) (bF oF cF : Nat) (p : PProg) (limit : Int) (words : List Int) (lines : List ByteArray) (f : Lev) (a : LV) (r : List (Lev × LV)) (i : PInstr)
    (h : VmPre ρ t w base bm lf li v1 vW vL vF u1 u2 u5 bF oF cF p limit words lines f a r i) (hi : i = instrAt p f) (e : i.op = 11) (y : Nat) (ha : i.ars = [(y : Int)]) (hy : y < f.vars.length) (n : Nat) (hn : i.to.length = n + 1) (hnn : n ≤ 9223372036854775806) (hge : ∀ x ∈ i.to, 0 ≤ x) :
    vmS3.wp Tryd.prog (bodyPost Tryd.prog Tryd.f69 (VmStepPost base bm v1 bF oF cF p limit (stepF p true limit (vmState words lines ((f, a) :: r))))) ⟨t, []⟩ w := by
  have hli := h.lil
  have b0 : w.cell? ⟨li, 0, none⟩ = some (.int .i64 11) := by simp [World.cell?, h.box, e]
  have b3 : w.cell? ⟨li, 3, none⟩ = some (.int .i64 i.n) := by simp [World.cell?, h.box]
  have f0 := h.fbox
  have hlf := h.lfl
  have H := Lib.hid h
  have Hreg0 := Lib.hid (h.reg 0 y (by simp [ha]) hy)
  have hxs : argsF true f i = [getI f.vars (y : Int)] := by simp [argsF, e, ha, Lev.src]
  have h8 : f.vars.length + a.rest.length = 8 := h.run.levs.1.eight
  have n1 := h.ngf
  have n2 := h.ngi
  obtain ⟨g2, z2, hgl⟩ := h.run.get (j := 10) (u := .int .i64 f.block) (VmAt.cells_tail (f := { f with at_ := f.at_ + 1 }) h8 1)
  obtain ⟨g3, z3, -⟩ := h.run.get (j := 11) (u := .int .i64 ((f.at_ + 1 : Nat) : Int)) (VmAt.cells_tail (f := { f with at_ := f.at_ + 1 }) h8 2)
  have b5 : w.cell? ⟨li, 5, none⟩ = some u5 := by simp [World.cell?, h.box]
  have tget : ∀ j (hj : j < i.to.length), getI i.to (j : Int) = i.to[j] := fun j hj => by
    unfold getI
    rw [Int.toNat_natCast, List.getD_eq_getElem?_getD, List.getElem?_eq_getElem hj]
    rfl
  obtain ⟨kl, hkl⟩ := Int.eq_ofNat_of_zero_le (hge (i.to[n]'(by omega)) (List.getElem_mem _))
  obtain ⟨m1, hm1⟩ : ∃ m1, m1 = n + 1 := ⟨_, rfl⟩
  obtain ⟨bT, oT, cT, rfl, hTb, hT⟩ : ∃ bT oT cT, u5 = .slice (some ⟨bT, oT, none⟩) m1 cT ∧ bT < base ∧ ∀ j (hj : j < i.to.length), w.cell? ⟨bT, oT + j, none⟩ = some (.int .i64 i.to[j]) := by
    obtain ⟨aD, cD, hv, -, -, hh⟩ := rInts_val h.i5
    rw [hn, ← hm1] at hv
    obtain ⟨b, o, rfl, hb, -, -, -⟩ := hh 0 (by omega)
    refine ⟨b, o, cD, hv, hb, fun j hj => ?_⟩
    obtain ⟨b', o', he, -, -, hc', -⟩ := hh j hj
    obtain ⟨rfl, rfl⟩ : b = b' ∧ o = o' := by simpa using he
    exact hc'
  have n3 : bT ≠ a.gs := fun e => by have h1 : base ≤ a.gs := (h.run.levs.1.cells.lt _ rfl).1; omega
  have hTl := hT n (by omega)
  rw [hkl] at hTl
  have hn0 : (0 : Int) ≤ n := by omega
  have hn1 : (n : Int) < (m1 : Int) := by omega
  have hlast : getI i.to (i.to.length - 1) = kl := by
    rw [show ((i.to.length : Int) - 1) = (n : Int) by omega, tget n (by omega), hkl]
  generalize getI f.vars (y : Int) = x0 at *
  by_cases hz : 0 ≤ x0 ∧ x0 ≤ n
  · obtain ⟨j, rfl⟩ := Int.eq_ofNat_of_zero_le hz.1
    have hj : j < i.to.length := by omega
    obtain ⟨kj, hkj⟩ := Int.eq_ofNat_of_zero_le (hge i.to[j] (List.getElem_mem _))
    have hTj := hT j hj
    rw [hkj] at hTj
    have hj0 : (0 : Int) ≤ j := by omega
    have hj1 : (j : Int) < (m1 : Int) := by omega
    have d1 : decide ((j : Int) < 0) = false := decide_eq_false (by omega)
    have d2 : decide ((j : Int) ≥ (m1 : Int)) = false := decide_eq_false (by omega)
    have hif : (if 0 ≤ (j : Int) ∧ (j : Int) ≤ i.to.length - 1 then getI i.to (j : Int) else getI i.to (i.to.length - 1)) = kj := by
      rw [if_pos ⟨hj0, by omega⟩, tget j hj, hkj]
    have hst : stepF p true limit (vmState words lines ((f, a) :: r)) = (0, ⟨words, lines, Lev.goto { f with at_ := f.at_ + 1 } kj :: r.map (·.1)⟩) := by
      unfold stepF vmState
      simp only [List.map_cons, ← hi, e, hxs]
      show (0, (⟨words, lines, Lev.goto _ (if 0 ≤ (j : Int) ∧ (j : Int) ≤ i.to.length - 1 then getI i.to (j : Int) else getI i.to (i.to.length - 1)) :: _⟩ : Mach)) = _
      rw [hif]
    rw [hst]
    clear hm1 hz
    have HX := Lib.hid (show ∀ (w' : World), Below w.heap.size w w' → Calls Tryd.prog 117 #[.int .i64 0, .pointer (some ⟨lf, 0, none⟩), .pointer (some ⟨li, 0, none⟩)] w' (fun e w'' => e = .returned (.int .i64 (j : Int)) ∧ Drawn w' w'') from Hreg0.out)
    have hSS : ∀ w' : World, (∀ b o v, b ≠ a.gs → w.cell? ⟨b, o, none⟩ = some v → w'.cell? ⟨b, o, none⟩ = some v) → (fun w' => w'.cell? ⟨lf, 0, none⟩ = some (.pointer (some ⟨a.gs, 0, none⟩)) ∧ w'.cell? ⟨li, 5, none⟩ = some (.slice (some ⟨bT, oT, none⟩) m1 cT) ∧ w'.cell? ⟨bT, oT + j, none⟩ = some (.int .i64 kj)) w' := fun w' hk => ⟨hk _ _ _ n1 f0, hk _ _ _ n2 b5, hk _ _ _ n3 hTj⟩
    have HS0 := Lib.hid (fun k => hSS (w.drewN k) (fun _ _ _ _ h => h))
    have HS1 := Lib.hid (fun u j k => hSS ((w.drewN k).setCell ⟨a.gs, j, none⟩ u) (fun b o v hb hv => (World.cell?_of_block (w := w.drewN k) (Below.heap_setCell _ _ _ _ hb)).trans hv))
    have HS2 := Lib.hid (fun u j u' j' k => hSS (((w.drewN k).setCell ⟨a.gs, j, none⟩ u).setCell ⟨a.gs, j', none⟩ u') (fun b o v hb hv => (World.cell?_of_block (w := (w.drewN k).setCell ⟨a.gs, j, none⟩ u) (Below.heap_setCell _ _ _ _ hb)).trans ((World.cell?_of_block (w := w.drewN k) (Below.heap_setCell _ _ _ _ hb)).trans hv)))
    clear hSS
    unfold vmS3
    conv => arg 2; whnf
    rw [frame232 t H.out.size, H.out.s0, H.out.s4, H.out.s5, H.out.s6, H.out.s7, H.out.s8]
    clear hst h hi e hxs ha hT tget hge hlast hif hn hkl hkj hj
    go_wp2_with fail
    refine (HX.out w (Below.refl _ _)).mono ?_
    rintro e w1 ⟨rfl, k0, rfl⟩
    go_upto_region 48 with fail
    have hS0 := HS0.out (k0 + 1)
    have hS00 := HS0.out k0
    go_region_held3 (fun w' => w'.cell? ⟨lf, 0, none⟩ = some (.pointer (some ⟨a.gs, 0, none⟩)) ∧ w'.cell? ⟨li, 5, none⟩ = some (.slice (some ⟨bT, oT, none⟩) m1 cT) ∧ w'.cell? ⟨bT, oT + j, none⟩ = some (.int .i64 kj)) (first | exact hS0 | exact hS00 | exact HS1.out _ _ _ | exact HS2.out _ _ _ _ _) (fail)
    all_goals go_wp2_with fail
    go_ret
    exact ⟨rfl, ρ, vW, vL, vF, _, ((H.out.run.since (Since.drewN _ _ k0)).goto kj).since (Since.drew _ _), by simp⟩
  · have hif : (if 0 ≤ x0 ∧ x0 ≤ i.to.length - 1 then getI i.to x0 else getI i.to (i.to.length - 1)) = kl := by
      rw [if_neg (by omega), hlast]
    have hwn : IntKind.i64.wrap ((m1 : Int) - 1) = n := by rw [show (m1 : Int) - 1 = n by omega]; exact IntWalk.i64_in _ (by omega)
    have hst : stepF p true limit (vmState words lines ((f, a) :: r)) = (0, ⟨words, lines, Lev.goto { f with at_ := f.at_ + 1 } kl :: r.map (·.1)⟩) := by
      unfold stepF vmState
      simp only [List.map_cons, ← hi, e, hxs]
      show (0, (⟨words, lines, Lev.goto _ (if 0 ≤ x0 ∧ x0 ≤ i.to.length - 1 then getI i.to x0 else getI i.to (i.to.length - 1)) :: _⟩ : Mach)) = _
      rw [hif]
    rw [hst]
    by_cases hneg : x0 < 0
    · have d1 : decide (x0 < 0) = true := decide_eq_true hneg
      clear hm1 hz hneg
      have HX := Lib.hid (show ∀ (w' : World), Below w.heap.size w w' → Calls Tryd.prog 117 #[.int .i64 0, .pointer (some ⟨lf, 0, none⟩), .pointer (some ⟨li, 0, none⟩)] w' (fun e w'' => e = .returned (.int .i64 x0) ∧ Drawn w' w'') from Hreg0.out)
      have hSS : ∀ w' : World, (∀ b o v, b ≠ a.gs → w.cell? ⟨b, o, none⟩ = some v → w'.cell? ⟨b, o, none⟩ = some v) → (fun w' => w'.cell? ⟨lf, 0, none⟩ = some (.pointer (some ⟨a.gs, 0, none⟩)) ∧ w'.cell? ⟨li, 5, none⟩ = some (.slice (some ⟨bT, oT, none⟩) m1 cT) ∧ w'.cell? ⟨bT, oT + n, none⟩ = some (.int .i64 kl)) w' := fun w' hk => ⟨hk _ _ _ n1 f0, hk _ _ _ n2 b5, hk _ _ _ n3 hTl⟩
      have HS0 := Lib.hid (fun k => hSS (w.drewN k) (fun _ _ _ _ h => h))
      have HS1 := Lib.hid (fun u j k => hSS ((w.drewN k).setCell ⟨a.gs, j, none⟩ u) (fun b o v hb hv => (World.cell?_of_block (w := w.drewN k) (Below.heap_setCell _ _ _ _ hb)).trans hv))
      have HS2 := Lib.hid (fun u j u' j' k => hSS (((w.drewN k).setCell ⟨a.gs, j, none⟩ u).setCell ⟨a.gs, j', none⟩ u') (fun b o v hb hv => (World.cell?_of_block (w := (w.drewN k).setCell ⟨a.gs, j, none⟩ u) (Below.heap_setCell _ _ _ _ hb)).trans ((World.cell?_of_block (w := w.drewN k) (Below.heap_setCell _ _ _ _ hb)).trans hv)))
      clear hSS
      unfold vmS3
      conv => arg 2; whnf
      rw [frame232 t H.out.size, H.out.s0, H.out.s4, H.out.s5, H.out.s6, H.out.s7, H.out.s8]
      clear hst h hi e hxs ha hT tget hge hlast hif hn hkl 
      go_wp2_with fail
      refine (HX.out w (Below.refl _ _)).mono ?_
      rintro e w1 ⟨rfl, k0, rfl⟩
      go_upto_region 48 with fail
      have hS0 := HS0.out (k0 + 1)
      have hS00 := HS0.out k0
      go_region_held3 (fun w' => w'.cell? ⟨lf, 0, none⟩ = some (.pointer (some ⟨a.gs, 0, none⟩)) ∧ w'.cell? ⟨li, 5, none⟩ = some (.slice (some ⟨bT, oT, none⟩) m1 cT) ∧ w'.cell? ⟨bT, oT + n, none⟩ = some (.int .i64 kl)) (first | exact hS0 | exact hS00 | exact HS1.out _ _ _ | exact HS2.out _ _ _ _ _) (fail)
      all_goals go_wp2_with fail
      go_ret
      exact ⟨rfl, ρ, vW, vL, vF, _, ((H.out.run.since (Since.drewN _ _ k0)).goto kl).since (Since.drew _ _), by simp⟩
    · have d1 : decide (x0 < 0) = false := decide_eq_false hneg
      have d2 : decide (x0 ≥ (m1 : Int)) = true := decide_eq_true (by omega)
      clear hm1 hz hneg
      have HX := Lib.hid (show ∀ (w' : World), Below w.heap.size w w' → Calls Tryd.prog 117 #[.int .i64 0, .pointer (some ⟨lf, 0, none⟩), .pointer (some ⟨li, 0, none⟩)] w' (fun e w'' => e = .returned (.int .i64 x0) ∧ Drawn w' w'') from Hreg0.out)
      have hSS : ∀ w' : World, (∀ b o v, b ≠ a.gs → w.cell? ⟨b, o, none⟩ = some v → w'.cell? ⟨b, o, none⟩ = some v) → (fun w' => w'.cell? ⟨lf, 0, none⟩ = some (.pointer (some ⟨a.gs, 0, none⟩)) ∧ w'.cell? ⟨li, 5, none⟩ = some (.slice (some ⟨bT, oT, none⟩) m1 cT) ∧ w'.cell? ⟨bT, oT + n, none⟩ = some (.int .i64 kl)) w' := fun w' hk => ⟨hk _ _ _ n1 f0, hk _ _ _ n2 b5, hk _ _ _ n3 hTl⟩
      have HS0 := Lib.hid (fun k => hSS (w.drewN k) (fun _ _ _ _ h => h))
      have HS1 := Lib.hid (fun u j k => hSS ((w.drewN k).setCell ⟨a.gs, j, none⟩ u) (fun b o v hb hv => (World.cell?_of_block (w := w.drewN k) (Below.heap_setCell _ _ _ _ hb)).trans hv))
      have HS2 := Lib.hid (fun u j u' j' k => hSS (((w.drewN k).setCell ⟨a.gs, j, none⟩ u).setCell ⟨a.gs, j', none⟩ u') (fun b o v hb hv => (World.cell?_of_block (w := (w.drewN k).setCell ⟨a.gs, j, none⟩ u) (Below.heap_setCell _ _ _ _ hb)).trans ((World.cell?_of_block (w := w.drewN k) (Below.heap_setCell _ _ _ _ hb)).trans hv)))
      clear hSS
      unfold vmS3
      conv => arg 2; whnf
      rw [frame232 t H.out.size, H.out.s0, H.out.s4, H.out.s5, H.out.s6, H.out.s7, H.out.s8]
      clear hst h hi e hxs ha hT tget hge hlast hif hn hkl 
      go_wp2_with fail
      refine (HX.out w (Below.refl _ _)).mono ?_
      rintro e w1 ⟨rfl, k0, rfl⟩
      go_upto_region 48 with fail
      have hS0 := HS0.out (k0 + 1)
      have hS00 := HS0.out k0
      go_region_held3 (fun w' => w'.cell? ⟨lf, 0, none⟩ = some (.pointer (some ⟨a.gs, 0, none⟩)) ∧ w'.cell? ⟨li, 5, none⟩ = some (.slice (some ⟨bT, oT, none⟩) m1 cT) ∧ w'.cell? ⟨bT, oT + n, none⟩ = some (.int .i64 kl)) (first | exact hS0 | exact hS00 | exact HS1.out _ _ _ | exact HS2.out _ _ _ _ _) (fail)
      all_goals go_wp2_with fail
      go_ret
      exact ⟨rfl, ρ, vW, vL, vF, _, ((H.out.run.since (Since.drewN _ _ k0)).goto kl).since (Since.drew _ _), by simp⟩
end Go.Proofs.YtaomlfbcfmmhlaaDoor

/-
  vm's machine: a whole step.
-/
namespace Go.Proofs.YtaomlfbcfmmhlaaDoor
open Go.RowKit Go.Pst
set_option linter.unusedVariables false
set_option linter.unusedSimpArgs false

/-- Machine code has so many registers at most. -/
theorem machRegs {p : PProg} (h : machineFaultF p = 0) : ∀ c ∈ p.funcs, c.vars ≤ 8 := by
  unfold machineFaultF at h
  split at h
  · rename_i hn; exact absurd h hn
  intro c hc
  have := codesF_ok h c hc
  unfold machineCodeFaultF at this
  split at this
  · omega
  split at this
  · omega
  omega

set_option maxHeartbeats 4000000 in
theorem vmStep_any [Old] (ρ : Nat → Option Lab) (w : World) (base bm : Nat) (v1 vW vL vF u1 u2 u5 : Value) (bF oF cF : Nat) (p : PProg) (limit : Int) (words : List Int) (lines : List ByteArray) (f : Lev) (a : LV) (r : List (Lev × LV))
    (h : VmAt ρ w base bm v1 vW vL vF bF oF cF p limit words lines (({ f with at_ := f.at_ + 1 }, a) :: r)) (hfit : Fits p true limit (vmState words lines ((f, a) :: r))) (hs : Sound p true) (hrg : ∀ c ∈ p.funcs, c.vars ≤ 8) (hT : TabOK w) (hTb : 5 < base) (hl0 : 0 ≤ limit) (hl : limit ≤ 20000)
    (i1 : rInts (· < base) w [u1] (instrAt p f).ds) (i2 : rInts (· < base) w [u2] (instrAt p f).ars) (i5 : rInts (· < base) w [u5] (instrAt p f).to) (ini : InI (instrAt p f).op ∧ InI (instrAt p f).n ∧ (instrAt p f).s.size ≤ maxLen) :
    Calls Tryd.prog 69 #[.pointer (some ⟨bm, 0, none⟩), .pointer (some ⟨a.gs, 0, none⟩), .agg #[.int .i64 (instrAt p f).op, u1, u2, .int .i64 (instrAt p f).n, .string (instrAt p f).s, u5]] w
      (VmStepPost base bm v1 bF oF cF p limit (stepF p true limit (vmState words lines ((f, a) :: r)))) := by
  have hL : LevOK p f := hfit.levs f (by simp [vmState])
  have hlen := hfit.some_
  simp only [vmState, List.map_cons, List.length_cons, List.length_map] at hlen
  have hrl : r.length < 40 := by omega
  have hwI := hfit.words
  have hww : words.length ≤ 20000 := by have : (words.length : Int) ≤ limit := hwI.2; omega
  have hll : lines.length ≤ 2000 := hfit.lines
  have hco := hs.codes _ (codeAt_mem hL.fn)
  have hvl := hL.vl
  have hsl := hL.sl
  have hsm := hco.small
  obtain ⟨hok, hcl⟩ := hL.ok hs
  have hrI : ∀ k, InI (getI f.vars k) := getI_in hL.iv
  have hnb := hco.nb
  have hpar := hco.pars
  have hchain := hfit.chain
  simp only [vmState, List.map_cons] at hchain
  have hsn : f.slots.length ≤ 3000 := by omega
  have hlb : Ins (instrAt p f).to (codeAt p f.fn).blocks.length → ∀ x ∈ (instrAt p f).to, 0 ≤ x := fun h x hx => (h x hx).1
  have HOK := Lib.hid hok
  refine vmPre_any _ ρ w base bm v1 vW vL vF u1 u2 u5 bF oF cF p limit words lines f a r _ h hT hTb i1 i2 i5 ini (Lib.hid ?_)
  intro ρ3 t3 w3 lf li h3
  have hcd : ∀ k : Nat, ∀ g : PCode, p.funcs[k]? = some g → k < p.funcs.length ∧ codeAt p k = g := fun k g hg => by
    obtain ⟨h1, h2⟩ := List.getElem?_eq_some_iff.1 hg
    exact ⟨h1, by rw [codeAt_eq h1, h2]⟩
  rcases hok with ⟨e, d, hd, hd', ha⟩ | ⟨e, d, a', hd, hd', ha, ha'⟩ | ⟨e, hss, d, a', b, hd, hd', ha, ha', hb'⟩ | ⟨e, d, a', hd, hd', ha, ha'⟩ | ⟨e, a', b, ha, ha', hb'⟩ | ⟨e, d, a', hd, hd', ha, ha'⟩ | ⟨e, k, gc, hk, hg, hp, hr, ia, id⟩ | ⟨e, ⟨hs1, a', b, ha, ha', hb'⟩ | ⟨hs1, a', ha, ha'⟩⟩ | ⟨e, ha, tt, ht, ht'⟩ | ⟨e, a', tt, u, ha, ha', ht, ht', hu'⟩ | ⟨e, ⟨a', ha, ha'⟩, ht, ht'⟩ | ⟨e, hr, ia⟩ | ⟨e, ha, n1, n2⟩ | ⟨-, e, ha, d, n, hd, hd', hn, hn'⟩ | ⟨-, e, a', n, ha, ha', hn, hn'⟩
  · exact vm_const ρ3 t3 w3 base bm lf li v1 vW vL vF u1 u2 u5 bF oF cF p limit words lines f a r _ h3 rfl e d hd hd'
  · exact vm_move ρ3 t3 w3 base bm lf li v1 vW vL vF u1 u2 u5 bF oF cF p limit words lines f a r _ h3 rfl e d hd hd' a' ha ha'
  · exact vm_math ρ3 t3 w3 base bm lf li v1 vW vL vF u1 u2 u5 bF oF cF p limit words lines f a r _ h3 rfl e d hd hd' a' b ha ha' hb' hss ⟨hrI _, hrI _⟩
  · exact vm_load ρ3 t3 w3 base bm lf li v1 vW vL vF u1 u2 u5 bF oF cF p limit words lines f a r _ h3 rfl e d hd hd' a' ha ha' (hrI _) hww
  · exact vm_store ρ3 t3 w3 base bm lf li v1 vW vL vF u1 u2 u5 bF oF cF p limit words lines f a r _ h3 rfl e a' b ha ha' hb' (hrI _) hww
  · exact vm_alloc ρ3 t3 w3 base bm lf li v1 vW vL vF u1 u2 u5 bF oF cF p limit words lines f a r _ h3 rfl e d hd hd' a' ha ha' (hrI _) hww hl0 hl
  · obtain ⟨hkl, hck⟩ := hcd k gc hg
    have hcc := hs.codes _ (codeAt_mem hkl)
    have hpc := hcc.pars
    have hia : Ins (instrAt p f).ars f.slots.length := by simpa using ia
    rw [← hck] at hp
    by_cases h40 : 40 ≤ r.length + 1
    · exact vm_invoke0 ρ3 t3 w3 base bm lf li v1 vW vL vF u1 u2 u5 bF oF cF p limit words lines f a r _ h3 rfl e hia (by omega) hsn h40 (by omega)
    · obtain ⟨c1, c2, c3, c4⟩ := hcc.small
      obtain ⟨nv, hnv⟩ := Int.eq_ofNat_of_zero_le c3
      obtain ⟨nr, hnr⟩ := Int.eq_ofNat_of_zero_le c1
      have hr8 := hrg _ (codeAt_mem hkl)
      have hroom := hcc.room
      simp only [if_true] at hroom
      exact vm_invoke1 ρ3 t3 w3 base bm lf li v1 vW vL vF u1 u2 u5 bF oF cF p limit words lines f a r _ h3 rfl e hia (by omega) hsn k nv nr hk hkl hs.some_.2 hnv hnr (by omega) (by omega) (by omega) (by omega)
  · exact vm_show2 ρ3 t3 w3 base bm lf li v1 vW vL vF u1 u2 u5 bF oF cF p limit words lines f a r _ h3 rfl e a' b ha ha' hb' hs1 ⟨hrI _, hrI _⟩ hww hll
  · exact vm_show1 ρ3 t3 w3 base bm lf li v1 vW vL vF u1 u2 u5 bF oF cF p limit words lines f a r _ h3 rfl e a' ha ha' hs1 (hrI _) hww hll
  · exact vm_jump ρ3 t3 w3 base bm lf li v1 vW vL vF u1 u2 u5 bF oF cF p limit words lines f a r _ h3 rfl e tt ht
  · exact vm_choose ρ3 t3 w3 base bm lf li v1 vW vL vF u1 u2 u5 bF oF cF p limit words lines f a r _ h3 rfl e a' ha ha' tt u ht
  · obtain ⟨n, hn⟩ : ∃ n, (instrAt p f).to.length = n + 1 := ⟨(instrAt p f).to.length - 1, by omega⟩
    have hn5 : n ≤ 9223372036854775806 := by
      obtain ⟨a5, c5, -, h51, h52, -⟩ := rInts_val h3.i5
      unfold maxLen at h52
      omega
    exact vm_pick ρ3 t3 w3 base bm lf li v1 vW vL vF u1 u2 u5 bF oF cF p limit words lines f a r _ h3 rfl e a' ha ha' n hn hn5 (hlb ht')
  · have hia : Ins (instrAt p f).ars f.slots.length := by simpa using ia
    cases r with
    | nil => exact vm_back0 ρ3 t3 w3 base bm lf li v1 vW vL vF u1 u2 u5 bF oF cF p limit words lines f a [] _ h3 rfl e hia (by omega) hsn rfl
    | cons x r' =>
      obtain ⟨f1, a1⟩ := x
      obtain ⟨hw1, hw2⟩ := Chain.want hchain
      simp only [List.length_cons] at hlen
      simp only [if_true] at hw2
      exact vm_back1 ρ3 t3 w3 base bm lf li v1 vW vL vF u1 u2 u5 bF oF cF p limit words lines f a _ _ h3 rfl e hia (by omega) hsn f1 a1 r' rfl (by omega) (by omega) hw2
  · exact vm_fail ρ3 t3 w3 base bm lf li v1 vW vL vF u1 u2 u5 bF oF cF p limit words lines f a r _ h3 rfl e
  · exact vm_loadslot ρ3 t3 w3 base bm lf li v1 vW vL vF u1 u2 u5 bF oF cF p limit words lines f a r _ h3 rfl e d hd hd' (by omega)
  · exact vm_storeslot ρ3 t3 w3 base bm lf li v1 vW vL vF u1 u2 u5 bF oF cF p limit words lines f a r _ h3 rfl e a' ha ha' (by omega)
end Go.Proofs.YtaomlfbcfmmhlaaDoor

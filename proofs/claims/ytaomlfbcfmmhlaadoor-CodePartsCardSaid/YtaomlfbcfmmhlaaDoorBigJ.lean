/-
  Texts joined: IrShow IrShowT IrBack.
-/
import Derived.Test.YtaomlfbcfmmhlaaDoorBigH
import Derived.Test.YtaomlfbcfmmhlaaDoorBigI
import Derived.Test.YtaomlfbcfmmhlaaDoorShelf
import Derived.RegionTactic
import Derived.BigRegion

/-
  ir's machine: a line is shown: the contract (printed by wip/gen_irshow.py).
-/
namespace Go.Proofs.YtaomlfbcfmmhlaaDoor
open Go.RowKit Go.Pst
set_option linter.unusedVariables false
set_option linter.unusedSimpArgs false

def ShowPost [Old] (base bm : Nat) (v1 vW vF : Value) (bF oF cF : Nat) (p : PProg) (limit end_ : Int) (words : List Int) (fr : List (Lev × LA)) (r : Int × List ByteArray) (e : Ending) (w' : World) : Prop :=
  e = .returned (.int .i64 r.1) ∧ ∃ ρ vL, IrAt ρ w' base bm v1 vW vL vF bF oF cF p limit end_ words r.2 fr

set_option maxRecDepth 100000 in
set_option maxHeartbeats 4000000 in
theorem irShow_full [Old] (ρ : Nat → Option Lab) (w : World) (base bm : Nat) (v1 vW vL vF vX : Value) (s : ByteArray) (bF oF cF : Nat) (p : PProg) (limit end_ : Int) (words : List Int) (lines : List ByteArray) (fr : List (Lev × LA))
    (h : IrAt ρ w base bm v1 vW vL vF bF oF cF p limit end_ words lines fr) (hl : lines.length = 2000) :
    Calls Tryd.prog 106 #[.pointer (some ⟨bm, 0, none⟩), .string s, vX] w (ShowPost base bm v1 vW vF bF oF cF p limit end_ words fr (7, lines)) := by
  obtain ⟨aL, cL, rfl, hL1, hL2⟩ := row_slice h.oL
  have c5 := h.c5
  have H := Lib.hid h
  have hbm := h.lm.2.2
  have hd : ((lines.length : Int) == 2000) = true := by simp; omega
  clear h
  go_enter Tryd.func106, Tryd.ntmps106
  go_wp2_with fail
  go_ret
  exact ⟨rfl, ρ, _, H.out⟩

set_option maxRecDepth 100000 in
set_option maxHeartbeats 4000000 in
theorem irShow_int [Old] (ρ : Nat → Option Lab) (w : World) (base bm : Nat) (v1 vW vL vF vX : Value) (bF oF cF : Nat) (p : PProg) (limit end_ : Int) (words : List Int) (lines : List ByteArray) (fr : List (Lev × LA)) (xs : List Int)
    (h : IrAt ρ w base bm v1 vW vL vF bF oF cF p limit end_ words lines fr) (hX : w.ownsRow base 3 1 vX xs.length (xs.map (Value.int .i64))) (hT : TabOK w) (x : Int) (hxs : xs = [x]) (hI : InI x) (hl : lines.length < 2000) :
    Calls Tryd.prog 106 #[.pointer (some ⟨bm, 0, none⟩), .string sInt, vX] w (ShowPost base bm v1 vW vF bF oF cF p limit end_ words fr (0, lines ++ [decS x])) := by
  obtain ⟨aL, cL, rfl, hL1, hL2⟩ := row_slice h.oL
  have c5 := h.c5
  have H := Lib.hid h
  have hbm := h.lm.2.2
  obtain ⟨i0, hi, hz0, hz1, hz2⟩ := info_parts info_str
  have hd : ((lines.length : Int) == 2000) = false := by simp; omega
  obtain ⟨gX, cX, rfl, -, -, hXl, hX0, -⟩ := row_get hX (i := 0) (u := .int .i64 x) (by simp [hxs])
  have hxl : xs.length = 1 := by rw [hxs]; rfl
  rw [hxl]
  have hitoa := fun hh => Tryd.strconv_Itoa x hI.1 hI.2 w hh
  have Hitoa := Lib.hid (hitoa hT.is_)
  have h0 : (0 : Int) < 1 := by decide
  clear h hX hT hitoa
  go_enter Tryd.func106, Tryd.ntmps106
  go_wp2_with fail
  refine Hitoa.out.mono ?_
  rintro e w1 ⟨rfl, kk, os, hw1⟩
  have s1 : Since (fun _ => False) w w1 := by rw [hw1]; exact ⟨rfl, rfl, rfl, by simp [Go.Sort.grow, World.drewN], fun k hk _ => by simp [Go.Sort.grow, World.drewN]; rw [Array.getElem?_append_left hk]⟩
  have S1 := Lib.hid s1
  have hX1 := (s1.cell (o := 0) hXl id).trans hX0
  clear hw1 s1
  have hrun := H.out.since S1.out
  have c51 := hrun.c5
  have z51 := hrun.z 5
  have hown := hrun.oL
  have hbm1 := hrun.lm.2.2
  have hbig1 := hrun.big
  have nb : (Value.slice aL lines.length cL).ownBlock ≠ some bm := fun e => by have h1 := hrun.ll bm e; rw [hrun.lm.1] at h1; simp at h1
  have HR := Lib.hid hrun
  have Nb := Lib.hid nb
  clear hrun nb
  go_wp2_with (at_builtin; refine wpList_append_own_at _ rfl _ _ 39 rfl base 9 i0 (.string ByteArray.empty) 1 16 Tryd.underlying39 hi hz0 hz1 hz2 rfl (by decide) _ _ _ rfl (hown.alloc _) ⟨w1.heap.size, 0, none⟩ 1 1 [.string (decS x)] rfl rfl (cell_one_new _ _ _) (by intro u hu; simp at hu; subst hu; rfl) (by unfold maxLen; omega) (by omega) (by simp; omega) ?_)
  intro v' w3 hown' hgrow _ hloc
  obtain ⟨gg, cg, rfl⟩ : ∃ gg cg, v' = .slice (some ⟨gg, 0, none⟩) (lines.length + 1) cg := by
    rcases hown'.2 with ⟨_, h⟩ | ⟨gg, cap', _, h, _⟩
    · omega
    · exact ⟨gg, cap', h⟩
  have sg : Since (fun k => (Value.slice aL lines.length cL).ownBlock = some k) w1 w3 := (Since.alloc _ _ _).trans (Since.grown hgrow)
  have c53 := (sg.cell (o := 5) hbm1 Nb.out).trans c51
  have z53 := (sg.frozen (o := 5) hbm1 Nb.out).trans z51
  obtain ⟨ρ', hq⟩ := HR.out.turn (lines' := lines ++ [(decS x)]) sg 5 (Or.inr rfl) (.slice (some ⟨gg, 0, none⟩) (lines.length + 1) cg) (fun k e => Or.inr ⟨rfl, e⟩) (fun _ => ⟨rfl, rfl⟩) (fun e => absurd rfl e) (fun e => absurd e (by decide)) (fun _ => rfl) (fun e => absurd e (by decide)) (fun _ => by simpa using hown') (fun e => absurd e (by decide))
    (fun _ k hk => by
      rcases hloc with e | e
      · rw [e] at hk; exact Or.inl hk
      · rw [e] at hk
        have : w1.heap.size + 1 = k := by simpa using hk
        exact Or.inr (by omega))
  have HQ := Lib.hid hq
  clear hq hown' hgrow hloc sg hown c51 z51
  go_wp2_with fail
  go_ret
  exact ⟨rfl, ρ', _, HQ.out⟩

set_option maxRecDepth 100000 in
set_option maxHeartbeats 4000000 in
theorem irShow_bool [Old] (ρ : Nat → Option Lab) (w : World) (base bm : Nat) (v1 vW vL vF vX : Value) (bF oF cF : Nat) (p : PProg) (limit end_ : Int) (words : List Int) (lines : List ByteArray) (fr : List (Lev × LA)) (xs : List Int)
    (h : IrAt ρ w base bm v1 vW vL vF bF oF cF p limit end_ words lines fr) (hX : w.ownsRow base 3 1 vX xs.length (xs.map (Value.int .i64))) (hT : TabOK w) (x : Int) (hxs : xs = [x]) (hI : InI x) (hl : lines.length < 2000) :
    Calls Tryd.prog 106 #[.pointer (some ⟨bm, 0, none⟩), .string sBool, vX] w (ShowPost base bm v1 vW vF bF oF cF p limit end_ words fr (0, lines ++ [if x = 0 then sFalse else sTrue])) := by
  obtain ⟨aL, cL, rfl, hL1, hL2⟩ := row_slice h.oL
  have c5 := h.c5
  have H := Lib.hid h
  have hbm := h.lm.2.2
  obtain ⟨i0, hi, hz0, hz1, hz2⟩ := info_parts info_str
  have hd : ((lines.length : Int) == 2000) = false := by simp; omega
  obtain ⟨gX, cX, rfl, -, -, hXl, hX0, -⟩ := row_get hX (i := 0) (u := .int .i64 x) (by simp [hxs])
  have hxl : xs.length = 1 := by rw [hxs]; rfl
  rw [hxl]
  have hitoa := fun hh => Tryd.strconv_Itoa x hI.1 hI.2 w hh
  have Hitoa := Lib.hid (hitoa hT.is_)
  have h0 : (0 : Int) < 1 := by decide
  clear h hX hT hitoa
  by_cases hz : x = 0
  · have hzb : (x != 0) = false := by simp [hz]
    rw [show (if x = 0 then sFalse else sTrue) = sFalse from if_pos hz]
    have hfb : ∀ w', Calls Tryd.prog 146 #[.bool false] w' fun e w'' => e = .returned (.string sFalse) ∧ w'' = w' := fun w' => Tryd.strconv_FormatBool false w'
    have Hfb := Lib.hid hfb
    clear hfb hz
    go_enter Tryd.func106, Tryd.ntmps106
    go_wp2_with fail
    refine Hitoa.out.mono ?_
    rintro e w1 ⟨rfl, kk, os, hw1⟩
    have s1 : Since (fun _ => False) w w1 := by rw [hw1]; exact ⟨rfl, rfl, rfl, by simp [Go.Sort.grow, World.drewN], fun k hk _ => by simp [Go.Sort.grow, World.drewN]; rw [Array.getElem?_append_left hk]⟩
    have S1 := Lib.hid s1
    have hX1 := (s1.cell (o := 0) hXl id).trans hX0
    clear hw1 s1
    go_wp2_with fail
    refine (Hfb.out _).mono ?_
    rintro e w' ⟨rfl, hww⟩
    have hww' := hww.symm
    clear hww
    subst hww'
    have hrun := H.out.since S1.out
    have c51 := hrun.c5
    have z51 := hrun.z 5
    have hown := hrun.oL
    have hbm1 := hrun.lm.2.2
    have hbig1 := hrun.big
    have nb : (Value.slice aL lines.length cL).ownBlock ≠ some bm := fun e => by have h1 := hrun.ll bm e; rw [hrun.lm.1] at h1; simp at h1
    have HR := Lib.hid hrun
    have Nb := Lib.hid nb
    clear hrun nb
    go_wp2_with (at_builtin; refine wpList_append_own_at _ rfl _ _ 39 rfl base 9 i0 (.string ByteArray.empty) 1 16 Tryd.underlying39 hi hz0 hz1 hz2 rfl (by decide) _ _ _ rfl (hown.alloc _) ⟨w1.heap.size, 0, none⟩ 1 1 [.string sFalse] rfl rfl (cell_one_new _ _ _) (by intro u hu; simp at hu; subst hu; rfl) (by unfold maxLen; omega) (by omega) (by simp; omega) ?_)
    intro v' w3 hown' hgrow _ hloc
    obtain ⟨gg, cg, rfl⟩ : ∃ gg cg, v' = .slice (some ⟨gg, 0, none⟩) (lines.length + 1) cg := by
      rcases hown'.2 with ⟨_, h⟩ | ⟨gg, cap', _, h, _⟩
      · omega
      · exact ⟨gg, cap', h⟩
    have sg : Since (fun k => (Value.slice aL lines.length cL).ownBlock = some k) w1 w3 := (Since.alloc _ _ _).trans (Since.grown hgrow)
    have c53 := (sg.cell (o := 5) hbm1 Nb.out).trans c51
    have z53 := (sg.frozen (o := 5) hbm1 Nb.out).trans z51
    obtain ⟨ρ', hq⟩ := HR.out.turn (lines' := lines ++ [sFalse]) sg 5 (Or.inr rfl) (.slice (some ⟨gg, 0, none⟩) (lines.length + 1) cg) (fun k e => Or.inr ⟨rfl, e⟩) (fun _ => ⟨rfl, rfl⟩) (fun e => absurd rfl e) (fun e => absurd e (by decide)) (fun _ => rfl) (fun e => absurd e (by decide)) (fun _ => by simpa using hown') (fun e => absurd e (by decide))
      (fun _ k hk => by
        rcases hloc with e | e
        · rw [e] at hk; exact Or.inl hk
        · rw [e] at hk
          have : w1.heap.size + 1 = k := by simpa using hk
          exact Or.inr (by omega))
    have HQ := Lib.hid hq
    clear hq hown' hgrow hloc sg hown c51 z51
    go_wp2_with fail
    go_ret
    exact ⟨rfl, ρ', _, HQ.out⟩
  · have hzb : (x != 0) = true := by simp [hz]
    rw [show (if x = 0 then sFalse else sTrue) = sTrue from if_neg hz]
    have hfb : ∀ w', Calls Tryd.prog 146 #[.bool true] w' fun e w'' => e = .returned (.string sTrue) ∧ w'' = w' := fun w' => Tryd.strconv_FormatBool true w'
    have Hfb := Lib.hid hfb
    clear hfb hz
    go_enter Tryd.func106, Tryd.ntmps106
    go_wp2_with fail
    refine Hitoa.out.mono ?_
    rintro e w1 ⟨rfl, kk, os, hw1⟩
    have s1 : Since (fun _ => False) w w1 := by rw [hw1]; exact ⟨rfl, rfl, rfl, by simp [Go.Sort.grow, World.drewN], fun k hk _ => by simp [Go.Sort.grow, World.drewN]; rw [Array.getElem?_append_left hk]⟩
    have S1 := Lib.hid s1
    have hX1 := (s1.cell (o := 0) hXl id).trans hX0
    clear hw1 s1
    go_wp2_with fail
    refine (Hfb.out _).mono ?_
    rintro e w' ⟨rfl, hww⟩
    have hww' := hww.symm
    clear hww
    subst hww'
    have hrun := H.out.since S1.out
    have c51 := hrun.c5
    have z51 := hrun.z 5
    have hown := hrun.oL
    have hbm1 := hrun.lm.2.2
    have hbig1 := hrun.big
    have nb : (Value.slice aL lines.length cL).ownBlock ≠ some bm := fun e => by have h1 := hrun.ll bm e; rw [hrun.lm.1] at h1; simp at h1
    have HR := Lib.hid hrun
    have Nb := Lib.hid nb
    clear hrun nb
    go_wp2_with (at_builtin; refine wpList_append_own_at _ rfl _ _ 39 rfl base 9 i0 (.string ByteArray.empty) 1 16 Tryd.underlying39 hi hz0 hz1 hz2 rfl (by decide) _ _ _ rfl (hown.alloc _) ⟨w1.heap.size, 0, none⟩ 1 1 [.string sTrue] rfl rfl (cell_one_new _ _ _) (by intro u hu; simp at hu; subst hu; rfl) (by unfold maxLen; omega) (by omega) (by simp; omega) ?_)
    intro v' w3 hown' hgrow _ hloc
    obtain ⟨gg, cg, rfl⟩ : ∃ gg cg, v' = .slice (some ⟨gg, 0, none⟩) (lines.length + 1) cg := by
      rcases hown'.2 with ⟨_, h⟩ | ⟨gg, cap', _, h, _⟩
      · omega
      · exact ⟨gg, cap', h⟩
    have sg : Since (fun k => (Value.slice aL lines.length cL).ownBlock = some k) w1 w3 := (Since.alloc _ _ _).trans (Since.grown hgrow)
    have c53 := (sg.cell (o := 5) hbm1 Nb.out).trans c51
    have z53 := (sg.frozen (o := 5) hbm1 Nb.out).trans z51
    obtain ⟨ρ', hq⟩ := HR.out.turn (lines' := lines ++ [sTrue]) sg 5 (Or.inr rfl) (.slice (some ⟨gg, 0, none⟩) (lines.length + 1) cg) (fun k e => Or.inr ⟨rfl, e⟩) (fun _ => ⟨rfl, rfl⟩) (fun e => absurd rfl e) (fun e => absurd e (by decide)) (fun _ => rfl) (fun e => absurd e (by decide)) (fun _ => by simpa using hown') (fun e => absurd e (by decide))
      (fun _ k hk => by
        rcases hloc with e | e
        · rw [e] at hk; exact Or.inl hk
        · rw [e] at hk
          have : w1.heap.size + 1 = k := by simpa using hk
          exact Or.inr (by omega))
    have HQ := Lib.hid hq
    clear hq hown' hgrow hloc sg hown c51 z51
    go_wp2_with fail
    go_ret
    exact ⟨rfl, ρ', _, HQ.out⟩
set_option maxRecDepth 100000 in
set_option maxHeartbeats 4000000 in
theorem byteF_cells (l : List Int) : Lib.byteCells (l.map byteF) = l.map fun x => Value.int .u8 (x % 256) := by
  unfold Lib.byteCells
  rw [List.map_map]
  refine List.map_congr_left fun x _ => ?_
  simp [byteF]
  omega

set_option maxRecDepth 100000 in
set_option maxHeartbeats 4000000 in
theorem irShow_text_n1 [Old] (ρ : Nat → Option Lab) (w : World) (base bm : Nat) (v1 vW vL vF vX : Value) (bF oF cF : Nat) (p : PProg) (limit end_ : Int) (words : List Int) (lines : List ByteArray) (fr : List (Lev × LA)) (xs : List Int)
    (h : IrAt ρ w base bm v1 vW vL vF bF oF cF p limit end_ words lines fr) (hX : w.ownsRow base 3 1 vX xs.length (xs.map (Value.int .i64))) (hT : TabOK w) (x y : Int) (hxs : xs = [x, y]) (hI : InI x) (hI2 : InI y) (hl : lines.length < 2000) (hwl : words.length ≤ 20000) (hy : y < 0) :
    Calls Tryd.prog 106 #[.pointer (some ⟨bm, 0, none⟩), .string sText, vX] w (ShowPost base bm v1 vW vF bF oF cF p limit end_ words fr (2, lines)) := by
  obtain ⟨aL, cL, rfl, hL1, hL2⟩ := row_slice h.oL
  have c5 := h.c5
  have H := Lib.hid h
  have hbm := h.lm.2.2
  obtain ⟨i0, hi, hz0, hz1, hz2⟩ := info_parts info_str
  have hd : ((lines.length : Int) == 2000) = false := by simp; omega
  obtain ⟨gX, cX, rfl, -, -, hXl, hX0, -⟩ := row_get hX (i := 0) (u := .int .i64 x) (by simp [hxs])
  have hxl : xs.length = 2 := by rw [hxs]; rfl
  rw [hxl]
  have hitoa := fun hh => Tryd.strconv_Itoa x hI.1 hI.2 w hh
  have Hitoa := Lib.hid (hitoa hT.is_)
  have h0 : (0 : Int) < 2 := by decide
  have h01 : (1 : Int) < 2 := by decide
  have hX1' : w.cell? ⟨gX, 1, none⟩ = some (.int .i64 y) := by
    obtain ⟨_, _, hv3, -, -, -, hc3, -⟩ := row_get hX (i := 1) (u := .int .i64 y) (by simp [hxs])
    obtain ⟨rfl, -⟩ : gX = _ ∧ _ := by simpa using hv3
    exact hc3
  obtain ⟨aW, cW, rfl, hW1, hW2⟩ := row_slice h.oW
  have c2 := h.c2
  have HX := Lib.hid hX
  have HoW := Lib.hid h.oW
  obtain ⟨hI1, hI1'⟩ := hI
  obtain ⟨hI3, hI3'⟩ := hI2
  have d1 : decide (y < 0) = true := decide_eq_true hy
  clear h hX hT hitoa hxs
  go_enter Tryd.func106, Tryd.ntmps106
  go_wp2_with fail
  refine Hitoa.out.mono ?_
  rintro e w1 ⟨rfl, kk, os, hw1⟩
  have s1 : Since (fun _ => False) w w1 := by rw [hw1]; exact ⟨rfl, rfl, rfl, by simp [Go.Sort.grow, World.drewN], fun k hk _ => by simp [Go.Sort.grow, World.drewN]; rw [Array.getElem?_append_left hk]⟩
  have S1 := Lib.hid s1
  have hX1 := (s1.cell (o := 0) hXl id).trans hX0
  clear hw1 s1
  have hY1 := (S1.out.cell (o := 1) hXl id).trans hX1'
  have hc2 := (S1.out.cell (o := 2) hbm id).trans c2
  have hz1w := S1.out.size
  have hbm1' := Nat.lt_of_lt_of_le hbm hz1w
  clear hX0 hX1' c2 c5
  go_wp2_with fail
  go_quiet (fail)
  go_wp2_with fail
  go_ret
  exact ⟨rfl, ρ, _, (H.out.since S1.out).since (Since.drewN _ _ _)⟩

set_option maxRecDepth 100000 in
set_option maxHeartbeats 4000000 in
theorem irShow_text_n2 [Old] (ρ : Nat → Option Lab) (w : World) (base bm : Nat) (v1 vW vL vF vX : Value) (bF oF cF : Nat) (p : PProg) (limit end_ : Int) (words : List Int) (lines : List ByteArray) (fr : List (Lev × LA)) (xs : List Int)
    (h : IrAt ρ w base bm v1 vW vL vF bF oF cF p limit end_ words lines fr) (hX : w.ownsRow base 3 1 vX xs.length (xs.map (Value.int .i64))) (hT : TabOK w) (x y : Int) (hxs : xs = [x, y]) (hI : InI x) (hI2 : InI y) (hl : lines.length < 2000) (hwl : words.length ≤ 20000) (hy : 0 ≤ y) (hx : x < 0) :
    Calls Tryd.prog 106 #[.pointer (some ⟨bm, 0, none⟩), .string sText, vX] w (ShowPost base bm v1 vW vF bF oF cF p limit end_ words fr (2, lines)) := by
  obtain ⟨aL, cL, rfl, hL1, hL2⟩ := row_slice h.oL
  have c5 := h.c5
  have H := Lib.hid h
  have hbm := h.lm.2.2
  obtain ⟨i0, hi, hz0, hz1, hz2⟩ := info_parts info_str
  have hd : ((lines.length : Int) == 2000) = false := by simp; omega
  obtain ⟨gX, cX, rfl, -, -, hXl, hX0, -⟩ := row_get hX (i := 0) (u := .int .i64 x) (by simp [hxs])
  have hxl : xs.length = 2 := by rw [hxs]; rfl
  rw [hxl]
  have hitoa := fun hh => Tryd.strconv_Itoa x hI.1 hI.2 w hh
  have Hitoa := Lib.hid (hitoa hT.is_)
  have h0 : (0 : Int) < 2 := by decide
  have h01 : (1 : Int) < 2 := by decide
  have hX1' : w.cell? ⟨gX, 1, none⟩ = some (.int .i64 y) := by
    obtain ⟨_, _, hv3, -, -, -, hc3, -⟩ := row_get hX (i := 1) (u := .int .i64 y) (by simp [hxs])
    obtain ⟨rfl, -⟩ : gX = _ ∧ _ := by simpa using hv3
    exact hc3
  obtain ⟨aW, cW, rfl, hW1, hW2⟩ := row_slice h.oW
  have c2 := h.c2
  have HX := Lib.hid hX
  have HoW := Lib.hid h.oW
  obtain ⟨hI1, hI1'⟩ := hI
  obtain ⟨hI3, hI3'⟩ := hI2
  have d1 : decide (y < 0) = false := decide_eq_false (by omega)
  have d2 : decide (x < 0) = true := decide_eq_true hx
  clear h hX hT hitoa hxs
  go_enter Tryd.func106, Tryd.ntmps106
  go_wp2_with fail
  refine Hitoa.out.mono ?_
  rintro e w1 ⟨rfl, kk, os, hw1⟩
  have s1 : Since (fun _ => False) w w1 := by rw [hw1]; exact ⟨rfl, rfl, rfl, by simp [Go.Sort.grow, World.drewN], fun k hk _ => by simp [Go.Sort.grow, World.drewN]; rw [Array.getElem?_append_left hk]⟩
  have S1 := Lib.hid s1
  have hX1 := (s1.cell (o := 0) hXl id).trans hX0
  clear hw1 s1
  have hY1 := (S1.out.cell (o := 1) hXl id).trans hX1'
  have hc2 := (S1.out.cell (o := 2) hbm id).trans c2
  have hz1w := S1.out.size
  have hbm1' := Nat.lt_of_lt_of_le hbm hz1w
  clear hX0 hX1' c2 c5
  go_wp2_with fail
  go_quiet (fail)
  go_wp2_with fail
  go_ret
  exact ⟨rfl, ρ, _, (H.out.since S1.out).since (Since.drewN _ _ _)⟩

set_option maxRecDepth 100000 in
set_option maxHeartbeats 4000000 in
theorem irShow_text_n3 [Old] (ρ : Nat → Option Lab) (w : World) (base bm : Nat) (v1 vW vL vF vX : Value) (bF oF cF : Nat) (p : PProg) (limit end_ : Int) (words : List Int) (lines : List ByteArray) (fr : List (Lev × LA)) (xs : List Int)
    (h : IrAt ρ w base bm v1 vW vL vF bF oF cF p limit end_ words lines fr) (hX : w.ownsRow base 3 1 vX xs.length (xs.map (Value.int .i64))) (hT : TabOK w) (x y : Int) (hxs : xs = [x, y]) (hI : InI x) (hI2 : InI y) (hl : lines.length < 2000) (hwl : words.length ≤ 20000) (hy : 0 ≤ y) (hx : 0 ≤ x) (h3 : words.length < y) :
    Calls Tryd.prog 106 #[.pointer (some ⟨bm, 0, none⟩), .string sText, vX] w (ShowPost base bm v1 vW vF bF oF cF p limit end_ words fr (2, lines)) := by
  obtain ⟨aL, cL, rfl, hL1, hL2⟩ := row_slice h.oL
  have c5 := h.c5
  have H := Lib.hid h
  have hbm := h.lm.2.2
  obtain ⟨i0, hi, hz0, hz1, hz2⟩ := info_parts info_str
  have hd : ((lines.length : Int) == 2000) = false := by simp; omega
  obtain ⟨gX, cX, rfl, -, -, hXl, hX0, -⟩ := row_get hX (i := 0) (u := .int .i64 x) (by simp [hxs])
  have hxl : xs.length = 2 := by rw [hxs]; rfl
  rw [hxl]
  have hitoa := fun hh => Tryd.strconv_Itoa x hI.1 hI.2 w hh
  have Hitoa := Lib.hid (hitoa hT.is_)
  have h0 : (0 : Int) < 2 := by decide
  have h01 : (1 : Int) < 2 := by decide
  have hX1' : w.cell? ⟨gX, 1, none⟩ = some (.int .i64 y) := by
    obtain ⟨_, _, hv3, -, -, -, hc3, -⟩ := row_get hX (i := 1) (u := .int .i64 y) (by simp [hxs])
    obtain ⟨rfl, -⟩ : gX = _ ∧ _ := by simpa using hv3
    exact hc3
  obtain ⟨aW, cW, rfl, hW1, hW2⟩ := row_slice h.oW
  have c2 := h.c2
  have HX := Lib.hid hX
  have HoW := Lib.hid h.oW
  obtain ⟨hI1, hI1'⟩ := hI
  obtain ⟨hI3, hI3'⟩ := hI2
  have d1 : decide (y < 0) = false := decide_eq_false (by omega)
  have d2 : decide (x < 0) = false := decide_eq_false (by omega)
  have d3 : decide (y > (words.length : Int)) = true := decide_eq_true h3
  clear h hX hT hitoa hxs
  go_enter Tryd.func106, Tryd.ntmps106
  go_wp2_with fail
  refine Hitoa.out.mono ?_
  rintro e w1 ⟨rfl, kk, os, hw1⟩
  have s1 : Since (fun _ => False) w w1 := by rw [hw1]; exact ⟨rfl, rfl, rfl, by simp [Go.Sort.grow, World.drewN], fun k hk _ => by simp [Go.Sort.grow, World.drewN]; rw [Array.getElem?_append_left hk]⟩
  have S1 := Lib.hid s1
  have hX1 := (s1.cell (o := 0) hXl id).trans hX0
  clear hw1 s1
  have hY1 := (S1.out.cell (o := 1) hXl id).trans hX1'
  have hc2 := (S1.out.cell (o := 2) hbm id).trans c2
  have hz1w := S1.out.size
  have hbm1' := Nat.lt_of_lt_of_le hbm hz1w
  clear hX0 hX1' c2 c5
  go_wp2_with fail
  go_quiet (fail)
  go_wp2_with fail
  go_ret
  exact ⟨rfl, ρ, _, (H.out.since S1.out).since (Since.drewN _ _ _)⟩

set_option maxRecDepth 100000 in
set_option maxHeartbeats 4000000 in
theorem irShow_text_n4 [Old] (ρ : Nat → Option Lab) (w : World) (base bm : Nat) (v1 vW vL vF vX : Value) (bF oF cF : Nat) (p : PProg) (limit end_ : Int) (words : List Int) (lines : List ByteArray) (fr : List (Lev × LA)) (xs : List Int)
    (h : IrAt ρ w base bm v1 vW vL vF bF oF cF p limit end_ words lines fr) (hX : w.ownsRow base 3 1 vX xs.length (xs.map (Value.int .i64))) (hT : TabOK w) (x y : Int) (hxs : xs = [x, y]) (hI : InI x) (hI2 : InI y) (hl : lines.length < 2000) (hwl : words.length ≤ 20000) (hy : 0 ≤ y) (hx : 0 ≤ x) (h3 : y ≤ words.length) (h4 : words.length - y < x) :
    Calls Tryd.prog 106 #[.pointer (some ⟨bm, 0, none⟩), .string sText, vX] w (ShowPost base bm v1 vW vF bF oF cF p limit end_ words fr (2, lines)) := by
  obtain ⟨aL, cL, rfl, hL1, hL2⟩ := row_slice h.oL
  have c5 := h.c5
  have H := Lib.hid h
  have hbm := h.lm.2.2
  obtain ⟨i0, hi, hz0, hz1, hz2⟩ := info_parts info_str
  have hd : ((lines.length : Int) == 2000) = false := by simp; omega
  obtain ⟨gX, cX, rfl, -, -, hXl, hX0, -⟩ := row_get hX (i := 0) (u := .int .i64 x) (by simp [hxs])
  have hxl : xs.length = 2 := by rw [hxs]; rfl
  rw [hxl]
  have hitoa := fun hh => Tryd.strconv_Itoa x hI.1 hI.2 w hh
  have Hitoa := Lib.hid (hitoa hT.is_)
  have h0 : (0 : Int) < 2 := by decide
  have h01 : (1 : Int) < 2 := by decide
  have hX1' : w.cell? ⟨gX, 1, none⟩ = some (.int .i64 y) := by
    obtain ⟨_, _, hv3, -, -, -, hc3, -⟩ := row_get hX (i := 1) (u := .int .i64 y) (by simp [hxs])
    obtain ⟨rfl, -⟩ : gX = _ ∧ _ := by simpa using hv3
    exact hc3
  obtain ⟨aW, cW, rfl, hW1, hW2⟩ := row_slice h.oW
  have c2 := h.c2
  have HX := Lib.hid hX
  have HoW := Lib.hid h.oW
  obtain ⟨hI1, hI1'⟩ := hI
  obtain ⟨hI3, hI3'⟩ := hI2
  have hws : IntKind.i64.wrap ((words.length : Int) - y) = words.length - y := IntWalk.i64_in _ (by omega)
  have d1 : decide (y < 0) = false := decide_eq_false (by omega)
  have d2 : decide (x < 0) = false := decide_eq_false (by omega)
  have d3 : decide (y > (words.length : Int)) = false := decide_eq_false (by omega)
  have d4 : decide (x > (words.length : Int) - y) = true := decide_eq_true h4
  clear h hX hT hitoa hxs
  go_enter Tryd.func106, Tryd.ntmps106
  go_wp2_with fail
  refine Hitoa.out.mono ?_
  rintro e w1 ⟨rfl, kk, os, hw1⟩
  have s1 : Since (fun _ => False) w w1 := by rw [hw1]; exact ⟨rfl, rfl, rfl, by simp [Go.Sort.grow, World.drewN], fun k hk _ => by simp [Go.Sort.grow, World.drewN]; rw [Array.getElem?_append_left hk]⟩
  have S1 := Lib.hid s1
  have hX1 := (s1.cell (o := 0) hXl id).trans hX0
  clear hw1 s1
  have hY1 := (S1.out.cell (o := 1) hXl id).trans hX1'
  have hc2 := (S1.out.cell (o := 2) hbm id).trans c2
  have hz1w := S1.out.size
  have hbm1' := Nat.lt_of_lt_of_le hbm hz1w
  clear hX0 hX1' c2 c5
  go_wp2_with fail
  go_quiet (fail)
  go_wp2_with fail
  go_ret
  exact ⟨rfl, ρ, _, (H.out.since S1.out).since (Since.drewN _ _ _)⟩


end Go.Proofs.YtaomlfbcfmmhlaaDoor

/-
  ir's machine: a text is shown: the contract (printed by wip/gen_irshow.py).
-/
namespace Go.Proofs.YtaomlfbcfmmhlaaDoor
open Go.RowKit Go.Pst
set_option linter.unusedVariables false
set_option linter.unusedSimpArgs false

set_option maxRecDepth 100000 in
set_option maxHeartbeats 4000000 in
theorem irShow_text_pos [Old] (ρ : Nat → Option Lab) (w : World) (base bm : Nat) (v1 vW vL vF vX : Value) (bF oF cF : Nat) (p : PProg) (limit end_ : Int) (words : List Int) (lines : List ByteArray) (fr : List (Lev × LA)) (xs : List Int)
    (h : IrAt ρ w base bm v1 vW vL vF bF oF cF p limit end_ words lines fr) (hX : w.ownsRow base 3 1 vX xs.length (xs.map (Value.int .i64))) (hT : TabOK w) (x y : Int) (hxs : xs = [x, y]) (hl : lines.length < 2000) (hwl : words.length ≤ 20000) (hx : 0 ≤ x) (hy : 0 ≤ y) (hXY : x + y ≤ words.length) (hY : 0 < y) :
    Calls Tryd.prog 106 #[.pointer (some ⟨bm, 0, none⟩), .string sText, vX] w (ShowPost base bm v1 vW vF bF oF cF p limit end_ words fr (0, lines ++ [bytesF ((words.drop x.toNat).take y.toNat)])) := by
  obtain ⟨aL, cL, rfl, hL1, hL2⟩ := row_slice h.oL
  have c5 := h.c5
  have H := Lib.hid h
  have hbm := h.lm.2.2
  have hI : InI x := ⟨by omega, by omega⟩
  obtain ⟨i0, hi, hz0, hz1, hz2⟩ := info_parts info_str
  have hd : ((lines.length : Int) == 2000) = false := by simp; omega
  obtain ⟨gX, cX, rfl, -, -, hXl, hX0, -⟩ := row_get hX (i := 0) (u := .int .i64 x) (by simp [hxs])
  have hxl : xs.length = 2 := by rw [hxs]; rfl
  rw [hxl]
  have hitoa := fun hh => Tryd.strconv_Itoa x hI.1 hI.2 w hh
  have Hitoa := Lib.hid (hitoa hT.is_)
  have h0 : (0 : Int) < 2 := by decide
  have h01 : (1 : Int) < 2 := by decide
  have hX1' : w.cell? ⟨gX, 1, none⟩ = some (.int .i64 y) := by
    obtain ⟨_, _, hv3, -, -, -, hc3, -⟩ := row_get hX (i := 1) (u := .int .i64 y) (by simp [hxs])
    obtain ⟨rfl, -⟩ : gX = _ ∧ _ := by simpa using hv3
    exact hc3
  obtain ⟨aW, cW, rfl, hW1, hW2⟩ := row_slice h.oW
  unfold maxLen at hW2
  have c2 := h.c2
  have HX := Lib.hid hX
  have HoW := Lib.hid h.oW
  have d1 : decide (y < 0) = false := decide_eq_false (by omega)
  have d2 : decide (x < 0) = false := decide_eq_false (by omega)
  have d3 : decide (y > (words.length : Int)) = false := decide_eq_false (by omega)
  have d4 : decide (x > (words.length : Int) - y) = false := decide_eq_false (by omega)
  have hws : IntKind.i64.wrap ((words.length : Int) - y) = words.length - y := IntWalk.i64_in _ (by omega)
  clear h hX hT hitoa hxs
  go_enter Tryd.func106, Tryd.ntmps106
  go_wp2_with fail
  refine Hitoa.out.mono ?_
  rintro e w1 ⟨rfl, kk, os, hw1⟩
  have s1 : Since (fun _ => False) w w1 := by rw [hw1]; exact ⟨rfl, rfl, rfl, by simp [Go.Sort.grow, World.drewN], fun k hk _ => by simp [Go.Sort.grow, World.drewN]; rw [Array.getElem?_append_left hk]⟩
  have S1 := Lib.hid s1
  have hX1 := (s1.cell (o := 0) hXl id).trans hX0
  clear hw1 s1
  have hY1 := (S1.out.cell (o := 1) hXl id).trans hX1'
  have hc2 := (S1.out.cell (o := 2) hbm id).trans c2
  have hz1w := S1.out.size
  have hbm1' := Nat.lt_of_lt_of_le hbm hz1w
  clear hX0 hX1' c2 c5
  go_wp2_with fail
  go_quiet (fail)
  clear d1 d2 d3 d4 hws
  go_upto_region 11 with fail
  obtain ⟨X, rfl⟩ := Int.eq_ofNat_of_zero_le hx
  obtain ⟨Y, rfl⟩ := Int.eq_ofNat_of_zero_le hy
  have hb : X + Y ≤ words.length := by omega
  generalize hWW : (w1.drewN nq).alloc (.cells #[.pointer none, .slice none 0 0] 193) = W
  have sB : Since (fun _ => False) w1 W := by rw [← hWW]; exact (Since.drewN _ _ _).trans (Since.alloc _ _ _)
  have hbld : W.heap[w1.heap.size]? = some (.cells #[.pointer none, .slice none 0 0] 193) := by
    rw [← hWW]
    exact heap_alloc_new (w1.drewN nq) _
  have hWsz : W.heap.size = w1.heap.size + 1 := by rw [← hWW]; simp
  have sBb : Below w1.heap.size w1 W := by rw [← hWW]; exact (⟨rfl, rfl, rfl, Nat.le_refl _, fun _ _ => rfl⟩ : Below w1.heap.size w1 (w1.drewN nq)).alloc (Nat.le_refl _) _
  clear hWW
  have hXl1 := Nat.lt_of_lt_of_le hXl hz1w
  have gX0 := (sB.cell (o := 0) hXl1 id).trans hX1
  have gX1 := (sB.cell (o := 1) hXl1 id).trans hY1
  have gW2 := (sB.cell (o := 2) hbm1' id).trans hc2
  have hx0 : (0 : Int) ≤ X := by omega
  have hy0 : (0 : Int) ≤ Y := by omega
  have hxy : (X : Int) ≤ X + Y := by omega
  have hxyc : (X : Int) + Y ≤ cW := by omega
  have hws2 : IntKind.i64.wrap ((X : Int) + Y) = X + Y := IntWalk.i64_in _ (by omega)
  have htn : ((X : Int) + Y).toNat = X + Y := by omega
  have hsub : X + Y - X = Y := by omega
  have hcl : ¬ cW = X := by omega
  obtain ⟨gW, cW', hvW, -, -, hgWl, -, -⟩ := row_get HoW.out (i := X) (u := .int .i64 (words[X]'(by omega))) (by rw [List.getElem?_map, List.getElem?_eq_getElem (by omega)]; rfl)
  obtain rfl : aW = some ⟨gW, 0, none⟩ := (Value.slice.inj hvW).1
  clear hvW
  have SB := Lib.hid sBb
  have Hbld := Lib.hid hbld
  clear sB sBb hbld hX1 hY1 hc2
  go_quiet (fail)
  go_wp2_with fail
  have hIB : Lib.IsBuilder 193 5 w1.heap.size w1.heap.size (((words.drop X).take 0).map fun x => Value.int .u8 (x % 256)) (W.drewN nq) := Or.inl ⟨Nat.le_refl _, .slice none 0 0, Hbld.out, ⟨by simp, Or.inl ⟨rfl, by simp⟩⟩, by simp [Value.ownBlock]⟩
  have hBW : Below w1.heap.size w1 (W.drewN nq) := SB.out.trans ⟨rfl, rfl, rfl, Nat.le_refl _, fun _ _ => rfl⟩
  have HIB := Lib.hid hIB
  have HBW := Lib.hid hBW
  clear hIB hBW gX0 gX1 gW2 Hbld SB
  go_loopw [84] (fun s wr => ∃ n : Nat, n ≤ Y ∧ s = .int .i64 n ∧ Lib.IsBuilder 193 5 w1.heap.size w1.heap.size (((words.drop X).take n).map fun x => Value.int .u8 (x % 256)) wr ∧ Below w1.heap.size w1 wr) (fun s _ => Y - (intOf s).toNat)
  case atStart => exact ⟨0, Nat.zero_le _, rfl, HIB.out, HBW.out⟩
  case round =>
    obtain ⟨n, hn, rfl, hbd, hbw⟩ := hrel
    have hbig1 := hbw.size
    by_cases hlt : n < Y
    · have hlt1 : (n : Int) < Y := by omega
      have hn0 : (0 : Int) ≤ n := by omega
      obtain ⟨gW', cW'', hvW, -, -, -, hcw0, -⟩ := row_get HoW.out (i := X + n) (u := .int .i64 (words[X + n]'(by omega))) (by rw [List.getElem?_map, List.getElem?_eq_getElem (by omega)]; rfl)
      obtain ⟨rfl, -⟩ : gW = gW' ∧ _ := by simpa using hvW
      clear hvW
      have hcw : wr.cell? ⟨gW, X + n, none⟩ = some (.int .i64 (words[X + n]'(by omega))) := (hbw.cell (p := ⟨gW, X + n, none⟩) (by show gW < w1.heap.size; omega)).trans ((S1.out.cell hgWl id).trans hcw0)
      have hlen : (((words.drop X).take n).map fun x => Value.int .u8 (x % 256)).length + 1 ≤ 140737488355328 := by simp; omega
      have HN := Lib.hid (show (((words.drop X).take n).map fun x => Value.int .u8 (x % 256)) ++ [.int .u8 (words[X + n]'(by omega) % 256)] = ((words.drop X).take (n + 1)).map fun x => Value.int .u8 (x % 256) by
        rw [List.take_succ_eq_append_getElem (by simp; omega), List.getElem_drop, List.map_append]
        rfl)
      have HBD := Lib.hid hbd
      have HBW' := Lib.hid hbw
      have Hlen := Lib.hid hlen
      clear hbd hbw hcw0 hlen
      generalize words[X + n]'(by omega) = xw at *
      go_wp2_with fail
      refine (writeByte_any w1.heap.size w1.heap.size _ _ wr HBD.out Hlen.out hbig1).mono ?_
      rintro e w3 ⟨rfl, hb3, hw3⟩
      have HB3 := Lib.hid hb3
      have HW3 := Lib.hid hw3
      clear hb3 hw3
      go_wp2_with fail
      refine ⟨⟨n + 1, by omega, by simp, ?_, HBW'.out.trans HW3.out⟩, by simp only [intOf]; omega⟩
      rw [← HN.out]
      exact Or.inr HB3.out
    · have hne : n = Y := by omega
      subst hne
      have hlt1 : ¬ ((n : Int) < n) := by omega
      have hb8 : ((words.drop X).take n).map (fun x => Value.int .u8 (x % 256)) = Lib.byteCells (((words.drop X).take n).map byteF) := (byteF_cells _).symm
      rw [hb8] at hbd
      have HBD := Lib.hid hbd
      have HBW' := Lib.hid hbw
      clear hbd hbw hb8 hlt
      go_wp2_with fail
      refine (Tryd.Builder_String_any w1.heap.size w1.heap.size _ wr HBD.out hbig1).mono ?_
      rintro e w4 ⟨he, hb4⟩
      have hln : (⟨(((words.drop X).take n).map byteF).toArray⟩ : ByteArray) = bytesF ((words.drop X).take n) := rfl
      rw [hln] at he
      have Hhl := Lib.hid (decS_size 0 ⟨by decide, by decide⟩)
      generalize hln2 : bytesF ((words.drop X).take n) = ln at he
      have Hln := Lib.hid hln2
      clear hln hln2 Hhl
      subst he
      have s4 : Since (fun _ => False) w w4 := S1.out.trans (let hh := HBW'.out.trans hb4; ⟨hh.os, hh.tape, hh.output, hh.size, fun k hk _ => hh.block k hk⟩)
      have S4 := Lib.hid s4
      clear hb4 s4 HBD
      have hrun := H.out.since S4.out
      have c51 := hrun.c5
      have z51 := hrun.z 5
      have hown := hrun.oL
      have hbm1 := hrun.lm.2.2
      have hbig1 := hrun.big
      have nb : (Value.slice aL lines.length cL).ownBlock ≠ some bm := fun e => by have h1 := hrun.ll bm e; rw [hrun.lm.1] at h1; simp at h1
      have HR := Lib.hid hrun
      have Nb := Lib.hid nb
      clear hrun nb
      go_wp2_with (at_builtin; refine wpList_append_own_at _ rfl _ _ 39 rfl base 9 i0 (.string ByteArray.empty) 1 16 Tryd.underlying39 hi hz0 hz1 hz2 rfl (by decide) _ _ _ rfl (hown.alloc _) ⟨w4.heap.size, 0, none⟩ 1 1 [.string ln] rfl rfl (cell_one_new _ _ _) (by intro u hu; simp at hu; subst hu; rfl) (by unfold maxLen; omega) (by omega) (by simp; omega) ?_)
      intro v' w3 hown' hgrow _ hloc
      obtain ⟨gg, cg, rfl⟩ : ∃ gg cg, v' = .slice (some ⟨gg, 0, none⟩) (lines.length + 1) cg := by
        rcases hown'.2 with ⟨_, h⟩ | ⟨gg, cap', _, h, _⟩
        · omega
        · exact ⟨gg, cap', h⟩
      have sg : Since (fun k => (Value.slice aL lines.length cL).ownBlock = some k) w4 w3 := (Since.alloc _ _ _).trans (Since.grown hgrow)
      have c53 := (sg.cell (o := 5) hbm1 Nb.out).trans c51
      have z53 := (sg.frozen (o := 5) hbm1 Nb.out).trans z51
      obtain ⟨ρ', hq⟩ := HR.out.turn (lines' := lines ++ [ln]) sg 5 (Or.inr rfl) (.slice (some ⟨gg, 0, none⟩) (lines.length + 1) cg) (fun k e => Or.inr ⟨rfl, e⟩) (fun _ => ⟨rfl, rfl⟩) (fun e => absurd rfl e) (fun e => absurd e (by decide)) (fun _ => rfl) (fun e => absurd e (by decide)) (fun _ => by simpa using hown') (fun e => absurd e (by decide))
        (fun _ k hk => by
          rcases hloc with e | e
          · rw [e] at hk; exact Or.inl hk
          · rw [e] at hk
            have : w4.heap.size + 1 = k := by simpa using hk
            exact Or.inr (by omega))
      have HQ := Lib.hid hq
      clear hq hown' hgrow hloc sg hown c51 z51
      go_wp2_with fail
      go_ret
      refine ⟨rfl, ρ', .slice (some ⟨gg, 0, none⟩) (lines.length + 1) cg, ?_⟩
      simp only [Int.toNat_natCast]
      rw [Hln.out]
      exact HQ.out

set_option maxRecDepth 100000 in
set_option maxHeartbeats 4000000 in
theorem irShow_text_zero [Old] (ρ : Nat → Option Lab) (w : World) (base bm : Nat) (v1 vW vL vF vX : Value) (bF oF cF : Nat) (p : PProg) (limit end_ : Int) (words : List Int) (lines : List ByteArray) (fr : List (Lev × LA)) (xs : List Int)
    (h : IrAt ρ w base bm v1 vW vL vF bF oF cF p limit end_ words lines fr) (hX : w.ownsRow base 3 1 vX xs.length (xs.map (Value.int .i64))) (hT : TabOK w) (x y : Int) (hxs : xs = [x, y]) (hl : lines.length < 2000) (hwl : words.length ≤ 20000) (hx : 0 ≤ x) (hy : 0 ≤ y) (hXY : x + y ≤ words.length) (hY : y = 0) :
    Calls Tryd.prog 106 #[.pointer (some ⟨bm, 0, none⟩), .string sText, vX] w (ShowPost base bm v1 vW vF bF oF cF p limit end_ words fr (0, lines ++ [bytesF ((words.drop x.toNat).take y.toNat)])) := by
  obtain ⟨aL, cL, rfl, hL1, hL2⟩ := row_slice h.oL
  have c5 := h.c5
  have H := Lib.hid h
  have hbm := h.lm.2.2
  have hI : InI x := ⟨by omega, by omega⟩
  obtain ⟨i0, hi, hz0, hz1, hz2⟩ := info_parts info_str
  have hd : ((lines.length : Int) == 2000) = false := by simp; omega
  obtain ⟨gX, cX, rfl, -, -, hXl, hX0, -⟩ := row_get hX (i := 0) (u := .int .i64 x) (by simp [hxs])
  have hxl : xs.length = 2 := by rw [hxs]; rfl
  rw [hxl]
  have hitoa := fun hh => Tryd.strconv_Itoa x hI.1 hI.2 w hh
  have Hitoa := Lib.hid (hitoa hT.is_)
  have h0 : (0 : Int) < 2 := by decide
  have h01 : (1 : Int) < 2 := by decide
  have hX1' : w.cell? ⟨gX, 1, none⟩ = some (.int .i64 y) := by
    obtain ⟨_, _, hv3, -, -, -, hc3, -⟩ := row_get hX (i := 1) (u := .int .i64 y) (by simp [hxs])
    obtain ⟨rfl, -⟩ : gX = _ ∧ _ := by simpa using hv3
    exact hc3
  obtain ⟨aW, cW, rfl, hW1, hW2⟩ := row_slice h.oW
  unfold maxLen at hW2
  have c2 := h.c2
  have HX := Lib.hid hX
  have HoW := Lib.hid h.oW
  have d1 : decide (y < 0) = false := decide_eq_false (by omega)
  have d2 : decide (x < 0) = false := decide_eq_false (by omega)
  have d3 : decide (y > (words.length : Int)) = false := decide_eq_false (by omega)
  have d4 : decide (x > (words.length : Int) - y) = false := decide_eq_false (by omega)
  have hws : IntKind.i64.wrap ((words.length : Int) - y) = words.length - y := IntWalk.i64_in _ (by omega)
  have HY := Lib.hid hY
  clear hY
  clear h hX hT hitoa hxs
  go_enter Tryd.func106, Tryd.ntmps106
  go_wp2_with fail
  refine Hitoa.out.mono ?_
  rintro e w1 ⟨rfl, kk, os, hw1⟩
  have s1 : Since (fun _ => False) w w1 := by rw [hw1]; exact ⟨rfl, rfl, rfl, by simp [Go.Sort.grow, World.drewN], fun k hk _ => by simp [Go.Sort.grow, World.drewN]; rw [Array.getElem?_append_left hk]⟩
  have S1 := Lib.hid s1
  have hX1 := (s1.cell (o := 0) hXl id).trans hX0
  clear hw1 s1
  have hY1 := (S1.out.cell (o := 1) hXl id).trans hX1'
  have hc2 := (S1.out.cell (o := 2) hbm id).trans c2
  have hz1w := S1.out.size
  have hbm1' := Nat.lt_of_lt_of_le hbm hz1w
  clear hX0 hX1' c2 c5
  go_wp2_with fail
  go_quiet (fail)
  clear d1 d2 d3 d4 hws
  go_upto_region 11 with fail
  obtain ⟨X, rfl⟩ := Int.eq_ofNat_of_zero_le hx
  obtain ⟨Y, rfl⟩ := Int.eq_ofNat_of_zero_le hy
  have hb : X + Y ≤ words.length := by omega
  generalize hWW : (w1.drewN nq).alloc (.cells #[.pointer none, .slice none 0 0] 193) = W
  have sB : Since (fun _ => False) w1 W := by rw [← hWW]; exact (Since.drewN _ _ _).trans (Since.alloc _ _ _)
  have hbld : W.heap[w1.heap.size]? = some (.cells #[.pointer none, .slice none 0 0] 193) := by
    rw [← hWW]
    exact heap_alloc_new (w1.drewN nq) _
  have hWsz : W.heap.size = w1.heap.size + 1 := by rw [← hWW]; simp
  have sBb : Below w1.heap.size w1 W := by rw [← hWW]; exact (⟨rfl, rfl, rfl, Nat.le_refl _, fun _ _ => rfl⟩ : Below w1.heap.size w1 (w1.drewN nq)).alloc (Nat.le_refl _) _
  clear hWW
  have hXl1 := Nat.lt_of_lt_of_le hXl hz1w
  have gX0 := (sB.cell (o := 0) hXl1 id).trans hX1
  have gX1 := (sB.cell (o := 1) hXl1 id).trans hY1
  have gW2 := (sB.cell (o := 2) hbm1' id).trans hc2
  have hx0 : (0 : Int) ≤ X := by omega
  have hy0 : (0 : Int) ≤ Y := by omega
  have hxy : (X : Int) ≤ X + Y := by omega
  have hxyc : (X : Int) + Y ≤ cW := by omega
  have hws2 : IntKind.i64.wrap ((X : Int) + Y) = X + Y := IntWalk.i64_in _ (by omega)
  have htn : ((X : Int) + Y).toNat = X + Y := by omega
  have hsub : X + Y - X = Y := by omega
  by_cases hcl : cW = X
  · have hY2 : Y = 0 := by have := HY.out; omega
    have HY2 := Lib.hid hY2
    clear hY2
    have SB := Lib.hid sBb
    have Hbld := Lib.hid hbld
    clear sB sBb hbld hX1 hY1 hc2
    go_quiet (fail)
    go_wp2_with fail
    have hIB : Lib.IsBuilder 193 5 w1.heap.size w1.heap.size (((words.drop X).take 0).map fun x => Value.int .u8 (x % 256)) (W.drewN nq) := Or.inl ⟨Nat.le_refl _, .slice none 0 0, Hbld.out, ⟨by simp, Or.inl ⟨rfl, by simp⟩⟩, by simp [Value.ownBlock]⟩
    have hBW : Below w1.heap.size w1 (W.drewN nq) := SB.out.trans ⟨rfl, rfl, rfl, Nat.le_refl _, fun _ _ => rfl⟩
    have HIB := Lib.hid hIB
    have HBW := Lib.hid hBW
    clear hIB hBW gX0 gX1 gW2 Hbld SB
    go_loopw [84] (fun s wr => ∃ n : Nat, n ≤ Y ∧ s = .int .i64 n ∧ Lib.IsBuilder 193 5 w1.heap.size w1.heap.size (((words.drop X).take n).map fun x => Value.int .u8 (x % 256)) wr ∧ Below w1.heap.size w1 wr) (fun s _ => Y - (intOf s).toNat)
    case atStart => exact ⟨0, Nat.zero_le _, rfl, HIB.out, HBW.out⟩
    case round =>
      obtain ⟨n, hn, rfl, hbd, hbw⟩ := hrel
      have hbig1 := hbw.size
      by_cases hlt : n < Y
      · have hlt1 : (n : Int) < Y := by omega
        have hn0 : (0 : Int) ≤ n := by omega
        exact absurd hlt (by have := HY2.out; omega)
      · have hne : n = Y := by omega
        subst hne
        have hlt1 : ¬ ((n : Int) < n) := by omega
        have hb8 : ((words.drop X).take n).map (fun x => Value.int .u8 (x % 256)) = Lib.byteCells (((words.drop X).take n).map byteF) := (byteF_cells _).symm
        rw [hb8] at hbd
        have HBD := Lib.hid hbd
        have HBW' := Lib.hid hbw
        clear hbd hbw hb8 hlt
        go_wp2_with fail
        refine (Tryd.Builder_String_any w1.heap.size w1.heap.size _ wr HBD.out hbig1).mono ?_
        rintro e w4 ⟨he, hb4⟩
        have hln : (⟨(((words.drop X).take n).map byteF).toArray⟩ : ByteArray) = bytesF ((words.drop X).take n) := rfl
        rw [hln] at he
        have Hhl := Lib.hid (decS_size 0 ⟨by decide, by decide⟩)
        generalize hln2 : bytesF ((words.drop X).take n) = ln at he
        have Hln := Lib.hid hln2
        clear hln hln2 Hhl
        subst he
        have s4 : Since (fun _ => False) w w4 := S1.out.trans (let hh := HBW'.out.trans hb4; ⟨hh.os, hh.tape, hh.output, hh.size, fun k hk _ => hh.block k hk⟩)
        have S4 := Lib.hid s4
        clear hb4 s4 HBD
        have hrun := H.out.since S4.out
        have c51 := hrun.c5
        have z51 := hrun.z 5
        have hown := hrun.oL
        have hbm1 := hrun.lm.2.2
        have hbig1 := hrun.big
        have nb : (Value.slice aL lines.length cL).ownBlock ≠ some bm := fun e => by have h1 := hrun.ll bm e; rw [hrun.lm.1] at h1; simp at h1
        have HR := Lib.hid hrun
        have Nb := Lib.hid nb
        clear hrun nb
        go_wp2_with (at_builtin; refine wpList_append_own_at _ rfl _ _ 39 rfl base 9 i0 (.string ByteArray.empty) 1 16 Tryd.underlying39 hi hz0 hz1 hz2 rfl (by decide) _ _ _ rfl (hown.alloc _) ⟨w4.heap.size, 0, none⟩ 1 1 [.string ln] rfl rfl (cell_one_new _ _ _) (by intro u hu; simp at hu; subst hu; rfl) (by unfold maxLen; omega) (by omega) (by simp; omega) ?_)
        intro v' w3 hown' hgrow _ hloc
        obtain ⟨gg, cg, rfl⟩ : ∃ gg cg, v' = .slice (some ⟨gg, 0, none⟩) (lines.length + 1) cg := by
          rcases hown'.2 with ⟨_, h⟩ | ⟨gg, cap', _, h, _⟩
          · omega
          · exact ⟨gg, cap', h⟩
        have sg : Since (fun k => (Value.slice aL lines.length cL).ownBlock = some k) w4 w3 := (Since.alloc _ _ _).trans (Since.grown hgrow)
        have c53 := (sg.cell (o := 5) hbm1 Nb.out).trans c51
        have z53 := (sg.frozen (o := 5) hbm1 Nb.out).trans z51
        obtain ⟨ρ', hq⟩ := HR.out.turn (lines' := lines ++ [ln]) sg 5 (Or.inr rfl) (.slice (some ⟨gg, 0, none⟩) (lines.length + 1) cg) (fun k e => Or.inr ⟨rfl, e⟩) (fun _ => ⟨rfl, rfl⟩) (fun e => absurd rfl e) (fun e => absurd e (by decide)) (fun _ => rfl) (fun e => absurd e (by decide)) (fun _ => by simpa using hown') (fun e => absurd e (by decide))
          (fun _ k hk => by
            rcases hloc with e | e
            · rw [e] at hk; exact Or.inl hk
            · rw [e] at hk
              have : w4.heap.size + 1 = k := by simpa using hk
              exact Or.inr (by omega))
        have HQ := Lib.hid hq
        clear hq hown' hgrow hloc sg hown c51 z51
        go_wp2_with fail
        go_ret
        refine ⟨rfl, ρ', .slice (some ⟨gg, 0, none⟩) (lines.length + 1) cg, ?_⟩
        simp only [Int.toNat_natCast]
        rw [Hln.out]
        exact HQ.out
  · have hY2 : Y = 0 := by have := HY.out; omega
    have HY2 := Lib.hid hY2
    clear hY2
    have SB := Lib.hid sBb
    have Hbld := Lib.hid hbld
    clear sB sBb hbld hX1 hY1 hc2
    go_quiet (fail)
    go_wp2_with fail
    have hIB : Lib.IsBuilder 193 5 w1.heap.size w1.heap.size (((words.drop X).take 0).map fun x => Value.int .u8 (x % 256)) (W.drewN nq) := Or.inl ⟨Nat.le_refl _, .slice none 0 0, Hbld.out, ⟨by simp, Or.inl ⟨rfl, by simp⟩⟩, by simp [Value.ownBlock]⟩
    have hBW : Below w1.heap.size w1 (W.drewN nq) := SB.out.trans ⟨rfl, rfl, rfl, Nat.le_refl _, fun _ _ => rfl⟩
    have HIB := Lib.hid hIB
    have HBW := Lib.hid hBW
    clear hIB hBW gX0 gX1 gW2 Hbld SB
    go_loopw [84] (fun s wr => ∃ n : Nat, n ≤ Y ∧ s = .int .i64 n ∧ Lib.IsBuilder 193 5 w1.heap.size w1.heap.size (((words.drop X).take n).map fun x => Value.int .u8 (x % 256)) wr ∧ Below w1.heap.size w1 wr) (fun s _ => Y - (intOf s).toNat)
    case atStart => exact ⟨0, Nat.zero_le _, rfl, HIB.out, HBW.out⟩
    case round =>
      obtain ⟨n, hn, rfl, hbd, hbw⟩ := hrel
      have hbig1 := hbw.size
      by_cases hlt : n < Y
      · have hlt1 : (n : Int) < Y := by omega
        have hn0 : (0 : Int) ≤ n := by omega
        exact absurd hlt (by have := HY2.out; omega)
      · have hne : n = Y := by omega
        subst hne
        have hlt1 : ¬ ((n : Int) < n) := by omega
        have hb8 : ((words.drop X).take n).map (fun x => Value.int .u8 (x % 256)) = Lib.byteCells (((words.drop X).take n).map byteF) := (byteF_cells _).symm
        rw [hb8] at hbd
        have HBD := Lib.hid hbd
        have HBW' := Lib.hid hbw
        clear hbd hbw hb8 hlt
        go_wp2_with fail
        refine (Tryd.Builder_String_any w1.heap.size w1.heap.size _ wr HBD.out hbig1).mono ?_
        rintro e w4 ⟨he, hb4⟩
        have hln : (⟨(((words.drop X).take n).map byteF).toArray⟩ : ByteArray) = bytesF ((words.drop X).take n) := rfl
        rw [hln] at he
        have Hhl := Lib.hid (decS_size 0 ⟨by decide, by decide⟩)
        generalize hln2 : bytesF ((words.drop X).take n) = ln at he
        have Hln := Lib.hid hln2
        clear hln hln2 Hhl
        subst he
        have s4 : Since (fun _ => False) w w4 := S1.out.trans (let hh := HBW'.out.trans hb4; ⟨hh.os, hh.tape, hh.output, hh.size, fun k hk _ => hh.block k hk⟩)
        have S4 := Lib.hid s4
        clear hb4 s4 HBD
        have hrun := H.out.since S4.out
        have c51 := hrun.c5
        have z51 := hrun.z 5
        have hown := hrun.oL
        have hbm1 := hrun.lm.2.2
        have hbig1 := hrun.big
        have nb : (Value.slice aL lines.length cL).ownBlock ≠ some bm := fun e => by have h1 := hrun.ll bm e; rw [hrun.lm.1] at h1; simp at h1
        have HR := Lib.hid hrun
        have Nb := Lib.hid nb
        clear hrun nb
        go_wp2_with (at_builtin; refine wpList_append_own_at _ rfl _ _ 39 rfl base 9 i0 (.string ByteArray.empty) 1 16 Tryd.underlying39 hi hz0 hz1 hz2 rfl (by decide) _ _ _ rfl (hown.alloc _) ⟨w4.heap.size, 0, none⟩ 1 1 [.string ln] rfl rfl (cell_one_new _ _ _) (by intro u hu; simp at hu; subst hu; rfl) (by unfold maxLen; omega) (by omega) (by simp; omega) ?_)
        intro v' w3 hown' hgrow _ hloc
        obtain ⟨gg, cg, rfl⟩ : ∃ gg cg, v' = .slice (some ⟨gg, 0, none⟩) (lines.length + 1) cg := by
          rcases hown'.2 with ⟨_, h⟩ | ⟨gg, cap', _, h, _⟩
          · omega
          · exact ⟨gg, cap', h⟩
        have sg : Since (fun k => (Value.slice aL lines.length cL).ownBlock = some k) w4 w3 := (Since.alloc _ _ _).trans (Since.grown hgrow)
        have c53 := (sg.cell (o := 5) hbm1 Nb.out).trans c51
        have z53 := (sg.frozen (o := 5) hbm1 Nb.out).trans z51
        obtain ⟨ρ', hq⟩ := HR.out.turn (lines' := lines ++ [ln]) sg 5 (Or.inr rfl) (.slice (some ⟨gg, 0, none⟩) (lines.length + 1) cg) (fun k e => Or.inr ⟨rfl, e⟩) (fun _ => ⟨rfl, rfl⟩) (fun e => absurd rfl e) (fun e => absurd e (by decide)) (fun _ => rfl) (fun e => absurd e (by decide)) (fun _ => by simpa using hown') (fun e => absurd e (by decide))
          (fun _ k hk => by
            rcases hloc with e | e
            · rw [e] at hk; exact Or.inl hk
            · rw [e] at hk
              have : w4.heap.size + 1 = k := by simpa using hk
              exact Or.inr (by omega))
        have HQ := Lib.hid hq
        clear hq hown' hgrow hloc sg hown c51 z51
        go_wp2_with fail
        go_ret
        refine ⟨rfl, ρ', .slice (some ⟨gg, 0, none⟩) (lines.length + 1) cg, ?_⟩
        simp only [Int.toNat_natCast]
        rw [Hln.out]
        exact HQ.out

end Go.Proofs.YtaomlfbcfmmhlaaDoor

/-
  ir's machine: back to the caller: the contract.
-/
namespace Go.Proofs.YtaomlfbcfmmhlaaDoor
open Go.RowKit Go.Pst
set_option linter.unusedVariables false
set_option linter.unusedSimpArgs false

theorem IrAt.pop [Old] {ρ : Nat → Option Lab} {w : World} {base bm : Nat} {v1 vW vL : Value} {bF oF cF : Nat} {p : PProg} {limit end_ : Int} {words : List Int} {lines : List ByteArray} {f : Lev} {a : LA} {r : List (Lev × LA)} {g cap : Nat}
    (h : IrAt ρ w base bm v1 vW vL (.slice (some ⟨g, 0, none⟩) (r.length + 1) cap) bF oF cF p limit end_ words lines ((f, a) :: r)) :
    IrAt ρ (w.setCell ⟨bm, 4, none⟩ (.slice (some ⟨g, 0, none⟩) r.length cap)) base bm v1 vW vL (.slice (some ⟨g, 0, none⟩) r.length cap) bF oF cF p limit end_ words lines r := by
  have hr := row_short (m := r.length) h.rF (by simp)
  have e : (irRow ((f, a) :: r)).take (r.length * 1) = irRow r := by
    show (irRow r ++ _).take (r.length * 1) = irRow r
    rw [Nat.mul_one, ← irRow_length, List.take_left']
    rfl
  rw [e] at hr
  exact h.setM 4 _ (by decide) (by simp) (by simp) (by simp) (by simp) (by simp) (by simp) (by simp) (by simp) (by decide) (by decide) h.lw h.ll h.lc h.oW h.oL hr h.levs.2

def putBack (r : List (Lev × LA)) (want xs : List Int) : List (Lev × LA) :=
  match r with
  | [] => []
  | (g, b) :: r' => ({ g with vars := putAll g.vars want xs }, b) :: r'
def BackPost [Old] (base bm : Nat) (v1 vW vL : Value) (bF oF cF : Nat) (p : PProg) (limit end_ : Int) (words : List Int) (lines : List ByteArray) (fr : List (Lev × LA)) (c : Int) (e : Ending) (w' : World) : Prop :=
  e = .returned (.int .i64 c) ∧ ∃ ρ vF, IrAt ρ w' base bm v1 vW vL vF bF oF cF p limit end_ words lines fr

set_option maxRecDepth 100000 in
set_option maxHeartbeats 4000000 in
theorem irBack0 [Old] (ρ : Nat → Option Lab) (w : World) (base bm : Nat) (v1 vW vL vF vX : Value) (bF oF cF : Nat) (p : PProg) (limit end_ : Int) (words : List Int) (lines : List ByteArray) (f : Lev) (a : LA)
    (h : IrAt ρ w base bm v1 vW vL vF bF oF cF p limit end_ words lines [(f, a)]) :
    Calls Tryd.prog 108 #[.pointer (some ⟨bm, 0, none⟩), vX] w (BackPost base bm v1 vW vL bF oF cF p limit end_ words lines [] 1) := by
  obtain ⟨g, cap, rfl, hcap, hg1, hg2, hp, hpz⟩ := h.top
  have c4 := h.c4
  have z4 := h.z 4
  have hcap1 : (1 : Nat) ≤ cap := by simpa using hcap
  simp only [List.length_nil, Nat.zero_add] at c4 hp hcap
  have H := Lib.hid h
  clear h hpz hcap
  have hw0 : IntKind.i64.wrap (1 - 1) = 0 := by decide
  have hw1 : IntKind.i64.wrap 0 = 0 := by decide
  go_enter Tryd.func108, Tryd.ntmps108
  go_wp2_with fail
  go_quiet (fail)
  go_wp2_with fail
  go_region
  all_goals go_wp2_with fail
  go_ret
  exact ⟨rfl, ρ, _, (H.out.since (Since.drewN _ w (nq + 1))).pop⟩

set_option maxRecDepth 100000 in
set_option maxHeartbeats 4000000 in
theorem irBack1 [Old] (ρ : Nat → Option Lab) (w : World) (base bm : Nat) (v1 vW vL vF vX : Value) (bF oF cF : Nat) (p : PProg) (limit end_ : Int) (words : List Int) (lines : List ByteArray) (f f1 : Lev) (a a1 : LA) (r : List (Lev × LA)) (xs : List Int)
    (h : IrAt ρ w base bm v1 vW vL vF bF oF cF p limit end_ words lines ((f, a) :: (f1, a1) :: r)) (hrow : w.ownsRow base 3 1 vX xs.length (xs.map (Value.int .i64))) (hnx : ∀ k, vX.ownBlock = some k → ρ k = none)
    (hwl : f.want.length = xs.length) (hwl2 : xs.length ≤ 40000) (hlen : r.length ≤ 100000) (hwi : Ins f.want f1.vars.length) :
    Calls Tryd.prog 108 #[.pointer (some ⟨bm, 0, none⟩), vX] w (BackPost base bm v1 vW vL bF oF cF p limit end_ words lines (({ f1 with vars := putAll f1.vars f.want xs }, a1) :: r) 0) := by
  obtain ⟨g, cap, rfl, hcap, hg1, hg2, hp, hpz⟩ := h.top
  have c4 := h.c4
  have z4 := h.z 4
  have hcap1 : r.length + 1 + 1 ≤ cap := by simpa using hcap
  obtain ⟨aW, cW, hvw, hW⟩ : ∃ aW cW, a.vw = .slice aW f.want.length cW ∧ ∀ j (hj : j < f.want.length), ∃ b o, aW = some ⟨b, o, none⟩ ∧ b < base ∧ b < w.heap.size ∧ w.cell? ⟨b, o + j, none⟩ = some (.int .i64 f.want[j]) := by
    obtain ⟨aW, cW, hv, -, -, hh⟩ := rInts_val h.levs.1.want
    refine ⟨aW, cW, hv, fun j hj => ?_⟩
    obtain ⟨b, o, h1, h2, h3, h4, -⟩ := hh j hj
    exact ⟨b, o, h1, h2, h3, h4⟩
  have q4 : w.cell? ⟨a.gs, 4, none⟩ = some (.slice aW f.want.length cW) := by have := (h.get (j := 4) rfl).1; rw [hvw] at this; exact this
  simp only [List.length_cons] at c4 hp hcap
  obtain ⟨aX, cX, rfl, hX1, hX2⟩ := row_slice hrow
  have hgl := (h.get (j := 4) rfl).2.2
  have nbg : ¬ a.gs = bm := fun e => by have h1 := h.levs.1.lt; rw [e, h.lm.1] at h1; simp at h1
  have H := Lib.hid h
  have Hrow := Lib.hid hrow
  have Hnx := Lib.hid hnx
  have HW := Lib.hid hW
  have Hwl := Lib.hid hwl
  have Hwi := Lib.hid hwi
  have hbig := h.big
  rw [hwl] at q4
  clear h hpz hcap hrow hnx hW hwl hwi hvw
  have hw0 : IntKind.i64.wrap (((r.length + 1 + 1 : Nat) : Int) - 1) = ((r.length + 1 : Nat) : Int) := by rw [show (((r.length + 1 + 1 : Nat) : Int) - 1) = ((r.length + 1 : Nat) : Int) by omega]; exact IntWalk.i64_in _ (by omega)
  have hw1 : IntKind.i64.wrap ((r.length : Int) + 1 + 1 - 1) = (r.length : Int) + 1 := by rw [show ((r.length : Int) + 1 + 1 - 1) = (r.length : Int) + 1 by omega]; exact IntWalk.i64_in _ (by omega)
  have hw2 : IntKind.i64.wrap ((r.length : Int) + 1) = (r.length : Int) + 1 := IntWalk.i64_in _ (by omega)
  have hw3 : IntKind.i64.wrap ((r.length : Int) + 1 - 1) = (r.length : Int) := by rw [show ((r.length : Int) + 1 - 1) = (r.length : Int) by omega]; exact IntWalk.i64_in _ (by omega)
  have hw4 : IntKind.i64.wrap (r.length : Int) = (r.length : Int) := IntWalk.i64_in _ (by omega)
  have hn0 : (0 : Int) ≤ r.length := by omega
  go_enter Tryd.func108, Tryd.ntmps108
  go_wp2_with fail
  go_quiet (fail)
  go_wp2_with fail
  go_region
  all_goals go_wp2_with fail
  have hq := (H.out.since (Since.drewN _ w (nq + 1))).pop
  have hsW := (Since.drewN (fun k => k = bm) w (nq + 1)).trans (Since.setCell (w.drewN (nq + 1)) ⟨bm, 4, none⟩ (.slice (some ⟨g, 0, none⟩) (r.length + 1) cap))
  have hq4 := (hsW.cell (o := 4) hgl nbg).trans q4
  generalize (w.drewN (nq + 1)).setCell ⟨bm, 4, none⟩ (.slice (some ⟨g, 0, none⟩) (r.length + 1) cap) = W at *
  obtain ⟨g', cap', hv', -, -, -, hp2, -⟩ := hq.top
  obtain ⟨rfl, -⟩ : g = g' ∧ _ := by simpa using hv'
  have c4' := hq.c4
  have e1 : W.cell? ⟨a1.gs, 1, none⟩ = some (.slice (some ⟨a1.gv, 0, none⟩) f1.vars.length f1.vars.length) := (hq.get (j := 1) rfl).1
  have HQ2 := Lib.hid hq
  have HsW := Lib.hid hsW
  clear hq hsW hv' q4 hp c4 z4
  simp only [List.length_cons] at c4'
  go_quiet (fail)
  go_wp2_with fail
  have hIr := HQ2.out.since (Since.drewN _ W nq)
  have hsI := Since.drewN (fun k => k = a1.gv) W nq
  have HI := Lib.hid hIr
  have HSI := Lib.hid hsI
  clear hIr hsI hp2 c4' e1 hq4 hw0 hw1 hw2 hw3 hw4
  go_loopw [58] (fun s wr => ∃ n : Nat, n ≤ xs.length ∧ s = .int .i64 n ∧ Since (fun k => k = a1.gv) W wr ∧ IrAt ρ wr base bm v1 vW vL (.slice (some ⟨g, 0, none⟩) (r.length + 1) cap) bF oF cF p limit end_ words lines (({ f1 with vars := putAll f1.vars (f.want.take n) (xs.take n) }, a1) :: r)) (fun s _ => xs.length - (intOf s).toNat)
  case atStart => exact ⟨0, Nat.zero_le _, rfl, HSI.out, HI.out⟩
  case round =>
    obtain ⟨n, hn, rfl, hs1, hR⟩ := hrel
    by_cases hlt : n < xs.length
    · have hlt1 : (n : Int) < xs.length := by omega
      have hn0 : (0 : Int) ≤ n := by omega
      have hltW : n < f.want.length := by rw [Hwl.out]; exact hlt
      obtain ⟨bW, oW, rfl, hbW, hbWl, hcW0⟩ := HW.out n hltW
      have hin := Hwi.out _ (List.getElem_mem hltW)
      obtain ⟨d, hd⟩ := Int.eq_ofNat_of_zero_le hin.1
      have hdl : d < f1.vars.length := by omega
      have hdl1 : (d : Int) < f1.vars.length := by omega
      have hd0 : (0 : Int) ≤ d := by omega
      have hgb : base ≤ a1.gv := (hR.levs.1.vars.lt _ rfl).1
      have hbmb := H.out.lm.2.1
      have hWs := HsW.out.size
      rw [hd] at hcW0
      have hcW : wr.cell? ⟨bW, oW + n, none⟩ = some (.int .i64 d) := (hs1.cell (Nat.lt_of_lt_of_le hbWl hWs) (by omega)).trans ((HsW.out.cell hbWl (by omega)).trans hcW0)
      obtain ⟨gX, cX', hvX, hX3, -, hXl, hcX0, -⟩ := row_get Hrow.out (i := n) (u := .int .i64 xs[n]) (by simp [hlt])
      obtain rfl : aX = some ⟨gX, 0, none⟩ := (Value.slice.inj hvX).1
      have hXn := Hnx.out gX rfl
      have nX : ¬ gX = a1.gv := fun e => by have h1 := hXn; rw [e, hR.levs.1.lv] at h1; simp at h1
      have nXb : ¬ gX = bm := fun e => by have h1 := hXn; rw [e, hR.lm.1] at h1; simp at h1
      have hcX : wr.cell? ⟨gX, n, none⟩ = some (.int .i64 xs[n]) := (hs1.cell (Nat.lt_of_lt_of_le hXl hWs) nX).trans ((HsW.out.cell hXl nXb).trans hcX0)
      have hpl : (putAll f1.vars (f.want.take n) (xs.take n)).length = f1.vars.length := putAll_length _ _ _
      have e1 : wr.cell? ⟨a1.gs, 1, none⟩ = some (.slice (some ⟨a1.gv, 0, none⟩) f1.vars.length f1.vars.length) := by
        have := (hR.get (j := 1) rfl).1
        simp only [hpl] at this
        exact this
      have nG : ¬ a1.gs = a1.gv := fun e => by have h1 := hR.levs.1.lt; rw [e, hR.levs.1.lv] at h1; simp at h1
      obtain ⟨_, _, hvT, -, -, -, hcT, hzT⟩ := row_get hR.levs.1.vars (i := d) (u := .int .i64 ((putAll f1.vars (f.want.take n) (xs.take n))[d]'(by omega))) (by simp [hpl, hdl])
      obtain ⟨rfl, -⟩ : a1.gv = _ ∧ _ := by simpa using hvT
      have hk : ∀ b o u, ¬ b = a1.gv → (wr.setCell ⟨a1.gv, d, none⟩ u).cell? ⟨b, o, none⟩ = wr.cell? ⟨b, o, none⟩ := fun b o u hb => World.cell?_of_block (w := wr) (Below.heap_setCell _ _ _ _ hb)
      have k0 := fun u => (hk a1.gs 1 u nG).trans e1
      have k1 := fun u => (hk gX n u nX).trans hcX
      have HN := Lib.hid (show ({ f1 with vars := (putAll f1.vars (f.want.take n) (xs.take n)).set d xs[n] } : Lev) = { f1 with vars := putAll f1.vars (f.want.take (n + 1)) (xs.take (n + 1)) } by rw [putAll_snoc _ _ _ _ hltW hlt, hd]; rfl)
      have HR := Lib.hid (hR.setV d xs[n])
      have HS := Lib.hid hs1
      generalize (putAll f1.vars (f.want.take n) (xs.take n))[d] = old at *
      clear hR hs1 hk hvT hpl hXn hvX hcX0 hcW0 hin hd nX nXb nG
      generalize hxn : xs[n] = xn at *
      go_wp2_with fail
      go_region_held3 (fun w' => w'.cell? ⟨a1.gs, 1, none⟩ = some (.slice (some ⟨a1.gv, 0, none⟩) f1.vars.length f1.vars.length) ∧ w'.cell? ⟨gX, n, none⟩ = some (.int .i64 xn)) (go_keep) (fail)
      all_goals go_wp2_with fail
      refine ⟨⟨_, _, .int .i64 ((n + 1 : Nat) : Int), _, _, _, _, _, _, _, _, _, _, _, _, _, _, _, ⟨n + 1, by omega, rfl, ?_, ?_⟩, rfl⟩, ?_⟩
      · exact (HS.out.trans (Since.setCell wr ⟨a1.gv, d, none⟩ (.int .i64 xn))).trans (Since.drew _ _)
      · rw [← HN.out]
        exact HR.out.since (Since.drew _ _)
      · show xs.length - (intOf (.int .i64 ((n : Int) + 1))).toNat < xs.length - (intOf (.int .i64 (n : Int))).toNat
        simp only [intOf]
        omega
    · have hne : n = xs.length := by omega
      subst hne
      have hlt1 : ¬ ((xs.length : Int) < xs.length) := by omega
      have HR := Lib.hid hR
      have HE := Lib.hid (show putAll f1.vars (f.want.take xs.length) (xs.take xs.length) = putAll f1.vars f.want xs by rw [List.take_length, ← Hwl.out, List.take_length])
      clear hR hs1 hlt
      go_wp2_with fail
      go_ret
      refine ⟨rfl, ρ, .slice (some ⟨g, 0, none⟩) (r.length + 1) cap, ?_⟩
      rw [← HE.out]
      exact HR.out
end Go.Proofs.YtaomlfbcfmmhlaaDoor

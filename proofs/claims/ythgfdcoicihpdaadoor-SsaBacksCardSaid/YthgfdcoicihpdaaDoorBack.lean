/-
  ssa.Back, walked.
-/
import Derived.Test.YthgfdcoicihpdaaDoorBackW
import Derived.Test.YthgfdcoicihpdaaDoorCount
import Derived.Test.YthgfdcoicihpdaaDoorOnceCheck
import Derived.Deep.LoopGhost
namespace Go.Proofs.YthgfdcoicihpdaaDoor
open Go.RowKit Go.Pst
set_option linter.unusedVariables false
set_option linter.unusedSimpArgs false

theorem three_boxes (w : World) (a b c : Array Value) (T1 T2 T3 : TypeId) : ∃ W, ((w.alloc (.cells a T1)).alloc (.cells b T2)).alloc (.cells c T3) = W ∧ W.heap.size = w.heap.size + 3 ∧ Below w.heap.size w W ∧
    W.heap[w.heap.size]? = some (.cells a T1) ∧ W.heap[w.heap.size + 1]? = some (.cells b T2) ∧ W.heap[w.heap.size + 2]? = some (.cells c T3) := by
  refine ⟨_, rfl, by simp, ((((Below.refl _ _).alloc (Nat.le_refl _) _).alloc (by simp) _).alloc (by simp; omega) _), ?_, ?_, ?_⟩
  · rw [Below.heap_alloc _ _ _ (by simp; omega), Below.heap_alloc _ _ _ (by simp)]
    exact heap_alloc_new _ _
  · rw [Below.heap_alloc _ _ _ (by simp)]
    have h := heap_alloc_new (w.alloc (.cells a T1)) (.cells b T2)
    rw [World.size_alloc] at h
    exact h
  · have h := heap_alloc_new ((w.alloc (.cells a T1)).alloc (.cells b T2)) (.cells c T3)
    rw [World.size_alloc, World.size_alloc] at h
    exact h
theorem once_parts {fs : List PCode} {c : PCode} {ah ab : Nat → List Int} (h : onceF fs c ah ab = 0) : codeFaultF fs (plainF c) = 0 ∧ blocksPhis c (fun i => (ah i).length) 0 = 0 ∧ ∃ acc, placesF c = some acc := by
  unfold onceF at h
  split at h
  · omega
  rename_i h1
  split at h
  · omega
  rename_i h2
  refine ⟨by omega, by omega, ?_⟩
  split at h
  · cases h
  split at h
  · cases h
  · rename_i acc e
    exact ⟨_, e⟩
theorem sumLen_at : ∀ {l : List (List PInstr)} {q : Nat} (h : q < l.length), l[q].length ≤ sumLen l
  | [], q, h => absurd h (by simp)
  | x :: r, 0, _ => by simp [sumLen]
  | x :: r, q + 1, h => by
    have := sumLen_at (l := r) (q := q) (by simpa using h)
    simp only [List.getElem_cons_succ, sumLen]
    omega
theorem sumLen_drop_phi : ∀ (l : List (List PInstr)), sumLen l ≤ sumLen (l.map fun b => b.drop (phisN b)) + sumPhi l
  | [] => by simp [sumLen]
  | x :: r => by
    have := sumLen_drop_phi r
    simp only [List.map_cons, sumLen, sumPhi, List.length_drop]
    omega
theorem sumLen_small {fs : List PCode} {c : PCode} {A : Nat → Nat} (H : PhiOK fs c A) (hs : sumPhi c.blocks ≤ 3000) : sumLen c.blocks ≤ 9000 := by
  have h1 := sumLen_drop_phi c.blocks
  have h2 : sumLen (plainF c).blocks ≤ 6000 := H.sum
  have e : (plainF c).blocks = c.blocks.map fun b => b.drop (phisN b) := rfl
  rw [e] at h2
  omega
def BackPost (fs : List PCode) (c : PCode) (w : World) (e : Ending) (w' : World) : Prop := Below w.heap.size w w' ∧ ∃ cs' er, e = .returned (.tuple #[.agg cs', .int .i64 er]) ∧ ((onceF fs c (rowOf (aheadF c)) (rowOf (aboveF c)) ≠ 0 ∧ er = onceF fs c (rowOf (aheadF c)) (rowOf (aboveF c)) ∧ cs' = #[.string ⟨#[]⟩, .int .i64 0, .int .i64 0, .int .i64 0, .int .i64 0, .slice none 0 0]) ∨
  (onceF fs c (rowOf (aheadF c)) (rowOf (aboveF c)) = 0 ∧ er = 1 ∧ cs' = #[.string ⟨#[]⟩, .int .i64 0, .int .i64 0, .int .i64 0, .int .i64 0, .slice none 0 0] ∧ ¬ (c.blocks.length ≤ 20 ∧ c.vars ≤ 40 ∧ sumLen c.blocks ≤ 100)) ∨ (onceF fs c (rowOf (aheadF c)) (rowOf (aboveF c)) = 0 ∧ er = 0 ∧ ∃ x : PCode, rCode (fun _ => True) w' cs'.toList x ∧ codeFaultF fs x = 0 ∧ FitCode x))
set_option maxRecDepth 100000 in
set_option maxHeartbeats 8000000 in
theorem back_any (fs : List PCode) (D : List Int) (p0 p1 : Value) (c : PCode) (cs : List Value) (w : World) (hp : rCodes (fun _ => True) w [p0] fs) (hd : rInts (fun _ => True) w [p1] D) (hc : rCode (fun _ => True) w cs c) (hf : FitCode c) (hL : IrLaid w) :
    Calls Tryd.prog 4 #[.agg #[p0, p1], .agg cs.toArray] w (BackPost fs c w) := by
  have hc0 := hc
  obtain ⟨v5, rfl, hI, hbs⟩ := hc
  obtain ⟨a, cap, rfl, -, -, -⟩ := rSlice_one hbs
  have Hp := Lib.hid hp
  have Hd := Lib.hid hd
  have Hc := Lib.hid hc0
  have HL := Lib.hid hL
  have HI := Lib.hid hI
  clear hp hd hc0 hL hbs hI
  go_enter Tryd.func4, Tryd.ntmps4
  obtain ⟨w0, hw0, hsz, hbel, b0, b1, b2⟩ := three_boxes w #[p0, p1] #[.string c.name, .int .i64 c.params, .int .i64 c.results, .int .i64 c.vars, .int .i64 c.slots, .slice a c.blocks.length cap] #[.string ⟨#[]⟩, .int .i64 0, .int .i64 0, .int .i64 0, .int .i64 0, .slice none 0 0] 25 28 28
  go_upto_region 1 with fail
  try rw [hw0]
  rw [show w.heap.size + 1 + 1 = w.heap.size + 2 from rfl]
  have bp0 : w0.cell? ⟨w.heap.size, 0, none⟩ = some p0 := by simp [World.cell?, b0]
  have bp1 : w0.cell? ⟨w.heap.size, 1, none⟩ = some p1 := by simp [World.cell?, b0]
  obtain ⟨x0, x1, x2, x3, x4, x5, -, -⟩ := six_cells b1
  have hk0 := Keep.of_below' (S := fun _ => True) hbel (fun k hk _ => hk)
  have B1 := Lib.hid b1
  have B2 := Lib.hid b2
  have Hk0 := Lib.hid hk0
  clear hw0 b0 b1 b2 hk0
  go_wp2_with fail
  refine (check_any fs D p0 p1 c _ w0 (Good.kept Hk0.out Hp.out) (Good.kept Hk0.out Hd.out) (Good.kept Hk0.out Hc.out) hf (HL.out.below hbel)).mono ?_
  rintro e w1 ⟨rfl, hb1⟩
  have hb2 : Below w.heap.size w w1 := hbel.trans (hb1.mono (by omega))
  have hsz1 : w.heap.size + 3 ≤ w1.heap.size := by have := hb1.size; omega
  have hC1 : w1.heap[w.heap.size + 1]? = some (.cells #[.string c.name, .int .i64 c.params, .int .i64 c.results, .int .i64 c.vars, .int .i64 c.slots, .slice a c.blocks.length cap] 28) := (hb1.block _ (by omega)).trans B1.out
  have hR1 : w1.heap[w.heap.size + 2]? = some (.cells #[.string ⟨#[]⟩, .int .i64 0, .int .i64 0, .int .i64 0, .int .i64 0, .slice none 0 0] 28) := (hb1.block _ (by omega)).trans B2.out
  have hz := zeroCode
  clear bp0 bp1 x0 x1 x2 x3 x4 x5 B1 B2 Hk0 hb1 hbel hsz
  generalize hev : onceF fs c (rowOf (aheadF c)) (rowOf (aboveF c)) = ev at *
  by_cases he : ev = 0
  case neg =>
    have he2 : (ev != 0) = true := by simpa using he
    have He := Lib.hid he
    have Hev := Lib.hid hev
    obtain ⟨y0, y1, y2, y3, y4, y5, yz, yl⟩ := six_cells hR1
    obtain ⟨W, hW, hWb, hWs⟩ := six_set (.string ⟨#[]⟩) (.int .i64 0) (.int .i64 0) (.int .i64 0) (.int .i64 0) (.slice none 0 0) hR1
    have HE := Lib.hid (hb2.trans (hWs.below hb2.size (fun k hk => by have e : k = w.heap.size + 2 := hk; omega)))
    have HbW := Lib.hid hWb
    have HW := Lib.hid hW
    clear he hev hWb hW hWs hb2
    go_wp2_with fail
    rw [HW.out]
    obtain ⟨z0, z1, z2, z3, z4, z5, -, -⟩ := six_cells HbW.out
    exact bodyPost_ret (v := .tuple #[.agg #[.string ⟨#[]⟩, .int .i64 0, .int .i64 0, .int .i64 0, .int .i64 0, .slice none 0 0], .int .i64 ev]) (by simp [results, Tryd.results4, go_sem, z0, z1, z2, z3, z4, z5]) rfl ⟨HE.out, _, _, rfl, Or.inl ⟨by rw [Hev.out]; exact He.out, Hev.out.symm, rfl⟩⟩
  subst he
  obtain ⟨k1, k2, acc, k3⟩ := once_parts hev
  have H : PhiOK fs c (fun i => (rowOf (aheadF c) i).length) := phiOK k1 k2
  have ho := onceOK k1
  have hsum := sumPhi_le H ho k2 k3
  have Hev := Lib.hid hev
  have HH := Lib.hid H
  have Hsum := Lib.hid hsum
  clear hev k1 k2 k3 acc ho hsum H
  obtain ⟨x0, x1, x2, x3, x4, x5, -, -⟩ := six_cells hC1
  have hcop := copied_any c _ w1 (Good.kept (Keep.of_below' (S := fun _ => True) hb2 (fun k hk _ => hk)) Hc.out) hf HH.out.pos
  have HC1 := Lib.hid hC1
  have HR1 := Lib.hid hR1
  have Hb2 := Lib.hid hb2
  have Hcop := Lib.hid hcop
  clear hC1 hR1 hb2 hcop
  go_wp2_with fail
  refine (Hcop.out).mono ?_
  rintro e w2 ⟨lab, vO, vs, rfl, hM, hnew, hlow, hb3⟩
  have hspl := split_any HH.out (fun i _ => rfl) hf HI.out hM hnew hlow
  have Hspl := Lib.hid hspl
  have Hb3 := Lib.hid hb3
  clear hspl hM hnew hlow hb3 Hcop
  go_wp2_with fail
  refine (Hspl.out).mono ?_
  rintro e w3 ⟨vO2, vs2, lab2, X, L, E, X2, rfl, hS, hD, hRe, hM, hnew, hlow, hb4⟩
  obtain ⟨aO, cO, rfl⟩ := ownsRow_slice hM.own
  have hb13 : Below w1.heap.size w1 w3 := Hb3.out.trans hb4
  have hz13 := hb13.size
  have hC3 := (hb13.block (w.heap.size + 1) (by omega)).trans HC1.out
  have hR3 := (hb13.block (w.heap.size + 2) (by omega)).trans HR1.out
  obtain ⟨y0, y1, y2, y3, y4, y5, yz, yl⟩ := six_cells hC3
  obtain ⟨W, hW, hWb, hWs⟩ := six_set (.string c.name) (.int .i64 c.params) (.int .i64 c.results) (.int .i64 c.vars) (.int .i64 c.slots) (.slice aO X2.length cO) hC3
  have hMW : CodeM lab2 W w1.heap.size (.slice aO X2.length cO) vs2 X2 := hM.keep (w' := W) hWs.size (fun k hk hle => hWs.block k hk (fun e => by have e' : k = w.heap.size + 1 := e; have h1 := hlow k (by omega); have h2 := hM.len; rw [h1] at hle; unfold lowL at hle; omega)) (fun _ _ _ => rfl)
  have hRW : W.heap[w.heap.size + 2]? = some (.cells #[.string ⟨#[]⟩, .int .i64 0, .int .i64 0, .int .i64 0, .int .i64 0, .slice none 0 0] 28) := (hWs.block _ (by omega) (fun e => by have e' : w.heap.size + 2 = w.heap.size + 1 := e; omega)).trans hR3
  have hbW : Below w.heap.size w W := (Hb2.out.trans (hb13.mono (by omega))).trans (hWs.below (by omega) (fun k hk => by have e : k = w.heap.size + 1 := hk; omega))
  have hBk : BkM w c w1.heap.size (.slice aO X2.length cO) vs2 c.vars X2 W := BkM.start hMW hlow hWb hRW hsz1 hbW
  have hsmall := sumLen_small HH.out (by have := HH.out.hdr; have := Hsum.out; omega)
  have hBF := backF HH.out hS hRe hD (by omega)
  have hfit2 : FitCode (withB c X2) := fit2 HH.out hS hRe hf
  have Hsmall := Lib.hid hsmall
  clear hsmall
  have hahead := ahead_any (withB c X2) _ W (code_reads hMW HI.out) hfit2
  have HBk := Lib.hid hBk
  have HBF := Lib.hid hBF
  have HS := Lib.hid hS
  have HRe := Lib.hid hRe
  have Hah := Lib.hid hahead
  have HW := Lib.hid hW
  obtain ⟨x0, x1, x2, x3, x4, x5, -, -⟩ := six_cells hWb
  clear hS hD hRe hM hnew hlow hb4 hb13 hz13 hC3 hR3 hW hMW hRW hbW hBk hBF hfit2 hahead hWb hWs Hspl HC1 HR1 Hb3
  go_upto_region 5 with fail
  rw [HW.out]
  go_wp2_with fail
  refine (Hah.out).mono ?_
  rintro e w5 ⟨vH, rfl, hH, hb5⟩
  obtain ⟨AH, hAH⟩ : ∃ AH, AH = aheadF (withB c X2) := ⟨_, rfl⟩
  have hBF := HBF.out
  rw [← hAH] at hBF hH
  have hlen0 := hBF.lah
  have hXn : X2.length = c.blocks.length + E.length := by rw [HRe.out.len, HS.out.len]
  have hX0 : 0 < X2.length := by have := HH.out.n0; omega
  obtain ⟨lo, hlo⟩ : ∃ lo, lo = w1.heap.size := ⟨_, rfl⟩
  rw [← hlo] at HBk
  have hB5 := HBk.out.below hb5
  obtain ⟨gO, cO', he, hgl, hgs⟩ := hB5.own.form hX0
  simp only [Value.slice.injEq, true_and] at he
  obtain ⟨rfl, rfl⟩ := he
  have hgW := (HBk.out.own.lt gO rfl).2
  have hloW := HBk.out.lo_
  have hah5 : rIntss (fun k => lo ≤ k ∧ (Value.slice (some ⟨gO, 0, none⟩) X2.length cO).ownBlock ≠ some k) w5 [vH] AH := Good.wide (R := rIntss) hH (fun k _ hk => ⟨by omega, fun e => by have e' : gO = k := (by simpa [Value.ownBlock] using e); omega⟩)
  obtain ⟨aH, cH, rfl, -⟩ := rIntss_open hah5
  have hn0 := HH.out.n0
  have hpos2 : ∀ b ∈ X2, 0 < b.length := fun b hb => by
    obtain ⟨i, hi, rfl⟩ := List.mem_iff_getElem.1 hb
    have := hBF.pos i hi
    omega
  have hM0 := MovR.start hpos2 c.vars
  have HBF := Lib.hid hBF
  have HB5 := Lib.hid hB5
  have HA5 := Lib.hid hah5
  have HM0 := Lib.hid hM0
  have Hpos2 := Lib.hid hpos2
  have Hlo := Lib.hid hlo
  have HXn := Lib.hid hXn
  have HAH := Lib.hid hAH
  obtain ⟨x0, x1, x2, x3, x4, x5, -, -⟩ := six_cells hB5.bC
  clear hBF hH hb5 hB5 hah5 hpos2 hM0 hlo HBk Hah HW hgW hloW hXn hAH
  rw [hlen0]
  go_wp2_with fail
  go_loopw [38] (fun iv wr => ∃ (i : Nat) (Y : List (List PInstr)) (vs : Nat → Value) (vars : Int) (M : Nat → List PInstr) (cnt : Nat), i ≤ X2.length ∧ iv = .int .i64 i ∧ BkM w c lo (.slice (some ⟨gO, 0, none⟩) X2.length cO) vs vars Y wr ∧ rIntss (fun k => lo ≤ k ∧ (Value.slice (some ⟨gO, 0, none⟩) X2.length cO).ownBlock ≠ some k) wr [.slice aH X2.length cH] AH ∧ MovR X2 c.vars Y vars M cnt ∧ cnt ≤ 2 * c.blocks.length * sumPhi (X2.take i)) (fun iv _ => X2.length - (intOf iv).toNat)
  case atStart => exact ⟨0, X2, vs2, c.vars, fun _ => [], 0, Nat.zero_le _, rfl, HB5.out, by have h := HA5.out; rw [hlen0] at h; exact h, HM0.out, Nat.zero_le _⟩
  case round =>
    clear HB5 HA5 HM0 x0 x1 x2 x3 x4 x5
    obtain ⟨i, Y, vs, vars, M, cnt, hi, rfl, hBk, hA, hMv, hcnt⟩ := hrel
    have hYl : Y.length = X2.length := hMv.len
    by_cases hil : i < X2.length
    · have hil1 : (i : Int) < (X2.length : Int) := by omega
      have hiY : i < Y.length := by omega
      have hiA : i < AH.length := by omega
      have hoA := hA
      rw [← hlen0] at hoA
      obtain ⟨aH2, cH2, he1, -, -, hat1⟩ := rSlice_one hoA
      simp only [Value.slice.injEq, true_and] at he1
      obtain ⟨rfl, rfl⟩ := he1
      obtain ⟨bA, oA, uA, rfl, -, hbA, hcA, hrA⟩ := hat1 i hiA
      obtain ⟨aR, cR, rfl⟩ := rSlice_shape hrA
      obtain ⟨g', cap', he2, -, -, -, hcO, -⟩ := Go.Pst.row_at hBk.own (i := i) (u := vs i) (by simp [hiY])
      simp only [Value.slice.injEq, Option.some.injEq, Addr.mk.injEq, and_true, true_and] at he2
      obtain ⟨rfl, -⟩ := he2
      have hrow := hBk.rows i hiY
      obtain ⟨aB, cB, hvB⟩ := rSlice_shape hrow
      rw [hvB] at hcO hrow
      have hYi := hMv.at_ i hil hiY
      have hlt := HBF.out.pos i hil
      have hno14 : ∀ y ∈ M i, ¬ y.op = 14 := fun y hy => by
        obtain ⟨d, a, rfl, -⟩ := hMv.moves i y hy
        show ¬ (2 : Int) = 14
        decide
      have hph : phisN Y[i] = phisN X2[i] := by rw [hYi]; exact phis_mid hlt hno14
      have hbk : ∀ k (hk : k < Y[i].length) (hk2 : k < X2[i].length), k < phisN X2[i] → Y[i][k] = X2[i][k] := fun k hk hk2 hp => by
        have h3 : k < (X2[i].dropLast ++ M i ++ [X2[i].getLastD (jumpI 0)]).length := by rw [← hYi]; exact hk
        have e1 : Y[i][k] = (X2[i].dropLast ++ M i ++ [X2[i].getLastD (jumpI 0)])[k] := by congr 1
        rw [e1, List.getElem_append_left (by simp; omega), List.getElem_append_left (by simp; omega), List.getElem_dropLast]
      have hbl : X2[i].length ≤ Y[i].length := by rw [hYi]; simp; omega
      generalize Y[i] = yb at *
      have HBk := Lib.hid hBk
      have HA := Lib.hid hA
      have HMv := Lib.hid hMv
      have Hrow := Lib.hid hrow
      have Hbk := Lib.hid hbk
      have HrA := Lib.hid hrA
      clear hBk hA hMv hrow hbk hrA hoA hat1 hYi hno14 hvB
      go_wp2_with fail
      refine (phis_any yb _ wr (Good.wide Hrow.out (fun _ _ _ => trivial))).mono ?_
      rintro e w6 ⟨rfl, rfl⟩
      rw [hph]
      go_wp2_with fail
      go_loopw [50] (fun nv wq => ∃ (n : Nat) (Y : List (List PInstr)) (vs : Nat → Value) (vars : Int) (M : Nat → List PInstr) (cnt : Nat), n ≤ AH[i].length ∧ nv = .int .i64 n ∧ BkM w c lo (.slice (some ⟨gO, 0, none⟩) X2.length cO) vs vars Y wq ∧ rIntss (fun k => lo ≤ k ∧ (Value.slice (some ⟨gO, 0, none⟩) X2.length cO).ownBlock ≠ some k) wq [.slice (some ⟨bA, oA, none⟩) X2.length cH] AH ∧ MovR X2 c.vars Y vars M cnt ∧ cnt ≤ 2 * c.blocks.length * sumPhi (X2.take i) + n * phisN X2[i] ∧
          rBlock (fun k => lo ≤ k ∧ (Value.slice (some ⟨gO, 0, none⟩) X2.length cO).ownBlock ≠ some k) wq [.slice aB yb.length cB] yb ∧ rInts (fun k => lo ≤ k ∧ (Value.slice (some ⟨gO, 0, none⟩) X2.length cO).ownBlock ≠ some k) wq [.slice aR AH[i].length cR] AH[i]) (fun nv _ => AH[i].length - (intOf nv).toNat)
      case atStart => exact ⟨0, Y, vs, vars, M, cnt, Nat.zero_le _, rfl, HBk.out, HA.out, HMv.out, by omega, Hrow.out, HrA.out⟩
      case round =>
        clear HBk HA HMv Hrow HrA hcA hcO
        clear Y vs vars M cnt hYl hiY hcnt
        obtain ⟨n, Y, vs, vars, M, cnt, hn, rfl, hBk, hA, hMv, hcnt, hrow, hrA⟩ := hrel
        by_cases hnl : n < AH[i].length
        · have hnl1 : (n : Int) < (AH[i].length : Int) := by omega
          obtain ⟨a', cap', he3, hr1, hr2, hatR⟩ := rInts_val hrA
          unfold maxLen at hr2
          simp only [Value.slice.injEq, true_and] at he3
          obtain ⟨rfl, rfl⟩ := he3
          obtain ⟨bR, oR, rfl, -, hbR, hcR, -⟩ := hatR n hnl
          obtain ⟨q, hq, hqe⟩ := HBF.out.mem i hiA AH[i][n] (List.getElem_mem hnl)
          rw [hqe] at hcR
          obtain ⟨aB', cB', he4, hB1, hB2, hatB⟩ := rBlock_val hrow
          simp only [Value.slice.injEq, true_and] at he4
          obtain ⟨rfl, rfl⟩ := he4
          have hK : phisN X2[i] ≤ cB := by omega
          have hKl : phisN X2[i] ≤ yb.length := by omega
          have HBk := Lib.hid hBk
          have HA := Lib.hid hA
          have HMv := Lib.hid hMv
          have Hrow := Lib.hid hrow
          have HrA := Lib.hid hrA
          have HatB := Lib.hid hatB
          have Hcnt := Lib.hid hcnt
          have Hphi := Lib.hid (HBF.out.phi i hil hiA)
          clear hBk hA hMv hrow hrA hatR hatB hqe hcnt
          have hsum3 : sumPhi c.blocks ≤ 3000 := by have := Hsum.out; have := HH.out.hdr; omega
          have hK3 : phisN X2[i] ≤ 3000 := by
            have h1 := sumPhi_at hil
            have h2 := HBF.out.sum
            omega
          obtain ⟨wb, hwb⟩ : ∃ wo, wo = wr := ⟨_, rfl⟩
          subst hwb
          obtain ⟨K, hKe⟩ : ∃ K, K = phisN X2[i] := ⟨_, rfl⟩
          rw [← hKe] at hK hKl hK3 ⊢
          have HKe := Lib.hid hKe
          clear hKe
          go_wp2_with fail
          obtain ⟨i0, hi0, hz0, hz1, hz2⟩ := info_parts Tryd.info_int
          obtain ⟨ix, xi0, xz0, xz1, xz2⟩ := info_parts infoIns
          go_loopw [13, 14, 59] (fun vd va kv wq => ∃ (xs ys : List Int), kv = .int .i64 xs.length ∧ xs.length ≤ K ∧ ys.length = xs.length ∧ ((∀ x ∈ xs, 0 ≤ x ∧ x < c.vars) ∧ ∀ y ∈ ys, 0 ≤ y ∧ y < c.vars) ∧ BkD wb vd va xs ys wq) (fun _ _ kv _ => K - (intOf kv).toNat)
          case atStart => exact ⟨[], [], rfl, Nat.zero_le _, rfl, ⟨fun x hx => by simp at hx, fun x hx => by simp at hx⟩, BkD.start wb⟩
          case round =>
            obtain ⟨xs, ys, rfl, hxK, hyx, hin, hBd⟩ := hrel
            by_cases hkl : xs.length < K
            · have hkl1 : (xs.length : Int) < (K : Int) := by omega
              obtain ⟨b3, off3, v1, v2, v5, rfl, -, hb3, k0, k1, k2, k3, k4, k5, -, r1, r2, r5⟩ := HatB.out xs.length (by omega)
              obtain ⟨e5, f5, rfl⟩ := rSlice_shape r5
              have hK2 : xs.length < X2[i].length := by have := HBF.out.pos i hil; have := HKe.out; omega
              have hyk := Hbk.out xs.length (by omega) hK2 (by have := HKe.out; omega)
              obtain ⟨p1, p2, p3, p4⟩ := Hphi.out xs.length hK2 (by have := HKe.out; omega)
              rw [← hyk] at p1 p2 p3 p4
              obtain ⟨b1, o1, c1, dv, b2, o2, l2, c2, av, rfl, hb1, hy1, hdv, rfl, hnl2, hl2, hb2, hy2, hav⟩ := phi_cells r1 r2 p1 (n := n) (by rw [p2]; exact hnl) p3 p4
              have hn2 : (n : Int) < (l2 : Int) := by omega
              clear hyk p1 p2 p3 p4 r1 r2 r5
              generalize yb[xs.length] = xi at *
              have up : ∀ {b o : Nat} {v : Value}, b < wb.heap.size → wb.cell? ⟨b, o, none⟩ = some v → wr.cell? ⟨b, o, none⟩ = some v := fun {b o v} hb e => (hBd.bel.cell (p := ⟨b, o, none⟩) hb).trans e
              have ck0 := up hb3 k0
              have ck1 := up hb3 k1
              have ck2 := up hb3 k2
              have ck3 := up hb3 k3
              have ck4 := up hb3 k4
              have ck5 := up hb3 k5
              have cy1 := up hb1 hy1
              have cy2 := up hb2 hy2
              have hsz2 := hBd.bel.size
              have Hvd := Lib.hid (fun k (hk : u13.ownBlock = some k) => hBd.d.lt k hk)
              have Hva := Lib.hid (fun k (hk : u14.ownBlock = some k) => hBd.a.lt k hk)
              obtain ⟨ad, cd, rfl⟩ := ownsRow_slice hBd.d
              obtain ⟨aa, ca, rfl⟩ := ownsRow_slice hBd.a
              have hBx := hBd.below (w' := (wr.alloc (.cells #[.int .i64 xi.op, .slice (some ⟨b1, o1, none⟩) 1 c1, .slice (some ⟨b2, o2, none⟩) l2 c2, .int .i64 xi.n, .string xi.s, .slice e5 xi.to.length f5] 41)).drew) (((Below.refl _ _).alloc (Nat.le_refl _) _).drew)
              have hL0 : BkL wb wr n b1 o1 c1 dv b2 o2 l2 c2 av (wr.alloc (.cells #[.int .i64 xi.op, .slice (some ⟨b1, o1, none⟩) 1 c1, .slice (some ⟨b2, o2, none⟩) l2 c2, .int .i64 xi.n, .string xi.s, .slice e5 xi.to.length f5] 41)).drew := by
                have hh := heap_alloc_new wr (.cells #[.int .i64 xi.op, .slice (some ⟨b1, o1, none⟩) 1 c1, .slice (some ⟨b2, o2, none⟩) l2 c2, .int .i64 xi.n, .string xi.s, .slice e5 xi.to.length f5] 41)
                have ho := (Below.refl wr.heap.size wr).alloc (Nat.le_refl _) (.cells #[.int .i64 xi.op, .slice (some ⟨b1, o1, none⟩) 1 c1, .slice (some ⟨b2, o2, none⟩) l2 c2, .int .i64 xi.n, .string xi.s, .slice e5 xi.to.length f5] 41)
                exact ⟨by unfold World.cell?; show (match (wr.alloc _).heap[wr.heap.size]? with | some (.cells c _ _) => _ | _ => none) = _; rw [hh]; rfl, (ho.cell (p := ⟨b1, o1, none⟩) (by show b1 < _; omega)).trans cy1, by unfold World.cell?; show (match (wr.alloc _).heap[wr.heap.size]? with | some (.cells c _ _) => _ | _ => none) = _; rw [hh]; rfl, (ho.cell (p := ⟨b2, o2 + n, none⟩) (by show b2 < _; omega)).trans cy2, by show wr.heap.size < (wr.alloc _).heap.size; simp, hb1, hb2, hsz2⟩
              have Hyx := Lib.hid hyx
              have HIn : RowKit.Hid ((∀ x ∈ xs ++ [dv], 0 ≤ x ∧ x < c.vars) ∧ ∀ y ∈ ys ++ [av], 0 ≤ y ∧ y < c.vars) := Lib.hid ⟨fun x hx => by rcases List.mem_append.1 hx with h | h; exact hin.1 x h; rw [List.mem_singleton] at h; subst h; exact hdv, fun x hx => by rcases List.mem_append.1 hx with h | h; exact hin.2 x h; rw [List.mem_singleton] at h; subst h; exact hav⟩
              have hyl : ys.length ≤ 3000 := by omega
              have HB0 := Lib.hid hBx
              have L0 := hL0
              clear hBx hL0 hyx hin hBd up k0 k1 k2 k3 k4 k5 hy1 hy2
              go_upto_region 17 with fail
              refine gGo [(6, fun w' => w'.cell? ⟨wr.heap.size, 1, none⟩ = some (.slice (some ⟨b1, o1, none⟩) 1 c1) ∧ w'.cell? ⟨b1, o1, none⟩ = some (.int .i64 dv)), (14, fun w' => w'.cell? ⟨wr.heap.size, 2, none⟩ = some (.slice (some ⟨b2, o2, none⟩) l2 c2) ∧ w'.cell? ⟨b2, o2 + n, none⟩ = some (.int .i64 av))] ?_
              generalize (wr.alloc (.cells #[.int .i64 xi.op, .slice (some ⟨b1, o1, none⟩) 1 c1, .slice (some ⟨b2, o2, none⟩) l2 c2, .int .i64 xi.n, .string xi.s, .slice e5 xi.to.length f5] 41)).drew = wd at *
              clear ck0 ck1 ck2 ck3 ck4 ck5
              refine gPu 0 (held2 (fun _ => ⟨L0.x1, L0.y1⟩) (fun _ => ⟨L0.x2, L0.y2⟩)) ?_
              refine gPu 1 (held2 (fun _ => ⟨L0.x1, L0.y1⟩) (fun _ => ⟨L0.x2, L0.y2⟩)) ?_
              refine gRd 2 0 [3, 4, 5, 6] (held2 (fun _ => ⟨L0.x1, L0.y1⟩) (fun _ => ⟨L0.x2, L0.y2⟩)) ?_
              refine gPu 3 (held2 (fun _ => ⟨L0.x1, L0.y1⟩) (fun _ => ⟨L0.x2, L0.y2⟩)) ?_
              refine gRd 4 0 [5, 6] (held2 (fun _ => ⟨L0.x1, L0.y1⟩) (fun _ => ⟨L0.x2, L0.y2⟩)) ?_
              refine gPu 7 (held2 (fun _ => ⟨L0.x1, L0.y1⟩) (fun _ => ⟨L0.x2, L0.y2⟩)) ?_
              refine gPu 8 (held2 (fun _ => ⟨L0.x1, L0.y1⟩) (fun _ => ⟨L0.x2, L0.y2⟩)) ?_
              refine gRd 9 1 [11, 12, 13, 14] (held2 (fun _ => ⟨L0.x1, L0.y1⟩) (fun _ => ⟨L0.x2, L0.y2⟩)) ?_
              refine gPu 10 (held2 (fun _ => ⟨L0.x1, L0.y1⟩) (fun _ => ⟨L0.x2, L0.y2⟩)) ?_
              refine gPu 11 (held2 (fun _ => ⟨L0.x1, L0.y1⟩) (fun _ => ⟨L0.x2, L0.y2⟩)) ?_
              refine gRd 12 1 [13, 14] (held2 (fun _ => ⟨L0.x1, L0.y1⟩) (fun _ => ⟨L0.x2, L0.y2⟩)) ?_
              refine gP2 5 13 (fun K hK => ?_) (fun K hK => ?_)
              · go_simp
                have k0 : BkK wb wr wd (wd.alloc (.cells #[.int .i64 dv] 3)) := BkK.of_below ((Below.refl _ _).alloc (Nat.le_refl _) _)
                have L1 := L0.step k0
                have HB1 := Lib.hid (HB0.out.below (w' := (wd.alloc (.cells #[.int .i64 dv] 3))) ((Below.refl _ _).alloc (Nat.le_refl _) _))
                have f5_0 : (wd.alloc (.cells #[.int .i64 dv] 3)).heap[wd.heap.size]? = some (.cells #[.int .i64 dv] 3) := heap_alloc_new _ _
                have z5_0 : wd.heap.size < (wd.alloc (.cells #[.int .i64 dv] 3)).heap.size := by simp
                have r5 := Nat.le_of_lt L0.z
                refine gNx hK (held2 (fun _ => ⟨L1.x1, L1.y1⟩) (fun _ => ⟨L1.x2, L1.y2⟩)) ?_
                clear hK K
                generalize (wd.alloc (.cells #[.int .i64 dv] 3)) = w1 at *
                refine gP2 6 13 (fun K hK => ?_) (fun K hK => ?_)
                · refine step_append_lies _ (by rfl) _ _ _ (by rfl) wb.heap.size 3 i0 (.int .i64 0) 1 8 Tryd.underlying23 hi0 hz0 hz1 hz2 rfl (by decide) (.slice ad xs.length cd) xs.length (xs.map (Value.int .i64)) (by rfl) HB1.out.d ⟨wd.heap.size, 0, none⟩ 1 1 [.int .i64 dv] (by rfl) (by rfl) (World.news_of_block (cs := #[.int .i64 dv]) (t := 3) (fr := (0, 0)) f5_0) (by simp [Value.oneCell']) (by decide) (by unfold maxLen; omega) (by omega) (HB1.out.bel.size) _ rfl ?_
                  intro g1 cap1 w2 hown1 hgrow1 hat1 hlt1
                  have k1 : BkK wb wr w1 w2 := BkK.of_grown hgrow1 Hvd.out
                  have L2 := L1.step k1
                  have HB2 := Lib.hid (HB1.out.appD hown1 hgrow1 hat1)
                  refine gNx hK (held2 (fun _ => ⟨L2.x1, L2.y1⟩) (fun _ => ⟨L2.x2, L2.y2⟩)) ?_
                  clear hK K hown1 hgrow1 hat1
                  refine gP1 13 (fun K hK => ?_)
                  go_simp
                  have k2 : BkK wb wr w2 (w2.alloc (.cells #[.int .i64 av] 3)) := BkK.of_below ((Below.refl _ _).alloc (Nat.le_refl _) _)
                  have L3 := L2.step k2
                  have HB3 := Lib.hid (HB2.out.below (w' := (w2.alloc (.cells #[.int .i64 av] 3))) ((Below.refl _ _).alloc (Nat.le_refl _) _))
                  have f13_2 : (w2.alloc (.cells #[.int .i64 av] 3)).heap[w2.heap.size]? = some (.cells #[.int .i64 av] 3) := heap_alloc_new _ _
                  have z13_2 : w2.heap.size < (w2.alloc (.cells #[.int .i64 av] 3)).heap.size := by simp
                  have r13 := Nat.le_of_lt L2.z
                  refine gNx hK (held2 (fun _ => ⟨L3.x1, L3.y1⟩) (fun _ => ⟨L3.x2, L3.y2⟩)) ?_
                  clear hK K
                  generalize (w2.alloc (.cells #[.int .i64 av] 3)) = w3 at *
                  refine gP1 14 (fun K hK => ?_)
                  refine step_append_lies _ (by rfl) _ _ _ (by rfl) wb.heap.size 3 i0 (.int .i64 0) 1 8 Tryd.underlying23 hi0 hz0 hz1 hz2 rfl (by decide) (.slice aa ys.length ca) ys.length (ys.map (Value.int .i64)) (by rfl) HB3.out.a ⟨w2.heap.size, 0, none⟩ 1 1 [.int .i64 av] (by rfl) (by rfl) (World.news_of_block (cs := #[.int .i64 av]) (t := 3) (fr := (0, 0)) f13_2) (by simp [Value.oneCell']) (by decide) (by unfold maxLen; omega) (by omega) (HB3.out.bel.size) _ rfl ?_
                  intro g3 cap3 w4 hown3 hgrow3 hat3 hlt3
                  have k3 : BkK wb wr w3 w4 := BkK.of_grown hgrow3 Hva.out
                  have L4 := L3.step k3
                  have HB4 := Lib.hid (HB3.out.appA hown3 hgrow3 hat3)
                  refine gNx hK (held2 (fun _ => ⟨L4.x1, L4.y1⟩) (fun _ => ⟨L4.x2, L4.y2⟩)) ?_
                  clear hK K hown3 hgrow3 hat3
                  refine gP1 15 (fun K hK => ?_)
                  go_simp
                  refine gNx hK (held2 (fun _ => ⟨L4.x1, L4.y1⟩) (fun _ => ⟨L4.x2, L4.y2⟩)) ?_
                  clear hK K
                  refine gP1 16 (fun K hK => ?_)
                  go_simp
                  refine gNx hK (held2 (fun _ => ⟨L4.x1, L4.y1⟩) (fun _ => ⟨L4.x2, L4.y2⟩)) ?_
                  clear hK K
                  refine gFin ?_
                  go_wp2_with fail
                  go_roundw
                  case rel => exact ⟨xs ++ [dv], ys ++ [av], by simp, by simp; omega, by simp [Hyx.out], HIn.out, (by simpa using HB4.out)⟩
                  all_goals (simp [intOf]; omega)
                · go_simp
                  have k1 : BkK wb wr w1 (w1.alloc (.cells #[.int .i64 av] 3)) := BkK.of_below ((Below.refl _ _).alloc (Nat.le_refl _) _)
                  have L2 := L1.step k1
                  have HB2 := Lib.hid (HB1.out.below (w' := (w1.alloc (.cells #[.int .i64 av] 3))) ((Below.refl _ _).alloc (Nat.le_refl _) _))
                  have f13_1 : (w1.alloc (.cells #[.int .i64 av] 3)).heap[w1.heap.size]? = some (.cells #[.int .i64 av] 3) := heap_alloc_new _ _
                  have z13_1 : w1.heap.size < (w1.alloc (.cells #[.int .i64 av] 3)).heap.size := by simp
                  have f5_1 := (k1.2 _ z5_0 (Or.inr r5)).trans f5_0
                  have z5_1 := Nat.lt_of_lt_of_le z5_0 k1.1
                  have r13 := Nat.le_of_lt L1.z
                  refine gNx hK (held2 (fun _ => ⟨L2.x1, L2.y1⟩) (fun _ => ⟨L2.x2, L2.y2⟩)) ?_
                  clear hK K
                  generalize (w1.alloc (.cells #[.int .i64 av] 3)) = w2 at *
                  refine gP1 6 (fun K hK => ?_)
                  refine step_append_lies _ (by rfl) _ _ _ (by rfl) wb.heap.size 3 i0 (.int .i64 0) 1 8 Tryd.underlying23 hi0 hz0 hz1 hz2 rfl (by decide) (.slice ad xs.length cd) xs.length (xs.map (Value.int .i64)) (by rfl) HB2.out.d ⟨wd.heap.size, 0, none⟩ 1 1 [.int .i64 dv] (by rfl) (by rfl) (World.news_of_block (cs := #[.int .i64 dv]) (t := 3) (fr := (0, 0)) f5_1) (by simp [Value.oneCell']) (by decide) (by unfold maxLen; omega) (by omega) (HB2.out.bel.size) _ rfl ?_
                  intro g2 cap2 w3 hown2 hgrow2 hat2 hlt2
                  have k2 : BkK wb wr w2 w3 := BkK.of_grown hgrow2 Hvd.out
                  have L3 := L2.step k2
                  have HB3 := Lib.hid (HB2.out.appD hown2 hgrow2 hat2)
                  have f13_2 := (k2.2 _ z13_1 (Or.inr r13)).trans f13_1
                  have z13_2 := Nat.lt_of_lt_of_le z13_1 k2.1
                  refine gNx hK (held2 (fun _ => ⟨L3.x1, L3.y1⟩) (fun _ => ⟨L3.x2, L3.y2⟩)) ?_
                  clear hK K hown2 hgrow2 hat2
                  refine gP1 14 (fun K hK => ?_)
                  refine step_append_lies _ (by rfl) _ _ _ (by rfl) wb.heap.size 3 i0 (.int .i64 0) 1 8 Tryd.underlying23 hi0 hz0 hz1 hz2 rfl (by decide) (.slice aa ys.length ca) ys.length (ys.map (Value.int .i64)) (by rfl) HB3.out.a ⟨w1.heap.size, 0, none⟩ 1 1 [.int .i64 av] (by rfl) (by rfl) (World.news_of_block (cs := #[.int .i64 av]) (t := 3) (fr := (0, 0)) f13_2) (by simp [Value.oneCell']) (by decide) (by unfold maxLen; omega) (by omega) (HB3.out.bel.size) _ rfl ?_
                  intro g3 cap3 w4 hown3 hgrow3 hat3 hlt3
                  have k3 : BkK wb wr w3 w4 := BkK.of_grown hgrow3 Hva.out
                  have L4 := L3.step k3
                  have HB4 := Lib.hid (HB3.out.appA hown3 hgrow3 hat3)
                  refine gNx hK (held2 (fun _ => ⟨L4.x1, L4.y1⟩) (fun _ => ⟨L4.x2, L4.y2⟩)) ?_
                  clear hK K hown3 hgrow3 hat3
                  refine gP1 15 (fun K hK => ?_)
                  go_simp
                  refine gNx hK (held2 (fun _ => ⟨L4.x1, L4.y1⟩) (fun _ => ⟨L4.x2, L4.y2⟩)) ?_
                  clear hK K
                  refine gP1 16 (fun K hK => ?_)
                  go_simp
                  refine gNx hK (held2 (fun _ => ⟨L4.x1, L4.y1⟩) (fun _ => ⟨L4.x2, L4.y2⟩)) ?_
                  clear hK K
                  refine gFin ?_
                  go_wp2_with fail
                  go_roundw
                  case rel => exact ⟨xs ++ [dv], ys ++ [av], by simp, by simp; omega, by simp [Hyx.out], HIn.out, (by simpa using HB4.out)⟩
                  all_goals (simp [intOf]; omega)
              · go_simp
                have k0 : BkK wb wr wd (wd.alloc (.cells #[.int .i64 av] 3)) := BkK.of_below ((Below.refl _ _).alloc (Nat.le_refl _) _)
                have L1 := L0.step k0
                have HB1 := Lib.hid (HB0.out.below (w' := (wd.alloc (.cells #[.int .i64 av] 3))) ((Below.refl _ _).alloc (Nat.le_refl _) _))
                have f13_0 : (wd.alloc (.cells #[.int .i64 av] 3)).heap[wd.heap.size]? = some (.cells #[.int .i64 av] 3) := heap_alloc_new _ _
                have z13_0 : wd.heap.size < (wd.alloc (.cells #[.int .i64 av] 3)).heap.size := by simp
                have r13 := Nat.le_of_lt L0.z
                refine gNx hK (held2 (fun _ => ⟨L1.x1, L1.y1⟩) (fun _ => ⟨L1.x2, L1.y2⟩)) ?_
                clear hK K
                generalize (wd.alloc (.cells #[.int .i64 av] 3)) = w1 at *
                refine gP1 5 (fun K hK => ?_)
                go_simp
                have k1 : BkK wb wr w1 (w1.alloc (.cells #[.int .i64 dv] 3)) := BkK.of_below ((Below.refl _ _).alloc (Nat.le_refl _) _)
                have L2 := L1.step k1
                have HB2 := Lib.hid (HB1.out.below (w' := (w1.alloc (.cells #[.int .i64 dv] 3))) ((Below.refl _ _).alloc (Nat.le_refl _) _))
                have f5_1 : (w1.alloc (.cells #[.int .i64 dv] 3)).heap[w1.heap.size]? = some (.cells #[.int .i64 dv] 3) := heap_alloc_new _ _
                have z5_1 : w1.heap.size < (w1.alloc (.cells #[.int .i64 dv] 3)).heap.size := by simp
                have f13_1 := (k1.2 _ z13_0 (Or.inr r13)).trans f13_0
                have z13_1 := Nat.lt_of_lt_of_le z13_0 k1.1
                have r5 := Nat.le_of_lt L1.z
                refine gNx hK (held2 (fun _ => ⟨L2.x1, L2.y1⟩) (fun _ => ⟨L2.x2, L2.y2⟩)) ?_
                clear hK K
                generalize (w1.alloc (.cells #[.int .i64 dv] 3)) = w2 at *
                refine gP1 6 (fun K hK => ?_)
                refine step_append_lies _ (by rfl) _ _ _ (by rfl) wb.heap.size 3 i0 (.int .i64 0) 1 8 Tryd.underlying23 hi0 hz0 hz1 hz2 rfl (by decide) (.slice ad xs.length cd) xs.length (xs.map (Value.int .i64)) (by rfl) HB2.out.d ⟨w1.heap.size, 0, none⟩ 1 1 [.int .i64 dv] (by rfl) (by rfl) (World.news_of_block (cs := #[.int .i64 dv]) (t := 3) (fr := (0, 0)) f5_1) (by simp [Value.oneCell']) (by decide) (by unfold maxLen; omega) (by omega) (HB2.out.bel.size) _ rfl ?_
                intro g2 cap2 w3 hown2 hgrow2 hat2 hlt2
                have k2 : BkK wb wr w2 w3 := BkK.of_grown hgrow2 Hvd.out
                have L3 := L2.step k2
                have HB3 := Lib.hid (HB2.out.appD hown2 hgrow2 hat2)
                have f13_2 := (k2.2 _ z13_1 (Or.inr r13)).trans f13_1
                have z13_2 := Nat.lt_of_lt_of_le z13_1 k2.1
                refine gNx hK (held2 (fun _ => ⟨L3.x1, L3.y1⟩) (fun _ => ⟨L3.x2, L3.y2⟩)) ?_
                clear hK K hown2 hgrow2 hat2
                refine gP1 14 (fun K hK => ?_)
                refine step_append_lies _ (by rfl) _ _ _ (by rfl) wb.heap.size 3 i0 (.int .i64 0) 1 8 Tryd.underlying23 hi0 hz0 hz1 hz2 rfl (by decide) (.slice aa ys.length ca) ys.length (ys.map (Value.int .i64)) (by rfl) HB3.out.a ⟨wd.heap.size, 0, none⟩ 1 1 [.int .i64 av] (by rfl) (by rfl) (World.news_of_block (cs := #[.int .i64 av]) (t := 3) (fr := (0, 0)) f13_2) (by simp [Value.oneCell']) (by decide) (by unfold maxLen; omega) (by omega) (HB3.out.bel.size) _ rfl ?_
                intro g3 cap3 w4 hown3 hgrow3 hat3 hlt3
                have k3 : BkK wb wr w3 w4 := BkK.of_grown hgrow3 Hva.out
                have L4 := L3.step k3
                have HB4 := Lib.hid (HB3.out.appA hown3 hgrow3 hat3)
                refine gNx hK (held2 (fun _ => ⟨L4.x1, L4.y1⟩) (fun _ => ⟨L4.x2, L4.y2⟩)) ?_
                clear hK K hown3 hgrow3 hat3
                refine gP1 15 (fun K hK => ?_)
                go_simp
                refine gNx hK (held2 (fun _ => ⟨L4.x1, L4.y1⟩) (fun _ => ⟨L4.x2, L4.y2⟩)) ?_
                clear hK K
                refine gP1 16 (fun K hK => ?_)
                go_simp
                refine gNx hK (held2 (fun _ => ⟨L4.x1, L4.y1⟩) (fun _ => ⟨L4.x2, L4.y2⟩)) ?_
                clear hK K
                refine gFin ?_
                go_wp2_with fail
                go_roundw
                case rel => exact ⟨xs ++ [dv], ys ++ [av], by simp, by simp; omega, by simp [Hyx.out], HIn.out, (by simpa using HB4.out)⟩
                all_goals (simp [intOf]; omega)
            · obtain ⟨ad, cd, rfl, -, hiaD⟩ := ownsRow_ints hBd.d
              obtain ⟨aa, ca, rfl, -, hiaA⟩ := ownsRow_ints hBd.a
              have hxl : xs.length = K := by omega
              have hBk := HBk.out.below hBd.bel
              have hA := Good.kept (R := rIntss) (Keep.of_below' (S := fun k => lo ≤ k ∧ (Value.slice (some ⟨gO, 0, none⟩) X2.length cO).ownBlock ≠ some k) hBd.bel (fun k hk _ => hk)) HA.out
              have hrow := Good.kept (R := rBlock) (Keep.of_below' (S := fun k => lo ≤ k ∧ (Value.slice (some ⟨gO, 0, none⟩) X2.length cO).ownBlock ≠ some k) hBd.bel (fun k hk _ => hk)) Hrow.out
              have hrA := Good.kept (R := rInts) (Keep.of_below' (S := fun k => lo ≤ k ∧ (Value.slice (some ⟨gO, 0, none⟩) X2.length cO).ownBlock ≠ some k) hBd.bel (fun k hk _ => hk)) HrA.out
              obtain ⟨hcb, hcb2⟩ := cnt_bound HBF.out hsum3 hil hiA (Nat.le_of_lt hnl) Hcnt.out
              have hvs := HMv.out.vars
              have hhdr := HH.out.hdr
              have hYl : Y.length = X2.length := HMv.out.len
              have hqY : q < Y.length := by omega
              have hMvq := HMv.out.at_ q hq hqY
              have hyq0 : 0 < Y[q].length := by rw [hMvq, List.length_append, List.length_singleton]; omega
              have hsumY := sumLen_at hqY
              have hYs := HMv.out.sums
              have hX2s := HBF.out.lens
              have hrq := hBk.rows q hqY
              obtain ⟨g', cap', he2, -, -, -, hcO, -⟩ := Go.Pst.row_at hBk.own (i := q) (u := vs q) (by simp [hqY])
              simp only [Value.slice.injEq, Option.some.injEq, Addr.mk.injEq, and_true, true_and] at he2
              obtain ⟨rfl, -⟩ := he2
              obtain ⟨bQ, oQ, cQ, ess, hvQ, hcQ1, hcQ2, hSQ, hbQ, hall, hcells⟩ := rSlice_ess (by decide) hrq hyq0
              rw [hvQ] at hcO
              obtain ⟨m, hm⟩ : ∃ m, Y[q].length = m + 1 := ⟨Y[q].length - 1, by omega⟩
              rw [hm] at hcO hcQ1
              obtain ⟨x, f1, f2, f5, n1, d1, n2, d2, n5, d5, hess, e0, e1, e2, e3, e4, e5⟩ := ess_last hm hall hcells
              obtain ⟨z0, z1, z2, z3, z4, z5, -, -⟩ := six_cells hBk.bC
              have hzl := hBk.bC
              have hza : ∀ o, (wr.alloc o).cell? ⟨w.heap.size + 1, 3, none⟩ = some (.int .i64 vars) := fun o => (World.cell?_of_block (a := ⟨w.heap.size + 1, 3, none⟩) (Below.heap_alloc _ _ _ (Array.getElem?_eq_some_iff.1 hzl).1)).trans z3
              clear hzl
              have hcS := Hsmall.out
              have hmb : m ≤ 30000000 := by omega
              have hpar := fun w' (hb : Below wr.heap.size wr w') => parallel_any (v0 := vars) (w := w') (ad := ad) (aa := aa) (cd := cd) (ca := ca) (hiaD.below hb) (hiaA.below hb) hyx (by omega) ⟨by omega, by omega⟩ (fun x hx => by have := hin.1 x hx; omega) (fun x hx => by have := hin.2 x hx; omega)
              have HYX := Lib.hid hyx
              have HXL := Lib.hid hxl
              have HPar := Lib.hid hpar
              have HBk2 := Lib.hid hBk
              have HA2 := Lib.hid hA
              have Hrow2 := Lib.hid hrow
              have HrA2 := Lib.hid hrA
              have Hall := Lib.hid hall
              have Hess := Lib.hid hess
              have Hcells := Lib.hid hcells
              have Hm := Lib.hid hm
              have Hcb := Lib.hid hcb2
              have HvQ := Lib.hid hvQ
              clear hiaD hiaA hxl hBk hA hrow hrA hcb hcb2 hvs hhdr hMvq hyq0 hsumY hYs hX2s hrq hall hess hcells hpar hyx hin hBd hm hvQ HBk HA Hrow HrA
              have hm1 : (m : Int) < ((m + 1 : Nat) : Int) := by omega
              go_wp2_with fail
              refine (HPar.out _ ((Below.refl _ _).alloc (Nat.le_refl _) _)).mono ?_
              rintro e w9 ⟨vM, vars2, out, rfl, hrM, ⟨hv1, hol, hmv⟩, hb9⟩
              have hbx9 : w9.heap[wr.heap.size]? = some (.cells #[.int .i64 x.op, .slice f1 n1 d1, .slice f2 n2 d2, .int .i64 x.n, .string x.s, .slice f5 n5 d5] 41) := (hb9.block _ (by simp)).trans (heap_alloc_new _ _)
              have hb19 : Below wr.heap.size wr w9 := ((Below.refl _ _).alloc (Nat.le_refl _) _).trans (hb9.mono (by simp))
              rw [World.size_alloc] at hrM
              have hB9 := HBk2.out.below hb19
              have hB10 := hB9.setVars vars2
              have hgl0 := (HBk2.out.own.lt gO rfl).2
              have hlow := HBk2.out.low
              have hlo9 := HBk2.out.lo_
              have hz9 := hb19.size
              have hS9 : Since (fun k => k = w.heap.size + 1) w9 (w9.setCell ⟨w.heap.size + 1, 3, none⟩ (.int .i64 vars2)) := Since.setCell w9 ⟨w.heap.size + 1, 3, none⟩ _
              have c91 : w9.cell? ⟨w.heap.size + 1, 3, none⟩ = some (.int .i64 vars) := by have h := hB9.bC; simp [World.cell?, h]
              have c92 : w9.frozen? ⟨w.heap.size + 1, 3, none⟩ = false := by have h := hB9.bC; simp [World.frozen?, h]
              have hvM := rSlice_shape hrM
              obtain ⟨aM', cM', rfl⟩ := hvM
              obtain ⟨w10, hw10⟩ : ∃ w10, w10 = w9.setCell ⟨w.heap.size + 1, 3, none⟩ (.int .i64 vars2) := ⟨_, rfl⟩
              rw [← hw10] at hB10 hS9
              have k910 : ∀ k, k < w9.heap.size → lo ≤ k → w10.heap[k]? = w9.heap[k]? := fun k hk hlk => hS9.block k hk (fun e => by have e' : k = w.heap.size + 1 := e; omega)
              have hK10 : Keep (fun k => lo ≤ k ∧ (Value.slice (some ⟨gO, 0, none⟩) X2.length cO).ownBlock ≠ some k) wr w10 := ⟨by have := hS9.size; omega, fun k hk hs => (k910 k (by omega) hs.1).trans (hb19.block k hk)⟩
              have hrM10 : rBlock (fun k => lo ≤ k ∧ (Value.slice (some ⟨gO, 0, none⟩) X2.length cO).ownBlock ≠ some k) w10 [.slice aM' out.length cM'] out := Good.keep (R := rBlock) (S := fun k => wr.heap.size + 1 ≤ k) ⟨hS9.size, fun k hk hs => k910 k hk (by omega)⟩ (fun k hk hs => ⟨by omega, fun e => by have e' : gO = k := (by simpa [Value.ownBlock] using e); omega⟩) hrM
              have hbx10 := (k910 wr.heap.size (Array.getElem?_eq_some_iff.1 hbx9).1 (by omega)).trans hbx9
              have hA10 := Good.kept (R := rIntss) hK10 HA2.out
              have hrow10 := Good.kept (R := rBlock) hK10 Hrow2.out
              have hrA10 := Good.kept (R := rInts) hK10 HrA2.out
              have hall10 := rAll_keep (g := inferInstance) hK10 (fun _ _ h => h) Hall.out
              have hcells10 : ∀ j u, ess.flatten[j]? = some u → w10.cell? ⟨bQ, oQ + j, none⟩ = some u := fun j u hj => (hK10.cell hbQ hSQ).trans (Hcells.out j u hj)
              obtain ⟨aM, cM, essM, heM, hallM, hlM, hnM⟩ := ess_any hrM10
              simp only [Value.slice.injEq, true_and] at heM
              obtain ⟨rfl, rfl⟩ := heM
              have hlE : (ess.take m).flatten.length = m * 6 := by
                have h1 := rAll_len Hall.out
                have h2 := Hm.out
                rw [flat_len (fun es h => rAll_size Hall.out es (List.mem_of_mem_take h)), List.length_take]
                congr 1
                omega
              have hbQ10 : bQ < w10.heap.size := by have := hK10.size; omega
              have hgO10 : w.heap.size + 1 < w10.heap.size := by have := hK10.size; omega
              have hwe10 := (Array.getElem?_eq_some_iff.1 hbx10).1
              have HB10 := Lib.hid hB10
              have HA10 := Lib.hid hA10
              have Hrow10 := Lib.hid hrow10
              have HrA10 := Lib.hid hrA10
              have Hall10 := Lib.hid hall10
              have Hcells10 := Lib.hid hcells10
              have HallM := Lib.hid hallM
              have HnM := Lib.hid hnM
              have HlM := Lib.hid hlM
              have HlE := Lib.hid hlE
              have Hbx10 := Lib.hid hbx10
              have Hw10 := Lib.hid hw10
              have Hmv := Lib.hid hmv
              clear hrM hb9 hbx9 hb19 hB9 hB10 hS9 k910 hK10 hrM10 hbx10 hA10 hrow10 hrA10 hall10 hcells10 hallM hnM hlM hlE hw10 hmv hz9 HPar HBk2 HA2 Hrow2 HrA2 Hall Hcells hza z0 z1 z2 z3 z4 z5 e0 e1 e2 e3 e4 e5 hcO
              go_upto_region 23 with fail
              rw [← Hw10.out]
              have hcnt14 : cnt + xs.length ≤ 2 * c.blocks.length * sumPhi (X2.take i) + (n + 1) * K := by
                have h1 := Hcnt.out
                have h2 := HXL.out
                have h3 := HKe.out
                rw [h3, Nat.add_mul n 1, Nat.one_mul]
                omega
              have Hcnt14 := Lib.hid hcnt14
              clear hcnt14
              refine gGo [(17, fun w' => (w'.cell? ⟨w.heap.size + 1, 5, none⟩ = some (.slice (some ⟨gO, 0, none⟩) X2.length cO) ∧ w'.cell? ⟨wr.heap.size, 0, none⟩ = some (.int .i64 x.op) ∧ w'.cell? ⟨wr.heap.size, 1, none⟩ = some (.slice f1 n1 d1) ∧ w'.cell? ⟨wr.heap.size, 2, none⟩ = some (.slice f2 n2 d2) ∧ w'.cell? ⟨wr.heap.size, 3, none⟩ = some (.int .i64 x.n) ∧ w'.cell? ⟨wr.heap.size, 4, none⟩ = some (.string x.s) ∧ w'.cell? ⟨wr.heap.size, 5, none⟩ = some (.slice f5 n5 d5)))] ?_
              have hcond : ∀ w', Below w10.drew.heap.size w10.drew w' → (w'.cell? ⟨w.heap.size + 1, 5, none⟩ = some (.slice (some ⟨gO, 0, none⟩) X2.length cO) ∧ w'.cell? ⟨wr.heap.size, 0, none⟩ = some (.int .i64 x.op) ∧ w'.cell? ⟨wr.heap.size, 1, none⟩ = some (.slice f1 n1 d1) ∧ w'.cell? ⟨wr.heap.size, 2, none⟩ = some (.slice f2 n2 d2) ∧ w'.cell? ⟨wr.heap.size, 3, none⟩ = some (.int .i64 x.n) ∧ w'.cell? ⟨wr.heap.size, 4, none⟩ = some (.string x.s) ∧ w'.cell? ⟨wr.heap.size, 5, none⟩ = some (.slice f5 n5 d5)) := fun w' hb => by
                obtain ⟨y0, y1, y2, y3, y4, y5, -, -⟩ := six_cells Hbx10.out
                have h5 : w10.cell? ⟨w.heap.size + 1, 5, none⟩ = some (.slice (some ⟨gO, 0, none⟩) X2.length cO) := by have h := HB10.out.bC; simp [World.cell?, h]
                exact ⟨(hb.cell (p := ⟨w.heap.size + 1, 5, none⟩) hgO10).trans h5, (hb.cell (p := ⟨wr.heap.size, 0, none⟩) hwe10).trans y0, (hb.cell (p := ⟨wr.heap.size, 1, none⟩) hwe10).trans y1, (hb.cell (p := ⟨wr.heap.size, 2, none⟩) hwe10).trans y2, (hb.cell (p := ⟨wr.heap.size, 3, none⟩) hwe10).trans y3, (hb.cell (p := ⟨wr.heap.size, 4, none⟩) hwe10).trans y4, (hb.cell (p := ⟨wr.heap.size, 5, none⟩) hwe10).trans y5⟩
              have hold : ∀ w', Below w10.drew.heap.size w10.drew w' → ∀ j u, (ess.take m).flatten[j]? = some u → w'.cell? ((⟨bQ, oQ, none⟩ : Addr).add j) = some u := fun w' hb j u hj => by
                rw [Addr.add_lit]
                exact (hb.cell (p := ⟨bQ, oQ + j, none⟩) hbQ10).trans (Hcells10.out j u (flat_take hj))
              have hnew2 : ∀ w', Below w10.drew.heap.size w10.drew w' → 0 < out.length → ∃ r : Addr, aM' = some r ∧ ∀ j u, essM.flatten[j]? = some u → w'.cell? (r.add j) = some u := fun w' hb h0 => by
                obtain ⟨r, e1, e2, e3⟩ := HnM.out h0
                have ea : ∀ j, (r.add j).block = r.block := fun j => by unfold Addr.add; split <;> rfl
                exact ⟨r, e1, fun j u hj => (World.cell?_of_block (w := w10.drew) (a := r.add j) (by rw [ea]; exact hb.block r.block e2)).trans (e3 j u hj)⟩
              have hBd : Below w10.heap.size w10 w10.drew := (Below.refl _ _).drew
              have Hcond := Lib.hid hcond
              have Hold := Lib.hid hold
              have Hnew2 := Lib.hid hnew2
              have HBd := Lib.hid hBd
              have S0 := hcond _ (Below.refl _ _)
              have hm2 : (m : Int) ≤ ((m + 1 : Nat) : Int) := by omega
              have hcQ3 : (m : Int) ≤ (cQ : Int) := by omega
              have hwm : IntKind.i64.wrap (m : Int) = (m : Int) := IntWalk.i64_in _ (by omega)
              clear hcond hold hnew2 hBd
              generalize w10.drew = wd at *
              refine gPu 0 (held1 (fun _ => S0)) ?_
              refine gRd 1 0 [16, 17] (held1 (fun _ => S0)) ?_
              refine gPu 2 (held1 (fun _ => S0)) ?_
              refine gPu 3 (held1 (fun _ => S0)) ?_
              refine gPu 4 (held1 (fun _ => S0)) ?_
              refine gPu 5 (held1 (fun _ => S0)) ?_
              refine gPu 6 (held1 (fun _ => S0)) ?_
              refine gPu 7 (held1 (fun _ => S0)) ?_
              refine gPu 8 (held1 (fun _ => S0)) ?_
              refine gPu 9 (held1 (fun _ => S0)) ?_
              refine gPu 10 (held1 (fun _ => S0)) ?_
              refine gPu 11 (held1 (fun _ => S0)) ?_
              refine gRd 13 0 [14, 15, 17] (held1 (fun _ => S0)) ?_
              refine gP2 12 14 (fun K hK => ?_) (fun K hK => ?_)
              · refine step_append_mid1 (by rfl) _ _ _ (by rfl) wd.heap.size 41 ix _ 6 104 Tryd.underlying38 xi0 xz0 xz1 xz2 rfl (by decide) ⟨bQ, oQ, none⟩ m (ess.take m).flatten (by rfl) HlE.out (Hold.out _ (Below.refl _ _)) aM' out.length cM' essM.flatten (by rfl) HlM.out (Hnew2.out _ (Below.refl _ _)) (by unfold maxLen; omega) (by omega) (Nat.le_refl _) ?_
                intro u1 w11 hmid hb11
                have S1 := Hcond.out w11 hb11
                refine gNx hK (held1 (fun _ => S1)) ?_
                clear hK K
                refine gP1 14 (fun K hK => ?_)
                go_simp
                have hb12 : Below wd.heap.size wd (w11.alloc (.cells #[.int .i64 x.op, .slice f1 n1 d1, .slice f2 n2 d2, .int .i64 x.n, .string x.s, .slice f5 n5 d5] 41)) := hb11.alloc hb11.size _
                have S2 := Hcond.out _ hb12
                have hmid2 := hmid.below (w' := (w11.alloc (.cells #[.int .i64 x.op, .slice f1 n1 d1, .slice f2 n2 d2, .int .i64 x.n, .string x.s, .slice f5 n5 d5] 41))) ((Below.refl _ _).alloc (Nat.le_refl _) _)
                have hfin : (w11.alloc (.cells #[.int .i64 x.op, .slice f1 n1 d1, .slice f2 n2 d2, .int .i64 x.n, .string x.s, .slice f5 n5 d5] 41)).heap[w11.heap.size]? = some (.cells #[.int .i64 x.op, .slice f1 n1 d1, .slice f2 n2 d2, .int .i64 x.n, .string x.s, .slice f5 n5 d5] 41 (0, 0)) := heap_alloc_new _ _
                refine gNx hK (held1 (fun _ => S2)) ?_
                clear hK K
                generalize (w11.alloc (.cells #[.int .i64 x.op, .slice f1 n1 d1, .slice f2 n2 d2, .int .i64 x.n, .string x.s, .slice f5 n5 d5] 41)) = w12 at *
                clear hmid hb11 S1
                refine gP1 15 (fun K hK => ?_)
                refine step_append_mid2 (by rfl) _ _ _ (by rfl) wd.heap.size 41 ix _ 6 104 Tryd.underlying38 xi0 xz0 xz1 xz2 rfl (by decide) ⟨bQ, oQ, none⟩ m out.length (ess.take m).flatten essM.flatten u1 (by rfl) hmid2 HlE.out (Hold.out _ hb12) HlM.out ⟨w11.heap.size, 0, none⟩ 1 [.int .i64 x.op, .slice f1 n1 d1, .slice f2 n2 d2, .int .i64 x.n, .string x.s, .slice f5 n5 d5] (by rfl) (by rfl) (World.news_of_block (cs := #[.int .i64 x.op, .slice f1 n1 d1, .slice f2 n2 d2, .int .i64 x.n, .string x.s, .slice f5 n5 d5]) (t := 41) (fr := (0, 0)) hfin) (by simp [Value.oneCell']) (by unfold maxLen; omega) (by omega) hb12.size ?_
                intro v' w13 hown13 hb13x
                have hb13 := hb12.trans hb13x
                have S3 := Hcond.out _ hb13
                have hsv := row_slice hown13
                obtain ⟨a13, c13, rfl, -, -⟩ := hsv
                have hB13 := HB10.out.below (HBd.out.trans (hb13.mono HBd.out.size))
                have hat13 := Go.Pst.row_at hB13.own (i := q) (u := vs q) (by simp [hqY])
                obtain ⟨g13, cap13, he13, -, -, hgs13, hc13, hf13⟩ := hat13
                simp only [Value.slice.injEq, Option.some.injEq, Addr.mk.injEq, and_true, true_and] at he13
                obtain ⟨rfl, -⟩ := he13
                have hsz13 := HBd.out.size
                have hszd := hb13.size
                have hw13 : Below w10.heap.size w10 w13 := HBd.out.trans (hb13.mono HBd.out.size)
                have hlw := HB10.out.low
                have hlo10 := HB10.out.lo_
                have hgO10' := (HB10.out.own.lt gO rfl).2
                have hrN : rBlock (fun k => lo ≤ k ∧ (Value.slice (some ⟨gO, 0, none⟩) X2.length cO).ownBlock ≠ some k) w13 [.slice a13 (m + out.length + 1) c13] (Y[q].dropLast ++ out ++ [Y[q].getLastD (jumpI 0)]) :=
                  newRow Hm.out rfl hown13 (fun k hk => ⟨by have := (hown13.lt k hk).1; omega, fun e => by have e' : gO = k := (by simpa [Value.ownBlock] using e); have := (hown13.lt k hk).1; omega⟩)
                    (rAll_keep (g := inferInstance) (Keep.of_below' hw13 (fun k hk _ => hk)) (fun _ _ h => h) Hall10.out) (rAll_keep (g := inferInstance) (Keep.of_below' hw13 (fun k hk _ => hk)) (fun _ _ h => h) HallM.out) Hess.out
                have hB14 := hB13.set hqY hrN
                have hMv14 := HMv.out.add hqY hv1 hol Hmv.out
                have hK14 : Keep (fun k => lo ≤ k ∧ (Value.slice (some ⟨gO, 0, none⟩) X2.length cO).ownBlock ≠ some k) w10 (w13.setCell ⟨gO, q, none⟩ (.slice a13 (m + out.length + 1) c13)) := (Keep.of_below' hw13 (fun k hk _ => hk)).trans (Keep.setCell _ _ _ (fun h => h.2 rfl))
                have HB14 := Lib.hid hB14
                have HMv14 := Lib.hid hMv14
                have HK14 := Lib.hid hK14
                clear hb12 hb13 hb13x hown13 hB13 hrN hB14 hMv14 hK14 hw13 hlw hlo10
                refine gNx hK (held1 (fun _ => S3)) ?_
                clear hK K
                refine gP1 16 (fun K hK => ?_)
                go_simp
                refine gNx hK (held1 (fun _ => S3)) ?_
                clear hK K
                refine gP1 17 (fun K hK => ?_)
                go_simp
                refine gNx hK (held1 (fun h => absurd h (by decide))) ?_
                clear hK K
                refine gFin ?_
                clear hwm S3
                go_wp2_with fail
                go_roundw
                case rel => exact ⟨n + 1, _, _, vars2, _, _, by omega, by go_num, HB14.out, Good.kept (R := rIntss) HK14.out HA10.out, HMv14.out, Hcnt14.out, Good.kept (R := rBlock) HK14.out Hrow10.out, Good.kept (R := rInts) HK14.out HrA10.out⟩
                all_goals (simp [intOf]; omega)
              · go_simp
                have hb11 : Below wd.heap.size wd (wd.alloc (.cells #[.int .i64 x.op, .slice f1 n1 d1, .slice f2 n2 d2, .int .i64 x.n, .string x.s, .slice f5 n5 d5] 41)) := (Below.refl _ _).alloc (Nat.le_refl _) _
                have S1 := Hcond.out _ hb11
                have hfin0 : (wd.alloc (.cells #[.int .i64 x.op, .slice f1 n1 d1, .slice f2 n2 d2, .int .i64 x.n, .string x.s, .slice f5 n5 d5] 41)).heap[wd.heap.size]? = some (.cells #[.int .i64 x.op, .slice f1 n1 d1, .slice f2 n2 d2, .int .i64 x.n, .string x.s, .slice f5 n5 d5] 41 (0, 0)) := heap_alloc_new _ _
                refine gNx hK (held1 (fun _ => S1)) ?_
                clear hK K
                generalize (wd.alloc (.cells #[.int .i64 x.op, .slice f1 n1 d1, .slice f2 n2 d2, .int .i64 x.n, .string x.s, .slice f5 n5 d5] 41)) = w11 at *
                refine gP1 12 (fun K hK => ?_)
                refine step_append_mid1 (by rfl) _ _ _ (by rfl) wd.heap.size 41 ix _ 6 104 Tryd.underlying38 xi0 xz0 xz1 xz2 rfl (by decide) ⟨bQ, oQ, none⟩ m (ess.take m).flatten (by rfl) HlE.out (Hold.out _ hb11) aM' out.length cM' essM.flatten (by rfl) HlM.out (Hnew2.out _ hb11) (by unfold maxLen; omega) (by omega) (hb11.size) ?_
                intro u1 w12 hmid2 hb12x
                have hb12 := hb11.trans (hb12x.mono hb11.size)
                have S2 := Hcond.out w12 hb12
                have hfin := (hb12x.block _ (Array.getElem?_eq_some_iff.1 hfin0).1).trans hfin0
                refine gNx hK (held1 (fun _ => S2)) ?_
                clear hK K
                clear hb11 S1 hfin0 hb12x
                refine gP1 15 (fun K hK => ?_)
                refine step_append_mid2 (by rfl) _ _ _ (by rfl) wd.heap.size 41 ix _ 6 104 Tryd.underlying38 xi0 xz0 xz1 xz2 rfl (by decide) ⟨bQ, oQ, none⟩ m out.length (ess.take m).flatten essM.flatten u1 (by rfl) hmid2 HlE.out (Hold.out _ hb12) HlM.out ⟨wd.heap.size, 0, none⟩ 1 [.int .i64 x.op, .slice f1 n1 d1, .slice f2 n2 d2, .int .i64 x.n, .string x.s, .slice f5 n5 d5] (by rfl) (by rfl) (World.news_of_block (cs := #[.int .i64 x.op, .slice f1 n1 d1, .slice f2 n2 d2, .int .i64 x.n, .string x.s, .slice f5 n5 d5]) (t := 41) (fr := (0, 0)) hfin) (by simp [Value.oneCell']) (by unfold maxLen; omega) (by omega) hb12.size ?_
                intro v' w13 hown13 hb13x
                have hb13 := hb12.trans hb13x
                have S3 := Hcond.out _ hb13
                have hsv := row_slice hown13
                obtain ⟨a13, c13, rfl, -, -⟩ := hsv
                have hB13 := HB10.out.below (HBd.out.trans (hb13.mono HBd.out.size))
                have hat13 := Go.Pst.row_at hB13.own (i := q) (u := vs q) (by simp [hqY])
                obtain ⟨g13, cap13, he13, -, -, hgs13, hc13, hf13⟩ := hat13
                simp only [Value.slice.injEq, Option.some.injEq, Addr.mk.injEq, and_true, true_and] at he13
                obtain ⟨rfl, -⟩ := he13
                have hsz13 := HBd.out.size
                have hszd := hb13.size
                have hw13 : Below w10.heap.size w10 w13 := HBd.out.trans (hb13.mono HBd.out.size)
                have hlw := HB10.out.low
                have hlo10 := HB10.out.lo_
                have hgO10' := (HB10.out.own.lt gO rfl).2
                have hrN : rBlock (fun k => lo ≤ k ∧ (Value.slice (some ⟨gO, 0, none⟩) X2.length cO).ownBlock ≠ some k) w13 [.slice a13 (m + out.length + 1) c13] (Y[q].dropLast ++ out ++ [Y[q].getLastD (jumpI 0)]) :=
                  newRow Hm.out rfl hown13 (fun k hk => ⟨by have := (hown13.lt k hk).1; omega, fun e => by have e' : gO = k := (by simpa [Value.ownBlock] using e); have := (hown13.lt k hk).1; omega⟩)
                    (rAll_keep (g := inferInstance) (Keep.of_below' hw13 (fun k hk _ => hk)) (fun _ _ h => h) Hall10.out) (rAll_keep (g := inferInstance) (Keep.of_below' hw13 (fun k hk _ => hk)) (fun _ _ h => h) HallM.out) Hess.out
                have hB14 := hB13.set hqY hrN
                have hMv14 := HMv.out.add hqY hv1 hol Hmv.out
                have hK14 : Keep (fun k => lo ≤ k ∧ (Value.slice (some ⟨gO, 0, none⟩) X2.length cO).ownBlock ≠ some k) w10 (w13.setCell ⟨gO, q, none⟩ (.slice a13 (m + out.length + 1) c13)) := (Keep.of_below' hw13 (fun k hk _ => hk)).trans (Keep.setCell _ _ _ (fun h => h.2 rfl))
                have HB14 := Lib.hid hB14
                have HMv14 := Lib.hid hMv14
                have HK14 := Lib.hid hK14
                clear hb12 hb13 hb13x hown13 hB13 hrN hB14 hMv14 hK14 hw13 hlw hlo10
                refine gNx hK (held1 (fun _ => S3)) ?_
                clear hK K
                refine gP1 16 (fun K hK => ?_)
                go_simp
                refine gNx hK (held1 (fun _ => S3)) ?_
                clear hK K
                refine gP1 17 (fun K hK => ?_)
                go_simp
                refine gNx hK (held1 (fun h => absurd h (by decide))) ?_
                clear hK K
                refine gFin ?_
                clear hwm S3
                go_wp2_with fail
                go_roundw
                case rel => exact ⟨n + 1, _, _, vars2, _, _, by omega, by go_num, HB14.out, Good.kept (R := rIntss) HK14.out HA10.out, HMv14.out, Hcnt14.out, Good.kept (R := rBlock) HK14.out Hrow10.out, Good.kept (R := rInts) HK14.out HrA10.out⟩
                all_goals (simp [intOf]; omega)
        · obtain rfl : n = AH[i].length := by omega
          have hsum3 : sumPhi c.blocks ≤ 3000 := by have := Hsum.out; have := HH.out.hdr; omega
          have hcb := (cnt_bound HBF.out hsum3 hil hiA (Nat.le_refl _) hcnt).1
          have HBk := Lib.hid hBk
          have HA := Lib.hid hA
          have HMv := Lib.hid hMv
          have Hcb := Lib.hid hcb
          have hXs := HBF.out.n
          clear hBk hA hMv hcb hrow hrA hcnt hsum3
          go_wp2_with fail
          go_roundw
          case rel => exact ⟨i + 1, Y, vs, vars, M, cnt, by omega, by go_num, HBk.out, HA.out, HMv.out, Hcb.out⟩
          all_goals (simp [intOf]; omega)
    · obtain rfl : i = X2.length := by omega
      obtain ⟨z0, z1, z2, z3, z4, z5, -, -⟩ := six_cells hBk.bC
      have hXs := HBF.out.n
      have hcnt2 : cnt ≤ 2 * c.blocks.length * sumPhi c.blocks := by
        have h := hcnt
        rw [List.take_length, HBF.out.sum] at h
        exact h
      have hcnt3 : cnt ≤ 12000000 := Nat.le_trans hcnt2 (Nat.le_trans (Nat.mul_le_mul (show 2 * c.blocks.length ≤ 4000 by omega) (show sumPhi c.blocks ≤ 3000 by have := Hsum.out; have := HH.out.hdr; omega)) (by decide))
      have HBk := Lib.hid hBk
      have HMv := Lib.hid hMv
      have Hcnt := Lib.hid hcnt2
      have Hcnt3 := Lib.hid hcnt3
      have HYl := Lib.hid hYl
      clear hBk hA hMv hcnt hcnt2 hcnt3 hYl
      go_wp2_with fail
      go_loopw [122] (fun jv wq => ∃ (j : Nat) (Z : List (List PInstr)) (vs : Nat → Value), j ≤ X2.length ∧ jv = .int .i64 j ∧ BkM w c lo (.slice (some ⟨gO, 0, none⟩) X2.length cO) vs vars Z wq ∧ Z.length = Y.length ∧ (∀ k (hk : k < Y.length) (hz : k < Z.length), Z[k] = if k < j then Y[k].drop (phisN Y[k]) else Y[k])) (fun jv _ => X2.length - (intOf jv).toNat)
      case atStart => exact ⟨0, Y, vs, Nat.zero_le _, rfl, HBk.out, rfl, fun k hk hz => by rw [if_neg (by omega)]⟩
      case round =>
        clear HBk z0 z1 z2 z3 z4 z5
        clear vs
        obtain ⟨j, Z, vs, hj, rfl, hBk, hZl, hZ⟩ := hrel
        obtain ⟨z0, z1, z2, z3, z4, z5, -, -⟩ := six_cells hBk.bC
        by_cases hjl : j < X2.length
        · have hjl1 : (j : Int) < (X2.length : Int) := by omega
          have hjY : j < Y.length := by have := HYl.out; omega
          have hjZ : j < Z.length := by omega
          have hrow := hBk.rows j hjZ
          obtain ⟨aB, cB, hvB⟩ := rSlice_shape hrow
          obtain ⟨g', cap', he2, -, -, hgs', hcO, hfO⟩ := Go.Pst.row_at hBk.own (i := j) (u := vs j) (by simp [hjZ])
          simp only [Value.slice.injEq, Option.some.injEq, Addr.mk.injEq, and_true, true_and] at he2
          obtain ⟨rfl, -⟩ := he2
          rw [hvB] at hcO hrow
          have hZj : Z[j] = Y[j] := by rw [hZ j hjY hjZ, if_neg (by omega)]
          rw [hZj] at hcO hrow hvB
          have hph := phisN_le Y[j]
          have hYb : Y[j].length ≤ 9223372036854775807 := by
            obtain ⟨a', c', e', h1, h2, -⟩ := rBlock_val hrow
            unfold maxLen at h2
            omega
          have hdr0 := rSlice_drop hrow hph
          have hsl := run_drop (P := Tryd.prog) Tryd.underlying38 Tryd.size_instr aB Y[j].length cB (phisN Y[j]) hph
          obtain ⟨a3, ha3⟩ : ∃ a3, a3 = (if cB = phisN Y[j] then aB else aB.map (·.add (phisN Y[j] * 6))) := ⟨_, rfl⟩
          rw [← ha3] at hsl hdr0
          have hlow := hBk.low
          have hfz5 : wr.drew.frozen? ⟨gO, j, none⟩ = false := hfO
          have hcO5 : wr.drew.cell? ⟨gO, j, none⟩ = some (.slice aB Y[j].length cB) := hcO
          have S0 : wr.drew.cell? ⟨w.heap.size + 1, 5, none⟩ = some (.slice (some ⟨gO, 0, none⟩) X2.length cO) := z5
          have hpd := phis_any Y[j] _ wr.drew (Good.kept (Keep.drew _ _) (Good.wide hrow (fun _ _ _ => trivial)))
          have hBd := hBk.below (w' := wr.drew) ((Below.refl _ _).drew)
          have hdd := Good.kept (R := rBlock) (Keep.drew _ _) hdr0
          have HBk := Lib.hid hBk
          have Hrow := Lib.hid hrow
          have Hdr0 := Lib.hid hdr0
          have HZ := Lib.hid hZ
          have HZl := Lib.hid hZl
          have hphi1 : (phisN Y[j] : Int) ≤ (Y[j].length : Int) := by omega
          have Hpd := Lib.hid hpd
          have HBd := Lib.hid hBd
          have Hdd := Lib.hid hdd
          clear hBk hrow hdr0 hZ hZl hvB hZj ha3 hpd hBd hdd hlow
          go_upto_region 29 with fail
          refine gGo [(8, fun w' => w'.cell? ⟨w.heap.size + 1, 5, none⟩ = some (.slice (some ⟨gO, 0, none⟩) X2.length cO))] ?_
          generalize wr.drew = wd at *
          refine gPu 0 (held1 (fun _ => S0)) ?_
          refine gRd 1 0 [7, 8] (held1 (fun _ => S0)) ?_
          refine gPu 2 (held1 (fun _ => S0)) ?_
          refine gPu 3 (held1 (fun _ => S0)) ?_
          refine gPu 4 (held1 (fun _ => S0)) ?_
          refine gP1 5 (fun K hK => ?_)
          go_simp
          go_at_call 12
          refine (Hpd.out).mono ?_
          rintro e w' ⟨rfl, rfl⟩
          refine gNx hK (held1 (fun _ => S0)) ?_
          clear hK K
          refine gP1 6 (fun K hK => ?_)
          go_simp
          refine gNx hK (held1 (fun _ => S0)) ?_
          clear hK K
          refine gP1 7 (fun K hK => ?_)
          go_simp
          refine gNx hK (held1 (fun _ => S0)) ?_
          clear hK K
          refine gP1 8 (fun K hK => ?_)
          go_simp
          refine gNx hK (held1 (fun h => absurd h (by decide))) ?_
          clear hK K
          refine gFin ?_
          go_wp2_with fail
          go_roundw
          case rel =>
            refine ⟨j + 1, Z.set j (Y[j].drop (phisN Y[j])), _, by omega, by go_num, HBd.out.set (b' := Y[j].drop (phisN Y[j])) hjZ Hdd.out, by rw [List.length_set]; exact HZl.out, fun k hk hz => ?_⟩
            rw [List.getElem_set]
            by_cases e : j = k
            · subst e
              rw [if_pos rfl, if_pos (by omega)]
            · rw [if_neg e, HZ.out k hk (by rw [List.length_set] at hz; exact hz)]
              by_cases e2 : k < j
              · rw [if_pos e2, if_pos (by omega)]
              · rw [if_neg e2, if_neg (by omega)]
          all_goals (simp [intOf]; omega)
        · obtain rfl : j = X2.length := by omega
          have hYl := HYl.out
          have hZ' : ∀ k (hk : k < Y.length) (hz : k < Z.length), Z[k] = Y[k].drop (phisN Y[k]) := fun k hk hz => by rw [hZ k hk hz, if_pos (by omega)]
          obtain ⟨hBR, hsZ, hlZ⟩ := back_rel HH.out HS.out HRe.out HMv.out hZl hZ'
          have hEle := HS.out.count
          have hn0' := hn0
          have hE4 : E.length ≤ 4000000 := Nat.le_trans hEle (Nat.le_trans (Nat.mul_le_mul hn0.2 hn0.2) (by decide))
          have hsm := Hsmall.out
          have hc3 := Hcnt3.out
          have hvs := HMv.out.vars
          have hhd := HH.out.hdr
          have hlit : (c.blocks.length ≤ 20 ∧ c.vars ≤ 40 ∧ sumLen c.blocks ≤ 100) → vars ≤ 3000 ∧ X2.length ≤ 2000 ∧ sumLen Z ≤ 6000 := fun h => by
            obtain ⟨g1, g2⟩ := little_back HH.out HS.out h Hsum.out Hcnt.out
            exact ⟨by omega, by omega, by omega⟩
          have hInv : InI vars := by unfold InI; omega
          have hrc : rCode (fun _ => True) wr [.string c.name, .int .i64 c.params, .int .i64 c.results, .int .i64 vars, .int .i64 c.slots, .slice (some ⟨gO, 0, none⟩) X2.length cO] { c with vars := vars, blocks := Z } :=
            ⟨_, rfl, ⟨HI.out.1, HI.out.2.1, HI.out.2.2.1, hInv, HI.out.2.2.2.2⟩, rSlice_own hBk.own (fun _ _ => trivial) fun i hi => ⟨vs i, by simp [show i < Z.length from hi], Good.wide (hBk.rows i hi) (fun _ _ _ => trivial)⟩⟩
          have hrows : ∃ v5', [Value.string c.name, .int .i64 c.params, .int .i64 c.results, .int .i64 vars, .int .i64 c.slots, .slice (some ⟨gO, 0, none⟩) X2.length cO] = [Value.string c.name, .int .i64 c.params, .int .i64 c.results, .int .i64 vars, .int .i64 c.slots, v5'] ∧ (c.name.size ≤ maxLen ∧ InI c.params ∧ InI c.results ∧ InI vars ∧ InI c.slots) ∧ rBlocks (fun k => lo ≤ k) wr [v5'] Z :=
            ⟨_, rfl, ⟨HI.out.1, HI.out.2.1, HI.out.2.2.1, hInv, HI.out.2.2.2.2⟩, rSlice_own hBk.own (fun k hk => (hBk.own.lt k hk).1) fun i hi => ⟨vs i, by simp [show i < Z.length from hi], Good.wide (hBk.rows i hi) (fun _ _ h => h.1)⟩⟩
          have hlow := hBk.low
          have Hrows := Lib.hid hrows
          clear hrows
          have hRq := hBk.bR
          have hbq := hBk.bel
          have hZX : Z.length = X2.length := by omega
          have hcount : Calls Tryd.prog 14 #[.agg #[.string c.name, .int .i64 c.params, .int .i64 c.results, .int .i64 vars, .int .i64 c.slots, .slice (some ⟨gO, 0, none⟩) X2.length cO]] wr (fun e w' => e = .returned (.int .i64 (sumLen Z : Nat)) ∧ Below wr.heap.size wr w') := count_any _ _ wr hrc (show sumLen Z ≤ 1000000000 by omega) (show Z.length ≤ 1000000000 by omega)
          have HBR := Lib.hid hBR
          have Hlit := Lib.hid hlit
          have Hrc := Lib.hid hrc
          have Hcount := Lib.hid hcount
          have HZX := Lib.hid hZX
          clear hYl hZ' hBR hlZ hEle hn0' hE4 hsm hc3 hvs hhd hlit hInv hrc hcount hZX hBk hZ hZl
          by_cases hv : 3000 < vars
          · have HN := Lib.hid (show ¬ (c.blocks.length ≤ 20 ∧ c.vars ≤ 40 ∧ sumLen c.blocks ≤ 100) from fun h => by have := Hlit.out h; omega)
            clear Hcount
            obtain ⟨y0, y1, y2, y3, y4, y5, yz, yl⟩ := six_cells hRq
            obtain ⟨W, hW, hWb, hWs⟩ := six_set (.string ⟨#[]⟩) (.int .i64 0) (.int .i64 0) (.int .i64 0) (.int .i64 0) (.slice none 0 0) hRq
            have HE := Lib.hid (hbq.trans (hWs.below hbq.size (fun k hk => by have e : k = w.heap.size + 2 := hk; omega)))
            have HbW := Lib.hid hWb
            have HW := Lib.hid hW
            clear hWb hW hWs hbq hRq
            go_wp2_with fail
            rw [HW.out]
            obtain ⟨x0, x1, x2, x3, x4, x5, -, -⟩ := six_cells HbW.out
            exact bodyPost_ret (v := .tuple #[.agg #[.string ⟨#[]⟩, .int .i64 0, .int .i64 0, .int .i64 0, .int .i64 0, .slice none 0 0], .int .i64 1]) (by simp [results, Tryd.results4, go_sem, x0, x1, x2, x3, x4, x5]) rfl ⟨HE.out, _, _, rfl, Or.inr (Or.inl ⟨Hev.out, rfl, rfl, HN.out⟩)⟩
          · by_cases hn : 2000 < X2.length
            · have hn2 : (2000 : Int) < (X2.length : Int) := by omega
              have HN := Lib.hid (show ¬ (c.blocks.length ≤ 20 ∧ c.vars ≤ 40 ∧ sumLen c.blocks ≤ 100) from fun h => by have := Hlit.out h; omega)
              clear Hcount
              obtain ⟨y0, y1, y2, y3, y4, y5, yz, yl⟩ := six_cells hRq
              obtain ⟨W, hW, hWb, hWs⟩ := six_set (.string ⟨#[]⟩) (.int .i64 0) (.int .i64 0) (.int .i64 0) (.int .i64 0) (.slice none 0 0) hRq
              have HE := Lib.hid (hbq.trans (hWs.below hbq.size (fun k hk => by have e : k = w.heap.size + 2 := hk; omega)))
              have HbW := Lib.hid hWb
              have HW := Lib.hid hW
              clear hWb hW hWs hbq hRq
              go_wp2_with fail
              rw [HW.out]
              obtain ⟨x0, x1, x2, x3, x4, x5, -, -⟩ := six_cells HbW.out
              exact bodyPost_ret (v := .tuple #[.agg #[.string ⟨#[]⟩, .int .i64 0, .int .i64 0, .int .i64 0, .int .i64 0, .slice none 0 0], .int .i64 1]) (by simp [results, Tryd.results4, go_sem, x0, x1, x2, x3, x4, x5]) rfl ⟨HE.out, _, _, rfl, Or.inr (Or.inl ⟨Hev.out, rfl, rfl, HN.out⟩)⟩
            · have hn2 : ¬ (2000 : Int) < (X2.length : Int) := by omega
              have HRq := Lib.hid hRq
              have Hbq := Lib.hid hbq
              clear hRq hbq
              go_wp2_with fail
              refine (Hcount.out).mono ?_
              rintro e w9 ⟨rfl, hb9⟩
              have hRq := (hb9.block _ (Array.getElem?_eq_some_iff.1 HRq.out).1).trans HRq.out
              have hbq : Below w.heap.size w w9 := Hbq.out.trans (hb9.mono Hbq.out.size)
              have hz9 := hb9.size
              have c9 := fun k => (hb9.cell (p := ⟨w.heap.size + 1, k, none⟩) (by show w.heap.size + 1 < wr.heap.size; have := (Array.getElem?_eq_some_iff.1 HRq.out).1; omega))
              have v0 := (c9 0).trans z0
              have v1 := (c9 1).trans z1
              have v2 := (c9 2).trans z2
              have v3 := (c9 3).trans z3
              have v4 := (c9 4).trans z4
              have v5 := (c9 5).trans z5
              have Hb9 := Lib.hid hb9
              clear c9 z0 z1 z2 z3 z4 z5 hb9 Hcount
              by_cases hs6 : 6000 < sumLen Z
              · have hs6' : (6000 : Int) < (sumLen Z : Int) := by omega
                have HN := Lib.hid (show ¬ (c.blocks.length ≤ 20 ∧ c.vars ≤ 40 ∧ sumLen c.blocks ≤ 100) from fun h => by have := Hlit.out h; omega)
                obtain ⟨y0, y1, y2, y3, y4, y5, yz, yl⟩ := six_cells hRq
                obtain ⟨W, hW, hWb, hWs⟩ := six_set (.string ⟨#[]⟩) (.int .i64 0) (.int .i64 0) (.int .i64 0) (.int .i64 0) (.slice none 0 0) hRq
                have HE := Lib.hid (hbq.trans (hWs.below hbq.size (fun k hk => by have e : k = w.heap.size + 2 := hk; omega)))
                have HbW := Lib.hid hWb
                have HW := Lib.hid hW
                clear hWb hW hWs hbq hRq
                go_wp2_with fail
                rw [HW.out]
                obtain ⟨x0, x1, x2, x3, x4, x5, -, -⟩ := six_cells HbW.out
                exact bodyPost_ret (v := .tuple #[.agg #[.string ⟨#[]⟩, .int .i64 0, .int .i64 0, .int .i64 0, .int .i64 0, .slice none 0 0], .int .i64 1]) (by simp [results, Tryd.results4, go_sem, x0, x1, x2, x3, x4, x5]) rfl ⟨HE.out, _, _, rfl, Or.inr (Or.inl ⟨Hev.out, rfl, rfl, HN.out⟩)⟩
              · have hs6' : ¬ (6000 : Int) < (sumLen Z : Int) := by omega
                have hcf := back_ok HH.out HBR.out (by have := HZX.out; omega) (by omega) (by omega)
                have hfi := fitB HH.out hf HBR.out (by have := HZX.out; omega) (by omega)
                obtain ⟨y0, y1, y2, y3, y4, y5, yz, yl⟩ := six_cells hRq
                obtain ⟨W, hW, hWb, hWs⟩ := six_set (.string c.name) (.int .i64 c.params) (.int .i64 c.results) (.int .i64 vars) (.int .i64 c.slots) (.slice (some ⟨gO, 0, none⟩) X2.length cO) hRq
                have hrcW : rCode (fun _ => True) W [.string c.name, .int .i64 c.params, .int .i64 c.results, .int .i64 vars, .int .i64 c.slots, .slice (some ⟨gO, 0, none⟩) X2.length cO] { c with vars := vars, blocks := Z } := by
                  obtain ⟨v5', e1, e2, e3⟩ := Hrows.out
                  injection e1 with _ e1
                  injection e1 with _ e1
                  injection e1 with _ e1
                  injection e1 with _ e1
                  injection e1 with _ e1
                  injection e1 with e1 _
                  subst e1
                  refine ⟨_, rfl, e2, Good.wide (S := fun k => lo ≤ k) (Good.kept (S := fun k => lo ≤ k) ⟨hWs.size, fun k hk hs => hWs.block k hk (fun e => by have e' : k = w.heap.size + 2 := e; omega)⟩ (Good.kept (Keep.of_below' Hb9.out (fun k hk _ => hk)) e3)) (fun _ _ _ => trivial)⟩
                have HE := Lib.hid (hbq.trans (hWs.below hbq.size (fun k hk => by have e : k = w.heap.size + 2 := hk; omega)))
                have HbW := Lib.hid hWb
                have HW := Lib.hid hW
                have HrcW := Lib.hid hrcW
                have Hcf := Lib.hid hcf
                have Hfi := Lib.hid hfi
                clear hWb hW hWs hbq hRq hrcW hcf hfi
                go_wp2_with fail
                rw [HW.out]
                obtain ⟨x0, x1, x2, x3, x4, x5, -, -⟩ := six_cells HbW.out
                exact bodyPost_ret (v := .tuple #[.agg #[.string c.name, .int .i64 c.params, .int .i64 c.results, .int .i64 vars, .int .i64 c.slots, .slice (some ⟨gO, 0, none⟩) X2.length cO], .int .i64 0]) (by simp [results, Tryd.results4, go_sem, x0, x1, x2, x3, x4, x5]) rfl ⟨HE.out, _, _, rfl, Or.inr (Or.inr ⟨Hev.out, rfl, _, HrcW.out, Hcf.out, Hfi.out⟩)⟩
end Go.Proofs.YthgfdcoicihpdaaDoor

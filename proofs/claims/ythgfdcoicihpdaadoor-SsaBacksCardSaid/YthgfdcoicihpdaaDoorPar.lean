/-
  ssa.parallel, walked (weak contract): moves between variables, and how many.
-/
import Derived.Test.YthgfdcoicihpdaaDoorParRPM
import Derived.Test.YthgfdcoicihpdaaDoorSplit
import Derived.StillTailTactics
import Derived.Deep.LoopGhost
namespace Go.Proofs.YthgfdcoicihpdaaDoor
open Go.RowKit Go.Pst
set_option linter.unusedVariables false
set_option linter.unusedSimpArgs false

theorem ParS.start {v0 : Int} {k i : Nat} {m : IMap Int} {order ds ars : List Int} (hi : i ≤ k) (h1 : m.length ≤ i) (h3 : ∀ x, (lookI m x).isSome = true → x ∈ order) (h4 : ∀ x ∈ order, x ∈ ds) (h5 : ∀ x v, lookI m x = some v → ∃ a, v = .int .i64 a ∧ a ∈ ars)
    (hds : ∀ x ∈ ds, 0 ≤ x ∧ x < v0) (has : ∀ x ∈ ars, 0 ≤ x ∧ x < v0) : ParS v0 k order m v0 [] 0 :=
  ⟨h3, fun x v hx => by obtain ⟨a, e, ha⟩ := h5 x v hx; exact ⟨a, e, has a ha⟩, fun x hx => hds x (h4 x hx), by simp, fun y hy => (by cases hy), (by simp; omega)⟩
theorem ParS.small {v0 : Int} {k : Nat} {order : List Int} {m : IMap Int} {vars : Int} {out : List PInstr} {rings : Nat} (h : ParS v0 k order m vars out rings) (hr : 2 * rings ≤ out.length + 1) : out.length ≤ 2 * k + 1 ∧ rings ≤ k + 1 ∧ vars = v0 + rings := by
  have h1 := h.sum
  exact ⟨by omega, by omega, h.vars_⟩

set_option maxRecDepth 100000 in
set_option maxHeartbeats 16000000 in
theorem parallel_any {ds ars : List Int} {ad aa : Option Addr} {cd ca : Nat} {v0 : Int} {w : World} (hd : IntsAt w ad ds) (ha : IntsAt w aa ars) (hl : ars.length = ds.length) (hk : ds.length ≤ 4000) (hv : 0 ≤ v0 ∧ v0 ≤ 100000000)
    (hds : ∀ x ∈ ds, 0 ≤ x ∧ x < v0) (has : ∀ x ∈ ars, 0 ≤ x ∧ x < v0) :
    Calls Tryd.prog 13 #[.slice ad ds.length cd, .slice aa ars.length ca, .int .i64 v0] w fun e w' => ∃ v vars out, e = .returned (.tuple #[v, .int .i64 vars]) ∧
      rBlock (fun k => w.heap.size ≤ k) w' [v] out ∧ ((v0 ≤ vars ∧ vars ≤ v0 + ds.length) ∧ out.length ≤ 2 * ds.length ∧ ∀ x ∈ out, ∃ d a, x = moveI d a ∧ (0 ≤ d ∧ d < vars) ∧ 0 ≤ a ∧ a < vars) ∧ Below w.heap.size w w' := by
  obtain ⟨i0, hi0, hz0, hz1, hz2⟩ := info_parts Tryd.info_int
  obtain ⟨ix, xi0, xz0, xz1, xz2⟩ := info_parts infoIns
  have hmk := @run_makeMap Tryd.prog
  rw [hl]
  have Hl := Lib.hid hl
  clear hl
  go_enter Tryd.func13, Tryd.ntmps13
  go_wp2_with fail
  generalize hW1 : (w.alloc (.map #[] 0)).alloc (.cells #[.map (some w.heap.size)] 56) = W1
  have hs1 : W1.heap.size = w.heap.size + 2 := by rw [← hW1]; simp
  have hb1 : Below w.heap.size w W1 := by rw [← hW1]; exact below_box2 _ _ _
  have h0 : PW w [] (.slice none 0 0) [] W1 := by
    refine ⟨?_, ?_, World.ownsRow_nil _ _ _ _, hb1⟩
    · rw [← hW1]; exact (MapI.made Int w).alloc _
    · have h := heap_alloc_new (w.alloc (.map #[] 0)) (.cells #[.map (some w.heap.size)] 56)
      rw [World.size_alloc] at h
      rw [← hW1]; exact h
  clear hW1 hs1 hmk
  go_loopw [10, 27] (fun ov iv wr => ∃ (i : Nat) (m : IMap Int) (order : List Int), i ≤ ds.length ∧ iv = .int .i64 i ∧ PW w m ov order wr ∧ m.length ≤ i ∧ order.length ≤ i ∧ (∀ x, (lookI m x).isSome = true → x ∈ order) ∧ (∀ x ∈ order, x ∈ ds) ∧ ∀ x v, lookI m x = some v → ∃ a, v = .int .i64 a ∧ a ∈ ars) (fun _ iv _ => ds.length - (intOf iv).toNat)
  case atStart => exact ⟨0, [], [], Nat.zero_le _, rfl, h0, Nat.le_refl _, Nat.le_refl _, fun x h => by simp [lookI] at h, fun x h => by simp at h, fun x v h => by simp [lookI] at h⟩
  case round =>
    clear h0 hb1
    obtain ⟨i, m, order, hi, rfl, hP, h1, h2, h3, h4, h5⟩ := hrel
    by_cases hil : i < ds.length
    · have hil1 : (i : Int) < (ds.length : Int) := by omega
      have hil0 : i < ars.length := by rw [Hl.out]; exact hil
      obtain ⟨aO, cO, rfl⟩ := ownsRow_slice hP.ord
      obtain ⟨bd, od, rfl, hbd, hcd⟩ := hd i hil
      obtain ⟨ba, oa, rfl, hba, hca⟩ := ha i hil0
      have hcd' : wr.cell? ⟨bd, od + i, none⟩ = some (.int .i64 ds[i]) := (World.cell?_of_block (a := ⟨bd, od + i, none⟩) (hP.bel.block bd hbd)).trans hcd
      have hca' : wr.cell? ⟨ba, oa + i, none⟩ = some (.int .i64 ars[i]) := (World.cell?_of_block (a := ⟨ba, oa + i, none⟩) (hP.bel.block ba hba)).trans hca
      have hbx : wr.cell? ⟨w.heap.size + 1, 0, none⟩ = some (.map (some w.heap.size)) := by simp [World.cell?, hP.box]
      have hdm : ds[i] ∈ ds := List.getElem_mem hil
      have ham : ars[i] ∈ ars := List.getElem_mem hil0
      obtain ⟨dv, hdv⟩ : ∃ x, x = ds[i] := ⟨_, rfl⟩
      obtain ⟨av, hav⟩ : ∃ x, x = ars[i] := ⟨_, rfl⟩
      rw [← hdv] at hcd' hdm
      rw [← hav] at hca' ham
      have hne1 : w.heap.size + 1 < wr.heap.size := (Array.getElem?_eq_some_iff.1 hP.box).1
      have hob := hP.ord
      have HP := Lib.hid hP
      have H3 := Lib.hid h3
      have H4 := Lib.hid h4
      have H5 := Lib.hid h5
      have Hds := Lib.hid hds
      have Has := Lib.hid has
      have Hd := Lib.hid hd
      have Ha := Lib.hid ha
      clear hdv hav hP h3 h4 h5 hcd hca hds has hd ha
      by_cases e : dv = av
      · have e2 : (dv != av) = false := by simp [e]
        have e3 : ¬ (dv ≠ av) := fun h => h e
        go_wp2_with fail
        go_roundw
        case rel => exact ⟨i + 1, m, order, by omega, by go_num, HP.out, by omega, by omega, H3.out, H4.out, H5.out⟩
        all_goals (simp [intOf]; omega)
      · have e2 : (dv != av) = true := by simpa using e
        go_upto_region 8 with fail
        go_still_tail 6, (by kernel_rfl)
        change wpList _ _ _ _ _ wr.drew
        have hbox : MapI wr.drew w.heap.size m := HP.out.map
        have hobd : wr.drew.ownsRow (w.heap.size + 2) 3 1 (.slice aO order.length cO) order.length (order.map (Value.int .i64)) := hob
        have hwd : wr.drew.heap = wr.heap := rfl
        have hbd2 : Below w.heap.size w wr.drew := HP.out.bel.trans ((Drawn.drew wr).below _)
        have Hwd := Lib.hid hwd
        have Hbd := Lib.hid hbd2
        clear hwd hbd2
        generalize wr.drew = wd at *
        refine wpList_updateI (κ := Int) rfl _ _ _ 56 rfl Tryd.underlying56 Tryd.underlying3 w.heap.size _ rfl hbox dv (.int .i64 av) rfl rfl ?_
        intro w1 hm1 hg1
        have hob1 := ownsRow_block hobd (fun k hk => hg1.block k (hobd.lt k hk).2 (fun e => by injection e with e; have := (hobd.lt k hk).1; omega))
        have Hm1 := Lib.hid hm1
        have Hg1 := Lib.hid hg1
        clear hm1 hg1
        go_wp2_with (at_builtin; refine wpList_append_own_at _ rfl _ _ 23 rfl (w.heap.size + 2) 3 i0 (.int .i64 0) 1 8 Tryd.underlying23 hi0 hz0 hz1 hz2 rfl (by decide) (.slice aO order.length cO) order.length (order.map (Value.int .i64)) rfl (hob1.alloc _) ⟨w1.heap.size, 0, none⟩ 1 1 [.int .i64 dv] rfl rfl ?c1 ?c2 ?c3 ?c4 ?c5 ?_)
        case c1 => exact (cell_one_new _ _ _)
        case c2 => intro u hu; simp at hu; subst hu; rfl
        case c3 => unfold maxLen; omega
        case c4 => omega
        case c5 => have h := Hg1.out.size; rw [Hwd.out] at h; simp; omega
        intro v6 w6 hown6 hg6 _ _
        have Hown6 := Lib.hid hown6
        have Hg6 := Lib.hid hg6
        clear hown6 hg6
        go_wp2_with fail
        go_roundw
        case rel =>
          have hml := Hm1.out.lt
          have hz1' := Hg1.out.size
          have hne6 : ∀ k, k < w1.heap.size → k < w.heap.size + 2 → w6.heap[k]? = w1.heap[k]? := fun k hk hlt => grown_other Hg6.out hk (fun e => by have := (hob1.lt k e).1; omega)
          have hbx6 : w6.heap[w.heap.size + 1]? = some (.cells #[.map (some w.heap.size)] 56) := by
            rw [hne6 _ (by have := Hwd.out; rw [this] at hz1'; omega) (by omega), Hg1.out.block _ (by rw [Hwd.out]; exact hne1) (fun e => by injection e with e; omega), Hwd.out]
            exact HP.out.box
          have hb6 : Below w.heap.size w w6 := (Hbd.out.grown Hg1.out (by have := Hbd.out.size; omega) (fun k hk => by cases hk; exact Nat.le_refl _)).trans ((append_below hob1 Hg6.out (by have := Hwd.out; rw [this] at hz1'; omega)).mono (by omega))
          refine ⟨i + 1, putI m dv (.int .i64 av), order ++ [dv], by omega, by go_num, ⟨Hm1.out.heap (hne6 _ hml (by omega)), hbx6, by simpa using Hown6.out, hb6⟩, ?_, by simp; omega, fun x hx => ?_, fun x hx => ?_, fun x v hx => ?_⟩
          · have := length_put_le m dv (.int .i64 av)
            omega
          · by_cases ex : dv = x
            · subst ex; simp
            · rw [lookI_put_other _ _ ex] at hx
              exact List.mem_append_left _ (H3.out x hx)
          · rcases List.mem_append.1 hx with hx | hx
            · exact H4.out x hx
            · rw [List.mem_singleton] at hx
              subst hx
              exact hdm
          · by_cases ex : dv = x
            · subst ex
              rw [lookI_put_same] at hx
              injection hx with hx
              exact ⟨av, hx.symm, ham⟩
            · rw [lookI_put_other _ _ ex] at hx
              exact H5.out x v hx
        all_goals (simp [intOf]; omega)
    · obtain rfl : i = ds.length := by omega
      have hPL := PL.start hP
      have hPS := ParS.start (k := ds.length) (Nat.le_refl _) h1 h3 h4 h5 hds has
      generalize (fun k => if k = w.heap.size ∨ k = w.heap.size + 1 then boxL else if u10.ownBlock = some k ∨ k < w.heap.size then 1 else 0) = lab0 at hPL
      obtain ⟨aO, cO, rfl⟩ := ownsRow_slice hP.ord
      have hol : order.length ≤ 4000 := by omega
      have HPL := Lib.hid hPL
      have HPS := Lib.hid hPS
      clear hPL hPS hP h1 h2 h3 h4 h5 hds has hd ha Hl
      go_wp2_with fail
      go_loopg [2, 8] (2 * m.length + 1) (fun k vv vo wr => ∃ (m' : IMap Int) (vars : Int) (lab : Nat → Nat) (vOut : Value) (out : List PInstr) (xs : List Value) (rings : Nat), vv = .int .i64 vars ∧ vo = vOut ∧ PL w m' (.slice aO order.length cO) order lab vOut out xs wr ∧ ParS v0 ds.length order m' vars out rings ∧ ((2 * rings ≤ out.length ∧ 2 * m'.length + 1 ≤ k) ∨ (2 * rings ≤ out.length + 1 ∧ (∃ d, FreeAt m' d) ∧ 2 * m'.length ≤ k)))
      case atStart => exact ⟨m, v0, lab0, .slice none 0 0, [], [], 0, rfl, rfl, HPL.out, HPS.out, Or.inl ⟨by simp, Nat.le_refl _⟩⟩
      case round =>
        clear HPL HPS lab0
        obtain ⟨m', vars, lab, vOut, out, xs, rings, rfl, rfl, hL, hS, hk⟩ := hrel
        have hB := hS.small (by omega)
        have hmap := hL.map
        have hbx : wr.cell? ⟨w.heap.size + 1, 0, none⟩ = some (.map (some w.heap.size)) := by simp [World.cell?, hL.b.box]
        by_cases hm0 : m' = []
        · subst hm0
          have hr : 2 * rings ≤ out.length := by
            rcases hk with h | ⟨_, ⟨d, hd⟩, _⟩
            · exact h.1
            · exact absurd hd.1 (by simp [lookI])
          have HR := Lib.hid hL.reads
          have HD := Lib.hid (hS.done hr)
          have Hb := Lib.hid hL.b.bel
          clear hL hS hB hk hr
          go_wp2_with (refine wpList_lenI (κ := Int) rfl _ 56 rfl Tryd.underlying56 w.heap.size _ rfl hmap ?_)
          go_ret2
          exact ⟨_, vars, out, rfl, HR.out, HD.out, Hb.out⟩
        · have hml : 0 < m'.length := List.length_pos_iff.2 hm0
          have hml2 : (0 : Int) < (m'.length : Int) := by omega
          have HL := Lib.hid hL
          have HS := Lib.hid hS
          have Hk := Lib.hid hk
          have HB := Lib.hid hB
          clear hL hS hk hm0 hB
          go_wp2_with (refine wpList_lenI (κ := Int) rfl _ 56 rfl Tryd.underlying56 w.heap.size _ rfl hmap ?_)
          go_loopw [8, 13, 54] (fun vo mv jv wq => ∃ (j : Nat) (m1 : IMap Int) (lab : Nat → Nat) (vOut : Value) (out1 : List PInstr) (xs : List Value) (b1 : Bool), j ≤ order.length ∧ jv = .int .i64 j ∧ mv = .bool b1 ∧ vo = vOut ∧ PL w m1 (.slice aO order.length cO) order lab vOut out1 xs wq ∧ ParS v0 ds.length order m1 vars out1 rings ∧
            ((b1 = false ∧ m1 = m' ∧ out1 = out ∧ ∀ d ∈ order.take j, ¬ FreeAt m' d) ∨ (b1 = true ∧ m1.length < m'.length ∧ out.length < out1.length))) (fun _ _ jv _ => order.length - (intOf jv).toNat)
          case atStart => exact ⟨0, m', lab, _, out, xs, false, Nat.zero_le _, rfl, rfl, rfl, HL.out, HS.out, Or.inl ⟨rfl, rfl, rfl, fun d hd => by simp at hd⟩⟩
          case round =>
            clear HL HS hmap hbx lab xs
            obtain ⟨j, m1, lab, vOut, out1, xs, b1, hj, rfl, rfl, rfl, hL, hS, hc⟩ := hrel
            by_cases hjl : j < order.length
            · have hjl1 : (j : Int) < (order.length : Int) := by omega
              have hia : IntsAt wr aO order := by
                obtain ⟨a', c', e', _, h'⟩ := ownsRow_ints hL.b.ord
                injection e' with e1
                rw [e1]
                exact h'
              have hia0 := hia
              obtain ⟨bo, oo, rfl, hbo, hco⟩ := hia j hjl
              have hdm : order[j] ∈ order := List.getElem_mem hjl
              have htk : order.take (j + 1) = order.take j ++ [order[j]] := List.take_succ_eq_append_getElem hjl
              have hbx : ∀ o, (wr.alloc o).cell? ⟨w.heap.size + 1, 0, none⟩ = some (.map (some w.heap.size)) := fun o => by rw [World.cell?_of_block (a := ⟨w.heap.size + 1, 0, none⟩) (Below.heap_alloc _ _ _ hL.b.lt)]; simp [World.cell?, hL.b.box]
              obtain ⟨aV, cV, rfl, hcV1, hcV2⟩ := row_slice hL.out_.own
              obtain ⟨dv, hdv⟩ : ∃ d, d = order[j] := ⟨_, rfl⟩
              rw [← hdv] at hco hdm htk
              have hdb := hS.ord dv hdm
              have hA := hL.below ((Below.refl _ _).alloc (Nat.le_refl _) (.cells #[.int .i64 dv] 3))
              have hiaA : IntsAt (wr.alloc (.cells #[.int .i64 dv] 3)) (some ⟨bo, oo, none⟩) order := hia0.below ((Below.refl _ _).alloc (Nat.le_refl _) _)
              have hdA : (wr.alloc (.cells #[.int .i64 dv] 3)).cell? ⟨wr.heap.size, 0, none⟩ = some (.int .i64 dv) := by
                have h := heap_alloc_new wr (.cells #[.int .i64 dv] 3)
                unfold World.cell?
                rw [h]
                rfl
              have hmapA := hA.map
              have hlb0 := hL.b.new wr.heap.size (Nat.le_refl _)
              have HC := Lib.hid hc
              have HS := Lib.hid hS
              have HT := Lib.hid htk
              have HIA := Lib.hid hiaA
              have HA := Lib.hid hA
              clear hc hS htk hiaA hA hL hia0 hia hdv
              cases hlk : lookI m1 dv with
              | none =>
                have Hlk := Lib.hid hlk
                clear hlk
                go_wp2_with (refine wpList_lookupI (κ := Int) rfl _ _ 56 true rfl Tryd.underlying56 Tryd.underlying3 (Tryd.zero_intP _) w.heap.size _ rfl hmapA dv rfl ?_; rw [Hlk.out]; simp only [Option.getD_none, Option.isSome_none])
                go_roundw
                case rel =>
                  refine ⟨j + 1, m1, lab, _, out1, xs, b1, by omega, by go_num, rfl, rfl, HA.out, HS.out, ?_⟩
                  rcases HC.out with ⟨h1, h2, h3, h4⟩ | h
                  · refine Or.inl ⟨h1, h2, h3, fun d hd => ?_⟩
                    rw [HT.out] at hd
                    rcases List.mem_append.1 hd with hd | hd
                    · exact h4 d hd
                    · rw [List.mem_singleton] at hd
                      subst hd
                      intro hf
                      have := hf.1
                      rw [← h2, Hlk.out] at this
                      cases this
                  · exact Or.inr h
                all_goals (simp [intOf]; omega)
              | some v =>
                obtain ⟨av, rfl, hav⟩ := HS.out.vals dv v hlk
                have Hlk := Lib.hid hlk
                clear hlk
                go_wp2_with (refine wpList_lookupI (κ := Int) rfl _ _ 56 true rfl Tryd.underlying56 Tryd.underlying3 (Tryd.zero_intP _) w.heap.size _ rfl hmapA dv rfl ?_; rw [Hlk.out]; simp only [Option.getD_some, Option.isSome_some])
                have hsz : (wr.alloc (.cells #[.int .i64 dv] 3)).heap.size = wr.heap.size + 1 := by simp
                have hbxA := hbx (.cells #[.int .i64 dv] 3)
                have hbx0 := HA.out.b.box
                have HVI : ∀ y v, lookI m1 y = some v → ∃ a, v = .int .i64 a ∧ InI a := fun y v h => by
                  obtain ⟨a, e, h1, h2⟩ := HS.out.vals y v h
                  have := HB.out
                  exact ⟨a, e, by unfold InI; omega⟩
                have hIAo := HIA.out
                generalize wr.alloc (.cells #[.int .i64 dv] 3) = wA at *
                have hans : Answers Tryd.prog 33 #[.pointer (some ⟨w.heap.size + 1, 0, none⟩), .pointer (some ⟨wr.heap.size, 0, none⟩)] (waitsB m1 dv) order wA := fun x _ w' hw => waits_any (m := m1) (mb := w.heap.size) (by rw [hw.cell]; exact hbxA) (by rw [hw.cell]; exact hdA) (hmapA.heap (by rw [hw.heap])) HVI (by have := HB.out; unfold InI; omega)
                refine (containsFunc_ints _ _ (waitsB m1 dv) _ order _ wA (by omega) hIAo (enters_of Tryd.func33 (by kernel_rfl) (by kernel_rfl)) hans).mono ?_
                rintro e w3 ⟨rfl, hd3⟩
                have h3 := HA.out.below (hd3.below _)
                have hlt0 : wr.heap.size < w3.heap.size := by have := (hd3.below 0).size; omega
                have hd3c : w3.cell? ⟨wr.heap.size, 0, none⟩ = some (.int .i64 dv) := by rw [hd3.cell]; exact hdA
                have hbx3 : w3.cell? ⟨w.heap.size + 1, 0, none⟩ = some (.map (some w.heap.size)) := by rw [hd3.cell]; exact hbxA
                have H3 := Lib.hid h3
                clear hans hIAo hmapA hd3 h3 hbxA hdA HA HIA hbx hbx0 HVI
                cases hany : order.any (waitsB m1 dv) with
                | true =>
                  have Hany := Lib.hid hany
                  clear hany
                  go_wp2_with fail
                  go_roundw
                  case rel =>
                    refine ⟨j + 1, m1, lab, _, out1, xs, b1, by omega, by go_num, rfl, rfl, H3.out, HS.out, ?_⟩
                    rcases HC.out with ⟨h1, h2, h3, h4⟩ | h
                    · refine Or.inl ⟨h1, h2, h3, fun d hd => ?_⟩
                      rw [HT.out] at hd
                      rcases List.mem_append.1 hd with hd | hd
                      · exact h4 d hd
                      · rw [List.mem_singleton] at hd
                        subst hd
                        intro hf
                        have := free_any hf order
                        rw [← h2, Hany.out] at this
                        cases this
                    · exact Or.inr h
                  all_goals (simp [intOf]; omega)
                | false =>
                  clear hany
                  have hown3 := H3.out.out_.own
                  have hlt3 := H3.out.b.lt
                  have hol1 : out1.length ≤ 8001 := by
                    have hr : 2 * rings ≤ out1.length + 1 := by
                      have hk2 := Hk.out
                      rcases HC.out with ⟨_, _, h3, _⟩ | ⟨_, _, h3⟩
                      · rw [h3]; omega
                      · omega
                    have := HS.out.small hr
                    omega
                  go_upto_region 20 with (at_builtin; refine wpList_append_own_at _ rfl _ _ 38 rfl (w.heap.size + 2) 41 ix _ 6 104 Tryd.underlying38 xi0 xz0 xz1 xz2 rfl (by decide) (.slice aV out1.length cV) out1.length xs rfl (((hown3.alloc _).alloc _).alloc _) ⟨w3.heap.size + 1 + 1, 0, none⟩ 1 1 [.int .i64 2, .slice (some ⟨w3.heap.size, 0, none⟩) 1 1, .slice (some ⟨w3.heap.size + 1, 0, none⟩) 1 1, .int .i64 0, .string ⟨#[]⟩, .slice none 0 0] rfl rfl (World.news_of_block (new3 w3 _ _ _)) (by simp [Value.oneCell']) (by unfold maxLen; omega) (by omega) (by simp; omega) ?_; intro v6 w6 hown6 hg6 hnil6 hat6; clear hnil6; have HApp := Lib.hid (H3.out.app (by have := HB.out; unfold InI; omega) (by have := HB.out; unfold InI; omega) hown6 hg6 (by rcases hat6 with h | h; exact Or.inl h; exact Or.inr ⟨_, h, by simp⟩)); have hd6 := (H3.out.boxed hg6 hlt0 hlb0 hd3c).1; obtain ⟨a6, c6, rfl, -, -⟩ := row_slice hown6; clear hown6 hg6 hat6)
                  have hbx6 : w6.cell? ⟨w.heap.size + 1, 0, none⟩ = some (.map (some w.heap.size)) := by have h := HApp.out.b.box; simp [World.cell?, h]
                  have hmap6 := HApp.out.map
                  go_wp2_with (refine wpList_deleteI (κ := Int) rfl _ _ 56 3 rfl Tryd.underlying56 Tryd.underlying3 w.heap.size _ rfl hmap6 dv rfl ?_; intro w7 hm7 hg7 hz7; have HD7 := Lib.hid (HApp.out.del hm7 hg7 hz7); clear hm7 hg7 hz7)
                  go_roundw
                  case rel =>
                    refine ⟨j + 1, _, _, _, out1 ++ [moveI dv av], _, true, by omega, by go_num, rfl, rfl, HD7.out, HS.out.move hmap6.keys Hlk.out, Or.inr ⟨rfl, ?_, ?_⟩⟩
                    · have := length_del (m := m1) (x := dv) (by rw [Hlk.out]; rfl)
                      rcases HC.out with ⟨_, h, _, _⟩ | ⟨_, h, _⟩
                      · rw [← h]; omega
                      · omega
                    · rcases HC.out with ⟨_, _, h, _⟩ | ⟨_, _, h⟩
                      · rw [← h]; simp
                      · simp; omega
                  all_goals (simp [intOf]; omega)
            · obtain rfl : j = order.length := by omega
              rcases hc with ⟨rfl, rfl, rfl, hnf⟩ | ⟨rfl, hc1, hc2⟩
              · rw [List.take_length] at hnf
                have hnf2 : ∀ d, ¬ FreeAt m1 d := fun d hf => hnf d (hS.keys d hf.1) hf
                have Hnf := Lib.hid hnf2
                have HL := Lib.hid hL
                have HS := Lib.hid hS
                clear hnf hnf2 hL hS
                obtain ⟨wo, hwo⟩ : ∃ wo, wo = wr := ⟨_, rfl⟩
                subst hwo
                obtain ⟨aV, cV, rfl, hcV1, hcV2⟩ := row_slice HL.out.out_.own
                go_wp2_with fail
                go_loopw [2, 8, 83] (fun vv vo iv wq => ∃ (i : Nat), i ≤ order.length ∧ iv = .int .i64 i ∧ vv = .int .i64 vars ∧ vo = .slice aV out1.length cV ∧ Drawn wo wq ∧ ∀ d ∈ order.take i, lookI m1 d = none) (fun _ _ iv _ => order.length - (intOf iv).toNat)
                case atStart => exact ⟨0, Nat.zero_le _, rfl, rfl, rfl, Drawn.refl _, fun d hd => by simp at hd⟩
                case round =>
                  obtain ⟨i, hi2, rfl, rfl, rfl, hdr, hno⟩ := hrel
                  have hL := HL.out.below (w' := wr) (hdr.below _)
                  by_cases hil2 : i < order.length
                  · have hil3 : (i : Int) < (order.length : Int) := by omega
                    have hia : IntsAt wr aO order := by
                      obtain ⟨a', c', e', _, h'⟩ := ownsRow_ints hL.b.ord
                      injection e' with e1
                      rw [e1]
                      exact h'
                    obtain ⟨bo, oo, rfl, hbo, hco⟩ := hia i hil2
                    have hdm : order[i] ∈ order := List.getElem_mem hil2
                    have htk : order.take (i + 1) = order.take i ++ [order[i]] := List.take_succ_eq_append_getElem hil2
                    have hbx : wr.cell? ⟨w.heap.size + 1, 0, none⟩ = some (.map (some w.heap.size)) := by simp [World.cell?, hL.b.box]
                    obtain ⟨dv, hdv⟩ : ∃ d, d = order[i] := ⟨_, rfl⟩
                    rw [← hdv] at hco hdm htk
                    have hdb := HS.out.ord dv hdm
                    have hmap := hL.map
                    have Hno := Lib.hid hno
                    have HT := Lib.hid htk
                    have HLr := Lib.hid hL
                    have Hdr := Lib.hid hdr
                    clear hno htk hL hdr hia hdv
                    cases hlk : lookI m1 dv with
                    | none =>
                      have Hlk := Lib.hid hlk
                      clear hlk
                      go_wp2_with (refine wpList_lookupI (κ := Int) rfl _ _ 56 true rfl Tryd.underlying56 Tryd.underlying3 (Tryd.zero_intP _) w.heap.size _ rfl hmap dv rfl ?_; rw [Hlk.out]; simp only [Option.getD_none, Option.isSome_none])
                      go_roundw
                      case rel =>
                        refine ⟨i + 1, by omega, by go_num, rfl, rfl, Hdr.out, fun d hd => ?_⟩
                        rw [HT.out] at hd
                        rcases List.mem_append.1 hd with hd | hd
                        · exact Hno.out d hd
                        · rw [List.mem_singleton] at hd
                          subst hd
                          exact Hlk.out
                      all_goals (simp [intOf]; omega)
                    | some v =>
                      have Hlk := Lib.hid hlk
                      clear hlk
                      have hown3 := HLr.out.out_.own
                      have hlt3 := HLr.out.b.lt
                      have hol1 : out1.length ≤ 8001 := by have := HB.out; omega
                      have hvI : InI vars := by have := HB.out; unfold InI; omega
                      have hdI : InI dv := by have := HB.out; unfold InI; omega
                      go_upto_region 30 with (first | (refine wpList_lookupI (κ := Int) rfl _ _ 56 true rfl Tryd.underlying56 Tryd.underlying3 (Tryd.zero_intP _) w.heap.size _ rfl hmap dv rfl ?_; rw [Hlk.out]; simp only [Option.getD_some, Option.isSome_some]) | (at_builtin; refine wpList_append_own_at _ rfl _ _ 38 rfl (w.heap.size + 2) 41 ix _ 6 104 Tryd.underlying38 xi0 xz0 xz1 xz2 rfl (by decide) (.slice aV out1.length cV) out1.length xs rfl (((hown3.alloc _).alloc _).alloc _) ⟨wr.heap.size + 1 + 1, 0, none⟩ 1 1 [.int .i64 2, .slice (some ⟨wr.heap.size, 0, none⟩) 1 1, .slice (some ⟨wr.heap.size + 1, 0, none⟩) 1 1, .int .i64 0, .string ⟨#[]⟩, .slice none 0 0] rfl rfl (World.news_of_block (new3 wr _ _ _)) (by simp [Value.oneCell']) (by unfold maxLen; omega) (by omega) (by simp; omega) ?_; intro v6 w6 hown6 hg6 hnil6 hat6; clear hnil6; have HApp := Lib.hid (HLr.out.app hvI hdI hown6 hg6 (by rcases hat6 with h | h; exact Or.inl h; exact Or.inr ⟨_, h, by simp⟩)); obtain ⟨a6, c6, rfl, -, -⟩ := row_slice hown6; clear hown6 hg6 hat6))
                      have hbx6 : w6.cell? ⟨w.heap.size + 1, 0, none⟩ = some (.map (some w.heap.size)) := by have h := HApp.out.b.box; simp [World.cell?, h]
                      have hmap6 := HApp.out.map
                      clear hown3 hbx hmap hbo hco
                      go_wp2_with (refine wpList_rangeI (κ := Int) rfl _ 56 rfl Tryd.underlying56 w.heap.size _ rfl hmap6 ?_; intro w7 hr7 hg7 hz7; have HR7 := Lib.hid (PR.start HApp.out hr7 hg7 hz7); clear hr7 hg7 hz7)
                      go_simp
                      have hkn := hmap6.keys
                      have hw0 := Walk.start dv vars m1
                      have Hw0 := Lib.hid hw0
                      have Hkn := Lib.hid hkn
                      clear hw0 hkn hbx6 hmap6
                      obtain ⟨gO, hgO⟩ : ∃ g, g = gk := ⟨_, rfl⟩
                      subst hgO
                      obtain ⟨wi, hwi⟩ : ∃ wi, wi = wr := ⟨_, rfl⟩
                      subst hwi
                      go_loopg [22] (m1.map (·.1)).length (fun k _ wq => ∃ (m2 : IMap Int) (left : List Int), left.length ≤ k ∧ PR w w6.heap.size m2 left (.slice (some ⟨bo, oo, none⟩) order.length cO) order (fun k => if k = w6.heap.size then boxL else relab lab (.slice a6 (out1.length + 1) c6) 2 k) (.slice a6 (out1.length + 1) c6) (out1 ++ [moveI vars dv]) (xs ++ [.int .i64 2, .slice (some ⟨wi.heap.size, 0, none⟩) 1 1, .slice (some ⟨wi.heap.size + 1, 0, none⟩) 1 1, .int .i64 0, .string ⟨#[]⟩, .slice none 0 0]) wq ∧ Walk dv vars m1 m2 left)
                      case atStart => exact ⟨m1, _, Nat.le_refl _, HR7.out, Hw0.out⟩
                      case round =>
                        clear HR7 Hw0
                        obtain ⟨m2, left, hleft, hR, hW⟩ := hrel
                        have hRm := hR.map
                        have HR := Lib.hid hR
                        have HW := Lib.hid hW
                        clear hR hW
                        go_wp2_with (refine wpList_nextI (κ := Int) rfl _ rfl w.heap.size w6.heap.size m2 left rfl hRm ?hD ?hM)
                        case hD =>
                          intro h0
                          subst h0
                          clear hRm
                          have Hfin := Lib.hid HW.out.fin
                          have hg1 : 2 * rings ≤ out1.length ∧ 2 * m1.length + 1 ≤ gO := by
                            rcases Hk.out with h | ⟨_, ⟨d, hd⟩, _⟩
                            · exact h
                            · exact absurd hd (Hnf.out d)
                          have Hg1 := Lib.hid hg1
                          clear hg1 HW hleft
                          go_wp2_with fail
                          go_roundg (gO - 1)
                          case measure =>
                            have := Hg1.out
                            omega
                          case rel =>
                            have hg := Hg1.out
                            obtain ⟨f1, f2, f3⟩ := Hfin.out
                            obtain ⟨r1, r2⟩ := HS.out.ring (d := dv) (by rw [Hlk.out]; rfl) f1 f2 f3
                            refine ⟨m2, vars + 1, _, _, out1 ++ [moveI vars dv], _, rings + 1, ?_, rfl, HR.out.done, r1, Or.inr ⟨by rw [List.length_append, List.length_singleton]; omega, ⟨dv, r2⟩, by rw [f3]; omega⟩⟩
                            have hvv : vars + 1 ≤ 9223372036854775807 ∧ 0 ≤ vars := by have := HB.out; omega
                            exact congrArg _ (IntWalk.wrap64_in _ ⟨by omega, by omega⟩)
                        case hM =>
                          intro x u left' w8 hx hlu hr8 hlt h1 h2 h3 hg8 hz8 hent
                          have HR8 := Lib.hid (HR.out.turn (Or.inl rfl) hr8 hg8 (by omega))
                          obtain ⟨au, rfl, hau⟩ : ∃ au, u = .int .i64 au ∧ InI au := by
                            rcases HW.out.new x u hlu with ⟨g, _⟩ | g
                            · obtain ⟨a, e, g1, g2⟩ := HS.out.vals x u g
                              have := HB.out
                              exact ⟨a, e, by unfold InI; omega⟩
                            · exact ⟨vars, g, hvI⟩
                          have hbx8 : w8.cell? ⟨w.heap.size + 1, 0, none⟩ = some (.map (some w.heap.size)) := by have h := HR8.out.b.box; simp [World.cell?, h]
                          have Hx := Lib.hid hx
                          have Hlu := Lib.hid hlu
                          have H1 := Lib.hid h1
                          have H2 := Lib.hid h2
                          have H3 := Lib.hid h3
                          clear hx hlu h1 h2 h3 hg8 hz8 hRm
                          by_cases e : au = dv
                          · subst e
                            go_wp2_with (first | (refine wpList_entryI rfl _ rfl _ _ rfl hent ?_) | (refine wpList_updateR (κ := Int) rfl _ _ _ 56 rfl Tryd.underlying56 Tryd.underlying3 w.heap.size w6.heap.size m2 left' rfl hr8 x (.int .i64 vars) rfl rfl (by rw [Hlu.out]; rfl) ?_; intro w9 hr9 hg9; have HR9 := Lib.hid (HR8.out.turn (Or.inr rfl) hr9 hg9 hg9.size); clear hr9 hg9))
                            go_simp
                            go_roundg (gk - 1)
                            case measure => omega
                            case rel => exact ⟨_, left', by omega, HR9.out, HW.out.put (by rw [Hlu.out]; rfl) H1.out H2.out H3.out⟩
                          · go_wp2_with (refine wpList_entryI rfl _ rfl _ _ rfl hent ?_)
                            go_roundg (gk - 1)
                            case measure => omega
                            case rel => exact ⟨_, left', by omega, HR8.out, HW.out.skip Hlu.out (fun h => e (by injection h)) H1.out H2.out⟩
                  · exfalso
                    obtain rfl : i = order.length := by omega
                    rw [List.take_length] at hno
                    cases m1 with
                    | nil => simp at hml
                    | cons p r =>
                      have h1 : (lookI (p :: r) p.1).isSome = true := by simp [lookI]
                      have h2 := hno p.1 (HS.out.keys p.1 h1)
                      rw [h2] at h1
                      cases h1
              · have Hk2 := Hk.out
                go_wp2_with fail
                go_roundg (gk - 1)
                case measure => omega
                case rel => exact ⟨m1, vars, lab, _, out1, xs, rings, rfl, rfl, hL, hS, Or.inl ⟨by omega, by omega⟩⟩
end Go.Proofs.YthgfdcoicihpdaaDoor

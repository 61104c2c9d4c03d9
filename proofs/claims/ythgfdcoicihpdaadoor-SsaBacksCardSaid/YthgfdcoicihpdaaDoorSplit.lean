/-
  ssa.split, walked: ways to blocks with Phis get blocks of their own.
-/
import Derived.Test.YthgfdcoicihpdaaDoorSplitM
namespace Go.Proofs.YthgfdcoicihpdaaDoor
open Go.RowKit Go.Pst
set_option linter.unusedVariables false
set_option linter.unusedSimpArgs false

/-- The map of the ways that have been split at block i. -/
def MadeIs (m : IMap Int) (n0 i : Nat) (E : List (Nat × Nat)) : Prop := ∀ t : Nat, (∃ e, ∃ he : e < E.length, E[e] = (i, t) ∧ lookI m (t : Int) = some (.int .i64 ((n0 + e : Nat) : Int))) ∨ ((i, t) ∉ E ∧ lookI m (t : Int) = none)
theorem MadeIs.put {m : IMap Int} {n0 i t : Nat} {E : List (Nat × Nat)} (h : MadeIs m n0 i E) (hn : (i, t) ∉ E) : MadeIs (putI m (t : Int) (.int .i64 ((n0 + E.length : Nat) : Int))) n0 i (E ++ [(i, t)]) := fun s => by
  by_cases e : s = t
  · subst e
    exact Or.inl ⟨E.length, by simp, by simp, lookI_put_same _ _ _⟩
  · have hne : (t : Int) ≠ (s : Int) := by omega
    rw [lookI_put_other _ _ hne]
    rcases h s with ⟨q, hq, e1, e2⟩ | ⟨e1, e2⟩
    · exact Or.inl ⟨q, by simp; omega, by rw [List.getElem_append_left hq]; exact e1, e2⟩
    · refine Or.inr ⟨fun hm => ?_, e2⟩
      rcases List.mem_append.1 hm with g | g
      · exact e1 g
      · simp at g; exact e g
theorem nodup_snoc {α : Type} {l : List α} {x : α} (h : l.Nodup) (hx : x ∉ l) : (l ++ [x]).Nodup := by
  rw [List.nodup_append]
  exact ⟨h, by simp, fun a ha b hb e => hx (by simp at hb; subst hb; exact e ▸ ha)⟩
theorem head_mem {c : PCode} {i : Nat} (hi : i < c.blocks.length) {t : Nat} (ht : t < (aheadF c).length) (hm : (t : Int) ∈ toL c.blocks[i]) : 1 ≤ (aheadF c)[t].length :=
  List.length_pos_of_mem ((ahead_mem ht (i : Int)).2 ⟨i, hi, rfl, hm⟩)

/-- The map of new blocks turned. -/
theorem fresh_put {c : PCode} {X : List (List PInstr)} {lo P R : Nat} {w wr w1 : World} {aO aT : Option Addr} {ah : Value} {cO cT nT : Nat} {vs : Nat → Value} {lab : Nat → Nat} {mb r o i : Nat} (h : SM c lo P R w ah (.slice aO X.length cO) vs lab wr X) (hlm : lab mb = boxL) (hmP : mb ≠ P) (hmR : mb ≠ R) (hmlo : lo ≤ mb) (hmlt : mb < wr.heap.size) (hg : wr.grownBy w1 (some mb))
    (hr : r < wr.heap.size) (hlr : lab r = 2 * i + 2) (hc : wr.cell? ⟨r, o, none⟩ = some (.slice aT nT cT)) (hi : i < X.length) :
    SM c lo P R w ah (.slice aO X.length cO) vs lab w1 X ∧ w1.cell? ⟨P, 5, none⟩ = some (.slice aO X.length cO) ∧ w1.frozen? ⟨P, 5, none⟩ = false ∧ w1.ownsRow lo 38 1 (.slice aO X.length cO) X.length ((List.range X.length).map vs) ∧ w1.cell? ⟨r, o, none⟩ = some (.slice aT nT cT) ∧ wr.heap.size ≤ w1.heap.size := by
  have hlen := h.m.len
  have oth : ∀ k, k < wr.heap.size → k ≠ mb → w1.heap[k]? = wr.heap[k]? := fun k hk hne => hg.block k hk (fun e => by injection e with e; exact hne e)
  have hS : SM c lo P R w ah (.slice aO X.length cO) vs lab w1 X := h.keep hg.size (fun k hk hd => oth k hk (fun e => by rcases hd with hd | hd | hd; exact hd (e ▸ hlm); exact hmP (e ▸ hd); exact hmR (e ▸ hd))) (fun _ _ => rfl) (fun k hk => h.new k (Nat.le_trans hg.size hk)) ((Below.refl _ _).grown hg h.m.lo (fun k hk => by cases hk; exact hmlo))
  have hrm : r ≠ mb := fun e => by rw [e, hlm] at hlr; unfold boxL at hlr; omega
  exact ⟨hS, by simp [World.cell?, hS.bP], by simp [World.frozen?, hS.bP], hS.m.own, (World.cell?_of_block (a := ⟨r, o, none⟩) (oth r hr hrm)).trans hc, hg.size⟩
theorem new3 (w : World) (o1 o2 o3 : Obj) : (((w.alloc o1).alloc o2).alloc o3).heap[w.heap.size + 1 + 1]? = some o3 := by
  have h := heap_alloc_new ((w.alloc o1).alloc o2) o3
  rw [World.size_alloc, World.size_alloc] at h
  exact h
theorem fresh_box {c : PCode} {X : List (List PInstr)} {lo P R : Nat} {w w1 w6 : World} {ah vO : Value} {vs : Nat → Value} {lab : Nat → Nat} {o1 o2 o3 : Obj} (h : SM c lo P R w ah vO vs lab w1 X) (hg : (((w1.alloc o1).alloc o2).alloc o3).grownBy w6 vO.ownBlock) :
    w6.cell? ⟨P, 5, none⟩ = some vO ∧ w6.frozen? ⟨P, 5, none⟩ = false := by
  have hl := (Array.getElem?_eq_some_iff.1 h.bP).1
  have e : w6.heap[P]? = w1.heap[P]? := by
    rw [grown_other hg (by simp; omega) (fun e => by have := h.m.lab1 P e; rw [h.lP] at this; exact absurd this (by decide)), Below.heap_alloc _ _ _ (by simp; omega), Below.heap_alloc _ _ _ (by omega)]
  rw [h.bP] at e
  exact ⟨by simp [World.cell?, e], by simp [World.frozen?, e]⟩
theorem Tryd.zero_intS (w : World) : (zeroValue 3).run Tryd.prog w = .ok (.int .i64 0) w := by kernel_rfl

set_option maxRecDepth 100000 in
set_option maxHeartbeats 16000000 in
theorem split_any {fs : List PCode} {c : PCode} {A : Nat → Nat} (H : PhiOK fs c A)
    (hA : ∀ i, i < c.blocks.length → A i = ((aheadF c).getD i []).length) (hf : FitCode c) (hI : c.name.size ≤ maxLen ∧ InI c.params ∧ InI c.results ∧ InI c.vars ∧ InI c.slots)
    {w : World} {lab : Nat → Nat} {lo : Nat} {vO : Value} {vs : Nat → Value} (hM : CodeM lab w lo vO vs c.blocks) (hnew : ∀ k, w.heap.size ≤ k → lab k = 0) (hlow : ∀ k, k < lo → lab k = lowL) :
    Calls Tryd.prog 9 #[.agg #[.string c.name, .int .i64 c.params, .int .i64 c.results, .int .i64 c.vars, .int .i64 c.slots, vO]] w fun e w' => ∃ vO' vs' lab' X L E X2, e = .returned (.agg #[.string c.name, .int .i64 c.params, .int .i64 c.results, .int .i64 c.vars, .int .i64 c.slots, vO']) ∧ SplitR c.blocks (fun _ _ => True) X L E ∧ ReD (fun i => ((aheadF (withB c X)).getD i []).length) X X2 c.blocks.length 0 ∧
      ReR X (fun i => ((aheadF (withB c X)).getD i []).length) c.vars X2 ∧ CodeM lab' w' lo vO' vs' X2 ∧ (∀ k, w'.heap.size ≤ k → lab' k = 0) ∧ (∀ k, k < lo → lab' k = lowL) ∧ Below lo w w' := by
  obtain ⟨aO, cO, rfl⟩ := ownsRow_slice hM.own
  have hAlen : (aheadF c).length = c.blocks.length := by simp [aheadF]
  have hn0 := H.n0
  obtain ⟨i0, hi0, hz0, hz1, hz2⟩ := info_parts Tryd.info_blk
  have HI := Lib.hid hI
  have HM := Lib.hid hM
  have HN := Lib.hid hnew
  have HLo := Lib.hid hlow
  have HF := Lib.hid hf
  have HA := Lib.hid hA
  clear hI hM hnew hlow hf hA
  go_enter Tryd.func9, Tryd.ntmps9
  go_wp2_with fail
  generalize hW1 : (w.alloc (.cells #[.string c.name, .int .i64 c.params, .int .i64 c.results, .int .i64 c.vars, .int .i64 c.slots, .slice aO c.blocks.length cO] 28)).alloc (.cells #[.string ⟨#[]⟩, .int .i64 0, .int .i64 0, .int .i64 0, .int .i64 0, .slice none 0 0] 28) = W1
  have hs1 : W1.heap.size = w.heap.size + 2 := by rw [← hW1]; simp
  have hb1 : Below w.heap.size w W1 := by rw [← hW1]; exact below_box2 _ _ _
  have hP1 : W1.heap[w.heap.size]? = some (.cells #[.string c.name, .int .i64 c.params, .int .i64 c.results, .int .i64 c.vars, .int .i64 c.slots, .slice aO c.blocks.length cO] 28) := by rw [← hW1, Below.heap_alloc _ _ _ (by simp)]; exact heap_alloc_new _ _
  have hR1 : W1.heap[w.heap.size + 1]? = some (.cells #[.string ⟨#[]⟩, .int .i64 0, .int .i64 0, .int .i64 0, .int .i64 0, .slice none 0 0] 28) := by
    have h := heap_alloc_new (w.alloc (.cells #[.string c.name, .int .i64 c.params, .int .i64 c.results, .int .i64 c.vars, .int .i64 c.slots, .slice aO c.blocks.length cO] 28)) (.cells #[.string ⟨#[]⟩, .int .i64 0, .int .i64 0, .int .i64 0, .int .i64 0, .slice none 0 0] 28)
    rw [World.size_alloc] at h
    rw [← hW1]; exact h
  clear hW1
  obtain ⟨lab1, hlab1⟩ : ∃ l : Nat → Nat, l = fun k => if w.heap.size ≤ k ∧ k < w.heap.size + 2 then boxL else lab k := ⟨_, rfl⟩
  have l1 : ∀ k, k < w.heap.size → lab1 k = lab k := fun k hk => by rw [hlab1]; exact if_neg (by omega)
  have l2 : ∀ k, W1.heap.size ≤ k → lab1 k = 0 := fun k hk => by rw [hlab1]; show (if w.heap.size ≤ k ∧ k < w.heap.size + 2 then boxL else lab k) = 0; rw [if_neg (by omega)]; exact HN.out k (by omega)
  have l3 : lab1 (w.heap.size + 1) = boxL := by rw [hlab1]; exact if_pos ⟨by omega, by omega⟩
  have l4 : lab1 w.heap.size = boxL := by rw [hlab1]; exact if_pos ⟨by omega, by omega⟩
  have hM1 : CodeM lab1 W1 lo (.slice aO c.blocks.length cO) vs c.blocks := HM.out.keep hb1.size (fun k hk _ => hb1.block k hk) (fun k hk _ => l1 k hk)
  have hlo := HM.out.lo
  have hcr := code_reads (c := c) hM1 HI.out
  refine (ahead_any c _ W1 hcr HF.out).mono ?_
  rintro e w2 ⟨va, rfl, hva, hb2⟩
  obtain ⟨aA, cA, rfl, -⟩ := rIntss_open hva
  rw [hAlen] at hva ⊢
  have hz2' := hb2.size
  have h0 : SM c lo w.heap.size (w.heap.size + 1) w (.slice aA c.blocks.length cA) (.slice aO c.blocks.length cO) vs lab1 w2 c.blocks :=
    ⟨hM1.below hb2, l4, l3, fun k hk => l2 k (by omega), fun k hk => (l1 k (by omega)).trans (HLo.out k hk),
      Good.wide (R := rIntss) hva (fun k _ hk => l2 k hk), (hb2.block _ (by omega)).trans hP1, (hb2.block _ (by omega)).trans hR1, (hb1.trans (hb2.mono (by omega))).mono hlo⟩
  have s0 : SplitR c.blocks (fun j _ => j < 0) c.blocks (fun j => toL (c.blocks.getD j [])) [] := (SplitR.start H.pos).wider (fun _ _ h => h.elim)
  clear hs1 hb1 hP1 hR1 hlab1 l1 l2 l3 l4 hM1 hva hb2 hz2' HM HN HLo hcr
  have p5 : w2.cell? ⟨w.heap.size, 5, none⟩ = some (.slice aO c.blocks.length cO) := by simp [World.cell?, h0.bP]
  go_wp2_with fail
  go_loopw [17] (fun iv wr => ∃ (i : Nat) (aO : Option Addr) (cO : Nat) (vs : Nat → Value) (lab : Nat → Nat) (X : List (List PInstr)) (L : Nat → List Int) (E : List (Nat × Nat)), i ≤ c.blocks.length ∧ iv = .int .i64 i ∧ SM c lo w.heap.size (w.heap.size + 1) w (.slice aA c.blocks.length cA) (.slice aO X.length cO) vs lab wr X ∧ SplitR c.blocks (fun j _ => j < i) X L E) (fun iv _ => c.blocks.length - (intOf iv).toNat)
  case atStart => exact ⟨0, _, _, _, _, _, _, _, Nat.zero_le _, rfl, h0, s0⟩
  case round =>
    clear h0 p5 s0
    obtain ⟨i, aO, cO, vs, lab, X, L, E, hi, rfl, hR, hS⟩ := hrel
    have hXs := hS.small H
    have hXl := hS.len
    have p5 : wr.cell? ⟨w.heap.size, 5, none⟩ = some (.slice aO X.length cO) := by simp [World.cell?, hR.bP]
    by_cases hil : i < c.blocks.length
    · have hil1 : (i : Int) < (c.blocks.length : Int) := by omega
      have hiX : i < X.length := by omega
      have hiX1 : (i : Int) < (X.length : Int) := by omega
      clear hXl
      obtain ⟨-, aO', cO', he, hcO1, hcO2, hcell⟩ := ownsRow_open hR.m.own
      simp only [Value.slice.injEq] at he
      obtain ⟨rfl, -, rfl⟩ := he
      obtain ⟨bO, rfl, -, hbO, hcO, -⟩ := hcell i (by omega)
      have hcO' : wr.cell? ⟨bO, i, none⟩ = some (vs i) := by rw [hcO]; simp [show i < X.length by omega]
      obtain ⟨r, capr, hv, hr1, hr2, hr3, hr4, hr5, -⟩ := hR.m.row_at hiX
      rw [hv] at hcO'
      have hLe := hS.row_len H hil hiX
      have hpos : 0 < c.blocks[i].length := H.pos _ (List.getElem_mem hil)
      obtain ⟨aT, cT, hcT, hT1, -⟩ := hR.m.to_at hiX (by omega) hv
      have hLl : (toL X[i]).length = (toL c.blocks[i]).length := by rw [hS.row_to H hil hiX, hS.llen i hil]
      rw [hLl, hLe] at hcT
      rw [hLl] at hT1
      rw [hLe] at hcO' hr1 hv
      obtain ⟨Li, hLi⟩ : ∃ n, n = c.blocks[i].length := ⟨_, rfl⟩
      rw [← hLi] at hcT hcO' hr1 hpos hv
      obtain ⟨nT, hnT⟩ : ∃ n, n = (toL c.blocks[i]).length := ⟨_, rfl⟩
      rw [← hnT] at hcT hT1
      have HnT := Lib.hid hnT
      have HLi := Lib.hid hLi
      clear hLi hnT hLl hLe
      unfold maxLen at hr2 hT1
      have hLi2 : (0 : Int) < (Li : Int) := by omega
      have HR := Lib.hid hR
      have HS := Lib.hid hS
      have Hv := Lib.hid hv
      clear hR hcell hcO hv hS
      by_cases hT2 : nT < 2
      · have hT3 : (nT : Int) < 2 := by omega
        go_wp2_with fail
        go_roundw
        case rel => exact ⟨i + 1, _, _, _, _, _, _, _, by omega, by go_num, HR.out, HS.out.wider (fun j k h => by have h' : j < i := h; show j < i + 1; omega)⟩
        all_goals (simp [intOf]; omega)
      · have hT3 : ¬ ((nT : Int) < 2) := by omega
        have hcTm : ∀ o, (wr.alloc o).cell? ⟨r, (Li - 1) * 6 + 5, none⟩ = some (.slice aT nT cT) := fun o => (World.cell?_alloc_lt _ _ _ hr4).trans hcT
        have hmk := @run_makeMap Tryd.prog
        go_wp2_with fail
        clear hcTm hmk
        have mz : wr.heap.size ≤ wr.heap.size := Nat.le_refl _
        obtain ⟨mb, hmb⟩ : ∃ g, g = wr.heap.size := ⟨_, rfl⟩
        obtain ⟨wm, hwm⟩ : ∃ x, x = wr.alloc (.map #[] 0) := ⟨_, rfl⟩
        have gs : wm.heap.size = mb + 1 := by rw [hwm, hmb]; simp
        have gold : ∀ k, k < mb → wm.heap[k]? = wr.heap[k]? := fun k hk => by rw [hwm]; exact Below.heap_alloc _ _ _ (by omega)
        have gm : MapI wm mb ([] : IMap Int) := by rw [hwm, hmb]; exact MapI.made Int wr
        have gbel : Below lo wr wm := by rw [hwm]; exact (Below.refl _ _).alloc HR.out.m.lo _
        rw [← hmb, ← hwm]
        obtain ⟨labm, hlabm⟩ : ∃ l : Nat → Nat, l = fun k => if k = mb then boxL else lab k := ⟨_, rfl⟩
        have m1 : ∀ k, k < wr.heap.size → labm k = lab k := fun k hk => by rw [hlabm]; exact if_neg (by omega)
        have m2 : ∀ k, wm.heap.size ≤ k → labm k = 0 := fun k hk => by rw [hlabm]; show (if k = mb then boxL else lab k) = 0; rw [if_neg (by omega)]; exact HR.out.new k (by omega)
        have m3 : labm mb = boxL := by rw [hlabm]; exact if_pos rfl
        have hRm : SM c lo w.heap.size (w.heap.size + 1) w (.slice aA c.blocks.length cA) (.slice (some ⟨bO, 0, none⟩) X.length cO) vs labm wm X := HR.out.keep (by omega) (fun k hk _ => gold k (by omega)) m1 m2 gbel
        have hSm : SplitR c.blocks (fun j q => j < i ∨ (j = i ∧ q < 0)) X L E := HS.out.wider (fun j q h => Or.inl h)
        have hfr : MadeIs [] c.blocks.length i E := fun t => Or.inr ⟨HS.out.fresh H.tos hil (fun k h => by have h' : i < i := h; omega) t, rfl⟩
        have hcm : wm.cell? ⟨r, (Li - 1) * 6 + 5, none⟩ = some (.slice aT nT cT) := (World.cell?_of_block (a := ⟨r, (Li - 1) * 6 + 5, none⟩) (gold r (by omega))).trans hcT
        have hmb2 : w.heap.size + 2 ≤ mb := by have := (Array.getElem?_eq_some_iff.1 HR.out.bR).1; omega
        have hrm : labm r = 2 * i + 2 := (m1 r hr4).trans hr3
        have hrw : r < wm.heap.size := by omega
        have HRm := Lib.hid hRm
        have HSm := Lib.hid hSm
        have Hfr := Lib.hid hfr
        have Hgm := Lib.hid gm
        have Hmb := Lib.hid hmb
        clear hRm hSm hfr gm hwm hmb hlabm m1 m2 gold gbel mz HR HS hcT p5 hcO'
        go_loopw [42] (fun kv wq => ∃ (k : Nat) (aO : Option Addr) (cO : Nat) (vs : Nat → Value) (lab : Nat → Nat) (X : List (List PInstr)) (L : Nat → List Int) (E : List (Nat × Nat)) (m : IMap Int), k ≤ nT ∧ kv = .int .i64 k ∧ SM c lo w.heap.size (w.heap.size + 1) w (.slice aA c.blocks.length cA) (.slice aO X.length cO) vs lab wq X ∧ SplitR c.blocks (fun j q => j < i ∨ (j = i ∧ q < k)) X L E ∧ MadeIs m c.blocks.length i E ∧ MapI wq mb m ∧
            lab mb = boxL ∧ lab r = 2 * i + 2 ∧ vs i = .slice (some ⟨r, 0, none⟩) Li capr ∧ wq.cell? ⟨r, (Li - 1) * 6 + 5, none⟩ = some (.slice aT nT cT) ∧ r < wq.heap.size) (fun kv _ => nT - (intOf kv).toNat)
        case atStart => exact ⟨0, _, _, _, _, _, _, _, _, Nat.zero_le _, rfl, HRm.out, HSm.out, Hfr.out, Hgm.out, m3, hrm, Hv.out, hcm, hrw⟩
        case round =>
          clear HRm HSm Hfr Hgm m3 hrm Hv hcm hXs hiX hiX1 hcO1 hcO2 hr4 hr5 hr3 hbO gs
          obtain ⟨k, aO, cO, vs, lab, X, L, E, m, hk, rfl, hR, hS, hm, hmap, hlm, hlr, hv, hcT, hrl⟩ := hrel
          obtain ⟨wq, hwq⟩ : ∃ wo, wo = wr := ⟨_, rfl⟩
          subst hwq
          have hXs := hS.small H
          have hXl := hS.len
          have p5 : wq.cell? ⟨w.heap.size, 5, none⟩ = some (.slice aO X.length cO) := by simp [World.cell?, hR.bP]
          by_cases hkl : k < nT
          · have hkl1 : (k : Int) < (nT : Int) := by omega
            have hiX : i < X.length := by omega
            have hkT : k < (toL c.blocks[i]).length := by rw [← HnT.out]; exact hkl
            have hLe := hS.row_len H hil hiX
            have hv2 := hv
            rw [HLi.out, ← hLe] at hv2
            have hkX : k < (toL X[i]).length := by rw [hS.row_to H hil hiX, hS.llen i hil]; exact hkT
            obtain ⟨aT', cT', hcT', -, hTat⟩ := hR.m.to_at hiX (by rw [hLe]; exact H.pos _ (List.getElem_mem hil)) hv
            rw [hLe, ← HLi.out, hcT] at hcT'
            simp only [Option.some.injEq, Value.slice.injEq] at hcT'
            obtain ⟨rfl, -, rfl⟩ := hcT'
            obtain ⟨bT, oT, rfl, hbT, hbTl, hcK, hfK⟩ := hTat k hkX
            have hrest := hS.rest i hil k (by rw [hS.llen i hil]; exact hkT) hkT (fun h => by rcases h with h | ⟨-, h⟩ <;> omega)
            have hin := inAll_mem (H.tos _ (List.getElem_mem hil)) (List.getElem_mem hkT)
            obtain ⟨t, ht⟩ : ∃ t : Nat, (toL c.blocks[i])[k] = (t : Int) := ⟨_, (Int.toNat_of_nonneg hin.1).symm⟩
            rw [ht] at hin hrest
            have htl : t < c.blocks.length := by omega
            have hkv : (toL X[i])[k] = (t : Int) := by
              have e := hS.row_to H hil hiX
              simp only [e]
              exact hrest
            rw [hkv] at hcK
            have htX : t < X.length := by omega
            have htX1 : (t : Int) < (X.length : Int) := by omega
            have HXl := Lib.hid hXl
            clear hXl
            obtain ⟨-, aO', cO', he, hcO1, hcO2, hcell⟩ := ownsRow_open hR.m.own
            simp only [Value.slice.injEq] at he
            obtain ⟨rfl, -, rfl⟩ := he
            obtain ⟨bO', rfl, -, hbO, hcO, -⟩ := hcell t (by omega)
            have hcOt : wq.cell? ⟨bO', t, none⟩ = some (vs t) := by rw [hcO]; simp [htX]
            obtain ⟨rt, capt, hvt, -⟩ := hR.m.row_at htX
            rw [hvt] at hcOt
            have hrow : RowM lab wq t (.slice (some ⟨rt, 0, none⟩) X[t].length capt) X[t] := by have := hR.m.rows t htX; rw [hvt] at this; exact this
            have hph := phis_here hrow
            obtain ⟨aA', cA', he, hA1, hA2, hAat⟩ := rSlice_one hR.ah_
            simp only [Value.slice.injEq] at he
            obtain ⟨rfl, -, rfl⟩ := he
            obtain ⟨bA, oA, uA, rfl, hSA, hbA, hcA, huA⟩ := hAat t (by omega)
            obtain ⟨aq, cq, rfl, hq1, hq2, -⟩ := rInts_val huA
            have hq0 := head_mem hil (t := t) (by omega) (by rw [← ht]; exact List.getElem_mem hkT)
            unfold maxLen at hq2
            obtain ⟨Nq, hNq⟩ : ∃ l, l = (aheadF c)[t].length := ⟨_, rfl⟩
            rw [← hNq] at hcA hq0 hq1
            have hNq1 : ¬ ((Nq : Int) < 1) := by omega
            obtain ⟨Lt, hLt⟩ : ∃ l, l = X[t].length := ⟨_, rfl⟩
            obtain ⟨ph, hphE⟩ : ∃ l, l = phisN X[t] := ⟨_, rfl⟩
            rw [← hLt, ← hphE] at hph
            rw [← hLt] at hcOt
            have hphb : ph ≤ 9223372036854775807 := by have := phisN_le X[t]; have := hrow; obtain ⟨_, _, _, g1, g2, _⟩ := this; unfold maxLen at g2; omega
            have Hph := Lib.hid hph
            have HR := Lib.hid hR
            have HS := Lib.hid hS
            have Hm := Lib.hid hm
            have Hmap := Lib.hid hmap
            have Hv := Lib.hid hv
            have Hv2 := Lib.hid hv2
            have HLe := Lib.hid hLe
            have HkT := Lib.hid hkT
            have ht9 : ∀ (h : k < (toL c.blocks[i]).length), (toL c.blocks[i])[k] = (t : Int) := fun _ => ht
            have Ht := Lib.hid ht9
            have Hown := Lib.hid hR.m.own
            clear hR hS hm hmap hcell hcO hrow huA hAat hTat hkv hLt hphE hNq hvt hrest hSA hv hv2 hLe ht ht9 hkT hkX hph
            by_cases hp0 : ph = 0
            · subst hp0
              go_wp2_with fail
              refine Hph.out.mono ?_
              rintro e w' ⟨rfl, rfl⟩
              go_wp2_with fail
              go_roundw
              case rel => exact ⟨k + 1, _, _, _, _, _, _, _, m, by omega, by go_num, HR.out, HS.out.wider (fun j q h => by rcases h with h | ⟨h1, h2⟩ <;> omega), Hm.out, Hmap.out, hlm, hlr, Hv.out, hcT, hrl⟩
              all_goals (simp [intOf]; omega)
            · have hp1 : ¬ ((ph : Int) = 0) := by omega
              have hp2 : ((ph : Int) == 0) = false := by simp [hp0]
              rcases Hm.out t with ⟨e, he, hee, hlk⟩ | ⟨hne, hlk⟩
              · have Hlk := Lib.hid hlk
                have heb : c.blocks.length + e ≤ 4002000 := by have := HXl.out; omega
                have hfin := SM.turn (F := []) (e := e) H (by simpa using HR.out) HS.out hil HkT.out (Ht.out _) htl (by simpa using HS.out.nodup) (by simpa using he) (by simpa using hee) (fun e' h1 h2 => by simp at h2; omega) (by rw [← HLi.out]; exact Hv.out) (by rw [← HLi.out]; exact hcT)
                have Hfin := Lib.hid hfin
                clear hlk hfin hee he
                go_wp2_with fail
                refine Hph.out.mono ?_
                rintro e' w' ⟨rfl, rfl⟩
                go_wp2_with (refine wpList_lookupI (κ := Int) rfl _ _ 56 true rfl Tryd.underlying56 Tryd.underlying3 (Tryd.zero_intS _) mb _ rfl Hmap.out (t : Int) rfl ?_; rw [Hlk.out]; simp only [Option.getD_some, Option.isSome_some])
                go_roundw
                case rel =>
                  obtain ⟨X', L', f1, f2, f3⟩ := Hfin.out
                  rw [List.append_nil] at f2
                  have hml : mb ≠ bT := fun e => by rw [e, f3] at hlm; have := f1.m.len; unfold boxL at hlm; omega
                  exact ⟨k + 1, _, _, _, _, X', L', E, m, by omega, by go_num, f1, f2, Hm.out, Hmap.out.setCell (a := ⟨bT, oT + k, none⟩) hml _, hlm, hlr, Hv.out,
                    (World.cell?_setCell_other _ _ _ _ (fun e => by injection e with e _ _; rw [← e, f3] at hlr; omega)).trans hcT, by simpa using hrl⟩
                all_goals (simp [intOf]; omega)
              · have Hlk := Lib.hid hlk
                have Hne := Lib.hid hne
                have hXb : X.length ≤ 4002000 := hXs
                have hPl := (Array.getElem?_eq_some_iff.1 HR.out.bP).1
                have hrP : r ≠ w.heap.size := fun e => by have := HR.out.lP; rw [← e, hlr] at this; have := HR.out.m.len; unfold boxL at *; omega
                have hmP : w.heap.size ≠ mb := by omega
                have hnd := nodup_snoc HS.out.nodup hne
                have Hnd := Lib.hid hnd
                clear hlk hne hnd
                go_wp2_with fail
                refine Hph.out.mono ?_
                rintro e' w' ⟨rfl, rfl⟩
                go_upto_region 18 with (first | (refine wpList_lookupI (κ := Int) rfl _ _ 56 true rfl Tryd.underlying56 Tryd.underlying3 (Tryd.zero_intS _) mb _ rfl Hmap.out (t : Int) rfl ?_; rw [Hlk.out]; simp only [Option.getD_none, Option.isSome_none]) | (refine wpList_updateI (κ := Int) rfl _ _ _ 56 rfl Tryd.underlying56 Tryd.underlying3 mb _ rfl Hmap.out (t : Int) (.int .i64 (X.length : Int)) rfl rfl ?_; intro w1 hm1 hg1; obtain ⟨hR1, p51, f51, hown1, hc1, hz1'⟩ := fresh_put HR.out hlm (by omega) (by omega) (by have := hlo; omega) Hmap.out.lt hg1 hrl hlr hcT hiX; have Hm1 := Lib.hid hm1; have HR1 := Lib.hid hR1; have Hg1 := Lib.hid hg1; clear hm1 hg1 hR1) | (at_builtin; refine wpList_append_own_at _ rfl _ _ 26 rfl lo 38 i0 _ 1 24 Tryd.underlying26 hi0 hz0 hz1 hz2 rfl (by decide) (.slice (some ⟨bO', 0, none⟩) X.length cO) X.length ((List.range X.length).map vs) rfl (((hown1.alloc _).alloc _).alloc _) ⟨w1.heap.size + 1 + 1, 0, none⟩ 1 1 [.slice (some ⟨w1.heap.size + 1, 0, none⟩) 1 1] rfl rfl (World.news_of_block (new3 w1 _ _ _)) (by simp [Value.oneCell']) (by unfold maxLen; omega) (by omega) (by simp; omega) ?_; intro v6 w6 hown6 hg6 hnil6 hat6; clear hnil6; obtain ⟨p56, f56⟩ := fresh_box HR1.out hg6; obtain ⟨a6, c6, rfl, -, -⟩ := row_slice hown6; have happ := HR1.out.app (t := (t : Int)) (by unfold InI; omega) hown6 hg6 (by rcases hat6 with h | h; exact Or.inl h; exact Or.inr ⟨_, h, by simp⟩) (by have := hlo; omega) (by omega); have Happ := Lib.hid happ; clear hown6 hg6 hat6 happ))
                all_goals
                  obtain ⟨lab6, hS6, hl6, hz6, ho6⟩ := Happ.out
                  clear Happ p56 f56
                  generalize w6.setCell ⟨w.heap.size, 5, none⟩ (.slice a6 (X.length + 1) c6) = wz at *
                  have hbT2 : bT ≠ w.heap.size := fun e => by have := HR.out.lP; rw [← e, hbT] at this; have := HR.out.m.len; unfold boxL at *; omega
                  have c6r : wz.cell? ⟨r, (Li - 1) * 6 + 5, none⟩ = some (.slice (some ⟨bT, oT, none⟩) nT cT) := (World.cell?_of_block (a := ⟨r, (Li - 1) * 6 + 5, none⟩) (ho6 r (by omega) hrP (by rw [hlr]; omega))).trans hc1
                  have e6b := (ho6 bT (by omega) hbT2 (by rw [hbT]; omega)).trans (Hg1.out.block bT hbTl (fun e => by injection e with e; rw [← e, hbT] at hlm; have := HR.out.m.len; unfold boxL at hlm; omega))
                  have c6b : wz.cell? ⟨bT, oT + k, none⟩ = some (.int .i64 (t : Int)) := (World.cell?_of_block (a := ⟨bT, oT + k, none⟩) e6b).trans hcK
                  have f6b : wz.frozen? ⟨bT, oT + k, none⟩ = false := (World.frozen?_of_block (a := ⟨bT, oT + k, none⟩) e6b).trans hfK
                  have HS6 := Lib.hid hS6
                  have Hl6 := Lib.hid hl6
                  have Ho6 := Lib.hid ho6
                  clear hS6 hl6 ho6 e6b
                  go_wp2_with fail
                  go_roundw
                  case rel =>
                    have hS7 : SM c lo w.heap.size (w.heap.size + 1) w (.slice (some ⟨bA, oA, none⟩) c.blocks.length cA) (.slice a6 (X ++ [(i, t)].map fun p => [jumpI p.2]).length c6) (upd vs X.length (.slice (some ⟨w1.heap.size + 1, 0, none⟩) 1 1)) lab6 wz (X ++ [(i, t)].map fun p => [jumpI p.2]) := by
                      have e : (X ++ [(i, t)].map fun p => [jumpI p.2]).length = X.length + 1 := by simp
                      rw [e]
                      exact HS6.out
                    have hvu : upd vs X.length (.slice (some ⟨w1.heap.size + 1, 0, none⟩) 1 1) i = .slice (some ⟨r, 0, none⟩) Li capr := (upd_other _ _ (by omega)).trans Hv.out
                    obtain ⟨X', L', f1, f2, f3⟩ := SM.turn (F := [(i, t)]) (e := E.length) H hS7 HS.out hil HkT.out (Ht.out _) htl Hnd.out (by simp) (by simp) (fun e' h1 h2 => by simp at h2; omega) (by rw [← HLi.out]; exact hvu) (by rw [← HLi.out]; exact c6r)
                    rw [← HXl.out] at f1
                    have hmp := Hm.out.put Hne.out
                    rw [← HXl.out] at hmp
                    have hml : mb ≠ bT := fun e => by rw [e, hbT] at hlm; have := HR.out.m.len; unfold boxL at hlm; omega
                    have hmz : MapI wz mb _ := Hm1.out.heap (Ho6.out mb Hm1.out.lt (by omega) (by rw [hlm]; decide))
                    exact ⟨k + 1, _, _, _, lab6, X', L', _, _, by omega, by go_num, f1, f2, hmp, hmz.setCell (a := ⟨bT, oT + k, none⟩) hml _, (Hl6.out mb Hm1.out.lt).trans hlm, (Hl6.out r (by omega)).trans hlr, hvu,
                      (World.cell?_setCell_other _ _ _ _ (fun e => by injection e with e _ _; rw [e, hlr] at hbT; omega)).trans c6r, by simp; omega⟩
                  all_goals (simp [intOf]; omega)
          · have hke : k = nT := by omega
            clear hXl
            subst hke
            go_wp2_with fail
            go_roundw
            case rel => exact ⟨i + 1, _, _, _, _, _, _, _, by omega, by go_num, hR, ⟨hS.len, hS.old, hS.llen, hS.way, fun j hj q hq hq2 hn => hS.rest j hj q hq hq2 (fun h => hn (by rcases h with h | ⟨h, -⟩; exact Nat.lt_succ_of_lt h; exact h ▸ Nat.lt_succ_self i)), hS.new, hS.edge, hS.nodup⟩⟩
            all_goals (simp [intOf]; omega)
    · have hie : i = c.blocks.length := by omega
      clear hXl
      subst hie
      obtain ⟨g0, g1, g2, g3, g4, g5, gz, gl⟩ := six_cells hR.bP
      have HR := Lib.hid hR
      have HS := Lib.hid hS
      clear hR hS
      go_wp2_with fail
      have hRO := reordered_any H HS.out HA.out (HS.out.fit H HF.out) HI.out HR.out.m HR.out.new HR.out.low HR.out.ah_ (F := fun k => k = w.heap.size + 1) (fun k hk => by have e : k = w.heap.size + 1 := hk; subst e; exact ⟨(Array.getElem?_eq_some_iff.1 HR.out.bR).1, HR.out.lR⟩)
      refine hRO.mono ?_
      rintro e w3 ⟨lab', X2, rfl, q0, q1, q2, q3, q4, q5, q6⟩
      obtain ⟨q7, q8⟩ := q6 (w.heap.size + 1) rfl
      have bR3 := q8.trans HR.out.bR
      obtain ⟨y0, y1, y2, y3, y4, y5, yz, yl⟩ := six_cells bR3
      obtain ⟨W, hW, hWb, hWs⟩ := six_set (.string c.name) (.int .i64 c.params) (.int .i64 c.results) (.int .i64 c.vars) (.int .i64 c.slots) (.slice aO X.length cO) bR3
      have hlo2 : lo ≤ w.heap.size := hlo
      have hM9 : CodeM lab' W lo (.slice aO X.length cO) vs X2 := q2.keep (w' := W) hWs.size (fun k hk hle => hWs.block k hk (fun e => by have e' : k = w.heap.size + 1 := e; subst e'; rw [q7] at hle; have := q2.len; unfold boxL at hle; omega)) (fun _ _ _ => rfl)
      have hE9 : SplitR c.blocks (fun _ _ => True) X L E ∧ ReD (fun i => ((aheadF (withB c X)).getD i []).length) X X2 c.blocks.length 0 ∧ ReR X (fun i => ((aheadF (withB c X)).getD i []).length) c.vars X2 ∧ CodeM lab' W lo (.slice aO X.length cO) vs X2 ∧ (∀ k, W.heap.size ≤ k → lab' k = 0) ∧ (∀ k, k < lo → lab' k = lowL) ∧ Below lo w W :=
        ⟨HS.out.wider (fun _ _ _ => trivial), q0, q1, hM9, fun k hk => q3 k (Nat.le_trans hWs.size hk), q4, (HR.out.bel.trans q5).trans (hWs.below q2.lo (fun k hk => by have e : k = w.heap.size + 1 := hk; omega))⟩
      have HE := Lib.hid hE9
      have HbW := Lib.hid hWb
      have HW := Lib.hid hW
      clear hRO q0 q1 q2 q3 q4 q5 q6 q7 q8 bR3 hWb hW hWs hM9 hE9 HR HS
      go_wp2_with fail
      rw [HW.out]
      obtain ⟨w0, w1, w2, w3, w4, w5, -, -⟩ := six_cells HbW.out
      exact bodyPost_ret (v := .agg #[.string c.name, .int .i64 c.params, .int .i64 c.results, .int .i64 c.vars, .int .i64 c.slots, .slice aO X.length cO]) (by simp [results, Tryd.results9, go_sem, w0, w1, w2, w3, w4, w5]) rfl ⟨_, vs, lab', X, L, E, X2, rfl, HE.out⟩
end Go.Proofs.YthgfdcoicihpdaaDoor

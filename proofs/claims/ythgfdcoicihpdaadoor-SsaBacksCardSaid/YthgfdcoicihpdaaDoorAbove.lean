/-
  ssa.Above: the contract: of each block that is reached the blocks on each way to it.
-/
import Derived.Test.YthgfdcoicihpdaaDoorAboveOf
import Derived.Test.YthgfdcoicihpdaaDoorFuncs
namespace Go.Proofs.YthgfdcoicihpdaaDoor
open Go.RowKit Go.Pst
set_option linter.unusedVariables false

set_option maxHeartbeats 1000000 in
theorem aboveClosure (n p k la gl ls gs lk b : Nat) (f x : Bool) (w : World) (hp : (p : Int) < (n : Int)) (hk : (k : Int) < (n : Int))
    (c1 : w.cell? ⟨la, 0, none⟩ = some (.slice (some ⟨gl, 0, none⟩) n n)) (c2 : w.cell? ⟨gl, p, none⟩ = some (.bool f)) (c3 : w.cell? ⟨ls, 0, none⟩ = some (.slice (some ⟨gs, 0, none⟩) n n))
    (c4 : w.cell? ⟨gs, p, none⟩ = some (.slice (some ⟨b, 0, none⟩) n n)) (c5 : w.cell? ⟨lk, 0, none⟩ = some (.int .i64 (k : Int))) (c6 : w.cell? ⟨b, k, none⟩ = some (.bool x)) :
    Calls Tryd.prog 51 #[.int .i64 (p : Int), .pointer (some ⟨la, 0, none⟩), .pointer (some ⟨ls, 0, none⟩), .pointer (some ⟨lk, 0, none⟩)] w fun e w' => e = .returned (.bool (f && !x)) ∧ Drawn w w' := by
  cases f with
  | false =>
    go_enter Tryd.func51, Tryd.ntmps51
    go_wp2_with fail
    go_quiet (fail)
    go_wp2_with fail
    go_ret
    exact ⟨rfl, _, rfl⟩
  | true =>
    go_enter Tryd.func51, Tryd.ntmps51
    go_wp2_with fail
    go_quiet (fail)
    go_wp2_with fail
    go_ret
    exact ⟨by simp, _, rfl⟩

theorem Tryd.info_bools : (Tryd.prog.info? 62).map (fun i => (i.zero, i.size, i.bytes)) = some (some (.slice none 0 0), 1, 24) := by kernel_rfl

/-- What stays while the sets shrink. -/
structure AbFix (c : PCode) (w wr : World) (la gl gs : Nat) (va : Value) : Prop where
  lbox : wr.cell? ⟨la, 0, none⟩ = some (.slice (some ⟨gl, 0, none⟩) c.blocks.length c.blocks.length)
  live : wr.rowIs gl 4 c.blocks.length (fun j => .bool (reachB c none j))
  sbox : wr.cell? ⟨gs + 1, 0, none⟩ = some (.slice (some ⟨gs, 0, none⟩) c.blocks.length c.blocks.length)
  ahead : rIntss (fun k => k < gs) wr [va] (aheadF c)
  la_lt : la < gs
  gl_lt : gl < gs
  w_le : w.heap.size ≤ gs
  size : gs + 2 ≤ wr.heap.size
  below : Below w.heap.size w wr
theorem AbFix.store {c : PCode} {w wr : World} {la gl gs : Nat} {va : Value} (h : AbFix c w wr la gl gs va) (o : Nat) (v : Value) : AbFix c w (wr.setCell ⟨gs, o, none⟩ v) la gl gs va := by
  have hk : ∀ k, k ≠ gs → (wr.setCell ⟨gs, o, none⟩ v).heap[k]? = wr.heap[k]? := fun k hk => Below.heap_setCell _ _ _ _ hk
  have hc : ∀ b o', b ≠ gs → (wr.setCell ⟨gs, o, none⟩ v).cell? ⟨b, o', none⟩ = wr.cell? ⟨b, o', none⟩ := fun b o' hb => World.cell?_of_block (w := wr) (a := ⟨b, o', none⟩) (hk b hb)
  exact ⟨by rw [hc _ _ (by have := h.la_lt; omega)]; exact h.lbox, h.live.of_block (hk _ (by have := h.gl_lt; omega)), by rw [hc _ _ (by omega)]; exact h.sbox,
    Good.kept (Keep.setCell wr ⟨gs, o, none⟩ v (by simp)) h.ahead, h.la_lt, h.gl_lt, h.w_le, by have := h.size; simpa [World.setCell] using this, h.below.setCell (by have := h.w_le; simpa using this) v⟩
theorem AbFix.later {c : PCode} {w wr wr' : World} {la gl gs : Nat} {va : Value} (h : AbFix c w wr la gl gs va) (hb : Below (gs + 2) wr wr') : AbFix c w wr' la gl gs va :=
  ⟨by rw [hb.cell (p := ⟨la, 0, none⟩) (by have := h.la_lt; show la < _; omega)]; exact h.lbox,
    h.live.of_block (hb.block _ (by have := h.gl_lt; omega)),
    by rw [hb.cell (p := ⟨gs + 1, 0, none⟩) (by show gs + 1 < _; omega)]; exact h.sbox,
    Good.keep (Keep.of_below' hb (fun k _ hk => by omega)) (fun _ _ h => h) h.ahead, h.la_lt, h.gl_lt, h.w_le, Nat.le_trans h.size hb.size, h.below.trans (hb.mono (by have := h.w_le; omega))⟩

theorem aboveAnswers {c : PCode} {w w2 : World} {la gl gs lk k : Nat} {va : Value} {bs : Nat → Nat} {S : Nat → Nat → Bool} (hf : AbFix c w w2 la gl gs va) (hm : BMat 62 4 w2 gs (gs + 2) c.blocks.length c.blocks.length bs S)
    (hk : w2.cell? ⟨lk, 0, none⟩ = some (.int .i64 (k : Int))) (hkn : k < c.blocks.length) (i : Nat) :
    Answers Tryd.prog 51 #[.pointer (some ⟨la, 0, none⟩), .pointer (some ⟨gs + 1, 0, none⟩), .pointer (some ⟨lk, 0, none⟩)] (fun x => reachB c none x.toNat && !S x.toNat k) (aheadRow c c.blocks.length i) w2 := by
  intro x hx w' hd
  obtain ⟨h0, h1⟩ := mem_aheadRow c _ i x hx
  obtain ⟨p, rfl⟩ := Int.eq_ofNat_of_zero_le h0
  have hp : p < c.blocks.length := by omega
  exact aboveClosure c.blocks.length p k la gl (gs + 1) gs lk (bs p) _ _ w' (by omega) (by omega) (by rw [hd.cell]; exact hf.lbox) (by rw [hd.cell]; exact hf.live.cell hp) (by rw [hd.cell]; exact hf.sbox)
    (by rw [hd.cell]; exact hm.slice hp hp) (by rw [hd.cell]; exact hk) (by rw [hd.cell]; exact hm.cell hp hkn)
theorem mem_aheadRow_iff (c : PCode) (i p : Nat) : ((p : Int) ∈ aheadRow c c.blocks.length i) ↔ p < c.blocks.length ∧ (i : Int) ∈ leadsF c p := by
  simp only [aheadRow, List.mem_map, List.mem_filter, List.mem_range, decide_eq_true_eq]
  constructor
  · rintro ⟨q, ⟨h1, h2⟩, h3⟩
    have : q = p := Int.ofNat.inj h3
    subst this
    exact ⟨h1, h2⟩
  · intro ⟨h1, h2⟩
    exact ⟨p, ⟨h1, h2⟩, rfl⟩
theorem above_some {c : PCode} {S : Nat → Nat → Bool} {i k : Nat} (h : (aheadRow c c.blocks.length i).any (fun x => reachB c none x.toNat && !S x.toNat k) = true) : ∃ p, Pst.Reach c none p ∧ (i : Int) ∈ leadsF c p ∧ S p k = false := by
  obtain ⟨x, hx, hp⟩ := List.any_eq_true.1 h
  obtain ⟨h0, h1⟩ := mem_aheadRow c _ i x hx
  obtain ⟨p, rfl⟩ := Int.eq_ofNat_of_zero_le h0
  have hm := (mem_aheadRow_iff c i p).1 hx
  simp only [Bool.and_eq_true, Bool.not_eq_true', Int.toNat_natCast] at hp
  exact ⟨p, (reachB_iff _ _ _).1 hp.1, hm.2, hp.2⟩
theorem above_none {c : PCode} {S : Nat → Nat → Bool} {i k : Nat} (h : (aheadRow c c.blocks.length i).any (fun x => reachB c none x.toNat && !S x.toNat k) = false) : Stable c S i k := by
  intro _ _ _ _ p hp hl
  have := List.any_eq_false.1 h (p : Int) ((mem_aheadRow_iff c i p).2 ⟨hp.lt, hl⟩)
  simp only [Int.toNat_natCast, (reachB_iff _ _ _).2 hp, Bool.true_and, Bool.not_eq_true, Bool.not_eq_false'] at this
  exact this
theorem enters_above : Enters Tryd.prog 51 := enters_of Tryd.func51 (by kernel_rfl) (by kernel_rfl)

set_option maxRecDepth 100000 in
set_option maxHeartbeats 4000000 in
theorem above_any (c : PCode) (cs : List Value) (w : World) (hc : rCode (fun _ => True) w cs c) (hf : FitCode c) :
    Calls Tryd.prog 41 #[.agg cs.toArray] w fun e w' => ∃ v, e = .returned v ∧ rIntss (fun k => w.heap.size ≤ k) w' [v] (aboveF c) ∧ Below w.heap.size w w' := by
  obtain ⟨i0, hi0, hz0, hz1, hz2⟩ := info_parts Tryd.info_int
  have hc0 := hc
  obtain ⟨v5, rfl, hI, hbs⟩ := hc
  obtain ⟨a, cap, rfl, hcap, hmax, hat⟩ := rSlice_one hbs
  unfold maxLen at hmax
  have hfit := hf.1
  unfold reachBytes at hfit
  have hmks := @run_make_row' Tryd.prog 79 62 (.slice none 0 0) 24 Tryd.underlying79 Tryd.info_bools rfl .i64 .i64 c.blocks.length (by omega) (by omega)
  clear hbs hI hat
  go_enter Tryd.func41, Tryd.ntmps41
  go_wp2_with fail
  refine (reached_any c _ _ (Good.keep (Keep.alloc _ _ _) (fun _ _ h => h) hc0) hf).mono ?_
  rintro e w1 ⟨gl, rfl, hgl, hlive, hb1⟩
  have hbel1 : Below (w.heap.size + 1) (w.alloc (.cells #[.string c.name, .int .i64 c.params, .int .i64 c.results, .int .i64 c.vars, .int .i64 c.slots, .slice a c.blocks.length cap] 28)) w1 := by simpa using hb1
  have bx0 := box_cell hbel1 0
  have bx1 := box_cell hbel1 1
  have bx2 := box_cell hbel1 2
  have bx3 := box_cell hbel1 3
  have bx4 := box_cell hbel1 4
  have bx5 := box_cell hbel1 5
  simp at bx0 bx1 bx2 bx3 bx4 bx5
  have hW1 : w.heap.size < w1.heap.size := by have := hbel1.size; simp at this; omega
  clear hb1 hgl
  go_wp2_with fail
  have hbw1 := box_below hbel1
  refine (ahead_any c _ _ (Good.keep (Keep.of_below' (hbw1.alloc (by omega) _) (fun k hk _ => hk)) (fun _ _ h => h) hc0) hf).mono ?_
  rintro e w2 ⟨va, rfl, hva, hb2⟩
  have hb2' : Below (w1.heap.size + 1) (w1.alloc (.cells #[.slice (some ⟨gl, 0, none⟩) c.blocks.length c.blocks.length] 62)) w2 := by simpa using hb2
  have bl0 := box_cell hb2' 0
  simp at bl0
  have hw12 := box_below hb2'
  have by5 := hw12.cell (p := ⟨w.heap.size, 5, none⟩) hW1
  rw [bx5] at by5
  have hlive2 := hlive.of_block (hw12.block _ hlive.lt)
  have hgl := hlive.lt
  have hw2s : w1.heap.size < w2.heap.size := by have := hb2'.size; simp at this; omega
  have hbw2 := hbw1.trans (hw12.mono hbw1.size)
  have hva2 : rIntss (fun k => k < w2.heap.size) w2 [va] (aheadF c) := Good.wide hva (fun k hk _ => hk)
  clear hva hlive hbel1 hb2 hb2' hw12 bx0 bx1 bx2 bx3 bx4 bx5 hbw1
  go_wp2_with fail
  have hfix : AbFix c w ((w2.alloc (.cells (madeCells #[.slice none 0 0] c.blocks.length) 62)).alloc (.cells #[.slice (some ⟨w2.heap.size, 0, none⟩) c.blocks.length c.blocks.length] 79)) w1.heap.size gl w2.heap.size va := by
    have hk : Below w2.heap.size w2 ((w2.alloc (.cells (madeCells #[.slice none 0 0] c.blocks.length) 62)).alloc (.cells #[.slice (some ⟨w2.heap.size, 0, none⟩) c.blocks.length c.blocks.length] 79)) := ((Below.refl _ _).alloc (Nat.le_refl _) _).alloc (by simp) _
    refine ⟨by rw [hk.cell (p := ⟨w1.heap.size, 0, none⟩) hw2s]; exact bl0, hlive2.of_block (hk.block _ (by omega)), ?_, Good.keep (Keep.of_below' hk (fun k hk _ => hk)) (fun _ _ h => h) hva2, hw2s, by omega, hbw2.size, by simp, hbw2.trans (hk.mono hbw2.size)⟩
    simp
  have hmat : BMat 62 4 ((w2.alloc (.cells (madeCells #[.slice none 0 0] c.blocks.length) 62)).alloc (.cells #[.slice (some ⟨w2.heap.size, 0, none⟩) c.blocks.length c.blocks.length] 79)) w2.heap.size (w2.heap.size + 2) c.blocks.length 0 (fun _ => 0) (fun _ _ => false) :=
    ⟨by omega, ((World.rowIs_made w2 (.slice none 0 0) c.blocks.length 62).alloc _).congr (fun _ _ => by simp), fun i hi => by omega, fun i j hi => by omega⟩
  generalize w2.heap.size = gs at *
  generalize w1.heap.size = la at *
  generalize (w2.alloc (.cells (madeCells #[.slice none 0 0] c.blocks.length) 62)).alloc (.cells #[.slice (some ⟨gs, 0, none⟩) c.blocks.length c.blocks.length] 79) = w5 at *
  clear bl0 by5 hlive2 hgl hw2s hbw2 hva2 hW1 hmks
  obtain ⟨aa, ca, hvae⟩ := rSlice_shape hfix.ahead
  have hal : (aheadF c).length = c.blocks.length := by simp [aheadF]
  rw [hal] at hvae
  subst hvae
  have Hal := Lib.hid hal
  clear hal
  have hmkb := @run_make_row' Tryd.prog 62 4 (.bool false) 1 Tryd.underlying62 Tryd.info_bool rfl .i64 .i64 c.blocks.length (by omega) (by omega)
  go_loopw [26] (fun i wr => ∃ (i' : Nat) (bs : Nat → Nat) (S : Nat → Nat → Bool), i' ≤ c.blocks.length ∧ i = .int .i64 i' ∧ BMat 62 4 wr gs (gs + 2) c.blocks.length i' bs S ∧ (∀ i k, i < i' → k < c.blocks.length → S i k = (decide (i ≠ 0) || decide (k = 0))) ∧ AbFix c w wr la gl gs (.slice aa c.blocks.length ca)) (fun i _ => c.blocks.length - (intOf i).toNat)
  case atStart => exact ⟨0, _, _, Nat.zero_le _, rfl, hmat, fun i k hi => by omega, hfix⟩
  case round =>
    clear hmat hfix
    obtain ⟨i, bs, S, hi, rfl, hmat, hS, hfix⟩ := hrel
    by_cases hil : i < c.blocks.length
    · have hil1 : (i : Int) < (c.blocks.length : Int) := by omega
      have hsb := hfix.sbox
      have hsz := hfix.size
      have hnil := hmat.row.cell hil
      simp only [Nat.lt_irrefl, if_false] at hnil
      have hfz := hmat.row.frozen i
      have hgslt : gs < wr.heap.size := hmat.row.lt
      have hgs1 : gs + 1 < wr.heap.size := by omega
      have HS := Lib.hid hS
      clear hS
      go_wp2_with fail
      go_region
      have hm2 := (hmat.push hil hsz).drawn (Drawn.drew _)
      have hf2 := (hfix.store i (.slice (some ⟨wr.heap.size, 0, none⟩) c.blocks.length c.blocks.length)).later (((Below.refl (gs + 2) _).alloc (by simpa [World.setCell] using hsz) (.cells (madeCells #[.bool false] c.blocks.length) 4)).drew)
      go_wp2_with fail
      clear hsb hsz hnil hfz hgslt hgs1
      generalize ((wr.setCell ⟨gs, i, none⟩ (.slice (some ⟨wr.heap.size, 0, none⟩) c.blocks.length c.blocks.length)).alloc (.cells (madeCells #[.bool false] c.blocks.length) 4)).drew = w6 at *
      clear hmat hfix
      have hbi : upd bs i wr.heap.size i = wr.heap.size := upd_same _ _ _
      have hS2 : ∀ i' k, i' < i → k < c.blocks.length → upd S i (fun _ => false) i' k = (decide (i' ≠ 0) || decide (k = 0)) := fun i' k h1 h2 => by rw [upd_other _ _ (by omega)]; exact HS.out i' k h1 h2
      generalize upd bs i wr.heap.size = bs' at *
      generalize upd S i (fun _ => false) = S' at *
      rw [← hbi]
      have Hbi := Lib.hid hbi
      have HS2 := Lib.hid hS2
      clear hbi hS2 HS
      go_loopw [39] (fun k wr => ∃ (k' : Nat) (S : Nat → Nat → Bool), k' ≤ c.blocks.length ∧ k = .int .i64 k' ∧ BMat 62 4 wr gs (gs + 2) c.blocks.length (i + 1) bs' S ∧ (∀ i' k, i' < i → k < c.blocks.length → S i' k = (decide (i' ≠ 0) || decide (k = 0))) ∧ (∀ k, k < k' → S i k = (decide (i ≠ 0) || decide (k = 0))) ∧ AbFix c w wr la gl gs (.slice aa c.blocks.length ca)) (fun k _ => c.blocks.length - (intOf k).toNat)
      case atStart => exact ⟨0, S', Nat.zero_le _, rfl, hm2, HS2.out, fun k hk => by omega, hf2⟩
      case round =>
        clear hm2 hf2 HS2
        obtain ⟨k, S, hk, rfl, hmat, hS, hSi, hfix⟩ := hrel
        by_cases hkl : k < c.blocks.length
        · have hkl1 : (k : Int) < (c.blocks.length : Int) := by omega
          have hsb := hfix.sbox
          have hsl := hmat.slice (i := i) (by omega) hil
          have hcl := hmat.cell (i := i) (k := k) (by omega) hkl
          have hfz := (hmat.rows i (by omega)).2.frozen k
          have hgb := (hmat.rows i (by omega)).1
          have hst := fun x => hmat.set (i := i) (by omega) k x
          have hsf := fun x => hfix.later ((Below.refl (gs + 2) wr).setCell (p := ⟨bs' i, k, none⟩) hgb (.bool x))
          have HS := Lib.hid hS
          have HSi := Lib.hid hSi
          clear hS hSi
          by_cases hi0 : i = 0
          · have hi1 : ((i : Int) != 0) = false := by simp [hi0]
            by_cases hk0 : k = 0
            · have hk1 : ((k : Int) == 0) = true := by simp [hk0]
              have hx : true = (decide (i ≠ 0) || decide (k = 0)) := by simp [hk0]
              clear hi0 hk0
              have Hst := Lib.hid (hst true)
              have Hsf := Lib.hid (hsf true)
              have Hx := Lib.hid hx
              clear hst hsf hx hmat hfix
              go_wp2_with fail
              go_roundw
              case rel => exact ⟨k + 1, _, by omega, by go_num, Hst.out, fun i' k' h1 h2 => by rw [upd_other _ _ (by omega)]; exact HS.out i' k' h1 h2, fun k' h1 => by
                rw [upd_same]
                by_cases e : k' = k
                · subst e; rw [upd_same]; exact Hx.out
                · rw [upd_other _ _ e]; exact HSi.out k' (by omega), Hsf.out⟩
              case measure => simp [intOf]; omega
            · have hk1 : ((k : Int) == 0) = false := by simpa using hk0
              have hx : false = (decide (i ≠ 0) || decide (k = 0)) := by simp [hi0, hk0]
              clear hi0 hk0
              have Hst := Lib.hid (hst false)
              have Hsf := Lib.hid (hsf false)
              have Hx := Lib.hid hx
              clear hst hsf hx hmat hfix
              go_wp2_with fail
              go_roundw
              case rel => exact ⟨k + 1, _, by omega, by go_num, Hst.out, fun i' k' h1 h2 => by rw [upd_other _ _ (by omega)]; exact HS.out i' k' h1 h2, fun k' h1 => by
                rw [upd_same]
                by_cases e : k' = k
                · subst e; rw [upd_same]; exact Hx.out
                · rw [upd_other _ _ e]; exact HSi.out k' (by omega), Hsf.out⟩
              case measure => simp [intOf]; omega
          · have hi1 : ((i : Int) != 0) = true := by simpa using hi0
            have hx : true = (decide (i ≠ 0) || decide (k = 0)) := by simp [hi0]
            clear hi0
            have Hst := Lib.hid (hst true)
            have Hsf := Lib.hid (hsf true)
            have Hx := Lib.hid hx
            clear hst hsf hx hmat hfix
            go_wp2_with fail
            go_roundw
            case rel => exact ⟨k + 1, _, by omega, by go_num, Hst.out, fun i' k' h1 h2 => by rw [upd_other _ _ (by omega)]; exact HS.out i' k' h1 h2, fun k' h1 => by
              rw [upd_same]
              by_cases e : k' = k
              · subst e; rw [upd_same]; exact Hx.out
              · rw [upd_other _ _ e]; exact HSi.out k' (by omega), Hsf.out⟩
            case measure => simp [intOf]; omega
        · have hke : k = c.blocks.length := by omega
          subst hke
          go_wp2_with fail
          go_roundw
          case rel => exact ⟨i + 1, bs', S, by omega, by go_num, hmat, fun i' k h1 h2 => by
            by_cases e : i' = i
            · subst e; exact hSi k h2
            · exact hS i' k (by omega) h2, hfix⟩
          case measure => simp [intOf]; omega
    · have hke : i = c.blocks.length := by omega
      subst hke
      have hm2 := hmat.congr (S' := fun i k => decide (i ≠ 0) || decide (k = 0)) hS
      clear hmat hS hi
      go_wp2_with fail
      go_loopg [9] (trues c.blocks.length (fun i k => decide (i ≠ 0) || decide (k = 0)) + 1) (fun k v wr => ∃ (S : Nat → Nat → Bool) (b : Bool), v = .bool b ∧ trues c.blocks.length S + (if b then 1 else 0) ≤ k ∧ Shrink c S ∧
          (b = false → ∀ i k, i < c.blocks.length → k < c.blocks.length → Stable c S i k) ∧ BMat 62 4 wr gs (gs + 2) c.blocks.length c.blocks.length bs S ∧ AbFix c w wr la gl gs (.slice aa c.blocks.length ca))
      case atStart => exact ⟨_, true, rfl, by simp, Shrink.start c, (fun h => by cases h), hm2, hfix⟩
      case round =>
        clear hm2 hfix
        obtain ⟨S, b, rfl, hk, hsh, hst, hmat, hfix⟩ := hrel
        cases b with
        | false =>
          have hfin : ∀ i k, i < c.blocks.length → k < c.blocks.length → (reachB c none i && reachB c none k && !reachB c (some k) i) = (reachB c none i && reachB c none k && S i k) := by
            intro i k hi hk
            cases hr : reachB c none i with
            | false => rfl
            | true => rw [hsh.done (fun i k h1 h2 h3 h4 h5 h6 p h7 h8 => hst rfl i k h2 h3 h1 h4 h5 h6 p h7 h8) hk ((reachB_iff _ _ _).1 hr)]
          have Hfin := Lib.hid hfin
          have hmk := @run_make_row' Tryd.prog 36 23 (.slice none 0 0) 24 Tryd.underlying36 Tryd.info_ints rfl .i64 .i64 c.blocks.length (by omega) (by omega)
          clear hst hfin hsh
          go_wp2_with fail
          clear hmk
          have hgo : gs + 2 ≤ wr.heap.size := hfix.size
          have hmo := ownMat_made (te := 23) (e := 3) (f := Value.int .i64) wr c.blocks.length (B := wr.heap.size + 1) (g := wr.heap.size) rfl (by omega)
          have hmat2 := hmat.alloc (.cells (madeCells #[.slice none 0 0] c.blocks.length) 23)
          have hfix2 := hfix.later ((Below.refl (gs + 2) wr).alloc hgo (.cells (madeCells #[.slice none 0 0] c.blocks.length) 23))
          have hbsl : ∀ i, i < c.blocks.length → bs i < wr.heap.size := fun i hi => (hmat.rows i hi).2.lt
          have hsz2 : wr.heap.size + 1 ≤ (wr.alloc (.cells (madeCells #[.slice none 0 0] c.blocks.length) 23)).heap.size := by simp
          clear hmat hfix
          generalize wr.alloc (.cells (madeCells #[.slice none 0 0] c.blocks.length) 23) = w7 at *
          generalize wr.heap.size = go at *
          have Hbsl := Lib.hid hbsl
          clear hbsl
          go_loopw [101] (fun i wr => ∃ (i' : Nat) (vs : Nat → Value), i' ≤ c.blocks.length ∧ i = .int .i64 i' ∧ OwnMat 23 3 (Value.int .i64) wr (go + 1) go c.blocks.length vs (fun t => if t < i' then aboveRow c c.blocks.length t else []) ∧ go + 1 ≤ wr.heap.size ∧
              BMat 62 4 wr gs (gs + 2) c.blocks.length c.blocks.length bs S ∧ AbFix c w wr la gl gs (.slice aa c.blocks.length ca)) (fun i _ => c.blocks.length - (intOf i).toNat)
          case atStart => exact ⟨0, _, Nat.zero_le _, rfl, hmo.congr (fun _ _ => by simp), hsz2, hmat2, hfix2⟩
          case round =>
            clear hmo hsz2 hmat2 hfix2
            obtain ⟨i, vs, hi, rfl, hmo, hsz2, hmat, hfix⟩ := hrel
            by_cases hil : i < c.blocks.length
            · have hil1 : (i : Int) < (c.blocks.length : Int) := by omega
              go_wp2_with fail
              go_loopw [105] (fun k wr => ∃ (k' : Nat) (vs : Nat → Value), k' ≤ c.blocks.length ∧ k = .int .i64 k' ∧ OwnMat 23 3 (Value.int .i64) wr (go + 1) go c.blocks.length vs (fun t => if t < i then aboveRow c c.blocks.length t else if t = i then aboveRow c k' t else []) ∧ go + 1 ≤ wr.heap.size ∧
                  BMat 62 4 wr gs (gs + 2) c.blocks.length c.blocks.length bs S ∧ AbFix c w wr la gl gs (.slice aa c.blocks.length ca)) (fun k _ => c.blocks.length - (intOf k).toNat)
              case atStart => exact ⟨0, vs, Nat.zero_le _, rfl, hmo.congr (fun t _ => by
                by_cases h1 : t < i
                · simp [h1]
                · by_cases h2 : t = i
                  · subst h2; simp [aboveRow]
                  · simp [h1, h2]), hsz2, hmat, hfix⟩
              case round =>
                clear hmo hsz2 hmat hfix
                obtain ⟨k, vs, hk', rfl, hmo, hsz2, hmat, hfix⟩ := hrel
                by_cases hkl : k < c.blocks.length
                · have hkl1 : (k : Int) < (c.blocks.length : Int) := by omega
                  have hlb := hfix.lbox
                  have hlc := hfix.live.cell hil
                  have hlk := hfix.live.cell hkl
                  have hsb := hfix.sbox
                  have hsl := hmat.slice hil hil
                  have hcl := hmat.cell hil hkl
                  have hsucc := aboveRow_succ c k i
                  rw [Hfin.out i k hil hkl] at hsucc
                  have hnext : ∀ t, (if t < i then aboveRow c c.blocks.length t else if t = i then aboveRow c (k + 1) t else []) = if t = i then aboveRow c (k + 1) i else (if t < i then aboveRow c c.blocks.length t else if t = i then aboveRow c k t else []) := fun t => by
                    by_cases h2 : t = i
                    · subst h2; simp
                    · simp [h2]
                  rw [hsucc] at hnext
                  have hlen := aboveRow_len c k i
                  clear hsucc
                  cases hl : reachB c none i with
                  | false =>
                    rw [hl] at hlc hnext
                    have Hm := Lib.hid (hmo.congr (F' := fun t => if t < i then aboveRow c c.blocks.length t else if t = i then aboveRow c (k + 1) t else []) (fun t _ => by
                      rw [hnext]
                      by_cases h1 : t = i
                      · subst h1; simp
                      · simp [h1]))
                    clear hl hnext hmo
                    go_wp2_with fail
                    go_roundw
                    case rel => exact ⟨k + 1, vs, by omega, by go_num, Hm.out, hsz2, hmat, hfix⟩
                    case measure => simp [intOf]; omega
                  | true =>
                    rw [hl] at hlc hnext
                    cases hl2 : reachB c none k with
                    | false =>
                      rw [hl2] at hlk hnext
                      have Hm := Lib.hid (hmo.congr (F' := fun t => if t < i then aboveRow c c.blocks.length t else if t = i then aboveRow c (k + 1) t else []) (fun t _ => by
                        rw [hnext]
                        by_cases h1 : t = i
                        · subst h1; simp
                        · simp [h1]))
                      clear hl hl2 hnext hmo
                      go_wp2_with fail
                      go_roundw
                      case rel => exact ⟨k + 1, vs, by omega, by go_num, Hm.out, hsz2, hmat, hfix⟩
                      case measure => simp [intOf]; omega
                    | true =>
                      rw [hl2] at hlk hnext
                      cases hS : S i k with
                      | false =>
                        rw [hS] at hcl hnext
                        have Hm := Lib.hid (hmo.congr (F' := fun t => if t < i then aboveRow c c.blocks.length t else if t = i then aboveRow c (k + 1) t else []) (fun t _ => by
                          rw [hnext]
                          by_cases h1 : t = i
                          · subst h1; simp
                          · simp [h1]))
                        clear hl hl2 hS hnext hmo
                        go_wp2_with fail
                        go_roundw
                        case rel => exact ⟨k + 1, vs, by omega, by go_num, Hm.out, hsz2, hmat, hfix⟩
                        case measure => simp [intOf]; omega
                      | true =>
                        rw [hS] at hcl hnext
                        have Hn := Lib.hid hnext
                        have hrc := hmo.row.cell hil
                        have hrow0 := hmo.own i hil
                        simp only [Nat.lt_irrefl, if_false, if_true] at hrow0
                        obtain ⟨at', capt, hvt, hlt3, hat3⟩ := ownsRow_ints hrow0
                        have Hvt := Lib.hid hvt
                        rw [hvt] at hrc hrow0
                        clear hvt hat3 hl hl2 hS hnext
                        go_wp2_with (at_builtin; refine wpList_append_own_at _ rfl _ _ 23 rfl (go + 1) 3 i0 (.int .i64 0) 1 8 Tryd.underlying23 hi0 hz0 hz1 hz2 rfl (by decide) _ _ _ rfl (hrow0.alloc _) ⟨wr.heap.size, 0, none⟩ 1 1 [.int .i64 k] rfl rfl ?c1 ?c2 ?c3 ?c4 ?c5 ?_)
                        case c1 => exact cell_one_at _ _ _ rfl
                        case c2 => intro u hu; simp at hu; subst hu; rfl
                        case c3 => unfold maxLen; omega
                        case c4 => omega
                        case c5 => simp; omega
                        intro v' w8 hown' hgrow _ hatv
                        rw [← Hvt.out] at hgrow hatv
                        have hrow3 := hmo.app_row hil hgrow
                        have hcell3 := hrow3.cell hil
                        have hfz3 := hrow3.frozen i
                        obtain ⟨av, capv, hv'⟩ := ownsRow_slice hown'
                        clear hrc hrow0
                        rw [hv']
                        have Hv' := Lib.hid hv'
                        clear hv'
                        go_wp2_with fail
                        go_roundw
                        case rel =>
                          rw [← Hv'.out]
                          have hbb := hmo.below_app (v' := v') hil hsz2 hgrow
                          have hgo' := hgo
                          refine ⟨k + 1, _, by omega, by go_num, (hmo.app hil (by simpa using hown') hgrow (by simpa using hatv)).congr (fun t _ => ?_), by have := hgrow.size; simp at this ⊢; omega,
                            hmat.kept' (fun t ht => hbb.block t ht) (by omega) Hbsl.out, hfix.later (hbb.mono (by omega))⟩
                          rw [Hn.out]
                          by_cases h1 : t = i
                          · subst h1; simp [upd]
                          · rw [upd_other _ _ h1]
                            simp only [if_neg h1]
                        case measure => simp [intOf]; omega
                · have hke : k = c.blocks.length := by omega
                  subst hke
                  have Hm := Lib.hid (hmo.congr (F' := fun t => if t < i + 1 then aboveRow c c.blocks.length t else []) (fun t _ => by
                    by_cases h1 : t < i
                    · simp [h1]; omega
                    · by_cases h2 : t = i
                      · subst h2; simp
                      · rw [if_neg h1, if_neg h2, if_neg (by omega)]))
                  clear hmo
                  go_wp2_with fail
                  go_roundw
                  case rel => exact ⟨i + 1, vs, by omega, by go_num, Hm.out, hsz2, hmat, hfix⟩
                  case measure => simp [intOf]; omega
            · have hie : i = c.blocks.length := by omega
              subst hie
              have Hm := Lib.hid (hmo.congr (F' := aboveRow c c.blocks.length) (fun t ht => by simp [ht]))
              clear hmo
              go_wp2_with fail
              go_ret
              have hwl := hfix.w_le
              refine ⟨_, rfl, Hm.out.reads_ints (by unfold maxLen; omega) (fun t ht x hx => ?_) (fun k hk => by omega), hfix.below⟩
              have := mem_aboveRow c _ t x hx
              unfold InI
              omega
        | true =>
          simp only [if_true] at hk
          clear hst
          go_wp2_with fail
          go_loopw [9, 10] (fun v i wr => ∃ (i' : Nat) (S' : Nat → Nat → Bool) (b : Bool), 1 ≤ i' ∧ i' ≤ c.blocks.length + 1 ∧ i = .int .i64 i' ∧ v = .bool b ∧ AbIn c (trues c.blocks.length S) i' 0 S' b ∧
              BMat 62 4 wr gs (gs + 2) c.blocks.length c.blocks.length bs S' ∧ AbFix c w wr la gl gs (.slice aa c.blocks.length ca)) (fun _ i _ => c.blocks.length - (intOf i).toNat)
          case atStart => exact ⟨1, S, false, Nat.le_refl _, by omega, rfl, rfl, ⟨by simp, hsh, fun _ => ⟨fun i' h1 k' _ h2 => absurd (show i' = 0 by omega) h2, fun k' h1 => by omega⟩⟩, hmat, hfix⟩
          case round =>
            clear hsh hmat hfix
            obtain ⟨i, S', b, hi1, hin1, rfl, rfl, hab, hmat, hfix⟩ := hrel
            by_cases hil : i < c.blocks.length
            · have hil1 : (i : Int) < (c.blocks.length : Int) := by omega
              have hlb := hfix.lbox
              have hlc := hfix.live.cell hil
              cases hl : reachB c none i with
              | false =>
                rw [hl] at hlc
                have Hab := Lib.hid (hab.dead hl)
                clear hl hab
                go_wp2_with fail
                go_roundw
                case rel => exact ⟨i + 1, S', b, by omega, by omega, by go_num, rfl, Hab.out, hmat, hfix⟩
                case measure => simp [intOf]; omega
              | true =>
                rw [hl] at hlc
                have Hl := Lib.hid hl
                clear hl
                go_wp2_with fail
                go_loopw [9, 68] (fun v k wr => ∃ (k' : Nat) (S' : Nat → Nat → Bool) (b : Bool), k' ≤ c.blocks.length ∧ k = .int .i64 k' ∧ v = .bool b ∧ AbIn c (trues c.blocks.length S) i k' S' b ∧
                    BMat 62 4 wr gs (gs + 2) c.blocks.length c.blocks.length bs S' ∧ AbFix c w wr la gl gs (.slice aa c.blocks.length ca)) (fun _ k _ => c.blocks.length - (intOf k).toNat)
                case atStart => exact ⟨0, S', b, Nat.zero_le _, rfl, rfl, hab, hmat, hfix⟩
                case round =>
                  clear hab hmat hfix hlb hlc
                  obtain ⟨k, S', b, hk', rfl, rfl, hab, hmat, hfix⟩ := hrel
                  by_cases hkl : k < c.blocks.length
                  · have hkl1 : (k : Int) < (c.blocks.length : Int) := by omega
                    have hsb := hfix.sbox
                    have hsz := hfix.size
                    have hsl := hmat.slice hil hil
                    have hcl := hmat.cell hil hkl
                    have hgb := (hmat.rows i hil).1
                    have hbs := (hmat.rows i hil).2.lt
                    have hgs1 : gs + 1 < wr.heap.size := by omega
                    have hgs0 : gs < wr.heap.size := by omega
                    by_cases hki : k = i
                    · subst hki
                      have Hab := Lib.hid (hab.skip (fun _ _ h => absurd rfl h))
                      have hd : ((k : Int) == (k : Int)) = true := by simp
                      have Hm2 := Lib.hid (hmat.alloc (.cells #[.int .i64 (k : Int)] 3))
                      have Hf2 := Lib.hid (hfix.later ((Below.refl (gs + 2) wr).alloc hsz (.cells #[.int .i64 (k : Int)] 3)))
                      clear hab hmat hfix
                      go_wp2_with fail
                      go_quiet (fail)
                      go_wp2_with fail
                      go_roundw
                      case rel => exact ⟨k + 1, S', b, by omega, by go_num, rfl, Hab.out, Hm2.out.drawn ⟨_, rfl⟩, Hf2.out.later (Drawn.below ⟨_, rfl⟩ _)⟩
                      case measure => simp [intOf]; omega
                    · have hd : ((k : Int) == (i : Int)) = false := by simp; omega
                      have hskip := hab.skip
                      cases hSik : S' i k with
                      | false =>
                        have Hab := Lib.hid (hskip (fun _ _ _ h => by rw [hSik] at h; cases h))
                        rw [hSik] at hcl
                        have Hm2 := Lib.hid (hmat.alloc (.cells #[.int .i64 (k : Int)] 3))
                        have Hf2 := Lib.hid (hfix.later ((Below.refl (gs + 2) wr).alloc hsz (.cells #[.int .i64 (k : Int)] 3)))
                        clear hab hmat hfix hskip hSik
                        go_wp2_with fail
                        go_quiet (fail)
                        go_wp2_with fail
                        go_roundw
                        case rel => exact ⟨k + 1, S', b, by omega, by go_num, rfl, Hab.out, Hm2.out.drawn ⟨_, rfl⟩, Hf2.out.later (Drawn.below ⟨_, rfl⟩ _)⟩
                        case measure => simp [intOf]; omega
                      | true =>
                        rw [hSik] at hcl
                        have HSik := Lib.hid hSik
                        have hm2 := hmat.alloc (.cells #[.int .i64 (k : Int)] 3)
                        have hf2 := hfix.later ((Below.refl (gs + 2) wr).alloc hsz (.cells #[.int .i64 (k : Int)] 3))
                        have hkb : (wr.alloc (.cells #[.int .i64 (k : Int)] 3)).cell? ⟨wr.heap.size, 0, none⟩ = some (.int .i64 (k : Int)) := by simp
                        obtain ⟨aa', ca', hva', hlen', haa⟩ := rIntss_open hf2.ahead
                        simp only [Value.slice.injEq] at hva'
                        obtain ⟨rfl, -, rfl⟩ := hva'
                        obtain ⟨ba, oa, ar, cr, rfl, hbab, hrowc, hrl, hri⟩ := haa i (by rw [Hal.out]; exact hil)
                        have hrow : (aheadF c)[i]'(by rw [Hal.out]; exact hil) = aheadRow c c.blocks.length i := by simp [aheadF]
                        rw [hrow] at hrowc hrl hri
                        have Hm2 := Lib.hid hm2
                        have Hf2 := Lib.hid hf2
                        have Hab := Lib.hid hab
                        have Hkb := Lib.hid hkb
                        clear hab hmat hfix hskip hSik haa hrow hm2 hf2 hkb
                        go_wp2_with fail
                        go_quiet (fail)
                        rename_i nq
                        have hdr : Drawn (wr.alloc (.cells #[.int .i64 (k : Int)] 3)) ((wr.alloc (.cells #[.int .i64 (k : Int)] 3)).drewN nq) := ⟨nq, rfl⟩
                        go_wp2_with fail
                        refine (containsFunc_ints _ _ (fun x => reachB c none x.toNat && !S' x.toNat k) _ _ _ _ hrl (hri.heap hdr.heap) enters_above ((aboveAnswers Hf2.out Hm2.out Hkb.out hkl i).later hdr)).mono ?_
                        rintro e w3 ⟨rfl, hd3⟩
                        have hdr3 := hdr.trans hd3
                        have hm3 := Hm2.out.drawn hdr3
                        have hf3 := Hf2.out.later (hdr3.below _)
                        have hsb3 := hf3.sbox
                        have hsl3 := hm3.slice hil hil
                        have hcl3 := hm3.cell hil hkl
                        have hfz3 := (hm3.rows i hil).2.frozen k
                        have hkb3 : w3.cell? ⟨wr.heap.size, 0, none⟩ = some (.int .i64 (k : Int)) := by rw [hdr3.cell]; exact Hkb.out
                        clear hdr hd3 hdr3 hri Hm2 Hf2 Hkb hrowc
                        cases hany : (aheadRow c c.blocks.length i).any (fun x => reachB c none x.toNat && !S' x.toNat k) with
                        | false =>
                          have Hs := Lib.hid (Hab.out.skip (above_none hany))
                          clear hany
                          go_wp2_with fail
                          go_roundw
                          case rel => exact ⟨k + 1, S', b, by omega, by go_num, rfl, Hs.out, hm3, hf3⟩
                          case measure => simp [intOf]; omega
                        | true =>
                          obtain ⟨p, hp1, hp2, hp3⟩ := above_some hany
                          have Hs := Lib.hid (Hab.out.drop (by omega) hil hkl hki HSik.out hp1 hp2 hp3)
                          clear hany hp1 hp2 hp3
                          go_wp2_with fail
                          go_region
                          go_wp2_with fail
                          go_roundw
                          case rel => exact ⟨k + 1, _, true, by omega, by go_num, rfl, Hs.out, (hm3.set hil k false).drawn (Drawn.drew _), hf3.later (((Below.refl (gs + 2) w3).setCell (p := ⟨bs i, k, none⟩) hgb (.bool false)).drew)⟩
                          case measure => simp [intOf]; omega
                  · have hke : k = c.blocks.length := by omega
                    subst hke
                    have Hab := Lib.hid hab.next
                    clear hab
                    go_wp2_with fail
                    go_roundw
                    case rel => exact ⟨i + 1, S', b, by omega, by omega, by go_num, rfl, Hab.out, hmat, hfix⟩
                    case measure => simp [intOf]; omega
            · have Hab := Lib.hid hab
              clear hab
              have hil2 : ¬ (i : Int) < (c.blocks.length : Int) := by omega
              go_wp2_with fail
              go_roundg (trues c.blocks.length S' + (if b then 1 else 0))
              case measure => have := Hab.out.1; omega
              case rel => exact ⟨S', b, rfl, Nat.le_refl _, Hab.out.2.1, fun hb i' k' h1 h2 => (Hab.out.2.2 hb).1 i' (by omega) k' h2, hmat, hfix⟩
end Go.Proofs.YthgfdcoicihpdaaDoor

/-
  Texts joined: IrCheck VmCheck VmRun.
-/
import Derived.Test.YtaomlfbcfmmhlaaDoorVM
import Derived.Test.YtaomlfbcfmmhlaaDoorVF
import Derived.Test.YtaomlfbcfmmhlaaDoorVG
import Derived.Test.YtaomlfbcfmmhlaaDoorVL
import Derived.Test.YtaomlfbcfmmhlaaDoorShelf
import Derived.Deep.DeepCutAuto
import Derived.Deep.RegionHeld3

/-
  ir.Check: the contract.
-/
namespace Go.Proofs.YtaomlfbcfmmhlaaDoor
open Go.RowKit Go.Pst
set_option linter.unusedVariables false

theorem heads_sum' (a b : Int) : ((a + b) % 18446744073709551616 = 0) ↔ wrap64 (a + b) = 0 := by unfold wrap64; omega

/-- The closure of Check: has it this name? -/
theorem named2_answers (s : ByteArray) (fs : List PCode) (w : World) (blk : Nat) (hlt : blk < w.heap.size) (hc : w.cell? ⟨blk, 0, none⟩ = some (.string s)) :
    AnswersC Tryd.prog 101 #[.pointer (some ⟨blk, 0, none⟩)] (fun c => decide (c.name = s)) fs w := by
  intro x _ cs w' hx hb
  have hc' : w'.cell? ⟨blk, 0, none⟩ = some (.string s) := (hb.cell (p := ⟨blk, 0, none⟩) hlt).trans hc
  obtain ⟨v5, rfl, -, -⟩ := hx
  have hlt' : blk < w'.heap.size := Nat.lt_of_lt_of_le hlt hb.size
  by_cases h : x.name = s
  · have h1 := str_eq h
    have Hh := Lib.hid h
    clear h
    go_enter Tryd.func101, Tryd.ntmps101
    go_wp2_with fail
    go_ret
    exact ⟨by simp [Hh.out], (Below.refl _ _).alloc (Nat.le_refl _) _⟩
  · have h1 := str_ne h
    have Hh := Lib.hid h
    clear h
    go_enter Tryd.func101, Tryd.ntmps101
    go_wp2_with fail
    go_ret
    exact ⟨by simp [Hh.out], (Below.refl _ _).alloc (Nat.le_refl _) _⟩

theorem names_ok {fs : List PCode} {n : Nat} (hn : n < fs.length) (h : ((namesF fs).take n).Nodup) (ha : ((fs.take n).any fun c => decide (c.name = fs[n].name)) = false) : ((namesF fs).take (n + 1)).Nodup :=
  nodupA_take_succ (by simpa using hn) h ((names_any hn).1 ha)
theorem names_no {fs : List PCode} {n : Nat} (hn : n < fs.length) (ha : ((fs.take n).any fun c => decide (c.name = fs[n].name)) = true) : ¬ (namesF fs).Nodup := by
  obtain ⟨c, hc, hd⟩ := List.any_eq_true.1 ha
  obtain ⟨j, hj, rfl⟩ := List.mem_iff_getElem.1 hc
  rw [List.length_take] at hj
  exact nodupA_not (l := namesF fs) (by simpa using hn) (show j < n by omega) (by simpa using hd)

set_option maxRecDepth 4000 in
set_option maxHeartbeats 2000000 in
theorem irCheck_any (p : PProg) (pcs : List Value) (w : World) (hp : rProg (fun _ => True) w pcs p) (hf : FitProg p) (hL : IrLaid w) :
    Calls Tryd.prog 59 #[.agg pcs.toArray] w fun e w' => e = .returned (.int .i64 (programFaultF p)) ∧ Below w.heap.size w w' := by
  obtain ⟨p0, p1, rfl, hp0, hp1⟩ := hp
  obtain ⟨ap, cp, rfl, hcapp, hmaxp, hatp⟩ := rCodes_val hp0
  obtain ⟨ad, cd, rfl, hld, -, -⟩ := rInts_open hp1
  unfold maxLen at hmaxp
  have hlf : p.funcs.length ≤ 9223372036854775807 := by omega
  have Hatp := Lib.hid hatp
  have Hp := Lib.hid hp0
  have Hf := Lib.hid hf
  have HL := Lib.hid hL
  have hent := enters_of (P := Tryd.prog) Tryd.func101 (by kernel_rfl) (by kernel_rfl)
  have Hent := Lib.hid hent
  clear hatp hp0 hp1 hf hL hent hmaxp
  by_cases z : p.funcs.length = 0
  · have z1 : ((p.funcs.length : Int) == 0) = true := by simpa using z
    have Z := Lib.hid (show programFaultF p = 6 by unfold programFaultF headsFault; rw [if_pos z]; rfl)
    clear z
    go_enter Tryd.func59, Tryd.ntmps59
    go_wp2_with fail
    go_ret
    exact ⟨by rw [Z.out]; rfl, (Below.refl _ _).alloc (Nat.le_refl _) _⟩
  by_cases s : 20000 < p.data.length ∨ 40 < p.funcs.length
  · have z1 : ((p.funcs.length : Int) == 0) = false := by simpa using z
    have Z := Lib.hid (show programFaultF p = 1 by unfold programFaultF headsFault; rw [if_neg z, if_pos s]; rfl)
    have s' : 20000 < (p.data.length : Int) ∨ 40 < (p.funcs.length : Int) := by omega
    clear z s
    go_enter Tryd.func59, Tryd.ntmps59
    rcases s' with s | s
    · go_wp2_with fail
      go_ret
      exact ⟨by rw [Z.out]; rfl, (Below.refl _ _).alloc (Nat.le_refl _) _⟩
    · by_cases s2 : 20000 < (p.data.length : Int)
      all_goals
        go_wp2_with fail
        go_ret
        exact ⟨by rw [Z.out]; rfl, (Below.refl _ _).alloc (Nat.le_refl _) _⟩
  have z1 : ((p.funcs.length : Int) == 0) = false := by simpa using z
  have z : ¬ (p.funcs.length = 0 ∨ 20000 < p.data.length ∨ 40 < p.funcs.length) := by omega
  have Z := Lib.hid z
  have z2 : decide ((p.data.length : Int) > 20000) = false := decide_eq_false (by omega)
  have z3 : decide ((p.funcs.length : Int) > 40) = false := decide_eq_false (by omega)
  have hlpos : 0 < p.funcs.length := by omega
  clear z s
  have hhead : headsFault p = if ¬ (p.funcs.map (·.name)).Nodup then 7 else if ((p.funcs.headD default).params + (p.funcs.headD default).results) % 18446744073709551616 ≠ 0 then 10 else 0 := by
    have hz := Z.out
    unfold headsFault
    rw [if_neg (fun h => hz (Or.inl h)), if_neg (fun h => hz (Or.inr h))]
  have Hh := Lib.hid hhead
  clear hhead
  go_enter Tryd.func59, Tryd.ntmps59
  go_wp2_with fail
  clear z1 z2 z3
  go_loopw [25] (fun i wr => ∃ n : Nat, n ≤ p.funcs.length ∧ i = .int .i64 n ∧ ((namesF p.funcs).take n).Nodup ∧ Below (w.heap.size + 1) (w.alloc (.cells #[.slice ap p.funcs.length cp, .slice ad p.data.length cd] 25)) wr) (fun i _ => p.funcs.length - (intOf i).toNat)
  case atStart => exact ⟨0, Nat.zero_le _, rfl, by simp, Below.refl _ _⟩
  case round =>
    obtain ⟨n, hn, rfl, hnd, hbel⟩ := hrel
    have Hnd := Lib.hid hnd
    clear hnd
    have bp := fun j => hbel.cell (p := ⟨w.heap.size, j, none⟩) (by show w.heap.size < w.heap.size + 1; omega)
    simp only [World.cell?_alloc_at _ _ _ _ rfl] at bp
    have bp0 : wr.cell? ⟨w.heap.size, 0, none⟩ = some (.slice ap p.funcs.length cp) := bp 0
    have bp1 : wr.cell? ⟨w.heap.size, 1, none⟩ = some (.slice ad p.data.length cd) := bp 1
    have hbw : Below w.heap.size w wr := box_below hbel
    have hsz : w.heap.size + 1 ≤ wr.heap.size := by have := hbel.size; simpa using this
    have Hsz := Lib.hid hsz
    clear hsz bp
    by_cases hnl : n < p.funcs.length
    · have hnl1 : (n : Int) < (p.funcs.length : Int) := by omega
      obtain ⟨b, off, v5, rfl, -, hb, h0, h1, h2, h3, h4, h5, hI, hbs⟩ := Hatp.out n hnl
      obtain ⟨a5, c5, rfl⟩ := rSlice_shape hbs
      have hy0 : wr.cell? ⟨b, off + n * 6, none⟩ = _ := (hbw.cell (p := ⟨b, off + n * 6, none⟩) hb).trans h0
      have hy1 : wr.cell? ⟨b, off + n * 6 + 1, none⟩ = _ := (hbw.cell (p := ⟨b, off + n * 6 + 1, none⟩) hb).trans h1
      have hy2 : wr.cell? ⟨b, off + n * 6 + 2, none⟩ = _ := (hbw.cell (p := ⟨b, off + n * 6 + 2, none⟩) hb).trans h2
      have hy3 : wr.cell? ⟨b, off + n * 6 + 3, none⟩ = _ := (hbw.cell (p := ⟨b, off + n * 6 + 3, none⟩) hb).trans h3
      have hy4 : wr.cell? ⟨b, off + n * 6 + 4, none⟩ = _ := (hbw.cell (p := ⟨b, off + n * 6 + 4, none⟩) hb).trans h4
      have hy5 : wr.cell? ⟨b, off + n * 6 + 5, none⟩ = _ := (hbw.cell (p := ⟨b, off + n * 6 + 5, none⟩) hb).trans h5
      have Hok := Lib.hid (names_ok hnl Hnd.out)
      have Hno := Lib.hid (names_no hnl)
      have Hkeep := Lib.hid (Good.kept (Keep.of_below' (S := fun _ => True) hbw (fun k hk _ => hk)) Hp.out)
      have hne : (n : Int) ≤ (cp : Int) := by omega
      clear h0 h1 h2 h3 h4 h5 hI hbs
      generalize p.funcs[n] = c at *
      have Hbw := Lib.hid hbw
      have Hbel := Lib.hid hbel
      have hszw : w.heap.size < wr.heap.size := by have := Hsz.out; omega
      have hp0' : ∀ o, (wr.alloc o).cell? ⟨w.heap.size, 0, none⟩ = some (.slice (some ⟨b, off, none⟩) p.funcs.length cp) := fun o => (World.cell?_alloc_lt _ _ _ hszw).trans bp0
      clear hbw hbel
      go_wp2_with fail
      clear hp0'
      generalize hw2 : wr.alloc (.cells #[.string c.name, .int .i64 c.params, .int .i64 c.results, .int .i64 c.vars, .int .i64 c.slots, .slice a5 c.blocks.length c5] 28) = w2
      have hb2 : Below wr.heap.size wr w2 := by rw [← hw2]; exact (Below.refl _ _).alloc (Nat.le_refl _) _
      have hn0 : w2.cell? ⟨wr.heap.size, 0, none⟩ = some (.string c.name) := by rw [← hw2, World.cell?_alloc_at _ _ _ _ rfl]; rfl
      have hs2 : wr.heap.size < w2.heap.size := by rw [← hw2]; simp
      have Hn0 := Lib.hid hn0
      have Hb2 := Lib.hid hb2
      have Hs2 := Lib.hid hs2
      have hq0 : w2.cell? ⟨w.heap.size, 0, none⟩ = _ := (hb2.cell (p := ⟨w.heap.size, 0, none⟩) (by have := Hsz.out; show w.heap.size < wr.heap.size; omega)).trans bp0
      clear hw2 hn0 hb2 hs2 bp0 bp1 hy0 hy1 hy2 hy3 hy4 hy5
      have hcal := containsFuncC_any 101 #[.pointer (some ⟨wr.heap.size, 0, none⟩)] (fun x => decide (x.name = c.name)) (some ⟨b, off, none⟩) (p.funcs.take n) cp w2 (by rw [List.length_take, Nat.min_eq_left hn]; exact rSlice_take (Good.kept (Keep.of_below' (S := fun _ => True) Hb2.out (fun k hk _ => hk)) Hkeep.out) hn) Hent.out (named2_answers _ _ _ _ Hs2.out Hn0.out)
      rw [List.length_take, Nat.min_eq_left hn] at hcal
      have Hcal := Lib.hid hcal
      clear hcal
      go_wp2_with fail
      refine (Hcal.out).mono ?_
      rintro e w1 ⟨rfl, hb1⟩
      have hl1 : Below wr.heap.size wr w1 := Hb2.out.trans (hb1.mono Hb2.out.size)
      have Hl1 := Lib.hid hl1
      clear hb1 hl1 Hcal hq0
      cases he : (p.funcs.take n).any fun x => decide (x.name = c.name) with
      | true =>
        have He := Lib.hid he
        clear he
        go_wp2_with fail
        go_ret
        exact ⟨by unfold programFaultF; rw [Hh.out, if_pos (Hno.out He.out)]; rfl, Hbw.out.trans (Hl1.out.mono (by have := Hsz.out; omega))⟩
      | false =>
        have He := Lib.hid he
        clear he
        go_wp2_with fail
        go_roundw
        case rel => exact ⟨n + 1, by omega, by go_num, Hok.out He.out, Hbel.out.trans (Hl1.out.mono Hsz.out)⟩
        case measure => simp [intOf]; omega
    · have hne : n = p.funcs.length := by omega
      subst hne
      have Hnm := Lib.hid (names_all Hnd.out)
      have hh2 : headsFault p = if ((p.funcs.headD default).params + (p.funcs.headD default).results) % 18446744073709551616 ≠ 0 then 10 else 0 := by
        rw [Hh.out, if_neg (fun h => h Hnm.out)]
      have Hh2 := Lib.hid hh2
      clear hh2 Hnm Hnd
      obtain ⟨b, off, v5, rfl, -, hb, h0, h1, h2, h3, h4, h5, hI, hbs⟩ := Hatp.out 0 hlpos
      have hy1 : wr.cell? ⟨b, off + 1, none⟩ = _ := (hbw.cell (p := ⟨b, off + 1, none⟩) hb).trans (by simpa using h1)
      have hy2 : wr.cell? ⟨b, off + 2, none⟩ = _ := (hbw.cell (p := ⟨b, off + 2, none⟩) hb).trans (by simpa using h2)
      have Hs := Lib.hid (heads_sum' p.funcs[0].params p.funcs[0].results)
      have h00 : (0 : Int) < (p.funcs.length : Int) := by omega
      have Hd0 := Lib.hid (headD_at hlpos)
      clear h0 h1 h2 h3 h4 h5 hbs hI
      cases h : (wrap64 (p.funcs[0].params + p.funcs[0].results) != 0) with
      | true =>
        go_wp2_with fail
        go_quiet (fail)
        go_wp2_with fail
        go_ret
        exact ⟨by
          have hx : headsFault p = 10 := by rw [Hh2.out, Hd0.out, if_pos (fun e => by have := Hs.out.1 e; simp [this] at h)]
          unfold programFaultF; rw [hx]; rfl, hbw.trans (Drawn.below (w := wr) ⟨_, rfl⟩ _)⟩
      | false =>
        go_wp2_with fail
        go_quiet (fail)
        go_wp2_with fail
        have hh3 : headsFault p = 0 := by rw [Hh2.out, Hd0.out, if_neg (fun hn => hn (Hs.out.2 (by simpa using h)))]
        have Hh3 := Lib.hid (show programFaultF p = codesF (codeFaultF p.funcs) p.funcs by unfold programFaultF; rw [hh3]; rfl)
        clear hh3 Hh2 Hs Hd0 h
        have Hb0 := Lib.hid (show Below (w.heap.size + 1) (w.alloc (.cells #[.slice (some ⟨b, off, none⟩) p.funcs.length cp, .slice ad p.data.length cd] 25)) (wr.drewN nq) from hbel.trans (Drawn.below (w := wr) ⟨_, rfl⟩ _))
        clear hbel bp0 bp1 hy1 hy2 hbw
        go_loopw [52] (fun i wr => ∃ n : Nat, n ≤ p.funcs.length ∧ i = .int .i64 n ∧ programFaultF p = codesF (codeFaultF p.funcs) (p.funcs.drop n) ∧ Below (w.heap.size + 1) (w.alloc (.cells #[.slice (some ⟨b, off, none⟩) p.funcs.length cp, .slice ad p.data.length cd] 25)) wr) (fun i _ => p.funcs.length - (intOf i).toNat)
        case atStart => exact ⟨0, Nat.zero_le _, rfl, by rw [Hh3.out]; rfl, Hb0.out⟩
        case round =>
          obtain ⟨n, hn, rfl, hrs, hbel⟩ := hrel
          have Hrs := Lib.hid hrs
          clear hrs
          have bp := fun j => hbel.cell (p := ⟨w.heap.size, j, none⟩) (by show w.heap.size < w.heap.size + 1; omega)
          simp only [World.cell?_alloc_at _ _ _ _ rfl] at bp
          have bp0 : wr.cell? ⟨w.heap.size, 0, none⟩ = some (.slice (some ⟨b, off, none⟩) p.funcs.length cp) := bp 0
          have bp1 : wr.cell? ⟨w.heap.size, 1, none⟩ = some (.slice ad p.data.length cd) := bp 1
          have hbw : Below w.heap.size w wr := box_below hbel
          have hsz : w.heap.size + 1 ≤ wr.heap.size := by have := hbel.size; simpa using this
          have Hsz := Lib.hid hsz
          clear bp hsz
          by_cases hnl : n < p.funcs.length
          · have hnl1 : (n : Int) < (p.funcs.length : Int) := by omega
            obtain ⟨b', off', v5, hbb, -, -, h0, h1, h2, h3, h4, h5, hI, hbs⟩ := Hatp.out n hnl
            obtain ⟨a5, c5, rfl⟩ := rSlice_shape hbs
            obtain ⟨rfl, rfl⟩ : b = b' ∧ off = off' := by simpa using hbb
            have hy0 : wr.cell? ⟨b, off + n * 6, none⟩ = _ := (hbw.cell (p := ⟨b, off + n * 6, none⟩) hb).trans h0
            have hy1 : wr.cell? ⟨b, off + n * 6 + 1, none⟩ = _ := (hbw.cell (p := ⟨b, off + n * 6 + 1, none⟩) hb).trans h1
            have hy2 : wr.cell? ⟨b, off + n * 6 + 2, none⟩ = _ := (hbw.cell (p := ⟨b, off + n * 6 + 2, none⟩) hb).trans h2
            have hy3 : wr.cell? ⟨b, off + n * 6 + 3, none⟩ = _ := (hbw.cell (p := ⟨b, off + n * 6 + 3, none⟩) hb).trans h3
            have hy4 : wr.cell? ⟨b, off + n * 6 + 4, none⟩ = _ := (hbw.cell (p := ⟨b, off + n * 6 + 4, none⟩) hb).trans h4
            have hy5 : wr.cell? ⟨b, off + n * 6 + 5, none⟩ = _ := (hbw.cell (p := ⟨b, off + n * 6 + 5, none⟩) hb).trans h5
            have hb3 : ∀ o, Below wr.heap.size wr (wr.alloc o) := fun o => (Below.refl _ _).alloc (Nat.le_refl _) _
            have hkeep := fun o => Keep.of_below' (S := fun _ => True) (hbw.trans ((hb3 o).mono hbw.size)) (fun k hk _ => hk)
            have hcal := fun o => irCode_any p.funcs (.slice (some ⟨b, off, none⟩) p.funcs.length cp) (.slice ad p.data.length cd) p.funcs[n] _ (wr.alloc o) (Good.kept (hkeep o) Hp.out) (Good.kept (hkeep o) ⟨_, rfl, hI, hbs⟩) (Hf.out.1.2 _ (List.getElem_mem hnl)) (HL.out.below (hbw.trans ((hb3 o).mono hbw.size)))
            have Hcal := Lib.hid hcal
            have Hat := Lib.hid (codesF_at (g := codeFaultF p.funcs) hnl)
            have Hb3 := Lib.hid hb3
            clear hcal h0 h1 h2 h3 h4 h5 hI hbs hkeep hbb hb3
            generalize p.funcs[n] = c at *
            generalize hev : codeFaultF p.funcs c = ev at *
            have Hbw := Lib.hid hbw
            have Hbel := Lib.hid hbel
            have hszw : w.heap.size < wr.heap.size := by have := Hsz.out; omega
            have hp0' : ∀ o, (wr.alloc o).cell? ⟨w.heap.size, 0, none⟩ = some (.slice (some ⟨b, off, none⟩) p.funcs.length cp) := fun o => (World.cell?_alloc_lt _ _ _ hszw).trans bp0
            have hp1' : ∀ o, (wr.alloc o).cell? ⟨w.heap.size, 1, none⟩ = some (.slice ad p.data.length cd) := fun o => (World.cell?_alloc_lt _ _ _ hszw).trans bp1
            clear hbw hbel hev
            go_wp2_with fail
            clear hp0' hp1'
            refine (Hcal.out _).mono ?_
            rintro e w1 ⟨rfl, hb1⟩
            have hb2 : Below wr.heap.size wr w1 := (Hb3.out _).trans (hb1.mono (by simp))
            have Hb2 := Lib.hid hb2
            clear hb1 hb2 Hcal
            by_cases he : ev = 0
            · subst he
              go_wp2_with fail
              go_roundw
              case rel => exact ⟨n + 1, by omega, by go_num, by rw [Hrs.out, Hat.out, if_neg (by simp)], Hbel.out.trans (Hb2.out.mono Hsz.out)⟩
              case measure => simp [intOf]; omega
            · have he1 : (ev != 0) = true := by simpa using he
              have He := Lib.hid he
              clear he
              go_wp2_with fail
              go_ret
              exact ⟨by rw [Hrs.out, Hat.out, if_pos He.out]; rfl, Hbw.out.trans (Hb2.out.mono (by have := Hsz.out; omega))⟩
          · have hne : n = p.funcs.length := by omega
            subst hne
            go_wp2_with fail
            go_ret
            exact ⟨by rw [Hrs.out, List.drop_length]; rfl, hbw⟩
end Go.Proofs.YtaomlfbcfmmhlaaDoor

/-
  vm.Check: the contract.
-/
namespace Go.Proofs.YtaomlfbcfmmhlaaDoor
open Go.RowKit Go.Pst
set_option linter.unusedVariables false

set_option maxRecDepth 4000 in
set_option maxHeartbeats 2000000 in
theorem vmCheck_any (p : PProg) (pcs : List Value) (w : World) (hp : rProg (fun _ => True) w pcs p) (hf : FitProg p) (hL : VmLaid w) :
    Calls Tryd.prog 67 #[.agg pcs.toArray] w fun e w' => e = .returned (.int .i64 (machineFaultF p)) ∧ Below w.heap.size w w' := by
  obtain ⟨p0, p1, rfl, hp0, hp1⟩ := hp
  obtain ⟨ap, cp, rfl, hcapp, hmaxp, hatp⟩ := rCodes_val hp0
  obtain ⟨ad, cd, rfl, hld, -, -⟩ := rInts_open hp1
  unfold maxLen at hmaxp
  have hlf : p.funcs.length ≤ 9223372036854775807 := by omega
  have Hatp := Lib.hid hatp
  have Hp := Lib.hid hp0
  have Hf := Lib.hid hf
  have HL := Lib.hid hL
  clear hatp hp0 hp1 hf hL hmaxp
  by_cases z : p.funcs.length = 0
  · have z1 : ((p.funcs.length : Int) == 0) = true := by simpa using z
    have Z := Lib.hid (show machineFaultF p = 6 by unfold machineFaultF headsFault; rw [if_pos z]; rfl)
    clear z
    go_enter Tryd.func67, Tryd.ntmps67
    go_wp2_with fail
    go_ret
    exact ⟨by rw [Z.out]; rfl, (Below.refl _ _).alloc (Nat.le_refl _) _⟩
  by_cases s : 20000 < p.data.length ∨ 40 < p.funcs.length
  · have z1 : ((p.funcs.length : Int) == 0) = false := by simpa using z
    have Z := Lib.hid (show machineFaultF p = 1 by unfold machineFaultF headsFault; rw [if_neg z, if_pos s]; rfl)
    have s' : 20000 < (p.data.length : Int) ∨ 40 < (p.funcs.length : Int) := by omega
    clear z s
    go_enter Tryd.func67, Tryd.ntmps67
    rcases s' with s | s
    · go_wp2_with fail
      go_ret
      exact ⟨by rw [Z.out]; rfl, (Below.refl _ _).alloc (Nat.le_refl _) _⟩
    · by_cases s2 : 20000 < (p.data.length : Int)
      all_goals
        go_wp2_with fail
        go_ret
        exact ⟨by rw [Z.out]; rfl, (Below.refl _ _).alloc (Nat.le_refl _) _⟩
  have z1 : ((p.funcs.length : Int) == 0) = false := by simpa using z
  have z : ¬ (p.funcs.length = 0 ∨ 20000 < p.data.length ∨ 40 < p.funcs.length) := by omega
  have Z := Lib.hid z
  have z2 : decide ((p.data.length : Int) > 20000) = false := decide_eq_false (by omega)
  have z3 : decide ((p.funcs.length : Int) > 40) = false := decide_eq_false (by omega)
  have hlpos : 0 < p.funcs.length := by omega
  clear z s
  have hhead : headsFault p = if ¬ (p.funcs.map (·.name)).Nodup then 7 else if ((p.funcs.headD default).params + (p.funcs.headD default).results) % 18446744073709551616 ≠ 0 then 10 else 0 := by
    have hz := Z.out
    unfold headsFault
    rw [if_neg (fun h => hz (Or.inl h)), if_neg (fun h => hz (Or.inr h))]
  have Hh := Lib.hid hhead
  clear hhead
  go_enter Tryd.func67, Tryd.ntmps67
  go_wp2_with fail
  clear z1 z2 z3
  go_loopw [25] (fun i wr => ∃ n : Nat, n ≤ p.funcs.length ∧ i = .int .i64 n ∧ ((namesF p.funcs).take n).Nodup ∧ Below (w.heap.size + 1) (w.alloc (.cells #[.slice ap p.funcs.length cp, .slice ad p.data.length cd] 25)) wr) (fun i _ => p.funcs.length - (intOf i).toNat)
  case atStart => exact ⟨0, Nat.zero_le _, rfl, by simp, Below.refl _ _⟩
  case round =>
    obtain ⟨n, hn, rfl, hnd, hbel⟩ := hrel
    have Hnd := Lib.hid hnd
    clear hnd
    have bp := fun j => hbel.cell (p := ⟨w.heap.size, j, none⟩) (by show w.heap.size < w.heap.size + 1; omega)
    simp only [World.cell?_alloc_at _ _ _ _ rfl] at bp
    have bp0 : wr.cell? ⟨w.heap.size, 0, none⟩ = some (.slice ap p.funcs.length cp) := bp 0
    have bp1 : wr.cell? ⟨w.heap.size, 1, none⟩ = some (.slice ad p.data.length cd) := bp 1
    have hbw : Below w.heap.size w wr := box_below hbel
    have hsz : w.heap.size + 1 ≤ wr.heap.size := by have := hbel.size; simpa using this
    have Hsz := Lib.hid hsz
    clear hsz bp
    by_cases hnl : n < p.funcs.length
    · have hnl1 : (n : Int) < (p.funcs.length : Int) := by omega
      obtain ⟨b, off, v5, rfl, -, hb, h0, h1, h2, h3, h4, h5, hI, hbs⟩ := Hatp.out n hnl
      obtain ⟨a5, c5, rfl⟩ := rSlice_shape hbs
      have hy0 : wr.cell? ⟨b, off + n * 6, none⟩ = _ := (hbw.cell (p := ⟨b, off + n * 6, none⟩) hb).trans h0
      have hy1 : wr.cell? ⟨b, off + n * 6 + 1, none⟩ = _ := (hbw.cell (p := ⟨b, off + n * 6 + 1, none⟩) hb).trans h1
      have hy2 : wr.cell? ⟨b, off + n * 6 + 2, none⟩ = _ := (hbw.cell (p := ⟨b, off + n * 6 + 2, none⟩) hb).trans h2
      have hy3 : wr.cell? ⟨b, off + n * 6 + 3, none⟩ = _ := (hbw.cell (p := ⟨b, off + n * 6 + 3, none⟩) hb).trans h3
      have hy4 : wr.cell? ⟨b, off + n * 6 + 4, none⟩ = _ := (hbw.cell (p := ⟨b, off + n * 6 + 4, none⟩) hb).trans h4
      have hy5 : wr.cell? ⟨b, off + n * 6 + 5, none⟩ = _ := (hbw.cell (p := ⟨b, off + n * 6 + 5, none⟩) hb).trans h5
      have Hstep := Lib.hid (names_step hnl Hnd.out)
      have Hbad := Lib.hid (names_bad hnl)
      have Hkeep := Lib.hid (Good.kept (Keep.of_below' (S := fun _ => True) hbw (fun k hk _ => hk)) Hp.out)
      have hra : -1 ≤ nameAt p.funcs[n].name p.funcs ∧ nameAt p.funcs[n].name p.funcs < p.funcs.length := firstOf_range (fun c : PCode => decide (c.name = p.funcs[n].name)) p.funcs
      clear h0 h1 h2 h3 h4 h5 hI hbs
      generalize p.funcs[n] = c at *
      have Hbw := Lib.hid hbw
      have Hbel := Lib.hid hbel
      have hszw : w.heap.size < wr.heap.size := by have := Hsz.out; omega
      have hp0' : ∀ o, (wr.alloc o).cell? ⟨w.heap.size, 0, none⟩ = some (.slice (some ⟨b, off, none⟩) p.funcs.length cp) := fun o => (World.cell?_alloc_lt _ _ _ hszw).trans bp0
      have hp1' : ∀ o, (wr.alloc o).cell? ⟨w.heap.size, 1, none⟩ = some (.slice ad p.data.length cd) := fun o => (World.cell?_alloc_lt _ _ _ hszw).trans bp1
      have hb3 : ∀ o, Below wr.heap.size wr (wr.alloc o) := fun o => (Below.refl _ _).alloc (Nat.le_refl _) _
      have Hb3 := Lib.hid hb3
      have Hcal := Lib.hid (fun o => vmFunction_any c.name p.funcs (.slice (some ⟨b, off, none⟩) p.funcs.length cp) (.slice ad p.data.length cd) (wr.alloc o) (Good.kept (Keep.of_below' (S := fun _ => True) (hb3 o) (fun k hk _ => hk)) Hkeep.out))
      generalize hev : nameAt c.name p.funcs = ev at *
      have Hev := Lib.hid hev
      clear hbw hbel hb3 hev
      go_wp2_with fail
      clear hp0' hp1'
      refine (Hcal.out _).mono ?_
      rintro e w1 ⟨rfl, hb1⟩
      have hl1 : Below wr.heap.size wr w1 := (Hb3.out _).trans (hb1.mono (by simp))
      have Hl1 := Lib.hid hl1
      clear hb1 hl1 Hcal
      by_cases he : ev = (n : Int)
      · have he1 : (ev != (n : Int)) = false := by simpa using he
        have He := Lib.hid he
        clear he
        go_wp2_with fail
        go_roundw
        case rel => exact ⟨n + 1, by omega, by go_num, Hstep.out He.out, Hbel.out.trans (Hl1.out.mono Hsz.out)⟩
        case measure => simp [intOf]; omega
      · have he1 : (ev != (n : Int)) = true := by simpa using he
        have He := Lib.hid he
        clear he
        go_wp2_with fail
        go_ret
        exact ⟨by unfold machineFaultF; rw [Hh.out, if_pos (Hbad.out He.out)]; rfl, Hbw.out.trans (Hl1.out.mono (by have := Hsz.out; omega))⟩
    · have hne : n = p.funcs.length := by omega
      subst hne
      have Hnm := Lib.hid (names_all Hnd.out)
      have hh2 : headsFault p = if ((p.funcs.headD default).params + (p.funcs.headD default).results) % 18446744073709551616 ≠ 0 then 10 else 0 := by
        rw [Hh.out, if_neg (fun h => h Hnm.out)]
      have Hh2 := Lib.hid hh2
      clear hh2 Hnm Hnd
      obtain ⟨b, off, v5, rfl, -, hb, h0, h1, h2, h3, h4, h5, hI, hbs⟩ := Hatp.out 0 hlpos
      have hy1 : wr.cell? ⟨b, off + 1, none⟩ = _ := (hbw.cell (p := ⟨b, off + 1, none⟩) hb).trans (by simpa using h1)
      have hy2 : wr.cell? ⟨b, off + 2, none⟩ = _ := (hbw.cell (p := ⟨b, off + 2, none⟩) hb).trans (by simpa using h2)
      have Hs := Lib.hid (heads_sum' p.funcs[0].params p.funcs[0].results)
      have h00 : (0 : Int) < (p.funcs.length : Int) := by omega
      have Hd0 := Lib.hid (headD_at hlpos)
      clear h0 h1 h2 h3 h4 h5 hbs hI
      cases h : (wrap64 (p.funcs[0].params + p.funcs[0].results) != 0) with
      | true =>
        go_wp2_with fail
        go_quiet (fail)
        go_wp2_with fail
        go_ret
        exact ⟨by
          have hx : headsFault p = 10 := by rw [Hh2.out, Hd0.out, if_pos (fun e => by have := Hs.out.1 e; simp [this] at h)]
          unfold machineFaultF; rw [hx]; rfl, hbw.trans (Drawn.below (w := wr) ⟨_, rfl⟩ _)⟩
      | false =>
        go_wp2_with fail
        go_quiet (fail)
        go_wp2_with fail
        have hh3 : headsFault p = 0 := by rw [Hh2.out, Hd0.out, if_neg (fun hn => hn (Hs.out.2 (by simpa using h)))]
        have Hh3 := Lib.hid (show machineFaultF p = codesF (machineCodeFaultF p.funcs) p.funcs by unfold machineFaultF; rw [hh3]; rfl)
        clear hh3 Hh2 Hs Hd0 h
        have Hb0 := Lib.hid (show Below (w.heap.size + 1) (w.alloc (.cells #[.slice (some ⟨b, off, none⟩) p.funcs.length cp, .slice ad p.data.length cd] 25)) (wr.drewN nq) from hbel.trans (Drawn.below (w := wr) ⟨_, rfl⟩ _))
        clear hbel bp0 bp1 hy1 hy2 hbw
        go_loopw [52] (fun i wr => ∃ n : Nat, n ≤ p.funcs.length ∧ i = .int .i64 n ∧ machineFaultF p = codesF (machineCodeFaultF p.funcs) (p.funcs.drop n) ∧ Below (w.heap.size + 1) (w.alloc (.cells #[.slice (some ⟨b, off, none⟩) p.funcs.length cp, .slice ad p.data.length cd] 25)) wr) (fun i _ => p.funcs.length - (intOf i).toNat)
        case atStart => exact ⟨0, Nat.zero_le _, rfl, by rw [Hh3.out]; rfl, Hb0.out⟩
        case round =>
          obtain ⟨n, hn, rfl, hrs, hbel⟩ := hrel
          have Hrs := Lib.hid hrs
          clear hrs
          have bp := fun j => hbel.cell (p := ⟨w.heap.size, j, none⟩) (by show w.heap.size < w.heap.size + 1; omega)
          simp only [World.cell?_alloc_at _ _ _ _ rfl] at bp
          have bp0 : wr.cell? ⟨w.heap.size, 0, none⟩ = some (.slice (some ⟨b, off, none⟩) p.funcs.length cp) := bp 0
          have bp1 : wr.cell? ⟨w.heap.size, 1, none⟩ = some (.slice ad p.data.length cd) := bp 1
          have hbw : Below w.heap.size w wr := box_below hbel
          have hsz : w.heap.size + 1 ≤ wr.heap.size := by have := hbel.size; simpa using this
          have Hsz := Lib.hid hsz
          clear bp hsz
          by_cases hnl : n < p.funcs.length
          · have hnl1 : (n : Int) < (p.funcs.length : Int) := by omega
            obtain ⟨b', off', v5, hbb, -, -, h0, h1, h2, h3, h4, h5, hI, hbs⟩ := Hatp.out n hnl
            obtain ⟨a5, c5, rfl⟩ := rSlice_shape hbs
            obtain ⟨rfl, rfl⟩ : b = b' ∧ off = off' := by simpa using hbb
            have hy0 : wr.cell? ⟨b, off + n * 6, none⟩ = _ := (hbw.cell (p := ⟨b, off + n * 6, none⟩) hb).trans h0
            have hy1 : wr.cell? ⟨b, off + n * 6 + 1, none⟩ = _ := (hbw.cell (p := ⟨b, off + n * 6 + 1, none⟩) hb).trans h1
            have hy2 : wr.cell? ⟨b, off + n * 6 + 2, none⟩ = _ := (hbw.cell (p := ⟨b, off + n * 6 + 2, none⟩) hb).trans h2
            have hy3 : wr.cell? ⟨b, off + n * 6 + 3, none⟩ = _ := (hbw.cell (p := ⟨b, off + n * 6 + 3, none⟩) hb).trans h3
            have hy4 : wr.cell? ⟨b, off + n * 6 + 4, none⟩ = _ := (hbw.cell (p := ⟨b, off + n * 6 + 4, none⟩) hb).trans h4
            have hy5 : wr.cell? ⟨b, off + n * 6 + 5, none⟩ = _ := (hbw.cell (p := ⟨b, off + n * 6 + 5, none⟩) hb).trans h5
            have hb3 : ∀ o, Below wr.heap.size wr (wr.alloc o) := fun o => (Below.refl _ _).alloc (Nat.le_refl _) _
            have hkeep := fun o => Keep.of_below' (S := fun _ => True) (hbw.trans ((hb3 o).mono hbw.size)) (fun k hk _ => hk)
            have hcal := fun o => vmCode_any p.funcs (.slice (some ⟨b, off, none⟩) p.funcs.length cp) (.slice ad p.data.length cd) p.funcs[n] _ (wr.alloc o) (Good.kept (hkeep o) Hp.out) (Good.kept (hkeep o) ⟨_, rfl, hI, hbs⟩) (Hf.out.1.2 _ (List.getElem_mem hnl)) (HL.out.below (hbw.trans ((hb3 o).mono hbw.size)))
            have Hcal := Lib.hid hcal
            have Hat := Lib.hid (codesF_at (g := machineCodeFaultF p.funcs) hnl)
            have Hb3 := Lib.hid hb3
            clear hcal h0 h1 h2 h3 h4 h5 hI hbs hkeep hbb hb3
            generalize p.funcs[n] = c at *
            generalize hev : machineCodeFaultF p.funcs c = ev at *
            have Hbw := Lib.hid hbw
            have Hbel := Lib.hid hbel
            have hszw : w.heap.size < wr.heap.size := by have := Hsz.out; omega
            have hp0' : ∀ o, (wr.alloc o).cell? ⟨w.heap.size, 0, none⟩ = some (.slice (some ⟨b, off, none⟩) p.funcs.length cp) := fun o => (World.cell?_alloc_lt _ _ _ hszw).trans bp0
            have hp1' : ∀ o, (wr.alloc o).cell? ⟨w.heap.size, 1, none⟩ = some (.slice ad p.data.length cd) := fun o => (World.cell?_alloc_lt _ _ _ hszw).trans bp1
            clear hbw hbel hev
            go_wp2_with fail
            clear hp0' hp1'
            refine (Hcal.out _).mono ?_
            rintro e w1 ⟨rfl, hb1⟩
            have hb2 : Below wr.heap.size wr w1 := (Hb3.out _).trans (hb1.mono (by simp))
            have Hb2 := Lib.hid hb2
            clear hb1 hb2 Hcal
            by_cases he : ev = 0
            · subst he
              go_wp2_with fail
              go_roundw
              case rel => exact ⟨n + 1, by omega, by go_num, by rw [Hrs.out, Hat.out, if_neg (by simp)], Hbel.out.trans (Hb2.out.mono Hsz.out)⟩
              case measure => simp [intOf]; omega
            · have he1 : (ev != 0) = true := by simpa using he
              have He := Lib.hid he
              clear he
              go_wp2_with fail
              go_ret
              exact ⟨by rw [Hrs.out, Hat.out, if_pos He.out]; rfl, Hbw.out.trans (Hb2.out.mono (by have := Hsz.out; omega))⟩
          · have hne : n = p.funcs.length := by omega
            subst hne
            go_wp2_with fail
            go_ret
            exact ⟨by rw [Hrs.out, List.drop_length]; rfl, hbw⟩
end Go.Proofs.YtaomlfbcfmmhlaaDoor

/-
  vm.Run: the contract (printed by wip/gen_vmrun.py).
-/
namespace Go.Proofs.YtaomlfbcfmmhlaaDoor
open Go.RowKit Go.Pst
set_option linter.unusedVariables false
set_option linter.unusedSimpArgs false

theorem vmClone_any (l : List Int) (v : Value) (w : World) (h : rInts (fun _ => True) w [v] l) (hl : l.length ≤ 20000) :
    Calls Tryd.prog 60 #[v] w fun e w' => ∃ v', e = .returned v' ∧ w'.ownsRow w.heap.size 3 1 v' l.length (l.map (Value.int .i64)) ∧ Below w.heap.size w w' := by
  obtain ⟨a, c, rfl, h1, h2, h3⟩ := rInts_val h
  cases a with
  | none =>
    have : l = [] := by
      cases l with
      | nil => rfl
      | cons x r => obtain ⟨_, _, he, _⟩ := h3 0 (by simp); simp at he
    subst this
    refine (Tryd.slices_Clone_int_nil _ c w).mono ?_
    rintro e w' ⟨rfl, rfl⟩
    exact ⟨_, rfl, ⟨by simp, Or.inl ⟨rfl, rfl⟩⟩, Below.refl _ _⟩
  | some ad =>
    by_cases h0 : l.length = 0
    · have : l = [] := List.eq_nil_of_length_eq_zero h0
      subst this
      refine (Tryd.slices_Clone_int_zero ad c w).mono ?_
      rintro e w' ⟨v', he, ho, -, hb⟩
      exact ⟨v', he, ho, hb⟩
    · obtain ⟨b, off, had, -⟩ := h3 0 (by omega)
      obtain rfl : ad = ⟨b, off, none⟩ := by simpa using had
      refine (Tryd.slices_Clone_int b off l.length c l w (Nat.le_refl _) (by omega) (fun j hj => ?_)).mono ?_
      · obtain ⟨b', o', he, -, -, hc, -⟩ := h3 j hj
        obtain ⟨rfl, rfl⟩ : b = b' ∧ off = o' := by simpa using he
        rw [hc]
        simp [List.getD_eq_getElem?_getD, hj]
      · rintro e w' ⟨v', he, ho, -, hb⟩
        rw [List.take_length] at ho
        exact ⟨v', he, ho, hb⟩

theorem VmAt.start [Old] {w2 : World} {base bm : Nat} {v1 vW : Value} {bF oF cF : Nat} {p : PProg} {limit : Int} (hp : rProg (· < base) w2 [.slice (some ⟨bF, oF, none⟩) p.funcs.length cF, v1] p)
    (hm : w2.heap[bm]? = some (.cells #[.slice (some ⟨bF, oF, none⟩) p.funcs.length cF, v1, vW, .int .i64 limit, .slice none 0 0, .slice none 0 0] 113)) (hb : base ≤ bm)
    (oW : w2.ownsRow base 3 1 vW p.data.length (p.data.map (Value.int .i64))) (hne : vW.ownBlock ≠ some bm) (hbel : Below base Old.w0 w2) (hbig : base ≤ w2.heap.size) :
    ∃ ρ, VmAt ρ w2 base bm v1 vW (.slice none 0 0) (.slice none 0 0) bF oF cF p limit p.data [] [] := by
  have hl : bm < w2.heap.size := (Array.getElem?_eq_some_iff.1 hm).1
  refine ⟨fun k => if k = bm then some .s else some .w, { prog := hp, c0 := by simp [World.cell?, hm], c1 := by simp [World.cell?, hm], c2 := by simp [World.cell?, hm], c3 := by simp [World.cell?, hm], c4 := by simp [World.cell?, hm], c5 := by simp [World.cell?, hm], z := fun j => by simp [World.frozen?, hm], lm := ⟨by simp, hb, hl⟩, lw := fun k hk => ?_, ll := fun k hk => by simp [Value.ownBlock] at hk, lc := fun k hk => by simp [Value.ownBlock] at hk, oW := oW, oL := ⟨by simp, Or.inl ⟨rfl, rfl⟩⟩, rF := ⟨by simp [vmRow], Or.inl ⟨rfl, rfl⟩⟩, levs := trivial, big := hbig, below := hbel }⟩
  have : k ≠ bm := fun e => hne (by rw [hk, e])
  simp [this]

/-- What vm's loop knows: so many steps are left at most. -/
def VmLoop [Old] (base bm : Nat) (v1 : Value) (bF oF cF : Nat) (p : PProg) (limit : Int) (R : Int × List ByteArray) (k : Nat) (s2 s10 : Value) (w : World) : Prop :=
  ∃ ρ vW vL vF words lines fr end_, VmAt ρ w base bm v1 vW vL vF bF oF cF p limit words lines fr ∧ s10 = .int .i64 end_ ∧
    ((∃ n : Nat, s2 = .int .i64 n ∧ end_ = 0 ∧ k = n + 1 ∧ n ≤ 10000000 ∧ Fits p true limit (vmState words lines fr) ∧ runF p true limit n (vmState words lines fr) = R) ∨
     (end_ ≠ 0 ∧ (∃ z, s2 = .int .i64 z) ∧ k = 0 ∧ R = (end_, lines)))
theorem vmNameAt_first (s : ByteArray) (l : List PCode) (h : 0 < l.length) (hs : s = l[0].name) : nameAt s l = 0 := by
  cases l with
  | nil => simp at h
  | cons x r => simp [nameAt, firstOf, hs]
theorem vmNil_int (w : World) (base : Nat) : w.ownsRow base 3 1 (.slice none 0 0) ([] : List Int).length (([] : List Int).map (Value.int .i64)) := ⟨rfl, Or.inl ⟨rfl, rfl⟩⟩
theorem TabOK.vmBelow {base : Nat} {w w' : World} (h : TabOK w) (hb : Below base w w') (hl : 5 < base) : TabOK w' :=
  h.since (F := fun k => ¬ k < base) ⟨hb.os, hb.tape, hb.output, hb.size, fun k _ hk => hb.block k (Decidable.of_not_not hk)⟩ (fun e => e hl)
theorem vmRun_end [Old] {w w1 W W' : World} {ρ : Nat → Option Lab} {bm : Nat} {v1 vW vL vF : Value} {bF oF cF : Nat} {p : PProg} {limit end_ : Int} {words : List Int} {lines : List ByteArray} {fr : List (Lev × LV)} (h : VmAt ρ W w1.heap.size bm v1 vW vL vF bF oF cF p limit words lines fr)
    (hO : Old.w0 = w1) (hb : Below w.heap.size w w1) (hl : w.heap.size + 1 < w1.heap.size) (hs : Since (fun k => k = w.heap.size + 1) W W') : ResPost w ((end_, lines), 0) (.returned (.tuple #[.agg #[vL, .int .i64 end_], .int .i64 0])) W' := by
  have hB : Below w1.heap.size w1 W := by have := h.below; rw [hO] at this; exact this
  have h1 := hb.size
  have h2 := hb.trans (hB.mono h1)
  refine ⟨vL, rfl, hs.row (ownsRow_from h.oL h1) (fun k hk e => ?_), h2.trans (hs.below h2.size (fun k e => by omega))⟩
  have := (h.oL.lt k hk).1
  omega

set_option maxRecDepth 100000 in
set_option maxHeartbeats 4000000 in
theorem vmRun_any (p : PProg) (v0 v1 : Value) (heap fuel : Int) (w : World) (hp : rProg (fun _ => True) w [v0, v1] p) (hf : FitProg p) (hh : InI heap) (hfu : InI fuel) (hL : VmLaid w) (hT : TabOK w) :
    Calls Tryd.prog 26 #[.agg #[v0, v1], .int .i64 heap, .int .i64 fuel] w (ResPost w (resF (machineFaultF p) true 10000000 p heap fuel)) := by
  obtain ⟨p0, p1, hv, hp0, hp1⟩ := id hp
  obtain ⟨rfl, rfl⟩ : v0 = p0 ∧ v1 = p1 := by simpa using hv
  obtain ⟨ap, cp, rfl⟩ := rSlice_shape hp0
  obtain ⟨ad, cd, rfl, hld, -, -⟩ := rInts_open hp1
  have Hp := Lib.hid hp
  have Hp1 := Lib.hid hp1
  have HL := Lib.hid hL
  have HT := Lib.hid hT
  obtain ⟨hh1, hh2⟩ := hh
  obtain ⟨hfu1, hfu2⟩ := hfu
  clear hp hv hp0 hp1 hL hT
  go_enter Tryd.func26, Tryd.ntmps26
  go_wp2_with fail
  generalize hw0 : (w.alloc (.cells #[.slice ap p.funcs.length cp, .slice ad p.data.length cd] 25)).alloc (.cells #[.slice none 0 0, .int .i64 0] 41) = w0
  have hbel : Below w.heap.size w w0 := by rw [← hw0]; exact ((Below.refl _ _).alloc (Nat.le_refl _) _).alloc (by simp) _
  have hsz : w0.heap.size = w.heap.size + 2 := by rw [← hw0]; simp
  have bp0 : w0.cell? ⟨w.heap.size, 0, none⟩ = some (.slice ap p.funcs.length cp) := by rw [← hw0, World.cell?_alloc_lt _ _ _ (by simp), World.cell?_alloc_at _ _ _ _ rfl]; rfl
  have bp1 : w0.cell? ⟨w.heap.size, 1, none⟩ = some (.slice ad p.data.length cd) := by rw [← hw0, World.cell?_alloc_lt _ _ _ (by simp), World.cell?_alloc_at _ _ _ _ rfl]; rfl
  have br0 : w0.cell? ⟨w.heap.size + 1, 0, none⟩ = some (.slice none 0 0) := by rw [← hw0, World.cell?_alloc_at _ _ _ _ (by simp)]; rfl
  have br1 : w0.cell? ⟨w.heap.size + 1, 1, none⟩ = some (.int .i64 0) := by rw [← hw0, World.cell?_alloc_at _ _ _ _ (by simp)]; rfl
  have bz0 : w0.frozen? ⟨w.heap.size + 1, 0, none⟩ = false := by rw [← hw0, World.frozen?_alloc_at _ _ _ _ (by simp)]
  have bz1 : w0.frozen? ⟨w.heap.size + 1, 1, none⟩ = false := by rw [← hw0, World.frozen?_alloc_at _ _ _ _ (by simp)]
  clear hw0
  have hk0 := Keep.of_below' (S := fun _ => True) hbel (fun k hk _ => hk)
  refine (vmCheck_any p _ w0 (Good.kept hk0 Hp.out) hf (HL.out.below hbel)).mono ?_
  rintro e w1 ⟨rfl, hb1⟩
  have hb2 : Below w.heap.size w w1 := hbel.trans (hb1.mono (by omega))
  have ap0 := (hb1.cell (p := ⟨w.heap.size, 0, none⟩) (by show w.heap.size < w0.heap.size; omega)).trans bp0
  have ap1 := (hb1.cell (p := ⟨w.heap.size, 1, none⟩) (by show w.heap.size < w0.heap.size; omega)).trans bp1
  have ar0 := (hb1.cell (p := ⟨w.heap.size + 1, 0, none⟩) (by show w.heap.size + 1 < w0.heap.size; omega)).trans br0
  have ar1 := (hb1.cell (p := ⟨w.heap.size + 1, 1, none⟩) (by show w.heap.size + 1 < w0.heap.size; omega)).trans br1
  have az0 := (hb1.frozen (p := ⟨w.heap.size + 1, 0, none⟩) (by show w.heap.size + 1 < w0.heap.size; omega)).trans bz0
  have az1 := (hb1.frozen (p := ⟨w.heap.size + 1, 1, none⟩) (by show w.heap.size + 1 < w0.heap.size; omega)).trans bz1
  have Hb2 := Lib.hid hb2
  have hz1 := hb1.size
  clear bp0 bp1 br0 br1 bz0 bz1 hb1 hbel hk0 hb2
  generalize hev : machineFaultF p = ev at *
  by_cases hz : ev = 0
  · subst hz
    by_cases hr : (p.data.length : Int) ≤ heap ∧ heap ≤ 20000 ∧ 0 ≤ fuel ∧ fuel ≤ 10000000
    · obtain ⟨hr1, hr2, hr3, hr4⟩ := hr
      have d1 : decide (heap < (p.data.length : Int)) = false := decide_eq_false (by omega)
      have d2 : decide (heap > 20000) = false := decide_eq_false (by omega)
      have d3 : decide (fuel < 0) = false := decide_eq_false (by omega)
      have d4 : decide (fuel > 10000000) = false := decide_eq_false (by omega)
      have Hr := Lib.hid (show resF 0 true 10000000 p heap fuel = (runF p true heap fuel.toNat (startF p), 0) by
        unfold resF
        rw [if_neg (by simp), if_pos ⟨hr1, hr2, hr3, hr4⟩])
      have hs := machineFaultF_ok hev
      have HS := Lib.hid hs
      have Hrg := Lib.hid (machRegs hev)
      clear hev hs
      have hs := HS.out
      have h00 : 0 < p.funcs.length := hs.some_.1
      obtain ⟨bF, oF, rfl, hbF, hnm⟩ : ∃ bF oF, ap = some ⟨bF, oF, none⟩ ∧ bF < w.heap.size ∧ w.cell? ⟨bF, oF, none⟩ = some (.string (p.funcs[0]'h00).name) := by
        obtain ⟨u0, u1, hv, hc, -⟩ : rProg (· < w.heap.size) w _ p := Good.wide Hp.out (fun k hk _ => hk)
        obtain ⟨rfl, rfl⟩ : _ = u0 ∧ _ = u1 := by simpa using hv
        obtain ⟨a, c, hv, -, -, h⟩ := rSlice_val hc
        obtain ⟨b, off, es, rfl, hS, hb, hl, hcl, v5, rfl, -⟩ := h 0 h00
        have h0 := hcl 0 (by decide)
        exact ⟨b, off, by simpa using (Value.slice.inj hv).1, hS, by simpa using h0⟩
      have dnm := (Hb2.out.cell (p := ⟨bF, oF, none⟩) hbF).trans hnm
      have hk1 := Keep.of_below' (S := fun _ => True) Hb2.out (fun k hk _ => hk)
      have hbF2 : bF < w1.heap.size := by omega
      have hdr := (Since.drew (fun _ => False) w1).below (Nat.le_refl w1.heap.size) (fun _ (e : False) => e.elim)
      have Hcl := Lib.hid (vmClone_any p.data _ w1.drew (Good.kept (Keep.of_below' (S := fun _ => True) hdr (fun k hk _ => hk)) (Good.kept hk1 Hp1.out)) (by omega))
      have hlp : w.heap.size < w1.heap.size := by omega
      have hlr : w.heap.size + 1 < w1.heap.size := by omega
      have hdat : ∀ x ∈ p.data, InI x := fun x hx => by
        obtain ⟨_, _, _, _, _, hd3⟩ := rInts_val Hp1.out
        obtain ⟨i, hi, rfl⟩ := List.mem_iff_getElem.1 hx
        obtain ⟨_, _, _, _, _, _, hI⟩ := hd3 i hi
        exact hI
      have Hst := Lib.hid (start_fits hs hr1 hdat)
      have Hn := Lib.hid (instr_n Hp.out)
      have h0c := hs.codes _ (codeAt_mem h00)
      obtain ⟨q1, q2, q3, q4⟩ := h0c.small
      obtain ⟨nv, hnv⟩ := Int.eq_ofNat_of_zero_le q3
      obtain ⟨nr, hnr⟩ := Int.eq_ofNat_of_zero_le q1
      have hr8 := Hrg.out _ (codeAt_mem h00)
      have hfl := hs.some_.2
      have Hnm := Lib.hid (vmNameAt_first _ p.funcs h00 rfl)
      have Hnv := Lib.hid (show (codeAt p 0).slots = (nv : Int) ∧ nv ≤ 3000 ∧ (codeAt p 0).vars = (nr : Int) ∧ nr ≤ 8 from ⟨hnv, by omega, hnr, by omega⟩)
      obtain ⟨nf, hnf⟩ := Int.eq_ofNat_of_zero_le hr3
      have Hfu := Lib.hid (show fuel.toNat = nf ∧ nf ≤ 10000000 from ⟨by omega, by omega⟩)
      clear hdr hs hk1 hnm hdat h0c q1 q2 q3 q4 hnv hnr hr8
      generalize hR : runF p true heap fuel.toNat (startF p) = R at *
      have HRR := Lib.hid hR
      clear hR
      generalize (p.funcs[0]'h00).name = nm at *
      obtain ⟨O, hO⟩ : ∃ O : Old, O.w0 = w1 := ⟨⟨w1⟩, rfl⟩
      have HO := Lib.hid hO
      clear hO
      go_upto_region 6 with fail
      go_cut [9] from 37 to 43 (fun s9 wx => ∃ vW w2, s9 = .pointer (some ⟨w2.heap.size, 0, none⟩) ∧ w2.ownsRow w1.heap.size 3 1 vW p.data.length (p.data.map (Value.int .i64)) ∧ Below w1.heap.size w1 w2 ∧ wx = (w2.alloc (.cells #[.slice (some ⟨bF, oF, none⟩) p.funcs.length cp, .slice ad p.data.length cd, vW, .int .i64 heap, .slice none 0 0, .slice none 0 0] 113)))
      case first =>
        go_region_held3 (fun w' => w'.cell? ⟨w.heap.size, 0, none⟩ = some (.slice (some ⟨bF, oF, none⟩) p.funcs.length cp) ∧ w'.cell? ⟨w.heap.size, 1, none⟩ = some (.slice ad p.data.length cd)) (go_keep) (first | (go_at_call 60; refine Hcl.out.mono ?_; rintro e w2 ⟨vW, rfl, oW, hbc'⟩; obtain ⟨aW, cW, rfl, -, -⟩ := row_slice oW; have hbc := ((Since.drew (fun _ => False) w1).below (Nat.le_refl w1.heap.size) (fun _ (e : False) => e.elim)).trans hbc'; clear hbc'; have z0 := (hbc.cell (p := ⟨w.heap.size, 0, none⟩) hlp).trans ap0; have z1 := (hbc.cell (p := ⟨w.heap.size, 1, none⟩) hlp).trans ap1; have OW := Lib.hid oW; have HBC := Lib.hid hbc; clear oW hbc))
        all_goals (go_wp2_with fail; go_meet; exact ⟨_, _, rfl, OW.out, HBC.out, rfl⟩)
      case rest =>
        obtain ⟨vW, w2, rfl, oW, hbc, rfl⟩ := hcut
        have hb3 : Below w1.heap.size w1 (w2.alloc (.cells #[.slice (some ⟨bF, oF, none⟩) p.funcs.length cp, .slice ad p.data.length cd, vW, .int .i64 heap, .slice none 0 0, .slice none 0 0] 113)) := hbc.trans ((Since.alloc _ w2 (.cells #[.slice (some ⟨bF, oF, none⟩) p.funcs.length cp, .slice ad p.data.length cd, vW, .int .i64 heap, .slice none 0 0, .slice none 0 0] 113)).below hbc.size (fun _ (e : False) => e.elim))
        have hprog : rProg (· < w1.heap.size) ((w2.alloc (.cells #[.slice (some ⟨bF, oF, none⟩) p.funcs.length cp, .slice ad p.data.length cd, vW, .int .i64 heap, .slice none 0 0, .slice none 0 0] 113))) [.slice (some ⟨bF, oF, none⟩) p.funcs.length cp, .slice ad p.data.length cd] p :=
          Good.kept (Keep.of_below' (S := (· < w1.heap.size)) hb3 (fun k hk _ => hk)) (Good.kept (Keep.of_below' (S := (· < w1.heap.size)) Hb2.out (fun k hk _ => hk)) (Good.wide Hp.out (fun k hk _ => by have := Hb2.out.size; omega)))
        obtain ⟨ρ0, hst⟩ := VmAt.start (base := w1.heap.size) (bm := w2.heap.size) (limit := heap) (w2 := (w2.alloc (.cells #[.slice (some ⟨bF, oF, none⟩) p.funcs.length cp, .slice ad p.data.length cd, vW, .int .i64 heap, .slice none 0 0, .slice none 0 0] 113))) hprog (heap_alloc_new w2 (.cells #[.slice (some ⟨bF, oF, none⟩) p.funcs.length cp, .slice ad p.data.length cd, vW, .int .i64 heap, .slice none 0 0, .slice none 0 0] 113)) hbc.size (oW.alloc (.cells #[.slice (some ⟨bF, oF, none⟩) p.funcs.length cp, .slice ad p.data.length cd, vW, .int .i64 heap, .slice none 0 0, .slice none 0 0] 113)) (fun e => by have := (oW.lt _ e).2; omega) (by rw [HO.out]; exact hb3) hb3.size
        have d0 := (hb3.cell (p := ⟨w.heap.size, 0, none⟩) hlp).trans ap0
        have d1' := (hb3.cell (p := ⟨bF, oF, none⟩) hbF2).trans dnm
        have HST := Lib.hid hst
        have hbl := hst.lm.2.2
        clear hst hprog oW hbc hb3
        generalize (w2.alloc (.cells #[.slice (some ⟨bF, oF, none⟩) p.funcs.length cp, .slice ad p.data.length cd, vW, .int .i64 heap, .slice none 0 0, .slice none 0 0] 113)) = w3 at *
        generalize w2.heap.size = bm at *
        go_wp2_with (first | (go_at_call 68; refine (vmEnter1 ρ0 w3 w1.heap.size bm _ _ _ _ _ _ nm bF oF cp p heap p.data [] [] [] [] 0 nv nr HST.out (by decide) (vmNil_int w3 w1.heap.size) (rSlice_nil _ _ _ _) Hnm.out h00 hfl Hnv.out.1 Hnv.out.2.2.1 Hnv.out.2.2.2 (by simp) Hnv.out.2.1).mono ?_; rintro e w4 ⟨rfl, ρ1, vF1, fr1, hA, hfr, -⟩; have HA := Lib.hid hA; have Hfr := Lib.hid hfr; clear hA hfr))
        go_loopg [2, 10, 11, 12] (nf + 1) (fun k s2 s10 s11 s12 wr => VmLoop w1.heap.size bm (.slice ad p.data.length cd) bF oF cp p heap R k s2 s10 wr)
        case atStart =>
          obtain ⟨rfl, h5⟩ := Hfu.out
          refine ⟨ρ1, _, _, vF1, _, _, fr1, 0, HA.out, rfl, Or.inl ⟨_, hnf ▸ rfl, rfl, rfl, h5, ?_, ?_⟩⟩
          · rw [show vmState p.data [] fr1 = startF p by
              unfold vmState startF
              rw [Hfr.out, Hnv.out.1, Hnv.out.2.2.1]
              simp]
            exact Hst.out
          · rw [show vmState p.data [] fr1 = startF p by
              unfold vmState startF
              rw [Hfr.out, Hnv.out.1, Hnv.out.2.2.1]
              simp]
            exact HRR.out
        case round =>
          obtain ⟨ρ, vW', vL, vF, words, lines, fr, end_, hA, rfl, hq⟩ := hrel
          obtain ⟨aL, cL, rfl, -, -⟩ := row_slice hA.oL
          have c5 := hA.c5
          have c4 := hA.c4
          have hbr : Below w1.heap.size w1 wr := by have := hA.below; rw [HO.out] at this; exact this
          have e0 := (hbr.cell (p := ⟨w.heap.size + 1, 0, none⟩) hlr).trans ar0
          have e1 := (hbr.cell (p := ⟨w.heap.size + 1, 1, none⟩) hlr).trans ar1
          have f0 := (hbr.frozen (p := ⟨w.heap.size + 1, 0, none⟩) hlr).trans az0
          have f1 := (hbr.frozen (p := ⟨w.heap.size + 1, 1, none⟩) hlr).trans az1
          have hbm := hA.lm.2
          have HB := Lib.hid hbr
          have HL2 := Lib.hid hA
          clear hA hbr
          rcases hq with ⟨n, rfl, rfl, rfl, hn6, hfit, hrun⟩ | ⟨hne, ⟨z, rfl⟩, rfl, hR⟩
          · have Hfit := Lib.hid hfit
            have Hrun := Lib.hid hrun
            cases n with
            | zero =>
              have hR6 : R = (6, lines) := hrun.symm
              have HR6 := Lib.hid hR6
              clear hfit hrun hR6
              go_wp2_with fail
              obtain ⟨k0, k1, ks⟩ := box_two (.slice aL lines.length cL) (.int .i64 6) e0 e1
              refine bodyPost_ret (v := .tuple #[.agg #[.slice aL lines.length cL, .int .i64 6], .int .i64 0]) (by simp [results, Tryd.results26, go_sem, k0, k1]) rfl ?_
              rw [Hr.out, HR6.out]
              exact vmRun_end HL2.out HO.out Hb2.out hlr ks
            | succ n =>
              have hne1 : (((n + 1 : Nat) : Int) == 0) = false := by simp; omega
              obtain ⟨⟨f, a⟩, r, rfl⟩ : ∃ x r, fr = x :: r := by
                have := hfit.some_.1
                cases fr with
                | nil => simp [vmState] at this
                | cons x r => exact ⟨x, r, rfl⟩
              have hA := HL2.out
              obtain ⟨g, cap, rfl, hcap, hg1, hg2, hpt, hpz⟩ := hA.top
              have hL : LevOK p f := hfit.levs f (by simp [vmState])
              have hlen := hfit.some_
              simp only [vmState, List.map_cons, List.length_cons, List.length_map] at hlen
              have hr40 : r.length < 40 := by omega
              obtain ⟨bF', oF', cF', bB, oB, cB, bI, oI, cI, u1, u2, u5, hv, i1, i2, i3, i4, i5, ⟨i6, i7⟩, i8, hI1, hI2, hI5, l0, l1, l2, hini⟩ := instr_mem hA.prog hL
              obtain ⟨⟨rfl, rfl⟩, rfl⟩ : (bF = bF' ∧ oF = oF') ∧ cp = cF' := by simpa using hv
              have g0 := (hA.get (j := 0) rfl).1
              have h8 : f.vars.length + a.rest.length = 8 := hA.levs.1.eight
              have g2 := (hA.get (j := 10) (VmAt.cells_tail h8 1)).1
              have g3 := (hA.get (j := 11) (VmAt.cells_tail h8 2)).1
              have g3z := (hA.get (j := 11) (VmAt.cells_tail h8 2)).2
              have hfn := hL.fn
              have hbl' := hL.bl
              have hal := hL.al
              have hbk := (HS.out.codes _ (codeAt_mem hL.fn)).nb.2
              have hbk2 := ((HS.out.codes _ (codeAt_mem hL.fn)).blk _ hL.blk).2.1
              obtain ⟨a1, c1, rfl⟩ := rSlice_shape hI1
              obtain ⟨a2, c2, rfl⟩ := rSlice_shape hI2
              obtain ⟨a5, c5', rfl⟩ := rSlice_shape hI5
              have HL' := Lib.hid hL
              have HI := Lib.hid (And.intro hI1 (And.intro hI2 (And.intro hI5 hini)))
              have hw0 : IntKind.i64.wrap (((r.length + 1 : Nat) : Int) - 1) = (r.length : Int) := by rw [show ((r.length + 1 : Nat) : Int) - 1 = r.length by omega]; exact IntWalk.i64_in _ (by omega)
              obtain ⟨m1, hm1⟩ : ∃ m1, m1 = r.length + 1 := ⟨_, rfl⟩
              have HM1 := Lib.hid hm1
              have hj0 : (0 : Int) ≤ (r.length : Int) := by omega
              have hj1 : (r.length : Int) < (m1 : Int) := by omega
              have hj2 : r.length < m1 := by omega
              rw [← hm1] at c4 hw0
              have hB1 : (f.block : Int) < ((codeAt p f.fn).blocks.length : Int) := by omega
              have hB0 : (0 : Int) ≤ (f.block : Int) := by omega
              have hA1 : (f.at_ : Int) < ((blockAt p f).length : Int) := by omega
              have hA0 : (0 : Int) ≤ (f.at_ : Int) := by omega
              clear hm1 hcap hfit hrun hA hL hlen hv hI1 hI2 hI5 hini hpz
              generalize hNB : (codeAt p f.fn).blocks.length = nB at *
              generalize hNI : (blockAt p f).length = nI at *
              have HNB := Lib.hid hNB
              have HNI := Lib.hid hNI
              clear hNB hNI
              go_upto_region 13 with fail
              go_cut [11] from 57 to 68 (fun s11 wx => s11 = .pointer (some ⟨a.gs, 0, none⟩) ∧ wx = wr.drew)
              case first =>
                go_region_held3 (fun w' => w'.cell? ⟨bm, 4, none⟩ = some (.slice (some ⟨g, 0, none⟩) m1 cap) ∧ w'.cell? ⟨g, r.length, none⟩ = some (.pointer (some ⟨a.gs, 0, none⟩))) (go_keep) (fail)
                all_goals (go_wp2_with fail; go_meet; exact ⟨rfl, rfl⟩)
              case rest =>
                obtain ⟨rfl, rfl⟩ := hcut
                have hg3b : a.gs < wr.heap.size := g3z.2
                have hg3f := g3z.1
                clear hpt hw0 hj0 hj1 hj2 c4
                have dq3 : ∀ o, (wr.alloc o).cell? ⟨a.gs, 11, none⟩ = some (.int .i64 f.at_) := fun o => (World.cell?_alloc_lt _ _ _ hg3b).trans g3
                have dz3 : ∀ o, (wr.alloc o).frozen? ⟨a.gs, 11, none⟩ = false := fun o => (World.frozen?_alloc_past _ _ _ hg3b).trans hg3f
                have hwat : IntKind.i64.wrap ((f.at_ : Int) + 1) = (f.at_ : Int) + 1 := IntWalk.i64_in _ (by omega)
                go_upto_region 14 with fail
                go_cut [12] from 69 to 87 (fun s12 wx => s12 = .pointer (some ⟨wr.heap.size, 0, none⟩) ∧ wx = (wr.alloc (.cells #[.int .i64 (instrAt p f).op, .slice a1 (instrAt p f).ds.length c1, .slice a2 (instrAt p f).ars.length c2, .int .i64 (instrAt p f).n, .string (instrAt p f).s, .slice a5 (instrAt p f).to.length c5'] 53)).drew.drew)
                case first =>
                  go_region_held3 (fun w' => w'.cell? ⟨a.gs, 0, none⟩ = some (.pointer (some ⟨bF, oF + f.fn * 6, none⟩)) ∧ w'.cell? ⟨bF, oF + f.fn * 6 + 5, none⟩ = some (.slice (some ⟨bB, oB, none⟩) nB cB) ∧
                    w'.cell? ⟨a.gs, 10, none⟩ = some (.int .i64 f.block) ∧ w'.cell? ⟨bB, oB + f.block, none⟩ = some (.slice (some ⟨bI, oI, none⟩) nI cI) ∧ w'.cell? ⟨a.gs, 11, none⟩ = some (.int .i64 f.at_) ∧
                    w'.cell? ⟨bI, oI + f.at_ * 6, none⟩ = some (.int .i64 (instrAt p f).op) ∧ w'.cell? ⟨bI, oI + f.at_ * 6 + 1, none⟩ = some (.slice a1 (instrAt p f).ds.length c1) ∧ w'.cell? ⟨bI, oI + f.at_ * 6 + 2, none⟩ = some (.slice a2 (instrAt p f).ars.length c2) ∧
                    w'.cell? ⟨bI, oI + f.at_ * 6 + 3, none⟩ = some (.int .i64 (instrAt p f).n) ∧ w'.cell? ⟨bI, oI + f.at_ * 6 + 4, none⟩ = some (.string (instrAt p f).s) ∧ w'.cell? ⟨bI, oI + f.at_ * 6 + 5, none⟩ = some (.slice a5 (instrAt p f).to.length c5')) (go_keep) (fail)
                  all_goals (go_wp2_with fail; go_meet; exact ⟨rfl, rfl⟩)
                case rest =>
                  obtain ⟨rfl, rfl⟩ := hcut
                  go_upto_region 15 with fail
                  go_cut [12] from 88 to 94 (fun s12 wx => s12 = .pointer (some ⟨wr.heap.size, 0, none⟩) ∧ ∃ ρ', VmAt ρ' wx w1.heap.size bm (.slice ad p.data.length cd) vW' (.slice aL lines.length cL) (.slice (some ⟨g, 0, none⟩) (r.length + 1) cap) bF oF cp p heap words lines (({ f with at_ := f.at_ + 1 }, a) :: r) ∧
                    wx.heap[wr.heap.size]? = some (.cells #[.int .i64 (instrAt p f).op, .slice a1 (instrAt p f).ds.length c1, .slice a2 (instrAt p f).ars.length c2, .int .i64 (instrAt p f).n, .string (instrAt p f).s, .slice a5 (instrAt p f).to.length c5'] 53) ∧ Since (fun k => k = a.gs) wr wx)
                  case first =>
                    go_wp2_with fail
                    go_meet
                    have hR := HL2.out
                    have h1 := hR.setC (f' := { f with at_ := f.at_ + 1 }) 11 (.int .i64 (f.at_ + 1)) rfl rfl rfl (by rw [vmCells_set h8 2]; simp [vmCells])
                    have s1 := Since.setCell wr ⟨a.gs, 11, none⟩ (.int .i64 (f.at_ + 1))
                    have s2 : Since (fun _ => False) (wr.setCell ⟨a.gs, 11, none⟩ (.int .i64 (f.at_ + 1))) ((wr.setCell ⟨a.gs, 11, none⟩ (.int .i64 (f.at_ + 1))).alloc (.cells #[.int .i64 (instrAt p f).op, .slice a1 (instrAt p f).ds.length c1, .slice a2 (instrAt p f).ars.length c2, .int .i64 (instrAt p f).n, .string (instrAt p f).s, .slice a5 (instrAt p f).to.length c5'] 53)).drew.drew := ((Since.alloc _ _ _).trans (Since.drew _ _)).trans (Since.drew _ _)
                    refine ⟨rfl, fun k => if k < wr.heap.size then ρ k else none, (h1.label (fun k hk => by simp only [World.size_setCell] at hk; simp [hk])).since s2, ?_, s1.trans (((Since.alloc _ _ _).trans (Since.drew _ _)).trans (Since.drew _ _))⟩
                    show ((wr.setCell _ _).alloc _).heap[wr.heap.size]? = _
                    have := heap_alloc_new (wr.setCell ⟨a.gs, 11, none⟩ (.int .i64 (f.at_ + 1))) (.cells #[.int .i64 (instrAt p f).op, .slice a1 (instrAt p f).ds.length c1, .slice a2 (instrAt p f).ars.length c2, .int .i64 (instrAt p f).n, .string (instrAt p f).s, .slice a5 (instrAt p f).to.length c5'] 53)
                    simpa using this
                  case rest =>
                    obtain ⟨rfl, ρ', h5, hbox, hsi⟩ := hcut
                    have b0 : wc.cell? ⟨wr.heap.size, 0, none⟩ = some (.int .i64 (instrAt p f).op) := by simp [World.cell?, hbox]
                    have b1 : wc.cell? ⟨wr.heap.size, 1, none⟩ = some (.slice a1 (instrAt p f).ds.length c1) := by simp [World.cell?, hbox]
                    have b2 : wc.cell? ⟨wr.heap.size, 2, none⟩ = some (.slice a2 (instrAt p f).ars.length c2) := by simp [World.cell?, hbox]
                    have b3 : wc.cell? ⟨wr.heap.size, 3, none⟩ = some (.int .i64 (instrAt p f).n) := by simp [World.cell?, hbox]
                    have b4 : wc.cell? ⟨wr.heap.size, 4, none⟩ = some (.string (instrAt p f).s) := by simp [World.cell?, hbox]
                    have b5 : wc.cell? ⟨wr.heap.size, 5, none⟩ = some (.slice a5 (instrAt p f).to.length c5') := by simp [World.cell?, hbox]
                    have hgb : w1.heap.size ≤ a.gs := (HL2.out.levs.1.cells.lt _ rfl).1
                    have hkp : Keep (· < w1.heap.size) wr wc := hsi.keep.weaken (fun k _ hk e => absurd (show k = a.gs from e) (by omega))
                    have hT1 := (HT.out.vmBelow Hb2.out HT.out.lt).vmBelow HB.out (Nat.lt_of_lt_of_le HT.out.lt (by omega))
                    have hT2 := hT1.since hsi (fun e => by have h1 : _ = a.gs := e; have := HT.out.lt; omega)
                    obtain ⟨hI1, hI2, hI5, hini⟩ := HI.out
                    have Hstep := Lib.hid (vmStep_any ρ' wc w1.heap.size bm _ _ _ _ _ _ _ bF oF cp p heap words lines f a r h5 Hfit.out HS.out Hrg.out hT2 (Nat.lt_of_lt_of_le HT.out.lt (by omega)) (by omega) hr2 (Good.kept hkp hI1) (Good.kept hkp hI2) (Good.kept hkp hI5) hini)
                    clear hT1 hT2 hkp hI1 hI2 hI5 hini hsi hbox h5 dq3 dz3 hwat hA0 hA1 hB0 hB1 i1 i2 i3 i4 i5 i6 i7 i8 g0 g2 g3 g3z hg3b hg3f e0 e1 f0 f1 c5 hbk hbk2
                    go_wp2_with (first | (go_at_call 69; refine Hstep.out.mono ?_; rintro e w6 ⟨rfl, ρ6, vW6, vL6, vF6, fr6, h6, hfr6⟩; have H6 := Lib.hid h6; have Hfr6 := Lib.hid hfr6; clear h6 hfr6))
                    generalize ho : stepF p true heap (vmState words lines ((f, a) :: r)) = o at *
                    have Ho := Lib.hid ho
                    clear ho
                    have hst : vmState o.2.words o.2.lines fr6 = o.2 := by unfold vmState; rw [Hfr6.out]
                    by_cases hz : o.1 = 0
                    · go_roundg (n + 1)
                      case measure => omega
                      case rel =>
                        refine ⟨ρ6, vW6, vL6, vF6, _, _, fr6, o.1, H6.out, rfl, Or.inl ⟨n, rfl, hz, rfl, by omega, ?_, ?_⟩⟩
                        · rw [hst, ← Ho.out]
                          exact stepF_fits HS.out Hn.out hr2 Hfit.out (by rw [Ho.out]; exact hz)
                        · rw [hst, ← Hrun.out]
                          show _ = (if (stepF p true heap (vmState words lines ((f, a) :: r))).1 = 0 then _ else _)
                          rw [Ho.out, if_pos hz]
                    · go_roundg 0
                      case measure => omega
                      case rel =>
                        refine ⟨ρ6, vW6, vL6, vF6, _, _, fr6, o.1, H6.out, rfl, Or.inr ⟨hz, ⟨_, rfl⟩, rfl, ?_⟩⟩
                        rw [← Hrun.out]
                        show (if (stepF p true heap (vmState words lines ((f, a) :: r))).1 = 0 then _ else _) = _
                        rw [Ho.out, if_neg hz]
          · have hne' : (end_ == 0) = false := by simpa using hne
            have HR := Lib.hid hR
            clear hne hR
            go_wp2_with fail
            obtain ⟨k0, k1, ks⟩ := box_two (.slice aL lines.length cL) (.int .i64 end_) e0 e1
            refine bodyPost_ret (v := .tuple #[.agg #[.slice aL lines.length cL, .int .i64 end_], .int .i64 0]) (by simp [results, Tryd.results26, go_sem, k0, k1]) rfl ?_
            rw [Hr.out, HR.out]
            exact vmRun_end HL2.out HO.out Hb2.out hlr ks
    · have hr' : heap < (p.data.length : Int) ∨ heap > 20000 ∨ fuel < 0 ∨ fuel > 10000000 := by omega
      have Hr := Lib.hid (show resF 0 true 10000000 p heap fuel = ((0, []), 2) by
        unfold resF
        rw [if_neg (by simp), if_neg hr])
      clear hev hr
      by_cases h1 : heap < (p.data.length : Int)
      · have d1 : decide (heap < (p.data.length : Int)) = true := decide_eq_true h1
        clear hr'
        go_wp2_with fail
        obtain ⟨g0, g1, gs⟩ := box_two (.slice none 0 0) (.int .i64 0) ar0 ar1
        refine bodyPost_ret (v := .tuple #[.agg #[.slice none 0 0, .int .i64 0], .int .i64 2]) (by simp [results, Tryd.results26, go_sem, g0, g1]) rfl ?_
        rw [Hr.out]
        exact ⟨_, rfl, nil_row _ _, Hb2.out.trans (gs.below Hb2.out.size (fun k e => by omega))⟩
      · have hr' := hr'
        by_cases h2 : heap > 20000
        · have d1 : decide (heap < (p.data.length : Int)) = false := decide_eq_false h1; have d2 : decide (heap > 20000) = true := decide_eq_true h2
          clear hr'
          go_wp2_with fail
          obtain ⟨g0, g1, gs⟩ := box_two (.slice none 0 0) (.int .i64 0) ar0 ar1
          refine bodyPost_ret (v := .tuple #[.agg #[.slice none 0 0, .int .i64 0], .int .i64 2]) (by simp [results, Tryd.results26, go_sem, g0, g1]) rfl ?_
          rw [Hr.out]
          exact ⟨_, rfl, nil_row _ _, Hb2.out.trans (gs.below Hb2.out.size (fun k e => by omega))⟩
        · have hr' := hr'
          by_cases h3 : fuel < 0
          · have d1 : decide (heap < (p.data.length : Int)) = false := decide_eq_false h1; have d2 : decide (heap > 20000) = false := decide_eq_false h2; have d3 : decide (fuel < 0) = true := decide_eq_true h3
            clear hr'
            go_wp2_with fail
            obtain ⟨g0, g1, gs⟩ := box_two (.slice none 0 0) (.int .i64 0) ar0 ar1
            refine bodyPost_ret (v := .tuple #[.agg #[.slice none 0 0, .int .i64 0], .int .i64 2]) (by simp [results, Tryd.results26, go_sem, g0, g1]) rfl ?_
            rw [Hr.out]
            exact ⟨_, rfl, nil_row _ _, Hb2.out.trans (gs.below Hb2.out.size (fun k e => by omega))⟩
          · have hr' := hr'
            have d1 : decide (heap < (p.data.length : Int)) = false := decide_eq_false h1; have d2 : decide (heap > 20000) = false := decide_eq_false h2; have d3 : decide (fuel < 0) = false := decide_eq_false h3; have d4 : decide (fuel > 10000000) = true := decide_eq_true (by omega)
            clear hr'
            go_wp2_with fail
            obtain ⟨g0, g1, gs⟩ := box_two (.slice none 0 0) (.int .i64 0) ar0 ar1
            refine bodyPost_ret (v := .tuple #[.agg #[.slice none 0 0, .int .i64 0], .int .i64 2]) (by simp [results, Tryd.results26, go_sem, g0, g1]) rfl ?_
            rw [Hr.out]
            exact ⟨_, rfl, nil_row _ _, Hb2.out.trans (gs.below Hb2.out.size (fun k e => by omega))⟩
  · have hz' : (ev == 0) = false := by simpa using hz
    have Hr := Lib.hid (show resF ev true 10000000 p heap fuel = ((0, []), ev) by
      unfold resF
      rw [if_pos hz])
    clear hev hz
    go_wp2_with fail
    obtain ⟨g0, g1, gs⟩ := box_two (.slice none 0 0) (.int .i64 0) ar0 ar1
    refine bodyPost_ret (v := .tuple #[.agg #[.slice none 0 0, .int .i64 0], .int .i64 ev]) (by simp [results, Tryd.results26, go_sem, g0, g1]) rfl ?_
    rw [Hr.out]
    exact ⟨_, rfl, nil_row _ _, Hb2.out.trans (gs.below Hb2.out.size (fun k e => by omega))⟩
end Go.Proofs.YtaomlfbcfmmhlaaDoor

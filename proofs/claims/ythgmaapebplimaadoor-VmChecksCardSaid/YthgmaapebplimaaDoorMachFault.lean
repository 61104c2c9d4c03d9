/-
  The reference's MachineFault: the contract.
-/
import Derived.Test.YthgmaapebplimaaDoorMachCode
import Derived.Test.YthgmaapebplimaaDoorWholeFault
namespace Go.Proofs.YthgmaapebplimaaDoor
open Go.RowKit Go.Pst
set_option linter.unusedVariables false

set_option maxRecDepth 4000 in
set_option maxHeartbeats 2000000 in
theorem machFault_any (p : PProg) (pcs : List Value) (w : World) (hp : rProg (fun _ => True) w pcs p) (hf : FitProg p) :
    Calls Tryd.prog 11 #[.agg pcs.toArray] w fun e w' => e = .returned (.int .i64 (machineFaultF p)) ∧ Below w.heap.size w w' := by
  obtain ⟨p0, p1, rfl, hp0, hp1⟩ := hp
  obtain ⟨ap, cp, rfl, hcapp, hmaxp, hatp⟩ := rCodes_val hp0
  obtain ⟨ad, cd, rfl, hld, -, -⟩ := rInts_open hp1
  unfold maxLen at hmaxp
  have hlf : p.funcs.length ≤ 9223372036854775807 := by omega
  have Hatp := Lib.hid hatp
  have Hp := Lib.hid hp0
  have Hf := Lib.hid hf
  clear hatp hp0 hp1 hf hcapp hmaxp
  by_cases z : p.funcs.length = 0
  · have z1 : ((p.funcs.length : Int) == 0) = true := by simpa using z
    have Z := Lib.hid (show machineFaultF p = 6 by unfold machineFaultF headsFault; rw [if_pos z]; rfl)
    clear z
    go_enter Tryd.func11, Tryd.ntmps11
    go_wp2_with fail
    go_ret
    exact ⟨by rw [Z.out]; rfl, (Below.refl _ _).alloc (Nat.le_refl _) _⟩
  by_cases s : 20000 < p.data.length ∨ 40 < p.funcs.length
  · have z1 : ((p.funcs.length : Int) == 0) = false := by simpa using z
    have Z := Lib.hid (show machineFaultF p = 1 by unfold machineFaultF headsFault; rw [if_neg z, if_pos s]; rfl)
    have s' : 20000 < (p.data.length : Int) ∨ 40 < (p.funcs.length : Int) := by omega
    clear z s
    go_enter Tryd.func11, Tryd.ntmps11
    rcases s' with s | s
    · go_wp2_with fail
      go_ret
      exact ⟨by rw [Z.out]; rfl, (Below.refl _ _).alloc (Nat.le_refl _) _⟩
    · by_cases s2 : 20000 < (p.data.length : Int)
      all_goals
        go_wp2_with fail
        go_ret
        exact ⟨by rw [Z.out]; rfl, (Below.refl _ _).alloc (Nat.le_refl _) _⟩
  have z1 : ((p.funcs.length : Int) == 0) = false := by simpa using z
  have z : ¬ (p.funcs.length = 0 ∨ 20000 < p.data.length ∨ 40 < p.funcs.length) := by omega
  have Z := Lib.hid z
  have z2 : decide ((p.data.length : Int) > 20000) = false := decide_eq_false (by omega)
  have z3 : decide ((p.funcs.length : Int) > 40) = false := decide_eq_false (by omega)
  have hlpos : 0 < p.funcs.length := by omega
  clear z s
  have hhead : headsFault p = if ¬ (p.funcs.map (·.name)).Nodup then 7 else if ((p.funcs.headD default).params + (p.funcs.headD default).results) % 18446744073709551616 ≠ 0 then 10 else 0 := by
    have hz := Z.out
    unfold headsFault
    rw [if_neg (fun h => hz (Or.inl h)), if_neg (fun h => hz (Or.inr h))]
  have Hh := Lib.hid hhead
  clear hhead
  go_enter Tryd.func11, Tryd.ntmps11
  go_wp2_with fail
  clear z1 z2 z3
  go_loopw [3] (fun i wr => ∃ n : Nat, n ≤ p.funcs.length ∧ i = .int .i64 n ∧ ((namesF p.funcs).take n).Nodup ∧ Below (w.heap.size + 1) (w.alloc (.cells #[.slice ap p.funcs.length cp, .slice ad p.data.length cd] 25)) wr) (fun i _ => p.funcs.length - (intOf i).toNat)
  case atStart => exact ⟨0, Nat.zero_le _, rfl, by simp, Below.refl _ _⟩
  case round =>
    obtain ⟨n, hn, rfl, hnd, hbel⟩ := hrel
    have Hnd := Lib.hid hnd
    clear hnd
    have bp0 := hbel.cell (p := ⟨w.heap.size, 0, none⟩) (by simp)
    rw [World.cell?_alloc_at _ _ _ _ rfl] at bp0
    have bp0 : wr.cell? ⟨w.heap.size, 0, none⟩ = some (.slice ap p.funcs.length cp) := bp0
    have bp1 := hbel.cell (p := ⟨w.heap.size, 1, none⟩) (by simp)
    rw [World.cell?_alloc_at _ _ _ _ rfl] at bp1
    have bp1 : wr.cell? ⟨w.heap.size, 1, none⟩ = some (.slice ad p.data.length cd) := bp1
    have hbw : Below w.heap.size w wr := box_below hbel
    have hsz : w.heap.size + 1 ≤ wr.heap.size := by have := hbel.size; simpa using this
    have Hsz := Lib.hid hsz
    clear hsz
    by_cases hnl : n < p.funcs.length
    · have hnl1 : (n : Int) < (p.funcs.length : Int) := by omega
      obtain ⟨b, off, v5, rfl, -, hb, h0, h1, h2, h3, h4, h5, hI, hbs⟩ := Hatp.out n hnl
      have hy0 : wr.cell? ⟨b, off + n * 6, none⟩ = _ := (hbw.cell (p := ⟨b, off + n * 6, none⟩) hb).trans h0
      have hkeep := Keep.of_below' (S := fun _ => True) (hbw.trans ((Drawn.drew wr).below _)) (fun k hk _ => hk)
      have hcal := funcNamed_any p.funcs[n].name p.funcs (.slice (some ⟨b, off, none⟩) p.funcs.length cp) (.slice ad p.data.length cd) wr.drew (Good.kept hkeep Hp.out)
      have Hcal := Lib.hid hcal
      have Hstep := Lib.hid (names_step hnl Hnd.out)
      have Hbad := Lib.hid (names_bad hnl)
      have hrange := firstOf_range (fun c : PCode => decide (c.name = p.funcs[n].name)) p.funcs
      have hra : -1 ≤ nameAt p.funcs[n].name p.funcs ∧ nameAt p.funcs[n].name p.funcs < p.funcs.length := hrange
      clear hcal h0 h1 h2 h3 h4 h5 hI hbs hkeep hrange
      generalize p.funcs[n].name = s at *
      generalize hev : nameAt s p.funcs = ev at *
      have Hev := Lib.hid hev
      clear hev
      have Hbw := Lib.hid hbw
      have Hbel := Lib.hid hbel
      clear hbw hbel
      go_wp2_with fail
      go_region_with (go_at_call 18; refine (Hcal.out).mono ?_; rintro e w1 ⟨rfl, hb1⟩)
      all_goals
        have hb2 : Below wr.heap.size wr w1 := ((Drawn.drew wr).below _).trans hb1
        have Hb2 := Lib.hid hb2
        clear hb1 hb2 Hcal
        by_cases he : ev = (n : Int)
        · have he1 : (ev != (n : Int)) = false := by simpa using he
          have He := Lib.hid he
          clear he
          go_wp2_with fail
          go_roundw
          case rel => exact ⟨n + 1, by omega, by go_num, Hstep.out He.out, Hbel.out.trans (Hb2.out.mono Hsz.out)⟩
          case measure => simp [intOf]; omega
        · have he1 : (ev != (n : Int)) = true := by simpa using he
          have He := Lib.hid he
          clear he
          go_wp2_with fail
          go_ret
          exact ⟨by unfold machineFaultF; rw [Hh.out, if_pos (Hbad.out He.out)]; rfl, Hbw.out.trans (Hb2.out.mono (by have := Hsz.out; omega))⟩
    · have hne : n = p.funcs.length := by omega
      subst hne
      have Hnm := Lib.hid (names_all Hnd.out)
      have hh2 : headsFault p = if ((p.funcs.headD default).params + (p.funcs.headD default).results) % 18446744073709551616 ≠ 0 then 10 else 0 := by
        rw [Hh.out, if_neg (fun h => h Hnm.out)]
      have Hh2 := Lib.hid hh2
      clear hh2 Hnm Hnd
      obtain ⟨b, off, v5, rfl, -, hb, h0, h1, h2, h3, h4, h5, hI, hbs⟩ := Hatp.out 0 hlpos
      have hy1 : wr.cell? ⟨b, off + 1, none⟩ = _ := (hbw.cell (p := ⟨b, off + 1, none⟩) hb).trans (by simpa using h1)
      have hy2 : wr.cell? ⟨b, off + 2, none⟩ = _ := (hbw.cell (p := ⟨b, off + 2, none⟩) hb).trans (by simpa using h2)
      have Hs := Lib.hid (heads_sum _ _ hI.2.1 hI.2.2.1)
      have h00 : (0 : Int) < (p.funcs.length : Int) := by omega
      have Hd0 := Lib.hid (headD_at hlpos)
      clear h0 h1 h2 h3 h4 h5 hbs hI
      cases h : (p.funcs[0].params != wrap64 (-p.funcs[0].results)) with
      | true =>
        go_wp2_with fail
        go_quiet (fail)
        go_wp2_with fail
        go_ret
        exact ⟨by
          have hx : headsFault p = 10 := by rw [Hh2.out, Hd0.out, if_pos (fun e => by have := Hs.out.1 e; simp [this] at h)]
          unfold machineFaultF; rw [hx]; rfl, hbw.trans (Drawn.below (w := wr) ⟨_, rfl⟩ _)⟩
      | false =>
        go_wp2_with fail
        go_quiet (fail)
        go_wp2_with fail
        have hh3 : headsFault p = 0 := by rw [Hh2.out, Hd0.out, if_neg (fun hn => hn (Hs.out.2 (by simpa using h)))]
        have Hh3 := Lib.hid (show machineFaultF p = codesF (machineCodeFaultF p.funcs) p.funcs by unfold machineFaultF; rw [hh3]; rfl)
        clear hh3 Hh2 Hs Hd0 h
        have Hb0 := Lib.hid (show Below (w.heap.size + 1) (w.alloc (.cells #[.slice (some ⟨b, off, none⟩) p.funcs.length cp, .slice ad p.data.length cd] 25)) (wr.drewN nq) from hbel.trans (Drawn.below (w := wr) ⟨_, rfl⟩ _))
        clear hbel bp0 bp1 hy1 hy2 hbw
        go_loopw [4] (fun i wr => ∃ n : Nat, n ≤ p.funcs.length ∧ i = .int .i64 n ∧ machineFaultF p = codesF (machineCodeFaultF p.funcs) (p.funcs.drop n) ∧ Below (w.heap.size + 1) (w.alloc (.cells #[.slice (some ⟨b, off, none⟩) p.funcs.length cp, .slice ad p.data.length cd] 25)) wr) (fun i _ => p.funcs.length - (intOf i).toNat)
        case atStart => exact ⟨0, Nat.zero_le _, rfl, by rw [Hh3.out]; rfl, Hb0.out⟩
        case round =>
          obtain ⟨n, hn, rfl, hrs, hbel⟩ := hrel
          have Hrs := Lib.hid hrs
          clear hrs
          clear bp0 bp1
          have bp := fun j => hbel.cell (p := ⟨w.heap.size, j, none⟩) (by show w.heap.size < w.heap.size + 1; omega)
          simp only [World.cell?_alloc_at _ _ _ _ rfl] at bp
          have bp0 : wr.cell? ⟨w.heap.size, 0, none⟩ = some (.slice (some ⟨b, off, none⟩) p.funcs.length cp) := bp 0
          have bp1 : wr.cell? ⟨w.heap.size, 1, none⟩ = some (.slice ad p.data.length cd) := bp 1
          have hbw : Below w.heap.size w wr := box_below hbel
          have hsz : w.heap.size + 1 ≤ wr.heap.size := by have := hbel.size; simpa using this
          have Hsz := Lib.hid hsz
          clear bp hsz
          by_cases hnl : n < p.funcs.length
          · have hnl1 : (n : Int) < (p.funcs.length : Int) := by omega
            obtain ⟨b', off', v5, hbb, -, -, h0, h1, h2, h3, h4, h5, hI, hbs⟩ := Hatp.out n hnl
            obtain ⟨rfl, rfl⟩ : b = b' ∧ off = off' := by simpa using hbb
            have hy0 : wr.cell? ⟨b, off + n * 6, none⟩ = _ := (hbw.cell (p := ⟨b, off + n * 6, none⟩) hb).trans h0
            have hy1 : wr.cell? ⟨b, off + n * 6 + 1, none⟩ = _ := (hbw.cell (p := ⟨b, off + n * 6 + 1, none⟩) hb).trans h1
            have hy2 : wr.cell? ⟨b, off + n * 6 + 2, none⟩ = _ := (hbw.cell (p := ⟨b, off + n * 6 + 2, none⟩) hb).trans h2
            have hy3 : wr.cell? ⟨b, off + n * 6 + 3, none⟩ = _ := (hbw.cell (p := ⟨b, off + n * 6 + 3, none⟩) hb).trans h3
            have hy4 : wr.cell? ⟨b, off + n * 6 + 4, none⟩ = _ := (hbw.cell (p := ⟨b, off + n * 6 + 4, none⟩) hb).trans h4
            have hy5 : wr.cell? ⟨b, off + n * 6 + 5, none⟩ = _ := (hbw.cell (p := ⟨b, off + n * 6 + 5, none⟩) hb).trans h5
            have hkeep := Keep.of_below' (S := fun _ => True) (hbw.trans ((Drawn.drew wr).below _)) (fun k hk _ => hk)
            have hcal := machCode_any p.funcs (.slice (some ⟨b, off, none⟩) p.funcs.length cp) (.slice ad p.data.length cd) p.funcs[n] _ wr.drew (Good.kept hkeep Hp.out) (Good.kept hkeep ⟨v5, rfl, hI, hbs⟩) (Hf.out.1.2 _ (List.getElem_mem hnl))
            have Hcal := Lib.hid hcal
            have Hat := Lib.hid (codesF_at (g := machineCodeFaultF p.funcs) hnl)
            clear hcal h0 h1 h2 h3 h4 h5 hI hbs hkeep hbb
            generalize p.funcs[n] = c at *
            generalize hev : machineCodeFaultF p.funcs c = ev at *
            have Hbw := Lib.hid hbw
            have Hbel := Lib.hid hbel
            clear hbw hbel hev
            go_wp2_with fail
            go_still_tail 6, (by kernel_rfl)
            change wpList _ _ _ _ _ wr.drew
            go_wp2_with fail
            refine (Hcal.out).mono ?_
            rintro e w1 ⟨rfl, hb1⟩
            have hb2 : Below wr.heap.size wr w1 := ((Drawn.drew wr).below _).trans hb1
            have Hb2 := Lib.hid hb2
            clear hb1 hb2 Hcal
            by_cases he : ev = 0
            · subst he
              go_wp2_with fail
              go_roundw
              case rel => first | exact ⟨n + 1, by omega, by go_num, by rw [Hrs.out, Hat.out, if_neg (by simp)], Hbel.out.trans (Hb2.out.mono Hsz.out)⟩ | ((repeat apply Exists.intro); exact ⟨⟨n + 1, by omega, by go_num, by rw [Hrs.out, Hat.out, if_neg (by simp)], Hbel.out.trans (Hb2.out.mono Hsz.out)⟩, rfl⟩)
              case measure => simp [intOf]; omega
            · have he1 : (ev != 0) = true := by simpa using he
              have He := Lib.hid he
              clear he
              go_wp2_with fail
              go_ret
              exact ⟨by rw [Hrs.out, Hat.out, if_pos He.out]; rfl, Hbw.out.trans (Hb2.out.mono (by have := Hsz.out; omega))⟩
          · have hne : n = p.funcs.length := by omega
            subst hne
            go_wp2_with fail
            go_ret
            exact ⟨by rw [Hrs.out, List.drop_length]; rfl, hbw⟩
end Go.Proofs.YthgmaapebplimaaDoor

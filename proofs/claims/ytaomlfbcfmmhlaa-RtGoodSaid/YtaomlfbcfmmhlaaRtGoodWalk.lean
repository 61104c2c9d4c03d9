/-
  RtGood's walk: rt.All's codes have the names, parameters and results that they should, and may be.
-/
import Derived.Test.YtaomlfbcfmmhlaaRtLit
import Derived.Test.YtaomlfbcfmmhlaaDriven
import Derived.Test.YtaomlfbcfmmhlaaCodeFault
namespace Go.Proofs.Ytaomlfbcfmmhlaa
open Go.RowKit Go.Pst
set_option linter.unusedVariables false
set_option linter.unusedSimpArgs false
set_option maxRecDepth 100000

def allL : List PCode := [cat_L, same_L, less_L, add_L, empty_L, find_L, get_L, put_L, drop_L, char_L]
theorem all_lit : allC = allL := by unfold allC allL; rw [cat_lit, same_lit, less_lit, add_lit, empty_lit, find_lit, get_lit, put_lit, drop_lit, char_lit]
def goodFs : List PCode := (drivenF allL ⟨#[95, 109, 97, 112]⟩ [] 1 []).funcs
theorem good_all : (allL.all fun c => codeFaultF goodFs c == 0) = true := by kernel_rfl
theorem fit_all : ∀ c ∈ allL, FitCode c := by
  have h : (allL.all fun c => decide (c.blocks.length * 24 ≤ reachBytes) && c.blocks.all fun b => decide (b.length * 104 ≤ reachBytes) && b.all fun i => decide (i.ds.length * 8 ≤ reachBytes) && decide (i.ars.length * 8 ≤ reachBytes) && decide (i.to.length * 8 ≤ reachBytes)) = true := by kernel_rfl
  intro c hc
  have h1 := List.all_eq_true.1 h c hc
  rw [Bool.and_eq_true] at h1
  refine ⟨of_decide_eq_true h1.1, fun b hb => ?_⟩
  have h2 := List.all_eq_true.1 h1.2 b hb
  rw [Bool.and_eq_true] at h2
  refine ⟨of_decide_eq_true h2.1, fun i hi => ?_⟩
  have h3 := List.all_eq_true.1 h2.2 i hi
  rw [Bool.and_eq_true, Bool.and_eq_true] at h3
  exact ⟨of_decide_eq_true h3.1.1, of_decide_eq_true h3.1.2, of_decide_eq_true h3.2⟩
theorem names_all : allL.map (·.name) = [⟨#[95, 99, 97, 116]⟩, ⟨#[95, 115, 97, 109, 101]⟩, ⟨#[95, 108, 101, 115, 115]⟩, ⟨#[95, 97, 100, 100]⟩, ⟨#[95, 109, 97, 112]⟩, ⟨#[95, 102, 105, 110, 100]⟩, ⟨#[95, 103, 101, 116]⟩, ⟨#[95, 112, 117, 116]⟩, ⟨#[95, 100, 114, 111, 112]⟩, ⟨#[95, 114, 117, 110, 101]⟩] := by kernel_rfl
theorem params_all : allL.map (·.params) = [4, 4, 4, 4, 0, 2, 2, 3, 2, 3] := by kernel_rfl
theorem results_all : allL.map (·.results) = [2, 1, 1, 3, 1, 1, 1, 0, 0, 2] := by kernel_rfl
theorem arr_cell {α : Type} {w : World} {b : Nat} {t : TypeId} (f : α → Value) (l : List α) (hb : w.heap[b]? = some (.cells (l.map f).toArray t (0, 0))) (j : Nat) (hj : j < l.length) : w.cell? ⟨b, j, none⟩ = some (f l[j]) := by simp [World.cell?, hb, hj]
set_option maxHeartbeats 4000000 in
theorem rtGood_any (a0 : Int) (in0 : InI a0) {w : World} :
    Calls Try.prog 3 #[.int .i64 a0] w fun e w' => e = .returned (.bool true) ∧ Below w.heap.size w w' := by
  go_enter Try.func3, Try.ntmps3
  go_wp2_with fail
  refine (all_any _).mono ?_
  rintro e w1 ⟨g, rfl, hA, hb1⟩
  rw [all_lit] at hA
  have HA := Lib.hid hA
  have HB1 := Lib.hid hb1
  clear hA hb1
  go_wp2_with fail
  have hT := new_three w1 (.cells #[.string ⟨#[95, 99, 97, 116]⟩, .string ⟨#[95, 115, 97, 109, 101]⟩, .string ⟨#[95, 108, 101, 115, 115]⟩, .string ⟨#[95, 97, 100, 100]⟩, .string ⟨#[95, 109, 97, 112]⟩, .string ⟨#[95, 102, 105, 110, 100]⟩, .string ⟨#[95, 103, 101, 116]⟩, .string ⟨#[95, 112, 117, 116]⟩, .string ⟨#[95, 100, 114, 111, 112]⟩, .string ⟨#[95, 114, 117, 110, 101]⟩] 9) (.cells #[.int .i64 4, .int .i64 4, .int .i64 4, .int .i64 4, .int .i64 0, .int .i64 2, .int .i64 2, .int .i64 3, .int .i64 2, .int .i64 3] 3) (.cells #[.int .i64 2, .int .i64 1, .int .i64 1, .int .i64 3, .int .i64 1, .int .i64 1, .int .i64 1, .int .i64 0, .int .i64 0, .int .i64 2] 3)
  have bT : Below w1.heap.size w1 (((w1.alloc (.cells #[.string ⟨#[95, 99, 97, 116]⟩, .string ⟨#[95, 115, 97, 109, 101]⟩, .string ⟨#[95, 108, 101, 115, 115]⟩, .string ⟨#[95, 97, 100, 100]⟩, .string ⟨#[95, 109, 97, 112]⟩, .string ⟨#[95, 102, 105, 110, 100]⟩, .string ⟨#[95, 103, 101, 116]⟩, .string ⟨#[95, 112, 117, 116]⟩, .string ⟨#[95, 100, 114, 111, 112]⟩, .string ⟨#[95, 114, 117, 110, 101]⟩] 9)).alloc (.cells #[.int .i64 4, .int .i64 4, .int .i64 4, .int .i64 4, .int .i64 0, .int .i64 2, .int .i64 2, .int .i64 3, .int .i64 2, .int .i64 3] 3)).alloc (.cells #[.int .i64 2, .int .i64 1, .int .i64 1, .int .i64 3, .int .i64 1, .int .i64 1, .int .i64 1, .int .i64 0, .int .i64 0, .int .i64 2] 3)) := (below_two w1 _ _).alloc (by simp; omega) _
  generalize (((w1.alloc (.cells #[.string ⟨#[95, 99, 97, 116]⟩, .string ⟨#[95, 115, 97, 109, 101]⟩, .string ⟨#[95, 108, 101, 115, 115]⟩, .string ⟨#[95, 97, 100, 100]⟩, .string ⟨#[95, 109, 97, 112]⟩, .string ⟨#[95, 102, 105, 110, 100]⟩, .string ⟨#[95, 103, 101, 116]⟩, .string ⟨#[95, 112, 117, 116]⟩, .string ⟨#[95, 100, 114, 111, 112]⟩, .string ⟨#[95, 114, 117, 110, 101]⟩] 9)).alloc (.cells #[.int .i64 4, .int .i64 4, .int .i64 4, .int .i64 4, .int .i64 0, .int .i64 2, .int .i64 2, .int .i64 3, .int .i64 2, .int .i64 3] 3)).alloc (.cells #[.int .i64 2, .int .i64 1, .int .i64 1, .int .i64 3, .int .i64 1, .int .i64 1, .int .i64 1, .int .i64 0, .int .i64 0, .int .i64 2] 3)) = W at hT bT ⊢
  obtain ⟨hT1, hT2, hT3⟩ := hT
  have hN : ∀ j (h : j < allL.length), W.cell? ⟨w1.heap.size, j, none⟩ = some (.string allL[j].name) := fun j h => arr_cell (fun c : PCode => Value.string c.name) allL (by rw [hT1]; exact congrArg (fun l : List ByteArray => some (Obj.cells (l.map Value.string).toArray 9 (0, 0))) names_all.symm) j h
  have hP : ∀ j (h : j < allL.length), W.cell? ⟨w1.heap.size + 1, j, none⟩ = some (.int .i64 allL[j].params) := fun j h => arr_cell (fun c : PCode => Value.int .i64 c.params) allL (by rw [hT2]; exact congrArg (fun l : List Int => some (Obj.cells (l.map (Value.int .i64)).toArray 3 (0, 0))) params_all.symm) j h
  have hR : ∀ j (h : j < allL.length), W.cell? ⟨w1.heap.size + 1 + 1, j, none⟩ = some (.int .i64 allL[j].results) := fun j h => arr_cell (fun c : PCode => Value.int .i64 c.results) allL (by rw [hT3]; exact congrArg (fun l : List Int => some (Obj.cells (l.map (Value.int .i64)).toArray 3 (0, 0))) results_all.symm) j h
  have hWs : w1.heap.size + 1 + 1 < W.heap.size := (Array.getElem?_eq_some_iff.1 hT3).1
  have HN := Lib.hid hN
  have HP := Lib.hid hP
  have HR := Lib.hid hR
  clear hN hP hR hT1 hT2 hT3
  have hA := Good.keep (Keep.of_below' bT (fun x hx _ => hx)) (fun _ _ _ => trivial) HA.out
  have HBT := Lib.hid bT
  refine (driven_any (all := allL) (l := []) (d := []) (r := 1) (by decide) (by decide) (by decide) hA (rSlice_nil _ _ _ _) (rSlice_nil _ _ _ _) (by decide) (by decide)).mono ?_
  rintro e w2 ⟨v0, rfl, hp, hb2⟩
  obtain ⟨p0, p1, hv, hp0, hp1⟩ := id hp
  obtain ⟨rfl, rfl⟩ : v0 = p0 ∧ (Value.slice none 0 0) = p1 := by simpa using hv
  obtain ⟨a0', c0', rfl⟩ := rSlice_shape hp0
  have bW : Below w1.heap.size w1 w2 := HBT.out.trans (hb2.mono HBT.out.size)
  have HA2 := Lib.hid (Good.keep (S' := fun _ => True) (Keep.of_below' bW (fun x hx _ => hx)) (fun _ _ _ => trivial) HA.out)
  have HB2 := Lib.hid hb2
  have HP0 := Lib.hid hp0
  have HBW := Lib.hid bW
  have hsz := hb2.size
  clear hp hv hp0 hp1 hb2 bW hA bT
  go_wp2_with fail
  go_loopw [8] (fun i wr => ∃ k : Nat, k ≤ 10 ∧ i = .int .i64 k ∧ Below (w2.heap.size + 1) (w2.alloc (.cells #[.slice a0' (drivenF allL ⟨#[95, 109, 97, 112]⟩ [] 1 []).funcs.length c0', .slice none 0 0] 27)) wr) (fun i _ => 10 - (intOf i).toNat)
  case atStart => exact ⟨0, by omega, rfl, Below.refl _ _⟩
  case round =>
    obtain ⟨k, hk, rfl, hb⟩ := hrel
    have bB : Below w2.heap.size w2 wr := ((Below.refl w2.heap.size w2).alloc (Nat.le_refl _) _).trans (hb.mono (Nat.le_succ _))
    have bW : Below W.heap.size W wr := HB2.out.trans (bB.mono hsz)
    have hbx := new_one w2 (.cells #[.slice a0' (drivenF allL ⟨#[95, 109, 97, 112]⟩ [] 1 []).funcs.length c0', .slice none 0 0] 27)
    have hb0 : wr.cell? ⟨w2.heap.size, 0, none⟩ = some (.slice a0' (drivenF allL ⟨#[95, 109, 97, 112]⟩ [] 1 []).funcs.length c0') := (hb.cell (p := ⟨w2.heap.size, 0, none⟩) (Nat.lt_succ_self _)).trans (by rw [World.cell?_alloc_new]; rfl)
    have hb1 : wr.cell? ⟨w2.heap.size, 1, none⟩ = some (.slice none 0 0) := (hb.cell (p := ⟨w2.heap.size, 1, none⟩) (Nat.lt_succ_self _)).trans (by rw [World.cell?_alloc_new]; rfl)
    have HB := Lib.hid hb
    have HBB := Lib.hid bB
    have HBW2 := Lib.hid bW
    clear hb bB bW hbx
    by_cases hlt : k < 10
    · have hk0 : (0 : Int) ≤ k := by omega
      have hk1 : (k : Int) < 10 := by omega
      have hlt' : k < allL.length := hlt
      have hA := Good.keep (S' := fun _ => True) (Keep.of_below' HBB.out (fun x hx _ => hx)) (fun _ _ _ => trivial) HA2.out
      obtain ⟨aa, ca, hva, -, -, hat⟩ := rCodes_val hA
      obtain ⟨bg, og, u5, haa, -, hbg, y0, y1, y2, y3, y4, y5, hfit, hbs⟩ := hat k hlt'
      obtain ⟨rfl, rfl⟩ : bg = g ∧ og = 0 := by
        have e : some (⟨g, 0, none⟩ : Addr) = aa := by injection hva
        rw [haa] at e
        injection e with e
        injection e with e1 e2 e3
        exact ⟨e1.symm, e2.symm⟩
      obtain ⟨a5, c5, rfl⟩ := rSlice_shape hbs
      have n0 := (HBW2.out.cell (p := ⟨w1.heap.size, k, none⟩) (by show w1.heap.size < _; omega)).trans (HN.out k hlt')
      have n1 := (HBW2.out.cell (p := ⟨w1.heap.size + 1, k, none⟩) (by show w1.heap.size + 1 < _; omega)).trans (HP.out k hlt')
      have n2 := (HBW2.out.cell (p := ⟨w1.heap.size + 1 + 1, k, none⟩) (by show w1.heap.size + 1 + 1 < _; omega)).trans (HR.out k hlt')
      have hcf : codeFaultF goodFs allL[k] = 0 := by
        have := List.all_eq_true.1 good_all _ (List.getElem_mem hlt')
        exact eq_of_beq this
      have hfc := fit_all _ (List.getElem_mem hlt')
      have hcode : rCode (fun _ => True) wr [.string allL[k].name, .int .i64 allL[k].params, .int .i64 allL[k].results, .int .i64 allL[k].vars, .int .i64 allL[k].slots, .slice a5 allL[k].blocks.length c5] allL[k] := ⟨_, rfl, hfit, hbs⟩
      clear hat hva haa hbs hA
      generalize allL[k] = cd at *
      simp only [Nat.zero_add] at y0 y1 y2 y3 y4 y5
      have HC := Lib.hid hcode
      have HCF := Lib.hid hcf
      have HFC := Lib.hid hfc
      clear hcode hcf hfc hfit
      have hS := And.intro hb0 (And.intro hb1 (And.intro y0 (And.intro y1 (And.intro y2 (And.intro y3 (And.intro y4 (And.intro y5 (And.intro n0 (And.intro n1 n2)))))))))
      have hP0 := Good.keep (S' := fun _ => True) (Keep.of_below' (HBB.out.trans (Drawn.below (Drawn.drew wr) _)) (fun x hx _ => hx)) (fun _ _ _ => trivial) HP0.out
      have hCd := Good.keep (S' := fun _ => True) (Keep.of_below' (Drawn.below (Drawn.drew wr) wr.heap.size) (fun x hx _ => hx)) (fun _ _ _ => trivial) HC.out
      have HPd := Lib.hid hP0
      have HCd := Lib.hid hCd
      clear hP0 hCd
      go_wp2_with fail
      have hq1 : w2.heap.size < wr.heap.size := by have := HB.out.size; simp at this; omega
      have hq2 : w1.heap.size < wr.heap.size := by omega
      have hq3 : w1.heap.size + 1 < wr.heap.size := by omega
      have hq4 : w1.heap.size + 1 + 1 < wr.heap.size := by omega
      go_region_held3 (fun w' => w'.cell? ⟨w2.heap.size, 0, none⟩ = some (.slice a0' (drivenF allL ⟨#[95, 109, 97, 112]⟩ [] 1 []).funcs.length c0') ∧ w'.cell? ⟨w2.heap.size, 1, none⟩ = some (.slice none 0 0) ∧ w'.cell? ⟨bg, k * 6, none⟩ = some (.string cd.name) ∧ w'.cell? ⟨bg, k * 6 + 1, none⟩ = some (.int .i64 cd.params) ∧ w'.cell? ⟨bg, k * 6 + 2, none⟩ = some (.int .i64 cd.results) ∧ w'.cell? ⟨bg, k * 6 + 3, none⟩ = some (.int .i64 cd.vars) ∧ w'.cell? ⟨bg, k * 6 + 4, none⟩ = some (.int .i64 cd.slots) ∧ w'.cell? ⟨bg, k * 6 + 5, none⟩ = some (.slice a5 cd.blocks.length c5) ∧ w'.cell? ⟨w1.heap.size, k, none⟩ = some (.string cd.name) ∧ w'.cell? ⟨w1.heap.size + 1, k, none⟩ = some (.int .i64 cd.params) ∧ w'.cell? ⟨w1.heap.size + 1 + 1, k, none⟩ = some (.int .i64 cd.results))
        (first | exact hS | exact ⟨(b3.cell (p := ⟨w2.heap.size, 0, none⟩) hq1).trans hS.1, (b3.cell (p := ⟨w2.heap.size, 1, none⟩) hq1).trans hS.2.1, (b3.cell (p := ⟨bg, k * 6, none⟩) hbg).trans hS.2.2.1, (b3.cell (p := ⟨bg, k * 6 + 1, none⟩) hbg).trans hS.2.2.2.1, (b3.cell (p := ⟨bg, k * 6 + 2, none⟩) hbg).trans hS.2.2.2.2.1, (b3.cell (p := ⟨bg, k * 6 + 3, none⟩) hbg).trans hS.2.2.2.2.2.1, (b3.cell (p := ⟨bg, k * 6 + 4, none⟩) hbg).trans hS.2.2.2.2.2.2.1, (b3.cell (p := ⟨bg, k * 6 + 5, none⟩) hbg).trans hS.2.2.2.2.2.2.2.1, (b3.cell (p := ⟨w1.heap.size, k, none⟩) hq2).trans hS.2.2.2.2.2.2.2.2.1, (b3.cell (p := ⟨w1.heap.size + 1, k, none⟩) hq3).trans hS.2.2.2.2.2.2.2.2.2.1, (b3.cell (p := ⟨w1.heap.size + 1 + 1, k, none⟩) hq4).trans hS.2.2.2.2.2.2.2.2.2.2⟩)
        (first | (go_at_call 9; refine (codeFault_any goodFs _ _ cd _ _ HPd.out HCd.out HFC.out).mono ?_; rintro e w3 ⟨rfl, b3⟩; rw [HCF.out]))
      go_wp2_with fail
      refine ⟨⟨k + 1, by omega, by go_num, ?_⟩, by simp [intOf]; omega⟩
      exact HB.out.trans ((Drawn.below (Drawn.drew wr) _).trans (b3.mono (by show w2.heap.size + 1 ≤ wr.heap.size; omega)))
    · have hke : k = 10 := by omega
      subst hke
      go_wp2_with fail
      go_ret
      have h1 := HBB.out
      have h2 := HBW.out
      have h3 := HB1.out
      exact ⟨rfl, h3.trans ((h2.trans (h1.mono h2.size)).mono h3.size)⟩
end Go.Proofs.Ytaomlfbcfmmhlaa

/-
  ssa.copied, walked: the code again, in memory of the call's own.
-/
import Derived.Test.YthgfdcoicihpdaaDoorClone
import Derived.Test.YthgfdcoicihpdaaDoorMemCodes
import Derived.Test.YthgfdcoicihpdaaDoorBare
namespace Go.Proofs.YthgfdcoicihpdaaDoor
open Go.RowKit Go.Pst
set_option linter.unusedVariables false
set_option linter.unusedSimpArgs false

theorem infoIns : (Tryd.prog.info? 41).map (fun i => (i.zero, i.size, i.bytes)) = some (some (.agg #[.int .i64 0, .slice none 0 0, .slice none 0 0, .int .i64 0, .string ⟨#[]⟩, .slice none 0 0]), 6, 104) := by kernel_rfl
theorem zeroCode (w : World) : (zeroValue 28).run Tryd.prog w = .ok (.agg #[.string ⟨#[]⟩, .int .i64 0, .int .i64 0, .int .i64 0, .int .i64 0, .slice none 0 0]) w := by kernel_rfl

theorem CodeM.start (lab : Nat → Nat) {w : World} {lo : Nat} (h : lo ≤ w.heap.size) : CodeM lab w lo (.slice none 0 0) (fun _ => .slice none 0 0) [] :=
  ⟨World.ownsRow_nil _ _ _ _, fun k hk => by simp [Value.ownBlock] at hk, fun i hi => absurd hi (by simp), h⟩
set_option maxRecDepth 100000 in
set_option maxHeartbeats 8000000 in
theorem copied_any (c : PCode) (cs : List Value) (w : World) (hc : rCode (fun _ => True) w cs c) (hf : FitCode c) (hpos : ∀ b ∈ c.blocks, 0 < b.length) :
    Calls Tryd.prog 10 #[.agg cs.toArray] w fun e w' => ∃ lab vO vs, e = .returned (.agg #[.string c.name, .int .i64 c.params, .int .i64 c.results, .int .i64 c.vars, .int .i64 c.slots, vO]) ∧ CodeM lab w' w.heap.size vO vs c.blocks ∧
      (∀ k, w'.heap.size ≤ k → lab k = 0) ∧ (∀ k, k < w.heap.size → lab k = lowL) ∧ Below w.heap.size w w' := by
  obtain ⟨i0, hi0, hz0, hz1, hz2⟩ := info_parts Tryd.info_blk
  obtain ⟨ix, xi0, xz0, xz1, xz2⟩ := info_parts infoIns
  obtain ⟨v5, rfl, hI, hbs⟩ := hc
  obtain ⟨a, cap, rfl, hcap, hmax, hat⟩ := rSlice_one hbs
  unfold maxLen at hmax
  have hfit := hf.1
  unfold reachBytes at hfit
  have hnb : c.blocks.length ≤ 9223372036854775807 := by omega
  have Hat := Lib.hid hat
  have HI := Lib.hid hI
  have HF := Lib.hid hf
  have Hpos := Lib.hid hpos
  clear hat hI hbs hcap hmax hf hpos
  go_enter Tryd.func10, Tryd.ntmps10
  go_wp2_with fail
  generalize hW0 : (w.alloc (.cells #[.string c.name, .int .i64 c.params, .int .i64 c.results, .int .i64 c.vars, .int .i64 c.slots, .slice a c.blocks.length cap] 28)).alloc (.cells #[.string ⟨#[]⟩, .int .i64 0, .int .i64 0, .int .i64 0, .int .i64 0, .slice none 0 0] 28) = W0
  have hs0 : W0.heap.size = w.heap.size + 2 := by rw [← hW0]; simp
  have hb0 : Below w.heap.size w W0 := by rw [← hW0]; exact below_box2 _ _ _
  have hz : W0.heap[w.heap.size + 1]? = some (.cells #[.string ⟨#[]⟩, .int .i64 0, .int .i64 0, .int .i64 0, .int .i64 0, .slice none 0 0] 28) := by
    rw [← hW0]
    have h := heap_alloc_new (w.alloc (.cells #[.string c.name, .int .i64 c.params, .int .i64 c.results, .int .i64 c.vars, .int .i64 c.slots, .slice a c.blocks.length cap] 28)) (.cells #[.string ⟨#[]⟩, .int .i64 0, .int .i64 0, .int .i64 0, .int .i64 0, .slice none 0 0] 28)
    rw [World.size_alloc] at h
    exact h
  clear hW0
  have hW1 : ∃ W1, W1 = W0.alloc (.cells #[.string c.name, .int .i64 c.params, .int .i64 c.results, .int .i64 c.vars, .int .i64 c.slots, .slice none 0 0] 28) := ⟨_, rfl⟩
  obtain ⟨W1, hW1⟩ := hW1
  have hs1 : W1.heap.size = w.heap.size + 3 := by rw [hW1]; simp; omega
  have hb1 : Below w.heap.size w W1 := by rw [hW1]; exact hb0.alloc (by omega) _
  have hz1 : W1.heap[w.heap.size + 1]? = some (.cells #[.string ⟨#[]⟩, .int .i64 0, .int .i64 0, .int .i64 0, .int .i64 0, .slice none 0 0] 28) := by rw [hW1, Below.heap_alloc _ _ _ (by omega)]; exact hz
  have ho1 : W1.heap[w.heap.size + 2]? = some (.cells #[.string c.name, .int .i64 c.params, .int .i64 c.results, .int .i64 c.vars, .int .i64 c.slots, .slice none 0 0] 28) := by
    have h := heap_alloc_new W0 (.cells #[.string c.name, .int .i64 c.params, .int .i64 c.results, .int .i64 c.vars, .int .i64 c.slots, .slice none 0 0] 28)
    rw [hs0] at h
    rw [hW1]
    exact h
  have hrw : W0.heap.size = w.heap.size + 2 := hs0
  try rw [hrw]
  try rw [← hW1]
  obtain ⟨PO, hPO⟩ : ∃ PO, PO = w.heap.size + 1 + 1 := ⟨_, rfl⟩
  obtain ⟨PR, hPR⟩ : ∃ PR, PR = w.heap.size + 1 := ⟨_, rfl⟩
  rw [← hPO, ← hPR]
  rw [show w.heap.size + 2 = PO from hPO.symm] at ho1
  rw [← hPR] at hz1
  have HPO := Lib.hid hPO
  have HPR := Lib.hid hPR
  have hs1' : PO + 1 ≤ W1.heap.size := by omega
  have hlab1 : ∀ k, W1.heap.size ≤ k → (fun k => if k = PO ∨ k = PR then boxL else if k < w.heap.size then lowL else 0) k = 0 := fun k hk => (if_neg (by omega)).trans (if_neg (by omega))
  clear hW1 hz hb0 hs0 hrw hPO hPR hs1 W0
  go_loopw [14] (fun i wr => ∃ (n : Nat) (lab : Nat → Nat) (vO : Value) (vs : Nat → Value), n ≤ c.blocks.length ∧ i = .int .i64 n ∧ CodeM lab wr (PO + 1) vO vs (c.blocks.take n) ∧ (lab PO = boxL ∧ lab PR = boxL ∧ (∀ k, wr.heap.size ≤ k → lab k = 0) ∧ ∀ k, k < w.heap.size → lab k = lowL) ∧
      wr.heap[PO]? = some (.cells #[.string c.name, .int .i64 c.params, .int .i64 c.results, .int .i64 c.vars, .int .i64 c.slots, vO] 28) ∧ wr.heap[PR]? = some (.cells #[.string ⟨#[]⟩, .int .i64 0, .int .i64 0, .int .i64 0, .int .i64 0, .slice none 0 0] 28) ∧ Below w.heap.size w wr) (fun i _ => c.blocks.length - (intOf i).toNat)
  case atStart => exact ⟨0, fun k => if k = PO ∨ k = PR then boxL else if k < w.heap.size then lowL else 0, .slice none 0 0, fun _ => .slice none 0 0, Nat.zero_le _, rfl, CodeM.start _ hs1', ⟨if_pos (Or.inl rfl), if_pos (Or.inr rfl), hlab1, fun k hk => (if_neg (by have := HPO.out; have := HPR.out; omega)).trans (if_pos hk)⟩, ho1, hz1, hb1⟩
  case round =>
    clear hlab1 ho1 hz1 hb1 hs1'
    obtain ⟨n, lab, vO, vs, hn, rfl, hM, ⟨hl1, hl2, hl3, hl4⟩, ho, hz, hbw⟩ := hrel
    obtain ⟨aO, cO, rfl⟩ := ownsRow_slice hM.own
    have htl : (c.blocks.take n).length = n := by rw [List.length_take]; omega
    rw [htl] at hM ho
    by_cases hnl : n < c.blocks.length
    · have hnl1 : (n : Int) < (c.blocks.length : Int) := by omega
      obtain ⟨b, off, u, rfl, -, hb, hcell, hu⟩ := Hat.out n hnl
      obtain ⟨a2, cap2, rfl, hcap2, hmax2, hat2⟩ := rBlock_val hu
      unfold maxLen at hmax2
      have hbl : c.blocks[n].length * 104 ≤ 140737488351232 := by have := (HF.out.2 _ (List.getElem_mem hnl)).1; unfold reachBytes at this; omega
      have hfi : ∀ x ∈ c.blocks[n], FitInstr x := (HF.out.2 _ (List.getElem_mem hnl)).2
      have hpb := Hpos.out _ (List.getElem_mem hnl)
      have htk : c.blocks.take (n + 1) = c.blocks.take n ++ [c.blocks[n]] := List.take_succ_eq_append_getElem hnl
      have hcx : wr.cell? ⟨b, off + n, none⟩ = some (.slice a2 c.blocks[n].length cap2) := (hbw.cell (p := ⟨b, off + n, none⟩) hb).trans hcell
      have Htk := Lib.hid htk
      have Hat2 := Lib.hid hat2
      have Hfi := Lib.hid hfi
      have Ho := Lib.hid ho
      have Hz := Lib.hid hz
      have HM := Lib.hid hM
      have Hl3 := Lib.hid hl3
      clear hcell hu hat2 hfi htk ho hz hM hl3
      generalize c.blocks[n] = bl at *
      go_wp2_with fail
      go_loopw [6, 20] (fun l k wq => ∃ (q : Nat) (lab : Nat → Nat) (vl : Value) (xs : List Value), q ≤ bl.length ∧ l = vl ∧ k = .int .i64 q ∧ RowP lab wq (PO + 1) n vl (bl.take q) xs ∧ CodeM lab wq (PO + 1) (.slice aO n cO) vs (c.blocks.take n) ∧ (lab PO = boxL ∧ lab PR = boxL ∧ (∀ k, wq.heap.size ≤ k → lab k = 0) ∧ ∀ k, k < w.heap.size → lab k = lowL) ∧
          wq.heap[PO]? = some (.cells #[.string c.name, .int .i64 c.params, .int .i64 c.results, .int .i64 c.vars, .int .i64 c.slots, .slice aO n cO] 28) ∧ wq.heap[PR]? = some (.cells #[.string ⟨#[]⟩, .int .i64 0, .int .i64 0, .int .i64 0, .int .i64 0, .slice none 0 0] 28) ∧ Below w.heap.size w wq) (fun l k _ => bl.length - (intOf k).toNat)
      case atStart => exact ⟨0, lab, .slice none 0 0, [], Nat.zero_le _, rfl, rfl, RowP.start _ _ _ _, HM.out, ⟨hl1, hl2, Hl3.out, hl4⟩, Ho.out, Hz.out, hbw⟩
      case round =>
        clear hl1 hl2 hl4 hbw Hz Ho
        clear Hl3 HM
        clear lab
        obtain ⟨q, lab, vl, xs, hq, rfl, rfl, hP, hM, ⟨hl1, hl2, hl3, hl4⟩, ho, hz, hbw⟩ := hrel
        obtain ⟨al, cl, rfl, hcl1, hcl2⟩ := row_slice hP.own
        have hql0 : (bl.take q).length = q := by rw [List.length_take]; omega
        rw [hql0] at hP hcl1
        by_cases hql : q < bl.length
        · have hql1 : (q : Int) < (bl.length : Int) := by omega
          obtain ⟨b2, off2, v1, v2, v5, rfl, -, hb2, k0, k1, k2, k3, k4, k5, hIx, r1, r2, r5⟩ := Hat2.out q hql
          have up : ∀ {o : Nat} {v : Value}, w.cell? ⟨b2, o, none⟩ = some v → wr.cell? ⟨b2, o, none⟩ = some v := fun {o v} e => (hbw.cell (p := ⟨b2, o, none⟩) hb2).trans e
          have ck0 := up k0
          have ck1 := up k1
          have ck2 := up k2
          have ck3 := up k3
          have ck4 := up k4
          have ck5 := up k5
          obtain ⟨e1, f1, rfl, -⟩ := rInts_val r1
          obtain ⟨e2, f2, rfl, -⟩ := rInts_val r2
          obtain ⟨e5, f5, rfl, -⟩ := rInts_val r5
          have hto : ∀ y ∈ bl[q].to, InI y := by obtain ⟨_, _, _, _, _, h⟩ := rInts_open r5; exact h
          have hkeep := fun (w' : World) (h : Below w.heap.size w w') => Keep.of_below' (S := fun _ => True) h (fun k hk _ => hk)
          have hcl := fun (w' : World) (h : Below w.heap.size w w') => clone_any bl[q] _ _ _ w' (Good.kept (hkeep w' h) r1) (Good.kept (hkeep w' h) r2) (Good.kept (hkeep w' h) r5) (Hfi.out _ (List.getElem_mem hql))
          have HC := Lib.hid hcl
          have Hto := Lib.hid hto
          have HIx := Lib.hid hIx
          have HP := Lib.hid hP
          have HM := Lib.hid hM
          have Ho := Lib.hid ho
          have Hz := Lib.hid hz
          have Hl3 := Lib.hid hl3
          have Hbw := Lib.hid hbw
          have htk2 : bl.take (q + 1) = bl.take q ++ [bl[q]] := List.take_succ_eq_append_getElem hql
          have Htk2 := Lib.hid htk2
          clear up k0 k1 k2 k3 k4 k5 hkeep hcl hto hIx hP hM ho hz hl3 hbw r1 r2 r5 htk2
          generalize bl[q] = x at *
          go_wp2_with fail
          refine (HC.out _ (Hbw.out.alloc Hbw.out.size _)).mono ?_
          rintro e w3 ⟨u1, u2, u5x, m, rfl, hm1, hm2, q1, q2, o5, hb3⟩
          have hB3 : Below wr.heap.size wr w3 := ((Below.refl _ _).alloc (Nat.le_refl _) _).trans (hb3.mono (by simp))
          rw [World.size_alloc] at hm1
          have hi3 := instrV_new (i := n) (fun k hk => Hl3.out k (by rw [World.size_alloc] at hk; omega)) q1 q2 o5 HIx.out Hto.out
          have hlow : ∀ k, k < wr.heap.size → relab lab u5x (2 * n + 3) k = lab k := fun k hk => relab_low o5 (by omega)
          have hP3 : RowP (relab lab u5x (2 * n + 3)) w3 (PO + 1) n (.slice al q cl) (bl.take q) xs := HP.out.keep hB3.size (fun k hk _ => hB3.block k hk) hlow
          have hM3 : CodeM (relab lab u5x (2 * n + 3)) w3 (PO + 1) (.slice aO n cO) vs (c.blocks.take n) := HM.out.keep hB3.size (fun k hk _ => hB3.block k hk) (fun k hk _ => hlow k hk)
          have hlO := (Array.getElem?_eq_some_iff.1 Ho.out).1
          have hlR := (Array.getElem?_eq_some_iff.1 Hz.out).1
          have hlb : relab lab u5x (2 * n + 3) PO = boxL ∧ relab lab u5x (2 * n + 3) PR = boxL ∧ (∀ k, w3.heap.size ≤ k → relab lab u5x (2 * n + 3) k = 0) ∧ ∀ k, k < w.heap.size → relab lab u5x (2 * n + 3) k = lowL := ⟨(hlow _ hlO).trans hl1, (hlow _ hlR).trans hl2, relab_new o5 (fun _ _ _ => trivial) (fun k hk => Hl3.out k (by have := hB3.size; omega)), fun k hk => (hlow k (by have := Hbw.out.size; omega)).trans (hl4 k hk)⟩
          have ho3 := (hB3.block PO hlO).trans Ho.out
          have hz3 := (hB3.block PR hlR).trans Hz.out
          have hb4 : Below w.heap.size w w3 := Hbw.out.trans (hB3.mono Hbw.out.size)
          have hsz3 : PO + 1 ≤ w3.heap.size := by have := hB3.size; omega
          obtain ⟨g1, h1, rfl⟩ := rSlice_shape q1
          obtain ⟨g2, h2, rfl⟩ := rSlice_shape q2
          obtain ⟨g5, h5, rfl⟩ := ownsRow_slice o5
          have HP3 := Lib.hid hP3
          have HM3 := Lib.hid hM3
          have Hi3 := Lib.hid hi3
          have Hlb := Lib.hid hlb
          have Ho3 := Lib.hid ho3
          have Hz3 := Lib.hid hz3
          have Hb4 := Lib.hid hb4
          have hown3 : w3.ownsRow (PO + 1) 41 6 (.slice al q cl) q xs := by have := HP3.out.own; rw [hql0] at this; exact this
          have hqb : (q + 1) * 104 ≤ 140737488351232 := by omega
          clear hB3 hi3 hlow hP3 hM3 hlO hlR hlb ho3 hz3 hb4 q1 q2 o5 hb3 HC HP HM Ho Hz Hl3 Hbw hm2 ck0 ck1 ck2 ck3 ck4 ck5
          generalize relab lab (.slice g5 x.to.length h5) (2 * n + 3) = lab3 at *
          go_wp2_with (at_builtin; refine wpList_append_own_at _ rfl _ _ 38 rfl (PO + 1) 41 ix _ 6 104 Tryd.underlying38 xi0 xz0 xz1 xz2 rfl (by decide) (.slice al q cl) q xs rfl (hown3.alloc _) ⟨w3.heap.size, 0, none⟩ 1 1 [.int .i64 x.op, .slice g1 x.ds.length h1, .slice g2 x.ars.length h2, .int .i64 x.n, .string x.s, .slice g5 x.to.length h5] rfl rfl (World.news_of_block (heap_alloc_new w3 _)) (by simp [Value.oneCell']) (by unfold maxLen; omega) (by omega) (by simp; omega) ?_; intro v6 w6 hown6 hg6 hnil6 hat6; clear hnil6; have HApp := Lib.hid (HP3.out.app Hi3.out (by rw [hql0]; exact hown6) hg6 (by rcases hat6 with h | h; exact Or.inl h; exact Or.inr ⟨_, h, by simp⟩)); have HG6 := Lib.hid hg6; have HA6 := Lib.hid hat6; obtain ⟨a6, c6, rfl, -, -⟩ := row_slice hown6; have HO6 := Lib.hid hown6; clear hown6 hg6 hat6)
          go_roundw
          case rel =>
            have hat' : (Value.slice a6 (q + 1) c6).ownBlock = (Value.slice al q cl).ownBlock ∨ ∃ g, (Value.slice a6 (q + 1) c6).ownBlock = some g ∧ w3.heap.size ≤ g := by
              rcases HA6.out with h | h
              · exact Or.inl h
              · exact Or.inr ⟨_, h, by simp⟩
            have hbl6 : Below (PO + 1) w3 w6 := append_below hown3 HG6.out hsz3
            have hsz6 := hbl6.size
            have oth : ∀ k, k < w3.heap.size → lab3 k ≠ 2 * n + 2 → w6.heap[k]? = w3.heap[k]? := fun k hk hne => grown_other HG6.out hk (fun e => hne (HP3.out.lab_ k e))
            have hl' : ∀ k, k < w3.heap.size → relab lab3 (.slice a6 (q + 1) c6) (2 * n + 2) k = lab3 k := fun k hk => relab_old HP3.out.lab_ hat' hk
            have hlO := (Array.getElem?_eq_some_iff.1 Ho3.out).1
            have hlR := (Array.getElem?_eq_some_iff.1 Hz3.out).1
            have hnb2 : boxL ≠ 2 * n + 2 := by unfold boxL; omega
            refine ⟨q + 1, _, _, _, by omega, rfl, by go_num, by rw [Htk2.out]; exact HApp.out, HM3.out.keep hsz6 (fun k hk hle => oth k hk (by rw [htl] at hle; omega)) (fun k hk _ => hl' k hk), ⟨(hl' _ hlO).trans Hlb.out.1, (hl' _ hlR).trans Hlb.out.2.1, relab_new HO6.out (fun _ _ _ => trivial) (fun k hk => Hlb.out.2.2.1 k (by omega)), fun k hk => (hl' k (by have := HPO.out; omega)).trans (Hlb.out.2.2.2 k hk)⟩,
              (oth PO hlO (by rw [Hlb.out.1]; exact hnb2)).trans Ho3.out, (oth PR hlR (by rw [Hlb.out.2.1]; exact hnb2)).trans Hz3.out, Hb4.out.trans (hbl6.mono (by have := HPO.out; omega))⟩
          all_goals (simp [intOf]; omega)
        · have hqe : q = bl.length := by omega
          subst hqe
          rw [List.take_length] at hP
          have hR := hP.done hpb
          have hown0 : wr.ownsRow (PO + 1) 38 1 (.slice aO n cO) n ((List.range n).map vs) := by have := hM.own; rw [htl] at this; exact this
          obtain ⟨hO1, hO2⟩ : n ≤ cO ∧ cO ≤ maxLen := by obtain ⟨_, _, h, h1, h2⟩ := row_slice hown0; injection h with _ _ h; omega
          have hlO := (Array.getElem?_eq_some_iff.1 ho).1
          have hlR := (Array.getElem?_eq_some_iff.1 hz).1
          have p5 : wr.cell? ⟨PO, 5, none⟩ = some (.slice aO n cO) := by simp [World.cell?, ho]
          have hsz : PO + 1 ≤ wr.heap.size := hlO
          have oth : ∀ (o : Obj) (w6 : World), (wr.alloc o).grownBy w6 (Value.slice aO n cO).ownBlock → ∀ k, k < wr.heap.size → lab k ≠ 1 → w6.heap[k]? = wr.heap[k]? := fun o w6 hg k hk hne => grown_other hg hk (fun e => hne (hM.lab1 k e))
          have hbO : lab PO ≠ 1 := by rw [hl1]; decide
          have hbR : lab PR ≠ 1 := by rw [hl2]; decide
          have q5 : ∀ (o : Obj) (w6 : World), (wr.alloc o).grownBy w6 (Value.slice aO n cO).ownBlock → w6.cell? ⟨PO, 5, none⟩ = some (.slice aO n cO) ∧ w6.frozen? ⟨PO, 5, none⟩ = false := fun o w6 hg => by
            have h := (oth o w6 hg PO hlO hbO).trans ho
            exact ⟨by simp [World.cell?, h], by simp [World.frozen?, h]⟩
          have Oth := Lib.hid oth
          have Q5 := Lib.hid q5
          have HM := Lib.hid hM
          have HR := Lib.hid hR
          have Ho := Lib.hid ho
          have Hz := Lib.hid hz
          have Hl3 := Lib.hid hl3
          have Hbw := Lib.hid hbw
          clear hP hR hM ho hz hl3 hbw oth q5 Hat2 Hfi
          go_wp2_with (at_builtin; refine wpList_append_own_at _ rfl _ _ 26 rfl (PO + 1) 38 i0 _ 1 24 Tryd.underlying26 hi0 hz0 hz1 hz2 rfl (by decide) (.slice aO n cO) n ((List.range n).map vs) rfl (hown0.alloc _) ⟨wr.heap.size, 0, none⟩ 1 1 [.slice al bl.length cl] rfl rfl (World.news_of_block (heap_alloc_new wr _)) (by simp [Value.oneCell']) (by unfold maxLen; omega) (by omega) (by simp; omega) ?_; intro v6 w6 hown6 hg6 hnil6 hat6; clear hnil6; obtain ⟨q61, q62⟩ := Q5.out _ _ hg6; have HG6 := Lib.hid hg6; have HA6 := Lib.hid hat6; obtain ⟨a6, c6, rfl, -, -⟩ := row_slice hown6; have HO6 := Lib.hid hown6; clear hown6 hg6 hat6)
          go_roundw
          case rel =>
            have hat' : (Value.slice a6 (n + 1) c6).ownBlock = (Value.slice aO n cO).ownBlock ∨ ∃ g, (Value.slice a6 (n + 1) c6).ownBlock = some g ∧ wr.heap.size ≤ g := by
              rcases HA6.out with h | h
              · exact Or.inl h
              · exact Or.inr ⟨_, h, by simp⟩
            have hbl6 : Below (PO + 1) wr w6 := append_below hown0 HG6.out hsz
            have hsz6 := hbl6.size
            have hl' : ∀ k, k < wr.heap.size → relab lab (.slice a6 (n + 1) c6) 1 k = lab k := fun k hk => relab_old HM.out.lab1 hat' hk
            have hA : CodeM (relab lab (.slice a6 (n + 1) c6) 1) w6 (PO + 1) (.slice a6 (n + 1) c6) (upd vs (c.blocks.take n).length (.slice al bl.length cl)) (c.blocks.take n ++ [bl]) :=
              HM.out.app (by rw [htl]; exact HR.out) (by rw [htl]; exact HO6.out) HG6.out hat'
            rw [← Htk.out] at hA
            refine ⟨n + 1, _, _, _, by omega, by go_num, hA.box ((hl' _ hlO).trans hl1) _, ⟨(hl' _ hlO).trans hl1, (hl' _ hlR).trans hl2, fun k hk => relab_new HO6.out (fun _ _ _ => trivial) (fun k hk => Hl3.out k (by omega)) k (by simpa using hk), fun k hk => (hl' k (by have := HPO.out; omega)).trans (hl4 k hk)⟩, ?_, ?_, (Hbw.out.trans (hbl6.mono (by have := HPO.out; omega))).setCell (p := ⟨PO, 5, none⟩) (by have := HPO.out; show w.heap.size ≤ PO; omega) _⟩
            · have h := heap_setCell_same w6 PO 5 _ _ (.slice a6 (n + 1) c6) ((Oth.out _ _ HG6.out PO hlO hbO).trans Ho.out)
              simpa using h
            · rw [Below.heap_setCell _ _ _ _ (show PR ≠ PO by have := HPO.out; have := HPR.out; omega)]
              exact (Oth.out _ _ HG6.out PR hlR hbR).trans Hz.out
          all_goals (simp [intOf]; omega)
    · have hne : n = c.blocks.length := by omega
      subst hne
      rw [List.take_length] at hM
      obtain ⟨g0, g1, g2, g3, g4, g5, gz, gl⟩ := six_cells ho
      obtain ⟨y0, y1, y2, y3, y4, y5, yz, yl⟩ := six_cells hz
      obtain ⟨W, hW, hWb, hWs⟩ := six_set (.string c.name) (.int .i64 c.params) (.int .i64 c.results) (.int .i64 c.vars) (.int .i64 c.slots) (.slice aO c.blocks.length cO) hz
      have hM9 : CodeM lab W w.heap.size (.slice aO c.blocks.length cO) vs c.blocks := by
        have h := hM.keep (w' := W) hWs.size (fun k hk hle => hWs.block k hk (fun e => by have e' : k = PR := e; subst e'; rw [hl2] at hle; have := hM.len; unfold boxL at hle; omega)) (fun _ _ _ => rfl)
        exact ⟨ownsRow_from h.own (by have := HPO.out; omega), h.lab1, h.rows, Nat.le_trans hbw.size hWs.size⟩
      have hl9 : ∀ k, W.heap.size ≤ k → lab k = 0 := fun k hk => hl3 k (Nat.le_trans hWs.size hk)
      have hb9 : Below w.heap.size w W := hbw.trans (hWs.below hbw.size (fun k hk => by have e : k = PR := hk; have := HPR.out; omega))
      have HbW := Lib.hid hWb
      have HW := Lib.hid hW
      have HE := Lib.hid (And.intro hM9 (And.intro hl9 (And.intro hl4 hb9)))
      clear hM ho hz hWb hW hM9 hl9 hb9 hWs hl3 hbw
      go_wp2_with fail
      rw [HW.out]
      obtain ⟨w0, w1, w2, w3, w4, w5, -, -⟩ := six_cells HbW.out
      exact bodyPost_ret (v := .agg #[.string c.name, .int .i64 c.params, .int .i64 c.results, .int .i64 c.vars, .int .i64 c.slots, .slice aO c.blocks.length cO]) (by simp [results, Tryd.results10, go_sem, w0, w1, w2, w3, w4, w5]) rfl ⟨lab, _, vs, rfl, HE.out⟩
end Go.Proofs.YthgfdcoicihpdaaDoor

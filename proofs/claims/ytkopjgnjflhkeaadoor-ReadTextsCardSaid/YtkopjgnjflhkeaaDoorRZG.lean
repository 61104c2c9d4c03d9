/-
  Texts joined: RdCutA.
-/
import Derived.Test.YtkopjgnjflhkeaaDoorRZF

/-
  cut's round at blanks.
-/
namespace Go.Proofs.YtkopjgnjflhkeaaDoor
open Go.RowKit Go.Pst
set_option linter.unusedVariables false
set_option linter.unusedSimpArgs false

set_option maxRecDepth 100000 in
set_option maxHeartbeats 40000000 in
theorem cut_b32 {s : ByteArray} {w : World} {br base : Nat} {Res : Except (Int × Int) (List Tok)} {gk : Nat} {t : Array Value} {wr : World} {i bi : Nat} {acc : List Tok} {vT : Value} (hin : CutIn s w br base)
    (hrel : t.size = 205 ∧ slotOf t 0 = .pointer (some ⟨br, 0, none⟩) ∧ slotOf t 3 = .pointer (some ⟨w.heap.size, 0, none⟩) ∧ slotOf t 4 = .pointer (some ⟨bi, 0, none⟩) ∧ wr.heap[bi]? = some (.cells #[.int .i64 i] 3 (0, 0)) ∧ w.heap.size < bi ∧ wr.heap[w.heap.size]? = some (.cells #[.string s] 9 (0, 0)) ∧ wr.heap[br]? = some (.cells #[vT, .int .i64 0, .int .i64 0, .int .i64 0, .int .i64 0] 49 (0, 0)) ∧ wr.ownsRow (w.heap.size + 1) 52 4 vT acc.length (rowT acc) ∧ vT.ownBlock ≠ some bi ∧ Since (fun k => k = br) w wr ∧ RdLaid wr base br ∧ TabOK wr ∧ ErrOK wr ∧ i ≤ s.size ∧ acc.length ≤ i ∧ s.size - i ≤ gk ∧ Res = cutR gk (s.data.toList.drop i) i acc ∧ ∀ t ∈ acc, TokOK t)
    (hlt : i < s.size) (e1 : s[i]'hlt = 32) : CutTo s w br base Res gk ⟨t, []⟩ wr := by
  obtain ⟨ix, ii0, iz0, iz1, iz2⟩ := info_parts infoT
  obtain ⟨hs, hbr, hlb, hgl⟩ := hin
  intro J K _ hJ hKK
  have hsI : (s.size : Int) ≤ 4000 := by omega
  obtain ⟨wo, hwo⟩ : ∃ wo, wo = wr := ⟨_, rfl⟩
  subst hwo
  obtain ⟨hsize, h0, h3, h4, ki, hbi, ks, kb, hown, hne, hS, hL, hT, hE, his, hai, hk, hR, hok⟩ := hrel
  obtain ⟨aT, cT, rfl, hc1, hc2⟩ := row_slice hown
  have hlti := (Array.getElem?_eq_some_iff.1 ki).1
  have gi : wo.cell? ⟨bi, 0, none⟩ = some (.int .i64 i) := by simp [World.cell?, ki]
  have gs : wo.cell? ⟨w.heap.size, 0, none⟩ = some (.string s) := by simp [World.cell?, ks]
  have giz : ∀ j, wo.frozen? ⟨bi, j, none⟩ = false := fun j => by simp [World.frozen?, ki]
  have Ki := Lib.hid ki
  have Ks := Lib.hid ks
  have Kb := Lib.hid kb
  have Hown := Lib.hid hown
  have Hne := Lib.hid hne
  have HS := Lib.hid hS
  have HL := Lib.hid hL
  have HT := Lib.hid hT
  have HE := Lib.hid hE
  have HR := Lib.hid hR
  have Hok := Lib.hid hok
  clear ki ks kb hown hne hS hL hT hE hR hok
  obtain ⟨k', rfl⟩ : ∃ k', gk = k' + 1 := ⟨gk - 1, by omega⟩
  have hlt1 : (i : Int) < s.size := by omega
  have hd := drop_get s i hlt
  have hx := (s[i]'hlt).toNat_lt
  obtain ⟨c, hc⟩ : ∃ c, c = s[i]'hlt := ⟨_, rfl⟩
  have HR2 := Lib.hid (show Res = match tokR (c :: s.data.toList.drop (i + 1)) i with
    | .error e => .error ((i : Int), e)
    | .ok (none, n) => cutR k' ((c :: s.data.toList.drop (i + 1)).drop n) (i + n) acc
    | .ok (some t, n) => cutR k' ((c :: s.data.toList.drop (i + 1)).drop n) (i + n) (acc ++ [t]) from HR.out.trans (by rw [hd, ← hc]; rfl))
  have Hd := Lib.hid (show s.data.toList.drop i = c :: s.data.toList.drop (i + 1) by rw [hd, ← hc])
  have Hc := Lib.hid hc
  have hci : ((s[i]'hlt).toNat : Int) = (c.toNat : Int) := by rw [hc]
  have hcx : c.toNat < 256 := by rw [hc]; exact hx
  clear hd hc hx HR
  rw [← Hc.out] at e1
  unfold cutBody
  conv => arg 2; whnf
  rw [frame205 t hsize, h0, h3, h4]
  clear hsize h0 h3 h4
  subst e1
  replace hci : ((s[i]'hlt).toNat : Int) = 32 := by rw [hci]; rfl
  have HE9 := Lib.hid (show tokR (32 :: s.data.toList.drop (i + 1)) i = .ok (none, 1) from rfl)
  obtain ⟨i1, hi1⟩ : ∃ i1 : Nat, (i : Int) + 1 = (i1 : Int) := ⟨i + 1, by omega⟩
  have hi1e : i + 1 = i1 := by omega
  have hik1 : i1 ≤ s.size := by omega
  have Hi1e := Lib.hid hi1e
  clear hi1e
  obtain ⟨w6, hw6⟩ : ∃ w6, w6 = wo := ⟨_, rfl⟩
  subst hw6
  have Ki6 := Ki
  have Ks6 := Ks
  have Kb6 := Kb
  have Hown6 := Hown
  have Hne6 := Hne
  have HS6 := HS
  have HL6 := HL
  have HT6 := HT
  have HE6 := HE
  clear gi giz
  have gi6 : w6.cell? ⟨bi, 0, none⟩ = some (.int .i64 i) := by have k := Ki6.out; simp [World.cell?, k]
  have gi6z : ∀ j, w6.frozen? ⟨bi, j, none⟩ = false := fun j => by have k := Ki6.out; simp [World.frozen?, k]
  have ss7 : Since (fun k => k = bi) w6 (w6.setCell ⟨bi, 0, none⟩ (.int .i64 (i1 : Nat))) := Since.setCell w6 ⟨bi, 0, none⟩ _
  have ss8 : Since (fun _ => False) (w6.setCell ⟨bi, 0, none⟩ (.int .i64 (i1 : Nat))) ((w6.setCell ⟨bi, 0, none⟩ (.int .i64 (i1 : Nat))).alloc (.cells #[.int .i64 (i1 : Nat)] 3)) := Since.alloc _ _ _
  have hz7 := ss7.size
  have hz8 := ss8.size
  have hsz7 : (w6.setCell ⟨bi, 0, none⟩ (.int .i64 (i1 : Nat))).heap.size = w6.heap.size := by simp [World.setCell]
  have kN := heap_alloc_new (w6.setCell ⟨bi, 0, none⟩ (.int .i64 (i1 : Nat))) (.cells #[.int .i64 (i1 : Nat)] 3)
  rw [hsz7] at kN
  have HP := Lib.hid (And.intro kN (And.intro ((ss8.block w.heap.size (by omega) (fun f => f)).trans ((ss7.block w.heap.size (by omega) (by omega)).trans Ks6.out)) (And.intro ((ss8.block br (by omega) (fun f => f)).trans ((ss7.block br (by omega) (by omega)).trans Kb6.out)) (And.intro (ss8.row (ss7.row Hown6.out (fun k e f => Hne6.out (e.trans (congrArg some f)))) (fun k e f => f)) (And.intro ((HS6.out.then_new ss7 (fun k e => Or.inr (by omega))).trans (ss8.mono (fun _ f => f.elim))) (And.intro ((HL6.out.since ss7 (fun k e => by omega)).later ss8) (And.intro ((HT6.out.since ss7 (by omega)).since ss8 (fun f => f)) ((HE6.out.since ss7 (by omega)).since ss8 (fun f => f)))))))))
  have hbN : w.heap.size < w6.heap.size := by omega
  have hneN : (Value.slice aT acc.length cT).ownBlock ≠ some w6.heap.size := fun e => by have := (Hown6.out.lt _ e).2; omega
  have HneN := Lib.hid hneN
  clear ss7 ss8 kN hneN hsz7
  go_wp2_with fail
  clear gi6 gi6z
  refine Handed.intro k' ?measure ?_
  rotate_left
  go_step
  rotate_left
  · omega
  · obtain ⟨p1, p2, p3, p4, p5, p6, p7, p8⟩ := HP.out
    refine ⟨_, i1, _, acc, _, rfl, rfl, rfl, rfl, rfl, p1, hbN, p2, by simpa using p3, p4, by simpa using HneN.out, p5, p6, p7, p8, by omega, by have := Hi1e.out; omega, by have := Hi1e.out; omega, ?_, fun t ht => Hok.out t ht⟩
    · rw [HR2.out, HE9.out]; dsimp only; rw [← Hd.out, List.drop_drop, Hi1e.out]

set_option maxRecDepth 100000 in
set_option maxHeartbeats 40000000 in
theorem cut_b10 {s : ByteArray} {w : World} {br base : Nat} {Res : Except (Int × Int) (List Tok)} {gk : Nat} {t : Array Value} {wr : World} {i bi : Nat} {acc : List Tok} {vT : Value} (hin : CutIn s w br base)
    (hrel : t.size = 205 ∧ slotOf t 0 = .pointer (some ⟨br, 0, none⟩) ∧ slotOf t 3 = .pointer (some ⟨w.heap.size, 0, none⟩) ∧ slotOf t 4 = .pointer (some ⟨bi, 0, none⟩) ∧ wr.heap[bi]? = some (.cells #[.int .i64 i] 3 (0, 0)) ∧ w.heap.size < bi ∧ wr.heap[w.heap.size]? = some (.cells #[.string s] 9 (0, 0)) ∧ wr.heap[br]? = some (.cells #[vT, .int .i64 0, .int .i64 0, .int .i64 0, .int .i64 0] 49 (0, 0)) ∧ wr.ownsRow (w.heap.size + 1) 52 4 vT acc.length (rowT acc) ∧ vT.ownBlock ≠ some bi ∧ Since (fun k => k = br) w wr ∧ RdLaid wr base br ∧ TabOK wr ∧ ErrOK wr ∧ i ≤ s.size ∧ acc.length ≤ i ∧ s.size - i ≤ gk ∧ Res = cutR gk (s.data.toList.drop i) i acc ∧ ∀ t ∈ acc, TokOK t)
    (hlt : i < s.size) (e1 : s[i]'hlt = 10) : CutTo s w br base Res gk ⟨t, []⟩ wr := by
  obtain ⟨ix, ii0, iz0, iz1, iz2⟩ := info_parts infoT
  obtain ⟨hs, hbr, hlb, hgl⟩ := hin
  intro J K _ hJ hKK
  have hsI : (s.size : Int) ≤ 4000 := by omega
  obtain ⟨wo, hwo⟩ : ∃ wo, wo = wr := ⟨_, rfl⟩
  subst hwo
  obtain ⟨hsize, h0, h3, h4, ki, hbi, ks, kb, hown, hne, hS, hL, hT, hE, his, hai, hk, hR, hok⟩ := hrel
  obtain ⟨aT, cT, rfl, hc1, hc2⟩ := row_slice hown
  have hlti := (Array.getElem?_eq_some_iff.1 ki).1
  have gi : wo.cell? ⟨bi, 0, none⟩ = some (.int .i64 i) := by simp [World.cell?, ki]
  have gs : wo.cell? ⟨w.heap.size, 0, none⟩ = some (.string s) := by simp [World.cell?, ks]
  have giz : ∀ j, wo.frozen? ⟨bi, j, none⟩ = false := fun j => by simp [World.frozen?, ki]
  have Ki := Lib.hid ki
  have Ks := Lib.hid ks
  have Kb := Lib.hid kb
  have Hown := Lib.hid hown
  have Hne := Lib.hid hne
  have HS := Lib.hid hS
  have HL := Lib.hid hL
  have HT := Lib.hid hT
  have HE := Lib.hid hE
  have HR := Lib.hid hR
  have Hok := Lib.hid hok
  clear ki ks kb hown hne hS hL hT hE hR hok
  obtain ⟨k', rfl⟩ : ∃ k', gk = k' + 1 := ⟨gk - 1, by omega⟩
  have hlt1 : (i : Int) < s.size := by omega
  have hd := drop_get s i hlt
  have hx := (s[i]'hlt).toNat_lt
  obtain ⟨c, hc⟩ : ∃ c, c = s[i]'hlt := ⟨_, rfl⟩
  have HR2 := Lib.hid (show Res = match tokR (c :: s.data.toList.drop (i + 1)) i with
    | .error e => .error ((i : Int), e)
    | .ok (none, n) => cutR k' ((c :: s.data.toList.drop (i + 1)).drop n) (i + n) acc
    | .ok (some t, n) => cutR k' ((c :: s.data.toList.drop (i + 1)).drop n) (i + n) (acc ++ [t]) from HR.out.trans (by rw [hd, ← hc]; rfl))
  have Hd := Lib.hid (show s.data.toList.drop i = c :: s.data.toList.drop (i + 1) by rw [hd, ← hc])
  have Hc := Lib.hid hc
  have hci : ((s[i]'hlt).toNat : Int) = (c.toNat : Int) := by rw [hc]
  have hcx : c.toNat < 256 := by rw [hc]; exact hx
  clear hd hc hx HR
  rw [← Hc.out] at e1
  unfold cutBody
  conv => arg 2; whnf
  rw [frame205 t hsize, h0, h3, h4]
  clear hsize h0 h3 h4
  subst e1
  replace hci : ((s[i]'hlt).toNat : Int) = 10 := by rw [hci]; rfl
  have HE9 := Lib.hid (show tokR (10 :: s.data.toList.drop (i + 1)) i = .ok (none, 1) from rfl)
  obtain ⟨i1, hi1⟩ : ∃ i1 : Nat, (i : Int) + 1 = (i1 : Int) := ⟨i + 1, by omega⟩
  have hi1e : i + 1 = i1 := by omega
  have hik1 : i1 ≤ s.size := by omega
  have Hi1e := Lib.hid hi1e
  clear hi1e
  obtain ⟨w6, hw6⟩ : ∃ w6, w6 = wo := ⟨_, rfl⟩
  subst hw6
  have Ki6 := Ki
  have Ks6 := Ks
  have Kb6 := Kb
  have Hown6 := Hown
  have Hne6 := Hne
  have HS6 := HS
  have HL6 := HL
  have HT6 := HT
  have HE6 := HE
  clear gi giz
  have gi6 : w6.cell? ⟨bi, 0, none⟩ = some (.int .i64 i) := by have k := Ki6.out; simp [World.cell?, k]
  have gi6z : ∀ j, w6.frozen? ⟨bi, j, none⟩ = false := fun j => by have k := Ki6.out; simp [World.frozen?, k]
  have ss7 : Since (fun k => k = bi) w6 (w6.setCell ⟨bi, 0, none⟩ (.int .i64 (i1 : Nat))) := Since.setCell w6 ⟨bi, 0, none⟩ _
  have ss8 : Since (fun _ => False) (w6.setCell ⟨bi, 0, none⟩ (.int .i64 (i1 : Nat))) ((w6.setCell ⟨bi, 0, none⟩ (.int .i64 (i1 : Nat))).alloc (.cells #[.int .i64 (i1 : Nat)] 3)) := Since.alloc _ _ _
  have hz7 := ss7.size
  have hz8 := ss8.size
  have hsz7 : (w6.setCell ⟨bi, 0, none⟩ (.int .i64 (i1 : Nat))).heap.size = w6.heap.size := by simp [World.setCell]
  have kN := heap_alloc_new (w6.setCell ⟨bi, 0, none⟩ (.int .i64 (i1 : Nat))) (.cells #[.int .i64 (i1 : Nat)] 3)
  rw [hsz7] at kN
  have HP := Lib.hid (And.intro kN (And.intro ((ss8.block w.heap.size (by omega) (fun f => f)).trans ((ss7.block w.heap.size (by omega) (by omega)).trans Ks6.out)) (And.intro ((ss8.block br (by omega) (fun f => f)).trans ((ss7.block br (by omega) (by omega)).trans Kb6.out)) (And.intro (ss8.row (ss7.row Hown6.out (fun k e f => Hne6.out (e.trans (congrArg some f)))) (fun k e f => f)) (And.intro ((HS6.out.then_new ss7 (fun k e => Or.inr (by omega))).trans (ss8.mono (fun _ f => f.elim))) (And.intro ((HL6.out.since ss7 (fun k e => by omega)).later ss8) (And.intro ((HT6.out.since ss7 (by omega)).since ss8 (fun f => f)) ((HE6.out.since ss7 (by omega)).since ss8 (fun f => f)))))))))
  have hbN : w.heap.size < w6.heap.size := by omega
  have hneN : (Value.slice aT acc.length cT).ownBlock ≠ some w6.heap.size := fun e => by have := (Hown6.out.lt _ e).2; omega
  have HneN := Lib.hid hneN
  clear ss7 ss8 kN hneN hsz7
  go_wp2_with fail
  clear gi6 gi6z
  refine Handed.intro k' ?measure ?_
  rotate_left
  go_step
  rotate_left
  · omega
  · obtain ⟨p1, p2, p3, p4, p5, p6, p7, p8⟩ := HP.out
    refine ⟨_, i1, _, acc, _, rfl, rfl, rfl, rfl, rfl, p1, hbN, p2, by simpa using p3, p4, by simpa using HneN.out, p5, p6, p7, p8, by omega, by have := Hi1e.out; omega, by have := Hi1e.out; omega, ?_, fun t ht => Hok.out t ht⟩
    · rw [HR2.out, HE9.out]; dsimp only; rw [← Hd.out, List.drop_drop, Hi1e.out]

set_option maxRecDepth 100000 in
set_option maxHeartbeats 40000000 in
theorem cut_b9 {s : ByteArray} {w : World} {br base : Nat} {Res : Except (Int × Int) (List Tok)} {gk : Nat} {t : Array Value} {wr : World} {i bi : Nat} {acc : List Tok} {vT : Value} (hin : CutIn s w br base)
    (hrel : t.size = 205 ∧ slotOf t 0 = .pointer (some ⟨br, 0, none⟩) ∧ slotOf t 3 = .pointer (some ⟨w.heap.size, 0, none⟩) ∧ slotOf t 4 = .pointer (some ⟨bi, 0, none⟩) ∧ wr.heap[bi]? = some (.cells #[.int .i64 i] 3 (0, 0)) ∧ w.heap.size < bi ∧ wr.heap[w.heap.size]? = some (.cells #[.string s] 9 (0, 0)) ∧ wr.heap[br]? = some (.cells #[vT, .int .i64 0, .int .i64 0, .int .i64 0, .int .i64 0] 49 (0, 0)) ∧ wr.ownsRow (w.heap.size + 1) 52 4 vT acc.length (rowT acc) ∧ vT.ownBlock ≠ some bi ∧ Since (fun k => k = br) w wr ∧ RdLaid wr base br ∧ TabOK wr ∧ ErrOK wr ∧ i ≤ s.size ∧ acc.length ≤ i ∧ s.size - i ≤ gk ∧ Res = cutR gk (s.data.toList.drop i) i acc ∧ ∀ t ∈ acc, TokOK t)
    (hlt : i < s.size) (e1 : s[i]'hlt = 9) : CutTo s w br base Res gk ⟨t, []⟩ wr := by
  obtain ⟨ix, ii0, iz0, iz1, iz2⟩ := info_parts infoT
  obtain ⟨hs, hbr, hlb, hgl⟩ := hin
  intro J K _ hJ hKK
  have hsI : (s.size : Int) ≤ 4000 := by omega
  obtain ⟨wo, hwo⟩ : ∃ wo, wo = wr := ⟨_, rfl⟩
  subst hwo
  obtain ⟨hsize, h0, h3, h4, ki, hbi, ks, kb, hown, hne, hS, hL, hT, hE, his, hai, hk, hR, hok⟩ := hrel
  obtain ⟨aT, cT, rfl, hc1, hc2⟩ := row_slice hown
  have hlti := (Array.getElem?_eq_some_iff.1 ki).1
  have gi : wo.cell? ⟨bi, 0, none⟩ = some (.int .i64 i) := by simp [World.cell?, ki]
  have gs : wo.cell? ⟨w.heap.size, 0, none⟩ = some (.string s) := by simp [World.cell?, ks]
  have giz : ∀ j, wo.frozen? ⟨bi, j, none⟩ = false := fun j => by simp [World.frozen?, ki]
  have Ki := Lib.hid ki
  have Ks := Lib.hid ks
  have Kb := Lib.hid kb
  have Hown := Lib.hid hown
  have Hne := Lib.hid hne
  have HS := Lib.hid hS
  have HL := Lib.hid hL
  have HT := Lib.hid hT
  have HE := Lib.hid hE
  have HR := Lib.hid hR
  have Hok := Lib.hid hok
  clear ki ks kb hown hne hS hL hT hE hR hok
  obtain ⟨k', rfl⟩ : ∃ k', gk = k' + 1 := ⟨gk - 1, by omega⟩
  have hlt1 : (i : Int) < s.size := by omega
  have hd := drop_get s i hlt
  have hx := (s[i]'hlt).toNat_lt
  obtain ⟨c, hc⟩ : ∃ c, c = s[i]'hlt := ⟨_, rfl⟩
  have HR2 := Lib.hid (show Res = match tokR (c :: s.data.toList.drop (i + 1)) i with
    | .error e => .error ((i : Int), e)
    | .ok (none, n) => cutR k' ((c :: s.data.toList.drop (i + 1)).drop n) (i + n) acc
    | .ok (some t, n) => cutR k' ((c :: s.data.toList.drop (i + 1)).drop n) (i + n) (acc ++ [t]) from HR.out.trans (by rw [hd, ← hc]; rfl))
  have Hd := Lib.hid (show s.data.toList.drop i = c :: s.data.toList.drop (i + 1) by rw [hd, ← hc])
  have Hc := Lib.hid hc
  have hci : ((s[i]'hlt).toNat : Int) = (c.toNat : Int) := by rw [hc]
  have hcx : c.toNat < 256 := by rw [hc]; exact hx
  clear hd hc hx HR
  rw [← Hc.out] at e1
  unfold cutBody
  conv => arg 2; whnf
  rw [frame205 t hsize, h0, h3, h4]
  clear hsize h0 h3 h4
  subst e1
  replace hci : ((s[i]'hlt).toNat : Int) = 9 := by rw [hci]; rfl
  have HE9 := Lib.hid (show tokR (9 :: s.data.toList.drop (i + 1)) i = .ok (none, 1) from rfl)
  obtain ⟨i1, hi1⟩ : ∃ i1 : Nat, (i : Int) + 1 = (i1 : Int) := ⟨i + 1, by omega⟩
  have hi1e : i + 1 = i1 := by omega
  have hik1 : i1 ≤ s.size := by omega
  have Hi1e := Lib.hid hi1e
  clear hi1e
  obtain ⟨w6, hw6⟩ : ∃ w6, w6 = wo := ⟨_, rfl⟩
  subst hw6
  have Ki6 := Ki
  have Ks6 := Ks
  have Kb6 := Kb
  have Hown6 := Hown
  have Hne6 := Hne
  have HS6 := HS
  have HL6 := HL
  have HT6 := HT
  have HE6 := HE
  clear gi giz
  have gi6 : w6.cell? ⟨bi, 0, none⟩ = some (.int .i64 i) := by have k := Ki6.out; simp [World.cell?, k]
  have gi6z : ∀ j, w6.frozen? ⟨bi, j, none⟩ = false := fun j => by have k := Ki6.out; simp [World.frozen?, k]
  have ss7 : Since (fun k => k = bi) w6 (w6.setCell ⟨bi, 0, none⟩ (.int .i64 (i1 : Nat))) := Since.setCell w6 ⟨bi, 0, none⟩ _
  have ss8 : Since (fun _ => False) (w6.setCell ⟨bi, 0, none⟩ (.int .i64 (i1 : Nat))) ((w6.setCell ⟨bi, 0, none⟩ (.int .i64 (i1 : Nat))).alloc (.cells #[.int .i64 (i1 : Nat)] 3)) := Since.alloc _ _ _
  have hz7 := ss7.size
  have hz8 := ss8.size
  have hsz7 : (w6.setCell ⟨bi, 0, none⟩ (.int .i64 (i1 : Nat))).heap.size = w6.heap.size := by simp [World.setCell]
  have kN := heap_alloc_new (w6.setCell ⟨bi, 0, none⟩ (.int .i64 (i1 : Nat))) (.cells #[.int .i64 (i1 : Nat)] 3)
  rw [hsz7] at kN
  have HP := Lib.hid (And.intro kN (And.intro ((ss8.block w.heap.size (by omega) (fun f => f)).trans ((ss7.block w.heap.size (by omega) (by omega)).trans Ks6.out)) (And.intro ((ss8.block br (by omega) (fun f => f)).trans ((ss7.block br (by omega) (by omega)).trans Kb6.out)) (And.intro (ss8.row (ss7.row Hown6.out (fun k e f => Hne6.out (e.trans (congrArg some f)))) (fun k e f => f)) (And.intro ((HS6.out.then_new ss7 (fun k e => Or.inr (by omega))).trans (ss8.mono (fun _ f => f.elim))) (And.intro ((HL6.out.since ss7 (fun k e => by omega)).later ss8) (And.intro ((HT6.out.since ss7 (by omega)).since ss8 (fun f => f)) ((HE6.out.since ss7 (by omega)).since ss8 (fun f => f)))))))))
  have hbN : w.heap.size < w6.heap.size := by omega
  have hneN : (Value.slice aT acc.length cT).ownBlock ≠ some w6.heap.size := fun e => by have := (Hown6.out.lt _ e).2; omega
  have HneN := Lib.hid hneN
  clear ss7 ss8 kN hneN hsz7
  go_wp2_with fail
  clear gi6 gi6z
  refine Handed.intro k' ?measure ?_
  rotate_left
  go_step
  rotate_left
  · omega
  · obtain ⟨p1, p2, p3, p4, p5, p6, p7, p8⟩ := HP.out
    refine ⟨_, i1, _, acc, _, rfl, rfl, rfl, rfl, rfl, p1, hbN, p2, by simpa using p3, p4, by simpa using HneN.out, p5, p6, p7, p8, by omega, by have := Hi1e.out; omega, by have := Hi1e.out; omega, ?_, fun t ht => Hok.out t ht⟩
    · rw [HR2.out, HE9.out]; dsimp only; rw [← Hd.out, List.drop_drop, Hi1e.out]
end Go.Proofs.YtkopjgnjflhkeaaDoor

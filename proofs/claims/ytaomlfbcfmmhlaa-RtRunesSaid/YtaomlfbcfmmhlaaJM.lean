/-
  Texts joined: Tells SameTexts.
-/
import Derived.Test.YtaomlfbcfmmhlaaJK
import Derived.Test.YtaomlfbcfmmhlaaJR

/-
  posternlaw.tells, wordsOf, walked.
-/
namespace Go.Proofs.Ytaomlfbcfmmhlaa
open Go.RowKit Go.Pst
set_option linter.unusedVariables false
set_option linter.unusedSimpArgs false
set_option maxRecDepth 100000

theorem row_base {w : World} {base base' n sz : Nat} {e : TypeId} {v : Value} {xs : List Value} (h : w.ownsRow base e sz v n xs) (hb : base' ≤ base) : w.ownsRow base' e sz v n xs :=
  ⟨h.1, h.2.imp id (fun ⟨g, cap, cur, hv, hg, r⟩ => ⟨g, cap, cur, hv, Nat.le_trans hb hg, r⟩)⟩
set_option maxHeartbeats 2000000 in
theorem tells_any {w : World} {a1 a2 : Option Addr} {c1 c2 : Nat} {all : List PCode} {name : ByteArray} {l d : List Int} {r : Nat} {vd : Value} {ls : List ByteArray} (hn : name.size ≤ maxLen) (hl : l.length ≤ 1000) (hr : r ≤ 1000)
    (h1 : rCodes (fun _ => True) w [.slice a1 all.length c1] all) (h2 : rInts (fun _ => True) w [.slice a2 l.length c2] l) (h3 : rInts (fun _ => True) w [vd] d) (hal : all.length ≤ 1000) (hal0 : 0 < all.length)
    (hd : d.length ≤ 20000) (hf : programFaultF (drivenF all name l r d) = 0) (hfit : FitProg (drivenF all name l r d)) (hrun : runF (drivenF all name l r d) false 20000 200000 (startF (drivenF all name l r d)) = (1, ls)) :
    Calls Try.prog 11 #[.slice a1 all.length c1, .string name, .slice a2 l.length c2, .int .i64 r, vd] w fun e w' => ∃ vL, e = .returned (.tuple #[vL, .bool true]) ∧ w'.ownsRow w.heap.size 9 1 vL ls.length (ls.map Value.string) ∧ Below w.heap.size w w' := by
  obtain ⟨ad, cd, rfl, hd9, hdat, hdI⟩ := rInts_open h3
  have hres : resF (programFaultF (drivenF all name l r d)) false 1000000 (drivenF all name l r d) 20000 200000 = ((1, ls), 0) := by
    have hd' : ((drivenF all name l r d).data.length : Int) ≤ 20000 := by show (d.length : Int) ≤ 20000; omega
    unfold resF
    rw [hf, if_neg (by omega), if_pos ⟨hd', by omega, by omega, by omega⟩]
    show (runF _ false 20000 200000 _, (0 : Int)) = _
    rw [hrun]
  have H1 := Lib.hid h1
  have H2 := Lib.hid h2
  have H3 := Lib.hid h3
  have Hres := Lib.hid hres
  have Hfit := Lib.hid hfit
  clear h1 h2 h3 hdat hdI hres hf hfit hrun
  go_enter Try.func11, Try.ntmps11
  go_wp2_with fail
  refine (driven_any hn hl hr H1.out H2.out H3.out hal hal0).mono ?_
  rintro e w1 ⟨v0, rfl, hp, hb1⟩
  obtain ⟨p0, p1, hv, hp0, hp1⟩ := id hp
  obtain ⟨rfl, rfl⟩ : v0 = p0 ∧ (Value.slice ad d.length cd) = p1 := by simpa using hv
  obtain ⟨a0', c0', rfl⟩ := rSlice_shape hp0
  have HP := Lib.hid hp
  have HB1 := Lib.hid hb1
  clear hp hv hp0 hp1 hb1
  go_wp2_with fail
  have hrr := ranRes_any (drivenF all name l r d) (.slice a0' (drivenF all name l r d).funcs.length c0') (.slice ad d.length cd) 20000 200000 w1 HP.out Hfit.out (ini rfl) (ini rfl)
  rw [Hres.out] at hrr
  refine hrr.mono ?_
  rintro e w2 ⟨vL, rfl, hown, hb2⟩
  obtain ⟨aL, cL, rfl, -, -⟩ := row_slice hown
  have HO := Lib.hid hown
  have HB2 := Lib.hid hb2
  clear hown hb2 hrr
  go_wp2_with fail
  generalize hW : w2.alloc (.cells #[.slice aL ls.length cL, .int .i64 1] 51) = W
  have b0 : W.cell? ⟨w2.heap.size, 0, none⟩ = some (.slice aL ls.length cL) := by rw [← hW, World.cell?_alloc_new]; rfl
  have b1 : W.cell? ⟨w2.heap.size, 1, none⟩ = some (.int .i64 1) := by rw [← hW, World.cell?_alloc_new]; rfl
  have bW : Below w2.heap.size w2 W := by rw [← hW]; exact (Below.refl _ _).alloc (Nat.le_refl _) _
  have HW := Lib.hid bW
  clear bW hW
  have hS := And.intro b0 b1
  go_region_held3 (fun w' => w'.cell? ⟨w2.heap.size, 0, none⟩ = some (.slice aL ls.length cL) ∧ w'.cell? ⟨w2.heap.size, 1, none⟩ = some (.int .i64 1)) (exact hS) (fail)
  all_goals
    go_wp2_with fail
    refine bodyPost_ret (v := .tuple #[.slice aL ls.length cL, .bool true]) (by simp [results, Try.results11, go_sem]) rfl ?_
    have h1 := HB1.out
    have h2 := HB2.out.trans (HW.out.mono HB2.out.size)
    have h3 := h2.trans (Drawn.below (Drawn.drew W) _)
    refine ⟨_, rfl, ?_, h1.trans (h3.mono h1.size)⟩
    have h4 : Since (fun _ => False) w2 W.drew := Since.of_below' (HW.out.trans (Drawn.below (Drawn.drew W) _)) _
    exact row_base (h4.row HO.out (fun _ _ f => f)) h1.size

def bytesI (l : List UInt8) : List Int := l.map (fun x => (x.toNat : Int))
set_option maxHeartbeats 2000000 in
theorem wordsOf_any {w : World} (s : ByteArray) (hs : s.size ≤ 100000) :
    Calls Try.prog 10 #[.string s] w fun e w' => ∃ v, e = .returned v ∧ w'.ownsRow w.heap.size 3 1 v s.size (ints (bytesI s.data.toList)) ∧ Below w.heap.size w w' := by
  obtain ⟨j0, hj0, hy0, hy1, hy2⟩ := info_parts infoInt
  have hs1 : (s.size : Int) ≤ 100000 := by omega
  go_enter Try.func10, Try.ntmps10
  go_wp2_with fail
  go_loopw [3, 4] (fun v i wr => ∃ k : Nat, k ≤ s.size ∧ i = .int .i64 k ∧ wr.ownsRow w.heap.size 3 1 v k (ints (bytesI (s.data.toList.take k))) ∧ Below w.heap.size w wr) (fun _ i _ => s.size - (intOf i).toNat)
  case atStart => exact ⟨0, Nat.zero_le _, rfl, ⟨rfl, Or.inl ⟨rfl, rfl⟩⟩, Below.refl _ _⟩
  case round =>
    obtain ⟨k, hk, rfl, ho, hb⟩ := hrel
    obtain ⟨aB, cB, rfl, -, -⟩ := row_slice ho
    have Ho := Lib.hid ho
    have HB := Lib.hid hb
    clear ho hb
    by_cases hlt : k < s.size
    · have hk0 : (0 : Int) ≤ k := by omega
      have hk1 : (k : Int) < s.size := by omega
      have hx := (s[k]'hlt).toNat_lt
      have hw : wrap64 (((s[k]'hlt).toNat : Nat) : Int) = (s[k]'hlt).toNat := by
        generalize (s[k]'hlt).toNat = q at *
        unfold wrap64
        omega
      have hsz := HB.out.size
      go_wp2_with (at_builtin; refine wpList_append_own_at _ rfl _ _ 25 rfl w.heap.size 3 j0 (.int .i64 0) 1 8 Try.underlying25 hj0 hy0 hy1 hy2 rfl (by decide) (.slice aB k cB) k (ints (bytesI (s.data.toList.take k))) rfl (Ho.out.alloc _) ⟨wr.heap.size, 0, none⟩ 1 1 [.int .i64 (s[k]'hlt).toNat] rfl rfl (cell_one_new _ _ _) (by intro u hu; simp at hu; subst hu; rfl) (by unfold maxLen; omega) (by omega) (by simp; omega) ?_; intro v3 w3 hown3 hgrow3 hnil3 hat3; clear hnil3)
      have hown4 : ∀ q, (Value.slice aB k cB).ownBlock = some q → w.heap.size ≤ q := fun q hq => (Ho.out.lt q hq).1
      have b3 : Below w.heap.size w w3 := HB.out.trans (((Below.refl _ _).alloc (by omega) _).trans ((Since.grown hgrow3).below (by simp; omega) (fun q hq => hown4 q hq)))
      refine ⟨⟨k + 1, by omega, by go_num, ?_, b3⟩, by simp [intOf]; omega⟩
      have e1 : bytesI (s.data.toList.take (k + 1)) = bytesI (s.data.toList.take k) ++ [((s[k]'hlt).toNat : Int)] := by
        have hl : k < s.data.toList.length := by rw [show s.data.toList.length = s.size from Array.length_toList]; exact hlt
        rw [List.take_succ_eq_append_getElem hl]
        simp [bytesI]
        rfl
      rw [e1]
      simpa [ints] using hown3
    · have hke : k = s.size := by omega
      subst hke
      go_wp2_with fail
      go_ret
      refine ⟨_, rfl, ?_, HB.out⟩
      have := Ho.out
      rwa [show s.data.toList.take s.size = s.data.toList from List.take_of_length_le (Nat.le_of_eq (show s.data.toList.length = s.size from Array.length_toList))] at this
end Go.Proofs.Ytaomlfbcfmmhlaa

/-
  posternlaw.sameTexts, walked.
-/
namespace Go.Proofs.Ytaomlfbcfmmhlaa
open Go.RowKit Go.Pst
set_option linter.unusedVariables false
set_option linter.unusedSimpArgs false

theorem sameTexts_any (l : List ByteArray) (va vb : Value) (w : World) (base : Nat) (ha : w.ownsRow base 9 1 va l.length (l.map Value.string)) (hb : w.ownsRow base 9 1 vb l.length (l.map Value.string)) :
    Calls Try.prog 12 #[va, vb] w fun e w' => e = .returned (.bool true) ∧ Below w.heap.size w w' := by
  obtain ⟨aa, ca, rfl, hz1, hz2⟩ := row_slice ha
  have hl : l.length ≤ 9223372036854775807 := by unfold maxLen at hz2; omega
  clear hz1 hz2
  obtain ⟨ab, cb, rfl, -, -⟩ := row_slice hb
  have HA := Lib.hid ha
  have HB := Lib.hid hb
  clear ha hb
  go_enter Try.func12, Try.ntmps12
  go_wp2_with fail
  go_loopw [5] (fun i wr => ∃ k : Nat, k ≤ l.length ∧ i = .int .i64 k ∧ Since (fun _ => False) w wr) (fun i _ => l.length - (intOf i).toNat)
  case atStart => exact ⟨0, Nat.zero_le _, rfl, Since.refl _ _⟩
  case round =>
    obtain ⟨k, hk, rfl, hs⟩ := hrel
    by_cases hlt : k < l.length
    · have hlt1 : (k : Int) < l.length := by omega
      have hk0 : (0 : Int) ≤ k := by omega
      obtain ⟨ga, c1, hva, -, -, hla, hca, -⟩ := row_get HA.out (i := k) (u := .string l[k]) (by simp [hlt])
      obtain ⟨gb, c2, hvb, -, -, hlb, hcb, -⟩ := row_get HB.out (i := k) (u := .string l[k]) (by simp [hlt])
      obtain ⟨rfl, rfl⟩ : aa = some ⟨ga, 0, none⟩ ∧ ca = c1 := by simpa using hva
      obtain ⟨rfl, rfl⟩ : ab = some ⟨gb, 0, none⟩ ∧ cb = c2 := by simpa using hvb
      have da := (hs.cell (o := k) hla (fun e => e)).trans hca
      have db := (hs.cell (o := k) hlb (fun e => e)).trans hcb
      have HS := Lib.hid hs
      have hwk : IntKind.i64.wrap ((k : Int) + 1) = (k : Int) + 1 := IntWalk.i64_in _ (by omega)
      clear hs hva hvb hca hcb
      generalize l[k] = s at *
      have hne : (s != s) = false := by simp
      go_wp2_with fail
      go_region_held3 (fun w' => w'.cell? ⟨ga, k, none⟩ = some (.string s) ∧ w'.cell? ⟨gb, k, none⟩ = some (.string s)) (go_keep) (fail)
      all_goals (go_wp2_with fail; exact ⟨⟨k + 1, by omega, by simp, HS.out.trans (Since.drew _ _)⟩, by simp only [intOf]; omega⟩)
    · have hlt1 : ¬ ((k : Int) < l.length) := by omega
      have HS := Lib.hid hs
      clear hs
      go_wp2_with fail
      go_ret
      exact ⟨rfl, HS.out.below (Nat.le_refl _) (fun _ e => e.elim)⟩

end Go.Proofs.Ytaomlfbcfmmhlaa

/-
  Texts joined: RtTextsWalk.
-/
import Derived.Test.YtaomlfbcfmmhlaaJJ
import Derived.Test.YtaomlfbcfmmhlaaJL
import Derived.Test.YtaomlfbcfmmhlaaJM

/-
  RtTexts' walk.
-/
namespace Go.Proofs.Ytaomlfbcfmmhlaa
open Go.RowKit Go.Pst
set_option linter.unusedVariables false
set_option linter.unusedSimpArgs false
set_option maxRecDepth 100000

def pSame (A B : List Int) : PProg := drivenF allL ⟨#[95, 115, 97, 109, 101]⟩ [0, A.length, A.length, B.length] 1 (A ++ B)
theorem run_same {A B : List Int} (hs : A.length + B.length ≤ 1000) : runF (drivenF allL ⟨#[95, 115, 97, 109, 101]⟩ [0, A.length, A.length, B.length] 1 (A ++ B)) false 20000 200000 (startF (drivenF allL ⟨#[95, 115, 97, 109, 101]⟩ [0, A.length, A.length, B.length] 1 (A ++ B))) = (1, [decS (if A = B then 1 else 0)]) := by
  have h1 := Runs.of (main_pre_same 0 A.length A.length B.length (A ++ B))
  refine (h1.trans (same_all hs)).run (by omega) (fun k hk => ?_)
  obtain ⟨n, rfl⟩ : ∃ n, k = n + 2 := ⟨k - 2, by omega⟩
  exact main_post_same _ _ _ _ _ _ _ _
theorem run_less {A B : List Int} (hs : A.length + B.length ≤ 1000) : runF (drivenF allL ⟨#[95, 108, 101, 115, 115]⟩ [0, A.length, A.length, B.length] 1 (A ++ B)) false 20000 200000 (startF (drivenF allL ⟨#[95, 108, 101, 115, 115]⟩ [0, A.length, A.length, B.length] 1 (A ++ B))) = (1, [decS (yesF (lexF A B))]) := by
  have h1 := Runs.of (main_pre_less 0 A.length A.length B.length (A ++ B))
  refine (h1.trans (less_all hs)).run (by omega) (fun k hk => ?_)
  obtain ⟨n, rfl⟩ : ∃ n, k = n + 2 := ⟨k - 2, by omega⟩
  exact main_post_less _ _ _ _ _ _ _ _
theorem run_cat {A B : List Int} (hs : A.length + B.length ≤ 1000) : runF (drivenF allL ⟨#[95, 99, 97, 116]⟩ [0, A.length, A.length, B.length] 2 (A ++ B)) false 20000 200000 (startF (drivenF allL ⟨#[95, 99, 97, 116]⟩ [0, A.length, A.length, B.length] 2 (A ++ B))) = (1, [decS ((A.length + B.length : Nat) : Int), decS ((A.length + B.length : Nat) : Int)]) := by
  have h1 := Runs.of (main_pre_cat 0 A.length A.length B.length (A ++ B))
  obtain ⟨W', h2⟩ := cat_all hs (A ++ B) (by simp)
  refine (h1.trans h2).run (by omega) (fun k hk => ?_)
  obtain ⟨n, rfl⟩ : ∃ n, k = n + 3 := ⟨k - 3, by omega⟩
  exact main_post_cat _ _ _ _ _ _ _ _ _
theorem bytesI_len (l : List UInt8) : (bytesI l).length = l.length := by simp [bytesI]
theorem bytesI_inI {l : List UInt8} : ∀ x ∈ bytesI l, InI x := fun x hx => by
  simp only [bytesI, List.mem_map] at hx
  obtain ⟨y, hy, rfl⟩ := hx
  have := y.toNat_lt
  exact ⟨by omega, by omega⟩
theorem data_len (s : ByteArray) : s.data.toList.length = s.size := Array.length_toList
theorem Dec_any (n : Int) (hn : InI n) (w : World) : Calls Try.prog 13 #[.int .i64 n] w fun e w' => e = .returned (.string (decS n)) ∧ Below w.heap.size w w' := by
  go_enter Try.func13, Try.ntmps13
  go_wp2_with fail
  refine (dec_any (2 * n.natAbs + 1) n w ⟨by omega, fun _ => by omega⟩ hn).mono ?_
  rintro e w1 ⟨rfl, h1⟩
  go_wp2_with fail
  go_ret
  exact ⟨rfl, h1⟩
theorem own_lits (w : World) (b : Nat) (e : TypeId) (c : Array Value) (n sz : Nat) (hb : b = w.heap.size) (hn : c.size = n * sz) (hm : n ≤ maxLen) : (w.alloc (.cells c e)).ownsRow 0 e sz (.slice (some ⟨b, 0, none⟩) n n) n c.toList := own_one w b e c n sz hb hn hm
theorem dec_one : decS 1 = ⟨#[49]⟩ := by kernel_rfl
theorem dec_zero : decS 0 = ⟨#[48]⟩ := by kernel_rfl
theorem bytesI_inj {a b : List UInt8} (h : bytesI a = bytesI b) : a = b := by
  induction a generalizing b with
  | nil => cases b <;> simp [bytesI] at h ⊢
  | cons x a ih =>
    cases b with
    | nil => simp [bytesI] at h
    | cons y b =>
      simp only [bytesI, List.map_cons, List.cons.injEq] at h
      rw [UInt8.toNat_inj.1 (by omega : x.toNat = y.toNat), ih h.2]
theorem dec_eq (x0 x1 : ByteArray) : decS (if bytesI x0.data.toList = bytesI x1.data.toList then 1 else 0) = if (x0.toList == x1.toList) = true then ⟨#[49]⟩ else ⟨#[48]⟩ := by
  rw [ByteArray.toList_eq, ByteArray.toList_eq]
  by_cases h : x0.data.toList = x1.data.toList
  · rw [if_pos (by rw [h]), if_pos (by rw [h]; exact beq_self_eq_true _)]
    exact dec_one
  · rw [if_neg (fun e => h (bytesI_inj e)), if_neg (fun e => h (eq_of_beq e))]
    exact dec_zero
theorem lex_less : ∀ (a b : List UInt8), lexF (bytesI a) (bytesI b) = Op.bytesLess a b
  | a, [] => by cases a <;> rfl
  | [], y :: b => rfl
  | x :: a, y :: b => by
    show (if (x.toNat : Int) = y.toNat then lexF (bytesI a) (bytesI b) else decide ((x.toNat : Int) < y.toNat)) = (decide (x < y) || (x == y && Op.bytesLess a b))
    rw [lex_less a b]
    by_cases h : x = y
    · subst h
      simp
    · have h1 : ¬ ((x.toNat : Int) = y.toNat) := fun e => h (UInt8.toNat_inj.1 (by omega))
      rw [if_neg h1]
      have h2 : (x == y) = false := by simpa using h
      rw [h2]
      simp [UInt8.lt_iff_toNat_lt]
theorem dec_less (x0 x1 : ByteArray) : decS (yesF (lexF (bytesI x0.data.toList) (bytesI x1.data.toList))) = if Op.bytesLess x0.toList x1.toList = true then ⟨#[49]⟩ else ⟨#[48]⟩ := by
  rw [lex_less, ByteArray.toList_eq, ByteArray.toList_eq]
  cases Op.bytesLess x0.data.toList x1.data.toList
  · exact dec_zero
  · exact dec_one
set_option maxHeartbeats 4000000 in
theorem rtTexts_any (x0 : ByteArray) (hx0 : x0.size ≤ reachBytes) (x1 : ByteArray) (hx1 : x1.size ≤ reachBytes) {w : World} :
    Calls Try.prog 4 #[.string x0, .string x1] w fun e w' => e = .returned (.bool true) ∧ Below w.heap.size w w' := by
  have hm : reachBytes = 140737488351232 := rfl
  rw [hm] at hx0 hx1
  clear hm
  by_cases hbig : 1000 < (x0.size : Int) + x1.size
  · go_enter Try.func4, Try.ntmps4
    go_wp2_with fail
    go_ret
    exact ⟨rfl, Below.refl _ _⟩
  · have hs : (bytesI x0.data.toList).length + (bytesI x1.data.toList).length ≤ 1000 := by rw [bytesI_len, bytesI_len, data_len, data_len]; omega
    have hd : (x0 ++ x1).data.toList = x0.data.toList ++ x1.data.toList := by simp
    have hsz : (x0 ++ x1).size = x0.size + x1.size := by simp
    have Hd := Lib.hid hd
    have Hsz := Lib.hid hsz
    have Hs := Lib.hid hs
    clear hd hsz hs
    go_enter Try.func4, Try.ntmps4
    go_wp2_with fail
    refine (all_any _).mono ?_
    rintro e w1 ⟨g, rfl, hA, hb1⟩
    rw [all_lit] at hA
    have HA := Lib.hid hA
    have HB1 := Lib.hid hb1
    clear hA hb1
    go_wp2_with fail
    refine (wordsOf_any (x0 ++ x1) (by rw [Hsz.out]; omega)).mono ?_
    rintro e w2 ⟨vd, rfl, hvd, hb2⟩
    rw [Hd.out, Hsz.out] at hvd
    have e1 : bytesI (x0.data.toList ++ x1.data.toList) = bytesI x0.data.toList ++ bytesI x1.data.toList := by simp [bytesI]
    rw [e1] at hvd
    have hdI : ∀ x ∈ bytesI x0.data.toList ++ bytesI x1.data.toList, InI x := fun x hx => (List.mem_append.1 hx).elim (bytesI_inI x) (bytesI_inI x)
    have hl0 : (bytesI x0.data.toList).length = x0.size := by rw [bytesI_len, data_len]
    have hl1 : (bytesI x1.data.toList).length = x1.size := by rw [bytesI_len, data_len]
    have hD := ints_own (S := fun _ => True) (w := w2) (v := vd) (l := bytesI x0.data.toList ++ bytesI x1.data.toList) (by rw [List.length_append, hl0, hl1]; exact row_base hvd (Nat.zero_le _)) (fun _ _ => trivial) hdI
    have HDI := Lib.hid hdI
    have HDD := Lib.hid hD
    have HB2 := Lib.hid hb2
    have HL0 := Lib.hid hl0
    have HL1 := Lib.hid hl1
    clear hvd e1 hdI hD hb2 hl0 hl1
    go_wp2_with fail
    have hW3 := new_one w2 (.cells #[.int .i64 0, .int .i64 x0.size, .int .i64 x0.size, .int .i64 x1.size] 3)
    have bW3 : Below w2.heap.size w2 (w2.alloc (.cells #[.int .i64 0, .int .i64 x0.size, .int .i64 x0.size, .int .i64 x1.size] 3)) := (Below.refl _ _).alloc (Nat.le_refl _) _
    generalize w2.alloc (.cells #[.int .i64 0, .int .i64 x0.size, .int .i64 x0.size, .int .i64 x1.size] 3) = w3 at hW3 bW3 ⊢
    have hlit : rInts (fun _ => True) w3 [.slice (some ⟨w2.heap.size, 0, none⟩) 4 4] [0, (x0.size : Int), (x0.size : Int), (x1.size : Int)] := rInts_all [0, (x0.size : Int), (x0.size : Int), (x1.size : Int)] trivial (lens rfl) (fun y hy => by
      simp at hy
      rcases hy with rfl | rfl | rfl <;> exact ini_small (by omega) (by omega)) hW3
    have b23 := HB2.out.trans (bW3.mono HB2.out.size)
    have hA3 := Good.keep (S' := fun _ => True) (Keep.of_below' b23 (fun x hx _ => hx)) (fun _ _ _ => trivial) HA.out
    have hD3 := Good.keep (S' := fun _ => True) (Keep.of_below' bW3 (fun x hx _ => hx)) (fun _ _ _ => trivial) HDD.out
    have b13 := HB1.out.trans (b23.mono HB1.out.size)
    have hld : (bytesI x0.data.toList ++ bytesI x1.data.toList).length ≤ 20000 := by rw [List.length_append]; have := Hs.out; omega
    have hr1 := run_same Hs.out
    have hr2 := run_less Hs.out
    have hr3 := run_cat Hs.out
    rw [HL0.out, HL1.out] at hr1 hr2 hr3
    have HW := Lib.hid (And.intro hA3 (And.intro hlit (And.intro hD3 b13)))
    have HR1 := Lib.hid hr1
    have HR2 := Lib.hid hr2
    have HR3 := Lib.hid hr3
    have HLD := Lib.hid hld
    clear hW3 bW3 hlit b23 hA3 hD3 b13 hr1 hr2 hr3 hld
    refine (tells_any (l := [0, (x0.size : Int), (x0.size : Int), (x1.size : Int)]) (r := 1) (by decide) (by simp) (by decide) HW.out.1 HW.out.2.1 HW.out.2.2.1 (by decide) (by decide) HLD.out (fault_same _ _ _ _ _ HLD.out) (fit_driven _ _ _ _ (by simp) (by decide) HLD.out) HR1.out).mono ?_
    rintro e w4 ⟨v4, rfl, ho4, b4⟩
    obtain ⟨g4, c4, hv4⟩ := row_some ho4
    subst hv4
    have hn4 : rCodes (fun _ => True) w4 [.slice (some ⟨g, 0, none⟩) 10 10] allL := Good.keep (Keep.of_below' b4 (fun x hx _ => hx)) (fun _ _ _ => trivial) HW.out.1
    have hi4 : rInts (fun _ => True) w4 [.slice (some ⟨w2.heap.size, 0, none⟩) 4 4] [0, (x0.size : Int), (x0.size : Int), (x1.size : Int)] := Good.keep (Keep.of_below' b4 (fun x hx _ => hx)) (fun _ _ _ => trivial) HW.out.2.1
    have hj4 := Good.keep (S' := fun _ => True) (Keep.of_below' b4 (fun x hx _ => hx)) (fun _ _ _ => trivial) HW.out.2.2.1
    have hk4 := HW.out.2.2.2.trans (b4.mono HW.out.2.2.2.size)
    have HW4 := Lib.hid (And.intro hn4 (And.intro hi4 (And.intro hj4 hk4)))
    have HO4 := Lib.hid ho4
    have HBB4 := Lib.hid b4
    clear hn4 hi4 hj4 hk4 ho4 b4
    go_wp2_with fail
    refine (tells_any (l := [0, (x0.size : Int), (x0.size : Int), (x1.size : Int)]) (r := 1) (by decide) (by simp) (by decide) HW4.out.1 HW4.out.2.1 HW4.out.2.2.1 (by decide) (by decide) HLD.out (fault_less _ _ _ _ _ HLD.out) (fit_driven _ _ _ _ (by simp) (by decide) HLD.out) HR2.out).mono ?_
    rintro e w5 ⟨v5, rfl, ho5, b5⟩
    obtain ⟨g5, c5, hv5⟩ := row_some ho5
    subst hv5
    have hn5 : rCodes (fun _ => True) w5 [.slice (some ⟨g, 0, none⟩) 10 10] allL := Good.keep (Keep.of_below' b5 (fun x hx _ => hx)) (fun _ _ _ => trivial) HW4.out.1
    have hi5 : rInts (fun _ => True) w5 [.slice (some ⟨w2.heap.size, 0, none⟩) 4 4] [0, (x0.size : Int), (x0.size : Int), (x1.size : Int)] := Good.keep (Keep.of_below' b5 (fun x hx _ => hx)) (fun _ _ _ => trivial) HW4.out.2.1
    have hj5 := Good.keep (S' := fun _ => True) (Keep.of_below' b5 (fun x hx _ => hx)) (fun _ _ _ => trivial) HW4.out.2.2.1
    have hk5 := HW4.out.2.2.2.trans (b5.mono HW4.out.2.2.2.size)
    have HW5 := Lib.hid (And.intro hn5 (And.intro hi5 (And.intro hj5 hk5)))
    have HO5 := Lib.hid ho5
    have HBB5 := Lib.hid b5
    clear hn5 hi5 hj5 hk5 ho5 b5
    go_wp2_with fail
    refine (tells_any (l := [0, (x0.size : Int), (x0.size : Int), (x1.size : Int)]) (r := 2) (by decide) (by simp) (by decide) HW5.out.1 HW5.out.2.1 HW5.out.2.2.1 (by decide) (by decide) HLD.out (fault_cat _ _ _ _ _ HLD.out) (fit_driven _ _ _ _ (by simp) (by decide) HLD.out) HR3.out).mono ?_
    rintro e w6 ⟨v6, rfl, ho6, b6⟩
    obtain ⟨g6, c6, hv6⟩ := row_some ho6
    subst hv6
    have hn6 : rCodes (fun _ => True) w6 [.slice (some ⟨g, 0, none⟩) 10 10] allL := Good.keep (Keep.of_below' b6 (fun x hx _ => hx)) (fun _ _ _ => trivial) HW5.out.1
    have hi6 : rInts (fun _ => True) w6 [.slice (some ⟨w2.heap.size, 0, none⟩) 4 4] [0, (x0.size : Int), (x0.size : Int), (x1.size : Int)] := Good.keep (Keep.of_below' b6 (fun x hx _ => hx)) (fun _ _ _ => trivial) HW5.out.2.1
    have hj6 := Good.keep (S' := fun _ => True) (Keep.of_below' b6 (fun x hx _ => hx)) (fun _ _ _ => trivial) HW5.out.2.2.1
    have hk6 := HW5.out.2.2.2.trans (b6.mono HW5.out.2.2.2.size)
    have HW6 := Lib.hid (And.intro hn6 (And.intro hi6 (And.intro hj6 hk6)))
    have HO6 := Lib.hid ho6
    have HBB6 := Lib.hid b6
    clear hn6 hi6 hj6 hk6 ho6 b6
    have hpq : decS (if bytesI x0.data.toList = bytesI x1.data.toList then 1 else 0) = if (x0.toList == x1.toList) = true then ⟨#[49]⟩ else ⟨#[48]⟩ := dec_eq x0 x1
    have hql : decS (yesF (lexF (bytesI x0.data.toList) (bytesI x1.data.toList))) = if Op.bytesLess x0.toList x1.toList = true then ⟨#[49]⟩ else ⟨#[48]⟩ := dec_less x0 x1
    have ho4 := HO4.out
    have ho5 := HO5.out
    rw [hpq] at ho4
    rw [hql] at ho5
    obtain ⟨g4', c4', e4, -, -, hg4, hc4, -⟩ := row_at ho4 (i := 0) rfl
    obtain ⟨rfl, rfl⟩ : g4 = g4' ∧ c4 = c4' := by simpa using e4
    obtain ⟨g5', c5', e5, -, -, hg5, hc5, -⟩ := row_at ho5 (i := 0) rfl
    obtain ⟨rfl, rfl⟩ : g5 = g5' ∧ c5 = c5' := by simpa using e5
    clear hpq hql ho4 ho5 e4 e5
    have hs5 := HBB5.out.size
    have hs6 := HBB6.out.size
    have hc4' : w6.cell? ⟨g4, 0, none⟩ = _ := ((HBB5.out.trans (HBB6.out.mono hs5)).cell (p := ⟨g4, 0, none⟩) hg4).trans hc4
    have hc5' : w6.cell? ⟨g5, 0, none⟩ = _ := (HBB6.out.cell (p := ⟨g5, 0, none⟩) hg5).trans hc5
    clear hc4 hc5
    have hw : IntKind.i64.wrap ((x0.size : Int) + x1.size) = (x0.size : Int) + x1.size := IntWalk.i64_in _ (by omega)
    have hn2 : InI ((x0.size : Int) + x1.size) := ini_small (by omega) (by omega)
    have hn3 : ((x0.size + x1.size : Nat) : Int) = (x0.size : Int) + x1.size := Int.natCast_add _ _
    have ho6 := HO6.out
    rw [hn3] at ho6
    have HO6' := Lib.hid ho6
    clear hn3 ho6
    cases hp : (x0.toList == x1.toList) <;> cases hq : Op.bytesLess x0.toList x1.toList
    · rw [hp] at hc4'
      rw [hq] at hc5'
      have hx4 : w6.cell? ⟨g4, 0, none⟩ = some (.string ⟨#[48]⟩) := hc4'
      have hx5 : w6.cell? ⟨g5, 0, none⟩ = some (.string ⟨#[48]⟩) := hc5'
      clear hc4' hc5'
      go_wp2_with fail
      have hV := new_one w6 (.cells #[.string ⟨#[48]⟩, .string ⟨#[48]⟩] 9)
      have bV : Below w6.heap.size w6 (w6.alloc (.cells #[.string ⟨#[48]⟩, .string ⟨#[48]⟩] 9)) := (Below.refl _ _).alloc (Nat.le_refl _) _
      generalize w6.alloc (.cells #[.string ⟨#[48]⟩, .string ⟨#[48]⟩] 9) = V at hV bV ⊢
      have hVs : w6.heap.size < V.heap.size := (Array.getElem?_eq_some_iff.1 hV).1
      have kp : ∀ w', Below V.heap.size V w' → w'.cell? ⟨g4, 0, none⟩ = some (.string ⟨#[48]⟩) ∧ w'.cell? ⟨g5, 0, none⟩ = some (.string ⟨#[48]⟩) ∧ w'.cell? ⟨w6.heap.size, 0, none⟩ = some (.string ⟨#[48]⟩) ∧ w'.cell? ⟨w6.heap.size, 1, none⟩ = some (.string ⟨#[48]⟩) ∧ Below V.heap.size V w' := fun w' h => ⟨(h.cell (p := ⟨g4, 0, none⟩) (by show g4 < _; omega)).trans ((bV.cell (p := ⟨g4, 0, none⟩) (by show g4 < _; omega)).trans hx4), (h.cell (p := ⟨g5, 0, none⟩) (by show g5 < _; omega)).trans ((bV.cell (p := ⟨g5, 0, none⟩) (by show g5 < _; omega)).trans hx5), (h.cell (p := ⟨w6.heap.size, 0, none⟩) hVs).trans (by simp [World.cell?, hV]), (h.cell (p := ⟨w6.heap.size, 1, none⟩) hVs).trans (by simp [World.cell?, hV]), h⟩
      have HV := Lib.hid bV
      have HX := Lib.hid (And.intro hx4 hx5)
      clear hV bV hx4 hx5
      go_region_held3 (fun w' => w'.cell? ⟨g4, 0, none⟩ = some (.string ⟨#[48]⟩) ∧ w'.cell? ⟨g5, 0, none⟩ = some (.string ⟨#[48]⟩) ∧ w'.cell? ⟨w6.heap.size, 0, none⟩ = some (.string ⟨#[48]⟩) ∧ w'.cell? ⟨w6.heap.size, 1, none⟩ = some (.string ⟨#[48]⟩) ∧ Below V.heap.size V w')
        (first | exact kp _ (Drawn.below (Drawn.drew V) _) | exact kp _ q2 | exact kp _ q3 | exact kp _ (q3.alloc q3.size _) | exact kp _ q6)
        (first | (go_at_call 13; (refine (Dec_any _ hn2 V.drew).mono ?_); rintro e u1 ⟨rfl, q1⟩; have q2 : Below V.heap.size V u1 := (Drawn.below (Drawn.drew V) _).trans q1; clear q1) | (go_at_call 13; (refine (Dec_any _ hn2 u1).mono ?_); rintro e u2 ⟨rfl, q1⟩; have q3 : Below V.heap.size V u2 := q2.trans (q1.mono q2.size); clear q1) | (go_at_call 12; (refine (sameTexts_any [decS ((x0.size : Int) + x1.size), decS ((x0.size : Int) + x1.size)] _ _ _ 0 (row_base ((Since.of_below' (HV.out.trans ((q3.alloc q3.size _).mono HV.out.size)) (fun _ => False)).row HO6'.out (fun _ _ f => f)) (Nat.zero_le _)) (own_lits _ _ _ #[.string (decS ((x0.size : Int) + x1.size)), .string (decS ((x0.size : Int) + x1.size))] 2 1 rfl rfl (by decide))).mono ?_); rintro e u3 ⟨rfl, q4⟩; have q5 := q3.alloc q3.size (.cells #[.string (decS ((x0.size : Int) + x1.size)), .string (decS ((x0.size : Int) + x1.size))] 9); have q6 : Below V.heap.size V u3 := q5.trans (q4.mono q5.size)))
      go_wp2_with fail
      go_ret
      have r1 := HW6.out.2.2.2
      have r2 := HV.out.trans (q6.mono HV.out.size)
      exact ⟨rfl, r1.trans (r2.mono r1.size)⟩
    · rw [hp] at hc4'
      rw [hq] at hc5'
      have hx4 : w6.cell? ⟨g4, 0, none⟩ = some (.string ⟨#[48]⟩) := hc4'
      have hx5 : w6.cell? ⟨g5, 0, none⟩ = some (.string ⟨#[49]⟩) := hc5'
      clear hc4' hc5'
      go_wp2_with fail
      have hV := new_one w6 (.cells #[.string ⟨#[48]⟩, .string ⟨#[49]⟩] 9)
      have bV : Below w6.heap.size w6 (w6.alloc (.cells #[.string ⟨#[48]⟩, .string ⟨#[49]⟩] 9)) := (Below.refl _ _).alloc (Nat.le_refl _) _
      generalize w6.alloc (.cells #[.string ⟨#[48]⟩, .string ⟨#[49]⟩] 9) = V at hV bV ⊢
      have hVs : w6.heap.size < V.heap.size := (Array.getElem?_eq_some_iff.1 hV).1
      have kp : ∀ w', Below V.heap.size V w' → w'.cell? ⟨g4, 0, none⟩ = some (.string ⟨#[48]⟩) ∧ w'.cell? ⟨g5, 0, none⟩ = some (.string ⟨#[49]⟩) ∧ w'.cell? ⟨w6.heap.size, 0, none⟩ = some (.string ⟨#[48]⟩) ∧ w'.cell? ⟨w6.heap.size, 1, none⟩ = some (.string ⟨#[49]⟩) ∧ Below V.heap.size V w' := fun w' h => ⟨(h.cell (p := ⟨g4, 0, none⟩) (by show g4 < _; omega)).trans ((bV.cell (p := ⟨g4, 0, none⟩) (by show g4 < _; omega)).trans hx4), (h.cell (p := ⟨g5, 0, none⟩) (by show g5 < _; omega)).trans ((bV.cell (p := ⟨g5, 0, none⟩) (by show g5 < _; omega)).trans hx5), (h.cell (p := ⟨w6.heap.size, 0, none⟩) hVs).trans (by simp [World.cell?, hV]), (h.cell (p := ⟨w6.heap.size, 1, none⟩) hVs).trans (by simp [World.cell?, hV]), h⟩
      have HV := Lib.hid bV
      have HX := Lib.hid (And.intro hx4 hx5)
      clear hV bV hx4 hx5
      go_region_held3 (fun w' => w'.cell? ⟨g4, 0, none⟩ = some (.string ⟨#[48]⟩) ∧ w'.cell? ⟨g5, 0, none⟩ = some (.string ⟨#[49]⟩) ∧ w'.cell? ⟨w6.heap.size, 0, none⟩ = some (.string ⟨#[48]⟩) ∧ w'.cell? ⟨w6.heap.size, 1, none⟩ = some (.string ⟨#[49]⟩) ∧ Below V.heap.size V w')
        (first | exact kp _ (Drawn.below (Drawn.drew V) _) | exact kp _ q2 | exact kp _ q3 | exact kp _ (q3.alloc q3.size _) | exact kp _ q6)
        (first | (go_at_call 13; (refine (Dec_any _ hn2 V.drew).mono ?_); rintro e u1 ⟨rfl, q1⟩; have q2 : Below V.heap.size V u1 := (Drawn.below (Drawn.drew V) _).trans q1; clear q1) | (go_at_call 13; (refine (Dec_any _ hn2 u1).mono ?_); rintro e u2 ⟨rfl, q1⟩; have q3 : Below V.heap.size V u2 := q2.trans (q1.mono q2.size); clear q1) | (go_at_call 12; (refine (sameTexts_any [decS ((x0.size : Int) + x1.size), decS ((x0.size : Int) + x1.size)] _ _ _ 0 (row_base ((Since.of_below' (HV.out.trans ((q3.alloc q3.size _).mono HV.out.size)) (fun _ => False)).row HO6'.out (fun _ _ f => f)) (Nat.zero_le _)) (own_lits _ _ _ #[.string (decS ((x0.size : Int) + x1.size)), .string (decS ((x0.size : Int) + x1.size))] 2 1 rfl rfl (by decide))).mono ?_); rintro e u3 ⟨rfl, q4⟩; have q5 := q3.alloc q3.size (.cells #[.string (decS ((x0.size : Int) + x1.size)), .string (decS ((x0.size : Int) + x1.size))] 9); have q6 : Below V.heap.size V u3 := q5.trans (q4.mono q5.size)))
      go_wp2_with fail
      go_ret
      have r1 := HW6.out.2.2.2
      have r2 := HV.out.trans (q6.mono HV.out.size)
      exact ⟨rfl, r1.trans (r2.mono r1.size)⟩
    · rw [hp] at hc4'
      rw [hq] at hc5'
      have hx4 : w6.cell? ⟨g4, 0, none⟩ = some (.string ⟨#[49]⟩) := hc4'
      have hx5 : w6.cell? ⟨g5, 0, none⟩ = some (.string ⟨#[48]⟩) := hc5'
      clear hc4' hc5'
      go_wp2_with fail
      have hV := new_one w6 (.cells #[.string ⟨#[49]⟩, .string ⟨#[48]⟩] 9)
      have bV : Below w6.heap.size w6 (w6.alloc (.cells #[.string ⟨#[49]⟩, .string ⟨#[48]⟩] 9)) := (Below.refl _ _).alloc (Nat.le_refl _) _
      generalize w6.alloc (.cells #[.string ⟨#[49]⟩, .string ⟨#[48]⟩] 9) = V at hV bV ⊢
      have hVs : w6.heap.size < V.heap.size := (Array.getElem?_eq_some_iff.1 hV).1
      have kp : ∀ w', Below V.heap.size V w' → w'.cell? ⟨g4, 0, none⟩ = some (.string ⟨#[49]⟩) ∧ w'.cell? ⟨g5, 0, none⟩ = some (.string ⟨#[48]⟩) ∧ w'.cell? ⟨w6.heap.size, 0, none⟩ = some (.string ⟨#[49]⟩) ∧ w'.cell? ⟨w6.heap.size, 1, none⟩ = some (.string ⟨#[48]⟩) ∧ Below V.heap.size V w' := fun w' h => ⟨(h.cell (p := ⟨g4, 0, none⟩) (by show g4 < _; omega)).trans ((bV.cell (p := ⟨g4, 0, none⟩) (by show g4 < _; omega)).trans hx4), (h.cell (p := ⟨g5, 0, none⟩) (by show g5 < _; omega)).trans ((bV.cell (p := ⟨g5, 0, none⟩) (by show g5 < _; omega)).trans hx5), (h.cell (p := ⟨w6.heap.size, 0, none⟩) hVs).trans (by simp [World.cell?, hV]), (h.cell (p := ⟨w6.heap.size, 1, none⟩) hVs).trans (by simp [World.cell?, hV]), h⟩
      have HV := Lib.hid bV
      have HX := Lib.hid (And.intro hx4 hx5)
      clear hV bV hx4 hx5
      go_region_held3 (fun w' => w'.cell? ⟨g4, 0, none⟩ = some (.string ⟨#[49]⟩) ∧ w'.cell? ⟨g5, 0, none⟩ = some (.string ⟨#[48]⟩) ∧ w'.cell? ⟨w6.heap.size, 0, none⟩ = some (.string ⟨#[49]⟩) ∧ w'.cell? ⟨w6.heap.size, 1, none⟩ = some (.string ⟨#[48]⟩) ∧ Below V.heap.size V w')
        (first | exact kp _ (Drawn.below (Drawn.drew V) _) | exact kp _ q2 | exact kp _ q3 | exact kp _ (q3.alloc q3.size _) | exact kp _ q6)
        (first | (go_at_call 13; (refine (Dec_any _ hn2 V.drew).mono ?_); rintro e u1 ⟨rfl, q1⟩; have q2 : Below V.heap.size V u1 := (Drawn.below (Drawn.drew V) _).trans q1; clear q1) | (go_at_call 13; (refine (Dec_any _ hn2 u1).mono ?_); rintro e u2 ⟨rfl, q1⟩; have q3 : Below V.heap.size V u2 := q2.trans (q1.mono q2.size); clear q1) | (go_at_call 12; (refine (sameTexts_any [decS ((x0.size : Int) + x1.size), decS ((x0.size : Int) + x1.size)] _ _ _ 0 (row_base ((Since.of_below' (HV.out.trans ((q3.alloc q3.size _).mono HV.out.size)) (fun _ => False)).row HO6'.out (fun _ _ f => f)) (Nat.zero_le _)) (own_lits _ _ _ #[.string (decS ((x0.size : Int) + x1.size)), .string (decS ((x0.size : Int) + x1.size))] 2 1 rfl rfl (by decide))).mono ?_); rintro e u3 ⟨rfl, q4⟩; have q5 := q3.alloc q3.size (.cells #[.string (decS ((x0.size : Int) + x1.size)), .string (decS ((x0.size : Int) + x1.size))] 9); have q6 : Below V.heap.size V u3 := q5.trans (q4.mono q5.size)))
      go_wp2_with fail
      go_ret
      have r1 := HW6.out.2.2.2
      have r2 := HV.out.trans (q6.mono HV.out.size)
      exact ⟨rfl, r1.trans (r2.mono r1.size)⟩
    · rw [hp] at hc4'
      rw [hq] at hc5'
      have hx4 : w6.cell? ⟨g4, 0, none⟩ = some (.string ⟨#[49]⟩) := hc4'
      have hx5 : w6.cell? ⟨g5, 0, none⟩ = some (.string ⟨#[49]⟩) := hc5'
      clear hc4' hc5'
      go_wp2_with fail
      have hV := new_one w6 (.cells #[.string ⟨#[49]⟩, .string ⟨#[49]⟩] 9)
      have bV : Below w6.heap.size w6 (w6.alloc (.cells #[.string ⟨#[49]⟩, .string ⟨#[49]⟩] 9)) := (Below.refl _ _).alloc (Nat.le_refl _) _
      generalize w6.alloc (.cells #[.string ⟨#[49]⟩, .string ⟨#[49]⟩] 9) = V at hV bV ⊢
      have hVs : w6.heap.size < V.heap.size := (Array.getElem?_eq_some_iff.1 hV).1
      have kp : ∀ w', Below V.heap.size V w' → w'.cell? ⟨g4, 0, none⟩ = some (.string ⟨#[49]⟩) ∧ w'.cell? ⟨g5, 0, none⟩ = some (.string ⟨#[49]⟩) ∧ w'.cell? ⟨w6.heap.size, 0, none⟩ = some (.string ⟨#[49]⟩) ∧ w'.cell? ⟨w6.heap.size, 1, none⟩ = some (.string ⟨#[49]⟩) ∧ Below V.heap.size V w' := fun w' h => ⟨(h.cell (p := ⟨g4, 0, none⟩) (by show g4 < _; omega)).trans ((bV.cell (p := ⟨g4, 0, none⟩) (by show g4 < _; omega)).trans hx4), (h.cell (p := ⟨g5, 0, none⟩) (by show g5 < _; omega)).trans ((bV.cell (p := ⟨g5, 0, none⟩) (by show g5 < _; omega)).trans hx5), (h.cell (p := ⟨w6.heap.size, 0, none⟩) hVs).trans (by simp [World.cell?, hV]), (h.cell (p := ⟨w6.heap.size, 1, none⟩) hVs).trans (by simp [World.cell?, hV]), h⟩
      have HV := Lib.hid bV
      have HX := Lib.hid (And.intro hx4 hx5)
      clear hV bV hx4 hx5
      go_region_held3 (fun w' => w'.cell? ⟨g4, 0, none⟩ = some (.string ⟨#[49]⟩) ∧ w'.cell? ⟨g5, 0, none⟩ = some (.string ⟨#[49]⟩) ∧ w'.cell? ⟨w6.heap.size, 0, none⟩ = some (.string ⟨#[49]⟩) ∧ w'.cell? ⟨w6.heap.size, 1, none⟩ = some (.string ⟨#[49]⟩) ∧ Below V.heap.size V w')
        (first | exact kp _ (Drawn.below (Drawn.drew V) _) | exact kp _ q2 | exact kp _ q3 | exact kp _ (q3.alloc q3.size _) | exact kp _ q6)
        (first | (go_at_call 13; (refine (Dec_any _ hn2 V.drew).mono ?_); rintro e u1 ⟨rfl, q1⟩; have q2 : Below V.heap.size V u1 := (Drawn.below (Drawn.drew V) _).trans q1; clear q1) | (go_at_call 13; (refine (Dec_any _ hn2 u1).mono ?_); rintro e u2 ⟨rfl, q1⟩; have q3 : Below V.heap.size V u2 := q2.trans (q1.mono q2.size); clear q1) | (go_at_call 12; (refine (sameTexts_any [decS ((x0.size : Int) + x1.size), decS ((x0.size : Int) + x1.size)] _ _ _ 0 (row_base ((Since.of_below' (HV.out.trans ((q3.alloc q3.size _).mono HV.out.size)) (fun _ => False)).row HO6'.out (fun _ _ f => f)) (Nat.zero_le _)) (own_lits _ _ _ #[.string (decS ((x0.size : Int) + x1.size)), .string (decS ((x0.size : Int) + x1.size))] 2 1 rfl rfl (by decide))).mono ?_); rintro e u3 ⟨rfl, q4⟩; have q5 := q3.alloc q3.size (.cells #[.string (decS ((x0.size : Int) + x1.size)), .string (decS ((x0.size : Int) + x1.size))] 9); have q6 : Below V.heap.size V u3 := q5.trans (q4.mono q5.size)))
      go_wp2_with fail
      go_ret
      have r1 := HW6.out.2.2.2
      have r2 := HV.out.trans (q6.mono HV.out.size)
      exact ⟨rfl, r1.trans (r2.mono r1.size)⟩
end Go.Proofs.Ytaomlfbcfmmhlaa

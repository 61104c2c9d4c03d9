/-
  Texts joined: Dec Say Run Fits.
-/
import Derived.Test.YtaomlfbcfmmhlaaDoorVA
import Derived.Lib.ItoaLen
import Derived.WalkLawsBesides
import Derived.Laws.IdiomStrings

/-
  The reference's dec: the contract.
-/
namespace Go.Proofs.YtaomlfbcfmmhlaaDoor
open Go.RowKit Go.Pst
set_option linter.unusedVariables false
set_option linter.unusedSimpArgs false

def decS (n : Int) : ByteArray := ⟨(Lib.itoa n).toArray⟩
theorem decS_size (n : Int) (h : InI n) : (decS n).size ≤ 21 := by
  have := Lib.itoa_length_le n h.1 h.2
  show (Lib.itoa n).toArray.size ≤ 21
  simpa using this
theorem decS_small (n : Int) (h0 : 0 ≤ n) (h1 : n < 10) : decS n = ⟨#[UInt8.ofNat (48 + n.toNat)]⟩ := by
  obtain ⟨u, rfl⟩ : ∃ u : Nat, n = (u : Int) := ⟨n.toNat, by omega⟩
  unfold decS
  rw [Lib.itoa_nonneg, Lib.decDigits_one (by omega)]
  rfl
theorem decS_big (n : Int) (h0 : 10 ≤ n) : decS n = decS (n / 10) ++ decS (n % 10) := by
  obtain ⟨u, rfl⟩ : ∃ u : Nat, n = (u : Int) := ⟨n.toNat, by omega⟩
  unfold decS
  rw [show ((u : Int) / 10) = ((u / 10 : Nat) : Int) by omega, show ((u : Int) % 10) = ((u % 10 : Nat) : Int) by omega, Lib.itoa_nonneg, Lib.itoa_nonneg, Lib.itoa_nonneg, ByteArray.mk_append_mk]
  rw [Lib.decDigits, dif_neg (by omega), Lib.decDigits_one (show u % 10 < 10 by omega)]
theorem decS_neg1 (n : Int) (h0 : n < 0) (h1 : -10 < n) : decS n = ⟨#[45]⟩ ++ decS (-n) := by
  obtain ⟨u, rfl⟩ : ∃ u : Nat, n = -(u : Int) := ⟨(-n).toNat, by omega⟩
  unfold decS
  rw [Int.neg_neg, Lib.itoa_neg u (by omega), Lib.itoa_nonneg, ByteArray.mk_append_mk]
  simp
theorem decS_negbig (n : Int) (h0 : n ≤ -10) : decS n = decS (n.tdiv 10) ++ decS (-(n.tmod 10)) := by
  obtain ⟨u, rfl⟩ : ∃ u : Nat, n = -(u : Int) := ⟨(-n).toNat, by omega⟩
  have e1 : (-(u : Int)).tdiv 10 = -((u / 10 : Nat) : Int) := by rw [Int.neg_tdiv]; rfl
  have e2 : -((-(u : Int)).tmod 10) = ((u % 10 : Nat) : Int) := by rw [Int.neg_tmod, Int.neg_neg]; rfl
  unfold decS
  rw [e1, e2, Lib.itoa_neg u (by omega), Lib.itoa_neg (u / 10) (by omega), Lib.itoa_nonneg, ByteArray.mk_append_mk]
  rw [Lib.decDigits, dif_neg (by omega), Lib.decDigits_one (show u % 10 < 10 by omega)]
  simp

theorem digit_conv (n : Int) (h0 : 0 ≤ n) (h1 : n < 10) (w : World) :
    (convert 131 9 (.slice (some ⟨w.heap.size, 0, none⟩) 1 1)).run Tryd.prog (w.alloc (.cells #[.int .u8 (48 + n)] 5)) = .ok (.string (decS n)) (w.alloc (.cells #[.int .u8 (48 + n)] 5)) := by
  rw [decS_small n h0 h1]
  refine run_convert_bytes_back _ _ _ 5 ⟨w.heap.size, 0, none⟩ 1 [UInt8.ofNat (48 + n.toNat)] Tryd.underlying131 Tryd.underlying5 Tryd.underlying9 ?_
  intro j hj
  have : j = 0 := by simpa using hj
  subst this
  rw [show (⟨w.heap.size, 0, none⟩ : Addr).add 0 = ⟨w.heap.size, 0, none⟩ from rfl, World.cell?_alloc_at _ _ _ _ rfl]
  simp
  omega

set_option maxRecDepth 4000 in
set_option maxHeartbeats 1000000 in
theorem dec_any (k : Nat) : ∀ (n : Int) (w : World), 2 * n.natAbs ≤ k ∧ (n < 0 → 2 * n.natAbs + 1 ≤ k) → InI n →
    Calls Tryd.prog 149 #[.int .i64 n] w fun e w' => e = .returned (.string (decS n)) ∧ Below w.heap.size w w' := by
  induction k with
  | zero =>
    intro n w hk hn
    have hz : n = 0 := by omega
    subst hz
    have hc : ∀ w : World, (convert 131 9 (.slice (some ⟨w.heap.size, 0, none⟩) 1 1)).run Tryd.prog (w.alloc (.cells #[.int .u8 48] 5)) = .ok (.string (decS 0)) (w.alloc (.cells #[.int .u8 48] 5)) := digit_conv 0 (by omega) (by omega)
    go_enter Tryd.func149, Tryd.ntmps149
    go_wp2_with fail
    go_ret
    exact ⟨rfl, (Below.refl _ _).alloc (Nat.le_refl _) _⟩
  | succ k ih =>
    intro n w hk hn
    obtain ⟨hn1, hn2⟩ := hn
    by_cases h0 : 0 ≤ n
    · by_cases h10 : n < 10
      · have hc := digit_conv n h0 h10
        go_enter Tryd.func149, Tryd.ntmps149
        go_wp2_with fail
        go_ret
        exact ⟨rfl, (Below.refl _ _).alloc (Nat.le_refl _) _⟩
      · have Hb := Lib.hid (decS_big n (by omega))
        have i1 := Lib.hid (fun w => ih (n / 10) w ⟨by omega, by omega⟩ ⟨by omega, by omega⟩)
        have i2 := Lib.hid (fun w => ih (n % 10) w ⟨by omega, by omega⟩ ⟨by omega, by omega⟩)
        have s1 := decS_size (n / 10) ⟨by omega, by omega⟩
        have s2 := decS_size (n % 10) ⟨by omega, by omega⟩
        have hadd : ∀ w, (Op.stringOp .add (decS (n / 10)) (decS (n % 10))).run Tryd.prog w = .ok (.string (decS (n / 10) ++ decS (n % 10))) w := fun w => run_string_add_sum w _ _ (by omega)
        clear ih
        go_enter Tryd.func149, Tryd.ntmps149
        go_wp2_with fail
        refine (i1.out _).mono ?_
        rintro e w1 ⟨rfl, hb1⟩
        have Hb1 := Lib.hid hb1
        clear hb1 i1
        go_wp2_with fail
        refine (i2.out _).mono ?_
        rintro e w2 ⟨rfl, hb2⟩
        have Hb2 := Lib.hid hb2
        clear hb2 i2
        go_wp2_with fail
        go_ret
        exact ⟨by rw [Hb.out]; rfl, Hb1.out.trans (Hb2.out.mono Hb1.out.size)⟩
    · by_cases h10 : -10 < n
      · have Hb := Lib.hid (decS_neg1 n (by omega) h10)
        have i1 := Lib.hid (fun w => ih (-n) w ⟨by omega, by omega⟩ ⟨by omega, by omega⟩)
        have s1 := decS_size (-n) ⟨by omega, by omega⟩
        have hadd : ∀ w, (Op.stringOp .add ⟨#[45]⟩ (decS (-n))).run Tryd.prog w = .ok (.string (⟨#[45]⟩ ++ decS (-n))) w := fun w => run_string_add_sum w _ _ (by show 1 + _ ≤ _; omega)
        clear ih
        go_enter Tryd.func149, Tryd.ntmps149
        go_wp2_with fail
        refine (i1.out _).mono ?_
        rintro e w1 ⟨rfl, hb1⟩
        have Hb1 := Lib.hid hb1
        clear hb1 i1
        go_wp2_with fail
        go_ret
        exact ⟨by rw [Hb.out]; rfl, Hb1.out⟩
      · have Hb := Lib.hid (decS_negbig n (by omega))
        have q1 : n.tdiv 10 = -((-n) / 10) := by rw [← Int.neg_neg n, Int.neg_tdiv, Int.neg_neg]; rw [Int.tdiv_eq_ediv_of_nonneg (by omega)]
        have q2 : -(n.tmod 10) = (-n) % 10 := by rw [← Int.neg_neg n, Int.neg_tmod, Int.neg_neg, Int.neg_neg]; rw [Int.tmod_eq_emod_of_nonneg (by omega)]
        have b1 : -9223372036854775808 ≤ n.tdiv 10 ∧ n.tdiv 10 ≤ 0 := by rw [q1]; omega
        have b2 : -9 ≤ n.tmod 10 ∧ n.tmod 10 ≤ 0 := by omega
        have i1 := Lib.hid (fun w => ih (n.tdiv 10) w ⟨by rw [q1]; omega, fun _ => by rw [q1]; omega⟩ ⟨by omega, by omega⟩)
        have i2 := Lib.hid (fun w => ih (-(n.tmod 10)) w ⟨by rw [q2]; omega, fun _ => by rw [q2]; omega⟩ ⟨by omega, by omega⟩)
        have s1 := decS_size (n.tdiv 10) ⟨by omega, by omega⟩
        have s2 := decS_size (-(n.tmod 10)) ⟨by omega, by omega⟩
        have hadd : ∀ w, (Op.stringOp .add (decS (n.tdiv 10)) (decS (-(n.tmod 10)))).run Tryd.prog w = .ok (.string (decS (n.tdiv 10) ++ decS (-(n.tmod 10)))) w := fun w => run_string_add_sum w _ _ (by omega)
        have w1 : wrap64 (n.tdiv 10) = n.tdiv 10 := by unfold wrap64; omega
        have w2 : wrap64 (-(n.tmod 10)) = -(n.tmod 10) := by unfold wrap64; omega
        clear ih q1 q2
        go_enter Tryd.func149, Tryd.ntmps149
        go_wp2_with fail
        refine (i1.out _).mono ?_
        rintro e w1 ⟨rfl, hb1⟩
        have Hb1 := Lib.hid hb1
        clear hb1 i1
        go_wp2_with fail
        refine (i2.out _).mono ?_
        rintro e w2 ⟨rfl, hb2⟩
        have Hb2 := Lib.hid hb2
        clear hb2 i2
        go_wp2_with fail
        go_ret
        exact ⟨by rw [Hb.out]; rfl, Hb1.out.trans (Hb2.out.mono Hb1.out.size)⟩
end Go.Proofs.YtaomlfbcfmmhlaaDoor

/-
  The reference's scene.say: the contract.
-/
namespace Go.Proofs.YtaomlfbcfmmhlaaDoor
open Go.RowKit Go.Pst
set_option linter.unusedVariables false
set_option linter.unusedSimpArgs false

def byteF (x : Int) : UInt8 := UInt8.ofNat (x % 256).toNat
def bytesF (l : List Int) : ByteArray := ⟨(l.map byteF).toArray⟩
abbrev sTrue : ByteArray := { data := #[116, 114, 117, 101] }
abbrev sFalse : ByteArray := { data := #[102, 97, 108, 115, 101] }
/-- A line that is told; how it ends the run. -/
def lineF (s : ByteArray) (a b : Int) (words : List Int) : Option ByteArray :=
  if s = sInt then some (decS a) else if s = sBool then some (if a = 0 then sFalse else sTrue)
  else if 0 ≤ b ∧ b ≤ words.length ∧ 0 ≤ a ∧ a ≤ words.length - b then some (bytesF ((words.drop a.toNat).take b.toNat)) else none
def sayF (s : ByteArray) (a b : Int) (words : List Int) (lines : List ByteArray) : Int × List ByteArray :=
  if 2000 ≤ lines.length then (7, lines) else match lineF s a b words with
  | some l => (0, lines ++ [l])
  | none => (2, lines)
def SayPost (base bs : Nat) (vW vL : Value) (words : List Int) (limit : Int) (lines : List ByteArray) (s : ByteArray) (a b : Int) (w : World) (e : Ending) (w' : World) : Prop :=
  ∃ vL', e = .returned (.int .i64 (sayF s a b words lines).1) ∧ SceneAt w' base bs vW vL' words limit (sayF s a b words lines).2 ∧
      Since (fun k => k = bs ∨ vL.ownBlock = some k) w w' ∧ (∀ k, vL'.ownBlock = some k → vL.ownBlock = some k ∨ w.heap.size ≤ k)

theorem SceneAt.pushL {w w1 : World} {base bs : Nat} {vW v' vL : Value} {ws : List Int} {limit : Int} {lines : List ByteArray} {o : Obj} {x : ByteArray} (h : SceneAt w base bs vW vL ws limit lines) (hg : (w.alloc o).grownBy w1 vL.ownBlock)
    (ho : w1.ownsRow base 9 1 v' (lines.length + 1) (lines.map Value.string ++ [.string x])) (hloc : v'.ownBlock = vL.ownBlock ∨ v'.ownBlock = some (w.heap.size + 1)) :
    SceneAt (w1.setCell ⟨bs, 2, none⟩ v') base bs vW v' ws limit (lines ++ [x]) ∧ Since (fun k => k = bs ∨ vL.ownBlock = some k) w (w1.setCell ⟨bs, 2, none⟩ v') ∧ (∀ k, v'.ownBlock = some k → vL.ownBlock = some k ∨ w.heap.size ≤ k) := by
  have hlt := h.lt.2
  have s1 : Since (fun k => vL.ownBlock = some k) w w1 := (Since.alloc _ _ _).trans (Since.grown hg)
  have hnew : ∀ k, v'.ownBlock = some k → vL.ownBlock = some k ∨ w.heap.size ≤ k := by
    intro k hk
    rcases hloc with e | e
    · exact Or.inl (e ▸ hk)
    · right
      rw [e] at hk
      have : w.heap.size + 1 = k := by simpa using hk
      omega
  have hvbs : v'.ownBlock ≠ some bs := by
    intro e
    rcases hnew bs e with h1 | h1
    · exact h.nL h1
    · omega
  have hW : ∀ k, vW.ownBlock = some k → k < w.heap.size := fun k hk => (h.oW.lt k hk).2
  have c2 := (s1.cell (o := 2) hlt h.nL).trans h.c2
  have s2 := Since.setCell w1 ⟨bs, 2, none⟩ v'
  refine ⟨⟨?_, ?_, World.cell?_setCell_same _ _ _ c2, ?_, ?_, ⟨h.lt.1, by simp only [World.size_setCell]; exact Nat.lt_of_lt_of_le hlt s1.size⟩, ?_, ?_, h.nW, hvbs, ?_⟩, ?_, hnew⟩
  · rw [World.cell?_setCell_other (h := by simp)]
    exact (s1.cell hlt h.nL).trans h.c0
  · rw [World.cell?_setCell_other (h := by simp)]
    exact (s1.cell hlt h.nL).trans h.c1
  · rw [World.frozen?_setCell]
    exact (s1.frozen hlt h.nL).trans h.f0
  · rw [World.frozen?_setCell]
    exact (s1.frozen hlt h.nL).trans h.f2
  · exact s2.row (s1.row h.oW (fun k hk hx => h.nWL k hk hx)) (fun k hk e => h.nW (by rw [hk, e]))
  · have := s2.row ho (fun k hk e => hvbs (by rw [hk, e]))
    simpa using this
  · intro k hk hl
    rcases hnew k hl with h1 | h1
    · exact h.nWL k hk h1
    · have := hW k hk
      omega
  · exact (s1.mono (fun k hk => Or.inr hk)).trans (s2.mono (fun k hk => Or.inl hk))

theorem bytesF_size (l : List Int) : (bytesF l).size = l.length := by
  show ((l.map byteF).toArray).size = _
  simp
theorem bytesF_snoc {words : List Int} {a k : Nat} (h : a + k < words.length) : bytesF ((words.drop a).take k) ++ ⟨#[byteF words[a + k]]⟩ = bytesF ((words.drop a).take (k + 1)) := by
  have e : (words.drop a).take (k + 1) = (words.drop a).take k ++ [words[a + k]] := by
    rw [List.take_succ_eq_append_getElem (by simp; omega), List.getElem_drop]
  rw [e]
  unfold bytesF
  rw [ByteArray.mk_append_mk]
  simp
theorem byte_conv (x : Int) (w : World) :
    (convert 131 9 (.slice (some ⟨w.heap.size, 0, none⟩) 1 1)).run Tryd.prog (w.alloc (.cells #[.int .u8 (x % 256)] 5)) = .ok (.string ⟨#[byteF x]⟩) (w.alloc (.cells #[.int .u8 (x % 256)] 5)) := by
  refine run_convert_bytes_back _ _ _ 5 ⟨w.heap.size, 0, none⟩ 1 [byteF x] Tryd.underlying131 Tryd.underlying5 Tryd.underlying9 ?_
  intro j hj
  have : j = 0 := by simpa using hj
  subst this
  rw [show (⟨w.heap.size, 0, none⟩ : Addr).add 0 = ⟨w.heap.size, 0, none⟩ from rfl, World.cell?_alloc_at _ _ _ _ rfl]
  simp [byteF]
  omega

set_option maxRecDepth 4000 in
set_option maxHeartbeats 2000000 in
theorem say_any (base bs : Nat) (vW vL : Value) (words : List Int) (limit : Int) (lines : List ByteArray) (s : ByteArray) (a b : Int) (w : World) (h : SceneAt w base bs vW vL words limit lines) (ha : InI a) (hb : InI b)
    (hw : words.length ≤ 20000) (hl : lines.length ≤ 2000) (hbase : base ≤ w.heap.size) :
    Calls Tryd.prog 112 #[.pointer (some ⟨bs, 0, none⟩), .string s, .int .i64 a, .int .i64 b] w (SayPost base bs vW vL words limit lines s a b w) := by
  obtain ⟨i0, hi, hz0, hz1, hz2⟩ := info_parts info_str
  obtain ⟨aW, cW, rfl, hw1, hw2⟩ := row_slice h.oW
  obtain ⟨aL, cL, rfl, hl1, hl2⟩ := row_slice h.oL
  have hc0 := h.c0
  have hc2 := h.c2
  have hf2 := h.f2
  have H := Lib.hid h
  clear h
  by_cases hfull : 2000 ≤ lines.length
  · have Hr := Lib.hid (show sayF s a b words lines = (7, lines) by unfold sayF; rw [if_pos hfull])
    have hd : decide ((lines.length : Int) ≥ 2000) = true := decide_eq_true (by omega)
    clear hfull
    go_enter Tryd.func112, Tryd.ntmps112
    go_wp2_with fail
    go_ret
    unfold SayPost
    exact ⟨_, by rw [Hr.out]; rfl, by rw [Hr.out]; exact H.out, Since.refl _ _, fun k hk => Or.inl hk⟩
  have hd : decide ((lines.length : Int) ≥ 2000) = false := decide_eq_false (by omega)
  have Hs := Lib.hid (show sayF s a b words lines = match lineF s a b words with
    | some l => (0, lines ++ [l])
    | none => (2, lines) by unfold sayF; rw [if_neg hfull])
  have hl' : lines.length < 2000 := by omega
  clear hfull hl
  by_cases e1 : s = sInt
  · have q1 : (s.toList == [105, 110, 116]) = true := str_eqc (y := sInt) e1
    have Hr := Lib.hid (show sayF s a b words lines = (0, lines ++ [decS a]) by rw [Hs.out]; unfold lineF; rw [if_pos e1])
    clear e1 Hs
    go_enter Tryd.func112, Tryd.ntmps112
    go_wp2_with fail
    refine (dec_any (2 * a.natAbs + 1) a w ⟨by omega, by omega⟩ ha).mono ?_
    rintro e w1 ⟨rfl, hb1⟩
    have s1 : Since (fun _ => False) w w1 := ⟨hb1.os, hb1.tape, hb1.output, hb1.size, fun k hk _ => hb1.block k hk⟩
    --TAIL0
    have h1 := H.out.since s1 id (fun _ _ => id) (fun _ _ => id)
    have k2 := h1.c2
    have f2 := h1.f2
    have hown := h1.oL
    have hlt := h1.lt.2
    have H1 := Lib.hid h1
    have S1 := Lib.hid s1
    clear h1 s1
    go_wp2_with (at_builtin; refine wpList_append_own_at _ rfl _ _ 39 rfl base 9 i0 (.string ByteArray.empty) 1 16 Tryd.underlying39 hi hz0 hz1 hz2 rfl (by decide) _ _ _ rfl (hown.alloc _) ⟨w1.heap.size, 0, none⟩ 1 1 [.string (decS a)] rfl rfl (cell_one_new _ _ _) (by intro u hu; simp at hu; subst hu; rfl) (by unfold maxLen; omega) (by omega) (by have := S1.out.size; simp; omega) ?_)
    intro v' w3 hown' hgrow _ hloc
    obtain ⟨Hq, Hs2, Hn2⟩ := H1.out.pushL hgrow hown' hloc
    obtain ⟨g, cg, rfl⟩ : ∃ g cg, v' = .slice (some ⟨g, 0, none⟩) (lines.length + 1) cg := by
      rcases hown'.2 with ⟨_, h⟩ | ⟨g, cap', _, h, _⟩
      · omega
      · exact ⟨g, cap', h⟩
    have s3 : Since (fun k => (Value.slice aL lines.length cL).ownBlock = some k) w1 w3 := (Since.alloc _ _ _).trans (Since.grown hgrow)
    have j0 := (s3.cell (o := 2) hlt H1.out.nL).trans k2
    have j1 := (s3.frozen (o := 2) hlt H1.out.nL).trans f2
    have HQ := Lib.hid Hq
    have HS2 := Lib.hid Hs2
    have HN2 := Lib.hid Hn2
    clear Hq Hs2 Hn2 s3 hown' hgrow hloc hown k2 f2
    go_wp2_with fail
    go_ret
    unfold SayPost
    exact ⟨_, by rw [Hr.out]; rfl, by rw [Hr.out]; exact HQ.out, (S1.out.mono (fun _ h => h.elim)).trans HS2.out, fun k hk => (HN2.out k hk).imp id (fun h => Nat.le_trans S1.out.size h)⟩
  have q1 : (s.toList == [105, 110, 116]) = false := str_nec (y := sInt) e1
  by_cases e2 : s = sBool
  · have q2 : (s.toList == [98, 111, 111, 108]) = true := str_eqc (y := sBool) e2
    by_cases ha0 : a = 0
    · have z0 : (a == 0) = true := by simpa using ha0
      have Hr := Lib.hid (show sayF s a b words lines = (0, lines ++ [sFalse]) by rw [Hs.out]; unfold lineF; rw [if_neg e1, if_pos e2, if_pos ha0])
      have s1 : Since (fun _ => False) w w := Since.refl _ _
      clear e1 e2 Hs ha0
      go_enter Tryd.func112, Tryd.ntmps112
      have h1 := H.out.since s1 id (fun _ _ => id) (fun _ _ => id)
      have k2 := h1.c2
      have f2 := h1.f2
      have hown := h1.oL
      have hlt := h1.lt.2
      have H1 := Lib.hid h1
      have S1 := Lib.hid s1
      clear h1 s1
      go_wp2_with (at_builtin; refine wpList_append_own_at _ rfl _ _ 39 rfl base 9 i0 (.string ByteArray.empty) 1 16 Tryd.underlying39 hi hz0 hz1 hz2 rfl (by decide) _ _ _ rfl (hown.alloc _) ⟨w.heap.size, 0, none⟩ 1 1 [.string sFalse] rfl rfl (cell_one_new _ _ _) (by intro u hu; simp at hu; subst hu; rfl) (by unfold maxLen; omega) (by omega) (by have := S1.out.size; simp; omega) ?_)
      intro v' w3 hown' hgrow _ hloc
      obtain ⟨Hq, Hs2, Hn2⟩ := H1.out.pushL hgrow hown' hloc
      obtain ⟨g, cg, rfl⟩ : ∃ g cg, v' = .slice (some ⟨g, 0, none⟩) (lines.length + 1) cg := by
        rcases hown'.2 with ⟨_, h⟩ | ⟨g, cap', _, h, _⟩
        · omega
        · exact ⟨g, cap', h⟩
      have s3 : Since (fun k => (Value.slice aL lines.length cL).ownBlock = some k) w w3 := (Since.alloc _ _ _).trans (Since.grown hgrow)
      have j0 := (s3.cell (o := 2) hlt H1.out.nL).trans k2
      have j1 := (s3.frozen (o := 2) hlt H1.out.nL).trans f2
      have HQ := Lib.hid Hq
      have HS2 := Lib.hid Hs2
      have HN2 := Lib.hid Hn2
      clear Hq Hs2 Hn2 s3 hown' hgrow hloc hown k2 f2
      go_wp2_with fail
      go_ret
      unfold SayPost
      exact ⟨_, by rw [Hr.out]; rfl, by rw [Hr.out]; exact HQ.out, (S1.out.mono (fun _ h => h.elim)).trans HS2.out, fun k hk => (HN2.out k hk).imp id (fun h => Nat.le_trans S1.out.size h)⟩
    · have z0 : (a == 0) = false := by simpa using ha0
      have Hr := Lib.hid (show sayF s a b words lines = (0, lines ++ [sTrue]) by rw [Hs.out]; unfold lineF; rw [if_neg e1, if_pos e2, if_neg ha0])
      have s1 : Since (fun _ => False) w w := Since.refl _ _
      clear e1 e2 Hs ha0
      go_enter Tryd.func112, Tryd.ntmps112
      have h1 := H.out.since s1 id (fun _ _ => id) (fun _ _ => id)
      have k2 := h1.c2
      have f2 := h1.f2
      have hown := h1.oL
      have hlt := h1.lt.2
      have H1 := Lib.hid h1
      have S1 := Lib.hid s1
      clear h1 s1
      go_wp2_with (at_builtin; refine wpList_append_own_at _ rfl _ _ 39 rfl base 9 i0 (.string ByteArray.empty) 1 16 Tryd.underlying39 hi hz0 hz1 hz2 rfl (by decide) _ _ _ rfl (hown.alloc _) ⟨w.heap.size, 0, none⟩ 1 1 [.string sTrue] rfl rfl (cell_one_new _ _ _) (by intro u hu; simp at hu; subst hu; rfl) (by unfold maxLen; omega) (by omega) (by have := S1.out.size; simp; omega) ?_)
      intro v' w3 hown' hgrow _ hloc
      obtain ⟨Hq, Hs2, Hn2⟩ := H1.out.pushL hgrow hown' hloc
      obtain ⟨g, cg, rfl⟩ : ∃ g cg, v' = .slice (some ⟨g, 0, none⟩) (lines.length + 1) cg := by
        rcases hown'.2 with ⟨_, h⟩ | ⟨g, cap', _, h, _⟩
        · omega
        · exact ⟨g, cap', h⟩
      have s3 : Since (fun k => (Value.slice aL lines.length cL).ownBlock = some k) w w3 := (Since.alloc _ _ _).trans (Since.grown hgrow)
      have j0 := (s3.cell (o := 2) hlt H1.out.nL).trans k2
      have j1 := (s3.frozen (o := 2) hlt H1.out.nL).trans f2
      have HQ := Lib.hid Hq
      have HS2 := Lib.hid Hs2
      have HN2 := Lib.hid Hn2
      clear Hq Hs2 Hn2 s3 hown' hgrow hloc hown k2 f2
      go_wp2_with fail
      go_ret
      unfold SayPost
      exact ⟨_, by rw [Hr.out]; rfl, by rw [Hr.out]; exact HQ.out, (S1.out.mono (fun _ h => h.elim)).trans HS2.out, fun k hk => (HN2.out k hk).imp id (fun h => Nat.le_trans S1.out.size h)⟩
  have q2 : (s.toList == [98, 111, 111, 108]) = false := str_nec (y := sBool) e2
  by_cases hr : 0 ≤ b ∧ b ≤ words.length ∧ 0 ≤ a ∧ a ≤ words.length - b
  case neg =>
    have Hr := Lib.hid (show sayF s a b words lines = (2, lines) by rw [Hs.out]; unfold lineF; rw [if_neg e1, if_neg e2, if_neg hr])
    clear e1 e2 Hs
    cases hd1 : (decide (0 ≤ b) && decide (b ≤ (words.length : Int))) with
    | false =>
      go_enter Tryd.func112, Tryd.ntmps112
      clear hr
      go_wp2_with (first | (go_at_call 48; refine (refIn_any b _ _ _).mono ?_; rintro e w' ⟨rfl, rfl⟩; rw [hd1]))
      go_ret
      unfold SayPost
      exact ⟨_, by rw [Hr.out]; rfl, by rw [Hr.out]; exact H.out, Since.refl _ _, fun k hk => Or.inl hk⟩
    | true =>
      have hbb : 0 ≤ b ∧ b ≤ words.length := by simpa using hd1
      have hd2 : (decide (0 ≤ a) && decide (a ≤ (words.length : Int) - b)) = false := by
        cases hh : (decide (0 ≤ a) && decide (a ≤ (words.length : Int) - b)) with
        | false => rfl
        | true => exact absurd ⟨hbb.1, hbb.2, by simpa using hh⟩ hr
      obtain ⟨hb0, hb1⟩ := hbb
      clear hr
      go_enter Tryd.func112, Tryd.ntmps112
      go_wp2_with fail
      refine (refIn_any b _ _ _).mono ?_
      rintro e w' ⟨rfl, rfl⟩
      rw [hd1]
      go_wp2_with fail
      refine (refIn_any a _ _ _).mono ?_
      rintro e w' ⟨rfl, rfl⟩
      rw [hd2]
      go_wp2_with fail
      go_ret
      unfold SayPost
      exact ⟨_, by rw [Hr.out]; rfl, by rw [Hr.out]; exact H.out, Since.refl _ _, fun k hk => Or.inl hk⟩
  case pos =>
    obtain ⟨hb0, hb1, ha0, ha1⟩ := hr
    obtain ⟨na, rfl⟩ := Int.eq_ofNat_of_zero_le ha0
    obtain ⟨nb, rfl⟩ := Int.eq_ofNat_of_zero_le hb0
    have Hr := Lib.hid (show sayF s (na : Int) (nb : Int) words lines = (0, lines ++ [bytesF ((words.drop na).take nb)]) by rw [Hs.out]; unfold lineF; rw [if_neg e1, if_neg e2, if_pos ⟨hb0, hb1, ha0, ha1⟩]; rfl)
    clear e1 e2 Hs
    have hd1 : (decide (0 ≤ (nb : Int)) && decide ((nb : Int) ≤ (words.length : Int))) = true := by simp [hb0, hb1]
    have hd2 : (decide (0 ≤ (na : Int)) && decide ((na : Int) ≤ (words.length : Int) - (nb : Int))) = true := by simp [ha0, ha1]
    go_enter Tryd.func112, Tryd.ntmps112
    go_wp2_with fail
    refine (refIn_any (nb : Int) _ _ _).mono ?_
    rintro e w' ⟨rfl, rfl⟩
    rw [hd1]
    go_wp2_with fail
    refine (refIn_any (na : Int) _ _ _).mono ?_
    rintro e w' ⟨rfl, rfl⟩
    rw [hd2]
    go_wp2_with fail
    go_loopw [9, 10] (fun l i wr => ∃ k : Nat, k ≤ nb ∧ i = .int .i64 k ∧ l = .string (bytesF ((words.drop na).take k)) ∧ Since (fun _ => False) w wr) (fun _ i _ => nb - (intOf i).toNat)
    case atStart => exact ⟨0, Nat.zero_le _, rfl, rfl, Since.refl _ _⟩
    case round =>
      obtain ⟨k, hk, rfl, rfl, s1⟩ := hrel
      by_cases hkl : k < nb
      · have hidx : na + k < words.length := by omega
        have h1 := H.out.since s1 id (fun _ _ => id) (fun _ _ => id)
        have k0 := h1.c0
        obtain ⟨g, cg, hv, -, -, -, hcell, -⟩ := row_at h1.oW (i := na + k) (u := .int .i64 words[na + k]) (by simp [hidx])
        obtain ⟨rfl, rfl⟩ : aW = some ⟨g, 0, none⟩ ∧ cW = cg := by simpa using hv
        have Hx := Lib.hid (show bytesF ((words.drop na).take k) ++ ⟨#[byteF words[na + k]]⟩ = bytesF ((words.drop na).take (k + 1)) from bytesF_snoc hidx)
        have hsz := bytesF_size ((words.drop na).take k)
        have hsz2 : ((words.drop na).take k).length ≤ 20000 := by simp; omega
        have S1 := Lib.hid s1
        clear hv h1 s1
        generalize words[na + k] = x at *
        generalize (words.drop na).take k = ws at *
        have hcv := byte_conv x wr
        have hadd := fun w => run_string_add_sum (P := Tryd.prog) w (bytesF ws) ⟨#[byteF x]⟩ (by show _ + 1 ≤ _; omega)
        have hkl1 : (k : Int) < nb := by omega
        have hd3 : decide ((k : Int) < (nb : Int)) = true := decide_eq_true hkl1
        have hin0 : (0 : Int) ≤ (na : Int) + (k : Int) := by omega
        have hin1 : (na : Int) + (k : Int) < words.length := by omega
        have htn : ((na : Int) + (k : Int)).toNat = na + k := by omega
        clear ha hb hidx hd1 hd2 ha0 ha1 hb0 hb1
        go_wp2_with fail
        refine ⟨⟨k + 1, by omega, by simp, by rw [Hx.out], (S1.out.trans (Since.alloc _ _ _)).mono (fun _ h => h)⟩, ?_⟩
        simp only [intOf]
        omega
      · have hke : k = nb := by omega
        subst hke
        have hkl1 : ¬ ((k : Int) < k) := by omega
        have h1 := H.out.since s1 id (fun _ _ => id) (fun _ _ => id)
        have k2 := h1.c2
        have f2 := h1.f2
        have hown := h1.oL
        have hlt := h1.lt.2
        have H1 := Lib.hid h1
        have S1 := Lib.hid s1
        clear h1 s1 hkl hk
        go_wp2_with (at_builtin; refine wpList_append_own_at _ rfl _ _ 39 rfl base 9 i0 (.string ByteArray.empty) 1 16 Tryd.underlying39 hi hz0 hz1 hz2 rfl (by decide) _ _ _ rfl (hown.alloc _) ⟨wr.heap.size, 0, none⟩ 1 1 [.string (bytesF ((words.drop na).take k))] rfl rfl (cell_one_new _ _ _) (by intro u hu; simp at hu; subst hu; rfl) (by unfold maxLen; omega) (by omega) (by have := S1.out.size; simp; omega) ?_)
        intro v' w3 hown' hgrow _ hloc
        obtain ⟨Hq, Hs2, Hn2⟩ := H1.out.pushL hgrow hown' hloc
        obtain ⟨g, cg, rfl⟩ : ∃ g cg, v' = .slice (some ⟨g, 0, none⟩) (lines.length + 1) cg := by
          rcases hown'.2 with ⟨_, h⟩ | ⟨g, cap', _, h, _⟩
          · omega
          · exact ⟨g, cap', h⟩
        have s3 : Since (fun k => (Value.slice aL lines.length cL).ownBlock = some k) wr w3 := (Since.alloc _ _ _).trans (Since.grown hgrow)
        have j0 := (s3.cell (o := 2) hlt H1.out.nL).trans k2
        have j1 := (s3.frozen (o := 2) hlt H1.out.nL).trans f2
        have HQ := Lib.hid Hq
        have HS2 := Lib.hid Hs2
        have HN2 := Lib.hid Hn2
        clear Hq Hs2 Hn2 s3 hown' hgrow hloc hown k2 f2
        go_wp2_with fail
        go_ret
        unfold SayPost
        exact ⟨_, by rw [Hr.out]; rfl, by rw [Hr.out]; exact HQ.out, (S1.out.mono (fun _ h => h.elim)).trans HS2.out, fun k hk => (HN2.out k hk).imp id (fun h => Nat.le_trans S1.out.size h)⟩
end Go.Proofs.YtaomlfbcfmmhlaaDoor

/-
  A run of code, as plain functions (P3.4 .. P3.8, P7.3), and what code that may be guarantees of it. No program in sight.
-/
namespace Go.Proofs.YtaomlfbcfmmhlaaDoor
open Go.RowKit Go.Pst
set_option linter.unusedVariables false
set_option linter.unusedSimpArgs false

/-- A call under way. -/
structure Lev where
  fn : Nat
  vars : List Int
  slots : List Int
  block : Nat
  at_ : Nat
  want : List Int
instance : Inhabited Lev := ⟨⟨0, [], [], 0, 0, []⟩⟩
/-- The state of a run: the innermost call first. -/
structure Mach where
  words : List Int
  lines : List ByteArray
  frames : List Lev

def codeAt (p : PProg) (k : Nat) : PCode := p.funcs.getD k default
def instrAt (p : PProg) (f : Lev) : PInstr := ((codeAt p f.fn).blocks.getD f.block []).getD f.at_ default
def getI (l : List Int) (k : Int) : Int := l.getD k.toNat 0
def Lev.src (f : Lev) (m : Bool) (i : PInstr) : List Int := if m = true ∧ (i.op = 7 ∨ i.op = 12) then f.slots else f.vars
def argsF (m : Bool) (f : Lev) (i : PInstr) : List Int := if i.op = 21 then [] else i.ars.map (getI (f.src m i))
def Lev.setV (f : Lev) (i : PInstr) (v : Int) : Lev := { f with vars := f.vars.set (getI i.ds 0).toNat v }
def Lev.goto (f : Lev) (t : Int) : Lev := { f with block := t.toNat, at_ := 0 }
def putAll (l : List Int) : List Int → List Int → List Int
  | d :: ds, v :: vs => putAll (l.set d.toNat v) ds vs
  | _, _ => l
/-- A new call of a function. -/
def newLev (p : PProg) (m : Bool) (k : Nat) (xs : List Int) (want : List Int) : Lev :=
  let c := codeAt p k
  let vs := List.replicate c.vars.toNat (0 : Int)
  let ss := List.replicate c.slots.toNat (0 : Int)
  ⟨k, if m then vs else xs ++ vs.drop xs.length, if m then xs ++ ss.drop xs.length else ss, 0, 0, want⟩
def Lev.put (g : Lev) (m : Bool) (want xs : List Int) : Lev := if m then { g with slots := putAll g.slots want xs } else { g with vars := putAll g.vars want xs }

def stepF (p : PProg) (m : Bool) (limit : Int) (s : Mach) : Int × Mach :=
  match s.frames with
  | [] => (1, s)
  | f0 :: r =>
    let i := instrAt p f0
    let xs := argsF m f0 i
    let f := { f0 with at_ := f0.at_ + 1 }
    let a := getI xs 0
    let b := getI xs 1
    if i.op = 1 then (0, { s with frames := f.setV i i.n :: r })
    else if i.op = 2 then (0, { s with frames := f.setV i a :: r })
    else if i.op = 21 then (0, { s with frames := f.setV i (getI f.slots i.n) :: r })
    else if i.op = 22 then (0, { s with frames := { f with slots := f.slots.set i.n.toNat a } :: r })
    else if i.op = 3 then
      if (sumF i.s a b).2 = 0 then (0, { s with frames := f.setV i (sumF i.s a b).1 :: r }) else ((sumF i.s a b).2, { s with frames := f :: r })
    else if i.op = 4 then
      if placeF a i.n s.words.length < 0 then (2, { s with frames := f :: r }) else (0, { s with frames := f.setV i (getI s.words (placeF a i.n s.words.length)) :: r })
    else if i.op = 5 then
      if placeF a i.n s.words.length < 0 then (2, { s with frames := f :: r }) else (0, { s with words := s.words.set (placeF a i.n s.words.length).toNat b, frames := f :: r })
    else if i.op = 6 then
      if (takeF a limit s.words).1 = -1 then (5, { s with frames := f :: r }) else if (takeF a limit s.words).1 = -2 then (2, { s with frames := f :: r })
      else (0, { s with words := (takeF a limit s.words).2, frames := f.setV i (takeF a limit s.words).1 :: r })
    else if i.op = 8 then ((sayF i.s a (getI xs (xs.length - 1)) s.words s.lines).1, { s with lines := (sayF i.s a (getI xs (xs.length - 1)) s.words s.lines).2, frames := f :: r })
    else if i.op = 9 then (0, { s with frames := f.goto (getI i.to 0) :: r })
    else if i.op = 10 then (0, { s with frames := f.goto (getI i.to (yesF (a == 0))) :: r })
    else if i.op = 11 then (0, { s with frames := f.goto (if 0 ≤ a ∧ a ≤ i.to.length - 1 then getI i.to a else getI i.to (i.to.length - 1)) :: r })
    else if i.op = 7 then
      if 40 ≤ s.frames.length then (4, { s with frames := f :: r }) else (0, { s with frames := newLev p m (nameAt i.s p.funcs).toNat xs i.ds :: f :: r })
    else if i.op = 12 then
      match r with
      | [] => (1, { s with frames := [] })
      | g :: r' => (0, { s with frames := g.put m f.want xs :: r' })
    else (i.n, { s with frames := f :: r })

def runF (p : PProg) (m : Bool) (limit : Int) : Nat → Mach → Int × List ByteArray
  | 0, s => (6, s.lines)
  | n + 1, s => if (stepF p m limit s).1 = 0 then runF p m limit n (stepF p m limit s).2 else ((stepF p m limit s).1, (stepF p m limit s).2.lines)
def startF (p : PProg) : Mach := ⟨p.data, [], [⟨0, List.replicate (codeAt p 0).vars.toNat 0, List.replicate (codeAt p 0).slots.toNat 0, 0, 0, []⟩]⟩

/-! What code that may be guarantees. -/
def Ins (l : List Int) (n : Nat) : Prop := ∀ x ∈ l, 0 ≤ x ∧ x < n
theorem Ins.of_inAll {l : List Int} {n : Int} (h : inAll l n = true) : Ins l n.toNat := by
  intro x hx
  have := List.all_eq_true.1 h x hx
  simp at this
  omega
/-- An instruction of a function with so many variables, slots, results, blocks. -/
def InstrOK (fs : List PCode) (m : Bool) (nv ns : Nat) (results : Int) (nb : Nat) (i : PInstr) : Prop :=
  (i.op = 1 ∧ ∃ d : Nat, i.ds = [(d : Int)] ∧ d < nv ∧ i.ars = []) ∨
  (i.op = 2 ∧ ∃ d a : Nat, i.ds = [(d : Int)] ∧ d < nv ∧ i.ars = [(a : Int)] ∧ a < nv) ∨
  (i.op = 3 ∧ i.s ∈ mathsF ∧ ∃ d a b : Nat, i.ds = [(d : Int)] ∧ d < nv ∧ i.ars = [(a : Int), (b : Int)] ∧ a < nv ∧ b < nv) ∨
  (i.op = 4 ∧ ∃ d a : Nat, i.ds = [(d : Int)] ∧ d < nv ∧ i.ars = [(a : Int)] ∧ a < nv) ∨
  (i.op = 5 ∧ ∃ a b : Nat, i.ars = [(a : Int), (b : Int)] ∧ a < nv ∧ b < nv) ∨
  (i.op = 6 ∧ ∃ d a : Nat, i.ds = [(d : Int)] ∧ d < nv ∧ i.ars = [(a : Int)] ∧ a < nv) ∨
  (i.op = 7 ∧ ∃ (k : Nat) (g : PCode), nameAt i.s fs = k ∧ fs[k]? = some g ∧ (i.ars.length : Int) = g.params ∧ (i.ds.length : Int) = g.results ∧ Ins i.ars (if m then ns else nv) ∧ Ins i.ds (if m then ns else nv)) ∨
  (i.op = 8 ∧ ((i.s = sText ∧ ∃ a b : Nat, i.ars = [(a : Int), (b : Int)] ∧ a < nv ∧ b < nv) ∨ ((i.s = sInt ∨ i.s = sBool) ∧ ∃ a : Nat, i.ars = [(a : Int)] ∧ a < nv))) ∨
  (i.op = 9 ∧ i.ars = [] ∧ ∃ t : Nat, i.to = [(t : Int)] ∧ t < nb) ∨
  (i.op = 10 ∧ ∃ a t u : Nat, i.ars = [(a : Int)] ∧ a < nv ∧ i.to = [(t : Int), (u : Int)] ∧ t < nb ∧ u < nb) ∨
  (i.op = 11 ∧ (∃ a : Nat, i.ars = [(a : Int)] ∧ a < nv) ∧ 0 < i.to.length ∧ Ins i.to nb) ∨
  (i.op = 12 ∧ (i.ars.length : Int) = results ∧ Ins i.ars (if m then ns else nv)) ∨
  (i.op = 13 ∧ i.ars = [] ∧ 2 ≤ i.n ∧ i.n ≤ 5) ∨
  (m = true ∧ i.op = 21 ∧ i.ars = [] ∧ ∃ d n : Nat, i.ds = [(d : Int)] ∧ d < nv ∧ i.n = n ∧ n < ns) ∨
  (m = true ∧ i.op = 22 ∧ ∃ a n : Nat, i.ars = [(a : Int)] ∧ a < nv ∧ i.n = n ∧ n < ns)

theorem one_of {l : List Int} {n : Nat} (h : l.length = 1) (hi : Ins l n) : ∃ d : Nat, l = [(d : Int)] ∧ d < n := by
  match l, h with
  | [x], _ =>
    have := hi x (by simp)
    exact ⟨x.toNat, by simp; omega, by omega⟩
theorem two_of {l : List Int} {n : Nat} (h : l.length = 2) (hi : Ins l n) : ∃ d e : Nat, l = [(d : Int), (e : Int)] ∧ d < n ∧ e < n := by
  match l, h with
  | [x, y], _ =>
    have := hi x (by simp)
    have := hi y (by simp)
    exact ⟨x.toNat, y.toNat, by simp; omega, by omega, by omega⟩
theorem none_of {l : List Int} (h : l.length = 0) : l = [] := List.length_eq_zero_iff.1 h

theorem ar3 {a b c a' b' c' : Nat} (h : some (a, b, c) = some (a', b', c')) : a' = a ∧ b' = b ∧ c' = c := by
  have := Option.some.inj h
  simp at this
  exact ⟨this.1.symm, this.2.1.symm, this.2.2.symm⟩
theorem instrFaultF_ok {fs : List PCode} {m : Bool} {nv ns : Nat} {vars results : Int} {nb : Nat} {i : PInstr} (hv : vars.toNat = if m = true ∧ (i.op = 7 ∨ i.op = 12) then ns else nv) (h : instrFaultF fs vars results nb i = 0) :
    InstrOK fs m nv ns results nb i := by
  unfold instrFaultF at h
  split at h
  · omega
  rename_i d a t har
  split at h
  · omega
  rename_i hn
  obtain ⟨hd, ha, ht⟩ : i.ds.length = d ∧ i.ars.length = a ∧ i.to.length = t := by
    refine ⟨?_, ?_, ?_⟩ <;> · apply Decidable.byContradiction; intro hh; exact hn (by simp [hh])
  subst hd ha ht
  split at h
  · omega
  rename_i hr
  have hr' : (inAll i.ds vars && inAll i.ars vars && inAll i.to nb) = true := by cases hx : (inAll i.ds vars && inAll i.ars vars && inAll i.to nb) <;> first | rfl | exact absurd hx hr
  rw [Bool.and_eq_true, Bool.and_eq_true] at hr'
  obtain ⟨⟨r1, r2⟩, r3⟩ := hr'
  have r1 := Ins.of_inAll r1
  have r2 := Ins.of_inAll r2
  have r3 := Ins.of_inAll r3
  rw [hv] at r1 r2
  rw [Int.toNat_natCast] at r3
  clear hn hr hv
  unfold InstrOK
  unfold arity at har
  by_cases e1 : i.op = 1
  · rw [if_pos e1] at har
    rw [if_neg (by omega)] at r1 r2
    have har := ar3 har
    obtain ⟨d, hd, hd'⟩ := one_of har.1 r1
    exact Or.inl ⟨e1, d, hd, hd', none_of har.2.1⟩
  rw [if_neg e1] at har
  by_cases e2 : i.op = 2 ∨ i.op = 4 ∨ i.op = 6
  · rw [if_pos e2] at har
    rw [if_neg (by omega)] at r1 r2
    have har := ar3 har
    obtain ⟨d, hd, hd'⟩ := one_of har.1 r1
    obtain ⟨a, ha, ha'⟩ := one_of har.2.1 r2
    rcases e2 with e | e | e
    · exact Or.inr (Or.inl ⟨e, d, a, hd, hd', ha, ha'⟩)
    · exact Or.inr (Or.inr (Or.inr (Or.inl ⟨e, d, a, hd, hd', ha, ha'⟩)))
    · exact Or.inr (Or.inr (Or.inr (Or.inr (Or.inr (Or.inl ⟨e, d, a, hd, hd', ha, ha'⟩)))))
  rw [if_neg e2] at har
  by_cases e3 : i.op = 3
  · rw [if_pos e3] at har
    rw [if_neg (by omega)] at r1 r2
    rw [if_pos e3] at h
    have har := ar3 har
    obtain ⟨d, hd, hd'⟩ := one_of har.1 r1
    obtain ⟨a, b, ha, ha', hb'⟩ := two_of har.2.1 r2
    have hs : i.s ∈ mathsF := by
      apply Decidable.byContradiction
      intro hh
      rw [if_neg hh] at h
      omega
    exact Or.inr (Or.inr (Or.inl ⟨e3, hs, d, a, b, hd, hd', ha, ha', hb'⟩))
  rw [if_neg e3] at har
  rw [if_neg e3] at h
  by_cases e5 : i.op = 5
  · rw [if_pos e5] at har
    rw [if_neg (by omega)] at r1 r2
    have har := ar3 har
    obtain ⟨a, b, ha, ha', hb'⟩ := two_of har.2.1 r2
    exact Or.inr (Or.inr (Or.inr (Or.inr (Or.inl ⟨e5, a, b, ha, ha', hb'⟩))))
  rw [if_neg e5] at har
  by_cases e7 : i.op = 7
  · rw [if_neg (by omega), if_neg (by omega), if_neg (by omega), if_pos e7] at h
    unfold invokeFaultF at h
    split at h
    · omega
    rename_i hk
    split at h
    · omega
    rename_i g hg
    split at h
    · omega
    rename_i hne
    refine Or.inr (Or.inr (Or.inr (Or.inr (Or.inr (Or.inr (Or.inl ⟨e7, (nameAt i.s fs).toNat, g, by omega, hg, ?_, ?_, ?_, ?_⟩))))))
    · apply Decidable.byContradiction; intro hh; exact hne (Or.inl hh)
    · apply Decidable.byContradiction; intro hh; exact hne (Or.inr hh)
    · simpa [e7] using r2
    · simpa [e7] using r1
  rw [if_neg e7] at har
  by_cases e8 : i.op = 8
  · rw [if_neg (by omega)] at r1 r2
    rw [if_pos e8] at h
    refine Or.inr (Or.inr (Or.inr (Or.inr (Or.inr (Or.inr (Or.inr (Or.inl ⟨e8, ?_⟩)))))))
    by_cases s1 : i.s = sText
    · rw [if_pos s1] at h
      have h2 : i.ars.length = 2 := by apply Decidable.byContradiction; intro hh; rw [if_neg hh] at h; omega
      obtain ⟨a, b, ha, ha', hb'⟩ := two_of h2 r2
      exact Or.inl ⟨s1, a, b, ha, ha', hb'⟩
    · rw [if_neg s1] at h
      by_cases s2 : i.s = sInt ∨ i.s = sBool
      · rw [if_pos s2] at h
        have h2 : i.ars.length = 1 := by apply Decidable.byContradiction; intro hh; rw [if_neg hh] at h; omega
        obtain ⟨a, ha, ha'⟩ := one_of h2 r2
        exact Or.inr ⟨s2, a, ha, ha'⟩
      · rw [if_neg s2] at h
        omega
  rw [if_neg e8] at h
  by_cases e12 : i.op = 12
  · rw [if_pos e12] at h
    refine Or.inr (Or.inr (Or.inr (Or.inr (Or.inr (Or.inr (Or.inr (Or.inr (Or.inr (Or.inr (Or.inr (Or.inl ⟨e12, ?_, ?_⟩)))))))))))
    · apply Decidable.byContradiction; intro hh; rw [if_neg hh] at h; omega
    · simpa [e12] using r2
  rw [if_neg e12] at h
  rw [if_neg (by omega)] at har
  rw [if_neg (by omega)] at r1 r2
  by_cases e9 : i.op = 9
  · rw [if_pos e9] at har
    have har := ar3 har
    obtain ⟨t, ht, ht'⟩ := one_of har.2.2 r3
    exact Or.inr (Or.inr (Or.inr (Or.inr (Or.inr (Or.inr (Or.inr (Or.inr (Or.inl ⟨e9, none_of har.2.1, t, ht, ht'⟩))))))))
  rw [if_neg e9] at har
  by_cases e10 : i.op = 10
  · rw [if_pos e10] at har
    have har := ar3 har
    obtain ⟨a, ha, ha'⟩ := one_of har.2.1 r2
    obtain ⟨t, u, ht, ht', hu'⟩ := two_of har.2.2 r3
    exact Or.inr (Or.inr (Or.inr (Or.inr (Or.inr (Or.inr (Or.inr (Or.inr (Or.inr (Or.inl ⟨e10, a, t, u, ha, ha', ht, ht', hu'⟩)))))))))
  rw [if_neg e10] at har
  by_cases e11 : i.op = 11
  · rw [if_pos e11] at har
    have h1 : i.ars.length = 1 := by have := Option.some.inj har; simp at this; exact this.2.1.symm
    have h2 : 0 < i.to.length := by
      apply Decidable.byContradiction
      intro h0
      have h0 : i.to.length = 0 := by omega
      rw [if_pos h0] at har
      have := (ar3 har).2.2
      omega
    obtain ⟨a, ha, ha'⟩ := one_of h1 r2
    exact Or.inr (Or.inr (Or.inr (Or.inr (Or.inr (Or.inr (Or.inr (Or.inr (Or.inr (Or.inr (Or.inl ⟨e11, ⟨a, ha, ha'⟩, h2, r3⟩))))))))))
  rw [if_neg e11] at har
  by_cases e13 : i.op = 13
  · rw [if_pos e13] at har h
    have har := ar3 har
    have hn : 2 ≤ i.n ∧ i.n ≤ 5 := by apply Decidable.byContradiction; intro hh; rw [if_neg hh] at h; omega
    exact Or.inr (Or.inr (Or.inr (Or.inr (Or.inr (Or.inr (Or.inr (Or.inr (Or.inr (Or.inr (Or.inr (Or.inr (Or.inl ⟨e13, none_of har.2.1, hn⟩))))))))))))
  rw [if_neg e13] at har
  exact absurd har (by simp)

theorem machineInstrFaultF_ok {fs : List PCode} {vars slots results : Int} {nb : Nat} {i : PInstr} (h : machineInstrFaultF fs vars slots results nb i = 0) :
    InstrOK fs true vars.toNat slots.toNat results nb i := by
  unfold machineInstrFaultF at h
  by_cases hop : i.op = 21 ∨ i.op = 22
  · rw [if_pos hop] at h
    by_cases hn : i.ds.length ≠ (if i.op = 22 then 0 else 1) ∨ i.ars.length ≠ (if i.op = 22 then 1 else 0) ∨ i.to.length ≠ 0
    · rw [if_pos hn] at h; omega
    rw [if_neg hn] at h
    cases hr : (inAll i.ds vars && inAll i.ars vars && decide (0 ≤ i.n) && decide (i.n ≤ slots - 1)) with
    | false => rw [if_pos hr] at h; omega
    | true =>
    rw [Bool.and_eq_true, Bool.and_eq_true, Bool.and_eq_true] at hr
    obtain ⟨⟨⟨r1, r2⟩, r3⟩, r4⟩ := hr
    have r1 := Ins.of_inAll r1
    have r2 := Ins.of_inAll r2
    have r3 := of_decide_eq_true r3
    have r4 := of_decide_eq_true r4
    unfold InstrOK
    rcases hop with e | e
    · rw [if_neg (by omega), if_neg (by omega)] at hn
      have h1 : i.ds.length = 1 := by omega
      have h2 : i.ars.length = 0 := by omega
      obtain ⟨d, hd, hd'⟩ := one_of h1 r1
      exact Or.inr (Or.inr (Or.inr (Or.inr (Or.inr (Or.inr (Or.inr (Or.inr (Or.inr (Or.inr (Or.inr (Or.inr (Or.inr (Or.inl ⟨rfl, e, none_of h2, d, i.n.toNat, hd, hd', by omega, by omega⟩)))))))))))))
    · rw [if_pos e, if_pos e] at hn
      have h2 : i.ars.length = 1 := by omega
      obtain ⟨a, ha, ha'⟩ := one_of h2 r2
      exact Or.inr (Or.inr (Or.inr (Or.inr (Or.inr (Or.inr (Or.inr (Or.inr (Or.inr (Or.inr (Or.inr (Or.inr (Or.inr (Or.inr ⟨rfl, e, a, i.n.toNat, ha, ha', by omega, by omega⟩)))))))))))))
  · rw [if_neg hop] at h
    exact instrFaultF_ok (by by_cases h7 : i.op = 7 ∨ i.op = 12 <;> simp [h7]) h

theorem blockF_ok {g : PInstr → Int} : ∀ {b : List PInstr}, blockF g b = 0 → ∀ j (h : j < b.length), g b[j] = 0 ∧ (closesF b[j].op = true ↔ j + 1 = b.length)
  | [], _, j, h => absurd h (by simp)
  | i :: r, hb, j, h => by
    unfold blockF at hb
    split at hb
    · rename_i hn; exact absurd hb hn
    rename_i hg
    split at hb
    · omega
    rename_i hc
    rcases j with _ | j
    · refine ⟨by simpa using hg, ?_⟩
      have : closesF i.op = r.isEmpty := by simpa using hc
      simp only [List.getElem_cons_zero, this, List.isEmpty_iff, List.length_cons]
      rw [← List.length_eq_zero_iff]
      omega
    · have := blockF_ok hb j (by simpa using h)
      simpa using this
theorem blocksF_ok {g : PInstr → Int} {most : Nat} : ∀ {l : List (List PInstr)} {all : Nat}, blocksF g most l all = 0 → ∀ b ∈ l, b.length ≠ 0 ∧ all + b.length ≤ most ∧ blockF g b = 0
  | [], _, _, b, hb => absurd hb (by simp)
  | x :: r, all, h, b, hb => by
    unfold blocksF at h
    split at h
    · omega
    split at h
    · omega
    split at h
    · rename_i hn; exact absurd h hn
    rename_i h1 h2 h3
    rcases List.mem_cons.1 hb with rfl | hb
    · exact ⟨h1, by omega, by simpa using h3⟩
    · have := blocksF_ok h b hb
      exact ⟨this.1, by omega, this.2.2⟩

structure CodeOK (fs : List PCode) (m : Bool) (c : PCode) : Prop where
  nb : 0 < c.blocks.length ∧ c.blocks.length ≤ 2000
  small : 0 ≤ c.vars ∧ c.vars ≤ 3000 ∧ 0 ≤ c.slots ∧ c.slots ≤ 3000
  pars : 0 ≤ c.params ∧ c.params ≤ 16 ∧ 0 ≤ c.results ∧ c.results ≤ 16
  room : c.params ≤ if m then c.slots else c.vars
  blk : ∀ b ∈ c.blocks, b.length ≠ 0 ∧ b.length ≤ 36000 ∧ ∀ j (h : j < b.length), InstrOK fs m c.vars.toNat c.slots.toNat c.results c.blocks.length b[j] ∧ (closesF b[j].op = true ↔ j + 1 = b.length)
theorem codeFaultF_ok {fs : List PCode} {c : PCode} (h : codeFaultF fs c = 0) : CodeOK fs false c := by
  unfold codeFaultF at h
  split at h
  · omega
  split at h
  · omega
  split at h
  · omega
  rename_i h1 h2 h3
  refine ⟨by omega, by omega, by omega, by simp; omega, fun b hb => ?_⟩
  obtain ⟨k1, k2, k3⟩ := blocksF_ok h b hb
  refine ⟨k1, by omega, fun j hj => ?_⟩
  obtain ⟨k4, k5⟩ := blockF_ok k3 j hj
  exact ⟨instrFaultF_ok (by simp) k4, k5⟩
theorem machineCodeFaultF_ok {fs : List PCode} {c : PCode} (h : machineCodeFaultF fs c = 0) : CodeOK fs true c := by
  unfold machineCodeFaultF at h
  split at h
  · omega
  split at h
  · omega
  split at h
  · omega
  rename_i h1 h2 h3
  refine ⟨by omega, by omega, by omega, by simp; omega, fun b hb => ?_⟩
  obtain ⟨k1, k2, k3⟩ := blocksF_ok h b hb
  refine ⟨k1, by omega, fun j hj => ?_⟩
  obtain ⟨k4, k5⟩ := blockF_ok k3 j hj
  exact ⟨machineInstrFaultF_ok k4, k5⟩
theorem codesF_ok {g : PCode → Int} : ∀ {l : List PCode}, codesF g l = 0 → ∀ c ∈ l, g c = 0
  | [], _, c, hc => absurd hc (by simp)
  | x :: r, h, c, hc => by
    unfold codesF at h
    split at h
    · rename_i hn; exact absurd h hn
    rename_i hg
    rcases List.mem_cons.1 hc with rfl | hc
    · simpa using hg
    · exact codesF_ok h c hc

/-- A program that may be run. -/
structure Sound (p : PProg) (m : Bool) : Prop where
  some_ : 0 < p.funcs.length ∧ p.funcs.length ≤ 40
  data : p.data.length ≤ 20000
  codes : ∀ c ∈ p.funcs, CodeOK p.funcs m c
theorem heads_ok {p : PProg} (h : headsFault p = 0) : (0 < p.funcs.length ∧ p.funcs.length ≤ 40) ∧ p.data.length ≤ 20000 := by
  unfold headsFault at h
  split at h
  · omega
  split at h
  · omega
  omega
theorem programFaultF_ok {p : PProg} (h : programFaultF p = 0) : Sound p false := by
  unfold programFaultF at h
  split at h
  · rename_i hn; exact absurd h hn
  rename_i hn
  have := heads_ok (by simpa using hn)
  exact ⟨this.1, this.2, fun c hc => codeFaultF_ok (codesF_ok h c hc)⟩
theorem machineFaultF_ok {p : PProg} (h : machineFaultF p = 0) : Sound p true := by
  unfold machineFaultF at h
  split at h
  · rename_i hn; exact absurd h hn
  rename_i hn
  have := heads_ok (by simpa using hn)
  exact ⟨this.1, this.2, fun c hc => machineCodeFaultF_ok (codesF_ok h c hc)⟩
end Go.Proofs.YtaomlfbcfmmhlaaDoor

/-
  A run's state keeps fitting the program, step by step (pure).
-/
namespace Go.Proofs.YtaomlfbcfmmhlaaDoor
open Go.RowKit Go.Pst
set_option linter.unusedVariables false
set_option linter.unusedSimpArgs false

/-- A call that fits its program, but for the place at which it stands. -/
structure LevIn (p : PProg) (f : Lev) : Prop where
  fn : f.fn < p.funcs.length
  vl : f.vars.length = (codeAt p f.fn).vars.toNat
  sl : f.slots.length = (codeAt p f.fn).slots.toNat
  iv : ∀ x ∈ f.vars, InI x
  is_ : ∀ x ∈ f.slots, InI x
def blockAt (p : PProg) (f : Lev) : List PInstr := (codeAt p f.fn).blocks.getD f.block []
structure LevOK (p : PProg) (f : Lev) : Prop extends LevIn p f where
  bl : f.block < (codeAt p f.fn).blocks.length
  al : f.at_ < (blockAt p f).length
def Chain (p : PProg) (m : Bool) : List Lev → Prop
  | f :: g :: r => (f.want.length : Int) = (codeAt p f.fn).results ∧ Ins f.want (if m then g.slots.length else g.vars.length) ∧ Chain p m (g :: r)
  | _ => True
structure Fits (p : PProg) (m : Bool) (limit : Int) (s : Mach) : Prop where
  some_ : 0 < s.frames.length ∧ s.frames.length ≤ 40
  levs : ∀ f ∈ s.frames, LevOK p f
  chain : Chain p m s.frames
  words : (∀ x ∈ s.words, InI x) ∧ (s.words.length : Int) ≤ limit
  lines : s.lines.length ≤ 2000

theorem codeAt_mem {p : PProg} {k : Nat} (h : k < p.funcs.length) : codeAt p k ∈ p.funcs := by
  unfold codeAt
  rw [List.getD_eq_getElem?_getD, List.getElem?_eq_getElem h]
  exact List.getElem_mem h
theorem codeAt_eq {p : PProg} {k : Nat} (h : k < p.funcs.length) : codeAt p k = p.funcs[k] := by
  unfold codeAt
  rw [List.getD_eq_getElem?_getD, List.getElem?_eq_getElem h]
  rfl
theorem LevOK.blk {p : PProg} {f : Lev} (h : LevOK p f) : blockAt p f ∈ (codeAt p f.fn).blocks := by
  unfold blockAt
  rw [List.getD_eq_getElem?_getD, List.getElem?_eq_getElem h.bl]
  exact List.getElem_mem h.bl
theorem LevOK.instr {p : PProg} {f : Lev} (h : LevOK p f) : instrAt p f = (blockAt p f)[f.at_]'h.al := by
  show (blockAt p f).getD f.at_ default = _
  rw [List.getD_eq_getElem?_getD, List.getElem?_eq_getElem h.al]
  rfl
/-- What is known of the instruction at hand. -/
theorem LevOK.ok {p : PProg} {m : Bool} {f : Lev} (h : LevOK p f) (hs : Sound p m) :
    InstrOK p.funcs m f.vars.length f.slots.length (codeAt p f.fn).results (codeAt p f.fn).blocks.length (instrAt p f) ∧ (closesF (instrAt p f).op = true ↔ f.at_ + 1 = (blockAt p f).length) := by
  have hc := hs.codes _ (codeAt_mem h.fn)
  obtain ⟨-, -, hi⟩ := hc.blk _ h.blk
  have := hi f.at_ h.al
  rw [← h.instr] at this
  rw [h.vl, h.sl]
  exact this
theorem LevIn.set {p : PProg} {f : Lev} (h : LevIn p f) (k : Nat) {v : Int} (hv : InI v) (b a : Nat) (w : List Int) : LevIn p ⟨f.fn, f.vars.set k v, f.slots, b, a, w⟩ :=
  ⟨h.fn, by simpa using h.vl, h.sl, fun x hx => by rcases List.mem_or_eq_of_mem_set hx with h1 | rfl; exact h.iv x h1; exact hv, h.is_⟩
theorem getI_in {l : List Int} (h : ∀ x ∈ l, InI x) (k : Int) : InI (getI l k) := by
  unfold getI
  rw [List.getD_eq_getElem?_getD]
  cases hk : l[k.toNat]? with
  | none => exact ⟨by decide, by decide⟩
  | some v => exact h v (List.mem_of_getElem? hk)
theorem argsF_in {p : PProg} {m : Bool} {f : Lev} (h : LevIn p f) (i : PInstr) : ∀ x ∈ argsF m f i, InI x := by
  intro x hx
  unfold argsF at hx
  split at hx
  · simp at hx
  · obtain ⟨k, -, rfl⟩ := List.mem_map.1 hx
    apply getI_in
    unfold Lev.src
    split
    · exact h.is_
    · exact h.iv
theorem in_small {x : Int} (h : -100000 ≤ x) (h' : x ≤ 100000) : InI x := ⟨by omega, by omega⟩
theorem putAll_length : ∀ (ds vs l : List Int), (putAll l ds vs).length = l.length
  | [], vs, l => by cases vs <;> rfl
  | d :: ds, [], l => rfl
  | d :: ds, v :: vs, l => by unfold putAll; rw [putAll_length]; simp
theorem putAll_in : ∀ (ds vs l : List Int), (∀ x ∈ l, InI x) → (∀ x ∈ vs, InI x) → ∀ x ∈ putAll l ds vs, InI x
  | [], vs, l, h, _ => by cases vs <;> exact h
  | d :: ds, [], l, h, _ => h
  | d :: ds, v :: vs, l, h, hv => by
    unfold putAll
    refine putAll_in ds vs _ (fun x hx => ?_) (fun x hx => hv x (List.mem_cons_of_mem _ hx))
    rcases List.mem_or_eq_of_mem_set hx with h1 | rfl
    · exact h x h1
    · exact hv _ List.mem_cons_self
theorem wrap64_InI (x : Int) : InI (wrap64 x) := by unfold wrap64 InI; omega
theorem newLev_in {p : PProg} {m : Bool} {k : Nat} {xs want : List Int} (hk : k < p.funcs.length) (hx : ∀ x ∈ xs, InI x) (hl : (xs.length : Int) = (codeAt p k).params) (hr : (codeAt p k).params ≤ if m then (codeAt p k).slots else (codeAt p k).vars) :
    LevIn p (newLev p m k xs want) := by
  have h0 : ∀ n, ∀ x ∈ List.replicate n (0 : Int), InI x := fun n x hx => by rw [List.eq_of_mem_replicate hx]; exact ⟨by decide, by decide⟩
  have h1 : ∀ n, ∀ x ∈ xs ++ (List.replicate n (0 : Int)).drop xs.length, InI x := fun n x hy => by
    rcases List.mem_append.1 hy with h | h
    · exact hx x h
    · exact h0 n x (List.mem_of_mem_drop h)
  cases m
  · simp only [Bool.false_eq_true, if_false] at hr
    exact ⟨hk, by simp [newLev]; omega, by simp [newLev], h1 _, h0 _⟩
  · simp only [if_true] at hr
    exact ⟨hk, by simp [newLev], by simp [newLev]; omega, h0 _, h1 _⟩
theorem Chain.top {p : PProg} {m : Bool} {f0 f : Lev} {r : List Lev} (h : Chain p m (f0 :: r)) (h1 : f.fn = f0.fn) (h2 : f.want = f0.want) : Chain p m (f :: r) := by
  cases r with
  | nil => trivial
  | cons g r => unfold Chain at h ⊢; rw [h1, h2]; exact h
/-- The innermost call goes on. -/
theorem Fits.top {p : PProg} {m : Bool} {limit : Int} {s : Mach} {f0 f : Lev} {r : List Lev} {ws : List Int} {ls : List ByteArray} (h : Fits p m limit s) (hf : s.frames = f0 :: r) (hl : LevOK p f) (h1 : f.fn = f0.fn) (h2 : f.want = f0.want)
    (hw : (∀ x ∈ ws, InI x) ∧ (ws.length : Int) ≤ limit) (hls : ls.length ≤ 2000) : Fits p m limit ⟨ws, ls, f :: r⟩ := by
  have hc := h.chain
  have hs := h.some_
  rw [hf] at hc hs
  exact ⟨by simpa using hs, fun g hg => by
    rcases List.mem_cons.1 hg with rfl | hg
    · exact hl
    · exact h.levs g (by rw [hf]; exact List.mem_cons_of_mem _ hg), hc.top h1 h2, hw, hls⟩
theorem InI_01 (c : Bool) : InI (yesF c) := by cases c <;> exact ⟨by decide, by decide⟩
theorem InI_fst_ite {c : Prop} [Decidable c] {x y : Int × Int} (hx : InI x.1) (hy : InI y.1) : InI (if c then x else y).1 := by split <;> assumption
theorem sumF_in {s : ByteArray} {a b : Int} (ha : InI a) (hb : InI b) : InI (sumF s a b).1 := by
  unfold sumF
  repeat' apply InI_fst_ite
  all_goals first | exact wrap64_InI _ | exact InI_01 _ | exact ⟨by decide, by decide⟩ | skip
  · show InI (if b = -1 then wrap64 (-a) else wrap64 (a.tdiv b))
    split <;> exact wrap64_InI _
  · show InI (if b = -1 then 0 else a.tmod b)
    split
    · exact ⟨by decide, by decide⟩
    · by_cases hz : b = 0
      · subst hz
        rw [Int.tmod_zero]
        exact ha
      · exact tmod_in hb hz
theorem placeF_range {a n : Int} {len : Nat} : -1 ≤ placeF a n len ∧ placeF a n len ≤ (len : Int) - 1 ∨ placeF a n len = -1 := by
  unfold placeF
  repeat' split
  all_goals omega
theorem takeF_in {n limit : Int} {ws : List Int} (h : ∀ x ∈ ws, InI x) (hl : (ws.length : Int) ≤ limit) (hm : limit ≤ 20000) : InI (takeF n limit ws).1 ∧ (∀ x ∈ (takeF n limit ws).2, InI x) ∧ ((takeF n limit ws).2.length : Int) ≤ limit := by
  unfold takeF
  split
  · exact ⟨in_small (by simp only []; omega) (by simp only []; omega), h, hl⟩
  split
  · exact ⟨in_small (by simp only []; omega) (by simp only []; omega), h, hl⟩
  · refine ⟨in_small (by simp only []; omega) (by simp only []; omega), fun x hx => ?_, by simp; omega⟩
    rcases List.mem_append.1 hx with h1 | h1
    · exact h x h1
    · rw [List.eq_of_mem_replicate h1]
      exact ⟨by decide, by decide⟩
theorem sayF_lines {s : ByteArray} {a b : Int} {ws : List Int} {ls : List ByteArray} (h : ls.length ≤ 2000) : (sayF s a b ws ls).2.length ≤ 2000 := by
  unfold sayF
  split
  · exact h
  split
  · simp; omega
  · exact h

theorem stepF_fits {p : PProg} {m : Bool} {limit : Int} {s : Mach} (hs : Sound p m) (hn : ∀ f, LevOK p f → InI (instrAt p f).n) (hm : limit ≤ 20000) (h : Fits p m limit s) (h0 : (stepF p m limit s).1 = 0) : Fits p m limit (stepF p m limit s).2 := by
  obtain ⟨f0, r, hf⟩ : ∃ f0 r, s.frames = f0 :: r := by
    cases hx : s.frames with
    | nil => have := h.some_; rw [hx] at this; simp at this
    | cons f0 r => exact ⟨f0, r, rfl⟩
  have hl := h.levs f0 (by rw [hf]; exact List.mem_cons_self)
  obtain ⟨hi, hc⟩ := hl.ok hs
  have hin := hn f0 hl
  have hargs := fun k => getI_in (argsF_in (m := m) hl.toLevIn (instrAt p f0)) k
  have hargs' := argsF_in (m := m) hl.toLevIn (instrAt p f0)
  unfold stepF at h0 ⊢
  rw [hf] at h0 ⊢
  simp only [] at h0 ⊢
  have hal := hl.al
  generalize hI : instrAt p f0 = i at *
  generalize hX : argsF m f0 i = xs at *
  have nclose : ¬ closesF i.op = true → f0.at_ + 1 < (blockAt p f0).length := fun hh => by
    have : ¬ f0.at_ + 1 = (blockAt p f0).length := fun e => hh (hc.2 e)
    omega
  have next : f0.at_ + 1 < (blockAt p f0).length → LevOK p { f0 with at_ := f0.at_ + 1 } := fun hh => ⟨⟨hl.fn, hl.vl, hl.sl, hl.iv, hl.is_⟩, hl.bl, hh⟩
  have sets : ∀ v, InI v → f0.at_ + 1 < (blockAt p f0).length → LevOK p (Lev.setV { f0 with at_ := f0.at_ + 1 } i v) := fun v hv hh => ⟨hl.toLevIn.set _ hv _ _ _, hl.bl, hh⟩
  have goto : ∀ t : Int, 0 ≤ t → t < (codeAt p f0.fn).blocks.length → LevOK p (Lev.goto { f0 with at_ := f0.at_ + 1 } t) := fun t h0 h1 => by
    have hb : t.toNat < (codeAt p f0.fn).blocks.length := by omega
    refine ⟨⟨hl.fn, hl.vl, hl.sl, hl.iv, hl.is_⟩, hb, ?_⟩
    show 0 < ((codeAt p f0.fn).blocks.getD t.toNat []).length
    have := ((hs.codes _ (codeAt_mem hl.fn)).blk ((codeAt p f0.fn).blocks.getD t.toNat []) (by rw [List.getD_eq_getElem?_getD, List.getElem?_eq_getElem hb]; exact List.getElem_mem hb)).1
    omega
  have op_of : ∀ k : Int, i.op = k → closesF i.op = (decide (9 ≤ k) && decide (k ≤ 13)) := fun k e => by rw [e]; rfl
  rcases hi with ⟨e, d, hd, hd', ha⟩ | ⟨e, d, a, hd, hd', ha, ha'⟩ | ⟨e, hss, d, a, b, hd, hd', ha, ha', hb'⟩ | ⟨e, d, a, hd, hd', ha, ha'⟩ | ⟨e, a, b, ha, ha', hb'⟩ | ⟨e, d, a, hd, hd', ha, ha'⟩ | ⟨e, k, g, hk, hg, hp, hr, ia, id⟩ | ⟨e, hsh⟩ | ⟨e, ha, t, ht, ht'⟩ | ⟨e, a, t, u, ha, ha', ht, ht', hu'⟩ | ⟨e, ⟨a, ha, ha'⟩, ht, ht'⟩ | ⟨e, hr, ia⟩ | ⟨e, ha, n1, n2⟩ | ⟨em, e, ha, d, n, hd, hd', hn1, hn2⟩ | ⟨em, e, a, n, ha, ha', hn1, hn2⟩
  all_goals simp only [e, reduceIte, if_true, if_false, Int.reduceEq] at h0 ⊢
  all_goals have hop := op_of _ e
  · have nx := nclose (by rw [hop]; decide)
    exact h.top hf (sets _ hin nx) rfl rfl h.words h.lines
  · have nx := nclose (by rw [hop]; decide)
    exact h.top hf (sets _ (hargs _) nx) rfl rfl h.words h.lines
  · have nx := nclose (by rw [hop]; decide)
    by_cases c : (sumF i.s (getI xs 0) (getI xs 1)).2 = 0
    · rw [if_pos c]
      exact h.top hf (sets _ (sumF_in (hargs _) (hargs _)) nx) rfl rfl h.words h.lines
    · rw [if_neg c] at h0
      exact absurd h0 c
  · have nx := nclose (by rw [hop]; decide)
    by_cases c : placeF (getI xs 0) i.n s.words.length < 0
    · rw [if_pos c] at h0
      exact absurd h0 (by simp)
    · rw [if_neg c]
      exact h.top hf (sets _ (getI_in h.words.1 _) nx) rfl rfl h.words h.lines
  · have nx := nclose (by rw [hop]; decide)
    by_cases c : placeF (getI xs 0) i.n s.words.length < 0
    · rw [if_pos c] at h0
      exact absurd h0 (by simp)
    · rw [if_neg c]
      refine h.top hf (next nx) rfl rfl ⟨fun x hx => ?_, by simpa using h.words.2⟩ h.lines
      rcases List.mem_or_eq_of_mem_set hx with h1 | rfl
      · exact h.words.1 x h1
      · exact hargs _
  · have nx := nclose (by rw [hop]; decide)
    have ht := takeF_in (n := getI xs 0) h.words.1 h.words.2 hm
    by_cases c : (takeF (getI xs 0) limit s.words).1 = -1
    · rw [if_pos c] at h0
      exact absurd h0 (by simp)
    rw [if_neg c] at h0 ⊢
    by_cases c : (takeF (getI xs 0) limit s.words).1 = -2
    · rw [if_pos c] at h0
      exact absurd h0 (by simp)
    rw [if_neg c]
    exact h.top hf (sets _ ht.1 nx) rfl rfl ht.2 h.lines
  · have nx := nclose (by rw [hop]; decide)
    by_cases c : 40 ≤ (f0 :: r).length
    · rw [if_pos c] at h0
      exact absurd h0 (by simp)
    rw [if_neg c]
    have hk' : (nameAt i.s p.funcs).toNat = k := by rw [hk]; rfl
    rw [hk']
    have hkl : k < p.funcs.length := (List.getElem?_eq_some_iff.1 hg).1
    have hgk : codeAt p k = g := by rw [codeAt_eq hkl]; exact (List.getElem?_eq_some_iff.1 hg).2
    have hco := hs.codes _ (codeAt_mem hkl)
    have hxl : xs.length = i.ars.length := by rw [← hX]; unfold argsF; rw [if_neg (by omega)]; simp
    refine ⟨?_, ?_, ?_, h.words, h.lines⟩
    · simp at c ⊢
      omega
    · intro f hf'
      rcases List.mem_cons.1 hf' with rfl | hf'
      · refine ⟨newLev_in hkl hargs' (by rw [hxl, hgk]; exact hp) hco.room, hco.nb.1, ?_⟩
        show 0 < ((codeAt p k).blocks.getD 0 []).length
        have := (hco.blk ((codeAt p k).blocks.getD 0 []) (by rw [List.getD_eq_getElem?_getD, List.getElem?_eq_getElem hco.nb.1]; exact List.getElem_mem hco.nb.1)).1
        omega
      rcases List.mem_cons.1 hf' with rfl | hf'
      · exact next nx
      · exact h.levs f (by rw [hf]; exact List.mem_cons_of_mem _ hf')
    · refine ⟨?_, ?_, ?_⟩
      · show (i.ds.length : Int) = (codeAt p k).results
        rw [hgk]; exact hr
      · cases m
        · simpa [newLev] using id
        · simpa [newLev] using id
      · have := h.chain
        rw [hf] at this
        exact this.top rfl rfl
  · have nx := nclose (by rw [hop]; decide)
    exact h.top hf (next nx) rfl rfl h.words (sayF_lines h.lines)
  · refine h.top hf (goto _ ?_ ?_) rfl rfl h.words h.lines
    · rw [ht]; simp [getI]
    · rw [ht]; simp [getI]; exact ht'
  · refine h.top hf (goto _ ?_ ?_) rfl rfl h.words h.lines
    · rw [ht]
      cases (getI xs 0 == 0) <;> simp [getI, yesF]
    · rw [ht]
      cases (getI xs 0 == 0)
      · simp [getI, yesF]; exact ht'
      · simp [getI, yesF]; exact hu'
  · have hin : ∀ k : Int, 0 ≤ k → k < i.to.length → 0 ≤ getI i.to k ∧ getI i.to k < (codeAt p f0.fn).blocks.length := fun k h0 h1 => by
      have hb : k.toNat < i.to.length := by omega
      unfold getI
      rw [List.getD_eq_getElem?_getD, List.getElem?_eq_getElem hb]
      exact ht' _ (List.getElem_mem hb)
    have hin2 : 0 ≤ (if 0 ≤ getI xs 0 ∧ getI xs 0 ≤ i.to.length - 1 then getI i.to (getI xs 0) else getI i.to (i.to.length - 1)) ∧ (if 0 ≤ getI xs 0 ∧ getI xs 0 ≤ i.to.length - 1 then getI i.to (getI xs 0) else getI i.to (i.to.length - 1)) < (codeAt p f0.fn).blocks.length := by
      split
      · exact hin _ (by omega) (by omega)
      · exact hin _ (by omega) (by omega)
    exact h.top hf (goto _ hin2.1 hin2.2) rfl rfl h.words h.lines
  · cases r with
    | nil => exact absurd h0 (by simp)
    | cons g r' =>
      simp only []
      have hg := h.levs g (by rw [hf]; simp)
      have hch := h.chain
      have hso := h.some_
      rw [hf] at hch hso
      refine ⟨by simp at hso ⊢; omega, ?_, ?_, h.words, h.lines⟩
      · intro f hf'
        rcases List.mem_cons.1 hf' with rfl | hf'
        · unfold Lev.put
          cases m
          · exact ⟨⟨hg.fn, by simp only [Bool.false_eq_true, if_false, putAll_length]; exact hg.vl, hg.sl, putAll_in _ _ _ hg.iv hargs', hg.is_⟩, hg.bl, hg.al⟩
          · exact ⟨⟨hg.fn, hg.vl, by simp only [if_true, putAll_length]; exact hg.sl, hg.iv, putAll_in _ _ _ hg.is_ hargs'⟩, hg.bl, hg.al⟩
        · exact h.levs f (by rw [hf]; simp [hf'])
      · have := hch.2.2
        unfold Lev.put
        cases m
        · exact this.top rfl rfl
        · exact this.top rfl rfl
  · omega
  · have nx := nclose (by rw [hop]; decide)
    exact h.top hf (sets _ (getI_in hl.is_ _) nx) rfl rfl h.words h.lines
  · have nx := nclose (by rw [hop]; decide)
    refine h.top hf ?_ rfl rfl h.words h.lines
    refine ⟨⟨hl.fn, hl.vl, by simpa using hl.sl, hl.iv, fun x hx => ?_⟩, hl.bl, nx⟩
    rcases List.mem_or_eq_of_mem_set hx with h1 | rfl
    · exact hl.is_ x h1
    · exact hargs _
end Go.Proofs.YtaomlfbcfmmhlaaDoor

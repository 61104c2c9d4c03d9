/-
  Texts joined: RtRunesPure RtRunesUtf.
-/
import Derived.Test.YtaomlfbcfmmhlaaJJ
import Derived.Test.YtaomlfbcfmmhlaaJM
import GoSem.Core.Utf8

/-
  What rt's _rune tells, as a plain function of bytes (printed by wip/gen_rtrunespure.py).
-/
namespace Go.Proofs.Ytaomlfbcfmmhlaa
open Go.RowKit Go.Pst
set_option linter.unusedVariables false
set_option linter.unusedSimpArgs false
set_option maxRecDepth 100000

def kI (d : Nat) (n : Int) : PInstr := ⟨1, [(d : Int)], [], n, ⟨#[]⟩, []⟩
def mI (s : ByteArray) (d a c : Nat) : PInstr := ⟨3, [(d : Int)], [(a : Int), (c : Int)], 0, s, []⟩
def lI (d a : Nat) : PInstr := ⟨4, [(d : Int)], [(a : Int)], 0, ⟨#[]⟩, []⟩
def cI (a t u : Nat) : PInstr := ⟨10, [], [(a : Int)], 0, ⟨#[]⟩, [(t : Int), (u : Int)]⟩
def jI (t : Nat) : PInstr := ⟨9, [], [], 0, ⟨#[]⟩, [(t : Int)]⟩
def bI (a c : Nat) : PInstr := ⟨12, [], [(a : Int), (c : Int)], 0, ⟨#[]⟩, []⟩
def cb (b i : Nat) : PInstr := (char_L.blocks.getD b []).getD i default
abbrev oPlus : ByteArray := ⟨#[43]⟩
abbrev oMinus : ByteArray := ⟨#[45]⟩
abbrev oTimes : ByteArray := ⟨#[42]⟩
abbrev oLt : ByteArray := ⟨#[60]⟩
abbrev oLe : ByteArray := ⟨#[60, 61]⟩
abbrev oGt : ByteArray := ⟨#[62]⟩
abbrev oGe : ByteArray := ⟨#[62, 61]⟩

theorem getI_set_eq {vs : List Int} {e : Nat} {x : Int} (h : e < vs.length) : getI (vs.set e x) (e : Int) = x := by
  simp [getI, h]
theorem getI_set_ne {vs : List Int} {e a : Nat} {x : Int} (h : a ≠ e) : getI (vs.set e x) (a : Int) = getI vs (a : Int) := by
  simp [getI, List.getElem?_set, Ne.symm h]

section
variable {name : ByteArray} {xs : List Int} {r : Nat} {d : List Int} {W : List Int} {L : List ByteArray} {R : List Lev} {want : List Int} {vs : List Int} {b i : Nat} {g : Lev}
theorem cb_at : instrAt (drivenF allL name xs r d) ⟨10, vs, [], b, i, want⟩ = cb b i := rfl
theorem st_k {e : Nat} {n : Int} (h : cb b i = kI e n) : Runs (drivenF allL name xs r d) 1 ⟨W, L, ⟨10, vs, [], b, i, want⟩ :: R⟩ ⟨W, L, ⟨10, vs.set e n, [], b, i + 1, want⟩ :: R⟩ := by
  refine Runs.of (stepN_one ?_)
  unfold stepF
  simp only [cb_at, h, kI]
  simp [Lev.setV, getI]
theorem st_m {s : ByteArray} {e a c : Nat} {x : Int} (h : cb b i = mI s e a c) (hs : sumF s (getI vs a) (getI vs c) = (x, 0)) : Runs (drivenF allL name xs r d) 1 ⟨W, L, ⟨10, vs, [], b, i, want⟩ :: R⟩ ⟨W, L, ⟨10, vs.set e x, [], b, i + 1, want⟩ :: R⟩ := by
  refine Runs.of (stepN_one ?_)
  unfold stepF
  simp only [cb_at, h, mI]
  have e0 : getI (argsF false ⟨10, vs, [], b, i, want⟩ ⟨3, [(e : Int)], [(a : Int), (c : Int)], 0, s, []⟩) 0 = getI vs a := rfl
  have e1 : getI (argsF false ⟨10, vs, [], b, i, want⟩ ⟨3, [(e : Int)], [(a : Int), (c : Int)], 0, s, []⟩) 1 = getI vs c := rfl
  rw [e0, e1, hs]
  simp [Lev.setV, getI]
theorem st_l {e a : Nat} {x : Int} (h : cb b i = lI e a) (hx : placeF (getI vs a) 0 W.length = x) (h0 : 0 ≤ x) : Runs (drivenF allL name xs r d) 1 ⟨W, L, ⟨10, vs, [], b, i, want⟩ :: R⟩ ⟨W, L, ⟨10, vs.set e (getI W x), [], b, i + 1, want⟩ :: R⟩ :=
  Runs.of (step_load (P := drivenF allL name xs r d) (d := (e : Int)) (by rw [cb_at, h]; rfl) hx h0)
theorem st_c {a t u : Nat} (h : cb b i = cI a t u) : Runs (drivenF allL name xs r d) 1 ⟨W, L, ⟨10, vs, [], b, i, want⟩ :: R⟩ ⟨W, L, ⟨10, vs, [], (if getI vs a = 0 then u else t), 0, want⟩ :: R⟩ := by
  refine Runs.of (stepN_one ?_)
  unfold stepF
  simp only [cb_at, h, cI]
  have e0 : getI (argsF false ⟨10, vs, [], b, i, want⟩ ⟨10, [], [(a : Int)], 0, ⟨#[]⟩, [(t : Int), (u : Int)]⟩) 0 = getI vs a := rfl
  rw [e0]
  generalize getI vs (a : Int) = z
  by_cases hz : z = 0
  · subst hz
    simp [Lev.goto, getI, yesF]
  · simp [hz, Lev.goto, getI, yesF]
theorem st_j {t : Nat} (h : cb b i = jI t) : Runs (drivenF allL name xs r d) 1 ⟨W, L, ⟨10, vs, [], b, i, want⟩ :: R⟩ ⟨W, L, ⟨10, vs, [], t, 0, want⟩ :: R⟩ := by
  refine Runs.of (stepN_one ?_)
  unfold stepF
  simp only [cb_at, h, jI]
  simp [Lev.goto, getI]
theorem st_b {a c : Nat} (h : cb b i = bI a c) : Runs (drivenF allL name xs r d) 1 ⟨W, L, ⟨10, vs, [], b, i, want⟩ :: g :: R⟩ ⟨W, L, g.put false want [getI vs a, getI vs c] :: R⟩ := by
  refine Runs.of (stepN_one ?_)
  unfold stepF
  simp only [cb_at, h, bI]
  simp [argsF, Lev.src]

structure Env (vs : List Int) (N K b : Int) : Prop where
  len : vs.length = 426
  v0 : getI vs ((0 : Nat) : Int) = 0
  v1 : getI vs ((1 : Nat) : Int) = N
  v2 : getI vs ((2 : Nat) : Int) = K
  v4 : getI vs ((4 : Nat) : Int) = b
theorem Env.set {vs : List Int} {N K b : Int} (h : Env vs N K b) {e : Nat} (x : Int) (he : 5 ≤ e) : Env (vs.set e x) N K b :=
  ⟨by rw [List.length_set]; exact h.len, by rw [getI_set_ne (by omega)]; exact h.v0, by rw [getI_set_ne (by omega)]; exact h.v1, by rw [getI_set_ne (by omega)]; exact h.v2, by rw [getI_set_ne (by omega)]; exact h.v4⟩

/-- One byte more of a rune. -/
def tl (x lo hi : Int) (l : List Int) (k : Int → List Int → Int × Int) : Int × Int :=
  match l with
  | c :: l' => if lo ≤ c ∧ c ≤ hi then k (x * 64 + (c - 128)) l' else (65533, 1)
  | [] => (65533, 1)
structure BadAt (q t : Nat) : Prop where
  b0 : cb q 0 = kI t 65533
  b1 : cb q 1 = kI (t + 1) 1
  b2 : cb q 2 = bI t (t + 1)
structure TailAt (X i t p m rv : Nat) (lo hi : Int) : Prop where
  a0 : cb X i = kI t m
  a1 : cb X (i + 1) = mI oPlus (t + 1) 2 t
  a2 : cb X (i + 2) = mI oGe (t + 2) (t + 1) 1
  a3 : cb X (i + 3) = cI (t + 2) p (p + 1)
  b : BadAt p (t + 3)
  c0 : cb (p + 1) 0 = mI oPlus (t + 5) 0 (t + 1)
  c1 : cb (p + 1) 1 = lI (t + 6) (t + 5)
  c2 : cb (p + 1) 2 = kI (t + 7) lo
  c3 : cb (p + 1) 3 = mI oLt (t + 8) (t + 6) (t + 7)
  c4 : cb (p + 1) 4 = cI (t + 8) (p + 2) (p + 3)
  d : BadAt (p + 2) (t + 9)
  e0 : cb (p + 3) 0 = kI (t + 11) hi
  e1 : cb (p + 3) 1 = mI oGt (t + 12) (t + 6) (t + 11)
  e2 : cb (p + 3) 2 = cI (t + 12) (p + 4) (p + 5)
  f : BadAt (p + 4) (t + 13)
  g0 : cb (p + 5) 0 = kI (t + 15) 128
  g1 : cb (p + 5) 1 = mI oMinus (t + 16) (t + 6) (t + 15)
  g2 : cb (p + 5) 2 = kI (t + 17) 64
  g3 : cb (p + 5) 3 = mI oTimes (t + 18) rv (t + 17)
  g4 : cb (p + 5) 4 = mI oPlus (t + 19) (t + 18) (t + 16)

theorem bad_run {q t : Nat} (B : BadAt q t) (ht : t + 1 < vs.length) :
    Runs (drivenF allL name xs r d) 3 ⟨W, L, ⟨10, vs, [], q, 0, want⟩ :: g :: R⟩ ⟨W, L, g.put false want [65533, 1] :: R⟩ := by
  have h0 := st_k (name := name) (xs := xs) (r := r) (d := d) (W := W) (L := L) (R := g :: R) (want := want) (vs := vs) B.b0
  have h1 := st_k (name := name) (xs := xs) (r := r) (d := d) (W := W) (L := L) (R := g :: R) (want := want) (vs := vs.set t 65533) B.b1
  have h2 := st_b (name := name) (xs := xs) (r := r) (d := d) (W := W) (L := L) (R := R) (g := g) (want := want) (vs := (vs.set t 65533).set (t + 1) 1) B.b2
  rw [getI_set_eq (by rw [List.length_set]; omega), getI_set_ne (by omega), getI_set_eq (by omega)] at h2
  exact (h0.trans (h1.trans h2)).mono (by omega)

theorem s_plus (a b : Int) : sumF oPlus a b = (wrap64 (a + b), 0) := by kernel_rfl
theorem s_minus (a b : Int) : sumF oMinus a b = (wrap64 (a - b), 0) := by kernel_rfl
theorem s_times (a b : Int) : sumF oTimes a b = (wrap64 (a * b), 0) := by kernel_rfl
theorem s_lt (a b : Int) : sumF oLt a b = (yesF (decide (a < b)), 0) := by kernel_rfl
theorem s_le (a b : Int) : sumF oLe a b = (yesF (decide (a ≤ b)), 0) := by kernel_rfl
theorem s_gt (a b : Int) : sumF oGt a b = (yesF (decide (b < a)), 0) := by kernel_rfl
theorem s_ge (a b : Int) : sumF oGe a b = (yesF (decide (b ≤ a)), 0) := by kernel_rfl
theorem wrap_small {x : Int} (h0 : -1000000000 ≤ x) (h1 : x ≤ 1000000000) : wrap64 x = x := by
  unfold wrap64
  omega
theorem yes_pos {b : Bool} {t u : Nat} (h : b = true) : (if yesF b = 0 then u else t) = t := by subst h; rfl
theorem yes_neg {b : Bool} {t u : Nat} (h : b = false) : (if yesF b = 0 then u else t) = u := by subst h; rfl
theorem drop_cons {W : List Int} {k : Nat} (h : k < W.length) : W.drop k = getI W (k : Int) :: W.drop (k + 1) := by
  rw [List.drop_eq_getElem_cons h]
  simp [getI, h]
theorem getI_mem {W : List Int} {k : Nat} (h : k < W.length) : getI W (k : Int) ∈ W := by
  simp [getI, h]

theorem tail_run {N K b : Nat} {x : Int} {X i t p m rv n : Nat} {lo hi : Int} (T : TailAt X i t p m rv lo hi) (ht : 5 ≤ t) (ht2 : t + 19 < 426) (hrv : rv < t) (hm : m ≤ 3) (hW : W.length = N) (hN : N ≤ 1000)
    (hb : ∀ y ∈ W, 0 ≤ y ∧ y ≤ 255) (hK : K < N) (E : Env vs N K b) (hx : getI vs (rv : Int) = x) (hx0 : 0 ≤ x) (hx1 : x ≤ 1000000) (k : Int → List Int → Int × Int)
    (hk : ∀ (c : Int) (vs' : List Int), K + m < N → c = getI W ((K + m : Nat) : Int) → lo ≤ c → c ≤ hi → Env vs' N K b → getI vs' ((t + 19 : Nat) : Int) = x * 64 + (c - 128) → Runs (drivenF allL name xs r d) n ⟨W, L, ⟨10, vs', [], p + 5, 5, want⟩ :: g :: R⟩ ⟨W, L, g.put false want [(k (x * 64 + (c - 128)) (W.drop (K + m + 1))).1, (k (x * 64 + (c - 128)) (W.drop (K + m + 1))).2] :: R⟩) :
    Runs (drivenF allL name xs r d) (n + 25) ⟨W, L, ⟨10, vs, [], X, i, want⟩ :: g :: R⟩ ⟨W, L, g.put false want [(tl x lo hi (W.drop (K + m)) k).1, (tl x lo hi (W.drop (K + m)) k).2] :: R⟩ := by
  have hl := E.len
  have a0 := st_k (name := name) (xs := xs) (r := r) (d := d) (W := W) (L := L) (R := g :: R) (want := want) (vs := vs) T.a0
  have E1 := E.set (e := t) (m : Int) ht
  have w1 : wrap64 ((K : Int) + m) = ((K + m : Nat) : Int) := by rw [wrap_small (by omega) (by omega)]; omega
  have a1 := st_m (name := name) (xs := xs) (r := r) (d := d) (W := W) (L := L) (R := g :: R) (want := want) (vs := vs.set t m) (x := ((K + m : Nat) : Int)) T.a1 (by rw [E1.v2, getI_set_eq (by omega), s_plus, w1])
  have E2 := E1.set (e := t + 1) ((K + m : Nat) : Int) (by omega)
  have a2 := st_m (name := name) (xs := xs) (r := r) (d := d) (W := W) (L := L) (R := g :: R) (want := want) (vs := (vs.set t m).set (t + 1) ((K + m : Nat) : Int)) (x := yesF (decide ((N : Int) ≤ ((K + m : Nat) : Int)))) T.a2 (by rw [E2.v1, getI_set_eq (by rw [List.length_set]; omega), s_ge])
  have E3 := E2.set (e := t + 2) (yesF (decide ((N : Int) ≤ ((K + m : Nat) : Int)))) (by omega)
  have a3 := st_c (name := name) (xs := xs) (r := r) (d := d) (W := W) (L := L) (R := g :: R) (want := want) (vs := ((vs.set t m).set (t + 1) ((K + m : Nat) : Int)).set (t + 2) (yesF (decide ((N : Int) ≤ ((K + m : Nat) : Int))))) T.a3
  have k1 : getI (((vs.set t m).set (t + 1) ((K + m : Nat) : Int)).set (t + 2) (yesF (decide ((N : Int) ≤ ((K + m : Nat) : Int))))) ((t + 1 : Nat) : Int) = ((K + m : Nat) : Int) := by
    rw [getI_set_ne (by omega), getI_set_eq (by rw [List.length_set]; omega)]
  have kr : getI (((vs.set t m).set (t + 1) ((K + m : Nat) : Int)).set (t + 2) (yesF (decide ((N : Int) ≤ ((K + m : Nat) : Int))))) (rv : Int) = x := by
    rw [getI_set_ne (by omega), getI_set_ne (by omega), getI_set_ne (by omega), hx]
  rw [getI_set_eq (by rw [List.length_set, List.length_set]; omega)] at a3
  generalize ((vs.set t m).set (t + 1) ((K + m : Nat) : Int)).set (t + 2) (yesF (decide ((N : Int) ≤ ((K + m : Nat) : Int)))) = us at E3 a2 a3 k1 kr
  have A := a0.trans (a1.trans (a2.trans a3))
  clear a0 a1 a2 a3 E1 E2 w1 hx hl
  by_cases hNk : N ≤ K + m
  · rw [yes_pos (by simpa using (by omega : (N : Int) ≤ ((K + m : Nat) : Int)))] at A
    have e : W.drop (K + m) = [] := List.drop_eq_nil_of_le (by omega)
    rw [e]
    exact (A.trans (bad_run T.b (by rw [E3.len]; omega))).mono (by omega)
  rw [yes_neg (by simpa using (by omega : ¬ (N : Int) ≤ ((K + m : Nat) : Int)))] at A
  have hKm : K + m < W.length := by omega
  rw [drop_cons hKm]
  obtain ⟨hc0, hc1⟩ := hb _ (getI_mem hKm)
  obtain ⟨c, hc⟩ : ∃ c, c = getI W ((K + m : Nat) : Int) := ⟨_, rfl⟩
  rw [← hc] at hc0 hc1 ⊢
  have hl := E3.len
  have q1 : (0 : Int) ≤ ((K + m : Nat) : Int) := by omega
  have q2 : ((K + m : Nat) : Int) < (W.length : Int) := by omega
  have q3 : W.length ≤ 20000 := by omega
  have q4 : t + 5 < us.length := by omega
  have w1 : wrap64 (0 + ((K + m : Nat) : Int)) = ((K + m : Nat) : Int) := by rw [wrap_small (by omega) (by omega)]; omega
  have c0 := st_m (name := name) (xs := xs) (r := r) (d := d) (W := W) (L := L) (R := g :: R) (want := want) (vs := us) (x := ((K + m : Nat) : Int)) T.c0 (by rw [E3.v0, k1, s_plus, w1])
  have F1 := E3.set (e := t + 5) ((K + m : Nat) : Int) (by omega)
  have c1 := st_l (name := name) (xs := xs) (r := r) (d := d) (W := W) (L := L) (R := g :: R) (want := want) (vs := us.set (t + 5) ((K + m : Nat) : Int)) (x := ((K + m : Nat) : Int)) T.c1 (by rw [getI_set_eq q4]; exact place_id q1 q2 q3) q1
  rw [← hc] at c1
  have F2 := F1.set (e := t + 6) c (by omega)
  have c2 := st_k (name := name) (xs := xs) (r := r) (d := d) (W := W) (L := L) (R := g :: R) (want := want) (vs := (us.set (t + 5) ((K + m : Nat) : Int)).set (t + 6) c) T.c2
  have F3 := F2.set (e := t + 7) lo (by omega)
  have c3 := st_m (name := name) (xs := xs) (r := r) (d := d) (W := W) (L := L) (R := g :: R) (want := want) (vs := ((us.set (t + 5) ((K + m : Nat) : Int)).set (t + 6) c).set (t + 7) lo) (x := yesF (decide (c < lo))) T.c3 (by rw [getI_set_ne (by omega), getI_set_eq (by rw [List.length_set]; omega), getI_set_eq (by rw [List.length_set, List.length_set]; omega), s_lt])
  have F4 := F3.set (e := t + 8) (yesF (decide (c < lo))) (by omega)
  have c4 := st_c (name := name) (xs := xs) (r := r) (d := d) (W := W) (L := L) (R := g :: R) (want := want) (vs := (((us.set (t + 5) ((K + m : Nat) : Int)).set (t + 6) c).set (t + 7) lo).set (t + 8) (yesF (decide (c < lo)))) T.c4
  have k6 : getI ((((us.set (t + 5) ((K + m : Nat) : Int)).set (t + 6) c).set (t + 7) lo).set (t + 8) (yesF (decide (c < lo)))) ((t + 6 : Nat) : Int) = c := by
    rw [getI_set_ne (by omega), getI_set_ne (by omega), getI_set_eq (by rw [List.length_set]; omega)]
  have kr : getI ((((us.set (t + 5) ((K + m : Nat) : Int)).set (t + 6) c).set (t + 7) lo).set (t + 8) (yesF (decide (c < lo)))) (rv : Int) = x := by
    rw [getI_set_ne (by omega), getI_set_ne (by omega), getI_set_ne (by omega), getI_set_ne (by omega), kr]
  rw [getI_set_eq (by rw [List.length_set, List.length_set, List.length_set]; omega)] at c4
  generalize (((us.set (t + 5) ((K + m : Nat) : Int)).set (t + 6) c).set (t + 7) lo).set (t + 8) (yesF (decide (c < lo))) = ws at F4 c3 c4 k6 kr
  have C := A.trans (c0.trans (c1.trans (c2.trans (c3.trans c4))))
  clear c0 c1 c2 c3 c4 F1 F2 F3 A w1 k1 E3 hl
  have hl := F4.len
  unfold tl
  dsimp only
  by_cases hlo : c < lo
  · rw [yes_pos (by simpa using hlo)] at C
    rw [if_neg (by omega)]
    exact (C.trans (bad_run T.d (by omega))).mono (by omega)
  rw [yes_neg (by simpa using hlo)] at C
  have e0 := st_k (name := name) (xs := xs) (r := r) (d := d) (W := W) (L := L) (R := g :: R) (want := want) (vs := ws) T.e0
  have e1 := st_m (name := name) (xs := xs) (r := r) (d := d) (W := W) (L := L) (R := g :: R) (want := want) (vs := ws.set (t + 11) hi) (x := yesF (decide (hi < c))) T.e1 (by rw [getI_set_ne (by omega), k6, getI_set_eq (by omega), s_gt])
  have e2 := st_c (name := name) (xs := xs) (r := r) (d := d) (W := W) (L := L) (R := g :: R) (want := want) (vs := (ws.set (t + 11) hi).set (t + 12) (yesF (decide (hi < c)))) T.e2
  have G := (F4.set (e := t + 11) hi (by omega)).set (e := t + 12) (yesF (decide (hi < c))) (by omega)
  have k6 : getI ((ws.set (t + 11) hi).set (t + 12) (yesF (decide (hi < c)))) ((t + 6 : Nat) : Int) = c := by
    rw [getI_set_ne (by omega), getI_set_ne (by omega), k6]
  have kr : getI ((ws.set (t + 11) hi).set (t + 12) (yesF (decide (hi < c)))) (rv : Int) = x := by
    rw [getI_set_ne (by omega), getI_set_ne (by omega), kr]
  rw [getI_set_eq (by rw [List.length_set]; omega)] at e2
  generalize (ws.set (t + 11) hi).set (t + 12) (yesF (decide (hi < c))) = zs at G e1 e2 k6 kr
  have D := C.trans (e0.trans (e1.trans e2))
  clear e0 e1 e2 C F4 hl
  have hl := G.len
  by_cases hhi : hi < c
  · rw [yes_pos (by simpa using hhi)] at D
    rw [if_neg (by omega)]
    exact (D.trans (bad_run T.f (by omega))).mono (by omega)
  rw [yes_neg (by simpa using hhi)] at D
  rw [if_pos (by omega)]
  have w2 : wrap64 (c - 128) = c - 128 := wrap_small (by omega) (by omega)
  have w3 : wrap64 (x * 64) = x * 64 := wrap_small (by omega) (by omega)
  have w4 : wrap64 (x * 64 + (c - 128)) = x * 64 + (c - 128) := wrap_small (by omega) (by omega)
  have g0 := st_k (name := name) (xs := xs) (r := r) (d := d) (W := W) (L := L) (R := g :: R) (want := want) (vs := zs) T.g0
  have g1 := st_m (name := name) (xs := xs) (r := r) (d := d) (W := W) (L := L) (R := g :: R) (want := want) (vs := zs.set (t + 15) 128) (x := c - 128) T.g1 (by rw [getI_set_ne (by omega), k6, getI_set_eq (by omega), s_minus, w2])
  have g2 := st_k (name := name) (xs := xs) (r := r) (d := d) (W := W) (L := L) (R := g :: R) (want := want) (vs := (zs.set (t + 15) 128).set (t + 16) (c - 128)) T.g2
  have g3 := st_m (name := name) (xs := xs) (r := r) (d := d) (W := W) (L := L) (R := g :: R) (want := want) (vs := ((zs.set (t + 15) 128).set (t + 16) (c - 128)).set (t + 17) 64) (x := x * 64) T.g3 (by rw [getI_set_ne (by omega), getI_set_ne (by omega), getI_set_ne (by omega), kr, getI_set_eq (by rw [List.length_set, List.length_set]; omega), s_times, w3])
  have g4 := st_m (name := name) (xs := xs) (r := r) (d := d) (W := W) (L := L) (R := g :: R) (want := want) (vs := (((zs.set (t + 15) 128).set (t + 16) (c - 128)).set (t + 17) 64).set (t + 18) (x * 64)) (x := x * 64 + (c - 128)) T.g4 (by rw [getI_set_eq (by rw [List.length_set, List.length_set, List.length_set]; omega), getI_set_ne (by omega), getI_set_ne (by omega), getI_set_eq (by rw [List.length_set]; omega), s_plus, w4])
  have G2 := ((((G.set (e := t + 15) 128 (by omega)).set (e := t + 16) (c - 128) (by omega)).set (e := t + 17) 64 (by omega)).set (e := t + 18) (x * 64) (by omega)).set (e := t + 19) (x * 64 + (c - 128)) (by omega)
  have fin := hk c _ (by omega) hc (by omega) (by omega) G2 (getI_set_eq (by rw [List.length_set, List.length_set, List.length_set, List.length_set]; omega))
  exact (D.trans (g0.trans (g1.trans (g2.trans (g3.trans (g4.trans fin)))))).mono (by omega)

structure LongAt (q o u : Nat) (low high base : Int) : Prop where
  q0 : cb q 0 = kI u low
  q1 : cb q 1 = mI oGe (u + 1) 4 u
  q2 : cb q 2 = cI (u + 1) o (o + 1)
  o0 : cb o 0 = kI (u + 2) high
  o1 : cb o 1 = mI oLe (u + 3) 4 (u + 2)
  o2 : cb o 2 = cI (u + 3) (o + 2) (o + 3)
  r0 : cb (o + 2) 0 = kI (u + 4) base
  r1 : cb (o + 2) 1 = mI oMinus (u + 5) 4 (u + 4)
  j : cb (o + 3) 0 = jI (o + 1)
theorem long_run {N K b : Nat} {q o u n : Nat} {low high base : Int} (T : LongAt q o u low high base) (hu : 5 ≤ u) (hu2 : u + 5 < 426) (hb : b ≤ 255) (E : Env vs N K b) (hbase : 0 ≤ base) (hbl : base ≤ low)  (hlh : low ≤ 255) (good rest : Int × Int)
    (hg : ∀ vs', low ≤ b → (b : Int) ≤ high → Env vs' N K b → getI vs' ((u + 5 : Nat) : Int) = b - base → Runs (drivenF allL name xs r d) n ⟨W, L, ⟨10, vs', [], o + 2, 2, want⟩ :: g :: R⟩ ⟨W, L, g.put false want [(good).1, (good).2] :: R⟩)
    (hk : ∀ vs', Env vs' N K b → Runs (drivenF allL name xs r d) n ⟨W, L, ⟨10, vs', [], o + 1, 0, want⟩ :: g :: R⟩ ⟨W, L, g.put false want [(rest).1, (rest).2] :: R⟩) :
    Runs (drivenF allL name xs r d) (n + 10) ⟨W, L, ⟨10, vs, [], q, 0, want⟩ :: g :: R⟩ ⟨W, L, g.put false want [(if low ≤ (b : Int) ∧ (b : Int) ≤ high then good else rest).1, (if low ≤ (b : Int) ∧ (b : Int) ≤ high then good else rest).2] :: R⟩ := by
  have hl := E.len
  have q0 := st_k (name := name) (xs := xs) (r := r) (d := d) (W := W) (L := L) (R := g :: R) (want := want) (vs := vs) T.q0
  have E1 := E.set (e := u) low hu
  have q1 := st_m (name := name) (xs := xs) (r := r) (d := d) (W := W) (L := L) (R := g :: R) (want := want) (vs := vs.set u low) (x := yesF (decide (low ≤ (b : Int)))) T.q1 (by rw [E1.v4, getI_set_eq (by omega), s_ge])
  have E2 := E1.set (e := u + 1) (yesF (decide (low ≤ (b : Int)))) (by omega)
  have q2 := st_c (name := name) (xs := xs) (r := r) (d := d) (W := W) (L := L) (R := g :: R) (want := want) (vs := (vs.set u low).set (u + 1) (yesF (decide (low ≤ (b : Int))))) T.q2
  rw [getI_set_eq (by rw [List.length_set]; omega)] at q2
  generalize (vs.set u low).set (u + 1) (yesF (decide (low ≤ (b : Int)))) = us at E2 q1 q2
  have A := q0.trans (q1.trans q2)
  clear q0 q1 q2 E1 hl
  have hl := E2.len
  by_cases h1 : low ≤ (b : Int)
  · rw [yes_pos (by simpa using h1)] at A
    have o0 := st_k (name := name) (xs := xs) (r := r) (d := d) (W := W) (L := L) (R := g :: R) (want := want) (vs := us) T.o0
    have E3 := E2.set (e := u + 2) high (by omega)
    have o1 := st_m (name := name) (xs := xs) (r := r) (d := d) (W := W) (L := L) (R := g :: R) (want := want) (vs := us.set (u + 2) high) (x := yesF (decide ((b : Int) ≤ high))) T.o1 (by rw [E3.v4, getI_set_eq (by omega), s_le])
    have E4 := E3.set (e := u + 3) (yesF (decide ((b : Int) ≤ high))) (by omega)
    have o2 := st_c (name := name) (xs := xs) (r := r) (d := d) (W := W) (L := L) (R := g :: R) (want := want) (vs := (us.set (u + 2) high).set (u + 3) (yesF (decide ((b : Int) ≤ high)))) T.o2
    rw [getI_set_eq (by rw [List.length_set]; omega)] at o2
    generalize (us.set (u + 2) high).set (u + 3) (yesF (decide ((b : Int) ≤ high))) = ws at E4 o1 o2
    have B := A.trans (o0.trans (o1.trans o2))
    clear o0 o1 o2 A E3 hl
    have hl := E4.len
    by_cases h2 : (b : Int) ≤ high
    · rw [yes_pos (by simpa using h2)] at B
      rw [if_pos ⟨h1, h2⟩]
      have r0 := st_k (name := name) (xs := xs) (r := r) (d := d) (W := W) (L := L) (R := g :: R) (want := want) (vs := ws) T.r0
      have E5 := E4.set (e := u + 4) base (by omega)
      have w1 : wrap64 ((b : Int) - base) = b - base := wrap_small (by omega) (by omega)
      have r1 := st_m (name := name) (xs := xs) (r := r) (d := d) (W := W) (L := L) (R := g :: R) (want := want) (vs := ws.set (u + 4) base) (x := b - base) T.r1 (by rw [E5.v4, getI_set_eq (by omega), s_minus, w1])
      have E6 := E5.set (e := u + 5) (b - base) (by omega)
      exact (B.trans (r0.trans (r1.trans (hg _ h1 h2 E6 (getI_set_eq (by rw [List.length_set]; omega)))))).mono (by omega)
    · rw [yes_neg (by simpa using h2)] at B
      rw [if_neg (fun h => h2 h.2)]
      exact (B.trans ((st_j (name := name) (xs := xs) (r := r) (d := d) (W := W) (L := L) (R := g :: R) (want := want) (vs := ws) T.j).trans (hk _ E4))).mono (by omega)
  · rw [yes_neg (by simpa using h1)] at A
    rw [if_neg (fun h => h1 h.1)]
    exact (A.trans (hk _ E2)).mono (by omega)
theorem end_run {N K b : Nat} {q a s : Nat} {n x : Int} (h0 : cb q 5 = kI s n) (h1 : cb q 6 = bI a s) (hs : 5 ≤ s) (hs2 : s < 426) (has : a ≠ s) (E : Env vs N K b) (hx : getI vs (a : Int) = x) :
    Runs (drivenF allL name xs r d) 2 ⟨W, L, ⟨10, vs, [], q, 5, want⟩ :: g :: R⟩ ⟨W, L, g.put false want [(((x, n) : Int × Int)).1, (((x, n) : Int × Int)).2] :: R⟩ := by
  have hl := E.len
  have a0 := st_k (name := name) (xs := xs) (r := r) (d := d) (W := W) (L := L) (R := g :: R) (want := want) (vs := vs) h0
  have a1 := st_b (name := name) (xs := xs) (r := r) (d := d) (W := W) (L := L) (R := R) (g := g) (want := want) (vs := vs.set s n) h1
  rw [getI_set_ne has, hx, getI_set_eq (by omega)] at a1
  exact (a0.trans a1).mono (by omega)

def runeF : List Int → Int × Int
  | [] => (0, 0)
  | b :: l => if b < 128 then (b, 1)
    else if 194 ≤ b ∧ b ≤ 223 then (tl (b - 192) 128 191 l fun x1 l1 => (x1, 2))
    else if 224 ≤ b ∧ b ≤ 224 then (tl (b - 224) 160 191 l fun x1 l1 => tl x1 128 191 l1 fun x2 l2 => (x2, 3))
    else if 225 ≤ b ∧ b ≤ 236 then (tl (b - 224) 128 191 l fun x1 l1 => tl x1 128 191 l1 fun x2 l2 => (x2, 3))
    else if 237 ≤ b ∧ b ≤ 237 then (tl (b - 224) 128 159 l fun x1 l1 => tl x1 128 191 l1 fun x2 l2 => (x2, 3))
    else if 238 ≤ b ∧ b ≤ 239 then (tl (b - 224) 128 191 l fun x1 l1 => tl x1 128 191 l1 fun x2 l2 => (x2, 3))
    else if 240 ≤ b ∧ b ≤ 240 then (tl (b - 240) 144 191 l fun x1 l1 => tl x1 128 191 l1 fun x2 l2 => tl x2 128 191 l2 fun x3 _ => (x3, 4))
    else if 241 ≤ b ∧ b ≤ 243 then (tl (b - 240) 128 191 l fun x1 l1 => tl x1 128 191 l1 fun x2 l2 => tl x2 128 191 l2 fun x3 _ => (x3, 4))
    else if 244 ≤ b ∧ b ≤ 244 then (tl (b - 240) 128 143 l fun x1 l1 => tl x1 128 191 l1 fun x2 l2 => tl x2 128 191 l2 fun x3 _ => (x3, 4))
    else (65533, 1)
theorem long0 : LongAt 2 3 8 194 223 192 := by constructor <;> kernel_rfl
theorem tail0_1 : TailAt 5 2 14 7 1 13 128 191 := by constructor <;> first | kernel_rfl | (constructor <;> kernel_rfl)
theorem end0_0 : cb 12 5 = kI 34 2 := by kernel_rfl
theorem end0_1 : cb 12 6 = bI 33 34 := by kernel_rfl
theorem long1 : LongAt 4 13 35 224 224 224 := by constructor <;> kernel_rfl
theorem tail1_1 : TailAt 15 2 41 17 1 40 160 191 := by constructor <;> first | kernel_rfl | (constructor <;> kernel_rfl)
theorem tail1_2 : TailAt 22 5 61 23 2 60 128 191 := by constructor <;> first | kernel_rfl | (constructor <;> kernel_rfl)
theorem end1_0 : cb 28 5 = kI 81 3 := by kernel_rfl
theorem end1_1 : cb 28 6 = bI 80 81 := by kernel_rfl
theorem long2 : LongAt 14 29 82 225 236 224 := by constructor <;> kernel_rfl
theorem tail2_1 : TailAt 31 2 88 33 1 87 128 191 := by constructor <;> first | kernel_rfl | (constructor <;> kernel_rfl)
theorem tail2_2 : TailAt 38 5 108 39 2 107 128 191 := by constructor <;> first | kernel_rfl | (constructor <;> kernel_rfl)
theorem end2_0 : cb 44 5 = kI 128 3 := by kernel_rfl
theorem end2_1 : cb 44 6 = bI 127 128 := by kernel_rfl
theorem long3 : LongAt 30 45 129 237 237 224 := by constructor <;> kernel_rfl
theorem tail3_1 : TailAt 47 2 135 49 1 134 128 159 := by constructor <;> first | kernel_rfl | (constructor <;> kernel_rfl)
theorem tail3_2 : TailAt 54 5 155 55 2 154 128 191 := by constructor <;> first | kernel_rfl | (constructor <;> kernel_rfl)
theorem end3_0 : cb 60 5 = kI 175 3 := by kernel_rfl
theorem end3_1 : cb 60 6 = bI 174 175 := by kernel_rfl
theorem long4 : LongAt 46 61 176 238 239 224 := by constructor <;> kernel_rfl
theorem tail4_1 : TailAt 63 2 182 65 1 181 128 191 := by constructor <;> first | kernel_rfl | (constructor <;> kernel_rfl)
theorem tail4_2 : TailAt 70 5 202 71 2 201 128 191 := by constructor <;> first | kernel_rfl | (constructor <;> kernel_rfl)
theorem end4_0 : cb 76 5 = kI 222 3 := by kernel_rfl
theorem end4_1 : cb 76 6 = bI 221 222 := by kernel_rfl
theorem long5 : LongAt 62 77 223 240 240 240 := by constructor <;> kernel_rfl
theorem tail5_1 : TailAt 79 2 229 81 1 228 144 191 := by constructor <;> first | kernel_rfl | (constructor <;> kernel_rfl)
theorem tail5_2 : TailAt 86 5 249 87 2 248 128 191 := by constructor <;> first | kernel_rfl | (constructor <;> kernel_rfl)
theorem tail5_3 : TailAt 92 5 269 93 3 268 128 191 := by constructor <;> first | kernel_rfl | (constructor <;> kernel_rfl)
theorem end5_0 : cb 98 5 = kI 289 4 := by kernel_rfl
theorem end5_1 : cb 98 6 = bI 288 289 := by kernel_rfl
theorem long6 : LongAt 78 99 290 241 243 240 := by constructor <;> kernel_rfl
theorem tail6_1 : TailAt 101 2 296 103 1 295 128 191 := by constructor <;> first | kernel_rfl | (constructor <;> kernel_rfl)
theorem tail6_2 : TailAt 108 5 316 109 2 315 128 191 := by constructor <;> first | kernel_rfl | (constructor <;> kernel_rfl)
theorem tail6_3 : TailAt 114 5 336 115 3 335 128 191 := by constructor <;> first | kernel_rfl | (constructor <;> kernel_rfl)
theorem end6_0 : cb 120 5 = kI 356 4 := by kernel_rfl
theorem end6_1 : cb 120 6 = bI 355 356 := by kernel_rfl
theorem long7 : LongAt 100 121 357 244 244 240 := by constructor <;> kernel_rfl
theorem tail7_1 : TailAt 123 2 363 125 1 362 128 143 := by constructor <;> first | kernel_rfl | (constructor <;> kernel_rfl)
theorem tail7_2 : TailAt 130 5 383 131 2 382 128 191 := by constructor <;> first | kernel_rfl | (constructor <;> kernel_rfl)
theorem tail7_3 : TailAt 136 5 403 137 3 402 128 191 := by constructor <;> first | kernel_rfl | (constructor <;> kernel_rfl)
theorem end7_0 : cb 142 5 = kI 423 4 := by kernel_rfl
theorem end7_1 : cb 142 6 = bI 422 423 := by kernel_rfl
theorem last_bad : BadAt 122 424 := by constructor <;> kernel_rfl

theorem first_0 : cb 0 0 = mI oPlus 3 0 2 := by kernel_rfl
theorem first_1 : cb 0 1 = lI 4 3 := by kernel_rfl
theorem first_2 : cb 0 2 = kI 5 128 := by kernel_rfl
theorem first_3 : cb 0 3 = mI oLt 6 4 5 := by kernel_rfl
theorem first_4 : cb 0 4 = cI 6 1 2 := by kernel_rfl
theorem one_0 : cb 1 0 = kI 7 1 := by kernel_rfl
theorem one_1 : cb 1 1 = bI 4 7 := by kernel_rfl

theorem lr8 {N K b : Nat} (hW : W.length = N) (hN : N ≤ 1000) (hb : ∀ y ∈ W, 0 ≤ y ∧ y ≤ 255) (hK : K < N) (hbb : b ≤ 255) (E : Env vs N K b) : Runs (drivenF allL name xs r d) 10 ⟨W, L, ⟨10, vs, [], 122, 0, want⟩ :: g :: R⟩ ⟨W, L, g.put false want [(((65533, 1) : Int × Int)).1, (((65533, 1) : Int × Int)).2] :: R⟩ :=
  (bad_run last_bad (by rw [E.len]; omega)).mono (by omega)
theorem lr7 {N K b : Nat} (hW : W.length = N) (hN : N ≤ 1000) (hb : ∀ y ∈ W, 0 ≤ y ∧ y ≤ 255) (hK : K < N) (hbb : b ≤ 255) (E : Env vs N K b) : Runs (drivenF allL name xs r d) 130 ⟨W, L, ⟨10, vs, [], 100, 0, want⟩ :: g :: R⟩ ⟨W, L, g.put false want [(if 244 ≤ (b : Int) ∧ (b : Int) ≤ 244 then (tl ((b : Int) - 240) 128 143 (W.drop (K + 1)) fun x1 l1 => tl x1 128 191 l1 fun x2 l2 => tl x2 128 191 l2 fun x3 _ => (x3, 4)) else ((65533, 1) : Int × Int)).1, (if 244 ≤ (b : Int) ∧ (b : Int) ≤ 244 then (tl ((b : Int) - 240) 128 143 (W.drop (K + 1)) fun x1 l1 => tl x1 128 191 l1 fun x2 l2 => tl x2 128 191 l2 fun x3 _ => (x3, 4)) else ((65533, 1) : Int × Int)).2] :: R⟩ := by
  refine (long_run (n := 120) long7 (by omega) (by omega) hbb E (by omega) (by omega) (by omega) _ _ (fun v1 c1 c2 E1 x1 => ?_) (fun v1 E1 => (lr8 hW hN hb hK hbb E1).mono (by omega))).mono (by omega)
  refine (tail_run (n := 90) tail7_1 (by omega) (by omega) (by omega) (by omega) hW hN hb hK E1 x1 (by omega) (by omega) _ (fun c3 v2 d1 e1 f1 g1 E2 x2 => ?_)).mono (by omega)
  refine (tail_run (n := 65) tail7_2 (by omega) (by omega) (by omega) (by omega) hW hN hb hK E2 x2 (by omega) (by omega) _ (fun c4 v3 d2 e2 f2 g2 E3 x3 => ?_)).mono (by omega)
  refine (tail_run (n := 40) tail7_3 (by omega) (by omega) (by omega) (by omega) hW hN hb hK E3 x3 (by omega) (by omega) _ (fun c5 v4 d3 e3 f3 g3 E4 x4 => ?_)).mono (by omega)
  exact (end_run end7_0 end7_1 (by omega) (by omega) (by omega) E4 x4).mono (by omega)
theorem lr6 {N K b : Nat} (hW : W.length = N) (hN : N ≤ 1000) (hb : ∀ y ∈ W, 0 ≤ y ∧ y ≤ 255) (hK : K < N) (hbb : b ≤ 255) (E : Env vs N K b) : Runs (drivenF allL name xs r d) 250 ⟨W, L, ⟨10, vs, [], 78, 0, want⟩ :: g :: R⟩ ⟨W, L, g.put false want [(if 241 ≤ (b : Int) ∧ (b : Int) ≤ 243 then (tl ((b : Int) - 240) 128 191 (W.drop (K + 1)) fun x1 l1 => tl x1 128 191 l1 fun x2 l2 => tl x2 128 191 l2 fun x3 _ => (x3, 4)) else if 244 ≤ (b : Int) ∧ (b : Int) ≤ 244 then (tl ((b : Int) - 240) 128 143 (W.drop (K + 1)) fun x1 l1 => tl x1 128 191 l1 fun x2 l2 => tl x2 128 191 l2 fun x3 _ => (x3, 4)) else ((65533, 1) : Int × Int)).1, (if 241 ≤ (b : Int) ∧ (b : Int) ≤ 243 then (tl ((b : Int) - 240) 128 191 (W.drop (K + 1)) fun x1 l1 => tl x1 128 191 l1 fun x2 l2 => tl x2 128 191 l2 fun x3 _ => (x3, 4)) else if 244 ≤ (b : Int) ∧ (b : Int) ≤ 244 then (tl ((b : Int) - 240) 128 143 (W.drop (K + 1)) fun x1 l1 => tl x1 128 191 l1 fun x2 l2 => tl x2 128 191 l2 fun x3 _ => (x3, 4)) else ((65533, 1) : Int × Int)).2] :: R⟩ := by
  refine (long_run (n := 240) long6 (by omega) (by omega) hbb E (by omega) (by omega) (by omega) _ _ (fun v1 c1 c2 E1 x1 => ?_) (fun v1 E1 => (lr7 hW hN hb hK hbb E1).mono (by omega))).mono (by omega)
  refine (tail_run (n := 210) tail6_1 (by omega) (by omega) (by omega) (by omega) hW hN hb hK E1 x1 (by omega) (by omega) _ (fun c3 v2 d1 e1 f1 g1 E2 x2 => ?_)).mono (by omega)
  refine (tail_run (n := 185) tail6_2 (by omega) (by omega) (by omega) (by omega) hW hN hb hK E2 x2 (by omega) (by omega) _ (fun c4 v3 d2 e2 f2 g2 E3 x3 => ?_)).mono (by omega)
  refine (tail_run (n := 160) tail6_3 (by omega) (by omega) (by omega) (by omega) hW hN hb hK E3 x3 (by omega) (by omega) _ (fun c5 v4 d3 e3 f3 g3 E4 x4 => ?_)).mono (by omega)
  exact (end_run end6_0 end6_1 (by omega) (by omega) (by omega) E4 x4).mono (by omega)
theorem lr5 {N K b : Nat} (hW : W.length = N) (hN : N ≤ 1000) (hb : ∀ y ∈ W, 0 ≤ y ∧ y ≤ 255) (hK : K < N) (hbb : b ≤ 255) (E : Env vs N K b) : Runs (drivenF allL name xs r d) 370 ⟨W, L, ⟨10, vs, [], 62, 0, want⟩ :: g :: R⟩ ⟨W, L, g.put false want [(if 240 ≤ (b : Int) ∧ (b : Int) ≤ 240 then (tl ((b : Int) - 240) 144 191 (W.drop (K + 1)) fun x1 l1 => tl x1 128 191 l1 fun x2 l2 => tl x2 128 191 l2 fun x3 _ => (x3, 4)) else if 241 ≤ (b : Int) ∧ (b : Int) ≤ 243 then (tl ((b : Int) - 240) 128 191 (W.drop (K + 1)) fun x1 l1 => tl x1 128 191 l1 fun x2 l2 => tl x2 128 191 l2 fun x3 _ => (x3, 4)) else if 244 ≤ (b : Int) ∧ (b : Int) ≤ 244 then (tl ((b : Int) - 240) 128 143 (W.drop (K + 1)) fun x1 l1 => tl x1 128 191 l1 fun x2 l2 => tl x2 128 191 l2 fun x3 _ => (x3, 4)) else ((65533, 1) : Int × Int)).1, (if 240 ≤ (b : Int) ∧ (b : Int) ≤ 240 then (tl ((b : Int) - 240) 144 191 (W.drop (K + 1)) fun x1 l1 => tl x1 128 191 l1 fun x2 l2 => tl x2 128 191 l2 fun x3 _ => (x3, 4)) else if 241 ≤ (b : Int) ∧ (b : Int) ≤ 243 then (tl ((b : Int) - 240) 128 191 (W.drop (K + 1)) fun x1 l1 => tl x1 128 191 l1 fun x2 l2 => tl x2 128 191 l2 fun x3 _ => (x3, 4)) else if 244 ≤ (b : Int) ∧ (b : Int) ≤ 244 then (tl ((b : Int) - 240) 128 143 (W.drop (K + 1)) fun x1 l1 => tl x1 128 191 l1 fun x2 l2 => tl x2 128 191 l2 fun x3 _ => (x3, 4)) else ((65533, 1) : Int × Int)).2] :: R⟩ := by
  refine (long_run (n := 360) long5 (by omega) (by omega) hbb E (by omega) (by omega) (by omega) _ _ (fun v1 c1 c2 E1 x1 => ?_) (fun v1 E1 => (lr6 hW hN hb hK hbb E1).mono (by omega))).mono (by omega)
  refine (tail_run (n := 330) tail5_1 (by omega) (by omega) (by omega) (by omega) hW hN hb hK E1 x1 (by omega) (by omega) _ (fun c3 v2 d1 e1 f1 g1 E2 x2 => ?_)).mono (by omega)
  refine (tail_run (n := 305) tail5_2 (by omega) (by omega) (by omega) (by omega) hW hN hb hK E2 x2 (by omega) (by omega) _ (fun c4 v3 d2 e2 f2 g2 E3 x3 => ?_)).mono (by omega)
  refine (tail_run (n := 280) tail5_3 (by omega) (by omega) (by omega) (by omega) hW hN hb hK E3 x3 (by omega) (by omega) _ (fun c5 v4 d3 e3 f3 g3 E4 x4 => ?_)).mono (by omega)
  exact (end_run end5_0 end5_1 (by omega) (by omega) (by omega) E4 x4).mono (by omega)
theorem lr4 {N K b : Nat} (hW : W.length = N) (hN : N ≤ 1000) (hb : ∀ y ∈ W, 0 ≤ y ∧ y ≤ 255) (hK : K < N) (hbb : b ≤ 255) (E : Env vs N K b) : Runs (drivenF allL name xs r d) 490 ⟨W, L, ⟨10, vs, [], 46, 0, want⟩ :: g :: R⟩ ⟨W, L, g.put false want [(if 238 ≤ (b : Int) ∧ (b : Int) ≤ 239 then (tl ((b : Int) - 224) 128 191 (W.drop (K + 1)) fun x1 l1 => tl x1 128 191 l1 fun x2 l2 => (x2, 3)) else if 240 ≤ (b : Int) ∧ (b : Int) ≤ 240 then (tl ((b : Int) - 240) 144 191 (W.drop (K + 1)) fun x1 l1 => tl x1 128 191 l1 fun x2 l2 => tl x2 128 191 l2 fun x3 _ => (x3, 4)) else if 241 ≤ (b : Int) ∧ (b : Int) ≤ 243 then (tl ((b : Int) - 240) 128 191 (W.drop (K + 1)) fun x1 l1 => tl x1 128 191 l1 fun x2 l2 => tl x2 128 191 l2 fun x3 _ => (x3, 4)) else if 244 ≤ (b : Int) ∧ (b : Int) ≤ 244 then (tl ((b : Int) - 240) 128 143 (W.drop (K + 1)) fun x1 l1 => tl x1 128 191 l1 fun x2 l2 => tl x2 128 191 l2 fun x3 _ => (x3, 4)) else ((65533, 1) : Int × Int)).1, (if 238 ≤ (b : Int) ∧ (b : Int) ≤ 239 then (tl ((b : Int) - 224) 128 191 (W.drop (K + 1)) fun x1 l1 => tl x1 128 191 l1 fun x2 l2 => (x2, 3)) else if 240 ≤ (b : Int) ∧ (b : Int) ≤ 240 then (tl ((b : Int) - 240) 144 191 (W.drop (K + 1)) fun x1 l1 => tl x1 128 191 l1 fun x2 l2 => tl x2 128 191 l2 fun x3 _ => (x3, 4)) else if 241 ≤ (b : Int) ∧ (b : Int) ≤ 243 then (tl ((b : Int) - 240) 128 191 (W.drop (K + 1)) fun x1 l1 => tl x1 128 191 l1 fun x2 l2 => tl x2 128 191 l2 fun x3 _ => (x3, 4)) else if 244 ≤ (b : Int) ∧ (b : Int) ≤ 244 then (tl ((b : Int) - 240) 128 143 (W.drop (K + 1)) fun x1 l1 => tl x1 128 191 l1 fun x2 l2 => tl x2 128 191 l2 fun x3 _ => (x3, 4)) else ((65533, 1) : Int × Int)).2] :: R⟩ := by
  refine (long_run (n := 480) long4 (by omega) (by omega) hbb E (by omega) (by omega) (by omega) _ _ (fun v1 c1 c2 E1 x1 => ?_) (fun v1 E1 => (lr5 hW hN hb hK hbb E1).mono (by omega))).mono (by omega)
  refine (tail_run (n := 450) tail4_1 (by omega) (by omega) (by omega) (by omega) hW hN hb hK E1 x1 (by omega) (by omega) _ (fun c3 v2 d1 e1 f1 g1 E2 x2 => ?_)).mono (by omega)
  refine (tail_run (n := 425) tail4_2 (by omega) (by omega) (by omega) (by omega) hW hN hb hK E2 x2 (by omega) (by omega) _ (fun c4 v3 d2 e2 f2 g2 E3 x3 => ?_)).mono (by omega)
  exact (end_run end4_0 end4_1 (by omega) (by omega) (by omega) E3 x3).mono (by omega)
theorem lr3 {N K b : Nat} (hW : W.length = N) (hN : N ≤ 1000) (hb : ∀ y ∈ W, 0 ≤ y ∧ y ≤ 255) (hK : K < N) (hbb : b ≤ 255) (E : Env vs N K b) : Runs (drivenF allL name xs r d) 610 ⟨W, L, ⟨10, vs, [], 30, 0, want⟩ :: g :: R⟩ ⟨W, L, g.put false want [(if 237 ≤ (b : Int) ∧ (b : Int) ≤ 237 then (tl ((b : Int) - 224) 128 159 (W.drop (K + 1)) fun x1 l1 => tl x1 128 191 l1 fun x2 l2 => (x2, 3)) else if 238 ≤ (b : Int) ∧ (b : Int) ≤ 239 then (tl ((b : Int) - 224) 128 191 (W.drop (K + 1)) fun x1 l1 => tl x1 128 191 l1 fun x2 l2 => (x2, 3)) else if 240 ≤ (b : Int) ∧ (b : Int) ≤ 240 then (tl ((b : Int) - 240) 144 191 (W.drop (K + 1)) fun x1 l1 => tl x1 128 191 l1 fun x2 l2 => tl x2 128 191 l2 fun x3 _ => (x3, 4)) else if 241 ≤ (b : Int) ∧ (b : Int) ≤ 243 then (tl ((b : Int) - 240) 128 191 (W.drop (K + 1)) fun x1 l1 => tl x1 128 191 l1 fun x2 l2 => tl x2 128 191 l2 fun x3 _ => (x3, 4)) else if 244 ≤ (b : Int) ∧ (b : Int) ≤ 244 then (tl ((b : Int) - 240) 128 143 (W.drop (K + 1)) fun x1 l1 => tl x1 128 191 l1 fun x2 l2 => tl x2 128 191 l2 fun x3 _ => (x3, 4)) else ((65533, 1) : Int × Int)).1, (if 237 ≤ (b : Int) ∧ (b : Int) ≤ 237 then (tl ((b : Int) - 224) 128 159 (W.drop (K + 1)) fun x1 l1 => tl x1 128 191 l1 fun x2 l2 => (x2, 3)) else if 238 ≤ (b : Int) ∧ (b : Int) ≤ 239 then (tl ((b : Int) - 224) 128 191 (W.drop (K + 1)) fun x1 l1 => tl x1 128 191 l1 fun x2 l2 => (x2, 3)) else if 240 ≤ (b : Int) ∧ (b : Int) ≤ 240 then (tl ((b : Int) - 240) 144 191 (W.drop (K + 1)) fun x1 l1 => tl x1 128 191 l1 fun x2 l2 => tl x2 128 191 l2 fun x3 _ => (x3, 4)) else if 241 ≤ (b : Int) ∧ (b : Int) ≤ 243 then (tl ((b : Int) - 240) 128 191 (W.drop (K + 1)) fun x1 l1 => tl x1 128 191 l1 fun x2 l2 => tl x2 128 191 l2 fun x3 _ => (x3, 4)) else if 244 ≤ (b : Int) ∧ (b : Int) ≤ 244 then (tl ((b : Int) - 240) 128 143 (W.drop (K + 1)) fun x1 l1 => tl x1 128 191 l1 fun x2 l2 => tl x2 128 191 l2 fun x3 _ => (x3, 4)) else ((65533, 1) : Int × Int)).2] :: R⟩ := by
  refine (long_run (n := 600) long3 (by omega) (by omega) hbb E (by omega) (by omega) (by omega) _ _ (fun v1 c1 c2 E1 x1 => ?_) (fun v1 E1 => (lr4 hW hN hb hK hbb E1).mono (by omega))).mono (by omega)
  refine (tail_run (n := 570) tail3_1 (by omega) (by omega) (by omega) (by omega) hW hN hb hK E1 x1 (by omega) (by omega) _ (fun c3 v2 d1 e1 f1 g1 E2 x2 => ?_)).mono (by omega)
  refine (tail_run (n := 545) tail3_2 (by omega) (by omega) (by omega) (by omega) hW hN hb hK E2 x2 (by omega) (by omega) _ (fun c4 v3 d2 e2 f2 g2 E3 x3 => ?_)).mono (by omega)
  exact (end_run end3_0 end3_1 (by omega) (by omega) (by omega) E3 x3).mono (by omega)
theorem lr2 {N K b : Nat} (hW : W.length = N) (hN : N ≤ 1000) (hb : ∀ y ∈ W, 0 ≤ y ∧ y ≤ 255) (hK : K < N) (hbb : b ≤ 255) (E : Env vs N K b) : Runs (drivenF allL name xs r d) 730 ⟨W, L, ⟨10, vs, [], 14, 0, want⟩ :: g :: R⟩ ⟨W, L, g.put false want [(if 225 ≤ (b : Int) ∧ (b : Int) ≤ 236 then (tl ((b : Int) - 224) 128 191 (W.drop (K + 1)) fun x1 l1 => tl x1 128 191 l1 fun x2 l2 => (x2, 3)) else if 237 ≤ (b : Int) ∧ (b : Int) ≤ 237 then (tl ((b : Int) - 224) 128 159 (W.drop (K + 1)) fun x1 l1 => tl x1 128 191 l1 fun x2 l2 => (x2, 3)) else if 238 ≤ (b : Int) ∧ (b : Int) ≤ 239 then (tl ((b : Int) - 224) 128 191 (W.drop (K + 1)) fun x1 l1 => tl x1 128 191 l1 fun x2 l2 => (x2, 3)) else if 240 ≤ (b : Int) ∧ (b : Int) ≤ 240 then (tl ((b : Int) - 240) 144 191 (W.drop (K + 1)) fun x1 l1 => tl x1 128 191 l1 fun x2 l2 => tl x2 128 191 l2 fun x3 _ => (x3, 4)) else if 241 ≤ (b : Int) ∧ (b : Int) ≤ 243 then (tl ((b : Int) - 240) 128 191 (W.drop (K + 1)) fun x1 l1 => tl x1 128 191 l1 fun x2 l2 => tl x2 128 191 l2 fun x3 _ => (x3, 4)) else if 244 ≤ (b : Int) ∧ (b : Int) ≤ 244 then (tl ((b : Int) - 240) 128 143 (W.drop (K + 1)) fun x1 l1 => tl x1 128 191 l1 fun x2 l2 => tl x2 128 191 l2 fun x3 _ => (x3, 4)) else ((65533, 1) : Int × Int)).1, (if 225 ≤ (b : Int) ∧ (b : Int) ≤ 236 then (tl ((b : Int) - 224) 128 191 (W.drop (K + 1)) fun x1 l1 => tl x1 128 191 l1 fun x2 l2 => (x2, 3)) else if 237 ≤ (b : Int) ∧ (b : Int) ≤ 237 then (tl ((b : Int) - 224) 128 159 (W.drop (K + 1)) fun x1 l1 => tl x1 128 191 l1 fun x2 l2 => (x2, 3)) else if 238 ≤ (b : Int) ∧ (b : Int) ≤ 239 then (tl ((b : Int) - 224) 128 191 (W.drop (K + 1)) fun x1 l1 => tl x1 128 191 l1 fun x2 l2 => (x2, 3)) else if 240 ≤ (b : Int) ∧ (b : Int) ≤ 240 then (tl ((b : Int) - 240) 144 191 (W.drop (K + 1)) fun x1 l1 => tl x1 128 191 l1 fun x2 l2 => tl x2 128 191 l2 fun x3 _ => (x3, 4)) else if 241 ≤ (b : Int) ∧ (b : Int) ≤ 243 then (tl ((b : Int) - 240) 128 191 (W.drop (K + 1)) fun x1 l1 => tl x1 128 191 l1 fun x2 l2 => tl x2 128 191 l2 fun x3 _ => (x3, 4)) else if 244 ≤ (b : Int) ∧ (b : Int) ≤ 244 then (tl ((b : Int) - 240) 128 143 (W.drop (K + 1)) fun x1 l1 => tl x1 128 191 l1 fun x2 l2 => tl x2 128 191 l2 fun x3 _ => (x3, 4)) else ((65533, 1) : Int × Int)).2] :: R⟩ := by
  refine (long_run (n := 720) long2 (by omega) (by omega) hbb E (by omega) (by omega) (by omega) _ _ (fun v1 c1 c2 E1 x1 => ?_) (fun v1 E1 => (lr3 hW hN hb hK hbb E1).mono (by omega))).mono (by omega)
  refine (tail_run (n := 690) tail2_1 (by omega) (by omega) (by omega) (by omega) hW hN hb hK E1 x1 (by omega) (by omega) _ (fun c3 v2 d1 e1 f1 g1 E2 x2 => ?_)).mono (by omega)
  refine (tail_run (n := 665) tail2_2 (by omega) (by omega) (by omega) (by omega) hW hN hb hK E2 x2 (by omega) (by omega) _ (fun c4 v3 d2 e2 f2 g2 E3 x3 => ?_)).mono (by omega)
  exact (end_run end2_0 end2_1 (by omega) (by omega) (by omega) E3 x3).mono (by omega)
theorem lr1 {N K b : Nat} (hW : W.length = N) (hN : N ≤ 1000) (hb : ∀ y ∈ W, 0 ≤ y ∧ y ≤ 255) (hK : K < N) (hbb : b ≤ 255) (E : Env vs N K b) : Runs (drivenF allL name xs r d) 850 ⟨W, L, ⟨10, vs, [], 4, 0, want⟩ :: g :: R⟩ ⟨W, L, g.put false want [(if 224 ≤ (b : Int) ∧ (b : Int) ≤ 224 then (tl ((b : Int) - 224) 160 191 (W.drop (K + 1)) fun x1 l1 => tl x1 128 191 l1 fun x2 l2 => (x2, 3)) else if 225 ≤ (b : Int) ∧ (b : Int) ≤ 236 then (tl ((b : Int) - 224) 128 191 (W.drop (K + 1)) fun x1 l1 => tl x1 128 191 l1 fun x2 l2 => (x2, 3)) else if 237 ≤ (b : Int) ∧ (b : Int) ≤ 237 then (tl ((b : Int) - 224) 128 159 (W.drop (K + 1)) fun x1 l1 => tl x1 128 191 l1 fun x2 l2 => (x2, 3)) else if 238 ≤ (b : Int) ∧ (b : Int) ≤ 239 then (tl ((b : Int) - 224) 128 191 (W.drop (K + 1)) fun x1 l1 => tl x1 128 191 l1 fun x2 l2 => (x2, 3)) else if 240 ≤ (b : Int) ∧ (b : Int) ≤ 240 then (tl ((b : Int) - 240) 144 191 (W.drop (K + 1)) fun x1 l1 => tl x1 128 191 l1 fun x2 l2 => tl x2 128 191 l2 fun x3 _ => (x3, 4)) else if 241 ≤ (b : Int) ∧ (b : Int) ≤ 243 then (tl ((b : Int) - 240) 128 191 (W.drop (K + 1)) fun x1 l1 => tl x1 128 191 l1 fun x2 l2 => tl x2 128 191 l2 fun x3 _ => (x3, 4)) else if 244 ≤ (b : Int) ∧ (b : Int) ≤ 244 then (tl ((b : Int) - 240) 128 143 (W.drop (K + 1)) fun x1 l1 => tl x1 128 191 l1 fun x2 l2 => tl x2 128 191 l2 fun x3 _ => (x3, 4)) else ((65533, 1) : Int × Int)).1, (if 224 ≤ (b : Int) ∧ (b : Int) ≤ 224 then (tl ((b : Int) - 224) 160 191 (W.drop (K + 1)) fun x1 l1 => tl x1 128 191 l1 fun x2 l2 => (x2, 3)) else if 225 ≤ (b : Int) ∧ (b : Int) ≤ 236 then (tl ((b : Int) - 224) 128 191 (W.drop (K + 1)) fun x1 l1 => tl x1 128 191 l1 fun x2 l2 => (x2, 3)) else if 237 ≤ (b : Int) ∧ (b : Int) ≤ 237 then (tl ((b : Int) - 224) 128 159 (W.drop (K + 1)) fun x1 l1 => tl x1 128 191 l1 fun x2 l2 => (x2, 3)) else if 238 ≤ (b : Int) ∧ (b : Int) ≤ 239 then (tl ((b : Int) - 224) 128 191 (W.drop (K + 1)) fun x1 l1 => tl x1 128 191 l1 fun x2 l2 => (x2, 3)) else if 240 ≤ (b : Int) ∧ (b : Int) ≤ 240 then (tl ((b : Int) - 240) 144 191 (W.drop (K + 1)) fun x1 l1 => tl x1 128 191 l1 fun x2 l2 => tl x2 128 191 l2 fun x3 _ => (x3, 4)) else if 241 ≤ (b : Int) ∧ (b : Int) ≤ 243 then (tl ((b : Int) - 240) 128 191 (W.drop (K + 1)) fun x1 l1 => tl x1 128 191 l1 fun x2 l2 => tl x2 128 191 l2 fun x3 _ => (x3, 4)) else if 244 ≤ (b : Int) ∧ (b : Int) ≤ 244 then (tl ((b : Int) - 240) 128 143 (W.drop (K + 1)) fun x1 l1 => tl x1 128 191 l1 fun x2 l2 => tl x2 128 191 l2 fun x3 _ => (x3, 4)) else ((65533, 1) : Int × Int)).2] :: R⟩ := by
  refine (long_run (n := 840) long1 (by omega) (by omega) hbb E (by omega) (by omega) (by omega) _ _ (fun v1 c1 c2 E1 x1 => ?_) (fun v1 E1 => (lr2 hW hN hb hK hbb E1).mono (by omega))).mono (by omega)
  refine (tail_run (n := 810) tail1_1 (by omega) (by omega) (by omega) (by omega) hW hN hb hK E1 x1 (by omega) (by omega) _ (fun c3 v2 d1 e1 f1 g1 E2 x2 => ?_)).mono (by omega)
  refine (tail_run (n := 785) tail1_2 (by omega) (by omega) (by omega) (by omega) hW hN hb hK E2 x2 (by omega) (by omega) _ (fun c4 v3 d2 e2 f2 g2 E3 x3 => ?_)).mono (by omega)
  exact (end_run end1_0 end1_1 (by omega) (by omega) (by omega) E3 x3).mono (by omega)
theorem lr0 {N K b : Nat} (hW : W.length = N) (hN : N ≤ 1000) (hb : ∀ y ∈ W, 0 ≤ y ∧ y ≤ 255) (hK : K < N) (hbb : b ≤ 255) (E : Env vs N K b) : Runs (drivenF allL name xs r d) 970 ⟨W, L, ⟨10, vs, [], 2, 0, want⟩ :: g :: R⟩ ⟨W, L, g.put false want [(if 194 ≤ (b : Int) ∧ (b : Int) ≤ 223 then (tl ((b : Int) - 192) 128 191 (W.drop (K + 1)) fun x1 l1 => (x1, 2)) else if 224 ≤ (b : Int) ∧ (b : Int) ≤ 224 then (tl ((b : Int) - 224) 160 191 (W.drop (K + 1)) fun x1 l1 => tl x1 128 191 l1 fun x2 l2 => (x2, 3)) else if 225 ≤ (b : Int) ∧ (b : Int) ≤ 236 then (tl ((b : Int) - 224) 128 191 (W.drop (K + 1)) fun x1 l1 => tl x1 128 191 l1 fun x2 l2 => (x2, 3)) else if 237 ≤ (b : Int) ∧ (b : Int) ≤ 237 then (tl ((b : Int) - 224) 128 159 (W.drop (K + 1)) fun x1 l1 => tl x1 128 191 l1 fun x2 l2 => (x2, 3)) else if 238 ≤ (b : Int) ∧ (b : Int) ≤ 239 then (tl ((b : Int) - 224) 128 191 (W.drop (K + 1)) fun x1 l1 => tl x1 128 191 l1 fun x2 l2 => (x2, 3)) else if 240 ≤ (b : Int) ∧ (b : Int) ≤ 240 then (tl ((b : Int) - 240) 144 191 (W.drop (K + 1)) fun x1 l1 => tl x1 128 191 l1 fun x2 l2 => tl x2 128 191 l2 fun x3 _ => (x3, 4)) else if 241 ≤ (b : Int) ∧ (b : Int) ≤ 243 then (tl ((b : Int) - 240) 128 191 (W.drop (K + 1)) fun x1 l1 => tl x1 128 191 l1 fun x2 l2 => tl x2 128 191 l2 fun x3 _ => (x3, 4)) else if 244 ≤ (b : Int) ∧ (b : Int) ≤ 244 then (tl ((b : Int) - 240) 128 143 (W.drop (K + 1)) fun x1 l1 => tl x1 128 191 l1 fun x2 l2 => tl x2 128 191 l2 fun x3 _ => (x3, 4)) else ((65533, 1) : Int × Int)).1, (if 194 ≤ (b : Int) ∧ (b : Int) ≤ 223 then (tl ((b : Int) - 192) 128 191 (W.drop (K + 1)) fun x1 l1 => (x1, 2)) else if 224 ≤ (b : Int) ∧ (b : Int) ≤ 224 then (tl ((b : Int) - 224) 160 191 (W.drop (K + 1)) fun x1 l1 => tl x1 128 191 l1 fun x2 l2 => (x2, 3)) else if 225 ≤ (b : Int) ∧ (b : Int) ≤ 236 then (tl ((b : Int) - 224) 128 191 (W.drop (K + 1)) fun x1 l1 => tl x1 128 191 l1 fun x2 l2 => (x2, 3)) else if 237 ≤ (b : Int) ∧ (b : Int) ≤ 237 then (tl ((b : Int) - 224) 128 159 (W.drop (K + 1)) fun x1 l1 => tl x1 128 191 l1 fun x2 l2 => (x2, 3)) else if 238 ≤ (b : Int) ∧ (b : Int) ≤ 239 then (tl ((b : Int) - 224) 128 191 (W.drop (K + 1)) fun x1 l1 => tl x1 128 191 l1 fun x2 l2 => (x2, 3)) else if 240 ≤ (b : Int) ∧ (b : Int) ≤ 240 then (tl ((b : Int) - 240) 144 191 (W.drop (K + 1)) fun x1 l1 => tl x1 128 191 l1 fun x2 l2 => tl x2 128 191 l2 fun x3 _ => (x3, 4)) else if 241 ≤ (b : Int) ∧ (b : Int) ≤ 243 then (tl ((b : Int) - 240) 128 191 (W.drop (K + 1)) fun x1 l1 => tl x1 128 191 l1 fun x2 l2 => tl x2 128 191 l2 fun x3 _ => (x3, 4)) else if 244 ≤ (b : Int) ∧ (b : Int) ≤ 244 then (tl ((b : Int) - 240) 128 143 (W.drop (K + 1)) fun x1 l1 => tl x1 128 191 l1 fun x2 l2 => tl x2 128 191 l2 fun x3 _ => (x3, 4)) else ((65533, 1) : Int × Int)).2] :: R⟩ := by
  refine (long_run (n := 960) long0 (by omega) (by omega) hbb E (by omega) (by omega) (by omega) _ _ (fun v1 c1 c2 E1 x1 => ?_) (fun v1 E1 => (lr1 hW hN hb hK hbb E1).mono (by omega))).mono (by omega)
  refine (tail_run (n := 930) tail0_1 (by omega) (by omega) (by omega) (by omega) hW hN hb hK E1 x1 (by omega) (by omega) _ (fun c3 v2 d1 e1 f1 g1 E2 x2 => ?_)).mono (by omega)
  exact (end_run end0_0 end0_1 (by omega) (by omega) (by omega) E2 x2).mono (by omega)
theorem rune_all {N K : Nat} (hW : W.length = N) (hN : N ≤ 1000) (hb : ∀ y ∈ W, 0 ≤ y ∧ y ≤ 255) (hK : K < N) (hl : vs.length = 426) (v0 : getI vs ((0 : Nat) : Int) = 0) (v1 : getI vs ((1 : Nat) : Int) = N) (v2 : getI vs ((2 : Nat) : Int) = K) :
    Runs (drivenF allL name xs r d) 1000 ⟨W, L, ⟨10, vs, [], 0, 0, want⟩ :: g :: R⟩ ⟨W, L, g.put false want [(runeF (W.drop K)).1, (runeF (W.drop K)).2] :: R⟩ := by
  have hKW : K < W.length := by omega
  obtain ⟨hb0, hb1⟩ := hb _ (getI_mem hKW)
  obtain ⟨b, hbe⟩ : ∃ b : Nat, (b : Int) = getI W (K : Int) := ⟨(getI W (K : Int)).toNat, by omega⟩
  rw [drop_cons hKW, ← hbe]
  rw [← hbe] at hb0 hb1
  have q1 : (0 : Int) ≤ (K : Int) := by omega
  have q2 : (K : Int) < (W.length : Int) := by omega
  have q3 : W.length ≤ 20000 := by omega
  have q4 : 3 < vs.length := by omega
  have w1 : wrap64 (0 + (K : Int)) = (K : Int) := by rw [wrap_small (by omega) (by omega)]; omega
  have a0 := st_m (name := name) (xs := xs) (r := r) (d := d) (W := W) (L := L) (R := g :: R) (want := want) (vs := vs) (x := (K : Int)) first_0 (by rw [v0, v2, s_plus, w1])
  have a1 := st_l (name := name) (xs := xs) (r := r) (d := d) (W := W) (L := L) (R := g :: R) (want := want) (vs := vs.set 3 (K : Int)) (x := (K : Int)) first_1 (by rw [getI_set_eq q4]; exact place_id q1 q2 q3) q1
  rw [← hbe] at a1
  have E : Env ((vs.set 3 (K : Int)).set 4 (b : Int)) N K b := ⟨by rw [List.length_set, List.length_set]; exact hl, by rw [getI_set_ne (by omega), getI_set_ne (by omega)]; exact v0, by rw [getI_set_ne (by omega), getI_set_ne (by omega)]; exact v1, by rw [getI_set_ne (by omega), getI_set_ne (by omega)]; exact v2, getI_set_eq (by rw [List.length_set]; omega)⟩
  generalize (vs.set 3 (K : Int)).set 4 (b : Int) = us at E a1
  have hl := E.len
  have a2 := st_k (name := name) (xs := xs) (r := r) (d := d) (W := W) (L := L) (R := g :: R) (want := want) (vs := us) first_2
  have E1 := E.set (e := 5) 128 (by omega)
  have a3 := st_m (name := name) (xs := xs) (r := r) (d := d) (W := W) (L := L) (R := g :: R) (want := want) (vs := us.set 5 128) (x := yesF (decide ((b : Int) < 128))) first_3 (by rw [E1.v4, getI_set_eq (by omega), s_lt])
  have E2 := E1.set (e := 6) (yesF (decide ((b : Int) < 128))) (by omega)
  have a4 := st_c (name := name) (xs := xs) (r := r) (d := d) (W := W) (L := L) (R := g :: R) (want := want) (vs := (us.set 5 128).set 6 (yesF (decide ((b : Int) < 128)))) first_4
  rw [getI_set_eq (by rw [List.length_set]; omega)] at a4
  generalize (us.set 5 128).set 6 (yesF (decide ((b : Int) < 128))) = ws at E2 a3 a4
  have A := a0.trans (a1.trans (a2.trans (a3.trans a4)))
  unfold runeF
  dsimp only
  by_cases h : (b : Int) < 128
  · rw [yes_pos (by simpa using h)] at A
    rw [if_pos h]
    have b0 := st_k (name := name) (xs := xs) (r := r) (d := d) (W := W) (L := L) (R := g :: R) (want := want) (vs := ws) one_0
    have b1 := st_b (name := name) (xs := xs) (r := r) (d := d) (W := W) (L := L) (R := R) (g := g) (want := want) (vs := ws.set 7 1) one_1
    rw [getI_set_ne (by omega), E2.v4, getI_set_eq (by rw [E2.len]; omega)] at b1
    exact (A.trans (b0.trans b1)).mono (by omega)
  · rw [yes_neg (by simpa using h)] at A
    rw [if_neg h]
    exact (A.trans (lr0 hW hN hb hK (by omega) E2)).mono (by omega)
theorem main_pre_rune (x0 x1 x2 : Int) (d : List Int) : stepN (drivenF allL ⟨#[95, 114, 117, 110, 101]⟩ [x0, x1, x2] 2 d) false 20000 4 (startF (drivenF allL ⟨#[95, 114, 117, 110, 101]⟩ [x0, x1, x2] 2 d)) = (0, ⟨d, [], [⟨10, [x0, x1, x2] ++ List.replicate 423 0, [], 0, 0, [3, 4]⟩, ⟨0, [x0, x1, x2, 0, 0, 0, 0], [], 0, 4, []⟩]⟩) := by kernel_rfl
theorem main_post_rune (x0 x1 x2 y0 y1 : Int) (d W : List Int) (n : Nat) : runF (drivenF allL ⟨#[95, 114, 117, 110, 101]⟩ [x0, x1, x2] 2 d) false 20000 (n + 3) ⟨W, [], [Lev.put ⟨0, [x0, x1, x2, 0, 0, 0, 0], [], 0, 4, []⟩ false [3, 4] [y0, y1]]⟩ = (1, [decS y0, decS y1]) := by kernel_rfl
theorem run_rune {W : List Int} {N K : Nat} (hW : W.length = N) (hN : N ≤ 1000) (hb : ∀ y ∈ W, 0 ≤ y ∧ y ≤ 255) (hK : K < N) : runF (drivenF allL ⟨#[95, 114, 117, 110, 101]⟩ [0, (N : Int), (K : Int)] 2 W) false 20000 200000 (startF (drivenF allL ⟨#[95, 114, 117, 110, 101]⟩ [0, (N : Int), (K : Int)] 2 W)) = (1, [decS (runeF (W.drop K)).1, decS (runeF (W.drop K)).2]) := by
  have h1 := Runs.of (main_pre_rune 0 N K W)
  have h2 := rune_all (name := ⟨#[95, 114, 117, 110, 101]⟩) (xs := [0, (N : Int), (K : Int)]) (r := 2) (d := W) (L := []) (R := []) (want := [3, 4]) (g := ⟨0, [0, N, K, 0, 0, 0, 0], [], 0, 4, []⟩) (vs := [0, (N : Int), (K : Int)] ++ List.replicate 423 0) hW hN hb hK (by simp) (by simp [getI]) (by simp [getI]) (by simp [getI])
  refine (h1.trans h2).run (by omega) (fun k hk => ?_)
  obtain ⟨m, rfl⟩ : ∃ m, k = m + 3 := ⟨k - 3, by omega⟩
  exact main_post_rune _ _ _ _ _ _ _ _
end
end Go.Proofs.Ytaomlfbcfmmhlaa

/-
  A rune in UTF-8, as Go reads it, and as rt's _rune does: plain law.
-/
namespace Go.Proofs.Ytaomlfbcfmmhlaa
open Go Go.RowKit Go.Pst
set_option linter.unusedVariables false
set_option linter.unusedSimpArgs false
set_option maxRecDepth 100000

def twoI (p : Nat × Nat) : Int × Int := ((p.1 : Int), (p.2 : Int))
/-- decode, of the first bytes as numbers; -1: there is none. -/
def decN (b0 b1 b2 b3 : Nat) : Nat × Nat :=
  if b0 < 0x80 then (b0, 1)
  else if b0 / 32 = 6 ∧ b1 / 64 = 2 then
    if (b0 % 32) * 64 + b1 % 64 ≥ 0x80 then ((b0 % 32) * 64 + b1 % 64, 2) else (65533, 1)
  else if b0 / 16 = 14 ∧ b1 / 64 = 2 ∧ b2 / 64 = 2 then
    if (b0 % 16) * 4096 + (b1 % 64) * 64 + b2 % 64 ≥ 0x800 ∧ ((b0 % 16) * 4096 + (b1 % 64) * 64 + b2 % 64 < 0xD800 ∨ 0xE000 ≤ (b0 % 16) * 4096 + (b1 % 64) * 64 + b2 % 64) then ((b0 % 16) * 4096 + (b1 % 64) * 64 + b2 % 64, 3) else (65533, 1)
  else if b0 / 8 = 30 ∧ b1 / 64 = 2 ∧ b2 / 64 = 2 ∧ b3 / 64 = 2 then
    if (b0 % 8) * 262144 + (b1 % 64) * 4096 + (b2 % 64) * 64 + b3 % 64 ≥ 0x10000 ∧ (b0 % 8) * 262144 + (b1 % 64) * 4096 + (b2 % 64) * 64 + b3 % 64 ≤ 0x10FFFF then ((b0 % 8) * 262144 + (b1 % 64) * 4096 + (b2 % 64) * 64 + b3 % 64, 4) else (65533, 1)
  else (65533, 1)
set_option maxHeartbeats 4000000 in
theorem decN_4 {b0 b1 b2 b3 : Nat} (l : List Int) (h0 : b0 < 256) (h1 : b1 < 256) (h2 : b2 < 256) (h3 : b3 < 256) : runeF ((b0 : Int) :: (b1 : Int) :: (b2 : Int) :: (b3 : Int) :: l) = twoI (decN b0 b1 b2 b3) := by
  by_cases c0 : b0 < 128
  · unfold runeF decN twoI
    dsimp only
    rw [if_pos (by omega), if_pos c0]
    rfl
  by_cases c1 : 194 ≤ b0 ∧ b0 ≤ 223
  · unfold runeF decN twoI
    dsimp only
    rw [if_neg (by omega), if_pos (by omega), if_neg (by omega)]
    simp only [tl]
    repeat' split
    all_goals first | (exfalso; omega) | (refine Prod.ext ?_ ?_ <;> dsimp only <;> omega)
  by_cases c2 : 224 ≤ b0 ∧ b0 ≤ 224
  · unfold runeF decN twoI
    dsimp only
    rw [if_neg (by omega), if_neg (by omega), if_pos (by omega), if_neg (by omega)]
    simp only [tl]
    repeat' split
    all_goals first | (exfalso; omega) | (refine Prod.ext ?_ ?_ <;> dsimp only <;> omega)
  by_cases c3 : 225 ≤ b0 ∧ b0 ≤ 236
  · unfold runeF decN twoI
    dsimp only
    rw [if_neg (by omega), if_neg (by omega), if_neg (by omega), if_pos (by omega), if_neg (by omega)]
    simp only [tl]
    repeat' split
    all_goals first | (exfalso; omega) | (refine Prod.ext ?_ ?_ <;> dsimp only <;> omega)
  by_cases c4 : 237 ≤ b0 ∧ b0 ≤ 237
  · unfold runeF decN twoI
    dsimp only
    rw [if_neg (by omega), if_neg (by omega), if_neg (by omega), if_neg (by omega), if_pos (by omega), if_neg (by omega)]
    simp only [tl]
    repeat' split
    all_goals first | (exfalso; omega) | (refine Prod.ext ?_ ?_ <;> dsimp only <;> omega)
  by_cases c5 : 238 ≤ b0 ∧ b0 ≤ 239
  · unfold runeF decN twoI
    dsimp only
    rw [if_neg (by omega), if_neg (by omega), if_neg (by omega), if_neg (by omega), if_neg (by omega), if_pos (by omega), if_neg (by omega)]
    simp only [tl]
    repeat' split
    all_goals first | (exfalso; omega) | (refine Prod.ext ?_ ?_ <;> dsimp only <;> omega)
  by_cases c6 : 240 ≤ b0 ∧ b0 ≤ 240
  · unfold runeF decN twoI
    dsimp only
    rw [if_neg (by omega), if_neg (by omega), if_neg (by omega), if_neg (by omega), if_neg (by omega), if_neg (by omega), if_pos (by omega), if_neg (by omega)]
    simp only [tl]
    repeat' split
    all_goals first | (exfalso; omega) | (refine Prod.ext ?_ ?_ <;> dsimp only <;> omega)
  by_cases c7 : 241 ≤ b0 ∧ b0 ≤ 243
  · unfold runeF decN twoI
    dsimp only
    rw [if_neg (by omega), if_neg (by omega), if_neg (by omega), if_neg (by omega), if_neg (by omega), if_neg (by omega), if_neg (by omega), if_pos (by omega), if_neg (by omega)]
    simp only [tl]
    repeat' split
    all_goals first | (exfalso; omega) | (refine Prod.ext ?_ ?_ <;> dsimp only <;> omega)
  by_cases c8 : 244 ≤ b0 ∧ b0 ≤ 244
  · unfold runeF decN twoI
    dsimp only
    rw [if_neg (by omega), if_neg (by omega), if_neg (by omega), if_neg (by omega), if_neg (by omega), if_neg (by omega), if_neg (by omega), if_neg (by omega), if_pos (by omega), if_neg (by omega)]
    simp only [tl]
    repeat' split
    all_goals first | (exfalso; omega) | (refine Prod.ext ?_ ?_ <;> dsimp only <;> omega)
  · unfold runeF decN twoI
    dsimp only
    rw [if_neg (by omega), if_neg (by omega), if_neg (by omega), if_neg (by omega), if_neg (by omega), if_neg (by omega), if_neg (by omega), if_neg (by omega), if_neg (by omega), if_neg (by omega)]
    repeat' split
    all_goals first | (exfalso; omega) | (refine Prod.ext ?_ ?_ <;> dsimp only <;> omega)
set_option maxHeartbeats 4000000 in
theorem decN_3 {b0 b1 b2 : Nat} (h0 : b0 < 256) (h1 : b1 < 256) (h2 : b2 < 256) : runeF [(b0 : Int), (b1 : Int), (b2 : Int)] = twoI (decN b0 b1 b2 0) := by
  by_cases c0 : b0 < 128
  · unfold runeF decN twoI
    dsimp only
    rw [if_pos (by omega), if_pos c0]
    rfl
  by_cases c1 : 194 ≤ b0 ∧ b0 ≤ 223
  · unfold runeF decN twoI
    dsimp only
    rw [if_neg (by omega), if_pos (by omega), if_neg (by omega)]
    simp only [tl]
    repeat' split
    all_goals first | (exfalso; omega) | (refine Prod.ext ?_ ?_ <;> dsimp only <;> omega)
  by_cases c2 : 224 ≤ b0 ∧ b0 ≤ 224
  · unfold runeF decN twoI
    dsimp only
    rw [if_neg (by omega), if_neg (by omega), if_pos (by omega), if_neg (by omega)]
    simp only [tl]
    repeat' split
    all_goals first | (exfalso; omega) | (refine Prod.ext ?_ ?_ <;> dsimp only <;> omega)
  by_cases c3 : 225 ≤ b0 ∧ b0 ≤ 236
  · unfold runeF decN twoI
    dsimp only
    rw [if_neg (by omega), if_neg (by omega), if_neg (by omega), if_pos (by omega), if_neg (by omega)]
    simp only [tl]
    repeat' split
    all_goals first | (exfalso; omega) | (refine Prod.ext ?_ ?_ <;> dsimp only <;> omega)
  by_cases c4 : 237 ≤ b0 ∧ b0 ≤ 237
  · unfold runeF decN twoI
    dsimp only
    rw [if_neg (by omega), if_neg (by omega), if_neg (by omega), if_neg (by omega), if_pos (by omega), if_neg (by omega)]
    simp only [tl]
    repeat' split
    all_goals first | (exfalso; omega) | (refine Prod.ext ?_ ?_ <;> dsimp only <;> omega)
  by_cases c5 : 238 ≤ b0 ∧ b0 ≤ 239
  · unfold runeF decN twoI
    dsimp only
    rw [if_neg (by omega), if_neg (by omega), if_neg (by omega), if_neg (by omega), if_neg (by omega), if_pos (by omega), if_neg (by omega)]
    simp only [tl]
    repeat' split
    all_goals first | (exfalso; omega) | (refine Prod.ext ?_ ?_ <;> dsimp only <;> omega)
  by_cases c6 : 240 ≤ b0 ∧ b0 ≤ 240
  · unfold runeF decN twoI
    dsimp only
    rw [if_neg (by omega), if_neg (by omega), if_neg (by omega), if_neg (by omega), if_neg (by omega), if_neg (by omega), if_pos (by omega), if_neg (by omega)]
    simp only [tl]
    repeat' split
    all_goals first | (exfalso; omega) | (refine Prod.ext ?_ ?_ <;> dsimp only <;> omega)
  by_cases c7 : 241 ≤ b0 ∧ b0 ≤ 243
  · unfold runeF decN twoI
    dsimp only
    rw [if_neg (by omega), if_neg (by omega), if_neg (by omega), if_neg (by omega), if_neg (by omega), if_neg (by omega), if_neg (by omega), if_pos (by omega), if_neg (by omega)]
    simp only [tl]
    repeat' split
    all_goals first | (exfalso; omega) | (refine Prod.ext ?_ ?_ <;> dsimp only <;> omega)
  by_cases c8 : 244 ≤ b0 ∧ b0 ≤ 244
  · unfold runeF decN twoI
    dsimp only
    rw [if_neg (by omega), if_neg (by omega), if_neg (by omega), if_neg (by omega), if_neg (by omega), if_neg (by omega), if_neg (by omega), if_neg (by omega), if_pos (by omega), if_neg (by omega)]
    simp only [tl]
    repeat' split
    all_goals first | (exfalso; omega) | (refine Prod.ext ?_ ?_ <;> dsimp only <;> omega)
  · unfold runeF decN twoI
    dsimp only
    rw [if_neg (by omega), if_neg (by omega), if_neg (by omega), if_neg (by omega), if_neg (by omega), if_neg (by omega), if_neg (by omega), if_neg (by omega), if_neg (by omega), if_neg (by omega)]
    repeat' split
    all_goals first | (exfalso; omega) | (refine Prod.ext ?_ ?_ <;> dsimp only <;> omega)
set_option maxHeartbeats 4000000 in
theorem decN_2 {b0 b1 : Nat} (h0 : b0 < 256) (h1 : b1 < 256) : runeF [(b0 : Int), (b1 : Int)] = twoI (decN b0 b1 0 0) := by
  by_cases c0 : b0 < 128
  · unfold runeF decN twoI
    dsimp only
    rw [if_pos (by omega), if_pos c0]
    rfl
  by_cases c1 : 194 ≤ b0 ∧ b0 ≤ 223
  · unfold runeF decN twoI
    dsimp only
    rw [if_neg (by omega), if_pos (by omega), if_neg (by omega)]
    simp only [tl]
    repeat' split
    all_goals first | (exfalso; omega) | (refine Prod.ext ?_ ?_ <;> dsimp only <;> omega)
  by_cases c2 : 224 ≤ b0 ∧ b0 ≤ 224
  · unfold runeF decN twoI
    dsimp only
    rw [if_neg (by omega), if_neg (by omega), if_pos (by omega), if_neg (by omega)]
    simp only [tl]
    repeat' split
    all_goals first | (exfalso; omega) | (refine Prod.ext ?_ ?_ <;> dsimp only <;> omega)
  by_cases c3 : 225 ≤ b0 ∧ b0 ≤ 236
  · unfold runeF decN twoI
    dsimp only
    rw [if_neg (by omega), if_neg (by omega), if_neg (by omega), if_pos (by omega), if_neg (by omega)]
    simp only [tl]
    repeat' split
    all_goals first | (exfalso; omega) | (refine Prod.ext ?_ ?_ <;> dsimp only <;> omega)
  by_cases c4 : 237 ≤ b0 ∧ b0 ≤ 237
  · unfold runeF decN twoI
    dsimp only
    rw [if_neg (by omega), if_neg (by omega), if_neg (by omega), if_neg (by omega), if_pos (by omega), if_neg (by omega)]
    simp only [tl]
    repeat' split
    all_goals first | (exfalso; omega) | (refine Prod.ext ?_ ?_ <;> dsimp only <;> omega)
  by_cases c5 : 238 ≤ b0 ∧ b0 ≤ 239
  · unfold runeF decN twoI
    dsimp only
    rw [if_neg (by omega), if_neg (by omega), if_neg (by omega), if_neg (by omega), if_neg (by omega), if_pos (by omega), if_neg (by omega)]
    simp only [tl]
    repeat' split
    all_goals first | (exfalso; omega) | (refine Prod.ext ?_ ?_ <;> dsimp only <;> omega)
  by_cases c6 : 240 ≤ b0 ∧ b0 ≤ 240
  · unfold runeF decN twoI
    dsimp only
    rw [if_neg (by omega), if_neg (by omega), if_neg (by omega), if_neg (by omega), if_neg (by omega), if_neg (by omega), if_pos (by omega), if_neg (by omega)]
    simp only [tl]
    repeat' split
    all_goals first | (exfalso; omega) | (refine Prod.ext ?_ ?_ <;> dsimp only <;> omega)
  by_cases c7 : 241 ≤ b0 ∧ b0 ≤ 243
  · unfold runeF decN twoI
    dsimp only
    rw [if_neg (by omega), if_neg (by omega), if_neg (by omega), if_neg (by omega), if_neg (by omega), if_neg (by omega), if_neg (by omega), if_pos (by omega), if_neg (by omega)]
    simp only [tl]
    repeat' split
    all_goals first | (exfalso; omega) | (refine Prod.ext ?_ ?_ <;> dsimp only <;> omega)
  by_cases c8 : 244 ≤ b0 ∧ b0 ≤ 244
  · unfold runeF decN twoI
    dsimp only
    rw [if_neg (by omega), if_neg (by omega), if_neg (by omega), if_neg (by omega), if_neg (by omega), if_neg (by omega), if_neg (by omega), if_neg (by omega), if_pos (by omega), if_neg (by omega)]
    simp only [tl]
    repeat' split
    all_goals first | (exfalso; omega) | (refine Prod.ext ?_ ?_ <;> dsimp only <;> omega)
  · unfold runeF decN twoI
    dsimp only
    rw [if_neg (by omega), if_neg (by omega), if_neg (by omega), if_neg (by omega), if_neg (by omega), if_neg (by omega), if_neg (by omega), if_neg (by omega), if_neg (by omega), if_neg (by omega)]
    repeat' split
    all_goals first | (exfalso; omega) | (refine Prod.ext ?_ ?_ <;> dsimp only <;> omega)
set_option maxHeartbeats 4000000 in
theorem decN_1 {b0 : Nat} (h0 : b0 < 256) : runeF [(b0 : Int)] = twoI (decN b0 0 0 0) := by
  by_cases c0 : b0 < 128
  · unfold runeF decN twoI
    dsimp only
    rw [if_pos (by omega), if_pos c0]
    rfl
  by_cases c1 : 194 ≤ b0 ∧ b0 ≤ 223
  · unfold runeF decN twoI
    dsimp only
    rw [if_neg (by omega), if_pos (by omega), if_neg (by omega)]
    simp only [tl]
    repeat' split
    all_goals first | (exfalso; omega) | (refine Prod.ext ?_ ?_ <;> dsimp only <;> omega)
  by_cases c2 : 224 ≤ b0 ∧ b0 ≤ 224
  · unfold runeF decN twoI
    dsimp only
    rw [if_neg (by omega), if_neg (by omega), if_pos (by omega), if_neg (by omega)]
    simp only [tl]
    repeat' split
    all_goals first | (exfalso; omega) | (refine Prod.ext ?_ ?_ <;> dsimp only <;> omega)
  by_cases c3 : 225 ≤ b0 ∧ b0 ≤ 236
  · unfold runeF decN twoI
    dsimp only
    rw [if_neg (by omega), if_neg (by omega), if_neg (by omega), if_pos (by omega), if_neg (by omega)]
    simp only [tl]
    repeat' split
    all_goals first | (exfalso; omega) | (refine Prod.ext ?_ ?_ <;> dsimp only <;> omega)
  by_cases c4 : 237 ≤ b0 ∧ b0 ≤ 237
  · unfold runeF decN twoI
    dsimp only
    rw [if_neg (by omega), if_neg (by omega), if_neg (by omega), if_neg (by omega), if_pos (by omega), if_neg (by omega)]
    simp only [tl]
    repeat' split
    all_goals first | (exfalso; omega) | (refine Prod.ext ?_ ?_ <;> dsimp only <;> omega)
  by_cases c5 : 238 ≤ b0 ∧ b0 ≤ 239
  · unfold runeF decN twoI
    dsimp only
    rw [if_neg (by omega), if_neg (by omega), if_neg (by omega), if_neg (by omega), if_neg (by omega), if_pos (by omega), if_neg (by omega)]
    simp only [tl]
    repeat' split
    all_goals first | (exfalso; omega) | (refine Prod.ext ?_ ?_ <;> dsimp only <;> omega)
  by_cases c6 : 240 ≤ b0 ∧ b0 ≤ 240
  · unfold runeF decN twoI
    dsimp only
    rw [if_neg (by omega), if_neg (by omega), if_neg (by omega), if_neg (by omega), if_neg (by omega), if_neg (by omega), if_pos (by omega), if_neg (by omega)]
    simp only [tl]
    repeat' split
    all_goals first | (exfalso; omega) | (refine Prod.ext ?_ ?_ <;> dsimp only <;> omega)
  by_cases c7 : 241 ≤ b0 ∧ b0 ≤ 243
  · unfold runeF decN twoI
    dsimp only
    rw [if_neg (by omega), if_neg (by omega), if_neg (by omega), if_neg (by omega), if_neg (by omega), if_neg (by omega), if_neg (by omega), if_pos (by omega), if_neg (by omega)]
    simp only [tl]
    repeat' split
    all_goals first | (exfalso; omega) | (refine Prod.ext ?_ ?_ <;> dsimp only <;> omega)
  by_cases c8 : 244 ≤ b0 ∧ b0 ≤ 244
  · unfold runeF decN twoI
    dsimp only
    rw [if_neg (by omega), if_neg (by omega), if_neg (by omega), if_neg (by omega), if_neg (by omega), if_neg (by omega), if_neg (by omega), if_neg (by omega), if_pos (by omega), if_neg (by omega)]
    simp only [tl]
    repeat' split
    all_goals first | (exfalso; omega) | (refine Prod.ext ?_ ?_ <;> dsimp only <;> omega)
  · unfold runeF decN twoI
    dsimp only
    rw [if_neg (by omega), if_neg (by omega), if_neg (by omega), if_neg (by omega), if_neg (by omega), if_neg (by omega), if_neg (by omega), if_neg (by omega), if_neg (by omega), if_neg (by omega)]
    repeat' split
    all_goals first | (exfalso; omega) | (refine Prod.ext ?_ ?_ <;> dsimp only <;> omega)
def byteN (s : ByteArray) (k : Nat) : Nat := if k < s.size then (s.get! k).toNat else 0
theorem valid_eq (c : Nat) : Utf8.valid (c : Int) = true ↔ (c < 0xD800 ∨ (0xE000 ≤ c ∧ c ≤ 0x10FFFF)) := by
  unfold Utf8.valid
  simp only [Bool.or_eq_true, Bool.and_eq_true, decide_eq_true_eq]
  omega
theorem decode_eq (s : ByteArray) (h : 0 < s.size) : Utf8.decode s 0 = decN (byteN s 0) (byteN s 1) (byteN s 2) (byteN s 3) := by
  have b : ∀ k, byteN s k < 256 := fun k => by unfold byteN; split; exact UInt8.toNat_lt _; omega
  have c : ∀ k, (decide (0 + k < s.size) && (s.get! (0 + k)).toNat / 64 == 2) = decide (byteN s k / 64 = 2) := fun k => by
    unfold byteN
    rw [Nat.zero_add]
    by_cases hk : k < s.size
    · simp only [hk, if_true, decide_true, Bool.true_and]
      by_cases h2 : (s.get! k).toNat / 64 = 2 <;> simp [h2]
    · simp [hk]
  have g : ∀ k, k < s.size → (s.get! (0 + k)).toNat = byteN s k := fun k hk => by unfold byteN; rw [if_pos hk, Nat.zero_add]
  have sz : ∀ k, byteN s k / 64 = 2 → k < s.size := fun k hk => by
    apply Decidable.byContradiction
    intro hn
    unfold byteN at hk
    rw [if_neg hn] at hk
    omega
  unfold Utf8.decode decN
  have g0 := g 0 h
  simp only [c, g0]
  simp only [beq_iff_eq, Bool.and_eq_true, decide_eq_true_eq, Bool.decide_and, ge_iff_le]
  have B0 := b 0
  have B1 := b 1
  have B2 := b 2
  have B3 := b 3
  by_cases h0 : byteN s 0 < 128
  · rw [if_pos h0, if_pos h0]
  rw [if_neg h0, if_neg h0]
  by_cases hc : byteN s 0 / 32 = 6 ∧ byteN s 1 / 64 = 2
  · rw [if_pos hc, if_pos hc, g 1 (sz 1 hc.2)]
    rfl
  rw [if_neg hc, if_neg hc]
  by_cases hd : byteN s 0 / 16 = 14 ∧ byteN s 1 / 64 = 2 ∧ byteN s 2 / 64 = 2
  · rw [if_pos (⟨⟨hd.1, hd.2.1⟩, hd.2.2⟩ : (byteN s 0 / 16 = 14 ∧ byteN s 1 / 64 = 2) ∧ byteN s 2 / 64 = 2), if_pos hd, g 1 (sz 1 hd.2.1), g 2 (sz 2 hd.2.2)]
    simp only [valid_eq]
    have hx : byteN s 0 % 16 * 4096 + byteN s 1 % 64 * 64 + byteN s 2 % 64 ≤ 0x10FFFF := by omega
    generalize byteN s 0 % 16 * 4096 + byteN s 1 % 64 * 64 + byteN s 2 % 64 = x at *
    by_cases he : 2048 ≤ x ∧ (x < 0xD800 ∨ 0xE000 ≤ x)
    · rw [if_pos (by omega), if_pos he]
    · rw [if_neg (by omega), if_neg he]
      rfl
  rw [if_neg (fun hh : (byteN s 0 / 16 = 14 ∧ byteN s 1 / 64 = 2) ∧ byteN s 2 / 64 = 2 => hd ⟨hh.1.1, hh.1.2, hh.2⟩), if_neg hd]
  by_cases hf : byteN s 0 / 8 = 30 ∧ byteN s 1 / 64 = 2 ∧ byteN s 2 / 64 = 2 ∧ byteN s 3 / 64 = 2
  · rw [if_pos (⟨⟨⟨hf.1, hf.2.1⟩, hf.2.2.1⟩, hf.2.2.2⟩ : ((byteN s 0 / 8 = 30 ∧ byteN s 1 / 64 = 2) ∧ byteN s 2 / 64 = 2) ∧ byteN s 3 / 64 = 2), if_pos hf, g 1 (sz 1 hf.2.1), g 2 (sz 2 hf.2.2.1), g 3 (sz 3 hf.2.2.2)]
    simp only [valid_eq]
    generalize byteN s 0 % 8 * 262144 + byteN s 1 % 64 * 4096 + byteN s 2 % 64 * 64 + byteN s 3 % 64 = x at *
    by_cases he : 65536 ≤ x ∧ x ≤ 0x10FFFF
    · rw [if_pos (by omega), if_pos he]
    · rw [if_neg (by omega), if_neg he]
      rfl
  rw [if_neg (fun hh : ((byteN s 0 / 8 = 30 ∧ byteN s 1 / 64 = 2) ∧ byteN s 2 / 64 = 2) ∧ byteN s 3 / 64 = 2 => hf ⟨hh.1.1.1, hh.1.1.2, hh.1.2, hh.2⟩), if_neg hf]
  rfl
theorem decode_rune (s : ByteArray) (h : 0 < s.size) : twoI (Utf8.decode s 0) = runeF (bytesI s.data.toList) := by
  rw [decode_eq s h]
  obtain ⟨⟨l⟩⟩ := s
  have e : ∀ k, byteN ⟨⟨l⟩⟩ k = (l.map UInt8.toNat).getD k 0 := fun k => by
    unfold byteN
    by_cases hk : k < l.length
    · rw [if_pos (by exact hk)]
      simp [List.getD, hk, ByteArray.get!]
    · rw [if_neg (by exact hk)]
      simp [List.getD, hk]
  rw [e 0, e 1, e 2, e 3]
  match l with
  | [] => exact absurd h (by decide)
  | [a] => exact (decN_1 (UInt8.toNat_lt a)).symm
  | [a, b] => exact (decN_2 (UInt8.toNat_lt a) (UInt8.toNat_lt b)).symm
  | [a, b, c] => exact (decN_3 (UInt8.toNat_lt a) (UInt8.toNat_lt b) (UInt8.toNat_lt c)).symm
  | a :: b :: c :: d :: r => exact (decN_4 _ (UInt8.toNat_lt a) (UInt8.toNat_lt b) (UInt8.toNat_lt c) (UInt8.toNat_lt d)).symm
/-- What Go says of how long a rune is, when it is written. -/
theorem enc_size (c : Nat) (hv : c < 0xD800 ∨ (0xE000 ≤ c ∧ c ≤ 0x10FFFF)) : (Utf8.encode (c : Int)).size = if c < 128 then 1 else if c < 2048 then 2 else if c < 65536 then 3 else 4 := by
  unfold Utf8.encode
  rw [(valid_eq c).2 hv]
  simp only [if_true, Int.toNat_natCast]
  repeat' split
  all_goals first | rfl | (exfalso; omega)
set_option maxHeartbeats 4000000 in
theorem decN_len (b0 b1 b2 b3 : Nat) (h0 : b0 < 256) (hne : (decN b0 b1 b2 b3).1 ≠ 65533) : (Utf8.encode ((decN b0 b1 b2 b3).1 : Int)).size = (decN b0 b1 b2 b3).2 := by
  have hv : (decN b0 b1 b2 b3).1 < 0xD800 ∨ (0xE000 ≤ (decN b0 b1 b2 b3).1 ∧ (decN b0 b1 b2 b3).1 ≤ 0x10FFFF) := by
    unfold decN
    repeat' split
    all_goals (dsimp only; omega)
  rw [enc_size _ hv]
  clear hv
  revert hne
  unfold decN
  repeat' split
  all_goals (intro hne; dsimp only at * <;> first | rfl | (exfalso; omega) | omega)
set_option maxHeartbeats 4000000 in
theorem decN_bad (b0 b1 b2 b3 : Nat) (h0 : b0 < 256) (h1 : b1 < 256) (h2 : b2 < 256) (he : (decN b0 b1 b2 b3).1 = 65533) : (decN b0 b1 b2 b3).2 = if b0 = 239 ∧ b1 = 191 ∧ b2 = 189 then 3 else 1 := by
  revert he
  unfold decN
  repeat' split
  all_goals (intro he; dsimp only at * <;> first | rfl | (exfalso; omega) | omega)
theorem byteN_lt (s : ByteArray) (k : Nat) : byteN s k < 256 := by
  unfold byteN
  split
  · exact UInt8.toNat_lt _
  · omega
theorem decode_len (s : ByteArray) (h : 0 < s.size) (hne : (Utf8.decode s 0).1 ≠ 65533) : (Utf8.encode ((Utf8.decode s 0).1 : Int)).size = (Utf8.decode s 0).2 := by
  rw [decode_eq s h] at hne ⊢
  exact decN_len _ _ _ _ (byteN_lt _ _) hne
theorem decode_bad (s : ByteArray) (h : 0 < s.size) (he : (Utf8.decode s 0).1 = 65533) : (Utf8.decode s 0).2 = if byteN s 0 = 239 ∧ byteN s 1 = 191 ∧ byteN s 2 = 189 then 3 else 1 := by
  rw [decode_eq s h] at he ⊢
  exact decN_bad _ _ _ _ (byteN_lt _ _) (byteN_lt _ _) (byteN_lt _ _) he
theorem short_mark (s : ByteArray) (h : s.size < 3) : ¬ (byteN s 0 = 239 ∧ byteN s 1 = 191 ∧ byteN s 2 = 189) := fun hh => by
  have := hh.2.2
  unfold byteN at this
  rw [if_neg (by omega)] at this
  omega
theorem u8_eq {a : UInt8} {n : Nat} (hn : n < 256) : a.toNat = n ↔ a = UInt8.ofNat n := by
  constructor
  · intro h
    apply UInt8.toNat_inj.1
    rw [h, UInt8.toNat_ofNat', Nat.mod_eq_of_lt hn]
  · intro h
    rw [h, UInt8.toNat_ofNat', Nat.mod_eq_of_lt hn]
theorem mark_eq (s : ByteArray) (h : 3 ≤ s.size) : ((s.extract 0 3).toList == [239, 191, 189]) = decide (byteN s 0 = 239 ∧ byteN s 1 = 191 ∧ byteN s 2 = 189) := by
  obtain ⟨⟨l⟩⟩ := s
  match l, h with
  | a :: b :: c :: r, _ =>
    have e0 : byteN ⟨⟨a :: b :: c :: r⟩⟩ 0 = a.toNat := rfl
    have e1 : byteN ⟨⟨a :: b :: c :: r⟩⟩ 1 = b.toNat := by
      unfold byteN
      rw [if_pos (by show 1 < (a :: b :: c :: r).length; simp)]
      rfl
    have e2 : byteN ⟨⟨a :: b :: c :: r⟩⟩ 2 = c.toNat := by
      unfold byteN
      rw [if_pos (by show 2 < (a :: b :: c :: r).length; simp)]
      rfl
    rw [Bool.eq_iff_iff, decide_eq_true_eq, e0, e1, e2, ByteArray.toList_eq, u8_eq (by omega), u8_eq (by omega), u8_eq (by omega)]
    have e : (ByteArray.extract ⟨⟨a :: b :: c :: r⟩⟩ 0 3).data.toList = [a, b, c] := by simp
    rw [e]
    have k : ∀ x y : UInt8, (x == y) = decide (x = y) := fun x y => by by_cases h : x = y <;> simp [h]
    simp [k]
end Go.Proofs.Ytaomlfbcfmmhlaa

/-
  Texts joined: Lit One Picked IMap CodeMathWalk Atoi CodePartsWalk PartsTables.
-/
import Derived.Test.YtaomlfbcfmmhlaaDoorBigA
import Derived.Test.YtaomlfbcfmmhlaaDoorBigG
import Derived.Maps.OwnSet
import Derived.Test.YtaomlfbcfmmhlaaDoorBigM
import Derived.Lib.AtoiAllCases
import Derived.Test.YtaomlfbcfmmhlaaDoorShelfB

/-
  Literals of slices and structs in new blocks, and how they read (plain memory).
-/
namespace Go.Pst
open Go.RowKit
set_option linter.unusedVariables false
set_option linter.unusedSimpArgs false

theorem flat_get {sz : Nat} : ∀ (ess : List (List Value)) (i j : Nat) (h : i < ess.length), (∀ es ∈ ess, es.length = sz) → j < sz → ess.flatten[i * sz + j]? = ess[i][j]?
  | [], i, j, h, _, _ => by simp at h
  | es :: r, 0, j, h, hs, hj => by
    have := hs es (by simp)
    simp [List.getElem?_append_left (show j < es.length by omega)]
  | es :: r, i + 1, j, h, hs, hj => by
    have h1 := hs es (by simp)
    have h2 := flat_get r i j (by simpa using h) (fun x hx => hs x (by simp [hx])) hj
    rw [List.flatten_cons, List.getElem?_append_right (by rw [h1, Nat.succ_mul]; omega), h1, show (i + 1) * sz + j - sz = i * sz + j by rw [Nat.succ_mul]; omega, h2]
    simp
/-- A list laid as a literal, in one block of its own. -/
theorem rSlice_lit {α : Type} (sz : Nat) (R : Rep α) (S : Nat → Prop) (w : World) (b : Nat) (t : TypeId) (fr : Nat × Nat) (l : List α) (ess : List (List Value)) (hlen : ess.length = l.length) (hsz : ∀ es ∈ ess, es.length = sz) (hS : S b) (hm : l.length ≤ maxLen)
    (hc : w.heap[b]? = some (.cells ess.flatten.toArray t fr)) (hR : ∀ i (h : i < l.length), R S w (ess[i]'(by omega)) l[i]) : rSlice sz R S w [.slice (some ⟨b, 0, none⟩) l.length l.length] l := by
  refine ⟨_, _, rfl, Nat.le_refl _, hm, fun i hi => ⟨b, 0, ess[i]'(by omega), rfl, hS, (Array.getElem?_eq_some_iff.1 hc).1, hsz _ (List.getElem_mem _), fun j hj => ?_, hR i hi⟩⟩
  rw [← flat_get ess i j (by omega) hsz hj]
  simp [World.cell?, hc]

/-- Each of a list's elements reads from its cells. -/
def rAll {α : Type} (sz : Nat) (R : Rep α) (S : Nat → Prop) (w : World) : List (List Value) → List α → Prop
  | [], [] => True
  | es :: r, x :: l => (es.length = sz ∧ R S w es x) ∧ rAll sz R S w r l
  | _, _ => False
theorem rAll_len {α : Type} {sz : Nat} {R : Rep α} {S : Nat → Prop} {w : World} : ∀ {ess : List (List Value)} {l : List α}, rAll sz R S w ess l → ess.length = l.length
  | [], [], _ => rfl
  | es :: r, x :: l, h => by simpa using rAll_len h.2
theorem rAll_size {α : Type} {sz : Nat} {R : Rep α} {S : Nat → Prop} {w : World} : ∀ {ess : List (List Value)} {l : List α}, rAll sz R S w ess l → ∀ es ∈ ess, es.length = sz
  | [], [], _, es, h => by simp at h
  | es :: r, x :: l, h, e, he => by
    rcases List.mem_cons.1 he with rfl | he
    · exact h.1.1
    · exact rAll_size h.2 e he
theorem rAll_get {α : Type} {sz : Nat} {R : Rep α} {S : Nat → Prop} {w : World} : ∀ {ess : List (List Value)} {l : List α}, rAll sz R S w ess l → ∀ i (h : i < l.length) (h' : i < ess.length), R S w ess[i] l[i]
  | [], [], _, i, h, _ => by simp at h
  | es :: r, x :: l, h, 0, _, _ => h.1.2
  | es :: r, x :: l, h, i + 1, hi, hi' => by simpa using rAll_get h.2 i (by simpa using hi) (by simpa using hi')
/-- A literal's reading, element by element. -/
theorem rSlice_all {α : Type} {sz : Nat} {R : Rep α} {S : Nat → Prop} {w : World} {b : Nat} {t : TypeId} {fr : Nat × Nat} {l : List α} (ess : List (List Value)) (hS : S b) (hm : l.length ≤ maxLen)
    (hc : w.heap[b]? = some (.cells ess.flatten.toArray t fr)) (hR : rAll sz R S w ess l) : rSlice sz R S w [.slice (some ⟨b, 0, none⟩) l.length l.length] l :=
  rSlice_lit sz R S w b t fr l ess (rAll_len hR) (rAll_size hR) hS hm hc (fun i hi => rAll_get hR i hi (by rw [rAll_len hR]; exact hi))
theorem lit_all : ∀ {S : Nat → Prop} {w : World} {l : List Int}, (∀ x ∈ l, InI x) → rAll 1 rInt S w (l.map fun x => [.int .i64 x]) l
  | _, _, [], _ => trivial
  | _, _, x :: l, h => ⟨⟨rfl, rfl, h x (by simp)⟩, lit_all (fun y hy => h y (by simp [hy]))⟩
/-- A literal of numbers. -/
theorem rInts_all {S : Nat → Prop} {w : World} {b : Nat} {t : TypeId} {fr : Nat × Nat} (l : List Int) (hS : S b) (hm : l.length ≤ maxLen) (hI : ∀ x ∈ l, InI x)
    (hc : w.heap[b]? = some (.cells ((l.map fun x => [Value.int .i64 x]).flatten.toArray) t fr)) : rInts S w [.slice (some ⟨b, 0, none⟩) l.length l.length] l :=
  rSlice_all _ hS hm hc (lit_all hI)
theorem lit_instr {S : Nat → Prop} {w : World} {op n : Int} {s : ByteArray} {v1 v2 v5 : Value} {ds as' tt : List Int} (hop : InI op) (hn : InI n) (hs : s.size ≤ maxLen) (h1 : rInts S w [v1] ds) (h2 : rInts S w [v2] as') (h5 : rInts S w [v5] tt) :
    rInstr S w [.int .i64 op, v1, v2, .int .i64 n, .string s, v5] ⟨op, ds, as', n, s, tt⟩ := ⟨_, _, _, rfl, ⟨hop, hn, hs⟩, h1, h2, h5⟩
theorem lit_code {S : Nat → Prop} {w : World} {name : ByteArray} {p r v s : Int} {v5 : Value} {bs : List (List PInstr)} (hn : name.size ≤ maxLen) (hp : InI p) (hr : InI r) (hv : InI v) (hs : InI s) (h5 : rBlocks S w [v5] bs) :
    rCode S w [.string name, .int .i64 p, .int .i64 r, .int .i64 v, .int .i64 s, v5] ⟨name, p, r, v, s, bs⟩ := ⟨_, rfl, ⟨hn, hp, hr, hv, hs⟩, h5⟩
theorem lit_prog {S : Nat → Prop} {w : World} {v0 v1 : Value} {fs : List PCode} {ds : List Int} (h0 : rCodes S w [v0] fs) (h1 : rInts S w [v1] ds) : rProg S w [v0, v1] ⟨fs, ds⟩ := ⟨_, _, rfl, h0, h1⟩
theorem lens {α : Type} {l : List α} (h : Nat.ble l.length 1000 = true) : l.length ≤ maxLen := Nat.le_trans (Nat.le_of_ble_eq_true h) (by decide)
theorem ini {n : Int} (h : (decide (-9223372036854775808 ≤ n) && decide (n ≤ 9223372036854775807)) = true) : InI n := by simpa [InI] using h
theorem inis {l : List Int} (h : (l.all fun n => decide (-9223372036854775808 ≤ n) && decide (n ≤ 9223372036854775807)) = true) : ∀ x ∈ l, InI x := fun x hx => ini (List.all_eq_true.1 h x hx)

theorem allocs_get : ∀ (os : List Obj) (w : World) (k : Nat), k < os.length → (os.foldl World.alloc w).heap[w.heap.size + k]? = os[k]?
  | [], w, k, h => by simp at h
  | o :: r, w, 0, h => by
    show (r.foldl World.alloc (w.alloc o)).heap[w.heap.size + 0]? = some o
    have : ∀ (r : List Obj) (w' : World), w.heap.size < w'.heap.size → w'.heap[w.heap.size]? = some o → (r.foldl World.alloc w').heap[w.heap.size]? = some o := by
      intro r
      induction r with
      | nil => intro w' _ h; exact h
      | cons x r ih => intro w' hl h; exact ih _ (by simp; omega) ((Below.heap_alloc _ _ _ hl).trans h)
    exact this r _ (by simp) (heap_alloc_new w o)
  | o :: r, w, k + 1, h => by
    have := allocs_get r (w.alloc o) k (by simpa using h)
    rw [show (w.alloc o).heap.size = w.heap.size + 1 by simp] at this
    rw [show w.heap.size + (k + 1) = w.heap.size + 1 + k by omega]
    exact this
theorem allocs_below : ∀ (os : List Obj) (w : World) (n : Nat), n ≤ w.heap.size → Below n w (os.foldl World.alloc w)
  | [], w, n, h => Below.refl _ _
  | o :: r, w, n, h => ((Below.refl n w).alloc h o).trans (allocs_below r (w.alloc o) n (by simp; omega))
end Go.Pst

/-
  posternkeep's small programs: one(s, a, b): what it holds.
-/
namespace Go.Proofs.YtaomlfbcfmmhlaaDoor
open Go.RowKit Go.Pst
set_option linter.unusedVariables false
set_option linter.unusedSimpArgs false

def oneProg (s : ByteArray) (a b : Int) : PProg :=
  ⟨[⟨⟨#[109, 97, 105, 110]⟩, 0, 0, 3, 0, [[⟨1, [0], [], a, ⟨#[]⟩, []⟩, ⟨1, [1], [], b, ⟨#[]⟩, []⟩, ⟨3, [2], [0, 1], 0, s, []⟩, ⟨8, [], [2], 0, ⟨#[105, 110, 116]⟩, []⟩, ⟨12, [], [], 0, ⟨#[]⟩, []⟩]]⟩], []⟩

def oneObjs (B : Nat) (s : ByteArray) (a b : Int) : List Obj := [.cells #[.slice (some ⟨B + 8, 0, none⟩) 1 1, .slice none 0 0] 25, .cells #[.int .i64 0] 3, .cells #[.int .i64 1] 3, .cells #[.int .i64 2] 3, .cells #[.int .i64 0, .int .i64 1] 3, .cells #[.int .i64 2] 3,
    .cells #[.int .i64 1, .slice (some ⟨B + 1, 0, none⟩) 1 1, .slice none 0 0, .int .i64 a, .string ⟨#[]⟩, .slice none 0 0, .int .i64 1, .slice (some ⟨B + 2, 0, none⟩) 1 1, .slice none 0 0, .int .i64 b, .string ⟨#[]⟩, .slice none 0 0, .int .i64 3, .slice (some ⟨B + 3, 0, none⟩) 1 1, .slice (some ⟨B + 4, 0, none⟩) 2 2, .int .i64 0, .string s, .slice none 0 0,
      .int .i64 8, .slice none 0 0, .slice (some ⟨B + 5, 0, none⟩) 1 1, .int .i64 0, .string ⟨#[105, 110, 116]⟩, .slice none 0 0, .int .i64 12, .slice none 0 0, .slice none 0 0, .int .i64 0, .string ⟨#[]⟩, .slice none 0 0] 53,
    .cells #[.slice (some ⟨B + 6, 0, none⟩) 5 5] 55, .cells #[.string ⟨#[109, 97, 105, 110]⟩, .int .i64 0, .int .i64 0, .int .i64 3, .int .i64 0, .slice (some ⟨B + 7, 0, none⟩) 1 1] 28]

theorem one_any (s : ByteArray) (a b : Int) (w : World) (hs : s.size ≤ maxLen) (ha : InI a) (hb : InI b) :
    Calls Tryd.prog 22 #[.string s, .int .i64 a, .int .i64 b] w fun e w' => ∃ v0 v1, e = .returned (.agg #[v0, v1]) ∧ rProg (fun _ => True) w' [v0, v1] (oneProg s a b) ∧ Below w.heap.size w w' := by
  go_enter Tryd.func22, Tryd.ntmps22
  go_wp2_with fail
  generalize hB : w.heap.size = B at *
  have hb0 : ∀ os : List Obj, Below B w (os.foldl World.alloc w) := fun os => allocs_below os w B (by omega)
  have hg := fun (os : List Obj) (k : Nat) (o : Obj) (h : os[k]? = some o) => ((allocs_get os w k (List.getElem?_eq_some_iff.1 h).1).trans h)
  rw [hB] at hg
  generalize hW0 : World.alloc _ _ = W
  have hW : W = (oneObjs B s a b).foldl World.alloc w := hW0.symm
  clear hW0
  have hbW : Below B w W := hW ▸ hb0 _
  have hg' := fun (k : Nat) (o : Obj) (h : (oneObjs B s a b)[k]? = some o) => (show W.heap[B + k]? = some o from hW ▸ hg (oneObjs B s a b) k o h)
  clear hg hb0
  have h0 : W.heap[B]? = some _ := hg' 0 _ rfl
  have c0 : W.cell? ⟨B, 0, none⟩ = some (.slice (some ⟨B + 8, 0, none⟩) 1 1) := by simp [World.cell?, h0]
  have c1 : W.cell? ⟨B, 1, none⟩ = some (.slice none 0 0) := by simp [World.cell?, h0]
  refine bodyPost_ret (v := .agg #[.slice (some ⟨B + 8, 0, none⟩) 1 1, .slice none 0 0]) (by simp [results, Tryd.results22, go_sem, c0, c1]) rfl ⟨_, _, rfl, ?_, hbW⟩
  unfold oneProg
  refine lit_prog (rSlice_all (l := [_]) [[_, _, _, _, _, _]] trivial (lens rfl) (hg' 8 _ rfl) ⟨⟨rfl, lit_code (by decide) (ini rfl) (ini rfl) (ini rfl) (ini rfl)
    (rSlice_all (l := [_]) [[_]] trivial (lens rfl) (hg' 7 _ rfl) ⟨⟨rfl, rSlice_all (l := [_, _, _, _, _]) [[_, _, _, _, _, _], [_, _, _, _, _, _], [_, _, _, _, _, _], [_, _, _, _, _, _], [_, _, _, _, _, _]] trivial (lens rfl) (hg' 6 _ rfl) ⟨⟨rfl, ?_⟩, ⟨rfl, ?_⟩, ⟨rfl, ?_⟩, ⟨rfl, ?_⟩, ⟨rfl, ?_⟩, trivial⟩⟩, trivial⟩)⟩, trivial⟩) (rSlice_nil _ _ _ _)
  · exact lit_instr (ini rfl) ha (by decide) (rInts_all [0] trivial (by decide) (inis rfl) (hg' 1 _ rfl)) (rSlice_nil _ _ _ _) (rSlice_nil _ _ _ _)
  · exact lit_instr (ini rfl) hb (by decide) (rInts_all [1] trivial (by decide) (inis rfl) (hg' 2 _ rfl)) (rSlice_nil _ _ _ _) (rSlice_nil _ _ _ _)
  · exact lit_instr (ini rfl) (ini rfl) hs (rInts_all [2] trivial (by decide) (inis rfl) (hg' 3 _ rfl)) (rInts_all [0, 1] trivial (by decide) (inis rfl) (hg' 4 _ rfl)) (rSlice_nil _ _ _ _)
  · exact lit_instr (ini rfl) (ini rfl) (by decide) (rSlice_nil _ _ _ _) (rInts_all [2] trivial (by decide) (inis rfl) (hg' 5 _ rfl)) (rSlice_nil _ _ _ _)
  · exact lit_instr (ini rfl) (ini rfl) (by decide) (rSlice_nil _ _ _ _) (rSlice_nil _ _ _ _) (rSlice_nil _ _ _ _)

/-- What the program tells: that the one line is what the sum makes. -/
theorem one_res (s : ByteArray) (a b : Int) (hs : s ∈ mathsF) : programFaultF (oneProg s a b) = 0 := by
  unfold mathsF at hs
  simp only [List.mem_cons, List.not_mem_nil, or_false] at hs
  rcases hs with rfl | rfl | rfl | rfl | rfl | rfl | rfl | rfl | rfl | rfl | rfl <;> rfl
theorem run_next {p : PProg} {m : Bool} {l : Int} {n : Nat} {s s' : Mach} (h : stepF p m l s = (0, s')) : runF p m l (n + 1) s = runF p m l n s' := by
  show (if (stepF p m l s).1 = 0 then runF p m l n (stepF p m l s).2 else ((stepF p m l s).1, (stepF p m l s).2.lines)) = _
  rw [h]
  rfl
theorem run_stop {p : PProg} {m : Bool} {l e : Int} {n : Nat} {s s' : Mach} (h : stepF p m l s = (e, s')) (he : e ≠ 0) : runF p m l (n + 1) s = (e, s'.lines) := by
  show (if (stepF p m l s).1 = 0 then runF p m l n (stepF p m l s).2 else ((stepF p m l s).1, (stepF p m l s).2.lines)) = _
  rw [h]
  exact if_neg he
theorem one_run (s : ByteArray) (a b : Int) (h : (sumF s a b).2 = 0) : resF 0 false 1000000 (oneProg s a b) 0 9 = ((1, [decS (sumF s a b).1]), 0) := by
  show ((runF (oneProg s a b) false 0 9 (startF (oneProg s a b))), (0 : Int)) = _
  rw [run_next (p := oneProg s a b) (m := false) (l := 0) (s' := ⟨[], [], [⟨0, [a, 0, 0], [], 0, 1, []⟩]⟩) rfl, run_next (p := oneProg s a b) (m := false) (l := 0) (s' := ⟨[], [], [⟨0, [a, b, 0], [], 0, 2, []⟩]⟩) rfl,
    run_next (show stepF (oneProg s a b) false 0 ⟨[], [], [⟨0, [a, b, 0], [], 0, 2, []⟩]⟩ = (0, ⟨[], [], [⟨0, [a, b, (sumF s a b).1], [], 0, 3, []⟩]⟩) from if_pos h), run_next (p := oneProg s a b) (m := false) (l := 0) (s' := ⟨[], [decS (sumF s a b).1], [⟨0, [a, b, (sumF s a b).1], [], 0, 4, []⟩]⟩) rfl,
    run_stop (e := 1) (s' := ⟨[], [decS (sumF s a b).1], []⟩) rfl (by decide)]
theorem one_bad (s : ByteArray) (a b : Int) (h : (sumF s a b).2 = 3) : resF 0 false 1000000 (oneProg s a b) 0 9 = ((3, []), 0) := by
  show ((runF (oneProg s a b) false 0 9 (startF (oneProg s a b))), (0 : Int)) = _
  have h0 : ¬ (sumF s a b).2 = 0 := by omega
  rw [run_next (p := oneProg s a b) (m := false) (l := 0) (s' := ⟨[], [], [⟨0, [a, 0, 0], [], 0, 1, []⟩]⟩) rfl, run_next (p := oneProg s a b) (m := false) (l := 0) (s' := ⟨[], [], [⟨0, [a, b, 0], [], 0, 2, []⟩]⟩) rfl,
    run_stop (show stepF (oneProg s a b) false 0 ⟨[], [], [⟨0, [a, b, 0], [], 0, 2, []⟩]⟩ = ((sumF s a b).2, ⟨[], [], [⟨0, [a, b, 0], [], 0, 3, []⟩]⟩) from if_neg h0) h0, h]
end Go.Proofs.YtaomlfbcfmmhlaaDoor

/-
  picked: a number from 0 to many - 1 (posternkeep).
-/
namespace Go.Proofs.YtaomlfbcfmmhlaaDoor
open Go.RowKit Go.Pst
set_option linter.unusedVariables false
set_option linter.unusedSimpArgs false

def pickF (n many : Int) : Int := if n < 0 then (-(n + 1)).tmod many else n.tmod many
theorem pickF_in {n many : Int} (h : 0 < many) : 0 ≤ pickF n many ∧ pickF n many < many := by
  unfold pickF
  split
  · exact ⟨Int.tmod_nonneg _ (by omega), Int.tmod_lt_of_pos _ h⟩
  · exact ⟨Int.tmod_nonneg _ (by omega), Int.tmod_lt_of_pos _ h⟩

theorem picked_any (n many : Int) (w : World) (hn : InI n) (hm : 0 < many) (hm' : InI many) :
    Calls Tryd.prog 21 #[.int .i64 n, .int .i64 many] w fun e w' => e = .returned (.int .i64 (pickF n many)) ∧ w = w' := by
  obtain ⟨h1, h2⟩ := hn
  obtain ⟨h3, h4⟩ := hm'
  have hne : (many == 0) = false := by simp; omega
  by_cases h0 : n < 0
  · have H := Lib.hid (show pickF n many = (-(n + 1)).tmod many by unfold pickF; rw [if_pos h0])
    go_enter Tryd.func21, Tryd.ntmps21
    go_wp2_with fail
    go_ret
    rw [H.out, Int.neg_tmod]
    exact ⟨rfl, rfl⟩
  · have H := Lib.hid (show pickF n many = n.tmod many by unfold pickF; rw [if_neg h0])
    go_enter Tryd.func21, Tryd.ntmps21
    go_wp2_with fail
    go_ret
    rw [H.out, Int.tmod_eq_emod_of_nonneg (by omega)]
    exact ⟨rfl, rfl⟩
end Go.Proofs.YtaomlfbcfmmhlaaDoor

/-
  Plain laws on memory, for any program: a map whose keys are ints or strings, as a list of pairs (keys apart); look-up, store, delete, length, at whatever elements.
-/
namespace Go.Pst
open Go.RowKit Go.MapKept Go.ChangeMaps
set_option linter.unusedVariables false
set_option linter.unusedSimpArgs false
set_option linter.unusedSectionVars false

/-- What may be a key here: an int, a string. -/
class MKey (κ : Type) where
  val : κ → Value
  desc : TypeDesc
  same : ∀ [DecidableEq κ] (a b : κ), Instr.sameNow desc (val a) (val b) = some (decide (a = b))
  isKey : ∀ a, IsKey desc (val a)
  bits : ∀ a, Instr.sameBits 10000 (val a) (val a) = true
  inj : ∀ a b, val a = val b → a = b
instance : MKey Int where
  val := Value.int .i64
  desc := .int .i64
  same := fun a b => by simp only [Instr.sameNow, if_true]; congr 1; by_cases h : a = b <;> simp [h]
  isKey := fun a => by simp [IsKey]
  bits := fun a => by unfold Instr.sameBits; simp
  inj := fun a b h => by simpa using h
instance : MKey ByteArray where
  val := Value.string
  desc := .string
  same := fun a b => by
    simp only [Instr.sameNow]; congr 1
    by_cases h : a = b
    · simp [h, (bytes_beq b b).2 rfl]
    · simp only [h, decide_false]
      cases hb : (a == b) with
      | false => rfl
      | true => exact absurd ((bytes_beq a b).1 hb) h
  isKey := fun a => by simp [IsKey]
  bits := fun a => by unfold Instr.sameBits; exact (bytes_beq a a).2 rfl
  inj := fun a b h => by simpa using h

variable {κ : Type} [DecidableEq κ] [MKey κ]
/-- Keys and elements, in the order in which they came. -/
abbrev IMap (κ : Type) := List (κ × Value)
def entI (m : IMap κ) : List (Value × Value) := m.map fun p => (MKey.val p.1, p.2)
/-- Block b is a map that holds m. -/
def MapI (w : World) (b : Nat) (m : IMap κ) : Prop :=
  ∃ es clock, w.heap[b]? = some (.map es clock) ∧ Stamped es clock ∧ es.toList.map (fun e => (e.key, e.val)) = entI m

def getI : IMap κ → κ → Option Value
  | [], _ => none
  | (k, v) :: r, x => if k = x then some v else getI r x
def putI : IMap κ → κ → Value → IMap κ
  | [], x, v => [(x, v)]
  | (k, u) :: r, x, v => if k = x then (k, v) :: r else (k, u) :: putI r x v
def delI : IMap κ → κ → IMap κ
  | [], _ => []
  | (k, u) :: r, x => if k = x then r else (k, u) :: delI r x

theorem getI_put_same (m : IMap κ) (x : κ) (v : Value) : getI (putI m x v) x = some v := by
  induction m with
  | nil => simp [putI, getI]
  | cons p r ih =>
    obtain ⟨k, u⟩ := p
    unfold putI
    by_cases h : k = x
    · simp [h, getI]
    · simp [h, getI, ih]
theorem getI_put_other (m : IMap κ) {x y : κ} (v : Value) (h : x ≠ y) : getI (putI m x v) y = getI m y := by
  induction m with
  | nil => simp [putI, getI, h]
  | cons p r ih =>
    obtain ⟨k, u⟩ := p
    unfold putI
    by_cases hk : k = x
    · subst hk; simp [getI, h]
    · by_cases hy : k = y
      · subst hy; simp [hk, getI]
      · simp [hk, getI, hy, ih]

theorem MapI.lt {w : World} {b : Nat} {m : IMap κ} (h : MapI w b m) : b < w.heap.size := by
  obtain ⟨es, clock, hb, _⟩ := h
  exact (Array.getElem?_eq_some_iff.1 hb).1
theorem MapI.keys {w : World} {b : Nat} {m : IMap κ} (h : MapI w b m) : (m.map (·.1)).Nodup := by
  obtain ⟨es, clock, _, ⟨_, _, h3⟩, hm⟩ := h
  have e : es.toList.map (·.key) = (m.map (·.1)).map MKey.val := by
    have := congrArg (List.map Prod.fst) hm
    simpa [entI, Function.comp_def] using this
  rw [e] at h3
  rw [List.nodup_iff_pairwise_ne] at h3 ⊢
  rw [List.pairwise_map] at h3
  exact h3.imp fun hne e => hne (by rw [e])
theorem MapI.heap {w w' : World} {b : Nat} {m : IMap κ} (h : MapI w b m) (e : w'.heap[b]? = w.heap[b]?) : MapI w' b m := by
  obtain ⟨es, clock, hb, r⟩ := h
  exact ⟨es, clock, e.trans hb, r⟩
theorem MapI.kept {w w' : World} {b : Nat} {m : IMap κ} {row : Option Nat} (h : MapI w b m) (hg : w.grownBy w' row) (hne : some b ≠ row) : MapI w' b m :=
  h.heap (hg.block b h.lt hne)
theorem MapI.alloc {w : World} {b : Nat} {m : IMap κ} (h : MapI w b m) (o : Obj) : MapI (w.alloc o) b m := h.kept (World.grownBy_alloc w o none) (by simp)
theorem MapI.drew {w : World} {b : Nat} {m : IMap κ} (h : MapI w b m) : MapI w.drew b m := h
theorem MapI.below {w w' : World} {B b : Nat} {m : IMap κ} (h : MapI w b m) (hb : Below B w w') (hlt : b < B) : MapI w' b m := h.heap (hb.block b hlt)
theorem MapI.setCell {w : World} {b : Nat} {m : IMap κ} (h : MapI w b m) {a : Addr} (ha : b ≠ a.block) (u : Value) : MapI (w.setCell a u) b m :=
  h.heap (Below.heap_setCell _ _ _ _ ha)
theorem MapI.made (κ : Type) [DecidableEq κ] [MKey κ] (w : World) : MapI (w.alloc (.map #[] 0)) w.heap.size ([] : IMap κ) :=
  ⟨#[], 0, (MapKept.heap_alloc w _).1, stamped_empty 0, rfl⟩

section
variable {P : Program} {w : World} {b : Nat} {m : IMap κ} {t kt et : TypeId}

theorem find_I : ∀ (l : List MapEntry) (m : IMap κ) (i : Nat) (x : κ), l.map (fun e => (e.key, e.val)) = entI m →
    (Instr.findNow (MKey.desc κ) (MKey.val x) l i = some none ∧ getI m x = none ∧ delI m x = m ∧ (∀ v, putI m x v = m ++ [(x, v)]) ∧ (∀ e ∈ l, e.key ≠ MKey.val x)) ∨
    ∃ j e v, Instr.findNow (MKey.desc κ) (MKey.val x) l i = some (some (i + j, v)) ∧ getI m x = some v ∧ l[j]? = some e ∧ e.key = MKey.val x ∧ e.val = v ∧ delI m x = m.eraseIdx j ∧ (∀ u, putI m x u = m.modify j fun p => (p.1, u))
  | [], m, i, x, h => by
    have : m = [] := by cases m with | nil => rfl | cons p r => simp [entI] at h
    subst this
    exact .inl ⟨rfl, rfl, rfl, fun _ => rfl, by simp⟩
  | e :: l, [], i, x, h => by simp [entI] at h
  | e :: l, (k, u) :: r, i, x, h => by
    simp only [List.map_cons, entI, List.cons.injEq, Prod.mk.injEq] at h
    obtain ⟨⟨hk, hu⟩, hr⟩ := h
    by_cases hx : k = x
    · subst hx
      exact .inr ⟨0, e, u, by simp [Instr.findNow, MKey.same, hk, hu], by simp [getI], rfl, hk, hu, by simp [delI], fun v => by simp [putI]⟩
    · have hx' : decide (x = k) = false := by simpa using fun e => hx e.symm
      rcases find_I l r (i + 1) x hr with ⟨h1, h2, h3, h4, h5⟩ | ⟨j, e', v, h1, h2, h3, h4, h5, h6, h7⟩
      · refine .inl ⟨by simp [Instr.findNow, MKey.same, hk, hx', h1], by simp [getI, hx, h2], by simp [delI, hx, h3], fun v => by simp [putI, hx, h4], ?_⟩
        intro y hy
        rcases List.mem_cons.1 hy with rfl | hy
        · rw [hk]; exact fun e => hx (MKey.inj _ _ e)
        · exact h5 y hy
      · exact .inr ⟨j + 1, e', v, by simp [Instr.findNow, MKey.same, hk, hx', h1]; omega, by simp [getI, hx, h2], by simpa using h3, h4, h5, by simp [delI, hx, h6], fun v => by simp [putI, hx, h7]⟩

theorem isKey_int (x : κ) : IsKey (MKey.desc κ) (MKey.val x) := MKey.isKey x

/-- 'm[k]', 'v, ok := m[k]'. -/
theorem MapI.lookup (h : MapI w b m) (ht : P.underlying t = some (.map kt et)) (hk : P.underlying kt = some (MKey.desc κ)) {z : Value} (hz : (zeroValue et).run P w = .ok z w) (x : κ) (ok : Bool) :
    (Instr.lookup t (.map (some b)) (MKey.val x) ok).run P w = .ok (if ok then .tuple #[(getI m x).getD z, .bool (getI m x).isSome] else (getI m x).getD z) w := by
  obtain ⟨es, clock, hb, hs, hm⟩ := h
  unfold Instr.lookup
  rcases find_I es.toList m 0 x hm with ⟨h1, h2, _⟩ | ⟨j, e, v, h1, h2, _⟩
  · simp [run_underlying ht, Result.andThen, MapKept.run_getObj_map hb, MapKept.run_checkKey hk (isKey_int x), run_findKey hk h1, hz, h2]
  · simp [run_underlying ht, Result.andThen, MapKept.run_getObj_map hb, MapKept.run_checkKey hk (isKey_int x), run_findKey hk h1, h2]
theorem lookup_nilI (ht : P.underlying t = some (.map kt et)) (hk : P.underlying kt = some (MKey.desc κ)) {z : Value} (hz : (zeroValue et).run P w = .ok z w) (x : κ) (ok : Bool) :
    (Instr.lookup t (.map none) (MKey.val x) ok).run P w = .ok (if ok then .tuple #[z, .bool false] else z) w := by
  unfold Instr.lookup
  have h1 : Instr.findNow (MKey.desc κ) (MKey.val x) [] 0 = some none := rfl
  simp [run_underlying ht, Result.andThen, MapKept.run_checkKey hk (isKey_int x), run_findKey hk h1, hz]

theorem sameBits_int (x : κ) : Instr.sameBits 10000 (MKey.val x) (MKey.val x) = true := MKey.bits x
theorem run_keyThatStays (x : κ) : (Instr.keyThatStays (MKey.val x) (MKey.val x)).run P w = .ok (MKey.val x) w := by
  unfold Instr.keyThatStays
  rw [sameBits_int]
  rfl

/-- 'm[k] = v'. -/
theorem MapI.update (h : MapI w b m) (ht : P.underlying t = some (.map kt et)) (hk : P.underlying kt = some (MKey.desc κ)) (x : κ) (v : Value) :
    ∃ w', (Instr.mapUpdate t (.map (some b)) (MKey.val x) v).run P w = .ok () w' ∧ MapI w' b (putI m x v) ∧ w.grownBy w' (some b) := by
  obtain ⟨es, clock, hb, hs, hm⟩ := h
  have grow : ∀ o, w.grownBy { w with heap := w.heap.setIfInBounds b o } (some b) := fun o =>
    ⟨rfl, rfl, rfl, by simp, fun i _ hi => (heap_set (o' := o) hb).2 i (fun e => hi (by rw [e]))⟩
  unfold Instr.mapUpdate
  rcases find_I es.toList m 0 x hm with ⟨h1, h2, _, h4, h5⟩ | ⟨j, e, u, h1, h2, h3, h4, h5, _, h7⟩
  · refine ⟨{ w with heap := w.heap.setIfInBounds b (.map (es.push { key := MKey.val x, val := v, born := clock }) (clock + 1)) }, ?_, ⟨_, _, (heap_set hb).1, ?_, ?_⟩, grow _⟩
    · simp [run_underlying ht, Result.andThen, MapKept.run_getObj_map hb, MapKept.run_checkKey hk (isKey_int x), run_findKey hk h1, run_setObj_map _ hb]
    · obtain ⟨s1, s2, s3⟩ := hs
      refine ⟨?_, ?_, ?_⟩
      · intro y hy
        simp only [Array.toList_push, List.mem_append, List.mem_singleton] at hy
        rcases hy with hy | rfl
        · exact Nat.lt_succ_of_lt (s1 y hy)
        · exact Nat.lt_succ_self _
      · simp only [Array.toList_push, List.map_append, List.map_cons, List.map_nil]
        rw [List.nodup_append]
        refine ⟨s2, by simp, fun a ha c hc e => ?_⟩
        obtain ⟨y, hy, rfl⟩ := List.mem_map.1 ha
        simp only [List.mem_singleton] at hc
        have := s1 y hy
        omega
      · simp only [Array.toList_push, List.map_append, List.map_cons, List.map_nil]
        rw [List.nodup_append]
        refine ⟨s3, by simp, fun a ha c hc e => ?_⟩
        obtain ⟨y, hy, rfl⟩ := List.mem_map.1 ha
        simp only [List.mem_singleton] at hc
        exact h5 y hy (e.trans hc)
    · rw [h4]
      simp [hm, entI]
  · have hj : j < es.size := by
      have := (List.getElem?_eq_some_iff.1 h3).1
      simpa using this
    have hej : es[j]? = some e := by simpa using h3
    refine ⟨{ w with heap := w.heap.setIfInBounds b (.map (es.modify j fun e => { e with key := MKey.val x, val := v }) clock) }, ?_, ⟨_, _, (heap_set hb).1, ?_, ?_⟩, grow _⟩
    · simp [run_underlying ht, Result.andThen, MapKept.run_getObj_map hb, MapKept.run_checkKey hk (isKey_int x), run_findKey hk h1, hej, h4, run_keyThatStays, run_setObj_map _ hb]
    · obtain ⟨s1, s2, s3⟩ := hs
      have hl : (es.modify j fun e => { e with key := MKey.val x, val := v }).toList = es.toList.modify j fun e => { e with key := MKey.val x, val := v } := by simp
      have keys : ∀ (f : MapEntry → Value) (g : MapEntry → Nat) (l : List MapEntry) (j : Nat), (l[j]?.map (·.key) = some (MKey.val x)) → (l.modify j fun e => { e with key := MKey.val x, val := v }).map (·.key) = l.map (·.key) ∧ (l.modify j fun e => { e with key := MKey.val x, val := v }).map (·.born) = l.map (·.born) := by
        intro f g l
        induction l with
        | nil => intro j h; simp at h
        | cons y r ih =>
          intro j h
          rcases j with _ | j
          · simp at h ⊢; exact h.symm
          · simp at h ⊢
            exact ih j (by simpa using h)
      obtain ⟨k1, k2⟩ := keys (·.key) (·.born) es.toList j (by rw [h3]; simp [h4])
      refine ⟨?_, by rw [hl, k2]; exact s2, by rw [hl, k1]; exact s3⟩
      intro y hy
      rw [hl] at hy
      have : y.born ∈ (es.toList.modify j fun e => { e with key := MKey.val x, val := v }).map (·.born) := List.mem_map.2 ⟨y, hy, rfl⟩
      rw [k2] at this
      obtain ⟨z, hz, hzb⟩ := List.mem_map.1 this
      rw [← hzb]
      exact s1 z hz
    · have gen : ∀ (l : List MapEntry) (m : IMap κ) (j : Nat), l.map (fun e => (e.key, e.val)) = entI m → (l[j]?.map (·.key) = some (MKey.val x)) → (l.modify j fun e => { e with key := MKey.val x, val := v }).map (fun e => (e.key, e.val)) = entI (m.modify j fun p => (p.1, v)) := by
        intro l
        induction l with
        | nil => intro m j _ h; simp at h
        | cons y r ih =>
          intro m j hm h
          cases m with
          | nil => simp [entI] at hm
          | cons p q =>
            simp only [List.map_cons, entI, List.cons.injEq, Prod.mk.injEq] at hm
            rcases j with _ | j
            · simp at h
              simp [entI, hm.2, ← hm.1.1, h]
            · simp at h
              have := ih q j hm.2 (by simpa using h)
              simp [entI, hm.1] at this ⊢
              exact this
      rw [h7]
      have hl : (es.modify j fun e => { e with key := MKey.val x, val := v }).toList = es.toList.modify j fun e => { e with key := MKey.val x, val := v } := by simp
      rw [hl]
      exact gen _ _ _ hm (by rw [h3]; simp [h4])

/-- The walk's law at 'm[k] = v'. -/
theorem wpList_updateI {ops : Array Oper} {rest : List Oper} {o : Oper} {a : Act} {Q : Exit → Act → World → Prop}
    (hg : o.guard = none) (mo xo vo : Operand) (t : TypeId) (hop : o.op = Op.mapUpdate t mo xo vo) {kt et : TypeId} (ht : P.underlying t = some (.map kt et)) (hk : P.underlying kt = some (MKey.desc κ))
    (b : Nat) (m : IMap κ) (hm : a.eval mo = .map (some b)) (h : MapI w b m) (x : κ) (v : Value) (hx : a.eval xo = MKey.val x) (hv : a.eval vo = v)
    (hK : ∀ w', MapI w' b (putI m x v) → w.grownBy w' (some b) → wpList P ops Q rest (a.put o.dst undef) w') : wpList P ops Q (o :: rest) a w := by
  refine wpList_plain hg fun K' hK' => ?_
  obtain ⟨w', hrun, r1, r2⟩ := h.update ht hk x v
  unfold Oper.wp
  simp [execOp, hop, hm, hx, hv, hrun, Result.andThen]
  exact hK' _ _ (hK w' r1 r2)
/-- .. at an entry of a map's literal. -/
theorem wpList_insertI {ops : Array Oper} {rest : List Oper} {o : Oper} {a : Act} {Q : Exit → Act → World → Prop}
    (hg : o.guard = none) (mo xo vo : Operand) (t : TypeId) (hop : o.op = Op.insert t mo xo vo) {kt et : TypeId} (ht : P.underlying t = some (.map kt et)) (hk : P.underlying kt = some (MKey.desc κ))
    (b : Nat) (m : IMap κ) (hm : a.eval mo = .map (some b)) (h : MapI w b m) (x : κ) (v : Value) (hx : a.eval xo = MKey.val x) (hv : a.eval vo = v)
    (hK : ∀ w', MapI w' b (putI m x v) → w.grownBy w' (some b) → wpList P ops Q rest (a.put o.dst undef) w') : wpList P ops Q (o :: rest) a w := by
  refine wpList_plain hg fun K' hK' => ?_
  obtain ⟨w', hrun, r1, r2⟩ := h.update ht hk x v
  unfold Oper.wp
  simp [execOp, hop, hm, hx, hv, hrun, Result.andThen]
  exact hK' _ _ (hK w' r1 r2)
/-- The walk's law at 'm[k]', 'v, ok := m[k]'. -/
theorem wpList_lookupI {ops : Array Oper} {rest : List Oper} {o : Oper} {a : Act} {Q : Exit → Act → World → Prop}
    (hg : o.guard = none) (mo xo : Operand) (t : TypeId) (ok : Bool) (hop : o.op = Op.lookup t mo xo ok) {kt et : TypeId} (ht : P.underlying t = some (.map kt et)) (hk : P.underlying kt = some (MKey.desc κ))
    {z : Value} (hz : (zeroValue et).run P w = .ok z w) (b : Nat) (m : IMap κ) (hm : a.eval mo = .map (some b)) (h : MapI w b m) (x : κ) (hx : a.eval xo = MKey.val x)
    (hK : wpList P ops Q rest (a.put o.dst (if ok then .tuple #[(getI m x).getD z, .bool (getI m x).isSome] else (getI m x).getD z)) w) : wpList P ops Q (o :: rest) a w := by
  refine wpList_plain hg fun K' hK' => ?_
  have hrun := h.lookup ht hk hz x ok
  unfold Oper.wp
  simp [execOp, hop, hm, hx, hrun, Result.andThen]
  exact hK' _ _ hK
end
end Go.Pst

/-
  CodeMath (posternkeep), walked: it answers true.
-/
namespace Go.Proofs.YtaomlfbcfmmhlaaDoor
open Go.RowKit Go.Pst
set_option linter.unusedVariables false
set_option linter.unusedSimpArgs false

instance : MKey Bool where
  val := Value.bool
  desc := .bool
  same := fun a b => by cases a <;> cases b <;> simp [Instr.sameNow]
  isKey := fun a => by simp [Go.MapKept.IsKey]
  bits := fun a => by unfold Instr.sameBits; cases a <;> rfl
  inj := fun a b h => by simpa using h

def opsF : List ByteArray := [⟨#[43]⟩, ⟨#[45]⟩, ⟨#[42]⟩, ⟨#[60]⟩, ⟨#[60, 61]⟩, ⟨#[61, 61]⟩, ⟨#[33, 61]⟩, ⟨#[62]⟩, ⟨#[62, 61]⟩]
def wantF (a b : Int) : List Int := [wrap64 (a + b), wrap64 (a - b), wrap64 (a * b), yesF (decide (a < b)), yesF (decide (a ≤ b)), yesF (a == b), yesF (a != b), yesF (decide (b < a)), yesF (decide (b ≤ a))]
theorem want_sum (a b : Int) (i : Nat) (hi : i < 9) : sumF (opsF.getD i default) a b = ((wantF a b).getD i 0, 0) := by
  match i, hi with
  | 0, _ => simp [opsF, sumF, wantF]
  | 1, _ => simp [opsF, sumF, wantF]
  | 2, _ => simp [opsF, sumF, wantF]
  | 3, _ => simp [opsF, sumF, wantF]
  | 4, _ => simp [opsF, sumF, wantF]
  | 5, _ => simp [opsF, sumF, wantF]
  | 6, _ => simp [opsF, sumF, wantF]
  | 7, _ => simp [opsF, sumF, wantF]
  | 8, _ => simp [opsF, sumF, wantF]
theorem ops_maths (i : Nat) (hi : i < 9) : opsF.getD i default ∈ mathsF := by
  match i, hi with
  | 0, _ => decide
  | 1, _ => decide
  | 2, _ => decide
  | 3, _ => decide
  | 4, _ => decide
  | 5, _ => decide
  | 6, _ => decide
  | 7, _ => decide
  | 8, _ => decide

theorem truth_get (c : Bool) : (Go.Pst.getI (putI ([] : IMap Bool) true (Value.int .i64 1)) c).getD (.int .i64 0) = .int .i64 (yesF c) := by cases c <;> rfl
theorem zeroInt (w : World) : (zeroValue 3).run Tryd.prog w = .ok (.int .i64 0) w := by kernel_rfl
theorem truth_look {w : World} {b : Nat} (h : MapI w b (putI ([] : IMap Bool) true (Value.int .i64 1))) (c : Bool) : (Instr.lookup 46 (.map (some b)) (.bool c) false).run Tryd.prog w = .ok (.int .i64 (yesF c)) w := by
  have := h.lookup (P := Tryd.prog) (t := 46) Tryd.underlying46 Tryd.underlying4 (zeroInt w) c false
  simp only [Bool.false_eq_true, if_false, truth_get] at this
  exact this
theorem one_fit (s : ByteArray) (a b : Int) : FitProg (oneProg s a b) := by
  simp [FitProg, oneProg, FitCode, FitInstr, reachBytes]
theorem one_ir (s : ByteArray) (a b : Int) (v0 v1 : Value) (w : World) (hp : rProg (fun _ => True) w [v0, v1] (oneProg s a b)) (hs : s ∈ mathsF) (h : (sumF s a b).2 = 0) (hL : IrLaid w) (hT : TabOK w) :
    Calls Tryd.prog 18 #[.agg #[v0, v1], .int .i64 0, .int .i64 9] w (ResPost w ((1, [decS (sumF s a b).1]), 0)) := by
  have := irRun_any (oneProg s a b) v0 v1 0 9 w hp (one_fit s a b) (ini rfl) (ini rfl) hL hT
  rw [one_res s a b hs, one_run s a b h] at this
  exact this
theorem ops_get {w1 : World} {B : Nat} (hc : ∀ i, w1.cell? ⟨B, i, none⟩ = (opsF.map Value.string)[i]?) (i : Nat) (hi : i < 9) : w1.cell? ⟨B, i, none⟩ = some (.string (opsF.getD i default)) := by
  rw [hc]
  match i, hi with
  | 0, _ => rfl
  | 1, _ => rfl
  | 2, _ => rfl
  | 3, _ => rfl
  | 4, _ => rfl
  | 5, _ => rfl
  | 6, _ => rfl
  | 7, _ => rfl
  | 8, _ => rfl
theorem want_get (a b : Int) (i : Nat) (hi : i < 9) : ((wantF a b).map (Value.int .i64))[i]? = some (.int .i64 ((wantF a b).getD i 0)) := by
  match i, hi with
  | 0, _ => rfl
  | 1, _ => rfl
  | 2, _ => rfl
  | 3, _ => rfl
  | 4, _ => rfl
  | 5, _ => rfl
  | 6, _ => rfl
  | 7, _ => rfl
  | 8, _ => rfl
theorem maths_small {s : ByteArray} (h : s ∈ mathsF) : s.size ≤ maxLen := by
  unfold mathsF at h
  simp only [List.mem_cons, List.not_mem_nil, or_false] at h
  rcases h with rfl | rfl | rfl | rfl | rfl | rfl | rfl | rfl | rfl | rfl | rfl <;> decide
/-- What is held of the world in the last statement. -/
def Held (w : World) (r b2 i g : Nat) (u0 u1 u2 u3 : Value) (V : World) : Prop :=
  (V.cell? ⟨r, 0, none⟩ = some u0 ∧ V.cell? ⟨r, 1, none⟩ = some u1 ∧ V.cell? ⟨b2, i, none⟩ = some u2 ∧ V.cell? ⟨g, 0, none⟩ = some u3) ∧ (r < V.heap.size ∧ b2 < V.heap.size ∧ g < V.heap.size) ∧ Below w.heap.size w V
theorem Held.below {w V V' : World} {r b2 i g : Nat} {u0 u1 u2 u3 : Value} (h : Held w r b2 i g u0 u1 u2 u3 V) (hb : Below V.heap.size V V') : Held w r b2 i g u0 u1 u2 u3 V' := by
  obtain ⟨⟨h1, h2, h3, h4⟩, ⟨l1, l2, l3⟩, h5⟩ := h
  have hs := hb.size
  exact ⟨⟨(hb.cell (p := ⟨r, 0, none⟩) l1).trans h1, (hb.cell (p := ⟨r, 1, none⟩) l1).trans h2, (hb.cell (p := ⟨b2, i, none⟩) l2).trans h3, (hb.cell (p := ⟨g, 0, none⟩) l3).trans h4⟩, ⟨by omega, by omega, by omega⟩, h5.trans (hb.mono h5.size)⟩
theorem grow_below {w w' : World} {k : Nat} {os : Array Obj} (h : w' = Go.Sort.grow (w.drewN k) os) : Below w.heap.size w w' := by
  subst h
  exact ⟨rfl, rfl, rfl, by simp [Go.Sort.grow, World.drewN], fun k hk => by simp [Go.Sort.grow, World.drewN]; rw [Array.getElem?_append_left hk]⟩
theorem Held.more {w V V' : World} {r b2 i g : Nat} {u0 u1 u2 u3 : Value} (h : Held w r b2 i g u0 u1 u2 u3 V) (hb : Below V.heap.size V V') : (V'.cell? ⟨r, 0, none⟩ = some u0 ∧ V'.cell? ⟨r, 1, none⟩ = some u1 ∧ V'.cell? ⟨b2, i, none⟩ = some u2 ∧ V'.cell? ⟨g, 0, none⟩ = some u3) ∧ Held w r b2 i g u0 u1 u2 u3 V' :=
  ⟨(h.below hb).1, h.below hb⟩
theorem Held.both {w V : World} {r b2 i g : Nat} {u0 u1 u2 u3 : Value} (h : Held w r b2 i g u0 u1 u2 u3 V) : (V.cell? ⟨r, 0, none⟩ = some u0 ∧ V.cell? ⟨r, 1, none⟩ = some u1 ∧ V.cell? ⟨b2, i, none⟩ = some u2 ∧ V.cell? ⟨g, 0, none⟩ = some u3) ∧ Held w r b2 i g u0 u1 u2 u3 V := ⟨h.1, h⟩
theorem Held.drew {w V : World} {r b2 i g : Nat} {u0 u1 u2 u3 : Value} (h : Held w r b2 i g u0 u1 u2 u3 V) : Held w r b2 i g u0 u1 u2 u3 V.drew := h.below (Drawn.below (Drawn.drew _) _)
theorem itoa_held {w V : World} {r b2 i g : Nat} {u0 u1 u2 u3 : Value} (x : Int) (hx : InI x) (hT : TabOK w) (h : Held w r b2 i g u0 u1 u2 u3 V) :
    Calls Tryd.prog 24 #[.int .i64 x] V fun e w' => e = .returned (.string (decS x)) ∧ Held w r b2 i g u0 u1 u2 u3 w' := by
  refine (Tryd.strconv_Itoa x hx.1 hx.2 V (hT.below h.2.2 hT.lt).is_).mono ?_
  rintro e w' ⟨rfl, k, os, hw⟩
  exact ⟨rfl, h.below (grow_below hw)⟩
theorem equal_one {w V : World} {r b2 i g c : Nat} {u0 u1 u2 : Value} (s : ByteArray) (h : Held w r b2 i g u0 u1 u2 (.string s) V) :
    Calls Tryd.prog 23 #[.slice (some ⟨g, 0, none⟩) 1 c, .slice (some ⟨V.heap.size, 0, none⟩) 1 1] (V.alloc (.cells #[.string s] 9)) fun e w' => e = .returned (.bool true) ∧ Held w r b2 i g u0 u1 u2 (.string s) w' := by
  have h0 := h
  obtain ⟨⟨h1, h2, h3, h4⟩, ⟨l1, l2, l3⟩, h5⟩ := h
  refine (Tryd.slices_Equal_string g 0 1 c V.heap.size 0 1 1 [s] [s] _ (by simp) (by simp) (by decide) (by decide) (fun j hj => ?_) (fun j hj => ?_)).mono ?_
  · obtain rfl : j = 0 := by simpa using hj
    rw [World.cell?_alloc_lt _ _ _ l3]
    exact h4
  · obtain rfl : j = 0 := by simpa using hj
    rw [World.cell?_alloc_new]
    rfl
  · rintro e w' ⟨rfl, q, rfl⟩
    exact ⟨by simp, h0.below (((Below.refl _ _).alloc (Nat.le_refl _) _).trans (Drawn.below ⟨q, rfl⟩ _))⟩
set_option maxRecDepth 100000 in
theorem codeMath_any (a b which : Int) (w : World) (ha : InI a) (hb : InI b) (hw : InI which) (hL : IrLaid w) (hT : TabOK w) :
    Calls Tryd.prog 7 #[.int .i64 a, .int .i64 b, .int .i64 which] w fun e w' => e = .returned (.bool true) ∧ Below w.heap.size w w' := by
  have hmk := @run_makeMap Tryd.prog
  obtain ⟨w1, hw1⟩ : ∃ w1, w1 = w.alloc (.cells #[.string { data := #[43] }, .string { data := #[45] }, .string { data := #[42] }, .string { data := #[60] }, .string { data := #[60, 61] }, .string { data := #[61, 61] }, .string { data := #[33, 61] }, .string { data := #[62] }, .string { data := #[62, 61] }] 9) := ⟨_, rfl⟩
  have hc : ∀ i, w1.cell? ⟨w.heap.size, i, none⟩ = (opsF.map Value.string)[i]? := fun i => by rw [hw1, World.cell?_alloc_new]; simp [opsF]
  have hsz : w1.heap.size = w.heap.size + 1 := by rw [hw1]; simp
  have hb1 : Below w.heap.size w w1 := by rw [hw1]; exact (Below.refl _ _).alloc (Nat.le_refl _) _
  have hm : MapI ((w.alloc (.cells #[.string { data := #[43] }, .string { data := #[45] }, .string { data := #[42] }, .string { data := #[60] }, .string { data := #[60, 61] }, .string { data := #[61, 61] }, .string { data := #[33, 61] }, .string { data := #[62] }, .string { data := #[62, 61] }] 9)).alloc (.map #[] 0)) (w.heap.size + 1) ([] : IMap Bool) := by
    have := MapI.made Bool (w.alloc (.cells #[.string { data := #[43] }, .string { data := #[45] }, .string { data := #[42] }, .string { data := #[60] }, .string { data := #[60, 61] }, .string { data := #[61, 61] }, .string { data := #[33, 61] }, .string { data := #[62] }, .string { data := #[62, 61] }] 9))
    simpa using this
  have HL := Lib.hid hL
  have HT := Lib.hid hT
  have Hc := Lib.hid hc
  have Hsz := Lib.hid hsz
  have Hb1 := Lib.hid hb1
  have Hw1 := Lib.hid hw1
  clear hL hT hc hsz hb1
  have Hm0 := Lib.hid hm
  clear hm hw1
  go_enter Tryd.func7, Tryd.ntmps7
  obtain ⟨i, hi, hpi⟩ : ∃ i : Nat, i < 9 ∧ pickF which 9 = i := ⟨(pickF which 9).toNat, by have := pickF_in (n := which) (many := 9) (by decide); omega, by have := pickF_in (n := which) (many := 9) (by decide); omega⟩
  have Hi := Lib.hid hpi
  have hi1 : (i : Int) < 9 := by omega
  have hi0 : (0 : Int) ≤ i := by omega
  obtain ⟨s, hs⟩ : ∃ s, s = opsF.getD i default := ⟨_, rfl⟩
  have Hs := Lib.hid hs
  clear hpi hs
  go_wp2_with (first | (refine wpList_insertI (κ := Bool) rfl _ _ _ 46 rfl Tryd.underlying46 Tryd.underlying4 (w.heap.size + 1) _ rfl Hm0.out true _ rfl rfl ?_; intro w2 hm hg; have hlk := truth_look hm; rw [← Hw1.out] at hg; clear hm Hm0; have Hg := Lib.hid hg; clear hg))
  have hb2 : Below w.heap.size w w2 := (Hb1.out.alloc Hb1.out.size _).grown Hg.out (by simp; have := Hb1.out.size; omega) (fun k hk => by cases hk; omega)
  have hci : w2.cell? ⟨w.heap.size, i, none⟩ = some (.string s) := by
    rw [World.cell?_of_block (w := w1.alloc (.map #[] 0)) (a := ⟨w.heap.size, i, none⟩) (Hg.out.block _ (by have := Hsz.out; simp; omega) (by simp)), World.cell?_alloc_lt _ _ _ (by have := Hsz.out; simp; omega), Hs.out]
    exact ops_get Hc.out i hi
  have hsz2 : w.heap.size < w2.heap.size := by have h1 := Hsz.out; have h2 := Hg.out.size; simp at h2; omega
  have Hb2 := Lib.hid hb2
  clear hb2 Hg
  go_wp2_with (first | (go_at_call 21; refine (picked_any _ _ _ hw (by decide) (ini rfl)).mono ?_; rintro e w' ⟨rfl, rfl⟩; rw [Hi.out]))
  have hsm : s ∈ mathsF := by rw [Hs.out]; exact ops_maths i hi
  have hsum : sumF s a b = ((wantF a b).getD i 0, 0) := by rw [Hs.out]; exact want_sum a b i hi
  obtain ⟨x, hx⟩ : ∃ x, x = (wantF a b).getD i 0 := ⟨_, rfl⟩
  generalize hW : World.alloc w2 _ = W
  have hWc : W.cell? ⟨w2.heap.size, i, none⟩ = some (.int .i64 x) := by
    rw [← hW, World.cell?_alloc_new, hx, ← want_get a b i hi]
    simp [wantF]
  have hWs : w2.heap.size < W.heap.size := by rw [← hW]; simp
  have hWb : Below w.heap.size w W := by rw [← hW]; exact Hb2.out.alloc Hb2.out.size _
  have HWc := Lib.hid hWc
  have HWb := Lib.hid hWb
  have Hx := Lib.hid hx
  have Hsum := Lib.hid hsum
  clear hW hWc hWb hx hsum hci hlk hmk
  refine (one_any s a b W (maths_small hsm) ha hb).mono ?_
  rintro e w3 ⟨v0, v1, rfl, hp3, hb3⟩
  have hb3' : Below w.heap.size w w3 := HWb.out.trans (hb3.mono HWb.out.size)
  have hc3 := (hb3.cell (p := ⟨w2.heap.size, i, none⟩) hWs).trans HWc.out
  have hz3 := hb3.size
  have Hc3 := Lib.hid hc3
  have Hb3 := Lib.hid hb3'
  have Hp3 := Lib.hid hp3
  clear hb3 hb3' hc3 hp3
  go_wp2_with fail
  refine (one_ir s a b v0 v1 w3 Hp3.out hsm (by rw [Hsum.out]) (HL.out.below Hb3.out) (HT.out.below Hb3.out HT.out.lt)).mono ?_
  rintro e w4 ⟨vL, rfl, hrow, hb4⟩
  obtain ⟨gL, cL, hvL, -, -, hlL, hcL, -⟩ := row_get hrow (i := 0) (u := .string (decS x)) (by rw [Hsum.out, Hx.out]; rfl)
  subst hvL
  have hb4' : Below w.heap.size w w4 := Hb3.out.trans (hb4.mono Hb3.out.size)
  have hc4 := (hb4.cell (p := ⟨w2.heap.size, i, none⟩) (by show w2.heap.size < w3.heap.size; omega)).trans Hc3.out
  have hz4 := hb4.size
  have Hc4 := Lib.hid hc4
  have Hb4 := Lib.hid hb4'
  have HcL := Lib.hid hcL
  clear hb4 hb4' hc4 hcL hrow Hp3 Hc3
  go_wp2_with fail
  have hxi : InI x := by
    have h := sumF_in (s := s) ha hb
    rw [Hsum.out] at h
    rw [Hx.out]
    exact h
  have hH : Held w w4.heap.size w2.heap.size i gL (.slice (some ⟨gL, 0, none⟩) 1 cL) (.int .i64 1) (.int .i64 x) (.string (decS x)) (w4.alloc (.cells #[.slice (some ⟨gL, 0, none⟩) 1 cL, .int .i64 1] 41)) := by
    have l2 : w2.heap.size < w4.heap.size := by omega
    refine ⟨⟨by rw [World.cell?_alloc_new]; rfl, by rw [World.cell?_alloc_new]; rfl, ?_, ?_⟩, ⟨by simp, by simp; omega, by simp; omega⟩, Hb4.out.alloc Hb4.out.size _⟩
    · rw [World.cell?_alloc_lt _ _ _ l2]; exact Hc4.out
    · rw [World.cell?_alloc_lt _ _ _ hlL]; exact HcL.out
  generalize hV : w4.alloc (.cells #[.slice (some ⟨gL, 0, none⟩) 1 cL, .int .i64 1] 41) = V at hH
  try rw [hV]
  have hV1 := hH.1
  clear hV
  go_wp2_with fail
  go_region_held3 (fun w' => (w'.cell? ⟨w4.heap.size, 0, none⟩ = some (.slice (some ⟨gL, 0, none⟩) 1 cL) ∧ w'.cell? ⟨w4.heap.size, 1, none⟩ = some (.int .i64 1) ∧ w'.cell? ⟨w2.heap.size, i, none⟩ = some (.int .i64 x) ∧ w'.cell? ⟨gL, 0, none⟩ = some (.string (decS x))) ∧ Held w w4.heap.size w2.heap.size i gL (.slice (some ⟨gL, 0, none⟩) 1 cL) (.int .i64 1) (.int .i64 x) (.string (decS x)) w')
    (first | exact ⟨hV1, hH⟩ | exact Held.both (by assumption) | exact Held.more hH (Drawn.below (Drawn.drew _) _) | exact Held.more (by assumption) (Drawn.below (Drawn.drew _) _) | exact Held.more (And.right (by assumption)) (Drawn.below (Drawn.drew _) _) | exact Held.more (by assumption) ((Below.refl _ _).alloc (Nat.le_refl _) _) | exact Held.more (And.right (by assumption)) ((Below.refl _ _).alloc (Nat.le_refl _) _))
    (first | (go_at_call 24; refine (itoa_held x hxi HT.out (And.right (by assumption))).mono ?_; rintro e w5 ⟨rfl, h5⟩; have h51 := h5.1) | (go_at_call 23; refine (equal_one (decS x) (And.right (by assumption))).mono ?_; rintro e w5 ⟨rfl, h5⟩; have h51 := h5.1) | (go_at_call 23; refine (equal_one (decS x) (by assumption)).mono ?_; rintro e w5 ⟨rfl, h5⟩; have h51 := h5.1))
  all_goals
    go_wp2_with fail
    go_ret
    refine ⟨rfl, ?_⟩
    first | exact h5.2.2 | exact h5.drew.2.2
end Go.Proofs.YtaomlfbcfmmhlaaDoor

/-
  What strconv.Itoa writes strconv.Atoi reads (pure); quotient and remainder make the number again.
-/
namespace Go.Proofs.YtaomlfbcfmmhlaaDoor
open Go.RowKit Go.Pst
set_option linter.unusedVariables false
set_option linter.unusedSimpArgs false

theorem parse_snoc (c : UInt8) : ∀ (l : List UInt8) (acc : Nat), Lib.parseUint10 acc (l ++ [c]) = match Lib.parseUint10 acc l with
    | .ok u => Lib.parseUint10 u [c]
    | e => e
  | [], acc => rfl
  | d :: r, acc => by
    simp only [List.cons_append, Lib.parseUint10]
    split
    · split
      · rfl
      · split
        · rfl
        · exact parse_snoc c r _
    · rfl
theorem digit_val (d : Nat) (h : d < 10) : (UInt8.ofNat (48 + d)).toNat = 48 + d := by
  simp [UInt8.toNat_ofNat']
  omega
theorem parse_dec : ∀ (u : Nat), u < 18446744073709551616 → Lib.parseUint10 0 (Lib.decDigits u) = .ok u := by
  intro u
  induction u using Nat.strongRecOn with
  | _ u ih =>
    intro hu
    rw [Lib.decDigits]
    split
    · rename_i h
      have hd := digit_val u h
      simp only [Lib.parseUint10, hd]
      rw [if_pos (by omega), if_neg (by omega), if_neg (by omega)]
      congr 1
      omega
    · rename_i h
      have hd := digit_val (u % 10) (by omega)
      rw [parse_snoc, ih (u / 10) (by omega) (by omega)]
      simp only [Lib.parseUint10, hd]
      rw [if_pos (by omega), if_neg (by omega), if_neg (by omega)]
      congr 1
      omega
theorem dec_ne (u : Nat) : Lib.decDigits u ≠ [] := by
  rw [Lib.decDigits]
  split <;> simp
theorem dec_head (u : Nat) : ∃ c r, Lib.decDigits u = c :: r ∧ 48 ≤ c.toNat ∧ c.toNat ≤ 57 := by
  induction u using Nat.strongRecOn with
  | _ u ih =>
    rw [Lib.decDigits]
    split
    · rename_i h
      exact ⟨_, _, rfl, by rw [digit_val u h]; omega, by rw [digit_val u h]; omega⟩
    · rename_i h
      obtain ⟨c, r, e, h1, h2⟩ := ih (u / 10) (by omega)
      exact ⟨c, r ++ [UInt8.ofNat (48 + u % 10)], by rw [e]; rfl, h1, h2⟩
theorem parseMag_dec (u : Nat) (h : u < 18446744073709551616) : Lib.parseMag (Lib.decDigits u) = .ok u := by
  unfold Lib.parseMag
  rw [if_neg (dec_ne u), parse_dec u h]
theorem atoi_itoa (n : Int) (h : InI n) : Lib.atoiAll (Lib.itoa n) = .ok n := by
  obtain ⟨h1, h2⟩ := h
  unfold Lib.itoa
  split
  · rename_i hn
    rw [Lib.atoiAll_minus, parseMag_dec _ (by omega)]
    show (if 9223372036854775808 < n.natAbs then _ else _) = _
    rw [if_neg (by omega)]
    congr 1
    omega
  · rename_i hn
    obtain ⟨c, r, e, h3, h4⟩ := dec_head n.toNat
    have := parseMag_dec n.toNat (by omega)
    rw [e] at this ⊢
    rw [Lib.atoiAll_plain c r (by omega) (by omega), this]
    show (if 9223372036854775808 ≤ n.toNat then _ else _) = _
    rw [if_neg (by omega)]
    congr 1
    omega
theorem atoi_dec (n : Int) (h : InI n) : Lib.atoiAll (decS n).data.toList = .ok n := by
  unfold decS
  simpa using atoi_itoa n h

/-- What a division and its remainder give. -/
theorem parts_law (a b x y : Int) (ha : InI a) (hb : InI b) (hb0 : b ≠ 0) (hx : x = if b = -1 then wrap64 (-a) else wrap64 (a.tdiv b)) (hy : y = if b = -1 then 0 else a.tmod b) :
    wrap64 (wrap64 (x * b) + y) = a ∧ (y = 0 ∨ (decide (y < 0) == decide (a < 0)) = true) := by
  obtain ⟨a1, a2⟩ := ha
  by_cases h1 : b = -1
  · rw [if_pos h1] at hx hy
    subst hx hy h1
    refine ⟨?_, Or.inl rfl⟩
    unfold wrap64
    omega
  · rw [if_neg h1] at hx hy
    have hq : a.tdiv b * b + a.tmod b = a := by rw [Int.mul_comm]; exact Int.mul_tdiv_add_tmod a b
    subst hx hy
    refine ⟨?_, ?_⟩
    · have e1 : wrap64 (wrap64 (a.tdiv b) * b) = wrap64 (a.tdiv b * b) := by
        unfold wrap64
        rw [show ((a.tdiv b + 9223372036854775808) % 18446744073709551616 - 9223372036854775808) * b + 9223372036854775808 = (a.tdiv b * b + 9223372036854775808) + 18446744073709551616 * (-((a.tdiv b + 9223372036854775808) / 18446744073709551616) * b) by
          have := Int.emod_add_mul_ediv (a.tdiv b + 9223372036854775808) 18446744073709551616
          have e : (a.tdiv b + 9223372036854775808) % 18446744073709551616 = a.tdiv b + 9223372036854775808 - 18446744073709551616 * ((a.tdiv b + 9223372036854775808) / 18446744073709551616) := by omega
          rw [e]
          generalize (a.tdiv b + 9223372036854775808) / 18446744073709551616 = q
          generalize a.tdiv b = z
          rw [Int.sub_mul, Int.sub_mul, Int.add_mul, Int.neg_mul, Int.mul_neg, Int.mul_assoc]
          omega]
        rw [Int.add_mul_emod_self_left]
      rw [e1]
      generalize hm : a.tdiv b * b = z at *
      generalize a.tmod b = m at *
      unfold wrap64
      omega
    · by_cases hz : a.tmod b = 0
      · exact Or.inl hz
      · right
        by_cases hn : a < 0
        · have : a.tmod b < 0 := by
            have h3 := Int.tmod_nonneg b (show 0 ≤ -a by omega)
            rw [Int.neg_tmod] at h3
            omega
          simp [hn, this]
        · have := Int.tmod_nonneg b (show 0 ≤ a by omega)
          simp [hn]
          omega
end Go.Proofs.YtaomlfbcfmmhlaaDoor

/-
  CodeParts (posternkeep), walked: it answers true.
-/
namespace Go.Proofs.YtaomlfbcfmmhlaaDoor
open Go.RowKit Go.Pst
set_option linter.unusedVariables false
set_option linter.unusedSimpArgs false

/-- Cells that a world holds. -/
def CellsAt (l : List (Nat × Nat × Value)) (V : World) : Prop := ∀ p ∈ l, p.1 < V.heap.size ∧ V.cell? ⟨p.1, p.2.1, none⟩ = some p.2.2
theorem CellsAt.below {l : List (Nat × Nat × Value)} {V V' : World} (h : CellsAt l V) (hb : Below V.heap.size V V') : CellsAt l V' := fun p hp => ⟨Nat.lt_of_lt_of_le (h p hp).1 hb.size, (hb.cell (p := ⟨p.1, p.2.1, none⟩) (h p hp).1).trans (h p hp).2⟩
theorem CellsAt.cons {l : List (Nat × Nat × Value)} {V : World} (h : CellsAt l V) {b o : Nat} {v : Value} (hb : b < V.heap.size) (hc : V.cell? ⟨b, o, none⟩ = some v) : CellsAt ((b, o, v) :: l) V := by
  intro p hp
  rcases List.mem_cons.1 hp with rfl | hp
  · exact ⟨hb, hc⟩
  · exact h p hp
theorem CellsAt.nil (V : World) : CellsAt [] V := fun p hp => by simp at hp
theorem CellsAt.run {l : List (Nat × Nat × Value)} {V : World} (h : CellsAt l V) (u0 u1 : Value) (t : TypeId) : CellsAt ((V.heap.size, 0, u0) :: (V.heap.size, 1, u1) :: l) (V.alloc (.cells #[u0, u1] t)) :=
  ((h.below ((Below.refl _ _).alloc (Nat.le_refl _) _)).cons (by simp) (by rw [World.cell?_alloc_new]; rfl)).cons (by simp) (by rw [World.cell?_alloc_new]; rfl)

theorem div_sum (a b : Int) (hb : b ≠ 0) : sumF ⟨#[47]⟩ a b = (if b = -1 then wrap64 (-a) else wrap64 (a.tdiv b), 0) := by simp [sumF, hb]
theorem mod_sum (a b : Int) (hb : b ≠ 0) : sumF ⟨#[37]⟩ a b = (if b = -1 then 0 else a.tmod b, 0) := by simp [sumF, hb]
theorem zero_sum (s : ByteArray) (a : Int) (hs : s = ⟨#[47]⟩ ∨ s = ⟨#[37]⟩) : (sumF s a 0).2 = 3 := by rcases hs with rfl | rfl <;> simp [sumF]

/-- One of the two programs, made and run: it tells a line. -/
theorem one_ir_bad (s : ByteArray) (a b : Int) (v0 v1 : Value) (w : World) (hp : rProg (fun _ => True) w [v0, v1] (oneProg s a b)) (hs : s ∈ mathsF) (h : (sumF s a b).2 = 3) (hL : IrLaid w) (hT : TabOK w) :
    Calls Tryd.prog 18 #[.agg #[v0, v1], .int .i64 0, .int .i64 9] w fun e w' => ∃ aF cF, e = .returned (.tuple #[.agg #[.slice aF 0 cF, .int .i64 3], .int .i64 0]) ∧ Below w.heap.size w w' := by
  have := irRun_any (oneProg s a b) v0 v1 0 9 w hp (one_fit s a b) (ini rfl) (ini rfl) hL hT
  rw [one_res s a b hs, one_bad s a b h] at this
  refine this.mono ?_
  rintro e w' ⟨vL, rfl, hrow, hbe⟩
  obtain ⟨aF, cF, rfl, -, -⟩ := row_slice hrow
  exact ⟨aF, cF, rfl, hbe⟩
theorem one_ir_line (s : ByteArray) (a b : Int) (v0 v1 : Value) (w : World) (hp : rProg (fun _ => True) w [v0, v1] (oneProg s a b)) (hs : s ∈ mathsF) (h : (sumF s a b).2 = 0) (hL : IrLaid w) (hT : TabOK w) :
    Calls Tryd.prog 18 #[.agg #[v0, v1], .int .i64 0, .int .i64 9] w fun e w' => ∃ g c, e = .returned (.tuple #[.agg #[.slice (some ⟨g, 0, none⟩) 1 c, .int .i64 1], .int .i64 0]) ∧ g < w'.heap.size ∧ w'.cell? ⟨g, 0, none⟩ = some (.string (decS (sumF s a b).1)) ∧ Below w.heap.size w w' := by
  refine (one_ir s a b v0 v1 w hp hs h hL hT).mono ?_
  rintro e w' ⟨vL, rfl, hrow, hbe⟩
  obtain ⟨gL, cL, hvL, -, -, hlL, hcL, -⟩ := row_get hrow (i := 0) (u := .string (decS (sumF s a b).1)) rfl
  subst hvL
  exact ⟨gL, cL, rfl, hlL, hcL, hbe⟩
theorem atoi_any (x : Int) (hx : InI x) (w : World) : Calls Tryd.prog 28 #[.string (decS x)] w fun e w' => e = .returned (.tuple #[.int .i64 x, .nilIface]) ∧ Below w.heap.size w w' := by
  refine (Tryd.strconv_Atoi_ok (decS x) (by have := decS_size x hx; omega) x (atoi_dec x hx) w).mono ?_
  rintro e w' ⟨rfl, h⟩
  refine ⟨rfl, ?_⟩
  rcases h with rfl | ⟨t, rfl⟩
  · exact Below.refl _ _
  · exact Lib.bytesWorld_below w _ t

set_option maxRecDepth 100000 in
set_option maxHeartbeats 4000000 in
theorem codeParts_any (a b : Int) (w : World) (ha : InI a) (hb : InI b) (hL : IrLaid w) (hT : TabOK w) :
    Calls Tryd.prog 10 #[.int .i64 a, .int .i64 b] w fun e w' => e = .returned (.bool true) ∧ Below w.heap.size w w' := by
  have HL := Lib.hid hL
  have HT := Lib.hid hT
  clear hL hT
  by_cases hb0 : b = 0
  · subst hb0
    have hm1 : (⟨#[47]⟩ : ByteArray) ∈ mathsF := by decide
    have hm2 : (⟨#[37]⟩ : ByteArray) ∈ mathsF := by decide
    go_enter Tryd.func10, Tryd.ntmps10
    go_wp2_with fail
    refine (one_any ⟨#[47]⟩ a 0 w (by decide) ha hb).mono ?_
    rintro e w1 ⟨v0, v1, rfl, hp1, hb1⟩
    have Hp1 := Lib.hid hp1
    have Hb1 := Lib.hid hb1
    clear hp1 hb1
    go_wp2_with fail
    refine (one_ir_bad ⟨#[47]⟩ a 0 v0 v1 w1 Hp1.out hm1 (zero_sum _ _ (Or.inl rfl)) (HL.out.below Hb1.out) (HT.out.below Hb1.out HT.out.lt)).mono ?_
    rintro e w2 ⟨aF, cF, rfl, hb2⟩
    have hbV : Below w.heap.size w (w2.alloc (.cells #[.slice aF 0 cF, .int .i64 3] 41)) := (Hb1.out.trans (hb2.mono Hb1.out.size)).alloc (Nat.le_trans Hb1.out.size hb2.size) _
    have hcV := (CellsAt.nil w2).run (.slice aF 0 cF) (.int .i64 3) 41
    have HbV := Lib.hid hbV
    have HcV := Lib.hid hcV
    clear hb2 hbV hcV
    go_wp2_with fail
    generalize w2.alloc (.cells #[.slice aF 0 cF, .int .i64 3] 41) = V at *
    refine (one_any ⟨#[37]⟩ a 0 V (by decide) ha hb).mono ?_
    rintro e w3 ⟨u0, u1, rfl, hp3, hb3⟩
    have Hp3 := Lib.hid hp3
    have hb3' := HbV.out.trans (hb3.mono HbV.out.size)
    have hc3 := HcV.out.below hb3
    have Hb3 := Lib.hid hb3'
    have Hc3 := Lib.hid hc3
    clear hp3 hb3 hb3' hc3
    go_wp2_with fail
    refine (one_ir_bad ⟨#[37]⟩ a 0 u0 u1 w3 Hp3.out hm2 (zero_sum _ _ (Or.inr rfl)) (HL.out.below Hb3.out) (HT.out.below Hb3.out HT.out.lt)).mono ?_
    rintro e w4 ⟨aG, cG, rfl, hb4⟩
    have hc4 := Hc3.out.below hb4
    obtain ⟨l0, r0⟩ := hc4 (w2.heap.size, 0, .slice aF 0 cF) (by simp)
    obtain ⟨l1, r1⟩ := hc4 (w2.heap.size, 1, .int .i64 3) (by simp)
    have hb4' : Below w.heap.size w w4 := Hb3.out.trans (hb4.mono Hb3.out.size)
    have Hb4 := Lib.hid hb4'
    clear hb4 hc4 hb4' l1
    go_wp2_with fail
    go_ret
    exact ⟨rfl, Hb4.out.alloc Hb4.out.size _⟩
  · obtain ⟨x, hx⟩ : ∃ x, x = (sumF ⟨#[47]⟩ a b).1 := ⟨_, rfl⟩
    obtain ⟨y, hy⟩ : ∃ y, y = (sumF ⟨#[37]⟩ a b).1 := ⟨_, rfl⟩
    have hxi : InI x := hx ▸ sumF_in ha hb
    have hyi : InI y := hy ▸ sumF_in ha hb
    have hlaw := parts_law a b x y ha hb hb0 (by rw [hx, div_sum a b hb0]) (by rw [hy, mod_sum a b hb0])
    have hd2 : (sumF ⟨#[47]⟩ a b).2 = 0 := by rw [div_sum a b hb0]
    have hm2 : (sumF ⟨#[37]⟩ a b).2 = 0 := by rw [mod_sum a b hb0]
    have Hd2 := Lib.hid hd2
    have Hm2 := Lib.hid hm2
    have Hlaw := Lib.hid hlaw
    have hbz : (b == 0) = false := by simpa using hb0
    have Hx := Lib.hid hx
    have Hy := Lib.hid hy
    clear hx hy hd2 hm2 hlaw
    go_enter Tryd.func10, Tryd.ntmps10
    go_wp2_with fail
    refine (one_any ⟨#[47]⟩ a b w (by decide) ha hb).mono ?_
    rintro e w1 ⟨v0, v1, rfl, hp1, hb1⟩
    have Hp1 := Lib.hid hp1
    have Hb1 := Lib.hid hb1
    clear hp1 hb1
    go_wp2_with fail
    refine (one_ir_line ⟨#[47]⟩ a b v0 v1 w1 Hp1.out (by decide) Hd2.out (HL.out.below Hb1.out) (HT.out.below Hb1.out HT.out.lt)).mono ?_
    rw [← Hx.out]
    rintro e w2 ⟨g, c, rfl, hg, hcg, hb2⟩
    have hbV : Below w.heap.size w (w2.alloc (.cells #[.slice (some ⟨g, 0, none⟩) 1 c, .int .i64 1] 41)) := (Hb1.out.trans (hb2.mono Hb1.out.size)).alloc (Nat.le_trans Hb1.out.size hb2.size) _
    have hcV := ((CellsAt.nil w2).cons hg hcg).run (.slice (some ⟨g, 0, none⟩) 1 c) (.int .i64 1) 41
    have HbV := Lib.hid hbV
    have HcV := Lib.hid hcV
    clear hb2 hbV hcV hg hcg
    go_wp2_with fail
    generalize w2.alloc (.cells #[.slice (some ⟨g, 0, none⟩) 1 c, .int .i64 1] 41) = V at *
    refine (one_any ⟨#[37]⟩ a b V (by decide) ha hb).mono ?_
    rintro e w3 ⟨u0, u1, rfl, hp3, hb3⟩
    have Hp3 := Lib.hid hp3
    have hb3' := HbV.out.trans (hb3.mono HbV.out.size)
    have hc3 := HcV.out.below hb3
    have Hb3 := Lib.hid hb3'
    have Hc3 := Lib.hid hc3
    clear hp3 hb3 hb3' hc3
    go_wp2_with fail
    refine (one_ir_line ⟨#[37]⟩ a b u0 u1 w3 Hp3.out (by decide) Hm2.out (HL.out.below Hb3.out) (HT.out.below Hb3.out HT.out.lt)).mono ?_
    rw [← Hy.out]
    rintro e w4 ⟨g', c', rfl, hg', hcg', hb4⟩
    have hc40 := (Hc3.out.below hb4).cons hg' hcg'
    have hc4 := hc40.run (.slice (some ⟨g', 0, none⟩) 1 c') (.int .i64 1) 41
    have hb4' : Below w.heap.size w (w4.alloc (.cells #[.slice (some ⟨g', 0, none⟩) 1 c', .int .i64 1] 41)) := (Hb3.out.trans (hb4.mono Hb3.out.size)).alloc (Nat.le_trans Hb3.out.size hb4.size) _
    have Hb4 := Lib.hid hb4'
    have Hc4 := Lib.hid hc4
    obtain ⟨l0, r0⟩ := hc40 (w2.heap.size, 0, .slice (some ⟨g, 0, none⟩) 1 c) (by simp)
    obtain ⟨l1, r1⟩ := hc40 (g, 0, .string (decS x)) (by simp)
    clear hb4 hc4 hc40 hb4' hg' hcg'
    go_wp2_with fail
    generalize w4.alloc (.cells #[.slice (some ⟨g', 0, none⟩) 1 c', .int .i64 1] 41) = V' at *
    clear l0 r0 l1 r1
    refine (atoi_any x hxi V').mono ?_
    rintro e w5 ⟨rfl, hb5⟩
    have hc5 := Hc4.out.below hb5
    have hb5' := Hb4.out.trans (hb5.mono Hb4.out.size)
    obtain ⟨l0, r0⟩ := hc5 (w4.heap.size, 0, .slice (some ⟨g', 0, none⟩) 1 c') (by simp)
    obtain ⟨l1, r1⟩ := hc5 (g', 0, .string (decS y)) (by simp)
    have Hb5 := Lib.hid hb5'
    clear hb5 hc5 hb5'
    go_wp2_with fail
    refine (atoi_any y hyi w5).mono ?_
    rintro e w6 ⟨rfl, hb6⟩
    have Hb6 := Lib.hid (Hb5.out.trans (hb6.mono Hb5.out.size))
    have hE : (wrap64 (wrap64 (x * b) + y) == a) = true := by simpa using Hlaw.out.1
    clear hb6 r0 r1
    rcases hy0 : (y == 0) with _ | _
    · have hS : (decide (y < 0) == decide (a < 0)) = true := by
        rcases Hlaw.out.2 with h | h
        · simp [h] at hy0
        · exact h
      go_wp2_with fail
      go_ret
      exact ⟨rfl, Hb6.out⟩
    · go_wp2_with fail
      go_ret
      exact ⟨rfl, Hb6.out⟩
end Go.Proofs.YtaomlfbcfmmhlaaDoor

/-
  From CodeParts' card's condition on the tables of ir and strconv, and on strconv's errors, to what the walks ask; the door's own heap meets it.
-/
namespace Go.Proofs.YtaomlfbcfmmhlaaDoor
open Go.ChangeShapes Go.WideShapes Go.ChangeAt Go.RowKit Go.Pst
set_option linter.unusedVariables false

abbrev partsTables : List (String × DataW Unit) := [("math/bits.deBruijn32tab", Rows.laid_math_bits_deBruijn32tab), ("math/bits.deBruijn64tab", Rows.laid_math_bits_deBruijn64tab), ("internal/strconv.uint64pow10", Rows.laid_internal_strconv_uint64pow10), ("strconv.ErrRange", Rows.laid_strconv_ErrRange), ("strconv.ErrSyntax", Rows.laid_strconv_ErrSyntax), ("postern/ir.rules", Rows.laid_postern_ir_rules), ("postern/ir.maths", Rows.laid_postern_ir_maths)]
theorem partsLaid_of {W : World} (h : laidMetH Tryd.prog partsTables W) : IrLaid W ∧ TabOK W := by
  rw [MakeChecks.laidMetH_plain _ _ _ (by kernel_rfl)] at h
  have h3 := h.tail.tail
  have h6 := h3.tail.tail.tail
  refine ⟨irLaid_of (by rw [MakeChecks.laidMetH_plain _ _ _ (by kernel_rfl)]; exact h6), ?_⟩
  rw [powData] at h3
  have ht := Lib.tabIs_of_head gPow tPow Tryd.underlying222 Tryd.underlying197 (by kernel_rfl) (by kernel_rfl) h3
  exact ⟨ht, lt_of_cell (ht.cell gPow 0 (by rw [Lib.pow10Tab_length]; decide))⟩
theorem parts_door_met (os : Os) (args : Array Value) : laidMetH Tryd.prog partsTables ((World.doorLaid Tryd.prog 400 os).forCall (fun _ _ => 0) ⟨#[], args, []⟩).memory :=
  laidMetH_of_parts3 (fuel := 8) (laidMet_of_run' 8 (by kernel_rfl) (by kernel_rfl)) (by kernel_rfl) (by kernel_rfl)
end Go.Proofs.YtaomlfbcfmmhlaaDoor

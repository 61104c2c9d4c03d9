/-
  Texts joined: IrEnter IrArm4 IrStep.
-/
import Derived.Test.YtaomlfbcfmmhlaaDoorBigH
import Derived.Laws.CopyOwn
import Derived.Deep.DeepCutAuto
import Derived.Deep.RegionHeld3
import Derived.Test.YtaomlfbcfmmhlaaDoorBigJ
import Derived.Test.YtaomlfbcfmmhlaaDoorBigI
import Derived.Test.YtaomlfbcfmmhlaaDoorBigE

/-
  ir's machine: a function is entered: the contract.
-/
namespace Go.Proofs.YtaomlfbcfmmhlaaDoor
open Go.RowKit Go.Pst
set_option linter.unusedVariables false
set_option linter.unusedSimpArgs false

theorem enter_answers (s : ByteArray) (fs : List PCode) (w : World) (blk : Nat) (hlt : blk < w.heap.size) (hc : w.cell? ⟨blk, 0, none⟩ = some (.string s)) :
    AnswersC Tryd.prog 103 #[.pointer (some ⟨blk, 0, none⟩)] (fun c => decide (c.name = s)) fs w := by
  intro x _ cs w' hx hb
  have hc' : w'.cell? ⟨blk, 0, none⟩ = some (.string s) := (hb.cell (p := ⟨blk, 0, none⟩) hlt).trans hc
  obtain ⟨v5, rfl, -, -⟩ := hx
  have hlt' : blk < w'.heap.size := Nat.lt_of_lt_of_le hlt hb.size
  by_cases h : x.name = s
  · have h1 := str_eq h
    have Hh := Lib.hid h
    clear h
    go_enter Tryd.func103, Tryd.ntmps103
    go_wp2_with fail
    go_ret
    exact ⟨by simp [Hh.out], (Below.refl _ _).alloc (Nat.le_refl _) _⟩
  · have h1 := str_ne h
    have Hh := Lib.hid h
    clear h
    go_enter Tryd.func103, Tryd.ntmps103
    go_wp2_with fail
    go_ret
    exact ⟨by simp [Hh.out], (Below.refl _ _).alloc (Nat.le_refl _) _⟩

/-- 'copy' into a row of the call's own, from its head. -/
theorem wpList_copy_row {P : Program} {w : World} {ops : Array Oper} {rest : List Oper} {o : Oper} {a : Act} {Q : Exit → Act → World → Prop} (hgd : o.guard = none) (d s : Operand) (dT sT : TypeId)
    (ho : o.op = .call { callee := .builtin .copy, args := #[d, s], argTypes := #[dT, sT] }) (elem : TypeId) (hu : P.underlying dT = some (.slice elem)) (hsz : (P.info? elem).map (·.size) = some 1)
    (g dLen dCap : Nat) (sp : Option Addr) (sLen sCap : Nat) (hd : a.eval d = .slice (some ⟨g, 0, none⟩) dLen dCap) (hs : a.eval s = .slice sp sLen sCap)
    (cur : List Value) (t : TypeId) (hg : w.heap[g]? = some (.cells cur.toArray t (0, 0))) (cs : List Value) (hn : cs.length = Nat.min sLen dLen)
    (hpos : 0 < cs.length → ∃ ad, sp = some ad ∧ ∀ j v, cs[j]? = some v → w.cell? (ad.add j) = some v) (hfit : cs.length ≤ cur.length) (h1 : ∀ v ∈ cs, v.oneCell' = true)
    (h : ∀ w', Hid (w'.heap[g]? = some (.cells (cs ++ cur.drop cs.length).toArray t (0, 0))) → Since (fun k => k = g) w w' → wpList P ops Q rest (a.put o.dst (goInt cs.length)) w') :
    wpList P ops Q (o :: rest) a w := by
  by_cases h0 : cs.length = 0
  · obtain rfl : cs = [] := List.eq_nil_of_length_eq_zero h0
    refine wpList_copy_nothing hgd d s dT sT ho elem hu hsz _ sp dLen dCap sLen sCap hd hs (by simpa using hn.symm) ?_
    exact h w (Lib.hid (by simpa using hg)) (Since.refl _ _)
  · obtain ⟨ad, rfl, hsrc⟩ := hpos (by omega)
    refine wpList_copy_own hgd d s dT sT ho elem hu hsz g 0 dLen dCap ad sLen sCap hd hs cur.toArray t hg cs hn hsrc (by simpa using hfit) h1 ?_
    refine h _ (Lib.hid ?_) ⟨rfl, rfl, rfl, by simp [World.setRow], fun k _ hk => setRow_other w g k _ hk⟩
    have := setRow_heap w g _ (cur.toArray.toList.take 0 ++ (cs ++ cur.toArray.toList.drop (0 + cs.length))).toArray t _ hg
    simpa using this

/-- A new frame. -/
theorem IrAt.push [Old] {ρ : Nat → Option Lab} {w w1 w2 : World} {base bm : Nat} {v1 vW vL vF vF' : Value} {bF oF cF : Nat} {p : PProg} {limit end_ : Int} {words : List Int} {lines : List ByteArray} {fr : List (Lev × LA)} {o : Obj} {f : Lev} {a : LA}
    (h : IrAt ρ w base bm v1 vW vL vF bF oF cF p limit end_ words lines fr) (hs : Since (fun _ => False) w w1) (hg : (w1.alloc o).grownBy w2 vF.ownBlock)
    (ho : w2.ownsRow base 104 1 vF' (fr.length + 1) (irRow fr ++ [.pointer (some ⟨a.gs, 0, none⟩)])) (hloc : vF'.ownBlock = vF.ownBlock ∨ vF'.ownBlock = some (w1.heap.size + 1))
    (hv : intRow w1 base a.gv f.vars) (hc : w1.ownsRow base 107 5 (.slice (some ⟨a.gs, 0, none⟩) 1 1) 1 (irCells bF oF f a)) (nv : w.heap.size ≤ a.gv) (nt : w.heap.size ≤ a.gs) (hne : a.gv ≠ a.gs) (hw : rInts (· < base) w1 [a.vw] f.want) :
    ∃ ρ', IrAt ρ' (w2.setCell ⟨bm, 4, none⟩ vF') base bm v1 vW vL vF' bF oF cF p limit end_ words lines ((f, a) :: fr) := by
  have h1 := h.label (ρ' := fun k => if k < w.heap.size then ρ k else if k = a.gv then some (.v fr.length) else if k = a.gs then some (.t fr.length) else some .c) (fun k hk => by simp [hk])
  have s2 : Since (fun k => vF.ownBlock = some k) w1 w2 := (Since.alloc _ _ _).trans (Since.grown hg)
  have s3 : Since (fun k => vF.ownBlock = some k) w w2 := (hs.mono (fun _ e => e.elim)).trans s2
  have hlt : ∀ k, vF.ownBlock = some k → k < w.heap.size := fun k e => (h.rF.lt k e).2
  have lv : a.gv < w1.heap.size := (hv.lt _ rfl).2
  have lt : a.gs < w1.heap.size := (hc.lt _ rfl).2
  have s4 := Since.setCell w2 ⟨bm, 4, none⟩ vF'
  have hbm := h.lm
  have s5 : Since (fun k => vF.ownBlock = some k ∨ k = bm) w (w2.setCell ⟨bm, 4, none⟩ vF') := (s3.mono (fun _ e => Or.inl e)).trans (s4.mono (fun _ e => Or.inr e))
  have hB : ∀ k, (vF.ownBlock = some k ∨ k = bm) → base ≤ k := fun k e => by
    rcases e with e | e
    · exact (h.rF.lt k e).1
    · rw [e]; exact h.lm.2.1
  have lab : ∀ k, (vF.ownBlock = some k ∨ k = bm) → ρ k = some .c ∨ ρ k = some .s := fun k e => by
    rcases e with e | e
    · exact Or.inl (h.lc k e)
    · exact Or.inr (by rw [e]; exact h.lm.1)
  have lab1 : ∀ k, (vF.ownBlock = some k ∨ k = bm) → (if k < w.heap.size then ρ k else if k = a.gv then some (Lab.v fr.length) else if k = a.gs then some (Lab.t fr.length) else some Lab.c) = some .c ∨ (if k < w.heap.size then ρ k else if k = a.gv then some (Lab.v fr.length) else if k = a.gs then some (Lab.t fr.length) else some Lab.c) = some .s := fun k e => by
    have hk : k < w.heap.size := by
      rcases e with e | e
      · exact hlt k e
      · rw [e]; exact h.lm.2.2
    simp only [hk, if_true]
    exact lab k e
  have nbF : vF.ownBlock ≠ some bm := fun e => by have := h.lc bm e; rw [h.lm.1] at this; simp at this
  have get : ∀ i v, w.cell? ⟨bm, i, none⟩ = some v → i ≠ 4 → (w2.setCell ⟨bm, 4, none⟩ vF').cell? ⟨bm, i, none⟩ = some v := fun i v hv hn => by
    rw [World.cell?_setCell_other (h := by simp <;> omega)]
    exact (s3.cell h.lm.2.2 nbF).trans hv
  have n1 : a.gv ≠ bm := by have := h.lm.2.2; omega
  have n2 : a.gs ≠ bm := by have := h.lm.2.2; omega
  have hF' : ∀ k, vF'.ownBlock = some k → (if k < w.heap.size then ρ k else if k = a.gv then some (Lab.v fr.length) else if k = a.gs then some (Lab.t fr.length) else some Lab.c) = some .c := fun k hk => by
    rcases hloc with e | e
    · rw [e] at hk
      exact h1.lc k hk
    · rw [e] at hk
      have hk' : w1.heap.size + 1 = k := by simpa using hk
      have := hs.size
      have n1 : ¬ k < w.heap.size := by omega
      have n2 : ¬ k = a.gv := by omega
      have n3 : ¬ k = a.gs := by omega
      simp [n1, n2, n3]
  have nF' : vF'.ownBlock ≠ some bm := fun e => by have := hF' bm e; simp [h.lm.2.2, h.lm.1] at this
  exact ⟨_, { prog := Good.kept ((s5.keep).weaken (fun k _ hk e => absurd (hB k e) (by omega))) h.prog
              c0 := get _ _ h.c0 (by decide)
              c2 := get _ _ h.c2 (by decide)
              c3 := get _ _ h.c3 (by decide)
              c4 := World.cell?_setCell_same _ _ _ ((s3.cell h.lm.2.2 nbF).trans h.c4)
              c5 := get _ _ h.c5 (by decide)
              c6 := get _ _ h.c6 (by decide)
              z := fun j => (by rw [World.frozen?_setCell]; exact (s3.frozen h.lm.2.2 nbF).trans (h.z j))
              lm := ⟨(by simp [h.lm.2.2, h.lm.1]), h.lm.2.1, Nat.lt_of_lt_of_le h.lm.2.2 s5.size⟩
              lw := h1.lw
              ll := h1.ll
              lc := hF'
              oW := s5.row h.oW (fun k hk e => by have := lab k e; rw [h.lw k hk] at this; simp at this)
              oL := s5.row h.oL (fun k hk e => by have := lab k e; rw [h.ll k hk] at this; simp at this)
              rF := s4.row ho (fun k hk e => nF' (by rw [hk, show k = bm from e]))
              levs := ⟨⟨(by have : ¬ a.gv < w.heap.size := (by omega); simp [this]), (by have : ¬ a.gs < w.heap.size := (by omega); simp [this, Ne.symm hne]),
                s4.row (s2.row hv (fun k hk e => by have h1 : a.gv = k := (by simpa [Value.ownBlock] using hk); have := hlt k e; omega)) (fun k hk e => by have h1 : a.gv = k := (by simpa [Value.ownBlock] using hk); exact n1 (by rw [h1]; exact e)),
                s4.row (s2.row hc (fun k hk e => by have h1 : a.gs = k := (by simpa [Value.ownBlock] using hk); have := hlt k e; omega)) (fun k hk e => by have h1 : a.gs = k := (by simpa [Value.ownBlock] using hk); exact n2 (by rw [h1]; exact e)),
                Good.kept ((s4.keep).weaken (fun k _ hk e => absurd (hB k (Or.inr e)) (by omega))) (Good.kept ((s2.keep).weaken (fun k _ hk e => absurd (hB k (Or.inl e)) (by omega))) hw)⟩,
                LevsIr.since s5 hB h1.levs (fun k i e hi => by rcases lab1 k e with e | e <;> simp only [e] <;> simp)⟩
              big := Nat.le_trans h.big s5.size
              below := h.below.trans (s5.below h.big hB) }⟩

def EnterPost [Old] (base bm : Nat) (v1 vW vL : Value) (bF oF cF : Nat) (p : PProg) (limit end_ : Int) (words : List Int) (lines : List ByteArray) (fr : List (Lev × LA)) (st : List Lev) (c : Int) (e : Ending) (w' : World) : Prop :=
  e = .returned (.int .i64 c) ∧ ∃ ρ vF fr', IrAt ρ w' base bm v1 vW vL vF bF oF cF p limit end_ words lines fr' ∧ fr'.map (·.1) = st

set_option maxRecDepth 100000 in
set_option maxHeartbeats 4000000 in
theorem irEnter0 [Old] (ρ : Nat → Option Lab) (w : World) (base bm : Nat) (v1 vW vL vF vX vD : Value) (s : ByteArray) (bF oF cF : Nat) (p : PProg) (limit end_ : Int) (words : List Int) (lines : List ByteArray) (fr : List (Lev × LA))
    (h : IrAt ρ w base bm v1 vW vL vF bF oF cF p limit end_ words lines fr) (h40 : 40 ≤ fr.length) (hle : fr.length ≤ 100000) :
    Calls Tryd.prog 61 #[.pointer (some ⟨bm, 0, none⟩), .string s, vX, vD] w (EnterPost base bm v1 vW vL bF oF cF p limit end_ words lines fr (fr.map (·.1)) 4) := by
  obtain ⟨aF, cF', rfl, hF1, hF2⟩ := row_slice h.rF
  have c4 := h.c4
  have hbl := h.lm.2.2
  have H := Lib.hid h
  have hd : decide ((fr.length : Int) ≥ 40) = true := decide_eq_true (by omega)
  clear h
  go_enter Tryd.func61, Tryd.ntmps61
  go_wp2_with fail
  go_ret
  exact ⟨rfl, ρ, _, fr, H.out.since (Since.alloc _ _ _), rfl⟩

theorem info_irptr : (Tryd.prog.info? 104).map (fun i => (i.zero, i.size, i.bytes)) = some (some (.pointer none), 1, 8) := by kernel_rfl
theorem info_irframe : (Tryd.prog.info? 107).map (fun i => (i.zero, i.size, i.bytes)) = some (some (.agg #[.pointer none, .slice none 0 0, .int .i64 0, .int .i64 0, .slice none 0 0]), 5, 72) := by kernel_rfl

set_option maxRecDepth 100000 in
set_option maxHeartbeats 4000000 in
theorem irEnter1 [Old] (ρ : Nat → Option Lab) (w : World) (base bm : Nat) (v1 vW vL vF vX vD : Value) (s : ByteArray) (bF oF cF : Nat) (p : PProg) (limit end_ : Int) (words : List Int) (lines : List ByteArray) (fr : List (Lev × LA)) (xs ds : List Int) (k nv : Nat)
    (h : IrAt ρ w base bm v1 vW vL vF bF oF cF p limit end_ words lines fr) (h40 : fr.length < 40) (hX : w.ownsRow base 3 1 vX xs.length (xs.map (Value.int .i64))) (hD : rInts (· < base) w [vD] ds)
    (hnm : nameAt s p.funcs = k) (hkl : k < p.funcs.length) (hfl : p.funcs.length ≤ 40) (hcv : (codeAt p k).vars = nv) (hroom : xs.length ≤ nv) (hnv : nv ≤ 3000) :
    Calls Tryd.prog 61 #[.pointer (some ⟨bm, 0, none⟩), .string s, vX, vD] w (EnterPost base bm v1 vW vL bF oF cF p limit end_ words lines fr (⟨k, xs ++ (List.replicate nv (0 : Int)).drop xs.length, List.replicate (codeAt p k).slots.toNat 0, 0, 0, ds⟩ :: fr.map (·.1)) 0) := by
  obtain ⟨aF, cF', rfl, hF1, hF2⟩ := row_slice h.rF
  have c4 := h.c4
  have c0 := h.c0
  have hbl := h.lm.2.2
  have hbig := h.big
  obtain ⟨bF', oF', cF'', hv, hb1, hb2, f3, -⟩ := code_mem h.prog hkl
  obtain ⟨⟨rfl, rfl⟩, rfl⟩ : (bF = bF' ∧ oF = oF') ∧ cF = cF'' := by simpa using hv
  rw [hcv] at f3
  have hcodes : rCodes (fun _ => True) w [.slice (some ⟨bF, oF, none⟩) p.funcs.length cF] p.funcs := by
    obtain ⟨u, u', hv, hc, -⟩ := h.prog
    obtain ⟨rfl, rfl⟩ : _ = u ∧ v1 = u' := by simpa using hv
    exact Good.wide hc (fun _ _ _ => trivial)
  have H := Lib.hid h
  have Hc := Lib.hid hcodes
  have HX := Lib.hid hX
  have HD := Lib.hid hD
  have Hnm := Lib.hid hnm
  have hd : decide ((fr.length : Int) ≥ 40) = false := decide_eq_false (by omega)
  have hent := enters_of (P := Tryd.prog) Tryd.func103 (by kernel_rfl) (by kernel_rfl)
  have Hent := Lib.hid hent
  clear h hcodes hX hD hv hnm hent
  go_enter Tryd.func61, Tryd.ntmps61
  go_wp2_with fail
  generalize hw0 : w.alloc (.cells #[.string s] 9) = w0
  have s0 : Since (fun _ => False) w w0 := by rw [← hw0]; exact Since.alloc _ _ _
  have hb0 : Below w.heap.size w w0 := by rw [← hw0]; exact (Below.refl _ _).alloc (Nat.le_refl _) _
  have hsz : w0.heap.size = w.heap.size + 1 := by rw [← hw0]; simp
  have bs0 : w0.cell? ⟨w.heap.size, 0, none⟩ = some (.string s) := by rw [← hw0, World.cell?_alloc_at _ _ _ _ rfl]; rfl
  clear hw0
  have hans := enter_answers s p.funcs w0 w.heap.size (by omega) bs0
  refine (indexFuncC_any 103 #[.pointer (some ⟨w.heap.size, 0, none⟩)] (fun c => decide (c.name = s)) (some ⟨bF, oF, none⟩) p.funcs cF w0 (Good.kept (Keep.of_below' hb0 (fun k hk _ => hk)) Hc.out) Hent.out hans).mono ?_
  rintro e w1 ⟨rfl, hb1'⟩
  have hfo : firstOf (fun c : PCode => decide (c.name = s)) p.funcs 0 = k := Hnm.out
  rw [hfo]
  have s1 : Since (fun _ => False) w w1 := s0.trans ⟨hb1'.os, hb1'.tape, hb1'.output, hb1'.size, fun k hk _ => hb1'.block k hk⟩
  have c0' := (s1.cell (o := 0) hbl id).trans c0
  have c4' := (s1.cell (o := 4) hbl id).trans c4
  have f3' := (s1.cell (o := oF + k * 6 + 3) hb2 id).trans f3
  have z4' := (s1.frozen (o := 4) hbl id).trans (H.out.z 4)
  have hz1 := s1.size
  have hbl1 := Nat.lt_of_lt_of_le hbl hz1
  have S1 := Lib.hid s1
  have hmk := make_ints nv (by omega)
  have hk0 : (0 : Int) ≤ k := by omega
  have hk1 : (k : Int) < p.funcs.length := by omega
  obtain ⟨aX, cX, rfl, hX1, hX2⟩ := row_slice HX.out
  obtain ⟨aD, cD, rfl⟩ := rSlice_shape HD.out
  clear s0 hb0 hsz bs0 hans hb1' hfo s1 c0 c4 f3
  go_upto_region 6 with fail
  generalize hW2 : (w1.alloc (.cells (zeros nv) 3)).alloc (.cells #[.pointer (some ⟨bF, oF + k * 6, none⟩), .slice (some ⟨w1.heap.size, 0, none⟩) nv nv, .int .i64 0, .int .i64 0, .slice aD ds.length cD] 107) = W2
  have s2 : Since (fun _ => False) w1 W2 := by rw [← hW2]; exact (Since.alloc _ _ _).trans (Since.alloc _ _ _)
  have hgv : W2.heap[w1.heap.size]? = some (.cells (zeros nv) 3) := by rw [← hW2, Below.heap_alloc _ _ _ (by simp), heap_alloc_new]
  have hgs : W2.heap[w1.heap.size + 1]? = some (.cells #[.pointer (some ⟨bF, oF + k * 6, none⟩), .slice (some ⟨w1.heap.size, 0, none⟩) nv nv, .int .i64 0, .int .i64 0, .slice aD ds.length cD] 107) := by
    rw [← hW2]
    have := heap_alloc_new (w1.alloc (.cells (zeros nv) 3)) (Obj.cells #[.pointer (some ⟨bF, oF + k * 6, none⟩), .slice (some ⟨w1.heap.size, 0, none⟩) nv nv, .int .i64 0, .int .i64 0, .slice aD ds.length cD] 107)
    simpa using this
  clear hW2
  have e1 : W2.cell? ⟨w1.heap.size + 1, 1, none⟩ = some (.slice (some ⟨w1.heap.size, 0, none⟩) nv nv) := by simp [World.cell?, hgs]
  have c4 := (s2.cell (o := 4) hbl1 id).trans c4'
  have z4 := (s2.frozen (o := 4) hbl1 id).trans z4'
  have hz2 := s2.size
  have hgvl : w1.heap.size < W2.heap.size := (Array.getElem?_eq_some_iff.1 hgv).1
  have hgsl : w1.heap.size + 1 < W2.heap.size := (Array.getElem?_eq_some_iff.1 hgs).1
  have hpos : 0 < (xs.map (Value.int .i64)).length → ∃ ad, aX = some ad ∧ ∀ j v, (xs.map (Value.int .i64))[j]? = some v → W2.cell? (ad.add j) = some v := by
    intro h0
    have h0' : 0 < xs.length := by simpa using h0
    obtain ⟨gX, cX', hvX, -, -, -, -, -⟩ := row_get HX.out (i := 0) (u := .int .i64 xs[0]) (by simp [h0'])
    obtain rfl : aX = some ⟨gX, 0, none⟩ := (Value.slice.inj hvX).1
    refine ⟨_, rfl, fun j v hj => ?_⟩
    obtain ⟨g', c', hv', -, -, hl, hc, -⟩ := row_get HX.out hj
    obtain ⟨rfl, -⟩ : gX = g' ∧ _ := by simpa using hv'
    have : ((⟨gX, 0, none⟩ : Addr).add j) = ⟨gX, j, none⟩ := by by_cases h : j = 0 <;> simp [Addr.add, h]
    rw [this]
    exact ((S1.out.trans s2).cell hl id).trans hc
  have S2 := Lib.hid s2
  have Hpos := Lib.hid hpos
  have Hgv := Lib.hid hgv
  have Hgs := Lib.hid hgs
  have Hn := Lib.hid (show (xs.map (Value.int .i64)).length = Nat.min xs.length nv by rw [List.length_map]; exact (Nat.min_eq_left hroom).symm)
  have Hfit := Lib.hid (show (xs.map (Value.int .i64)).length ≤ (zeros nv).toList.length by simp [zeros, size_madeCells]; exact hroom)
  have isz : (Tryd.prog.info? 3).map (·.size) = some 1 := by kernel_rfl
  obtain ⟨iP, hiP, hP0, hP1, hP2⟩ := info_parts info_irptr
  clear s2 hpos hgv hgs c0' c4' f3' z4' hmk
  go_wp2_with (refine wpList_copy_row rfl (.tmp 44) (.tmp 45) 23 23 rfl 3 Tryd.underlying23 isz w1.heap.size nv nv aX xs.length cX rfl rfl (zeros nv).toList 3 Hgv.out (xs.map (Value.int .i64)) Hn.out Hpos.out Hfit.out (ints_oneCell .i64 xs) ?_)
  intro w3 hh hs3
  have c43 := (hs3.cell (o := 4) (Nat.lt_of_lt_of_le hbl1 hz2) (by omega)).trans c4
  have z43 := (hs3.frozen (o := 4) (Nat.lt_of_lt_of_le hbl1 hz2) (by omega)).trans z4
  have sW3 : Since (fun _ => False) w w3 := (S1.out.trans S2.out).then_new hs3 (fun k e => Or.inr (by omega))
  have hrun := H.out.since sW3
  have hrow := hrun.rF
  have nbF := fun k e => hrun.lc k e
  have nb : (Value.slice aF fr.length cF').ownBlock ≠ some bm := fun e => by have h1 := hrun.lc bm e; rw [hrun.lm.1] at h1; simp at h1
  have hbm3 := hrun.lm.2.2
  have hbig3 := hrun.big
  have HR := Lib.hid hrun
  have HH := hh
  have HS3 := Lib.hid hs3
  have SW3 := Lib.hid sW3
  have Nb := Lib.hid nb
  clear hrun hs3 sW3 nbF c4 z4 nb hh e1
  go_wp2_with (at_builtin; refine wpList_append_own_at _ rfl _ _ 100 rfl base 104 iP (.pointer none) 1 8 Tryd.underlying100 hiP hP0 hP1 hP2 rfl (by decide) _ _ _ rfl (hrow.alloc _) ⟨w3.heap.size, 0, none⟩ 1 1 [.pointer (some ⟨w1.heap.size + 1, 0, none⟩)] rfl rfl (cell_one_new _ _ _) (by intro u hu; simp at hu; subst hu; rfl) (by unfold maxLen; omega) (by omega) (by simp; omega) ?_)
  intro v' w4 hown hgrow _ hloc
  obtain ⟨gg, cg, rfl⟩ : ∃ gg cg, v' = .slice (some ⟨gg, 0, none⟩) (fr.length + 1) cg := by
    rcases hown.2 with ⟨_, h⟩ | ⟨gg, cap', _, h, _⟩
    · omega
    · exact ⟨gg, cap', h⟩
  have sg : Since (fun k => (Value.slice aF fr.length cF').ownBlock = some k) w3 w4 := (Since.alloc _ _ _).trans (Since.grown hgrow)
  have c44 := (sg.cell (o := 4) hbm3 Nb.out).trans c43
  have z44 := (sg.frozen (o := 4) hbm3 Nb.out).trans z43
  have hvr : intRow w3 base w1.heap.size (xs ++ (List.replicate nv (0 : Int)).drop xs.length) := by
    have h3 : w3.heap[w1.heap.size]? = some (.cells (xs.map (Value.int .i64) ++ List.replicate (nv - xs.length) (Value.int .i64 0)).toArray 3) := by
      have := HH.out
      simpa [zeros, toList_madeCells_one] using this
    have el : (xs ++ (List.replicate nv (0 : Int)).drop xs.length).length = nv := by simp; omega
    refine ⟨by simp, Or.inr ⟨w1.heap.size, nv, _, by rw [el], by omega, h3, by omega, by unfold maxLen; omega, ?_, ?_⟩⟩
    · simp
      omega
    · rw [el, List.take_of_length_le (by simp; omega)]
      simp
  have hcr : w3.ownsRow base 107 5 (.slice (some ⟨w1.heap.size + 1, 0, none⟩) 1 1) 1 (irCells bF oF ⟨k, xs ++ (List.replicate nv (0 : Int)).drop xs.length, List.replicate (codeAt p k).slots.toNat 0, 0, 0, ds⟩ ⟨w1.heap.size, w1.heap.size + 1, .slice aD ds.length cD⟩) := by
    have h3 := (HS3.out.block (w1.heap.size + 1) hgsl (by omega)).trans Hgs.out
    have el : (xs ++ (List.replicate nv (0 : Int)).drop xs.length).length = nv := by simp; omega
    refine ⟨rfl, Or.inr ⟨w1.heap.size + 1, 1, _, rfl, by omega, h3, by omega, by decide, rfl, ?_⟩⟩
    simp only [irCells, el]
    rfl
  obtain ⟨ρ2, hq⟩ := H.out.push (f := ⟨k, xs ++ (List.replicate nv (0 : Int)).drop xs.length, List.replicate (codeAt p k).slots.toNat 0, 0, 0, ds⟩) (a := ⟨w1.heap.size, w1.heap.size + 1, .slice aD ds.length cD⟩) SW3.out hgrow hown hloc hvr hcr hz1 (by simp only []; omega) (by simp) (Good.kept (SW3.out.keep.weaken (fun _ _ _ e => e.elim)) HD.out)
  have HQ := Lib.hid hq
  clear hq hown hgrow hloc hvr hcr sg c43 z43 hrow
  go_wp2_with fail
  go_ret
  exact ⟨rfl, ρ2, _, _, HQ.out, rfl⟩
end Go.Proofs.YtaomlfbcfmmhlaaDoor

/-
  ir's machine, a step: calls, returns, lines, room (printed by wip/gen_irarms.py).
-/
namespace Go.Proofs.YtaomlfbcfmmhlaaDoor
open Go.RowKit Go.Pst
set_option linter.unusedVariables false
set_option linter.unusedSimpArgs false
theorem sayF_some {s : ByteArray} {a b : Int} {words : List Int} {lines : List ByteArray} {l : ByteArray} (h : ¬ 2000 ≤ lines.length) (hl : lineF s a b words = some l) : sayF s a b words lines = (0, lines ++ [l]) := by unfold sayF; rw [if_neg h, hl]
theorem sayF_none {s : ByteArray} {a b : Int} {words : List Int} {lines : List ByteArray} (h : ¬ 2000 ≤ lines.length) (hl : lineF s a b words = none) : sayF s a b words lines = (2, lines) := by unfold sayF; rw [if_neg h, hl]
variable [Old]
set_option maxRecDepth 100000 in
set_option maxHeartbeats 4000000 in
theorem ir_show1 (ρ : Nat → Option Lab) (t : Array Value) (w : World) (base bm bi : Nat) (v1 vW vL vF vX u1 u2 u5 : Value) (bF oF cF : Nat) (p : PProg) (limit end_ : Int) (words : List Int) (lines : List ByteArray) (f : Lev) (a : LA) (r : List (Lev × LA)) (i : PInstr) (xs : List Int)
    (h : IrPre ρ t w base bm bi v1 vW vL vF vX u1 u2 u5 bF oF cF p limit end_ words lines f a r i xs) (hi : i = instrAt p f) (hx : xs = argsF false f i) (e : i.op = 8) (hs : i.s = sInt ∨ i.s = sBool) (y : Nat) (ha : i.ars = [(y : Int)]) (hxI : ∀ x ∈ xs, InI x) (hwl : words.length ≤ 20000) (hll : lines.length ≤ 2000) :
    irS7.wp Tryd.prog (bodyPost Tryd.prog Tryd.f62 (IrStepPost base bm v1 bF oF cF p limit end_ (stepF p false limit (stateOf words lines ((f, a) :: r))))) ⟨t, []⟩ w := by
  obtain ⟨x0, hxs⟩ : ∃ x0, xs = [x0] := by
    rw [hx]
    exact ⟨getI (f.src false i) (y : Int), by simp [argsF, e, ha]⟩
  have q1 : w.cell? ⟨a.gs, 1, none⟩ = some (.slice (some ⟨a.gv, 0, none⟩) f.vars.length f.vars.length) := (h.run.get (j := 1) rfl).1
  have hgl := (h.run.get (j := 1) rfl).2.2
  have hbl : bi < w.heap.size := (Array.getElem?_eq_some_iff.1 h.box).1
  have b0 : w.cell? ⟨bi, 0, none⟩ = some (.int .i64 8) := by simp [World.cell?, h.box, e]
  have b4 : w.cell? ⟨bi, 4, none⟩ = some (.string i.s) := by simp [World.cell?, h.box]
  have hst : stepF p false limit (stateOf words lines ((f, a) :: r)) = ((sayF i.s x0 x0 words lines).1, ⟨words, (sayF i.s x0 x0 words lines).2, { f with at_ := f.at_ + 1 } :: r.map (·.1)⟩) := by
    unfold stepF stateOf
    simp only [List.map_cons, ← hi, ← hx, e, hxs]
    rfl
  rw [hst]
  have hcall : Calls Tryd.prog 106 #[.pointer (some ⟨bm, 0, none⟩), .string i.s, vX] w (ShowPost base bm v1 vW vF bF oF cF p limit end_ words (({ f with at_ := f.at_ + 1 }, a) :: r) (sayF i.s x0 x0 words lines)) := by
    by_cases hfull : lines.length = 2000
    · rw [show sayF i.s x0 x0 words lines = (7, lines) by unfold sayF; rw [if_pos (by omega)]]
      exact irShow_full ρ w base bm v1 vW vL vF vX i.s bF oF cF p limit end_ words lines _ h.run hfull
    have hl2 : lines.length < 2000 := by omega
    rcases hs with hs | hs
    · rw [sayF_some (l := decS x0) (by omega) (by rw [hs]; unfold lineF; rw [if_pos rfl]), hs]
      have hc := irShow_int ρ w base bm v1 vW vL vF vX bF oF cF p limit end_ words lines _ xs h.run h.row h.tab x0 hxs (hxI x0 (by simp [hxs])) hl2
      exact hc
    · rw [sayF_some (l := if x0 = 0 then sFalse else sTrue) (by omega) (by rw [hs]; unfold lineF; rw [if_neg (by decide), if_pos rfl]), hs]
      have hc := irShow_bool ρ w base bm v1 vW vL vF vX bF oF cF p limit end_ words lines _ xs h.run h.row h.tab x0 hxs (hxI x0 (by simp [hxs])) hl2
      exact hc
  have Hcall := Lib.hid hcall
  obtain ⟨aX, cX, rfl, -, -⟩ := row_slice h.row
  have H := Lib.hid h
  unfold irS7
  conv => arg 2; whnf
  rw [frame262 t h.size, h.s0, h.s1, h.s5, h.s6, h.s7]
  clear h hx hst e hi hcall hxs ha hs
  generalize sayF i.s x0 x0 words lines = sr at *
  go_wp2_with fail
  refine Hcall.out.mono ?_
  rintro e w1 ⟨rfl, ρ1, vL1, hq⟩
  have HQ := Lib.hid hq
  clear hq Hcall
  go_wp2_with fail
  go_ret
  exact ⟨rfl, ρ1, vW, vL1, vF, _, HQ.out, by simp⟩

set_option maxRecDepth 100000 in
set_option maxHeartbeats 4000000 in
theorem ir_show2 (ρ : Nat → Option Lab) (t : Array Value) (w : World) (base bm bi : Nat) (v1 vW vL vF vX u1 u2 u5 : Value) (bF oF cF : Nat) (p : PProg) (limit end_ : Int) (words : List Int) (lines : List ByteArray) (f : Lev) (a : LA) (r : List (Lev × LA)) (i : PInstr) (xs : List Int)
    (h : IrPre ρ t w base bm bi v1 vW vL vF vX u1 u2 u5 bF oF cF p limit end_ words lines f a r i xs) (hi : i = instrAt p f) (hx : xs = argsF false f i) (e : i.op = 8) (hs : i.s = sText) (y z : Nat) (ha : i.ars = [(y : Int), (z : Int)]) (hxI : ∀ x ∈ xs, InI x) (hwl : words.length ≤ 20000) (hll : lines.length ≤ 2000) :
    irS7.wp Tryd.prog (bodyPost Tryd.prog Tryd.f62 (IrStepPost base bm v1 bF oF cF p limit end_ (stepF p false limit (stateOf words lines ((f, a) :: r))))) ⟨t, []⟩ w := by
  obtain ⟨x0, x1, hxs⟩ : ∃ x0 x1, xs = [x0 , x1] := by
    rw [hx]
    exact ⟨getI (f.src false i) (y : Int), getI (f.src false i) (z : Int), by simp [argsF, e, ha]⟩
  have q1 : w.cell? ⟨a.gs, 1, none⟩ = some (.slice (some ⟨a.gv, 0, none⟩) f.vars.length f.vars.length) := (h.run.get (j := 1) rfl).1
  have hgl := (h.run.get (j := 1) rfl).2.2
  have hbl : bi < w.heap.size := (Array.getElem?_eq_some_iff.1 h.box).1
  have b0 : w.cell? ⟨bi, 0, none⟩ = some (.int .i64 8) := by simp [World.cell?, h.box, e]
  have b4 : w.cell? ⟨bi, 4, none⟩ = some (.string i.s) := by simp [World.cell?, h.box]
  have hst : stepF p false limit (stateOf words lines ((f, a) :: r)) = ((sayF i.s x0 x1 words lines).1, ⟨words, (sayF i.s x0 x1 words lines).2, { f with at_ := f.at_ + 1 } :: r.map (·.1)⟩) := by
    unfold stepF stateOf
    simp only [List.map_cons, ← hi, ← hx, e, hxs]
    rfl
  rw [hst]
  have hcall : Calls Tryd.prog 106 #[.pointer (some ⟨bm, 0, none⟩), .string i.s, vX] w (ShowPost base bm v1 vW vF bF oF cF p limit end_ words (({ f with at_ := f.at_ + 1 }, a) :: r) (sayF i.s x0 x1 words lines)) := by
    by_cases hfull : lines.length = 2000
    · rw [show sayF i.s x0 x1 words lines = (7, lines) by unfold sayF; rw [if_pos (by omega)]]
      exact irShow_full ρ w base bm v1 vW vL vF vX i.s bF oF cF p limit end_ words lines _ h.run hfull
    have hl2 : lines.length < 2000 := by omega
    have no : ¬ (0 ≤ x1 ∧ x1 ≤ words.length ∧ 0 ≤ x0 ∧ x0 ≤ words.length - x1) → sayF i.s x0 x1 words lines = (2, lines) := fun hn => sayF_none (by omega) (by rw [hs]; unfold lineF; rw [if_neg (by decide), if_neg (by decide), if_neg hn])
    have hI0 := hxI x0 (by simp [hxs])
    have hI1 := hxI x1 (by simp [hxs])
    by_cases c1 : x1 < 0
    · rw [no (by omega), hs]
      exact irShow_text_n1 ρ w base bm v1 vW vL vF vX bF oF cF p limit end_ words lines _ xs h.run h.row h.tab x0 x1 hxs hI0 hI1 hl2 hwl c1
    by_cases c2 : x0 < 0
    · rw [no (by omega), hs]
      exact irShow_text_n2 ρ w base bm v1 vW vL vF vX bF oF cF p limit end_ words lines _ xs h.run h.row h.tab x0 x1 hxs hI0 hI1 hl2 hwl (by omega) c2
    by_cases c3 : words.length < x1
    · rw [no (by omega), hs]
      exact irShow_text_n3 ρ w base bm v1 vW vL vF vX bF oF cF p limit end_ words lines _ xs h.run h.row h.tab x0 x1 hxs hI0 hI1 hl2 hwl (by omega) (by omega) c3
    by_cases c4 : words.length - x1 < x0
    · rw [no (by omega), hs]
      exact irShow_text_n4 ρ w base bm v1 vW vL vF vX bF oF cF p limit end_ words lines _ xs h.run h.row h.tab x0 x1 hxs hI0 hI1 hl2 hwl (by omega) (by omega) (by omega) c4
    rw [sayF_some (l := bytesF ((words.drop x0.toNat).take x1.toNat)) (by omega) (by rw [hs]; unfold lineF; rw [if_neg (by decide), if_neg (by decide), if_pos (by omega)]), hs]
    by_cases c5 : x1 = 0
    · exact irShow_text_zero ρ w base bm v1 vW vL vF vX bF oF cF p limit end_ words lines _ xs h.run h.row h.tab x0 x1 hxs hl2 hwl (by omega) (by omega) (by omega) c5
    · exact irShow_text_pos ρ w base bm v1 vW vL vF vX bF oF cF p limit end_ words lines _ xs h.run h.row h.tab x0 x1 hxs hl2 hwl (by omega) (by omega) (by omega) (by omega)
  have Hcall := Lib.hid hcall
  obtain ⟨aX, cX, rfl, -, -⟩ := row_slice h.row
  have H := Lib.hid h
  unfold irS7
  conv => arg 2; whnf
  rw [frame262 t h.size, h.s0, h.s1, h.s5, h.s6, h.s7]
  clear h hx hst e hi hcall hxs ha hs
  generalize sayF i.s x0 x1 words lines = sr at *
  go_wp2_with fail
  refine Hcall.out.mono ?_
  rintro e w1 ⟨rfl, ρ1, vL1, hq⟩
  have HQ := Lib.hid hq
  clear hq Hcall
  go_wp2_with fail
  go_ret
  exact ⟨rfl, ρ1, vW, vL1, vF, _, HQ.out, by simp⟩

set_option maxRecDepth 100000 in
set_option maxHeartbeats 4000000 in
theorem ir_back0 (ρ : Nat → Option Lab) (t : Array Value) (w : World) (base bm bi : Nat) (v1 vW vL vF vX u1 u2 u5 : Value) (bF oF cF : Nat) (p : PProg) (limit end_ : Int) (words : List Int) (lines : List ByteArray) (f : Lev) (a : LA) (r : List (Lev × LA)) (i : PInstr) (xs : List Int)
    (h : IrPre ρ t w base bm bi v1 vW vL vF vX u1 u2 u5 bF oF cF p limit end_ words lines f a r i xs) (hi : i = instrAt p f) (hx : xs = argsF false f i) (e : i.op = 12) (hr : r = []) :
    irS7.wp Tryd.prog (bodyPost Tryd.prog Tryd.f62 (IrStepPost base bm v1 bF oF cF p limit end_ (stepF p false limit (stateOf words lines ((f, a) :: r))))) ⟨t, []⟩ w := by
  subst hr
  have q1 : w.cell? ⟨a.gs, 1, none⟩ = some (.slice (some ⟨a.gv, 0, none⟩) f.vars.length f.vars.length) := (h.run.get (j := 1) rfl).1
  have hgl := (h.run.get (j := 1) rfl).2.2
  have hbl : bi < w.heap.size := (Array.getElem?_eq_some_iff.1 h.box).1
  have b0 : w.cell? ⟨bi, 0, none⟩ = some (.int .i64 12) := by simp [World.cell?, h.box, e]
  have hst : stepF p false limit (stateOf words lines ((f, a) :: [])) = (1, ⟨words, lines, []⟩) := by
    unfold stepF stateOf
    simp only [List.map_cons, List.map_nil, ← hi, ← hx, e]
    rfl
  rw [hst]
  have hcall := irBack0 ρ w base bm v1 vW vL vF vX bF oF cF p limit end_ words lines _ a h.run
  have Hcall := Lib.hid hcall
  obtain ⟨aX, cX, rfl, -, -⟩ := row_slice h.row
  have H := Lib.hid h
  unfold irS7
  conv => arg 2; whnf
  rw [frame262 t h.size, h.s0, h.s1, h.s5, h.s6, h.s7]
  clear h hx hst e hi hcall
  go_wp2_with fail
  refine Hcall.out.mono ?_
  rintro e w1 ⟨rfl, ρ1, vF1, hq⟩
  have HQ := Lib.hid hq
  clear hq Hcall
  go_wp2_with fail
  go_ret
  exact ⟨rfl, ρ1, vW, vL, vF1, [], HQ.out, rfl⟩

set_option maxRecDepth 100000 in
set_option maxHeartbeats 4000000 in
theorem ir_back1 (ρ : Nat → Option Lab) (t : Array Value) (w : World) (base bm bi : Nat) (v1 vW vL vF vX u1 u2 u5 : Value) (bF oF cF : Nat) (p : PProg) (limit end_ : Int) (words : List Int) (lines : List ByteArray) (f : Lev) (a : LA) (r : List (Lev × LA)) (i : PInstr) (xs : List Int)
    (h : IrPre ρ t w base bm bi v1 vW vL vF vX u1 u2 u5 bF oF cF p limit end_ words lines f a r i xs) (hi : i = instrAt p f) (hx : xs = argsF false f i) (e : i.op = 12) (f1 : Lev) (a1 : LA) (r' : List (Lev × LA)) (hr : r = (f1, a1) :: r') (hwl : f.want.length = xs.length) (hwl2 : xs.length ≤ 40000) (hlen : r'.length ≤ 100000) (hwi : Ins f.want f1.vars.length) :
    irS7.wp Tryd.prog (bodyPost Tryd.prog Tryd.f62 (IrStepPost base bm v1 bF oF cF p limit end_ (stepF p false limit (stateOf words lines ((f, a) :: r))))) ⟨t, []⟩ w := by
  subst hr
  have q1 : w.cell? ⟨a.gs, 1, none⟩ = some (.slice (some ⟨a.gv, 0, none⟩) f.vars.length f.vars.length) := (h.run.get (j := 1) rfl).1
  have hgl := (h.run.get (j := 1) rfl).2.2
  have hbl : bi < w.heap.size := (Array.getElem?_eq_some_iff.1 h.box).1
  have b0 : w.cell? ⟨bi, 0, none⟩ = some (.int .i64 12) := by simp [World.cell?, h.box, e]
  have hst : stepF p false limit (stateOf words lines ((f, a) :: (f1, a1) :: r')) = (0, ⟨words, lines, { f1 with vars := putAll f1.vars f.want xs } :: r'.map (·.1)⟩) := by
    unfold stepF stateOf
    simp only [List.map_cons, ← hi, ← hx, e]
    rfl
  rw [hst]
  have hcall := irBack1 ρ w base bm v1 vW vL vF vX bF oF cF p limit end_ words lines _ f1 a a1 r' xs h.run h.row (fun k hk => (h.nx k hk).1) hwl hwl2 hlen hwi
  have Hcall := Lib.hid hcall
  obtain ⟨aX, cX, rfl, -, -⟩ := row_slice h.row
  have H := Lib.hid h
  unfold irS7
  conv => arg 2; whnf
  rw [frame262 t h.size, h.s0, h.s1, h.s5, h.s6, h.s7]
  clear h hx hst e hi hcall hwl
  go_wp2_with fail
  refine Hcall.out.mono ?_
  rintro e w1 ⟨rfl, ρ1, vF1, hq⟩
  have HQ := Lib.hid hq
  clear hq Hcall
  go_wp2_with fail
  go_ret
  exact ⟨rfl, ρ1, vW, vL, vF1, _, HQ.out, by simp⟩

set_option maxRecDepth 100000 in
set_option maxHeartbeats 4000000 in
theorem ir_invoke0 (ρ : Nat → Option Lab) (t : Array Value) (w : World) (base bm bi : Nat) (v1 vW vL vF vX u1 u2 u5 : Value) (bF oF cF : Nat) (p : PProg) (limit end_ : Int) (words : List Int) (lines : List ByteArray) (f : Lev) (a : LA) (r : List (Lev × LA)) (i : PInstr) (xs : List Int)
    (h : IrPre ρ t w base bm bi v1 vW vL vF vX u1 u2 u5 bF oF cF p limit end_ words lines f a r i xs) (hi : i = instrAt p f) (hx : xs = argsF false f i) (e : i.op = 7) (h40 : 40 ≤ r.length + 1) (hrl : r.length ≤ 100) :
    irS7.wp Tryd.prog (bodyPost Tryd.prog Tryd.f62 (IrStepPost base bm v1 bF oF cF p limit end_ (stepF p false limit (stateOf words lines ((f, a) :: r))))) ⟨t, []⟩ w := by
  have q1 : w.cell? ⟨a.gs, 1, none⟩ = some (.slice (some ⟨a.gv, 0, none⟩) f.vars.length f.vars.length) := (h.run.get (j := 1) rfl).1
  have hgl := (h.run.get (j := 1) rfl).2.2
  have hbl : bi < w.heap.size := (Array.getElem?_eq_some_iff.1 h.box).1
  have b0 : w.cell? ⟨bi, 0, none⟩ = some (.int .i64 7) := by simp [World.cell?, h.box, e]
  have b4 : w.cell? ⟨bi, 4, none⟩ = some (.string i.s) := by simp [World.cell?, h.box]
  have b1 : w.cell? ⟨bi, 1, none⟩ = some u1 := by simp [World.cell?, h.box]
  have hst : stepF p false limit (stateOf words lines ((f, a) :: r)) = (4, ⟨words, lines, { f with at_ := f.at_ + 1 } :: r.map (·.1)⟩) := by
    unfold stepF stateOf
    simp only [List.map_cons, ← hi, ← hx, e]
    show (if 40 ≤ (((f, a) :: r).map (·.1)).length then _ else _) = _
    rw [if_pos (by simpa using h40)]
  rw [hst]
  have hcall := irEnter0 ρ w base bm v1 vW vL vF vX u1 i.s bF oF cF p limit end_ words lines _ h.run (by simpa using h40) (by simp; omega)
  have Hcall := Lib.hid hcall
  obtain ⟨aX, cX, rfl, -, -⟩ := row_slice h.row
  obtain ⟨aD, cD, rfl⟩ := rSlice_shape h.i1
  have H := Lib.hid h
  unfold irS7
  conv => arg 2; whnf
  rw [frame262 t h.size, h.s0, h.s1, h.s5, h.s6, h.s7]
  clear h hx hst e hi hcall
  go_wp2_with fail
  refine Hcall.out.mono ?_
  rintro e w1 ⟨rfl, ρ1, vF1, fr1, hq, hfr⟩
  have HQ := Lib.hid hq
  have HF := Lib.hid hfr
  clear hq hfr Hcall
  go_wp2_with fail
  go_ret
  exact ⟨rfl, ρ1, vW, vL, vF1, fr1, HQ.out, HF.out⟩

set_option maxRecDepth 100000 in
set_option maxHeartbeats 4000000 in
theorem ir_invoke1 (ρ : Nat → Option Lab) (t : Array Value) (w : World) (base bm bi : Nat) (v1 vW vL vF vX u1 u2 u5 : Value) (bF oF cF : Nat) (p : PProg) (limit end_ : Int) (words : List Int) (lines : List ByteArray) (f : Lev) (a : LA) (r : List (Lev × LA)) (i : PInstr) (xs : List Int)
    (h : IrPre ρ t w base bm bi v1 vW vL vF vX u1 u2 u5 bF oF cF p limit end_ words lines f a r i xs) (hi : i = instrAt p f) (hx : xs = argsF false f i) (e : i.op = 7) (k nv : Nat) (hnm : nameAt i.s p.funcs = k) (hkl : k < p.funcs.length) (hfl : p.funcs.length ≤ 40) (hcv : (codeAt p k).vars = nv) (hroom : xs.length ≤ nv) (hnv : nv ≤ 3000) (h40 : r.length + 1 < 40) :
    irS7.wp Tryd.prog (bodyPost Tryd.prog Tryd.f62 (IrStepPost base bm v1 bF oF cF p limit end_ (stepF p false limit (stateOf words lines ((f, a) :: r))))) ⟨t, []⟩ w := by
  have q1 : w.cell? ⟨a.gs, 1, none⟩ = some (.slice (some ⟨a.gv, 0, none⟩) f.vars.length f.vars.length) := (h.run.get (j := 1) rfl).1
  have hgl := (h.run.get (j := 1) rfl).2.2
  have hbl : bi < w.heap.size := (Array.getElem?_eq_some_iff.1 h.box).1
  have b0 : w.cell? ⟨bi, 0, none⟩ = some (.int .i64 7) := by simp [World.cell?, h.box, e]
  have b4 : w.cell? ⟨bi, 4, none⟩ = some (.string i.s) := by simp [World.cell?, h.box]
  have b1 : w.cell? ⟨bi, 1, none⟩ = some u1 := by simp [World.cell?, h.box]
  have hst : stepF p false limit (stateOf words lines ((f, a) :: r)) = (0, ⟨words, lines, ⟨k, xs ++ (List.replicate nv (0 : Int)).drop xs.length, List.replicate (codeAt p k).slots.toNat 0, 0, 0, i.ds⟩ :: { f with at_ := f.at_ + 1 } :: r.map (·.1)⟩) := by
    unfold stepF stateOf
    simp only [List.map_cons, ← hi, ← hx, e]
    show (if 40 ≤ (((f, a) :: r).map (·.1)).length then _ else (0, (⟨words, lines, newLev p false (nameAt i.s p.funcs).toNat xs i.ds :: _⟩ : Mach))) = _
    rw [if_neg (by simp; omega), hnm]
    simp [newLev, hcv]
  rw [hst]
  have hcall := irEnter1 ρ w base bm v1 vW vL vF vX u1 i.s bF oF cF p limit end_ words lines _ xs i.ds k nv h.run (by simpa using h40) h.row h.i1 hnm hkl hfl hcv hroom hnv
  have Hcall := Lib.hid hcall
  obtain ⟨aX, cX, rfl, -, -⟩ := row_slice h.row
  obtain ⟨aD, cD, rfl⟩ := rSlice_shape h.i1
  have H := Lib.hid h
  unfold irS7
  conv => arg 2; whnf
  rw [frame262 t h.size, h.s0, h.s1, h.s5, h.s6, h.s7]
  clear h hx hst e hi hcall hnm hcv
  go_wp2_with fail
  refine Hcall.out.mono ?_
  rintro e w1 ⟨rfl, ρ1, vF1, fr1, hq, hfr⟩
  have HQ := Lib.hid hq
  have HF := Lib.hid hfr
  clear hq hfr Hcall
  go_wp2_with fail
  go_ret
  exact ⟨rfl, ρ1, vW, vL, vF1, fr1, HQ.out, HF.out⟩

set_option maxRecDepth 100000 in
set_option maxHeartbeats 4000000 in
theorem ir_alloc (ρ : Nat → Option Lab) (t : Array Value) (w : World) (base bm bi : Nat) (v1 vW vL vF vX u1 u2 u5 : Value) (bF oF cF : Nat) (p : PProg) (limit end_ : Int) (words : List Int) (lines : List ByteArray) (f : Lev) (a : LA) (r : List (Lev × LA)) (i : PInstr) (xs : List Int)
    (h : IrPre ρ t w base bm bi v1 vW vL vF vX u1 u2 u5 bF oF cF p limit end_ words lines f a r i xs) (hi : i = instrAt p f) (hx : xs = argsF false f i) (e : i.op = 6) (d : Nat) (hd : i.ds = [(d : Int)]) (hdl : d < f.vars.length) (y : Nat) (ha : i.ars = [(y : Int)]) (hxI : ∀ x ∈ xs, InI x) (hwl : words.length ≤ 20000) (hl0 : 0 ≤ limit) (hl : limit ≤ 20000) :
    irS7.wp Tryd.prog (bodyPost Tryd.prog Tryd.f62 (IrStepPost base bm v1 bF oF cF p limit end_ (stepF p false limit (stateOf words lines ((f, a) :: r))))) ⟨t, []⟩ w := by
  obtain ⟨x0, hxs⟩ : ∃ x0, xs = [x0] := by
    rw [hx]
    exact ⟨getI (f.src false i) (y : Int), by simp [argsF, e, ha]⟩
  have hI0 : InI x0 := hxI x0 (by simp [hxs])
  have q1 : w.cell? ⟨a.gs, 1, none⟩ = some (.slice (some ⟨a.gv, 0, none⟩) f.vars.length f.vars.length) := (h.run.get (j := 1) rfl).1
  have hgl := (h.run.get (j := 1) rfl).2.2
  have hbl : bi < w.heap.size := (Array.getElem?_eq_some_iff.1 h.box).1
  have b0 : w.cell? ⟨bi, 0, none⟩ = some (.int .i64 6) := by simp [World.cell?, h.box, e]
  have b1 : w.cell? ⟨bi, 1, none⟩ = some u1 := by simp [World.cell?, h.box]
  obtain ⟨bD, oD, cD, rfl, hD1, hD2⟩ : ∃ bD oD cD, u1 = .slice (some ⟨bD, oD, none⟩) 1 cD ∧ bD < base ∧ w.cell? ⟨bD, oD, none⟩ = some (.int .i64 d) := by
    obtain ⟨aD, cD, hv, -, -, hh⟩ := rInts_val h.i1
    rw [hd] at hv hh
    obtain ⟨b, o, rfl, hb, -, hc, -⟩ := hh 0 (by simp)
    exact ⟨b, o, cD, hv, hb, hc⟩
  have hd0 : (0 : Int) ≤ d := by omega
  have hd1 : (d : Int) < f.vars.length := by omega
  obtain ⟨_, _, hv2, -, -, hvl, hvc, hvz⟩ := row_get h.run.levs.1.vars (i := d) (u := .int .i64 f.vars[d]) (by simp [hdl])
  obtain ⟨rfl, -⟩ : a.gv = _ ∧ _ := by simpa using hv2
  clear hv2
  have hXrow := Lib.hid h.row
  obtain ⟨gX, cX, rfl, hX1, -, hXl, hX2, -⟩ := row_get h.row (i := 0) (u := .int .i64 x0) (by simp [hxs])
  have hXn := h.nx gX hX1
  have hXe : xs.length = 1 := by rw [hxs]; rfl
  have c2 := h.run.c2
  have c3 := h.run.c3
  obtain ⟨aW, cW, rfl, hcw1, hcw2⟩ := row_slice h.run.oW
  obtain ⟨hI1, hI2⟩ := hI0
  by_cases h1 : x0 < 0
  · have ht : takeF x0 limit words = (-2, words) := by simp only [takeF, if_pos h1]
    have hst : stepF p false limit (stateOf words lines ((f, a) :: r)) = (2, ⟨words, lines, { f with at_ := f.at_ + 1 } :: r.map (·.1)⟩) := by
      unfold stepF stateOf
      simp only [List.map_cons, ← hi, ← hx, e, hxs]
      show (if (takeF x0 limit words).1 = -1 then _ else if (takeF x0 limit words).1 = -2 then _ else (0, (⟨(takeF x0 limit words).2, lines, Lev.setV _ i (takeF x0 limit words).1 :: _⟩ : Mach))) = _
      rw [ht]
      rw [if_neg (by simp), if_pos rfl]
    rw [hst]
    have d1 : decide (x0 < 0) = true := decide_eq_true h1
    have H := Lib.hid h
    unfold irS7
    conv => arg 2; whnf
    rw [frame262 t h.size, h.s0, h.s1, h.s5, h.s6, h.s7]
    rw [hXe]
    clear h hx hd hst e hi ha hxs hX1 hXn hXe ht
    go_wp2_with fail
    go_ret
    exact ⟨rfl, ρ, _, vL, vF, _, H.out.run, by simp⟩
  by_cases h2 : limit - words.length < x0
  · have ht : takeF x0 limit words = (-1, words) := by simp only [takeF, if_neg h1, if_pos h2]
    have hst : stepF p false limit (stateOf words lines ((f, a) :: r)) = (5, ⟨words, lines, { f with at_ := f.at_ + 1 } :: r.map (·.1)⟩) := by
      unfold stepF stateOf
      simp only [List.map_cons, ← hi, ← hx, e, hxs]
      show (if (takeF x0 limit words).1 = -1 then _ else if (takeF x0 limit words).1 = -2 then _ else (0, (⟨(takeF x0 limit words).2, lines, Lev.setV _ i (takeF x0 limit words).1 :: _⟩ : Mach))) = _
      rw [ht]
      rw [if_pos rfl]
    rw [hst]
    have d1 : decide (x0 < 0) = false := decide_eq_false h1
    have hwr : IntKind.i64.wrap (limit - (words.length : Int)) = limit - words.length := IntWalk.i64_in _ (by omega)
    have d2 : decide (x0 > limit - (words.length : Int)) = true := decide_eq_true h2
    have H := Lib.hid h
    unfold irS7
    conv => arg 2; whnf
    rw [frame262 t h.size, h.s0, h.s1, h.s5, h.s6, h.s7]
    rw [hXe]
    clear h hx hd hst e hi ha hxs hX1 hXn hXe ht
    go_upto_region 35 with fail
    go_quiet (fail)
    go_wp2_with fail
    go_ret
    exact ⟨rfl, ρ, _, vL, vF, _, H.out.run.since (Since.drewN _ _ _), by simp⟩
  · have ht : takeF x0 limit words = ((words.length : Int), words ++ List.replicate x0.toNat 0) := by simp only [takeF, if_neg h1, if_neg h2]
    have hst : stepF p false limit (stateOf words lines ((f, a) :: r)) = (0, ⟨words ++ List.replicate x0.toNat 0, lines, Lev.setV { f with at_ := f.at_ + 1 } i words.length :: r.map (·.1)⟩) := by
      unfold stepF stateOf
      simp only [List.map_cons, ← hi, ← hx, e, hxs]
      show (if (takeF x0 limit words).1 = -1 then _ else if (takeF x0 limit words).1 = -2 then _ else (0, (⟨(takeF x0 limit words).2, lines, Lev.setV _ i (takeF x0 limit words).1 :: _⟩ : Mach))) = _
      rw [ht]
      rw [if_neg (by simp only []; omega), if_neg (by simp only []; omega)]
    rw [hst]
    have d1 : decide (x0 < 0) = false := decide_eq_false h1
    have hwr : IntKind.i64.wrap (limit - (words.length : Int)) = limit - words.length := IntWalk.i64_in _ (by omega)
    have d2 : decide (x0 > limit - (words.length : Int)) = false := decide_eq_false h2
    have ngs : ¬ a.gs = a.gv := fun e => by have h1 := h.run.levs.1.lt; rw [e, h.run.levs.1.lv] at h1; simp at h1
    have nbi : ¬ bi = a.gv := fun e => by have h1 := h.nb; rw [e, h.run.levs.1.lv] at h1; simp at h1
    have nbD : ¬ bD = a.gv := fun e => by have h1 : base ≤ a.gv := (h.run.levs.1.vars.lt _ rfl).1; omega
    have nbm : ¬ bm = a.gv := fun e => by have h1 := h.run.lm.1; rw [e, h.run.levs.1.lv] at h1; simp at h1
    have hk : ∀ n b o u, ¬ b = a.gv → ((w.drewN n).setCell ⟨a.gv, d, none⟩ u).cell? ⟨b, o, none⟩ = w.cell? ⟨b, o, none⟩ := fun n b o u hb => World.cell?_of_block (w := w) (Below.heap_setCell (w.drewN n) _ _ _ hb)
    have k0 := fun n u => (hk n (a.gs) (1) u ngs).trans q1
    have k1 := fun n u => (hk n (bi) (1) u nbi).trans b1
    have k2 := fun n u => (hk n (bD) (oD) u nbD).trans hD2
    have k3 := fun n u => (hk n (bm) (2) u nbm).trans c2
    obtain ⟨X, rfl⟩ := Int.eq_ofNat_of_zero_le (show 0 ≤ x0 by omega)
    obtain ⟨i0, hii, hz0, hz1, hz2⟩ := info_parts info_int
    have ngv : a.gv ≠ bm := fun e => by have h1 := h.run.lm.1; rw [← e, h.run.levs.1.lv] at h1; simp at h1
    have hbm := h.run.lm.2.2
    have nWb : (Value.slice aW words.length cW).ownBlock ≠ some bm := fun e => by have h1 := h.run.lw bm e; rw [h.run.lm.1] at h1; simp at h1
    have hzw := h.run.z 2
    have hbig := h.run.big
    have H := Lib.hid h
    unfold irS7
    conv => arg 2; whnf
    rw [frame262 t h.size, h.s0, h.s1, h.s5, h.s6, h.s7]
    have Hd := Lib.hid hd
    rw [hXe]
    clear hk h hx hd hst e hi ha hxs hX1 hXn hXe ht
    generalize f.vars[d] = old at *
    have Hh1 := Lib.hid h1
    have HX1 := Lib.hid (show (X : Int) ≤ limit - words.length by omega)
    have Hh2 := Lib.hid h2
    have Hngv := Lib.hid ngv
    have HnWb := Lib.hid nWb
    clear h1 h2 ngv nWb
    go_upto_region 35 with fail
    go_quiet (fail)
    have q1d : (w.drewN nq).cell? ⟨a.gs, 1, none⟩ = _ := q1
    go_upto_region 31 with fail
    rename_i K9 hK9
    have HK9 := Lib.hid hK9
    clear hK9
    go_region_held3 (fun w' => w'.cell? ⟨a.gs, 1, none⟩ = some (.slice (some ⟨a.gv, 0, none⟩) f.vars.length f.vars.length) ∧ w'.cell? ⟨bi, 1, none⟩ = some (.slice (some ⟨bD, oD, none⟩) 1 cD) ∧ w'.cell? ⟨bD, oD, none⟩ = some (.int .i64 d) ∧ w'.cell? ⟨bm, 2, none⟩ = some (.slice aW words.length cW)) (go_keep) (fail)
    all_goals refine HK9.out _ _ ?_
    have hq := (H.out.run.since (Since.drewN _ w (nq + 1))).setV d words.length
    clear k0 k1 k2 k3 hzw hbig c2 c3 q1 b0 b1 hD2 hX2 q1d
    generalize (w.drewN (nq + 1)).setCell ⟨a.gv, d, none⟩ (.int .i64 words.length) = W at *
    have c2W := hq.c2
    have z2W := hq.z 2
    have hbmW := hq.lm.2.2
    have hx1 := HX1.out
    obtain ⟨v', w2, hr, hown', hgr, hloc⟩ := run_append_zeros (P := Tryd.prog) W base 23 3 23 3 i0 Tryd.underlying23 Tryd.underlying3 hii hz0 hz1 hz2 _ _ _ hq.oW X (by omega) hq.big
    have sg := Since.grown hgr
    have c22 := (sg.cell (o := 2) hbmW (fun e => HnWb.out e)).trans c2W
    have z22 := (sg.frozen (o := 2) hbmW (fun e => HnWb.out e)).trans z2W
    obtain ⟨aV, cV, rfl, hcv1, hcv2⟩ := row_slice hown'
    obtain ⟨ρ2, hq2⟩ := hq.turn (words' := words ++ List.replicate X 0) sg 2 (Or.inl rfl) (.slice aV (words.length + X) cV) (fun k e => Or.inl ⟨rfl, e⟩) (fun e => absurd rfl e) (fun _ => ⟨rfl, rfl⟩) (fun _ => rfl) (fun e => absurd e (by decide)) (fun _ => by simpa using hown') (fun e => absurd e (by decide))
      (fun _ k hk => by
        rcases hloc with e | e
        · rw [e] at hk; exact Or.inl hk
        · rw [e] at hk
          have : W.heap.size = k := by simpa using hk
          exact Or.inr (by omega))
      (fun e => absurd e (by decide))
    have HR := Lib.hid hr
    have HQ2 := Lib.hid hq2
    clear hq hr hown' hgr hloc sg hq2
    go_wp2_with (at_builtin; refine Lib.wpList_append_run _ rfl (.tmp 161) (.tmp 162) 23 3 rfl _ _ rfl rfl _ w2 HR.out ?_)
    go_wp2_with fail
    go_ret
    exact ⟨rfl, ρ2, _, vL, vF, _, HQ2.out, by simp [Lev.setV, getI, Hd.out]⟩
end Go.Proofs.YtaomlfbcfmmhlaaDoor

/-
  ir's machine: a whole step.
-/
namespace Go.Proofs.YtaomlfbcfmmhlaaDoor
open Go.RowKit Go.Pst
set_option linter.unusedVariables false
set_option linter.unusedSimpArgs false

set_option maxHeartbeats 4000000 in
theorem irStep_any [Old] (ρ : Nat → Option Lab) (w : World) (base bm : Nat) (v1 vW vL vF u1 u2 u5 : Value) (bF oF cF : Nat) (p : PProg) (limit end_ : Int) (words : List Int) (lines : List ByteArray) (f : Lev) (a : LA) (r : List (Lev × LA))
    (h : IrAt ρ w base bm v1 vW vL vF bF oF cF p limit end_ words lines (({ f with at_ := f.at_ + 1 }, a) :: r)) (hfit : Fits p false limit (stateOf words lines ((f, a) :: r))) (hs : Sound p false) (hT : TabOK w) (hTb : 5 < base) (hl0 : 0 ≤ limit) (hl : limit ≤ 20000)
    (i1 : rInts (· < base) w [u1] (instrAt p f).ds) (i2 : rInts (· < base) w [u2] (instrAt p f).ars) (i5 : rInts (· < base) w [u5] (instrAt p f).to) (ini : InI (instrAt p f).op ∧ InI (instrAt p f).n ∧ (instrAt p f).s.size ≤ maxLen) :
    Calls Tryd.prog 62 #[.pointer (some ⟨bm, 0, none⟩), .pointer (some ⟨a.gs, 0, none⟩), .agg #[.int .i64 (instrAt p f).op, u1, u2, .int .i64 (instrAt p f).n, .string (instrAt p f).s, u5]] w
      (IrStepPost base bm v1 bF oF cF p limit end_ (stepF p false limit (stateOf words lines ((f, a) :: r)))) := by
  have hL : LevOK p f := hfit.levs f (by simp [stateOf])
  have hlen := hfit.some_
  simp only [stateOf, List.map_cons, List.length_cons, List.length_map] at hlen
  have hrl : r.length < 40 := by omega
  have hwI := hfit.words
  have hww : words.length ≤ 20000 := by have : (words.length : Int) ≤ limit := hwI.2; omega
  have hll : lines.length ≤ 2000 := hfit.lines
  have hco := hs.codes _ (codeAt_mem hL.fn)
  have hvl := hL.vl
  have hsl := hL.sl
  have hsm := hco.small
  obtain ⟨hok, hcl⟩ := hL.ok hs
  have hxI : ∀ x ∈ argsF false f (instrAt p f), InI x := argsF_in (m := false) hL.toLevIn (instrAt p f)
  have hnb := hco.nb
  have hpar := hco.pars
  have hchain := hfit.chain
  simp only [stateOf, List.map_cons] at hchain
  have hsrcl : (f.src false (instrAt p f)).length ≤ 40000 := by unfold Lev.src; split <;> omega
  have hbl := (hco.blk _ hL.blk).2.1
  have hlb : Ins (instrAt p f).to (codeAt p f.fn).blocks.length → ∀ x ∈ (instrAt p f).to, 0 ≤ x := fun h x hx => (h x hx).1
  have hargs : (instrAt p f).op ≠ 21 → Ins (instrAt p f).ars (f.src false (instrAt p f)).length := by
    intro h21
    have one : ∀ a : Nat, ∀ n : Nat, a < n → Ins [(a : Int)] n := fun a n h x hx => by simp at hx; omega
    have two : ∀ a b : Nat, ∀ n : Nat, a < n → b < n → Ins [(a : Int), (b : Int)] n := fun a b n h h' x hx => by simp at hx; rcases hx with rfl | rfl <;> omega
    have nil : ∀ n : Nat, Ins [] n := fun n x hx => by simp at hx
    unfold Lev.src
    rcases hok with ⟨e, d, hd, hd', ha⟩ | ⟨e, d, a, hd, hd', ha, ha'⟩ | ⟨e, hss, d, a, b, hd, hd', ha, ha', hb'⟩ | ⟨e, d, a, hd, hd', ha, ha'⟩ | ⟨e, a, b, ha, ha', hb'⟩ | ⟨e, d, a, hd, hd', ha, ha'⟩ | ⟨e, k, g, hk, hg, hp, hr, ia, id⟩ | ⟨e, ⟨hs1, a, b, ha, ha', hb'⟩ | ⟨hs1, a, ha, ha'⟩⟩ | ⟨e, ha, tt, ht, ht'⟩ | ⟨e, a, tt, u, ha, ha', ht, ht', hu'⟩ | ⟨e, ⟨a, ha, ha'⟩, ht, ht'⟩ | ⟨e, hr, ia⟩ | ⟨e, ha, n1, n2⟩ | ⟨em, e, ha, d, n, hd, hd', hn1, hn2⟩ | ⟨em, e, a, n, ha, ha', hn1, hn2⟩
    all_goals simp only [e, Int.reduceEq, or_self, or_false, or_true, and_false, and_true, if_false, reduceIte] at *
    all_goals try rw [ha]
    · exact nil _
    · exact one _ _ ha'
    · exact two _ _ _ ha' hb'
    · exact one _ _ ha'
    · exact two _ _ _ ha' hb'
    · exact one _ _ ha'
    · simpa using ia
    · exact two _ _ _ ha' hb'
    · exact one _ _ ha'
    · exact nil _
    · exact one _ _ ha'
    · exact one _ _ ha'
    · simpa using ia
    · exact nil _
    · exact absurd rfl h21
    · exact one _ _ ha'
  have hal : (instrAt p f).ars.length ≤ 16 ∨ (instrAt p f).ars.length ≤ 2 := by
    rcases hok with ⟨e, d, hd, hd', ha⟩ | ⟨e, d, a, hd, hd', ha, ha'⟩ | ⟨e, hss, d, a, b, hd, hd', ha, ha', hb'⟩ | ⟨e, d, a, hd, hd', ha, ha'⟩ | ⟨e, a, b, ha, ha', hb'⟩ | ⟨e, d, a, hd, hd', ha, ha'⟩ | ⟨e, k, g, hk, hg, hp, hr, ia, id⟩ | ⟨e, ⟨hs1, a, b, ha, ha', hb'⟩ | ⟨hs1, a, ha, ha'⟩⟩ | ⟨e, ha, tt, ht, ht'⟩ | ⟨e, a, tt, u, ha, ha', ht, ht', hu'⟩ | ⟨e, ⟨a, ha, ha'⟩, ht, ht'⟩ | ⟨e, hr, ia⟩ | ⟨e, ha, n1, n2⟩ | ⟨em, e, ha, d, n, hd, hd', hn1, hn2⟩ | ⟨em, e, a, n, ha, ha', hn1, hn2⟩
    case inr.inr.inr.inr.inr.inr.inl =>
      have := (hs.codes g (List.mem_of_getElem? hg)).pars
      left
      omega
    case inr.inr.inr.inr.inr.inr.inr.inr.inr.inr.inr.inl => left; omega
    all_goals (right; rw [ha]; simp)
  have h21 : (instrAt p f).op ≠ 21 := by
    intro e21
    rcases hok with ⟨e, _⟩ | ⟨e, _⟩ | ⟨e, _⟩ | ⟨e, _⟩ | ⟨e, _⟩ | ⟨e, _⟩ | ⟨e, _⟩ | ⟨e, _⟩ | ⟨e, _⟩ | ⟨e, _⟩ | ⟨e, _⟩ | ⟨e, _⟩ | ⟨e, _⟩ | ⟨em, _⟩ | ⟨em, _⟩
    all_goals first | omega | simp at em
  have hsv : f.src false (instrAt p f) = f.vars := by simp [Lev.src]
  rw [hsv] at hargs hsrcl
  have HOK := Lib.hid hok
  refine irArgs_any _ ρ w base bm v1 vW vL vF u1 u2 u5 bF oF cF p limit end_ words lines f a r _ h hT hTb i1 i2 i5 ini h21 (hargs h21) (by omega) hsrcl (Lib.hid ?_)
  intro ρ3 t3 w3 bi vX h3
  have hxl : (argsF false f (instrAt p f)).length = (instrAt p f).ars.length := by unfold argsF; rw [if_neg h21]; simp
  have hcd : ∀ k : Nat, ∀ g : PCode, p.funcs[k]? = some g → k < p.funcs.length ∧ codeAt p k = g := fun k g hg => by
    obtain ⟨h1, h2⟩ := List.getElem?_eq_some_iff.1 hg
    exact ⟨h1, by rw [codeAt_eq h1, h2]⟩
  rcases hok with ⟨e, d, hd, hd', ha⟩ | ⟨e, d, a', hd, hd', ha, ha'⟩ | ⟨e, hss, d, a', b, hd, hd', ha, ha', hb'⟩ | ⟨e, d, a', hd, hd', ha, ha'⟩ | ⟨e, a', b, ha, ha', hb'⟩ | ⟨e, d, a', hd, hd', ha, ha'⟩ | ⟨e, k, gc, hk, hg, hp, hr, ia, id⟩ | ⟨e, ⟨hs1, a', b, ha, ha', hb'⟩ | ⟨hs1, a', ha, ha'⟩⟩ | ⟨e, ha, tt, ht, ht'⟩ | ⟨e, a', tt, u, ha, ha', ht, ht', hu'⟩ | ⟨e, ⟨a', ha, ha'⟩, ht, ht'⟩ | ⟨e, hr, ia⟩ | ⟨e, ha, n1, n2⟩ | ⟨em, _⟩ | ⟨em, _⟩
  · exact ir_const ρ3 t3 w3 base bm bi v1 vW vL vF vX u1 u2 u5 bF oF cF p limit end_ words lines f a r _ _ h3 rfl rfl e d hd hd'
  · exact ir_move ρ3 t3 w3 base bm bi v1 vW vL vF vX u1 u2 u5 bF oF cF p limit end_ words lines f a r _ _ h3 rfl rfl e d hd hd' a' ha
  · exact ir_math ρ3 t3 w3 base bm bi v1 vW vL vF vX u1 u2 u5 bF oF cF p limit end_ words lines f a r _ _ h3 rfl rfl e hss d hd hd' a' b ha hxI
  · exact ir_load ρ3 t3 w3 base bm bi v1 vW vL vF vX u1 u2 u5 bF oF cF p limit end_ words lines f a r _ _ h3 rfl rfl e d hd hd' a' ha hxI hww
  · exact ir_store ρ3 t3 w3 base bm bi v1 vW vL vF vX u1 u2 u5 bF oF cF p limit end_ words lines f a r _ _ h3 rfl rfl e a' b ha hxI hww
  · exact ir_alloc ρ3 t3 w3 base bm bi v1 vW vL vF vX u1 u2 u5 bF oF cF p limit end_ words lines f a r _ _ h3 rfl rfl e d hd hd' a' ha hxI hww hl0 hl
  · by_cases h40 : 40 ≤ r.length + 1
    · exact ir_invoke0 ρ3 t3 w3 base bm bi v1 vW vL vF vX u1 u2 u5 bF oF cF p limit end_ words lines f a r _ _ h3 rfl rfl e h40 (by omega)
    · obtain ⟨hkl, hck⟩ := hcd k gc hg
      have hcc := hs.codes _ (codeAt_mem hkl)
      obtain ⟨c1, c2, c3, c4⟩ := hcc.small
      obtain ⟨nv, hnv⟩ := Int.eq_ofNat_of_zero_le c1
      have hroom := hcc.room
      rw [← hck] at hp
      simp only [Bool.false_eq_true, if_false] at hroom
      exact ir_invoke1 ρ3 t3 w3 base bm bi v1 vW vL vF vX u1 u2 u5 bF oF cF p limit end_ words lines f a r _ _ h3 rfl rfl e k nv hk hkl hs.some_.2 hnv (by omega) (by omega) (by omega)
  · exact ir_show2 ρ3 t3 w3 base bm bi v1 vW vL vF vX u1 u2 u5 bF oF cF p limit end_ words lines f a r _ _ h3 rfl rfl e hs1 a' b ha hxI hww hll
  · exact ir_show1 ρ3 t3 w3 base bm bi v1 vW vL vF vX u1 u2 u5 bF oF cF p limit end_ words lines f a r _ _ h3 rfl rfl e hs1 a' ha hxI hww hll
  · exact ir_jump ρ3 t3 w3 base bm bi v1 vW vL vF vX u1 u2 u5 bF oF cF p limit end_ words lines f a r _ _ h3 rfl rfl e tt ht
  · exact ir_choose ρ3 t3 w3 base bm bi v1 vW vL vF vX u1 u2 u5 bF oF cF p limit end_ words lines f a r _ _ h3 rfl rfl e a' tt u ha ht
  · obtain ⟨n, hn⟩ : ∃ n, (instrAt p f).to.length = n + 1 := ⟨(instrAt p f).to.length - 1, by omega⟩
    have hn5 : n ≤ 9223372036854775806 := by
      obtain ⟨a5, c5, -, h51, h52, -⟩ := rInts_val h3.i5
      unfold maxLen at h52
      omega
    exact ir_pick ρ3 t3 w3 base bm bi v1 vW vL vF vX u1 u2 u5 bF oF cF p limit end_ words lines f a r _ _ h3 rfl rfl e a' n ha hn hn5 (hlb ht')
  · cases r with
    | nil => exact ir_back0 ρ3 t3 w3 base bm bi v1 vW vL vF vX u1 u2 u5 bF oF cF p limit end_ words lines f a [] _ _ h3 rfl rfl e rfl
    | cons x r' =>
      obtain ⟨f1, a1⟩ := x
      obtain ⟨hw1, hw2⟩ := Chain.want hchain
      simp only [List.length_cons] at hlen
      simp only [Bool.false_eq_true, if_false] at hw2
      exact ir_back1 ρ3 t3 w3 base bm bi v1 vW vL vF vX u1 u2 u5 bF oF cF p limit end_ words lines f a _ _ _ h3 rfl rfl e f1 a1 r' rfl (by omega) (by omega) (by omega) hw2
  · exact ir_fail ρ3 t3 w3 base bm bi v1 vW vL vF vX u1 u2 u5 bF oF cF p limit end_ words lines f a r _ _ h3 rfl rfl e
  · simp at em
  · simp at em
end Go.Proofs.YtaomlfbcfmmhlaaDoor

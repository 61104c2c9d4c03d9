/-
  Texts joined: TyCall.
-/
import Derived.Test.YtaomlfbcfmmhlaaDoorTCI
import Derived.Deep.QuietTactic
import Derived.BigQuiet

/-
  typed's checker: call: the contract.
-/
namespace Go.Proofs.YtaomlfbcfmmhlaaDoor
open Go.RowKit Go.Pst
set_option linter.unusedVariables false
set_option linter.unusedSimpArgs false

def fnAt (p : PFunc → Bool) : List PFunc → Nat → Int
  | [], _ => -1
  | f :: r, k => if p f = true then (k : Int) else fnAt p r (k + 1)
theorem fnAt_ge (p : PFunc → Bool) : ∀ (l : List PFunc) (k : Nat), decide (0 ≤ fnAt p l k) = l.any p
  | [], k => by simp [fnAt]
  | f :: r, k => by
    unfold fnAt
    by_cases h : p f = true
    · simp [h]
    · simp [h, fnAt_ge p r (k + 1)]
def named (s : ByteArray) (f : PFunc) : Bool := decide (f.name = s)
theorem callT_at (s : ByteArray) (ts : List Int) : ∀ (l : List PFunc) (k : Nat), (fnAt (named s) l k = -1 ∧ callT l s ts = .error 6) ∨ ∃ i, ∃ h : i < l.length, fnAt (named s) l k = (k + i : Nat) ∧ callT l s ts = (if l[i].params.length ≠ ts.length then .error 10 else if ts = l[i].params.map (·.2) then .ok l[i].result else .error 9)
  | [], k => Or.inl ⟨rfl, rfl⟩
  | f :: r, k => by
    unfold fnAt callT
    by_cases h : f.name = s
    · right
      refine ⟨0, by simp, ?_, ?_⟩
      · simp [named, h]
      · rw [if_pos h]; rfl
    · have hn : named s f = false := by simp [named, h]
      simp only [hn, Bool.false_eq_true, if_false, if_neg h]
      rcases callT_at s ts r (k + 1) with ⟨h1, h2⟩ | ⟨i, hi, h1, h2⟩
      · exact Or.inl ⟨h1, h2⟩
      · right
        exact ⟨i + 1, by simp; omega, by rw [h1]; congr 1; omega, by rw [h2]; simp⟩

theorem named_any (d : Nat) (s : ByteArray) (f : PFunc) (cs : List Value) (blk : Nat) (w : World) (hc : w.cell? ⟨blk, 0, none⟩ = some (.string s)) (hlt : blk < w.heap.size) (hx : rFunc d (fun _ => True) w cs f) :
    Calls Tryd.prog 201 #[.agg cs.toArray, .pointer (some ⟨blk, 0, none⟩)] w fun e w' => e = .returned (.bool (named s f)) ∧ Below w.heap.size w w' := by
  obtain ⟨v1, v3, rfl, -, h1, h3⟩ := hx
  obtain ⟨a1, c1, rfl⟩ := rSlice_shape h1
  obtain ⟨a3, c3, rfl⟩ := rSlice_shape h3
  by_cases h : f.name = s
  · have h1 : (f.name.toList == s.toList) = true := by simp [h]
    have Hh := Lib.hid (show named s f = true by simp [named, h])
    clear h
    go_enter Tryd.func201, Tryd.ntmps201
    go_wp2_with fail
    go_ret
    exact ⟨by simp [Hh.out], (Below.refl _ _).alloc (Nat.le_refl _) _⟩
  · have h1 : (f.name.toList == s.toList) = false := by
      cases hb : f.name.toList == s.toList with
      | false => rfl
      | true =>
        have : f.name.toList = s.toList := by simpa using hb
        rw [ByteArray.toList_eq, ByteArray.toList_eq] at this
        exact absurd (ByteArray.ext (Array.toList_inj.mp this)) h
    have Hh := Lib.hid (show named s f = false by simp [named, h])
    clear h
    go_enter Tryd.func201, Tryd.ntmps201
    go_wp2_with fail
    go_ret
    exact ⟨by simp [Hh.out], (Below.refl _ _).alloc (Nat.le_refl _) _⟩

set_option maxHeartbeats 1000000 in
theorem indexNamed_any (d : Nat) (s : ByteArray) (l : List PFunc) (v : Value) (blk : Nat) (w : World) (hc : w.cell? ⟨blk, 0, none⟩ = some (.string s)) (hlt : blk < w.heap.size) (hl : rFuncs d (fun _ => True) w [v] l) :
    Calls Tryd.prog 84 #[v, .func (.func 201) #[] #[.pointer (some ⟨blk, 0, none⟩)]] w fun e w' => e = .returned (.int .i64 (fnAt (named s) l 0)) ∧ Below w.heap.size w w' := by
  obtain ⟨a, cap, rfl, hle, hmax, hat⟩ := rSlice_val hl
  have hll : l.length ≤ 9223372036854775807 := by unfold maxLen at hmax; omega
  have Hat := Lib.hid hat
  have Hlt := Lib.hid hlt
  have Hc := Lib.hid hc
  clear hat hl hle hmax hlt hc
  go_enter Tryd.func84, Tryd.ntmps84
  go_wp2_with fail
  go_loopw [8] (fun i wr => ∃ k : Nat, k ≤ l.length ∧ i = .int .i64 k ∧ fnAt (named s) l 0 = fnAt (named s) (l.drop k) k ∧ Below w.heap.size w wr) (fun i _ => l.length - (intOf i).toNat)
  case atStart => exact ⟨0, Nat.zero_le _, rfl, by simp, Below.refl _ _⟩
  case round =>
    obtain ⟨k, hk, rfl, hf, hbel⟩ := hrel
    have Hf := Lib.hid hf
    clear hf
    by_cases hlt : k < l.length
    · obtain ⟨b, off, es, rfl, -, hb, hel, hcl, hr⟩ := Hat.out k hlt
      obtain ⟨v1, v3, rfl, hx1, hx2, hx3⟩ := id hr
      obtain ⟨a1, c1, rfl⟩ := rSlice_shape hx2
      obtain ⟨a3, c3, rfl⟩ := rSlice_shape hx3
      have hlt1 : (k : Int) < (l.length : Int) := by omega
      have hk0 : (0 : Int) ≤ k := by omega
      have Hd := Lib.hid (List.drop_eq_getElem_cons hlt : l.drop k = l[k] :: l.drop (k + 1))
      have hw := fun o => hbel.cell (p := ⟨b, o, none⟩) hb
      have x0 := (hw (off + k * 4)).trans (hcl 0 (by decide))
      have x1 := (hw (off + k * 4 + 1)).trans (hcl 1 (by decide))
      have x2 := (hw (off + k * 4 + 2)).trans (hcl 2 (by decide))
      have x3 := (hw (off + k * 4 + 3)).trans (hcl 3 (by decide))
      have hcall := named_any d s l[k] _ blk wr ((hbel.cell (p := ⟨blk, 0, none⟩) Hlt.out).trans Hc.out) (Nat.lt_of_lt_of_le Hlt.out hbel.size) (Good.kept (Keep.of_below' hbel (fun k hk _ => hk)) hr)
      have Hcall := Lib.hid hcall
      have Hbel := Lib.hid hbel
      clear hcall hr hcl hx1 hx2 hx3 hw hbel
      generalize l[k] = y at *
      have hwk : IntKind.i64.wrap ((k : Int) + 1) = (k : Int) + 1 := IntWalk.i64_in _ (by omega)
      go_wp2_with fail
      refine Hcall.out.mono ?_
      rintro e w1 ⟨rfl, hb1⟩
      have Hb1 := Lib.hid (Hbel.out.trans (hb1.mono Hbel.out.size))
      clear hb1
      by_cases he : named s y = true
      · rw [he]
        go_wp2_with fail
        go_ret
        exact ⟨by rw [Hf.out, Hd.out]; simp [fnAt, he], Hb1.out⟩
      · simp only [Bool.not_eq_true] at he
        rw [he]
        go_wp2_with fail
        go_roundw
        case rel => exact ⟨k + 1, by omega, by go_num, by rw [Hf.out, Hd.out]; simp [fnAt, he], Hb1.out⟩
        case measure => simp [intOf]; omega
    · have hke : k = l.length := by omega
      subst hke
      have Hbel := Lib.hid hbel
      clear hbel
      go_wp2_with fail
      go_ret
      exact ⟨by rw [Hf.out]; simp [fnAt], Hbel.out⟩
def argsOK (ts : List Int) (ps : List (ByteArray × Int)) (k : Nat) : Prop := ts.take k = (ps.take k).map (·.2)
instance (ts : List Int) (ps : List (ByteArray × Int)) (k : Nat) : Decidable (argsOK ts ps k) := by unfold argsOK; infer_instance
theorem argsOK_succ {ts : List Int} {ps : List (ByteArray × Int)} {k : Nat} (h1 : k < ts.length) (h2 : k < ps.length) : argsOK ts ps (k + 1) ↔ argsOK ts ps k ∧ ts[k] = ps[k].2 := by
  unfold argsOK
  rw [List.take_succ_eq_append_getElem h1, List.take_succ_eq_append_getElem h2, List.map_append]
  constructor
  · intro h
    have hl : (ts.take k).length = ((ps.take k).map (·.2)).length := by simp; omega
    obtain ⟨q1, q2⟩ := List.append_inj h hl
    exact ⟨q1, by simpa using q2⟩
  · rintro ⟨q1, q2⟩
    rw [q1, q2]
    rfl

/-- The checker's state behind the first arguments. -/
noncomputable def wantSt (st : Chk) (ts : List Int) (ps : List (ByteArray × Int)) (k : Nat) : Chk := if argsOK ts ps k then st else st.bad 9
theorem wantSt_zero (st : Chk) (ts : List Int) (ps : List (ByteArray × Int)) : wantSt st ts ps 0 = st := by unfold wantSt; rw [if_pos (by simp [argsOK])]
theorem wantSt_succ (st : Chk) {ts : List Int} {ps : List (ByteArray × Int)} {k : Nat} (h1 : k < ts.length) (h2 : k < ps.length) : wantSt st ts ps (k + 1) = if ts[k] = ps[k].2 then wantSt st ts ps k else (wantSt st ts ps k).bad 9 := by
  unfold wantSt
  by_cases hk : argsOK ts ps k
  · by_cases he : ts[k] = ps[k].2
    · rw [if_pos ((argsOK_succ h1 h2).2 ⟨hk, he⟩), if_pos he, if_pos hk]
    · rw [if_neg (fun e => he ((argsOK_succ h1 h2).1 e).2), if_neg he, if_pos hk]
  · rw [if_neg (fun e => hk ((argsOK_succ h1 h2).1 e).1), if_neg hk, Chk.bad_bad st (by decide)]
    split <;> rfl
theorem wantSt_end {st : Chk} (h0 : st.fault = 0) {ts : List Int} {ps : List (ByteArray × Int)} (h : ps.length = ts.length) (x : Int) : KindEnd st (if ts = ps.map (·.2) then .ok x else .error 9) x (wantSt st ts ps ts.length) := by
  unfold wantSt
  by_cases he : ts = ps.map (·.2)
  · have : argsOK ts ps ts.length := by unfold argsOK; rw [List.take_length, ← h, List.take_length]; exact he
    rw [if_pos he, if_pos this]
    exact ⟨rfl, rfl⟩
  · have : ¬ argsOK ts ps ts.length := by unfold argsOK; rw [List.take_length, ← h, List.take_length]; exact he
    rw [if_neg he, if_neg this]
    exact KindEnd.bad h0 _ (by decide)

set_option maxHeartbeats 4000000 in
theorem typedCall_any (d : Nat) (fs : List PFunc) (w : World) (base bc : Nat) (vf : Value) (cf : List Value) (vS : Value) (bs : List Nat) (st : Chk) (h : ChkAt w base bc vf cf vS bs st) (h0 : st.fault = 0) (s : ByteArray) (ts : List Int) (vT : Value)
    (hf : rFuncs d (· < base) w [vf] fs) (hts : w.ownsRow base 3 1 vT ts.length (ts.map (Value.int .i64))) (hnT : vT.ownBlock ≠ some bc) :
    Calls Tryd.prog 200 #[.pointer (some ⟨bc, 0, none⟩), .string s, vT] w (OpPost w base bc vf cf vS bs st (callT fs s ts)) := by
  obtain ⟨aF, cF, rfl, hF1, hF2, hat⟩ := rFuncs_val hf
  obtain ⟨aT, cT, rfl, hT1, hT2⟩ := row_slice hts
  have c0 := h.c0
  have hlt := h.lb.2
  have hbig := h.big
  have hll : fs.length ≤ 9223372036854775807 := by unfold maxLen at hF2; omega
  have H := Lib.hid h
  have H0 := Lib.hid h0
  have Hf := Lib.hid hf
  have Hat := Lib.hid hat
  have Hts := Lib.hid hts
  have HnT := Lib.hid hnT
  obtain ⟨R, hR⟩ : ∃ R : Except Int Int, R = callT fs s ts := ⟨_, rfl⟩
  rw [← hR]
  have HR := Lib.hid hR
  clear h h0 hf hat hts hnT hR hF1 hF2
  have s0 := Since.alloc (fun _ => False) w (.cells #[.string s] 9)
  have hidx := indexNamed_any d s fs (.slice aF fs.length cF) w.heap.size (w.alloc (.cells #[.string s] 9)) (by rw [World.cell?_alloc_at _ _ _ _ rfl]; rfl) (by simp) (Good.kept (s0.keep.weaken (fun _ _ _ e => e.elim)) (Good.wide Hf.out (fun _ _ _ => trivial)))
  have Hidx := Lib.hid hidx
  have c0' : (w.alloc (.cells #[.string s] 9)).cell? ⟨bc, 0, none⟩ = some (.slice aF fs.length cF) := (World.cell?_alloc_lt _ _ _ hlt).trans c0
  clear hidx
  go_enter Tryd.func200, Tryd.ntmps200
  go_wp2_with fail
  refine Hidx.out.mono ?_
  rintro e w1 ⟨rfl, hb1⟩
  have hs1 : Since (fun _ => False) w w1 := s0.trans ⟨hb1.os, hb1.tape, hb1.output, hb1.size, fun k hk _ => hb1.block k hk⟩
  have HC1 := Lib.hid (H.out.since hs1 (fun _ e => e.elim))
  have HS1 := Lib.hid (hs1.mono (G := fun k => k = bc) (fun _ e => e.elim))
  have c01 := HC1.out.c0
  have hlt1 := HC1.out.lb.2
  have Hs1 := Lib.hid hs1
  clear hb1 s0 c0' c0 Hidx hs1
  rcases callT_at s ts fs 0 with ⟨hi, hc⟩ | ⟨i, hi, hi2, hc⟩
  · rw [hi]
    have Hc := Lib.hid hc
    clear hi hc
    go_wp2_with fail
    refine (typedWrong_any w1 base bc _ cf vS bs st HC1.out 6).mono ?_
    rintro en w2 ⟨rfl, hc2, hs2⟩
    have HC2 := Lib.hid hc2
    have HS2 := Lib.hid hs2
    clear hc2 hs2
    go_wp2_with fail
    go_ret
    exact ⟨_, _, rfl, HC2.out, HS1.out.trans HS2.out, by rw [HR.out, Hc.out]; exact KindEnd.bad H0.out _ (by decide)⟩
  · rw [hi2]
    have Hc := Lib.hid hc
    obtain ⟨bF, oF, v1, v3, rfl, hbS, hbl, f0, f1, f2, f3, -, -, hps, hbody⟩ := Hat.out i hi
    obtain ⟨aP, cP, rfl, hP1, hP2, hPat⟩ := rParams_val hps
    obtain ⟨a3, c3, rfl⟩ := rSlice_shape hbody
    have hw := fun o => Hs1.out.cell (o := o) hbl id
    have f0' := (hw _).trans f0
    have f1' := (hw _).trans f1
    have f2' := (hw _).trans f2
    have f3' := (hw _).trans f3
    have hbl1 : bF < w1.heap.size := by have := Hs1.out.size; omega
    have hiz : (0 : Int) ≤ i := by omega
    have hil : (i : Int) < fs.length := by omega
    have hz : ((0 + i : Nat) : Int) = i := by omega
    have HPat := Lib.hid hPat
    have hpl : fs[i].params.length ≤ 9223372036854775807 := by unfold maxLen at hP2; omega
    rw [hz]
    clear hc hi2 f0 f1 f2 f3 hw hps hbody hPat hz hP1 hP2
    generalize fs[i] = y at *
    have sB := Since.alloc (fun _ => False) w1 (.cells #[.string y.name, .slice aP y.params.length cP, .int .i64 y.result, .slice a3 y.body.length c3] 75)
    have hCB := HC1.out.since sB (fun _ e => e.elim)
    have hSB := (HS1.out.trans (sB.mono (G := fun k => k = bc) (fun _ e => e.elim)))
    have hsB := Hs1.out.trans sB
    have q1 : (w1.alloc (.cells #[.string y.name, .slice aP y.params.length cP, .int .i64 y.result, .slice a3 y.body.length c3] 75)).cell? ⟨w1.heap.size, 1, none⟩ = some (.slice aP y.params.length cP) := by rw [World.cell?_alloc_at _ _ _ _ rfl]; rfl
    have q2 : (w1.alloc (.cells #[.string y.name, .slice aP y.params.length cP, .int .i64 y.result, .slice a3 y.body.length c3] 75)).cell? ⟨w1.heap.size, 2, none⟩ = some (.int .i64 y.result) := by rw [World.cell?_alloc_at _ _ _ _ rfl]; rfl
    have hlB : w1.heap.size < (w1.alloc (.cells #[.string y.name, .slice aP y.params.length cP, .int .i64 y.result, .slice a3 y.body.length c3] 75)).heap.size := by simp
    have HCB := Lib.hid hCB
    have HSB := Lib.hid hSB
    have HsB := Lib.hid hsB
    have HlB := Lib.hid hlB
    clear hCB hSB hsB sB hlB
    by_cases hlen : y.params.length = ts.length
    · have d1 : ((y.params.length : Int) != ts.length) = false := by simp [hlen]
      have Hc' := Lib.hid (show callT fs s ts = if ts = y.params.map (·.2) then .ok y.result else .error 9 by rw [Hc.out, if_neg (by omega)])
      have Hlen := Lib.hid hlen
      clear Hc hlen
      go_wp2_with fail
      generalize hW : w1.alloc (.cells #[.string y.name, .slice aP y.params.length cP, .int .i64 y.result, .slice a3 y.body.length c3] 75) = W at *
      have hne : w1.heap.size ≠ bc := by omega
      clear f0' f1' f2' f3' c01 hW
      go_loopw [9, 10, 39] (fun s9 s10 s39 wr => ∃ k : Nat, k ≤ ts.length ∧ s39 = .int .i64 k ∧ ChkAt wr base bc (.slice (some ⟨bF, oF, none⟩) fs.length cF) cf vS bs (wantSt st ts y.params k) ∧ Since (fun k => k = bc) W wr) (fun _ _ s39 _ => ts.length - (intOf s39).toNat)
      case atStart => exact ⟨0, Nat.zero_le _, rfl, by rw [wantSt_zero]; exact HCB.out, Since.refl _ _⟩
      case round =>
        obtain ⟨k, hk, rfl, hcr, hsr⟩ := hrel
        have HCr := Lib.hid hcr
        have HSr := Lib.hid hsr
        clear hcr hsr
        by_cases hlt2 : k < ts.length
        · have hlt1' : (k : Int) < (y.params.length : Int) := by have := Hlen.out; omega
          have hlt1'' : (k : Int) < (ts.length : Int) := by omega
          have hk0 : (0 : Int) ≤ k := by omega
          have hkp : k < y.params.length := by have := Hlen.out; omega
          obtain ⟨bP, oP, rfl, hPS, hPl, p0, p1, -, -⟩ := HPat.out k hkp
          have hPn : bP ≠ bc := by have := HC1.out.lb.1; omega
          have hPW := fun o => ((HSr.out.cell (o := o) (b := bP) (by have := HsB.out.size; omega) hPn).trans (HsB.out.cell (o := o) hPl id))
          have p0' := (hPW _).trans p0
          have p1' := (hPW _).trans p1
          obtain ⟨gT, cT', hvT, -, -, hgl, hTc, -⟩ := rowGet Hts.out (i := k) (u := .int .i64 ts[k]) (by simp [hlt2])
          obtain ⟨rfl, -⟩ : aT = some ⟨gT, 0, none⟩ ∧ _ := ⟨(Value.slice.inj hvT).1, trivial⟩
          have hTn : gT ≠ bc := fun e => HnT.out (by rw [← e]; rfl)
          have hTc' := ((HSr.out.cell (o := k) (b := gT) (by have := HsB.out.size; omega) hTn).trans (HsB.out.cell (o := k) hgl id)).trans hTc
          have Hsu := Lib.hid (wantSt_succ st hlt2 hkp)
          have hwk : IntKind.i64.wrap ((k : Int) + 1) = (k : Int) + 1 := IntWalk.i64_in _ (by omega)
          clear p0 p1 hPW hTc hvT
          generalize ts[k] = tk at *
          generalize y.params[k] = pk at *
          go_wp2_with fail
          have hbr : wr.heap.size ≠ bc := by have := HCr.out.lb.2; omega
          have sP := Since.alloc (fun _ => False) wr (.cells #[.string pk.1, .int .i64 pk.2] 90)
          have hCP := HCr.out.since sP (fun _ e => e.elim)
          have r0 : (wr.alloc (.cells #[.string pk.1, .int .i64 pk.2] 90)).cell? ⟨wr.heap.size, 1, none⟩ = some (.int .i64 pk.2) := by rw [World.cell?_alloc_at _ _ _ _ rfl]; rfl
          have hgr : gT < wr.heap.size := by have := HSr.out.size; have := HsB.out.size; omega
          have r1 : (wr.alloc (.cells #[.string pk.1, .int .i64 pk.2] 90)).cell? ⟨gT, k, none⟩ = some (.int .i64 tk) := (World.cell?_alloc_lt _ _ _ hgr).trans hTc'
          have hlP : wr.heap.size < (wr.alloc (.cells #[.string pk.1, .int .i64 pk.2] 90)).heap.size := by simp
          have HSP := Lib.hid (HSr.out.trans (sP.mono (G := fun k => k = bc) (fun _ e => e.elim)))
          have HCP := Lib.hid hCP
          have hgl2 : gT < (wr.alloc (.cells #[.string pk.1, .int .i64 pk.2] 90)).heap.size := by simp; omega
          clear sP hCP p0' p1' hTc'
          generalize wr.alloc (.cells #[.string pk.1, .int .i64 pk.2] 90) = wp at *
          have hWant := Lib.hid (typedWant_any wp.drew base bc _ cf vS bs _ (HCP.out.since (Since.drew (fun _ => False) wp) (fun _ e => e.elim)) tk pk.2)
          have hS0 : (fun w' : World => w'.cell? ⟨gT, k, none⟩ = some (.int .i64 tk) ∧ w'.cell? ⟨wr.heap.size, 1, none⟩ = some (.int .i64 pk.2)) wp := ⟨r1, r0⟩
          have hSS := Lib.hid (show ∀ w3, Since (fun k => k = bc) wp.drew w3 → (fun w' : World => w'.cell? ⟨gT, k, none⟩ = some (.int .i64 tk) ∧ w'.cell? ⟨wr.heap.size, 1, none⟩ = some (.int .i64 pk.2)) w3 from fun w3 hs => ⟨(hs.cell (o := k) hgl2 hTn).trans r1, (hs.cell (o := 1) hlP hbr).trans r0⟩)
          go_region_held3 (fun w' => w'.cell? ⟨gT, k, none⟩ = some (.int .i64 tk) ∧ w'.cell? ⟨wr.heap.size, 1, none⟩ = some (.int .i64 pk.2)) (first | exact hS0 | exact hS2)
            (first | (go_at_call 165; refine hWant.out.mono ?_; rintro en w3 ⟨rfl, hc3, hs3⟩; have hS2 := hSS.out w3 hs3))
          have HC3 := Lib.hid hc3
          have HS3 := Lib.hid hs3
          clear hc3 hs3 hS2 hS0
          all_goals go_wp2_with fail
          go_roundw
          case rel => exact ⟨k + 1, by omega, by go_num, by rw [Hsu.out]; exact HC3.out, HSP.out.trans ((Since.drew _ _).trans HS3.out)⟩
          case measure => simp [intOf]; omega
        · have hke : k = ts.length := by omega
          subst hke
          have hlt1' : ¬ ((ts.length : Int) < (y.params.length : Int)) := by have := Hlen.out; omega
          have q2' := (HSr.out.cell (o := 2) HlB.out hne).trans q2
          go_wp2_with fail
          go_ret
          refine ⟨_, _, rfl, HCr.out, HSB.out.trans HSr.out, ?_⟩
          rw [HR.out, Hc'.out]
          exact wantSt_end H0.out Hlen.out _
    · have d1 : ((y.params.length : Int) != ts.length) = true := by simp; omega
      have Hc' := Lib.hid (show callT fs s ts = .error 10 by rw [Hc.out, if_pos hlen])
      clear Hc hlen
      go_wp2_with fail
      refine (typedWrong_any _ base bc _ cf vS bs st HCB.out 10).mono ?_
      rintro en w2 ⟨rfl, hc2, hs2⟩
      have HC2 := Lib.hid hc2
      have HS2 := Lib.hid hs2
      clear hc2 hs2
      go_wp2_with fail
      go_ret
      exact ⟨_, _, rfl, HC2.out, HSB.out.trans HS2.out, by rw [HR.out, Hc'.out]; exact KindEnd.bad H0.out _ (by decide)⟩
end Go.Proofs.YtaomlfbcfmmhlaaDoor

/-
  Programs (functions, data) of package api: how they read in memory.
-/
import Derived.Test.YthgfdcoicihpdaaDoorData
namespace Go.Pst
open Go.RowKit

structure PProg where
  funcs : List PCode
  data : List Int
instance : Inhabited PProg := ⟨⟨[], []⟩⟩

abbrev rCodes : Rep (List PCode) := rSlice 6 rCode
def rProg : Rep PProg := fun S w cs x => ∃ v0 v1, cs = [v0, v1] ∧ rCodes S w [v0] x.funcs ∧ rInts S w [v1] x.data
instance : Good rProg := ⟨by
  rintro S S' w w' cs x hk hs ⟨v0, v1, h1, h2, h3⟩
  exact ⟨v0, v1, h1, Good.keep hk hs h2, Good.keep hk hs h3⟩⟩
def FitProg (x : PProg) : Prop := (x.funcs.length * 72 ≤ reachBytes ∧ ∀ c ∈ x.funcs, FitCode c) ∧ x.data.length * 8 ≤ reachBytes

/-- A row of codes, as a walk wants it. -/
theorem rCodes_val {S : Nat → Prop} {w : World} {v : Value} {l : List PCode} (h : rCodes S w [v] l) :
    ∃ a cap, v = .slice a l.length cap ∧ l.length ≤ cap ∧ cap ≤ maxLen ∧
    ∀ i (h : i < l.length), ∃ b off v5, a = some ⟨b, off, none⟩ ∧ S b ∧ b < w.heap.size ∧
      w.cell? ⟨b, off + i * 6, none⟩ = some (.string l[i].name) ∧ w.cell? ⟨b, off + i * 6 + 1, none⟩ = some (.int .i64 l[i].params) ∧ w.cell? ⟨b, off + i * 6 + 2, none⟩ = some (.int .i64 l[i].results) ∧
      w.cell? ⟨b, off + i * 6 + 3, none⟩ = some (.int .i64 l[i].vars) ∧ w.cell? ⟨b, off + i * 6 + 4, none⟩ = some (.int .i64 l[i].slots) ∧ w.cell? ⟨b, off + i * 6 + 5, none⟩ = some v5 ∧
      (l[i].name.size ≤ maxLen ∧ InI l[i].params ∧ InI l[i].results ∧ InI l[i].vars ∧ InI l[i].slots) ∧ rBlocks S w [v5] l[i].blocks := by
  obtain ⟨a, cap, h1, h2, h3, h4⟩ := rSlice_val h
  refine ⟨a, cap, h1, h2, h3, fun i hi => ?_⟩
  obtain ⟨b, off, es, ha, hS, hb, hl, hc, v5, rfl, hI, r5⟩ := h4 i hi
  exact ⟨b, off, v5, ha, hS, hb, hc 0 (by decide), hc 1 (by decide), hc 2 (by decide), hc 3 (by decide), hc 4 (by decide), hc 5 (by decide), hI, r5⟩

section
variable {H : Type} {enc : TypeId × Value → H} {P : Program} {w : World}
theorem list2 {α : Type} {l : List α} (h : l.length = 2) : ∃ a b, l = [a, b] := by
  match l, h with
  | [a, b], _ => exact ⟨a, b, rfl⟩

theorem opens_prog {t tcs tc tints tint : TypeId} (ht : P.underlying t = some (.struct #[⟨"Funcs", tcs, 0, false, "", "", 0⟩, ⟨"Data", tints, 1, false, "", "", 24⟩]))
    (ht2 : P.cellsOf t = 2) (c1 : P.cellsOf tcs = 1) (c2 : P.cellsOf tints = 1) (hcs : P.underlying tcs = some (.slice tc)) (c6 : P.cellsOf tc = 6) (b6 : P.bytesOf tc = 72)
    (hints : P.underlying tints = some (.slice tint)) (hint : P.underlying tint = some (.int .i64)) (c3 : P.cellsOf tint = 1) (hb : P.bytesOf tint = 8)
    (hc : Opens enc P w tc rCode FitCode) : Opens enc P w t rProg FitProg := by
  intro fuel cs x h hw
  obtain ⟨xs, n, _, rfl, hcl, hxl, hf⟩ := DataW.trod_struct ht h
  rw [ht2] at hcl
  obtain ⟨a0, a1, rfl⟩ := list2 hcl
  obtain ⟨x0, x1, rfl⟩ := list2 (l := xs) (by simpa using hxl)
  have f0 := hf 0 _ rfl
  have f1 := hf 1 _ rfl
  simp [c1, c2] at f0 f1
  have hw' : ∀ n ∈ DataW.weightsEach P [tcs, tints] [x0.1, x1.1], n ≤ reachBytes := by
    intro n hn
    refine hw n ?_
    simpa [DataW.weights, ht] using hn
  obtain ⟨y0, h0, b0⟩ := opens_slice (enc := enc) (w := w) hcs c6 b6 (by decide) hc _ _ _ f0 (weights_part (j := 0) rfl rfl hw')
  obtain ⟨y1, h1, b1, _⟩ := opens_slice (enc := enc) (w := w) hints c3 hb (by decide) (opens_int hint) _ _ _ f1 (weights_part (j := 1) rfl rfl hw')
  exact ⟨⟨y0, y1⟩, ⟨a0, a1, rfl, h0, h1⟩, b0, b1⟩
end

/-- Words (a slice of strings) in a world: each place of the row. -/
def StrsAt (w : World) (a : Option Addr) (l : List ByteArray) : Prop :=
  ∀ i (h : i < l.length), ∃ b off, a = some ⟨b, off, none⟩ ∧ b < w.heap.size ∧ w.cell? ⟨b, off + i, none⟩ = some (.string l[i])
theorem StrsAt.below {w w' : World} {a : Option Addr} {l : List ByteArray} (h : StrsAt w a l) (hb : Below w.heap.size w w') : StrsAt w' a l := by
  intro i hi
  obtain ⟨b, off, ha, hlt, hc⟩ := h i hi
  exact ⟨b, off, ha, Nat.lt_of_lt_of_le hlt hb.size, by rw [hb.cell (p := ⟨b, off + i, none⟩) hlt]; exact hc⟩
end Go.Pst

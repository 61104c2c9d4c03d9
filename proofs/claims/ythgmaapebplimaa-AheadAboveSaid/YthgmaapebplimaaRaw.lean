/-
  The raw numbers of package posternkeep, and how they read in memory.
-/
import Derived.Test.YthgmaapebplimaaData
namespace Go.Pst
open Go.RowKit

structure PRaw where
  kind : Int
  a : Int
  b : Int
  c : Int
def rRaw : Rep PRaw := fun _ _ cs x => cs = [.int .i64 x.kind, .int .i64 x.a, .int .i64 x.b, .int .i64 x.c] ∧ InI x.kind ∧ InI x.a ∧ InI x.b ∧ InI x.c
instance : Good rRaw := ⟨fun _ _ h => h⟩
abbrev rRaws : Rep (List PRaw) := rSlice 4 rRaw
theorem rRaws_val {S : Nat → Prop} {w : World} {v : Value} {l : List PRaw} (h : rRaws S w [v] l) :
    ∃ a cap, v = .slice a l.length cap ∧ l.length ≤ cap ∧ cap ≤ maxLen ∧
    ∀ i (h : i < l.length), ∃ b off, a = some ⟨b, off, none⟩ ∧ S b ∧ b < w.heap.size ∧
      w.cell? ⟨b, off + i * 4, none⟩ = some (.int .i64 l[i].kind) ∧ w.cell? ⟨b, off + i * 4 + 1, none⟩ = some (.int .i64 l[i].a) ∧ w.cell? ⟨b, off + i * 4 + 2, none⟩ = some (.int .i64 l[i].b) ∧ w.cell? ⟨b, off + i * 4 + 3, none⟩ = some (.int .i64 l[i].c) ∧
      InI l[i].kind ∧ InI l[i].a ∧ InI l[i].b ∧ InI l[i].c := by
  obtain ⟨a, cap, h1, h2, h3, h4⟩ := rSlice_val h
  refine ⟨a, cap, h1, h2, h3, fun i hi => ?_⟩
  obtain ⟨b, off, es, ha, hS, hb, hl, hc, rfl, hI⟩ := h4 i hi
  exact ⟨b, off, ha, hS, hb, hc 0 (by decide), hc 1 (by decide), hc 2 (by decide), hc 3 (by decide), hI⟩

section
variable {H : Type} {enc : TypeId × Value → H} {P : Program} {w : World}
theorem list4 {α : Type} {l : List α} (h : l.length = 4) : ∃ a b c d, l = [a, b, c, d] := by
  match l, h with
  | [a, b, c, d], _ => exact ⟨a, b, c, d, rfl⟩
theorem opens_raw {t tint : TypeId} (ht : P.underlying t = some (.struct #[⟨"Kind", tint, 0, false, "", "", 0⟩, ⟨"A", tint, 1, false, "", "", 8⟩, ⟨"B", tint, 2, false, "", "", 16⟩, ⟨"C", tint, 3, false, "", "", 24⟩]))
    (ht4 : P.cellsOf t = 4) (c1 : P.cellsOf tint = 1) (hint : P.underlying tint = some (.int .i64)) : Opens enc P w t rRaw (fun _ => True) := by
  intro fuel cs x h hw
  obtain ⟨xs, n, _, rfl, hcl, hxl, hf⟩ := DataW.trod_struct ht h
  rw [ht4] at hcl
  obtain ⟨a0, a1, a2, a3, rfl⟩ := list4 hcl
  obtain ⟨x0, x1, x2, x3, rfl⟩ := list4 (l := xs) (by simpa using hxl)
  have f0 := hf 0 _ rfl
  have f1 := hf 1 _ rfl
  have f2 := hf 2 _ rfl
  have f3 := hf 3 _ rfl
  simp [c1] at f0 f1 f2 f3
  have hw' : ∀ n ∈ DataW.weightsEach P [tint, tint, tint, tint] [x0.1, x1.1, x2.1, x3.1], n ≤ reachBytes := by
    intro n hn
    refine hw n ?_
    simpa [DataW.weights, ht] using hn
  obtain ⟨y0, ⟨e0, i0⟩, _⟩ := opens_int (enc := enc) (w := w) hint _ _ _ f0 (weights_part (j := 0) rfl rfl hw')
  obtain ⟨y1, ⟨e1, i1⟩, _⟩ := opens_int (enc := enc) (w := w) hint _ _ _ f1 (weights_part (j := 1) rfl rfl hw')
  obtain ⟨y2, ⟨e2, i2⟩, _⟩ := opens_int (enc := enc) (w := w) hint _ _ _ f2 (weights_part (j := 2) rfl rfl hw')
  obtain ⟨y3, ⟨e3, i3⟩, _⟩ := opens_int (enc := enc) (w := w) hint _ _ _ f3 (weights_part (j := 3) rfl rfl hw')
  simp only [List.cons.injEq, and_true] at e0 e1 e2 e3
  subst e0 e1 e2 e3
  exact ⟨⟨y0, y1, y2, y3⟩, ⟨rfl, i0, i1, i2, i3⟩, trivial⟩
end
end Go.Pst

/-
  rt's start, invoke (of one result), walked; what is told at the end.
-/
import Derived.Test.YtaomlfbcfmmhlaaRtLong2
namespace Go.Proofs.Ytaomlfbcfmmhlaa
open Go.RowKit Go.Pst
set_option linter.unusedVariables false
set_option linter.unusedSimpArgs false

variable {B bm n k : Nat} {w0 w : World} {l : List (Nat × Nat × Value)} {c : PCode}
def startF (name : ByteArray) (p r : Int) : PCode := ⟨name, p, r, p, 0, [[]]⟩
theorem start_any (name : ByteArray) (p r : Int) (hn : name.size ≤ maxLen) (hp : 0 ≤ p ∧ p ≤ 1000) (hr : 0 ≤ r ∧ r ≤ 1000) (w : World) :
    Calls Try.prog 30 #[.string name, .int .i64 p, .int .i64 r] w fun e w' => ∃ bm, e = .returned (.pointer (some ⟨bm, 0, none⟩)) ∧ Env w.heap.size w bm [] 900000 (startF name p r) 0 w' := by
  obtain ⟨p1, p2⟩ := hp
  obtain ⟨r1, r2⟩ := hr
  go_enter Try.func30, Try.ntmps30
  go_wp2_with fail
  go_ret
  refine ⟨w.heap.size + 1, rfl, fun x => x < w.heap.size, fun x => x = w.heap.size + 1 ∨ x = w.heap.size ∨ x < w.heap.size, ?_, ⟨⟨p1, by show p + 900000 ≤ _; omega⟩, by simp [startF], by intro b hb; simp [startF] at hb; subst hb; simp, by simp [startF]⟩, by simp, ((Below.refl _ _).alloc (Nat.le_refl _) _).alloc (by simp) _, Nat.le_refl _, fun x hx => hx⟩
  have hW := new_two w (.cells #[.slice none 0 0] 46) (.cells #[.string name, .int .i64 p, .int .i64 r, .int .i64 p, .int .i64 0, .slice (some ⟨w.heap.size, 0, none⟩) 1 1, .int .i64 0] 61)
  have hsz : ((w.alloc (.cells #[.slice none 0 0] 46)).alloc (.cells #[.string name, .int .i64 p, .int .i64 r, .int .i64 p, .int .i64 0, .slice (some ⟨w.heap.size, 0, none⟩) 1 1, .int .i64 0] 61)).heap.size = w.heap.size + 2 := by simp
  generalize (w.alloc (.cells #[.slice none 0 0] 46)).alloc (.cells #[.string name, .int .i64 p, .int .i64 r, .int .i64 p, .int .i64 0, .slice (some ⟨w.heap.size, 0, none⟩) 1 1, .int .i64 0] 61) = W at *
  obtain ⟨hg, hb⟩ := hW
  have hc : ∀ j, W.cell? ⟨w.heap.size + 1, j, none⟩ = #[.string name, .int .i64 p, .int .i64 r, .int .i64 p, .int .i64 0, .slice (some ⟨w.heap.size, 0, none⟩) 1 1, .int .i64 0][j]? := fun j => by simp [World.cell?, hb]
  refine ⟨w.heap.size, 1, [.slice none 0 0], ⟨by omega, hc 0, hc 1, hc 2, hc 3, hc 4, hc 5, hc 6, fun j => by simp [World.frozen?, hb], by omega, ⟨hn, ⟨by show _ ≤ p; omega, by show p ≤ _; omega⟩, ⟨by show _ ≤ r; omega, by show r ≤ _; omega⟩, ⟨by show _ ≤ p; omega, by show p ≤ _; omega⟩, ini rfl⟩, ?_, rfl, fun t ht ht' => ?_, by omega, by simp [Value.ownBlock], by simp, fun x => by simp [Value.ownBlock], ⟨by omega, by omega, fun x hx => by omega⟩, by simp [startF]⟩⟩
  · exact ⟨by simp [startF], Or.inr ⟨w.heap.size, 1, #[.slice none 0 0], rfl, Nat.zero_le _, hg, by simp [startF], by decide, rfl, by simp [startF]⟩⟩
  · obtain rfl : t = 0 := by simp at ht'; omega
    exact Blk.nil _ _
end Go.Proofs.Ytaomlfbcfmmhlaa

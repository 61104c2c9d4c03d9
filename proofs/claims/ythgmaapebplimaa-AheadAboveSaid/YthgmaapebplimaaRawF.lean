/-
  posternkeep.Code: it answers a program whose first function's code has blocks and fits in memory.
-/
import Derived.Test.YthgmaapebplimaaAheadAboveLaw
import Derived.Test.YthgmaapebplimaaRawMem
import Derived.Test.YthgmaapebplimaaPicked
import Derived.Deep.QuietTactic
import Derived.BigQuiet
import Derived.Deep.Cut
import Derived.Deep.CutRange
import Derived.Deep.CutBlock
import Derived.Deep.DeepCutAuto
import Derived.Test.YthgmaapebplimaaTail
import Derived.Test.YthgmaapebplimaaRawTurn
import Derived.Test.YthgmaapebplimaaRawEnd
import Derived.Deep.AppendLies
import Derived.Deep.RegionHeld3
namespace Go.Proofs.Ythgmaapebplimaa
open Go.RowKit Go.Pst
set_option linter.unusedVariables false
set_option linter.unusedSimpArgs false

theorem ini1 {a : Int} (ha : InI a) : ∀ y ∈ [a], InI y := fun y hy => by simp at hy; subst hy; exact ha
theorem ini2 {a b : Int} (ha : InI a) (hb : InI b) : ∀ y ∈ [a, b], InI y := fun y hy => by simp at hy; rcases hy with rfl | rfl; exact ha; exact hb
theorem inI_wrap (n : Int) : InI (wrap64 n) := by unfold InI wrap64; omega
theorem ini3 {a b c : Int} (ha : InI a) (hb : InI b) (hc : InI c) : ∀ y ∈ [a, b, c], InI y := fun y hy => by simp at hy; rcases hy with rfl | rfl | rfl; exact ha; exact hb; exact hc
theorem infoB : (Try.prog.info? 55).map (fun i => (i.zero, i.size, i.bytes)) = some (some (.slice none 0 0), 1, 24) := by kernel_rfl
theorem infoI : (Try.prog.info? 57).map (fun i => (i.zero, i.size, i.bytes)) = some (some (.agg #[.int .i64 0, .slice none 0 0, .slice none 0 0, .int .i64 0, .string ByteArray.empty, .slice none 0 0]), 6, 104) := by kernel_rfl

def slotOf (t : Array Value) (k : Nat) : Value := t.getD k undef
def slotsUp (f : Nat → Value) : Nat → Nat → List Value
  | 0, _ => []
  | n + 1, k => f k :: slotsUp f n (k + 1)
theorem slotsUp_length (f : Nat → Value) : ∀ n k, (slotsUp f n k).length = n
  | 0, _ => rfl
  | n + 1, k => by simp [slotsUp, slotsUp_length f n (k + 1)]
theorem slotsUp_get (f : Nat → Value) : ∀ n k i (h : i < (slotsUp f n k).length), (slotsUp f n k)[i] = f (k + i)
  | 0, _, i, h => absurd h (by simp [slotsUp])
  | n + 1, k, 0, h => rfl
  | n + 1, k, i + 1, h => by
    show (slotsUp f n (k + 1))[i]'_ = _
    rw [slotsUp_get f n (k + 1) i]
    congr 1
    omega
theorem slots_eq {n : Nat} (t : Array Value) (h : t.size = n) : t = ⟨slotsUp (slotOf t) n 0⟩ := by
  apply Array.ext
  · simp [slotsUp_length, h]
  · intro i h1 h2
    show t[i] = (slotsUp (slotOf t) n 0)[i]'(by simpa using h2)
    rw [slotsUp_get]
    simp [slotOf, h1]
set_option maxRecDepth 100000 in
theorem frame240 (t : Array Value) (h : t.size = 240) : t = #[slotOf t 0, slotOf t 1, slotOf t 2, slotOf t 3, slotOf t 4, slotOf t 5, slotOf t 6, slotOf t 7, slotOf t 8, slotOf t 9, slotOf t 10, slotOf t 11, slotOf t 12, slotOf t 13, slotOf t 14, slotOf t 15, slotOf t 16, slotOf t 17, slotOf t 18, slotOf t 19, slotOf t 20, slotOf t 21, slotOf t 22, slotOf t 23, slotOf t 24, slotOf t 25, slotOf t 26, slotOf t 27, slotOf t 28, slotOf t 29, slotOf t 30, slotOf t 31, slotOf t 32, slotOf t 33, slotOf t 34, slotOf t 35, slotOf t 36, slotOf t 37, slotOf t 38, slotOf t 39, slotOf t 40, slotOf t 41, slotOf t 42, slotOf t 43, slotOf t 44, slotOf t 45, slotOf t 46, slotOf t 47, slotOf t 48, slotOf t 49, slotOf t 50, slotOf t 51, slotOf t 52, slotOf t 53, slotOf t 54, slotOf t 55, slotOf t 56, slotOf t 57, slotOf t 58, slotOf t 59, slotOf t 60, slotOf t 61, slotOf t 62, slotOf t 63, slotOf t 64, slotOf t 65, slotOf t 66, slotOf t 67, slotOf t 68, slotOf t 69, slotOf t 70, slotOf t 71, slotOf t 72, slotOf t 73, slotOf t 74, slotOf t 75, slotOf t 76, slotOf t 77, slotOf t 78, slotOf t 79, slotOf t 80, slotOf t 81, slotOf t 82, slotOf t 83, slotOf t 84, slotOf t 85, slotOf t 86, slotOf t 87, slotOf t 88, slotOf t 89, slotOf t 90, slotOf t 91, slotOf t 92, slotOf t 93, slotOf t 94, slotOf t 95, slotOf t 96, slotOf t 97, slotOf t 98, slotOf t 99, slotOf t 100, slotOf t 101, slotOf t 102, slotOf t 103, slotOf t 104, slotOf t 105, slotOf t 106, slotOf t 107, slotOf t 108, slotOf t 109, slotOf t 110, slotOf t 111, slotOf t 112, slotOf t 113, slotOf t 114, slotOf t 115, slotOf t 116, slotOf t 117, slotOf t 118, slotOf t 119, slotOf t 120, slotOf t 121, slotOf t 122, slotOf t 123, slotOf t 124, slotOf t 125, slotOf t 126, slotOf t 127, slotOf t 128, slotOf t 129, slotOf t 130, slotOf t 131, slotOf t 132, slotOf t 133, slotOf t 134, slotOf t 135, slotOf t 136, slotOf t 137, slotOf t 138, slotOf t 139, slotOf t 140, slotOf t 141, slotOf t 142, slotOf t 143, slotOf t 144, slotOf t 145, slotOf t 146, slotOf t 147, slotOf t 148, slotOf t 149, slotOf t 150, slotOf t 151, slotOf t 152, slotOf t 153, slotOf t 154, slotOf t 155, slotOf t 156, slotOf t 157, slotOf t 158, slotOf t 159, slotOf t 160, slotOf t 161, slotOf t 162, slotOf t 163, slotOf t 164, slotOf t 165, slotOf t 166, slotOf t 167, slotOf t 168, slotOf t 169, slotOf t 170, slotOf t 171, slotOf t 172, slotOf t 173, slotOf t 174, slotOf t 175, slotOf t 176, slotOf t 177, slotOf t 178, slotOf t 179, slotOf t 180, slotOf t 181, slotOf t 182, slotOf t 183, slotOf t 184, slotOf t 185, slotOf t 186, slotOf t 187, slotOf t 188, slotOf t 189, slotOf t 190, slotOf t 191, slotOf t 192, slotOf t 193, slotOf t 194, slotOf t 195, slotOf t 196, slotOf t 197, slotOf t 198, slotOf t 199, slotOf t 200, slotOf t 201, slotOf t 202, slotOf t 203, slotOf t 204, slotOf t 205, slotOf t 206, slotOf t 207, slotOf t 208, slotOf t 209, slotOf t 210, slotOf t 211, slotOf t 212, slotOf t 213, slotOf t 214, slotOf t 215, slotOf t 216, slotOf t 217, slotOf t 218, slotOf t 219, slotOf t 220, slotOf t 221, slotOf t 222, slotOf t 223, slotOf t 224, slotOf t 225, slotOf t 226, slotOf t 227, slotOf t 228, slotOf t 229, slotOf t 230, slotOf t 231, slotOf t 232, slotOf t 233, slotOf t 234, slotOf t 235, slotOf t 236, slotOf t 237, slotOf t 238, slotOf t 239] := slots_eq t h
/-- A part of a code. -/
def codeSub : List Nat → Code → Code
  | [], c => c
  | 0 :: p, .seq a _ => codeSub p a
  | 1 :: p, .seq _ b => codeSub p b
  | 0 :: p, .cond _ a _ => codeSub p a
  | 1 :: p, .cond _ _ b => codeSub p b
  | 0 :: p, .block _ c => codeSub p c
  | 0 :: p, .loop c => codeSub p c
  | 0 :: p, .scope c => codeSub p c
  | _, _ => .skip
noncomputable def rawBody : Code := codeSub [1, 1, 1, 1, 1, 1, 1, 0, 1, 0, 0] ((Try.f19).body.getD .skip)
noncomputable def rawInner : Code := codeSub [1, 1, 0, 0, 1, 1, 1, 0, 1, 0, 0] rawBody
noncomputable def rawRest : Code := codeSub [1, 1, 0, 0, 1, 1, 1, 1] rawBody
/-- What stands around. -/
def RawCtx (w w0 : World) (m2 bm bp bc bg : Nat) : Prop := Below w.heap.size w w0 ∧ (bm < bc ∧ bp < bc ∧ bc < bg ∧ bg < w0.heap.size ∧ w.heap.size < bm ∧ w.heap.size < bp) ∧ m2 ≤ 6 ∧ w0.cell? ⟨bm, 0, none⟩ = some (.int .i64 (1 + (m2 : Int)))
/-- What stays in the frame. -/
def FrameR (w : World) (a : Option Addr) (m cap m2 bm bp bc bg b : Nat) (t : Array Value) : Prop := t.size = 240 ∧ slotOf t 0 = .slice a m cap ∧ slotOf t 2 = .pointer (some ⟨w.heap.size, 0, none⟩) ∧ slotOf t 3 = .int .i64 5 ∧ slotOf t 4 = .pointer (some ⟨bm, 0, none⟩) ∧ slotOf t 5 = .pointer (some ⟨bp, 0, none⟩) ∧ slotOf t 6 = .pointer (some ⟨bc, 0, none⟩) ∧ slotOf t 7 = .pointer (some ⟨bg, 0, none⟩) ∧ slotOf t 42 = .int .i64 (1 + (m2 : Int)) ∧ slotOf t 43 = .int .i64 (b : Int)
/-- A raw thing in memory. -/
def RowX (w : World) (bX oX j : Nat) (r : PRaw) : Prop := w.cell? ⟨bX, oX + j * 4, none⟩ = some (.int .i64 r.kind) ∧ w.cell? ⟨bX, oX + j * 4 + 1, none⟩ = some (.int .i64 r.a) ∧ w.cell? ⟨bX, oX + j * 4 + 2, none⟩ = some (.int .i64 r.b) ∧ w.cell? ⟨bX, oX + j * 4 + 3, none⟩ = some (.int .i64 r.c) ∧ InI r.kind ∧ InI r.a ∧ InI r.b ∧ InI r.c
def Mine (w : World) (aM : Option Addr) (nM : Nat) : Prop := ∀ j, j < nM → ∃ (bX oX : Nat) (r : PRaw), aM = some ⟨bX, oX, none⟩ ∧ bX < w.heap.size ∧ RowX w bX oX j r
/-- What a round of the inner loop finds. -/
def InnerR (w w0 : World) (a aM : Option Addr) (m cap m2 bm bp bc bg b nM cM : Nat) (vB : Value) (bs : List (List PInstr)) (k j : Nat) (t : Array Value) (v : Value) (ls : List PInstr) (wr : World) : Prop :=
  FrameR w a m cap m2 bm bp bc bg b t ∧ slotOf t 9 = v ∧ slotOf t 10 = .slice aM nM cM ∧ slotOf t 61 = .slice aM nM cM ∧ slotOf t 62 = .int .i64 nM ∧ slotOf t 63 = .int .i64 (j : Int) ∧ j ≤ nM ∧ ls.length = j ∧ InAt bc w0 vB bs v ls wr ∧ nM - j ≤ k ∧ nM ≤ 60
def InnerI (w w0 : World) (a aM : Option Addr) (m cap m2 bm bp bc bg b nM cM : Nat) (vB : Value) (bs : List (List PInstr)) (k : Nat) (act : Act) (wr : World) : Prop :=
  ∃ (t : Array Value) (j : Nat) (v : Value) (ls : List PInstr), act = ⟨t, []⟩ ∧ InnerR w w0 a aM m cap m2 bm bp bc bg b nM cM vB bs k j t v ls wr
/-- What the rest of an inner round has to show. -/
def InnerTo (w w0 : World) (a aM : Option Addr) (m cap m2 bm bp bc bg b nM cM : Nat) (vB : Value) (bs : List (List PInstr)) (k : Nat) (act : Act) (wr : World) : Prop :=
  ∀ (J : Nat → Act → World → Prop) (K : Act → World → Prop) (Q : Exit → Act → World → Prop), (∀ k a' w', InnerI w w0 a aM m cap m2 bm bp bc bg b nM cM vB bs k a' w' → J k a' w') → (∀ a' w', Handed J k a' w' → K a' w') →
    rawInner.wp Try.prog (Exit.then K Q) act wr
/-- What a round of the outer loop finds. -/
def OuterI (w w0 : World) (a : Option Addr) (m cap m2 bm bp bc bg : Nat) (k : Nat) (act : Act) (wr : World) : Prop :=
  ∃ (t : Array Value) (b : Nat) (vB : Value) (bs : List (List PInstr)), act = ⟨t, []⟩ ∧ FrameR w a m cap m2 bm bp bc bg b t ∧ b ≤ 1 + m2 ∧ bs.length = b ∧ CAt bc w0 vB bs wr ∧ 1 + m2 - b ≤ k

end Go.Proofs.Ythgmaapebplimaa

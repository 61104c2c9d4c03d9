/-
  Texts joined: RdAtoi.
-/
import Derived.Test.YtkopjgnjflhkeaaDoorRX
import Derived.Test.YtkopjgnjflhkeaaDoorRZA
import Derived.Test.YtkopjgnjflhkeaaDoorRZB

/-
  strconv.Atoi and strconv.Itoa at numerals of digits alone, as the reader's cut asks them.
-/
namespace Go.Proofs.YtkopjgnjflhkeaaDoor
open Go.RowKit Go.Pst
set_option linter.unusedVariables false
set_option linter.unusedSimpArgs false
/-- The variable ErrRange holds an error, or nil. -/
structure ErrOK (w : World) : Prop where
  is_ : ∃ ev, w.cell? ⟨4, 0, none⟩ = some ev ∧ (ev = .nilIface ∨ ∃ te pe, ev = .iface te pe)
  lt : 4 < w.heap.size
theorem ErrOK.since {F : Nat → Prop} {w w' : World} (h : ErrOK w) (hs : Since F w w') (hF : ¬ F 4) : ErrOK w' := by
  obtain ⟨ev, h1, h2⟩ := h.is_
  exact ⟨⟨ev, (hs.cell h.lt hF).trans h1, h2⟩, Nat.lt_of_lt_of_le h.lt hs.size⟩
theorem since_below {w w' : World} (h : Below w.heap.size w w') : Since (fun _ => False) w w' := Since.mk (F := fun _ => False) h.os h.tape h.output h.size (fun k hk _ => h.block k hk)
theorem atoi_small (s : ByteArray) (w : World) (hd : AllDig s.data.toList) (h0 : s.data.toList ≠ []) (hs : s.size ≤ 4000) (hn : numOf s.data.toList 0 < 9223372036854775808) :
    Calls Tryd.prog 18 #[.string s] w fun e w' => e = .returned (.tuple #[.int .i64 ((numOf s.data.toList 0 : Nat) : Int), .nilIface]) ∧ Since (fun _ => False) w w' := by
  refine (Tryd.strconv_Atoi_ok s (by omega) _ (atoi_ok _ hd h0 hn) w).mono ?_
  rintro e w' ⟨rfl, h | ⟨t, h⟩⟩
  · exact ⟨rfl, h ▸ Since.refl _ _⟩
  · refine ⟨rfl, h ▸ since_below ?_⟩
    exact ⟨rfl, rfl, rfl, by rw [Lib.bytesWorld_size]; omega, fun k hk => Lib.bytesWorld_at_old w _ t k hk⟩
theorem atoi_great (s : ByteArray) (w : World) (hd : AllDig s.data.toList) (h0 : s.data.toList ≠ []) (hs : s.size ≤ 4000) (hn : 9223372036854775808 ≤ numOf s.data.toList 0) (hE : ErrOK w) :
    Calls Tryd.prog 18 #[.string s] w fun e w' => ∃ b : Nat, e = .returned (.tuple #[.int .i64 9223372036854775807, .iface 97 (.pointer (some ⟨b, 0, none⟩))]) ∧ Since (fun _ => False) w w' := by
  obtain ⟨ev, h1, h2⟩ := hE.is_
  refine (Tryd.strconv_Atoi_range s (by omega) (atoi_range _ hd h0 hn) ev w h1 h2).mono ?_
  rintro e w' ⟨N, rfl, -, -, h⟩
  rw [atoiSat_dig _ hd h0]
  exact ⟨N, rfl, since_below h⟩
theorem grow_below {w w' : World} {k : Nat} {os : Array Obj} (h : w' = Go.Sort.grow (w.drewN k) os) : Below w.heap.size w w' := by
  subst h
  exact ⟨rfl, rfl, rfl, by simp [Go.Sort.grow, World.drewN], fun k hk => by simp [Go.Sort.grow, World.drewN]; rw [Array.getElem?_append_left hk]⟩
theorem itoa_any (n : Nat) (w : World) (hn : n ≤ 1099511627776) (hT : TabOK w) :
    Calls Tryd.prog 19 #[.int .i64 (n : Int)] w fun e w' => e = .returned (.string ⟨(Lib.itoa (n : Int)).toArray⟩) ∧ Since (fun _ => False) w w' := by
  refine (Tryd.strconv_Itoa n (by omega) (by omega) w hT.is_).mono ?_
  rintro e w' ⟨rfl, k, os, hw⟩
  exact ⟨rfl, since_below (grow_below hw)⟩
end Go.Proofs.YtkopjgnjflhkeaaDoor

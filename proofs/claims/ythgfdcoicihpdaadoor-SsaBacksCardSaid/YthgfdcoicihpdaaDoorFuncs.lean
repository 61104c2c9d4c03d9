/-
  slices.IndexFunc, ContainsFunc at ints, of whatever closure that only reads.
-/
import Derived.Test.YthgfdcoicihpdaaDoorIdx
namespace Go.Proofs.YthgfdcoicihpdaaDoor
open Go.RowKit Go.Pst
set_option linter.unusedVariables false

/-- The first place of a number that a predicate takes, or -1. -/
def firstBy (p : Int → Bool) : List Int → Nat → Int
  | [], _ => -1
  | y :: r, k => if p y = true then (k : Int) else firstBy p r (k + 1)
theorem firstBy_ge (p : Int → Bool) : ∀ (l : List Int) (k : Nat), decide (0 ≤ firstBy p l k) = l.any p
  | [], k => by simp [firstBy]
  | y :: r, k => by
    unfold firstBy
    by_cases h : p y = true
    · simp [h]
    · simp [h, firstBy_ge p r (k + 1)]

/-- A function of the program's own, entered when it is called. -/
def Enters (P : Program) (g : Nat) : Prop := ∀ (args : Array Value) (w : World), (callFunc g args).run P w = .ok (.enter g args) w
theorem enters_of {P : Program} {g : Nat} {fn : Func} (h : P.funcs[g]? = some fn) (hn : (fn.name == "runtime.NumGoroutine") = false) (hb : fn.body.isNone = false) : Enters P g := by
  intro args w
  have hn' : ¬ fn.name = "runtime.NumGoroutine" := by simpa using hn
  have hb' : ¬ fn.body = none := fun e => by rw [e] at hb; simp at hb
  simp [callFunc, h, hn', hb']

/-- A closure that answers p at each number of l, in whatever world is w but for draws. -/
def Answers (P : Program) (g : Nat) (lb : Array Value) (p : Int → Bool) (l : List Int) (w : World) : Prop :=
  ∀ x ∈ l, ∀ w', Drawn w w' → Calls P g (#[.int .i64 x] ++ lb) w' fun e w'' => e = .returned (.bool (p x)) ∧ Drawn w' w''

theorem Answers.later {P : Program} {g : Nat} {lb : Array Value} {p : Int → Bool} {l : List Int} {w w1 : World} (h : Answers P g lb p l w) (hd : Drawn w w1) : Answers P g lb p l w1 := fun x hx w' hw => h x hx w' (hd.trans hw)

set_option maxHeartbeats 400000 in
theorem indexFunc_ints (g : Nat) (lb : Array Value) (p : Int → Bool) (a : Option Addr) (l : List Int) (cap : Nat) (w : World) (hl : l.length ≤ 9223372036854775807) (hat : IntsAt w a l) (hg : Enters Tryd.prog g) (hp : Answers Tryd.prog g lb p l w) :
    Calls Tryd.prog 40 #[.slice a l.length cap, .func (.func g) #[] lb] w fun e w' => e = .returned (.int .i64 (firstBy p l 0)) ∧ Drawn w w' := by
  go_enter Tryd.func40, Tryd.ntmps40
  go_wp2_with fail
  go_loopw [8] (fun i wr => ∃ k : Nat, k ≤ l.length ∧ i = .int .i64 k ∧ firstBy p l 0 = firstBy p (l.drop k) k ∧ Drawn w wr) (fun i _ => l.length - (intOf i).toNat)
  case atStart => exact ⟨0, Nat.zero_le _, rfl, by simp, Drawn.refl _⟩
  case round =>
    obtain ⟨k, hk, rfl, hf, hdr⟩ := hrel
    have Hf := Lib.hid hf
    clear hf
    by_cases hlt : k < l.length
    · obtain ⟨b, off, rfl, hb, hc⟩ := hat k hlt
      have hcx : wr.cell? ⟨b, off + k, none⟩ = some (.int .i64 l[k]) := by rw [hdr.cell]; exact hc
      have hlt1 : (k : Int) < (l.length : Int) := by omega
      have hd : l.drop k = l[k] :: l.drop (k + 1) := List.drop_eq_getElem_cons hlt
      have Hd := Lib.hid hd
      have hent := fun args w => hg args w
      have hcall := hp _ (List.getElem_mem hlt) wr hdr
      have Hc := Lib.hid hcall
      clear hd hat hcall hc hp
      generalize l[k] = y at *
      go_wp2_with fail
      refine (Hc.out).mono ?_
      rintro e w1 ⟨rfl, hd1⟩
      have hdr1 := hdr.trans hd1
      cases he : p y with
      | true =>
        have He := Lib.hid he
        clear he
        go_wp2_with fail
        go_ret
        exact ⟨by rw [Hf.out, Hd.out]; simp [firstBy, He.out], hdr1⟩
      | false =>
        have He := Lib.hid he
        clear he
        go_wp2_with fail
        go_roundw
        case rel => exact ⟨k + 1, by omega, by go_num, by rw [Hf.out, Hd.out]; simp [firstBy, He.out], hdr1⟩
        case measure => simp [intOf]; omega
    · have hke : k = l.length := by omega
      subst hke
      go_wp2_with fail
      go_ret
      exact ⟨by rw [Hf.out]; simp [firstBy], hdr⟩

theorem containsFunc_ints (g : Nat) (lb : Array Value) (p : Int → Bool) (a : Option Addr) (l : List Int) (cap : Nat) (w : World) (hl : l.length ≤ 9223372036854775807) (hat : IntsAt w a l) (hg : Enters Tryd.prog g) (hp : Answers Tryd.prog g lb p l w) :
    Calls Tryd.prog 26 #[.slice a l.length cap, .func (.func g) #[] lb] w fun e w' => e = .returned (.bool (l.any p)) ∧ Drawn w w' := by
  have Hg := Lib.hid (firstBy_ge p l 0)
  go_enter Tryd.func26, Tryd.ntmps26
  go_wp2_with fail
  refine (indexFunc_ints g lb p a l cap w hl hat hg hp).mono ?_
  rintro e w1 ⟨rfl, hd⟩
  go_wp2_with fail
  go_ret
  exact ⟨by rw [← Hg.out]; rfl, hd⟩
end Go.Proofs.YthgfdcoicihpdaaDoor

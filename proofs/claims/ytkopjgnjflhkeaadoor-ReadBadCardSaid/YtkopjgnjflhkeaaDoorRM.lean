/-
  Texts joined: RdShr2.
-/
import Derived.Test.YtkopjgnjflhkeaaDoorRA

/-
  Parts of the parser that read statements and functions leave no more tokens (Kp), or fewer (Shr).
-/
namespace Go.Pst
open Go.RowKit
set_option linter.unusedVariables false
section
variable {α β : Type} {ex : PR PExpr} {blk : PR (List PStmt)} {elif st : PR PStmt}
theorem Kp.of_ok {x y : α} {r r' : List Tok} (h : (.ok (x, r) : Except (Int × Int) (α × List Tok)) = .ok (y, r')) : r'.length ≤ r.length := by
  injection h with h
  injection h with h1 h2
  rw [h2]
  exact Nat.le_refl _
theorem Shr.ifG (he : Shr ex) (hb : Kp blk) (hl : Kp elif) : Shr (ifG ex blk elif) :=
  Shr.bindL he fun x => Kp.bind hb fun b => Kp.branch (Kp.branch (Kp.bind hl fun s => Kp.ret _) (Kp.bind hb fun e => Kp.ret _)) (Kp.ret _)
theorem Shr.rangeG (he : Kp ex) (hb : Kp blk) : Shr (rangeG ex blk) :=
  Shr.bindL Shr.name fun a => Kp.bind (Shr.must _).kp fun _ => Kp.bind Shr.name.kp fun b => Kp.bind (Shr.must _).kp fun _ => Kp.bind (Shr.must _).kp fun _ => Kp.bind he fun x => Kp.bind hb fun l => Kp.ret _
theorem Shr.forG (he : Shr ex) (hb : Kp blk) : Shr (forG ex blk) := Shr.bindL he fun x => Kp.bind hb fun l => Kp.ret _
theorem Shr.loopG (he : Shr ex) (hb : Kp blk) : Shr (loopG ex blk) := fun r x r' h => by
  unfold Go.Pst.loopG at h
  split at h
  · exact Shr.rangeG he.kp hb _ _ _ h
  · exact Shr.forG he hb _ _ _ h
theorem Shr.const : Shr constR := Shr.bindR (Kp.is _) fun b r x r' h => by
  by_cases hk : (headR r).kind = 101
  · rw [if_pos hk] at h; cases h
  · rw [if_neg hk] at h
    split at h
    · exact Nat.lt_of_le_of_lt (Kp.of_ok h) (head_cons hk)
    · cases h
theorem Kp.nums : ∀ (f : Nat) (l : List Int), Kp (numsLoop f l)
  | 0, l => Kp.ret l
  | f + 1, l => Kp.bind Shr.const.kp fun n => Kp.branch (Kp.nums f _) (Kp.ret _)
theorem Kp.caseL (hb : Kp blk) : ∀ (f : Nat) (l : List (List Int × List PStmt)), Kp (caseLoop blk f l)
  | 0, l => Kp.ret l
  | f + 1, l => Kp.branch (Kp.bind (Kp.self fun r => Kp.nums _ _) fun ns => Kp.bind (Shr.must _).kp fun _ => Kp.bind hb fun b => Kp.caseL hb f _) (Kp.ret _)
theorem Shr.casesG (he : Shr ex) (hb : Kp blk) : Shr (casesG ex blk) :=
  Shr.bindL he fun x => Kp.bind (Shr.must _).kp fun _ => Kp.bind (Kp.self fun r => Kp.caseL hb _ _) fun cs => Kp.bind (Kp.branch (Kp.bind (Shr.must _).kp fun _ => hb) (Kp.ret _)) fun e => Kp.bind (Shr.must _).kp fun _ => Kp.ret _
theorem Kp.backG (he : Kp ex) : Kp (backG ex) := fun r x r' h => by
  unfold Go.Pst.backG at h
  split at h
  · exact Kp.bind he (fun x => Kp.ret _) _ _ _ h
  · exact Kp.of_ok h
theorem Shr.calledG (he : Kp ex) (k n : Int) : Shr (calledG ex k n) := fun r x r' h => by
  unfold Go.Pst.calledG at h
  exact Shr.bindL (Shr.args he) (fun l => by
    split
    · exact (Shr.bad _ _).kp
    · exact Kp.ret _) _ _ _ h
theorem Shr.deleteG (he : Kp ex) : Shr (deleteG ex) :=
  Shr.bindL (Shr.must _) fun _ => Kp.bind Shr.name.kp fun s => Kp.bind (Shr.must _).kp fun _ => Kp.bind he fun x => Kp.bind (Shr.must _).kp fun _ => Kp.ret _
theorem Shr.simpleG (he : Kp ex) : Shr (simpleG ex) := fun r x r' h => by
  unfold Go.Pst.simpleG at h
  refine Shr.bindL Shr.name (fun s => ?_) _ _ _ h
  refine Kp.branch (Kp.bind he fun x => Kp.ret _) (Kp.branch (Kp.bind he fun x => Kp.ret _) (Kp.branch (Kp.bind he fun x => Kp.bind (Shr.must _).kp fun _ => Kp.bind (Shr.must _).kp fun _ => Kp.bind he fun y => Kp.ret _) ?_))
  intro r1 x1 r2 h1
  dsimp only at h1
  split at h1
  · exact Kp.bind (Shr.args he).kp (fun l => Kp.ret _) _ _ _ h1
  · cases h1
theorem Shr.stmtG (he : Shr ex) (hb : Kp blk) (hl : Kp elif) : Shr (stmtG ex blk elif) :=
  Shr.branch (Shr.ifG he hb hl).kp (Shr.branch (Shr.loopG he hb).kp (Shr.branch (Shr.casesG he hb).kp (Shr.branch (Kp.backG he.kp) (Shr.branch (Shr.calledG he.kp _ _).kp (Shr.branch (Kp.ret _) (Shr.branch (Kp.ret _) (Shr.branch (Shr.deleteG he.kp).kp (Shr.simpleG he.kp))))))))
theorem Kp.blkL (hs : Kp st) : ∀ (f : Nat) (l : List PStmt), Kp (blkLoop st f l)
  | 0, l => Kp.ret l
  | f + 1, l => Kp.branch (Kp.ret _) fun r x r' h => by
    split at h
    · cases h
    · exact Kp.bind hs (fun s => Kp.blkL hs f _) _ _ _ h
theorem Shr.both : ∀ d, Shr (bothR d).1 ∧ Shr (bothR d).2
  | 0 => ⟨Shr.bindL (Shr.must _) fun _ => Shr.deep.kp, Shr.deep⟩
  | d + 1 => ⟨Shr.bindL (Shr.must _) fun _ => Kp.self fun r => Kp.blkL (Shr.stmtG (Shr.expr d) (Shr.both d).1.kp (Shr.both d).2.kp).kp _ _, Shr.ifG (Shr.expr d) (Shr.both d).1.kp (Shr.both d).2.kp⟩
theorem Shr.block (d : Nat) : Shr (blockR d) := (Shr.both d).1
theorem Shr.elifR (d : Nat) : Shr (elifR d) := (Shr.both d).2
theorem Shr.stmt (d : Nat) : Shr (stmtR d) := Shr.stmtG (Shr.expr d) (Shr.block d).kp (Shr.elifR d).kp
theorem Kp.typ : Kp typR := Kp.branch (Kp.ret _) (Kp.branch (Kp.ret _) (Kp.branch (Kp.ret _) (Kp.branch (Kp.ret _) (Kp.branch (Kp.ret _) (Kp.ret _)))))
theorem Kp.params : ∀ (f : Nat) (l : List (ByteArray × Int)), Kp (paramsLoop f l)
  | 0, l => Kp.ret l
  | f + 1, l => Kp.branch (Kp.ret _) (Kp.bind Kp.comma fun _ => Kp.bind Shr.name.kp fun s => Kp.bind Kp.peek fun k => Kp.bind Kp.typ fun t => by
    split
    · exact (Shr.bad _ _).kp
    · exact Kp.params f _)
theorem Shr.func : Shr funcR := Shr.bindR Kp.peek fun t => Shr.bindL (Shr.must _) fun _ => Kp.bind Shr.name.kp fun s => Kp.bind (Shr.must _).kp fun _ => Kp.bind (Kp.self fun r => Kp.params _ _) fun ps => by
  split
  · exact (Shr.bad _ _).kp
  · exact Kp.bind Kp.typ fun k => Kp.bind (Shr.block 30).kp fun b => Kp.ret _
end
end Go.Pst

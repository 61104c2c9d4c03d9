import Derived.Test.YtkopjgnjflhkeaaDoorTA
import Derived.Test.YtkopjgnjflhkeaaDoorTW
namespace Go.Pst
open Go.RowKit
set_option linter.unusedVariables false
section
variable {α β:Type} {ex:PR PExpr} {blk:PR (List PStmt)} {elif st:PR PStmt}
theorem Kp.of_ok {x y:α} {r r':List Tok} (h:(.ok (x,r):Except (Int × Int) (α × List Tok))= .ok (y,r')):r'.length≤r.length:=by
 injection h with h
 injection h with h1 h2
 rw [h2]
 exact Nat.le_refl _
theorem Shr.ifG (he:Shr ex) (hb:Kp blk) (hl:Kp elif):Shr (ifG ex blk elif):=
 Shr.bindL he fun x=>Kp.bind hb fun b=>Kp.branch (Kp.branch (Kp.bind hl fun s=>Kp.ret _) (Kp.bind hb fun e=>Kp.ret _)) (Kp.ret _)
theorem Shr.rangeG (he:Kp ex) (hb:Kp blk):Shr (rangeG ex blk):=
 Shr.bindL Shr.name fun a=>Kp.bind (Shr.must _).kp fun _=>Kp.bind Shr.name.kp fun b=>Kp.bind (Shr.must _).kp fun _=>Kp.bind (Shr.must _).kp fun _=>Kp.bind he fun x=>Kp.bind hb fun l=>Kp.ret _
theorem Shr.forG (he:Shr ex) (hb:Kp blk):Shr (forG ex blk):=Shr.bindL he fun x=>Kp.bind hb fun l=>Kp.ret _
theorem Shr.loopG (he:Shr ex) (hb:Kp blk):Shr (loopG ex blk):=fun r x r' h=>by
 unfold Go.Pst.loopG at h
 split at h
 ·
  exact Shr.rangeG he.kp hb _ _ _ h
 ·
  exact Shr.forG he hb _ _ _ h
theorem Shr.const:Shr constR:=Shr.bindR (Kp.is _) fun b r x r' h=>by
 by_cases hk:(headR r).kind=101
 ·
  rw [if_pos hk] at h;cases h
 ·
  rw [if_neg hk] at h
  split at h
  ·
   exact Nat.lt_of_le_of_lt (Kp.of_ok h) (head_cons hk)
  ·
   cases h
theorem Kp.nums: ∀ (f:Nat) (l:List Int),Kp (numsLoop f l)
 |0,l=>Kp.ret l
 |f+1,l=>Kp.bind Shr.const.kp fun n=>Kp.branch (Kp.nums f _) (Kp.ret _)
theorem Kp.caseL (hb:Kp blk): ∀ (f:Nat) (l:List (List Int × List PStmt)),Kp (caseLoop blk f l)
 |0,l=>Kp.ret l
 |f+1,l=>Kp.branch (Kp.bind (Kp.self fun r=>Kp.nums _ _) fun ns=>Kp.bind (Shr.must _).kp fun _=>Kp.bind hb fun b=>Kp.caseL hb f _) (Kp.ret _)
theorem Shr.casesG (he:Shr ex) (hb:Kp blk):Shr (casesG ex blk):=
 Shr.bindL he fun x=>Kp.bind (Shr.must _).kp fun _=>Kp.bind (Kp.self fun r=>Kp.caseL hb _ _) fun cs=>Kp.bind (Kp.branch (Kp.bind (Shr.must _).kp fun _=>hb) (Kp.ret _)) fun e=>Kp.bind (Shr.must _).kp fun _=>Kp.ret _
theorem Kp.backG (he:Kp ex):Kp (backG ex):=fun r x r' h=>by
 unfold Go.Pst.backG at h
 split at h
 ·
  exact Kp.bind he (fun x=>Kp.ret _) _ _ _ h
 ·
  exact Kp.of_ok h
theorem Shr.calledG (he:Kp ex) (k n:Int):Shr (calledG ex k n):=fun r x r' h=>by
 unfold Go.Pst.calledG at h
 exact Shr.bindL (Shr.args he) (fun l=>by
  split
  ·
   exact (Shr.bad _ _).kp
  ·
   exact Kp.ret _) _ _ _ h
theorem Shr.deleteG (he:Kp ex):Shr (deleteG ex):=
 Shr.bindL (Shr.must _) fun _=>Kp.bind Shr.name.kp fun s=>Kp.bind (Shr.must _).kp fun _=>Kp.bind he fun x=>Kp.bind (Shr.must _).kp fun _=>Kp.ret _
theorem Shr.simpleG (he:Kp ex):Shr (simpleG ex):=fun r x r' h=>by
 unfold Go.Pst.simpleG at h
 refine Shr.bindL Shr.name (fun s=>?_) _ _ _ h
 refine Kp.branch (Kp.bind he fun x=>Kp.ret _) (Kp.branch (Kp.bind he fun x=>Kp.ret _) (Kp.branch (Kp.bind he fun x=>Kp.bind (Shr.must _).kp fun _=>Kp.bind (Shr.must _).kp fun _=>Kp.bind he fun y=>Kp.ret _) ?_))
 intro r1 x1 r2 h1
 dsimp only at h1
 split at h1
 ·
  exact Kp.bind (Shr.args he).kp (fun l=>Kp.ret _) _ _ _ h1
 ·
  cases h1
theorem Shr.stmtG (he:Shr ex) (hb:Kp blk) (hl:Kp elif):Shr (stmtG ex blk elif):=
 Shr.branch (Shr.ifG he hb hl).kp (Shr.branch (Shr.loopG he hb).kp (Shr.branch (Shr.casesG he hb).kp (Shr.branch (Kp.backG he.kp) (Shr.branch (Shr.calledG he.kp _ _).kp (Shr.branch (Kp.ret _) (Shr.branch (Kp.ret _) (Shr.branch (Shr.deleteG he.kp).kp (Shr.simpleG he.kp))))))))
theorem Kp.blkL (hs:Kp st): ∀ (f:Nat) (l:List PStmt),Kp (blkLoop st f l)
 |0,l=>Kp.ret l
 |f+1,l=>Kp.branch (Kp.ret _) fun r x r' h=>by
  split at h
  ·
   cases h
  ·
   exact Kp.bind hs (fun s=>Kp.blkL hs f _) _ _ _ h
theorem Shr.both: ∀ d,Shr (bothR d).1∧Shr (bothR d).2
 |0=>⟨Shr.bindL (Shr.must _) fun _=>Shr.deep.kp,Shr.deep⟩
 |d+1=>⟨Shr.bindL (Shr.must _) fun _=>Kp.self fun r=>Kp.blkL (Shr.stmtG (Shr.expr d) (Shr.both d).1.kp (Shr.both d).2.kp).kp _ _,Shr.ifG (Shr.expr d) (Shr.both d).1.kp (Shr.both d).2.kp⟩
theorem Shr.block (d:Nat):Shr (blockR d):=(Shr.both d).1
theorem Shr.elifR (d:Nat):Shr (elifR d):=(Shr.both d).2
theorem Shr.stmt (d:Nat):Shr (stmtR d):=Shr.stmtG (Shr.expr d) (Shr.block d).kp (Shr.elifR d).kp
theorem Kp.typ:Kp typR:=Kp.branch (Kp.ret _) (Kp.branch (Kp.ret _) (Kp.branch (Kp.ret _) (Kp.branch (Kp.ret _) (Kp.branch (Kp.ret _) (Kp.ret _)))))
theorem Kp.params: ∀ (f:Nat) (l:List (ByteArray × Int)),Kp (paramsLoop f l)
 |0,l=>Kp.ret l
 |f+1,l=>Kp.branch (Kp.ret _) (Kp.bind Kp.comma fun _=>Kp.bind Shr.name.kp fun s=>Kp.bind Kp.peek fun k=>Kp.bind Kp.typ fun t=>by
  split
  ·
   exact (Shr.bad _ _).kp
  ·
   exact Kp.params f _)
theorem Shr.func:Shr funcR:=Shr.bindR Kp.peek fun t=>Shr.bindL (Shr.must _) fun _=>Kp.bind Shr.name.kp fun s=>Kp.bind (Shr.must _).kp fun _=>Kp.bind (Kp.self fun r=>Kp.params _ _) fun ps=>by
 split
 ·
  exact (Shr.bad _ _).kp
 ·
  exact Kp.bind Kp.typ fun k=>Kp.bind (Shr.block 30).kp fun b=>Kp.ret _
end
end Go.Pst
namespace Go.Pst
open Go.RowKit
set_option linter.unusedVariables false
def rS:Rep PStmt:=fun S w cs x=> ∃ d,rStmt d S w cs x
def rSs:Rep (List PStmt):=fun S w cs l=> ∃ d,rSlice 7 (rStmt d) S w cs l
def rCs:Rep (List (List Int × List PStmt)):=fun S w cs l=> ∃ d,rSlice 2 (rCase (rStmt d)) S w cs l
instance good_rS:Good rS:=⟨by
 rintro S S' w w' cs x hk hs ⟨d,h⟩
 exact ⟨d,Good.keep hk hs h⟩⟩
instance good_rSs:Good rSs:=⟨by
 rintro S S' w w' cs x hk hs ⟨d,h⟩
 exact ⟨d,Good.keep hk hs h⟩⟩
instance good_rCs:Good rCs:=⟨by
 rintro S S' w w' cs x hk hs ⟨d,h⟩
 exact ⟨d,Good.keep hk hs h⟩⟩
theorem rS_shape {S:Nat→Prop} {w:World} {cs:List Value} {x:PStmt} (h:rS S w cs x): ∃ a3 c3 a4 c4 a5 c5 a6 c6,cs=[.int .i64 x.kind, .string x.s, .string x.t, .slice a3 x.exprs.length c3, .slice a4 x.body.length c4, .slice a5 x.els.length c5, .slice a6 x.cases.length c6]:=by
 obtain ⟨d,h⟩:=h
 cases d with
 |zero=>exact h.elim
 |succ d=>
  obtain ⟨v3,v4,v5,v6,rfl,_,h3,h4,h5,h6⟩:=h
  obtain ⟨a3,c3,rfl⟩:=rSlice_shape h3
  obtain ⟨a4,c4,rfl⟩:=rSlice_shape h4
  obtain ⟨a5,c5,rfl⟩:=rSlice_shape h5
  obtain ⟨a6,c6,rfl⟩:=rSlice_shape h6
  exact ⟨a3,c3,a4,c4,a5,c5,a6,c6,rfl⟩
theorem rXs_nil (S:Nat→Prop) (w:World):rXs S w [.slice none 0 0] []:=⟨0,rSlice_nil _ _ _ _⟩
theorem rSs_nil (S:Nat→Prop) (w:World):rSs S w [.slice none 0 0] []:=⟨0,rSlice_nil _ _ _ _⟩
theorem rCs_nil (S:Nat→Prop) (w:World):rCs S w [.slice none 0 0] []:=⟨0,rSlice_nil _ _ _ _⟩
theorem rXs_shape {S:Nat→Prop} {w:World} {v:Value} {l:List PExpr} (h:rXs S w [v] l): ∃ a c,v= .slice a l.length c:=by
 obtain ⟨d,h⟩:=h
 exact rSlice_shape h
theorem rSs_shape {S:Nat→Prop} {w:World} {v:Value} {l:List PStmt} (h:rSs S w [v] l): ∃ a c,v= .slice a l.length c:=by
 obtain ⟨d,h⟩:=h
 exact rSlice_shape h
theorem rS_mk {S:Nat→Prop} {w:World} {v3 v4 v5 v6:Value} {xs:List PExpr} {b e:List PStmt} {cs:List (List Int × List PStmt)} (k:Int) (s t:ByteArray) (hk:InI k) (hs:s.size≤maxLen) (ht:t.size≤maxLen)
 (h3:rXs S w [v3] xs) (h4:rSs S w [v4] b) (h5:rSs S w [v5] e) (h6:rCs S w [v6] cs):rS S w [.int .i64 k, .string s, .string t,v3,v4,v5,v6] (.mk k s t xs b e cs):=by
 obtain ⟨d3,h3⟩:=h3
 obtain ⟨d4,h4⟩:=h4
 obtain ⟨d5,h5⟩:=h5
 obtain ⟨d6,h6⟩:=h6
 exact ⟨max (max d3 d4) (max d5 d6)+1,v3,v4,v5,v6,rfl,⟨hk,hs,ht⟩,rSlice_imp (rExpr_le (by omega)) h3,rSlice_imp (rStmt_le (by omega)) h4,rSlice_imp (rStmt_le (by omega)) h5,rSlice_imp (rCase_imp (rStmt_le (by omega))) h6⟩
theorem monoS:MonoR rStmt:=fun h=>rStmt_le h
def rCaseD (d:Nat):Rep (List Int × List PStmt):=rCase (rStmt d)
instance good_rCaseD (d:Nat):Good (rCaseD d):=good_case _
theorem monoC:MonoR rCaseD:=fun h=>rCase_imp (rStmt_le h)
theorem rXs_one {S:Nat→Prop} {w:World} {b c:Nat} {cs:List Value} {x:PExpr} {T:TypeId} (hx:rX S w cs x) (hb:w.heap[b]?=some (.cells cs.toArray T (0,0))) (hS:S b) (hc:1≤c) (hc':c≤maxLen):rXs S w [.slice (some ⟨b,0,none⟩) 1 c] [x]:=by
 obtain ⟨a3,c3,rfl⟩:=rX_shape hx
 obtain ⟨d,h⟩:=hx
 refine ⟨d,_,_,rfl,hc,hc',fun i hi=>?_⟩
 obtain rfl:i=0:=by simpa using hi
 refine ⟨b,0,_,rfl,hS,(Array.getElem?_eq_some_iff.1 hb).1,rfl,fun j hj=>?_,h⟩
 have:w.cell? ⟨b,0+0*4+j,none⟩=[Value.int .i64 x.kind, .int .i64 x.n, .string x.s, .slice a3 x.args.length c3][j]?:=by simp [World.cell?,hb]
 exact this
theorem rXs_two {S:Nat→Prop} {w:World} {b c:Nat} {cs cs':List Value} {x y:PExpr} {T:TypeId} (hx:rX S w cs x) (hy:rX S w cs' y) (hb:w.heap[b]?=some (.cells (cs++cs').toArray T (0,0))) (hS:S b) (hc:2≤c) (hc':c≤maxLen):rXs S w [.slice (some ⟨b,0,none⟩) 2 c] [x,y]:=by
 obtain ⟨a3,c3,rfl⟩:=rX_shape hx
 obtain ⟨a4,c4,rfl⟩:=rX_shape hy
 obtain ⟨d,h⟩:=hx
 obtain ⟨d',h'⟩:=hy
 refine ⟨max d d',_,_,rfl,hc,hc',fun i hi=>?_⟩
 have hlt:=(Array.getElem?_eq_some_iff.1 hb).1
 match i,hi with
 |0,hi=>
  refine ⟨b,0,_,rfl,hS,hlt,rfl,fun j hj=>?_,rExpr_le (by omega) _ _ h⟩
  have:w.cell? ⟨b,0+0*4+j,none⟩=([Value.int .i64 x.kind, .int .i64 x.n, .string x.s, .slice a3 x.args.length c3]++[Value.int .i64 y.kind, .int .i64 y.n, .string y.s, .slice a4 y.args.length c4])[j]?:=by simp [World.cell?,hb]
  rw [this,List.getElem?_append_left (by simpa using hj)]
 |1,hi=>
  refine ⟨b,0,_,rfl,hS,hlt,rfl,fun j hj=>?_,rExpr_le (by omega) _ _ h'⟩
  have:w.cell? ⟨b,0+1*4+j,none⟩=([Value.int .i64 x.kind, .int .i64 x.n, .string x.s, .slice a3 x.args.length c3]++[Value.int .i64 y.kind, .int .i64 y.n, .string y.s, .slice a4 y.args.length c4])[4+j]?:=by simp [World.cell?,hb]
  rw [this,List.getElem?_append_right (by simp)]
  simp
theorem rSs_one {S:Nat→Prop} {w:World} {b c:Nat} {cs:List Value} {x:PStmt} {T:TypeId} (hx:rS S w cs x) (hb:w.heap[b]?=some (.cells cs.toArray T (0,0))) (hS:S b) (hc:1≤c) (hc':c≤maxLen):rSs S w [.slice (some ⟨b,0,none⟩) 1 c] [x]:=by
 obtain ⟨a3,c3,a4,c4,a5,c5,a6,c6,rfl⟩:=rS_shape hx
 obtain ⟨d,h⟩:=hx
 refine ⟨d,_,_,rfl,hc,hc',fun i hi=>?_⟩
 obtain rfl:i=0:=by simpa using hi
 refine ⟨b,0,_,rfl,hS,(Array.getElem?_eq_some_iff.1 hb).1,rfl,fun j hj=>?_,h⟩
 have:w.cell? ⟨b,0+0*7+j,none⟩=[Value.int .i64 x.kind, .string x.s, .string x.t, .slice a3 x.exprs.length c3, .slice a4 x.body.length c4, .slice a5 x.els.length c5, .slice a6 x.cases.length c6][j]?:=by simp [World.cell?,hb]
 exact this
section
variable {α β:Type} {T:List Tok} {dep:Int} {st st1:RSt}
theorem Good'.next {Res:Except (Int × Int) (β × List Tok)} {p:PR α} {q:α→PR β} {x:α} (h:Good' T dep (runR T p st) x st1) (e:Res=runR T (PR.bind p q) st):Res=runR T (q x) st1:=e.trans h.bind
theorem Good'.yes {Res:Except (Int × Int) (α × List Tok)} {s:ByteArray} {p q:PR α} (h:Good' T dep (runR T (isR s) st) true st1) (e:Res=runR T (branchR s p q) st):Res=runR T p st1:=e.trans h.bind
theorem Good'.no {Res:Except (Int × Int) (α × List Tok)} {s:ByteArray} {p q:PR α} (h:Good' T dep (runR T (isR s) st) false st1) (e:Res=runR T (branchR s p q) st):Res=runR T q st1:=e.trans h.bind
theorem Good'.end {Res:Except (Int × Int) (α × List Tok)} {x:α} (e:Res=runR T (PR.ret x) st) (hd:st.fault=0→st.depth=dep):Good' T dep Res x st:=e ▸ Good'.ret x hd
theorem Good'.fail {Res:Except (Int × Int) (α × List Tok)} {p:PR α} (x:α) (e:Res=runR T p st) (h:st.fault≠0):Good' T dep Res x st:=by
 rw [e,runR_bad h]
 exact ⟨rfl,rfl,h⟩
end
theorem box_set {w:World} {b:Nat} {xs:Array Value} {T:TypeId} (h:w.heap[b]?=some (.cells xs T (0,0))) (j:Nat) (u:Value) (hj:j<xs.size):(w.setCell ⟨b,j,none⟩ u).heap[b]?=some (.cells (xs.set j u) T (0,0)):=by
 simp [World.setCell,h,Array.getElem?_modify,Array.setIfInBounds,hj]
theorem cells7 {w:World} {b:Nat} {T:TypeId} {c0 c1 c2 c3 c4 c5 c6:Value} (h:w.heap[b]?=some (.cells #[c0,c1,c2,c3,c4,c5,c6] T (0,0))) (u0 u1 u2 u3 u4 u5 u6:Value):
 (((((((w.setCell ⟨b,0,none⟩ u0).setCell ⟨b,1,none⟩ u1).setCell ⟨b,2,none⟩ u2).setCell ⟨b,3,none⟩ u3).setCell ⟨b,4,none⟩ u4).setCell ⟨b,5,none⟩ u5).setCell ⟨b,6,none⟩ u6).heap[b]?=some (.cells #[u0,u1,u2,u3,u4,u5,u6] T (0,0))∧
 Since (fun k=>k=b) w (((((((w.setCell ⟨b,0,none⟩ u0).setCell ⟨b,1,none⟩ u1).setCell ⟨b,2,none⟩ u2).setCell ⟨b,3,none⟩ u3).setCell ⟨b,4,none⟩ u4).setCell ⟨b,5,none⟩ u5).setCell ⟨b,6,none⟩ u6):=by
 have st: ∀ (w':World) (i:Nat) (u:Value),Since (fun k=>k=b) w w'→Since (fun k=>k=b) w (w'.setCell ⟨b,i,none⟩ u):=fun w' i u h=>h.trans (Since.setCell w' ⟨b,i,none⟩ u)
 refine ⟨?_,st _ _ _ (st _ _ _ (st _ _ _ (st _ _ _ (st _ _ _ (st _ _ _ (st _ _ _ (Since.refl _ _)))))))⟩
 have h0:=box_set h 0 u0 (by simp)
 have h1:=box_set h0 1 u1 (by simp)
 have h2:=box_set h1 2 u2 (by simp)
 have h3:=box_set h2 3 u3 (by simp)
 have h4:=box_set h3 4 u4 (by simp)
 have h5:=box_set h4 5 u5 (by simp)
 exact box_set h5 6 u6 (by simp)
theorem box4 {w:World} {b:Nat} {T:TypeId} {c0 c1 c2 c3:Value} (h:w.heap[b]?=some (.cells #[c0,c1,c2,c3] T (0,0))) (u0 u1 u2 u3:Value):
 ((((w.setCell ⟨b,0,none⟩ u0).setCell ⟨b,1,none⟩ u1).setCell ⟨b,2,none⟩ u2).setCell ⟨b,3,none⟩ u3).heap[b]?=some (.cells #[u0,u1,u2,u3] T (0,0))∧
 Since (fun k=>k=b) w ((((w.setCell ⟨b,0,none⟩ u0).setCell ⟨b,1,none⟩ u1).setCell ⟨b,2,none⟩ u2).setCell ⟨b,3,none⟩ u3):=by
 have st: ∀ (w':World) (i:Nat) (u:Value),Since (fun k=>k=b) w w'→Since (fun k=>k=b) w (w'.setCell ⟨b,i,none⟩ u):=fun w' i u h=>h.trans (Since.setCell w' ⟨b,i,none⟩ u)
 refine ⟨?_,st _ _ _ (st _ _ _ (st _ _ _ (st _ _ _ (Since.refl _ _))))⟩
 have h0:=box_set h 0 u0 (by simp)
 have h1:=box_set h0 1 u1 (by simp)
 have h2:=box_set h1 2 u2 (by simp)
 exact box_set h2 3 u3 (by simp)
end Go.Pst
namespace Go.Proofs.YtkopjgnjflhkeaaDoor
open Go.RowKit Go.Pst
set_option linter.unusedVariables false
set_option linter.unusedSimpArgs false
def RdS (w:World) (br bT cap:Nat) (T:List Tok) (dep:Int) (res:Except (Int × Int) (PStmt × List Tok)) (en:Ending) (w':World):Prop:=
 ∃ cs x st',en= .returned (.agg cs.toArray)∧rS (fun k=>w.heap.size≤k) w' cs x∧RdAt w' br bT cap T st'∧Since (fun k=>k=br) w w'∧Good' T dep res x st'
def RdSs (w:World) (br bT cap:Nat) (T:List Tok) (dep:Int) (res:Except (Int × Int) (List PStmt × List Tok)) (en:Ending) (w':World):Prop:=
 ∃ v l st',en= .returned v∧rSs (fun k=>w.heap.size≤k) w' [v] l∧RdAt w' br bT cap T st'∧Since (fun k=>k=br) w w'∧Good' T dep res l st'
def BlockOK (d:Nat):Prop:= ∀ (w:World) (br bT cap base:Nat) (T:List Tok) (st:RSt),RdAt w br bT cap T st→RdLaid w base br→(st.fault=0→st.depth=30 - (d:Int))→
 Calls Tryd.prog 28 #[.pointer (some ⟨br,0,none⟩)] w (RdSs w br bT cap T (30 - (d:Int)) (runR T (blockR d) st))
def StmtOK (d:Nat):Prop:= ∀ (w:World) (br bT cap base:Nat) (T:List Tok) (st:RSt),RdAt w br bT cap T st→RdLaid w base br→st.fault=0→st.depth=30 - (d:Int)→
 Calls Tryd.prog 49 #[.pointer (some ⟨br,0,none⟩)] w (RdS w br bT cap T (30 - (d:Int)) (stmtR d (T.drop st.i)))
def IfOK (d:Nat):Prop:= ∀ (w:World) (br bT cap base:Nat) (T:List Tok) (st:RSt),RdAt w br bT cap T st→RdLaid w base br→st.fault=0→st.depth=30 - (d:Int)→
 Calls Tryd.prog 61 #[.pointer (some ⟨br,0,none⟩)] w (RdS w br bT cap T (30 - (d:Int)) (ifG (exprR d) (blockR d) (elifR d) (T.drop st.i)))
theorem infoS:(Tryd.prog.info? 32).map (fun i=>(i.zero,i.size,i.bytes))=some (some (.agg #[.int .i64 0, .string ByteArray.empty, .string ByteArray.empty, .slice none 0 0, .slice none 0 0, .slice none 0 0, .slice none 0 0]),7,136):=by kernel_rfl
end Go.Proofs.YtkopjgnjflhkeaaDoor
namespace Go.Proofs.YtkopjgnjflhkeaaDoor
open Go.RowKit Go.Pst
set_option linter.unusedVariables false
set_option linter.unusedSimpArgs false
variable {w:World} {br bT cap base:Nat} {T:List Tok} {st:RSt} {dep:Int}
set_option maxHeartbeats 1000000 in
theorem readTyp_any (h:RdAt w br bT cap T st) (hd:st.fault=0→st.depth=dep):
 Calls Tryd.prog 27 #[.pointer (some ⟨br,0,none⟩)] w fun en w'=> ∃ (t:Int) (st':RSt),en= .returned (.int .i64 t)∧(0≤t∧t≤5)∧RdAt w' br bT cap T st'∧Since (fun k=>k=br) w w'∧Good' T dep (runR T typR st) t st':=by
 obtain ⟨Res,hres⟩: ∃ Res,Res=runR T typR st:=⟨_,rfl⟩
 rw [←hres]
 have H0:=zh h
 have S0:=zh (Since.refl (fun k=>k=br) w)
 have D0:=zh hd
 have R0:=zh hres
 clear h hd hres
 go_enter Tryd.func27,Tryd.ntmps27
 go_wp2_with fail
 refine (readIs_any H0.out D0.out ⟨#[105,110,116]⟩).mono ?_
 rintro en w1 ⟨b,st1,rfl,h1,hs1,hg1,-,-,-⟩
 have H1:=zh h1
 have S1:=zh (S0.out.trans hs1)
 have D1:=zh (show st1.fault=0→st1.depth=dep from fun e=>hg1.dep_eq e)
 clear h1 hs1
 cases b with
 |true=>
  have R1:=zh (hg1.yes R0.out)
  clear hg1
  go_wp2_with fail
  go_ret
  exact ⟨1,st1,rfl,by decide,H1.out,S1.out,Good'.end R1.out D1.out⟩
 |false=>
  have R1:=zh (hg1.no R0.out)
  clear hg1
  go_wp2_with fail
  refine (readIs_any H1.out D1.out ⟨#[98,111,111,108]⟩).mono ?_
  rintro en w2 ⟨b,st2,rfl,h2,hs2,hg2,-,-,-⟩
  have H2:=zh h2
  have S2:=zh (S1.out.trans hs2)
  have D2:=zh (show st2.fault=0→st2.depth=dep from fun e=>hg2.dep_eq e)
  clear h2 hs2
  cases b with
  |true=>
   have R2:=zh (hg2.yes R1.out)
   clear hg2
   go_wp2_with fail
   go_ret
   exact ⟨2,st2,rfl,by decide,H2.out,S2.out,Good'.end R2.out D2.out⟩
  |false=>
   have R2:=zh (hg2.no R1.out)
   clear hg2
   go_wp2_with fail
   refine (readIs_any H2.out D2.out ⟨#[115,116,114,105,110,103]⟩).mono ?_
   rintro en w3 ⟨b,st3,rfl,h3,hs3,hg3,-,-,-⟩
   have H3:=zh h3
   have S3:=zh (S2.out.trans hs3)
   have D3:=zh (show st3.fault=0→st3.depth=dep from fun e=>hg3.dep_eq e)
   clear h3 hs3
   cases b with
   |true=>
    have R3:=zh (hg3.yes R2.out)
    clear hg3
    go_wp2_with fail
    go_ret
    exact ⟨3,st3,rfl,by decide,H3.out,S3.out,Good'.end R3.out D3.out⟩
   |false=>
    have R3:=zh (hg3.no R2.out)
    clear hg3
    go_wp2_with fail
    refine (readIs_any H3.out D3.out ⟨#[115,108,105,99,101]⟩).mono ?_
    rintro en w4 ⟨b,st4,rfl,h4,hs4,hg4,-,-,-⟩
    have H4:=zh h4
    have S4:=zh (S3.out.trans hs4)
    have D4:=zh (show st4.fault=0→st4.depth=dep from fun e=>hg4.dep_eq e)
    clear h4 hs4
    cases b with
    |true=>
     have R4:=zh (hg4.yes R3.out)
     clear hg4
     go_wp2_with fail
     go_ret
     exact ⟨4,st4,rfl,by decide,H4.out,S4.out,Good'.end R4.out D4.out⟩
    |false=>
     have R4:=zh (hg4.no R3.out)
     clear hg4
     go_wp2_with fail
     refine (readIs_any H4.out D4.out ⟨#[109,97,112]⟩).mono ?_
     rintro en w5 ⟨b,st5,rfl,h5,hs5,hg5,-,-,-⟩
     have H5:=zh h5
     have S5:=zh (S4.out.trans hs5)
     have D5:=zh (show st5.fault=0→st5.depth=dep from fun e=>hg5.dep_eq e)
     clear h5 hs5
     cases b with
     |true=>
      have R5:=zh (hg5.yes R4.out)
      clear hg5
      go_wp2_with fail
      go_ret
      exact ⟨5,st5,rfl,by decide,H5.out,S5.out,Good'.end R5.out D5.out⟩
     |false=>
      have R5:=zh (hg5.no R4.out)
      clear hg5
      go_wp2_with fail
      go_ret
      exact ⟨0,st5,rfl,by decide,H5.out,S5.out,Good'.end R5.out D5.out⟩
set_option maxHeartbeats 1000000 in
theorem readConst_any (h:RdAt w br bT cap T st) (hd:st.fault=0→st.depth=dep):
 Calls Tryd.prog 75 #[.pointer (some ⟨br,0,none⟩)] w fun en w'=> ∃ (n:Int) (st':RSt),en= .returned (.int .i64 n)∧InI n∧RdAt w' br bT cap T st'∧Since (fun k=>k=br) w w'∧Good' T dep (runR T constR st) n st':=by
 obtain ⟨Res,hres⟩: ∃ Res,Res=runR T constR st:=⟨_,rfl⟩
 rw [←hres]
 have H0:=zh h
 have D0:=zh hd
 have R0:=zh hres
 clear h hd hres
 go_enter Tryd.func75,Tryd.ntmps75
 go_wp2_with fail
 refine (readIs_any H0.out D0.out ⟨#[45]⟩).mono ?_
 rintro en w1 ⟨b,st1,rfl,h1,hs1,hg1,-,-,-⟩
 have hR1:=hg1.next R0.out
 have hd1:st1.fault=0→st1.depth=dep:=fun e=>hg1.dep_eq e
 clear hg1
 obtain ⟨t,ht⟩: ∃ t,seeR T st1=t:=⟨_,rfl⟩
 have hts:=seeR_size (T:=T) (st:=st1) h1.toks h1.inn
 have hpk:=readPeek_any h1
 rw [ht] at hpk hts
 have hk1:t.kind≠101→st1.fault=0:=fun hk=>see_fault (T:=T) (st:=st1) (by rw [ht];exact hk)
 have hbr:=h1.lt.1
 have hlen:st1.fault=0→(st1.i:Int)<5000:=fun e=>by have:=h1.inn e;have:=h1.toks.len;omega
 have H1:=zh h1
 have S1:=zh hs1
 have D1:=zh hd1
 have R1:=zh hR1
 have Hpk:=zh hpk
 have Ht:=zh ht
 have Hk1:=zh hk1
 have Hlen:=zh hlen
 obtain ⟨tk,ts,tn,tp⟩:=t
 obtain ⟨hts1,hts2,hts3,hts4,hts5⟩:=hts
 dsimp only at hts2 hts3 hts4 hts5
 have Hts:=zh hts3
 clear h1 hs1 hd1 hR1 hpk ht hk1 hlen hts1 hts3 hts2
 cases b with
 |true=>
  have R1':Res=runR T (fun r=>if (headR r).kind=101 then .error ((headR r).pos,5) else if (headR r).kind=110 then .ok ((-1)*(headR r).n,r.tail) else .error ((headR r).pos,4)) st1:=R1.out
  have R1'':Res=if st1.fault=0 then (if tk=101 then .error (tp,5) else if tk=110 then .ok ((-1)*tn,(T.drop st1.i).tail) else .error (tp,4)) else .error (st1.pos,st1.fault):=by
   rw [R1']
   by_cases h0:st1.fault=0
   ·
    rw [runR_ok h0,if_pos h0,←seeR_head h0,Ht.out]
   ·
    rw [runR_bad h0,if_neg h0]
  have Hm:wrap64 ((-1)*tn)=(-1)*tn:=by unfold wrap64;omega
  have R2:=zh R1''
  have Hm:=zh Hm
  clear R1 R1' R1''
  go_wp2_with fail
  refine Hpk.out.mono ?_
  rintro en w2 ⟨rfl,hs2⟩
  simp only [tokC]
  obtain ⟨bp,hbp⟩: ∃ bp,bp=w2.heap.size:=⟨_,rfl⟩
  have hPB:(w2.alloc (.cells #[.int .u8 tk, .string ts, .int .i64 tn, .int .i64 tp] 52)).heap[bp]?=some (.cells #[.int .u8 tk, .string ts, .int .i64 tn, .int .i64 tp] 52 (0,0)):=by rw [hbp];exact heap_alloc_new w2 _
  have sP:Since (fun _=>False) w1 (w2.alloc (.cells #[.int .u8 tk, .string ts, .int .i64 tn, .int .i64 tp] 52)):=hs2.trans (Since.alloc _ _ _)
  have hP1:=H1.out.later sP
  go_upto_region 5 with fail
  rw [←hbp]
  have hltp:br<bp:=by have:=hs2.size;omega
  generalize w2.alloc (.cells #[.int .u8 tk, .string ts, .int .i64 tn, .int .i64 tp] 52)=wP at *
  have p0:=ca0 hPB
  have p2:=ca2 hPB
  have p3:=ca3 hPB
  have hltP:bp<wP.heap.size:=(Array.getElem?_eq_some_iff.1 hPB).1
  have c1:=hP1.c1
  have cz:=hP1.z 1
  have HP1:=zh hP1
  have SP:=zh (S1.out.trans (sP.mono (fun _ f=>f.elim)))
  clear sP hP1 hs2 hbp hPB
  by_cases e1:tk=101
  ·
   have f1:(tk==101)=true:=by simp [e1]
   have E1:=zh e1
   clear e1 c1
   go_wp2_with fail
   refine (readWrong_any HP1.out tp 5 (by decide)).mono ?_
   rintro en w3 ⟨rfl,h3,hs3⟩
   have p2:=(hs3.cell (b:=bp) (o:=2) hltP (by omega)).trans p2
   have H3:=zh h3
   have S3:=zh (SP.out.trans hs3)
   clear h3 hs3
   go_wp2_with fail
   go_ret
   refine ⟨(-1)*tn,_,?_,by constructor<;>omega,H3.out,S3.out,?_⟩
   ·
    first|rw [Hm.out]|(have:=Hm.out;simp at this ⊢;first|done|exact this|omega)
   ·
    rw [R2.out,if_pos E1.out]
    by_cases h0:st1.fault=0
    ·
     rw [if_pos h0,RSt.bad,if_pos h0];exact ⟨rfl,rfl,by decide⟩
    ·
     rw [if_neg h0,RSt.bad,if_neg h0];exact ⟨rfl,rfl,h0⟩
  ·
   have f1:(tk==101)=false:=by simp [e1]
   have E1:=zh e1
   have h0:=Hk1.out e1
   have hi:=Hlen.out h0
   have H0':=zh h0
   clear e1 h0
   by_cases e2:tk=110
   ·
    have f2:(tk==110)=true:=by simp [e2]
    have E2:=zh e2
    clear e2
    have hset:=HP1.out.step H0'.out (by rw [Ht.out];exact E1.out)
    have sset:Since (fun k=>k=br) wP (wP.setCell ⟨br,1,none⟩ (.int .i64 ((st1.i:Int)+1))):=Since.setCell wP ⟨br,1,none⟩ _
    have p2:=(sset.cell (b:=bp) (o:=2) hltP (by omega)).trans p2
    have H3:=zh hset
    have S3:=zh (SP.out.trans sset)
    clear hset sset
    go_wp2_with fail
    go_ret
    refine ⟨(-1)*tn,_,?_,by constructor<;>omega,H3.out,S3.out,?_⟩
    ·
     first|rw [Hm.out]|(have:=Hm.out;simp at this ⊢;first|done|exact this|omega)
    ·
     rw [R2.out,if_pos H0'.out,if_neg E1.out,if_pos E2.out];exact ⟨rfl,H0'.out,D1.out H0'.out,drop_tail _⟩
   ·
    have f2:(tk==110)=false:=by simp [e2]
    have E2:=zh e2
    clear e2 c1
    go_wp2_with fail
    refine (readWrong_any HP1.out tp 4 (by decide)).mono ?_
    rintro en w3 ⟨rfl,h3,hs3⟩
    have p2:=(hs3.cell (b:=bp) (o:=2) hltP (by omega)).trans p2
    have H3:=zh h3
    have S3:=zh (SP.out.trans hs3)
    clear h3 hs3
    go_wp2_with fail
    go_ret
    refine ⟨(-1)*tn,_,?_,by constructor<;>omega,H3.out,S3.out,?_⟩
    ·
     first|rw [Hm.out]|(have:=Hm.out;simp at this ⊢;first|done|exact this|omega)
    ·
     rw [R2.out,if_pos H0'.out,if_neg E1.out,if_neg E2.out,RSt.bad,if_pos H0'.out];exact ⟨rfl,rfl,by decide⟩
 |false=>
  have R1':Res=runR T (fun r=>if (headR r).kind=101 then .error ((headR r).pos,5) else if (headR r).kind=110 then .ok ((1)*(headR r).n,r.tail) else .error ((headR r).pos,4)) st1:=R1.out
  have R1'':Res=if st1.fault=0 then (if tk=101 then .error (tp,5) else if tk=110 then .ok ((1)*tn,(T.drop st1.i).tail) else .error (tp,4)) else .error (st1.pos,st1.fault):=by
   rw [R1']
   by_cases h0:st1.fault=0
   ·
    rw [runR_ok h0,if_pos h0,←seeR_head h0,Ht.out]
   ·
    rw [runR_bad h0,if_neg h0]
  have Hm:wrap64 ((1)*tn)=(1)*tn:=by unfold wrap64;omega
  have R2:=zh R1''
  have Hm:=zh Hm
  clear R1 R1' R1''
  go_wp2_with fail
  refine Hpk.out.mono ?_
  rintro en w2 ⟨rfl,hs2⟩
  simp only [tokC]
  obtain ⟨bp,hbp⟩: ∃ bp,bp=w2.heap.size:=⟨_,rfl⟩
  have hPB:(w2.alloc (.cells #[.int .u8 tk, .string ts, .int .i64 tn, .int .i64 tp] 52)).heap[bp]?=some (.cells #[.int .u8 tk, .string ts, .int .i64 tn, .int .i64 tp] 52 (0,0)):=by rw [hbp];exact heap_alloc_new w2 _
  have sP:Since (fun _=>False) w1 (w2.alloc (.cells #[.int .u8 tk, .string ts, .int .i64 tn, .int .i64 tp] 52)):=hs2.trans (Since.alloc _ _ _)
  have hP1:=H1.out.later sP
  go_upto_region 5 with fail
  rw [←hbp]
  have hltp:br<bp:=by have:=hs2.size;omega
  generalize w2.alloc (.cells #[.int .u8 tk, .string ts, .int .i64 tn, .int .i64 tp] 52)=wP at *
  have p0:=ca0 hPB
  have p2:=ca2 hPB
  have p3:=ca3 hPB
  have hltP:bp<wP.heap.size:=(Array.getElem?_eq_some_iff.1 hPB).1
  have c1:=hP1.c1
  have cz:=hP1.z 1
  have HP1:=zh hP1
  have SP:=zh (S1.out.trans (sP.mono (fun _ f=>f.elim)))
  clear sP hP1 hs2 hbp hPB
  by_cases e1:tk=101
  ·
   have f1:(tk==101)=true:=by simp [e1]
   have E1:=zh e1
   clear e1 c1
   go_wp2_with fail
   refine (readWrong_any HP1.out tp 5 (by decide)).mono ?_
   rintro en w3 ⟨rfl,h3,hs3⟩
   have p2:=(hs3.cell (b:=bp) (o:=2) hltP (by omega)).trans p2
   have H3:=zh h3
   have S3:=zh (SP.out.trans hs3)
   clear h3 hs3
   go_wp2_with fail
   go_ret
   refine ⟨(1)*tn,_,?_,by constructor<;>omega,H3.out,S3.out,?_⟩
   ·
    first|rw [Hm.out]|(have:=Hm.out;simp at this ⊢;first|done|exact this|omega)
   ·
    rw [R2.out,if_pos E1.out]
    by_cases h0:st1.fault=0
    ·
     rw [if_pos h0,RSt.bad,if_pos h0];exact ⟨rfl,rfl,by decide⟩
    ·
     rw [if_neg h0,RSt.bad,if_neg h0];exact ⟨rfl,rfl,h0⟩
  ·
   have f1:(tk==101)=false:=by simp [e1]
   have E1:=zh e1
   have h0:=Hk1.out e1
   have hi:=Hlen.out h0
   have H0':=zh h0
   clear e1 h0
   by_cases e2:tk=110
   ·
    have f2:(tk==110)=true:=by simp [e2]
    have E2:=zh e2
    clear e2
    have hset:=HP1.out.step H0'.out (by rw [Ht.out];exact E1.out)
    have sset:Since (fun k=>k=br) wP (wP.setCell ⟨br,1,none⟩ (.int .i64 ((st1.i:Int)+1))):=Since.setCell wP ⟨br,1,none⟩ _
    have p2:=(sset.cell (b:=bp) (o:=2) hltP (by omega)).trans p2
    have H3:=zh hset
    have S3:=zh (SP.out.trans sset)
    clear hset sset
    go_wp2_with fail
    go_ret
    refine ⟨(1)*tn,_,?_,by constructor<;>omega,H3.out,S3.out,?_⟩
    ·
     first|rw [Hm.out]|(have:=Hm.out;simp at this ⊢;first|done|exact this|omega)
    ·
     rw [R2.out,if_pos H0'.out,if_neg E1.out,if_pos E2.out];exact ⟨rfl,H0'.out,D1.out H0'.out,drop_tail _⟩
   ·
    have f2:(tk==110)=false:=by simp [e2]
    have E2:=zh e2
    clear e2 c1
    go_wp2_with fail
    refine (readWrong_any HP1.out tp 4 (by decide)).mono ?_
    rintro en w3 ⟨rfl,h3,hs3⟩
    have p2:=(hs3.cell (b:=bp) (o:=2) hltP (by omega)).trans p2
    have H3:=zh h3
    have S3:=zh (SP.out.trans hs3)
    clear h3 hs3
    go_wp2_with fail
    go_ret
    refine ⟨(1)*tn,_,?_,by constructor<;>omega,H3.out,S3.out,?_⟩
    ·
     first|rw [Hm.out]|(have:=Hm.out;simp at this ⊢;first|done|exact this|omega)
    ·
     rw [R2.out,if_pos H0'.out,if_neg E1.out,if_neg E2.out,RSt.bad,if_pos H0'.out];exact ⟨rfl,rfl,by decide⟩
end Go.Proofs.YtkopjgnjflhkeaaDoor
namespace Go.Proofs.YtkopjgnjflhkeaaDoor
open Go.RowKit Go.Pst
set_option linter.unusedVariables false
set_option linter.unusedSimpArgs false
variable {w:World} {br bT cap base:Nat} {T:List Tok} {st:RSt} {dep:Int}
set_option maxRecDepth 4000 in
set_option maxHeartbeats 2000000 in
theorem readCalled_any {d:Nat} (hE:ExprOK d) (h:RdAt w br bT cap T st) (hL:RdLaid w base br) (h0:st.fault=0) (hd:st.depth=30 - (d:Int)) (kind n:Int) (hk:InI kind):
 Calls Tryd.prog 65 #[.pointer (some ⟨br,0,none⟩), .int .i64 kind, .int .i64 n] w (RdS w br bT cap T (30 - (d:Int)) (calledG (exprR d) kind n (T.drop st.i))):=by
 have hbr:=h.lt.1
 have hbT:=h.lt.2
 obtain ⟨Res,hres⟩: ∃ Res,Res=calledG (exprR d) kind n (T.drop st.i):=⟨_,rfl⟩
 rw [←hres]
 have hs0:Since (fun _=>False) w (w.alloc (.cells #[.int .i64 0, .string ⟨#[]⟩, .string ⟨#[]⟩, .slice none 0 0, .slice none 0 0, .slice none 0 0, .slice none 0 0] 32)):=Since.alloc _ _ _
 have hb0:(w.alloc (.cells #[.int .i64 0, .string ⟨#[]⟩, .string ⟨#[]⟩, .slice none 0 0, .slice none 0 0, .slice none 0 0, .slice none 0 0] 32)).heap[w.heap.size]?=some (.cells #[.int .i64 0, .string ⟨#[]⟩, .string ⟨#[]⟩, .slice none 0 0, .slice none 0 0, .slice none 0 0, .slice none 0 0] 32 (0,0)):=heap_alloc_new w _
 have hA:=h.later hs0
 have hB:=hL.later hs0
 have hlt0:w.heap.size<(w.alloc (.cells #[.int .i64 0, .string ⟨#[]⟩, .string ⟨#[]⟩, .slice none 0 0, .slice none 0 0, .slice none 0 0, .slice none 0 0] 32)).heap.size:=by simp
 have hfd: ∀ (a c e:Int) (b:ByteArray) (w:World),(Instr.field 52 (.agg #[.int .u8 a, .string b, .int .i64 c, .int .i64 e]) 3).run Tryd.prog w= .ok (.int .i64 e) w:=fun _ _ _ _ _=>by kernel_rfl
 obtain ⟨t,ht⟩: ∃ t,seeR T st=t:=⟨_,rfl⟩
 have hpk:=readPeek_any hA
 rw [ht] at hpk
 have Hpk:=zh hpk
 have Ht:=zh ht
 have HA:=zh hA
 have HB:=zh hB
 have Hb0:=zh hb0
 have Hs0:=zh hs0
 have Hres:=zh hres
 have H0:=zh h0
 have Hd:=zh hd
 clear h hL hpk ht hA hB hb0 hs0 hres h0 hd
 obtain ⟨tk,ts,tn,tp⟩:=t
 go_enter Tryd.func65,Tryd.ntmps65
 go_wp2_with fail
 generalize w.alloc (.cells #[.int .i64 0, .string ⟨#[]⟩, .string ⟨#[]⟩, .slice none 0 0, .slice none 0 0, .slice none 0 0, .slice none 0 0] 32)=w0 at *
 refine Hpk.out.mono ?_
 rintro en w1 ⟨rfl,hs1⟩
 simp only [tokC]
 have hlt1:=hs1.size
 have HA1:=zh (HA.out.later hs1)
 have HB1:=zh (HB.out.later hs1)
 have S1:=zh (show Since (fun k=>k=br) w w1 from (Hs0.out.trans hs1).mono (fun _ f=>f.elim))
 have K1:=zh ((hs1.block w.heap.size hlt0 (fun f=>f)).trans Hb0.out)
 clear hs1
 go_wp2_with fail
 refine (readArgs_any hE HA1.out HB1.out (fun _=>Hd.out)).mono ?_
 rintro en w2 ⟨v,l,st2,rfl,hl,h2,hs2,hg2⟩
 obtain ⟨al,cl,rfl⟩:=rXs_shape hl
 have hlt2:=hs2.size
 have k2:=(hs2.block w.heap.size (by omega) (by omega)).trans K1.out
 have g0:=ca0 k2
 have g1:=ca1 k2
 have g2:=ca2 k2
 have g3:=ca3 k2
 have g4:=ca4 k2
 have g5:=ca5 k2
 have g6:=ca6 k2
 have gz:=cz k2
 have c3:=h2.c3
 have hRes2:Res=runR T (if (l.length:Int)≠n then PR.bad tp 10 else PR.ret (.mk kind ⟨#[]⟩ ⟨#[]⟩ l [] [] [])) st2:=by
  have hgA:Good' T (30 - (d:Int)) (runR T (argsR (exprR d)) st) l st2:=hg2
  refine Eq.trans ?_ (hgA.bind (q:=fun l=>if (l.length:Int)≠n then PR.bad tp 10 else PR.ret (PStmt.mk kind ⟨#[]⟩ ⟨#[]⟩ l [] [] [])))
  rw [Hres.out,runR_ok H0.out]
  unfold calledG
  rw [←seeR_head H0.out,Ht.out]
 have K2:=zh k2
 have H2:=zh h2
 have Hl:=zh hl
 have S2:=zh (S1.out.trans hs2)
 have R2:=zh hRes2
 have D2:=zh (show st2.fault=0→st2.depth=30 - (d:Int) from fun e=>hg2.dep_eq e)
 clear k2 h2 hl hs2 hRes2 hg2
 by_cases hf:st2.fault=0
 ·
  have f0:(st2.fault==0)=true:=by simpa using hf
  have Hf:=zh hf
  clear hf
  by_cases hn:(l.length:Int)=n
  ·
   have d2:((l.length:Int) !=n)=false:=by simp [hn]
   have Hn:=zh hn
   clear hn
   go_wp2_with fail
   obtain ⟨mb,ms⟩:=cells7 (w:=w2) K2.out (.int .i64 kind) (.string ⟨#[]⟩) (.string ⟨#[]⟩) (.slice al l.length cl) (.slice none 0 0) (.slice none 0 0) (.slice none 0 0)
   generalize hWW:((((((w2.setCell ⟨w.heap.size,0,none⟩ (.int .i64 kind)).setCell ⟨w.heap.size,1,none⟩ (.string ⟨#[]⟩)).setCell ⟨w.heap.size,2,none⟩ (.string ⟨#[]⟩)).setCell ⟨w.heap.size,3,none⟩ (.slice al l.length cl)).setCell ⟨w.heap.size,4,none⟩ (.slice none 0 0)).setCell ⟨w.heap.size,5,none⟩ (.slice none 0 0)).setCell ⟨w.heap.size,6,none⟩ (.slice none 0 0)=WW at *
   have m0:=ca0 mb
   have m1:=ca1 mb
   have m2:=ca2 mb
   have m3:=ca3 mb
   have m4:=ca4 mb
   have m5:=ca5 mb
   have m6:=ca6 mb
   refine bodyPost_ret (v:= .agg #[.int .i64 kind, .string ⟨#[]⟩, .string ⟨#[]⟩, .slice al l.length cl, .slice none 0 0, .slice none 0 0, .slice none 0 0]) (by simp [results,Tryd.results65,go_sem,m0,m1,m2,m3,m4,m5,m6]) rfl ⟨_, .mk kind ⟨#[]⟩ ⟨#[]⟩ l [] [] [],st2,rfl,rS_mk kind ⟨#[]⟩ ⟨#[]⟩ hk (by decide) (by decide) (Good.keep (R:=rXs) ⟨ms.size,fun k hk hS=>ms.block k hk (by omega)⟩ (fun k hk hS=>by omega) Hl.out) (rSs_nil _ _) (rSs_nil _ _) (rCs_nil _ _),(H2.out).since ms (by omega) (by omega),(S2.out).then_new ms (fun k e=>Or.inr (by omega)),?_⟩
   exact Good'.end (by rw [R2.out,if_neg (fun e=>e Hn.out)]) D2.out
  ·
   have d2:((l.length:Int) !=n)=true:=by simp [hn]
   have Hn:=zh hn
   clear hn
   go_wp2_with fail
   refine (readWrong_any H2.out tp 10 (by decide)).mono ?_
   rintro en w3 ⟨rfl,h3,hs3⟩
   have k3:=(hs3.block w.heap.size (by omega) (by omega)).trans K2.out
   have hlt3:=hs3.size
   have hl3:=Good.keep (R:=rXs) (S':=fun k=>w0.heap.size≤k) (w':=w3) ⟨hs3.size,fun k hk hS=>hs3.block k hk (by omega)⟩ (fun k hk hS=>by omega) Hl.out
   clear g0 g1 g2 g3 g4 g5 g6 gz
   have g0:=ca0 k3
   have g1:=ca1 k3
   have g2:=ca2 k3
   have g3:=ca3 k3
   have g4:=ca4 k3
   have g5:=ca5 k3
   have g6:=ca6 k3
   have gz:=cz k3
   have K3:=zh k3
   have H3:=zh h3
   have S3:=zh (S2.out.trans hs3)
   have Hl3:=zh hl3
   clear k3 h3 hs3 hl3
   go_wp2_with fail
   obtain ⟨mb,ms⟩:=cells7 (w:=w3) K3.out (.int .i64 kind) (.string ⟨#[]⟩) (.string ⟨#[]⟩) (.slice al l.length cl) (.slice none 0 0) (.slice none 0 0) (.slice none 0 0)
   generalize hWW:((((((w3.setCell ⟨w.heap.size,0,none⟩ (.int .i64 kind)).setCell ⟨w.heap.size,1,none⟩ (.string ⟨#[]⟩)).setCell ⟨w.heap.size,2,none⟩ (.string ⟨#[]⟩)).setCell ⟨w.heap.size,3,none⟩ (.slice al l.length cl)).setCell ⟨w.heap.size,4,none⟩ (.slice none 0 0)).setCell ⟨w.heap.size,5,none⟩ (.slice none 0 0)).setCell ⟨w.heap.size,6,none⟩ (.slice none 0 0)=WW at *
   have m0:=ca0 mb
   have m1:=ca1 mb
   have m2:=ca2 mb
   have m3:=ca3 mb
   have m4:=ca4 mb
   have m5:=ca5 mb
   have m6:=ca6 mb
   refine bodyPost_ret (v:= .agg #[.int .i64 kind, .string ⟨#[]⟩, .string ⟨#[]⟩, .slice al l.length cl, .slice none 0 0, .slice none 0 0, .slice none 0 0]) (by simp [results,Tryd.results65,go_sem,m0,m1,m2,m3,m4,m5,m6]) rfl ⟨_, .mk kind ⟨#[]⟩ ⟨#[]⟩ l [] [] [],_,rfl,rS_mk kind ⟨#[]⟩ ⟨#[]⟩ hk (by decide) (by decide) (Good.keep (R:=rXs) ⟨ms.size,fun k hk hS=>ms.block k hk (by omega)⟩ (fun k hk hS=>by omega) Hl3.out) (rSs_nil _ _) (rSs_nil _ _) (rCs_nil _ _),(H3.out).since ms (by omega) (by omega),(S3.out).then_new ms (fun k e=>Or.inr (by omega)),?_⟩
   rw [R2.out,if_pos (fun e=>Hn.out e),runR_ok Hf.out,RSt.bad,if_pos Hf.out];exact ⟨rfl,rfl,by decide⟩
 ·
  have f0:(st2.fault==0)=false:=by simpa using hf
  have Hf:=zh hf
  clear hf
  go_wp2_with fail
  obtain ⟨mb,ms⟩:=cells7 (w:=w2) K2.out (.int .i64 kind) (.string ⟨#[]⟩) (.string ⟨#[]⟩) (.slice al l.length cl) (.slice none 0 0) (.slice none 0 0) (.slice none 0 0)
  generalize hWW:((((((w2.setCell ⟨w.heap.size,0,none⟩ (.int .i64 kind)).setCell ⟨w.heap.size,1,none⟩ (.string ⟨#[]⟩)).setCell ⟨w.heap.size,2,none⟩ (.string ⟨#[]⟩)).setCell ⟨w.heap.size,3,none⟩ (.slice al l.length cl)).setCell ⟨w.heap.size,4,none⟩ (.slice none 0 0)).setCell ⟨w.heap.size,5,none⟩ (.slice none 0 0)).setCell ⟨w.heap.size,6,none⟩ (.slice none 0 0)=WW at *
  have m0:=ca0 mb
  have m1:=ca1 mb
  have m2:=ca2 mb
  have m3:=ca3 mb
  have m4:=ca4 mb
  have m5:=ca5 mb
  have m6:=ca6 mb
  refine bodyPost_ret (v:= .agg #[.int .i64 kind, .string ⟨#[]⟩, .string ⟨#[]⟩, .slice al l.length cl, .slice none 0 0, .slice none 0 0, .slice none 0 0]) (by simp [results,Tryd.results65,go_sem,m0,m1,m2,m3,m4,m5,m6]) rfl ⟨_, .mk kind ⟨#[]⟩ ⟨#[]⟩ l [] [] [],st2,rfl,rS_mk kind ⟨#[]⟩ ⟨#[]⟩ hk (by decide) (by decide) (Good.keep (R:=rXs) ⟨ms.size,fun k hk hS=>ms.block k hk (by omega)⟩ (fun k hk hS=>by omega) Hl.out) (rSs_nil _ _) (rSs_nil _ _) (rCs_nil _ _),(H2.out).since ms (by omega) (by omega),(S2.out).then_new ms (fun k e=>Or.inr (by omega)),?_⟩
  exact Good'.fail _ R2.out Hf.out
end Go.Proofs.YtkopjgnjflhkeaaDoor

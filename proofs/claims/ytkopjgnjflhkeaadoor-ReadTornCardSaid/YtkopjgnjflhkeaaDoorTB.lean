import Derived.Test.YtkopjgnjflhkeaaDoorTV
import Derived.Defers
import Derived.Deep.Cut
import Derived.Deep.DeepCutAuto
import Derived.Deep.CutRange
import Derived.Test.YtkopjgnjflhkeaaDoorTA
import Derived.Maps.OwnSet
import Derived.Test.YtkopjgnjflhkeaaDoorProg
namespace Go.Pst
open Go.RowKit
set_option linter.unusedVariables false
def RSt.up (st:RSt):RSt:={st with depth:=RowKit.wrap64 (st.depth - 1)}
theorem Good'.up {α:Type} {T:List Tok} {dep:Int} {res:Except (Int × Int) (α × List Tok)} {x:α} {st:RSt} (h:Good' T dep res x st) (h0:0≤dep) (h1:dep≤31):Good' T (dep - 1) res x st.up:=by
 match res,h with
 | .ok (y,r),h=>
  obtain ⟨h2,h3,h4,h5⟩:=h
  refine ⟨h2,h3,?_,h5⟩
  show RowKit.wrap64 (st.depth - 1)=dep - 1
  rw [h4]
  unfold RowKit.wrap64
  omega
 | .error (p,e),h=>exact h
end Go.Pst
namespace Go.Proofs.YtkopjgnjflhkeaaDoor
open Go.RowKit Go.Pst
set_option linter.unusedVariables false
set_option linter.unusedSimpArgs false
variable {w:World} {br bT cap base:Nat} {T:List Tok} {st:RSt} {dep:Int}
def LevelOK (d n:Nat):Prop:= ∀ (w:World) (br bT cap base:Nat) (T:List Tok) (st:RSt),RdAt w br bT cap T st→RdLaid w base br→st.fault=0→st.depth=30 - (d:Int)→
 Calls Tryd.prog 77 #[.pointer (some ⟨br,0,none⟩), .int .i64 n] w (RdX w br bT cap T (30 - (d:Int)) (levelR (unaryR d) (5 - n) (T.drop st.i)))
theorem readExprLeave_any (h:RdAt w br bT cap T st) (bx:Nat) (hb:w.cell? ⟨bx,0,none⟩=some (.pointer (some ⟨br,0,none⟩))) (u:FrameMode):
 CallsD Tryd.prog 76 #[.pointer (some ⟨bx,0,none⟩)] u w fun e u' w'=>u'=u∧(e= .returned (.tuple #[])∧RdAt w' br bT cap T st.up∧Since (fun k=>k=br) w w'):=by
 have c4:=h.c4
 have z:=h.z
 obtain ⟨dv,hdv⟩: ∃ dv,RowKit.wrap64 (st.depth - 1)=dv:=⟨_,rfl⟩
 have hset:RdAt (w.setCell ⟨br,4,none⟩ (.int .i64 dv)) br bT cap T st.up:=h.set 4 dv st.up (by simp) (by simp [RSt.up]) (by simp [RSt.up]) (by simp [RSt.up]) (by simp [RSt.up,hdv]) h.inn
 have HP:=zh (And.intro hset (Since.setCell w ⟨br,4,none⟩ (.int .i64 dv)))
 have Hdv:=zh hdv
 clear h hset hdv
 go_enter_d Tryd.func76,Tryd.ntmps76
 go_wp2
 go_end0
 rw [Hdv.out]
 exact ⟨rfl,HP.out.1,HP.out.2⟩
theorem readUnaryLeave_any (h:RdAt w br bT cap T st) (bx:Nat) (hb:w.cell? ⟨bx,0,none⟩=some (.pointer (some ⟨br,0,none⟩))) (u:FrameMode):
 CallsD Tryd.prog 89 #[.pointer (some ⟨bx,0,none⟩)] u w fun e u' w'=>u'=u∧(e= .returned (.tuple #[])∧RdAt w' br bT cap T st.up∧Since (fun k=>k=br) w w'):=by
 have c4:=h.c4
 have z:=h.z
 obtain ⟨dv,hdv⟩: ∃ dv,RowKit.wrap64 (st.depth - 1)=dv:=⟨_,rfl⟩
 have hset:RdAt (w.setCell ⟨br,4,none⟩ (.int .i64 dv)) br bT cap T st.up:=h.set 4 dv st.up (by simp) (by simp [RSt.up]) (by simp [RSt.up]) (by simp [RSt.up]) (by simp [RSt.up,hdv]) h.inn
 have HP:=zh (And.intro hset (Since.setCell w ⟨br,4,none⟩ (.int .i64 dv)))
 have Hdv:=zh hdv
 clear h hset hdv
 go_enter_d Tryd.func89,Tryd.ntmps89
 go_wp2
 go_end0
 rw [Hdv.out]
 exact ⟨rfl,HP.out.1,HP.out.2⟩
theorem readBlockLeave_any (h:RdAt w br bT cap T st) (bx:Nat) (hb:w.cell? ⟨bx,0,none⟩=some (.pointer (some ⟨br,0,none⟩))) (u:FrameMode):
 CallsD Tryd.prog 48 #[.pointer (some ⟨bx,0,none⟩)] u w fun e u' w'=>u'=u∧(e= .returned (.tuple #[])∧RdAt w' br bT cap T st.up∧Since (fun k=>k=br) w w'):=by
 have c4:=h.c4
 have z:=h.z
 obtain ⟨dv,hdv⟩: ∃ dv,RowKit.wrap64 (st.depth - 1)=dv:=⟨_,rfl⟩
 have hset:RdAt (w.setCell ⟨br,4,none⟩ (.int .i64 dv)) br bT cap T st.up:=h.set 4 dv st.up (by simp) (by simp [RSt.up]) (by simp [RSt.up]) (by simp [RSt.up]) (by simp [RSt.up,hdv]) h.inn
 have HP:=zh (And.intro hset (Since.setCell w ⟨br,4,none⟩ (.int .i64 dv)))
 have Hdv:=zh hdv
 clear h hset hdv
 go_enter_d Tryd.func48,Tryd.ntmps48
 go_wp2
 go_end0
 rw [Hdv.out]
 exact ⟨rfl,HP.out.1,HP.out.2⟩
theorem readExprDoor {W:World} (h:RdAt W br bT cap T st) {bx:Nat} (hb:W.cell? ⟨bx,0,none⟩=some (.pointer (some ⟨br,0,none⟩))) {tmps:Array Value} {v:Value} {Q:Ending→World→Prop}
 (hres: ∀ w',Since (fun k=>k=br) W w'→(results Tryd.f64 tmps).run Tryd.prog w'= .ok v w') (hQ: ∀ w',RdAt w' br bT cap T st.up→Since (fun k=>k=br) W w'→Q (.returned v) w'):
 Leaves Tryd.prog Tryd.f64 tmps Q [{target:= .fn (.func 76) #[.pointer (some ⟨bx,0,none⟩)],args:= #[]}] .returning W:=by
 refine leaves_cons (f:=76) (args:= #[.pointer (some ⟨bx,0,none⟩)]) (by simp) (by simp [go_sem]) ?_
 refine (readExprLeave_any h bx hb .returning).mono ?_
 rintro e u' w' ⟨rfl,rfl,h1,h2⟩
 exact ⟨_,hres w' h2,hQ w' h1 h2⟩
theorem readUnaryDoor {W:World} (h:RdAt W br bT cap T st) {bx:Nat} (hb:W.cell? ⟨bx,0,none⟩=some (.pointer (some ⟨br,0,none⟩))) {tmps:Array Value} {v:Value} {Q:Ending→World→Prop}
 (hres: ∀ w',Since (fun k=>k=br) W w'→(results Tryd.f86 tmps).run Tryd.prog w'= .ok v w') (hQ: ∀ w',RdAt w' br bT cap T st.up→Since (fun k=>k=br) W w'→Q (.returned v) w'):
 Leaves Tryd.prog Tryd.f86 tmps Q [{target:= .fn (.func 89) #[.pointer (some ⟨bx,0,none⟩)],args:= #[]}] .returning W:=by
 refine leaves_cons (f:=89) (args:= #[.pointer (some ⟨bx,0,none⟩)]) (by simp) (by simp [go_sem]) ?_
 refine (readUnaryLeave_any h bx hb .returning).mono ?_
 rintro e u' w' ⟨rfl,rfl,h1,h2⟩
 exact ⟨_,hres w' h2,hQ w' h1 h2⟩
theorem readBlockDoor {W:World} (h:RdAt W br bT cap T st) {bx:Nat} (hb:W.cell? ⟨bx,0,none⟩=some (.pointer (some ⟨br,0,none⟩))) {tmps:Array Value} {v:Value} {Q:Ending→World→Prop}
 (hres: ∀ w',Since (fun k=>k=br) W w'→(results Tryd.f28 tmps).run Tryd.prog w'= .ok v w') (hQ: ∀ w',RdAt w' br bT cap T st.up→Since (fun k=>k=br) W w'→Q (.returned v) w'):
 Leaves Tryd.prog Tryd.f28 tmps Q [{target:= .fn (.func 48) #[.pointer (some ⟨bx,0,none⟩)],args:= #[]}] .returning W:=by
 refine leaves_cons (f:=48) (args:= #[.pointer (some ⟨bx,0,none⟩)]) (by simp) (by simp [go_sem]) ?_
 refine (readBlockLeave_any h bx hb .returning).mono ?_
 rintro e u' w' ⟨rfl,rfl,h1,h2⟩
 exact ⟨_,hres w' h2,hQ w' h1 h2⟩
set_option maxRecDepth 4000 in
set_option maxHeartbeats 1000000 in
theorem readExpr_any (d:Nat) (hd30:d≤30) (hLev: ∀ d',d=d'+1→LevelOK d' 0):ExprOK d:=by
 intro w br bT cap base T st h hL hd
 have hbr:=h.lt.1
 have hbT:=h.lt.2
 obtain ⟨Res,hres⟩: ∃ Res,Res=runR T (exprR d) st:=⟨_,rfl⟩
 rw [←hres]
 have Hres:=zh hres
 have hs0:Since (fun _=>False) w ((w.alloc (.cells #[.pointer (some ⟨br,0,none⟩)] 46)).alloc (.cells #[.int .i64 0, .int .i64 0, .string ⟨#[]⟩, .slice none 0 0] 28)):=(Since.alloc _ _ _).trans (Since.alloc _ _ _)
 have hb0:((w.alloc (.cells #[.pointer (some ⟨br,0,none⟩)] 46)).alloc (.cells #[.int .i64 0, .int .i64 0, .string ⟨#[]⟩, .slice none 0 0] 28)).heap[w.heap.size]?=some (.cells #[.pointer (some ⟨br,0,none⟩)] 46 (0,0)):=allocs_get [.cells #[.pointer (some ⟨br,0,none⟩)] 46, .cells #[.int .i64 0, .int .i64 0, .string ⟨#[]⟩, .slice none 0 0] 28] w 0 (by simp)
 have hb1:((w.alloc (.cells #[.pointer (some ⟨br,0,none⟩)] 46)).alloc (.cells #[.int .i64 0, .int .i64 0, .string ⟨#[]⟩, .slice none 0 0] 28)).heap[w.heap.size+1]?=some (.cells #[.int .i64 0, .int .i64 0, .string ⟨#[]⟩, .slice none 0 0] 28 (0,0)):=allocs_get [.cells #[.pointer (some ⟨br,0,none⟩)] 46, .cells #[.int .i64 0, .int .i64 0, .string ⟨#[]⟩, .slice none 0 0] 28] w 1 (by simp)
 go_enter_defers Tryd.func64,Tryd.ntmps64
 go_wp2_with fail
 have h0:=h.later hs0
 have hL0:=hL.later hs0
 generalize (w.alloc (.cells #[.pointer (some ⟨br,0,none⟩)] 46)).alloc (.cells #[.int .i64 0, .int .i64 0, .string ⟨#[]⟩, .slice none 0 0] 28)=w0 at *
 refine (readDeeper_any h0 d hd hd30).mono ?_
 rintro en w1 ⟨st1,rfl,h1,hs1,hg1⟩
 have hlt1:w.heap.size+1<w0.heap.size:=(Array.getElem?_eq_some_iff.1 hb1).1
 have k0:=(hs1.block w.heap.size (by omega) (by omega)).trans hb0
 have k1:=(hs1.block (w.heap.size+1) hlt1 (by omega)).trans hb1
 have hlt2:=Nat.lt_of_lt_of_le hlt1 hs1.size
 have q0:=ca0 k0
 have g0:=ca0 k1
 have g1:=ca1 k1
 have g2:=ca2 k1
 have g3:=ca3 k1
 have gz:=cz k1
 have hs01:=(hs0.mono (fun k f=>f.elim)).trans hs1
 have H1:=zh h1
 have HL1:=zh (hL0.box hs1)
 have Hs01:=zh hs01
 have Hg1:=zh hg1
 have Hd:=zh hd
 clear h h0 hL hL0 hs0 hs1 hb0 hb1 h1 hs01 hg1 k0 k1 hres hd
 by_cases hf:st1.fault=0
 ·
  have f0:(st1.fault==0)=true:=by simpa using hf
  have hsf:=Hg1.out.fault_of hf
  obtain ⟨e1,hdp1⟩:=Hg1.out.fault0 hf
  rw [runR_ok hsf] at e1
  have hdz:d≠0:=fun e=>by rw [e] at e1;cases e1
  obtain ⟨d',rfl⟩: ∃ d',d=d'+1:=⟨d - 1,by omega⟩
  have e2:T.drop st1.i=T.drop st.i:=by
   unfold deepR at e1
   rw [if_neg hdz] at e1
   injection e1 with e1
   injection e1 with _ e1
   exact e1.symm
  have hR:Res=levelR (unaryR d') 5 (T.drop st1.i):=by rw [Hres.out,runR_ok hsf,e2];rfl
  have hlev:=hLev d' rfl w1 br bT cap base T st1 H1.out HL1.out hf (by rw [hdp1];omega)
  have HR:=zh hR
  have Hlev:=zh hlev
  clear e1 hdp1 hsf hdz e2 hR hlev hf
  go_wp2_with fail
  refine Hlev.out.mono ?_
  rintro en w2 ⟨cs,x,st2,rfl,hx,h2,hs2,hg2⟩
  obtain ⟨ax,cx,rfl⟩:=rX_shape hx
  have q0':=(hs2.cell (b:=w.heap.size) (o:=0) (by omega) (by omega)).trans q0
  have g0':=(hs2.cell (b:=w.heap.size+1) (o:=0) (by omega) (by omega)).trans g0
  have g1':=(hs2.cell (b:=w.heap.size+1) (o:=1) (by omega) (by omega)).trans g1
  have g2':=(hs2.cell (b:=w.heap.size+1) (o:=2) (by omega) (by omega)).trans g2
  have g3':=(hs2.cell (b:=w.heap.size+1) (o:=3) (by omega) (by omega)).trans g3
  have gz': ∀ j,w2.frozen? ⟨w.heap.size+1,j,none⟩=false:=fun j=>(hs2.frozen (by omega) (by omega)).trans (gz j)
  have hsz2:=hs2.size
  obtain ⟨m0,m1,m2,m3,ms⟩:=cells4 g0' g1' g2' g3' (.int .i64 x.kind) (.int .i64 x.n) (.string x.s) (.slice ax x.args.length cx)
  have hfin: ∀ w',RdAt w' br bT cap T st2.up→Since (fun k=>k=br) ((((w2.setCell ⟨w.heap.size+1,0,none⟩ (.int .i64 x.kind)).setCell ⟨w.heap.size+1,1,none⟩ (.int .i64 x.n)).setCell ⟨w.heap.size+1,2,none⟩ (.string x.s)).setCell ⟨w.heap.size+1,3,none⟩ (.slice ax x.args.length cx)) w'→
   RdX w br bT cap T (30 - ((d'+1:Nat):Int)) Res (.returned (.agg #[.int .i64 x.kind, .int .i64 x.n, .string x.s, .slice ax x.args.length cx])) w':=fun w' h3 hs3=>by
   refine ⟨_,x,st2.up,rfl,?_,h3,?_,?_⟩
   ·
    refine Good.keep (R:=rX) (w:=w2) (S:=fun k=>w1.heap.size≤k) ⟨Nat.le_trans ms.size hs3.size,fun k hk hS=>?_⟩ (fun k hk hS=>by omega) hx
    exact (hs3.block k (Nat.lt_of_lt_of_le hk ms.size) (by omega)).trans (ms.block k hk (by omega))
   ·
    exact ((Hs01.out.trans hs2).then_new ms (fun k e=>Or.inr (by omega))).trans hs3
   ·
    rw [HR.out]
    have:=hg2.up (by omega) (by omega)
    rw [show (30:Int) - ((d'+1:Nat):Int)=30 - (d':Int) - 1 by omega]
    exact this
  have Hfin:=zh hfin
  have H2:=zh (h2.since ms (by omega) (by omega))
  have Ms:=zh ms
  clear hfin h2 ms hs2 hg2 hx g0 g1 g2 g3 gz q0
  go_wp2_with fail
  refine readExprDoor H2.out ?_ ?_ Hfin.out
  ·
   exact (Ms.out.cell (by omega) (by omega)).trans q0'
  ·
   intro w' hs
   have n0:=(hs.cell (b:=w.heap.size+1) (o:=0) (by simp;omega) (by omega)).trans m0
   have n1:=(hs.cell (b:=w.heap.size+1) (o:=1) (by simp;omega) (by omega)).trans m1
   have n2:=(hs.cell (b:=w.heap.size+1) (o:=2) (by simp;omega) (by omega)).trans m2
   have n3:=(hs.cell (b:=w.heap.size+1) (o:=3) (by simp;omega) (by omega)).trans m3
   simp [results,Tryd.results64,go_sem,n0,n1,n2,n3]
 ·
  have f0:(st1.fault==0)=false:=by simpa using hf
  have Hf:=zh hf
  clear hf
  go_wp2_with fail
  obtain ⟨m0,m1,m2,m3,ms⟩:=cells4 g0 g1 g2 g3 (.int .i64 0) (.int .i64 0) (.string ⟨#[]⟩) (.slice none 0 0)
  refine ⟨.agg #[.int .i64 0, .int .i64 0, .string ⟨#[]⟩, .slice none 0 0],by simp [results,Tryd.results64,go_sem,m0,m1,m2,m3],_,_,st1,rfl,rX_zero _ _ 0 0 ⟨#[]⟩ (ini rfl) (ini rfl) (by decide),H1.out.since ms (by omega) (by omega),Hs01.out.then_new ms (fun k e=>Or.inr (by omega)),?_⟩
  have e1:=Hg1.out.fault1 Hf.out
  have e2:Res= .error (st1.pos,st1.fault):=by
   rw [Hres.out]
   by_cases hsf:st.fault=0
   ·
    rw [runR_ok hsf] at e1 ⊢
    unfold deepR at e1
    split at e1
    ·
     rename_i hz
     subst hz
     injection e1 with e1
     rw [←e1]
     rfl
    ·
     cases e1
   ·
    rw [runR_bad hsf] at e1 ⊢
    injection e1 with e1
    rw [e1]
  rw [e2]
  exact ⟨rfl,rfl,Hf.out⟩
end Go.Proofs.YtkopjgnjflhkeaaDoor
namespace Go.Proofs.YtkopjgnjflhkeaaDoor
open Go.RowKit Go.Pst
set_option linter.unusedVariables false
set_option linter.unusedSimpArgs false
variable {w:World} {br bT cap base:Nat} {T:List Tok} {st:RSt} {dep:Int}
def WordOK (d:Nat):Prop:= ∀ (w:World) (br bT cap base:Nat) (T:List Tok) (st:RSt) (t:Tok),RdAt w br bT cap T st→RdLaid w base br→st.fault=0→st.depth=30 - (d:Int)→(t.s.size≤maxLen∧InI t.pos)→
 Calls Tryd.prog 92 #[.pointer (some ⟨br,0,none⟩), .agg #[.int .u8 t.kind, .string t.s, .int .i64 t.n, .int .i64 t.pos]] w (RdX w br bT cap T (30 - (d:Int)) (wordR (exprR d) t (T.drop st.i)))
set_option maxRecDepth 4000 in
set_option maxHeartbeats 4000000 in
theorem readPrim_any (d:Nat) (hE:ExprOK d) (hW:WordOK d) (w:World) (br bT cap base:Nat) (T:List Tok) (st:RSt) (h:RdAt w br bT cap T st) (hL:RdLaid w base br) (h0:st.fault=0) (hd:st.depth=30 - (d:Int)):
 Calls Tryd.prog 90 #[.pointer (some ⟨br,0,none⟩)] w (RdX w br bT cap T (30 - (d:Int)) (primR (exprR d) (T.drop st.i))):=by
 have hbr:=h.lt.1
 have hbT:=h.lt.2
 obtain ⟨Res,hres⟩: ∃ Res,Res=primR (exprR d) (T.drop st.i):=⟨_,rfl⟩
 rw [←hres]
 have hs0:Since (fun _=>False) w (w.alloc (.cells #[.int .i64 0, .int .i64 0, .string ⟨#[]⟩, .slice none 0 0] 28)):=Since.alloc _ _ _
 have hb1:(w.alloc (.cells #[.int .i64 0, .int .i64 0, .string ⟨#[]⟩, .slice none 0 0] 28)).heap[w.heap.size]?=some (.cells #[.int .i64 0, .int .i64 0, .string ⟨#[]⟩, .slice none 0 0] 28 (0,0)):=heap_alloc_new w _
 obtain ⟨t,ht⟩: ∃ t,seeR T st=t:=⟨_,rfl⟩
 obtain ⟨st',hst⟩: ∃ st',st'=if t.kind=101 then st else {st with i:=st.i+1}:=⟨_,rfl⟩
 have hnx:=readNext_aux (h.later hs0) t ht st' hst
 have hts:=seeR_size (T:=T) (st:=st) h.toks h.inn
 rw [ht] at hts
 have hL0:=hL.later hs0
 have hlt1:w.heap.size<(w.alloc (.cells #[.int .i64 0, .int .i64 0, .string ⟨#[]⟩, .slice none 0 0] 28)).heap.size:=by simp
 have h0':st'.fault=0:=by rw [hst];split<;>exact h0
 have hd':st'.depth=30 - (d:Int):=by rw [hst];split<;>exact hd
 have Hnx:=zh hnx
 have Hst:=zh hst
 have Ht:=zh ht
 have Hres:=zh hres
 have Hts:=zh hts
 have Hd':=zh (And.intro h0' hd')
 have H0:=zh h0
 clear hnx hst ht hres hts hd' h0' h hL h0 hd
 go_enter Tryd.func90,Tryd.ntmps90
 go_wp2_with fail
 generalize w.alloc (.cells #[.int .i64 0, .int .i64 0, .string ⟨#[]⟩, .slice none 0 0] 28)=w0 at *
 refine Hnx.out.mono ?_
 rintro en w1 ⟨rfl,h1,hs1⟩
 obtain ⟨tk,ts,tn,tp⟩:=t
 simp only [tokC]
 obtain ⟨bt,hbt⟩: ∃ bt,bt=w1.heap.size:=⟨_,rfl⟩
 have hTP:(w1.alloc (.cells #[.int .u8 tk, .string ts, .int .i64 tn, .int .i64 tp] 52)).heap[bt]?=some (.cells #[.int .u8 tk, .string ts, .int .i64 tn, .int .i64 tp] 52 (0,0)):=by rw [hbt];exact heap_alloc_new w1 _
 have hsP:Since (fun k=>k=br) w (w1.alloc (.cells #[.int .u8 tk, .string ts, .int .i64 tn, .int .i64 tp] 52)):=((hs0.mono (fun _ f=>f.elim)).trans hs1).trans (Since.alloc _ _ _)
 have hA1:=h1.later (Since.alloc (fun _=>False) w1 (.cells #[.int .u8 tk, .string ts, .int .i64 tn, .int .i64 tp] 52))
 have hB1:=(hL0.box hs1).later (Since.alloc (fun _=>False) w1 (.cells #[.int .u8 tk, .string ts, .int .i64 tn, .int .i64 tp] 52))
 have kB:=((Since.alloc (fun _=>False) w1 (.cells #[.int .u8 tk, .string ts, .int .i64 tn, .int .i64 tp] 52)).block w.heap.size (Nat.lt_of_lt_of_le hlt1 hs1.size) (fun f=>f)).trans ((hs1.block w.heap.size hlt1 (by omega)).trans hb1)
 have hltt:w.heap.size<bt:=by have:=hs1.size;omega
 go_upto_region 3 with fail
 rw [←hbt]
 generalize w1.alloc (.cells #[.int .u8 tk, .string ts, .int .i64 tn, .int .i64 tp] 52)=wP at *
 have g0:=ca0 kB
 have g1:=ca1 kB
 have g2:=ca2 kB
 have g3:=ca3 kB
 have gz:=cz kB
 have t0:=ca0 hTP
 have t1:=ca1 hTP
 have t2:=ca2 hTP
 have t3:=ca3 hTP
 have hltP:bt<wP.heap.size:=(Array.getElem?_eq_some_iff.1 hTP).1
 have c3:=hA1.c3
 rw [Hd'.out.1] at c3
 have HsP:=zh hsP
 have HA1:=zh hA1
 have HB1:=zh hB1
 have HTP:=zh hTP
 clear hsP hA1 hB1 hTP kB hbt h1 hs1 hs0 hL0 hb1 hlt1
 by_cases e1:tk=101
 ·
  have f1:(tk==101)=true:=by simp [e1]
  have E1:=zh e1
  clear e1
  go_wp2_with fail
  refine (readWrong_any HA1.out tp 5 (by decide)).mono ?_
  rintro en w2 ⟨rfl,h2,hs2⟩
  have g0:=(hs2.cell (b:=w.heap.size) (o:=0) (by omega) (by omega)).trans g0
  have g1:=(hs2.cell (b:=w.heap.size) (o:=1) (by omega) (by omega)).trans g1
  have g2:=(hs2.cell (b:=w.heap.size) (o:=2) (by omega) (by omega)).trans g2
  have g3:=(hs2.cell (b:=w.heap.size) (o:=3) (by omega) (by omega)).trans g3
  have gz: ∀ j,w2.frozen? ⟨w.heap.size,j,none⟩=false:=fun j=>(hs2.frozen (by omega) (by omega)).trans (gz j)
  have hsz2:=hs2.size
  have H2:=zh h2
  have Hs2:=zh hs2
  clear h2 hs2
  go_wp2_with fail
  obtain ⟨m0,m1,m2,m3,ms⟩:=cells4 (w:=w2) g0 g1 g2 g3 (.int .i64 0) (.int .i64 0) (.string ⟨#[]⟩) (.slice none 0 0)
  generalize hWW:(((w2.setCell ⟨w.heap.size,0,none⟩ (.int .i64 0)).setCell ⟨w.heap.size,1,none⟩ (.int .i64 0)).setCell ⟨w.heap.size,2,none⟩ (.string ⟨#[]⟩)).setCell ⟨w.heap.size,3,none⟩ (.slice none 0 0)=WW at *
  refine bodyPost_ret (v:= .agg #[.int .i64 0, .int .i64 0, .string ⟨#[]⟩, .slice none 0 0]) (by simp [results,Tryd.results90,go_sem,m0,m1,m2,m3]) rfl ⟨_, .mk 0 0 ⟨#[]⟩ [],_,rfl,rX_zero _ _ 0 0 ⟨#[]⟩ (ini rfl) (ini rfl) (by decide),(H2.out).since ms (by omega) (by omega),(HsP.out.trans Hs2.out).then_new ms (fun k e=>Or.inr (by omega)),?_⟩
  rw [show Res= .error (tp,5) by rw [Hres.out];unfold primR;rw [←seeR_head H0.out,Ht.out];exact if_pos E1.out,RSt.bad,if_pos Hd'.out.1]
  exact ⟨rfl,rfl,by decide⟩
 have f1:(tk==101)=false:=by simp [e1]
 have E1:=zh e1
 have hst':st'={st with i:=st.i+1}:=by rw [Hst.out,if_neg e1]
 have Hst':=zh hst'
 clear e1 hst'
 have hdrop:T.drop st'.i=(T.drop st.i).tail:=by rw [Hst'.out];exact drop_tail _
 have Hdrop:=zh hdrop
 clear hdrop
 by_cases e2:tk=110
 ·
  have f2:(tk==110)=true:=by simp [e2]
  have E2:=zh e2
  clear e2
  go_wp2_with fail
  obtain ⟨m0,m1,m2,m3,ms⟩:=cells4 (w:=wP) g0 g1 g2 g3 (.int .i64 1) (.int .i64 tn) (.string ⟨#[]⟩) (.slice none 0 0)
  generalize hWW:(((wP.setCell ⟨w.heap.size,0,none⟩ (.int .i64 1)).setCell ⟨w.heap.size,1,none⟩ (.int .i64 tn)).setCell ⟨w.heap.size,2,none⟩ (.string ⟨#[]⟩)).setCell ⟨w.heap.size,3,none⟩ (.slice none 0 0)=WW at *
  refine bodyPost_ret (v:= .agg #[.int .i64 1, .int .i64 tn, .string ⟨#[]⟩, .slice none 0 0]) (by simp [results,Tryd.results90,go_sem,m0,m1,m2,m3]) rfl ⟨_, .mk 1 tn ⟨#[]⟩ [],st',rfl,rX_zero _ _ 1 tn ⟨#[]⟩ (ini rfl) Hts.out.2.1 (by decide),(HA1.out).since ms (by omega) (by omega),(HsP.out).then_new ms (fun k e=>Or.inr (by omega)),?_⟩
  rw [show Res= .ok (.mk 1 tn ⟨#[]⟩ [],(T.drop st.i).tail) by rw [Hres.out];unfold primR;rw [←seeR_head H0.out,Ht.out];exact (if_neg E1.out).trans (if_pos E2.out)]
  exact ⟨rfl,Hd'.out.1,Hd'.out.2,Hdrop.out⟩
 have f2:(tk==110)=false:=by simp [e2]
 have E2:=zh e2
 clear e2
 by_cases e3:tk=116
 ·
  have f3:(tk==116)=true:=by simp [e3]
  have E3:=zh e3
  clear e3
  go_wp2_with fail
  obtain ⟨m0,m1,m2,m3,ms⟩:=cells4 (w:=wP) g0 g1 g2 g3 (.int .i64 2) (.int .i64 0) (.string ts) (.slice none 0 0)
  generalize hWW:(((wP.setCell ⟨w.heap.size,0,none⟩ (.int .i64 2)).setCell ⟨w.heap.size,1,none⟩ (.int .i64 0)).setCell ⟨w.heap.size,2,none⟩ (.string ts)).setCell ⟨w.heap.size,3,none⟩ (.slice none 0 0)=WW at *
  refine bodyPost_ret (v:= .agg #[.int .i64 2, .int .i64 0, .string ts, .slice none 0 0]) (by simp [results,Tryd.results90,go_sem,m0,m1,m2,m3]) rfl ⟨_, .mk 2 0 ts [],st',rfl,rX_zero _ _ 2 0 ts (ini rfl) (ini rfl) Hts.out.1,(HA1.out).since ms (by omega) (by omega),(HsP.out).then_new ms (fun k e=>Or.inr (by omega)),?_⟩
  rw [show Res= .ok (.mk 2 0 ts [],(T.drop st.i).tail) by rw [Hres.out];unfold primR;rw [←seeR_head H0.out,Ht.out];exact (if_neg E1.out).trans ((if_neg E2.out).trans (if_pos E3.out))]
  exact ⟨rfl,Hd'.out.1,Hd'.out.2,Hdrop.out⟩
 have f3:(tk==116)=false:=by simp [e3]
 have E3:=zh e3
 clear e3
 by_cases e4:tk=109∧ts=⟨#[40]⟩
 ·
  obtain ⟨e5,rfl⟩:=e4
  have f4:(tk==109)=true:=by simp [e5]
  have E5:=zh e5
  have hex:=hE wP br bT cap base T st' HA1.out HB1.out (fun _=>Hd'.out.2)
  have Hex:=zh hex
  clear e5 hex hE hW
  go_wp2_with fail
  refine Hex.out.mono ?_
  rintro en w2 ⟨cs,x,st2,rfl,hx,h2,hs2,hg2⟩
  obtain ⟨ax,cx,rfl⟩:=rX_shape hx
  have hsz2:=hs2.size
  have hsX:Since (fun _=>False) w2 (w2.alloc (.cells #[.int .i64 x.kind, .int .i64 x.n, .string x.s, .slice ax x.args.length cx] 28)):=Since.alloc _ _ _
  obtain ⟨bx,hbx⟩: ∃ bx,bx=w2.heap.size:=⟨_,rfl⟩
  have hxb:(w2.alloc (.cells #[.int .i64 x.kind, .int .i64 x.n, .string x.s, .slice ax x.args.length cx] 28)).heap[bx]?=some (.cells #[.int .i64 x.kind, .int .i64 x.n, .string x.s, .slice ax x.args.length cx] 28 (0,0)):=by rw [hbx];exact heap_alloc_new w2 _
  have hltx:bx<(w2.alloc (.cells #[.int .i64 x.kind, .int .i64 x.n, .string x.s, .slice ax x.args.length cx] 28)).heap.size:=by rw [hbx];simp
  have hbxl:bt<bx:=by omega
  have sX:Since (fun k=>k=br) wP (w2.alloc (.cells #[.int .i64 x.kind, .int .i64 x.n, .string x.s, .slice ax x.args.length cx] 28)):=hs2.trans (Since.alloc _ _ _)
  have hm:=readMust_any (h2.later hsX) (fun e=>hg2.dep_eq e) ⟨#[41]⟩
  have Hx:=zh (Good.keep (R:=rX) (S':=fun k=>w.heap.size<k) (w':=w2.alloc (.cells #[.int .i64 x.kind, .int .i64 x.n, .string x.s, .slice ax x.args.length cx] 28)) ⟨hsX.size,fun k hk hS=>hsX.block k hk (fun f=>f)⟩ (fun k hk hS=>by omega) hx)
  have hgy:Res=runR T (PR.bind (mustR ⟨#[41]⟩) fun _=>PR.ret x) st2:=by
   have h9:Good' T (30 - (d:Int)) (runR T (exprR d) st') x st2:=hg2
   rw [show Res=PR.bind (exprR d) (fun x=>PR.bind (mustR ⟨#[41]⟩) fun _=>PR.ret x) (T.drop st.i).tail by rw [Hres.out];unfold primR;rw [←seeR_head H0.out,Ht.out];exact (if_neg E1.out).trans ((if_neg E2.out).trans ((if_neg E3.out).trans (if_pos ⟨E5.out,rfl⟩))),←Hdrop.out,←runR_ok (p:=PR.bind (exprR d) (fun x=>PR.bind (mustR ⟨#[41]⟩) fun _=>PR.ret x)) Hd'.out.1]
   exact h9.bind
  have Hm:=zh hm
  have Hgy:=zh hgy
  have SX:=zh sX
  clear hs2 h2 hg2 hx hsX hm hgy sX
  go_wp2_with fail
  rw [←hbx]
  clear hbx
  generalize w2.alloc (.cells #[.int .i64 x.kind, .int .i64 x.n, .string x.s, .slice ax x.args.length cx] 28)=wX at *
  refine Hm.out.mono ?_
  rintro en w3 ⟨st3,rfl,h3,hs3,hg3⟩
  have xb3:=(hs3.block bx hltx (by omega)).trans hxb
  have x0:=ca0 xb3
  have x1:=ca1 xb3
  have x2:=ca2 xb3
  have x3:=ca3 xb3
  have s3:=SX.out.trans hs3
  have g0:=(s3.cell (b:=w.heap.size) (o:=0) (by omega) (by omega)).trans g0
  have g1:=(s3.cell (b:=w.heap.size) (o:=1) (by omega) (by omega)).trans g1
  have g2:=(s3.cell (b:=w.heap.size) (o:=2) (by omega) (by omega)).trans g2
  have g3:=(s3.cell (b:=w.heap.size) (o:=3) (by omega) (by omega)).trans g3
  have gz: ∀ j,w3.frozen? ⟨w.heap.size,j,none⟩=false:=fun j=>(s3.frozen (by omega) (by omega)).trans (gz j)
  have hX3:rX (fun k=>w.heap.size<k) w3 [.int .i64 x.kind, .int .i64 x.n, .string x.s, .slice ax x.args.length cx] x:=Good.keep (R:=rX) ⟨hs3.size,fun k hk hS=>hs3.block k hk (by omega)⟩ (fun _ _ h=>h) Hx.out
  have HX3:=zh hX3
  have H3:=zh h3
  have S3:=zh s3
  have Hg3:=zh hg3
  clear h3 hs3 hg3 s3 hX3
  go_wp2_with fail
  obtain ⟨m0,m1,m2,m3,ms⟩:=cells4 (w:=w3) g0 g1 g2 g3 (.int .i64 x.kind) (.int .i64 x.n) (.string x.s) (.slice ax x.args.length cx)
  generalize hWW:(((w3.setCell ⟨w.heap.size,0,none⟩ (.int .i64 x.kind)).setCell ⟨w.heap.size,1,none⟩ (.int .i64 x.n)).setCell ⟨w.heap.size,2,none⟩ (.string x.s)).setCell ⟨w.heap.size,3,none⟩ (.slice ax x.args.length cx)=WW at *
  refine bodyPost_ret (v:= .agg #[.int .i64 x.kind, .int .i64 x.n, .string x.s, .slice ax x.args.length cx]) (by simp [results,Tryd.results90,go_sem,m0,m1,m2,m3]) rfl ⟨_,x,st3,rfl,Good.keep (R:=rX) ⟨ms.size,fun k hk hS=>ms.block k hk (by omega)⟩ (fun k hk hS=>by omega) HX3.out,(H3.out).since ms (by omega) (by omega),(HsP.out.trans S3.out).then_new ms (fun k e=>Or.inr (by omega)),?_⟩
  rw [Hgy.out,Hg3.out.bind];exact Good'.ret _ (fun e=>Hg3.out.dep_eq e)
 by_cases e6:tk=119
 ·
  have f6:(tk !=119)=false:=by simp [e6]
  have f4:(tk==109)=false:=by simp [e6]
  have E6:=zh e6
  have hwo:=hW wP br bT cap base T st' ⟨tk,ts,tn,tp⟩ HA1.out HB1.out Hd'.out.1 Hd'.out.2 ⟨Hts.out.1,Hts.out.2.2.1⟩
  have Hwo:=zh hwo
  clear e6 hwo hE hW e4
  go_wp2_with fail
  refine Hwo.out.mono ?_
  rintro en w3 ⟨cs,x,st3,rfl,hx,h3,hs3,hg3⟩
  obtain ⟨ax,cx,rfl⟩:=rX_shape hx
  have hsz3:=hs3.size
  have g0:=(hs3.cell (b:=w.heap.size) (o:=0) (by omega) (by omega)).trans g0
  have g1:=(hs3.cell (b:=w.heap.size) (o:=1) (by omega) (by omega)).trans g1
  have g2:=(hs3.cell (b:=w.heap.size) (o:=2) (by omega) (by omega)).trans g2
  have g3:=(hs3.cell (b:=w.heap.size) (o:=3) (by omega) (by omega)).trans g3
  have gz: ∀ j,w3.frozen? ⟨w.heap.size,j,none⟩=false:=fun j=>(hs3.frozen (by omega) (by omega)).trans (gz j)
  have HX3:=zh (Good.wide (R:=rX) (S':=fun k=>w.heap.size<k) hx (fun k _ h=>by omega))
  have H3:=zh h3
  have S3:=zh hs3
  have Hg3:=zh hg3
  clear h3 hs3 hg3 hx
  go_wp2_with fail
  obtain ⟨m0,m1,m2,m3,ms⟩:=cells4 (w:=w3) g0 g1 g2 g3 (.int .i64 x.kind) (.int .i64 x.n) (.string x.s) (.slice ax x.args.length cx)
  generalize hWW:(((w3.setCell ⟨w.heap.size,0,none⟩ (.int .i64 x.kind)).setCell ⟨w.heap.size,1,none⟩ (.int .i64 x.n)).setCell ⟨w.heap.size,2,none⟩ (.string x.s)).setCell ⟨w.heap.size,3,none⟩ (.slice ax x.args.length cx)=WW at *
  refine bodyPost_ret (v:= .agg #[.int .i64 x.kind, .int .i64 x.n, .string x.s, .slice ax x.args.length cx]) (by simp [results,Tryd.results90,go_sem,m0,m1,m2,m3]) rfl ⟨_,x,st3,rfl,Good.keep (R:=rX) ⟨ms.size,fun k hk hS=>ms.block k hk (by omega)⟩ (fun k hk hS=>by omega) HX3.out,(H3.out).since ms (by omega) (by omega),(HsP.out.trans S3.out).then_new ms (fun k e=>Or.inr (by omega)),?_⟩
  rw [show Res=wordR (exprR d) ⟨tk,ts,tn,tp⟩ (T.drop st'.i) by rw [Hres.out];unfold primR;rw [←seeR_head H0.out,Ht.out];rw [Hdrop.out];exact (if_neg E1.out).trans ((if_neg E2.out).trans ((if_neg E3.out).trans ((if_neg (fun e=>by have:=e.1.symm.trans E6.out;cases this)).trans (if_neg (fun e=>e E6.out)))))];exact Hg3.out
 ·
  have f6:(tk !=119)=true:=by simp [e6]
  have E6:=zh e6
  have E4:=zh e4
  clear e6 hE hW
  by_cases e7:tk=109
  ·
   have f4:(tk==109)=true:=by simp [e7]
   have f5:(ts.toList==[40])=false:=by
    have:=tokS_ne (x:=ts) (y:=⟨#[40]⟩) (fun e=>e4 ⟨e7,e⟩)
    simpa using this
   have f6': ¬ts.toList=[40]:=by simpa using f5
   clear e7 e4
   go_wp2_with fail
   refine (readWrong_any HA1.out tp 4 (by decide)).mono ?_
   rintro en w2 ⟨rfl,h2,hs2⟩
   have g0:=(hs2.cell (b:=w.heap.size) (o:=0) (by omega) (by omega)).trans g0
   have g1:=(hs2.cell (b:=w.heap.size) (o:=1) (by omega) (by omega)).trans g1
   have g2:=(hs2.cell (b:=w.heap.size) (o:=2) (by omega) (by omega)).trans g2
   have g3:=(hs2.cell (b:=w.heap.size) (o:=3) (by omega) (by omega)).trans g3
   have gz: ∀ j,w2.frozen? ⟨w.heap.size,j,none⟩=false:=fun j=>(hs2.frozen (by omega) (by omega)).trans (gz j)
   have hsz2:=hs2.size
   have H2:=zh h2
   have Hs2:=zh hs2
   clear h2 hs2
   go_wp2_with fail
   obtain ⟨m0,m1,m2,m3,ms⟩:=cells4 (w:=w2) g0 g1 g2 g3 (.int .i64 0) (.int .i64 0) (.string ⟨#[]⟩) (.slice none 0 0)
   generalize hWW:(((w2.setCell ⟨w.heap.size,0,none⟩ (.int .i64 0)).setCell ⟨w.heap.size,1,none⟩ (.int .i64 0)).setCell ⟨w.heap.size,2,none⟩ (.string ⟨#[]⟩)).setCell ⟨w.heap.size,3,none⟩ (.slice none 0 0)=WW at *
   refine bodyPost_ret (v:= .agg #[.int .i64 0, .int .i64 0, .string ⟨#[]⟩, .slice none 0 0]) (by simp [results,Tryd.results90,go_sem,m0,m1,m2,m3]) rfl ⟨_, .mk 0 0 ⟨#[]⟩ [],_,rfl,rX_zero _ _ 0 0 ⟨#[]⟩ (ini rfl) (ini rfl) (by decide),(H2.out).since ms (by omega) (by omega),(HsP.out.trans Hs2.out).then_new ms (fun k e=>Or.inr (by omega)),?_⟩
   rw [show Res= .error (tp,4) by rw [Hres.out];unfold primR;rw [←seeR_head H0.out,Ht.out];exact (if_neg E1.out).trans ((if_neg E2.out).trans ((if_neg E3.out).trans ((if_neg E4.out).trans (if_pos E6.out)))),RSt.bad,if_pos Hd'.out.1]
   exact ⟨rfl,rfl,by decide⟩
  ·
   have f4:(tk==109)=false:=by simp [e7]
   clear e7 e4
   go_wp2_with fail
   refine (readWrong_any HA1.out tp 4 (by decide)).mono ?_
   rintro en w2 ⟨rfl,h2,hs2⟩
   have g0:=(hs2.cell (b:=w.heap.size) (o:=0) (by omega) (by omega)).trans g0
   have g1:=(hs2.cell (b:=w.heap.size) (o:=1) (by omega) (by omega)).trans g1
   have g2:=(hs2.cell (b:=w.heap.size) (o:=2) (by omega) (by omega)).trans g2
   have g3:=(hs2.cell (b:=w.heap.size) (o:=3) (by omega) (by omega)).trans g3
   have gz: ∀ j,w2.frozen? ⟨w.heap.size,j,none⟩=false:=fun j=>(hs2.frozen (by omega) (by omega)).trans (gz j)
   have hsz2:=hs2.size
   have H2:=zh h2
   have Hs2:=zh hs2
   clear h2 hs2
   go_wp2_with fail
   obtain ⟨m0,m1,m2,m3,ms⟩:=cells4 (w:=w2) g0 g1 g2 g3 (.int .i64 0) (.int .i64 0) (.string ⟨#[]⟩) (.slice none 0 0)
   generalize hWW:(((w2.setCell ⟨w.heap.size,0,none⟩ (.int .i64 0)).setCell ⟨w.heap.size,1,none⟩ (.int .i64 0)).setCell ⟨w.heap.size,2,none⟩ (.string ⟨#[]⟩)).setCell ⟨w.heap.size,3,none⟩ (.slice none 0 0)=WW at *
   refine bodyPost_ret (v:= .agg #[.int .i64 0, .int .i64 0, .string ⟨#[]⟩, .slice none 0 0]) (by simp [results,Tryd.results90,go_sem,m0,m1,m2,m3]) rfl ⟨_, .mk 0 0 ⟨#[]⟩ [],_,rfl,rX_zero _ _ 0 0 ⟨#[]⟩ (ini rfl) (ini rfl) (by decide),(H2.out).since ms (by omega) (by omega),(HsP.out.trans Hs2.out).then_new ms (fun k e=>Or.inr (by omega)),?_⟩
   rw [show Res= .error (tp,4) by rw [Hres.out];unfold primR;rw [←seeR_head H0.out,Ht.out];exact (if_neg E1.out).trans ((if_neg E2.out).trans ((if_neg E3.out).trans ((if_neg E4.out).trans (if_pos E6.out)))),RSt.bad,if_pos Hd'.out.1]
   exact ⟨rfl,rfl,by decide⟩
end Go.Proofs.YtkopjgnjflhkeaaDoor
namespace Go.Pst
open Go.RowKit Go.MapKept Go.ChangeMaps
set_option linter.unusedVariables false
set_option linter.unusedSimpArgs false
set_option linter.unusedSectionVars false
class MKey (κ:Type) where
 val:κ→Value
 desc:TypeDesc
 same: ∀ [DecidableEq κ] (a b:κ),Instr.sameNow desc (val a) (val b)=some (decide (a=b))
 isKey: ∀ a,IsKey desc (val a)
 bits: ∀ a,Instr.sameBits 10000 (val a) (val a)=true
 inj: ∀ a b,val a=val b→a=b
instance:MKey Int where
 val:=Value.int .i64
 desc:= .int .i64
 same:=fun a b=>by simp only [Instr.sameNow,if_true];congr 1;by_cases h:a=b<;>simp [h]
 isKey:=fun a=>by simp [IsKey]
 bits:=fun a=>by unfold Instr.sameBits;simp
 inj:=fun a b h=>by simpa using h
instance:MKey ByteArray where
 val:=Value.string
 desc:= .string
 same:=fun a b=>by
  simp only [Instr.sameNow];congr 1
  by_cases h:a=b
  ·
   simp [h,(bytes_beq b b).2 rfl]
  ·
   simp only [h,decide_false]
   cases hb:(a==b) with
   |false=>rfl
   |true=>exact absurd ((bytes_beq a b).1 hb) h
 isKey:=fun a=>by simp [IsKey]
 bits:=fun a=>by unfold Instr.sameBits;exact (bytes_beq a a).2 rfl
 inj:=fun a b h=>by simpa using h
variable {κ:Type} [DecidableEq κ] [MKey κ]
abbrev IMap (κ:Type):=List (κ × Value)
def entI (m:IMap κ):List (Value × Value):=m.map fun p=>(MKey.val p.1,p.2)
def MapI (w:World) (b:Nat) (m:IMap κ):Prop:=
 ∃ es clock,w.heap[b]?=some (.map es clock)∧Stamped es clock∧es.toList.map (fun e=>(e.key,e.val))=entI m
def lookI:IMap κ→κ→Option Value
 |[],_=>none
 |(k,v)::r,x=>if k=x then some v else lookI r x
def putI:IMap κ→κ→Value→IMap κ
 |[],x,v=>[(x,v)]
 |(k,u)::r,x,v=>if k=x then (k,v)::r else (k,u)::putI r x v
def delI:IMap κ→κ→IMap κ
 |[],_=>[]
 |(k,u)::r,x=>if k=x then r else (k,u)::delI r x
theorem lookI_put_other (m:IMap κ) {x y:κ} (v:Value) (h:x≠y):lookI (putI m x v) y=lookI m y:=by
 induction m with
 |nil=>simp [putI,lookI,h]
 |cons p r ih=>
  obtain ⟨k,u⟩:=p
  unfold putI
  by_cases hk:k=x
  ·
   subst hk;simp [lookI,h]
  ·
   by_cases hy:k=y
   ·
    subst hy;simp [hk,lookI]
   ·
    simp [hk,lookI,hy,ih]
theorem MapI.lt {w:World} {b:Nat} {m:IMap κ} (h:MapI w b m):b<w.heap.size:=by
 obtain ⟨es,clock,hb,_⟩:=h
 exact (Array.getElem?_eq_some_iff.1 hb).1
theorem MapI.keys {w:World} {b:Nat} {m:IMap κ} (h:MapI w b m):(m.map (·.1)).Nodup:=by
 obtain ⟨es,clock,_,⟨_,_,h3⟩,hm⟩:=h
 have e:es.toList.map (·.key)=(m.map (·.1)).map MKey.val:=by
  have:=congrArg (List.map Prod.fst) hm
  simpa [entI,Function.comp_def] using this
 rw [e] at h3
 rw [List.nodup_iff_pairwise_ne] at h3 ⊢
 rw [List.pairwise_map] at h3
 exact h3.imp fun hne e=>hne (by rw [e])
theorem MapI.heap {w w':World} {b:Nat} {m:IMap κ} (h:MapI w b m) (e:w'.heap[b]?=w.heap[b]?):MapI w' b m:=by
 obtain ⟨es,clock,hb,r⟩:=h
 exact ⟨es,clock,e.trans hb,r⟩
theorem MapI.kept {w w':World} {b:Nat} {m:IMap κ} {row:Option Nat} (h:MapI w b m) (hg:w.grownBy w' row) (hne:some b≠row):MapI w' b m:=
 h.heap (hg.block b h.lt hne)
theorem MapI.alloc {w:World} {b:Nat} {m:IMap κ} (h:MapI w b m) (o:Obj):MapI (w.alloc o) b m:=h.kept (World.grownBy_alloc w o none) (by simp)
theorem MapI.drew {w:World} {b:Nat} {m:IMap κ} (h:MapI w b m):MapI w.drew b m:=h
theorem MapI.below {w w':World} {B b:Nat} {m:IMap κ} (h:MapI w b m) (hb:Below B w w') (hlt:b<B):MapI w' b m:=h.heap (hb.block b hlt)
theorem MapI.setCell {w:World} {b:Nat} {m:IMap κ} (h:MapI w b m) {a:Addr} (ha:b≠a.block) (u:Value):MapI (w.setCell a u) b m:=
 h.heap (Below.heap_setCell _ _ _ _ ha)
theorem MapI.made (κ:Type) [DecidableEq κ] [MKey κ] (w:World):MapI (w.alloc (.map #[] 0)) w.heap.size ([]:IMap κ):=
 ⟨#[],0,(MapKept.heap_alloc w _).1,stamped_empty 0,rfl⟩
section
variable {P:Program} {w:World} {b:Nat} {m:IMap κ} {t kt et:TypeId}
theorem find_I: ∀ (l:List MapEntry) (m:IMap κ) (i:Nat) (x:κ),l.map (fun e=>(e.key,e.val))=entI m→
 (Instr.findNow (MKey.desc κ) (MKey.val x) l i=some none∧lookI m x=none∧delI m x=m∧(∀ v,putI m x v=m++[(x,v)])∧(∀ e∈l,e.key≠MKey.val x))∨
 ∃ j e v,Instr.findNow (MKey.desc κ) (MKey.val x) l i=some (some (i+j,v))∧lookI m x=some v∧l[j]?=some e∧e.key=MKey.val x∧e.val=v∧delI m x=m.eraseIdx j∧(∀ u,putI m x u=m.modify j fun p=>(p.1,u))
 |[],m,i,x,h=>by
  have:m=[]:=by cases m with|nil=>rfl|cons p r=>simp [entI] at h
  subst this
  exact .inl ⟨rfl,rfl,rfl,fun _=>rfl,by simp⟩
 |e::l,[],i,x,h=>by simp [entI] at h
 |e::l,(k,u)::r,i,x,h=>by
  simp only [List.map_cons,entI,List.cons.injEq,Prod.mk.injEq] at h
  obtain ⟨⟨hk,hu⟩,hr⟩:=h
  by_cases hx:k=x
  ·
   subst hx
   exact .inr ⟨0,e,u,by simp [Instr.findNow,MKey.same,hk,hu],by simp [lookI],rfl,hk,hu,by simp [delI],fun v=>by simp [putI]⟩
  ·
   have hx':decide (x=k)=false:=by simpa using fun e=>hx e.symm
   rcases find_I l r (i+1) x hr with ⟨h1,h2,h3,h4,h5⟩|⟨j,e',v,h1,h2,h3,h4,h5,h6,h7⟩
   ·
    refine .inl ⟨by simp [Instr.findNow,MKey.same,hk,hx',h1],by simp [lookI,hx,h2],by simp [delI,hx,h3],fun v=>by simp [putI,hx,h4],?_⟩
    intro y hy
    rcases List.mem_cons.1 hy with rfl|hy
    ·
     rw [hk];exact fun e=>hx (MKey.inj _ _ e)
    ·
     exact h5 y hy
   ·
    exact .inr ⟨j+1,e',v,by simp [Instr.findNow,MKey.same,hk,hx',h1];omega,by simp [lookI,hx,h2],by simpa using h3,h4,h5,by simp [delI,hx,h6],fun v=>by simp [putI,hx,h7]⟩
theorem isKey_int (x:κ):IsKey (MKey.desc κ) (MKey.val x):=MKey.isKey x
theorem MapI.lookup (h:MapI w b m) (ht:P.underlying t=some (.map kt et)) (hk:P.underlying kt=some (MKey.desc κ)) {z:Value} (hz:(zeroValue et).run P w= .ok z w) (x:κ) (ok:Bool):
 (Instr.lookup t (.map (some b)) (MKey.val x) ok).run P w= .ok (if ok then .tuple #[(lookI m x).getD z, .bool (lookI m x).isSome] else (lookI m x).getD z) w:=by
 obtain ⟨es,clock,hb,hs,hm⟩:=h
 unfold Instr.lookup
 rcases find_I es.toList m 0 x hm with ⟨h1,h2,_⟩|⟨j,e,v,h1,h2,_⟩
 ·
  simp [run_underlying ht,Result.andThen,MapKept.run_getObj_map hb,MapKept.run_checkKey hk (isKey_int x),run_findKey hk h1,hz,h2]
 ·
  simp [run_underlying ht,Result.andThen,MapKept.run_getObj_map hb,MapKept.run_checkKey hk (isKey_int x),run_findKey hk h1,h2]
theorem sameBits_int (x:κ):Instr.sameBits 10000 (MKey.val x) (MKey.val x)=true:=MKey.bits x
theorem run_keyThatStays (x:κ):(Instr.keyThatStays (MKey.val x) (MKey.val x)).run P w= .ok (MKey.val x) w:=by
 unfold Instr.keyThatStays
 rw [sameBits_int]
 rfl
theorem MapI.update (h:MapI w b m) (ht:P.underlying t=some (.map kt et)) (hk:P.underlying kt=some (MKey.desc κ)) (x:κ) (v:Value):
 ∃ w',(Instr.mapUpdate t (.map (some b)) (MKey.val x) v).run P w= .ok () w'∧MapI w' b (putI m x v)∧w.grownBy w' (some b):=by
 obtain ⟨es,clock,hb,hs,hm⟩:=h
 have grow: ∀ o,w.grownBy {w with heap:=w.heap.setIfInBounds b o} (some b):=fun o=>
  ⟨rfl,rfl,rfl,by simp,fun i _ hi=>(heap_set (o':=o) hb).2 i (fun e=>hi (by rw [e]))⟩
 unfold Instr.mapUpdate
 rcases find_I es.toList m 0 x hm with ⟨h1,h2,_,h4,h5⟩|⟨j,e,u,h1,h2,h3,h4,h5,_,h7⟩
 ·
  refine ⟨{w with heap:=w.heap.setIfInBounds b (.map (es.push {key:=MKey.val x,val:=v,born:=clock}) (clock+1))},?_,⟨_,_,(heap_set hb).1,?_,?_⟩,grow _⟩
  ·
   simp [run_underlying ht,Result.andThen,MapKept.run_getObj_map hb,MapKept.run_checkKey hk (isKey_int x),run_findKey hk h1,run_setObj_map _ hb]
  ·
   obtain ⟨s1,s2,s3⟩:=hs
   refine ⟨?_,?_,?_⟩
   ·
    intro y hy
    simp only [Array.toList_push,List.mem_append,List.mem_singleton] at hy
    rcases hy with hy|rfl
    ·
     exact Nat.lt_succ_of_lt (s1 y hy)
    ·
     exact Nat.lt_succ_self _
   ·
    simp only [Array.toList_push,List.map_append,List.map_cons,List.map_nil]
    rw [List.nodup_append]
    refine ⟨s2,by simp,fun a ha c hc e=>?_⟩
    obtain ⟨y,hy,rfl⟩:=List.mem_map.1 ha
    simp only [List.mem_singleton] at hc
    have:=s1 y hy
    omega
   ·
    simp only [Array.toList_push,List.map_append,List.map_cons,List.map_nil]
    rw [List.nodup_append]
    refine ⟨s3,by simp,fun a ha c hc e=>?_⟩
    obtain ⟨y,hy,rfl⟩:=List.mem_map.1 ha
    simp only [List.mem_singleton] at hc
    exact h5 y hy (e.trans hc)
  ·
   rw [h4]
   simp [hm,entI]
 ·
  have hj:j<es.size:=by
   have:=(List.getElem?_eq_some_iff.1 h3).1
   simpa using this
  have hej:es[j]?=some e:=by simpa using h3
  refine ⟨{w with heap:=w.heap.setIfInBounds b (.map (es.modify j fun e=>{e with key:=MKey.val x,val:=v}) clock)},?_,⟨_,_,(heap_set hb).1,?_,?_⟩,grow _⟩
  ·
   simp [run_underlying ht,Result.andThen,MapKept.run_getObj_map hb,MapKept.run_checkKey hk (isKey_int x),run_findKey hk h1,hej,h4,run_keyThatStays,run_setObj_map _ hb]
  ·
   obtain ⟨s1,s2,s3⟩:=hs
   have hl:(es.modify j fun e=>{e with key:=MKey.val x,val:=v}).toList=es.toList.modify j fun e=>{e with key:=MKey.val x,val:=v}:=by simp
   have keys: ∀ (f:MapEntry→Value) (g:MapEntry→Nat) (l:List MapEntry) (j:Nat),(l[j]?.map (·.key)=some (MKey.val x))→(l.modify j fun e=>{e with key:=MKey.val x,val:=v}).map (·.key)=l.map (·.key)∧(l.modify j fun e=>{e with key:=MKey.val x,val:=v}).map (·.born)=l.map (·.born):=by
    intro f g l
    induction l with
    |nil=>intro j h;simp at h
    |cons y r ih=>
     intro j h
     rcases j with _|j
     ·
      simp at h ⊢;exact h.symm
     ·
      simp at h ⊢
      exact ih j (by simpa using h)
   obtain ⟨k1,k2⟩:=keys (·.key) (·.born) es.toList j (by rw [h3];simp [h4])
   refine ⟨?_,by rw [hl,k2];exact s2,by rw [hl,k1];exact s3⟩
   intro y hy
   rw [hl] at hy
   have:y.born∈(es.toList.modify j fun e=>{e with key:=MKey.val x,val:=v}).map (·.born):=List.mem_map.2 ⟨y,hy,rfl⟩
   rw [k2] at this
   obtain ⟨z,hz,hzb⟩:=List.mem_map.1 this
   rw [←hzb]
   exact s1 z hz
  ·
   have gen: ∀ (l:List MapEntry) (m:IMap κ) (j:Nat),l.map (fun e=>(e.key,e.val))=entI m→(l[j]?.map (·.key)=some (MKey.val x))→(l.modify j fun e=>{e with key:=MKey.val x,val:=v}).map (fun e=>(e.key,e.val))=entI (m.modify j fun p=>(p.1,v)):=by
    intro l
    induction l with
    |nil=>intro m j _ h;simp at h
    |cons y r ih=>
     intro m j hm h
     cases m with
     |nil=>simp [entI] at hm
     |cons p q=>
      simp only [List.map_cons,entI,List.cons.injEq,Prod.mk.injEq] at hm
      rcases j with _|j
      ·
       simp at h
       simp [entI,hm.2,←hm.1.1,h]
      ·
       simp at h
       have:=ih q j hm.2 (by simpa using h)
       simp [entI,hm.1] at this ⊢
       exact this
   rw [h7]
   have hl:(es.modify j fun e=>{e with key:=MKey.val x,val:=v}).toList=es.toList.modify j fun e=>{e with key:=MKey.val x,val:=v}:=by simp
   rw [hl]
   exact gen _ _ _ hm (by rw [h3];simp [h4])
theorem wpList_insertI {ops:Array Oper} {rest:List Oper} {o:Oper} {a:Act} {Q:Exit→Act→World→Prop}
 (hg:o.guard=none) (mo xo vo:Operand) (t:TypeId) (hop:o.op=Op.insert t mo xo vo) {kt et:TypeId} (ht:P.underlying t=some (.map kt et)) (hk:P.underlying kt=some (MKey.desc κ))
 (b:Nat) (m:IMap κ) (hm:a.eval mo= .map (some b)) (h:MapI w b m) (x:κ) (v:Value) (hx:a.eval xo=MKey.val x) (hv:a.eval vo=v)
 (hK: ∀ w',MapI w' b (putI m x v)→w.grownBy w' (some b)→wpList P ops Q rest (a.put o.dst undef) w'):wpList P ops Q (o::rest) a w:=by
 refine wpList_plain hg fun K' hK'=>?_
 obtain ⟨w',hrun,r1,r2⟩:=h.update ht hk x v
 unfold Oper.wp
 simp [execOp,hop,hm,hx,hv,hrun,Result.andThen]
 exact hK' _ _ (hK w' r1 r2)
end
end Go.Pst
namespace Go.Proofs.YtkopjgnjflhkeaaDoor
open Go.RowKit Go.Pst
set_option linter.unusedVariables false
set_option linter.unusedSimpArgs false
def countsM:IMap ByteArray:=putI (putI (putI (putI [] ⟨#[108,101,110]⟩ (.agg #[.int .i64 8, .int .i64 1])) ⟨#[97,112,112,101,110,100]⟩ (.agg #[.int .i64 10, .int .i64 2])) ⟨#[115,108,105,99,101]⟩ (.agg #[.int .i64 11, .int .i64 (-1)])) ⟨#[109,97,112]⟩ (.agg #[.int .i64 12, .int .i64 0])
theorem lookI_countsM (y:ByteArray):lookI countsM y=(countR y).map fun p=> .agg #[.int .i64 p.1, .int .i64 p.2]:=by
 unfold countsM countR
 by_cases h1:y=⟨#[108,101,110]⟩
 ·
  subst h1;rfl
 by_cases h2:y=⟨#[97,112,112,101,110,100]⟩
 ·
  subst h2;rfl
 by_cases h3:y=⟨#[115,108,105,99,101]⟩
 ·
  subst h3;rfl
 by_cases h4:y=⟨#[109,97,112]⟩
 ·
  subst h4;rfl
 rw [if_neg h1,if_neg h2,if_neg h3,if_neg h4,lookI_put_other _ _ (fun e=>h4 e.symm),lookI_put_other _ _ (fun e=>h3 e.symm),lookI_put_other _ _ (fun e=>h2 e.symm),lookI_put_other _ _ (fun e=>h1 e.symm)]
 rfl
set_option maxRecDepth 10000 in
set_option maxHeartbeats 4000000 in
theorem readCounts_any (w:World):
 Calls Tryd.prog 93 #[] w fun e w'=>e= .returned (.map (some w.heap.size))∧MapI w' w.heap.size countsM∧Since (fun _=>False) w w':=by
 have hmk:= @run_makeMap Tryd.prog
 have hm:MapI (w.alloc (.map #[] 0)) w.heap.size ([]:IMap ByteArray):=MapI.made ByteArray w
 have hb:Below w.heap.size w (w.alloc (.map #[] 0)):=(Below.refl _ _).alloc (Nat.le_refl _) _
 have hlt:w.heap.size<(w.alloc (.map #[] 0)).heap.size:=by simp
 go_enter Tryd.func93,Tryd.ntmps93
 go_wp2_with (first|(refine wpList_insertI (κ:=ByteArray) rfl _ _ _ 138 rfl Tryd.underlying138 Tryd.underlying9 _ _ rfl hm _ _ rfl rfl ?_;clear hm;intro w1 hm hgr;replace hb:=hb.grown hgr (Nat.le_of_lt hlt) (fun k hk=>by cases hk;exact Nat.le_refl _);replace hlt:=Nat.lt_of_lt_of_le hlt hgr.size;clear hgr))
 go_ret
 exact ⟨rfl,hm,⟨hb.os,hb.tape,hb.output,hb.size,fun k hk _=>hb.block k hk⟩⟩
end Go.Proofs.YtkopjgnjflhkeaaDoor

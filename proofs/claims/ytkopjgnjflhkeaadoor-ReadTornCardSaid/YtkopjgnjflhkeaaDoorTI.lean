import Derived.Test.YtkopjgnjflhkeaaDoorTA
import Derived.Test.YtkopjgnjflhkeaaDoorTD
import Derived.Test.YtkopjgnjflhkeaaDoorTH
namespace Go.Pst
open Go.RowKit
structure PRaw where
 kind:Int
 a:Int
 b:Int
 c:Int
def rRaw:Rep PRaw:=fun _ _ cs x=>cs=[.int .i64 x.kind, .int .i64 x.a, .int .i64 x.b, .int .i64 x.c]∧InI x.kind∧InI x.a∧InI x.b∧InI x.c
instance:Good rRaw:=⟨fun _ _ h=>h⟩
abbrev rRaws:Rep (List PRaw):=rSlice 4 rRaw
theorem rRaws_val {S:Nat→Prop} {w:World} {v:Value} {l:List PRaw} (h:rRaws S w [v] l):
 ∃ a cap,v= .slice a l.length cap∧l.length≤cap∧cap≤maxLen∧
 ∀ i (h:i<l.length),∃ b off,a=some ⟨b,off,none⟩∧S b∧b<w.heap.size∧
  w.cell? ⟨b,off+i*4,none⟩=some (.int .i64 l[i].kind)∧w.cell? ⟨b,off+i*4+1,none⟩=some (.int .i64 l[i].a)∧w.cell? ⟨b,off+i*4+2,none⟩=some (.int .i64 l[i].b)∧w.cell? ⟨b,off+i*4+3,none⟩=some (.int .i64 l[i].c)∧
  InI l[i].kind∧InI l[i].a∧InI l[i].b∧InI l[i].c:=by
 obtain ⟨a,cap,h1,h2,h3,h4⟩:=rSlice_val h
 refine ⟨a,cap,h1,h2,h3,fun i hi=>?_⟩
 obtain ⟨b,off,es,ha,hS,hb,hl,hc,rfl,hI⟩:=h4 i hi
 exact ⟨b,off,ha,hS,hb,hc 0 (by decide),hc 1 (by decide),hc 2 (by decide),hc 3 (by decide),hI⟩
section
variable {H:Type} {enc:TypeId × Value→H} {P:Program} {w:World}
theorem list4 {α:Type} {l:List α} (h:l.length=4): ∃ a b c d,l=[a,b,c,d]:=by
 match l,h with
 |[a,b,c,d],_=>exact ⟨a,b,c,d,rfl⟩
theorem opens_raw {t tint:TypeId} (ht:P.underlying t=some (.struct #[⟨"Kind",tint,0,false,"","",0⟩,⟨"A",tint,1,false,"","",8⟩,⟨"B",tint,2,false,"","",16⟩,⟨"C",tint,3,false,"","",24⟩]))
 (ht4:P.cellsOf t=4) (c1:P.cellsOf tint=1) (hint:P.underlying tint=some (.int .i64)):Opens enc P w t rRaw (fun _=>True):=by
 intro fuel cs x h hw
 obtain ⟨xs,n,_,rfl,hcl,hxl,hf⟩:=DataW.trod_struct ht h
 rw [ht4] at hcl
 obtain ⟨a0,a1,a2,a3,rfl⟩:=list4 hcl
 obtain ⟨x0,x1,x2,x3,rfl⟩:=list4 (l:=xs) (by simpa using hxl)
 have f0:=hf 0 _ rfl
 have f1:=hf 1 _ rfl
 have f2:=hf 2 _ rfl
 have f3:=hf 3 _ rfl
 simp [c1] at f0 f1 f2 f3
 have hw': ∀ n∈DataW.weightsEach P [tint,tint,tint,tint] [x0.1,x1.1,x2.1,x3.1],n≤reachBytes:=by
  intro n hn
  refine hw n ?_
  simpa [DataW.weights,ht] using hn
 obtain ⟨y0,⟨e0,i0⟩,_⟩:=opens_int (enc:=enc) (w:=w) hint _ _ _ f0 (weights_part (j:=0) rfl rfl hw')
 obtain ⟨y1,⟨e1,i1⟩,_⟩:=opens_int (enc:=enc) (w:=w) hint _ _ _ f1 (weights_part (j:=1) rfl rfl hw')
 obtain ⟨y2,⟨e2,i2⟩,_⟩:=opens_int (enc:=enc) (w:=w) hint _ _ _ f2 (weights_part (j:=2) rfl rfl hw')
 obtain ⟨y3,⟨e3,i3⟩,_⟩:=opens_int (enc:=enc) (w:=w) hint _ _ _ f3 (weights_part (j:=3) rfl rfl hw')
 simp only [List.cons.injEq,and_true] at e0 e1 e2 e3
 subst e0 e1 e2 e3
 exact ⟨⟨y0,y1,y2,y3⟩,⟨rfl,i0,i1,i2,i3⟩,trivial⟩
end
end Go.Pst
namespace Go.Proofs.YtkopjgnjflhkeaaDoor
open Go.RowKit Go.Pst
set_option linter.unusedVariables false
def pickN (n:Int) (m:Nat):Nat:=(pickF n m).toNat
def pickS (l:List ByteArray) (n:Int):ByteArray:=l.getD (pickN n l.length) ⟨#[]⟩
def itoaB (n:Nat):ByteArray:=⟨(Lib.itoa (n:Int)).toArray⟩
abbrev BD:=List PRaw→ByteArray × List PRaw
def firstB:List PRaw→PRaw
 |[]=>⟨0,0,0,0⟩
 |r::_=>r
def rowOps:List ByteArray:=[(⟨#[43]⟩:ByteArray),(⟨#[45]⟩:ByteArray),(⟨#[42]⟩:ByteArray)]
def rowDiv:List ByteArray:=[(⟨#[47]⟩:ByteArray),(⟨#[37]⟩:ByteArray)]
def rowBy:List ByteArray:=[(⟨#[51]⟩:ByteArray),(⟨#[50]⟩:ByteArray),(⟨#[120]⟩:ByteArray),(⟨#[40,121,32,43,32,50,48,41]⟩:ByteArray)]
def rowL:List ByteArray:=[(⟨#[48]⟩:ByteArray),(⟨#[49]⟩:ByteArray),(⟨#[120]⟩:ByteArray),(⟨#[108,101,110,40,108,41,32,45,32,49]⟩:ByteArray)]
def rowS:List ByteArray:=[(⟨#[48]⟩:ByteArray),(⟨#[120]⟩:ByteArray),(⟨#[108,101,110,40,115,41,32,45,32,49]⟩:ByteArray)]
def rowTx:List ByteArray:=[(⟨#[115]⟩:ByteArray),(⟨#[34,34]⟩:ByteArray),(⟨#[34,97,98,34]⟩:ByteArray),(⟨#[34,195,169,34]⟩:ByteArray),(⟨#[34,92,110,92,34,34]⟩:ByteArray),(⟨#[116]⟩:ByteArray),(⟨#[34,230,151,165,120,34]⟩:ByteArray)]
def rowK:List ByteArray:=[(⟨#[108]⟩:ByteArray),(⟨#[107]⟩:ByteArray),(⟨#[115,108,105,99,101,40,41]⟩:ByteArray)]
def rowC:List ByteArray:=[(⟨#[61,61]⟩:ByteArray),(⟨#[33,61]⟩:ByteArray),(⟨#[60]⟩:ByteArray),(⟨#[60,61]⟩:ByteArray),(⟨#[62]⟩:ByteArray),(⟨#[62,61]⟩:ByteArray)]
def rowB:List ByteArray:=[(⟨#[98]⟩:ByteArray),(⟨#[116,114,117,101]⟩:ByteArray),(⟨#[102,97,108,115,101]⟩:ByteArray),(⟨#[40,120,32,60,32,121,41]⟩:ByteArray)]
def rowXY:List ByteArray:=[(⟨#[120]⟩:ByteArray),(⟨#[121]⟩:ByteArray)]
def rowLK:List ByteArray:=[(⟨#[108]⟩:ByteArray),(⟨#[107]⟩:ByteArray)]
def row0x1:List ByteArray:=[(⟨#[48]⟩:ByteArray),(⟨#[120]⟩:ByteArray),(⟨#[49]⟩:ByteArray)]
def rowBr:List ByteArray:=[(⟨#[98,114,101,97,107]⟩:ByteArray),(⟨#[99,111,110,116,105,110,117,101]⟩:ByteArray)]
def rowP:List ByteArray:=[(⟨#[120]⟩:ByteArray),(⟨#[121]⟩:ByteArray),(⟨#[115]⟩:ByteArray),(⟨#[98]⟩:ByteArray),(⟨#[108,101,110,40,108,41]⟩:ByteArray),(⟨#[108,101,110,40,109,41]⟩:ByteArray)]
def numL (r:PRaw):ByteArray:=pickS [itoaB (pickN r.a 12),(⟨#[120]⟩:ByteArray),(⟨#[121]⟩:ByteArray),(⟨#[120]⟩:ByteArray),(⟨#[108,101,110,40,115,41]⟩:ByteArray),(⟨#[108,101,110,40,108,41]⟩:ByteArray)] r.kind
def numG (main:Bool) (sub txt lst:BD):BD:=fun l0=>
 let r:=firstB l0
 let l:=l0.tail
 if l=[] then (numL r,l)
 else
  let k:=pickN r.kind 14
  if k<3 then (((((((⟨#[40]⟩:ByteArray)++(sub l).1)++(⟨#[32]⟩:ByteArray))++pickS rowOps r.a)++(⟨#[32]⟩:ByteArray))++(sub (sub l).2).1)++(⟨#[41]⟩:ByteArray),(sub (sub l).2).2)
  else if k=3 then (((((sub l).1++(⟨#[32]⟩:ByteArray))++pickS rowDiv r.a)++(⟨#[32]⟩:ByteArray))++pickS rowBy r.b,(sub l).2)
  else if k=4 then (((⟨#[108,91]⟩:ByteArray)++pickS rowL r.a)++(⟨#[93]⟩:ByteArray),l)
  else if k=5 then (((⟨#[109,91]⟩:ByteArray)++(sub l).1)++(⟨#[93]⟩:ByteArray),(sub l).2)
  else if k=6 then (((⟨#[115,91]⟩:ByteArray)++pickS rowS r.a)++(⟨#[93]⟩:ByteArray),l)
  else if k=7 then (((⟨#[108,101,110,40]⟩:ByteArray)++pickS [(txt l).1,(⟨#[108]⟩:ByteArray),(⟨#[109]⟩:ByteArray),(lst (txt l).2).1] r.a)++(⟨#[41]⟩:ByteArray),(lst (txt l).2).2)
  else if k=8 then (if main=true then (((((⟨#[102,40]⟩:ByteArray)++(sub l).1)++(⟨#[44,32]⟩:ByteArray))++(txt (sub l).2).1)++(⟨#[41]⟩:ByteArray),(txt (sub l).2).2) else ((⟨#[45]⟩:ByteArray)++(sub l).1,(sub l).2))
  else if k=9 then (((⟨#[40,45]⟩:ByteArray)++(sub l).1)++(⟨#[41]⟩:ByteArray),(sub l).2)
  else (pickS [(⟨#[120]⟩:ByteArray),(⟨#[121]⟩:ByteArray),itoaB (pickN r.a 300),(⟨#[108,101,110,40,109,41]⟩:ByteArray)] r.b,l)
def textL (r:PRaw):ByteArray:=pickS rowTx r.a
def textB:Nat→BD
 |0,l0=>(textL (firstB l0),l0.tail)
 |d+1,l0=>if pickN (firstB l0).kind 3=0 then (textL (firstB l0),l0.tail)
  else (((((⟨#[40]⟩:ByteArray)++(textB d l0.tail).1)++(⟨#[32,43,32]⟩:ByteArray))++(textB d (textB d l0.tail).2).1)++(⟨#[41]⟩:ByteArray),(textB d (textB d l0.tail).2).2)
def listG (num:BD):BD:=fun l0=>
 let r:=firstB l0
 let l:=l0.tail
 let k:=pickN r.kind 4
 if k=0 then (((((⟨#[115,108,105,99,101,40]⟩:ByteArray)++(num l).1)++(⟨#[44,32]⟩:ByteArray))++(num (num l).2).1)++(⟨#[41]⟩:ByteArray),(num (num l).2).2)
 else if k=1 then (((⟨#[97,112,112,101,110,100,40,108,44,32]⟩:ByteArray)++(num l).1)++(⟨#[41]⟩:ByteArray),(num l).2)
 else if k=2 then (((⟨#[97,112,112,101,110,100,40,107,44,32]⟩:ByteArray)++(num l).1)++(⟨#[41]⟩:ByteArray),(num l).2)
 else (pickS rowK r.a,l)
def numB (main:Bool):Nat→BD
 |0=>fun l0=>(numL (firstB l0),l0.tail)
 |1=>numG main (fun l0=>(numL (firstB l0),l0.tail)) (textB 0) (listG fun l0=>(numL (firstB l0),l0.tail))
 |d+2=>numG main (numB main (d+1)) (textB (d+1)) (listG (numB main d))
def listB (main:Bool) (d:Nat):BD:=listG (numB main (d - 1))
def cmpS (n:Int):ByteArray:=pickS rowC n
def truthB (main:Bool):Nat→BD
 |0,l0=>(pickS rowB (firstB l0).a,l0.tail)
 |d+1,l0=>
  let r:=firstB l0
  let l:=l0.tail
  let k:=pickN r.kind 6
  let t:=truthB main d
  let x:=textB d
  let n:=numB main d
  if k=0 then (((((⟨#[40]⟩:ByteArray)++(t l).1)++(⟨#[32,38,38,32]⟩:ByteArray))++(t (t l).2).1)++(⟨#[41]⟩:ByteArray),(t (t l).2).2)
  else if k=1 then (((((⟨#[40]⟩:ByteArray)++(t l).1)++(⟨#[32,124,124,32]⟩:ByteArray))++(t (t l).2).1)++(⟨#[41]⟩:ByteArray),(t (t l).2).2)
  else if k=2 then ((⟨#[33]⟩:ByteArray)++(t l).1,(t l).2)
  else if k=3 then (((((((⟨#[40]⟩:ByteArray)++(x l).1)++(⟨#[32]⟩:ByteArray))++cmpS r.a)++(⟨#[32]⟩:ByteArray))++(x (x l).2).1)++(⟨#[41]⟩:ByteArray),(x (x l).2).2)
  else (((((((⟨#[40]⟩:ByteArray)++(n l).1)++(⟨#[32]⟩:ByteArray))++cmpS r.a)++(⟨#[32]⟩:ByteArray))++(n (n l).2).1)++(⟨#[41]⟩:ByteArray),(n (n l).2).2)
def stmtsB (st:BD):Nat→ByteArray→BD
 |0,s,l=>(s,l)
 |n+1,s,l=>stmtsB st n (s++((st l).1++(⟨#[10]⟩:ByteArray))) (st l).2
def blockB (st:BD) (n:Nat):BD:=fun l=>let p:=stmtsB st n (⟨#[123,10]⟩:ByteArray) l;(p.1++(⟨#[125]⟩:ByteArray),p.2)
def plainB (main:Bool) (loops:Bool) (r:PRaw) (l:List PRaw):Option (ByteArray × List PRaw):=
 let k:=pickN r.kind 24
 let n1:=numB main 1
 let n2:=numB main 2
 if k<3 then some ((pickS rowXY r.a++(⟨#[32,61,32]⟩:ByteArray))++(n2 l).1,(n2 l).2)
 else if k=3 then some ((⟨#[115,32,61,32]⟩:ByteArray)++(textB 2 l).1,(textB 2 l).2)
 else if k=4 then some ((pickS rowLK r.a++(⟨#[32,61,32]⟩:ByteArray))++(listB main 2 l).1,(listB main 2 l).2)
 else if k=5 then some ((⟨#[98,32,61,32]⟩:ByteArray)++(truthB main 2 l).1,(truthB main 2 l).2)
 else if k=6 then some ((((⟨#[109,91]⟩:ByteArray)++(n1 l).1)++(⟨#[93,32,61,32]⟩:ByteArray))++(n2 (n1 l).2).1,(n2 (n1 l).2).2)
 else if k=7 then some ((((⟨#[108,91]⟩:ByteArray)++pickS row0x1 r.a)++(⟨#[93,32,61,32]⟩:ByteArray))++(n2 l).1,(n2 l).2)
 else if k=8 then some (((⟨#[100,101,108,101,116,101,40,109,44,32]⟩:ByteArray)++(n1 l).1)++(⟨#[41]⟩:ByteArray),(n1 l).2)
 else if k<12 then
  let a:=n2 l
  let b:=textB 2 a.2
  let c:=truthB main 2 b.2
  some (((⟨#[112,114,105,110,116,40]⟩:ByteArray)++pickS [a.1,b.1,c.1] r.a)++(⟨#[41]⟩:ByteArray),c.2)
 else if k=12∧loops=true then some (pickS rowBr r.a,l)
 else if k=13∧main=true then some (((⟨#[102,40]⟩:ByteArray)++(n1 l).1)++(⟨#[44,32,115,41]⟩:ByteArray),(n1 l).2)
 else none
def ifB (main:Bool) (st:BD) (r:PRaw) (l:List PRaw):ByteArray × List PRaw:=
 let c:=truthB main 2 l
 let b:=blockB st (1+pickN r.a 2) c.2
 let s:=(((⟨#[105,102,32]⟩:ByteArray)++c.1)++(⟨#[32]⟩:ByteArray))++b.1
 if pickN r.b 2=0 then (s++((⟨#[32,101,108,115,101,32]⟩:ByteArray)++(blockB st 1 b.2).1),(blockB st 1 b.2).2) else (s,b.2)
def rangeB (st:BD) (r:PRaw) (l:List PRaw):ByteArray × List PRaw:=
 let t:=textB 1 l
 let b:=blockB st (1+pickN r.c 2) t.2
 (((((⟨#[102,111,114,32,105,44,32,106,32,58,61,32,114,97,110,103,101,32]⟩:ByteArray)++pickS [itoaB (pickN r.b 5),(⟨#[115]⟩:ByteArray),(⟨#[108]⟩:ByteArray),(⟨#[109]⟩:ByteArray),t.1] r.a)++(⟨#[32]⟩:ByteArray))++b.1)++(⟨#[10]⟩:ByteArray),b.2)
def whileB (st:BD) (r:PRaw) (l:List PRaw):ByteArray × List PRaw:=
 (((⟨#[105,102,32,116,114,117,101,32,123,10]⟩:ByteArray)++(((((⟨#[110,32,58,61,32,48,10,102,111,114,32,110,32,60,32]⟩:ByteArray)++itoaB (1+pickN r.a 4))++(⟨#[32,123,10,110,32,61,32,110,32,43,32,49,10]⟩:ByteArray))++(st l).1)++(⟨#[10,125]⟩:ByteArray)))++(⟨#[10,125]⟩:ByteArray),(st l).2)
def switchB (main:Bool) (st:BD) (r:PRaw) (l:List PRaw):ByteArray × List PRaw:=
 let x:=numB main 1 l
 let b1:=blockB st 1 x.2
 let b2:=blockB st 1 b1.2
 let s:=(((((((((⟨#[115,119,105,116,99,104,32]⟩:ByteArray)++x.1)++(⟨#[32,123,10,99,97,115,101,32]⟩:ByteArray))++itoaB (pickN r.a 3))++(⟨#[44,32,45,49,58,32]⟩:ByteArray))++b1.1)++(⟨#[10,99,97,115,101,32]⟩:ByteArray))++itoaB (3+pickN r.b 3))++(⟨#[58,32]⟩:ByteArray))++b2.1++(⟨#[10]⟩:ByteArray)
 let q:=if pickN r.c 2=0 then (s++(((⟨#[99,97,115,101,32,55,44,32,56,44,32,57,58,32]⟩:ByteArray)++(blockB st 1 b2.2).1)++(⟨#[10]⟩:ByteArray)),(blockB st 1 b2.2).2) else (s,b2.2)
 let d:=blockB st 1 q.2
 (((q.1++(⟨#[100,101,102,97,117,108,116,58,32]⟩:ByteArray))++d.1)++(⟨#[10,125]⟩:ByteArray),d.2)
def lastB (r:PRaw):ByteArray:=((⟨#[112,114,105,110,116,40]⟩:ByteArray)++pickS rowP r.a)++(⟨#[41]⟩:ByteArray)
def stmtB (main:Bool):Nat→Bool→BD
 |0,loops,l0=>match plainB main loops (firstB l0) l0.tail with
  |some p=>p
  |none=>(lastB (firstB l0),l0.tail)
 |d+1,loops,l0=>match plainB main loops (firstB l0) l0.tail with
  |some p=>p
  |none=>
   let r:=firstB l0
   let k:=pickN r.kind 24
   if k<17 then ifB main (stmtB main d loops) r l0.tail
   else if k<20 then rangeB (stmtB main d true) r l0.tail
   else if k=20 then whileB (stmtB main d true) r l0.tail
   else switchB main (stmtB main d loops) r l0.tail
def namesB:ByteArray:=(⟨#[120,32,58,61,32,49,10,121,32,58,61,32,50,10,116,32,58,61,32,34,116,97,105,108,34,10,108,32,58,61,32,115,108,105,99,101,40,51,44,32,49,41,10,107,32,58,61,32,97,112,112,101,110,100,40,108,44,32,52,41,10,109,32,58,61,32,109,97,112,40,41,10,98,32,58,61,32,102,97,108,115,101,10]⟩:ByteArray)
def headB:ByteArray:=(⟨#[102,117,110,99,32,109,97,105,110,40,41,32,123,10,115,32,58,61,32,34,97,98,34,10]⟩:ByteArray)++namesB
def midB:ByteArray:=((⟨#[112,114,105,110,116,40,120,41,10,112,114,105,110,116,40,115,41,10,112,114,105,110,116,40,108,101,110,40,109,41,41,10,125,10,102,117,110,99,32,102,40,97,32,105,110,116,44,32,115,32,115,116,114,105,110,103,41,32,105,110,116,32,123,10]⟩:ByteArray)++namesB)++(⟨#[120,32,61,32,97,10]⟩:ByteArray)
def sourceB (l0:List PRaw):ByteArray:=
 let l:=l0.take 36
 let n:=l.length / 3
 let s1:=(stmtsB (stmtB true 2 false) (min (1+l.length / 8) 5) headB (l.take (2*n))).1
 let s2:=(stmtsB (stmtB false 1 false) (min (1+l.length / 18) 2) (s1++midB) (l.drop (2*n))).1
 s2++(⟨#[114,101,116,117,114,110,32,120,32,43,32,121,10,125,10]⟩:ByteArray)
end Go.Proofs.YtkopjgnjflhkeaaDoor
namespace Go.Proofs.YtkopjgnjflhkeaaDoor
open Go.RowKit Go.Pst
set_option linter.unusedVariables false
set_option linter.unusedSimpArgs false
def RawsAt (w:World) (B0:Nat) (v:Value) (l:List PRaw):Prop:= ∃ a cap,v= .slice a l.length cap∧l.length≤cap∧l.length≤36∧cap≤maxLen∧
 ∀ i (h:i<l.length),∃ b off,a=some ⟨b,off,none⟩∧b<B0∧w.cell? ⟨b,off+i*4,none⟩=some (.int .i64 l[i].kind)∧w.cell? ⟨b,off+i*4+1,none⟩=some (.int .i64 l[i].a)∧w.cell? ⟨b,off+i*4+2,none⟩=some (.int .i64 l[i].b)∧w.cell? ⟨b,off+i*4+3,none⟩=some (.int .i64 l[i].c)∧
  InI l[i].kind∧InI l[i].a∧InI l[i].b∧InI l[i].c
theorem RawsAt.since {w w':World} {B0:Nat} {v:Value} {l:List PRaw} {F:Nat→Prop} (h:RawsAt w B0 v l) (hs:Since F w w') (hF: ∀ k,k<B0→ ¬F k) (hb:B0≤w.heap.size):RawsAt w' B0 v l:=by
 obtain ⟨a,cap,h1,h2,h2',h3,h4⟩:=h
 refine ⟨a,cap,h1,h2,h2',h3,fun i hi=>?_⟩
 obtain ⟨b,off,e,hlt,c0,c1,c2,c3,c4⟩:=h4 i hi
 have hc:=fun o=>hs.cell (b:=b) (o:=o) (by omega) (hF b hlt)
 exact ⟨b,off,e,hlt,(hc _).trans c0,(hc _).trans c1,(hc _).trans c2,(hc _).trans c3,c4⟩
structure BardAt (w:World) (bb B0:Nat) (l:List PRaw) (loops:Int) (main:Bool):Prop where
 c0: ∃ v,w.cell? ⟨bb,0,none⟩=some v∧RawsAt w B0 v l
 c1:w.cell? ⟨bb,1,none⟩=some (.int .i64 loops)
 c2:w.cell? ⟨bb,2,none⟩=some (.bool main)
 z: ∀ j,w.frozen? ⟨bb,j,none⟩=false
 lt:B0≤bb∧bb<w.heap.size
 tab:TabOK w∧5<B0
theorem BardAt.since {w w':World} {bb B0:Nat} {l:List PRaw} {loops:Int} {main:Bool} {F:Nat→Prop} (h:BardAt w bb B0 l loops main) (hs:Since F w w') (hF: ∀ k,k<B0→ ¬F k) (hb: ¬F bb):BardAt w' bb B0 l loops main:=by
 obtain ⟨⟨v,c0,hr⟩,c1,c2,z,lt,tab⟩:=h
 have hc:=fun o=>hs.cell (b:=bb) (o:=o) lt.2 hb
 exact ⟨⟨v,(hc 0).trans c0,hr.since hs hF (by omega)⟩,(hc 1).trans c1,(hc 2).trans c2,fun j=>(hs.frozen lt.2 hb).trans (z j),⟨lt.1,Nat.lt_of_lt_of_le lt.2 hs.size⟩,tab.1.since hs (hF _ tab.2),tab.2⟩
theorem BardAt.new {w w':World} {bb B0:Nat} {l:List PRaw} {loops:Int} {main:Bool} (h:BardAt w bb B0 l loops main) (hs:Since (fun _=>False) w w'):BardAt w' bb B0 l loops main:=h.since hs (fun _ _ f=>f) (fun f=>f)
theorem RawsAt.tail {w:World} {B0:Nat} {a:Option Addr} {cap:Nat} {r:PRaw} {l:List PRaw} (h:RawsAt w B0 (.slice a (l.length+1) cap) (r::l)):
 RawsAt w B0 (.slice (if cap=1 then a else Option.map (fun x=>x.add 4) a) l.length (cap - 1)) l:=by
 obtain ⟨a',cap',he,h2,h2',h3,h4⟩:=h
 simp only [Value.slice.injEq] at he
 obtain ⟨rfl,-,rfl⟩:=he
 rw [List.length_cons] at h2 h2'
 refine ⟨_,_,rfl,by omega,by omega,by omega,fun i hi=>?_⟩
 obtain ⟨b,off,rfl,hlt,c0,c1,c2,c3,c4⟩:=h4 (i+1) (by rw [List.length_cons];omega)
 have hadd:(⟨b,off,none⟩:Addr).add 4=⟨b,off+4,none⟩:=by simp [Addr.add]
 refine ⟨b,off+4,?_,hlt,?_,?_,?_,?_,c4⟩
 ·
  rw [if_neg (by omega)]
  simp [hadd]
 ·
  rw [show off+4+i*4=off+(i+1)*4 by omega];exact c0
 ·
  rw [show off+4+i*4+1=off+(i+1)*4+1 by omega];exact c1
 ·
  rw [show off+4+i*4+2=off+(i+1)*4+2 by omega];exact c2
 ·
  rw [show off+4+i*4+3=off+(i+1)*4+3 by omega];exact c3
def rawC (r:PRaw):Value:= .agg #[.int .i64 r.kind, .int .i64 r.a, .int .i64 r.b, .int .i64 r.c]
theorem firstB_in {w:World} {bb B0:Nat} {l:List PRaw} {loops:Int} {main:Bool} (h:BardAt w bb B0 l loops main):InI (firstB l).kind∧InI (firstB l).a∧InI (firstB l).b∧InI (firstB l).c:=by
 obtain ⟨v,-,a,cap,-,-,-,-,h4⟩:=h.c0
 cases l with
 |nil=>exact ⟨ini rfl,ini rfl,ini rfl,ini rfl⟩
 |cons r l=>
  obtain ⟨_,_,_,_,_,_,_,_,c4⟩:=h4 0 (by simp)
  exact c4
theorem BardAt.setL {w:World} {bb B0:Nat} {l l':List PRaw} {loops:Int} {main:Bool} {v:Value} (h:BardAt w bb B0 l loops main) (hr:RawsAt w B0 v l'):BardAt (w.setCell ⟨bb,0,none⟩ v) bb B0 l' loops main:=by
 obtain ⟨⟨u,c0,-⟩,c1,c2,z,lt,tab⟩:=h
 have hs:Since (fun k=>k=bb) w (w.setCell ⟨bb,0,none⟩ v):=Since.setCell w ⟨bb,0,none⟩ v
 have far: ∀ (j:Nat) (x:Option Value),0≠j→w.cell? ⟨bb,j,none⟩=x→(w.setCell ⟨bb,0,none⟩ v).cell? ⟨bb,j,none⟩=x:=fun j x hj e=>(World.cell?_setCell_other _ _ _ _ (fun h=>hj (by injection h))).trans e
 exact ⟨⟨v,World.cell?_setCell_same _ _ _ c0,hr.since hs (fun k hk e=>by omega) (by omega)⟩,far 1 _ (by decide) c1,far 2 _ (by decide) c2,fun j=>by rw [World.frozen?_setCell];exact z j,⟨lt.1,by simpa using lt.2⟩,tab.1.since hs (fun e=>by have:=tab.2;omega),tab.2⟩
theorem BardAt.setN {w:World} {bb B0:Nat} {l:List PRaw} {loops n:Int} {main:Bool} (h:BardAt w bb B0 l loops main):BardAt (w.setCell ⟨bb,1,none⟩ (.int .i64 n)) bb B0 l n main:=by
 obtain ⟨⟨u,c0,hr⟩,c1,c2,z,lt,tab⟩:=h
 have hs:Since (fun k=>k=bb) w (w.setCell ⟨bb,1,none⟩ (.int .i64 n)):=Since.setCell w ⟨bb,1,none⟩ _
 have far: ∀ (j:Nat) (x:Option Value),1≠j→w.cell? ⟨bb,j,none⟩=x→(w.setCell ⟨bb,1,none⟩ (.int .i64 n)).cell? ⟨bb,j,none⟩=x:=fun j x hj e=>(World.cell?_setCell_other _ _ _ _ (fun h=>hj (by injection h))).trans e
 exact ⟨⟨u,far 0 _ (by decide) c0,hr.since hs (fun k hk e=>by omega) (by omega)⟩,World.cell?_setCell_same _ _ _ c1,far 2 _ (by decide) c2,fun j=>by rw [World.frozen?_setCell];exact z j,⟨lt.1,by simpa using lt.2⟩,tab.1.since hs (fun e=>by have:=tab.2;omega),tab.2⟩
def BardEnd (w:World) (bb B0:Nat) (loops:Int) (main:Bool) (p:ByteArray × List PRaw) (e:Ending) (w':World):Prop:=e= .returned (.string p.1)∧BardAt w' bb B0 p.2 loops main∧Since (fun k=>k=bb) w w'
set_option maxRecDepth 4000 in
set_option maxHeartbeats 4000000 in
theorem next_any {w:World} {bb B0:Nat} {l:List PRaw} {loops:Int} {main:Bool} (h:BardAt w bb B0 l loops main):
 Calls Tryd.prog 29 #[.pointer (some ⟨bb,0,none⟩)] w fun e w'=>e= .returned (rawC (firstB l))∧BardAt w' bb B0 l.tail loops main∧Since (fun k=>k=bb) w w':=by
 have hl:=h.lt
 obtain ⟨v,c0,hr⟩:=h.c0
 have hz:=h.z
 cases l with
 |nil=>
  obtain ⟨a,cap,rfl,-⟩:=id hr
  have HB:=zh h
  clear h hr hz
  go_enter Tryd.func29,Tryd.ntmps29
  go_wp2_with fail
  have hs:Since (fun _=>False) w (w.alloc (.cells #[.int .i64 0, .int .i64 0, .int .i64 0, .int .i64 0] 76)):=Since.alloc _ _ _
  refine bodyPost_ret (v:=rawC ⟨0,0,0,0⟩) (by simp [results,Tryd.results29,go_sem,rawC]) rfl ⟨rfl,HB.out.new hs,hs.mono (fun _ f=>f.elim)⟩
 |cons r l=>
  obtain ⟨a,cap,rfl,h2,h2',h3,h4⟩:=id hr
  obtain ⟨b,off,rfl,hlt,e0,e1,e2,e3,-⟩:=h4 0 (by simp)
  have hlen:(l.length:Int)+1≤36:=by simp at h2';omega
  have hcap:(l.length:Int)+1≤(cap:Int):=by simp at h2;omega
  simp only [Nat.zero_mul,Nat.add_zero,List.getElem_cons_zero,List.length_cons] at e0 e1 e2 e3 c0
  have hbw:b<w.heap.size:=by omega
  have hnb:b≠bb:=by omega
  have hadd:(⟨b,off,none⟩:Addr).add 4=⟨b,off+4,none⟩:=by simp [Addr.add]
  have HR:=zh (RawsAt.tail hr)
  have HB:=zh h
  clear h hr h4
  by_cases hc1:cap=1
  ·
   subst hc1
   rw [if_pos rfl] at HR
   go_enter Tryd.func29,Tryd.ntmps29
   go_wp2_with fail
   have hs:=(Since.setCell w ⟨bb,0,none⟩ (.slice (some ⟨b,off,none⟩) l.length (1 - 1)))
   have hs2:=(Since.alloc (fun k=>k=bb) (w.setCell ⟨bb,0,none⟩ (.slice (some ⟨b,off,none⟩) l.length (1 - 1))) (.cells #[.int .i64 r.kind, .int .i64 r.a, .int .i64 r.b, .int .i64 r.c] 76)).trans (Since.alloc _ _ (.cells #[.int .i64 r.kind, .int .i64 r.a, .int .i64 r.b, .int .i64 r.c] 76))
   have hs3:=(Since.alloc (fun _=>False) (w.setCell ⟨bb,0,none⟩ (.slice (some ⟨b,off,none⟩) l.length (1 - 1))) (.cells #[.int .i64 r.kind, .int .i64 r.a, .int .i64 r.b, .int .i64 r.c] 76)).trans (Since.alloc _ _ (.cells #[.int .i64 r.kind, .int .i64 r.a, .int .i64 r.b, .int .i64 r.c] 76))
   refine bodyPost_ret (v:=rawC r) (by simp [results,Tryd.results29,go_sem,rawC]) rfl ⟨rfl,(HB.out.setL HR.out).new hs3,hs.trans hs2⟩
  ·
   rw [if_neg hc1] at HR
   simp only [Option.map_some,hadd] at HR
   go_enter Tryd.func29,Tryd.ntmps29
   go_wp2_with fail
   have hs:=(Since.setCell w ⟨bb,0,none⟩ (.slice (some ⟨b,off+4,none⟩) l.length (cap - 1)))
   have hs2:=(Since.alloc (fun k=>k=bb) (w.setCell ⟨bb,0,none⟩ (.slice (some ⟨b,off+4,none⟩) l.length (cap - 1))) (.cells #[.int .i64 r.kind, .int .i64 r.a, .int .i64 r.b, .int .i64 r.c] 76)).trans (Since.alloc _ _ (.cells #[.int .i64 r.kind, .int .i64 r.a, .int .i64 r.b, .int .i64 r.c] 76))
   have hs3:=(Since.alloc (fun _=>False) (w.setCell ⟨bb,0,none⟩ (.slice (some ⟨b,off+4,none⟩) l.length (cap - 1))) (.cells #[.int .i64 r.kind, .int .i64 r.a, .int .i64 r.b, .int .i64 r.c] 76)).trans (Since.alloc _ _ (.cells #[.int .i64 r.kind, .int .i64 r.a, .int .i64 r.b, .int .i64 r.c] 76))
   refine bodyPost_ret (v:=rawC r) (by simp [results,Tryd.results29,go_sem,rawC]) rfl ⟨rfl,(HB.out.setL HR.out).new hs3,hs.trans hs2⟩
end Go.Proofs.YtkopjgnjflhkeaaDoor

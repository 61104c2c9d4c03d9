import Derived.Test.YtkopjgnjflhkeaaGreatDoorQZE
import Derived.Test.YtkopjgnjflhkeaaGreatDoorQZS
import Derived.Test.YtkopjgnjflhkeaaGreatDoorQN
import Derived.Test.YtkopjgnjflhkeaaGreatDoorQZF
namespace Go.Proofs.YtkopjgnjflhkeaaGreatDoor
open Go.RowKit Go.Pst
set_option linter.unusedVariables false
def fitXB:Nat→PExpr→Bool
 |0,_=>false
 |d+1,x=>decide (x.args.length≤1000)&&x.args.all (fitXB d)
theorem fitX_of: ∀ (d:Nat) (x:PExpr),fitXB d x=true→FitX d x
 |0,_,h=>by simp [fitXB] at h
 |d+1,x,h=>by
  unfold fitXB at h
  rw [Bool.and_eq_true,decide_eq_true_eq,List.all_eq_true] at h
  exact ⟨by unfold reachBytes;omega,fun y hy=>fitX_of d y (h.2 y hy)⟩
def fitSB:Nat→PStmt→Bool
 |0,_=>false
 |d+1,s=>(decide (s.exprs.length≤1000)&&s.exprs.all (fitXB d))&&(decide (s.body.length≤1000)&&s.body.all (fitSB d))&&(decide (s.els.length≤1000)&&s.els.all (fitSB d))&&
  (decide (s.cases.length≤1000)&&s.cases.all fun c=>decide (c.1.length≤1000)&&decide (c.2.length≤1000)&&c.2.all (fitSB d))&&decide (numsN s.cases≤1048576)
theorem fitS_of: ∀ (d:Nat) (s:PStmt),fitSB d s=true→FitS d s
 |0,_,h=>by simp [fitSB] at h
 |d+1,s,h=>by
  unfold fitSB at h
  simp only [Bool.and_eq_true,decide_eq_true_eq,List.all_eq_true] at h
  obtain ⟨⟨⟨⟨⟨a1,a2⟩,b1,b2⟩,c1,c2⟩,d1,d2⟩,e1⟩:=h
  exact ⟨⟨by unfold reachBytes;omega,fun y hy=>fitX_of d y (a2 y hy)⟩,⟨by unfold reachBytes;omega,fun y hy=>fitS_of d y (b2 y hy)⟩,⟨by unfold reachBytes;omega,fun y hy=>fitS_of d y (c2 y hy)⟩,
   ⟨by unfold reachBytes;omega,fun c hc=>⟨by have:=(d2 c hc).1.1;unfold reachBytes;omega,by have:=(d2 c hc).1.2;unfold reachBytes;omega,fun y hy=>fitS_of d y ((d2 c hc).2 y hy)⟩⟩,e1⟩
def fitFB (fs:List PFunc):Bool:=fs.all fun f=>decide (f.body.length≤1000)&&f.body.all (fitSB 20)
theorem fitF_of {fs:List PFunc} (h:fitFB fs=true) (D:Nat): ∀ f∈fs,f.body.length*136≤reachBytes∧ ∀ y∈f.body,FitS (D+20) y:=by
 intro f hf
 unfold fitFB at h
 rw [List.all_eq_true] at h
 have h1:=h f hf
 rw [Bool.and_eq_true,decide_eq_true_eq,List.all_eq_true] at h1
 exact ⟨by unfold reachBytes;omega,fun y hy=>FitS_le (by omega) y (fitS_of 20 y (h1.2 y hy))⟩
def okR:Except (Int × Int) (List PFunc)→Option (List PFunc)
 | .error _=>none
 | .ok fs=>some fs
theorem okR_some {x:Except (Int × Int) (List PFunc)} {fs:List PFunc} (h:okR x=some fs):x= .ok fs:=by
 cases x with
 |error y=>simp [okR] at h
 |ok y=>simp only [okR,Option.some.injEq] at h;rw [h]
def saysR (D:Nat) (src:List UInt8) (ans:Int × Int):Bool:=match readR src with
 | .error _=>false
 | .ok fs=>fitFB fs&&decide (checkT (D+20) fs=ans)
theorem saysR_at {D:Nat} {src:List UInt8} {ans:Int × Int} (h:saysR D src ans=true): ∃ fs,readR src= .ok fs∧fitFB fs=true∧checkT (D+20) fs=ans:=by
 unfold saysR at h
 split at h
 ·
  cases h
 ·
  next fs hfs=>
  rw [Bool.and_eq_true,decide_eq_true_eq] at h
  exact ⟨fs,hfs,h.1,h.2⟩
theorem all_at {α:Type} {l:List α} {p:α→Bool} {q:Nat→Bool} (h:l.all p=true) (i:Nat) (x:α) (hi:l[i]?=some x):p x=true:=List.all_eq_true.1 h x (List.mem_of_getElem? hi)
def tbS:List ByteArray:=[⟨#[120,32,61,32,49]⟩,⟨#[120,32,58,61,32,49,32,120,32,58,61,32,50]⟩,⟨#[120,32,58,61,32,49,32,43,32,34,97,34]⟩,⟨#[112,114,105,110,116,40,115,108,105,99,101,40,41,41]⟩,⟨#[98,114,101,97,107]⟩,⟨#[114,101,116,117,114,110,32,49]⟩,⟨#[120,32,58,61,32,102,40,41]⟩,⟨#[102,40,49,44,32,50,41]⟩,⟨#[102,40,34,97,34,41]⟩,⟨#[120,32,58,61,32,49,32,120,32,61,32,116,114,117,101]⟩,⟨#[105,102,32,49,32,123,32,125]⟩,⟨#[102,111,114,32,105,44,32,105,32,58,61,32,114,97,110,103,101,32,51,32,123,32,125]⟩,⟨#[102,111,114,32,105,44,32,106,32,58,61,32,114,97,110,103,101,32,116,114,117,101,32,123,32,125]⟩,⟨#[115,119,105,116,99,104,32,116,114,117,101,32,123,32,125]⟩,⟨#[115,119,105,116,99,104,32,49,32,123,32,99,97,115,101,32,49,44,32,49,58,32,123,32,125,32,125]⟩,⟨#[120,32,58,61,32,103,40,49,41]⟩,⟨#[109,32,58,61,32,115,108,105,99,101,40,41,32,100,101,108,101,116,101,40,109,44,32,49,41]⟩,⟨#[120,32,58,61,32,49,32,120,91,48,93,32,61,32,50]⟩,⟨#[105,102,32,116,114,117,101,32,123,32,121,32,58,61,32,49,32,125,32,121,32,61,32,50]⟩,⟨#[102,40,49,41,32,110,111,98,111,100,121,40,41]⟩]
def tbE:List Int:=[6,7,9,9,12,10,10,10,9,9,9,7,9,9,7,9,9,9,6,6]
def tbSrc (s:ByteArray):ByteArray:=(⟨#[102,117,110,99,32,109,97,105,110,40,41,32,123,32]⟩++s)++⟨#[32,125,32,102,117,110,99,32,102,40,97,32,105,110,116,41,32,105,110,116,32,123,32,114,101,116,117,114,110,32,97,32,125,32,102,117,110,99,32,103,40,97,32,105,110,116,41,32,123,32,125]⟩
theorem tb_all (D:Nat):(tbS.zip tbE).all (fun p=>saysR D (tbSrc p.1).data.toList (0,p.2))=true:=by kernel_rfl
theorem tb_at (i:Nat) (h:i<20): ∃ (s:ByteArray) (e:Int),tbS[i]?=some s∧tbE[i]?=some e∧s.size≤1000∧ ∀ D,∃ fs,readR (tbSrc s).data.toList= .ok fs∧fitFB fs=true∧checkT (D+20) fs=(0,e):=by
 have h1:i<tbS.length:=h
 have h2:i<tbE.length:=h
 refine ⟨tbS[i],tbE[i],List.getElem?_eq_getElem h1,List.getElem?_eq_getElem h2,(show ∀ s∈tbS,s.size≤1000 by decide) _ (List.getElem_mem h1),fun D=>saysR_at (all_at (q:=fun _=>true) (tb_all D) i (tbS[i],tbE[i]) ?_)⟩
 rw [List.getElem?_eq_getElem (show i<(tbS.zip tbE).length from h),List.getElem_zip]
 rfl
def tfS:List ByteArray:=[⟨#[]⟩,⟨#[105,102,32,98,32,123,32,114,101,116,117,114,110,32,49,32,125]⟩,⟨#[105,102,32,98,32,123,32,114,101,116,117,114,110,32,49,32,125,32,101,108,115,101,32,123,32,125]⟩,⟨#[102,111,114,32,98,32,123,32,114,101,116,117,114,110,32,49,32,125]⟩,⟨#[115,119,105,116,99,104,32,49,32,123,32,99,97,115,101,32,49,58,32,123,32,114,101,116,117,114,110,32,49,32,125,32,125]⟩,⟨#[105,102,32,98,32,123,32,114,101,116,117,114,110,32,49,32,125,32,101,108,115,101,32,123,32,114,101,116,117,114,110,32,50,32,125]⟩,⟨#[115,119,105,116,99,104,32,49,32,123,32,99,97,115,101,32,49,58,32,123,32,114,101,116,117,114,110,32,49,32,125,32,100,101,102,97,117,108,116,58,32,123,32,114,101,116,117,114,110,32,50,32,125,32,125]⟩,⟨#[105,102,32,98,32,123,32,114,101,116,117,114,110,32,49,32,125,32,101,108,115,101,32,105,102,32,98,32,123,32,114,101,116,117,114,110,32,50,32,125,32,101,108,115,101,32,123,32,114,101,116,117,114,110,32,51,32,125]⟩,⟨#[114,101,116,117,114,110,32,49,32,114,101,116,117,114,110,32,50]⟩,⟨#[114,101,116,117,114,110,32,49,32,98,32,61,32,102,97,108,115,101]⟩]
def tfE (i:Nat):Int × Int:=if i<5∨i=9 then (1,11) else (0,0)
def tfSrc (s:ByteArray):ByteArray:=(⟨#[102,117,110,99,32,109,97,105,110,40,41,32,123,32,125,32,102,117,110,99,32,102,40,98,32,98,111,111,108,41,32,105,110,116,32,123,32]⟩++s)++⟨#[32,125]⟩
theorem tf_all (D:Nat):(tfS.zip (List.range 10)).all (fun p=>saysR D (tfSrc p.1).data.toList (tfE p.2))=true:=by kernel_rfl
theorem tf_at (i:Nat) (h:i<10): ∃ (s:ByteArray),tfS[i]?=some s∧s.size≤1000∧ ∀ D,∃ fs,readR (tfSrc s).data.toList= .ok fs∧fitFB fs=true∧checkT (D+20) fs=tfE i:=by
 have h1:i<tfS.length:=h
 refine ⟨tfS[i],List.getElem?_eq_getElem h1,(show ∀ s∈tfS,s.size≤1000 by decide) _ (List.getElem_mem h1),fun D=>saysR_at (all_at (q:=fun _=>true) (tf_all D) i (tfS[i],i) ?_)⟩
 rw [List.getElem?_eq_getElem (show i<(tfS.zip (List.range 10)).length from h),List.getElem_zip,List.getElem_range]
theorem TyLaid.up {w:World} {base base':Nat} (h:TyLaid w base) (hb:base≤base'):TyLaid w base':=⟨⟨Nat.lt_of_lt_of_le h.lt.1 hb,Nat.lt_of_lt_of_le h.lt.2 hb⟩,h.counts,h.exprs⟩
theorem funcs_here {d:Nat} {S:Nat→Prop} {w:World} {v:Value} {fs:List PFunc} (h:rFuncs d S w [v] fs):rFuncs (d+20) (fun k=>k<w.heap.size) w [v] fs:=
 rSlice_imp (fun cs x h=>monoF (Nat.le_add_right d 20) cs x h) (Good.wide (R:=rFuncs d) h (fun k hk _=>hk))
end Go.Proofs.YtkopjgnjflhkeaaGreatDoor
namespace Go.Proofs.YtkopjgnjflhkeaaGreatDoor
open Go.RowKit Go.Pst
set_option linter.unusedVariables false
set_option linter.unusedSimpArgs false
set_option maxRecDepth 100000 in
set_option maxHeartbeats 8000000 in
theorem typedFalls_any (n:Int) (w:World) (hn:InI n) (hL:ReadLaid w) (hT:TyLaid w w.heap.size):
 Calls Tryz.prog 6 #[.int .i64 n] w fun e w'=>e= .returned (.bool true)∧Below w.heap.size w w':=by
 obtain ⟨i,hi,hi20⟩: ∃ i:Nat,pickF n 10=(i:Int)∧i<10:=by have:= @pickF_in n 10 (by decide);exact ⟨(pickF n 10).toNat,by omega,by omega⟩
 have hiI:(i:Int)<10:=by omega
 obtain ⟨s,hs,hsz,hR⟩:=tf_at i hi20
 have hS:Since (fun _=>False) w (w.alloc (.cells #[.string ⟨#[]⟩, .string ⟨#[105,102,32,98,32,123,32,114,101,116,117,114,110,32,49,32,125]⟩, .string ⟨#[105,102,32,98,32,123,32,114,101,116,117,114,110,32,49,32,125,32,101,108,115,101,32,123,32,125]⟩, .string ⟨#[102,111,114,32,98,32,123,32,114,101,116,117,114,110,32,49,32,125]⟩, .string ⟨#[115,119,105,116,99,104,32,49,32,123,32,99,97,115,101,32,49,58,32,123,32,114,101,116,117,114,110,32,49,32,125,32,125]⟩, .string ⟨#[105,102,32,98,32,123,32,114,101,116,117,114,110,32,49,32,125,32,101,108,115,101,32,123,32,114,101,116,117,114,110,32,50,32,125]⟩, .string ⟨#[115,119,105,116,99,104,32,49,32,123,32,99,97,115,101,32,49,58,32,123,32,114,101,116,117,114,110,32,49,32,125,32,100,101,102,97,117,108,116,58,32,123,32,114,101,116,117,114,110,32,50,32,125,32,125]⟩, .string ⟨#[105,102,32,98,32,123,32,114,101,116,117,114,110,32,49,32,125,32,101,108,115,101,32,105,102,32,98,32,123,32,114,101,116,117,114,110,32,50,32,125,32,101,108,115,101,32,123,32,114,101,116,117,114,110,32,51,32,125]⟩, .string ⟨#[114,101,116,117,114,110,32,49,32,114,101,116,117,114,110,32,50]⟩, .string ⟨#[114,101,116,117,114,110,32,49,32,98,32,61,32,102,97,108,115,101]⟩] 9)):=Since.alloc _ w _
 have g0:(w.alloc (.cells #[.string ⟨#[]⟩, .string ⟨#[105,102,32,98,32,123,32,114,101,116,117,114,110,32,49,32,125]⟩, .string ⟨#[105,102,32,98,32,123,32,114,101,116,117,114,110,32,49,32,125,32,101,108,115,101,32,123,32,125]⟩, .string ⟨#[102,111,114,32,98,32,123,32,114,101,116,117,114,110,32,49,32,125]⟩, .string ⟨#[115,119,105,116,99,104,32,49,32,123,32,99,97,115,101,32,49,58,32,123,32,114,101,116,117,114,110,32,49,32,125,32,125]⟩, .string ⟨#[105,102,32,98,32,123,32,114,101,116,117,114,110,32,49,32,125,32,101,108,115,101,32,123,32,114,101,116,117,114,110,32,50,32,125]⟩, .string ⟨#[115,119,105,116,99,104,32,49,32,123,32,99,97,115,101,32,49,58,32,123,32,114,101,116,117,114,110,32,49,32,125,32,100,101,102,97,117,108,116,58,32,123,32,114,101,116,117,114,110,32,50,32,125,32,125]⟩, .string ⟨#[105,102,32,98,32,123,32,114,101,116,117,114,110,32,49,32,125,32,101,108,115,101,32,105,102,32,98,32,123,32,114,101,116,117,114,110,32,50,32,125,32,101,108,115,101,32,123,32,114,101,116,117,114,110,32,51,32,125]⟩, .string ⟨#[114,101,116,117,114,110,32,49,32,114,101,116,117,114,110,32,50]⟩, .string ⟨#[114,101,116,117,114,110,32,49,32,98,32,61,32,102,97,108,115,101]⟩] 9)).heap[w.heap.size]?=some (.cells #[.string ⟨#[]⟩, .string ⟨#[105,102,32,98,32,123,32,114,101,116,117,114,110,32,49,32,125]⟩, .string ⟨#[105,102,32,98,32,123,32,114,101,116,117,114,110,32,49,32,125,32,101,108,115,101,32,123,32,125]⟩, .string ⟨#[102,111,114,32,98,32,123,32,114,101,116,117,114,110,32,49,32,125]⟩, .string ⟨#[115,119,105,116,99,104,32,49,32,123,32,99,97,115,101,32,49,58,32,123,32,114,101,116,117,114,110,32,49,32,125,32,125]⟩, .string ⟨#[105,102,32,98,32,123,32,114,101,116,117,114,110,32,49,32,125,32,101,108,115,101,32,123,32,114,101,116,117,114,110,32,50,32,125]⟩, .string ⟨#[115,119,105,116,99,104,32,49,32,123,32,99,97,115,101,32,49,58,32,123,32,114,101,116,117,114,110,32,49,32,125,32,100,101,102,97,117,108,116,58,32,123,32,114,101,116,117,114,110,32,50,32,125,32,125]⟩, .string ⟨#[105,102,32,98,32,123,32,114,101,116,117,114,110,32,49,32,125,32,101,108,115,101,32,105,102,32,98,32,123,32,114,101,116,117,114,110,32,50,32,125,32,101,108,115,101,32,123,32,114,101,116,117,114,110,32,51,32,125]⟩, .string ⟨#[114,101,116,117,114,110,32,49,32,114,101,116,117,114,110,32,50]⟩, .string ⟨#[114,101,116,117,114,110,32,49,32,98,32,61,32,102,97,108,115,101]⟩] 9):=heap_alloc_new w _
 have hz:(w.alloc (.cells #[.string ⟨#[]⟩, .string ⟨#[105,102,32,98,32,123,32,114,101,116,117,114,110,32,49,32,125]⟩, .string ⟨#[105,102,32,98,32,123,32,114,101,116,117,114,110,32,49,32,125,32,101,108,115,101,32,123,32,125]⟩, .string ⟨#[102,111,114,32,98,32,123,32,114,101,116,117,114,110,32,49,32,125]⟩, .string ⟨#[115,119,105,116,99,104,32,49,32,123,32,99,97,115,101,32,49,58,32,123,32,114,101,116,117,114,110,32,49,32,125,32,125]⟩, .string ⟨#[105,102,32,98,32,123,32,114,101,116,117,114,110,32,49,32,125,32,101,108,115,101,32,123,32,114,101,116,117,114,110,32,50,32,125]⟩, .string ⟨#[115,119,105,116,99,104,32,49,32,123,32,99,97,115,101,32,49,58,32,123,32,114,101,116,117,114,110,32,49,32,125,32,100,101,102,97,117,108,116,58,32,123,32,114,101,116,117,114,110,32,50,32,125,32,125]⟩, .string ⟨#[105,102,32,98,32,123,32,114,101,116,117,114,110,32,49,32,125,32,101,108,115,101,32,105,102,32,98,32,123,32,114,101,116,117,114,110,32,50,32,125,32,101,108,115,101,32,123,32,114,101,116,117,114,110,32,51,32,125]⟩, .string ⟨#[114,101,116,117,114,110,32,49,32,114,101,116,117,114,110,32,50]⟩, .string ⟨#[114,101,116,117,114,110,32,49,32,98,32,61,32,102,97,108,115,101]⟩] 9)).heap.size=w.heap.size+1:=by simp
 have HS:=zh hS
 have HR:=zh hR
 have Hi:=zh hi
 have HT:=zh hT
 clear hS hR hi hT
 go_enter Tryz.func6,Tryz.ntmps6
 go_wp2_with fail
 refine (picked_any n 10 _ hn (by decide) (by unfold InI;omega)).mono ?_
 rintro e w1 ⟨rfl,rfl⟩
 rw [Hi.out]
 generalize w.alloc (.cells #[.string ⟨#[]⟩, .string ⟨#[105,102,32,98,32,123,32,114,101,116,117,114,110,32,49,32,125]⟩, .string ⟨#[105,102,32,98,32,123,32,114,101,116,117,114,110,32,49,32,125,32,101,108,115,101,32,123,32,125]⟩, .string ⟨#[102,111,114,32,98,32,123,32,114,101,116,117,114,110,32,49,32,125]⟩, .string ⟨#[115,119,105,116,99,104,32,49,32,123,32,99,97,115,101,32,49,58,32,123,32,114,101,116,117,114,110,32,49,32,125,32,125]⟩, .string ⟨#[105,102,32,98,32,123,32,114,101,116,117,114,110,32,49,32,125,32,101,108,115,101,32,123,32,114,101,116,117,114,110,32,50,32,125]⟩, .string ⟨#[115,119,105,116,99,104,32,49,32,123,32,99,97,115,101,32,49,58,32,123,32,114,101,116,117,114,110,32,49,32,125,32,100,101,102,97,117,108,116,58,32,123,32,114,101,116,117,114,110,32,50,32,125,32,125]⟩, .string ⟨#[105,102,32,98,32,123,32,114,101,116,117,114,110,32,49,32,125,32,101,108,115,101,32,105,102,32,98,32,123,32,114,101,116,117,114,110,32,50,32,125,32,101,108,115,101,32,123,32,114,101,116,117,114,110,32,51,32,125]⟩, .string ⟨#[114,101,116,117,114,110,32,49,32,114,101,116,117,114,110,32,50]⟩, .string ⟨#[114,101,116,117,114,110,32,49,32,98,32,61,32,102,97,108,115,101]⟩] 9)=w3 at *
 have c0:w3.cell? ⟨w.heap.size,i,none⟩=some (.string s):=by
  have h:(tfS.map Value.string)[i]?=some (Value.string s):=by rw [List.getElem?_map,hs];rfl
  have h2:w3.cell? ⟨w.heap.size,i,none⟩= #[.string ⟨#[]⟩, .string ⟨#[105,102,32,98,32,123,32,114,101,116,117,114,110,32,49,32,125]⟩, .string ⟨#[105,102,32,98,32,123,32,114,101,116,117,114,110,32,49,32,125,32,101,108,115,101,32,123,32,125]⟩, .string ⟨#[102,111,114,32,98,32,123,32,114,101,116,117,114,110,32,49,32,125]⟩, .string ⟨#[115,119,105,116,99,104,32,49,32,123,32,99,97,115,101,32,49,58,32,123,32,114,101,116,117,114,110,32,49,32,125,32,125]⟩, .string ⟨#[105,102,32,98,32,123,32,114,101,116,117,114,110,32,49,32,125,32,101,108,115,101,32,123,32,114,101,116,117,114,110,32,50,32,125]⟩, .string ⟨#[115,119,105,116,99,104,32,49,32,123,32,99,97,115,101,32,49,58,32,123,32,114,101,116,117,114,110,32,49,32,125,32,100,101,102,97,117,108,116,58,32,123,32,114,101,116,117,114,110,32,50,32,125,32,125]⟩, .string ⟨#[105,102,32,98,32,123,32,114,101,116,117,114,110,32,49,32,125,32,101,108,115,101,32,105,102,32,98,32,123,32,114,101,116,117,114,110,32,50,32,125,32,101,108,115,101,32,123,32,114,101,116,117,114,110,32,51,32,125]⟩, .string ⟨#[114,101,116,117,114,110,32,49,32,114,101,116,117,114,110,32,50]⟩, .string ⟨#[114,101,116,117,114,110,32,49,32,98,32,61,32,102,97,108,115,101]⟩][i]?:=by simp [World.cell?,g0]
  rw [h2,←Array.getElem?_toList]
  exact h
 have hsrc:(tfSrc s).size≤4000:=by unfold tfSrc;simp only [ByteArray.size_append];show 37+s.size+2≤4000;omega
 have Hsrc:=zh (show tfSrc s=((⟨#[102,117,110,99,32,109,97,105,110,40,41,32,123,32,125,32,102,117,110,99,32,102,40,98,32,98,111,111,108,41,32,105,110,116,32,123,32]⟩:ByteArray)++s)++⟨#[32,125]⟩ from rfl)
 clear g0 hs
 go_wp2_with fail
 rw [←Hsrc.out]
 refine (read_any (tfSrc s) (by omega) w3 (hL.later HS.out)).mono ?_
 rintro en w4 ⟨v,p,x,rfl,hs4,hres⟩
 obtain ⟨fs0,hfs0,-⟩:=HR.out 0
 rw [hfs0] at hres
 obtain ⟨⟨d,hrd⟩,rfl,rfl⟩:=hres
 obtain ⟨fs,hfs,hfit,hck⟩:=HR.out d
 obtain rfl:fs=fs0:=by rw [hfs0] at hfs;exact (Except.ok.inj hfs).symm
 have hf:=funcs_here hrd
 have hz4:=hs4.size
 have hT4:=((HT.out.since HS.out (fun _ f=>f.elim) (Nat.le_refl _)).since hs4 (fun _ f=>f.elim) (by omega))
 have ty1:=typedCheck_any (TyLaid.up hT4 (by omega)) hf (fitF_of hfit d)
 rw [hck] at ty1
 have Ty1:=zh ty1
 have HS4:=zh (HS.out.trans hs4)
 clear hs4 c0 hrd hf hfit hck hfs hfs0 ty1 hT4
 by_cases hlow:i<5∨i=9
 ·
  have HE:=zh (show tfE i=(1,11) by unfold tfE;rw [if_pos hlow])
  go_wp2_with fail
  refine Ty1.out.mono ?_
  rintro en w5 ⟨rfl,hb5⟩
  have HS5:=zh (HS4.out.trans (since_below hb5))
  rw [HE.out]
  clear hb5
  rcases hlow with h5|h9
  ·
   have h5I:(i:Int)<5:=by omega
   go_wp2_with fail
   go_ret
   exact ⟨rfl,HS5.out.below (Nat.le_refl _) (fun k f=>f.elim)⟩
  ·
   have h5I: ¬(i:Int)<5:=by omega
   have h9I:((i:Int)==9)=true:=by simp;omega
   go_wp2_with fail
   go_ret
   exact ⟨rfl,HS5.out.below (Nat.le_refl _) (fun k f=>f.elim)⟩
 ·
  have HE:=zh (show tfE i=(0,0) by unfold tfE;rw [if_neg hlow])
  have h5I: ¬(i:Int)<5:=by omega
  have h9I:((i:Int)==9)=false:=by simp;omega
  go_wp2_with fail
  refine Ty1.out.mono ?_
  rintro en w5 ⟨rfl,hb5⟩
  have HS5:=zh (HS4.out.trans (since_below hb5))
  rw [HE.out]
  clear hb5
  go_wp2_with fail
  go_ret
  exact ⟨rfl,HS5.out.below (Nat.le_refl _) (fun k f=>f.elim)⟩
end Go.Proofs.YtkopjgnjflhkeaaGreatDoor
namespace Go.Proofs.YtkopjgnjflhkeaaGreatDoor
open Go.ChangeShapes Go.WideShapes Go.ChangeAt Go.RowKit Go.Pst
set_option linter.unusedVariables false
abbrev typedTables:List (String × DataW Unit):=[("math/bits.deBruijn32tab",Rows.laid_math_bits_deBruijn32tab),("math/bits.deBruijn64tab",Rows.laid_math_bits_deBruijn64tab),("internal/strconv.uint64pow10",Rows.laid_internal_strconv_uint64pow10),("strconv.ErrRange",Rows.laid_strconv_ErrRange),("strconv.ErrSyntax",Rows.laid_strconv_ErrSyntax),("postern/typed.counts",Rows.laid_postern_typed_counts),("postern/typed.exprCount",Rows.laid_postern_typed_exprCount),("postern/read.marks",Rows.laid_postern_read_marks),("postern/read.keywords",Rows.laid_postern_read_keywords),("postern/read.levels",Rows.laid_postern_read_levels)]
theorem gCounts:Tryz.prog.globalNamed "postern/typed.counts"=some 7:=by kernel_rfl
theorem gExprs:Tryz.prog.globalNamed "postern/typed.exprCount"=some 2:=by kernel_rfl
theorem tCounts:(Tryz.prog.globals[7]?).map (·.type)=some 240:=by kernel_rfl
theorem tExprs:(Tryz.prog.globals[2]?).map (·.type)=some 205:=by kernel_rfl
theorem countsData:(Rows.laid_postern_typed_counts:DataW Unit)=Lib.tabData .i64 [0,0,0,0,0,2,1,-1,1,2,2,-1,0]:=rfl
theorem exprsData:(Rows.laid_postern_typed_exprCount:DataW Unit)=Lib.tabData .i64 [0,1,1,2,1,1,1,1,-1,1,0,0,1,1]:=rfl
set_option maxRecDepth 100000 in
theorem typedLaid_of {W:World} (h:laidMetH Tryz.prog typedTables W):ReadLaid W∧TyLaid W W.heap.size:=by
 rw [MakeChecks.laidMetH_plain _ _ _ (by kernel_rfl)] at h
 have h3:=h.tail.tail
 have h4:=h3.tail
 have h5:=h4.tail.tail
 have h6:=h5.tail.tail
 have hy:TyLaid W W.heap.size:=by
  have h52:=h5.tail
  unfold typedTables at h5 h52
  rw [countsData] at h5
  simp only [exprsData] at h52
  have t1:=Lib.tabIs_of_head gCounts tCounts Tryz.underlying240 Tryz.underlying3 (by kernel_rfl) (by kernel_rfl) h5
  have t2:=Lib.tabIs_of_head gExprs tExprs Tryz.underlying205 Tryz.underlying3 (by kernel_rfl) (by kernel_rfl) h52
  refine ⟨⟨rd_lt_of_cell (t1.cell gCounts 0 (by decide)),rd_lt_of_cell (t2.cell gExprs 0 (by decide))⟩,fun k h1 h2=>?_,fun k h1 h2=>?_⟩
  ·
   rw [t1.cell gCounts k (by simp;omega)]
   rcases (show k=1∨k=2∨k=3∨k=4∨k=5∨k=6∨k=7∨k=8∨k=9∨k=10∨k=11∨k=12 by omega) with rfl|rfl|rfl|rfl|rfl|rfl|rfl|rfl|rfl|rfl|rfl|rfl<;>rfl
  ·
   rw [t2.cell gExprs k (by simp;omega)]
   rcases (show k=1∨k=2∨k=3∨k=4∨k=5∨k=6∨k=7∨k=8∨k=9∨k=10∨k=11∨k=12∨k=13 by omega) with rfl|rfl|rfl|rfl|rfl|rfl|rfl|rfl|rfl|rfl|rfl|rfl|rfl<;>rfl
 clear h5
 clear h
 rw [powData] at h3
 have ht:=Lib.tabIs_of_head gPow tPow Tryz.underlying257 Tryz.underlying223 (by kernel_rfl) (by kernel_rfl) h3
 clear h3
 have he:ErrOK W:=by
  obtain ⟨a0,s0,hv0,-,-,-⟩:=laid_sentinel h4 gRng tRng Tryz.underlying114 rowES Tryz.underlying253 Tryz.underlying255 rfl rfl Tryz.underlying9 (by kernel_rfl) (by kernel_rfl)
  have hc:=World.var?_cell gRng hv0 0
  exact ⟨⟨_,by simpa using hc,Or.inr ⟨_,_,rfl⟩⟩,rd_lt_of_cell hc⟩
 clear h4
 obtain ⟨ps,⟨g0,t0,cs0,f0,p0,q0,hg0,ht0,hv0,hd0,⟨g1,t1,cs1,f1,p1,q1,hg1,ht1,hv1,hd1,⟨g2,t2,cs2,f2,p2,q2,hg2,ht2,hv2,hd2,_,_⟩,_⟩,_⟩,_,_⟩:=h6
 obtain rfl:=Option.some.inj (gMarks.symm.trans hg0)
 obtain rfl:=Option.some.inj (gWords.symm.trans hg1)
 obtain rfl:=Option.some.inj (gLevels.symm.trans hg2)
 obtain rfl:=Option.some.inj (tMarks.symm.trans ht0)
 obtain rfl:=Option.some.inj (tWords.symm.trans ht1)
 obtain rfl:=Option.some.inj (tLevels.symm.trans ht2)
 simp only [dMarks] at hd0
 simp only [dWords] at hd1
 simp only [dLevels] at hd2
 have marks: ∀ k (h:k<marksR.length),W.cell? ⟨0,k,none⟩=some (.string ⟨marksR[k].toArray⟩):=by
  intro k hk
  obtain ⟨v,m,q,hv,hd⟩:=array_open Tryz.underlying120 (by kernel_rfl) (by kernel_rfl) hd0 k (.lit (.string marksR[k])) (by rw [List.getElem?_map,List.getElem?_eq_getElem hk];rfl)
  obtain ⟨t,e1,e2,_⟩:=DataW.trod_string Tryz.underlying9 hd
  simp only [Prod.mk.injEq,DataW.lit.injEq,Lit.string.injEq,List.cons.injEq,and_true] at e1 e2
  rw [World.var?_cell gMarks hv0 k,←Array.getElem?_toList,hv,e1]
  congr 2
  rw [e2.1]
 have words: ∃ a cap,W.cell? ⟨1,0,none⟩=some (.slice a 22 cap)∧StrsL W W.heap.size a wordsR:=by
  obtain ⟨a,cap,hcs,hs⟩:=texts_open (L:=wordsR) (by decide) hd1
  refine ⟨a,cap,?_,hs⟩
  rw [World.var?_cell gWords hv1 0,←Array.getElem?_toList,hcs]
  rfl
 have levels: ∀ n (h:n<opsR.length),∃ a cap,W.cell? ⟨10,n,none⟩=some (.slice a opsR[n].length cap)∧StrsL W W.heap.size a opsR[n]:=by
  intro n hn
  obtain ⟨v,m,q,hv,hd⟩:=array_open Tryz.underlying259 (by kernel_rfl) (by kernel_rfl) hd2 n (.slice (opsR[n].map litS) []) (by rw [List.getElem?_map,List.getElem?_eq_getElem hn];rfl)
  have hne:0<opsR[n].length:=(show ∀ L∈opsR,0<L.length by decide) _ (List.getElem_mem hn)
  obtain ⟨a,cap,hcs,hs⟩:=texts_open hne hd
  obtain rfl:=List.cons.inj hcs |>.1
  exact ⟨a,cap,by rw [World.var?_cell gLevels hv2 n,←Array.getElem?_toList,hv],hs⟩
 have hw:1<W.heap.size:=by obtain ⟨a,cap,h,_⟩:=words;exact rd_lt_of_cell h
 have hl:10<W.heap.size:=by obtain ⟨a,cap,h,_⟩:=levels 0 (by decide);exact rd_lt_of_cell h
 refine ⟨?_,hy⟩
 exact ⟨⟨⟨Nat.le_refl _,Nat.le_refl _⟩,⟨rd_lt_of_cell (marks 0 (by decide)),hw,hl⟩,words,marks,levels⟩,⟨ht,rd_lt_of_cell (ht.cell gPow 0 (by rw [Lib.pow10Tab_length];decide))⟩,he⟩
theorem typed_door_met (os:Os) (args:Array Value):laidMetH Tryz.prog typedTables ((World.doorLaid Tryz.prog 400 os).forCall (fun _ _=>0) ⟨#[],args,[]⟩).memory:=
 laidMetH_of_parts3 (fuel:=8) (laidMet_of_run' 8 (by kernel_rfl) (by kernel_rfl)) (by kernel_rfl) (by kernel_rfl)
end Go.Proofs.YtkopjgnjflhkeaaGreatDoor

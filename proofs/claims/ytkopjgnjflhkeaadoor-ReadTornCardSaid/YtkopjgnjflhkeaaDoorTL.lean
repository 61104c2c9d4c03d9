import Derived.Test.YtkopjgnjflhkeaaDoorTK
import Derived.Test.YtkopjgnjflhkeaaDoorTQ
import Derived.Test.YtkopjgnjflhkeaaDoorTR
import Derived.Test.YtkopjgnjflhkeaaDoorTJ
import Derived.Test.YtkopjgnjflhkeaaDoorTI
namespace Go.Proofs.YtkopjgnjflhkeaaDoor
open Go.RowKit Go.Pst
set_option linter.unusedVariables false
set_option linter.unusedSimpArgs false
theorem numL_size (r:PRaw):(numL r).size≤6:=pickS_le _ _ 6 (by
 intro x hx
 have h:=itoaB_le (pickN r.a 12) (by have:=pickN_lt r.a 12 (by decide);omega)
 simp only [List.mem_cons,List.not_mem_nil,or_false] at hx
 rcases hx with rfl|rfl|rfl|rfl|rfl|rfl<;>first|omega|decide)
theorem numG_size {main:Bool} {sub txt lst:BD} {S T L:Nat} (hs: ∀ l,(sub l).1.size≤S) (ht: ∀ l,(txt l).1.size≤T) (hl: ∀ l,(lst l).1.size≤L) (l:List PRaw):(numG main sub txt lst l).1.size≤2*S+T+L+60:=by
 have s1:=hs l.tail
 have s2:=hs (sub l.tail).2
 have t1:=ht l.tail
 have t2:=ht (sub l.tail).2
 have l1:=hl (txt l.tail).2
 have y0:=numL_size (firstB l)
 have y1:=pickS_le rowOps (firstB l).a 1 (by decide)
 have y2:=pickS_le rowDiv (firstB l).a 1 (by decide)
 have y3:=pickS_le rowBy (firstB l).b 8 (by decide)
 have y4:=pickS_le rowL (firstB l).a 10 (by decide)
 have y5:=pickS_le rowS (firstB l).a 10 (by decide)
 have y7:=pickS_le [(txt l.tail).1,⟨#[108]⟩,⟨#[109]⟩,(lst (txt l.tail).2).1] (firstB l).a (T+L+1) (by intro x hx;simp only [List.mem_cons,List.not_mem_nil,or_false] at hx;rcases hx with rfl|rfl|rfl|rfl<;>first|omega|(show 1≤_;omega))
 have y8:=pickS_le [⟨#[120]⟩,⟨#[121]⟩,itoaB (pickN (firstB l).a 300),⟨#[108,101,110,40,109,41]⟩] (firstB l).b 6 (by
  intro x hx
  have h:=itoaB_le (pickN (firstB l).a 300) (pickN_lt _ _ (by decide))
  simp only [List.mem_cons,List.not_mem_nil,or_false] at hx
  rcases hx with rfl|rfl|rfl|rfl<;>first|omega|decide)
 rw [numG_eq]
 repeat' split
 ·
  show (numL (firstB l)).size≤_;omega
 ·
  simp only [ByteArray.size_append];show 1+_+1+_+1+_+1≤_;omega
 ·
  simp only [ByteArray.size_append];show _+1+_+1+_≤_;omega
 ·
  simp only [ByteArray.size_append];show 2+_+1≤_;omega
 ·
  simp only [ByteArray.size_append];show 2+_+1≤_;omega
 ·
  simp only [ByteArray.size_append];show 2+_+1≤_;omega
 ·
  simp only [ByteArray.size_append];show 4+_+1≤_;omega
 ·
  simp only [ByteArray.size_append];show 2+_+2+_+1≤_;omega
 ·
  simp only [ByteArray.size_append];show 1+_≤_;omega
 ·
  simp only [ByteArray.size_append];show 2+_+1≤_;omega
 ·
  show (pickS _ _).size≤_;omega
theorem numG_said {main:Bool} {d:Nat} (hd:d≤5) {sub lst:BD} (hsub:NumSaid main d sub) (hlst:ListSaid main d lst) (hz: ∀ l,(numG main sub (textB d) lst l).1.size≤100000):NumSaid main ((d+1:Nat):Int) (numG main sub (textB d) lst):=by
 refine ⟨hz,?_⟩
 intro w bb B0 l loops h
 by_cases hl0:l.tail=[]
 ·
  have h0:=num_leaf (n:=((d+1:Nat):Int)) ⟨by omega,by omega⟩ h (Or.inr hl0)
  rw [show (numL (firstB l),l.tail)=numG main sub (textB d) lst l by rw [numG_eq,if_pos hl0]] at h0
  exact h0
 have h14:=pickN_lt (firstB l).kind 14 (by decide)
 rcases (show pickN (firstB l).kind 14<3∨pickN (firstB l).kind 14=3∨pickN (firstB l).kind 14=4∨pickN (firstB l).kind 14=5∨pickN (firstB l).kind 14=6∨pickN (firstB l).kind 14=7∨pickN (firstB l).kind 14=8∨pickN (firstB l).kind 14=9∨10≤pickN (firstB l).kind 14 by omega) with hk|hk|hk|hk|hk|hk|hk|hk|hk
 ·
  exact num_0 hd hsub hlst h hl0 hk
 ·
  exact num_3 hd hsub hlst h hl0 hk
 ·
  exact num_4 hd hsub hlst h hl0 hk
 ·
  exact num_5 hd hsub hlst h hl0 hk
 ·
  exact num_6 hd hsub hlst h hl0 hk
 ·
  exact num_7 hd hsub hlst h hl0 hk
 ·
  by_cases hm:main=true
  ·
   exact num_8 hd hsub hlst h hl0 hk hm
  ·
   exact num_88 hd hsub hlst h hl0 hk hm
 ·
  exact num_9 hd hsub hlst h hl0 hk
 ·
  exact num_10 hd hsub hlst h hl0 hk
theorem num0_said (main:Bool) {n:Int} (hn: -5≤n∧n≤0):NumSaid main n (numB main 0):=
 ⟨fun l=>Nat.le_trans (numL_size _) (by decide),fun h=>num_leaf ⟨hn.1,by omega⟩ h (Or.inl hn.2)⟩
theorem list0_said (main:Bool) {n:Int} (hn: -4≤n∧n≤1):ListSaid main n (listG (numB main 0)):=list_any ⟨by omega,by omega⟩ (num0_said main ⟨by omega,by omega⟩)
theorem num1_size (main:Bool) (l:List PRaw):(numB main 1 l).1.size≤200:=
 Nat.le_trans (numG_size (S:=6) (T:=12) (L:=24) (fun l=>numL_size _) (fun l=>textB_size 0 l) (fun l=>listG_size (S:=6) (fun l=>numL_size _) l) l) (by decide)
theorem num1_said (main:Bool):NumSaid main 1 (numB main 1):=
 numG_said (d:=0) (by decide) (num0_said main ⟨by decide,by decide⟩) (list0_said main ⟨by decide,by decide⟩) (fun l=>Nat.le_trans (num1_size main l) (by decide))
theorem num2_size (main:Bool) (l:List PRaw):(numB main 2 l).1.size≤600:=
 Nat.le_trans (numG_size (S:=200) (T:=36) (L:=24) (num1_size main) (fun l=>textB_size 1 l) (fun l=>listG_size (S:=6) (fun l=>numL_size _) l) l) (by decide)
theorem num2_said (main:Bool):NumSaid main 2 (numB main 2):=
 numG_said (d:=1) (by decide) (num1_said main) (list0_said main ⟨by decide,by decide⟩) (fun l=>Nat.le_trans (num2_size main l) (by decide))
theorem list2_said (main:Bool):ListSaid main 2 (listB main 2):=list_any ⟨by decide,by decide⟩ (num1_said main)
end Go.Proofs.YtkopjgnjflhkeaaDoor
namespace Go.Proofs.YtkopjgnjflhkeaaDoor
open Go.RowKit Go.Pst
set_option linter.unusedVariables false
set_option linter.unusedSimpArgs false
set_option maxRecDepth 4000 in
set_option maxHeartbeats 4000000 in
theorem truth_zero {main:Bool} {n:Int} (hn: -5≤n∧n≤0):TruthSaid main n (truthB main 0):=by
 refine ⟨fun l=>Nat.le_trans (pickS_le rowB (firstB l).a 7 (by decide)) (by decide),?_⟩
 intro w bb B0 l loops h
 obtain ⟨i0,i1,i2,i3⟩:=firstB_in h
 obtain ⟨r,hr⟩: ∃ r,r=firstB l:=⟨_,rfl⟩
 rw [←hr] at i0 i1 i2 i3
 obtain ⟨q,hq⟩: ∃ q,pickN r.a 4=q:=⟨_,rfl⟩
 have qlt:q<4:=by rw [←hq];exact pickN_lt _ _ (by decide)
 have qI:(q:Int)<4:=by omega
 have HR:=zh (show truthB main 0 l=(pickS rowB r.a,l.tail) by rw [hr];rfl)
 obtain ⟨hn1,hn2⟩:=hn
 have hl:=h.lt
 have hnx:=next_any h
 rw [←hr] at hnx
 have Hn:=zh hnx
 have Hr:=zh hr
 clear hnx hr h
 go_enter Tryd.func33,Tryd.ntmps33
 go_wp2_with fail
 refine Hn.out.mono ?_
 rintro e w1 ⟨rfl,hb,hs⟩
 have hz1:=hs.size
 have hb':=hb.new (Since.alloc (fun _=>False) w1 (.cells #[.int .i64 r.kind, .int .i64 r.a, .int .i64 r.b, .int .i64 r.c] 76))
 have hs':=hs.trans (Since.alloc (fun k=>k=bb) w1 (.cells #[.int .i64 r.kind, .int .i64 r.a, .int .i64 r.b, .int .i64 r.c] 76))
 have k0:=box_cell (w:=w1) (wr:=w1.alloc (.cells #[.int .i64 r.kind, .int .i64 r.a, .int .i64 r.b, .int .i64 r.c] 76)) ((Below.refl _ _)) 0
 have k1:=box_cell (w:=w1) (wr:=w1.alloc (.cells #[.int .i64 r.kind, .int .i64 r.a, .int .i64 r.b, .int .i64 r.c] 76)) ((Below.refl _ _)) 1
 have k2:=box_cell (w:=w1) (wr:=w1.alloc (.cells #[.int .i64 r.kind, .int .i64 r.a, .int .i64 r.b, .int .i64 r.c] 76)) ((Below.refl _ _)) 2
 unfold rawC
 go_wp2_with fail
 refine (picked_nat r.a 4 _ i1 (by decide) (by decide)).mono ?_
 rintro e w2 ⟨rfl,rfl⟩
 rw [hq]
 have c:((w1.alloc (.cells #[.int .i64 r.kind, .int .i64 r.a, .int .i64 r.b, .int .i64 r.c] 76)).alloc (.cells #[.string ⟨#[98]⟩, .string ⟨#[116,114,117,101]⟩, .string ⟨#[102,97,108,115,101]⟩, .string ⟨#[40,120,32,60,32,121,41]⟩] 9)).cell? ⟨w1.heap.size+1,q,none⟩=some (.string (pickS rowB r.a)):=by
  have c:=pick_cell rowB r.a q hq (by decide) 9 (w1.alloc (.cells #[.int .i64 r.kind, .int .i64 r.a, .int .i64 r.b, .int .i64 r.c] 76))
  rw [World.size_alloc] at c
  exact c
 have hb2:=hb'.new (Since.alloc _ _ (.cells #[.string ⟨#[98]⟩, .string ⟨#[116,114,117,101]⟩, .string ⟨#[102,97,108,115,101]⟩, .string ⟨#[40,120,32,60,32,121,41]⟩] 9))
 have hs2:=hs'.trans (Since.alloc _ _ (.cells #[.string ⟨#[98]⟩, .string ⟨#[116,114,117,101]⟩, .string ⟨#[102,97,108,115,101]⟩, .string ⟨#[40,120,32,60,32,121,41]⟩] 9))
 generalize (w1.alloc (.cells #[.int .i64 r.kind, .int .i64 r.a, .int .i64 r.b, .int .i64 r.c] 76)).alloc (.cells #[.string ⟨#[98]⟩, .string ⟨#[116,114,117,101]⟩, .string ⟨#[102,97,108,115,101]⟩, .string ⟨#[40,120,32,60,32,121,41]⟩] 9)=w2 at *
 go_wp2_with fail
 go_ret
 rw [HR.out]
 exact ⟨rfl,hb2,hs2⟩
theorem truthB_size {main:Bool} {d S X N:Nat} (ht: ∀ l,(truthB main d l).1.size≤S) (hx: ∀ l,(textB d l).1.size≤X) (hn: ∀ l,(numB main d l).1.size≤N) (l:List PRaw):(truthB main (d+1) l).1.size≤2*S+2*X+2*N+20:=by
 have t1:=ht l.tail
 have t2:=ht (truthB main d l.tail).2
 have x1:=hx l.tail
 have x2:=hx (textB d l.tail).2
 have n1:=hn l.tail
 have n2:=hn (numB main d l.tail).2
 have c1:(cmpS (firstB l).a).size≤2:=pickS_le rowC _ 2 (by decide)
 rw [truthB_succ]
 repeat' split
 ·
  simp only [ByteArray.size_append]
  show 1+_+4+_+1≤_
  omega
 ·
  simp only [ByteArray.size_append]
  show 1+_+4+_+1≤_
  omega
 ·
  simp only [ByteArray.size_append]
  show 1+_≤_
  omega
 ·
  simp only [ByteArray.size_append]
  show 1+_+1+_+1+_+1≤_
  omega
 ·
  simp only [ByteArray.size_append]
  show 1+_+1+_+1+_+1≤_
  omega
theorem truth_succ {main:Bool} {d:Nat} (hd:d≤5) (ih:TruthSaid main d (truthB main d)) (hnum:NumSaid main d (numB main d)) {w:World} {bb B0:Nat} {l:List PRaw} {loops:Int} (h:BardAt w bb B0 l loops main):
 Calls Tryd.prog 33 #[.pointer (some ⟨bb,0,none⟩), .int .i64 ((d+1:Nat):Int)] w (BardEnd w bb B0 loops main (truthB main (d+1) l)):=by
 have h6:=pickN_lt (firstB l).kind 6 (by decide)
 rcases (show pickN (firstB l).kind 6=0∨pickN (firstB l).kind 6=1∨pickN (firstB l).kind 6=2∨pickN (firstB l).kind 6=3∨(pickN (firstB l).kind 6=4∨pickN (firstB l).kind 6=5) by omega) with hk|hk|hk|hk|hk
 ·
  exact truth_0 hd ih hnum h hk
 ·
  exact truth_1 hd ih hnum h hk
 ·
  exact truth_2 hd ih hnum h hk
 ·
  exact truth_3 hd ih hnum h hk
 ·
  exact truth_4 hd ih hnum h hk
theorem truth0_size (main:Bool) (l:List PRaw):(truthB main 0 l).1.size≤7:=pickS_le rowB (firstB l).a 7 (by decide)
theorem truth1_size (main:Bool) (l:List PRaw):(truthB main 1 l).1.size≤100:=
 Nat.le_trans (truthB_size (S:=7) (X:=12) (N:=6) (truth0_size main) (fun l=>textB_size 0 l) (fun l=>numL_size _) l) (by decide)
theorem truth2_size (main:Bool) (l:List PRaw):(truthB main 2 l).1.size≤700:=
 Nat.le_trans (truthB_size (S:=100) (X:=36) (N:=200) (truth1_size main) (fun l=>textB_size 1 l) (num1_size main) l) (by decide)
theorem truth1_said (main:Bool):TruthSaid main 1 (truthB main 1):=
 ⟨fun l=>Nat.le_trans (truth1_size main l) (by decide),fun h=>truth_succ (d:=0) (by decide) (truth_zero ⟨by decide,by decide⟩) (num0_said main ⟨by decide,by decide⟩) h⟩
theorem truth2_said (main:Bool):TruthSaid main 2 (truthB main 2):=
 ⟨fun l=>Nat.le_trans (truth2_size main l) (by decide),fun h=>truth_succ (d:=1) (by decide) (truth1_said main) (num1_said main) h⟩
end Go.Proofs.YtkopjgnjflhkeaaDoor
namespace Go.Proofs.YtkopjgnjflhkeaaDoor
open Go.RowKit Go.Pst
set_option linter.unusedVariables false
set_option linter.unusedSimpArgs false
theorem text2_any {w:World} {bb B0:Nat} {l:List PRaw} {loops:Int} {main:Bool} (h:BardAt w bb B0 l loops main):
 Calls Tryd.prog 31 #[.pointer (some ⟨bb,0,none⟩), .int .i64 2] w (BardEnd w bb B0 loops main (textB 2 l)):=text_any 2 (by decide) h
theorem text1_any {w:World} {bb B0:Nat} {l:List PRaw} {loops:Int} {main:Bool} (h:BardAt w bb B0 l loops main):
 Calls Tryd.prog 31 #[.pointer (some ⟨bb,0,none⟩), .int .i64 1] w (BardEnd w bb B0 loops main (textB 1 l)):=text_any 1 (by decide) h
theorem plainB_eq (main lo:Bool) (l:List PRaw):plainB main lo (firstB l) l.tail=if pickN (firstB l).kind 24<3 then some ((pickS rowXY (firstB l).a++(⟨#[32,61,32]⟩:ByteArray))++(numB main 2 l.tail).1,(numB main 2 l.tail).2) else if pickN (firstB l).kind 24=3 then some ((⟨#[115,32,61,32]⟩:ByteArray)++(textB 2 l.tail).1,(textB 2 l.tail).2) else if pickN (firstB l).kind 24=4 then some ((pickS rowLK (firstB l).a++(⟨#[32,61,32]⟩:ByteArray))++(listB main 2 l.tail).1,(listB main 2 l.tail).2) else if pickN (firstB l).kind 24=5 then some ((⟨#[98,32,61,32]⟩:ByteArray)++(truthB main 2 l.tail).1,(truthB main 2 l.tail).2) else if pickN (firstB l).kind 24=6 then some ((((⟨#[109,91]⟩:ByteArray)++(numB main 1 l.tail).1)++(⟨#[93,32,61,32]⟩:ByteArray))++(numB main 2 (numB main 1 l.tail).2).1,(numB main 2 (numB main 1 l.tail).2).2) else if pickN (firstB l).kind 24=7 then some ((((⟨#[108,91]⟩:ByteArray)++pickS row0x1 (firstB l).a)++(⟨#[93,32,61,32]⟩:ByteArray))++(numB main 2 l.tail).1,(numB main 2 l.tail).2) else if pickN (firstB l).kind 24=8 then some (((⟨#[100,101,108,101,116,101,40,109,44,32]⟩:ByteArray)++(numB main 1 l.tail).1)++(⟨#[41]⟩:ByteArray),(numB main 1 l.tail).2) else if pickN (firstB l).kind 24<12 then some (((⟨#[112,114,105,110,116,40]⟩:ByteArray)++pickS [(numB main 2 l.tail).1,(textB 2 (numB main 2 l.tail).2).1,(truthB main 2 (textB 2 (numB main 2 l.tail).2).2).1] (firstB l).a)++(⟨#[41]⟩:ByteArray),(truthB main 2 (textB 2 (numB main 2 l.tail).2).2).2) else if pickN (firstB l).kind 24=12∧lo=true then some (pickS rowBr (firstB l).a,l.tail) else if pickN (firstB l).kind 24=13∧main=true then some (((⟨#[102,40]⟩:ByteArray)++(numB main 1 l.tail).1)++(⟨#[44,32,115,41]⟩:ByteArray),(numB main 1 l.tail).2) else none:=rfl
theorem stmtB_plain {main:Bool} {d:Nat} {lo:Bool} {l:List PRaw} {p:ByteArray × List PRaw} (h:plainB main lo (firstB l) l.tail=some p):stmtB main d lo l=p:=by
 cases d with
 |zero=>unfold stmtB;rw [h]
 |succ d=>unfold stmtB;rw [h]
theorem sizes_main (main:Bool):(∀ l,(numB main 1 l).1.size≤1000)∧(∀ l,(numB main 2 l).1.size≤1000)∧(∀ l,(textB 2 l).1.size≤1000)∧(∀ l,(listB main 2 l).1.size≤1000)∧(∀ l,(truthB main 2 l).1.size≤1000):=
 ⟨fun l=>Nat.le_trans (num1_size main l) (by decide),fun l=>Nat.le_trans (num2_size main l) (by decide),fun l=>Nat.le_trans (textB_size 2 l) (by decide),fun l=>Nat.le_trans (listG_size (num1_size main) l) (by decide),fun l=>Nat.le_trans (truth2_size main l) (by decide)⟩
end Go.Proofs.YtkopjgnjflhkeaaDoor
namespace Go.Proofs.YtkopjgnjflhkeaaDoor
open Go.RowKit Go.Pst
set_option linter.unusedVariables false
set_option linter.unusedSimpArgs false
def StmtSaid (main:Bool) (d loops:Int) (f:BD):Prop:=(∀ l,(f l).1.size≤100000)∧ ∀ {w:World} {bb B0:Nat} {l:List PRaw},BardAt w bb B0 l loops main→
 Calls Tryd.prog 14 #[.pointer (some ⟨bb,0,none⟩), .int .i64 d] w (BardEnd w bb B0 loops main (f l))
theorem stmtsB_size {st:BD} {S:Nat} (h: ∀ l,(st l).1.size≤S): ∀ (n:Nat) (s:ByteArray) (l:List PRaw),(stmtsB st n s l).1.size≤s.size+n*(S+1)
 |0,s,l=>by show s.size≤_;omega
 |n+1,s,l=>by
  have h1:=stmtsB_size h n (s++((st l).1++⟨#[10]⟩)) (st l).2
  have h2:=h l
  have h3:(s++((st l).1++(⟨#[10]⟩:ByteArray))).size=s.size+((st l).1.size+1):=by simp only [ByteArray.size_append];rfl
  show (stmtsB st n (s++((st l).1++⟨#[10]⟩)) (st l).2).1.size≤_
  rw [Nat.succ_mul]
  omega
theorem blockB_size {st:BD} {S:Nat} (h: ∀ l,(st l).1.size≤S) (n:Nat) (l:List PRaw):(blockB st n l).1.size≤n*(S+1)+3:=by
 have h1:=stmtsB_size h n ⟨#[123,10]⟩ l
 show ((stmtsB st n ⟨#[123,10]⟩ l).1++(⟨#[125]⟩:ByteArray)).size≤_
 simp only [ByteArray.size_append]
 have h2:(⟨#[123,10]⟩:ByteArray).size=2:=rfl
 have h3:(⟨#[125]⟩:ByteArray).size=1:=rfl
 omega
set_option maxRecDepth 100000 in
set_option maxHeartbeats 8000000 in
theorem block_any {main:Bool} {d loops:Int} {st:BD} (hst:StmtSaid main d loops st) (hd: -5≤d∧d≤10) (n:Nat) (hn:n≤2) {w:World} {bb B0:Nat} {l:List PRaw} (h:BardAt w bb B0 l loops main):
 Calls Tryd.prog 34 #[.pointer (some ⟨bb,0,none⟩), .int .i64 d, .int .i64 n] w (BardEnd w bb B0 loops main (blockB st n l)):=by
 have hnI:(n:Int)≤2:=by omega
 obtain ⟨Res,hRes⟩: ∃ Res,Res=stmtsB st n ⟨#[123,10]⟩ l:=⟨_,rfl⟩
 have HR:=zh (show blockB st n l=(Res.1++⟨#[125]⟩,Res.2) by rw [hRes];rfl)
 have HRes:=zh hRes
 have Hst:=zh hst
 have H:=zh h
 have hsz:=hst.1
 clear hRes hst h
 go_enter Tryd.func34,Tryd.ntmps34
 go_wp2_with fail
 go_loopw [7,9] (fun s j wr=> ∃ (S:ByteArray) (i:Nat) (l':List PRaw),s= .string S∧j= .int .i64 i∧i≤n∧BardAt wr bb B0 l' loops main∧Since (fun k=>k=bb) w wr∧S.size≤2+i*100001∧Res=stmtsB st (n - i) S l') (fun _ j _=>n - (intOf j).toNat)
 case atStart=>exact ⟨_,0,l,rfl,rfl,Nat.zero_le _,H.out,Since.refl _ _,by decide,HRes.out⟩
 case round=>
  obtain ⟨S,i,l',rfl,rfl,hi,hb,hs,hS,hR⟩:=hrel
  have hS3:S.size≤300000:=by omega
  by_cases hlt:i<n
  ·
   have hltI:(i:Int)<(n:Int):=by omega
   have z1:=hsz l'
   have HR2:=zh (show Res=stmtsB st (n - (i+1)) (S++((st l').1++⟨#[10]⟩)) (st l').2 by rw [hR,show n - i=(n - (i+1))+1 by omega];rfl)
   clear hR
   go_wp2_with fail
   refine (Hst.out.2 hb).mono ?_
   rintro e w2 ⟨rfl,hb2,hs2⟩
   go_wp2_with fail
   refine ⟨⟨_,i+1,_,rfl,by go_num,by omega,hb2,hs.trans hs2,?_,HR2.out⟩,by simp [intOf];omega⟩
   simp only [ByteArray.size_append]
   have h3:(⟨#[10]⟩:ByteArray).size=1:=rfl
   omega
  ·
   have hnl: ¬((i:Int)<(n:Int)):=by omega
   have hR2:Res=(S,l'):=by rw [hR,show n - i=0 by omega];rfl
   have HR2:=zh hR2
   clear hR hR2
   go_wp2_with fail
   go_ret
   rw [HR.out,HR2.out]
   exact ⟨rfl,hb,hs⟩
end Go.Proofs.YtkopjgnjflhkeaaDoor

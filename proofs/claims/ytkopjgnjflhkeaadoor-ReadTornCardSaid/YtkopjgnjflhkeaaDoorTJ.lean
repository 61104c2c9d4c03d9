import Derived.Test.YtkopjgnjflhkeaaDoorTI
import Derived.Test.YtkopjgnjflhkeaaDoorTC
namespace Go.Proofs.YtkopjgnjflhkeaaDoor
open Go.RowKit Go.Pst
set_option linter.unusedVariables false
set_option linter.unusedSimpArgs false
theorem pickN_lt (n:Int) (m:Nat) (hm:0<m):pickN n m<m:=by
 have h:= @pickF_in n m (by omega)
 unfold pickN
 omega
theorem picked_nat (n:Int) (m:Nat) (w:World) (hn:InI n) (hm:0<m) (hm':m≤1000):
 Calls Tryd.prog 7 #[.int .i64 n, .int .i64 m] w fun e w'=>e= .returned (.int .i64 (pickN n m))∧w=w':=by
 have h:= @pickF_in n m (by omega)
 refine (picked_any n m w hn (by omega) (by unfold InI;omega)).mono ?_
 rintro e w' ⟨rfl,rfl⟩
 refine ⟨?_,rfl⟩
 have:pickF n m=(pickN n m:Int):=by unfold pickN;omega
 rw [this]
theorem pick_cell (L:List ByteArray) (n:Int) (q:Nat) (hq:pickN n L.length=q) (hL:0<L.length) (T:TypeId) (w:World):(w.alloc (.cells (L.map Value.string).toArray T)).cell? ⟨w.heap.size,q,none⟩=some (.string (pickS L n)):=by
 have hlt:q<L.length:=by rw [←hq];exact pickN_lt n _ hL
 rw [box_cell (Below.refl _ _)]
 unfold pickS
 rw [hq]
 simp [List.getD,hlt]
theorem textB_succ (d:Nat) (l0:List PRaw):textB (d+1) l0=if pickN (firstB l0).kind 3=0 then (textL (firstB l0),l0.tail) else (((((⟨#[40]⟩:ByteArray)++(textB d l0.tail).1)++(⟨#[32,43,32]⟩:ByteArray))++(textB d (textB d l0.tail).2).1)++(⟨#[41]⟩:ByteArray),(textB d (textB d l0.tail).2).2):=rfl
theorem pickS_le (L:List ByteArray) (n:Int) (k:Nat) (h: ∀ x∈L,x.size≤k):(pickS L n).size≤k:=by
 unfold pickS
 rw [List.getD_eq_getElem?_getD]
 cases e:L[pickN n L.length]? with
 |none=>exact Nat.zero_le _
 |some x=>exact h x (List.mem_of_getElem? e)
theorem textB_size: ∀ (d:Nat) (l:List PRaw),(textB d l).1.size≤12*3 ^ d
 |0,l=>Nat.le_trans (pickS_le rowTx _ 7 (by decide)) (by decide)
 |d+1,l=>by
  have h1:=textB_size d l.tail
  have h2:=textB_size d (textB d l.tail).2
  have hp:3 ^ (d+1)=3*3 ^ d:=by rw [Nat.pow_succ];omega
  have hq:1≤3 ^ d:=Nat.one_le_pow _ _ (by decide)
  rw [textB_succ]
  split
  ·
   have:(textL (firstB l)).size≤7:=pickS_le rowTx _ 7 (by decide)
   show (textL (firstB l)).size≤_
   omega
  ·
   simp only [ByteArray.size_append]
   show 1+(textB d l.tail).1.size+3+(textB d (textB d l.tail).2).1.size+1≤_
   omega
theorem textB_le {d:Nat} (h:d≤10) (l:List PRaw):(textB d l).1.size≤1000000:=by
 have h1:=textB_size d l
 have h2:3 ^ d≤3 ^ 10:=Nat.pow_le_pow_right (by decide) h
 have h3:3 ^ 10=59049:=rfl
 omega
set_option maxRecDepth 4000 in
set_option maxHeartbeats 4000000 in
theorem text_any: ∀ (d:Nat) {w:World} {bb B0:Nat} {l:List PRaw} {loops:Int} {main:Bool},d≤10→BardAt w bb B0 l loops main→
 Calls Tryd.prog 31 #[.pointer (some ⟨bb,0,none⟩), .int .i64 d] w (BardEnd w bb B0 loops main (textB d l)):=by
 intro d
 induction d with
 |zero=>
  intro w bb B0 l loops main hd h
  obtain ⟨i0,i1,i2,i3⟩:=firstB_in h
  obtain ⟨r,hr⟩: ∃ r,r=firstB l:=⟨_,rfl⟩
  rw [←hr] at i0 i1 i2 i3
  obtain ⟨q,hq⟩: ∃ q,pickN r.a 7=q:=⟨_,rfl⟩
  have qlt:q<7:=by rw [←hq];exact pickN_lt _ _ (by decide)
  have qI:(q:Int)<7:=by omega
  have HR:=zh (show textB 0 l=(pickS rowTx r.a,l.tail) by rw [hr];rfl)
  have hl:=h.lt
  have hnx:=next_any h
  rw [←hr] at hnx
  have Hn:=zh hnx
  have Hr:=zh hr
  clear hnx hr h
  go_enter Tryd.func31,Tryd.ntmps31
  go_wp2_with fail
  refine Hn.out.mono ?_
  rintro e w1 ⟨rfl,hb,hs⟩
  have hz1:=hs.size
  have hb':=hb.new (Since.alloc (fun _=>False) w1 (.cells #[.int .i64 r.kind, .int .i64 r.a, .int .i64 r.b, .int .i64 r.c] 76))
  have hs':=hs.trans (Since.alloc (fun k=>k=bb) w1 (.cells #[.int .i64 r.kind, .int .i64 r.a, .int .i64 r.b, .int .i64 r.c] 76))
  have k0:=box_cell (w:=w1) (wr:=w1.alloc (.cells #[.int .i64 r.kind, .int .i64 r.a, .int .i64 r.b, .int .i64 r.c] 76)) ((Below.refl _ _)) 0
  have k1:=box_cell (w:=w1) (wr:=w1.alloc (.cells #[.int .i64 r.kind, .int .i64 r.a, .int .i64 r.b, .int .i64 r.c] 76)) ((Below.refl _ _)) 1
  have k2:=box_cell (w:=w1) (wr:=w1.alloc (.cells #[.int .i64 r.kind, .int .i64 r.a, .int .i64 r.b, .int .i64 r.c] 76)) ((Below.refl _ _)) 2
  unfold rawC
  go_wp2_with fail
  refine (picked_nat r.a 7 _ i1 (by decide) (by decide)).mono ?_
  rintro e w2 ⟨rfl,rfl⟩
  rw [hq]
  have c:((w1.alloc (.cells #[.int .i64 r.kind, .int .i64 r.a, .int .i64 r.b, .int .i64 r.c] 76)).alloc (.cells #[.string ⟨#[115]⟩, .string ⟨#[34,34]⟩, .string ⟨#[34,97,98,34]⟩, .string ⟨#[34,195,169,34]⟩, .string ⟨#[34,92,110,92,34,34]⟩, .string ⟨#[116]⟩, .string ⟨#[34,230,151,165,120,34]⟩] 9)).cell? ⟨w1.heap.size+1,q,none⟩=some (.string (pickS rowTx r.a)):=by
   have c:((w1.alloc (.cells #[.int .i64 r.kind, .int .i64 r.a, .int .i64 r.b, .int .i64 r.c] 76)).alloc (.cells #[.string ⟨#[115]⟩, .string ⟨#[34,34]⟩, .string ⟨#[34,97,98,34]⟩, .string ⟨#[34,195,169,34]⟩, .string ⟨#[34,92,110,92,34,34]⟩, .string ⟨#[116]⟩, .string ⟨#[34,230,151,165,120,34]⟩] 9)).cell? ⟨w1.heap.size+1,q,none⟩=some (.string (pickS rowTx r.a)):=by
    have c:=pick_cell rowTx r.a q hq (by decide) 9 (w1.alloc (.cells #[.int .i64 r.kind, .int .i64 r.a, .int .i64 r.b, .int .i64 r.c] 76))
    rw [World.size_alloc] at c
    exact c
   exact c
  have hb2:=hb'.new (Since.alloc _ _ (.cells #[.string ⟨#[115]⟩, .string ⟨#[34,34]⟩, .string ⟨#[34,97,98,34]⟩, .string ⟨#[34,195,169,34]⟩, .string ⟨#[34,92,110,92,34,34]⟩, .string ⟨#[116]⟩, .string ⟨#[34,230,151,165,120,34]⟩] 9))
  have hs2:=hs'.trans (Since.alloc _ _ (.cells #[.string ⟨#[115]⟩, .string ⟨#[34,34]⟩, .string ⟨#[34,97,98,34]⟩, .string ⟨#[34,195,169,34]⟩, .string ⟨#[34,92,110,92,34,34]⟩, .string ⟨#[116]⟩, .string ⟨#[34,230,151,165,120,34]⟩] 9))
  generalize (w1.alloc (.cells #[.int .i64 r.kind, .int .i64 r.a, .int .i64 r.b, .int .i64 r.c] 76)).alloc (.cells #[.string ⟨#[115]⟩, .string ⟨#[34,34]⟩, .string ⟨#[34,97,98,34]⟩, .string ⟨#[34,195,169,34]⟩, .string ⟨#[34,92,110,92,34,34]⟩, .string ⟨#[116]⟩, .string ⟨#[34,230,151,165,120,34]⟩] 9)=w2 at *
  go_wp2_with fail
  go_ret
  rw [HR.out]
  exact ⟨rfl,hb2,hs2⟩
 |succ d ih=>
  intro w bb B0 l loops main hd h
  obtain ⟨i0,i1,i2,i3⟩:=firstB_in h
  obtain ⟨r,hr⟩: ∃ r,r=firstB l:=⟨_,rfl⟩
  rw [←hr] at i0 i1 i2 i3
  obtain ⟨q,hq⟩: ∃ q,pickN r.a 7=q:=⟨_,rfl⟩
  have qlt:q<7:=by rw [←hq];exact pickN_lt _ _ (by decide)
  have qI:(q:Int)<7:=by omega
  obtain ⟨k,hk⟩: ∃ k,pickN r.kind 3=k:=⟨_,rfl⟩
  have hdI:(d:Int)≤9:=by omega
  have hnd: ¬((d:Int)+1≤0):=by omega
  by_cases hk0:k=0
  ·
   have HR:=zh (show textB (d+1) l=(pickS rowTx r.a,l.tail) by rw [textB_succ,←hr,hk,if_pos hk0];rfl)
   subst hk0
   have hl:=h.lt
   have hnx:=next_any h
   rw [←hr] at hnx
   have Hn:=zh hnx
   have Hr:=zh hr
   clear hnx hr h
   go_enter Tryd.func31,Tryd.ntmps31
   go_wp2_with fail
   refine Hn.out.mono ?_
   rintro e w1 ⟨rfl,hb,hs⟩
   have hz1:=hs.size
   have hb':=hb.new (Since.alloc (fun _=>False) w1 (.cells #[.int .i64 r.kind, .int .i64 r.a, .int .i64 r.b, .int .i64 r.c] 76))
   have hs':=hs.trans (Since.alloc (fun k=>k=bb) w1 (.cells #[.int .i64 r.kind, .int .i64 r.a, .int .i64 r.b, .int .i64 r.c] 76))
   have k0:=box_cell (w:=w1) (wr:=w1.alloc (.cells #[.int .i64 r.kind, .int .i64 r.a, .int .i64 r.b, .int .i64 r.c] 76)) ((Below.refl _ _)) 0
   have k1:=box_cell (w:=w1) (wr:=w1.alloc (.cells #[.int .i64 r.kind, .int .i64 r.a, .int .i64 r.b, .int .i64 r.c] 76)) ((Below.refl _ _)) 1
   have k2:=box_cell (w:=w1) (wr:=w1.alloc (.cells #[.int .i64 r.kind, .int .i64 r.a, .int .i64 r.b, .int .i64 r.c] 76)) ((Below.refl _ _)) 2
   unfold rawC
   go_wp2_with fail
   refine (picked_nat r.kind 3 _ i0 (by decide) (by decide)).mono ?_
   rintro e w2 ⟨rfl,rfl⟩
   rw [hk]
   go_wp2_with fail
   refine (picked_nat r.a 7 _ i1 (by decide) (by decide)).mono ?_
   rintro e w2 ⟨rfl,rfl⟩
   rw [hq]
   have c:((w1.alloc (.cells #[.int .i64 r.kind, .int .i64 r.a, .int .i64 r.b, .int .i64 r.c] 76)).alloc (.cells #[.string ⟨#[115]⟩, .string ⟨#[34,34]⟩, .string ⟨#[34,97,98,34]⟩, .string ⟨#[34,195,169,34]⟩, .string ⟨#[34,92,110,92,34,34]⟩, .string ⟨#[116]⟩, .string ⟨#[34,230,151,165,120,34]⟩] 9)).cell? ⟨w1.heap.size+1,q,none⟩=some (.string (pickS rowTx r.a)):=by
    have c:=pick_cell rowTx r.a q hq (by decide) 9 (w1.alloc (.cells #[.int .i64 r.kind, .int .i64 r.a, .int .i64 r.b, .int .i64 r.c] 76))
    rw [World.size_alloc] at c
    exact c
   have hb2:=hb'.new (Since.alloc _ _ (.cells #[.string ⟨#[115]⟩, .string ⟨#[34,34]⟩, .string ⟨#[34,97,98,34]⟩, .string ⟨#[34,195,169,34]⟩, .string ⟨#[34,92,110,92,34,34]⟩, .string ⟨#[116]⟩, .string ⟨#[34,230,151,165,120,34]⟩] 9))
   have hs2:=hs'.trans (Since.alloc _ _ (.cells #[.string ⟨#[115]⟩, .string ⟨#[34,34]⟩, .string ⟨#[34,97,98,34]⟩, .string ⟨#[34,195,169,34]⟩, .string ⟨#[34,92,110,92,34,34]⟩, .string ⟨#[116]⟩, .string ⟨#[34,230,151,165,120,34]⟩] 9))
   generalize (w1.alloc (.cells #[.int .i64 r.kind, .int .i64 r.a, .int .i64 r.b, .int .i64 r.c] 76)).alloc (.cells #[.string ⟨#[115]⟩, .string ⟨#[34,34]⟩, .string ⟨#[34,97,98,34]⟩, .string ⟨#[34,195,169,34]⟩, .string ⟨#[34,92,110,92,34,34]⟩, .string ⟨#[116]⟩, .string ⟨#[34,230,151,165,120,34]⟩] 9)=w2 at *
   go_wp2_with fail
   go_ret
   rw [HR.out]
   exact ⟨rfl,hb2,hs2⟩
  ·
   have HR:=zh (show textB (d+1) l=(((((⟨#[40]⟩:ByteArray)++(textB d l.tail).1)++(⟨#[32,43,32]⟩:ByteArray))++(textB d (textB d l.tail).2).1)++(⟨#[41]⟩:ByteArray),(textB d (textB d l.tail).2).2) by rw [textB_succ,←hr,hk,if_neg hk0])
   have hkI:((k:Int)==0)=false:=by simp;omega
   have z1:=textB_le (d:=d) (by omega) l.tail
   have z2:=textB_le (d:=d) (by omega) (textB d l.tail).2
   have hl:=h.lt
   have hnx:=next_any h
   rw [←hr] at hnx
   have Hn:=zh hnx
   have Hr:=zh hr
   clear hnx hr h
   go_enter Tryd.func31,Tryd.ntmps31
   go_wp2_with fail
   refine Hn.out.mono ?_
   rintro e w1 ⟨rfl,hb,hs⟩
   have hz1:=hs.size
   have hb':=hb.new (Since.alloc (fun _=>False) w1 (.cells #[.int .i64 r.kind, .int .i64 r.a, .int .i64 r.b, .int .i64 r.c] 76))
   have hs':=hs.trans (Since.alloc (fun k=>k=bb) w1 (.cells #[.int .i64 r.kind, .int .i64 r.a, .int .i64 r.b, .int .i64 r.c] 76))
   have k0:=box_cell (w:=w1) (wr:=w1.alloc (.cells #[.int .i64 r.kind, .int .i64 r.a, .int .i64 r.b, .int .i64 r.c] 76)) ((Below.refl _ _)) 0
   have k1:=box_cell (w:=w1) (wr:=w1.alloc (.cells #[.int .i64 r.kind, .int .i64 r.a, .int .i64 r.b, .int .i64 r.c] 76)) ((Below.refl _ _)) 1
   have k2:=box_cell (w:=w1) (wr:=w1.alloc (.cells #[.int .i64 r.kind, .int .i64 r.a, .int .i64 r.b, .int .i64 r.c] 76)) ((Below.refl _ _)) 2
   unfold rawC
   go_wp2_with fail
   refine (picked_nat r.kind 3 _ i0 (by decide) (by decide)).mono ?_
   rintro e w2 ⟨rfl,rfl⟩
   rw [hk]
   go_wp2_with fail
   refine (ih (by omega) hb').mono ?_
   rintro e w3 ⟨rfl,hb3,hs3⟩
   go_wp2_with fail
   refine (ih (by omega) hb3).mono ?_
   rintro e w4 ⟨rfl,hb4,hs4⟩
   go_wp2_with fail
   go_ret
   rw [HR.out]
   exact ⟨rfl,hb4,(hs'.trans hs3).trans hs4⟩
end Go.Proofs.YtkopjgnjflhkeaaDoor
namespace Go.Proofs.YtkopjgnjflhkeaaDoor
open Go.RowKit Go.Pst
set_option linter.unusedVariables false
set_option linter.unusedSimpArgs false
theorem itoaB_le (n:Nat) (h:n<300):(itoaB n).size≤3:=by
 have key:(List.range 300).all (fun n=>decide ((itoaB n).size≤3))=true:=by kernel_rfl
 have:=List.all_eq_true.1 key n (List.mem_range.2 h)
 simpa using this
def NumSaid (main:Bool) (n:Int) (f:BD):Prop:=(∀ l,(f l).1.size≤100000)∧ ∀ {w:World} {bb B0:Nat} {l:List PRaw} {loops:Int},BardAt w bb B0 l loops main→
 Calls Tryd.prog 30 #[.pointer (some ⟨bb,0,none⟩), .int .i64 n] w (BardEnd w bb B0 loops main (f l))
def ListSaid (main:Bool) (n:Int) (f:BD):Prop:=(∀ l,(f l).1.size≤300000)∧ ∀ {w:World} {bb B0:Nat} {l:List PRaw} {loops:Int},BardAt w bb B0 l loops main→
 Calls Tryd.prog 32 #[.pointer (some ⟨bb,0,none⟩), .int .i64 n] w (BardEnd w bb B0 loops main (f l))
theorem listG_eq (f:BD) (l0:List PRaw):listG f l0=if pickN (firstB l0).kind 4=0 then ((((((⟨#[115,108,105,99,101,40]⟩:ByteArray)++(f l0.tail).1)++(⟨#[44,32]⟩:ByteArray))++(f (f l0.tail).2).1)++(⟨#[41]⟩:ByteArray)),(f (f l0.tail).2).2)
 else if pickN (firstB l0).kind 4=1 then ((((⟨#[97,112,112,101,110,100,40,108,44,32]⟩:ByteArray)++(f l0.tail).1)++(⟨#[41]⟩:ByteArray)),(f l0.tail).2)
 else if pickN (firstB l0).kind 4=2 then ((((⟨#[97,112,112,101,110,100,40,107,44,32]⟩:ByteArray)++(f l0.tail).1)++(⟨#[41]⟩:ByteArray)),(f l0.tail).2)
 else (pickS rowK (firstB l0).a,l0.tail):=rfl
theorem listG_size {f:BD} {S:Nat} (h: ∀ l,(f l).1.size≤S) (l:List PRaw):(listG f l).1.size≤2*S+12:=by
 have h1:=h l.tail
 have h2:=h (f l.tail).2
 rw [listG_eq]
 split
 ·
  simp only [ByteArray.size_append]
  show 6+_+2+_+1≤_
  omega
 ·
  split
  ·
   simp only [ByteArray.size_append]
   show 10+_+1≤_
   omega
  ·
   split
   ·
    simp only [ByteArray.size_append]
    show 10+_+1≤_
    omega
   ·
    have:(pickS rowK (firstB l).a).size≤7:=pickS_le rowK _ 7 (by decide)
    show (pickS rowK (firstB l).a).size≤_
    omega
set_option maxRecDepth 4000 in
set_option maxHeartbeats 8000000 in
theorem list_any {main:Bool} {n:Int} {f:BD} (hn: -5≤n∧n≤10) (hf:NumSaid main (n - 1) f):ListSaid main n (listG f):=by
 refine ⟨fun l=>Nat.le_trans (listG_size hf.1 l) (by decide),?_⟩
 intro w bb B0 l loops h
 obtain ⟨hn1,hn2⟩:=hn
 have hsz:=hf.1
 have Hf:=zh hf
 clear hf
 obtain ⟨i0,i1,i2,i3⟩:=firstB_in h
 obtain ⟨r,hr⟩: ∃ r,r=firstB l:=⟨_,rfl⟩
 rw [←hr] at i0 i1 i2 i3
 obtain ⟨k,hk⟩: ∃ k,pickN r.kind 4=k:=⟨_,rfl⟩
 have klt:k<4:=by rw [←hk];exact pickN_lt _ _ (by decide)
 have kI:(k:Int)<4:=by omega
 obtain ⟨q,hq⟩: ∃ q,pickN r.a 3=q:=⟨_,rfl⟩
 have qlt:q<3:=by rw [←hq];exact pickN_lt _ _ (by decide)
 have qI:(q:Int)<3:=by omega
 by_cases e0:k=0
 ·
  subst e0
  have HR:=zh (show listG f l=((((((⟨#[115,108,105,99,101,40]⟩:ByteArray)++(f l.tail).1)++(⟨#[44,32]⟩:ByteArray))++(f (f l.tail).2).1)++(⟨#[41]⟩:ByteArray)),(f (f l.tail).2).2) by rw [listG_eq,←hr,hk];rfl)
  have z1:=hsz l.tail
  have z2:=hsz (f l.tail).2
  have hl:=h.lt
  have hnx:=next_any h
  rw [←hr] at hnx
  have Hn:=zh hnx
  have Hr:=zh hr
  clear hnx hr h
  go_enter Tryd.func32,Tryd.ntmps32
  go_wp2_with fail
  refine Hn.out.mono ?_
  rintro e w1 ⟨rfl,hb,hs⟩
  have hz1:=hs.size
  have hb':=hb.new (Since.alloc (fun _=>False) w1 (.cells #[.int .i64 r.kind, .int .i64 r.a, .int .i64 r.b, .int .i64 r.c] 76))
  have hs':=hs.trans (Since.alloc (fun k=>k=bb) w1 (.cells #[.int .i64 r.kind, .int .i64 r.a, .int .i64 r.b, .int .i64 r.c] 76))
  have k0:=box_cell (w:=w1) (wr:=w1.alloc (.cells #[.int .i64 r.kind, .int .i64 r.a, .int .i64 r.b, .int .i64 r.c] 76)) ((Below.refl _ _)) 0
  have k1:=box_cell (w:=w1) (wr:=w1.alloc (.cells #[.int .i64 r.kind, .int .i64 r.a, .int .i64 r.b, .int .i64 r.c] 76)) ((Below.refl _ _)) 1
  have k2:=box_cell (w:=w1) (wr:=w1.alloc (.cells #[.int .i64 r.kind, .int .i64 r.a, .int .i64 r.b, .int .i64 r.c] 76)) ((Below.refl _ _)) 2
  unfold rawC
  go_wp2_with fail
  refine (picked_nat r.kind 4 _ i0 (by decide) (by decide)).mono ?_
  rintro e w2 ⟨rfl,rfl⟩
  rw [hk]
  go_wp2_with fail
  refine (Hf.out.2 hb').mono ?_
  rintro e w3 ⟨rfl,hb3,hs3⟩
  go_wp2_with fail
  refine (Hf.out.2 hb3).mono ?_
  rintro e w4 ⟨rfl,hb4,hs4⟩
  go_wp2_with fail
  go_ret
  rw [HR.out]
  exact ⟨rfl,hb4,(hs'.trans hs3).trans hs4⟩
 by_cases e1:k=1
 ·
  subst e1
  have HR:=zh (show listG f l=((((⟨#[97,112,112,101,110,100,40,108,44,32]⟩:ByteArray)++(f l.tail).1)++(⟨#[41]⟩:ByteArray)),(f l.tail).2) by rw [listG_eq,←hr,hk];rfl)
  have z1:=hsz l.tail
  have z2:=hsz (f l.tail).2
  have hl:=h.lt
  have hnx:=next_any h
  rw [←hr] at hnx
  have Hn:=zh hnx
  have Hr:=zh hr
  clear hnx hr h
  go_enter Tryd.func32,Tryd.ntmps32
  go_wp2_with fail
  refine Hn.out.mono ?_
  rintro e w1 ⟨rfl,hb,hs⟩
  have hz1:=hs.size
  have hb':=hb.new (Since.alloc (fun _=>False) w1 (.cells #[.int .i64 r.kind, .int .i64 r.a, .int .i64 r.b, .int .i64 r.c] 76))
  have hs':=hs.trans (Since.alloc (fun k=>k=bb) w1 (.cells #[.int .i64 r.kind, .int .i64 r.a, .int .i64 r.b, .int .i64 r.c] 76))
  have k0:=box_cell (w:=w1) (wr:=w1.alloc (.cells #[.int .i64 r.kind, .int .i64 r.a, .int .i64 r.b, .int .i64 r.c] 76)) ((Below.refl _ _)) 0
  have k1:=box_cell (w:=w1) (wr:=w1.alloc (.cells #[.int .i64 r.kind, .int .i64 r.a, .int .i64 r.b, .int .i64 r.c] 76)) ((Below.refl _ _)) 1
  have k2:=box_cell (w:=w1) (wr:=w1.alloc (.cells #[.int .i64 r.kind, .int .i64 r.a, .int .i64 r.b, .int .i64 r.c] 76)) ((Below.refl _ _)) 2
  unfold rawC
  go_wp2_with fail
  refine (picked_nat r.kind 4 _ i0 (by decide) (by decide)).mono ?_
  rintro e w2 ⟨rfl,rfl⟩
  rw [hk]
  go_wp2_with fail
  refine (Hf.out.2 hb').mono ?_
  rintro e w3 ⟨rfl,hb3,hs3⟩
  go_wp2_with fail
  go_ret
  rw [HR.out]
  exact ⟨rfl,hb3,hs'.trans hs3⟩
 by_cases e2:k=2
 ·
  subst e2
  have HR:=zh (show listG f l=((((⟨#[97,112,112,101,110,100,40,107,44,32]⟩:ByteArray)++(f l.tail).1)++(⟨#[41]⟩:ByteArray)),(f l.tail).2) by rw [listG_eq,←hr,hk];rfl)
  have z1:=hsz l.tail
  have z2:=hsz (f l.tail).2
  have hl:=h.lt
  have hnx:=next_any h
  rw [←hr] at hnx
  have Hn:=zh hnx
  have Hr:=zh hr
  clear hnx hr h
  go_enter Tryd.func32,Tryd.ntmps32
  go_wp2_with fail
  refine Hn.out.mono ?_
  rintro e w1 ⟨rfl,hb,hs⟩
  have hz1:=hs.size
  have hb':=hb.new (Since.alloc (fun _=>False) w1 (.cells #[.int .i64 r.kind, .int .i64 r.a, .int .i64 r.b, .int .i64 r.c] 76))
  have hs':=hs.trans (Since.alloc (fun k=>k=bb) w1 (.cells #[.int .i64 r.kind, .int .i64 r.a, .int .i64 r.b, .int .i64 r.c] 76))
  have k0:=box_cell (w:=w1) (wr:=w1.alloc (.cells #[.int .i64 r.kind, .int .i64 r.a, .int .i64 r.b, .int .i64 r.c] 76)) ((Below.refl _ _)) 0
  have k1:=box_cell (w:=w1) (wr:=w1.alloc (.cells #[.int .i64 r.kind, .int .i64 r.a, .int .i64 r.b, .int .i64 r.c] 76)) ((Below.refl _ _)) 1
  have k2:=box_cell (w:=w1) (wr:=w1.alloc (.cells #[.int .i64 r.kind, .int .i64 r.a, .int .i64 r.b, .int .i64 r.c] 76)) ((Below.refl _ _)) 2
  unfold rawC
  go_wp2_with fail
  refine (picked_nat r.kind 4 _ i0 (by decide) (by decide)).mono ?_
  rintro e w2 ⟨rfl,rfl⟩
  rw [hk]
  go_wp2_with fail
  refine (Hf.out.2 hb').mono ?_
  rintro e w3 ⟨rfl,hb3,hs3⟩
  go_wp2_with fail
  go_ret
  rw [HR.out]
  exact ⟨rfl,hb3,hs'.trans hs3⟩
 have f0:((k:Int)==0)=false:=by simp;omega
 have f1:((k:Int)==1)=false:=by simp;omega
 have f2:((k:Int)==2)=false:=by simp;omega
 have HR:=zh (show listG f l=(pickS rowK r.a,l.tail) by rw [listG_eq,←hr,hk,if_neg e0,if_neg e1,if_neg e2])
 have z1:=hsz l.tail
 have z2:=hsz (f l.tail).2
 have hl:=h.lt
 have hnx:=next_any h
 rw [←hr] at hnx
 have Hn:=zh hnx
 have Hr:=zh hr
 clear hnx hr h
 go_enter Tryd.func32,Tryd.ntmps32
 go_wp2_with fail
 refine Hn.out.mono ?_
 rintro e w1 ⟨rfl,hb,hs⟩
 have hz1:=hs.size
 have hb':=hb.new (Since.alloc (fun _=>False) w1 (.cells #[.int .i64 r.kind, .int .i64 r.a, .int .i64 r.b, .int .i64 r.c] 76))
 have hs':=hs.trans (Since.alloc (fun k=>k=bb) w1 (.cells #[.int .i64 r.kind, .int .i64 r.a, .int .i64 r.b, .int .i64 r.c] 76))
 have k0:=box_cell (w:=w1) (wr:=w1.alloc (.cells #[.int .i64 r.kind, .int .i64 r.a, .int .i64 r.b, .int .i64 r.c] 76)) ((Below.refl _ _)) 0
 have k1:=box_cell (w:=w1) (wr:=w1.alloc (.cells #[.int .i64 r.kind, .int .i64 r.a, .int .i64 r.b, .int .i64 r.c] 76)) ((Below.refl _ _)) 1
 have k2:=box_cell (w:=w1) (wr:=w1.alloc (.cells #[.int .i64 r.kind, .int .i64 r.a, .int .i64 r.b, .int .i64 r.c] 76)) ((Below.refl _ _)) 2
 unfold rawC
 go_wp2_with fail
 refine (picked_nat r.kind 4 _ i0 (by decide) (by decide)).mono ?_
 rintro e w2 ⟨rfl,rfl⟩
 rw [hk]
 go_wp2_with fail
 refine (picked_nat r.a 3 _ i1 (by decide) (by decide)).mono ?_
 rintro e w2 ⟨rfl,rfl⟩
 rw [hq]
 have c:((w1.alloc (.cells #[.int .i64 r.kind, .int .i64 r.a, .int .i64 r.b, .int .i64 r.c] 76)).alloc (.cells #[.string ⟨#[108]⟩, .string ⟨#[107]⟩, .string ⟨#[115,108,105,99,101,40,41]⟩] 9)).cell? ⟨w1.heap.size+1,q,none⟩=some (.string (pickS rowK r.a)):=by
  have c:=pick_cell rowK r.a q hq (by decide) 9 (w1.alloc (.cells #[.int .i64 r.kind, .int .i64 r.a, .int .i64 r.b, .int .i64 r.c] 76))
  rw [World.size_alloc] at c
  exact c
 have hb2:=hb'.new (Since.alloc _ _ (.cells #[.string ⟨#[108]⟩, .string ⟨#[107]⟩, .string ⟨#[115,108,105,99,101,40,41]⟩] 9))
 have hs2:=hs'.trans (Since.alloc _ _ (.cells #[.string ⟨#[108]⟩, .string ⟨#[107]⟩, .string ⟨#[115,108,105,99,101,40,41]⟩] 9))
 generalize (w1.alloc (.cells #[.int .i64 r.kind, .int .i64 r.a, .int .i64 r.b, .int .i64 r.c] 76)).alloc (.cells #[.string ⟨#[108]⟩, .string ⟨#[107]⟩, .string ⟨#[115,108,105,99,101,40,41]⟩] 9)=w2 at *
 go_wp2_with fail
 go_ret
 rw [HR.out]
 exact ⟨rfl,hb2,hs2⟩
end Go.Proofs.YtkopjgnjflhkeaaDoor
namespace Go.Proofs.YtkopjgnjflhkeaaDoor
open Go.RowKit Go.Pst
set_option linter.unusedVariables false
set_option linter.unusedSimpArgs false
def TruthSaid (main:Bool) (n:Int) (f:BD):Prop:=(∀ l,(f l).1.size≤1000000)∧ ∀ {w:World} {bb B0:Nat} {l:List PRaw} {loops:Int},BardAt w bb B0 l loops main→
 Calls Tryd.prog 33 #[.pointer (some ⟨bb,0,none⟩), .int .i64 n] w (BardEnd w bb B0 loops main (f l))
theorem truthB_succ (main:Bool) (d:Nat) (l:List PRaw):truthB main (d+1) l=if pickN (firstB l).kind 6=0 then ((((((⟨#[40]⟩:ByteArray)++(truthB main d l.tail).1)++(⟨#[32,38,38,32]⟩:ByteArray))++(truthB main d (truthB main d l.tail).2).1)++(⟨#[41]⟩:ByteArray)),(truthB main d (truthB main d l.tail).2).2) else if pickN (firstB l).kind 6=1 then ((((((⟨#[40]⟩:ByteArray)++(truthB main d l.tail).1)++(⟨#[32,124,124,32]⟩:ByteArray))++(truthB main d (truthB main d l.tail).2).1)++(⟨#[41]⟩:ByteArray)),(truthB main d (truthB main d l.tail).2).2) else if pickN (firstB l).kind 6=2 then (((⟨#[33]⟩:ByteArray)++(truthB main d l.tail).1),(truthB main d l.tail).2) else if pickN (firstB l).kind 6=3 then ((((((((⟨#[40]⟩:ByteArray)++(textB d l.tail).1)++(⟨#[32]⟩:ByteArray))++cmpS (firstB l).a)++(⟨#[32]⟩:ByteArray))++(textB d (textB d l.tail).2).1)++(⟨#[41]⟩:ByteArray)),(textB d (textB d l.tail).2).2) else ((((((((⟨#[40]⟩:ByteArray)++(numB main d l.tail).1)++(⟨#[32]⟩:ByteArray))++cmpS (firstB l).a)++(⟨#[32]⟩:ByteArray))++(numB main d (numB main d l.tail).2).1)++(⟨#[41]⟩:ByteArray)),(numB main d (numB main d l.tail).2).2):=rfl
end Go.Proofs.YtkopjgnjflhkeaaDoor
namespace Go.Proofs.YtkopjgnjflhkeaaDoor
open Go.RowKit Go.Pst
set_option linter.unusedVariables false
set_option linter.unusedSimpArgs false
set_option maxRecDepth 100000 in
set_option maxHeartbeats 40000000 in
theorem truth_0 {main:Bool} {d:Nat} (hd:d≤5) (ih:TruthSaid main d (truthB main d)) (hnum:NumSaid main d (numB main d)) {w:World} {bb B0:Nat} {l:List PRaw} {loops:Int} (h:BardAt w bb B0 l loops main) (hk:pickN (firstB l).kind 6=0):
 Calls Tryd.prog 33 #[.pointer (some ⟨bb,0,none⟩), .int .i64 ((d+1:Nat):Int)] w (BardEnd w bb B0 loops main (truthB main (d+1) l)):=by
 obtain ⟨i0,i1,i2,i3⟩:=firstB_in h
 obtain ⟨r,hr⟩: ∃ r,r=firstB l:=⟨_,rfl⟩
 rw [←hr] at i0 i1 i2 i3
 obtain ⟨q,hq⟩: ∃ q,pickN r.a 6=q:=⟨_,rfl⟩
 have qlt:q<6:=by rw [←hq];exact pickN_lt _ _ (by decide)
 have qI:(q:Int)<6:=by omega
 have hdI:(d:Int)≤5:=by omega
 have hnd: ¬((d:Int)+1≤0):=by omega
 have hdc:((d+1:Nat):Int)=(d:Int)+1:=rfl
 have HR:=zh (show truthB main (d+1) l=((((((⟨#[40]⟩:ByteArray)++(truthB main d l.tail).1)++(⟨#[32,38,38,32]⟩:ByteArray))++(truthB main d (truthB main d l.tail).2).1)++(⟨#[41]⟩:ByteArray)),(truthB main d (truthB main d l.tail).2).2) by rw [truthB_succ,if_pos hk])
 rw [←hr] at hk
 have Hk:=zh hk
 have z1:=ih.1 l.tail
 have z2:=ih.1 (truthB main d l.tail).2
 have zc:=pickS_le rowC r.a 2 (by decide)
 have Ih:=zh ih
 have Hnum:=zh hnum
 clear ih hnum hk
 have hl:=h.lt
 have hnx:=next_any h
 rw [←hr] at hnx
 have Hn:=zh hnx
 have Hr:=zh hr
 clear hnx hr h
 go_enter Tryd.func33,Tryd.ntmps33
 go_wp2_with fail
 refine Hn.out.mono ?_
 rintro e w1 ⟨rfl,hb,hs⟩
 have hz1:=hs.size
 unfold rawC
 go_upto_region 2 with fail
 obtain ⟨R0,hR0⟩: ∃ R0,R0=w1.heap.size:=⟨_,rfl⟩
 have k0:(w1.alloc (.cells #[.int .i64 r.kind, .int .i64 r.a, .int .i64 r.b, .int .i64 r.c] 76)).cell? ⟨R0,0,none⟩=some (.int .i64 r.kind):=by rw [hR0,box_cell (Below.refl _ _)];rfl
 have k1:(w1.alloc (.cells #[.int .i64 r.kind, .int .i64 r.a, .int .i64 r.b, .int .i64 r.c] 76)).cell? ⟨R0,1,none⟩=some (.int .i64 r.a):=by rw [hR0,box_cell (Below.refl _ _)];rfl
 have k2:(w1.alloc (.cells #[.int .i64 r.kind, .int .i64 r.a, .int .i64 r.b, .int .i64 r.c] 76)).cell? ⟨R0,2,none⟩=some (.int .i64 r.b):=by rw [hR0,box_cell (Below.refl _ _)];rfl
 have k3:(w1.alloc (.cells #[.int .i64 r.kind, .int .i64 r.a, .int .i64 r.b, .int .i64 r.c] 76)).cell? ⟨R0,3,none⟩=some (.int .i64 r.c):=by rw [hR0,box_cell (Below.refl _ _)];rfl
 have hzR:R0<(w1.alloc (.cells #[.int .i64 r.kind, .int .i64 r.a, .int .i64 r.b, .int .i64 r.c] 76)).heap.size:=by rw [hR0];simp
 have hnR:R0≠bb:=by omega
 have hRb:bb<R0:=by omega
 have hb':=hb.new (Since.alloc (fun _=>False) w1 (.cells #[.int .i64 r.kind, .int .i64 r.a, .int .i64 r.b, .int .i64 r.c] 76))
 have hs':=hs.trans (Since.alloc (fun k=>k=bb) w1 (.cells #[.int .i64 r.kind, .int .i64 r.a, .int .i64 r.b, .int .i64 r.c] 76))
 rw [←hR0]
 generalize w1.alloc (.cells #[.int .i64 r.kind, .int .i64 r.a, .int .i64 r.b, .int .i64 r.c] 76)=w2 at *
 clear hb hs hR0
 go_wp2_with fail
 refine (picked_nat r.kind 6 _ i0 (by decide) (by decide)).mono ?_
 rintro e w3 ⟨rfl,rfl⟩
 rw [Hk.out]
 go_wp2_with fail
 refine (Ih.out.2 hb').mono ?_
 rintro e w3 ⟨rfl,hb3,hs3⟩
 go_wp2_with fail
 refine (Ih.out.2 hb3).mono ?_
 rintro e w4 ⟨rfl,hb4,hs4⟩
 go_wp2_with fail
 go_ret
 rw [HR.out]
 exact ⟨rfl,hb4,(hs'.trans hs3).trans hs4⟩
set_option maxRecDepth 100000 in
set_option maxHeartbeats 40000000 in
theorem truth_1 {main:Bool} {d:Nat} (hd:d≤5) (ih:TruthSaid main d (truthB main d)) (hnum:NumSaid main d (numB main d)) {w:World} {bb B0:Nat} {l:List PRaw} {loops:Int} (h:BardAt w bb B0 l loops main) (hk:pickN (firstB l).kind 6=1):
 Calls Tryd.prog 33 #[.pointer (some ⟨bb,0,none⟩), .int .i64 ((d+1:Nat):Int)] w (BardEnd w bb B0 loops main (truthB main (d+1) l)):=by
 obtain ⟨i0,i1,i2,i3⟩:=firstB_in h
 obtain ⟨r,hr⟩: ∃ r,r=firstB l:=⟨_,rfl⟩
 rw [←hr] at i0 i1 i2 i3
 obtain ⟨q,hq⟩: ∃ q,pickN r.a 6=q:=⟨_,rfl⟩
 have qlt:q<6:=by rw [←hq];exact pickN_lt _ _ (by decide)
 have qI:(q:Int)<6:=by omega
 have hdI:(d:Int)≤5:=by omega
 have hnd: ¬((d:Int)+1≤0):=by omega
 have hdc:((d+1:Nat):Int)=(d:Int)+1:=rfl
 have HR:=zh (show truthB main (d+1) l=((((((⟨#[40]⟩:ByteArray)++(truthB main d l.tail).1)++(⟨#[32,124,124,32]⟩:ByteArray))++(truthB main d (truthB main d l.tail).2).1)++(⟨#[41]⟩:ByteArray)),(truthB main d (truthB main d l.tail).2).2) by rw [truthB_succ,if_neg (by omega),if_pos hk])
 rw [←hr] at hk
 have Hk:=zh hk
 have z1:=ih.1 l.tail
 have z2:=ih.1 (truthB main d l.tail).2
 have zc:=pickS_le rowC r.a 2 (by decide)
 have Ih:=zh ih
 have Hnum:=zh hnum
 clear ih hnum hk
 have hl:=h.lt
 have hnx:=next_any h
 rw [←hr] at hnx
 have Hn:=zh hnx
 have Hr:=zh hr
 clear hnx hr h
 go_enter Tryd.func33,Tryd.ntmps33
 go_wp2_with fail
 refine Hn.out.mono ?_
 rintro e w1 ⟨rfl,hb,hs⟩
 have hz1:=hs.size
 unfold rawC
 go_upto_region 2 with fail
 obtain ⟨R0,hR0⟩: ∃ R0,R0=w1.heap.size:=⟨_,rfl⟩
 have k0:(w1.alloc (.cells #[.int .i64 r.kind, .int .i64 r.a, .int .i64 r.b, .int .i64 r.c] 76)).cell? ⟨R0,0,none⟩=some (.int .i64 r.kind):=by rw [hR0,box_cell (Below.refl _ _)];rfl
 have k1:(w1.alloc (.cells #[.int .i64 r.kind, .int .i64 r.a, .int .i64 r.b, .int .i64 r.c] 76)).cell? ⟨R0,1,none⟩=some (.int .i64 r.a):=by rw [hR0,box_cell (Below.refl _ _)];rfl
 have k2:(w1.alloc (.cells #[.int .i64 r.kind, .int .i64 r.a, .int .i64 r.b, .int .i64 r.c] 76)).cell? ⟨R0,2,none⟩=some (.int .i64 r.b):=by rw [hR0,box_cell (Below.refl _ _)];rfl
 have k3:(w1.alloc (.cells #[.int .i64 r.kind, .int .i64 r.a, .int .i64 r.b, .int .i64 r.c] 76)).cell? ⟨R0,3,none⟩=some (.int .i64 r.c):=by rw [hR0,box_cell (Below.refl _ _)];rfl
 have hzR:R0<(w1.alloc (.cells #[.int .i64 r.kind, .int .i64 r.a, .int .i64 r.b, .int .i64 r.c] 76)).heap.size:=by rw [hR0];simp
 have hnR:R0≠bb:=by omega
 have hRb:bb<R0:=by omega
 have hb':=hb.new (Since.alloc (fun _=>False) w1 (.cells #[.int .i64 r.kind, .int .i64 r.a, .int .i64 r.b, .int .i64 r.c] 76))
 have hs':=hs.trans (Since.alloc (fun k=>k=bb) w1 (.cells #[.int .i64 r.kind, .int .i64 r.a, .int .i64 r.b, .int .i64 r.c] 76))
 rw [←hR0]
 generalize w1.alloc (.cells #[.int .i64 r.kind, .int .i64 r.a, .int .i64 r.b, .int .i64 r.c] 76)=w2 at *
 clear hb hs hR0
 go_wp2_with fail
 refine (picked_nat r.kind 6 _ i0 (by decide) (by decide)).mono ?_
 rintro e w3 ⟨rfl,rfl⟩
 rw [Hk.out]
 go_wp2_with fail
 refine (Ih.out.2 hb').mono ?_
 rintro e w3 ⟨rfl,hb3,hs3⟩
 go_wp2_with fail
 refine (Ih.out.2 hb3).mono ?_
 rintro e w4 ⟨rfl,hb4,hs4⟩
 go_wp2_with fail
 go_ret
 rw [HR.out]
 exact ⟨rfl,hb4,(hs'.trans hs3).trans hs4⟩
set_option maxRecDepth 100000 in
set_option maxHeartbeats 40000000 in
theorem truth_2 {main:Bool} {d:Nat} (hd:d≤5) (ih:TruthSaid main d (truthB main d)) (hnum:NumSaid main d (numB main d)) {w:World} {bb B0:Nat} {l:List PRaw} {loops:Int} (h:BardAt w bb B0 l loops main) (hk:pickN (firstB l).kind 6=2):
 Calls Tryd.prog 33 #[.pointer (some ⟨bb,0,none⟩), .int .i64 ((d+1:Nat):Int)] w (BardEnd w bb B0 loops main (truthB main (d+1) l)):=by
 obtain ⟨i0,i1,i2,i3⟩:=firstB_in h
 obtain ⟨r,hr⟩: ∃ r,r=firstB l:=⟨_,rfl⟩
 rw [←hr] at i0 i1 i2 i3
 obtain ⟨q,hq⟩: ∃ q,pickN r.a 6=q:=⟨_,rfl⟩
 have qlt:q<6:=by rw [←hq];exact pickN_lt _ _ (by decide)
 have qI:(q:Int)<6:=by omega
 have hdI:(d:Int)≤5:=by omega
 have hnd: ¬((d:Int)+1≤0):=by omega
 have hdc:((d+1:Nat):Int)=(d:Int)+1:=rfl
 have HR:=zh (show truthB main (d+1) l=(((⟨#[33]⟩:ByteArray)++(truthB main d l.tail).1),(truthB main d l.tail).2) by rw [truthB_succ,if_neg (by omega),if_neg (by omega),if_pos hk])
 rw [←hr] at hk
 have Hk:=zh hk
 have z1:=ih.1 l.tail
 have z2:=ih.1 (truthB main d l.tail).2
 have zc:=pickS_le rowC r.a 2 (by decide)
 have Ih:=zh ih
 have Hnum:=zh hnum
 clear ih hnum hk
 have hl:=h.lt
 have hnx:=next_any h
 rw [←hr] at hnx
 have Hn:=zh hnx
 have Hr:=zh hr
 clear hnx hr h
 go_enter Tryd.func33,Tryd.ntmps33
 go_wp2_with fail
 refine Hn.out.mono ?_
 rintro e w1 ⟨rfl,hb,hs⟩
 have hz1:=hs.size
 unfold rawC
 go_upto_region 2 with fail
 obtain ⟨R0,hR0⟩: ∃ R0,R0=w1.heap.size:=⟨_,rfl⟩
 have k0:(w1.alloc (.cells #[.int .i64 r.kind, .int .i64 r.a, .int .i64 r.b, .int .i64 r.c] 76)).cell? ⟨R0,0,none⟩=some (.int .i64 r.kind):=by rw [hR0,box_cell (Below.refl _ _)];rfl
 have k1:(w1.alloc (.cells #[.int .i64 r.kind, .int .i64 r.a, .int .i64 r.b, .int .i64 r.c] 76)).cell? ⟨R0,1,none⟩=some (.int .i64 r.a):=by rw [hR0,box_cell (Below.refl _ _)];rfl
 have k2:(w1.alloc (.cells #[.int .i64 r.kind, .int .i64 r.a, .int .i64 r.b, .int .i64 r.c] 76)).cell? ⟨R0,2,none⟩=some (.int .i64 r.b):=by rw [hR0,box_cell (Below.refl _ _)];rfl
 have k3:(w1.alloc (.cells #[.int .i64 r.kind, .int .i64 r.a, .int .i64 r.b, .int .i64 r.c] 76)).cell? ⟨R0,3,none⟩=some (.int .i64 r.c):=by rw [hR0,box_cell (Below.refl _ _)];rfl
 have hzR:R0<(w1.alloc (.cells #[.int .i64 r.kind, .int .i64 r.a, .int .i64 r.b, .int .i64 r.c] 76)).heap.size:=by rw [hR0];simp
 have hnR:R0≠bb:=by omega
 have hRb:bb<R0:=by omega
 have hb':=hb.new (Since.alloc (fun _=>False) w1 (.cells #[.int .i64 r.kind, .int .i64 r.a, .int .i64 r.b, .int .i64 r.c] 76))
 have hs':=hs.trans (Since.alloc (fun k=>k=bb) w1 (.cells #[.int .i64 r.kind, .int .i64 r.a, .int .i64 r.b, .int .i64 r.c] 76))
 rw [←hR0]
 generalize w1.alloc (.cells #[.int .i64 r.kind, .int .i64 r.a, .int .i64 r.b, .int .i64 r.c] 76)=w2 at *
 clear hb hs hR0
 go_wp2_with fail
 refine (picked_nat r.kind 6 _ i0 (by decide) (by decide)).mono ?_
 rintro e w3 ⟨rfl,rfl⟩
 rw [Hk.out]
 go_wp2_with fail
 refine (Ih.out.2 hb').mono ?_
 rintro e w3 ⟨rfl,hb3,hs3⟩
 go_wp2_with fail
 go_ret
 rw [HR.out]
 exact ⟨rfl,hb3,hs'.trans hs3⟩
end Go.Proofs.YtkopjgnjflhkeaaDoor
namespace Go.Proofs.YtkopjgnjflhkeaaDoor
open Go Go.RowKit Go.Pst
set_option linter.unusedVariables false
def CS:List (Nat × Nat × Value)→World→Prop
 |[],_=>True
 |x::L,w=>w.cell? ⟨x.1,x.2.1,none⟩=some x.2.2∧CS L w
def CZ (bb n:Nat):List (Nat × Nat × Value)→Prop
 |[]=>True
 |x::L=>(x.1<n∧x.1≠bb)∧CZ bb n L
theorem CZ.up {bb n m:Nat} (hn:n≤m): ∀ {L:List (Nat × Nat × Value)},CZ bb n L→CZ bb m L
 |[],_=>trivial
 |x::L,h=>⟨⟨by have:=h.1.1;omega,h.1.2⟩,CZ.up hn h.2⟩
theorem CS.later {bb:Nat} {w w':World} (hs:Since (fun k=>k=bb) w w'): ∀ {L:List (Nat × Nat × Value)},CZ bb w.heap.size L→CS L w→CS L w'
 |[],_,_=>trivial
 |x::L,hz,h=>⟨(hs.cell hz.1.1 hz.1.2).trans h.1,CS.later hs hz.2 h.2⟩
structure St (w0 w:World) (bb B0:Nat) (l:List PRaw) (loops:Int) (main:Bool) (L:List (Nat × Nat × Value)):Prop where
 b:BardAt w bb B0 l loops main
 s:Since (fun k=>k=bb) w0 w
 c:CS L w
 z:CZ bb w.heap.size L
section
variable {w0 w w':World} {bb B0:Nat} {l l':List PRaw} {loops loops':Int} {main:Bool} {L:List (Nat × Nat × Value)}
theorem St.call (h:St w0 w bb B0 l loops main L) (hb:BardAt w' bb B0 l' loops main) (hv:Since (fun k=>k=bb) w w'):St w0 w' bb B0 l' loops main L:=
 ⟨hb,h.s.trans hv,CS.later hv h.z h.c,h.z.up hv.size⟩
theorem St.new (h:St w0 w bb B0 l loops main L) (hq:Since (fun _=>False) w w'):St w0 w' bb B0 l loops main L:=h.call (h.b.new hq) (hq.mono fun _ f=>f.elim)
theorem St.box (h:St w0 w bb B0 l loops main L) (rows:List ByteArray) (T:TypeId) (m:Int) {q:Nat} (hq:pickN m rows.length=q) (hL:0<rows.length):
 St w0 (w.alloc (.cells (rows.map Value.string).toArray T)) bb B0 l loops main ((w.heap.size,q, .string (pickS rows m))::L):=by
 have h2:=h.new (Since.alloc (fun _=>False) w (.cells (rows.map Value.string).toArray T))
 have hlt:=h.b.lt
 exact ⟨h2.b,h2.s,⟨pick_cell rows m q hq hL T w,h2.c⟩,⟨⟨by simp,by show w.heap.size≠bb;omega⟩,h2.z⟩⟩
variable {P:Program} {ops:Array Oper} {Q:Exit→Act→World→Prop} {md:Region.Mode} {S:World→Prop} {t:Nat}
theorem tGo {id:Nat} {a:Act} (hb:BardAt w bb B0 l loops main) (hs:Since (fun k=>k=bb) w0 w) (L:List (Nat × Nat × Value)) (hc:CS L w) (hz:CZ bb w.heap.size L) (t:Nat)
 (h: ∀ wr,St w0 wr bb B0 l loops main L→WpT P .any ops Q (CS L) t ops.size (Array.replicate ops.size false) a wr)
 (hm:P.follows .mixedOrders=true:=by kernel_rfl):(Code.region id ops true).wp P Q a w:=
 WpT.start (CS L) t hm (h _ ((St.mk hb hs hc hz).new (Since.drew _ _)))
theorem tRd {oi:Oper} {v:Value} {n:Nat} {l l':Array Bool} {a a':Act} {w:World} {L:List (Nat × Nat × Value)} (i:Nat) (hS:CS L w) (h:WpT P md ops Q (CS L) t n l' a' w)
 (hi:ops[i]?=some oi:=by rfl)
 (hc:(Region.noSelect ops&&(Region.free md ops l i&&((Region.ready md ops l).contains i&&(waitsFor md ops t i&& !(t==i)&& !(l.getD t true)))))=true:=by as_aux_lemma=>kernel_rfl)
 (hQ: ∀ c a w,Q (.panic c) (a.put oi.dst v) w→Q (.panic c) a w:=by exact fun _ _ _ h=>h)
 (hw:Region.wanted oi (yielded ops a.tmps)=true:=by rfl)
 (hy: ∀ w,CS L w→(execOp a.eval oi).run P w= .ok (.value v) w:=by
  intro wS hSw;(try simp only [CS,and_true] at hSw);go_simp;first|done|with_reducible rfl|(refine if_neg ?_;omega))
 (hl:l.setIfInBounds i true=l':=by (try simp only [List.setIfInBounds_toArray,List.set_cons_zero,List.set_cons_succ]);first|done|rfl)
 (ha:a.put oi.dst v=a':=by (try simp only [Act.put,List.setIfInBounds_toArray,List.set_cons_zero,List.set_cons_succ]);first|done|rfl):
 WpT P md ops Q (CS L) t (n+1) l a w:=by
 rw [Bool.and_eq_true,Bool.and_eq_true,Bool.and_eq_true] at hc
 subst hl ha
 exact WpT.take hi hc.1 hc.2.1 hc.2.2.1 hc.2.2.2 hQ (Or.inl ⟨hw,hy⟩) hS h
theorem tP1 {o:Oper} {n:Nat} {l:Array Bool} {a:Act} {w:World} (i:Nat)
 (h: ∀ K,ThenT P md ops Q S t n i l K→if Region.wanted o (yielded ops a.tmps)=true then Oper.wp P o a w K Q else K (a.put o.dst undef) w)
 (hr:Region.ready md ops l=[i]:=by as_aux_lemma=>kernel_rfl) (ho:ops[i]?=some o:=by rfl):WpT P md ops Q S t (n+1) l a w:=WpT.one hr ho h
theorem tP2 {o o':Oper} {n:Nat} {l:Array Bool} {a:Act} {w:World} (i j:Nat)
 (h: ∀ K,ThenT P md ops Q S t n i l K→if Region.wanted o (yielded ops a.tmps)=true then Oper.wp P o a w K Q else K (a.put o.dst undef) w)
 (h': ∀ K,ThenT P md ops Q S t n j l K→if Region.wanted o' (yielded ops a.tmps)=true then Oper.wp P o' a w K Q else K (a.put o'.dst undef) w)
 (hr:Region.ready md ops l=[i,j]:=by as_aux_lemma=>kernel_rfl) (ho:ops[i]?=some o:=by rfl) (ho':ops[j]?=some o':=by rfl):WpT P md ops Q S t (n+1) l a w:=WpT.both hr ho ho' h h'
theorem tP3 {o o' o'':Oper} {n:Nat} {l:Array Bool} {a:Act} {w:World} (i j k:Nat)
 (h: ∀ K,ThenT P md ops Q S t n i l K→if Region.wanted o (yielded ops a.tmps)=true then Oper.wp P o a w K Q else K (a.put o.dst undef) w)
 (h': ∀ K,ThenT P md ops Q S t n j l K→if Region.wanted o' (yielded ops a.tmps)=true then Oper.wp P o' a w K Q else K (a.put o'.dst undef) w)
 (h'': ∀ K,ThenT P md ops Q S t n k l K→if Region.wanted o'' (yielded ops a.tmps)=true then Oper.wp P o'' a w K Q else K (a.put o''.dst undef) w)
 (hr:Region.ready md ops l=[i,j,k]:=by as_aux_lemma=>kernel_rfl) (ho:ops[i]?=some o:=by rfl) (ho':ops[j]?=some o':=by rfl) (ho'':ops[k]?=some o'':=by rfl):WpT P md ops Q S t (n+1) l a w:=WpT.three hr ho ho' ho'' h h' h''
theorem tFin {n:Nat} {l:Array Bool} {a:Act} {w:World} (h:Q .normal a w) (hr:Region.ready md ops l=[]:=by as_aux_lemma=>kernel_rfl):WpT P md ops Q S t n l a w:=WpT.done hr h n
theorem tNx {i n:Nat} {l l':Array Bool} {K:Act→World→Prop} {a a':Act} {w:World} (hK:ThenT P md ops Q S t n i l K) (hS:S w) (h:WpT P md ops Q S t n l' a' w)
 (hl:l.setIfInBounds i true=l':=by (try simp only [List.setIfInBounds_toArray,List.set_cons_zero,List.set_cons_succ]);first|done|rfl)
 (ha:a=a':=by (try simp only [Act.put,List.setIfInBounds_toArray,List.set_cons_zero,List.set_cons_succ]);first|done|rfl):K a w:=by
 subst hl ha
 exact hK.out _ _ (fun _ _=>hS) h
theorem tLast {n:Nat} {l l':Array Bool} {K:Act→World→Prop} {a a':Act} {w:World} (hK:ThenT P md ops Q S t n t l K) (h:WpT P md ops Q S t n l' a' w)
 (hl:l.setIfInBounds t true=l':=by (try simp only [List.setIfInBounds_toArray,List.set_cons_zero,List.set_cons_succ]);first|done|rfl)
 (ha:a=a':=by (try simp only [Act.put,List.setIfInBounds_toArray,List.set_cons_zero,List.set_cons_succ]);first|done|rfl):K a w:=by
 subst hl ha
 exact hK.out _ _ (fun h=>absurd rfl h) h
theorem tRow {lr:List PRaw} {i n:Nat} {l l':Array Bool} {K:Act→World→Prop} {A A':Nat→Act} {row:Array Value} {T:TypeId} {L:List (Nat × Nat × Value)}
 (hK:ThenT P md ops Q (CS L) t n i l K) (h1:St w0 w bb B0 lr loops main L) (rows:List ByteArray) (m:Int) {q:Nat} (hq:pickN m rows.length=q)
 (h: ∀ g w3,St w0 w3 bb B0 lr loops main ((g,q, .string (pickS rows m))::L)→WpT P md ops Q (CS ((g,q, .string (pickS rows m))::L)) t n l' (A' g) w3)
 (hL:0<rows.length:=by exact Nat.zero_lt_succ _) (hr:row=(rows.map Value.string).toArray:=by rfl)
 (hl:l.setIfInBounds i true=l':=by (try simp only [List.setIfInBounds_toArray,List.set_cons_zero,List.set_cons_succ]);first|done|rfl)
 (ha: ∀ g,A g=A' g:=by intro g;(try simp only [Act.put,List.setIfInBounds_toArray,List.set_cons_zero,List.set_cons_succ]);first|done|rfl):
 ∀ g,g=w.heap.size→K (A g) (w.alloc (.cells row T)):=by
 intro g hg
 subst hl hg hr
 rw [ha]
 have h3:=h1.box rows T m hq hL
 exact hK.out _ _ (fun _ _=>h3.c.2) (WpT.weaken (fun _ h=>h.2) _ _ _ _ (h _ _ h3))
end
end Go.Proofs.YtkopjgnjflhkeaaDoor
namespace Go.Proofs.YtkopjgnjflhkeaaDoor
open Go.RowKit Go.Pst
set_option linter.unusedVariables false
set_option linter.unusedSimpArgs false
set_option maxRecDepth 100000 in
set_option maxHeartbeats 40000000 in
theorem truth_3 {main:Bool} {d:Nat} (hd:d≤5) (ih:TruthSaid main d (truthB main d)) (hnum:NumSaid main d (numB main d)) {w:World} {bb B0:Nat} {l:List PRaw} {loops:Int} (h:BardAt w bb B0 l loops main) (hk:pickN (firstB l).kind 6=3):
 Calls Tryd.prog 33 #[.pointer (some ⟨bb,0,none⟩), .int .i64 ((d+1:Nat):Int)] w (BardEnd w bb B0 loops main (truthB main (d+1) l)):=by
 obtain ⟨i0,i1,i2,i3⟩:=firstB_in h
 obtain ⟨r,hr⟩: ∃ r,r=firstB l:=⟨_,rfl⟩
 rw [←hr] at i0 i1 i2 i3
 obtain ⟨q,hq⟩: ∃ q,pickN r.a 6=q:=⟨_,rfl⟩
 have qlt:q<6:=by rw [←hq];exact pickN_lt _ _ (by decide)
 have qI:(q:Int)<6:=by omega
 have hdI:(d:Int)≤5:=by omega
 have hnd: ¬((d:Int)+1≤0):=by omega
 have hdc:((d+1:Nat):Int)=(d:Int)+1:=rfl
 have HR:=zh (show truthB main (d+1) l=((((((((⟨#[40]⟩:ByteArray)++(textB d l.tail).1)++(⟨#[32]⟩:ByteArray))++pickS rowC r.a)++(⟨#[32]⟩:ByteArray))++(textB d (textB d l.tail).2).1)++(⟨#[41]⟩:ByteArray)),(textB d (textB d l.tail).2).2) by rw [truthB_succ,if_neg (by omega),if_neg (by omega),if_neg (by omega),if_pos hk,←hr];rfl)
 rw [←hr] at hk
 have Hk:=zh hk
 have z1:=(textB_le (d:=d) (by omega)) l.tail
 have z2:=(textB_le (d:=d) (by omega)) (textB d l.tail).2
 have zc:=pickS_le rowC r.a 2 (by decide)
 have Ih:=zh ih
 have Hnum:=zh hnum
 clear ih hnum hk
 have hl:=h.lt
 have hnx:=next_any h
 rw [←hr] at hnx
 have Hn:=zh hnx
 have Hr:=zh hr
 clear hnx hr h
 go_enter Tryd.func33,Tryd.ntmps33
 go_wp2_with fail
 refine Hn.out.mono ?_
 rintro e w1 ⟨rfl,hb,hs⟩
 have hz1:=hs.size
 unfold rawC
 go_upto_region 2 with fail
 obtain ⟨R0,hR0⟩: ∃ R0,R0=w1.heap.size:=⟨_,rfl⟩
 have k0:(w1.alloc (.cells #[.int .i64 r.kind, .int .i64 r.a, .int .i64 r.b, .int .i64 r.c] 76)).cell? ⟨R0,0,none⟩=some (.int .i64 r.kind):=by rw [hR0,box_cell (Below.refl _ _)];rfl
 have k1:(w1.alloc (.cells #[.int .i64 r.kind, .int .i64 r.a, .int .i64 r.b, .int .i64 r.c] 76)).cell? ⟨R0,1,none⟩=some (.int .i64 r.a):=by rw [hR0,box_cell (Below.refl _ _)];rfl
 have k2:(w1.alloc (.cells #[.int .i64 r.kind, .int .i64 r.a, .int .i64 r.b, .int .i64 r.c] 76)).cell? ⟨R0,2,none⟩=some (.int .i64 r.b):=by rw [hR0,box_cell (Below.refl _ _)];rfl
 have k3:(w1.alloc (.cells #[.int .i64 r.kind, .int .i64 r.a, .int .i64 r.b, .int .i64 r.c] 76)).cell? ⟨R0,3,none⟩=some (.int .i64 r.c):=by rw [hR0,box_cell (Below.refl _ _)];rfl
 have hzR:R0<(w1.alloc (.cells #[.int .i64 r.kind, .int .i64 r.a, .int .i64 r.b, .int .i64 r.c] 76)).heap.size:=by rw [hR0];simp
 have hnR:R0≠bb:=by omega
 have hRb:bb<R0:=by omega
 have hb':=hb.new (Since.alloc (fun _=>False) w1 (.cells #[.int .i64 r.kind, .int .i64 r.a, .int .i64 r.b, .int .i64 r.c] 76))
 have hs':=hs.trans (Since.alloc (fun k=>k=bb) w1 (.cells #[.int .i64 r.kind, .int .i64 r.a, .int .i64 r.b, .int .i64 r.c] 76))
 rw [←hR0]
 generalize w1.alloc (.cells #[.int .i64 r.kind, .int .i64 r.a, .int .i64 r.b, .int .i64 r.c] 76)=w2 at *
 clear hb hs hR0
 go_wp2_with fail
 refine (picked_nat r.kind 6 _ i0 (by decide) (by decide)).mono ?_
 rintro e w3 ⟨rfl,rfl⟩
 rw [Hk.out]
 go_wp2_with fail
 refine tGo hb' hs' [(R0,1, .int .i64 r.a)] ⟨k1,trivial⟩ (by simp only [CZ,and_true];omega) 20 (fun wr1 h1=>?_)
 refine tRd 0 h1.c ?_
 refine tRd 1 h1.c ?_
 refine tRd 2 h1.c ?_
 refine tRd 7 h1.c ?_
 refine tRd 8 h1.c ?_
 refine tRd 14 h1.c ?_
 refine tRd 15 h1.c ?_
 refine tRd 16 h1.c ?_
 refine tP2 3 6 (fun K hK=>?_) (fun K hK=>?_)
 ·
  go_simp
  go_at_call 31
  try rw [show IntKind.i64.wrap (d:Int)=(d:Int) from IntWalk.i64_in _ (by omega)]
  refine (text_any d (by omega) h1.b).mono ?_
  rintro e wr2 ⟨rfl,hb,hv⟩
  have h2:=h1.call hb hv
  clear hb hv
  refine tNx hK h2.c ?_
  clear hK K
  refine tRd 4 h2.c ?_
  refine tRd 5 h2.c ?_
  refine tP2 6 9 (fun K hK=>?_) (fun K hK=>?_)
  ·
   go_simp
   obtain ⟨g,hg⟩: ∃ g,g=wr2.heap.size:=⟨_,rfl⟩
   rw [←hg]
   revert g
   refine tRow hK h2 rowC r.a hq (fun g3 wr3 h3=>?_)
   clear hK K
   refine tP1 9 (fun K hK=>?_)
   go_simp
   go_at_call 7
   refine (picked_nat r.a 6 _ i1 (by decide) (by decide)).mono ?_
   rintro e wp ⟨rfl,rfl⟩
   rw [hq]
   refine tNx hK h3.c ?_
   clear hK K
   refine tRd 10 h3.c ?_
   refine tRd 11 h3.c ?_
   refine tRd 12 h3.c ?_
   refine tRd 13 h3.c ?_
   refine tP1 17 (fun K hK=>?_)
   go_simp
   go_at_call 31
   try rw [show IntKind.i64.wrap (d:Int)=(d:Int) from IntWalk.i64_in _ (by omega)]
   refine (text_any d (by omega) h3.b).mono ?_
   rintro e wr4 ⟨rfl,hb,hv⟩
   have h4:=h3.call hb hv
   clear hb hv
   refine tNx hK h4.c ?_
   clear hK K
   refine tRd 18 h4.c ?_
   refine tRd 19 h4.c ?_
   refine tP1 20 (fun K hK=>?_)
   go_simp
   refine tLast hK ?_
   clear hK K
   refine tFin ?_
   go_wp2_with fail
   go_ret
   rw [HR.out]
   exact ⟨rfl,h4.b,h4.s⟩
  ·
   go_simp
   go_at_call 7
   refine (picked_nat r.a 6 _ i1 (by decide) (by decide)).mono ?_
   rintro e wp ⟨rfl,rfl⟩
   rw [hq]
   refine tNx hK h2.c ?_
   clear hK K
   refine tP2 6 17 (fun K hK=>?_) (fun K hK=>?_)
   ·
    go_simp
    obtain ⟨g,hg⟩: ∃ g,g=wr2.heap.size:=⟨_,rfl⟩
    rw [←hg]
    revert g
    refine tRow hK h2 rowC r.a hq (fun g5 wr5 h5=>?_)
    clear hK K
    refine tRd 10 h5.c ?_
    refine tRd 11 h5.c ?_
    refine tRd 12 h5.c ?_
    refine tRd 13 h5.c ?_
    refine tP1 17 (fun K hK=>?_)
    go_simp
    go_at_call 31
    try rw [show IntKind.i64.wrap (d:Int)=(d:Int) from IntWalk.i64_in _ (by omega)]
    refine (text_any d (by omega) h5.b).mono ?_
    rintro e wr6 ⟨rfl,hb,hv⟩
    have h6:=h5.call hb hv
    clear hb hv
    refine tNx hK h6.c ?_
    clear hK K
    refine tRd 18 h6.c ?_
    refine tRd 19 h6.c ?_
    refine tP1 20 (fun K hK=>?_)
    go_simp
    refine tLast hK ?_
    clear hK K
    refine tFin ?_
    go_wp2_with fail
    go_ret
    rw [HR.out]
    exact ⟨rfl,h6.b,h6.s⟩
   ·
    go_simp
    go_at_call 31
    try rw [show IntKind.i64.wrap (d:Int)=(d:Int) from IntWalk.i64_in _ (by omega)]
    refine (text_any d (by omega) h2.b).mono ?_
    rintro e wr7 ⟨rfl,hb,hv⟩
    have h7:=h2.call hb hv
    clear hb hv
    refine tNx hK h7.c ?_
    clear hK K
    refine tP1 6 (fun K hK=>?_)
    go_simp
    obtain ⟨g,hg⟩: ∃ g,g=wr7.heap.size:=⟨_,rfl⟩
    rw [←hg]
    revert g
    refine tRow hK h7 rowC r.a hq (fun g8 wr8 h8=>?_)
    clear hK K
    refine tRd 10 h8.c ?_
    refine tRd 11 h8.c ?_
    refine tRd 12 h8.c ?_
    refine tRd 13 h8.c ?_
    refine tRd 18 h8.c ?_
    refine tRd 19 h8.c ?_
    refine tP1 20 (fun K hK=>?_)
    go_simp
    refine tLast hK ?_
    clear hK K
    refine tFin ?_
    go_wp2_with fail
    go_ret
    rw [HR.out]
    exact ⟨rfl,h8.b,h8.s⟩
 ·
  go_simp
  obtain ⟨g,hg⟩: ∃ g,g=wr1.heap.size:=⟨_,rfl⟩
  rw [←hg]
  revert g
  refine tRow hK h1 rowC r.a hq (fun g9 wr9 h9=>?_)
  clear hK K
  refine tP1 3 (fun K hK=>?_)
  go_simp
  go_at_call 31
  try rw [show IntKind.i64.wrap (d:Int)=(d:Int) from IntWalk.i64_in _ (by omega)]
  refine (text_any d (by omega) h9.b).mono ?_
  rintro e wr10 ⟨rfl,hb,hv⟩
  have h10:=h9.call hb hv
  clear hb hv
  refine tNx hK h10.c ?_
  clear hK K
  refine tRd 4 h10.c ?_
  refine tRd 5 h10.c ?_
  refine tP1 9 (fun K hK=>?_)
  go_simp
  go_at_call 7
  refine (picked_nat r.a 6 _ i1 (by decide) (by decide)).mono ?_
  rintro e wp ⟨rfl,rfl⟩
  rw [hq]
  refine tNx hK h10.c ?_
  clear hK K
  refine tRd 10 h10.c ?_
  refine tRd 11 h10.c ?_
  refine tRd 12 h10.c ?_
  refine tRd 13 h10.c ?_
  refine tP1 17 (fun K hK=>?_)
  go_simp
  go_at_call 31
  try rw [show IntKind.i64.wrap (d:Int)=(d:Int) from IntWalk.i64_in _ (by omega)]
  refine (text_any d (by omega) h10.b).mono ?_
  rintro e wr11 ⟨rfl,hb,hv⟩
  have h11:=h10.call hb hv
  clear hb hv
  refine tNx hK h11.c ?_
  clear hK K
  refine tRd 18 h11.c ?_
  refine tRd 19 h11.c ?_
  refine tP1 20 (fun K hK=>?_)
  go_simp
  refine tLast hK ?_
  clear hK K
  refine tFin ?_
  go_wp2_with fail
  go_ret
  rw [HR.out]
  exact ⟨rfl,h11.b,h11.s⟩
end Go.Proofs.YtkopjgnjflhkeaaDoor
namespace Go.Proofs.YtkopjgnjflhkeaaDoor
open Go.RowKit Go.Pst
set_option linter.unusedVariables false
set_option linter.unusedSimpArgs false
set_option maxRecDepth 100000 in
set_option maxHeartbeats 40000000 in
theorem truth_4 {main:Bool} {d:Nat} (hd:d≤5) (ih:TruthSaid main d (truthB main d)) (hnum:NumSaid main d (numB main d)) {w:World} {bb B0:Nat} {l:List PRaw} {loops:Int} (h:BardAt w bb B0 l loops main) (hk:pickN (firstB l).kind 6=4∨pickN (firstB l).kind 6=5):
 Calls Tryd.prog 33 #[.pointer (some ⟨bb,0,none⟩), .int .i64 ((d+1:Nat):Int)] w (BardEnd w bb B0 loops main (truthB main (d+1) l)):=by
 obtain ⟨i0,i1,i2,i3⟩:=firstB_in h
 obtain ⟨r,hr⟩: ∃ r,r=firstB l:=⟨_,rfl⟩
 rw [←hr] at i0 i1 i2 i3
 obtain ⟨q,hq⟩: ∃ q,pickN r.a 6=q:=⟨_,rfl⟩
 have qlt:q<6:=by rw [←hq];exact pickN_lt _ _ (by decide)
 have qI:(q:Int)<6:=by omega
 have hdI:(d:Int)≤5:=by omega
 have hnd: ¬((d:Int)+1≤0):=by omega
 have hdc:((d+1:Nat):Int)=(d:Int)+1:=rfl
 have HR:=zh (show truthB main (d+1) l=((((((((⟨#[40]⟩:ByteArray)++(numB main d l.tail).1)++(⟨#[32]⟩:ByteArray))++pickS rowC r.a)++(⟨#[32]⟩:ByteArray))++(numB main d (numB main d l.tail).2).1)++(⟨#[41]⟩:ByteArray)),(numB main d (numB main d l.tail).2).2) by rw [truthB_succ,if_neg (by omega),if_neg (by omega),if_neg (by omega),if_neg (by omega),←hr];rfl)
 rw [←hr] at hk
 obtain ⟨kk,hkk,hk45⟩: ∃ kk,pickN r.kind 6=kk∧(kk=4∨kk=5):=⟨_,rfl,hk⟩
 have Hk:=zh hkk
 have n0:((kk:Int)==0)=false:=by simp;omega
 have n1:((kk:Int)==1)=false:=by simp;omega
 have n2:((kk:Int)==2)=false:=by simp;omega
 have n3:((kk:Int)==3)=false:=by simp;omega
 have z1:=hnum.1 l.tail
 have z2:=hnum.1 (numB main d l.tail).2
 have zc:=pickS_le rowC r.a 2 (by decide)
 have Ih:=zh ih
 have Hnum:=zh hnum
 clear ih hnum hk
 have hl:=h.lt
 have hnx:=next_any h
 rw [←hr] at hnx
 have Hn:=zh hnx
 have Hr:=zh hr
 clear hnx hr h
 go_enter Tryd.func33,Tryd.ntmps33
 go_wp2_with fail
 refine Hn.out.mono ?_
 rintro e w1 ⟨rfl,hb,hs⟩
 have hz1:=hs.size
 unfold rawC
 go_upto_region 2 with fail
 obtain ⟨R0,hR0⟩: ∃ R0,R0=w1.heap.size:=⟨_,rfl⟩
 have k0:(w1.alloc (.cells #[.int .i64 r.kind, .int .i64 r.a, .int .i64 r.b, .int .i64 r.c] 76)).cell? ⟨R0,0,none⟩=some (.int .i64 r.kind):=by rw [hR0,box_cell (Below.refl _ _)];rfl
 have k1:(w1.alloc (.cells #[.int .i64 r.kind, .int .i64 r.a, .int .i64 r.b, .int .i64 r.c] 76)).cell? ⟨R0,1,none⟩=some (.int .i64 r.a):=by rw [hR0,box_cell (Below.refl _ _)];rfl
 have k2:(w1.alloc (.cells #[.int .i64 r.kind, .int .i64 r.a, .int .i64 r.b, .int .i64 r.c] 76)).cell? ⟨R0,2,none⟩=some (.int .i64 r.b):=by rw [hR0,box_cell (Below.refl _ _)];rfl
 have k3:(w1.alloc (.cells #[.int .i64 r.kind, .int .i64 r.a, .int .i64 r.b, .int .i64 r.c] 76)).cell? ⟨R0,3,none⟩=some (.int .i64 r.c):=by rw [hR0,box_cell (Below.refl _ _)];rfl
 have hzR:R0<(w1.alloc (.cells #[.int .i64 r.kind, .int .i64 r.a, .int .i64 r.b, .int .i64 r.c] 76)).heap.size:=by rw [hR0];simp
 have hnR:R0≠bb:=by omega
 have hRb:bb<R0:=by omega
 have hb':=hb.new (Since.alloc (fun _=>False) w1 (.cells #[.int .i64 r.kind, .int .i64 r.a, .int .i64 r.b, .int .i64 r.c] 76))
 have hs':=hs.trans (Since.alloc (fun k=>k=bb) w1 (.cells #[.int .i64 r.kind, .int .i64 r.a, .int .i64 r.b, .int .i64 r.c] 76))
 rw [←hR0]
 generalize w1.alloc (.cells #[.int .i64 r.kind, .int .i64 r.a, .int .i64 r.b, .int .i64 r.c] 76)=w2 at *
 clear hb hs hR0
 go_wp2_with fail
 refine (picked_nat r.kind 6 _ i0 (by decide) (by decide)).mono ?_
 rintro e w3 ⟨rfl,rfl⟩
 rw [Hk.out]
 go_wp2_with fail
 refine tGo hb' hs' [(R0,1, .int .i64 r.a)] ⟨k1,trivial⟩ (by simp only [CZ,and_true];omega) 20 (fun wr1 h1=>?_)
 refine tRd 0 h1.c ?_
 refine tRd 1 h1.c ?_
 refine tRd 2 h1.c ?_
 refine tRd 7 h1.c ?_
 refine tRd 8 h1.c ?_
 refine tRd 14 h1.c ?_
 refine tRd 15 h1.c ?_
 refine tRd 16 h1.c ?_
 refine tP2 3 6 (fun K hK=>?_) (fun K hK=>?_)
 ·
  go_simp
  go_at_call 30
  try rw [show IntKind.i64.wrap (d:Int)=(d:Int) from IntWalk.i64_in _ (by omega)]
  refine (Hnum.out.2 h1.b).mono ?_
  rintro e wr2 ⟨rfl,hb,hv⟩
  have h2:=h1.call hb hv
  clear hb hv
  refine tNx hK h2.c ?_
  clear hK K
  refine tRd 4 h2.c ?_
  refine tRd 5 h2.c ?_
  refine tP2 6 9 (fun K hK=>?_) (fun K hK=>?_)
  ·
   go_simp
   obtain ⟨g,hg⟩: ∃ g,g=wr2.heap.size:=⟨_,rfl⟩
   rw [←hg]
   revert g
   refine tRow hK h2 rowC r.a hq (fun g3 wr3 h3=>?_)
   clear hK K
   refine tP1 9 (fun K hK=>?_)
   go_simp
   go_at_call 7
   refine (picked_nat r.a 6 _ i1 (by decide) (by decide)).mono ?_
   rintro e wp ⟨rfl,rfl⟩
   rw [hq]
   refine tNx hK h3.c ?_
   clear hK K
   refine tRd 10 h3.c ?_
   refine tRd 11 h3.c ?_
   refine tRd 12 h3.c ?_
   refine tRd 13 h3.c ?_
   refine tP1 17 (fun K hK=>?_)
   go_simp
   go_at_call 30
   try rw [show IntKind.i64.wrap (d:Int)=(d:Int) from IntWalk.i64_in _ (by omega)]
   refine (Hnum.out.2 h3.b).mono ?_
   rintro e wr4 ⟨rfl,hb,hv⟩
   have h4:=h3.call hb hv
   clear hb hv
   refine tNx hK h4.c ?_
   clear hK K
   refine tRd 18 h4.c ?_
   refine tRd 19 h4.c ?_
   refine tP1 20 (fun K hK=>?_)
   go_simp
   refine tLast hK ?_
   clear hK K
   refine tFin ?_
   go_wp2_with fail
   go_ret
   rw [HR.out]
   exact ⟨rfl,h4.b,h4.s⟩
  ·
   go_simp
   go_at_call 7
   refine (picked_nat r.a 6 _ i1 (by decide) (by decide)).mono ?_
   rintro e wp ⟨rfl,rfl⟩
   rw [hq]
   refine tNx hK h2.c ?_
   clear hK K
   refine tP2 6 17 (fun K hK=>?_) (fun K hK=>?_)
   ·
    go_simp
    obtain ⟨g,hg⟩: ∃ g,g=wr2.heap.size:=⟨_,rfl⟩
    rw [←hg]
    revert g
    refine tRow hK h2 rowC r.a hq (fun g5 wr5 h5=>?_)
    clear hK K
    refine tRd 10 h5.c ?_
    refine tRd 11 h5.c ?_
    refine tRd 12 h5.c ?_
    refine tRd 13 h5.c ?_
    refine tP1 17 (fun K hK=>?_)
    go_simp
    go_at_call 30
    try rw [show IntKind.i64.wrap (d:Int)=(d:Int) from IntWalk.i64_in _ (by omega)]
    refine (Hnum.out.2 h5.b).mono ?_
    rintro e wr6 ⟨rfl,hb,hv⟩
    have h6:=h5.call hb hv
    clear hb hv
    refine tNx hK h6.c ?_
    clear hK K
    refine tRd 18 h6.c ?_
    refine tRd 19 h6.c ?_
    refine tP1 20 (fun K hK=>?_)
    go_simp
    refine tLast hK ?_
    clear hK K
    refine tFin ?_
    go_wp2_with fail
    go_ret
    rw [HR.out]
    exact ⟨rfl,h6.b,h6.s⟩
   ·
    go_simp
    go_at_call 30
    try rw [show IntKind.i64.wrap (d:Int)=(d:Int) from IntWalk.i64_in _ (by omega)]
    refine (Hnum.out.2 h2.b).mono ?_
    rintro e wr7 ⟨rfl,hb,hv⟩
    have h7:=h2.call hb hv
    clear hb hv
    refine tNx hK h7.c ?_
    clear hK K
    refine tP1 6 (fun K hK=>?_)
    go_simp
    obtain ⟨g,hg⟩: ∃ g,g=wr7.heap.size:=⟨_,rfl⟩
    rw [←hg]
    revert g
    refine tRow hK h7 rowC r.a hq (fun g8 wr8 h8=>?_)
    clear hK K
    refine tRd 10 h8.c ?_
    refine tRd 11 h8.c ?_
    refine tRd 12 h8.c ?_
    refine tRd 13 h8.c ?_
    refine tRd 18 h8.c ?_
    refine tRd 19 h8.c ?_
    refine tP1 20 (fun K hK=>?_)
    go_simp
    refine tLast hK ?_
    clear hK K
    refine tFin ?_
    go_wp2_with fail
    go_ret
    rw [HR.out]
    exact ⟨rfl,h8.b,h8.s⟩
 ·
  go_simp
  obtain ⟨g,hg⟩: ∃ g,g=wr1.heap.size:=⟨_,rfl⟩
  rw [←hg]
  revert g
  refine tRow hK h1 rowC r.a hq (fun g9 wr9 h9=>?_)
  clear hK K
  refine tP1 3 (fun K hK=>?_)
  go_simp
  go_at_call 30
  try rw [show IntKind.i64.wrap (d:Int)=(d:Int) from IntWalk.i64_in _ (by omega)]
  refine (Hnum.out.2 h9.b).mono ?_
  rintro e wr10 ⟨rfl,hb,hv⟩
  have h10:=h9.call hb hv
  clear hb hv
  refine tNx hK h10.c ?_
  clear hK K
  refine tRd 4 h10.c ?_
  refine tRd 5 h10.c ?_
  refine tP1 9 (fun K hK=>?_)
  go_simp
  go_at_call 7
  refine (picked_nat r.a 6 _ i1 (by decide) (by decide)).mono ?_
  rintro e wp ⟨rfl,rfl⟩
  rw [hq]
  refine tNx hK h10.c ?_
  clear hK K
  refine tRd 10 h10.c ?_
  refine tRd 11 h10.c ?_
  refine tRd 12 h10.c ?_
  refine tRd 13 h10.c ?_
  refine tP1 17 (fun K hK=>?_)
  go_simp
  go_at_call 30
  try rw [show IntKind.i64.wrap (d:Int)=(d:Int) from IntWalk.i64_in _ (by omega)]
  refine (Hnum.out.2 h10.b).mono ?_
  rintro e wr11 ⟨rfl,hb,hv⟩
  have h11:=h10.call hb hv
  clear hb hv
  refine tNx hK h11.c ?_
  clear hK K
  refine tRd 18 h11.c ?_
  refine tRd 19 h11.c ?_
  refine tP1 20 (fun K hK=>?_)
  go_simp
  refine tLast hK ?_
  clear hK K
  refine tFin ?_
  go_wp2_with fail
  go_ret
  rw [HR.out]
  exact ⟨rfl,h11.b,h11.s⟩
end Go.Proofs.YtkopjgnjflhkeaaDoor
namespace Go.Proofs.YtkopjgnjflhkeaaDoor
open Go.RowKit Go.Pst
set_option linter.unusedVariables false
set_option linter.unusedSimpArgs false
theorem sub_any {main:Bool} {d:Nat} {f:BD} (hf:NumSaid main d f) (hd:d≤10) {w:World} {bb B0 P0 D0:Nat} {l:List PRaw} {loops:Int} (h:BardAt w bb B0 l loops main)
 (hp:w.cell? ⟨P0,0,none⟩=some (.pointer (some ⟨bb,0,none⟩))) (hdd:w.cell? ⟨D0,0,none⟩=some (.int .i64 ((d:Int)+1))):
 Calls Tryd.prog 50 #[.pointer (some ⟨P0,0,none⟩), .pointer (some ⟨D0,0,none⟩)] w (BardEnd w bb B0 loops main (f l)):=by
 have hdI:(d:Int)≤10:=by omega
 obtain ⟨R,hR⟩: ∃ R,R=f l:=⟨_,rfl⟩
 have hc:=hf.2 h
 rw [←hR] at hc ⊢
 have Hc:=zh hc
 clear hc h hf hR
 go_enter Tryd.func50,Tryd.ntmps50
 go_wp2_with fail
 refine Hc.out.mono ?_
 rintro e w1 ⟨rfl,hb,hs⟩
 go_wp2_with fail
 go_ret
 exact ⟨rfl,hb,hs⟩
theorem numG_eq (main:Bool) (sub txt lst:BD) (l:List PRaw):numG main sub txt lst l=if l.tail=[] then (numL (firstB l),l.tail) else (if pickN (firstB l).kind 14<3 then ((((((((⟨#[40]⟩:ByteArray)++(sub l.tail).1)++(⟨#[32]⟩:ByteArray))++pickS rowOps (firstB l).a)++(⟨#[32]⟩:ByteArray))++(sub (sub l.tail).2).1)++(⟨#[41]⟩:ByteArray)),(sub (sub l.tail).2).2) else if pickN (firstB l).kind 14=3 then (((((sub l.tail).1++(⟨#[32]⟩:ByteArray))++pickS rowDiv (firstB l).a)++(⟨#[32]⟩:ByteArray))++pickS rowBy (firstB l).b,(sub l.tail).2) else if pickN (firstB l).kind 14=4 then (((⟨#[108,91]⟩:ByteArray)++pickS rowL (firstB l).a)++(⟨#[93]⟩:ByteArray),l.tail) else if pickN (firstB l).kind 14=5 then (((⟨#[109,91]⟩:ByteArray)++(sub l.tail).1)++(⟨#[93]⟩:ByteArray),(sub l.tail).2) else if pickN (firstB l).kind 14=6 then (((⟨#[115,91]⟩:ByteArray)++pickS rowS (firstB l).a)++(⟨#[93]⟩:ByteArray),l.tail) else if pickN (firstB l).kind 14=7 then (((⟨#[108,101,110,40]⟩:ByteArray)++pickS [(txt l.tail).1,(⟨#[108]⟩:ByteArray),(⟨#[109]⟩:ByteArray),(lst (txt l.tail).2).1] (firstB l).a)++(⟨#[41]⟩:ByteArray),(lst (txt l.tail).2).2) else if pickN (firstB l).kind 14=8 then (if main=true then ((((((⟨#[102,40]⟩:ByteArray)++(sub l.tail).1)++(⟨#[44,32]⟩:ByteArray))++(txt (sub l.tail).2).1)++(⟨#[41]⟩:ByteArray)),(txt (sub l.tail).2).2) else ((⟨#[45]⟩:ByteArray)++(sub l.tail).1,(sub l.tail).2)) else if pickN (firstB l).kind 14=9 then (((⟨#[40,45]⟩:ByteArray)++(sub l.tail).1)++(⟨#[41]⟩:ByteArray),(sub l.tail).2) else (pickS [(⟨#[120]⟩:ByteArray),(⟨#[121]⟩:ByteArray),itoaB (pickN (firstB l).a 300),(⟨#[108,101,110,40,109,41]⟩:ByteArray)] (firstB l).b,l.tail)):=rfl
theorem itoa_here (n:Nat) {w:World} (hn:n<300) (hT:TabOK w):Calls Tryd.prog 19 #[.int .i64 (n:Int)] w fun e w'=>e= .returned (.string (itoaB n))∧Since (fun _=>False) w w':=itoa_any n w (by omega) hT
structure NumIn (w w2:World) (bb B0:Nat) (l:List PRaw) (loops:Int) (main:Bool) (d:Int) (P0 D0 R0:Nat) (r:PRaw):Prop where
 at_:BardAt w2 bb B0 l loops main
 since:Since (fun k=>k=bb) w w2
 k0:w2.cell? ⟨R0,0,none⟩=some (.int .i64 r.kind)
 k1:w2.cell? ⟨R0,1,none⟩=some (.int .i64 r.a)
 k2:w2.cell? ⟨R0,2,none⟩=some (.int .i64 r.b)
 p0:w2.cell? ⟨P0,0,none⟩=some (.pointer (some ⟨bb,0,none⟩))
 d0:w2.cell? ⟨D0,0,none⟩=some (.int .i64 d)
 lt:bb<P0∧P0<D0∧D0<R0∧R0<w2.heap.size
end Go.Proofs.YtkopjgnjflhkeaaDoor

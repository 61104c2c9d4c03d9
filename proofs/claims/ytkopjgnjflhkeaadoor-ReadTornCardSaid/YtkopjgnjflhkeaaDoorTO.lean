import Derived.Test.YtkopjgnjflhkeaaDoorTN
import Derived.Test.YtkopjgnjflhkeaaDoorTM
import Derived.Test.YtkopjgnjflhkeaaDoorTS
import Derived.Test.YtkopjgnjflhkeaaDoorTT
import Derived.Test.YtkopjgnjflhkeaaDoorTU
namespace Go.Proofs.YtkopjgnjflhkeaaDoor
open Go.RowKit Go.Pst
set_option linter.unusedVariables false
set_option linter.unusedSimpArgs false
set_option maxRecDepth 100000 in
set_option maxHeartbeats 40000000 in
theorem stmt_last {main:Bool} {w:World} {bb B0:Nat} {l:List PRaw} {loops:Int} (hlo:0≤loops∧loops≤100) (h:BardAt w bb B0 l loops main) (hk:DeepK main loops (pickN (firstB l).kind 24)):
 Calls Tryd.prog 14 #[.pointer (some ⟨bb,0,none⟩), .int .i64 0] w (BardEnd w bb B0 loops main (stmtB main 0 (decide (0<loops)) l)):=by
 obtain ⟨i0,i1,i2,i3⟩:=firstB_in h
 obtain ⟨r,hr⟩: ∃ r,r=firstB l:=⟨_,rfl⟩
 rw [←hr] at i0 i1 i2 i3
 obtain ⟨q,hq⟩: ∃ q,pickN r.a 6=q:=⟨_,rfl⟩
 have qlt:q<6:=by rw [←hq];exact pickN_lt _ _ (by decide)
 have qI:(q:Int)<6:=by omega
 have HR:=zh (show stmtB main 0 (decide (0<loops)) l=(((⟨#[112,114,105,110,116,40]⟩:ByteArray)++pickS rowP r.a)++(⟨#[41]⟩:ByteArray),l.tail) by rw [stmtB_zero hk,←hr];rfl)
 have y1:=pickS_le rowP r.a 6 (by decide)
 unfold DeepK at hk
 obtain ⟨kk,hkk⟩: ∃ kk,pickN r.kind 24=kk:=⟨_,rfl⟩
 rw [←hr,hkk] at hk
 have hk24:kk<24:=by rw [←hkk];exact pickN_lt _ _ (by decide)
 have Hk:=zh hkk
 clear hkk
 rcases hk with ⟨rfl,hl0⟩|⟨rfl,hm⟩|h14
 ·
  have hl:=h.lt
  have hnx:=next_any h
  rw [←hr] at hnx
  have Hn:=zh hnx
  have Hr:=zh hr
  clear hnx hr h
  go_enter Tryd.func14,Tryd.ntmps14
  go_wp2_with fail
  refine Hn.out.mono ?_
  rintro e w1 ⟨rfl,hb,hs⟩
  have hz1:=hs.size
  unfold rawC
  go_upto_region 2 with fail
  obtain ⟨R0,hR0⟩: ∃ R0,R0=w1.heap.size:=⟨_,rfl⟩
  have k0:(w1.alloc (.cells #[.int .i64 r.kind, .int .i64 r.a, .int .i64 r.b, .int .i64 r.c] 76)).cell? ⟨R0,0,none⟩=some (.int .i64 r.kind):=by rw [hR0,box_cell (Below.refl _ _)];rfl
  have k1:(w1.alloc (.cells #[.int .i64 r.kind, .int .i64 r.a, .int .i64 r.b, .int .i64 r.c] 76)).cell? ⟨R0,1,none⟩=some (.int .i64 r.a):=by rw [hR0,box_cell (Below.refl _ _)];rfl
  have k2:(w1.alloc (.cells #[.int .i64 r.kind, .int .i64 r.a, .int .i64 r.b, .int .i64 r.c] 76)).cell? ⟨R0,2,none⟩=some (.int .i64 r.b):=by rw [hR0,box_cell (Below.refl _ _)];rfl
  have k3:(w1.alloc (.cells #[.int .i64 r.kind, .int .i64 r.a, .int .i64 r.b, .int .i64 r.c] 76)).cell? ⟨R0,3,none⟩=some (.int .i64 r.c):=by rw [hR0,box_cell (Below.refl _ _)];rfl
  have hzR:R0<(w1.alloc (.cells #[.int .i64 r.kind, .int .i64 r.a, .int .i64 r.b, .int .i64 r.c] 76)).heap.size:=by rw [hR0];simp
  have hnR:R0≠bb:=by omega
  have hRb:bb<R0:=by omega
  have hb':=hb.new (Since.alloc (fun _=>False) w1 (.cells #[.int .i64 r.kind, .int .i64 r.a, .int .i64 r.b, .int .i64 r.c] 76))
  have hs':=hs.trans (Since.alloc (fun k=>k=bb) w1 (.cells #[.int .i64 r.kind, .int .i64 r.a, .int .i64 r.b, .int .i64 r.c] 76))
  rw [←hR0]
  generalize w1.alloc (.cells #[.int .i64 r.kind, .int .i64 r.a, .int .i64 r.b, .int .i64 r.c] 76)=w2 at *
  clear hb hs hR0
  have cl:=hb'.c1
  have cm:=hb'.c2
  have zf:=hb'.z
  go_wp2_with fail
  refine (picked_nat r.kind 24 _ i0 (by decide) (by decide)).mono ?_
  rintro e wp ⟨rfl,rfl⟩
  rw [Hk.out]
  go_wp2_with fail
  refine (picked_nat r.a 6 _ i1 (by decide) (by decide)).mono ?_
  rintro e wp ⟨rfl,rfl⟩
  rw [hq]
  have c:(w2.alloc (.cells #[.string ⟨#[120]⟩, .string ⟨#[121]⟩, .string ⟨#[115]⟩, .string ⟨#[98]⟩, .string ⟨#[108,101,110,40,108,41]⟩, .string ⟨#[108,101,110,40,109,41]⟩] 9)).cell? ⟨w2.heap.size,q,none⟩=some (.string (pickS rowP r.a)):=pick_cell rowP r.a q hq (by decide) 9 w2
  have hb2:=hb'.new (Since.alloc _ _ (.cells #[.string ⟨#[120]⟩, .string ⟨#[121]⟩, .string ⟨#[115]⟩, .string ⟨#[98]⟩, .string ⟨#[108,101,110,40,108,41]⟩, .string ⟨#[108,101,110,40,109,41]⟩] 9))
  have hs2:=hs'.trans (Since.alloc _ _ (.cells #[.string ⟨#[120]⟩, .string ⟨#[121]⟩, .string ⟨#[115]⟩, .string ⟨#[98]⟩, .string ⟨#[108,101,110,40,108,41]⟩, .string ⟨#[108,101,110,40,109,41]⟩] 9))
  generalize w2.alloc (.cells #[.string ⟨#[120]⟩, .string ⟨#[121]⟩, .string ⟨#[115]⟩, .string ⟨#[98]⟩, .string ⟨#[108,101,110,40,108,41]⟩, .string ⟨#[108,101,110,40,109,41]⟩] 9)=w3 at *
  go_wp2_with fail
  go_ret
  rw [HR.out]
  exact ⟨rfl,hb2,hs2⟩
 ·
  have Hm:=zh hm
  clear hm
  have hl:=h.lt
  have hnx:=next_any h
  rw [←hr] at hnx
  have Hn:=zh hnx
  have Hr:=zh hr
  clear hnx hr h
  go_enter Tryd.func14,Tryd.ntmps14
  go_wp2_with fail
  refine Hn.out.mono ?_
  rintro e w1 ⟨rfl,hb,hs⟩
  have hz1:=hs.size
  unfold rawC
  go_upto_region 2 with fail
  obtain ⟨R0,hR0⟩: ∃ R0,R0=w1.heap.size:=⟨_,rfl⟩
  have k0:(w1.alloc (.cells #[.int .i64 r.kind, .int .i64 r.a, .int .i64 r.b, .int .i64 r.c] 76)).cell? ⟨R0,0,none⟩=some (.int .i64 r.kind):=by rw [hR0,box_cell (Below.refl _ _)];rfl
  have k1:(w1.alloc (.cells #[.int .i64 r.kind, .int .i64 r.a, .int .i64 r.b, .int .i64 r.c] 76)).cell? ⟨R0,1,none⟩=some (.int .i64 r.a):=by rw [hR0,box_cell (Below.refl _ _)];rfl
  have k2:(w1.alloc (.cells #[.int .i64 r.kind, .int .i64 r.a, .int .i64 r.b, .int .i64 r.c] 76)).cell? ⟨R0,2,none⟩=some (.int .i64 r.b):=by rw [hR0,box_cell (Below.refl _ _)];rfl
  have k3:(w1.alloc (.cells #[.int .i64 r.kind, .int .i64 r.a, .int .i64 r.b, .int .i64 r.c] 76)).cell? ⟨R0,3,none⟩=some (.int .i64 r.c):=by rw [hR0,box_cell (Below.refl _ _)];rfl
  have hzR:R0<(w1.alloc (.cells #[.int .i64 r.kind, .int .i64 r.a, .int .i64 r.b, .int .i64 r.c] 76)).heap.size:=by rw [hR0];simp
  have hnR:R0≠bb:=by omega
  have hRb:bb<R0:=by omega
  have hb':=hb.new (Since.alloc (fun _=>False) w1 (.cells #[.int .i64 r.kind, .int .i64 r.a, .int .i64 r.b, .int .i64 r.c] 76))
  have hs':=hs.trans (Since.alloc (fun k=>k=bb) w1 (.cells #[.int .i64 r.kind, .int .i64 r.a, .int .i64 r.b, .int .i64 r.c] 76))
  rw [←hR0]
  generalize w1.alloc (.cells #[.int .i64 r.kind, .int .i64 r.a, .int .i64 r.b, .int .i64 r.c] 76)=w2 at *
  clear hb hs hR0
  have cl:=hb'.c1
  have cm:=hb'.c2
  have zf:=hb'.z
  rw [Hm.out] at cm
  go_wp2_with fail
  refine (picked_nat r.kind 24 _ i0 (by decide) (by decide)).mono ?_
  rintro e wp ⟨rfl,rfl⟩
  rw [Hk.out]
  go_wp2_with fail
  refine (picked_nat r.a 6 _ i1 (by decide) (by decide)).mono ?_
  rintro e wp ⟨rfl,rfl⟩
  rw [hq]
  have c:(w2.alloc (.cells #[.string ⟨#[120]⟩, .string ⟨#[121]⟩, .string ⟨#[115]⟩, .string ⟨#[98]⟩, .string ⟨#[108,101,110,40,108,41]⟩, .string ⟨#[108,101,110,40,109,41]⟩] 9)).cell? ⟨w2.heap.size,q,none⟩=some (.string (pickS rowP r.a)):=pick_cell rowP r.a q hq (by decide) 9 w2
  have hb2:=hb'.new (Since.alloc _ _ (.cells #[.string ⟨#[120]⟩, .string ⟨#[121]⟩, .string ⟨#[115]⟩, .string ⟨#[98]⟩, .string ⟨#[108,101,110,40,108,41]⟩, .string ⟨#[108,101,110,40,109,41]⟩] 9))
  have hs2:=hs'.trans (Since.alloc _ _ (.cells #[.string ⟨#[120]⟩, .string ⟨#[121]⟩, .string ⟨#[115]⟩, .string ⟨#[98]⟩, .string ⟨#[108,101,110,40,108,41]⟩, .string ⟨#[108,101,110,40,109,41]⟩] 9))
  generalize w2.alloc (.cells #[.string ⟨#[120]⟩, .string ⟨#[121]⟩, .string ⟨#[115]⟩, .string ⟨#[98]⟩, .string ⟨#[108,101,110,40,108,41]⟩, .string ⟨#[108,101,110,40,109,41]⟩] 9)=w3 at *
  go_wp2_with fail
  go_ret
  rw [HR.out]
  exact ⟨rfl,hb2,hs2⟩
 ·
  have n3:((kk:Int)==3)=false:=by rw [beq_eq_false_iff_ne];omega
  have n4:((kk:Int)==4)=false:=by rw [beq_eq_false_iff_ne];omega
  have n5:((kk:Int)==5)=false:=by rw [beq_eq_false_iff_ne];omega
  have n6:((kk:Int)==6)=false:=by rw [beq_eq_false_iff_ne];omega
  have n7:((kk:Int)==7)=false:=by rw [beq_eq_false_iff_ne];omega
  have n8:((kk:Int)==8)=false:=by rw [beq_eq_false_iff_ne];omega
  have n12:((kk:Int)==12)=false:=by rw [beq_eq_false_iff_ne];omega
  have n13:((kk:Int)==13)=false:=by rw [beq_eq_false_iff_ne];omega
  have f3: ¬(kk:Int)<3:=by omega
  have f12: ¬(kk:Int)<12:=by omega
  have hl:=h.lt
  have hnx:=next_any h
  rw [←hr] at hnx
  have Hn:=zh hnx
  have Hr:=zh hr
  clear hnx hr h
  go_enter Tryd.func14,Tryd.ntmps14
  go_wp2_with fail
  refine Hn.out.mono ?_
  rintro e w1 ⟨rfl,hb,hs⟩
  have hz1:=hs.size
  unfold rawC
  go_upto_region 2 with fail
  obtain ⟨R0,hR0⟩: ∃ R0,R0=w1.heap.size:=⟨_,rfl⟩
  have k0:(w1.alloc (.cells #[.int .i64 r.kind, .int .i64 r.a, .int .i64 r.b, .int .i64 r.c] 76)).cell? ⟨R0,0,none⟩=some (.int .i64 r.kind):=by rw [hR0,box_cell (Below.refl _ _)];rfl
  have k1:(w1.alloc (.cells #[.int .i64 r.kind, .int .i64 r.a, .int .i64 r.b, .int .i64 r.c] 76)).cell? ⟨R0,1,none⟩=some (.int .i64 r.a):=by rw [hR0,box_cell (Below.refl _ _)];rfl
  have k2:(w1.alloc (.cells #[.int .i64 r.kind, .int .i64 r.a, .int .i64 r.b, .int .i64 r.c] 76)).cell? ⟨R0,2,none⟩=some (.int .i64 r.b):=by rw [hR0,box_cell (Below.refl _ _)];rfl
  have k3:(w1.alloc (.cells #[.int .i64 r.kind, .int .i64 r.a, .int .i64 r.b, .int .i64 r.c] 76)).cell? ⟨R0,3,none⟩=some (.int .i64 r.c):=by rw [hR0,box_cell (Below.refl _ _)];rfl
  have hzR:R0<(w1.alloc (.cells #[.int .i64 r.kind, .int .i64 r.a, .int .i64 r.b, .int .i64 r.c] 76)).heap.size:=by rw [hR0];simp
  have hnR:R0≠bb:=by omega
  have hRb:bb<R0:=by omega
  have hb':=hb.new (Since.alloc (fun _=>False) w1 (.cells #[.int .i64 r.kind, .int .i64 r.a, .int .i64 r.b, .int .i64 r.c] 76))
  have hs':=hs.trans (Since.alloc (fun k=>k=bb) w1 (.cells #[.int .i64 r.kind, .int .i64 r.a, .int .i64 r.b, .int .i64 r.c] 76))
  rw [←hR0]
  generalize w1.alloc (.cells #[.int .i64 r.kind, .int .i64 r.a, .int .i64 r.b, .int .i64 r.c] 76)=w2 at *
  clear hb hs hR0
  have cl:=hb'.c1
  have cm:=hb'.c2
  have zf:=hb'.z
  go_wp2_with fail
  refine (picked_nat r.kind 24 _ i0 (by decide) (by decide)).mono ?_
  rintro e wp ⟨rfl,rfl⟩
  rw [Hk.out]
  go_wp2_with fail
  refine (picked_nat r.a 6 _ i1 (by decide) (by decide)).mono ?_
  rintro e wp ⟨rfl,rfl⟩
  rw [hq]
  have c:(w2.alloc (.cells #[.string ⟨#[120]⟩, .string ⟨#[121]⟩, .string ⟨#[115]⟩, .string ⟨#[98]⟩, .string ⟨#[108,101,110,40,108,41]⟩, .string ⟨#[108,101,110,40,109,41]⟩] 9)).cell? ⟨w2.heap.size,q,none⟩=some (.string (pickS rowP r.a)):=pick_cell rowP r.a q hq (by decide) 9 w2
  have hb2:=hb'.new (Since.alloc _ _ (.cells #[.string ⟨#[120]⟩, .string ⟨#[121]⟩, .string ⟨#[115]⟩, .string ⟨#[98]⟩, .string ⟨#[108,101,110,40,108,41]⟩, .string ⟨#[108,101,110,40,109,41]⟩] 9))
  have hs2:=hs'.trans (Since.alloc _ _ (.cells #[.string ⟨#[120]⟩, .string ⟨#[121]⟩, .string ⟨#[115]⟩, .string ⟨#[98]⟩, .string ⟨#[108,101,110,40,108,41]⟩, .string ⟨#[108,101,110,40,109,41]⟩] 9))
  generalize w2.alloc (.cells #[.string ⟨#[120]⟩, .string ⟨#[121]⟩, .string ⟨#[115]⟩, .string ⟨#[98]⟩, .string ⟨#[108,101,110,40,108,41]⟩, .string ⟨#[108,101,110,40,109,41]⟩] 9)=w3 at *
  go_wp2_with fail
  go_ret
  rw [HR.out]
  exact ⟨rfl,hb2,hs2⟩
end Go.Proofs.YtkopjgnjflhkeaaDoor
namespace Go.Proofs.YtkopjgnjflhkeaaDoor
open Go.RowKit Go.Pst
set_option linter.unusedVariables false
set_option linter.unusedSimpArgs false
theorem plainB_size {main lo:Bool} {l:List PRaw} {p:ByteArray × List PRaw} (h:plainB main lo (firstB l) l.tail=some p):p.1.size≤2500:=by
 obtain ⟨b1,b2,b3,b4,b5⟩:=sizes_main main
 have y1:=pickS_le rowXY (firstB l).a 1 (by decide)
 have y2:=pickS_le rowLK (firstB l).a 1 (by decide)
 have y3:=pickS_le row0x1 (firstB l).a 1 (by decide)
 have y4:=pickS_le rowBr (firstB l).a 8 (by decide)
 have z1:=b1 l.tail
 have z2:=b2 l.tail
 have z3:=b3 l.tail
 have z4:=b4 l.tail
 have z5:=b5 l.tail
 have z6:=b2 (numB main 1 l.tail).2
 have z7:=b3 (numB main 2 l.tail).2
 have z8:=b5 (textB 2 (numB main 2 l.tail).2).2
 have y9:=pickS_le [(numB main 2 l.tail).1,(textB 2 (numB main 2 l.tail).2).1,(truthB main 2 (textB 2 (numB main 2 l.tail).2).2).1] (firstB l).a 1000 (by intro x hx;simp only [List.mem_cons,List.not_mem_nil,or_false] at hx;rcases hx with rfl|rfl|rfl<;>omega)
 rw [plainB_eq] at h
 repeat' split at h
 all_goals first
  |(cases h;done)
  |(obtain rfl:=Option.some.inj h;simp only [ByteArray.size_append])
 ·
  show _+3+_≤_;omega
 ·
  show 4+_≤_;omega
 ·
  show _+3+_≤_;omega
 ·
  show 4+_≤_;omega
 ·
  show 2+_+4+_≤_;omega
 ·
  show 2+_+4+_≤_;omega
 ·
  show 10+_+1≤_;omega
 ·
  show 6+_+1≤_;omega
 ·
  omega
 ·
  show 2+_+4≤_;omega
theorem stmtB0_size (main lo:Bool) (l:List PRaw):(stmtB main 0 lo l).1.size≤2500:=by
 unfold stmtB
 cases h:plainB main lo (firstB l) l.tail with
 |some p=>exact plainB_size h
 |none=>
  have y:=pickS_le rowP (firstB l).a 6 (by decide)
  show (lastB (firstB l)).size≤_
  unfold lastB
  simp only [ByteArray.size_append]
  show 6+_+1≤_
  omega
theorem stmtBs_size {main:Bool} {d S:Nat} (hs: ∀ lo l,(stmtB main d lo l).1.size≤S) (lo:Bool) (l:List PRaw):(stmtB main (d+1) lo l).1.size≤4*S+2500:=by
 have hb: ∀ lo n l,(blockB (stmtB main d lo) n l).1.size≤n*(S+1)+3:=fun lo n l=>blockB_size (hs lo) n l
 obtain ⟨b1,b2,b3,b4,b5⟩:=sizes_main main
 have q1:=pickN_lt (firstB l).a 2 (by decide)
 have q2:=pickN_lt (firstB l).c 2 (by decide)
 conv=>lhs;unfold stmtB
 cases h:plainB main lo (firstB l) l.tail with
 |some p=>exact Nat.le_trans (plainB_size h) (by omega)
 |none=>
  dsimp only
  split
  ·
   unfold ifB
   dsimp only
   have c1:=b5 l.tail
   have c2:=hb lo (1+pickN (firstB l).a 2) (truthB main 2 l.tail).2
   have c3:=hb lo 1 (blockB (stmtB main d lo) (1+pickN (firstB l).a 2) (truthB main 2 l.tail).2).2
   have c4:(1+pickN (firstB l).a 2)*(S+1)≤2*(S+1):=Nat.mul_le_mul_right _ (by omega)
   split
   ·
    simp only [ByteArray.size_append]
    show 3+_+1+_+(6+_)≤_
    omega
   ·
    simp only [ByteArray.size_append]
    show 3+_+1+_≤_
    omega
  split
  ·
   unfold rangeB
   dsimp only
   have c1:(textB 1 l.tail).1.size≤1000:=Nat.le_trans (textB_size 1 _) (by decide)
   have c2:=hb true (1+pickN (firstB l).c 2) (textB 1 l.tail).2
   have c4:(1+pickN (firstB l).c 2)*(S+1)≤2*(S+1):=Nat.mul_le_mul_right _ (by omega)
   have c0:=itoaB_le (pickN (firstB l).b 5) (by have:=pickN_lt (firstB l).b 5 (by decide);omega)
   have y1:=pickS_le [itoaB (pickN (firstB l).b 5),(⟨#[115]⟩:ByteArray),⟨#[108]⟩,⟨#[109]⟩,(textB 1 l.tail).1] (firstB l).a 1000 (by intro x hx;simp only [List.mem_cons,List.not_mem_nil,or_false] at hx;rcases hx with rfl|rfl|rfl|rfl|rfl<;>first|omega|decide)
   simp only [ByteArray.size_append]
   show 18+_+1+_+1≤_
   omega
  split
  ·
   unfold whileB
   have c0:=itoaB_le (1+pickN (firstB l).a 4) (by have:=pickN_lt (firstB l).a 4 (by decide);omega)
   have c1:=hs true l.tail
   simp only [ByteArray.size_append]
   show 10+(15+_+13+_+2)+2≤_
   omega
  ·
   unfold switchB
   dsimp only
   have c0:=b1 l.tail
   have c1:=itoaB_le (pickN (firstB l).a 3) (by have:=pickN_lt (firstB l).a 3 (by decide);omega)
   have c2:=itoaB_le (3+pickN (firstB l).b 3) (by have:=pickN_lt (firstB l).b 3 (by decide);omega)
   have d1:=hb lo 1 (numB main 1 l.tail).2
   have d2:=hb lo 1 (blockB (stmtB main d lo) 1 (numB main 1 l.tail).2).2
   have d3:=hb lo 1 (blockB (stmtB main d lo) 1 (blockB (stmtB main d lo) 1 (numB main 1 l.tail).2).2).2
   have d4:=hb lo 1 (blockB (stmtB main d lo) 1 (blockB (stmtB main d lo) 1 (blockB (stmtB main d lo) 1 (numB main 1 l.tail).2).2).2).2
   split
   ·
    simp only [ByteArray.size_append]
    show 7+_+8+_+6+_+6+_+2+_+1+(14+_+1)+9+_+2≤_
    omega
   ·
    simp only [ByteArray.size_append]
    show 7+_+8+_+6+_+6+_+2+_+1+9+_+2≤_
    omega
theorem stmt_plain {main:Bool} {d:Nat} (hd:d≤5) {w:World} {bb B0:Nat} {l:List PRaw} {loops:Int} (hlo:0≤loops∧loops≤100) (h:BardAt w bb B0 l loops main) (hn: ¬DeepK main loops (pickN (firstB l).kind 24)):
 Calls Tryd.prog 14 #[.pointer (some ⟨bb,0,none⟩), .int .i64 d] w (BardEnd w bb B0 loops main (stmtB main d (decide (0<loops)) l)):=by
 unfold DeepK at hn
 rcases (show pickN (firstB l).kind 24<3∨pickN (firstB l).kind 24=3∨pickN (firstB l).kind 24=4∨pickN (firstB l).kind 24=5∨pickN (firstB l).kind 24=6∨pickN (firstB l).kind 24=7∨pickN (firstB l).kind 24=8∨(9≤pickN (firstB l).kind 24∧pickN (firstB l).kind 24<12)∨pickN (firstB l).kind 24=12∨pickN (firstB l).kind 24=13 by omega) with hk|hk|hk|hk|hk|hk|hk|hk|hk|hk
 ·
  exact stmt_p0 hd hlo h hk
 ·
  exact stmt_p3 hd hlo h hk
 ·
  exact stmt_p4 hd hlo h hk
 ·
  exact stmt_p5 hd hlo h hk
 ·
  exact stmt_p6 hd hlo h hk
 ·
  exact stmt_p7 hd hlo h hk
 ·
  exact stmt_p8 hd hlo h hk
 ·
  exact stmt_p9 hd hlo h hk
 ·
  exact stmt_p12 hd hlo h hk (by omega)
 ·
  refine stmt_p13 hd hlo h hk ?_
  cases hm:main with
  |true=>rfl
  |false=>exact absurd (Or.inr (Or.inl ⟨hk,hm⟩)) hn
theorem stmt0_said (main:Bool) {loops:Int} (hlo:0≤loops∧loops≤100):StmtSaid main 0 loops (stmtB main 0 (decide (0<loops))):=by
 refine ⟨fun l=>Nat.le_trans (stmtB0_size main _ l) (by decide),?_⟩
 intro w bb B0 l h
 by_cases hk:DeepK main loops (pickN (firstB l).kind 24)
 ·
  exact stmt_last hlo h hk
 ·
  exact stmt_plain (d:=0) (by decide) hlo h hk
theorem stmts_said {main:Bool} {d S:Nat} (hd4:d≤4) {loops:Int} (hlo:0≤loops∧loops≤100) (hz: ∀ lo l,(stmtB main d lo l).1.size≤S) (hS:S≤24000)
 (hst:StmtSaid main d loops (stmtB main d (decide (0<loops)))) (hst2:StmtSaid main d (loops+1) (stmtB main d true)):StmtSaid main ((d:Int)+1) loops (stmtB main (d+1) (decide (0<loops))):=by
 have hd:d≤5:=by omega
 have hS4:4*S+2500≤100000:=by omega
 refine ⟨fun l=>Nat.le_trans (stmtBs_size (S:=S) hz _ l) hS4,?_⟩
 intro w bb B0 l h
 by_cases hk:DeepK main loops (pickN (firstB l).kind 24)
 ·
  have h24:=pickN_lt (firstB l).kind 24 (by decide)
  by_cases h17:pickN (firstB l).kind 24<17
  ·
   by_cases hz2:pickN (firstB l).b 2=0
   ·
    exact stmt_ifElse hd hlo hst hst2 h hk h17 hz2
   ·
    exact stmt_if hd hlo hst hst2 h hk h17 hz2
  by_cases h20:pickN (firstB l).kind 24<20
  ·
   exact stmt_range hd hlo hst hst2 h hk ⟨by omega,h20⟩
  by_cases e20:pickN (firstB l).kind 24=20
  ·
   exact stmt_while hd hlo hst hst2 h hk e20
  by_cases hz2:pickN (firstB l).c 2=0
  ·
   exact stmt_switchA hd hlo hst hst2 h hk (by omega) hz2
  ·
   exact stmt_switchB hd hlo hst hst2 h hk (by omega) hz2
 ·
  exact stmt_plain (d:=d+1) (by omega) hlo h hk
theorem lo_true {loops:Int} (h:0≤loops):decide (0<loops+1)=true:=by simp;omega
theorem stmt1_said (main:Bool) {loops:Int} (hlo:0≤loops∧loops≤90):StmtSaid main 1 loops (stmtB main 1 (decide (0<loops))):=by
 have h2:=stmt0_said main (loops:=loops+1) ⟨by omega,by omega⟩
 rw [lo_true hlo.1] at h2
 exact stmts_said (d:=0) (by decide) ⟨hlo.1,by omega⟩ (fun lo l=>stmtB0_size main lo l) (by decide) (stmt0_said main ⟨hlo.1,by omega⟩) h2
theorem stmt2_said (main:Bool) {loops:Int} (hlo:0≤loops∧loops≤80):StmtSaid main 2 loops (stmtB main 2 (decide (0<loops))):=by
 have h2:=stmt1_said main (loops:=loops+1) ⟨by omega,by omega⟩
 rw [lo_true hlo.1] at h2
 exact stmts_said (d:=1) (S:=12500) (by decide) ⟨hlo.1,by omega⟩ (fun lo l=>stmtBs_size (S:=2500) (fun lo l=>stmtB0_size main lo l) lo l) (by decide) (stmt1_said main ⟨hlo.1,by omega⟩) h2
end Go.Proofs.YtkopjgnjflhkeaaDoor
namespace Go.Proofs.YtkopjgnjflhkeaaDoor
open Go.RowKit Go.Pst
set_option linter.unusedVariables false
set_option linter.unusedSimpArgs false
theorem raws_take {w:World} {a:Option Addr} {l:List PRaw} {cap:Nat} (h:rRaws (fun _=>True) w [.slice a l.length cap] l) (m:Nat) (hm:m≤l.length) (h36:m≤36):RawsAt w w.heap.size (.slice a m cap) (l.take m):=by
 obtain ⟨a',cap',he,h2,h3,h4⟩:=rRaws_val h
 simp only [Value.slice.injEq] at he
 obtain ⟨rfl,-,rfl⟩:=he
 have hl:(l.take m).length=m:=by rw [List.length_take];omega
 refine ⟨a,cap,by rw [hl],by omega,by omega,h3,fun i hi=>?_⟩
 rw [hl] at hi
 obtain ⟨b,off,e,-,hb,c0,c1,c2,c3,c4⟩:=h4 i (by omega)
 rw [List.getElem_take]
 exact ⟨b,off,e,hb,c0,c1,c2,c3,c4⟩
theorem raws_drop {w:World} {B0:Nat} {a:Option Addr} {l:List PRaw} {cap:Nat} (h:RawsAt w B0 (.slice a l.length cap) l) (k:Nat) (hk:k≤l.length):RawsAt w B0 (.slice (if cap=k then a else Option.map (fun x=>x.add (k*4)) a) (l.length - k) (cap - k)) (l.drop k):=by
 obtain ⟨a',cap',he,h2,h2',h3,h4⟩:=h
 simp only [Value.slice.injEq] at he
 obtain ⟨rfl,-,rfl⟩:=he
 have hl:(l.drop k).length=l.length - k:=List.length_drop
 refine ⟨_,_,by rw [hl],by omega,by omega,by omega,fun i hi=>?_⟩
 rw [hl] at hi
 obtain ⟨b,off,rfl,hb,c0,c1,c2,c3,c4⟩:=h4 (k+i) (by omega)
 rw [List.getElem_drop]
 have hadd:(⟨b,off,none⟩:Addr).add (k*4)=⟨b,off+k*4,none⟩:=by simp [Addr.add]
 refine ⟨b,off+k*4,?_,hb,?_,?_,?_,?_,c4⟩
 ·
  rw [if_neg (by omega)];simp [hadd]
 ·
  rw [←c0];congr 2;omega
 ·
  rw [←c1];congr 2;omega
 ·
  rw [←c2];congr 2;omega
 ·
  rw [←c3];congr 2;omega
def headL:ByteArray:=(⟨#[102,117,110,99,32,109,97,105,110,40,41,32,123,10,115,32,58,61,32,34,97,98,34,10,120,32,58,61,32,49,10,121,32,58,61,32,50,10,116,32,58,61,32,34,116,97,105,108,34,10,108,32,58,61,32,115,108,105,99,101,40,51,44,32,49,41,10,107,32,58,61,32,97,112,112,101,110,100,40,108,44,32,52,41,10,109,32,58,61,32,109,97,112,40,41,10,98,32,58,61,32,102,97,108,115,101,10]⟩:ByteArray)
def midL:ByteArray:=(⟨#[112,114,105,110,116,40,120,41,10,112,114,105,110,116,40,115,41,10,112,114,105,110,116,40,108,101,110,40,109,41,41,10,125,10,102,117,110,99,32,102,40,97,32,105,110,116,44,32,115,32,115,116,114,105,110,103,41,32,105,110,116,32,123,10,120,32,58,61,32,49,10,121,32,58,61,32,50,10,116,32,58,61,32,34,116,97,105,108,34,10,108,32,58,61,32,115,108,105,99,101,40,51,44,32,49,41,10,107,32,58,61,32,97,112,112,101,110,100,40,108,44,32,52,41,10,109,32,58,61,32,109,97,112,40,41,10,98,32,58,61,32,102,97,108,115,101,10,120,32,61,32,97,10]⟩:ByteArray)
theorem cellOf {w:World} {b:Nat} {cs:Array Value} {T:TypeId} (h:w.heap[b]?=some (.cells cs T (0,0))) (j:Nat):w.cell? ⟨b,j,none⟩=cs[j]?:=by simp [World.cell?,h]
theorem frozenOf {w:World} {b:Nat} {cs:Array Value} {T:TypeId} (h:w.heap[b]?=some (.cells cs T (0,0))) (j:Nat):w.frozen? ⟨b,j,none⟩=false:=by simp [World.frozen?,h]
theorem stmtsB_succ (st:BD) (n:Nat) (s:ByteArray) (l:List PRaw):stmtsB st (n+1) s l=stmtsB st n (s++((st l).1++⟨#[10]⟩)) (st l).2:=rfl
theorem headB_eq:headB=headL:=by kernel_rfl
theorem midB_eq:midB=midL:=by kernel_rfl
set_option maxRecDepth 100000 in
set_option maxHeartbeats 8000000 in
theorem source_any (l:List PRaw) (v:Value) (w:World) (h:rRaws (fun _=>True) w [v] l) (hT:TabOK w):
 Calls Tryd.prog 8 #[v] w fun e w'=>e= .returned (.string (sourceB l))∧Since (fun _=>False) w w':=by
 obtain ⟨a,cap,rfl,hle,hmax,-⟩:=rRaws_val h
 have hm1:(l.length:Int)≤9223372036854775807:=by unfold maxLen at hmax;omega
 obtain ⟨m,hite,hm36,hml,hmin⟩: ∃ m:Nat,(if (36:Int)<(l.length:Int) then (36:Int) else (l.length:Int))=(m:Int)∧m≤36∧m≤l.length∧(l.take 36).length=m:=⟨min l.length 36,by split<;>omega,by omega,by omega,by rw [List.length_take];omega⟩
 have htk:l.take 36=l.take m:=by rw [←hmin,List.length_take,Nat.min_comm];exact (List.take_eq_take_iff.2 (by omega))
 obtain ⟨n,hn,hnI⟩: ∃ n:Nat,n=m / 3∧(m:Int) / 3=(n:Int):=⟨m / 3,rfl,by omega⟩
 have hmI:(m:Int)≤36:=by omega
 have hmc:(m:Int)≤(cap:Int):=by omega
 have h2n:2*n≤m:=by omega
 have h2nI:2*(n:Int)≤(m:Int):=by omega
 have r0:=raws_take h m hml hm36
 have hmn:min (l.length:Int) 36=(m:Int):=by omega
 have hmx:max (m:Int) 0=(m:Int):=by omega
 have hn3:(m:Int) / 3=(n:Int):=hnI
 obtain ⟨N1,hN1,hN1b⟩: ∃ N1:Nat,min (1+(m:Int) / 8) 5=(N1:Int)∧N1=min (1+m / 8) 5:=⟨min (1+m / 8) 5,by omega,rfl⟩
 obtain ⟨N2,hN2,hN2b⟩: ∃ N2:Nat,min (1+(m:Int) / 18) 2=(N2:Int)∧N2=min (1+m / 18) 2:=⟨min (1+m / 18) 2,by omega,rfl⟩
 have HN:=And.intro hn (And.intro hN1b hN2b)
 obtain ⟨l1,hl1⟩: ∃ l1,l1=(l.take m).take (2*n):=⟨_,rfl⟩
 obtain ⟨l2,hl2⟩: ∃ l2,l2=(l.take m).drop (2*n):=⟨_,rfl⟩
 have hlm:(l.take m).length=m:=by rw [List.length_take];omega
 have r1:RawsAt w w.heap.size (.slice a (2*n) cap) l1:=by
  have:=raws_take h (2*n) (by omega) (by omega)
  rw [hl1,List.take_take,Nat.min_eq_left h2n]
  exact this
 have r2:RawsAt w w.heap.size (.slice (if cap=2*n then a else Option.map (fun x=>x.add (2*n*4)) a) (m - 2*n) (cap - 2*n)) l2:=by
  have:=raws_drop (l:=l.take m) (by rw [hlm];exact r0) (2*n) (by omega)
  rw [hlm] at this
  rw [hl2]
  exact this
 obtain ⟨st1,hst1⟩: ∃ st1,st1=stmtB true 2 false:=⟨_,rfl⟩
 obtain ⟨st2,hst2⟩: ∃ st2,st2=stmtB false 1 false:=⟨_,rfl⟩
 obtain ⟨P1,hP1⟩: ∃ P1,P1=stmtsB st1 N1 headL l1:=⟨_,rfl⟩
 obtain ⟨P2,hP2⟩: ∃ P2,P2=stmtsB st2 N2 (P1.1++midL) l2:=⟨_,rfl⟩
 have HSRC:=zh (show sourceB l=P2.1++(⟨#[114,101,116,117,114,110,32,120,32,43,32,121,10,125,10]⟩:ByteArray) by
  unfold sourceB
  dsimp only
  rw [hmin,htk,←hn,←hN1b,←hN2b,headB_eq,midB_eq,←hst1,←hst2,←hl1,←hl2,←hP1,←hP2])
 have ST1:=zh (show StmtSaid true 2 0 st1 by rw [hst1];exact stmt2_said true (loops:=0) ⟨by decide,by decide⟩)
 have ST2:=zh (show StmtSaid false 1 0 st2 by rw [hst2];exact stmt1_said false (loops:=0) ⟨by decide,by decide⟩)
 clear hst1 hst2
 have HP1:=zh hP1
 have HP2:=zh hP2
 have hN15:N1≤5:=by omega
 have hN22:N2≤2:=by omega
 have hN1I:(N1:Int)≤5:=by omega
 have hN2I:(N2:Int)≤2:=by omega
 by_cases hc0:cap=0
 ·
  have hm0:m=0:=by omega
  have hn0:n=0:=by omega
  rw [if_pos (by omega)] at r2
  subst hc0 hm0 hn0
  obtain rfl:N1=1:=by omega
  obtain rfl:N2=1:=by omega
  have hm15:min (1:Int) 5=1:=rfl
  have hm12:min (1:Int) 2=1:=rfl
  have R1:=zh r1
  have R2:=zh r2
  clear hn hN1b hN2b hnI hite hmin htk HN hl1 hl2 hP1 hP2 r0 r1 r2 hlm h
  have hS:Since (fun _=>False) w ((w.alloc (.cells #[.slice a 0 0, .int .i64 0, .bool true] 58)).alloc (.cells #[.slice a 0 0, .int .i64 0, .bool false] 58)):=(Since.alloc _ _ _).trans (Since.alloc _ _ _)
  have g0:((w.alloc (.cells #[.slice a 0 0, .int .i64 0, .bool true] 58)).alloc (.cells #[.slice a 0 0, .int .i64 0, .bool false] 58)).heap[w.heap.size+0]?=some (.cells #[.slice a 0 0, .int .i64 0, .bool true] 58):=allocs_get [(.cells #[.slice a 0 0, .int .i64 0, .bool true] 58),(.cells #[.slice a 0 0, .int .i64 0, .bool false] 58)] w 0 (by simp)
  have g1:((w.alloc (.cells #[.slice a 0 0, .int .i64 0, .bool true] 58)).alloc (.cells #[.slice a 0 0, .int .i64 0, .bool false] 58)).heap[w.heap.size+1]?=some (.cells #[.slice a 0 0, .int .i64 0, .bool false] 58):=allocs_get [(.cells #[.slice a 0 0, .int .i64 0, .bool true] 58),(.cells #[.slice a 0 0, .int .i64 0, .bool false] 58)] w 1 (by simp)
  have hz:((w.alloc (.cells #[.slice a 0 0, .int .i64 0, .bool true] 58)).alloc (.cells #[.slice a 0 0, .int .i64 0, .bool false] 58)).heap.size=w.heap.size+2:=by simp
  rw [Nat.add_zero] at g0
  have hB1:BardAt ((w.alloc (.cells #[.slice a 0 0, .int .i64 0, .bool true] 58)).alloc (.cells #[.slice a 0 0, .int .i64 0, .bool false] 58)) w.heap.size w.heap.size l1 0 true:=⟨⟨_,cellOf g0 0,R1.out.since hS (fun _ _ f=>f) (Nat.le_refl _)⟩,cellOf g0 1,cellOf g0 2,frozenOf g0,⟨Nat.le_refl _,by omega⟩,hT.since hS (fun f=>f),hT.lt⟩
  have hB2:BardAt ((w.alloc (.cells #[.slice a 0 0, .int .i64 0, .bool true] 58)).alloc (.cells #[.slice a 0 0, .int .i64 0, .bool false] 58)) (w.heap.size+1) w.heap.size l2 0 false:=⟨⟨_,cellOf g1 0,R2.out.since hS (fun _ _ f=>f) (Nat.le_refl _)⟩,cellOf g1 1,cellOf g1 2,frozenOf g1,⟨Nat.le_succ _,by omega⟩,hT.since hS (fun f=>f),hT.lt⟩
  have HB1:=zh hB1
  have HB2:=zh hB2
  have HS:=zh hS
  clear hS g0 g1 hB1 hB2
  go_enter Tryd.func8,Tryd.ntmps8
  go_wp2_with fail
  generalize ((w.alloc (.cells #[.slice a 0 0, .int .i64 0, .bool true] 58)).alloc (.cells #[.slice a 0 0, .int .i64 0, .bool false] 58))=w1 at *
  obtain ⟨bb,hbb⟩: ∃ bb,bb=w.heap.size:=⟨_,rfl⟩
  rw [←hbb]
  have Hbb:=zh hbb
  clear hbb
  go_loopw [6,32] (fun s j wr=> ∃ (S:ByteArray) (i:Nat) (l':List PRaw),s= .string S∧j= .int .i64 i∧i≤1∧BardAt wr bb w.heap.size l' 0 true∧Since (fun k=>k=bb) w1 wr∧S.size≤300+i*100001∧P1=stmtsB st1 (1 - i) S l') (fun _ j _=>1 - (intOf j).toNat)
  case atStart=>exact ⟨headL,0,l1,(by kernel_rfl),rfl,Nat.zero_le _,by rw [Hbb.out];exact HB1.out,Since.refl _ _,by decide,HP1.out⟩
  case round=>
   obtain ⟨S,i,l',rfl,rfl,hi,hb,hs,hSz,hR⟩:=hrel
   have hS3:S.size≤600000:=by omega
   by_cases hlt:i<1
   ·
    have hltI:(i:Int)<(1:Int):=by omega
    have z1:=ST1.out.1 l'
    have HR2:=zh (show P1=stmtsB st1 (1 - (i+1)) (S++((st1 l').1++⟨#[10]⟩)) (st1 l').2 by rw [hR,show 1 - i=(1 - (i+1))+1 by omega,stmtsB_succ])
    clear hR
    go_wp2_with fail
    refine (ST1.out.2 hb).mono ?_
    rintro e w2 ⟨rfl,hb2,hs2⟩
    go_wp2_with fail
    refine ⟨⟨_,i+1,_,rfl,by go_num,by omega,hb2,hs.trans hs2,?_,HR2.out⟩,by simp [intOf];omega⟩
    simp only [ByteArray.size_append]
    have h3:(⟨#[10]⟩:ByteArray).size=1:=rfl
    omega
   ·
    have hnl: ¬((i:Int)<(1:Int)):=by omega
    have hR2:P1=(S,l'):=by rw [hR,show 1 - i=0 by omega];rfl
    have HR2:=zh hR2
    have HP3:=zh (show P2=stmtsB st2 1 (S++midL) l2 by rw [HP2.out,hR2])
    have hb2:BardAt wr (bb+1) w.heap.size l2 0 false:=by
     have hq:=Hbb.out
     have:=HB2.out.since hs (fun k hk e=>by omega) (by omega)
     rw [hq]
     exact this
    have HBB:=zh hb2
    have Hs:=zh hs
    clear hR hR2 hb hs hb2 hlt
    go_wp2_with fail
    go_loopw [6,47] (fun s j wq=> ∃ (Z:ByteArray) (i:Nat) (l':List PRaw),s= .string Z∧j= .int .i64 i∧i≤1∧BardAt wq (bb+1) w.heap.size l' 0 false∧Since (fun k=>k=bb+1) wr wq∧Z.size≤700000+i*100001∧P2=stmtsB st2 (1 - i) Z l') (fun _ j _=>1 - (intOf j).toNat)
    case atStart=>exact ⟨S++midL,0,l2,(by kernel_rfl),rfl,Nat.zero_le _,HBB.out,Since.refl _ _,by simp only [ByteArray.size_append];have:midL.size=153:=rfl;omega,HP3.out⟩
    case round=>
     obtain ⟨Z,i2,l',rfl,rfl,hi2,hb,hs,hSz2,hR⟩:=hrel
     have hS4:Z.size≤1000000:=by omega
     by_cases hlt:i2<1
     ·
      have hltI:(i2:Int)<(1:Int):=by omega
      have z1:=ST2.out.1 l'
      have HR3:=zh (show P2=stmtsB st2 (1 - (i2+1)) (Z++((st2 l').1++⟨#[10]⟩)) (st2 l').2 by rw [hR,show 1 - i2=(1 - (i2+1))+1 by omega,stmtsB_succ])
      clear hR
      go_wp2_with fail
      refine (ST2.out.2 hb).mono ?_
      rintro e w2 ⟨rfl,hb2,hs2⟩
      go_wp2_with fail
      refine ⟨⟨_,i2+1,_,rfl,by go_num,by omega,hb2,hs.trans hs2,?_,HR3.out⟩,by simp [intOf];omega⟩
      simp only [ByteArray.size_append]
      have h3:(⟨#[10]⟩:ByteArray).size=1:=rfl
      omega
     ·
      have hnl2: ¬((i2:Int)<(1:Int)):=by omega
      have hR2:P2=(Z,l'):=by rw [hR,show 1 - i2=0 by omega];rfl
      have HR4:=zh hR2
      clear hR hR2
      go_wp2_with fail
      go_ret
      rw [HSRC.out,HR4.out]
      exact ⟨rfl,(HS.out.then_new Hs.out (fun k e=>Or.inr (by have:=Hbb.out;omega))).then_new hs (fun k e=>Or.inr (by have:=Hbb.out;omega))⟩
 ·
  have hne: ¬cap=2*n:=by omega
  rw [if_neg hne] at r2
  have R1:=zh r1
  have R2:=zh r2
  clear hn hN1b hN2b hnI hite hmin htk HN hl1 hl2 hP1 hP2 r0 r1 r2 hlm h
  have hS:Since (fun _=>False) w ((w.alloc (.cells #[.slice a (2*n) cap, .int .i64 0, .bool true] 58)).alloc (.cells #[.slice (Option.map (fun x=>x.add (2*n*4)) a) (m - 2*n) (cap - 2*n), .int .i64 0, .bool false] 58)):=(Since.alloc _ _ _).trans (Since.alloc _ _ _)
  have g0:((w.alloc (.cells #[.slice a (2*n) cap, .int .i64 0, .bool true] 58)).alloc (.cells #[.slice (Option.map (fun x=>x.add (2*n*4)) a) (m - 2*n) (cap - 2*n), .int .i64 0, .bool false] 58)).heap[w.heap.size+0]?=some (.cells #[.slice a (2*n) cap, .int .i64 0, .bool true] 58):=allocs_get [(.cells #[.slice a (2*n) cap, .int .i64 0, .bool true] 58),(.cells #[.slice (Option.map (fun x=>x.add (2*n*4)) a) (m - 2*n) (cap - 2*n), .int .i64 0, .bool false] 58)] w 0 (by simp)
  have g1:((w.alloc (.cells #[.slice a (2*n) cap, .int .i64 0, .bool true] 58)).alloc (.cells #[.slice (Option.map (fun x=>x.add (2*n*4)) a) (m - 2*n) (cap - 2*n), .int .i64 0, .bool false] 58)).heap[w.heap.size+1]?=some (.cells #[.slice (Option.map (fun x=>x.add (2*n*4)) a) (m - 2*n) (cap - 2*n), .int .i64 0, .bool false] 58):=allocs_get [(.cells #[.slice a (2*n) cap, .int .i64 0, .bool true] 58),(.cells #[.slice (Option.map (fun x=>x.add (2*n*4)) a) (m - 2*n) (cap - 2*n), .int .i64 0, .bool false] 58)] w 1 (by simp)
  have hz:((w.alloc (.cells #[.slice a (2*n) cap, .int .i64 0, .bool true] 58)).alloc (.cells #[.slice (Option.map (fun x=>x.add (2*n*4)) a) (m - 2*n) (cap - 2*n), .int .i64 0, .bool false] 58)).heap.size=w.heap.size+2:=by simp
  rw [Nat.add_zero] at g0
  have hB1:BardAt ((w.alloc (.cells #[.slice a (2*n) cap, .int .i64 0, .bool true] 58)).alloc (.cells #[.slice (Option.map (fun x=>x.add (2*n*4)) a) (m - 2*n) (cap - 2*n), .int .i64 0, .bool false] 58)) w.heap.size w.heap.size l1 0 true:=⟨⟨_,cellOf g0 0,R1.out.since hS (fun _ _ f=>f) (Nat.le_refl _)⟩,cellOf g0 1,cellOf g0 2,frozenOf g0,⟨Nat.le_refl _,by omega⟩,hT.since hS (fun f=>f),hT.lt⟩
  have hB2:BardAt ((w.alloc (.cells #[.slice a (2*n) cap, .int .i64 0, .bool true] 58)).alloc (.cells #[.slice (Option.map (fun x=>x.add (2*n*4)) a) (m - 2*n) (cap - 2*n), .int .i64 0, .bool false] 58)) (w.heap.size+1) w.heap.size l2 0 false:=⟨⟨_,cellOf g1 0,R2.out.since hS (fun _ _ f=>f) (Nat.le_refl _)⟩,cellOf g1 1,cellOf g1 2,frozenOf g1,⟨Nat.le_succ _,by omega⟩,hT.since hS (fun f=>f),hT.lt⟩
  have HB1:=zh hB1
  have HB2:=zh hB2
  have HS:=zh hS
  clear hS g0 g1 hB1 hB2
  go_enter Tryd.func8,Tryd.ntmps8
  go_wp2_with fail
  generalize ((w.alloc (.cells #[.slice a (2*n) cap, .int .i64 0, .bool true] 58)).alloc (.cells #[.slice (Option.map (fun x=>x.add (2*n*4)) a) (m - 2*n) (cap - 2*n), .int .i64 0, .bool false] 58))=w1 at *
  obtain ⟨bb,hbb⟩: ∃ bb,bb=w.heap.size:=⟨_,rfl⟩
  rw [←hbb]
  have Hbb:=zh hbb
  clear hbb
  go_loopw [6,32] (fun s j wr=> ∃ (S:ByteArray) (i:Nat) (l':List PRaw),s= .string S∧j= .int .i64 i∧i≤N1∧BardAt wr bb w.heap.size l' 0 true∧Since (fun k=>k=bb) w1 wr∧S.size≤300+i*100001∧P1=stmtsB st1 (N1 - i) S l') (fun _ j _=>N1 - (intOf j).toNat)
  case atStart=>exact ⟨headL,0,l1,(by kernel_rfl),rfl,Nat.zero_le _,by rw [Hbb.out];exact HB1.out,Since.refl _ _,by decide,HP1.out⟩
  case round=>
   obtain ⟨S,i,l',rfl,rfl,hi,hb,hs,hSz,hR⟩:=hrel
   have hS3:S.size≤600000:=by omega
   by_cases hlt:i<N1
   ·
    have hltI:(i:Int)<(N1:Int):=by omega
    have z1:=ST1.out.1 l'
    have HR2:=zh (show P1=stmtsB st1 (N1 - (i+1)) (S++((st1 l').1++⟨#[10]⟩)) (st1 l').2 by rw [hR,show N1 - i=(N1 - (i+1))+1 by omega,stmtsB_succ])
    clear hR
    go_wp2_with fail
    refine (ST1.out.2 hb).mono ?_
    rintro e w2 ⟨rfl,hb2,hs2⟩
    go_wp2_with fail
    refine ⟨⟨_,i+1,_,rfl,by go_num,by omega,hb2,hs.trans hs2,?_,HR2.out⟩,by simp [intOf];omega⟩
    simp only [ByteArray.size_append]
    have h3:(⟨#[10]⟩:ByteArray).size=1:=rfl
    omega
   ·
    have hnl: ¬((i:Int)<(N1:Int)):=by omega
    have hR2:P1=(S,l'):=by rw [hR,show N1 - i=0 by omega];rfl
    have HR2:=zh hR2
    have HP3:=zh (show P2=stmtsB st2 N2 (S++midL) l2 by rw [HP2.out,hR2])
    have hb2:BardAt wr (bb+1) w.heap.size l2 0 false:=by
     have hq:=Hbb.out
     have:=HB2.out.since hs (fun k hk e=>by omega) (by omega)
     rw [hq]
     exact this
    have HBB:=zh hb2
    have Hs:=zh hs
    clear hR hR2 hb hs hb2 hlt
    go_wp2_with fail
    go_loopw [6,47] (fun s j wq=> ∃ (Z:ByteArray) (i:Nat) (l':List PRaw),s= .string Z∧j= .int .i64 i∧i≤N2∧BardAt wq (bb+1) w.heap.size l' 0 false∧Since (fun k=>k=bb+1) wr wq∧Z.size≤700000+i*100001∧P2=stmtsB st2 (N2 - i) Z l') (fun _ j _=>N2 - (intOf j).toNat)
    case atStart=>exact ⟨S++midL,0,l2,(by kernel_rfl),rfl,Nat.zero_le _,HBB.out,Since.refl _ _,by simp only [ByteArray.size_append];have:midL.size=153:=rfl;omega,HP3.out⟩
    case round=>
     obtain ⟨Z,i2,l',rfl,rfl,hi2,hb,hs,hSz2,hR⟩:=hrel
     have hS4:Z.size≤1000000:=by omega
     by_cases hlt:i2<N2
     ·
      have hltI:(i2:Int)<(N2:Int):=by omega
      have z1:=ST2.out.1 l'
      have HR3:=zh (show P2=stmtsB st2 (N2 - (i2+1)) (Z++((st2 l').1++⟨#[10]⟩)) (st2 l').2 by rw [hR,show N2 - i2=(N2 - (i2+1))+1 by omega,stmtsB_succ])
      clear hR
      go_wp2_with fail
      refine (ST2.out.2 hb).mono ?_
      rintro e w2 ⟨rfl,hb2,hs2⟩
      go_wp2_with fail
      refine ⟨⟨_,i2+1,_,rfl,by go_num,by omega,hb2,hs.trans hs2,?_,HR3.out⟩,by simp [intOf];omega⟩
      simp only [ByteArray.size_append]
      have h3:(⟨#[10]⟩:ByteArray).size=1:=rfl
      omega
     ·
      have hnl2: ¬((i2:Int)<(N2:Int)):=by omega
      have hR2:P2=(Z,l'):=by rw [hR,show N2 - i2=0 by omega];rfl
      have HR4:=zh hR2
      clear hR hR2
      go_wp2_with fail
      go_ret
      rw [HSRC.out,HR4.out]
      exact ⟨rfl,(HS.out.then_new Hs.out (fun k e=>Or.inr (by have:=Hbb.out;omega))).then_new hs (fun k e=>Or.inr (by have:=Hbb.out;omega))⟩
end Go.Proofs.YtkopjgnjflhkeaaDoor

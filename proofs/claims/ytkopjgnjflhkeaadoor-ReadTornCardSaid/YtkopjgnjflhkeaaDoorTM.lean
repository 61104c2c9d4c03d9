import Derived.Test.YtkopjgnjflhkeaaDoorTL
namespace Go.Proofs.YtkopjgnjflhkeaaDoor
open Go.RowKit Go.Pst
set_option linter.unusedVariables false
set_option linter.unusedSimpArgs false
set_option maxRecDepth 100000 in
set_option maxHeartbeats 40000000 in
theorem stmt_p3 {main:Bool} {d:Nat} (hd:d≤5) {w:World} {bb B0:Nat} {l:List PRaw} {loops:Int} (hlo:0≤loops∧loops≤100) (h:BardAt w bb B0 l loops main) (hk:pickN (firstB l).kind 24=3):
 Calls Tryd.prog 14 #[.pointer (some ⟨bb,0,none⟩), .int .i64 d] w (BardEnd w bb B0 loops main (stmtB main d (decide (0<loops)) l)):=by
 obtain ⟨i0,i1,i2,i3⟩:=firstB_in h
 obtain ⟨r,hr⟩: ∃ r,r=firstB l:=⟨_,rfl⟩
 rw [←hr] at i0 i1 i2 i3
 have HR:=zh (show stmtB main d (decide (0<loops)) l=((⟨#[115,32,61,32]⟩:ByteArray)++(textB 2 l.tail).1,(textB 2 l.tail).2) from stmtB_plain (by rw [plainB_eq,if_neg (by omega),if_pos hk]))
 rw [←hr] at hk
 obtain ⟨kk,hkk⟩: ∃ kk,pickN r.kind 24=kk:=⟨_,rfl⟩
 rw [hkk] at hk
 have hk24:kk<24:=by rw [←hkk];exact pickN_lt _ _ (by decide)
 have Hk:=zh hkk
 clear hkk
 subst hk
 obtain ⟨b1,b2,b3,b4,b5⟩:=sizes_main main
 have z1:=b1 l.tail
 have z2:=b2 l.tail
 have z3:=b3 l.tail
 have z4:=b4 l.tail
 have z5:=b5 l.tail
 have z6:=b2 (numB main 1 l.tail).2
 have z7:=b3 (numB main 2 l.tail).2
 have z8:=b5 (textB 2 (numB main 2 l.tail).2).2
 clear b1 b2 b3 b4 b5
 have y1:=pickS_le rowXY r.a 1 (by decide)
 have y2:=pickS_le rowLK r.a 1 (by decide)
 have y3:=pickS_le row0x1 r.a 1 (by decide)
 have hdI:(d:Int)≤5:=by omega
 have hl:=h.lt
 have hnx:=next_any h
 rw [←hr] at hnx
 have Hn:=zh hnx
 have Hr:=zh hr
 clear hnx hr h
 go_enter Tryd.func14,Tryd.ntmps14
 go_wp2_with fail
 refine Hn.out.mono ?_
 rintro e w1 ⟨rfl,hb,hs⟩
 have hz1:=hs.size
 unfold rawC
 go_upto_region 2 with fail
 obtain ⟨R0,hR0⟩: ∃ R0,R0=w1.heap.size:=⟨_,rfl⟩
 have k0:(w1.alloc (.cells #[.int .i64 r.kind, .int .i64 r.a, .int .i64 r.b, .int .i64 r.c] 76)).cell? ⟨R0,0,none⟩=some (.int .i64 r.kind):=by rw [hR0,box_cell (Below.refl _ _)];rfl
 have k1:(w1.alloc (.cells #[.int .i64 r.kind, .int .i64 r.a, .int .i64 r.b, .int .i64 r.c] 76)).cell? ⟨R0,1,none⟩=some (.int .i64 r.a):=by rw [hR0,box_cell (Below.refl _ _)];rfl
 have k2:(w1.alloc (.cells #[.int .i64 r.kind, .int .i64 r.a, .int .i64 r.b, .int .i64 r.c] 76)).cell? ⟨R0,2,none⟩=some (.int .i64 r.b):=by rw [hR0,box_cell (Below.refl _ _)];rfl
 have k3:(w1.alloc (.cells #[.int .i64 r.kind, .int .i64 r.a, .int .i64 r.b, .int .i64 r.c] 76)).cell? ⟨R0,3,none⟩=some (.int .i64 r.c):=by rw [hR0,box_cell (Below.refl _ _)];rfl
 have hzR:R0<(w1.alloc (.cells #[.int .i64 r.kind, .int .i64 r.a, .int .i64 r.b, .int .i64 r.c] 76)).heap.size:=by rw [hR0];simp
 have hnR:R0≠bb:=by omega
 have hRb:bb<R0:=by omega
 have hb':=hb.new (Since.alloc (fun _=>False) w1 (.cells #[.int .i64 r.kind, .int .i64 r.a, .int .i64 r.b, .int .i64 r.c] 76))
 have hs':=hs.trans (Since.alloc (fun k=>k=bb) w1 (.cells #[.int .i64 r.kind, .int .i64 r.a, .int .i64 r.b, .int .i64 r.c] 76))
 rw [←hR0]
 generalize w1.alloc (.cells #[.int .i64 r.kind, .int .i64 r.a, .int .i64 r.b, .int .i64 r.c] 76)=w2 at *
 clear hb hs hR0
 go_wp2_with fail
 refine (picked_nat r.kind 24 _ i0 (by decide) (by decide)).mono ?_
 rintro e wp ⟨rfl,rfl⟩
 rw [Hk.out]
 go_wp2_with fail
 refine (text2_any hb').mono ?_
 rintro e w3 ⟨rfl,hb3,hs3⟩
 go_wp2_with fail
 go_ret
 rw [HR.out]
 exact ⟨rfl,hb3,hs'.trans hs3⟩
set_option maxRecDepth 100000 in
set_option maxHeartbeats 40000000 in
theorem stmt_p5 {main:Bool} {d:Nat} (hd:d≤5) {w:World} {bb B0:Nat} {l:List PRaw} {loops:Int} (hlo:0≤loops∧loops≤100) (h:BardAt w bb B0 l loops main) (hk:pickN (firstB l).kind 24=5):
 Calls Tryd.prog 14 #[.pointer (some ⟨bb,0,none⟩), .int .i64 d] w (BardEnd w bb B0 loops main (stmtB main d (decide (0<loops)) l)):=by
 obtain ⟨i0,i1,i2,i3⟩:=firstB_in h
 obtain ⟨r,hr⟩: ∃ r,r=firstB l:=⟨_,rfl⟩
 rw [←hr] at i0 i1 i2 i3
 have HR:=zh (show stmtB main d (decide (0<loops)) l=((⟨#[98,32,61,32]⟩:ByteArray)++(truthB main 2 l.tail).1,(truthB main 2 l.tail).2) from stmtB_plain (by rw [plainB_eq,if_neg (by omega),if_neg (by omega),if_neg (by omega),if_pos hk]))
 rw [←hr] at hk
 obtain ⟨kk,hkk⟩: ∃ kk,pickN r.kind 24=kk:=⟨_,rfl⟩
 rw [hkk] at hk
 have hk24:kk<24:=by rw [←hkk];exact pickN_lt _ _ (by decide)
 have Hk:=zh hkk
 clear hkk
 subst hk
 obtain ⟨b1,b2,b3,b4,b5⟩:=sizes_main main
 have z1:=b1 l.tail
 have z2:=b2 l.tail
 have z3:=b3 l.tail
 have z4:=b4 l.tail
 have z5:=b5 l.tail
 have z6:=b2 (numB main 1 l.tail).2
 have z7:=b3 (numB main 2 l.tail).2
 have z8:=b5 (textB 2 (numB main 2 l.tail).2).2
 clear b1 b2 b3 b4 b5
 have y1:=pickS_le rowXY r.a 1 (by decide)
 have y2:=pickS_le rowLK r.a 1 (by decide)
 have y3:=pickS_le row0x1 r.a 1 (by decide)
 have hdI:(d:Int)≤5:=by omega
 have hl:=h.lt
 have hnx:=next_any h
 rw [←hr] at hnx
 have Hn:=zh hnx
 have Hr:=zh hr
 clear hnx hr h
 go_enter Tryd.func14,Tryd.ntmps14
 go_wp2_with fail
 refine Hn.out.mono ?_
 rintro e w1 ⟨rfl,hb,hs⟩
 have hz1:=hs.size
 unfold rawC
 go_upto_region 2 with fail
 obtain ⟨R0,hR0⟩: ∃ R0,R0=w1.heap.size:=⟨_,rfl⟩
 have k0:(w1.alloc (.cells #[.int .i64 r.kind, .int .i64 r.a, .int .i64 r.b, .int .i64 r.c] 76)).cell? ⟨R0,0,none⟩=some (.int .i64 r.kind):=by rw [hR0,box_cell (Below.refl _ _)];rfl
 have k1:(w1.alloc (.cells #[.int .i64 r.kind, .int .i64 r.a, .int .i64 r.b, .int .i64 r.c] 76)).cell? ⟨R0,1,none⟩=some (.int .i64 r.a):=by rw [hR0,box_cell (Below.refl _ _)];rfl
 have k2:(w1.alloc (.cells #[.int .i64 r.kind, .int .i64 r.a, .int .i64 r.b, .int .i64 r.c] 76)).cell? ⟨R0,2,none⟩=some (.int .i64 r.b):=by rw [hR0,box_cell (Below.refl _ _)];rfl
 have k3:(w1.alloc (.cells #[.int .i64 r.kind, .int .i64 r.a, .int .i64 r.b, .int .i64 r.c] 76)).cell? ⟨R0,3,none⟩=some (.int .i64 r.c):=by rw [hR0,box_cell (Below.refl _ _)];rfl
 have hzR:R0<(w1.alloc (.cells #[.int .i64 r.kind, .int .i64 r.a, .int .i64 r.b, .int .i64 r.c] 76)).heap.size:=by rw [hR0];simp
 have hnR:R0≠bb:=by omega
 have hRb:bb<R0:=by omega
 have hb':=hb.new (Since.alloc (fun _=>False) w1 (.cells #[.int .i64 r.kind, .int .i64 r.a, .int .i64 r.b, .int .i64 r.c] 76))
 have hs':=hs.trans (Since.alloc (fun k=>k=bb) w1 (.cells #[.int .i64 r.kind, .int .i64 r.a, .int .i64 r.b, .int .i64 r.c] 76))
 rw [←hR0]
 generalize w1.alloc (.cells #[.int .i64 r.kind, .int .i64 r.a, .int .i64 r.b, .int .i64 r.c] 76)=w2 at *
 clear hb hs hR0
 go_wp2_with fail
 refine (picked_nat r.kind 24 _ i0 (by decide) (by decide)).mono ?_
 rintro e wp ⟨rfl,rfl⟩
 rw [Hk.out]
 go_wp2_with fail
 refine ((truth2_said main).2 hb').mono ?_
 rintro e w3 ⟨rfl,hb3,hs3⟩
 go_wp2_with fail
 go_ret
 rw [HR.out]
 exact ⟨rfl,hb3,hs'.trans hs3⟩
set_option maxRecDepth 100000 in
set_option maxHeartbeats 40000000 in
theorem stmt_p6 {main:Bool} {d:Nat} (hd:d≤5) {w:World} {bb B0:Nat} {l:List PRaw} {loops:Int} (hlo:0≤loops∧loops≤100) (h:BardAt w bb B0 l loops main) (hk:pickN (firstB l).kind 24=6):
 Calls Tryd.prog 14 #[.pointer (some ⟨bb,0,none⟩), .int .i64 d] w (BardEnd w bb B0 loops main (stmtB main d (decide (0<loops)) l)):=by
 obtain ⟨i0,i1,i2,i3⟩:=firstB_in h
 obtain ⟨r,hr⟩: ∃ r,r=firstB l:=⟨_,rfl⟩
 rw [←hr] at i0 i1 i2 i3
 have HR:=zh (show stmtB main d (decide (0<loops)) l=((((⟨#[109,91]⟩:ByteArray)++(numB main 1 l.tail).1)++(⟨#[93,32,61,32]⟩:ByteArray))++(numB main 2 (numB main 1 l.tail).2).1,(numB main 2 (numB main 1 l.tail).2).2) from stmtB_plain (by rw [plainB_eq,if_neg (by omega),if_neg (by omega),if_neg (by omega),if_neg (by omega),if_pos hk]))
 rw [←hr] at hk
 obtain ⟨kk,hkk⟩: ∃ kk,pickN r.kind 24=kk:=⟨_,rfl⟩
 rw [hkk] at hk
 have hk24:kk<24:=by rw [←hkk];exact pickN_lt _ _ (by decide)
 have Hk:=zh hkk
 clear hkk
 subst hk
 obtain ⟨b1,b2,b3,b4,b5⟩:=sizes_main main
 have z1:=b1 l.tail
 have z2:=b2 l.tail
 have z3:=b3 l.tail
 have z4:=b4 l.tail
 have z5:=b5 l.tail
 have z6:=b2 (numB main 1 l.tail).2
 have z7:=b3 (numB main 2 l.tail).2
 have z8:=b5 (textB 2 (numB main 2 l.tail).2).2
 clear b1 b2 b3 b4 b5
 have y1:=pickS_le rowXY r.a 1 (by decide)
 have y2:=pickS_le rowLK r.a 1 (by decide)
 have y3:=pickS_le row0x1 r.a 1 (by decide)
 have hdI:(d:Int)≤5:=by omega
 have hl:=h.lt
 have hnx:=next_any h
 rw [←hr] at hnx
 have Hn:=zh hnx
 have Hr:=zh hr
 clear hnx hr h
 go_enter Tryd.func14,Tryd.ntmps14
 go_wp2_with fail
 refine Hn.out.mono ?_
 rintro e w1 ⟨rfl,hb,hs⟩
 have hz1:=hs.size
 unfold rawC
 go_upto_region 2 with fail
 obtain ⟨R0,hR0⟩: ∃ R0,R0=w1.heap.size:=⟨_,rfl⟩
 have k0:(w1.alloc (.cells #[.int .i64 r.kind, .int .i64 r.a, .int .i64 r.b, .int .i64 r.c] 76)).cell? ⟨R0,0,none⟩=some (.int .i64 r.kind):=by rw [hR0,box_cell (Below.refl _ _)];rfl
 have k1:(w1.alloc (.cells #[.int .i64 r.kind, .int .i64 r.a, .int .i64 r.b, .int .i64 r.c] 76)).cell? ⟨R0,1,none⟩=some (.int .i64 r.a):=by rw [hR0,box_cell (Below.refl _ _)];rfl
 have k2:(w1.alloc (.cells #[.int .i64 r.kind, .int .i64 r.a, .int .i64 r.b, .int .i64 r.c] 76)).cell? ⟨R0,2,none⟩=some (.int .i64 r.b):=by rw [hR0,box_cell (Below.refl _ _)];rfl
 have k3:(w1.alloc (.cells #[.int .i64 r.kind, .int .i64 r.a, .int .i64 r.b, .int .i64 r.c] 76)).cell? ⟨R0,3,none⟩=some (.int .i64 r.c):=by rw [hR0,box_cell (Below.refl _ _)];rfl
 have hzR:R0<(w1.alloc (.cells #[.int .i64 r.kind, .int .i64 r.a, .int .i64 r.b, .int .i64 r.c] 76)).heap.size:=by rw [hR0];simp
 have hnR:R0≠bb:=by omega
 have hRb:bb<R0:=by omega
 have hb':=hb.new (Since.alloc (fun _=>False) w1 (.cells #[.int .i64 r.kind, .int .i64 r.a, .int .i64 r.b, .int .i64 r.c] 76))
 have hs':=hs.trans (Since.alloc (fun k=>k=bb) w1 (.cells #[.int .i64 r.kind, .int .i64 r.a, .int .i64 r.b, .int .i64 r.c] 76))
 rw [←hR0]
 generalize w1.alloc (.cells #[.int .i64 r.kind, .int .i64 r.a, .int .i64 r.b, .int .i64 r.c] 76)=w2 at *
 clear hb hs hR0
 go_wp2_with fail
 refine (picked_nat r.kind 24 _ i0 (by decide) (by decide)).mono ?_
 rintro e wp ⟨rfl,rfl⟩
 rw [Hk.out]
 go_wp2_with fail
 refine ((num1_said main).2 hb').mono ?_
 rintro e w3 ⟨rfl,hb3,hs3⟩
 go_wp2_with fail
 refine ((num2_said main).2 hb3).mono ?_
 rintro e w4 ⟨rfl,hb4,hs4⟩
 go_wp2_with fail
 go_ret
 rw [HR.out]
 exact ⟨rfl,hb4,(hs'.trans hs3).trans hs4⟩
set_option maxRecDepth 100000 in
set_option maxHeartbeats 40000000 in
theorem stmt_p8 {main:Bool} {d:Nat} (hd:d≤5) {w:World} {bb B0:Nat} {l:List PRaw} {loops:Int} (hlo:0≤loops∧loops≤100) (h:BardAt w bb B0 l loops main) (hk:pickN (firstB l).kind 24=8):
 Calls Tryd.prog 14 #[.pointer (some ⟨bb,0,none⟩), .int .i64 d] w (BardEnd w bb B0 loops main (stmtB main d (decide (0<loops)) l)):=by
 obtain ⟨i0,i1,i2,i3⟩:=firstB_in h
 obtain ⟨r,hr⟩: ∃ r,r=firstB l:=⟨_,rfl⟩
 rw [←hr] at i0 i1 i2 i3
 have HR:=zh (show stmtB main d (decide (0<loops)) l=(((⟨#[100,101,108,101,116,101,40,109,44,32]⟩:ByteArray)++(numB main 1 l.tail).1)++(⟨#[41]⟩:ByteArray),(numB main 1 l.tail).2) from stmtB_plain (by rw [plainB_eq,if_neg (by omega),if_neg (by omega),if_neg (by omega),if_neg (by omega),if_neg (by omega),if_neg (by omega),if_pos hk]))
 rw [←hr] at hk
 obtain ⟨kk,hkk⟩: ∃ kk,pickN r.kind 24=kk:=⟨_,rfl⟩
 rw [hkk] at hk
 have hk24:kk<24:=by rw [←hkk];exact pickN_lt _ _ (by decide)
 have Hk:=zh hkk
 clear hkk
 subst hk
 obtain ⟨b1,b2,b3,b4,b5⟩:=sizes_main main
 have z1:=b1 l.tail
 have z2:=b2 l.tail
 have z3:=b3 l.tail
 have z4:=b4 l.tail
 have z5:=b5 l.tail
 have z6:=b2 (numB main 1 l.tail).2
 have z7:=b3 (numB main 2 l.tail).2
 have z8:=b5 (textB 2 (numB main 2 l.tail).2).2
 clear b1 b2 b3 b4 b5
 have y1:=pickS_le rowXY r.a 1 (by decide)
 have y2:=pickS_le rowLK r.a 1 (by decide)
 have y3:=pickS_le row0x1 r.a 1 (by decide)
 have hdI:(d:Int)≤5:=by omega
 have hl:=h.lt
 have hnx:=next_any h
 rw [←hr] at hnx
 have Hn:=zh hnx
 have Hr:=zh hr
 clear hnx hr h
 go_enter Tryd.func14,Tryd.ntmps14
 go_wp2_with fail
 refine Hn.out.mono ?_
 rintro e w1 ⟨rfl,hb,hs⟩
 have hz1:=hs.size
 unfold rawC
 go_upto_region 2 with fail
 obtain ⟨R0,hR0⟩: ∃ R0,R0=w1.heap.size:=⟨_,rfl⟩
 have k0:(w1.alloc (.cells #[.int .i64 r.kind, .int .i64 r.a, .int .i64 r.b, .int .i64 r.c] 76)).cell? ⟨R0,0,none⟩=some (.int .i64 r.kind):=by rw [hR0,box_cell (Below.refl _ _)];rfl
 have k1:(w1.alloc (.cells #[.int .i64 r.kind, .int .i64 r.a, .int .i64 r.b, .int .i64 r.c] 76)).cell? ⟨R0,1,none⟩=some (.int .i64 r.a):=by rw [hR0,box_cell (Below.refl _ _)];rfl
 have k2:(w1.alloc (.cells #[.int .i64 r.kind, .int .i64 r.a, .int .i64 r.b, .int .i64 r.c] 76)).cell? ⟨R0,2,none⟩=some (.int .i64 r.b):=by rw [hR0,box_cell (Below.refl _ _)];rfl
 have k3:(w1.alloc (.cells #[.int .i64 r.kind, .int .i64 r.a, .int .i64 r.b, .int .i64 r.c] 76)).cell? ⟨R0,3,none⟩=some (.int .i64 r.c):=by rw [hR0,box_cell (Below.refl _ _)];rfl
 have hzR:R0<(w1.alloc (.cells #[.int .i64 r.kind, .int .i64 r.a, .int .i64 r.b, .int .i64 r.c] 76)).heap.size:=by rw [hR0];simp
 have hnR:R0≠bb:=by omega
 have hRb:bb<R0:=by omega
 have hb':=hb.new (Since.alloc (fun _=>False) w1 (.cells #[.int .i64 r.kind, .int .i64 r.a, .int .i64 r.b, .int .i64 r.c] 76))
 have hs':=hs.trans (Since.alloc (fun k=>k=bb) w1 (.cells #[.int .i64 r.kind, .int .i64 r.a, .int .i64 r.b, .int .i64 r.c] 76))
 rw [←hR0]
 generalize w1.alloc (.cells #[.int .i64 r.kind, .int .i64 r.a, .int .i64 r.b, .int .i64 r.c] 76)=w2 at *
 clear hb hs hR0
 go_wp2_with fail
 refine (picked_nat r.kind 24 _ i0 (by decide) (by decide)).mono ?_
 rintro e wp ⟨rfl,rfl⟩
 rw [Hk.out]
 go_wp2_with fail
 refine ((num1_said main).2 hb').mono ?_
 rintro e w3 ⟨rfl,hb3,hs3⟩
 go_wp2_with fail
 go_ret
 rw [HR.out]
 exact ⟨rfl,hb3,hs'.trans hs3⟩
set_option maxRecDepth 100000 in
set_option maxHeartbeats 40000000 in
theorem stmt_p12 {main:Bool} {d:Nat} (hd:d≤5) {w:World} {bb B0:Nat} {l:List PRaw} {loops:Int} (hlo:0≤loops∧loops≤100) (h:BardAt w bb B0 l loops main) (hk:pickN (firstB l).kind 24=12) (hl0:0<loops):
 Calls Tryd.prog 14 #[.pointer (some ⟨bb,0,none⟩), .int .i64 d] w (BardEnd w bb B0 loops main (stmtB main d (decide (0<loops)) l)):=by
 obtain ⟨i0,i1,i2,i3⟩:=firstB_in h
 obtain ⟨r,hr⟩: ∃ r,r=firstB l:=⟨_,rfl⟩
 rw [←hr] at i0 i1 i2 i3
 obtain ⟨q,hq⟩: ∃ q,pickN r.a 2=q:=⟨_,rfl⟩
 have qlt:q<2:=by rw [←hq];exact pickN_lt _ _ (by decide)
 have qI:(q:Int)<2:=by omega
 have HR:=zh (show stmtB main d (decide (0<loops)) l=(pickS rowBr r.a,l.tail) from stmtB_plain (by rw [plainB_eq,if_neg (by omega),if_neg (by omega),if_neg (by omega),if_neg (by omega),if_neg (by omega),if_neg (by omega),if_neg (by omega),if_neg (by omega),if_pos ⟨hk,by simpa using hl0⟩,←hr]))
 rw [←hr] at hk
 obtain ⟨kk,hkk⟩: ∃ kk,pickN r.kind 24=kk:=⟨_,rfl⟩
 rw [hkk] at hk
 have hk24:kk<24:=by rw [←hkk];exact pickN_lt _ _ (by decide)
 have Hk:=zh hkk
 clear hkk
 subst hk
 obtain ⟨b1,b2,b3,b4,b5⟩:=sizes_main main
 have z1:=b1 l.tail
 have z2:=b2 l.tail
 have z3:=b3 l.tail
 have z4:=b4 l.tail
 have z5:=b5 l.tail
 have z6:=b2 (numB main 1 l.tail).2
 have z7:=b3 (numB main 2 l.tail).2
 have z8:=b5 (textB 2 (numB main 2 l.tail).2).2
 clear b1 b2 b3 b4 b5
 have y1:=pickS_le rowXY r.a 1 (by decide)
 have y2:=pickS_le rowLK r.a 1 (by decide)
 have y3:=pickS_le row0x1 r.a 1 (by decide)
 have hdI:(d:Int)≤5:=by omega
 have hl:=h.lt
 have hnx:=next_any h
 rw [←hr] at hnx
 have Hn:=zh hnx
 have Hr:=zh hr
 clear hnx hr h
 go_enter Tryd.func14,Tryd.ntmps14
 go_wp2_with fail
 refine Hn.out.mono ?_
 rintro e w1 ⟨rfl,hb,hs⟩
 have hz1:=hs.size
 unfold rawC
 go_upto_region 2 with fail
 obtain ⟨R0,hR0⟩: ∃ R0,R0=w1.heap.size:=⟨_,rfl⟩
 have k0:(w1.alloc (.cells #[.int .i64 r.kind, .int .i64 r.a, .int .i64 r.b, .int .i64 r.c] 76)).cell? ⟨R0,0,none⟩=some (.int .i64 r.kind):=by rw [hR0,box_cell (Below.refl _ _)];rfl
 have k1:(w1.alloc (.cells #[.int .i64 r.kind, .int .i64 r.a, .int .i64 r.b, .int .i64 r.c] 76)).cell? ⟨R0,1,none⟩=some (.int .i64 r.a):=by rw [hR0,box_cell (Below.refl _ _)];rfl
 have k2:(w1.alloc (.cells #[.int .i64 r.kind, .int .i64 r.a, .int .i64 r.b, .int .i64 r.c] 76)).cell? ⟨R0,2,none⟩=some (.int .i64 r.b):=by rw [hR0,box_cell (Below.refl _ _)];rfl
 have k3:(w1.alloc (.cells #[.int .i64 r.kind, .int .i64 r.a, .int .i64 r.b, .int .i64 r.c] 76)).cell? ⟨R0,3,none⟩=some (.int .i64 r.c):=by rw [hR0,box_cell (Below.refl _ _)];rfl
 have hzR:R0<(w1.alloc (.cells #[.int .i64 r.kind, .int .i64 r.a, .int .i64 r.b, .int .i64 r.c] 76)).heap.size:=by rw [hR0];simp
 have hnR:R0≠bb:=by omega
 have hRb:bb<R0:=by omega
 have hb':=hb.new (Since.alloc (fun _=>False) w1 (.cells #[.int .i64 r.kind, .int .i64 r.a, .int .i64 r.b, .int .i64 r.c] 76))
 have hs':=hs.trans (Since.alloc (fun k=>k=bb) w1 (.cells #[.int .i64 r.kind, .int .i64 r.a, .int .i64 r.b, .int .i64 r.c] 76))
 rw [←hR0]
 generalize w1.alloc (.cells #[.int .i64 r.kind, .int .i64 r.a, .int .i64 r.b, .int .i64 r.c] 76)=w2 at *
 clear hb hs hR0
 have cl:=hb'.c1
 go_wp2_with fail
 refine (picked_nat r.kind 24 _ i0 (by decide) (by decide)).mono ?_
 rintro e wp ⟨rfl,rfl⟩
 rw [Hk.out]
 go_wp2_with fail
 refine (picked_nat r.a 2 _ i1 (by decide) (by decide)).mono ?_
 rintro e wp ⟨rfl,rfl⟩
 rw [hq]
 have c:(w2.alloc (.cells #[.string ⟨#[98,114,101,97,107]⟩, .string ⟨#[99,111,110,116,105,110,117,101]⟩] 9)).cell? ⟨w2.heap.size,q,none⟩=some (.string (pickS rowBr r.a)):=pick_cell rowBr r.a q hq (by decide) 9 w2
 have hb2:=hb'.new (Since.alloc _ _ (.cells #[.string ⟨#[98,114,101,97,107]⟩, .string ⟨#[99,111,110,116,105,110,117,101]⟩] 9))
 have hs2:=hs'.trans (Since.alloc _ _ (.cells #[.string ⟨#[98,114,101,97,107]⟩, .string ⟨#[99,111,110,116,105,110,117,101]⟩] 9))
 generalize w2.alloc (.cells #[.string ⟨#[98,114,101,97,107]⟩, .string ⟨#[99,111,110,116,105,110,117,101]⟩] 9)=w3 at *
 go_wp2_with fail
 go_ret
 rw [HR.out]
 exact ⟨rfl,hb2,hs2⟩
set_option maxRecDepth 100000 in
set_option maxHeartbeats 40000000 in
theorem stmt_p13 {main:Bool} {d:Nat} (hd:d≤5) {w:World} {bb B0:Nat} {l:List PRaw} {loops:Int} (hlo:0≤loops∧loops≤100) (h:BardAt w bb B0 l loops main) (hk:pickN (firstB l).kind 24=13) (hm:main=true):
 Calls Tryd.prog 14 #[.pointer (some ⟨bb,0,none⟩), .int .i64 d] w (BardEnd w bb B0 loops main (stmtB main d (decide (0<loops)) l)):=by
 obtain ⟨i0,i1,i2,i3⟩:=firstB_in h
 obtain ⟨r,hr⟩: ∃ r,r=firstB l:=⟨_,rfl⟩
 rw [←hr] at i0 i1 i2 i3
 have HR:=zh (show stmtB main d (decide (0<loops)) l=(((⟨#[102,40]⟩:ByteArray)++(numB main 1 l.tail).1)++(⟨#[44,32,115,41]⟩:ByteArray),(numB main 1 l.tail).2) from stmtB_plain (by rw [plainB_eq,if_neg (by omega),if_neg (by omega),if_neg (by omega),if_neg (by omega),if_neg (by omega),if_neg (by omega),if_neg (by omega),if_neg (by omega),if_neg (by omega),if_pos ⟨hk,hm⟩]))
 rw [←hr] at hk
 obtain ⟨kk,hkk⟩: ∃ kk,pickN r.kind 24=kk:=⟨_,rfl⟩
 rw [hkk] at hk
 have hk24:kk<24:=by rw [←hkk];exact pickN_lt _ _ (by decide)
 have Hk:=zh hkk
 clear hkk
 have Hm:=zh hm
 clear hm
 subst hk
 obtain ⟨b1,b2,b3,b4,b5⟩:=sizes_main main
 have z1:=b1 l.tail
 have z2:=b2 l.tail
 have z3:=b3 l.tail
 have z4:=b4 l.tail
 have z5:=b5 l.tail
 have z6:=b2 (numB main 1 l.tail).2
 have z7:=b3 (numB main 2 l.tail).2
 have z8:=b5 (textB 2 (numB main 2 l.tail).2).2
 clear b1 b2 b3 b4 b5
 have y1:=pickS_le rowXY r.a 1 (by decide)
 have y2:=pickS_le rowLK r.a 1 (by decide)
 have y3:=pickS_le row0x1 r.a 1 (by decide)
 have hdI:(d:Int)≤5:=by omega
 have hl:=h.lt
 have hnx:=next_any h
 rw [←hr] at hnx
 have Hn:=zh hnx
 have Hr:=zh hr
 clear hnx hr h
 go_enter Tryd.func14,Tryd.ntmps14
 go_wp2_with fail
 refine Hn.out.mono ?_
 rintro e w1 ⟨rfl,hb,hs⟩
 have hz1:=hs.size
 unfold rawC
 go_upto_region 2 with fail
 obtain ⟨R0,hR0⟩: ∃ R0,R0=w1.heap.size:=⟨_,rfl⟩
 have k0:(w1.alloc (.cells #[.int .i64 r.kind, .int .i64 r.a, .int .i64 r.b, .int .i64 r.c] 76)).cell? ⟨R0,0,none⟩=some (.int .i64 r.kind):=by rw [hR0,box_cell (Below.refl _ _)];rfl
 have k1:(w1.alloc (.cells #[.int .i64 r.kind, .int .i64 r.a, .int .i64 r.b, .int .i64 r.c] 76)).cell? ⟨R0,1,none⟩=some (.int .i64 r.a):=by rw [hR0,box_cell (Below.refl _ _)];rfl
 have k2:(w1.alloc (.cells #[.int .i64 r.kind, .int .i64 r.a, .int .i64 r.b, .int .i64 r.c] 76)).cell? ⟨R0,2,none⟩=some (.int .i64 r.b):=by rw [hR0,box_cell (Below.refl _ _)];rfl
 have k3:(w1.alloc (.cells #[.int .i64 r.kind, .int .i64 r.a, .int .i64 r.b, .int .i64 r.c] 76)).cell? ⟨R0,3,none⟩=some (.int .i64 r.c):=by rw [hR0,box_cell (Below.refl _ _)];rfl
 have hzR:R0<(w1.alloc (.cells #[.int .i64 r.kind, .int .i64 r.a, .int .i64 r.b, .int .i64 r.c] 76)).heap.size:=by rw [hR0];simp
 have hnR:R0≠bb:=by omega
 have hRb:bb<R0:=by omega
 have hb':=hb.new (Since.alloc (fun _=>False) w1 (.cells #[.int .i64 r.kind, .int .i64 r.a, .int .i64 r.b, .int .i64 r.c] 76))
 have hs':=hs.trans (Since.alloc (fun k=>k=bb) w1 (.cells #[.int .i64 r.kind, .int .i64 r.a, .int .i64 r.b, .int .i64 r.c] 76))
 rw [←hR0]
 generalize w1.alloc (.cells #[.int .i64 r.kind, .int .i64 r.a, .int .i64 r.b, .int .i64 r.c] 76)=w2 at *
 clear hb hs hR0
 have cl:=hb'.c1
 have cm:=hb'.c2
 rw [Hm.out] at cm
 go_wp2_with fail
 refine (picked_nat r.kind 24 _ i0 (by decide) (by decide)).mono ?_
 rintro e wp ⟨rfl,rfl⟩
 rw [Hk.out]
 go_wp2_with fail
 refine ((num1_said main).2 hb').mono ?_
 rintro e w3 ⟨rfl,hb3,hs3⟩
 go_wp2_with fail
 go_ret
 rw [HR.out]
 exact ⟨rfl,hb3,hs'.trans hs3⟩
end Go.Proofs.YtkopjgnjflhkeaaDoor
namespace Go.Proofs.YtkopjgnjflhkeaaDoor
open Go.RowKit Go.Pst
set_option linter.unusedVariables false
set_option linter.unusedSimpArgs false
set_option maxRecDepth 100000 in
set_option maxHeartbeats 40000000 in
theorem stmt_p9 {main:Bool} {d:Nat} (hd:d≤5) {w:World} {bb B0:Nat} {l:List PRaw} {loops:Int} (hlo:0≤loops∧loops≤100) (h:BardAt w bb B0 l loops main) (hk:9≤pickN (firstB l).kind 24∧pickN (firstB l).kind 24<12):
 Calls Tryd.prog 14 #[.pointer (some ⟨bb,0,none⟩), .int .i64 d] w (BardEnd w bb B0 loops main (stmtB main d (decide (0<loops)) l)):=by
 obtain ⟨i0,i1,i2,i3⟩:=firstB_in h
 obtain ⟨r,hr⟩: ∃ r,r=firstB l:=⟨_,rfl⟩
 rw [←hr] at i0 i1 i2 i3
 obtain ⟨q,hq⟩: ∃ q,pickN r.a 3=q:=⟨_,rfl⟩
 have qlt:q<3:=by rw [←hq];exact pickN_lt _ _ (by decide)
 have qI:(q:Int)<3:=by omega
 have HR:=zh (show stmtB main d (decide (0<loops)) l=(((⟨#[112,114,105,110,116,40]⟩:ByteArray)++pickS [(numB main 2 l.tail).1,(textB 2 (numB main 2 l.tail).2).1,(truthB main 2 (textB 2 (numB main 2 l.tail).2).2).1] r.a)++(⟨#[41]⟩:ByteArray),(truthB main 2 (textB 2 (numB main 2 l.tail).2).2).2) from stmtB_plain (by rw [plainB_eq,if_neg (by omega),if_neg (by omega),if_neg (by omega),if_neg (by omega),if_neg (by omega),if_neg (by omega),if_neg (by omega),if_pos hk.2,←hr]))
 rw [←hr] at hk
 obtain ⟨kk,hkk⟩: ∃ kk,pickN r.kind 24=kk:=⟨_,rfl⟩
 rw [hkk] at hk
 have hk24:kk<24:=by rw [←hkk];exact pickN_lt _ _ (by decide)
 have Hk:=zh hkk
 clear hkk
 have hkI:(kk:Int)<12:=by omega
 have hk3I: ¬(kk:Int)<3:=by omega
 have n3:((kk:Int)==3)=false:=by rw [beq_eq_false_iff_ne];omega
 have n4:((kk:Int)==4)=false:=by rw [beq_eq_false_iff_ne];omega
 have n5:((kk:Int)==5)=false:=by rw [beq_eq_false_iff_ne];omega
 have n6:((kk:Int)==6)=false:=by rw [beq_eq_false_iff_ne];omega
 have n7:((kk:Int)==7)=false:=by rw [beq_eq_false_iff_ne];omega
 have n8:((kk:Int)==8)=false:=by rw [beq_eq_false_iff_ne];omega
 obtain ⟨b1,b2,b3,b4,b5⟩:=sizes_main main
 have z1:=b1 l.tail
 have z2:=b2 l.tail
 have z3:=b3 l.tail
 have z4:=b4 l.tail
 have z5:=b5 l.tail
 have z6:=b2 (numB main 1 l.tail).2
 have z7:=b3 (numB main 2 l.tail).2
 have z8:=b5 (textB 2 (numB main 2 l.tail).2).2
 clear b1 b2 b3 b4 b5
 have y1:=pickS_le rowXY r.a 1 (by decide)
 have y2:=pickS_le rowLK r.a 1 (by decide)
 have y3:=pickS_le row0x1 r.a 1 (by decide)
 have hdI:(d:Int)≤5:=by omega
 have y4:=pickS_le [(numB main 2 l.tail).1,(textB 2 (numB main 2 l.tail).2).1,(truthB main 2 (textB 2 (numB main 2 l.tail).2).2).1] r.a 1000 (by intro x hx;simp only [List.mem_cons,List.not_mem_nil,or_false] at hx;rcases hx with rfl|rfl|rfl<;>omega)
 have hl:=h.lt
 have hnx:=next_any h
 rw [←hr] at hnx
 have Hn:=zh hnx
 have Hr:=zh hr
 clear hnx hr h
 go_enter Tryd.func14,Tryd.ntmps14
 go_wp2_with fail
 refine Hn.out.mono ?_
 rintro e w1 ⟨rfl,hb,hs⟩
 have hz1:=hs.size
 unfold rawC
 go_upto_region 2 with fail
 obtain ⟨R0,hR0⟩: ∃ R0,R0=w1.heap.size:=⟨_,rfl⟩
 have k0:(w1.alloc (.cells #[.int .i64 r.kind, .int .i64 r.a, .int .i64 r.b, .int .i64 r.c] 76)).cell? ⟨R0,0,none⟩=some (.int .i64 r.kind):=by rw [hR0,box_cell (Below.refl _ _)];rfl
 have k1:(w1.alloc (.cells #[.int .i64 r.kind, .int .i64 r.a, .int .i64 r.b, .int .i64 r.c] 76)).cell? ⟨R0,1,none⟩=some (.int .i64 r.a):=by rw [hR0,box_cell (Below.refl _ _)];rfl
 have k2:(w1.alloc (.cells #[.int .i64 r.kind, .int .i64 r.a, .int .i64 r.b, .int .i64 r.c] 76)).cell? ⟨R0,2,none⟩=some (.int .i64 r.b):=by rw [hR0,box_cell (Below.refl _ _)];rfl
 have k3:(w1.alloc (.cells #[.int .i64 r.kind, .int .i64 r.a, .int .i64 r.b, .int .i64 r.c] 76)).cell? ⟨R0,3,none⟩=some (.int .i64 r.c):=by rw [hR0,box_cell (Below.refl _ _)];rfl
 have hzR:R0<(w1.alloc (.cells #[.int .i64 r.kind, .int .i64 r.a, .int .i64 r.b, .int .i64 r.c] 76)).heap.size:=by rw [hR0];simp
 have hnR:R0≠bb:=by omega
 have hRb:bb<R0:=by omega
 have hb':=hb.new (Since.alloc (fun _=>False) w1 (.cells #[.int .i64 r.kind, .int .i64 r.a, .int .i64 r.b, .int .i64 r.c] 76))
 have hs':=hs.trans (Since.alloc (fun k=>k=bb) w1 (.cells #[.int .i64 r.kind, .int .i64 r.a, .int .i64 r.b, .int .i64 r.c] 76))
 rw [←hR0]
 generalize w1.alloc (.cells #[.int .i64 r.kind, .int .i64 r.a, .int .i64 r.b, .int .i64 r.c] 76)=w2 at *
 clear hb hs hR0
 go_wp2_with fail
 refine (picked_nat r.kind 24 _ i0 (by decide) (by decide)).mono ?_
 rintro e wp ⟨rfl,rfl⟩
 rw [Hk.out]
 go_wp2_with fail
 refine tGo hb' hs' [(R0,1, .int .i64 r.a)] ⟨k1,trivial⟩ (by simp only [CZ,and_true];omega) 17 (fun wr1 h1=>?_)
 refine tRd 0 h1.c ?_
 refine tRd 1 h1.c ?_
 refine tRd 3 h1.c ?_
 refine tRd 4 h1.c ?_
 refine tRd 6 h1.c ?_
 refine tRd 7 h1.c ?_
 refine tRd 10 h1.c ?_
 refine tRd 11 h1.c ?_
 refine tP1 2 (fun K hK=>?_)
 go_simp
 go_at_call 30
 refine ((num2_said main).2 h1.b).mono ?_
 rintro e wr2 ⟨rfl,hb,hv⟩
 have h2:=h1.call hb hv
 clear hb hv
 refine tNx hK h2.c ?_
 clear hK K
 refine tP1 5 (fun K hK=>?_)
 go_simp
 go_at_call 31
 refine (text2_any h2.b).mono ?_
 rintro e wr3 ⟨rfl,hb,hv⟩
 have h3:=h2.call hb hv
 clear hb hv
 refine tNx hK h3.c ?_
 clear hK K
 refine tP1 8 (fun K hK=>?_)
 go_simp
 go_at_call 33
 refine ((truth2_said main).2 h3.b).mono ?_
 rintro e wr4 ⟨rfl,hb,hv⟩
 have h4:=h3.call hb hv
 clear hb hv
 refine tNx hK h4.c ?_
 clear hK K
 refine tP2 9 12 (fun K hK=>?_) (fun K hK=>?_)
 ·
  go_simp
  obtain ⟨g,hg⟩: ∃ g,g=wr4.heap.size:=⟨_,rfl⟩
  rw [←hg]
  revert g
  refine tRow hK h4 [(numB main 2 l.tail).1,(textB 2 (numB main 2 l.tail).2).1,(truthB main 2 (textB 2 (numB main 2 l.tail).2).2).1] r.a hq (fun g5 wr5 h5=>?_)
  clear hK K
  refine tP1 12 (fun K hK=>?_)
  go_simp
  go_at_call 7
  refine (picked_nat r.a 3 _ i1 (by decide) (by decide)).mono ?_
  rintro e wp ⟨rfl,rfl⟩
  rw [hq]
  refine tNx hK h5.c ?_
  clear hK K
  refine tRd 13 h5.c ?_
  refine tRd 14 h5.c ?_
  refine tRd 15 h5.c ?_
  refine tRd 16 h5.c ?_
  refine tP1 17 (fun K hK=>?_)
  go_simp
  refine tLast hK ?_
  clear hK K
  refine tFin ?_
  go_wp2_with fail
  go_ret
  rw [HR.out]
  exact ⟨rfl,h5.b,h5.s⟩
 ·
  go_simp
  go_at_call 7
  refine (picked_nat r.a 3 _ i1 (by decide) (by decide)).mono ?_
  rintro e wp ⟨rfl,rfl⟩
  rw [hq]
  refine tNx hK h4.c ?_
  clear hK K
  refine tP1 9 (fun K hK=>?_)
  go_simp
  obtain ⟨g,hg⟩: ∃ g,g=wr4.heap.size:=⟨_,rfl⟩
  rw [←hg]
  revert g
  refine tRow hK h4 [(numB main 2 l.tail).1,(textB 2 (numB main 2 l.tail).2).1,(truthB main 2 (textB 2 (numB main 2 l.tail).2).2).1] r.a hq (fun g6 wr6 h6=>?_)
  clear hK K
  refine tRd 13 h6.c ?_
  refine tRd 14 h6.c ?_
  refine tRd 15 h6.c ?_
  refine tRd 16 h6.c ?_
  refine tP1 17 (fun K hK=>?_)
  go_simp
  refine tLast hK ?_
  clear hK K
  refine tFin ?_
  go_wp2_with fail
  go_ret
  rw [HR.out]
  exact ⟨rfl,h6.b,h6.s⟩
end Go.Proofs.YtkopjgnjflhkeaaDoor

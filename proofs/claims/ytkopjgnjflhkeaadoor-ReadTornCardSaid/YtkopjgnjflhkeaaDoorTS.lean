import Derived.Test.YtkopjgnjflhkeaaDoorTL
namespace Go.Proofs.YtkopjgnjflhkeaaDoor
open Go.RowKit Go.Pst
set_option linter.unusedVariables false
set_option linter.unusedSimpArgs false
set_option maxRecDepth 100000 in
set_option maxHeartbeats 40000000 in
theorem stmt_p0 {main:Bool} {d:Nat} (hd:d≤5) {w:World} {bb B0:Nat} {l:List PRaw} {loops:Int} (hlo:0≤loops∧loops≤100) (h:BardAt w bb B0 l loops main) (hk:pickN (firstB l).kind 24<3):
 Calls Tryd.prog 14 #[.pointer (some ⟨bb,0,none⟩), .int .i64 d] w (BardEnd w bb B0 loops main (stmtB main d (decide (0<loops)) l)):=by
 obtain ⟨i0,i1,i2,i3⟩:=firstB_in h
 obtain ⟨r,hr⟩: ∃ r,r=firstB l:=⟨_,rfl⟩
 rw [←hr] at i0 i1 i2 i3
 obtain ⟨q,hq⟩: ∃ q,pickN r.a 2=q:=⟨_,rfl⟩
 have qlt:q<2:=by rw [←hq];exact pickN_lt _ _ (by decide)
 have qI:(q:Int)<2:=by omega
 have HR:=zh (show stmtB main d (decide (0<loops)) l=((pickS rowXY r.a++(⟨#[32,61,32]⟩:ByteArray))++(numB main 2 l.tail).1,(numB main 2 l.tail).2) from stmtB_plain (by rw [plainB_eq,if_pos hk,←hr]))
 rw [←hr] at hk
 obtain ⟨kk,hkk⟩: ∃ kk,pickN r.kind 24=kk:=⟨_,rfl⟩
 rw [hkk] at hk
 have hk24:kk<24:=by rw [←hkk];exact pickN_lt _ _ (by decide)
 have Hk:=zh hkk
 clear hkk
 have hkI:(kk:Int)<12:=by omega
 have hk3I:(kk:Int)<3:=by omega
 obtain ⟨b1,b2,b3,b4,b5⟩:=sizes_main main
 have z1:=b1 l.tail
 have z2:=b2 l.tail
 have z3:=b3 l.tail
 have z4:=b4 l.tail
 have z5:=b5 l.tail
 have z6:=b2 (numB main 1 l.tail).2
 have z7:=b3 (numB main 2 l.tail).2
 have z8:=b5 (textB 2 (numB main 2 l.tail).2).2
 clear b1 b2 b3 b4 b5
 have y1:=pickS_le rowXY r.a 1 (by decide)
 have y2:=pickS_le rowLK r.a 1 (by decide)
 have y3:=pickS_le row0x1 r.a 1 (by decide)
 have hdI:(d:Int)≤5:=by omega
 have hl:=h.lt
 have hnx:=next_any h
 rw [←hr] at hnx
 have Hn:=zh hnx
 have Hr:=zh hr
 clear hnx hr h
 go_enter Tryd.func14,Tryd.ntmps14
 go_wp2_with fail
 refine Hn.out.mono ?_
 rintro e w1 ⟨rfl,hb,hs⟩
 have hz1:=hs.size
 unfold rawC
 go_upto_region 2 with fail
 obtain ⟨R0,hR0⟩: ∃ R0,R0=w1.heap.size:=⟨_,rfl⟩
 have k0:(w1.alloc (.cells #[.int .i64 r.kind, .int .i64 r.a, .int .i64 r.b, .int .i64 r.c] 76)).cell? ⟨R0,0,none⟩=some (.int .i64 r.kind):=by rw [hR0,box_cell (Below.refl _ _)];rfl
 have k1:(w1.alloc (.cells #[.int .i64 r.kind, .int .i64 r.a, .int .i64 r.b, .int .i64 r.c] 76)).cell? ⟨R0,1,none⟩=some (.int .i64 r.a):=by rw [hR0,box_cell (Below.refl _ _)];rfl
 have k2:(w1.alloc (.cells #[.int .i64 r.kind, .int .i64 r.a, .int .i64 r.b, .int .i64 r.c] 76)).cell? ⟨R0,2,none⟩=some (.int .i64 r.b):=by rw [hR0,box_cell (Below.refl _ _)];rfl
 have k3:(w1.alloc (.cells #[.int .i64 r.kind, .int .i64 r.a, .int .i64 r.b, .int .i64 r.c] 76)).cell? ⟨R0,3,none⟩=some (.int .i64 r.c):=by rw [hR0,box_cell (Below.refl _ _)];rfl
 have hzR:R0<(w1.alloc (.cells #[.int .i64 r.kind, .int .i64 r.a, .int .i64 r.b, .int .i64 r.c] 76)).heap.size:=by rw [hR0];simp
 have hnR:R0≠bb:=by omega
 have hRb:bb<R0:=by omega
 have hb':=hb.new (Since.alloc (fun _=>False) w1 (.cells #[.int .i64 r.kind, .int .i64 r.a, .int .i64 r.b, .int .i64 r.c] 76))
 have hs':=hs.trans (Since.alloc (fun k=>k=bb) w1 (.cells #[.int .i64 r.kind, .int .i64 r.a, .int .i64 r.b, .int .i64 r.c] 76))
 rw [←hR0]
 generalize w1.alloc (.cells #[.int .i64 r.kind, .int .i64 r.a, .int .i64 r.b, .int .i64 r.c] 76)=w2 at *
 clear hb hs hR0
 go_wp2_with fail
 refine (picked_nat r.kind 24 _ i0 (by decide) (by decide)).mono ?_
 rintro e wp ⟨rfl,rfl⟩
 rw [Hk.out]
 go_wp2_with fail
 refine tGo hb' hs' [(R0,1, .int .i64 r.a)] ⟨k1,trivial⟩ (by simp only [CZ,and_true];omega) 11 (fun wr1 h1=>?_)
 refine tRd 1 h1.c ?_
 refine tRd 2 h1.c ?_
 refine tRd 7 h1.c ?_
 refine tRd 8 h1.c ?_
 refine tP2 0 3 (fun K hK=>?_) (fun K hK=>?_)
 ·
  go_simp
  obtain ⟨g,hg⟩: ∃ g,g=wr1.heap.size:=⟨_,rfl⟩
  rw [←hg]
  revert g
  refine tRow hK h1 rowXY r.a hq (fun g2 wr2 h2=>?_)
  clear hK K
  refine tP1 3 (fun K hK=>?_)
  go_simp
  go_at_call 7
  refine (picked_nat r.a 2 _ i1 (by decide) (by decide)).mono ?_
  rintro e wp ⟨rfl,rfl⟩
  rw [hq]
  refine tNx hK h2.c ?_
  clear hK K
  refine tRd 4 h2.c ?_
  refine tRd 5 h2.c ?_
  refine tRd 6 h2.c ?_
  refine tP1 9 (fun K hK=>?_)
  go_simp
  go_at_call 30
  refine ((num2_said main).2 h2.b).mono ?_
  rintro e wr3 ⟨rfl,hb,hv⟩
  have h3:=h2.call hb hv
  clear hb hv
  refine tNx hK h3.c ?_
  clear hK K
  refine tRd 10 h3.c ?_
  refine tP1 11 (fun K hK=>?_)
  go_simp
  refine tLast hK ?_
  clear hK K
  refine tFin ?_
  go_wp2_with fail
  go_ret
  rw [HR.out]
  exact ⟨rfl,h3.b,h3.s⟩
 ·
  go_simp
  go_at_call 7
  refine (picked_nat r.a 2 _ i1 (by decide) (by decide)).mono ?_
  rintro e wp ⟨rfl,rfl⟩
  rw [hq]
  refine tNx hK h1.c ?_
  clear hK K
  refine tP2 0 9 (fun K hK=>?_) (fun K hK=>?_)
  ·
   go_simp
   obtain ⟨g,hg⟩: ∃ g,g=wr1.heap.size:=⟨_,rfl⟩
   rw [←hg]
   revert g
   refine tRow hK h1 rowXY r.a hq (fun g4 wr4 h4=>?_)
   clear hK K
   refine tRd 4 h4.c ?_
   refine tRd 5 h4.c ?_
   refine tRd 6 h4.c ?_
   refine tP1 9 (fun K hK=>?_)
   go_simp
   go_at_call 30
   refine ((num2_said main).2 h4.b).mono ?_
   rintro e wr5 ⟨rfl,hb,hv⟩
   have h5:=h4.call hb hv
   clear hb hv
   refine tNx hK h5.c ?_
   clear hK K
   refine tRd 10 h5.c ?_
   refine tP1 11 (fun K hK=>?_)
   go_simp
   refine tLast hK ?_
   clear hK K
   refine tFin ?_
   go_wp2_with fail
   go_ret
   rw [HR.out]
   exact ⟨rfl,h5.b,h5.s⟩
  ·
   go_simp
   go_at_call 30
   refine ((num2_said main).2 h1.b).mono ?_
   rintro e wr6 ⟨rfl,hb,hv⟩
   have h6:=h1.call hb hv
   clear hb hv
   refine tNx hK h6.c ?_
   clear hK K
   refine tP1 0 (fun K hK=>?_)
   go_simp
   obtain ⟨g,hg⟩: ∃ g,g=wr6.heap.size:=⟨_,rfl⟩
   rw [←hg]
   revert g
   refine tRow hK h6 rowXY r.a hq (fun g7 wr7 h7=>?_)
   clear hK K
   refine tRd 4 h7.c ?_
   refine tRd 5 h7.c ?_
   refine tRd 6 h7.c ?_
   refine tRd 10 h7.c ?_
   refine tP1 11 (fun K hK=>?_)
   go_simp
   refine tLast hK ?_
   clear hK K
   refine tFin ?_
   go_wp2_with fail
   go_ret
   rw [HR.out]
   exact ⟨rfl,h7.b,h7.s⟩
set_option maxRecDepth 100000 in
set_option maxHeartbeats 40000000 in
theorem stmt_p4 {main:Bool} {d:Nat} (hd:d≤5) {w:World} {bb B0:Nat} {l:List PRaw} {loops:Int} (hlo:0≤loops∧loops≤100) (h:BardAt w bb B0 l loops main) (hk:pickN (firstB l).kind 24=4):
 Calls Tryd.prog 14 #[.pointer (some ⟨bb,0,none⟩), .int .i64 d] w (BardEnd w bb B0 loops main (stmtB main d (decide (0<loops)) l)):=by
 obtain ⟨i0,i1,i2,i3⟩:=firstB_in h
 obtain ⟨r,hr⟩: ∃ r,r=firstB l:=⟨_,rfl⟩
 rw [←hr] at i0 i1 i2 i3
 obtain ⟨q,hq⟩: ∃ q,pickN r.a 2=q:=⟨_,rfl⟩
 have qlt:q<2:=by rw [←hq];exact pickN_lt _ _ (by decide)
 have qI:(q:Int)<2:=by omega
 have HR:=zh (show stmtB main d (decide (0<loops)) l=((pickS rowLK r.a++(⟨#[32,61,32]⟩:ByteArray))++(listB main 2 l.tail).1,(listB main 2 l.tail).2) from stmtB_plain (by rw [plainB_eq,if_neg (by omega),if_neg (by omega),if_pos hk,←hr]))
 rw [←hr] at hk
 obtain ⟨kk,hkk⟩: ∃ kk,pickN r.kind 24=kk:=⟨_,rfl⟩
 rw [hkk] at hk
 have hk24:kk<24:=by rw [←hkk];exact pickN_lt _ _ (by decide)
 have Hk:=zh hkk
 clear hkk
 subst hk
 obtain ⟨b1,b2,b3,b4,b5⟩:=sizes_main main
 have z1:=b1 l.tail
 have z2:=b2 l.tail
 have z3:=b3 l.tail
 have z4:=b4 l.tail
 have z5:=b5 l.tail
 have z6:=b2 (numB main 1 l.tail).2
 have z7:=b3 (numB main 2 l.tail).2
 have z8:=b5 (textB 2 (numB main 2 l.tail).2).2
 clear b1 b2 b3 b4 b5
 have y1:=pickS_le rowXY r.a 1 (by decide)
 have y2:=pickS_le rowLK r.a 1 (by decide)
 have y3:=pickS_le row0x1 r.a 1 (by decide)
 have hdI:(d:Int)≤5:=by omega
 have hl:=h.lt
 have hnx:=next_any h
 rw [←hr] at hnx
 have Hn:=zh hnx
 have Hr:=zh hr
 clear hnx hr h
 go_enter Tryd.func14,Tryd.ntmps14
 go_wp2_with fail
 refine Hn.out.mono ?_
 rintro e w1 ⟨rfl,hb,hs⟩
 have hz1:=hs.size
 unfold rawC
 go_upto_region 2 with fail
 obtain ⟨R0,hR0⟩: ∃ R0,R0=w1.heap.size:=⟨_,rfl⟩
 have k0:(w1.alloc (.cells #[.int .i64 r.kind, .int .i64 r.a, .int .i64 r.b, .int .i64 r.c] 76)).cell? ⟨R0,0,none⟩=some (.int .i64 r.kind):=by rw [hR0,box_cell (Below.refl _ _)];rfl
 have k1:(w1.alloc (.cells #[.int .i64 r.kind, .int .i64 r.a, .int .i64 r.b, .int .i64 r.c] 76)).cell? ⟨R0,1,none⟩=some (.int .i64 r.a):=by rw [hR0,box_cell (Below.refl _ _)];rfl
 have k2:(w1.alloc (.cells #[.int .i64 r.kind, .int .i64 r.a, .int .i64 r.b, .int .i64 r.c] 76)).cell? ⟨R0,2,none⟩=some (.int .i64 r.b):=by rw [hR0,box_cell (Below.refl _ _)];rfl
 have k3:(w1.alloc (.cells #[.int .i64 r.kind, .int .i64 r.a, .int .i64 r.b, .int .i64 r.c] 76)).cell? ⟨R0,3,none⟩=some (.int .i64 r.c):=by rw [hR0,box_cell (Below.refl _ _)];rfl
 have hzR:R0<(w1.alloc (.cells #[.int .i64 r.kind, .int .i64 r.a, .int .i64 r.b, .int .i64 r.c] 76)).heap.size:=by rw [hR0];simp
 have hnR:R0≠bb:=by omega
 have hRb:bb<R0:=by omega
 have hb':=hb.new (Since.alloc (fun _=>False) w1 (.cells #[.int .i64 r.kind, .int .i64 r.a, .int .i64 r.b, .int .i64 r.c] 76))
 have hs':=hs.trans (Since.alloc (fun k=>k=bb) w1 (.cells #[.int .i64 r.kind, .int .i64 r.a, .int .i64 r.b, .int .i64 r.c] 76))
 rw [←hR0]
 generalize w1.alloc (.cells #[.int .i64 r.kind, .int .i64 r.a, .int .i64 r.b, .int .i64 r.c] 76)=w2 at *
 clear hb hs hR0
 go_wp2_with fail
 refine (picked_nat r.kind 24 _ i0 (by decide) (by decide)).mono ?_
 rintro e wp ⟨rfl,rfl⟩
 rw [Hk.out]
 go_wp2_with fail
 refine tGo hb' hs' [(R0,1, .int .i64 r.a)] ⟨k1,trivial⟩ (by simp only [CZ,and_true];omega) 11 (fun wr1 h1=>?_)
 refine tRd 1 h1.c ?_
 refine tRd 2 h1.c ?_
 refine tRd 7 h1.c ?_
 refine tRd 8 h1.c ?_
 refine tP2 0 3 (fun K hK=>?_) (fun K hK=>?_)
 ·
  go_simp
  obtain ⟨g,hg⟩: ∃ g,g=wr1.heap.size:=⟨_,rfl⟩
  rw [←hg]
  revert g
  refine tRow hK h1 rowLK r.a hq (fun g2 wr2 h2=>?_)
  clear hK K
  refine tP1 3 (fun K hK=>?_)
  go_simp
  go_at_call 7
  refine (picked_nat r.a 2 _ i1 (by decide) (by decide)).mono ?_
  rintro e wp ⟨rfl,rfl⟩
  rw [hq]
  refine tNx hK h2.c ?_
  clear hK K
  refine tRd 4 h2.c ?_
  refine tRd 5 h2.c ?_
  refine tRd 6 h2.c ?_
  refine tP1 9 (fun K hK=>?_)
  go_simp
  go_at_call 32
  refine ((list2_said main).2 h2.b).mono ?_
  rintro e wr3 ⟨rfl,hb,hv⟩
  have h3:=h2.call hb hv
  clear hb hv
  refine tNx hK h3.c ?_
  clear hK K
  refine tRd 10 h3.c ?_
  refine tP1 11 (fun K hK=>?_)
  go_simp
  refine tLast hK ?_
  clear hK K
  refine tFin ?_
  go_wp2_with fail
  go_ret
  rw [HR.out]
  exact ⟨rfl,h3.b,h3.s⟩
 ·
  go_simp
  go_at_call 7
  refine (picked_nat r.a 2 _ i1 (by decide) (by decide)).mono ?_
  rintro e wp ⟨rfl,rfl⟩
  rw [hq]
  refine tNx hK h1.c ?_
  clear hK K
  refine tP2 0 9 (fun K hK=>?_) (fun K hK=>?_)
  ·
   go_simp
   obtain ⟨g,hg⟩: ∃ g,g=wr1.heap.size:=⟨_,rfl⟩
   rw [←hg]
   revert g
   refine tRow hK h1 rowLK r.a hq (fun g4 wr4 h4=>?_)
   clear hK K
   refine tRd 4 h4.c ?_
   refine tRd 5 h4.c ?_
   refine tRd 6 h4.c ?_
   refine tP1 9 (fun K hK=>?_)
   go_simp
   go_at_call 32
   refine ((list2_said main).2 h4.b).mono ?_
   rintro e wr5 ⟨rfl,hb,hv⟩
   have h5:=h4.call hb hv
   clear hb hv
   refine tNx hK h5.c ?_
   clear hK K
   refine tRd 10 h5.c ?_
   refine tP1 11 (fun K hK=>?_)
   go_simp
   refine tLast hK ?_
   clear hK K
   refine tFin ?_
   go_wp2_with fail
   go_ret
   rw [HR.out]
   exact ⟨rfl,h5.b,h5.s⟩
  ·
   go_simp
   go_at_call 32
   refine ((list2_said main).2 h1.b).mono ?_
   rintro e wr6 ⟨rfl,hb,hv⟩
   have h6:=h1.call hb hv
   clear hb hv
   refine tNx hK h6.c ?_
   clear hK K
   refine tP1 0 (fun K hK=>?_)
   go_simp
   obtain ⟨g,hg⟩: ∃ g,g=wr6.heap.size:=⟨_,rfl⟩
   rw [←hg]
   revert g
   refine tRow hK h6 rowLK r.a hq (fun g7 wr7 h7=>?_)
   clear hK K
   refine tRd 4 h7.c ?_
   refine tRd 5 h7.c ?_
   refine tRd 6 h7.c ?_
   refine tRd 10 h7.c ?_
   refine tP1 11 (fun K hK=>?_)
   go_simp
   refine tLast hK ?_
   clear hK K
   refine tFin ?_
   go_wp2_with fail
   go_ret
   rw [HR.out]
   exact ⟨rfl,h7.b,h7.s⟩
set_option maxRecDepth 100000 in
set_option maxHeartbeats 40000000 in
theorem stmt_p7 {main:Bool} {d:Nat} (hd:d≤5) {w:World} {bb B0:Nat} {l:List PRaw} {loops:Int} (hlo:0≤loops∧loops≤100) (h:BardAt w bb B0 l loops main) (hk:pickN (firstB l).kind 24=7):
 Calls Tryd.prog 14 #[.pointer (some ⟨bb,0,none⟩), .int .i64 d] w (BardEnd w bb B0 loops main (stmtB main d (decide (0<loops)) l)):=by
 obtain ⟨i0,i1,i2,i3⟩:=firstB_in h
 obtain ⟨r,hr⟩: ∃ r,r=firstB l:=⟨_,rfl⟩
 rw [←hr] at i0 i1 i2 i3
 obtain ⟨q,hq⟩: ∃ q,pickN r.a 3=q:=⟨_,rfl⟩
 have qlt:q<3:=by rw [←hq];exact pickN_lt _ _ (by decide)
 have qI:(q:Int)<3:=by omega
 have HR:=zh (show stmtB main d (decide (0<loops)) l=((((⟨#[108,91]⟩:ByteArray)++pickS row0x1 r.a)++(⟨#[93,32,61,32]⟩:ByteArray))++(numB main 2 l.tail).1,(numB main 2 l.tail).2) from stmtB_plain (by rw [plainB_eq,if_neg (by omega),if_neg (by omega),if_neg (by omega),if_neg (by omega),if_neg (by omega),if_pos hk,←hr]))
 rw [←hr] at hk
 obtain ⟨kk,hkk⟩: ∃ kk,pickN r.kind 24=kk:=⟨_,rfl⟩
 rw [hkk] at hk
 have hk24:kk<24:=by rw [←hkk];exact pickN_lt _ _ (by decide)
 have Hk:=zh hkk
 clear hkk
 subst hk
 obtain ⟨b1,b2,b3,b4,b5⟩:=sizes_main main
 have z1:=b1 l.tail
 have z2:=b2 l.tail
 have z3:=b3 l.tail
 have z4:=b4 l.tail
 have z5:=b5 l.tail
 have z6:=b2 (numB main 1 l.tail).2
 have z7:=b3 (numB main 2 l.tail).2
 have z8:=b5 (textB 2 (numB main 2 l.tail).2).2
 clear b1 b2 b3 b4 b5
 have y1:=pickS_le rowXY r.a 1 (by decide)
 have y2:=pickS_le rowLK r.a 1 (by decide)
 have y3:=pickS_le row0x1 r.a 1 (by decide)
 have hdI:(d:Int)≤5:=by omega
 have hl:=h.lt
 have hnx:=next_any h
 rw [←hr] at hnx
 have Hn:=zh hnx
 have Hr:=zh hr
 clear hnx hr h
 go_enter Tryd.func14,Tryd.ntmps14
 go_wp2_with fail
 refine Hn.out.mono ?_
 rintro e w1 ⟨rfl,hb,hs⟩
 have hz1:=hs.size
 unfold rawC
 go_upto_region 2 with fail
 obtain ⟨R0,hR0⟩: ∃ R0,R0=w1.heap.size:=⟨_,rfl⟩
 have k0:(w1.alloc (.cells #[.int .i64 r.kind, .int .i64 r.a, .int .i64 r.b, .int .i64 r.c] 76)).cell? ⟨R0,0,none⟩=some (.int .i64 r.kind):=by rw [hR0,box_cell (Below.refl _ _)];rfl
 have k1:(w1.alloc (.cells #[.int .i64 r.kind, .int .i64 r.a, .int .i64 r.b, .int .i64 r.c] 76)).cell? ⟨R0,1,none⟩=some (.int .i64 r.a):=by rw [hR0,box_cell (Below.refl _ _)];rfl
 have k2:(w1.alloc (.cells #[.int .i64 r.kind, .int .i64 r.a, .int .i64 r.b, .int .i64 r.c] 76)).cell? ⟨R0,2,none⟩=some (.int .i64 r.b):=by rw [hR0,box_cell (Below.refl _ _)];rfl
 have k3:(w1.alloc (.cells #[.int .i64 r.kind, .int .i64 r.a, .int .i64 r.b, .int .i64 r.c] 76)).cell? ⟨R0,3,none⟩=some (.int .i64 r.c):=by rw [hR0,box_cell (Below.refl _ _)];rfl
 have hzR:R0<(w1.alloc (.cells #[.int .i64 r.kind, .int .i64 r.a, .int .i64 r.b, .int .i64 r.c] 76)).heap.size:=by rw [hR0];simp
 have hnR:R0≠bb:=by omega
 have hRb:bb<R0:=by omega
 have hb':=hb.new (Since.alloc (fun _=>False) w1 (.cells #[.int .i64 r.kind, .int .i64 r.a, .int .i64 r.b, .int .i64 r.c] 76))
 have hs':=hs.trans (Since.alloc (fun k=>k=bb) w1 (.cells #[.int .i64 r.kind, .int .i64 r.a, .int .i64 r.b, .int .i64 r.c] 76))
 rw [←hR0]
 generalize w1.alloc (.cells #[.int .i64 r.kind, .int .i64 r.a, .int .i64 r.b, .int .i64 r.c] 76)=w2 at *
 clear hb hs hR0
 go_wp2_with fail
 refine (picked_nat r.kind 24 _ i0 (by decide) (by decide)).mono ?_
 rintro e wp ⟨rfl,rfl⟩
 rw [Hk.out]
 go_wp2_with fail
 refine tGo hb' hs' [(R0,1, .int .i64 r.a)] ⟨k1,trivial⟩ (by simp only [CZ,and_true];omega) 12 (fun wr1 h1=>?_)
 refine tRd 1 h1.c ?_
 refine tRd 2 h1.c ?_
 refine tRd 8 h1.c ?_
 refine tRd 9 h1.c ?_
 refine tP2 0 3 (fun K hK=>?_) (fun K hK=>?_)
 ·
  go_simp
  obtain ⟨g,hg⟩: ∃ g,g=wr1.heap.size:=⟨_,rfl⟩
  rw [←hg]
  revert g
  refine tRow hK h1 row0x1 r.a hq (fun g2 wr2 h2=>?_)
  clear hK K
  refine tP1 3 (fun K hK=>?_)
  go_simp
  go_at_call 7
  refine (picked_nat r.a 3 _ i1 (by decide) (by decide)).mono ?_
  rintro e wp ⟨rfl,rfl⟩
  rw [hq]
  refine tNx hK h2.c ?_
  clear hK K
  refine tRd 4 h2.c ?_
  refine tRd 5 h2.c ?_
  refine tRd 6 h2.c ?_
  refine tRd 7 h2.c ?_
  refine tP1 10 (fun K hK=>?_)
  go_simp
  go_at_call 30
  refine ((num2_said main).2 h2.b).mono ?_
  rintro e wr3 ⟨rfl,hb,hv⟩
  have h3:=h2.call hb hv
  clear hb hv
  refine tNx hK h3.c ?_
  clear hK K
  refine tRd 11 h3.c ?_
  refine tP1 12 (fun K hK=>?_)
  go_simp
  refine tLast hK ?_
  clear hK K
  refine tFin ?_
  go_wp2_with fail
  go_ret
  rw [HR.out]
  exact ⟨rfl,h3.b,h3.s⟩
 ·
  go_simp
  go_at_call 7
  refine (picked_nat r.a 3 _ i1 (by decide) (by decide)).mono ?_
  rintro e wp ⟨rfl,rfl⟩
  rw [hq]
  refine tNx hK h1.c ?_
  clear hK K
  refine tP2 0 10 (fun K hK=>?_) (fun K hK=>?_)
  ·
   go_simp
   obtain ⟨g,hg⟩: ∃ g,g=wr1.heap.size:=⟨_,rfl⟩
   rw [←hg]
   revert g
   refine tRow hK h1 row0x1 r.a hq (fun g4 wr4 h4=>?_)
   clear hK K
   refine tRd 4 h4.c ?_
   refine tRd 5 h4.c ?_
   refine tRd 6 h4.c ?_
   refine tRd 7 h4.c ?_
   refine tP1 10 (fun K hK=>?_)
   go_simp
   go_at_call 30
   refine ((num2_said main).2 h4.b).mono ?_
   rintro e wr5 ⟨rfl,hb,hv⟩
   have h5:=h4.call hb hv
   clear hb hv
   refine tNx hK h5.c ?_
   clear hK K
   refine tRd 11 h5.c ?_
   refine tP1 12 (fun K hK=>?_)
   go_simp
   refine tLast hK ?_
   clear hK K
   refine tFin ?_
   go_wp2_with fail
   go_ret
   rw [HR.out]
   exact ⟨rfl,h5.b,h5.s⟩
  ·
   go_simp
   go_at_call 30
   refine ((num2_said main).2 h1.b).mono ?_
   rintro e wr6 ⟨rfl,hb,hv⟩
   have h6:=h1.call hb hv
   clear hb hv
   refine tNx hK h6.c ?_
   clear hK K
   refine tP1 0 (fun K hK=>?_)
   go_simp
   obtain ⟨g,hg⟩: ∃ g,g=wr6.heap.size:=⟨_,rfl⟩
   rw [←hg]
   revert g
   refine tRow hK h6 row0x1 r.a hq (fun g7 wr7 h7=>?_)
   clear hK K
   refine tRd 4 h7.c ?_
   refine tRd 5 h7.c ?_
   refine tRd 6 h7.c ?_
   refine tRd 7 h7.c ?_
   refine tRd 11 h7.c ?_
   refine tP1 12 (fun K hK=>?_)
   go_simp
   refine tLast hK ?_
   clear hK K
   refine tFin ?_
   go_wp2_with fail
   go_ret
   rw [HR.out]
   exact ⟨rfl,h7.b,h7.s⟩
end Go.Proofs.YtkopjgnjflhkeaaDoor

import Derived.Test.YtkopjgnjflhkeaaDoorTN
namespace Go.Proofs.YtkopjgnjflhkeaaDoor
open Go.RowKit Go.Pst
set_option linter.unusedVariables false
set_option linter.unusedSimpArgs false
set_option maxRecDepth 100000 in
set_option maxHeartbeats 40000000 in
theorem stmt_ifElse {main:Bool} {d:Nat} (hd:d≤5) {w:World} {bb B0:Nat} {l:List PRaw} {loops:Int} (hlo:0≤loops∧loops≤100) (hst:StmtSaid main d loops (stmtB main d (decide (0<loops)))) (hst2:StmtSaid main d (loops+1) (stmtB main d true)) (h:BardAt w bb B0 l loops main) (hk:DeepK main loops (pickN (firstB l).kind 24)) (hlt:pickN (firstB l).kind 24<17) (hz:pickN (firstB l).b 2=0):
 Calls Tryd.prog 14 #[.pointer (some ⟨bb,0,none⟩), .int .i64 ((d:Int)+1)] w (BardEnd w bb B0 loops main (stmtB main (d+1) (decide (0<loops)) l)):=by
 obtain ⟨i0,i1,i2,i3⟩:=firstB_in h
 obtain ⟨r,hr⟩: ∃ r,r=firstB l:=⟨_,rfl⟩
 rw [←hr] at i0 i1 i2 i3
 obtain ⟨q,hq⟩: ∃ q,pickN r.a 2=q:=⟨_,rfl⟩
 have qlt:q<2:=by rw [←hq];exact pickN_lt _ _ (by decide)
 have qI:(q:Int)<2:=by omega
 obtain ⟨u,hu⟩: ∃ u,pickN r.b 2=u:=⟨_,rfl⟩
 have ult:u<2:=by rw [←hu];exact pickN_lt _ _ (by decide)
 have uI:(u:Int)<2:=by omega
 have HR:=zh (show stmtB main (d+1) (decide (0<loops)) l=(((((⟨#[105,102,32]⟩:ByteArray)++(truthB main 2 l.tail).1)++(⟨#[32]⟩:ByteArray))++(blockB (stmtB main d (decide (0<loops))) (1+q) (truthB main 2 l.tail).2).1)++((⟨#[32,101,108,115,101,32]⟩:ByteArray)++(blockB (stmtB main d (decide (0<loops))) 1 (blockB (stmtB main d (decide (0<loops))) (1+q) (truthB main 2 l.tail).2).2).1),(blockB (stmtB main d (decide (0<loops))) 1 (blockB (stmtB main d (decide (0<loops))) (1+q) (truthB main 2 l.tail).2).2).2) by rw [stmtB_succ hk,if_pos hlt];unfold ifB;dsimp only;rw [if_pos hz,←hr,hq])
 rw [←hr,hu] at hz
 subst hz
 have z1:(truthB main 2 l.tail).1.size≤1000:=(sizes_main main).2.2.2.2 _
 have z2:(blockB (stmtB main d (decide (0<loops))) (1+q) (truthB main 2 l.tail).2).1.size≤300000:=Nat.le_trans (blockB_size hst.1 _ _) (by omega)
 have z3:(blockB (stmtB main d (decide (0<loops))) 1 (blockB (stmtB main d (decide (0<loops))) (1+q) (truthB main 2 l.tail).2).2).1.size≤300000:=Nat.le_trans (blockB_size hst.1 _ _) (by omega)
 have hdI:(d:Int)≤5:=by omega
 have hnd: ¬((d:Int)+1≤0):=by omega
 have Hst:=zh hst
 have Hst2:=zh hst2
 rw [←hr] at hlt
 clear hst hst2
 unfold DeepK at hk
 obtain ⟨kk,hkk⟩: ∃ kk,pickN r.kind 24=kk:=⟨_,rfl⟩
 rw [←hr,hkk] at hk
 rw [hkk] at hlt
 have hk24:kk<24:=by rw [←hkk];exact pickN_lt _ _ (by decide)
 have Hk:=zh hkk
 clear hkk
 have hltI:(kk:Int)<17:=by omega
 rcases hk with ⟨rfl,hl0⟩|⟨rfl,hm⟩|h14
 ·
  have hl:=h.lt
  have hnx:=next_any h
  rw [←hr] at hnx
  have Hn:=zh hnx
  have Hr:=zh hr
  clear hnx hr h
  go_enter Tryd.func14,Tryd.ntmps14
  go_wp2_with fail
  refine Hn.out.mono ?_
  rintro e w1 ⟨rfl,hb,hs⟩
  have hz1:=hs.size
  unfold rawC
  go_upto_region 2 with fail
  obtain ⟨R0,hR0⟩: ∃ R0,R0=w1.heap.size:=⟨_,rfl⟩
  have k0:(w1.alloc (.cells #[.int .i64 r.kind, .int .i64 r.a, .int .i64 r.b, .int .i64 r.c] 76)).cell? ⟨R0,0,none⟩=some (.int .i64 r.kind):=by rw [hR0,box_cell (Below.refl _ _)];rfl
  have k1:(w1.alloc (.cells #[.int .i64 r.kind, .int .i64 r.a, .int .i64 r.b, .int .i64 r.c] 76)).cell? ⟨R0,1,none⟩=some (.int .i64 r.a):=by rw [hR0,box_cell (Below.refl _ _)];rfl
  have k2:(w1.alloc (.cells #[.int .i64 r.kind, .int .i64 r.a, .int .i64 r.b, .int .i64 r.c] 76)).cell? ⟨R0,2,none⟩=some (.int .i64 r.b):=by rw [hR0,box_cell (Below.refl _ _)];rfl
  have k3:(w1.alloc (.cells #[.int .i64 r.kind, .int .i64 r.a, .int .i64 r.b, .int .i64 r.c] 76)).cell? ⟨R0,3,none⟩=some (.int .i64 r.c):=by rw [hR0,box_cell (Below.refl _ _)];rfl
  have hzR:R0<(w1.alloc (.cells #[.int .i64 r.kind, .int .i64 r.a, .int .i64 r.b, .int .i64 r.c] 76)).heap.size:=by rw [hR0];simp
  have hnR:R0≠bb:=by omega
  have hRb:bb<R0:=by omega
  have hb':=hb.new (Since.alloc (fun _=>False) w1 (.cells #[.int .i64 r.kind, .int .i64 r.a, .int .i64 r.b, .int .i64 r.c] 76))
  have hs':=hs.trans (Since.alloc (fun k=>k=bb) w1 (.cells #[.int .i64 r.kind, .int .i64 r.a, .int .i64 r.b, .int .i64 r.c] 76))
  rw [←hR0]
  generalize w1.alloc (.cells #[.int .i64 r.kind, .int .i64 r.a, .int .i64 r.b, .int .i64 r.c] 76)=w2 at *
  clear hb hs hR0
  have cl:=hb'.c1
  have cm:=hb'.c2
  have zf:=hb'.z
  go_wp2_with fail
  refine (picked_nat r.kind 24 _ i0 (by decide) (by decide)).mono ?_
  rintro e wp ⟨rfl,rfl⟩
  rw [Hk.out]
  go_wp2_with fail
  refine tGo hb' hs' [(R0,1, .int .i64 r.a),(R0,2, .int .i64 r.b)] ⟨k1,k2,trivial⟩ (by simp only [CZ,and_true];omega) 14 (fun wr1 h1=>?_)
  refine tRd 0 h1.c ?_
  refine tRd 1 h1.c ?_
  refine tRd 5 h1.c ?_
  refine tRd 6 h1.c ?_
  refine tRd 7 h1.c ?_
  refine tRd 8 h1.c ?_
  refine tRd 9 h1.c ?_
  refine tP1 2 (fun K hK=>?_)
  go_simp
  go_at_call 33
  refine ((truth2_said main).2 h1.b).mono ?_
  rintro e wr2 ⟨rfl,hb,hv⟩
  have h2:=h1.call hb hv
  clear hb hv
  refine tNx hK h2.c ?_
  clear hK K
  refine tRd 3 h2.c ?_
  refine tRd 4 h2.c ?_
  refine tP1 10 (fun K hK=>?_)
  go_simp
  go_at_call 7
  refine (picked_nat r.a 2 _ i1 (by decide) (by decide)).mono ?_
  rintro e wp ⟨rfl,rfl⟩
  rw [hq]
  refine tNx hK h2.c ?_
  clear hK K
  refine tRd 11 h2.c ?_
  refine tP1 12 (fun K hK=>?_)
  go_simp
  go_at_call 34
  try rw [show IntKind.i64.wrap (d:Int)=(d:Int) from IntWalk.i64_in _ (by omega)]
  try rw [show IntKind.i64.wrap (1+(q:Int))=1+(q:Int) from IntWalk.i64_in _ (by omega)]
  refine (block_at Hst.out ⟨by omega,by omega⟩ (nI:=1+(q:Int)) (1+q) (by omega) (by omega) h2.b).mono ?_
  rintro e wr3 ⟨rfl,hb,hv⟩
  have h3:=h2.call hb hv
  clear hb hv
  refine tNx hK h3.c ?_
  clear hK K
  refine tRd 13 h3.c ?_
  refine tP1 14 (fun K hK=>?_)
  go_simp
  refine tLast hK ?_
  clear hK K
  refine tFin ?_
  have hcs:=h3.c
  simp only [CS,and_true] at hcs
  obtain ⟨s1,s2⟩:=hcs
  go_wp2_with fail
  refine (picked_nat r.b 2 _ i2 (by decide) (by decide)).mono ?_
  rintro e wp ⟨rfl,rfl⟩
  rw [hu]
  go_wp2_with fail
  try rw [show IntKind.i64.wrap (d:Int)=(d:Int) from IntWalk.i64_in _ (by omega)]
  refine (block_at Hst.out ⟨by omega,by omega⟩ 1 rfl (by decide) h3.b).mono ?_
  rintro e wz ⟨rfl,hbz,hsz⟩
  go_wp2_with fail
  go_ret
  rw [HR.out]
  exact ⟨rfl,hbz,h3.s.trans hsz⟩
 ·
  have Hm:=zh hm
  clear hm
  have hl:=h.lt
  have hnx:=next_any h
  rw [←hr] at hnx
  have Hn:=zh hnx
  have Hr:=zh hr
  clear hnx hr h
  go_enter Tryd.func14,Tryd.ntmps14
  go_wp2_with fail
  refine Hn.out.mono ?_
  rintro e w1 ⟨rfl,hb,hs⟩
  have hz1:=hs.size
  unfold rawC
  go_upto_region 2 with fail
  obtain ⟨R0,hR0⟩: ∃ R0,R0=w1.heap.size:=⟨_,rfl⟩
  have k0:(w1.alloc (.cells #[.int .i64 r.kind, .int .i64 r.a, .int .i64 r.b, .int .i64 r.c] 76)).cell? ⟨R0,0,none⟩=some (.int .i64 r.kind):=by rw [hR0,box_cell (Below.refl _ _)];rfl
  have k1:(w1.alloc (.cells #[.int .i64 r.kind, .int .i64 r.a, .int .i64 r.b, .int .i64 r.c] 76)).cell? ⟨R0,1,none⟩=some (.int .i64 r.a):=by rw [hR0,box_cell (Below.refl _ _)];rfl
  have k2:(w1.alloc (.cells #[.int .i64 r.kind, .int .i64 r.a, .int .i64 r.b, .int .i64 r.c] 76)).cell? ⟨R0,2,none⟩=some (.int .i64 r.b):=by rw [hR0,box_cell (Below.refl _ _)];rfl
  have k3:(w1.alloc (.cells #[.int .i64 r.kind, .int .i64 r.a, .int .i64 r.b, .int .i64 r.c] 76)).cell? ⟨R0,3,none⟩=some (.int .i64 r.c):=by rw [hR0,box_cell (Below.refl _ _)];rfl
  have hzR:R0<(w1.alloc (.cells #[.int .i64 r.kind, .int .i64 r.a, .int .i64 r.b, .int .i64 r.c] 76)).heap.size:=by rw [hR0];simp
  have hnR:R0≠bb:=by omega
  have hRb:bb<R0:=by omega
  have hb':=hb.new (Since.alloc (fun _=>False) w1 (.cells #[.int .i64 r.kind, .int .i64 r.a, .int .i64 r.b, .int .i64 r.c] 76))
  have hs':=hs.trans (Since.alloc (fun k=>k=bb) w1 (.cells #[.int .i64 r.kind, .int .i64 r.a, .int .i64 r.b, .int .i64 r.c] 76))
  rw [←hR0]
  generalize w1.alloc (.cells #[.int .i64 r.kind, .int .i64 r.a, .int .i64 r.b, .int .i64 r.c] 76)=w2 at *
  clear hb hs hR0
  have cl:=hb'.c1
  have cm:=hb'.c2
  have zf:=hb'.z
  rw [Hm.out] at cm
  go_wp2_with fail
  refine (picked_nat r.kind 24 _ i0 (by decide) (by decide)).mono ?_
  rintro e wp ⟨rfl,rfl⟩
  rw [Hk.out]
  go_wp2_with fail
  refine tGo hb' hs' [(R0,1, .int .i64 r.a),(R0,2, .int .i64 r.b)] ⟨k1,k2,trivial⟩ (by simp only [CZ,and_true];omega) 14 (fun wr1 h1=>?_)
  refine tRd 0 h1.c ?_
  refine tRd 1 h1.c ?_
  refine tRd 5 h1.c ?_
  refine tRd 6 h1.c ?_
  refine tRd 7 h1.c ?_
  refine tRd 8 h1.c ?_
  refine tRd 9 h1.c ?_
  refine tP1 2 (fun K hK=>?_)
  go_simp
  go_at_call 33
  refine ((truth2_said main).2 h1.b).mono ?_
  rintro e wr2 ⟨rfl,hb,hv⟩
  have h2:=h1.call hb hv
  clear hb hv
  refine tNx hK h2.c ?_
  clear hK K
  refine tRd 3 h2.c ?_
  refine tRd 4 h2.c ?_
  refine tP1 10 (fun K hK=>?_)
  go_simp
  go_at_call 7
  refine (picked_nat r.a 2 _ i1 (by decide) (by decide)).mono ?_
  rintro e wp ⟨rfl,rfl⟩
  rw [hq]
  refine tNx hK h2.c ?_
  clear hK K
  refine tRd 11 h2.c ?_
  refine tP1 12 (fun K hK=>?_)
  go_simp
  go_at_call 34
  try rw [show IntKind.i64.wrap (d:Int)=(d:Int) from IntWalk.i64_in _ (by omega)]
  try rw [show IntKind.i64.wrap (1+(q:Int))=1+(q:Int) from IntWalk.i64_in _ (by omega)]
  refine (block_at Hst.out ⟨by omega,by omega⟩ (nI:=1+(q:Int)) (1+q) (by omega) (by omega) h2.b).mono ?_
  rintro e wr3 ⟨rfl,hb,hv⟩
  have h3:=h2.call hb hv
  clear hb hv
  refine tNx hK h3.c ?_
  clear hK K
  refine tRd 13 h3.c ?_
  refine tP1 14 (fun K hK=>?_)
  go_simp
  refine tLast hK ?_
  clear hK K
  refine tFin ?_
  have hcs:=h3.c
  simp only [CS,and_true] at hcs
  obtain ⟨s1,s2⟩:=hcs
  go_wp2_with fail
  refine (picked_nat r.b 2 _ i2 (by decide) (by decide)).mono ?_
  rintro e wp ⟨rfl,rfl⟩
  rw [hu]
  go_wp2_with fail
  try rw [show IntKind.i64.wrap (d:Int)=(d:Int) from IntWalk.i64_in _ (by omega)]
  refine (block_at Hst.out ⟨by omega,by omega⟩ 1 rfl (by decide) h3.b).mono ?_
  rintro e wz ⟨rfl,hbz,hsz⟩
  go_wp2_with fail
  go_ret
  rw [HR.out]
  exact ⟨rfl,hbz,h3.s.trans hsz⟩
 ·
  have n3:((kk:Int)==3)=false:=by rw [beq_eq_false_iff_ne];omega
  have n4:((kk:Int)==4)=false:=by rw [beq_eq_false_iff_ne];omega
  have n5:((kk:Int)==5)=false:=by rw [beq_eq_false_iff_ne];omega
  have n6:((kk:Int)==6)=false:=by rw [beq_eq_false_iff_ne];omega
  have n7:((kk:Int)==7)=false:=by rw [beq_eq_false_iff_ne];omega
  have n8:((kk:Int)==8)=false:=by rw [beq_eq_false_iff_ne];omega
  have n12:((kk:Int)==12)=false:=by rw [beq_eq_false_iff_ne];omega
  have n13:((kk:Int)==13)=false:=by rw [beq_eq_false_iff_ne];omega
  have f3: ¬(kk:Int)<3:=by omega
  have f12: ¬(kk:Int)<12:=by omega
  have hl:=h.lt
  have hnx:=next_any h
  rw [←hr] at hnx
  have Hn:=zh hnx
  have Hr:=zh hr
  clear hnx hr h
  go_enter Tryd.func14,Tryd.ntmps14
  go_wp2_with fail
  refine Hn.out.mono ?_
  rintro e w1 ⟨rfl,hb,hs⟩
  have hz1:=hs.size
  unfold rawC
  go_upto_region 2 with fail
  obtain ⟨R0,hR0⟩: ∃ R0,R0=w1.heap.size:=⟨_,rfl⟩
  have k0:(w1.alloc (.cells #[.int .i64 r.kind, .int .i64 r.a, .int .i64 r.b, .int .i64 r.c] 76)).cell? ⟨R0,0,none⟩=some (.int .i64 r.kind):=by rw [hR0,box_cell (Below.refl _ _)];rfl
  have k1:(w1.alloc (.cells #[.int .i64 r.kind, .int .i64 r.a, .int .i64 r.b, .int .i64 r.c] 76)).cell? ⟨R0,1,none⟩=some (.int .i64 r.a):=by rw [hR0,box_cell (Below.refl _ _)];rfl
  have k2:(w1.alloc (.cells #[.int .i64 r.kind, .int .i64 r.a, .int .i64 r.b, .int .i64 r.c] 76)).cell? ⟨R0,2,none⟩=some (.int .i64 r.b):=by rw [hR0,box_cell (Below.refl _ _)];rfl
  have k3:(w1.alloc (.cells #[.int .i64 r.kind, .int .i64 r.a, .int .i64 r.b, .int .i64 r.c] 76)).cell? ⟨R0,3,none⟩=some (.int .i64 r.c):=by rw [hR0,box_cell (Below.refl _ _)];rfl
  have hzR:R0<(w1.alloc (.cells #[.int .i64 r.kind, .int .i64 r.a, .int .i64 r.b, .int .i64 r.c] 76)).heap.size:=by rw [hR0];simp
  have hnR:R0≠bb:=by omega
  have hRb:bb<R0:=by omega
  have hb':=hb.new (Since.alloc (fun _=>False) w1 (.cells #[.int .i64 r.kind, .int .i64 r.a, .int .i64 r.b, .int .i64 r.c] 76))
  have hs':=hs.trans (Since.alloc (fun k=>k=bb) w1 (.cells #[.int .i64 r.kind, .int .i64 r.a, .int .i64 r.b, .int .i64 r.c] 76))
  rw [←hR0]
  generalize w1.alloc (.cells #[.int .i64 r.kind, .int .i64 r.a, .int .i64 r.b, .int .i64 r.c] 76)=w2 at *
  clear hb hs hR0
  have cl:=hb'.c1
  have cm:=hb'.c2
  have zf:=hb'.z
  go_wp2_with fail
  refine (picked_nat r.kind 24 _ i0 (by decide) (by decide)).mono ?_
  rintro e wp ⟨rfl,rfl⟩
  rw [Hk.out]
  go_wp2_with fail
  refine tGo hb' hs' [(R0,1, .int .i64 r.a),(R0,2, .int .i64 r.b)] ⟨k1,k2,trivial⟩ (by simp only [CZ,and_true];omega) 14 (fun wr1 h1=>?_)
  refine tRd 0 h1.c ?_
  refine tRd 1 h1.c ?_
  refine tRd 5 h1.c ?_
  refine tRd 6 h1.c ?_
  refine tRd 7 h1.c ?_
  refine tRd 8 h1.c ?_
  refine tRd 9 h1.c ?_
  refine tP1 2 (fun K hK=>?_)
  go_simp
  go_at_call 33
  refine ((truth2_said main).2 h1.b).mono ?_
  rintro e wr2 ⟨rfl,hb,hv⟩
  have h2:=h1.call hb hv
  clear hb hv
  refine tNx hK h2.c ?_
  clear hK K
  refine tRd 3 h2.c ?_
  refine tRd 4 h2.c ?_
  refine tP1 10 (fun K hK=>?_)
  go_simp
  go_at_call 7
  refine (picked_nat r.a 2 _ i1 (by decide) (by decide)).mono ?_
  rintro e wp ⟨rfl,rfl⟩
  rw [hq]
  refine tNx hK h2.c ?_
  clear hK K
  refine tRd 11 h2.c ?_
  refine tP1 12 (fun K hK=>?_)
  go_simp
  go_at_call 34
  try rw [show IntKind.i64.wrap (d:Int)=(d:Int) from IntWalk.i64_in _ (by omega)]
  try rw [show IntKind.i64.wrap (1+(q:Int))=1+(q:Int) from IntWalk.i64_in _ (by omega)]
  refine (block_at Hst.out ⟨by omega,by omega⟩ (nI:=1+(q:Int)) (1+q) (by omega) (by omega) h2.b).mono ?_
  rintro e wr3 ⟨rfl,hb,hv⟩
  have h3:=h2.call hb hv
  clear hb hv
  refine tNx hK h3.c ?_
  clear hK K
  refine tRd 13 h3.c ?_
  refine tP1 14 (fun K hK=>?_)
  go_simp
  refine tLast hK ?_
  clear hK K
  refine tFin ?_
  have hcs:=h3.c
  simp only [CS,and_true] at hcs
  obtain ⟨s1,s2⟩:=hcs
  go_wp2_with fail
  refine (picked_nat r.b 2 _ i2 (by decide) (by decide)).mono ?_
  rintro e wp ⟨rfl,rfl⟩
  rw [hu]
  go_wp2_with fail
  try rw [show IntKind.i64.wrap (d:Int)=(d:Int) from IntWalk.i64_in _ (by omega)]
  refine (block_at Hst.out ⟨by omega,by omega⟩ 1 rfl (by decide) h3.b).mono ?_
  rintro e wz ⟨rfl,hbz,hsz⟩
  go_wp2_with fail
  go_ret
  rw [HR.out]
  exact ⟨rfl,hbz,h3.s.trans hsz⟩
set_option maxRecDepth 100000 in
set_option maxHeartbeats 40000000 in
theorem stmt_if {main:Bool} {d:Nat} (hd:d≤5) {w:World} {bb B0:Nat} {l:List PRaw} {loops:Int} (hlo:0≤loops∧loops≤100) (hst:StmtSaid main d loops (stmtB main d (decide (0<loops)))) (hst2:StmtSaid main d (loops+1) (stmtB main d true)) (h:BardAt w bb B0 l loops main) (hk:DeepK main loops (pickN (firstB l).kind 24)) (hlt:pickN (firstB l).kind 24<17) (hz: ¬pickN (firstB l).b 2=0):
 Calls Tryd.prog 14 #[.pointer (some ⟨bb,0,none⟩), .int .i64 ((d:Int)+1)] w (BardEnd w bb B0 loops main (stmtB main (d+1) (decide (0<loops)) l)):=by
 obtain ⟨i0,i1,i2,i3⟩:=firstB_in h
 obtain ⟨r,hr⟩: ∃ r,r=firstB l:=⟨_,rfl⟩
 rw [←hr] at i0 i1 i2 i3
 obtain ⟨q,hq⟩: ∃ q,pickN r.a 2=q:=⟨_,rfl⟩
 have qlt:q<2:=by rw [←hq];exact pickN_lt _ _ (by decide)
 have qI:(q:Int)<2:=by omega
 obtain ⟨u,hu⟩: ∃ u,pickN r.b 2=u:=⟨_,rfl⟩
 have ult:u<2:=by rw [←hu];exact pickN_lt _ _ (by decide)
 have uI:(u:Int)<2:=by omega
 have HR:=zh (show stmtB main (d+1) (decide (0<loops)) l=(((((⟨#[105,102,32]⟩:ByteArray)++(truthB main 2 l.tail).1)++(⟨#[32]⟩:ByteArray))++(blockB (stmtB main d (decide (0<loops))) (1+q) (truthB main 2 l.tail).2).1),(blockB (stmtB main d (decide (0<loops))) (1+q) (truthB main 2 l.tail).2).2) by rw [stmtB_succ hk,if_pos hlt];unfold ifB;dsimp only;rw [if_neg hz,←hr,hq])
 rw [←hr,hu] at hz
 have hu0:((u:Int)==0)=false:=by rw [beq_eq_false_iff_ne];omega
 have z1:(truthB main 2 l.tail).1.size≤1000:=(sizes_main main).2.2.2.2 _
 have z2:(blockB (stmtB main d (decide (0<loops))) (1+q) (truthB main 2 l.tail).2).1.size≤300000:=Nat.le_trans (blockB_size hst.1 _ _) (by omega)
 have z3:(blockB (stmtB main d (decide (0<loops))) 1 (blockB (stmtB main d (decide (0<loops))) (1+q) (truthB main 2 l.tail).2).2).1.size≤300000:=Nat.le_trans (blockB_size hst.1 _ _) (by omega)
 have hdI:(d:Int)≤5:=by omega
 have hnd: ¬((d:Int)+1≤0):=by omega
 have Hst:=zh hst
 have Hst2:=zh hst2
 rw [←hr] at hlt
 clear hst hst2
 unfold DeepK at hk
 obtain ⟨kk,hkk⟩: ∃ kk,pickN r.kind 24=kk:=⟨_,rfl⟩
 rw [←hr,hkk] at hk
 rw [hkk] at hlt
 have hk24:kk<24:=by rw [←hkk];exact pickN_lt _ _ (by decide)
 have Hk:=zh hkk
 clear hkk
 have hltI:(kk:Int)<17:=by omega
 rcases hk with ⟨rfl,hl0⟩|⟨rfl,hm⟩|h14
 ·
  have hl:=h.lt
  have hnx:=next_any h
  rw [←hr] at hnx
  have Hn:=zh hnx
  have Hr:=zh hr
  clear hnx hr h
  go_enter Tryd.func14,Tryd.ntmps14
  go_wp2_with fail
  refine Hn.out.mono ?_
  rintro e w1 ⟨rfl,hb,hs⟩
  have hz1:=hs.size
  unfold rawC
  go_upto_region 2 with fail
  obtain ⟨R0,hR0⟩: ∃ R0,R0=w1.heap.size:=⟨_,rfl⟩
  have k0:(w1.alloc (.cells #[.int .i64 r.kind, .int .i64 r.a, .int .i64 r.b, .int .i64 r.c] 76)).cell? ⟨R0,0,none⟩=some (.int .i64 r.kind):=by rw [hR0,box_cell (Below.refl _ _)];rfl
  have k1:(w1.alloc (.cells #[.int .i64 r.kind, .int .i64 r.a, .int .i64 r.b, .int .i64 r.c] 76)).cell? ⟨R0,1,none⟩=some (.int .i64 r.a):=by rw [hR0,box_cell (Below.refl _ _)];rfl
  have k2:(w1.alloc (.cells #[.int .i64 r.kind, .int .i64 r.a, .int .i64 r.b, .int .i64 r.c] 76)).cell? ⟨R0,2,none⟩=some (.int .i64 r.b):=by rw [hR0,box_cell (Below.refl _ _)];rfl
  have k3:(w1.alloc (.cells #[.int .i64 r.kind, .int .i64 r.a, .int .i64 r.b, .int .i64 r.c] 76)).cell? ⟨R0,3,none⟩=some (.int .i64 r.c):=by rw [hR0,box_cell (Below.refl _ _)];rfl
  have hzR:R0<(w1.alloc (.cells #[.int .i64 r.kind, .int .i64 r.a, .int .i64 r.b, .int .i64 r.c] 76)).heap.size:=by rw [hR0];simp
  have hnR:R0≠bb:=by omega
  have hRb:bb<R0:=by omega
  have hb':=hb.new (Since.alloc (fun _=>False) w1 (.cells #[.int .i64 r.kind, .int .i64 r.a, .int .i64 r.b, .int .i64 r.c] 76))
  have hs':=hs.trans (Since.alloc (fun k=>k=bb) w1 (.cells #[.int .i64 r.kind, .int .i64 r.a, .int .i64 r.b, .int .i64 r.c] 76))
  rw [←hR0]
  generalize w1.alloc (.cells #[.int .i64 r.kind, .int .i64 r.a, .int .i64 r.b, .int .i64 r.c] 76)=w2 at *
  clear hb hs hR0
  have cl:=hb'.c1
  have cm:=hb'.c2
  have zf:=hb'.z
  go_wp2_with fail
  refine (picked_nat r.kind 24 _ i0 (by decide) (by decide)).mono ?_
  rintro e wp ⟨rfl,rfl⟩
  rw [Hk.out]
  go_wp2_with fail
  refine tGo hb' hs' [(R0,1, .int .i64 r.a),(R0,2, .int .i64 r.b)] ⟨k1,k2,trivial⟩ (by simp only [CZ,and_true];omega) 14 (fun wr1 h1=>?_)
  refine tRd 0 h1.c ?_
  refine tRd 1 h1.c ?_
  refine tRd 5 h1.c ?_
  refine tRd 6 h1.c ?_
  refine tRd 7 h1.c ?_
  refine tRd 8 h1.c ?_
  refine tRd 9 h1.c ?_
  refine tP1 2 (fun K hK=>?_)
  go_simp
  go_at_call 33
  refine ((truth2_said main).2 h1.b).mono ?_
  rintro e wr2 ⟨rfl,hb,hv⟩
  have h2:=h1.call hb hv
  clear hb hv
  refine tNx hK h2.c ?_
  clear hK K
  refine tRd 3 h2.c ?_
  refine tRd 4 h2.c ?_
  refine tP1 10 (fun K hK=>?_)
  go_simp
  go_at_call 7
  refine (picked_nat r.a 2 _ i1 (by decide) (by decide)).mono ?_
  rintro e wp ⟨rfl,rfl⟩
  rw [hq]
  refine tNx hK h2.c ?_
  clear hK K
  refine tRd 11 h2.c ?_
  refine tP1 12 (fun K hK=>?_)
  go_simp
  go_at_call 34
  try rw [show IntKind.i64.wrap (d:Int)=(d:Int) from IntWalk.i64_in _ (by omega)]
  try rw [show IntKind.i64.wrap (1+(q:Int))=1+(q:Int) from IntWalk.i64_in _ (by omega)]
  refine (block_at Hst.out ⟨by omega,by omega⟩ (nI:=1+(q:Int)) (1+q) (by omega) (by omega) h2.b).mono ?_
  rintro e wr3 ⟨rfl,hb,hv⟩
  have h3:=h2.call hb hv
  clear hb hv
  refine tNx hK h3.c ?_
  clear hK K
  refine tRd 13 h3.c ?_
  refine tP1 14 (fun K hK=>?_)
  go_simp
  refine tLast hK ?_
  clear hK K
  refine tFin ?_
  have hcs:=h3.c
  simp only [CS,and_true] at hcs
  obtain ⟨s1,s2⟩:=hcs
  go_wp2_with fail
  refine (picked_nat r.b 2 _ i2 (by decide) (by decide)).mono ?_
  rintro e wp ⟨rfl,rfl⟩
  rw [hu]
  go_wp2_with fail
  go_ret
  rw [HR.out]
  exact ⟨rfl,h3.b,h3.s⟩
 ·
  have Hm:=zh hm
  clear hm
  have hl:=h.lt
  have hnx:=next_any h
  rw [←hr] at hnx
  have Hn:=zh hnx
  have Hr:=zh hr
  clear hnx hr h
  go_enter Tryd.func14,Tryd.ntmps14
  go_wp2_with fail
  refine Hn.out.mono ?_
  rintro e w1 ⟨rfl,hb,hs⟩
  have hz1:=hs.size
  unfold rawC
  go_upto_region 2 with fail
  obtain ⟨R0,hR0⟩: ∃ R0,R0=w1.heap.size:=⟨_,rfl⟩
  have k0:(w1.alloc (.cells #[.int .i64 r.kind, .int .i64 r.a, .int .i64 r.b, .int .i64 r.c] 76)).cell? ⟨R0,0,none⟩=some (.int .i64 r.kind):=by rw [hR0,box_cell (Below.refl _ _)];rfl
  have k1:(w1.alloc (.cells #[.int .i64 r.kind, .int .i64 r.a, .int .i64 r.b, .int .i64 r.c] 76)).cell? ⟨R0,1,none⟩=some (.int .i64 r.a):=by rw [hR0,box_cell (Below.refl _ _)];rfl
  have k2:(w1.alloc (.cells #[.int .i64 r.kind, .int .i64 r.a, .int .i64 r.b, .int .i64 r.c] 76)).cell? ⟨R0,2,none⟩=some (.int .i64 r.b):=by rw [hR0,box_cell (Below.refl _ _)];rfl
  have k3:(w1.alloc (.cells #[.int .i64 r.kind, .int .i64 r.a, .int .i64 r.b, .int .i64 r.c] 76)).cell? ⟨R0,3,none⟩=some (.int .i64 r.c):=by rw [hR0,box_cell (Below.refl _ _)];rfl
  have hzR:R0<(w1.alloc (.cells #[.int .i64 r.kind, .int .i64 r.a, .int .i64 r.b, .int .i64 r.c] 76)).heap.size:=by rw [hR0];simp
  have hnR:R0≠bb:=by omega
  have hRb:bb<R0:=by omega
  have hb':=hb.new (Since.alloc (fun _=>False) w1 (.cells #[.int .i64 r.kind, .int .i64 r.a, .int .i64 r.b, .int .i64 r.c] 76))
  have hs':=hs.trans (Since.alloc (fun k=>k=bb) w1 (.cells #[.int .i64 r.kind, .int .i64 r.a, .int .i64 r.b, .int .i64 r.c] 76))
  rw [←hR0]
  generalize w1.alloc (.cells #[.int .i64 r.kind, .int .i64 r.a, .int .i64 r.b, .int .i64 r.c] 76)=w2 at *
  clear hb hs hR0
  have cl:=hb'.c1
  have cm:=hb'.c2
  have zf:=hb'.z
  rw [Hm.out] at cm
  go_wp2_with fail
  refine (picked_nat r.kind 24 _ i0 (by decide) (by decide)).mono ?_
  rintro e wp ⟨rfl,rfl⟩
  rw [Hk.out]
  go_wp2_with fail
  refine tGo hb' hs' [(R0,1, .int .i64 r.a),(R0,2, .int .i64 r.b)] ⟨k1,k2,trivial⟩ (by simp only [CZ,and_true];omega) 14 (fun wr1 h1=>?_)
  refine tRd 0 h1.c ?_
  refine tRd 1 h1.c ?_
  refine tRd 5 h1.c ?_
  refine tRd 6 h1.c ?_
  refine tRd 7 h1.c ?_
  refine tRd 8 h1.c ?_
  refine tRd 9 h1.c ?_
  refine tP1 2 (fun K hK=>?_)
  go_simp
  go_at_call 33
  refine ((truth2_said main).2 h1.b).mono ?_
  rintro e wr2 ⟨rfl,hb,hv⟩
  have h2:=h1.call hb hv
  clear hb hv
  refine tNx hK h2.c ?_
  clear hK K
  refine tRd 3 h2.c ?_
  refine tRd 4 h2.c ?_
  refine tP1 10 (fun K hK=>?_)
  go_simp
  go_at_call 7
  refine (picked_nat r.a 2 _ i1 (by decide) (by decide)).mono ?_
  rintro e wp ⟨rfl,rfl⟩
  rw [hq]
  refine tNx hK h2.c ?_
  clear hK K
  refine tRd 11 h2.c ?_
  refine tP1 12 (fun K hK=>?_)
  go_simp
  go_at_call 34
  try rw [show IntKind.i64.wrap (d:Int)=(d:Int) from IntWalk.i64_in _ (by omega)]
  try rw [show IntKind.i64.wrap (1+(q:Int))=1+(q:Int) from IntWalk.i64_in _ (by omega)]
  refine (block_at Hst.out ⟨by omega,by omega⟩ (nI:=1+(q:Int)) (1+q) (by omega) (by omega) h2.b).mono ?_
  rintro e wr3 ⟨rfl,hb,hv⟩
  have h3:=h2.call hb hv
  clear hb hv
  refine tNx hK h3.c ?_
  clear hK K
  refine tRd 13 h3.c ?_
  refine tP1 14 (fun K hK=>?_)
  go_simp
  refine tLast hK ?_
  clear hK K
  refine tFin ?_
  have hcs:=h3.c
  simp only [CS,and_true] at hcs
  obtain ⟨s1,s2⟩:=hcs
  go_wp2_with fail
  refine (picked_nat r.b 2 _ i2 (by decide) (by decide)).mono ?_
  rintro e wp ⟨rfl,rfl⟩
  rw [hu]
  go_wp2_with fail
  go_ret
  rw [HR.out]
  exact ⟨rfl,h3.b,h3.s⟩
 ·
  have n3:((kk:Int)==3)=false:=by rw [beq_eq_false_iff_ne];omega
  have n4:((kk:Int)==4)=false:=by rw [beq_eq_false_iff_ne];omega
  have n5:((kk:Int)==5)=false:=by rw [beq_eq_false_iff_ne];omega
  have n6:((kk:Int)==6)=false:=by rw [beq_eq_false_iff_ne];omega
  have n7:((kk:Int)==7)=false:=by rw [beq_eq_false_iff_ne];omega
  have n8:((kk:Int)==8)=false:=by rw [beq_eq_false_iff_ne];omega
  have n12:((kk:Int)==12)=false:=by rw [beq_eq_false_iff_ne];omega
  have n13:((kk:Int)==13)=false:=by rw [beq_eq_false_iff_ne];omega
  have f3: ¬(kk:Int)<3:=by omega
  have f12: ¬(kk:Int)<12:=by omega
  have hl:=h.lt
  have hnx:=next_any h
  rw [←hr] at hnx
  have Hn:=zh hnx
  have Hr:=zh hr
  clear hnx hr h
  go_enter Tryd.func14,Tryd.ntmps14
  go_wp2_with fail
  refine Hn.out.mono ?_
  rintro e w1 ⟨rfl,hb,hs⟩
  have hz1:=hs.size
  unfold rawC
  go_upto_region 2 with fail
  obtain ⟨R0,hR0⟩: ∃ R0,R0=w1.heap.size:=⟨_,rfl⟩
  have k0:(w1.alloc (.cells #[.int .i64 r.kind, .int .i64 r.a, .int .i64 r.b, .int .i64 r.c] 76)).cell? ⟨R0,0,none⟩=some (.int .i64 r.kind):=by rw [hR0,box_cell (Below.refl _ _)];rfl
  have k1:(w1.alloc (.cells #[.int .i64 r.kind, .int .i64 r.a, .int .i64 r.b, .int .i64 r.c] 76)).cell? ⟨R0,1,none⟩=some (.int .i64 r.a):=by rw [hR0,box_cell (Below.refl _ _)];rfl
  have k2:(w1.alloc (.cells #[.int .i64 r.kind, .int .i64 r.a, .int .i64 r.b, .int .i64 r.c] 76)).cell? ⟨R0,2,none⟩=some (.int .i64 r.b):=by rw [hR0,box_cell (Below.refl _ _)];rfl
  have k3:(w1.alloc (.cells #[.int .i64 r.kind, .int .i64 r.a, .int .i64 r.b, .int .i64 r.c] 76)).cell? ⟨R0,3,none⟩=some (.int .i64 r.c):=by rw [hR0,box_cell (Below.refl _ _)];rfl
  have hzR:R0<(w1.alloc (.cells #[.int .i64 r.kind, .int .i64 r.a, .int .i64 r.b, .int .i64 r.c] 76)).heap.size:=by rw [hR0];simp
  have hnR:R0≠bb:=by omega
  have hRb:bb<R0:=by omega
  have hb':=hb.new (Since.alloc (fun _=>False) w1 (.cells #[.int .i64 r.kind, .int .i64 r.a, .int .i64 r.b, .int .i64 r.c] 76))
  have hs':=hs.trans (Since.alloc (fun k=>k=bb) w1 (.cells #[.int .i64 r.kind, .int .i64 r.a, .int .i64 r.b, .int .i64 r.c] 76))
  rw [←hR0]
  generalize w1.alloc (.cells #[.int .i64 r.kind, .int .i64 r.a, .int .i64 r.b, .int .i64 r.c] 76)=w2 at *
  clear hb hs hR0
  have cl:=hb'.c1
  have cm:=hb'.c2
  have zf:=hb'.z
  go_wp2_with fail
  refine (picked_nat r.kind 24 _ i0 (by decide) (by decide)).mono ?_
  rintro e wp ⟨rfl,rfl⟩
  rw [Hk.out]
  go_wp2_with fail
  refine tGo hb' hs' [(R0,1, .int .i64 r.a),(R0,2, .int .i64 r.b)] ⟨k1,k2,trivial⟩ (by simp only [CZ,and_true];omega) 14 (fun wr1 h1=>?_)
  refine tRd 0 h1.c ?_
  refine tRd 1 h1.c ?_
  refine tRd 5 h1.c ?_
  refine tRd 6 h1.c ?_
  refine tRd 7 h1.c ?_
  refine tRd 8 h1.c ?_
  refine tRd 9 h1.c ?_
  refine tP1 2 (fun K hK=>?_)
  go_simp
  go_at_call 33
  refine ((truth2_said main).2 h1.b).mono ?_
  rintro e wr2 ⟨rfl,hb,hv⟩
  have h2:=h1.call hb hv
  clear hb hv
  refine tNx hK h2.c ?_
  clear hK K
  refine tRd 3 h2.c ?_
  refine tRd 4 h2.c ?_
  refine tP1 10 (fun K hK=>?_)
  go_simp
  go_at_call 7
  refine (picked_nat r.a 2 _ i1 (by decide) (by decide)).mono ?_
  rintro e wp ⟨rfl,rfl⟩
  rw [hq]
  refine tNx hK h2.c ?_
  clear hK K
  refine tRd 11 h2.c ?_
  refine tP1 12 (fun K hK=>?_)
  go_simp
  go_at_call 34
  try rw [show IntKind.i64.wrap (d:Int)=(d:Int) from IntWalk.i64_in _ (by omega)]
  try rw [show IntKind.i64.wrap (1+(q:Int))=1+(q:Int) from IntWalk.i64_in _ (by omega)]
  refine (block_at Hst.out ⟨by omega,by omega⟩ (nI:=1+(q:Int)) (1+q) (by omega) (by omega) h2.b).mono ?_
  rintro e wr3 ⟨rfl,hb,hv⟩
  have h3:=h2.call hb hv
  clear hb hv
  refine tNx hK h3.c ?_
  clear hK K
  refine tRd 13 h3.c ?_
  refine tP1 14 (fun K hK=>?_)
  go_simp
  refine tLast hK ?_
  clear hK K
  refine tFin ?_
  have hcs:=h3.c
  simp only [CS,and_true] at hcs
  obtain ⟨s1,s2⟩:=hcs
  go_wp2_with fail
  refine (picked_nat r.b 2 _ i2 (by decide) (by decide)).mono ?_
  rintro e wp ⟨rfl,rfl⟩
  rw [hu]
  go_wp2_with fail
  go_ret
  rw [HR.out]
  exact ⟨rfl,h3.b,h3.s⟩
end Go.Proofs.YtkopjgnjflhkeaaDoor

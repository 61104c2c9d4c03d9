import Derived.Test.YtkopjgnjflhkeaaDoorTN
namespace Go.Proofs.YtkopjgnjflhkeaaDoor
open Go.RowKit Go.Pst
set_option linter.unusedVariables false
set_option linter.unusedSimpArgs false
set_option maxRecDepth 100000 in
set_option maxHeartbeats 40000000 in
theorem stmt_switchA {main:Bool} {d:Nat} (hd:d≤5) {w:World} {bb B0:Nat} {l:List PRaw} {loops:Int} (hlo:0≤loops∧loops≤100) (hst:StmtSaid main d loops (stmtB main d (decide (0<loops)))) (hst2:StmtSaid main d (loops+1) (stmtB main d true)) (h:BardAt w bb B0 l loops main) (hk:DeepK main loops (pickN (firstB l).kind 24)) (hkk0:21≤pickN (firstB l).kind 24) (hz:pickN (firstB l).c 2=0):
 Calls Tryd.prog 14 #[.pointer (some ⟨bb,0,none⟩), .int .i64 ((d:Int)+1)] w (BardEnd w bb B0 loops main (stmtB main (d+1) (decide (0<loops)) l)):=by
 obtain ⟨i0,i1,i2,i3⟩:=firstB_in h
 obtain ⟨r,hr⟩: ∃ r,r=firstB l:=⟨_,rfl⟩
 rw [←hr] at i0 i1 i2 i3
 obtain ⟨q,hq⟩: ∃ q,pickN r.a 3=q:=⟨_,rfl⟩
 have qlt:q<3:=by rw [←hq];exact pickN_lt _ _ (by decide)
 have qI:(q:Int)<3:=by omega
 obtain ⟨u,hu⟩: ∃ u,pickN r.b 3=u:=⟨_,rfl⟩
 have ult:u<3:=by rw [←hu];exact pickN_lt _ _ (by decide)
 have uI:(u:Int)<3:=by omega
 obtain ⟨v,hv⟩: ∃ v,pickN r.c 2=v:=⟨_,rfl⟩
 have vlt:v<2:=by rw [←hv];exact pickN_lt _ _ (by decide)
 have vI:(v:Int)<2:=by omega
 have HR:=zh (show stmtB main (d+1) (decide (0<loops)) l=(((((((((((((((⟨#[115,119,105,116,99,104,32]⟩:ByteArray)++(numB main 1 l.tail).1)++(⟨#[32,123,10,99,97,115,101,32]⟩:ByteArray))++itoaB q)++(⟨#[44,32,45,49,58,32]⟩:ByteArray))++(blockB (stmtB main d (decide (0<loops))) 1 (numB main 1 l.tail).2).1)++(⟨#[10,99,97,115,101,32]⟩:ByteArray))++itoaB (3+u))++(⟨#[58,32]⟩:ByteArray))++(blockB (stmtB main d (decide (0<loops))) 1 (blockB (stmtB main d (decide (0<loops))) 1 (numB main 1 l.tail).2).2).1)++(⟨#[10]⟩:ByteArray))++(((⟨#[99,97,115,101,32,55,44,32,56,44,32,57,58,32]⟩:ByteArray)++(blockB (stmtB main d (decide (0<loops))) 1 (blockB (stmtB main d (decide (0<loops))) 1 (blockB (stmtB main d (decide (0<loops))) 1 (numB main 1 l.tail).2).2).2).1)++(⟨#[10]⟩:ByteArray)))++(⟨#[100,101,102,97,117,108,116,58,32]⟩:ByteArray))++(blockB (stmtB main d (decide (0<loops))) 1 (blockB (stmtB main d (decide (0<loops))) 1 (blockB (stmtB main d (decide (0<loops))) 1 (blockB (stmtB main d (decide (0<loops))) 1 (numB main 1 l.tail).2).2).2).2).1)++(⟨#[10,125]⟩:ByteArray),(blockB (stmtB main d (decide (0<loops))) 1 (blockB (stmtB main d (decide (0<loops))) 1 (blockB (stmtB main d (decide (0<loops))) 1 (blockB (stmtB main d (decide (0<loops))) 1 (numB main 1 l.tail).2).2).2).2).2) by rw [stmtB_succ hk,if_neg (by omega),if_neg (by omega),if_neg (by omega)];unfold switchB;dsimp only;rw [if_pos hz,←hr,hq,hu])
 rw [←hr,hv] at hz
 have z0:=itoaB_le q (by omega)
 have z00:=itoaB_le (3+u) (by omega)
 have z1:(numB main 1 l.tail).1.size≤1000:=(sizes_main main).1 _
 have z2:(blockB (stmtB main d (decide (0<loops))) 1 (numB main 1 l.tail).2).1.size≤300000:=Nat.le_trans (blockB_size hst.1 _ _) (by omega)
 have z3:(blockB (stmtB main d (decide (0<loops))) 1 (blockB (stmtB main d (decide (0<loops))) 1 (numB main 1 l.tail).2).2).1.size≤300000:=Nat.le_trans (blockB_size hst.1 _ _) (by omega)
 have z4:(blockB (stmtB main d (decide (0<loops))) 1 (blockB (stmtB main d (decide (0<loops))) 1 (blockB (stmtB main d (decide (0<loops))) 1 (numB main 1 l.tail).2).2).2).1.size≤300000:=Nat.le_trans (blockB_size hst.1 _ _) (by omega)
 have z5:(blockB (stmtB main d (decide (0<loops))) 1 (blockB (stmtB main d (decide (0<loops))) 1 (blockB (stmtB main d (decide (0<loops))) 1 (blockB (stmtB main d (decide (0<loops))) 1 (numB main 1 l.tail).2).2).2).2).1.size≤300000:=Nat.le_trans (blockB_size hst.1 _ _) (by omega)
 have hdI:(d:Int)≤5:=by omega
 have hnd: ¬((d:Int)+1≤0):=by omega
 have Hst:=zh hst
 have Hst2:=zh hst2
 clear hst hst2
 have h14:14≤pickN (firstB l).kind 24:=by unfold DeepK at hk;omega
 rw [←hr] at h14 hkk0
 clear hk
 obtain ⟨kk,hkk⟩: ∃ kk,pickN r.kind 24=kk:=⟨_,rfl⟩
 rw [hkk] at h14 hkk0
 have hk24:kk<24:=by rw [←hkk];exact pickN_lt _ _ (by decide)
 have Hk:=zh hkk
 clear hkk
 have n3:((kk:Int)==3)=false:=by rw [beq_eq_false_iff_ne];omega
 have n4:((kk:Int)==4)=false:=by rw [beq_eq_false_iff_ne];omega
 have n5:((kk:Int)==5)=false:=by rw [beq_eq_false_iff_ne];omega
 have n6:((kk:Int)==6)=false:=by rw [beq_eq_false_iff_ne];omega
 have n7:((kk:Int)==7)=false:=by rw [beq_eq_false_iff_ne];omega
 have n8:((kk:Int)==8)=false:=by rw [beq_eq_false_iff_ne];omega
 have n12:((kk:Int)==12)=false:=by rw [beq_eq_false_iff_ne];omega
 have n13:((kk:Int)==13)=false:=by rw [beq_eq_false_iff_ne];omega
 have f3: ¬(kk:Int)<3:=by omega
 have f12: ¬(kk:Int)<12:=by omega
 have f17: ¬(kk:Int)<17:=by omega
 have f20: ¬(kk:Int)<20:=by omega
 have e20:((kk:Int)==20)=false:=by rw [beq_eq_false_iff_ne];omega
 subst hz
 have hl:=h.lt
 have hnx:=next_any h
 rw [←hr] at hnx
 have Hn:=zh hnx
 have Hr:=zh hr
 clear hnx hr h
 go_enter Tryd.func14,Tryd.ntmps14
 go_wp2_with fail
 refine Hn.out.mono ?_
 rintro e w1 ⟨rfl,hb,hs⟩
 have hz1:=hs.size
 unfold rawC
 go_upto_region 2 with fail
 obtain ⟨R0,hR0⟩: ∃ R0,R0=w1.heap.size:=⟨_,rfl⟩
 have k0:(w1.alloc (.cells #[.int .i64 r.kind, .int .i64 r.a, .int .i64 r.b, .int .i64 r.c] 76)).cell? ⟨R0,0,none⟩=some (.int .i64 r.kind):=by rw [hR0,box_cell (Below.refl _ _)];rfl
 have k1:(w1.alloc (.cells #[.int .i64 r.kind, .int .i64 r.a, .int .i64 r.b, .int .i64 r.c] 76)).cell? ⟨R0,1,none⟩=some (.int .i64 r.a):=by rw [hR0,box_cell (Below.refl _ _)];rfl
 have k2:(w1.alloc (.cells #[.int .i64 r.kind, .int .i64 r.a, .int .i64 r.b, .int .i64 r.c] 76)).cell? ⟨R0,2,none⟩=some (.int .i64 r.b):=by rw [hR0,box_cell (Below.refl _ _)];rfl
 have k3:(w1.alloc (.cells #[.int .i64 r.kind, .int .i64 r.a, .int .i64 r.b, .int .i64 r.c] 76)).cell? ⟨R0,3,none⟩=some (.int .i64 r.c):=by rw [hR0,box_cell (Below.refl _ _)];rfl
 have hzR:R0<(w1.alloc (.cells #[.int .i64 r.kind, .int .i64 r.a, .int .i64 r.b, .int .i64 r.c] 76)).heap.size:=by rw [hR0];simp
 have hnR:R0≠bb:=by omega
 have hRb:bb<R0:=by omega
 have hb':=hb.new (Since.alloc (fun _=>False) w1 (.cells #[.int .i64 r.kind, .int .i64 r.a, .int .i64 r.b, .int .i64 r.c] 76))
 have hs':=hs.trans (Since.alloc (fun k=>k=bb) w1 (.cells #[.int .i64 r.kind, .int .i64 r.a, .int .i64 r.b, .int .i64 r.c] 76))
 rw [←hR0]
 generalize w1.alloc (.cells #[.int .i64 r.kind, .int .i64 r.a, .int .i64 r.b, .int .i64 r.c] 76)=w2 at *
 clear hb hs hR0
 have cl:=hb'.c1
 have cm:=hb'.c2
 have zf:=hb'.z
 go_wp2_with fail
 refine (picked_nat r.kind 24 _ i0 (by decide) (by decide)).mono ?_
 rintro e wp ⟨rfl,rfl⟩
 rw [Hk.out]
 go_wp2_with fail
 refine tGo hb' hs' [(R0,1, .int .i64 r.a),(R0,2, .int .i64 r.b),(R0,3, .int .i64 r.c)] ⟨k1,k2,k3,trivial⟩ (by simp only [CZ,and_true];omega) 29 (fun wr1 h1=>?_)
 refine tRd 0 h1.c ?_
 refine tRd 4 h1.c ?_
 refine tRd 5 h1.c ?_
 refine tRd 10 h1.c ?_
 refine tRd 11 h1.c ?_
 refine tRd 12 h1.c ?_
 refine tRd 16 h1.c ?_
 refine tRd 17 h1.c ?_
 refine tRd 23 h1.c ?_
 refine tRd 24 h1.c ?_
 refine tRd 25 h1.c ?_
 refine tP1 1 (fun K hK=>?_)
 go_simp
 go_at_call 30
 refine ((num1_said main).2 h1.b).mono ?_
 rintro e wr2 ⟨rfl,hb,hv⟩
 have h2:=h1.call hb hv
 clear hb hv
 refine tNx hK h2.c ?_
 clear hK K
 refine tRd 2 h2.c ?_
 refine tRd 3 h2.c ?_
 refine tP1 6 (fun K hK=>?_)
 go_simp
 go_at_call 7
 refine (picked_nat r.a 3 _ i1 (by decide) (by decide)).mono ?_
 rintro e wp ⟨rfl,rfl⟩
 rw [hq]
 refine tNx hK h2.c ?_
 clear hK K
 refine tP1 7 (fun K hK=>?_)
 go_simp
 go_at_call 19
 refine (itoa_at (q) rfl (by omega) h2.b.tab.1).mono ?_
 rintro e wr3 ⟨rfl,hq3⟩
 have h3:=h2.new hq3
 refine tNx hK h3.c ?_
 clear hK K
 refine tRd 8 h3.c ?_
 refine tRd 9 h3.c ?_
 refine tP1 13 (fun K hK=>?_)
 go_simp
 go_at_call 34
 try rw [show IntKind.i64.wrap (d:Int)=(d:Int) from IntWalk.i64_in _ (by omega)]
 refine (block_at Hst.out ⟨by omega,by omega⟩ 1 rfl (by decide) h3.b).mono ?_
 rintro e wr4 ⟨rfl,hb,hv⟩
 have h4:=h3.call hb hv
 clear hb hv
 refine tNx hK h4.c ?_
 clear hK K
 refine tRd 14 h4.c ?_
 refine tRd 15 h4.c ?_
 refine tP1 18 (fun K hK=>?_)
 go_simp
 go_at_call 7
 refine (picked_nat r.b 3 _ i2 (by decide) (by decide)).mono ?_
 rintro e wp ⟨rfl,rfl⟩
 rw [hu]
 refine tNx hK h4.c ?_
 clear hK K
 refine tRd 19 h4.c ?_
 refine tP1 20 (fun K hK=>?_)
 go_simp
 go_at_call 19
 try rw [show IntKind.i64.wrap (3+(u:Int))=3+(u:Int) from IntWalk.i64_in _ (by omega)]
 refine (itoa_at (nI:=3+(u:Int)) (3+u) (by omega) (by omega) h4.b.tab.1).mono ?_
 rintro e wr5 ⟨rfl,hq5⟩
 have h5:=h4.new hq5
 refine tNx hK h5.c ?_
 clear hK K
 refine tRd 21 h5.c ?_
 refine tRd 22 h5.c ?_
 refine tP1 26 (fun K hK=>?_)
 go_simp
 go_at_call 34
 try rw [show IntKind.i64.wrap (d:Int)=(d:Int) from IntWalk.i64_in _ (by omega)]
 refine (block_at Hst.out ⟨by omega,by omega⟩ 1 rfl (by decide) h5.b).mono ?_
 rintro e wr6 ⟨rfl,hb,hv⟩
 have h6:=h5.call hb hv
 clear hb hv
 refine tNx hK h6.c ?_
 clear hK K
 refine tRd 27 h6.c ?_
 refine tRd 28 h6.c ?_
 refine tP1 29 (fun K hK=>?_)
 go_simp
 refine tLast hK ?_
 clear hK K
 refine tFin ?_
 have hcs:=h6.c
 simp only [CS,and_true] at hcs
 obtain ⟨s1,s2,s3⟩:=hcs
 go_wp2_with fail
 refine (picked_nat r.c 2 _ i3 (by decide) (by decide)).mono ?_
 rintro e wp ⟨rfl,rfl⟩
 rw [hv]
 go_wp2_with fail
 try rw [show IntKind.i64.wrap (d:Int)=(d:Int) from IntWalk.i64_in _ (by omega)]
 refine (block_at Hst.out ⟨by omega,by omega⟩ 1 rfl (by decide) h6.b).mono ?_
 rintro e wy ⟨rfl,hby,hsy⟩
 go_wp2_with fail
 try rw [show IntKind.i64.wrap (d:Int)=(d:Int) from IntWalk.i64_in _ (by omega)]
 refine (block_at Hst.out ⟨by omega,by omega⟩ 1 rfl (by decide) hby).mono ?_
 rintro e wz ⟨rfl,hbz,hsz⟩
 go_wp2_with fail
 go_ret
 rw [HR.out]
 exact ⟨rfl,hbz,(h6.s.trans hsy).trans hsz⟩
set_option maxRecDepth 100000 in
set_option maxHeartbeats 40000000 in
theorem stmt_switchB {main:Bool} {d:Nat} (hd:d≤5) {w:World} {bb B0:Nat} {l:List PRaw} {loops:Int} (hlo:0≤loops∧loops≤100) (hst:StmtSaid main d loops (stmtB main d (decide (0<loops)))) (hst2:StmtSaid main d (loops+1) (stmtB main d true)) (h:BardAt w bb B0 l loops main) (hk:DeepK main loops (pickN (firstB l).kind 24)) (hkk0:21≤pickN (firstB l).kind 24) (hz: ¬pickN (firstB l).c 2=0):
 Calls Tryd.prog 14 #[.pointer (some ⟨bb,0,none⟩), .int .i64 ((d:Int)+1)] w (BardEnd w bb B0 loops main (stmtB main (d+1) (decide (0<loops)) l)):=by
 obtain ⟨i0,i1,i2,i3⟩:=firstB_in h
 obtain ⟨r,hr⟩: ∃ r,r=firstB l:=⟨_,rfl⟩
 rw [←hr] at i0 i1 i2 i3
 obtain ⟨q,hq⟩: ∃ q,pickN r.a 3=q:=⟨_,rfl⟩
 have qlt:q<3:=by rw [←hq];exact pickN_lt _ _ (by decide)
 have qI:(q:Int)<3:=by omega
 obtain ⟨u,hu⟩: ∃ u,pickN r.b 3=u:=⟨_,rfl⟩
 have ult:u<3:=by rw [←hu];exact pickN_lt _ _ (by decide)
 have uI:(u:Int)<3:=by omega
 obtain ⟨v,hv⟩: ∃ v,pickN r.c 2=v:=⟨_,rfl⟩
 have vlt:v<2:=by rw [←hv];exact pickN_lt _ _ (by decide)
 have vI:(v:Int)<2:=by omega
 have HR:=zh (show stmtB main (d+1) (decide (0<loops)) l=((((((((((((((⟨#[115,119,105,116,99,104,32]⟩:ByteArray)++(numB main 1 l.tail).1)++(⟨#[32,123,10,99,97,115,101,32]⟩:ByteArray))++itoaB q)++(⟨#[44,32,45,49,58,32]⟩:ByteArray))++(blockB (stmtB main d (decide (0<loops))) 1 (numB main 1 l.tail).2).1)++(⟨#[10,99,97,115,101,32]⟩:ByteArray))++itoaB (3+u))++(⟨#[58,32]⟩:ByteArray))++(blockB (stmtB main d (decide (0<loops))) 1 (blockB (stmtB main d (decide (0<loops))) 1 (numB main 1 l.tail).2).2).1)++(⟨#[10]⟩:ByteArray))++(⟨#[100,101,102,97,117,108,116,58,32]⟩:ByteArray))++(blockB (stmtB main d (decide (0<loops))) 1 (blockB (stmtB main d (decide (0<loops))) 1 (blockB (stmtB main d (decide (0<loops))) 1 (numB main 1 l.tail).2).2).2).1)++(⟨#[10,125]⟩:ByteArray),(blockB (stmtB main d (decide (0<loops))) 1 (blockB (stmtB main d (decide (0<loops))) 1 (blockB (stmtB main d (decide (0<loops))) 1 (numB main 1 l.tail).2).2).2).2) by rw [stmtB_succ hk,if_neg (by omega),if_neg (by omega),if_neg (by omega)];unfold switchB;dsimp only;rw [if_neg hz,←hr,hq,hu])
 rw [←hr,hv] at hz
 have z0:=itoaB_le q (by omega)
 have z00:=itoaB_le (3+u) (by omega)
 have z1:(numB main 1 l.tail).1.size≤1000:=(sizes_main main).1 _
 have z2:(blockB (stmtB main d (decide (0<loops))) 1 (numB main 1 l.tail).2).1.size≤300000:=Nat.le_trans (blockB_size hst.1 _ _) (by omega)
 have z3:(blockB (stmtB main d (decide (0<loops))) 1 (blockB (stmtB main d (decide (0<loops))) 1 (numB main 1 l.tail).2).2).1.size≤300000:=Nat.le_trans (blockB_size hst.1 _ _) (by omega)
 have z4:(blockB (stmtB main d (decide (0<loops))) 1 (blockB (stmtB main d (decide (0<loops))) 1 (blockB (stmtB main d (decide (0<loops))) 1 (numB main 1 l.tail).2).2).2).1.size≤300000:=Nat.le_trans (blockB_size hst.1 _ _) (by omega)
 have z5:(blockB (stmtB main d (decide (0<loops))) 1 (blockB (stmtB main d (decide (0<loops))) 1 (blockB (stmtB main d (decide (0<loops))) 1 (blockB (stmtB main d (decide (0<loops))) 1 (numB main 1 l.tail).2).2).2).2).1.size≤300000:=Nat.le_trans (blockB_size hst.1 _ _) (by omega)
 have hdI:(d:Int)≤5:=by omega
 have hnd: ¬((d:Int)+1≤0):=by omega
 have Hst:=zh hst
 have Hst2:=zh hst2
 clear hst hst2
 have h14:14≤pickN (firstB l).kind 24:=by unfold DeepK at hk;omega
 rw [←hr] at h14 hkk0
 clear hk
 obtain ⟨kk,hkk⟩: ∃ kk,pickN r.kind 24=kk:=⟨_,rfl⟩
 rw [hkk] at h14 hkk0
 have hk24:kk<24:=by rw [←hkk];exact pickN_lt _ _ (by decide)
 have Hk:=zh hkk
 clear hkk
 have n3:((kk:Int)==3)=false:=by rw [beq_eq_false_iff_ne];omega
 have n4:((kk:Int)==4)=false:=by rw [beq_eq_false_iff_ne];omega
 have n5:((kk:Int)==5)=false:=by rw [beq_eq_false_iff_ne];omega
 have n6:((kk:Int)==6)=false:=by rw [beq_eq_false_iff_ne];omega
 have n7:((kk:Int)==7)=false:=by rw [beq_eq_false_iff_ne];omega
 have n8:((kk:Int)==8)=false:=by rw [beq_eq_false_iff_ne];omega
 have n12:((kk:Int)==12)=false:=by rw [beq_eq_false_iff_ne];omega
 have n13:((kk:Int)==13)=false:=by rw [beq_eq_false_iff_ne];omega
 have f3: ¬(kk:Int)<3:=by omega
 have f12: ¬(kk:Int)<12:=by omega
 have f17: ¬(kk:Int)<17:=by omega
 have f20: ¬(kk:Int)<20:=by omega
 have e20:((kk:Int)==20)=false:=by rw [beq_eq_false_iff_ne];omega
 have hv0:((v:Int)==0)=false:=by rw [beq_eq_false_iff_ne];omega
 have hl:=h.lt
 have hnx:=next_any h
 rw [←hr] at hnx
 have Hn:=zh hnx
 have Hr:=zh hr
 clear hnx hr h
 go_enter Tryd.func14,Tryd.ntmps14
 go_wp2_with fail
 refine Hn.out.mono ?_
 rintro e w1 ⟨rfl,hb,hs⟩
 have hz1:=hs.size
 unfold rawC
 go_upto_region 2 with fail
 obtain ⟨R0,hR0⟩: ∃ R0,R0=w1.heap.size:=⟨_,rfl⟩
 have k0:(w1.alloc (.cells #[.int .i64 r.kind, .int .i64 r.a, .int .i64 r.b, .int .i64 r.c] 76)).cell? ⟨R0,0,none⟩=some (.int .i64 r.kind):=by rw [hR0,box_cell (Below.refl _ _)];rfl
 have k1:(w1.alloc (.cells #[.int .i64 r.kind, .int .i64 r.a, .int .i64 r.b, .int .i64 r.c] 76)).cell? ⟨R0,1,none⟩=some (.int .i64 r.a):=by rw [hR0,box_cell (Below.refl _ _)];rfl
 have k2:(w1.alloc (.cells #[.int .i64 r.kind, .int .i64 r.a, .int .i64 r.b, .int .i64 r.c] 76)).cell? ⟨R0,2,none⟩=some (.int .i64 r.b):=by rw [hR0,box_cell (Below.refl _ _)];rfl
 have k3:(w1.alloc (.cells #[.int .i64 r.kind, .int .i64 r.a, .int .i64 r.b, .int .i64 r.c] 76)).cell? ⟨R0,3,none⟩=some (.int .i64 r.c):=by rw [hR0,box_cell (Below.refl _ _)];rfl
 have hzR:R0<(w1.alloc (.cells #[.int .i64 r.kind, .int .i64 r.a, .int .i64 r.b, .int .i64 r.c] 76)).heap.size:=by rw [hR0];simp
 have hnR:R0≠bb:=by omega
 have hRb:bb<R0:=by omega
 have hb':=hb.new (Since.alloc (fun _=>False) w1 (.cells #[.int .i64 r.kind, .int .i64 r.a, .int .i64 r.b, .int .i64 r.c] 76))
 have hs':=hs.trans (Since.alloc (fun k=>k=bb) w1 (.cells #[.int .i64 r.kind, .int .i64 r.a, .int .i64 r.b, .int .i64 r.c] 76))
 rw [←hR0]
 generalize w1.alloc (.cells #[.int .i64 r.kind, .int .i64 r.a, .int .i64 r.b, .int .i64 r.c] 76)=w2 at *
 clear hb hs hR0
 have cl:=hb'.c1
 have cm:=hb'.c2
 have zf:=hb'.z
 go_wp2_with fail
 refine (picked_nat r.kind 24 _ i0 (by decide) (by decide)).mono ?_
 rintro e wp ⟨rfl,rfl⟩
 rw [Hk.out]
 go_wp2_with fail
 refine tGo hb' hs' [(R0,1, .int .i64 r.a),(R0,2, .int .i64 r.b),(R0,3, .int .i64 r.c)] ⟨k1,k2,k3,trivial⟩ (by simp only [CZ,and_true];omega) 29 (fun wr1 h1=>?_)
 refine tRd 0 h1.c ?_
 refine tRd 4 h1.c ?_
 refine tRd 5 h1.c ?_
 refine tRd 10 h1.c ?_
 refine tRd 11 h1.c ?_
 refine tRd 12 h1.c ?_
 refine tRd 16 h1.c ?_
 refine tRd 17 h1.c ?_
 refine tRd 23 h1.c ?_
 refine tRd 24 h1.c ?_
 refine tRd 25 h1.c ?_
 refine tP1 1 (fun K hK=>?_)
 go_simp
 go_at_call 30
 refine ((num1_said main).2 h1.b).mono ?_
 rintro e wr2 ⟨rfl,hb,hv⟩
 have h2:=h1.call hb hv
 clear hb hv
 refine tNx hK h2.c ?_
 clear hK K
 refine tRd 2 h2.c ?_
 refine tRd 3 h2.c ?_
 refine tP1 6 (fun K hK=>?_)
 go_simp
 go_at_call 7
 refine (picked_nat r.a 3 _ i1 (by decide) (by decide)).mono ?_
 rintro e wp ⟨rfl,rfl⟩
 rw [hq]
 refine tNx hK h2.c ?_
 clear hK K
 refine tP1 7 (fun K hK=>?_)
 go_simp
 go_at_call 19
 refine (itoa_at (q) rfl (by omega) h2.b.tab.1).mono ?_
 rintro e wr3 ⟨rfl,hq3⟩
 have h3:=h2.new hq3
 refine tNx hK h3.c ?_
 clear hK K
 refine tRd 8 h3.c ?_
 refine tRd 9 h3.c ?_
 refine tP1 13 (fun K hK=>?_)
 go_simp
 go_at_call 34
 try rw [show IntKind.i64.wrap (d:Int)=(d:Int) from IntWalk.i64_in _ (by omega)]
 refine (block_at Hst.out ⟨by omega,by omega⟩ 1 rfl (by decide) h3.b).mono ?_
 rintro e wr4 ⟨rfl,hb,hv⟩
 have h4:=h3.call hb hv
 clear hb hv
 refine tNx hK h4.c ?_
 clear hK K
 refine tRd 14 h4.c ?_
 refine tRd 15 h4.c ?_
 refine tP1 18 (fun K hK=>?_)
 go_simp
 go_at_call 7
 refine (picked_nat r.b 3 _ i2 (by decide) (by decide)).mono ?_
 rintro e wp ⟨rfl,rfl⟩
 rw [hu]
 refine tNx hK h4.c ?_
 clear hK K
 refine tRd 19 h4.c ?_
 refine tP1 20 (fun K hK=>?_)
 go_simp
 go_at_call 19
 try rw [show IntKind.i64.wrap (3+(u:Int))=3+(u:Int) from IntWalk.i64_in _ (by omega)]
 refine (itoa_at (nI:=3+(u:Int)) (3+u) (by omega) (by omega) h4.b.tab.1).mono ?_
 rintro e wr5 ⟨rfl,hq5⟩
 have h5:=h4.new hq5
 refine tNx hK h5.c ?_
 clear hK K
 refine tRd 21 h5.c ?_
 refine tRd 22 h5.c ?_
 refine tP1 26 (fun K hK=>?_)
 go_simp
 go_at_call 34
 try rw [show IntKind.i64.wrap (d:Int)=(d:Int) from IntWalk.i64_in _ (by omega)]
 refine (block_at Hst.out ⟨by omega,by omega⟩ 1 rfl (by decide) h5.b).mono ?_
 rintro e wr6 ⟨rfl,hb,hv⟩
 have h6:=h5.call hb hv
 clear hb hv
 refine tNx hK h6.c ?_
 clear hK K
 refine tRd 27 h6.c ?_
 refine tRd 28 h6.c ?_
 refine tP1 29 (fun K hK=>?_)
 go_simp
 refine tLast hK ?_
 clear hK K
 refine tFin ?_
 have hcs:=h6.c
 simp only [CS,and_true] at hcs
 obtain ⟨s1,s2,s3⟩:=hcs
 go_wp2_with fail
 refine (picked_nat r.c 2 _ i3 (by decide) (by decide)).mono ?_
 rintro e wp ⟨rfl,rfl⟩
 rw [hv]
 go_wp2_with fail
 try rw [show IntKind.i64.wrap (d:Int)=(d:Int) from IntWalk.i64_in _ (by omega)]
 refine (block_at Hst.out ⟨by omega,by omega⟩ 1 rfl (by decide) h6.b).mono ?_
 rintro e wz ⟨rfl,hbz,hsz⟩
 go_wp2_with fail
 go_ret
 rw [HR.out]
 exact ⟨rfl,hbz,h6.s.trans hsz⟩
end Go.Proofs.YtkopjgnjflhkeaaDoor

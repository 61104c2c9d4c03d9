import Derived.Test.YtkopjgnjflhkeaaDoorTL
namespace Go.Proofs.YtkopjgnjflhkeaaDoor
open Go.RowKit Go.Pst
set_option linter.unusedVariables false
set_option linter.unusedSimpArgs false
theorem block_at {main:Bool} {d loops:Int} {st:BD} (hst:StmtSaid main d loops st) (hd: -5≤d∧d≤10) {nI:Int} (n:Nat) (hnI:nI=(n:Int)) (hn:n≤2) {w:World} {bb B0:Nat} {l:List PRaw} (h:BardAt w bb B0 l loops main):
 Calls Tryd.prog 34 #[.pointer (some ⟨bb,0,none⟩), .int .i64 d, .int .i64 nI] w (BardEnd w bb B0 loops main (blockB st n l)):=by
 subst hnI
 exact block_any hst hd n hn h
def DeepK (main:Bool) (loops:Int) (k:Nat):Prop:=(k=12∧ ¬0<loops)∨(k=13∧main=false)∨14≤k
theorem plainB_none {main:Bool} {loops:Int} {l:List PRaw} (h:DeepK main loops (pickN (firstB l).kind 24)):plainB main (decide (0<loops)) (firstB l) l.tail=none:=by
 rw [plainB_eq]
 rcases h with ⟨h,h2⟩|⟨h,h2⟩|h
 ·
  rw [h];simp [h2]
 ·
  rw [h,h2];simp
 ·
  rw [if_neg (by omega),if_neg (by omega),if_neg (by omega),if_neg (by omega),if_neg (by omega),if_neg (by omega),if_neg (by omega),if_neg (by omega),if_neg (by omega),if_neg (by omega)]
theorem stmtB_zero {main:Bool} {loops:Int} {l:List PRaw} (h:DeepK main loops (pickN (firstB l).kind 24)):stmtB main 0 (decide (0<loops)) l=(lastB (firstB l),l.tail):=by
 unfold stmtB
 rw [plainB_none h]
theorem stmtB_succ {main:Bool} {d:Nat} {loops:Int} {l:List PRaw} (h:DeepK main loops (pickN (firstB l).kind 24)):stmtB main (d+1) (decide (0<loops)) l=
 if pickN (firstB l).kind 24<17 then ifB main (stmtB main d (decide (0<loops))) (firstB l) l.tail
 else if pickN (firstB l).kind 24<20 then rangeB (stmtB main d true) (firstB l) l.tail
 else if pickN (firstB l).kind 24=20 then whileB (stmtB main d true) (firstB l) l.tail
 else switchB main (stmtB main d (decide (0<loops))) (firstB l) l.tail:=by
 conv=>lhs;unfold stmtB
 rw [plainB_none h]
theorem itoa_at {nI:Int} (n:Nat) (h:nI=(n:Int)) {w:World} (hn:n<300) (hT:TabOK w):Calls Tryd.prog 19 #[.int .i64 nI] w fun e w'=>e= .returned (.string (itoaB n))∧Since (fun _=>False) w w':=by
 subst h
 exact itoa_here n hn hT
end Go.Proofs.YtkopjgnjflhkeaaDoor
namespace Go.Proofs.YtkopjgnjflhkeaaDoor
open Go.RowKit Go.Pst
set_option linter.unusedVariables false
set_option linter.unusedSimpArgs false
set_option maxRecDepth 100000 in
set_option maxHeartbeats 40000000 in
theorem stmt_range {main:Bool} {d:Nat} (hd:d≤5) {w:World} {bb B0:Nat} {l:List PRaw} {loops:Int} (hlo:0≤loops∧loops≤100) (hst:StmtSaid main d loops (stmtB main d (decide (0<loops)))) (hst2:StmtSaid main d (loops+1) (stmtB main d true)) (h:BardAt w bb B0 l loops main) (hk:DeepK main loops (pickN (firstB l).kind 24)) (hkk0:17≤pickN (firstB l).kind 24∧pickN (firstB l).kind 24<20):
 Calls Tryd.prog 14 #[.pointer (some ⟨bb,0,none⟩), .int .i64 ((d:Int)+1)] w (BardEnd w bb B0 loops main (stmtB main (d+1) (decide (0<loops)) l)):=by
 obtain ⟨i0,i1,i2,i3⟩:=firstB_in h
 obtain ⟨r,hr⟩: ∃ r,r=firstB l:=⟨_,rfl⟩
 rw [←hr] at i0 i1 i2 i3
 obtain ⟨q,hq⟩: ∃ q,pickN r.a 5=q:=⟨_,rfl⟩
 have qlt:q<5:=by rw [←hq];exact pickN_lt _ _ (by decide)
 have qI:(q:Int)<5:=by omega
 obtain ⟨u,hu⟩: ∃ u,pickN r.b 5=u:=⟨_,rfl⟩
 have ult:u<5:=by rw [←hu];exact pickN_lt _ _ (by decide)
 have uI:(u:Int)<5:=by omega
 obtain ⟨v,hv⟩: ∃ v,pickN r.c 2=v:=⟨_,rfl⟩
 have vlt:v<2:=by rw [←hv];exact pickN_lt _ _ (by decide)
 have vI:(v:Int)<2:=by omega
 have HR:=zh (show stmtB main (d+1) (decide (0<loops)) l=((((((⟨#[102,111,114,32,105,44,32,106,32,58,61,32,114,97,110,103,101,32]⟩:ByteArray)++pickS [itoaB u,(⟨#[115]⟩:ByteArray),(⟨#[108]⟩:ByteArray),(⟨#[109]⟩:ByteArray),(textB 1 l.tail).1] r.a)++(⟨#[32]⟩:ByteArray))++(blockB (stmtB main d true) (1+v) (textB 1 l.tail).2).1)++(⟨#[10]⟩:ByteArray)),(blockB (stmtB main d true) (1+v) (textB 1 l.tail).2).2) by rw [stmtB_succ hk,if_neg (by omega),if_pos hkk0.2,←hr];unfold rangeB;dsimp only;rw [hu,hv])
 have z1:(textB 1 l.tail).1.size≤1000:=Nat.le_trans (textB_size 1 _) (by decide)
 have z2:(blockB (stmtB main d true) (1+v) (textB 1 l.tail).2).1.size≤300000:=Nat.le_trans (blockB_size hst2.1 _ _) (by omega)
 have z0:=itoaB_le u (by omega)
 have y1:=pickS_le [itoaB u,(⟨#[115]⟩:ByteArray),(⟨#[108]⟩:ByteArray),(⟨#[109]⟩:ByteArray),(textB 1 l.tail).1] r.a 1000 (by intro x hx;simp only [List.mem_cons,List.not_mem_nil,or_false] at hx;rcases hx with rfl|rfl|rfl|rfl|rfl<;>first|omega|decide)
 have hdI:(d:Int)≤5:=by omega
 have hnd: ¬((d:Int)+1≤0):=by omega
 have Hst:=zh hst
 have Hst2:=zh hst2
 clear hst hst2
 have h14:14≤pickN (firstB l).kind 24:=by unfold DeepK at hk;omega
 rw [←hr] at h14 hkk0
 clear hk
 obtain ⟨kk,hkk⟩: ∃ kk,pickN r.kind 24=kk:=⟨_,rfl⟩
 rw [hkk] at h14 hkk0
 have hk24:kk<24:=by rw [←hkk];exact pickN_lt _ _ (by decide)
 have Hk:=zh hkk
 clear hkk
 have n3:((kk:Int)==3)=false:=by rw [beq_eq_false_iff_ne];omega
 have n4:((kk:Int)==4)=false:=by rw [beq_eq_false_iff_ne];omega
 have n5:((kk:Int)==5)=false:=by rw [beq_eq_false_iff_ne];omega
 have n6:((kk:Int)==6)=false:=by rw [beq_eq_false_iff_ne];omega
 have n7:((kk:Int)==7)=false:=by rw [beq_eq_false_iff_ne];omega
 have n8:((kk:Int)==8)=false:=by rw [beq_eq_false_iff_ne];omega
 have n12:((kk:Int)==12)=false:=by rw [beq_eq_false_iff_ne];omega
 have n13:((kk:Int)==13)=false:=by rw [beq_eq_false_iff_ne];omega
 have f3: ¬(kk:Int)<3:=by omega
 have f12: ¬(kk:Int)<12:=by omega
 have f17: ¬(kk:Int)<17:=by omega
 have f20:(kk:Int)<20:=by omega
 have hl:=h.lt
 have hnx:=next_any h
 rw [←hr] at hnx
 have Hn:=zh hnx
 have Hr:=zh hr
 clear hnx hr h
 go_enter Tryd.func14,Tryd.ntmps14
 go_wp2_with fail
 refine Hn.out.mono ?_
 rintro e w1 ⟨rfl,hb,hs⟩
 have hz1:=hs.size
 unfold rawC
 go_upto_region 2 with fail
 obtain ⟨R0,hR0⟩: ∃ R0,R0=w1.heap.size:=⟨_,rfl⟩
 have k0:(w1.alloc (.cells #[.int .i64 r.kind, .int .i64 r.a, .int .i64 r.b, .int .i64 r.c] 76)).cell? ⟨R0,0,none⟩=some (.int .i64 r.kind):=by rw [hR0,box_cell (Below.refl _ _)];rfl
 have k1:(w1.alloc (.cells #[.int .i64 r.kind, .int .i64 r.a, .int .i64 r.b, .int .i64 r.c] 76)).cell? ⟨R0,1,none⟩=some (.int .i64 r.a):=by rw [hR0,box_cell (Below.refl _ _)];rfl
 have k2:(w1.alloc (.cells #[.int .i64 r.kind, .int .i64 r.a, .int .i64 r.b, .int .i64 r.c] 76)).cell? ⟨R0,2,none⟩=some (.int .i64 r.b):=by rw [hR0,box_cell (Below.refl _ _)];rfl
 have k3:(w1.alloc (.cells #[.int .i64 r.kind, .int .i64 r.a, .int .i64 r.b, .int .i64 r.c] 76)).cell? ⟨R0,3,none⟩=some (.int .i64 r.c):=by rw [hR0,box_cell (Below.refl _ _)];rfl
 have hzR:R0<(w1.alloc (.cells #[.int .i64 r.kind, .int .i64 r.a, .int .i64 r.b, .int .i64 r.c] 76)).heap.size:=by rw [hR0];simp
 have hnR:R0≠bb:=by omega
 have hRb:bb<R0:=by omega
 have hb':=hb.new (Since.alloc (fun _=>False) w1 (.cells #[.int .i64 r.kind, .int .i64 r.a, .int .i64 r.b, .int .i64 r.c] 76))
 have hs':=hs.trans (Since.alloc (fun k=>k=bb) w1 (.cells #[.int .i64 r.kind, .int .i64 r.a, .int .i64 r.b, .int .i64 r.c] 76))
 rw [←hR0]
 generalize w1.alloc (.cells #[.int .i64 r.kind, .int .i64 r.a, .int .i64 r.b, .int .i64 r.c] 76)=w2 at *
 clear hb hs hR0
 have cl:=hb'.c1
 have cm:=hb'.c2
 have zf:=hb'.z
 go_wp2_with fail
 refine (picked_nat r.kind 24 _ i0 (by decide) (by decide)).mono ?_
 rintro e wp ⟨rfl,rfl⟩
 rw [Hk.out]
 go_wp2_with fail
 refine tGo hb' hs' [(R0,1, .int .i64 r.a),(R0,2, .int .i64 r.b),(R0,3, .int .i64 r.c)] ⟨k1,k2,k3,trivial⟩ (by simp only [CZ,and_true];omega) 12 (fun wr1 h1=>?_)
 refine tRd 0 h1.c ?_
 refine tRd 1 h1.c ?_
 refine tRd 4 h1.c ?_
 refine tRd 7 h1.c ?_
 refine tRd 8 h1.c ?_
 refine tP1 2 (fun K hK=>?_)
 go_simp
 go_at_call 7
 refine (picked_nat r.b 5 _ i2 (by decide) (by decide)).mono ?_
 rintro e wp ⟨rfl,rfl⟩
 rw [hu]
 refine tNx hK h1.c ?_
 clear hK K
 refine tP1 3 (fun K hK=>?_)
 go_simp
 go_at_call 19
 refine (itoa_at (u) rfl (by omega) h1.b.tab.1).mono ?_
 rintro e wr2 ⟨rfl,hq2⟩
 have h2:=h1.new hq2
 refine tNx hK h2.c ?_
 clear hK K
 refine tP1 5 (fun K hK=>?_)
 go_simp
 go_at_call 31
 refine (text1_any h2.b).mono ?_
 rintro e wr3 ⟨rfl,hb,hv⟩
 have h3:=h2.call hb hv
 clear hb hv
 refine tNx hK h3.c ?_
 clear hK K
 refine tP2 6 9 (fun K hK=>?_) (fun K hK=>?_)
 ·
  go_simp
  obtain ⟨g,hg⟩: ∃ g,g=wr3.heap.size:=⟨_,rfl⟩
  rw [←hg]
  revert g
  refine tRow hK h3 [itoaB u,(⟨#[115]⟩:ByteArray),(⟨#[108]⟩:ByteArray),(⟨#[109]⟩:ByteArray),(textB 1 l.tail).1] r.a hq (fun g4 wr4 h4=>?_)
  clear hK K
  refine tP1 9 (fun K hK=>?_)
  go_simp
  go_at_call 7
  refine (picked_nat r.a 5 _ i1 (by decide) (by decide)).mono ?_
  rintro e wp ⟨rfl,rfl⟩
  rw [hq]
  refine tNx hK h4.c ?_
  clear hK K
  refine tRd 10 h4.c ?_
  refine tRd 11 h4.c ?_
  refine tP1 12 (fun K hK=>?_)
  go_simp
  refine tLast hK ?_
  clear hK K
  refine tFin ?_
  have hcs:=h4.c
  simp only [CS,and_true] at hcs
  obtain ⟨s4,s1,s2,s3⟩:=hcs
  have cl0:=h4.b.c1
  have zf0:=h4.b.z
  have hbs0:=h4.b.setN (n:=loops+1)
  have hss0:=h4.s.trans (Since.setCell wr4 ⟨bb,1,none⟩ (.int .i64 (loops+1)))
  have hnb:bb≠R0:=by omega
  obtain ⟨hlo1,hlo2⟩:=hlo
  have hlbb:=h4.b.lt.2
  go_wp2_with fail
  refine (picked_nat r.c 2 _ i3 (by decide) (by decide)).mono ?_
  rintro e wp ⟨rfl,rfl⟩
  rw [hv]
  go_wp2_with fail
  try rw [show IntKind.i64.wrap (d:Int)=(d:Int) from IntWalk.i64_in _ (by omega)]
  try rw [show IntKind.i64.wrap (1+(v:Int))=1+(v:Int) from IntWalk.i64_in _ (by omega)]
  refine (block_at Hst2.out ⟨by omega,by omega⟩ (nI:=1+(v:Int)) (1+v) (by omega) (by omega) hbs0).mono ?_
  rintro e wz ⟨rfl,hbz,hsz⟩
  have clz:=hbz.c1
  have zfz:=hbz.z
  have hbe:=hbz.setN (n:=loops)
  have hse:=(hss0.trans hsz).trans (Since.setCell wz ⟨bb,1,none⟩ (.int .i64 loops))
  go_wp2_with fail
  go_ret
  rw [HR.out]
  exact ⟨rfl,hbe,hse⟩
 ·
  go_simp
  go_at_call 7
  refine (picked_nat r.a 5 _ i1 (by decide) (by decide)).mono ?_
  rintro e wp ⟨rfl,rfl⟩
  rw [hq]
  refine tNx hK h3.c ?_
  clear hK K
  refine tP1 6 (fun K hK=>?_)
  go_simp
  obtain ⟨g,hg⟩: ∃ g,g=wr3.heap.size:=⟨_,rfl⟩
  rw [←hg]
  revert g
  refine tRow hK h3 [itoaB u,(⟨#[115]⟩:ByteArray),(⟨#[108]⟩:ByteArray),(⟨#[109]⟩:ByteArray),(textB 1 l.tail).1] r.a hq (fun g5 wr5 h5=>?_)
  clear hK K
  refine tRd 10 h5.c ?_
  refine tRd 11 h5.c ?_
  refine tP1 12 (fun K hK=>?_)
  go_simp
  refine tLast hK ?_
  clear hK K
  refine tFin ?_
  have hcs:=h5.c
  simp only [CS,and_true] at hcs
  obtain ⟨s4,s1,s2,s3⟩:=hcs
  have cl0:=h5.b.c1
  have zf0:=h5.b.z
  have hbs0:=h5.b.setN (n:=loops+1)
  have hss0:=h5.s.trans (Since.setCell wr5 ⟨bb,1,none⟩ (.int .i64 (loops+1)))
  have hnb:bb≠R0:=by omega
  obtain ⟨hlo1,hlo2⟩:=hlo
  have hlbb:=h5.b.lt.2
  go_wp2_with fail
  refine (picked_nat r.c 2 _ i3 (by decide) (by decide)).mono ?_
  rintro e wp ⟨rfl,rfl⟩
  rw [hv]
  go_wp2_with fail
  try rw [show IntKind.i64.wrap (d:Int)=(d:Int) from IntWalk.i64_in _ (by omega)]
  try rw [show IntKind.i64.wrap (1+(v:Int))=1+(v:Int) from IntWalk.i64_in _ (by omega)]
  refine (block_at Hst2.out ⟨by omega,by omega⟩ (nI:=1+(v:Int)) (1+v) (by omega) (by omega) hbs0).mono ?_
  rintro e wz ⟨rfl,hbz,hsz⟩
  have clz:=hbz.c1
  have zfz:=hbz.z
  have hbe:=hbz.setN (n:=loops)
  have hse:=(hss0.trans hsz).trans (Since.setCell wz ⟨bb,1,none⟩ (.int .i64 loops))
  go_wp2_with fail
  go_ret
  rw [HR.out]
  exact ⟨rfl,hbe,hse⟩
set_option maxRecDepth 100000 in
set_option maxHeartbeats 40000000 in
theorem stmt_while {main:Bool} {d:Nat} (hd:d≤5) {w:World} {bb B0:Nat} {l:List PRaw} {loops:Int} (hlo:0≤loops∧loops≤100) (hst:StmtSaid main d loops (stmtB main d (decide (0<loops)))) (hst2:StmtSaid main d (loops+1) (stmtB main d true)) (h:BardAt w bb B0 l loops main) (hk:DeepK main loops (pickN (firstB l).kind 24)) (hkk0:pickN (firstB l).kind 24=20):
 Calls Tryd.prog 14 #[.pointer (some ⟨bb,0,none⟩), .int .i64 ((d:Int)+1)] w (BardEnd w bb B0 loops main (stmtB main (d+1) (decide (0<loops)) l)):=by
 obtain ⟨i0,i1,i2,i3⟩:=firstB_in h
 obtain ⟨r,hr⟩: ∃ r,r=firstB l:=⟨_,rfl⟩
 rw [←hr] at i0 i1 i2 i3
 obtain ⟨u,hu⟩: ∃ u,pickN r.a 4=u:=⟨_,rfl⟩
 have ult:u<4:=by rw [←hu];exact pickN_lt _ _ (by decide)
 have uI:(u:Int)<4:=by omega
 have HR:=zh (show stmtB main (d+1) (decide (0<loops)) l=(((⟨#[105,102,32,116,114,117,101,32,123,10]⟩:ByteArray)++(((((⟨#[110,32,58,61,32,48,10,102,111,114,32,110,32,60,32]⟩:ByteArray)++itoaB (1+u))++(⟨#[32,123,10,110,32,61,32,110,32,43,32,49,10]⟩:ByteArray))++((stmtB main d true) l.tail).1)++(⟨#[10,125]⟩:ByteArray)))++(⟨#[10,125]⟩:ByteArray),((stmtB main d true) l.tail).2) by rw [stmtB_succ hk,if_neg (by omega),if_neg (by omega),if_pos hkk0,←hr];unfold whileB;rw [hu])
 have z0:=itoaB_le (1+u) (by omega)
 have z1:((stmtB main d true) l.tail).1.size≤100000:=hst2.1 _
 have hdI:(d:Int)≤5:=by omega
 have hnd: ¬((d:Int)+1≤0):=by omega
 have Hst:=zh hst
 have Hst2:=zh hst2
 clear hst hst2
 have h14:14≤pickN (firstB l).kind 24:=by unfold DeepK at hk;omega
 rw [←hr] at h14 hkk0
 clear hk
 obtain ⟨kk,hkk⟩: ∃ kk,pickN r.kind 24=kk:=⟨_,rfl⟩
 rw [hkk] at h14 hkk0
 have hk24:kk<24:=by rw [←hkk];exact pickN_lt _ _ (by decide)
 have Hk:=zh hkk
 clear hkk
 have n3:((kk:Int)==3)=false:=by rw [beq_eq_false_iff_ne];omega
 have n4:((kk:Int)==4)=false:=by rw [beq_eq_false_iff_ne];omega
 have n5:((kk:Int)==5)=false:=by rw [beq_eq_false_iff_ne];omega
 have n6:((kk:Int)==6)=false:=by rw [beq_eq_false_iff_ne];omega
 have n7:((kk:Int)==7)=false:=by rw [beq_eq_false_iff_ne];omega
 have n8:((kk:Int)==8)=false:=by rw [beq_eq_false_iff_ne];omega
 have n12:((kk:Int)==12)=false:=by rw [beq_eq_false_iff_ne];omega
 have n13:((kk:Int)==13)=false:=by rw [beq_eq_false_iff_ne];omega
 have f3: ¬(kk:Int)<3:=by omega
 have f12: ¬(kk:Int)<12:=by omega
 have f17: ¬(kk:Int)<17:=by omega
 have f20: ¬(kk:Int)<20:=by omega
 have e20:((kk:Int)==20)=true:=by rw [beq_iff_eq];omega
 have hl:=h.lt
 have hnx:=next_any h
 rw [←hr] at hnx
 have Hn:=zh hnx
 have Hr:=zh hr
 clear hnx hr h
 go_enter Tryd.func14,Tryd.ntmps14
 go_wp2_with fail
 refine Hn.out.mono ?_
 rintro e w1 ⟨rfl,hb,hs⟩
 have hz1:=hs.size
 unfold rawC
 go_upto_region 2 with fail
 obtain ⟨R0,hR0⟩: ∃ R0,R0=w1.heap.size:=⟨_,rfl⟩
 have k0:(w1.alloc (.cells #[.int .i64 r.kind, .int .i64 r.a, .int .i64 r.b, .int .i64 r.c] 76)).cell? ⟨R0,0,none⟩=some (.int .i64 r.kind):=by rw [hR0,box_cell (Below.refl _ _)];rfl
 have k1:(w1.alloc (.cells #[.int .i64 r.kind, .int .i64 r.a, .int .i64 r.b, .int .i64 r.c] 76)).cell? ⟨R0,1,none⟩=some (.int .i64 r.a):=by rw [hR0,box_cell (Below.refl _ _)];rfl
 have k2:(w1.alloc (.cells #[.int .i64 r.kind, .int .i64 r.a, .int .i64 r.b, .int .i64 r.c] 76)).cell? ⟨R0,2,none⟩=some (.int .i64 r.b):=by rw [hR0,box_cell (Below.refl _ _)];rfl
 have k3:(w1.alloc (.cells #[.int .i64 r.kind, .int .i64 r.a, .int .i64 r.b, .int .i64 r.c] 76)).cell? ⟨R0,3,none⟩=some (.int .i64 r.c):=by rw [hR0,box_cell (Below.refl _ _)];rfl
 have hzR:R0<(w1.alloc (.cells #[.int .i64 r.kind, .int .i64 r.a, .int .i64 r.b, .int .i64 r.c] 76)).heap.size:=by rw [hR0];simp
 have hnR:R0≠bb:=by omega
 have hRb:bb<R0:=by omega
 have hb':=hb.new (Since.alloc (fun _=>False) w1 (.cells #[.int .i64 r.kind, .int .i64 r.a, .int .i64 r.b, .int .i64 r.c] 76))
 have hs':=hs.trans (Since.alloc (fun k=>k=bb) w1 (.cells #[.int .i64 r.kind, .int .i64 r.a, .int .i64 r.b, .int .i64 r.c] 76))
 rw [←hR0]
 generalize w1.alloc (.cells #[.int .i64 r.kind, .int .i64 r.a, .int .i64 r.b, .int .i64 r.c] 76)=w2 at *
 clear hb hs hR0
 have cl0:=hb'.c1
 have zf0:=hb'.z
 have hbs0:=hb'.setN (n:=loops+1)
 have hss0:=hs'.trans (Since.setCell w2 ⟨bb,1,none⟩ (.int .i64 (loops+1)))
 have hnb:bb≠R0:=by omega
 obtain ⟨hlo1,hlo2⟩:=hlo
 have hlbb:=hb'.lt.2
 go_wp2_with fail
 refine (picked_nat r.kind 24 _ i0 (by decide) (by decide)).mono ?_
 rintro e wp ⟨rfl,rfl⟩
 rw [Hk.out]
 go_wp2_with fail
 refine (picked_nat r.a 4 _ i1 (by decide) (by decide)).mono ?_
 rintro e wp ⟨rfl,rfl⟩
 rw [hu]
 go_wp2_with fail
 try rw [show IntKind.i64.wrap (1+(u:Int))=1+(u:Int) from IntWalk.i64_in _ (by omega)]
 refine (itoa_at (nI:=1+(u:Int)) (1+u) (by omega) (by omega) hbs0.tab.1).mono ?_
 rintro e wi ⟨rfl,hqi⟩
 have hbi:=hbs0.new hqi
 have hsi:=hss0.trans (hqi.mono (fun _ f=>f.elim))
 go_wp2_with fail
 try rw [show IntKind.i64.wrap (d:Int)=(d:Int) from IntWalk.i64_in _ (by omega)]
 refine (Hst2.out.2 hbi).mono ?_
 rintro e wz ⟨rfl,hbz,hsz⟩
 have clz:=hbz.c1
 have zfz:=hbz.z
 have hbe:=hbz.setN (n:=loops)
 have hse:=(hsi.trans hsz).trans (Since.setCell wz ⟨bb,1,none⟩ (.int .i64 loops))
 go_wp2_with fail
 go_ret
 rw [HR.out]
 exact ⟨rfl,hbe,hse⟩
end Go.Proofs.YtkopjgnjflhkeaaDoor

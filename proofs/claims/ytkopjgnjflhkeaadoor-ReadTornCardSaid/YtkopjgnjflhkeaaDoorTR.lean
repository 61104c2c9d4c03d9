import Derived.Test.YtkopjgnjflhkeaaDoorTJ
namespace Go.Proofs.YtkopjgnjflhkeaaDoor
open Go.RowKit Go.Pst
set_option linter.unusedVariables false
set_option linter.unusedSimpArgs false
set_option maxRecDepth 100000 in
set_option maxHeartbeats 40000000 in
theorem num_3 {main:Bool} {d:Nat} (hd:d≤5) {sub lst:BD} (hsub:NumSaid main d sub) (hlst:ListSaid main d lst) {w:World} {bb B0:Nat} {l:List PRaw} {loops:Int} (h:BardAt w bb B0 l loops main) (hl0:l.tail≠[]) (hk:pickN (firstB l).kind 14=3):
 Calls Tryd.prog 30 #[.pointer (some ⟨bb,0,none⟩), .int .i64 ((d+1:Nat):Int)] w (BardEnd w bb B0 loops main (numG main sub (textB d) lst l)):=by
 obtain ⟨i0,i1,i2,i3⟩:=firstB_in h
 obtain ⟨r,hr⟩: ∃ r,r=firstB l:=⟨_,rfl⟩
 rw [←hr] at i0 i1 i2 i3
 obtain ⟨q,hq⟩: ∃ q,pickN r.a 2=q:=⟨_,rfl⟩
 have qlt:q<2:=by rw [←hq];exact pickN_lt _ _ (by decide)
 have qI:(q:Int)<2:=by omega
 obtain ⟨u,hu⟩: ∃ u,pickN r.b 4=u:=⟨_,rfl⟩
 have ult:u<4:=by rw [←hu];exact pickN_lt _ _ (by decide)
 have uI:(u:Int)<4:=by omega
 have HR:=zh (show numG main sub (textB d) lst l=(((((sub l.tail).1++(⟨#[32]⟩:ByteArray))++pickS rowDiv r.a)++(⟨#[32]⟩:ByteArray))++pickS rowBy r.b,(sub l.tail).2) by rw [numG_eq,if_neg hl0,if_neg (by omega),if_pos hk,←hr])
 rw [←hr] at hk
 obtain ⟨kk,hkk⟩: ∃ kk,pickN r.kind 14=kk:=⟨_,rfl⟩
 rw [hkk] at hk
 have hk14:kk<14:=by rw [←hkk];exact pickN_lt _ _ (by decide)
 have Hk:=zh hkk
 subst hk
 have z1:=hsub.1 l.tail
 have z2:=hsub.1 (sub l.tail).2
 have z3:=textB_le (d:=d) (by omega) l.tail
 have z4:=textB_le (d:=d) (by omega) (sub l.tail).2
 have y1:=pickS_le rowOps r.a 1 (by decide)
 have y2:=pickS_le rowDiv r.a 1 (by decide)
 have y3:=pickS_le rowBy r.b 8 (by decide)
 have y4:=pickS_le rowL r.a 10 (by decide)
 have y5:=pickS_le rowS r.a 10 (by decide)
 have hdI:(d:Int)≤5:=by omega
 have hnd: ¬((d:Int)+1≤0):=by omega
 have hdc:((d+1:Nat):Int)=(d:Int)+1:=rfl
 have hln:((l.tail.length:Int)==0)=false:=by have:=List.length_pos_iff.2 hl0;rw [beq_eq_false_iff_ne];omega
 have Hsub:=zh hsub
 have hlz:=hlst.1
 have z5:=hlz (textB d l.tail).2
 have Hlst:=zh hlst
 clear hsub hlst hlz hkk hl0
 have hw0:Since (fun _=>False) w ((w.alloc (.cells #[.pointer (some ⟨bb,0,none⟩)] 56)).alloc (.cells #[.int .i64 ((d:Int)+1)] 3)):=(Since.alloc _ _ _).trans (Since.alloc _ _ _)
 have e0:((w.alloc (.cells #[.pointer (some ⟨bb,0,none⟩)] 56)).alloc (.cells #[.int .i64 ((d:Int)+1)] 3)).heap[w.heap.size+0]?=some (.cells #[.pointer (some ⟨bb,0,none⟩)] 56):=allocs_get [(.cells #[.pointer (some ⟨bb,0,none⟩)] 56),(.cells #[.int .i64 ((d:Int)+1)] 3)] w 0 (by simp)
 have e1:((w.alloc (.cells #[.pointer (some ⟨bb,0,none⟩)] 56)).alloc (.cells #[.int .i64 ((d:Int)+1)] 3)).heap[w.heap.size+1]?=some (.cells #[.int .i64 ((d:Int)+1)] 3):=allocs_get [(.cells #[.pointer (some ⟨bb,0,none⟩)] 56),(.cells #[.int .i64 ((d:Int)+1)] 3)] w 1 (by simp)
 have e2:((w.alloc (.cells #[.pointer (some ⟨bb,0,none⟩)] 56)).alloc (.cells #[.int .i64 ((d:Int)+1)] 3)).heap.size=w.heap.size+2:=by simp
 have hb0:=h.new hw0
 have hnx:=next_any hb0
 rw [←hr] at hnx
 have Hn:=zh hnx
 have Hr:=zh hr
 have hl:=h.lt
 have He0:=zh e0
 have He1:=zh e1
 have He2:=zh e2
 have Hw0:=zh hw0
 clear hnx hr h e0 e1 e2 hw0 hb0
 go_enter Tryd.func30,Tryd.ntmps30
 go_wp2_with fail
 refine Hn.out.mono ?_
 rintro e w1 ⟨rfl,hb,hs⟩
 unfold rawC
 go_upto_region 2 with fail
 obtain ⟨P0,hP0⟩: ∃ P0,P0=w.heap.size:=⟨_,rfl⟩
 obtain ⟨D0,hD0⟩: ∃ D0,D0=w.heap.size+1:=⟨_,rfl⟩
 obtain ⟨R0,hR0⟩: ∃ R0,R0=w1.heap.size:=⟨_,rfl⟩
 have hz1:=hs.size
 have hz2:=He2.out
 have hin:NumIn w (w1.alloc (.cells #[.int .i64 r.kind, .int .i64 r.a, .int .i64 r.b, .int .i64 r.c] 76)) bb B0 l.tail loops main ((d:Int)+1) P0 D0 R0 r:=⟨hb.new (Since.alloc (fun _=>False) w1 _),((Hw0.out.mono (fun _ f=>f.elim)).trans hs).trans (Since.alloc _ _ _),by rw [hR0,box_cell (Below.refl _ _)];rfl,by rw [hR0,box_cell (Below.refl _ _)];rfl,by rw [hR0,box_cell (Below.refl _ _)];rfl,
  by have h0:=He0.out;rw [Nat.add_zero,←hP0] at h0;exact ((Since.alloc (fun _=>False) w1 _).cell (by omega) (fun f=>f)).trans ((hs.cell (by omega) (by omega)).trans (by simp [World.cell?,h0])),
  by have h0:=He1.out;rw [←hD0] at h0;exact ((Since.alloc (fun _=>False) w1 _).cell (by omega) (fun f=>f)).trans ((hs.cell (by omega) (by omega)).trans (by simp [World.cell?,h0])),by simp;omega⟩
 rw [←hD0,←hP0,←hR0]
 obtain ⟨hb',hs',k0,k1,k2,p0,d0,l1,l2,l3,hzR⟩:=hin
 clear He0 He1 He2 Hw0 hb hs hz1 hz2 hP0 hD0 hR0 Hn
 generalize w1.alloc (.cells #[.int .i64 r.kind, .int .i64 r.a, .int .i64 r.b, .int .i64 r.c] 76)=w2 at *
 obtain ⟨vT,c0,aT,cT,rfl,-,h36,-,-⟩:=hb'.c0
 have hlI:(l.tail.length:Int)≤36:=by omega
 generalize l.tail.length=nT at *
 go_wp2_with fail
 refine (picked_nat r.kind 14 _ i0 (by decide) (by decide)).mono ?_
 rintro e wp ⟨rfl,rfl⟩
 rw [Hk.out]
 go_wp2_with fail
 refine tGo hb' hs' [(P0,0, .pointer (some ⟨bb,0,none⟩)),(D0,0, .int .i64 ((d:Int)+1)),(R0,1, .int .i64 r.a),(R0,2, .int .i64 r.b)] ⟨p0,d0,k1,k2,trivial⟩ (by simp only [CZ,and_true];omega) 18 (fun wr1 h1=>?_)
 refine tRd 0 h1.c ?_
 refine tRd 4 h1.c ?_
 refine tRd 5 h1.c ?_
 refine tRd 12 h1.c ?_
 refine tRd 13 h1.c ?_
 refine tP3 1 3 11 (fun K hK=>?_) (fun K hK=>?_) (fun K hK=>?_)
 ·
  go_simp
  go_at_call 50
  refine (sub_any Hsub.out (by omega) h1.b (h1.c.1) (h1.c.2.1)).mono ?_
  rintro e wr2 ⟨rfl,hb,hv⟩
  have h2:=h1.call hb hv
  clear hb hv
  refine tNx hK h2.c ?_
  clear hK K
  refine tRd 2 h2.c ?_
  refine tP3 3 6 11 (fun K hK=>?_) (fun K hK=>?_) (fun K hK=>?_)
  ·
   go_simp
   obtain ⟨g,hg⟩: ∃ g,g=wr2.heap.size:=⟨_,rfl⟩
   rw [←hg]
   revert g
   refine tRow hK h2 rowDiv r.a hq (fun g3 wr3 h3=>?_)
   clear hK K
   refine tP2 6 11 (fun K hK=>?_) (fun K hK=>?_)
   ·
    go_simp
    go_at_call 7
    refine (picked_nat r.a 2 _ i1 (by decide) (by decide)).mono ?_
    rintro e wp ⟨rfl,rfl⟩
    rw [hq]
    refine tNx hK h3.c ?_
    clear hK K
    refine tRd 7 h3.c ?_
    refine tRd 8 h3.c ?_
    refine tRd 9 h3.c ?_
    refine tRd 10 h3.c ?_
    refine tP2 11 14 (fun K hK=>?_) (fun K hK=>?_)
    ·
     go_simp
     obtain ⟨g,hg⟩: ∃ g,g=wr3.heap.size:=⟨_,rfl⟩
     rw [←hg]
     revert g
     refine tRow hK h3 rowBy r.b hu (fun g4 wr4 h4=>?_)
     clear hK K
     refine tP1 14 (fun K hK=>?_)
     go_simp
     go_at_call 7
     refine (picked_nat r.b 4 _ i2 (by decide) (by decide)).mono ?_
     rintro e wp ⟨rfl,rfl⟩
     rw [hu]
     refine tNx hK h4.c ?_
     clear hK K
     refine tRd 15 h4.c ?_
     refine tRd 16 h4.c ?_
     refine tRd 17 h4.c ?_
     refine tP1 18 (fun K hK=>?_)
     go_simp
     refine tLast hK ?_
     clear hK K
     refine tFin ?_
     go_wp2_with fail
     go_ret
     rw [HR.out]
     exact ⟨rfl,h4.b,h4.s⟩
    ·
     go_simp
     go_at_call 7
     refine (picked_nat r.b 4 _ i2 (by decide) (by decide)).mono ?_
     rintro e wp ⟨rfl,rfl⟩
     rw [hu]
     refine tNx hK h3.c ?_
     clear hK K
     refine tP1 11 (fun K hK=>?_)
     go_simp
     obtain ⟨g,hg⟩: ∃ g,g=wr3.heap.size:=⟨_,rfl⟩
     rw [←hg]
     revert g
     refine tRow hK h3 rowBy r.b hu (fun g5 wr5 h5=>?_)
     clear hK K
     refine tRd 15 h5.c ?_
     refine tRd 16 h5.c ?_
     refine tRd 17 h5.c ?_
     refine tP1 18 (fun K hK=>?_)
     go_simp
     refine tLast hK ?_
     clear hK K
     refine tFin ?_
     go_wp2_with fail
     go_ret
     rw [HR.out]
     exact ⟨rfl,h5.b,h5.s⟩
   ·
    go_simp
    obtain ⟨g,hg⟩: ∃ g,g=wr3.heap.size:=⟨_,rfl⟩
    rw [←hg]
    revert g
    refine tRow hK h3 rowBy r.b hu (fun g6 wr6 h6=>?_)
    clear hK K
    refine tP1 6 (fun K hK=>?_)
    go_simp
    go_at_call 7
    refine (picked_nat r.a 2 _ i1 (by decide) (by decide)).mono ?_
    rintro e wp ⟨rfl,rfl⟩
    rw [hq]
    refine tNx hK h6.c ?_
    clear hK K
    refine tRd 7 h6.c ?_
    refine tRd 8 h6.c ?_
    refine tRd 9 h6.c ?_
    refine tRd 10 h6.c ?_
    refine tP1 14 (fun K hK=>?_)
    go_simp
    go_at_call 7
    refine (picked_nat r.b 4 _ i2 (by decide) (by decide)).mono ?_
    rintro e wp ⟨rfl,rfl⟩
    rw [hu]
    refine tNx hK h6.c ?_
    clear hK K
    refine tRd 15 h6.c ?_
    refine tRd 16 h6.c ?_
    refine tRd 17 h6.c ?_
    refine tP1 18 (fun K hK=>?_)
    go_simp
    refine tLast hK ?_
    clear hK K
    refine tFin ?_
    go_wp2_with fail
    go_ret
    rw [HR.out]
    exact ⟨rfl,h6.b,h6.s⟩
  ·
   go_simp
   go_at_call 7
   refine (picked_nat r.a 2 _ i1 (by decide) (by decide)).mono ?_
   rintro e wp ⟨rfl,rfl⟩
   rw [hq]
   refine tNx hK h2.c ?_
   clear hK K
   refine tP3 3 11 14 (fun K hK=>?_) (fun K hK=>?_) (fun K hK=>?_)
   ·
    go_simp
    obtain ⟨g,hg⟩: ∃ g,g=wr2.heap.size:=⟨_,rfl⟩
    rw [←hg]
    revert g
    refine tRow hK h2 rowDiv r.a hq (fun g7 wr7 h7=>?_)
    clear hK K
    refine tRd 7 h7.c ?_
    refine tRd 8 h7.c ?_
    refine tRd 9 h7.c ?_
    refine tRd 10 h7.c ?_
    refine tP2 11 14 (fun K hK=>?_) (fun K hK=>?_)
    ·
     go_simp
     obtain ⟨g,hg⟩: ∃ g,g=wr7.heap.size:=⟨_,rfl⟩
     rw [←hg]
     revert g
     refine tRow hK h7 rowBy r.b hu (fun g8 wr8 h8=>?_)
     clear hK K
     refine tP1 14 (fun K hK=>?_)
     go_simp
     go_at_call 7
     refine (picked_nat r.b 4 _ i2 (by decide) (by decide)).mono ?_
     rintro e wp ⟨rfl,rfl⟩
     rw [hu]
     refine tNx hK h8.c ?_
     clear hK K
     refine tRd 15 h8.c ?_
     refine tRd 16 h8.c ?_
     refine tRd 17 h8.c ?_
     refine tP1 18 (fun K hK=>?_)
     go_simp
     refine tLast hK ?_
     clear hK K
     refine tFin ?_
     go_wp2_with fail
     go_ret
     rw [HR.out]
     exact ⟨rfl,h8.b,h8.s⟩
    ·
     go_simp
     go_at_call 7
     refine (picked_nat r.b 4 _ i2 (by decide) (by decide)).mono ?_
     rintro e wp ⟨rfl,rfl⟩
     rw [hu]
     refine tNx hK h7.c ?_
     clear hK K
     refine tP1 11 (fun K hK=>?_)
     go_simp
     obtain ⟨g,hg⟩: ∃ g,g=wr7.heap.size:=⟨_,rfl⟩
     rw [←hg]
     revert g
     refine tRow hK h7 rowBy r.b hu (fun g9 wr9 h9=>?_)
     clear hK K
     refine tRd 15 h9.c ?_
     refine tRd 16 h9.c ?_
     refine tRd 17 h9.c ?_
     refine tP1 18 (fun K hK=>?_)
     go_simp
     refine tLast hK ?_
     clear hK K
     refine tFin ?_
     go_wp2_with fail
     go_ret
     rw [HR.out]
     exact ⟨rfl,h9.b,h9.s⟩
   ·
    go_simp
    obtain ⟨g,hg⟩: ∃ g,g=wr2.heap.size:=⟨_,rfl⟩
    rw [←hg]
    revert g
    refine tRow hK h2 rowBy r.b hu (fun g10 wr10 h10=>?_)
    clear hK K
    refine tP2 3 14 (fun K hK=>?_) (fun K hK=>?_)
    ·
     go_simp
     obtain ⟨g,hg⟩: ∃ g,g=wr10.heap.size:=⟨_,rfl⟩
     rw [←hg]
     revert g
     refine tRow hK h10 rowDiv r.a hq (fun g11 wr11 h11=>?_)
     clear hK K
     refine tRd 7 h11.c ?_
     refine tRd 8 h11.c ?_
     refine tRd 9 h11.c ?_
     refine tRd 10 h11.c ?_
     refine tP1 14 (fun K hK=>?_)
     go_simp
     go_at_call 7
     refine (picked_nat r.b 4 _ i2 (by decide) (by decide)).mono ?_
     rintro e wp ⟨rfl,rfl⟩
     rw [hu]
     refine tNx hK h11.c ?_
     clear hK K
     refine tRd 15 h11.c ?_
     refine tRd 16 h11.c ?_
     refine tRd 17 h11.c ?_
     refine tP1 18 (fun K hK=>?_)
     go_simp
     refine tLast hK ?_
     clear hK K
     refine tFin ?_
     go_wp2_with fail
     go_ret
     rw [HR.out]
     exact ⟨rfl,h11.b,h11.s⟩
    ·
     go_simp
     go_at_call 7
     refine (picked_nat r.b 4 _ i2 (by decide) (by decide)).mono ?_
     rintro e wp ⟨rfl,rfl⟩
     rw [hu]
     refine tNx hK h10.c ?_
     clear hK K
     refine tRd 15 h10.c ?_
     refine tRd 16 h10.c ?_
     refine tP1 3 (fun K hK=>?_)
     go_simp
     obtain ⟨g,hg⟩: ∃ g,g=wr10.heap.size:=⟨_,rfl⟩
     rw [←hg]
     revert g
     refine tRow hK h10 rowDiv r.a hq (fun g12 wr12 h12=>?_)
     clear hK K
     refine tRd 7 h12.c ?_
     refine tRd 8 h12.c ?_
     refine tRd 9 h12.c ?_
     refine tRd 10 h12.c ?_
     refine tRd 17 h12.c ?_
     refine tP1 18 (fun K hK=>?_)
     go_simp
     refine tLast hK ?_
     clear hK K
     refine tFin ?_
     go_wp2_with fail
     go_ret
     rw [HR.out]
     exact ⟨rfl,h12.b,h12.s⟩
   ·
    go_simp
    go_at_call 7
    refine (picked_nat r.b 4 _ i2 (by decide) (by decide)).mono ?_
    rintro e wp ⟨rfl,rfl⟩
    rw [hu]
    refine tNx hK h2.c ?_
    clear hK K
    refine tP2 3 11 (fun K hK=>?_) (fun K hK=>?_)
    ·
     go_simp
     obtain ⟨g,hg⟩: ∃ g,g=wr2.heap.size:=⟨_,rfl⟩
     rw [←hg]
     revert g
     refine tRow hK h2 rowDiv r.a hq (fun g13 wr13 h13=>?_)
     clear hK K
     refine tRd 7 h13.c ?_
     refine tRd 8 h13.c ?_
     refine tRd 9 h13.c ?_
     refine tRd 10 h13.c ?_
     refine tP1 11 (fun K hK=>?_)
     go_simp
     obtain ⟨g,hg⟩: ∃ g,g=wr13.heap.size:=⟨_,rfl⟩
     rw [←hg]
     revert g
     refine tRow hK h13 rowBy r.b hu (fun g14 wr14 h14=>?_)
     clear hK K
     refine tRd 15 h14.c ?_
     refine tRd 16 h14.c ?_
     refine tRd 17 h14.c ?_
     refine tP1 18 (fun K hK=>?_)
     go_simp
     refine tLast hK ?_
     clear hK K
     refine tFin ?_
     go_wp2_with fail
     go_ret
     rw [HR.out]
     exact ⟨rfl,h14.b,h14.s⟩
    ·
     go_simp
     obtain ⟨g,hg⟩: ∃ g,g=wr2.heap.size:=⟨_,rfl⟩
     rw [←hg]
     revert g
     refine tRow hK h2 rowBy r.b hu (fun g15 wr15 h15=>?_)
     clear hK K
     refine tRd 15 h15.c ?_
     refine tRd 16 h15.c ?_
     refine tP1 3 (fun K hK=>?_)
     go_simp
     obtain ⟨g,hg⟩: ∃ g,g=wr15.heap.size:=⟨_,rfl⟩
     rw [←hg]
     revert g
     refine tRow hK h15 rowDiv r.a hq (fun g16 wr16 h16=>?_)
     clear hK K
     refine tRd 7 h16.c ?_
     refine tRd 8 h16.c ?_
     refine tRd 9 h16.c ?_
     refine tRd 10 h16.c ?_
     refine tRd 17 h16.c ?_
     refine tP1 18 (fun K hK=>?_)
     go_simp
     refine tLast hK ?_
     clear hK K
     refine tFin ?_
     go_wp2_with fail
     go_ret
     rw [HR.out]
     exact ⟨rfl,h16.b,h16.s⟩
  ·
   go_simp
   obtain ⟨g,hg⟩: ∃ g,g=wr2.heap.size:=⟨_,rfl⟩
   rw [←hg]
   revert g
   refine tRow hK h2 rowBy r.b hu (fun g17 wr17 h17=>?_)
   clear hK K
   refine tP2 3 6 (fun K hK=>?_) (fun K hK=>?_)
   ·
    go_simp
    obtain ⟨g,hg⟩: ∃ g,g=wr17.heap.size:=⟨_,rfl⟩
    rw [←hg]
    revert g
    refine tRow hK h17 rowDiv r.a hq (fun g18 wr18 h18=>?_)
    clear hK K
    refine tP1 6 (fun K hK=>?_)
    go_simp
    go_at_call 7
    refine (picked_nat r.a 2 _ i1 (by decide) (by decide)).mono ?_
    rintro e wp ⟨rfl,rfl⟩
    rw [hq]
    refine tNx hK h18.c ?_
    clear hK K
    refine tRd 7 h18.c ?_
    refine tRd 8 h18.c ?_
    refine tRd 9 h18.c ?_
    refine tRd 10 h18.c ?_
    refine tP1 14 (fun K hK=>?_)
    go_simp
    go_at_call 7
    refine (picked_nat r.b 4 _ i2 (by decide) (by decide)).mono ?_
    rintro e wp ⟨rfl,rfl⟩
    rw [hu]
    refine tNx hK h18.c ?_
    clear hK K
    refine tRd 15 h18.c ?_
    refine tRd 16 h18.c ?_
    refine tRd 17 h18.c ?_
    refine tP1 18 (fun K hK=>?_)
    go_simp
    refine tLast hK ?_
    clear hK K
    refine tFin ?_
    go_wp2_with fail
    go_ret
    rw [HR.out]
    exact ⟨rfl,h18.b,h18.s⟩
   ·
    go_simp
    go_at_call 7
    refine (picked_nat r.a 2 _ i1 (by decide) (by decide)).mono ?_
    rintro e wp ⟨rfl,rfl⟩
    rw [hq]
    refine tNx hK h17.c ?_
    clear hK K
    refine tP2 3 14 (fun K hK=>?_) (fun K hK=>?_)
    ·
     go_simp
     obtain ⟨g,hg⟩: ∃ g,g=wr17.heap.size:=⟨_,rfl⟩
     rw [←hg]
     revert g
     refine tRow hK h17 rowDiv r.a hq (fun g19 wr19 h19=>?_)
     clear hK K
     refine tRd 7 h19.c ?_
     refine tRd 8 h19.c ?_
     refine tRd 9 h19.c ?_
     refine tRd 10 h19.c ?_
     refine tP1 14 (fun K hK=>?_)
     go_simp
     go_at_call 7
     refine (picked_nat r.b 4 _ i2 (by decide) (by decide)).mono ?_
     rintro e wp ⟨rfl,rfl⟩
     rw [hu]
     refine tNx hK h19.c ?_
     clear hK K
     refine tRd 15 h19.c ?_
     refine tRd 16 h19.c ?_
     refine tRd 17 h19.c ?_
     refine tP1 18 (fun K hK=>?_)
     go_simp
     refine tLast hK ?_
     clear hK K
     refine tFin ?_
     go_wp2_with fail
     go_ret
     rw [HR.out]
     exact ⟨rfl,h19.b,h19.s⟩
    ·
     go_simp
     go_at_call 7
     refine (picked_nat r.b 4 _ i2 (by decide) (by decide)).mono ?_
     rintro e wp ⟨rfl,rfl⟩
     rw [hu]
     refine tNx hK h17.c ?_
     clear hK K
     refine tRd 15 h17.c ?_
     refine tRd 16 h17.c ?_
     refine tP1 3 (fun K hK=>?_)
     go_simp
     obtain ⟨g,hg⟩: ∃ g,g=wr17.heap.size:=⟨_,rfl⟩
     rw [←hg]
     revert g
     refine tRow hK h17 rowDiv r.a hq (fun g20 wr20 h20=>?_)
     clear hK K
     refine tRd 7 h20.c ?_
     refine tRd 8 h20.c ?_
     refine tRd 9 h20.c ?_
     refine tRd 10 h20.c ?_
     refine tRd 17 h20.c ?_
     refine tP1 18 (fun K hK=>?_)
     go_simp
     refine tLast hK ?_
     clear hK K
     refine tFin ?_
     go_wp2_with fail
     go_ret
     rw [HR.out]
     exact ⟨rfl,h20.b,h20.s⟩
 ·
  go_simp
  obtain ⟨g,hg⟩: ∃ g,g=wr1.heap.size:=⟨_,rfl⟩
  rw [←hg]
  revert g
  refine tRow hK h1 rowDiv r.a hq (fun g21 wr21 h21=>?_)
  clear hK K
  refine tP2 1 11 (fun K hK=>?_) (fun K hK=>?_)
  ·
   go_simp
   go_at_call 50
   refine (sub_any Hsub.out (by omega) h21.b (h21.c.2.1) (h21.c.2.2.1)).mono ?_
   rintro e wr22 ⟨rfl,hb,hv⟩
   have h22:=h21.call hb hv
   clear hb hv
   refine tNx hK h22.c ?_
   clear hK K
   refine tRd 2 h22.c ?_
   refine tP2 6 11 (fun K hK=>?_) (fun K hK=>?_)
   ·
    go_simp
    go_at_call 7
    refine (picked_nat r.a 2 _ i1 (by decide) (by decide)).mono ?_
    rintro e wp ⟨rfl,rfl⟩
    rw [hq]
    refine tNx hK h22.c ?_
    clear hK K
    refine tRd 7 h22.c ?_
    refine tRd 8 h22.c ?_
    refine tRd 9 h22.c ?_
    refine tRd 10 h22.c ?_
    refine tP2 11 14 (fun K hK=>?_) (fun K hK=>?_)
    ·
     go_simp
     obtain ⟨g,hg⟩: ∃ g,g=wr22.heap.size:=⟨_,rfl⟩
     rw [←hg]
     revert g
     refine tRow hK h22 rowBy r.b hu (fun g23 wr23 h23=>?_)
     clear hK K
     refine tP1 14 (fun K hK=>?_)
     go_simp
     go_at_call 7
     refine (picked_nat r.b 4 _ i2 (by decide) (by decide)).mono ?_
     rintro e wp ⟨rfl,rfl⟩
     rw [hu]
     refine tNx hK h23.c ?_
     clear hK K
     refine tRd 15 h23.c ?_
     refine tRd 16 h23.c ?_
     refine tRd 17 h23.c ?_
     refine tP1 18 (fun K hK=>?_)
     go_simp
     refine tLast hK ?_
     clear hK K
     refine tFin ?_
     go_wp2_with fail
     go_ret
     rw [HR.out]
     exact ⟨rfl,h23.b,h23.s⟩
    ·
     go_simp
     go_at_call 7
     refine (picked_nat r.b 4 _ i2 (by decide) (by decide)).mono ?_
     rintro e wp ⟨rfl,rfl⟩
     rw [hu]
     refine tNx hK h22.c ?_
     clear hK K
     refine tP1 11 (fun K hK=>?_)
     go_simp
     obtain ⟨g,hg⟩: ∃ g,g=wr22.heap.size:=⟨_,rfl⟩
     rw [←hg]
     revert g
     refine tRow hK h22 rowBy r.b hu (fun g24 wr24 h24=>?_)
     clear hK K
     refine tRd 15 h24.c ?_
     refine tRd 16 h24.c ?_
     refine tRd 17 h24.c ?_
     refine tP1 18 (fun K hK=>?_)
     go_simp
     refine tLast hK ?_
     clear hK K
     refine tFin ?_
     go_wp2_with fail
     go_ret
     rw [HR.out]
     exact ⟨rfl,h24.b,h24.s⟩
   ·
    go_simp
    obtain ⟨g,hg⟩: ∃ g,g=wr22.heap.size:=⟨_,rfl⟩
    rw [←hg]
    revert g
    refine tRow hK h22 rowBy r.b hu (fun g25 wr25 h25=>?_)
    clear hK K
    refine tP1 6 (fun K hK=>?_)
    go_simp
    go_at_call 7
    refine (picked_nat r.a 2 _ i1 (by decide) (by decide)).mono ?_
    rintro e wp ⟨rfl,rfl⟩
    rw [hq]
    refine tNx hK h25.c ?_
    clear hK K
    refine tRd 7 h25.c ?_
    refine tRd 8 h25.c ?_
    refine tRd 9 h25.c ?_
    refine tRd 10 h25.c ?_
    refine tP1 14 (fun K hK=>?_)
    go_simp
    go_at_call 7
    refine (picked_nat r.b 4 _ i2 (by decide) (by decide)).mono ?_
    rintro e wp ⟨rfl,rfl⟩
    rw [hu]
    refine tNx hK h25.c ?_
    clear hK K
    refine tRd 15 h25.c ?_
    refine tRd 16 h25.c ?_
    refine tRd 17 h25.c ?_
    refine tP1 18 (fun K hK=>?_)
    go_simp
    refine tLast hK ?_
    clear hK K
    refine tFin ?_
    go_wp2_with fail
    go_ret
    rw [HR.out]
    exact ⟨rfl,h25.b,h25.s⟩
  ·
   go_simp
   obtain ⟨g,hg⟩: ∃ g,g=wr21.heap.size:=⟨_,rfl⟩
   rw [←hg]
   revert g
   refine tRow hK h21 rowBy r.b hu (fun g26 wr26 h26=>?_)
   clear hK K
   refine tP1 1 (fun K hK=>?_)
   go_simp
   go_at_call 50
   refine (sub_any Hsub.out (by omega) h26.b (h26.c.2.2.1) (h26.c.2.2.2.1)).mono ?_
   rintro e wr27 ⟨rfl,hb,hv⟩
   have h27:=h26.call hb hv
   clear hb hv
   refine tNx hK h27.c ?_
   clear hK K
   refine tRd 2 h27.c ?_
   refine tP1 6 (fun K hK=>?_)
   go_simp
   go_at_call 7
   refine (picked_nat r.a 2 _ i1 (by decide) (by decide)).mono ?_
   rintro e wp ⟨rfl,rfl⟩
   rw [hq]
   refine tNx hK h27.c ?_
   clear hK K
   refine tRd 7 h27.c ?_
   refine tRd 8 h27.c ?_
   refine tRd 9 h27.c ?_
   refine tRd 10 h27.c ?_
   refine tP1 14 (fun K hK=>?_)
   go_simp
   go_at_call 7
   refine (picked_nat r.b 4 _ i2 (by decide) (by decide)).mono ?_
   rintro e wp ⟨rfl,rfl⟩
   rw [hu]
   refine tNx hK h27.c ?_
   clear hK K
   refine tRd 15 h27.c ?_
   refine tRd 16 h27.c ?_
   refine tRd 17 h27.c ?_
   refine tP1 18 (fun K hK=>?_)
   go_simp
   refine tLast hK ?_
   clear hK K
   refine tFin ?_
   go_wp2_with fail
   go_ret
   rw [HR.out]
   exact ⟨rfl,h27.b,h27.s⟩
 ·
  go_simp
  obtain ⟨g,hg⟩: ∃ g,g=wr1.heap.size:=⟨_,rfl⟩
  rw [←hg]
  revert g
  refine tRow hK h1 rowBy r.b hu (fun g28 wr28 h28=>?_)
  clear hK K
  refine tP2 1 3 (fun K hK=>?_) (fun K hK=>?_)
  ·
   go_simp
   go_at_call 50
   refine (sub_any Hsub.out (by omega) h28.b (h28.c.2.1) (h28.c.2.2.1)).mono ?_
   rintro e wr29 ⟨rfl,hb,hv⟩
   have h29:=h28.call hb hv
   clear hb hv
   refine tNx hK h29.c ?_
   clear hK K
   refine tRd 2 h29.c ?_
   refine tP2 3 6 (fun K hK=>?_) (fun K hK=>?_)
   ·
    go_simp
    obtain ⟨g,hg⟩: ∃ g,g=wr29.heap.size:=⟨_,rfl⟩
    rw [←hg]
    revert g
    refine tRow hK h29 rowDiv r.a hq (fun g30 wr30 h30=>?_)
    clear hK K
    refine tP1 6 (fun K hK=>?_)
    go_simp
    go_at_call 7
    refine (picked_nat r.a 2 _ i1 (by decide) (by decide)).mono ?_
    rintro e wp ⟨rfl,rfl⟩
    rw [hq]
    refine tNx hK h30.c ?_
    clear hK K
    refine tRd 7 h30.c ?_
    refine tRd 8 h30.c ?_
    refine tRd 9 h30.c ?_
    refine tRd 10 h30.c ?_
    refine tP1 14 (fun K hK=>?_)
    go_simp
    go_at_call 7
    refine (picked_nat r.b 4 _ i2 (by decide) (by decide)).mono ?_
    rintro e wp ⟨rfl,rfl⟩
    rw [hu]
    refine tNx hK h30.c ?_
    clear hK K
    refine tRd 15 h30.c ?_
    refine tRd 16 h30.c ?_
    refine tRd 17 h30.c ?_
    refine tP1 18 (fun K hK=>?_)
    go_simp
    refine tLast hK ?_
    clear hK K
    refine tFin ?_
    go_wp2_with fail
    go_ret
    rw [HR.out]
    exact ⟨rfl,h30.b,h30.s⟩
   ·
    go_simp
    go_at_call 7
    refine (picked_nat r.a 2 _ i1 (by decide) (by decide)).mono ?_
    rintro e wp ⟨rfl,rfl⟩
    rw [hq]
    refine tNx hK h29.c ?_
    clear hK K
    refine tP2 3 14 (fun K hK=>?_) (fun K hK=>?_)
    ·
     go_simp
     obtain ⟨g,hg⟩: ∃ g,g=wr29.heap.size:=⟨_,rfl⟩
     rw [←hg]
     revert g
     refine tRow hK h29 rowDiv r.a hq (fun g31 wr31 h31=>?_)
     clear hK K
     refine tRd 7 h31.c ?_
     refine tRd 8 h31.c ?_
     refine tRd 9 h31.c ?_
     refine tRd 10 h31.c ?_
     refine tP1 14 (fun K hK=>?_)
     go_simp
     go_at_call 7
     refine (picked_nat r.b 4 _ i2 (by decide) (by decide)).mono ?_
     rintro e wp ⟨rfl,rfl⟩
     rw [hu]
     refine tNx hK h31.c ?_
     clear hK K
     refine tRd 15 h31.c ?_
     refine tRd 16 h31.c ?_
     refine tRd 17 h31.c ?_
     refine tP1 18 (fun K hK=>?_)
     go_simp
     refine tLast hK ?_
     clear hK K
     refine tFin ?_
     go_wp2_with fail
     go_ret
     rw [HR.out]
     exact ⟨rfl,h31.b,h31.s⟩
    ·
     go_simp
     go_at_call 7
     refine (picked_nat r.b 4 _ i2 (by decide) (by decide)).mono ?_
     rintro e wp ⟨rfl,rfl⟩
     rw [hu]
     refine tNx hK h29.c ?_
     clear hK K
     refine tRd 15 h29.c ?_
     refine tRd 16 h29.c ?_
     refine tP1 3 (fun K hK=>?_)
     go_simp
     obtain ⟨g,hg⟩: ∃ g,g=wr29.heap.size:=⟨_,rfl⟩
     rw [←hg]
     revert g
     refine tRow hK h29 rowDiv r.a hq (fun g32 wr32 h32=>?_)
     clear hK K
     refine tRd 7 h32.c ?_
     refine tRd 8 h32.c ?_
     refine tRd 9 h32.c ?_
     refine tRd 10 h32.c ?_
     refine tRd 17 h32.c ?_
     refine tP1 18 (fun K hK=>?_)
     go_simp
     refine tLast hK ?_
     clear hK K
     refine tFin ?_
     go_wp2_with fail
     go_ret
     rw [HR.out]
     exact ⟨rfl,h32.b,h32.s⟩
  ·
   go_simp
   obtain ⟨g,hg⟩: ∃ g,g=wr28.heap.size:=⟨_,rfl⟩
   rw [←hg]
   revert g
   refine tRow hK h28 rowDiv r.a hq (fun g33 wr33 h33=>?_)
   clear hK K
   refine tP1 1 (fun K hK=>?_)
   go_simp
   go_at_call 50
   refine (sub_any Hsub.out (by omega) h33.b (h33.c.2.2.1) (h33.c.2.2.2.1)).mono ?_
   rintro e wr34 ⟨rfl,hb,hv⟩
   have h34:=h33.call hb hv
   clear hb hv
   refine tNx hK h34.c ?_
   clear hK K
   refine tRd 2 h34.c ?_
   refine tP1 6 (fun K hK=>?_)
   go_simp
   go_at_call 7
   refine (picked_nat r.a 2 _ i1 (by decide) (by decide)).mono ?_
   rintro e wp ⟨rfl,rfl⟩
   rw [hq]
   refine tNx hK h34.c ?_
   clear hK K
   refine tRd 7 h34.c ?_
   refine tRd 8 h34.c ?_
   refine tRd 9 h34.c ?_
   refine tRd 10 h34.c ?_
   refine tP1 14 (fun K hK=>?_)
   go_simp
   go_at_call 7
   refine (picked_nat r.b 4 _ i2 (by decide) (by decide)).mono ?_
   rintro e wp ⟨rfl,rfl⟩
   rw [hu]
   refine tNx hK h34.c ?_
   clear hK K
   refine tRd 15 h34.c ?_
   refine tRd 16 h34.c ?_
   refine tRd 17 h34.c ?_
   refine tP1 18 (fun K hK=>?_)
   go_simp
   refine tLast hK ?_
   clear hK K
   refine tFin ?_
   go_wp2_with fail
   go_ret
   rw [HR.out]
   exact ⟨rfl,h34.b,h34.s⟩
end Go.Proofs.YtkopjgnjflhkeaaDoor

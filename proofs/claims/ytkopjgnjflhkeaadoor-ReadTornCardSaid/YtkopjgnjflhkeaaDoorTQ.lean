import Derived.Test.YtkopjgnjflhkeaaDoorTJ
namespace Go.Proofs.YtkopjgnjflhkeaaDoor
open Go.RowKit Go.Pst
set_option linter.unusedVariables false
set_option linter.unusedSimpArgs false
set_option maxRecDepth 100000 in
set_option maxHeartbeats 40000000 in
theorem num_0 {main:Bool} {d:Nat} (hd:d≤5) {sub lst:BD} (hsub:NumSaid main d sub) (hlst:ListSaid main d lst) {w:World} {bb B0:Nat} {l:List PRaw} {loops:Int} (h:BardAt w bb B0 l loops main) (hl0:l.tail≠[]) (hk:pickN (firstB l).kind 14<3):
 Calls Tryd.prog 30 #[.pointer (some ⟨bb,0,none⟩), .int .i64 ((d+1:Nat):Int)] w (BardEnd w bb B0 loops main (numG main sub (textB d) lst l)):=by
 obtain ⟨i0,i1,i2,i3⟩:=firstB_in h
 obtain ⟨r,hr⟩: ∃ r,r=firstB l:=⟨_,rfl⟩
 rw [←hr] at i0 i1 i2 i3
 obtain ⟨q,hq⟩: ∃ q,pickN r.a 3=q:=⟨_,rfl⟩
 have qlt:q<3:=by rw [←hq];exact pickN_lt _ _ (by decide)
 have qI:(q:Int)<3:=by omega
 have HR:=zh (show numG main sub (textB d) lst l=((((((((⟨#[40]⟩:ByteArray)++(sub l.tail).1)++(⟨#[32]⟩:ByteArray))++pickS rowOps r.a)++(⟨#[32]⟩:ByteArray))++(sub (sub l.tail).2).1)++(⟨#[41]⟩:ByteArray)),(sub (sub l.tail).2).2) by rw [numG_eq,if_neg hl0,if_pos hk,←hr])
 rw [←hr] at hk
 obtain ⟨kk,hkk⟩: ∃ kk,pickN r.kind 14=kk:=⟨_,rfl⟩
 rw [hkk] at hk
 have hk14:kk<14:=by rw [←hkk];exact pickN_lt _ _ (by decide)
 have Hk:=zh hkk
 have z1:=hsub.1 l.tail
 have z2:=hsub.1 (sub l.tail).2
 have z3:=textB_le (d:=d) (by omega) l.tail
 have z4:=textB_le (d:=d) (by omega) (sub l.tail).2
 have y1:=pickS_le rowOps r.a 1 (by decide)
 have y2:=pickS_le rowDiv r.a 1 (by decide)
 have y3:=pickS_le rowBy r.b 8 (by decide)
 have y4:=pickS_le rowL r.a 10 (by decide)
 have y5:=pickS_le rowS r.a 10 (by decide)
 have hdI:(d:Int)≤5:=by omega
 have hnd: ¬((d:Int)+1≤0):=by omega
 have hdc:((d+1:Nat):Int)=(d:Int)+1:=rfl
 have hln:((l.tail.length:Int)==0)=false:=by have:=List.length_pos_iff.2 hl0;rw [beq_eq_false_iff_ne];omega
 have Hsub:=zh hsub
 have hlz:=hlst.1
 have z5:=hlz (textB d l.tail).2
 have Hlst:=zh hlst
 clear hsub hlst hlz hkk hl0
 have hw0:Since (fun _=>False) w ((w.alloc (.cells #[.pointer (some ⟨bb,0,none⟩)] 56)).alloc (.cells #[.int .i64 ((d:Int)+1)] 3)):=(Since.alloc _ _ _).trans (Since.alloc _ _ _)
 have e0:((w.alloc (.cells #[.pointer (some ⟨bb,0,none⟩)] 56)).alloc (.cells #[.int .i64 ((d:Int)+1)] 3)).heap[w.heap.size+0]?=some (.cells #[.pointer (some ⟨bb,0,none⟩)] 56):=allocs_get [(.cells #[.pointer (some ⟨bb,0,none⟩)] 56),(.cells #[.int .i64 ((d:Int)+1)] 3)] w 0 (by simp)
 have e1:((w.alloc (.cells #[.pointer (some ⟨bb,0,none⟩)] 56)).alloc (.cells #[.int .i64 ((d:Int)+1)] 3)).heap[w.heap.size+1]?=some (.cells #[.int .i64 ((d:Int)+1)] 3):=allocs_get [(.cells #[.pointer (some ⟨bb,0,none⟩)] 56),(.cells #[.int .i64 ((d:Int)+1)] 3)] w 1 (by simp)
 have e2:((w.alloc (.cells #[.pointer (some ⟨bb,0,none⟩)] 56)).alloc (.cells #[.int .i64 ((d:Int)+1)] 3)).heap.size=w.heap.size+2:=by simp
 have hb0:=h.new hw0
 have hnx:=next_any hb0
 rw [←hr] at hnx
 have Hn:=zh hnx
 have Hr:=zh hr
 have hl:=h.lt
 have He0:=zh e0
 have He1:=zh e1
 have He2:=zh e2
 have Hw0:=zh hw0
 clear hnx hr h e0 e1 e2 hw0 hb0
 have hk3:kk=0∨kk=1∨kk=2:=by omega
 clear hk hk14
 go_enter Tryd.func30,Tryd.ntmps30
 go_wp2_with fail
 refine Hn.out.mono ?_
 rintro e w1 ⟨rfl,hb,hs⟩
 unfold rawC
 go_upto_region 2 with fail
 obtain ⟨P0,hP0⟩: ∃ P0,P0=w.heap.size:=⟨_,rfl⟩
 obtain ⟨D0,hD0⟩: ∃ D0,D0=w.heap.size+1:=⟨_,rfl⟩
 obtain ⟨R0,hR0⟩: ∃ R0,R0=w1.heap.size:=⟨_,rfl⟩
 have hz1:=hs.size
 have hz2:=He2.out
 have hin:NumIn w (w1.alloc (.cells #[.int .i64 r.kind, .int .i64 r.a, .int .i64 r.b, .int .i64 r.c] 76)) bb B0 l.tail loops main ((d:Int)+1) P0 D0 R0 r:=⟨hb.new (Since.alloc (fun _=>False) w1 _),((Hw0.out.mono (fun _ f=>f.elim)).trans hs).trans (Since.alloc _ _ _),by rw [hR0,box_cell (Below.refl _ _)];rfl,by rw [hR0,box_cell (Below.refl _ _)];rfl,by rw [hR0,box_cell (Below.refl _ _)];rfl,
  by have h0:=He0.out;rw [Nat.add_zero,←hP0] at h0;exact ((Since.alloc (fun _=>False) w1 _).cell (by omega) (fun f=>f)).trans ((hs.cell (by omega) (by omega)).trans (by simp [World.cell?,h0])),
  by have h0:=He1.out;rw [←hD0] at h0;exact ((Since.alloc (fun _=>False) w1 _).cell (by omega) (fun f=>f)).trans ((hs.cell (by omega) (by omega)).trans (by simp [World.cell?,h0])),by simp;omega⟩
 rw [←hD0,←hP0,←hR0]
 obtain ⟨hb',hs',k0,k1,k2,p0,d0,l1,l2,l3,hzR⟩:=hin
 clear He0 He1 He2 Hw0 hb hs hz1 hz2 hP0 hD0 hR0 Hn
 generalize w1.alloc (.cells #[.int .i64 r.kind, .int .i64 r.a, .int .i64 r.b, .int .i64 r.c] 76)=w2 at *
 obtain ⟨vT,c0,aT,cT,rfl,-,h36,-,-⟩:=hb'.c0
 have hlI:(l.tail.length:Int)≤36:=by omega
 generalize l.tail.length=nT at *
 go_wp2_with fail
 refine (picked_nat r.kind 14 _ i0 (by decide) (by decide)).mono ?_
 rintro e wp ⟨rfl,rfl⟩
 rw [Hk.out]
 obtain ⟨K0,hK0⟩: ∃ K0:Bool,True:=⟨true,trivial⟩
 rcases hk3 with rfl|rfl|rfl
 ·
  go_wp2_with fail
  refine tGo hb' hs' [(P0,0, .pointer (some ⟨bb,0,none⟩)),(D0,0, .int .i64 ((d:Int)+1)),(R0,1, .int .i64 r.a)] ⟨p0,d0,k1,trivial⟩ (by simp only [CZ,and_true];omega) 16 (fun wr1 h1=>?_)
  refine tRd 0 h1.c ?_
  refine tRd 5 h1.c ?_
  refine tRd 6 h1.c ?_
  refine tRd 12 h1.c ?_
  refine tP2 1 4 (fun K hK=>?_) (fun K hK=>?_)
  ·
   go_simp
   go_at_call 50
   refine (sub_any Hsub.out (by omega) h1.b (h1.c.1) (h1.c.2.1)).mono ?_
   rintro e wr2 ⟨rfl,hb,hv⟩
   have h2:=h1.call hb hv
   clear hb hv
   refine tNx hK h2.c ?_
   clear hK K
   refine tRd 2 h2.c ?_
   refine tRd 3 h2.c ?_
   refine tP2 4 7 (fun K hK=>?_) (fun K hK=>?_)
   ·
    go_simp
    obtain ⟨g,hg⟩: ∃ g,g=wr2.heap.size:=⟨_,rfl⟩
    rw [←hg]
    revert g
    refine tRow hK h2 rowOps r.a hq (fun g3 wr3 h3=>?_)
    clear hK K
    refine tP1 7 (fun K hK=>?_)
    go_simp
    go_at_call 7
    refine (picked_nat r.a 3 _ i1 (by decide) (by decide)).mono ?_
    rintro e wp ⟨rfl,rfl⟩
    rw [hq]
    refine tNx hK h3.c ?_
    clear hK K
    refine tRd 8 h3.c ?_
    refine tRd 9 h3.c ?_
    refine tRd 10 h3.c ?_
    refine tRd 11 h3.c ?_
    refine tP1 13 (fun K hK=>?_)
    go_simp
    go_at_call 50
    refine (sub_any Hsub.out (by omega) h3.b (h3.c.2.1) (h3.c.2.2.1)).mono ?_
    rintro e wr4 ⟨rfl,hb,hv⟩
    have h4:=h3.call hb hv
    clear hb hv
    refine tNx hK h4.c ?_
    clear hK K
    refine tRd 14 h4.c ?_
    refine tRd 15 h4.c ?_
    refine tP1 16 (fun K hK=>?_)
    go_simp
    refine tLast hK ?_
    clear hK K
    refine tFin ?_
    go_wp2_with fail
    go_ret
    rw [HR.out]
    exact ⟨rfl,h4.b,h4.s⟩
   ·
    go_simp
    go_at_call 7
    refine (picked_nat r.a 3 _ i1 (by decide) (by decide)).mono ?_
    rintro e wp ⟨rfl,rfl⟩
    rw [hq]
    refine tNx hK h2.c ?_
    clear hK K
    refine tP2 4 13 (fun K hK=>?_) (fun K hK=>?_)
    ·
     go_simp
     obtain ⟨g,hg⟩: ∃ g,g=wr2.heap.size:=⟨_,rfl⟩
     rw [←hg]
     revert g
     refine tRow hK h2 rowOps r.a hq (fun g5 wr5 h5=>?_)
     clear hK K
     refine tRd 8 h5.c ?_
     refine tRd 9 h5.c ?_
     refine tRd 10 h5.c ?_
     refine tRd 11 h5.c ?_
     refine tP1 13 (fun K hK=>?_)
     go_simp
     go_at_call 50
     refine (sub_any Hsub.out (by omega) h5.b (h5.c.2.1) (h5.c.2.2.1)).mono ?_
     rintro e wr6 ⟨rfl,hb,hv⟩
     have h6:=h5.call hb hv
     clear hb hv
     refine tNx hK h6.c ?_
     clear hK K
     refine tRd 14 h6.c ?_
     refine tRd 15 h6.c ?_
     refine tP1 16 (fun K hK=>?_)
     go_simp
     refine tLast hK ?_
     clear hK K
     refine tFin ?_
     go_wp2_with fail
     go_ret
     rw [HR.out]
     exact ⟨rfl,h6.b,h6.s⟩
    ·
     go_simp
     go_at_call 50
     refine (sub_any Hsub.out (by omega) h2.b (h2.c.1) (h2.c.2.1)).mono ?_
     rintro e wr7 ⟨rfl,hb,hv⟩
     have h7:=h2.call hb hv
     clear hb hv
     refine tNx hK h7.c ?_
     clear hK K
     refine tP1 4 (fun K hK=>?_)
     go_simp
     obtain ⟨g,hg⟩: ∃ g,g=wr7.heap.size:=⟨_,rfl⟩
     rw [←hg]
     revert g
     refine tRow hK h7 rowOps r.a hq (fun g8 wr8 h8=>?_)
     clear hK K
     refine tRd 8 h8.c ?_
     refine tRd 9 h8.c ?_
     refine tRd 10 h8.c ?_
     refine tRd 11 h8.c ?_
     refine tRd 14 h8.c ?_
     refine tRd 15 h8.c ?_
     refine tP1 16 (fun K hK=>?_)
     go_simp
     refine tLast hK ?_
     clear hK K
     refine tFin ?_
     go_wp2_with fail
     go_ret
     rw [HR.out]
     exact ⟨rfl,h8.b,h8.s⟩
  ·
   go_simp
   obtain ⟨g,hg⟩: ∃ g,g=wr1.heap.size:=⟨_,rfl⟩
   rw [←hg]
   revert g
   refine tRow hK h1 rowOps r.a hq (fun g9 wr9 h9=>?_)
   clear hK K
   refine tP1 1 (fun K hK=>?_)
   go_simp
   go_at_call 50
   refine (sub_any Hsub.out (by omega) h9.b (h9.c.2.1) (h9.c.2.2.1)).mono ?_
   rintro e wr10 ⟨rfl,hb,hv⟩
   have h10:=h9.call hb hv
   clear hb hv
   refine tNx hK h10.c ?_
   clear hK K
   refine tRd 2 h10.c ?_
   refine tRd 3 h10.c ?_
   refine tP1 7 (fun K hK=>?_)
   go_simp
   go_at_call 7
   refine (picked_nat r.a 3 _ i1 (by decide) (by decide)).mono ?_
   rintro e wp ⟨rfl,rfl⟩
   rw [hq]
   refine tNx hK h10.c ?_
   clear hK K
   refine tRd 8 h10.c ?_
   refine tRd 9 h10.c ?_
   refine tRd 10 h10.c ?_
   refine tRd 11 h10.c ?_
   refine tP1 13 (fun K hK=>?_)
   go_simp
   go_at_call 50
   refine (sub_any Hsub.out (by omega) h10.b (h10.c.2.1) (h10.c.2.2.1)).mono ?_
   rintro e wr11 ⟨rfl,hb,hv⟩
   have h11:=h10.call hb hv
   clear hb hv
   refine tNx hK h11.c ?_
   clear hK K
   refine tRd 14 h11.c ?_
   refine tRd 15 h11.c ?_
   refine tP1 16 (fun K hK=>?_)
   go_simp
   refine tLast hK ?_
   clear hK K
   refine tFin ?_
   go_wp2_with fail
   go_ret
   rw [HR.out]
   exact ⟨rfl,h11.b,h11.s⟩
 ·
  go_wp2_with fail
  refine tGo hb' hs' [(P0,0, .pointer (some ⟨bb,0,none⟩)),(D0,0, .int .i64 ((d:Int)+1)),(R0,1, .int .i64 r.a)] ⟨p0,d0,k1,trivial⟩ (by simp only [CZ,and_true];omega) 16 (fun wr1 h1=>?_)
  refine tRd 0 h1.c ?_
  refine tRd 5 h1.c ?_
  refine tRd 6 h1.c ?_
  refine tRd 12 h1.c ?_
  refine tP2 1 4 (fun K hK=>?_) (fun K hK=>?_)
  ·
   go_simp
   go_at_call 50
   refine (sub_any Hsub.out (by omega) h1.b (h1.c.1) (h1.c.2.1)).mono ?_
   rintro e wr2 ⟨rfl,hb,hv⟩
   have h2:=h1.call hb hv
   clear hb hv
   refine tNx hK h2.c ?_
   clear hK K
   refine tRd 2 h2.c ?_
   refine tRd 3 h2.c ?_
   refine tP2 4 7 (fun K hK=>?_) (fun K hK=>?_)
   ·
    go_simp
    obtain ⟨g,hg⟩: ∃ g,g=wr2.heap.size:=⟨_,rfl⟩
    rw [←hg]
    revert g
    refine tRow hK h2 rowOps r.a hq (fun g3 wr3 h3=>?_)
    clear hK K
    refine tP1 7 (fun K hK=>?_)
    go_simp
    go_at_call 7
    refine (picked_nat r.a 3 _ i1 (by decide) (by decide)).mono ?_
    rintro e wp ⟨rfl,rfl⟩
    rw [hq]
    refine tNx hK h3.c ?_
    clear hK K
    refine tRd 8 h3.c ?_
    refine tRd 9 h3.c ?_
    refine tRd 10 h3.c ?_
    refine tRd 11 h3.c ?_
    refine tP1 13 (fun K hK=>?_)
    go_simp
    go_at_call 50
    refine (sub_any Hsub.out (by omega) h3.b (h3.c.2.1) (h3.c.2.2.1)).mono ?_
    rintro e wr4 ⟨rfl,hb,hv⟩
    have h4:=h3.call hb hv
    clear hb hv
    refine tNx hK h4.c ?_
    clear hK K
    refine tRd 14 h4.c ?_
    refine tRd 15 h4.c ?_
    refine tP1 16 (fun K hK=>?_)
    go_simp
    refine tLast hK ?_
    clear hK K
    refine tFin ?_
    go_wp2_with fail
    go_ret
    rw [HR.out]
    exact ⟨rfl,h4.b,h4.s⟩
   ·
    go_simp
    go_at_call 7
    refine (picked_nat r.a 3 _ i1 (by decide) (by decide)).mono ?_
    rintro e wp ⟨rfl,rfl⟩
    rw [hq]
    refine tNx hK h2.c ?_
    clear hK K
    refine tP2 4 13 (fun K hK=>?_) (fun K hK=>?_)
    ·
     go_simp
     obtain ⟨g,hg⟩: ∃ g,g=wr2.heap.size:=⟨_,rfl⟩
     rw [←hg]
     revert g
     refine tRow hK h2 rowOps r.a hq (fun g5 wr5 h5=>?_)
     clear hK K
     refine tRd 8 h5.c ?_
     refine tRd 9 h5.c ?_
     refine tRd 10 h5.c ?_
     refine tRd 11 h5.c ?_
     refine tP1 13 (fun K hK=>?_)
     go_simp
     go_at_call 50
     refine (sub_any Hsub.out (by omega) h5.b (h5.c.2.1) (h5.c.2.2.1)).mono ?_
     rintro e wr6 ⟨rfl,hb,hv⟩
     have h6:=h5.call hb hv
     clear hb hv
     refine tNx hK h6.c ?_
     clear hK K
     refine tRd 14 h6.c ?_
     refine tRd 15 h6.c ?_
     refine tP1 16 (fun K hK=>?_)
     go_simp
     refine tLast hK ?_
     clear hK K
     refine tFin ?_
     go_wp2_with fail
     go_ret
     rw [HR.out]
     exact ⟨rfl,h6.b,h6.s⟩
    ·
     go_simp
     go_at_call 50
     refine (sub_any Hsub.out (by omega) h2.b (h2.c.1) (h2.c.2.1)).mono ?_
     rintro e wr7 ⟨rfl,hb,hv⟩
     have h7:=h2.call hb hv
     clear hb hv
     refine tNx hK h7.c ?_
     clear hK K
     refine tP1 4 (fun K hK=>?_)
     go_simp
     obtain ⟨g,hg⟩: ∃ g,g=wr7.heap.size:=⟨_,rfl⟩
     rw [←hg]
     revert g
     refine tRow hK h7 rowOps r.a hq (fun g8 wr8 h8=>?_)
     clear hK K
     refine tRd 8 h8.c ?_
     refine tRd 9 h8.c ?_
     refine tRd 10 h8.c ?_
     refine tRd 11 h8.c ?_
     refine tRd 14 h8.c ?_
     refine tRd 15 h8.c ?_
     refine tP1 16 (fun K hK=>?_)
     go_simp
     refine tLast hK ?_
     clear hK K
     refine tFin ?_
     go_wp2_with fail
     go_ret
     rw [HR.out]
     exact ⟨rfl,h8.b,h8.s⟩
  ·
   go_simp
   obtain ⟨g,hg⟩: ∃ g,g=wr1.heap.size:=⟨_,rfl⟩
   rw [←hg]
   revert g
   refine tRow hK h1 rowOps r.a hq (fun g9 wr9 h9=>?_)
   clear hK K
   refine tP1 1 (fun K hK=>?_)
   go_simp
   go_at_call 50
   refine (sub_any Hsub.out (by omega) h9.b (h9.c.2.1) (h9.c.2.2.1)).mono ?_
   rintro e wr10 ⟨rfl,hb,hv⟩
   have h10:=h9.call hb hv
   clear hb hv
   refine tNx hK h10.c ?_
   clear hK K
   refine tRd 2 h10.c ?_
   refine tRd 3 h10.c ?_
   refine tP1 7 (fun K hK=>?_)
   go_simp
   go_at_call 7
   refine (picked_nat r.a 3 _ i1 (by decide) (by decide)).mono ?_
   rintro e wp ⟨rfl,rfl⟩
   rw [hq]
   refine tNx hK h10.c ?_
   clear hK K
   refine tRd 8 h10.c ?_
   refine tRd 9 h10.c ?_
   refine tRd 10 h10.c ?_
   refine tRd 11 h10.c ?_
   refine tP1 13 (fun K hK=>?_)
   go_simp
   go_at_call 50
   refine (sub_any Hsub.out (by omega) h10.b (h10.c.2.1) (h10.c.2.2.1)).mono ?_
   rintro e wr11 ⟨rfl,hb,hv⟩
   have h11:=h10.call hb hv
   clear hb hv
   refine tNx hK h11.c ?_
   clear hK K
   refine tRd 14 h11.c ?_
   refine tRd 15 h11.c ?_
   refine tP1 16 (fun K hK=>?_)
   go_simp
   refine tLast hK ?_
   clear hK K
   refine tFin ?_
   go_wp2_with fail
   go_ret
   rw [HR.out]
   exact ⟨rfl,h11.b,h11.s⟩
 ·
  go_wp2_with fail
  refine tGo hb' hs' [(P0,0, .pointer (some ⟨bb,0,none⟩)),(D0,0, .int .i64 ((d:Int)+1)),(R0,1, .int .i64 r.a)] ⟨p0,d0,k1,trivial⟩ (by simp only [CZ,and_true];omega) 16 (fun wr1 h1=>?_)
  refine tRd 0 h1.c ?_
  refine tRd 5 h1.c ?_
  refine tRd 6 h1.c ?_
  refine tRd 12 h1.c ?_
  refine tP2 1 4 (fun K hK=>?_) (fun K hK=>?_)
  ·
   go_simp
   go_at_call 50
   refine (sub_any Hsub.out (by omega) h1.b (h1.c.1) (h1.c.2.1)).mono ?_
   rintro e wr2 ⟨rfl,hb,hv⟩
   have h2:=h1.call hb hv
   clear hb hv
   refine tNx hK h2.c ?_
   clear hK K
   refine tRd 2 h2.c ?_
   refine tRd 3 h2.c ?_
   refine tP2 4 7 (fun K hK=>?_) (fun K hK=>?_)
   ·
    go_simp
    obtain ⟨g,hg⟩: ∃ g,g=wr2.heap.size:=⟨_,rfl⟩
    rw [←hg]
    revert g
    refine tRow hK h2 rowOps r.a hq (fun g3 wr3 h3=>?_)
    clear hK K
    refine tP1 7 (fun K hK=>?_)
    go_simp
    go_at_call 7
    refine (picked_nat r.a 3 _ i1 (by decide) (by decide)).mono ?_
    rintro e wp ⟨rfl,rfl⟩
    rw [hq]
    refine tNx hK h3.c ?_
    clear hK K
    refine tRd 8 h3.c ?_
    refine tRd 9 h3.c ?_
    refine tRd 10 h3.c ?_
    refine tRd 11 h3.c ?_
    refine tP1 13 (fun K hK=>?_)
    go_simp
    go_at_call 50
    refine (sub_any Hsub.out (by omega) h3.b (h3.c.2.1) (h3.c.2.2.1)).mono ?_
    rintro e wr4 ⟨rfl,hb,hv⟩
    have h4:=h3.call hb hv
    clear hb hv
    refine tNx hK h4.c ?_
    clear hK K
    refine tRd 14 h4.c ?_
    refine tRd 15 h4.c ?_
    refine tP1 16 (fun K hK=>?_)
    go_simp
    refine tLast hK ?_
    clear hK K
    refine tFin ?_
    go_wp2_with fail
    go_ret
    rw [HR.out]
    exact ⟨rfl,h4.b,h4.s⟩
   ·
    go_simp
    go_at_call 7
    refine (picked_nat r.a 3 _ i1 (by decide) (by decide)).mono ?_
    rintro e wp ⟨rfl,rfl⟩
    rw [hq]
    refine tNx hK h2.c ?_
    clear hK K
    refine tP2 4 13 (fun K hK=>?_) (fun K hK=>?_)
    ·
     go_simp
     obtain ⟨g,hg⟩: ∃ g,g=wr2.heap.size:=⟨_,rfl⟩
     rw [←hg]
     revert g
     refine tRow hK h2 rowOps r.a hq (fun g5 wr5 h5=>?_)
     clear hK K
     refine tRd 8 h5.c ?_
     refine tRd 9 h5.c ?_
     refine tRd 10 h5.c ?_
     refine tRd 11 h5.c ?_
     refine tP1 13 (fun K hK=>?_)
     go_simp
     go_at_call 50
     refine (sub_any Hsub.out (by omega) h5.b (h5.c.2.1) (h5.c.2.2.1)).mono ?_
     rintro e wr6 ⟨rfl,hb,hv⟩
     have h6:=h5.call hb hv
     clear hb hv
     refine tNx hK h6.c ?_
     clear hK K
     refine tRd 14 h6.c ?_
     refine tRd 15 h6.c ?_
     refine tP1 16 (fun K hK=>?_)
     go_simp
     refine tLast hK ?_
     clear hK K
     refine tFin ?_
     go_wp2_with fail
     go_ret
     rw [HR.out]
     exact ⟨rfl,h6.b,h6.s⟩
    ·
     go_simp
     go_at_call 50
     refine (sub_any Hsub.out (by omega) h2.b (h2.c.1) (h2.c.2.1)).mono ?_
     rintro e wr7 ⟨rfl,hb,hv⟩
     have h7:=h2.call hb hv
     clear hb hv
     refine tNx hK h7.c ?_
     clear hK K
     refine tP1 4 (fun K hK=>?_)
     go_simp
     obtain ⟨g,hg⟩: ∃ g,g=wr7.heap.size:=⟨_,rfl⟩
     rw [←hg]
     revert g
     refine tRow hK h7 rowOps r.a hq (fun g8 wr8 h8=>?_)
     clear hK K
     refine tRd 8 h8.c ?_
     refine tRd 9 h8.c ?_
     refine tRd 10 h8.c ?_
     refine tRd 11 h8.c ?_
     refine tRd 14 h8.c ?_
     refine tRd 15 h8.c ?_
     refine tP1 16 (fun K hK=>?_)
     go_simp
     refine tLast hK ?_
     clear hK K
     refine tFin ?_
     go_wp2_with fail
     go_ret
     rw [HR.out]
     exact ⟨rfl,h8.b,h8.s⟩
  ·
   go_simp
   obtain ⟨g,hg⟩: ∃ g,g=wr1.heap.size:=⟨_,rfl⟩
   rw [←hg]
   revert g
   refine tRow hK h1 rowOps r.a hq (fun g9 wr9 h9=>?_)
   clear hK K
   refine tP1 1 (fun K hK=>?_)
   go_simp
   go_at_call 50
   refine (sub_any Hsub.out (by omega) h9.b (h9.c.2.1) (h9.c.2.2.1)).mono ?_
   rintro e wr10 ⟨rfl,hb,hv⟩
   have h10:=h9.call hb hv
   clear hb hv
   refine tNx hK h10.c ?_
   clear hK K
   refine tRd 2 h10.c ?_
   refine tRd 3 h10.c ?_
   refine tP1 7 (fun K hK=>?_)
   go_simp
   go_at_call 7
   refine (picked_nat r.a 3 _ i1 (by decide) (by decide)).mono ?_
   rintro e wp ⟨rfl,rfl⟩
   rw [hq]
   refine tNx hK h10.c ?_
   clear hK K
   refine tRd 8 h10.c ?_
   refine tRd 9 h10.c ?_
   refine tRd 10 h10.c ?_
   refine tRd 11 h10.c ?_
   refine tP1 13 (fun K hK=>?_)
   go_simp
   go_at_call 50
   refine (sub_any Hsub.out (by omega) h10.b (h10.c.2.1) (h10.c.2.2.1)).mono ?_
   rintro e wr11 ⟨rfl,hb,hv⟩
   have h11:=h10.call hb hv
   clear hb hv
   refine tNx hK h11.c ?_
   clear hK K
   refine tRd 14 h11.c ?_
   refine tRd 15 h11.c ?_
   refine tP1 16 (fun K hK=>?_)
   go_simp
   refine tLast hK ?_
   clear hK K
   refine tFin ?_
   go_wp2_with fail
   go_ret
   rw [HR.out]
   exact ⟨rfl,h11.b,h11.s⟩
end Go.Proofs.YtkopjgnjflhkeaaDoor

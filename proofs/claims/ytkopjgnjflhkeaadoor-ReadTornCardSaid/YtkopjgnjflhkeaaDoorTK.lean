import Derived.Test.YtkopjgnjflhkeaaDoorTJ
namespace Go.Proofs.YtkopjgnjflhkeaaDoor
open Go.RowKit Go.Pst
set_option linter.unusedVariables false
set_option linter.unusedSimpArgs false
set_option maxRecDepth 100000 in
set_option maxHeartbeats 40000000 in
theorem num_4 {main:Bool} {d:Nat} (hd:d≤5) {sub lst:BD} (hsub:NumSaid main d sub) (hlst:ListSaid main d lst) {w:World} {bb B0:Nat} {l:List PRaw} {loops:Int} (h:BardAt w bb B0 l loops main) (hl0:l.tail≠[]) (hk:pickN (firstB l).kind 14=4):
 Calls Tryd.prog 30 #[.pointer (some ⟨bb,0,none⟩), .int .i64 ((d+1:Nat):Int)] w (BardEnd w bb B0 loops main (numG main sub (textB d) lst l)):=by
 obtain ⟨i0,i1,i2,i3⟩:=firstB_in h
 obtain ⟨r,hr⟩: ∃ r,r=firstB l:=⟨_,rfl⟩
 rw [←hr] at i0 i1 i2 i3
 obtain ⟨q,hq⟩: ∃ q,pickN r.a 4=q:=⟨_,rfl⟩
 have qlt:q<4:=by rw [←hq];exact pickN_lt _ _ (by decide)
 have qI:(q:Int)<4:=by omega
 have HR:=zh (show numG main sub (textB d) lst l=(((⟨#[108,91]⟩:ByteArray)++pickS rowL r.a)++(⟨#[93]⟩:ByteArray),l.tail) by rw [numG_eq,if_neg hl0,if_neg (by omega),if_neg (by omega),if_pos hk,←hr])
 rw [←hr] at hk
 obtain ⟨kk,hkk⟩: ∃ kk,pickN r.kind 14=kk:=⟨_,rfl⟩
 rw [hkk] at hk
 have hk14:kk<14:=by rw [←hkk];exact pickN_lt _ _ (by decide)
 have Hk:=zh hkk
 subst hk
 have z1:=hsub.1 l.tail
 have z2:=hsub.1 (sub l.tail).2
 have z3:=textB_le (d:=d) (by omega) l.tail
 have z4:=textB_le (d:=d) (by omega) (sub l.tail).2
 have y1:=pickS_le rowOps r.a 1 (by decide)
 have y2:=pickS_le rowDiv r.a 1 (by decide)
 have y3:=pickS_le rowBy r.b 8 (by decide)
 have y4:=pickS_le rowL r.a 10 (by decide)
 have y5:=pickS_le rowS r.a 10 (by decide)
 have hdI:(d:Int)≤5:=by omega
 have hnd: ¬((d:Int)+1≤0):=by omega
 have hdc:((d+1:Nat):Int)=(d:Int)+1:=rfl
 have hln:((l.tail.length:Int)==0)=false:=by have:=List.length_pos_iff.2 hl0;rw [beq_eq_false_iff_ne];omega
 have Hsub:=zh hsub
 have hlz:=hlst.1
 have z5:=hlz (textB d l.tail).2
 have Hlst:=zh hlst
 clear hsub hlst hlz hkk hl0
 have hw0:Since (fun _=>False) w ((w.alloc (.cells #[.pointer (some ⟨bb,0,none⟩)] 56)).alloc (.cells #[.int .i64 ((d:Int)+1)] 3)):=(Since.alloc _ _ _).trans (Since.alloc _ _ _)
 have e0:((w.alloc (.cells #[.pointer (some ⟨bb,0,none⟩)] 56)).alloc (.cells #[.int .i64 ((d:Int)+1)] 3)).heap[w.heap.size+0]?=some (.cells #[.pointer (some ⟨bb,0,none⟩)] 56):=allocs_get [(.cells #[.pointer (some ⟨bb,0,none⟩)] 56),(.cells #[.int .i64 ((d:Int)+1)] 3)] w 0 (by simp)
 have e1:((w.alloc (.cells #[.pointer (some ⟨bb,0,none⟩)] 56)).alloc (.cells #[.int .i64 ((d:Int)+1)] 3)).heap[w.heap.size+1]?=some (.cells #[.int .i64 ((d:Int)+1)] 3):=allocs_get [(.cells #[.pointer (some ⟨bb,0,none⟩)] 56),(.cells #[.int .i64 ((d:Int)+1)] 3)] w 1 (by simp)
 have e2:((w.alloc (.cells #[.pointer (some ⟨bb,0,none⟩)] 56)).alloc (.cells #[.int .i64 ((d:Int)+1)] 3)).heap.size=w.heap.size+2:=by simp
 have hb0:=h.new hw0
 have hnx:=next_any hb0
 rw [←hr] at hnx
 have Hn:=zh hnx
 have Hr:=zh hr
 have hl:=h.lt
 have He0:=zh e0
 have He1:=zh e1
 have He2:=zh e2
 have Hw0:=zh hw0
 clear hnx hr h e0 e1 e2 hw0 hb0
 go_enter Tryd.func30,Tryd.ntmps30
 go_wp2_with fail
 refine Hn.out.mono ?_
 rintro e w1 ⟨rfl,hb,hs⟩
 unfold rawC
 go_upto_region 2 with fail
 obtain ⟨P0,hP0⟩: ∃ P0,P0=w.heap.size:=⟨_,rfl⟩
 obtain ⟨D0,hD0⟩: ∃ D0,D0=w.heap.size+1:=⟨_,rfl⟩
 obtain ⟨R0,hR0⟩: ∃ R0,R0=w1.heap.size:=⟨_,rfl⟩
 have hz1:=hs.size
 have hz2:=He2.out
 have hin:NumIn w (w1.alloc (.cells #[.int .i64 r.kind, .int .i64 r.a, .int .i64 r.b, .int .i64 r.c] 76)) bb B0 l.tail loops main ((d:Int)+1) P0 D0 R0 r:=⟨hb.new (Since.alloc (fun _=>False) w1 _),((Hw0.out.mono (fun _ f=>f.elim)).trans hs).trans (Since.alloc _ _ _),by rw [hR0,box_cell (Below.refl _ _)];rfl,by rw [hR0,box_cell (Below.refl _ _)];rfl,by rw [hR0,box_cell (Below.refl _ _)];rfl,
  by have h0:=He0.out;rw [Nat.add_zero,←hP0] at h0;exact ((Since.alloc (fun _=>False) w1 _).cell (by omega) (fun f=>f)).trans ((hs.cell (by omega) (by omega)).trans (by simp [World.cell?,h0])),
  by have h0:=He1.out;rw [←hD0] at h0;exact ((Since.alloc (fun _=>False) w1 _).cell (by omega) (fun f=>f)).trans ((hs.cell (by omega) (by omega)).trans (by simp [World.cell?,h0])),by simp;omega⟩
 rw [←hD0,←hP0,←hR0]
 obtain ⟨hb',hs',k0,k1,k2,p0,d0,l1,l2,l3,hzR⟩:=hin
 clear He0 He1 He2 Hw0 hb hs hz1 hz2 hP0 hD0 hR0 Hn
 generalize w1.alloc (.cells #[.int .i64 r.kind, .int .i64 r.a, .int .i64 r.b, .int .i64 r.c] 76)=w2 at *
 obtain ⟨vT,c0,aT,cT,rfl,-,h36,-,-⟩:=hb'.c0
 have hlI:(l.tail.length:Int)≤36:=by omega
 generalize l.tail.length=nT at *
 go_wp2_with fail
 refine (picked_nat r.kind 14 _ i0 (by decide) (by decide)).mono ?_
 rintro e wp ⟨rfl,rfl⟩
 rw [Hk.out]
 go_wp2_with fail
 refine (picked_nat r.a 4 _ i1 (by decide) (by decide)).mono ?_
 rintro e wp ⟨rfl,rfl⟩
 rw [hq]
 have c:(w2.alloc (.cells #[.string ⟨#[48]⟩, .string ⟨#[49]⟩, .string ⟨#[120]⟩, .string ⟨#[108,101,110,40,108,41,32,45,32,49]⟩] 9)).cell? ⟨w2.heap.size,q,none⟩=some (.string (pickS rowL r.a)):=pick_cell rowL r.a q hq (by decide) 9 w2
 have hb2:=hb'.new (Since.alloc _ _ (.cells #[.string ⟨#[48]⟩, .string ⟨#[49]⟩, .string ⟨#[120]⟩, .string ⟨#[108,101,110,40,108,41,32,45,32,49]⟩] 9))
 have hs2:=hs'.trans (Since.alloc _ _ (.cells #[.string ⟨#[48]⟩, .string ⟨#[49]⟩, .string ⟨#[120]⟩, .string ⟨#[108,101,110,40,108,41,32,45,32,49]⟩] 9))
 generalize w2.alloc (.cells #[.string ⟨#[48]⟩, .string ⟨#[49]⟩, .string ⟨#[120]⟩, .string ⟨#[108,101,110,40,108,41,32,45,32,49]⟩] 9)=w3 at *
 go_wp2_with fail
 go_ret
 rw [HR.out]
 exact ⟨rfl,hb2,hs2⟩
set_option maxRecDepth 100000 in
set_option maxHeartbeats 40000000 in
theorem num_5 {main:Bool} {d:Nat} (hd:d≤5) {sub lst:BD} (hsub:NumSaid main d sub) (hlst:ListSaid main d lst) {w:World} {bb B0:Nat} {l:List PRaw} {loops:Int} (h:BardAt w bb B0 l loops main) (hl0:l.tail≠[]) (hk:pickN (firstB l).kind 14=5):
 Calls Tryd.prog 30 #[.pointer (some ⟨bb,0,none⟩), .int .i64 ((d+1:Nat):Int)] w (BardEnd w bb B0 loops main (numG main sub (textB d) lst l)):=by
 obtain ⟨i0,i1,i2,i3⟩:=firstB_in h
 obtain ⟨r,hr⟩: ∃ r,r=firstB l:=⟨_,rfl⟩
 rw [←hr] at i0 i1 i2 i3
 have HR:=zh (show numG main sub (textB d) lst l=(((⟨#[109,91]⟩:ByteArray)++(sub l.tail).1)++(⟨#[93]⟩:ByteArray),(sub l.tail).2) by rw [numG_eq,if_neg hl0,if_neg (by omega),if_neg (by omega),if_neg (by omega),if_pos hk])
 rw [←hr] at hk
 obtain ⟨kk,hkk⟩: ∃ kk,pickN r.kind 14=kk:=⟨_,rfl⟩
 rw [hkk] at hk
 have hk14:kk<14:=by rw [←hkk];exact pickN_lt _ _ (by decide)
 have Hk:=zh hkk
 subst hk
 have z1:=hsub.1 l.tail
 have z2:=hsub.1 (sub l.tail).2
 have z3:=textB_le (d:=d) (by omega) l.tail
 have z4:=textB_le (d:=d) (by omega) (sub l.tail).2
 have y1:=pickS_le rowOps r.a 1 (by decide)
 have y2:=pickS_le rowDiv r.a 1 (by decide)
 have y3:=pickS_le rowBy r.b 8 (by decide)
 have y4:=pickS_le rowL r.a 10 (by decide)
 have y5:=pickS_le rowS r.a 10 (by decide)
 have hdI:(d:Int)≤5:=by omega
 have hnd: ¬((d:Int)+1≤0):=by omega
 have hdc:((d+1:Nat):Int)=(d:Int)+1:=rfl
 have hln:((l.tail.length:Int)==0)=false:=by have:=List.length_pos_iff.2 hl0;rw [beq_eq_false_iff_ne];omega
 have Hsub:=zh hsub
 have hlz:=hlst.1
 have z5:=hlz (textB d l.tail).2
 have Hlst:=zh hlst
 clear hsub hlst hlz hkk hl0
 have hw0:Since (fun _=>False) w ((w.alloc (.cells #[.pointer (some ⟨bb,0,none⟩)] 56)).alloc (.cells #[.int .i64 ((d:Int)+1)] 3)):=(Since.alloc _ _ _).trans (Since.alloc _ _ _)
 have e0:((w.alloc (.cells #[.pointer (some ⟨bb,0,none⟩)] 56)).alloc (.cells #[.int .i64 ((d:Int)+1)] 3)).heap[w.heap.size+0]?=some (.cells #[.pointer (some ⟨bb,0,none⟩)] 56):=allocs_get [(.cells #[.pointer (some ⟨bb,0,none⟩)] 56),(.cells #[.int .i64 ((d:Int)+1)] 3)] w 0 (by simp)
 have e1:((w.alloc (.cells #[.pointer (some ⟨bb,0,none⟩)] 56)).alloc (.cells #[.int .i64 ((d:Int)+1)] 3)).heap[w.heap.size+1]?=some (.cells #[.int .i64 ((d:Int)+1)] 3):=allocs_get [(.cells #[.pointer (some ⟨bb,0,none⟩)] 56),(.cells #[.int .i64 ((d:Int)+1)] 3)] w 1 (by simp)
 have e2:((w.alloc (.cells #[.pointer (some ⟨bb,0,none⟩)] 56)).alloc (.cells #[.int .i64 ((d:Int)+1)] 3)).heap.size=w.heap.size+2:=by simp
 have hb0:=h.new hw0
 have hnx:=next_any hb0
 rw [←hr] at hnx
 have Hn:=zh hnx
 have Hr:=zh hr
 have hl:=h.lt
 have He0:=zh e0
 have He1:=zh e1
 have He2:=zh e2
 have Hw0:=zh hw0
 clear hnx hr h e0 e1 e2 hw0 hb0
 go_enter Tryd.func30,Tryd.ntmps30
 go_wp2_with fail
 refine Hn.out.mono ?_
 rintro e w1 ⟨rfl,hb,hs⟩
 unfold rawC
 go_upto_region 2 with fail
 obtain ⟨P0,hP0⟩: ∃ P0,P0=w.heap.size:=⟨_,rfl⟩
 obtain ⟨D0,hD0⟩: ∃ D0,D0=w.heap.size+1:=⟨_,rfl⟩
 obtain ⟨R0,hR0⟩: ∃ R0,R0=w1.heap.size:=⟨_,rfl⟩
 have hz1:=hs.size
 have hz2:=He2.out
 have hin:NumIn w (w1.alloc (.cells #[.int .i64 r.kind, .int .i64 r.a, .int .i64 r.b, .int .i64 r.c] 76)) bb B0 l.tail loops main ((d:Int)+1) P0 D0 R0 r:=⟨hb.new (Since.alloc (fun _=>False) w1 _),((Hw0.out.mono (fun _ f=>f.elim)).trans hs).trans (Since.alloc _ _ _),by rw [hR0,box_cell (Below.refl _ _)];rfl,by rw [hR0,box_cell (Below.refl _ _)];rfl,by rw [hR0,box_cell (Below.refl _ _)];rfl,
  by have h0:=He0.out;rw [Nat.add_zero,←hP0] at h0;exact ((Since.alloc (fun _=>False) w1 _).cell (by omega) (fun f=>f)).trans ((hs.cell (by omega) (by omega)).trans (by simp [World.cell?,h0])),
  by have h0:=He1.out;rw [←hD0] at h0;exact ((Since.alloc (fun _=>False) w1 _).cell (by omega) (fun f=>f)).trans ((hs.cell (by omega) (by omega)).trans (by simp [World.cell?,h0])),by simp;omega⟩
 rw [←hD0,←hP0,←hR0]
 obtain ⟨hb',hs',k0,k1,k2,p0,d0,l1,l2,l3,hzR⟩:=hin
 clear He0 He1 He2 Hw0 hb hs hz1 hz2 hP0 hD0 hR0 Hn
 generalize w1.alloc (.cells #[.int .i64 r.kind, .int .i64 r.a, .int .i64 r.b, .int .i64 r.c] 76)=w2 at *
 obtain ⟨vT,c0,aT,cT,rfl,-,h36,-,-⟩:=hb'.c0
 have hlI:(l.tail.length:Int)≤36:=by omega
 generalize l.tail.length=nT at *
 go_wp2_with fail
 refine (picked_nat r.kind 14 _ i0 (by decide) (by decide)).mono ?_
 rintro e wp ⟨rfl,rfl⟩
 rw [Hk.out]
 go_wp2_with fail
 refine (sub_any Hsub.out (by omega) hb' p0 d0).mono ?_
 rintro e w3 ⟨rfl,hb3,hs3⟩
 go_wp2_with fail
 go_ret
 rw [HR.out]
 exact ⟨rfl,hb3,hs'.trans hs3⟩
set_option maxRecDepth 100000 in
set_option maxHeartbeats 40000000 in
theorem num_6 {main:Bool} {d:Nat} (hd:d≤5) {sub lst:BD} (hsub:NumSaid main d sub) (hlst:ListSaid main d lst) {w:World} {bb B0:Nat} {l:List PRaw} {loops:Int} (h:BardAt w bb B0 l loops main) (hl0:l.tail≠[]) (hk:pickN (firstB l).kind 14=6):
 Calls Tryd.prog 30 #[.pointer (some ⟨bb,0,none⟩), .int .i64 ((d+1:Nat):Int)] w (BardEnd w bb B0 loops main (numG main sub (textB d) lst l)):=by
 obtain ⟨i0,i1,i2,i3⟩:=firstB_in h
 obtain ⟨r,hr⟩: ∃ r,r=firstB l:=⟨_,rfl⟩
 rw [←hr] at i0 i1 i2 i3
 obtain ⟨q,hq⟩: ∃ q,pickN r.a 3=q:=⟨_,rfl⟩
 have qlt:q<3:=by rw [←hq];exact pickN_lt _ _ (by decide)
 have qI:(q:Int)<3:=by omega
 have HR:=zh (show numG main sub (textB d) lst l=(((⟨#[115,91]⟩:ByteArray)++pickS rowS r.a)++(⟨#[93]⟩:ByteArray),l.tail) by rw [numG_eq,if_neg hl0,if_neg (by omega),if_neg (by omega),if_neg (by omega),if_neg (by omega),if_pos hk,←hr])
 rw [←hr] at hk
 obtain ⟨kk,hkk⟩: ∃ kk,pickN r.kind 14=kk:=⟨_,rfl⟩
 rw [hkk] at hk
 have hk14:kk<14:=by rw [←hkk];exact pickN_lt _ _ (by decide)
 have Hk:=zh hkk
 subst hk
 have z1:=hsub.1 l.tail
 have z2:=hsub.1 (sub l.tail).2
 have z3:=textB_le (d:=d) (by omega) l.tail
 have z4:=textB_le (d:=d) (by omega) (sub l.tail).2
 have y1:=pickS_le rowOps r.a 1 (by decide)
 have y2:=pickS_le rowDiv r.a 1 (by decide)
 have y3:=pickS_le rowBy r.b 8 (by decide)
 have y4:=pickS_le rowL r.a 10 (by decide)
 have y5:=pickS_le rowS r.a 10 (by decide)
 have hdI:(d:Int)≤5:=by omega
 have hnd: ¬((d:Int)+1≤0):=by omega
 have hdc:((d+1:Nat):Int)=(d:Int)+1:=rfl
 have hln:((l.tail.length:Int)==0)=false:=by have:=List.length_pos_iff.2 hl0;rw [beq_eq_false_iff_ne];omega
 have Hsub:=zh hsub
 have hlz:=hlst.1
 have z5:=hlz (textB d l.tail).2
 have Hlst:=zh hlst
 clear hsub hlst hlz hkk hl0
 have hw0:Since (fun _=>False) w ((w.alloc (.cells #[.pointer (some ⟨bb,0,none⟩)] 56)).alloc (.cells #[.int .i64 ((d:Int)+1)] 3)):=(Since.alloc _ _ _).trans (Since.alloc _ _ _)
 have e0:((w.alloc (.cells #[.pointer (some ⟨bb,0,none⟩)] 56)).alloc (.cells #[.int .i64 ((d:Int)+1)] 3)).heap[w.heap.size+0]?=some (.cells #[.pointer (some ⟨bb,0,none⟩)] 56):=allocs_get [(.cells #[.pointer (some ⟨bb,0,none⟩)] 56),(.cells #[.int .i64 ((d:Int)+1)] 3)] w 0 (by simp)
 have e1:((w.alloc (.cells #[.pointer (some ⟨bb,0,none⟩)] 56)).alloc (.cells #[.int .i64 ((d:Int)+1)] 3)).heap[w.heap.size+1]?=some (.cells #[.int .i64 ((d:Int)+1)] 3):=allocs_get [(.cells #[.pointer (some ⟨bb,0,none⟩)] 56),(.cells #[.int .i64 ((d:Int)+1)] 3)] w 1 (by simp)
 have e2:((w.alloc (.cells #[.pointer (some ⟨bb,0,none⟩)] 56)).alloc (.cells #[.int .i64 ((d:Int)+1)] 3)).heap.size=w.heap.size+2:=by simp
 have hb0:=h.new hw0
 have hnx:=next_any hb0
 rw [←hr] at hnx
 have Hn:=zh hnx
 have Hr:=zh hr
 have hl:=h.lt
 have He0:=zh e0
 have He1:=zh e1
 have He2:=zh e2
 have Hw0:=zh hw0
 clear hnx hr h e0 e1 e2 hw0 hb0
 go_enter Tryd.func30,Tryd.ntmps30
 go_wp2_with fail
 refine Hn.out.mono ?_
 rintro e w1 ⟨rfl,hb,hs⟩
 unfold rawC
 go_upto_region 2 with fail
 obtain ⟨P0,hP0⟩: ∃ P0,P0=w.heap.size:=⟨_,rfl⟩
 obtain ⟨D0,hD0⟩: ∃ D0,D0=w.heap.size+1:=⟨_,rfl⟩
 obtain ⟨R0,hR0⟩: ∃ R0,R0=w1.heap.size:=⟨_,rfl⟩
 have hz1:=hs.size
 have hz2:=He2.out
 have hin:NumIn w (w1.alloc (.cells #[.int .i64 r.kind, .int .i64 r.a, .int .i64 r.b, .int .i64 r.c] 76)) bb B0 l.tail loops main ((d:Int)+1) P0 D0 R0 r:=⟨hb.new (Since.alloc (fun _=>False) w1 _),((Hw0.out.mono (fun _ f=>f.elim)).trans hs).trans (Since.alloc _ _ _),by rw [hR0,box_cell (Below.refl _ _)];rfl,by rw [hR0,box_cell (Below.refl _ _)];rfl,by rw [hR0,box_cell (Below.refl _ _)];rfl,
  by have h0:=He0.out;rw [Nat.add_zero,←hP0] at h0;exact ((Since.alloc (fun _=>False) w1 _).cell (by omega) (fun f=>f)).trans ((hs.cell (by omega) (by omega)).trans (by simp [World.cell?,h0])),
  by have h0:=He1.out;rw [←hD0] at h0;exact ((Since.alloc (fun _=>False) w1 _).cell (by omega) (fun f=>f)).trans ((hs.cell (by omega) (by omega)).trans (by simp [World.cell?,h0])),by simp;omega⟩
 rw [←hD0,←hP0,←hR0]
 obtain ⟨hb',hs',k0,k1,k2,p0,d0,l1,l2,l3,hzR⟩:=hin
 clear He0 He1 He2 Hw0 hb hs hz1 hz2 hP0 hD0 hR0 Hn
 generalize w1.alloc (.cells #[.int .i64 r.kind, .int .i64 r.a, .int .i64 r.b, .int .i64 r.c] 76)=w2 at *
 obtain ⟨vT,c0,aT,cT,rfl,-,h36,-,-⟩:=hb'.c0
 have hlI:(l.tail.length:Int)≤36:=by omega
 generalize l.tail.length=nT at *
 go_wp2_with fail
 refine (picked_nat r.kind 14 _ i0 (by decide) (by decide)).mono ?_
 rintro e wp ⟨rfl,rfl⟩
 rw [Hk.out]
 go_wp2_with fail
 refine (picked_nat r.a 3 _ i1 (by decide) (by decide)).mono ?_
 rintro e wp ⟨rfl,rfl⟩
 rw [hq]
 have c:(w2.alloc (.cells #[.string ⟨#[48]⟩, .string ⟨#[120]⟩, .string ⟨#[108,101,110,40,115,41,32,45,32,49]⟩] 9)).cell? ⟨w2.heap.size,q,none⟩=some (.string (pickS rowS r.a)):=pick_cell rowS r.a q hq (by decide) 9 w2
 have hb2:=hb'.new (Since.alloc _ _ (.cells #[.string ⟨#[48]⟩, .string ⟨#[120]⟩, .string ⟨#[108,101,110,40,115,41,32,45,32,49]⟩] 9))
 have hs2:=hs'.trans (Since.alloc _ _ (.cells #[.string ⟨#[48]⟩, .string ⟨#[120]⟩, .string ⟨#[108,101,110,40,115,41,32,45,32,49]⟩] 9))
 generalize w2.alloc (.cells #[.string ⟨#[48]⟩, .string ⟨#[120]⟩, .string ⟨#[108,101,110,40,115,41,32,45,32,49]⟩] 9)=w3 at *
 go_wp2_with fail
 go_ret
 rw [HR.out]
 exact ⟨rfl,hb2,hs2⟩
set_option maxRecDepth 100000 in
set_option maxHeartbeats 40000000 in
theorem num_9 {main:Bool} {d:Nat} (hd:d≤5) {sub lst:BD} (hsub:NumSaid main d sub) (hlst:ListSaid main d lst) {w:World} {bb B0:Nat} {l:List PRaw} {loops:Int} (h:BardAt w bb B0 l loops main) (hl0:l.tail≠[]) (hk:pickN (firstB l).kind 14=9):
 Calls Tryd.prog 30 #[.pointer (some ⟨bb,0,none⟩), .int .i64 ((d+1:Nat):Int)] w (BardEnd w bb B0 loops main (numG main sub (textB d) lst l)):=by
 obtain ⟨i0,i1,i2,i3⟩:=firstB_in h
 obtain ⟨r,hr⟩: ∃ r,r=firstB l:=⟨_,rfl⟩
 rw [←hr] at i0 i1 i2 i3
 have HR:=zh (show numG main sub (textB d) lst l=(((⟨#[40,45]⟩:ByteArray)++(sub l.tail).1)++(⟨#[41]⟩:ByteArray),(sub l.tail).2) by rw [numG_eq,if_neg hl0,if_neg (by omega),if_neg (by omega),if_neg (by omega),if_neg (by omega),if_neg (by omega),if_neg (by omega),if_neg (by omega),if_pos hk])
 rw [←hr] at hk
 obtain ⟨kk,hkk⟩: ∃ kk,pickN r.kind 14=kk:=⟨_,rfl⟩
 rw [hkk] at hk
 have hk14:kk<14:=by rw [←hkk];exact pickN_lt _ _ (by decide)
 have Hk:=zh hkk
 subst hk
 have z1:=hsub.1 l.tail
 have z2:=hsub.1 (sub l.tail).2
 have z3:=textB_le (d:=d) (by omega) l.tail
 have z4:=textB_le (d:=d) (by omega) (sub l.tail).2
 have y1:=pickS_le rowOps r.a 1 (by decide)
 have y2:=pickS_le rowDiv r.a 1 (by decide)
 have y3:=pickS_le rowBy r.b 8 (by decide)
 have y4:=pickS_le rowL r.a 10 (by decide)
 have y5:=pickS_le rowS r.a 10 (by decide)
 have hdI:(d:Int)≤5:=by omega
 have hnd: ¬((d:Int)+1≤0):=by omega
 have hdc:((d+1:Nat):Int)=(d:Int)+1:=rfl
 have hln:((l.tail.length:Int)==0)=false:=by have:=List.length_pos_iff.2 hl0;rw [beq_eq_false_iff_ne];omega
 have Hsub:=zh hsub
 have hlz:=hlst.1
 have z5:=hlz (textB d l.tail).2
 have Hlst:=zh hlst
 clear hsub hlst hlz hkk hl0
 have hw0:Since (fun _=>False) w ((w.alloc (.cells #[.pointer (some ⟨bb,0,none⟩)] 56)).alloc (.cells #[.int .i64 ((d:Int)+1)] 3)):=(Since.alloc _ _ _).trans (Since.alloc _ _ _)
 have e0:((w.alloc (.cells #[.pointer (some ⟨bb,0,none⟩)] 56)).alloc (.cells #[.int .i64 ((d:Int)+1)] 3)).heap[w.heap.size+0]?=some (.cells #[.pointer (some ⟨bb,0,none⟩)] 56):=allocs_get [(.cells #[.pointer (some ⟨bb,0,none⟩)] 56),(.cells #[.int .i64 ((d:Int)+1)] 3)] w 0 (by simp)
 have e1:((w.alloc (.cells #[.pointer (some ⟨bb,0,none⟩)] 56)).alloc (.cells #[.int .i64 ((d:Int)+1)] 3)).heap[w.heap.size+1]?=some (.cells #[.int .i64 ((d:Int)+1)] 3):=allocs_get [(.cells #[.pointer (some ⟨bb,0,none⟩)] 56),(.cells #[.int .i64 ((d:Int)+1)] 3)] w 1 (by simp)
 have e2:((w.alloc (.cells #[.pointer (some ⟨bb,0,none⟩)] 56)).alloc (.cells #[.int .i64 ((d:Int)+1)] 3)).heap.size=w.heap.size+2:=by simp
 have hb0:=h.new hw0
 have hnx:=next_any hb0
 rw [←hr] at hnx
 have Hn:=zh hnx
 have Hr:=zh hr
 have hl:=h.lt
 have He0:=zh e0
 have He1:=zh e1
 have He2:=zh e2
 have Hw0:=zh hw0
 clear hnx hr h e0 e1 e2 hw0 hb0
 go_enter Tryd.func30,Tryd.ntmps30
 go_wp2_with fail
 refine Hn.out.mono ?_
 rintro e w1 ⟨rfl,hb,hs⟩
 unfold rawC
 go_upto_region 2 with fail
 obtain ⟨P0,hP0⟩: ∃ P0,P0=w.heap.size:=⟨_,rfl⟩
 obtain ⟨D0,hD0⟩: ∃ D0,D0=w.heap.size+1:=⟨_,rfl⟩
 obtain ⟨R0,hR0⟩: ∃ R0,R0=w1.heap.size:=⟨_,rfl⟩
 have hz1:=hs.size
 have hz2:=He2.out
 have hin:NumIn w (w1.alloc (.cells #[.int .i64 r.kind, .int .i64 r.a, .int .i64 r.b, .int .i64 r.c] 76)) bb B0 l.tail loops main ((d:Int)+1) P0 D0 R0 r:=⟨hb.new (Since.alloc (fun _=>False) w1 _),((Hw0.out.mono (fun _ f=>f.elim)).trans hs).trans (Since.alloc _ _ _),by rw [hR0,box_cell (Below.refl _ _)];rfl,by rw [hR0,box_cell (Below.refl _ _)];rfl,by rw [hR0,box_cell (Below.refl _ _)];rfl,
  by have h0:=He0.out;rw [Nat.add_zero,←hP0] at h0;exact ((Since.alloc (fun _=>False) w1 _).cell (by omega) (fun f=>f)).trans ((hs.cell (by omega) (by omega)).trans (by simp [World.cell?,h0])),
  by have h0:=He1.out;rw [←hD0] at h0;exact ((Since.alloc (fun _=>False) w1 _).cell (by omega) (fun f=>f)).trans ((hs.cell (by omega) (by omega)).trans (by simp [World.cell?,h0])),by simp;omega⟩
 rw [←hD0,←hP0,←hR0]
 obtain ⟨hb',hs',k0,k1,k2,p0,d0,l1,l2,l3,hzR⟩:=hin
 clear He0 He1 He2 Hw0 hb hs hz1 hz2 hP0 hD0 hR0 Hn
 generalize w1.alloc (.cells #[.int .i64 r.kind, .int .i64 r.a, .int .i64 r.b, .int .i64 r.c] 76)=w2 at *
 obtain ⟨vT,c0,aT,cT,rfl,-,h36,-,-⟩:=hb'.c0
 have hlI:(l.tail.length:Int)≤36:=by omega
 generalize l.tail.length=nT at *
 go_wp2_with fail
 refine (picked_nat r.kind 14 _ i0 (by decide) (by decide)).mono ?_
 rintro e wp ⟨rfl,rfl⟩
 rw [Hk.out]
 go_wp2_with fail
 refine (sub_any Hsub.out (by omega) hb' p0 d0).mono ?_
 rintro e w3 ⟨rfl,hb3,hs3⟩
 go_wp2_with fail
 go_ret
 rw [HR.out]
 exact ⟨rfl,hb3,hs'.trans hs3⟩
set_option maxRecDepth 100000 in
set_option maxHeartbeats 40000000 in
theorem num_88 {main:Bool} {d:Nat} (hd:d≤5) {sub lst:BD} (hsub:NumSaid main d sub) (hlst:ListSaid main d lst) {w:World} {bb B0:Nat} {l:List PRaw} {loops:Int} (h:BardAt w bb B0 l loops main) (hl0:l.tail≠[]) (hk:pickN (firstB l).kind 14=8) (hm: ¬main=true):
 Calls Tryd.prog 30 #[.pointer (some ⟨bb,0,none⟩), .int .i64 ((d+1:Nat):Int)] w (BardEnd w bb B0 loops main (numG main sub (textB d) lst l)):=by
 obtain ⟨i0,i1,i2,i3⟩:=firstB_in h
 obtain ⟨r,hr⟩: ∃ r,r=firstB l:=⟨_,rfl⟩
 rw [←hr] at i0 i1 i2 i3
 have HR:=zh (show numG main sub (textB d) lst l=((⟨#[45]⟩:ByteArray)++(sub l.tail).1,(sub l.tail).2) by rw [numG_eq,if_neg hl0,if_neg (by omega),if_neg (by omega),if_neg (by omega),if_neg (by omega),if_neg (by omega),if_neg (by omega),if_pos hk,if_neg hm])
 rw [←hr] at hk
 obtain ⟨kk,hkk⟩: ∃ kk,pickN r.kind 14=kk:=⟨_,rfl⟩
 rw [hkk] at hk
 have hk14:kk<14:=by rw [←hkk];exact pickN_lt _ _ (by decide)
 have Hk:=zh hkk
 subst hk
 have z1:=hsub.1 l.tail
 have z2:=hsub.1 (sub l.tail).2
 have z3:=textB_le (d:=d) (by omega) l.tail
 have z4:=textB_le (d:=d) (by omega) (sub l.tail).2
 have y1:=pickS_le rowOps r.a 1 (by decide)
 have y2:=pickS_le rowDiv r.a 1 (by decide)
 have y3:=pickS_le rowBy r.b 8 (by decide)
 have y4:=pickS_le rowL r.a 10 (by decide)
 have y5:=pickS_le rowS r.a 10 (by decide)
 have hdI:(d:Int)≤5:=by omega
 have hnd: ¬((d:Int)+1≤0):=by omega
 have hdc:((d+1:Nat):Int)=(d:Int)+1:=rfl
 have hln:((l.tail.length:Int)==0)=false:=by have:=List.length_pos_iff.2 hl0;rw [beq_eq_false_iff_ne];omega
 have Hsub:=zh hsub
 have hlz:=hlst.1
 have z5:=hlz (textB d l.tail).2
 have Hlst:=zh hlst
 clear hsub hlst hlz hkk hl0
 have hw0:Since (fun _=>False) w ((w.alloc (.cells #[.pointer (some ⟨bb,0,none⟩)] 56)).alloc (.cells #[.int .i64 ((d:Int)+1)] 3)):=(Since.alloc _ _ _).trans (Since.alloc _ _ _)
 have e0:((w.alloc (.cells #[.pointer (some ⟨bb,0,none⟩)] 56)).alloc (.cells #[.int .i64 ((d:Int)+1)] 3)).heap[w.heap.size+0]?=some (.cells #[.pointer (some ⟨bb,0,none⟩)] 56):=allocs_get [(.cells #[.pointer (some ⟨bb,0,none⟩)] 56),(.cells #[.int .i64 ((d:Int)+1)] 3)] w 0 (by simp)
 have e1:((w.alloc (.cells #[.pointer (some ⟨bb,0,none⟩)] 56)).alloc (.cells #[.int .i64 ((d:Int)+1)] 3)).heap[w.heap.size+1]?=some (.cells #[.int .i64 ((d:Int)+1)] 3):=allocs_get [(.cells #[.pointer (some ⟨bb,0,none⟩)] 56),(.cells #[.int .i64 ((d:Int)+1)] 3)] w 1 (by simp)
 have e2:((w.alloc (.cells #[.pointer (some ⟨bb,0,none⟩)] 56)).alloc (.cells #[.int .i64 ((d:Int)+1)] 3)).heap.size=w.heap.size+2:=by simp
 have hb0:=h.new hw0
 have hnx:=next_any hb0
 rw [←hr] at hnx
 have Hn:=zh hnx
 have Hr:=zh hr
 have hl:=h.lt
 have He0:=zh e0
 have He1:=zh e1
 have He2:=zh e2
 have Hw0:=zh hw0
 clear hnx hr h e0 e1 e2 hw0 hb0
 go_enter Tryd.func30,Tryd.ntmps30
 go_wp2_with fail
 refine Hn.out.mono ?_
 rintro e w1 ⟨rfl,hb,hs⟩
 unfold rawC
 go_upto_region 2 with fail
 obtain ⟨P0,hP0⟩: ∃ P0,P0=w.heap.size:=⟨_,rfl⟩
 obtain ⟨D0,hD0⟩: ∃ D0,D0=w.heap.size+1:=⟨_,rfl⟩
 obtain ⟨R0,hR0⟩: ∃ R0,R0=w1.heap.size:=⟨_,rfl⟩
 have hz1:=hs.size
 have hz2:=He2.out
 have hin:NumIn w (w1.alloc (.cells #[.int .i64 r.kind, .int .i64 r.a, .int .i64 r.b, .int .i64 r.c] 76)) bb B0 l.tail loops main ((d:Int)+1) P0 D0 R0 r:=⟨hb.new (Since.alloc (fun _=>False) w1 _),((Hw0.out.mono (fun _ f=>f.elim)).trans hs).trans (Since.alloc _ _ _),by rw [hR0,box_cell (Below.refl _ _)];rfl,by rw [hR0,box_cell (Below.refl _ _)];rfl,by rw [hR0,box_cell (Below.refl _ _)];rfl,
  by have h0:=He0.out;rw [Nat.add_zero,←hP0] at h0;exact ((Since.alloc (fun _=>False) w1 _).cell (by omega) (fun f=>f)).trans ((hs.cell (by omega) (by omega)).trans (by simp [World.cell?,h0])),
  by have h0:=He1.out;rw [←hD0] at h0;exact ((Since.alloc (fun _=>False) w1 _).cell (by omega) (fun f=>f)).trans ((hs.cell (by omega) (by omega)).trans (by simp [World.cell?,h0])),by simp;omega⟩
 rw [←hD0,←hP0,←hR0]
 obtain ⟨hb',hs',k0,k1,k2,p0,d0,l1,l2,l3,hzR⟩:=hin
 clear He0 He1 He2 Hw0 hb hs hz1 hz2 hP0 hD0 hR0 Hn
 generalize w1.alloc (.cells #[.int .i64 r.kind, .int .i64 r.a, .int .i64 r.b, .int .i64 r.c] 76)=w2 at *
 obtain ⟨vT,c0,aT,cT,rfl,-,h36,-,-⟩:=hb'.c0
 have hlI:(l.tail.length:Int)≤36:=by omega
 generalize l.tail.length=nT at *
 have cm:=hb'.c2
 rw [show main=false by simpa using hm] at cm
 go_wp2_with fail
 refine (picked_nat r.kind 14 _ i0 (by decide) (by decide)).mono ?_
 rintro e wp ⟨rfl,rfl⟩
 rw [Hk.out]
 go_wp2_with fail
 refine (sub_any Hsub.out (by omega) hb' p0 d0).mono ?_
 rintro e w3 ⟨rfl,hb3,hs3⟩
 go_wp2_with fail
 go_ret
 rw [HR.out]
 exact ⟨rfl,hb3,hs'.trans hs3⟩
end Go.Proofs.YtkopjgnjflhkeaaDoor
namespace Go.Proofs.YtkopjgnjflhkeaaDoor
open Go.RowKit Go.Pst
set_option linter.unusedVariables false
set_option linter.unusedSimpArgs false
set_option maxRecDepth 100000 in
set_option maxHeartbeats 40000000 in
theorem num_7 {main:Bool} {d:Nat} (hd:d≤5) {sub lst:BD} (hsub:NumSaid main d sub) (hlst:ListSaid main d lst) {w:World} {bb B0:Nat} {l:List PRaw} {loops:Int} (h:BardAt w bb B0 l loops main) (hl0:l.tail≠[]) (hk:pickN (firstB l).kind 14=7):
 Calls Tryd.prog 30 #[.pointer (some ⟨bb,0,none⟩), .int .i64 ((d+1:Nat):Int)] w (BardEnd w bb B0 loops main (numG main sub (textB d) lst l)):=by
 obtain ⟨i0,i1,i2,i3⟩:=firstB_in h
 obtain ⟨r,hr⟩: ∃ r,r=firstB l:=⟨_,rfl⟩
 rw [←hr] at i0 i1 i2 i3
 obtain ⟨q,hq⟩: ∃ q,pickN r.a 4=q:=⟨_,rfl⟩
 have qlt:q<4:=by rw [←hq];exact pickN_lt _ _ (by decide)
 have qI:(q:Int)<4:=by omega
 have HR:=zh (show numG main sub (textB d) lst l=(((⟨#[108,101,110,40]⟩:ByteArray)++pickS [(textB d l.tail).1,(⟨#[108]⟩:ByteArray),(⟨#[109]⟩:ByteArray),(lst (textB d l.tail).2).1] r.a)++(⟨#[41]⟩:ByteArray),(lst (textB d l.tail).2).2) by rw [numG_eq,if_neg hl0,if_neg (by omega),if_neg (by omega),if_neg (by omega),if_neg (by omega),if_neg (by omega),if_pos hk,←hr])
 rw [←hr] at hk
 obtain ⟨kk,hkk⟩: ∃ kk,pickN r.kind 14=kk:=⟨_,rfl⟩
 rw [hkk] at hk
 have hk14:kk<14:=by rw [←hkk];exact pickN_lt _ _ (by decide)
 have Hk:=zh hkk
 subst hk
 have z1:=hsub.1 l.tail
 have z2:=hsub.1 (sub l.tail).2
 have z3:=textB_le (d:=d) (by omega) l.tail
 have z4:=textB_le (d:=d) (by omega) (sub l.tail).2
 have y1:=pickS_le rowOps r.a 1 (by decide)
 have y2:=pickS_le rowDiv r.a 1 (by decide)
 have y3:=pickS_le rowBy r.b 8 (by decide)
 have y4:=pickS_le rowL r.a 10 (by decide)
 have y5:=pickS_le rowS r.a 10 (by decide)
 have hdI:(d:Int)≤5:=by omega
 have hnd: ¬((d:Int)+1≤0):=by omega
 have hdc:((d+1:Nat):Int)=(d:Int)+1:=rfl
 have hln:((l.tail.length:Int)==0)=false:=by have:=List.length_pos_iff.2 hl0;rw [beq_eq_false_iff_ne];omega
 have Hsub:=zh hsub
 have hlz:=hlst.1
 have z5:=hlz (textB d l.tail).2
 have Hlst:=zh hlst
 clear hsub hlst hlz hkk hl0
 have hw0:Since (fun _=>False) w ((w.alloc (.cells #[.pointer (some ⟨bb,0,none⟩)] 56)).alloc (.cells #[.int .i64 ((d:Int)+1)] 3)):=(Since.alloc _ _ _).trans (Since.alloc _ _ _)
 have e0:((w.alloc (.cells #[.pointer (some ⟨bb,0,none⟩)] 56)).alloc (.cells #[.int .i64 ((d:Int)+1)] 3)).heap[w.heap.size+0]?=some (.cells #[.pointer (some ⟨bb,0,none⟩)] 56):=allocs_get [(.cells #[.pointer (some ⟨bb,0,none⟩)] 56),(.cells #[.int .i64 ((d:Int)+1)] 3)] w 0 (by simp)
 have e1:((w.alloc (.cells #[.pointer (some ⟨bb,0,none⟩)] 56)).alloc (.cells #[.int .i64 ((d:Int)+1)] 3)).heap[w.heap.size+1]?=some (.cells #[.int .i64 ((d:Int)+1)] 3):=allocs_get [(.cells #[.pointer (some ⟨bb,0,none⟩)] 56),(.cells #[.int .i64 ((d:Int)+1)] 3)] w 1 (by simp)
 have e2:((w.alloc (.cells #[.pointer (some ⟨bb,0,none⟩)] 56)).alloc (.cells #[.int .i64 ((d:Int)+1)] 3)).heap.size=w.heap.size+2:=by simp
 have hb0:=h.new hw0
 have hnx:=next_any hb0
 rw [←hr] at hnx
 have Hn:=zh hnx
 have Hr:=zh hr
 have hl:=h.lt
 have He0:=zh e0
 have He1:=zh e1
 have He2:=zh e2
 have Hw0:=zh hw0
 clear hnx hr h e0 e1 e2 hw0 hb0
 go_enter Tryd.func30,Tryd.ntmps30
 go_wp2_with fail
 refine Hn.out.mono ?_
 rintro e w1 ⟨rfl,hb,hs⟩
 unfold rawC
 go_upto_region 2 with fail
 obtain ⟨P0,hP0⟩: ∃ P0,P0=w.heap.size:=⟨_,rfl⟩
 obtain ⟨D0,hD0⟩: ∃ D0,D0=w.heap.size+1:=⟨_,rfl⟩
 obtain ⟨R0,hR0⟩: ∃ R0,R0=w1.heap.size:=⟨_,rfl⟩
 have hz1:=hs.size
 have hz2:=He2.out
 have hin:NumIn w (w1.alloc (.cells #[.int .i64 r.kind, .int .i64 r.a, .int .i64 r.b, .int .i64 r.c] 76)) bb B0 l.tail loops main ((d:Int)+1) P0 D0 R0 r:=⟨hb.new (Since.alloc (fun _=>False) w1 _),((Hw0.out.mono (fun _ f=>f.elim)).trans hs).trans (Since.alloc _ _ _),by rw [hR0,box_cell (Below.refl _ _)];rfl,by rw [hR0,box_cell (Below.refl _ _)];rfl,by rw [hR0,box_cell (Below.refl _ _)];rfl,
  by have h0:=He0.out;rw [Nat.add_zero,←hP0] at h0;exact ((Since.alloc (fun _=>False) w1 _).cell (by omega) (fun f=>f)).trans ((hs.cell (by omega) (by omega)).trans (by simp [World.cell?,h0])),
  by have h0:=He1.out;rw [←hD0] at h0;exact ((Since.alloc (fun _=>False) w1 _).cell (by omega) (fun f=>f)).trans ((hs.cell (by omega) (by omega)).trans (by simp [World.cell?,h0])),by simp;omega⟩
 rw [←hD0,←hP0,←hR0]
 obtain ⟨hb',hs',k0,k1,k2,p0,d0,l1,l2,l3,hzR⟩:=hin
 clear He0 He1 He2 Hw0 hb hs hz1 hz2 hP0 hD0 hR0 Hn
 generalize w1.alloc (.cells #[.int .i64 r.kind, .int .i64 r.a, .int .i64 r.b, .int .i64 r.c] 76)=w2 at *
 obtain ⟨vT,c0,aT,cT,rfl,-,h36,-,-⟩:=hb'.c0
 have hlI:(l.tail.length:Int)≤36:=by omega
 generalize l.tail.length=nT at *
 go_wp2_with fail
 refine (picked_nat r.kind 14 _ i0 (by decide) (by decide)).mono ?_
 rintro e wp ⟨rfl,rfl⟩
 rw [Hk.out]
 go_wp2_with fail
 have y7:=pickS_le [(textB d l.tail).1,⟨#[108]⟩,⟨#[109]⟩,(lst (textB d l.tail).2).1] r.a 1000000 (by intro x hx;simp at hx;rcases hx with rfl|rfl|rfl|rfl<;>first|omega|decide)
 refine tGo hb' hs' [(P0,0, .pointer (some ⟨bb,0,none⟩)),(D0,0, .int .i64 ((d:Int)+1)),(R0,1, .int .i64 r.a)] ⟨p0,d0,k1,trivial⟩ (by simp only [CZ,and_true];omega) 16 (fun wr1 h1=>?_)
 refine tRd 0 h1.c ?_
 refine tRd 1 h1.c ?_
 refine tRd 2 h1.c ?_
 refine tRd 4 h1.c ?_
 refine tRd 5 h1.c ?_
 refine tRd 6 h1.c ?_
 refine tRd 9 h1.c ?_
 refine tRd 10 h1.c ?_
 refine tP1 3 (fun K hK=>?_)
 go_simp
 go_at_call 31
 try rw [show IntKind.i64.wrap (d:Int)=(d:Int) from IntWalk.i64_in _ (by omega)]
 refine (text_any d (by omega) h1.b).mono ?_
 rintro e wr2 ⟨rfl,hb,hv⟩
 have h2:=h1.call hb hv
 clear hb hv
 refine tNx hK h2.c ?_
 clear hK K
 refine tP1 7 (fun K hK=>?_)
 go_simp
 go_at_call 32
 try rw [show IntKind.i64.wrap (d:Int)=(d:Int) from IntWalk.i64_in _ (by omega)]
 refine (Hlst.out.2 h2.b).mono ?_
 rintro e wr3 ⟨rfl,hb,hv⟩
 have h3:=h2.call hb hv
 clear hb hv
 refine tNx hK h3.c ?_
 clear hK K
 refine tP2 8 11 (fun K hK=>?_) (fun K hK=>?_)
 ·
  go_simp
  obtain ⟨g,hg⟩: ∃ g,g=wr3.heap.size:=⟨_,rfl⟩
  rw [←hg]
  revert g
  refine tRow hK h3 [(textB d l.tail).1,⟨#[108]⟩,⟨#[109]⟩,(lst (textB d l.tail).2).1] r.a hq (fun g4 wr4 h4=>?_)
  clear hK K
  refine tP1 11 (fun K hK=>?_)
  go_simp
  go_at_call 7
  refine (picked_nat r.a 4 _ i1 (by decide) (by decide)).mono ?_
  rintro e wp ⟨rfl,rfl⟩
  rw [hq]
  refine tNx hK h4.c ?_
  clear hK K
  refine tRd 12 h4.c ?_
  refine tRd 13 h4.c ?_
  refine tRd 14 h4.c ?_
  refine tRd 15 h4.c ?_
  refine tP1 16 (fun K hK=>?_)
  go_simp
  refine tLast hK ?_
  clear hK K
  refine tFin ?_
  go_wp2_with fail
  go_ret
  rw [HR.out]
  exact ⟨rfl,h4.b,h4.s⟩
 ·
  go_simp
  go_at_call 7
  refine (picked_nat r.a 4 _ i1 (by decide) (by decide)).mono ?_
  rintro e wp ⟨rfl,rfl⟩
  rw [hq]
  refine tNx hK h3.c ?_
  clear hK K
  refine tP1 8 (fun K hK=>?_)
  go_simp
  obtain ⟨g,hg⟩: ∃ g,g=wr3.heap.size:=⟨_,rfl⟩
  rw [←hg]
  revert g
  refine tRow hK h3 [(textB d l.tail).1,⟨#[108]⟩,⟨#[109]⟩,(lst (textB d l.tail).2).1] r.a hq (fun g5 wr5 h5=>?_)
  clear hK K
  refine tRd 12 h5.c ?_
  refine tRd 13 h5.c ?_
  refine tRd 14 h5.c ?_
  refine tRd 15 h5.c ?_
  refine tP1 16 (fun K hK=>?_)
  go_simp
  refine tLast hK ?_
  clear hK K
  refine tFin ?_
  go_wp2_with fail
  go_ret
  rw [HR.out]
  exact ⟨rfl,h5.b,h5.s⟩
set_option maxRecDepth 100000 in
set_option maxHeartbeats 40000000 in
theorem num_8 {main:Bool} {d:Nat} (hd:d≤5) {sub lst:BD} (hsub:NumSaid main d sub) (hlst:ListSaid main d lst) {w:World} {bb B0:Nat} {l:List PRaw} {loops:Int} (h:BardAt w bb B0 l loops main) (hl0:l.tail≠[]) (hk:pickN (firstB l).kind 14=8) (hm:main=true):
 Calls Tryd.prog 30 #[.pointer (some ⟨bb,0,none⟩), .int .i64 ((d+1:Nat):Int)] w (BardEnd w bb B0 loops main (numG main sub (textB d) lst l)):=by
 obtain ⟨i0,i1,i2,i3⟩:=firstB_in h
 obtain ⟨r,hr⟩: ∃ r,r=firstB l:=⟨_,rfl⟩
 rw [←hr] at i0 i1 i2 i3
 have HR:=zh (show numG main sub (textB d) lst l=((((((⟨#[102,40]⟩:ByteArray)++(sub l.tail).1)++(⟨#[44,32]⟩:ByteArray))++(textB d (sub l.tail).2).1)++(⟨#[41]⟩:ByteArray)),(textB d (sub l.tail).2).2) by rw [numG_eq,if_neg hl0,if_neg (by omega),if_neg (by omega),if_neg (by omega),if_neg (by omega),if_neg (by omega),if_neg (by omega),if_pos hk,if_pos hm])
 rw [←hr] at hk
 obtain ⟨kk,hkk⟩: ∃ kk,pickN r.kind 14=kk:=⟨_,rfl⟩
 rw [hkk] at hk
 have hk14:kk<14:=by rw [←hkk];exact pickN_lt _ _ (by decide)
 have Hk:=zh hkk
 subst hk
 have z1:=hsub.1 l.tail
 have z2:=hsub.1 (sub l.tail).2
 have z3:=textB_le (d:=d) (by omega) l.tail
 have z4:=textB_le (d:=d) (by omega) (sub l.tail).2
 have y1:=pickS_le rowOps r.a 1 (by decide)
 have y2:=pickS_le rowDiv r.a 1 (by decide)
 have y3:=pickS_le rowBy r.b 8 (by decide)
 have y4:=pickS_le rowL r.a 10 (by decide)
 have y5:=pickS_le rowS r.a 10 (by decide)
 have hdI:(d:Int)≤5:=by omega
 have hnd: ¬((d:Int)+1≤0):=by omega
 have hdc:((d+1:Nat):Int)=(d:Int)+1:=rfl
 have hln:((l.tail.length:Int)==0)=false:=by have:=List.length_pos_iff.2 hl0;rw [beq_eq_false_iff_ne];omega
 have Hsub:=zh hsub
 have hlz:=hlst.1
 have z5:=hlz (textB d l.tail).2
 have Hlst:=zh hlst
 clear hsub hlst hlz hkk hl0
 have hw0:Since (fun _=>False) w ((w.alloc (.cells #[.pointer (some ⟨bb,0,none⟩)] 56)).alloc (.cells #[.int .i64 ((d:Int)+1)] 3)):=(Since.alloc _ _ _).trans (Since.alloc _ _ _)
 have e0:((w.alloc (.cells #[.pointer (some ⟨bb,0,none⟩)] 56)).alloc (.cells #[.int .i64 ((d:Int)+1)] 3)).heap[w.heap.size+0]?=some (.cells #[.pointer (some ⟨bb,0,none⟩)] 56):=allocs_get [(.cells #[.pointer (some ⟨bb,0,none⟩)] 56),(.cells #[.int .i64 ((d:Int)+1)] 3)] w 0 (by simp)
 have e1:((w.alloc (.cells #[.pointer (some ⟨bb,0,none⟩)] 56)).alloc (.cells #[.int .i64 ((d:Int)+1)] 3)).heap[w.heap.size+1]?=some (.cells #[.int .i64 ((d:Int)+1)] 3):=allocs_get [(.cells #[.pointer (some ⟨bb,0,none⟩)] 56),(.cells #[.int .i64 ((d:Int)+1)] 3)] w 1 (by simp)
 have e2:((w.alloc (.cells #[.pointer (some ⟨bb,0,none⟩)] 56)).alloc (.cells #[.int .i64 ((d:Int)+1)] 3)).heap.size=w.heap.size+2:=by simp
 have hb0:=h.new hw0
 have hnx:=next_any hb0
 rw [←hr] at hnx
 have Hn:=zh hnx
 have Hr:=zh hr
 have hl:=h.lt
 have He0:=zh e0
 have He1:=zh e1
 have He2:=zh e2
 have Hw0:=zh hw0
 clear hnx hr h e0 e1 e2 hw0 hb0
 go_enter Tryd.func30,Tryd.ntmps30
 go_wp2_with fail
 refine Hn.out.mono ?_
 rintro e w1 ⟨rfl,hb,hs⟩
 unfold rawC
 go_upto_region 2 with fail
 obtain ⟨P0,hP0⟩: ∃ P0,P0=w.heap.size:=⟨_,rfl⟩
 obtain ⟨D0,hD0⟩: ∃ D0,D0=w.heap.size+1:=⟨_,rfl⟩
 obtain ⟨R0,hR0⟩: ∃ R0,R0=w1.heap.size:=⟨_,rfl⟩
 have hz1:=hs.size
 have hz2:=He2.out
 have hin:NumIn w (w1.alloc (.cells #[.int .i64 r.kind, .int .i64 r.a, .int .i64 r.b, .int .i64 r.c] 76)) bb B0 l.tail loops main ((d:Int)+1) P0 D0 R0 r:=⟨hb.new (Since.alloc (fun _=>False) w1 _),((Hw0.out.mono (fun _ f=>f.elim)).trans hs).trans (Since.alloc _ _ _),by rw [hR0,box_cell (Below.refl _ _)];rfl,by rw [hR0,box_cell (Below.refl _ _)];rfl,by rw [hR0,box_cell (Below.refl _ _)];rfl,
  by have h0:=He0.out;rw [Nat.add_zero,←hP0] at h0;exact ((Since.alloc (fun _=>False) w1 _).cell (by omega) (fun f=>f)).trans ((hs.cell (by omega) (by omega)).trans (by simp [World.cell?,h0])),
  by have h0:=He1.out;rw [←hD0] at h0;exact ((Since.alloc (fun _=>False) w1 _).cell (by omega) (fun f=>f)).trans ((hs.cell (by omega) (by omega)).trans (by simp [World.cell?,h0])),by simp;omega⟩
 rw [←hD0,←hP0,←hR0]
 obtain ⟨hb',hs',k0,k1,k2,p0,d0,l1,l2,l3,hzR⟩:=hin
 clear He0 He1 He2 Hw0 hb hs hz1 hz2 hP0 hD0 hR0 Hn
 generalize w1.alloc (.cells #[.int .i64 r.kind, .int .i64 r.a, .int .i64 r.b, .int .i64 r.c] 76)=w2 at *
 obtain ⟨vT,c0,aT,cT,rfl,-,h36,-,-⟩:=hb'.c0
 have hlI:(l.tail.length:Int)≤36:=by omega
 generalize l.tail.length=nT at *
 have cm:=hb'.c2
 rw [hm] at cm
 go_wp2_with fail
 refine (picked_nat r.kind 14 _ i0 (by decide) (by decide)).mono ?_
 rintro e wp ⟨rfl,rfl⟩
 rw [Hk.out]
 go_wp2_with fail
 refine tGo hb' hs' [(P0,0, .pointer (some ⟨bb,0,none⟩)),(D0,0, .int .i64 ((d:Int)+1))] ⟨p0,d0,trivial⟩ (by simp only [CZ,and_true];omega) 10 (fun wr1 h1=>?_)
 refine tRd 0 h1.c ?_
 refine tRd 4 h1.c ?_
 refine tRd 5 h1.c ?_
 refine tRd 6 h1.c ?_
 refine tP1 1 (fun K hK=>?_)
 go_simp
 go_at_call 50
 refine (sub_any Hsub.out (by omega) h1.b (h1.c.1) (h1.c.2.1)).mono ?_
 rintro e wr2 ⟨rfl,hb,hv⟩
 have h2:=h1.call hb hv
 clear hb hv
 refine tNx hK h2.c ?_
 clear hK K
 refine tRd 2 h2.c ?_
 refine tRd 3 h2.c ?_
 refine tP1 7 (fun K hK=>?_)
 go_simp
 go_at_call 31
 try rw [show IntKind.i64.wrap (d:Int)=(d:Int) from IntWalk.i64_in _ (by omega)]
 refine (text_any d (by omega) h2.b).mono ?_
 rintro e wr3 ⟨rfl,hb,hv⟩
 have h3:=h2.call hb hv
 clear hb hv
 refine tNx hK h3.c ?_
 clear hK K
 refine tRd 8 h3.c ?_
 refine tRd 9 h3.c ?_
 refine tP1 10 (fun K hK=>?_)
 go_simp
 refine tLast hK ?_
 clear hK K
 refine tFin ?_
 go_wp2_with fail
 go_ret
 rw [HR.out]
 exact ⟨rfl,h3.b,h3.s⟩
set_option maxRecDepth 100000 in
set_option maxHeartbeats 40000000 in
theorem num_10 {main:Bool} {d:Nat} (hd:d≤5) {sub lst:BD} (hsub:NumSaid main d sub) (hlst:ListSaid main d lst) {w:World} {bb B0:Nat} {l:List PRaw} {loops:Int} (h:BardAt w bb B0 l loops main) (hl0:l.tail≠[]) (hk:10≤pickN (firstB l).kind 14):
 Calls Tryd.prog 30 #[.pointer (some ⟨bb,0,none⟩), .int .i64 ((d+1:Nat):Int)] w (BardEnd w bb B0 loops main (numG main sub (textB d) lst l)):=by
 obtain ⟨i0,i1,i2,i3⟩:=firstB_in h
 obtain ⟨r,hr⟩: ∃ r,r=firstB l:=⟨_,rfl⟩
 rw [←hr] at i0 i1 i2 i3
 obtain ⟨u,hu⟩: ∃ u,pickN r.a 300=u:=⟨_,rfl⟩
 have ult:u<300:=by rw [←hu];exact pickN_lt _ _ (by decide)
 have uI:(u:Int)<300:=by omega
 obtain ⟨q,hq⟩: ∃ q,pickN r.b 4=q:=⟨_,rfl⟩
 have qlt:q<4:=by rw [←hq];exact pickN_lt _ _ (by decide)
 have qI:(q:Int)<4:=by omega
 have HR:=zh (show numG main sub (textB d) lst l=(pickS [(⟨#[120]⟩:ByteArray),(⟨#[121]⟩:ByteArray),itoaB (pickN r.a 300),(⟨#[108,101,110,40,109,41]⟩:ByteArray)] r.b,l.tail) by rw [numG_eq,if_neg hl0,if_neg (by omega),if_neg (by omega),if_neg (by omega),if_neg (by omega),if_neg (by omega),if_neg (by omega),if_neg (by omega),if_neg (by omega),←hr])
 rw [←hr] at hk
 obtain ⟨kk,hkk⟩: ∃ kk,pickN r.kind 14=kk:=⟨_,rfl⟩
 rw [hkk] at hk
 have hk14:kk<14:=by rw [←hkk];exact pickN_lt _ _ (by decide)
 have Hk:=zh hkk
 have n0:((kk:Int)==0)=false:=by simp;omega
 have n1:((kk:Int)==1)=false:=by simp;omega
 have n2:((kk:Int)==2)=false:=by simp;omega
 have n3:((kk:Int)==3)=false:=by simp;omega
 have n4:((kk:Int)==4)=false:=by simp;omega
 have n5:((kk:Int)==5)=false:=by simp;omega
 have n6:((kk:Int)==6)=false:=by simp;omega
 have n7:((kk:Int)==7)=false:=by simp;omega
 have n8:((kk:Int)==8)=false:=by simp;omega
 have n9:((kk:Int)==9)=false:=by simp;omega
 have z1:=hsub.1 l.tail
 have z2:=hsub.1 (sub l.tail).2
 have z3:=textB_le (d:=d) (by omega) l.tail
 have z4:=textB_le (d:=d) (by omega) (sub l.tail).2
 have y1:=pickS_le rowOps r.a 1 (by decide)
 have y2:=pickS_le rowDiv r.a 1 (by decide)
 have y3:=pickS_le rowBy r.b 8 (by decide)
 have y4:=pickS_le rowL r.a 10 (by decide)
 have y5:=pickS_le rowS r.a 10 (by decide)
 have hdI:(d:Int)≤5:=by omega
 have hnd: ¬((d:Int)+1≤0):=by omega
 have hdc:((d+1:Nat):Int)=(d:Int)+1:=rfl
 have hln:((l.tail.length:Int)==0)=false:=by have:=List.length_pos_iff.2 hl0;rw [beq_eq_false_iff_ne];omega
 have Hsub:=zh hsub
 have hlz:=hlst.1
 have z5:=hlz (textB d l.tail).2
 have Hlst:=zh hlst
 clear hsub hlst hlz hkk hl0
 have hw0:Since (fun _=>False) w ((w.alloc (.cells #[.pointer (some ⟨bb,0,none⟩)] 56)).alloc (.cells #[.int .i64 ((d:Int)+1)] 3)):=(Since.alloc _ _ _).trans (Since.alloc _ _ _)
 have e0:((w.alloc (.cells #[.pointer (some ⟨bb,0,none⟩)] 56)).alloc (.cells #[.int .i64 ((d:Int)+1)] 3)).heap[w.heap.size+0]?=some (.cells #[.pointer (some ⟨bb,0,none⟩)] 56):=allocs_get [(.cells #[.pointer (some ⟨bb,0,none⟩)] 56),(.cells #[.int .i64 ((d:Int)+1)] 3)] w 0 (by simp)
 have e1:((w.alloc (.cells #[.pointer (some ⟨bb,0,none⟩)] 56)).alloc (.cells #[.int .i64 ((d:Int)+1)] 3)).heap[w.heap.size+1]?=some (.cells #[.int .i64 ((d:Int)+1)] 3):=allocs_get [(.cells #[.pointer (some ⟨bb,0,none⟩)] 56),(.cells #[.int .i64 ((d:Int)+1)] 3)] w 1 (by simp)
 have e2:((w.alloc (.cells #[.pointer (some ⟨bb,0,none⟩)] 56)).alloc (.cells #[.int .i64 ((d:Int)+1)] 3)).heap.size=w.heap.size+2:=by simp
 have hb0:=h.new hw0
 have hnx:=next_any hb0
 rw [←hr] at hnx
 have Hn:=zh hnx
 have Hr:=zh hr
 have hl:=h.lt
 have He0:=zh e0
 have He1:=zh e1
 have He2:=zh e2
 have Hw0:=zh hw0
 clear hnx hr h e0 e1 e2 hw0 hb0
 go_enter Tryd.func30,Tryd.ntmps30
 go_wp2_with fail
 refine Hn.out.mono ?_
 rintro e w1 ⟨rfl,hb,hs⟩
 unfold rawC
 go_upto_region 2 with fail
 obtain ⟨P0,hP0⟩: ∃ P0,P0=w.heap.size:=⟨_,rfl⟩
 obtain ⟨D0,hD0⟩: ∃ D0,D0=w.heap.size+1:=⟨_,rfl⟩
 obtain ⟨R0,hR0⟩: ∃ R0,R0=w1.heap.size:=⟨_,rfl⟩
 have hz1:=hs.size
 have hz2:=He2.out
 have hin:NumIn w (w1.alloc (.cells #[.int .i64 r.kind, .int .i64 r.a, .int .i64 r.b, .int .i64 r.c] 76)) bb B0 l.tail loops main ((d:Int)+1) P0 D0 R0 r:=⟨hb.new (Since.alloc (fun _=>False) w1 _),((Hw0.out.mono (fun _ f=>f.elim)).trans hs).trans (Since.alloc _ _ _),by rw [hR0,box_cell (Below.refl _ _)];rfl,by rw [hR0,box_cell (Below.refl _ _)];rfl,by rw [hR0,box_cell (Below.refl _ _)];rfl,
  by have h0:=He0.out;rw [Nat.add_zero,←hP0] at h0;exact ((Since.alloc (fun _=>False) w1 _).cell (by omega) (fun f=>f)).trans ((hs.cell (by omega) (by omega)).trans (by simp [World.cell?,h0])),
  by have h0:=He1.out;rw [←hD0] at h0;exact ((Since.alloc (fun _=>False) w1 _).cell (by omega) (fun f=>f)).trans ((hs.cell (by omega) (by omega)).trans (by simp [World.cell?,h0])),by simp;omega⟩
 rw [←hD0,←hP0,←hR0]
 obtain ⟨hb',hs',k0,k1,k2,p0,d0,l1,l2,l3,hzR⟩:=hin
 clear He0 He1 He2 Hw0 hb hs hz1 hz2 hP0 hD0 hR0 Hn
 generalize w1.alloc (.cells #[.int .i64 r.kind, .int .i64 r.a, .int .i64 r.b, .int .i64 r.c] 76)=w2 at *
 obtain ⟨vT,c0,aT,cT,rfl,-,h36,-,-⟩:=hb'.c0
 have hlI:(l.tail.length:Int)≤36:=by omega
 generalize l.tail.length=nT at *
 go_wp2_with fail
 refine (picked_nat r.kind 14 _ i0 (by decide) (by decide)).mono ?_
 rintro e wp ⟨rfl,rfl⟩
 rw [Hk.out]
 go_wp2_with fail
 refine tGo hb' hs' [(R0,1, .int .i64 r.a),(R0,2, .int .i64 r.b)] ⟨k1,k2,trivial⟩ (by simp only [CZ,and_true];omega) 10 (fun wr1 h1=>?_)
 refine tRd 0 h1.c ?_
 refine tRd 1 h1.c ?_
 refine tRd 5 h1.c ?_
 refine tRd 6 h1.c ?_
 refine tP1 2 (fun K hK=>?_)
 go_simp
 go_at_call 7
 refine (picked_nat r.a 300 _ i1 (by decide) (by decide)).mono ?_
 rintro e wp ⟨rfl,rfl⟩
 rw [hu]
 refine tNx hK h1.c ?_
 clear hK K
 refine tP1 3 (fun K hK=>?_)
 go_simp
 go_at_call 19
 refine (itoa_here u ult h1.b.tab.1).mono ?_
 rintro e wr2 ⟨rfl,hq2⟩
 have h2:=h1.new hq2
 refine tNx hK h2.c ?_
 clear hK K
 refine tP2 4 7 (fun K hK=>?_) (fun K hK=>?_)
 ·
  go_simp
  obtain ⟨g,hg⟩: ∃ g,g=wr2.heap.size:=⟨_,rfl⟩
  rw [←hg]
  revert g
  refine tRow hK h2 [⟨#[120]⟩,⟨#[121]⟩,itoaB u,⟨#[108,101,110,40,109,41]⟩] r.b hq (fun g3 wr3 h3=>?_)
  clear hK K
  refine tP1 7 (fun K hK=>?_)
  go_simp
  go_at_call 7
  refine (picked_nat r.b 4 _ i2 (by decide) (by decide)).mono ?_
  rintro e wp ⟨rfl,rfl⟩
  rw [hq]
  refine tNx hK h3.c ?_
  clear hK K
  refine tRd 8 h3.c ?_
  refine tRd 9 h3.c ?_
  refine tP1 10 (fun K hK=>?_)
  go_simp
  refine tLast hK ?_
  clear hK K
  refine tFin ?_
  go_wp2_with fail
  go_ret
  rw [HR.out,hu]
  exact ⟨rfl,h3.b,h3.s⟩
 ·
  go_simp
  go_at_call 7
  refine (picked_nat r.b 4 _ i2 (by decide) (by decide)).mono ?_
  rintro e wp ⟨rfl,rfl⟩
  rw [hq]
  refine tNx hK h2.c ?_
  clear hK K
  refine tP1 4 (fun K hK=>?_)
  go_simp
  obtain ⟨g,hg⟩: ∃ g,g=wr2.heap.size:=⟨_,rfl⟩
  rw [←hg]
  revert g
  refine tRow hK h2 [⟨#[120]⟩,⟨#[121]⟩,itoaB u,⟨#[108,101,110,40,109,41]⟩] r.b hq (fun g4 wr4 h4=>?_)
  clear hK K
  refine tRd 8 h4.c ?_
  refine tRd 9 h4.c ?_
  refine tP1 10 (fun K hK=>?_)
  go_simp
  refine tLast hK ?_
  clear hK K
  refine tFin ?_
  go_wp2_with fail
  go_ret
  rw [HR.out,hu]
  exact ⟨rfl,h4.b,h4.s⟩
end Go.Proofs.YtkopjgnjflhkeaaDoor
namespace Go.Proofs.YtkopjgnjflhkeaaDoor
open Go.RowKit Go.Pst
set_option linter.unusedVariables false
set_option linter.unusedSimpArgs false
set_option maxRecDepth 100000 in
set_option maxHeartbeats 40000000 in
theorem num_leaf {main:Bool} {n:Int} (hn: -5≤n∧n≤10) {w:World} {bb B0:Nat} {l:List PRaw} {loops:Int} (h:BardAt w bb B0 l loops main) (hc:n≤0∨l.tail=[]):
 Calls Tryd.prog 30 #[.pointer (some ⟨bb,0,none⟩), .int .i64 n] w (BardEnd w bb B0 loops main (numL (firstB l),l.tail)):=by
 obtain ⟨i0,i1,i2,i3⟩:=firstB_in h
 obtain ⟨r,hr⟩: ∃ r,r=firstB l:=⟨_,rfl⟩
 rw [←hr] at i0 i1 i2 i3
 obtain ⟨u,hu⟩: ∃ u,pickN r.a 12=u:=⟨_,rfl⟩
 have ult:u<12:=by rw [←hu];exact pickN_lt _ _ (by decide)
 have uI:(u:Int)<12:=by omega
 obtain ⟨q,hq⟩: ∃ q,pickN r.kind 6=q:=⟨_,rfl⟩
 have qlt:q<6:=by rw [←hq];exact pickN_lt _ _ (by decide)
 have qI:(q:Int)<6:=by omega
 obtain ⟨hn1,hn2⟩:=hn
 have HR:=zh (show (numL (firstB l),l.tail)=(pickS [itoaB u,⟨#[120]⟩,⟨#[121]⟩,⟨#[120]⟩,⟨#[108,101,110,40,115,41]⟩,⟨#[108,101,110,40,108,41]⟩] r.kind,l.tail) by rw [←hu,←hr];rfl)
 obtain ⟨R,hR⟩: ∃ R,R=(numL (firstB l),l.tail):=⟨_,rfl⟩
 rw [←hR] at HR ⊢
 clear hR
 by_cases hn0:n≤0
 ·
  clear hc
  have hw0:Since (fun _=>False) w ((w.alloc (.cells #[.pointer (some ⟨bb,0,none⟩)] 56)).alloc (.cells #[.int .i64 n] 3)):=(Since.alloc _ _ _).trans (Since.alloc _ _ _)
  have e0:((w.alloc (.cells #[.pointer (some ⟨bb,0,none⟩)] 56)).alloc (.cells #[.int .i64 n] 3)).heap[w.heap.size+0]?=some (.cells #[.pointer (some ⟨bb,0,none⟩)] 56):=allocs_get [(.cells #[.pointer (some ⟨bb,0,none⟩)] 56),(.cells #[.int .i64 n] 3)] w 0 (by simp)
  have e1:((w.alloc (.cells #[.pointer (some ⟨bb,0,none⟩)] 56)).alloc (.cells #[.int .i64 n] 3)).heap[w.heap.size+1]?=some (.cells #[.int .i64 n] 3):=allocs_get [(.cells #[.pointer (some ⟨bb,0,none⟩)] 56),(.cells #[.int .i64 n] 3)] w 1 (by simp)
  have e2:((w.alloc (.cells #[.pointer (some ⟨bb,0,none⟩)] 56)).alloc (.cells #[.int .i64 n] 3)).heap.size=w.heap.size+2:=by simp
  have hb0:=h.new hw0
  have hnx:=next_any hb0
  rw [←hr] at hnx
  have Hn:=zh hnx
  have Hr:=zh hr
  have hl:=h.lt
  have He0:=zh e0
  have He1:=zh e1
  have He2:=zh e2
  have Hw0:=zh hw0
  clear hnx hr h e0 e1 e2 hw0 hb0
  go_enter Tryd.func30,Tryd.ntmps30
  go_wp2_with fail
  refine Hn.out.mono ?_
  rintro e w1 ⟨rfl,hb,hs⟩
  unfold rawC
  go_upto_region 2 with fail
  obtain ⟨P0,hP0⟩: ∃ P0,P0=w.heap.size:=⟨_,rfl⟩
  obtain ⟨D0,hD0⟩: ∃ D0,D0=w.heap.size+1:=⟨_,rfl⟩
  obtain ⟨R0,hR0⟩: ∃ R0,R0=w1.heap.size:=⟨_,rfl⟩
  have hz1:=hs.size
  have hz2:=He2.out
  have hin:NumIn w (w1.alloc (.cells #[.int .i64 r.kind, .int .i64 r.a, .int .i64 r.b, .int .i64 r.c] 76)) bb B0 l.tail loops main n P0 D0 R0 r:=⟨hb.new (Since.alloc (fun _=>False) w1 _),((Hw0.out.mono (fun _ f=>f.elim)).trans hs).trans (Since.alloc _ _ _),by rw [hR0,box_cell (Below.refl _ _)];rfl,by rw [hR0,box_cell (Below.refl _ _)];rfl,by rw [hR0,box_cell (Below.refl _ _)];rfl,
   by have h0:=He0.out;rw [Nat.add_zero,←hP0] at h0;exact ((Since.alloc (fun _=>False) w1 _).cell (by omega) (fun f=>f)).trans ((hs.cell (by omega) (by omega)).trans (by simp [World.cell?,h0])),
   by have h0:=He1.out;rw [←hD0] at h0;exact ((Since.alloc (fun _=>False) w1 _).cell (by omega) (fun f=>f)).trans ((hs.cell (by omega) (by omega)).trans (by simp [World.cell?,h0])),by simp;omega⟩
  rw [←hD0,←hP0,←hR0]
  obtain ⟨hb',hs',k0,k1,k2,p0,d0,l1,l2,l3,hzR⟩:=hin
  clear He0 He1 He2 Hw0 hb hs hz1 hz2 hP0 hD0 hR0 Hn
  generalize w1.alloc (.cells #[.int .i64 r.kind, .int .i64 r.a, .int .i64 r.b, .int .i64 r.c] 76)=w2 at *
  obtain ⟨vT,c0,aT,cT,rfl,-,h36,-,-⟩:=hb'.c0
  have hlI:(l.tail.length:Int)≤36:=by omega
  generalize l.tail.length=nT at *
  go_wp2_with fail
  refine tGo hb' hs' [(R0,1, .int .i64 r.a),(R0,0, .int .i64 r.kind)] ⟨k1,k0,trivial⟩ (by simp only [CZ,and_true];omega) 10 (fun wr1 h1=>?_)
  refine tRd 0 h1.c ?_
  refine tRd 1 h1.c ?_
  refine tRd 5 h1.c ?_
  refine tRd 6 h1.c ?_
  refine tP1 2 (fun K hK=>?_)
  go_simp
  go_at_call 7
  refine (picked_nat r.a 12 _ i1 (by decide) (by decide)).mono ?_
  rintro e wp ⟨rfl,rfl⟩
  rw [hu]
  refine tNx hK h1.c ?_
  clear hK K
  refine tP1 3 (fun K hK=>?_)
  go_simp
  go_at_call 19
  refine (itoa_here u (by omega) h1.b.tab.1).mono ?_
  rintro e wr2 ⟨rfl,hq2⟩
  have h2:=h1.new hq2
  refine tNx hK h2.c ?_
  clear hK K
  refine tP2 4 7 (fun K hK=>?_) (fun K hK=>?_)
  ·
   go_simp
   obtain ⟨g,hg⟩: ∃ g,g=wr2.heap.size:=⟨_,rfl⟩
   rw [←hg]
   revert g
   refine tRow hK h2 [itoaB u,⟨#[120]⟩,⟨#[121]⟩,⟨#[120]⟩,⟨#[108,101,110,40,115,41]⟩,⟨#[108,101,110,40,108,41]⟩] r.kind hq (fun g3 wr3 h3=>?_)
   clear hK K
   refine tP1 7 (fun K hK=>?_)
   go_simp
   go_at_call 7
   refine (picked_nat r.kind 6 _ i0 (by decide) (by decide)).mono ?_
   rintro e wp ⟨rfl,rfl⟩
   rw [hq]
   refine tNx hK h3.c ?_
   clear hK K
   refine tRd 8 h3.c ?_
   refine tRd 9 h3.c ?_
   refine tP1 10 (fun K hK=>?_)
   go_simp
   refine tLast hK ?_
   clear hK K
   refine tFin ?_
   go_wp2_with fail
   go_ret
   rw [HR.out]
   exact ⟨rfl,h3.b,h3.s⟩
  ·
   go_simp
   go_at_call 7
   refine (picked_nat r.kind 6 _ i0 (by decide) (by decide)).mono ?_
   rintro e wp ⟨rfl,rfl⟩
   rw [hq]
   refine tNx hK h2.c ?_
   clear hK K
   refine tP1 4 (fun K hK=>?_)
   go_simp
   obtain ⟨g,hg⟩: ∃ g,g=wr2.heap.size:=⟨_,rfl⟩
   rw [←hg]
   revert g
   refine tRow hK h2 [itoaB u,⟨#[120]⟩,⟨#[121]⟩,⟨#[120]⟩,⟨#[108,101,110,40,115,41]⟩,⟨#[108,101,110,40,108,41]⟩] r.kind hq (fun g4 wr4 h4=>?_)
   clear hK K
   refine tRd 8 h4.c ?_
   refine tRd 9 h4.c ?_
   refine tP1 10 (fun K hK=>?_)
   go_simp
   refine tLast hK ?_
   clear hK K
   refine tFin ?_
   go_wp2_with fail
   go_ret
   rw [HR.out]
   exact ⟨rfl,h4.b,h4.s⟩
 ·
  have hnd: ¬(n≤0):=hn0
  have ht:l.tail=[]:=hc.resolve_left hn0
  have hln:((l.tail.length:Int)==0)=true:=by rw [ht];rfl
  clear hc hn0 ht
  have hw0:Since (fun _=>False) w ((w.alloc (.cells #[.pointer (some ⟨bb,0,none⟩)] 56)).alloc (.cells #[.int .i64 n] 3)):=(Since.alloc _ _ _).trans (Since.alloc _ _ _)
  have e0:((w.alloc (.cells #[.pointer (some ⟨bb,0,none⟩)] 56)).alloc (.cells #[.int .i64 n] 3)).heap[w.heap.size+0]?=some (.cells #[.pointer (some ⟨bb,0,none⟩)] 56):=allocs_get [(.cells #[.pointer (some ⟨bb,0,none⟩)] 56),(.cells #[.int .i64 n] 3)] w 0 (by simp)
  have e1:((w.alloc (.cells #[.pointer (some ⟨bb,0,none⟩)] 56)).alloc (.cells #[.int .i64 n] 3)).heap[w.heap.size+1]?=some (.cells #[.int .i64 n] 3):=allocs_get [(.cells #[.pointer (some ⟨bb,0,none⟩)] 56),(.cells #[.int .i64 n] 3)] w 1 (by simp)
  have e2:((w.alloc (.cells #[.pointer (some ⟨bb,0,none⟩)] 56)).alloc (.cells #[.int .i64 n] 3)).heap.size=w.heap.size+2:=by simp
  have hb0:=h.new hw0
  have hnx:=next_any hb0
  rw [←hr] at hnx
  have Hn:=zh hnx
  have Hr:=zh hr
  have hl:=h.lt
  have He0:=zh e0
  have He1:=zh e1
  have He2:=zh e2
  have Hw0:=zh hw0
  clear hnx hr h e0 e1 e2 hw0 hb0
  go_enter Tryd.func30,Tryd.ntmps30
  go_wp2_with fail
  refine Hn.out.mono ?_
  rintro e w1 ⟨rfl,hb,hs⟩
  unfold rawC
  go_upto_region 2 with fail
  obtain ⟨P0,hP0⟩: ∃ P0,P0=w.heap.size:=⟨_,rfl⟩
  obtain ⟨D0,hD0⟩: ∃ D0,D0=w.heap.size+1:=⟨_,rfl⟩
  obtain ⟨R0,hR0⟩: ∃ R0,R0=w1.heap.size:=⟨_,rfl⟩
  have hz1:=hs.size
  have hz2:=He2.out
  have hin:NumIn w (w1.alloc (.cells #[.int .i64 r.kind, .int .i64 r.a, .int .i64 r.b, .int .i64 r.c] 76)) bb B0 l.tail loops main n P0 D0 R0 r:=⟨hb.new (Since.alloc (fun _=>False) w1 _),((Hw0.out.mono (fun _ f=>f.elim)).trans hs).trans (Since.alloc _ _ _),by rw [hR0,box_cell (Below.refl _ _)];rfl,by rw [hR0,box_cell (Below.refl _ _)];rfl,by rw [hR0,box_cell (Below.refl _ _)];rfl,
   by have h0:=He0.out;rw [Nat.add_zero,←hP0] at h0;exact ((Since.alloc (fun _=>False) w1 _).cell (by omega) (fun f=>f)).trans ((hs.cell (by omega) (by omega)).trans (by simp [World.cell?,h0])),
   by have h0:=He1.out;rw [←hD0] at h0;exact ((Since.alloc (fun _=>False) w1 _).cell (by omega) (fun f=>f)).trans ((hs.cell (by omega) (by omega)).trans (by simp [World.cell?,h0])),by simp;omega⟩
  rw [←hD0,←hP0,←hR0]
  obtain ⟨hb',hs',k0,k1,k2,p0,d0,l1,l2,l3,hzR⟩:=hin
  clear He0 He1 He2 Hw0 hb hs hz1 hz2 hP0 hD0 hR0 Hn
  generalize w1.alloc (.cells #[.int .i64 r.kind, .int .i64 r.a, .int .i64 r.b, .int .i64 r.c] 76)=w2 at *
  obtain ⟨vT,c0,aT,cT,rfl,-,h36,-,-⟩:=hb'.c0
  have hlI:(l.tail.length:Int)≤36:=by omega
  generalize l.tail.length=nT at *
  go_wp2_with fail
  refine tGo hb' hs' [(R0,1, .int .i64 r.a),(R0,0, .int .i64 r.kind)] ⟨k1,k0,trivial⟩ (by simp only [CZ,and_true];omega) 10 (fun wr1 h1=>?_)
  refine tRd 0 h1.c ?_
  refine tRd 1 h1.c ?_
  refine tRd 5 h1.c ?_
  refine tRd 6 h1.c ?_
  refine tP1 2 (fun K hK=>?_)
  go_simp
  go_at_call 7
  refine (picked_nat r.a 12 _ i1 (by decide) (by decide)).mono ?_
  rintro e wp ⟨rfl,rfl⟩
  rw [hu]
  refine tNx hK h1.c ?_
  clear hK K
  refine tP1 3 (fun K hK=>?_)
  go_simp
  go_at_call 19
  refine (itoa_here u (by omega) h1.b.tab.1).mono ?_
  rintro e wr2 ⟨rfl,hq2⟩
  have h2:=h1.new hq2
  refine tNx hK h2.c ?_
  clear hK K
  refine tP2 4 7 (fun K hK=>?_) (fun K hK=>?_)
  ·
   go_simp
   obtain ⟨g,hg⟩: ∃ g,g=wr2.heap.size:=⟨_,rfl⟩
   rw [←hg]
   revert g
   refine tRow hK h2 [itoaB u,⟨#[120]⟩,⟨#[121]⟩,⟨#[120]⟩,⟨#[108,101,110,40,115,41]⟩,⟨#[108,101,110,40,108,41]⟩] r.kind hq (fun g3 wr3 h3=>?_)
   clear hK K
   refine tP1 7 (fun K hK=>?_)
   go_simp
   go_at_call 7
   refine (picked_nat r.kind 6 _ i0 (by decide) (by decide)).mono ?_
   rintro e wp ⟨rfl,rfl⟩
   rw [hq]
   refine tNx hK h3.c ?_
   clear hK K
   refine tRd 8 h3.c ?_
   refine tRd 9 h3.c ?_
   refine tP1 10 (fun K hK=>?_)
   go_simp
   refine tLast hK ?_
   clear hK K
   refine tFin ?_
   go_wp2_with fail
   go_ret
   rw [HR.out]
   exact ⟨rfl,h3.b,h3.s⟩
  ·
   go_simp
   go_at_call 7
   refine (picked_nat r.kind 6 _ i0 (by decide) (by decide)).mono ?_
   rintro e wp ⟨rfl,rfl⟩
   rw [hq]
   refine tNx hK h2.c ?_
   clear hK K
   refine tP1 4 (fun K hK=>?_)
   go_simp
   obtain ⟨g,hg⟩: ∃ g,g=wr2.heap.size:=⟨_,rfl⟩
   rw [←hg]
   revert g
   refine tRow hK h2 [itoaB u,⟨#[120]⟩,⟨#[121]⟩,⟨#[120]⟩,⟨#[108,101,110,40,115,41]⟩,⟨#[108,101,110,40,108,41]⟩] r.kind hq (fun g4 wr4 h4=>?_)
   clear hK K
   refine tRd 8 h4.c ?_
   refine tRd 9 h4.c ?_
   refine tP1 10 (fun K hK=>?_)
   go_simp
   refine tLast hK ?_
   clear hK K
   refine tFin ?_
   go_wp2_with fail
   go_ret
   rw [HR.out]
   exact ⟨rfl,h4.b,h4.s⟩
end Go.Proofs.YtkopjgnjflhkeaaDoor

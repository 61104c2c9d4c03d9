import Derived.Test.YtkopjgnjflhkeaaGreatDoorQA
import Derived.Test.YtkopjgnjflhkeaaGreatDoorRows
namespace Go.Pst
open Go.RowKit
set_option linter.unusedVariables false
set_option linter.unusedSimpArgs false
theorem rowGet {w:World} {base n sz:Nat} {e:TypeId} {v:Value} {xs:List Value} (h:w.ownsRow base e sz v n xs) {i:Nat} {u:Value} (hi:xs[i]?=some u):
 ∃ g cap,v= .slice (some ⟨g,0,none⟩) n cap∧v.ownBlock=some g∧base≤g∧g<w.heap.size∧w.cell? ⟨g,i,none⟩=some u∧w.frozen? ⟨g,i,none⟩=false:=by
 rcases h.2 with ⟨rfl,rfl⟩|⟨g,cap,cur,rfl,hb,hg,h1,h2,h3,h4⟩
 ·
  have:=h.1
  simp at this
  subst this
  simp at hi
 ·
  refine ⟨g,cap,rfl,rfl,hb,(Array.getElem?_eq_some_iff.1 hg).1,?_,?_⟩
  ·
   rw [←h4,List.getElem?_take] at hi
   split at hi
   ·
    simp [World.cell?,hg];simpa using hi
   ·
    simp at hi
  ·
   simp [World.frozen?,hg]
theorem rowShort {w:World} {base n m sz:Nat} {e:TypeId} {g cap:Nat} {xs:List Value} (h:w.ownsRow base e sz (.slice (some ⟨g,0,none⟩) n cap) n xs) (hm:m≤n):
 w.ownsRow base e sz (.slice (some ⟨g,0,none⟩) m cap) m (xs.take (m*sz)):=by
 have hmul:m*sz≤n*sz:=Nat.mul_le_mul_right _ hm
 refine ⟨by rw [List.length_take,h.1];omega,Or.inr ?_⟩
 rcases h.2 with ⟨h0,_⟩|⟨g',cap',cur,hv,hb,hg,h1,h2,h3,h4⟩
 ·
  simp at h0
 ·
  obtain ⟨rfl,rfl⟩:g=g'∧cap=cap':=by simpa using hv
  refine ⟨g,cap,cur,rfl,hb,hg,by omega,h2,h3,?_⟩
  rw [←h4,List.take_take]
  congr 1
  omega
end Go.Pst
namespace Go.Pst
open Go.RowKit
set_option linter.unusedVariables false
def FitX:Nat→PExpr→Prop
 |0,_=>False
 |d+1,x=>x.args.length*56≤reachBytes∧ ∀ y∈x.args,FitX d y
theorem FitX_succ: ∀ (d:Nat) (x:PExpr),FitX d x→FitX (d+1) x
 |0,_,h=>h.elim
 |d+1,x,h=>⟨h.1,fun y hy=>FitX_succ d y (h.2 y hy)⟩
def numsN:List (List Int × List PStmt)→Nat
 |[]=>0
 |c::r=>c.1.length+numsN r
def FitS:Nat→PStmt→Prop
 |0,_=>False
 |d+1,s=>(s.exprs.length*56≤reachBytes∧ ∀ y∈s.exprs,FitX d y)∧(s.body.length*136≤reachBytes∧ ∀ y∈s.body,FitS d y)∧(s.els.length*136≤reachBytes∧ ∀ y∈s.els,FitS d y)∧
  (s.cases.length*48≤reachBytes∧ ∀ c∈s.cases,c.1.length*8≤reachBytes∧c.2.length*136≤reachBytes∧ ∀ y∈c.2,FitS d y)∧numsN s.cases≤1048576
theorem FitS_succ: ∀ (d:Nat) (s:PStmt),FitS d s→FitS (d+1) s
 |0,_,h=>h.elim
 |d+1,s,⟨⟨a1,a2⟩,⟨b1,b2⟩,⟨c1,c2⟩,⟨d1,d2⟩,e1⟩=>
  ⟨⟨a1,fun y hy=>FitX_succ d y (a2 y hy)⟩,⟨b1,fun y hy=>FitS_succ d y (b2 y hy)⟩,⟨c1,fun y hy=>FitS_succ d y (c2 y hy)⟩,⟨d1,fun c hc=>⟨(d2 c hc).1,(d2 c hc).2.1,fun y hy=>FitS_succ d y ((d2 c hc).2.2 y hy)⟩⟩,e1⟩
theorem FitS_le {d d':Nat} (h:d≤d'): ∀ (s:PStmt),FitS d s→FitS d' s:=by
 induction h with
 |refl=>intro x h;exact h
 |step _ ih=>intro x h;exact FitS_succ _ _ (ih _ h)
section
variable {H:Type} {enc:TypeId × Value→H} {P:Program} {w:World}
variable {tint tstr tints texpr texprs tstmt tstmts tcase tcases:TypeId}
end
end Go.Pst
namespace Go.Proofs.YtkopjgnjflhkeaaGreatDoor
open Go.RowKit Go.Pst
set_option linter.unusedVariables false
def firstAt (x:Int):List Int→Nat→Int
 |[],_=> -1
 |y::r,k=>if x=y then (k:Int) else firstAt x r (k+1)
theorem firstAt_ge (x:Int): ∀ (l:List Int) (k:Nat),(0≤firstAt x l k↔x∈l)
 |[],k=>by simp [firstAt]
 |y::r,k=>by
  unfold firstAt
  by_cases h:x=y
  ·
   simp [h]
  ·
   simp [h,firstAt_ge x r (k+1)]
set_option maxHeartbeats 400000 in
theorem index_any (x:Int) (a:Option Addr) (l:List Int) (cap:Nat) (w:World) (hl:l.length≤9223372036854775807) (hat:IntsAt w a l):
 Calls Tryz.prog 182 #[.slice a l.length cap, .int .i64 x] w fun e w'=>e= .returned (.int .i64 (firstAt x l 0))∧w=w':=by
 go_enter Tryz.func182,Tryz.ntmps182
 go_wp2
 go_loop [8] (fun i=> ∃ k:Nat,k≤l.length∧i= .int .i64 k∧firstAt x l 0=firstAt x (l.drop k) k) (fun i=>l.length - (intOf i).toNat)
 case atStart=>exact ⟨0,Nat.zero_le _,rfl,by simp⟩
 case round=>
  obtain ⟨k,hk,rfl,hf⟩:=hrel
  have Hf:=zh hf
  clear hf
  by_cases hlt:k<l.length
  ·
   obtain ⟨b,off,rfl,hb,hc⟩:=hat k hlt
   have hlt1:(k:Int)<(l.length:Int):=by omega
   have hd:l.drop k=l[k]::l.drop (k+1):=List.drop_eq_getElem_cons hlt
   have Hd:=zh hd
   clear hd hat
   generalize l[k]=y at *
   by_cases hxy:x=y
   ·
    subst hxy
    go_wp2
    go_ret
    exact ⟨by rw [Hf.out,Hd.out];simp [firstAt],rfl⟩
   ·
    have hne:(x==y)=false:=by simpa using hxy
    go_wp2
    go_round
    case rel=>exact ⟨k+1,by omega,by go_num,by rw [Hf.out,Hd.out];simp [firstAt,hxy]⟩
    case measure=>simp [intOf];omega
  ·
   have hke:k=l.length:=by omega
   subst hke
   go_wp2
   go_ret
   exact ⟨by rw [Hf.out];simp [firstAt],rfl⟩
theorem contains_any (x:Int) (a:Option Addr) (l:List Int) (cap:Nat) (w:World) (hl:l.length≤9223372036854775807) (hat:IntsAt w a l):
 Calls Tryz.prog 142 #[.slice a l.length cap, .int .i64 x] w fun e w'=>e= .returned (.bool (decide (x∈l)))∧w=w':=by
 have hge:=firstAt_ge x l 0
 go_enter Tryz.func142,Tryz.ntmps142
 go_wp2_with (go_at_call 182;refine (index_any _ _ _ _ _ hl hat).mono ?_;rintro e w' ⟨rfl,rfl⟩)
 all_goals
  go_ret
  exact ⟨by simp_all,rfl⟩
end Go.Proofs.YtkopjgnjflhkeaaGreatDoor
namespace Go.Proofs.YtkopjgnjflhkeaaGreatDoor
open Go.RowKit Go.Pst
set_option linter.unusedVariables false
def endsF:Nat→List PStmt→Bool
 |0,_=>false
 |d+1,l=>match l.getLast? with
  |none=>false
  |some x=>if x.kind=8 then true else if x.kind=4 then endsF d x.body&&endsF d x.els else if x.kind=7 then (x.cases.all fun c=>endsF d c.2)&&endsF d x.els else false
def EndsSaid (f:Nat) (d:Nat):Prop:= ∀ (l:List PStmt) (v:Value) (w:World),rSlice 7 (rStmt d) (fun _=>True) w [v] l→
 Calls Tryz.prog f #[v] w fun e w'=>e= .returned (.bool (endsF d l))∧Below w.heap.size w w'
def openAt (d:Nat):List (List Int × List PStmt)→Nat→Int
 |[],_=> -1
 |c::r,k=>if endsF d c.2=true then openAt d r (k+1) else (k:Int)
theorem openAt_ge (d:Nat): ∀ (l:List (List Int × List PStmt)) (k:Nat),decide (0≤openAt d l k)= !(l.all fun c=>endsF d c.2)
 |[],k=>by simp [openAt]
 |c::r,k=>by
  unfold openAt
  by_cases h:endsF d c.2=true
  ·
   simp [h,openAt_ge d r (k+1)]
  ·
   simp [h]
theorem closure_any (d:Nat) (ih:EndsSaid 13 d) (v0 v1:Value) (l:List PStmt) (w:World) (h:rSlice 7 (rStmt d) (fun _=>True) w [v1] l):
 Calls Tryz.prog 36 #[.agg #[v0,v1]] w fun e w'=>e= .returned (.bool (!endsF d l))∧Below w.heap.size w w':=by
 have h1:=Good.keep (Keep.alloc (fun _=>True) w (.cells #[v0,v1] 94)) (fun _ _ h=>h) h
 have Ih:=zh ih
 clear ih
 go_enter Tryz.func36,Tryz.ntmps36
 go_wp2_with fail
 refine (Ih.out l v1 _ h1).mono ?_
 rintro e w1 ⟨rfl,hb⟩
 go_wp2_with fail
 go_ret
 exact ⟨rfl,((Below.refl _ _).alloc (Nat.le_refl _) _).trans (hb.mono (by simp))⟩
set_option maxHeartbeats 400000 in
theorem indexFunc_any (d:Nat) (ih:EndsSaid 13 d) (l:List (List Int × List PStmt)) (v:Value) (w:World) (h:rSlice 2 (rCase (rStmt d)) (fun _=>True) w [v] l):
 Calls Tryz.prog 87 #[v, .func (.func 36) #[] #[]] w fun e w'=>e= .returned (.int .i64 (openAt d l 0))∧Below w.heap.size w w':=by
 have h0:=h
 obtain ⟨a,cap,rfl,hl,hat⟩:=rCases_val h
 go_enter Tryz.func87,Tryz.ntmps87
 go_wp2_with fail
 go_loopw [8] (fun i wr=> ∃ k:Nat,k≤l.length∧i= .int .i64 k∧openAt d l 0=openAt d (l.drop k) k∧Below w.heap.size w wr) (fun i _=>l.length - (intOf i).toNat)
 case atStart=>exact ⟨0,Nat.zero_le _,rfl,by simp,Below.refl _ _⟩
 case round=>
  obtain ⟨k,hk,rfl,hf,hbel⟩:=hrel
  have Hf:=zh hf
  clear hf
  by_cases hlt:k<l.length
  ·
   obtain ⟨b,off,v0,v1,rfl,hb,⟨c0,c1⟩,-,r1⟩:=hat k hlt
   have hlt1:(k:Int)<(l.length:Int):=by omega
   have hd:l.drop k=l[k]::l.drop (k+1):=List.drop_eq_getElem_cons hlt
   have Hd:=zh hd
   have r1':=Good.keep (Keep.of_below' hbel (fun k hk _=>hk)) (fun _ _ h=>h) r1
   have x0:wr.cell? ⟨b,off+k*2,none⟩=some v0:=by rw [hbel.cell (p:=⟨b,off+k*2,none⟩) hb];exact c0
   have x1:wr.cell? ⟨b,off+k*2+1,none⟩=some v1:=by rw [hbel.cell (p:=⟨b,off+k*2+1,none⟩) hb];exact c1
   have Ih:=zh ih
   clear hd hat c0 c1 r1 h0 h ih
   generalize l[k]=y at *
   go_wp2_with fail
   refine (closure_any d Ih.out _ _ y.2 _ r1').mono ?_
   rintro e w1 ⟨rfl,hb1⟩
   have hbel1:=hbel.trans (hb1.mono hbel.size)
   by_cases he:endsF d y.2=true
   ·
    rw [he]
    go_wp2_with fail
    go_roundw
    case rel=>exact ⟨k+1,by omega,by go_num,by rw [Hf.out,Hd.out];simp [openAt,he],hbel1⟩
    case measure=>simp [intOf];omega
   ·
    simp only [Bool.not_eq_true] at he
    rw [he]
    go_wp2_with fail
    go_ret
    exact ⟨by rw [Hf.out,Hd.out];simp [openAt,he],hbel1⟩
  ·
   have hke:k=l.length:=by omega
   subst hke
   go_wp2_with fail
   go_ret
   exact ⟨by rw [Hf.out];simp [openAt],hbel⟩
theorem containsFunc_any (d:Nat) (ih:EndsSaid 13 d) (l:List (List Int × List PStmt)) (v:Value) (w:World) (h:rSlice 2 (rCase (rStmt d)) (fun _=>True) w [v] l):
 Calls Tryz.prog 35 #[v, .func (.func 36) #[] #[]] w fun e w'=>e= .returned (.bool (!(l.all fun c=>endsF d c.2)))∧Below w.heap.size w w':=by
 have Hg:=zh (openAt_ge d l 0)
 have Ih:=zh ih
 clear ih
 go_enter Tryz.func35,Tryz.ntmps35
 go_wp2_with fail
 refine (indexFunc_any d Ih.out l v w h).mono ?_
 rintro e w1 ⟨rfl,hb⟩
 go_wp2_with fail
 go_ret
 exact ⟨by rw [←Hg.out];rfl,hb⟩
theorem last_of {l:List PStmt} (hn:l≠[]):l.getLast?=some (l[l.length - 1]'(by have:=List.length_pos_iff.2 hn;omega)):=by
 rw [List.getLast?_eq_getElem?,List.getElem?_eq_getElem]
set_option maxHeartbeats 1000000 in
theorem ends_any: ∀ d,EndsSaid 13 d:=by
 intro d
 induction d with
 |zero=>
  intro l v w h
  obtain ⟨a,cap,rfl,_,_,hat⟩:=rSlice_val h
  have hl:l=[]:=by
   cases l with
   |nil=>rfl
   |cons x r=>obtain ⟨_,_,_,_,_,_,_,_,hf⟩:=hat 0 (by simp);exact hf.elim
  subst hl
  go_enter Tryz.func13,Tryz.ntmps13
  go_wp2_with fail
  go_ret
  exact ⟨rfl,Below.refl _ _⟩
 |succ d ih=>
  intro l v w h
  have Ih:=zh ih
  clear ih
  obtain ⟨a,cap,rfl,hl,hat⟩:=rStmts_val h
  by_cases hn:l=[]
  ·
   subst hn
   go_enter Tryz.func13,Tryz.ntmps13
   go_wp2_with fail
   go_ret
   exact ⟨rfl,Below.refl _ _⟩
  ·
   have hpos:=List.length_pos_iff.2 hn
   have hlast:=last_of hn
   obtain ⟨b,off,v3,v4,v5,v6,rfl,hb,⟨c0,c1,c2,c3,c4,c5,c6⟩,r3,r4,r5,r6⟩:=hat (l.length - 1) (by omega)
   have hF:endsF (d+1) l=if l[l.length - 1].kind=8 then true else if l[l.length - 1].kind=4 then endsF d l[l.length - 1].body&&endsF d l[l.length - 1].els else if l[l.length - 1].kind=7 then (l[l.length - 1].cases.all fun c=>endsF d c.2)&&endsF d l[l.length - 1].els else false:=by
    rw [endsF,hlast]
   rw [hF]
   generalize l[l.length - 1]=x at *
   obtain ⟨a3,n3,rfl⟩:=rSlice_shape r3
   obtain ⟨a4,n4,rfl⟩:=rSlice_shape r4
   obtain ⟨a5,n5,rfl⟩:=rSlice_shape r5
   obtain ⟨a6,n6,rfl⟩:=rSlice_shape r6
   have hpos1:(0:Int)<(l.length:Int):=by omega
   have hne:((l.length:Int)==0)=false:=by simp;omega
   clear hF hlast hat h hn
   by_cases k8:x.kind=8
   ·
    have t8:(x.kind==8)=true:=by simpa using k8
    rw [if_pos k8]
    clear k8
    go_enter Tryz.func13,Tryz.ntmps13
    go_wp2_with fail
    go_ret
    exact ⟨rfl,(Below.refl _ _).alloc (Nat.le_refl _) _⟩
   ·
    have t8:(x.kind==8)=false:=by simpa using k8
    rw [if_neg k8]
    by_cases k4:x.kind=4
    ·
     have t4:(x.kind==4)=true:=by simpa using k4
     rw [if_pos k4]
     clear k4 k8
     go_enter Tryz.func13,Tryz.ntmps13
     go_wp2_with fail
     refine (Ih.out x.body _ _ (Good.keep (Keep.alloc _ _ _) (fun _ _ h=>h) r4)).mono ?_
     rintro e w1 ⟨rfl,hb1⟩
     have bx5:=hb1.cell (p:=⟨w.heap.size,5,none⟩) (by simp)
     simp at bx5
     have hbw1:Below w.heap.size w w1:=((Below.refl _ _).alloc (Nat.le_refl _) _).trans (hb1.mono (by simp))
     clear hb1
     cases he:endsF d x.body with
     |false=>
      have He:=zh he
      clear he
      go_wp2_with fail
      go_ret
      exact ⟨by rw [He.out];rfl,hbw1⟩
     |true=>
      have He:=zh he
      clear he
      go_wp2_with fail
      refine (Ih.out x.els _ _ (Good.keep (Keep.of_below' hbw1 (fun k hk _=>hk)) (fun _ _ h=>h) r5)).mono ?_
      rintro e w2 ⟨rfl,hb2⟩
      go_wp2_with fail
      go_ret
      exact ⟨by rw [He.out];rfl,hbw1.trans (hb2.mono hbw1.size)⟩
    ·
     have t4:(x.kind==4)=false:=by simpa using k4
     rw [if_neg k4]
     by_cases k7:x.kind=7
     ·
      have t7:(x.kind==7)=true:=by simpa using k7
      have t7n:(x.kind !=7)=false:=by simpa using k7
      rw [if_pos k7]
      clear k4 k8 k7
      go_enter Tryz.func13,Tryz.ntmps13
      go_wp2_with fail
      refine (containsFunc_any d Ih.out x.cases _ _ (Good.keep (Keep.alloc _ _ _) (fun _ _ h=>h) r6)).mono ?_
      rintro e w1 ⟨rfl,hb1⟩
      have bx5:=hb1.cell (p:=⟨w.heap.size,5,none⟩) (by simp)
      simp at bx5
      have hbw1:Below w.heap.size w w1:=((Below.refl _ _).alloc (Nat.le_refl _) _).trans (hb1.mono (by simp))
      clear hb1
      cases he:(x.cases.all fun c=>endsF d c.2) with
      |false=>
       have He:=zh he
       clear he
       go_wp2_with fail
       go_ret
       exact ⟨by rw [He.out];rfl,hbw1⟩
      |true=>
       have He:=zh he
       clear he
       go_wp2_with fail
       refine (Ih.out x.els _ _ (Good.keep (Keep.of_below' hbw1 (fun k hk _=>hk)) (fun _ _ h=>h) r5)).mono ?_
       rintro e w2 ⟨rfl,hb2⟩
       go_wp2_with fail
       go_ret
       exact ⟨by rw [He.out];rfl,hbw1.trans (hb2.mono hbw1.size)⟩
     ·
      have t7:(x.kind==7)=false:=by simpa using k7
      rw [if_neg k7]
      clear k4 k8 k7
      go_enter Tryz.func13,Tryz.ntmps13
      go_wp2_with fail
      go_ret
      exact ⟨rfl,(Below.refl _ _).alloc (Nat.le_refl _) _⟩
end Go.Proofs.YtkopjgnjflhkeaaGreatDoor

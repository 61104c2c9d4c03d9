import Derived.Test.YtkopjgnjflhkeaaGreatDoorQA
import Derived.Test.YtkopjgnjflhkeaaGreatDoorQX
import Derived.Test.YtkopjgnjflhkeaaGreatDoorQB
import Derived.Test.YtkopjgnjflhkeaaGreatDoorQG
import Derived.Test.YtkopjgnjflhkeaaGreatDoorProg
import Derived.Deep.RegionHeld3
import Derived.Maps.AppendAt
import Derived.RegionTactic
import Derived.BigRegion
import Derived.Deep.QuietTactic
import Derived.BigQuiet
namespace Go.Pst
open Go.RowKit
set_option linter.unusedVariables false
set_option linter.unusedSimpArgs false
def ScopeIs (m:IMap ByteArray) (g:Scope):Prop:= ∀ s,lookI m s=(lookT g s).map (Value.int .i64)
theorem ScopeIs.nil:ScopeIs [] []:=fun _=>rfl
theorem lookT_append (g:Scope) (s x:ByteArray) (t:Int) (h:lookT g s=none):lookT (g++[(s,t)]) x=if s=x then some t else lookT g x:=by
 induction g with
 |nil=>simp [lookT]
 |cons p r ih=>
  obtain ⟨k,u⟩:=p
  unfold lookT at h
  split at h
  ·
   cases h
  rename_i hk
  show (if k=x then some u else lookT (r++[(s,t)]) x)=_
  rw [ih h]
  by_cases e:k=x
  ·
   subst e
   rw [if_pos rfl,if_neg (fun e=>hk e.symm)]
   simp [lookT]
  ·
   rw [if_neg e]
   simp [lookT,e]
theorem ScopeIs.put {m:IMap ByteArray} {g:Scope} (h:ScopeIs m g) (s:ByteArray) (t:Int) (hn:lookT g s=none):ScopeIs (putI m s (.int .i64 t)) (g++[(s,t)]):=fun x=>by
 rw [lookT_append g s x t hn]
 by_cases e:s=x
 ·
  subst e;rw [if_pos rfl,lookI_put_same];rfl
 ·
  rw [if_neg e,lookI_put_other m _ e];exact h x
theorem ScopeIs.over {m:IMap ByteArray} {g:Scope} (h:ScopeIs m g) (s:ByteArray) (t:Int):ScopeIs (putI m s (.int .i64 t)) ((s,t)::g):=fun x=>by
 unfold lookT
 by_cases e:s=x
 ·
  subst e;rw [if_pos rfl,lookI_put_same];rfl
 ·
  rw [if_neg e,lookI_put_other m _ e];exact h x
def MapsAt (w:World) (base:Nat):List Nat→List Scope→Prop
 |[],[]=>True
 |b::bs,g::G=>(base≤b∧b∉bs∧ ∃ m:IMap ByteArray,MapI w b m∧ScopeIs m g)∧MapsAt w base bs G
 |_,_=>False
def mapRow:List Nat→List Value
 |[]=>[]
 |b::bs=>mapRow bs++[.map (some b)]
theorem mapRow_length: ∀ bs:List Nat,(mapRow bs).length=bs.length
 |[]=>rfl
 |b::bs=>by simp [mapRow,mapRow_length bs]
theorem MapsAt.len {w:World} {base:Nat}: ∀ {bs:List Nat} {G:List Scope},MapsAt w base bs G→bs.length=G.length
 |[],[],_=>rfl
 |b::bs,g::G,h=>by simp [MapsAt.len h.2]
 |[],_::_,h=>h.elim
 |_::_,[],h=>h.elim
theorem MapsAt.lt {w:World} {base:Nat}: ∀ {bs:List Nat} {G:List Scope},MapsAt w base bs G→ ∀ b∈bs,base≤b∧b<w.heap.size∧ ∀ j v,w.cell? ⟨b,j,none⟩≠some v
 |[],[],_,b,hb=>absurd hb (by simp)
 |b::bs,g::G,h,k,hk=>by
  rcases List.mem_cons.1 hk with rfl|hk
  ·
   obtain ⟨h1,h2,m,h3,h4⟩:=h.1
   refine ⟨h1,h3.lt,fun j v hc=>?_⟩
   obtain ⟨es,clock,hb,_⟩:=h3
   simp [World.cell?,hb] at hc
  ·
   exact MapsAt.lt h.2 k hk
 |[],_::_,h,_,_=>h.elim
 |_::_,[],h,_,_=>h.elim
theorem MapsAt.since {w w':World} {base:Nat} {F:Nat→Prop} (hs:Since F w w'): ∀ {bs:List Nat} {G:List Scope},MapsAt w base bs G→(∀ b∈bs,¬F b)→MapsAt w' base bs G
 |[],[],_,_=>trivial
 |b::bs,g::G,h,hF=>by
  obtain ⟨h1,h2,m,h3,h4⟩:=h.1
  exact ⟨⟨h1,h2,m,h3.heap (hs.block b h3.lt (hF b (by simp))),h4⟩,MapsAt.since hs h.2 (fun k hk=>hF k (by simp [hk]))⟩
 |[],_::_,h,_=>h.elim
 |_::_,[],h,_=>h.elim
end Go.Pst
namespace Go.Proofs.YtkopjgnjflhkeaaGreatDoor
open Go.RowKit Go.Pst
set_option linter.unusedVariables false
set_option linter.unusedSimpArgs false
structure Chk where
 G:List Scope
 loops:Int
 depth:Int
 fault:Int
def ChkM (bc:Nat) (vS:Value) (bs:List Nat) (k:Nat):Prop:=k=bc∨vS.ownBlock=some k∨k∈bs
structure ChkAt (w:World) (base bc:Nat) (vf:Value) (cf:List Value) (vS:Value) (bs:List Nat) (st:Chk):Prop where
 c0:w.cell? ⟨bc,0,none⟩=some vf
 cl:cf.length=4
 c1: ∀ j (h:j<cf.length),w.cell? ⟨bc,1+j,none⟩=some cf[j]
 c5:w.cell? ⟨bc,5,none⟩=some vS
 c6:w.cell? ⟨bc,6,none⟩=some (.int .i64 st.loops)
 c7:w.cell? ⟨bc,7,none⟩=some (.int .i64 st.depth)
 c8:w.cell? ⟨bc,8,none⟩=some (.int .i64 st.fault)
 z: ∀ j,w.frozen? ⟨bc,j,none⟩=false
 lb:base≤bc∧bc<w.heap.size
 row:w.ownsRow base 153 1 vS st.G.length (mapRow bs)
 ne:vS.ownBlock≠some bc
 maps:MapsAt w base bs st.G
 big:base≤w.heap.size
namespace ChkAt
variable {w w':World} {base bc:Nat} {vf:Value} {cf:List Value} {vS:Value} {bs:List Nat} {st:Chk} {F:Nat→Prop}
theorem mem_lt (h:ChkAt w base bc vf cf vS bs st) {k:Nat} (hk:ChkM bc vS bs k):base≤k∧k<w.heap.size:=by
 rcases hk with rfl|hk|hk
 ·
  exact h.lb
 ·
  exact h.row.lt k hk
 ·
  exact ⟨(h.maps.lt k hk).1,(h.maps.lt k hk).2.1⟩
theorem map_ne (h:ChkAt w base bc vf cf vS bs st) {k:Nat} (hk:k∈bs):k≠bc∧vS.ownBlock≠some k:=by
 have h1:=(h.maps.lt k hk).2.2
 refine ⟨fun e=>h1 0 _ (e ▸ h.c0),fun e=>?_⟩
 have hl:0<(mapRow bs).length:=by rw [mapRow_length];exact List.length_pos_of_mem hk
 obtain ⟨g,cap,hv,-,-,-,hc,-⟩:=rowGet h.row (i:=0) (u:=(mapRow bs)[0]) (by simp [hl])
 rw [hv] at e
 have:g=k:=by simpa [Value.ownBlock] using e
 subst this
 exact h1 0 _ hc
theorem since (h:ChkAt w base bc vf cf vS bs st) (hs:Since F w w') (hF: ∀ k,F k→ ¬ChkM bc vS bs k):ChkAt w' base bc vf cf vS bs st:=by
 have hb: ¬F bc:=fun f=>hF _ f (Or.inl rfl)
 have hc:=fun j=>hs.cell (o:=j) h.lb.2 hb
 exact {c0:=(hc _).trans h.c0,cl:=h.cl,c1:=fun j hj=>(hc _).trans (h.c1 j hj),c5:=(hc _).trans h.c5,c6:=(hc _).trans h.c6,c7:=(hc _).trans h.c7,c8:=(hc _).trans h.c8,z:=fun j=>(hs.frozen h.lb.2 hb).trans (h.z j),lb:=⟨h.lb.1,Nat.lt_of_lt_of_le h.lb.2 hs.size⟩,row:=hs.row h.row (fun k hk f=>hF k f (Or.inr (Or.inl hk))),ne:=h.ne,maps:=h.maps.since hs (fun k hk f=>hF k f (Or.inr (Or.inr hk))),big:=Nat.le_trans h.big hs.size}
theorem set (h:ChkAt w base bc vf cf vS bs st) (j:Nat) (x:Int) (st':Chk) (hG:st'.G=st.G) (hj:j=6∨j=7∨j=8) (h6:st'.loops=if j=6 then x else st.loops) (h7:st'.depth=if j=7 then x else st.depth) (h8:st'.fault=if j=8 then x else st.fault):
 ChkAt (w.setCell ⟨bc,j,none⟩ (.int .i64 x)) base bc vf cf vS bs st':=by
 have hs:Since (fun k=>k=bc) w (w.setCell ⟨bc,j,none⟩ (.int .i64 x)):=Since.setCell w ⟨bc,j,none⟩ (.int .i64 x)
 have get: ∀ i y v,w.cell? ⟨bc,i,none⟩=some y→(if j=i then v= .int .i64 x else v=y)→(w.setCell ⟨bc,j,none⟩ (.int .i64 x)).cell? ⟨bc,i,none⟩=some v:=by
  intro i y v hi hv
  by_cases e:j=i
  ·
   subst e
   rw [if_pos rfl] at hv
   subst hv
   exact World.cell?_setCell_same _ _ _ hi
  ·
   rw [if_neg e] at hv
   subst hv
   rw [World.cell?_setCell_other (h:=fun h=>e (by injection h))]
   exact hi
 have far: ∀ i y,i<6→w.cell? ⟨bc,i,none⟩=some y→(w.setCell ⟨bc,j,none⟩ (.int .i64 x)).cell? ⟨bc,i,none⟩=some y:=fun i y hi hy=>get i y y hy (by rw [if_neg (by omega)])
 exact {c0:=far _ _ (by decide) h.c0,cl:=h.cl,c1:=fun k hk=>far _ _ (by have:=h.cl;omega) (h.c1 k hk),c5:=far _ _ (by decide) h.c5,c6:=get _ _ _ h.c6 (by split<;>simp_all),c7:=get _ _ _ h.c7 (by split<;>simp_all),c8:=get _ _ _ h.c8 (by split<;>simp_all),z:=fun i=>(by rw [World.frozen?_setCell];exact h.z i),lb:=⟨h.lb.1,by simpa using h.lb.2⟩,row:=by rw [hG];exact hs.row h.row (fun k hk e=>h.ne (by rw [hk,show k=bc from e])),ne:=h.ne,maps:=by rw [hG];exact h.maps.since hs (fun k hk e=>(h.map_ne hk).1 e),big:=by simpa using h.big}
def NewM (w:World) (bc:Nat) (vS vS':Value) (bs bs':List Nat):Prop:= ∀ k,ChkM bc vS' bs' k→ChkM bc vS bs k∨w.heap.size≤k
theorem push (h:ChkAt w base bc vf cf vS bs st) {w2:World} {o:Obj} {vS':Value} (hg:((w.alloc (.map #[] 0)).alloc o).grownBy w2 vS.ownBlock)
 (ho:w2.ownsRow base 153 1 vS' (st.G.length+1) (mapRow bs++[.map (some w.heap.size)])) (hloc:vS'.ownBlock=vS.ownBlock∨vS'.ownBlock=some (w.heap.size+1+1)):
 ChkAt (w2.setCell ⟨bc,5,none⟩ vS') base bc vf cf vS' (w.heap.size::bs) {st with G:=[]::st.G}∧Since (ChkM bc vS bs) w (w2.setCell ⟨bc,5,none⟩ vS')∧NewM w bc vS vS' bs (w.heap.size::bs):=by
 have s1:Since (fun k=>vS.ownBlock=some k) w w2:=((Since.alloc _ _ _).trans (Since.alloc _ _ _)).trans (Since.grown hg)
 have s2:Since (fun k=>k=bc) w2 (w2.setCell ⟨bc,5,none⟩ vS'):=Since.setCell w2 ⟨bc,5,none⟩ vS'
 have s3:Since (ChkM bc vS bs) w (w2.setCell ⟨bc,5,none⟩ vS'):=(s1.mono (fun k e=>Or.inr (Or.inl e))).trans (s2.mono (fun k e=>Or.inl e))
 have hbw:=h.lb.2
 have hz1:=s1.size
 have ne':vS'.ownBlock≠some bc:=fun e=>by
  rcases hloc with h1|h1
  ·
   exact h.ne (h1.symm.trans e)
  ·
   rw [h1] at e;have:=Option.some.inj e;omega
 have hc:=fun j=>s1.cell (o:=j) hbw h.ne
 have far: ∀ i y,i≠5→w.cell? ⟨bc,i,none⟩=some y→(w2.setCell ⟨bc,5,none⟩ vS').cell? ⟨bc,i,none⟩=some y:=fun i y hi hy=>by
  rw [World.cell?_setCell_other (h:=fun h=>hi (by injection h with _ h;exact h.symm))]
  exact (hc i).trans hy
 have hnew:MapI (w2.setCell ⟨bc,5,none⟩ vS') w.heap.size ([]:IMap ByteArray):=by
  have h0:=(MapI.made ByteArray w).alloc o
  have h1:MapI w2 w.heap.size ([]:IMap ByteArray):=h0.kept hg (fun e=>by have:=(h.row.lt _ e.symm).2;omega)
  exact h1.setCell (by show w.heap.size≠bc;omega) _
 refine ⟨{c0:=far _ _ (by decide) h.c0,cl:=h.cl,c1:=fun k hk=>far _ _ (by have:=h.cl;omega) (h.c1 k hk),c5:=World.cell?_setCell_same _ _ _ ((hc 5).trans h.c5),c6:=far _ _ (by decide) h.c6,c7:=far _ _ (by decide) h.c7,c8:=far _ _ (by decide) h.c8,z:=fun i=>(by rw [World.frozen?_setCell];exact (s1.frozen hbw h.ne).trans (h.z i)),lb:=⟨h.lb.1,Nat.lt_of_lt_of_le hbw s3.size⟩,row:=?_,ne:=ne',maps:=⟨⟨h.big,fun hm=>by have:=(h.maps.lt _ hm).2.1;omega,[],hnew,ScopeIs.nil⟩,?_⟩,big:=Nat.le_trans h.big s3.size},s3,fun k hk=>?_⟩
 ·
  exact s2.row ho (fun k hk e=>ne' (by rw [hk,show k=bc from e]))
 ·
  exact (h.maps.since s1 (fun k hk e=>(h.map_ne hk).2 e)).since s2 (fun k hk e=>(h.map_ne hk).1 e)
 ·
  rcases hk with rfl|hk|hk
  ·
   exact Or.inl (Or.inl rfl)
  ·
   rcases hloc with h1|h1
   ·
    exact Or.inl (Or.inr (Or.inl (h1.symm.trans hk)))
   ·
    rw [h1] at hk;right;have:=Option.some.inj hk;omega
  ·
   rcases List.mem_cons.1 hk with rfl|hk
   ·
    exact Or.inr (Nat.le_refl _)
   ·
    exact Or.inl (Or.inr (Or.inr hk))
theorem pop (h:ChkAt w base bc vf cf vS bs st) {g:Scope} {r:List Scope} (hG:st.G=g::r) {gS cap:Nat} (hv:vS= .slice (some ⟨gS,0,none⟩) (r.length+1) cap):
 ∃ b bs',bs=b::bs'∧ChkAt (w.setCell ⟨bc,5,none⟩ (.slice (some ⟨gS,0,none⟩) r.length cap)) base bc vf cf (.slice (some ⟨gS,0,none⟩) r.length cap) bs' {st with G:=r}∧ ∀ k,ChkM bc (.slice (some ⟨gS,0,none⟩) r.length cap) bs' k→ChkM bc vS bs k:=by
 have hm:=h.maps
 have hrow:=h.row
 rw [hG] at hm hrow
 cases bs with
 |nil=>exact hm.elim
 |cons b bs'=>
  have s2:Since (fun k=>k=bc) w (w.setCell ⟨bc,5,none⟩ (.slice (some ⟨gS,0,none⟩) r.length cap)):=Since.setCell w ⟨bc,5,none⟩ (.slice (some ⟨gS,0,none⟩) r.length cap)
  have ne':(Value.slice (some ⟨gS,0,none⟩) r.length cap).ownBlock≠some bc:=fun e=>h.ne (by rw [hv];exact e)
  have far: ∀ i y,i≠5→w.cell? ⟨bc,i,none⟩=some y→(w.setCell ⟨bc,5,none⟩ (.slice (some ⟨gS,0,none⟩) r.length cap)).cell? ⟨bc,i,none⟩=some y:=fun i y hi hy=>by
   rw [World.cell?_setCell_other (h:=fun h=>hi (by injection h with _ h;exact h.symm))]
   exact hy
  have hlen:(mapRow bs').length=r.length:=by rw [mapRow_length];exact hm.2.len
  refine ⟨b,bs',rfl,{c0:=far _ _ (by decide) h.c0,cl:=h.cl,c1:=fun k hk=>far _ _ (by have:=h.cl;omega) (h.c1 k hk),c5:=World.cell?_setCell_same _ _ _ h.c5,c6:=far _ _ (by decide) h.c6,c7:=far _ _ (by decide) h.c7,c8:=far _ _ (by decide) h.c8,z:=fun i=>(by rw [World.frozen?_setCell];exact h.z i),lb:=⟨h.lb.1,by simpa using h.lb.2⟩,row:=?_,ne:=ne',maps:=hm.2.since s2 (fun k hk e=>(h.map_ne (List.mem_cons_of_mem _ hk)).1 e),big:=by simpa using h.big},fun k hk=>?_⟩
  ·
   rw [hv] at hrow
   have h1:=rowShort (m:=r.length) hrow (Nat.le_succ _)
   rw [show (mapRow (b::bs')).take (r.length*1)=mapRow bs' by
    show (mapRow bs'++[_]).take _=_
    rw [Nat.mul_one,←hlen]
    exact List.take_left] at h1
   exact s2.row h1 (fun k hk e=>ne' (by rw [hk,show k=bc from e]))
  ·
   rcases hk with rfl|hk|hk
   ·
    exact Or.inl rfl
   ·
    exact Or.inr (Or.inl (by rw [hv];exact hk))
   ·
    exact Or.inr (Or.inr (List.mem_cons_of_mem _ hk))
theorem put (h:ChkAt w base bc vf cf vS bs st) {b:Nat} {bs':List Nat} {g g':Scope} {r:List Scope} (hb:bs=b::bs') (hG:st.G=g::r) {m:IMap ByteArray} (hg:w.grownBy w' (some b)) (hm:MapI w' b m) (hs:ScopeIs m g'):
 ChkAt w' base bc vf cf vS bs {st with G:=g'::r}∧Since (ChkM bc vS bs) w w':=by
 have s1:Since (fun k=>some b=some k) w w':=Since.grown hg
 have hbm:b∈bs:=by rw [hb];simp
 obtain ⟨n1,n2⟩:=h.map_ne hbm
 have nb: ∀ {k},some b=some k→k=b:=fun e=>(Option.some.inj e).symm
 have hF: ¬(some b=some bc):=fun e=>n1 (Option.some.inj e)
 have hc:=fun j=>s1.cell (o:=j) h.lb.2 hF
 have hm0:=h.maps
 have hrow:=h.row
 subst hb
 rw [hG] at hm0 hrow
 refine ⟨{c0:=(hc _).trans h.c0,cl:=h.cl,c1:=fun j hj=>(hc _).trans (h.c1 j hj),c5:=(hc _).trans h.c5,c6:=(hc _).trans h.c6,c7:=(hc _).trans h.c7,c8:=(hc _).trans h.c8,z:=fun j=>(s1.frozen h.lb.2 hF).trans (h.z j),lb:=⟨h.lb.1,Nat.lt_of_lt_of_le h.lb.2 s1.size⟩,row:=s1.row hrow (fun k hk e=>n2 (by rw [hk,nb e])),ne:=h.ne,maps:=⟨⟨hm0.1.1,hm0.1.2.1,m,hm,hs⟩,hm0.2.since s1 (fun k hk e=>hm0.1.2.1 (nb e ▸ hk))⟩,big:=Nat.le_trans h.big s1.size},s1.mono (fun k e=>Or.inr (Or.inr (by rw [nb e];simp)))⟩
end ChkAt
end Go.Proofs.YtkopjgnjflhkeaaGreatDoor
namespace Go.Proofs.YtkopjgnjflhkeaaGreatDoor
open Go.RowKit Go.Pst
set_option linter.unusedVariables false
set_option linter.unusedSimpArgs false
def Chk.bad (st:Chk) (e:Int):Chk:={st with fault:=if st.fault=0 then e else st.fault}
theorem Chk.bad_bad (st:Chk) {e e':Int} (h:e≠0):(st.bad e).bad e'=st.bad e:=by
 unfold Chk.bad
 by_cases hz:st.fault=0<;>simp [hz,h]
theorem typedWrong_any (w:World) (base bc:Nat) (vf:Value) (cf:List Value) (vS:Value) (bs:List Nat) (st:Chk) (h:ChkAt w base bc vf cf vS bs st) (e:Int):
 Calls Tryz.prog 84 #[.pointer (some ⟨bc,0,none⟩), .int .i64 e] w fun en w'=>en= .returned (.int .i64 0)∧ChkAt w' base bc vf cf vS bs (st.bad e)∧Since (fun k=>k=bc) w w':=by
 have c8:=h.c8
 have z8:=h.z 8
 have hlt:=h.lb.2
 have H:=zh h
 clear h
 go_enter Tryz.func84,Tryz.ntmps84
 by_cases hz:st.fault=0
 ·
  have hz':(st.fault==0)=true:=by simpa using hz
  go_wp2_with fail
  go_ret
  exact ⟨rfl,H.out.set 8 e _ rfl (by simp) (by simp [Chk.bad]) (by simp [Chk.bad]) (by simp [Chk.bad,hz]),Since.setCell w ⟨bc,8,none⟩ _⟩
 ·
  have hz':(st.fault==0)=false:=by simpa using hz
  go_wp2_with fail
  go_ret
  refine ⟨rfl,?_,Since.refl _ _⟩
  have:=H.out
  rw [show st.bad e=st by unfold Chk.bad;rw [if_neg hz]]
  exact this
theorem typedWant_any (w:World) (base bc:Nat) (vf:Value) (cf:List Value) (vS:Value) (bs:List Nat) (st:Chk) (h:ChkAt w base bc vf cf vS bs st) (a b:Int):
 Calls Tryz.prog 173 #[.pointer (some ⟨bc,0,none⟩), .int .i64 a, .int .i64 b] w fun en w'=>en= .returned (.tuple #[])∧ChkAt w' base bc vf cf vS bs (if a=b then st else st.bad 9)∧Since (fun k=>k=bc) w w':=by
 have H:=zh h
 clear h
 go_enter Tryz.func173,Tryz.ntmps173
 by_cases hz:a=b
 ·
  have hz':(a !=b)=false:=by simpa using hz
  go_wp2_with fail
  go_end0
  exact ⟨rfl,H.out,Since.refl _ _⟩
 ·
  have hz':(a !=b)=true:=by simpa using hz
  go_wp2_with fail
  refine (typedWrong_any w base bc vf cf vS bs st H.out 9).mono ?_
  rintro en w1 ⟨rfl,h1,h2⟩
  have H1:=zh (And.intro h1 h2)
  clear h1 h2
  go_wp2_with fail
  go_end0
  exact ⟨rfl,H1.out.1,H1.out.2⟩
theorem typedValue_any (t:Int) (w:World):Calls Tryz.prog 136 #[.int .i64 t] w fun en w'=>en= .returned (.bool (decide (1≤t∧t≤5)))∧w=w':=by
 go_enter Tryz.func136,Tryz.ntmps136
 go_wp2_with fail
 all_goals go_ret
 all_goals refine ⟨?_,rfl⟩
 all_goals congr 2
 all_goals simp only [Bool.decide_and,decide_eq_decide] at *
 all_goals simp [*]
 all_goals omega
theorem info_map:(Tryz.prog.info? 153).map (fun i=>(i.zero,i.size,i.bytes))=some (some (.map none),1,8):=by kernel_rfl
theorem typedOpen_any (w:World) (base bc:Nat) (vf:Value) (cf:List Value) (vS:Value) (bs:List Nat) (st:Chk) (h:ChkAt w base bc vf cf vS bs st) (hl:st.G.length≤100000):
 Calls Tryz.prog 83 #[.pointer (some ⟨bc,0,none⟩)] w fun en w'=>en= .returned (.tuple #[])∧ ∃ vS' bs',ChkAt w' base bc vf cf vS' bs' {st with G:=[]::st.G}∧Since (ChkM bc vS bs) w w'∧ChkAt.NewM w bc vS vS' bs bs':=by
 obtain ⟨aS,cS,rfl,hcS1,hcS2⟩:=row_slice h.row
 have c5:=h.c5
 have z5:=h.z 5
 have hlt:=h.lb.2
 have hbig:=h.big
 have hne:=h.ne
 have hrow:=h.row
 obtain ⟨i0,hi,hz0,hz1,hz2⟩:=info_parts info_map
 have hmk:= @run_makeMap Tryz.prog
 have H:=zh h
 have Hne:=zh hne
 have hcell:=cell_one_new (w.alloc (.map #[] 0)) (Value.map (some w.heap.size)) 153
 rw [World.size_alloc] at hcell
 clear h hne
 go_enter Tryz.func83,Tryz.ntmps83
 go_wp2_with (at_builtin;refine wpList_append_own_at _ rfl _ _ 85 rfl base 153 i0 (.map none) 1 8 Tryz.underlying85 hi hz0 hz1 hz2 rfl (by decide) _ _ _ rfl ((hrow.alloc _).alloc _) ⟨w.heap.size+1,0,none⟩ 1 1 [.map (some w.heap.size)] rfl rfl hcell (by intro u hu;simp at hu;subst hu;rfl) (by unfold maxLen;omega) (by omega) (by simp;omega) ?_)
 intro v' w2 hown hgrow _ hloc
 obtain ⟨gg,cg,rfl⟩: ∃ gg cg,v'= .slice (some ⟨gg,0,none⟩) (st.G.length+1) cg:=by
  rcases hown.2 with ⟨_,h⟩|⟨gg,cap',_,h,_⟩
  ·
   omega
  ·
   exact ⟨gg,cap',h⟩
 have hloc':(Value.slice (some ⟨gg,0,none⟩) (st.G.length+1) cg).ownBlock=(Value.slice aS st.G.length cS).ownBlock∨(Value.slice (some ⟨gg,0,none⟩) (st.G.length+1) cg).ownBlock=some (w.heap.size+1+1):=by
  rcases hloc with e|e
  ·
   exact Or.inl e
  ·
   exact Or.inr (by simpa using e)
 have hp:=H.out.push hgrow hown hloc'
 have c52:w2.cell? ⟨bc,5,none⟩=some (.slice aS st.G.length cS):=by
  have s1:Since (fun k=>(Value.slice aS st.G.length cS).ownBlock=some k) w w2:=((Since.alloc _ _ _).trans (Since.alloc _ _ _)).trans (Since.grown hgrow)
  exact (s1.cell (o:=5) hlt Hne.out).trans c5
 have z52:w2.frozen? ⟨bc,5,none⟩=false:=by
  have s1:Since (fun k=>(Value.slice aS st.G.length cS).ownBlock=some k) w w2:=((Since.alloc _ _ _).trans (Since.alloc _ _ _)).trans (Since.grown hgrow)
  exact (s1.frozen (o:=5) hlt Hne.out).trans z5
 have HP:=zh hp
 clear hp hown hgrow hloc hloc' hrow
 go_wp2_with fail
 go_end0
 exact ⟨rfl,_,_,HP.out.1,HP.out.2.1,HP.out.2.2⟩
theorem typedClose_any (w:World) (base bc:Nat) (vf:Value) (cf:List Value) (vS:Value) (bs:List Nat) (st:Chk) (h:ChkAt w base bc vf cf vS bs st) (g:Scope) (r:List Scope) (hG:st.G=g::r) (hl:r.length≤100000):
 Calls Tryz.prog 138 #[.pointer (some ⟨bc,0,none⟩)] w fun en w'=>en= .returned (.tuple #[])∧ ∃ vS' bs',ChkAt w' base bc vf cf vS' bs' {st with G:=r}∧Since (ChkM bc vS bs) w w'∧ChkAt.NewM w bc vS vS' bs bs':=by
 have hrow:=h.row
 rw [hG] at hrow
 obtain ⟨gS,cap,rfl,-,-,-,-,-⟩:=rowGet hrow (i:=0) (u:=(mapRow bs)[0]'(by have h1:=hrow.1;simp at h1;omega)) (by simp)
 have hcap:=(row_slice hrow)
 obtain ⟨_,_,hv,hc1,hc2⟩:=hcap
 obtain ⟨-,-,rfl⟩:=Value.slice.inj hv
 obtain ⟨b,bs',rfl,hp,hM⟩:=h.pop hG rfl
 have c5:=h.c5
 have z5:=h.z 5
 have hlt:=h.lb.2
 have HP:=zh hp
 have HM:=zh hM
 obtain ⟨m1,hm1⟩: ∃ m1,m1=r.length+1:=⟨_,rfl⟩
 have hw0:IntKind.i64.wrap ((m1:Int) - 1)=(r.length:Int):=by rw [show ((m1:Nat):Int) - 1=r.length by omega];exact IntWalk.i64_in _ (by omega)
 have hj0:(0:Int)≤(r.length:Int):=by omega
 have hj1:(r.length:Int)≤(m1:Int):=by omega
 have hj2:r.length≤cap:=by simp at hc1;omega
 simp only [List.length_cons] at c5
 rw [←hm1] at c5
 clear h hp hM hrow hv hG hm1
 go_enter Tryz.func138,Tryz.ntmps138
 go_region
 all_goals go_wp2_with fail
 go_end0
 have hs:Since (ChkM bc (Value.slice (some ⟨gS,0,none⟩) (r.length+1) cap) (b::bs')) w (w.setCell ⟨bc,5,none⟩ (.slice (some ⟨gS,0,none⟩) r.length cap)).drew:=((Since.setCell w ⟨bc,5,none⟩ _).mono (fun k e=>Or.inl e)).trans (Since.drew _ _)
 exact ⟨rfl,_,_,HP.out.since (Since.drew (fun _=>False) _) (fun _ e=>e.elim),hs,fun k hk=>Or.inl (HM.out k hk)⟩
end Go.Proofs.YtkopjgnjflhkeaaGreatDoor
namespace Go.Proofs.YtkopjgnjflhkeaaGreatDoor
open Go.RowKit Go.Pst
set_option linter.unusedVariables false
set_option linter.unusedSimpArgs false
def KindEnd (st:Chk) (R:Except Int Int) (x:Int) (st':Chk):Prop:=
 match R with
 | .ok t=>x=t∧st'=st
 | .error e=>e≠0∧st'.fault=e∧st'.G=st.G∧st'.loops=st.loops
theorem KindEnd.bad {st:Chk} (h0:st.fault=0) (x:Int) {e:Int} (he:e≠0):KindEnd st (.error e) x (st.bad e):=⟨he,by simp [Chk.bad,h0],rfl,rfl⟩
theorem KindEnd.want1 {st:Chk} (h0:st.fault=0) (a k t:Int):KindEnd st (if a=k then .ok t else .error 9) t (if a=k then st else st.bad 9):=by
 by_cases h:a=k
 ·
  simp only [if_pos h];exact ⟨rfl,rfl⟩
 ·
  simp only [if_neg h];exact KindEnd.bad h0 t (by decide)
theorem KindEnd.want2 {st:Chk} (h0:st.fault=0) (a b k l t:Int):KindEnd st (if a=k∧b=l then .ok t else .error 9) t (if b=l then (if a=k then st else st.bad 9) else (if a=k then st else st.bad 9).bad 9):=by
 by_cases h:a=k
 ·
  by_cases h2:b=l
  ·
   simp only [if_pos h,if_pos h2,if_pos (And.intro h h2)];exact ⟨rfl,rfl⟩
  ·
   simp only [if_pos h,if_neg h2,if_neg (fun e:a=k∧b=l=>h2 e.2)];exact KindEnd.bad h0 t (by decide)
 ·
  simp only [if_neg h,if_neg (fun e:a=k∧b=l=>h e.1)]
  by_cases h2:b=l
  ·
   simp only [if_pos h2];exact KindEnd.bad h0 t (by decide)
  ·
   simp only [if_neg h2];rw [Chk.bad_bad st (by decide)];exact KindEnd.bad h0 t (by decide)
def oneT (s:List UInt8) (t:Int):Except Int Int:=if s=[45] then (if t=1 then .ok 1 else .error 9) else if s=[33] then (if t=2 then .ok 2 else .error 9) else .error 4
def OpPost (w:World) (base bc:Nat) (vf:Value) (cf:List Value) (vS:Value) (bs:List Nat) (st:Chk) (R:Except Int Int) (en:Ending) (w':World):Prop:=
 ∃ x st',en= .returned (.int .i64 x)∧ChkAt w' base bc vf cf vS bs st'∧Since (fun k=>k=bc) w w'∧KindEnd st R x st'
theorem typedOne_any (w:World) (base bc:Nat) (vf:Value) (cf:List Value) (vS:Value) (bs:List Nat) (st:Chk) (h:ChkAt w base bc vf cf vS bs st) (h0:st.fault=0) (s:ByteArray) (t:Int):
 Calls Tryz.prog 232 #[.pointer (some ⟨bc,0,none⟩), .string s, .int .i64 t] w (OpPost w base bc vf cf vS bs st (oneT s.toList t)):=by
 have H:=zh h
 have H0:=zh h0
 clear h h0
 by_cases h1:s.toList=[45]
 ·
  have Hr:=zh (show oneT s.toList t=if t=1 then .ok 1 else .error 9 by unfold oneT;rw [if_pos h1])
  go_enter Tryz.func232,Tryz.ntmps232
  go_wp2_with fail
  refine (typedWant_any w base bc vf cf vS bs st H.out t 1).mono ?_
  rintro en w1 ⟨rfl,hcw1,hsw1⟩
  have HCw1:=zh hcw1
  have HSw1:=zh hsw1
  clear hcw1 hsw1
  go_wp2_with fail
  go_ret
  exact ⟨_,_,rfl,HCw1.out,HSw1.out,by rw [Hr.out];exact KindEnd.want1 H0.out t 1 1⟩
 by_cases h2:s.toList=[33]
 ·
  have Hr:=zh (show oneT s.toList t=if t=2 then .ok 2 else .error 9 by unfold oneT;rw [if_neg h1,if_pos h2])
  clear h1
  go_enter Tryz.func232,Tryz.ntmps232
  go_wp2_with fail
  refine (typedWant_any w base bc vf cf vS bs st H.out t 2).mono ?_
  rintro en w1 ⟨rfl,hcw1,hsw1⟩
  have HCw1:=zh hcw1
  have HSw1:=zh hsw1
  clear hcw1 hsw1
  go_wp2_with fail
  go_ret
  exact ⟨_,_,rfl,HCw1.out,HSw1.out,by rw [Hr.out];exact KindEnd.want1 H0.out t 2 2⟩
 ·
  have Hr:=zh (show oneT s.toList t= .error 4 by unfold oneT;rw [if_neg h1,if_neg h2])
  have d1:(s.toList==[45])=false:=by simpa using h1
  have d2:(s.toList==[33])=false:=by simpa using h2
  clear h1 h2
  go_enter Tryz.func232,Tryz.ntmps232
  go_wp2_with fail
  refine (typedWrong_any w base bc vf cf vS bs st H.out 4).mono ?_
  rintro en w1 ⟨rfl,hc1,hs1⟩
  have HC1:=zh hc1
  have HS1:=zh hs1
  clear hc1 hs1
  go_wp2_with fail
  go_ret
  exact ⟨_,_,rfl,HC1.out,HS1.out,by rw [Hr.out];exact KindEnd.bad H0.out _ (by decide)⟩
set_option maxRecDepth 4000 in
set_option maxHeartbeats 1000000 in
theorem two_43 (w:World) (base bc:Nat) (vf:Value) (cf:List Value) (vS:Value) (bs:List Nat) (st:Chk) (h:ChkAt w base bc vf cf vS bs st) (h0:st.fault=0) (s:ByteArray) (a b:Int) (hs:s.toList=[43]):
 Calls Tryz.prog 231 #[.pointer (some ⟨bc,0,none⟩), .string s, .int .i64 a, .int .i64 b] w (OpPost w base bc vf cf vS bs st (if (a=1∨a=3)∧a=b then .ok a else .error 9)):=by
 have H:=zh h
 have H0:=zh h0
 clear h h0
 obtain ⟨R,hR⟩: ∃ R:Except Int Int,R=(if (a=1∨a=3)∧a=b then .ok a else .error 9):=⟨_,rfl⟩
 rw [←hR]
 have HR:=zh hR
 clear hR
 go_enter Tryz.func231,Tryz.ntmps231
 go_wp2_with (first|(go_at_call 84;refine (typedWrong_any w base bc vf cf vS bs st H.out 9).mono ?_;rintro en w1 ⟨rfl,hc1,hs1⟩))
 all_goals go_ret
 all_goals simp only [bne_iff_ne,ne_eq,bne_eq_false_iff_eq,Decidable.not_not] at *
 all_goals first
  |exact ⟨_,_,rfl,hc1,hs1,by rw [HR.out,if_neg (by omega)];exact KindEnd.bad H0.out _ (by decide)⟩
  |exact ⟨_,_,rfl,H.out,Since.refl _ _,by rw [HR.out,if_pos (by omega)];exact ⟨by omega,rfl⟩⟩
set_option maxRecDepth 4000 in
set_option maxHeartbeats 1000000 in
theorem two_45 (w:World) (base bc:Nat) (vf:Value) (cf:List Value) (vS:Value) (bs:List Nat) (st:Chk) (h:ChkAt w base bc vf cf vS bs st) (h0:st.fault=0) (s:ByteArray) (a b:Int) (hs:s.toList=[45]):
 Calls Tryz.prog 231 #[.pointer (some ⟨bc,0,none⟩), .string s, .int .i64 a, .int .i64 b] w (OpPost w base bc vf cf vS bs st (if a=1∧b=1 then .ok 1 else .error 9)):=by
 have H:=zh h
 have H0:=zh h0
 clear h h0
 obtain ⟨R,hR⟩: ∃ R:Except Int Int,R=(if a=1∧b=1 then .ok 1 else .error 9):=⟨_,rfl⟩
 rw [←hR]
 have HR:=zh hR
 clear hR
 go_enter Tryz.func231,Tryz.ntmps231
 go_wp2_with fail
 refine (typedWant_any w base bc vf cf vS bs st H.out a 1).mono ?_
 rintro en w1 ⟨rfl,hcw1,hsw1⟩
 have HCw1:=zh hcw1
 have HSw1:=zh hsw1
 clear hcw1 hsw1
 go_wp2_with fail
 refine (typedWant_any w1 base bc vf cf vS bs _ HCw1.out b 1).mono ?_
 rintro en w2 ⟨rfl,hcw2,hsw2⟩
 have HCw2:=zh hcw2
 have HSw2:=zh hsw2
 clear hcw2 hsw2
 go_wp2_with fail
 go_ret
 exact ⟨_,_,rfl,HCw2.out,HSw1.out.trans HSw2.out,by rw [HR.out];exact KindEnd.want2 H0.out a b 1 1 1⟩
set_option maxRecDepth 4000 in
set_option maxHeartbeats 1000000 in
theorem two_42 (w:World) (base bc:Nat) (vf:Value) (cf:List Value) (vS:Value) (bs:List Nat) (st:Chk) (h:ChkAt w base bc vf cf vS bs st) (h0:st.fault=0) (s:ByteArray) (a b:Int) (hs:s.toList=[42]):
 Calls Tryz.prog 231 #[.pointer (some ⟨bc,0,none⟩), .string s, .int .i64 a, .int .i64 b] w (OpPost w base bc vf cf vS bs st (if a=1∧b=1 then .ok 1 else .error 9)):=by
 have H:=zh h
 have H0:=zh h0
 clear h h0
 obtain ⟨R,hR⟩: ∃ R:Except Int Int,R=(if a=1∧b=1 then .ok 1 else .error 9):=⟨_,rfl⟩
 rw [←hR]
 have HR:=zh hR
 clear hR
 go_enter Tryz.func231,Tryz.ntmps231
 go_wp2_with fail
 refine (typedWant_any w base bc vf cf vS bs st H.out a 1).mono ?_
 rintro en w1 ⟨rfl,hcw1,hsw1⟩
 have HCw1:=zh hcw1
 have HSw1:=zh hsw1
 clear hcw1 hsw1
 go_wp2_with fail
 refine (typedWant_any w1 base bc vf cf vS bs _ HCw1.out b 1).mono ?_
 rintro en w2 ⟨rfl,hcw2,hsw2⟩
 have HCw2:=zh hcw2
 have HSw2:=zh hsw2
 clear hcw2 hsw2
 go_wp2_with fail
 go_ret
 exact ⟨_,_,rfl,HCw2.out,HSw1.out.trans HSw2.out,by rw [HR.out];exact KindEnd.want2 H0.out a b 1 1 1⟩
set_option maxRecDepth 4000 in
set_option maxHeartbeats 1000000 in
theorem two_47 (w:World) (base bc:Nat) (vf:Value) (cf:List Value) (vS:Value) (bs:List Nat) (st:Chk) (h:ChkAt w base bc vf cf vS bs st) (h0:st.fault=0) (s:ByteArray) (a b:Int) (hs:s.toList=[47]):
 Calls Tryz.prog 231 #[.pointer (some ⟨bc,0,none⟩), .string s, .int .i64 a, .int .i64 b] w (OpPost w base bc vf cf vS bs st (if a=1∧b=1 then .ok 1 else .error 9)):=by
 have H:=zh h
 have H0:=zh h0
 clear h h0
 obtain ⟨R,hR⟩: ∃ R:Except Int Int,R=(if a=1∧b=1 then .ok 1 else .error 9):=⟨_,rfl⟩
 rw [←hR]
 have HR:=zh hR
 clear hR
 go_enter Tryz.func231,Tryz.ntmps231
 go_wp2_with fail
 refine (typedWant_any w base bc vf cf vS bs st H.out a 1).mono ?_
 rintro en w1 ⟨rfl,hcw1,hsw1⟩
 have HCw1:=zh hcw1
 have HSw1:=zh hsw1
 clear hcw1 hsw1
 go_wp2_with fail
 refine (typedWant_any w1 base bc vf cf vS bs _ HCw1.out b 1).mono ?_
 rintro en w2 ⟨rfl,hcw2,hsw2⟩
 have HCw2:=zh hcw2
 have HSw2:=zh hsw2
 clear hcw2 hsw2
 go_wp2_with fail
 go_ret
 exact ⟨_,_,rfl,HCw2.out,HSw1.out.trans HSw2.out,by rw [HR.out];exact KindEnd.want2 H0.out a b 1 1 1⟩
set_option maxRecDepth 4000 in
set_option maxHeartbeats 1000000 in
theorem two_37 (w:World) (base bc:Nat) (vf:Value) (cf:List Value) (vS:Value) (bs:List Nat) (st:Chk) (h:ChkAt w base bc vf cf vS bs st) (h0:st.fault=0) (s:ByteArray) (a b:Int) (hs:s.toList=[37]):
 Calls Tryz.prog 231 #[.pointer (some ⟨bc,0,none⟩), .string s, .int .i64 a, .int .i64 b] w (OpPost w base bc vf cf vS bs st (if a=1∧b=1 then .ok 1 else .error 9)):=by
 have H:=zh h
 have H0:=zh h0
 clear h h0
 obtain ⟨R,hR⟩: ∃ R:Except Int Int,R=(if a=1∧b=1 then .ok 1 else .error 9):=⟨_,rfl⟩
 rw [←hR]
 have HR:=zh hR
 clear hR
 go_enter Tryz.func231,Tryz.ntmps231
 go_wp2_with fail
 refine (typedWant_any w base bc vf cf vS bs st H.out a 1).mono ?_
 rintro en w1 ⟨rfl,hcw1,hsw1⟩
 have HCw1:=zh hcw1
 have HSw1:=zh hsw1
 clear hcw1 hsw1
 go_wp2_with fail
 refine (typedWant_any w1 base bc vf cf vS bs _ HCw1.out b 1).mono ?_
 rintro en w2 ⟨rfl,hcw2,hsw2⟩
 have HCw2:=zh hcw2
 have HSw2:=zh hsw2
 clear hcw2 hsw2
 go_wp2_with fail
 go_ret
 exact ⟨_,_,rfl,HCw2.out,HSw1.out.trans HSw2.out,by rw [HR.out];exact KindEnd.want2 H0.out a b 1 1 1⟩
set_option maxRecDepth 4000 in
set_option maxHeartbeats 1000000 in
theorem two_38_38 (w:World) (base bc:Nat) (vf:Value) (cf:List Value) (vS:Value) (bs:List Nat) (st:Chk) (h:ChkAt w base bc vf cf vS bs st) (h0:st.fault=0) (s:ByteArray) (a b:Int) (hs:s.toList=[38,38]):
 Calls Tryz.prog 231 #[.pointer (some ⟨bc,0,none⟩), .string s, .int .i64 a, .int .i64 b] w (OpPost w base bc vf cf vS bs st (if a=2∧b=2 then .ok 2 else .error 9)):=by
 have H:=zh h
 have H0:=zh h0
 clear h h0
 obtain ⟨R,hR⟩: ∃ R:Except Int Int,R=(if a=2∧b=2 then .ok 2 else .error 9):=⟨_,rfl⟩
 rw [←hR]
 have HR:=zh hR
 clear hR
 go_enter Tryz.func231,Tryz.ntmps231
 go_wp2_with fail
 refine (typedWant_any w base bc vf cf vS bs st H.out a 2).mono ?_
 rintro en w1 ⟨rfl,hcw1,hsw1⟩
 have HCw1:=zh hcw1
 have HSw1:=zh hsw1
 clear hcw1 hsw1
 go_wp2_with fail
 refine (typedWant_any w1 base bc vf cf vS bs _ HCw1.out b 2).mono ?_
 rintro en w2 ⟨rfl,hcw2,hsw2⟩
 have HCw2:=zh hcw2
 have HSw2:=zh hsw2
 clear hcw2 hsw2
 go_wp2_with fail
 go_ret
 exact ⟨_,_,rfl,HCw2.out,HSw1.out.trans HSw2.out,by rw [HR.out];exact KindEnd.want2 H0.out a b 2 2 2⟩
set_option maxRecDepth 4000 in
set_option maxHeartbeats 1000000 in
theorem two_124_124 (w:World) (base bc:Nat) (vf:Value) (cf:List Value) (vS:Value) (bs:List Nat) (st:Chk) (h:ChkAt w base bc vf cf vS bs st) (h0:st.fault=0) (s:ByteArray) (a b:Int) (hs:s.toList=[124,124]):
 Calls Tryz.prog 231 #[.pointer (some ⟨bc,0,none⟩), .string s, .int .i64 a, .int .i64 b] w (OpPost w base bc vf cf vS bs st (if a=2∧b=2 then .ok 2 else .error 9)):=by
 have H:=zh h
 have H0:=zh h0
 clear h h0
 obtain ⟨R,hR⟩: ∃ R:Except Int Int,R=(if a=2∧b=2 then .ok 2 else .error 9):=⟨_,rfl⟩
 rw [←hR]
 have HR:=zh hR
 clear hR
 go_enter Tryz.func231,Tryz.ntmps231
 go_wp2_with fail
 refine (typedWant_any w base bc vf cf vS bs st H.out a 2).mono ?_
 rintro en w1 ⟨rfl,hcw1,hsw1⟩
 have HCw1:=zh hcw1
 have HSw1:=zh hsw1
 clear hcw1 hsw1
 go_wp2_with fail
 refine (typedWant_any w1 base bc vf cf vS bs _ HCw1.out b 2).mono ?_
 rintro en w2 ⟨rfl,hcw2,hsw2⟩
 have HCw2:=zh hcw2
 have HSw2:=zh hsw2
 clear hcw2 hsw2
 go_wp2_with fail
 go_ret
 exact ⟨_,_,rfl,HCw2.out,HSw1.out.trans HSw2.out,by rw [HR.out];exact KindEnd.want2 H0.out a b 2 2 2⟩
set_option maxRecDepth 4000 in
set_option maxHeartbeats 1000000 in
theorem two_61_61 (w:World) (base bc:Nat) (vf:Value) (cf:List Value) (vS:Value) (bs:List Nat) (st:Chk) (h:ChkAt w base bc vf cf vS bs st) (h0:st.fault=0) (s:ByteArray) (a b:Int) (hs:s.toList=[61,61]):
 Calls Tryz.prog 231 #[.pointer (some ⟨bc,0,none⟩), .string s, .int .i64 a, .int .i64 b] w (OpPost w base bc vf cf vS bs st (if (a=1∨a=2∨a=3)∧a=b then .ok 2 else .error 9)):=by
 have H:=zh h
 have H0:=zh h0
 clear h h0
 obtain ⟨R,hR⟩: ∃ R:Except Int Int,R=(if (a=1∨a=2∨a=3)∧a=b then .ok 2 else .error 9):=⟨_,rfl⟩
 rw [←hR]
 have HR:=zh hR
 clear hR
 go_enter Tryz.func231,Tryz.ntmps231
 go_wp2_with (first|(go_at_call 84;refine (typedWrong_any w base bc vf cf vS bs st H.out 9).mono ?_;rintro en w1 ⟨rfl,hc1,hs1⟩))
 all_goals go_ret
 all_goals simp only [bne_iff_ne,ne_eq,bne_eq_false_iff_eq,Decidable.not_not] at *
 all_goals first
  |exact ⟨_,_,rfl,hc1,hs1,by rw [HR.out,if_neg (by omega)];exact KindEnd.bad H0.out _ (by decide)⟩
  |exact ⟨_,_,rfl,H.out,Since.refl _ _,by rw [HR.out,if_pos (by omega)];exact ⟨by omega,rfl⟩⟩
set_option maxRecDepth 4000 in
set_option maxHeartbeats 1000000 in
theorem two_33_61 (w:World) (base bc:Nat) (vf:Value) (cf:List Value) (vS:Value) (bs:List Nat) (st:Chk) (h:ChkAt w base bc vf cf vS bs st) (h0:st.fault=0) (s:ByteArray) (a b:Int) (hs:s.toList=[33,61]):
 Calls Tryz.prog 231 #[.pointer (some ⟨bc,0,none⟩), .string s, .int .i64 a, .int .i64 b] w (OpPost w base bc vf cf vS bs st (if (a=1∨a=2∨a=3)∧a=b then .ok 2 else .error 9)):=by
 have H:=zh h
 have H0:=zh h0
 clear h h0
 obtain ⟨R,hR⟩: ∃ R:Except Int Int,R=(if (a=1∨a=2∨a=3)∧a=b then .ok 2 else .error 9):=⟨_,rfl⟩
 rw [←hR]
 have HR:=zh hR
 clear hR
 go_enter Tryz.func231,Tryz.ntmps231
 go_wp2_with (first|(go_at_call 84;refine (typedWrong_any w base bc vf cf vS bs st H.out 9).mono ?_;rintro en w1 ⟨rfl,hc1,hs1⟩))
 all_goals go_ret
 all_goals simp only [bne_iff_ne,ne_eq,bne_eq_false_iff_eq,Decidable.not_not] at *
 all_goals first
  |exact ⟨_,_,rfl,hc1,hs1,by rw [HR.out,if_neg (by omega)];exact KindEnd.bad H0.out _ (by decide)⟩
  |exact ⟨_,_,rfl,H.out,Since.refl _ _,by rw [HR.out,if_pos (by omega)];exact ⟨by omega,rfl⟩⟩
set_option maxRecDepth 4000 in
set_option maxHeartbeats 1000000 in
theorem two_60 (w:World) (base bc:Nat) (vf:Value) (cf:List Value) (vS:Value) (bs:List Nat) (st:Chk) (h:ChkAt w base bc vf cf vS bs st) (h0:st.fault=0) (s:ByteArray) (a b:Int) (hs:s.toList=[60]):
 Calls Tryz.prog 231 #[.pointer (some ⟨bc,0,none⟩), .string s, .int .i64 a, .int .i64 b] w (OpPost w base bc vf cf vS bs st (if (a=1∨a=3)∧a=b then .ok 2 else .error 9)):=by
 have H:=zh h
 have H0:=zh h0
 clear h h0
 obtain ⟨R,hR⟩: ∃ R:Except Int Int,R=(if (a=1∨a=3)∧a=b then .ok 2 else .error 9):=⟨_,rfl⟩
 rw [←hR]
 have HR:=zh hR
 clear hR
 go_enter Tryz.func231,Tryz.ntmps231
 go_wp2_with (first|(go_at_call 84;refine (typedWrong_any w base bc vf cf vS bs st H.out 9).mono ?_;rintro en w1 ⟨rfl,hc1,hs1⟩))
 all_goals go_ret
 all_goals simp only [bne_iff_ne,ne_eq,bne_eq_false_iff_eq,Decidable.not_not] at *
 all_goals first
  |exact ⟨_,_,rfl,hc1,hs1,by rw [HR.out,if_neg (by omega)];exact KindEnd.bad H0.out _ (by decide)⟩
  |exact ⟨_,_,rfl,H.out,Since.refl _ _,by rw [HR.out,if_pos (by omega)];exact ⟨by omega,rfl⟩⟩
set_option maxRecDepth 4000 in
set_option maxHeartbeats 1000000 in
theorem two_60_61 (w:World) (base bc:Nat) (vf:Value) (cf:List Value) (vS:Value) (bs:List Nat) (st:Chk) (h:ChkAt w base bc vf cf vS bs st) (h0:st.fault=0) (s:ByteArray) (a b:Int) (hs:s.toList=[60,61]):
 Calls Tryz.prog 231 #[.pointer (some ⟨bc,0,none⟩), .string s, .int .i64 a, .int .i64 b] w (OpPost w base bc vf cf vS bs st (if (a=1∨a=3)∧a=b then .ok 2 else .error 9)):=by
 have H:=zh h
 have H0:=zh h0
 clear h h0
 obtain ⟨R,hR⟩: ∃ R:Except Int Int,R=(if (a=1∨a=3)∧a=b then .ok 2 else .error 9):=⟨_,rfl⟩
 rw [←hR]
 have HR:=zh hR
 clear hR
 go_enter Tryz.func231,Tryz.ntmps231
 go_wp2_with (first|(go_at_call 84;refine (typedWrong_any w base bc vf cf vS bs st H.out 9).mono ?_;rintro en w1 ⟨rfl,hc1,hs1⟩))
 all_goals go_ret
 all_goals simp only [bne_iff_ne,ne_eq,bne_eq_false_iff_eq,Decidable.not_not] at *
 all_goals first
  |exact ⟨_,_,rfl,hc1,hs1,by rw [HR.out,if_neg (by omega)];exact KindEnd.bad H0.out _ (by decide)⟩
  |exact ⟨_,_,rfl,H.out,Since.refl _ _,by rw [HR.out,if_pos (by omega)];exact ⟨by omega,rfl⟩⟩
set_option maxRecDepth 4000 in
set_option maxHeartbeats 1000000 in
theorem two_62 (w:World) (base bc:Nat) (vf:Value) (cf:List Value) (vS:Value) (bs:List Nat) (st:Chk) (h:ChkAt w base bc vf cf vS bs st) (h0:st.fault=0) (s:ByteArray) (a b:Int) (hs:s.toList=[62]):
 Calls Tryz.prog 231 #[.pointer (some ⟨bc,0,none⟩), .string s, .int .i64 a, .int .i64 b] w (OpPost w base bc vf cf vS bs st (if (a=1∨a=3)∧a=b then .ok 2 else .error 9)):=by
 have H:=zh h
 have H0:=zh h0
 clear h h0
 obtain ⟨R,hR⟩: ∃ R:Except Int Int,R=(if (a=1∨a=3)∧a=b then .ok 2 else .error 9):=⟨_,rfl⟩
 rw [←hR]
 have HR:=zh hR
 clear hR
 go_enter Tryz.func231,Tryz.ntmps231
 go_wp2_with (first|(go_at_call 84;refine (typedWrong_any w base bc vf cf vS bs st H.out 9).mono ?_;rintro en w1 ⟨rfl,hc1,hs1⟩))
 all_goals go_ret
 all_goals simp only [bne_iff_ne,ne_eq,bne_eq_false_iff_eq,Decidable.not_not] at *
 all_goals first
  |exact ⟨_,_,rfl,hc1,hs1,by rw [HR.out,if_neg (by omega)];exact KindEnd.bad H0.out _ (by decide)⟩
  |exact ⟨_,_,rfl,H.out,Since.refl _ _,by rw [HR.out,if_pos (by omega)];exact ⟨by omega,rfl⟩⟩
set_option maxRecDepth 4000 in
set_option maxHeartbeats 1000000 in
theorem two_62_61 (w:World) (base bc:Nat) (vf:Value) (cf:List Value) (vS:Value) (bs:List Nat) (st:Chk) (h:ChkAt w base bc vf cf vS bs st) (h0:st.fault=0) (s:ByteArray) (a b:Int) (hs:s.toList=[62,61]):
 Calls Tryz.prog 231 #[.pointer (some ⟨bc,0,none⟩), .string s, .int .i64 a, .int .i64 b] w (OpPost w base bc vf cf vS bs st (if (a=1∨a=3)∧a=b then .ok 2 else .error 9)):=by
 have H:=zh h
 have H0:=zh h0
 clear h h0
 obtain ⟨R,hR⟩: ∃ R:Except Int Int,R=(if (a=1∨a=3)∧a=b then .ok 2 else .error 9):=⟨_,rfl⟩
 rw [←hR]
 have HR:=zh hR
 clear hR
 go_enter Tryz.func231,Tryz.ntmps231
 go_wp2_with (first|(go_at_call 84;refine (typedWrong_any w base bc vf cf vS bs st H.out 9).mono ?_;rintro en w1 ⟨rfl,hc1,hs1⟩))
 all_goals go_ret
 all_goals simp only [bne_iff_ne,ne_eq,bne_eq_false_iff_eq,Decidable.not_not] at *
 all_goals first
  |exact ⟨_,_,rfl,hc1,hs1,by rw [HR.out,if_neg (by omega)];exact KindEnd.bad H0.out _ (by decide)⟩
  |exact ⟨_,_,rfl,H.out,Since.refl _ _,by rw [HR.out,if_pos (by omega)];exact ⟨by omega,rfl⟩⟩
theorem two_none (w:World) (base bc:Nat) (vf:Value) (cf:List Value) (vS:Value) (bs:List Nat) (st:Chk) (h:ChkAt w base bc vf cf vS bs st) (h0:st.fault=0) (s:ByteArray) (a b:Int) (n0:(s.toList==[43])=false) (n1:(s.toList==[45])=false) (n2:(s.toList==[42])=false) (n3:(s.toList==[47])=false) (n4:(s.toList==[37])=false) (n5:(s.toList==[38,38])=false) (n6:(s.toList==[124,124])=false) (n7:(s.toList==[61,61])=false) (n8:(s.toList==[33,61])=false) (n9:(s.toList==[60])=false) (n10:(s.toList==[60,61])=false) (n11:(s.toList==[62])=false) (n12:(s.toList==[62,61])=false):
 Calls Tryz.prog 231 #[.pointer (some ⟨bc,0,none⟩), .string s, .int .i64 a, .int .i64 b] w (OpPost w base bc vf cf vS bs st (.error 4)):=by
 have H:=zh h
 have H0:=zh h0
 clear h h0
 go_enter Tryz.func231,Tryz.ntmps231
 go_wp2_with (first|(go_at_call 84;refine (typedWrong_any w base bc vf cf vS bs st H.out 4).mono ?_;rintro en w1 ⟨rfl,hc1,hs1⟩))
 go_ret
 exact ⟨_,_,rfl,hc1,hs1,KindEnd.bad H0.out _ (by decide)⟩
theorem typedTwo_any (w:World) (base bc:Nat) (vf:Value) (cf:List Value) (vS:Value) (bs:List Nat) (st:Chk) (h:ChkAt w base bc vf cf vS bs st) (h0:st.fault=0) (s:ByteArray) (a b:Int):
 Calls Tryz.prog 231 #[.pointer (some ⟨bc,0,none⟩), .string s, .int .i64 a, .int .i64 b] w (OpPost w base bc vf cf vS bs st (opT s.toList a b)):=by
 by_cases n0:s.toList=[43]
 ·
  have hr:opT s.toList a b=(if (a=1∨a=3)∧a=b then .ok a else .error 9):=by rw [n0];simp only [opT];simp
  rw [hr]
  exact two_43 w base bc vf cf vS bs st h h0 s a b n0
 by_cases n1:s.toList=[45]
 ·
  have hr:opT s.toList a b=(if a=1∧b=1 then .ok 1 else .error 9):=by rw [n1];simp only [opT];simp
  rw [hr]
  exact two_45 w base bc vf cf vS bs st h h0 s a b n1
 by_cases n2:s.toList=[42]
 ·
  have hr:opT s.toList a b=(if a=1∧b=1 then .ok 1 else .error 9):=by rw [n2];simp only [opT];simp
  rw [hr]
  exact two_42 w base bc vf cf vS bs st h h0 s a b n2
 by_cases n3:s.toList=[47]
 ·
  have hr:opT s.toList a b=(if a=1∧b=1 then .ok 1 else .error 9):=by rw [n3];simp only [opT];simp
  rw [hr]
  exact two_47 w base bc vf cf vS bs st h h0 s a b n3
 by_cases n4:s.toList=[37]
 ·
  have hr:opT s.toList a b=(if a=1∧b=1 then .ok 1 else .error 9):=by rw [n4];simp only [opT];simp
  rw [hr]
  exact two_37 w base bc vf cf vS bs st h h0 s a b n4
 by_cases n5:s.toList=[38,38]
 ·
  have hr:opT s.toList a b=(if a=2∧b=2 then .ok 2 else .error 9):=by rw [n5];simp only [opT];simp
  rw [hr]
  exact two_38_38 w base bc vf cf vS bs st h h0 s a b n5
 by_cases n6:s.toList=[124,124]
 ·
  have hr:opT s.toList a b=(if a=2∧b=2 then .ok 2 else .error 9):=by rw [n6];simp only [opT];simp
  rw [hr]
  exact two_124_124 w base bc vf cf vS bs st h h0 s a b n6
 by_cases n7:s.toList=[61,61]
 ·
  have hr:opT s.toList a b=(if (a=1∨a=2∨a=3)∧a=b then .ok 2 else .error 9):=by rw [n7];simp only [opT];simp
  rw [hr]
  exact two_61_61 w base bc vf cf vS bs st h h0 s a b n7
 by_cases n8:s.toList=[33,61]
 ·
  have hr:opT s.toList a b=(if (a=1∨a=2∨a=3)∧a=b then .ok 2 else .error 9):=by rw [n8];simp only [opT];simp
  rw [hr]
  exact two_33_61 w base bc vf cf vS bs st h h0 s a b n8
 by_cases n9:s.toList=[60]
 ·
  have hr:opT s.toList a b=(if (a=1∨a=3)∧a=b then .ok 2 else .error 9):=by rw [n9];simp only [opT];simp
  rw [hr]
  exact two_60 w base bc vf cf vS bs st h h0 s a b n9
 by_cases n10:s.toList=[60,61]
 ·
  have hr:opT s.toList a b=(if (a=1∨a=3)∧a=b then .ok 2 else .error 9):=by rw [n10];simp only [opT];simp
  rw [hr]
  exact two_60_61 w base bc vf cf vS bs st h h0 s a b n10
 by_cases n11:s.toList=[62]
 ·
  have hr:opT s.toList a b=(if (a=1∨a=3)∧a=b then .ok 2 else .error 9):=by rw [n11];simp only [opT];simp
  rw [hr]
  exact two_62 w base bc vf cf vS bs st h h0 s a b n11
 by_cases n12:s.toList=[62,61]
 ·
  have hr:opT s.toList a b=(if (a=1∨a=3)∧a=b then .ok 2 else .error 9):=by rw [n12];simp only [opT];simp
  rw [hr]
  exact two_62_61 w base bc vf cf vS bs st h h0 s a b n12
 have hr:opT s.toList a b= .error 4:=by
  unfold opT
  simp only [n0,n1,n2,n3,n4,n5,n6,n7,n8,n9,n10,n11,n12,or_self,if_false]
 rw [hr]
 exact two_none w base bc vf cf vS bs st h h0 s a b (by simpa using n0) (by simpa using n1) (by simpa using n2) (by simpa using n3) (by simpa using n4) (by simpa using n5) (by simpa using n6) (by simpa using n7) (by simpa using n8) (by simpa using n9) (by simpa using n10) (by simpa using n11) (by simpa using n12)
end Go.Proofs.YtkopjgnjflhkeaaGreatDoor
namespace Go.Proofs.YtkopjgnjflhkeaaGreatDoor
open Go.RowKit Go.Pst
set_option linter.unusedVariables false
set_option linter.unusedSimpArgs false
def fnAt (p:PFunc→Bool):List PFunc→Nat→Int
 |[],_=> -1
 |f::r,k=>if p f=true then (k:Int) else fnAt p r (k+1)
theorem fnAt_ge (p:PFunc→Bool): ∀ (l:List PFunc) (k:Nat),decide (0≤fnAt p l k)=l.any p
 |[],k=>by simp [fnAt]
 |f::r,k=>by
  unfold fnAt
  by_cases h:p f=true
  ·
   simp [h]
  ·
   simp [h,fnAt_ge p r (k+1)]
def named (s:ByteArray) (f:PFunc):Bool:=decide (f.name=s)
theorem callT_at (s:ByteArray) (ts:List Int): ∀ (l:List PFunc) (k:Nat),(fnAt (named s) l k= -1∧callT l s ts= .error 6)∨ ∃ i,∃ h:i<l.length,fnAt (named s) l k=(k+i:Nat)∧callT l s ts=(if l[i].params.length≠ts.length then .error 10 else if ts=l[i].params.map (·.2) then .ok l[i].result else .error 9)
 |[],k=>Or.inl ⟨rfl,rfl⟩
 |f::r,k=>by
  unfold fnAt callT
  by_cases h:f.name=s
  ·
   right
   refine ⟨0,by simp,?_,?_⟩
   ·
    simp [named,h]
   ·
    rw [if_pos h];rfl
  ·
   have hn:named s f=false:=by simp [named,h]
   simp only [hn,Bool.false_eq_true,if_false,if_neg h]
   rcases callT_at s ts r (k+1) with ⟨h1,h2⟩|⟨i,hi,h1,h2⟩
   ·
    exact Or.inl ⟨h1,h2⟩
   ·
    right
    exact ⟨i+1,by simp;omega,by rw [h1];congr 1;omega,by rw [h2];simp⟩
theorem named_any (d:Nat) (s:ByteArray) (f:PFunc) (cs:List Value) (blk:Nat) (w:World) (hc:w.cell? ⟨blk,0,none⟩=some (.string s)) (hlt:blk<w.heap.size) (hx:rFunc d (fun _=>True) w cs f):
 Calls Tryz.prog 240 #[.agg cs.toArray, .pointer (some ⟨blk,0,none⟩)] w fun e w'=>e= .returned (.bool (named s f))∧Below w.heap.size w w':=by
 obtain ⟨v1,v3,rfl,-,h1,h3⟩:=hx
 obtain ⟨a1,c1,rfl⟩:=rSlice_shape h1
 obtain ⟨a3,c3,rfl⟩:=rSlice_shape h3
 by_cases h:f.name=s
 ·
  have h1:(f.name.toList==s.toList)=true:=by simp [h]
  have Hh:=zh (show named s f=true by simp [named,h])
  clear h
  go_enter Tryz.func240,Tryz.ntmps240
  go_wp2_with fail
  go_ret
  exact ⟨by simp [Hh.out],(Below.refl _ _).alloc (Nat.le_refl _) _⟩
 ·
  have h1:(f.name.toList==s.toList)=false:=by
   cases hb:f.name.toList==s.toList with
   |false=>rfl
   |true=>
    have:f.name.toList=s.toList:=by simpa using hb
    rw [ByteArray.toList_eq,ByteArray.toList_eq] at this
    exact absurd (ByteArray.ext (Array.toList_inj.mp this)) h
  have Hh:=zh (show named s f=false by simp [named,h])
  clear h
  go_enter Tryz.func240,Tryz.ntmps240
  go_wp2_with fail
  go_ret
  exact ⟨by simp [Hh.out],(Below.refl _ _).alloc (Nat.le_refl _) _⟩
set_option maxHeartbeats 1000000 in
theorem indexNamed_any (d:Nat) (s:ByteArray) (l:List PFunc) (v:Value) (blk:Nat) (w:World) (hc:w.cell? ⟨blk,0,none⟩=some (.string s)) (hlt:blk<w.heap.size) (hl:rFuncs d (fun _=>True) w [v] l):
 Calls Tryz.prog 82 #[v, .func (.func 240) #[] #[.pointer (some ⟨blk,0,none⟩)]] w fun e w'=>e= .returned (.int .i64 (fnAt (named s) l 0))∧Below w.heap.size w w':=by
 obtain ⟨a,cap,rfl,hle,hmax,hat⟩:=rSlice_val hl
 have hll:l.length≤9223372036854775807:=by unfold maxLen at hmax;omega
 have Hat:=zh hat
 have Hlt:=zh hlt
 have Hc:=zh hc
 clear hat hl hle hmax hlt hc
 go_enter Tryz.func82,Tryz.ntmps82
 go_wp2_with fail
 go_loopw [8] (fun i wr=> ∃ k:Nat,k≤l.length∧i= .int .i64 k∧fnAt (named s) l 0=fnAt (named s) (l.drop k) k∧Below w.heap.size w wr) (fun i _=>l.length - (intOf i).toNat)
 case atStart=>exact ⟨0,Nat.zero_le _,rfl,by simp,Below.refl _ _⟩
 case round=>
  obtain ⟨k,hk,rfl,hf,hbel⟩:=hrel
  have Hf:=zh hf
  clear hf
  by_cases hlt:k<l.length
  ·
   obtain ⟨b,off,es,rfl,-,hb,hel,hcl,hr⟩:=Hat.out k hlt
   obtain ⟨v1,v3,rfl,hx1,hx2,hx3⟩:=id hr
   obtain ⟨a1,c1,rfl⟩:=rSlice_shape hx2
   obtain ⟨a3,c3,rfl⟩:=rSlice_shape hx3
   have hlt1:(k:Int)<(l.length:Int):=by omega
   have hk0:(0:Int)≤k:=by omega
   have Hd:=zh (List.drop_eq_getElem_cons hlt:l.drop k=l[k]::l.drop (k+1))
   have hw:=fun o=>hbel.cell (p:=⟨b,o,none⟩) hb
   have x0:=(hw (off+k*4)).trans (hcl 0 (by decide))
   have x1:=(hw (off+k*4+1)).trans (hcl 1 (by decide))
   have x2:=(hw (off+k*4+2)).trans (hcl 2 (by decide))
   have x3:=(hw (off+k*4+3)).trans (hcl 3 (by decide))
   have hcall:=named_any d s l[k] _ blk wr ((hbel.cell (p:=⟨blk,0,none⟩) Hlt.out).trans Hc.out) (Nat.lt_of_lt_of_le Hlt.out hbel.size) (Good.kept (Keep.of_below' hbel (fun k hk _=>hk)) hr)
   have Hcall:=zh hcall
   have Hbel:=zh hbel
   clear hcall hr hcl hx1 hx2 hx3 hw hbel
   generalize l[k]=y at *
   have hwk:IntKind.i64.wrap ((k:Int)+1)=(k:Int)+1:=IntWalk.i64_in _ (by omega)
   go_wp2_with fail
   refine Hcall.out.mono ?_
   rintro e w1 ⟨rfl,hb1⟩
   have Hb1:=zh (Hbel.out.trans (hb1.mono Hbel.out.size))
   clear hb1
   by_cases he:named s y=true
   ·
    rw [he]
    go_wp2_with fail
    go_ret
    exact ⟨by rw [Hf.out,Hd.out];simp [fnAt,he],Hb1.out⟩
   ·
    simp only [Bool.not_eq_true] at he
    rw [he]
    go_wp2_with fail
    go_roundw
    case rel=>exact ⟨k+1,by omega,by go_num,by rw [Hf.out,Hd.out];simp [fnAt,he],Hb1.out⟩
    case measure=>simp [intOf];omega
  ·
   have hke:k=l.length:=by omega
   subst hke
   have Hbel:=zh hbel
   clear hbel
   go_wp2_with fail
   go_ret
   exact ⟨by rw [Hf.out];simp [fnAt],Hbel.out⟩
def argsOK (ts:List Int) (ps:List (ByteArray × Int)) (k:Nat):Prop:=ts.take k=(ps.take k).map (·.2)
instance (ts:List Int) (ps:List (ByteArray × Int)) (k:Nat):Decidable (argsOK ts ps k):=by unfold argsOK;infer_instance
theorem argsOK_succ {ts:List Int} {ps:List (ByteArray × Int)} {k:Nat} (h1:k<ts.length) (h2:k<ps.length):argsOK ts ps (k+1)↔argsOK ts ps k∧ts[k]=ps[k].2:=by
 unfold argsOK
 rw [List.take_succ_eq_append_getElem h1,List.take_succ_eq_append_getElem h2,List.map_append]
 constructor
 ·
  intro h
  have hl:(ts.take k).length=((ps.take k).map (·.2)).length:=by simp;omega
  obtain ⟨q1,q2⟩:=List.append_inj h hl
  exact ⟨q1,by simpa using q2⟩
 ·
  rintro ⟨q1,q2⟩
  rw [q1,q2]
  rfl
noncomputable def wantSt (st:Chk) (ts:List Int) (ps:List (ByteArray × Int)) (k:Nat):Chk:=if argsOK ts ps k then st else st.bad 9
theorem wantSt_zero (st:Chk) (ts:List Int) (ps:List (ByteArray × Int)):wantSt st ts ps 0=st:=by unfold wantSt;rw [if_pos (by simp [argsOK])]
theorem wantSt_succ (st:Chk) {ts:List Int} {ps:List (ByteArray × Int)} {k:Nat} (h1:k<ts.length) (h2:k<ps.length):wantSt st ts ps (k+1)=if ts[k]=ps[k].2 then wantSt st ts ps k else (wantSt st ts ps k).bad 9:=by
 unfold wantSt
 by_cases hk:argsOK ts ps k
 ·
  by_cases he:ts[k]=ps[k].2
  ·
   rw [if_pos ((argsOK_succ h1 h2).2 ⟨hk,he⟩),if_pos he,if_pos hk]
  ·
   rw [if_neg (fun e=>he ((argsOK_succ h1 h2).1 e).2),if_neg he,if_pos hk]
 ·
  rw [if_neg (fun e=>hk ((argsOK_succ h1 h2).1 e).1),if_neg hk,Chk.bad_bad st (by decide)]
  split<;>rfl
theorem wantSt_end {st:Chk} (h0:st.fault=0) {ts:List Int} {ps:List (ByteArray × Int)} (h:ps.length=ts.length) (x:Int):KindEnd st (if ts=ps.map (·.2) then .ok x else .error 9) x (wantSt st ts ps ts.length):=by
 unfold wantSt
 by_cases he:ts=ps.map (·.2)
 ·
  have:argsOK ts ps ts.length:=by unfold argsOK;rw [List.take_length,←h,List.take_length];exact he
  rw [if_pos he,if_pos this]
  exact ⟨rfl,rfl⟩
 ·
  have: ¬argsOK ts ps ts.length:=by unfold argsOK;rw [List.take_length,←h,List.take_length];exact he
  rw [if_neg he,if_neg this]
  exact KindEnd.bad h0 _ (by decide)
set_option maxHeartbeats 4000000 in
theorem typedCall_any (d:Nat) (fs:List PFunc) (w:World) (base bc:Nat) (vf:Value) (cf:List Value) (vS:Value) (bs:List Nat) (st:Chk) (h:ChkAt w base bc vf cf vS bs st) (h0:st.fault=0) (s:ByteArray) (ts:List Int) (vT:Value)
 (hf:rFuncs d (· <base) w [vf] fs) (hts:w.ownsRow base 3 1 vT ts.length (ts.map (Value.int .i64))) (hnT:vT.ownBlock≠some bc):
 Calls Tryz.prog 233 #[.pointer (some ⟨bc,0,none⟩), .string s,vT] w (OpPost w base bc vf cf vS bs st (callT fs s ts)):=by
 obtain ⟨aF,cF,rfl,hF1,hF2,hat⟩:=rFuncs_val hf
 obtain ⟨aT,cT,rfl,hT1,hT2⟩:=row_slice hts
 have c0:=h.c0
 have hlt:=h.lb.2
 have hbig:=h.big
 have hll:fs.length≤9223372036854775807:=by unfold maxLen at hF2;omega
 have H:=zh h
 have H0:=zh h0
 have Hf:=zh hf
 have Hat:=zh hat
 have Hts:=zh hts
 have HnT:=zh hnT
 obtain ⟨R,hR⟩: ∃ R:Except Int Int,R=callT fs s ts:=⟨_,rfl⟩
 rw [←hR]
 have HR:=zh hR
 clear h h0 hf hat hts hnT hR hF1 hF2
 have s0:=Since.alloc (fun _=>False) w (.cells #[.string s] 9)
 have hidx:=indexNamed_any d s fs (.slice aF fs.length cF) w.heap.size (w.alloc (.cells #[.string s] 9)) (by rw [World.cell?_alloc_at _ _ _ _ rfl];rfl) (by simp) (Good.kept (s0.keep.weaken (fun _ _ _ e=>e.elim)) (Good.wide Hf.out (fun _ _ _=>trivial)))
 have Hidx:=zh hidx
 have c0':(w.alloc (.cells #[.string s] 9)).cell? ⟨bc,0,none⟩=some (.slice aF fs.length cF):=(World.cell?_alloc_lt _ _ _ hlt).trans c0
 clear hidx
 go_enter Tryz.func233,Tryz.ntmps233
 go_wp2_with fail
 refine Hidx.out.mono ?_
 rintro e w1 ⟨rfl,hb1⟩
 have hs1:Since (fun _=>False) w w1:=s0.trans ⟨hb1.os,hb1.tape,hb1.output,hb1.size,fun k hk _=>hb1.block k hk⟩
 have HC1:=zh (H.out.since hs1 (fun _ e=>e.elim))
 have HS1:=zh (hs1.mono (G:=fun k=>k=bc) (fun _ e=>e.elim))
 have c01:=HC1.out.c0
 have hlt1:=HC1.out.lb.2
 have Hs1:=zh hs1
 clear hb1 s0 c0' c0 Hidx hs1
 rcases callT_at s ts fs 0 with ⟨hi,hc⟩|⟨i,hi,hi2,hc⟩
 ·
  rw [hi]
  have Hc:=zh hc
  clear hi hc
  go_wp2_with fail
  refine (typedWrong_any w1 base bc _ cf vS bs st HC1.out 6).mono ?_
  rintro en w2 ⟨rfl,hc2,hs2⟩
  have HC2:=zh hc2
  have HS2:=zh hs2
  clear hc2 hs2
  go_wp2_with fail
  go_ret
  exact ⟨_,_,rfl,HC2.out,HS1.out.trans HS2.out,by rw [HR.out,Hc.out];exact KindEnd.bad H0.out _ (by decide)⟩
 ·
  rw [hi2]
  have Hc:=zh hc
  obtain ⟨bF,oF,v1,v3,rfl,hbS,hbl,f0,f1,f2,f3,-,-,hps,hbody⟩:=Hat.out i hi
  obtain ⟨aP,cP,rfl,hP1,hP2,hPat⟩:=rParams_val hps
  obtain ⟨a3,c3,rfl⟩:=rSlice_shape hbody
  have hw:=fun o=>Hs1.out.cell (o:=o) hbl id
  have f0':=(hw _).trans f0
  have f1':=(hw _).trans f1
  have f2':=(hw _).trans f2
  have f3':=(hw _).trans f3
  have hbl1:bF<w1.heap.size:=by have:=Hs1.out.size;omega
  have hiz:(0:Int)≤i:=by omega
  have hil:(i:Int)<fs.length:=by omega
  have hz:((0+i:Nat):Int)=i:=by omega
  have HPat:=zh hPat
  have hpl:fs[i].params.length≤9223372036854775807:=by unfold maxLen at hP2;omega
  rw [hz]
  clear hc hi2 f0 f1 f2 f3 hw hps hbody hPat hz hP1 hP2
  generalize fs[i]=y at *
  have sB:=Since.alloc (fun _=>False) w1 (.cells #[.string y.name, .slice aP y.params.length cP, .int .i64 y.result, .slice a3 y.body.length c3] 35)
  have hCB:=HC1.out.since sB (fun _ e=>e.elim)
  have hSB:=(HS1.out.trans (sB.mono (G:=fun k=>k=bc) (fun _ e=>e.elim)))
  have hsB:=Hs1.out.trans sB
  have q1:(w1.alloc (.cells #[.string y.name, .slice aP y.params.length cP, .int .i64 y.result, .slice a3 y.body.length c3] 35)).cell? ⟨w1.heap.size,1,none⟩=some (.slice aP y.params.length cP):=by rw [World.cell?_alloc_at _ _ _ _ rfl];rfl
  have q2:(w1.alloc (.cells #[.string y.name, .slice aP y.params.length cP, .int .i64 y.result, .slice a3 y.body.length c3] 35)).cell? ⟨w1.heap.size,2,none⟩=some (.int .i64 y.result):=by rw [World.cell?_alloc_at _ _ _ _ rfl];rfl
  have hlB:w1.heap.size<(w1.alloc (.cells #[.string y.name, .slice aP y.params.length cP, .int .i64 y.result, .slice a3 y.body.length c3] 35)).heap.size:=by simp
  have HCB:=zh hCB
  have HSB:=zh hSB
  have HsB:=zh hsB
  have HlB:=zh hlB
  clear hCB hSB hsB sB hlB
  by_cases hlen:y.params.length=ts.length
  ·
   have d1:((y.params.length:Int) !=ts.length)=false:=by simp [hlen]
   have Hc':=zh (show callT fs s ts=if ts=y.params.map (·.2) then .ok y.result else .error 9 by rw [Hc.out,if_neg (by omega)])
   have Hlen:=zh hlen
   clear Hc hlen
   go_wp2_with fail
   generalize hW:w1.alloc (.cells #[.string y.name, .slice aP y.params.length cP, .int .i64 y.result, .slice a3 y.body.length c3] 35)=W at *
   have hne:w1.heap.size≠bc:=by omega
   clear f0' f1' f2' f3' c01 hW
   go_loopw [9,10,39] (fun s9 s10 s39 wr=> ∃ k:Nat,k≤ts.length∧s39= .int .i64 k∧ChkAt wr base bc (.slice (some ⟨bF,oF,none⟩) fs.length cF) cf vS bs (wantSt st ts y.params k)∧Since (fun k=>k=bc) W wr) (fun _ _ s39 _=>ts.length - (intOf s39).toNat)
   case atStart=>exact ⟨0,Nat.zero_le _,rfl,by rw [wantSt_zero];exact HCB.out,Since.refl _ _⟩
   case round=>
    obtain ⟨k,hk,rfl,hcr,hsr⟩:=hrel
    have HCr:=zh hcr
    have HSr:=zh hsr
    clear hcr hsr
    by_cases hlt2:k<ts.length
    ·
     have hlt1':(k:Int)<(y.params.length:Int):=by have:=Hlen.out;omega
     have hlt1'':(k:Int)<(ts.length:Int):=by omega
     have hk0:(0:Int)≤k:=by omega
     have hkp:k<y.params.length:=by have:=Hlen.out;omega
     obtain ⟨bP,oP,rfl,hPS,hPl,p0,p1,-,-⟩:=HPat.out k hkp
     have hPn:bP≠bc:=by have:=HC1.out.lb.1;omega
     have hPW:=fun o=>((HSr.out.cell (o:=o) (b:=bP) (by have:=HsB.out.size;omega) hPn).trans (HsB.out.cell (o:=o) hPl id))
     have p0':=(hPW _).trans p0
     have p1':=(hPW _).trans p1
     obtain ⟨gT,cT',hvT,-,-,hgl,hTc,-⟩:=rowGet Hts.out (i:=k) (u:= .int .i64 ts[k]) (by simp [hlt2])
     obtain ⟨rfl,-⟩:aT=some ⟨gT,0,none⟩∧_:=⟨(Value.slice.inj hvT).1,trivial⟩
     have hTn:gT≠bc:=fun e=>HnT.out (by rw [←e];rfl)
     have hTc':=((HSr.out.cell (o:=k) (b:=gT) (by have:=HsB.out.size;omega) hTn).trans (HsB.out.cell (o:=k) hgl id)).trans hTc
     have Hsu:=zh (wantSt_succ st hlt2 hkp)
     have hwk:IntKind.i64.wrap ((k:Int)+1)=(k:Int)+1:=IntWalk.i64_in _ (by omega)
     clear p0 p1 hPW hTc hvT
     generalize ts[k]=tk at *
     generalize y.params[k]=pk at *
     go_wp2_with fail
     have hbr:wr.heap.size≠bc:=by have:=HCr.out.lb.2;omega
     have sP:=Since.alloc (fun _=>False) wr (.cells #[.string pk.1, .int .i64 pk.2] 74)
     have hCP:=HCr.out.since sP (fun _ e=>e.elim)
     have r0:(wr.alloc (.cells #[.string pk.1, .int .i64 pk.2] 74)).cell? ⟨wr.heap.size,1,none⟩=some (.int .i64 pk.2):=by rw [World.cell?_alloc_at _ _ _ _ rfl];rfl
     have hgr:gT<wr.heap.size:=by have:=HSr.out.size;have:=HsB.out.size;omega
     have r1:(wr.alloc (.cells #[.string pk.1, .int .i64 pk.2] 74)).cell? ⟨gT,k,none⟩=some (.int .i64 tk):=(World.cell?_alloc_lt _ _ _ hgr).trans hTc'
     have hlP:wr.heap.size<(wr.alloc (.cells #[.string pk.1, .int .i64 pk.2] 74)).heap.size:=by simp
     have HSP:=zh (HSr.out.trans (sP.mono (G:=fun k=>k=bc) (fun _ e=>e.elim)))
     have HCP:=zh hCP
     have hgl2:gT<(wr.alloc (.cells #[.string pk.1, .int .i64 pk.2] 74)).heap.size:=by simp;omega
     clear sP hCP p0' p1' hTc'
     generalize wr.alloc (.cells #[.string pk.1, .int .i64 pk.2] 74)=wp at *
     have hWant:=zh (typedWant_any wp.drew base bc _ cf vS bs _ (HCP.out.since (Since.drew (fun _=>False) wp) (fun _ e=>e.elim)) tk pk.2)
     have hS0:(fun w':World=>w'.cell? ⟨gT,k,none⟩=some (.int .i64 tk)∧w'.cell? ⟨wr.heap.size,1,none⟩=some (.int .i64 pk.2)) wp:=⟨r1,r0⟩
     have hSS:=zh (show ∀ w3,Since (fun k=>k=bc) wp.drew w3→(fun w':World=>w'.cell? ⟨gT,k,none⟩=some (.int .i64 tk)∧w'.cell? ⟨wr.heap.size,1,none⟩=some (.int .i64 pk.2)) w3 from fun w3 hs=>⟨(hs.cell (o:=k) hgl2 hTn).trans r1,(hs.cell (o:=1) hlP hbr).trans r0⟩)
     go_region_held3 (fun w'=>w'.cell? ⟨gT,k,none⟩=some (.int .i64 tk)∧w'.cell? ⟨wr.heap.size,1,none⟩=some (.int .i64 pk.2)) (first|exact hS0|exact hS2)
      (first|(go_at_call 173;refine hWant.out.mono ?_;rintro en w3 ⟨rfl,hc3,hs3⟩;have hS2:=hSS.out w3 hs3))
     have HC3:=zh hc3
     have HS3:=zh hs3
     clear hc3 hs3 hS2 hS0
     all_goals go_wp2_with fail
     go_roundw
     case rel=>exact ⟨k+1,by omega,by go_num,by rw [Hsu.out];exact HC3.out,HSP.out.trans ((Since.drew _ _).trans HS3.out)⟩
     case measure=>simp [intOf];omega
    ·
     have hke:k=ts.length:=by omega
     subst hke
     have hlt1': ¬((ts.length:Int)<(y.params.length:Int)):=by have:=Hlen.out;omega
     have q2':=(HSr.out.cell (o:=2) HlB.out hne).trans q2
     go_wp2_with fail
     go_ret
     refine ⟨_,_,rfl,HCr.out,HSB.out.trans HSr.out,?_⟩
     rw [HR.out,Hc'.out]
     exact wantSt_end H0.out Hlen.out _
  ·
   have d1:((y.params.length:Int) !=ts.length)=true:=by simp;omega
   have Hc':=zh (show callT fs s ts= .error 10 by rw [Hc.out,if_pos hlen])
   clear Hc hlen
   go_wp2_with fail
   refine (typedWrong_any _ base bc _ cf vS bs st HCB.out 10).mono ?_
   rintro en w2 ⟨rfl,hc2,hs2⟩
   have HC2:=zh hc2
   have HS2:=zh hs2
   clear hc2 hs2
   go_wp2_with fail
   go_ret
   exact ⟨_,_,rfl,HC2.out,HSB.out.trans HS2.out,by rw [HR.out,Hc'.out];exact KindEnd.bad H0.out _ (by decide)⟩
end Go.Proofs.YtkopjgnjflhkeaaGreatDoor

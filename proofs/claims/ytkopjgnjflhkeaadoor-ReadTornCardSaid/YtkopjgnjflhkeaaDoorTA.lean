import Derived.WalkKit
import Derived.WalkSpells
import Derived.WalkLawsBesides
import Derived.BigQuiet
import Derived.Deep.QuietTactic
import Derived.Deep.LoopGhost
import Derived.Deep.Slices
import Derived.Deep.DeepMust
import Derived.Deep.DeepFit
import Derived.SizedLaws
import Derived.Lib.Hide
import Derived.Maps.AppendAt
import Derived.WalkSmall
import Derived.Test.YtkopjgnjflhkeaaDoorProg
import Derived.Deep.RegionHeld3
import Derived.RegionTactic
import Derived.BigRegion
import Derived.Handy
import Derived.Lib.SlicesS
namespace Go.Pst
open Go Go.RowKit
theorem zh {p:Prop} (h:p):RowKit.Hid p:=Lib.hid h
section
variable {w:World} {b:Nat} {a0 a1 a2 a3 a4 a5 a6:Value} {l:List Value} {T:TypeId} {fr:Nat × Nat} {cs:Array Value}
theorem ca0 (h:w.heap[b]?=some (.cells (List.toArray (a0::l)) T fr)):w.cell? ⟨b,0,none⟩=some a0:=by simp [World.cell?,h]
theorem ca1 (h:w.heap[b]?=some (.cells (List.toArray (a0::a1::l)) T fr)):w.cell? ⟨b,1,none⟩=some a1:=by simp [World.cell?,h]
theorem ca2 (h:w.heap[b]?=some (.cells (List.toArray (a0::a1::a2::l)) T fr)):w.cell? ⟨b,2,none⟩=some a2:=by simp [World.cell?,h]
theorem ca3 (h:w.heap[b]?=some (.cells (List.toArray (a0::a1::a2::a3::l)) T fr)):w.cell? ⟨b,3,none⟩=some a3:=by simp [World.cell?,h]
theorem ca4 (h:w.heap[b]?=some (.cells (List.toArray (a0::a1::a2::a3::a4::l)) T fr)):w.cell? ⟨b,4,none⟩=some a4:=by simp [World.cell?,h]
theorem ca5 (h:w.heap[b]?=some (.cells (List.toArray (a0::a1::a2::a3::a4::a5::l)) T fr)):w.cell? ⟨b,5,none⟩=some a5:=by simp [World.cell?,h]
theorem ca6 (h:w.heap[b]?=some (.cells (List.toArray (a0::a1::a2::a3::a4::a5::a6::l)) T fr)):w.cell? ⟨b,6,none⟩=some a6:=by simp [World.cell?,h]
theorem cz (h:w.heap[b]?=some (.cells cs T (0,0))): ∀ j,w.frozen? ⟨b,j,none⟩=false:=fun j=>by simp [World.frozen?,h]
end
end Go.Pst
namespace Go.Pst
open Go.RowKit
abbrev Rep (α:Type):=(Nat→Prop)→World→List Value→α→Prop
structure Keep (S:Nat→Prop) (w w':World):Prop where
 size:w.heap.size≤w'.heap.size
 block: ∀ k,k<w.heap.size→S k→w'.heap[k]?=w.heap[k]?
theorem Keep.refl (S:Nat→Prop) (w:World):Keep S w w:=⟨Nat.le_refl _,fun _ _ _=>rfl⟩
theorem Keep.trans {S:Nat→Prop} {a b c:World} (h:Keep S a b) (k:Keep S b c):Keep S a c:=
 ⟨Nat.le_trans h.size k.size,fun i hi hs=>(k.block i (Nat.lt_of_lt_of_le hi h.size) hs).trans (h.block i hi hs)⟩
theorem Keep.weaken {S S':Nat→Prop} {w w':World} (h:Keep S' w w') (hs: ∀ k,k<w.heap.size→S k→S' k):Keep S w w':=
 ⟨h.size,fun k hk hS=>h.block k hk (hs k hk hS)⟩
theorem Keep.alloc (S:Nat→Prop) (w:World) (o:Obj):Keep S w (w.alloc o):=⟨by simp,fun k hk _=>Below.heap_alloc _ _ _ hk⟩
theorem Keep.drew (S:Nat→Prop) (w:World):Keep S w w.drew:=⟨Nat.le_refl _,fun _ _ _=>rfl⟩
theorem Keep.setCell {S:Nat→Prop} (w:World) (p:Addr) (u:Value) (hs: ¬S p.block):Keep S w (w.setCell p u):=
 ⟨by simp [World.setCell],fun k _ hk=>Below.heap_setCell _ _ _ _ (fun e=>hs (e ▸ hk))⟩
theorem Keep.cell {S:Nat→Prop} {w w':World} (h:Keep S w w') {b o:Nat} (hb:b<w.heap.size) (hs:S b):w'.cell? ⟨b,o,none⟩=w.cell? ⟨b,o,none⟩:=
 World.cell?_of_block (w:=w) (a:=⟨b,o,none⟩) (h.block b hb hs)
class Good {α:Type} (R:Rep α):Prop where
 keep: ∀ {S S':Nat→Prop} {w w':World} {cs:List Value} {x:α},Keep S w w'→(∀ k,k<w.heap.size→S k→S' k)→R S w cs x→R S' w' cs x
theorem Good.kept {α:Type} {R:Rep α} [g:Good R] {S:Nat→Prop} {w w':World} {cs:List Value} {x:α} (h:Keep S w w') (hR:R S w cs x):R S w' cs x:=
 g.keep h (fun _ _ h=>h) hR
theorem Good.wide {α:Type} {R:Rep α} [g:Good R] {S S':Nat→Prop} {w:World} {cs:List Value} {x:α} (hR:R S w cs x) (h: ∀ k,k<w.heap.size→S k→S' k):R S' w cs x:=
 g.keep (Keep.refl S w) h hR
def InI (n:Int):Prop:= -9223372036854775808≤n∧n≤9223372036854775807
def rInt:Rep Int:=fun _ _ cs n=>cs=[.int .i64 n]∧InI n
def rBool:Rep Bool:=fun _ _ cs b=>cs=[.bool b]
def rStr:Rep ByteArray:=fun _ _ cs s=>cs=[.string s]∧s.size≤maxLen
instance:Good rInt:=⟨fun _ _ h=>h⟩
instance:Good rBool:=⟨fun _ _ h=>h⟩
instance:Good rStr:=⟨fun _ _ h=>h⟩
def rSlice {α:Type} (sz:Nat) (R:Rep α):Rep (List α):=fun S w cs l=>
 ∃ a cap,cs=[.slice a l.length cap]∧l.length≤cap∧cap≤maxLen∧
  ∀ i (h:i<l.length),∃ b off es,a=some ⟨b,off,none⟩∧S b∧b<w.heap.size∧es.length=sz∧
   (∀ j,j<sz→w.cell? ⟨b,off+i*sz+j,none⟩=es[j]?)∧R S w es l[i]
instance {α:Type} (sz:Nat) (R:Rep α) [g:Good R]:Good (rSlice sz R):=⟨by
 intro S S' w w' cs l hk hs ⟨a,cap,h1,h2,h3,h4⟩
 refine ⟨a,cap,h1,h2,h3,fun i hi=>?_⟩
 obtain ⟨b,off,es,ha,hS,hb,hl,hc,hR⟩:=h4 i hi
 refine ⟨b,off,es,ha,hs b hb hS,Nat.lt_of_lt_of_le hb hk.size,hl,fun j hj=>?_,g.keep hk hs hR⟩
 rw [hk.cell hb hS]
 exact hc j hj⟩
theorem rSlice_nil {α:Type} (sz:Nat) (R:Rep α) (S:Nat→Prop) (w:World):rSlice sz R S w [.slice none 0 0] ([]:List α):=
 ⟨none,0,rfl,Nat.le_refl _,by decide,fun i h=>absurd h (by simp)⟩
theorem rSlice_val {α:Type} {sz:Nat} {R:Rep α} {S:Nat→Prop} {w:World} {v:Value} {l:List α} (h:rSlice sz R S w [v] l):
 ∃ a cap,v= .slice a l.length cap∧l.length≤cap∧cap≤maxLen∧
 ∀ i (h:i<l.length),∃ b off es,a=some ⟨b,off,none⟩∧S b∧b<w.heap.size∧es.length=sz∧
  (∀ j,j<sz→w.cell? ⟨b,off+i*sz+j,none⟩=es[j]?)∧R S w es l[i]:=by
 obtain ⟨a,cap,h1,h2⟩:=h
 exact ⟨a,cap,by simpa using h1,h2⟩
theorem rSlice_shape {α:Type} {sz:Nat} {R:Rep α} {S:Nat→Prop} {w:World} {v:Value} {l:List α} (h:rSlice sz R S w [v] l): ∃ a cap,v= .slice a l.length cap:=by
 obtain ⟨a,cap,h1,_⟩:=rSlice_val h
 exact ⟨a,cap,h1⟩
abbrev rInts:Rep (List Int):=rSlice 1 rInt
theorem rSlice_own {α:Type} {R:Rep α} {S:Nat→Prop} {w:World} {base:Nat} {e:TypeId} {v:Value} {l:List α} {xs:List Value}
 (h:w.ownsRow base e 1 v l.length xs) (hS: ∀ k,v.ownBlock=some k→S k) (hR: ∀ i (hi:i<l.length),∃ u,xs[i]?=some u∧R S w [u] l[i]):rSlice 1 R S w [v] l:=by
 obtain ⟨hx,h⟩:=h
 rcases h with ⟨rfl,h0⟩|⟨g,cap,cur,rfl,hb,hg,hn,hm,hc,ht⟩
 ·
  have:l=[]:=List.eq_nil_of_length_eq_zero h0
  subst this
  exact rSlice_nil _ _ _ _
 ·
  refine ⟨_,cap,rfl,hn,hm,fun i hi=>?_⟩
  obtain ⟨u,hu,hRu⟩:=hR i hi
  refine ⟨g,0,[u],rfl,hS g (by simp [Value.ownBlock]),(Array.getElem?_eq_some_iff.1 hg).1,rfl,fun j hj=>?_,hRu⟩
  obtain rfl:j=0:=by omega
  have:w.cell? ⟨g,i,none⟩=cur[i]?:=by simp [World.cell?,hg]
  simp only [Nat.mul_one,Nat.zero_add,Nat.add_zero]
  rw [this]
  rw [←ht,List.getElem?_take] at hu
  simp only [Nat.mul_one] at hu
  rw [if_pos hi] at hu
  simpa using hu
theorem rInts_own {S:Nat→Prop} {w:World} {base:Nat} {e:TypeId} {v:Value} {l:List Int}
 (h:w.ownsRow base e 1 v l.length (l.map (Value.int .i64))) (hS: ∀ k,v.ownBlock=some k→S k) (hI: ∀ x∈l,InI x):rInts S w [v] l:=
 rSlice_own h hS fun i hi=>⟨.int .i64 l[i],by simp [hi],rfl,hI _ (List.getElem_mem hi)⟩
theorem list_of_lt {α:Type} {n:Nat} {p:Nat→α→Prop} (h: ∀ i,i<n→ ∃ y,p i y): ∃ l:List α,l.length=n∧ ∀ i (hi:i<l.length),p i l[i]:=by
 induction n with
 |zero=>exact ⟨[],rfl,fun i hi=>absurd hi (by simp)⟩
 |succ n ih=>
  obtain ⟨l,hll,hl2⟩:=ih (fun i hi=>h i (by omega))
  obtain ⟨y,hy⟩:=h n (by omega)
  refine ⟨l++[y],by simp [hll],fun i hi=>?_⟩
  by_cases hi':i<l.length
  ·
   rw [List.getElem_append_left hi']
   exact hl2 i hi'
  ·
   have:i=n:=by simp at hi;omega
   subst this
   rw [List.getElem_append_right (by omega)]
   simpa [hll] using hy
section
variable {H:Type} {enc:TypeId × Value→H} {P:Program} {w:World}
def OpensN (enc:TypeId × Value→H) (P:Program) (w:World) (fuel:Nat) (t:TypeId) {α:Type} (R:Rep α) (Bd:α→Prop):Prop:=
 ∀ (cs:List Value) (x:DataW H × List MemPlace),DataW.trod enc P w 0 (fun _=>true) true fuel t cs=some x→(∀ n∈x.1.weights P t,n≤reachBytes)→
  ∃ y,R (fun _=>True) w cs y∧Bd y
def Opens (enc:TypeId × Value→H) (P:Program) (w:World) (t:TypeId) {α:Type} (R:Rep α) (Bd:α→Prop):Prop:= ∀ fuel,OpensN enc P w fuel t R Bd
theorem opens_int {t:TypeId} (ht:P.underlying t=some (.int .i64)):Opens enc P w t rInt (fun _=>True):=by
 intro fuel cs x h _
 obtain ⟨n,rfl,rfl,hw⟩:=DataW.trod_int ht h
 exact ⟨n,⟨rfl,by simpa [Lit.wf,IntKind.min,IntKind.max,IntKind.signed,IntKind.bits,InI] using hw⟩,trivial⟩
theorem weightsAll_mem {e:TypeId}: ∀ {l:List (DataW H)} {d:DataW H},d∈l→ ∀ n∈d.weights P e,n∈DataW.weightsAll P e l
 |d'::r,d,hd,n,hn=>by
  simp only [DataW.weightsAll,List.mem_append]
  rcases List.mem_cons.1 hd with rfl|h
  ·
   exact Or.inl hn
  ·
   exact Or.inr (weightsAll_mem h n hn)
theorem opens_sliceN {t e:TypeId} {sz bytes fuel:Nat} {α:Type} {R:Rep α} {Bd:α→Prop} (ht:P.underlying t=some (.slice e)) (hsz:P.cellsOf e=sz) (hby:P.bytesOf e=bytes) (hpos:0<sz)
 (he: ∀ n,fuel=n+1→OpensN enc P w n e R Bd):OpensN enc P w fuel t (rSlice sz R) (fun l=>l.length*bytes≤reachBytes∧ ∀ x∈l,Bd x):=by
 intro cs x h hw
 rcases DataW.trod_slice ht h with ⟨rfl,rfl⟩|⟨a,len,cap,elems,rest,n,hfuel,rfl,rfl,_,hl,hm,hlen,hel,_,_⟩
 ·
  exact ⟨[],rSlice_nil _ _ _ _,by simp,by simp⟩
 ·
  have hmem: ∀ y∈elems,∀ k∈y.1.weights P e,k≤reachBytes:=by
   intro y hy k hk
   refine hw k ?_
   simp only [DataW.weights,ht,List.mem_cons,List.mem_append]
   exact Or.inr (Or.inl (weightsAll_mem (List.mem_map.2 ⟨y,hy,rfl⟩) k hk))
  have hex: ∀ i,i<len→ ∃ y,(∃ cs',w.cells? 0 (a.add (i*P.cellsOf e)) (P.cellsOf e)=some cs'∧R (fun _=>True) w cs' y)∧Bd y:=by
   intro i hi
   have h1:=hel i hi
   rw [List.getElem?_eq_getElem (by omega)] at h1
   obtain ⟨cs',h2,h3⟩:=Option.bind_eq_some_iff.1 h1
   obtain ⟨y,hy,hb⟩:=he n hfuel cs' _ h3 (hmem _ (List.getElem_mem _))
   exact ⟨y,⟨cs',h2,hy⟩,hb⟩
  obtain ⟨l,hll,hl2⟩:=list_of_lt hex
  refine ⟨l,⟨some a,cap,by rw [hll],by omega,hm,fun i hi=>?_⟩,?_,fun y hy=>?_⟩
  ·
   obtain ⟨⟨cs',h1,h2⟩,_⟩:=hl2 i hi
   obtain ⟨_,hcl,hcell⟩:=World.cells?_some h1
   obtain ⟨b,off,spot⟩:=a
   have hspot:spot=none:=by
    obtain ⟨⟨cs0,h10,_⟩,_⟩:=hl2 0 (by omega)
    obtain ⟨_,hlen0,hcell0⟩:=World.cells?_some h10
    have h00:=hcell0 0 (by omega)
    rw [List.getElem?_eq_getElem (by omega)] at h00
    simpa [Addr.add] using World.cell?_spot h00
   subst hspot
   have hadd: ∀ k,(⟨b,off,none⟩:Addr).add k=⟨b,off+k,none⟩:=by intro k;unfold Addr.add;split<;>simp_all
   have hblk:b<w.heap.size:=by
    have h0:=hcell 0 (by omega)
    rw [List.getElem?_eq_getElem (by omega),hadd,Addr.add] at h0
    simpa using World.block_lt_of_cell? w _ h0
   refine ⟨b,off,cs',rfl,trivial,hblk,by omega,fun j hj=>?_,h2⟩
   have:=hcell j (by omega)
   rw [hadd,hsz] at this
   rw [←this]
   unfold Addr.add
   split<;>simp_all
  ·
   rw [hll]
   have:=hw (((elems.map (·.1)).length+(rest.map (·.1)).length)*P.bytesOf e) (by simp [DataW.weights,ht])
   simp only [List.length_map,hby,hlen] at this
   exact Nat.le_trans (Nat.mul_le_mul_right _ (Nat.le_add_right _ _)) this
  ·
   obtain ⟨i,hi,rfl⟩:=List.mem_iff_getElem.1 hy
   exact (hl2 i hi).2
theorem opens_slice {t e:TypeId} {sz bytes:Nat} {α:Type} {R:Rep α} {Bd:α→Prop} (ht:P.underlying t=some (.slice e)) (hsz:P.cellsOf e=sz) (hby:P.bytesOf e=bytes) (hpos:0<sz)
 (he:Opens enc P w e R Bd):Opens enc P w t (rSlice sz R) (fun l=>l.length*bytes≤reachBytes∧ ∀ x∈l,Bd x):=
 fun _=>opens_sliceN ht hsz hby hpos fun n _=>he n
end
end Go.Pst
namespace Go.Pst
open Go.RowKit
structure PInstr where
 op:Int
 ds:List Int
 ars:List Int
 n:Int
 s:ByteArray
 to:List Int
instance:Inhabited PInstr:=⟨⟨0,[],[],0,ByteArray.empty,[]⟩⟩
structure PCode where
 name:ByteArray
 params:Int
 results:Int
 vars:Int
 slots:Int
 blocks:List (List PInstr)
instance:Inhabited PCode:=⟨⟨ByteArray.empty,0,0,0,0,[]⟩⟩
def rInstr:Rep PInstr:=fun S w cs x=> ∃ v1 v2 v5,cs=[.int .i64 x.op,v1,v2, .int .i64 x.n, .string x.s,v5]∧
 (InI x.op∧InI x.n∧x.s.size≤maxLen)∧rInts S w [v1] x.ds∧rInts S w [v2] x.ars∧rInts S w [v5] x.to
instance:Good rInstr:=⟨by
 rintro S S' w w' cs x hk hs ⟨v1,v2,v5,h1,h2,h3,h4,h5⟩
 exact ⟨v1,v2,v5,h1,h2,Good.keep hk hs h3,Good.keep hk hs h4,Good.keep hk hs h5⟩⟩
abbrev rBlock:Rep (List PInstr):=rSlice 6 rInstr
abbrev rBlocks:Rep (List (List PInstr)):=rSlice 1 rBlock
def rCode:Rep PCode:=fun S w cs x=> ∃ v5,cs=[.string x.name, .int .i64 x.params, .int .i64 x.results, .int .i64 x.vars, .int .i64 x.slots,v5]∧
 (x.name.size≤maxLen∧InI x.params∧InI x.results∧InI x.vars∧InI x.slots)∧rBlocks S w [v5] x.blocks
instance:Good rCode:=⟨by
 rintro S S' w w' cs x hk hs ⟨v5,h1,h2,h3⟩
 exact ⟨v5,h1,h2,Good.keep hk hs h3⟩⟩
section
variable {H:Type} {enc:TypeId × Value→H} {P:Program} {w:World}
theorem weights_part {ts:List TypeId} {ds:List (DataW H)} {j:Nat} {t:TypeId} {d:DataW H} (ht:ts[j]?=some t) (hd:ds[j]?=some d) {m:Nat} (h: ∀ n∈DataW.weightsEach P ts ds,n≤m):
 ∀ n∈d.weights P t,n≤m:=fun n hn=>h n (DataW.weights_mem_each ht hd n hn)
end
def Drawn (w w':World):Prop:= ∃ n,w'=w.drewN n
theorem Drawn.refl (w:World):Drawn w w:=⟨0,rfl⟩
theorem Drawn.drew (w:World):Drawn w w.drew:=⟨1,rfl⟩
theorem Drawn.heap {w w':World} (h:Drawn w w'):w'.heap=w.heap:=by obtain ⟨n,rfl⟩:=h;rfl
theorem Drawn.more {w w':World} (h:Drawn w w') (n:Nat):Drawn w (w'.drewN n):=by obtain ⟨m,rfl⟩:=h;exact ⟨m+n,by rw [World.drewN_drewN]⟩
theorem Drawn.trans {w w' w'':World} (h:Drawn w w') (h':Drawn w' w''):Drawn w w'':=by obtain ⟨m,rfl⟩:=h';exact h.more m
theorem Drawn.cell {w w':World} (h:Drawn w w') (a:Addr):w'.cell? a=w.cell? a:=by obtain ⟨n,rfl⟩:=h;rfl
theorem Drawn.below {w w':World} (h:Drawn w w') (B:Nat):Below B w w':=by obtain ⟨n,rfl⟩:=h;exact ⟨rfl,rfl,rfl,Nat.le_refl _,fun _ _=>rfl⟩
def IntsAt (w:World) (a:Option Addr) (l:List Int):Prop:=
 ∀ i (h:i<l.length),∃ b off,a=some ⟨b,off,none⟩∧b<w.heap.size∧w.cell? ⟨b,off+i,none⟩=some (.int .i64 l[i])
theorem IntsAt.below {w w':World} {a:Option Addr} {l:List Int} (h:IntsAt w a l) (hb:Below w.heap.size w w'):IntsAt w' a l:=by
 intro i hi
 obtain ⟨b,off,h1,h2,h3⟩:=h i hi
 exact ⟨b,off,h1,Nat.lt_of_lt_of_le h2 hb.size,by rw [hb.cell (p:=⟨b,off+i,none⟩) h2];exact h3⟩
theorem IntsAt.heap {w w':World} {a:Option Addr} {l:List Int} (h:IntsAt w a l) (e:w'.heap=w.heap):IntsAt w' a l:=by
 intro i hi
 obtain ⟨b,off,h1,h2,h3⟩:=h i hi
 exact ⟨b,off,h1,by rw [e];exact h2,by rw [←h3];simp [World.cell?,e]⟩
def IntssAt (w:World) (a:Option Addr) (l:List (List Int)):Prop:=
 ∀ i (h:i<l.length),∃ b off a' cap',a=some ⟨b,off,none⟩∧b<w.heap.size∧w.cell? ⟨b,off+i,none⟩=some (.slice a' l[i].length cap')∧l[i].length≤9223372036854775807∧IntsAt w a' l[i]
theorem IntssAt.below {w w':World} {a:Option Addr} {l:List (List Int)} (h:IntssAt w a l) (hb:Below w.heap.size w w'):IntssAt w' a l:=by
 intro i hi
 obtain ⟨b,off,a',cap',h1,h2,h3,h4,h5⟩:=h i hi
 exact ⟨b,off,a',cap',h1,Nat.lt_of_lt_of_le h2 hb.size,by rw [hb.cell (p:=⟨b,off+i,none⟩) h2];exact h3,h4,h5.below hb⟩
theorem box_cell {w wr:World} {C:Array Value} {t:TypeId} (h:Below (w.heap.size+1) (w.alloc (.cells C t)) wr) (j:Nat):wr.cell? ⟨w.heap.size,j,none⟩=C[j]?:=by
 rw [h.cell (p:=⟨w.heap.size,j,none⟩) (by simp),World.cell?_alloc_new]
end Go.Pst
namespace Go.Pst
open Go.RowKit
set_option linter.unusedVariables false
inductive PExpr where
 |mk (kind n:Int) (s:ByteArray) (args:List PExpr)
inductive PStmt where
 |mk (kind:Int) (s t:ByteArray) (exprs:List PExpr) (body els:List PStmt) (cases:List (List Int × List PStmt))
namespace PExpr
def kind:PExpr→Int|mk k _ _ _=>k
def n:PExpr→Int|mk _ n _ _=>n
def s:PExpr→ByteArray|mk _ _ s _=>s
def args:PExpr→List PExpr|mk _ _ _ a=>a
end PExpr
namespace PStmt
def kind:PStmt→Int|mk k _ _ _ _ _ _=>k
def s:PStmt→ByteArray|mk _ s _ _ _ _ _=>s
def t:PStmt→ByteArray|mk _ _ t _ _ _ _=>t
def exprs:PStmt→List PExpr|mk _ _ _ x _ _ _=>x
def body:PStmt→List PStmt|mk _ _ _ _ b _ _=>b
def els:PStmt→List PStmt|mk _ _ _ _ _ e _=>e
def cases:PStmt→List (List Int × List PStmt)|mk _ _ _ _ _ _ c=>c
end PStmt
def rExpr:Nat→Rep PExpr
 |0=>fun _ _ _ _=>False
 |d+1=>fun S w cs x=> ∃ v3,cs=[.int .i64 x.kind, .int .i64 x.n, .string x.s,v3]∧(InI x.kind∧InI x.n∧x.s.size≤maxLen)∧rSlice 4 (rExpr d) S w [v3] x.args
def rCase (R:Rep PStmt):Rep (List Int × List PStmt):=fun S w cs x=> ∃ v0 v1,cs=[v0,v1]∧rInts S w [v0] x.1∧rSlice 7 R S w [v1] x.2
def rStmt:Nat→Rep PStmt
 |0=>fun _ _ _ _=>False
 |d+1=>fun S w cs x=> ∃ v3 v4 v5 v6,cs=[.int .i64 x.kind, .string x.s, .string x.t,v3,v4,v5,v6]∧(InI x.kind∧x.s.size≤maxLen∧x.t.size≤maxLen)∧
  rSlice 4 (rExpr d) S w [v3] x.exprs∧rSlice 7 (rStmt d) S w [v4] x.body∧rSlice 7 (rStmt d) S w [v5] x.els∧rSlice 2 (rCase (rStmt d)) S w [v6] x.cases
instance good_expr (d:Nat):Good (rExpr d):=by
 induction d with
 |zero=>exact ⟨fun _ _ h=>h⟩
 |succ d ih=>
  refine ⟨?_⟩
  rintro S S' w w' cs x hk hs ⟨v3,h1,h2,h3⟩
  exact ⟨v3,h1,h2,Good.keep hk hs h3⟩
instance good_case (R:Rep PStmt) [Good R]:Good (rCase R):=⟨by
 rintro S S' w w' cs x hk hs ⟨v0,v1,h1,h2,h3⟩
 exact ⟨v0,v1,h1,Good.keep hk hs h2,Good.keep hk hs h3⟩⟩
instance good_stmt (d:Nat):Good (rStmt d):=by
 induction d with
 |zero=>exact ⟨fun _ _ h=>h⟩
 |succ d ih=>
  refine ⟨?_⟩
  rintro S S' w w' cs x hk hs ⟨v3,v4,v5,v6,h1,h2,h3,h4,h5,h6⟩
  exact ⟨v3,v4,v5,v6,h1,h2,Good.keep hk hs h3,Good.keep hk hs h4,Good.keep hk hs h5,Good.keep hk hs h6⟩
theorem rSlice_imp {α:Type} {sz:Nat} {R R':Rep α} {S:Nat→Prop} {w:World} (h: ∀ cs x,R S w cs x→R' S w cs x) {cs:List Value} {l:List α} (hl:rSlice sz R S w cs l):rSlice sz R' S w cs l:=by
 obtain ⟨a,cap,h1,h2,h3,h4⟩:=hl
 refine ⟨a,cap,h1,h2,h3,fun i hi=>?_⟩
 obtain ⟨b,off,es,e1,e2,e3,e4,e5,e6⟩:=h4 i hi
 exact ⟨b,off,es,e1,e2,e3,e4,e5,h _ _ e6⟩
theorem rExpr_succ (d:Nat): ∀ {S:Nat→Prop} {w:World} (cs:List Value) (x:PExpr),rExpr d S w cs x→rExpr (d+1) S w cs x:=by
 induction d with
 |zero=>intro S w cs x h;exact h.elim
 |succ d ih=>
  rintro S w cs x ⟨v3,h1,h2,h3⟩
  exact ⟨v3,h1,h2,rSlice_imp ih h3⟩
theorem rExpr_le {d d':Nat} (h:d≤d'): ∀ {S:Nat→Prop} {w:World} (cs:List Value) (x:PExpr),rExpr d S w cs x→rExpr d' S w cs x:=by
 induction h with
 |refl=>intro S w cs x h;exact h
 |step _ ih=>intro S w cs x h;exact rExpr_succ _ _ _ (ih _ _ h)
theorem rCase_imp {R R':Rep PStmt} {S:Nat→Prop} {w:World} (h: ∀ cs x,R S w cs x→R' S w cs x) (cs:List Value) (x:List Int × List PStmt) (hc:rCase R S w cs x):rCase R' S w cs x:=by
 obtain ⟨v0,v1,h1,h2,h3⟩:=hc
 exact ⟨v0,v1,h1,h2,rSlice_imp h h3⟩
theorem rStmt_succ (d:Nat): ∀ {S:Nat→Prop} {w:World} (cs:List Value) (x:PStmt),rStmt d S w cs x→rStmt (d+1) S w cs x:=by
 induction d with
 |zero=>intro S w cs x h;exact h.elim
 |succ d ih=>
  rintro S w cs x ⟨v3,v4,v5,v6,h1,h2,h3,h4,h5,h6⟩
  exact ⟨v3,v4,v5,v6,h1,h2,rSlice_imp (rExpr_succ d) h3,rSlice_imp ih h4,rSlice_imp ih h5,rSlice_imp (rCase_imp ih) h6⟩
theorem rStmt_le {d d':Nat} (h:d≤d'): ∀ {S:Nat→Prop} {w:World} (cs:List Value) (x:PStmt),rStmt d S w cs x→rStmt d' S w cs x:=by
 induction h with
 |refl=>intro S w cs x h;exact h
 |step _ ih=>intro S w cs x h;exact rStmt_succ _ _ _ (ih _ _ h)
section
variable {H:Type} {enc:TypeId × Value→H} {P:Program} {w:World}
theorem OpensN.imp {fuel:Nat} {t:TypeId} {α:Type} {R R':Rep α} {Bd Bd':α→Prop} (h:OpensN enc P w fuel t R Bd) (hR: ∀ cs x,R (fun _=>True) w cs x→R' (fun _=>True) w cs x) (hB: ∀ x,Bd x→Bd' x):OpensN enc P w fuel t R' Bd':=by
 intro cs x h1 h2
 obtain ⟨y,h3,h4⟩:=h cs x h1 h2
 exact ⟨y,hR _ _ h3,hB _ h4⟩
structure Types (P:Program) (tint tstr tints texpr texprs tstmt tstmts tcase tcases:TypeId):Prop where
 int:P.underlying tint=some (.int .i64)
 str:P.underlying tstr=some .string
 ints:P.underlying tints=some (.slice tint)
 expr:P.underlying texpr=some (.struct #[⟨"Kind",tint,0,false,"","",0⟩,⟨"N",tint,1,false,"","",8⟩,⟨"S",tstr,2,false,"","",16⟩,⟨"Args",texprs,3,false,"","",32⟩])
 exprs:P.underlying texprs=some (.slice texpr)
 stmt:P.underlying tstmt=some (.struct #[⟨"Kind",tint,0,false,"","",0⟩,⟨"S",tstr,1,false,"","",8⟩,⟨"T",tstr,2,false,"","",24⟩,⟨"Exprs",texprs,3,false,"","",40⟩,⟨"Body",tstmts,4,false,"","",64⟩,⟨"Else",tstmts,5,false,"","",88⟩,⟨"Cases",tcases,6,false,"","",112⟩])
 stmts:P.underlying tstmts=some (.slice tstmt)
 cas:P.underlying tcase=some (.struct #[⟨"Nums",tints,0,false,"","",0⟩,⟨"Body",tstmts,1,false,"","",24⟩])
 cases:P.underlying tcases=some (.slice tcase)
 cells:(P.cellsOf tint,P.cellsOf tstr,P.cellsOf tints,P.cellsOf texpr,P.cellsOf texprs,P.cellsOf tstmt,P.cellsOf tstmts,P.cellsOf tcase,P.cellsOf tcases)=(1,1,1,4,1,7,1,2,1)
 bytes:(P.bytesOf tint,P.bytesOf texpr,P.bytesOf tstmt,P.bytesOf tcase)=(8,56,136,48)
variable {tint tstr tints texpr texprs tstmt tstmts tcase tcases:TypeId}
end
end Go.Pst
namespace Go.Pst
open Go.RowKit
set_option linter.unusedVariables false
structure PFunc where
 name:ByteArray
 params:List (ByteArray × Int)
 result:Int
 body:List PStmt
def wordsT:List (List UInt8):=[[102,117,110,99],[105,102],[101,108,115,101],[102,111,114],[114,97,110,103,101],[115,119,105,116,99,104],[99,97,115,101],[100,101,102,97,117,108,116],[114,101,116,117,114,110],[112,114,105,110,116],[98,114,101,97,107],[99,111,110,116,105,110,117,101],[100,101,108,101,116,101],[116,114,117,101],[102,97,108,115,101],[108,101,110],[97,112,112,101,110,100],[115,108,105,99,101],[109,97,112],[105,110,116],[98,111,111,108],[115,116,114,105,110,103]]
def smallB (c:UInt8):Bool:=decide (97≤c.toNat)&&decide (c.toNat≤122)
def digitB (c:UInt8):Bool:=decide (48≤c.toNat)&&decide (c.toNat≤57)
end Go.Pst
namespace Go.Pst
open Go.RowKit
set_option linter.unusedVariables false
structure Tok where
 kind:Int
 s:ByteArray
 n:Int
 pos:Int
def endTok:Tok:=⟨101,⟨#[]⟩,0,0⟩
def textR:List UInt8→List UInt8→Nat→Except Int (List UInt8 × Nat)
 |[],_,_=> .error 5
 |c::r,acc,k=>
  if c=34 then .ok (acc,k+1)
  else if c=92 then match r with
   |[]=> .error 5
   |b::r'=>if b=34∨b=92 then textR r' (acc++[b]) (k+2) else if b=110 then textR r' (acc++[10]) (k+2) else .error 4
  else if c=10 then .error 4
  else textR r (acc++[c]) (k+1)
def wordLen:List UInt8→Nat
 |[]=>0
 |c::r=>if smallB c||digitB c then wordLen r+1 else 0
def digLen:List UInt8→Nat
 |[]=>0
 |c::r=>if digitB c then digLen r+1 else 0
def numOf:List UInt8→Nat→Nat
 |[],n=>n
 |c::r,n=>numOf r (10*n+(c.toNat - 48))
def marksR:List (List UInt8):=[[58,61],[61,61],[33,61],[60,61],[62,61],[38,38],[124,124],[40],[41],[123],[125],[91],[93],[44],[58],[61],[60],[62],[43],[45],[42],[47],[37],[33]]
def markR (r:List UInt8):List (List UInt8)→Option (List UInt8)
 |[]=>none
 |m::ms=>if m.isPrefixOf r then some m else markR r ms
def tokR (r:List UInt8) (i:Nat):Except Int (Option Tok × Nat):=
 match r with
 |[]=> .ok (none,1)
 |c::r'=>
  if c=32∨c=10∨c=9 then .ok (none,1)
  else if smallB c then (let k:=wordLen r'+1;if 12<k then .error 1 else .ok (some ⟨119,⟨((c::r').take k).toArray⟩,0,i⟩,k))
  else if digitB c then (let k:=digLen r'+1;let n:=numOf ((c::r').take k) 0;if 1099511627776<n then .error 2 else if c=48∧1<k then .error 4 else .ok (some ⟨110,⟨#[]⟩,n,i⟩,k))
  else if c=34 then match textR r' [] 0 with
   | .error e=> .error e
   | .ok (t,k)=> .ok (some ⟨116,⟨t.toArray⟩,0,i⟩,k+1)
  else match markR (c::r') marksR with
   |none=> .error 4
   |some m=> .ok (some ⟨109,⟨m.toArray⟩,0,i⟩,m.length)
def cutR:Nat→List UInt8→Nat→List Tok→Except (Int × Int) (List Tok)
 |0,_,i,acc=> .ok (acc++[⟨101,⟨#[]⟩,0,i⟩])
 |f+1,r,i,acc=>match r with
  |[]=> .ok (acc++[⟨101,⟨#[]⟩,0,i⟩])
  |c::r'=>match tokR (c::r') i with
   | .error e=> .error (i,e)
   | .ok (none,k)=>cutR f ((c::r').drop k) (i+k) acc
   | .ok (some t,k)=>cutR f ((c::r').drop k) (i+k) (acc++[t])
abbrev PR (α:Type):=List Tok→Except (Int × Int) (α × List Tok)
namespace PR
variable {α β:Type}
def ret (x:α):PR α:=fun r=> .ok (x,r)
def bad (pos e:Int):PR α:=fun _=> .error (pos,e)
def bind (p:PR α) (q:α→PR β):PR β:=fun r=>match p r with
 | .error e=> .error e
 | .ok (x,r')=>q x r'
end PR
def headR:List Tok→Tok
 |[]=>endTok
 |t::_=>t
def markIs (t:Tok) (s:ByteArray):Bool:=(decide (t.kind=109)||decide (t.kind=119))&&decide (t.s=s)
def isR (s:ByteArray):PR Bool:=fun r=>if markIs (headR r) s=true then .ok (true,r.tail) else .ok (false,r)
def mustR (s:ByteArray):PR Unit:=fun r=>if (headR r).kind=101 then .error ((headR r).pos,5) else if markIs (headR r) s=true then .ok ((),r.tail) else .error ((headR r).pos,4)
def nameR:PR ByteArray:=fun r=>if (headR r).kind=101 then .error ((headR r).pos,5) else if (headR r).kind≠119∨wordsT.contains (headR r).s.toList=true then .error ((headR r).pos,4) else .ok ((headR r).s,r.tail)
def peekR:PR Tok:=fun r=> .ok (headR r,r)
def deepR (d:Nat):PR Unit:=fun r=>if d=0 then .error ((headR r).pos,8) else .ok ((),r)
def branchR {α:Type} (s:ByteArray) (p q:PR α):PR α:=PR.bind (isR s) fun b=>if b=true then p else q
def opsR:List (List ByteArray):=[[⟨#[124,124]⟩],[⟨#[38,38]⟩],[⟨#[61,61]⟩,⟨#[33,61]⟩,⟨#[60,61]⟩,⟨#[62,61]⟩,⟨#[60]⟩,⟨#[62]⟩],[⟨#[43]⟩,⟨#[45]⟩],[⟨#[42]⟩,⟨#[47]⟩,⟨#[37]⟩]]
def inOps (ops:List ByteArray) (s:ByteArray):Bool:=ops.any fun o=>decide (o=s)
def twoR (s:ByteArray) (x y:PExpr):PExpr:= .mk 5 0 s [x,y]
def levLoop (ops:List ByteArray) (next:PR PExpr):Nat→PExpr→PR PExpr
 |0,x=>PR.ret x
 |f+1,x=>fun r=>if (headR r).kind=109∧inOps ops (headR r).s=true then PR.bind next (fun y=>levLoop ops next f (twoR (headR r).s x y)) r.tail else .ok (x,r)
def levelR (u:PR PExpr):Nat→PR PExpr
 |0=>u
 |k+1=>PR.bind (levelR u k) fun x r=>levLoop (opsR.getD (4 - k) []) (levelR u k) r.length x r
def postLoop (ex:PR PExpr):Nat→PExpr→PR PExpr
 |0,x=>PR.ret x
 |f+1,x=>branchR ⟨#[91]⟩ (PR.bind ex fun y=>PR.bind (mustR ⟨#[93]⟩) fun _=>postLoop ex f (.mk 9 0 ⟨#[]⟩ [x,y])) (PR.ret x)
def commaR {α:Type} (l:List α):PR Unit:=if 0<l.length then mustR ⟨#[44]⟩ else PR.ret ()
def argsLoop (ex:PR PExpr):Nat→List PExpr→PR (List PExpr)
 |0,out=>PR.ret out
 |f+1,out=>branchR ⟨#[41]⟩ (PR.ret out) (PR.bind (commaR out) fun _=>PR.bind ex fun y=>argsLoop ex f (out++[y]))
def argsR (ex:PR PExpr):PR (List PExpr):=PR.bind (mustR ⟨#[40]⟩) fun _ r=>argsLoop ex r.length [] r
def countR (s:ByteArray):Option (Int × Int):=if s=⟨#[108,101,110]⟩ then some (8,1) else if s=⟨#[97,112,112,101,110,100]⟩ then some (10,2) else if s=⟨#[115,108,105,99,101]⟩ then some (11,-1) else if s=⟨#[109,97,112]⟩ then some (12,0) else none
def wordR (ex:PR PExpr) (t:Tok):PR PExpr:=match countR t.s with
 |some (k,c)=>PR.bind (argsR ex) fun l=>if 0≤c∧(l.length:Int)≠c then PR.bad t.pos 10 else PR.ret (.mk k 0 ⟨#[]⟩ l)
 |none=>
  if t.s=⟨#[116,114,117,101]⟩ then PR.ret (.mk 3 1 ⟨#[]⟩ [])
  else if t.s=⟨#[102,97,108,115,101]⟩ then PR.ret (.mk 3 0 ⟨#[]⟩ [])
  else if wordsT.contains t.s.toList=true then PR.bad t.pos 4
  else fun r=>if (headR r).kind=109∧(headR r).s=⟨#[40]⟩ then PR.bind (argsR ex) (fun l=>PR.ret (.mk 7 0 t.s l)) r else .ok (.mk 4 0 t.s [],r)
def primR (ex:PR PExpr):PR PExpr:=fun r=>
 let t:=headR r
 if t.kind=101 then .error (t.pos,5)
 else if t.kind=110 then .ok (.mk 1 t.n ⟨#[]⟩ [],r.tail)
 else if t.kind=116 then .ok (.mk 2 0 t.s [],r.tail)
 else if t.kind=109∧t.s=⟨#[40]⟩ then PR.bind ex (fun x=>PR.bind (mustR ⟨#[41]⟩) fun _=>PR.ret x) r.tail
 else if t.kind≠119 then .error (t.pos,4)
 else wordR ex t r.tail
def unaryG (one ex:PR PExpr):PR PExpr:=fun r=>
 if (headR r).kind=109∧((headR r).s=⟨#[45]⟩∨(headR r).s=⟨#[33]⟩) then PR.bind one (fun x=>PR.ret (.mk 6 0 (headR r).s [x])) r.tail
 else PR.bind (primR ex) (fun x r=>postLoop ex r.length x r) r
def deepE {α:Type}:PR α:=fun r=> .error ((headR r).pos,8)
def unaryR:Nat→PR PExpr
 |0=>unaryG deepE deepE
 |d+1=>unaryG (unaryR d) (levelR (unaryR d) 5)
def exprR:Nat→PR PExpr
 |0=>deepE
 |d+1=>levelR (unaryR d) 5
def ifG (ex:PR PExpr) (blk:PR (List PStmt)) (elif:PR PStmt):PR PStmt:=
 PR.bind ex fun x=>PR.bind blk fun b=>branchR ⟨#[101,108,115,101]⟩
  (branchR ⟨#[105,102]⟩ (PR.bind elif fun s=>PR.ret (.mk 4 ⟨#[]⟩ ⟨#[]⟩ [x] b [s] [])) (PR.bind blk fun e=>PR.ret (.mk 4 ⟨#[]⟩ ⟨#[]⟩ [x] b e [])))
  (PR.ret (.mk 4 ⟨#[]⟩ ⟨#[]⟩ [x] b [] []))
def rangeG (ex:PR PExpr) (blk:PR (List PStmt)):PR PStmt:=
 PR.bind nameR fun a=>PR.bind (mustR ⟨#[44]⟩) fun _=>PR.bind nameR fun b=>PR.bind (mustR ⟨#[58,61]⟩) fun _=>PR.bind (mustR ⟨#[114,97,110,103,101]⟩) fun _=>
  PR.bind ex fun x=>PR.bind blk fun l=>PR.ret (.mk 6 a b [x] l [] [])
def forG (ex:PR PExpr) (blk:PR (List PStmt)):PR PStmt:=PR.bind ex fun x=>PR.bind blk fun l=>PR.ret (.mk 5 ⟨#[]⟩ ⟨#[]⟩ [x] l [] [])
def loopG (ex:PR PExpr) (blk:PR (List PStmt)):PR PStmt:=fun r=>
 if (headR r).kind=119∧(headR r.tail).kind=109∧(headR r.tail).s=⟨#[44]⟩ then rangeG ex blk r else forG ex blk r
def constR:PR Int:=PR.bind (isR ⟨#[45]⟩) fun b r=>
 if (headR r).kind=101 then .error ((headR r).pos,5) else if (headR r).kind=110 then .ok ((if b=true then -1 else 1)*(headR r).n,r.tail) else .error ((headR r).pos,4)
def numsLoop:Nat→List Int→PR (List Int)
 |0,l=>PR.ret l
 |f+1,l=>PR.bind constR fun n=>branchR ⟨#[44]⟩ (numsLoop f (l++[n])) (PR.ret (l++[n]))
def caseLoop (blk:PR (List PStmt)):Nat→List (List Int × List PStmt)→PR (List (List Int × List PStmt))
 |0,l=>PR.ret l
 |f+1,l=>branchR ⟨#[99,97,115,101]⟩ (PR.bind (fun r=>numsLoop r.length [] r) fun ns=>PR.bind (mustR ⟨#[58]⟩) fun _=>PR.bind blk fun b=>caseLoop blk f (l++[(ns,b)])) (PR.ret l)
def casesG (ex:PR PExpr) (blk:PR (List PStmt)):PR PStmt:=
 PR.bind ex fun x=>PR.bind (mustR ⟨#[123]⟩) fun _=>PR.bind (fun r=>caseLoop blk r.length [] r) fun cs=>
  PR.bind (branchR ⟨#[100,101,102,97,117,108,116]⟩ (PR.bind (mustR ⟨#[58]⟩) fun _=>blk) (PR.ret [])) fun e=>PR.bind (mustR ⟨#[125]⟩) fun _=>PR.ret (.mk 7 ⟨#[]⟩ ⟨#[]⟩ [x] [] e cs)
def backG (ex:PR PExpr):PR PStmt:=fun r=>if (headR r).kind≠109∨(headR r).s≠⟨#[125]⟩ then PR.bind ex (fun x=>PR.ret (.mk 8 ⟨#[]⟩ ⟨#[]⟩ [x] [] [] [])) r else .ok (.mk 8 ⟨#[]⟩ ⟨#[]⟩ [] [] [] [],r)
def calledG (ex:PR PExpr) (kind n:Int):PR PStmt:=fun r=>PR.bind (argsR ex) (fun l=>if (l.length:Int)≠n then PR.bad (headR r).pos 10 else PR.ret (.mk kind ⟨#[]⟩ ⟨#[]⟩ l [] [] [])) r
def deleteG (ex:PR PExpr):PR PStmt:=PR.bind (mustR ⟨#[40]⟩) fun _=>PR.bind nameR fun s=>PR.bind (mustR ⟨#[44]⟩) fun _=>PR.bind ex fun x=>PR.bind (mustR ⟨#[41]⟩) fun _=>PR.ret (.mk 12 s ⟨#[]⟩ [x] [] [] [])
def simpleG (ex:PR PExpr):PR PStmt:=fun r=>PR.bind nameR (fun s=>
 branchR ⟨#[58,61]⟩ (PR.bind ex fun x=>PR.ret (.mk 1 s ⟨#[]⟩ [x] [] [] []))
 (branchR ⟨#[61]⟩ (PR.bind ex fun x=>PR.ret (.mk 2 s ⟨#[]⟩ [x] [] [] []))
 (branchR ⟨#[91]⟩ (PR.bind ex fun x=>PR.bind (mustR ⟨#[93]⟩) fun _=>PR.bind (mustR ⟨#[61]⟩) fun _=>PR.bind ex fun y=>PR.ret (.mk 3 s ⟨#[]⟩ [x,y] [] [] []))
 (fun r'=>if (headR r').kind=109∧(headR r').s=⟨#[40]⟩ then PR.bind (argsR ex) (fun l=>PR.ret (.mk 13 ⟨#[]⟩ ⟨#[]⟩ [.mk 7 0 s l] [] [] [])) r' else .error ((headR r).pos,4))))) r
def stmtG (ex:PR PExpr) (blk:PR (List PStmt)) (elif:PR PStmt):PR PStmt:=
 branchR ⟨#[105,102]⟩ (ifG ex blk elif)
 (branchR ⟨#[102,111,114]⟩ (loopG ex blk)
 (branchR ⟨#[115,119,105,116,99,104]⟩ (casesG ex blk)
 (branchR ⟨#[114,101,116,117,114,110]⟩ (backG ex)
 (branchR ⟨#[112,114,105,110,116]⟩ (calledG ex 9 1)
 (branchR ⟨#[98,114,101,97,107]⟩ (PR.ret (.mk 10 ⟨#[]⟩ ⟨#[]⟩ [] [] [] []))
 (branchR ⟨#[99,111,110,116,105,110,117,101]⟩ (PR.ret (.mk 11 ⟨#[]⟩ ⟨#[]⟩ [] [] [] []))
 (branchR ⟨#[100,101,108,101,116,101]⟩ (deleteG ex) (simpleG ex))))))))
def blkLoop (st:PR PStmt):Nat→List PStmt→PR (List PStmt)
 |0,out=>PR.ret out
 |f+1,out=>branchR ⟨#[125]⟩ (PR.ret out) fun r=>if (headR r).kind=101 then .error ((headR r).pos,5) else PR.bind st (fun s=>blkLoop st f (out++[s])) r
def bothR:Nat→PR (List PStmt) × PR PStmt
 |0=>(PR.bind (mustR ⟨#[123]⟩) fun _=>deepE,deepE)
 |d+1=>(PR.bind (mustR ⟨#[123]⟩) fun _ r=>blkLoop (stmtG (exprR d) (bothR d).1 (bothR d).2) r.length [] r,ifG (exprR d) (bothR d).1 (bothR d).2)
def blockR (d:Nat):PR (List PStmt):=(bothR d).1
def elifR (d:Nat):PR PStmt:=(bothR d).2
def stmtR (d:Nat):PR PStmt:=stmtG (exprR d) (blockR d) (elifR d)
def typR:PR Int:=branchR ⟨#[105,110,116]⟩ (PR.ret 1) (branchR ⟨#[98,111,111,108]⟩ (PR.ret 2) (branchR ⟨#[115,116,114,105,110,103]⟩ (PR.ret 3) (branchR ⟨#[115,108,105,99,101]⟩ (PR.ret 4) (branchR ⟨#[109,97,112]⟩ (PR.ret 5) (PR.ret 0)))))
def paramsLoop:Nat→List (ByteArray × Int)→PR (List (ByteArray × Int))
 |0,out=>PR.ret out
 |f+1,out=>branchR ⟨#[41]⟩ (PR.ret out) (PR.bind (commaR out) fun _=>PR.bind nameR fun s=>PR.bind peekR fun k=>PR.bind typR fun t=>
  if t=0 then PR.bad k.pos (if k.kind=101 then 5 else 4) else paramsLoop f (out++[(s,t)]))
def funcR:PR PFunc:=PR.bind peekR fun t=>PR.bind (mustR ⟨#[102,117,110,99]⟩) fun _=>PR.bind nameR fun s=>PR.bind (mustR ⟨#[40]⟩) fun _=>
 PR.bind (fun r=>paramsLoop r.length [] r) fun ps=>if 4<ps.length then PR.bad t.pos 10 else PR.bind typR fun k=>PR.bind (blockR 30) fun b=>PR.ret ⟨s,ps,k,b⟩
def readLoop:Nat→List PFunc→PR (List PFunc)
 |0,out=>PR.ret out
 |f+1,out=>fun r=>if (headR r).kind=101 then .ok (out,r) else PR.bind funcR (fun g=>if 20<out.length+1 then PR.bad (headR r).pos 1 else readLoop f (out++[g])) r
def readR (s:List UInt8):Except (Int × Int) (List PFunc):=
 if 4000<s.length then .error (0,1)
 else match cutR s.length s 0 [] with
  | .error e=> .error e
  | .ok ts=>match readLoop ts.length [] ts with
   | .error e=> .error e
   | .ok (fs,_)=> .ok fs
end Go.Pst
namespace Go.Pst
open Go.RowKit
set_option linter.unusedVariables false
def Kp {α:Type} (p:PR α):Prop:= ∀ r x r',p r= .ok (x,r')→r'.length≤r.length
def Shr {α:Type} (p:PR α):Prop:= ∀ r x r',p r= .ok (x,r')→r'.length<r.length
section
variable {α β:Type}
theorem Shr.kp {p:PR α} (h:Shr p):Kp p:=fun r x r' e=>Nat.le_of_lt (h r x r' e)
theorem bind_ok {p:PR α} {q:α→PR β} {r:List Tok} {y:β} {r':List Tok} (h:PR.bind p q r= .ok (y,r')): ∃ x r1,p r= .ok (x,r1)∧q x r1= .ok (y,r'):=by
 unfold PR.bind at h
 match hp:p r,h with
 | .error e,h=>cases h
 | .ok (x,r1),h=>exact ⟨x,r1,rfl,h⟩
theorem Kp.bind {p:PR α} {q:α→PR β} (hp:Kp p) (hq: ∀ x,Kp (q x)):Kp (PR.bind p q):=fun r y r' h=>by
 obtain ⟨x,r1,h1,h2⟩:=bind_ok h
 exact Nat.le_trans (hq x _ _ _ h2) (hp _ _ _ h1)
theorem Shr.bindL {p:PR α} {q:α→PR β} (hp:Shr p) (hq: ∀ x,Kp (q x)):Shr (PR.bind p q):=fun r y r' h=>by
 obtain ⟨x,r1,h1,h2⟩:=bind_ok h
 exact Nat.lt_of_le_of_lt (hq x _ _ _ h2) (hp _ _ _ h1)
theorem Shr.bindR {p:PR α} {q:α→PR β} (hp:Kp p) (hq: ∀ x,Shr (q x)):Shr (PR.bind p q):=fun r y r' h=>by
 obtain ⟨x,r1,h1,h2⟩:=bind_ok h
 exact Nat.lt_of_lt_of_le (hq x _ _ _ h2) (hp _ _ _ h1)
theorem Kp.ret (x:α):Kp (PR.ret x):=fun r y r' h=>by
 unfold PR.ret at h
 injection h with h
 injection h with _ h
 rw [h]
 exact Nat.le_refl _
theorem Shr.bad (p e:Int):Shr (PR.bad p e:PR α):=fun r y r' h=>by cases h
theorem Shr.deep:Shr (deepE:PR α):=fun r y r' h=>by cases h
theorem head_cons {r:List Tok} (h:(headR r).kind≠101):r.tail.length<r.length:=by
 cases r with
 |nil=>exact absurd rfl h
 |cons t r=>simp
theorem mark_kind {t:Tok} {s:ByteArray} (h:markIs t s=true):t.kind≠101:=by
 intro e
 simp [markIs,e] at h
theorem isR_ok {s:ByteArray} {r r':List Tok} {b:Bool} (h:isR s r= .ok (b,r')):if b=true then r'.length<r.length else r'=r:=by
 unfold isR at h
 by_cases hm:markIs (headR r) s=true
 ·
  rw [if_pos hm] at h
  injection h with h
  injection h with h1 h2
  subst h1 h2
  exact head_cons (mark_kind hm)
 ·
  rw [if_neg hm] at h
  injection h with h
  injection h with h1 h2
  subst h1 h2
  rfl
theorem Kp.is (s:ByteArray):Kp (isR s):=fun r b r' h=>by
 have:=isR_ok h
 cases b with
 |true=>exact Nat.le_of_lt this
 |false=>have:r'=r:=this;rw [this];exact Nat.le_refl _
theorem Shr.must (s:ByteArray):Shr (mustR s):=fun r x r' h=>by
 unfold mustR at h
 by_cases hk:(headR r).kind=101
 ·
  rw [if_pos hk] at h;cases h
 ·
  rw [if_neg hk] at h
  by_cases hm:markIs (headR r) s=true
  ·
   rw [if_pos hm] at h
   injection h with h
   injection h with h1 h2
   subst h2
   exact head_cons hk
  ·
   rw [if_neg hm] at h;cases h
theorem Shr.name:Shr nameR:=fun r x r' h=>by
 unfold nameR at h
 by_cases hk:(headR r).kind=101
 ·
  rw [if_pos hk] at h;cases h
 ·
  rw [if_neg hk] at h
  split at h
  ·
   cases h
  ·
   injection h with h
   injection h with h1 h2
   subst h2
   exact head_cons hk
theorem Kp.peek:Kp peekR:=fun r x r' h=>by
 unfold peekR at h
 injection h with h
 injection h with h1 h2
 rw [h2]
 exact Nat.le_refl _
theorem Kp.branch {s:ByteArray} {p q:PR α} (hp:Kp p) (hq:Kp q):Kp (branchR s p q):=Kp.bind (Kp.is s) fun b=>by
 cases b with
 |true=>exact hp
 |false=>exact hq
theorem Shr.branch {s:ByteArray} {p q:PR α} (hp:Kp p) (hq:Shr q):Shr (branchR s p q):=fun r y r' h=>by
 obtain ⟨b,r1,h1,h2⟩:=bind_ok h
 have h3:=isR_ok h1
 cases b with
 |true=>exact Nat.lt_of_le_of_lt (hp _ _ _ h2) h3
 |false=>have:r1=r:=h3;subst this;exact hq _ _ _ h2
theorem Kp.self {q:List Tok→PR α} (h: ∀ r,Kp (q r)):Kp (fun r=>q r r):=fun r x r' e=>h r _ _ _ e
theorem Shr.self {q:List Tok→PR α} (h: ∀ r,Shr (q r)):Shr (fun r=>q r r):=fun r x r' e=>h r _ _ _ e
theorem Kp.comma {l:List β}:Kp (commaR l):=by
 unfold commaR
 split
 ·
  exact (Shr.must _).kp
 ·
  exact Kp.ret _
theorem Kp.lev {ops:List ByteArray} {next:PR PExpr} (hn:Kp next): ∀ (f:Nat) (x:PExpr),Kp (levLoop ops next f x)
 |0,x=>Kp.ret x
 |f+1,x=>fun r y r' h=>by
  unfold levLoop at h
  split at h
  ·
   rename_i hc
   have h1:=Kp.bind hn (fun y=>Kp.lev hn f (twoR (headR r).s x y)) _ _ _ h
   have:=head_cons (r:=r) (by rw [hc.1];decide)
   omega
  ·
   injection h with h
   injection h with h1 h2
   rw [h2]
   exact Nat.le_refl _
theorem Shr.level {u:PR PExpr} (hu:Shr u): ∀ k,Shr (levelR u k)
 |0=>hu
 |k+1=>Shr.bindL (Shr.level hu k) fun x=>Kp.self fun r=>Kp.lev (Shr.level hu k).kp _ _
theorem Kp.post {ex:PR PExpr} (he:Kp ex): ∀ (f:Nat) (x:PExpr),Kp (postLoop ex f x)
 |0,x=>Kp.ret x
 |f+1,x=>Kp.branch (Kp.bind he fun y=>Kp.bind (Shr.must _).kp fun _=>Kp.post he f _) (Kp.ret _)
theorem Kp.args {ex:PR PExpr} (he:Kp ex): ∀ (f:Nat) (l:List PExpr),Kp (argsLoop ex f l)
 |0,l=>Kp.ret l
 |f+1,l=>Kp.branch (Kp.ret _) (Kp.bind Kp.comma fun _=>Kp.bind he fun y=>Kp.args he f _)
theorem Shr.args {ex:PR PExpr} (he:Kp ex):Shr (argsR ex):=Shr.bindL (Shr.must _) fun _=>Kp.self fun r=>Kp.args he _ _
theorem Kp.word {ex:PR PExpr} (he:Kp ex) (t:Tok):Kp (wordR ex t):=by
 unfold wordR
 split
 ·
  exact Kp.bind (Shr.args he).kp fun l=>by
   split
   ·
    exact (Shr.bad _ _).kp
   ·
    exact Kp.ret _
 ·
  split
  ·
   exact Kp.ret _
  split
  ·
   exact Kp.ret _
  split
  ·
   exact (Shr.bad _ _).kp
  ·
   intro r x r' h
   dsimp only at h
   split at h
   ·
    exact Kp.bind (Shr.args he).kp (fun l=>Kp.ret _) _ _ _ h
   ·
    injection h with h
    injection h with h1 h2
    rw [h2]
    exact Nat.le_refl _
theorem Shr.prim {ex:PR PExpr} (he:Kp ex):Shr (primR ex):=fun r x r' h=>by
 unfold primR at h
 dsimp only at h
 by_cases hk:(headR r).kind=101
 ·
  rw [if_pos hk] at h;cases h
 rw [if_neg hk] at h
 have ht:=head_cons hk
 have fin: ∀ y:PExpr,(.ok (y,r.tail):Except (Int × Int) (PExpr × List Tok))= .ok (x,r')→r'.length<r.length:=fun y e=>by
  injection e with e
  injection e with _ e
  rw [←e];exact ht
 split at h
 ·
  exact fin _ h
 split at h
 ·
  exact fin _ h
 split at h
 ·
  have:=Kp.bind he (fun x=>Kp.bind (Shr.must ⟨#[41]⟩).kp fun _=>Kp.ret x) _ _ _ h
  omega
 split at h
 ·
  cases h
 ·
  have:=Kp.word he _ _ _ _ h
  omega
theorem Shr.unaryG {one ex:PR PExpr} (h1:Kp one) (he:Kp ex):Shr (unaryG one ex):=fun r x r' h=>by
 unfold Go.Pst.unaryG at h
 split at h
 ·
  rename_i hc
  have:=Kp.bind h1 (fun x=>Kp.ret _) _ _ _ h
  have:=head_cons (r:=r) (by rw [hc.1];decide)
  omega
 ·
  exact Shr.bindL (Shr.prim he) (fun x=>Kp.self fun r=>Kp.post he _ _) _ _ _ h
theorem Shr.unary: ∀ d,Shr (unaryR d)
 |0=>Shr.unaryG Shr.deep.kp Shr.deep.kp
 |d+1=>Shr.unaryG (Shr.unary d).kp (Shr.level (Shr.unary d) 5).kp
theorem Shr.expr: ∀ d,Shr (exprR d)
 |0=>Shr.deep
 |d+1=>Shr.level (Shr.unary d) 5
end
end Go.Pst
namespace Go.Pst
open Go.RowKit
set_option linter.unusedVariables false
structure Since (F:Nat→Prop) (w w':World):Prop where
 os:w'.os=w.os
 tape:w'.tape=w.tape
 output:w'.output=w.output
 size:w.heap.size≤w'.heap.size
 block: ∀ k,k<w.heap.size→ ¬F k→w'.heap[k]?=w.heap[k]?
namespace Since
variable {F G:Nat→Prop} {a b c w w':World}
theorem refl (F:Nat→Prop) (w:World):Since F w w:=⟨rfl,rfl,rfl,Nat.le_refl _,fun _ _ _=>rfl⟩
theorem trans (h:Since F a b) (k:Since F b c):Since F a c:=
 ⟨k.os.trans h.os,k.tape.trans h.tape,k.output.trans h.output,Nat.le_trans h.size k.size,fun i hi hn=>(k.block i (Nat.lt_of_lt_of_le hi h.size) hn).trans (h.block i hi hn)⟩
theorem then_new (h:Since F a b) (k:Since G b c) (hG: ∀ i,G i→F i∨a.heap.size≤i):Since F a c:=
 ⟨k.os.trans h.os,k.tape.trans h.tape,k.output.trans h.output,Nat.le_trans h.size k.size,fun i hi hn=>
  (k.block i (Nat.lt_of_lt_of_le hi h.size) (fun g=>(hG i g).elim hn (fun hl=>by omega))).trans (h.block i hi hn)⟩
theorem mono (h:Since F w w') (hF: ∀ k,F k→G k):Since G w w':=⟨h.os,h.tape,h.output,h.size,fun k hk hn=>h.block k hk (fun f=>hn (hF k f))⟩
theorem alloc (F:Nat→Prop) (w:World) (o:Obj):Since F w (w.alloc o):=⟨rfl,rfl,rfl,by simp,fun k hk _=>Below.heap_alloc _ _ _ hk⟩
theorem drewN (F:Nat→Prop) (w:World) (n:Nat):Since F w (w.drewN n):=⟨rfl,rfl,rfl,Nat.le_refl _,fun _ _ _=>rfl⟩
theorem drew (F:Nat→Prop) (w:World):Since F w w.drew:=⟨rfl,rfl,rfl,Nat.le_refl _,fun _ _ _=>rfl⟩
theorem setCell (w:World) (p:Addr) (u:Value):Since (· =p.block) w (w.setCell p u):=⟨rfl,rfl,rfl,by simp,fun k _ hn=>Below.heap_setCell _ _ _ _ hn⟩
theorem grown {row:Option Nat} (h:w.grownBy w' row):Since (fun k=>row=some k) w w':=⟨h.os,h.tape,h.output,h.size,fun k hk hn=>h.block k hk (fun e=>hn e.symm)⟩
theorem below {B:Nat} (h:Since F w w') (hB:B≤w.heap.size) (hF: ∀ k,F k→B≤k):Below B w w':=
 ⟨h.os,h.tape,h.output,h.size,fun k hk=>h.block k (by omega) (fun f=>by have:=hF k f;omega)⟩
theorem cell (h:Since F w w') {b o:Nat} (hb:b<w.heap.size) (hn: ¬F b):w'.cell? ⟨b,o,none⟩=w.cell? ⟨b,o,none⟩:=World.cell?_of_block (w:=w) (a:=⟨b,o,none⟩) (h.block b hb hn)
theorem frozen (h:Since F w w') {b o:Nat} (hb:b<w.heap.size) (hn: ¬F b):w'.frozen? ⟨b,o,none⟩=w.frozen? ⟨b,o,none⟩:=World.frozen?_of_block (w:=w) (a:=⟨b,o,none⟩) (h.block b hb hn)
theorem keep (h:Since F w w'):Keep (fun k=> ¬F k) w w':=⟨h.size,fun k hk hS=>h.block k hk hS⟩
theorem row {base n sz:Nat} {e:TypeId} {v:Value} {xs:List Value} (h:Since F w w') (ho:w.ownsRow base e sz v n xs) (hn: ∀ k,v.ownBlock=some k→ ¬F k):w'.ownsRow base e sz v n xs:=by
 refine ⟨ho.1,?_⟩
 rcases ho.2 with h0|⟨g,cap,cur,hv,hb,hg,r⟩
 ·
  exact Or.inl h0
 ·
  have hlt:g<w.heap.size:=(Array.getElem?_eq_some_iff.1 hg).1
  exact Or.inr ⟨g,cap,cur,hv,hb,(h.block g hlt (hn g (by rw [hv];rfl))).trans hg,r⟩
end Since
theorem row_slice {w:World} {base n sz:Nat} {e:TypeId} {v:Value} {xs:List Value} (h:w.ownsRow base e sz v n xs): ∃ a cap,v= .slice a n cap∧n≤cap∧cap≤maxLen:=by
 rcases h.2 with ⟨rfl,rfl⟩|⟨g,cap,cur,rfl,_,_,h1,h2,_⟩
 ·
  exact ⟨none,0,rfl,Nat.le_refl _,by decide⟩
 ·
  exact ⟨_,cap,rfl,h1,h2⟩
end Go.Pst
namespace Go.Pst
open Go.RowKit
structure PProg where
 funcs:List PCode
 data:List Int
instance:Inhabited PProg:=⟨⟨[],[]⟩⟩
abbrev rCodes:Rep (List PCode):=rSlice 6 rCode
def rProg:Rep PProg:=fun S w cs x=> ∃ v0 v1,cs=[v0,v1]∧rCodes S w [v0] x.funcs∧rInts S w [v1] x.data
instance:Good rProg:=⟨by
 rintro S S' w w' cs x hk hs ⟨v0,v1,h1,h2,h3⟩
 exact ⟨v0,v1,h1,Good.keep hk hs h2,Good.keep hk hs h3⟩⟩
section
variable {H:Type} {enc:TypeId × Value→H} {P:Program} {w:World}
end
def StrsAt (w:World) (a:Option Addr) (l:List ByteArray):Prop:=
 ∀ i (h:i<l.length),∃ b off,a=some ⟨b,off,none⟩∧b<w.heap.size∧w.cell? ⟨b,off+i,none⟩=some (.string l[i])
theorem StrsAt.below {w w':World} {a:Option Addr} {l:List ByteArray} (h:StrsAt w a l) (hb:Below w.heap.size w w'):StrsAt w' a l:=by
 intro i hi
 obtain ⟨b,off,ha,hlt,hc⟩:=h i hi
 exact ⟨b,off,ha,Nat.lt_of_lt_of_le hlt hb.size,by rw [hb.cell (p:=⟨b,off+i,none⟩) hlt];exact hc⟩
end Go.Pst
namespace Go.Pst
open Go.RowKit
set_option linter.unusedVariables false
set_option linter.unusedSimpArgs false
theorem flat_get {sz:Nat}: ∀ (ess:List (List Value)) (i j:Nat) (h:i<ess.length),(∀ es∈ess,es.length=sz)→j<sz→ess.flatten[i*sz+j]?=ess[i][j]?
 |[],i,j,h,_,_=>by simp at h
 |es::r,0,j,h,hs,hj=>by
  have:=hs es (by simp)
  simp [List.getElem?_append_left (show j<es.length by omega)]
 |es::r,i+1,j,h,hs,hj=>by
  have h1:=hs es (by simp)
  have h2:=flat_get r i j (by simpa using h) (fun x hx=>hs x (by simp [hx])) hj
  rw [List.flatten_cons,List.getElem?_append_right (by rw [h1,Nat.succ_mul];omega),h1,show (i+1)*sz+j - sz=i*sz+j by rw [Nat.succ_mul];omega,h2]
  simp
theorem rSlice_lit {α:Type} (sz:Nat) (R:Rep α) (S:Nat→Prop) (w:World) (b:Nat) (t:TypeId) (fr:Nat × Nat) (l:List α) (ess:List (List Value)) (hlen:ess.length=l.length) (hsz: ∀ es∈ess,es.length=sz) (hS:S b) (hm:l.length≤maxLen)
 (hc:w.heap[b]?=some (.cells ess.flatten.toArray t fr)) (hR: ∀ i (h:i<l.length),R S w (ess[i]'(by omega)) l[i]):rSlice sz R S w [.slice (some ⟨b,0,none⟩) l.length l.length] l:=by
 refine ⟨_,_,rfl,Nat.le_refl _,hm,fun i hi=>⟨b,0,ess[i]'(by omega),rfl,hS,(Array.getElem?_eq_some_iff.1 hc).1,hsz _ (List.getElem_mem _),fun j hj=>?_,hR i hi⟩⟩
 rw [←flat_get ess i j (by omega) hsz hj]
 simp [World.cell?,hc]
def rAll {α:Type} (sz:Nat) (R:Rep α) (S:Nat→Prop) (w:World):List (List Value)→List α→Prop
 |[],[]=>True
 |es::r,x::l=>(es.length=sz∧R S w es x)∧rAll sz R S w r l
 |_,_=>False
theorem rAll_len {α:Type} {sz:Nat} {R:Rep α} {S:Nat→Prop} {w:World}: ∀ {ess:List (List Value)} {l:List α},rAll sz R S w ess l→ess.length=l.length
 |[],[],_=>rfl
 |es::r,x::l,h=>by simpa using rAll_len h.2
theorem rAll_size {α:Type} {sz:Nat} {R:Rep α} {S:Nat→Prop} {w:World}: ∀ {ess:List (List Value)} {l:List α},rAll sz R S w ess l→ ∀ es∈ess,es.length=sz
 |[],[],_,es,h=>by simp at h
 |es::r,x::l,h,e,he=>by
  rcases List.mem_cons.1 he with rfl|he
  ·
   exact h.1.1
  ·
   exact rAll_size h.2 e he
theorem rAll_get {α:Type} {sz:Nat} {R:Rep α} {S:Nat→Prop} {w:World}: ∀ {ess:List (List Value)} {l:List α},rAll sz R S w ess l→ ∀ i (h:i<l.length) (h':i<ess.length),R S w ess[i] l[i]
 |[],[],_,i,h,_=>by simp at h
 |es::r,x::l,h,0,_,_=>h.1.2
 |es::r,x::l,h,i+1,hi,hi'=>by simpa using rAll_get h.2 i (by simpa using hi) (by simpa using hi')
theorem rSlice_all {α:Type} {sz:Nat} {R:Rep α} {S:Nat→Prop} {w:World} {b:Nat} {t:TypeId} {fr:Nat × Nat} {l:List α} (ess:List (List Value)) (hS:S b) (hm:l.length≤maxLen)
 (hc:w.heap[b]?=some (.cells ess.flatten.toArray t fr)) (hR:rAll sz R S w ess l):rSlice sz R S w [.slice (some ⟨b,0,none⟩) l.length l.length] l:=
 rSlice_lit sz R S w b t fr l ess (rAll_len hR) (rAll_size hR) hS hm hc (fun i hi=>rAll_get hR i hi (by rw [rAll_len hR];exact hi))
theorem lens {α:Type} {l:List α} (h:Nat.ble l.length 1000=true):l.length≤maxLen:=Nat.le_trans (Nat.le_of_ble_eq_true h) (by decide)
theorem ini {n:Int} (h:(decide (-9223372036854775808≤n)&&decide (n≤9223372036854775807))=true):InI n:=by simpa [InI] using h
theorem allocs_get: ∀ (os:List Obj) (w:World) (k:Nat),k<os.length→(os.foldl World.alloc w).heap[w.heap.size+k]?=os[k]?
 |[],w,k,h=>by simp at h
 |o::r,w,0,h=>by
  show (r.foldl World.alloc (w.alloc o)).heap[w.heap.size+0]?=some o
  have: ∀ (r:List Obj) (w':World),w.heap.size<w'.heap.size→w'.heap[w.heap.size]?=some o→(r.foldl World.alloc w').heap[w.heap.size]?=some o:=by
   intro r
   induction r with
   |nil=>intro w' _ h;exact h
   |cons x r ih=>intro w' hl h;exact ih _ (by simp;omega) ((Below.heap_alloc _ _ _ hl).trans h)
  exact this r _ (by simp) (heap_alloc_new w o)
 |o::r,w,k+1,h=>by
  have:=allocs_get r (w.alloc o) k (by simpa using h)
  rw [show (w.alloc o).heap.size=w.heap.size+1 by simp] at this
  rw [show w.heap.size+(k+1)=w.heap.size+1+k by omega]
  exact this
end Go.Pst
namespace Go.Pst
open Go.RowKit
set_option linter.unusedVariables false
set_option linter.unusedSimpArgs false
theorem rAll_keep {α:Type} {sz:Nat} {R:Rep α} [g:Good R] {S S':Nat→Prop} {w w':World} (hk:Keep S w w') (hs: ∀ k,k<w.heap.size→S k→S' k): ∀ {ess:List (List Value)} {l:List α},rAll sz R S w ess l→rAll sz R S' w' ess l
 |[],[],_=>trivial
 |_::_,_::_,h=>⟨⟨h.1.1,g.keep hk hs h.1.2⟩,rAll_keep hk hs h.2⟩
theorem rAll_snoc {α:Type} {sz:Nat} {R:Rep α} {S:Nat→Prop} {w:World} {es:List Value} {x:α} (h1:es.length=sz) (h2:R S w es x): ∀ {ess:List (List Value)} {l:List α},rAll sz R S w ess l→rAll sz R S w (ess++[es]) (l++[x])
 |[],[],_=>⟨⟨h1,h2⟩,trivial⟩
 |_::_,_::_,h=>⟨h.1,rAll_snoc h1 h2 h.2⟩
theorem rSlice_ownN {α:Type} {sz:Nat} {R:Rep α} {S T:Nat→Prop} {w:World} {base:Nat} {e:TypeId} {v:Value} {l:List α} {ess:List (List Value)} (h:w.ownsRow base e sz v l.length ess.flatten) (hS: ∀ k,v.ownBlock=some k→S k) (hR:rAll sz R S w ess l):rSlice sz R S w [v] l:=by
 obtain ⟨hx,h⟩:=h
 rcases h with ⟨rfl,h0⟩|⟨g,cap,cur,rfl,hb,hg,hn,hm,hc,ht⟩
 ·
  have:l=[]:=List.eq_nil_of_length_eq_zero h0
  subst this
  exact rSlice_nil _ _ _ _
 ·
  have hl:=rAll_len hR
  refine ⟨_,cap,rfl,hn,hm,fun i hi=>⟨g,0,ess[i]'(by omega),rfl,hS g (by simp [Value.ownBlock]),(Array.getElem?_eq_some_iff.1 hg).1,rAll_size hR _ (List.getElem_mem _),fun j hj=>?_,rAll_get hR i hi (by omega)⟩⟩
  rw [←flat_get ess i j (by omega) (rAll_size hR) hj,←ht,List.getElem?_take,if_pos (by
   have:(i+1)*sz≤l.length*sz:=Nat.mul_le_mul_right _ hi
   rw [Nat.succ_mul] at this
   omega)]
  simp [World.cell?,hg]
end Go.Pst
namespace Go.Pst
open Go.RowKit
set_option linter.unusedVariables false
set_option linter.unusedSimpArgs false
structure Toks (T:List Tok):Prop where
 pos:0<T.length
 len:T.length≤5000
 last: ∀ i (h:i<T.length),T[i].kind=101↔i+1=T.length
 fit: ∀ i (h:i<T.length),T[i].s.size≤maxLen∧InI T[i].n∧InI T[i].pos∧T[i].n≤1099511627776∧0≤T[i].n
structure RSt where
 i:Nat
 pos:Int
 fault:Int
 depth:Int
def RSt.bad (st:RSt) (p e:Int):RSt:=if st.fault=0 then {st with pos:=p,fault:=e} else st
def tokC (t:Tok):List Value:=[.int .u8 t.kind, .string t.s, .int .i64 t.n, .int .i64 t.pos]
def seeR (T:List Tok) (st:RSt):Tok:=if st.fault=0 then headR (T.drop st.i) else endTok
structure RdAt (w:World) (br bT cap:Nat) (T:List Tok) (st:RSt):Prop where
 c0:w.cell? ⟨br,0,none⟩=some (.slice (some ⟨bT,0,none⟩) T.length cap)
 c1:w.cell? ⟨br,1,none⟩=some (.int .i64 st.i)
 c2:w.cell? ⟨br,2,none⟩=some (.int .i64 st.pos)
 c3:w.cell? ⟨br,3,none⟩=some (.int .i64 st.fault)
 c4:w.cell? ⟨br,4,none⟩=some (.int .i64 st.depth)
 z: ∀ j,w.frozen? ⟨br,j,none⟩=false
 lt:br<w.heap.size∧bT<w.heap.size
 ne:bT≠br
 cap:T.length≤cap
 tok: ∀ i (h:i<T.length),w.cell? ⟨bT,i*4,none⟩=some (.int .u8 T[i].kind)∧w.cell? ⟨bT,i*4+1,none⟩=some (.string T[i].s)∧w.cell? ⟨bT,i*4+2,none⟩=some (.int .i64 T[i].n)∧w.cell? ⟨bT,i*4+3,none⟩=some (.int .i64 T[i].pos)
 inn:st.fault=0→st.i<T.length
 toks:Toks T
namespace RdAt
variable {w w':World} {br bT cap:Nat} {T:List Tok} {st:RSt} {F:Nat→Prop}
theorem since (h:RdAt w br bT cap T st) (hs:Since F w w') (h1: ¬F br) (h2: ¬F bT):RdAt w' br bT cap T st:=by
 have hc:=fun j=>hs.cell (o:=j) h.lt.1 h1
 have hd:=fun j=>hs.cell (o:=j) h.lt.2 h2
 refine ⟨(hc _).trans h.c0,(hc _).trans h.c1,(hc _).trans h.c2,(hc _).trans h.c3,(hc _).trans h.c4,fun j=>(hs.frozen h.lt.1 h1).trans (h.z j),⟨Nat.lt_of_lt_of_le h.lt.1 hs.size,Nat.lt_of_lt_of_le h.lt.2 hs.size⟩,h.ne,h.cap,fun i hi=>?_,h.inn,h.toks⟩
 obtain ⟨t0,t1,t2,t3⟩:=h.tok i hi
 exact ⟨(hd _).trans t0,(hd _).trans t1,(hd _).trans t2,(hd _).trans t3⟩
theorem later (h:RdAt w br bT cap T st) (hs:Since (fun _=>False) w w'):RdAt w' br bT cap T st:=h.since hs (fun f=>f) (fun f=>f)
theorem set (h:RdAt w br bT cap T st) (j:Nat) (x:Int) (st':RSt) (hj:j=1∨j=2∨j=3∨j=4) (h1:(st'.i:Int)=if j=1 then x else st.i) (h2:st'.pos=if j=2 then x else st.pos) (h3:st'.fault=if j=3 then x else st.fault) (h4:st'.depth=if j=4 then x else st.depth)
 (hin:st'.fault=0→st'.i<T.length):RdAt (w.setCell ⟨br,j,none⟩ (.int .i64 x)) br bT cap T st':=by
 have hs:Since (fun k=>k=br) w (w.setCell ⟨br,j,none⟩ (.int .i64 x)):=Since.setCell w ⟨br,j,none⟩ (.int .i64 x)
 have get: ∀ i (y v:Int),w.cell? ⟨br,i,none⟩=some (.int .i64 y)→(v=if j=i then x else y)→(w.setCell ⟨br,j,none⟩ (.int .i64 x)).cell? ⟨br,i,none⟩=some (.int .i64 v):=by
  intro i y v hi hv
  by_cases e:j=i
  ·
   subst e
   rw [if_pos rfl] at hv
   subst hv
   exact World.cell?_setCell_same _ _ _ hi
  ·
   rw [if_neg e] at hv
   subst hv
   rw [World.cell?_setCell_other (h:=fun h=>e (by injection h))]
   exact hi
 have c0:(w.setCell ⟨br,j,none⟩ (.int .i64 x)).cell? ⟨br,0,none⟩=some (.slice (some ⟨bT,0,none⟩) T.length cap):=by
  rw [World.cell?_setCell_other (h:=fun h=>by injection h with _ h _;omega)]
  exact h.c0
 refine ⟨c0,get _ _ _ h.c1 h1,get _ _ _ h.c2 h2,get _ _ _ h.c3 h3,get _ _ _ h.c4 h4,fun i=>by rw [World.frozen?_setCell];exact h.z i,⟨by simpa using h.lt.1,by simpa using h.lt.2⟩,h.ne,h.cap,fun i hi=>?_,hin,h.toks⟩
 obtain ⟨t0,t1,t2,t3⟩:=h.tok i hi
 have hd:=fun j'=>hs.cell (b:=bT) (o:=j') h.lt.2 h.ne
 exact ⟨(hd _).trans t0,(hd _).trans t1,(hd _).trans t2,(hd _).trans t3⟩
end RdAt
def runR {α:Type} (T:List Tok) (p:PR α) (st:RSt):Except (Int × Int) (α × List Tok):=if st.fault=0 then p (T.drop st.i) else .error (st.pos,st.fault)
def Good' {α:Type} (T:List Tok) (dep:Int) (res:Except (Int × Int) (α × List Tok)) (x:α) (st':RSt):Prop:=
 match res with
 | .ok (y,r)=>x=y∧st'.fault=0∧st'.depth=dep∧T.drop st'.i=r
 | .error (p,e)=>st'.fault=e∧st'.pos=p∧e≠0
section
variable {α β:Type} {T:List Tok} {dep:Int} {st st1 st2:RSt}
theorem runR_ok {p:PR α} (h:st.fault=0):runR T p st=p (T.drop st.i):=if_pos h
theorem runR_bad {p:PR α} (h:st.fault≠0):runR T p st= .error (st.pos,st.fault):=if_neg h
theorem Good'.ret (x:α) (hd:st.fault=0→st.depth=dep):Good' T dep (runR T (PR.ret x) st) x st:=by
 by_cases h:st.fault=0
 ·
  rw [runR_ok h];exact ⟨rfl,h,hd h,rfl⟩
 ·
  rw [runR_bad h];exact ⟨rfl,rfl,h⟩
theorem Good'.fault0 {res:Except (Int × Int) (α × List Tok)} {x:α} (h:Good' T dep res x st) (h0:st.fault=0):res= .ok (x,T.drop st.i)∧st.depth=dep:=by
 match res,h with
 | .ok (y,r),h=>obtain ⟨rfl,h1,h2,rfl⟩:=h;exact ⟨rfl,h2⟩
 | .error (p,e),h=>exact absurd h0 (by rw [h.1];exact h.2.2)
theorem Good'.fault1 {res:Except (Int × Int) (α × List Tok)} {x:α} (h:Good' T dep res x st) (h0:st.fault≠0):res= .error (st.pos,st.fault):=by
 match res,h with
 | .ok (y,r),h=>exact absurd h.2.1 h0
 | .error (p,e),h=>rw [h.1,h.2.1]
theorem Good'.bind {p:PR α} {q:α→PR β} {x:α} (h:Good' T dep (runR T p st) x st1):runR T (PR.bind p q) st=runR T (q x) st1:=by
 by_cases h1:st1.fault=0
 ·
  have h2:=(h.fault0 h1).1
  by_cases h0:st.fault=0
  ·
   rw [runR_ok h0] at h2 ⊢;rw [runR_ok h1];unfold PR.bind;rw [h2]
  ·
   rw [runR_bad h0] at h2;cases h2
 ·
  have h2:=h.fault1 h1
  rw [runR_bad h1]
  by_cases h0:st.fault=0
  ·
   rw [runR_ok h0] at h2 ⊢;unfold PR.bind;rw [h2]
  ·
   rw [runR_bad h0] at h2 ⊢;injection h2 with h2;rw [h2]
theorem Good'.dep_eq {res:Except (Int × Int) (α × List Tok)} {x:α} (h:Good' T dep res x st) (h0:st.fault=0):st.depth=dep:=(h.fault0 h0).2
end
theorem seeR_get {T:List Tok} {st:RSt} (h0:st.fault=0) (h:st.i<T.length):seeR T st=T[st.i]:=by
 unfold seeR
 rw [if_pos h0]
 rw [List.drop_eq_getElem_cons h]
 rfl
theorem seeR_head {T:List Tok} {st:RSt} (h0:st.fault=0):seeR T st=headR (T.drop st.i):=if_pos h0
theorem seeR_bad {T:List Tok} {st:RSt} (h0:st.fault≠0):seeR T st=endTok:=if_neg h0
theorem Toks.more {T:List Tok} (h:Toks T) {i:Nat} (hi:i<T.length) (hk:T[i].kind≠101):i+1<T.length:=by
 have:=(not_congr (h.last i hi)).1 hk
 omega
theorem RdAt.step {w:World} {br bT cap:Nat} {T:List Tok} {st:RSt} (h:RdAt w br bT cap T st) (h0:st.fault=0) (hk:(seeR T st).kind≠101):RdAt (w.setCell ⟨br,1,none⟩ (.int .i64 ((st.i:Int)+1))) br bT cap T {st with i:=st.i+1}:=by
 have hi:=h.inn h0
 rw [seeR_get h0 hi] at hk
 exact h.set 1 _ {st with i:=st.i+1} (by simp) (by simp) (by simp) (by simp) (by simp) (fun _=>h.toks.more hi hk)
theorem see_fault {T:List Tok} {st:RSt} (hk:(seeR T st).kind≠101):st.fault=0:=by
 by_cases h:st.fault=0
 ·
  exact h
 ·
  rw [seeR_bad h] at hk;exact absurd rfl hk
theorem markIs_kind {t:Tok} {s:ByteArray} (h:markIs t s=true):t.kind≠101:=by
 intro e
 simp [markIs,e] at h
theorem cells4 {w:World} {b:Nat} {c0 c1 c2 c3:Value} (g0:w.cell? ⟨b,0,none⟩=some c0) (g1:w.cell? ⟨b,1,none⟩=some c1) (g2:w.cell? ⟨b,2,none⟩=some c2) (g3:w.cell? ⟨b,3,none⟩=some c3) (u0 u1 u2 u3:Value):
 ((((w.setCell ⟨b,0,none⟩ u0).setCell ⟨b,1,none⟩ u1).setCell ⟨b,2,none⟩ u2).setCell ⟨b,3,none⟩ u3).cell? ⟨b,0,none⟩=some u0∧((((w.setCell ⟨b,0,none⟩ u0).setCell ⟨b,1,none⟩ u1).setCell ⟨b,2,none⟩ u2).setCell ⟨b,3,none⟩ u3).cell? ⟨b,1,none⟩=some u1∧
 ((((w.setCell ⟨b,0,none⟩ u0).setCell ⟨b,1,none⟩ u1).setCell ⟨b,2,none⟩ u2).setCell ⟨b,3,none⟩ u3).cell? ⟨b,2,none⟩=some u2∧((((w.setCell ⟨b,0,none⟩ u0).setCell ⟨b,1,none⟩ u1).setCell ⟨b,2,none⟩ u2).setCell ⟨b,3,none⟩ u3).cell? ⟨b,3,none⟩=some u3∧
 Since (fun k=>k=b) w ((((w.setCell ⟨b,0,none⟩ u0).setCell ⟨b,1,none⟩ u1).setCell ⟨b,2,none⟩ u2).setCell ⟨b,3,none⟩ u3):=by
 have ne: ∀ i j:Nat,i≠j→(⟨b,i,none⟩:Addr)≠⟨b,j,none⟩:=fun i j h e=>h (by injection e)
 have far: ∀ (w:World) (i j:Nat) (u:Value) (x:Option Value),i≠j→w.cell? ⟨b,i,none⟩=x→(w.setCell ⟨b,j,none⟩ u).cell? ⟨b,i,none⟩=x:=fun w i j u x h e=>(World.cell?_setCell_other _ _ _ _ (ne j i (Ne.symm h))).trans e
 have st: ∀ (w':World) (i:Nat) (u:Value),Since (fun k=>k=b) w w'→Since (fun k=>k=b) w (w'.setCell ⟨b,i,none⟩ u):=fun w' i u h=>h.trans (Since.setCell w' ⟨b,i,none⟩ u)
 refine ⟨?_,?_,?_,?_,st _ _ _ (st _ _ _ (st _ _ _ (st _ _ _ (Since.refl _ _))))⟩
 ·
  exact far _ _ _ _ _ (by decide) (far _ _ _ _ _ (by decide) (far _ _ _ _ _ (by decide) (World.cell?_setCell_same _ _ _ g0)))
 ·
  exact far _ _ _ _ _ (by decide) (far _ _ _ _ _ (by decide) (World.cell?_setCell_same _ _ _ (far _ _ _ _ _ (by decide) g1)))
 ·
  exact far _ _ _ _ _ (by decide) (World.cell?_setCell_same _ _ _ (far _ _ _ _ _ (by decide) (far _ _ _ _ _ (by decide) g2)))
 ·
  exact World.cell?_setCell_same _ _ _ (far _ _ _ _ _ (by decide) (far _ _ _ _ _ (by decide) (far _ _ _ _ _ (by decide) g3)))
theorem drop_tail {T:List Tok} (i:Nat):T.drop (i+1)=(T.drop i).tail:=by simp
end Go.Pst
namespace Go.Proofs.YtkopjgnjflhkeaaDoor
open Go.RowKit Go.Pst
set_option linter.unusedVariables false
set_option linter.unusedSimpArgs false
theorem tokS_eq {x y:ByteArray} (h:x=y):(x.toList==y.toList)=true:=(Go.Lib.bytes_beq_iff x y).2 h
theorem tokS_ne {x y:ByteArray} (h: ¬x=y):(x.toList==y.toList)=false:=(Go.Lib.bytes_beq_false_iff x y).2 h
variable {w:World} {br bT cap:Nat} {T:List Tok} {st:RSt}
theorem readWrong_any (h:RdAt w br bT cap T st) (p e:Int) (he:e≠0):
 Calls Tryd.prog 13 #[.pointer (some ⟨br,0,none⟩), .int .i64 p, .int .i64 e] w fun en w'=>en= .returned (.tuple #[])∧RdAt w' br bT cap T (st.bad p e)∧Since (fun k=>k=br) w w':=by
 have c2:=h.c2
 have c3:=h.c3
 have z:=h.z
 have H:=zh h
 clear h
 by_cases h0:st.fault=0
 ·
  rw [h0] at c3
  have H0:=zh h0
  clear h0
  go_enter Tryd.func13,Tryd.ntmps13
  go_wp2_with fail
  go_end0
  refine ⟨rfl,?_,(Since.setCell w ⟨br,2,none⟩ (.int .i64 p)).trans (Since.setCell _ ⟨br,3,none⟩ (.int .i64 e))⟩
  rw [RSt.bad,if_pos H0.out]
  have h1:=H.out.set 2 p {st with pos:=p} (by simp) (by simp) (by simp) (by simp) (by simp) H.out.inn
  exact h1.set 3 e {st with pos:=p,fault:=e} (by simp) (by simp) (by simp) (by simp) (by simp) (fun h=>absurd h he)
 ·
  have hb:(st.fault==0)=false:=by simpa using h0
  go_enter Tryd.func13,Tryd.ntmps13
  go_wp2_with fail
  go_end0
  exact ⟨rfl,by rw [RSt.bad,if_neg h0];exact H.out,Since.refl _ _⟩
theorem readPeek_any (h:RdAt w br bT cap T st):
 Calls Tryd.prog 11 #[.pointer (some ⟨br,0,none⟩)] w fun en w'=>en= .returned (.agg (tokC (seeR T st)).toArray)∧Since (fun _=>False) w w':=by
 have al: ∀ (o:Obj) (b k:Nat) (u:Value),b<w.heap.size→w.cell? ⟨b,k,none⟩=some u→(w.alloc o).cell? ⟨b,k,none⟩=some u:=fun o b k u hb e=>
  ((World.cell?_of_block (w:=w) (a:=⟨b,k,none⟩) (Below.heap_alloc _ _ _ hb))).trans e
 have a0:=fun o=>al o _ _ _ h.lt.1 h.c0
 have a1:=fun o=>al o _ _ _ h.lt.1 h.c1
 have hcap:=h.cap
 have hlen:=h.toks.len
 by_cases h0:st.fault=0
 ·
  have hi:=h.inn h0
  obtain ⟨t0,t1,t2,t3⟩:=h.tok st.i hi
  have Hs:=zh (seeR_get h0 hi)
  generalize T[st.i]=t at *
  have c3:=h.c3
  rw [h0] at c3
  have a3:=fun o=>al o _ _ _ h.lt.1 c3
  have b0:=fun o=>al o _ _ _ h.lt.2 t0
  have b1:=fun o=>al o _ _ _ h.lt.2 t1
  have b2:=fun o=>al o _ _ _ h.lt.2 t2
  have b3:=fun o=>al o _ _ _ h.lt.2 t3
  have hiI:(st.i:Int)<(T.length:Int):=by omega
  clear h h0 al c3 t0 t1 t2 t3
  go_enter Tryd.func11,Tryd.ntmps11
  go_wp2_with fail
  go_region
  all_goals go_wp2_with fail
  all_goals
   refine bodyPost_ret (v:= .agg #[.int .u8 t.kind, .string t.s, .int .i64 t.n, .int .i64 t.pos]) (by simp [results,Tryd.results11,go_sem]) rfl ⟨by rw [Hs.out];rfl,?_⟩
   exact (Since.alloc _ _ _).trans (Since.drew _ _)
 ·
  have hb:(st.fault==0)=false:=by simpa using h0
  have hb':(st.fault !=0)=true:=by simpa using h0
  have a3:=fun o=>al o _ _ _ h.lt.1 h.c3
  have Hs:=zh (seeR_bad (T:=T) h0)
  clear h al
  go_enter Tryd.func11,Tryd.ntmps11
  go_wp2_with fail
  refine bodyPost_ret (v:= .agg #[.int .u8 101, .string ⟨#[]⟩, .int .i64 0, .int .i64 0]) (by simp [results,Tryd.results11,go_sem]) rfl ⟨by rw [Hs.out];rfl,?_⟩
  exact Since.alloc _ _ _
theorem readNext_aux (h:RdAt w br bT cap T st) (t:Tok) (ht:seeR T st=t) (st':RSt) (hst:st'=if t.kind=101 then st else {st with i:=st.i+1}):
 Calls Tryd.prog 91 #[.pointer (some ⟨br,0,none⟩)] w fun en w'=>en= .returned (.agg (tokC t).toArray)∧RdAt w' br bT cap T st'∧Since (fun k=>k=br) w w':=by
 have hlen:=h.toks.len
 have hp:=fun (o:Obj)=>readPeek_any (h.later (Since.alloc (fun _=>False) w o))
 have hp':=fun (o:Obj)=>h.later (Since.alloc (fun _=>False) w o)
 rw [ht] at hp
 have hpar:t.kind≠101→st.fault=0∧(st.i:Int)<5000:=fun hk=>by
  have h0:=see_fault (T:=T) (st:=st) (by rw [ht];exact hk)
  have:=h.inn h0
  exact ⟨h0,by omega⟩
 have hl0:=h.lt
 have Ht:=zh ht
 have Hp:=zh hp
 have Hp':=zh hp'
 have Hst:=zh hst
 clear h hp hp' ht hst
 obtain ⟨tk,ts,tn,tp⟩:=t
 go_enter Tryd.func91,Tryd.ntmps91
 go_wp2_with fail
 refine (Hp.out _).mono ?_
 rintro en w1 ⟨rfl,hs1⟩
 have h1:=(Hp'.out _).later hs1
 have hb0:w1.heap[w.heap.size]?=some (.cells #[.int .u8 0, .string ⟨#[]⟩, .int .i64 0, .int .i64 0] 52 (0,0)):=(hs1.block w.heap.size (by simp) (fun f=>f)).trans (heap_alloc_new w _)
 have hlt0:w.heap.size<w1.heap.size:=(Array.getElem?_eq_some_iff.1 hb0).1
 have hne0:w.heap.size≠br:=by have:=hl0.1;omega
 have hneT:w.heap.size≠bT:=by have:=hl0.2;omega
 have Hs1:=zh ((Since.alloc (fun _=>False) w _).trans hs1)
 clear hs1
 have al: ∀ (o:Obj) (b k:Nat) (u:Value),b<w1.heap.size→w1.cell? ⟨b,k,none⟩=some u→(w1.alloc o).cell? ⟨b,k,none⟩=some u:=fun o b k u hb e=>
  ((World.cell?_of_block (w:=w1) (a:=⟨b,k,none⟩) (Below.heap_alloc _ _ _ hb))).trans e
 have af: ∀ (o:Obj) (b k:Nat),b<w1.heap.size→w1.frozen? ⟨b,k,none⟩=false→(w1.alloc o).frozen? ⟨b,k,none⟩=false:=fun o b k hb e=>
  (World.frozen?_of_block (w:=w1) (a:=⟨b,k,none⟩) (Below.heap_alloc _ _ _ hb)).trans e
 have c1:=fun o=>al o br 1 _ h1.lt.1 h1.c1
 have zf:=fun o:Obj=>af o br 1 h1.lt.1 (h1.z 1)
 have d0:=fun o=>al o w.heap.size 0 (.int .u8 0) hlt0 (by simp [World.cell?,hb0])
 have d1:=fun o=>al o w.heap.size 1 (.string ⟨#[]⟩) hlt0 (by simp [World.cell?,hb0])
 have d2:=fun o=>al o w.heap.size 2 (.int .i64 0) hlt0 (by simp [World.cell?,hb0])
 have d3:=fun o=>al o w.heap.size 3 (.int .i64 0) hlt0 (by simp [World.cell?,hb0])
 have zd:=fun (o:Obj) (j:Nat)=>af o w.heap.size j hlt0 (by simp [World.frozen?,hb0])
 have g0:=ca0 hb0
 have g1:=ca1 hb0
 have g2:=ca2 hb0
 have g3:=ca3 hb0
 have gz:=cz hb0
 have H1:=zh h1
 clear h1 al af hb0
 simp only [tokC]
 by_cases hk:tk=101
 ·
  have f1:(tk !=101)=false:=by simp [hk]
  have Hk:=zh hk
  clear hpar hk
  go_wp2_with fail
  obtain ⟨k0,k1,k2,k3,ks⟩:=cells4 g0 g1 g2 g3 (.int .u8 tk) (.string ts) (.int .i64 tn) (.int .i64 tp)
  generalize hW:(((w1.setCell ⟨w.heap.size,0,none⟩ (.int .u8 tk)).setCell ⟨w.heap.size,1,none⟩ (.string ts)).setCell ⟨w.heap.size,2,none⟩ (.int .i64 tn)).setCell ⟨w.heap.size,3,none⟩ (.int .i64 tp)=W at *
  have hltW:w.heap.size<W.heap.size:=Nat.lt_of_lt_of_le hlt0 ks.size
  have al: ∀ (o:Obj) (k:Nat) (u:Value),W.cell? ⟨w.heap.size,k,none⟩=some u→(W.alloc o).cell? ⟨w.heap.size,k,none⟩=some u:=fun o k u e=>
   ((World.cell?_of_block (w:=W) (a:=⟨w.heap.size,k,none⟩) (Below.heap_alloc _ _ _ hltW))).trans e
  have m0:=fun o=>al o 0 _ k0
  have m1:=fun o=>al o 1 _ k1
  have m2:=fun o=>al o 2 _ k2
  have m3:=fun o=>al o 3 _ k3
  refine bodyPost_ret (v:= .agg #[.int .u8 tk, .string ts, .int .i64 tn, .int .i64 tp]) (by simp [results,Tryd.results91,go_sem,m0,m1,m2,m3]) rfl ⟨rfl,?_,?_⟩
  ·
   rw [Hst.out,if_pos Hk.out]
   exact (H1.out.since ks (fun e=>hne0 e.symm) (fun e=>hneT e.symm)).later (Since.alloc _ _ _)
  ·
   exact ((Hs1.out.mono (fun _ f=>f.elim)).then_new ks (fun k e=>Or.inr (by omega))).trans (Since.alloc _ _ _)
 ·
  have f1:(tk !=101)=true:=by simp [hk]
  obtain ⟨p1,p2⟩:=hpar hk
  have P1:=zh p1
  have Hk:=zh hk
  clear hpar p1 hk
  go_wp2_with fail
  have e0: ∀ (o:Obj) (j:Nat) (u x:Value),(w1.alloc o).cell? ⟨w.heap.size,j,none⟩=some x→((w1.alloc o).setCell ⟨br,1,none⟩ u).cell? ⟨w.heap.size,j,none⟩=some x:=fun o j u x e=>
   (World.cell?_setCell_other _ _ _ _ (fun e=>hne0 (by injection e with e _ _;exact e.symm))).trans e
  obtain ⟨k0,k1,k2,k3,ks⟩:=cells4 (e0 (.cells #[.int .u8 tk, .string ts, .int .i64 tn, .int .i64 tp] 52) 0 (.int .i64 ((st.i:Int)+1)) _ (d0 _)) (e0 _ 1 _ _ (d1 _)) (e0 _ 2 _ _ (d2 _)) (e0 _ 3 _ _ (d3 _)) (.int .u8 tk) (.string ts) (.int .i64 tn) (.int .i64 tp)
  refine bodyPost_ret (v:= .agg #[.int .u8 tk, .string ts, .int .i64 tn, .int .i64 tp]) (by simp only [results,Tryd.results91];simp [go_sem,k0,k1,k2,k3]) rfl ⟨rfl,?_,?_⟩
  ·
   rw [Hst.out,if_neg Hk.out]
   exact ((H1.out.later (Since.alloc _ _ _)).step P1.out (by rw [Ht.out];exact Hk.out)).since ks (fun e=>hne0 e.symm) (fun e=>hneT e.symm)
  ·
   exact ((((Hs1.out.mono (fun _ f=>f.elim)).trans (Since.alloc _ _ _)).trans (Since.setCell _ ⟨br,1,none⟩ _))).then_new ks (fun k e=>Or.inr (by omega))
theorem readIs_aux (h:RdAt w br bT cap T st) (s:ByteArray) (t:Tok) (ht:seeR T st=t) (b:Bool) (hb:b=markIs t s) (st':RSt) (hst:st'=if b=true then {st with i:=st.i+1} else st):
 Calls Tryd.prog 26 #[.pointer (some ⟨br,0,none⟩), .string s] w fun en w'=>en= .returned (.bool b)∧RdAt w' br bT cap T st'∧Since (fun k=>k=br) w w':=by
 have hlen:=h.toks.len
 have H:=zh h
 have Hst:=zh hst
 have Hb:=zh hb
 have hp:=readPeek_any h
 rw [ht] at hp
 have hpar:t.kind≠101→st.fault=0∧(st.i:Int)<5000:=fun hk=>by
  have h0:=see_fault (T:=T) (st:=st) (by rw [ht];exact hk)
  have:=h.inn h0
  exact ⟨h0,by omega⟩
 have Ht:=zh ht
 have Hp:=zh hp
 clear h hst hb hp ht
 obtain ⟨tk,ts,tn,tp⟩:=t
 go_enter Tryd.func26,Tryd.ntmps26
 go_wp2_with fail
 refine Hp.out.mono ?_
 rintro en w1 ⟨rfl,hs1⟩
 have h1:=H.out.later hs1
 have Hs1:=zh hs1
 clear hs1
 have al: ∀ (o:Obj) (k:Nat) (u:Value),w1.cell? ⟨br,k,none⟩=some u→(w1.alloc o).cell? ⟨br,k,none⟩=some u:=fun o k u e=>
  ((World.cell?_of_block (w:=w1) (a:=⟨br,k,none⟩) (Below.heap_alloc _ _ _ h1.lt.1))).trans e
 have c1:=fun o=>al o 1 _ h1.c1
 have zf: ∀ o:Obj,(w1.alloc o).frozen? ⟨br,1,none⟩=false:=fun o=>(World.frozen?_of_block (w:=w1) (a:=⟨br,1,none⟩) (Below.heap_alloc _ _ _ h1.lt.1)).trans (h1.z 1)
 have H1:=zh h1
 clear h1 al
 simp only [tokC]
 by_cases e1:ts=s
 ·
  have f1:=tokS_eq e1
  by_cases e2:tk=109∨tk=119
  ·
   have hk:tk≠101:=by omega
   obtain ⟨p1,p2⟩:=hpar hk
   have P1:=zh p1
   have hb:markIs ⟨tk,ts,tn,tp⟩ s=true:=by rcases e2 with e|e<;>simp [markIs,e,e1]
   have Hbt:=zh hb
   clear hpar hb p1
   have E1:=zh e1
   clear e1
   by_cases e3:tk=109
   ·
    have E3:=zh e3
    have f3:(tk==109)=true:=by simp [e3]
    clear e3 e2
    go_wp2_with fail
    go_ret
    refine ⟨by rw [Hb.out,Hbt.out];rfl,?_,?_⟩
    ·
     rw [Hst.out,Hb.out,Hbt.out,if_pos rfl]
     first
      |exact (H1.out.later (Since.alloc _ _ _)).step P1.out (by rw [Ht.out];exact hk)
      |exact (H1.out.step P1.out (by rw [Ht.out];exact hk)).later (Since.alloc _ _ _)
    ·
     first
      |exact ((Hs1.out.mono (fun _ f=>f.elim)).trans (Since.alloc _ _ _)).trans (Since.setCell _ ⟨br,1,none⟩ _)
      |exact ((Hs1.out.mono (fun _ f=>f.elim)).trans (Since.setCell _ ⟨br,1,none⟩ _)).trans (Since.alloc _ _ _)
   ·
    have f3:(tk==109)=false:=by simp [e3]
    have f4:(tk==119)=true:=by
     have:tk=119:=by omega
     simp [this]
    clear e3 e2
    go_wp2_with fail
    go_ret
    refine ⟨by rw [Hb.out,Hbt.out];rfl,?_,?_⟩
    ·
     rw [Hst.out,Hb.out,Hbt.out,if_pos rfl]
     first
      |exact (H1.out.later (Since.alloc _ _ _)).step P1.out (by rw [Ht.out];exact hk)
      |exact (H1.out.step P1.out (by rw [Ht.out];exact hk)).later (Since.alloc _ _ _)
    ·
     first
      |exact ((Hs1.out.mono (fun _ f=>f.elim)).trans (Since.alloc _ _ _)).trans (Since.setCell _ ⟨br,1,none⟩ _)
      |exact ((Hs1.out.mono (fun _ f=>f.elim)).trans (Since.setCell _ ⟨br,1,none⟩ _)).trans (Since.alloc _ _ _)
  ·
   have e4: ¬tk=109:=by omega
   have e5: ¬tk=119:=by omega
   have f3:(tk==109)=false:=by simp;omega
   have f4:(tk==119)=false:=by simp;omega
   clear hpar
   go_wp2_with fail
   go_ret
   have Hbf:=zh (show markIs ⟨tk,ts,tn,tp⟩ s=false by simp only [markIs,e4,e5,decide_false,Bool.or_self,Bool.false_and])
   refine ⟨by rw [Hb.out,Hbf.out];rfl,?_,(Hs1.out.mono (fun _ f=>f.elim)).trans (Since.alloc _ _ _)⟩
   rw [Hst.out,Hb.out,Hbf.out,if_neg (by decide)]
   exact H1.out.later (Since.alloc _ _ _)
 ·
  have f1:=tokS_ne e1
  clear hpar
  go_wp2_with fail
  go_ret
  have Hbf:=zh (show markIs ⟨tk,ts,tn,tp⟩ s=false by simp only [markIs,e1,decide_false,Bool.and_false])
  refine ⟨by rw [Hb.out,Hbf.out];rfl,?_,(Hs1.out.mono (fun _ f=>f.elim)).trans (Since.alloc _ _ _)⟩
  rw [Hst.out,Hb.out,Hbf.out,if_neg (by decide)]
  exact H1.out.later (Since.alloc _ _ _)
end Go.Proofs.YtkopjgnjflhkeaaDoor
namespace Go.Pst
open Go.RowKit
set_option linter.unusedVariables false
def StrsL (w:World) (base:Nat) (a:Option Addr) (l:List ByteArray):Prop:=
 ∀ i (h:i<l.length),∃ b off,a=some ⟨b,off,none⟩∧b<base∧w.cell? ⟨b,off+i,none⟩=some (.string l[i])
theorem StrsL.since {w w':World} {base:Nat} {a:Option Addr} {l:List ByteArray} {F:Nat→Prop} (h:StrsL w base a l) (hs:Since F w w') (hF: ∀ k,F k→base≤k) (hb:base≤w.heap.size):StrsL w' base a l:=fun i hi=>by
 obtain ⟨b,off,ha,hlt,hc⟩:=h i hi
 exact ⟨b,off,ha,hlt,(hs.cell (by omega) (fun f=>by have:=hF _ f;omega)).trans hc⟩
def idxR (x:ByteArray):List ByteArray→Int→Int
 |[],_=> -1
 |y::r,k=>if y=x then k else idxR x r (k+1)
theorem idxR_ge (x:ByteArray): ∀ (l:List ByteArray) (k:Int),0≤k→decide (0≤idxR x l k)=inOps l x
 |[],k,h=>rfl
 |y::r,k,h=>by
  unfold idxR inOps
  rw [List.any_cons]
  by_cases e:y=x
  ·
   simp [e,h]
  ·
   rw [if_neg e,idxR_ge x r (k+1) (by omega)]
   simp [e,inOps]
def wordsR:List ByteArray:=wordsT.map fun l=>⟨l.toArray⟩
theorem inOps_wordsR (y:ByteArray):inOps wordsR y=wordsT.contains y.toList:=by
 unfold wordsR inOps
 rw [List.any_map,List.contains_eq_any_beq]
 congr 1
 funext l
 show decide ((⟨l.toArray⟩:ByteArray)=y)=(y.toList==l)
 by_cases e:(⟨l.toArray⟩:ByteArray)=y
 ·
  subst e
  simp [ByteArray.toList_mk]
 ·
  have: ¬y.toList=l:=fun h=>e (by rw [←h,ByteArray.toList_eq])
  simp [e,this]
end Go.Pst
namespace Go.Proofs.YtkopjgnjflhkeaaDoor
open Go.RowKit Go.Pst
set_option linter.unusedVariables false
set_option linter.unusedSimpArgs false
structure RdLaid (w:World) (base br:Nat):Prop where
 lb:base≤br∧base≤w.heap.size
 lt:0<base∧2<base∧6<base
 words: ∃ a cap,w.cell? ⟨2,0,none⟩=some (.slice a 22 cap)∧StrsL w base a wordsR
 marks: ∀ k (h:k<marksR.length),w.cell? ⟨0,k,none⟩=some (.string ⟨marksR[k].toArray⟩)
 levels: ∀ n (h:n<opsR.length),∃ a cap,w.cell? ⟨6,n,none⟩=some (.slice a opsR[n].length cap)∧StrsL w base a opsR[n]
theorem RdLaid.since {w w':World} {base br:Nat} {F:Nat→Prop} (h:RdLaid w base br) (hs:Since F w w') (hF: ∀ k,F k→base≤k):RdLaid w' base br:=by
 have hsz:=hs.size
 have hlb:=h.lb
 have hlt:=h.lt
 have hc: ∀ b o,b<base→w'.cell? ⟨b,o,none⟩=w.cell? ⟨b,o,none⟩:=fun b o hb=>hs.cell (by omega) (fun f=>by have:=hF _ f;omega)
 refine ⟨⟨hlb.1,by omega⟩,hlt,?_,fun k hk=>(hc _ _ hlt.1).trans (h.marks k hk),fun n hn=>?_⟩
 ·
  obtain ⟨a,cap,h1,h2⟩:=h.words
  exact ⟨a,cap,(hc _ _ hlt.2.1).trans h1,h2.since hs hF hlb.2⟩
 ·
  obtain ⟨a,cap,h1,h2⟩:=h.levels n hn
  exact ⟨a,cap,(hc _ _ hlt.2.2).trans h1,h2.since hs hF hlb.2⟩
theorem RdLaid.box {w w':World} {base br:Nat} (h:RdLaid w base br) (hs:Since (fun k=>k=br) w w'):RdLaid w' base br:=h.since hs (fun k e=>by have:=h.lb.1;omega)
theorem RdLaid.later {w w':World} {base br:Nat} (h:RdLaid w base br) (hs:Since (fun _=>False) w w'):RdLaid w' base br:=h.since hs (fun k e=>e.elim)
set_option maxHeartbeats 400000 in
theorem rdIndex_any (x:ByteArray) (a:Option Addr) (l:List ByteArray) (cap base:Nat) (w:World) (hl:l.length≤1000) (hat:StrsL w base a l):
 Calls Tryd.prog 60 #[.slice a l.length cap, .string x] w fun e w'=>e= .returned (.int .i64 (idxR x l 0))∧w=w':=by
 go_enter Tryd.func60,Tryd.ntmps60
 go_wp2
 go_loop [8] (fun i=> ∃ k:Nat,k≤l.length∧i= .int .i64 k∧idxR x l 0=idxR x (l.drop k) k) (fun i=>l.length - (intOf i).toNat)
 case atStart=>exact ⟨0,Nat.zero_le _,rfl,by simp⟩
 case round=>
  obtain ⟨k,hk,rfl,hf⟩:=hrel
  have Hf:=zh hf
  clear hf
  by_cases hlt:k<l.length
  ·
   obtain ⟨b,off,rfl,hb,hc⟩:=hat k hlt
   have hlt1:(k:Int)<(l.length:Int):=by omega
   have hd:l.drop k=l[k]::l.drop (k+1):=List.drop_eq_getElem_cons hlt
   have Hd:=zh hd
   clear hd hat
   generalize l[k]=y at *
   by_cases hxy:x=y
   ·
    have h1:=tokS_eq hxy
    have Hx:=zh hxy.symm
    clear hxy
    go_wp2
    go_ret
    exact ⟨by rw [Hf.out,Hd.out];simp [idxR,Hx.out],rfl⟩
   ·
    have h1:=tokS_ne hxy
    have Hx:=zh (fun e:y=x=>hxy e.symm)
    clear hxy
    go_wp2
    go_round
    case rel=>exact ⟨k+1,by omega,by go_num,by rw [Hf.out,Hd.out];show (if y=x then (k:Int) else idxR x _ ((k:Int)+1))=_;rw [if_neg Hx.out];simp⟩
    case measure=>simp [intOf];omega
  ·
   have hke:k=l.length:=by omega
   subst hke
   go_wp2
   go_ret
   exact ⟨by rw [Hf.out];simp [idxR],rfl⟩
theorem rdContains_any (x:ByteArray) (a:Option Addr) (l:List ByteArray) (cap base:Nat) (w:World) (hl:l.length≤1000) (hat:StrsL w base a l):
 Calls Tryd.prog 46 #[.slice a l.length cap, .string x] w fun e w'=>e= .returned (.bool (inOps l x))∧w=w':=by
 have Hg:=zh (idxR_ge x l 0 (Int.le_refl _))
 go_enter Tryd.func46,Tryd.ntmps46
 go_wp2_with fail
 refine (rdIndex_any _ _ _ _ _ _ hl hat).mono ?_
 rintro e w' ⟨rfl,rfl⟩
 go_wp2_with fail
 go_ret
 exact ⟨by rw [←Hg.out];rfl,rfl⟩
end Go.Proofs.YtkopjgnjflhkeaaDoor
namespace Go.Proofs.YtkopjgnjflhkeaaDoor
open Go.RowKit Go.Pst
set_option linter.unusedVariables false
set_option linter.unusedSimpArgs false
variable {w:World} {br bT cap base:Nat} {T:List Tok} {st:RSt}
theorem bad_id {st:RSt} (h:st.fault≠0) (p e:Int):st.bad p e=st:=by rw [RSt.bad,if_neg h]
theorem readMust_aux (h:RdAt w br bT cap T st) (s:ByteArray) (t:Tok) (ht:seeR T st=t) (st':RSt) (hst:st'=if t.kind=101 then st.bad t.pos 5 else if markIs t s=true then {st with i:=st.i+1} else st.bad t.pos 4):
 Calls Tryd.prog 24 #[.pointer (some ⟨br,0,none⟩), .string s] w fun en w'=>en= .returned (.tuple #[])∧RdAt w' br bT cap T st'∧Since (fun k=>k=br) w w':=by
 have hlen:=h.toks.len
 have H:=zh h
 have Hst:=zh hst
 have hp:=readPeek_any h
 rw [ht] at hp
 have hpar:t.kind≠101→st.fault=0∧(st.i:Int)<5000:=fun hk=>by
  have h0:=see_fault (T:=T) (st:=st) (by rw [ht];exact hk)
  have:=h.inn h0
  exact ⟨h0,by omega⟩
 have Ht:=zh ht
 have Hp:=zh hp
 clear h hst hp ht
 obtain ⟨tk,ts,tn,tp⟩:=t
 go_enter Tryd.func24,Tryd.ntmps24
 go_wp2_with fail
 refine Hp.out.mono ?_
 rintro en w1 ⟨rfl,hs1⟩
 have h1:=H.out.later hs1
 have Hs1:=zh hs1
 clear hs1
 have al: ∀ (o:Obj) (k:Nat) (u:Value),w1.cell? ⟨br,k,none⟩=some u→(w1.alloc o).cell? ⟨br,k,none⟩=some u:=fun o k u e=>
  ((World.cell?_of_block (w:=w1) (a:=⟨br,k,none⟩) (Below.heap_alloc _ _ _ h1.lt.1))).trans e
 have c1:=fun o=>al o 1 _ h1.c1
 have zf: ∀ o:Obj,(w1.alloc o).frozen? ⟨br,1,none⟩=false:=fun o=>(World.frozen?_of_block (w:=w1) (a:=⟨br,1,none⟩) (Below.heap_alloc _ _ _ h1.lt.1)).trans (h1.z 1)
 have H1:=zh h1
 have Hw:=zh (fun (o:Obj) (p e:Int) (he:e≠0)=>readWrong_any (h1.later (Since.alloc (fun _=>False) w1 o)) p e he)
 clear h1 al
 simp only [tokC]
 by_cases hk:tk=101
 ·
  have f1:(tk==101)=true:=by simp [hk]
  have Hk:=zh hk
  clear hpar hk
  go_wp2_with fail
  refine (Hw.out _ tp 5 (by decide)).mono ?_
  rintro en w2 ⟨rfl,h2,hs2⟩
  have H2:=zh h2
  have Hs2:=zh hs2
  clear h2 hs2
  go_wp2_with fail
  go_end0
  refine ⟨rfl,by rw [Hst.out,if_pos Hk.out];exact H2.out,((Hs1.out.mono (fun _ f=>f.elim)).trans (Since.alloc _ _ _)).trans Hs2.out⟩
 have f1:(tk==101)=false:=by simp [hk]
 obtain ⟨p1,p2⟩:=hpar hk
 have P1:=zh p1
 have Hk:=zh hk
 clear hpar p1
 by_cases hm:markIs ⟨tk,ts,tn,tp⟩ s=true
 ·
  have Hm:=zh hm
  have e1:ts=s:=by simp [markIs] at hm;exact hm.2
  have e2:tk=109∨tk=119:=by simp [markIs] at hm;exact hm.1
  have f2:(ts.toList !=s.toList)=false:=by simp [bne,tokS_eq e1]
  have f2':=tokS_eq e1
  clear hm
  have E1:=zh e1
  clear e1 hk
  by_cases e3:tk=109
  ·
   have f3:(tk !=109)=false:=by simp [e3]
   clear e2 e3
   go_wp2_with fail
   go_end0
   refine ⟨rfl,?_,?_⟩
   ·
    rw [Hst.out,if_neg Hk.out,if_pos Hm.out]
    first
     |exact (H1.out.later (Since.alloc _ _ _)).step P1.out (by rw [Ht.out];exact Hk.out)
     |exact (H1.out.step P1.out (by rw [Ht.out];exact Hk.out)).later (Since.alloc _ _ _)
   ·
    first
     |exact ((Hs1.out.mono (fun _ f=>f.elim)).trans (Since.alloc _ _ _)).trans (Since.setCell _ ⟨br,1,none⟩ _)
     |exact ((Hs1.out.mono (fun _ f=>f.elim)).trans (Since.setCell _ ⟨br,1,none⟩ _)).trans (Since.alloc _ _ _)
  ·
   have f3:(tk !=109)=true:=by simp [e3]
   have f4:(tk !=119)=false:=by
    have:tk=119:=by omega
    simp [this]
   clear e2 e3
   go_wp2_with fail
   go_end0
   refine ⟨rfl,?_,?_⟩
   ·
    rw [Hst.out,if_neg Hk.out,if_pos Hm.out]
    first
     |exact (H1.out.later (Since.alloc _ _ _)).step P1.out (by rw [Ht.out];exact Hk.out)
     |exact (H1.out.step P1.out (by rw [Ht.out];exact Hk.out)).later (Since.alloc _ _ _)
   ·
    first
     |exact ((Hs1.out.mono (fun _ f=>f.elim)).trans (Since.alloc _ _ _)).trans (Since.setCell _ ⟨br,1,none⟩ _)
     |exact ((Hs1.out.mono (fun _ f=>f.elim)).trans (Since.setCell _ ⟨br,1,none⟩ _)).trans (Since.alloc _ _ _)
 ·
  have Hm:=zh hm
  have bad: ∀ (o:Obj) (w2:World),RdAt w2 br bT cap T (st.bad tp 4)→Since (fun k=>k=br) (w1.alloc o) w2→RdAt w2 br bT cap T st'∧Since (fun k=>k=br) w w2:=fun o w2 h2 hs2=>
   ⟨by rw [Hst.out,if_neg Hk.out,if_neg Hm.out];exact h2,((Hs1.out.mono (fun _ f=>f.elim)).trans (Since.alloc _ _ _)).trans hs2⟩
  have Bad:=zh bad
  clear bad
  by_cases e1:ts=s
  ·
   have e2: ¬tk=109:=fun e=>hm (by simp [markIs,e,e1])
   have e3: ¬tk=119:=fun e=>hm (by simp [markIs,e,e1])
   have f2:(ts.toList !=s.toList)=false:=by simp [bne,tokS_eq e1]
   have f2':=tokS_eq e1
   have f3:(tk !=109)=true:=by simp [e2]
   have f4:(tk !=119)=true:=by simp [e3]
   clear hm e1 e2 e3 hk
   go_wp2_with fail
   refine (Hw.out _ tp 4 (by decide)).mono ?_
   rintro en w2 ⟨rfl,h2,hs2⟩
   have H2:=zh (Bad.out _ w2 h2 hs2)
   clear h2 hs2
   go_wp2_with fail
   go_end0
   exact ⟨rfl,H2.out⟩
  ·
   have f2:(ts.toList !=s.toList)=true:=by simp [bne,tokS_ne e1]
   have f2':=tokS_ne e1
   clear hm e1 hk
   go_wp2_with fail
   refine (Hw.out _ tp 4 (by decide)).mono ?_
   rintro en w2 ⟨rfl,h2,hs2⟩
   have H2:=zh (Bad.out _ w2 h2 hs2)
   clear h2 hs2
   go_wp2_with fail
   go_end0
   exact ⟨rfl,H2.out⟩
set_option maxRecDepth 4000 in
theorem readName_aux (h:RdAt w br bT cap T st) (hL:RdLaid w base br) (t:Tok) (ht:seeR T st=t) (wd:Bool) (hwd:inOps wordsR t.s=wd) (st':RSt) (hst:st'=if t.kind=101 then st.bad t.pos 5 else if t.kind≠119∨wd=true then st.bad t.pos 4 else {st with i:=st.i+1}):
 Calls Tryd.prog 25 #[.pointer (some ⟨br,0,none⟩)] w fun en w'=>en= .returned (.string t.s)∧RdAt w' br bT cap T st'∧Since (fun k=>k=br) w w':=by
 have hlen:=h.toks.len
 have H:=zh h
 have Hst:=zh hst
 have HL:=zh hL
 have hp:=readPeek_any h
 rw [ht] at hp
 have hpar:t.kind≠101→st.fault=0∧(st.i:Int)<5000:=fun hk=>by
  have h0:=see_fault (T:=T) (st:=st) (by rw [ht];exact hk)
  have:=h.inn h0
  exact ⟨h0,by omega⟩
 have Ht:=zh ht
 have Hp:=zh hp
 clear h hst hp ht hL
 obtain ⟨tk,ts,tn,tp⟩:=t
 go_enter Tryd.func25,Tryd.ntmps25
 go_wp2_with fail
 refine Hp.out.mono ?_
 rintro en w1 ⟨rfl,hs1⟩
 have h1:=H.out.later hs1
 have hL1:=HL.out.later hs1
 have Hs1:=zh hs1
 clear hs1
 have al: ∀ (o:Obj) (b k:Nat) (u:Value),b<w1.heap.size→w1.cell? ⟨b,k,none⟩=some u→(w1.alloc o).cell? ⟨b,k,none⟩=some u:=fun o b k u hb e=>
  ((World.cell?_of_block (w:=w1) (a:=⟨b,k,none⟩) (Below.heap_alloc _ _ _ hb))).trans e
 have c1:=fun o=>al o br 1 _ h1.lt.1 h1.c1
 have zf: ∀ o:Obj,(w1.alloc o).frozen? ⟨br,1,none⟩=false:=fun o=>(World.frozen?_of_block (w:=w1) (a:=⟨br,1,none⟩) (Below.heap_alloc _ _ _ h1.lt.1)).trans (h1.z 1)
 obtain ⟨aw,cw,hw1,hw2⟩:=hL1.words
 have ck:=fun o=>al o 2 0 _ (by have:=hL1.lt.2.1;have:=hL1.lb.2;omega) hw1
 have hcont:=fun (o:Obj)=>rdContains_any ts aw wordsR cw base (w1.alloc o) (by decide) (hw2.since (Since.alloc (fun _=>False) w1 o) (fun k f=>f.elim) hL1.lb.2)
 rw [show inOps wordsR ts=wd from hwd] at hcont
 have Hcont:=zh hcont
 clear hwd
 have H1:=zh h1
 have Hw:=zh (fun (o:Obj) (p e:Int) (he:e≠0)=>readWrong_any (h1.later (Since.alloc (fun _=>False) w1 o)) p e he)
 have bad: ∀ (w2:World) (e:Int),st'=st.bad tp e→RdAt w2 br bT cap T (st.bad tp e)→Since (fun k=>k=br) (w1.alloc (.cells #[.int .u8 tk, .string ts, .int .i64 tn, .int .i64 tp] 52)) w2→RdAt w2 br bT cap T st'∧Since (fun k=>k=br) w w2∧w2.cell? ⟨w1.heap.size,1,none⟩=some (.string ts):=fun w2 e he h2 hs2=>
  ⟨by rw [he];exact h2,((Hs1.out.mono (fun _ f=>f.elim)).trans (Since.alloc _ _ _)).trans hs2,(hs2.cell (by simp) (by have:=h1.lt.1;omega)).trans (by rw [box_cell (Below.refl _ _)];rfl)⟩
 have Bad:=zh bad
 clear h1 al hL1 hw1 hw2 hcont bad
 simp only [tokC]
 by_cases hk:tk=101
 ·
  have f1:(tk==101)=true:=by simp [hk]
  have Hk:=zh hk
  clear hpar hk
  go_wp2_with fail
  refine (Hw.out _ tp 5 (by decide)).mono ?_
  rintro en w2 ⟨rfl,h2,hs2⟩
  have H2:=zh (Bad.out w2 5 (by rw [Hst.out,if_pos Hk.out]) h2 hs2)
  clear h2 hs2
  have hx:=H2.out.2.2
  go_wp2_with fail
  go_ret
  exact ⟨rfl,H2.out.1,H2.out.2.1⟩
 have f1:(tk==101)=false:=by simp [hk]
 obtain ⟨p1,p2⟩:=hpar hk
 have P1:=zh p1
 have Hk:=zh hk
 clear hpar p1 hk
 by_cases h9:tk=119
 ·
  have f2:(tk !=119)=false:=by simp [h9]
  have H9:=zh h9
  clear h9
  go_wp2_with fail
  refine (Hcont.out _).mono ?_
  rintro en w2 ⟨rfl,rfl⟩
  cases wd with
  |true=>
   go_wp2_with fail
   refine (Hw.out _ tp 4 (by decide)).mono ?_
   rintro en w2 ⟨rfl,h2,hs2⟩
   have H2:=zh (Bad.out w2 4 (by rw [Hst.out,if_neg Hk.out];simp) h2 hs2)
   clear h2 hs2
   have hx:=H2.out.2.2
   go_wp2_with fail
   go_ret
   exact ⟨rfl,H2.out.1,H2.out.2.1⟩
  |false=>
   have He:=zh (show st'={st with i:=st.i+1} by rw [Hst.out,if_neg Hk.out,if_neg (fun e=>e.elim (fun e=>e H9.out) (fun e=>by cases e))])
   have hne1:br≠w1.heap.size:=by have:=H1.out.lt.1;omega
   have hne2:w1.heap.size≠br:=fun e=>hne1 e.symm
   clear Hst Bad Hw HL
   go_wp2_with fail
   go_ret
   refine ⟨rfl,?_,?_⟩
   ·
    rw [He.out]
    first
     |exact (H1.out.later (Since.alloc _ _ _)).step P1.out (by rw [Ht.out];exact Hk.out)
     |exact (H1.out.step P1.out (by rw [Ht.out];exact Hk.out)).later (Since.alloc _ _ _)
   ·
    first
     |exact ((Hs1.out.mono (fun _ f=>f.elim)).trans (Since.alloc _ _ _)).trans (Since.setCell _ ⟨br,1,none⟩ _)
     |exact ((Hs1.out.mono (fun _ f=>f.elim)).trans (Since.setCell _ ⟨br,1,none⟩ _)).trans (Since.alloc _ _ _)
 ·
  have f2:(tk !=119)=true:=by simp [h9]
  have H9:=zh h9
  clear h9
  go_wp2_with fail
  refine (Hw.out _ tp 4 (by decide)).mono ?_
  rintro en w2 ⟨rfl,h2,hs2⟩
  have H2:=zh (Bad.out w2 4 (by rw [Hst.out,if_neg Hk.out,if_pos (Or.inl H9.out)]) h2 hs2)
  clear h2 hs2
  have hx:=H2.out.2.2
  go_wp2_with fail
  go_ret
  exact ⟨rfl,H2.out.1,H2.out.2.1⟩
set_option maxRecDepth 4000 in
theorem readDeeper_aux (h:RdAt w br bT cap T st) (t:Tok) (ht:seeR T st=t) (st':RSt) (hst:st'=if 30<wrap64 (st.depth+1) then ({st with depth:=wrap64 (st.depth+1)}:RSt).bad t.pos 8 else {st with depth:=wrap64 (st.depth+1)}):
 Calls Tryd.prog 47 #[.pointer (some ⟨br,0,none⟩)] w fun en w'=>en= .returned (.bool (st'.fault==0))∧RdAt w' br bT cap T st'∧Since (fun k=>k=br) w w':=by
 have hfd: ∀ (a c d:Int) (b:ByteArray) (w:World),(Instr.field 52 (.agg #[.int .u8 a, .string b, .int .i64 c, .int .i64 d]) 3).run Tryd.prog w= .ok (.int .i64 d) w:=fun _ _ _ _ _=>by kernel_rfl
 have c4:=h.c4
 have c3:=h.c3
 have z:=h.z
 have hset:RdAt (w.setCell ⟨br,4,none⟩ (.int .i64 (wrap64 (st.depth+1)))) br bT cap T {st with depth:=wrap64 (st.depth+1)}:=h.set 4 _ _ (by simp) (by simp) (by simp) (by simp) (by simp) h.inn
 have hs0:=Since.setCell w ⟨br,4,none⟩ (.int .i64 (wrap64 (st.depth+1)))
 have hp:=readPeek_any hset
 rw [show seeR T {st with depth:=wrap64 (st.depth+1)}=t from ht] at hp
 have Hset:=zh hset
 have Hs0:=zh hs0
 have Hp:=zh hp
 have Hst:=zh hst
 clear h hset hs0 hst ht hp
 obtain ⟨tk,ts,tn,tp⟩:=t
 by_cases hbig:30<wrap64 (st.depth+1)
 ·
  have Hbig:=zh hbig
  go_enter Tryd.func47,Tryd.ntmps47
  go_wp2_with fail
  refine Hp.out.mono ?_
  rintro en w1 ⟨rfl,hs1⟩
  have Hs1:=zh hs1
  have Hw:=zh (readWrong_any (Hset.out.later hs1) tp 8 (by decide))
  clear hs1
  simp only [tokC]
  go_wp2_with fail
  refine Hw.out.mono ?_
  rintro en w2 ⟨rfl,h2,hs2⟩
  have d3:=h2.c3
  have H2:=zh (show RdAt w2 br bT cap T st' by rw [Hst.out,if_pos Hbig.out];exact h2)
  have Hf:=zh (show st'.fault=(({st with depth:=wrap64 (st.depth+1)}:RSt).bad tp 8).fault by rw [Hst.out,if_pos Hbig.out])
  have Hs2:=zh hs2
  clear h2 hs2
  go_wp2_with fail
  go_ret
  exact ⟨by rw [Hf.out];rfl,H2.out,(Hs0.out.trans (Hs1.out.mono (fun _ f=>f.elim))).trans Hs2.out⟩
 ·
  have Hbig:=zh hbig
  go_enter Tryd.func47,Tryd.ntmps47
  go_wp2_with fail
  go_ret
  exact ⟨by rw [Hst.out,if_neg (Int.not_lt.2 Hbig.out)];rfl,by rw [Hst.out,if_neg (Int.not_lt.2 Hbig.out)];exact Hset.out,Hs0.out⟩
end Go.Proofs.YtkopjgnjflhkeaaDoor
namespace Go.Proofs.YtkopjgnjflhkeaaDoor
open Go.RowKit Go.Pst
set_option linter.unusedVariables false
set_option linter.unusedSimpArgs false
variable {w:World} {br bT cap base:Nat} {T:List Tok} {st:RSt} {dep:Int}
theorem tail_of {T:List Tok} {i:Nat} {r:List Tok} (h:T.drop i=r):T.drop (i+1)=r.tail:=by rw [←h];simp
theorem readIs_any (h:RdAt w br bT cap T st) (hd:st.fault=0→st.depth=dep) (s:ByteArray):
 Calls Tryd.prog 26 #[.pointer (some ⟨br,0,none⟩), .string s] w fun en w'=> ∃ (b:Bool) (st':RSt),en= .returned (.bool b)∧RdAt w' br bT cap T st'∧Since (fun k=>k=br) w w'∧Good' T dep (runR T (isR s) st) b st'∧(st.fault=0→st'.fault=0)∧(b=true→st.fault=0∧st'.i=st.i+1)∧(b=false→st'=st):=by
 refine (readIs_aux h s _ rfl _ rfl _ rfl).mono ?_
 rintro en w' ⟨rfl,h1,h2⟩
 refine ⟨_,_,rfl,h1,h2,?_,?_,?_,?_⟩
 ·
  by_cases h0:st.fault=0
  ·
   rw [runR_ok h0]
   unfold isR
   rw [←seeR_head h0]
   by_cases hm:markIs (seeR T st) s=true
   ·
    rw [if_pos hm,if_pos hm];exact ⟨hm,h0,hd h0,tail_of rfl⟩
   ·
    rw [if_neg hm,if_neg hm];exact ⟨by simpa using hm,h0,hd h0,rfl⟩
  ·
   rw [runR_bad h0]
   have hm: ¬markIs (seeR T st) s=true:=by rw [seeR_bad h0];simp [markIs,endTok]
   rw [if_neg hm]
   exact ⟨rfl,rfl,h0⟩
 ·
  intro h0;split<;>exact h0
 ·
  intro hb
  rw [if_pos hb]
  exact ⟨see_fault (markIs_kind hb),rfl⟩
 ·
  intro hb
  rw [if_neg (by rw [hb];decide)]
theorem readMust_any (h:RdAt w br bT cap T st) (hd:st.fault=0→st.depth=dep) (s:ByteArray):
 Calls Tryd.prog 24 #[.pointer (some ⟨br,0,none⟩), .string s] w fun en w'=> ∃ (st':RSt),en= .returned (.tuple #[])∧RdAt w' br bT cap T st'∧Since (fun k=>k=br) w w'∧Good' T dep (runR T (mustR s) st) () st':=by
 refine (readMust_aux h s _ rfl _ rfl).mono ?_
 rintro en w' ⟨rfl,h1,h2⟩
 refine ⟨_,rfl,h1,h2,?_⟩
 by_cases h0:st.fault=0
 ·
  rw [runR_ok h0]
  unfold mustR
  rw [←seeR_head h0]
  by_cases hk:(seeR T st).kind=101
  ·
   rw [if_pos hk,if_pos hk,RSt.bad,if_pos h0];exact ⟨rfl,rfl,by decide⟩
  ·
   rw [if_neg hk,if_neg hk]
   by_cases hm:markIs (seeR T st) s=true
   ·
    rw [if_pos hm,if_pos hm];exact ⟨rfl,h0,hd h0,tail_of rfl⟩
   ·
    rw [if_neg hm,if_neg hm,RSt.bad,if_pos h0];exact ⟨rfl,rfl,by decide⟩
 ·
  rw [runR_bad h0,if_pos (by rw [seeR_bad h0];rfl),bad_id h0]
  exact ⟨rfl,rfl,h0⟩
theorem seeR_size {T:List Tok} {st:RSt} (hT:Toks T) (hi:st.fault=0→st.i<T.length):(seeR T st).s.size≤maxLen∧InI (seeR T st).n∧InI (seeR T st).pos∧(seeR T st).n≤1099511627776∧0≤(seeR T st).n:=by
 by_cases h0:st.fault=0
 ·
  rw [seeR_get h0 (hi h0)]
  exact hT.fit _ (hi h0)
 ·
  rw [seeR_bad h0];exact ⟨by decide,⟨by decide,by decide⟩,⟨by decide,by decide⟩,by decide,by decide⟩
theorem readName_any (h:RdAt w br bT cap T st) (hL:RdLaid w base br) (hd:st.fault=0→st.depth=dep):
 Calls Tryd.prog 25 #[.pointer (some ⟨br,0,none⟩)] w fun en w'=> ∃ (s:ByteArray) (st':RSt),en= .returned (.string s)∧s.size≤maxLen∧RdAt w' br bT cap T st'∧Since (fun k=>k=br) w w'∧Good' T dep (runR T nameR st) s st':=by
 refine (readName_aux h hL _ rfl _ rfl _ rfl).mono ?_
 rintro en w' ⟨rfl,h1,h2⟩
 refine ⟨_,_,rfl,(seeR_size h.toks h.inn).1,h1,h2,?_⟩
 rw [inOps_wordsR]
 by_cases h0:st.fault=0
 ·
  rw [runR_ok h0]
  unfold nameR
  rw [←seeR_head h0]
  by_cases hk:(seeR T st).kind=101
  ·
   rw [if_pos hk,if_pos hk,RSt.bad,if_pos h0];exact ⟨rfl,rfl,by decide⟩
  ·
   rw [if_neg hk,if_neg hk]
   by_cases hm:(seeR T st).kind≠119∨wordsT.contains (seeR T st).s.toList=true
   ·
    rw [if_pos hm,if_pos hm,RSt.bad,if_pos h0];exact ⟨rfl,rfl,by decide⟩
   ·
    rw [if_neg hm,if_neg hm];exact ⟨rfl,h0,hd h0,tail_of rfl⟩
 ·
  rw [runR_bad h0,if_pos (by rw [seeR_bad h0];rfl),bad_id h0]
  exact ⟨rfl,rfl,h0⟩
theorem readDeeper_any (h:RdAt w br bT cap T st) (d:Nat) (hd:st.fault=0→st.depth=30 - (d:Int)) (hd30:d≤30):
 Calls Tryd.prog 47 #[.pointer (some ⟨br,0,none⟩)] w fun en w'=> ∃ (st':RSt),en= .returned (.bool (st'.fault==0))∧RdAt w' br bT cap T st'∧Since (fun k=>k=br) w w'∧Good' T (31 - (d:Int)) (runR T (deepR d) st) () st':=by
 refine (readDeeper_aux h _ rfl _ rfl).mono ?_
 rintro en w' ⟨rfl,h1,h2⟩
 refine ⟨_,rfl,h1,h2,?_⟩
 by_cases h0:st.fault=0
 ·
  have hdp:=hd h0
  rw [runR_ok h0]
  unfold deepR
  rw [←seeR_head h0]
  have hw:wrap64 (st.depth+1)=31 - (d:Int):=by rw [hdp];unfold wrap64;omega
  rw [hw]
  by_cases hz:d=0
  ·
   rw [if_pos hz,if_pos (by omega),RSt.bad,if_pos h0];exact ⟨rfl,rfl,by decide⟩
  ·
   rw [if_neg hz,if_neg (by omega)];exact ⟨rfl,h0,rfl,rfl⟩
 ·
  rw [runR_bad h0]
  split
  ·
   rw [bad_id (by exact h0)];exact ⟨rfl,rfl,h0⟩
  ·
   exact ⟨rfl,rfl,h0⟩
end Go.Proofs.YtkopjgnjflhkeaaDoor

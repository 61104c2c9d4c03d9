import Derived.Test.YtkopjgnjflhkeaaDoorTD
import Derived.Test.YtkopjgnjflhkeaaDoorTZF
import Derived.Deep.CutBlock
import Derived.Deep.CutRange
namespace Go.Pst
open Go.RowKit
set_option linter.unusedVariables false
def TokOK (t:Tok):Prop:=t.kind≠101∧t.s.size≤maxLen∧InI t.n∧InI t.pos∧t.n≤1099511627776∧0≤t.n
theorem tokOK_mk {k n i:Int} {s:ByteArray} (hk:k≠101) (hs:s.size≤maxLen) (hn:0≤n∧n≤1099511627776) (hi:0≤i∧i≤4000):TokOK ⟨k,s,n,i⟩:=
 ⟨hk,hs,⟨by show _≤n;omega,by show n≤_;omega⟩,⟨by show _≤i;omega,by show i≤_;omega⟩,hn.2,hn.1⟩
theorem textR_err: ∀ (l acc:List UInt8) (k:Nat) (x:Int),textR l acc k= .error x→x=4∨x=5
 |[],acc,k,x,h=>by
  unfold textR at h
  injection h with h
  exact Or.inr h.symm
 |c::r,acc,k,x,h=>by
  rw [textR.eq_def] at h
  dsimp only at h
  split at h
  ·
   cases h
  ·
   split at h
   ·
    match r,h with
    |[],h=>injection h with h;exact Or.inr h.symm
    |b::r',h=>
     dsimp only at h
     split at h
     ·
      exact textR_err r' _ _ _ h
     ·
      split at h
      ·
       exact textR_err r' _ _ _ h
      ·
       injection h with h;exact Or.inl h.symm
   ·
    split at h
    ·
     injection h with h;exact Or.inl h.symm
    ·
     exact textR_err r _ _ _ h
theorem textR_len: ∀ (l acc:List UInt8) (k:Nat) (t:List UInt8) (m:Nat),textR l acc k= .ok (t,m)→m≤k+l.length∧t.length≤acc.length+l.length
 |[],acc,k,t,m,h=>by
  unfold textR at h
  cases h
 |c::r,acc,k,t,m,h=>by
  rw [textR.eq_def] at h
  dsimp only at h
  split at h
  ·
   injection h with h
   injection h with h1 h2
   subst h1 h2
   exact ⟨by simp<;>omega,by simp⟩
  ·
   split at h
   ·
    match r,h with
    |[],h=>cases h
    |b::r',h=>
     dsimp only at h
     split at h
     ·
      have:=textR_len r' _ _ _ _ h
      simp at this ⊢
      omega
     ·
      split at h
      ·
       have:=textR_len r' _ _ _ _ h
       simp at this ⊢
       omega
      ·
       cases h
   ·
    split at h
    ·
     cases h
    ·
     have:=textR_len r _ _ _ _ h
     simp at this ⊢
     omega
def rTok:Rep Tok:=fun _ _ cs t=>cs=tokC t
theorem rTok_all (S:Nat→Prop) (w:World): ∀ (T:List Tok),rAll 4 rTok S w (T.map tokC) T
 |[]=>trivial
 |t::r=>⟨⟨rfl,rfl⟩,rTok_all S w r⟩
theorem own_toks {w:World} {b:Nat} {e:TypeId} {T:List Tok} {g cap:Nat} (h:w.ownsRow b e 4 (.slice (some ⟨g,0,none⟩) T.length cap) T.length (T.map tokC).flatten):
 T.length≤cap∧ ∀ i (hi:i<T.length),w.cell? ⟨g,i*4,none⟩=some (.int .u8 T[i].kind)∧w.cell? ⟨g,i*4+1,none⟩=some (.string T[i].s)∧w.cell? ⟨g,i*4+2,none⟩=some (.int .i64 T[i].n)∧w.cell? ⟨g,i*4+3,none⟩=some (.int .i64 T[i].pos):=by
 have hr:=rSlice_ownN (R:=rTok) (T:=fun _=>True) (S:=fun _=>True) h (fun _ _=>trivial) (rTok_all _ w T)
 obtain ⟨a,c,h1,h2,h3,h4⟩:=rSlice_val hr
 injection h1 with h5 h6 h7
 subst h5 h7
 refine ⟨h2,fun i hi=>?_⟩
 obtain ⟨b',off,es,ha,-,-,-,hc,he⟩:=h4 i hi
 injection ha with ha
 injection ha with ha1 ha2
 subst ha1 ha2
 have he':es=tokC T[i]:=he
 subst he'
 have c0:=hc 0 (by decide)
 have c1:=hc 1 (by decide)
 have c2:=hc 2 (by decide)
 have c3:=hc 3 (by decide)
 simp [tokC] at c0 c1 c2 c3
 exact ⟨c0,c1,c2,c3⟩
theorem toks_of {acc:List Tok} {i:Nat} (h: ∀ t∈acc,TokOK t) (hl:acc.length≤4000) (hi:i≤4000):Toks (acc++[⟨101,⟨#[]⟩,0,(i:Int)⟩]):=by
 refine ⟨by simp,by simp;omega,fun j hj=>?_,fun j hj=>?_⟩
 ·
  by_cases e:j<acc.length
  ·
   rw [List.getElem_append_left e]
   have:=(h _ (List.getElem_mem e)).1
   constructor
   ·
    intro e2;exact absurd e2 this
   ·
    intro e2;simp at e2;omega
  ·
   have e2:j=acc.length:=by simp at hj;omega
   subst e2
   simp
 ·
  by_cases e:j<acc.length
  ·
   rw [List.getElem_append_left e]
   exact (h _ (List.getElem_mem e)).2
  ·
   have e2:j=acc.length:=by simp at hj;omega
   subst e2
   simp only [List.getElem_append_right (Nat.le_refl _),Nat.sub_self,List.getElem_cons_zero]
   exact ⟨by decide,⟨by show (_:Int)≤0;decide,by show (0:Int)≤_;decide⟩,⟨by show _≤(i:Int);omega,by show (i:Int)≤_;omega⟩,by show (0:Int)≤_;decide,by show (0:Int)≤0;decide⟩
theorem mark_len {r m:List UInt8}: ∀ (ms:List (List UInt8)),markR r ms=some m→m.isPrefixOf r=true∧m∈ms
 |[],h=>by cases h
 |x::ms,h=>by
  unfold markR at h
  split at h
  ·
   rename_i hx
   injection h with h
   subst h
   exact ⟨hx,by simp⟩
  ·
   have:=mark_len ms h
   exact ⟨this.1,by simp [this.2]⟩
def textTok (i:Int):Except Int (List UInt8 × Nat)→Except Int (Option Tok × Nat)
 | .error e=> .error e
 | .ok (t,k)=> .ok (some ⟨116,⟨t.toArray⟩,0,i⟩,k+1)
def markTok (i:Int):Option (List UInt8)→Except Int (Option Tok × Nat)
 |none=> .error 4
 |some m=> .ok (some ⟨109,⟨m.toArray⟩,0,i⟩,m.length)
theorem tokR_text (r:List UInt8) (i:Nat):tokR (34::r) i=textTok (i:Int) (textR r [] 0):=by
 have h:tokR (34::r) i=(match textR r [] 0 with| .error e=> .error e| .ok (t,k)=> .ok (some ⟨116,⟨t.toArray⟩,0,(i:Int)⟩,k+1)):=rfl
 rw [h]
 cases textR r [] 0 with
 |error e=>rfl
 |ok p=>rfl
theorem tokR_mark (c:UInt8) (r:List UInt8) (i:Nat) (h1: ¬(c=32∨c=10∨c=9)) (h2:smallB c=false) (h3:digitB c=false) (h4: ¬c=34):tokR (c::r) i=markTok (i:Int) (markR (c::r) marksR):=by
 unfold tokR
 dsimp only
 rw [if_neg h1,if_neg (by rw [h2];decide),if_neg (by rw [h3];decide),if_neg h4]
 cases markR (c::r) marksR with
 |none=>rfl
 |some m=>rfl
theorem marks_short: ∀ m∈marksR,1≤m.length∧m.length≤2:=by decide
theorem cutR_nil (k i:Nat) (acc:List Tok):cutR k [] i acc= .ok (acc++[⟨101,⟨#[]⟩,0,i⟩]):=by cases k<;>rfl
theorem byte_ne (c:UInt8) (n:Nat) (hn:n<256) (h: ¬c=UInt8.ofNat n): ¬(c.toNat:Int)=(n:Int):=fun e=>h (by
 apply UInt8.toNat_inj.1
 have:c.toNat=n:=by omega
 rw [this]
 simp
 omega)
theorem extract_take (s:ByteArray) (i k:Nat) (h:k≤s.size):s.extract i k=⟨((s.data.toList.drop i).take (k - i)).toArray⟩:=by
 apply ByteArray.ext
 rw [ByteArray.data_extract]
 apply Array.toList_inj.1
 simp
end Go.Pst
namespace Go.Proofs.YtkopjgnjflhkeaaDoor
open Go.RowKit Go.Pst
set_option linter.unusedVariables false
set_option linter.unusedSimpArgs false
variable {w:World} {br bT cap base:Nat} {T:List Tok} {st:RSt} {dep:Int}
theorem infoT:(Tryd.prog.info? 52).map (fun i=>(i.zero,i.size,i.bytes))=some (some (.agg #[.int .u8 0, .string ByteArray.empty, .int .i64 0, .int .i64 0]),4,40):=by kernel_rfl
theorem wrongC (v:Value) (p e:Int) (w:World) (hb:w.heap[br]?=some (.cells #[v, .int .i64 0, .int .i64 0, .int .i64 0, .int .i64 0] 49 (0,0))):
 Calls Tryd.prog 13 #[.pointer (some ⟨br,0,none⟩), .int .i64 p, .int .i64 e] w fun en w'=>en= .returned (.tuple #[])∧(w'.cell? ⟨br,2,none⟩=some (.int .i64 p)∧w'.cell? ⟨br,3,none⟩=some (.int .i64 e))∧Since (fun k=>k=br) w w':=by
 have c2:=ca2 hb
 have c3:=ca3 hb
 have z:=cz hb
 have b2:=box_set hb 2 (.int .i64 p) (by simp)
 have b3:=box_set b2 3 (.int .i64 e) (by simp)
 have B3:=zh b3
 clear hb b2 b3
 go_enter Tryd.func13,Tryd.ntmps13
 go_wp2_with fail
 go_end0
 have k:=B3.out
 refine ⟨rfl,⟨by simp [World.cell?,k],by simp [World.cell?,k]⟩,(Since.setCell w ⟨br,2,none⟩ (.int .i64 p)).trans (Since.setCell _ ⟨br,3,none⟩ (.int .i64 e))⟩
def CutEnd (w:World) (br base:Nat) (res:Except (Int × Int) (List Tok)) (en:Ending) (w':World):Prop:=
 en= .returned (.tuple #[])∧Since (fun k=>k=br) w w'∧(match res with
  | .ok T=> ∃ bT cap,RdAt w' br bT cap T ⟨0,0,0,0⟩
  | .error (p,e)=>w'.cell? ⟨br,2,none⟩=some (.int .i64 p)∧w'.cell? ⟨br,3,none⟩=some (.int .i64 e)∧e≠0)
def rowT (l:List Tok):List Value:=(l.map tokC).flatten
theorem rowT_snoc (l:List Tok) (t:Tok):rowT (l++[t])=rowT l++tokC t:=by simp [rowT]
def slotOf (t:Array Value) (k:Nat):Value:=t.getD k undef
def slotsUp (f:Nat→Value):Nat→Nat→List Value
 |0,_=>[]
 |n+1,k=>f k::slotsUp f n (k+1)
theorem slotsUp_length (f:Nat→Value): ∀ n k,(slotsUp f n k).length=n
 |0,_=>rfl
 |n+1,k=>by simp [slotsUp,slotsUp_length f n (k+1)]
theorem slotsUp_get (f:Nat→Value): ∀ n k i (h:i<(slotsUp f n k).length),(slotsUp f n k)[i]=f (k+i)
 |0,_,i,h=>absurd h (by simp [slotsUp])
 |n+1,k,0,h=>rfl
 |n+1,k,i+1,h=>by
  show (slotsUp f n (k+1))[i]'_=_
  rw [slotsUp_get f n (k+1) i]
  congr 1
  omega
theorem slots_eq {n:Nat} (t:Array Value) (h:t.size=n):t=⟨slotsUp (slotOf t) n 0⟩:=by
 apply Array.ext
 ·
  simp [slotsUp_length,h]
 ·
  intro i h1 h2
  show t[i]=(slotsUp (slotOf t) n 0)[i]'(by simpa using h2)
  rw [slotsUp_get]
  simp [slotOf,h1]
set_option maxRecDepth 100000 in
theorem frame205 (t:Array Value) (h:t.size=205):t= #[slotOf t 0,slotOf t 1,slotOf t 2,slotOf t 3,slotOf t 4,slotOf t 5,slotOf t 6,slotOf t 7,slotOf t 8,slotOf t 9,slotOf t 10,slotOf t 11,slotOf t 12,slotOf t 13,slotOf t 14,slotOf t 15,slotOf t 16,slotOf t 17,slotOf t 18,slotOf t 19,slotOf t 20,slotOf t 21,slotOf t 22,slotOf t 23,slotOf t 24,slotOf t 25,slotOf t 26,slotOf t 27,slotOf t 28,slotOf t 29,slotOf t 30,slotOf t 31,slotOf t 32,slotOf t 33,slotOf t 34,slotOf t 35,slotOf t 36,slotOf t 37,slotOf t 38,slotOf t 39,slotOf t 40,slotOf t 41,slotOf t 42,slotOf t 43,slotOf t 44,slotOf t 45,slotOf t 46,slotOf t 47,slotOf t 48,slotOf t 49,slotOf t 50,slotOf t 51,slotOf t 52,slotOf t 53,slotOf t 54,slotOf t 55,slotOf t 56,slotOf t 57,slotOf t 58,slotOf t 59,slotOf t 60,slotOf t 61,slotOf t 62,slotOf t 63,slotOf t 64,slotOf t 65,slotOf t 66,slotOf t 67,slotOf t 68,slotOf t 69,slotOf t 70,slotOf t 71,slotOf t 72,slotOf t 73,slotOf t 74,slotOf t 75,slotOf t 76,slotOf t 77,slotOf t 78,slotOf t 79,slotOf t 80,slotOf t 81,slotOf t 82,slotOf t 83,slotOf t 84,slotOf t 85,slotOf t 86,slotOf t 87,slotOf t 88,slotOf t 89,slotOf t 90,slotOf t 91,slotOf t 92,slotOf t 93,slotOf t 94,slotOf t 95,slotOf t 96,slotOf t 97,slotOf t 98,slotOf t 99,slotOf t 100,slotOf t 101,slotOf t 102,slotOf t 103,slotOf t 104,slotOf t 105,slotOf t 106,slotOf t 107,slotOf t 108,slotOf t 109,slotOf t 110,slotOf t 111,slotOf t 112,slotOf t 113,slotOf t 114,slotOf t 115,slotOf t 116,slotOf t 117,slotOf t 118,slotOf t 119,slotOf t 120,slotOf t 121,slotOf t 122,slotOf t 123,slotOf t 124,slotOf t 125,slotOf t 126,slotOf t 127,slotOf t 128,slotOf t 129,slotOf t 130,slotOf t 131,slotOf t 132,slotOf t 133,slotOf t 134,slotOf t 135,slotOf t 136,slotOf t 137,slotOf t 138,slotOf t 139,slotOf t 140,slotOf t 141,slotOf t 142,slotOf t 143,slotOf t 144,slotOf t 145,slotOf t 146,slotOf t 147,slotOf t 148,slotOf t 149,slotOf t 150,slotOf t 151,slotOf t 152,slotOf t 153,slotOf t 154,slotOf t 155,slotOf t 156,slotOf t 157,slotOf t 158,slotOf t 159,slotOf t 160,slotOf t 161,slotOf t 162,slotOf t 163,slotOf t 164,slotOf t 165,slotOf t 166,slotOf t 167,slotOf t 168,slotOf t 169,slotOf t 170,slotOf t 171,slotOf t 172,slotOf t 173,slotOf t 174,slotOf t 175,slotOf t 176,slotOf t 177,slotOf t 178,slotOf t 179,slotOf t 180,slotOf t 181,slotOf t 182,slotOf t 183,slotOf t 184,slotOf t 185,slotOf t 186,slotOf t 187,slotOf t 188,slotOf t 189,slotOf t 190,slotOf t 191,slotOf t 192,slotOf t 193,slotOf t 194,slotOf t 195,slotOf t 196,slotOf t 197,slotOf t 198,slotOf t 199,slotOf t 200,slotOf t 201,slotOf t 202,slotOf t 203,slotOf t 204]:=slots_eq t h
def codeSub:List Nat→Code→Code
 |[],c=>c
 |0::p, .seq a _=>codeSub p a
 |1::p, .seq _ b=>codeSub p b
 |0::p, .cond _ a _=>codeSub p a
 |1::p, .cond _ _ b=>codeSub p b
 |0::p, .block _ c=>codeSub p c
 |0::p, .loop c=>codeSub p c
 |0::p, .scope c=>codeSub p c
 |_,_=> .skip
noncomputable def cutBody:Code:=codeSub [1,0,1,0,0] ((Tryd.f10).body.getD .skip)
def CutI (s:ByteArray) (w:World) (br base:Nat) (Res:Except (Int × Int) (List Tok)) (k:Nat) (a:Act) (wr:World):Prop:=
 ∃ (t:Array Value) (i bi:Nat) (acc:List Tok) (vT:Value),a=⟨t,[]⟩∧t.size=205∧slotOf t 0= .pointer (some ⟨br,0,none⟩)∧slotOf t 3= .pointer (some ⟨w.heap.size,0,none⟩)∧slotOf t 4= .pointer (some ⟨bi,0,none⟩)∧wr.heap[bi]?=some (.cells #[.int .i64 i] 3 (0,0))∧w.heap.size<bi∧wr.heap[w.heap.size]?=some (.cells #[.string s] 9 (0,0))∧wr.heap[br]?=some (.cells #[vT, .int .i64 0, .int .i64 0, .int .i64 0, .int .i64 0] 49 (0,0))∧wr.ownsRow (w.heap.size+1) 52 4 vT acc.length (rowT acc)∧vT.ownBlock≠some bi∧Since (fun k=>k=br) w wr∧RdLaid wr base br∧TabOK wr∧ErrOK wr∧i≤s.size∧acc.length≤i∧s.size - i≤k∧Res=cutR k (s.data.toList.drop i) i acc∧ ∀ t∈acc,TokOK t
def CutTo (s:ByteArray) (w:World) (br base:Nat) (Res:Except (Int × Int) (List Tok)) (k:Nat) (a:Act) (wr:World):Prop:=
 ∀ (J:Nat→Act→World→Prop) (K K0:Act→World→Prop),(∀ k a' w',CutI s w br base Res k a' w'→J k a' w')→(∀ a' w',Handed J k a' w'→K a' w')→
  cutBody.wp Tryd.prog (Exit.then K (Exit.inBlock 0 (Exit.then K0 (bodyPost Tryd.prog Tryd.f10 (CutEnd w br base Res))))) a wr
def CutIn (s:ByteArray) (w:World) (br base:Nat):Prop:=s.size≤4000∧br<w.heap.size∧(base≤br∧base≤w.heap.size)∧5<base∧4<base
end Go.Proofs.YtkopjgnjflhkeaaDoor
namespace Go.Proofs.YtkopjgnjflhkeaaDoor
open Go.RowKit Go.Pst
set_option linter.unusedVariables false
set_option linter.unusedSimpArgs false
set_option maxRecDepth 100000 in
set_option maxHeartbeats 40000000 in
theorem cut_b32 {s:ByteArray} {w:World} {br base:Nat} {Res:Except (Int × Int) (List Tok)} {gk:Nat} {t:Array Value} {wr:World} {i bi:Nat} {acc:List Tok} {vT:Value} (hin:CutIn s w br base)
 (hrel:t.size=205∧slotOf t 0= .pointer (some ⟨br,0,none⟩)∧slotOf t 3= .pointer (some ⟨w.heap.size,0,none⟩)∧slotOf t 4= .pointer (some ⟨bi,0,none⟩)∧wr.heap[bi]?=some (.cells #[.int .i64 i] 3 (0,0))∧w.heap.size<bi∧wr.heap[w.heap.size]?=some (.cells #[.string s] 9 (0,0))∧wr.heap[br]?=some (.cells #[vT, .int .i64 0, .int .i64 0, .int .i64 0, .int .i64 0] 49 (0,0))∧wr.ownsRow (w.heap.size+1) 52 4 vT acc.length (rowT acc)∧vT.ownBlock≠some bi∧Since (fun k=>k=br) w wr∧RdLaid wr base br∧TabOK wr∧ErrOK wr∧i≤s.size∧acc.length≤i∧s.size - i≤gk∧Res=cutR gk (s.data.toList.drop i) i acc∧ ∀ t∈acc,TokOK t)
 (hlt:i<s.size) (e1:s[i]'hlt=32):CutTo s w br base Res gk ⟨t,[]⟩ wr:=by
 obtain ⟨ix,ii0,iz0,iz1,iz2⟩:=info_parts infoT
 obtain ⟨hs,hbr,hlb,hgl⟩:=hin
 intro J K _ hJ hKK
 have hsI:(s.size:Int)≤4000:=by omega
 obtain ⟨wo,hwo⟩: ∃ wo,wo=wr:=⟨_,rfl⟩
 subst hwo
 obtain ⟨hsize,h0,h3,h4,ki,hbi,ks,kb,hown,hne,hS,hL,hT,hE,his,hai,hk,hR,hok⟩:=hrel
 obtain ⟨aT,cT,rfl,hc1,hc2⟩:=row_slice hown
 have hlti:=(Array.getElem?_eq_some_iff.1 ki).1
 have gi:=ca0 ki
 have gs:=ca0 ks
 have giz:=cz ki
 have Ki:=zh ki
 have Ks:=zh ks
 have Kb:=zh kb
 have Hown:=zh hown
 have Hne:=zh hne
 have HS:=zh hS
 have HL:=zh hL
 have HT:=zh hT
 have HE:=zh hE
 have HR:=zh hR
 have Hok:=zh hok
 clear ki ks kb hown hne hS hL hT hE hR hok
 obtain ⟨k',rfl⟩: ∃ k',gk=k'+1:=⟨gk - 1,by omega⟩
 have hlt1:(i:Int)<s.size:=by omega
 have hd:=drop_get s i hlt
 have hx:=(s[i]'hlt).toNat_lt
 obtain ⟨c,hc⟩: ∃ c,c=s[i]'hlt:=⟨_,rfl⟩
 have HR2:=zh (show Res=match tokR (c::s.data.toList.drop (i+1)) i with
  | .error e=> .error ((i:Int),e)
  | .ok (none,n)=>cutR k' ((c::s.data.toList.drop (i+1)).drop n) (i+n) acc
  | .ok (some t,n)=>cutR k' ((c::s.data.toList.drop (i+1)).drop n) (i+n) (acc++[t]) from HR.out.trans (by rw [hd,←hc];rfl))
 have Hd:=zh (show s.data.toList.drop i=c::s.data.toList.drop (i+1) by rw [hd,←hc])
 have Hc:=zh hc
 have hci:((s[i]'hlt).toNat:Int)=(c.toNat:Int):=by rw [hc]
 have hcx:c.toNat<256:=by rw [hc];exact hx
 clear hd hc hx HR
 rw [←Hc.out] at e1
 unfold cutBody
 conv=>arg 2;whnf
 rw [frame205 t hsize,h0,h3,h4]
 clear hsize h0 h3 h4
 subst e1
 replace hci:((s[i]'hlt).toNat:Int)=32:=by rw [hci];rfl
 have HE9:=zh (show tokR (32::s.data.toList.drop (i+1)) i= .ok (none,1) from rfl)
 obtain ⟨i1,hi1⟩: ∃ i1:Nat,(i:Int)+1=(i1:Int):=⟨i+1,by omega⟩
 have hi1e:i+1=i1:=by omega
 have hik1:i1≤s.size:=by omega
 have Hi1e:=zh hi1e
 clear hi1e
 obtain ⟨w6,hw6⟩: ∃ w6,w6=wo:=⟨_,rfl⟩
 subst hw6
 have Ki6:=Ki
 have Ks6:=Ks
 have Kb6:=Kb
 have Hown6:=Hown
 have Hne6:=Hne
 have HS6:=HS
 have HL6:=HL
 have HT6:=HT
 have HE6:=HE
 clear gi giz
 have gi6:w6.cell? ⟨bi,0,none⟩=some (.int .i64 i):=by have k:=Ki6.out;simp [World.cell?,k]
 have gi6z: ∀ j,w6.frozen? ⟨bi,j,none⟩=false:=fun j=>by have k:=Ki6.out;simp [World.frozen?,k]
 have ss7:Since (fun k=>k=bi) w6 (w6.setCell ⟨bi,0,none⟩ (.int .i64 (i1:Nat))):=Since.setCell w6 ⟨bi,0,none⟩ _
 have ss8:Since (fun _=>False) (w6.setCell ⟨bi,0,none⟩ (.int .i64 (i1:Nat))) ((w6.setCell ⟨bi,0,none⟩ (.int .i64 (i1:Nat))).alloc (.cells #[.int .i64 (i1:Nat)] 3)):=Since.alloc _ _ _
 have hz7:=ss7.size
 have hz8:=ss8.size
 have hsz7:(w6.setCell ⟨bi,0,none⟩ (.int .i64 (i1:Nat))).heap.size=w6.heap.size:=by simp [World.setCell]
 have kN:=heap_alloc_new (w6.setCell ⟨bi,0,none⟩ (.int .i64 (i1:Nat))) (.cells #[.int .i64 (i1:Nat)] 3)
 rw [hsz7] at kN
 have HP:=zh (And.intro kN (And.intro ((ss8.block w.heap.size (by omega) (fun f=>f)).trans ((ss7.block w.heap.size (by omega) (by omega)).trans Ks6.out)) (And.intro ((ss8.block br (by omega) (fun f=>f)).trans ((ss7.block br (by omega) (by omega)).trans Kb6.out)) (And.intro (ss8.row (ss7.row Hown6.out (fun k e f=>Hne6.out (e.trans (congrArg some f)))) (fun k e f=>f)) (And.intro ((HS6.out.then_new ss7 (fun k e=>Or.inr (by omega))).trans (ss8.mono (fun _ f=>f.elim))) (And.intro ((HL6.out.since ss7 (fun k e=>by omega)).later ss8) (And.intro ((HT6.out.since ss7 (by omega)).since ss8 (fun f=>f)) ((HE6.out.since ss7 (by omega)).since ss8 (fun f=>f)))))))))
 have hbN:w.heap.size<w6.heap.size:=by omega
 have hneN:(Value.slice aT acc.length cT).ownBlock≠some w6.heap.size:=fun e=>by have:=(Hown6.out.lt _ e).2;omega
 have HneN:=zh hneN
 clear ss7 ss8 kN hneN hsz7
 go_wp2_with fail
 clear gi6 gi6z
 refine Handed.intro k' ?measure ?_
 rotate_left
 go_step
 rotate_left
 ·
  omega
 ·
  obtain ⟨p1,p2,p3,p4,p5,p6,p7,p8⟩:=HP.out
  refine ⟨_,i1,_,acc,_,rfl,rfl,rfl,rfl,rfl,p1,hbN,p2,by simpa using p3,p4,by simpa using HneN.out,p5,p6,p7,p8,by omega,by have:=Hi1e.out;omega,by have:=Hi1e.out;omega,?_,fun t ht=>Hok.out t ht⟩
  ·
   rw [HR2.out,HE9.out];dsimp only;rw [←Hd.out,List.drop_drop,Hi1e.out]
set_option maxRecDepth 100000 in
set_option maxHeartbeats 40000000 in
theorem cut_b10 {s:ByteArray} {w:World} {br base:Nat} {Res:Except (Int × Int) (List Tok)} {gk:Nat} {t:Array Value} {wr:World} {i bi:Nat} {acc:List Tok} {vT:Value} (hin:CutIn s w br base)
 (hrel:t.size=205∧slotOf t 0= .pointer (some ⟨br,0,none⟩)∧slotOf t 3= .pointer (some ⟨w.heap.size,0,none⟩)∧slotOf t 4= .pointer (some ⟨bi,0,none⟩)∧wr.heap[bi]?=some (.cells #[.int .i64 i] 3 (0,0))∧w.heap.size<bi∧wr.heap[w.heap.size]?=some (.cells #[.string s] 9 (0,0))∧wr.heap[br]?=some (.cells #[vT, .int .i64 0, .int .i64 0, .int .i64 0, .int .i64 0] 49 (0,0))∧wr.ownsRow (w.heap.size+1) 52 4 vT acc.length (rowT acc)∧vT.ownBlock≠some bi∧Since (fun k=>k=br) w wr∧RdLaid wr base br∧TabOK wr∧ErrOK wr∧i≤s.size∧acc.length≤i∧s.size - i≤gk∧Res=cutR gk (s.data.toList.drop i) i acc∧ ∀ t∈acc,TokOK t)
 (hlt:i<s.size) (e1:s[i]'hlt=10):CutTo s w br base Res gk ⟨t,[]⟩ wr:=by
 obtain ⟨ix,ii0,iz0,iz1,iz2⟩:=info_parts infoT
 obtain ⟨hs,hbr,hlb,hgl⟩:=hin
 intro J K _ hJ hKK
 have hsI:(s.size:Int)≤4000:=by omega
 obtain ⟨wo,hwo⟩: ∃ wo,wo=wr:=⟨_,rfl⟩
 subst hwo
 obtain ⟨hsize,h0,h3,h4,ki,hbi,ks,kb,hown,hne,hS,hL,hT,hE,his,hai,hk,hR,hok⟩:=hrel
 obtain ⟨aT,cT,rfl,hc1,hc2⟩:=row_slice hown
 have hlti:=(Array.getElem?_eq_some_iff.1 ki).1
 have gi:=ca0 ki
 have gs:=ca0 ks
 have giz:=cz ki
 have Ki:=zh ki
 have Ks:=zh ks
 have Kb:=zh kb
 have Hown:=zh hown
 have Hne:=zh hne
 have HS:=zh hS
 have HL:=zh hL
 have HT:=zh hT
 have HE:=zh hE
 have HR:=zh hR
 have Hok:=zh hok
 clear ki ks kb hown hne hS hL hT hE hR hok
 obtain ⟨k',rfl⟩: ∃ k',gk=k'+1:=⟨gk - 1,by omega⟩
 have hlt1:(i:Int)<s.size:=by omega
 have hd:=drop_get s i hlt
 have hx:=(s[i]'hlt).toNat_lt
 obtain ⟨c,hc⟩: ∃ c,c=s[i]'hlt:=⟨_,rfl⟩
 have HR2:=zh (show Res=match tokR (c::s.data.toList.drop (i+1)) i with
  | .error e=> .error ((i:Int),e)
  | .ok (none,n)=>cutR k' ((c::s.data.toList.drop (i+1)).drop n) (i+n) acc
  | .ok (some t,n)=>cutR k' ((c::s.data.toList.drop (i+1)).drop n) (i+n) (acc++[t]) from HR.out.trans (by rw [hd,←hc];rfl))
 have Hd:=zh (show s.data.toList.drop i=c::s.data.toList.drop (i+1) by rw [hd,←hc])
 have Hc:=zh hc
 have hci:((s[i]'hlt).toNat:Int)=(c.toNat:Int):=by rw [hc]
 have hcx:c.toNat<256:=by rw [hc];exact hx
 clear hd hc hx HR
 rw [←Hc.out] at e1
 unfold cutBody
 conv=>arg 2;whnf
 rw [frame205 t hsize,h0,h3,h4]
 clear hsize h0 h3 h4
 subst e1
 replace hci:((s[i]'hlt).toNat:Int)=10:=by rw [hci];rfl
 have HE9:=zh (show tokR (10::s.data.toList.drop (i+1)) i= .ok (none,1) from rfl)
 obtain ⟨i1,hi1⟩: ∃ i1:Nat,(i:Int)+1=(i1:Int):=⟨i+1,by omega⟩
 have hi1e:i+1=i1:=by omega
 have hik1:i1≤s.size:=by omega
 have Hi1e:=zh hi1e
 clear hi1e
 obtain ⟨w6,hw6⟩: ∃ w6,w6=wo:=⟨_,rfl⟩
 subst hw6
 have Ki6:=Ki
 have Ks6:=Ks
 have Kb6:=Kb
 have Hown6:=Hown
 have Hne6:=Hne
 have HS6:=HS
 have HL6:=HL
 have HT6:=HT
 have HE6:=HE
 clear gi giz
 have gi6:w6.cell? ⟨bi,0,none⟩=some (.int .i64 i):=by have k:=Ki6.out;simp [World.cell?,k]
 have gi6z: ∀ j,w6.frozen? ⟨bi,j,none⟩=false:=fun j=>by have k:=Ki6.out;simp [World.frozen?,k]
 have ss7:Since (fun k=>k=bi) w6 (w6.setCell ⟨bi,0,none⟩ (.int .i64 (i1:Nat))):=Since.setCell w6 ⟨bi,0,none⟩ _
 have ss8:Since (fun _=>False) (w6.setCell ⟨bi,0,none⟩ (.int .i64 (i1:Nat))) ((w6.setCell ⟨bi,0,none⟩ (.int .i64 (i1:Nat))).alloc (.cells #[.int .i64 (i1:Nat)] 3)):=Since.alloc _ _ _
 have hz7:=ss7.size
 have hz8:=ss8.size
 have hsz7:(w6.setCell ⟨bi,0,none⟩ (.int .i64 (i1:Nat))).heap.size=w6.heap.size:=by simp [World.setCell]
 have kN:=heap_alloc_new (w6.setCell ⟨bi,0,none⟩ (.int .i64 (i1:Nat))) (.cells #[.int .i64 (i1:Nat)] 3)
 rw [hsz7] at kN
 have HP:=zh (And.intro kN (And.intro ((ss8.block w.heap.size (by omega) (fun f=>f)).trans ((ss7.block w.heap.size (by omega) (by omega)).trans Ks6.out)) (And.intro ((ss8.block br (by omega) (fun f=>f)).trans ((ss7.block br (by omega) (by omega)).trans Kb6.out)) (And.intro (ss8.row (ss7.row Hown6.out (fun k e f=>Hne6.out (e.trans (congrArg some f)))) (fun k e f=>f)) (And.intro ((HS6.out.then_new ss7 (fun k e=>Or.inr (by omega))).trans (ss8.mono (fun _ f=>f.elim))) (And.intro ((HL6.out.since ss7 (fun k e=>by omega)).later ss8) (And.intro ((HT6.out.since ss7 (by omega)).since ss8 (fun f=>f)) ((HE6.out.since ss7 (by omega)).since ss8 (fun f=>f)))))))))
 have hbN:w.heap.size<w6.heap.size:=by omega
 have hneN:(Value.slice aT acc.length cT).ownBlock≠some w6.heap.size:=fun e=>by have:=(Hown6.out.lt _ e).2;omega
 have HneN:=zh hneN
 clear ss7 ss8 kN hneN hsz7
 go_wp2_with fail
 clear gi6 gi6z
 refine Handed.intro k' ?measure ?_
 rotate_left
 go_step
 rotate_left
 ·
  omega
 ·
  obtain ⟨p1,p2,p3,p4,p5,p6,p7,p8⟩:=HP.out
  refine ⟨_,i1,_,acc,_,rfl,rfl,rfl,rfl,rfl,p1,hbN,p2,by simpa using p3,p4,by simpa using HneN.out,p5,p6,p7,p8,by omega,by have:=Hi1e.out;omega,by have:=Hi1e.out;omega,?_,fun t ht=>Hok.out t ht⟩
  ·
   rw [HR2.out,HE9.out];dsimp only;rw [←Hd.out,List.drop_drop,Hi1e.out]
set_option maxRecDepth 100000 in
set_option maxHeartbeats 40000000 in
theorem cut_b9 {s:ByteArray} {w:World} {br base:Nat} {Res:Except (Int × Int) (List Tok)} {gk:Nat} {t:Array Value} {wr:World} {i bi:Nat} {acc:List Tok} {vT:Value} (hin:CutIn s w br base)
 (hrel:t.size=205∧slotOf t 0= .pointer (some ⟨br,0,none⟩)∧slotOf t 3= .pointer (some ⟨w.heap.size,0,none⟩)∧slotOf t 4= .pointer (some ⟨bi,0,none⟩)∧wr.heap[bi]?=some (.cells #[.int .i64 i] 3 (0,0))∧w.heap.size<bi∧wr.heap[w.heap.size]?=some (.cells #[.string s] 9 (0,0))∧wr.heap[br]?=some (.cells #[vT, .int .i64 0, .int .i64 0, .int .i64 0, .int .i64 0] 49 (0,0))∧wr.ownsRow (w.heap.size+1) 52 4 vT acc.length (rowT acc)∧vT.ownBlock≠some bi∧Since (fun k=>k=br) w wr∧RdLaid wr base br∧TabOK wr∧ErrOK wr∧i≤s.size∧acc.length≤i∧s.size - i≤gk∧Res=cutR gk (s.data.toList.drop i) i acc∧ ∀ t∈acc,TokOK t)
 (hlt:i<s.size) (e1:s[i]'hlt=9):CutTo s w br base Res gk ⟨t,[]⟩ wr:=by
 obtain ⟨ix,ii0,iz0,iz1,iz2⟩:=info_parts infoT
 obtain ⟨hs,hbr,hlb,hgl⟩:=hin
 intro J K _ hJ hKK
 have hsI:(s.size:Int)≤4000:=by omega
 obtain ⟨wo,hwo⟩: ∃ wo,wo=wr:=⟨_,rfl⟩
 subst hwo
 obtain ⟨hsize,h0,h3,h4,ki,hbi,ks,kb,hown,hne,hS,hL,hT,hE,his,hai,hk,hR,hok⟩:=hrel
 obtain ⟨aT,cT,rfl,hc1,hc2⟩:=row_slice hown
 have hlti:=(Array.getElem?_eq_some_iff.1 ki).1
 have gi:=ca0 ki
 have gs:=ca0 ks
 have giz:=cz ki
 have Ki:=zh ki
 have Ks:=zh ks
 have Kb:=zh kb
 have Hown:=zh hown
 have Hne:=zh hne
 have HS:=zh hS
 have HL:=zh hL
 have HT:=zh hT
 have HE:=zh hE
 have HR:=zh hR
 have Hok:=zh hok
 clear ki ks kb hown hne hS hL hT hE hR hok
 obtain ⟨k',rfl⟩: ∃ k',gk=k'+1:=⟨gk - 1,by omega⟩
 have hlt1:(i:Int)<s.size:=by omega
 have hd:=drop_get s i hlt
 have hx:=(s[i]'hlt).toNat_lt
 obtain ⟨c,hc⟩: ∃ c,c=s[i]'hlt:=⟨_,rfl⟩
 have HR2:=zh (show Res=match tokR (c::s.data.toList.drop (i+1)) i with
  | .error e=> .error ((i:Int),e)
  | .ok (none,n)=>cutR k' ((c::s.data.toList.drop (i+1)).drop n) (i+n) acc
  | .ok (some t,n)=>cutR k' ((c::s.data.toList.drop (i+1)).drop n) (i+n) (acc++[t]) from HR.out.trans (by rw [hd,←hc];rfl))
 have Hd:=zh (show s.data.toList.drop i=c::s.data.toList.drop (i+1) by rw [hd,←hc])
 have Hc:=zh hc
 have hci:((s[i]'hlt).toNat:Int)=(c.toNat:Int):=by rw [hc]
 have hcx:c.toNat<256:=by rw [hc];exact hx
 clear hd hc hx HR
 rw [←Hc.out] at e1
 unfold cutBody
 conv=>arg 2;whnf
 rw [frame205 t hsize,h0,h3,h4]
 clear hsize h0 h3 h4
 subst e1
 replace hci:((s[i]'hlt).toNat:Int)=9:=by rw [hci];rfl
 have HE9:=zh (show tokR (9::s.data.toList.drop (i+1)) i= .ok (none,1) from rfl)
 obtain ⟨i1,hi1⟩: ∃ i1:Nat,(i:Int)+1=(i1:Int):=⟨i+1,by omega⟩
 have hi1e:i+1=i1:=by omega
 have hik1:i1≤s.size:=by omega
 have Hi1e:=zh hi1e
 clear hi1e
 obtain ⟨w6,hw6⟩: ∃ w6,w6=wo:=⟨_,rfl⟩
 subst hw6
 have Ki6:=Ki
 have Ks6:=Ks
 have Kb6:=Kb
 have Hown6:=Hown
 have Hne6:=Hne
 have HS6:=HS
 have HL6:=HL
 have HT6:=HT
 have HE6:=HE
 clear gi giz
 have gi6:w6.cell? ⟨bi,0,none⟩=some (.int .i64 i):=by have k:=Ki6.out;simp [World.cell?,k]
 have gi6z: ∀ j,w6.frozen? ⟨bi,j,none⟩=false:=fun j=>by have k:=Ki6.out;simp [World.frozen?,k]
 have ss7:Since (fun k=>k=bi) w6 (w6.setCell ⟨bi,0,none⟩ (.int .i64 (i1:Nat))):=Since.setCell w6 ⟨bi,0,none⟩ _
 have ss8:Since (fun _=>False) (w6.setCell ⟨bi,0,none⟩ (.int .i64 (i1:Nat))) ((w6.setCell ⟨bi,0,none⟩ (.int .i64 (i1:Nat))).alloc (.cells #[.int .i64 (i1:Nat)] 3)):=Since.alloc _ _ _
 have hz7:=ss7.size
 have hz8:=ss8.size
 have hsz7:(w6.setCell ⟨bi,0,none⟩ (.int .i64 (i1:Nat))).heap.size=w6.heap.size:=by simp [World.setCell]
 have kN:=heap_alloc_new (w6.setCell ⟨bi,0,none⟩ (.int .i64 (i1:Nat))) (.cells #[.int .i64 (i1:Nat)] 3)
 rw [hsz7] at kN
 have HP:=zh (And.intro kN (And.intro ((ss8.block w.heap.size (by omega) (fun f=>f)).trans ((ss7.block w.heap.size (by omega) (by omega)).trans Ks6.out)) (And.intro ((ss8.block br (by omega) (fun f=>f)).trans ((ss7.block br (by omega) (by omega)).trans Kb6.out)) (And.intro (ss8.row (ss7.row Hown6.out (fun k e f=>Hne6.out (e.trans (congrArg some f)))) (fun k e f=>f)) (And.intro ((HS6.out.then_new ss7 (fun k e=>Or.inr (by omega))).trans (ss8.mono (fun _ f=>f.elim))) (And.intro ((HL6.out.since ss7 (fun k e=>by omega)).later ss8) (And.intro ((HT6.out.since ss7 (by omega)).since ss8 (fun f=>f)) ((HE6.out.since ss7 (by omega)).since ss8 (fun f=>f)))))))))
 have hbN:w.heap.size<w6.heap.size:=by omega
 have hneN:(Value.slice aT acc.length cT).ownBlock≠some w6.heap.size:=fun e=>by have:=(Hown6.out.lt _ e).2;omega
 have HneN:=zh hneN
 clear ss7 ss8 kN hneN hsz7
 go_wp2_with fail
 clear gi6 gi6z
 refine Handed.intro k' ?measure ?_
 rotate_left
 go_step
 rotate_left
 ·
  omega
 ·
  obtain ⟨p1,p2,p3,p4,p5,p6,p7,p8⟩:=HP.out
  refine ⟨_,i1,_,acc,_,rfl,rfl,rfl,rfl,rfl,p1,hbN,p2,by simpa using p3,p4,by simpa using HneN.out,p5,p6,p7,p8,by omega,by have:=Hi1e.out;omega,by have:=Hi1e.out;omega,?_,fun t ht=>Hok.out t ht⟩
  ·
   rw [HR2.out,HE9.out];dsimp only;rw [←Hd.out,List.drop_drop,Hi1e.out]
end Go.Proofs.YtkopjgnjflhkeaaDoor

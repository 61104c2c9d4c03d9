import Derived.Test.YtkopjgnjflhkeaaGreatDoorQZR
namespace Go.Proofs.YtkopjgnjflhkeaaGreatDoor
open Go.RowKit Go.Pst
set_option linter.unusedVariables false
set_option linter.unusedSimpArgs false
def seenB (l:List ByteArray) (s:ByteArray):Bool:=l.any fun x=>decide (x=s)
def headsT:List ByteArray→Int→List PFunc→Option (Int × Int)
 |_,_,[]=>none
 |seen,i,f::r=>if nameB f.name.toList=false then some (i,4) else if seenB seen f.name=true then some (i,7) else headsT (seen++[f.name]) (i+1) r
def bodiesT (fs:List PFunc) (d:Nat):Int→List PFunc→Int × Int
 |_,[]=>(0,0)
 |i,f::r=>if funcT fs d f (endsF d f.body)≠0 then (i,funcT fs d f (endsF d f.body)) else bodiesT fs d (i+1) r
def checkT (d:Nat) (fs:List PFunc):Int × Int:=
 match fs with
 |[]=>(0,6)
 |f0::_=>
  if 20<fs.length then (0,1)
  else match headsT [] 0 fs with
   |some x=>x
   |none=>if 0<f0.params.length∨f0.result≠0 then (0,10) else bodiesT fs d 0 fs
theorem checkT_cases {d:Nat} {fs:List PFunc} (h:0<fs.length) (h20: ¬20<fs.length):(∀ x,headsT [] 0 fs=some x→checkT d fs=x)∧(headsT [] 0 fs=none→checkT d fs=if 0<fs[0].params.length∨fs[0].result≠0 then (0,10) else bodiesT fs d 0 fs):=by
 cases fs with
 |nil=>simp at h
 |cons f r=>
  refine ⟨fun x hx=>?_,fun hx=>?_⟩
  ·
   show (if 20<(f::r).length then _ else _)=_
   rw [if_neg h20,hx]
  ·
   show (if 20<(f::r).length then _ else _)=_
   rw [if_neg h20,hx]
   rfl
theorem any_named (s:ByteArray) (l:List PFunc):l.any (named s)=seenB (l.map (·.name)) s:=by
 unfold seenB
 rw [List.any_map]
 rfl
theorem named3_any (d:Nat) (s:ByteArray) (f:PFunc) (cs:List Value) (blk:Nat) (w:World) (hc:w.cell? ⟨blk,0,none⟩=some (.string s)) (hlt:blk<w.heap.size) (hx:rFunc d (fun _=>True) w cs f):
 Calls Tryz.prog 33 #[.agg cs.toArray, .pointer (some ⟨blk,0,none⟩)] w fun e w'=>e= .returned (.bool (named s f))∧Below w.heap.size w w':=by
 obtain ⟨v1,v3,rfl,-,h1,h3⟩:=hx
 obtain ⟨a1,c1,rfl⟩:=rSlice_shape h1
 obtain ⟨a3,c3,rfl⟩:=rSlice_shape h3
 by_cases h:f.name=s
 ·
  have h1:(f.name.toList==s.toList)=true:=by simp [h]
  have Hh:=zh (show named s f=true by simp [named,h])
  clear h
  go_enter Tryz.func33,Tryz.ntmps33
  go_wp2_with fail
  go_ret
  exact ⟨by simp [Hh.out],(Below.refl _ _).alloc (Nat.le_refl _) _⟩
 ·
  have h1:(f.name.toList==s.toList)=false:=by
   cases hb:f.name.toList==s.toList with
   |false=>rfl
   |true=>
    have:f.name.toList=s.toList:=by simpa using hb
    rw [ByteArray.toList_eq,ByteArray.toList_eq] at this
    exact absurd (ByteArray.ext (Array.toList_inj.mp this)) h
  have Hh:=zh (show named s f=false by simp [named,h])
  clear h
  go_enter Tryz.func33,Tryz.ntmps33
  go_wp2_with fail
  go_ret
  exact ⟨by simp [Hh.out],(Below.refl _ _).alloc (Nat.le_refl _) _⟩
set_option maxHeartbeats 1000000 in
theorem indexNamed3_any (d:Nat) (s:ByteArray) (l:List PFunc) (v:Value) (blk:Nat) (w:World) (hc:w.cell? ⟨blk,0,none⟩=some (.string s)) (hlt:blk<w.heap.size) (hl:rFuncs d (fun _=>True) w [v] l):
 Calls Tryz.prog 82 #[v, .func (.func 33) #[] #[.pointer (some ⟨blk,0,none⟩)]] w fun e w'=>e= .returned (.int .i64 (fnAt (named s) l 0))∧Below w.heap.size w w':=by
 obtain ⟨a,cap,rfl,hle,hmax,hat⟩:=rSlice_val hl
 have hll:l.length≤9223372036854775807:=by unfold maxLen at hmax;omega
 have Hat:=zh hat
 have Hlt:=zh hlt
 have Hc:=zh hc
 clear hat hl hle hmax hlt hc
 go_enter Tryz.func82,Tryz.ntmps82
 go_wp2_with fail
 go_loopw [8] (fun i wr=> ∃ k:Nat,k≤l.length∧i= .int .i64 k∧fnAt (named s) l 0=fnAt (named s) (l.drop k) k∧Below w.heap.size w wr) (fun i _=>l.length - (intOf i).toNat)
 case atStart=>exact ⟨0,Nat.zero_le _,rfl,by simp,Below.refl _ _⟩
 case round=>
  obtain ⟨k,hk,rfl,hf,hbel⟩:=hrel
  have Hf:=zh hf
  clear hf
  by_cases hlt:k<l.length
  ·
   obtain ⟨b,off,es,rfl,-,hb,hel,hcl,hr⟩:=Hat.out k hlt
   obtain ⟨v1,v3,rfl,hx1,hx2,hx3⟩:=id hr
   obtain ⟨a1,c1,rfl⟩:=rSlice_shape hx2
   obtain ⟨a3,c3,rfl⟩:=rSlice_shape hx3
   have hlt1:(k:Int)<(l.length:Int):=by omega
   have hk0:(0:Int)≤k:=by omega
   have Hd:=zh (List.drop_eq_getElem_cons hlt:l.drop k=l[k]::l.drop (k+1))
   have hw:=fun o=>hbel.cell (p:=⟨b,o,none⟩) hb
   have x0:=(hw (off+k*4)).trans (hcl 0 (by decide))
   have x1:=(hw (off+k*4+1)).trans (hcl 1 (by decide))
   have x2:=(hw (off+k*4+2)).trans (hcl 2 (by decide))
   have x3:=(hw (off+k*4+3)).trans (hcl 3 (by decide))
   have hcall:=named3_any d s l[k] _ blk wr ((hbel.cell (p:=⟨blk,0,none⟩) Hlt.out).trans Hc.out) (Nat.lt_of_lt_of_le Hlt.out hbel.size) (Good.kept (Keep.of_below' hbel (fun k hk _=>hk)) hr)
   have Hcall:=zh hcall
   have Hbel:=zh hbel
   clear hcall hr hcl hx1 hx2 hx3 hw hbel
   generalize l[k]=y at *
   have hwk:IntKind.i64.wrap ((k:Int)+1)=(k:Int)+1:=IntWalk.i64_in _ (by omega)
   go_wp2_with fail
   refine Hcall.out.mono ?_
   rintro e w1 ⟨rfl,hb1⟩
   have Hb1:=zh (Hbel.out.trans (hb1.mono Hbel.out.size))
   clear hb1
   by_cases he:named s y=true
   ·
    rw [he]
    go_wp2_with fail
    go_ret
    exact ⟨by rw [Hf.out,Hd.out];simp [fnAt,he],Hb1.out⟩
   ·
    simp only [Bool.not_eq_true] at he
    rw [he]
    go_wp2_with fail
    go_roundw
    case rel=>exact ⟨k+1,by omega,by go_num,by rw [Hf.out,Hd.out];simp [fnAt,he],Hb1.out⟩
    case measure=>simp [intOf];omega
  ·
   have hke:k=l.length:=by omega
   subst hke
   have Hbel:=zh hbel
   clear hbel
   go_wp2_with fail
   go_ret
   exact ⟨by rw [Hf.out];simp [fnAt],Hbel.out⟩
theorem containsNamed_any (d:Nat) (s:ByteArray) (l:List PFunc) (v:Value) (blk:Nat) (w:World) (hc:w.cell? ⟨blk,0,none⟩=some (.string s)) (hlt:blk<w.heap.size) (hl:rFuncs d (fun _=>True) w [v] l):
 Calls Tryz.prog 32 #[v, .func (.func 33) #[] #[.pointer (some ⟨blk,0,none⟩)]] w fun e w'=>e= .returned (.bool (l.any (named s)))∧Below w.heap.size w w':=by
 have Hg:=zh (fnAt_ge (named s) l 0)
 obtain ⟨a,cap,rfl⟩:=rSlice_shape hl
 have H1:=zh (indexNamed3_any d s l _ blk w hc hlt hl)
 clear hl hc hlt
 go_enter Tryz.func32,Tryz.ntmps32
 go_wp2_with fail
 refine H1.out.mono ?_
 rintro e w1 ⟨rfl,hd⟩
 go_wp2_with fail
 go_ret
 exact ⟨by rw [←Hg.out];rfl,hd⟩
theorem rSlice_first {α:Type} {sz:Nat} {R:Rep α} {S:Nat→Prop} {w:World} {a:Option Addr} {cap:Nat} {l:List α} (h:rSlice sz R S w [.slice a l.length cap] l) {n:Nat} (hn:n≤l.length):rSlice sz R S w [.slice a n cap] (l.take n):=by
 obtain ⟨a',cap',hv,h1,h2,h3⟩:=rSlice_val h
 obtain ⟨rfl,-,rfl⟩:=Value.slice.inj hv
 refine ⟨a,cap,by rw [List.length_take,Nat.min_eq_left hn],by rw [List.length_take];omega,h2,fun i hi=>?_⟩
 rw [List.length_take] at hi
 obtain ⟨b,off,es,e1,e2,e3,e4,e5,e6⟩:=h3 i (by omega)
 exact ⟨b,off,es,e1,e2,e3,e4,e5,by rw [List.getElem_take];exact e6⟩
theorem chk_new (w:World) (base:Nat) (vf a b c d:Value) (hb:base≤w.heap.size):
 ChkAt (w.alloc (.cells #[vf,a,b,c,d, .slice none 0 0, .int .i64 0, .int .i64 0, .int .i64 0] 87)) base w.heap.size vf [a,b,c,d] (.slice none 0 0) [] ⟨[],0,0,0⟩:=by
 have hc: ∀ j v,#[vf,a,b,c,d, .slice none 0 0, .int .i64 0, .int .i64 0, .int .i64 0][j]?=some v→(w.alloc (.cells #[vf,a,b,c,d, .slice none 0 0, .int .i64 0, .int .i64 0, .int .i64 0] 87)).cell? ⟨w.heap.size,j,none⟩=some v:=fun j v h=>by
  rw [World.cell?_alloc_at _ _ _ _ rfl];exact h
 refine {c0:=hc _ _ rfl,cl:=rfl,c1:=fun j hj=>?_,c5:=hc _ _ rfl,c6:=hc _ _ rfl,c7:=hc _ _ rfl,c8:=hc _ _ rfl,z:=fun j=>World.frozen?_alloc_at _ _ _ _ rfl,lb:=⟨hb,by simp⟩,row:=⟨rfl,Or.inl ⟨rfl,rfl⟩⟩,ne:=by simp [Value.ownBlock],maps:=trivial,big:=by simp;omega}
 have hj':j<4:=hj
 match j,hj' with
 |0,_=>exact hc _ _ rfl
 |1,_=>exact hc _ _ rfl
 |2,_=>exact hc _ _ rfl
 |3,_=>exact hc _ _ rfl
set_option maxRecDepth 10000 in
set_option maxHeartbeats 4000000 in
theorem typedCheck_any {fs:List PFunc} {d:Nat} {w:World} {v:Value} (hT:TyLaid w w.heap.size) (hf:rFuncs d (· <w.heap.size) w [v] fs) (hfit: ∀ f∈fs,f.body.length*136≤reachBytes∧ ∀ y∈f.body,FitS d y):
 Calls Tryz.prog 12 #[v] w fun e w'=>e= .returned (.tuple #[.int .i64 (checkT d fs).1, .int .i64 (checkT d fs).2])∧Below w.heap.size w w':=by
 obtain ⟨R,hR⟩: ∃ R,R=checkT d fs:=⟨_,rfl⟩
 rw [←hR]
 obtain ⟨a,cap,rfl,hl1,hl2,hat⟩:=rFuncs_val hf
 have hll:fs.length≤9223372036854775807:=by unfold maxLen at hl2;omega
 have HT:=zh hT
 have Hf:=zh hf
 have Hfit:=zh hfit
 have Hat:=zh hat
 have HR:=zh hR
 clear hT hf hfit hat hR
 by_cases h0:fs.length=0
 ·
  have z0:((fs.length:Int)==0)=true:=by simp [h0]
  have Hr:=zh (show R=(0,6) by rw [HR.out,List.eq_nil_of_length_eq_zero h0];rfl)
  clear h0
  go_enter Tryz.func12,Tryz.ntmps12
  go_wp2_with fail
  go_ret2
  exact ⟨by rw [Hr.out];rfl,Below.refl _ _⟩
 have z0:((fs.length:Int)==0)=false:=by rw [beq_eq_false_iff_ne];omega
 by_cases h20:20<fs.length
 ·
  have z1:decide ((fs.length:Int) > 20)=true:=decide_eq_true (by omega)
  have Hr:=zh (show R=(0,1) by
   rw [HR.out]
   cases fs with
   |nil=>simp at h0
   |cons f r=>show (if 20<(f::r).length then _ else _)=_;rw [if_pos h20])
  clear h0 h20
  go_enter Tryz.func12,Tryz.ntmps12
  go_wp2_with fail
  go_ret2
  exact ⟨by rw [Hr.out];rfl,Below.refl _ _⟩
 have z1:decide ((fs.length:Int) > 20)=false:=decide_eq_false (by omega)
 have hpos:0<fs.length:=by omega
 have Hcases:=zh (checkT_cases (d:=d) hpos h20)
 clear h0 h20
 go_enter Tryz.func12,Tryz.ntmps12
 go_wp2_with fail
 clear z0 z1
 go_loopw [17] (fun i wr=> ∃ n:Nat,n≤fs.length∧i= .int .i64 n∧headsT [] 0 fs=headsT ((fs.take n).map (·.name)) n (fs.drop n)∧Below w.heap.size w wr) (fun i _=>fs.length - (intOf i).toNat)
 case atStart=>exact ⟨0,Nat.zero_le _,rfl,by simp,Below.refl _ _⟩
 case round=>
  obtain ⟨n,hn,rfl,hh,hbel⟩:=hrel
  have Hh:=zh hh
  have Hbel:=zh hbel
  clear hh
  by_cases hlt:n<fs.length
  ·
   have hi0:(0:Int)≤n:=by omega
   have hi1:(n:Int)<(fs.length:Int):=by omega
   have hncap:(n:Int)≤(cap:Int):=by omega
   have hwk:IntKind.i64.wrap ((n:Int)+1)=(n:Int)+1:=IntWalk.i64_in _ (by omega)
   obtain ⟨b,off,v1,v3,rfl,hSb,hbl,x0,x1,x2,x3,hsz,hI,hps,hbs⟩:=Hat.out n hlt
   obtain ⟨a1,c1,rfl⟩:=rSlice_shape hps
   obtain ⟨a3,c3,rfl⟩:=rSlice_shape hbs
   have hw:=fun o=>hbel.cell (p:=⟨b,o,none⟩) hbl
   have y0:=(hw _).trans x0
   have y1:=(hw _).trans x1
   have y2:=(hw _).trans x2
   have y3:=(hw _).trans x3
   have Hd:=zh (List.drop_eq_getElem_cons hlt:fs.drop n=fs[n]::fs.drop (n+1))
   have Htk:=zh (show (fs.take (n+1)).map (·.name)=(fs.take n).map (·.name)++[fs[n].name] by rw [List.take_succ_eq_append_getElem hlt,List.map_append];rfl)
   clear x0 x1 x2 x3 hw hps hbs hSb hI
   generalize fs[n]=f at *
   obtain ⟨W,hW⟩: ∃ W,W=wr.alloc (.cells #[.string f.name, .slice a1 f.params.length c1, .int .i64 f.result, .slice a3 f.body.length c3] 35):=⟨_,rfl⟩
   have hbW:Below wr.heap.size wr W:=by rw [hW];exact (Below.refl _ _).alloc (Nat.le_refl _) _
   have q0:W.cell? ⟨wr.heap.size,0,none⟩=some (.string f.name):=by rw [hW,World.cell?_alloc_at _ _ _ _ rfl];rfl
   have hlW:wr.heap.size<W.heap.size:=by rw [hW];simp
   have HbW:=zh hbW
   have Q0:=zh q0
   have Hn:=zh (typedName_any f.name W hsz)
   clear hbW hbel
   go_wp2_with fail
   rw [←hW]
   refine Hn.out.mono ?_
   rintro en w1 ⟨rfl,hb1⟩
   have hlw1:wr.heap.size<w1.heap.size:=Nat.lt_of_lt_of_le hlW hb1.size
   have q1:w1.cell? ⟨wr.heap.size,0,none⟩=some (.string f.name):=(hb1.cell (p:=⟨wr.heap.size,0,none⟩) hlW).trans Q0.out
   have hb2:Below wr.heap.size wr w1:=HbW.out.trans (hb1.mono (by omega))
   have Hb2:=zh hb2
   have Q1:=zh q1
   have hk1:rFuncs d (fun _=>True) w1 [.slice (some ⟨b,off,none⟩) fs.length cap] fs:=Good.wide (Good.kept (Keep.of_below' (Hbel.out.trans (hb2.mono Hbel.out.size)) (fun k hk _=>hk)) Hf.out) (fun _ _ _=>trivial)
   have Hcont:=zh (containsNamed_any d f.name (fs.take n) _ wr.heap.size w1 q1 hlw1 (rSlice_first hk1 hn))
   clear hb1 hb2 hk1 q0 hW hlW
   cases hnm:nameB f.name.toList with
   |false=>
    have Hnm:=zh hnm
    clear hnm
    go_wp2_with fail
    go_ret2
    have e:R=((n:Int),4):=by rw [HR.out];exact Hcases.out.1 _ (by rw [Hh.out,Hd.out];simp [headsT,Hnm.out])
    exact ⟨by rw [e];rfl,Hbel.out.trans (Hb2.out.mono Hbel.out.size)⟩
   |true=>
    have Hnm:=zh hnm
    clear hnm
    go_wp2_with fail
    refine Hcont.out.mono ?_
    rintro en w2 ⟨rfl,hb3⟩
    have Hb3:=zh (Hb2.out.trans (hb3.mono (by omega)))
    have han:=any_named f.name (fs.take n)
    clear hb3
    by_cases hin:seenB ((fs.take n).map (·.name)) f.name=true
    ·
     rw [han,hin]
     have Hin:=zh hin
     clear han hin
     go_wp2_with fail
     go_ret2
     have e:R=((n:Int),7):=by rw [HR.out];exact Hcases.out.1 _ (by rw [Hh.out,Hd.out];simp only [headsT,Hnm.out,if_pos Hin.out];simp)
     exact ⟨by rw [e];rfl,Hbel.out.trans (Hb3.out.mono Hbel.out.size)⟩
    ·
     have hin':seenB ((fs.take n).map (·.name)) f.name=false:=by simpa using hin
     rw [han,hin']
     clear hin'
     have Hin:=zh hin
     clear han hin
     go_wp2_with fail
     go_roundw
     case rel=>
      refine ⟨n+1,by omega,by go_num,?_,Hbel.out.trans (Hb3.out.mono Hbel.out.size)⟩
      rw [Hh.out,Hd.out,Htk.out]
      simp only [headsT,Hnm.out,if_neg Hin.out]
      simp
     case measure=>simp [intOf];omega
  ·
   have hne:n=fs.length:=by omega
   subst hne
   have hhn:headsT [] 0 fs=none:=by rw [Hh.out];simp [headsT]
   have hr2:=Hcases.out.2 hhn
   obtain ⟨b,off,v1,v3,rfl,hSb,hbl,x0,x1,x2,x3,hsz,hI,hps,hbs⟩:=Hat.out 0 hpos
   obtain ⟨a1,c1,rfl⟩:=rSlice_shape hps
   have hw:=fun o=>hbel.cell (p:=⟨b,o,none⟩) hbl
   simp only [Nat.zero_mul,Nat.add_zero] at x0 x1 x2 x3
   have y1:=(hw _).trans x1
   have y2:=(hw _).trans x2
   have h00:(0:Int)<(fs.length:Int):=by omega
   have Hr2:=zh (HR.out.trans hr2)
   have hz9:decide ((fs.length:Int)<(fs.length:Int))=false:=decide_eq_false (by omega)
   clear x0 x1 x2 x3 hw hps hbs hSb hI hlt hhn hr2 hsz Hh
   generalize fs[0].params.length=pl at *
   by_cases hp0:0<pl
   ·
    have z2:decide ((pl:Int) > 0)=true:=decide_eq_true (by omega)
    have e:=zh (show R=(0,10) by rw [Hr2.out,if_pos (Or.inl hp0)])
    go_wp2_with fail
    go_ret2
    exact ⟨by rw [e.out];rfl,hbel⟩
   obtain rfl:pl=0:=by omega
   by_cases hr0:fs[0].result=0
   ·
    have z3:(fs[0].result !=0)=false:=by simp [hr0]
    have Hr:=zh (show R=bodiesT fs d 0 fs by rw [Hr2.out,if_neg (by omega)])
    clear hp0 hr0 hbel
    go_wp2_with fail
    go_loopw [49] (fun i wr=> ∃ n:Nat,n≤fs.length∧i= .int .i64 n∧R=bodiesT fs d n (fs.drop n)∧Below w.heap.size w wr) (fun i _=>fs.length - (intOf i).toNat)
    case atStart=>exact ⟨0,Nat.zero_le _,rfl,by rw [Hr.out];simp,Hbel.out⟩
    case round=>
     clear Hbel Hr2 Hr
     obtain ⟨n,hn,rfl,hh,hbel⟩:=hrel
     have Hh:=zh hh
     have Hbel:=zh hbel
     clear hh
     by_cases hlt:n<fs.length
     ·
      have hi0:(0:Int)≤n:=by omega
      have hi1:(n:Int)<(fs.length:Int):=by omega
      have hwk:IntKind.i64.wrap ((n:Int)+1)=(n:Int)+1:=IntWalk.i64_in _ (by omega)
      obtain ⟨b',off',v1',v3',hbb,hSb,hbl,x0,x1,x2,x3,hsz,hI,hps,hbs⟩:=Hat.out n hlt
      obtain ⟨rfl,rfl⟩:b=b'∧off=off':=by simpa using hbb
      obtain ⟨a1',c1',rfl⟩:=rSlice_shape hps
      obtain ⟨a3,c3,rfl⟩:=rSlice_shape hbs
      have hw:=fun o=>hbel.cell (p:=⟨b,o,none⟩) hbl
      have y0:=(hw _).trans x0
      have y1:=(hw _).trans x1
      have y2:=(hw _).trans x2
      have y3:=(hw _).trans x3
      have Hd:=zh (List.drop_eq_getElem_cons hlt:fs.drop n=fs[n]::fs.drop (n+1))
      have hfitn:=Hfit.out _ (List.getElem_mem hlt)
      clear x0 x1 x2 x3 hw hSb hI hbb
      generalize fs[n]=f at *
      obtain ⟨W1,hW1⟩: ∃ W1,W1=wr.alloc (.cells #[.string f.name, .slice a1' f.params.length c1', .int .i64 f.result, .slice a3 f.body.length c3] 35):=⟨_,rfl⟩
      obtain ⟨W,hW⟩: ∃ W,W=W1.alloc (.cells #[.slice (some ⟨b,off,none⟩) fs.length cap, .string f.name, .slice a1' f.params.length c1', .int .i64 f.result, .slice a3 f.body.length c3, .slice none 0 0, .int .i64 0, .int .i64 0, .int .i64 0] 87):=⟨_,rfl⟩
      have hb1:Below w.heap.size w W1:=by rw [hW1];exact hbel.alloc hbel.size _
      have hbW:Below w.heap.size w W:=by rw [hW];exact hb1.alloc hb1.size _
      have hsW:Since (fun _=>False) w W:=⟨hbW.os,hbW.tape,hbW.output,hbW.size,fun k hk _=>hbW.block k hk⟩
      have hchk:ChkAt W w.heap.size W1.heap.size (.slice (some ⟨b,off,none⟩) fs.length cap) [.string f.name, .slice a1' f.params.length c1', .int .i64 f.result, .slice a3 f.body.length c3] (.slice none 0 0) [] ⟨[],0,0,0⟩:=by rw [hW];exact chk_new W1 w.heap.size _ _ _ _ _ hb1.size
      have hW1s:W1.heap.size=wr.heap.size+1:=by rw [hW1];simp
      rw [hW1s] at hchk
      have hcall:=typedFunction_any hchk (HT.out.since hsW (fun _ e=>e.elim) (Nat.le_refl _)) (Good.kept (hsW.keep.weaken (fun _ _ _ e=>e.elim)) Hf.out) (Good.kept (hsW.keep.weaken (fun _ _ _ e=>e.elim)) hps) (Good.kept (hsW.keep.weaken (fun _ _ _ e=>e.elim)) hbs) hfitn
      have Hcall:=zh hcall
      have HbW:=zh hbW
      have Hb1:=zh (hW1s ▸ hb1.size)
      clear hcall hbW hb1 hsW hchk hps hbs hfitn hbel
      go_wp2_with fail
      rw [←hW1,←hW]
      refine Hcall.out.mono ?_
      rintro en w3 ⟨rfl,vS',bs',st',hc3,hs3,hf3⟩
      have c8:=hc3.c8
      rw [hf3] at c8
      have Hb3:=zh (HbW.out.trans (hs3.below HbW.out.size (fun k e=>by rw [e];exact Hb1.out)))
      have Hbod:=zh (show bodiesT fs d n (f::fs.drop (n+1))=if funcT fs d f (endsF d f.body)≠0 then ((n:Int),funcT fs d f (endsF d f.body)) else bodiesT fs d (n+1) (fs.drop (n+1)) from rfl)
      generalize funcT fs d f (endsF d f.body)=ev at *
      clear hc3 hs3 hf3 hW1 hW
      by_cases hev:ev=0
      ·
       subst hev
       go_wp2_with fail
       go_roundw
       case rel=>exact ⟨n+1,by omega,by go_num,by rw [Hh.out,Hd.out,Hbod.out];simp,Hb3.out⟩
       case measure=>simp [intOf];omega
      ·
       have hev':(ev !=0)=true:=by simpa using hev
       have He:=zh (show R=((n:Int),ev) by rw [Hh.out,Hd.out,Hbod.out,if_pos hev])
       clear hev
       go_wp2_with fail
       go_quiet (fail)
       go_wp2_with fail
       go_ret2
       exact ⟨by rw [He.out];rfl,Hb3.out.trans (Drawn.below (w:=w3) ⟨_,rfl⟩ _)⟩
     ·
      have hne:n=fs.length:=by omega
      subst hne
      have hz8:decide ((fs.length:Int)<(fs.length:Int))=false:=decide_eq_false (by omega)
      have He:=zh (show R=(0,0) by rw [Hh.out];simp [bodiesT])
      clear hlt
      go_wp2_with fail
      go_ret2
      exact ⟨by rw [He.out];rfl,hbel⟩
   ·
    have z3:(fs[0].result !=0)=true:=by simpa using hr0
    have e:=zh (show R=(0,10) by rw [Hr2.out,if_pos (Or.inr hr0)])
    clear hp0 hr0
    go_wp2_with fail
    go_ret2
    exact ⟨by rw [e.out];rfl,hbel⟩
end Go.Proofs.YtkopjgnjflhkeaaGreatDoor

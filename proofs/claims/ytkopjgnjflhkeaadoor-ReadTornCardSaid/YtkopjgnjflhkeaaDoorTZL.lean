import Derived.Test.YtkopjgnjflhkeaaDoorTF
import Derived.Test.YtkopjgnjflhkeaaDoorTZK
namespace Go.Proofs.YtkopjgnjflhkeaaDoor
open Go.RowKit Go.Pst
set_option linter.unusedVariables false
set_option linter.unusedSimpArgs false
structure ReadLaid (w:World):Prop where
 rd:RdLaid w w.heap.size w.heap.size
 tab:TabOK w
 err:ErrOK w
def ReadEnd (w:World) (res:Except (Int × Int) (List PFunc)) (en:Ending) (w':World):Prop:=
 ∃ (v:Value) (p e:Int),en= .returned (.tuple #[v, .int .i64 p, .int .i64 e])∧Since (fun _=>False) w w'∧(match res with
  | .ok fs=>(∃ d,rFuncs d (fun k=>w.heap.size≤k) w' [v] fs)∧p=0∧e=0
  | .error (q,x)=>v= .slice none 0 0∧p=q∧e=x∧x≠0)
def finR:Except (Int × Int) (List PFunc × List Tok)→Except (Int × Int) (List PFunc)
 | .error e=> .error e
 | .ok (fs,_)=> .ok fs
def cutF:Except (Int × Int) (List Tok)→Except (Int × Int) (List PFunc)
 | .error e=> .error e
 | .ok ts=>finR (readLoop ts.length [] ts)
theorem readR_eq (s:List UInt8) (h: ¬4000<s.length):readR s=cutF (cutR s.length s 0 []):=by
 unfold readR
 rw [if_neg h]
 cases cutR s.length s 0 [] with
 |error e=>rfl
 |ok ts=>
  show (match readLoop ts.length [] ts with| .error e=> .error e| .ok (fs,_)=> .ok fs)=finR (readLoop ts.length [] ts)
  cases readLoop ts.length [] ts with
  |error e=>rfl
  |ok p=>rfl
theorem infoF:(Tryd.prog.info? 35).map (fun i=>(i.zero,i.size,i.bytes))=some (some (.agg #[.string ByteArray.empty, .slice none 0 0, .int .i64 0, .slice none 0 0]),4,72):=by kernel_rfl
theorem monoF:MonoR rFunc:=by
 intro d d' hd S w cs x h
 obtain ⟨v1,v3,h1,h2,h3,h4⟩:=h
 exact ⟨v1,v3,h1,h2,h3,rSlice_imp (rStmt_le hd) h4⟩
theorem rF_shape {S:Nat→Prop} {w:World} {cs:List Value} {x:PFunc} (h:rF S w cs x): ∃ a c a2 c2,cs=[.string x.name, .slice a x.params.length c, .int .i64 x.result, .slice a2 x.body.length c2]:=by
 obtain ⟨d,v1,v3,rfl,-,h3,h4⟩:=h
 obtain ⟨a,c,rfl⟩:=rSlice_shape h3
 obtain ⟨a2,c2,rfl⟩:=rSlice_shape h4
 exact ⟨a,c,a2,c2,rfl⟩
set_option maxRecDepth 4000 in
set_option maxHeartbeats 8000000 in
theorem read_any (s:ByteArray) (hsz:s.size≤9223372036854775807) (w:World) (hw:ReadLaid w):
 Calls Tryd.prog 6 #[.string s] w (ReadEnd w (readR s.data.toList)):=by
 obtain ⟨ix,ii0,iz0,iz1,iz2⟩:=info_parts infoF
 obtain ⟨X,hX⟩: ∃ X,X=readR s.data.toList:=⟨_,rfl⟩
 rw [←hX]
 have hlen:s.data.toList.length=s.size:=Array.length_toList
 have hszI:(s.size:Int)≤9223372036854775807:=by omega
 by_cases hbig:4000<s.size
 ·
  have hbI:(4000:Int)<(s.size:Int):=by omega
  have HX:=zh (show X= .error (0,1) by rw [hX];unfold readR;rw [if_pos (by rw [hlen];exact hbig)])
  clear hX hw hbig
  go_enter Tryd.func6,Tryd.ntmps6
  go_wp2_with fail
  refine bodyPost_ret (v:= .tuple #[.slice none 0 0, .int .i64 0, .int .i64 1]) (by simp [results,Tryd.results6,go_sem]) rfl ⟨_,0,1,rfl,Since.refl _ _,?_⟩
  rw [HX.out]
  exact ⟨rfl,rfl,rfl,by decide⟩
 have hbI: ¬(4000:Int)<(s.size:Int):=by omega
 have hs4:s.size≤4000:=by omega
 rw [readR_eq _ (by rw [hlen];exact hbig),hlen] at hX
 have s0:Since (fun _=>False) w (w.alloc (.cells #[.slice none 0 0, .int .i64 0, .int .i64 0, .int .i64 0, .int .i64 0] 49)):=Since.alloc _ _ _
 have kb:(w.alloc (.cells #[.slice none 0 0, .int .i64 0, .int .i64 0, .int .i64 0, .int .i64 0] 49)).heap[w.heap.size]?=some (.cells #[.slice none 0 0, .int .i64 0, .int .i64 0, .int .i64 0, .int .i64 0] 49 (0,0)):=heap_alloc_new w _
 have hcut:=readCut_any s hs4 _ kb (hw.rd.later s0) (hw.tab.since s0 (fun f=>f)) (hw.err.since s0 (fun f=>f)) ⟨hw.tab.lt,hw.err.lt⟩
 obtain ⟨C,hC⟩: ∃ C,C=cutR s.size s.data.toList 0 []:=⟨_,rfl⟩
 rw [←hC] at hcut hX
 have Hcut:=zh hcut
 have HX:=zh hX
 have HL0:=zh (hw.rd.later s0)
 have S0:=zh s0
 have hlt0:w.heap.size<(w.alloc (.cells #[.slice none 0 0, .int .i64 0, .int .i64 0, .int .i64 0, .int .i64 0] 49)).heap.size:=by simp
 have hfd0: ∀ (a c e:Int) (b:ByteArray) (w:World),(Instr.field 52 (.agg #[.int .u8 a, .string b, .int .i64 c, .int .i64 e]) 0).run Tryd.prog w= .ok (.int .u8 a) w:=fun _ _ _ _ _=>by kernel_rfl
 have hfd: ∀ (a c e:Int) (b:ByteArray) (w:World),(Instr.field 52 (.agg #[.int .u8 a, .string b, .int .i64 c, .int .i64 e]) 3).run Tryd.prog w= .ok (.int .i64 e) w:=fun _ _ _ _ _=>by kernel_rfl
 clear hX hC hw hcut s0 kb hbig
 go_enter Tryd.func6,Tryd.ntmps6
 go_wp2_with fail
 generalize w.alloc (.cells #[.slice none 0 0, .int .i64 0, .int .i64 0, .int .i64 0, .int .i64 0] 49)=w0 at *
 refine Hcut.out.mono ?_
 rintro en w1 ⟨rfl,hs1,hres⟩
 have hz1:=hs1.size
 have S1:=zh hs1
 have HL1:=zh (HL0.out.box hs1)
 clear hs1
 cases C with
 |error pe=>
  obtain ⟨p,e⟩:=pe
  obtain ⟨c2,c3,hne⟩:=(show w1.cell? ⟨w.heap.size,2,none⟩=some (.int .i64 p)∧w1.cell? ⟨w.heap.size,3,none⟩=some (.int .i64 e)∧e≠0 from hres)
  have fe:(e==0)=false:=by simpa using hne
  have fe2:(e !=0)=true:=by simpa using hne
  have Hne:=zh hne
  clear hres hne Hcut
  go_wp2_with fail
  go_loopw [6] (fun v wr=>v= .slice none 0 0∧wr=w1) (fun _ _=>0)
  case atStart=>exact ⟨rfl,rfl⟩
  case round=>
   obtain ⟨rfl,rfl⟩:=hrel
   go_wp2_with fail
   go_region
   all_goals go_wp2_with fail
   all_goals
    refine bodyPost_ret (v:= .tuple #[.slice none 0 0, .int .i64 p, .int .i64 e]) (by simp [results,Tryd.results6,go_sem]) rfl ⟨_,p,e,rfl,?_,?_⟩
    ·
     first
      |exact S0.out.then_new S1.out (fun k e=>Or.inr (by omega))
      |exact (S0.out.then_new S1.out (fun k e=>Or.inr (by omega))).trans (Since.drew _ _)
    ·
     rw [HX.out]
     exact ⟨rfl,rfl,rfl,Hne.out⟩
 |ok T=>
  obtain ⟨bT,cap,hA⟩:=(show ∃ bT cap,RdAt w1 w.heap.size bT cap T ⟨0,0,0,0⟩ from hres)
  have hTl:=hA.toks.len
  have hAlt:=hA.lt
  obtain ⟨Res,hRes⟩: ∃ Res,Res=runR T (readLoop T.length []) ⟨0,0,0,0⟩:=⟨_,rfl⟩
  have HX2:=zh (show X=finR Res from HX.out.trans (by rw [hRes,runR_ok rfl];rfl))
  have HA:=zh hA
  have HRes:=zh hRes
  obtain ⟨B0,hB0⟩: ∃ B0,B0=w1.heap.size:=⟨_,rfl⟩
  have hB0':B0≤w1.heap.size:=by omega
  have hB1:w.heap.size<B0:=by omega
  have hB2:bT<B0:=by have:=hAlt;omega
  have hB3:w0.heap.size≤B0:=by omega
  clear hres hA hRes Hcut hB0
  go_wp2_with fail
  go_loopg [6] T.length (fun k v wr=> ∃ (fs:List PFunc) (sc:RSt),RdAt wr w.heap.size bT cap T sc∧RdLaid wr w.heap.size w.heap.size∧Since (fun k=>k=w.heap.size) w0 wr∧RowG rFunc 4 wr B0 v fs 35∧B0≤wr.heap.size∧fs.length≤21∧(sc.fault=0→fs.length≤20)∧Res=runR T (readLoop k fs) sc∧(sc.fault=0→T.length - sc.i≤k∧sc.depth=30 - ((30:Nat):Int)))
  case atStart=>exact ⟨[],⟨0,0,0,0⟩,HA.out,HL1.out,S1.out,RowG.nil _ _ _ _ _,hB0',by decide,fun _=>by decide,HRes.out,fun _=>⟨by simp,by decide⟩⟩
  case round=>
   obtain ⟨fs,sc,hA,hB,hS,⟨ess,hown,DD,hall⟩,hbw,hl21,hl20,hR,hF⟩:=hrel
   obtain ⟨aC,cC,rfl,hcc1,hcc2⟩:=row_slice hown
   have c3:=hA.c3
   have c2:=hA.c2
   have Hreads:=zh (RowG.reads (R:=rFunc) ⟨ess,hown,DD,hall⟩)
   have H9:=zh hA
   have B9:=zh hB
   have S9:=zh hS
   have Hown:=zh hown
   have Hall:=zh hall
   have HR:=zh hR
   have HF:=zh hF
   have Hl20:=zh hl20
   clear hA hB hS hown hall hR hF hl20
   by_cases h0:sc.fault=0
   ·
    obtain ⟨t,ht⟩: ∃ t,seeR T sc=t:=⟨_,rfl⟩
    have hpk:=readPeek_any H9.out
    rw [ht] at hpk
    obtain ⟨tk,ts,tn,tp⟩:=t
    have hi:=H9.out.inn h0
    obtain ⟨k',rfl⟩: ∃ k',gk=k'+1:=⟨gk - 1,by have:=(HF.out h0).1;omega⟩
    have hR2:Res=if tk=101 then .ok (fs,T.drop sc.i) else PR.bind funcR (fun g=>if 20<fs.length+1 then PR.bad tp 1 else readLoop k' (fs++[g])) (T.drop sc.i):=by
     rw [HR.out,runR_ok h0]
     show (if (headR (T.drop sc.i)).kind=101 then _ else _)=_
     rw [←seeR_head h0,ht]
    have HR2:=zh hR2
    have Hpk:=zh hpk
    have H0:=zh h0
    have Ht:=zh ht
    rw [h0] at c3
    clear hR2 hpk h0 hi ht
    go_wp2_with fail
    refine Hpk.out.mono ?_
    rintro en w2 ⟨rfl,hs2⟩
    simp only [tokC]
    have hz2:=hs2.size
    have H2:=zh (H9.out.later hs2)
    have B2:=zh (B9.out.later hs2)
    have Q2:=zh (show Since (fun k=>k=w.heap.size) wr w2 from hs2.mono (fun _ f=>f.elim))
    have c3:=H2.out.c3
    rw [H0.out] at c3
    clear hs2
    by_cases e1:tk=101
    ·
     subst e1
     go_wp2_with fail
     refine bodyPost_ret (v:= .tuple #[.slice aC fs.length cC, .int .i64 0, .int .i64 0]) (by simp [results,Tryd.results6,go_sem]) rfl ⟨_,0,0,rfl,S0.out.then_new (S9.out.trans Q2.out) (fun k e=>Or.inr (by omega)),?_⟩
     rw [HX2.out,HR2.out,if_pos (by trivial)]
     obtain ⟨dd,hh⟩:=Hreads.out
     exact ⟨⟨dd,Good.keep (R:=rSlice 4 (rFunc dd)) ⟨Q2.out.size,fun k hk hS=>Q2.out.block k hk (by omega)⟩ (fun k h1 h2=>by omega) hh⟩,rfl,rfl⟩
    ·
     have f1:(tk !=101)=true:=by simp [e1]
     have E1:=zh e1
     have Hpk2:=zh (show Calls Tryd.prog 11 #[.pointer (some ⟨w.heap.size,0,none⟩)] w2 fun en w'=>en= .returned (.agg #[.int .u8 tk, .string ts, .int .i64 tn, .int .i64 tp])∧Since (fun _=>False) w2 w' from by
      have h:=readPeek_any H2.out
      rw [Ht.out] at h
      exact h)
     clear e1
     go_wp2_with fail
     refine Hpk2.out.mono ?_
     rintro en w3 ⟨rfl,hs3⟩
     have hz3:=hs3.size
     have H3:=zh (H2.out.later hs3)
     have B3:=zh (B2.out.later hs3)
     have Q3:=zh (Q2.out.trans (show Since (fun k=>k=w.heap.size) w2 w3 from hs3.mono (fun _ f=>f.elim)))
     clear hs3 c3
     go_wp2_with fail
     refine (readFunc_any 30 (blockOK_all 30 (by decide)) H3.out B3.out H0.out (HF.out H0.out).2).mono ?_
     rintro en w4 ⟨cs,x,st4,rfl,hx,h4,hs4,hg4⟩
     obtain ⟨a,c,a2,c2,rfl⟩:=rF_shape hx
     have hz4:=hs4.size
     have H4:=zh h4
     have B4:=zh (B3.out.box hs4)
     have Q4:=zh (Q3.out.trans hs4)
     have hgS:Good' T (30 - ((30:Nat):Int)) (runR T funcR sc) x st4:=by rw [runR_ok H0.out];exact hg4
     have HgS:=zh hgS
     have RS:=zh (hgS.next (q:=fun g=>if 20<fs.length+1 then PR.bad tp 1 else readLoop k' (fs++[g])) ((HR2.out.trans (if_neg E1.out)).trans (runR_ok (T:=T) H0.out).symm))
     obtain ⟨dx,hdx⟩:=hx
     have Hx4:=zh (show rFunc dx (fun k=>wr.heap.size≤k) w4 [.string x.name, .slice a x.params.length c, .int .i64 x.result, .slice a2 x.body.length c2] x from Good.wide (R:=rFunc dx) hdx (fun k _ h=>by omega))
     have Hown4:=zh (Q4.out.row Hown.out (fun k e f=>by have:=(Hown.out.lt k e).1;omega))
     have hl20:=Hl20.out H0.out
     clear h4 hs4 hg4 hgS hdx
     have Hfuel:=zh (show st4.fault=0→T.length - st4.i≤k'∧st4.depth=30 - ((30:Nat):Int) from fun e=>⟨by have l1:=HgS.out.shr Shr.func e;have l2:=(HF.out H0.out).1;omega,HgS.out.dep_eq e⟩)
     by_cases h20:20<fs.length+1
     ·
      have d20:(20:Int)<(fs.length:Int)+1:=by omega
      have H20:=zh h20
      clear h20
      go_wp2_with (at_builtin;refine wpList_append_own_at _ rfl _ _ 22 rfl B0 35 ix _ 4 72 Tryd.underlying22 ii0 iz0 iz1 iz2 rfl (by decide) (.slice aC fs.length cC) fs.length ess.flatten rfl (Hown4.out.alloc _) ⟨w4.heap.size,0,none⟩ 1 1 [.string x.name, .slice a x.params.length c, .int .i64 x.result, .slice a2 x.body.length c2] rfl rfl (World.news_of_block (heap_alloc_new w4 _)) (by simp [Value.oneCell']) (by unfold maxLen;omega) (by omega) (by rw [World.size_alloc];omega) ?_;intro v5 w5 hown5 hg5 hnil5 hat5;clear hnil5;have HRow:=zh (RowG.push monoF Hown.out Hall.out Q4.out (fun k e=>by omega) Hx4.out rfl hown5 hg5 (by simpa using hat5) hbw);have Hs5:=zh ((Since.alloc (fun k=>(Value.slice aC fs.length cC).ownBlock=some k) w4 _).trans (Since.grown hg5));obtain ⟨aW,cW,rfl,-,-⟩:=row_slice hown5;clear hown5 hg5 hat5)
      have hz5:=Hs5.out.size
      refine (readWrong_any (H4.out.since Hs5.out (fun f=>by have:=(Hown4.out.lt _ f).1;omega) (fun f=>by have:=(Hown4.out.lt _ f).1;omega)) tp 1 (by decide)).mono ?_
      rintro en w6 ⟨rfl,h6,hs6⟩
      have hz6:=hs6.size
      have H6:=zh h6
      have hnz:(st4.bad tp 1).fault≠0:=by
       unfold RSt.bad
       by_cases hz:st4.fault=0
       ·
        rw [if_pos hz];show (1:Int)≠0;decide
       ·
        rw [if_neg hz];exact hz
      have RP:=zh (show Res=runR T (readLoop k' (fs++[x])) (st4.bad tp 1) from by
       rw [runR_bad hnz,RS.out]
       unfold RSt.bad
       by_cases hz:st4.fault=0
       ·
        rw [if_pos hz,runR_ok hz,if_pos H20.out];rfl
       ·
        rw [if_neg hz,runR_bad hz])
      have Hnz:=zh hnz
      have Hs6:=zh hs6
      clear h6 hs6 hnz
      go_wp2_with fail
      go_roundg k'
      case measure=>omega
      case rel=>exact ⟨fs++[x],st4.bad tp 1,H6.out,(B4.out.since Hs5.out (fun k f=>by have:=(Hown4.out.lt _ f).1;omega)).box Hs6.out,((S9.out.trans Q4.out).then_new Hs5.out (fun k f=>Or.inr (by have:=(Hown4.out.lt _ f).1;omega))).trans Hs6.out,rowG_since HRow.out Hs6.out (fun k e=>by omega),by omega,by simp;omega,fun e=>absurd e Hnz.out,RP.out,fun e=>absurd e Hnz.out⟩
     ·
      have d20: ¬(20:Int)<(fs.length:Int)+1:=by omega
      have H20:=zh h20
      clear h20
      go_wp2_with (at_builtin;refine wpList_append_own_at _ rfl _ _ 22 rfl B0 35 ix _ 4 72 Tryd.underlying22 ii0 iz0 iz1 iz2 rfl (by decide) (.slice aC fs.length cC) fs.length ess.flatten rfl (Hown4.out.alloc _) ⟨w4.heap.size,0,none⟩ 1 1 [.string x.name, .slice a x.params.length c, .int .i64 x.result, .slice a2 x.body.length c2] rfl rfl (World.news_of_block (heap_alloc_new w4 _)) (by simp [Value.oneCell']) (by unfold maxLen;omega) (by omega) (by rw [World.size_alloc];omega) ?_;intro v5 w5 hown5 hg5 hnil5 hat5;clear hnil5;have HRow:=zh (RowG.push monoF Hown.out Hall.out Q4.out (fun k e=>by omega) Hx4.out rfl hown5 hg5 (by simpa using hat5) hbw);have Hs5:=zh ((Since.alloc (fun k=>(Value.slice aC fs.length cC).ownBlock=some k) w4 _).trans (Since.grown hg5));obtain ⟨aW,cW,rfl,-,-⟩:=row_slice hown5;clear hown5 hg5 hat5)
      have hz5:=Hs5.out.size
      go_roundg k'
      case measure=>omega
      case rel=>exact ⟨fs++[x],st4,H4.out.since Hs5.out (fun f=>by have:=(Hown4.out.lt _ f).1;omega) (fun f=>by have:=(Hown4.out.lt _ f).1;omega),B4.out.since Hs5.out (fun k f=>by have:=(Hown4.out.lt _ f).1;omega),(S9.out.trans Q4.out).then_new Hs5.out (fun k f=>Or.inr (by have:=(Hown4.out.lt _ f).1;omega)),HRow.out,by omega,by simp;omega,fun _=>by have:=H20.out;simp;omega,by rw [RS.out,if_neg H20.out],Hfuel.out⟩
   ·
    have f0:(sc.fault==0)=false:=by simpa using h0
    have f1:(sc.fault !=0)=true:=by simpa using h0
    have H0:=zh h0
    clear h0
    go_wp2_with fail
    go_region
    all_goals go_wp2_with fail
    all_goals
     refine bodyPost_ret (v:= .tuple #[.slice none 0 0, .int .i64 sc.pos, .int .i64 sc.fault]) (by simp [results,Tryd.results6,go_sem]) rfl ⟨_,sc.pos,sc.fault,rfl,?_,?_⟩
     ·
      first
       |exact S0.out.then_new S9.out (fun k e=>Or.inr (by omega))
       |exact (S0.out.then_new S9.out (fun k e=>Or.inr (by omega))).trans (Since.drew _ _)
     ·
      rw [HX2.out,HR.out,runR_bad H0.out]
      exact ⟨rfl,rfl,rfl,H0.out⟩
end Go.Proofs.YtkopjgnjflhkeaaDoor

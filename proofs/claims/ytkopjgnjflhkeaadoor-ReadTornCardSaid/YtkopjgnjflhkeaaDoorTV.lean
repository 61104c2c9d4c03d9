import Derived.Test.YtkopjgnjflhkeaaDoorTA
import Derived.Deep.AppendLies
import Derived.Deep.LoopGhost
namespace Go.Pst
open Go.RowKit
set_option linter.unusedVariables false
def rX:Rep PExpr:=fun S w cs x=> ∃ d,rExpr d S w cs x
def rXs:Rep (List PExpr):=fun S w cs l=> ∃ d,rSlice 4 (rExpr d) S w cs l
instance good_rX:Good rX:=⟨by
 rintro S S' w w' cs x hk hs ⟨d,h⟩
 exact ⟨d,Good.keep hk hs h⟩⟩
instance good_rXs:Good rXs:=⟨by
 rintro S S' w w' cs x hk hs ⟨d,h⟩
 exact ⟨d,Good.keep hk hs h⟩⟩
theorem rX_shape {S:Nat→Prop} {w:World} {cs:List Value} {x:PExpr} (h:rX S w cs x): ∃ a c,cs=[.int .i64 x.kind, .int .i64 x.n, .string x.s, .slice a x.args.length c]:=by
 obtain ⟨d,h⟩:=h
 cases d with
 |zero=>exact h.elim
 |succ d=>
  obtain ⟨v3,rfl,_,h3⟩:=h
  obtain ⟨a,c,rfl⟩:=rSlice_shape h3
  exact ⟨a,c,rfl⟩
theorem rX_zero (S:Nat→Prop) (w:World) (k n:Int) (s:ByteArray) (hk:InI k) (hn:InI n) (hs:s.size≤maxLen):rX S w [.int .i64 k, .int .i64 n, .string s, .slice none 0 0] (.mk k n s []):=
 ⟨1,_,rfl,⟨hk,hn,hs⟩,rSlice_nil _ _ _ _⟩
theorem rX_mk {S:Nat→Prop} {w:World} {v3:Value} {l:List PExpr} (k n:Int) (s:ByteArray) (hk:InI k) (hn:InI n) (hs:s.size≤maxLen) (h:rXs S w [v3] l):rX S w [.int .i64 k, .int .i64 n, .string s,v3] (.mk k n s l):=by
 obtain ⟨d,h⟩:=h
 exact ⟨d+1,v3,rfl,⟨hk,hn,hs⟩,h⟩
theorem rAll_imp {α:Type} {sz:Nat} {R R':Rep α} {S S':Nat→Prop} {w:World} (h: ∀ cs x,R S w cs x→R' S' w cs x): ∀ {ess:List (List Value)} {l:List α},rAll sz R S w ess l→rAll sz R' S' w ess l
 |[],[],_=>trivial
 |es::r,x::l,k=>⟨⟨k.1.1,h _ _ k.1.2⟩,rAll_imp h k.2⟩
def RowG {α:Type} (R:Nat→Rep α) (sz:Nat) (w:World) (base:Nat) (v:Value) (l:List α) (t:TypeId):Prop:=
 ∃ ess,w.ownsRow base t sz v l.length ess.flatten∧ ∃ d,rAll sz (R d) (fun k=>base≤k∧v.ownBlock≠some k) w ess l
def MonoR {α:Type} (R:Nat→Rep α):Prop:= ∀ {d d':Nat} (_:d≤d') {S:Nat→Prop} {w:World} (cs:List Value) (x:α),R d S w cs x→R d' S w cs x
theorem RowG.nil {α:Type} (R:Nat→Rep α) (sz:Nat) (w:World) (base:Nat) (t:TypeId):RowG R sz w base (.slice none 0 0) [] t:=⟨[],World.ownsRow_nil _ _ _ _,0,trivial⟩
theorem RowG.reads {α:Type} {R:Nat→Rep α} {sz:Nat} {w:World} {base:Nat} {v:Value} {l:List α} {t:TypeId} [∀ d,Good (R d)] (h:RowG R sz w base v l t): ∃ d,rSlice sz (R d) (fun k=>base≤k) w [v] l:=by
 obtain ⟨ess,h1,d,h2⟩:=h
 exact ⟨d,rSlice_ownN (T:=fun k=>base≤k) h1 (fun k e=>(h1.lt k e).1) (rAll_keep (Keep.refl _ _) (fun k _ h=>h.1) h2)⟩
theorem RowG.push {α:Type} {R:Nat→Rep α} {sz:Nat} {wr w4 w5:World} {base:Nat} {v v2:Value} {l:List α} {x:α} {t:TypeId} {ess:List (List Value)} {cs:List Value} {o:Obj} {d d':Nat} {F:Nat→Prop} [∀ d,Good (R d)] (hm:MonoR R)
 (hown:wr.ownsRow base t sz v l.length ess.flatten) (hall:rAll sz (R d) (fun k=>base≤k∧v.ownBlock≠some k) wr ess l) (hs:Since F wr w4) (hF: ∀ k,F k→k<base) (hx:R d' (fun k=>wr.heap.size≤k) w4 cs x) (hl:cs.length=sz)
 (hown5:w5.ownsRow base t sz v2 (l.length+1) (ess.flatten++cs)) (hg:(w4.alloc o).grownBy w5 v.ownBlock) (hat:v2.ownBlock=v.ownBlock∨v2.ownBlock=some (w4.heap.size+1)) (hb:base≤wr.heap.size):RowG R sz w5 base v2 (l++[x]) t:=by
 have hsz:=hs.size
 have hgs:=hg.size
 have hblk: ∀ k,k<w4.heap.size→v.ownBlock≠some k→w5.heap[k]?=w4.heap[k]?:=fun k hk hn=>(hg.block k (by simp;omega) (fun e=>hn e.symm)).trans (Below.heap_alloc _ _ _ hk)
 have hv: ∀ k,v.ownBlock=some k→k<wr.heap.size:=fun k e=>(hown.lt k e).2
 have hv2: ∀ k,k<w4.heap.size→v.ownBlock≠some k→v2.ownBlock≠some k:=fun k hk hn e=>by
  rcases hat with e2|e2
  ·
   exact hn (e2.symm.trans e)
  ·
   rw [e2] at e;injection e with e;omega
 refine ⟨ess++[cs],by rw [List.length_append,List.length_singleton,List.flatten_append];simpa using hown5,max d d',rAll_snoc hl ?_ ?_⟩
 ·
  refine Good.keep (w:=w4) (S:=fun k=>wr.heap.size≤k) ⟨by simp at hgs;omega,fun k hk hS=>hblk k hk (fun e=>by have:=hv k e;omega)⟩ (fun k hk hS=>⟨by omega,hv2 k hk (fun e=>by have:=hv k e;omega)⟩) (hm (Nat.le_max_right _ _) _ _ hx)
 ·
  refine rAll_imp (fun cs x=>hm (Nat.le_max_left d d') cs x) (rAll_keep (w:=wr) ⟨by simp at hgs;omega,fun k hk hS=>?_⟩ (fun k hk hS=>⟨hS.1,hv2 k (by omega) hS.2⟩) hall)
  exact (hblk k (by omega) hS.2).trans (hs.block k hk (fun f=>by have:=hF k f;have:=hS.1;omega))
theorem monoX:MonoR rExpr:=fun h=>rExpr_le h
theorem Good'.fault_of {α:Type} {T:List Tok} {dep:Int} {p:PR α} {st st':RSt} {x:α} (h:Good' T dep (runR T p st) x st') (h0:st'.fault=0):st.fault=0:=by
 by_cases e:st.fault=0
 ·
  exact e
 ·
  rw [runR_bad e] at h
  exact absurd (h.1.symm.trans h0) e
theorem Good'.shr {α:Type} {T:List Tok} {dep:Int} {p:PR α} {st st':RSt} {x:α} (hp:Shr p) (h:Good' T dep (runR T p st) x st') (h0:st'.fault=0):T.length - st'.i<T.length - st.i:=by
 have h1:=(h.fault0 h0).1
 rw [runR_ok (h.fault_of h0)] at h1
 simpa using hp _ _ _ h1
theorem Good'.kp {α:Type} {T:List Tok} {dep:Int} {p:PR α} {st st':RSt} {x:α} (hp:Kp p) (h:Good' T dep (runR T p st) x st') (h0:st'.fault=0):T.length - st'.i≤T.length - st.i:=by
 have h1:=(h.fault0 h0).1
 rw [runR_ok (h.fault_of h0)] at h1
 simpa using hp _ _ _ h1
end Go.Pst
namespace Go.Proofs.YtkopjgnjflhkeaaDoor
open Go.RowKit Go.Pst
set_option linter.unusedVariables false
set_option linter.unusedSimpArgs false
variable {w:World} {br bT cap base:Nat} {T:List Tok} {st:RSt} {dep:Int}
def RdX (w:World) (br bT cap:Nat) (T:List Tok) (dep:Int) (res:Except (Int × Int) (PExpr × List Tok)) (en:Ending) (w':World):Prop:=
 ∃ cs x st',en= .returned (.agg cs.toArray)∧rX (fun k=>w.heap.size≤k) w' cs x∧RdAt w' br bT cap T st'∧Since (fun k=>k=br) w w'∧Good' T dep res x st'
def RdXs (w:World) (br bT cap:Nat) (T:List Tok) (dep:Int) (res:Except (Int × Int) (List PExpr × List Tok)) (en:Ending) (w':World):Prop:=
 ∃ v l st',en= .returned v∧rXs (fun k=>w.heap.size≤k) w' [v] l∧RdAt w' br bT cap T st'∧Since (fun k=>k=br) w w'∧Good' T dep res l st'
def ExprOK (d:Nat):Prop:= ∀ (w:World) (br bT cap base:Nat) (T:List Tok) (st:RSt),RdAt w br bT cap T st→RdLaid w base br→(st.fault=0→st.depth=30 - (d:Int))→
 Calls Tryd.prog 64 #[.pointer (some ⟨br,0,none⟩)] w (RdX w br bT cap T (30 - (d:Int)) (runR T (exprR d) st))
theorem infoX:(Tryd.prog.info? 28).map (fun i=>(i.zero,i.size,i.bytes))=some (some (.agg #[.int .i64 0, .int .i64 0, .string ByteArray.empty, .slice none 0 0]),4,56):=by kernel_rfl
set_option maxRecDepth 4000 in
set_option maxHeartbeats 4000000 in
theorem readArgs_any {d:Nat} (hE:ExprOK d) (h:RdAt w br bT cap T st) (hL:RdLaid w base br) (hd:st.fault=0→st.depth=30 - (d:Int)):
 Calls Tryd.prog 78 #[.pointer (some ⟨br,0,none⟩)] w (RdXs w br bT cap T (30 - (d:Int)) (runR T (argsR (exprR d)) st)):=by
 obtain ⟨ix,hi0,hz0,hz1,hz2⟩:=info_parts infoX
 obtain ⟨Res,hres⟩: ∃ Res,Res=runR T (argsR (exprR d)) st:=⟨_,rfl⟩
 rw [←hres]
 have hm:=readMust_any h hd ⟨#[40]⟩
 have hbr:=h.lt.1
 have hbT:=h.lt.2
 have HE:=zh hE
 have HL:=zh hL
 have Hres:=zh hres
 have Hm:=zh hm
 clear hE h hL hres hm hd
 go_enter Tryd.func78,Tryd.ntmps78
 go_wp2_with fail
 refine Hm.out.mono ?_
 rintro en w1 ⟨st1,rfl,h1,hs1,hg1⟩
 have hL1:=HL.out.box hs1
 have heq:Res=runR T (fun r=>argsLoop (exprR d) r.length [] r) st1:=by rw [Hres.out];unfold argsR;exact hg1.bind
 have hdp:st1.fault=0→st1.depth=30 - (d:Int):=fun e=>hg1.dep_eq e
 have heq1:Res=runR T (argsLoop (exprR d) (T.length - st1.i) []) st1:=by
  rw [heq]
  by_cases e:st1.fault=0
  ·
   rw [runR_ok e,runR_ok e,List.length_drop]
  ·
   rw [runR_bad e,runR_bad e]
 have H1:=zh h1
 have Hs1:=zh hs1
 have HL1:=zh hL1
 have Heq:=zh heq1
 have Hdp:=zh hdp
 clear h1 hs1 hL1 heq heq1 hdp hg1
 go_wp2_with fail
 go_loopg [3] (T.length - st1.i) (fun k v wr=> ∃ (out:List PExpr) (sc:RSt),RdAt wr br bT cap T sc∧RdLaid wr base br∧Since (fun k=>k=br) w wr∧RowG rExpr 4 wr w.heap.size v out 28∧out.length+k≤T.length∧Res=runR T (argsLoop (exprR d) k out) sc∧(sc.fault=0→T.length - sc.i≤k∧sc.depth=30 - (d:Int)))
 case atStart=>exact ⟨[],st1,H1.out,HL1.out,Hs1.out,RowG.nil _ _ _ _ _,by simp,Heq.out,fun e=>⟨Nat.le_refl _,Hdp.out e⟩⟩
 case round=>
  obtain ⟨out,sc,hA,hB,hS,⟨ess,hown,D,hall⟩,hlen,hR,hF⟩:=hrel
  obtain ⟨aV,cV,rfl,hcv1,hcv2⟩:=row_slice hown
  have c3:=hA.c3
  have hT:=hA.toks.len
  have Hreads:=zh (RowG.reads (R:=rExpr) ⟨ess,hown,D,hall⟩)
  have HA:=zh hA
  have HB:=zh hB
  have HS:=zh hS
  have Hown:=zh hown
  have Hall:=zh hall
  have HR:=zh hR
  have HF:=zh hF
  clear hA hB hS hown hall hR hF
  by_cases h0:sc.fault=0
  ·
   have f0:(sc.fault==0)=true:=by simpa using h0
   have hi:=HA.out.inn h0
   obtain ⟨k',rfl⟩: ∃ k',gk=k'+1:=⟨gk - 1,by have:=(HF.out h0).1;omega⟩
   have H0:=zh h0
   have Hi:=zh hi
   have HIs:=zh (readIs_any HA.out (fun _=>(HF.out h0).2) ⟨#[41]⟩)
   clear h0 hi
   go_wp2_with fail
   refine HIs.out.mono ?_
   rintro en w2 ⟨b,st2,rfl,h2,hs2,hg2,-,-,hb2⟩
   have he:Res=runR T (if b=true then PR.ret out else PR.bind (commaR out) fun _=>PR.bind (exprR d) fun y=>argsLoop (exprR d) k' (out++[y])) st2:=by
    rw [HR.out]
    exact hg2.bind
   have H2:=zh h2
   have Hs2:=zh hs2
   have He:=zh he
   have Hb2:=zh hb2
   have Hdp2:=zh (show st2.fault=0→st2.depth=30 - (d:Int) from fun e=>hg2.dep_eq e)
   clear h2 hs2 he hb2 hg2
   cases b with
   |true=>
    go_wp2_with fail
    go_ret
    exact ⟨_,out,st2,rfl,Good.keep (R:=rXs) ⟨Hs2.out.size,fun k hk hS=>Hs2.out.block k hk (by omega)⟩ (fun _ _ h=>h) Hreads.out,H2.out,HS.out.trans Hs2.out,by rw [He.out];exact Good'.ret _ Hdp2.out⟩
   |false=>
    have Hsc:=zh (Hb2.out rfl)
    clear Hb2
    by_cases hl0:0<out.length
    ·
     have hm:=readMust_any H2.out Hdp2.out ⟨#[44]⟩
     have Hm2:=zh hm
     clear hm
     go_wp2_with fail
     refine Hm2.out.mono ?_
     rintro en w3 ⟨st3,rfl,h3,hs3,hg3⟩
     have hc:Good' T (30 - (d:Int)) (runR T (commaR out) st2) () st3:=by unfold commaR;rw [if_pos hl0];exact hg3
     have he3:Res=runR T (PR.bind (exprR d) fun y=>argsLoop (exprR d) k' (out++[y])) st3:=by rw [He.out];exact hc.bind
     have H3:=zh h3
     have HL3:=zh ((HB.out.box Hs2.out).box hs3)
     have Hs3:=zh (Hs2.out.trans hs3)
     have Hg3:=zh hc
     have He3:=zh he3
     have Hdp3:=zh (show st3.fault=0→st3.depth=30 - (d:Int) from fun e=>hc.dep_eq e)
     clear h3 hs3 hg3 hc he3
     go_wp2_with fail
     refine (HE.out w3 br bT cap base T st3 H3.out HL3.out Hdp3.out).mono ?_
     rintro en w4 ⟨cs,x,st4,rfl,hx,h4,hs4,hg4⟩
     obtain ⟨ax,cx,rfl⟩:=rX_shape hx
     have hs34:=Hs3.out.trans hs4
     have hown4:=hs34.row Hown.out (fun k e f=>by have:=(Hown.out.lt k e).1;omega)
     have hbw:w.heap.size≤w4.heap.size:=Nat.le_trans HS.out.size hs34.size
     have h3sz:=Hs3.out.size
     have hnext:Res=runR T (argsLoop (exprR d) k' (out++[x])) st4:=by rw [He3.out];exact hg4.bind
     have hfuel:st4.fault=0→T.length - st4.i≤k'∧st4.depth=30 - (d:Int):=fun e=>by
      have l1:=hg4.shr (Shr.expr d) e
      have e3:=hg4.fault_of e
      have l2:=Hg3.out.kp Kp.comma e3
      have e2:=Hg3.out.fault_of e3
      have l3:st2=sc:=Hsc.out
      have l5:st2.i=sc.i:=by rw [l3]
      rw [l3] at e2
      have l4:=(HF.out e2).1
      exact ⟨by omega,hg4.dep_eq e⟩
     obtain ⟨d',hx'⟩:=hx
     have Hx':=zh (show rExpr d' (fun k=>wr.heap.size≤k) w4 [.int .i64 x.kind, .int .i64 x.n, .string x.s, .slice ax x.args.length cx] x from Good.wide hx' (fun k _ h=>Nat.le_trans h3sz h))
     have H4:=zh h4
     have Hs34:=zh hs34
     have Hown4:=zh hown4
     have Hnext:=zh hnext
     have Hfuel:=zh hfuel
     clear h4 hs4 hg4 hs34 hown4 hnext hfuel hx' h3sz
     go_wp2_with (at_builtin;refine wpList_append_own_at _ rfl _ _ 26 rfl w.heap.size 28 ix _ 4 56 Tryd.underlying26 hi0 hz0 hz1 hz2 rfl (by decide) (.slice aV out.length cV) out.length ess.flatten rfl (Hown4.out.alloc _) ⟨w4.heap.size,0,none⟩ 1 1 [.int .i64 x.kind, .int .i64 x.n, .string x.s, .slice ax x.args.length cx] rfl rfl (World.news_of_block (heap_alloc_new w4 _)) (by simp [Value.oneCell']) (by unfold maxLen;omega) (by omega) (by simp;omega) ?_;intro v5 w5 hown5 hg5 hnil5 hat5;clear hnil5;have HRow:=zh (RowG.push monoX Hown.out Hall.out Hs34.out (fun k e=>by omega) Hx'.out rfl hown5 hg5 (by simpa using hat5) HS.out.size);have Hs5:=zh ((Since.alloc (fun k=>(Value.slice aV out.length cV).ownBlock=some k) w4 _).trans (Since.grown hg5));obtain ⟨aW,cW,rfl,-,-⟩:=row_slice hown5;clear hown5 hg5 hat5)
     go_roundg k'
     case measure=>omega
     case rel=>
      refine ⟨out++[x],st4,H4.out.since Hs5.out (fun f=>by have:=(Hown4.out.lt _ f).1;omega) (fun f=>by have:=(Hown4.out.lt _ f).1;omega),(HB.out.box Hs34.out).since Hs5.out (fun k f=>by have:=(Hown4.out.lt _ f).1;have:=HL.out.lb.2;omega),(HS.out.trans Hs34.out).then_new Hs5.out (fun k f=>Or.inr (Hown4.out.lt _ f).1),HRow.out,by simp;omega,Hnext.out,Hfuel.out⟩
    ·
     have hc:Good' T (30 - (d:Int)) (runR T (commaR out) st2) () st2:=by unfold commaR;rw [if_neg hl0];exact Good'.ret () Hdp2.out
     have he3:Res=runR T (PR.bind (exprR d) fun y=>argsLoop (exprR d) k' (out++[y])) st2:=by rw [He.out];exact hc.bind
     have HL3:=zh (HB.out.box Hs2.out)
     have Hg3:=zh hc
     have He3:=zh he3
     clear hc he3
     go_wp2_with fail
     refine (HE.out w2 br bT cap base T st2 H2.out HL3.out Hdp2.out).mono ?_
     rintro en w4 ⟨cs,x,st4,rfl,hx,h4,hs4,hg4⟩
     obtain ⟨ax,cx,rfl⟩:=rX_shape hx
     have hs34:=Hs2.out.trans hs4
     have hown4:=hs34.row Hown.out (fun k e f=>by have:=(Hown.out.lt k e).1;omega)
     have hbw:w.heap.size≤w4.heap.size:=Nat.le_trans HS.out.size hs34.size
     have h3sz:=Hs2.out.size
     have hnext:Res=runR T (argsLoop (exprR d) k' (out++[x])) st4:=by rw [He3.out];exact hg4.bind
     have hfuel:st4.fault=0→T.length - st4.i≤k'∧st4.depth=30 - (d:Int):=fun e=>by
      have l1:=hg4.shr (Shr.expr d) e
      have e3:=hg4.fault_of e
      have l2:=Hg3.out.kp Kp.comma e3
      have e2:=Hg3.out.fault_of e3
      have l3:st2=sc:=Hsc.out
      have l5:st2.i=sc.i:=by rw [l3]
      rw [l3] at e2
      have l4:=(HF.out e2).1
      exact ⟨by omega,hg4.dep_eq e⟩
     obtain ⟨d',hx'⟩:=hx
     have Hx':=zh (show rExpr d' (fun k=>wr.heap.size≤k) w4 [.int .i64 x.kind, .int .i64 x.n, .string x.s, .slice ax x.args.length cx] x from Good.wide hx' (fun k _ h=>Nat.le_trans h3sz h))
     have H4:=zh h4
     have Hs34:=zh hs34
     have Hown4:=zh hown4
     have Hnext:=zh hnext
     have Hfuel:=zh hfuel
     clear h4 hs4 hg4 hs34 hown4 hnext hfuel hx' h3sz
     go_wp2_with (at_builtin;refine wpList_append_own_at _ rfl _ _ 26 rfl w.heap.size 28 ix _ 4 56 Tryd.underlying26 hi0 hz0 hz1 hz2 rfl (by decide) (.slice aV out.length cV) out.length ess.flatten rfl (Hown4.out.alloc _) ⟨w4.heap.size,0,none⟩ 1 1 [.int .i64 x.kind, .int .i64 x.n, .string x.s, .slice ax x.args.length cx] rfl rfl (World.news_of_block (heap_alloc_new w4 _)) (by simp [Value.oneCell']) (by unfold maxLen;omega) (by omega) (by simp;omega) ?_;intro v5 w5 hown5 hg5 hnil5 hat5;clear hnil5;have HRow:=zh (RowG.push monoX Hown.out Hall.out Hs34.out (fun k e=>by omega) Hx'.out rfl hown5 hg5 (by simpa using hat5) HS.out.size);have Hs5:=zh ((Since.alloc (fun k=>(Value.slice aV out.length cV).ownBlock=some k) w4 _).trans (Since.grown hg5));obtain ⟨aW,cW,rfl,-,-⟩:=row_slice hown5;clear hown5 hg5 hat5)
     go_roundg k'
     case measure=>omega
     case rel=>
      refine ⟨out++[x],st4,H4.out.since Hs5.out (fun f=>by have:=(Hown4.out.lt _ f).1;omega) (fun f=>by have:=(Hown4.out.lt _ f).1;omega),(HB.out.box Hs34.out).since Hs5.out (fun k f=>by have:=(Hown4.out.lt _ f).1;have:=HL.out.lb.2;omega),(HS.out.trans Hs34.out).then_new Hs5.out (fun k f=>Or.inr (Hown4.out.lt _ f).1),HRow.out,by simp;omega,Hnext.out,Hfuel.out⟩
  ·
   have f0:(sc.fault==0)=false:=by simpa using h0
   have H0:=zh h0
   clear h0
   go_wp2_with fail
   go_ret
   exact ⟨_,out,sc,rfl,Hreads.out,HA.out,HS.out,by rw [HR.out,runR_bad H0.out];exact ⟨rfl,rfl,H0.out⟩⟩
end Go.Proofs.YtkopjgnjflhkeaaDoor

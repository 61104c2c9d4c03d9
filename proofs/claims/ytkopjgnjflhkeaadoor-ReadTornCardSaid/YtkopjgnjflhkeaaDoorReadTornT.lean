import Derived.Test.YtkopjgnjflhkeaaDoorTP
import Derived.Test.YtkopjgnjflhkeaaDoorTZN
import Derived.Test.YtkopjgnjflhkeaaDoorCards
import Derived.Test.YtkopjgnjflhkeaaDoorTie
import Derived.SevenTiedAt
import Derived.ProofKit
import Derived.ChangeOld
import Derived.ChangeMaps5
import Derived.OpenShut
import Derived.HandedShaped
import Derived.Shelf.Vars
namespace Go.Proofs.YtkopjgnjflhkeaaDoor.readTorn
open Go.ChangeShapes Go.WideShapes Go.ChangeAt Go.RowKit Go.Pst
set_option linter.unusedVariables false
set_option linter.unusedSimpArgs false
theorem change_and_shaped {H:Type} {enc:TypeId × Value→H} {a:Assume} {C:Checked} {os:Os} {f:FuncId} {fn:Func} {s:ChangeSpec} {conds:List PathCond} {apart fresh handsOn again:Bool} {X:World→Array Value→Prop}
 (hX: ∀ (w w':World) (args:Array Value),w.heap=w'.heap→X w args→X w' args)
 (own:ownKnob C.prog.godebug=none) (started:os.Started) (noInit:C.prog.inits.idxOf? f=none) (hfn:C.prog.funcs[f]?=some fn)
 (witness: ∃ (w:World) (tape:Tape) (i:Input),w.os=os∧(w.forCall tape i).Shaped C.prog∧i.vars=[]∧Input.okWide C.prog (w.forCall tape i) .any w.heap.size f i∧
  ((s.pre enc C.prog fn conds apart (w.forCall tape i).memory i.args∧X (w.forCall tape i).memory i.args)∧sizedMet enc C.prog fn (OpenSpec.ofChange s) apart (w.forCall tape i).memory i.args)∧a.holds C.prog (lone (Frame.enter C.prog f i.args .normal) [] (w.forCall tape i)))
 (walked: ∀ (W:World) (base:Nat) (args:Array Value) (ds gs:List (DataW H)) (before:List MemPlace),
  (∀ (j:Nat) t v,fn.params[j]?=some t→args[j]?=some v→Value.okWide C.prog W .any base t v)→
  DataW.Whole enc C.prog fn.params.toList s.vars apart W args.toList ds gs before→
  conds.all (PathCond.test C.prog ⟨fn.params.toList,ds,s.plain.varTypes C.prog,gs⟩)=true→
  (DataW.weightsEach C.prog (fn.params.toList++s.plain.varTypes C.prog) (ds++gs)).all (· ≤reachBytes)=true→X W args→W.ShapedOpen C.prog→
  a.holds C.prog (lone (Frame.enter C.prog f args .normal) [] W)→
  Calls C.prog f args W fun e W'=> ∃ v,e= .returned v∧s.post enc C.prog fn apart fresh handsOn again W args v W'):
 ReturnsInHanded a C os f .any (fun w args=>(s.pre enc C.prog fn conds apart w args∧X w args)∧sizedMet enc C.prog fn (OpenSpec.ofChange s) apart w args) (s.post enc C.prog fn apart fresh handsOn again):=by
 refine returnsInHanded_of_calls own started noInit witness fun w tape i _ hsh _ hok hpre hholds=>?_
 obtain ⟨_,_,_,fn2,h2,_,_,_,_,hval⟩:=hok
 obtain rfl:fn2=fn:=Option.some.inj (h2.symm.trans hfn)
 obtain ⟨⟨⟨ds,gs,before,hw,hc⟩,hx⟩,hz⟩:=hpre
 refine (walked (w.forCall tape i) w.heap.size i.args ds gs before hval (DataW.Whole.of_heap (w':=w.forCall tape i) (by rfl) hw) hc (hz.weights hw) (hX _ _ _ (by rfl) hx) hsh hholds).mono ?_
 rintro e W' ⟨v,rfl,hp⟩
 exact ChangeSpec.post_blind hp
theorem opens_raws_here {H:Type} (enc:TypeId × Value→H) (w:World):Opens enc Tryd.prog w 42 rRaws (fun l=>l.length*32≤reachBytes∧ ∀ x∈l,True):=
 opens_slice Tryd.underlying42 (by kernel_rfl) (by kernel_rfl) (by decide) (opens_raw Tryd.underlying76 (by kernel_rfl) (by kernel_rfl) Tryd.underlying3)
theorem maxLen_lies {w:World} (hsh:w.ShapedOpen Tryd.prog): ∃ mx,w.cell? ⟨1,0,none⟩=some (.int .i64 mx):=
 cell_of_shapedOpen_int (t:=3) (zero:= #[.int .i64 0]) hsh (of_decide_eq_true (by kernel_rfl)) (by kernel_rfl) rfl (by kernel_rfl) (by kernel_rfl) Tryd.underlying3
theorem walk {w:World} (hL:ReadLaid w) (hsh:w.ShapedOpen Tryd.prog) (l:List PRaw) (v:Value) (h:rRaws (fun _=>True) w [v] l) (_:l.length*32≤reachBytes∧ ∀ x∈l,True) (n:Int) (hn:InI n):
 Calls Tryd.prog 5 #[v, .int .i64 n] w fun e w'=>e= .returned (.bool true)∧Below w.heap.size w w':=by
 obtain ⟨mx,hM⟩:=maxLen_lies hsh
 obtain ⟨E,h1,h2,h3,h4⟩:=source_torn l
 exact readTorn_any l v n w h hn hL hM (rd_lt_of_cell hM) (source_size l) E h1 h2 h3 h4
theorem own:ownKnob Tryd.prog.godebug=none:=by kernel_rfl
theorem laidOut:laidOutB Tryd.prog=true:=by kernel_rfl
set_option maxRecDepth 100000 in
theorem contract (H:Type) (enc:TypeId × Value→H) (W:World) (base:Nat) (args:Array Value) (ds gs:List (DataW H)) (before:List MemPlace)
 (hval0: ∀ (j:Nat) t v,Tryd.f5.params[j]?=some t→args[j]?=some v→Value.okWide Tryd.prog W .any base t v)
 (hW:DataW.Whole enc Tryd.prog Tryd.f5.params.toList Rows.readTornSpec.vars false W args.toList ds gs before)
 (hL:laidMetH Tryd.prog readTables W) (hsh:W.ShapedOpen Tryd.prog) (hsz0:(DataW.weightsEach Tryd.prog (Tryd.f5.params.toList++Rows.readTornSpec.plain.varTypes Tryd.prog) (ds++gs)).all (· ≤reachBytes)=true):
 Calls Tryd.prog 5 args W fun e W'=> ∃ v,e= .returned v∧Rows.readTornSpec.post enc Tryd.prog Tryd.f5 false true false false W args v W':=by
 have hsz:=hsz0
 have hval: ∀ (j:Nat) t v,Tryd.f5.params[j]?=some t→args[j]?=some v→Value.okWide Tryd.prog W .any base t v:=hval0
 have hW':=hW
 obtain ⟨p,q,hA0,hV,rfl,hfz,hnd⟩:=hW
 have hA:DataW.TrodAll enc Tryd.prog W 0 (fun _=>true) true Tryd.f5.params.toList args.toList ds p:=hA0
 rw [Tryd.params5] at hA hval hsz
 obtain ⟨v0,vs0,d0,ds0,p0,q0,hargs,rfl,rfl,h0,r0⟩:=trodAll_cons hA
 obtain ⟨v1,vs1,d1,ds1,p1,q1,rfl,rfl,rfl,h1,r1⟩:=trodAll_cons r0
 obtain ⟨rfl,rfl,rfl⟩:=trodAll_nil r1
 obtain rfl:args= #[v0,v1]:=by cases args;simp_all
 obtain ⟨rfl,rfl⟩:=trodVars_none hV
 have k0:=h0
 have lt0: ∀ x∈p0,x.block<W.heap.size:=by obtain ⟨m,hm⟩:=k0;exact DataW.trod_lt m _ _ _ hm
 obtain ⟨fuel0,hf0⟩:=h0
 have hwt0: ∀ n∈d0.weights Tryd.prog 42,n≤reachBytes:=fun n hn=>of_decide_eq_true (List.all_eq_true.1 hsz n (DataW.weights_mem_each (j:=0) rfl rfl n hn))
 obtain ⟨av0,len0,cap0,rfl⟩:=okWide_slice Tryd.underlying42 (hval 0 42 v0 rfl rfl)
 obtain ⟨x0,hx0,fit0⟩:=opens_raws_here enc W fuel0 _ _ hf0 hwt0
 obtain ⟨a1,rfl,rfl,rfl,wf1⟩:=open_int Tryd.underlying3 (hval 1 3 v1 rfl rfl) h1
 have in1:InI a1:=by simpa [Lit.wf,IntKind.min,IntKind.max,IntKind.signed,IntKind.bits,InI] using wf1
 clear hA0 hval0
 have hwalk:=walk (w:=W) (readLaid_of hL) hsh x0 _ hx0 fit0 a1 in1
 refine hwalk.mono fun e W' ⟨he,bel⟩=>?_
 subst he
 exact ⟨_,rfl,_,_,_,[],_,[],hW',trodAll_mk1 (shut_bool Tryd.underlying4 _),(trodAll_cons_mk (Below.trod laidOut (by kernel_rfl) (of_decide_eq_true (by kernel_rfl)) k0 bel lt0) (trodAll_cons_mk (shut_int Tryd.underlying3 wf1) trodAll_mk0)),rfl,bel.frame _,fun h=>by cases h⟩
set_option maxRecDepth 100000 in
theorem lifted (os:Os) (started:os.Started) (H:Type) (enc:TypeId × Value→H):
 ReturnsInHanded {} Tryd.checked os 5 .any (fun w args=>(Rows.readTornSpec.pre enc Tryd.prog Tryd.f5 [] false w args∧laidMetH Tryd.prog readTables w)∧sizedMet enc Tryd.prog Tryd.f5 (OpenSpec.ofChange Rows.readTornSpec) false w args)
  (Rows.readTornSpec.post enc Tryd.prog Tryd.f5 false true false false):=by
 refine change_and_shaped (C:=Tryd.checked) (X:=fun w _=>laidMetH Tryd.prog readTables w) (fun _ _ _ hh h=>h.of_heap hh) own started (by kernel_rfl) Tryd.func5
  (ChangeSpec.witness_shaped (enc:=enc) (C:=Tryd.checked) (os:=os) (X:=fun w _=>laidMetH Tryd.prog readTables w) false (World.doorLaid Tryd.prog 400 os) #[.slice none 0 0, .int .i64 0] 8 rfl (World.shaped_of_RefB (by kernel_rfl) (by kernel_rfl)) (by kernel_rfl) (by kernel_rfl) (by kernel_rfl) (read_door_met os _)) ?_
 intro W base args ds gs before hval hW _ hsz hL hsh _
 exact contract H enc W base args ds gs before hval hW hL hsh hsz
theorem over:Rows.readTornRow.holds Tryd.pinned (OpenSpec.ofChange Rows.readTornSpec):=
 OpenClaim.holds_of_wide 5 Tryd.f5 rfl rfl rfl rfl rfl rfl rfl ⟨rfl,rfl,rfl,rfl,rfl⟩ rfl rfl rfl rfl rfl (by kernel_rfl) Tryd.func5 (by kernel_rfl)
  (of_decide_eq_true (by kernel_rfl)) (by unfold Func.isWrapper;first|(rw [if_pos (by decide+kernel)];kernel_rfl)|(rw [if_neg (by decide+kernel)];exact ⟨rfl,rfl⟩))
  (fun os started H enc _=>lifted os started H enc)
theorem row_holds:Rows.ReadTornSaid:=over
theorem proved:Rows.ReadTornCardSaid:=
 Claim7.holds_tied_plain_at .later [] [.data, .data, .data, .sentinel, .sentinel, .widerDeep, .widerDeep, .widerDeep] true (true,"a82bb3d270c845199d5162dda7a13367d6bee1920aef74228968e16b431b0740") true
  row_holds (fun _ h=>by cases h) (by kernel_rfl) (fun _ h=>by cases h) readTorn_row_tie rfl ⟨rfl,rfl⟩ (by kernel_rfl) rfl
  (fun f fn hf hfn=>by
   obtain rfl:f=5:=Option.some.inj ((show Tryd.prog.funcNamed "postern/posternkeep.ReadTorn"=some 5 by kernel_rfl).symm.trans hf) |>.symm
   obtain rfl:fn=Tryd.f5:=(Option.some.inj (Tryd.func5.symm.trans hfn)).symm
   exact ⟨by kernel_rfl,fun j t ht=>by
    rw [Tryd.params5] at ht
    have hm:t∈[42,3]:=by simpa using Array.mem_of_getElem? ht
    have hall:([42,3].all fun u=> !Tryd.prog.wantsStandIn u)=true:=by kernel_rfl
    exact (show Tryd.prog.wantsStandIn t=false by simpa using List.all_eq_true.1 hall t hm)⟩)
  (by kernel_rfl)
#print axioms proved
end Go.Proofs.YtkopjgnjflhkeaaDoor.readTorn

import Derived.Test.YtkopjgnjflhkeaaDoorTE
import Derived.Test.YtkopjgnjflhkeaaDoorTO
import Derived.Test.YtkopjgnjflhkeaaDoorTZM
namespace Go.Pst
open Go.RowKit
set_option linter.unusedVariables false
def lbr:ByteArray:=⟨#[123]⟩
def rbr:ByteArray:=⟨#[125]⟩
def nb (t:Tok):Int:=if t.kind=109∧t.s=lbr then 1 else if t.kind=109∧t.s=rbr then -1 else 0
def net:List Tok→Int
 |[]=>0
 |t::r=>nb t+net r
def OkT (r:List Tok):Prop:=(∃ t,r.getLast?=some t∧t.kind=101)∧(∀ t∈r,t.kind=119→t.s≠lbr∧t.s≠rbr)∧ ∀ t∈r.dropLast,t.kind≠101
def Nt {α:Type} (n:Int) (p:PR α):Prop:= ∀ r x r',OkT r→p r= .ok (x,r')→OkT r'∧net r=n+net r'
abbrev Nz {α:Type} (p:PR α):Prop:=Nt 0 p
section
variable {α β:Type}
theorem Nt.bind {a b:Int} {p:PR α} {q:α→PR β} (hp:Nt a p) (hq: ∀ x,Nt b (q x)):Nt (a+b) (PR.bind p q):=fun r y r' ho h=>by
 obtain ⟨x,r1,h1,h2⟩:=bind_ok h
 obtain ⟨o1,e1⟩:=hp _ _ _ ho h1
 obtain ⟨o2,e2⟩:=hq x _ _ _ o1 h2
 exact ⟨o2,by omega⟩
theorem Nz.bind {p:PR α} {q:α→PR β} (hp:Nz p) (hq: ∀ x,Nz (q x)):Nz (PR.bind p q):=by
 have:=Nt.bind hp hq
 exact this
theorem Nz.of_ok {x y:α} {r r':List Tok} (ho:OkT r) (h:(.ok (x,r):Except (Int × Int) (α × List Tok))= .ok (y,r')):OkT r'∧net r=0+net r':=by
 injection h with h
 injection h with h1 h2
 subst h2
 exact ⟨ho,by omega⟩
theorem Nz.ret (x:α):Nz (PR.ret x):=fun r y r' ho h=>Nz.of_ok ho h
theorem Nt.bad {n:Int} (p e:Int):Nt n (PR.bad p e:PR α):=fun r y r' ho h=>by cases h
theorem Nt.deep {n:Int}:Nt n (deepE:PR α):=fun r y r' ho h=>by cases h
theorem net_head {r:List Tok} (ho:OkT r) (h:(headR r).kind≠101):OkT r.tail∧net r=nb (headR r)+net r.tail:=by
 cases r with
 |nil=>exact absurd rfl h
 |cons t r=>
  obtain ⟨⟨u,hu,hk⟩,hw,hd⟩:=ho
  cases r with
  |nil=>
   obtain rfl:t=u:=by simpa using hu
   exact absurd hk h
  |cons t2 r=>exact ⟨⟨⟨u,by simpa using hu,hk⟩,fun x hx=>hw x (List.mem_cons_of_mem _ hx),fun x hx=>hd x (by rw [List.dropLast_cons_of_ne_nil (by simp)];exact List.mem_cons_of_mem _ hx)⟩,rfl⟩
theorem head_ok {r:List Tok} (ho:OkT r) (h:(headR r).kind=119):(headR r).s≠lbr∧(headR r).s≠rbr:=by
 cases r with
 |nil=>exact absurd h (by decide)
 |cons t r=>exact ho.2.1 t (List.mem_cons_self ..) h
theorem net_end {r:List Tok} (ho:OkT r) (h:(headR r).kind=101):net r=0:=by
 cases r with
 |nil=>rfl
 |cons t r=>
  cases r with
  |nil=>
   have h1:t.kind=101:=h
   simp [net,nb,h1]
  |cons t2 r=>exact absurd h (ho.2.2 t (by rw [List.dropLast_cons_of_ne_nil (by simp)];exact List.mem_cons_self ..))
def cnt (s:ByteArray):Int:=if s=lbr then 1 else if s=rbr then -1 else 0
theorem nb_mark {r:List Tok} {s:ByteArray} (ho:OkT r) (h:markIs (headR r) s=true):nb (headR r)=cnt s:=by
 simp only [markIs,Bool.and_eq_true,Bool.or_eq_true,decide_eq_true_eq] at h
 obtain ⟨hk,rfl⟩:=h
 unfold nb cnt
 rcases hk with hk|hk
 ·
  simp [hk]
 ·
  have:=head_ok ho hk
  simp [hk,this]
theorem nb_other {t:Tok} (h:t.kind≠109):nb t=0:=by unfold nb;simp [h]
theorem Nt.must (s:ByteArray):Nt (cnt s) (mustR s):=fun r x r' ho h=>by
 unfold mustR at h
 by_cases hk:(headR r).kind=101
 ·
  rw [if_pos hk] at h;cases h
 ·
  rw [if_neg hk] at h
  by_cases hm:markIs (headR r) s=true
  ·
   rw [if_pos hm] at h
   injection h with h
   injection h with h1 h2
   subst h2
   obtain ⟨o1,e1⟩:=net_head ho hk
   exact ⟨o1,by rw [e1,nb_mark ho hm]⟩
  ·
   rw [if_neg hm] at h;cases h
theorem Nz.must {s:ByteArray} (hs:cnt s=0):Nz (mustR s):=by have:=Nt.must s;rw [hs] at this;exact this
theorem is_net {s:ByteArray} {r r':List Tok} {b:Bool} (ho:OkT r) (h:isR s r= .ok (b,r')):OkT r'∧net r=(if b=true then cnt s else 0)+net r':=by
 unfold isR at h
 by_cases hm:markIs (headR r) s=true
 ·
  rw [if_pos hm] at h
  injection h with h
  injection h with h1 h2
  subst h1 h2
  obtain ⟨o1,e1⟩:=net_head ho (mark_kind hm)
  exact ⟨o1,by rw [e1,nb_mark ho hm,if_pos rfl]⟩
 ·
  rw [if_neg hm] at h
  injection h with h
  injection h with h1 h2
  subst h1 h2
  exact ⟨ho,by simp⟩
theorem Nz.is {s:ByteArray} (hs:cnt s=0):Nz (isR s):=fun r b r' ho h=>by
 obtain ⟨o1,e1⟩:=is_net ho h
 refine ⟨o1,?_⟩
 rw [e1,hs]
 split<;>rfl
theorem Nz.name:Nz nameR:=fun r x r' ho h=>by
 unfold nameR at h
 by_cases hk:(headR r).kind=101
 ·
  rw [if_pos hk] at h;cases h
 ·
  rw [if_neg hk] at h
  split at h
  ·
   cases h
  ·
   rename_i hc
   injection h with h
   injection h with h1 h2
   subst h2
   obtain ⟨o1,e1⟩:=net_head ho hk
   have h9:(headR r).kind=119:=by
    by_cases e:(headR r).kind=119
    ·
     exact e
    ·
     exact absurd (Or.inl e) hc
   exact ⟨o1,by rw [e1,nb_other (by rw [h9];decide)]⟩
theorem Nz.peek:Nz peekR:=fun r x r' ho h=>by unfold peekR at h;exact Nz.of_ok ho h
theorem Nz.branch {s:ByteArray} (hs:cnt s=0) {p q:PR α} (hp:Nz p) (hq:Nz q):Nz (branchR s p q):=Nz.bind (Nz.is hs) fun b=>by
 cases b with
 |true=>exact hp
 |false=>exact hq
theorem Nt.self {n:Int} {q:List Tok→PR α} (h: ∀ r,Nt n (q r)):Nt n (fun r=>q r r):=fun r x r' ho e=>h r _ _ _ ho e
theorem Nz.comma {l:List β}:Nz (commaR l):=by
 unfold commaR
 split
 ·
  exact Nz.must (by decide)
 ·
  exact Nz.ret _
end
end Go.Pst
namespace Go.Pst
open Go.RowKit
set_option linter.unusedVariables false
section
variable {α β:Type} {ex:PR PExpr} {blk:PR (List PStmt)} {elif st:PR PStmt}
theorem Nz.lev {ops:List ByteArray} (hops:inOps ops lbr=false∧inOps ops rbr=false) {next:PR PExpr} (hn:Nz next): ∀ (f:Nat) (x:PExpr),Nz (levLoop ops next f x)
 |0,x=>Nz.ret x
 |f+1,x=>fun r y r' ho h=>by
  unfold levLoop at h
  split at h
  ·
   rename_i hc
   obtain ⟨o1,e1⟩:=net_head ho (by rw [hc.1];decide)
   obtain ⟨o2,e2⟩:=Nz.bind hn (fun y=>Nz.lev hops hn f (twoR (headR r).s x y)) _ _ _ o1 h
   have h0:nb (headR r)=0:=by
    unfold nb
    rw [if_neg (fun e=>by rw [e.2,hops.1] at hc;exact absurd hc.2 (by decide)),if_neg (fun e=>by rw [e.2,hops.2] at hc;exact absurd hc.2 (by decide))]
   exact ⟨o2,by omega⟩
  ·
   exact Nz.of_ok ho h
theorem ops_net (k:Nat):inOps (opsR.getD k []) lbr=false∧inOps (opsR.getD k []) rbr=false:=by
 by_cases h:k<5
 ·
  rcases (show k=0∨k=1∨k=2∨k=3∨k=4 by omega) with rfl|rfl|rfl|rfl|rfl<;>decide
 ·
  rw [show opsR.getD k []=[] from by simp [List.getD,List.getElem?_eq_none (show opsR.length≤k by show 5≤k;omega)]]
  decide
theorem Nz.level {u:PR PExpr} (hu:Nz u): ∀ k,Nz (levelR u k)
 |0=>hu
 |k+1=>Nz.bind (Nz.level hu k) fun x=>Nt.self fun r=>Nz.lev (ops_net _) (Nz.level hu k) _ _
theorem Nz.post (he:Nz ex): ∀ (f:Nat) (x:PExpr),Nz (postLoop ex f x)
 |0,x=>Nz.ret x
 |f+1,x=>Nz.branch (by decide) (Nz.bind he fun y=>Nz.bind (Nz.must (by decide)) fun _=>Nz.post he f _) (Nz.ret _)
theorem Nz.args (he:Nz ex): ∀ (f:Nat) (l:List PExpr),Nz (argsLoop ex f l)
 |0,l=>Nz.ret l
 |f+1,l=>Nz.branch (by decide) (Nz.ret _) (Nz.bind Nz.comma fun _=>Nz.bind he fun y=>Nz.args he f _)
theorem Nz.argsR (he:Nz ex):Nz (argsR ex):=Nz.bind (Nz.must (by decide)) fun _=>Nt.self fun r=>Nz.args he _ _
theorem Nz.word (he:Nz ex) (t:Tok):Nz (wordR ex t):=by
 unfold wordR
 split
 ·
  exact Nz.bind (Nz.argsR he) fun l=>by
   split
   ·
    exact Nt.bad _ _
   ·
    exact Nz.ret _
 ·
  split
  ·
   exact Nz.ret _
  split
  ·
   exact Nz.ret _
  split
  ·
   exact Nt.bad _ _
  ·
   intro r x r' ho h
   dsimp only at h
   split at h
   ·
    exact Nz.bind (Nz.argsR he) (fun l=>Nz.ret _) _ _ _ ho h
   ·
    exact Nz.of_ok ho h
theorem Nz.prim (he:Nz ex):Nz (primR ex):=fun r x r' ho h=>by
 unfold primR at h
 dsimp only at h
 split at h
 ·
  cases h
 rename_i hk
 obtain ⟨o1,e1⟩:=net_head ho hk
 split at h
 ·
  rename_i h2
  have:=Nz.of_ok o1 h
  rw [nb_other (by rw [h2];decide)] at e1
  exact ⟨this.1,by omega⟩
 split at h
 ·
  rename_i h2
  have:=Nz.of_ok o1 h
  rw [nb_other (by rw [h2];decide)] at e1
  exact ⟨this.1,by omega⟩
 split at h
 ·
  rename_i h2
  have h0:nb (headR r)=0:=by
   unfold nb
   rw [h2.2]
   rw [if_neg (fun e=>absurd e.2 (by decide)),if_neg (fun e=>absurd e.2 (by decide))]
  obtain ⟨o2,e2⟩:=Nz.bind he (fun x=>Nz.bind (Nz.must (by decide)) fun _=>Nz.ret x) _ _ _ o1 h
  exact ⟨o2,by omega⟩
 split at h
 ·
  cases h
 ·
  rename_i h2
  have h9:(headR r).kind=119:=by omega
  obtain ⟨o2,e2⟩:=Nz.word he _ _ _ _ o1 h
  rw [nb_other (by rw [h9];decide)] at e1
  exact ⟨o2,by omega⟩
theorem Nz.unaryG {one:PR PExpr} (h1:Nz one) (he:Nz ex):Nz (unaryG one ex):=fun r x r' ho h=>by
 unfold Go.Pst.unaryG at h
 split at h
 ·
  rename_i hc
  obtain ⟨o1,e1⟩:=net_head ho (by rw [hc.1];decide)
  have h0:nb (headR r)=0:=by
   unfold nb
   rcases hc.2 with e|e<;>rw [e]<;>rw [if_neg (fun e=>absurd e.2 (by decide)),if_neg (fun e=>absurd e.2 (by decide))]
  obtain ⟨o2,e2⟩:=Nz.bind h1 (fun x=>Nz.ret _) _ _ _ o1 h
  exact ⟨o2,by omega⟩
 ·
  exact Nz.bind (Nz.prim he) (fun x=>Nt.self fun r=>Nz.post he _ _) _ _ _ ho h
theorem Nz.unary: ∀ d,Nz (unaryR d)
 |0=>Nz.unaryG Nt.deep Nt.deep
 |d+1=>Nz.unaryG (Nz.unary d) (Nz.level (Nz.unary d) 5)
theorem Nz.expr: ∀ d,Nz (exprR d)
 |0=>Nt.deep
 |d+1=>Nz.level (Nz.unary d) 5
theorem Nz.ifG (he:Nz ex) (hb:Nz blk) (hl:Nz elif):Nz (ifG ex blk elif):=
 Nz.bind he fun x=>Nz.bind hb fun b=>Nz.branch (by decide) (Nz.branch (by decide) (Nz.bind hl fun s=>Nz.ret _) (Nz.bind hb fun e=>Nz.ret _)) (Nz.ret _)
theorem Nz.rangeG (he:Nz ex) (hb:Nz blk):Nz (rangeG ex blk):=
 Nz.bind Nz.name fun a=>Nz.bind (Nz.must (by decide)) fun _=>Nz.bind Nz.name fun b=>Nz.bind (Nz.must (by decide)) fun _=>Nz.bind (Nz.must (by decide)) fun _=>Nz.bind he fun x=>Nz.bind hb fun l=>Nz.ret _
theorem Nz.forG (he:Nz ex) (hb:Nz blk):Nz (forG ex blk):=Nz.bind he fun x=>Nz.bind hb fun l=>Nz.ret _
theorem Nz.loopG (he:Nz ex) (hb:Nz blk):Nz (loopG ex blk):=fun r x r' ho h=>by
 unfold Go.Pst.loopG at h
 split at h
 ·
  exact Nz.rangeG he hb _ _ _ ho h
 ·
  exact Nz.forG he hb _ _ _ ho h
theorem Nz.const:Nz constR:=Nz.bind (Nz.is (by decide)) fun b r x r' ho h=>by
 by_cases hk:(headR r).kind=101
 ·
  rw [if_pos hk] at h;cases h
 ·
  rw [if_neg hk] at h
  split at h
  ·
   rename_i h2
   obtain ⟨o1,e1⟩:=net_head ho hk
   have:=Nz.of_ok o1 h
   rw [nb_other (by rw [h2];decide)] at e1
   exact ⟨this.1,by omega⟩
  ·
   cases h
theorem Nz.nums: ∀ (f:Nat) (l:List Int),Nz (numsLoop f l)
 |0,l=>Nz.ret l
 |f+1,l=>Nz.bind Nz.const fun n=>Nz.branch (by decide) (Nz.nums f _) (Nz.ret _)
theorem Nz.caseL (hb:Nz blk): ∀ (f:Nat) (l:List (List Int × List PStmt)),Nz (caseLoop blk f l)
 |0,l=>Nz.ret l
 |f+1,l=>Nz.branch (by decide) (Nz.bind (Nt.self fun r=>Nz.nums _ _) fun ns=>Nz.bind (Nz.must (by decide)) fun _=>Nz.bind hb fun b=>Nz.caseL hb f _) (Nz.ret _)
theorem Nz.casesG (he:Nz ex) (hb:Nz blk):Nz (Go.Pst.casesG ex blk):=by
 have key:Nt (0+(cnt ⟨#[123]⟩+(0+(0+(cnt ⟨#[125]⟩+0))))) (Go.Pst.casesG ex blk):=
  Nt.bind he fun x=>Nt.bind (Nt.must _) fun _=>Nt.bind (Nt.self fun r=>Nz.caseL hb _ _) fun cs=>Nt.bind (Nz.branch (by decide) (Nz.bind (Nz.must (by decide)) fun _=>hb) (Nz.ret _)) fun e=>Nt.bind (Nt.must _) fun _=>Nz.ret _
 exact key
theorem Nz.backG (he:Nz ex):Nz (backG ex):=fun r x r' ho h=>by
 unfold Go.Pst.backG at h
 split at h
 ·
  exact Nz.bind he (fun x=>Nz.ret _) _ _ _ ho h
 ·
  exact Nz.of_ok ho h
theorem Nz.calledG (he:Nz ex) (k n:Int):Nz (calledG ex k n):=fun r x r' ho h=>by
 unfold Go.Pst.calledG at h
 exact Nz.bind (Nz.argsR he) (fun l=>by
  split
  ·
   exact Nt.bad _ _
  ·
   exact Nz.ret _) _ _ _ ho h
theorem Nz.deleteG (he:Nz ex):Nz (deleteG ex):=
 Nz.bind (Nz.must (by decide)) fun _=>Nz.bind Nz.name fun s=>Nz.bind (Nz.must (by decide)) fun _=>Nz.bind he fun x=>Nz.bind (Nz.must (by decide)) fun _=>Nz.ret _
theorem Nz.simpleG (he:Nz ex):Nz (simpleG ex):=fun r x r' ho h=>by
 unfold Go.Pst.simpleG at h
 refine Nz.bind Nz.name (fun s=>?_) _ _ _ ho h
 refine Nz.branch (by decide) (Nz.bind he fun x=>Nz.ret _) (Nz.branch (by decide) (Nz.bind he fun x=>Nz.ret _) (Nz.branch (by decide) (Nz.bind he fun x=>Nz.bind (Nz.must (by decide)) fun _=>Nz.bind (Nz.must (by decide)) fun _=>Nz.bind he fun y=>Nz.ret _) ?_))
 intro r1 x1 r2 ho1 h1
 dsimp only at h1
 split at h1
 ·
  exact Nz.bind (Nz.argsR he) (fun l=>Nz.ret _) _ _ _ ho1 h1
 ·
  cases h1
theorem Nz.stmtG (he:Nz ex) (hb:Nz blk) (hl:Nz elif):Nz (stmtG ex blk elif):=
 Nz.branch (by decide) (Nz.ifG he hb hl) (Nz.branch (by decide) (Nz.loopG he hb) (Nz.branch (by decide) (Nz.casesG he hb) (Nz.branch (by decide) (Nz.backG he) (Nz.branch (by decide) (Nz.calledG he _ _) (Nz.branch (by decide) (Nz.ret _) (Nz.branch (by decide) (Nz.ret _) (Nz.branch (by decide) (Nz.deleteG he) (Nz.simpleG he))))))))
theorem blkL_net (hs:Nz st) (hsh:Shr st): ∀ (f:Nat) (l:List PStmt) (r:List Tok) (x:List PStmt) (r':List Tok),r.length≤f→OkT r→blkLoop st f l r= .ok (x,r')→OkT r'∧net r= -1+net r'
 |0,l,r,x,r',hl,ho,h=>by
  obtain ⟨⟨t,ht,-⟩,-⟩:=ho
  cases r with
  |nil=>simp at ht
  |cons a r=>simp at hl
 |f+1,l,r,x,r',hl,ho,h=>by
  unfold blkLoop branchR at h
  obtain ⟨b,r1,h1,h2⟩:=bind_ok h
  obtain ⟨o1,e1⟩:=is_net ho h1
  have hlen:=isR_ok h1
  cases b with
  |true=>
   obtain ⟨o2,e2⟩:=Nz.ret _ _ _ _ o1 h2
   rw [if_pos rfl,show cnt ⟨#[125]⟩= -1 by decide] at e1
   exact ⟨o2,by omega⟩
  |false=>
   rw [if_neg (by decide)] at e1
   obtain rfl:r1=r:=hlen
   rw [if_neg (by decide)] at h2
   split at h2
   ·
    cases h2
   ·
    obtain ⟨y,r2,h3,h4⟩:=bind_ok h2
    obtain ⟨o2,e2⟩:=hs _ _ _ o1 h3
    have hlt:=hsh _ _ _ h3
    obtain ⟨o3,e3⟩:=blkL_net hs hsh f _ _ _ _ (by omega) o2 h4
    exact ⟨o3,by omega⟩
theorem Nz.both: ∀ d,Nz (bothR d).1∧Nz (bothR d).2
 |0=>⟨fun r x r' ho h=>by
  obtain ⟨y,r1,h1,h2⟩:=bind_ok h
  exact absurd h2 (by intro e;cases e),Nt.deep⟩
 |d+1=>by
  have hb:=Nz.both d
  have hst:Nz (Go.Pst.stmtG (exprR d) (bothR d).1 (bothR d).2):=Nz.stmtG (Nz.expr d) hb.1 hb.2
  refine ⟨fun r x r' ho h=>?_,Nz.ifG (Nz.expr d) hb.1 hb.2⟩
  obtain ⟨y,r1,h1,h2⟩:=bind_ok h
  obtain ⟨o1,e1⟩:=Nt.must _ _ _ _ ho h1
  obtain ⟨o2,e2⟩:=blkL_net hst (Shr.stmtG (Shr.expr d) (Shr.both d).1.kp (Shr.both d).2.kp) _ _ _ _ _ (Nat.le_refl _) o1 h2
  rw [show cnt ⟨#[123]⟩=1 by decide] at e1
  exact ⟨o2,by omega⟩
theorem Nz.typ:Nz typR:=Nz.branch (by decide) (Nz.ret _) (Nz.branch (by decide) (Nz.ret _) (Nz.branch (by decide) (Nz.ret _) (Nz.branch (by decide) (Nz.ret _) (Nz.branch (by decide) (Nz.ret _) (Nz.ret _)))))
theorem Nz.params: ∀ (f:Nat) (l:List (ByteArray × Int)),Nz (paramsLoop f l)
 |0,l=>Nz.ret l
 |f+1,l=>Nz.branch (by decide) (Nz.ret _) (Nz.bind Nz.comma fun _=>Nz.bind Nz.name fun s=>Nz.bind Nz.peek fun k=>Nz.bind Nz.typ fun t=>by
  split
  ·
   exact Nt.bad _ _
  ·
   exact Nz.params f _)
theorem Nz.func:Nz funcR:=Nz.bind Nz.peek fun t=>Nz.bind (Nz.must (by decide)) fun _=>Nz.bind Nz.name fun s=>Nz.bind (Nz.must (by decide)) fun _=>Nz.bind (Nt.self fun r=>Nz.params _ _) fun ps=>by
 split
 ·
  exact Nt.bad _ _
 ·
  exact Nz.bind Nz.typ fun k=>Nz.bind (Nz.both 30).1 fun b=>Nz.ret _
theorem read_net: ∀ (f:Nat) (out:List PFunc) (r:List Tok) (x:List PFunc) (r':List Tok),r.length≤f→OkT r→readLoop f out r= .ok (x,r')→OkT r'∧net r=net r'∧(headR r').kind=101
 |0,out,r,x,r',hl,ho,h=>by
  obtain ⟨⟨t,ht,-⟩,-⟩:=ho
  cases r with
  |nil=>simp at ht
  |cons a r=>simp at hl
 |f+1,out,r,x,r',hl,ho,h=>by
  unfold readLoop at h
  split at h
  ·
   rename_i hk
   injection h with h
   injection h with h1 h2
   subst h2
   exact ⟨ho,rfl,hk⟩
  ·
   obtain ⟨g,r1,h1,h2⟩:=bind_ok h
   obtain ⟨o1,e1⟩:=Nz.func _ _ _ ho h1
   have hlt:=Shr.func _ _ _ h1
   split at h2
   ·
    cases h2
   ·
    obtain ⟨o2,e2,e3⟩:=read_net f _ _ _ _ (by omega) o1 h2
    exact ⟨o2,by omega,e3⟩
end
end Go.Pst
namespace Go.Pst
open Go.RowKit
set_option linter.unusedVariables false
def stepB (p:Nat × Int) (c:UInt8):Nat × Int:=
 if p.1=0 then (if c=34 then (1,p.2) else if c=123 then (0,p.2+1) else if c=125 then (0,p.2 - 1) else (0,p.2))
 else if p.1=1 then (if c=34 then (0,p.2) else if c=92 then (2,p.2) else (1,p.2))
 else (1,p.2)
def scanB (p:Nat × Int) (l:List UInt8):Nat × Int:=l.foldl stepB p
theorem scanB_cons (p:Nat × Int) (c:UInt8) (l:List UInt8):scanB p (c::l)=scanB (stepB p c) l:=rfl
theorem scanB_app (p:Nat × Int) (a b:List UInt8):scanB p (a++b)=scanB (scanB p a) b:=List.foldl_append
theorem step0 {c:UInt8} (h:c≠34) (h2:c≠123) (h3:c≠125) (d:Int):stepB (0,d) c=(0,d):=by simp [stepB,h,h2,h3]
theorem small_not {c:UInt8} (h:(smallB c||digitB c)=true):c≠34∧c≠123∧c≠125:=by
 refine ⟨?_,?_,?_⟩<;>(rintro rfl;exact absurd h (by decide))
theorem scan_word (d:Int): ∀ (r:List UInt8),scanB (0,d) (r.take (wordLen r))=(0,d)
 |[]=>rfl
 |c::r=>by
  unfold wordLen
  split
  ·
   rename_i h
   obtain ⟨h1,h2,h3⟩:=small_not h
   rw [List.take_succ_cons,scanB_cons,step0 h1 h2 h3]
   exact scan_word d r
  ·
   rfl
theorem scan_digits (d:Int): ∀ (r:List UInt8),scanB (0,d) (r.take (digLen r))=(0,d)
 |[]=>rfl
 |c::r=>by
  unfold digLen
  split
  ·
   rename_i h
   obtain ⟨h1,h2,h3⟩:=small_not (by rw [h];simp:(smallB c||digitB c)=true)
   rw [List.take_succ_cons,scanB_cons,step0 h1 h2 h3]
   exact scan_digits d r
  ·
   rfl
theorem scan_text (d:Int): ∀ (m:Nat) (r acc:List UInt8) (k:Nat) (t:List UInt8) (k':Nat),r.length≤m→textR r acc k= .ok (t,k')→ ∃ n,k'=k+n∧scanB (1,d) (r.take n)=(0,d)
 |0,[],acc,k,t,k',hm,h=>by unfold textR at h;cases h
 |0,c::r,acc,k,t,k',hm,h=>by simp at hm
 |m+1,[],acc,k,t,k',hm,h=>by unfold textR at h;cases h
 |m+1,c::r,acc,k,t,k',hm,h=>by
  unfold textR at h
  have hl:r.length≤m:=by simpa using hm
  split at h
  ·
   rename_i hc
   injection h with h
   injection h with h1 h2
   exact ⟨1,h2.symm,by subst hc;rfl⟩
  ·
   rename_i hc
   split at h
   ·
    rename_i h92
    subst h92
    cases r with
    |nil=>cases h
    |cons b r'=>
     dsimp only at h
     have hl':r'.length≤m:=by simp at hl;omega
     have go: ∀ (acc':List UInt8),textR r' acc' (k+2)= .ok (t,k')→ ∃ n,k'=k+n∧scanB (1,d) ((92::b::r').take n)=(0,d):=fun acc' e=>by
      obtain ⟨n,h1,h2⟩:=scan_text d m r' acc' (k+2) t k' hl' e
      refine ⟨n+2,by omega,?_⟩
      rw [List.take_succ_cons,List.take_succ_cons]
      exact h2
     split at h
     ·
      exact go _ h
     ·
      split at h
      ·
       exact go _ h
      ·
       cases h
   ·
    rename_i h92
    split at h
    ·
     cases h
    ·
     obtain ⟨n,h1,h2⟩:=scan_text d m r _ (k+1) t k' hl h
     refine ⟨n+1,by omega,?_⟩
     rw [List.take_succ_cons,scanB_cons]
     have:stepB (1,d) c=(1,d):=by simp [stepB,hc,h92]
     rw [this]
     exact h2
theorem mark_ok (r:List UInt8): ∀ (ms:List (List UInt8)) (m:List UInt8),markR r ms=some m→m∈ms∧r.take m.length=m
 |[],m,h=>by cases h
 |x::ms,m,h=>by
  unfold markR at h
  split at h
  ·
   rename_i hp
   injection h with h
   subst h
   exact ⟨List.mem_cons_self ..,(List.prefix_iff_eq_take.1 (List.isPrefixOf_iff_prefix.1 hp)).symm⟩
  ·
   obtain ⟨h1,h2⟩:=mark_ok r ms m h
   exact ⟨List.mem_cons_of_mem _ h1,h2⟩
theorem scan_mark (m:List UInt8) (h:m∈marksR) (d:Int) (i:Nat):scanB (0,d) m=(0,d+nb ⟨109,⟨m.toArray⟩,0,i⟩)∧0<m.length:=by
 simp only [marksR,List.mem_cons,List.not_mem_nil,or_false] at h
 rcases h with rfl|rfl|rfl|rfl|rfl|rfl|rfl|rfl|rfl|rfl|rfl|rfl|rfl|rfl|rfl|rfl|rfl|rfl|rfl|rfl|rfl|rfl|rfl|rfl<;>
  (refine ⟨?_,by decide⟩;simp [scanB,stepB,nb,lbr,rbr];try omega)
def TokIn (t:Tok):Prop:=t.kind≠101∧(t.kind=119→t.s≠lbr∧t.s≠rbr)
def netO:Option Tok→Int
 |none=>0
 |some t=>nb t
theorem scan_tok (c:UInt8) (r:List UInt8) (i:Nat) (o:Option Tok) (k:Nat) (d:Int) (h:tokR (c::r) i= .ok (o,k)):0<k∧scanB (0,d) ((c::r).take k)=(0,d+netO o)∧ ∀ t,o=some t→TokIn t:=by
 unfold tokR at h
 dsimp only at h
 split at h
 ·
  rename_i hc
  injection h with h
  injection h with h1 h2
  subst h1 h2
  refine ⟨by decide,?_,fun t e=>by cases e⟩
  rcases hc with rfl|rfl|rfl<;>simp [scanB,stepB,netO]
 split at h
 ·
  rename_i hs
  split at h
  ·
   cases h
  ·
   injection h with h
   injection h with h1 h2
   subst h1 h2
   obtain ⟨g1,g2,g3⟩:=small_not (by rw [hs];rfl:(smallB c||digitB c)=true)
   refine ⟨by omega,?_,fun t e=>?_⟩
   ·
    rw [List.take_succ_cons,scanB_cons,step0 g1 g2 g3,scan_word]
    simp [netO,nb]
   ·
    injection e with e
    subst e
    refine ⟨by simp,fun _=>?_⟩
    constructor
    ·
     intro e
     have:=congrArg (fun s:ByteArray=>s.data.toList.head?) e
     simp [lbr] at this
     exact g2 this
    ·
     intro e
     have:=congrArg (fun s:ByteArray=>s.data.toList.head?) e
     simp [rbr] at this
     exact g3 this
 split at h
 ·
  rename_i hs
  split at h
  ·
   cases h
  split at h
  ·
   cases h
  ·
   injection h with h
   injection h with h1 h2
   subst h1 h2
   obtain ⟨g1,g2,g3⟩:=small_not (by rw [hs];simp:(smallB c||digitB c)=true)
   refine ⟨by omega,?_,fun t e=>?_⟩
   ·
    rw [List.take_succ_cons,scanB_cons,step0 g1 g2 g3,scan_digits]
    simp [netO,nb]
   ·
    injection e with e
    subst e
    exact ⟨by simp,fun e=>absurd e (by simp)⟩
 split at h
 ·
  rename_i hc
  subst hc
  split at h
  ·
   cases h
  ·
   rename_i t k2 ht
   injection h with h
   injection h with h1 h2
   subst h1 h2
   obtain ⟨n,e1,e2⟩:=scan_text d _ _ _ _ _ _ (Nat.le_refl _) ht
   refine ⟨by omega,?_,fun t e=>?_⟩
   ·
    rw [List.take_succ_cons,scanB_cons,show k2=n by omega]
    show scanB (1,d) _=_
    rw [e2]
    simp [netO,nb]
   ·
    injection e with e
    subst e
    exact ⟨by simp,fun e=>absurd e (by simp)⟩
 ·
  split at h
  ·
   cases h
  ·
   rename_i m hm
   injection h with h
   injection h with h1 h2
   subst h1 h2
   obtain ⟨m1,m2⟩:=mark_ok _ _ _ hm
   obtain ⟨s1,s2⟩:=scan_mark m m1 d i
   refine ⟨s2,?_,fun t e=>?_⟩
   ·
    rw [m2,s1]
    rfl
   ·
    injection e with e
    subst e
    exact ⟨by simp,fun e=>absurd e (by simp)⟩
theorem net_app: ∀ (a b:List Tok),net (a++b)=net a+net b
 |[],b=>by simp [net]
 |t::a,b=>by
  have:=net_app a b
  simp only [List.cons_append,net]
  omega
theorem scan_cut (d:Int): ∀ (f:Nat) (r:List UInt8) (i:Nat) (acc T:List Tok),r.length≤f→(∀ t∈acc,TokIn t)→cutR f r i acc= .ok T→
 ∃ (l:List Tok) (p:Int),T=l++[⟨101,⟨#[]⟩,0,p⟩]∧(∀ t∈l,TokIn t)∧scanB (0,d+net acc) r=(0,d+net l)
 |0,[],i,acc,T,hl,ha,h=>by
  unfold cutR at h
  injection h with h
  exact ⟨acc,i,h.symm,ha,rfl⟩
 |0,c::r,i,acc,T,hl,ha,h=>by simp at hl
 |f+1,[],i,acc,T,hl,ha,h=>by
  unfold cutR at h
  injection h with h
  exact ⟨acc,i,h.symm,ha,rfl⟩
 |f+1,c::r,i,acc,T,hl,ha,h=>by
  unfold cutR at h
  dsimp only at h
  have hl':r.length≤f:=by simpa using hl
  split at h
  ·
   cases h
  ·
   rename_i k hk
   obtain ⟨k0,k1,-⟩:=scan_tok c r i none k (d+net acc) hk
   obtain ⟨l,p,e1,e2,e3⟩:=scan_cut d f _ _ acc T (by rw [List.length_drop,List.length_cons];omega) ha h
   refine ⟨l,p,e1,e2,?_⟩
   rw [←List.take_append_drop k (c::r),scanB_app,k1,show d+net acc+netO none=d+net acc by simp [netO]]
   exact e3
  ·
   rename_i t k hk
   obtain ⟨k0,k1,k2⟩:=scan_tok c r i (some t) k (d+net acc) hk
   obtain ⟨l,p,e1,e2,e3⟩:=scan_cut d f _ _ (acc++[t]) T (by rw [List.length_drop,List.length_cons];omega) (fun x hx=>by
    rcases List.mem_append.1 hx with hx|hx
    ·
     exact ha x hx
    ·
     rw [List.mem_singleton] at hx
     rw [hx]
     exact k2 t rfl) h
   refine ⟨l,p,e1,e2,?_⟩
   rw [←List.take_append_drop k (c::r),scanB_app,k1]
   have:net (acc++[t])=net acc+nb t:=by rw [net_app];simp [net]
   rw [this,←Int.add_assoc] at e3
   exact e3
theorem okT_of {l:List Tok} {p:Int} (h: ∀ t∈l,TokIn t):OkT (l++[⟨101,⟨#[]⟩,0,p⟩]):=
 ⟨⟨_,List.getLast?_concat,rfl⟩,fun t ht hk=>by
  rcases List.mem_append.1 ht with ht|ht
  ·
   exact (h t ht).2 hk
  ·
   rw [List.mem_singleton] at ht
   subst ht
   exact absurd hk (by simp),fun t ht=>by
  rw [List.dropLast_concat] at ht
  exact (h t ht).1⟩
theorem read_scan (s:List UInt8) (fs:List PFunc) (h:readR s= .ok fs):scanB (0,0) s=(0,0):=by
 unfold readR at h
 split at h
 ·
  cases h
 ·
  split at h
  ·
   cases h
  ·
   rename_i T hT
   obtain ⟨l,p,rfl,h2,h3⟩:=scan_cut 0 _ _ _ _ _ (Nat.le_refl _) (fun t ht=>by cases ht) hT
   split at h
   ·
    cases h
   ·
    rename_i x r' hr
    obtain ⟨o1,e1,e2⟩:=read_net _ _ _ _ _ (Nat.le_refl _) (okT_of h2) hr
    have h0:net r'=0:=net_end o1 e2
    have e3:net (l++[⟨101,⟨#[]⟩,0,p⟩])=net l+0:=by rw [net_app];rfl
    rw [show net ([]:List Tok)=0 from rfl] at h3
    rw [show ((0:Int)+0)=0 from rfl] at h3
    rw [h3]
    congr 1
    omega
end Go.Pst
namespace Go.Proofs.YtkopjgnjflhkeaaDoor
open Go.RowKit Go.Pst
set_option linter.unusedVariables false
def chkB:Nat × Int→List UInt8→Int→Bool
 |p,[],b=>decide (p=(0,b))&&decide (0≤p.2)
 |p,c::r,b=>decide (0≤p.2)&&chkB (stepB p c) r b
theorem chkB_app {b c:Int}: ∀ (l:List UInt8) (p:Nat × Int) (r:List UInt8),chkB p l b=true→chkB (0,b) r c=true→chkB p (l++r) c=true
 |[],p,r,h,g=>by
  simp only [chkB,Bool.and_eq_true,decide_eq_true_eq] at h
  obtain ⟨rfl,-⟩:=h
  exact g
 |x::l,p,r,h,g=>by
  simp only [chkB,Bool.and_eq_true] at h
  simp only [List.cons_append,chkB,Bool.and_eq_true]
  exact ⟨h.1,chkB_app l _ r h.2 g⟩
theorem stepB_up (p:Nat × Int) (c:UInt8) (e:Int):stepB (p.1,p.2+e) c=((stepB p c).1,(stepB p c).2+e):=by
 unfold stepB
 dsimp only
 repeat' split
 all_goals first|rfl|(congr 1;omega)
theorem chkB_up {b e:Int} (he:0≤e): ∀ (l:List UInt8) (p:Nat × Int),chkB p l b=true→chkB (p.1,p.2+e) l (b+e)=true
 |[],p,h=>by
  simp only [chkB,Bool.and_eq_true,decide_eq_true_eq] at h
  obtain ⟨rfl,h2⟩:=h
  simp only [chkB,Bool.and_eq_true,decide_eq_true_eq]
  exact ⟨trivial,by omega⟩
 |x::l,p,h=>by
  simp only [chkB,Bool.and_eq_true,decide_eq_true_eq] at h
  simp only [chkB,Bool.and_eq_true,decide_eq_true_eq]
  refine ⟨by omega,?_⟩
  rw [stepB_up]
  exact chkB_up he l _ h.2
theorem chkB_scan {b:Int}: ∀ (l:List UInt8) (p:Nat × Int),chkB p l b=true→scanB p l=(0,b)∧ ∀ k,0≤(scanB p (l.take k)).2
 |[],p,h=>by
  simp only [chkB,Bool.and_eq_true,decide_eq_true_eq] at h
  exact ⟨h.1,fun k=>by rw [List.take_nil];exact h.2⟩
 |x::l,p,h=>by
  simp only [chkB,Bool.and_eq_true,decide_eq_true_eq] at h
  obtain ⟨h1,h2⟩:=chkB_scan l _ h.2
  refine ⟨h1,fun k=>?_⟩
  cases k with
  |zero=>exact h.1
  |succ k=>exact h2 k
theorem scan_up (e:Int): ∀ (l:List UInt8),∀ p:Nat × Int,scanB (p.1,p.2+e) l=((scanB p l).1,(scanB p l).2+e)
 |[],p=>rfl
 |c::l,p=>by
  rw [scanB_cons,scanB_cons,stepB_up]
  exact scan_up e l _
def Sc (a b:Int) (s:ByteArray):Prop:=chkB (0,a) s.data.toList b=true
abbrev S0 (s:ByteArray):Prop:=Sc 0 0 s
theorem Sc.app {a b c:Int} {s t:ByteArray} (h:Sc a b s) (g:Sc b c t):Sc a c (s++t):=by
 unfold Sc
 rw [ByteArray.data_append,Array.toList_append]
 exact chkB_app _ _ _ h g
theorem Sc.up {a b:Int} {s:ByteArray} (h:Sc a b s) (e:Int) (he:0≤e):Sc (a+e) (b+e) s:=chkB_up he _ _ h
theorem S0.one {s:ByteArray} (h:S0 s):Sc 1 1 s:=h.up 1 (by decide)
theorem sc {a b:Int} {s:ByteArray} (h:chkB (0,a) s.data.toList b=true):Sc a b s:=h
theorem S0.pick (L:List ByteArray) (n:Int) (h: ∀ x∈L,S0 x):S0 (pickS L n):=by
 unfold pickS
 rw [List.getD_eq_getElem?_getD]
 cases e:L[pickN n L.length]? with
 |none=>exact (by kernel_rfl:chkB (0,0) [] 0=true)
 |some x=>exact h x (List.mem_of_getElem? e)
theorem S0.row (L:List ByteArray) (n:Int) (h:(L.all fun x=>chkB (0,0) x.data.toList 0)=true):S0 (pickS L n):=S0.pick L n fun x hx=>List.all_eq_true.1 h x hx
theorem itoaB_S0 (n:Nat) (h:n<300):S0 (itoaB n):=by
 have key:(List.range 300).all (fun n=>chkB (0,0) (itoaB n).data.toList 0)=true:=by kernel_rfl
 exact List.all_eq_true.1 key n (List.mem_range.2 h)
theorem numL_S0 (r:PRaw):S0 (numL r):=S0.pick _ _ fun x hx=>by
 have hn:=pickN_lt r.a 12 (by decide)
 simp only [List.mem_cons,List.not_mem_nil,or_false] at hx
 rcases hx with rfl|rfl|rfl|rfl|rfl|rfl
 ·
  exact itoaB_S0 _ (by omega)
 all_goals exact (by kernel_rfl:chkB _ _ _=true)
theorem textL_S0 (r:PRaw):S0 (textL r):=S0.row rowTx _ (by kernel_rfl)
theorem textB_S0: ∀ (d:Nat) (l:List PRaw),S0 (textB d l).1
 |0,l=>textL_S0 _
 |d+1,l=>by
  rw [textB_succ]
  split
  ·
   exact textL_S0 _
  ·
   exact ((((sc (by kernel_rfl):S0 (⟨#[40]⟩:ByteArray)).app (textB_S0 d _)).app (sc (by kernel_rfl):S0 (⟨#[32,43,32]⟩:ByteArray))).app (textB_S0 d _)).app (sc (by kernel_rfl):S0 (⟨#[41]⟩:ByteArray))
theorem listG_S0 {f:BD} (h: ∀ l,S0 (f l).1) (l:List PRaw):S0 (listG f l).1:=by
 rw [listG_eq]
 split
 ·
  exact ((((sc (by kernel_rfl):S0 (⟨#[115,108,105,99,101,40]⟩:ByteArray)).app (h _)).app (sc (by kernel_rfl):S0 (⟨#[44,32]⟩:ByteArray))).app (h _)).app (sc (by kernel_rfl):S0 (⟨#[41]⟩:ByteArray))
 split
 ·
  exact ((sc (by kernel_rfl):S0 (⟨#[97,112,112,101,110,100,40,108,44,32]⟩:ByteArray)).app (h _)).app (sc (by kernel_rfl):S0 (⟨#[41]⟩:ByteArray))
 split
 ·
  exact ((sc (by kernel_rfl):S0 (⟨#[97,112,112,101,110,100,40,107,44,32]⟩:ByteArray)).app (h _)).app (sc (by kernel_rfl):S0 (⟨#[41]⟩:ByteArray))
 ·
  exact S0.row rowK _ (by kernel_rfl)
theorem numG_S0 {main:Bool} {sub txt lst:BD} (h1: ∀ l,S0 (sub l).1) (h2: ∀ l,S0 (txt l).1) (h3: ∀ l,S0 (lst l).1) (l:List PRaw):S0 (numG main sub txt lst l).1:=by
 rw [numG_eq]
 have b1:S0 (⟨#[40]⟩:ByteArray):=sc (by kernel_rfl)
 have b2:S0 (⟨#[32]⟩:ByteArray):=sc (by kernel_rfl)
 have b3:S0 (⟨#[41]⟩:ByteArray):=sc (by kernel_rfl)
 have b4:S0 (⟨#[93]⟩:ByteArray):=sc (by kernel_rfl)
 split
 ·
  exact numL_S0 _
 split
 ·
  exact ((((((b1.app (h1 _)).app b2).app (S0.row rowOps _ (by kernel_rfl))).app b2).app (h1 _)).app b3)
 split
 ·
  exact ((((h1 _).app b2).app (S0.row rowDiv _ (by kernel_rfl))).app b2).app (S0.row rowBy _ (by kernel_rfl))
 split
 ·
  exact ((sc (by kernel_rfl):S0 (⟨#[108,91]⟩:ByteArray)).app (S0.row rowL _ (by kernel_rfl))).app b4
 split
 ·
  exact ((sc (by kernel_rfl):S0 (⟨#[109,91]⟩:ByteArray)).app (h1 _)).app b4
 split
 ·
  exact ((sc (by kernel_rfl):S0 (⟨#[115,91]⟩:ByteArray)).app (S0.row rowS _ (by kernel_rfl))).app b4
 split
 ·
  refine ((sc (by kernel_rfl):S0 (⟨#[108,101,110,40]⟩:ByteArray)).app (S0.pick _ _ fun x hx=>?_)).app b3
  simp only [List.mem_cons,List.not_mem_nil,or_false] at hx
  rcases hx with rfl|rfl|rfl|rfl
  ·
   exact h2 _
  ·
   exact (by kernel_rfl:chkB _ _ _=true)
  ·
   exact (by kernel_rfl:chkB _ _ _=true)
  ·
   exact h3 _
 split
 ·
  split
  ·
   exact ((((sc (by kernel_rfl):S0 (⟨#[102,40]⟩:ByteArray)).app (h1 _)).app (sc (by kernel_rfl):S0 (⟨#[44,32]⟩:ByteArray))).app (h2 _)).app b3
  ·
   exact (sc (by kernel_rfl):S0 (⟨#[45]⟩:ByteArray)).app (h1 _)
 split
 ·
  exact ((sc (by kernel_rfl):S0 (⟨#[40,45]⟩:ByteArray)).app (h1 _)).app b3
 ·
  refine S0.pick _ _ fun x hx=>?_
  have hn:=pickN_lt (firstB l).a 300 (by decide)
  simp only [List.mem_cons,List.not_mem_nil,or_false] at hx
  rcases hx with rfl|rfl|rfl|rfl
  ·
   exact (by kernel_rfl:chkB _ _ _=true)
  ·
   exact (by kernel_rfl:chkB _ _ _=true)
  ·
   exact itoaB_S0 _ hn
  ·
   exact (by kernel_rfl:chkB _ _ _=true)
theorem numB_S0 (main:Bool): ∀ (d:Nat) (l:List PRaw),S0 (numB main d l).1
 |0,l=>numL_S0 _
 |1,l=>numG_S0 (fun l=>numL_S0 _) (textB_S0 0) (listG_S0 fun l=>numL_S0 _) l
 |d+2,l=>numG_S0 (numB_S0 main (d+1)) (textB_S0 (d+1)) (listG_S0 (numB_S0 main d)) l
theorem listB_S0 (main:Bool) (d:Nat) (l:List PRaw):S0 (listB main d l).1:=listG_S0 (numB_S0 main _) l
theorem truthB_S0 (main:Bool): ∀ (d:Nat) (l:List PRaw),S0 (truthB main d l).1
 |0,l=>S0.row rowB _ (by kernel_rfl)
 |d+1,l=>by
  have b1:S0 (⟨#[40]⟩:ByteArray):=sc (by kernel_rfl)
  have b2:S0 (⟨#[32]⟩:ByteArray):=sc (by kernel_rfl)
  have b3:S0 (⟨#[41]⟩:ByteArray):=sc (by kernel_rfl)
  have ht:=truthB_S0 main d
  unfold truthB
  dsimp only
  split
  ·
   exact (((b1.app (ht _)).app (sc (by kernel_rfl):S0 (⟨#[32,38,38,32]⟩:ByteArray))).app (ht _)).app b3
  split
  ·
   exact (((b1.app (ht _)).app (sc (by kernel_rfl):S0 (⟨#[32,124,124,32]⟩:ByteArray))).app (ht _)).app b3
  split
  ·
   exact (sc (by kernel_rfl):S0 (⟨#[33]⟩:ByteArray)).app (ht _)
  split
  ·
   exact (((((b1.app (textB_S0 _ _)).app b2).app (S0.row rowC _ (by kernel_rfl))).app b2).app (textB_S0 _ _)).app b3
  ·
   exact (((((b1.app (numB_S0 _ _ _)).app b2).app (S0.row rowC _ (by kernel_rfl))).app b2).app (numB_S0 _ _ _)).app b3
theorem stmtsB_Sc {st:BD} (h: ∀ l,S0 (st l).1) {a b:Int} (hb:0≤b): ∀ (n:Nat) (s:ByteArray) (l:List PRaw),Sc a b s→Sc a b (stmtsB st n s l).1
 |0,s,l,hs=>hs
 |n+1,s,l,hs=>by
  rw [stmtsB_succ]
  refine stmtsB_Sc h hb n _ _ (hs.app ?_)
  have:=((h l).app (sc (by kernel_rfl):S0 (⟨#[10]⟩:ByteArray))).up b hb
  rw [Int.zero_add] at this
  exact this
theorem blockB_S0 {st:BD} (h: ∀ l,S0 (st l).1) (n:Nat) (l:List PRaw):S0 (blockB st n l).1:=
 (stmtsB_Sc h (by decide) n ⟨#[123,10]⟩ l (sc (by kernel_rfl):Sc 0 1 (⟨#[123,10]⟩:ByteArray))).app (sc (by kernel_rfl):Sc 1 0 (⟨#[125]⟩:ByteArray))
theorem plainB_S0 {main loops:Bool} {r:PRaw} {l:List PRaw} {p:ByteArray × List PRaw} (h:plainB main loops r l=some p):S0 p.1:=by
 unfold plainB at h
 dsimp only at h
 have e1:S0 (⟨#[32,61,32]⟩:ByteArray):=sc (by kernel_rfl)
 have e2:S0 (⟨#[93,32,61,32]⟩:ByteArray):=sc (by kernel_rfl)
 have e3:S0 (⟨#[41]⟩:ByteArray):=sc (by kernel_rfl)
 split at h
 ·
  injection h with h;subst h;exact ((S0.row rowXY _ (by kernel_rfl)).app e1).app (numB_S0 _ _ _)
 split at h
 ·
  injection h with h;subst h;exact (sc (by kernel_rfl):S0 (⟨#[115,32,61,32]⟩:ByteArray)).app (textB_S0 _ _)
 split at h
 ·
  injection h with h;subst h;exact ((S0.row rowLK _ (by kernel_rfl)).app e1).app (listB_S0 _ _ _)
 split at h
 ·
  injection h with h;subst h;exact (sc (by kernel_rfl):S0 (⟨#[98,32,61,32]⟩:ByteArray)).app (truthB_S0 _ _ _)
 split at h
 ·
  injection h with h;subst h;exact (((sc (by kernel_rfl):S0 (⟨#[109,91]⟩:ByteArray)).app (numB_S0 _ _ _)).app e2).app (numB_S0 _ _ _)
 split at h
 ·
  injection h with h;subst h;exact (((sc (by kernel_rfl):S0 (⟨#[108,91]⟩:ByteArray)).app (S0.row row0x1 _ (by kernel_rfl))).app e2).app (numB_S0 _ _ _)
 split at h
 ·
  injection h with h;subst h;exact ((sc (by kernel_rfl):S0 (⟨#[100,101,108,101,116,101,40,109,44,32]⟩:ByteArray)).app (numB_S0 _ _ _)).app e3
 split at h
 ·
  injection h with h;subst h
  refine ((sc (by kernel_rfl):S0 (⟨#[112,114,105,110,116,40]⟩:ByteArray)).app (S0.pick _ _ fun x hx=>?_)).app e3
  simp only [List.mem_cons,List.not_mem_nil,or_false] at hx
  rcases hx with rfl|rfl|rfl
  ·
   exact numB_S0 _ _ _
  ·
   exact textB_S0 _ _
  ·
   exact truthB_S0 _ _ _
 split at h
 ·
  injection h with h;subst h;exact S0.row rowBr _ (by kernel_rfl)
 split at h
 ·
  injection h with h;subst h;exact ((sc (by kernel_rfl):S0 (⟨#[102,40]⟩:ByteArray)).app (numB_S0 _ _ _)).app (sc (by kernel_rfl):S0 (⟨#[44,32,115,41]⟩:ByteArray))
 ·
  cases h
theorem ifB_S0 {main:Bool} {st:BD} (h: ∀ l,S0 (st l).1) (r:PRaw) (l:List PRaw):S0 (ifB main st r l).1:=by
 unfold ifB
 dsimp only
 have key:S0 ((((⟨#[105,102,32]⟩:ByteArray)++(truthB main 2 l).1)++(⟨#[32]⟩:ByteArray))++(blockB st (1+pickN r.a 2) (truthB main 2 l).2).1):=
  (((sc (by kernel_rfl):S0 (⟨#[105,102,32]⟩:ByteArray)).app (truthB_S0 _ _ _)).app (sc (by kernel_rfl):S0 (⟨#[32]⟩:ByteArray))).app (blockB_S0 h _ _)
 split
 ·
  exact key.app ((sc (by kernel_rfl):S0 (⟨#[32,101,108,115,101,32]⟩:ByteArray)).app (blockB_S0 h _ _))
 ·
  exact key
theorem rangeB_S0 {st:BD} (h: ∀ l,S0 (st l).1) (r:PRaw) (l:List PRaw):S0 (rangeB st r l).1:=by
 unfold rangeB
 dsimp only
 refine ((((sc (by kernel_rfl):S0 (⟨#[102,111,114,32,105,44,32,106,32,58,61,32,114,97,110,103,101,32]⟩:ByteArray)).app (S0.pick _ _ fun x hx=>?_)).app (sc (by kernel_rfl):S0 (⟨#[32]⟩:ByteArray))).app (blockB_S0 h _ _)).app (sc (by kernel_rfl):S0 (⟨#[10]⟩:ByteArray))
 have hn:=pickN_lt r.b 5 (by decide)
 simp only [List.mem_cons,List.not_mem_nil,or_false] at hx
 rcases hx with rfl|rfl|rfl|rfl|rfl
 ·
  exact itoaB_S0 _ (by omega)
 ·
  exact (by kernel_rfl:chkB _ _ _=true)
 ·
  exact (by kernel_rfl:chkB _ _ _=true)
 ·
  exact (by kernel_rfl:chkB _ _ _=true)
 ·
  exact textB_S0 _ _
theorem whileB_S0 {st:BD} (h: ∀ l,S0 (st l).1) (r:PRaw) (l:List PRaw):S0 (whileB st r l).1:=by
 unfold whileB
 dsimp only
 have hn:=pickN_lt r.a 4 (by decide)
 have hi:=itoaB_S0 (1+pickN r.a 4) (by omega)
 have key:S0 (((((⟨#[110,32,58,61,32,48,10,102,111,114,32,110,32,60,32]⟩:ByteArray)++itoaB (1+pickN r.a 4))++(⟨#[32,123,10,110,32,61,32,110,32,43,32,49,10]⟩:ByteArray))++(st l).1)++(⟨#[10,125]⟩:ByteArray)):=
  ((((sc (by kernel_rfl):S0 (⟨#[110,32,58,61,32,48,10,102,111,114,32,110,32,60,32]⟩:ByteArray)).app hi).app (sc (by kernel_rfl):Sc 0 1 (⟨#[32,123,10,110,32,61,32,110,32,43,32,49,10]⟩:ByteArray))).app (h l).one).app (sc (by kernel_rfl):Sc 1 0 (⟨#[10,125]⟩:ByteArray))
 exact ((sc (by kernel_rfl):Sc 0 1 (⟨#[105,102,32,116,114,117,101,32,123,10]⟩:ByteArray)).app key.one).app (sc (by kernel_rfl):Sc 1 0 (⟨#[10,125]⟩:ByteArray))
theorem switchB_S0 {main:Bool} {st:BD} (h: ∀ l,S0 (st l).1) (r:PRaw) (l:List PRaw):S0 (switchB main st r l).1:=by
 unfold switchB
 dsimp only
 have n1:=pickN_lt r.a 3 (by decide)
 have n2:=pickN_lt r.b 3 (by decide)
 have i1:=(itoaB_S0 (pickN r.a 3) (by omega)).one
 have i2:=(itoaB_S0 (3+pickN r.b 3) (by omega)).one
 have hb:=fun l=>(blockB_S0 h 1 l).one
 have key:=((((((((((sc (by kernel_rfl):S0 (⟨#[115,119,105,116,99,104,32]⟩:ByteArray)).app (numB_S0 main 1 l)).app (sc (by kernel_rfl):Sc 0 1 (⟨#[32,123,10,99,97,115,101,32]⟩:ByteArray))).app i1).app (sc (by kernel_rfl):Sc 1 1 (⟨#[44,32,45,49,58,32]⟩:ByteArray))).app (hb (numB main 1 l).2)).app (sc (by kernel_rfl):Sc 1 1 (⟨#[10,99,97,115,101,32]⟩:ByteArray))).app i2).app (sc (by kernel_rfl):Sc 1 1 (⟨#[58,32]⟩:ByteArray))).app (hb (blockB st 1 (numB main 1 l).2).2)).app (sc (by kernel_rfl):Sc 1 1 (⟨#[10]⟩:ByteArray))
 split
 ·
  exact (((key.app (((sc (by kernel_rfl):Sc 1 1 (⟨#[99,97,115,101,32,55,44,32,56,44,32,57,58,32]⟩:ByteArray)).app (hb _)).app (sc (by kernel_rfl):Sc 1 1 (⟨#[10]⟩:ByteArray)))).app (sc (by kernel_rfl):Sc 1 1 (⟨#[100,101,102,97,117,108,116,58,32]⟩:ByteArray))).app (hb _)).app (sc (by kernel_rfl):Sc 1 0 (⟨#[10,125]⟩:ByteArray))
 ·
  exact ((key.app (sc (by kernel_rfl):Sc 1 1 (⟨#[100,101,102,97,117,108,116,58,32]⟩:ByteArray))).app (hb _)).app (sc (by kernel_rfl):Sc 1 0 (⟨#[10,125]⟩:ByteArray))
theorem stmtB_S0 (main:Bool): ∀ (d:Nat) (lo:Bool) (l:List PRaw),S0 (stmtB main d lo l).1
 |0,lo,l=>by
  unfold stmtB
  split
  ·
   rename_i p hp
   exact plainB_S0 hp
  ·
   exact ((sc (by kernel_rfl):S0 (⟨#[112,114,105,110,116,40]⟩:ByteArray)).app (S0.row rowP _ (by kernel_rfl))).app (sc (by kernel_rfl):S0 (⟨#[41]⟩:ByteArray))
 |d+1,lo,l=>by
  unfold stmtB
  split
  ·
   rename_i p hp
   exact plainB_S0 hp
  ·
   dsimp only
   split
   ·
    exact ifB_S0 (stmtB_S0 main d lo) _ _
   split
   ·
    exact rangeB_S0 (stmtB_S0 main d true) _ _
   split
   ·
    exact whileB_S0 (stmtB_S0 main d true) _ _
   ·
    exact switchB_S0 (stmtB_S0 main d lo) _ _
def open13:ByteArray:=⟨#[102,117,110,99,32,109,97,105,110,40,41,32,123]⟩
def head2:ByteArray:=⟨headL.data.extract 13 1000⟩
def mid1:ByteArray:=⟨midL.data.extract 0 31⟩
def mid2:ByteArray:=⟨midL.data.extract 40 1000⟩
def isBad {α β:Type}:Except α β→Bool
 | .error _=>true
 | .ok _=>false
theorem isBad_ex {α β:Type} {x:Except α β} (h:isBad x=true): ∃ q,x= .error q:=by
 cases x with
 |error q=>exact ⟨q,rfl⟩
 |ok y=>cases h
theorem index_in (sub rest:List UInt8): ∀ (pre:List UInt8),∃ E:Nat,Lib.index (pre++(sub++rest)) sub=(E:Int)∧E≤pre.length
 |[]=>by
  refine ⟨0,?_,Nat.le_refl _⟩
  rw [List.nil_append]
  have hp:sub.isPrefixOf (sub++rest)=true:=List.isPrefixOf_iff_prefix.2 (List.prefix_append _ _)
  cases e:sub++rest with
  |nil=>
   obtain ⟨rfl,-⟩:=List.append_eq_nil_iff.1 e
   rfl
  |cons b l=>
   rw [e] at hp
   unfold Lib.index
   rw [if_pos hp]
   rfl
 |x::pre=>by
  obtain ⟨E,h1,h2⟩:=index_in sub rest pre
  rw [List.cons_append]
  unfold Lib.index
  split
  ·
   exact ⟨0,rfl,Nat.zero_le _⟩
  ·
   rw [h1]
   have:((E:Int)== -1)=false:=by rw [beq_eq_false_iff_ne];omega
   rw [this]
   exact ⟨E+1,rfl,by rw [List.length_cons];omega⟩
theorem index_of (sub rest:List UInt8) (x:UInt8) (pre:List UInt8) (h0:sub.isPrefixOf (x::(pre++(sub++rest)))=false): ∃ E:Nat,Lib.index (x::(pre++(sub++rest))) sub=(E:Int)∧0<E∧E≤pre.length+1:=by
 obtain ⟨E,h1,h2⟩:=index_in sub rest pre
 unfold Lib.index
 rw [h0,if_neg (by decide),h1]
 have:((E:Int)== -1)=false:=by rw [beq_eq_false_iff_ne];omega
 rw [this]
 exact ⟨E+1,rfl,by omega,by omega⟩
theorem stmtsB_split {st:BD} (h: ∀ l,S0 (st l).1): ∀ (n:Nat) (s:ByteArray) (l:List PRaw),∃ X,(stmtsB st n s l).1=s++X∧S0 X
 |0,s,l=>⟨⟨#[]⟩,by show s=_;rw [show (⟨#[]⟩:ByteArray)=ByteArray.empty from rfl,ByteArray.append_empty],(by kernel_rfl:chkB (0,0) [] 0=true)⟩
 |n+1,s,l=>by
  obtain ⟨X,e,hX⟩:=stmtsB_split h n (s++((st l).1++⟨#[10]⟩)) (st l).2
  refine ⟨((st l).1++⟨#[10]⟩)++X,?_,((h l).app (sc (by kernel_rfl):S0 (⟨#[10]⟩:ByteArray))).app hX⟩
  rw [stmtsB_succ,e,ByteArray.append_assoc]
theorem source_split (l:List PRaw): ∃ A R:ByteArray,sourceB l=open13++(A++(needleL++R))∧S0 A:=by
 have h1:=fun l=>stmtB_S0 true 2 false l
 have h2:=fun l=>stmtB_S0 false 1 false l
 obtain ⟨X1,e1,g1⟩:=stmtsB_split h1 (min (1+(l.take 36).length / 8) 5) headB ((l.take 36).take (2*((l.take 36).length / 3)))
 obtain ⟨X2,e2,g2⟩:=stmtsB_split h2 (min (1+(l.take 36).length / 18) 2) ((stmtsB (stmtB true 2 false) (min (1+(l.take 36).length / 8) 5) headB ((l.take 36).take (2*((l.take 36).length / 3)))).1++midB) ((l.take 36).drop (2*((l.take 36).length / 3)))
 have e3:headB=open13++head2:=by kernel_rfl
 have e4:midB=mid1++(needleL++mid2):=by kernel_rfl
 refine ⟨(head2++X1)++mid1,(mid2++X2)++(⟨#[114,101,116,117,114,110,32,120,32,43,32,121,10,125,10]⟩:ByteArray),?_,((sc (by kernel_rfl):S0 head2).app g1).app (sc (by kernel_rfl):S0 mid1)⟩
 unfold sourceB
 dsimp only
 rw [e2,e1,e3,e4]
 simp only [ByteArray.append_assoc]
theorem first12:(List.range 13).all (fun k=>k==0||isBad (readR (open13.data.toList.take k)))=true:=by kernel_rfl
theorem torn_cut {A R:List UInt8} (hA:chkB (0,0) A 0=true) (k:Nat) (h1:1≤k) (h2:k≤13+A.length): ∃ q,readR ((open13.data.toList++(A++R)).take k)= .error q:=by
 have h13:open13.data.toList.length=13:=rfl
 by_cases hk:k<13
 ·
  have:=List.all_eq_true.1 first12 k (List.mem_range.2 hk)
  have h0:(k==0)=false:=by rw [beq_eq_false_iff_ne];omega
  rw [h0,Bool.false_or] at this
  rw [List.take_append_of_le_length (by omega)]
  exact isBad_ex this
 ·
  cases e:readR ((open13.data.toList++(A++R)).take k) with
  |error q=>exact ⟨q,rfl⟩
  |ok fs=>
   exfalso
   have hs:=read_scan _ _ e
   rw [List.take_append,h13,List.take_of_length_le (by omega),List.take_append_of_le_length (by omega),scanB_app] at hs
   have h0:scanB (0,0) open13.data.toList=(0,0+1):=by decide
   rw [h0,show scanB (0,0+1) (A.take (k - 13))=_ from scan_up 1 _ (0,0)] at hs
   have h3:=(chkB_scan A (0,0) hA).2 (k - 13)
   have h4:=congrArg Prod.snd hs
   dsimp only at h4
   omega
theorem source_torn (l:List PRaw): ∃ E:Nat,0<E∧E≤(sourceB l).size∧Lib.index (sourceB l).data.toList needleL.data.toList=(E:Int)∧ ∀ k,1≤k→k≤E→ ∃ q,readR ((sourceB l).data.toList.take k)= .error q:=by
 obtain ⟨A,R,e,hA⟩:=source_split l
 have hL:(sourceB l).data.toList=open13.data.toList++(A.data.toList++(needleL.data.toList++R.data.toList)):=by
  rw [e]
  simp only [ByteArray.data_append,Array.toList_append]
 have hz:(sourceB l).size=(sourceB l).data.toList.length:=Array.length_toList.symm
 rw [hz,hL]
 have hc:open13.data.toList++(A.data.toList++(needleL.data.toList++R.data.toList))=102::((open13.data.toList.tail++A.data.toList)++(needleL.data.toList++R.data.toList)):=by
  rw [List.append_assoc]
  rfl
 obtain ⟨E,h1,h2,h3⟩:=index_of needleL.data.toList R.data.toList 102 (open13.data.toList.tail++A.data.toList) (by rfl)
 rw [←hc] at h1
 have h12:open13.data.toList.tail.length=12:=rfl
 have h13:open13.data.toList.length=13:=rfl
 rw [List.length_append,h12] at h3
 refine ⟨E,h2,by simp only [List.length_append,h13];omega,h1,fun k hk1 hk2=>torn_cut hA k hk1 (by omega)⟩
theorem source_size (l:List PRaw):(sourceB l).size≤1000000:=by
 have h1: ∀ l,(stmtB true 2 false l).1.size≤100000:=fun l=>(stmt2_said true (loops:=0) ⟨by decide,by decide⟩).1 l
 have h2: ∀ l,(stmtB false 1 false l).1.size≤100000:=fun l=>(stmt1_said false (loops:=0) ⟨by decide,by decide⟩).1 l
 have a1:=stmtsB_size h1 (min (1+(l.take 36).length / 8) 5) headB ((l.take 36).take (2*((l.take 36).length / 3)))
 have a2:=stmtsB_size h2 (min (1+(l.take 36).length / 18) 2) ((stmtsB (stmtB true 2 false) (min (1+(l.take 36).length / 8) 5) headB ((l.take 36).take (2*((l.take 36).length / 3)))).1++midB) ((l.take 36).drop (2*((l.take 36).length / 3)))
 have z1:headB.size≤1000:=Nat.le_of_ble_eq_true (by kernel_rfl)
 have z2:midB.size≤1000:=Nat.le_of_ble_eq_true (by kernel_rfl)
 have m1:min (1+(l.take 36).length / 8) 5≤5:=by omega
 have m2:min (1+(l.take 36).length / 18) 2≤2:=by omega
 unfold sourceB
 dsimp only
 rw [ByteArray.size_append]
 generalize min (1+(l.take 36).length / 8) 5=n1 at *
 generalize min (1+(l.take 36).length / 18) 2=n2 at *
 rw [ByteArray.size_append] at a2
 have b1:=Nat.mul_le_mul_right 100001 m1
 have b2:=Nat.mul_le_mul_right 100001 m2
 have z3:((⟨#[114,101,116,117,114,110,32,120,32,43,32,121,10,125,10]⟩:ByteArray)).size=15:=rfl
 rw [z3]
 omega
end Go.Proofs.YtkopjgnjflhkeaaDoor

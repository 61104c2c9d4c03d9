import Derived.Test.YtkopjgnjflhkeaaGreatDoorQK
import Derived.Test.YtkopjgnjflhkeaaGreatDoorQG
namespace Go.Proofs.YtkopjgnjflhkeaaGreatDoor
open Go.RowKit Go.Pst
set_option linter.unusedVariables false
set_option linter.unusedSimpArgs false
def bindQ (Q:Except Int (List Int)) (f:List Int→Except Int (List Int)):Except Int (List Int):=
 match Q with
 | .error e=> .error e
 | .ok s=>f s
theorem bindQ_assoc (Q:Except Int (List Int)) (f g:List Int→Except Int (List Int)):bindQ (bindQ Q f) g=bindQ Q (fun s=>bindQ (f s) g):=by
 cases Q<;>rfl
def numT (n:Int) (seen:List Int):Except Int (List Int):=if ¬(-1099511627776≤n∧n≤1099511627776) then .error 2 else if n∈seen then .error 7 else .ok (seen++[n])
theorem numsT_snoc (n:Int): ∀ (l seen:List Int),numsT seen (l++[n])=bindQ (numsT seen l) (numT n)
 |[],seen=>by
  simp only [List.nil_append,numsT,bindQ,numT]
 |m::r,seen=>by
  simp only [List.cons_append,numsT]
  split
  ·
   rfl
  ·
   split
   ·
    rfl
   ·
    exact numsT_snoc n r _
def caseQ1 (f:List PStmt→Except Int (List Scope)) (c:List Int × List PStmt) (seen:List Int):Except Int (List Int):=
 bindQ (bindQ (if c.1.length=0 then .error 10 else .ok seen) (fun s=>numsT s c.1)) (fun s=>match f c.2 with| .error e=> .error e| .ok _=> .ok s)
def caseQ (f:List PStmt→Except Int (List Scope)):List Int→List (List Int × List PStmt)→Except Int (List Int)
 |seen,[]=> .ok seen
 |seen,c::r=>bindQ (caseQ1 f c seen) (fun s=>caseQ f s r)
theorem caseQ_snoc (f:List PStmt→Except Int (List Scope)) (c:List Int × List PStmt): ∀ (l:List (List Int × List PStmt)) (seen:List Int),caseQ f seen (l++[c])=bindQ (caseQ f seen l) (caseQ1 f c)
 |[],seen=>by
  simp only [List.nil_append,caseQ,bindQ]
  cases caseQ1 f c seen<;>rfl
 |m::r,seen=>by
  simp only [List.cons_append,caseQ]
  cases caseQ1 f m seen with
  |error e=>rfl
  |ok s=>exact caseQ_snoc f c r s
theorem casesT_eq (f:List PStmt→Except Int (List Scope)) (G:List Scope): ∀ (l:List (List Int × List PStmt)) (seen:List Int),casesT f G seen l=match caseQ f seen l with| .error e=> .error e| .ok _=> .ok G
 |[],seen=>rfl
 |c::r,seen=>by
  simp only [casesT,caseQ,caseQ1]
  by_cases h:c.1.length=0
  ·
   simp only [h,if_true,bindQ]
  ·
   simp only [h,if_false,bindQ]
   cases numsT seen c.1 with
   |error e=>rfl
   |ok s=>
    simp only
    cases f c.2 with
    |error e=>rfl
    |ok G'=>exact casesT_eq f G r s
theorem numsN_snoc (c:List Int × List PStmt): ∀ l,numsN (l++[c])=numsN l+c.1.length
 |[]=>by simp [numsN]
 |m::r=>by simp only [List.cons_append,numsN,numsN_snoc c r];omega
theorem numsN_take (l:List (List Int × List PStmt)): ∀ i,numsN (l.take i)≤numsN l:=by
 induction l with
 |nil=>intro i;simp [numsN]
 |cons c r ih=>
  intro i
  cases i with
  |zero=>simp [numsN]
  |succ i=>simp only [List.take_succ_cons,numsN];have:=ih i;omega
def RowSt (st:Chk) (Q:Except Int (List Int)) (L:List Int) (S:Chk):Prop:=
 SameG S.G st.G∧(st.fault≠0→S.fault=st.fault)∧(st.fault=0→match Q with
  | .ok s=>L=s∧S=st
  | .error e=>e≠0∧S.fault=e)
theorem RowSt.bad {st S:Chk} {Q:Except Int (List Int)} {L:List Int} (h:RowSt st Q L S) (P:List Int→Prop) [DecidablePred P] {e:Int} (he:e≠0):RowSt st (bindQ Q (fun s=>if P s then .error e else .ok s)) L (if P L then S.bad e else S):=by
 refine ⟨?_,fun z=>?_,fun z=>?_⟩
 ·
  split
  ·
   exact h.1
  ·
   exact h.1
 ·
  have h1:=h.2.1 z
  split
  ·
   unfold Chk.bad;rw [if_neg (by rw [h1];exact z)];exact h1
  ·
   exact h1
 ·
  have h1:=h.2.2 z
  cases Q with
  |error e'=>
   obtain ⟨q1,q2⟩:=h1
   refine ⟨q1,?_⟩
   split
   ·
    unfold Chk.bad;rw [if_neg (by rw [q2];exact q1)];exact q2
   ·
    exact q2
  |ok s=>
   obtain ⟨rfl,rfl⟩:=h1
   simp only [bindQ]
   by_cases hp:P L
   ·
    simp only [hp,if_true]
    exact ⟨he,by simp [Chk.bad,z]⟩
   ·
    simp only [hp,if_false,and_self]
theorem RowSt.push {st S:Chk} {Q:Except Int (List Int)} {L:List Int} (h:RowSt st Q L S) (n:Int):RowSt st (bindQ Q (fun s=> .ok (s++[n]))) (L++[n]) S:=by
 refine ⟨h.1,h.2.1,fun z=>?_⟩
 have h1:=h.2.2 z
 cases Q with
 |error e'=>exact h1
 |ok s=>obtain ⟨rfl,rfl⟩:=h1;exact ⟨rfl,rfl⟩
theorem RowSt.num {st S:Chk} {Q:Except Int (List Int)} {L:List Int} (h:RowSt st Q L S) (n:Int):
 RowSt st (bindQ Q (numT n)) (L++[n]) (if n∈L then (if ¬(-1099511627776≤n∧n≤1099511627776) then S.bad 2 else S).bad 7 else (if ¬(-1099511627776≤n∧n≤1099511627776) then S.bad 2 else S)):=by
 have h1:=((h.bad (fun _=> ¬(-1099511627776≤n∧n≤1099511627776)) (e:=2) (by decide)).bad (fun s=>n∈s) (e:=7) (by decide)).push n
 rw [bindQ_assoc,bindQ_assoc] at h1
 have hq:(fun s=>bindQ (if ¬(-1099511627776≤n∧n≤1099511627776) then .error 2 else .ok s) (fun s=>bindQ (if n∈s then .error 7 else .ok s) (fun s=> .ok (s++[n]))))=numT n:=by
  funext s
  unfold numT
  by_cases ha: ¬(-1099511627776≤n∧n≤1099511627776)
  ·
   rw [if_pos ha,if_pos ha];rfl
  ·
   rw [if_neg ha,if_neg ha]
   by_cases hb:n∈s
   ·
    simp only [bindQ,hb,if_true]
   ·
    simp only [bindQ,hb,if_false]
 rw [hq] at h1
 exact h1
theorem RowSt.block {st S S':Chk} {Q:Except Int (List Int)} {L:List Int} (h:RowSt st Q L S) (f:Chk→Except Int (List Scope)) (hb:StmtEnd S (f S) S') (hok: ∀ G',f st= .ok G'→G'=st.G):RowSt st (bindQ Q (fun s=>match f st with| .error e=> .error e| .ok _=> .ok s)) L S':=by
 refine ⟨hb.1.trans h.1,fun z=>?_,fun z=>?_⟩
 ·
  have h1:=h.2.1 z
  rw [hb.2.1 (by rw [h1];exact z),h1]
 ·
  have h1:=h.2.2 z
  cases Q with
  |error e'=>
   obtain ⟨q1,q2⟩:=h1
   exact ⟨q1,by rw [hb.2.1 (by rw [q2];exact q1),q2]⟩
  |ok s=>
   obtain ⟨rfl,rfl⟩:=h1
   have h2:=hb.2.2 z
   simp only [bindQ]
   cases hf:f S with
   |error e=>rw [hf] at h2;exact h2
   |ok G'=>
    rw [hf] at h2
    have:=hok G' hf
    subst this
    exact ⟨rfl,h2⟩
theorem RowSt.stmt {st S:Chk} {Q:Except Int (List Int)} {L:List Int} (h:RowSt st Q L S):StmtEnd st (match (generalizing:=false) Q with| .error e=> .error e| .ok _=> .ok st.G) S:=by
 refine ⟨h.1,h.2.1,fun z=>?_⟩
 have h1:=h.2.2 z
 cases Q with
 |error e=>exact h1
 |ok s=>obtain ⟨rfl,rfl⟩:=h1;rfl
theorem row_intsAt {w:World} {base n:Nat} {a:Option Addr} {c:Nat} {l:List Int} (h:w.ownsRow base 3 1 (.slice a n c) n (l.map (Value.int .i64))):IntsAt w a l:=by
 intro i hi
 obtain ⟨g,cap,hv,-,-,hb,hc,-⟩:=rowGet h (i:=i) (u:= .int .i64 l[i]) (by simp [hi])
 obtain ⟨ha,-,-⟩:=Value.slice.inj hv
 subst ha
 exact ⟨g,0,rfl,hb,by simpa using hc⟩
end Go.Proofs.YtkopjgnjflhkeaaGreatDoor

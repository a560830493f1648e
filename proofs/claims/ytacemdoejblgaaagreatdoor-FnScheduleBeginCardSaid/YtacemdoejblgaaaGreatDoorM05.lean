/- Part M05. Conditions: each statement's. -/
import Derived.Test.YtacemdoejblgaaaGreatDoorM04
import Derived.Conc.Own
import Derived.Conc.Machine
import Derived.Conc.Listed
import Derived.Conc.LoneCalls
namespace Go.Proofs.YtacemdoejblgaaaGreatDoor
set_option maxRecDepth 100000
set_option maxHeartbeats 6400000
section
open Go.Conc
def qvj(C:Pen)(X:Nat->Prop):Operand->Prop
 | .tmp t=>¬X t
 | .const v=>Ok C.A C.F v
 | .global g=>C.A ⟨g,0,none⟩
 | .func f=>C.F f
def q82(C:Pen)(S:List String)(X:Nat->Prop)(o:Oper):Prop:=qeF C S o.op/\∀x,x∈o.op.operands->qvj C X x
def qf4(C:Pen)(S:List String)(X:Nat->Prop):Code->Prop
 | .region _ ops _=>∀o,o∈ops->q82 C S X o
 | .seq a b=>qf4 C S X a/\qf4 C S X b
 | .cond _ a b=>qf4 C S X a/\qf4 C S X b
 | .block _ c | .loop c | .scope c=>qf4 C S X c
 | .rangeFunc _ _ _ _=>False
 |_=>True
def qnn(C:Pen)(S:List String)(X:Nat->Prop):Item->Prop
 | .code c | .inLoop c | .inScope c=>qf4 C S X c
 | .inBlock _=>True
 | .inRegion ops _=>∀o,o∈ops->q82 C S X o
 |_=>False
def qy8(X:Nat->Prop):ResultVar->Prop
 | .tmp t=>¬X t
 | .cell a _=>¬X a
structure vf(C:Pen)(S:List String)(X:Nat->Prop)(fr:Frame):Prop where
 tm:∀t v,¬X t->fr.tmps[t]?=some v->Ok C.A C.F v
 todo:∀it,it∈fr.todo->qnn C S X it
 defers:fr.defers=[]
 kind:fr.kind=.normal
 round:fr.roundOf=none
 mode:∀ch,fr.mode=.panicking ch->∀e,e∈ch->Ok C.A C.F e.v
 fn:∃fn,C.P.funcs[fr.fn]?=some fn/\∀r,r∈fn.results->qy8 X r
def FrE(C:Pen)(S:List String)(fr:Frame):Prop:=vf C S (C.X fr.fn) fr
structure zw(C:Pen)(S:List String):Prop where
 qbD:qaQ C S
 body:∀f fn c,C.F f->C.P.funcs[f]?=some fn->fn.body=some c->qf4 C S (C.X f) c/\∀r,r∈fn.results->qy8 (C.X f) r
section
variable {C:Pen}{S:List String}{X:Nat->Prop}
theorem q83{id:Nat}:∀(k k':List Item),(∀it,it∈k->qnn C S X it)->exitTo id k=some k'->∀it,it∈k'->qnn C S X it:=by
 intro k
 induction k with
 |nil=>intro k' _ e;simp[exitTo]at e
 |cons x k ih=>
  intro k' h e;have ht:∀it,it∈k->qnn C S X it:=λit hi=>h it (by simp[hi]);cases x with
  |inBlock id'=>
   simp only[exitTo]at e;split at e
   . cases e;exact ht
   . exact ih k' ht e
  |_=>simp only[exitTo]at e;exact ih k' ht e
theorem q1h{l:Nat}:∀(c r:Code),qf4 C S X c->findLabel c l=some r->qf4 C S X r:=by
 intro c
 induction c with
 |seq a b iha ihb=>
  intro r h e;simp only[findLabel]at e;split at e
  . rename_i x hx;cases e;exact⟨iha x h.1 hx,h.2⟩
  . exact ihb r h.2 e
 |label l'=>
  intro r h e;simp only[findLabel]at e;split at e
  . cases e;trivial
  . cases e
 |_=>intro r h e;simp[findLabel]at e
theorem q84{l:Nat}:∀(k k':List Item),(∀it,it∈k->qnn C S X it)->gotoIn l k=some k'->∀it,it∈k'->qnn C S X it:=by
 intro k
 induction k with
 |nil=>intro k' _ e;simp[gotoIn]at e
 |cons x k ih=>
  intro k' h e;have ht:∀it,it∈k->qnn C S X it:=λit hi=>h it (by simp[hi]);cases x with
  |inScope body=>
   simp only[gotoIn]at e;split at e
   . rename_i rest hr;cases e;intro it hi;rcases List.mem_cons.1 hi with h1|h1
     . subst h1;exact q1h body rest (h (.inScope body) (by simp)) hr
     . rcases List.mem_cons.1 h1 with h2|h2
       . subst h2;exact h (.inScope body) (by simp)
       . exact ht it h2
   . exact ih k' ht e
  |_=>simp only[gotoIn]at e;exact ih k' ht e
theorem q85{fr:Frame}(h:vf C S X fr){x:Operand}(hx:qvj C X x):Ok C.A C.F (fr.eval x):=by
 cases x with
 |tmp t=>
  show Ok C.A C.F (fr.tmps.getD t undef);rw[Array.getD_eq_getD_getElem?];cases hv:fr.tmps[t]? with
  |none=>exact .undef
  |some v=>exact h.tm t v hx hv
 |const v=>exact hx
 |global g=>exact .ptr hx
 |func f=>exact .func hx (λv hv=>by simp at hv) (λv hv=>by simp at hv)
theorem vf.yc{fr:Frame}(h:vf C S X fr){k:List Item}(hk:∀it,it∈k->qnn C S X it):vf C S X {fr with todo:=k}:=⟨h.tm,hk,h.defers,h.kind,h.round,h.mode,h.fn⟩
theorem vf.vm{fr:Frame}(h:vf C S X fr){m:FrameMode}(hm:∀ch,m=.panicking ch->∀e,e∈ch->Ok C.A C.F e.v):vf C S X {fr with mode:=m}:=⟨h.tm,h.todo,h.defers,h.kind,h.round,hm,h.fn⟩
theorem vf.finish{fr:Frame}(h:vf C S X fr){v:Value}(hv:Ok C.A C.F v):vf C S X (fr.finish v):=by
 unfold Frame.finish;split
 . rename_i ops i rest k hk;have ht:=h.todo;rw[hk]at ht;refine⟨?_,?_,h.defers,h.kind,h.round,h.mode,h.fn⟩
   . intro t y hX hy;dsimp only at hy;split at hy
     . rw[Array.getElem?_setIfInBounds]at hy;split at hy
       . split at hy
         . cases hy;exact hv
         . cases hy
       . exact h.tm t y hX hy
     . exact h.tm t y hX hy
   . intro it hi;rcases List.mem_cons.1 hi with h1|h1
     . subst h1;exact ht (.inRegion ops (i::rest)) (by simp)
     . exact ht it (by simp[h1])
 . rename_i hk;have ht:=h.todo;rw[hk]at ht;exact False.elim (ht _ (List.mem_cons_self ..))
 . rename_i hk;have ht:=h.todo;rw[hk]at ht;exact False.elim (ht _ (List.mem_cons_self ..))
 . rename_i hk;have ht:=h.todo;rw[hk]at ht;exact False.elim (ht _ (List.mem_cons_self ..))
 . rename_i hk;have ht:=h.todo;rw[hk]at ht;exact False.elim (ht _ (List.mem_cons_self ..))
 . exact h
theorem vf.raise{fr:Frame}(h:vf C S X fr){vs:List PanicEntry}(hv:∀e,e∈vs->Ok C.A C.F e.v):vf C S X (fr.raise vs):=by
 unfold Frame.raise;split
 . rename_i ch hm;refine h.vm (λch' e=>?_);cases e;intro e he;rcases List.mem_append.1 he with h1|h1
   . exact hv e h1
   . exact h.mode _ hm e h1
 . refine h.vm (λch' e=>?_);cases e;exact hv
theorem q86(fr:Frame)(v:Value):(fr.finish v).fn=fr.fn:=by unfold Frame.finish;split<;>rfl
theorem qkD(fr:Frame)(vs:List PanicEntry):(fr.raise vs).fn=fr.fn:=by unfold Frame.raise;split<;>rfl
theorem FrE.finish{fr:Frame}(h:FrE C S fr){v:Value}(hv:Ok C.A C.F v):FrE C S (fr.finish v):=by
 unfold FrE;rw[q86];exact vf.finish h hv
theorem FrE.raise{fr:Frame}(h:FrE C S fr){vs:List PanicEntry}(hv:∀e,e∈vs->Ok C.A C.F e.v):FrE C S (fr.raise vs):=by
 unfold FrE;rw[qkD];exact vf.raise h hv
theorem qkE(H:zw C S){f:FuncId}{args:Array Value}(hf:C.F f)(ha:qq C args){fn:Func}{c:Code}(h1:C.P.funcs[f]?=some fn)(h2:fn.body=some c):FrE C S (Frame.enter C.P f args .normal):=by
 refine⟨?_,?_,rfl,rfl,rfl,(λch e=>by cases e),fn,h1,(H.body f fn c hf h1 h2).2⟩
 . intro t v _ hv;simp only[Frame.enter]at hv
   have:qq C (args++Array.replicate ((((C.P.funcs[f]?).map (·.ntmps)).getD 0)-args.size) undef):=ha.app (λv hv=>by
    rw[(Array.mem_replicate.1 hv).2];exact .undef)
   exact this.get hv
 . intro it hi;simp only[Frame.enter,h1,Option.bind_some,h2,Option.getD_some,List.mem_singleton]at hi;subst hi;exact(H.body f fn c hf h1 h2).1
end
structure vM where
 k:List Item
 ds:List Deferred
def noT:vM:=⟨[],[]⟩
def ju(fr:Frame)(k:vM):Frame:={fr with todo:=fr.todo++k.k,defers:=fr.defers++k.ds}
def vE(k:vM):List Frame->List Frame
 |[]=>[]
 |[f]=>[ju f k]
 |f::g::l=>f::vE k (g::l)
def below(k:vM):List Frame->vM
 |[]=>k
 |_::_=>noT
def gor(k:vM)(cs:List Frame)(st:Frame×List Frame):Goroutine:=G (ju st.1 (below k st.2)) (vE k st.2++cs)
structure qbE(P:Program)(e:Bool)(st:Frame×List Frame){α:Type}(s:Sem α)(Q:α->Prop)(g1:α->Frame×List Frame)(g2:Value->Frame×List Frame)(fn:FuncId)(pan:Bool):Prop where
 ok:∀main k cs w a w' es,(e=false->k=noT)->s.runT P w #[]=(.ok a w',es)->Q a->stepG P main (gor k cs st) w=.go (gor k cs (g1 a)) w' (seen P fn es)
 panic:∀main k cs w v w' es,(e=false->k=noT)->pan=true->s.runT P w #[]=(.halt (.panic v) w',es)->stepG P main (gor k cs st) w=.go (gor k cs (g2 v)) w' (seen P fn es)
 fatal:∀main k cs w h w' es,(e=false->k=noT)->s.runT P w #[]=(.halt h w',es)->(Fatal h∨(pan=false/\∃v,h=.panic v))->∃o w₁ es₁,stepG P main (gor k cs st) w=.ended o w₁ es₁
def Clean(C:Pen)(S:List String)(st:Frame×List Frame):Prop:=FrE C S st.1/\∀x,x∈st.2->FrE C S x/\x.todo≠[]
def Norm(C:Pen)(S:List String)(e:Bool)(st:Frame×List Frame):Prop:=
 ∃(α:Type) (s:Sem α) (Q:α->Prop) (g1:α->Frame×List Frame) (g2:Value->Frame×List Frame) (fn:FuncId) (pan:Bool),
  qbE C.P e st s Q g1 g2 fn pan/\qd C s Q/\(∀a,Q a->Clean C S (g1 a))/\∀v,Ok C.A C.F v->Clean C S (g2 v)
def q8r(e:Bool)(fr:Frame):Prop:=fr.mode≠.run∨(e=true/\(fr.todo=[]∨(∃id t,fr.todo=.code (.exit id)::t/\exitTo id t=none)∨∃l t,fr.todo=.code (.goto l)::t/\gotoIn l t=none))
section
variable {C:Pen}{S:List String}{X:Nat->Prop}{e:Bool}
theorem qu4{α:Type}(P:Program)(a:α)(w:World)(es:Array Event):(pure a:Sem α).runT P w es=(.ok a w,es):=by rfl
theorem seen_none(P:Program)(fn:FuncId):seen P fn #[]=#[]:=by simp[seen]
theorem q40(fr:Frame):ju fr noT=fr:=by simp[ju,noT]
theorem qkF{id:Nat}:∀(t t' k:List Item),exitTo id t=some t'->exitTo id (t++k)=some (t'++k):=by
 intro t
 induction t with
 |nil=>intro t' k e;cases e
 |cons x t ih=>
  intro t' k e;cases x with
  |inBlock id'=>
   simp only[exitTo,List.cons_append]at e |-;split at e
   . rename_i h;cases e;rw[if_pos h]
   . rename_i h;rw[if_neg h];exact ih t' k e
  |_=>simp only[exitTo,List.cons_append]at e |-;exact ih t' k e
theorem qkG{l:Nat}:∀(t t' k:List Item),gotoIn l t=some t'->gotoIn l (t++k)=some (t'++k):=by
 intro t
 induction t with
 |nil=>intro t' k e;cases e
 |cons x t ih=>
  intro t' k e;cases x with
  |inScope body=>
   simp only[gotoIn,List.cons_append]at e |-;split at e
   . cases e;rfl
   . exact ih t' k e
  |_=>simp only[gotoIn,List.cons_append]at e |-;exact ih t' k e
theorem qmd{fr:Frame}(h:fr.todo≠[])(k:vM)(v:Value):(ju fr k).finish v=ju (fr.finish v) k:=by
 cases ht:fr.todo with
 |nil=>exact absurd ht h
 |cons x t=>
  cases x with
  |inRegion ops is=>cases is<;>simp[Frame.finish,ju,ht]
  |_=>simp[Frame.finish,ju,ht]
theorem q0w(fr:Frame)(k:vM)(vs:List PanicEntry):(ju fr k).raise vs=ju (fr.raise vs) k:=by
 unfold Frame.raise ju;dsimp only;split<;>rfl
theorem qix(fr:Frame)(f2:Frame)(fs:List Frame)(k:vM):ju fr (below k (f2::fs))=fr:=q40 fr
theorem qu5(k:vM)(f:Frame)(fs:List Frame):vE k (f::fs)=ju f (below k fs)::vE k fs:=by
 cases fs with
 |nil=>rfl
 |cons g l=>show f::vE k (g::l)=_;rw[qix]
theorem qpf{st st':Frame×List Frame}(h:∀main k cs w,(e=false->k=noT)->stepG C.P main (gor k cs st) w=.go (gor k cs st') w #[])(hc:Clean C S st'):Norm C S e st:=by
 refine⟨Unit,pure (),λ_=>True,λ_=>st',λ_=>st',0,true,⟨?_,?_,?_⟩,qac trivial,λ_ _=>hc,λ_ _=>hc⟩
 . intro main k cs w a w' es hk e _;rw[qu4]at e;cases e;rw[h main k cs w hk,seen_none]
 . intro main k cs w v w' es _ _ e;rw[qu4]at e;cases e
 . intro main k cs w x w' es _ e _;rw[qu4]at e;cases e
theorem qd9{fr fr':Frame}{fs:List Frame}(h:∀main k cs w,stepG C.P main (G (ju fr k) cs) w=.go (G (ju fr' k) cs) w #[])(hc:Clean C S (fr',fs)):Norm C S e (fr,fs):=
 qpf (st':=(fr',fs)) (λmain _ _ w _=>h main _ _ w) hc
theorem qhm{st:Frame×List Frame}(h:∀main k cs w,(e=false->k=noT)->∃o w₁ es₁,stepG C.P main (gor k cs st) w=.ended o w₁ es₁)(hc:Clean C S st):Norm C S e st:=by
 refine⟨Unit,stuck "",λ_=>True,λ_=>st,λ_=>st,0,true,⟨?_,?_,?_⟩,qae,λ_ _=>hc,λ_ _=>hc⟩
 . intro main k cs w a w' es _ e _;cases e
 . intro main k cs w v w' es _ _ e;cases e
 . intro main k cs w x w' es hk e _;exact h main k cs w hk
def q41(P:Program)(fr:Frame)(fs:List Frame):Next->Frame×List Frame
 | .value v=>(fr.finish v,fs)
 | .skip=>(fr.finish undef,fs)
 | .enter f args=>(Frame.enter P f args .normal,fr::fs)
 |_=>(fr,fs)
theorem q6j(H:zw C S){fr:Frame}{fs:List Frame}(hX:FrE C S fr)(hfs:∀x,x∈fs->FrE C S x/\x.todo≠[]){s:Sem Next}(hs:qd C s (qsp C))
   {ops:Array Oper} {i:Nat} {is:List Nat} {t:List Item} (hk:fr.todo=.inRegion ops (i::is)::t)
   (h:∀main k cs w,stepG C.P main (G (ju fr k) cs) w=stepG.apply C.P true (ju fr k) cs none s w):Norm C S e (fr,fs):=by
 have hkind:∀k,((ju fr k).kind==CallKind.early)=false:=λk=>by show (fr.kind==CallKind.early)=false;rw[hX.kind];rfl
 have hne:fr.todo≠[]:=by rw[hk];exact λh=>by cases h
 refine⟨Next,s,qsp C,q41 C.P fr fs,λv=>(fr.raise [{v,recovered:=false}],fs),fr.fn,true,⟨?_,?_,?_⟩,hs,λa ha=>?_,λv hv=>⟨FrE.raise hX (λe he=>?_),hfs⟩⟩
 . intro main k cs w a w' es _ e ha;unfold gor;dsimp only;rw[h];cases a with
   |value v=>simp only[stepG.apply,e,hkind,GStep.after,q41,if_true,Bool.false_eq_true,if_false,Array.append_empty,qmd hne];rfl
   |skip=>simp only[stepG.apply,e,hkind,GStep.after,q41,if_true,Bool.false_eq_true,if_false,Array.append_empty,qmd hne];rfl
   |enter f args=>
    simp only[stepG.apply,e,hkind,GStep.after,q41,if_true,Bool.false_eq_true,if_false,Array.append_empty];rw[qu5,show below k (fr::fs)=noT from rfl,q40];split
    . rename_i hk';rw[show (ju fr (below k fs)).todo=.inRegion ops (i::is)::(t++(below k fs).k)from by simp[ju,hk]]at hk';cases hk'
    . rfl
   |_=>exact ha.elim
 . intro main k cs w v w' es _ _ e;unfold gor;dsimp only;rw[h];simp only[stepG.apply,e,hkind,GStep.after,if_true,Bool.false_eq_true,if_false,Array.append_empty,q0w];rfl
 . intro main k cs w x w' es _ e hx;unfold gor;dsimp only;rw[h];replace hx:Fatal x:=hx.elim id (λy=>by cases y.1);cases x with
   |stuck y=>exact⟨_,_,_,by simp[stepG.apply,e,hkind,GStep.after,-Sem.runT_eq];exact⟨rfl,rfl,rfl⟩⟩
   |unsupported y=>
    cases y with
    |initOrder g=>exact hx.elim
    |_=>exact⟨_,_,_,by simp[stepG.apply,e,hkind,GStep.after,-Sem.runT_eq];exact⟨rfl,rfl,rfl⟩⟩
   |_=>exact hx.elim
 . cases a with
   |value v=>exact⟨FrE.finish hX ha,hfs⟩
   |skip=>exact⟨FrE.finish hX .undef,hfs⟩
   |enter f args=>
    obtain⟨h1,h2,fn,c,h3,h4⟩:=ha;refine⟨qkE H h1 h2 h3 h4,λx hx=>?_⟩;rcases List.mem_cons.1 hx with rfl|hx
    . exact⟨hX,hne⟩
    . exact hfs x hx
   |_=>exact ha.elim
 . rw[List.mem_singleton]at he;subst he;exact hv
theorem qyu(fr:Frame)(k:vM)(x:Operand):(ju fr k).eval x=fr.eval x:=by cases x<;>rfl
theorem q8s(H:zw C S){fr:Frame}{fs:List Frame}(hX:FrE C S fr)(hfs:∀x,x∈fs->FrE C S x/\x.todo≠[])(hm:fr.mode=.run):(fs=[]/\q8r e fr)∨Norm C S e (fr,fs):=by
 have hall:Clean C S (fr,fs):=⟨hX,hfs⟩;have hr:=hX.round;have ret:Clean C S ({fr with mode:=.returning},fs):=⟨vf.vm hX (λch e=>by cases e),hfs⟩;have to:∀k,(∀it,it∈k->qnn C S (C.X fr.fn) it)->Clean C S ({fr with todo:=k},fs):=λk hk=>⟨vf.yc hX hk,hfs⟩;have ht:=hX.todo;cases hk:fr.todo with
 |nil=>
  cases fs with
  |nil=>
   cases e with
   |true=>exact .inl ⟨rfl,.inr ⟨rfl,.inl hk⟩⟩
   | false=>exact .inr (qpf (st':=({ fr with mode:=.returning },[])) (fun main κ cs w he=>by
       have:=he rfl;subst this;simp[gor,below,vE,ju,noT,G,stepG,stepG.exec,hm,hk,hr]) ret)
  | cons f2 fs=>exact .inr (qpf (st':=({ fr with mode:=.returning },f2::fs)) (fun main κ cs w _=>by
      unfold gor;dsimp only;rw[qix,qix];simp[G,stepG,stepG.exec,hm,hk,hr]) ret)
 |cons it k=>
  rw[hk]at ht;have h0:=ht it (by simp);have hkk:∀it,it∈k->qnn C S (C.X fr.fn) it:=λx hx=>ht x (by simp[hx]);cases it with
  |code c=>
   cases c with
   |ret=>exact .inr (qd9 (fr':={fr with mode:=.returning}) (λmain κ cs w=>by simp[G,stepG,stepG.exec,ju,hm,hk,hr]) ret)
   |skip=>exact .inr (qd9 (fr':={fr with todo:=k}) (λmain κ cs w=>by simp[G,stepG,stepG.exec,ju,hm,hk]) (to k hkk))
   |label l=>exact .inr (qd9 (fr':={fr with todo:=k}) (λmain κ cs w=>by simp[G,stepG,stepG.exec,ju,hm,hk]) (to k hkk))
   |seq a b=>
    refine .inr (qd9 (fr':={fr with todo:=.code a::.code b::k}) (λmain κ cs w=>by simp[G,stepG,stepG.exec,ju,hm,hk]) (to _ (λx hx=>?_)));rcases List.mem_cons.1 hx with rfl|hx
    . exact h0.1
    . rcases List.mem_cons.1 hx with rfl|hx
      . exact h0.2
      . exact hkk x hx
   |cond c a b=>
    right;by_cases hb:∃t,fr.eval c=.bool t
    . obtain⟨t,ht⟩:=hb;refine qd9 (fr':={fr with todo:=.code (if t then a else b)::k}) (λmain κ cs w=>?_) (to _ (λx hx=>?_))
      . have h':=(qyu fr κ c).trans ht;simp only[ju,hk,hm,List.cons_append]at h';simp[G,stepG,stepG.exec,ju,hm,hk,h']
      rcases List.mem_cons.1 hx with rfl|hx
      . cases t
        . exact h0.2
        . exact h0.1
      . exact hkk x hx
    . refine qhm (λmain κ cs w _=>?_) hall;have h':=qyu fr (below κ fs) c;simp only[ju,hk,hm,List.cons_append]at h';cases hv:fr.eval c with
      |bool t=>exact absurd ⟨t,hv⟩ hb
      |_=>rw[hv]at h';exact⟨_,_,_,by simp[gor,G,stepG,stepG.exec,ju,hm,hk,h'];exact⟨rfl,rfl,rfl⟩⟩
   |block id c=>
    refine .inr (qd9 (fr':={fr with todo:=.code c::.inBlock id::k}) (λmain κ cs w=>by simp[G,stepG,stepG.exec,ju,hm,hk]) (to _ (λx hx=>?_)));rcases List.mem_cons.1 hx with rfl|hx
    . exact h0
    . rcases List.mem_cons.1 hx with rfl|hx
      . trivial
      . exact hkk x hx
   |loop c=>
    refine .inr (qd9 (fr':={fr with todo:=.code c::.inLoop c::k}) (λmain κ cs w=>by simp[G,stepG,stepG.exec,ju,hm,hk]) (to _ (λx hx=>?_)));rcases List.mem_cons.1 hx with rfl|hx
    . exact h0
    . rcases List.mem_cons.1 hx with rfl|hx
      . exact h0
      . exact hkk x hx
   |scope c=>
    refine .inr (qd9 (fr':={fr with todo:=.code c::.inScope c::k}) (λmain κ cs w=>by simp[G,stepG,stepG.exec,ju,hm,hk]) (to _ (λx hx=>?_)));rcases List.mem_cons.1 hx with rfl|hx
    . exact h0
    . rcases List.mem_cons.1 hx with rfl|hx
      . exact h0
      . exact hkk x hx
   |exit id=>
    cases he:exitTo id k with
    |some k'=>exact .inr (qd9 (fr':={fr with todo:=k'}) (λmain κ cs w=>by simp[G,stepG,stepG.exec,ju,hm,hk,qkF k k' κ.k he]) (to _ (q83 k k' hkk he)))
    |none=>
     cases fs with
     |nil=>
      cases e with
      |true=>exact .inl ⟨rfl,.inr ⟨rfl,.inr (.inl ⟨id,k,hk,he⟩)⟩⟩
      | false=>exact .inr (qhm (fun main κ cs w h0=>by
          have:=h0 rfl;subst this;exact⟨_,_,_,by simp[gor,below,vE,ju,noT,G,stepG,stepG.exec,hm,hk,he,hr];exact⟨rfl,rfl,rfl⟩⟩) hall)
     | cons f2 fs=>exact .inr (qhm (fun main κ cs w _=>by
         unfold gor;dsimp only;rw[qix];exact⟨_,_,_,by simp[G,stepG,stepG.exec,hm,hk,he,hr];exact⟨rfl,rfl,rfl⟩⟩) hall)
   |goto l=>
    cases he:gotoIn l k with
    |some k'=>exact .inr (qd9 (fr':={fr with todo:=k'}) (λmain κ cs w=>by simp[G,stepG,stepG.exec,ju,hm,hk,qkG k k' κ.k he]) (to _ (q84 k k' hkk he)))
    |none=>
     cases fs with
     |nil=>
      cases e with
      |true=>exact .inl ⟨rfl,.inr ⟨rfl,.inr (.inr ⟨l,k,hk,he⟩)⟩⟩
      | false=>exact .inr (qhm (fun main κ cs w h0=>by
          have:=h0 rfl;subst this;exact⟨_,_,_,by simp[gor,below,vE,ju,noT,G,stepG,stepG.exec,hm,hk,he,hr];exact⟨rfl,rfl,rfl⟩⟩) hall)
     | cons f2 fs=>exact .inr (qhm (fun main κ cs w _=>by
         unfold gor;dsimp only;rw[qix];exact⟨_,_,_,by simp[G,stepG,stepG.exec,hm,hk,he,hr];exact⟨rfl,rfl,rfl⟩⟩) hall)
   |rangeFunc f ps a b=>exact h0.elim
   |refuse y=>exact .inr (qhm (λmain κ cs w _=>⟨_,_,_,by simp[gor,G,stepG,stepG.exec,ju,hm,hk];exact⟨rfl,rfl,rfl⟩⟩) hall)
   |region id ops draw=>
    right
    have qgR:∀is,Clean C S ({fr with todo:=.inRegion ops is::k},fs):=λis=>to _ (λx hx=>by
     rcases List.mem_cons.1 hx with rfl|hx
     . exact h0
     . exact hkk x hx)
    cases draw with
    |false=>exact qd9 (fr':={fr with todo:=.inRegion ops (List.range ops.size)::k}) (λmain κ cs w=>by simp[G,stepG,stepG.exec,ju,hm,hk]) (qgR _)
    |true=>
     refine⟨Nat,choose (.order fr.fn id),λ_=>True,λt=>({fr with todo:=.inRegion ops (Region.schedule (C.P.follows .mixedOrders) ops t)::k},fs),λ_=>(fr,fs),0,true,⟨?_,?_,?_⟩,qd5 _,λ_ _=>qgR _,λ_ _=>hall⟩
     . intro main κ cs w a w' es _ e _;simp only[choose,Sem.runT,Question.forced,Bool.false_eq_true,if_false,Prod.mk.injEq,Result.ok.injEq]at e;obtain⟨⟨rfl,rfl⟩,rfl⟩:=e;simp[gor,G,stepG,stepG.exec,ju,hm,hk,choose,Sem.run,Question.forced,seen_none]
     . intro main κ cs w v w' es _ _ e;simp[choose,Sem.runT,Question.forced,-Sem.runT_eq]at e
     . intro main κ cs w x w' es _ e _;simp[choose,Sem.runT,Question.forced,-Sem.runT_eq]at e
  |inBlock id=>exact .inr (qd9 (fr':={fr with todo:=k}) (λmain κ cs w=>by simp[G,stepG,stepG.exec,ju,hm,hk]) (to k hkk))
  |inScope c=>exact .inr (qd9 (fr':={fr with todo:=k}) (λmain κ cs w=>by simp[G,stepG,stepG.exec,ju,hm,hk]) (to k hkk))
  |inLoop c=>
   refine .inr (qd9 (fr':={fr with todo:=.code c::.inLoop c::k}) (λmain κ cs w=>by simp[G,stepG,stepG.exec,ju,hm,hk]) (to _ (λx hx=>?_)));rcases List.mem_cons.1 hx with rfl|hx
   . exact h0
   . rcases List.mem_cons.1 hx with rfl|hx
     . exact h0
     . exact hkk x hx
  |inRegion ops is=>
   right;cases is with
   |nil=>exact qd9 (fr':={fr with todo:=k}) (λmain κ cs w=>by simp[G,stepG,stepG.exec,ju,hm,hk]) (to k hkk)
   |cons i rest=>
    by_cases hw:((ops[i]?).map (Region.wanted · (yielded ops fr.tmps))).getD false=true
    . cases ho:ops[i]? with
      |none=>rw[ho]at hw;cases hw
      |some o=>
       have hoo:=h0 o (Array.mem_of_getElem? ho);rw[ho]at hw;refine q6j H hX hfs (s:=execOp fr.eval o) (qsq H.qbD (λx hx=>q85 hX (hoo.2 x hx)) hoo.1) hk (λmain κ cs w=>?_);have h':(ju fr κ).eval=fr.eval:=funext (qyu fr κ);simp only[ju,hk,hm,hr,List.cons_append]at h';simp[G,stepG,stepG.exec,stepG.oper,Frame.oper?,ju,hm,hk,ho,hr]at hw |-;simp[hw,h']
    . refine qd9 (fr':=fr.finish undef) (λmain κ cs w=>?_) ⟨FrE.finish hX .undef,hfs⟩;rw[<-qmd (by rw[hk];exact λh=>by cases h)];simp[G,stepG,stepG.exec,ju,hm,hk,hw]
  |_=>exact h0.elim
theorem q6k{α β:Type}{Q:β->Prop}{f:α->Sem β}(xs:Array α)(h:∀x,x∈xs->qd C (f x) Q):qd C (xs.mapM f) (λys=>∀y,y∈ys->Q y):=by
 rw[Array.mapM_eq_mapM_toList];refine qu8 (Q:=λl:List β=>∀y,y∈l->Q y) ?_ (λl hl y hy=>hl y (by simpa using hy));have h':∀x,x∈xs.toList->qd C (f x) Q:=λx hx=>h x (by simpa using hx);generalize xs.toList=l at h'
 induction l with
 |nil=>rw[List.mapM_nil];exact qac (λy hy=>by cases hy)
 |cons x l ih=>
  rw[List.mapM_cons];refine qab (h' x (by simp)) (λa ha=>qab (ih (λy hy=>h' y (by simp[hy]))) (λb hb=>qac (λy hy=>?_)));rcases List.mem_cons.1 hy with rfl|hy
  . exact ha
  . exact hb y hy
theorem q8t{fr:Frame}(h:vf C S X fr){t:Nat}(hx:¬X t):Ok C.A C.F (fr.tmps.getD t undef):=q85 h (x:=.tmp t) hx
theorem qpg(H:zw C S){fr:Frame}(h:vf C S X fr){fn:Func}(hf:C.P.funcs[fr.fn]?=some fn):qd C (results fn fr.tmps) (Ok C.A C.F):=by
 obtain⟨fn',h1,h2⟩:=h.fn;cases h1.symm.trans hf;unfold results;refine qab (q6k _ (λr hr=>?_) (Q:=Ok C.A C.F)) (λvs hvs=>qac ?_)
 . have:=h2 r hr;cases r with
   |tmp t=>exact qac (q8t h this)
   |cell a t=>exact qab (qgs H.qbD.handle (q8t h this)) (λx hx=>qf3 hx)
 . split
   . exact hvs _ (Array.getElem_mem _)
   . exact .tuple hvs
theorem norm(H:zw C S){fr:Frame}{fs:List Frame}(h:Clean C S (fr,fs)):(fs=[]/\q8r e fr)∨Norm C S e (fr,fs):=by
 obtain⟨hX,hfs⟩:=h;replace hX:FrE C S fr:=hX;replace hfs:∀x,x∈fs->FrE C S x/\x.todo≠[]:=hfs;by_cases hm:fr.mode=.run
 . exact q8s H hX hfs hm
 cases fs with
 |nil=>exact .inl ⟨rfl,.inl hm⟩
 |cons f2 fs=>
  right;have h2:=hfs f2 (by simp);have hf2:∀x,x∈fs->FrE C S x/\x.todo≠[]:=λx hx=>hfs x (by simp[hx]);obtain⟨fn,hf,_⟩:=hX.fn;have hd:=hX.defers
  have qbF:∀k cs,gor k cs (fr,f2::fs)=G fr (ju f2 (below k fs)::(vE k fs++cs)):=λk cs=>by
   unfold gor;dsimp only;rw[qix,qu5];rfl
  cases hmode:fr.mode with
  |run=>exact absurd hmode hm
  |panicking ch=>
   exact qpf (st':=(f2.raise ch,fs)) (λmain k cs w _=>by
    rw[qbF];unfold gor;simp only[<-q0w];simp[G,stepG,unwind,hmode,hd,Frame.catches,hf]) ⟨h2.1.raise (hX.mode ch hmode),hf2⟩
  |returning=>
   have hk:=hX.kind;refine⟨Value,results fn fr.tmps,Ok C.A C.F,λv=>(f2.finish v,fs),λ_=>(f2,fs),fr.fn,false,⟨?_,?_,?_⟩,qpg H hX hf,λv hv=>⟨h2.1.finish hv,hf2⟩,λv hv=>⟨h2.1,hf2⟩⟩
   . intro main k cs w a w' es _ e _;rw[qbF];unfold gor;simp only[<-qmd h2.2];simp only[Sem.runT_eq,Prod.mk.injEq]at e;simp[G,stepG,unwind,hmode,hd,hf,doReturn,hk,GStep.after,e.1,e.2]
   . intro main k cs w v w' es _ h0 e;cases h0
   . intro main k cs w x w' es _ e hx;rw[qbF];simp only[Sem.runT_eq,Prod.mk.injEq]at e;cases x with
     |stuck y=>exact⟨_,_,_,by simp[G,stepG,unwind,hmode,hd,hf,GStep.after,e.1];exact⟨rfl,rfl,rfl⟩⟩
     |_=>exact⟨_,_,_,by simp[G,stepG,unwind,hmode,hd,hf,GStep.after,e.1];exact⟨rfl,rfl,rfl⟩⟩
end
def re(w:World)(t:Nat->Question->Nat)(d:Nat):World:={w with tape:=t,drawn:=d}
def vW{α:Type}(f:World->World):Result α->Result α
 | .ok a w=>.ok a (f w)
 | .halt h w=>.halt h (f w)
theorem q8u{α:Type}:∀(a:Ask α) (w:World) (t:Nat->Question->Nat) (d:Nat),(∀i q,t (d+i) q=w.tape (w.drawn+i) q) ->
   (re w t d).ask a=((w.ask a).1,re (w.ask a).2 t (d+((w.ask a).2.drawn-w.drawn))):=by
 intro a
 induction a with
 |done a=>intro w t d _;simp[World.ask,re]
 |ask what range k ih=>
  intro w t d h;simp only[World.ask];split
  . exact ih _ w t d h
  . rename_i hf;have h0:(re w t d).tape (re w t d).drawn (.extern what range)=w.tape w.drawn (.extern what range):=h 0 _;rw[h0]
    have h1:=ih ((Question.extern what range).cut (w.tape w.drawn (.extern what range))) {w with drawn:=w.drawn+1} t (d+1) (λi q=>by
     have:=h (i+1) q;show t (d+1+i) q=w.tape (w.drawn+1+i) q;rw[show d+1+i=d+(i+1) by omega,show w.drawn+1+i=w.drawn+(i+1) by omega];exact this)
    have h2:=(q42 (k ((Question.extern what range).cut (w.tape w.drawn (.extern what range)))) {w with drawn:=w.drawn+1}).2;refine Eq.trans (show _=(re {w with drawn:=w.drawn+1} t (d+1)).ask _ from rfl) (h1.trans ?_);simp only[Prod.mk.injEq,true_and];congr 1;have h3:w.drawn+1<=(World.ask {w with drawn:=w.drawn+1} (k ((Question.extern what range).cut (w.tape w.drawn (.extern what range))))).2.drawn:=h2;show d+1+(_-(w.drawn+1))=_;omega
theorem q8v(w:World)(c:Sys)(t:Nat->Question->Nat)(d:Nat)(h:∀i q,t (d+i) q=w.tape (w.drawn+i) q) :
   (re w t d).sys c=((w.sys c).1,re (w.sys c).2 t (d+((w.sys c).2.drawn-w.drawn))):=by
 have h1:=q8u (Kernel.perform c w.os) w t d h;unfold World.sys;rw[show (re w t d).os=w.os from rfl,h1];generalize w.ask (Kernel.perform c w.os)=x;obtain⟨⟨r,os⟩,w'⟩:=x;cases r<;>first|rfl|simp[re]
theorem q6l(p:Program)(w:World)(t:Nat->Question->Nat)(d:Nat)(a:Addr)(b:Bool):(re w t d).farLoad p a b=w.farLoad p a b:=rfl
theorem q0x(p:Program)(w:World)(t:Nat->Question->Nat)(d:Nat)(at_:Addr)(u:TypeId)(a:Addr)(v:Value)(b:Bool) :
   (re w t d).viewStore p at_ u a v b=(w.viewStore p at_ u a v b).map (λx=>(re x.1 t d,x.2)):=by
 have hs:(re w t d).seen p at_ u a b=w.seen p at_ u a b:=rfl;unfold World.viewStore;rw[hs];simp only[bind,Except.bind,pure,Except.pure];split
 . rfl
 . split
   . rfl
   . split
     . split
       . rfl
       . split
         . rfl
         . rfl
     . rfl
theorem q3c(p:Program)(w:World)(t:Nat->Question->Nat)(d:Nat)(a:Addr)(v:Value)(b:Bool) :
   (re w t d).farStore p a v b=(w.farStore p a v b).map (λx=>(re x.1 t d,x.2)):=by
 unfold World.farStore;rw[show (re w t d).heap=w.heap from rfl];cases w.heap[a.block]? with
 |none=>rfl
 |some o=>
  cases o with
  |view at_ u=>
   dsimp only;rw[q0x];cases w.viewStore p at_ u a v b<;>rfl
  |_=>rfl
theorem qu6{α:Type}(p:Program):∀(s:Sem α) (w:World) (t:Nat->Question->Nat) (d:Nat),(∀i q,t (d+i) q=w.tape (w.drawn+i) q) ->
   s.run p (re w t d)=vW (λv=>re v t (d+(v.drawn-w.drawn))) (s.run p w):=by
 intro s
 induction s with
 |pure a=>intro w t d _;simp[Sem.run,vW,re]
 |load m a k ih=>
  intro w t d h;simp only[Sem.run];rw[show (re w t d).cell? a=w.cell? a from rfl,q6l];cases w.cell? a with
  |some v=>exact ih v w t d h
  |none=>
   cases w.farLoad p a (m == .atomic)with
   |ok r=>exact ih r.1 w t d h
   |error e=>simp[vW]
 |store m a v k ih=>
  intro w t d h
  have key:(match (re w t d).cell? a with
      |some _=>if (re w t d).frozen? a then .halt (.unsupported (.unsafePointer "a write to bytes that a string shares")) (re w t d)else k.run p ((re w t d).setCell a v)
      |none=>match (re w t d).farStore p a v (m == .atomic)with
       | .ok (w,_)=>k.run p w
       | .error h=>.halt h (re w t d))=vW (λv=>re v t (d+(v.drawn-w.drawn))) (match w.cell? a with
      |some _=>if w.frozen? a then .halt (.unsupported (.unsafePointer "a write to bytes that a string shares")) w else k.run p (w.setCell a v)
      |none=>match w.farStore p a v (m == .atomic)with
       | .ok (w,_)=>k.run p w
       | .error h=>.halt h w):=by
   rw[show (re w t d).cell? a=w.cell? a from rfl,show (re w t d).frozen? a=w.frozen? a from rfl,q3c];cases w.cell? a with
   |some x=>
    dsimp only;split
    . simp[vW]
    . exact ih (w.setCell a v) t d h
   |none=>
    cases hf:w.farStore p a v (m == .atomic)with
    |ok r=>
     obtain⟨w2,l⟩:=r;have h1:=qpi hf;have:=ih w2 t d (λi q=>by rw[h1.1,h1.2];exact h i q);rw[h1.2]at this;exact this
    |error e=>simp[Except.map,vW]
  cases v<;>first|exact key|simp[Sem.run,vW]
 |new o k ih=>intro w t d h;exact ih _ {w with heap:=w.heap.push o} t d h
 |shape r k ih=>intro w t d h;exact ih _ w t d h
 |freeze a n k ih=>
  intro w t d h;have h1:(w.freeze a n).tape=w.tape/\(w.freeze a n).drawn=w.drawn:=by unfold World.freeze;split<;>exact⟨rfl,rfl⟩
  have h2:(re w t d).freeze a n=re (w.freeze a n) t d:=by unfold World.freeze;split<;>rfl
  have:=ih (w.freeze a n) t d (λi q=>by rw[h1.1,h1.2];exact h i q);rw[h1.2]at this;simp only[Sem.run,h2];exact this
 |frozen a k ih=>intro w t d h;exact ih _ w t d h
 |getObj r k ih=>
  intro w t d h;simp only[Sem.run];rw[show (re w t d).heap=w.heap from rfl];cases w.heap[r]? with
  |none=>simp[vW]
  |some o=>cases o<;>first|(simp[vW];done)|exact ih _ w t d h
 |setObj r o k ih=>
  intro w t d h;simp only[Sem.run];rw[show (re w t d).heap=w.heap from rfl];cases w.heap[r]? with
  |none=>simp[vW]
  |some x=>cases x<;>first|(simp[vW];done)|exact ih {w with heap:=w.heap.setIfInBounds r o} t d h
 |choose q k ih=>
  intro w t d h;simp only[Sem.run];split
  . exact ih 0 w t d h
  . have h0:(re w t d).tape (re w t d).drawn q=w.tape w.drawn q:=h 0 q;rw[h0]
    have h1:=ih (q.cut (w.tape w.drawn q)) {w with drawn:=w.drawn+1} t (d+1) (λi q=>by
     have:=h (i+1) q;show t (d+1+i) q=w.tape (w.drawn+1+i) q;rw[show d+1+i=d+(i+1) by omega,show w.drawn+1+i=w.drawn+(i+1) by omega];exact this)
    have h2:=(qme p (k (q.cut (w.tape w.drawn q))) {w with drawn:=w.drawn+1}).2;refine Eq.trans (show _=(k (q.cut (w.tape w.drawn q))).run p (re {w with drawn:=w.drawn+1} t (d+1))from rfl) (h1.trans ?_);cases hr:(k (q.cut (w.tape w.drawn q))).run p {w with drawn:=w.drawn+1}with
    |ok a v=>
     rw[hr]at h2;have h3:w.drawn+1<=v.drawn:=h2;simp only[vW,Result.ok.injEq,true_and];congr 1;omega
    |halt x v=>
     rw[hr]at h2;have h3:w.drawn+1<=v.drawn:=h2;simp only[vW,Result.halt.injEq,true_and];congr 1;omega
 |sys c k ih=>
  intro w t d h;have h1:=q8v w c t d h;have h2:=q43 w c;simp only[Sem.run,h1]
  have h3:=ih (w.sys c).1 (w.sys c).2 t (d+((w.sys c).2.drawn-w.drawn)) (λi q=>by
   rw[h2.1,show d+((w.sys c).2.drawn-w.drawn)+i=d+(((w.sys c).2.drawn-w.drawn)+i) by omega,h];congr 1;have:=h2.2;omega)
  refine h3.trans ?_;have h4:=(qme p (k (w.sys c).1) (w.sys c).2).2;have h5:=h2.2;cases hr:(k (w.sys c).1).run p (w.sys c).2 with
  |ok a v=>
   rw[hr]at h4;have h6:(w.sys c).2.drawn<=v.drawn:=h4;simp only[vW,Result.ok.injEq,true_and];congr 1;omega
  |halt x v=>
   rw[hr]at h4;have h6:(w.sys c).2.drawn<=v.drawn:=h4;simp only[vW,Result.halt.injEq,true_and];congr 1;omega
 |program k ih=>intro w t d h;exact ih _ w t d h
 |mark m k ih=>intro w t d h;exact ih w t d h
 |halt x=>intro w t d _;simp[Sem.run,vW,re]
section
variable {C:Pen}{S:List String}{e:Bool}
theorem Rel.vR{w u:World}(h:Rel C w u):Rel C u u:=
 ⟨rfl,rfl,by have:=h.room;rw[h.size]at this;exact this,λr hp=>by
  obtain⟨c',c,e,fr,h1,h2,h3,h4,h5,h6⟩:=h.part r hp;exact⟨c',c',e,(0,0),h1,h1,Nat.le_refl _,h4,λi v hv=>⟨hv,λhA=>⟨((h5 i v hv).2 hA).1,by omega⟩⟩,.inl rfl,h6.2⟩,λ_ _ _=>rfl,h.cln,h.chn,rfl⟩
theorem Rel.yd{w u:World}(h:Rel C w u)(t:Nat->Question->Nat):Rel C (re w t w.drawn) u:=⟨h.size,h.os,h.room,h.part,h.same,h.cln,h.chn,h.drawn⟩
theorem Rel.xo{w u:World}(h:Rel C w u)(t:Nat->Question->Nat):Rel C w (re u t u.drawn):=⟨h.size,h.os,h.room,h.part,h.same,h.cln,h.chn,h.drawn⟩
theorem Rel.at{w u:World}(h:Rel C w u)(d:Nat):Rel C (w.at d) (u.at d):=⟨h.size,h.os,h.room,h.part,h.same,h.cln,h.chn,rfl⟩
theorem qkH{u' v t d}(h1:v.heap=u'.heap)(h2:v.tape=t)(h3:v.drawn=d)(h4:v.os=u'.os)(h5:v.output=u'.output):v=re u' t d:=by
 cases v;cases u';simp only[re]at *;subst h1 h2 h3 h4 h5;rfl
theorem q0y{u u' v:World}{t:Nat->Question->Nat}{e1 e2:Array Event}(k1:Kept C u u' e1)(k2:Kept C (re u t u.drawn) v e2)(r1:Rel C v u')(r2:Rel C u' v):v=re u' t u'.drawn:=by
 refine qkH ?_ (by rw[k2.tape];rfl) r1.drawn (by rw[k2.os,k1.os];rfl) (by rw[k2.output,k1.output];rfl);apply Array.ext_getElem?;intro r;by_cases hA:C.B r/\¬C.Z r/\¬C.Ch r
 . obtain⟨hB,hZ,hC⟩:=hA;by_cases hp:C.Pt r
   . obtain⟨c',c,e,fr,h1,h2,h3,_,h5,_⟩:=r1.part r hp;obtain⟨d',d,e2,fr2,k1,k2,k3,_,_,_⟩:=r2.part r hp;rw[h2]at k1;rw[h1]at k2;cases k1;cases k2;rw[h1,h2];congr 2;apply Array.ext_getElem?;intro i;by_cases hi:i<c'.size
     . rw[(h5 i _ (Array.getElem?_eq_getElem hi)).1,Array.getElem?_eq_getElem hi]
     . rw[Array.getElem?_eq_none (by omega),Array.getElem?_eq_none (by omega)]
   . exact r1.same r hB hp
 . have hA':¬ C.B r∨C.Z r∨C.Ch r:=by
    by_cases h1:C.B r
    . by_cases h2:C.Z r
      . exact .inr (.inl h2)
      . by_cases h3:C.Ch r
        . exact .inr (.inr h3)
        . exact absurd ⟨h1,h2,h3⟩ hA
    . exact .inl h1
   rw[k2.block r hA',k1.block r hA'];rfl
theorem qkI{α:Type}{s:Sem α}{Q:α->Prop}(hs:qd C s Q){u:World}(hu:Rel C u u){a:α}{u':World}(e:s.run C.P u=.ok a u')(t:Nat->Question->Nat)(ht:Same (re u t u.drawn) u u.drawn u'.drawn) :
   s.run C.P (re u t u.drawn)=.ok a (re u' t u'.drawn):=by
 have h0:=hs u u #[] hu (λ_ _ _ _=>rfl);rw[e]at h0;obtain⟨u2,e0,h1,h2,k0,_⟩:=h0;rw[Sem.runT_eq,e]at h1;have hu2:u'=u2:=by simp only[Prod.mk.injEq,Result.ok.injEq,true_and]at h1;exact h1.1
 subst hu2;have h:=hs (re u t u.drawn) u #[] (hu.yd t) (by rw[e];exact ht);rw[e]at h;obtain⟨v,e1,h3,h4,k1,_⟩:=h;have h5:s.run C.P (re u t u.drawn)=.ok a v:=by rw[Sem.runT_eq]at h3;exact(Prod.mk.inj h3).1
 have h6:=hs u (re u t u.drawn) #[] (hu.xo t) (by
  rw[h5];intro k q i1 i2;have:v.drawn=u'.drawn:=h4.drawn;exact(ht k q i1 (by rw[<-this];exact i2)).symm)
 rw[h5]at h6;obtain⟨u3,e2,h7,h8,_,_⟩:=h6;have h9:s.run C.P u=.ok a u3:=by rw[Sem.runT_eq]at h7;exact(Prod.mk.inj h7).1
 rw[e]at h9;cases h9;rw[h5,q0y k0 k1 h4 h8]
theorem q6m{α:Type}{s:Sem α}{Q:α->Prop}(hs:qd C s Q){u:World}(hu:Rel C u u){a:Value}{u':World}(e:s.run C.P u=.halt (.panic a) u')(t:Nat->Question->Nat)(ht:Same (re u t u.drawn) u u.drawn u'.drawn) :
   s.run C.P (re u t u.drawn)=.halt (.panic a) (re u' t u'.drawn):=by
 have h0:=hs u u #[] hu (λ_ _ _ _=>rfl);rw[e]at h0;obtain⟨u2,e0,h1,h2,k0,_⟩:=h0;rw[Sem.runT_eq,e]at h1;have hu2:u'=u2:=by simp only[Prod.mk.injEq,Result.halt.injEq,true_and]at h1;exact h1.1
 subst hu2;have h:=hs (re u t u.drawn) u #[] (hu.yd t) (by rw[e];exact ht);rw[e]at h;obtain⟨v,e1,h3,h4,k1,_⟩:=h;have h5:s.run C.P (re u t u.drawn)=.halt (.panic a) v:=by rw[Sem.runT_eq]at h3;exact(Prod.mk.inj h3).1
 have h6:=hs u (re u t u.drawn) #[] (hu.xo t) (by
  rw[h5];intro k q i1 i2;have:v.drawn=u'.drawn:=h4.drawn;exact(ht k q i1 (by rw[<-this];exact i2)).symm)
 rw[h5]at h6;obtain⟨u3,e2,h7,h8,_,_⟩:=h6;have h9:s.run C.P u=.halt (.panic a) u3:=by rw[Sem.runT_eq]at h7;exact(Prod.mk.inj h7).1
 rw[e]at h9;cases h9;rw[h5,q0y k0 k1 h4 h8]
structure qbG(P:Program)(e:Bool)(st:Frame×List Frame)(v:World)(st':Frame×List Frame)(v':World):Prop where
 le:v.drawn<=v'.drawn
 go:∀t p,(∀i q,i<v'.drawn-v.drawn->t (p+i) q=v.tape (v.drawn+i) q)->∀main k cs,(e=false->k=noT)->∃es,stepG P main (gor k cs st) (re v t p)=.go (gor k cs st') (re v' t (p+(v'.drawn-v.drawn))) es
def qgS(P:Program)(e:Bool)(st:Frame×List Frame)(v:World):Prop:=∀t p,(∀i q,t (p+i) q=v.tape (v.drawn+i) q)->∀main k cs,(e=false->k=noT)->∃o w es,stepG P main (gor k cs st) (re v t p)=.ended o w es
theorem qph{w w':World}{es:Array Event}(h:Kept C w w' es)(fn:FuncId):Kept C w w' (seen C.P fn es):=⟨h.block,h.size,h.os,h.output,h.tape,h.drawn,λe he=>h.evs e (mem_seen he),h.tail⟩
theorem qxx(v:World)(t:Nat->Question->Nat)(p n:Nat)(h:∀i q,i<n->t (p+i) q=v.tape (v.drawn+i) q) :
   ∃t2:Nat->Question->Nat,Same (re v t2 v.drawn) v v.drawn (v.drawn+n)/\∀i q,t (p+i) q=t2 (v.drawn+i) q:=
 ⟨λj=>t (p+(j-v.drawn)),λk q h1 h2=>by
  show t (p+(k-v.drawn)) q=v.tape k q;rw[h _ q (by omega)];congr 1;omega,λi q=>by show t (p+i) q=t (p+(v.drawn+i-v.drawn)) q;congr 2;omega⟩
theorem adv(H:zw C S){fr:Frame}{fs:List Frame}(h:Clean C S (fr,fs)){w u:World}(hr:Rel C w u)(ht:u.tape=w.tape) :
   (fs=[]/\q8r e fr)∨qgS C.P e (fr,fs) u∨∃st' w' u' es,(∀main k cs,(e=false->k=noT)->stepG C.P main (gor k cs (fr,fs)) w=.go (gor k cs st') w' es)/\Kept C w w' es/\Rel C w' u'/\u'.tape=w'.tape/\Clean C S st'/\qbG C.P e (fr,fs) u st' u':=by
 rcases norm (e:=e) H h with h|⟨α,s,Q,g1,g2,fn,pan,hb,hs,h1,h2⟩
 . exact .inl h
 . right;have hk:=hs w u #[] hr (λk q _ _=>by rw[ht]);have htp:=qme C.P s u;cases er:s.run C.P u with
   |ok a u'=>
    rw[er]at hk htp;obtain⟨w',new,e1,r1,k1,q1⟩:=hk;right;refine⟨g1 a,w',u',seen C.P fn (#[]++new),λmain k cs h0=>hb.ok main k cs w a w' _ h0 e1 q1,qph (by simpa using k1) _,r1,?_,h1 a q1,htp.2,λt p hp main k cs h0=>?_⟩
    . rw[k1.tape,<-ht];exact htp.1
    . obtain⟨t2,hs2,hsh⟩:=qxx u t p _ hp;have e2:=qkI hs hr.vR er t2 (λk q i1 i2=>hs2 k q i1 (by omega));have e3:=qu6 C.P s (re u t2 u.drawn) t p hsh;rw[e2]at e3;exact⟨_,hb.ok main k cs (re u t p) a (re u' t (p+(u'.drawn-u.drawn))) _ h0 (by rw[Sem.runT_eq];exact Prod.ext e3 rfl) q1⟩
   |halt x u'=>
    rw[er]at hk htp;by_cases hx:(∃v,x=.panic v)/\pan=true
    . obtain⟨⟨v,rfl⟩,qgT⟩:=hx;obtain⟨w',new,e1,r1,k1,q1⟩:=hk;right;refine⟨g2 v,w',u',seen C.P fn (#[]++new),λmain k cs h0=>hb.panic main k cs w v w' _ h0 qgT e1,qph (by simpa using k1) _,r1,?_,h2 v q1,htp.2,λt p hp main k cs h0=>?_⟩
      . rw[k1.tape,<-ht];exact htp.1
      . obtain⟨t2,hs2,hsh⟩:=qxx u t p _ hp;have e2:=q6m hs hr.vR er t2 (λk q i1 i2=>hs2 k q i1 (by omega));have e3:=qu6 C.P s (re u t2 u.drawn) t p hsh;rw[e2]at e3;exact⟨_,hb.panic main k cs (re u t p) v (re u' t (p+(u'.drawn-u.drawn))) _ h0 qgT (by rw[Sem.runT_eq];exact Prod.ext e3 rfl)⟩
    . left;intro t p hp main k cs h0
      have hf:Fatal x∨(pan=false/\∃v,x=.panic v):=by
       cases x with
       |panic v=>exact .inr ⟨by cases pan with
        |false=>rfl
        |true=>exact absurd ⟨⟨v,rfl⟩,rfl⟩ hx,v,rfl⟩
       |_=>exact .inl hk
      have e3:=qu6 C.P s u t p hp;rw[er]at e3;exact hb.fatal main k cs (re u t p) x _ _ h0 (by rw[Sem.runT_eq];exact Prod.ext e3 rfl) hf
end
def zm(c:Nat->Nat):Nat->Nat
 |0=>0
 |n+1=>zm c n+c n
theorem q0z(c:Nat->Nat){n m:Nat}(h:n<=m):zm c n<=zm c m:=by
 induction m with
 | zero => have : n = 0 := by omega
           rw[this];exact Nat.le_refl _
 |succ m ih=>
  by_cases e:n=m+1
  . rw[e];exact Nat.le_refl _
  . exact Nat.le_trans (ih (by omega)) (Nat.le_add_right _ _)
theorem qkJ(c:Nat->Nat){n m i j:Nat}(hi:i<c n)(hj:j<c m)(h:zm c n+i=zm c m+j):n=m/\i=j:=by
 have key:∀{n m i j:Nat},i<c n->j<c m->zm c n+i=zm c m+j->¬n<m:=λ{n m i j} hi _ h hlt=>by
  have h1:zm c n+c n<=zm c m:=q0z c (n:=n+1) hlt;omega
 have:n=m:=by
  have h1:=key hi hj h;have h2:=key hj hi h.symm;omega
 subst this;exact⟨rfl,by omega⟩
open Classical in
theorem concat{β:Type}(b:β)(c:Nat->Nat)(f:Nat->Nat->β):∃t:Nat->β,∀n i,i<c n->t (zm c n+i)=f n i:=by
 refine⟨λj=>if h:∃x:Nat×Nat,x.2<c x.1/\zm c x.1+x.2=j then f h.choose.1 h.choose.2 else b,λn i hi=>?_⟩;have h:∃x:Nat×Nat,x.2<c x.1/\zm c x.1+x.2=zm c n+i:=⟨(n,i),hi,rfl⟩;show (if h:∃x:Nat×Nat,x.2<c x.1/\zm c x.1+x.2=zm c n+i then f h.choose.1 h.choose.2 else b)=f n i;rw[dif_pos h];obtain⟨h1,h2⟩:=qkJ c h.choose_spec.1 hi h.choose_spec.2;rw[h1,h2]
def vS:List Item:=[.code (.refuse "")]
def qd8(e:Bool):vM:=⟨if e then vS else [],[]⟩
def zr:Frame:={(default:Frame)with todo:=vS,defers:=[{target:=.nil,args:=#[]}],mode:=.run,kind:=.normal,roundOf:=none}
section
variable {C:Pen}{S:List String}
theorem qc7{P:Program}{g:Goroutine}{w w':World}{o:Outcome}{es:Array Event}(hs:g.status=.running)(h:stepG P true g w=.ended o w' es):step P (solo g w)=.ended o w':=by
 obtain⟨fr,cs,st,dy,of⟩:=g;rw[step,stepT_solo hs];simp[runT,solo,Array.swapAt!,Array.swapAt,h,GStep.es]
theorem runN_ended{P:Program}{m m':Machine}{o:Outcome}{w:World}(h:step P m=.ended o w){n:Nat}(h':runN P (n+1) m=.next m'):False:=by
 simp[runN,h]at h'
theorem q00{P:Program}{m m₁ m':Machine}(h:step P m=.next m₁){n:Nat}(h':runN P (n+1) m=.next m'):runN P n m₁=.next m':=by
 simpa[runN,h]using h'
theorem qyv{g g':Goroutine}{w w':World}(h:solo g w=solo g' w'):g=g'/\w=w':=by
 simp only[solo,Machine.mk.injEq,Array.mk.injEq,List.cons.injEq,and_true]at h;exact⟨h.2,h.1⟩
theorem q6n{id:Nat}:∀(t:List Item),exitTo id t=none->exitTo id (t++vS)=none:=by
 intro t
 induction t with
 |nil=>intro _;rfl
 |cons x t ih=>
  intro e;cases x with
  |inBlock id'=>
   simp only[exitTo,List.cons_append]at e |-;split at e
   . cases e
   . rename_i h;rw[if_neg h];exact ih e
  |_=>simp only[exitTo,List.cons_append]at e |-;exact ih e
theorem q6o{l:Nat}:∀(t:List Item),gotoIn l t=none->gotoIn l (t++vS)=none:=by
 intro t
 induction t with
 |nil=>intro _;rfl
 |cons x t ih=>
  intro e;cases x with
  |inScope body=>
   simp only[gotoIn,List.cons_append]at e |-;split at e
   . cases e
   . exact ih e
  |_=>simp only[gotoIn,List.cons_append]at e |-;exact ih e
theorem yC{e:Bool}{fr:Frame}(hf:FrE C S fr)(ho:q8r e fr){w:World}{n:Nat}{g:Goroutine}{v:World}(h:runN C.P (n+1) (solo (gor (qd8 e) [zr] (fr,[])) w)=.next (solo g v)):g.callers=[]:=by
 have hX:=hf;obtain⟨fn,hfn,_⟩:=hX.fn;have hd:=hX.defers;have hr:=hX.round;have hk:=hX.kind
 have gone:∀(f:Frame) (w':World),(f=zr∨∃ch,f=zr.raise ch)->(∀g v,runN C.P n (solo (G f []) w')=.next (solo g v)->g.callers=[]):=by
  intro f w' hf g v h;cases n with
  |zero=>
   have:solo (G f []) w'=solo g v:=by simpa[runN]using h
   rw[<-(qyv this).1];rfl
  |succ n=>
   rcases hf with rfl|⟨ch,rfl⟩
   . exact(runN_ended (qc7 rfl (show stepG C.P true (G zr []) w'=.ended _ w' #[]from by simp[G,stepG,stepG.exec,zr,vS];rfl)) h).elim
   . exact(runN_ended (qc7 rfl (show stepG C.P true (G (zr.raise ch) []) w'=.ended _ w' #[]from by simp[G,stepG,Frame.raise,zr,unwind,callDeferred];rfl)) h).elim
 by_cases hm:fr.mode=.run
 . exfalso;rcases ho with h1|⟨rfl,h1|⟨id,t,h1,h2⟩|⟨l,t,h1,h2⟩⟩
   . exact h1 hm
   . exact runN_ended (qc7 rfl (show stepG C.P true (gor (qd8 true) [zr] (fr,[])) w=.ended _ w #[]from by simp[gor,qd8,below,vE,ju,G,stepG,stepG.exec,hm,h1,vS];rfl)) h
   . have h3:=q6n t h2;simp only[vS]at h3;exact runN_ended (qc7 rfl (show stepG C.P true (gor (qd8 true) [zr] (fr,[])) w=.ended _ w #[]from by simp[gor,qd8,below,vE,ju,G,stepG,stepG.exec,hm,h1,vS,h3,hr];rfl)) h
   . have h3:=q6o t h2;simp only[vS]at h3;exact runN_ended (qc7 rfl (show stepG C.P true (gor (qd8 true) [zr] (fr,[])) w=.ended _ w #[]from by simp[gor,qd8,below,vE,ju,G,stepG,stepG.exec,hm,h1,vS,h3,hr];rfl)) h
 . cases hmode:fr.mode with
   |run=>exact absurd hmode hm
   |panicking ch=>
    have h1:stepG C.P true (gor (qd8 e) [zr] (fr,[])) w=.go (G (zr.raise ch) []) w #[]:=by simp[gor,qd8,below,vE,ju,G,stepG,unwind,hmode,hd,Frame.catches,hfn]
    exact gone _ w (.inr ⟨ch,rfl⟩) g v (q00 (step_solo_go rfl h1) h)
   |returning=>
    cases hrun:(results fn fr.tmps).run C.P w with
    |ok a w'=>
     have h1:stepG C.P true (gor (qd8 e) [zr] (fr,[])) w=.go (G zr []) w' (seen C.P fr.fn ((results fn fr.tmps).events C.P w #[])):=by
      have hfin:zr.finish a=zr:=rfl;simp[gor,qd8,below,vE,ju,G,stepG,unwind,hmode,hd,hfn,doReturn,hk,hrun,GStep.after,hfin]
     exact gone _ w' (.inl rfl) g v (q00 (step_solo_go rfl h1) h)
    |halt x w'=>
     exfalso;cases x with
     |stuck y=>exact runN_ended (qc7 rfl (show stepG C.P true (gor (qd8 e) [zr] (fr,[])) w=.ended _ w' _ from by simp[gor,qd8,below,vE,ju,G,stepG,unwind,hmode,hd,hfn,hrun,GStep.after];exact⟨rfl,rfl⟩)) h
     |_=>exact runN_ended (qc7 rfl (show stepG C.P true (gor (qd8 e) [zr] (fr,[])) w=.ended _ w' _ from by simp[gor,qd8,below,vE,ju,G,stepG,unwind,hmode,hd,hfn,hrun,GStep.after];exact⟨rfl,rfl⟩)) h
end
def Lone(C:Pen)(S:List String)(main:Bool)(k:vM)(cs:List Frame)(Stop:Frame×List Frame->World->World->Prop)(st:Frame×List Frame)(w u:World):Prop:=
 ∀X:Frame×List Frame->World->World->Prop,(∀st w u,Stop st w u->X st w u) ->
  (∀st w u,(∀d,∃st' w' u' es,stepG C.P main (gor k cs st) (w.at d)=.go (gor k cs st') w' es/\Kept C (w.at d) w' es/\Rel C w' u'/\u'.tape=w'.tape/\Clean C S st'/\X st' w' u')->X st w u)->X st w u
theorem Lone.stop{C:Pen}{S:List String}{main:Bool}{k:vM}{cs:List Frame}{Stop:Frame×List Frame->World->World->Prop}{st:Frame×List Frame}{w u:World}(h:Stop st w u):Lone C S main k cs Stop st w u:=
 λ_ hs _=>hs _ _ _ h
theorem Lone.step{C:Pen}{S:List String}{main:Bool}{k:vM}{cs:List Frame}{Stop:Frame×List Frame->World->World->Prop}{st:Frame×List Frame}{w u:World}
   (h:∀d,∃st' w' u' es,stepG C.P main (gor k cs st) (w.at d)=.go (gor k cs st') w' es/\Kept C (w.at d) w' es/\Rel C w' u'/\u'.tape=w'.tape/\Clean C S st'/\Lone C S main k cs Stop st' w' u'):Lone C S main k cs Stop st w u:=
 λX hs hX=>hX _ _ _ (λd=>by
  obtain⟨st',w',u',es,h1,h2,h3,h4,h5,h6⟩:=h d;exact⟨st',w',u',es,h1,h2,h3,h4,h5,h6 X hs hX⟩)
section
variable {C:Pen}{S:List String}{e:Bool}
structure Both(C:Pen)(w u:World):Prop where
 rel:Rel C w u
 tape:u.tape=w.tape
theorem Both.at{w u:World}(h:Both C w u)(d:Nat):Both C (w.at d) (u.at d):=⟨h.rel.at d,h.tape⟩
structure Bad(C:Pen)(S:List String)(main:Bool)(k:vM)(cs:List Frame)(Stop:Frame×List Frame->World->World->Prop) where
 st:Frame×List Frame
 w:World
 u:World
 clean:Clean C S st
 both:Both C w u
 bad:¬Lone C S main k cs Stop st w u
variable {main:Bool}{k:vM}{cs:List Frame}{Stop:Frame×List Frame->World->World->Prop}
def ye(e:Bool)(x:Bad C S main k cs Stop)(y:Bad C S main k cs Stop×Nat):Prop:=qbG C.P e x.st (x.u.at y.2) y.1.st y.1.u/\y.1.u.tape=x.u.tape
theorem qkK(H:zw C S)(hk:e=false->k=noT)(x:Bad C S main k cs Stop):(∃y,ye e x y)∨(x.st.2=[]/\q8r e x.st.1)∨∃d,qgS C.P e x.st (x.u.at d):=by
 have hd:∃d,¬∃st' w' u' es,stepG C.P main (gor k cs x.st) (x.w.at d)=.go (gor k cs st') w' es/\Kept C (x.w.at d) w' es/\Rel C w' u'/\u'.tape=w'.tape/\Clean C S st'/\Lone C S main k cs Stop st' w' u':=
  Classical.byContradiction (λhn=>x.bad (.step (λd=>Classical.byContradiction (λh=>hn ⟨d,h⟩))))
 obtain⟨d,hd⟩:=hd;rcases adv (e:=e) H x.clean (x.both.at d).rel (x.both.at d).tape with h|h|⟨st',w',u',es,h1,h2,h3,h4,h5,h6⟩
 . exact .inr (.inl h)
 . exact .inr (.inr ⟨d,h⟩)
 . refine .inl ⟨(⟨st',w',u',h5,⟨h3,h4⟩,λhl=>hd ⟨st',w',u',es,h1 main k cs hk,h2,h3,h4,h5,hl⟩⟩,d),h6,?_⟩;show u'.tape=x.u.tape;rw[h4,h2.tape];exact x.both.tape.symm
open Classical in
noncomputable def qli(e:Bool)(x:Bad C S main k cs Stop):Bad C S main k cs Stop×Nat:=if h:∃y,ye e x y then h.choose else (x,0)
theorem qsf{x:Bad C S main k cs Stop}(h:∃y,ye e x y):ye e x (qli e x):=by
 unfold qli;rw[dif_pos h];exact h.choose_spec
noncomputable def qdg(e:Bool)(x:Bad C S main k cs Stop):Nat->Bad C S main k cs Stop
 |0=>x
 |n+1=>(qli e (qdg e x n)).1
noncomputable def used(e:Bool)(x:Bad C S main k cs Stop)(n:Nat):Nat:=(qdg e x (n+1)).u.drawn-(qli e (qdg e x n)).2
theorem qkL{x:Bad C S main k cs Stop}:∀n,(∀m,m<n->∃y,ye e (qdg e x m) y)->(qdg e x n).u.tape=x.u.tape:=by
 intro n
 induction n with
 |zero=>intro _;rfl
 |succ n ih=>intro h;exact(qsf (h n (Nat.lt_succ_self n))).2.trans (ih (λm hm=>h m (by omega)))
theorem q3d{x:Bad C S main k cs Stop}(t:Nat->Question->Nat):∀n,(∀m,m<n->∃y,ye e (qdg e x m) y) ->
   (∀m,m<n->∀i,i<used e x m->t (zm (used e x) m+i)=x.u.tape ((qli e (qdg e x m)).2+i)) ->
   runN C.P n (solo (gor (qd8 e) [zr] x.st) (re x.u t 0))=.next (solo (gor (qd8 e) [zr] (qdg e x n).st) (re (qdg e x n).u t (zm (used e x) n))):=by
 intro n
 induction n with
 |zero=>intro _ _;rfl
 |succ n ih=>
  intro h ht;have h0:=ih (λm hm=>h m (by omega)) (λm hm=>ht m (by omega));rw[runN_add,h0];have h1:=(qsf (h n (Nat.lt_succ_self n))).1;have h2:=qkL n (λm hm=>h m (by omega));have hk0:e=false->qd8 e=noT:=λh=>by rw[h];rfl
  obtain⟨es,h3⟩:=h1.go t (zm (used e x) n) (λi q hi=>by
   have:=ht n (Nat.lt_succ_self n) i hi;show t (zm (used e x) n+i) q=(qdg e x n).u.tape ((qli e (qdg e x n)).2+i) q;rw[this,h2]) true (qd8 e) [zr] hk0
  have h4:=step_solo_go rfl h3;show runN C.P 1 (solo (gor (qd8 e) [zr] (qdg e x n).st) (re (qdg e x n).u t (zm (used e x) n)))=_;have h4':step C.P (solo (gor (qd8 e) [zr] (qdg e x n).st) (re (qdg e x n).u t (zm (used e x) n)))=.next (solo (gor (qd8 e) [zr] (qdg e x (n+1)).st) (re (qdg e x (n+1)).u t (zm (used e x) (n+1)))):=h4;simp only[runN,h4']
theorem lift(H:zw C S)(hk:e=false->k=noT){xa:Goroutine->World->Prop}(hS:∀g v,xa g v->g.callers≠[]){st:Frame×List Frame}{w u:World}(hc:Clean C S st)(hb:Both C w u)
   (h:∀t,∃g v,Steps C.P (solo (gor (qd8 e) [zr] st) (re u t 0)) (solo g v)/\xa g v) :
   Lone C S main k cs (λst' w' u'=>Clean C S st'/\Both C w' u'/\∃t d,xa (gor (qd8 e) [zr] st') (re u' t d)) st w u:=by
 refine Classical.byContradiction (λhn=>?_)
 let x:Bad C S main k cs (λst' w' u'=>Clean C S st'/\Both C w' u'/\∃t d,xa (gor (qd8 e) [zr] st') (re u' t d)):=⟨st,w,u,hc,hb,hn⟩
 have yf:∀y:Bad C S main k cs (λst' w' u'=>Clean C S st'/\Both C w' u'/\∃t d,xa (gor (qd8 e) [zr] st') (re u' t d)),∀t d,¬xa (gor (qd8 e) [zr] y.st) (re y.u t d):=
  λy t d hs=>y.bad (.stop ⟨y.clean,y.both,t,d,hs⟩)
 obtain⟨tC,hC⟩:=concat (λ_=>0) (used e x) (λn i=>x.u.tape ((qli e (qdg e x n)).2+i));by_cases hall:∀n,∃y,ye e (qdg e x n) y
 . obtain⟨g,v,⟨M,hM⟩,hst⟩:=h tC;have h1:=q3d tC M (λm _=>hall m) (λm _ i hi=>hC m i hi);rw[show solo (gor (qd8 e) [zr] x.st) (re x.u tC 0)=solo (gor (qd8 e) [zr] st) (re u tC 0)from rfl,hM]at h1;have h2:=qyv (Stepped.next.inj h1);rw[h2.1,h2.2]at hst;exact yf _ _ _ hst
 . have hex:∃n,¬∃y,ye e (qdg e x n) y:=Classical.byContradiction (λhne=>hall (λn=>Classical.byContradiction (λh'=>hne ⟨n,h'⟩)))
   have qbH:∃n,(¬∃y,ye e (qdg e x n) y)/\∀m,m<n->∃y,ye e (qdg e x m) y:=by
    obtain⟨n,hn⟩:=hex
    induction n using Nat.strongRecOn with
    |_ n ih=>
     by_cases hm:∃m,m<n/\¬∃y,ye e (qdg e x m) y
     . obtain⟨m,hm1,hm2⟩:=hm;exact ih m hm1 hm2
     . exact⟨n,hn,λm hmn=>Classical.byContradiction (λh'=>hm ⟨m,hmn,h'⟩)⟩
   obtain⟨N,hN,hbelow⟩:=qbH
   have key:∀tail:Nat->Question->Nat,(∀n v g,runN C.P (n+1) (solo (gor (qd8 e) [zr] (qdg e x N).st) (re (qdg e x N).u (λj q=>if j<zm (used e x) N then tC j q else tail (j-zm (used e x) N) q) (zm (used e x) N)))=.next (solo g v)->g.callers=[])->False:=by
    intro tail qbI;obtain⟨g,v,⟨M,hM⟩,hst⟩:=h (λj q=>if j<zm (used e x) N then tC j q else tail (j-zm (used e x) N) q)
    have yT:∀m,m<N->∀i,i<used e x m->(λj q=>if j<zm (used e x) N then tC j q else tail (j-zm (used e x) N) q) (zm (used e x) m+i)=x.u.tape ((qli e (qdg e x m)).2+i):=by
     intro m hm i hi;have:zm (used e x) m+used e x m<=zm (used e x) N:=q0z (used e x) (n:=m+1) hm;funext q;simp only;rw[if_pos (by omega),hC m i hi]
    by_cases hMN:M<=N
    . have h1:=q3d (λj q=>if j<zm (used e x) N then tC j q else tail (j-zm (used e x) N) q) M (λm hm=>hbelow m (by omega)) (λm hm i hi=>yT m (by omega) i hi);rw[show solo (gor (qd8 e) [zr] x.st) (re x.u _ 0)=solo (gor (qd8 e) [zr] st) (re u _ 0)from rfl,hM]at h1;have h2:=qyv (Stepped.next.inj h1);rw[h2.1,h2.2]at hst;exact yf _ _ _ hst
    . have h1:=q3d (λj q=>if j<zm (used e x) N then tC j q else tail (j-zm (used e x) N) q) N (λm hm=>hbelow m hm) yT;obtain⟨n,rfl⟩:∃n,M=N+(n+1):=⟨M-N-1,by omega⟩;rw[runN_add,show solo (gor (qd8 e) [zr] st) (re u _ 0)=solo (gor (qd8 e) [zr] x.st) (re x.u _ 0)from rfl,h1]at hM;exact hS g v hst (qbI n v g hM)
   rcases qkK H hk (qdg e x N)with h1|⟨h1,h2⟩|⟨d,h1⟩
   . exact hN h1
   . refine key (λ_ _=>0) (λn v g hr=>?_);have hst:(qdg e x N).st=((qdg e x N).st.1,[]):=Prod.ext rfl h1;rw[hst]at hr;exact yC (qdg e x N).clean.1 h2 hr
   . refine key (λj q=>(qdg e x N).u.tape (d+j) q) (λn v g hr=>?_)
     obtain⟨o,w1,es,h2⟩:=h1 (λj q=>if j<zm (used e x) N then tC j q else (qdg e x N).u.tape (d+(j-zm (used e x) N)) q) (zm (used e x) N) (λi q=>by
      show (if zm (used e x) N+i<zm (used e x) N then _ else (qdg e x N).u.tape (d+(zm (used e x) N+i-zm (used e x) N)) q)=(qdg e x N).u.tape (d+i) q;rw[if_neg (by omega),show zm (used e x) N+i-zm (used e x) N=i by omega]) true (qd8 e) [zr] (λh=>by rw[h];rfl)
     exact(runN_ended (qc7 rfl h2) hr).elim
end
end
section
open Go.Conc
open Go.ConcN (sumTo upd sumTo_upd upd_ne upd_same)
structure Held(C:Pen)(w w':World):Prop where
 block:∀r,(¬C.B r∨C.Z r∨C.Ch r)->w'.heap[r]?=w.heap[r]?
 size:w.heap.size<=w'.heap.size
 os:w'.os=w.os
 output:w'.output=w.output
 tape:w'.tape=w.tape
 tail:Beyond C w w'
theorem Held.refl(C:Pen)(w:World):Held C w w:=⟨λ_ _=>rfl,Nat.le_refl _,rfl,rfl,rfl,.of rfl⟩
theorem Held.trans{C:Pen}{a b c:World}(h:Held C a b)(k:Held C b c):Held C a c:=⟨λr hr=>(k.block r hr).trans (h.block r hr),Nat.le_trans h.size k.size,k.os.trans h.os,k.output.trans h.output,k.tape.trans h.tape,h.tail.trans k.tail⟩
theorem Kept.held{C:Pen}{w w':World}{es:Array Event}(h:Kept C w w' es):Held C w w':=⟨h.block,h.size,h.os,h.output,h.tape,h.tail⟩
structure Outside(C:Pen)(Sh:Nat->Prop)(Fz:Loc->Prop)(T:Nat->qA)(n h:Nat):Prop where
 seat:∀i s,i≠h->i<n->T i=.seat s->(¬C.B s.c∨C.Ch s.c)/\∀x,x∈s.L->¬C.B x.1.block∨C.Z x.1.block
 xE:∀r,Sh r->¬C.B r∨C.Z r
 still:∀l,Fz l->∃a:Addr,l=.cell a/\(¬C.B a.block∨C.Z a.block)
section
variable {C:Pen}{S:List String}{Post:Value->World->Prop}{Sh:Nat->Prop}{Fz:Loc->Prop}{T:Nat->qA}{n h dd:Nat}{w u:World}
theorem qxv{L:List (Addr×Value)}{w w':World}(hL:holds L w)(hA:∀x,x∈L->¬C.B x.1.block∨C.Z x.1.block)(hh:Held C w w'):holds L w':=λx hx=>by
 have:=hL x hx;unfold World.cell? at this |-;rw[hh.block _ ((hA x hx).imp id .inl)];exact this
theorem qny(O:Outside C Sh Fz T n h)(hf:∀i s,i≠h->i<n->T i=.seat s->holds s.L w){w':World}{es:Array Event}(hk:Kept C w w' es):vZ Sh Fz T n h w w' es/\∀d,deafBehind d es=d:=by
 refine⟨⟨λi s hi hn hT=>⟨qxv (hf i s hi hn hT) (O.seat i s hi hn hT).2 hk.held,hk.block _ ((O.seat i s hi hn hT).1.imp id .inr)⟩,λe he=>?_,hk.size⟩,λd=>deafBehind_still (λe he=>?_) d⟩
 . have hin:=hk.evs e he;obtain⟨loc,wr,sy⟩:=e;cases loc with
   |cell a=>
    obtain⟨h1,h2,h3⟩:=hin;cases h1;refine⟨λx hx=>?_,(λy hy=>by cases hy;exact h3)⟩;cases hx;refine⟨λhs=>((O.xE _ hs).elim (λk=>k h2.1) (λk=>h2.2 k)).elim,λ_ hz=>?_⟩;obtain⟨a',e,h4⟩:=O.still _ hz;cases e;exact h4.elim (λk=>k h2.1) (λk=>h2.2 k)
   |obj r=>
    obtain⟨h1,h2,h3⟩:=hin;refine⟨λx hx=>?_,(λy hy=>by cases wr<;>cases sy<;>first|(cases hy;exact h3)|(cases hy;done))⟩;have:x.loc=.obj r:=by cases wr<;>cases sy<;>first|(cases hx;rfl)|(cases hx;done)
    refine⟨λhs=>by rw[this]at hs;exact hs.elim,λ_ hz=>?_⟩;rw[this]at hz;obtain⟨a',e,_⟩:=O.still _ hz;cases e
   |output=>
    refine⟨λx hx=>?_,(λy hy=>by cases wr<;>cases sy<;>(cases hy;trivial))⟩;have:x.loc=.output:=by cases wr<;>cases sy<;>(cases hx;rfl)
    refine⟨λhs=>by rw[this]at hs;exact hs.elim,λ_ hz=>?_⟩;rw[this]at hz;obtain⟨a',e,_⟩:=O.still _ hz;cases e
   |goroutines=>exact hin.elim
   |mark m=>
    cases m with
    |extern f=>exact⟨(λx hx=>by cases wr<;>cases sy<;>cases hx),(λy hy=>by cases wr<;>cases sy<;>cases hy)⟩
    |noRoom=>exact⟨(λx hx=>by cases wr<;>cases sy<;>cases hx),(λy hy=>by cases wr<;>cases sy<;>cases hy)⟩
    |_=>exact hin.elim
 . have hin:=hk.evs e he;constructor
   . intro e0;unfold yR at hin;rw[e0]at hin;exact hin
   . intro e0;unfold yR at hin;rw[e0]at hin;exact hin
theorem q8e{k:vM}{cs:List Frame}{Stop:Frame×List Frame->World->World->Prop}{st:Frame×List Frame}(O:Outside C Sh Fz T n h)(L:Lone C S (h==0) k cs Stop st w u)
   (hf:∀i s,i≠h->i<n->T i=.seat s->holds s.L w) (next:∀st' w' u',Stop st' w' u'->Held C w w'->(∀i s,i≠h->i<n->T i=.seat s->holds s.L w')->vc C.P Post Sh Fz T n h dd (gor k cs st') w') :
   vc C.P Post Sh Fz T n h dd (gor k cs st) w:=by
 refine L (λst' w' _=>Held C w w'->(∀i s,i≠h->i<n->T i=.seat s->holds s.L w')->vc C.P Post Sh Fz T n h dd (gor k cs st') w') (λst' w' u' hs hh hf'=>next st' w' u' hs hh hf') (λst1 w1 u1 hst hh hf1=>?_) (Held.refl C w) hf;refine qys rfl (λd=>?_);obtain⟨st',w',u',es,h1,h2,_,_,_,h6⟩:=hst d;obtain⟨h7,h8⟩:=qny (w:=w1.at d) O hf1 h2;refine⟨_,w',es,h1,h7,?_⟩;rw[h8 dd];exact h6 (hh.trans (Held.trans (show Held C w1 (w1.at d)from⟨λ_ _=>rfl,Nat.le_refl _,rfl,rfl,rfl,.of rfl⟩) h2.held)) (λi s hi hn hT=>(h7.fact i s hi hn hT).1)
end
end
section
open Go.Conc
def Ends:Exit->Prop
 | .normal | .ret | .panic _=>True
 |_=>False
section
variable {C:Pen}{S:List String}{Post:Value->World->Prop}{Sh:Nat->Prop}{Fz:Loc->Prop}{T:Nat->qA}{n h dd:Nat}{w u:World}
def qrd(b:Frame)(a:Act)(todo:List Item):Exit->Frame
 | .ret=>{b.at a todo with mode:=.returning}
 | .panic ch=>{b.at a todo with mode:=.panicking ch}
 |_=>b.at a todo
theorem q8f(H:zw C S){b:Frame}{a:Act}{c:Code}(hX:FrE C S (b.at a [.code c]))(hb:Both C w u)(O:Outside C Sh Fz T n h)
   (hL:∀i s,i≠h->i<n->T i=.seat s->holds s.L w) {Q:(Nat->Question->Nat)->Exit->Act->World->Prop} (hc:∀t,c.wp C.P (Q t) a (re u t 0)) (hQ:∀t e a w,Q t e a w->Ends e)
   {k:List Item} {ds:List Deferred} {cs:List Frame}
   (next:∀e a' todo w' u',Both C w' u'->Held C w w'->FrE C S (qrd b a' todo e)->(e=.normal->todo=[])->(∀i s,i≠h->i<n->T i=.seat s->holds s.L w')->(∃t t2 d,Q t e a' (re u' t2 d))->vc C.P Post Sh Fz T n h dd (G (qrd b ⟨a'.tmps,ds⟩ (todo++k) e) cs) w') :
   vc C.P Post Sh Fz T n h dd (G (b.at ⟨a.tmps,ds⟩ (.code c::k)) cs) w:=by
 have qbJ:Clean C S (b.at a [.code c],[]):=⟨hX,λx hx=>by cases hx⟩;have qbF:∀k fr cs,gor k cs (fr,[])=G (ju fr k) cs:=λk fr cs=>rfl;have hds:a.defers=[]:=vf.defers hX
 have L:=lift (k:=⟨k,ds⟩) (cs:=cs) (main:=h==0) (e:=true) H (λh=>by cases h) (xa:=λg v=>∃fr t e a' todo,g=G fr [zr]/\Q t e a' v/\fr=qrd b a' todo e/\(e=.normal->todo=vS)) (λg v ⟨fr,t,e,a',todo,h1,_⟩=>by rw[h1];exact λh=>by cases h) qbJ hb (λt=>by
  obtain⟨e,a',w',hq,harr⟩:=hc t b vS [zr];have he:=hQ t e a' w' hq
  have hstart:solo (gor (qd8 true) [zr] (b.at a [.code c],[])) (re u t 0)=lone (b.at a (.code c::vS)) [zr] (re u t 0):=by
   rw[lone_eq_solo];unfold gor;simp[below,vE,ju,qd8,Frame.at]
  rw[hstart];cases e with
  |normal=>exact⟨_,w',harr,_,t,.normal,a',vS,rfl,hq,rfl,λ_=>rfl⟩
  |ret=>obtain⟨todo,hs⟩:=harr;exact⟨_,w',hs,_,t,.ret,a',todo,rfl,hq,rfl,λh=>by cases h⟩
  |panic ch=>obtain⟨todo,hs⟩:=harr;exact⟨_,w',hs,_,t,.panic ch,a',todo,rfl,hq,rfl,λh=>by cases h⟩
  |exit id=>exact he.elim
  |goto l=>exact he.elim
  |outgrown=>exact he.elim)
 have key:=q8e (Post:=Post) (dd:=dd) O L hL (λst' w' u' hst hh hL'=>?_)
 . have:gor ⟨k,ds⟩ cs (b.at a [.code c],[])=G (b.at ⟨a.tmps,ds⟩ (.code c::k)) cs:=by
    unfold gor;simp only[below,vE,ju,Frame.at,hds,List.nil_append,List.cons_append]
   rw[<-this];exact key
 . obtain⟨⟨hX',_⟩,hb',t2,d,fr,t,e,a',todo,e1,hq,e2,e3⟩:=hst;obtain⟨fr',fs'⟩:=st'
   have hfs:fs'=[]:=by
    have h1:vE (qd8 true) fs'++[zr]=[zr]:=congrArg Goroutine.callers e1;have h2:(vE (qd8 true) fs'++[zr]).length=1:=by rw[h1];rfl
    cases fs' with
    |nil=>rfl
    |cons x l=>rw[qu5]at h2;simp at h2
   subst hfs
   have hfr:ju fr' (qd8 true)=qrd b a' todo e:=by
    have:=congrArg Goroutine.frame e1;rw[<-e2];exact this
   have kH:(ju fr' (qd8 true)).todo=todo:=by rw[hfr];cases e<;>rfl
   have hk:todo=fr'.todo++vS:=kH.symm
   have hback:fr'=qrd b a' fr'.todo e:=by
    have:fr'={ju fr' (qd8 true)with todo:=fr'.todo}:=by simp[ju,qd8]
    rw[this,hfr];cases e<;>rfl
   have hda:a'.defers=[]:=by
    have h1:fr'.defers=[]:=vf.defers hX';rw[hback]at h1;cases e<;>exact h1
   have qeG:ju fr' ⟨k,ds⟩=qrd b ⟨a'.tmps,ds⟩ (fr'.todo++k) e:=by
    have:ju fr' ⟨k,ds⟩={fr' with todo:=fr'.todo++k,defers:=fr'.defers++ds}:=rfl;rw[this];generalize fr'.todo=td at *;rw[hback];cases e<;>simp[qrd,Frame.at,hda]
   rw[qbF,qeG];refine next e a' fr'.todo w' u' hb' hh (by rw[<-hback];exact hX') (λen=>?_) hL' ⟨t,t2,d,hq⟩;have h1:=e3 en;rw[hk]at h1;have h2:(fr'.todo++vS).length=vS.length:=by rw[h1]
   rw[List.length_append]at h2;exact List.eq_nil_of_length_eq_zero (by omega)
end
end
end Go.Proofs.YtacemdoejblgaaaGreatDoor

/- Part 9. Conditions: each statement's. -/
import Derived.Test.YtacemdoejblgaaaGreatDoorM08
import Derived.Conc.CrowdRun
namespace Go.Proofs.YtacemdoejblgaaaGreatDoor
set_option maxHeartbeats 6400000
set_option maxRecDepth 100000
section
open Go.Conc
def Lone(C:Pen)(S:List String)(main:Bool)(k:zr)(cs:List Frame)(Stop:Frame × List Frame->World->World->Prop)(st:Frame × List Frame)(w u:World):Prop:=
 ∀ X:Frame × List Frame->World->World->Prop,(∀ st w u,Stop st w u->X st w u) ->
   (∀ st w u,(∀ d,∃ st' w' u' es,stepG C.P main (gor k cs st) (w.at d)=.go (gor k cs st') w' es/\Kept C (w.at d) w' es/\Rel C w' u'/\u'.tape=w'.tape/\Clean C S st'/\X st' w' u')->X st w u)->X st w u
theorem Lone.stop{C:Pen}{S:List String}{main:Bool}{k:zr}{cs:List Frame}{Stop:Frame × List Frame->World->World->Prop}{st:Frame × List Frame}{w u:World}(h:Stop st w u):Lone C S main k cs Stop st w u:=
 fun _ hs _=>hs _ _ _ h
theorem Lone.step{C:Pen}{S:List String}{main:Bool}{k:zr}{cs:List Frame}{Stop:Frame × List Frame->World->World->Prop}{st:Frame × List Frame}{w u:World}
   (h:∀ d,∃ st' w' u' es,stepG C.P main (gor k cs st) (w.at d)=.go (gor k cs st') w' es/\Kept C (w.at d) w' es/\Rel C w' u'/\u'.tape=w'.tape/\Clean C S st'/\Lone C S main k cs Stop st' w' u'):Lone C S main k cs Stop st w u:=
 fun X hs hX=>hX _ _ _ (fun d=>by
   obtain⟨st',w',u',es,h1,h2,h3,h4,h5,h6⟩:=h d;exact⟨st',w',u',es,h1,h2,h3,h4,h5,h6 X hs hX⟩)
section
variable {C:Pen}{S:List String}{e:Bool}
structure Both(C:Pen)(w u:World):Prop where
 rel:Rel C w u
 tape:u.tape=w.tape
theorem Both.at{w u:World}(h:Both C w u)(d:Nat):Both C (w.at d) (u.at d):=⟨h.rel.at d,h.tape⟩
structure Bad(C:Pen)(S:List String)(main:Bool)(k:zr)(cs:List Frame)(Stop:Frame × List Frame->World->World->Prop) where
 st:Frame × List Frame
 w:World
 u:World
 clean:Clean C S st
 both:Both C w u
 bad:¬ Lone C S main k cs Stop st w u
variable {main:Bool}{k:zr}{cs:List Frame}{Stop:Frame × List Frame->World->World->Prop}
def vr(e:Bool)(x:Bad C S main k cs Stop)(y:Bad C S main k cs Stop × Nat):Prop:=yz C.P e x.st (x.u.at y.2) y.1.st y.1.u/\y.1.u.tape=x.u.tape
theorem q59(H:jo C S)(hk:e=false->k=noT)(x:Bad C S main k cs Stop):(∃ y,vr e x y)∨(x.st.2=[]/\q3x e x.st.1)∨∃ d,q8x C.P e x.st (x.u.at d):=by
 have hd:∃ d,¬ ∃ st' w' u' es,stepG C.P main (gor k cs x.st) (x.w.at d)=.go (gor k cs st') w' es/\Kept C (x.w.at d) w' es/\Rel C w' u'/\u'.tape=w'.tape/\Clean C S st'/\Lone C S main k cs Stop st' w' u':=
   Classical.byContradiction (fun hn=>x.bad (.step (fun d=>Classical.byContradiction (fun h=>hn ⟨d,h⟩))))
 obtain⟨d,hd⟩:=hd;rcases adv (e:=e) H x.clean (x.both.at d).rel (x.both.at d).tape with h | h | ⟨st',w',u',es,h1,h2,h3,h4,h5,h6⟩
 . exact .inr (.inl h)
 . exact .inr (.inr ⟨d,h⟩)
 . refine .inl ⟨(⟨st',w',u',h5,⟨h3,h4⟩,fun hl=>hd ⟨st',w',u',es,h1 main k cs hk,h2,h3,h4,h5,hl⟩⟩,d),h6,?_⟩;show u'.tape=x.u.tape;rw [h4,h2.tape];exact x.both.tape.symm
open Classical in
noncomputable def qiq(e:Bool)(x:Bad C S main k cs Stop):Bad C S main k cs Stop × Nat:=if h:∃ y,vr e x y then h.choose else (x,0)
theorem qnl{x:Bad C S main k cs Stop}(h:∃ y,vr e x y):vr e x (qiq e x):=by
 unfold qiq;rw [dif_pos h];exact h.choose_spec
noncomputable def qcs(e:Bool)(x:Bad C S main k cs Stop):Nat->Bad C S main k cs Stop
 | 0=>x
 | n+1=>(qiq e (qcs e x n)).1
noncomputable def used(e:Bool)(x:Bad C S main k cs Stop)(n:Nat):Nat:=(qcs e x (n+1)).u.drawn - (qiq e (qcs e x n)).2
theorem q6a{x:Bad C S main k cs Stop}:∀ n,(∀ m,m < n->∃ y,vr e (qcs e x m) y)->(qcs e x n).u.tape=x.u.tape:=by
 intro n
 induction n with
 | zero=>intro _;rfl
 | succ n ih=>intro h;exact(qnl (h n (Nat.lt_succ_self n))).2.trans (ih (fun m hm=>h m (by omega)))
theorem qyg{x:Bad C S main k cs Stop}(t:Nat->Question->Nat):∀ n,(∀ m,m < n->∃ y,vr e (qcs e x m) y) ->
   (∀ m,m < n->∀ i,i < used e x m->t (jh (used e x) m+i)=x.u.tape ((qiq e (qcs e x m)).2+i)) ->
   runN C.P n (solo (gor (qdf e) [jl] x.st) (re x.u t 0))=.next (solo (gor (qdf e) [jl] (qcs e x n).st) (re (qcs e x n).u t (jh (used e x) n))):=by
 intro n
 induction n with
 | zero=>intro _ _;rfl
 | succ n ih=>
   intro h ht;have h0:=ih (fun m hm=>h m (by omega)) (fun m hm=>ht m (by omega));rw [runN_add,h0];have h1:=(qnl (h n (Nat.lt_succ_self n))).1;have h2:=q6a n (fun m hm=>h m (by omega));have hk0:e=false->qdf e=noT:=fun h=>by rw [h];rfl
   obtain⟨es,h3⟩:=h1.go t (jh (used e x) n) (fun i q hi=>by
     have:=ht n (Nat.lt_succ_self n) i hi;show t (jh (used e x) n+i) q=(qcs e x n).u.tape ((qiq e (qcs e x n)).2+i) q;rw [this,h2]) true (qdf e) [jl] hk0
   have h4:=step_solo_go rfl h3;show runN C.P 1 (solo (gor (qdf e) [jl] (qcs e x n).st) (re (qcs e x n).u t (jh (used e x) n)))=_;have h4':step C.P (solo (gor (qdf e) [jl] (qcs e x n).st) (re (qcs e x n).u t (jh (used e x) n)))=.next (solo (gor (qdf e) [jl] (qcs e x (n+1)).st) (re (qcs e x (n+1)).u t (jh (used e x) (n+1)))):=h4;simp only [runN,h4']
theorem lift(H:jo C S)(hk:e=false->k=noT){zE:Goroutine->World->Prop}(hS:∀ g v,zE g v->g.callers≠[]){st:Frame × List Frame}{w u:World}(hc:Clean C S st)(hb:Both C w u)
   (h:∀ t,∃ g v,Steps C.P (solo (gor (qdf e) [jl] st) (re u t 0)) (solo g v)/\zE g v) :
   Lone C S main k cs (fun st' w' u'=>Clean C S st'/\Both C w' u'/\∃ t d,zE (gor (qdf e) [jl] st') (re u' t d)) st w u:=by
 refine Classical.byContradiction (fun hn=>?_)
 let x:Bad C S main k cs (fun st' w' u'=>Clean C S st'/\Both C w' u'/\∃ t d,zE (gor (qdf e) [jl] st') (re u' t d)):=⟨st,w,u,hc,hb,hn⟩
 have vu:∀ y:Bad C S main k cs (fun st' w' u'=>Clean C S st'/\Both C w' u'/\∃ t d,zE (gor (qdf e) [jl] st') (re u' t d)),∀ t d,¬ zE (gor (qdf e) [jl] y.st) (re y.u t d):=
   fun y t d hs=>y.bad (.stop ⟨y.clean,y.both,t,d,hs⟩)
 obtain⟨tC,hC⟩:=concat (fun _=>0) (used e x) (fun n i=>x.u.tape ((qiq e (qcs e x n)).2+i));by_cases hall:∀ n,∃ y,vr e (qcs e x n) y
 . obtain⟨g,v,⟨M,hM⟩,hst⟩:=h tC;have h1:=qyg tC M (fun m _=>hall m) (fun m _ i hi=>hC m i hi);rw [show solo (gor (qdf e) [jl] x.st) (re x.u tC 0)=solo (gor (qdf e) [jl] st) (re u tC 0) from rfl,hM] at h1;have h2:=qtz (Stepped.next.inj h1);rw [h2.1,h2.2] at hst;exact vu _ _ _ hst
 . have hex:∃ n,¬ ∃ y,vr e (qcs e x n) y:=Classical.byContradiction (fun hne=>hall (fun n=>Classical.byContradiction (fun h'=>hne ⟨n,h'⟩)))
   have y9:∃ n,(¬ ∃ y,vr e (qcs e x n) y)/\∀ m,m < n->∃ y,vr e (qcs e x m) y:=by
     obtain⟨n,hn⟩:=hex
     induction n using Nat.strongRecOn with
     | _ n ih=>
       by_cases hm:∃ m,m < n/\¬ ∃ y,vr e (qcs e x m) y
       . obtain⟨m,hm1,hm2⟩:=hm;exact ih m hm1 hm2
       . exact⟨n,hn,fun m hmn=>Classical.byContradiction (fun h'=>hm ⟨m,hmn,h'⟩)⟩
   obtain⟨N,hN,hbelow⟩:=y9
   have key:∀ tail:Nat->Question->Nat,(∀ n v g,runN C.P (n+1) (solo (gor (qdf e) [jl] (qcs e x N).st) (re (qcs e x N).u (fun j q=>if j < jh (used e x) N then tC j q else tail (j - jh (used e x) N) q) (jh (used e x) N)))=.next (solo g v)->g.callers=[])->False:=by
     intro tail yA;obtain⟨g,v,⟨M,hM⟩,hst⟩:=h (fun j q=>if j < jh (used e x) N then tC j q else tail (j - jh (used e x) N) q)
     have vZ:∀ m,m < N->∀ i,i < used e x m->(fun j q=>if j < jh (used e x) N then tC j q else tail (j - jh (used e x) N) q) (jh (used e x) m+i)=x.u.tape ((qiq e (qcs e x m)).2+i):=by
       intro m hm i hi;have:jh (used e x) m+used e x m<=jh (used e x) N:=qv3 (used e x) (n:=m+1) hm;funext q;simp only;rw [if_pos (by omega),hC m i hi]
     by_cases hMN:M<=N
     . have h1:=qyg (fun j q=>if j < jh (used e x) N then tC j q else tail (j - jh (used e x) N) q) M (fun m hm=>hbelow m (by omega)) (fun m hm i hi=>vZ m (by omega) i hi);rw [show solo (gor (qdf e) [jl] x.st) (re x.u _ 0)=solo (gor (qdf e) [jl] st) (re u _ 0) from rfl,hM] at h1;have h2:=qtz (Stepped.next.inj h1);rw [h2.1,h2.2] at hst;exact vu _ _ _ hst
     . have h1:=qyg (fun j q=>if j < jh (used e x) N then tC j q else tail (j - jh (used e x) N) q) N (fun m hm=>hbelow m hm) vZ;obtain⟨n,rfl⟩:∃ n,M=N+(n+1):=⟨M - N - 1,by omega⟩;rw [runN_add,show solo (gor (qdf e) [jl] st) (re u _ 0)=solo (gor (qdf e) [jl] x.st) (re x.u _ 0) from rfl,h1] at hM;exact hS g v hst (yA n v g hM)
   rcases q59 H hk (qcs e x N) with h1 | ⟨h1,h2⟩ | ⟨d,h1⟩
   . exact hN h1
   . refine key (fun _ _=>0) (fun n v g hr=>?_);have hst:(qcs e x N).st=((qcs e x N).st.1,[]):=Prod.ext rfl h1;rw [hst] at hr;exact vO (qcs e x N).clean.1 h2 hr
   . refine key (fun j q=>(qcs e x N).u.tape (d+j) q) (fun n v g hr=>?_)
     obtain⟨o,w1,es,h2⟩:=h1 (fun j q=>if j < jh (used e x) N then tC j q else (qcs e x N).u.tape (d+(j - jh (used e x) N)) q) (jh (used e x) N) (fun i q=>by
       show (if jh (used e x) N+i < jh (used e x) N then _ else (qcs e x N).u.tape (d+(jh (used e x) N+i - jh (used e x) N)) q)=(qcs e x N).u.tape (d+i) q;rw [if_neg (by omega),show jh (used e x) N+i - jh (used e x) N=i by omega]) true (qdf e) [jl] (fun h=>by rw [h];rfl)
     exact(runN_ended (qck rfl h2) hr).elim
end
end
section
open Go.Conc
open Go.ConcN (sumTo upd sumTo_upd upd_ne upd_same)
structure Held(C:Pen)(w w':World):Prop where
 block:∀ r,(¬ C.B r∨C.Z r∨C.Ch r)->w'.heap[r]?=w.heap[r]?
 size:w.heap.size<=w'.heap.size
 os:w'.os=w.os
 output:w'.output=w.output
 tape:w'.tape=w.tape
 tail:Beyond C w w'
theorem Held.refl(C:Pen)(w:World):Held C w w:=⟨fun _ _=>rfl,Nat.le_refl _,rfl,rfl,rfl,.of rfl⟩
theorem Held.trans{C:Pen}{a b c:World}(h:Held C a b)(k:Held C b c):Held C a c:=⟨fun r hr=>(k.block r hr).trans (h.block r hr),Nat.le_trans h.size k.size,k.os.trans h.os,k.output.trans h.output,k.tape.trans h.tape,h.tail.trans k.tail⟩
theorem Kept.held{C:Pen}{w w':World}{es:Array Event}(h:Kept C w w' es):Held C w w':=⟨h.block,h.size,h.os,h.output,h.tape,h.tail⟩
structure Outside(C:Pen)(Sh:Nat->Prop)(Fz:Loc->Prop)(T:Nat->q8)(n h:Nat):Prop where
 seat:∀ i s,i≠h->i < n->T i=.seat s->(¬ C.B s.c∨C.Ch s.c)/\∀ x,x∈s.L->¬ C.B x.1.block∨C.Z x.1.block
 zW:∀ r,Sh r->¬ C.B r∨C.Z r
 still:∀ l,Fz l->∃ a:Addr,l=.cell a/\(¬ C.B a.block∨C.Z a.block)
section
variable {C:Pen}{S:List String}{Post:Value->World->Prop}{Sh:Nat->Prop}{Fz:Loc->Prop}{T:Nat->q8}{n h dd:Nat}{w u:World}
theorem qsw{L:List (Addr × Value)}{w w':World}(hL:holds L w)(hA:∀ x,x∈L->¬ C.B x.1.block∨C.Z x.1.block)(hh:Held C w w'):holds L w':=fun x hx=>by
 have:=hL x hx;unfold World.cell? at this |-;rw [hh.block _ ((hA x hx).imp id .inl)];exact this
theorem qj5(O:Outside C Sh Fz T n h)(hf:∀ i s,i≠h->i < n->T i=.seat s->holds s.L w){w':World}{es:Array Event}(hk:Kept C w w' es):zD Sh Fz T n h w w' es/\∀ d,deafBehind d es=d:=by
 refine⟨⟨fun i s hi hn hT=>⟨qsw (hf i s hi hn hT) (O.seat i s hi hn hT).2 hk.held,hk.block _ ((O.seat i s hi hn hT).1.imp id .inr)⟩,fun e he=>?_,hk.size⟩,fun d=>deafBehind_still (fun e he=>?_) d⟩
 . have hin:=hk.evs e he;obtain⟨loc,wr,sy⟩:=e;cases loc with
   | cell a=>
     obtain⟨h1,h2,h3⟩:=hin;cases h1;refine⟨fun x hx=>?_,(fun y hy=>by cases hy;exact h3)⟩;cases hx;refine⟨fun hs=>((O.zW _ hs).elim (fun k=>k h2.1) (fun k=>h2.2 k)).elim,fun _ hz=>?_⟩;obtain⟨a',e,h4⟩:=O.still _ hz;cases e;exact h4.elim (fun k=>k h2.1) (fun k=>h2.2 k)
   | obj r=>
     obtain⟨h1,h2,h3⟩:=hin;refine⟨fun x hx=>?_,(fun y hy=>by cases wr <;> cases sy <;> first | (cases hy;exact h3) | (cases hy;done))⟩;have:x.loc=.obj r:=by cases wr <;> cases sy <;> first | (cases hx;rfl) | (cases hx;done)
     refine⟨fun hs=>by rw [this] at hs;exact hs.elim,fun _ hz=>?_⟩;rw [this] at hz;obtain⟨a',e,_⟩:=O.still _ hz;cases e
   | output=>
     refine⟨fun x hx=>?_,(fun y hy=>by cases wr <;> cases sy <;> (cases hy;trivial))⟩;have:x.loc=.output:=by cases wr <;> cases sy <;> (cases hx;rfl)
     refine⟨fun hs=>by rw [this] at hs;exact hs.elim,fun _ hz=>?_⟩;rw [this] at hz;obtain⟨a',e,_⟩:=O.still _ hz;cases e
   | goroutines=>exact hin.elim
   | mark m=>
     cases m with
     | extern f=>exact⟨(fun x hx=>by cases wr <;> cases sy <;> cases hx),(fun y hy=>by cases wr <;> cases sy <;> cases hy)⟩
     | noRoom=>exact⟨(fun x hx=>by cases wr <;> cases sy <;> cases hx),(fun y hy=>by cases wr <;> cases sy <;> cases hy)⟩
     | _=>exact hin.elim
 . have hin:=hk.evs e he;constructor
   . intro e0;unfold vX at hin;rw [e0] at hin;exact hin
   . intro e0;unfold vX at hin;rw [e0] at hin;exact hin
theorem q3j{k:zr}{cs:List Frame}{Stop:Frame × List Frame->World->World->Prop}{st:Frame × List Frame}(O:Outside C Sh Fz T n h)(L:Lone C S (h == 0) k cs Stop st w u)
   (hf:∀ i s,i≠h->i < n->T i=.seat s->holds s.L w) (next:∀ st' w' u',Stop st' w' u'->Held C w w'->(∀ i s,i≠h->i < n->T i=.seat s->holds s.L w')->jH C.P Post Sh Fz T n h dd (gor k cs st') w') :
   jH C.P Post Sh Fz T n h dd (gor k cs st) w:=by
 refine L (fun st' w' _=>Held C w w'->(∀ i s,i≠h->i < n->T i=.seat s->holds s.L w')->jH C.P Post Sh Fz T n h dd (gor k cs st') w') (fun st' w' u' hs hh hf'=>next st' w' u' hs hh hf') (fun st1 w1 u1 hst hh hf1=>?_) (Held.refl C w) hf;refine qtw rfl (fun d=>?_);obtain⟨st',w',u',es,h1,h2,_,_,_,h6⟩:=hst d;obtain⟨h7,h8⟩:=qj5 (w:=w1.at d) O hf1 h2;refine⟨_,w',es,h1,h7,?_⟩;rw [h8 dd];exact h6 (hh.trans (Held.trans (show Held C w1 (w1.at d) from⟨fun _ _=>rfl,Nat.le_refl _,rfl,rfl,rfl,.of rfl⟩) h2.held)) (fun i s hi hn hT=>(h7.fact i s hi hn hT).1)
end
end
section
open Go.Conc
def Ends:Exit->Prop
 | .normal | .ret | .panic _=>True
 | _=>False
section
variable {C:Pen}{S:List String}{Post:Value->World->Prop}{Sh:Nat->Prop}{Fz:Loc->Prop}{T:Nat->q8}{n h dd:Nat}{w u:World}
def qmq(b:Frame)(a:Act)(todo:List Item):Exit->Frame
 | .ret=>{ b.at a todo with mode:=.returning }
 | .panic ch=>{ b.at a todo with mode:=.panicking ch }
 | _=>b.at a todo
theorem q3k(H:jo C S){b:Frame}{a:Act}{c:Code}(hX:FrE C S (b.at a [.code c]))(hb:Both C w u)(O:Outside C Sh Fz T n h)
   (hL:∀ i s,i≠h->i < n->T i=.seat s->holds s.L w) {Q:(Nat->Question->Nat)->Exit->Act->World->Prop} (hc:∀ t,c.wp C.P (Q t) a (re u t 0)) (hQ:∀ t e a w,Q t e a w->Ends e)
   {k:List Item} {ds:List Deferred} {cs:List Frame}
   (next:∀ e a' todo w' u',Both C w' u'->Held C w w'->FrE C S (qmq b a' todo e)->(e=.normal->todo=[])->(∀ i s,i≠h->i < n->T i=.seat s->holds s.L w')->(∃ t t2 d,Q t e a' (re u' t2 d))->jH C.P Post Sh Fz T n h dd (G (qmq b ⟨a'.tmps,ds⟩ (todo++k) e) cs) w') :
   jH C.P Post Sh Fz T n h dd (G (b.at ⟨a.tmps,ds⟩ (.code c::k)) cs) w:=by
 have yB:Clean C S (b.at a [.code c],[]):=⟨hX,fun x hx=>by cases hx⟩;have yx:∀ k fr cs,gor k cs (fr,[])=G (qE fr k) cs:=fun k fr cs=>rfl;have hds:a.defers=[]:=jJ.defers hX
 have L:=lift (k:=⟨k,ds⟩) (cs:=cs) (main:=h == 0) (e:=true) H (fun h=>by cases h) (zE:=fun g v=>∃ fr t e a' todo,g=G fr [jl]/\Q t e a' v/\fr=qmq b a' todo e/\(e=.normal->todo=zy)) (fun g v ⟨fr,t,e,a',todo,h1,_⟩=>by rw [h1];exact fun h=>by cases h) yB hb (fun t=>by
   obtain⟨e,a',w',hq,harr⟩:=hc t b zy [jl];have he:=hQ t e a' w' hq
   have hstart:solo (gor (qdf true) [jl] (b.at a [.code c],[])) (re u t 0)=lone (b.at a (.code c::zy)) [jl] (re u t 0):=by
     rw [lone_eq_solo];unfold gor;simp [below,zi,qE,qdf,Frame.at]
   rw [hstart];cases e with
   | normal=>exact⟨_,w',harr,_,t,.normal,a',zy,rfl,hq,rfl,fun _=>rfl⟩
   | ret=>obtain⟨todo,hs⟩:=harr;exact⟨_,w',hs,_,t,.ret,a',todo,rfl,hq,rfl,fun h=>by cases h⟩
   | panic ch=>obtain⟨todo,hs⟩:=harr;exact⟨_,w',hs,_,t,.panic ch,a',todo,rfl,hq,rfl,fun h=>by cases h⟩
   | exit id=>exact he.elim
   | goto l=>exact he.elim
   | outgrown=>exact he.elim)
 have key:=q3j (Post:=Post) (dd:=dd) O L hL (fun st' w' u' hst hh hL'=>?_)
 . have:gor ⟨k,ds⟩ cs (b.at a [.code c],[])=G (b.at ⟨a.tmps,ds⟩ (.code c::k)) cs:=by
     unfold gor;simp only [below,zi,qE,Frame.at,hds,List.nil_append,List.cons_append]
   rw [<-this];exact key
 . obtain⟨⟨hX',_⟩,hb',t2,d,fr,t,e,a',todo,e1,hq,e2,e3⟩:=hst;obtain⟨fr',fs'⟩:=st'
   have hfs:fs'=[]:=by
     have h1:zi (qdf true) fs'++[jl]=[jl]:=congrArg Goroutine.callers e1;have h2:(zi (qdf true) fs'++[jl]).length=1:=by rw [h1];rfl
     cases fs' with
     | nil=>rfl
     | cons x l=>rw [qp8] at h2;simp at h2
   subst hfs
   have hfr:qE fr' (qdf true)=qmq b a' todo e:=by
     have:=congrArg Goroutine.frame e1;rw [<-e2];exact this
   have xy:(qE fr' (qdf true)).todo=todo:=by rw [hfr];cases e <;> rfl
   have hk:todo=fr'.todo++zy:=xy.symm
   have hback:fr'=qmq b a' fr'.todo e:=by
     have:fr'={ qE fr' (qdf true) with todo:=fr'.todo }:=by simp [qE,qdf]
     rw [this,hfr];cases e <;> rfl
   have hda:a'.defers=[]:=by
     have h1:fr'.defers=[]:=jJ.defers hX';rw [hback] at h1;cases e <;> exact h1
   have qaJ:qE fr' ⟨k,ds⟩=qmq b ⟨a'.tmps,ds⟩ (fr'.todo++k) e:=by
     have:qE fr' ⟨k,ds⟩={ fr' with todo:=fr'.todo++k,defers:=fr'.defers++ds }:=rfl;rw [this];generalize fr'.todo=td at *;rw [hback];cases e <;> simp [qmq,Frame.at,hda]
   rw [yx,qaJ];refine next e a' fr'.todo w' u' hb' hh (by rw [<-hback];exact hX') (fun en=>?_) hL' ⟨t,t2,d,hq⟩;have h1:=e3 en;rw [hk] at h1;have h2:(fr'.todo++zy).length=zy.length:=by rw [h1]
   rw [List.length_append] at h2;exact List.eq_nil_of_length_eq_zero (by omega)
end
end
section
open Go.Conc
open Go.ConcN (sumTo upd sumTo_upd upd_ne upd_same WgLive RW DWs WSit WD AtR0 PayAt)
open Go.ConcR (KK WgAt stA smA rd wr mk Payload)
section
variable [Payload]
structure RM(ty:TypeId)(Wg:Nat)(Bx:Nat->Prop)(w w₁:World):Prop where
 tape:w₁.tape=w.tape
 os:w₁.os=w.os
 output:w₁.output=w.output
 size:w₁.heap.size=w.heap.size
 block:∀ r,r≠Wg->¬ Bx r->w₁.heap[r]?=w.heap[r]?
 live:WgLive ty Wg w->WgLive ty Wg w₁
 box:∀ r,Bx r->PayAt r 1 w->PayAt r 1 w₁
theorem RM.refl{ty:TypeId}{Wg:Nat}{Bx:Nat->Prop}(w:World):RM ty Wg Bx w w:=⟨rfl,rfl,rfl,rfl,fun _ _ _=>rfl,id,fun _ _=>id⟩
theorem RM.trans{ty:TypeId}{Wg:Nat}{Bx:Nat->Prop}{a b c:World}(h:RM ty Wg Bx a b)(k:RM ty Wg Bx b c):RM ty Wg Bx a c:=
 ⟨k.tape.trans h.tape,k.os.trans h.os,k.output.trans h.output,k.size.trans h.size,fun r h1 h2=>(k.block r h1 h2).trans (h.block r h1 h2),k.live ∘ h.live,fun r hr=>k.box r hr ∘ h.box r hr⟩
theorem RM.at{ty:TypeId}{Wg:Nat}{Bx:Nat->Prop}(w:World)(d:Nat):RM ty Wg Bx w (w.at d):=⟨rfl,rfl,rfl,rfl,fun _ _ _=>rfl,id,fun _ _=>id⟩
end
def DM(Wg:Nat)(Sh:Nat->Prop)(Fz:Loc->Prop)(w w':World)(es:Array Event):Prop:=w'=w/\∀ e,e∈es->qk6 Sh Fz w.heap.size e/\e.loc≠.mark .disable/\e.loc≠.mark .enable/\e.loc≠.mark (.release (stA Wg))
section
variable [Payload]
variable (P:Program)(ty:TypeId)(Wg:Nat)(Bx:Nat->Prop)(Sh:Nat->Prop)(Fz:Loc->Prop)(AnchW:Goroutine->World->Prop)(Next:Goroutine->World->Prop)
def qcN(g:Goroutine)(w:World):Prop:=g.status=.running/\∃ g',stepG P true g w=.go g' w #[mk (.acquire (stA Wg))]/\Next g' w
def MKe(g:Goroutine)(w:World):Prop:=g.status=.running/\∃ g',stepG P true g w=.go g' w #[mk .enable]/\∃ m,Goes P true (RM ty Wg Bx) (DM Wg Sh Fz) (qcN P Wg Next) m g' w
def MW4(g:Goroutine)(w:World):Prop:=g.status=.running/\(WgAt ty Wg w 0 0->∃ g',stepG P true g w=.go g' w #[rd (stA Wg)]/\∃ m,Goes P true (RM ty Wg Bx) (DM Wg Sh Fz) (MKe P ty Wg Bx Sh Fz Next) m g' w)
def MW3(g:Goroutine)(w:World):Prop:=g.status=.running/\g.offers=none/\((∃ st,WgAt ty Wg w st 0)->stepG P true g w=.go { g with status:=.blocked } w #[]) /\
 (WgAt ty Wg w 0 1->∃ g',stepG P true g w=.go g' (w.setCell (smA Wg) (.int .u32 0)) (semEvents (smA Wg))/\∃ m,Goes P true (RM ty Wg Bx) (DM Wg Sh Fz) (MW4 P ty Wg Bx Sh Fz Next) m g' (w.setCell (smA Wg) (.int .u32 0)))
def MW2(vs:Nat)(g:Goroutine)(w:World):Prop:=g.status=.running/\∀ v:Nat,v < 2147483648->WgAt ty Wg w (v * KK) 0 ->
 (v=vs->∃ g',stepG P true g w=.go g' (w.setCell (stA Wg) (.int .u64 (v * KK+1))) #[rd (stA Wg),wr (stA Wg)]/\∃ m,Goes P true (RM ty Wg Bx) (DM Wg Sh Fz) (MW3 P ty Wg Bx Sh Fz Next) m g' (w.setCell (stA Wg) (.int .u64 (v * KK+1)))) /\
 (v≠vs->∃ g',stepG P true g w=.go g' w #[rd (stA Wg)]/\∃ m,Goes P true (RM ty Wg Bx) (DM Wg Sh Fz) AnchW m g' w)
def MW1(g:Goroutine)(w:World):Prop:=g.status=.running/\∀ v:Nat,v < 2147483648->WgAt ty Wg w (v * KK) 0->∃ g',stepG P true g w=.go g' w #[rd (stA Wg)] /\
 (v=0->∃ m,Goes P true (RM ty Wg Bx) (DM Wg Sh Fz) (MKe P ty Wg Bx Sh Fz Next) m g' w)/\(v≠0->∃ m,Goes P true (RM ty Wg Bx) (DM Wg Sh Fz) (MW2 P ty Wg Bx Sh Fz AnchW Next v) m g' w)
def MKd(g:Goroutine)(w:World):Prop:=g.status=.running/\∃ g',stepG P true g w=.go g' w #[mk .disable]/\∃ m,Goes P true (RM ty Wg Bx) (DM Wg Sh Fz) AnchW m g' w
def MCl:List Nat->Goroutine->World->Prop
 | [],g,w=>MKd P ty Wg Bx Sh Fz AnchW g w
 | c::l,g,w=>g.status=.running/\mayWake P g=true/\∀ κ,w.heap[c]?=some (.chan 0 #[] false κ κ false) ->
     ∃ g',stepG P true g w=.go g' (w.setChan c 0 #[] true κ κ false) #[⟨.obj c,false,true⟩,⟨.obj c,true,true⟩]/\g'.status=.running/\∃ m,Goes P true (RM ty Wg Bx) (DM Wg Sh Fz) (MCl l) m g' (w.setChan c 0 #[] true κ κ false)
end
inductive Tag where
 | cl (l:List Nat) | anch | w1 | w2 (vs:Nat) | w3 | blk | w4 | ke | acq
section
variable [Payload]
variable (P:Program)(ty:TypeId)(Wg:Nat)(Bx:Nat->Prop)(Sh:Nat->Prop)(Fz:Loc->Prop)(AnchW:Goroutine->World->Prop)(Next:Goroutine->World->Prop)
inductive ze:Tag->Nat->Nat->Goroutine->World->Prop
 | cl {l:List Nat} {m:Nat} {g:Goroutine} {w:World}:Goes P true (RM ty Wg Bx) (DM Wg Sh Fz) (MCl P ty Wg Bx Sh Fz AnchW l) m g w->ze (.cl l) m 0 g w
 | anch {m:Nat} {g:Goroutine} {w:World}:Goes P true (RM ty Wg Bx) (DM Wg Sh Fz) AnchW m g w->ze .anch m 1 g w
 | w1 {m:Nat} {g:Goroutine} {w:World}:Goes P true (RM ty Wg Bx) (DM Wg Sh Fz) (MW1 P ty Wg Bx Sh Fz AnchW Next) m g w->ze .w1 m 1 g w
 | w2 {vs m:Nat} {g:Goroutine} {w:World}:Goes P true (RM ty Wg Bx) (DM Wg Sh Fz) (MW2 P ty Wg Bx Sh Fz AnchW Next vs) m g w->ze (.w2 vs) m 1 g w
 | w3 {m:Nat} {g:Goroutine} {w:World}:Goes P true (RM ty Wg Bx) (DM Wg Sh Fz) (MW3 P ty Wg Bx Sh Fz Next) m g w->ze .w3 (m+1) 1 g w
 | blk {g:Goroutine} {w:World}:(∀ w₁,RM ty Wg Bx w w₁->MW3 P ty Wg Bx Sh Fz Next g w₁)->ze .blk 0 1 { g with status:=.blocked } w
 | w4 {m:Nat} {g:Goroutine} {w:World}:Goes P true (RM ty Wg Bx) (DM Wg Sh Fz) (MW4 P ty Wg Bx Sh Fz Next) m g w->ze .w4 m 1 g w
 | ke {m:Nat} {g:Goroutine} {w:World}:Goes P true (RM ty Wg Bx) (DM Wg Sh Fz) (MKe P ty Wg Bx Sh Fz Next) m g w->ze .ke m 1 g w
 | acq {m:Nat} {g:Goroutine} {w:World}:Goes P true (RM ty Wg Bx) (DM Wg Sh Fz) (qcN P Wg Next) m g w->ze .acq m 0 g w
end
structure Hands where
 s:jD
 bx:Nat
 val:Value
def qk7:Nat->Loc->Prop:=fun _ _=>False
section
variable [Payload]
variable (P:Program)(ty:TypeId)(Wg:Nat)
def q3l(c:Hands)(g:Goroutine)(w:World):Prop:=∃ m,Goes P false (RW ty Wg c.bx 1 0 0) (DWs Wg qk7 qk7 c.bx 1 1) (AtR0 P ty Wg c.bx 1 0 1 c.val) m g w
def Shut(s:jD)(m:Nat)(g:Goroutine):Prop:=Way P false s m g∨(m=1/\g.frame=s.fr/\g.callers=s.cs/\g.dying=none/\g.status=.running/\qin P false s)
def jQ(c:Hands):Nat->Nat->Nat->Goroutine->World->Prop
 | 9,m,d,g,_=>d=0/\((m=0/\g=qf3 c.s)∨Way P false c.s m g)
 | 8,m,d,g,_=>d=0/\Shut P c.s m g
 | st,m,d,g,w=>WSit P ty Wg c.bx 1 qk7 qk7 0 1 c.val st m d g w
end
end
section
open Go.Conc
open Go.ConcN (sumTo upd sumTo_upd upd_ne upd_same WgLive RW DWs WSit WD AtR0)
open Go.ConcR (KK WgAt stA smA rd wr mk Payload)
def jA(a:Addr)(p0:Nat)(t:Trace)(i:Nat):Prop:=∃ p,p0<=p/\zt a t i p/\∀ j x,t.g? j=some i->touchAt t j=some x->j < p∨(x.kind=.atomic/\¬ t.heard j)
section
variable {a:Addr}{p0:Nat}{t u:Trace}{i:Nat}
theorem jA.app(h:jA a p0 t i)(hu:∀ j op x,t.size<=j->(t++u)[j]?=some op->op.g=i->op.act.touch?=some x->x.kind=.atomic/\¬ (t++u).heard j):jA a p0 (t++u) i:=by
 obtain⟨p,h1,h2,h3⟩:=h;refine⟨p,h1,h2.app u,fun j x hg hx=>?_⟩;rcases qbs hx with ⟨hj,hx'⟩ | ⟨hj,op,hop,hy,hxa⟩
 . exact(h3 j x (by rw [g?_old hj] at hg;exact hg) hx').imp id (fun y=>⟨y.1,fun z=>y.2 ((heard_old hj).1 z)⟩)
 . refine .inr (hu j op x hj hy ?_ hxa);unfold Trace.g? at hg;rw [hy] at hg;exact Option.some.inj hg
theorem jA.other(h:jA a p0 t i)(hu:∀ op∈u,op.g=i->op.act.touch?=none):jA a p0 (t++u) i:=
 h.app (fun j op x hj hy hg hx=>by
   rcases getElem?_append_cases hy with ⟨hlt,_⟩ | ⟨_,hop⟩
   . omega
   . rw [hu op hop hg] at hx;cases hx)
theorem jA.new{y:MemOp}(hp:p0<=t.size)(hg:y.g=i)(hy:y.act=.mark (.releaseMerge a))(hd:Deaf t i=0):jA a p0 (t++#[y]) i:=by
 refine⟨t.size,hp,q3h hg hy hd,fun j x _ hx=>?_⟩;rcases qbs hx with ⟨hj,_⟩ | ⟨_,op,hop,_,hxa⟩
 . exact .inl hj
 . have:op=y:=by simpa using hop
   rw [this,hy] at hxa;cases hxa
theorem q3m{t':Trace}{k p:Nat}:∀ n,(∀ j,j < n->∃ y,t'[p+j]?=some y/\y.act≠.mark .enable)->t'.deaf k p<=t'.deaf k (p+n)
 | 0,_=>Nat.le_refl _
 | n+1,h=>by
   obtain⟨y,h1,h2⟩:=h n (Nat.lt_succ_self n);refine Nat.le_trans (q3m n (fun j hj=>h j (by omega))) ?_;rw [<-Nat.add_assoc,deaf_succ h1];unfold deafStep;split
   . split <;> omega
   . rename_i e;exact absurd e h2
   . exact Nat.le_refl _
theorem q3n{k:Nat}{fn:FuncId}{pos:String}{es:Array Event}{j:Nat}{op:MemOp}(h:(t++MemOp.ofEvents k fn pos es)[t.size+j]?=some op):∃ e,es[j]?=some e/\op={ g:=k,fn,pos,act:=.ofEvent e }:=by
 rw [Array.getElem?_append_right (Nat.le_add_right _ _),Nat.add_sub_cancel_left,ofEvents_eq,Array.getElem?_map] at h;obtain⟨e,he,rfl⟩:=Option.map_eq_some_iff.1 h;exact⟨e,he,rfl⟩
theorem qvq{k:Nat}{fn:FuncId}{pos:String}{es:Array Event}(hd:0 < Deaf t k)(he:∀ (j:Nat) (e:Event),es[j]?=some e->(MemAct.ofEvent e).touch?≠none->∀ (j':Nat),j' < j->∀ (e':Event),es[j']?=some e'->MemAct.ofEvent e'≠.mark .enable) :
   ∀ j op x,t.size<=j->(t++MemOp.ofEvents k fn pos es)[j]?=some op->op.act.touch?=some x->¬ (t++MemOp.ofEvents k fn pos es).heard j:=by
 intro j op x hj hy hx;obtain⟨m,rfl⟩:∃ m,j=t.size+m:=⟨j - t.size,by omega⟩;obtain⟨e,hee,hop⟩:=q3n hy;have h1:=he m e hee (by rw [hop] at hx;rw [hx];simp)
 have h2:=q3m (t':=t++MemOp.ofEvents k fn pos es) (k:=k) (p:=t.size) m (fun j' hj'=>by
   have hlt:j' < es.size:=Nat.lt_trans hj' (Array.getElem?_eq_some_iff.1 hee).1;refine⟨{ g:=k,fn,pos,act:=.ofEvent es[j'] },?_,h1 j' hj' _ (Array.getElem?_eq_getElem hlt)⟩;rw [Array.getElem?_append_right (Nat.le_add_right _ _),Nat.add_sub_cancel_left,ofEvents_eq,Array.getElem?_map,Array.getElem?_eq_getElem hlt];rfl)
 rw [deaf_old (Nat.le_refl _)] at h2;rintro⟨g,hg,hdf⟩;rw [gAt hy (show op.g=k from by rw [hop])] at hg;cases hg;unfold Deaf at hd;omega
end
def StJ(Wk:Nat->Prop)(cr:Nat->Hands)(D:Nat->WD)(i:Nat)(l:Loc):Prop:=Wk i/\8<=(D i).stage/\StL (cr i).s.L l
def LfJ(Wk:Nat->Prop)(i:Nat):Prop:=i≠0/\¬ Wk i
structure JTr(Sh:Nat->Prop)(Fz:Loc->Prop)(Wk:Nat->Prop)(cr:Nat->Hands)(Wg p0:Nat)(D:Nat->WD)(B:Nat)(t:Trace):Prop where
 jr:jq Sh Fz (StJ Wk cr D) (LfJ Wk) 0 B t
 start:p0<=t.size
 norel:∀ q,p0<=q->t.act? q≠some (.mark (.release (stA Wg)))
 rel:∀ i,Wk i->(D i).stage<=6->jA (stA Wg) p0 t i
section
variable {Sh:Nat->Prop}{Fz:Loc->Prop}{Wk:Nat->Prop}{cr:Nat->Hands}{Wg p0:Nat}{D D':Nat->WD}{B:Nat}{t u:Trace}{i:Nat}
theorem qvr(h:∀ q,p0<=q->t.act? q≠some (.mark (.release (stA Wg))))(hu:∀ op∈u,op.act≠.mark (.release (stA Wg))):∀ q,p0<=q->(t++u).act? q≠some (.mark (.release (stA Wg))):=by
 intro q hq e;obtain⟨op,ho,hoa⟩:=Option.map_eq_some_iff.1 e;rcases getElem?_append_cases ho with ⟨hi,ho'⟩ | ⟨_,hou⟩
 . exact h q hq (by rw [act?_of ho',hoa])
 . exact hu op hou hoa
theorem qzz:t.size<=(t++u).size:=by simp
theorem jq.fall{St':Nat->Loc->Prop}{St:Nat->Loc->Prop}{Lf:Nat->Prop}{h:Nat}(H:jq Sh Fz St Lf h B t)(hs:∀ k l,St' k l->St k l):jq Sh Fz St' Lf h B t:=
 ⟨H.clean,H.known,fun k hk i a ha hl hw=>H.wrote k hk i a ha (hs k _ hl) hw,H.seen,H.quiet,fun k l hl=>H.sub k l (hs k l hl),H.over⟩
theorem qz0(hle:∀ j,(D' j).stage<=(D j).stage):∀ k l,StJ Wk cr D' k l->StJ Wk cr D k l:=fun k _ h=>⟨h.1,Nat.le_trans h.2.1 (hle k),h.2.2⟩
theorem JTr.step(H:JTr Sh Fz Wk cr Wg p0 D B t)(hh:jq Sh Fz (StJ Wk cr D) (LfJ Wk) 0 B (t++u))(hg:∀ op∈u,op.g=i)(hn:∀ op∈u,op.act≠.mark (.release (stA Wg)))(hle:∀ j,(D' j).stage<=(D j).stage)
   (hoth:∀ j,j≠i->(D' j).stage=(D j).stage) (hok:Wk i->(D' i).stage<=6->jA (stA Wg) p0 (t++u) i):JTr Sh Fz Wk cr Wg p0 D' B (t++u):=by
 refine⟨hh.fall (qz0 hle),Nat.le_trans H.start qzz,qvr H.norel hn,fun j hj hs=>?_⟩;by_cases hji:j=i
 . subst hji;exact hok hj hs
 . refine(H.rel j hj (by rw [<-hoth j hji];exact hs)).other (fun op hop hgj=>absurd ((hg op hop).symm.trans hgj) (fun e=>hji e.symm))
theorem JTr.main{es:Array Event}(H:JTr Sh Fz Wk cr Wg p0 D B t)(hW:∀ i,Wk i->i≠0)(he:∀ e,e∈es->qk6 Sh Fz B e/\e.loc≠.mark (.release (stA Wg)))(fn:FuncId)(pos:String):JTr Sh Fz Wk cr Wg p0 D B (t++MemOp.ofEvents 0 fn pos es):=by
 refine⟨H.jr.events (fun y=>y.1 rfl) (fun e hee=>(he e hee).1),Nat.le_trans H.start qzz,qvr H.norel (fun op hop=>?_),fun j hj hs=>(H.rel j hj hs).other (fun op hop hg=>absurd ((qcr op hop).symm.trans hg) (fun e=>hW j hj e.symm))⟩;obtain⟨e,hee,rfl⟩:=Go.Conc.mem_ofEvents hop;intro e0;have:=(he e hee).2;obtain⟨loc,wr,sy⟩:=e;cases loc with
 | mark m=>cases e0;exact this rfl
 | obj c=>cases wr <;> cases sy <;> cases e0
 | _=>cases wr <;> cases sy <;> cases e0
end
end
section
open Go.Conc
open Go.ConcN (sumTo upd sumTo_upd upd_ne upd_same WgLive RW DWs WSit WD AtR0 PayAt)
open Go.ConcR (KK WgAt stA smA rd wr mk Payload)
section
variable [Payload]{P:Program}{ty:TypeId}{Wg:Nat}{Bx:Nat->Prop}{Sh:Nat->Prop}{Fz:Loc->Prop}{AnchW Next:Goroutine->World->Prop}{tag:Tag}{f d:Nat}{a:Goroutine}{w w':World}
theorem ze.rely(h:ze P ty Wg Bx Sh Fz AnchW Next tag f d a w)(hr:RM ty Wg Bx w w'):ze P ty Wg Bx Sh Fz AnchW Next tag f d a w':=by
 have tr:∀ a b c,RM ty Wg Bx a b->RM ty Wg Bx b c->RM ty Wg Bx a c:=fun _ _ _ h1 h2=>h1.trans h2;cases h with
 | cl h=>exact .cl (Goes.rely tr h hr)
 | anch h=>exact .anch (Goes.rely tr h hr)
 | w1 h=>exact .w1 (Goes.rely tr h hr)
 | w2 h=>exact .w2 (Goes.rely tr h hr)
 | w3 h=>exact .w3 (Goes.rely tr h hr)
 | blk h=>exact .blk (fun w₂ h₂=>h w₂ (hr.trans h₂))
 | w4 h=>exact .w4 (Goes.rely tr h hr)
 | ke h=>exact .ke (Goes.rely tr h hr)
 | acq h=>exact .acq (Goes.rely tr h hr)
theorem MCl.running{l:List Nat}(h:MCl P ty Wg Bx Sh Fz AnchW l a w):a.status=.running:=by cases l <;> exact h.1
theorem ze.status(hA:∀ g w,AnchW g w->g.status=.running)(h:ze P ty Wg Bx Sh Fz AnchW Next tag f d a w):(a.status=.running/\tag≠.blk)∨(a.status=.blocked/\tag=.blk/\a.offers=none):=by
 cases h with
 | cl h=>exact .inl ⟨Goes.running (fun _ _ x=>MCl.running x) w (RM.refl w) h,fun e=>by cases e⟩
 | anch h=>exact .inl ⟨Goes.running hA w (RM.refl w) h,fun e=>by cases e⟩
 | w1 h=>exact .inl ⟨Goes.running (fun _ _ x=>x.1) w (RM.refl w) h,fun e=>by cases e⟩
 | w2 h=>exact .inl ⟨Goes.running (fun _ _ x=>x.1) w (RM.refl w) h,fun e=>by cases e⟩
 | w3 h=>exact .inl ⟨Goes.running (fun _ _ x=>x.1) w (RM.refl w) h,fun e=>by cases e⟩
 | blk h=>exact .inr ⟨rfl,rfl,(h w (RM.refl w)).2.1⟩
 | w4 h=>exact .inl ⟨Goes.running (fun _ _ x=>x.1) w (RM.refl w) h,fun e=>by cases e⟩
 | ke h=>exact .inl ⟨Goes.running (fun _ _ x=>x.1) w (RM.refl w) h,fun e=>by cases e⟩
 | acq h=>exact .inl ⟨Goes.running (fun _ _ x=>x.1) w (RM.refl w) h,fun e=>by cases e⟩
theorem ze.woken(hA:∀ g w,AnchW g w->g.status=.running)(h:ze P ty Wg Bx Sh Fz AnchW Next tag f d a w)(x x':Goroutine) :
   ∃ tag' f',((tag'=tag/\f'=f)∨(tag=.blk/\tag'=.w3/\f'=1/\f=0))/\ze P ty Wg Bx Sh Fz AnchW Next tag' f' d (Go.Conc.woken P x x' w a) w/\(mayWake P x=true->x'.status≠.blocked->x'.status≠.waiting->tag'≠.blk):=by
 by_cases hw:(mayWake P x && x'.status != .blocked && x'.status != .waiting)=true
 . have e:Go.Conc.woken P x x' w a=a.again w:=by unfold Go.Conc.woken;rw [if_pos hw]
   rcases h.status hA with ⟨hs,ht⟩ | ⟨hs,ht,ho⟩
   . exact⟨tag,f,.inl ⟨rfl,rfl⟩,by rw [e,again_running _ (.inl hs)];exact h,fun _ _ _=>ht⟩
   . subst ht;cases h with
     | blk h=>
       rename_i g;have h0:=h w (RM.refl w);refine⟨.w3,1,.inr ⟨rfl,rfl,rfl,rfl⟩,?_,fun _ _ _ e=>by cases e⟩;rw [e]
       have:({ g with status:=.blocked }:Goroutine).again w=g:=by
         have h1:g.offers=none:=h0.2.1;have h2:g.status=.running:=h0.1;obtain⟨fr,cs,st,dy,of⟩:=g;cases h1;cases h2;simp [Goroutine.again]
       rw [this];exact .w3 (m:=0) (Goes.stop h)
 . have e:Go.Conc.woken P x x' w a=a:=by unfold Go.Conc.woken;rw [if_neg hw]
   refine⟨tag,f,.inl ⟨rfl,rfl⟩,by rw [e];exact h,fun h1 h2 h3=>?_⟩;exfalso;apply hw;rw [h1];cases hs:x'.status <;> first | rfl | exact absurd hs h2 | exact absurd hs h3
end
section
variable {P:Program}{m:Nat}{g:Goroutine}
theorem Shut.running{s:jD}(h:Shut P s m g):g.status=.running:=by
 rcases h with h | ⟨_,_,_,_,h,_⟩
 . exact h.running
 . exact h
end
section
variable [Payload]
variable {P:Program}{ty:TypeId}{Wg:Nat}{c:Hands}{st m d:Nat}{g:Goroutine}{w w':World}
theorem WSit.stage{C n Low k:Nat}{Own Rd:Nat->Loc->Prop}{v:Value}(h:WSit P ty Wg C n Own Rd Low k v st m d g w):1<=st/\st<=7:=by cases h <;> omega
theorem jQ.low(h:jQ P ty Wg c st m d g w)(hs:st<=7):WSit P ty Wg c.bx 1 qk7 qk7 0 1 c.val st m d g w:=by
 unfold jQ at h;split at h
 . omega
 . omega
 . exact h
theorem jQ.of(h:WSit P ty Wg c.bx 1 qk7 qk7 0 1 c.val st m d g w):jQ P ty Wg c st m d g w:=by
 have:=WSit.stage h;unfold jQ;split
 . omega
 . omega
 . exact h
theorem jQ.zn(h:jQ P ty Wg c st m d g w):1<=st/\st<=9:=by
 by_cases h7:st<=7
 . have:=WSit.stage (h.low h7);omega
 . unfold jQ at h;split at h
   . omega
   . omega
   . have:=WSit.stage h;omega
theorem jQ.rely(h:jQ P ty Wg c st m d g w)(hr:RW ty Wg c.bx 1 0 0 w w'):jQ P ty Wg c st m d g w':=by
 by_cases h7:st<=7
 . exact .of ((h.low h7).rely hr)
 . unfold jQ at h |-;split at h
   . exact h
   . exact h
   . have:=WSit.stage h;omega
theorem jQ.status(h:jQ P ty Wg c st m d g w):g.status=.running∨(g.status=.finished/\st=1)∨(st=9/\g=qf3 c.s):=by
 by_cases h7:st<=7
 . have hw:=h.low h7;by_cases h1:st=1
   . subst h1;rcases hw.status with e | e
     . exact .inl e
     . exact .inr (.inl ⟨e,rfl⟩)
   . exact .inl (hw.running_of h1)
 . unfold jQ at h;split at h
   . rcases h.2 with ⟨_,rfl⟩ | h
     . exact .inr (.inr ⟨rfl,rfl⟩)
     . exact .inl h.running
   . exact .inl h.2.running
   . have:=WSit.stage h;omega
end
end
section
open Go.Conc
open Go.ConcN (sumTo upd sumTo_upd upd_ne upd_same WgLive RW DWs WSit WD AtR0 PayAt cnt Vc Ssum Fsum)
open Go.ConcR (KK WgAt stA smA rd wr mk Payload)
def vv:Tag->List Nat
 | .cl l=>l
 | _=>[]
def q89:Tag->Prop
 | .cl _ | .anch | .w1 | .w2 _=>True
 | _=>False
def isW:Tag->Prop
 | .w3 | .blk=>True
 | _=>False
def isF:Tag->Prop
 | .w4 | .ke | .acq=>True
 | _=>False
inductive q7 (n:Nat) (D:Nat->WD):Tag->Int->Int->Prop
 | opn {tag:Tag}:q89 tag->(∀ i,i < n->5<=(D i).stage∨(D i).stage=1)->(∀ vs,tag=.w2 vs->Vc n D<=vs/\1<=vs)->q7 n D tag ((Vc n D:Nat) * KK) 0
 | reg {tag:Tag}:isW tag->(∀ i,i < n->5<=(D i).stage∨(D i).stage=1)->1<=Vc n D->q7 n D tag ((Vc n D:Nat) * KK+1) 0
 | last {tag:Tag} (L:Nat):isW tag->L < n->((D L).stage=4∨(D L).stage=3∨(D L).stage=2)->(∀ i,i < n->i≠L->(D i).stage=1)->q7 n D tag (if (D L).stage=2 then 0 else 1) 0
 | sema:(∀ i,i < n->(D i).stage=1)->q7 n D .w3 0 1
 | fin {tag:Tag}:isF tag->(∀ i,i < n->(D i).stage=1)->q7 n D tag 0 0
structure jE[Payload](P:Program)(ty:TypeId)(Wg:Nat)(Bx:Nat->Prop)(Sh:Nat->Prop)(Fz:Loc->Prop)(n:Nat)(Wk:Nat->Prop)(cr:Nat->Hands):Prop where
 wk:∀ i,Wk i->i≠0/\i < n
 chan:∀ i j,Wk i->Wk j->(cr i).s.c=(cr j).s.c->i=j
 bxs:∀ i j,Wk i->Wk j->(cr i).bx=(cr j).bx->i=j
 bxW:∀ i,Wk i->(cr i).bx≠Wg
 cW:∀ i,Wk i->(cr i).s.c≠Wg
 cB:∀ i j,Wk i->Wk j->(cr i).s.c≠(cr j).bx
 lW:∀ i,Wk i->∀ x,x∈(cr i).s.L->x.1.block≠Wg/\∀ j,Wk j->j≠i->x.1.block≠(cr j).bx
 bx:∀ i,Wk i->Bx (cr i).bx
 noW:¬ Bx Wg
 after:∀ i,Wk i->∀ w,WgLive ty Wg w->w.cell? ⟨(cr i).bx,0,none⟩=some (cr i).val->q3l P ty Wg (cr i) (Go.Conc.served (G (cr i).s.fr (cr i).s.cs) (recvd (cr i).s.ok (cr i).s.z false)) w
 comm:∀ i,Wk i->qin P false (cr i).s
 zW:Sh Wg
 fzW:∀ b:Addr,b.block=Wg->¬ Fz (.cell b)
 few:n < 2147483648
structure Join[Payload](P:Program)(ty:TypeId)(Wg:Nat)(Bx:Nat->Prop)(Sh:Nat->Prop)(Fz:Loc->Prop)(AnchW Next:Goroutine->World->Prop)(n:Nat)(Wk:Nat->Prop)(cr:Nat->Hands)(p0:Nat)
   (D:Nat->WD) (tag:Tag) (f0 d0:Nat) (a:Goroutine) (st sm:Int) (gs:Array Goroutine) (w:World) (t:Trace):Prop where
 size:gs.size=n
 here:gs[0]?=some a
 main:ze P ty Wg Bx Sh Fz AnchW Next tag f0 d0 a w
 ja:∀ i x,i≠0->gs[i]?=some x->jQ P ty Wg (cr i) (D i).stage (D i).fuel (D i).deaf x w/\Deaf t i=(D i).deaf
 old:∀ i,¬ Wk i->(D i).stage=1
 nine:∀ i,Wk i->((D i).stage=9↔(cr i).s.c∈vv tag)
 source:∀ c,c∈vv tag->∃ i,Wk i/\(cr i).s.c=c
 nodup:(vv tag).Nodup
 open_:∀ i,Wk i->(D i).stage=9->∃ κ,w.heap[(cr i).s.c]?=some (.chan 0 #[] false κ κ false)
 shut:∀ i,Wk i->(D i).stage=8->∃ κ,w.heap[(cr i).s.c]?=some (.chan 0 #[] true κ κ false)
 fact:∀ i,Wk i->8<=(D i).stage->holds (cr i).s.L w/\w.cell? ⟨(cr i).bx,0,none⟩=some (cr i).val
 wg:WgAt ty Wg w st sm
 mode:q7 n D tag st sm
 tr:JTr Sh Fz Wk cr Wg p0 D w.heap.size t
 deaf:Deaf t 0=d0
 above:∀ j,n<=j->Deaf t j=0
theorem qgk{w w':World}{r:Nat}(e:w'.heap[r]?=w.heap[r]?)(o:Nat)(s:Option _):w'.cell? ⟨r,o,s⟩=w.cell? ⟨r,o,s⟩:=by simp [World.cell?,e]
theorem qml{L:List (Addr × Value)}{w w':World}(h:holds L w)(hb:∀ x,x∈L->w'.heap[x.1.block]?=w.heap[x.1.block]?):holds L w':=fun x hx=>by
 rw [<-h x hx];unfold World.cell?;rw [hb x hx]
section
variable [Payload]{P:Program}{ty:TypeId}{Wg:Nat}{Bx:Nat->Prop}{Sh:Nat->Prop}{Fz:Loc->Prop}{AnchW Next:Goroutine->World->Prop}{n:Nat}{Wk:Nat->Prop}{cr:Nat->Hands}{p0:Nat}
 {D:Nat->WD} {tag:Tag} {f0 d0:Nat} {a:Goroutine} {st sm:Int} {gs:Array Goroutine} {w:World} {t:Trace}
theorem Join.at(J:Join P ty Wg Bx Sh Fz AnchW Next n Wk cr p0 D tag f0 d0 a st sm gs w t)(d:Nat):Join P ty Wg Bx Sh Fz AnchW Next n Wk cr p0 D tag f0 d0 a st sm gs (w.at d) t:=
 ⟨J.size,J.here,J.main.rely (RM.at w d),fun i x hi hx=>⟨(J.ja i x hi hx).1.rely (RW.at w d),(J.ja i x hi hx).2⟩,J.old,J.nine,J.source,J.nodup,J.open_,J.shut,J.fact,J.wg,J.mode,J.tr,J.deaf,J.above⟩
theorem Join.lt(J:Join P ty Wg Bx Sh Fz AnchW Next n Wk cr p0 D tag f0 d0 a st sm gs w t){i:Nat}{x:Goroutine}(hx:gs[i]?=some x):i < n:=by rw [<-J.size];exact(Array.getElem?_eq_some_iff.1 hx).1
structure zF[Payload](Wg b:Nat)(w w':World):Prop where
 tape:w'.tape=w.tape
 os:w'.os=w.os
 output:w'.output=w.output
 size:w'.heap.size=w.heap.size
 block:∀ r,r≠Wg->r≠b->w'.heap[r]?=w.heap[r]?
 pay:PayAt b 1 w->PayAt b 1 w'
theorem Join.step(G:jE P ty Wg Bx Sh Fz n Wk cr)(J:Join P ty Wg Bx Sh Fz AnchW Next n Wk cr p0 D tag f0 d0 a st sm gs w t){i:Nat}{x:Goroutine}(hi:i≠0)(hx:gs[i]?=some x)
   {x':Goroutine} {w':World} {u:Trace} {s' m' d':Nat} {st' sm':Int} {tag':Tag} {f':Nat} {a':Goroutine} {gs':Array Goroutine}
   (hrel:zF Wg (cr i).bx w w') (hsame:¬ Wk i∨8<=s'->w'.heap=w.heap) (hwg':WgAt ty Wg w' st' sm') (hs':jQ P ty Wg (cr i) s' m' d' x' w')
   (hle:s'<=(D i).stage) (h9:s'=9↔(D i).stage=9)
   (hg:∀ op∈u,op.g=i) (hh:jq Sh Fz (StJ Wk cr D) (LfJ Wk) 0 w.heap.size (t++u)) (hn:∀ op∈u,op.act≠.mark (.release (stA Wg))) (hok:Wk i->s'<=6->jA (stA Wg) p0 (t++u) i) (hdf:Deaf (t++u) i=d')
   (hmain:ze P ty Wg Bx Sh Fz AnchW Next tag' f' d0 a' w') (htag:vv tag'=vv tag) (hmode:q7 n (upd D i ⟨s',m',d'⟩) tag' st' sm')
   (hsz:gs'.size=n) (h0:gs'[0]?=some a') (hgi:gs'[i]?=some x') (hgo:∀ j,j≠0->j≠i->gs'[j]?=gs[j]?) :
   Join P ty Wg Bx Sh Fz AnchW Next n Wk cr p0 (upd D i ⟨s',m',d'⟩) tag' f' d0 a' st' sm' gs' w' (t++u):=by
 have hst:∀ j,j≠i->upd D i ⟨s',m',d'⟩ j=D j:=fun j hj=>upd_ne D _ hj;have hsi:upd D i ⟨s',m',d'⟩ i=⟨s',m',d'⟩:=upd_same D i _;have s1:=(jQ.zn hs').1
 have keep:∀ j,Wk j->∀ r,(r=(cr j).s.c∨(r=(cr j).bx/\j≠i))->w'.heap[r]?=w.heap[r]?:=fun j hj r hr=>by
   by_cases hWi:Wk i
   . rcases hr with rfl | ⟨rfl,hji⟩
     . exact hrel.block _ (G.cW j hj) (G.cB j i hj hWi)
     . exact hrel.block _ (G.bxW j hj) (fun e=>hji (G.bxs j i hj hWi e))
   . rw [hsame (.inl hWi)]
 have rw_:∀ j,j≠i->RW ty Wg (cr j).bx 1 0 0 w w'∨(D j).stage=1:=fun j hj=>by
   by_cases hWj:Wk j
   . left;have hb:=keep j hWj (cr j).bx (.inr ⟨rfl,hj⟩);exact⟨fun b hb0 _ _=>absurd hb0 (Nat.not_lt_zero b),fun _=>⟨_,_,hwg'⟩,fun ⟨cs,hc,hl⟩=>⟨cs,hb.trans hc,hl⟩,qgk hb 0 none⟩
   . exact .inr (J.old j hWj)
 refine⟨hsz,h0,hmain,fun j y hj hy=>?_,fun j hj=>?_,fun j hj=>?_,by rw [htag];exact J.source,by rw [htag];exact J.nodup,fun j hj h=>?_,fun j hj h=>?_,fun j hj h=>?_,hwg',hmode,?_,?_,fun j hj=>?_⟩
 . by_cases hji:j=i
   . subst hji;rw [hgi] at hy;cases hy;rw [hsi];exact⟨hs',hdf⟩
   . rw [hgo j hj hji] at hy;rw [hst j hji,Deaf_other t (fun e=>hji e.symm) u hg];obtain⟨h1,h2⟩:=J.ja j y hj hy;refine⟨?_,h2⟩;rcases rw_ j hji with h3 | h3
     . exact h1.rely h3
     . rw [h3] at h1 |-;have h4:=h1.low (by omega);cases h4 with
       | quit hq=>exact .of (.quit hq)
 . by_cases hji:j=i
   . subst hji;have h1:=J.old j hj;rw [hsi];show s'=1;omega
   . rw [hst j hji];exact J.old j hj
 . rw [htag];by_cases hji:j=i
   . subst hji;rw [hsi];exact h9.trans (J.nine j hj)
   . rw [hst j hji];exact J.nine j hj
 . have h':(D j).stage=9:=by
     by_cases hji:j=i
     . subst hji;rw [hsi] at h;exact h9.1 h
     . rw [hst j hji] at h;exact h
   obtain⟨κ,hκ⟩:=J.open_ j hj h';exact⟨κ,(keep j hj _ (.inl rfl)).trans hκ⟩
 . have h':(D j).stage=8:=by
     by_cases hji:j=i
     . subst hji;rw [hsi] at h;have e:s'=8:=h;have h10:=h9;have hx9:=(J.ja j x hi hx).1.zn.2;by_cases h11:(D j).stage=9
       . have:=h10.2 h11;omega
       . omega
     . rw [hst j hji] at h;exact h
   obtain⟨κ,hκ⟩:=J.shut j hj h';exact⟨κ,(keep j hj _ (.inl rfl)).trans hκ⟩
 . by_cases hji:j=i
   . subst hji;rw [hsi] at h;have e:8<=s':=h;obtain⟨h1,h2⟩:=J.fact j hj (Nat.le_trans e hle);have hs:=hsame (.inr e);exact⟨qml h1 (fun y _=>by rw [hs]),(qgk (by rw [hs]) 0 none).trans h2⟩
   . rw [hst j hji] at h;obtain⟨h1,h2⟩:=J.fact j hj h;refine⟨qml h1 (fun y hy=>?_),(qgk (keep j hj _ (.inr ⟨rfl,hji⟩)) 0 none).trans h2⟩;by_cases hWi:Wk i
     . exact hrel.block _ (G.lW j hj y hy).1 ((G.lW j hj y hy).2 i hWi (fun e=>hji e.symm))
     . rw [hsame (.inl hWi)]
 . rw [hrel.size];refine J.tr.step hh hg hn (fun j=>?_) (fun j hj=>by rw [hst j hj]) (fun hW h6=>hok hW (by rw [hsi] at h6;exact h6));by_cases hji:j=i
   . subst hji;rw [hsi];exact hle
   . rw [hst j hji];exact Nat.le_refl _
 . rw [Deaf_other t hi u hg];exact J.deaf
 . have:=J.lt hx;rw [Deaf_other t (by omega) u hg];exact J.above j hj
end
end
end Go.Proofs.YtacemdoejblgaaaGreatDoor

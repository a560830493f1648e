/- Part M03. Conditions: each statement's. -/
import Derived.Conc.Beside
import Derived.Conc.CrowdComm
import Derived.Conc.Events
import Derived.Calls
namespace Go.Proofs.YtacemdoejblgaaaGreatDoor
open List Bool
set_option maxRecDepth 100000
set_option maxHeartbeats 6400000
section
open Go.Conc
def qle(Sh:Nat->Prop):Loc->Prop
 | .cell a=>Sh a.block
 |_=>False
def qeB(Sh:Nat->Prop)(Fz:Loc->Prop)(a:Touch):Prop:=
 (qle Sh a.loc/\a.kind=.atomic)∨(Fz a.loc/\a.write=false/\a.kind=.plain)
def qaO(B:Nat)(x:MemAct):Prop:=∀y,x.touch?=some y->y.loc.low B
structure zz(Sh:Nat->Prop)(Fz:Loc->Prop)(St:Nat->Loc->Prop)(Lf:Nat->Prop)(h B:Nat)(t:Trace):Prop where
 clean:∀said,¬Race said t
 known:∀i a,touchAt t i=some a->a.loc.isMemory=true->Knows t h i∨qeB Sh Fz a
 wrote:∀k,k≠h->∀i a,touchAt t i=some a->St k a.loc->a.write=true->Knows t k i
 seen:∀op∈t,qaO B op.act
 quiet:∀i a,touchAt t i=some a->qle Sh a.loc->a.kind≠.plain
 sub:∀k l,St k l->Fz l/\¬qle Sh l/\l.isMemory=true
 over:∀i k,t.g? i=some k->Lf k->t.counts i->Knows t h i
section
variable {Sh:Nat->Prop}{Fz:Loc->Prop}{St:Nat->Loc->Prop}{Lf:Nat->Prop}{h B:Nat}{t u:Trace}
theorem qcc{i:Nat}{a:Touch}(ha:touchAt (t++u) i=some a):(i<t.size/\touchAt t i=some a)∨(t.size<=i/\∃op,op∈u/\(t++u)[i]?=some op/\op.act.touch?=some a):=by
 obtain⟨x,hx,hxa⟩:=touch_of ha;rcases getElem?_append_cases hx with ⟨hi,hx'⟩|⟨hi,hxu⟩
 . exact .inl ⟨hi,by rw[touchAt_of hx'];exact hxa⟩
 . exact .inr ⟨hi,x,hxu,hx,hxa⟩
theorem qt1{Lf:Nat->Prop}(H:∀i k,t.g? i=some k->Lf k->t.counts i->Knows t h i)(hu:∀op∈u,Lf op.g->op.act.touch?=none):∀i k,(t++u).g? i=some k->Lf k->(t++u).counts i->Knows (t++u) h i:=by
 intro i k hg hL hc;obtain⟨x,hx,hm,hh⟩:=hc;rcases qcc hx with ⟨hi,hx'⟩|⟨_,op,hop,hy,hxa⟩
 . exact(H i k (by rw[g?_old hi]at hg;exact hg) hL ((counts_old hi).1 ⟨x,hx,hm,hh⟩)).app u
 . have:op.g=k:=by
    unfold Trace.g? at hg;rw[hy]at hg;exact Option.some.inj hg
   rw[hu op hop (this▸hL)]at hxa;cases hxa
theorem zz.mono{B':Nat}(H:zz Sh Fz St Lf h B t)(hB:B<=B'):zz Sh Fz St Lf h B' t:=⟨H.clean,H.known,H.wrote,λop hop y hy=>Loc.low_mono hB (H.seen op hop y hy),H.quiet,H.sub,H.over⟩
theorem zz.own(H:zz Sh Fz St Lf h B t)(hLh:¬Lf h)(hg:∀op∈u,op.g=h)(ho:∀op∈u,∀x,op.act.touch?=some x->(qle Sh x.loc->x.kind≠.plain)/\(x.write=true->¬Fz x.loc))(hl:∀op∈u,qaO B op.act) :
   zz Sh Fz St Lf h B (t++u):=by
 refine⟨λsaid=>noRace_append (H.clean said) hg (λi a ha op hop b hb hc=>?_),λi a ha hm=>?_,λk hk i a ha hs hw=>?_,λop hop=>(Array.mem_append.1 hop).elim (H.seen op) (hl op),λi a ha hs=>?_,H.sub,qt1 H.over (λop hop hL=>absurd (hg op hop▸hL) hLh)⟩
 . obtain⟨h1,h2⟩:=ho op hop b hb;rcases H.known i a ha hc.2.1 with hk|⟨hs,hka⟩|⟨hf,hw,hk⟩
   . exact hk
   . exfalso;have:=h1 (hc.1▸hs);obtain⟨_,_,_,hcase⟩:=hc;rw[hka]at hcase;rcases hcase with x|x|⟨_,x,_⟩
     . cases x
     . exact this x
     . cases x
   . exfalso;obtain⟨e1,_,e2,_⟩:=hc;rcases e2 with x|x
     . rw[hw]at x;cases x
     . exact h2 x (e1▸hf)
 . rcases qcc ha with ⟨hi,ha'⟩|⟨_,op,hop,hx,_⟩
   . exact(H.known i a ha' hm).imp (·.app u) id
   . have:=knows_own hx;rw[hg op hop]at this;exact .inl this
 . rcases qcc ha with ⟨hi,ha'⟩|⟨_,op,hop,_,hxa⟩
   . exact(H.wrote k hk i a ha' hs hw).app u
   . exact absurd (H.sub k _ hs).1 ((ho op hop a hxa).2 hw)
 . rcases qcc ha with ⟨hi,ha'⟩|⟨_,op,hop,_,hxa⟩
   . exact H.quiet i a ha' hs
   . exact(ho op hop a hxa).1 hs
theorem zz.by(H:zz Sh Fz St Lf h B t){k:Nat}(hk:k≠h)(hLk:¬Lf k)(hg:∀op∈u,op.g=k)(ho:∀op∈u,∀x,op.act.touch?=some x->St k x.loc/\x.write=false/\x.kind=.plain)(hl:∀op∈u,qaO B op.act) :
   zz Sh Fz St Lf h B (t++u):=by
 refine⟨λsaid=>noRace_append (H.clean said) hg (λi a ha op hop b hb hc=>?_),λi a ha hm=>?_,λk' hk' i a ha hs hw=>?_,λop hop=>(Array.mem_append.1 hop).elim (H.seen op) (hl op),λi a ha hs=>?_,H.sub,qt1 H.over (λop hop hL=>absurd (hg op hop▸hL) hLk)⟩
 . obtain⟨h1,h2,_⟩:=ho op hop b hb;obtain⟨e1,_,e2,_⟩:=hc;refine H.wrote k hk i a ha (e1▸h1) (e2.elim id (λx=>by rw[h2]at x;cases x))
 . rcases qcc ha with ⟨hi,ha'⟩|⟨_,op,hop,_,hxa⟩
   . exact(H.known i a ha' hm).imp (·.app u) id
   . obtain⟨h1,h2,h3⟩:=ho op hop a hxa;exact .inr (.inr ⟨(H.sub k _ h1).1,h2,h3⟩)
 . rcases qcc ha with ⟨hi,ha'⟩|⟨_,op,hop,_,hxa⟩
   . exact(H.wrote k' hk' i a ha' hs hw).app u
   . rw[(ho op hop a hxa).2.1]at hw;cases hw
 . rcases qcc ha with ⟨hi,ha'⟩|⟨_,op,hop,_,hxa⟩
   . exact H.quiet i a ha' hs
   . exact absurd hs (H.sub k _ (ho op hop a hxa).1).2.1
theorem zz.atomic(H:zz Sh Fz St Lf h B t){k:Nat}(hLk:¬Lf k)(hg:∀op∈u,op.g=k)(ho:∀op∈u,∀x,op.act.touch?=some x->qle Sh x.loc/\x.kind=.atomic)(hl:∀op∈u,qaO B op.act) :
   zz Sh Fz St Lf h B (t++u):=by
 refine⟨λsaid=>noRace_append (H.clean said) hg (λi a ha op hop b hb hc=>?_),λi a ha hm=>?_,λk' hk' i a ha hs hw=>?_,λop hop=>(Array.mem_append.1 hop).elim (H.seen op) (hl op),λi a ha hs=>?_,H.sub,qt1 H.over (λop hop hL=>absurd (hg op hop▸hL) hLk)⟩
 . exfalso;obtain⟨h1,h2⟩:=ho op hop b hb;have:=H.quiet i a ha (hc.1▸h1);obtain⟨_,_,_,hcase⟩:=hc;rw[h2]at hcase;rcases hcase with x|x|⟨_,_,x⟩
   . exact this x
   . cases x
   . cases x
 . rcases qcc ha with ⟨hi,ha'⟩|⟨_,op,hop,_,hxa⟩
   . exact(H.known i a ha' hm).imp (·.app u) id
   . obtain⟨h1,h2⟩:=ho op hop a hxa;exact .inr (.inl ⟨h1,h2⟩)
 . rcases qcc ha with ⟨hi,ha'⟩|⟨_,op,hop,_,hxa⟩
   . exact(H.wrote k' hk' i a ha' hs hw).app u
   . exact absurd (ho op hop a hxa).1 (H.sub k' _ hs).2.1
 . rcases qcc ha with ⟨hi,ha'⟩|⟨_,op,hop,_,hxa⟩
   . exact H.quiet i a ha' hs
   . rw[(ho op hop a hxa).2];simp
theorem zz.mute(H:zz Sh Fz St Lf h B t)(ho:∀op∈u,op.act.touch?=none):zz Sh Fz St Lf h B (t++u):=by
 have nt:∀{i a},touchAt (t++u) i=some a->i<t.size/\touchAt t i=some a:=λ{i a} ha=>by
  rcases qcc ha with h1|⟨_,op,hop,_,hxa⟩
  . exact h1
  . rw[ho op hop]at hxa;cases hxa
 refine⟨λsaid=>?_,λi a ha hm=>?_,λk hk i a ha hs hw=>?_,λop hop=>(Array.mem_append.1 hop).elim (H.seen op) (λx y hy=>by rw[ho op x]at hy;cases hy),λi a ha hs=>H.quiet i a (nt ha).2 hs,H.sub,qt1 H.over (λop hop _=>ho op hop)⟩
 . rintro⟨i,j,hij,⟨a,b,ha,hb,hc⟩,n1,n2⟩;have h1:=nt ha;have h2:=nt hb;exact H.clean said ⟨i,j,hij,⟨a,b,h1.2,h2.2,hc⟩,λe=>n1 (hb_app u e),λe=>n2 (hb_app u e)⟩
 . exact(H.known i a (nt ha).2 hm).imp (·.app u) id
 . exact(H.wrote k hk i a (nt ha).2 hs hw).app u
theorem zz.more(H:zz Sh Fz St Lf h B t){Sh':Nat->Prop}{Fz':Loc->Prop}(h1:∀r,Sh r->Sh' r)(h2:∀r,Sh' r->Sh r∨B<=r)(h3:∀l,Fz l->Fz' l)(h4:∀k l,St k l->l.low B):zz Sh' Fz' St Lf h B t:=by
 have key:∀l,l.low B->qle Sh' l->qle Sh l:=λl hlow hs=>by
  cases l with
  |cell a=>exact(h2 _ hs).elim id (λy=>absurd hlow (Nat.not_lt.2 y))
  |_=>exact hs.elim
 have low:∀i a,touchAt t i=some a->a.loc.low B:=λi a ha=>by
  obtain⟨x,hx,hxa⟩:=touch_of ha;exact H.seen x (Array.mem_of_getElem? hx) a hxa
 refine⟨H.clean,λi a ha hm=>(H.known i a ha hm).imp id (Or.imp (λx=>⟨?_,x.2⟩) (λx=>⟨h3 _ x.1,x.2⟩)),H.wrote,H.seen,λi a ha hs=>H.quiet i a ha (key _ (low i a ha) hs),λk l hl=>⟨h3 _ (H.sub k l hl).1,λhs=>(H.sub k l hl).2.1 (key l (h4 k l hl) hs),(H.sub k l hl).2.2⟩,H.over⟩
 . have hx:=x.1;cases hloc:a.loc with
   |cell b=>rw[hloc]at hx;exact h1 _ hx
   |_=>rw[hloc]at hx;exact hx.elim
end
section
variable {t u:Trace}
theorem q0j{g i:Nat}{y:MemOp}(hy:t[i]?=some y)(h1:y.act≠.mark .disable)(h2:y.act≠.mark .enable):t.deaf g (i+1)=t.deaf g i:=by
 rw[deaf_succ hy];unfold deafStep;split
 . rename_i h;exact absurd h h1
 . rename_i h;exact absurd h h2
 . rfl
theorem gAt{i:Nat}{y:MemOp}(h:t[i]?=some y){g:Nat}(hg:y.g=g):t.g? i=some g:=by simp[Trace.g?,h,hg]
theorem qo4{a b:Trace}{y:MemOp}(h:b[0]?=some y):(a++b)[a.size]?=some y:=by
 rw[Array.getElem?_append_right (Nat.le_refl _),Nat.sub_self];exact h
theorem qyp{a b:Trace}{i:Nat}{y:MemOp}(h:b[i]?=some y):(a++b)[a.size+i]?=some y:=by
 rw[Array.getElem?_append_right (Nat.le_add_right _ _),Nat.add_sub_cancel_left];exact h
theorem qsd{g p:Nat}:∀n,(∀i,i<n->∃y,t[p+i]?=some y/\y.act≠.mark .disable/\y.act≠.mark .enable)->t.deaf g (p+n)=t.deaf g p
 |0,_=>rfl
 |n+1,h=>by
  obtain⟨y,h1,h2,h3⟩:=h n (Nat.lt_succ_self n);rw[<-Nat.add_assoc,q0j h1 h2 h3];exact qsd n (λi hi=>h i (by omega))
theorem qxt{h k c n:Nat}{a0 a1 a2 a3:MemOp}(e0:a0.g=h/\a0.act=.send c n)(e1:∃r cap,a1.act=.recv c r cap)(e2:a2.act=.sendDone c n)(e3:a3.g=k/\a3.act=.recvDone c n)
   (dh:Deaf t h=0) (dk:Deaf t k=0) {i:Nat} (hk:Knows t h i):Knows (t++#[a0,a1,a2,a3]) k i:=by
 obtain⟨r,cap,e1⟩:=e1;have g0:(t++#[a0,a1,a2,a3])[t.size]?=some a0:=qo4 rfl;have g1:(t++#[a0,a1,a2,a3])[t.size+1]?=some a1:=qyp rfl;have g2:(t++#[a0,a1,a2,a3])[t.size+2]?=some a2:=qyp rfl;have g3:(t++#[a0,a1,a2,a3])[t.size+3]?=some a3:=qyp rfl;have d0:(t++#[a0,a1,a2,a3]).deaf h t.size=0:=by rw[deaf_old (Nat.le_refl _)];exact dh
 have d3:(t++#[a0,a1,a2,a3]).deaf k (t.size+3)=0:=by
  rw[qsd 3,deaf_old (Nat.le_refl _)]
  . exact dk
  . intro i hi
    match i,hi with
    |0,_=>exact⟨a0,g0,by rw[e0.2];simp,by rw[e0.2];simp⟩
    |1,_=>exact⟨a1,g1,by rw[e1];simp,by rw[e1];simp⟩
    |2,_=>exact⟨a2,g2,by rw[e2];simp,by rw[e2];simp⟩
    |i+3,hi=>omega
 refine⟨t.size+3,a3,g3,e3.1,.inr ?_⟩;refine(hk.hb_new (Nat.le_refl _) g0 e0.1).trans (.single (.inr ⟨.handOver (c:=c) (k:=n) (by rw[act?_of g0,e0.2]) (by rw[act?_of g3,e3.2]),⟨h,gAt g0 e0.1,d0⟩,⟨k,gAt g3 e3.1,d3⟩⟩))
theorem qjV{h k:Nat}{a0 a1:MemOp}(e0:a0.g=h/\a0.act=.go k)(e1:a1.g=k/\a1.act=.start)(dh:Deaf t h=0)(dk:Deaf t k=0){i:Nat}(hk:Knows t h i):Knows (t++#[a0,a1]) k i:=by
 have g0:(t++#[a0,a1])[t.size]?=some a0:=qo4 rfl;have g1:(t++#[a0,a1])[t.size+1]?=some a1:=qyp rfl;have d0:(t++#[a0,a1]).deaf h t.size=0:=by rw[deaf_old (Nat.le_refl _)];exact dh
 have d1:(t++#[a0,a1]).deaf k (t.size+1)=0:=by
  rw[q0j g0 (by rw[e0.2];simp) (by rw[e0.2];simp),deaf_old (Nat.le_refl _)];exact dk
 refine⟨t.size+1,a1,g1,e1.1,.inr ?_⟩;refine(hk.hb_new (Nat.le_refl _) g0 e0.1).trans (.single (.inr ⟨.spawn (child:=k) (by rw[act?_of g0,e0.2]) (by rw[act?_of g1,e1.2]) (gAt g1 e1.1),⟨h,gAt g0 e0.1,d0⟩,⟨k,gAt g1 e1.1,d1⟩⟩))
structure vO(a:Addr)(t:Trace)(k p:Nat):Prop where
 act:t.act? p=some (.mark (.releaseMerge a))
 g:t.g? p=some k
 heard:t.heard p
theorem vO.lt{a:Addr}{k p:Nat}(h:vO a t k p):p<t.size:=lt_of_act? h.act
theorem vO.app{a:Addr}{k p:Nat}(h:vO a t k p)(u:Trace):vO a (t++u) k p:=⟨by rw[act?_old h.lt];exact h.act,by rw[g?_old h.lt];exact h.g,(heard_old h.lt).2 h.heard⟩
theorem q8c{a:Addr}{k:Nat}{y:MemOp}(hg:y.g=k)(hy:y.act=.mark (.releaseMerge a))(hd:Deaf t k=0):vO a (t++#[y]) k t.size:=by
 have g0:(t++#[y])[t.size]?=some y:=qo4 rfl;exact⟨by rw[act?_of g0,hy],gAt g0 hg,k,gAt g0 hg,by rw[deaf_old (Nat.le_refl _)];exact hd⟩
theorem qyq{a:Addr}{k p h:Nat}(hr:vO a t k p)(hn:∀q,p<q->t.act? q≠some (.mark (.release a))){y:MemOp}(hg:y.g=h)(hy:y.act=.mark (.acquire a))(hd:Deaf t h=0){i:Nat}(hi:Before t i p):Knows (t++#[y]) h i:=by
 have g0:(t++#[y])[t.size]?=some y:=qo4 rfl;have hr':=hr.app #[y];refine⟨t.size,y,g0,hg,?_⟩;have e:HappensBefore (t++#[y]) p t.size:=.single (.inr ⟨.marked (a:=a) hr.lt (.inr hr'.act) (by rw[act?_of g0,hy]) (λq h1 h2=>by rw[act?_old h2];exact hn q h1),hr'.heard,⟨h,gAt g0 hg,by rw[deaf_old (Nat.le_refl _)];exact hd⟩⟩);exact .inr ((hi.app #[y]).hb e)
end
end
section
open Go.Conc
open Go.ConcN (sumTo upd sumTo_upd upd_ne upd_same)
def yx(P:Program)(Post:Value->World->Prop)(gs:Array Goroutine)(w:World)(t:Trace):Prop:=
 ∀sl,∃N last o w' t',runNT P (N+1) (crowd gs w sl) t=(.ended o w',t')/\runN P N (crowd gs w sl)=.next last/\step P last=.ended o w'/\Good P Post last o w' t'
theorem qjj{P:Program}{Post:Value->World->Prop}{gs:Array Goroutine}{w:World}{t:Trace}(aw:∀g∈gs,awake g)(some1:∃(i:Nat) (g:Goroutine),gs[i]?=some g/\g.status=.running)
   (h:∀i g d sl,gs[i]?=some g->g.status=.running->(∃gs' w' sl' ops,runT P (crowd gs (w.at d) sl) i=(.next (crowd gs' w' sl'),ops)/\yx P Post gs' w' (t++ops)) ∨
    ∃o w' ops,runT P (crowd gs (w.at d) sl) i=(.ended o w',ops)/\∀sl₀,Good P Post (crowd gs w sl₀) o w' (t++ops)):yx P Post gs w t:=by
 intro sl;obtain⟨i,g,d,sl',hi,hr,hst⟩:=crowd_pick (P:=P) (w:=w) (sl:=sl) aw some1;rcases h i g d sl' hi hr with ⟨gs',w',sl2,ops,hs,hf⟩|⟨o,w',ops,hs,hg⟩
 . obtain⟨N,last,o,w2,t',h1,h2,h3,h4⟩:=hf sl2;have e:stepT P (crowd gs w sl)=(.next (crowd gs' w' sl2),ops):=hst.trans hs;exact⟨N+1,last,o,w2,t',by rw[runNT_succ_next e];exact h1,by rw[runN_succ_next e];exact h2,h3,h4⟩
 . have e:stepT P (crowd gs w sl)=(.ended o w',ops):=hst.trans hs;exact⟨0,crowd gs w sl,o,w',t++ops,by simp[runNT,e],rfl,by simp[step,e],hg sl⟩
def holds(L:List (Addr×Value))(w:World):Prop:=∀x,x∈L->w.cell? x.1=some x.2
def StL(L:List (Addr×Value))(l:Loc):Prop:=∃x,x∈L/\l=.cell x.1
def qut(L:List (Addr×Value))(e:Event):Prop:=e.write=false/\e.sync=false/\StL L e.loc
structure zW where
 L:List (Addr×Value)
 fr:Frame
 cs:List Frame
 c:Nat
 z:Value
 ok:Bool
def qlf(P:Program)(main:Bool)(s:zW):Prop:=∃es,(∀w,holds s.L w->stepG P main (G s.fr s.cs) w=.comm (G s.fr s.cs) #[rcase s.c s.z] true (.recv s.ok) w es)/\∀e,e∈es->qut s.L e
def Way(P:Program)(main:Bool)(s:zW):Nat->Goroutine->Prop
 |0,_=>False
 |n+1,g=>(g=G s.fr s.cs/\qlf P main s)∨(g.status=.running/\∃g' es,(∀w,holds s.L w->stepG P main g w=.go g' w es)/\(∀e,e∈es->qut s.L e)/\Way P main s n g')
inductive qA where
 |left
 |seat (s:zW)
def qhe(s:zW):Goroutine:=parked (G s.fr s.cs) #[rcase s.c s.z] (.recv s.ok)
def qcZ(P:Program)(main:Bool):qA->Nat->Nat->Goroutine->Prop
 | .left,q,d,g=>main=false/\QuitsD P q d g
 | .seat s,q,d,g=>d=0/\((q=0/\g=qhe s)∨Way P main s q g)
def StT(T:Nat->qA)(n h:Nat)(k:Nat)(l:Loc):Prop:=k≠h/\k<n/\∃s,T k=.seat s/\StL s.L l
def LfT(T:Nat->qA)(h:Nat)(k:Nat):Prop:=k≠h/\T k=.left
structure qV(P:Program)(Sh:Nat->Prop)(Fz:Loc->Prop)(T:Nat->qA)(n h dd:Nat)(g:Goroutine)(w:World)(gs:Array Goroutine)(t:Trace)(q:Nat->Nat):Prop where
 size:gs.size=n
 here:gs[h]?=some g
 jW:∀i x,i≠h->gs[i]?=some x->qcZ P (i==0) (T i) (q i) (Deaf t i) x
 fact:∀i s,i≠h->i<n->T i=.seat s->holds s.L w/\∃k,w.heap[s.c]?=some (.chan 0 #[] false k k false)
 apart:∀i j s s',i≠h->j≠h->i<n->j<n->T i=.seat s->T j=.seat s'->s.c=s'.c->i=j
 zC:zz Sh Fz (StT T n h) (LfT T h) h w.heap.size t
 deaf:Deaf t h=dd
 above:∀j,n<=j->Deaf t j=0
section
variable {P:Program}{Sh:Nat->Prop}{Fz:Loc->Prop}{T:Nat->qA}{n h dd:Nat}{g:Goroutine}{w:World}{gs:Array Goroutine}{t:Trace}{q:Nat->Nat}
theorem Way.running{main:Bool}{s:zW}{m:Nat}{x:Goroutine}(hw:Way P main s m x):x.status=.running:=by
 cases m with
 |zero=>exact hw.elim
 |succ m=>rcases hw with ⟨rfl,_⟩|⟨h1,_⟩<;>first|rfl|exact h1
theorem qcZ.status{main:Bool}{r:qA}{m d:Nat}{x:Goroutine}(hs:qcZ P main r m d x):x.status=.running∨x.status=.blocked∨x.status=.finished:=by
 cases r with
 |left=>exact hs.2.status.elim .inl (λy=>.inr (.inr y))
 |seat s=>
  rcases hs.2 with ⟨_,rfl⟩|hw
  . exact .inr (.inl rfl)
  . exact .inl hw.running
theorem qV.lt(H:qV P Sh Fz T n h dd g w gs t q){i:Nat}{x:Goroutine}(hx:gs[i]?=some x):i<n:=by rw[<-H.size];exact(Array.getElem?_eq_some_iff.1 hx).1
theorem qV.awake(H:qV P Sh Fz T n h dd g w gs t q)(hg:awake g):∀x∈gs,awake x:=by
 intro x hx;obtain⟨i,hi⟩:=Array.mem_iff_getElem?.1 hx;by_cases h0:i=h
 . subst h0;rw[H.here]at hi;cases hi;exact hg
 . exact awake_of (H.jW i x h0 hi).status
theorem qV.at(H:qV P Sh Fz T n h dd g w gs t q)(d:Nat):qV P Sh Fz T n h dd g (w.at d) gs t q:=⟨H.size,H.here,H.jW,H.fact,H.apart,H.zC,H.deaf,H.above⟩
theorem qV.again(H:qV P Sh Fz T n h dd g w gs t q)(d:Nat){i:Nat}{x:Goroutine}(hi:i≠h)(hx:gs[i]?=some x):x.again (w.at d)=x:=by
 have hs:=H.jW i x hi hx;have hlt:=H.lt hx;cases hT:T i with
 |left=>rw[hT]at hs;exact again_running _ hs.2.status
 |seat s=>
  rw[hT]at hs;rcases hs.2 with ⟨_,rfl⟩|hw
  . obtain⟨_,k,hc⟩:=H.fact i s hi hlt hT;exact again_parked_open (k:=rcase s.c s.z) (c:=s.c) (s:=k) (r:=k) (tm:=false) rfl hc
  . exact again_running _ (.inl hw.running)
theorem qV.woken(H:qV P Sh Fz T n h dd g w gs t q)(d:Nat)(hg:g.again (w.at d)=g)(x g':Goroutine){j:Nat}{y:Goroutine}(hy:gs[j]?=some y):Go.Conc.woken P x g' (w.at d) y=y:=by
 unfold Go.Conc.woken;split
 . by_cases hj:j=h
   . subst hj;rw[H.here]at hy;cases hy;exact hg
   . exact H.again d hj hy
 . rfl
theorem qb5(gs:Array Goroutine)(i j:Nat)(y:Goroutine)(hlt:i<gs.size):(gs.setIfInBounds i y)[j]?=if i=j then some y else gs[j]?:=by
 by_cases hij:i=j
 . subst hij;rw[if_pos rfl,Array.getElem?_setIfInBounds_self_of_lt hlt]
 . rw[if_neg hij,Array.getElem?_setIfInBounds_ne hij]
theorem qV.vP(H:qV P Sh Fz T n h dd g w gs t q)(d:Nat)(hg:g.again (w.at d)=g)(x g':Goroutine){i:Nat}(hlt:i<gs.size):(gs.map (Go.Conc.woken P x g' (w.at d))).setIfInBounds i g'=gs.setIfInBounds i g':=by
 apply Array.ext_getElem?;intro j;rw[qb5 _ _ _ _ (by simpa using hlt),qb5 _ _ _ _ hlt];split
 . rfl
 . rw[Array.getElem?_map];cases hy:gs[j]? with
   |none=>rfl
   |some y=>simp[H.woken d hg x g' hy]
theorem qyr{L:List (Addr×Value)}{fn:FuncId}{pos:String}{i B:Nat}{es:Array Event}(he:∀e,e∈es->qut L e)(hB:∀l,StL L l->l.low B) :
   (∀op∈MemOp.ofEvents i fn pos es,op.g=i)/\(∀op∈MemOp.ofEvents i fn pos es,∀x,op.act.touch?=some x->StL L x.loc/\x.write=false/\x.kind=.plain)/\(∀op∈MemOp.ofEvents i fn pos es,qaO B op.act)/\∀d,deafBehind d es=d:=by
 refine⟨λop hop=>?_,λop hop x hx=>?_,λop hop=>?_,λd=>deafBehind_still (λe hee=>?_) d⟩
 . obtain⟨e,_,rfl⟩:=Go.Conc.mem_ofEvents hop;rfl
 . obtain⟨e,hee,rfl⟩:=Go.Conc.mem_ofEvents hop;obtain⟨h1,h2,y,hy,h3⟩:=he e hee;obtain⟨loc,wr,sy⟩:=e;cases h1;cases h2;cases h3;cases hx;exact⟨⟨y,hy,rfl⟩,rfl,rfl⟩
 . obtain⟨e,hee,rfl⟩:=Go.Conc.mem_ofEvents hop;obtain⟨h1,h2,y,hy,h3⟩:=he e hee;obtain⟨loc,wr,sy⟩:=e;cases h1;cases h2;cases h3;intro z hz;cases hz;exact hB _ ⟨y,hy,rfl⟩
 . obtain⟨h1,h2,y,hy,h3⟩:=he e hee;rw[h3];exact⟨(λe=>by cases e),(λe=>by cases e)⟩
theorem qlg{L:List (Addr×Value)}(hL:holds L w):∀l,StL L l->l.low w.heap.size:=by
 rintro l ⟨x,hx,rfl⟩;have:=hL x hx;show x.1.block<w.heap.size;unfold World.cell? at this;split at this
 . rename_i hb;exact(Array.getElem?_eq_some_iff.1 hb).1
 . cases this
theorem qV.xW(H:qV P Sh Fz T n h dd g w gs t q){i:Nat}{x:Goroutine}(hi:i≠h)(hx:gs[i]?=some x)(hr:x.status=.running)(d:Nat)(sl:Option (Nat×Nat))(hg:g.again (w.at d)=g)
   (ho:∀s,T i=.seat s->x=G s.fr s.cs->qlf P (i==0) s->offersAt g s.c true=[]) :
   ∃gs' ops q',runT P (crowd gs (w.at d) sl) i=(.next (crowd gs' (w.at d) sl),ops)/\qV P Sh Fz T n h dd g (w.at d) gs' (t++ops) q'/\sumTo n q'<sumTo n q /\
    (∀j,j≠i->gs'[j]?=gs[j]?)/\∀s,T i=.seat s->x.status=.running->¬(x=G s.fr s.cs/\qlf P (i==0) s)->∃x',gs'[i]?=some x'/\x'.status=.running:=by
 have hlt:=H.lt hx;have hsz:i<gs.size:=by rw[H.size];exact hlt
 have hs:=H.jW i x hi hx
 have build:∀(x':Goroutine) (m':Nat) (u:Trace),(∀op∈u,op.g=i)->qcZ P (i==0) (T i) m' (Deaf (t++u) i) x'->zz Sh Fz (StT T n h) (LfT T h) h w.heap.size (t++u)->qV P Sh Fz T n h dd g (w.at d) (gs.setIfInBounds i x') (t++u) (upd q i m'):=by
  intro x' m' u hu hs' hh;refine⟨by simp[H.size],?_,λj y hj hy=>?_,H.fact,H.apart,hh,by rw[Deaf_other t hi u hu];exact H.deaf,λj hj=>by rw[Deaf_other t (by omega) u hu];exact H.above j hj⟩
  . rw[qb5 _ _ _ _ hsz,if_neg hi];exact H.here
  . rw[qb5 _ _ _ _ hsz]at hy;split at hy
    . rename_i e;subst e;cases hy;rw[upd_same];exact hs'
    . rename_i e;rw[upd_ne q m' (λe'=>e e'.symm),Deaf_other t e u hu];exact H.jW j y hj hy
 have less:∀m',m'<q i->sumTo n (upd q i m')<sumTo n q:=λm' hm=>by
  have:=sumTo_upd q m' id hlt;have a1:(sumTo n λa=>id (upd q i m' a))=sumTo n (upd q i m'):=rfl;have a2:(sumTo n λa=>id (q a))=sumTo n q:=rfl;rw[a1,a2]at this;simp only[id]at this;omega
 have rest:∀x' j,j≠i->(gs.setIfInBounds i x')[j]?=gs[j]?:=λx' j hj=>by rw[qb5 _ _ _ _ hsz,if_neg (λe=>hj e.symm)]
 have own:∀x',(gs.setIfInBounds i x')[i]?=some x':=λx'=>by rw[qb5 _ _ _ _ hsz,if_pos rfl]
 cases hT:T i with
 |left=>
  rw[hT]at hs;obtain⟨h0,hq⟩:=hs;cases hqi:q i with
  |zero=>rw[hqi]at hq;rw[hq.1]at hr;cases hr
  |succ m=>
   rw[hqi]at hq;rcases hq with ⟨hf,_⟩|⟨_,g',es,hm,hst,hq'⟩
   . rw[hf]at hr;cases hr
   . have hrun:=runT_crowd_go (P:=P) (sl:=sl) (i:=i) hx (by rw[h0];exact hst (w.at d));rw[H.vP d hg x g' hsz]at hrun;refine⟨_,_,upd q i m,hrun,build g' m _ (λop hop=>by obtain⟨e,_,rfl⟩:=Go.Conc.mem_ofEvents hop;rfl) ?_ (H.zC.mute (λop hop=>by obtain⟨e,he,rfl⟩:=Go.Conc.mem_ofEvents hop;exact touch_mute (hm e he))),less m (by omega),rest g',λs e=>by cases e⟩;rw[hT,Deaf_own];exact⟨h0,hq'⟩
 |seat s=>
  rw[hT]at hs;obtain⟨h0,hs⟩:=hs;obtain⟨hL,k,hc⟩:=H.fact i s hi hlt hT;have hst:∀l,StL s.L l->StT T n h i l:=λl hl=>⟨hi,hlt,s,hT,hl⟩;rcases hs with ⟨_,rfl⟩|hw
  . cases hr
  . cases hqi:q i with
    |zero=>rw[hqi]at hw;exact hw.elim
    |succ m=>
     rw[hqi]at hw;rcases hw with ⟨rfl,hcomm⟩|⟨_,g',es,hgo,hes,hw'⟩
     . have hoff:=ho s hT rfl hcomm;obtain⟨es,hstep,hes⟩:=hcomm
       have hpn:partners (gs.setIfInBounds i ph) s.c true=[]:=partners_nil (λj y hy=>by
        rcases getElem?_stand gs i j y hy with ⟨_,rfl⟩|⟨hji,hy'⟩
        . exact offersAt_ph _ _
        . by_cases hjh:j=h
          . subst hjh;rw[H.here]at hy';cases hy';exact hoff
          . have hsj:=H.jW j y hjh hy';cases hTj:T j with
            |left=>rw[hTj]at hsj;exact offersAt_of_not_blocked (by rcases hsj.2.status with e|e<;>rw[e]<;>simp) _ _
            |seat s'=>
             rw[hTj]at hsj;rcases hsj.2 with ⟨_,rfl⟩|hw'
             . exact offersAt_parked_recv' _ _ _ _ _
             . exact offersAt_of_not_blocked (by rw[hw'.running];simp) _ _)
       have hrun:=crowd_waits (P:=P) (sl:=sl) (w₁:=w.at d) hx (hstep (w.at d) hL) (λcc hcc=>by
        have:cc=rcase s.c s.z:=by simpa using hcc
        subst this;exact ways_recv_none (s:=k) (r:=k) (tm:=false) hc hpn)
       have⟨r1,r2,r3,r4⟩:=qyr (i:=i) (fn:=(G s.fr s.cs).frame.fn) (pos:=(G s.fr s.cs).frame.place) hes (qlg hL);refine⟨_,_,upd q i 0,hrun,build _ 0 _ r1 ?_ (H.zC.by hi (λy=>by rw[y.2]at hT;cases hT) r1 (λop hop y hy=>⟨hst _ (r2 op hop y hy).1,(r2 op hop y hy).2⟩) r3),less 0 (by omega),rest _,λs' e _ hn=>by cases e;exact absurd ⟨rfl,⟨es,hstep,hes⟩⟩ hn⟩;rw[hT,Deaf_own,r4];exact⟨h0,.inl ⟨rfl,rfl⟩⟩
     . have hrun:=runT_crowd_go (P:=P) (sl:=sl) (i:=i) hx (hgo (w.at d) hL);rw[H.vP d hg x g' hsz]at hrun;have⟨r1,r2,r3,r4⟩:=qyr (i:=i) (fn:=x.frame.fn) (pos:=x.frame.place) hes (qlg hL);refine⟨_,_,upd q i m,hrun,build _ m _ r1 ?_ (H.zC.by hi (λy=>by rw[y.2]at hT;cases hT) r1 (λop hop y hy=>⟨hst _ (r2 op hop y hy).1,(r2 op hop y hy).2⟩) r3),less m (by omega),rest g',λ_ _ _ _=>⟨g',own g',hw'.running⟩⟩;rw[hT,Deaf_own,r4];exact⟨h0,.inr hw'⟩
end
def vc(P:Program)(Post:Value->World->Prop)(Sh:Nat->Prop)(Fz:Loc->Prop)(T:Nat->qA)(n h dd:Nat)(g:Goroutine)(w:World):Prop:=
 ∀gs t q,qV P Sh Fz T n h dd g w gs t q->yx P Post gs w t
def qo5(Sh:Nat->Prop)(Fz:Loc->Prop)(B:Nat)(e:Event):Prop:=
 (∀x,(MemAct.ofEvent e).touch?=some x->(qle Sh x.loc->x.kind≠.plain)/\(x.write=true->¬Fz x.loc))/\qaO B (MemAct.ofEvent e)
structure vZ(Sh:Nat->Prop)(Fz:Loc->Prop)(T:Nat->qA)(n h:Nat)(w w':World)(es:Array Event):Prop where
 fact:∀i s,i≠h->i<n->T i=.seat s->holds s.L w'/\w'.heap[s.c]?=w.heap[s.c]?
 evs:∀e,e∈es->qo5 Sh Fz w'.heap.size e
 size:w.heap.size<=w'.heap.size
section
variable {P:Program}{Post:Value->World->Prop}{Sh:Nat->Prop}{Fz:Loc->Prop}{T:Nat->qA}{n h dd:Nat}{g:Goroutine}{w:World}{gs:Array Goroutine}{t:Trace}{q:Nat->Nat}
theorem zz.events{St:Nat->Loc->Prop}{Lf:Nat->Prop}{B:Nat}(H:zz Sh Fz St Lf h B t)(hLh:¬Lf h){es:Array Event}{fn:FuncId}{pos:String}(he:∀e,e∈es->qo5 Sh Fz B e):zz Sh Fz St Lf h B (t++MemOp.ofEvents h fn pos es):=
 H.own hLh (λop hop=>by obtain⟨e,_,rfl⟩:=Go.Conc.mem_ofEvents hop;rfl) (λop hop x hx=>by obtain⟨e,hee,rfl⟩:=Go.Conc.mem_ofEvents hop;exact(he e hee).1 x hx) (λop hop=>by obtain⟨e,hee,rfl⟩:=Go.Conc.mem_ofEvents hop;exact(he e hee).2)
theorem qdf{i:Nat}{fn:FuncId}{pos:String}{es:Array Event}:∀op∈MemOp.ofEvents i fn pos es,op.g=i:=λop hop=>by obtain⟨e,_,rfl⟩:=Go.Conc.mem_ofEvents hop;rfl
theorem qV.stepped(H:qV P Sh Fz T n h dd g w gs t q){g':Goroutine}{w':World}{es:Array Event}{fn:FuncId}{pos:String}(ho:vZ Sh Fz T n h w w' es) :
   qV P Sh Fz T n h (deafBehind dd es) g' w' (gs.setIfInBounds h g') (t++MemOp.ofEvents h fn pos es) q:=by
 have hsz:h<gs.size:=(Array.getElem?_eq_some_iff.1 H.here).1;refine⟨by simp[H.size],by rw[qb5 _ _ _ _ hsz,if_pos rfl],λj y hj hy=>?_,λi s hi hin hT=>?_,H.apart,(H.zC.mono ho.size).events (λy=>y.1 rfl) ho.evs,by rw[Deaf_own,H.deaf],λj hj=>?_⟩
 . rw[qb5 _ _ _ _ hsz,if_neg (λe=>hj e.symm)]at hy;rw[Deaf_other t (λe=>hj e.symm) _ qdf];exact H.jW j y hj hy
 . obtain⟨h1,h2⟩:=ho.fact i s hi hin hT;obtain⟨_,k,hc⟩:=H.fact i s hi hin hT;exact⟨h1,k,h2.trans hc⟩
 . have:h<n:=by rw[<-H.size];exact hsz
   rw[Deaf_other t (by omega) _ qdf];exact H.above j hj
theorem qV.again'(H:qV P Sh Fz T n h dd g w gs t q){w':World}(hc:∀i s,i≠h->i<n->T i=.seat s->w'.heap[s.c]?=w.heap[s.c]?){i:Nat}{x:Goroutine}(hi:i≠h)(hx:gs[i]?=some x):x.again w'=x:=by
 have hs:=H.jW i x hi hx;have hlt:=H.lt hx;cases hT:T i with
 |left=>rw[hT]at hs;exact again_running _ hs.2.status
 |seat s=>
  rw[hT]at hs;rcases hs.2 with ⟨_,rfl⟩|hw
  . obtain⟨_,k,hk⟩:=H.fact i s hi hlt hT;exact again_parked_open (k:=rcase s.c s.z) (c:=s.c) (s:=k) (r:=k) (tm:=false) rfl ((hc i s hi hlt hT).trans hk)
  . exact again_running _ (.inl hw.running)
theorem qV.xY(H:qV P Sh Fz T n h dd g w gs t q){w':World}(hc:∀i s,i≠h->i<n->T i=.seat s->w'.heap[s.c]?=w.heap[s.c]?)(g':Goroutine):(gs.map (Go.Conc.woken P g g' w')).setIfInBounds h g'=gs.setIfInBounds h g':=by
 have hsz:h<gs.size:=(Array.getElem?_eq_some_iff.1 H.here).1;apply Array.ext_getElem?;intro j;rw[qb5 _ _ _ _ (by simpa using hsz),qb5 _ _ _ _ hsz];split
 . rfl
 . rename_i hj;rw[Array.getElem?_map];cases hy:gs[j]? with
   |none=>rfl
   |some y=>
    have:Go.Conc.woken P g g' w' y=y:=by
     unfold Go.Conc.woken;split
     . exact H.again' hc (λe=>hj e.symm) hy
     . rfl
    simp[this]
theorem vZ.chan{w':World}{es:Array Event}(ho:vZ Sh Fz T n h w w' es):∀i s,i≠h->i<n->T i=.seat s->w'.heap[s.c]?=w.heap[s.c]?:=λi s hi hn hT=>(ho.fact i s hi hn hT).2
theorem quu(hs:g.status=.running)(step:∀d gs t q,qV P Sh Fz T n h dd g (w.at d) gs t q->∀sl,
     (∃gs' w' sl' ops,runT P (crowd gs (w.at d) sl) h=(.next (crowd gs' w' sl'),ops)/\yx P Post gs' w' (t++ops))∨∃o w' ops,runT P (crowd gs (w.at d) sl) h=(.ended o w',ops)/\∀w₀ sl₀,Good P Post (crowd gs w₀ sl₀) o w' (t++ops)) :
 vc P Post Sh Fz T n h dd g w:=by
 have key:∀m d gs t q,sumTo n q=m->qV P Sh Fz T n h dd g (w.at d) gs t q->yx P Post gs (w.at d) t:=by
  intro m
  induction m using Nat.strongRecOn with
  |_ m ih=>
   intro d gs t q hm H;refine qjj (H.awake (λtm e=>by rw[hs]at e;cases e)) ⟨h,g,H.here,hs⟩ (λi x d' sl hx hr=>?_);by_cases hi:i=h
   . subst hi;rw[H.here]at hx;cases hx;rcases step d' gs t q (H.at d') sl with h1|⟨o,w',ops,h1,h2⟩
     . exact .inl h1
     . exact .inr ⟨o,w',ops,h1,λsl₀=>h2 _ sl₀⟩
   . left;obtain⟨gs',ops,q',h1,h2,h3,_⟩:=H.xW hi hx hr d' sl (again_running _ (.inl hs)) (λs _ _ _=>offersAt_of_not_blocked (by rw[hs];simp) _ _);exact⟨gs',_,sl,ops,h1,ih _ (by omega) d' gs' _ q' rfl h2⟩
 intro gs t q H;have:=key _ w.drawn gs t q rfl (H.at w.drawn);exact this
theorem qys(hs:g.status=.running)(step:∀d,∃g' w' es,stepG P (h==0) g (w.at d)=.go g' w' es/\vZ Sh Fz T n h (w.at d) w' es/\vc P Post Sh Fz T n h (deafBehind dd es) g' w'):vc P Post Sh Fz T n h dd g w:=by
 refine quu hs (λd gs t q H sl=>?_);obtain⟨g',w',es,h1,h2,h3⟩:=step d;have hrun:=runT_crowd_go (P:=P) (sl:=sl) H.here h1;rw[H.xY h2.chan g']at hrun;exact .inl ⟨_,w',sl,_,hrun,h3 _ _ _ (H.stepped h2)⟩
theorem qjW(hs:g.status=.running)(hl:∀i,i<n->i≠0->T i=.left)(hout:∀i,n<=i->T i=.left)
   (step:∀d,∃v w' es,stepG P true g (w.at d)=.ended (.done v) w' es/\(∀e,e∈es->qo5 Sh Fz w.heap.size e)/\Post v w'):vc P Post Sh Fz T n 0 0 g w:=by
 refine quu hs (λd gs t q H sl=>?_);obtain⟨v,w',es,h1,h2,h3⟩:=step d;refine .inr ⟨.done v,w',_,runT_many_ended H.here h1,λw₀ sl₀=>?_⟩;have hh:=H.zC.events (λy=>y.1 rfl) (fn:=g.frame.fn) (pos:=g.frame.place) h2;generalize hu:MemOp.ofEvents 0 g.frame.fn g.frame.place es=u at hh;have hg:∀op∈u,op.g=0:=by rw[<-hu];exact qdf
 refine⟨v,rfl,h3,hh.clean,?_,⟨?_,rfl⟩,?_⟩
 . intro i k hgi hk hc;have hlt:k<n∨n<=k:=Nat.lt_or_ge k n;have hL:LfT T 0 k:=⟨hk,hlt.elim (λh1=>hl k h1 hk) (λh1=>hout k h1)⟩;obtain⟨p,z,hz,hzg,hb⟩:=hh.over i k hgi hL hc;refine⟨p,by simp[Trace.g?,hz,hzg],?_⟩;rcases hb with rfl|hb
   . exfalso;rw[show (t++u).g? i=some z.g from by simp[Trace.g?,hz]]at hgi;cases hgi;exact hk hzg
   . exact hb
 . intro x hx;obtain⟨i,hi⟩:=getElem?_of_mem hx;rw[getElem?_drop]at hi;have hxi:gs[1+i]?=some x:=by rw[<-Array.getElem?_toList];exact hi
   have hsx:=H.jW (1+i) x (by omega) hxi;rw[hl _ (H.lt hxi) (by omega)]at hsx;exact⟨_,hsx.2.leaves⟩
 . intro i x hxi hi0;have hsx:=H.jW i x hi0 hxi;rw[hl _ (H.lt hxi) hi0]at hsx;refine⟨q i,?_⟩;have e:(t++u).deaf i (t++u).size=Deaf t i:=Deaf_other t (λe=>hi0 e.symm) u hg;rw[e];exact hsx.2.hears _
theorem zz.grow{St St':Nat->Loc->Prop}{Lf Lf':Nat->Prop}{B c:Nat}{u:Trace}(H:zz Sh Fz St Lf h B t)(ho:∀op∈u,op.act.touch?=none)(hk:∀i,Knows t h i->Knows (t++u) c i)(hs:∀j,j≠h->j≠c->∀l,St' j l->St j l)
   (hf:∀j l,St' j l->Fz l/\¬qle Sh l/\l.isMemory=true) (hlf:∀j,Lf' j->Lf j):zz Sh Fz St' Lf' h B (t++u):=by
 have hm:=H.mute ho;refine⟨hm.clean,hm.known,λj hj i a ha hs' hw=>?_,hm.seen,hm.quiet,hf,λi j hg hL hc=>hm.over i j hg (hlf j hL) hc⟩;rcases qcc ha with ⟨_,ha'⟩|⟨_,op,hop,_,hxa⟩
 . by_cases hjc:j=c
   . subst hjc;rcases H.known i a ha' (hf j _ hs').2.2 with h1|⟨h1,_⟩|⟨_,h1,_⟩
     . exact hk i h1
     . exact absurd h1 (hf j _ hs').2.1
     . rw[h1]at hw;cases hw
   . exact(H.wrote j hj i a ha' (hs j hj hjc _ hs') hw).app u
 . rw[ho op hop]at hxa;cases hxa
theorem qxu{L:List (Addr×Value)}{l:Loc}(h:StL L l):l.isMemory=true:=by obtain⟨x,_,rfl⟩:=h;rfl
theorem qjX(hs:g.status=.running)(step:∀d,∃g' child w' es,stepG P (h==0) g (w.at d)=.spawn g' child w' es/\vZ Sh Fz T n h (w.at d) w' es/\deafBehind 0 es=0/\∃s m κ,holds s.L w'/\w'.heap[s.c]?=some (.chan 0 #[] false κ κ false) /\
     (∀i s',i≠h->i<n->T i=.seat s'->s'.c≠s.c)/\Way P false s m child/\(∀l,StL s.L l->Fz l/\¬qle Sh l)/\vc P Post Sh Fz (upd T n (.seat s)) (n+1) h 0 g' w'):vc P Post Sh Fz T n h 0 g w:=by
 refine quu hs (λd gs t q H sl=>?_);obtain⟨g',child,w',es,h1,h2,h3,s,m,κ,h4,h5,h6,h7,h8,h9⟩:=step d;have hsz:h<gs.size:=(Array.getElem?_eq_some_iff.1 H.here).1;have hhn:h<n:=by rw[<-H.size];exact hsz
 have hrun:=runT_crowd_spawn (P:=P) (sl:=sl) H.here h1;refine .inl ⟨_,w',sl,_,hrun,h9 _ _ (upd q n m) ?_⟩;have H1:=H.stepped (g':=g') (fn:=g.frame.fn) (pos:=g.frame.place) h2;rw[h3]at H1;generalize hu:MemOp.ofEvents h g.frame.fn g.frame.place es=u at H1;have hops:∀(a b:MemOp),t++(u.push a |>.push b)=(t++u)++#[a,b]:=λa b=>by apply Array.ext';simp
 rw[hops,H.size];generalize ha0:({g:=h,fn:=g.frame.fn,pos:=g.frame.place,act:=.go n}:MemOp)=a0;generalize ha1:({g:=n,fn:=child.frame.fn,pos:=g.frame.place,act:=.start}:MemOp)=a1;have e0:a0.g=h/\a0.act=.go n:=by subst ha0;exact⟨rfl,rfl⟩
 have e1:a1.g=n/\a1.act=.start:=by subst ha1;exact⟨rfl,rfl⟩
 have still:∀j,Deaf ((t++u)++#[a0,a1]) j=Deaf (t++u) j:=λj=>by
  have:((t++u)++#[a0,a1])=(t++u)++[a0,a1].toArray:=rfl;rw[this,Deaf_append];simp only[foldl_cons,foldl_nil,deafStep,e0.2,e1.2]
 have mt:∀op∈(#[a0,a1]:Trace),op.act.touch?=none:=λop hop=>by
  have:op=a0∨op=a1:=by simpa using hop
  rcases this with rfl|rfl
  . rw[e0.2];rfl
  . rw[e1.2];rfl
 refine⟨by simp[H.size],?_,λj y hj hy=>?_,λi s' hi hin hT=>?_,λi j s1 s2 hi hj hin hjn hT1 hT2 hcc=>?_,H1.zC.grow (c:=n) mt (λi hi=>qjV e0 e1 H1.deaf (H1.above n (Nat.le_refl _)) hi) (λj hj hjn l hl=>?_) (λj l hl=>?_) (λj hj=>⟨hj.1,?_⟩),by rw[still];exact H1.deaf,λj hj=>by rw[still];exact H1.above j (by omega)⟩
 . rw[Array.getElem?_push];rw[if_neg (by simp;omega)];rw[qb5 _ _ _ _ hsz,if_pos rfl]
 . rw[Array.getElem?_push]at hy;rw[still];split at hy
   . rename_i hjs;cases hy;have hjn:j=n:=by rw[hjs];simp[H.size]
     subst hjn;rw[upd_same,upd_same];exact⟨H1.above j (Nat.le_refl _),.inr (by rw[show (j==0)=false from by simp;omega];exact h7)⟩
   . have hlt:j < n:=by
      have:=(Array.getElem?_eq_some_iff.1 hy).1;rw[<-H.size];simpa using this
     rw[upd_ne T _ (by omega),upd_ne q _ (by omega)];exact H1.jW j y hj hy
 . by_cases vA:i=n
   . subst vA;rw[upd_same]at hT;cases hT;exact⟨h4,κ,h5⟩
   . rw[upd_ne T _ vA]at hT;exact H1.fact i s' hi (by omega) hT
 . by_cases hi':i=n
   . subst hi';rw[upd_same]at hT1;cases hT1;by_cases hj':j=i
     . exact hj'.symm
     . rw[upd_ne T _ hj']at hT2;exact absurd hcc.symm (h6 j s2 hj (by omega) hT2)
   . rw[upd_ne T _ hi']at hT1;by_cases hj':j=n
     . subst hj';rw[upd_same]at hT2;cases hT2;exact absurd hcc (h6 i s1 hi (by omega) hT1)
     . rw[upd_ne T _ hj']at hT2;exact H.apart i j s1 s2 hi hj (by omega) (by omega) hT1 hT2 hcc
 . obtain⟨k1,k2,s',k3,k4⟩:=hl;rw[upd_ne T _ hjn]at k3;exact⟨k1,by omega,s',k3,k4⟩
 . obtain⟨k1,k2,s',k3,k4⟩:=hl;by_cases hjn:j=n
   . subst hjn;rw[upd_same]at k3;cases k3;exact⟨(h8 l k4).1,(h8 l k4).2,qxu k4⟩
   . rw[upd_ne T _ hjn]at k3;exact H.zC.sub j l ⟨k1,by omega,s',k3,k4⟩
 . obtain⟨_,k2⟩:=hj;by_cases hjn:j=n
   . subst hjn;rw[upd_same]at k2;cases k2
   . rw[upd_ne T _ hjn]at k2;exact k2
end
section
variable {P:Program}{Post:Value->World->Prop}{Sh:Nat->Prop}{Fz:Loc->Prop}{T:Nat->qA}{n h dd:Nat}{g:Goroutine}{w:World}{gs:Array Goroutine}{t:Trace}{q:Nat->Nat}
theorem qh0(w:World){c r:Nat}(h:r≠c)(buf:Array Value)(cl:Bool)(a b:Nat):(w.setChan c 0 buf cl a b false).heap[r]?=w.heap[r]?:=by
 simp only[World.setChan];rw[Array.getElem?_setIfInBounds_ne (λe=>h e.symm)]
theorem qjk{L:List (Addr×Value)}{c:Nat}{κ:Nat}(hL:holds L w)(hc:w.heap[c]?=some (.chan 0 #[] false κ κ false))(buf:Array Value)(cl:Bool)(a b:Nat):holds L (w.setChan c 0 buf cl a b false):=by
 intro x hx;have h1:=hL x hx
 have hne:x.1.block≠c:=by
  intro e;unfold World.cell? at h1;rw[e,hc]at h1;cases h1
 unfold World.cell? at h1 |-;rw[qh0 w hne];exact h1
theorem qV.read(H:qV P Sh Fz T n h dd g w gs t q){k:Nat}{s:zW}(hk:k≠h)(hkn:k<n)(hT:T k=.seat s){es:Array Event}(hes:∀e,e∈es->qut s.L e)(fn:FuncId)(pos:String) :
   qV P Sh Fz T n h dd g w gs (t++MemOp.ofEvents k fn pos es) q:=by
 obtain⟨hL,_⟩:=H.fact k s hk hkn hT;have⟨r1,r2,r3,r4⟩:=qyr (i:=k) (fn:=fn) (pos:=pos) hes (qlg hL)
 have still:∀j,Deaf (t++MemOp.ofEvents k fn pos es) j=Deaf t j:=λj=>by
  by_cases e:k=j
  . subst e;rw[Deaf_own,r4]
  . exact Deaf_other t e _ r1
 exact⟨H.size,H.here,λi x hi hx=>by rw[still];exact H.jW i x hi hx,H.fact,H.apart,H.zC.by hk (λy=>by rw[y.2]at hT;cases hT) r1 (λop hop y hy=>⟨⟨hk,hkn,s,hT,(r2 op hop y hy).1⟩,(r2 op hop y hy).2⟩) r3,by rw[still];exact H.deaf,λj hj=>by rw[still];exact H.above j hj⟩
theorem qV.lists(H:qV P Sh Fz T n h dd g w gs t q){es:Array Event}(hes:∀e,e∈es->qo5 Sh Fz w.heap.size e)(hd:deafBehind dd es=dd)(fn:FuncId)(pos:String):qV P Sh Fz T n h dd g w gs (t++MemOp.ofEvents h fn pos es) q:=by
 have still:∀j,Deaf (t++MemOp.ofEvents h fn pos es) j=Deaf t j:=λj=>by
  by_cases e:h=j
  . subst e;rw[Deaf_own,H.deaf,hd]
  . exact Deaf_other t e _ qdf
 exact⟨H.size,H.here,λi x hi hx=>by rw[still];exact H.jW i x hi hx,H.fact,H.apart,H.zC.events (λy=>y.1 rfl) hes,by rw[still];exact H.deaf,λj hj=>by rw[still];exact H.above j hj⟩
theorem qV.met(H:qV P Sh Fz T n h 0 g w gs t q){k κ:Nat}{s sh:zW}(hk:k≠h)(hkn:k<n)(hT:T k=.seat s)(hc:w.heap[s.c]?=some (.chan 0 #[] false κ κ false))
   {gh gk:Goroutine} {mh:Nat} (qaP:Way P (h==0) sh mh gh) (hL:holds sh.L w) (hch:∃κ',w.heap[sh.c]?=some (.chan 0 #[] false κ' κ' false)) (hd:sh.c≠s.c) (hdo:∀i s',i≠h->i≠k->i<n->T i=.seat s'->s'.c≠sh.c) (hfz:∀l,StL sh.L l->Fz l/\¬qle Sh l)
   {gs':Array Goroutine} (hsz:gs'.size=n) (hgk:gs'[k]?=some gk) (hgh:gs'[h]?=some gh) (hgo:∀j,j≠h->j≠k->gs'[j]?=gs[j]?)
   {a0 a1 a2 a3:MemOp} (e0:a0.g=h/\a0.act=.send s.c κ) (e1:a1.g=k/\a1.act=.recv s.c κ 0) (e2:a2.g=h/\a2.act=.sendDone s.c κ) (e3:a3.g=k/\a3.act=.recvDone s.c κ) :
   qV P Sh Fz (upd T h (.seat sh)) n k 0 gk (w.setChan s.c 0 #[] false (κ+1) (κ+1) false) gs' (t++#[a0,a1,a2,a3]) (upd q h mh):=by
 have hhn:h<n:=H.lt H.here;obtain⟨xk,hxk⟩:∃x,gs[k]?=some x:=⟨_,Array.getElem?_eq_getElem (by rw[H.size];exact hkn)⟩
 have dk:Deaf t k=0:=by
  have:=H.jW k xk hk hxk;rw[hT]at this;exact this.1
 have still:∀j,Deaf (t++#[a0,a1,a2,a3]) j=Deaf t j:=λj=>by
  have:(t++#[a0,a1,a2,a3])=t++[a0,a1,a2,a3].toArray:=rfl;rw[this,Deaf_append];simp only[foldl_cons,foldl_nil,deafStep,e0.2,e1.2,e2.2,e3.2]
 have four:∀op∈(#[a0,a1,a2,a3]:Trace),op=a0∨op=a1∨op=a2∨op=a3:=λop hop=>by simpa using hop
 have mt:∀op∈(#[a0,a1,a2,a3]:Trace),op.act.touch?=none:=λop hop=>by
  rcases four op hop with rfl|rfl|rfl|rfl
  . rw[e0.2];rfl
  . rw[e1.2];rfl
  . rw[e2.2];rfl
  . rw[e3.2];rfl
 have hcs:∀r κ',r≠s.c->w.heap[r]?=some (.chan 0 #[] false κ' κ' false)->(w.setChan s.c 0 #[] false (κ+1) (κ+1) false).heap[r]?=some (.chan 0 #[] false κ' κ' false):=λr κ' hr h'=>by rw[qh0 w hr];exact h'
 have hm:=H.zC.mute mt;refine⟨hsz,hgk,λj y hj hy=>?_,λi s' hi hin hT'=>?_,λi j s1 s2 hi hj hin hjn hT1 hT2 hcc=>?_,?_,by rw[still];exact dk,λj hj=>by rw[still];exact H.above j hj⟩
 . rw[still];by_cases hjh:j=h
   . subst hjh;rw[hgh]at hy;cases hy;rw[upd_same,upd_same];exact⟨H.deaf,.inr qaP⟩
   . rw[hgo j hjh hj]at hy;rw[upd_ne T _ hjh,upd_ne q _ hjh];exact H.jW j y hjh hy
 . by_cases hih:i=h
   . subst hih;rw[upd_same]at hT';cases hT';obtain⟨κ',hκ⟩:=hch;exact⟨qjk hL hc _ _ _ _,κ',hcs _ _ hd hκ⟩
   . rw[upd_ne T _ hih]at hT';obtain⟨h1,κ',h2⟩:=H.fact i s' hih hin hT';refine⟨qjk h1 hc _ _ _ _,κ',hcs _ _ (λe=>hi ?_) h2⟩;exact H.apart i k s' s hih hk hin hkn hT' hT e
 . by_cases hih:i=h
   . subst hih;rw[upd_same]at hT1;cases hT1;by_cases hjh:j=i
     . exact hjh.symm
     . rw[upd_ne T _ hjh]at hT2;exact absurd hcc.symm (hdo j s2 hjh hj hjn hT2)
   . rw[upd_ne T _ hih]at hT1;by_cases hjh:j=h
     . subst hjh;rw[upd_same]at hT2;cases hT2;exact absurd hcc (hdo i s1 hih hi hin hT1)
     . rw[upd_ne T _ hjh]at hT2;exact H.apart i j s1 s2 hih hjh hin hjn hT1 hT2 hcc
 . have hsize:(w.setChan s.c 0 #[] false (κ+1) (κ+1) false).heap.size=w.heap.size:=by simp[World.setChan]
   rw[hsize]
   have sub':∀j l,StT (upd T h (.seat sh)) n k j l->Fz l/\¬qle Sh l/\l.isMemory=true:=by
    rintro j l ⟨k1,k2,s',k3,k4⟩;by_cases hjh:j=h
    . subst hjh;rw[upd_same]at k3;cases k3;exact⟨(hfz l k4).1,(hfz l k4).2,qxu k4⟩
    . rw[upd_ne T _ hjh]at k3;exact H.zC.sub j l ⟨hjh,k2,s',k3,k4⟩
   refine⟨hm.clean,λi a ha hmem=>?_,λj hj i a ha hs hw=>?_,hm.seen,hm.quiet,sub',λi j hg hL hc'=>?_⟩
   . rcases qcc ha with ⟨_,ha'⟩|⟨_,op,hop,_,hxa⟩
     . exact(H.zC.known i a ha' hmem).imp (qxt e0 ⟨κ,0,e1.2⟩ e2.2 e3 H.deaf dk) id
     . rw[mt op hop]at hxa;cases hxa
   . rcases qcc ha with ⟨_,ha'⟩|⟨_,op,hop,_,hxa⟩
     . by_cases hjh:j=h
       . subst hjh;rcases H.zC.known i a ha' (sub' j _ hs).2.2 with h1|⟨h1,_⟩|⟨_,h1,_⟩
         . exact h1.app _
         . exact absurd h1 (sub' j _ hs).2.1
         . rw[h1]at hw;cases hw
       . obtain⟨k1,k2,s',k3,k4⟩:=hs;rw[upd_ne T _ hjh]at k3;exact(H.zC.wrote j hjh i a ha' ⟨hjh,k2,s',k3,k4⟩ hw).app _
     . rw[mt op hop]at hxa;cases hxa
   . have hjh:j≠h:=fun e=>by
      have:=hL.2;rw[e,upd_same]at this;cases this
     have hL':LfT T h j:=⟨hjh,by have:=hL.2;rw[upd_ne T _ hjh]at this;exact this⟩;obtain⟨x,hx,hxm,hxh⟩:=hc';rcases qcc hx with ⟨hi,hx'⟩|⟨_,op,hop,_,hxa⟩
     . exact qxt e0 ⟨κ,0,e1.2⟩ e2.2 e3 H.deaf dk (H.zC.over i j (by rw[g?_old hi]at hg;exact hg) hL' ((counts_old hi).1 ⟨x,hx,hxm,hxh⟩))
     . rw[mt op hop]at hxa;cases hxa
theorem q0k(H:qV P Sh Fz T n h dd g w gs t q){j:Nat}{y:Goroutine}(hj:j≠h)(hy:gs[j]?=some y)(c:Nat):offersAt y c true=[]:=by
 have hsj:=H.jW j y hj hy;cases hTj:T j with
 |left=>rw[hTj]at hsj;exact offersAt_of_not_blocked (by rcases hsj.2.status with e|e<;>rw[e]<;>simp) _ _
 |seat s'=>
  rw[hTj]at hsj;rcases hsj.2 with ⟨_,rfl⟩|hw'
  . exact offersAt_parked_recv' _ _ _ _ _
  . exact offersAt_of_not_blocked (by rw[hw'.running];simp) _ _
theorem quv(H:qV P Sh Fz T n h dd g w gs t q){j:Nat}{y:Goroutine}(hj:j≠h)(hy:gs[j]?=some y){c:Nat}(hc:∀s,T j=.seat s->y=qhe s->s.c≠c):offersAt y c false=[]:=by
 have hsj:=H.jW j y hj hy;cases hTj:T j with
 |left=>rw[hTj]at hsj;exact offersAt_of_not_blocked (by rcases hsj.2.status with e|e<;>rw[e]<;>simp) _ _
 |seat s'=>
  rw[hTj]at hsj;rcases hsj.2 with ⟨_,rfl⟩|hw'
  . have:=hc s' hTj rfl;unfold qhe;rw[offersAt_parked_recv,if_neg this]
  . exact offersAt_of_not_blocked (by rw[hw'.running];simp) _ _
theorem q8d(hs:g.status=.running){k κ:Nat}{s sh:zW}(hk:k≠h)(hkn:k<n)(hT:T k=.seat s){v z:Value}(hc:w.heap[s.c]?=some (.chan 0 #[] false κ κ false))
   (step:∃es,(∀d,stepG P (h==0) g (w.at d)=.comm g #[scase s.c v z] true .send (w.at d) es)/\(∀e,e∈es->qo5 Sh Fz w.heap.size e)/\deafBehind 0 es=0)
   {mh:Nat} (qaP:Way P (h==0) sh mh (Go.Conc.served g undef)) (hL:holds sh.L w) (hch:∃κ',w.heap[sh.c]?=some (.chan 0 #[] false κ' κ' false)) (hd:sh.c≠s.c) (hdo:∀i s',i≠h->i≠k->i<n->T i=.seat s'->s'.c≠sh.c) (hfz:∀l,StL sh.L l->Fz l/\¬qle Sh l)
   (next:∀d,vc P Post Sh Fz (upd T h (.seat sh)) n k 0 (Go.Conc.served (G s.fr s.cs) (recvd s.ok v true)) ((w.at d).setChan s.c 0 #[] false (κ+1) (κ+1) false)):vc P Post Sh Fz T n h 0 g w:=by
 obtain⟨es,hst,hes,hdf⟩:=step
 have second:∀m d gs t q,sumTo n q=m->qV P Sh Fz T n h 0 (parked g #[scase s.c v z] .send) (w.at d) gs t q->(∃x,gs[k]?=some x/\x.status=.running)->yx P Post gs (w.at d) t:=by
  intro m
  induction m using Nat.strongRecOn with
  |_ m ih=>
   intro d gs t q hm H hkr;have hks:k<gs.size:=by rw[H.size];exact hkn
   obtain⟨xk,hxk,hxr⟩:=hkr;refine qjj (H.awake (λtm e=>by cases e)) ⟨k,xk,hxk,hxr⟩ (λi x d' sl hx hr=>.inl ?_);by_cases hi:i=h
   . subst hi;rw[H.here]at hx;cases hx;cases hr
   . by_cases hcomm:i=k/\x=G s.fr s.cs/\qlf P (i==0) s
     . obtain⟨rfl,rfl,esk,hstep,qjY⟩:=hcomm;obtain⟨hLk,_⟩:=H.fact i s hi hkn hT;have H':=H.at d'
       have hp:partners (gs.setIfInBounds i ph) s.c true=[(h,0)]:=by
        rw[partners_one (stand_get (i:=i) (λe=>hi e.symm) H.here) (λj y hj hy=>?_)]
        . rw[offersAt_parked_send,if_pos rfl];rfl
        . rcases getElem?_stand gs i j y hy with ⟨_,rfl⟩|⟨hji,hy'⟩
          . exact offersAt_ph _ _
          . exact q0k H hj hy' s.c
       have hrun:=crowd_recv_meets (P:=P) (sl:=sl) (gj:=g) (v:=v) (zj:=z) (shj:=.send) hx (hstep (w.at d') hLk) (show (w.at d').heap[s.c]?=some (.chan 0 #[] false κ κ false)from hc) (λe=>hi e.symm) H.here hp;rw[finishComm_send,finishComm_recv]at hrun;refine⟨_,_,sl,_,hrun,next d' _ _ (upd q h mh) ?_⟩;rw[<-Array.append_assoc];have Hr:=H'.read hi hkn hT qjY (G s.fr s.cs).frame.fn (G s.fr s.cs).frame.place;have hhs:h<gs.size:=(Array.getElem?_eq_some_iff.1 H.here).1
       exact Hr.met hi hkn hT hc qaP hL hch hd hdo hfz (by simp[H.size]) (by rw[qb5 _ _ _ _ (by simpa using hks),if_pos rfl]) (by rw[qb5 _ _ _ _ (by simpa using hks),if_neg hi,qb5 _ _ _ _ hhs,if_pos rfl])
        (λj hj hji=>by rw[qb5 _ _ _ _ (by simpa using hks),if_neg (λe=>hji e.symm),qb5 _ _ _ _ hhs,if_neg (λe=>hj e.symm)]) ⟨rfl,rfl⟩ ⟨rfl,rfl⟩ ⟨rfl,rfl⟩ ⟨rfl,rfl⟩
     . obtain⟨gs',ops,q',h1,h2,h3,h4,h5⟩:=H.xW hi hx hr d' sl (again_parked_open (k:=scase s.c v z) (c:=s.c) (s:=κ) (r:=κ) (tm:=false) rfl hc) (fun s' hT' hx' hc'=>by
        rw[offersAt_parked_send];refine if_neg (λe=>hcomm ?_);have hik:i=k:=H.apart i k s' s hi hk (H.lt hx) hkn hT' hT e.symm;subst hik;rw[hT]at hT';cases hT';exact⟨rfl,hx',hc'⟩)
       refine⟨gs',_,sl,ops,h1,ih _ (by omega) d' gs' _ q' rfl h2 ?_⟩;by_cases hik:i=k
       . subst hik;exact h5 s hT hr (λy=>hcomm ⟨rfl,y⟩)
       . rw[h4 k (λe=>hik e.symm)];exact⟨xk,hxk,hxr⟩
 refine quu hs (λd gs t q H sl=>.inl ?_);have hhs:h<gs.size:=(Array.getElem?_eq_some_iff.1 H.here).1;have hks:k<gs.size:=by rw[H.size];exact hkn
 obtain⟨xk,hxk⟩:∃x,gs[k]?=some x:=⟨_,Array.getElem?_eq_getElem hks⟩;have hsk:=H.jW k xk hk hxk;rw[hT]at hsk;have Hl:=H.lists hes hdf g.frame.fn g.frame.place;rcases hsk.2 with ⟨_,rfl⟩|hw
 ·
  have hp:partners (gs.setIfInBounds h ph) s.c false=[(k,0)]:=by
   rw[partners_one (stand_get (i:=h) hk hxk) (λj y hj hy=>?_)]
   . unfold qhe;rw[offersAt_parked_recv,if_pos rfl];rfl
   . rcases getElem?_stand gs h j y hy with ⟨_,rfl⟩|⟨hjh,hy'⟩
     . exact offersAt_ph _ _
     . exact quv H hjh hy' (λs' hT' _ e=>hj (H.apart j k s' s hjh hk (H.lt hy') hkn hT' hT e))
  have hrun:=crowd_send_meets (P:=P) (sl:=sl) (gj:=G s.fr s.cs) (zj:=s.z) (shj:=.recv s.ok) H.here (hst d) (show (w.at d).heap[s.c]?=some (.chan 0 #[] false κ κ false)from hc) hk hxk hp;rw[finishComm_send,finishComm_recv]at hrun;refine⟨_,_,sl,_,hrun,next d _ _ (upd q h mh) ?_⟩;rw[<-Array.append_assoc]
  exact Hl.met hk hkn hT hc qaP hL hch hd hdo hfz (by simp[H.size]) (by rw[qb5 _ _ _ _ (by simpa using hhs),if_neg (λe=>hk e.symm),qb5 _ _ _ _ hks,if_pos rfl]) (by rw[qb5 _ _ _ _ (by simpa using hhs),if_pos rfl])
   (λj hj hji=>by rw[qb5 _ _ _ _ (by simpa using hhs),if_neg (λe=>hj e.symm),qb5 _ _ _ _ hks,if_neg (λe=>hji e.symm)]) ⟨rfl,rfl⟩ ⟨rfl,rfl⟩ ⟨rfl,rfl⟩ ⟨rfl,rfl⟩
 ·
  have hp:partners (gs.setIfInBounds h ph) s.c false=[]:=partners_nil (λj y hy=>by
   rcases getElem?_stand gs h j y hy with ⟨_,rfl⟩|⟨hjh,hy'⟩
   . exact offersAt_ph _ _
   . refine quv H hjh hy' (λs' hT' hx' e=>?_);have hjk:j=k:=H.apart j k s' s hjh hk (H.lt hy') hkn hT' hT e;subst hjk;rw[hxk]at hy';cases hy';have:=hw.running;rw[hx']at this;cases this)
  have hrun:=crowd_waits (P:=P) (sl:=sl) H.here (hst d) (λcc hcc=>by
   have:cc=scase s.c v z:=by simpa using hcc
   subst this;exact ways_send_none (s:=κ) (r:=κ) (tm:=false) (show (w.at d).heap[s.c]?=some (.chan 0 #[] false κ κ false)from hc) (Nat.le_refl _) hp)
  refine⟨_,_,sl,_,hrun,second _ d _ _ q rfl ?_ ⟨xk,by rw[qb5 _ _ _ _ hhs,if_neg (λe=>hk e.symm)];exact hxk,hw.running⟩⟩;refine⟨by simp[H.size],by rw[qb5 _ _ _ _ hhs,if_pos rfl],λj y hj hy=>?_,Hl.fact,Hl.apart,Hl.zC,Hl.deaf,Hl.above⟩;rw[qb5 _ _ _ _ hhs,if_neg (λe=>hj e.symm)]at hy;exact Hl.jW j y hj hy
end
end
section
inductive Ok (A:Addr->Prop) (F:FuncId->Prop):Value->Prop
 |bool (b:Bool):Ok A F (.bool b)
 |int (k:IntKind) (n:Int):Ok A F (.int k n)
 |string (s:ByteArray):Ok A F (.string s)
 |pointer {a:Option Addr}:(∀x,a=some x->A x)->Ok A F (.pointer a)
 |slice {a:Option Addr} (n c:Nat):(∀x,a=some x->A x)->Ok A F (.slice a n c)
 |map {r:Option Nat}:(∀x,r=some x->A ⟨x,0,none⟩)->Ok A F (.map r)
 |chan {r:Option Nat}:(∀x,r=some x->A ⟨x,0,none⟩)->Ok A F (.chan r)
 |func {f:FuncId} {first captured:Array Value}:F f->(∀v,v∈first->Ok A F v)->(∀v,v∈captured->Ok A F v)->Ok A F (.func (.func f) first captured)
 |nilFunc:Ok A F .nilFunc
 |iface (t:TypeId) {v:Value}:Ok A F v->Ok A F (.iface t v)
 |nilIface:Ok A F .nilIface
 |agg {cs:Array Value}:(∀v,v∈cs->Ok A F v)->Ok A F (.agg cs)
 |tuple {cs:Array Value}:(∀v,v∈cs->Ok A F v)->Ok A F (.tuple cs)
def qgr:Nat->Value->Bool
 |0,_=>false
 |_+1,.bool _|_+1,.int _ _|_+1,.string _|_+1,.nilFunc|_+1,.nilIface=>true
 |_+1,.pointer a=>a.isNone
 |_+1,.slice a _ _=>a.isNone
 |_+1,.map r=>r.isNone
 |_+1,.chan r=>r.isNone
 |n+1,.iface _ v=>qgr n v
 |n+1,.agg cs=>cs.all (qgr n)
 |n+1,.tuple cs=>cs.all (qgr n)
 |_+1,.func _ _ _|_+1,.float _ _|_+1,.complex _ _ _=>false
section
variable {A:Addr->Prop}{F:FuncId->Prop}
theorem Ok.undef:Ok A F undef:=.tuple (λv h=>by simp at h)
theorem Ok.goInt(n:Int):Ok A F (goInt n):=.int _ _
theorem Ok.ptr{a:Addr}(h:A a):Ok A F (.pointer (some a)):=.pointer (λx e=>by cases e;exact h)
theorem Ok.nilPtr:Ok A F (.pointer none):=.pointer (λx e=>by cases e)
theorem Ok.jX{a:Addr}(h:Ok A F (.pointer (some a))):A a:=by cases h with|pointer h=>exact h _ rfl
theorem Ok.of_slice{a:Addr}{n c:Nat}(h:Ok A F (.slice (some a) n c)):A a:=by cases h with|slice _ _ h=>exact h _ rfl
theorem Ok.of_map{r:Nat}(h:Ok A F (.map (some r))):A ⟨r,0,none⟩:=by cases h with|map h=>exact h _ rfl
theorem Ok.zn{cs:Array Value}(h:Ok A F (.agg cs)):∀v,v∈cs->Ok A F v:=by cases h with|agg h=>exact h
theorem Ok.zR{cs:Array Value}(h:Ok A F (.tuple cs)):∀v,v∈cs->Ok A F v:=by cases h with|tuple h=>exact h
theorem Ok.zo{t:TypeId}{v:Value}(h:Ok A F (.iface t v)):Ok A F v:=by cases h with|iface _ h=>exact h
theorem Ok.cells{v:Value}(h:Ok A F v):∀u,u∈v.cells->Ok A F u:=by
 intro u hu;unfold Value.cells at hu;split at hu
 . exact h.zn u hu
 . rw[Array.mem_singleton]at hu;rw[hu];exact h
theorem Ok.mono{A':Addr->Prop}{F':FuncId->Prop}(hA:∀a,A a->A' a)(hF:∀f,F f->F' f){v:Value}(h:Ok A F v):Ok A' F' v:=by
 induction h with
 |bool b=>exact .bool b
 |int k n=>exact .int k n
 |string s=>exact .string s
 |pointer h=>exact .pointer (λx e=>hA _ (h x e))
 |slice n c h=>exact .slice n c (λx e=>hA _ (h x e))
 |map h=>exact .map (λx e=>hA _ (h x e))
 |chan h=>exact .chan (λx e=>hA _ (h x e))
 |func hf _ _ h1 h2=>exact .func (hF _ hf) h1 h2
 |nilFunc=>exact .nilFunc
 |iface t _ h=>exact .iface t h
 |nilIface=>exact .nilIface
 |agg _ h=>exact .agg h
 |tuple _ h=>exact .tuple h
theorem qu7:∀(n:Nat) (v:Value),qgr n v=true->Ok A F v:=by
 intro n
 induction n with
 |zero=>intro v h;simp[qgr]at h
 |succ n ih=>
  intro v h;cases v with
  |bool b=>exact .bool b
  |int k n=>exact .int k n
  |float k n=>simp[qgr]at h
  |complex k a b=>simp[qgr]at h
  |string s=>exact .string s
  |pointer a=>cases a with
   |none=>exact .nilPtr
   |some a=>simp[qgr]at h
  |slice a n c=>cases a with
   |none=>exact .slice _ _ (λx e=>by cases e)
   |some a=>simp[qgr]at h
  |map r=>cases r with
   |none=>exact .map (λx e=>by cases e)
   |some a=>simp[qgr]at h
  |chan r=>cases r with
   |none=>exact .chan (λx e=>by cases e)
   |some a=>simp[qgr]at h
  |func fn a b=>simp[qgr]at h
  |nilFunc=>exact .nilFunc
  |iface t v=>exact .iface t (ih v (by simpa[qgr]using h))
  |nilIface=>exact .nilIface
  |agg cs=>
   refine .agg (λv hv=>ih v ?_);simp only[qgr]at h;obtain⟨i,hi,rfl⟩:=Array.mem_iff_getElem.1 hv;exact Array.all_eq_true.1 h i hi
  |tuple cs=>
   refine .tuple (λv hv=>ih v ?_);simp only[qgr]at h;obtain⟨i,hi,rfl⟩:=Array.mem_iff_getElem.1 hv;exact Array.all_eq_true.1 h i hi
end
def q01(A:Addr->Prop)(F:FuncId->Prop):Obj->Prop
 | .cells c _ fr=>fr=(0,0)/\∀v,v∈c->Ok A F v
 | .map es _=>∀e,e∈es->Ok A F e.key/\Ok A F e.val
 | .mapIter m _ _ _=>∀x,m=some x->A ⟨x,0,none⟩
 | .stringIter _ _=>True
 | .number a _=>∃b:Addr,A b/\b.block=a.block
 | .chan _ _ _ _ _ _=>True
 |_=>False
structure Pen where
 P:Program
 A:Addr->Prop
 F:FuncId->Prop
 N:Nat
 fresh:∀a:Addr,N<=a.block->A a
 up:∀a b:Addr,A a->b.block=a.block->a.off<=b.off->A b
 Pt:Nat->Prop
 Z:Nat->Prop
 Ch:Nat->Prop
 old:∀r,Pt r∨Ch r->r<N
 zp:∀r,Z r->Pt r
 G:Nat
 K:Nat
 X:FuncId->Nat->Prop:=λ_ _=>False
def Pen.B(C:Pen)(r:Nat):Prop:=∃a:Addr,C.A a/\a.block=r
theorem Pen.B.of{C:Pen}{a:Addr}(h:C.A a):C.B a.block:=⟨a,h,rfl⟩
theorem Pen.B.obj{C:Pen}{r:Nat}(h:C.A ⟨r,0,none⟩):C.B r:=⟨_,h,rfl⟩
theorem Pen.qgP{C:Pen}{r:Nat}(h:¬C.Pt r):¬C.Z r:=λhz=>h (C.zp r hz)
def qgQ(C:Pen)(r:Nat)(o:Obj):Prop:=q01 C.A C.F o∨(r=C.G/\∃e fr,o=.cells #[] e fr)
def qjZ(C:Pen)(r:Nat)(c' c:Array Value)(fr:Nat×Nat):Prop:=
 c'.size<=c.size/\(C.Z r->c'=#[])/\(∀i v,c'[i]?=some v->c[i]?=some v/\(C.A ⟨r,i,none⟩->Ok C.A C.F v/\¬(fr.1<=i/\i<fr.2)))/\(fr=(0,0)∨(r=C.G/\0<c.size))/\(r=C.G->c'.size<=C.K)
structure Rel(C:Pen)(w u:World):Prop where
 size:w.heap.size=u.heap.size
 os:w.os=u.os
 room:C.N<=w.heap.size
 part:∀r,C.Pt r->∃c' c e fr,u.heap[r]?=some (.cells c' e)/\w.heap[r]?=some (.cells c e fr)/\qjZ C r c' c fr
 same:∀r,C.B r->¬C.Pt r->w.heap[r]?=u.heap[r]?
 cln:∀r o,C.B r->¬C.Pt r->u.heap[r]?=some o->qgQ C r o
 chn:∀r,C.Ch r->∃k b cl m n t,u.heap[r]?=some (.chan k b cl m n t)
 drawn:w.drawn=u.drawn
def yR(C:Pen)(n:Nat)(e:Event):Prop:=
 match e.loc with
 | .cell a=>e.sync=false/\(C.B a.block/\¬C.Z a.block)/\a.block<n
 | .obj r=>(e.sync=false∨e.write=false)/\(C.B r/\¬C.Z r)/\r<n
 | .mark (.extern _) | .mark .noRoom | .output=>True
 |_=>False
theorem yR.mono{C:Pen}{n m:Nat}{e:Event}(h:yR C n e)(hm:n<=m):yR C m e:=by
 unfold yR at *;split at h<;>first|exact⟨h.1,h.2.1,by omega⟩|trivial|exact h.elim
def Beyond(C:Pen)(w w':World):Prop:=
 C.Pt C.G->∀c e fr,w.heap[C.G]?=some (.cells c e fr)->∃c',w'.heap[C.G]?=some (.cells c' e fr)/\c'.size=c.size/\∀i,C.K<=i->c'[i]?=c[i]?
theorem Beyond.of{C:Pen}{w w':World}(h:w'.heap[C.G]?=w.heap[C.G]?):Beyond C w w':=λ_ c _ _ hc=>⟨c,h.trans hc,rfl,λ_ _=>rfl⟩
theorem Beyond.trans{C:Pen}{a b c:World}(h:Beyond C a b)(k:Beyond C b c):Beyond C a c:=λhp x e fr hx=>by
 obtain⟨y,hy,h1,h2⟩:=h hp x e fr hx;obtain⟨z,hz,h3,h4⟩:=k hp y e fr hy;exact⟨z,hz,h3.trans h1,λi hi=>(h4 i hi).trans (h2 i hi)⟩
structure Kept(C:Pen)(w w':World)(es:Array Event):Prop where
 block:∀r,(¬C.B r∨C.Z r∨C.Ch r)->w'.heap[r]?=w.heap[r]?
 size:w.heap.size<=w'.heap.size
 os:w'.os=w.os
 output:w'.output=w.output
 tape:w'.tape=w.tape
 drawn:w.drawn<=w'.drawn
 evs:∀e,e∈es->yR C w'.heap.size e
 tail:Beyond C w w'
theorem Kept.refl(C:Pen)(w:World):Kept C w w #[]:=⟨λ_ _=>rfl,Nat.le_refl _,rfl,rfl,rfl,Nat.le_refl _,λe h=>by simp at h,.of rfl⟩
theorem Kept.trans{C:Pen}{a b c:World}{es fs:Array Event}(h:Kept C a b es)(k:Kept C b c fs):Kept C a c (es++fs):=
 ⟨λr hr=>(k.block r hr).trans (h.block r hr),Nat.le_trans h.size k.size,k.os.trans h.os,k.output.trans h.output,k.tape.trans h.tape,Nat.le_trans h.drawn k.drawn,λe he=>by
  rcases Array.mem_append.1 he with h1|h1
  . exact(h.evs e h1).mono k.size
  . exact k.evs e h1,h.tail.trans k.tail⟩
def Fatal:Halt->Prop
 | .stuck _=>True
 | .unsupported (.initOrder _)=>False
 | .unsupported _=>True
 |_=>False
def Out(C:Pen){α:Type}(Q:α->Prop)(w:World)(es:Array Event)(s:Sem α):Result α->Prop
 | .ok a u'=>∃w' new,s.runT C.P w es=(.ok a w',es++new)/\Rel C w' u'/\Kept C w w' new/\Q a
 | .halt (.panic v) u'=>∃w' new,s.runT C.P w es=(.halt (.panic v) w',es++new)/\Rel C w' u'/\Kept C w w' new/\Ok C.A C.F v
 | .halt h _=>Fatal h
def q6p{α:Type}:Result α->World
 | .ok _ w=>w
 | .halt _ w=>w
def Same(w u:World)(i j:Nat):Prop:=∀k q,i<=k->k<j->w.tape k q=u.tape k q
def qd(C:Pen){α:Type}(s:Sem α)(Q:α->Prop):Prop:=∀w u es,Rel C w u->Same w u u.drawn (q6p (s.run C.P u)).drawn->Out C Q w es s (s.run C.P u)
theorem q42{α:Type}:∀(a:Ask α) (w:World),(w.ask a).2.tape=w.tape/\w.drawn<=(w.ask a).2.drawn:=by
 intro a
 induction a with
 |done a=>intro w;exact⟨rfl,Nat.le_refl _⟩
 |ask what range k ih=>
  intro w;simp only[World.ask];split
  . exact ih _ _
  . have:=ih ((Question.extern what range).cut (w.tape w.drawn (.extern what range))) {w with drawn:=w.drawn+1};exact⟨this.1,Nat.le_trans (Nat.le_succ _) this.2⟩
theorem q43(w:World)(c:Sys):(w.sys c).2.tape=w.tape/\w.drawn<=(w.sys c).2.drawn:=by
 have:=q42 (Kernel.perform c w.os) w;unfold World.sys;generalize w.ask (Kernel.perform c w.os)=x at this |-;obtain⟨⟨r,os⟩,w'⟩:=x;cases r<;>first|exact this|exact⟨rfl,Nat.le_refl _⟩
theorem qpi{p:Program}{w w':World}{a:Addr}{v:Value}{b:Bool}{l:List Addr}(h:w.farStore p a v b=.ok (w',l)):w'.tape=w.tape/\w'.drawn=w.drawn:=by
 unfold World.farStore at h;split at h
 . split at h
   . rename_i r hr;simp only[Except.ok.injEq]at h;subst h;unfold World.viewStore at hr;simp only[bind,Except.bind,pure,Except.pure]at hr
     repeat' split at hr
     all_goals first
      |(cases hr;done)
      |(cases hr;exact⟨rfl,rfl⟩)
   . cases h
 . cases h
theorem qme{α:Type}(p:Program):∀(s:Sem α) (w:World),(q6p (s.run p w)).tape=w.tape/\w.drawn<=(q6p (s.run p w)).drawn:=by
 intro s
 induction s with
 |pure a=>intro w;exact⟨rfl,Nat.le_refl _⟩
 |load m a k ih=>
  intro w;simp only[Sem.run];split
  . exact ih _ _
  . split
    . exact ih _ _
    . exact⟨rfl,Nat.le_refl _⟩
 |store m a v k ih=>
  intro w
  have key:(q6p (match w.cell? a with
      |some _=>if w.frozen? a then .halt (.unsupported (.unsafePointer "a write to bytes that a string shares")) w else k.run p (w.setCell a v)
      |none=>match w.farStore p a v (m == .atomic)with
       | .ok (w,_)=>k.run p w
       | .error h=>.halt h w)).tape=w.tape/\w.drawn<=(q6p (match w.cell? a with
      |some _=>if w.frozen? a then .halt (.unsupported (.unsafePointer "a write to bytes that a string shares")) w else k.run p (w.setCell a v)
      |none=>match w.farStore p a v (m == .atomic)with
       | .ok (w,_)=>k.run p w
       | .error h=>.halt h w)).drawn:=by
   split
   . split
     . exact⟨rfl,Nat.le_refl _⟩
     . exact ih (w.setCell a v)
   . split
     . rename_i w2 _ h;have h1:=qpi h;have h2:=ih w2;exact⟨h2.1.trans h1.1,by rw[<-h1.2];exact h2.2⟩
     . exact⟨rfl,Nat.le_refl _⟩
  cases v<;>first|exact key|exact⟨rfl,Nat.le_refl _⟩
 |new o k ih=>intro w;exact ih _ _
 |shape r k ih=>intro w;exact ih _ _
 |freeze a n k ih=>
  intro w;have h1:(w.freeze a n).tape=w.tape/\(w.freeze a n).drawn=w.drawn:=by unfold World.freeze;split<;>exact⟨rfl,rfl⟩
  have h2:=ih (w.freeze a n);exact⟨h2.1.trans h1.1,by rw[<-h1.2];exact h2.2⟩
 |frozen a k ih=>intro w;exact ih _ _
 |getObj r k ih=>
  intro w;simp only[Sem.run];split
  . exact⟨rfl,Nat.le_refl _⟩
  . exact ih _ _
  . exact⟨rfl,Nat.le_refl _⟩
 |setObj r o k ih=>
  intro w;simp only[Sem.run];split
  . exact⟨rfl,Nat.le_refl _⟩
  . exact ih {w with heap:=w.heap.setIfInBounds r o}
  . exact⟨rfl,Nat.le_refl _⟩
 |choose q k ih=>
  intro w;simp only[Sem.run];split
  . exact ih _ _
  . have:=ih (q.cut (w.tape w.drawn q)) {w with drawn:=w.drawn+1};exact⟨this.1,Nat.le_trans (Nat.le_succ _) this.2⟩
 |sys c k ih=>
  intro w;have h1:=q43 w c;have h2:=ih (w.sys c).1 (w.sys c).2;exact⟨h2.1.trans h1.1,Nat.le_trans h1.2 h2.2⟩
 |program k ih=>intro w;exact ih _ _
 |mark m k ih=>intro w;exact ih _
 |halt h=>intro w;exact⟨rfl,Nat.le_refl _⟩
section
variable {C:Pen}{α β:Type}
theorem qac{a:α}{Q:α->Prop}(h:Q a):qd C (pure a) Q:=λw u es hr al=>⟨w,#[],by simp[-Sem.runT_eq];rfl,hr,Kept.refl C w,h⟩
theorem qae{why:String}{Q:α->Prop}:qd C (stuck why) Q:=λ_ _ _ _ _=>trivial
theorem qag{x:Unsupported}{Q:α->Prop}(h:∀g,x≠.initOrder g):qd C (unsupported x) Q:=λ_ _ _ _ _=>by
 show Fatal (.unsupported x);cases x<;>first|trivial|exact absurd rfl (h _)
theorem qdp{v:Value}{Q:α->Prop}(h:Ok C.A C.F v):qd C (goPanic v) Q:=λw u es hr al=>⟨w,#[],by simp[goPanic,Sem.runT,-Sem.runT_eq],hr,Kept.refl C w,h⟩
theorem qab{s:Sem α}{f:α->Sem β}{Q:α->Prop}{R:β->Prop}(h:qd C s Q)(k:∀a,Q a->qd C (f a) R):qd C (s>>=f) R:=by
 intro w u es hr al;have eE:(s>>=f).run C.P u=_:=Sem.run_bind' C.P s f u
 have al1:Same w u u.drawn (q6p (s.run C.P u)).drawn:=λk q h1 h2=>al k q h1 (by
  rw[eE];cases hs:s.run C.P u with
  |ok a u1=>
   rw[hs]at h2;simp only[Result.andThen_ok];exact Nat.lt_of_lt_of_le h2 (qme C.P (f a) u1).2
  |halt x u1=>rw[hs]at h2;exact h2)
 have h1:=h w u es hr al1;have eT:(s>>=f).runT C.P w es=_:=Sem.runT_bind' C.P s f w es;have eU:(s>>=f).run C.P u=_:=Sem.run_bind' C.P s f u;rw[eU];cases hs:s.run C.P u with
 |ok a u1=>
  rw[hs]at h1;obtain⟨w1,new,e1,r1,k1,q⟩:=h1;have t1:=qme C.P s u;rw[hs]at t1
  have h2:=k a q w1 u1 (es++new) r1 (λi q' i1 i2=>by
   have t1':u1.tape=u.tape:=t1.1;rw[k1.tape,t1'];refine al i q' (Nat.le_trans t1.2 i1) ?_;rw[eE,hs];exact i2)
  simp only[Result.andThen_ok];rw[e1]at eT;cases hf:(f a).run C.P u1 with
  |ok b u2=>
   rw[hf]at h2;obtain⟨w2,qeC,e2,r2,k2,q2⟩:=h2;exact⟨w2,new++qeC,by rw[eT];simp only[e2,Array.append_assoc],r2,k1.trans k2,q2⟩
  |halt x u2=>
   rw[hf]at h2;cases x with
   |panic v=>
    obtain⟨w2,qeC,e2,r2,k2,q2⟩:=h2;exact⟨w2,new++qeC,by rw[eT];simp only[e2,Array.append_assoc],r2,k1.trans k2,q2⟩
   |_=>exact h2
 |halt x u1=>
  rw[hs]at h1;simp only[Result.andThen_halt];cases x with
  |panic v=>
   obtain⟨w1,new,e1,r1,k1,q⟩:=h1;exact⟨w1,new,by rw[eT,e1],r1,k1,q⟩
  |_=>exact h1
theorem qaj{c:Prop}[Decidable c]{s t:Sem α}{Q:α->Prop}(h1:c->qd C s Q)(h2:¬c->qd C t Q):qd C (if c then s else t) Q:=by
 split
 . exact h1 ‹_›
 . exact h2 ‹_›
theorem qu8{s:Sem α}{f:α->β}{Q:α->Prop}{R:β->Prop}(h:qd C s Q)(k:∀a,Q a->R (f a)):qd C (Functor.map f s) R:=by
 rw[<-bind_pure_comp];exact qab h (λa q=>qac (k a q))
theorem Rel.lt{w u:World}(h:Rel C w u){r:Nat}{o:Obj}(ho:u.heap[r]?=some o):r<w.heap.size:=by rw[h.size];exact(Array.getElem?_eq_some_iff.1 ho).1
theorem Rel.cell{w u:World}(h:Rel C w u){a:Addr}(ha:C.A a){v:Value}(hv:u.cell? a=some v):w.cell? a=some v/\Ok C.A C.F v/\a.block<w.heap.size/\¬C.Z a.block/\u.frozen? a=false/\w.frozen? a=false:=by
 unfold World.cell? at hv;split at hv
 . rename_i c e fr hb;by_cases hs:a.spot.isSome=true
   . simp[hs]at hv
   . simp only[hs,if_false,false_eq_true]at hv;by_cases hp:C.Pt a.block
     . obtain⟨c',c2,e2,fr2,h1,h2,h3,h4,h5,h6⟩:=h.part _ hp;rw[hb]at h1;cases h1;obtain⟨k1,k2⟩:=h5 a.off v hv;obtain⟨k2,k3⟩:=k2 (C.up a _ ha rfl (Nat.le_refl _));refine⟨?_,k2,h.lt hb,λhz=>?_,?_,?_⟩
       . unfold World.cell?;rw[h2];simp only[hs,if_false,false_eq_true];exact k1
       . rw[h4 hz]at hv;simp at hv
       . unfold World.frozen?;rw[hb];simp
       . unfold World.frozen?;rw[h2];obtain⟨lo,hi⟩:=fr2;simp only[and_eq_false_iff,decide_eq_false_iff_not];by_cases hl:lo<=a.off
         . exact .inr (λh8=>k3 ⟨hl,h8⟩)
         . exact .inl hl
     . have hB:C.B a.block:=.of ha
       have hc:q01 C.A C.F (.cells c e fr):=(h.cln _ _ hB hp hb).resolve_right (λk=>by
        obtain⟨_,_,_,k⟩:=k;cases k;simp at hv)
       have hsame:=h.same _ hB hp;have hfr:=hc.1;subst hfr;refine⟨?_,hc.2 v (Array.mem_of_getElem? hv),h.lt hb,Pen.qgP hp,?_,?_⟩
       . unfold World.cell?;rw[hsame,hb];simp only[hs,if_false,false_eq_true];exact hv
       . unfold World.frozen?;rw[hb];simp
       . unfold World.frozen?;rw[hsame,hb];simp
 . cases hv
theorem Rel.zu{w u:World}(h:Rel C w u){r:Nat}(hA:C.B r)(hc:r≠C.G):∀off s,w.frozen? ⟨r,off,s⟩=false:=by
 by_cases hp:C.Pt r
 . obtain⟨c',c,e,fr,h1,h2,_,_,_,h6⟩:=h.part _ hp;have:=h6.1.resolve_right (λk=>hc k.1);subst this;exact λoff s=>by unfold World.frozen?;rw[h2];simp
 . have hs:=h.same _ hA hp;cases hb:u.heap[r]? with
   |none=>exact λoff s=>by unfold World.frozen?;rw[hs,hb]
   |some o=>
    have hcl:=(h.cln _ _ hA hp hb).resolve_right (λk=>hc k.1);cases o with
    |cells c e fr=>have:=hcl.1;subst this;exact λoff s=>by unfold World.frozen?;rw[hs,hb];simp
    |_=>exact λoff s=>by unfold World.frozen?;rw[hs,hb]
theorem Rel.vl{w u:World}(h:Rel C w u){r:Nat}(hA:C.B r)(hc:r≠C.G):∀off s,u.frozen? ⟨r,off,s⟩=false:=by
 by_cases hp:C.Pt r
 . obtain⟨c',c,e,fr,h1,h2,_⟩:=h.part _ hp;exact λoff s=>by unfold World.frozen?;rw[h1];simp
 . have hs:=h.same _ hA hp;have hw:=h.zu hA hc
   exact λoff s=>by
    have:=hw off s;unfold World.frozen? at this |-;rw[hs]at this;exact this
theorem Rel.kG{w u:World}(h:Rel C w u)(hA:C.B C.G):((∀off s,u.frozen? ⟨C.G,off,s⟩=false)/\((∀off s,w.frozen? ⟨C.G,off,s⟩=false)∨∃t n,w.shape? C.G=some (t,n)/\0<n))∨w.heap[C.G]?=u.heap[C.G]?:=by
 by_cases hp:C.Pt C.G
 . obtain⟨c',c,e,fr,h1,h2,_,_,_,h7⟩:=h.part _ hp;refine .inl ⟨λoff s=>by unfold World.frozen?;rw[h1];simp,?_⟩;rcases h7.1 with h7|⟨_,h7⟩
   . subst h7;exact .inl (λoff s=>by unfold World.frozen?;rw[h2];simp)
   . exact .inr ⟨e,c.size,by unfold World.shape?;rw[h2],h7⟩
 . exact .inr (h.same _ hA hp)
theorem Rel.kind{w u:World}(h:Rel C w u){r:Nat}(hA:C.B r){o:Obj}(ho:u.heap[r]?=some o):(∃c e fr,o=.cells c e fr)∨(w.heap[r]?=some o/\q01 C.A C.F o/\¬C.Z r):=by
 by_cases hp:C.Pt r
 . obtain⟨c',c,e,fr,h1,_⟩:=h.part _ hp;rw[ho]at h1;exact .inl ⟨_,_,_,Option.some.inj h1⟩
 . rcases h.cln _ _ hA hp ho with hc|⟨_,e,fr,rfl⟩
   . exact .inr ⟨(h.same _ hA hp).trans ho,hc,Pen.qgP hp⟩
   . exact .inl ⟨_,_,_,rfl⟩
theorem Rel.shapes{w u:World}(h:Rel C w u){r:Nat}(hA:C.B r):(w.shape? r=none/\u.shape? r=none)∨∃t n m,u.shape? r=some (t,n)/\w.shape? r=some (t,m)/\n<=m:=by
 by_cases hp:C.Pt r
 . obtain⟨c',c,e,fr,h1,h2,h3,_⟩:=h.part _ hp;exact .inr ⟨e,c'.size,c.size,by unfold World.shape?;rw[h1],by unfold World.shape?;rw[h2],h3⟩
 . have hs:=h.same _ hA hp;cases hx:u.shape? r with
   |none=>exact .inl ⟨by unfold World.shape? at hx |-;rw[hs];exact hx,rfl⟩
   |some x=>exact .inr ⟨x.1,x.2,x.2,rfl,by unfold World.shape? at hx |-;rw[hs];exact hx,Nat.le_refl _⟩
theorem qsg{u:World}{a:Addr}{what:String}(h:∀c e,u.heap[a.block]?≠some (.pending c e)):Fatal (u.noCell a what):=by
 unfold World.noCell;split
 . rename_i hb;exact absurd hb (h _ _)
 . trivial
 . trivial
theorem qyw{u:World}{a:Addr}{b:Bool}(h:∀c e,u.heap[a.block]?≠some (.pending c e))(h':∀c e,u.heap[a.block]?≠some (.view c e)):∃x,u.farLoad C.P a b=.error x/\Fatal x:=by
 unfold World.farLoad;split
 . rename_i hb;exact absurd hb (h' _ _)
 . exact⟨_,rfl,qsg h⟩
theorem qw0{u:World}{a:Addr}{v:Value}{b:Bool}(h:∀c e,u.heap[a.block]?≠some (.pending c e))(h':∀c e,u.heap[a.block]?≠some (.view c e)):∃x,u.farStore C.P a v b=.error x/\Fatal x:=by
 unfold World.farStore;split
 . rename_i hb;exact absurd hb (h' _ _)
 . exact⟨_,rfl,qsg h⟩
theorem Rel.noPending{w u:World}(h:Rel C w u){r:Nat}(hA:C.B r):(∀c e,u.heap[r]?≠some (.pending c e))/\∀c e,u.heap[r]?≠some (.view c e):=
 ⟨λc e ho=>by
  rcases h.kind hA ho with ⟨_,_,_,h1⟩|⟨_,h1,_⟩
  . cases h1
  . exact h1,
 λc e ho=>by
  rcases h.kind hA ho with ⟨_,_,_,h1⟩|⟨_,h1,_⟩
  . cases h1
  . exact h1⟩
theorem qu9{Q:α->Prop}{w u:World}{es:Array Event}{s:Sem α}{x:Halt}(h:Fatal x):Out C Q w es s (.halt x u):=by
 cases x<;>first|exact h|exact h.elim
theorem qxy{a:Addr}(ha:C.A a):qd C (load a) (Ok C.A C.F):=by
 intro w u es hr al;cases hv:u.cell? a with
 |some v=>
  obtain⟨h1,h2,h3,h4,_,_⟩:=hr.cell ha hv;have e:(load a).run C.P u=.ok v u:=by simp[hv]
  rw[e];refine⟨w,#[⟨.cell a,false,false⟩],by simp[load,Sem.runT,h1,-Sem.runT_eq];rfl,hr,⟨λ_ _=>rfl,Nat.le_refl _,rfl,rfl,rfl,Nat.le_refl _,λe he=>?_,.of rfl⟩,h2⟩;rw[Array.mem_singleton]at he;subst he;exact⟨rfl,⟨.of ha,h4⟩,h3⟩
 |none=>
  obtain⟨x,hx,hf⟩:=qyw (C:=C) (u:=u) (a:=a) (b:=(Mode.plain == .atomic)) (hr.noPending (.of ha)).1 (hr.noPending (.of ha)).2;have e:(load a).run C.P u=.halt x u:=by simp[hv,hx]
  rw[e];exact qu9 hf
theorem qka{γ:Type}(xs:Array γ)(i j:Nat)(f:γ->γ):(xs.modify i f)[j]?=if i=j then (xs[j]?).map f else xs[j]?:=by
 rw[Array.getElem?_modify]
theorem qcw(w:World)(a:Addr)(v:Value)(r:Nat)(hne:a.block≠r):(w.setCell a v).heap[r]?=w.heap[r]?:=by
 simp[World.setCell,qka,hne]
theorem qeu(w:World)(a:Addr)(v:Value){c:Array Value}{e:TypeId}{fr:Nat×Nat}(h:w.heap[a.block]?=some (.cells c e fr)) :
   (w.setCell a v).heap[a.block]?=some (.cells (if a.spot.isSome then c else c.setIfInBounds a.off v) e fr):=by
 simp[World.setCell,qka,h]
theorem qev{u:World}{a:Addr}{v:Value}(h:u.cell? a=some v):a.spot.isSome=false/\∃c e fr,u.heap[a.block]?=some (.cells c e fr)/\a.off<c.size:=by
 unfold World.cell? at h;split at h
 . rename_i c e fr hb;by_cases hs:a.spot.isSome=true
   . simp[hs]at h
   . simp only[hs,if_false,false_eq_true]at h;exact⟨by simpa using hs,c,e,fr,hb,(Array.getElem?_eq_some_iff.1 h).1⟩
 . cases h
theorem qkA{w:World}{a:Addr}{v:Value}{c:Array Value}{e:TypeId}{fr:Nat×Nat}(hs:a.spot.isSome=false)(hb:w.heap[a.block]?=some (.cells c e fr))(h:w.cell? a=some v):c[a.off]?=some v:=by
 unfold World.cell? at h;rw[hb]at h;simpa[hs]using h
theorem Rel.set{w u:World}(h:Rel C w u){a:Addr}(ha:C.A a){v x:Value}(hv:u.cell? a=some x)(hok:Ok C.A C.F v):Rel C (w.setCell a v) (u.setCell a v):=by
 obtain⟨hs,c,e,fr,hb,hoff⟩:=qev hv;obtain⟨hw,_,_,hnz,_,hfz⟩:=h.cell ha hv;refine⟨by simp[World.setCell,h.size],h.os,by have:=h.room;simpa[World.setCell]using this,λr hp=>?_,λr hB hp=>?_,λr o hB hp ho=>?_,λr hr=>?_,h.drawn⟩
 . obtain⟨c',c2,e2,fr2,h1,h2,h3,h4,h5,h6⟩:=h.part r hp;by_cases hne:a.block=r
   . subst hne;rw[hb]at h1;cases h1;refine⟨c.setIfInBounds a.off v,c2.setIfInBounds a.off v,e,fr2,?_,?_,?_,λhz=>absurd hz hnz,λi y hy=>?_,⟨h6.1.imp id (λhg=>⟨hg.1,by simpa using hg.2⟩),λhg=>by simpa using h6.2 hg⟩⟩
     . rw[qeu u a v hb];simp[hs]
     . rw[qeu w a v h2];simp[hs]
     . simpa using h3
     . rw[Array.getElem?_setIfInBounds]at hy |-;by_cases hi:a.off=i
       . subst hi;rw[if_pos rfl,if_pos hoff]at hy;cases hy;rw[if_pos rfl,if_pos (by omega)];refine⟨rfl,λ_=>⟨hok,λhl=>?_⟩⟩;unfold World.frozen? at hfz;rw[h2]at hfz;obtain⟨lo,hi⟩:=fr2;simp only[and_eq_false_iff,decide_eq_false_iff_not]at hfz;exact hfz.elim (λh9=>h9 hl.1) (λh9=>h9 hl.2)
       . rw[if_neg hi]at hy |-;exact h5 i y hy
   . exact⟨c',c2,e2,fr2,by rw[qcw _ _ _ _ hne];exact h1,by rw[qcw _ _ _ _ hne];exact h2,h3,h4,h5,h6⟩
 . have h1:=h.same r hB hp;by_cases hne:a.block=r
   . subst hne;rw[qeu u a v hb,qeu w a v (h1.trans hb)]
   . rw[qcw _ _ _ _ hne,qcw _ _ _ _ hne];exact h1
 . by_cases hne:a.block=r
   . subst hne;rw[qeu u a v hb]at ho;cases ho
     have hc:q01 C.A C.F (.cells c e fr):=(h.cln _ _ hB hp hb).resolve_right (λk=>by
      obtain⟨_,_,_,k⟩:=k;cases k;simp at hoff)
     refine .inl ⟨hc.1,λy hy=>?_⟩;simp only[hs,false_eq_true,if_false]at hy;obtain⟨i,hi,rfl⟩:=Array.mem_iff_getElem.1 hy;have hi':i<c.size:=by simpa using hi
     rw[Array.getElem_setIfInBounds hi'];split
     . exact hok
     . exact hc.2 _ (Array.getElem_mem _)
   . rw[qcw _ _ _ _ hne]at ho;exact h.cln r o hB hp ho
 . obtain⟨k,b,cl,m,n,t,h1⟩:=h.chn r hr;have hne:a.block≠r:=λe0=>by rw[<-e0,hb]at h1;cases h1
   exact⟨k,b,cl,m,n,t,by rw[qcw _ _ _ _ hne];exact h1⟩
theorem Rel.ve{w u:World}(h:Rel C w u){a:Addr}{x:Value}(hv:u.cell? a=some x)(v:Value):Beyond C w (w.setCell a v):=by
 obtain⟨hs,c,e,fr,hb,hoff⟩:=qev hv;intro hp cw ew frw hw;by_cases hne:a.block=C.G
 . obtain⟨c',c2,e2,fr2,h1,h2,h3,h4,h5,h6⟩:=h.part _ hp;have hK:=h6.2 rfl;rw[hne,h1]at hb;cases hb;refine⟨cw.setIfInBounds a.off v,?_,by simp,λi hi=>?_⟩
   . rw[<-hne,qeu w a v (by rw[hne];exact hw)];simp[hs]
   . rw[Array.getElem?_setIfInBounds,if_neg (by omega)]
 . exact⟨cw,by rw[qcw _ _ _ _ hne];exact hw,rfl,λ_ _=>rfl⟩
theorem q3e{a:Addr}{v:Value}(ha:C.A a)(hok:Ok C.A C.F v):qd C (store a v) (λ_=>True):=by
 intro w u es hr al;by_cases h1:v.oneCell'=true
 . rw[run_store C.P u a v _ h1];cases hv:u.cell? a with
   |some x=>
    obtain⟨h1',h2,h3,h4,h5,h6⟩:=hr.cell ha hv;obtain⟨_,c,e0,fr0,hb0,_⟩:=qev hv;simp only[h5,false_eq_true,if_false];refine⟨w.setCell a v,#[⟨.cell a,true,false⟩],?_,hr.set ha hv hok,⟨λr hnr=>qcw _ _ _ _ (λe=>?_),by simp[World.setCell],rfl,rfl,rfl,Nat.le_refl _,λe he=>?_,hr.ve hv v⟩,trivial⟩
    . rw[Sem.runT_eq,run_store C.P w a v _ h1,h1'];have hev:=events_store (P:=C.P) (w:=w) (es:=es) a v .plain h1;rw[h1']at hev;simp only[h6,false_eq_true,if_false]at hev |-;rw[hev];simp;rfl
    . subst e;rcases hnr with hn|hn|hn
      . exact hn (.of ha)
      . exact h4 hn
      . obtain⟨k,b,cl,m,n,t,h7⟩:=hr.chn _ hn;rw[hb0]at h7;cases h7
    . rw[Array.mem_singleton]at he;subst he;exact⟨rfl,⟨.of ha,h4⟩,by simpa[World.setCell]using h3⟩
   |none=>
    obtain⟨x,hx,hf⟩:=qw0 (C:=C) (u:=u) (a:=a) (v:=v) (b:=(Mode.plain == .atomic)) (hr.noPending (.of ha)).1 (hr.noPending (.of ha)).2;simp only[hx];exact qu9 hf
 . have e:∃ why,(store a v).run C.P u=.halt (.stuck why) u:=by
    cases v<;>first|(exact absurd rfl h1)|exact⟨_,rfl⟩
   obtain⟨why,e⟩:=e;rw[e];trivial
theorem Pen.yS{C:Pen}{r:Nat}(h:C.N<=r):¬C.Pt r/\¬C.Ch r:=⟨λk=>absurd (C.old r (.inl k)) (by omega),λk=>absurd (C.old r (.inr k)) (by omega)⟩
theorem qlj{o:Obj}(ho:q01 C.A C.F o):qd C (newObj o) (λr=>C.A ⟨r,0,none⟩):=by
 intro w u es hr al;rw[run_newObj];have hN:C.N<=u.heap.size:=by rw[<-hr.size];exact hr.room
 have hA:C.A ⟨u.heap.size,0,none⟩:=C.fresh _ hN;have hno:=Pen.yS hN
 refine⟨{w with heap:=w.heap.push o},#[],by simp[newObj,Sem.runT,hr.size,-Sem.runT_eq],⟨by simp[hr.size],hr.os,by have:=hr.room;simp;omega,λr hp=>?_,λr hB hp=>?_,λr x hB hp hx=>?_,λr hc=>?_,hr.drawn⟩,
  ⟨λr hnr=>?_,by simp,rfl,rfl,rfl,Nat.le_refl _,λe h=>by simp at h,λhp=>Beyond.of (by
   have hne:C.G≠u.heap.size:=λe=>hno.1 (e▸hp);simp only[Array.getElem?_push];rw[hr.size,if_neg hne]) hp⟩,hA⟩
 . have hne:r≠u.heap.size:=λe=>hno.1 (e▸hp);obtain⟨c',c2,e2,fr2,h1,h2,h3⟩:=hr.part r hp;exact⟨c',c2,e2,fr2,by simp only[Array.getElem?_push];rw[if_neg hne];exact h1,by simp only[Array.getElem?_push];rw[hr.size,if_neg hne];exact h2,h3⟩
 . simp only[Array.getElem?_push];rw[hr.size];split
   . rfl
   . exact hr.same r hB hp
 . simp only[Array.getElem?_push]at hx;split at hx
   . cases hx;exact .inl ho
   . exact hr.cln r x hB hp hx
 . have hne:r≠u.heap.size:=λe=>hno.2 (e▸hc);obtain⟨k,b,cl,m,n,t,h1⟩:=hr.chn r hc;exact⟨k,b,cl,m,n,t,by simp only[Array.getElem?_push];rw[if_neg hne];exact h1⟩
 . simp only[Array.getElem?_push];split
   . rename_i h;subst h;rw[hr.size]at hnr;rcases hnr with hn|hn|hn
     . exact absurd (Pen.B.obj hA) hn
     . exact absurd (C.zp _ hn) hno.1
     . exact absurd hn hno.2
   . rfl
theorem qe5{r:Nat}(hA:C.B r):qd C (getObj r) (λo=>q01 C.A C.F o/\(∀c e fr,o≠.cells c e fr)/\¬C.Z r/\∀es k,o=.map es k->¬C.Ch r):=by
 intro w u es hr al;cases ho:u.heap[r]? with
 |none=>simp[getObj,Sem.run,ho];trivial
 |some o=>
  rcases hr.kind hA ho with ⟨c,e,fr,rfl⟩|⟨ho',hok,hnz⟩
  . simp[getObj,Sem.run,ho];trivial
  . by_cases hc:∃c e fr,o=.cells c e fr
    . obtain⟨c,e,fr,rfl⟩:=hc;simp[getObj,Sem.run,ho];trivial
    have hne:∀c e fr,o≠.cells c e fr:=λc e fr h=>hc ⟨c,e,fr,h⟩
    have eU:(getObj r).run C.P u=.ok o u:=by
     simp only[getObj,Sem.run,ho]
    rw[eU];refine⟨w,#[⟨.obj r,false,o.isChan⟩],?_,hr,⟨λ_ _=>rfl,Nat.le_refl _,rfl,rfl,rfl,Nat.le_refl _,λe he=>?_,.of rfl⟩,hok,hne,hnz,λes' k hm hch=>?_⟩
    . simp only[getObj,Sem.runT,ho',Array.push_eq_append]
    . rw[Array.mem_singleton]at he;subst he;exact⟨.inr rfl,⟨hA,hnz⟩,hr.lt ho⟩
    . obtain⟨k',b,cl,m,n,t,h1⟩:=hr.chn _ hch;rw[ho,hm]at h1;cases h1
theorem heap_set{w:World}{r:Nat}{o:Obj}(i:Nat):({w with heap:=w.heap.setIfInBounds r o}:World).heap[i]?=if r=i then (if r<w.heap.size then some o else none)else w.heap[i]?:=by
 simp only[Array.getElem?_setIfInBounds]
theorem qsh{r:Nat}{o:Obj}(hA:C.B r)(hok:q01 C.A C.F o)(hch:¬C.Ch r)(hnc:o.isChan=false):qd C (setObj r o) (λ_=>True):=by
 intro w u es hr al;cases ho:u.heap[r]? with
 |none=>simp[setObj,Sem.run,ho];trivial
 |some x=>
  rcases hr.kind hA ho with ⟨c,e,fr,rfl⟩|⟨ho',_,hnz⟩
  . simp[setObj,Sem.run,ho];trivial
  . by_cases hc:∃c e fr,x=.cells c e fr
    . obtain⟨c,e,fr,rfl⟩:=hc;simp[setObj,Sem.run,ho];trivial
    have hne:∀c e fr,x≠.cells c e fr:=λc e fr h=>hc ⟨c,e,fr,h⟩;have hlt:=hr.lt ho
    have eU:(setObj r o).run C.P u=.ok () {u with heap:=u.heap.setIfInBounds r o}:=by
     simp only[setObj,Sem.run,ho]
    rw[eU]
    refine⟨{w with heap:=w.heap.setIfInBounds r o},#[⟨.obj r,true,o.isChan⟩],?_,⟨by simp[hr.size],hr.os,by have:=hr.room;simpa using this,λi hp=>?_,λi hB hp=>?_,λi y hB hp hy=>?_,λi hi=>?_,hr.drawn⟩,⟨λi hi=>?_,by simp,rfl,rfl,rfl,Nat.le_refl _,λe he=>?_,λhp=>Beyond.of (by
     obtain⟨c',c2,e2,fr2,h1,h2,_⟩:=hr.part _ hp;have hne':r≠C.G:=λe=>by rw[<-e,ho]at h1;exact hne _ _ _ (Option.some.inj h1)
     rw[heap_set,if_neg hne']) hp⟩,trivial⟩
    . simp only[setObj,Sem.runT,ho',Array.push_eq_append]
    . obtain⟨c',c2,e2,fr2,h1,h2,h3⟩:=hr.part i hp;have hne':r≠i:=λe=>by subst e;rw[ho]at h1;exact hne _ _ _ (Option.some.inj h1)
      exact⟨c',c2,e2,fr2,by rw[heap_set,if_neg hne'];exact h1,by rw[heap_set,if_neg hne'];exact h2,h3⟩
    . rw[heap_set,heap_set,hr.size];split
      . rfl
      . exact hr.same i hB hp
    . rw[heap_set]at hy;split at hy
      . split at hy
        . cases hy;exact .inl hok
        . cases hy
      . exact hr.cln i y hB hp hy
    . have hne':r≠i:=λe=>hch (e▸hi);obtain⟨k,b,cl,m,n,t,h1⟩:=hr.chn i hi;exact⟨k,b,cl,m,n,t,by rw[heap_set,if_neg hne'];exact h1⟩
    . rw[heap_set,if_neg];intro e;subst e;rcases hi with hn|hn|hn
      . exact hn hA
      . exact hnz hn
      . exact hch hn
    . rw[Array.mem_singleton]at he;subst he;exact⟨.inl hnc,⟨hA,hnz⟩,by simpa using hlt⟩
theorem Rel.drew{w u:World}(h:Rel C w u):Rel C {w with drawn:=w.drawn+1} {u with drawn:=u.drawn+1}:=
 ⟨h.size,h.os,h.room,h.part,h.same,h.cln,h.chn,by show w.drawn+1=u.drawn+1;rw[h.drawn]⟩
theorem qd5(q:Question):qd C (choose q) (λ_=>True):=by
 intro w u es hr al;rw[run_choose];split
 . rename_i hf;exact⟨w,#[],by simp[choose,Sem.runT,hf,-Sem.runT_eq],hr,Kept.refl C w,trivial⟩
 . rename_i hf
   have:w.tape w.drawn q=u.tape u.drawn q:=by
    rw[hr.drawn];refine al u.drawn q (Nat.le_refl _) ?_;rw[run_choose,if_neg hf];exact Nat.lt_succ_self _
   refine⟨{w with drawn:=w.drawn+1},#[],?_,hr.drew,⟨λ_ _=>rfl,Nat.le_refl _,rfl,rfl,rfl,Nat.le_succ _,λe h=>by simp at h,.of rfl⟩,trivial⟩;simp only[choose,Sem.runT,hf,if_false,false_eq_true,this,Array.append_empty]
theorem qbe:qd C program (λp=>p=C.P):=λw u es hr al=>⟨w,#[],by simp[program,Sem.runT,-Sem.runT_eq],hr,Kept.refl C w,rfl⟩
theorem qs5(f:FuncId):qd C (mark (.extern f)) (λ_=>True):=λw u es hr al=>
 ⟨w,#[⟨.mark (.extern f),false,true⟩],by simp[mark,Sem.runT,-Sem.runT_eq],hr,⟨λ_ _=>rfl,Nat.le_refl _,rfl,rfl,rfl,Nat.le_refl _,λe he=>by rw[Array.mem_singleton]at he;subst he;trivial,.of rfl⟩,trivial⟩
theorem q02:qd C (mark .noRoom) (λ_=>True):=λw u es hr al=>
 ⟨w,#[⟨.mark .noRoom,false,true⟩],by simp[mark,Sem.runT,-Sem.runT_eq],hr,⟨λ_ _=>rfl,Nat.le_refl _,rfl,rfl,rfl,Nat.le_refl _,λe he=>by rw[Array.mem_singleton]at he;subst he;trivial,.of rfl⟩,trivial⟩
end
end
end Go.Proofs.YtacemdoejblgaaaGreatDoor

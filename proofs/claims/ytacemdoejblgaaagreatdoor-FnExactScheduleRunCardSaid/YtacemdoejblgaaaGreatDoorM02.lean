/- Part M02. Conditions: each statement's. -/
import Derived.Conc.Beside
import Derived.Conc.CrowdComm
import Derived.Conc.Events
import Derived.Calls
import Derived.Conc.Own
namespace Go.Proofs.YtacemdoejblgaaaGreatDoor
open _root_.Array renaming getElem?_eq_some_iff→Ab,mem_singleton→Ah,getElem?_push→Ai,mem_of_getElem?→Aj,getElem?_setIfInBounds→Am,mem_iff_getElem?→Ap,mem_append→As,mem_map→At,range→Ax,append_assoc→Ay,mem_iff_getElem→Az,push_eq_append→AA,getElem?_setIfInBounds_ne→AB,getElem?_append_right→AD,getElem?_eq_getElem→AE,getElem?_modify→AF,getElem?_map→AG,ext_getElem?→AH,getElem_mem→AI,all_eq_true→AJ,mem_push→AK
open Bool renaming false_eq_true→AL,and_eq_false_iff→AM
open Go renaming Value→AN,Goroutine→AO,TypeId→AP,World→AQ,Program→AR,MapEntry→AS,Trace→AT,FuncId→AU,IntKind→AV,Event→AW,run_shape→AX,Frame→AY,BinOp→AZ,PanicEntry→B9,Operand→Ba,run_unsupported→Bb,Place→Bc,MemOp→Be
open Builtin renaming unsafeAdd_→Bf,firstCells→Bg,mayShare→Bh,ssaWrapNilChk_→Bi,min2→Bj,holdsCells→Bm,zeroCells→Bn,append_→Bo,lenOf→Bp,copy_→Bq,min_→Br,len_→Bs,cap_→Bt
open Conc renaming woken→Bu,Deaf_other→Bv,again_running→By,Knows→Bz,deaf_old→BA,again_parked_open→BB,Deaf_own→BC,act?_of→BE,runT_crowd_go→BF,noRace_append→BG,served→BH,Deaf_append→BI
open Frame renaming enter→BJ,finish→BK,raise→BL
open Instr renaming sliceBound→BM,checkKey→BN,findAsking→BO,findNow→BP,findKey→BQ,makeInterface→BR,keyThatStays→BS,fill→BT,sliceBounds→BU,typeAssert→BV,buildSlice→BW,mapUpdate→BX,makeSlice→BY,sureAddr→BZ,storeAt→C0,sliceAt→C6,makeMap→C7,indexAt→C8,fieldAt→C9,extract→Ca,lookup→Cb,loadAt→Cc,slice→Cd,panic→Ce,index→Cf,field→Cg,build→Ci,alloc→Cj,box→Ck
open MemOp renaming ofEvents→Cl
open Op renaming operands→Cm,eqGuardIn→Cn,equalIn→Co,twoPlaces→Cp,stringOp→Cq,intArith→Cr,intBits→Cs,addrMod→Ct,intDiv→Cu,intCmp→Cv,unary→Cw,shift→Cx
open Result renaming andThen_ok→Cy
open Sem renaming runT_eq→Cz,runT→CA,run→CB,run_bind→CC,runT_bind'→CD,run_bind'→CE,bind→CF
open Unsupported renaming unsafePointer→CG
open World renaming frozen?→CH,cell?→CI,setCell→CJ,shape?→CK,farStore→CL
open List renaming mem_toArray→CM,mem_cons→CN,not_mem_nil→CO,mem_cons_self→CP
open Nat renaming le_refl→CQ,le_trans→CR,le_succ→CS,lt_succ_self→CU,le_add_right→CW,strongRecOn→CX
open Option.some renaming inj→CY,injEq→CZ
open Prod.mk renaming injEq→D1
open List
set_option maxRecDepth 100000
set_option maxHeartbeats 6400000
variable {a:Addr}{es:Array AW}{ats:Array AP}{args cs vs:Array AN}{op:AZ}{b main:Bool}{fr:AY}{f fn:AU}{L:List (Addr×AN)}{a0 a1 a2 a3 y:Be}{c d g h i j k l m mh n off p r sLen size κ:Nat}{o:Obj}{hi lo mx:Option AN}{name pos:String}{e s t:AP}{ix v x:AN}{u w w':AQ}
section
open Go.Conc
def qiw(Sh:Nat->Prop):Loc->Prop
 | .cell a=>Sh a.block
 |_=>False
def qaN(Sh:Nat->Prop)(Fz:Loc->Prop)(a:Touch):Prop:=
 (qiw Sh a.loc/\a.kind=.atomic)∨(Fz a.loc/\a.write=false/\a.kind=.plain)
def yz(B:Nat)(x:MemAct):Prop:=∀y,x.touch?=some y->y.loc.low B
structure ju(Sh:Nat->Prop)(Fz:Loc->Prop)(St:Nat->Loc->Prop)(Lf:Nat->Prop)(h B:Nat)(t:AT):Prop where
 clean:∀said,¬Race said t
 known:∀i a,touchAt t i=some a->a.loc.isMemory=true->Bz t h i∨qaN Sh Fz a
 wrote:∀k,k≠h->∀i a,touchAt t i=some a->St k a.loc->a.write=true->Bz t k i
 seen:∀op∈t,yz B op.act
 quiet:∀i a,touchAt t i=some a->qiw Sh a.loc->a.kind≠.plain
 sub:∀k l,St k l->Fz l/\¬qiw Sh l/\l.isMemory=true
 over:∀i k,t.g? i=some k->Lf k->t.counts i->Bz t h i
section
variable {Sh:Nat->Prop}{Fz:Loc->Prop}{St:Nat->Loc->Prop}{Lf:Nat->Prop}{h B:Nat}{t u:AT}
theorem qbk{a:Touch}(ha:touchAt (t++u) i=some a):(i<t.size/\touchAt t i=some a)∨(t.size<=i/\∃op,op∈u/\(t++u)[i]?=some op/\op.act.touch?=some a):=by
 obtain⟨x,hx,hxa⟩:=touch_of ha;rcases getElem?_append_cases hx with ⟨hi,hx'⟩|⟨hi,hxu⟩
 . exact .inl ⟨hi,by rw[touchAt_of hx'];exact hxa⟩
 . exact .inr ⟨hi,x,hxu,hx,hxa⟩
theorem qo7{Lf:Nat->Prop}(H:∀i k,t.g? i=some k->Lf k->t.counts i->Bz t h i)(hu:∀op∈u,Lf op.g->op.act.touch?=none):∀i k,(t++u).g? i=some k->Lf k->(t++u).counts i->Bz (t++u) h i:=by
 intro i k hg hL hc;obtain⟨x,hx,hm,hh⟩:=hc;rcases qbk hx with ⟨hi,hx'⟩|⟨_,op,hop,hy,hxa⟩
 . exact(H i k (by rw[g?_old hi]at hg;exact hg) hL ((counts_old hi).1 ⟨x,hx,hm,hh⟩)).app u
 . have:op.g=k:=by
    unfold Trace.g? at hg;rw[hy]at hg;exact CY hg
   rw[hu op hop (this▸hL)]at hxa;cases hxa
theorem ju.mono{B':Nat}(H:ju Sh Fz St Lf h B t)(hB:B<=B'):ju Sh Fz St Lf h B' t:=⟨H.clean,H.known,H.wrote,λop hop y hy=>Loc.low_mono hB (H.seen op hop y hy),H.quiet,H.sub,H.over⟩
theorem ju.own(H:ju Sh Fz St Lf h B t)(hLh:¬Lf h)(hg:∀op∈u,op.g=h)(ho:∀op∈u,∀x,op.act.touch?=some x->(qiw Sh x.loc->x.kind≠.plain)/\(x.write=true->¬Fz x.loc))(hl:∀op∈u,yz B op.act) :
   ju Sh Fz St Lf h B (t++u):=by
 refine⟨λsaid=>BG (H.clean said) hg (λi a ha op hop b hb hc=>?_),λi a ha hm=>?_,λk hk i a ha hs hw=>?_,λop hop=>(As.1 hop).elim (H.seen op) (hl op),λi a ha hs=>?_,H.sub,qo7 H.over (λop hop hL=>absurd (hg op hop▸hL) hLh)⟩
 . obtain⟨h1,h2⟩:=ho op hop b hb;rcases H.known i a ha hc.2.1 with hk|⟨hs,hka⟩|⟨hf,hw,hk⟩
   . exact hk
   . exfalso;have:=h1 (hc.1▸hs);obtain⟨_,_,_,hcase⟩:=hc;rw[hka]at hcase;rcases hcase with x|x|⟨_,x,_⟩
     . cases x
     . exact this x
     . cases x
   . exfalso;obtain⟨e1,_,e2,_⟩:=hc;rcases e2 with x|x
     . rw[hw]at x;cases x
     . exact h2 x (e1▸hf)
 . rcases qbk ha with ⟨hi,ha'⟩|⟨_,op,hop,hx,_⟩
   . exact(H.known i a ha' hm).imp (·.app u) id
   . have:=knows_own hx;rw[hg op hop]at this;exact .inl this
 . rcases qbk ha with ⟨hi,ha'⟩|⟨_,op,hop,_,hxa⟩
   . exact(H.wrote k hk i a ha' hs hw).app u
   . exact absurd (H.sub k _ hs).1 ((ho op hop a hxa).2 hw)
 . rcases qbk ha with ⟨hi,ha'⟩|⟨_,op,hop,_,hxa⟩
   . exact H.quiet i a ha' hs
   . exact(ho op hop a hxa).1 hs
theorem ju.by(H:ju Sh Fz St Lf h B t)(hk:k≠h)(hLk:¬Lf k)(hg:∀op∈u,op.g=k)(ho:∀op∈u,∀x,op.act.touch?=some x->St k x.loc/\x.write=false/\x.kind=.plain)(hl:∀op∈u,yz B op.act) :
   ju Sh Fz St Lf h B (t++u):=by
 refine⟨λsaid=>BG (H.clean said) hg (λi a ha op hop b hb hc=>?_),λi a ha hm=>?_,λk' hk' i a ha hs hw=>?_,λop hop=>(As.1 hop).elim (H.seen op) (hl op),λi a ha hs=>?_,H.sub,qo7 H.over (λop hop hL=>absurd (hg op hop▸hL) hLk)⟩
 . obtain⟨h1,h2,_⟩:=ho op hop b hb;obtain⟨e1,_,e2,_⟩:=hc;refine H.wrote k hk i a ha (e1▸h1) (e2.elim id (λx=>by rw[h2]at x;cases x))
 . rcases qbk ha with ⟨hi,ha'⟩|⟨_,op,hop,_,hxa⟩
   . exact(H.known i a ha' hm).imp (·.app u) id
   . obtain⟨h1,h2,h3⟩:=ho op hop a hxa;exact .inr (.inr ⟨(H.sub k _ h1).1,h2,h3⟩)
 . rcases qbk ha with ⟨hi,ha'⟩|⟨_,op,hop,_,hxa⟩
   . exact(H.wrote k' hk' i a ha' hs hw).app u
   . rw[(ho op hop a hxa).2.1]at hw;cases hw
 . rcases qbk ha with ⟨hi,ha'⟩|⟨_,op,hop,_,hxa⟩
   . exact H.quiet i a ha' hs
   . exact absurd hs (H.sub k _ (ho op hop a hxa).1).2.1
theorem ju.atomic(H:ju Sh Fz St Lf h B t)(hLk:¬Lf k)(hg:∀op∈u,op.g=k)(ho:∀op∈u,∀x,op.act.touch?=some x->qiw Sh x.loc/\x.kind=.atomic)(hl:∀op∈u,yz B op.act) :
   ju Sh Fz St Lf h B (t++u):=by
 refine⟨λsaid=>BG (H.clean said) hg (λi a ha op hop b hb hc=>?_),λi a ha hm=>?_,λk' hk' i a ha hs hw=>?_,λop hop=>(As.1 hop).elim (H.seen op) (hl op),λi a ha hs=>?_,H.sub,qo7 H.over (λop hop hL=>absurd (hg op hop▸hL) hLk)⟩
 . exfalso;obtain⟨h1,h2⟩:=ho op hop b hb;have:=H.quiet i a ha (hc.1▸h1);obtain⟨_,_,_,hcase⟩:=hc;rw[h2]at hcase;rcases hcase with x|x|⟨_,_,x⟩
   . exact this x
   . cases x
   . cases x
 . rcases qbk ha with ⟨hi,ha'⟩|⟨_,op,hop,_,hxa⟩
   . exact(H.known i a ha' hm).imp (·.app u) id
   . obtain⟨h1,h2⟩:=ho op hop a hxa;exact .inr (.inl ⟨h1,h2⟩)
 . rcases qbk ha with ⟨hi,ha'⟩|⟨_,op,hop,_,hxa⟩
   . exact(H.wrote k' hk' i a ha' hs hw).app u
   . exact absurd (ho op hop a hxa).1 (H.sub k' _ hs).2.1
 . rcases qbk ha with ⟨hi,ha'⟩|⟨_,op,hop,_,hxa⟩
   . exact H.quiet i a ha' hs
   . rw[(ho op hop a hxa).2];simp
theorem ju.mute(H:ju Sh Fz St Lf h B t)(ho:∀op∈u,op.act.touch?=none):ju Sh Fz St Lf h B (t++u):=by
 have nt:∀{i a},touchAt (t++u) i=some a->i<t.size/\touchAt t i=some a:=λ{i a} ha=>by
  rcases qbk ha with h1|⟨_,op,hop,_,hxa⟩
  . exact h1
  . rw[ho op hop]at hxa;cases hxa
 refine⟨λsaid=>?_,λi a ha hm=>?_,λk hk i a ha hs hw=>?_,λop hop=>(As.1 hop).elim (H.seen op) (λx y hy=>by rw[ho op x]at hy;cases hy),λi a ha hs=>H.quiet i a (nt ha).2 hs,H.sub,qo7 H.over (λop hop _=>ho op hop)⟩
 . rintro⟨i,j,hij,⟨a,b,ha,hb,hc⟩,n1,n2⟩;have h1:=nt ha;have h2:=nt hb;exact H.clean said ⟨i,j,hij,⟨a,b,h1.2,h2.2,hc⟩,λe=>n1 (hb_app u e),λe=>n2 (hb_app u e)⟩
 . exact(H.known i a (nt ha).2 hm).imp (·.app u) id
 . exact(H.wrote k hk i a (nt ha).2 hs hw).app u
theorem ju.more(H:ju Sh Fz St Lf h B t){Sh':Nat->Prop}{Fz':Loc->Prop}(h1:∀r,Sh r->Sh' r)(h2:∀r,Sh' r->Sh r∨B<=r)(h3:∀l,Fz l->Fz' l)(h4:∀k l,St k l->l.low B):ju Sh' Fz' St Lf h B t:=by
 have key:∀l,l.low B->qiw Sh' l->qiw Sh l:=λl hlow hs=>by
  cases l with
  |cell a=>exact(h2 _ hs).elim id (λy=>absurd hlow (Nat.not_lt.2 y))
  |_=>exact hs.elim
 have low:∀i a,touchAt t i=some a->a.loc.low B:=λi a ha=>by
  obtain⟨x,hx,hxa⟩:=touch_of ha;exact H.seen x (Aj hx) a hxa
 refine⟨H.clean,λi a ha hm=>(H.known i a ha hm).imp id (Or.imp (λx=>⟨?_,x.2⟩) (λx=>⟨h3 _ x.1,x.2⟩)),H.wrote,H.seen,λi a ha hs=>H.quiet i a ha (key _ (low i a ha) hs),λk l hl=>⟨h3 _ (H.sub k l hl).1,λhs=>(H.sub k l hl).2.1 (key l (h4 k l hl) hs),(H.sub k l hl).2.2⟩,H.over⟩
 . have hx:=x.1;cases hloc:a.loc with
   |cell b=>rw[hloc]at hx;exact h1 _ hx
   |_=>rw[hloc]at hx;exact hx.elim
end
section
variable {t u:AT}
theorem qv1(hy:t[i]?=some y)(h1:y.act≠.mark .disable)(h2:y.act≠.mark .enable):t.deaf g (i+1)=t.deaf g i:=by
 rw[deaf_succ hy];unfold deafStep;split
 . rename_i h;exact absurd h h1
 . rename_i h;exact absurd h h2
 . rfl
theorem gAt(h:t[i]?=some y)(hg:y.g=g):t.g? i=some g:=by simp[Trace.g?,h,hg]
theorem qlf{a b:AT}(h:b[0]?=some y):(a++b)[a.size]?=some y:=by
 rw[AD (CQ _),Nat.sub_self];exact h
theorem qt5{a b:AT}(h:b[i]?=some y):(a++b)[a.size+i]?=some y:=by
 rw[AD (CW _ _),Nat.add_sub_cancel_left];exact h
theorem qnq:∀n,(∀i,i<n->∃y,t[p+i]?=some y/\y.act≠.mark .disable/\y.act≠.mark .enable)->t.deaf g (p+n)=t.deaf g p
 |0,_=>rfl
 |n+1,h=>by
  obtain⟨y,h1,h2,h3⟩:=h n (CU n);rw[<-Nat.add_assoc,qv1 h1 h2 h3];exact qnq n (λi hi=>h i (by omega))
theorem qs7(e0:a0.g=h/\a0.act=.send c n)(e1:∃r cap,a1.act=.recv c r cap)(e2:a2.act=.sendDone c n)(e3:a3.g=k/\a3.act=.recvDone c n)
   (dh:Deaf t h=0) (dk:Deaf t k=0)  (hk:Bz t h i):Bz (t++#[a0,a1,a2,a3]) k i:=by
 obtain⟨r,cap,e1⟩:=e1;have g0:(t++#[a0,a1,a2,a3])[t.size]?=some a0:=qlf rfl;have g1:(t++#[a0,a1,a2,a3])[t.size+1]?=some a1:=qt5 rfl;have g2:(t++#[a0,a1,a2,a3])[t.size+2]?=some a2:=qt5 rfl;have g3:(t++#[a0,a1,a2,a3])[t.size+3]?=some a3:=qt5 rfl;have d0:(t++#[a0,a1,a2,a3]).deaf h t.size=0:=by rw[BA (CQ _)];exact dh
 have d3:(t++#[a0,a1,a2,a3]).deaf k (t.size+3)=0:=by
  rw[qnq 3,BA (CQ _)]
  . exact dk
  . intro i hi
    match i,hi with
    |0,_=>exact⟨a0,g0,by rw[e0.2];simp,by rw[e0.2];simp⟩
    |1,_=>exact⟨a1,g1,by rw[e1];simp,by rw[e1];simp⟩
    |2,_=>exact⟨a2,g2,by rw[e2];simp,by rw[e2];simp⟩
    |i+3,hi=>omega
 refine⟨t.size+3,a3,g3,e3.1,.inr ?_⟩;refine(hk.hb_new (CQ _) g0 e0.1).trans (.single (.inr ⟨.handOver (c:=c) (k:=n) (by rw[BE g0,e0.2]) (by rw[BE g3,e3.2]),⟨h,gAt g0 e0.1,d0⟩,⟨k,gAt g3 e3.1,d3⟩⟩))
theorem q69(e0:a0.g=h/\a0.act=.go k)(e1:a1.g=k/\a1.act=.start)(dh:Deaf t h=0)(dk:Deaf t k=0)(hk:Bz t h i):Bz (t++#[a0,a1]) k i:=by
 have g0:(t++#[a0,a1])[t.size]?=some a0:=qlf rfl;have g1:(t++#[a0,a1])[t.size+1]?=some a1:=qt5 rfl;have d0:(t++#[a0,a1]).deaf h t.size=0:=by rw[BA (CQ _)];exact dh
 have d1:(t++#[a0,a1]).deaf k (t.size+1)=0:=by
  rw[qv1 g0 (by rw[e0.2];simp) (by rw[e0.2];simp),BA (CQ _)];exact dk
 refine⟨t.size+1,a1,g1,e1.1,.inr ?_⟩;refine(hk.hb_new (CQ _) g0 e0.1).trans (.single (.inr ⟨.spawn (child:=k) (by rw[BE g0,e0.2]) (by rw[BE g1,e1.2]) (gAt g1 e1.1),⟨h,gAt g0 e0.1,d0⟩,⟨k,gAt g1 e1.1,d1⟩⟩))
structure zz(a:Addr)(t:AT)(k p:Nat):Prop where
 act:t.act? p=some (.mark (.releaseMerge a))
 g:t.g? p=some k
 heard:t.heard p
theorem zz.lt(h:zz a t k p):p<t.size:=lt_of_act? h.act
theorem zz.app(h:zz a t k p)(u:AT):zz a (t++u) k p:=⟨by rw[act?_old h.lt];exact h.act,by rw[g?_old h.lt];exact h.g,(heard_old h.lt).2 h.heard⟩
theorem q4f(hg:y.g=k)(hy:y.act=.mark (.releaseMerge a))(hd:Deaf t k=0):zz a (t++#[y]) k t.size:=by
 have g0:(t++#[y])[t.size]?=some y:=qlf rfl;exact⟨by rw[BE g0,hy],gAt g0 hg,k,gAt g0 hg,by rw[BA (CQ _)];exact hd⟩
theorem qt6(hr:zz a t k p)(hn:∀q,p<q->t.act? q≠some (.mark (.release a)))(hg:y.g=h)(hy:y.act=.mark (.acquire a))(hd:Deaf t h=0)(hi:Before t i p):Bz (t++#[y]) h i:=by
 have g0:(t++#[y])[t.size]?=some y:=qlf rfl;have hr':=hr.app #[y];refine⟨t.size,y,g0,hg,?_⟩;have e:HappensBefore (t++#[y]) p t.size:=.single (.inr ⟨.marked (a:=a) hr.lt (.inr hr'.act) (by rw[BE g0,hy]) (λq h1 h2=>by rw[act?_old h2];exact hn q h1),hr'.heard,⟨h,gAt g0 hg,by rw[BA (CQ _)];exact hd⟩⟩);exact .inr ((hi.app #[y]).hb e)
end
end
section
open Go.Conc
open Go.ConcN (sumTo upd sumTo_upd upd_ne upd_same)
def vS(P:AR)(Post:AN->AQ->Prop)(gs:Array AO)(w:AQ)(t:AT):Prop:=
 ∀sl,∃N last o w' t',runNT P (N+1) (crowd gs w sl) t=(.ended o w',t')/\runN P N (crowd gs w sl)=.next last/\step P last=.ended o w'/\Good P Post last o w' t'
theorem qhr{P:AR}{Post:AN->AQ->Prop}{gs:Array AO}{t:AT}(aw:∀g∈gs,awake g)(some1:∃(i:Nat) (g:AO),gs[i]?=some g/\g.status=.running)
   (h:∀i g d sl,gs[i]?=some g->g.status=.running->(∃gs' w' sl' ops,runT P (crowd gs (w.at d) sl) i=(.next (crowd gs' w' sl'),ops)/\vS P Post gs' w' (t++ops)) ∨
    ∃o w' ops,runT P (crowd gs (w.at d) sl) i=(.ended o w',ops)/\∀sl₀,Good P Post (crowd gs w sl₀) o w' (t++ops)):vS P Post gs w t:=by
 intro sl;obtain⟨i,g,d,sl',hi,hr,hst⟩:=crowd_pick (P:=P) (w:=w) (sl:=sl) aw some1;rcases h i g d sl' hi hr with ⟨gs',w',sl2,ops,hs,hf⟩|⟨o,w',ops,hs,hg⟩
 . obtain⟨N,last,o,w2,t',h1,h2,h3,h4⟩:=hf sl2;have e:stepT P (crowd gs w sl)=(.next (crowd gs' w' sl2),ops):=hst.trans hs;exact⟨N+1,last,o,w2,t',by rw[runNT_succ_next e];exact h1,by rw[runN_succ_next e];exact h2,h3,h4⟩
 . have e:stepT P (crowd gs w sl)=(.ended o w',ops):=hst.trans hs;exact⟨0,crowd gs w sl,o,w',t++ops,by simp[runNT,e],rfl,by simp[step,e],hg sl⟩
def holds(L:List (Addr×AN))(w:AQ):Prop:=∀x,x∈L->w.cell? x.1=some x.2
def StL(L:List (Addr×AN))(l:Loc):Prop:=∃x,x∈L/\l=.cell x.1
def qp8(L:List (Addr×AN))(e:AW):Prop:=e.write=false/\e.sync=false/\StL L e.loc
structure jF where
 L:List (Addr×AN)
 fr:AY
 cs:List AY
 c:Nat
 z:AN
 ok:Bool
def qiy(P:AR)(main:Bool)(s:jF):Prop:=∃es,(∀w,holds s.L w->stepG P main (G s.fr s.cs) w=.comm (G s.fr s.cs) #[rcase s.c s.z] true (.recv s.ok) w es)/\∀e,e∈es->qp8 s.L e
def Way(P:AR)(main:Bool)(s:jF):Nat->AO->Prop
 |0,_=>False
 |n+1,g=>(g=G s.fr s.cs/\qiy P main s)∨(g.status=.running/\∃g' es,(∀w,holds s.L w->stepG P main g w=.go g' w es)/\(∀e,e∈es->qp8 s.L e)/\Way P main s n g')
inductive qz where
 |left
 |seat (s:jF)
def qf0(s:jF):AO:=parked (G s.fr s.cs) #[rcase s.c s.z] (.recv s.ok)
def kT(P:AR)(main:Bool):qz->Nat->Nat->AO->Prop
 | .left,q,d,g=>main=false/\QuitsD P q d g
 | .seat s,q,d,g=>d=0/\((q=0/\g=qf0 s)∨Way P main s q g)
def StT(T:Nat->qz)(n h:Nat)(k:Nat)(l:Loc):Prop:=k≠h/\k<n/\∃s,T k=.seat s/\StL s.L l
def LfT(T:Nat->qz)(h:Nat)(k:Nat):Prop:=k≠h/\T k=.left
structure qB(P:AR)(Sh:Nat->Prop)(Fz:Loc->Prop)(T:Nat->qz)(n h dd:Nat)(g:AO)(w:AQ)(gs:Array AO)(t:AT)(q:Nat->Nat):Prop where
 size:gs.size=n
 here:gs[h]?=some g
 ja:∀i x,i≠h->gs[i]?=some x->kT P (i==0) (T i) (q i) (Deaf t i) x
 fact:∀i s,i≠h->i<n->T i=.seat s->holds s.L w/\∃k,w.heap[s.c]?=some (.chan 0 #[] false k k false)
 apart:∀i j s s',i≠h->j≠h->i<n->j<n->T i=.seat s->T j=.seat s'->s.c=s'.c->i=j
 jw:ju Sh Fz (StT T n h) (LfT T h) h w.heap.size t
 deaf:Deaf t h=dd
 above:∀j,n<=j->Deaf t j=0
section
variable {P:AR}{Sh:Nat->Prop}{Fz:Loc->Prop}{T:Nat->qz}{n h dd:Nat}{g:AO}{w:AQ}{gs:Array AO}{t:AT}{q:Nat->Nat}
theorem Way.running{s:jF}{x:AO}(hw:Way P main s m x):x.status=.running:=by
 cases m with
 |zero=>exact hw.elim
 |succ m=>rcases hw with ⟨rfl,_⟩|⟨h1,_⟩<;>first|rfl|exact h1
theorem kT.status{r:qz}{x:AO}(hs:kT P main r m d x):x.status=.running∨x.status=.blocked∨x.status=.finished:=by
 cases r with
 |left=>exact hs.2.status.elim .inl (λy=>.inr (.inr y))
 |seat s=>
  rcases hs.2 with ⟨_,rfl⟩|hw
  . exact .inr (.inl rfl)
  . exact .inl hw.running
theorem qB.lt(H:qB P Sh Fz T n h dd g w gs t q){x:AO}(hx:gs[i]?=some x):i<n:=by rw[<-H.size];exact(Ab.1 hx).1
theorem qB.awake(H:qB P Sh Fz T n h dd g w gs t q)(hg:awake g):∀x∈gs,awake x:=by
 intro x hx;obtain⟨i,hi⟩:=Ap.1 hx;by_cases h0:i=h
 . subst h0;rw[H.here]at hi;cases hi;exact hg
 . exact awake_of (H.ja i x h0 hi).status
theorem qB.at(H:qB P Sh Fz T n h dd g w gs t q)(d:Nat):qB P Sh Fz T n h dd g (w.at d) gs t q:=⟨H.size,H.here,H.ja,H.fact,H.apart,H.jw,H.deaf,H.above⟩
theorem qB.again(H:qB P Sh Fz T n h dd g w gs t q)(d:Nat){x:AO}(hi:i≠h)(hx:gs[i]?=some x):x.again (w.at d)=x:=by
 have hs:=H.ja i x hi hx;have hlt:=H.lt hx;cases hT:T i with
 |left=>rw[hT]at hs;exact By _ hs.2.status
 |seat s=>
  rw[hT]at hs;rcases hs.2 with ⟨_,rfl⟩|hw
  . obtain⟨_,k,hc⟩:=H.fact i s hi hlt hT;exact BB (k:=rcase s.c s.z) (c:=s.c) (s:=k) (r:=k) (tm:=false) rfl hc
  . exact By _ (.inl hw.running)
theorem qB.woken(H:qB P Sh Fz T n h dd g w gs t q)(d:Nat)(hg:g.again (w.at d)=g)(x g':AO){y:AO}(hy:gs[j]?=some y):Bu P x g' (w.at d) y=y:=by
 unfold Bu;split
 . by_cases hj:j=h
   . subst hj;rw[H.here]at hy;cases hy;exact hg
   . exact H.again d hj hy
 . rfl
theorem qbf(gs:Array AO)(i j:Nat)(y:AO)(hlt:i<gs.size):(gs.setIfInBounds i y)[j]?=if i=j then some y else gs[j]?:=by
 by_cases hij:i=j
 . subst hij;rw[if_pos rfl,Array.getElem?_setIfInBounds_self_of_lt hlt]
 . rw[if_neg hij,AB hij]
theorem qB.z8(H:qB P Sh Fz T n h dd g w gs t q)(d:Nat)(hg:g.again (w.at d)=g)(x g':AO)(hlt:i<gs.size):(gs.map (Bu P x g' (w.at d))).setIfInBounds i g'=gs.setIfInBounds i g':=by
 apply AH;intro j;rw[qbf _ _ _ _ (by simpa using hlt),qbf _ _ _ _ hlt];split
 . rfl
 . rw[AG];cases hy:gs[j]? with
   |none=>rfl
   |some y=>simp[H.woken d hg x g' hy]
theorem qt7{B:Nat}(he:∀e,e∈es->qp8 L e)(hB:∀l,StL L l->l.low B) :
   (∀op∈Cl i fn pos es,op.g=i)/\(∀op∈Cl i fn pos es,∀x,op.act.touch?=some x->StL L x.loc/\x.write=false/\x.kind=.plain)/\(∀op∈Cl i fn pos es,yz B op.act)/\∀d,deafBehind d es=d:=by
 refine⟨λop hop=>?_,λop hop x hx=>?_,λop hop=>?_,λd=>deafBehind_still (λe hee=>?_) d⟩
 . obtain⟨e,_,rfl⟩:=Go.Conc.mem_ofEvents hop;rfl
 . obtain⟨e,hee,rfl⟩:=Go.Conc.mem_ofEvents hop;obtain⟨h1,h2,y,hy,h3⟩:=he e hee;obtain⟨loc,wr,sy⟩:=e;cases h1;cases h2;cases h3;cases hx;exact⟨⟨y,hy,rfl⟩,rfl,rfl⟩
 . obtain⟨e,hee,rfl⟩:=Go.Conc.mem_ofEvents hop;obtain⟨h1,h2,y,hy,h3⟩:=he e hee;obtain⟨loc,wr,sy⟩:=e;cases h1;cases h2;cases h3;intro z hz;cases hz;exact hB _ ⟨y,hy,rfl⟩
 . obtain⟨h1,h2,y,hy,h3⟩:=he e hee;rw[h3];exact⟨(λe=>by cases e),(λe=>by cases e)⟩
theorem qiz(hL:holds L w):∀l,StL L l->l.low w.heap.size:=by
 rintro l ⟨x,hx,rfl⟩;have:=hL x hx;show x.1.block<w.heap.size;unfold CI at this;split at this
 . rename_i hb;exact(Ab.1 hb).1
 . cases this
theorem qB.vA(H:qB P Sh Fz T n h dd g w gs t q){x:AO}(hi:i≠h)(hx:gs[i]?=some x)(hr:x.status=.running)(d:Nat)(sl:Option (Nat×Nat))(hg:g.again (w.at d)=g)
   (ho:∀s,T i=.seat s->x=G s.fr s.cs->qiy P (i==0) s->offersAt g s.c true=[]) :
   ∃gs' ops q',runT P (crowd gs (w.at d) sl) i=(.next (crowd gs' (w.at d) sl),ops)/\qB P Sh Fz T n h dd g (w.at d) gs' (t++ops) q'/\sumTo n q'<sumTo n q /\
    (∀j,j≠i->gs'[j]?=gs[j]?)/\∀s,T i=.seat s->x.status=.running->¬(x=G s.fr s.cs/\qiy P (i==0) s)->∃x',gs'[i]?=some x'/\x'.status=.running:=by
 have hlt:=H.lt hx;have hsz:i<gs.size:=by rw[H.size];exact hlt
 have hs:=H.ja i x hi hx
 have build:∀(x':AO) (m':Nat) (u:AT),(∀op∈u,op.g=i)->kT P (i==0) (T i) m' (Deaf (t++u) i) x'->ju Sh Fz (StT T n h) (LfT T h) h w.heap.size (t++u)->qB P Sh Fz T n h dd g (w.at d) (gs.setIfInBounds i x') (t++u) (upd q i m'):=by
  intro x' m' u hu hs' hh;refine⟨by simp[H.size],?_,λj y hj hy=>?_,H.fact,H.apart,hh,by rw[Bv t hi u hu];exact H.deaf,λj hj=>by rw[Bv t (by omega) u hu];exact H.above j hj⟩
  . rw[qbf _ _ _ _ hsz,if_neg hi];exact H.here
  . rw[qbf _ _ _ _ hsz]at hy;split at hy
    . rename_i e;subst e;cases hy;rw[upd_same];exact hs'
    . rename_i e;rw[upd_ne q m' (λe'=>e e'.symm),Bv t e u hu];exact H.ja j y hj hy
 have less:∀m',m'<q i->sumTo n (upd q i m')<sumTo n q:=λm' hm=>by
  have:=sumTo_upd q m' id hlt;have a1:(sumTo n λa=>id (upd q i m' a))=sumTo n (upd q i m'):=rfl;have a2:(sumTo n λa=>id (q a))=sumTo n q:=rfl;rw[a1,a2]at this;simp only[id]at this;omega
 have rest:∀x' j,j≠i->(gs.setIfInBounds i x')[j]?=gs[j]?:=λx' j hj=>by rw[qbf _ _ _ _ hsz,if_neg (λe=>hj e.symm)]
 have own:∀x',(gs.setIfInBounds i x')[i]?=some x':=λx'=>by rw[qbf _ _ _ _ hsz,if_pos rfl]
 cases hT:T i with
 |left=>
  rw[hT]at hs;obtain⟨h0,hq⟩:=hs;cases hqi:q i with
  |zero=>rw[hqi]at hq;rw[hq.1]at hr;cases hr
  |succ m=>
   rw[hqi]at hq;rcases hq with ⟨hf,_⟩|⟨_,g',es,hm,hst,hq'⟩
   . rw[hf]at hr;cases hr
   . have hrun:=BF (P:=P) (sl:=sl) (i:=i) hx (by rw[h0];exact hst (w.at d));rw[H.z8 d hg x g' hsz]at hrun;refine⟨_,_,upd q i m,hrun,build g' m _ (λop hop=>by obtain⟨e,_,rfl⟩:=Go.Conc.mem_ofEvents hop;rfl) ?_ (H.jw.mute (λop hop=>by obtain⟨e,he,rfl⟩:=Go.Conc.mem_ofEvents hop;exact touch_mute (hm e he))),less m (by omega),rest g',λs e=>by cases e⟩;rw[hT,BC];exact⟨h0,hq'⟩
 |seat s=>
  rw[hT]at hs;obtain⟨h0,hs⟩:=hs;obtain⟨hL,k,hc⟩:=H.fact i s hi hlt hT;have hst:∀l,StL s.L l->StT T n h i l:=λl hl=>⟨hi,hlt,s,hT,hl⟩;rcases hs with ⟨_,rfl⟩|hw
  . cases hr
  . cases hqi:q i with
    |zero=>rw[hqi]at hw;exact hw.elim
    |succ m=>
     rw[hqi]at hw;rcases hw with ⟨rfl,hcomm⟩|⟨_,g',es,hgo,hes,hw'⟩
     . have hoff:=ho s hT rfl hcomm;obtain⟨es,hstep,hes⟩:=hcomm
       have hpn:partners (gs.setIfInBounds i ph) s.c true=[]:=partners_nil (λj y hy=>by
        rcases getElem?_stand gs i j y hy with ⟨_,rfl⟩|⟨hji,hy'⟩
        . exact offersAt_ph _ _
        . by_cases hjh:j=h
          . subst hjh;rw[H.here]at hy';cases hy';exact hoff
          . have hsj:=H.ja j y hjh hy';cases hTj:T j with
            |left=>rw[hTj]at hsj;exact offersAt_of_not_blocked (by rcases hsj.2.status with e|e<;>rw[e]<;>simp) _ _
            |seat s'=>
             rw[hTj]at hsj;rcases hsj.2 with ⟨_,rfl⟩|hw'
             . exact offersAt_parked_recv' _ _ _ _ _
             . exact offersAt_of_not_blocked (by rw[hw'.running];simp) _ _)
       have hrun:=crowd_waits (P:=P) (sl:=sl) (w₁:=w.at d) hx (hstep (w.at d) hL) (λcc hcc=>by
        have:cc=rcase s.c s.z:=by simpa using hcc
        subst this;exact ways_recv_none (s:=k) (r:=k) (tm:=false) hc hpn)
       have⟨r1,r2,r3,r4⟩:=qt7 (i:=i) (fn:=(G s.fr s.cs).frame.fn) (pos:=(G s.fr s.cs).frame.place) hes (qiz hL);refine⟨_,_,upd q i 0,hrun,build _ 0 _ r1 ?_ (H.jw.by hi (λy=>by rw[y.2]at hT;cases hT) r1 (λop hop y hy=>⟨hst _ (r2 op hop y hy).1,(r2 op hop y hy).2⟩) r3),less 0 (by omega),rest _,λs' e _ hn=>by cases e;exact absurd ⟨rfl,⟨es,hstep,hes⟩⟩ hn⟩;rw[hT,BC,r4];exact⟨h0,.inl ⟨rfl,rfl⟩⟩
     . have hrun:=BF (P:=P) (sl:=sl) (i:=i) hx (hgo (w.at d) hL);rw[H.z8 d hg x g' hsz]at hrun;have⟨r1,r2,r3,r4⟩:=qt7 (i:=i) (fn:=x.frame.fn) (pos:=x.frame.place) hes (qiz hL);refine⟨_,_,upd q i m,hrun,build _ m _ r1 ?_ (H.jw.by hi (λy=>by rw[y.2]at hT;cases hT) r1 (λop hop y hy=>⟨hst _ (r2 op hop y hy).1,(r2 op hop y hy).2⟩) r3),less m (by omega),rest g',λ_ _ _ _=>⟨g',own g',hw'.running⟩⟩;rw[hT,BC,r4];exact⟨h0,.inr hw'⟩
end
def jD(P:AR)(Post:AN->AQ->Prop)(Sh:Nat->Prop)(Fz:Loc->Prop)(T:Nat->qz)(n h dd:Nat)(g:AO)(w:AQ):Prop:=
 ∀gs t q,qB P Sh Fz T n h dd g w gs t q->vS P Post gs w t
def qlg(Sh:Nat->Prop)(Fz:Loc->Prop)(B:Nat)(e:AW):Prop:=
 (∀x,(MemAct.ofEvent e).touch?=some x->(qiw Sh x.loc->x.kind≠.plain)/\(x.write=true->¬Fz x.loc))/\yz B (MemAct.ofEvent e)
structure zH(Sh:Nat->Prop)(Fz:Loc->Prop)(T:Nat->qz)(n h:Nat)(w w':AQ)(es:Array AW):Prop where
 fact:∀i s,i≠h->i<n->T i=.seat s->holds s.L w'/\w'.heap[s.c]?=w.heap[s.c]?
 evs:∀e,e∈es->qlg Sh Fz w'.heap.size e
 size:w.heap.size<=w'.heap.size
section
variable {P:AR}{Post:AN->AQ->Prop}{Sh:Nat->Prop}{Fz:Loc->Prop}{T:Nat->qz}{n h dd:Nat}{g:AO}{w:AQ}{gs:Array AO}{t:AT}{q:Nat->Nat}
theorem ju.events{St:Nat->Loc->Prop}{Lf:Nat->Prop}{B:Nat}(H:ju Sh Fz St Lf h B t)(hLh:¬Lf h)(he:∀e,e∈es->qlg Sh Fz B e):ju Sh Fz St Lf h B (t++Cl h fn pos es):=
 H.own hLh (λop hop=>by obtain⟨e,_,rfl⟩:=Go.Conc.mem_ofEvents hop;rfl) (λop hop x hx=>by obtain⟨e,hee,rfl⟩:=Go.Conc.mem_ofEvents hop;exact(he e hee).1 x hx) (λop hop=>by obtain⟨e,hee,rfl⟩:=Go.Conc.mem_ofEvents hop;exact(he e hee).2)
theorem qck:∀op∈Cl i fn pos es,op.g=i:=λop hop=>by obtain⟨e,_,rfl⟩:=Go.Conc.mem_ofEvents hop;rfl
theorem qB.stepped(H:qB P Sh Fz T n h dd g w gs t q){g':AO}(ho:zH Sh Fz T n h w w' es) :
   qB P Sh Fz T n h (deafBehind dd es) g' w' (gs.setIfInBounds h g') (t++Cl h fn pos es) q:=by
 have hsz:h<gs.size:=(Ab.1 H.here).1;refine⟨by simp[H.size],by rw[qbf _ _ _ _ hsz,if_pos rfl],λj y hj hy=>?_,λi s hi hin hT=>?_,H.apart,(H.jw.mono ho.size).events (λy=>y.1 rfl) ho.evs,by rw[BC,H.deaf],λj hj=>?_⟩
 . rw[qbf _ _ _ _ hsz,if_neg (λe=>hj e.symm)]at hy;rw[Bv t (λe=>hj e.symm) _ qck];exact H.ja j y hj hy
 . obtain⟨h1,h2⟩:=ho.fact i s hi hin hT;obtain⟨_,k,hc⟩:=H.fact i s hi hin hT;exact⟨h1,k,h2.trans hc⟩
 . have:h<n:=by rw[<-H.size];exact hsz
   rw[Bv t (by omega) _ qck];exact H.above j hj
theorem qB.again'(H:qB P Sh Fz T n h dd g w gs t q)(hc:∀i s,i≠h->i<n->T i=.seat s->w'.heap[s.c]?=w.heap[s.c]?){x:AO}(hi:i≠h)(hx:gs[i]?=some x):x.again w'=x:=by
 have hs:=H.ja i x hi hx;have hlt:=H.lt hx;cases hT:T i with
 |left=>rw[hT]at hs;exact By _ hs.2.status
 |seat s=>
  rw[hT]at hs;rcases hs.2 with ⟨_,rfl⟩|hw
  . obtain⟨_,k,hk⟩:=H.fact i s hi hlt hT;exact BB (k:=rcase s.c s.z) (c:=s.c) (s:=k) (r:=k) (tm:=false) rfl ((hc i s hi hlt hT).trans hk)
  . exact By _ (.inl hw.running)
theorem qB.vB(H:qB P Sh Fz T n h dd g w gs t q)(hc:∀i s,i≠h->i<n->T i=.seat s->w'.heap[s.c]?=w.heap[s.c]?)(g':AO):(gs.map (Bu P g g' w')).setIfInBounds h g'=gs.setIfInBounds h g':=by
 have hsz:h<gs.size:=(Ab.1 H.here).1;apply AH;intro j;rw[qbf _ _ _ _ (by simpa using hsz),qbf _ _ _ _ hsz];split
 . rfl
 . rename_i hj;rw[AG];cases hy:gs[j]? with
   |none=>rfl
   |some y=>
    have:Bu P g g' w' y=y:=by
     unfold Bu;split
     . exact H.again' hc (λe=>hj e.symm) hy
     . rfl
    simp[this]
theorem zH.chan(ho:zH Sh Fz T n h w w' es):∀i s,i≠h->i<n->T i=.seat s->w'.heap[s.c]?=w.heap[s.c]?:=λi s hi hn hT=>(ho.fact i s hi hn hT).2
theorem qp9(hs:g.status=.running)(step:∀d gs t q,qB P Sh Fz T n h dd g (w.at d) gs t q->∀sl,
     (∃gs' w' sl' ops,runT P (crowd gs (w.at d) sl) h=(.next (crowd gs' w' sl'),ops)/\vS P Post gs' w' (t++ops))∨∃o w' ops,runT P (crowd gs (w.at d) sl) h=(.ended o w',ops)/\∀w₀ sl₀,Good P Post (crowd gs w₀ sl₀) o w' (t++ops)) :
 jD P Post Sh Fz T n h dd g w:=by
 have key:∀m d gs t q,sumTo n q=m->qB P Sh Fz T n h dd g (w.at d) gs t q->vS P Post gs (w.at d) t:=by
  intro m
  induction m using CX with
  |_ m ih=>
   intro d gs t q hm H;refine qhr (H.awake (λtm e=>by rw[hs]at e;cases e)) ⟨h,g,H.here,hs⟩ (λi x d' sl hx hr=>?_);by_cases hi:i=h
   . subst hi;rw[H.here]at hx;cases hx;rcases step d' gs t q (H.at d') sl with h1|⟨o,w',ops,h1,h2⟩
     . exact .inl h1
     . exact .inr ⟨o,w',ops,h1,λsl₀=>h2 _ sl₀⟩
   . left;obtain⟨gs',ops,q',h1,h2,h3,_⟩:=H.vA hi hx hr d' sl (By _ (.inl hs)) (λs _ _ _=>offersAt_of_not_blocked (by rw[hs];simp) _ _);exact⟨gs',_,sl,ops,h1,ih _ (by omega) d' gs' _ q' rfl h2⟩
 intro gs t q H;have:=key _ w.drawn gs t q rfl (H.at w.drawn);exact this
theorem qo8(hs:g.status=.running)(step:∀d,∃g' w' es,stepG P (h==0) g (w.at d)=.go g' w' es/\zH Sh Fz T n h (w.at d) w' es/\jD P Post Sh Fz T n h (deafBehind dd es) g' w'):jD P Post Sh Fz T n h dd g w:=by
 refine qp9 hs (λd gs t q H sl=>?_);obtain⟨g',w',es,h1,h2,h3⟩:=step d;have hrun:=BF (P:=P) (sl:=sl) H.here h1;rw[H.vB h2.chan g']at hrun;exact .inl ⟨_,w',sl,_,hrun,h3 _ _ _ (H.stepped h2)⟩
theorem q7a(hs:g.status=.running)(hl:∀i,i<n->i≠0->T i=.left)(hout:∀i,n<=i->T i=.left)
   (step:∀d,∃v w' es,stepG P true g (w.at d)=.ended (.done v) w' es/\(∀e,e∈es->qlg Sh Fz w.heap.size e)/\Post v w'):jD P Post Sh Fz T n 0 0 g w:=by
 refine qp9 hs (λd gs t q H sl=>?_);obtain⟨v,w',es,h1,h2,h3⟩:=step d;refine .inr ⟨.done v,w',_,runT_many_ended H.here h1,λw₀ sl₀=>?_⟩;have hh:=H.jw.events (λy=>y.1 rfl) (fn:=g.frame.fn) (pos:=g.frame.place) h2;generalize hu:Cl 0 g.frame.fn g.frame.place es=u at hh;have hg:∀op∈u,op.g=0:=by rw[<-hu];exact qck
 refine⟨v,rfl,h3,hh.clean,?_,⟨?_,rfl⟩,?_⟩
 . intro i k hgi hk hc;have hlt:k<n∨n<=k:=Nat.lt_or_ge k n;have hL:LfT T 0 k:=⟨hk,hlt.elim (λh1=>hl k h1 hk) (λh1=>hout k h1)⟩;obtain⟨p,z,hz,hzg,hb⟩:=hh.over i k hgi hL hc;refine⟨p,by simp[Trace.g?,hz,hzg],?_⟩;rcases hb with rfl|hb
   . exfalso;rw[show (t++u).g? i=some z.g from by simp[Trace.g?,hz]]at hgi;cases hgi;exact hk hzg
   . exact hb
 . intro x hx;obtain⟨i,hi⟩:=getElem?_of_mem hx;rw[getElem?_drop]at hi;have hxi:gs[1+i]?=some x:=by rw[<-Array.getElem?_toList];exact hi
   have hsx:=H.ja (1+i) x (by omega) hxi;rw[hl _ (H.lt hxi) (by omega)]at hsx;exact⟨_,hsx.2.leaves⟩
 . intro i x hxi hi0;have hsx:=H.ja i x hi0 hxi;rw[hl _ (H.lt hxi) hi0]at hsx;refine⟨q i,?_⟩;have e:(t++u).deaf i (t++u).size=Deaf t i:=Bv t (λe=>hi0 e.symm) u hg;rw[e];exact hsx.2.hears _
theorem ju.grow{St St':Nat->Loc->Prop}{Lf Lf':Nat->Prop}{B:Nat}{u:AT}(H:ju Sh Fz St Lf h B t)(ho:∀op∈u,op.act.touch?=none)(hk:∀i,Bz t h i->Bz (t++u) c i)(hs:∀j,j≠h->j≠c->∀l,St' j l->St j l)
   (hf:∀j l,St' j l->Fz l/\¬qiw Sh l/\l.isMemory=true) (hlf:∀j,Lf' j->Lf j):ju Sh Fz St' Lf' h B (t++u):=by
 have hm:=H.mute ho;refine⟨hm.clean,hm.known,λj hj i a ha hs' hw=>?_,hm.seen,hm.quiet,hf,λi j hg hL hc=>hm.over i j hg (hlf j hL) hc⟩;rcases qbk ha with ⟨_,ha'⟩|⟨_,op,hop,_,hxa⟩
 . by_cases hjc:j=c
   . subst hjc;rcases H.known i a ha' (hf j _ hs').2.2 with h1|⟨h1,_⟩|⟨_,h1,_⟩
     . exact hk i h1
     . exact absurd h1 (hf j _ hs').2.1
     . rw[h1]at hw;cases hw
   . exact(H.wrote j hj i a ha' (hs j hj hjc _ hs') hw).app u
 . rw[ho op hop]at hxa;cases hxa
theorem qs8{l:Loc}(h:StL L l):l.isMemory=true:=by obtain⟨x,_,rfl⟩:=h;rfl
theorem q9b(hs:g.status=.running)(step:∀d,∃g' child w' es,stepG P (h==0) g (w.at d)=.spawn g' child w' es/\zH Sh Fz T n h (w.at d) w' es/\deafBehind 0 es=0/\∃s m κ,holds s.L w'/\w'.heap[s.c]?=some (.chan 0 #[] false κ κ false) /\
     (∀i s',i≠h->i<n->T i=.seat s'->s'.c≠s.c)/\Way P false s m child/\(∀l,StL s.L l->Fz l/\¬qiw Sh l)/\jD P Post Sh Fz (upd T n (.seat s)) (n+1) h 0 g' w'):jD P Post Sh Fz T n h 0 g w:=by
 refine qp9 hs (λd gs t q H sl=>?_);obtain⟨g',child,w',es,h1,h2,h3,s,m,κ,h4,h5,h6,h7,h8,h9⟩:=step d;have hsz:h<gs.size:=(Ab.1 H.here).1;have hhn:h<n:=by rw[<-H.size];exact hsz
 have hrun:=runT_crowd_spawn (P:=P) (sl:=sl) H.here h1;refine .inl ⟨_,w',sl,_,hrun,h9 _ _ (upd q n m) ?_⟩;have H1:=H.stepped (g':=g') (fn:=g.frame.fn) (pos:=g.frame.place) h2;rw[h3]at H1;generalize hu:Cl h g.frame.fn g.frame.place es=u at H1;have hops:∀(a b:Be),t++(u.push a |>.push b)=(t++u)++#[a,b]:=λa b=>by apply Array.ext';simp
 rw[hops,H.size];generalize ha0:({g:=h,fn:=g.frame.fn,pos:=g.frame.place,act:=.go n}:Be)=a0;generalize ha1:({g:=n,fn:=child.frame.fn,pos:=g.frame.place,act:=.start}:Be)=a1;have e0:a0.g=h/\a0.act=.go n:=by subst ha0;exact⟨rfl,rfl⟩
 have e1:a1.g=n/\a1.act=.start:=by subst ha1;exact⟨rfl,rfl⟩
 have still:∀j,Deaf ((t++u)++#[a0,a1]) j=Deaf (t++u) j:=λj=>by
  have:((t++u)++#[a0,a1])=(t++u)++[a0,a1].toArray:=rfl;rw[this,BI];simp only[foldl_cons,foldl_nil,deafStep,e0.2,e1.2]
 have mt:∀op∈(#[a0,a1]:AT),op.act.touch?=none:=λop hop=>by
  have:op=a0∨op=a1:=by simpa using hop
  rcases this with rfl|rfl
  . rw[e0.2];rfl
  . rw[e1.2];rfl
 refine⟨by simp[H.size],?_,λj y hj hy=>?_,λi s' hi hin hT=>?_,λi j s1 s2 hi hj hin hjn hT1 hT2 hcc=>?_,H1.jw.grow (c:=n) mt (λi hi=>q69 e0 e1 H1.deaf (H1.above n (CQ _)) hi) (λj hj hjn l hl=>?_) (λj l hl=>?_) (λj hj=>⟨hj.1,?_⟩),by rw[still];exact H1.deaf,λj hj=>by rw[still];exact H1.above j (by omega)⟩
 . rw[Ai];rw[if_neg (by simp;omega)];rw[qbf _ _ _ _ hsz,if_pos rfl]
 . rw[Ai]at hy;rw[still];split at hy
   . rename_i hjs;cases hy;have hjn:j=n:=by rw[hjs];simp[H.size]
     subst hjn;rw[upd_same,upd_same];exact⟨H1.above j (CQ _),.inr (by rw[show (j==0)=false from by simp;omega];exact h7)⟩
   . have hlt:j < n:=by
      have:=(Ab.1 hy).1;rw[<-H.size];simpa using this
     rw[upd_ne T _ (by omega),upd_ne q _ (by omega)];exact H1.ja j y hj hy
 . by_cases zg:i=n
   . subst zg;rw[upd_same]at hT;cases hT;exact⟨h4,κ,h5⟩
   . rw[upd_ne T _ zg]at hT;exact H1.fact i s' hi (by omega) hT
 . by_cases hi':i=n
   . subst hi';rw[upd_same]at hT1;cases hT1;by_cases hj':j=i
     . exact hj'.symm
     . rw[upd_ne T _ hj']at hT2;exact absurd hcc.symm (h6 j s2 hj (by omega) hT2)
   . rw[upd_ne T _ hi']at hT1;by_cases hj':j=n
     . subst hj';rw[upd_same]at hT2;cases hT2;exact absurd hcc (h6 i s1 hi (by omega) hT1)
     . rw[upd_ne T _ hj']at hT2;exact H.apart i j s1 s2 hi hj (by omega) (by omega) hT1 hT2 hcc
 . obtain⟨k1,k2,s',k3,k4⟩:=hl;rw[upd_ne T _ hjn]at k3;exact⟨k1,by omega,s',k3,k4⟩
 . obtain⟨k1,k2,s',k3,k4⟩:=hl;by_cases hjn:j=n
   . subst hjn;rw[upd_same]at k3;cases k3;exact⟨(h8 l k4).1,(h8 l k4).2,qs8 k4⟩
   . rw[upd_ne T _ hjn]at k3;exact H.jw.sub j l ⟨k1,by omega,s',k3,k4⟩
 . obtain⟨_,k2⟩:=hj;by_cases hjn:j=n
   . subst hjn;rw[upd_same]at k2;cases k2
   . rw[upd_ne T _ hjn]at k2;exact k2
end
section
variable {P:AR}{Post:AN->AQ->Prop}{Sh:Nat->Prop}{Fz:Loc->Prop}{T:Nat->qz}{n h dd:Nat}{g:AO}{w:AQ}{gs:Array AO}{t:AT}{q:Nat->Nat}
theorem qgj(w:AQ)(h:r≠c)(buf:Array AN)(cl:Bool)(a b:Nat):(w.setChan c 0 buf cl a b false).heap[r]?=w.heap[r]?:=by
 simp only[AQ.setChan];rw[AB (λe=>h e.symm)]
theorem qhs(hL:holds L w)(hc:w.heap[c]?=some (.chan 0 #[] false κ κ false))(buf:Array AN)(cl:Bool)(a b:Nat):holds L (w.setChan c 0 buf cl a b false):=by
 intro x hx;have h1:=hL x hx
 have hne:x.1.block≠c:=by
  intro e;unfold CI at h1;rw[e,hc]at h1;cases h1
 unfold CI at h1 |-;rw[qgj w hne];exact h1
theorem qB.read(H:qB P Sh Fz T n h dd g w gs t q){s:jF}(hk:k≠h)(hkn:k<n)(hT:T k=.seat s)(hes:∀e,e∈es->qp8 s.L e)(fn:AU)(pos:String) :
   qB P Sh Fz T n h dd g w gs (t++Cl k fn pos es) q:=by
 obtain⟨hL,_⟩:=H.fact k s hk hkn hT;have⟨r1,r2,r3,r4⟩:=qt7 (i:=k) (fn:=fn) (pos:=pos) hes (qiz hL)
 have still:∀j,Deaf (t++Cl k fn pos es) j=Deaf t j:=λj=>by
  by_cases e:k=j
  . subst e;rw[BC,r4]
  . exact Bv t e _ r1
 exact⟨H.size,H.here,λi x hi hx=>by rw[still];exact H.ja i x hi hx,H.fact,H.apart,H.jw.by hk (λy=>by rw[y.2]at hT;cases hT) r1 (λop hop y hy=>⟨⟨hk,hkn,s,hT,(r2 op hop y hy).1⟩,(r2 op hop y hy).2⟩) r3,by rw[still];exact H.deaf,λj hj=>by rw[still];exact H.above j hj⟩
theorem qB.lists(H:qB P Sh Fz T n h dd g w gs t q)(hes:∀e,e∈es->qlg Sh Fz w.heap.size e)(hd:deafBehind dd es=dd)(fn:AU)(pos:String):qB P Sh Fz T n h dd g w gs (t++Cl h fn pos es) q:=by
 have still:∀j,Deaf (t++Cl h fn pos es) j=Deaf t j:=λj=>by
  by_cases e:h=j
  . subst e;rw[BC,H.deaf,hd]
  . exact Bv t e _ qck
 exact⟨H.size,H.here,λi x hi hx=>by rw[still];exact H.ja i x hi hx,H.fact,H.apart,H.jw.events (λy=>y.1 rfl) hes,by rw[still];exact H.deaf,λj hj=>by rw[still];exact H.above j hj⟩
theorem qB.met(H:qB P Sh Fz T n h 0 g w gs t q){s sh:jF}(hk:k≠h)(hkn:k<n)(hT:T k=.seat s)(hc:w.heap[s.c]?=some (.chan 0 #[] false κ κ false))
   {gh gk:AO}  (y9:Way P (h==0) sh mh gh) (hL:holds sh.L w) (hch:∃κ',w.heap[sh.c]?=some (.chan 0 #[] false κ' κ' false)) (hd:sh.c≠s.c) (hdo:∀i s',i≠h->i≠k->i<n->T i=.seat s'->s'.c≠sh.c) (hfz:∀l,StL sh.L l->Fz l/\¬qiw Sh l)
   {gs':Array AO} (hsz:gs'.size=n) (hgk:gs'[k]?=some gk) (hgh:gs'[h]?=some gh) (hgo:∀j,j≠h->j≠k->gs'[j]?=gs[j]?)
    (e0:a0.g=h/\a0.act=.send s.c κ) (e1:a1.g=k/\a1.act=.recv s.c κ 0) (e2:a2.g=h/\a2.act=.sendDone s.c κ) (e3:a3.g=k/\a3.act=.recvDone s.c κ) :
   qB P Sh Fz (upd T h (.seat sh)) n k 0 gk (w.setChan s.c 0 #[] false (κ+1) (κ+1) false) gs' (t++#[a0,a1,a2,a3]) (upd q h mh):=by
 have hhn:h<n:=H.lt H.here;obtain⟨xk,hxk⟩:∃x,gs[k]?=some x:=⟨_,AE (by rw[H.size];exact hkn)⟩
 have dk:Deaf t k=0:=by
  have:=H.ja k xk hk hxk;rw[hT]at this;exact this.1
 have still:∀j,Deaf (t++#[a0,a1,a2,a3]) j=Deaf t j:=λj=>by
  have:(t++#[a0,a1,a2,a3])=t++[a0,a1,a2,a3].toArray:=rfl;rw[this,BI];simp only[foldl_cons,foldl_nil,deafStep,e0.2,e1.2,e2.2,e3.2]
 have four:∀op∈(#[a0,a1,a2,a3]:AT),op=a0∨op=a1∨op=a2∨op=a3:=λop hop=>by simpa using hop
 have mt:∀op∈(#[a0,a1,a2,a3]:AT),op.act.touch?=none:=λop hop=>by
  rcases four op hop with rfl|rfl|rfl|rfl
  . rw[e0.2];rfl
  . rw[e1.2];rfl
  . rw[e2.2];rfl
  . rw[e3.2];rfl
 have hcs:∀r κ',r≠s.c->w.heap[r]?=some (.chan 0 #[] false κ' κ' false)->(w.setChan s.c 0 #[] false (κ+1) (κ+1) false).heap[r]?=some (.chan 0 #[] false κ' κ' false):=λr κ' hr h'=>by rw[qgj w hr];exact h'
 have hm:=H.jw.mute mt;refine⟨hsz,hgk,λj y hj hy=>?_,λi s' hi hin hT'=>?_,λi j s1 s2 hi hj hin hjn hT1 hT2 hcc=>?_,?_,by rw[still];exact dk,λj hj=>by rw[still];exact H.above j hj⟩
 . rw[still];by_cases hjh:j=h
   . subst hjh;rw[hgh]at hy;cases hy;rw[upd_same,upd_same];exact⟨H.deaf,.inr y9⟩
   . rw[hgo j hjh hj]at hy;rw[upd_ne T _ hjh,upd_ne q _ hjh];exact H.ja j y hjh hy
 . by_cases hih:i=h
   . subst hih;rw[upd_same]at hT';cases hT';obtain⟨κ',hκ⟩:=hch;exact⟨qhs hL hc _ _ _ _,κ',hcs _ _ hd hκ⟩
   . rw[upd_ne T _ hih]at hT';obtain⟨h1,κ',h2⟩:=H.fact i s' hih hin hT';refine⟨qhs h1 hc _ _ _ _,κ',hcs _ _ (λe=>hi ?_) h2⟩;exact H.apart i k s' s hih hk hin hkn hT' hT e
 . by_cases hih:i=h
   . subst hih;rw[upd_same]at hT1;cases hT1;by_cases hjh:j=i
     . exact hjh.symm
     . rw[upd_ne T _ hjh]at hT2;exact absurd hcc.symm (hdo j s2 hjh hj hjn hT2)
   . rw[upd_ne T _ hih]at hT1;by_cases hjh:j=h
     . subst hjh;rw[upd_same]at hT2;cases hT2;exact absurd hcc (hdo i s1 hih hi hin hT1)
     . rw[upd_ne T _ hjh]at hT2;exact H.apart i j s1 s2 hih hjh hin hjn hT1 hT2 hcc
 . have hsize:(w.setChan s.c 0 #[] false (κ+1) (κ+1) false).heap.size=w.heap.size:=by simp[AQ.setChan]
   rw[hsize]
   have sub':∀j l,StT (upd T h (.seat sh)) n k j l->Fz l/\¬qiw Sh l/\l.isMemory=true:=by
    rintro j l ⟨k1,k2,s',k3,k4⟩;by_cases hjh:j=h
    . subst hjh;rw[upd_same]at k3;cases k3;exact⟨(hfz l k4).1,(hfz l k4).2,qs8 k4⟩
    . rw[upd_ne T _ hjh]at k3;exact H.jw.sub j l ⟨hjh,k2,s',k3,k4⟩
   refine⟨hm.clean,λi a ha hmem=>?_,λj hj i a ha hs hw=>?_,hm.seen,hm.quiet,sub',λi j hg hL hc'=>?_⟩
   . rcases qbk ha with ⟨_,ha'⟩|⟨_,op,hop,_,hxa⟩
     . exact(H.jw.known i a ha' hmem).imp (qs7 e0 ⟨κ,0,e1.2⟩ e2.2 e3 H.deaf dk) id
     . rw[mt op hop]at hxa;cases hxa
   . rcases qbk ha with ⟨_,ha'⟩|⟨_,op,hop,_,hxa⟩
     . by_cases hjh:j=h
       . subst hjh;rcases H.jw.known i a ha' (sub' j _ hs).2.2 with h1|⟨h1,_⟩|⟨_,h1,_⟩
         . exact h1.app _
         . exact absurd h1 (sub' j _ hs).2.1
         . rw[h1]at hw;cases hw
       . obtain⟨k1,k2,s',k3,k4⟩:=hs;rw[upd_ne T _ hjh]at k3;exact(H.jw.wrote j hjh i a ha' ⟨hjh,k2,s',k3,k4⟩ hw).app _
     . rw[mt op hop]at hxa;cases hxa
   . have hjh:j≠h:=fun e=>by
      have:=hL.2;rw[e,upd_same]at this;cases this
     have hL':LfT T h j:=⟨hjh,by have:=hL.2;rw[upd_ne T _ hjh]at this;exact this⟩;obtain⟨x,hx,hxm,hxh⟩:=hc';rcases qbk hx with ⟨hi,hx'⟩|⟨_,op,hop,_,hxa⟩
     . exact qs7 e0 ⟨κ,0,e1.2⟩ e2.2 e3 H.deaf dk (H.jw.over i j (by rw[g?_old hi]at hg;exact hg) hL' ((counts_old hi).1 ⟨x,hx,hxm,hxh⟩))
     . rw[mt op hop]at hxa;cases hxa
theorem qv2(H:qB P Sh Fz T n h dd g w gs t q){y:AO}(hj:j≠h)(hy:gs[j]?=some y)(c:Nat):offersAt y c true=[]:=by
 have hsj:=H.ja j y hj hy;cases hTj:T j with
 |left=>rw[hTj]at hsj;exact offersAt_of_not_blocked (by rcases hsj.2.status with e|e<;>rw[e]<;>simp) _ _
 |seat s'=>
  rw[hTj]at hsj;rcases hsj.2 with ⟨_,rfl⟩|hw'
  . exact offersAt_parked_recv' _ _ _ _ _
  . exact offersAt_of_not_blocked (by rw[hw'.running];simp) _ _
theorem qqa(H:qB P Sh Fz T n h dd g w gs t q){y:AO}(hj:j≠h)(hy:gs[j]?=some y)(hc:∀s,T j=.seat s->y=qf0 s->s.c≠c):offersAt y c false=[]:=by
 have hsj:=H.ja j y hj hy;cases hTj:T j with
 |left=>rw[hTj]at hsj;exact offersAt_of_not_blocked (by rcases hsj.2.status with e|e<;>rw[e]<;>simp) _ _
 |seat s'=>
  rw[hTj]at hsj;rcases hsj.2 with ⟨_,rfl⟩|hw'
  . have:=hc s' hTj rfl;unfold qf0;rw[offersAt_parked_recv,if_neg this]
  . exact offersAt_of_not_blocked (by rw[hw'.running];simp) _ _
theorem q4g(hs:g.status=.running){s sh:jF}(hk:k≠h)(hkn:k<n)(hT:T k=.seat s){z:AN}(hc:w.heap[s.c]?=some (.chan 0 #[] false κ κ false))
   (step:∃es,(∀d,stepG P (h==0) g (w.at d)=.comm g #[scase s.c v z] true .send (w.at d) es)/\(∀e,e∈es->qlg Sh Fz w.heap.size e)/\deafBehind 0 es=0)
    (y9:Way P (h==0) sh mh (BH g undef)) (hL:holds sh.L w) (hch:∃κ',w.heap[sh.c]?=some (.chan 0 #[] false κ' κ' false)) (hd:sh.c≠s.c) (hdo:∀i s',i≠h->i≠k->i<n->T i=.seat s'->s'.c≠sh.c) (hfz:∀l,StL sh.L l->Fz l/\¬qiw Sh l)
   (next:∀d,jD P Post Sh Fz (upd T h (.seat sh)) n k 0 (BH (G s.fr s.cs) (recvd s.ok v true)) ((w.at d).setChan s.c 0 #[] false (κ+1) (κ+1) false)):jD P Post Sh Fz T n h 0 g w:=by
 obtain⟨es,hst,hes,hdf⟩:=step
 have second:∀m d gs t q,sumTo n q=m->qB P Sh Fz T n h 0 (parked g #[scase s.c v z] .send) (w.at d) gs t q->(∃x,gs[k]?=some x/\x.status=.running)->vS P Post gs (w.at d) t:=by
  intro m
  induction m using CX with
  |_ m ih=>
   intro d gs t q hm H hkr;have hks:k<gs.size:=by rw[H.size];exact hkn
   obtain⟨xk,hxk,hxr⟩:=hkr;refine qhr (H.awake (λtm e=>by cases e)) ⟨k,xk,hxk,hxr⟩ (λi x d' sl hx hr=>.inl ?_);by_cases hi:i=h
   . subst hi;rw[H.here]at hx;cases hx;cases hr
   . by_cases hcomm:i=k/\x=G s.fr s.cs/\qiy P (i==0) s
     . obtain⟨rfl,rfl,esk,hstep,qfA⟩:=hcomm;obtain⟨hLk,_⟩:=H.fact i s hi hkn hT;have H':=H.at d'
       have hp:partners (gs.setIfInBounds i ph) s.c true=[(h,0)]:=by
        rw[partners_one (stand_get (i:=i) (λe=>hi e.symm) H.here) (λj y hj hy=>?_)]
        . rw[offersAt_parked_send,if_pos rfl];rfl
        . rcases getElem?_stand gs i j y hy with ⟨_,rfl⟩|⟨hji,hy'⟩
          . exact offersAt_ph _ _
          . exact qv2 H hj hy' s.c
       have hrun:=crowd_recv_meets (P:=P) (sl:=sl) (gj:=g) (v:=v) (zj:=z) (shj:=.send) hx (hstep (w.at d') hLk) (show (w.at d').heap[s.c]?=some (.chan 0 #[] false κ κ false)from hc) (λe=>hi e.symm) H.here hp;rw[finishComm_send,finishComm_recv]at hrun;refine⟨_,_,sl,_,hrun,next d' _ _ (upd q h mh) ?_⟩;rw[<-Ay];have Hr:=H'.read hi hkn hT qfA (G s.fr s.cs).frame.fn (G s.fr s.cs).frame.place;have hhs:h<gs.size:=(Ab.1 H.here).1
       exact Hr.met hi hkn hT hc y9 hL hch hd hdo hfz (by simp[H.size]) (by rw[qbf _ _ _ _ (by simpa using hks),if_pos rfl]) (by rw[qbf _ _ _ _ (by simpa using hks),if_neg hi,qbf _ _ _ _ hhs,if_pos rfl])
        (λj hj hji=>by rw[qbf _ _ _ _ (by simpa using hks),if_neg (λe=>hji e.symm),qbf _ _ _ _ hhs,if_neg (λe=>hj e.symm)]) ⟨rfl,rfl⟩ ⟨rfl,rfl⟩ ⟨rfl,rfl⟩ ⟨rfl,rfl⟩
     . obtain⟨gs',ops,q',h1,h2,h3,h4,h5⟩:=H.vA hi hx hr d' sl (BB (k:=scase s.c v z) (c:=s.c) (s:=κ) (r:=κ) (tm:=false) rfl hc) (fun s' hT' hx' hc'=>by
        rw[offersAt_parked_send];refine if_neg (λe=>hcomm ?_);have hik:i=k:=H.apart i k s' s hi hk (H.lt hx) hkn hT' hT e.symm;subst hik;rw[hT]at hT';cases hT';exact⟨rfl,hx',hc'⟩)
       refine⟨gs',_,sl,ops,h1,ih _ (by omega) d' gs' _ q' rfl h2 ?_⟩;by_cases hik:i=k
       . subst hik;exact h5 s hT hr (λy=>hcomm ⟨rfl,y⟩)
       . rw[h4 k (λe=>hik e.symm)];exact⟨xk,hxk,hxr⟩
 refine qp9 hs (λd gs t q H sl=>.inl ?_);have hhs:h<gs.size:=(Ab.1 H.here).1;have hks:k<gs.size:=by rw[H.size];exact hkn
 obtain⟨xk,hxk⟩:∃x,gs[k]?=some x:=⟨_,AE hks⟩;have hsk:=H.ja k xk hk hxk;rw[hT]at hsk;have Hl:=H.lists hes hdf g.frame.fn g.frame.place;rcases hsk.2 with ⟨_,rfl⟩|hw
 ·
  have hp:partners (gs.setIfInBounds h ph) s.c false=[(k,0)]:=by
   rw[partners_one (stand_get (i:=h) hk hxk) (λj y hj hy=>?_)]
   . unfold qf0;rw[offersAt_parked_recv,if_pos rfl];rfl
   . rcases getElem?_stand gs h j y hy with ⟨_,rfl⟩|⟨hjh,hy'⟩
     . exact offersAt_ph _ _
     . exact qqa H hjh hy' (λs' hT' _ e=>hj (H.apart j k s' s hjh hk (H.lt hy') hkn hT' hT e))
  have hrun:=crowd_send_meets (P:=P) (sl:=sl) (gj:=G s.fr s.cs) (zj:=s.z) (shj:=.recv s.ok) H.here (hst d) (show (w.at d).heap[s.c]?=some (.chan 0 #[] false κ κ false)from hc) hk hxk hp;rw[finishComm_send,finishComm_recv]at hrun;refine⟨_,_,sl,_,hrun,next d _ _ (upd q h mh) ?_⟩;rw[<-Ay]
  exact Hl.met hk hkn hT hc y9 hL hch hd hdo hfz (by simp[H.size]) (by rw[qbf _ _ _ _ (by simpa using hhs),if_neg (λe=>hk e.symm),qbf _ _ _ _ hks,if_pos rfl]) (by rw[qbf _ _ _ _ (by simpa using hhs),if_pos rfl])
   (λj hj hji=>by rw[qbf _ _ _ _ (by simpa using hhs),if_neg (λe=>hj e.symm),qbf _ _ _ _ hks,if_neg (λe=>hji e.symm)]) ⟨rfl,rfl⟩ ⟨rfl,rfl⟩ ⟨rfl,rfl⟩ ⟨rfl,rfl⟩
 ·
  have hp:partners (gs.setIfInBounds h ph) s.c false=[]:=partners_nil (λj y hy=>by
   rcases getElem?_stand gs h j y hy with ⟨_,rfl⟩|⟨hjh,hy'⟩
   . exact offersAt_ph _ _
   . refine qqa H hjh hy' (λs' hT' hx' e=>?_);have hjk:j=k:=H.apart j k s' s hjh hk (H.lt hy') hkn hT' hT e;subst hjk;rw[hxk]at hy';cases hy';have:=hw.running;rw[hx']at this;cases this)
  have hrun:=crowd_waits (P:=P) (sl:=sl) H.here (hst d) (λcc hcc=>by
   have:cc=scase s.c v z:=by simpa using hcc
   subst this;exact ways_send_none (s:=κ) (r:=κ) (tm:=false) (show (w.at d).heap[s.c]?=some (.chan 0 #[] false κ κ false)from hc) (CQ _) hp)
  refine⟨_,_,sl,_,hrun,second _ d _ _ q rfl ?_ ⟨xk,by rw[qbf _ _ _ _ hhs,if_neg (λe=>hk e.symm)];exact hxk,hw.running⟩⟩;refine⟨by simp[H.size],by rw[qbf _ _ _ _ hhs,if_pos rfl],λj y hj hy=>?_,Hl.fact,Hl.apart,Hl.jw,Hl.deaf,Hl.above⟩;rw[qbf _ _ _ _ hhs,if_neg (λe=>hj e.symm)]at hy;exact Hl.ja j y hj hy
end
end
section
inductive Ok (A:Addr->Prop) (F:AU->Prop):AN->Prop
 |bool (b:Bool):Ok A F (.bool b)
 |int (k:AV) (n:Int):Ok A F (.int k n)
 |string (s:ByteArray):Ok A F (.string s)
 |pointer {a:Option Addr}:(∀x,a=some x->A x)->Ok A F (.pointer a)
 |slice {a:Option Addr} (n c:Nat):(∀x,a=some x->A x)->Ok A F (.slice a n c)
 |map {r:Option Nat}:(∀x,r=some x->A ⟨x,0,none⟩)->Ok A F (.map r)
 |chan {r:Option Nat}:(∀x,r=some x->A ⟨x,0,none⟩)->Ok A F (.chan r)
 |func {f:AU} {first captured:Array AN}:F f->(∀v,v∈first->Ok A F v)->(∀v,v∈captured->Ok A F v)->Ok A F (.func (.func f) first captured)
 |nilFunc:Ok A F .nilFunc
 |iface (t:AP) {v:AN}:Ok A F v->Ok A F (.iface t v)
 |nilIface:Ok A F .nilIface
 |agg {cs:Array AN}:(∀v,v∈cs->Ok A F v)->Ok A F (.agg cs)
 |tuple {cs:Array AN}:(∀v,v∈cs->Ok A F v)->Ok A F (.tuple cs)
def qfa:Nat->AN->Bool
 |0,_=>false
 |_+1,.bool _|_+1,.int _ _|_+1,.string _|_+1,.nilFunc|_+1,.nilIface=>true
 |_+1,.pointer a=>a.isNone
 |_+1,.slice a _ _=>a.isNone
 |_+1,.map r=>r.isNone
 |_+1,.chan r=>r.isNone
 |n+1,.iface _ v=>qfa n v
 |n+1,.agg cs=>cs.all (qfa n)
 |n+1,.tuple cs=>cs.all (qfa n)
 |_+1,.func _ _ _|_+1,.float _ _|_+1,.complex _ _ _=>false
section
variable {A:Addr->Prop}{F:AU->Prop}
theorem Ok.undef:Ok A F undef:=.tuple (λv h=>by simp at h)
theorem Ok.goInt(n:Int):Ok A F (goInt n):=.int _ _
theorem Ok.ptr(h:A a):Ok A F (.pointer (some a)):=.pointer (λx e=>by cases e;exact h)
theorem Ok.nilPtr:Ok A F (.pointer none):=.pointer (λx e=>by cases e)
theorem Ok.jb(h:Ok A F (.pointer (some a))):A a:=by cases h with|pointer h=>exact h _ rfl
theorem Ok.of_slice(h:Ok A F (.slice (some a) n c)):A a:=by cases h with|slice _ _ h=>exact h _ rfl
theorem Ok.of_map(h:Ok A F (.map (some r))):A ⟨r,0,none⟩:=by cases h with|map h=>exact h _ rfl
theorem Ok.jk(h:Ok A F (.agg cs)):∀v,v∈cs->Ok A F v:=by cases h with|agg h=>exact h
theorem Ok.zo(h:Ok A F (.tuple cs)):∀v,v∈cs->Ok A F v:=by cases h with|tuple h=>exact h
theorem Ok.jl(h:Ok A F (.iface t v)):Ok A F v:=by cases h with|iface _ h=>exact h
theorem Ok.cells(h:Ok A F v):∀u,u∈v.cells->Ok A F u:=by
 intro u hu;unfold Value.cells at hu;split at hu
 . exact h.jk u hu
 . rw[Ah]at hu;rw[hu];exact h
theorem qql:∀(n:Nat) (v:AN),qfa n v=true->Ok A F v:=by
 intro n
 induction n with
 |zero=>intro v h;simp[qfa]at h
 |succ n ih=>
  intro v h;cases v with
  |bool b=>exact .bool b
  |int k n=>exact .int k n
  |float k n=>simp[qfa]at h
  |complex k a b=>simp[qfa]at h
  |string s=>exact .string s
  |pointer a=>cases a with
   |none=>exact .nilPtr
   |some a=>simp[qfa]at h
  |slice a n c=>cases a with
   |none=>exact .slice _ _ (λx e=>by cases e)
   |some a=>simp[qfa]at h
  |map r=>cases r with
   |none=>exact .map (λx e=>by cases e)
   |some a=>simp[qfa]at h
  |chan r=>cases r with
   |none=>exact .chan (λx e=>by cases e)
   |some a=>simp[qfa]at h
  |func fn a b=>simp[qfa]at h
  |nilFunc=>exact .nilFunc
  |iface t v=>exact .iface t (ih v (by simpa[qfa]using h))
  |nilIface=>exact .nilIface
  |agg cs=>
   refine .agg (λv hv=>ih v ?_);simp only[qfa]at h;obtain⟨i,hi,rfl⟩:=Az.1 hv;exact AJ.1 h i hi
  |tuple cs=>
   refine .tuple (λv hv=>ih v ?_);simp only[qfa]at h;obtain⟨i,hi,rfl⟩:=Az.1 hv;exact AJ.1 h i hi
end
def qwj(A:Addr->Prop)(F:AU->Prop):Obj->Prop
 | .cells c _ fr=>fr=(0,0)/\∀v,v∈c->Ok A F v
 | .map es _=>∀e,e∈es->Ok A F e.key/\Ok A F e.val
 | .mapIter m _ _ _=>∀x,m=some x->A ⟨x,0,none⟩
 | .stringIter _ _=>True
 | .number a _=>∃b:Addr,A b/\b.block=a.block
 | .chan _ _ _ _ _ _=>True
 |_=>False
structure Pen where
 P:AR
 A:Addr->Prop
 F:AU->Prop
 N:Nat
 fresh:∀a:Addr,N<=a.block->A a
 up:∀a b:Addr,A a->b.block=a.block->a.off<=b.off->A b
 Pt:Nat->Prop
 Z:Nat->Prop
 Ch:Nat->Prop
 old:∀r,Pt r∨Ch r->r<N
 zp:∀r,Z r->Pt r
 G:Nat
 K:Nat
 X:AU->Nat->Prop:=λ_ _=>False
def Pen.B(C:Pen)(r:Nat):Prop:=∃a:Addr,C.A a/\a.block=r
theorem Pen.B.of{C:Pen}(h:C.A a):C.B a.block:=⟨a,h,rfl⟩
theorem Pen.B.obj{C:Pen}(h:C.A ⟨r,0,none⟩):C.B r:=⟨_,h,rfl⟩
theorem Pen.qcU{C:Pen}(h:¬C.Pt r):¬C.Z r:=λhz=>h (C.zp r hz)
def qcV(C:Pen)(r:Nat)(o:Obj):Prop:=qwj C.A C.F o∨(r=C.G/\∃e fr,o=.cells #[] e fr)
def qfB(C:Pen)(r:Nat)(c' c:Array AN)(fr:Nat×Nat):Prop:=
 c'.size<=c.size/\(C.Z r->c'=#[])/\(∀i v,c'[i]?=some v->c[i]?=some v/\(C.A ⟨r,i,none⟩->Ok C.A C.F v/\¬(fr.1<=i/\i<fr.2)))/\(fr=(0,0)∨(r=C.G/\0<c.size))/\(r=C.G->c'.size<=C.K)
structure Rel(C:Pen)(w u:AQ):Prop where
 size:w.heap.size=u.heap.size
 os:w.os=u.os
 room:C.N<=w.heap.size
 part:∀r,C.Pt r->∃c' c e fr,u.heap[r]?=some (.cells c' e)/\w.heap[r]?=some (.cells c e fr)/\qfB C r c' c fr
 same:∀r,C.B r->¬C.Pt r->w.heap[r]?=u.heap[r]?
 cln:∀r o,C.B r->¬C.Pt r->u.heap[r]?=some o->qcV C r o
 chn:∀r,C.Ch r->∃k b cl m n t,u.heap[r]?=some (.chan k b cl m n t)
 drawn:w.drawn=u.drawn
def xm(C:Pen)(n:Nat)(e:AW):Prop:=
 match e.loc with
 | .cell a=>e.sync=false/\(C.B a.block/\¬C.Z a.block)/\a.block<n
 | .obj r=>(e.sync=false∨e.write=false)/\(C.B r/\¬C.Z r)/\r<n
 | .mark (.extern _) | .mark .noRoom | .output=>True
 |_=>False
theorem xm.mono{C:Pen}{e:AW}(h:xm C n e)(hm:n<=m):xm C m e:=by
 unfold xm at *;split at h<;>first|exact⟨h.1,h.2.1,by omega⟩|trivial|exact h.elim
def Beyond(C:Pen)(w w':AQ):Prop:=
 C.Pt C.G->∀c e fr,w.heap[C.G]?=some (.cells c e fr)->∃c',w'.heap[C.G]?=some (.cells c' e fr)/\c'.size=c.size/\∀i,C.K<=i->c'[i]?=c[i]?
theorem Beyond.of{C:Pen}(h:w'.heap[C.G]?=w.heap[C.G]?):Beyond C w w':=λ_ c _ _ hc=>⟨c,h.trans hc,rfl,λ_ _=>rfl⟩
theorem Beyond.trans{C:Pen}{a b c:AQ}(h:Beyond C a b)(k:Beyond C b c):Beyond C a c:=λhp x e fr hx=>by
 obtain⟨y,hy,h1,h2⟩:=h hp x e fr hx;obtain⟨z,hz,h3,h4⟩:=k hp y e fr hy;exact⟨z,hz,h3.trans h1,λi hi=>(h4 i hi).trans (h2 i hi)⟩
structure Kept(C:Pen)(w w':AQ)(es:Array AW):Prop where
 block:∀r,(¬C.B r∨C.Z r∨C.Ch r)->w'.heap[r]?=w.heap[r]?
 size:w.heap.size<=w'.heap.size
 os:w'.os=w.os
 output:w'.output=w.output
 tape:w'.tape=w.tape
 drawn:w.drawn<=w'.drawn
 evs:∀e,e∈es->xm C w'.heap.size e
 tail:Beyond C w w'
theorem Kept.refl(C:Pen)(w:AQ):Kept C w w #[]:=⟨λ_ _=>rfl,CQ _,rfl,rfl,rfl,CQ _,λe h=>by simp at h,.of rfl⟩
theorem Kept.trans{C:Pen}{a b c:AQ}{fs:Array AW}(h:Kept C a b es)(k:Kept C b c fs):Kept C a c (es++fs):=
 ⟨λr hr=>(k.block r hr).trans (h.block r hr),CR h.size k.size,k.os.trans h.os,k.output.trans h.output,k.tape.trans h.tape,CR h.drawn k.drawn,λe he=>by
  rcases As.1 he with h1|h1
  . exact(h.evs e h1).mono k.size
  . exact k.evs e h1,h.tail.trans k.tail⟩
def Fatal:Halt->Prop
 | .stuck _=>True
 | .unsupported (.initOrder _)=>False
 | .unsupported _=>True
 |_=>False
def Out(C:Pen){α:Type}(Q:α->Prop)(w:AQ)(es:Array AW)(s:Sem α):Result α->Prop
 | .ok a u'=>∃w' new,s.runT C.P w es=(.ok a w',es++new)/\Rel C w' u'/\Kept C w w' new/\Q a
 | .halt (.panic v) u'=>∃w' new,s.runT C.P w es=(.halt (.panic v) w',es++new)/\Rel C w' u'/\Kept C w w' new/\Ok C.A C.F v
 | .halt h _=>Fatal h
def q2k{α:Type}:Result α->AQ
 | .ok _ w=>w
 | .halt _ w=>w
def Same(w u:AQ)(i j:Nat):Prop:=∀k q,i<=k->k<j->w.tape k q=u.tape k q
def qd(C:Pen){α:Type}(s:Sem α)(Q:α->Prop):Prop:=∀w u es,Rel C w u->Same w u u.drawn (q2k (s.run C.P u)).drawn->Out C Q w es s (s.run C.P u)
theorem q0q{α:Type}:∀(a:Ask α) (w:AQ),(w.ask a).2.tape=w.tape/\w.drawn<=(w.ask a).2.drawn:=by
 intro a
 induction a with
 |done a=>intro w;exact⟨rfl,CQ _⟩
 |ask what range k ih=>
  intro w;simp only[World.ask];split
  . exact ih _ _
  . have:=ih ((Question.extern what range).cut (w.tape w.drawn (.extern what range))) {w with drawn:=w.drawn+1};exact⟨this.1,CR (CS _) this.2⟩
theorem q0r(w:AQ)(c:Sys):(w.sys c).2.tape=w.tape/\w.drawn<=(w.sys c).2.drawn:=by
 have:=q0q (Kernel.perform c w.os) w;unfold World.sys;generalize w.ask (Kernel.perform c w.os)=x at this |-;obtain⟨⟨r,os⟩,w'⟩:=x;cases r<;>first|exact this|exact⟨rfl,CQ _⟩
theorem qls{p:AR}{l:List Addr}(h:w.farStore p a v b=.ok (w',l)):w'.tape=w.tape/\w'.drawn=w.drawn:=by
 unfold CL at h;split at h
 . split at h
   . rename_i r hr;simp only[Except.ok.injEq]at h;subst h;unfold World.viewStore at hr;simp only[bind,Except.bind,pure,Except.pure]at hr
     repeat' split at hr
     all_goals first
      |(cases hr;done)
      |(cases hr;exact⟨rfl,rfl⟩)
   . cases h
 . cases h
theorem qjo{α:Type}(p:AR):∀(s:Sem α) (w:AQ),(q2k (s.run p w)).tape=w.tape/\w.drawn<=(q2k (s.run p w)).drawn:=by
 intro s
 induction s with
 |pure a=>intro w;exact⟨rfl,CQ _⟩
 |load m a k ih=>
  intro w;simp only[CB];split
  . exact ih _ _
  . split
    . exact ih _ _
    . exact⟨rfl,CQ _⟩
 |store m a v k ih=>
  intro w
  have key:(q2k (match w.cell? a with
      |some _=>if w.frozen? a then .halt (.unsupported (.unsafePointer "a write to bytes that a string shares")) w else k.run p (w.setCell a v)
      |none=>match w.farStore p a v (m == .atomic)with
       | .ok (w,_)=>k.run p w
       | .error h=>.halt h w)).tape=w.tape/\w.drawn<=(q2k (match w.cell? a with
      |some _=>if w.frozen? a then .halt (.unsupported (.unsafePointer "a write to bytes that a string shares")) w else k.run p (w.setCell a v)
      |none=>match w.farStore p a v (m == .atomic)with
       | .ok (w,_)=>k.run p w
       | .error h=>.halt h w)).drawn:=by
   split
   . split
     . exact⟨rfl,CQ _⟩
     . exact ih (w.setCell a v)
   . split
     . rename_i w2 _ h;have h1:=qls h;have h2:=ih w2;exact⟨h2.1.trans h1.1,by rw[<-h1.2];exact h2.2⟩
     . exact⟨rfl,CQ _⟩
  cases v<;>first|exact key|exact⟨rfl,CQ _⟩
 |new o k ih=>intro w;exact ih _ _
 |shape r k ih=>intro w;exact ih _ _
 |freeze a n k ih=>
  intro w;have h1:(w.freeze a n).tape=w.tape/\(w.freeze a n).drawn=w.drawn:=by unfold World.freeze;split<;>exact⟨rfl,rfl⟩
  have h2:=ih (w.freeze a n);exact⟨h2.1.trans h1.1,by rw[<-h1.2];exact h2.2⟩
 |frozen a k ih=>intro w;exact ih _ _
 |getObj r k ih=>
  intro w;simp only[CB];split
  . exact⟨rfl,CQ _⟩
  . exact ih _ _
  . exact⟨rfl,CQ _⟩
 |setObj r o k ih=>
  intro w;simp only[CB];split
  . exact⟨rfl,CQ _⟩
  . exact ih {w with heap:=w.heap.setIfInBounds r o}
  . exact⟨rfl,CQ _⟩
 |choose q k ih=>
  intro w;simp only[CB];split
  . exact ih _ _
  . have:=ih (q.cut (w.tape w.drawn q)) {w with drawn:=w.drawn+1};exact⟨this.1,CR (CS _) this.2⟩
 |sys c k ih=>
  intro w;have h1:=q0r w c;have h2:=ih (w.sys c).1 (w.sys c).2;exact⟨h2.1.trans h1.1,CR h1.2 h2.2⟩
 |program k ih=>intro w;exact ih _ _
 |mark m k ih=>intro w;exact ih _
 |halt h=>intro w;exact⟨rfl,CQ _⟩
section
variable {C:Pen}{α β:Type}
theorem qab{a:α}{Q:α->Prop}(h:Q a):qd C (pure a) Q:=λw u es hr al=>⟨w,#[],by simp[-Cz];rfl,hr,Kept.refl C w,h⟩
theorem qad{why:String}{Q:α->Prop}:qd C (stuck why) Q:=λ_ _ _ _ _=>trivial
theorem qaf{x:Unsupported}{Q:α->Prop}(h:∀g,x≠.initOrder g):qd C (unsupported x) Q:=λ_ _ _ _ _=>by
 show Fatal (.unsupported x);cases x<;>first|trivial|exact absurd rfl (h _)
theorem qcu{Q:α->Prop}(h:Ok C.A C.F v):qd C (goPanic v) Q:=λw u es hr al=>⟨w,#[],by simp[goPanic,CA,-Cz],hr,Kept.refl C w,h⟩
theorem qaa{s:Sem α}{f:α->Sem β}{Q:α->Prop}{R:β->Prop}(h:qd C s Q)(k:∀a,Q a->qd C (f a) R):qd C (s>>=f) R:=by
 intro w u es hr al;have eE:(s>>=f).run C.P u=_:=CE C.P s f u
 have al1:Same w u u.drawn (q2k (s.run C.P u)).drawn:=λk q h1 h2=>al k q h1 (by
  rw[eE];cases hs:s.run C.P u with
  |ok a u1=>
   rw[hs]at h2;simp only[Cy];exact Nat.lt_of_lt_of_le h2 (qjo C.P (f a) u1).2
  |halt x u1=>rw[hs]at h2;exact h2)
 have h1:=h w u es hr al1;have eT:(s>>=f).runT C.P w es=_:=CD C.P s f w es;have eU:(s>>=f).run C.P u=_:=CE C.P s f u;rw[eU];cases hs:s.run C.P u with
 |ok a u1=>
  rw[hs]at h1;obtain⟨w1,new,e1,r1,k1,q⟩:=h1;have t1:=qjo C.P s u;rw[hs]at t1
  have h2:=k a q w1 u1 (es++new) r1 (λi q' i1 i2=>by
   have t1':u1.tape=u.tape:=t1.1;rw[k1.tape,t1'];refine al i q' (CR t1.2 i1) ?_;rw[eE,hs];exact i2)
  simp only[Cy];rw[e1]at eT;cases hf:(f a).run C.P u1 with
  |ok b u2=>
   rw[hf]at h2;obtain⟨w2,qaO,e2,r2,k2,q2⟩:=h2;exact⟨w2,new++qaO,by rw[eT];simp only[e2,Ay],r2,k1.trans k2,q2⟩
  |halt x u2=>
   rw[hf]at h2;cases x with
   |panic v=>
    obtain⟨w2,qaO,e2,r2,k2,q2⟩:=h2;exact⟨w2,new++qaO,by rw[eT];simp only[e2,Ay],r2,k1.trans k2,q2⟩
   |_=>exact h2
 |halt x u1=>
  rw[hs]at h1;simp only[Result.andThen_halt];cases x with
  |panic v=>
   obtain⟨w1,new,e1,r1,k1,q⟩:=h1;exact⟨w1,new,by rw[eT,e1],r1,k1,q⟩
  |_=>exact h1
theorem qah{c:Prop}[Decidable c]{s t:Sem α}{Q:α->Prop}(h1:c->qd C s Q)(h2:¬c->qd C t Q):qd C (if c then s else t) Q:=by
 split
 . exact h1 ‹_›
 . exact h2 ‹_›
theorem qqm{s:Sem α}{f:α->β}{Q:α->Prop}{R:β->Prop}(h:qd C s Q)(k:∀a,Q a->R (f a)):qd C (Functor.map f s) R:=by
 rw[<-bind_pure_comp];exact qaa h (λa q=>qab (k a q))
theorem Rel.lt(h:Rel C w u)(ho:u.heap[r]?=some o):r<w.heap.size:=by rw[h.size];exact(Ab.1 ho).1
theorem Rel.cell(h:Rel C w u)(ha:C.A a)(hv:u.cell? a=some v):w.cell? a=some v/\Ok C.A C.F v/\a.block<w.heap.size/\¬C.Z a.block/\u.frozen? a=false/\w.frozen? a=false:=by
 unfold CI at hv;split at hv
 . rename_i c e fr hb;by_cases hs:a.spot.isSome=true
   . simp[hs]at hv
   . simp only[hs,if_false,AL]at hv;by_cases hp:C.Pt a.block
     . obtain⟨c',c2,e2,fr2,h1,h2,h3,h4,h5,h6⟩:=h.part _ hp;rw[hb]at h1;cases h1;obtain⟨k1,k2⟩:=h5 a.off v hv;obtain⟨k2,k3⟩:=k2 (C.up a _ ha rfl (CQ _));refine⟨?_,k2,h.lt hb,λhz=>?_,?_,?_⟩
       . unfold CI;rw[h2];simp only[hs,if_false,AL];exact k1
       . rw[h4 hz]at hv;simp at hv
       . unfold CH;rw[hb];simp
       . unfold CH;rw[h2];obtain⟨lo,hi⟩:=fr2;simp only[AM,decide_eq_false_iff_not];by_cases hl:lo<=a.off
         . exact .inr (λh8=>k3 ⟨hl,h8⟩)
         . exact .inl hl
     . have hB:C.B a.block:=.of ha
       have hc:qwj C.A C.F (.cells c e fr):=(h.cln _ _ hB hp hb).resolve_right (λk=>by
        obtain⟨_,_,_,k⟩:=k;cases k;simp at hv)
       have hsame:=h.same _ hB hp;have hfr:=hc.1;subst hfr;refine⟨?_,hc.2 v (Aj hv),h.lt hb,Pen.qcU hp,?_,?_⟩
       . unfold CI;rw[hsame,hb];simp only[hs,if_false,AL];exact hv
       . unfold CH;rw[hb];simp
       . unfold CH;rw[hsame,hb];simp
 . cases hv
theorem Rel.jr(h:Rel C w u)(hA:C.B r)(hc:r≠C.G):∀off s,w.frozen? ⟨r,off,s⟩=false:=by
 by_cases hp:C.Pt r
 . obtain⟨c',c,e,fr,h1,h2,_,_,_,h6⟩:=h.part _ hp;have:=h6.1.resolve_right (λk=>hc k.1);subst this;exact λoff s=>by unfold CH;rw[h2];simp
 . have hs:=h.same _ hA hp;cases hb:u.heap[r]? with
   |none=>exact λoff s=>by unfold CH;rw[hs,hb]
   |some o=>
    have hcl:=(h.cln _ _ hA hp hb).resolve_right (λk=>hc k.1);cases o with
    |cells c e fr=>have:=hcl.1;subst this;exact λoff s=>by unfold CH;rw[hs,hb];simp
    |_=>exact λoff s=>by unfold CH;rw[hs,hb]
theorem Rel.jQ(h:Rel C w u)(hA:C.B r)(hc:r≠C.G):∀off s,u.frozen? ⟨r,off,s⟩=false:=by
 by_cases hp:C.Pt r
 . obtain⟨c',c,e,fr,h1,h2,_⟩:=h.part _ hp;exact λoff s=>by unfold CH;rw[h1];simp
 . have hs:=h.same _ hA hp;have hw:=h.jr hA hc
   exact λoff s=>by
    have:=hw off s;unfold CH at this |-;rw[hs]at this;exact this
theorem Rel.xK(h:Rel C w u)(hA:C.B C.G):((∀off s,u.frozen? ⟨C.G,off,s⟩=false)/\((∀off s,w.frozen? ⟨C.G,off,s⟩=false)∨∃t n,w.shape? C.G=some (t,n)/\0<n))∨w.heap[C.G]?=u.heap[C.G]?:=by
 by_cases hp:C.Pt C.G
 . obtain⟨c',c,e,fr,h1,h2,_,_,_,h7⟩:=h.part _ hp;refine .inl ⟨λoff s=>by unfold CH;rw[h1];simp,?_⟩;rcases h7.1 with h7|⟨_,h7⟩
   . subst h7;exact .inl (λoff s=>by unfold CH;rw[h2];simp)
   . exact .inr ⟨e,c.size,by unfold CK;rw[h2],h7⟩
 . exact .inr (h.same _ hA hp)
theorem Rel.kind(h:Rel C w u)(hA:C.B r)(ho:u.heap[r]?=some o):(∃c e fr,o=.cells c e fr)∨(w.heap[r]?=some o/\qwj C.A C.F o/\¬C.Z r):=by
 by_cases hp:C.Pt r
 . obtain⟨c',c,e,fr,h1,_⟩:=h.part _ hp;rw[ho]at h1;exact .inl ⟨_,_,_,CY h1⟩
 . rcases h.cln _ _ hA hp ho with hc|⟨_,e,fr,rfl⟩
   . exact .inr ⟨(h.same _ hA hp).trans ho,hc,Pen.qcU hp⟩
   . exact .inl ⟨_,_,_,rfl⟩
theorem Rel.shapes(h:Rel C w u)(hA:C.B r):(w.shape? r=none/\u.shape? r=none)∨∃t n m,u.shape? r=some (t,n)/\w.shape? r=some (t,m)/\n<=m:=by
 by_cases hp:C.Pt r
 . obtain⟨c',c,e,fr,h1,h2,h3,_⟩:=h.part _ hp;exact .inr ⟨e,c'.size,c.size,by unfold CK;rw[h1],by unfold CK;rw[h2],h3⟩
 . have hs:=h.same _ hA hp;cases hx:u.shape? r with
   |none=>exact .inl ⟨by unfold CK at hx |-;rw[hs];exact hx,rfl⟩
   |some x=>exact .inr ⟨x.1,x.2,x.2,rfl,by unfold CK at hx |-;rw[hs];exact hx,CQ _⟩
theorem qnt{what:String}(h:∀c e,u.heap[a.block]?≠some (.pending c e)):Fatal (u.noCell a what):=by
 unfold World.noCell;split
 . rename_i hb;exact absurd hb (h _ _)
 . trivial
 . trivial
theorem quc(h:∀c e,u.heap[a.block]?≠some (.pending c e))(h':∀c e,u.heap[a.block]?≠some (.view c e)):∃x,u.farLoad C.P a b=.error x/\Fatal x:=by
 unfold World.farLoad;split
 . rename_i hb;exact absurd hb (h' _ _)
 . exact⟨_,rfl,qnt h⟩
theorem qsc(h:∀c e,u.heap[a.block]?≠some (.pending c e))(h':∀c e,u.heap[a.block]?≠some (.view c e)):∃x,u.farStore C.P a v b=.error x/\Fatal x:=by
 unfold CL;split
 . rename_i hb;exact absurd hb (h' _ _)
 . exact⟨_,rfl,qnt h⟩
theorem Rel.noPending(h:Rel C w u)(hA:C.B r):(∀c e,u.heap[r]?≠some (.pending c e))/\∀c e,u.heap[r]?≠some (.view c e):=
 ⟨λc e ho=>by
  rcases h.kind hA ho with ⟨_,_,_,h1⟩|⟨_,h1,_⟩
  . cases h1
  . exact h1,
 λc e ho=>by
  rcases h.kind hA ho with ⟨_,_,_,h1⟩|⟨_,h1,_⟩
  . cases h1
  . exact h1⟩
theorem qqn{Q:α->Prop}{s:Sem α}{x:Halt}(h:Fatal x):Out C Q w es s (.halt x u):=by
 cases x<;>first|exact h|exact h.elim
theorem qtc(ha:C.A a):qd C (load a) (Ok C.A C.F):=by
 intro w u es hr al;cases hv:u.cell? a with
 |some v=>
  obtain⟨h1,h2,h3,h4,_,_⟩:=hr.cell ha hv;have e:(load a).run C.P u=.ok v u:=by simp[hv]
  rw[e];refine⟨w,#[⟨.cell a,false,false⟩],by simp[load,CA,h1,-Cz];rfl,hr,⟨λ_ _=>rfl,CQ _,rfl,rfl,rfl,CQ _,λe he=>?_,.of rfl⟩,h2⟩;rw[Ah]at he;subst he;exact⟨rfl,⟨.of ha,h4⟩,h3⟩
 |none=>
  obtain⟨x,hx,hf⟩:=quc (C:=C) (u:=u) (a:=a) (b:=(Mode.plain == .atomic)) (hr.noPending (.of ha)).1 (hr.noPending (.of ha)).2;have e:(load a).run C.P u=.halt x u:=by simp[hv,hx]
  rw[e];exact qqn hf
theorem qie{γ:Type}(xs:Array γ)(i j:Nat)(f:γ->γ):(xs.modify i f)[j]?=if i=j then (xs[j]?).map f else xs[j]?:=by
 rw[AF]
theorem qb0(w:AQ)(a:Addr)(v:AN)(r:Nat)(hne:a.block≠r):(w.setCell a v).heap[r]?=w.heap[r]?:=by
 simp[CJ,qie,hne]
theorem qdf(w:AQ)(a:Addr)(v:AN){c:Array AN}{fr:Nat×Nat}(h:w.heap[a.block]?=some (.cells c e fr)) :
   (w.setCell a v).heap[a.block]?=some (.cells (if a.spot.isSome then c else c.setIfInBounds a.off v) e fr):=by
 simp[CJ,qie,h]
theorem qdr(h:u.cell? a=some v):a.spot.isSome=false/\∃c e fr,u.heap[a.block]?=some (.cells c e fr)/\a.off<c.size:=by
 unfold CI at h;split at h
 . rename_i c e fr hb;by_cases hs:a.spot.isSome=true
   . simp[hs]at h
   . simp only[hs,if_false,AL]at h;exact⟨by simpa using hs,c,e,fr,hb,(Ab.1 h).1⟩
 . cases h
theorem q9l{c:Array AN}{fr:Nat×Nat}(hs:a.spot.isSome=false)(hb:w.heap[a.block]?=some (.cells c e fr))(h:w.cell? a=some v):c[a.off]?=some v:=by
 unfold CI at h;rw[hb]at h;simpa[hs]using h
theorem Rel.set(h:Rel C w u)(ha:C.A a)(hv:u.cell? a=some x)(hok:Ok C.A C.F v):Rel C (w.setCell a v) (u.setCell a v):=by
 obtain⟨hs,c,e,fr,hb,hoff⟩:=qdr hv;obtain⟨hw,_,_,hnz,_,hfz⟩:=h.cell ha hv;refine⟨by simp[CJ,h.size],h.os,by have:=h.room;simpa[CJ]using this,λr hp=>?_,λr hB hp=>?_,λr o hB hp ho=>?_,λr hr=>?_,h.drawn⟩
 . obtain⟨c',c2,e2,fr2,h1,h2,h3,h4,h5,h6⟩:=h.part r hp;by_cases hne:a.block=r
   . subst hne;rw[hb]at h1;cases h1;refine⟨c.setIfInBounds a.off v,c2.setIfInBounds a.off v,e,fr2,?_,?_,?_,λhz=>absurd hz hnz,λi y hy=>?_,⟨h6.1.imp id (λhg=>⟨hg.1,by simpa using hg.2⟩),λhg=>by simpa using h6.2 hg⟩⟩
     . rw[qdf u a v hb];simp[hs]
     . rw[qdf w a v h2];simp[hs]
     . simpa using h3
     . rw[Am]at hy |-;by_cases hi:a.off=i
       . subst hi;rw[if_pos rfl,if_pos hoff]at hy;cases hy;rw[if_pos rfl,if_pos (by omega)];refine⟨rfl,λ_=>⟨hok,λhl=>?_⟩⟩;unfold CH at hfz;rw[h2]at hfz;obtain⟨lo,hi⟩:=fr2;simp only[AM,decide_eq_false_iff_not]at hfz;exact hfz.elim (λh9=>h9 hl.1) (λh9=>h9 hl.2)
       . rw[if_neg hi]at hy |-;exact h5 i y hy
   . exact⟨c',c2,e2,fr2,by rw[qb0 _ _ _ _ hne];exact h1,by rw[qb0 _ _ _ _ hne];exact h2,h3,h4,h5,h6⟩
 . have h1:=h.same r hB hp;by_cases hne:a.block=r
   . subst hne;rw[qdf u a v hb,qdf w a v (h1.trans hb)]
   . rw[qb0 _ _ _ _ hne,qb0 _ _ _ _ hne];exact h1
 . by_cases hne:a.block=r
   . subst hne;rw[qdf u a v hb]at ho;cases ho
     have hc:qwj C.A C.F (.cells c e fr):=(h.cln _ _ hB hp hb).resolve_right (λk=>by
      obtain⟨_,_,_,k⟩:=k;cases k;simp at hoff)
     refine .inl ⟨hc.1,λy hy=>?_⟩;simp only[hs,AL,if_false]at hy;obtain⟨i,hi,rfl⟩:=Az.1 hy;have hi':i<c.size:=by simpa using hi
     rw[Array.getElem_setIfInBounds hi'];split
     . exact hok
     . exact hc.2 _ (AI _)
   . rw[qb0 _ _ _ _ hne]at ho;exact h.cln r o hB hp ho
 . obtain⟨k,b,cl,m,n,t,h1⟩:=h.chn r hr;have hne:a.block≠r:=λe0=>by rw[<-e0,hb]at h1;cases h1
   exact⟨k,b,cl,m,n,t,by rw[qb0 _ _ _ _ hne];exact h1⟩
theorem Rel.jK(h:Rel C w u)(hv:u.cell? a=some x)(v:AN):Beyond C w (w.setCell a v):=by
 obtain⟨hs,c,e,fr,hb,hoff⟩:=qdr hv;intro hp cw ew frw hw;by_cases hne:a.block=C.G
 . obtain⟨c',c2,e2,fr2,h1,h2,h3,h4,h5,h6⟩:=h.part _ hp;have hK:=h6.2 rfl;rw[hne,h1]at hb;cases hb;refine⟨cw.setIfInBounds a.off v,?_,by simp,λi hi=>?_⟩
   . rw[<-hne,qdf w a v (by rw[hne];exact hw)];simp[hs]
   . rw[Am,if_neg (by omega)]
 . exact⟨cw,by rw[qb0 _ _ _ _ hne];exact hw,rfl,λ_ _=>rfl⟩
theorem qyz(ha:C.A a)(hok:Ok C.A C.F v):qd C (store a v) (λ_=>True):=by
 intro w u es hr al;by_cases h1:v.oneCell'=true
 . rw[run_store C.P u a v _ h1];cases hv:u.cell? a with
   |some x=>
    obtain⟨h1',h2,h3,h4,h5,h6⟩:=hr.cell ha hv;obtain⟨_,c,e0,fr0,hb0,_⟩:=qdr hv;simp only[h5,AL,if_false];refine⟨w.setCell a v,#[⟨.cell a,true,false⟩],?_,hr.set ha hv hok,⟨λr hnr=>qb0 _ _ _ _ (λe=>?_),by simp[CJ],rfl,rfl,rfl,CQ _,λe he=>?_,hr.jK hv v⟩,trivial⟩
    . rw[Cz,run_store C.P w a v _ h1,h1'];have hev:=events_store (P:=C.P) (w:=w) (es:=es) a v .plain h1;rw[h1']at hev;simp only[h6,AL,if_false]at hev |-;rw[hev];simp;rfl
    . subst e;rcases hnr with hn|hn|hn
      . exact hn (.of ha)
      . exact h4 hn
      . obtain⟨k,b,cl,m,n,t,h7⟩:=hr.chn _ hn;rw[hb0]at h7;cases h7
    . rw[Ah]at he;subst he;exact⟨rfl,⟨.of ha,h4⟩,by simpa[CJ]using h3⟩
   |none=>
    obtain⟨x,hx,hf⟩:=qsc (C:=C) (u:=u) (a:=a) (v:=v) (b:=(Mode.plain == .atomic)) (hr.noPending (.of ha)).1 (hr.noPending (.of ha)).2;simp only[hx];exact qqn hf
 . have e:∃ why,(store a v).run C.P u=.halt (.stuck why) u:=by
    cases v<;>first|(exact absurd rfl h1)|exact⟨_,rfl⟩
   obtain⟨why,e⟩:=e;rw[e];trivial
theorem Pen.xn{C:Pen}(h:C.N<=r):¬C.Pt r/\¬C.Ch r:=⟨λk=>absurd (C.old r (.inl k)) (by omega),λk=>absurd (C.old r (.inr k)) (by omega)⟩
theorem qi5(ho:qwj C.A C.F o):qd C (newObj o) (λr=>C.A ⟨r,0,none⟩):=by
 intro w u es hr al;rw[run_newObj];have hN:C.N<=u.heap.size:=by rw[<-hr.size];exact hr.room
 have hA:C.A ⟨u.heap.size,0,none⟩:=C.fresh _ hN;have hno:=Pen.xn hN
 refine⟨{w with heap:=w.heap.push o},#[],by simp[newObj,CA,hr.size,-Cz],⟨by simp[hr.size],hr.os,by have:=hr.room;simp;omega,λr hp=>?_,λr hB hp=>?_,λr x hB hp hx=>?_,λr hc=>?_,hr.drawn⟩,
  ⟨λr hnr=>?_,by simp,rfl,rfl,rfl,CQ _,λe h=>by simp at h,λhp=>Beyond.of (by
   have hne:C.G≠u.heap.size:=λe=>hno.1 (e▸hp);simp only[Ai];rw[hr.size,if_neg hne]) hp⟩,hA⟩
 . have hne:r≠u.heap.size:=λe=>hno.1 (e▸hp);obtain⟨c',c2,e2,fr2,h1,h2,h3⟩:=hr.part r hp;exact⟨c',c2,e2,fr2,by simp only[Ai];rw[if_neg hne];exact h1,by simp only[Ai];rw[hr.size,if_neg hne];exact h2,h3⟩
 . simp only[Ai];rw[hr.size];split
   . rfl
   . exact hr.same r hB hp
 . simp only[Ai]at hx;split at hx
   . cases hx;exact .inl ho
   . exact hr.cln r x hB hp hx
 . have hne:r≠u.heap.size:=λe=>hno.2 (e▸hc);obtain⟨k,b,cl,m,n,t,h1⟩:=hr.chn r hc;exact⟨k,b,cl,m,n,t,by simp only[Ai];rw[if_neg hne];exact h1⟩
 . simp only[Ai];split
   . rename_i h;subst h;rw[hr.size]at hnr;rcases hnr with hn|hn|hn
     . exact absurd (Pen.B.obj hA) hn
     . exact absurd (C.zp _ hn) hno.1
     . exact absurd hn hno.2
   . rfl
theorem qdz(hA:C.B r):qd C (getObj r) (λo=>qwj C.A C.F o/\(∀c e fr,o≠.cells c e fr)/\¬C.Z r/\∀es k,o=.map es k->¬C.Ch r):=by
 intro w u es hr al;cases ho:u.heap[r]? with
 |none=>simp[getObj,CB,ho];trivial
 |some o=>
  rcases hr.kind hA ho with ⟨c,e,fr,rfl⟩|⟨ho',hok,hnz⟩
  . simp[getObj,CB,ho];trivial
  . by_cases hc:∃c e fr,o=.cells c e fr
    . obtain⟨c,e,fr,rfl⟩:=hc;simp[getObj,CB,ho];trivial
    have hne:∀c e fr,o≠.cells c e fr:=λc e fr h=>hc ⟨c,e,fr,h⟩
    have eU:(getObj r).run C.P u=.ok o u:=by
     simp only[getObj,CB,ho]
    rw[eU];refine⟨w,#[⟨.obj r,false,o.isChan⟩],?_,hr,⟨λ_ _=>rfl,CQ _,rfl,rfl,rfl,CQ _,λe he=>?_,.of rfl⟩,hok,hne,hnz,λes' k hm hch=>?_⟩
    . simp only[getObj,CA,ho',AA]
    . rw[Ah]at he;subst he;exact⟨.inr rfl,⟨hA,hnz⟩,hr.lt ho⟩
    . obtain⟨k',b,cl,m,n,t,h1⟩:=hr.chn _ hch;rw[ho,hm]at h1;cases h1
theorem heap_set(i:Nat):({w with heap:=w.heap.setIfInBounds r o}:AQ).heap[i]?=if r=i then (if r<w.heap.size then some o else none)else w.heap[i]?:=by
 simp only[Am]
theorem qnu(hA:C.B r)(hok:qwj C.A C.F o)(hch:¬C.Ch r)(hnc:o.isChan=false):qd C (setObj r o) (λ_=>True):=by
 intro w u es hr al;cases ho:u.heap[r]? with
 |none=>simp[setObj,CB,ho];trivial
 |some x=>
  rcases hr.kind hA ho with ⟨c,e,fr,rfl⟩|⟨ho',_,hnz⟩
  . simp[setObj,CB,ho];trivial
  . by_cases hc:∃c e fr,x=.cells c e fr
    . obtain⟨c,e,fr,rfl⟩:=hc;simp[setObj,CB,ho];trivial
    have hne:∀c e fr,x≠.cells c e fr:=λc e fr h=>hc ⟨c,e,fr,h⟩;have hlt:=hr.lt ho
    have eU:(setObj r o).run C.P u=.ok () {u with heap:=u.heap.setIfInBounds r o}:=by
     simp only[setObj,CB,ho]
    rw[eU]
    refine⟨{w with heap:=w.heap.setIfInBounds r o},#[⟨.obj r,true,o.isChan⟩],?_,⟨by simp[hr.size],hr.os,by have:=hr.room;simpa using this,λi hp=>?_,λi hB hp=>?_,λi y hB hp hy=>?_,λi hi=>?_,hr.drawn⟩,⟨λi hi=>?_,by simp,rfl,rfl,rfl,CQ _,λe he=>?_,λhp=>Beyond.of (by
     obtain⟨c',c2,e2,fr2,h1,h2,_⟩:=hr.part _ hp;have hne':r≠C.G:=λe=>by rw[<-e,ho]at h1;exact hne _ _ _ (CY h1)
     rw[heap_set,if_neg hne']) hp⟩,trivial⟩
    . simp only[setObj,CA,ho',AA]
    . obtain⟨c',c2,e2,fr2,h1,h2,h3⟩:=hr.part i hp;have hne':r≠i:=λe=>by subst e;rw[ho]at h1;exact hne _ _ _ (CY h1)
      exact⟨c',c2,e2,fr2,by rw[heap_set,if_neg hne'];exact h1,by rw[heap_set,if_neg hne'];exact h2,h3⟩
    . rw[heap_set,heap_set,hr.size];split
      . rfl
      . exact hr.same i hB hp
    . rw[heap_set]at hy;split at hy
      . split at hy
        . cases hy;exact .inl hok
        . cases hy
      . exact hr.cln i y hB hp hy
    . have hne':r≠i:=λe=>hch (e▸hi);obtain⟨k,b,cl,m,n,t,h1⟩:=hr.chn i hi;exact⟨k,b,cl,m,n,t,by rw[heap_set,if_neg hne'];exact h1⟩
    . rw[heap_set,if_neg];intro e;subst e;rcases hi with hn|hn|hn
      . exact hn hA
      . exact hnz hn
      . exact hch hn
    . rw[Ah]at he;subst he;exact⟨.inl hnc,⟨hA,hnz⟩,by simpa using hlt⟩
theorem Rel.drew(h:Rel C w u):Rel C {w with drawn:=w.drawn+1} {u with drawn:=u.drawn+1}:=
 ⟨h.size,h.os,h.room,h.part,h.same,h.cln,h.chn,by show w.drawn+1=u.drawn+1;rw[h.drawn]⟩
theorem qc6(q:Question):qd C (choose q) (λ_=>True):=by
 intro w u es hr al;rw[run_choose];split
 . rename_i hf;exact⟨w,#[],by simp[choose,CA,hf,-Cz],hr,Kept.refl C w,trivial⟩
 . rename_i hf
   have:w.tape w.drawn q=u.tape u.drawn q:=by
    rw[hr.drawn];refine al u.drawn q (CQ _) ?_;rw[run_choose,if_neg hf];exact CU _
   refine⟨{w with drawn:=w.drawn+1},#[],?_,hr.drew,⟨λ_ _=>rfl,CQ _,rfl,rfl,rfl,CS _,λe h=>by simp at h,.of rfl⟩,trivial⟩;simp only[choose,CA,hf,if_false,AL,this,Array.append_empty]
theorem qa0:qd C program (λp=>p=C.P):=λw u es hr al=>⟨w,#[],by simp[program,CA,-Cz],hr,Kept.refl C w,rfl⟩
theorem qol(f:AU):qd C (mark (.extern f)) (λ_=>True):=λw u es hr al=>
 ⟨w,#[⟨.mark (.extern f),false,true⟩],by simp[mark,CA,-Cz],hr,⟨λ_ _=>rfl,CQ _,rfl,rfl,rfl,CQ _,λe he=>by rw[Ah]at he;subst he;trivial,.of rfl⟩,trivial⟩
theorem qwk:qd C (mark .noRoom) (λ_=>True):=λw u es hr al=>
 ⟨w,#[⟨.mark .noRoom,false,true⟩],by simp[mark,CA,-Cz],hr,⟨λ_ _=>rfl,CQ _,rfl,rfl,rfl,CQ _,λe he=>by rw[Ah]at he;subst he;trivial,.of rfl⟩,trivial⟩
end
section
variable {C:Pen}{α β:Type}
theorem qa4(t:AP):qd C (typeInfo t) (λi=>C.P.info? t=some i):=by
 unfold typeInfo;refine qaa qa0 (λp hp=>?_);subst hp;split
 . rename_i h;exact qab h
 . exact qad
theorem qai(t:AP):qd C (underlying t) (λd=>C.P.underlying t=some d):=by
 unfold underlying;refine qaa qa0 (λp hp=>?_);subst hp;split
 . rename_i h;exact qab h
 . exact qad
def qlt(C:Pen)(t:AP):Prop:=∀i v,C.P.info? t=some i->i.zero=some v->Ok C.A C.F v
theorem qcf(h:qlt C t):qd C (zeroValue t) (Ok C.A C.F):=by
 unfold zeroValue;refine qaa (qa4 t) (λi hi=>?_);split
 . rename_i v hv;exact qab (h i v hi hv)
 . exact qaf (by simp)
theorem qa6(t:AP):qd C (sizeOf t) (λ_=>True):=by
 unfold sizeOf;exact qaa (qa4 t) (λi hi=>qab trivial)
theorem qqo(t:AP):qd C (isAgg t) (λ_=>True):=by
 unfold isAgg;refine qaa (qai t) (λd hd=>?_);split<;>exact qab trivial
def qn(C:Pen)(vs:Array AN):Prop:=∀v,v∈vs->Ok C.A C.F v
theorem qn.push(h:qn C vs)(hv:Ok C.A C.F v):qn C (vs.push v):=λu hu=>by
 rcases AK.1 hu with h1|h1
 . exact h u h1
 . rw[h1];exact hv
theorem qn.app{us:Array AN}(h:qn C vs)(k:qn C us):qn C (vs++us):=λu hu=>by
 rcases As.1 hu with h1|h1
 . exact h u h1
 . exact k u h1
theorem qn.nil:qn C #[]:=λu hu=>by simp at hu
theorem qn.one(h:Ok C.A C.F v):qn C #[v]:=λu hu=>by rw[Ah]at hu;rw[hu];exact h
theorem qn.set(h:qn C vs)(hv:Ok C.A C.F v)(i:Nat):qn C (vs.setIfInBounds i v):=λu hu=>by
 rcases Ap.1 hu with ⟨j,hj⟩;rw[Am]at hj;split at hj
 . split at hj
   . cases hj;exact hv
   . cases hj
 . exact h u (Aj hj)
theorem qn.get(h:qn C vs)(hv:vs[i]?=some v):Ok C.A C.F v:=h v (Aj hv)
theorem qn.extract(h:qn C vs)(i j:Nat):qn C (vs.extract i j):=λu hu=>by
 obtain⟨k,hk⟩:=Ap.1 hu;rw[Array.getElem?_extract]at hk;split at hk
 . exact h.get hk
 . cases hk
theorem q2l(a:Addr)(n:Nat):(a.add n).block=a.block:=by unfold Addr.add;split<;>rfl
theorem qnv(h:C.A a)(n:Nat):C.A (a.add n):=C.up a _ h (q2l a n) (by unfold Addr.add;split<;>simp)
theorem qkj(ha:C.A a):∀(n i:Nat) (acc:Array AN),qn C acc->qd C (loadCellsFrom a i n acc) (qn C):=by
 intro n
 induction n with
 |zero=>intro i acc h;exact qab h
 |succ n ih=>
  intro i acc h;unfold loadCellsFrom;exact qaa (qtc (qnv ha _)) (λv hv=>ih _ _ (h.push hv))
theorem qi6(ha:C.A a)(n:Nat):qd C (loadCells a n) (qn C):=qkj ha n 0 #[] .nil
theorem qfl(ha:C.A a):∀(vs:List AN) (i:Nat),(∀v,v∈vs->Ok C.A C.F v)->qd C (storeCells a vs i) (λ_=>True):=by
 intro vs
 induction vs with
 |nil=>intro i h;unfold storeCells;exact qab trivial
 |cons v vs ih=>
  intro i h;unfold storeCells;exact qaa (qyz (qnv ha _) (h v (by simp))) (λ_ _=>ih _ (λu hu=>h u (by simp[hu])))
theorem qev(ha:C.A a):qd C (loadVar t a) (Ok C.A C.F):=by
 unfold loadVar;refine qaa (qqo t) (λb _=>?_);refine qah (λ_=>?_) (λ_=>qtc ha);exact qaa (qa6 t) (λn _=>qaa (qi6 ha n) (λcs hcs=>qab (.agg hcs)))
theorem qsd(ha:C.A a)(hv:Ok C.A C.F v):qd C (storeVar t a v) (λ_=>True):=by
 unfold storeVar;refine qaa (qa6 t) (λn _=>?_);have hs:qd C (storeCells a v.cells.toList) (λ_=>True):=qfl ha _ _ (λu hu=>hv.cells u (by simpa using hu));dsimp only;exact qah (λ_=>qaa (Q:=λ_=>True) qad (λ_ _=>hs)) (λ_=>hs)
theorem jm(h:qn C cs):qd C (newRow t cs) (λa=>C.A a):=by
 unfold newRow;exact qaa (qi5 (o:=.cells cs t) ⟨rfl,h⟩) (λr hr=>qab hr)
theorem qgu(h:Ok C.A C.F v):qd C (newVar t v) (λa=>C.A a):=jm h.cells
theorem qnw(t:AP):qd C (elemOf t) (λ_=>True):=by
 unfold elemOf;refine qaa (qai t) (λd hd=>?_);split
 . exact qab trivial
 . exact qad
theorem qcy(h:qn C cs)(off:Nat):qd C (part t cs off) (Ok C.A C.F):=by
 unfold part;refine qaa (qqo t) (λb _=>?_);refine qah (λ_=>?_) (λ_=>?_)
 . exact qaa (qa6 t) (λn _=>qab (.agg (h.extract _ _)))
 . split
   . rename_i v hv;exact qab (h.get hv)
   . exact qad
theorem qf1(v:AN):qd C (asIntOf v) (λ_=>True):=by
 unfold asIntOf;split
 . exact qab trivial
 . exact qaf (by simp)
 . exact qad
theorem qez(v:AN):qd C (asInt v) (λ_=>True):=by
 unfold asInt;exact qaa (qf1 v) (λ_ _=>qab trivial)
theorem qnx(v:AN):qd C (asBool v) (λ_=>True):=by
 unfold asBool;split
 . exact qab trivial
 . exact qad
theorem qy0(h:Ok C.A C.F v):qd C (asAgg v) (qn C):=by
 unfold asAgg;split
 . exact qab h.jk
 . exact qad
def qbg(C:Pen):Prop:=C.A ⟨C.P.globals.size,0,none⟩
theorem qf2(h:qbg C)(t:AP):Ok C.A C.F (typeHandle C.P t):=.ptr (C.up _ _ h rfl (Nat.zero_le _))
theorem qal(hH:qbg C)(e:RuntimeError){Q:α->Prop}:qd C (runtimePanic e) Q:=by
 unfold runtimePanic;refine qaa qa0 (λp hp=>?_);subst hp
 have hh:∀t:Option AP,Ok C.A C.F (match t with|some t=>typeHandle C.P t|none=>.pointer none):=λt=>by
  cases t with
  |none=>exact .nilPtr
  |some t=>exact qf2 hH t
 split
 . exact qcu (.iface _ (.agg (fun v hv=>by
    simp only[CM,CN,CO,or_false]at hv;rcases hv with rfl|rfl|rfl|rfl<;>constructor)))
 . exact qcu (.iface _ (.string _))
 . exact qcu (.iface _ (.string _))
 . exact qcu (.iface _ (.string _))
 . refine qaa (qnw _) (λe _=>qaa (qgu (.agg (λv hv=>?_))) (λr hr=>qcu (.iface _ (.ptr hr))));simp only[CM,CN,CO,or_false]at hv;rcases hv with rfl|rfl|rfl|rfl
   . exact hh _
   . exact hh _
   . exact qf2 hH _
   . exact .string _
 . exact qaa (qnw _) (λe _=>qaa (qgu (.agg (λv hv=>by simp at hv))) (λr hr=>qcu (.iface _ (.ptr hr))))
 . exact qcu (.iface _ (.agg (fun v hv=>by
    simp only[CM,CN,CO,or_false]at hv;rw[hv];exact qf2 hH _)))
theorem qdg(hH:qbg C)(k:AV)(x y:Int)(c:BoundsCode){Q:α->Prop}:qd C (boundsPanic k x y c) Q:=by
 unfold boundsPanic;dsimp only;refine qah (λ_=>?_) (λ_=>?_)
 . exact qaa (Q:=λ_=>True) (qqm (qc6 _) (λ_ _=>trivial)) (λ_ _=>qal hH _)
 . exact qaa (Q:=λ_=>True) (qab trivial) (λ_ _=>qal hH _)
theorem qlu(n:Nat):qd C (askRoom n) (λ_=>True):=by
 unfold askRoom;exact qah (λ_=>qwk) (λ_=>qab trivial)
theorem qfb(hH:qbg C)(h:Ok C.A C.F v):qd C (asAddr v) (λa=>C.A a):=by
 unfold asAddr;split
 . exact qab h.jb
 . exact qal hH _
 . exact qad
theorem qjy{s:Sem α}{Q:α->Prop}(h:∀w u,Rel C w u->∀es,∃a new,s.run C.P u=.ok a u/\s.runT C.P w es=(.ok a w,es++new)/\(∀e,e∈new->xm C w.heap.size e)/\Q a):qd C s Q:=λw u es hr al=>by
 obtain⟨a,new,h1,h2,h3,h4⟩:=h w u hr es;rw[h1];exact⟨w,new,h2,hr,⟨λ_ _=>rfl,CQ _,rfl,rfl,rfl,CQ _,h3,.of rfl⟩,h4⟩
theorem Rel.z9(h:Rel C w u)(hA:C.B r):(w.shape? r).isSome=(u.shape? r).isSome:=by
 rcases h.shapes hA with ⟨h1,h2⟩|⟨t,n,m,h1,h2,_⟩
 . rw[h1,h2]
 . rw[h1,h2];rfl
theorem qlv(hA:C.B r){f:Bool->Sem α}{Q:α->Prop}(h:∀b,qd C (f b) Q):qd C (shape r>>=λx=>f x.isSome) Q:=by
 intro w u es hr al;have e1:(shape r>>=λx=>f x.isSome).run C.P u=(f (u.shape? r).isSome).run C.P u:=by rw[CC,AX];rfl
 have e2:(shape r>>=λx=>f x.isSome).runT C.P w es=(f (w.shape? r).isSome).runT C.P w es:=by
  have:=CD C.P (shape r) (λx=>f x.isSome) w es;exact this
 have:=h (u.shape? r).isSome w u es hr al;rw[e1];unfold Out at *;rw[e2,hr.z9 hA];exact this
theorem qny(hA:C.B r):qd C (viewAt r) (λx=>x=none):=by
 unfold viewAt;refine qlv hA (f:=λb=>if b=true then pure none else do match <-getObj r with | .view a t=>pure (some (a,t))|_=>pure none) (λb=>?_);refine qah (λ_=>qab rfl) (λ_=>qaa (qdz hA) (λo ho=>?_));split
 . exact ho.1.elim
 . exact qab rfl
theorem qi7(hA:C.B a.block):qd C (noView a) (λ_=>True):=by
 unfold noView;refine qaa (qny hA) (λx hx=>?_);subst hx;exact qab trivial
end
section
variable {C:Pen}{α β γ:Type}
theorem qif{I:β->Prop}(f:γ->β->Sem (ForInStep β)):∀(xs:List γ) (b:β),I b ->
   (∀x,x∈xs->∀b,I b->qd C (f x b) (λr=>match r with | .done b=>I b | .yield b=>I b))->qd C (forIn xs b f) I:=by
 intro xs
 induction xs with
 |nil=>intro b hb _;rw[forIn_nil];exact qab hb
 |cons x xs ih=>
  intro b hb hf;rw[forIn_cons];refine qaa (hf x (by simp) b hb) (λr hr=>?_);cases r with
  |done b=>exact qab hr
  |yield b=>exact ih b hr (λy hy=>hf y (by simp[hy]))
theorem qkk{I:β->Prop}(f:γ->β->Sem (ForInStep β))(xs:Array γ)(b:β)(hb:I b)
   (hf:∀x,x∈xs->∀b,I b->qd C (f x b) (λr=>match r with | .done b=>I b | .yield b=>I b)):qd C (forIn xs b f) I:=by
 rw[<-Array.forIn_toList];exact qif f _ b hb (λx hx=>hf x (by simpa using hx))
theorem qg3{I:β->Prop}(f:Nat->β->Sem (ForInStep β))(r:Std.Legacy.Range)(b:β)(hb:I b)
   (hf:∀x b,I b->qd C (f x b) (λr=>match r with | .done b=>I b | .yield b=>I b)):qd C (forIn r b f) I:=by
 rw[Std.Legacy.Range.forIn_eq_forIn_range'];exact qif f _ b hb (λx _=>hf x)
theorem Rel.vC(h:Rel C w u)(hA:C.B r):(w.shape? r).map (·.1)=(u.shape? r).map (·.1):=by
 rcases h.shapes hA with ⟨h1,h2⟩|⟨t,n,m,h1,h2,_⟩
 . rw[h1,h2]
 . rw[h1,h2];rfl
theorem qnz(hA:C.B r){g:Option (AP×Nat)->Sem α}{Q:α->Prop}(hg:∀t n m,g (some (t,n))=g (some (t,m)))(h:∀x,qd C (g x) Q):qd C (shape r>>=g) Q:=by
 intro w u es hr al;have e1:(shape r>>=g).run C.P u=(g (u.shape? r)).run C.P u:=by rw[CC,AX];rfl
 have e2:(shape r>>=g).runT C.P w es=(g (w.shape? r)).runT C.P w es:=CD C.P (shape r) g w es
 have e3:g (w.shape? r)=g (u.shape? r):=by
  have:=hr.vC hA;cases h1:w.shape? r with
  |none=>cases h2:u.shape? r with
   |none=>rfl
   |some y=>rw[h1,h2]at this;cases this
  |some x=>cases h2:u.shape? r with
   |none=>rw[h1,h2]at this;cases this
   |some y=>
    rw[h1,h2]at this;obtain⟨t,n⟩:=x;obtain⟨t',m⟩:=y;simp only[Option.map_some,CZ]at this;subst this;exact hg _ _ _
 have:=h (u.shape? r) w u es hr al;rw[e1];unfold Out at *;rw[e2,e3];exact this
theorem qse(hA:C.B r):qd C (numberAt r) (λx=>∀y,x=some y->C.B y.1.block):=by
 unfold numberAt;refine qlv hA (f:=λb=>if b=true then pure none else do match <-getObj r with | .number a lost=>pure (some (a,lost))|_=>pure none) (λb=>?_);refine qah (λ_=>qab (by simp)) (λ_=>qaa (qdz hA) (λo ho=>?_));split
 . exact qab (λy e=>by cases e;exact ho.1)
 . exact qab (by simp)
theorem qbm{n:Addr}(hA:C.A n):qd C (behindNumber n) (λx=>C.B x.1.block):=by
 unfold behindNumber;refine qaa (qse (.of hA)) (λx hx=>qab ?_);cases x with
 |none=>exact .of hA
 |some y=>exact hx y rfl
theorem qsf(hA:C.B a.block)(lost:Bool):qd C (asNumber a lost) (Ok C.A C.F):=by
 unfold asNumber;exact qaa (qi5 (o:=.number a lost) hA) (λr hr=>qab (.ptr hr))
theorem qd0(hA:C.B a.block):qd C (byteOf a) (λ_=>True):=by
 unfold byteOf;dsimp only;split
 . exact qab trivial
 . refine qaa qa0 (λp hp=>?_);subst hp;refine qaa (qi7 hA) (λ_ _=>?_);refine qnz hA (λt n m=>rfl) (λx=>?_);split
   . refine qah (λ_=>qab trivial) (λ_=>?_);split
     . exact qab trivial
     . exact qad
   . exact qad
def strs(w:AQ)(a:Addr):Bool:=w.frozen? a||(match w.shape? a.block with
 |some (_,n)=>w.frozen? ⟨a.block,n,none⟩
 |none=>false)
def qsg(w:AQ)(a:Addr):Bool:=(w.shape? a.block) matches some (_,0)
theorem qn0(a:Addr)(es:Array AW):(stringish a).runT C.P w es=(.ok (strs w a) w,es):=by
 unfold strs;cases h1:w.frozen? a with
 |true=>simp[stringish,h1]
 |false=>
  cases hs:w.shape? a.block with
  |none=>simp[stringish,h1,hs]
  |some x=>obtain⟨t,n⟩:=x;simp[stringish,h1,hs]
theorem qqp(a b:Addr)(es:Array AW):(mayBeOne a b).runT C.P w es=(.ok ((strs w a&&strs w b)||(strs w a&&qsg w a)||(strs w b&&qsg w b)) w,es):=by
 have ha:=qn0 (C:=C) (w:=w) a es;have hb:=qn0 (C:=C) (w:=w) b es;simp only[Cz,D1]at ha hb;unfold mayBeOne qsg;simp[ha.1,ha.2,hb.1,hb.2];generalize w.shape? a.block=x;generalize w.shape? b.block=y;rcases x with _|⟨t,_|n⟩<;>rcases y with _|⟨t',_|n'⟩<;>rfl
theorem qgv(h:∀off s,w.frozen? ⟨a.block,off,s⟩=false):strs w a=false:=by
 unfold strs;have h1:w.frozen? a=false:=h a.off a.spot;rw[h1];split
 . simp[h]
 . rfl
theorem q40(h:∃t n,w.shape? a.block=some (t,n)/\0<n):qsg w a=false:=by
 obtain⟨t,n,h1,h2⟩:=h;unfold qsg;rw[h1];cases n with
 |zero=>omega
 |succ n=>rfl
theorem qwl(h:w.heap[a.block]?=u.heap[a.block]?):strs w a=strs u a/\qsg w a=qsg u a:=by
 have h1:∀off s,w.frozen? ⟨a.block,off,s⟩=u.frozen? ⟨a.block,off,s⟩:=λoff s=>by
  unfold CH;rw[h]
 have h2:w.shape? a.block=u.shape? a.block:=by
  unfold CK;rw[h]
 have h3:w.frozen? a=u.frozen? a:=h1 a.off a.spot;refine⟨?_,by unfold qsg;rw[h2]⟩;unfold strs;rw[h3,h2];cases u.shape? a.block with
 |none=>rfl
 |some x=>obtain⟨t,n⟩:=x;simp only[h1]
theorem Rel.yK(h:Rel C w u)(ha:C.A a):(strs w a&&qsg w a)=(strs u a&&qsg u a):=by
 by_cases hG:a.block=C.G
 . have hB:C.B C.G:=hG▸Pen.B.of ha;rcases h.xK hB with ⟨h1,h2⟩|h1
   . rw[<-hG]at h1 h2;rw[qgv h1];rcases h2 with h2|h2
     . rw[qgv h2];rfl
     . rw[q40 h2];simp
   . rw[<-hG]at h1;rw[(qwl h1).1,(qwl h1).2]
 . rw[qgv (h.jr (.of ha) hG),qgv (h.jQ (.of ha) hG)];rfl
theorem Rel.qaP(h:Rel C w u){b:Addr}(ha:C.A a)(hb:C.A b)(hne:a.block≠b.block):(strs w a&&strs w b)=false/\(strs u a&&strs u b)=false:=by
 by_cases hG:a.block=C.G
 . have hG':b.block≠C.G:=λe=>hne (hG.trans e.symm);rw[qgv (h.jr (.of hb) hG'),qgv (h.jQ (.of hb) hG')];simp
 . rw[qgv (h.jr (.of ha) hG),qgv (h.jQ (.of ha) hG)];simp
theorem qsh{b:Addr}(ha:C.A a)(hb:C.A b)(hne:a.block≠b.block):qd C (mayBeOne a b) (λ_=>True):=
 qjy (λw u hr es=>by
  have h1:=qqp (C:=C) (w:=w) a b es;have h2:=qqp (C:=C) (w:=u) a b es;have k:=hr.qaP ha hb hne;rw[k.1,hr.yK ha,hr.yK hb]at h1;rw[k.2]at h2;rw[Cz,D1]at h2;exact⟨_,#[],h2.1,by rw[h1];simp,λe he=>by simp at he,trivial⟩)
theorem qom{b:Addr}(ha:C.A a)(hb:C.A b)(hne:a.block≠b.block):qd C (do let x <-frozen a;let y <-frozen b;pure (x&&y):Sem Bool) (λx=>x=false):=
 qjy (λw u hr es=>by
  have h2:(u.frozen? a&&u.frozen? b)=false/\(w.frozen? a&&w.frozen? b)=false:=by
   by_cases hG:a.block=C.G
   . have hG':b.block≠C.G:=λe=>hne (hG.trans e.symm);have k1:w.frozen? b=false:=hr.jr (.of hb) hG' b.off b.spot;have k2:u.frozen? b=false:=hr.jQ (.of hb) hG' b.off b.spot;rw[k1,k2];simp
   . have k1:w.frozen? a=false:=hr.jr (.of ha) hG a.off a.spot;have k2:u.frozen? a=false:=hr.jQ (.of ha) hG a.off a.spot;rw[k1,k2];simp
  exact⟨false,#[],by simpa using h2.1,by simpa using h2.2,λe he=>by simp at he,rfl⟩)
theorem qjz{b:Addr}(ha:C.A a)(hb:C.A b):qd C (sameAddr a b) (λ_=>True):=by
 unfold sameAddr;dsimp only;refine qah (λ_=>qab trivial) (λhne=>?_);have hne:a.block≠b.block:=by simpa using hne
 have e:∀f:Bool->Sem Bool,(frozen a>>=λx=>frozen b>>=λy=>f (x&&y))=((do let x <-frozen a;let y <-frozen b;pure (x&&y):Sem Bool)>>=f):=λf=>by simp
 have key:qd C ((do let x <-frozen a;let y <-frozen b;pure (x&&y):Sem Bool)>>=λx=>if x=true then (do let _ <-(unsupported .addressObserved:Sem Unit);noView a;noView b;if (<-mayBeOne a b)=true then (do let y <-choose (.extern "sameAddr.stringBytes" 2);pure (y==1))else pure false)else (do noView a;noView b;if (<-mayBeOne a b)=true then (do let y <-choose (.extern "sameAddr.stringBytes" 2);pure (y==1))else pure false)) (λ_=>True):=by
  refine qaa (qom ha hb hne) (λx hx=>?_);subst hx;simp only[AL,if_false];refine qaa (qi7 (.of ha)) (λ_ _=>qaa (qi7 (.of hb)) (λ_ _=>qaa (qsh ha hb hne) (λx _=>qah (λ_=>qaa (qc6 _) (λ_ _=>qab trivial)) (λ_=>qab trivial))))
 rw[<-e]at key;exact key
theorem qm1{a b:Option Addr}(ha:∀x,a=some x->C.A x)(hb:∀x,b=some x->C.A x):qd C (samePointer a b) (λ_=>True):=by
 unfold samePointer;split
 . exact qjz (ha _ rfl) (hb _ rfl)
 . exact qab trivial
theorem qf3(t:AP):qd C (typeStr t) (λ_=>True):=by
 unfold typeStr;refine qaa (qa4 t) (λi _=>?_);dsimp only;exact qah (λ_=>qaf (by simp)) (λ_=>qab trivial)
theorem qhx(hH:qbg C):∀(d:Nat) (t:AP) (x y:AN),Ok C.A C.F x->Ok C.A C.F y->qd C (Co d t x y) (λ_=>True):=by
 intro d
 induction d with
 |zero=>intro t x y _ _;unfold Co;exact qaf (by simp)
 |succ d ih=>
  intro t x y hx hy;unfold Co;refine qaa (qai t) (λud _=>?_);split
  . exact qab trivial
  . exact qah (λ_=>qab trivial) (λ_=>qad)
  . exact qab trivial
  . exact qab trivial
  . refine qaa (qbm hx.jb) (λa ha=>qaa (qbm hy.jb) (λb hb=>qaa qa0 (λp hp=>?_)));refine qah (λ_=>?_) (λ_=>?_)
    . exact qaa (qd0 ha) (λ_ _=>qaa (qd0 hb) (λ_ _=>qab trivial))
    . refine qaa (qa4 t) (λi _=>?_);split
      . exact qah (λ_=>qab trivial) (λ_=>qaf (by simp))
      . exact qaf (by simp)
  . exact qaf (by simp)
  . exact qaf (by simp)
  . exact qah (λ_=>qab trivial) (λ_=>qad)
  . exact qah (λ_=>qab trivial) (λ_=>qad)
  . exact qab trivial
  . exact qab trivial
  . exact qab trivial
  . refine qaa (qa6 _) (λn _=>?_);refine qah (λ_=>qjz hx.jb hy.jb) (λ_=>qah (λ_=>qab trivial) (λ_=>qaa (qc6 _) (λ_ _=>qab trivial)))
  . exact qm1 (λa e=>by subst e;exact hx.jb) (λa e=>by subst e;exact hy.jb)
  . exact qab trivial
  . exact qab trivial
  . exact qab trivial
  . exact qab trivial
  . refine qah (λ_=>qab trivial) (λ_=>qaa (qa4 _) (λi _=>?_));dsimp only;refine qah (λ_=>?_) (λ_=>ih _ _ _ hx.jl hy.jl);refine qaa qa0 (λp _=>qaa qa0 (λp _=>?_));refine qah (λ_=>qaa (Q:=λ_=>True) (qaf (by simp)) (λ_ _=>?_)) (λ_=>?_)
    . exact qaa (qf3 _) (λs _=>qal hH _)
    . exact qaa (qf3 _) (λs _=>qal hH _)
  . refine qaa qa0 (λp _=>?_);dsimp only;refine qah (λ_=>qaa (Q:=λ_=>True) (qaf (by simp)) (λ_ _=>?_)) (λ_=>?_)
    all_goals
     refine qaa (Q:=λ_=>True) (qkk (I:=λ_=>True) _ _ _ trivial (λf _ b _=>?_)) (λr _=>?_)
     . refine qah (λ_=>?_) (λ_=>qab trivial);refine qaa (qcy hx.jk _) (λv hv=>qaa (qcy hy.jk _) (λv' hv'=>qaa (ih _ _ _ hv hv') (λb _=>?_)));exact qah (λ_=>qab trivial) (λ_=>qab trivial)
     . split<;>exact qab trivial
  . refine qaa (qa6 _) (λn _=>?_);refine qaa (Q:=λ_=>True) (qg3 (I:=λ_=>True) _ _ _ trivial (λf b _=>?_)) (λr _=>?_)
    . refine qaa (qcy hx.jk _) (λv hv=>qaa (qcy hy.jk _) (λv' hv'=>qaa (ih _ _ _ hv hv') (λb _=>?_)));exact qah (λ_=>qab trivial) (λ_=>qab trivial)
    . dsimp only;split<;>exact qab trivial
  all_goals first|exact qab trivial|exact qad
end
section
variable {C:Pen}{α β γ:Type}
theorem qi8:∀(d:Nat) (t:AP) (x y:AN),Ok C.A C.F x->Ok C.A C.F y->qd C (Cn d t x y) (λ_=>True):=by
 intro d
 induction d with
 |zero=>intro t x y _ _;unfold Cn;exact qaf (by simp)
 |succ d ih=>
  intro t x y hx hy;unfold Cn;refine qaa (qai t) (λud _=>?_);split
  . exact qab trivial
  . refine qaa (Q:=λ_=>True) (qkk (I:=λ_=>True) _ _ _ trivial (λf _ b _=>?_)) (λr _=>?_)
    . refine qah (λ_=>?_) (λ_=>qab trivial);refine qaa (qcy hx.jk _) (λv hv=>qaa (qcy hy.jk _) (λv' hv'=>qaa (ih _ _ _ hv hv') (λb _=>?_)));exact qah (λ_=>qab trivial) (λ_=>qab trivial)
    . dsimp only;split<;>exact qab trivial
  . refine qaa (qa6 _) (λn _=>?_);refine qaa (Q:=λ_=>True) (qg3 (I:=λ_=>True) _ _ _ trivial (λf b _=>?_)) (λr _=>?_)
    . refine qaa (qcy hx.jk _) (λv hv=>qaa (qcy hy.jk _) (λv' hv'=>qaa (ih _ _ _ hv hv') (λb _=>?_)));exact qah (λ_=>qab trivial) (λ_=>qab trivial)
    . dsimp only;split<;>exact qab trivial
  . exact qab trivial
theorem qud{x y:Ba}{a b:AN}(ha:Ok C.A C.F a)(hb:Ok C.A C.F b):qd C (eqGuard op t x y a b) (λ_=>True):=by
 unfold eqGuard;refine qah (λ_=>qab trivial) (λ_=>?_);split
 . refine qah (λ_=>qab trivial) (λ_=>qaa (qi8 _ _ _ _ ha hb) (λr _=>?_));exact qah (λ_=>qaf (by simp)) (λ_=>qab trivial)
 . refine qaa qa0 (λp _=>qaa qa0 (λp _=>?_));refine qah (λ_=>qab trivial) (λ_=>qaa (qi8 _ _ _ _ ha hb) (λr _=>?_));exact qah (λ_=>qaf (by simp)) (λ_=>qab trivial)
 . exact qab trivial
theorem qj0(op:AZ)(k:AV)(x y:Int):qd C (Cr op k x y) (Ok C.A C.F):=by
 unfold Cr;split<;>first|exact qab (.int _ _)|exact qad
theorem qwm(hH:qbg C)(op:AZ)(k:AV)(x y:Int):qd C (Cu op k x y) (Ok C.A C.F):=by
 unfold Cu;refine qah (λ_=>qal hH _) (λ_=>?_);split<;>first|exact qab (.int _ _)|exact qad
theorem qlw(op:AZ)(k:AV)(x y:Int):qd C (Cs op k x y) (Ok C.A C.F):=by
 unfold Cs;dsimp only;split<;>first|exact qab (.int _ _)|exact qad
theorem qqq(hH:qbg C)(op:AZ)(k j:AV)(x y:Int):qd C (Cx op k x j y) (Ok C.A C.F):=by
 unfold Cx;refine qah (λ_=>qal hH _) (λ_=>?_);dsimp only;split<;>first|exact qab (.int _ _)|exact qad
theorem qwn(op:AZ)(x y:Int):qd C (Cv op x y) (Ok C.A C.F):=by
 unfold Cv;split<;>first|exact qab (.bool _)|exact qad
theorem qj1(op:AZ)(x y:ByteArray):qd C (Cq op x y) (Ok C.A C.F):=by
 unfold Cq;dsimp only;split
 . exact qah (λ_=>qaf (by simp)) (λ_=>qab (.string _))
 all_goals first|exact qab (.bool _)|exact qad
theorem que(hA:C.B r){g:Option (AP×Nat)->Sem α}{Q:α->Prop}
   (hg:∀t n m es w u,n<=m->Rel C w u->Out C Q w es (g (some (t,m))) ((g (some (t,n))).run C.P u)) (h:qd C (g none) Q):qd C (shape r>>=g) Q:=by
 intro w u es hr al;have e1:(shape r>>=g).run C.P u=(g (u.shape? r)).run C.P u:=by rw[CC,AX];rfl
 have e2:(shape r>>=g).runT C.P w es=(g (w.shape? r)).runT C.P w es:=CD C.P (shape r) g w es;have key:=hr.shapes hA;rw[e1];rcases key with ⟨h1,h2⟩|⟨t,n,m,h1,h2,h3⟩
 . have:=h w u es hr (λk q k1 k2=>al k q k1 (by rw[e1,h2];exact k2));rw[h2];unfold Out at *;rw[e2,h1];exact this
 . have:=hg t n m es w u h3 hr;rw[h1];unfold Out at *;rw[e2,h2];exact this
theorem qon{p:AR}{e:Nat}{b:Int}{x:Nat}(hnm:n<=m)(h:cellAtBytes p d e n off b=some x):cellAtBytes p d e m off b=some x:=by
 unfold cellAtBytes at *;dsimp only at *;split at h
 . cases h
 . rename_i h0;rw[if_neg h0];cases hb:byteOfCell p d e (off%p.cellsOf e)with
   |none=>rw[hb]at h;cases h
   |some here=>
    rw[hb]at h;simp only[Option.bind_eq_bind,Option.bind_some]at h |-;split at h
    . cases h
    . rename_i h1;rw[if_neg]
      . exact h
      . intro h2;apply h1;simp only[Bool.or_eq_true,decide_eq_true_eq]at h2 |-;rcases h2 with h2|h2
        . exact .inl h2
        . right;refine Int.le_trans ?_ h2;exact Int.ofNat_le.2 (Nat.mul_le_mul_right _ hnm)
theorem qqr{y:AN}(hx:∀a,x=.pointer (some a)->C.B a.block):qd C (Bf ats t #[x,y]) (λv=>∃b:Addr,v=.pointer (some b)/\C.B b.block):=by
 unfold Bf;cases x with
 |pointer ptr=>
  dsimp only;refine qaa (qez _) (λn _=>?_);cases ptr with
  |some a=>
   have key : qd C (do
         let __x <-shape a.block
         match __x with
          |some (e,cells)=>do
           let p <-program
           match cellAtBytes p p.depth e (cells/p.cellsOf e) a.off n with
            |some off=>pure (Value.pointer (some {block:=a.block,off:=off,spot:=a.spot}))
            |none=>unsupported (CG "Add")
          |x=>unsupported (CG "Add"):Sem AN) (λv=>∃b:Addr,v=.pointer (some b)/\C.B b.block):=by
    refine que (hx a rfl) (λe n' m es w u hle hr=>?_) (qaf (by simp));cases hc:cellAtBytes C.P C.P.depth e (n'/C.P.cellsOf e) a.off n with
    |none=>simp[program,CB,bind,CF,hc,unsupported];trivial
    |some off=>
     have h2:=qon (Nat.div_le_div_right (c:=C.P.cellsOf e) hle) hc
     have e1 : (do let p <- program
                   match cellAtBytes p p.depth e (n'/p.cellsOf e) a.off n with
                   |some off=>pure (Value.pointer (some {block:=a.block,off:=off,spot:=a.spot}))
                   |none=>unsupported (CG "Add"):Sem AN).run C.P u=.ok (.pointer (some {block:=a.block,off:=off,spot:=a.spot})) u:=by simp[hc]
     show Out C _ w es _ ((do let p <- program
                              match cellAtBytes p p.depth e (n'/p.cellsOf e) a.off n with
                              |some off=>pure (Value.pointer (some {block:=a.block,off:=off,spot:=a.spot}))
                              |none=>unsupported (CG "Add"):Sem AN).run C.P u)
     rw[e1];exact⟨w,#[],by simp[program,CA,bind,CF,h2,-Cz];rfl,hr,Kept.refl C w,_,rfl,hx a rfl⟩
   refine qah (λ_=>?_) (λ_=>?_)
   . dsimp only;refine qaa (qny (hx a rfl)) (λv hv=>?_);subst hv;exact qab ⟨a,rfl,hx a rfl⟩
   . exact qah (λ_=>qaa (Q:=λ_=>True) (qaf (by simp)) (λ_ _=>key)) (λ_=>key)
  |none=>
   have key:qd C (unsupported (CG "Add"):Sem AN) (λv=>∃b:Addr,v=.pointer (some b)/\C.B b.block):=qaf (by simp);refine qah (λ_=>?_) (λ_=>?_)
   . exact qaa (Q:=λ_=>True) (qaf (by simp)) (λ_ _=>qah (λ_=>qaa (Q:=λ_=>True) (qaf (by simp)) (λ_ _=>key)) (λ_=>key))
   . exact qah (λ_=>qaa (Q:=λ_=>True) (qaf (by simp)) (λ_ _=>key)) (λ_=>key)
 |_=>exact qad
theorem qe0{y:AN}(hx:Ok C.A C.F x):qd C (movedNumber t x y) (Ok C.A C.F):=by
 unfold movedNumber;refine qaa (qai t) (λd _=>?_)
 have key:qd C (do
     let .pointer (some n):=x|Bf #[] t #[x,y]
     let (a,lost) <-behindNumber n
     match <-Bf #[] t #[.pointer (some a),y]with
     | .pointer (some b)=>asNumber b lost
     |v=>pure v:Sem AN) (Ok C.A C.F):=by
  split
  . refine qaa (qbm hx.jb) (λp hp=>qaa (qqr (λa e=>by cases e;exact hp)) (λv hv=>?_));obtain⟨b,rfl,hb⟩:=hv;exact qsf hb _
  . rename_i hno;unfold Bf;cases x with
    |pointer ptr=>
     cases ptr with
     |some a=>exact absurd rfl (hno a)
     |none=>
      have key:qd C (unsupported (CG "Add"):Sem AN) (Ok C.A C.F):=qaf (by simp);dsimp only;refine qaa (qez _) (λn _=>?_);refine qah (λ_=>?_) (λ_=>?_)
      . exact qaa (Q:=λ_=>True) (qaf (by simp)) (λ_ _=>qah (λ_=>qaa (Q:=λ_=>True) (qaf (by simp)) (λ_ _=>key)) (λ_=>key))
      . exact qah (λ_=>qaa (Q:=λ_=>True) (qaf (by simp)) (λ_ _=>key)) (λ_=>key)
    |_=>exact qad
 dsimp only;split
 . exact qaa (Q:=λ_=>True) (qaf (by simp)) (λ_ _=>key)
 . exact key
theorem qi9{b:Addr}(ha:C.B a.block)(hb:C.B b.block):qd C (Cp a b) (λ_=>True):=by
 unfold Cp;refine qaa qa0 (λp _=>?_);have key:qd C (do pure (<-byteOf a,<-byteOf b):Sem (Nat×Nat)) (λ_=>True):=qaa (qd0 ha) (λ_ _=>qaa (qd0 hb) (λ_ _=>qab trivial));dsimp only;exact qah (λ_=>qaa (Q:=λ_=>True) (qaf (by simp)) (λ_ _=>key)) (λ_=>key)
theorem qlx{k:AV}{n:Int}(ha:C.B a.block):qd C (Ct k a n) (Ok C.A C.F):=by
 unfold Ct;refine qnz ha (λt n m=>rfl) (λx=>?_);split
 . refine qaa (qa4 _) (λi _=>?_);have key:qd C (do pure (.int k ((<-byteOf a)%n.toNat:Nat)):Sem AN) (Ok C.A C.F):=qaa (qd0 ha) (λ_ _=>qab (.int _ _));dsimp only;exact qah (λ_=>qaa (Q:=λ_=>True) (qaf (by simp)) (λ_ _=>key)) (λ_=>key)
 . exact qaf (by simp)
theorem qy1(hH:qbg C)(ht:C.P.underlying t≠some .unsafePointer){y:AN}(hx:Ok C.A C.F x)(hy:Ok C.A C.F y):qd C (binOp op t x y) (Ok C.A C.F):=by
 unfold binOp;split
 . exact qqq hH _ _ _ _ _
 . exact qqq hH _ _ _ _ _
 . refine qah (λ_=>qad) (λ_=>?_);split
   all_goals first|exact qj0 _ _ _ _|exact qwm hH _ _ _ _|exact qlw _ _ _ _|exact qwn _ _ _
 . cases hx
 . cases hx
 . exact qj1 _ _ _
 . exact qaa (qhx hH _ _ _ _ hx hy) (λ_ _=>qab (.bool _))
 . exact qaa (qhx hH _ _ _ _ hx hy) (λ_ _=>qab (.bool _))
 . refine qaa (qai t) (λd hd=>?_);split
   . exact absurd hd ht
   . exact qe0 hx
 . exact qe0 hy
 . exact qe0 hx
 . exact qaa (qbm hx.jb) (λa ha=>qaa (qbm hy.jb) (λb hb=>qaa (qi9 ha hb) (λ_ _=>qab (.int _ _))))
 all_goals first
  | exact qaa (qbm hx.jb) (fun a ha=>qaa (qbm hy.jb) (fun b hb=>by
      unfold Op.addrCmp;refine qaa (qi9 ha hb) (λ_ _=>?_);split
      all_goals first|exact qab (.bool _)|exact qaf (by simp)))
  |exact qaa (qbm hx.jb) (λa ha=>qlx ha)
  |exact qaa (qbm hy.jb) (λa ha=>qlx ha)
  |exact qaf (by simp)
  |exact qad
theorem qy2{op:UnOp}(hx:Ok C.A C.F x):qd C (Cw op x) (Ok C.A C.F):=by
 unfold Cw;split
 . exact qj0 _ _ _ _
 . exact qlw _ _ _ _
 . cases hx
 . cases hx
 . exact qab (.bool _)
 all_goals first|exact qaf (by simp)|exact qad
end
section
variable {C:Pen}{α β γ:Type}
theorem qee(h:Ok C.A C.F v):qd C (BZ v) (λa=>C.A a):=by
 unfold BZ;split
 . exact qab h.jb
 . exact qad
theorem qwo(h:Ok C.A C.F v):qd C (Cc t v) (Ok C.A C.F):=by
 unfold Cc;exact qaa (qee h) (λa ha=>qev ha)
theorem quf(h:Ok C.A C.F v)(hx:Ok C.A C.F x):qd C (C0 t v x) (λ_=>True):=by
 unfold C0;exact qaa (qee h) (λa ha=>qsd ha hx)
theorem qwp(ha:C.A a)(i j:Nat):qd C (partAt a i j) (λb=>C.A b):=by
 unfold partAt;refine qaa (qd0 (.of ha)) (λb _=>qaa (qd0 (a:={block:=a.block,off:=a.off+i}) ⟨a,ha,rfl⟩) (λb' _=>qab ?_));split<;>exact C.up _ _ ha rfl (CW _ _)
theorem qfm(ha:C.A a)(f:Field):qd C (fieldPlace a f) (λb=>C.A b):=by
 unfold fieldPlace;refine qaa (qa6 _) (λn _=>qah (λ_=>qwp ha _ _) (λ_=>qab ?_));exact qnv ha _
theorem qug(h:Ok C.A C.F v)(f:Nat):qd C (C9 s v f) (Ok C.A C.F):=by
 unfold C9;refine qaa (qai s) (λd _=>?_);split
 . split
   . exact qaa (qee h) (λa ha=>qaa (qfm ha _) (λb hb=>qab (.ptr hb)))
   . exact qad
 . exact qad
theorem quh(hH:qbg C)(hx:Ok C.A C.F x):qd C (C8 t x ix) (Ok C.A C.F):=by
 unfold C8;refine qaa (qf1 _) (λp _=>?_);refine qaa (qai t) (λd _=>?_)
 have tail:∀ r:Option Addr × Nat × AP,(∀ a,r.1=some a->C.A a)->qd C (do
     let tiny:=r.2.1<=1&&(match <-underlying t with | .array ..=>true|_=>false)
     match r.1 with
     |some a=>
      if 0<=p.2/\p.2<r.2.1 then pure (.pointer (some (a.add (p.2.toNat*(<-sizeOf r.2.2)))))
      else if tiny then unsupported (.noEntry "op/indexAddr.an index out of range at an array of length 0 or 1 (ledger 616)")
      else boundsPanic p.1 p.2 r.2.1 .index
     |none=>boundsPanic p.1 p.2 0 .index:Sem AN) (Ok C.A C.F):=by
  intro r hr;refine qaa (qai t) (λd _=>?_);dsimp only;split
  . rename_i a ha;refine qah (λ_=>qaa (qa6 _) (λn _=>qab (.ptr ?_))) (λ_=>qah (λ_=>qaf (by simp)) (λ_=>qdg hH _ _ _ _));exact qnv (hr a ha) _
  . exact qdg hH _ _ _ _
 split
 . exact qaa (qee hx) (λa ha=>qaa (Q:=λr:Option Addr×Nat×AP=>∀a,r.1=some a->C.A a) (qab (λb e=>by cases e;exact ha)) tail)
 . exact qaa (Q:=λr:Option Addr×Nat×AP=>∀a,r.1=some a->C.A a) (qab (λb e=>by dsimp only at e;subst e;exact hx.of_slice)) tail
 . exact qaa (Q:=λ_=>False) qad (λ_ h=>h.elim)
theorem qeh(hH:qbg C)(x:AN)(y:Nat)(c:BoundsCode):qd C (BM x y c) (λ_=>True):=by
 unfold BM;exact qaa (qf1 x) (λp _=>qah (λ_=>qab trivial) (λ_=>qdg hH _ _ _ _))
theorem qdh(hH:qbg C)(b:Bool)(l c:Nat)(lo hi mx:Option AN):qd C (BU b l c lo hi mx) (λ_=>True):=by
 unfold BU
 have t3:∀ m h:Nat,qd C (do
     let l <-match lo with
      |some v=>BM v h (if mx.isSome then .slice3C else .sliceB)
      |none=>pure 0
     pure (l,h,m):Sem (Nat×Nat×Nat)) (λ_=>True):=by
  intro m h;cases lo with
  |some v=>exact qaa (qeh hH _ _ _) (λ_ _=>qab trivial)
  |none=>exact qab trivial
 have t2:∀ m:Nat,qd C (do
     let h <-match hi,mx with
      |some v,some _=>BM v m .slice3B
      |some v,none=>BM v m (if b then .sliceAcap else .sliceAlen)
      |none,none=>pure l
      |none,some _=>stuck "Slice: max without high"
     let l <-match lo with
      |some v=>BM v h (if mx.isSome then .slice3C else .sliceB)
      |none=>pure 0
     pure (l,h,m):Sem (Nat×Nat×Nat)) (λ_=>True):=by
  intro m;have:=t3 m;cases hi<;>cases mx<;>dsimp only at this |-
  . exact this l
  . exact qaa (Q:=λ_=>True) qad (λh _=>this h)
  . exact qaa (qeh hH _ _ _) (λh _=>this h)
  . exact qaa (qeh hH _ _ _) (λh _=>this h)
 cases mx with
 |none=>exact t2 c
 |some v=>exact qaa (qeh hH _ _ _) (λm _=>t2 m)
theorem qwq{a:Option Addr}(h:∀x,a=some x->C.A x):∀x,a.map (·.add n)=some x->C.A x:=by
 intro x e;cases a with
 |none=>cases e
 |some a=>cases e;exact qnv (h a rfl) _
theorem qy3(hH:qbg C)(hx:Ok C.A C.F x):qd C (Cd t x lo hi mx) (Ok C.A C.F):=by
 unfold Cd;refine qaa (qai t) (λd _=>?_);split
 . dsimp only;refine qah (λ_=>qaa (Q:=λ_=>True) qad (λ_ _=>qaa (qdh hH _ _ _ _ _ _) (λ_ _=>qab (.string _)))) (λ_=>qaa (qdh hH _ _ _ _ _ _) (λ_ _=>qab (.string _)))
 . rename_i a len cap _;refine qaa (qdh hH _ _ _ _ _ _) (λr _=>qaa (qa6 _) (λn _=>qab (.slice _ _ ?_)));have h0:∀x,a=some x->C.A x:=λy e=>by subst e;exact hx.of_slice
   split
   . exact h0
   . exact qwq h0
 . refine qaa (qfb hH hx) (λa ha=>qaa (qai _) (λd _=>?_));split
   . refine qaa (qdh hH _ _ _ _ _ _) (λr _=>qaa (qa6 _) (λn _=>qab (.slice _ _ (λy e=>?_))));cases e;split
     . exact ha
     . exact qnv ha _
   . exact qad
 . exact qad
theorem qui(hH:qbg C)(hx:Ok C.A C.F x):qd C (C6 t x lo hi mx) (Ok C.A C.F):=by
 unfold C6;refine qaa (qai t) (λd _=>?_);split
 . refine qaa (qee hx) (λa ha=>qaa (qdh hH _ _ _ _ _ _) (λr _=>qaa (qa6 _) (λn _=>qab (.slice _ _ (λy e=>?_)))));cases e;split
   . exact ha
   . exact qnv ha _
 . exact qy3 hH hx
theorem q41(h:Ok C.A C.F v):qd C (Ck t v) (Ok C.A C.F):=by
 unfold Ck;exact qaa (qgu h) (λa ha=>qab (.ptr ha))
theorem qy4(hz:qlt C t):qd C (Cj t true (.tuple #[])) (Ok C.A C.F):=by
 unfold Cj;refine qaa (qcf hz) (λz hz=>?_);exact qaa (qgu hz) (λa ha=>qab (.ptr ha))
theorem qy5{l:List (AN×Nat)}:∀{cs:Array AN},qn C cs->(∀p,p∈l->Ok C.A C.F p.1)->qn C (l.foldl (λcs (p:AN×Nat)=>cs.setIfInBounds (off+p.2) p.1) cs):=by
 induction l with
 |nil=>intro cs h _;exact h
 |cons p l ih=>
  intro cs h hl;exact ih (h.set (hl p (by simp)) _) (λq hq=>hl q (by simp[hq]))
theorem qy6{place:Nat->Option (Nat×Nat)}:∀(l:List (Nat×AN)) (cells out:Array AN),qn C cells->(∀p,p∈l->Ok C.A C.F p.2)->BT place cells l=some out->qn C out:=by
 intro l
 induction l with
 |nil=>intro cells out h _ e;cases e;exact h
 |cons p l ih=>
  intro cells out h hl e;obtain⟨i,v⟩:=p;unfold BT at e;split at e
  . cases e
  . split at e
    . cases e
    . refine ih _ out ?_ (λq hq=>hl q (by simp[hq])) e;rw[<-Array.foldl_toList];refine qy5 h (λq hq=>?_);have hv:=(hl (i,v) (by simp)).cells;have hq':q∈v.cells.zipIdx:=Array.mem_toList_iff.1 hq;obtain⟨j,hj⟩:=Ap.1 hq';rw[Array.getElem?_zipIdx]at hj;cases hg:v.cells[j]? with
      |none=>rw[hg]at hj;cases hj
      |some y=>rw[hg]at hj;cases hj;exact hv y (Aj hg)
theorem qqs{f:α->Sem β}(h:∀x,qd C (f x) (λ_=>True))(xs:Array α):qd C (xs.mapM f) (λ_=>True):=by
 rw[Array.mapM_eq_mapM_toList];refine qqm (Q:=λ_=>True) ?_ (λ_ _=>trivial);generalize xs.toList=l
 induction l with
 |nil=>rw[mapM_nil];exact qab trivial
 |cons x l ih=>rw[mapM_cons];exact qaa (h x) (λ_ _=>qaa ih (λ_ _=>qab trivial))
theorem qy7{parts:Array (Nat×AN)}(hz:qlt C t)(hp:∀p,p∈parts->Ok C.A C.F p.2):qd C (Ci t parts) (Ok C.A C.F):=by
 unfold Ci;refine qaa (qcf hz) (λz hz=>qaa (qai t) (λd _=>?_));split
 . refine qaa (qqs (λf=>qaa (qa6 _) (λ_ _=>qab trivial)) _) (λplaces _=>?_);split
   . rename_i cells hc;exact qab (.agg (qy6 _ _ _ hz.cells (λp hp'=>hp p (by simpa using hp')) hc))
   . exact qad
 . refine qaa (qa6 _) (λn _=>?_);split
   . rename_i cells hc;exact qab (.agg (qy6 _ _ _ hz.cells (λp hp'=>hp p (by simpa using hp')) hc))
   . exact qad
 . exact qad
def qf9(C:Pen)(t:AP):Prop:=∀e,C.P.underlying t=some (.slice e)->qlt C e
theorem qqt{zero:Array AN}(h:qn C zero)(hd:Ok C.A C.F default)(n:Nat):qn C ((Ax n).map (λi=>zero[i%zero.size]!)):=by
 intro v hv;obtain⟨i,_,rfl⟩:=At.1 hv;by_cases hi:i%zero.size<zero.size
 . rw[getElem!_pos zero _ hi];exact h _ (AI hi)
 . rw[getElem!_neg zero _ hi];exact hd
theorem qm2{A:Addr->Prop}{F:AU->Prop}:Ok A F (default:AN):=.bool _
theorem qoo{len:Nat}{parts:Array (Nat×AN)}(hz:qf9 C t)(hp:∀p,p∈parts->Ok C.A C.F p.2):qd C (BW t len parts) (Ok C.A C.F):=by
 unfold BW;refine qaa (qai t) (λd hd=>?_);split
 . rename_i elem;refine qaa (qa6 _) (λsize _=>?_)
   have tail:∀ zero:Array AN,qn C zero->qd C (do
       let some cells:=BT (λi=>some (i*size,size)) ((Ax (len*size)).map (zero[· % zero.size]!)) parts.toList
        |stuck "buildSlice: a part of the wrong size"
       pure (.slice (some (<-newRow elem cells)) len len):Sem AN) (Ok C.A C.F):=by
    intro zero h;split
    . rename_i cells hc;refine qaa (jm (qy6 _ _ _ (qqt h qm2 _) (λp hp'=>hp p (by simpa using hp')) hc)) (λa ha=>qab (.slice _ _ (λx e=>by cases e;exact ha)))
    . exact qad
   dsimp only;refine qah (λ_=>qaa (Q:=λ_=>True) (qaf (by simp)) (λ_ _=>?_)) (λ_=>?_)
   all_goals exact qah (λ_=>qaa (Q:=qn C) (qab .nil) (λz hz=>tail z hz)) (λ_=>qaa (qcf (hz _ hd)) (λz hz=>qaa (Q:=qn C) (qab hz.cells) (λz hz=>tail z hz)))
 . exact qad
end
section
variable {C:Pen}{α β γ:Type}
theorem qqu(hH:qbg C){l c:AN}(hz:qf9 C t):qd C (BY t l c) (Ok C.A C.F):=by
 unfold BY;refine qaa (qai t) (λd hd=>?_);split
 . rename_i elem;refine qaa (qez _) (λlen _=>qaa (qez _) (λcap _=>qaa (qa4 _) (λi _=>?_)))
   have tail:∀ (zero:Array AN) (n l c:Nat),qn C zero->qd C (do
       let a <-newRow elem ((Ax n).map (zero[· % zero.size]!))
       pure (.slice (some a) l c):Sem AN) (Ok C.A C.F):=λzero n l c h=>
    qaa (jm (qqt h qm2 _)) (λa ha=>qab (.slice _ _ (λx e=>by cases e;exact ha)))
   dsimp only
   have rest:∀n l c:Nat,qd C (if n=0 then (do let z <-pure #[];let a <-newRow elem ((Ax n).map (z[· % z.size]!));pure (.slice (some a) l c))else (do let v <-zeroValue elem;let z <-pure v.cells;let a <-newRow elem ((Ax n).map (z[· % z.size]!));pure (.slice (some a) l c)):Sem AN) (Ok C.A C.F):=λn l c=>
    qah (λ_=>qaa (Q:=qn C) (qab .nil) (λz hz=>tail z n l c hz)) (λ_=>qaa (qcf (hz _ hd)) (λz hz=>qaa (Q:=qn C) (qab hz.cells) (λz hz=>tail z n l c hz)))
   have qgo:∀ b l c:Nat,qd C (do
       askRoom b
       let s <-sizeOf elem
       if c*s=0 then (do let z <-pure #[];let a <-newRow elem ((Ax (c*s)).map (z[· % z.size]!));pure (.slice (some a) l c))else (do let v <-zeroValue elem;let z <-pure v.cells;let a <-newRow elem ((Ax (c*s)).map (z[· % z.size]!));pure (.slice (some a) l c)):Sem AN) (Ok C.A C.F):=λb l c=>
    qaa (qlu _) (λ_ _=>qaa (qa6 _) (λs _=>rest _ _ _))
   refine qah (λ_=>?_) (λ_=>qgo _ _ _);refine qah (λ_=>qaa (Q:=λ_=>True) (qal hH _) (λ_ _=>qgo _ _ _)) (λ_=>?_);refine qah (λ_=>qaa (Q:=λ_=>True) (qal hH _) (λ_ _=>qgo _ _ _)) (λ_=>?_);exact qaa (qc6 _) (λ_ _=>qaa (Q:=λ_=>True) (qal hH _) (λ_ _=>qgo _ _ _))
 . exact qad
theorem quj{r:Option AN}:qd C (C7 t r) (Ok C.A C.F):=by
 unfold C7;have tail:qd C (do pure (.map (some (<-newObj (.map #[] 0)))):Sem AN) (Ok C.A C.F):=qaa (qi5 (o:=.map #[] 0) (λe he=>by simp at he)) (λr hr=>qab (.map (λx e=>by cases e;exact hr)));dsimp only;split
 . refine qaa (qai t) (λd _=>?_);split
   . exact qaa (qez _) (λ_ _=>tail)
   . exact qaa (Q:=λ_=>True) qad (λ_ _=>tail)
 . exact tail
theorem qy8{f:Nat}(hx:Ok C.A C.F x):qd C (Cg t x f) (Ok C.A C.F):=by
 unfold Cg;refine qaa (qai t) (λd _=>?_);split
 . split
   . exact qaa (qy0 hx) (λcs hcs=>qcy hcs _)
   . exact qad
 . exact qad
theorem qy9(hH:qbg C)(hx:Ok C.A C.F x):qd C (Cf t x ix) (Ok C.A C.F):=by
 unfold Cf;refine qaa (qf1 _) (λp _=>qaa (qai t) (λd _=>?_));split
 . exact qah (λ_=>qaa (qa6 _) (λn _=>qcy hx.jk _)) (λ_=>qdg hH _ _ _ _)
 . split
   . exact qab (.int _ _)
   . exact qdg hH _ _ _ _
 . exact qad
theorem quk(hx:Ok C.A C.F x):qd C (Ca x i) (Ok C.A C.F):=by
 unfold Ca;split
 . split
   . rename_i v hv;exact qab (qn.get (C:=C) hx.zo hv)
   . exact qad
 . exact qad
theorem qkl(hx:Ok C.A C.F x):qd C (BR t x) (Ok C.A C.F):=by
 unfold BR;refine qaa (qai t) (λd _=>?_);split
 . exact qad
 . exact qab (.iface _ hx)
theorem qop(hH:qbg C){a:AP}(hx:Ok C.A C.F x)(hz:qlt C a):qd C (BV x t a b) (Ok C.A C.F):=by
 unfold BV
 have holds:∀v,Ok C.A C.F v->qd C (pure (if b then .tuple #[v,.bool true]else v):Sem AN) (Ok C.A C.F):=λv hv=>qab (by
  split
  . exact .tuple (fun u hu=>by
     simp only[CM,CN,CO,or_false]at hu;rcases hu with rfl|rfl
     . exact hv
     . exact .bool _)
  . exact hv)
 have fails:∀e,qd C (if b then (do pure (.tuple #[<-zeroValue a,.bool false]))else runtimePanic e:Sem AN) (Ok C.A C.F):=λe=>
  qah (λ_=>qaa (qcf hz) (λz hz=>qab (.tuple (λu hu=>by
   simp only[CM,CN,CO,or_false]at hu;rcases hu with rfl|rfl
   . exact hz
   . exact .bool _)))) (λ_=>qal hH _)
 dsimp only;refine qaa (qai a) (λd _=>?_);split
 . exact fails _
 . refine qaa (qa4 _) (λi _=>?_);split
   . exact holds _ hx
   . exact fails _
 . exact fails _
 . exact qah (λ_=>holds _ hx.jl) (λ_=>fails _)
 . exact qad
theorem qj2(hH:qbg C)(b:Bool):∀(n:Nat) (t:AP) (v:AN),Ok C.A C.F v->qd C (BN b n t v) (λ_=>True):=by
 intro n
 induction n with
 |zero=>intro t v _;unfold BN;exact qaf (by simp)
 |succ n ih=>
  intro t v hv;unfold BN;refine qaa (qai t) (λd _=>?_);split
  . refine qaa (qa4 _) (λi _=>?_);dsimp only;refine qah (λ_=>?_) (λ_=>ih _ _ hv.jl);refine qah (λ_=>qaa (Q:=λ_=>True) (qal hH _) (λ_ _=>?_)) (λ_=>?_)
    . exact qaa (qf3 _) (λs _=>qaa (Q:=λ_=>True) (qal hH _) (λ_ _=>ih _ _ hv.jl))
    . exact qaa (qf3 _) (λs _=>qaa (Q:=λ_=>True) (qal hH _) (λ_ _=>ih _ _ hv.jl))
  . refine qaa (Q:=λ_=>True) (qg3 (I:=λ_=>True) _ _ _ trivial (λf b _=>?_)) (λr _=>qab trivial);exact qaa (qa6 _) (λ_ _=>qaa (qcy hv.jk _) (λu hu=>qaa (ih _ _ hu) (λ_ _=>qab trivial)))
  . refine qaa (Q:=λ_=>True) (qkk (I:=λ_=>True) _ _ _ trivial (λf _ b _=>?_)) (λr _=>qab trivial);refine qah (λ_=>qaa (qcy hv.jk _) (λu hu=>qaa (ih _ _ hu) (λ_ _=>qab trivial))) (λ_=>qab trivial)
  . exact qab trivial
  all_goals first|exact qad|exact qab trivial
theorem qoq(hH:qbg C){k:AN}(hk:Ok C.A C.F k):∀(es:List AS) (i:Nat),(∀e,e∈es->Ok C.A C.F e.key/\Ok C.A C.F e.val) ->
   qd C (BO t k es i) (λr=>∀x,r=some x->Ok C.A C.F x.2):=by
 intro es
 induction es with
 |nil=>intro i _;unfold BO;exact qab (by simp)
 |cons e es ih=>
  intro i h;unfold BO;refine qaa (qhx hH _ _ _ _ hk (h e (by simp)).1) (λb _=>qah (λ_=>qab (λx hx=>by cases hx;exact(h e (by simp)).2)) (λ_=>ih _ (λe' h'=>h e' (by simp[h']))))
theorem q2m{kind:TypeDesc}{k:AN}:∀(es:List AS) (i:Nat),(∀e,e∈es->Ok C.A C.F e.key/\Ok C.A C.F e.val)->∀r,BP kind k es i=some r->∀x,r=some x->Ok C.A C.F x.2:=by
 intro es
 induction es with
 |nil=>intro i _ r h x hx;unfold BP at h;cases h;cases hx
 |cons e es ih=>
  intro i he r h x hx;unfold BP at h;split at h
  . cases h;cases hx;exact(he e (by simp)).2
  . exact ih _ (λe' h'=>he e' (by simp[h'])) r h x hx
  . cases h
theorem qly(hH:qbg C){k:AN}(hk:Ok C.A C.F k){es:List AS}(h:∀e,e∈es->Ok C.A C.F e.key/\Ok C.A C.F e.val) :
   qd C (BQ t k es) (λr=>∀x,r=some x->Ok C.A C.F x.2):=by
 unfold BQ;refine qaa (qai t) (λd _=>?_);split
 . rename_i r hr;exact qab (q2m es 0 h r hr)
 . exact qoq hH hk es 0 h
def qqv(C:Pen)(t:AP):Prop:=∀k e,C.P.underlying t=some (.map k e)->qlt C e
theorem qwr(hH:qbg C)(hz:qqv C t)(hx:Ok C.A C.F x)(hi:Ok C.A C.F ix):qd C (Cb t x ix b) (Ok C.A C.F):=by
 unfold Cb;refine qaa (qai t) (λd hd=>?_);split
 . rename_i key elem
   have two:∀(v:AN) (ok:Bool),Ok C.A C.F v->Ok C.A C.F (if b then .tuple #[v,.bool ok]else v):=λv ok hv=>by
    split
    . exact .tuple (fun u hu=>by
       simp only[CM,CN,CO,or_false]at hu;rcases hu with rfl|rfl
       . exact hv
       . exact .bool _)
    . exact hv
   have tail:∀ es:Array AS,(∀ e,e∈es->Ok C.A C.F e.key/\Ok C.A C.F e.val)->qd C (do
       BN es.isEmpty 10000 key ix
       let r <-BQ key ix es.toList
       match r with
       |some (_,v)=>do let p <-pure (v,true);match p with|(v,ok)=>pure (if b then .tuple #[v,.bool ok]else v)
       |none=>do let z <-zeroValue elem;let p <-pure (z,false);match p with|(v,ok)=>pure (if b then .tuple #[v,.bool ok]else v):Sem AN) (Ok C.A C.F):=by
    intro es hes;refine qaa (qj2 hH _ _ _ _ hi) (λ_ _=>qaa (qly hH hi (λe he=>hes e (by simpa using he))) (λr hr=>?_));split
    . exact qaa (Q:=λp:AN×Bool=>Ok C.A C.F p.1) (qab (hr _ rfl)) (λp hp=>qab (two _ _ hp))
    . exact qaa (qcf (hz _ _ hd)) (λz hz=>qaa (Q:=λp:AN×Bool=>Ok C.A C.F p.1) (qab hz) (λp hp=>qab (two _ _ hp)))
   dsimp only;split
   . exact qaa (Q:=λes:Array AS=>∀e,e∈es->Ok C.A C.F e.key/\Ok C.A C.F e.val) (qab (λe he=>by simp at he)) (λes hes=>tail es hes)
   . refine qaa (qdz (.obj hx.of_map)) (λo ho=>?_);split
     . exact qaa (Q:=λes:Array AS=>∀e,e∈es->Ok C.A C.F e.key/\Ok C.A C.F e.val) (qab ho.1) (λes hes=>tail es hes)
     . exact qaa (Q:=λ_=>False) qad (λ_ h=>h.elim)
   . exact qaa (Q:=λ_=>False) qad (λ_ h=>h.elim)
 . exact qad
theorem qlz{a b:AN}(ha:Ok C.A C.F a)(hb:Ok C.A C.F b):qd C (BS a b) (Ok C.A C.F):=by
 unfold BS;refine qah (λ_=>qab hb) (λ_=>qaa (qc6 _) (λn _=>qab ?_));split
 . exact hb
 . exact ha
theorem mem_modify{es:Array AS}{f:AS->AS}{Q:AS->Prop}(h:∀e,e∈es->Q e)(hf:∀e,Q e->Q (f e)):∀e,e∈es.modify i f->Q e:=by
 intro e he;obtain⟨j,hj⟩:=Ap.1 he;rw[AF]at hj;split at hj
 . obtain⟨y,hy,rfl⟩:=Option.map_eq_some_iff.1 hj;exact hf _ (h _ (Aj hy))
 . exact h _ (Aj hj)
theorem qja(hH:qbg C){m k:AN}(hm:Ok C.A C.F m)(hk:Ok C.A C.F k)(hv:Ok C.A C.F v):qd C (BX t m k v) (λ_=>True):=by
 unfold BX;refine qaa (qai t) (λd _=>?_);split
 . split
   . exact qal hH _
   . refine qaa (qdz (.obj hm.of_map)) (λo ho=>?_);split
     . rename_i es clock;have hes:∀e,e∈es->Ok C.A C.F e.key/\Ok C.A C.F e.val:=ho.1;refine qaa (qj2 hH _ _ _ _ hk) (λ_ _=>qaa (qly hH hk (λe he=>hes e (by simpa using he))) (λr _=>?_));split
       . rename_i i _ _
         have hold:Ok C.A C.F (((es[i]?).map (·.key)).getD k):=by
          cases hg:es[i]? with
          |none=>exact hk
          |some e=>exact(hes e (Aj hg)).1
         exact qaa (qlz hold hk) (λk' hk'=>qnu (.obj hm.of_map) (o:=.map _ _) (mem_modify hes (λe _=>⟨hk',hv⟩)) (ho.2.2.2 _ _ rfl) rfl)
       . refine qnu (.obj hm.of_map) (o:=.map _ _) (λe he=>?_) (ho.2.2.2 _ _ rfl) rfl;rcases AK.1 he with h1|h1
         . exact hes e h1
         . rw[h1];exact⟨hk,hv⟩
     . exact qad
   . exact qad
 . exact qad
end
section
variable {C:Pen}{α β γ:Type}
theorem qqw(v:AN):qd C (Bp v) (λ_=>True):=by
 unfold Bp;split<;>first|exact qab trivial|exact qad
theorem qfn{s:Nat}(hv:Ok C.A C.F v):qd C (Bg s n v) (qn C):=by
 unfold Bg;split
 . exact qi6 hv.of_slice _
 . exact qab .nil
 . refine qab (λu hu=>?_);obtain⟨b,_,rfl⟩:=At.1 hu;exact .int _ _
 . exact qad
theorem qn1{zero:Array AN}(h:qn C zero)(n:Nat):qn C (Bn zero n):=qqt h qm2 _
theorem q2n{s:Sem α}{Q:α->Prop}(h:∀u,∃x v,s.run C.P u=.halt x v/\Fatal x):qd C s Q:=λw u es _ _=>by
 obtain⟨x,u',h1,h2⟩:=h u;rw[h1];exact qqn h2
def Looks(C:Pen)(s:Sem α):Prop:=∀u,∃b,s.run C.P u=.ok b u
theorem qd5(a:α):Looks C (pure a):=λ_=>⟨a,rfl⟩
theorem qe1{s:Sem α}{f:α->Sem β}(h:Looks C s)(k:∀a,Looks C (f a)):Looks C (s>>=f):=λu=>by
 obtain⟨a,ha⟩:=h u;obtain⟨b,hb⟩:=k a u;exact⟨b,by rw[CC,ha];exact hb⟩
theorem qws{c:Prop}[Decidable c]{s t:Sem α}(h:Looks C s)(k:Looks C t):Looks C (if c then s else t):=by
 split
 . exact h
 . exact k
theorem qza(r:Nat):Looks C (shape r):=λu=>⟨_,AX C.P u r⟩
theorem qwt(a:Addr):Looks C (frozen a):=λu=>⟨_,run_frozen C.P u a⟩
theorem qfo(a:Addr)(k:Nat):Looks C (Bm a k):=by
 unfold Bm;refine qe1 (qza _) (λx=>?_);split<;>exact qd5 _
theorem qsi{base:Option Addr}:Looks C (Bh size sLen n base x):=by
 unfold Bh;dsimp only;split
 . refine qe1 (qd5 true) (λthere=>qws (qd5 _) ?_);split
   . exact qe1 (qfo _ _) (λ_=>qd5 _)
   . exact qd5 _
 . refine qe1 (qfo _ _) (λb=>qe1 (qwt _) (λb'=>qe1 (qd5 _) (λthere=>qws (qd5 _) ?_)));split
   . exact qe1 (qfo _ _) (λ_=>qd5 _)
   . exact qd5 _
theorem qul{base:Option Addr}{w:String}{Q:Unit->Prop}:qd C (do
   let there <-Bh size sLen n base x
   if (!there)=true then do
    let r <-mark .noRoom
    (λ_=>unsupported (.resourceLimit w)) r
   else (λ_=>unsupported (.resourceLimit w)) ():Sem Unit) Q:=q2n (λu=>by
 obtain⟨b,hb⟩:=qsi (C:=C) (size:=size) (sLen:=sLen) (n:=n) (base:=base) (x:=x) u;cases b
 . exact⟨.unsupported (.resourceLimit w),u,by simp only[CC,hb,Cy,Bool.not_false,if_true,run_mark,Bb],trivial⟩
 . exact⟨.unsupported (.resourceLimit w),u,by simp only[CC,hb,Cy,Bool.not_true,AL,if_false,Bb],trivial⟩)
theorem qwu(hH:qbg C)(t:AP)(hz:∀s,ats[0]?=some s->qf9 C s)(ha:qn C args):qd C (Bo ats t args) (Ok C.A C.F):=by
 unfold Bo;split
 . rename_i sType s x heq;simp only[D1]at heq;obtain⟨h1,h2,h3⟩:=heq;have hs:=ha.get h2;have hx:=ha.get h3;have hz:=hz _ h1;refine qaa (qai _) (λd hd=>?_);split
   . rename_i elem;split
     . rename_i base sLen sCap;refine qaa (qa6 _) (λsize _=>?_)
       have qfC:∀ (zeros:Bool) (n:Nat),qd C (if !zeros then Bg size n x
           else if n*size=0 then pure #[]
           else do pure (Bn (<-zeroValue elem).cells n):Sem (Array AN)) (qn C):=λzeros n=>
        qah (λ_=>qfn hx) (λ_=>qah (λ_=>qab .nil) (λ_=>qaa (qcf (hz _ hd)) (λz hz=>qab (qn1 hz.cells _))))
       extract_lets (underBinder:=false) jp1
       have h1:∀zeros,qd C (jp1 zeros) (Ok C.A C.F):=by
        intro zeros
        dsimp (zeta:=false) only[jp1]
        extract_lets (underBinder:=false) jp2
        have h2:∀n,qd C (jp2 n) (Ok C.A C.F):=by
         intro n;have qaQ:=qfC zeros n
         dsimp (zeta:=false) only[jp2]
         extract_lets (underBinder:=false) appended need
         have yL:qd C appended (qn C):=qaQ;refine qah (λ_=>qaa yL (λnew hn=>?_)) (λ_=>qaa (qa4 _) (λi _=>?_))
         . extract_lets (underBinder:=false) jp
           have hj:∀r,qd C (jp r) (Ok C.A C.F):=λr=>qab (.slice _ _ (λy e=>by subst e;exact hs.of_slice));split
           . exact qaa (qfl (qnv hs.of_slice _) _ _ (λv hv=>hn v (by simpa using hv))) (λr _=>hj r)
           . exact hj ()
         . extract_lets (underBinder:=false) jp
           have hj:∀r,qd C (jp r) (Ok C.A C.F):=by
            intro r
            dsimp (zeta:=false) only[jp]
            refine qaa (qa4 _) (λi _=>?_)
            extract_lets (underBinder:=false) jp
            have hj:∀r,qd C (jp r) (Ok C.A C.F):=λr=>
             qaa (qc6 _) (λc _=>qaa (qa4 _) (λi _=>qaa (qlu _) (λ_ _=>qaa (qfn hs) (λold ho=>qaa yL (λnew hn=>
              qaa (qcf (hz _ hd)) (λz hz=>qaa (jm ((ho.app hn).app (qn1 hz.cells _))) (λa ha=>qab (.slice _ _ (λy e=>by cases e;exact ha)))))))))
            refine qah (λ_=>qaa (Q:=λ_=>True) ?_ (λr _=>hj r)) (λ_=>hj ());exact qah (λ_=>qal hH _) (λ_=>qul)
           exact qah (λ_=>qaa (Q:=λ_=>True) (qal hH _) (λr _=>hj r)) (λ_=>hj ())
        refine qah (λ_=>qaa (qez _) (λm _=>?_)) (λ_=>qaa (qqw _) (λn _=>h2 n))
        extract_lets (underBinder:=false) l jp
        have hj:∀r,qd C (jp r) (Ok C.A C.F):=by
         intro r
         dsimp (zeta:=false) only[jp]
         refine qaa (qa4 _) (λi _=>?_)
         extract_lets (underBinder:=false) jp
         have hj:∀r,qd C (jp r) (Ok C.A C.F):=λr=>qaa (Q:=λ_=>True) (qab trivial) (λn _=>h2 n);exact qah (λ_=>qaa (qc6 _) (λ_ _=>qaa (Q:=λ_=>True) (qal hH _) (λr _=>hj r))) (λ_=>hj ())
        exact qah (λ_=>qaa (Q:=λ_=>True) (qal hH _) (λr _=>hj r)) (λ_=>hj ())
       split
       . exact qaa (qai _) (λd _=>qaa (Q:=λ_=>True) (qab trivial) (λz _=>h1 z))
       . exact qaa (Q:=λ_=>True) (qab trivial) (λz _=>h1 z)
     . exact qad
   . exact qad
 . exact qad
theorem q2o(ha:qn C args):qd C (Bq ats t args) (Ok C.A C.F):=by
 unfold Bq;split
 . rename_i dType dst src heq;simp only[D1]at heq;obtain⟨h1,h2,h3⟩:=heq;have hd:=ha.get h2;have hs:=ha.get h3;refine qaa (qai _) (λd _=>?_);split
   . split
     . refine qaa (qqw _) (λn _=>qaa (qa6 _) (λsz _=>qaa (qfn hs) (λcells hc=>?_)));dsimp only;split
       . exact qaa (qfl hd.of_slice _ _ (λv hv=>hc v (by simpa using hv))) (λ_ _=>qab (.goInt _))
       . exact qab (.goInt _)
     . exact qad
   . exact qad
 . exact qad
theorem q42(ha:qn C args):qd C (Bs ats t args) (Ok C.A C.F):=by
 unfold Bs;split
 . rename_i ty x heq;simp only[D1]at heq;have hx:=ha.get heq.2;refine qaa (qai _) (λd _=>?_);split
   . exact qab (.goInt _)
   . exact qab (.goInt _)
   . refine qaa (qai _) (λd _=>?_);split
     . exact qab (.goInt _)
     . exact qad
   . exact qab (.goInt _)
   . exact qab (.goInt _)
   . exact qab (.goInt _)
   . refine qaa (qdz (.obj hx.of_map)) (λo ho=>?_);split
     . exact qab (.goInt _)
     . exact qad
   . refine qaa (qdz (.obj (by cases hx with|chan h=>exact h _ rfl))) (λo ho=>?_);split
     . exact qab (.goInt _)
     . exact qad
   . exact qad
 . exact qad
theorem q43(ha:qn C args):qd C (Bt ats t args) (Ok C.A C.F):=by
 unfold Bt;split
 . rename_i ty x heq;simp only[D1]at heq;have hx:=ha.get heq.2;refine qaa (qai _) (λd _=>?_);split
   . exact qab (.goInt _)
   . refine qaa (qai _) (λd _=>?_);split
     . exact qab (.goInt _)
     . exact qad
   . exact qab (.goInt _)
   . exact qab (.goInt _)
   . refine qaa (qdz (.obj (by cases hx with|chan h=>exact h _ rfl))) (λo ho=>?_);split
     . exact qab (.goInt _)
     . exact qad
   . exact qad
 . exact qad
theorem q2p{y:AN}(hx:Ok C.A C.F x):qd C (Bj x y) (Ok C.A C.F):=by
 unfold Bj;split
 . exact qab (.int _ _)
 . cases hx
 . exact qaa (qj1 _ _ _) (λv _=>qaa (qnx v) (λb _=>qab (.string _)))
 . exact qaf (by simp)
 . exact qaf (by simp)
 . exact qad
theorem q44(ha:qn C args):qd C (Br ats t args) (Ok C.A C.F):=by
 unfold Br
 have key:∀(l:List AN) (x:AN),Ok C.A C.F x->(∀v,v∈l->Ok C.A C.F v)->qd C (l.foldlM Bj x) (Ok C.A C.F):=by
  intro l
  induction l with
  |nil=>intro x hx _;exact qab hx
  |cons y l ih=>
   intro x hx h;rw[foldlM_cons];exact qaa (q2p hx) (λv hv=>ih v hv (λu hu=>h u (by simp[hu])))
 obtain⟨l⟩:=args;cases l with
 |nil=>exact qad
 |cons x l=>exact key l x (ha x (by simp)) (λv hv=>ha v (by simp[hv]))
theorem qor{d:AP}{j k:AV}(hs:C.P.underlying s=some (.int j))(hd:C.P.underlying d=some (.int k))(hx:Ok C.A C.F x):qd C (convert s d x) (Ok C.A C.F):=by
 unfold convert;refine qaa (qai s) (λa ha=>qaa (qai d) (λb hb=>?_));rw[hs]at ha;rw[hd]at hb;cases ha;cases hb;cases hx with
 |int k n=>exact qab (.int _ _)
 |@pointer a h=>cases a<;>first|exact qaf (by simp)|exact qad
 |_=>first|exact qaf (by simp)|exact qad
theorem q45(w:AQ):w.sys .env=(.strings w.os.env,w):=rfl
theorem qwv:qd C (sys .env) (λ_=>True):=λw u es hr al=>by
 have h1:(sys .env).run C.P u=.ok (.strings u.os.env) u:=by simp[sys,CB,q45]
 rw[h1];refine⟨w,#[⟨.output,true,false⟩],?_,hr,⟨λ_ _=>rfl,CQ _,rfl,rfl,rfl,CQ _,λe he=>?_,.of rfl⟩,trivial⟩
 . simp only[sys,CA,q45,hr.os,AA]
 . rw[Ah]at he;subst he;trivial
theorem qzb(hH:qbg C)(hx:Ok C.A C.F x){Q:AN->Prop}:qd C (Ce x) Q:=by
 unfold Ce;split
 . exact qcu hx
 . refine qaa (Q:=λ_=>True) ?_ (λn _=>qah (λ_=>qcu .nilIface) (λ_=>qal hH _));unfold Instr.panicnil;refine qaa qwv (λr _=>?_);split
   . exact qaa qa0 (λp _=>qab trivial)
   . exact qad
 . exact qad
end
structure xL(C:Pen)(S:List String):Prop where
 handle:qbg C
 func:∀f,C.F f->∃fn,C.P.funcs[f]?=some fn/\(fn.name == "runtime.NumGoroutine")=false /\
  (fn.body.isNone=false∨(fn.body.isNone=true/\Extern.findNext fn=none/\∃e,Extern.find fn=some e/\∀args,qn C args->qd C (e args) (Ok C.A C.F)))
 qcW:∀t i m f b,C.P.info? t=some i->m∈i.methods->m.name∈S->m.func=some (f,b)->C.F f
def qn2(C:Pen):Next->Prop
 | .value v=>Ok C.A C.F v
 | .skip=>True
 | .enter f args=>C.F f/\qn C args/\∃fn c,C.P.funcs[f]?=some fn/\fn.body=some c
 |_=>False
section
variable {C:Pen}{S:List String}
theorem qj3(H:xL C S)(hf:C.F f)(ha:qn C args):qd C (callFunc f args) (qn2 C):=by
 obtain⟨fn,h1,h2,h3⟩:=H.func f hf;unfold callFunc;refine qaa qa0 (λp hp=>?_);subst hp;rw[h1];dsimp only;rw[if_neg (by simpa using h2)];rcases h3 with h3|⟨h3,h4,e,h5,h6⟩
 . rw[if_neg (by simp[h3])]
   have:∃c,fn.body=some c:=by
    cases hb:fn.body with
    |none=>rw[hb]at h3;cases h3
    |some c=>exact⟨c,rfl⟩
   obtain⟨c,hc⟩:=this;exact qab ⟨hf,ha,fn,c,h1,hc⟩
 . rw[if_pos h3];refine qaa (qol f) (λ_ _=>?_);rw[h4,h5];exact qaa (h6 args ha) (λv hv=>qab hv)
def qum(C:Pen):Bc->Prop
 | .val v=>Ok C.A C.F v
 | .var a=>C.A a
theorem qef{x:Bc}(h:qum C x):qd C (x.get t) (Ok C.A C.F):=by
 unfold Place.get;cases x with
 |val v=>exact qab h
 |var a=>exact qev h
theorem qww(hH:qbg C):∀(l:List FieldStep) (t:AP) (x:Bc),qum C x->qd C (follow l t x) (λr=>qum C r.2):=by
 intro l
 induction l with
 |nil=>intro t x h;unfold follow;exact qab h
 |cons s l ih=>
  intro t x h;unfold follow;refine qaa (qai _) (λd _=>?_);split
  . split
    . refine qah (λ_=>?_) (λ_=>?_)
      . exact qaa (qef h) (λv hv=>qaa (qfb hH hv) (λa ha=>qaa (qfm ha _) (λb hb=>ih _ _ hb)))
      . split
        . exact qaa (qfm h _) (λb hb=>ih _ _ hb)
        . exact qaa (qcy (Ok.jk h) _) (λv hv=>ih _ _ hv)
        . exact qad
    . exact qad
  . exact qad
theorem qun(hH:qbg C){p:AN}{a b:String}(hp:Ok C.A C.F p):qd C (Bi ats t #[p,strVal a,strVal b]) (Ok C.A C.F):=by
 unfold Bi strVal;cases p with
 |pointer a=>
  cases a with
  |some a=>exact qab hp
  |none=>
   refine qaa (qc6 _) (λn _=>?_)
   extract_lets (underBinder:=false) jp
   have hj:∀r,qd C (jp r) (Ok C.A C.F):=by
    intro r
    dsimp (zeta:=false) only[jp]
    split
    . refine qaa (qai _) (λd _=>?_);split
      . refine qaa (qa4 _) (λi _=>?_);split
        . split
          . dsimp only;split
            . exact qal hH _
            . exact qaf (by simp)
          . exact qad
        . exact qad
      . exact qad
    . exact qad
   exact qah (λ_=>qaa (Q:=λ_=>True) (qal hH _) (λr _=>hj r)) (λ_=>hj ())
 |_=>exact qad
theorem qos(hH:qbg C){x:Bc}{w:Option String}(h:qum C x):qd C (receiverAt t x b w) (Ok C.A C.F):=by
 unfold receiverAt;refine qaa (qai _) (λd _=>?_);split
 . exact qef h
 . refine qaa (qef h) (λv hv=>?_);cases w with
   |some nm=>exact qaa (qun hH hv) (λp hp=>qaa (qfb hH hp) (λa ha=>qev ha))
   |none=>exact qaa (Q:=Ok C.A C.F) (qab hv) (λp hp=>qaa (qfb hH hp) (λa ha=>qev ha))
 all_goals first|exact qab (.ptr h)|exact qad|exact qef h
theorem qwx(H:xL C S)(hn:name∈S):∀(n:Nat) (t:AP) (v:AN),Ok C.A C.F v->qd C (method n t v name) (λr=>C.F r.1/\Ok C.A C.F r.2):=by
 intro n
 induction n with
 |zero=>intro t v _;unfold method;exact qaf (by simp)
 |succ n ih=>
  intro t v hv;unfold method;refine qaa (qa4 t) (λi hi=>?_);split
  . rename_i m hm;have hmem:m∈i.methods:=Array.mem_of_find?_eq_some hm;have hname:m.name=name:=by simpa using Array.find?_some hm
    refine qaa (qww H.handle _ _ (.val v) hv) (λp hp=>?_);dsimp only;split
    . refine qaa (qef hp) (λu hu=>?_);split
      . exact ih _ _ hu.jl
      . exact qal H.handle _
      . exact qad
    . rename_i f b hf;have hF:=H.qcW t i m f b hi hmem (by rw[hname];exact hn) hf;exact qaa (qos H.handle hp) (λr hr=>qab ⟨hF,hr⟩)
  . exact qad
theorem qot(H:xL C S)(hn:name∈S){recv:AN}(hr:Ok C.A C.F recv)(ha:qn C args):qd C (callMethod recv name args) (qn2 C):=by
 unfold callMethod;split
 . refine qaa qa0 (λp _=>qaa (qwx H hn _ _ _ hr.jl) (λr hr=>?_));exact qj3 H hr.1 ((qn.one hr.2).app ha)
 . exact qal H.handle _
 . exact qad
def qwy(C:Pen)(S:List String)(c:Call):Prop:=
 match c.callee with
 | .builtin .append=>∀s,c.argTypes[0]?=some s->qf9 C s
 | .builtin .cap | .builtin .copy | .builtin .len | .builtin .min=>True
 | .builtin _=>False
 | .invoke _ name=>name∈S
 | .value _=>True
def kU(C:Pen)(S:List String):Op->Prop
 | .move _ | .assign _ | .pick _ _ _ | .box _ _ | .load _ _ | .store _ _ _ | .nilCheck _ | .unOp _ _ _ | .makeInterface _ _ | .makeMap _ _ | .slice _ _ _ _ _ | .fieldAddr _ _ _
 | .field _ _ _ | .indexAddr _ _ _ | .index _ _ _ | .mapUpdate _ _ _ _ | .insert _ _ _ _ | .extract _ _ | .panic _=>True
 | .binOp _ t _ _ _=>C.P.underlying t≠some .unsafePointer
 | .alloc t | .build t _=>qlt C t
 | .buildSlice t _ _ | .makeSlice t _ _=>qf9 C t
 | .typeAssert _ _ a _=>qlt C a
 | .lookup t _ _ _=>qqv C t
 | .convert s d _=>(∃j,C.P.underlying s=some (.int j))/\∃k,C.P.underlying d=some (.int k)
 | .makeFunc fn _ _=>∃f,fn=.func f/\C.F f
 | .call c=>qwy C S c
 |_=>False
theorem qcg{s:Sem AN}(h:qd C s (Ok C.A C.F)):qd C (do pure (.value (<-s)):Sem Next) (qn2 C):=qaa h (λ_ hv=>qab hv)
theorem qzc{s:Sem Unit}(h:qd C s (λ_=>True)):qd C (do s;pure .skip:Sem Next) (qn2 C):=qaa h (λ_ _=>qab trivial)
theorem qn3(H:xL C S){ρ:Ba->AN}{o:Oper}(hρ:∀x,x∈o.op.operands->Ok C.A C.F (ρ x))(ho:kU C S o.op):qd C (execOp ρ o) (qn2 C):=by
 have hH:=H.handle;unfold execOp;cases hop:o.op with
 |move x=>rw[hop]at hρ;exact qab (hρ x (by simp[Cm]))
 |assign x=>rw[hop]at hρ;exact qab (hρ x (by simp[Cm]))
 |pick c a b=>
  rw[hop]at hρ;refine qaa (qnx _) (λt _=>qab ?_);cases t
  . exact hρ b (by simp[Cm])
  . exact hρ a (by simp[Cm])
 |alloc t=>rw[hop]at ho;exact qcg (qy4 ho)
 |box t x=>rw[hop]at hρ;exact qcg (q41 (hρ x (by simp[Cm])))
 |build t parts=>
  rw[hop]at hρ ho;refine qcg (qy7 ho (λp hp=>?_));obtain⟨q,hq,rfl⟩:=At.1 hp
  exact hρ q.2 (by
   simp only[Cm,CM,mem_map];exact⟨q,by simpa using hq,rfl⟩)
 |buildSlice t n parts=>
  rw[hop]at hρ ho;refine qcg (qoo ho (λp hp=>?_));obtain⟨q,hq,rfl⟩:=At.1 hp
  exact hρ q.2 (by
   simp only[Cm,CM,mem_map];exact⟨q,by simpa using hq,rfl⟩)
 |insert t m k x=>rw[hop]at hρ;exact qzc (qja hH (hρ m (by simp[Cm])) (hρ k (by simp[Cm])) (hρ x (by simp[Cm])))
 |load t a=>rw[hop]at hρ;exact qcg (qwo (hρ a (by simp[Cm])))
 |store t a x=>rw[hop]at hρ;exact qzc (quf (hρ a (by simp[Cm])) (hρ x (by simp[Cm])))
 |nilCheck x=>
  rw[hop]at hρ;have hx:=hρ x (by simp[Cm]);dsimp only;generalize ρ x=v at hx;cases hx with
  |@pointer a h=>cases a with
   |none=>exact qal hH _
   |some a=>exact qab (.pointer h)
  |nilIface=>exact qal hH _
  |nilFunc=>exact qal hH _
  |bool b=>exact qab (.bool b)
  |int k n=>exact qab (.int k n)
  |string s=>exact qab (.string s)
  |slice n c h=>exact qab (.slice n c h)
  |map h=>exact qab (.map h)
  |chan h=>exact qab (.chan h)
  |func h1 h2 h3=>exact qab (.func h1 h2 h3)
  |iface t h=>exact qab (.iface t h)
  |agg h=>exact qab (.agg h)
  |tuple h=>exact qab (.tuple h)
 |binOp op t x y u=>
  rw[hop]at hρ ho;have hx:=hρ x (by simp[Cm]);have hy:=hρ y (by simp[Cm]);exact qcg (qaa (qud hx hy) (λ_ _=>qy1 hH ho hx hy))
 |unOp op t x=>rw[hop]at hρ;exact qcg (qy2 (hρ x (by simp[Cm])))
 |convert s d x=>
  rw[hop]at hρ ho;obtain⟨⟨j,h1⟩,k,h2⟩:=ho;exact qcg (qor h1 h2 (hρ x (by simp[Cm])))
 |makeInterface t x=>rw[hop]at hρ;exact qcg (qkl (hρ x (by simp[Cm])))
 |makeFunc fn first captured=>
  rw[hop]at hρ ho;obtain⟨f,rfl,hf⟩:=ho;refine qcg (qab (.func hf (λv hv=>?_) (λv hv=>?_)))
  . obtain⟨x,hx,rfl⟩:=At.1 hv;exact hρ x (by simp[Cm,hx])
  . obtain⟨x,hx,rfl⟩:=At.1 hv;exact hρ x (by simp[Cm,hx])
 |makeMap t r=>exact qcg quj
 |makeSlice t l c=>rw[hop]at ho;exact qcg (qqu hH ho)
 |slice t x lo hi mx=>rw[hop]at hρ;exact qcg (qui hH (hρ x (by simp[Cm])))
 |fieldAddr s x f=>rw[hop]at hρ;exact qcg (qug (hρ x (by simp[Cm])) f)
 |field t x f=>rw[hop]at hρ;exact qcg (qy8 (hρ x (by simp[Cm])))
 |indexAddr t x i=>rw[hop]at hρ;exact qcg (quh hH (hρ x (by simp[Cm])))
 |index t x i=>rw[hop]at hρ;exact qcg (qy9 hH (hρ x (by simp[Cm])))
 |lookup t x i b=>rw[hop]at hρ ho;exact qcg (qwr hH ho (hρ x (by simp[Cm])) (hρ i (by simp[Cm])))
 |mapUpdate t m k x=>rw[hop]at hρ;exact qzc (qja hH (hρ m (by simp[Cm])) (hρ k (by simp[Cm])) (hρ x (by simp[Cm])))
 |typeAssert x t a b=>rw[hop]at hρ ho;exact qcg (qop hH (hρ x (by simp[Cm])) ho)
 |extract t i=>rw[hop]at hρ;exact qcg (quk (hρ t (by simp[Cm])))
 |panic x=>rw[hop]at hρ;exact qcg (qzb hH (hρ x (by simp[Cm])))
 |call c=>
  rw[hop]at hρ ho
  have hargs:qn C (c.args.map ρ):=λv hv=>by
   obtain⟨x,hx,rfl⟩:=At.1 hv;exact hρ x (by simp[Cm,Call.operands,hx])
  unfold resolve;have ho:qwy C S c:=ho;unfold qwy at ho;dsimp only;cases hc:c.callee with
  |builtin b=>
   rw[hc]at ho;dsimp only;refine qaa (Q:=λd=>d={target:=.builtin b c.argTypes o.type (c.args.map fun | .const _=>true|_=>false),args:=c.args.map ρ}) (qab rfl) (λd hd=>?_);subst hd;unfold invoke;cases b<;>first|exact ho.elim|skip
   . exact qcg (qwu hH _ ho hargs)
   . exact qcg (q43 hargs)
   . exact qcg (q2o hargs)
   . exact qcg (q42 hargs)
   . exact qcg (q44 hargs)
  |invoke recv name=>
   rw[hc]at ho;dsimp only at ho |-;have hr:Ok C.A C.F (ρ recv):=hρ recv (by simp[Cm,Call.operands,hc]);refine qaa (Q:=λd=>d={target:=.fn (.method name) #[],args:=#[ρ recv]++c.args.map ρ}) (qab rfl) (λd hd=>?_);subst hd;unfold invoke;dsimp only;split
   . rename_i rv hrv;rw[Array.getElem?_append_left (by simp)]at hrv;have h0:rv=ρ recv:=by simpa using hrv.symm
     rw[h0];refine qot H ho hr (qn.extract (C:=C) ((qn.one hr).app hargs) _ _)
   . exact qad
  |value f=>
   have hf:Ok C.A C.F (ρ f):=hρ f (by simp[Cm,Call.operands,hc]);dsimp only;unfold Deferred.ofValue;generalize ρ f=v at hf;cases hf with
   |@func g first captured h1 h2 h3=>
    dsimp only;refine qaa (Q:=λd=>d={target:=.fn (.func g) captured,args:=first++c.args.map ρ}) (qab rfl) (λd hd=>?_);subst hd;unfold invoke;exact qj3 H h1 ((qn.app (C:=C) h2 hargs).app h3)
   |nilFunc=>
    dsimp only;refine qaa (Q:=λd=>d={target:=.nil,args:=c.args.map ρ}) (qab rfl) (λd hd=>?_);subst hd;unfold invoke;exact qal hH _
   |_=>exact qaa (Q:=λ_=>False) qad (λ_ h=>h.elim)
 |_=>rw[hop]at ho;exact ho.elim
end
end
section
open Go.Conc
def qqx(C:Pen)(X:Nat->Prop):Ba->Prop
 | .tmp t=>¬X t
 | .const v=>Ok C.A C.F v
 | .global g=>C.A ⟨g,0,none⟩
 | .func f=>C.F f
def q8p(C:Pen)(S:List String)(X:Nat->Prop)(o:Oper):Prop:=kU C S o.op/\∀x,x∈o.op.operands->qqx C X x
def qd9(C:Pen)(S:List String)(X:Nat->Prop):Code->Prop
 | .region _ ops _=>∀o,o∈ops->q8p C S X o
 | .seq a b=>qd9 C S X a/\qd9 C S X b
 | .cond _ a b=>qd9 C S X a/\qd9 C S X b
 | .block _ c | .loop c | .scope c=>qd9 C S X c
 | .rangeFunc _ _ _ _=>False
 |_=>True
def qj4(C:Pen)(S:List String)(X:Nat->Prop):Item->Prop
 | .code c | .inLoop c | .inScope c=>qd9 C S X c
 | .inBlock _=>True
 | .inRegion ops _=>∀o,o∈ops->q8p C S X o
 |_=>False
def quo(X:Nat->Prop):ResultVar->Prop
 | .tmp t=>¬X t
 | .cell a _=>¬X a
structure jL(C:Pen)(S:List String)(X:Nat->Prop)(fr:AY):Prop where
 tm:∀t v,¬X t->fr.tmps[t]?=some v->Ok C.A C.F v
 todo:∀it,it∈fr.todo->qj4 C S X it
 defers:fr.defers=[]
 kind:fr.kind=.normal
 round:fr.roundOf=none
 mode:∀ch,fr.mode=.panicking ch->∀e,e∈ch->Ok C.A C.F e.v
 fn:∃fn,C.P.funcs[fr.fn]?=some fn/\∀r,r∈fn.results->quo X r
def FrE(C:Pen)(S:List String)(fr:AY):Prop:=jL C S (C.X fr.fn) fr
structure je(C:Pen)(S:List String):Prop where
 xM:xL C S
 body:∀f fn c,C.F f->C.P.funcs[f]?=some fn->fn.body=some c->qd9 C S (C.X f) c/\∀r,r∈fn.results->quo (C.X f) r
section
variable {C:Pen}{S:List String}{X:Nat->Prop}
theorem q46{id:Nat}:∀(k k':List Item),(∀it,it∈k->qj4 C S X it)->exitTo id k=some k'->∀it,it∈k'->qj4 C S X it:=by
 intro k
 induction k with
 |nil=>intro k' _ e;simp[exitTo]at e
 |cons x k ih=>
  intro k' h e;have ht:∀it,it∈k->qj4 C S X it:=λit hi=>h it (by simp[hi]);cases x with
  |inBlock id'=>
   simp only[exitTo]at e;split at e
   . cases e;exact ht
   . exact ih k' ht e
  |_=>simp only[exitTo]at e;exact ih k' ht e
theorem qwz:∀(c r:Code),qd9 C S X c->findLabel c l=some r->qd9 C S X r:=by
 intro c
 induction c with
 |seq a b iha ihb=>
  intro r h e;simp only[findLabel]at e;split at e
  . rename_i x hx;cases e;exact⟨iha x h.1 hx,h.2⟩
  . exact ihb r h.2 e
 |label l'=>
  intro r h e;simp only[findLabel]at e;split at e
  . cases e;trivial
  . cases e
 |_=>intro r h e;simp[findLabel]at e
theorem q47:∀(k k':List Item),(∀it,it∈k->qj4 C S X it)->gotoIn l k=some k'->∀it,it∈k'->qj4 C S X it:=by
 intro k
 induction k with
 |nil=>intro k' _ e;simp[gotoIn]at e
 |cons x k ih=>
  intro k' h e;have ht:∀it,it∈k->qj4 C S X it:=λit hi=>h it (by simp[hi]);cases x with
  |inScope body=>
   simp only[gotoIn]at e;split at e
   . rename_i rest hr;cases e;intro it hi;rcases CN.1 hi with h1|h1
     . subst h1;exact qwz body rest (h (.inScope body) (by simp)) hr
     . rcases CN.1 h1 with h2|h2
       . subst h2;exact h (.inScope body) (by simp)
       . exact ht it h2
   . exact ih k' ht e
  |_=>simp only[gotoIn]at e;exact ih k' ht e
theorem q48(h:jL C S X fr){x:Ba}(hx:qqx C X x):Ok C.A C.F (fr.eval x):=by
 cases x with
 |tmp t=>
  show Ok C.A C.F (fr.tmps.getD t undef);rw[Array.getD_eq_getD_getElem?];cases hv:fr.tmps[t]? with
  |none=>exact .undef
  |some v=>exact h.tm t v hx hv
 |const v=>exact hx
 |global g=>exact .ptr hx
 |func f=>exact .func hx (λv hv=>by simp at hv) (λv hv=>by simp at hv)
theorem jL.vD(h:jL C S X fr){k:List Item}(hk:∀it,it∈k->qj4 C S X it):jL C S X {fr with todo:=k}:=⟨h.tm,hk,h.defers,h.kind,h.round,h.mode,h.fn⟩
theorem jL.jR(h:jL C S X fr){m:FrameMode}(hm:∀ch,m=.panicking ch->∀e,e∈ch->Ok C.A C.F e.v):jL C S X {fr with mode:=m}:=⟨h.tm,h.todo,h.defers,h.kind,h.round,hm,h.fn⟩
theorem jL.finish(h:jL C S X fr)(hv:Ok C.A C.F v):jL C S X (fr.finish v):=by
 unfold BK;split
 . rename_i ops i rest k hk;have ht:=h.todo;rw[hk]at ht;refine⟨?_,?_,h.defers,h.kind,h.round,h.mode,h.fn⟩
   . intro t y hX hy;dsimp only at hy;split at hy
     . rw[Am]at hy;split at hy
       . split at hy
         . cases hy;exact hv
         . cases hy
       . exact h.tm t y hX hy
     . exact h.tm t y hX hy
   . intro it hi;rcases CN.1 hi with h1|h1
     . subst h1;exact ht (.inRegion ops (i::rest)) (by simp)
     . exact ht it (by simp[h1])
 . rename_i hk;have ht:=h.todo;rw[hk]at ht;exact False.elim (ht _ (CP ..))
 . rename_i hk;have ht:=h.todo;rw[hk]at ht;exact False.elim (ht _ (CP ..))
 . rename_i hk;have ht:=h.todo;rw[hk]at ht;exact False.elim (ht _ (CP ..))
 . rename_i hk;have ht:=h.todo;rw[hk]at ht;exact False.elim (ht _ (CP ..))
 . exact h
theorem jL.raise(h:jL C S X fr){vs:List B9}(hv:∀e,e∈vs->Ok C.A C.F e.v):jL C S X (fr.raise vs):=by
 unfold BL;split
 . rename_i ch hm;refine h.jR (λch' e=>?_);cases e;intro e he;rcases mem_append.1 he with h1|h1
   . exact hv e h1
   . exact h.mode _ hm e h1
 . refine h.jR (λch' e=>?_);cases e;exact hv
theorem q49(fr:AY)(v:AN):(fr.finish v).fn=fr.fn:=by unfold BK;split<;>rfl
theorem q7m(fr:AY)(vs:List B9):(fr.raise vs).fn=fr.fn:=by unfold BL;split<;>rfl
theorem FrE.finish(h:FrE C S fr)(hv:Ok C.A C.F v):FrE C S (fr.finish v):=by
 unfold FrE;rw[q49];exact jL.finish h hv
theorem FrE.raise(h:FrE C S fr){vs:List B9}(hv:∀e,e∈vs->Ok C.A C.F e.v):FrE C S (fr.raise vs):=by
 unfold FrE;rw[q7m];exact jL.raise h hv
theorem q0s(H:je C S)(hf:C.F f)(ha:qn C args){fn:Func}{c:Code}(h1:C.P.funcs[f]?=some fn)(h2:fn.body=some c):FrE C S (BJ C.P f args .normal):=by
 refine⟨?_,?_,rfl,rfl,rfl,(λch e=>by cases e),fn,h1,(H.body f fn c hf h1 h2).2⟩
 . intro t v _ hv;simp only[BJ]at hv
   have:qn C (args++Array.replicate ((((C.P.funcs[f]?).map (·.ntmps)).getD 0)-args.size) undef):=ha.app (λv hv=>by
    rw[(Array.mem_replicate.1 hv).2];exact .undef)
   exact this.get hv
 . intro it hi;simp only[BJ,h1,Option.bind_some,h2,Option.getD_some,mem_singleton]at hi;subst hi;exact(H.body f fn c hf h1 h2).1
end
end
end Go.Proofs.YtacemdoejblgaaaGreatDoor

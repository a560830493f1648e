/- Part 5. Conditions: each statement's. -/
import Derived.Test.YtacemdoejblgaaaGreatDoorM04
import Derived.Conc.Events
import Derived.Calls
namespace Go.Proofs.YtacemdoejblgaaaGreatDoor
set_option maxHeartbeats 6400000
set_option maxRecDepth 100000
section
open Go.Conc
open Go.ConcN (sumTo upd sumTo_upd upd_ne upd_same)
section
variable {P:Program}{Post:Value->World->Prop}{Sh:Nat->Prop}{Fz:Loc->Prop}{T:Nat->q8}{n h dd:Nat}{g:Goroutine}{w:World}{gs:Array Goroutine}{t:Trace}{q:Nat->Nat}
theorem qgl(w:World){c r:Nat}(h:r≠c)(buf:Array Value)(cl:Bool)(a b:Nat):(w.setChan c 0 buf cl a b false).heap[r]?=w.heap[r]?:=by
 simp only [World.setChan];rw [Array.getElem?_setIfInBounds_ne (fun e=>h e.symm)]
theorem qho{L:List (Addr × Value)}{c:Nat}{κ:Nat}(hL:holds L w)(hc:w.heap[c]?=some (.chan 0 #[] false κ κ false))(buf:Array Value)(cl:Bool)(a b:Nat):holds L (w.setChan c 0 buf cl a b false):=by
 intro x hx;have h1:=hL x hx
 have hne:x.1.block≠c:=by
   intro e;unfold World.cell? at h1;rw [e,hc] at h1;cases h1
 unfold World.cell? at h1 |-;rw [qgl w hne];exact h1
theorem q9.read(H:q9 P Sh Fz T n h dd g w gs t q){k:Nat}{s:jD}(hk:k≠h)(hkn:k < n)(hT:T k=.seat s){es:Array Event}(hes:∀ e,e∈es->qpv s.L e)(fn:FuncId)(pos:String) :
   q9 P Sh Fz T n h dd g w gs (t++MemOp.ofEvents k fn pos es) q:=by
 obtain⟨hL,_⟩:=H.fact k s hk hkn hT;have⟨r1,r2,r3,r4⟩:=qtv (i:=k) (fn:=fn) (pos:=pos) hes (qio hL)
 have still:∀ j,Deaf (t++MemOp.ofEvents k fn pos es) j=Deaf t j:=fun j=>by
   by_cases e:k=j
   . subst e;rw [Deaf_own,r4]
   . exact Deaf_other t e _ r1
 exact⟨H.size,H.here,fun i x hi hx=>by rw [still];exact H.ja i x hi hx,H.fact,H.apart,H.jr.by hk (fun y=>by rw [y.2] at hT;cases hT) r1 (fun op hop y hy=>⟨⟨hk,hkn,s,hT,(r2 op hop y hy).1⟩,(r2 op hop y hy).2⟩) r3,by rw [still];exact H.deaf,fun j hj=>by rw [still];exact H.above j hj⟩
theorem q9.lists(H:q9 P Sh Fz T n h dd g w gs t q){es:Array Event}(hes:∀ e,e∈es->qk6 Sh Fz w.heap.size e)(hd:deafBehind dd es=dd)(fn:FuncId)(pos:String):q9 P Sh Fz T n h dd g w gs (t++MemOp.ofEvents h fn pos es) q:=by
 have still:∀ j,Deaf (t++MemOp.ofEvents h fn pos es) j=Deaf t j:=fun j=>by
   by_cases e:h=j
   . subst e;rw [Deaf_own,H.deaf,hd]
   . exact Deaf_other t e _ qcr
 exact⟨H.size,H.here,fun i x hi hx=>by rw [still];exact H.ja i x hi hx,H.fact,H.apart,H.jr.events (fun y=>y.1 rfl) hes,by rw [still];exact H.deaf,fun j hj=>by rw [still];exact H.above j hj⟩
theorem q9.met(H:q9 P Sh Fz T n h 0 g w gs t q){k κ:Nat}{s sh:jD}(hk:k≠h)(hkn:k < n)(hT:T k=.seat s)(hc:w.heap[s.c]?=some (.chan 0 #[] false κ κ false))
   {gh gk:Goroutine} {mh:Nat} (yc:Way P (h == 0) sh mh gh) (hL:holds sh.L w) (hch:∃ κ',w.heap[sh.c]?=some (.chan 0 #[] false κ' κ' false)) (hd:sh.c≠s.c) (hdo:∀ i s',i≠h->i≠k->i < n->T i=.seat s'->s'.c≠sh.c) (hfz:∀ l,StL sh.L l->Fz l/\¬ qim Sh l)
   {gs':Array Goroutine} (hsz:gs'.size=n) (hgk:gs'[k]?=some gk) (hgh:gs'[h]?=some gh) (hgo:∀ j,j≠h->j≠k->gs'[j]?=gs[j]?)
   {a0 a1 a2 a3:MemOp} (e0:a0.g=h/\a0.act=.send s.c κ) (e1:a1.g=k/\a1.act=.recv s.c κ 0) (e2:a2.g=h/\a2.act=.sendDone s.c κ) (e3:a3.g=k/\a3.act=.recvDone s.c κ) :
   q9 P Sh Fz (upd T h (.seat sh)) n k 0 gk (w.setChan s.c 0 #[] false (κ+1) (κ+1) false) gs' (t++#[a0,a1,a2,a3]) (upd q h mh):=by
 have hhn:h < n:=H.lt H.here;obtain⟨xk,hxk⟩:∃ x,gs[k]?=some x:=⟨_,Array.getElem?_eq_getElem (by rw [H.size];exact hkn)⟩
 have dk:Deaf t k=0:=by
   have:=H.ja k xk hk hxk;rw [hT] at this;exact this.1
 have still:∀ j,Deaf (t++#[a0,a1,a2,a3]) j=Deaf t j:=fun j=>by
   have:(t++#[a0,a1,a2,a3])=t++[a0,a1,a2,a3].toArray:=rfl;rw [this,Deaf_append];simp only [List.foldl_cons,List.foldl_nil,deafStep,e0.2,e1.2,e2.2,e3.2]
 have four:∀ op∈(#[a0,a1,a2,a3]:Trace),op=a0∨op=a1∨op=a2∨op=a3:=fun op hop=>by simpa using hop
 have mt:∀ op∈(#[a0,a1,a2,a3]:Trace),op.act.touch?=none:=fun op hop=>by
   rcases four op hop with rfl | rfl | rfl | rfl
   . rw [e0.2];rfl
   . rw [e1.2];rfl
   . rw [e2.2];rfl
   . rw [e3.2];rfl
 have hcs:∀ r κ',r≠s.c->w.heap[r]?=some (.chan 0 #[] false κ' κ' false)->(w.setChan s.c 0 #[] false (κ+1) (κ+1) false).heap[r]?=some (.chan 0 #[] false κ' κ' false):=fun r κ' hr h'=>by rw [qgl w hr];exact h'
 have hm:=H.jr.mute mt;refine⟨hsz,hgk,fun j y hj hy=>?_,fun i s' hi hin hT'=>?_,fun i j s1 s2 hi hj hin hjn hT1 hT2 hcc=>?_,?_,by rw [still];exact dk,fun j hj=>by rw [still];exact H.above j hj⟩
 . rw [still];by_cases hjh:j=h
   . subst hjh;rw [hgh] at hy;cases hy;rw [upd_same,upd_same];exact⟨H.deaf,.inr yc⟩
   . rw [hgo j hjh hj] at hy;rw [upd_ne T _ hjh,upd_ne q _ hjh];exact H.ja j y hjh hy
 . by_cases hih:i=h
   . subst hih;rw [upd_same] at hT';cases hT';obtain⟨κ',hκ⟩:=hch;exact⟨qho hL hc _ _ _ _,κ',hcs _ _ hd hκ⟩
   . rw [upd_ne T _ hih] at hT';obtain⟨h1,κ',h2⟩:=H.fact i s' hih hin hT';refine⟨qho h1 hc _ _ _ _,κ',hcs _ _ (fun e=>hi ?_) h2⟩;exact H.apart i k s' s hih hk hin hkn hT' hT e
 . by_cases hih:i=h
   . subst hih;rw [upd_same] at hT1;cases hT1;by_cases hjh:j=i
     . exact hjh.symm
     . rw [upd_ne T _ hjh] at hT2;exact absurd hcc.symm (hdo j s2 hjh hj hjn hT2)
   . rw [upd_ne T _ hih] at hT1;by_cases hjh:j=h
     . subst hjh;rw [upd_same] at hT2;cases hT2;exact absurd hcc (hdo i s1 hih hi hin hT1)
     . rw [upd_ne T _ hjh] at hT2;exact H.apart i j s1 s2 hih hjh hin hjn hT1 hT2 hcc
 . have hsize:(w.setChan s.c 0 #[] false (κ+1) (κ+1) false).heap.size=w.heap.size:=by simp [World.setChan]
   rw [hsize]
   have sub':∀ j l,StT (upd T h (.seat sh)) n k j l->Fz l/\¬ qim Sh l/\l.isMemory=true:=by
     rintro j l ⟨k1,k2,s',k3,k4⟩;by_cases hjh:j=h
     . subst hjh;rw [upd_same] at k3;cases k3;exact⟨(hfz l k4).1,(hfz l k4).2,qsv k4⟩
     . rw [upd_ne T _ hjh] at k3;exact H.jr.sub j l ⟨hjh,k2,s',k3,k4⟩
   refine⟨hm.clean,fun i a ha hmem=>?_,fun j hj i a ha hs hw=>?_,hm.seen,hm.quiet,sub',fun i j hg hL hc'=>?_⟩
   . rcases qbs ha with ⟨_,ha'⟩ | ⟨_,op,hop,_,hxa⟩
     . exact(H.jr.known i a ha' hmem).imp (qsu e0 ⟨κ,0,e1.2⟩ e2.2 e3 H.deaf dk) id
     . rw [mt op hop] at hxa;cases hxa
   . rcases qbs ha with ⟨_,ha'⟩ | ⟨_,op,hop,_,hxa⟩
     . by_cases hjh:j=h
       . subst hjh;rcases H.jr.known i a ha' (sub' j _ hs).2.2 with h1 | ⟨h1,_⟩ | ⟨_,h1,_⟩
         . exact h1.app _
         . exact absurd h1 (sub' j _ hs).2.1
         . rw [h1] at hw;cases hw
       . obtain⟨k1,k2,s',k3,k4⟩:=hs;rw [upd_ne T _ hjh] at k3;exact(H.jr.wrote j hjh i a ha' ⟨hjh,k2,s',k3,k4⟩ hw).app _
     . rw [mt op hop] at hxa;cases hxa
   . have hjh:j≠h:=fun e=>by
       have:=hL.2;rw [e,upd_same] at this;cases this
     have hL':LfT T h j:=⟨hjh,by have:=hL.2;rw [upd_ne T _ hjh] at this;exact this⟩;obtain⟨x,hx,hxm,hxh⟩:=hc';rcases qbs hx with ⟨hi,hx'⟩ | ⟨_,op,hop,_,hxa⟩
     . exact qsu e0 ⟨κ,0,e1.2⟩ e2.2 e3 H.deaf dk (H.jr.over i j (by rw [g?_old hi] at hg;exact hg) hL' ((counts_old hi).1 ⟨x,hx,hxm,hxh⟩))
     . rw [mt op hop] at hxa;cases hxa
theorem qvp(H:q9 P Sh Fz T n h dd g w gs t q){j:Nat}{y:Goroutine}(hj:j≠h)(hy:gs[j]?=some y)(c:Nat):offersAt y c true=[]:=by
 have hsj:=H.ja j y hj hy;cases hTj:T j with
 | left=>rw [hTj] at hsj;exact offersAt_of_not_blocked (by rcases hsj.2.status with e | e <;> rw [e] <;> simp) _ _
 | seat s'=>
   rw [hTj] at hsj;rcases hsj.2 with ⟨_,rfl⟩ | hw'
   . exact offersAt_parked_recv' _ _ _ _ _
   . exact offersAt_of_not_blocked (by rw [hw'.running];simp) _ _
theorem qpx(H:q9 P Sh Fz T n h dd g w gs t q){j:Nat}{y:Goroutine}(hj:j≠h)(hy:gs[j]?=some y){c:Nat}(hc:∀ s,T j=.seat s->y=qf3 s->s.c≠c):offersAt y c false=[]:=by
 have hsj:=H.ja j y hj hy;cases hTj:T j with
 | left=>rw [hTj] at hsj;exact offersAt_of_not_blocked (by rcases hsj.2.status with e | e <;> rw [e] <;> simp) _ _
 | seat s'=>
   rw [hTj] at hsj;rcases hsj.2 with ⟨_,rfl⟩ | hw'
   . have:=hc s' hTj rfl;unfold qf3;rw [offersAt_parked_recv,if_neg this]
   . exact offersAt_of_not_blocked (by rw [hw'.running];simp) _ _
theorem q3i(hs:g.status=.running){k κ:Nat}{s sh:jD}(hk:k≠h)(hkn:k < n)(hT:T k=.seat s){v z:Value}(hc:w.heap[s.c]?=some (.chan 0 #[] false κ κ false))
   (step:∃ es,(∀ d,stepG P (h == 0) g (w.at d)=.comm g #[scase s.c v z] true .send (w.at d) es)/\(∀ e,e∈es->qk6 Sh Fz w.heap.size e)/\deafBehind 0 es=0)
   {mh:Nat} (yc:Way P (h == 0) sh mh (Go.Conc.served g undef)) (hL:holds sh.L w) (hch:∃ κ',w.heap[sh.c]?=some (.chan 0 #[] false κ' κ' false)) (hd:sh.c≠s.c) (hdo:∀ i s',i≠h->i≠k->i < n->T i=.seat s'->s'.c≠sh.c) (hfz:∀ l,StL sh.L l->Fz l/\¬ qim Sh l)
   (next:∀ d,jH P Post Sh Fz (upd T h (.seat sh)) n k 0 (Go.Conc.served (G s.fr s.cs) (recvd s.ok v true)) ((w.at d).setChan s.c 0 #[] false (κ+1) (κ+1) false)):jH P Post Sh Fz T n h 0 g w:=by
 obtain⟨es,hst,hes,hdf⟩:=step
 have second:∀ m d gs t q,sumTo n q=m->q9 P Sh Fz T n h 0 (parked g #[scase s.c v z] .send) (w.at d) gs t q->(∃ x,gs[k]?=some x/\x.status=.running)->vI P Post gs (w.at d) t:=by
   intro m
   induction m using Nat.strongRecOn with
   | _ m ih=>
     intro d gs t q hm H hkr;have hks:k < gs.size:=by rw [H.size];exact hkn
     obtain⟨xk,hxk,hxr⟩:=hkr;refine qhn (H.awake (fun tm e=>by cases e)) ⟨k,xk,hxk,hxr⟩ (fun i x d' sl hx hr=>.inl ?_);by_cases hi:i=h
     . subst hi;rw [H.here] at hx;cases hx;cases hr
     . by_cases hcomm:i=k/\x=G s.fr s.cs/\qin P (i == 0) s
       . obtain⟨rfl,rfl,esk,hstep,qeL⟩:=hcomm;obtain⟨hLk,_⟩:=H.fact i s hi hkn hT;have H':=H.at d'
         have hp:partners (gs.setIfInBounds i ph) s.c true=[(h,0)]:=by
           rw [partners_one (stand_get (i:=i) (fun e=>hi e.symm) H.here) (fun j y hj hy=>?_)]
           . rw [offersAt_parked_send,if_pos rfl];rfl
           . rcases getElem?_stand gs i j y hy with ⟨_,rfl⟩ | ⟨hji,hy'⟩
             . exact offersAt_ph _ _
             . exact qvp H hj hy' s.c
         have hrun:=crowd_recv_meets (P:=P) (sl:=sl) (gj:=g) (v:=v) (zj:=z) (shj:=.send) hx (hstep (w.at d') hLk) (show (w.at d').heap[s.c]?=some (.chan 0 #[] false κ κ false) from hc) (fun e=>hi e.symm) H.here hp;rw [finishComm_send,finishComm_recv] at hrun;refine⟨_,_,sl,_,hrun,next d' _ _ (upd q h mh) ?_⟩;rw [<-Array.append_assoc];have Hr:=H'.read hi hkn hT qeL (G s.fr s.cs).frame.fn (G s.fr s.cs).frame.place;have hhs:h < gs.size:=(Array.getElem?_eq_some_iff.1 H.here).1
         exact Hr.met hi hkn hT hc yc hL hch hd hdo hfz (by simp [H.size]) (by rw [qbn _ _ _ _ (by simpa using hks),if_pos rfl]) (by rw [qbn _ _ _ _ (by simpa using hks),if_neg hi,qbn _ _ _ _ hhs,if_pos rfl])
           (fun j hj hji=>by rw [qbn _ _ _ _ (by simpa using hks),if_neg (fun e=>hji e.symm),qbn _ _ _ _ hhs,if_neg (fun e=>hj e.symm)]) ⟨rfl,rfl⟩ ⟨rfl,rfl⟩ ⟨rfl,rfl⟩ ⟨rfl,rfl⟩
       . obtain⟨gs',ops,q',h1,h2,h3,h4,h5⟩:=H.vm hi hx hr d' sl (again_parked_open (k:=scase s.c v z) (c:=s.c) (s:=κ) (r:=κ) (tm:=false) rfl hc) (fun s' hT' hx' hc'=>by
           rw [offersAt_parked_send];refine if_neg (fun e=>hcomm ?_);have hik:i=k:=H.apart i k s' s hi hk (H.lt hx) hkn hT' hT e.symm;subst hik;rw [hT] at hT';cases hT';exact⟨rfl,hx',hc'⟩)
         refine⟨gs',_,sl,ops,h1,ih _ (by omega) d' gs' _ q' rfl h2 ?_⟩;by_cases hik:i=k
         . subst hik;exact h5 s hT hr (fun y=>hcomm ⟨rfl,y⟩)
         . rw [h4 k (fun e=>hik e.symm)];exact⟨xk,hxk,hxr⟩
 refine qpw hs (fun d gs t q H sl=>.inl ?_);have hhs:h < gs.size:=(Array.getElem?_eq_some_iff.1 H.here).1;have hks:k < gs.size:=by rw [H.size];exact hkn
 obtain⟨xk,hxk⟩:∃ x,gs[k]?=some x:=⟨_,Array.getElem?_eq_getElem hks⟩;have hsk:=H.ja k xk hk hxk;rw [hT] at hsk;have Hl:=H.lists hes hdf g.frame.fn g.frame.place;rcases hsk.2 with ⟨_,rfl⟩ | hw
 ·
   have hp:partners (gs.setIfInBounds h ph) s.c false=[(k,0)]:=by
     rw [partners_one (stand_get (i:=h) hk hxk) (fun j y hj hy=>?_)]
     . unfold qf3;rw [offersAt_parked_recv,if_pos rfl];rfl
     . rcases getElem?_stand gs h j y hy with ⟨_,rfl⟩ | ⟨hjh,hy'⟩
       . exact offersAt_ph _ _
       . exact qpx H hjh hy' (fun s' hT' _ e=>hj (H.apart j k s' s hjh hk (H.lt hy') hkn hT' hT e))
   have hrun:=crowd_send_meets (P:=P) (sl:=sl) (gj:=G s.fr s.cs) (zj:=s.z) (shj:=.recv s.ok) H.here (hst d) (show (w.at d).heap[s.c]?=some (.chan 0 #[] false κ κ false) from hc) hk hxk hp;rw [finishComm_send,finishComm_recv] at hrun;refine⟨_,_,sl,_,hrun,next d _ _ (upd q h mh) ?_⟩;rw [<-Array.append_assoc]
   exact Hl.met hk hkn hT hc yc hL hch hd hdo hfz (by simp [H.size]) (by rw [qbn _ _ _ _ (by simpa using hhs),if_neg (fun e=>hk e.symm),qbn _ _ _ _ hks,if_pos rfl]) (by rw [qbn _ _ _ _ (by simpa using hhs),if_pos rfl])
     (fun j hj hji=>by rw [qbn _ _ _ _ (by simpa using hhs),if_neg (fun e=>hj e.symm),qbn _ _ _ _ hks,if_neg (fun e=>hji e.symm)]) ⟨rfl,rfl⟩ ⟨rfl,rfl⟩ ⟨rfl,rfl⟩ ⟨rfl,rfl⟩
 ·
   have hp:partners (gs.setIfInBounds h ph) s.c false=[]:=partners_nil (fun j y hy=>by
     rcases getElem?_stand gs h j y hy with ⟨_,rfl⟩ | ⟨hjh,hy'⟩
     . exact offersAt_ph _ _
     . refine qpx H hjh hy' (fun s' hT' hx' e=>?_);have hjk:j=k:=H.apart j k s' s hjh hk (H.lt hy') hkn hT' hT e;subst hjk;rw [hxk] at hy';cases hy';have:=hw.running;rw [hx'] at this;cases this)
   have hrun:=crowd_waits (P:=P) (sl:=sl) H.here (hst d) (fun cc hcc=>by
     have:cc=scase s.c v z:=by simpa using hcc
     subst this;exact ways_send_none (s:=κ) (r:=κ) (tm:=false) (show (w.at d).heap[s.c]?=some (.chan 0 #[] false κ κ false) from hc) (Nat.le_refl _) hp)
   refine⟨_,_,sl,_,hrun,second _ d _ _ q rfl ?_ ⟨xk,by rw [qbn _ _ _ _ hhs,if_neg (fun e=>hk e.symm)];exact hxk,hw.running⟩⟩;refine⟨by simp [H.size],by rw [qbn _ _ _ _ hhs,if_pos rfl],fun j y hj hy=>?_,Hl.fact,Hl.apart,Hl.jr,Hl.deaf,Hl.above⟩;rw [qbn _ _ _ _ hhs,if_neg (fun e=>hj e.symm)] at hy;exact Hl.ja j y hj hy
end
end
section
inductive Ok (A:Addr->Prop) (F:FuncId->Prop):Value->Prop
 | bool (b:Bool):Ok A F (.bool b)
 | int (k:IntKind) (n:Int):Ok A F (.int k n)
 | string (s:ByteArray):Ok A F (.string s)
 | pointer {a:Option Addr}:(∀ x,a=some x->A x)->Ok A F (.pointer a)
 | slice {a:Option Addr} (n c:Nat):(∀ x,a=some x->A x)->Ok A F (.slice a n c)
 | map {r:Option Nat}:(∀ x,r=some x->A ⟨x,0,none⟩)->Ok A F (.map r)
 | chan {r:Option Nat}:(∀ x,r=some x->A ⟨x,0,none⟩)->Ok A F (.chan r)
 | func {f:FuncId} {first captured:Array Value}:F f->(∀ v,v∈first->Ok A F v)->(∀ v,v∈captured->Ok A F v)->Ok A F (.func (.func f) first captured)
 | nilFunc:Ok A F .nilFunc
 | iface (t:TypeId) {v:Value}:Ok A F v->Ok A F (.iface t v)
 | nilIface:Ok A F .nilIface
 | agg {cs:Array Value}:(∀ v,v∈cs->Ok A F v)->Ok A F (.agg cs)
 | tuple {cs:Array Value}:(∀ v,v∈cs->Ok A F v)->Ok A F (.tuple cs)
def qfh:Nat->Value->Bool
 | 0,_=>false
 | _+1,.bool _ | _+1,.int _ _ | _+1,.string _ | _+1,.nilFunc | _+1,.nilIface=>true
 | _+1,.pointer a=>a.isNone
 | _+1,.slice a _ _=>a.isNone
 | _+1,.map r=>r.isNone
 | _+1,.chan r=>r.isNone
 | n+1,.iface _ v=>qfh n v
 | n+1,.agg cs=>cs.all (qfh n)
 | n+1,.tuple cs=>cs.all (qfh n)
 | _+1,.func _ _ _ | _+1,.float _ _ | _+1,.complex _ _ _=>false
section
variable {A:Addr->Prop}{F:FuncId->Prop}
theorem Ok.undef:Ok A F undef:=.tuple (fun v h=>by simp at h)
theorem Ok.goInt(n:Int):Ok A F (goInt n):=.int _ _
theorem Ok.ptr{a:Addr}(h:A a):Ok A F (.pointer (some a)):=.pointer (fun x e=>by cases e;exact h)
theorem Ok.nilPtr:Ok A F (.pointer none):=.pointer (fun x e=>by cases e)
theorem Ok.jb{a:Addr}(h:Ok A F (.pointer (some a))):A a:=by cases h with | pointer h=>exact h _ rfl
theorem Ok.of_slice{a:Addr}{n c:Nat}(h:Ok A F (.slice (some a) n c)):A a:=by cases h with | slice _ _ h=>exact h _ rfl
theorem Ok.of_map{r:Nat}(h:Ok A F (.map (some r))):A ⟨r,0,none⟩:=by cases h with | map h=>exact h _ rfl
theorem Ok.ji{cs:Array Value}(h:Ok A F (.agg cs)):∀ v,v∈cs->Ok A F v:=by cases h with | agg h=>exact h
theorem Ok.zm{cs:Array Value}(h:Ok A F (.tuple cs)):∀ v,v∈cs->Ok A F v:=by cases h with | tuple h=>exact h
theorem Ok.jj{t:TypeId}{v:Value}(h:Ok A F (.iface t v)):Ok A F v:=by cases h with | iface _ h=>exact h
theorem Ok.cells{v:Value}(h:Ok A F v):∀ u,u∈v.cells->Ok A F u:=by
 intro u hu;unfold Value.cells at hu;split at hu
 . exact h.ji u hu
 . rw [Array.mem_singleton] at hu;rw [hu];exact h
theorem Ok.mono{A':Addr->Prop}{F':FuncId->Prop}(hA:∀ a,A a->A' a)(hF:∀ f,F f->F' f){v:Value}(h:Ok A F v):Ok A' F' v:=by
 induction h with
 | bool b=>exact .bool b
 | int k n=>exact .int k n
 | string s=>exact .string s
 | pointer h=>exact .pointer (fun x e=>hA _ (h x e))
 | slice n c h=>exact .slice n c (fun x e=>hA _ (h x e))
 | map h=>exact .map (fun x e=>hA _ (h x e))
 | chan h=>exact .chan (fun x e=>hA _ (h x e))
 | func hf _ _ h1 h2=>exact .func (hF _ hf) h1 h2
 | nilFunc=>exact .nilFunc
 | iface t _ h=>exact .iface t h
 | nilIface=>exact .nilIface
 | agg _ h=>exact .agg h
 | tuple _ h=>exact .tuple h
theorem qqa:∀ (n:Nat) (v:Value),qfh n v=true->Ok A F v:=by
 intro n
 induction n with
 | zero=>intro v h;simp [qfh] at h
 | succ n ih=>
   intro v h;cases v with
   | bool b=>exact .bool b
   | int k n=>exact .int k n
   | float k n=>simp [qfh] at h
   | complex k a b=>simp [qfh] at h
   | string s=>exact .string s
   | pointer a=>cases a with
     | none=>exact .nilPtr
     | some a=>simp [qfh] at h
   | slice a n c=>cases a with
     | none=>exact .slice _ _ (fun x e=>by cases e)
     | some a=>simp [qfh] at h
   | map r=>cases r with
     | none=>exact .map (fun x e=>by cases e)
     | some a=>simp [qfh] at h
   | chan r=>cases r with
     | none=>exact .chan (fun x e=>by cases e)
     | some a=>simp [qfh] at h
   | func fn a b=>simp [qfh] at h
   | nilFunc=>exact .nilFunc
   | iface t v=>exact .iface t (ih v (by simpa [qfh] using h))
   | nilIface=>exact .nilIface
   | agg cs=>
     refine .agg (fun v hv=>ih v ?_);simp only [qfh] at h;obtain⟨i,hi,rfl⟩:=Array.mem_iff_getElem.1 hv;exact Array.all_eq_true.1 h i hi
   | tuple cs=>
     refine .tuple (fun v hv=>ih v ?_);simp only [qfh] at h;obtain⟨i,hi,rfl⟩:=Array.mem_iff_getElem.1 hv;exact Array.all_eq_true.1 h i hi
end
def qv5(A:Addr->Prop)(F:FuncId->Prop):Obj->Prop
 | .cells c _ fr=>fr=(0,0)/\∀ v,v∈c->Ok A F v
 | .map es _=>∀ e,e∈es->Ok A F e.key/\Ok A F e.val
 | .mapIter m _ _ _=>∀ x,m=some x->A ⟨x,0,none⟩
 | .stringIter _ _=>True
 | .number a _=>∃ b:Addr,A b/\b.block=a.block
 | .chan _ _ _ _ _ _=>True
 | _=>False
structure Pen where
 P:Program
 A:Addr->Prop
 F:FuncId->Prop
 N:Nat
 fresh:∀ a:Addr,N<=a.block->A a
 up:∀ a b:Addr,A a->b.block=a.block->a.off<=b.off->A b
 Pt:Nat->Prop
 Z:Nat->Prop
 Ch:Nat->Prop
 old:∀ r,Pt r∨Ch r->r < N
 zp:∀ r,Z r->Pt r
 G:Nat
 K:Nat
 X:FuncId->Nat->Prop:=fun _ _=>False
def Pen.B(C:Pen)(r:Nat):Prop:=∃ a:Addr,C.A a/\a.block=r
theorem Pen.B.of{C:Pen}{a:Addr}(h:C.A a):C.B a.block:=⟨a,h,rfl⟩
theorem Pen.B.obj{C:Pen}{r:Nat}(h:C.A ⟨r,0,none⟩):C.B r:=⟨_,h,rfl⟩
theorem Pen.qcJ{C:Pen}{r:Nat}(h:¬ C.Pt r):¬ C.Z r:=fun hz=>h (C.zp r hz)
def qcK(C:Pen)(r:Nat)(o:Obj):Prop:=qv5 C.A C.F o∨(r=C.G/\∃ e fr,o=.cells #[] e fr)
def q8y(C:Pen)(r:Nat)(c' c:Array Value)(fr:Nat × Nat):Prop:=
 c'.size<=c.size/\(C.Z r->c'=#[])/\(∀ i v,c'[i]?=some v->c[i]?=some v/\(C.A ⟨r,i,none⟩->Ok C.A C.F v/\¬ (fr.1<=i/\i < fr.2)))/\(fr=(0,0)∨(r=C.G/\0 < c.size))/\(r=C.G->c'.size<=C.K)
structure Rel(C:Pen)(w u:World):Prop where
 size:w.heap.size=u.heap.size
 os:w.os=u.os
 room:C.N<=w.heap.size
 part:∀ r,C.Pt r->∃ c' c e fr,u.heap[r]?=some (.cells c' e)/\w.heap[r]?=some (.cells c e fr)/\q8y C r c' c fr
 same:∀ r,C.B r->¬ C.Pt r->w.heap[r]?=u.heap[r]?
 cln:∀ r o,C.B r->¬ C.Pt r->u.heap[r]?=some o->qcK C r o
 chn:∀ r,C.Ch r->∃ k b cl m n t,u.heap[r]?=some (.chan k b cl m n t)
 drawn:w.drawn=u.drawn
def vX(C:Pen)(n:Nat)(e:Event):Prop:=
 match e.loc with
 | .cell a=>e.sync=false/\(C.B a.block/\¬ C.Z a.block)/\a.block < n
 | .obj r=>(e.sync=false∨e.write=false)/\(C.B r/\¬ C.Z r)/\r < n
 | .mark (.extern _) | .mark .noRoom | .output=>True
 | _=>False
theorem vX.mono{C:Pen}{n m:Nat}{e:Event}(h:vX C n e)(hm:n<=m):vX C m e:=by
 unfold vX at *;split at h <;> first | exact⟨h.1,h.2.1,by omega⟩ | trivial | exact h.elim
def Beyond(C:Pen)(w w':World):Prop:=
 C.Pt C.G->∀ c e fr,w.heap[C.G]?=some (.cells c e fr)->∃ c',w'.heap[C.G]?=some (.cells c' e fr)/\c'.size=c.size/\∀ i,C.K<=i->c'[i]?=c[i]?
theorem Beyond.of{C:Pen}{w w':World}(h:w'.heap[C.G]?=w.heap[C.G]?):Beyond C w w':=fun _ c _ _ hc=>⟨c,h.trans hc,rfl,fun _ _=>rfl⟩
theorem Beyond.trans{C:Pen}{a b c:World}(h:Beyond C a b)(k:Beyond C b c):Beyond C a c:=fun hp x e fr hx=>by
 obtain⟨y,hy,h1,h2⟩:=h hp x e fr hx;obtain⟨z,hz,h3,h4⟩:=k hp y e fr hy;exact⟨z,hz,h3.trans h1,fun i hi=>(h4 i hi).trans (h2 i hi)⟩
structure Kept(C:Pen)(w w':World)(es:Array Event):Prop where
 block:∀ r,(¬ C.B r∨C.Z r∨C.Ch r)->w'.heap[r]?=w.heap[r]?
 size:w.heap.size<=w'.heap.size
 os:w'.os=w.os
 output:w'.output=w.output
 tape:w'.tape=w.tape
 drawn:w.drawn<=w'.drawn
 evs:∀ e,e∈es->vX C w'.heap.size e
 tail:Beyond C w w'
theorem Kept.refl(C:Pen)(w:World):Kept C w w #[]:=⟨fun _ _=>rfl,Nat.le_refl _,rfl,rfl,rfl,Nat.le_refl _,fun e h=>by simp at h,.of rfl⟩
theorem Kept.trans{C:Pen}{a b c:World}{es fs:Array Event}(h:Kept C a b es)(k:Kept C b c fs):Kept C a c (es++fs):=
 ⟨fun r hr=>(k.block r hr).trans (h.block r hr),Nat.le_trans h.size k.size,k.os.trans h.os,k.output.trans h.output,k.tape.trans h.tape,Nat.le_trans h.drawn k.drawn,fun e he=>by
   rcases Array.mem_append.1 he with h1 | h1
   . exact(h.evs e h1).mono k.size
   . exact k.evs e h1,h.tail.trans k.tail⟩
def Fatal:Halt->Prop
 | .stuck _=>True
 | .unsupported (.initOrder _)=>False
 | .unsupported _=>True
 | _=>False
def Out(C:Pen){α:Type}(Q:α->Prop)(w:World)(es:Array Event)(s:Sem α):Result α->Prop
 | .ok a u'=>∃ w' new,s.runT C.P w es=(.ok a w',es++new)/\Rel C w' u'/\Kept C w w' new/\Q a
 | .halt (.panic v) u'=>∃ w' new,s.runT C.P w es=(.halt (.panic v) w',es++new)/\Rel C w' u'/\Kept C w w' new/\Ok C.A C.F v
 | .halt h _=>Fatal h
def q1u{α:Type}:Result α->World
 | .ok _ w=>w
 | .halt _ w=>w
def Same(w u:World)(i j:Nat):Prop:=∀ k q,i<=k->k < j->w.tape k q=u.tape k q
def qc(C:Pen){α:Type}(s:Sem α)(Q:α->Prop):Prop:=∀ w u es,Rel C w u->Same w u u.drawn (q1u (s.run C.P u)).drawn->Out C Q w es s (s.run C.P u)
theorem qz5{α:Type}:∀ (a:Ask α) (w:World),(w.ask a).2.tape=w.tape/\w.drawn<=(w.ask a).2.drawn:=by
 intro a
 induction a with
 | done a=>intro w;exact⟨rfl,Nat.le_refl _⟩
 | ask what range k ih=>
   intro w;simp only [World.ask];split
   . exact ih _ _
   . have:=ih ((Question.extern what range).cut (w.tape w.drawn (.extern what range))) { w with drawn:=w.drawn+1 };exact⟨this.1,Nat.le_trans (Nat.le_succ _) this.2⟩
theorem qz6(w:World)(c:Sys):(w.sys c).2.tape=w.tape/\w.drawn<=(w.sys c).2.drawn:=by
 have:=qz5 (Kernel.perform c w.os) w;unfold World.sys;generalize w.ask (Kernel.perform c w.os)=x at this |-;obtain⟨⟨r,os⟩,w'⟩:=x;cases r <;> first | exact this | exact⟨rfl,Nat.le_refl _⟩
theorem qlj{p:Program}{w w':World}{a:Addr}{v:Value}{b:Bool}{l:List Addr}(h:w.farStore p a v b=.ok (w',l)):w'.tape=w.tape/\w'.drawn=w.drawn:=by
 unfold World.farStore at h;split at h
 . split at h
   . rename_i r hr;simp only [Except.ok.injEq] at h;subst h;unfold World.viewStore at hr;simp only [bind,Except.bind,pure,Except.pure] at hr
     repeat' split at hr
     all_goals first
       | (cases hr;done)
       | (cases hr;exact⟨rfl,rfl⟩)
   . cases h
 . cases h
theorem qja{α:Type}(p:Program):∀ (s:Sem α) (w:World),(q1u (s.run p w)).tape=w.tape/\w.drawn<=(q1u (s.run p w)).drawn:=by
 intro s
 induction s with
 | pure a=>intro w;exact⟨rfl,Nat.le_refl _⟩
 | load m a k ih=>
   intro w;simp only [Sem.run];split
   . exact ih _ _
   . split
     . exact ih _ _
     . exact⟨rfl,Nat.le_refl _⟩
 | store m a v k ih=>
   intro w
   have key:(q1u (match w.cell? a with
       | some _=>if w.frozen? a then .halt (.unsupported (.unsafePointer "a write to bytes that a string shares")) w else k.run p (w.setCell a v)
       | none=>match w.farStore p a v (m == .atomic) with
         | .ok (w,_)=>k.run p w
         | .error h=>.halt h w)).tape=w.tape/\w.drawn<=(q1u (match w.cell? a with
       | some _=>if w.frozen? a then .halt (.unsupported (.unsafePointer "a write to bytes that a string shares")) w else k.run p (w.setCell a v)
       | none=>match w.farStore p a v (m == .atomic) with
         | .ok (w,_)=>k.run p w
         | .error h=>.halt h w)).drawn:=by
     split
     . split
       . exact⟨rfl,Nat.le_refl _⟩
       . exact ih (w.setCell a v)
     . split
       . rename_i w2 _ h;have h1:=qlj h;have h2:=ih w2;exact⟨h2.1.trans h1.1,by rw [<-h1.2];exact h2.2⟩
       . exact⟨rfl,Nat.le_refl _⟩
   cases v <;> first | exact key | exact⟨rfl,Nat.le_refl _⟩
 | new o k ih=>intro w;exact ih _ _
 | shape r k ih=>intro w;exact ih _ _
 | freeze a n k ih=>
   intro w;have h1:(w.freeze a n).tape=w.tape/\(w.freeze a n).drawn=w.drawn:=by unfold World.freeze;split <;> exact⟨rfl,rfl⟩
   have h2:=ih (w.freeze a n);exact⟨h2.1.trans h1.1,by rw [<-h1.2];exact h2.2⟩
 | frozen a k ih=>intro w;exact ih _ _
 | getObj r k ih=>
   intro w;simp only [Sem.run];split
   . exact⟨rfl,Nat.le_refl _⟩
   . exact ih _ _
   . exact⟨rfl,Nat.le_refl _⟩
 | setObj r o k ih=>
   intro w;simp only [Sem.run];split
   . exact⟨rfl,Nat.le_refl _⟩
   . exact ih { w with heap:=w.heap.setIfInBounds r o }
   . exact⟨rfl,Nat.le_refl _⟩
 | choose q k ih=>
   intro w;simp only [Sem.run];split
   . exact ih _ _
   . have:=ih (q.cut (w.tape w.drawn q)) { w with drawn:=w.drawn+1 };exact⟨this.1,Nat.le_trans (Nat.le_succ _) this.2⟩
 | sys c k ih=>
   intro w;have h1:=qz6 w c;have h2:=ih (w.sys c).1 (w.sys c).2;exact⟨h2.1.trans h1.1,Nat.le_trans h1.2 h2.2⟩
 | program k ih=>intro w;exact ih _ _
 | mark m k ih=>intro w;exact ih _
 | halt h=>intro w;exact⟨rfl,Nat.le_refl _⟩
section
variable {C:Pen}{α β:Type}
theorem qab{a:α}{Q:α->Prop}(h:Q a):qc C (pure a) Q:=fun w u es hr al=>⟨w,#[],by simp [-Sem.runT_eq];rfl,hr,Kept.refl C w,h⟩
theorem qad{why:String}{Q:α->Prop}:qc C (stuck why) Q:=fun _ _ _ _ _=>trivial
theorem qaf{x:Unsupported}{Q:α->Prop}(h:∀ g,x≠.initOrder g):qc C (unsupported x) Q:=fun _ _ _ _ _=>by
 show Fatal (.unsupported x);cases x <;> first | trivial | exact absurd rfl (h _)
theorem qc0{v:Value}{Q:α->Prop}(h:Ok C.A C.F v):qc C (goPanic v) Q:=fun w u es hr al=>⟨w,#[],by simp [goPanic,Sem.runT,-Sem.runT_eq],hr,Kept.refl C w,h⟩
theorem qaa{s:Sem α}{f:α->Sem β}{Q:α->Prop}{R:β->Prop}(h:qc C s Q)(k:∀ a,Q a->qc C (f a) R):qc C (s >>= f) R:=by
 intro w u es hr al;have eE:(s >>= f).run C.P u=_:=Sem.run_bind' C.P s f u
 have al1:Same w u u.drawn (q1u (s.run C.P u)).drawn:=fun k q h1 h2=>al k q h1 (by
   rw [eE];cases hs:s.run C.P u with
   | ok a u1=>
     rw [hs] at h2;simp only [Result.andThen_ok];exact Nat.lt_of_lt_of_le h2 (qja C.P (f a) u1).2
   | halt x u1=>rw [hs] at h2;exact h2)
 have h1:=h w u es hr al1;have eT:(s >>= f).runT C.P w es=_:=Sem.runT_bind' C.P s f w es;have eU:(s >>= f).run C.P u=_:=Sem.run_bind' C.P s f u;rw [eU];cases hs:s.run C.P u with
 | ok a u1=>
   rw [hs] at h1;obtain⟨w1,new,e1,r1,k1,q⟩:=h1;have t1:=qja C.P s u;rw [hs] at t1
   have h2:=k a q w1 u1 (es++new) r1 (fun i q' i1 i2=>by
     have t1':u1.tape=u.tape:=t1.1;rw [k1.tape,t1'];refine al i q' (Nat.le_trans t1.2 i1) ?_;rw [eE,hs];exact i2)
   simp only [Result.andThen_ok];rw [e1] at eT;cases hf:(f a).run C.P u1 with
   | ok b u2=>
     rw [hf] at h2;obtain⟨w2,qaF,e2,r2,k2,q2⟩:=h2;exact⟨w2,new++qaF,by rw [eT];simp only [e2,Array.append_assoc],r2,k1.trans k2,q2⟩
   | halt x u2=>
     rw [hf] at h2;cases x with
     | panic v=>
       obtain⟨w2,qaF,e2,r2,k2,q2⟩:=h2;exact⟨w2,new++qaF,by rw [eT];simp only [e2,Array.append_assoc],r2,k1.trans k2,q2⟩
     | _=>exact h2
 | halt x u1=>
   rw [hs] at h1;simp only [Result.andThen_halt];cases x with
   | panic v=>
     obtain⟨w1,new,e1,r1,k1,q⟩:=h1;exact⟨w1,new,by rw [eT,e1],r1,k1,q⟩
   | _=>exact h1
theorem qah{c:Prop}[Decidable c]{s t:Sem α}{Q:α->Prop}(h1:c->qc C s Q)(h2:¬ c->qc C t Q):qc C (if c then s else t) Q:=by
 split
 . exact h1 ‹_›
 . exact h2 ‹_›
theorem qqb{s:Sem α}{f:α->β}{Q:α->Prop}{R:β->Prop}(h:qc C s Q)(k:∀ a,Q a->R (f a)):qc C (f <$> s) R:=by
 rw [<-bind_pure_comp];exact qaa h (fun a q=>qab (k a q))
theorem Rel.lt{w u:World}(h:Rel C w u){r:Nat}{o:Obj}(ho:u.heap[r]?=some o):r < w.heap.size:=by rw [h.size];exact(Array.getElem?_eq_some_iff.1 ho).1
theorem Rel.cell{w u:World}(h:Rel C w u){a:Addr}(ha:C.A a){v:Value}(hv:u.cell? a=some v):w.cell? a=some v/\Ok C.A C.F v/\a.block < w.heap.size/\¬ C.Z a.block/\u.frozen? a=false/\w.frozen? a=false:=by
 unfold World.cell? at hv;split at hv
 . rename_i c e fr hb;by_cases hs:a.spot.isSome=true
   . simp [hs] at hv
   . simp only [hs,if_false,Bool.false_eq_true] at hv;by_cases hp:C.Pt a.block
     . obtain⟨c',c2,e2,fr2,h1,h2,h3,h4,h5,h6⟩:=h.part _ hp;rw [hb] at h1;cases h1;obtain⟨k1,k2⟩:=h5 a.off v hv;obtain⟨k2,k3⟩:=k2 (C.up a _ ha rfl (Nat.le_refl _));refine⟨?_,k2,h.lt hb,fun hz=>?_,?_,?_⟩
       . unfold World.cell?;rw [h2];simp only [hs,if_false,Bool.false_eq_true];exact k1
       . rw [h4 hz] at hv;simp at hv
       . unfold World.frozen?;rw [hb];simp
       . unfold World.frozen?;rw [h2];obtain⟨lo,hi⟩:=fr2;simp only [Bool.and_eq_false_iff,decide_eq_false_iff_not];by_cases hl:lo<=a.off
         . exact .inr (fun h8=>k3 ⟨hl,h8⟩)
         . exact .inl hl
     . have hB:C.B a.block:=.of ha
       have hc:qv5 C.A C.F (.cells c e fr):=(h.cln _ _ hB hp hb).resolve_right (fun k=>by
         obtain⟨_,_,_,k⟩:=k;cases k;simp at hv)
       have hsame:=h.same _ hB hp;have hfr:=hc.1;subst hfr;refine⟨?_,hc.2 v (Array.mem_of_getElem? hv),h.lt hb,Pen.qcJ hp,?_,?_⟩
       . unfold World.cell?;rw [hsame,hb];simp only [hs,if_false,Bool.false_eq_true];exact hv
       . unfold World.frozen?;rw [hb];simp
       . unfold World.frozen?;rw [hsame,hb];simp
 . cases hv
theorem Rel.jm{w u:World}(h:Rel C w u){r:Nat}(hA:C.B r)(hc:r≠C.G):∀ off s,w.frozen? ⟨r,off,s⟩=false:=by
 by_cases hp:C.Pt r
 . obtain⟨c',c,e,fr,h1,h2,_,_,_,h6⟩:=h.part _ hp;have:=h6.1.resolve_right (fun k=>hc k.1);subst this;exact fun off s=>by unfold World.frozen?;rw [h2];simp
 . have hs:=h.same _ hA hp;cases hb:u.heap[r]? with
   | none=>exact fun off s=>by unfold World.frozen?;rw [hs,hb]
   | some o=>
     have hcl:=(h.cln _ _ hA hp hb).resolve_right (fun k=>hc k.1);cases o with
     | cells c e fr=>have:=hcl.1;subst this;exact fun off s=>by unfold World.frozen?;rw [hs,hb];simp
     | _=>exact fun off s=>by unfold World.frozen?;rw [hs,hb]
theorem Rel.jO{w u:World}(h:Rel C w u){r:Nat}(hA:C.B r)(hc:r≠C.G):∀ off s,u.frozen? ⟨r,off,s⟩=false:=by
 by_cases hp:C.Pt r
 . obtain⟨c',c,e,fr,h1,h2,_⟩:=h.part _ hp;exact fun off s=>by unfold World.frozen?;rw [h1];simp
 . have hs:=h.same _ hA hp;have hw:=h.jm hA hc
   exact fun off s=>by
     have:=hw off s;unfold World.frozen? at this |-;rw [hs] at this;exact this
theorem Rel.xx{w u:World}(h:Rel C w u)(hA:C.B C.G):((∀ off s,u.frozen? ⟨C.G,off,s⟩=false)/\((∀ off s,w.frozen? ⟨C.G,off,s⟩=false)∨∃ t n,w.shape? C.G=some (t,n)/\0 < n))∨w.heap[C.G]?=u.heap[C.G]?:=by
 by_cases hp:C.Pt C.G
 . obtain⟨c',c,e,fr,h1,h2,_,_,_,h7⟩:=h.part _ hp;refine .inl ⟨fun off s=>by unfold World.frozen?;rw [h1];simp,?_⟩;rcases h7.1 with h7 | ⟨_,h7⟩
   . subst h7;exact .inl (fun off s=>by unfold World.frozen?;rw [h2];simp)
   . exact .inr ⟨e,c.size,by unfold World.shape?;rw [h2],h7⟩
 . exact .inr (h.same _ hA hp)
theorem Rel.kind{w u:World}(h:Rel C w u){r:Nat}(hA:C.B r){o:Obj}(ho:u.heap[r]?=some o):(∃ c e fr,o=.cells c e fr)∨(w.heap[r]?=some o/\qv5 C.A C.F o/\¬ C.Z r):=by
 by_cases hp:C.Pt r
 . obtain⟨c',c,e,fr,h1,_⟩:=h.part _ hp;rw [ho] at h1;exact .inl ⟨_,_,_,Option.some.inj h1⟩
 . rcases h.cln _ _ hA hp ho with hc | ⟨_,e,fr,rfl⟩
   . exact .inr ⟨(h.same _ hA hp).trans ho,hc,Pen.qcJ hp⟩
   . exact .inl ⟨_,_,_,rfl⟩
theorem Rel.shapes{w u:World}(h:Rel C w u){r:Nat}(hA:C.B r):(w.shape? r=none/\u.shape? r=none)∨∃ t n m,u.shape? r=some (t,n)/\w.shape? r=some (t,m)/\n<=m:=by
 by_cases hp:C.Pt r
 . obtain⟨c',c,e,fr,h1,h2,h3,_⟩:=h.part _ hp;exact .inr ⟨e,c'.size,c.size,by unfold World.shape?;rw [h1],by unfold World.shape?;rw [h2],h3⟩
 . have hs:=h.same _ hA hp;cases hx:u.shape? r with
   | none=>exact .inl ⟨by unfold World.shape? at hx |-;rw [hs];exact hx,rfl⟩
   | some x=>exact .inr ⟨x.1,x.2,x.2,rfl,by unfold World.shape? at hx |-;rw [hs];exact hx,Nat.le_refl _⟩
theorem qnm{u:World}{a:Addr}{what:String}(h:∀ c e,u.heap[a.block]?≠some (.pending c e)):Fatal (u.noCell a what):=by
 unfold World.noCell;split
 . rename_i hb;exact absurd hb (h _ _)
 . trivial
 . trivial
theorem qt0{u:World}{a:Addr}{b:Bool}(h:∀ c e,u.heap[a.block]?≠some (.pending c e))(h':∀ c e,u.heap[a.block]?≠some (.view c e)):∃ x,u.farLoad C.P a b=.error x/\Fatal x:=by
 unfold World.farLoad;split
 . rename_i hb;exact absurd hb (h' _ _)
 . exact⟨_,rfl,qnm h⟩
theorem qr0{u:World}{a:Addr}{v:Value}{b:Bool}(h:∀ c e,u.heap[a.block]?≠some (.pending c e))(h':∀ c e,u.heap[a.block]?≠some (.view c e)):∃ x,u.farStore C.P a v b=.error x/\Fatal x:=by
 unfold World.farStore;split
 . rename_i hb;exact absurd hb (h' _ _)
 . exact⟨_,rfl,qnm h⟩
theorem Rel.noPending{w u:World}(h:Rel C w u){r:Nat}(hA:C.B r):(∀ c e,u.heap[r]?≠some (.pending c e))/\∀ c e,u.heap[r]?≠some (.view c e):=
 ⟨fun c e ho=>by
   rcases h.kind hA ho with ⟨_,_,_,h1⟩ | ⟨_,h1,_⟩
   . cases h1
   . exact h1,
 fun c e ho=>by
   rcases h.kind hA ho with ⟨_,_,_,h1⟩ | ⟨_,h1,_⟩
   . cases h1
   . exact h1⟩
theorem qqc{Q:α->Prop}{w u:World}{es:Array Event}{s:Sem α}{x:Halt}(h:Fatal x):Out C Q w es s (.halt x u):=by
 cases x <;> first | exact h | exact h.elim
theorem qsz{a:Addr}(ha:C.A a):qc C (load a) (Ok C.A C.F):=by
 intro w u es hr al;cases hv:u.cell? a with
 | some v=>
   obtain⟨h1,h2,h3,h4,_,_⟩:=hr.cell ha hv;have e:(load a).run C.P u=.ok v u:=by simp [hv]
   rw [e];refine⟨w,#[⟨.cell a,false,false⟩],by simp [load,Sem.runT,h1,-Sem.runT_eq];rfl,hr,⟨fun _ _=>rfl,Nat.le_refl _,rfl,rfl,rfl,Nat.le_refl _,fun e he=>?_,.of rfl⟩,h2⟩;rw [Array.mem_singleton] at he;subst he;exact⟨rfl,⟨.of ha,h4⟩,h3⟩
 | none=>
   obtain⟨x,hx,hf⟩:=qt0 (C:=C) (u:=u) (a:=a) (b:=(Mode.plain == .atomic)) (hr.noPending (.of ha)).1 (hr.noPending (.of ha)).2;have e:(load a).run C.P u=.halt x u:=by simp [hv,hx]
   rw [e];exact qqc hf
theorem qh7{γ:Type}(xs:Array γ)(i j:Nat)(f:γ->γ):(xs.modify i f)[j]?=if i=j then (xs[j]?).map f else xs[j]?:=by
 rw [Array.getElem?_modify]
theorem qca(w:World)(a:Addr)(v:Value)(r:Nat)(hne:a.block≠r):(w.setCell a v).heap[r]?=w.heap[r]?:=by
 simp [World.setCell,qh7,hne]
theorem qdv(w:World)(a:Addr)(v:Value){c:Array Value}{e:TypeId}{fr:Nat × Nat}(h:w.heap[a.block]?=some (.cells c e fr)) :
   (w.setCell a v).heap[a.block]?=some (.cells (if a.spot.isSome then c else c.setIfInBounds a.off v) e fr):=by
 simp [World.setCell,qh7,h]
theorem qdw{u:World}{a:Addr}{v:Value}(h:u.cell? a=some v):a.spot.isSome=false/\∃ c e fr,u.heap[a.block]?=some (.cells c e fr)/\a.off < c.size:=by
 unfold World.cell? at h;split at h
 . rename_i c e fr hb;by_cases hs:a.spot.isSome=true
   . simp [hs] at h
   . simp only [hs,if_false,Bool.false_eq_true] at h;exact⟨by simpa using hs,c,e,fr,hb,(Array.getElem?_eq_some_iff.1 h).1⟩
 . cases h
theorem q70{w:World}{a:Addr}{v:Value}{c:Array Value}{e:TypeId}{fr:Nat × Nat}(hs:a.spot.isSome=false)(hb:w.heap[a.block]?=some (.cells c e fr))(h:w.cell? a=some v):c[a.off]?=some v:=by
 unfold World.cell? at h;rw [hb] at h;simpa [hs] using h
theorem Rel.set{w u:World}(h:Rel C w u){a:Addr}(ha:C.A a){v x:Value}(hv:u.cell? a=some x)(hok:Ok C.A C.F v):Rel C (w.setCell a v) (u.setCell a v):=by
 obtain⟨hs,c,e,fr,hb,hoff⟩:=qdw hv;obtain⟨hw,_,_,hnz,_,hfz⟩:=h.cell ha hv;refine⟨by simp [World.setCell,h.size],h.os,by have:=h.room;simpa [World.setCell] using this,fun r hp=>?_,fun r hB hp=>?_,fun r o hB hp ho=>?_,fun r hr=>?_,h.drawn⟩
 . obtain⟨c',c2,e2,fr2,h1,h2,h3,h4,h5,h6⟩:=h.part r hp;by_cases hne:a.block=r
   . subst hne;rw [hb] at h1;cases h1;refine⟨c.setIfInBounds a.off v,c2.setIfInBounds a.off v,e,fr2,?_,?_,?_,fun hz=>absurd hz hnz,fun i y hy=>?_,⟨h6.1.imp id (fun hg=>⟨hg.1,by simpa using hg.2⟩),fun hg=>by simpa using h6.2 hg⟩⟩
     . rw [qdv u a v hb];simp [hs]
     . rw [qdv w a v h2];simp [hs]
     . simpa using h3
     . rw [Array.getElem?_setIfInBounds] at hy |-;by_cases hi:a.off=i
       . subst hi;rw [if_pos rfl,if_pos hoff] at hy;cases hy;rw [if_pos rfl,if_pos (by omega)];refine⟨rfl,fun _=>⟨hok,fun hl=>?_⟩⟩;unfold World.frozen? at hfz;rw [h2] at hfz;obtain⟨lo,hi⟩:=fr2;simp only [Bool.and_eq_false_iff,decide_eq_false_iff_not] at hfz;exact hfz.elim (fun h9=>h9 hl.1) (fun h9=>h9 hl.2)
       . rw [if_neg hi] at hy |-;exact h5 i y hy
   . exact⟨c',c2,e2,fr2,by rw [qca _ _ _ _ hne];exact h1,by rw [qca _ _ _ _ hne];exact h2,h3,h4,h5,h6⟩
 . have h1:=h.same r hB hp;by_cases hne:a.block=r
   . subst hne;rw [qdv u a v hb,qdv w a v (h1.trans hb)]
   . rw [qca _ _ _ _ hne,qca _ _ _ _ hne];exact h1
 . by_cases hne:a.block=r
   . subst hne;rw [qdv u a v hb] at ho;cases ho
     have hc:qv5 C.A C.F (.cells c e fr):=(h.cln _ _ hB hp hb).resolve_right (fun k=>by
       obtain⟨_,_,_,k⟩:=k;cases k;simp at hoff)
     refine .inl ⟨hc.1,fun y hy=>?_⟩;simp only [hs,Bool.false_eq_true,if_false] at hy;obtain⟨i,hi,rfl⟩:=Array.mem_iff_getElem.1 hy;have hi':i < c.size:=by simpa using hi
     rw [Array.getElem_setIfInBounds hi'];split
     . exact hok
     . exact hc.2 _ (Array.getElem_mem _)
   . rw [qca _ _ _ _ hne] at ho;exact h.cln r o hB hp ho
 . obtain⟨k,b,cl,m,n,t,h1⟩:=h.chn r hr;have hne:a.block≠r:=fun e0=>by rw [<-e0,hb] at h1;cases h1
   exact⟨k,b,cl,m,n,t,by rw [qca _ _ _ _ hne];exact h1⟩
theorem Rel.jI{w u:World}(h:Rel C w u){a:Addr}{x:Value}(hv:u.cell? a=some x)(v:Value):Beyond C w (w.setCell a v):=by
 obtain⟨hs,c,e,fr,hb,hoff⟩:=qdw hv;intro hp cw ew frw hw;by_cases hne:a.block=C.G
 . obtain⟨c',c2,e2,fr2,h1,h2,h3,h4,h5,h6⟩:=h.part _ hp;have hK:=h6.2 rfl;rw [hne,h1] at hb;cases hb;refine⟨cw.setIfInBounds a.off v,?_,by simp,fun i hi=>?_⟩
   . rw [<-hne,qdv w a v (by rw [hne];exact hw)];simp [hs]
   . rw [Array.getElem?_setIfInBounds,if_neg (by omega)]
 . exact⟨cw,by rw [qca _ _ _ _ hne];exact hw,rfl,fun _ _=>rfl⟩
theorem qyh{a:Addr}{v:Value}(ha:C.A a)(hok:Ok C.A C.F v):qc C (store a v) (fun _=>True):=by
 intro w u es hr al;by_cases h1:v.oneCell'=true
 . rw [run_store C.P u a v _ h1];cases hv:u.cell? a with
   | some x=>
     obtain⟨h1',h2,h3,h4,h5,h6⟩:=hr.cell ha hv;obtain⟨_,c,e0,fr0,hb0,_⟩:=qdw hv;simp only [h5,Bool.false_eq_true,if_false];refine⟨w.setCell a v,#[⟨.cell a,true,false⟩],?_,hr.set ha hv hok,⟨fun r hnr=>qca _ _ _ _ (fun e=>?_),by simp [World.setCell],rfl,rfl,rfl,Nat.le_refl _,fun e he=>?_,hr.jI hv v⟩,trivial⟩
     . rw [Sem.runT_eq,run_store C.P w a v _ h1,h1'];have hev:=events_store (P:=C.P) (w:=w) (es:=es) a v .plain h1;rw [h1'] at hev;simp only [h6,Bool.false_eq_true,if_false] at hev |-;rw [hev];simp;rfl
     . subst e;rcases hnr with hn | hn | hn
       . exact hn (.of ha)
       . exact h4 hn
       . obtain⟨k,b,cl,m,n,t,h7⟩:=hr.chn _ hn;rw [hb0] at h7;cases h7
     . rw [Array.mem_singleton] at he;subst he;exact⟨rfl,⟨.of ha,h4⟩,by simpa [World.setCell] using h3⟩
   | none=>
     obtain⟨x,hx,hf⟩:=qr0 (C:=C) (u:=u) (a:=a) (v:=v) (b:=(Mode.plain == .atomic)) (hr.noPending (.of ha)).1 (hr.noPending (.of ha)).2;simp only [hx];exact qqc hf
 . have e:∃ why,(store a v).run C.P u=.halt (.stuck why) u:=by
     cases v <;> first | (exact absurd rfl h1) | exact⟨_,rfl⟩
   obtain⟨why,e⟩:=e;rw [e];trivial
theorem Pen.vY{C:Pen}{r:Nat}(h:C.N<=r):¬ C.Pt r/\¬ C.Ch r:=⟨fun k=>absurd (C.old r (.inl k)) (by omega),fun k=>absurd (C.old r (.inr k)) (by omega)⟩
theorem qir{o:Obj}(ho:qv5 C.A C.F o):qc C (newObj o) (fun r=>C.A ⟨r,0,none⟩):=by
 intro w u es hr al;rw [run_newObj];have hN:C.N<=u.heap.size:=by rw [<-hr.size];exact hr.room
 have hA:C.A ⟨u.heap.size,0,none⟩:=C.fresh _ hN;have hno:=Pen.vY hN
 refine⟨{ w with heap:=w.heap.push o },#[],by simp [newObj,Sem.runT,hr.size,-Sem.runT_eq],⟨by simp [hr.size],hr.os,by have:=hr.room;simp;omega,fun r hp=>?_,fun r hB hp=>?_,fun r x hB hp hx=>?_,fun r hc=>?_,hr.drawn⟩,
   ⟨fun r hnr=>?_,by simp,rfl,rfl,rfl,Nat.le_refl _,fun e h=>by simp at h,fun hp=>Beyond.of (by
     have hne:C.G≠u.heap.size:=fun e=>hno.1 (e ▸ hp);simp only [Array.getElem?_push];rw [hr.size,if_neg hne]) hp⟩,hA⟩
 . have hne:r≠u.heap.size:=fun e=>hno.1 (e ▸ hp);obtain⟨c',c2,e2,fr2,h1,h2,h3⟩:=hr.part r hp;exact⟨c',c2,e2,fr2,by simp only [Array.getElem?_push];rw [if_neg hne];exact h1,by simp only [Array.getElem?_push];rw [hr.size,if_neg hne];exact h2,h3⟩
 . simp only [Array.getElem?_push];rw [hr.size];split
   . rfl
   . exact hr.same r hB hp
 . simp only [Array.getElem?_push] at hx;split at hx
   . cases hx;exact .inl ho
   . exact hr.cln r x hB hp hx
 . have hne:r≠u.heap.size:=fun e=>hno.2 (e ▸ hc);obtain⟨k,b,cl,m,n,t,h1⟩:=hr.chn r hc;exact⟨k,b,cl,m,n,t,by simp only [Array.getElem?_push];rw [if_neg hne];exact h1⟩
 . simp only [Array.getElem?_push];split
   . rename_i h;subst h;rw [hr.size] at hnr;rcases hnr with hn | hn | hn
     . exact absurd (Pen.B.obj hA) hn
     . exact absurd (C.zp _ hn) hno.1
     . exact absurd hn hno.2
   . rfl
theorem qd4{r:Nat}(hA:C.B r):qc C (getObj r) (fun o=>qv5 C.A C.F o/\(∀ c e fr,o≠.cells c e fr)/\¬ C.Z r/\∀ es k,o=.map es k->¬ C.Ch r):=by
 intro w u es hr al;cases ho:u.heap[r]? with
 | none=>simp [getObj,Sem.run,ho];trivial
 | some o=>
   rcases hr.kind hA ho with ⟨c,e,fr,rfl⟩ | ⟨ho',hok,hnz⟩
   . simp [getObj,Sem.run,ho];trivial
   . by_cases hc:∃ c e fr,o=.cells c e fr
     . obtain⟨c,e,fr,rfl⟩:=hc;simp [getObj,Sem.run,ho];trivial
     have hne:∀ c e fr,o≠.cells c e fr:=fun c e fr h=>hc ⟨c,e,fr,h⟩
     have eU:(getObj r).run C.P u=.ok o u:=by
       simp only [getObj,Sem.run,ho]
     rw [eU];refine⟨w,#[⟨.obj r,false,o.isChan⟩],?_,hr,⟨fun _ _=>rfl,Nat.le_refl _,rfl,rfl,rfl,Nat.le_refl _,fun e he=>?_,.of rfl⟩,hok,hne,hnz,fun es' k hm hch=>?_⟩
     . simp only [getObj,Sem.runT,ho',Array.push_eq_append]
     . rw [Array.mem_singleton] at he;subst he;exact⟨.inr rfl,⟨hA,hnz⟩,hr.lt ho⟩
     . obtain⟨k',b,cl,m,n,t,h1⟩:=hr.chn _ hch;rw [ho,hm] at h1;cases h1
theorem heap_set{w:World}{r:Nat}{o:Obj}(i:Nat):({ w with heap:=w.heap.setIfInBounds r o }:World).heap[i]?=if r=i then (if r < w.heap.size then some o else none) else w.heap[i]?:=by
 simp only [Array.getElem?_setIfInBounds]
theorem qnn{r:Nat}{o:Obj}(hA:C.B r)(hok:qv5 C.A C.F o)(hch:¬ C.Ch r)(hnc:o.isChan=false):qc C (setObj r o) (fun _=>True):=by
 intro w u es hr al;cases ho:u.heap[r]? with
 | none=>simp [setObj,Sem.run,ho];trivial
 | some x=>
   rcases hr.kind hA ho with ⟨c,e,fr,rfl⟩ | ⟨ho',_,hnz⟩
   . simp [setObj,Sem.run,ho];trivial
   . by_cases hc:∃ c e fr,x=.cells c e fr
     . obtain⟨c,e,fr,rfl⟩:=hc;simp [setObj,Sem.run,ho];trivial
     have hne:∀ c e fr,x≠.cells c e fr:=fun c e fr h=>hc ⟨c,e,fr,h⟩;have hlt:=hr.lt ho
     have eU:(setObj r o).run C.P u=.ok () { u with heap:=u.heap.setIfInBounds r o }:=by
       simp only [setObj,Sem.run,ho]
     rw [eU]
     refine⟨{ w with heap:=w.heap.setIfInBounds r o },#[⟨.obj r,true,o.isChan⟩],?_,⟨by simp [hr.size],hr.os,by have:=hr.room;simpa using this,fun i hp=>?_,fun i hB hp=>?_,fun i y hB hp hy=>?_,fun i hi=>?_,hr.drawn⟩,⟨fun i hi=>?_,by simp,rfl,rfl,rfl,Nat.le_refl _,fun e he=>?_,fun hp=>Beyond.of (by
       obtain⟨c',c2,e2,fr2,h1,h2,_⟩:=hr.part _ hp;have hne':r≠C.G:=fun e=>by rw [<-e,ho] at h1;exact hne _ _ _ (Option.some.inj h1)
       rw [heap_set,if_neg hne']) hp⟩,trivial⟩
     . simp only [setObj,Sem.runT,ho',Array.push_eq_append]
     . obtain⟨c',c2,e2,fr2,h1,h2,h3⟩:=hr.part i hp;have hne':r≠i:=fun e=>by subst e;rw [ho] at h1;exact hne _ _ _ (Option.some.inj h1)
       exact⟨c',c2,e2,fr2,by rw [heap_set,if_neg hne'];exact h1,by rw [heap_set,if_neg hne'];exact h2,h3⟩
     . rw [heap_set,heap_set,hr.size];split
       . rfl
       . exact hr.same i hB hp
     . rw [heap_set] at hy;split at hy
       . split at hy
         . cases hy;exact .inl hok
         . cases hy
       . exact hr.cln i y hB hp hy
     . have hne':r≠i:=fun e=>hch (e ▸ hi);obtain⟨k,b,cl,m,n,t,h1⟩:=hr.chn i hi;exact⟨k,b,cl,m,n,t,by rw [heap_set,if_neg hne'];exact h1⟩
     . rw [heap_set,if_neg];intro e;subst e;rcases hi with hn | hn | hn
       . exact hn hA
       . exact hnz hn
       . exact hch hn
     . rw [Array.mem_singleton] at he;subst he;exact⟨.inl hnc,⟨hA,hnz⟩,by simpa using hlt⟩
theorem Rel.drew{w u:World}(h:Rel C w u):Rel C { w with drawn:=w.drawn+1 } { u with drawn:=u.drawn+1 }:=
 ⟨h.size,h.os,h.room,h.part,h.same,h.cln,h.chn,by show w.drawn+1=u.drawn+1;rw [h.drawn]⟩
theorem qdd(q:Question):qc C (choose q) (fun _=>True):=by
 intro w u es hr al;rw [run_choose];split
 . rename_i hf;exact⟨w,#[],by simp [choose,Sem.runT,hf,-Sem.runT_eq],hr,Kept.refl C w,trivial⟩
 . rename_i hf
   have:w.tape w.drawn q=u.tape u.drawn q:=by
     rw [hr.drawn];refine al u.drawn q (Nat.le_refl _) ?_;rw [run_choose,if_neg hf];exact Nat.lt_succ_self _
   refine⟨{ w with drawn:=w.drawn+1 },#[],?_,hr.drew,⟨fun _ _=>rfl,Nat.le_refl _,rfl,rfl,rfl,Nat.le_succ _,fun e h=>by simp at h,.of rfl⟩,trivial⟩;simp only [choose,Sem.runT,hf,if_false,Bool.false_eq_true,this,Array.append_empty]
theorem qa0:qc C program (fun p=>p=C.P):=fun w u es hr al=>⟨w,#[],by simp [program,Sem.runT,-Sem.runT_eq],hr,Kept.refl C w,rfl⟩
theorem qoc(f:FuncId):qc C (mark (.extern f)) (fun _=>True):=fun w u es hr al=>
 ⟨w,#[⟨.mark (.extern f),false,true⟩],by simp [mark,Sem.runT,-Sem.runT_eq],hr,⟨fun _ _=>rfl,Nat.le_refl _,rfl,rfl,rfl,Nat.le_refl _,fun e he=>by rw [Array.mem_singleton] at he;subst he;trivial,.of rfl⟩,trivial⟩
theorem qv6:qc C (mark .noRoom) (fun _=>True):=fun w u es hr al=>
 ⟨w,#[⟨.mark .noRoom,false,true⟩],by simp [mark,Sem.runT,-Sem.runT_eq],hr,⟨fun _ _=>rfl,Nat.le_refl _,rfl,rfl,rfl,Nat.le_refl _,fun e he=>by rw [Array.mem_singleton] at he;subst he;trivial,.of rfl⟩,trivial⟩
end
end
end Go.Proofs.YtacemdoejblgaaaGreatDoor

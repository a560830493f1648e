/- Part M03. Conditions: each statement's. -/
import Derived.Test.YtacemdoejblgaaaGreatDoorM02
import Derived.Conc.Machine
import Derived.Conc.Listed
import Derived.Conc.LoneCalls
import Derived.Conc.CrowdRun
namespace Go.Proofs.YtacemdoejblgaaaGreatDoor
open _root_.Array renaming getElem?_eq_some_iff→Ab,mem_singleton→Ah,getElem?_eq_getElem→Ai,getElem?_map→Aj,append_empty→Am,getElem?_append_right→Ap,getElem?_eq_none→As,ext_getElem?→At,append_assoc→Ax,mem_append→Ay
open Bool renaming false_eq_true→Az
open Classical renaming byContradiction→AA
open Go renaming Goroutine→AB,World→AD,Frame→AE,Program→AF,Question→AG,TypeId→AH,Trace→AI,FuncId→AJ,Value→AK,Event→AL,MemOp→AM
open Conc renaming woken→AN,again_running→AO,aside_setCell→AP,G→AQ,Deaf_other→AR,getElem?_append_cases→AS,runT_crowd_go→AT,again_parked_open→AU,awake_of→AV,Deaf_own→AW,served→AX,Aside→AY,ofEvents_eq→AZ
open Conc.Goes renaming running→B9,rely→Ba
open ConcR renaming mk→Bb
open Frame renaming enter→Bc,catches→Be,finish→Bf,raise→Bg
open GStep renaming after→Bh
open MemAct renaming ofEvent→Bi
open MemOp renaming ofEvents→Bj
open Question renaming forced→Bm,extern→Bn
open Result.halt renaming injEq→Bo
open Result.ok renaming injEq→Bp
open Sem renaming runT_eq→Bq,run→Br,runT→Bs
open World renaming cell?→Bt,ask→Bu,freeze→Bv
open stepG renaming exec→By,apply→Bz
open List renaming mem_cons→BA,cons_append→BB,mem_cons_of_mem→BC,mem_cons_self→BE,nodup_cons→BF
open Nat renaming le_refl→BG,add_sub_cancel_left→BH,le_trans→BI,lt_succ_self→BJ,le_add_right→BK,not_lt_zero→BL,lt_wfRel→BM,not_lt→BN
open Option renaming map_eq_some_iff→BO
open Prod.Lex renaming left→BP,right→BQ
open Prod.mk renaming injEq→BR,inj→BS
set_option maxRecDepth 100000
set_option maxHeartbeats 6400000
variable {es:Array AL}{fr:AE}{st:AE×List AE}{fn:Func}{a' g g' x x':AB}{sm sm' st':Int}{L:List (Addr×AK)}{cs fs:List AE}{l:List Nat}{S:List String}{B Wg c d' f' i j k m m' n s':Nat}{t:Nat->AG->Nat}{o:Outcome}{C:Pen}{P:AF}{pos:String}{ty:AH}{a b u u' v w w':AD}
section
open Go.Conc
structure zx where
 k:List Item
 ds:List Deferred
def noT:zx:=⟨[],[]⟩
def qG(fr:AE)(k:zx):AE:={fr with todo:=fr.todo++k.k,defers:=fr.defers++k.ds}
def jS(k:zx):List AE->List AE
 |[]=>[]
 |[f]=>[qG f k]
 |f::g::l=>f::jS k (g::l)
def below(k:zx):List AE->zx
 |[]=>k
 |_::_=>noT
def gor(k:zx)(cs:List AE)(st:AE×List AE):AB:=G (qG st.1 (below k st.2)) (jS k st.2++cs)
structure yM(P:AF)(e:Bool)(st:AE×List AE){α:Type}(s:Sem α)(Q:α->Prop)(g1:α->AE×List AE)(g2:AK->AE×List AE)(fn:AJ)(pan:Bool):Prop where
 ok:∀main k cs w a w' es,(e=false->k=noT)->s.runT P w #[]=(.ok a w',es)->Q a->stepG P main (gor k cs st) w=.go (gor k cs (g1 a)) w' (seen P fn es)
 panic:∀main k cs w v w' es,(e=false->k=noT)->pan=true->s.runT P w #[]=(.halt (.panic v) w',es)->stepG P main (gor k cs st) w=.go (gor k cs (g2 v)) w' (seen P fn es)
 fatal:∀main k cs w h w' es,(e=false->k=noT)->s.runT P w #[]=(.halt h w',es)->(Fatal h∨(pan=false/\∃v,h=.panic v))->∃o w₁ es₁,stepG P main (gor k cs st) w=.ended o w₁ es₁
def Clean(C:Pen)(S:List String)(st:AE×List AE):Prop:=FrE C S st.1/\∀x,x∈st.2->FrE C S x/\x.todo≠[]
def Norm(C:Pen)(S:List String)(e:Bool)(st:AE×List AE):Prop:=
 ∃(α:Type) (s:Sem α) (Q:α->Prop) (g1:α->AE×List AE) (g2:AK->AE×List AE) (fn:AJ) (pan:Bool),
  yM C.P e st s Q g1 g2 fn pan/\qd C s Q/\(∀a,Q a->Clean C S (g1 a))/\∀v,Ok C.A C.F v->Clean C S (g2 v)
def q4v(e:Bool)(fr:AE):Prop:=fr.mode≠.run∨(e=true/\(fr.todo=[]∨(∃id t,fr.todo=.code (.exit id)::t/\exitTo id t=none)∨∃l t,fr.todo=.code (.goto l)::t/\gotoIn l t=none))
section
variable {C:Pen}{S:List String}{X:Nat->Prop}{e:Bool}
theorem qqk{α:Type}(P:AF)(a:α)(w:AD)(es:Array AL):(pure a:Sem α).runT P w es=(.ok a w,es):=by rfl
theorem seen_none(P:AF)(fn:AJ):seen P fn #[]=#[]:=by simp[seen]
theorem qt9(fr:AE):qG fr noT=fr:=by simp[qG,noT]
theorem q7g{id:Nat}:∀(t t' k:List Item),exitTo id t=some t'->exitTo id (t++k)=some (t'++k):=by
 intro t
 induction t with
 |nil=>intro t' k e;cases e
 |cons x t ih=>
  intro t' k e;cases x with
  |inBlock id'=>
   simp only[exitTo,BB]at e |-;split at e
   . rename_i h;cases e;rw[if_pos h]
   . rename_i h;rw[if_neg h];exact ih t' k e
  |_=>simp only[exitTo,BB]at e |-;exact ih t' k e
theorem q7h{l:Nat}:∀(t t' k:List Item),gotoIn l t=some t'->gotoIn l (t++k)=some (t'++k):=by
 intro t
 induction t with
 |nil=>intro t' k e;cases e
 |cons x t ih=>
  intro t' k e;cases x with
  |inScope body=>
   simp only[gotoIn,BB]at e |-;split at e
   . cases e;rfl
   . exact ih t' k e
  |_=>simp only[gotoIn,BB]at e |-;exact ih t' k e
theorem qjn(h:fr.todo≠[])(k:zx)(v:AK):(qG fr k).finish v=qG (fr.finish v) k:=by
 cases ht:fr.todo with
 |nil=>exact absurd ht h
 |cons x t=>
  cases x with
  |inRegion ops is=>cases is<;>simp[Bf,qG,ht]
  |_=>simp[Bf,qG,ht]
theorem qwe(fr:AE)(k:zx)(vs:List PanicEntry):(qG fr k).raise vs=qG (fr.raise vs) k:=by
 unfold Bg qG;dsimp only;split<;>rfl
theorem qhe(fr:AE)(f2:AE)(fs:List AE)(k:zx):qG fr (below k (f2::fs))=fr:=qt9 fr
theorem qlq(k:zx)(f:AE)(fs:List AE):jS k (f::fs)=qG f (below k fs)::jS k fs:=by
 cases fs with
 |nil=>rfl
 |cons g l=>show f::jS k (g::l)=_;rw[qhe]
theorem qlr{st':AE×List AE}(h:∀main k cs w,(e=false->k=noT)->stepG C.P main (gor k cs st) w=.go (gor k cs st') w #[])(hc:Clean C S st'):Norm C S e st:=by
 refine⟨Unit,pure (),λ_=>True,λ_=>st',λ_=>st',0,true,⟨?_,?_,?_⟩,qab trivial,λ_ _=>hc,λ_ _=>hc⟩
 . intro main k cs w a w' es hk e _;rw[qqk]at e;cases e;rw[h main k cs w hk,seen_none]
 . intro main k cs w v w' es _ _ e;rw[qqk]at e;cases e
 . intro main k cs w x w' es _ e _;rw[qqk]at e;cases e
theorem qdb{fr':AE}(h:∀main k cs w,stepG C.P main (G (qG fr k) cs) w=.go (G (qG fr' k) cs) w #[])(hc:Clean C S (fr',fs)):Norm C S e (fr,fs):=
 qlr (st':=(fr',fs)) (λmain _ _ w _=>h main _ _ w) hc
theorem qf8(h:∀main k cs w,(e=false->k=noT)->∃o w₁ es₁,stepG C.P main (gor k cs st) w=.ended o w₁ es₁)(hc:Clean C S st):Norm C S e st:=by
 refine⟨Unit,stuck "",λ_=>True,λ_=>st,λ_=>st,0,true,⟨?_,?_,?_⟩,qad,λ_ _=>hc,λ_ _=>hc⟩
 . intro main k cs w a w' es _ e _;cases e
 . intro main k cs w v w' es _ _ e;cases e
 . intro main k cs w x w' es hk e _;exact h main k cs w hk
def q0p(P:AF)(fr:AE)(fs:List AE):Next->AE×List AE
 | .value v=>(fr.finish v,fs)
 | .skip=>(fr.finish undef,fs)
 | .enter f args=>(Bc P f args .normal,fr::fs)
 |_=>(fr,fs)
theorem q2e(H:je C S)(hX:FrE C S fr)(hfs:∀x,x∈fs->FrE C S x/\x.todo≠[]){s:Sem Next}(hs:qd C s (qn2 C))
   {ops:Array Oper}  {is:List Nat} {t:List Item} (hk:fr.todo=.inRegion ops (i::is)::t)
   (h:∀main k cs w,stepG C.P main (G (qG fr k) cs) w=Bz C.P true (qG fr k) cs none s w):Norm C S e (fr,fs):=by
 have hkind:∀k,((qG fr k).kind==CallKind.early)=false:=λk=>by show (fr.kind==CallKind.early)=false;rw[hX.kind];rfl
 have hne:fr.todo≠[]:=by rw[hk];exact λh=>by cases h
 refine⟨Next,s,qn2 C,q0p C.P fr fs,λv=>(fr.raise [{v,recovered:=false}],fs),fr.fn,true,⟨?_,?_,?_⟩,hs,λa ha=>?_,λv hv=>⟨FrE.raise hX (λe he=>?_),hfs⟩⟩
 . intro main k cs w a w' es _ e ha;unfold gor;dsimp only;rw[h];cases a with
   |value v=>simp only[Bz,e,hkind,Bh,q0p,if_true,Az,if_false,Am,qjn hne];rfl
   |skip=>simp only[Bz,e,hkind,Bh,q0p,if_true,Az,if_false,Am,qjn hne];rfl
   |enter f args=>
    simp only[Bz,e,hkind,Bh,q0p,if_true,Az,if_false,Am];rw[qlq,show below k (fr::fs)=noT from rfl,qt9];split
    . rename_i hk';rw[show (qG fr (below k fs)).todo=.inRegion ops (i::is)::(t++(below k fs).k)from by simp[qG,hk]]at hk';cases hk'
    . rfl
   |_=>exact ha.elim
 . intro main k cs w v w' es _ _ e;unfold gor;dsimp only;rw[h];simp only[Bz,e,hkind,Bh,if_true,Az,if_false,Am,qwe];rfl
 . intro main k cs w x w' es _ e hx;unfold gor;dsimp only;rw[h];replace hx:Fatal x:=hx.elim id (λy=>by cases y.1);cases x with
   |stuck y=>exact⟨_,_,_,by simp[Bz,e,hkind,Bh,-Bq];exact⟨rfl,rfl,rfl⟩⟩
   |unsupported y=>
    cases y with
    |initOrder g=>exact hx.elim
    |_=>exact⟨_,_,_,by simp[Bz,e,hkind,Bh,-Bq];exact⟨rfl,rfl,rfl⟩⟩
   |_=>exact hx.elim
 . cases a with
   |value v=>exact⟨FrE.finish hX ha,hfs⟩
   |skip=>exact⟨FrE.finish hX .undef,hfs⟩
   |enter f args=>
    obtain⟨h1,h2,fn,c,h3,h4⟩:=ha;refine⟨q0s H h1 h2 h3 h4,λx hx=>?_⟩;rcases BA.1 hx with rfl|hx
    . exact⟨hX,hne⟩
    . exact hfs x hx
   |_=>exact ha.elim
 . rw[List.mem_singleton]at he;subst he;exact hv
theorem qua(fr:AE)(k:zx)(x:Operand):(qG fr k).eval x=fr.eval x:=by cases x<;>rfl
theorem q4w(H:je C S)(hX:FrE C S fr)(hfs:∀x,x∈fs->FrE C S x/\x.todo≠[])(hm:fr.mode=.run):(fs=[]/\q4v e fr)∨Norm C S e (fr,fs):=by
 have hall:Clean C S (fr,fs):=⟨hX,hfs⟩;have hr:=hX.round;have ret:Clean C S ({fr with mode:=.returning},fs):=⟨jL.jR hX (λch e=>by cases e),hfs⟩;have to:∀k,(∀it,it∈k->qj4 C S (C.X fr.fn) it)->Clean C S ({fr with todo:=k},fs):=λk hk=>⟨jL.vD hX hk,hfs⟩;have ht:=hX.todo;cases hk:fr.todo with
 |nil=>
  cases fs with
  |nil=>
   cases e with
   |true=>exact .inl ⟨rfl,.inr ⟨rfl,.inl hk⟩⟩
   | false=>exact .inr (qlr (st':=({ fr with mode:=.returning },[])) (fun main κ cs w he=>by
       have:=he rfl;subst this;simp[gor,below,jS,qG,noT,G,stepG,By,hm,hk,hr]) ret)
  | cons f2 fs=>exact .inr (qlr (st':=({ fr with mode:=.returning },f2::fs)) (fun main κ cs w _=>by
      unfold gor;dsimp only;rw[qhe,qhe];simp[G,stepG,By,hm,hk,hr]) ret)
 |cons it k=>
  rw[hk]at ht;have h0:=ht it (by simp);have hkk:∀it,it∈k->qj4 C S (C.X fr.fn) it:=λx hx=>ht x (by simp[hx]);cases it with
  |code c=>
   cases c with
   |ret=>exact .inr (qdb (fr':={fr with mode:=.returning}) (λmain κ cs w=>by simp[G,stepG,By,qG,hm,hk,hr]) ret)
   |skip=>exact .inr (qdb (fr':={fr with todo:=k}) (λmain κ cs w=>by simp[G,stepG,By,qG,hm,hk]) (to k hkk))
   |label l=>exact .inr (qdb (fr':={fr with todo:=k}) (λmain κ cs w=>by simp[G,stepG,By,qG,hm,hk]) (to k hkk))
   |seq a b=>
    refine .inr (qdb (fr':={fr with todo:=.code a::.code b::k}) (λmain κ cs w=>by simp[G,stepG,By,qG,hm,hk]) (to _ (λx hx=>?_)));rcases BA.1 hx with rfl|hx
    . exact h0.1
    . rcases BA.1 hx with rfl|hx
      . exact h0.2
      . exact hkk x hx
   |cond c a b=>
    right;by_cases hb:∃t,fr.eval c=.bool t
    . obtain⟨t,ht⟩:=hb;refine qdb (fr':={fr with todo:=.code (if t then a else b)::k}) (λmain κ cs w=>?_) (to _ (λx hx=>?_))
      . have h':=(qua fr κ c).trans ht;simp only[qG,hk,hm,BB]at h';simp[G,stepG,By,qG,hm,hk,h']
      rcases BA.1 hx with rfl|hx
      . cases t
        . exact h0.2
        . exact h0.1
      . exact hkk x hx
    . refine qf8 (λmain κ cs w _=>?_) hall;have h':=qua fr (below κ fs) c;simp only[qG,hk,hm,BB]at h';cases hv:fr.eval c with
      |bool t=>exact absurd ⟨t,hv⟩ hb
      |_=>rw[hv]at h';exact⟨_,_,_,by simp[gor,G,stepG,By,qG,hm,hk,h'];exact⟨rfl,rfl,rfl⟩⟩
   |block id c=>
    refine .inr (qdb (fr':={fr with todo:=.code c::.inBlock id::k}) (λmain κ cs w=>by simp[G,stepG,By,qG,hm,hk]) (to _ (λx hx=>?_)));rcases BA.1 hx with rfl|hx
    . exact h0
    . rcases BA.1 hx with rfl|hx
      . trivial
      . exact hkk x hx
   |loop c=>
    refine .inr (qdb (fr':={fr with todo:=.code c::.inLoop c::k}) (λmain κ cs w=>by simp[G,stepG,By,qG,hm,hk]) (to _ (λx hx=>?_)));rcases BA.1 hx with rfl|hx
    . exact h0
    . rcases BA.1 hx with rfl|hx
      . exact h0
      . exact hkk x hx
   |scope c=>
    refine .inr (qdb (fr':={fr with todo:=.code c::.inScope c::k}) (λmain κ cs w=>by simp[G,stepG,By,qG,hm,hk]) (to _ (λx hx=>?_)));rcases BA.1 hx with rfl|hx
    . exact h0
    . rcases BA.1 hx with rfl|hx
      . exact h0
      . exact hkk x hx
   |exit id=>
    cases he:exitTo id k with
    |some k'=>exact .inr (qdb (fr':={fr with todo:=k'}) (λmain κ cs w=>by simp[G,stepG,By,qG,hm,hk,q7g k k' κ.k he]) (to _ (q46 k k' hkk he)))
    |none=>
     cases fs with
     |nil=>
      cases e with
      |true=>exact .inl ⟨rfl,.inr ⟨rfl,.inr (.inl ⟨id,k,hk,he⟩)⟩⟩
      | false=>exact .inr (qf8 (fun main κ cs w h0=>by
          have:=h0 rfl;subst this;exact⟨_,_,_,by simp[gor,below,jS,qG,noT,G,stepG,By,hm,hk,he,hr];exact⟨rfl,rfl,rfl⟩⟩) hall)
     | cons f2 fs=>exact .inr (qf8 (fun main κ cs w _=>by
         unfold gor;dsimp only;rw[qhe];exact⟨_,_,_,by simp[G,stepG,By,hm,hk,he,hr];exact⟨rfl,rfl,rfl⟩⟩) hall)
   |goto l=>
    cases he:gotoIn l k with
    |some k'=>exact .inr (qdb (fr':={fr with todo:=k'}) (λmain κ cs w=>by simp[G,stepG,By,qG,hm,hk,q7h k k' κ.k he]) (to _ (q47 k k' hkk he)))
    |none=>
     cases fs with
     |nil=>
      cases e with
      |true=>exact .inl ⟨rfl,.inr ⟨rfl,.inr (.inr ⟨l,k,hk,he⟩)⟩⟩
      | false=>exact .inr (qf8 (fun main κ cs w h0=>by
          have:=h0 rfl;subst this;exact⟨_,_,_,by simp[gor,below,jS,qG,noT,G,stepG,By,hm,hk,he,hr];exact⟨rfl,rfl,rfl⟩⟩) hall)
     | cons f2 fs=>exact .inr (qf8 (fun main κ cs w _=>by
         unfold gor;dsimp only;rw[qhe];exact⟨_,_,_,by simp[G,stepG,By,hm,hk,he,hr];exact⟨rfl,rfl,rfl⟩⟩) hall)
   |rangeFunc f ps a b=>exact h0.elim
   |refuse y=>exact .inr (qf8 (λmain κ cs w _=>⟨_,_,_,by simp[gor,G,stepG,By,qG,hm,hk];exact⟨rfl,rfl,rfl⟩⟩) hall)
   |region id ops draw=>
    right
    have qcX:∀is,Clean C S ({fr with todo:=.inRegion ops is::k},fs):=λis=>to _ (λx hx=>by
     rcases BA.1 hx with rfl|hx
     . exact h0
     . exact hkk x hx)
    cases draw with
    |false=>exact qdb (fr':={fr with todo:=.inRegion ops (List.range ops.size)::k}) (λmain κ cs w=>by simp[G,stepG,By,qG,hm,hk]) (qcX _)
    |true=>
     refine⟨Nat,choose (.order fr.fn id),λ_=>True,λt=>({fr with todo:=.inRegion ops (Region.schedule (C.P.follows .mixedOrders) ops t)::k},fs),λ_=>(fr,fs),0,true,⟨?_,?_,?_⟩,qc6 _,λ_ _=>qcX _,λ_ _=>hall⟩
     . intro main κ cs w a w' es _ e _;simp only[choose,Bs,Bm,Az,if_false,BR,Bp]at e;obtain⟨⟨rfl,rfl⟩,rfl⟩:=e;simp[gor,G,stepG,By,qG,hm,hk,choose,Br,Bm,seen_none]
     . intro main κ cs w v w' es _ _ e;simp[choose,Bs,Bm,-Bq]at e
     . intro main κ cs w x w' es _ e _;simp[choose,Bs,Bm,-Bq]at e
  |inBlock id=>exact .inr (qdb (fr':={fr with todo:=k}) (λmain κ cs w=>by simp[G,stepG,By,qG,hm,hk]) (to k hkk))
  |inScope c=>exact .inr (qdb (fr':={fr with todo:=k}) (λmain κ cs w=>by simp[G,stepG,By,qG,hm,hk]) (to k hkk))
  |inLoop c=>
   refine .inr (qdb (fr':={fr with todo:=.code c::.inLoop c::k}) (λmain κ cs w=>by simp[G,stepG,By,qG,hm,hk]) (to _ (λx hx=>?_)));rcases BA.1 hx with rfl|hx
   . exact h0
   . rcases BA.1 hx with rfl|hx
     . exact h0
     . exact hkk x hx
  |inRegion ops is=>
   right;cases is with
   |nil=>exact qdb (fr':={fr with todo:=k}) (λmain κ cs w=>by simp[G,stepG,By,qG,hm,hk]) (to k hkk)
   |cons i rest=>
    by_cases hw:((ops[i]?).map (Region.wanted · (yielded ops fr.tmps))).getD false=true
    . cases ho:ops[i]? with
      |none=>rw[ho]at hw;cases hw
      |some o=>
       have hoo:=h0 o (Array.mem_of_getElem? ho);rw[ho]at hw;refine q2e H hX hfs (s:=execOp fr.eval o) (qn3 H.xM (λx hx=>q48 hX (hoo.2 x hx)) hoo.1) hk (λmain κ cs w=>?_);have h':(qG fr κ).eval=fr.eval:=funext (qua fr κ);simp only[qG,hk,hm,hr,BB]at h';simp[G,stepG,By,stepG.oper,Frame.oper?,qG,hm,hk,ho,hr]at hw |-;simp[hw,h']
    . refine qdb (fr':=fr.finish undef) (λmain κ cs w=>?_) ⟨FrE.finish hX .undef,hfs⟩;rw[<-qjn (by rw[hk];exact λh=>by cases h)];simp[G,stepG,By,qG,hm,hk,hw]
  |_=>exact h0.elim
theorem q2f{α β:Type}{Q:β->Prop}{f:α->Sem β}(xs:Array α)(h:∀x,x∈xs->qd C (f x) Q):qd C (xs.mapM f) (λys=>∀y,y∈ys->Q y):=by
 rw[Array.mapM_eq_mapM_toList];refine qqm (Q:=λl:List β=>∀y,y∈l->Q y) ?_ (λl hl y hy=>hl y (by simpa using hy));have h':∀x,x∈xs.toList->qd C (f x) Q:=λx hx=>h x (by simpa using hx);generalize xs.toList=l at h'
 induction l with
 |nil=>rw[List.mapM_nil];exact qab (λy hy=>by cases hy)
 |cons x l ih=>
  rw[List.mapM_cons];refine qaa (h' x (by simp)) (λa ha=>qaa (ih (λy hy=>h' y (by simp[hy]))) (λb hb=>qab (λy hy=>?_)));rcases BA.1 hy with rfl|hy
  . exact ha
  . exact hb y hy
theorem q4x(h:jL C S X fr){t:Nat}(hx:¬X t):Ok C.A C.F (fr.tmps.getD t undef):=q48 h (x:=.tmp t) hx
theorem qhw(H:je C S)(h:jL C S X fr)(hf:C.P.funcs[fr.fn]?=some fn):qd C (results fn fr.tmps) (Ok C.A C.F):=by
 obtain⟨fn',h1,h2⟩:=h.fn;cases h1.symm.trans hf;unfold results;refine qaa (q2f _ (λr hr=>?_) (Q:=Ok C.A C.F)) (λvs hvs=>qab ?_)
 . have:=h2 r hr;cases r with
   |tmp t=>exact qab (q4x h this)
   |cell a t=>exact qaa (qfb H.xM.handle (q4x h this)) (λx hx=>qev hx)
 . split
   . exact hvs _ (Array.getElem_mem _)
   . exact .tuple hvs
theorem norm(H:je C S)(h:Clean C S (fr,fs)):(fs=[]/\q4v e fr)∨Norm C S e (fr,fs):=by
 obtain⟨hX,hfs⟩:=h;replace hX:FrE C S fr:=hX;replace hfs:∀x,x∈fs->FrE C S x/\x.todo≠[]:=hfs;by_cases hm:fr.mode=.run
 . exact q4w H hX hfs hm
 cases fs with
 |nil=>exact .inl ⟨rfl,.inl hm⟩
 |cons f2 fs=>
  right;have h2:=hfs f2 (by simp);have hf2:∀x,x∈fs->FrE C S x/\x.todo≠[]:=λx hx=>hfs x (by simp[hx]);obtain⟨fn,hf,_⟩:=hX.fn;have hd:=hX.defers
  have vT:∀k cs,gor k cs (fr,f2::fs)=G fr (qG f2 (below k fs)::(jS k fs++cs)):=λk cs=>by
   unfold gor;dsimp only;rw[qhe,qlq];rfl
  cases hmode:fr.mode with
  |run=>exact absurd hmode hm
  |panicking ch=>
   exact qlr (st':=(f2.raise ch,fs)) (λmain k cs w _=>by
    rw[vT];unfold gor;simp only[<-qwe];simp[G,stepG,unwind,hmode,hd,Be,hf]) ⟨h2.1.raise (hX.mode ch hmode),hf2⟩
  |returning=>
   have hk:=hX.kind;refine⟨AK,results fn fr.tmps,Ok C.A C.F,λv=>(f2.finish v,fs),λ_=>(f2,fs),fr.fn,false,⟨?_,?_,?_⟩,qhw H hX hf,λv hv=>⟨h2.1.finish hv,hf2⟩,λv hv=>⟨h2.1,hf2⟩⟩
   . intro main k cs w a w' es _ e _;rw[vT];unfold gor;simp only[<-qjn h2.2];simp only[Bq,BR]at e;simp[G,stepG,unwind,hmode,hd,hf,doReturn,hk,Bh,e.1,e.2]
   . intro main k cs w v w' es _ h0 e;cases h0
   . intro main k cs w x w' es _ e hx;rw[vT];simp only[Bq,BR]at e;cases x with
     |stuck y=>exact⟨_,_,_,by simp[G,stepG,unwind,hmode,hd,hf,Bh,e.1];exact⟨rfl,rfl,rfl⟩⟩
     |_=>exact⟨_,_,_,by simp[G,stepG,unwind,hmode,hd,hf,Bh,e.1];exact⟨rfl,rfl,rfl⟩⟩
end
def re(w:AD)(t:Nat->AG->Nat)(d:Nat):AD:={w with tape:=t,drawn:=d}
def zy{α:Type}(f:AD->AD):Result α->Result α
 | .ok a w=>.ok a (f w)
 | .halt h w=>.halt h (f w)
theorem q4y{α:Type}:∀(a:Ask α) (w:AD) (t:Nat->AG->Nat) (d:Nat),(∀i q,t (d+i) q=w.tape (w.drawn+i) q) ->
   (re w t d).ask a=((w.ask a).1,re (w.ask a).2 t (d+((w.ask a).2.drawn-w.drawn))):=by
 intro a
 induction a with
 |done a=>intro w t d _;simp[Bu,re]
 |ask what range k ih=>
  intro w t d h;simp only[Bu];split
  . exact ih _ w t d h
  . rename_i hf;have h0:(re w t d).tape (re w t d).drawn (.extern what range)=w.tape w.drawn (.extern what range):=h 0 _;rw[h0]
    have h1:=ih ((Bn what range).cut (w.tape w.drawn (.extern what range))) {w with drawn:=w.drawn+1} t (d+1) (λi q=>by
     have:=h (i+1) q;show t (d+1+i) q=w.tape (w.drawn+1+i) q;rw[show d+1+i=d+(i+1) by omega,show w.drawn+1+i=w.drawn+(i+1) by omega];exact this)
    have h2:=(q0q (k ((Bn what range).cut (w.tape w.drawn (.extern what range)))) {w with drawn:=w.drawn+1}).2;refine Eq.trans (show _=(re {w with drawn:=w.drawn+1} t (d+1)).ask _ from rfl) (h1.trans ?_);simp only[BR,true_and];congr 1;have h3:w.drawn+1<=(Bu {w with drawn:=w.drawn+1} (k ((Bn what range).cut (w.tape w.drawn (.extern what range))))).2.drawn:=h2;show d+1+(_-(w.drawn+1))=_;omega
theorem q4z(w:AD)(c:Sys)(t:Nat->AG->Nat)(d:Nat)(h:∀i q,t (d+i) q=w.tape (w.drawn+i) q) :
   (re w t d).sys c=((w.sys c).1,re (w.sys c).2 t (d+((w.sys c).2.drawn-w.drawn))):=by
 have h1:=q4y (Kernel.perform c w.os) w t d h;unfold World.sys;rw[show (re w t d).os=w.os from rfl,h1];generalize w.ask (Kernel.perform c w.os)=x;obtain⟨⟨r,os⟩,w'⟩:=x;cases r<;>first|rfl|simp[re]
theorem q2g(p:AF)(w:AD)(t:Nat->AG->Nat)(d:Nat)(a:Addr)(b:Bool):(re w t d).farLoad p a b=w.farLoad p a b:=rfl
theorem qwf(p:AF)(w:AD)(t:Nat->AG->Nat)(d:Nat)(at_:Addr)(u:AH)(a:Addr)(v:AK)(b:Bool) :
   (re w t d).viewStore p at_ u a v b=(w.viewStore p at_ u a v b).map (λx=>(re x.1 t d,x.2)):=by
 have hs:(re w t d).seen p at_ u a b=w.seen p at_ u a b:=rfl;unfold World.viewStore;rw[hs];simp only[bind,Except.bind,pure,Except.pure];split
 . rfl
 . split
   . rfl
   . split
     . split
       . rfl
       . split
         . rfl
         . rfl
     . rfl
theorem qyw(p:AF)(w:AD)(t:Nat->AG->Nat)(d:Nat)(a:Addr)(v:AK)(b:Bool) :
   (re w t d).farStore p a v b=(w.farStore p a v b).map (λx=>(re x.1 t d,x.2)):=by
 unfold World.farStore;rw[show (re w t d).heap=w.heap from rfl];cases w.heap[a.block]? with
 |none=>rfl
 |some o=>
  cases o with
  |view at_ u=>
   dsimp only;rw[qwf];cases w.viewStore p at_ u a v b<;>rfl
  |_=>rfl
theorem qi2{α:Type}(p:AF):∀(s:Sem α) (w:AD) (t:Nat->AG->Nat) (d:Nat),(∀i q,t (d+i) q=w.tape (w.drawn+i) q) ->
   s.run p (re w t d)=zy (λv=>re v t (d+(v.drawn-w.drawn))) (s.run p w):=by
 intro s
 induction s with
 |pure a=>intro w t d _;simp[Br,zy,re]
 |load m a k ih=>
  intro w t d h;simp only[Br];rw[show (re w t d).cell? a=w.cell? a from rfl,q2g];cases w.cell? a with
  |some v=>exact ih v w t d h
  |none=>
   cases w.farLoad p a (m == .atomic)with
   |ok r=>exact ih r.1 w t d h
   |error e=>simp[zy]
 |store m a v k ih=>
  intro w t d h
  have key:(match (re w t d).cell? a with
      |some _=>if (re w t d).frozen? a then .halt (.unsupported (.unsafePointer "a write to bytes that a string shares")) (re w t d)else k.run p ((re w t d).setCell a v)
      |none=>match (re w t d).farStore p a v (m == .atomic)with
       | .ok (w,_)=>k.run p w
       | .error h=>.halt h (re w t d))=zy (λv=>re v t (d+(v.drawn-w.drawn))) (match w.cell? a with
      |some _=>if w.frozen? a then .halt (.unsupported (.unsafePointer "a write to bytes that a string shares")) w else k.run p (w.setCell a v)
      |none=>match w.farStore p a v (m == .atomic)with
       | .ok (w,_)=>k.run p w
       | .error h=>.halt h w):=by
   rw[show (re w t d).cell? a=w.cell? a from rfl,show (re w t d).frozen? a=w.frozen? a from rfl,qyw];cases w.cell? a with
   |some x=>
    dsimp only;split
    . simp[zy]
    . exact ih (w.setCell a v) t d h
   |none=>
    cases hf:w.farStore p a v (m == .atomic)with
    |ok r=>
     obtain⟨w2,l⟩:=r;have h1:=qls hf;have:=ih w2 t d (λi q=>by rw[h1.1,h1.2];exact h i q);rw[h1.2]at this;exact this
    |error e=>simp[Except.map,zy]
  cases v<;>first|exact key|simp[Br,zy]
 |new o k ih=>intro w t d h;exact ih _ {w with heap:=w.heap.push o} t d h
 |shape r k ih=>intro w t d h;exact ih _ w t d h
 |freeze a n k ih=>
  intro w t d h;have h1:(w.freeze a n).tape=w.tape/\(w.freeze a n).drawn=w.drawn:=by unfold Bv;split<;>exact⟨rfl,rfl⟩
  have h2:(re w t d).freeze a n=re (w.freeze a n) t d:=by unfold Bv;split<;>rfl
  have:=ih (w.freeze a n) t d (λi q=>by rw[h1.1,h1.2];exact h i q);rw[h1.2]at this;simp only[Br,h2];exact this
 |frozen a k ih=>intro w t d h;exact ih _ w t d h
 |getObj r k ih=>
  intro w t d h;simp only[Br];rw[show (re w t d).heap=w.heap from rfl];cases w.heap[r]? with
  |none=>simp[zy]
  |some o=>cases o<;>first|(simp[zy];done)|exact ih _ w t d h
 |setObj r o k ih=>
  intro w t d h;simp only[Br];rw[show (re w t d).heap=w.heap from rfl];cases w.heap[r]? with
  |none=>simp[zy]
  |some x=>cases x<;>first|(simp[zy];done)|exact ih {w with heap:=w.heap.setIfInBounds r o} t d h
 |choose q k ih=>
  intro w t d h;simp only[Br];split
  . exact ih 0 w t d h
  . have h0:(re w t d).tape (re w t d).drawn q=w.tape w.drawn q:=h 0 q;rw[h0]
    have h1:=ih (q.cut (w.tape w.drawn q)) {w with drawn:=w.drawn+1} t (d+1) (λi q=>by
     have:=h (i+1) q;show t (d+1+i) q=w.tape (w.drawn+1+i) q;rw[show d+1+i=d+(i+1) by omega,show w.drawn+1+i=w.drawn+(i+1) by omega];exact this)
    have h2:=(qjo p (k (q.cut (w.tape w.drawn q))) {w with drawn:=w.drawn+1}).2;refine Eq.trans (show _=(k (q.cut (w.tape w.drawn q))).run p (re {w with drawn:=w.drawn+1} t (d+1))from rfl) (h1.trans ?_);cases hr:(k (q.cut (w.tape w.drawn q))).run p {w with drawn:=w.drawn+1}with
    |ok a v=>
     rw[hr]at h2;have h3:w.drawn+1<=v.drawn:=h2;simp only[zy,Bp,true_and];congr 1;omega
    |halt x v=>
     rw[hr]at h2;have h3:w.drawn+1<=v.drawn:=h2;simp only[zy,Bo,true_and];congr 1;omega
 |sys c k ih=>
  intro w t d h;have h1:=q4z w c t d h;have h2:=q0r w c;simp only[Br,h1]
  have h3:=ih (w.sys c).1 (w.sys c).2 t (d+((w.sys c).2.drawn-w.drawn)) (λi q=>by
   rw[h2.1,show d+((w.sys c).2.drawn-w.drawn)+i=d+(((w.sys c).2.drawn-w.drawn)+i) by omega,h];congr 1;have:=h2.2;omega)
  refine h3.trans ?_;have h4:=(qjo p (k (w.sys c).1) (w.sys c).2).2;have h5:=h2.2;cases hr:(k (w.sys c).1).run p (w.sys c).2 with
  |ok a v=>
   rw[hr]at h4;have h6:(w.sys c).2.drawn<=v.drawn:=h4;simp only[zy,Bp,true_and];congr 1;omega
  |halt x v=>
   rw[hr]at h4;have h6:(w.sys c).2.drawn<=v.drawn:=h4;simp only[zy,Bo,true_and];congr 1;omega
 |program k ih=>intro w t d h;exact ih _ w t d h
 |mark m k ih=>intro w t d h;exact ih w t d h
 |halt x=>intro w t d _;simp[Br,zy,re]
section
variable {C:Pen}{S:List String}{e:Bool}
theorem Rel.jB(h:Rel C w u):Rel C u u:=
 ⟨rfl,rfl,by have:=h.room;rw[h.size]at this;exact this,λr hp=>by
  obtain⟨c',c,e,fr,h1,h2,h3,h4,h5,h6⟩:=h.part r hp;exact⟨c',c',e,(0,0),h1,h1,BG _,h4,λi v hv=>⟨hv,λhA=>⟨((h5 i v hv).2 hA).1,by omega⟩⟩,.inl rfl,h6.2⟩,λ_ _ _=>rfl,h.cln,h.chn,rfl⟩
theorem Rel.vE(h:Rel C w u)(t:Nat->AG->Nat):Rel C (re w t w.drawn) u:=⟨h.size,h.os,h.room,h.part,h.same,h.cln,h.chn,h.drawn⟩
theorem Rel.zR(h:Rel C w u)(t:Nat->AG->Nat):Rel C w (re u t u.drawn):=⟨h.size,h.os,h.room,h.part,h.same,h.cln,h.chn,h.drawn⟩
theorem Rel.at(h:Rel C w u)(d:Nat):Rel C (w.at d) (u.at d):=⟨h.size,h.os,h.room,h.part,h.same,h.cln,h.chn,rfl⟩
theorem q7i{u' v t d}(h1:v.heap=u'.heap)(h2:v.tape=t)(h3:v.drawn=d)(h4:v.os=u'.os)(h5:v.output=u'.output):v=re u' t d:=by
 cases v;cases u';simp only[re]at *;subst h1 h2 h3 h4 h5;rfl
theorem qwg{e1 e2:Array AL}(k1:Kept C u u' e1)(k2:Kept C (re u t u.drawn) v e2)(r1:Rel C v u')(r2:Rel C u' v):v=re u' t u'.drawn:=by
 refine q7i ?_ (by rw[k2.tape];rfl) r1.drawn (by rw[k2.os,k1.os];rfl) (by rw[k2.output,k1.output];rfl);apply At;intro r;by_cases hA:C.B r/\¬C.Z r/\¬C.Ch r
 . obtain⟨hB,hZ,hC⟩:=hA;by_cases hp:C.Pt r
   . obtain⟨c',c,e,fr,h1,h2,h3,_,h5,_⟩:=r1.part r hp;obtain⟨d',d,e2,fr2,k1,k2,k3,_,_,_⟩:=r2.part r hp;rw[h2]at k1;rw[h1]at k2;cases k1;cases k2;rw[h1,h2];congr 2;apply At;intro i;by_cases hi:i<c'.size
     . rw[(h5 i _ (Ai hi)).1,Ai hi]
     . rw[As (by omega),As (by omega)]
   . exact r1.same r hB hp
 . have hA':¬ C.B r∨C.Z r∨C.Ch r:=by
    by_cases h1:C.B r
    . by_cases h2:C.Z r
      . exact .inr (.inl h2)
      . by_cases h3:C.Ch r
        . exact .inr (.inr h3)
        . exact absurd ⟨h1,h2,h3⟩ hA
    . exact .inl h1
   rw[k2.block r hA',k1.block r hA'];rfl
theorem qyx{α:Type}{s:Sem α}{Q:α->Prop}(hs:qd C s Q)(hu:Rel C u u){a:α}(e:s.run C.P u=.ok a u')(t:Nat->AG->Nat)(ht:Same (re u t u.drawn) u u.drawn u'.drawn) :
   s.run C.P (re u t u.drawn)=.ok a (re u' t u'.drawn):=by
 have h0:=hs u u #[] hu (λ_ _ _ _=>rfl);rw[e]at h0;obtain⟨u2,e0,h1,h2,k0,_⟩:=h0;rw[Bq,e]at h1;have hu2:u'=u2:=by simp only[BR,Bp,true_and]at h1;exact h1.1
 subst hu2;have h:=hs (re u t u.drawn) u #[] (hu.vE t) (by rw[e];exact ht);rw[e]at h;obtain⟨v,e1,h3,h4,k1,_⟩:=h;have h5:s.run C.P (re u t u.drawn)=.ok a v:=by rw[Bq]at h3;exact(BS h3).1
 have h6:=hs u (re u t u.drawn) #[] (hu.zR t) (by
  rw[h5];intro k q i1 i2;have:v.drawn=u'.drawn:=h4.drawn;exact(ht k q i1 (by rw[<-this];exact i2)).symm)
 rw[h5]at h6;obtain⟨u3,e2,h7,h8,_,_⟩:=h6;have h9:s.run C.P u=.ok a u3:=by rw[Bq]at h7;exact(BS h7).1
 rw[e]at h9;cases h9;rw[h5,qwg k0 k1 h4 h8]
theorem q2h{α:Type}{s:Sem α}{Q:α->Prop}(hs:qd C s Q)(hu:Rel C u u){a:AK}(e:s.run C.P u=.halt (.panic a) u')(t:Nat->AG->Nat)(ht:Same (re u t u.drawn) u u.drawn u'.drawn) :
   s.run C.P (re u t u.drawn)=.halt (.panic a) (re u' t u'.drawn):=by
 have h0:=hs u u #[] hu (λ_ _ _ _=>rfl);rw[e]at h0;obtain⟨u2,e0,h1,h2,k0,_⟩:=h0;rw[Bq,e]at h1;have hu2:u'=u2:=by simp only[BR,Bo,true_and]at h1;exact h1.1
 subst hu2;have h:=hs (re u t u.drawn) u #[] (hu.vE t) (by rw[e];exact ht);rw[e]at h;obtain⟨v,e1,h3,h4,k1,_⟩:=h;have h5:s.run C.P (re u t u.drawn)=.halt (.panic a) v:=by rw[Bq]at h3;exact(BS h3).1
 have h6:=hs u (re u t u.drawn) #[] (hu.zR t) (by
  rw[h5];intro k q i1 i2;have:v.drawn=u'.drawn:=h4.drawn;exact(ht k q i1 (by rw[<-this];exact i2)).symm)
 rw[h5]at h6;obtain⟨u3,e2,h7,h8,_,_⟩:=h6;have h9:s.run C.P u=.halt (.panic a) u3:=by rw[Bq]at h7;exact(BS h7).1
 rw[e]at h9;cases h9;rw[h5,qwg k0 k1 h4 h8]
structure yN(P:AF)(e:Bool)(st:AE×List AE)(v:AD)(st':AE×List AE)(v':AD):Prop where
 le:v.drawn<=v'.drawn
 go:∀t p,(∀i q,i<v'.drawn-v.drawn->t (p+i) q=v.tape (v.drawn+i) q)->∀main k cs,(e=false->k=noT)->∃es,stepG P main (gor k cs st) (re v t p)=.go (gor k cs st') (re v' t (p+(v'.drawn-v.drawn))) es
def qcY(P:AF)(e:Bool)(st:AE×List AE)(v:AD):Prop:=∀t p,(∀i q,t (p+i) q=v.tape (v.drawn+i) q)->∀main k cs,(e=false->k=noT)->∃o w es,stepG P main (gor k cs st) (re v t p)=.ended o w es
theorem qi3(h:Kept C w w' es)(fn:AJ):Kept C w w' (seen C.P fn es):=⟨h.block,h.size,h.os,h.output,h.tape,h.drawn,λe he=>h.evs e (mem_seen he),h.tail⟩
theorem qtb(v:AD)(t:Nat->AG->Nat)(p n:Nat)(h:∀i q,i<n->t (p+i) q=v.tape (v.drawn+i) q) :
   ∃t2:Nat->AG->Nat,Same (re v t2 v.drawn) v v.drawn (v.drawn+n)/\∀i q,t (p+i) q=t2 (v.drawn+i) q:=
 ⟨λj=>t (p+(j-v.drawn)),λk q h1 h2=>by
  show t (p+(k-v.drawn)) q=v.tape k q;rw[h _ q (by omega)];congr 1;omega,λi q=>by show t (p+i) q=t (p+(v.drawn+i-v.drawn)) q;congr 2;omega⟩
theorem adv(H:je C S)(h:Clean C S (fr,fs))(hr:Rel C w u)(ht:u.tape=w.tape) :
   (fs=[]/\q4v e fr)∨qcY C.P e (fr,fs) u∨∃st' w' u' es,(∀main k cs,(e=false->k=noT)->stepG C.P main (gor k cs (fr,fs)) w=.go (gor k cs st') w' es)/\Kept C w w' es/\Rel C w' u'/\u'.tape=w'.tape/\Clean C S st'/\yN C.P e (fr,fs) u st' u':=by
 rcases norm (e:=e) H h with h|⟨α,s,Q,g1,g2,fn,pan,hb,hs,h1,h2⟩
 . exact .inl h
 . right;have hk:=hs w u #[] hr (λk q _ _=>by rw[ht]);have htp:=qjo C.P s u;cases er:s.run C.P u with
   |ok a u'=>
    rw[er]at hk htp;obtain⟨w',new,e1,r1,k1,q1⟩:=hk;right;refine⟨g1 a,w',u',seen C.P fn (#[]++new),λmain k cs h0=>hb.ok main k cs w a w' _ h0 e1 q1,qi3 (by simpa using k1) _,r1,?_,h1 a q1,htp.2,λt p hp main k cs h0=>?_⟩
    . rw[k1.tape,<-ht];exact htp.1
    . obtain⟨t2,hs2,hsh⟩:=qtb u t p _ hp;have e2:=qyx hs hr.jB er t2 (λk q i1 i2=>hs2 k q i1 (by omega));have e3:=qi2 C.P s (re u t2 u.drawn) t p hsh;rw[e2]at e3;exact⟨_,hb.ok main k cs (re u t p) a (re u' t (p+(u'.drawn-u.drawn))) _ h0 (by rw[Bq];exact Prod.ext e3 rfl) q1⟩
   |halt x u'=>
    rw[er]at hk htp;by_cases hx:(∃v,x=.panic v)/\pan=true
    . obtain⟨⟨v,rfl⟩,qcZ⟩:=hx;obtain⟨w',new,e1,r1,k1,q1⟩:=hk;right;refine⟨g2 v,w',u',seen C.P fn (#[]++new),λmain k cs h0=>hb.panic main k cs w v w' _ h0 qcZ e1,qi3 (by simpa using k1) _,r1,?_,h2 v q1,htp.2,λt p hp main k cs h0=>?_⟩
      . rw[k1.tape,<-ht];exact htp.1
      . obtain⟨t2,hs2,hsh⟩:=qtb u t p _ hp;have e2:=q2h hs hr.jB er t2 (λk q i1 i2=>hs2 k q i1 (by omega));have e3:=qi2 C.P s (re u t2 u.drawn) t p hsh;rw[e2]at e3;exact⟨_,hb.panic main k cs (re u t p) v (re u' t (p+(u'.drawn-u.drawn))) _ h0 qcZ (by rw[Bq];exact Prod.ext e3 rfl)⟩
    . left;intro t p hp main k cs h0
      have hf:Fatal x∨(pan=false/\∃v,x=.panic v):=by
       cases x with
       |panic v=>exact .inr ⟨by cases pan with
        |false=>rfl
        |true=>exact absurd ⟨⟨v,rfl⟩,rfl⟩ hx,v,rfl⟩
       |_=>exact .inl hk
      have e3:=qi2 C.P s u t p hp;rw[er]at e3;exact hb.fatal main k cs (re u t p) x _ _ h0 (by rw[Bq];exact Prod.ext e3 rfl) hf
end
def jj(c:Nat->Nat):Nat->Nat
 |0=>0
 |n+1=>jj c n+c n
theorem qwh(c:Nat->Nat)(h:n<=m):jj c n<=jj c m:=by
 induction m with
 | zero => have : n = 0 := by omega
           rw[this];exact BG _
 |succ m ih=>
  by_cases e:n=m+1
  . rw[e];exact BG _
  . exact BI (ih (by omega)) (BK _ _)
theorem q7j(c:Nat->Nat)(hi:i<c n)(hj:j<c m)(h:jj c n+i=jj c m+j):n=m/\i=j:=by
 have key:∀{n m i j:Nat},i<c n->j<c m->jj c n+i=jj c m+j->¬n<m:=λ{n m i j} hi _ h hlt=>by
  have h1:jj c n+c n<=jj c m:=qwh c (n:=n+1) hlt;omega
 have:n=m:=by
  have h1:=key hi hj h;have h2:=key hj hi h.symm;omega
 subst this;exact⟨rfl,by omega⟩
open Classical in
theorem concat{β:Type}(b:β)(c:Nat->Nat)(f:Nat->Nat->β):∃t:Nat->β,∀n i,i<c n->t (jj c n+i)=f n i:=by
 refine⟨λj=>if h:∃x:Nat×Nat,x.2<c x.1/\jj c x.1+x.2=j then f h.choose.1 h.choose.2 else b,λn i hi=>?_⟩;have h:∃x:Nat×Nat,x.2<c x.1/\jj c x.1+x.2=jj c n+i:=⟨(n,i),hi,rfl⟩;show (if h:∃x:Nat×Nat,x.2<c x.1/\jj c x.1+x.2=jj c n+i then f h.choose.1 h.choose.2 else b)=f n i;rw[dif_pos h];obtain⟨h1,h2⟩:=q7j c h.choose_spec.1 hi h.choose_spec.2;rw[h1,h2]
def zA:List Item:=[.code (.refuse "")]
def qc0(e:Bool):zx:=⟨if e then zA else [],[]⟩
def qU:AE:={(default:AE)with todo:=zA,defers:=[{target:=.nil,args:=#[]}],mode:=.run,kind:=.normal,roundOf:=none}
section
variable {C:Pen}{S:List String}
theorem qce(hs:g.status=.running)(h:stepG P true g w=.ended o w' es):step P (solo g w)=.ended o w':=by
 obtain⟨fr,cs,st,dy,of⟩:=g;rw[step,stepT_solo hs];simp[runT,solo,Array.swapAt!,Array.swapAt,h,GStep.es]
theorem runN_ended{m m':Machine}(h:step P m=.ended o w)(h':runN P (n+1) m=.next m'):False:=by
 simp[runN,h]at h'
theorem qwi{m m₁ m':Machine}(h:step P m=.next m₁)(h':runN P (n+1) m=.next m'):runN P n m₁=.next m':=by
 simpa[runN,h]using h'
theorem qub(h:solo g w=solo g' w'):g=g'/\w=w':=by
 simp only[solo,Machine.mk.injEq,Array.mk.injEq,List.cons.injEq,and_true]at h;exact⟨h.2,h.1⟩
theorem q2i{id:Nat}:∀(t:List Item),exitTo id t=none->exitTo id (t++zA)=none:=by
 intro t
 induction t with
 |nil=>intro _;rfl
 |cons x t ih=>
  intro e;cases x with
  |inBlock id'=>
   simp only[exitTo,BB]at e |-;split at e
   . cases e
   . rename_i h;rw[if_neg h];exact ih e
  |_=>simp only[exitTo,BB]at e |-;exact ih e
theorem q2j{l:Nat}:∀(t:List Item),gotoIn l t=none->gotoIn l (t++zA)=none:=by
 intro t
 induction t with
 |nil=>intro _;rfl
 |cons x t ih=>
  intro e;cases x with
  |inScope body=>
   simp only[gotoIn,BB]at e |-;split at e
   . cases e
   . exact ih e
  |_=>simp only[gotoIn,BB]at e |-;exact ih e
theorem vV{e:Bool}(hf:FrE C S fr)(ho:q4v e fr)(h:runN C.P (n+1) (solo (gor (qc0 e) [qU] (fr,[])) w)=.next (solo g v)):g.callers=[]:=by
 have hX:=hf;obtain⟨fn,hfn,_⟩:=hX.fn;have hd:=hX.defers;have hr:=hX.round;have hk:=hX.kind
 have gone:∀(f:AE) (w':AD),(f=qU∨∃ch,f=qU.raise ch)->(∀g v,runN C.P n (solo (G f []) w')=.next (solo g v)->g.callers=[]):=by
  intro f w' hf g v h;cases n with
  |zero=>
   have:solo (G f []) w'=solo g v:=by simpa[runN]using h
   rw[<-(qub this).1];rfl
  |succ n=>
   rcases hf with rfl|⟨ch,rfl⟩
   . exact(runN_ended (qce rfl (show stepG C.P true (G qU []) w'=.ended _ w' #[]from by simp[G,stepG,By,qU,zA];rfl)) h).elim
   . exact(runN_ended (qce rfl (show stepG C.P true (G (qU.raise ch) []) w'=.ended _ w' #[]from by simp[G,stepG,Bg,qU,unwind,callDeferred];rfl)) h).elim
 by_cases hm:fr.mode=.run
 . exfalso;rcases ho with h1|⟨rfl,h1|⟨id,t,h1,h2⟩|⟨l,t,h1,h2⟩⟩
   . exact h1 hm
   . exact runN_ended (qce rfl (show stepG C.P true (gor (qc0 true) [qU] (fr,[])) w=.ended _ w #[]from by simp[gor,qc0,below,jS,qG,G,stepG,By,hm,h1,zA];rfl)) h
   . have h3:=q2i t h2;simp only[zA]at h3;exact runN_ended (qce rfl (show stepG C.P true (gor (qc0 true) [qU] (fr,[])) w=.ended _ w #[]from by simp[gor,qc0,below,jS,qG,G,stepG,By,hm,h1,zA,h3,hr];rfl)) h
   . have h3:=q2j t h2;simp only[zA]at h3;exact runN_ended (qce rfl (show stepG C.P true (gor (qc0 true) [qU] (fr,[])) w=.ended _ w #[]from by simp[gor,qc0,below,jS,qG,G,stepG,By,hm,h1,zA,h3,hr];rfl)) h
 . cases hmode:fr.mode with
   |run=>exact absurd hmode hm
   |panicking ch=>
    have h1:stepG C.P true (gor (qc0 e) [qU] (fr,[])) w=.go (G (qU.raise ch) []) w #[]:=by simp[gor,qc0,below,jS,qG,G,stepG,unwind,hmode,hd,Be,hfn]
    exact gone _ w (.inr ⟨ch,rfl⟩) g v (qwi (step_solo_go rfl h1) h)
   |returning=>
    cases hrun:(results fn fr.tmps).run C.P w with
    |ok a w'=>
     have h1:stepG C.P true (gor (qc0 e) [qU] (fr,[])) w=.go (G qU []) w' (seen C.P fr.fn ((results fn fr.tmps).events C.P w #[])):=by
      have hfin:qU.finish a=qU:=rfl;simp[gor,qc0,below,jS,qG,G,stepG,unwind,hmode,hd,hfn,doReturn,hk,hrun,Bh,hfin]
     exact gone _ w' (.inl rfl) g v (qwi (step_solo_go rfl h1) h)
    |halt x w'=>
     exfalso;cases x with
     |stuck y=>exact runN_ended (qce rfl (show stepG C.P true (gor (qc0 e) [qU] (fr,[])) w=.ended _ w' _ from by simp[gor,qc0,below,jS,qG,G,stepG,unwind,hmode,hd,hfn,hrun,Bh];exact⟨rfl,rfl⟩)) h
     |_=>exact runN_ended (qce rfl (show stepG C.P true (gor (qc0 e) [qU] (fr,[])) w=.ended _ w' _ from by simp[gor,qc0,below,jS,qG,G,stepG,unwind,hmode,hd,hfn,hrun,Bh];exact⟨rfl,rfl⟩)) h
end
def Lone(C:Pen)(S:List String)(main:Bool)(k:zx)(cs:List AE)(Stop:AE×List AE->AD->AD->Prop)(st:AE×List AE)(w u:AD):Prop:=
 ∀X:AE×List AE->AD->AD->Prop,(∀st w u,Stop st w u->X st w u) ->
  (∀st w u,(∀d,∃st' w' u' es,stepG C.P main (gor k cs st) (w.at d)=.go (gor k cs st') w' es/\Kept C (w.at d) w' es/\Rel C w' u'/\u'.tape=w'.tape/\Clean C S st'/\X st' w' u')->X st w u)->X st w u
theorem Lone.stop{main:Bool}{k:zx}{Stop:AE×List AE->AD->AD->Prop}(h:Stop st w u):Lone C S main k cs Stop st w u:=
 λ_ hs _=>hs _ _ _ h
theorem Lone.step{main:Bool}{k:zx}{Stop:AE×List AE->AD->AD->Prop}
   (h:∀d,∃st' w' u' es,stepG C.P main (gor k cs st) (w.at d)=.go (gor k cs st') w' es/\Kept C (w.at d) w' es/\Rel C w' u'/\u'.tape=w'.tape/\Clean C S st'/\Lone C S main k cs Stop st' w' u'):Lone C S main k cs Stop st w u:=
 λX hs hX=>hX _ _ _ (λd=>by
  obtain⟨st',w',u',es,h1,h2,h3,h4,h5,h6⟩:=h d;exact⟨st',w',u',es,h1,h2,h3,h4,h5,h6 X hs hX⟩)
section
variable {C:Pen}{S:List String}{e:Bool}
structure Both(C:Pen)(w u:AD):Prop where
 rel:Rel C w u
 tape:u.tape=w.tape
theorem Both.at(h:Both C w u)(d:Nat):Both C (w.at d) (u.at d):=⟨h.rel.at d,h.tape⟩
structure Bad(C:Pen)(S:List String)(main:Bool)(k:zx)(cs:List AE)(Stop:AE×List AE->AD->AD->Prop) where
 st:AE×List AE
 w:AD
 u:AD
 clean:Clean C S st
 both:Both C w u
 bad:¬Lone C S main k cs Stop st w u
variable {main:Bool}{k:zx}{cs:List AE}{Stop:AE×List AE->AD->AD->Prop}
def vF(e:Bool)(x:Bad C S main k cs Stop)(y:Bad C S main k cs Stop×Nat):Prop:=yN C.P e x.st (x.u.at y.2) y.1.st y.1.u/\y.1.u.tape=x.u.tape
theorem q7k(H:je C S)(hk:e=false->k=noT)(x:Bad C S main k cs Stop):(∃y,vF e x y)∨(x.st.2=[]/\q4v e x.st.1)∨∃d,qcY C.P e x.st (x.u.at d):=by
 have hd:∃d,¬∃st' w' u' es,stepG C.P main (gor k cs x.st) (x.w.at d)=.go (gor k cs st') w' es/\Kept C (x.w.at d) w' es/\Rel C w' u'/\u'.tape=w'.tape/\Clean C S st'/\Lone C S main k cs Stop st' w' u':=
  AA (λhn=>x.bad (.step (λd=>AA (λh=>hn ⟨d,h⟩))))
 obtain⟨d,hd⟩:=hd;rcases adv (e:=e) H x.clean (x.both.at d).rel (x.both.at d).tape with h|h|⟨st',w',u',es,h1,h2,h3,h4,h5,h6⟩
 . exact .inr (.inl h)
 . exact .inr (.inr ⟨d,h⟩)
 . refine .inl ⟨(⟨st',w',u',h5,⟨h3,h4⟩,λhl=>hd ⟨st',w',u',es,h1 main k cs hk,h2,h3,h4,h5,hl⟩⟩,d),h6,?_⟩;show u'.tape=x.u.tape;rw[h4,h2.tape];exact x.both.tape.symm
open Classical in
noncomputable def qi4(e:Bool)(x:Bad C S main k cs Stop):Bad C S main k cs Stop×Nat:=if h:∃y,vF e x y then h.choose else (x,0)
theorem qns{x:Bad C S main k cs Stop}(h:∃y,vF e x y):vF e x (qi4 e x):=by
 unfold qi4;rw[dif_pos h];exact h.choose_spec
noncomputable def qcl(e:Bool)(x:Bad C S main k cs Stop):Nat->Bad C S main k cs Stop
 |0=>x
 |n+1=>(qi4 e (qcl e x n)).1
noncomputable def used(e:Bool)(x:Bad C S main k cs Stop)(n:Nat):Nat:=(qcl e x (n+1)).u.drawn-(qi4 e (qcl e x n)).2
theorem q7l{x:Bad C S main k cs Stop}:∀n,(∀m,m<n->∃y,vF e (qcl e x m) y)->(qcl e x n).u.tape=x.u.tape:=by
 intro n
 induction n with
 |zero=>intro _;rfl
 |succ n ih=>intro h;exact(qns (h n (BJ n))).2.trans (ih (λm hm=>h m (by omega)))
theorem qyy{x:Bad C S main k cs Stop}(t:Nat->AG->Nat):∀n,(∀m,m<n->∃y,vF e (qcl e x m) y) ->
   (∀m,m<n->∀i,i<used e x m->t (jj (used e x) m+i)=x.u.tape ((qi4 e (qcl e x m)).2+i)) ->
   runN C.P n (solo (gor (qc0 e) [qU] x.st) (re x.u t 0))=.next (solo (gor (qc0 e) [qU] (qcl e x n).st) (re (qcl e x n).u t (jj (used e x) n))):=by
 intro n
 induction n with
 |zero=>intro _ _;rfl
 |succ n ih=>
  intro h ht;have h0:=ih (λm hm=>h m (by omega)) (λm hm=>ht m (by omega));rw[runN_add,h0];have h1:=(qns (h n (BJ n))).1;have h2:=q7l n (λm hm=>h m (by omega));have hk0:e=false->qc0 e=noT:=λh=>by rw[h];rfl
  obtain⟨es,h3⟩:=h1.go t (jj (used e x) n) (λi q hi=>by
   have:=ht n (BJ n) i hi;show t (jj (used e x) n+i) q=(qcl e x n).u.tape ((qi4 e (qcl e x n)).2+i) q;rw[this,h2]) true (qc0 e) [qU] hk0
  have h4:=step_solo_go rfl h3;show runN C.P 1 (solo (gor (qc0 e) [qU] (qcl e x n).st) (re (qcl e x n).u t (jj (used e x) n)))=_;have h4':step C.P (solo (gor (qc0 e) [qU] (qcl e x n).st) (re (qcl e x n).u t (jj (used e x) n)))=.next (solo (gor (qc0 e) [qU] (qcl e x (n+1)).st) (re (qcl e x (n+1)).u t (jj (used e x) (n+1)))):=h4;simp only[runN,h4']
theorem lift(H:je C S)(hk:e=false->k=noT){zB:AB->AD->Prop}(hS:∀g v,zB g v->g.callers≠[])(hc:Clean C S st)(hb:Both C w u)
   (h:∀t,∃g v,Steps C.P (solo (gor (qc0 e) [qU] st) (re u t 0)) (solo g v)/\zB g v) :
   Lone C S main k cs (λst' w' u'=>Clean C S st'/\Both C w' u'/\∃t d,zB (gor (qc0 e) [qU] st') (re u' t d)) st w u:=by
 refine AA (λhn=>?_)
 let x:Bad C S main k cs (λst' w' u'=>Clean C S st'/\Both C w' u'/\∃t d,zB (gor (qc0 e) [qU] st') (re u' t d)):=⟨st,w,u,hc,hb,hn⟩
 have vG:∀y:Bad C S main k cs (λst' w' u'=>Clean C S st'/\Both C w' u'/\∃t d,zB (gor (qc0 e) [qU] st') (re u' t d)),∀t d,¬zB (gor (qc0 e) [qU] y.st) (re y.u t d):=
  λy t d hs=>y.bad (.stop ⟨y.clean,y.both,t,d,hs⟩)
 obtain⟨tC,hC⟩:=concat (λ_=>0) (used e x) (λn i=>x.u.tape ((qi4 e (qcl e x n)).2+i));by_cases hall:∀n,∃y,vF e (qcl e x n) y
 . obtain⟨g,v,⟨M,hM⟩,hst⟩:=h tC;have h1:=qyy tC M (λm _=>hall m) (λm _ i hi=>hC m i hi);rw[show solo (gor (qc0 e) [qU] x.st) (re x.u tC 0)=solo (gor (qc0 e) [qU] st) (re u tC 0)from rfl,hM]at h1;have h2:=qub (Stepped.next.inj h1);rw[h2.1,h2.2]at hst;exact vG _ _ _ hst
 . have hex:∃n,¬∃y,vF e (qcl e x n) y:=AA (λhne=>hall (λn=>AA (λh'=>hne ⟨n,h'⟩)))
   have yO:∃n,(¬∃y,vF e (qcl e x n) y)/\∀m,m<n->∃y,vF e (qcl e x m) y:=by
    obtain⟨n,hn⟩:=hex
    induction n using Nat.strongRecOn with
    |_ n ih=>
     by_cases hm:∃m,m<n/\¬∃y,vF e (qcl e x m) y
     . obtain⟨m,hm1,hm2⟩:=hm;exact ih m hm1 hm2
     . exact⟨n,hn,λm hmn=>AA (λh'=>hm ⟨m,hmn,h'⟩)⟩
   obtain⟨N,hN,hbelow⟩:=yO
   have key:∀tail:Nat->AG->Nat,(∀n v g,runN C.P (n+1) (solo (gor (qc0 e) [qU] (qcl e x N).st) (re (qcl e x N).u (λj q=>if j<jj (used e x) N then tC j q else tail (j-jj (used e x) N) q) (jj (used e x) N)))=.next (solo g v)->g.callers=[])->False:=by
    intro tail yP;obtain⟨g,v,⟨M,hM⟩,hst⟩:=h (λj q=>if j<jj (used e x) N then tC j q else tail (j-jj (used e x) N) q)
    have xo:∀m,m<N->∀i,i<used e x m->(λj q=>if j<jj (used e x) N then tC j q else tail (j-jj (used e x) N) q) (jj (used e x) m+i)=x.u.tape ((qi4 e (qcl e x m)).2+i):=by
     intro m hm i hi;have:jj (used e x) m+used e x m<=jj (used e x) N:=qwh (used e x) (n:=m+1) hm;funext q;simp only;rw[if_pos (by omega),hC m i hi]
    by_cases hMN:M<=N
    . have h1:=qyy (λj q=>if j<jj (used e x) N then tC j q else tail (j-jj (used e x) N) q) M (λm hm=>hbelow m (by omega)) (λm hm i hi=>xo m (by omega) i hi);rw[show solo (gor (qc0 e) [qU] x.st) (re x.u _ 0)=solo (gor (qc0 e) [qU] st) (re u _ 0)from rfl,hM]at h1;have h2:=qub (Stepped.next.inj h1);rw[h2.1,h2.2]at hst;exact vG _ _ _ hst
    . have h1:=qyy (λj q=>if j<jj (used e x) N then tC j q else tail (j-jj (used e x) N) q) N (λm hm=>hbelow m hm) xo;obtain⟨n,rfl⟩:∃n,M=N+(n+1):=⟨M-N-1,by omega⟩;rw[runN_add,show solo (gor (qc0 e) [qU] st) (re u _ 0)=solo (gor (qc0 e) [qU] x.st) (re x.u _ 0)from rfl,h1]at hM;exact hS g v hst (yP n v g hM)
   rcases q7k H hk (qcl e x N)with h1|⟨h1,h2⟩|⟨d,h1⟩
   . exact hN h1
   . refine key (λ_ _=>0) (λn v g hr=>?_);have hst:(qcl e x N).st=((qcl e x N).st.1,[]):=Prod.ext rfl h1;rw[hst]at hr;exact vV (qcl e x N).clean.1 h2 hr
   . refine key (λj q=>(qcl e x N).u.tape (d+j) q) (λn v g hr=>?_)
     obtain⟨o,w1,es,h2⟩:=h1 (λj q=>if j<jj (used e x) N then tC j q else (qcl e x N).u.tape (d+(j-jj (used e x) N)) q) (jj (used e x) N) (λi q=>by
      show (if jj (used e x) N+i<jj (used e x) N then _ else (qcl e x N).u.tape (d+(jj (used e x) N+i-jj (used e x) N)) q)=(qcl e x N).u.tape (d+i) q;rw[if_neg (by omega),show jj (used e x) N+i-jj (used e x) N=i by omega]) true (qc0 e) [qU] (λh=>by rw[h];rfl)
     exact(runN_ended (qce rfl h2) hr).elim
end
end
section
open Go.Conc
open Go.ConcN (sumTo upd sumTo_upd upd_ne upd_same)
structure Held(C:Pen)(w w':AD):Prop where
 block:∀r,(¬C.B r∨C.Z r∨C.Ch r)->w'.heap[r]?=w.heap[r]?
 size:w.heap.size<=w'.heap.size
 os:w'.os=w.os
 output:w'.output=w.output
 tape:w'.tape=w.tape
 tail:Beyond C w w'
theorem Held.refl(C:Pen)(w:AD):Held C w w:=⟨λ_ _=>rfl,BG _,rfl,rfl,rfl,.of rfl⟩
theorem Held.trans{c:AD}(h:Held C a b)(k:Held C b c):Held C a c:=⟨λr hr=>(k.block r hr).trans (h.block r hr),BI h.size k.size,k.os.trans h.os,k.output.trans h.output,k.tape.trans h.tape,h.tail.trans k.tail⟩
theorem Kept.held(h:Kept C w w' es):Held C w w':=⟨h.block,h.size,h.os,h.output,h.tape,h.tail⟩
structure Outside(C:Pen)(Sh:Nat->Prop)(Fz:Loc->Prop)(T:Nat->qz)(n h:Nat):Prop where
 seat:∀i s,i≠h->i<n->T i=.seat s->(¬C.B s.c∨C.Ch s.c)/\∀x,x∈s.L->¬C.B x.1.block∨C.Z x.1.block
 zS:∀r,Sh r->¬C.B r∨C.Z r
 still:∀l,Fz l->∃a:Addr,l=.cell a/\(¬C.B a.block∨C.Z a.block)
section
variable {C:Pen}{S:List String}{Post:AK->AD->Prop}{Sh:Nat->Prop}{Fz:Loc->Prop}{T:Nat->qz}{n h dd:Nat}{w u:AD}
theorem qs9(hL:holds L w)(hA:∀x,x∈L->¬C.B x.1.block∨C.Z x.1.block)(hh:Held C w w'):holds L w':=λx hx=>by
 have:=hL x hx;unfold Bt at this |-;rw[hh.block _ ((hA x hx).imp id .inl)];exact this
theorem qht(O:Outside C Sh Fz T n h)(hf:∀i s,i≠h->i<n->T i=.seat s->holds s.L w)(hk:Kept C w w' es):zH Sh Fz T n h w w' es/\∀d,deafBehind d es=d:=by
 refine⟨⟨λi s hi hn hT=>⟨qs9 (hf i s hi hn hT) (O.seat i s hi hn hT).2 hk.held,hk.block _ ((O.seat i s hi hn hT).1.imp id .inr)⟩,λe he=>?_,hk.size⟩,λd=>deafBehind_still (λe he=>?_) d⟩
 . have hin:=hk.evs e he;obtain⟨loc,wr,sy⟩:=e;cases loc with
   |cell a=>
    obtain⟨h1,h2,h3⟩:=hin;cases h1;refine⟨λx hx=>?_,(λy hy=>by cases hy;exact h3)⟩;cases hx;refine⟨λhs=>((O.zS _ hs).elim (λk=>k h2.1) (λk=>h2.2 k)).elim,λ_ hz=>?_⟩;obtain⟨a',e,h4⟩:=O.still _ hz;cases e;exact h4.elim (λk=>k h2.1) (λk=>h2.2 k)
   |obj r=>
    obtain⟨h1,h2,h3⟩:=hin;refine⟨λx hx=>?_,(λy hy=>by cases wr<;>cases sy<;>first|(cases hy;exact h3)|(cases hy;done))⟩;have:x.loc=.obj r:=by cases wr<;>cases sy<;>first|(cases hx;rfl)|(cases hx;done)
    refine⟨λhs=>by rw[this]at hs;exact hs.elim,λ_ hz=>?_⟩;rw[this]at hz;obtain⟨a',e,_⟩:=O.still _ hz;cases e
   |output=>
    refine⟨λx hx=>?_,(λy hy=>by cases wr<;>cases sy<;>(cases hy;trivial))⟩;have:x.loc=.output:=by cases wr<;>cases sy<;>(cases hx;rfl)
    refine⟨λhs=>by rw[this]at hs;exact hs.elim,λ_ hz=>?_⟩;rw[this]at hz;obtain⟨a',e,_⟩:=O.still _ hz;cases e
   |goroutines=>exact hin.elim
   |mark m=>
    cases m with
    |extern f=>exact⟨(λx hx=>by cases wr<;>cases sy<;>cases hx),(λy hy=>by cases wr<;>cases sy<;>cases hy)⟩
    |noRoom=>exact⟨(λx hx=>by cases wr<;>cases sy<;>cases hx),(λy hy=>by cases wr<;>cases sy<;>cases hy)⟩
    |_=>exact hin.elim
 . have hin:=hk.evs e he;constructor
   . intro e0;unfold xm at hin;rw[e0]at hin;exact hin
   . intro e0;unfold xm at hin;rw[e0]at hin;exact hin
theorem qv3{k:zx}{Stop:AE×List AE->AD->AD->Prop}(O:Outside C Sh Fz T n h)(L:Lone C S (h==0) k cs Stop st w u)
   (hf:∀i s,i≠h->i<n->T i=.seat s->holds s.L w) (next:∀st' w' u',Stop st' w' u'->Held C w w'->(∀i s,i≠h->i<n->T i=.seat s->holds s.L w')->jD C.P Post Sh Fz T n h dd (gor k cs st') w') :
   jD C.P Post Sh Fz T n h dd (gor k cs st) w:=by
 refine L (λst' w' _=>Held C w w'->(∀i s,i≠h->i<n->T i=.seat s->holds s.L w')->jD C.P Post Sh Fz T n h dd (gor k cs st') w') (λst' w' u' hs hh hf'=>next st' w' u' hs hh hf') (λst1 w1 u1 hst hh hf1=>?_) (Held.refl C w) hf;refine qo8 rfl (λd=>?_);obtain⟨st',w',u',es,h1,h2,_,_,_,h6⟩:=hst d;obtain⟨h7,h8⟩:=qht (w:=w1.at d) O hf1 h2;refine⟨_,w',es,h1,h7,?_⟩;rw[h8 dd];exact h6 (hh.trans (Held.trans (show Held C w1 (w1.at d)from⟨λ_ _=>rfl,BG _,rfl,rfl,rfl,.of rfl⟩) h2.held)) (λi s hi hn hT=>(h7.fact i s hi hn hT).1)
theorem q4h{α:Type}{s:Sem α}{Q:α->Prop}(hs:qd C s Q)(hu:Rel C u u){a:α}{d:Nat}(e:s.run C.P (re u t d)=.ok a (re u t d)):s.run C.P u=.ok a u:=by
 have hv:Rel C (re u t d) (re u t d):=⟨rfl,rfl,hu.room,hu.part,λ_ _ _=>rfl,hu.cln,hu.chn,rfl⟩;have h1:=qyx hs hv e (λj=>u.tape (u.drawn+(j-d))) (λk q i1 i2=>absurd i2 (BN.2 i1))
 have h2:=qi2 C.P s (re (re u t d) (λj=>u.tape (u.drawn+(j-d))) (re u t d).drawn) u.tape u.drawn (λi q=>by
  show u.tape (u.drawn+i) q=u.tape (u.drawn+(d+i-d)) q;rw[BH])
 rw[h1]at h2;have e1:re (re (re u t d) (λj=>u.tape (u.drawn+(j-d))) (re u t d).drawn) u.tape u.drawn=u:=rfl;rw[e1]at h2;rw[h2];simp only[zy,Bp,true_and];simp[re]
theorem q13(H:je C S){f:AJ}{args:Array AK}{c:Code}(hf:C.F f)(ha:qn C args)(hfn:C.P.funcs[f]?=some fn)(hbody:fn.body=some c)(hb:Both C w u)(O:Outside C Sh Fz T n h)
   (hL:∀i s,i≠h->i<n->T i=.seat s->holds s.L w) {R:(Nat->AG->Nat)->AK->AD->Prop}
   (hc:∀t,Calls C.P f args (re u t 0) fun | .returned v,w'=>R t v w'|_,_=>False) {caller:AE} 
   (next:∀v w' u',Both C w' u'->Held C w w'->Ok C.A C.F v->(∀i s,i≠h->i<n->T i=.seat s->holds s.L w')->(∃t t2 d,R t v (re u' t2 d))->jD C.P Post Sh Fz T n h dd (G (caller.finish v) cs) w') :
   jD C.P Post Sh Fz T n h dd (G (Bc C.P f args .normal) (caller::cs)) w:=by
 have vH:Clean C S (Bc C.P f args .normal,[]):=⟨q0s H hf ha hfn hbody,λx hx=>by cases hx⟩;have vT:∀fr cs,gor noT cs (fr,[])=G fr cs:=λfr cs=>by unfold gor;dsimp only[below,jS];rw[qt9];rfl
 have L:=lift (k:=noT) (cs:=caller::cs) (main:=h==0) (e:=false) H (λ_=>rfl) (zB:=λg v=>∃fr t x,g=G fr [qU]/\R t x v/\fr.leaving C.P v (.returned x)) (λg v ⟨fr,t,x,e,_⟩=>by rw[e];exact λh=>by cases h) vH hb (λt=>by
  obtain⟨e,w',fr,hR,hs,_,hl⟩:=hc t [qU];cases e with
  |returned x=>
   refine⟨G fr [qU],w',?_,fr,t,x,rfl,hR,hl⟩;show Steps C.P (solo (gor noT [qU] (Bc C.P f args .normal,[])) (re u t 0)) _;rw[vT];exact hs
  |panicked ch=>exact hR.elim
  |outgrown=>exact hR.elim)
 have key:=qv3 (Post:=Post) (dd:=dd) O L hL (λst' w' u' hst hh hL'=>?_)
 . rw[vT]at key;exact key
 . obtain⟨⟨hX,_⟩,hb',t,d,fr,t',x,e,hR,hl⟩:=hst;obtain⟨fr',fs'⟩:=st'
   have hfs:fs'=[]:=by
    have h1:(gor (qc0 false) [qU] (fr',fs')).callers=[qU]:=by rw[e];rfl
    have h2:(jS (qc0 false) fs'++[qU]).length=1:=by rw[show jS (qc0 false) fs'++[qU]=[qU]from h1];rfl
    cases fs' with
    |nil=>rfl
    |cons a l=>rw[qlq]at h2;simp at h2
   subst hfs
   have hfr:fr'=fr:=by
    have:gor noT [qU] (fr',[])=G fr [qU]:=e;rw[vT]at this;exact congrArg Goroutine.frame this
   subst hfr;rw[vT];obtain⟨hmode,hdf,hkind,fn',hfn',hres⟩:=hl;have hk:=qhw H hX hfn';have hrun:=q4h hk hb'.rel.jB hres;refine qo8 rfl (λd'=>?_);have ho:=hk (w'.at d') (u'.at d') #[] (hb'.at d').rel (λk q _ _=>by rw[show (w'.at d').tape=(u'.at d').tape from hb'.tape.symm])
   have hrun':(results fn' fr'.tmps).run C.P (u'.at d')=.ok x (u'.at d'):=by
    have h1:=qyx hk hb'.rel.jB hrun (λj=>u'.tape (d'+(j-u'.drawn))) (λk q i1 i2=>absurd i2 (BN.2 i1))
    have h2:=qi2 C.P (results fn' fr'.tmps) (re u' (λj=>u'.tape (d'+(j-u'.drawn))) u'.drawn) u'.tape d' (λi q=>by
     show u'.tape (d'+i) q=u'.tape (d'+(u'.drawn+i-u'.drawn)) q;rw[BH])
    rw[h1]at h2;have e1:re (re u' (λj=>u'.tape (d'+(j-u'.drawn))) u'.drawn) u'.tape d'=u'.at d':=rfl;rw[e1]at h2;rw[h2];simp only[zy,Bp,true_and];simp[re,World.at]
   rw[hrun']at ho;obtain⟨w2,new,h1,h2,h3,h4⟩:=ho;rw[Bq]at h1;have h5:(results fn' fr'.tmps).run C.P (w'.at d')=.ok x w2:=(BS h1).1;obtain⟨h7,h8⟩:=qht (w:=w'.at d') O hL' (qi3 (C:=C) h3 fr'.fn);refine⟨G (caller.finish x) cs,w2,seen C.P fr'.fn new,?_,h7,?_⟩
   . have h6:(results fn' fr'.tmps).events C.P (w'.at d') #[]=new:=by have:=(BS h1).2;simpa using this
     simp[G,stepG,unwind,hmode,hdf,hfn',doReturn,hkind,Bh,h5,h6]
   . rw[h8 dd];have hb2:Both C w2 (u'.at d'):=⟨h2,by rw[h3.tape];exact hb'.tape⟩;exact next x w2 (u'.at d') hb2 (hh.trans (Held.trans (show Held C w' (w'.at d')from⟨λ_ _=>rfl,BG _,rfl,rfl,rfl,.of rfl⟩) h3.held)) h4 (λi s hi hn hT=>(h7.fact i s hi hn hT).1) ⟨t',t,d,hR⟩
end
end
section
open Go.Conc
def Ends:Exit->Prop
 | .normal | .ret | .panic _=>True
 |_=>False
section
variable {C:Pen}{S:List String}{Post:AK->AD->Prop}{Sh:Nat->Prop}{Fz:Loc->Prop}{T:Nat->qz}{n h dd:Nat}{w u:AD}
def qi0(b:AE)(a:Act)(todo:List Item):Exit->AE
 | .ret=>{b.at a todo with mode:=.returning}
 | .panic ch=>{b.at a todo with mode:=.panicking ch}
 |_=>b.at a todo
theorem q4i(H:je C S){b:AE}{a:Act}{c:Code}(hX:FrE C S (b.at a [.code c]))(hb:Both C w u)(O:Outside C Sh Fz T n h)
   (hL:∀i s,i≠h->i<n->T i=.seat s->holds s.L w) {Q:(Nat->AG->Nat)->Exit->Act->AD->Prop} (hc:∀t,c.wp C.P (Q t) a (re u t 0)) (hQ:∀t e a w,Q t e a w->Ends e)
   {k:List Item} {ds:List Deferred} 
   (next:∀e a' todo w' u',Both C w' u'->Held C w w'->FrE C S (qi0 b a' todo e)->(e=.normal->todo=[])->(∀i s,i≠h->i<n->T i=.seat s->holds s.L w')->(∃t t2 d,Q t e a' (re u' t2 d))->jD C.P Post Sh Fz T n h dd (G (qi0 b ⟨a'.tmps,ds⟩ (todo++k) e) cs) w') :
   jD C.P Post Sh Fz T n h dd (G (b.at ⟨a.tmps,ds⟩ (.code c::k)) cs) w:=by
 have vH:Clean C S (b.at a [.code c],[]):=⟨hX,λx hx=>by cases hx⟩;have vT:∀k fr cs,gor k cs (fr,[])=G (qG fr k) cs:=λk fr cs=>rfl;have hds:a.defers=[]:=jL.defers hX
 have L:=lift (k:=⟨k,ds⟩) (cs:=cs) (main:=h==0) (e:=true) H (λh=>by cases h) (zB:=λg v=>∃fr t e a' todo,g=G fr [qU]/\Q t e a' v/\fr=qi0 b a' todo e/\(e=.normal->todo=zA)) (λg v ⟨fr,t,e,a',todo,h1,_⟩=>by rw[h1];exact λh=>by cases h) vH hb (λt=>by
  obtain⟨e,a',w',hq,harr⟩:=hc t b zA [qU];have he:=hQ t e a' w' hq
  have hstart:solo (gor (qc0 true) [qU] (b.at a [.code c],[])) (re u t 0)=lone (b.at a (.code c::zA)) [qU] (re u t 0):=by
   rw[lone_eq_solo];unfold gor;simp[below,jS,qG,qc0,Frame.at]
  rw[hstart];cases e with
  |normal=>exact⟨_,w',harr,_,t,.normal,a',zA,rfl,hq,rfl,λ_=>rfl⟩
  |ret=>obtain⟨todo,hs⟩:=harr;exact⟨_,w',hs,_,t,.ret,a',todo,rfl,hq,rfl,λh=>by cases h⟩
  |panic ch=>obtain⟨todo,hs⟩:=harr;exact⟨_,w',hs,_,t,.panic ch,a',todo,rfl,hq,rfl,λh=>by cases h⟩
  |exit id=>exact he.elim
  |goto l=>exact he.elim
  |outgrown=>exact he.elim)
 have key:=qv3 (Post:=Post) (dd:=dd) O L hL (λst' w' u' hst hh hL'=>?_)
 . have:gor ⟨k,ds⟩ cs (b.at a [.code c],[])=G (b.at ⟨a.tmps,ds⟩ (.code c::k)) cs:=by
    unfold gor;simp only[below,jS,qG,Frame.at,hds,List.nil_append,BB]
   rw[<-this];exact key
 . obtain⟨⟨hX',_⟩,hb',t2,d,fr,t,e,a',todo,e1,hq,e2,e3⟩:=hst;obtain⟨fr',fs'⟩:=st'
   have hfs:fs'=[]:=by
    have h1:jS (qc0 true) fs'++[qU]=[qU]:=congrArg Goroutine.callers e1;have h2:(jS (qc0 true) fs'++[qU]).length=1:=by rw[h1];rfl
    cases fs' with
    |nil=>rfl
    |cons x l=>rw[qlq]at h2;simp at h2
   subst hfs
   have hfr:qG fr' (qc0 true)=qi0 b a' todo e:=by
    have:=congrArg Goroutine.frame e1;rw[<-e2];exact this
   have xN:(qG fr' (qc0 true)).todo=todo:=by rw[hfr];cases e<;>rfl
   have hk:todo=fr'.todo++zA:=xN.symm
   have hback:fr'=qi0 b a' fr'.todo e:=by
    have:fr'={qG fr' (qc0 true)with todo:=fr'.todo}:=by simp[qG,qc0]
    rw[this,hfr];cases e<;>rfl
   have hda:a'.defers=[]:=by
    have h1:fr'.defers=[]:=jL.defers hX';rw[hback]at h1;cases e<;>exact h1
   have qaR:qG fr' ⟨k,ds⟩=qi0 b ⟨a'.tmps,ds⟩ (fr'.todo++k) e:=by
    have:qG fr' ⟨k,ds⟩={fr' with todo:=fr'.todo++k,defers:=fr'.defers++ds}:=rfl;rw[this];generalize fr'.todo=td at *;rw[hback];cases e<;>simp[qi0,Frame.at,hda]
   rw[vT,qaR];refine next e a' fr'.todo w' u' hb' hh (by rw[<-hback];exact hX') (λen=>?_) hL' ⟨t,t2,d,hq⟩;have h1:=e3 en;rw[hk]at h1;have h2:(fr'.todo++zA).length=zA.length:=by rw[h1]
   rw[List.length_append]at h2;exact List.eq_nil_of_length_eq_zero (by omega)
end
end
section
open Go.Conc
open Go.ConcN (sumTo upd sumTo_upd upd_ne upd_same WgLive RW DWs WSit WD AtR0 PayAt)
open Go.ConcR (KK WgAt stA smA rd wr mk Payload)
section
variable [Payload]
structure RM(ty:AH)(Wg:Nat)(Bx:Nat->Prop)(w w₁:AD):Prop where
 tape:w₁.tape=w.tape
 os:w₁.os=w.os
 output:w₁.output=w.output
 size:w₁.heap.size=w.heap.size
 block:∀r,r≠Wg->¬Bx r->w₁.heap[r]?=w.heap[r]?
 live:WgLive ty Wg w->WgLive ty Wg w₁
 box:∀r,Bx r->PayAt r 1 w->PayAt r 1 w₁
theorem RM.refl{Bx:Nat->Prop}(w:AD):RM ty Wg Bx w w:=⟨rfl,rfl,rfl,rfl,λ_ _ _=>rfl,id,λ_ _=>id⟩
theorem RM.trans{Bx:Nat->Prop}{c:AD}(h:RM ty Wg Bx a b)(k:RM ty Wg Bx b c):RM ty Wg Bx a c:=
 ⟨k.tape.trans h.tape,k.os.trans h.os,k.output.trans h.output,k.size.trans h.size,λr h1 h2=>(k.block r h1 h2).trans (h.block r h1 h2),k.live∘h.live,λr hr=>k.box r hr∘h.box r hr⟩
theorem RM.at{Bx:Nat->Prop}(w:AD)(d:Nat):RM ty Wg Bx w (w.at d):=⟨rfl,rfl,rfl,rfl,λ_ _ _=>rfl,id,λ_ _=>id⟩
end
def DM(Wg:Nat)(Sh:Nat->Prop)(Fz:Loc->Prop)(w w':AD)(es:Array AL):Prop:=w'=w/\∀e,e∈es->qlg Sh Fz w.heap.size e/\e.loc≠.mark .disable/\e.loc≠.mark .enable/\e.loc≠.mark (.release (stA Wg))
section
variable [Payload]
variable (P:AF)(ty:AH)(Wg:Nat)(Bx:Nat->Prop)(Sh:Nat->Prop)(Fz:Loc->Prop)(AnchW:AB->AD->Prop)(Next:AB->AD->Prop)
def qdA(g:AB)(w:AD):Prop:=g.status=.running/\∃g',stepG P true g w=.go g' w #[mk (.acquire (stA Wg))]/\Next g' w
def MKe(g:AB)(w:AD):Prop:=g.status=.running/\∃g',stepG P true g w=.go g' w #[mk .enable]/\∃m,Goes P true (RM ty Wg Bx) (DM Wg Sh Fz) (qdA P Wg Next) m g' w
def MW4(g:AB)(w:AD):Prop:=g.status=.running/\(WgAt ty Wg w 0 0->∃g',stepG P true g w=.go g' w #[rd (stA Wg)]/\∃m,Goes P true (RM ty Wg Bx) (DM Wg Sh Fz) (MKe P ty Wg Bx Sh Fz Next) m g' w)
def MW3(g:AB)(w:AD):Prop:=g.status=.running/\g.offers=none/\((∃st,WgAt ty Wg w st 0)->stepG P true g w=.go {g with status:=.blocked} w #[]) /\
 (WgAt ty Wg w 0 1->∃g',stepG P true g w=.go g' (w.setCell (smA Wg) (.int .u32 0)) (semEvents (smA Wg))/\∃m,Goes P true (RM ty Wg Bx) (DM Wg Sh Fz) (MW4 P ty Wg Bx Sh Fz Next) m g' (w.setCell (smA Wg) (.int .u32 0)))
def MW2(vs:Nat)(g:AB)(w:AD):Prop:=g.status=.running/\∀v:Nat,v<2147483648->WgAt ty Wg w (v*KK) 0 ->
 (v=vs->∃g',stepG P true g w=.go g' (w.setCell (stA Wg) (.int .u64 (v*KK+1))) #[rd (stA Wg),wr (stA Wg)]/\∃m,Goes P true (RM ty Wg Bx) (DM Wg Sh Fz) (MW3 P ty Wg Bx Sh Fz Next) m g' (w.setCell (stA Wg) (.int .u64 (v*KK+1)))) /\
 (v≠vs->∃g',stepG P true g w=.go g' w #[rd (stA Wg)]/\∃m,Goes P true (RM ty Wg Bx) (DM Wg Sh Fz) AnchW m g' w)
def MW1(g:AB)(w:AD):Prop:=g.status=.running/\∀v:Nat,v<2147483648->WgAt ty Wg w (v*KK) 0->∃g',stepG P true g w=.go g' w #[rd (stA Wg)] /\
 (v=0->∃m,Goes P true (RM ty Wg Bx) (DM Wg Sh Fz) (MKe P ty Wg Bx Sh Fz Next) m g' w)/\(v≠0->∃m,Goes P true (RM ty Wg Bx) (DM Wg Sh Fz) (MW2 P ty Wg Bx Sh Fz AnchW Next v) m g' w)
def MKd(g:AB)(w:AD):Prop:=g.status=.running/\∃g',stepG P true g w=.go g' w #[mk .disable]/\∃m,Goes P true (RM ty Wg Bx) (DM Wg Sh Fz) AnchW m g' w
def MCl:List Nat->AB->AD->Prop
 |[],g,w=>MKd P ty Wg Bx Sh Fz AnchW g w
 | c::l,g,w=>g.status=.running/\mayWake P g=true/\∀ κ,w.heap[c]?=some (.chan 0 #[] false κ κ false) ->
     ∃g',stepG P true g w=.go g' (w.setChan c 0 #[] true κ κ false) #[⟨.obj c,false,true⟩,⟨.obj c,true,true⟩]/\g'.status=.running/\∃m,Goes P true (RM ty Wg Bx) (DM Wg Sh Fz) (MCl l) m g' (w.setChan c 0 #[] true κ κ false)
end
inductive Tag where
 |cl (l:List Nat)|anch|w1|w2 (vs:Nat)|w3|blk|w4|ke|acq
section
variable [Payload]
variable (P:AF)(ty:AH)(Wg:Nat)(Bx:Nat->Prop)(Sh:Nat->Prop)(Fz:Loc->Prop)(AnchW:AB->AD->Prop)(Next:AB->AD->Prop)
inductive zi:Tag->Nat->Nat->AB->AD->Prop
 |cl {l:List Nat} {m:Nat} {g:AB} {w:AD}:Goes P true (RM ty Wg Bx) (DM Wg Sh Fz) (MCl P ty Wg Bx Sh Fz AnchW l) m g w->zi (.cl l) m 0 g w
 |anch {m:Nat} {g:AB} {w:AD}:Goes P true (RM ty Wg Bx) (DM Wg Sh Fz) AnchW m g w->zi .anch m 1 g w
 |w1 {m:Nat} {g:AB} {w:AD}:Goes P true (RM ty Wg Bx) (DM Wg Sh Fz) (MW1 P ty Wg Bx Sh Fz AnchW Next) m g w->zi .w1 m 1 g w
 |w2 {vs m:Nat} {g:AB} {w:AD}:Goes P true (RM ty Wg Bx) (DM Wg Sh Fz) (MW2 P ty Wg Bx Sh Fz AnchW Next vs) m g w->zi (.w2 vs) m 1 g w
 |w3 {m:Nat} {g:AB} {w:AD}:Goes P true (RM ty Wg Bx) (DM Wg Sh Fz) (MW3 P ty Wg Bx Sh Fz Next) m g w->zi .w3 (m+1) 1 g w
 |blk {g:AB} {w:AD}:(∀w₁,RM ty Wg Bx w w₁->MW3 P ty Wg Bx Sh Fz Next g w₁)->zi .blk 0 1 {g with status:=.blocked} w
 |w4 {m:Nat} {g:AB} {w:AD}:Goes P true (RM ty Wg Bx) (DM Wg Sh Fz) (MW4 P ty Wg Bx Sh Fz Next) m g w->zi .w4 m 1 g w
 |ke {m:Nat} {g:AB} {w:AD}:Goes P true (RM ty Wg Bx) (DM Wg Sh Fz) (MKe P ty Wg Bx Sh Fz Next) m g w->zi .ke m 1 g w
 |acq {m:Nat} {g:AB} {w:AD}:Goes P true (RM ty Wg Bx) (DM Wg Sh Fz) (qdA P Wg Next) m g w->zi .acq m 0 g w
end
structure Hands where
 s:jF
 bx:Nat
 val:AK
def qlh:Nat->Loc->Prop:=λ_ _=>False
section
variable [Payload]
variable (P:AF)(ty:AH)(Wg:Nat)
def q4j(c:Hands)(g:AB)(w:AD):Prop:=∃m,Goes P false (RW ty Wg c.bx 1 0 0) (DWs Wg qlh qlh c.bx 1 1) (AtR0 P ty Wg c.bx 1 0 1 c.val) m g w
def Shut(s:jF)(m:Nat)(g:AB):Prop:=Way P false s m g∨(m=1/\g.frame=s.fr/\g.callers=s.cs/\g.dying=none/\g.status=.running/\qiy P false s)
def jT(c:Hands):Nat->Nat->Nat->AB->AD->Prop
 |9,m,d,g,_=>d=0/\((m=0/\g=qf0 c.s)∨Way P false c.s m g)
 |8,m,d,g,_=>d=0/\Shut P c.s m g
 |st,m,d,g,w=>WSit P ty Wg c.bx 1 qlh qlh 0 1 c.val st m d g w
end
end
section
open Go.Conc
open Go.ConcN (sumTo upd sumTo_upd upd_ne upd_same WgLive RW DWs WSit WD AtR0)
open Go.ConcR (KK WgAt stA smA rd wr mk Payload)
def jE(a:Addr)(p0:Nat)(t:AI)(i:Nat):Prop:=∃p,p0<=p/\zz a t i p/\∀j x,t.g? j=some i->touchAt t j=some x->j<p∨(x.kind=.atomic/\¬t.heard j)
section
variable {a:Addr}{p0:Nat}{t u:AI}{i:Nat}
theorem jE.app(h:jE a p0 t i)(hu:∀j op x,t.size<=j->(t++u)[j]?=some op->op.g=i->op.act.touch?=some x->x.kind=.atomic/\¬(t++u).heard j):jE a p0 (t++u) i:=by
 obtain⟨p,h1,h2,h3⟩:=h;refine⟨p,h1,h2.app u,λj x hg hx=>?_⟩;rcases qbk hx with ⟨hj,hx'⟩|⟨hj,op,hop,hy,hxa⟩
 . exact(h3 j x (by rw[g?_old hj]at hg;exact hg) hx').imp id (λy=>⟨y.1,λz=>y.2 ((heard_old hj).1 z)⟩)
 . refine .inr (hu j op x hj hy ?_ hxa);unfold Trace.g? at hg;rw[hy]at hg;exact Option.some.inj hg
theorem jE.other(h:jE a p0 t i)(hu:∀op∈u,op.g=i->op.act.touch?=none):jE a p0 (t++u) i:=
 h.app (λj op x hj hy hg hx=>by
  rcases AS hy with ⟨hlt,_⟩|⟨_,hop⟩
  . omega
  . rw[hu op hop hg]at hx;cases hx)
theorem jE.new{y:AM}(hp:p0<=t.size)(hg:y.g=i)(hy:y.act=.mark (.releaseMerge a))(hd:Deaf t i=0):jE a p0 (t++#[y]) i:=by
 refine⟨t.size,hp,q4f hg hy hd,λj x _ hx=>?_⟩;rcases qbk hx with ⟨hj,_⟩|⟨_,op,hop,_,hxa⟩
 . exact .inl hj
 . have:op=y:=by simpa using hop
   rw[this,hy]at hxa;cases hxa
theorem q4k{t':AI}{p:Nat}:∀n,(∀j,j<n->∃y,t'[p+j]?=some y/\y.act≠.mark .enable)->t'.deaf k p<=t'.deaf k (p+n)
 |0,_=>BG _
 |n+1,h=>by
  obtain⟨y,h1,h2⟩:=h n (BJ n);refine BI (q4k n (λj hj=>h j (by omega))) ?_;rw[<-Nat.add_assoc,deaf_succ h1];unfold deafStep;split
  . split<;>omega
  . rename_i e;exact absurd e h2
  . exact BG _
theorem q4l{fn:AJ}{op:AM}(h:(t++Bj k fn pos es)[t.size+j]?=some op):∃e,es[j]?=some e/\op={g:=k,fn,pos,act:=.ofEvent e}:=by
 rw[Ap (BK _ _),BH,AZ,Aj]at h;obtain⟨e,he,rfl⟩:=BO.1 h;exact⟨e,he,rfl⟩
theorem qv4{fn:AJ}(hd:0<Deaf t k)(he:∀(j:Nat) (e:AL),es[j]?=some e->(Bi e).touch?≠none->∀(j':Nat),j'<j->∀(e':AL),es[j']?=some e'->Bi e'≠.mark .enable) :
   ∀j op x,t.size<=j->(t++Bj k fn pos es)[j]?=some op->op.act.touch?=some x->¬(t++Bj k fn pos es).heard j:=by
 intro j op x hj hy hx;obtain⟨m,rfl⟩:∃m,j=t.size+m:=⟨j-t.size,by omega⟩;obtain⟨e,hee,hop⟩:=q4l hy;have h1:=he m e hee (by rw[hop]at hx;rw[hx];simp)
 have h2:=q4k (t':=t++Bj k fn pos es) (k:=k) (p:=t.size) m (λj' hj'=>by
  have hlt:j'<es.size:=Nat.lt_trans hj' (Ab.1 hee).1;refine⟨{g:=k,fn,pos,act:=.ofEvent es[j']},?_,h1 j' hj' _ (Ai hlt)⟩;rw[Ap (BK _ _),BH,AZ,Aj,Ai hlt];rfl)
 rw[deaf_old (BG _)]at h2;rintro⟨g,hg,hdf⟩;rw[gAt hy (show op.g=k from by rw[hop])]at hg;cases hg;unfold Deaf at hd;omega
end
def StJ(Wk:Nat->Prop)(cr:Nat->Hands)(D:Nat->WD)(i:Nat)(l:Loc):Prop:=Wk i/\8<=(D i).stage/\StL (cr i).s.L l
def LfJ(Wk:Nat->Prop)(i:Nat):Prop:=i≠0/\¬Wk i
structure JTr(Sh:Nat->Prop)(Fz:Loc->Prop)(Wk:Nat->Prop)(cr:Nat->Hands)(Wg p0:Nat)(D:Nat->WD)(B:Nat)(t:AI):Prop where
 jw:ju Sh Fz (StJ Wk cr D) (LfJ Wk) 0 B t
 start:p0<=t.size
 norel:∀q,p0<=q->t.act? q≠some (.mark (.release (stA Wg)))
 rel:∀i,Wk i->(D i).stage<=6->jE (stA Wg) p0 t i
section
variable {Sh:Nat->Prop}{Fz:Loc->Prop}{Wk:Nat->Prop}{cr:Nat->Hands}{Wg p0:Nat}{D D':Nat->WD}{B:Nat}{t u:AI}{i:Nat}
theorem qv5(h:∀q,p0<=q->t.act? q≠some (.mark (.release (stA Wg))))(hu:∀op∈u,op.act≠.mark (.release (stA Wg))):∀q,p0<=q->(t++u).act? q≠some (.mark (.release (stA Wg))):=by
 intro q hq e;obtain⟨op,ho,hoa⟩:=BO.1 e;rcases AS ho with ⟨hi,ho'⟩|⟨_,hou⟩
 . exact h q hq (by rw[act?_of ho',hoa])
 . exact hu op hou hoa
theorem q0l:t.size<=(t++u).size:=by simp
theorem ju.fall{St':Nat->Loc->Prop}{St:Nat->Loc->Prop}{Lf:Nat->Prop}{h:Nat}(H:ju Sh Fz St Lf h B t)(hs:∀k l,St' k l->St k l):ju Sh Fz St' Lf h B t:=
 ⟨H.clean,H.known,λk hk i a ha hl hw=>H.wrote k hk i a ha (hs k _ hl) hw,H.seen,H.quiet,λk l hl=>H.sub k l (hs k l hl),H.over⟩
theorem q0m(hle:∀j,(D' j).stage<=(D j).stage):∀k l,StJ Wk cr D' k l->StJ Wk cr D k l:=λk _ h=>⟨h.1,BI h.2.1 (hle k),h.2.2⟩
theorem JTr.step(H:JTr Sh Fz Wk cr Wg p0 D B t)(hh:ju Sh Fz (StJ Wk cr D) (LfJ Wk) 0 B (t++u))(hg:∀op∈u,op.g=i)(hn:∀op∈u,op.act≠.mark (.release (stA Wg)))(hle:∀j,(D' j).stage<=(D j).stage)
   (hoth:∀j,j≠i->(D' j).stage=(D j).stage) (hok:Wk i->(D' i).stage<=6->jE (stA Wg) p0 (t++u) i):JTr Sh Fz Wk cr Wg p0 D' B (t++u):=by
 refine⟨hh.fall (q0m hle),BI H.start q0l,qv5 H.norel hn,λj hj hs=>?_⟩;by_cases hji:j=i
 . subst hji;exact hok hj hs
 . refine(H.rel j hj (by rw[<-hoth j hji];exact hs)).other (λop hop hgj=>absurd ((hg op hop).symm.trans hgj) (λe=>hji e.symm))
theorem JTr.main(H:JTr Sh Fz Wk cr Wg p0 D B t)(hW:∀i,Wk i->i≠0)(he:∀e,e∈es->qlg Sh Fz B e/\e.loc≠.mark (.release (stA Wg)))(fn:AJ)(pos:String):JTr Sh Fz Wk cr Wg p0 D B (t++Bj 0 fn pos es):=by
 refine⟨H.jw.events (λy=>y.1 rfl) (λe hee=>(he e hee).1),BI H.start q0l,qv5 H.norel (λop hop=>?_),λj hj hs=>(H.rel j hj hs).other (λop hop hg=>absurd ((qck op hop).symm.trans hg) (λe=>hW j hj e.symm))⟩;obtain⟨e,hee,rfl⟩:=Go.Conc.mem_ofEvents hop;intro e0;have:=(he e hee).2;obtain⟨loc,wr,sy⟩:=e;cases loc with
 |mark m=>cases e0;exact this rfl
 |obj c=>cases wr<;>cases sy<;>cases e0
 |_=>cases wr<;>cases sy<;>cases e0
end
end
section
open Go.Conc
open Go.ConcN (sumTo upd sumTo_upd upd_ne upd_same WgLive RW DWs WSit WD AtR0 PayAt)
open Go.ConcR (KK WgAt stA smA rd wr mk Payload)
section
variable [Payload]{P:AF}{ty:AH}{Wg:Nat}{Bx:Nat->Prop}{Sh:Nat->Prop}{Fz:Loc->Prop}{AnchW Next:AB->AD->Prop}{tag:Tag}{f d:Nat}{a:AB}{w w':AD}
theorem zi.rely(h:zi P ty Wg Bx Sh Fz AnchW Next tag f d a w)(hr:RM ty Wg Bx w w'):zi P ty Wg Bx Sh Fz AnchW Next tag f d a w':=by
 have tr:∀a b c,RM ty Wg Bx a b->RM ty Wg Bx b c->RM ty Wg Bx a c:=λ_ _ _ h1 h2=>h1.trans h2;cases h with
 |cl h=>exact .cl (Ba tr h hr)
 |anch h=>exact .anch (Ba tr h hr)
 |w1 h=>exact .w1 (Ba tr h hr)
 |w2 h=>exact .w2 (Ba tr h hr)
 |w3 h=>exact .w3 (Ba tr h hr)
 |blk h=>exact .blk (λw₂ h₂=>h w₂ (hr.trans h₂))
 |w4 h=>exact .w4 (Ba tr h hr)
 |ke h=>exact .ke (Ba tr h hr)
 |acq h=>exact .acq (Ba tr h hr)
theorem MCl.running(h:MCl P ty Wg Bx Sh Fz AnchW l a w):a.status=.running:=by cases l<;>exact h.1
theorem zi.status(hA:∀g w,AnchW g w->g.status=.running)(h:zi P ty Wg Bx Sh Fz AnchW Next tag f d a w):(a.status=.running/\tag≠.blk)∨(a.status=.blocked/\tag=.blk/\a.offers=none):=by
 cases h with
 |cl h=>exact .inl ⟨B9 (λ_ _ x=>MCl.running x) w (RM.refl w) h,λe=>by cases e⟩
 |anch h=>exact .inl ⟨B9 hA w (RM.refl w) h,λe=>by cases e⟩
 |w1 h=>exact .inl ⟨B9 (λ_ _ x=>x.1) w (RM.refl w) h,λe=>by cases e⟩
 |w2 h=>exact .inl ⟨B9 (λ_ _ x=>x.1) w (RM.refl w) h,λe=>by cases e⟩
 |w3 h=>exact .inl ⟨B9 (λ_ _ x=>x.1) w (RM.refl w) h,λe=>by cases e⟩
 |blk h=>exact .inr ⟨rfl,rfl,(h w (RM.refl w)).2.1⟩
 |w4 h=>exact .inl ⟨B9 (λ_ _ x=>x.1) w (RM.refl w) h,λe=>by cases e⟩
 |ke h=>exact .inl ⟨B9 (λ_ _ x=>x.1) w (RM.refl w) h,λe=>by cases e⟩
 |acq h=>exact .inl ⟨B9 (λ_ _ x=>x.1) w (RM.refl w) h,λe=>by cases e⟩
theorem zi.woken(hA:∀g w,AnchW g w->g.status=.running)(h:zi P ty Wg Bx Sh Fz AnchW Next tag f d a w)(x x':AB) :
   ∃tag' f',((tag'=tag/\f'=f)∨(tag=.blk/\tag'=.w3/\f'=1/\f=0))/\zi P ty Wg Bx Sh Fz AnchW Next tag' f' d (AN P x x' w a) w/\(mayWake P x=true->x'.status≠.blocked->x'.status≠.waiting->tag'≠.blk):=by
 by_cases hw:(mayWake P x&&x'.status != .blocked&&x'.status != .waiting)=true
 . have e:AN P x x' w a=a.again w:=by unfold AN;rw[if_pos hw]
   rcases h.status hA with ⟨hs,ht⟩|⟨hs,ht,ho⟩
   . exact⟨tag,f,.inl ⟨rfl,rfl⟩,by rw[e,AO _ (.inl hs)];exact h,λ_ _ _=>ht⟩
   . subst ht;cases h with
     |blk h=>
      rename_i g;have h0:=h w (RM.refl w);refine⟨.w3,1,.inr ⟨rfl,rfl,rfl,rfl⟩,?_,λ_ _ _ e=>by cases e⟩;rw[e]
      have:({g with status:=.blocked}:AB).again w=g:=by
       have h1:g.offers=none:=h0.2.1;have h2:g.status=.running:=h0.1;obtain⟨fr,cs,st,dy,of⟩:=g;cases h1;cases h2;simp[Goroutine.again]
      rw[this];exact .w3 (m:=0) (Goes.stop h)
 . have e:AN P x x' w a=a:=by unfold AN;rw[if_neg hw]
   refine⟨tag,f,.inl ⟨rfl,rfl⟩,by rw[e];exact h,λh1 h2 h3=>?_⟩;exfalso;apply hw;rw[h1];cases hs:x'.status<;>first|rfl|exact absurd hs h2|exact absurd hs h3
end
section
variable {P:AF}{m:Nat}{g:AB}
theorem Shut.running{s:jF}(h:Shut P s m g):g.status=.running:=by
 rcases h with h|⟨_,_,_,_,h,_⟩
 . exact h.running
 . exact h
end
section
variable [Payload]
variable {P:AF}{ty:AH}{Wg:Nat}{c:Hands}{st m d:Nat}{g:AB}{w w':AD}
theorem WSit.stage{C Low:Nat}{Own Rd:Nat->Loc->Prop}{v:AK}(h:WSit P ty Wg C n Own Rd Low k v st m d g w):1<=st/\st<=7:=by cases h<;>omega
theorem jT.low(h:jT P ty Wg c st m d g w)(hs:st<=7):WSit P ty Wg c.bx 1 qlh qlh 0 1 c.val st m d g w:=by
 unfold jT at h;split at h
 . omega
 . omega
 . exact h
theorem jT.of(h:WSit P ty Wg c.bx 1 qlh qlh 0 1 c.val st m d g w):jT P ty Wg c st m d g w:=by
 have:=WSit.stage h;unfold jT;split
 . omega
 . omega
 . exact h
theorem jT.zq(h:jT P ty Wg c st m d g w):1<=st/\st<=9:=by
 by_cases h7:st<=7
 . have:=WSit.stage (h.low h7);omega
 . unfold jT at h;split at h
   . omega
   . omega
   . have:=WSit.stage h;omega
theorem jT.rely(h:jT P ty Wg c st m d g w)(hr:RW ty Wg c.bx 1 0 0 w w'):jT P ty Wg c st m d g w':=by
 by_cases h7:st<=7
 . exact .of ((h.low h7).rely hr)
 . unfold jT at h |-;split at h
   . exact h
   . exact h
   . have:=WSit.stage h;omega
theorem jT.status(h:jT P ty Wg c st m d g w):g.status=.running∨(g.status=.finished/\st=1)∨(st=9/\g=qf0 c.s):=by
 by_cases h7:st<=7
 . have hw:=h.low h7;by_cases h1:st=1
   . subst h1;rcases hw.status with e|e
     . exact .inl e
     . exact .inr (.inl ⟨e,rfl⟩)
   . exact .inl (hw.running_of h1)
 . unfold jT at h;split at h
   . rcases h.2 with ⟨_,rfl⟩|h
     . exact .inr (.inr ⟨rfl,rfl⟩)
     . exact .inl h.running
   . exact .inl h.2.running
   . have:=WSit.stage h;omega
end
end
section
open Go.Conc
open Go.ConcN (sumTo upd sumTo_upd upd_ne upd_same WgLive RW DWs WSit WD AtR0 PayAt cnt Vc Ssum Fsum)
open Go.ConcR (KK WgAt stA smA rd wr mk Payload)
def vI:Tag->List Nat
 | .cl l=>l
 |_=>[]
def qfD:Tag->Prop
 | .cl _ | .anch | .w1 | .w2 _=>True
 |_=>False
def isW:Tag->Prop
 | .w3 | .blk=>True
 |_=>False
def isF:Tag->Prop
 | .w4 | .ke | .acq=>True
 |_=>False
inductive qA (n:Nat) (D:Nat->WD):Tag->Int->Int->Prop
 |opn {tag:Tag}:qfD tag->(∀i,i<n->5<=(D i).stage∨(D i).stage=1)->(∀vs,tag=.w2 vs->Vc n D<=vs/\1<=vs)->qA n D tag ((Vc n D:Nat)*KK) 0
 |reg {tag:Tag}:isW tag->(∀i,i<n->5<=(D i).stage∨(D i).stage=1)->1<=Vc n D->qA n D tag ((Vc n D:Nat)*KK+1) 0
 |last {tag:Tag} (L:Nat):isW tag->L<n->((D L).stage=4∨(D L).stage=3∨(D L).stage=2)->(∀i,i<n->i≠L->(D i).stage=1)->qA n D tag (if (D L).stage=2 then 0 else 1) 0
 |sema:(∀i,i<n->(D i).stage=1)->qA n D .w3 0 1
 |fin {tag:Tag}:isF tag->(∀i,i<n->(D i).stage=1)->qA n D tag 0 0
structure jG[Payload](P:AF)(ty:AH)(Wg:Nat)(Bx:Nat->Prop)(Sh:Nat->Prop)(Fz:Loc->Prop)(n:Nat)(Wk:Nat->Prop)(cr:Nat->Hands):Prop where
 wk:∀i,Wk i->i≠0/\i<n
 chan:∀i j,Wk i->Wk j->(cr i).s.c=(cr j).s.c->i=j
 bxs:∀i j,Wk i->Wk j->(cr i).bx=(cr j).bx->i=j
 bxW:∀i,Wk i->(cr i).bx≠Wg
 cW:∀i,Wk i->(cr i).s.c≠Wg
 cB:∀i j,Wk i->Wk j->(cr i).s.c≠(cr j).bx
 lW:∀i,Wk i->∀x,x∈(cr i).s.L->x.1.block≠Wg/\∀j,Wk j->j≠i->x.1.block≠(cr j).bx
 bx:∀i,Wk i->Bx (cr i).bx
 noW:¬Bx Wg
 after:∀i,Wk i->∀w,WgLive ty Wg w->w.cell? ⟨(cr i).bx,0,none⟩=some (cr i).val->q4j P ty Wg (cr i) (AX (G (cr i).s.fr (cr i).s.cs) (recvd (cr i).s.ok (cr i).s.z false)) w
 comm:∀i,Wk i->qiy P false (cr i).s
 zS:Sh Wg
 fzW:∀b:Addr,b.block=Wg->¬Fz (.cell b)
 few:n<2147483648
structure Join[Payload](P:AF)(ty:AH)(Wg:Nat)(Bx:Nat->Prop)(Sh:Nat->Prop)(Fz:Loc->Prop)(AnchW Next:AB->AD->Prop)(n:Nat)(Wk:Nat->Prop)(cr:Nat->Hands)(p0:Nat)
   (D:Nat->WD) (tag:Tag) (f0 d0:Nat) (a:AB) (st sm:Int) (gs:Array AB) (w:AD) (t:AI):Prop where
 size:gs.size=n
 here:gs[0]?=some a
 main:zi P ty Wg Bx Sh Fz AnchW Next tag f0 d0 a w
 ja:∀i x,i≠0->gs[i]?=some x->jT P ty Wg (cr i) (D i).stage (D i).fuel (D i).deaf x w/\Deaf t i=(D i).deaf
 old:∀i,¬Wk i->(D i).stage=1
 nine:∀i,Wk i->((D i).stage=9↔(cr i).s.c∈vI tag)
 source:∀c,c∈vI tag->∃i,Wk i/\(cr i).s.c=c
 nodup:(vI tag).Nodup
 open_:∀i,Wk i->(D i).stage=9->∃κ,w.heap[(cr i).s.c]?=some (.chan 0 #[] false κ κ false)
 shut:∀i,Wk i->(D i).stage=8->∃κ,w.heap[(cr i).s.c]?=some (.chan 0 #[] true κ κ false)
 fact:∀i,Wk i->8<=(D i).stage->holds (cr i).s.L w/\w.cell? ⟨(cr i).bx,0,none⟩=some (cr i).val
 wg:WgAt ty Wg w st sm
 mode:qA n D tag st sm
 tr:JTr Sh Fz Wk cr Wg p0 D w.heap.size t
 deaf:Deaf t 0=d0
 above:∀j,n<=j->Deaf t j=0
theorem qgi{r:Nat}(e:w'.heap[r]?=w.heap[r]?)(o:Nat)(s:Option _):w'.cell? ⟨r,o,s⟩=w.cell? ⟨r,o,s⟩:=by simp[Bt,e]
theorem qmq(h:holds L w)(hb:∀x,x∈L->w'.heap[x.1.block]?=w.heap[x.1.block]?):holds L w':=λx hx=>by
 rw[<-h x hx];unfold Bt;rw[hb x hx]
section
variable [Payload]{P:AF}{ty:AH}{Wg:Nat}{Bx:Nat->Prop}{Sh:Nat->Prop}{Fz:Loc->Prop}{AnchW Next:AB->AD->Prop}{n:Nat}{Wk:Nat->Prop}{cr:Nat->Hands}{p0:Nat}
 {D:Nat->WD} {tag:Tag} {f0 d0:Nat} {a:AB} {st sm:Int} {gs:Array AB} {w:AD} {t:AI}
theorem Join.at(J:Join P ty Wg Bx Sh Fz AnchW Next n Wk cr p0 D tag f0 d0 a st sm gs w t)(d:Nat):Join P ty Wg Bx Sh Fz AnchW Next n Wk cr p0 D tag f0 d0 a st sm gs (w.at d) t:=
 ⟨J.size,J.here,J.main.rely (RM.at w d),λi x hi hx=>⟨(J.ja i x hi hx).1.rely (RW.at w d),(J.ja i x hi hx).2⟩,J.old,J.nine,J.source,J.nodup,J.open_,J.shut,J.fact,J.wg,J.mode,J.tr,J.deaf,J.above⟩
theorem Join.lt(J:Join P ty Wg Bx Sh Fz AnchW Next n Wk cr p0 D tag f0 d0 a st sm gs w t)(hx:gs[i]?=some x):i<n:=by rw[<-J.size];exact(Ab.1 hx).1
structure zI[Payload](Wg b:Nat)(w w':AD):Prop where
 tape:w'.tape=w.tape
 os:w'.os=w.os
 output:w'.output=w.output
 size:w'.heap.size=w.heap.size
 block:∀r,r≠Wg->r≠b->w'.heap[r]?=w.heap[r]?
 pay:PayAt b 1 w->PayAt b 1 w'
theorem Join.step(G:jG P ty Wg Bx Sh Fz n Wk cr)(J:Join P ty Wg Bx Sh Fz AnchW Next n Wk cr p0 D tag f0 d0 a st sm gs w t)(hi:i≠0)(hx:gs[i]?=some x)
     {u:AI}   {tag':Tag}   {gs':Array AB}
   (hrel:zI Wg (cr i).bx w w') (hsame:¬Wk i∨8<=s'->w'.heap=w.heap) (hwg':WgAt ty Wg w' st' sm') (hs':jT P ty Wg (cr i) s' m' d' x' w')
   (hle:s'<=(D i).stage) (h9:s'=9↔(D i).stage=9)
   (hg:∀op∈u,op.g=i) (hh:ju Sh Fz (StJ Wk cr D) (LfJ Wk) 0 w.heap.size (t++u)) (hn:∀op∈u,op.act≠.mark (.release (stA Wg))) (hok:Wk i->s'<=6->jE (stA Wg) p0 (t++u) i) (hdf:Deaf (t++u) i=d')
   (hmain:zi P ty Wg Bx Sh Fz AnchW Next tag' f' d0 a' w') (htag:vI tag'=vI tag) (hmode:qA n (upd D i ⟨s',m',d'⟩) tag' st' sm')
   (hsz:gs'.size=n) (h0:gs'[0]?=some a') (hgi:gs'[i]?=some x') (hgo:∀j,j≠0->j≠i->gs'[j]?=gs[j]?) :
   Join P ty Wg Bx Sh Fz AnchW Next n Wk cr p0 (upd D i ⟨s',m',d'⟩) tag' f' d0 a' st' sm' gs' w' (t++u):=by
 have hst:∀j,j≠i->upd D i ⟨s',m',d'⟩ j=D j:=λj hj=>upd_ne D _ hj;have hsi:upd D i ⟨s',m',d'⟩ i=⟨s',m',d'⟩:=upd_same D i _;have s1:=(jT.zq hs').1
 have keep:∀j,Wk j->∀r,(r=(cr j).s.c∨(r=(cr j).bx/\j≠i))->w'.heap[r]?=w.heap[r]?:=λj hj r hr=>by
  by_cases hWi:Wk i
  . rcases hr with rfl|⟨rfl,hji⟩
    . exact hrel.block _ (G.cW j hj) (G.cB j i hj hWi)
    . exact hrel.block _ (G.bxW j hj) (λe=>hji (G.bxs j i hj hWi e))
  . rw[hsame (.inl hWi)]
 have rw_:∀j,j≠i->RW ty Wg (cr j).bx 1 0 0 w w'∨(D j).stage=1:=λj hj=>by
  by_cases hWj:Wk j
  . left;have hb:=keep j hWj (cr j).bx (.inr ⟨rfl,hj⟩);exact⟨λb hb0 _ _=>absurd hb0 (BL b),λ_=>⟨_,_,hwg'⟩,λ⟨cs,hc,hl⟩=>⟨cs,hb.trans hc,hl⟩,qgi hb 0 none⟩
  . exact .inr (J.old j hWj)
 refine⟨hsz,h0,hmain,λj y hj hy=>?_,λj hj=>?_,λj hj=>?_,by rw[htag];exact J.source,by rw[htag];exact J.nodup,λj hj h=>?_,λj hj h=>?_,λj hj h=>?_,hwg',hmode,?_,?_,λj hj=>?_⟩
 . by_cases hji:j=i
   . subst hji;rw[hgi]at hy;cases hy;rw[hsi];exact⟨hs',hdf⟩
   . rw[hgo j hj hji]at hy;rw[hst j hji,AR t (λe=>hji e.symm) u hg];obtain⟨h1,h2⟩:=J.ja j y hj hy;refine⟨?_,h2⟩;rcases rw_ j hji with h3|h3
     . exact h1.rely h3
     . rw[h3]at h1 |-;have h4:=h1.low (by omega);cases h4 with
       |quit hq=>exact .of (.quit hq)
 . by_cases hji:j=i
   . subst hji;have h1:=J.old j hj;rw[hsi];show s'=1;omega
   . rw[hst j hji];exact J.old j hj
 . rw[htag];by_cases hji:j=i
   . subst hji;rw[hsi];exact h9.trans (J.nine j hj)
   . rw[hst j hji];exact J.nine j hj
 . have h':(D j).stage=9:=by
    by_cases hji:j=i
    . subst hji;rw[hsi]at h;exact h9.1 h
    . rw[hst j hji]at h;exact h
   obtain⟨κ,hκ⟩:=J.open_ j hj h';exact⟨κ,(keep j hj _ (.inl rfl)).trans hκ⟩
 . have h':(D j).stage=8:=by
    by_cases hji:j=i
    . subst hji;rw[hsi]at h;have e:s'=8:=h;have h10:=h9;have hx9:=(J.ja j x hi hx).1.zq.2;by_cases h11:(D j).stage=9
      . have:=h10.2 h11;omega
      . omega
    . rw[hst j hji]at h;exact h
   obtain⟨κ,hκ⟩:=J.shut j hj h';exact⟨κ,(keep j hj _ (.inl rfl)).trans hκ⟩
 . by_cases hji:j=i
   . subst hji;rw[hsi]at h;have e:8<=s':=h;obtain⟨h1,h2⟩:=J.fact j hj (BI e hle);have hs:=hsame (.inr e);exact⟨qmq h1 (λy _=>by rw[hs]),(qgi (by rw[hs]) 0 none).trans h2⟩
   . rw[hst j hji]at h;obtain⟨h1,h2⟩:=J.fact j hj h;refine⟨qmq h1 (λy hy=>?_),(qgi (keep j hj _ (.inr ⟨rfl,hji⟩)) 0 none).trans h2⟩;by_cases hWi:Wk i
     . exact hrel.block _ (G.lW j hj y hy).1 ((G.lW j hj y hy).2 i hWi (λe=>hji e.symm))
     . rw[hsame (.inl hWi)]
 . rw[hrel.size];refine J.tr.step hh hg hn (λj=>?_) (λj hj=>by rw[hst j hj]) (λhW h6=>hok hW (by rw[hsi]at h6;exact h6));by_cases hji:j=i
   . subst hji;rw[hsi];exact hle
   . rw[hst j hji];exact BG _
 . rw[AR t hi u hg];exact J.deaf
 . have:=J.lt hx;rw[AR t (by omega) u hg];exact J.above j hj
end
end
section
open Go.Conc
open Go.ConcN (sumTo upd sumTo_upd upd_ne upd_same sumTo_congr WgLive RW DWs WSit WD AtR0 PayAt cnt Vc Ssum Fsum)
open Go.ConcR (KK WgAt stA smA rd wr mk Payload)
def phi(n V:Nat):Tag->Nat
 | .cl l=>8*n+8+l.length
 | .anch=>8*V+6
 | .w1=>8*V+5
 | .w2 vs=>8*vs+4
 | .w3=>5
 | .blk=>5
 | .w4=>4
 | .ke=>3
 | .acq=>2
theorem phi_mono(n:Nat){v v':Nat}(h:v'<=v)(tag:Tag):phi n v' tag<=phi n v tag:=by
 cases tag<;>simp only[phi]<;>omega
def mu(n:Nat)(D:Nat->WD)(tag:Tag)(f0:Nat):Nat×Nat:=(phi n (Vc n D) tag+Ssum n D,f0+2*Fsum n D)
def LtJ:Nat×Nat->Nat×Nat->Prop:=Prod.Lex (· < ·) (· < ·)
theorem yQ:WellFounded LtJ:=(Prod.lex BM BM).wf
def zJ(tag tag':Tag):Prop:=tag'=tag∨(tag=.blk/\tag'=.w3)
theorem phi_retag{v:Nat}{tag tag':Tag}(e:zJ tag tag'):phi n v tag'=phi n v tag:=by
 rcases e with rfl|⟨rfl,rfl⟩<;>rfl
theorem q10{tag tag':Tag}(e:zJ tag tag'):vI tag'=vI tag:=by
 rcases e with rfl|⟨rfl,rfl⟩<;>rfl
section
variable {n:Nat}{D D':Nat->WD}{tag tag':Tag}{st sm:Int}{i:Nat}
theorem qA.congr(h:∀a,a<n->(D' a).stage=(D a).stage)(hm:qA n D tag st sm):qA n D' tag st sm:=by
 have hv:Vc n D'=Vc n D:=sumTo_congr λa ha=>by simp only[cnt,h a ha]
 cases hm with
 |opn h1 h2 h3=>rw[<-hv];exact .opn h1 (λa ha=>by rw[h a ha];exact h2 a ha) (λvs e=>by rw[hv];exact h3 vs e)
 |reg h1 h2 h3=>rw[<-hv];exact .reg h1 (λa ha=>by rw[h a ha];exact h2 a ha) (by rw[hv];exact h3)
 |last L h1 h2 h3 h4=>rw[<-h L h2];exact .last L h1 h2 (by rw[h L h2];exact h3) (λa ha e=>by rw[h a ha];exact h4 a ha e)
 |sema h2=>exact .sema λa ha=>by rw[h a ha];exact h2 a ha
 |fin h1 h2=>exact .fin h1 λa ha=>by rw[h a ha];exact h2 a ha
theorem qA.retag(h:qA n D tag st sm)(e:zJ tag tag'):qA n D tag' st sm:=by
 rcases e with rfl|⟨rfl,rfl⟩
 . exact h
 . cases h with
   |opn h1 _ _=>exact h1.elim
   |reg _ h2 h3=>exact .reg trivial h2 h3
   |last L _ h2 h3 h4=>exact .last L trivial h2 h3 h4
   |fin h1 _=>exact h1.elim
theorem qA.same(hm:qA n D tag st sm)(m' d':Nat):qA n (upd D i ⟨(D i).stage,m',d'⟩) tag st sm:=
 hm.congr λa _=>by
  by_cases e:a=i
  . subst e;rw[upd_same]
  . rw[upd_ne D _ e]
theorem qvz(x:WD)(hi:i<n):Vc n (upd D i x)+cnt (D i)=Vc n D+cnt x:=sumTo_upd D x cnt hi
theorem qA.counted(hm:qA n D tag st sm)(hi:i<n)(h5:5<=(D i).stage)(hs:5<=s')(m' d':Nat):qA n (upd D i ⟨s',m',d'⟩) tag st sm:=by
 have hv:Vc n (upd D i ⟨s',m',d'⟩)=Vc n D:=by
  have:=qvz (D:=D) (⟨s',m',d'⟩:WD) hi;have c1:cnt (D i)=1:=by simp[cnt,h5]
  have c2:cnt (⟨s',m',d'⟩:WD)=1:=by simp[cnt,hs]
  omega
 have ho:(∀a,a<n->5<=(D a).stage∨(D a).stage=1)->∀a,a<n->5<=(upd D i ⟨s',m',d'⟩ a).stage∨(upd D i ⟨s',m',d'⟩ a).stage=1:=λh a ha=>by
  by_cases e:a=i
  . subst e;rw[upd_same];exact .inl hs
  . rw[upd_ne D _ e];exact h a ha
 cases hm with
 |opn h1 h2 h3=>rw[<-hv];exact .opn h1 (ho h2) (λvs e=>by rw[hv];exact h3 vs e)
 |reg h1 h2 h3=>rw[<-hv];exact .reg h1 (ho h2) (by rw[hv];exact h3)
 |last L h1 h2 h3 h4=>
  by_cases e:i=L
  . subst e;omega
  . have:=h4 i hi e;omega
 |sema h2=>have:=h2 i hi;omega
 |fin h1 h2=>have:=h2 i hi;omega
theorem lower{f0:Nat}(hi:i<n)(htag:zJ tag tag')(hf:f'<=f0+1)(hlt:(s'<(D i).stage/\cnt ⟨s',m',d'⟩<=cnt (D i))∨(s'=(D i).stage/\m'<(D i).fuel)) :
   LtJ (mu n (upd D i ⟨s',m',d'⟩) tag' f') (mu n D tag f0):=by
 have e1:=qvz (D:=D) (⟨s',m',d'⟩:WD) hi;have e2:=sumTo_upd D (⟨s',m',d'⟩:WD) WD.stage hi;have e3:=sumTo_upd D (⟨s',m',d'⟩:WD) WD.fuel hi;have a2:(sumTo n λa=>WD.stage (upd D i ⟨s',m',d'⟩ a))=Ssum n (upd D i ⟨s',m',d'⟩):=rfl;have a3:(sumTo n λa=>WD.stage (D a))=Ssum n D:=rfl;have a4:(sumTo n λa=>WD.fuel (upd D i ⟨s',m',d'⟩ a))=Fsum n (upd D i ⟨s',m',d'⟩):=rfl;have a5:(sumTo n λa=>WD.fuel (D a))=Fsum n D:=rfl;rw[a2,a3]at e2;rw[a4,a5]at e3;unfold mu LtJ;rw[phi_retag htag];rcases hlt with ⟨h1,h2⟩|⟨h1,h2⟩
 . refine BP _ _ ?_;have:=phi_mono n (v':=Vc n (upd D i ⟨s',m',d'⟩)) (v:=Vc n D) (by omega) tag;simp only at e2;omega
 . have ec:cnt (⟨s',m',d'⟩:WD)=cnt (D i):=by simp only[cnt,h1]
   have ev:Vc n (upd D i ⟨s',m',d'⟩)=Vc n D:=by omega
   have es':Ssum n (upd D i ⟨s',m',d'⟩)=Ssum n D:=by simp only at e2;omega
   rw[ev,es'];refine BQ _ ?_;simp only at e3;omega
end
section
variable [Payload]{P:AF}{ty:AH}{Wg:Nat}{Bx:Nat->Prop}{Sh:Nat->Prop}{Fz:Loc->Prop}{AnchW Next:AB->AD->Prop}{n:Nat}{Wk:Nat->Prop}{cr:Nat->Hands}{p0:Nat}
 {D:Nat->WD} {tag:Tag} {f0 d0:Nat} {a:AB} {st sm:Int} {gs:Array AB} {w:AD} {t:AI}
theorem Join.rm(G:jG P ty Wg Bx Sh Fz n Wk cr)(hrel:zI Wg (cr i).bx w w')(hsame:¬Wk i->w'.heap=w.heap)(hwg':WgAt ty Wg w' st' sm'):RM ty Wg Bx w w':=
 ⟨hrel.tape,hrel.os,hrel.output,hrel.size,λr h1 h2=>by
  by_cases hW:Wk i
  . exact hrel.block r h1 (λe=>h2 (e▸G.bx i hW))
  . rw[hsame hW],λ_=>⟨_,_,hwg'⟩,λr hr hp=>by
  by_cases e:r=(cr i).bx
  . subst e;exact hrel.pay hp
  . obtain⟨cs,h1,h2⟩:=hp;exact⟨cs,(hrel.block r (λk=>G.noW (k▸hr)) e).trans h1,h2⟩⟩
theorem Join.others(J:Join P ty Wg Bx Sh Fz AnchW Next n Wk cr p0 D tag f0 d0 a st sm gs w t)(hi:i≠0)(hx:gs[i]?=some x)(hc:∀j,Wk j->(D j).stage=9->w'.heap[(cr j).s.c]?=w.heap[(cr j).s.c]?) :
   ((gs.map (AN P x x' w')).setIfInBounds i x').size=n/\((gs.map (AN P x x' w')).setIfInBounds i x')[0]?=some (AN P x x' w' a)/\((gs.map (AN P x x' w')).setIfInBounds i x')[i]?=some x' /\
    ∀j,j≠0->j≠i->((gs.map (AN P x x' w')).setIfInBounds i x')[j]?=gs[j]?:=by
 have hsz:i<gs.size:=(Ab.1 hx).1;have vu:i<(gs.map (AN P x x' w')).size:=by simpa using hsz
 refine⟨by simp[J.size],?_,by rw[qbf _ _ _ _ vu,if_pos rfl],λj hj hji=>?_⟩
 . rw[qbf _ _ _ _ vu,if_neg hi,Aj,J.here];rfl
 . rw[qbf _ _ _ _ vu,if_neg (λe=>hji e.symm),Aj];cases hy:gs[j]? with
   |none=>rfl
   |some y=>
    have h1:=(J.ja j y hj hy).1
    have:AN P x x' w' y=y:=by
     unfold AN;split
     . rcases h1.status with e|⟨e,_⟩|⟨e,e'⟩
       . exact AO _ (.inl e)
       . exact AO _ (.inr e)
       . have hW:Wk j:=AA (λhn=>by have:=J.old j hn;omega);obtain⟨κ,hκ⟩:=J.open_ j hW e;rw[e'];exact AU (k:=rcase (cr j).s.c (cr j).s.z) (c:=(cr j).s.c) (s:=κ) (r:=κ) (tm:=false) rfl ((hc j hW e).trans hκ)
     . rfl
    show some (AN P x x' w' y)=some y;rw[this]
theorem Join.go(G:jG P ty Wg Bx Sh Fz n Wk cr)(hA:∀g w,AnchW g w->g.status=.running)(J:Join P ty Wg Bx Sh Fz AnchW Next n Wk cr p0 D tag f0 d0 a st sm gs w t)(hi:i≠0)(hx:gs[i]?=some x)
        {sl:Option (Nat×Nat)} (hgo:stepG P false x w=.go x' w' es)
   (hrel:zI Wg (cr i).bx w w') (hsame:¬Wk i∨8<=s'->w'.heap=w.heap) (hwg':WgAt ty Wg w' st' sm') (hs':jT P ty Wg (cr i) s' m' d' x' w')
   (hlt:(s'<(D i).stage/\cnt ⟨s',m',d'⟩<=cnt (D i))∨(s'=(D i).stage/\m'<(D i).fuel)) (h9:s'=9↔(D i).stage=9)
   (hh:ju Sh Fz (StJ Wk cr D) (LfJ Wk) 0 w.heap.size (t++Bj i x.frame.fn x.frame.place es)) (hn:∀e,e∈es->e.loc≠.mark (.release (stA Wg)))
   (hok:Wk i->s'<=6->jE (stA Wg) p0 (t++Bj i x.frame.fn x.frame.place es) i) (hdf:deafBehind (D i).deaf es=d')
   (hmode:∀tag',zJ tag tag'->(mayWake P x=true->x'.status≠.blocked->x'.status≠.waiting->tag'≠.blk)->qA n (upd D i ⟨s',m',d'⟩) tag' st' sm') :
   ∃gs' ops tag' f' a',runT P (crowd gs w sl) i=(.next (crowd gs' w' sl),ops)/\Join P ty Wg Bx Sh Fz AnchW Next n Wk cr p0 (upd D i ⟨s',m',d'⟩) tag' f' d0 a' st' sm' gs' w' (t++ops)/\LtJ (mu n (upd D i ⟨s',m',d'⟩) tag' f') (mu n D tag f0):=by
 have hi0:(i==0)=false:=by simp[hi]
 have hrun:=AT (P:=P) (sl:=sl) (i:=i) hx (by rw[hi0];exact hgo)
 have hcc:∀j,Wk j->(D j).stage=9->w'.heap[(cr j).s.c]?=w.heap[(cr j).s.c]?:=λj hj _=>by
  by_cases hW:Wk i
  . exact hrel.block _ (G.cW j hj) (G.cB j i hj hW)
  . rw[hsame (.inl hW)]
 obtain⟨o1,o2,o3,o4⟩:=J.others (x':=x') hi hx hcc;obtain⟨tag',f',h1,h2,h3⟩:=(J.main.rely (Join.rm G hrel (λh=>hsame (.inl h)) hwg')).woken hA x x';have htag:zJ tag tag':=h1.imp (λy=>y.1) (λy=>⟨y.1,y.2.1⟩)
 have hnr:∀op∈Bj i x.frame.fn x.frame.place es,op.act≠.mark (.release (stA Wg)):=λop hop=>by
  obtain⟨e,he,rfl⟩:=Go.Conc.mem_ofEvents hop;intro e0;have:=hn e he;obtain⟨loc,wr,sy⟩:=e;cases loc with
  |mark m=>cases e0;exact this rfl
  |obj c=>cases wr<;>cases sy<;>cases e0
  |_=>cases wr<;>cases sy<;>cases e0
 refine⟨_,_,tag',f',AN P x x' w' a,hrun,?_,lower (J.lt hx) htag (by rcases h1 with ⟨_,e⟩|⟨_,_,e,_⟩<;>omega) hlt⟩;have hle:s'<=(D i).stage:=by rcases hlt with h|h<;>omega
 exact J.step G hi hx hrel hsame hwg' hs' hle h9 qck hh hnr hok (by rw[AW,(J.ja i x hi hx).2];exact hdf) h2 (q10 htag) (hmode tag' htag h3) o1 o2 o3 o4
end
end
section
open Go.Conc
open Go.ConcN (sumTo upd sumTo_upd upd_ne upd_same sumTo_congr le_sumTo WgLive RW DWs WSit WD AtR0 PayAt cnt Vc Ssum Fsum ShN)
open Go.ConcR (KK WgAt stA smA rd wr mk Payload)
theorem zI.refl[Payload](Wg b:Nat)(w:AD):zI Wg b w w:=⟨rfl,rfl,rfl,rfl,λ_ _ _=>rfl,id⟩
theorem zI.of[Payload]{b:Nat}(h:AY Wg w w')(hb:b≠Wg):zI Wg b w w':=⟨h.tape,h.os,h.output,h.size,λr h1 _=>h.block r h1,λ⟨cs,h1,h2⟩=>⟨cs,(h.block b hb).trans h1,h2⟩⟩
theorem qdB(n:Nat)(D:Nat->WD):Vc n D<=n:=Go.ConcN.Vc_le n D
theorem qyn{k:Touch.Kind}(h1:k≠.plain)(h2:k≠.said):k=.atomic:=by cases k<;>first|rfl|exact absurd rfl h1|exact absurd rfl h2
section
variable {Sh:Nat->Prop}{Fz:Loc->Prop}{t:AI}
theorem q68{St:Nat->Loc->Prop}{Lf:Nat->Prop}(H:ju Sh Fz St Lf 0 B t)(hL:¬Lf i)(hS:Sh Wg)(hB:Wg<B)(he:∀e∈es,Go.ConcN.EvW Wg qlh qlh 1 e)(fn:AJ)(pos:String) :
   ju Sh Fz St Lf 0 B (t++Bj i fn pos es):=by
 have key:∀op∈Bj i fn pos es,∀x,op.act.touch?=some x->(∃b:Addr,x.loc=.cell b/\b.block=Wg)/\x.kind=.atomic:=λop hop x hx=>by
  obtain⟨e,hee,rfl⟩:=Go.Conc.mem_ofEvents hop;rcases ((he e hee).1 fn pos).2 x hx with ⟨⟨b,h1,h2⟩,h3,h4⟩|h1|⟨h1,_⟩
  . exact⟨⟨b,h1,h2⟩,qyn h3 h4⟩
  . exact h1.elim
  . exact h1.elim
 refine H.atomic hL qck (λop hop x hx=>?_) (λop hop x hx=>?_)
 . obtain⟨⟨b,h1,h2⟩,h3⟩:=key op hop x hx;rw[h1];exact⟨show Sh b.block from h2▸hS,h3⟩
 . obtain⟨⟨b,h1,h2⟩,_⟩:=key op hop x hx;rw[h1];show b.block<B;rw[h2];exact hB
theorem q4a{St:Nat->Loc->Prop}{Lf:Nat->Prop}(H:ju Sh Fz St Lf 0 B t)(hL:¬Lf i)(hS:Sh Wg)(hB:Wg<B)(he:∀e,e∈es->∀x,(Bi e).touch?=some x->(∃b:Addr,x.loc=.cell b/\b.block=Wg)/\x.kind=.atomic)(fn:AJ)(pos:String) :
   ju Sh Fz St Lf 0 B (t++Bj i fn pos es):=by
 refine H.atomic hL qck (λop hop x hx=>?_) (λop hop x hx=>?_)
 . obtain⟨e,hee,rfl⟩:=Go.Conc.mem_ofEvents hop;obtain⟨⟨b,h1,h2⟩,h3⟩:=he e hee x hx;rw[h1];exact⟨show Sh b.block from h2▸hS,h3⟩
 . obtain⟨e,hee,rfl⟩:=Go.Conc.mem_ofEvents hop;obtain⟨⟨b,h1,h2⟩,_⟩:=he e hee x hx;rw[h1];show b.block<B;rw[h2];exact hB
theorem qv0{St:Nat->Loc->Prop}{Lf:Nat->Prop}(H:ju Sh Fz St Lf 0 B t)(he:∀e,e∈es->∃m,e.loc=.mark m/\(∀b,m≠.read b/\m≠.write b))(fn:AJ)(pos:String) :
   ju Sh Fz St Lf 0 B (t++Bj i fn pos es)/\∀op∈Bj i fn pos es,op.act.touch?=none:=by
 have key:∀op∈Bj i fn pos es,op.act.touch?=none:=λop hop=>by
  obtain⟨e,hee,rfl⟩:=Go.Conc.mem_ofEvents hop;obtain⟨m,h1,h2⟩:=he e hee;obtain⟨l,x1,x2⟩:=e;cases h1;cases m with
  |read b=>exact absurd rfl (h2 b).1
  |write b=>exact absurd rfl (h2 b).2
  |_=>rfl
 exact⟨H.mute key,key⟩
end
section
variable {P:AF}{w:AD}
theorem qc1{main:Bool}{R:AD->AD->Prop}{Dd:AD->AD->Array AL->Prop}{Stop:AB->AD->Prop}(hR:R w w)(h:Goes P main R Dd Stop m g w) :
   Stop g w∨∃m',m=m'+1/\∃g' w' es,stepG P main g w=.go g' w' es/\Dd w w' es/\Goes P main R Dd Stop m' g' w':=by
 cases m with
 |zero=>exact .inl (h w hR)
 |succ m=>
  rcases h with h|⟨_,h⟩
  . exact .inl (h w hR)
  . obtain⟨g',w',es,h1,h2,h3⟩:=goes_elim (h w hR);exact .inr ⟨m,rfl,g',w',es,h1,h2,h3⟩
end
section
variable [Payload]{P:AF}{ty:AH}{Wg:Nat}{Bx:Nat->Prop}{Sh:Nat->Prop}{Fz:Loc->Prop}{AnchW Next:AB->AD->Prop}{n:Nat}{Wk:Nat->Prop}{cr:Nat->Hands}{p0:Nat}
 {D:Nat->WD} {tag:Tag} {f0 d0:Nat} {a:AB} {st sm:Int} {gs:Array AB} {w:AD} {t:AI}
def qmr[Payload](P:AF)(ty:AH)(Wg:Nat)(Bx:Nat->Prop)(Sh:Nat->Prop)(Fz:Loc->Prop)(AnchW Next:AB->AD->Prop)(n:Nat)(Wk:Nat->Prop)(cr:Nat->Hands)(p0:Nat)
   (D:Nat->WD) (tag:Tag) (f0 d0:Nat) (gs:Array AB) (w:AD) (t:AI) (sl:Option (Nat×Nat)) (i:Nat):Prop:=
 ∃gs' w' ops D' tag' f' a' st' sm',runT P (crowd gs w sl) i=(.next (crowd gs' w' sl),ops)/\Join P ty Wg Bx Sh Fz AnchW Next n Wk cr p0 D' tag' f' d0 a' st' sm' gs' w' (t++ops)/\LtJ (mu n D' tag' f') (mu n D tag f0)
theorem Join.quit(G:jG P ty Wg Bx Sh Fz n Wk cr)(hA:∀g w,AnchW g w->g.status=.running)(J:Join P ty Wg Bx Sh Fz AnchW Next n Wk cr p0 D tag f0 d0 a st sm gs w t)(hi:i≠0)(hx:gs[i]?=some x)(hr:x.status=.running)
   (hs:(D i).stage=1) (sl:Option (Nat×Nat)):qmr P ty Wg Bx Sh Fz AnchW Next n Wk cr p0 D tag f0 d0 gs w t sl i:=by
 obtain⟨hJ,hd⟩:=J.ja i x hi hx;have hW:=hJ.low (by omega);rw[hs]at hW;cases hW with
 |quit hq=>
  cases hf:(D i).fuel with
  |zero=>rw[hf]at hq;rw[hq.1]at hr;cases hr
  |succ m=>
   rw[hf]at hq;rcases hq with ⟨h1,_⟩|⟨_,x',es,hm,hst,hq'⟩
   . rw[h1]at hr;cases hr
   . have hmt:∀op∈Bj i x.frame.fn x.frame.place es,op.act.touch?=none:=λop hop=>by obtain⟨e,he,rfl⟩:=Go.Conc.mem_ofEvents hop;exact touch_mute (hm e he)
     obtain⟨gs',ops,tag',f',a',h1,h2,h3⟩:=J.go G hA hi hx (sl:=sl) (s':=1) (m':=m) (hst w) (zI.refl _ _ w) (λ_=>rfl) J.wg (.of (.quit hq')) (.inr ⟨hs.symm,by omega⟩) (by rw[hs])
      (J.tr.jw.mute hmt) (λe he e0=>by have:=hm e he;obtain⟨l,x1,x2⟩:=e;cases e0;cases this) (λhw _=>(J.tr.rel i hw (by omega)).other (λop hop _=>hmt op hop)) rfl
      (λtag' ht _=>(by have:=(J.mode.same (i:=i) m (deafBehind (D i).deaf es)).retag ht;rw[hs]at this;exact this))
     exact⟨gs',w,ops,_,tag',f',a',_,_,h1,h2,h3⟩
theorem Join.xp(J:Join P ty Wg Bx Sh Fz AnchW Next n Wk cr p0 D tag f0 d0 a st sm gs w t)(h:(D i).stage≠1):Wk i:=AA (λhn=>h (J.old i hn))
theorem Join.wlt(J:Join P ty Wg Bx Sh Fz AnchW Next n Wk cr p0 D tag f0 d0 a st sm gs w t):Wg<w.heap.size:=(Ab.1 J.wg).1
theorem Join.rel(G:jG P ty Wg Bx Sh Fz n Wk cr)(hA:∀g w,AnchW g w->g.status=.running)(J:Join P ty Wg Bx Sh Fz AnchW Next n Wk cr p0 D tag f0 d0 a st sm gs w t)(hi:i≠0)(hx:gs[i]?=some x)
   (hs:(D i).stage=7) (sl:Option (Nat×Nat)):qmr P ty Wg Bx Sh Fz AnchW Next n Wk cr p0 D tag f0 d0 gs w t sl i:=by
 obtain⟨hJ,hd⟩:=J.ja i x hi hx;have hWk:=J.xp (i:=i) (by omega);have hL:¬LfJ Wk i:=λh=>h.2 hWk;have hW:=hJ.low (by omega);rw[hs]at hW;generalize hdd:(D i).deaf=dd at hW;cases hW with
 |r0 hg=>
  rcases qc1 (RW.refl w) hg with hst|⟨m',hm,g',w',es,hgo,⟨hcell,hev⟩,hg'⟩
  . obtain⟨_,_,g',hgo,m',hg'⟩:=hst;obtain⟨hh,_⟩:=qv0 (i:=i) J.tr.jw (es:=#[Bb (Mark.releaseMerge (stA Wg))]) (λe he=>⟨.releaseMerge (stA Wg),by rw[Ah]at he;rw[he];rfl,λb=>⟨by simp,by simp⟩⟩) x.frame.fn x.frame.place
    obtain⟨gs',ops,tag',f',a',h1,h2,h3⟩:=J.go G hA hi hx (sl:=sl) (s':=6) (m':=m') (d':=0) hgo (zI.refl _ _ w) (λ_=>rfl) J.wg (.of (.k1 hg')) (.inl ⟨by omega,by simp[cnt,hs]⟩) (by rw[hs];omega) hh
     (λe he e0=>by rw[Ah]at he;rw[he]at e0;cases e0) (λ_ _=>by
      have:Bj i x.frame.fn x.frame.place #[Bb (Mark.releaseMerge (stA Wg))]=#[{g:=i,fn:=x.frame.fn,pos:=x.frame.place,act:=.mark (.releaseMerge (stA Wg))}]:=by simp[Bj,Bb,Bi]
      rw[this];exact jE.new J.tr.start rfl rfl (by rw[hd,hdd])) (by rw[hdd];rfl) (λtag' ht _=>(J.mode.counted (J.lt hx) (by omega) (s':=6) (by omega) m' 0).retag ht)
    exact⟨gs',w,ops,_,tag',f',a',_,_,h1,h2,h3⟩
  . have hwg':WgAt ty Wg w' st sm:=(hcell.block Wg (λe=>G.bxW i hWk e.symm)).trans J.wg
    obtain⟨gs',ops,tag',f',a',h1,h2,h3⟩:=J.go G hA hi hx (sl:=sl) (s':=7) (m':=m') (d':=0) hgo ⟨hcell.tape,hcell.os,hcell.output,hcell.size,λr _ h=>hcell.block r h,hcell.pay⟩ (λh=>h.elim (λy=>absurd hWk y) (λy=>by omega)) hwg' (.of (.r0 hg')) (.inr ⟨hs.symm,by omega⟩) (by rw[hs])
     (q68 J.tr.jw hL G.zS J.wlt hev _ _) (λe he=>(hev e he).2.2.2) (λ_ h=>by omega) (by rw[hdd];exact deafBehind_still (λe he=>⟨(hev e he).2.1,(hev e he).2.2.1⟩) 0)
     (λtag' ht _=>by have:=(J.mode.same (i:=i) m' 0).retag ht;rw[hs]at this;exact this)
    exact⟨gs',w',ops,_,tag',f',a',_,_,h1,h2,h3⟩
theorem Join.idle(G:jG P ty Wg Bx Sh Fz n Wk cr)(hA:∀g w,AnchW g w->g.status=.running)(J:Join P ty Wg Bx Sh Fz AnchW Next n Wk cr p0 D tag f0 d0 a st sm gs w t)(hi:i≠0)(hx:gs[i]?=some x)
    (hgo:stepG P false x w=.go x' w #[]) (hs':jT P ty Wg (cr i) (D i).stage m' (D i).deaf x' w) (hlt:m'<(D i).fuel) (sl:Option (Nat×Nat)):qmr P ty Wg Bx Sh Fz AnchW Next n Wk cr p0 D tag f0 d0 gs w t sl i:=by
 have hnil:Bj i x.frame.fn x.frame.place #[]=#[]:=by simp[Bj]
 have hb:t++Bj i x.frame.fn x.frame.place #[]=t:=by rw[hnil];simp
 obtain⟨gs',ops,tag',f',a',h1,h2,h3⟩:=J.go G hA hi hx (sl:=sl) (s':=(D i).stage) (m':=m') (d':=(D i).deaf) hgo (zI.refl _ _ w) (λ_=>rfl) J.wg hs' (.inr ⟨rfl,hlt⟩) Iff.rfl
  (by rw[hb];exact J.tr.jw) (λe he=>by simp at he) (λhW h=>by rw[hb];exact J.tr.rel i hW h) rfl (λtag' ht _=>(J.mode.same (i:=i) m' (D i).deaf).retag ht)
 exact⟨gs',w,ops,_,tag',f',a',_,_,h1,h2,h3⟩
theorem Join.dis(G:jG P ty Wg Bx Sh Fz n Wk cr)(hA:∀g w,AnchW g w->g.status=.running)(J:Join P ty Wg Bx Sh Fz AnchW Next n Wk cr p0 D tag f0 d0 a st sm gs w t)(hi:i≠0)(hx:gs[i]?=some x)
   (hs:(D i).stage=6) (sl:Option (Nat×Nat)):qmr P ty Wg Bx Sh Fz AnchW Next n Wk cr p0 D tag f0 d0 gs w t sl i:=by
 obtain⟨hJ,hd⟩:=J.ja i x hi hx;have hW:=hJ.low (by omega);rw[hs]at hW;generalize hdd:(D i).deaf=dd at hW;cases hW with
 |k1 hg=>
  rcases qc1 (RW.refl w) hg with hst|⟨m',hm,g',w',es,hgo,⟨rfl,rfl⟩,hg'⟩
  . obtain⟨_,g',hgo,m',hg'⟩:=hst;obtain⟨hh,hm⟩:=qv0 (i:=i) J.tr.jw (es:=#[Bb .disable]) (λe he=>⟨.disable,by rw[Ah]at he;rw[he];rfl,λb=>⟨by simp,by simp⟩⟩) x.frame.fn x.frame.place
    obtain⟨gs',ops,tag',f',a',h1,h2,h3⟩:=J.go G hA hi hx (sl:=sl) (s':=5) (m':=m') (d':=1) hgo (zI.refl _ _ w) (λ_=>rfl) J.wg (.of (.d1 hg')) (.inl ⟨by omega,by simp[cnt,hs]⟩) (by rw[hs];omega) hh
     (λe he e0=>by rw[Ah]at he;rw[he]at e0;cases e0) (λhw _=>(J.tr.rel i hw (by omega)).other (λop hop _=>hm op hop)) (by rw[hdd];rfl)
     (λtag' ht _=>(J.mode.counted (J.lt hx) (by omega) (s':=5) (by omega) m' 1).retag ht)
    exact⟨gs',w,ops,_,tag',f',a',_,_,h1,h2,h3⟩
  . exact J.idle G hA hi hx hgo (by rw[hs,hdd];exact .of (.k1 hg')) (by omega) sl
end
end
section
open Go.Conc
open Go.ConcN (sumTo upd sumTo_upd upd_ne upd_same sumTo_congr le_sumTo WgLive RW DWs WSit WD AtR0 PayAt cnt Vc Ssum Fsum ShN)
open Go.ConcR (KK WgAt stA smA rd wr Payload)
theorem q88(a:Addr)(Wg:Nat)(h:a.block=Wg):∀x,(Bi (rd a)).touch?=some x->(∃b:Addr,x.loc=.cell b/\b.block=Wg)/\x.kind=.atomic:=λx hx=>by
 cases hx;exact⟨⟨a,rfl,h⟩,rfl⟩
theorem q89(a:Addr)(Wg:Nat)(h:a.block=Wg):∀x,(Bi (wr a)).touch?=some x->(∃b:Addr,x.loc=.cell b/\b.block=Wg)/\x.kind=.atomic:=λx hx=>by
 cases hx;exact⟨⟨a,rfl,h⟩,rfl⟩
structure Book(Wg:Nat)(es:Array AL):Prop where
 touch:∀e,e∈es->∀x,(Bi e).touch?=some x->(∃b:Addr,x.loc=.cell b/\b.block=Wg)/\x.kind=.atomic
 last:∀(j:Nat) (e:AL),es[j]?=some e->(Bi e).touch?≠none->∀(j':Nat),j'<j->∀(e':AL),es[j']?=some e'->Bi e'≠.mark .enable
 norel:∀e,e∈es->e.loc≠.mark (.release (stA Wg))
theorem qp4(Wg:Nat):Book Wg #[rd (stA Wg)]:=by
 refine⟨λe he=>?_,λj e hj _ j' hlt e' he'=>?_,λe he=>?_⟩
 . rw[Ah]at he;rw[he];exact q88 _ _ rfl
 . have:=(Ab.1 hj).1;simp at this;omega
 . rw[Ah]at he;rw[he];simp[rd]
theorem q9a(Wg:Nat):Book Wg #[wr (stA Wg)]:=by
 refine⟨λe he=>?_,λj e hj _ j' hlt e' he'=>?_,λe he=>?_⟩
 . rw[Ah]at he;rw[he];exact q89 _ _ rfl
 . have:=(Ab.1 hj).1;simp at this;omega
 . rw[Ah]at he;rw[he];simp[wr]
theorem qld(Wg:Nat):Book Wg #[rd (stA Wg),wr (stA Wg)]:=by
 refine⟨λe he=>?_,λj e hj _ j' hlt e' he'=>?_,λe he=>?_⟩
 . have:e=rd (stA Wg)∨e=wr (stA Wg):=by simpa using he
   rcases this with rfl|rfl
   . exact q88 _ _ rfl
   . exact q89 _ _ rfl
 . have:=(Ab.1 hj).1;simp at this;obtain rfl:j'=0:=by omega
   cases he';exact λh=>by cases h
 . have:e=rd (stA Wg)∨e=wr (stA Wg):=by simpa using he
   rcases this with rfl|rfl<;>simp[rd,wr]
theorem q0j(Wg:Nat):Book Wg (semEvents (smA Wg)):=by
 have four:∀e,e∈semEvents (smA Wg)->e=⟨.mark .disable,false,true⟩∨e=rd (smA Wg)∨e=wr (smA Wg)∨e=⟨.mark .enable,false,true⟩:=λe he=>by
  simpa[semEvents,rd,wr]using he
 refine⟨λe he=>?_,λj e hj ht j' hlt e' he'=>?_,λe he=>?_⟩
 . rcases four e he with rfl|rfl|rfl|rfl
   . intro x hx;cases hx
   . exact q88 _ _ rfl
   . exact q89 _ _ rfl
   . intro x hx;cases hx
 . have hsz:=(Ab.1 hj).1;simp[semEvents]at hsz
   match j,hsz with
   |0,_=>omega
   |1,_=>
    obtain rfl:j'=0:=by omega
    cases he';exact λh=>by cases h
   |2,_=>
    match j',hlt with
    |0,_=>cases he';exact λh=>by cases h
    |1,_=>cases he';exact λh=>by cases h
   |3,_=>cases hj;exact absurd rfl ht
 . rcases four e he with rfl|rfl|rfl|rfl<;>simp[rd,wr]
theorem uncounted{D:Nat->WD}(hi:i<n)(h1:Vc n D=1)(hc:cnt (D i)=1):∀a,a<n->a≠i->cnt (D a)=0:=by
 intro a ha e;have h0:=qvz (D:=D) (⟨0,0,0⟩:WD) hi;have c0:cnt (⟨0,0,0⟩:WD)=0:=rfl;have:=le_sumTo (f:=λx=>cnt (upd D i ⟨0,0,0⟩ x)) ha;simp only[upd_ne D _ e]at this;simp only[Vc]at h0 h1;omega
theorem qA.isLast{D:Nat->WD}{tag:Tag}{st:Int}(hm:qA n D tag st sm)(hi:i<n)(h:(D i).stage=4∨(D i).stage=3∨(D i).stage=2) :
   isW tag/\(∀a,a<n->a≠i->(D a).stage=1)/\st=(if (D i).stage=2 then 0 else 1)/\sm=0:=by
 cases hm with
 |opn _ h2 _=>have:=h2 i hi;omega
 |reg _ h2 _=>have:=h2 i hi;omega
 |last L h1 h2 h3 h4=>
  by_cases e:i=L
  . subst e;exact⟨h1,h4,rfl,rfl⟩
  . have:=h4 i hi e;omega
 |sema h2=>have:=h2 i hi;omega
 |fin _ h2=>have:=h2 i hi;omega
theorem qA.zT{D:Nat->WD}{tag:Tag}(hw:isW tag)(hi:i<n)(ho:∀a,a<n->a≠i->(D a).stage=1)(hs:s'=3∨s'=2):qA n (upd D i ⟨s',m',d'⟩) tag (if s'=2 then 0 else 1) 0:=by
 have key:qA n (upd D i ⟨s',m',d'⟩) tag (if (upd D i ⟨s',m',d'⟩ i).stage=2 then 0 else 1) 0:=.last i hw hi (by rw[upd_same];exact hs.elim (λh=>.inr (.inl h)) (λh=>.inr (.inr h))) (λa ha e=>by rw[upd_ne D _ e];exact ho a ha e);rw[upd_same]at key;exact key
section
variable [Payload]{P:AF}{ty:AH}{Wg:Nat}{Bx:Nat->Prop}{Sh:Nat->Prop}{Fz:Loc->Prop}{AnchW Next:AB->AD->Prop}{n:Nat}{Wk:Nat->Prop}{cr:Nat->Hands}{p0:Nat}
 {D:Nat->WD} {tag:Tag} {f0 d0:Nat} {a:AB} {st sm:Int} {gs:Array AB} {w:AD} {t:AI}
theorem Join.book(G:jG P ty Wg Bx Sh Fz n Wk cr)(hA:∀g w,AnchW g w->g.status=.running)(J:Join P ty Wg Bx Sh Fz AnchW Next n Wk cr p0 D tag f0 d0 a st sm gs w t)(hi:i≠0)(hx:gs[i]?=some x)
   (hs:2<=(D i).stage/\(D i).stage<=5) (hd:(D i).deaf=1)      (hgo:stepG P false x w=.go x' w' es) (hw:AY Wg w w') (hwg':WgAt ty Wg w' st' sm')
   (hb:Book Wg es) (hs':jT P ty Wg (cr i) s' m' d' x' w') (hlt:s'<(D i).stage) (hdf:deafBehind 1 es=d')
   (hmode:∀tag',zJ tag tag'->(mayWake P x=true->x'.status≠.blocked->x'.status≠.waiting->tag'≠.blk)->qA n (upd D i ⟨s',m',d'⟩) tag' st' sm') (sl:Option (Nat×Nat)) :
   qmr P ty Wg Bx Sh Fz AnchW Next n Wk cr p0 D tag f0 d0 gs w t sl i:=by
 have hWk:=J.xp (i:=i) (by omega);have hL:¬LfJ Wk i:=λh=>h.2 hWk;have hdt:Deaf t i=1:=(J.ja i x hi hx).2.trans hd
 obtain⟨gs',ops,tag',f',a',h1,h2,h3⟩:=J.go G hA hi hx (sl:=sl) (s':=s') (m':=m') (d':=d') hgo (zI.of hw (G.bxW i hWk)) (λh=>h.elim (λy=>absurd hWk y) (λy=>by omega)) hwg' hs'
  (.inl ⟨hlt,by simp only[cnt];split<;>split<;>omega⟩) (by omega) (q4a J.tr.jw hL G.zS J.wlt hb.touch _ _) hb.norel
  (λhW _=>(J.tr.rel i hW (by omega)).app (λj op y hj hy hg hyt=>by
   rcases AS hy with ⟨hlt',_⟩|⟨_,hop⟩
   . omega
   . obtain⟨e,hee,rfl⟩:=Go.Conc.mem_ofEvents hop;exact⟨(hb.touch e hee y hyt).2,qv4 (by rw[hdt];exact Nat.one_pos) hb.last j _ y hj hy hyt⟩)) (by rw[hd];exact hdf) hmode
 exact⟨gs',w',ops,_,tag',f',a',_,_,h1,h2,h3⟩
theorem Join.add(G:jG P ty Wg Bx Sh Fz n Wk cr)(hA:∀g w,AnchW g w->g.status=.running)(J:Join P ty Wg Bx Sh Fz AnchW Next n Wk cr p0 D tag f0 d0 a st sm gs w t)(hi:i≠0)(hx:gs[i]?=some x)
   (hs:(D i).stage=5) (sl:Option (Nat×Nat)):qmr P ty Wg Bx Sh Fz AnchW Next n Wk cr p0 D tag f0 d0 gs w t sl i:=by
 obtain⟨hJ,hd⟩:=J.ja i x hi hx;have hin:=J.lt hx;have hW:=hJ.low (by omega);rw[hs]at hW;generalize hdd:(D i).deaf=dd at hW;have hci:cnt (D i)=1:=by simp[cnt,hs]
 have hV1:1<=Vc n D:=by
  have:=le_sumTo (f:=λa=>cnt (D a)) hin;simp only[Vc];omega
 have hVn:=qdB n D;have xq:=G.few;cases hW with
 |d1 hg=>
  rcases qc1 (RW.refl w) hg with hst|⟨m',hm,g',w',es,hgo,⟨rfl,rfl⟩,hg'⟩
  . obtain⟨_,hst⟩:=hst;obtain⟨v,hv⟩:∃v,Vc n D=v+1:=⟨Vc n D-1,by omega⟩
    have others:∀s' m' d',(∀a,a<n->5<=(D a).stage∨(D a).stage=1)->(s'=1∨5<=s')->∀a,a<n->5<=(upd D i ⟨s',m',d'⟩ a).stage∨(upd D i ⟨s',m',d'⟩ a).stage=1:=λs' m' d' h hs' a ha=>by
     by_cases e:a=i
     . subst e;rw[upd_same];exact hs'.elim .inr .inl
     . rw[upd_ne D _ e];exact h a ha
    have hvc:∀m' d',Vc n (upd D i ⟨1,m',d'⟩)=v:=λm' d'=>by
     have:=qvz (D:=D) (⟨1,m',d'⟩:WD) hin;have c1:cnt (⟨1,m',d'⟩:WD)=0:=rfl;omega
    have wga:=J.wg;have hmode:=J.mode;cases hmode with
    |opn h1 h2 h3=>
     rw[hv]at wga;obtain⟨g',hgo,_,hq⟩:=hst v 0 (by omega) (by omega) (by simpa using wga);obtain⟨q,hq⟩:=hq (λh=>by omega)
     have kV:WgAt ty Wg (w.setCell (stA Wg) (.int .u64 (v*KK+(0:Nat)))) (v*KK) 0:=by
      have:=wga.setSt (v*KK+(0:Nat));simpa using this
     exact J.book G hA hi hx (by omega) hdd hgo (AP w (stA Wg) _) kV (qld Wg) (.of (.quit hq)) (by omega) rfl
      (λtag' ht _=>by
       have key:qA n (upd D i ⟨1,q,1⟩) tag ((Vc n (upd D i ⟨1,q,1⟩):Nat)*KK) 0:=.opn h1 (others 1 q 1 h2 (.inl rfl)) (λvs e=>by rw[hvc];have:=h3 vs e;omega);rw[hvc]at key;exact key.retag ht) sl
    |reg h1 h2 h3=>
     rw[hv]at wga;obtain⟨g',hgo,hl,hq⟩:=hst v 1 (by omega) (by omega) (by simpa using wga)
     have kV:WgAt ty Wg (w.setCell (stA Wg) (.int .u64 (v*KK+(1:Nat)))) (v*KK+1) 0:=by
      have:=wga.setSt (v*KK+(1:Nat));simpa using this
     by_cases hv0:v=0
     . subst hv0;obtain⟨m',hg'⟩:=hl ⟨rfl,rfl⟩;refine J.book G hA hi hx (by omega) hdd hgo (AP w (stA Wg) _) kV (qld Wg) (.of (.d2 hg')) (by omega) rfl (λtag' ht _=>?_) sl;have hun:=uncounted hin hv hci
       have key:qA n (upd D i ⟨4,m',1⟩) tag (if (upd D i ⟨4,m',1⟩ i).stage=2 then 0 else 1) 0:=.last i h1 hin (by rw[upd_same];exact .inl rfl) (λa ha e=>by
        rw[upd_ne D _ e];have h4:=hun a ha e;rcases h2 a ha with h5|h5
        . simp[cnt,h5]at h4
        . exact h5)
       rw[upd_same]at key;have e1:(((0:Nat):Int)*KK+1)=1:=by simp
       rw[e1];exact key.retag ht
     . obtain⟨q,hq⟩:=hq (λh=>hv0 h.1)
       exact J.book G hA hi hx (by omega) hdd hgo (AP w (stA Wg) _) kV (qld Wg) (.of (.quit hq)) (by omega) rfl
        (λtag' ht _=>by
         have key:qA n (upd D i ⟨1,q,1⟩) tag ((Vc n (upd D i ⟨1,q,1⟩):Nat)*KK+1) 0:=.reg h1 (others 1 q 1 h2 (.inl rfl)) (by rw[hvc];omega);rw[hvc]at key;exact key.retag ht) sl
    |last L h1 h2 h3 h4=>
     by_cases e:i=L
     . subst e;omega
     . have:=h4 i hin e;omega
    |sema h2=>have:=h2 i hin;omega
    |fin h1 h2=>have:=h2 i hin;omega
  . exact J.idle G hA hi hx hgo (by rw[hs,hdd];exact .of (.d1 hg')) (by omega) sl
theorem Join.wakes(G:jG P ty Wg Bx Sh Fz n Wk cr)(hA:∀g w,AnchW g w->g.status=.running)(J:Join P ty Wg Bx Sh Fz AnchW Next n Wk cr p0 D tag f0 d0 a st sm gs w t)(hi:i≠0)(hx:gs[i]?=some x)
   (hs:(D i).stage=4∨(D i).stage=3∨(D i).stage=2) (sl:Option (Nat×Nat)):qmr P ty Wg Bx Sh Fz AnchW Next n Wk cr p0 D tag f0 d0 gs w t sl i:=by
 obtain⟨hJ,hd⟩:=J.ja i x hi hx;have hin:=J.lt hx;have hW:=hJ.low (by omega);obtain⟨k1,k2,k3,k4⟩:=J.mode.isLast hin hs;have wga:=J.wg;generalize hss:(D i).stage=s at hW;generalize hdd:(D i).deaf=dd at hW;cases hW with
 |d2 hg=>
  rw[k3,k4,if_neg (by omega)]at wga;rcases qc1 (RW.refl w) hg with hst|⟨m',hm,g',w',es,hgo,⟨rfl,rfl⟩,hg'⟩
  . obtain⟨g',hgo,m',hg'⟩:=hst.2 wga;exact J.book G hA hi hx (by omega) hdd hgo ⟨rfl,rfl,rfl,rfl,λ_ _=>rfl⟩ wga (qp4 Wg) (.of (.d3 hg')) (by omega) rfl (λtag' ht _=>(qA.zT (s':=3) k1 hin k2 (.inl rfl)).retag ht) sl
  . exact J.idle G hA hi hx hgo (by rw[hss,hdd];exact .of (.d2 hg')) (by omega) sl
 |d3 hg=>
  rw[k3,k4,if_neg (by omega)]at wga;rcases qc1 (RW.refl w) hg with hst|⟨m',hm,g',w',es,hgo,⟨rfl,rfl⟩,hg'⟩
  . obtain⟨g',hgo,m',hg'⟩:=hst.2 wga;exact J.book G hA hi hx (by omega) hdd hgo (AP w (stA Wg) _) (wga.setSt 0) (q9a Wg) (.of (.d4 hg')) (by omega) rfl (λtag' ht _=>(qA.zT (s':=2) k1 hin k2 (.inr rfl)).retag ht) sl
  . exact J.idle G hA hi hx hgo (by rw[hss,hdd];exact .of (.d3 hg')) (by omega) sl
 |d4 hg=>
  rw[k3,k4,if_pos (by omega)]at wga;rcases qc1 (RW.refl w) hg with hst|⟨m',hm,g',w',es,hgo,⟨rfl,rfl⟩,hg'⟩
  . obtain⟨_,qaS,hst⟩:=hst;obtain⟨g',hgo,q,hq⟩:=hst wga;refine J.book G hA hi hx (by omega) hdd hgo (AP w (smA Wg) _) (wga.setSm 1) (q0j Wg) (.of (.quit hq)) (by omega) rfl (λtag' ht hwk=>?_) sl;have qdC:=hq.status;have hne:tag'≠.blk:=hwk qaS (by rcases qdC with e|e<;>rw[e]<;>simp) (by rcases qdC with e|e<;>rw[e]<;>simp)
    have hw3:tag'=.w3:=by
     rcases ht with rfl|⟨_,e⟩
     . cases tag'<;>first|rfl|exact absurd rfl hne|exact k1.elim
     . exact e
    rw[hw3]
    exact .sema (λa ha=>by
     by_cases e:a=i
     . subst e;rw[upd_same]
     . rw[upd_ne D _ e];exact k2 a ha e)
  . exact J.idle G hA hi hx hgo (by rw[hss,hdd];exact .of (.d4 hg')) (by omega) sl
 |_=>omega
end
theorem stepG_same{main:Bool}(h1:g.frame=fr)(h2:g.callers=cs)(h3:g.dying=none):stepG P main g w=stepG P main (G fr cs) w:=by
 obtain⟨f,c,st,dy,of⟩:=g;cases h1;cases h2;cases h3;rfl
theorem qt4(h:g.offers=none)(c:Nat)(b:Bool):offersAt g c b=[]:=by
 unfold offersAt;rw[h];cases g.status<;>rfl
theorem q11{e:AL}(h:qp8 L e)(b:Addr):e.loc≠.mark (.release b):=by
 obtain⟨_,_,x,_,h⟩:=h;rw[h];exact λe=>by cases e
section
variable [Payload]{P:AF}{ty:AH}{Wg:Nat}{Bx:Nat->Prop}{Sh:Nat->Prop}{Fz:Loc->Prop}{AnchW Next:AB->AD->Prop}{n:Nat}{Wk:Nat->Prop}{cr:Nat->Hands}{p0:Nat}
 {D:Nat->WD} {tag:Tag} {f0 d0:Nat} {a:AB} {st sm:Int} {gs:Array AB} {w:AD} {t:AI}
theorem Join.xu(hA:∀g w,AnchW g w->g.status=.running)(J:Join P ty Wg Bx Sh Fz AnchW Next n Wk cr p0 D tag f0 d0 a st sm gs w t)(i c:Nat):partners (gs.setIfInBounds i ph) c true=[]:=
 partners_nil (λj y hy=>by
  rcases getElem?_stand gs i j y hy with ⟨_,rfl⟩|⟨_,hy'⟩
  . exact offersAt_ph _ _
  . by_cases h0:j=0
    . subst h0;rw[J.here]at hy';cases hy';rcases J.main.status hA with ⟨h,_⟩|⟨_,_,h⟩
      . exact offersAt_of_not_blocked (by rw[h];simp) _ _
      . exact qt4 h _ _
    . rcases (J.ja j y h0 hy').1.status with h|⟨h,_⟩|⟨_,h⟩
      . exact offersAt_of_not_blocked (by rw[h];simp) _ _
      . exact offersAt_of_not_blocked (by rw[h];simp) _ _
      . rw[h];exact offersAt_parked_recv' _ _ _ _ _)
theorem Join.zr(J:Join P ty Wg Bx Sh Fz AnchW Next n Wk cr p0 D tag f0 d0 a st sm gs w t)(hi:i≠0)(hWk:Wk i)(h8:8<=(D i).stage)(hes:∀e,e∈es->qp8 (cr i).s.L e)(fn:AJ)(pos:String) :
   ju Sh Fz (StJ Wk cr D) (LfJ Wk) 0 w.heap.size (t++Bj i fn pos es)/\∀d,deafBehind d es=d:=by
 have⟨r1,r2,r3,r4⟩:=qt7 (i:=i) (fn:=fn) (pos:=pos) hes (qiz (J.fact i hWk h8).1);exact⟨J.tr.jw.by hi (λh=>h.2 hWk) r1 (λop hop y hy=>⟨⟨hWk,h8,(r2 op hop y hy).1⟩,(r2 op hop y hy).2⟩) r3,r4⟩
theorem Join.reads(G:jG P ty Wg Bx Sh Fz n Wk cr)(hA:∀g w,AnchW g w->g.status=.running)(J:Join P ty Wg Bx Sh Fz AnchW Next n Wk cr p0 D tag f0 d0 a st sm gs w t)(hi:i≠0)(hx:gs[i]?=some x)
   (h8:8<=(D i).stage) (hWk:Wk i)   (hgo:∀w,holds (cr i).s.L w->stepG P false x w=.go x' w es) (hes:∀e,e∈es->qp8 (cr i).s.L e) (hs':jT P ty Wg (cr i) (D i).stage m' (D i).deaf x' w) (hlt:m'<(D i).fuel)
   (sl:Option (Nat×Nat)):qmr P ty Wg Bx Sh Fz AnchW Next n Wk cr p0 D tag f0 d0 gs w t sl i:=by
 obtain⟨hh,hdf⟩:=J.zr hi hWk h8 hes x.frame.fn x.frame.place
 obtain⟨gs',ops,tag',f',a',h1,h2,h3⟩:=J.go G hA hi hx (sl:=sl) (s':=(D i).stage) (m':=m') (d':=(D i).deaf) (hgo w (J.fact i hWk h8).1) (zI.refl _ _ w) (λ_=>rfl) J.wg hs' (.inr ⟨rfl,hlt⟩) Iff.rfl hh
  (λe he=>q11 (hes e he) _) (λ_ h=>by omega) (hdf _) (λtag' ht _=>(J.mode.same (i:=i) m' (D i).deaf).retag ht)
 exact⟨gs',w,ops,_,tag',f',a',_,_,h1,h2,h3⟩
theorem Join.way(G:jG P ty Wg Bx Sh Fz n Wk cr)(hA:∀g w,AnchW g w->g.status=.running)(J:Join P ty Wg Bx Sh Fz AnchW Next n Wk cr p0 D tag f0 d0 a st sm gs w t)(hi:i≠0)(hx:gs[i]?=some x)(hr:x.status=.running)
   (hs:(D i).stage=9) (sl:Option (Nat×Nat)):qmr P ty Wg Bx Sh Fz AnchW Next n Wk cr p0 D tag f0 d0 gs w t sl i:=by
 obtain⟨hJ,hd⟩:=J.ja i x hi hx;have hWk:=J.xp (i:=i) (by omega);have hi0:(i==0)=false:=by simp[hi]
 have hsz:i<gs.size:=(Ab.1 hx).1;rw[hs]at hJ;obtain⟨hd0,hJ⟩:=hJ;rcases hJ with ⟨_,rfl⟩|hw
 . cases hr
 . cases hf:(D i).fuel with
   |zero=>rw[hf]at hw;exact hw.elim
   |succ m=>
    rw[hf]at hw;rcases hw with ⟨rfl,es,hst,hes⟩|⟨_,g',es,hgo,hes,hw'⟩
    . obtain⟨κ,hκ⟩:=J.open_ i hWk hs
      have hrun:=crowd_waits (P:=P) (sl:=sl) (w₁:=w) hx (by rw[hi0];exact hst w (J.fact i hWk (by omega)).1) (λcc hcc=>by
       have:cc=rcase (cr i).s.c (cr i).s.z:=by simpa using hcc
       subst this;exact ways_recv_none (s:=κ) (r:=κ) (tm:=false) hκ (J.xu hA i _))
      obtain⟨hh,hdf⟩:=J.zr hi hWk (by omega) hes (AQ (cr i).s.fr (cr i).s.cs).frame.fn (AQ (cr i).s.fr (cr i).s.cs).frame.place
      refine⟨_,w,_,upd D i ⟨9,0,0⟩,tag,f0,a,st,sm,hrun,J.step ‹jG P ty Wg Bx Sh Fz n Wk cr› hi hx (x':=qf0 (cr i).s) (zI.refl _ _ w) (λ_=>rfl) J.wg ⟨rfl,.inl ⟨rfl,rfl⟩⟩ (by omega) (by rw[hs]) qck hh (λop hop=>?_) (λ_ h=>by omega)
       (by rw[AW,hd,hd0,hdf]) J.main rfl (by have:=J.mode.same (i:=i) 0 0;rw[hs]at this;exact this) (by simp[J.size]) (by rw[qbf _ _ _ _ hsz,if_neg hi];exact J.here) (by rw[qbf _ _ _ _ hsz,if_pos rfl];rfl) (λj _ hji=>by rw[qbf _ _ _ _ hsz,if_neg (λe=>hji e.symm)]),
       lower (J.lt hx) (.inl rfl) (by omega) (.inr ⟨hs.symm,by omega⟩)⟩
      obtain⟨e,hee,rfl⟩:=Go.Conc.mem_ofEvents hop;obtain⟨h1,h2,y,hy,h3⟩:=hes e hee;obtain⟨loc,wr',sy⟩:=e;cases h1;cases h2;cases h3;exact λe=>by cases e
    . exact J.reads ‹jG P ty Wg Bx Sh Fz n Wk cr› hA hi hx (by omega) hWk hgo hes (by rw[hs];exact⟨hd0,.inr hw'⟩) (by omega) sl
theorem Join.closed(G:jG P ty Wg Bx Sh Fz n Wk cr)(hA:∀g w,AnchW g w->g.status=.running)(J:Join P ty Wg Bx Sh Fz AnchW Next n Wk cr p0 D tag f0 d0 a st sm gs w t)(hi:i≠0)(hx:gs[i]?=some x)
   (hs:(D i).stage=8) (hst:stepG P false x w=stepG P false (AQ (cr i).s.fr (cr i).s.cs) w) (hc:qiy P false (cr i).s) (hd0:(D i).deaf=0) (sl:Option (Nat×Nat)):qmr P ty Wg Bx Sh Fz AnchW Next n Wk cr p0 D tag f0 d0 gs w t sl i:=by
 obtain⟨hJ,hd⟩:=J.ja i x hi hx;have hWk:=J.xp (i:=i) (by omega);have hi0:(i==0)=false:=by simp[hi]
 have hsz:i<gs.size:=(Ab.1 hx).1;obtain⟨es,hcm,hes⟩:=hc;obtain⟨κ,hκ⟩:=J.shut i hWk hs;have hf:=J.fact i hWk (by omega);have hrun:=crowd_recv_closed (P:=P) (sl:=sl) (w₁:=w) hx (by rw[hi0,hst];exact hcm w hf.1) hκ (J.xu hA i _);rw[finishComm_recv]at hrun;obtain⟨m',hg'⟩:=G.after i hWk w ⟨_,_,J.wg⟩ hf.2;obtain⟨hh,hdf⟩:=J.zr hi hWk (by omega) hes x.frame.fn x.frame.place;generalize hop:({g:=i,fn:=(AQ (cr i).s.fr (cr i).s.cs).frame.fn,pos:=(AQ (cr i).s.fr (cr i).s.cs).frame.place,act:=.recvClosed (cr i).s.c}:AM)=y at hrun;have hy:y.g=i/\y.act=.recvClosed (cr i).s.c:=by rw[<-hop];exact⟨rfl,rfl⟩
 have one:∀op∈(#[y]:AI),op=y:=λop h=>by simpa using h
 refine⟨_,w,_,upd D i ⟨7,m',0⟩,tag,f0,a,st,sm,hrun,J.step G hi hx (x':=AX (AQ (cr i).s.fr (cr i).s.cs) (recvd (cr i).s.ok (cr i).s.z false)) (zI.refl _ _ w) (λ_=>rfl) J.wg (.of (.r0 hg')) (by omega) (by rw[hs];omega) (λop h=>?_) ?_ (λop h=>?_) (λ_ h=>by omega)
  ?_ J.main rfl (J.mode.counted (J.lt hx) (by omega) (s':=7) (by omega) m' 0) (by simp[J.size]) (by rw[qbf _ _ _ _ hsz,if_neg hi];exact J.here) (by rw[qbf _ _ _ _ hsz,if_pos rfl]) (λj _ hji=>by rw[qbf _ _ _ _ hsz,if_neg (λe=>hji e.symm)]),
  lower (J.lt hx) (.inl rfl) (by omega) (.inl ⟨by omega,by simp[cnt,hs]⟩)⟩
 . rcases Ay.1 h with h|h
   . exact qck op h
   . rw[one op h];exact hy.1
 . rw[<-Ax];exact hh.mute (λop h=>by rw[one op h,hy.2];rfl)
 . rcases Ay.1 h with h|h
   . obtain⟨e,hee,rfl⟩:=Go.Conc.mem_ofEvents h;obtain⟨h1,h2,z,hz,h3⟩:=hes e hee;obtain⟨loc,wr',sy⟩:=e;cases h1;cases h2;cases h3;exact λe=>by cases e
   . rw[one op h,hy.2];exact λe=>by cases e
 . rw[<-Ax,Deaf_push,AW,hdf,hd,hd0];simp[deafStep,hy.2]
theorem Join.shuts(G:jG P ty Wg Bx Sh Fz n Wk cr)(hA:∀g w,AnchW g w->g.status=.running)(J:Join P ty Wg Bx Sh Fz AnchW Next n Wk cr p0 D tag f0 d0 a st sm gs w t)(hi:i≠0)(hx:gs[i]?=some x)
   (hs:(D i).stage=8) (sl:Option (Nat×Nat)):qmr P ty Wg Bx Sh Fz AnchW Next n Wk cr p0 D tag f0 d0 gs w t sl i:=by
 obtain⟨hJ,hd⟩:=J.ja i x hi hx;have hWk:=J.xp (i:=i) (by omega);rw[hs]at hJ;obtain⟨hd0,hJ⟩:=hJ;rcases hJ with hw|⟨_,h1,h2,h3,_,hc⟩
 . cases hf:(D i).fuel with
   |zero=>rw[hf]at hw;exact hw.elim
   |succ m=>
    rw[hf]at hw;rcases hw with ⟨rfl,hc⟩|⟨_,g',es,hgo,hes,hw'⟩
    . exact J.closed G hA hi hx hs rfl hc hd0 sl
    . exact J.reads G hA hi hx (by omega) hWk hgo hes (by rw[hs];exact⟨hd0,.inl hw'⟩) (by omega) sl
 . exact J.closed G hA hi hx hs (stepG_same h1 h2 h3) hc hd0 sl
theorem Join.worker(G:jG P ty Wg Bx Sh Fz n Wk cr)(hA:∀g w,AnchW g w->g.status=.running)(J:Join P ty Wg Bx Sh Fz AnchW Next n Wk cr p0 D tag f0 d0 a st sm gs w t)(hi:i≠0)(hx:gs[i]?=some x)(hr:x.status=.running)
   (sl:Option (Nat×Nat)):qmr P ty Wg Bx Sh Fz AnchW Next n Wk cr p0 D tag f0 d0 gs w t sl i:=by
 have h:=(J.ja i x hi hx).1.zq;generalize hs:(D i).stage=s at h
 match s,h,hs with
 |1,_,hs=>exact J.quit G hA hi hx hr hs sl
 |2,_,hs=>exact J.wakes G hA hi hx (.inr (.inr hs)) sl
 |3,_,hs=>exact J.wakes G hA hi hx (.inr (.inl hs)) sl
 |4,_,hs=>exact J.wakes G hA hi hx (.inl hs) sl
 |5,_,hs=>exact J.add G hA hi hx hs sl
 |6,_,hs=>exact J.dis G hA hi hx hs sl
 |7,_,hs=>exact J.rel G hA hi hx hs sl
 |8,_,hs=>exact J.shuts G hA hi hx hs sl
 |9,_,hs=>exact J.way G hA hi hx hr hs sl
 |0,h,_=>omega
 |s+10,h,_=>omega
end
section
variable {P:AF}{w:AD}
theorem qp5{main:Bool}{R:AD->AD->Prop}{Dd:AD->AD->Array AL->Prop}{Stop:AB->AD->Prop}(hR:R w w)(h:Goes P main R Dd Stop m g w) :
   (∀w₁,R w w₁->Stop g w₁)∨∃m',m=m'+1/\∃g' w' es,stepG P main g w=.go g' w' es/\Dd w w' es/\Goes P main R Dd Stop m' g' w':=by
 cases m with
 |zero=>exact .inl h
 |succ m=>
  rcases h with h|⟨_,h⟩
  . exact .inl h
  . obtain⟨g',w',es,h1,h2,h3⟩:=goes_elim (h w hR);exact .inr ⟨m,rfl,g',w',es,h1,h2,h3⟩
end
section
variable {Sh:Nat->Prop}{Fz:Loc->Prop}{Wg:Nat}
theorem q0k{m:Mark}(hm:∀b,m≠.read b/\m≠.write b)(hr:m≠.release (stA Wg)):∀e,e∈#[Bb m]->qlg Sh Fz B e/\e.loc≠.mark (.release (stA Wg)):=λe he=>by
 rw[Ah]at he;subst he
 have ht:(Bi (Bb m)).touch?=none:=by
  cases m with
  |read b=>exact absurd rfl (hm b).1
  |write b=>exact absurd rfl (hm b).2
  |_=>rfl
 exact⟨⟨(λx hx=>by rw[ht]at hx;cases hx),(λx hx=>by rw[ht]at hx;cases hx)⟩,(λe=>hr (by cases e;rfl))⟩
end
section
variable [Payload]{P:AF}{ty:AH}{Wg:Nat}{Bx:Nat->Prop}{Sh:Nat->Prop}{Fz:Loc->Prop}{AnchW Next:AB->AD->Prop}{n:Nat}{Wk:Nat->Prop}{cr:Nat->Hands}{p0:Nat}
 {D:Nat->WD} {tag:Tag} {f0 d0:Nat} {a:AB} {st sm:Int} {gs:Array AB} {w:AD} {t:AI}
theorem qjl(G:jG P ty Wg Bx Sh Fz n Wk cr)(hB:Wg<B)(hb:Book Wg es):∀e,e∈es->qlg Sh Fz B e/\e.loc≠.mark (.release (stA Wg)):=λe he=>by
 refine⟨⟨λx hx=>?_,λx hx=>?_⟩,hb.norel e he⟩
 . obtain⟨⟨b,h1,h2⟩,h3⟩:=hb.touch e he x hx;exact⟨(λ_ h=>by rw[h3]at h;cases h),(λ_=>by rw[h1];exact G.fzW b h2)⟩
 . obtain⟨⟨b,h1,h2⟩,_⟩:=hb.touch e he x hx;rw[h1];show b.block<B;rw[h2];exact hB
theorem Join.mgo(G:jG P ty Wg Bx Sh Fz n Wk cr)(J:Join P ty Wg Bx Sh Fz AnchW Next n Wk cr p0 D tag f0 d0 a st sm gs w t){tag':Tag}(sl:Option (Nat×Nat))
   (hgo:stepG P true a w=.go a' w' es) (hw:AY Wg w w') (hwg':WgAt ty Wg w' st' sm') (he:∀e,e∈es->qlg Sh Fz w.heap.size e/\e.loc≠.mark (.release (stA Wg))) (hd:deafBehind d0 es=d')
   (hmain:zi P ty Wg Bx Sh Fz AnchW Next tag' f' d' a' w') (htag:vI tag'=vI tag) (hmode:qA n D tag' st' sm') (hlt:phi n (Vc n D) tag'<phi n (Vc n D) tag∨(phi n (Vc n D) tag'=phi n (Vc n D) tag/\f'<f0)) :
   ∃gs' ops,runT P (crowd gs w sl) 0=(.next (crowd gs' w' sl),ops)/\Join P ty Wg Bx Sh Fz AnchW Next n Wk cr p0 D tag' f' d' a' st' sm' gs' w' (t++ops)/\LtJ (mu n D tag' f') (mu n D tag f0):=by
 have hsz:0<gs.size:=(Ab.1 J.here).1;have vu:0<(gs.map (AN P a a' w')).size:=by simpa using hsz
 have hrun:=AT (P:=P) (sl:=sl) (i:=0) J.here (by simpa using hgo)
 have keep:∀j,Wk j->∀r,(r=(cr j).s.c∨r=(cr j).bx)->w'.heap[r]?=w.heap[r]?:=λj hj r hr=>by
  rcases hr with rfl|rfl
  . exact hw.block _ (G.cW j hj)
  . exact hw.block _ (G.bxW j hj)
 have hoth:∀j y,j≠0->gs[j]?=some y->AN P a a' w' y=y:=λj y hj hy=>by
  unfold AN;split
  . rcases (J.ja j y hj hy).1.status with e|⟨e,_⟩|⟨e,e'⟩
    . exact AO _ (.inl e)
    . exact AO _ (.inr e)
    . have hW:Wk j:=J.xp (by omega);obtain⟨κ,hκ⟩:=J.open_ j hW e;rw[e'];exact AU (k:=rcase (cr j).s.c (cr j).s.z) (c:=(cr j).s.c) (s:=κ) (r:=κ) (tm:=false) rfl ((keep j hW _ (.inl rfl)).trans hκ)
  . rfl
 refine⟨_,_,hrun,?_,?_⟩
 . refine⟨by simp[J.size],by rw[qbf _ _ _ _ vu,if_pos rfl],hmain,λj y hj hy=>?_,J.old,λj hj=>by rw[htag];exact J.nine j hj,by rw[htag];exact J.source,by rw[htag];exact J.nodup,λj hj h=>?_,λj hj h=>?_,λj hj h=>?_,hwg',hmode,?_,by rw[AW,J.deaf];exact hd,λj hj=>?_⟩
   . rw[qbf _ _ _ _ vu,if_neg (λe=>hj e.symm),Aj]at hy;obtain⟨y',hy',e⟩:=BO.1 hy;rw[hoth j y' hj hy']at e;subst e;rw[AR t (λe=>hj e.symm) _ qck];obtain⟨h1,h2⟩:=J.ja j y' hj hy';refine⟨?_,h2⟩;by_cases hW:Wk j
     . have hb:=keep j hW _ (.inr rfl);exact h1.rely ⟨λb hb0 _ _=>absurd hb0 (BL b),λ_=>⟨_,_,hwg'⟩,λ⟨cs,hc,hl⟩=>⟨cs,hb.trans hc,hl⟩,qgi hb 0 none⟩
     . rw[J.old j hW]at h1 |-;have h4:=h1.low (by omega);cases h4 with
       |quit hq=>exact .of (.quit hq)
   . obtain⟨κ,hκ⟩:=J.open_ j hj h;exact⟨κ,(keep j hj _ (.inl rfl)).trans hκ⟩
   . obtain⟨κ,hκ⟩:=J.shut j hj h;exact⟨κ,(keep j hj _ (.inl rfl)).trans hκ⟩
   . obtain⟨h1,h2⟩:=J.fact j hj h;exact⟨qmq h1 (λy hy=>hw.block _ (G.lW j hj y hy).1),(qgi (keep j hj _ (.inr rfl)) 0 none).trans h2⟩
   . rw[hw.size];exact J.tr.main (λi hi=>(G.wk i hi).1) he _ _
   . rw[AR t (by have:=J.lt J.here;omega) _ qck];exact J.above j hj
 . unfold mu LtJ;rcases hlt with h|⟨h,h'⟩
   . exact BP _ _ (by omega)
   . rw[h];exact BQ _ (by omega)
end
theorem qp6(w:AD)(h:c<w.heap.size)(cl:Bool)(a b:Nat):(w.setChan c 0 #[] cl a b false).heap[c]?=some (.chan 0 #[] cl a b false):=by
 simp[AD.setChan,h]
theorem qA.tail{D:Nat->WD}{st:Int}(h:qA n D (.cl (c::l)) st sm):qA n D (.cl l) st sm:=by
 cases h with
 |opn h1 h2 h3=>exact .opn trivial h2 (λvs e=>by cases e)
 |reg h1 _ _=>exact h1.elim
 |last L h1 _ _ _=>exact h1.elim
 |fin h1 _=>exact h1.elim
section
variable [Payload]{P:AF}{ty:AH}{Wg:Nat}{Bx:Nat->Prop}{Sh:Nat->Prop}{Fz:Loc->Prop}{AnchW Next:AB->AD->Prop}{n:Nat}{Wk:Nat->Prop}{cr:Nat->Hands}{p0:Nat}
 {D:Nat->WD} {tag:Tag} {f0 d0:Nat} {a:AB} {st sm:Int} {gs:Array AB} {w:AD} {t:AI}
theorem Join.close(G:jG P ty Wg Bx Sh Fz n Wk cr)(J:Join P ty Wg Bx Sh Fz AnchW Next n Wk cr p0 D (.cl (c::l)) f0 0 a st sm gs w t)(hcl:MCl P ty Wg Bx Sh Fz AnchW (c::l) a w)(sl:Option (Nat×Nat)) :
   qmr P ty Wg Bx Sh Fz AnchW Next n Wk cr p0 D (.cl (c::l)) f0 0 gs w t sl 0:=by
 obtain⟨i,hWi,hci⟩:=J.source c (BE ..);have hi:=G.wk i hWi;have h9:(D i).stage=9:=(J.nine i hWi).2 (by rw[hci];exact BE ..);obtain⟨κ,hκ⟩:=J.open_ i hWi h9;rw[hci]at hκ;obtain⟨_,qaS,hstep⟩:=hcl;obtain⟨a',hgo,hrun',m,hm⟩:=hstep κ hκ;have qdD:c<w.heap.size:=(Ab.1 hκ).1;have hsz:0<gs.size:=(Ab.1 J.here).1;generalize hw':w.setChan c 0 #[] true κ κ false=w' at hgo hm;have hat:w'.heap[c]?=some (.chan 0 #[] true κ κ false):=by rw[<-hw'];exact qp6 w qdD _ _ _
 have hne:∀r,r≠c->w'.heap[r]?=w.heap[r]?:=λr hr=>by rw[<-hw'];exact qgj w hr _ _ _ _
 have hsize:w'.heap.size=w.heap.size:=by rw[<-hw'];simp[AD.setChan]
 have qaT:∀L,holds L w->holds L w':=λL hL=>by rw[<-hw'];exact qhs hL hκ _ _ _ _
 have kW:∀j,Wk j->j≠i->(cr j).s.c≠c:=λj hj hji e=>hji (G.chan j i hj hWi (e.trans hci.symm));have qdE:∀j,Wk j->(cr j).bx≠c:=λj hj e=>G.cB i j hWi hj (hci.trans e.symm);have qdF:Wg≠c:=λe=>G.cW i hWi (hci.trans e.symm);have vu:0<(gs.map (AN P a a' w')).size:=by simpa using hsz
 have hrun:=AT (P:=P) (sl:=sl) (i:=0) J.here (by simpa using hgo)
 have wake:∀y,AN P a a' w' y=y.again w':=λy=>by
  unfold AN;rw[if_pos (by rw[qaS,hrun'];rfl)]
 have hoth:∀j y,j≠0->j≠i->gs[j]?=some y->AN P a a' w' y=y:=λj y hj hji hy=>by
  rw[wake];rcases (J.ja j y hj hy).1.status with e|⟨e,_⟩|⟨e,e'⟩
  . exact AO _ (.inl e)
  . exact AO _ (.inr e)
  . have hW:Wk j:=J.xp (by omega);obtain⟨κ',hκ'⟩:=J.open_ j hW e;rw[e'];exact AU (k:=rcase (cr j).s.c (cr j).s.z) (c:=(cr j).s.c) (s:=κ') (r:=κ') (tm:=false) rfl ((hne _ (kW j hW hji)).trans hκ')
 obtain⟨y,hy⟩:∃y,gs[i]?=some y:=⟨_,Ai (by rw[J.size];exact hi.2)⟩;obtain⟨hyJ,hyd⟩:=J.ja i y hi.1 hy;rw[h9]at hyJ;obtain⟨hd0,hyJ⟩:=hyJ
 obtain⟨m8,hm8⟩:∃m8,Shut P (cr i).s m8 (AN P a a' w' y):=by
  rw[wake];rcases hyJ with ⟨_,rfl⟩|hwy
  ·
   have e:=again_parked_shut (g:=AQ (cr i).s.fr (cr i).s.cs) (k:=rcase (cr i).s.c (cr i).s.z) (sh:=.recv (cr i).s.ok) (w:=w') (c:=(cr i).s.c) (s:=κ) (r:=κ) (tm:=false) rfl (by rw[hci];exact hat);have e':(qf0 (cr i).s).again w'={qf0 (cr i).s with status:=.running}:=e;rw[e'];exact⟨1,.inr ⟨rfl,rfl,rfl,rfl,rfl,G.comm i hWi⟩⟩
  . rw[AO _ (.inl hwy.running)];exact⟨_,.inl hwy⟩
 have hst:∀j,j≠i->upd D i ⟨8,m8,0⟩ j=D j:=λj hj=>upd_ne D _ hj;have hsi:upd D i ⟨8,m8,0⟩ i=⟨8,m8,0⟩:=upd_same D i _
 have hev:∀e,e∈(#[⟨.obj c,false,true⟩,⟨.obj c,true,true⟩]:Array AL)->qlg Sh Fz w.heap.size e/\e.loc≠.mark (.release (stA Wg)):=λe he=>by
  have:e=⟨.obj c,false,true⟩∨e=⟨.obj c,true,true⟩:=by simpa using he
  rcases this with rfl|rfl
  . refine⟨⟨λx hx=>?_,λx hx=>?_⟩,λe=>by cases e⟩
    . cases hx;exact⟨λh=>h.elim,λh=>by cases h⟩
    . cases hx;exact qdD
  . exact⟨⟨λx hx=>(by cases hx),λx hx=>(by cases hx)⟩,λe=>by cases e⟩
 have htr:=J.tr.main (λj hj=>(G.wk j hj).1) hev a.frame.fn a.frame.place;refine⟨_,w',_,upd D i ⟨8,m8,0⟩,.cl l,m,a',st,sm,hrun,?_,?_⟩
 . refine⟨by simp[J.size],by rw[qbf _ _ _ _ vu,if_pos rfl],.cl hm,λj x hj hx=>?_,λj hj=>?_,λj hj=>?_,λc' hc'=>J.source c' (BC _ hc'),(BF.1 J.nodup).2,λj hj h=>?_,λj hj h=>?_,λj hj h=>?_,(hne _ qdF).trans J.wg,?_,?_,?_,λj hj=>?_⟩
   . rw[qbf _ _ _ _ vu,if_neg (λe=>hj e.symm),Aj]at hx;obtain⟨x0,hx0,e⟩:=BO.1 hx;rw[AR t (λe=>hj e.symm) _ qck];by_cases hji:j=i
     . subst hji;rw[hy]at hx0;cases hx0;subst e;rw[hsi];exact⟨⟨rfl,hm8⟩,hyd.trans hd0⟩
     . rw[hoth j x0 hj hji hx0]at e;subst e;rw[hst j hji];obtain⟨h1,h2⟩:=J.ja j x0 hj hx0;refine⟨?_,h2⟩;by_cases hW:Wk j
       . have hb:=hne _ (qdE j hW);exact h1.rely ⟨λb hb0 _ _=>absurd hb0 (BL b),λ⟨s1,s2,h⟩=>⟨s1,s2,(hne _ qdF).trans h⟩,λ⟨cs,hc,hl⟩=>⟨cs,hb.trans hc,hl⟩,qgi hb 0 none⟩
       . rw[J.old j hW]at h1 |-;have h4:=h1.low (by omega);cases h4 with
         |quit hq=>exact .of (.quit hq)
   . have hji:j≠i:=λe=>hj (e▸hWi);rw[hst j hji];exact J.old j hj
   . by_cases hji:j=i
     . subst hji;rw[hsi];constructor
       . intro h;cases h
       . intro h;rw[hci]at h;exact absurd h (BF.1 J.nodup).1
     . rw[hst j hji];refine(J.nine j hj).trans ⟨λh=>?_,λh=>BC _ h⟩;rcases BA.1 h with h|h
       . exact absurd h (kW j hj hji)
       . exact h
   . by_cases hji:j=i
     . subst hji;rw[hsi]at h;cases h
     . rw[hst j hji]at h;obtain⟨κ',hκ'⟩:=J.open_ j hj h;exact⟨κ',(hne _ (kW j hj hji)).trans hκ'⟩
   . by_cases hji:j=i
     . subst hji;exact⟨κ,by rw[hci];exact hat⟩
     . rw[hst j hji]at h;obtain⟨κ',hκ'⟩:=J.shut j hj h;exact⟨κ',(hne _ (kW j hj hji)).trans hκ'⟩
   . have h':8<=(D j).stage:=by
      by_cases hji:j=i
      . subst hji;omega
      . rw[hst j hji]at h;exact h
     obtain⟨h1,h2⟩:=J.fact j hj h';exact⟨qaT _ h1,(qgi (hne _ (qdE j hj)) 0 none).trans h2⟩
   . exact(J.mode.counted hi.2 (by omega) (s':=8) (by omega) m8 0).tail
   . rw[hsize]
     have hle:∀j,(upd D i ⟨8,m8,0⟩ j).stage<=(D j).stage:=λj=>by
      by_cases hji:j=i
      . subst hji;rw[hsi,h9];show 8<=9;omega
      . rw[hst j hji];exact BG _
     refine⟨htr.jw.fall (q0m hle),htr.start,htr.norel,λj hj h=>htr.rel j hj ?_⟩;by_cases hji:j=i
     . subst hji;rw[hsi]at h;have h:8<=6:=h;omega
     . rw[hst j hji]at h;exact h
   . rw[AW,J.deaf];rfl
   . rw[AR t (by have:=J.lt J.here;omega) _ qck];exact J.above j hj
 . have e1:=qvz (D:=D) (⟨8,m8,0⟩:WD) hi.2;have e2:=sumTo_upd D (⟨8,m8,0⟩:WD) WD.stage hi.2;have a2:(sumTo n λa=>WD.stage (upd D i ⟨8,m8,0⟩ a))=Ssum n (upd D i ⟨8,m8,0⟩):=rfl;have a3:(sumTo n λa=>WD.stage (D a))=Ssum n D:=rfl;rw[a2,a3,h9]at e2;simp only at e2;unfold mu LtJ;refine BP _ _ ?_;simp only[phi,List.length_cons];omega
end
section
variable [Payload]{P:AF}{ty:AH}{Wg:Nat}{Bx:Nat->Prop}{Sh:Nat->Prop}{Fz Fz':Loc->Prop}{AnchW Next:AB->AD->Prop}{n:Nat}{Wk:Nat->Prop}{cr:Nat->Hands}{p0:Nat}{Post:AK->AD->Prop}
 {D:Nat->WD} {tag:Tag} {f0 d0:Nat} {a:AB} {st sm:Int} {gs:Array AB} {w:AD} {t:AI}
theorem Join.awake(hA:∀g w,AnchW g w->g.status=.running)(J:Join P ty Wg Bx Sh Fz AnchW Next n Wk cr p0 D tag f0 d0 a st sm gs w t):∀x∈gs,awake x:=by
 intro x hx;obtain⟨i,hi⟩:=Array.mem_iff_getElem?.1 hx;by_cases h0:i=0
 . subst h0;rw[J.here]at hi;cases hi;rcases J.main.status hA with ⟨h,_⟩|⟨h,_⟩
   . exact AV (.inl h)
   . exact AV (.inr (.inl h))
 . rcases (J.ja i x h0 hi).1.status with h|⟨h,_⟩|⟨_,h⟩
   . exact AV (.inl h)
   . exact AV (.inr (.inr h))
   . rw[h];exact AV (.inr (.inl rfl))
theorem Join.runs(G:jG P ty Wg Bx Sh Fz n Wk cr)(hA:∀g w,AnchW g w->g.status=.running)(J:Join P ty Wg Bx Sh Fz AnchW Next n Wk cr p0 D tag f0 d0 a st sm gs w t):∃(i:Nat) (g:AB),gs[i]?=some g/\g.status=.running:=by
 rcases J.main.status hA with ⟨h,_⟩|⟨_,rfl,_⟩
 . exact⟨0,a,J.here,h⟩
 . have one:∀ i,i < n->(D i).stage≠1->∃ (i:Nat) (g:AB),gs[i]?=some g/\g.status=.running:=fun i hi h1=>by
    have hW:=J.xp h1;obtain⟨y,hy⟩:∃y,gs[i]?=some y:=⟨_,Ai (by rw[J.size];exact hi)⟩;rcases (J.ja i y (G.wk i hW).1 hy).1.status with h|⟨_,h⟩|⟨h,_⟩
    . exact⟨i,y,hy,h⟩
    . exact absurd h h1
    . have:=(J.nine i hW).1 h;cases this
   have hm:=J.mode;cases hm with
   |opn h1 _ _=>exact h1.elim
   |reg _ _ h3=>
    obtain⟨i,hi,h5⟩:=Go.ConcN.exists_counted h3;exact one i hi (by omega)
   |last L _ h2 h3 _=>exact one L h2 (by omega)
   |fin h1 _=>exact h1.elim
theorem Join.done(G:jG P ty Wg Bx Sh Fz n Wk cr)(J:Join P ty Wg Bx Sh Fz AnchW Next n Wk cr p0 D .acq f0 0 a st sm gs w t)(hgo:stepG P true a w=.go g' w #[Bb (Mark.acquire (stA Wg))])(sl:Option (Nat×Nat)) :
   ∃gs' ops q,runT P (crowd gs w sl) 0=(.next (crowd gs' w sl),ops)/\qB P Sh Fz (λ_=>.left) n 0 0 g' w gs' (t++ops) q:=by
 have hall:∀i,i<n->(D i).stage=1:=by
  have hm:=J.mode;cases hm with
  |opn h1 _ _=>exact h1.elim
  |reg h1 _ _=>exact h1.elim
  |last L h1 _ _ _=>exact h1.elim
  |fin _ h2=>exact h2
 have hsz:0<gs.size:=(Ab.1 J.here).1;have vu:0<(gs.map (AN P a g' w)).size:=by simpa using hsz
 have hrun:=AT (P:=P) (sl:=sl) (i:=0) J.here (by simpa using hgo)
 have hoth:∀j y,j≠0->gs[j]?=some y->AN P a g' w y=y:=λj y hj hy=>by
  unfold AN;split
  . rcases (J.ja j y hj hy).1.status with e|⟨e,_⟩|⟨e,_⟩
    . exact AO _ (.inl e)
    . exact AO _ (.inr e)
    . have:=hall j (J.lt hy);omega
  . rfl
 have hop:Bj 0 a.frame.fn a.frame.place #[Bb (Mark.acquire (stA Wg))]=#[{g:=0,fn:=a.frame.fn,pos:=a.frame.place,act:=.mark (.acquire (stA Wg))}]:=by simp[Bj,Bb,Bi]
 rw[hop]at hrun;generalize hy:({g:=0,fn:=a.frame.fn,pos:=a.frame.place,act:=.mark (.acquire (stA Wg))}:AM)=y at hrun;have y0:y.g=0/\y.act=.mark (.acquire (stA Wg)):=by rw[<-hy];exact⟨rfl,rfl⟩
 have one:∀op∈(#[y]:AI),op=y:=λop h=>by simpa using h
 have still:∀j,Deaf (t++#[y]) j=Deaf t j:=λj=>by rw[Deaf_push];simp[deafStep,y0.2]
 have hm:=J.tr.jw.mute (u:=#[y]) (λop h=>by rw[one op h,y0.2];rfl);refine⟨_,_,λi=>(D i).fuel,hrun,⟨by simp[J.size],by rw[qbf _ _ _ _ vu,if_pos rfl],λj x hj hx=>?_,(λi s _ _ h=>by cases h),(λi j s s' _ _ _ _ h=>by cases h),?_,by rw[still];exact J.deaf,λj hj=>by rw[still];exact J.above j hj⟩⟩
 . rw[qbf _ _ _ _ vu,if_neg (λe=>hj e.symm),Aj]at hx;obtain⟨x0,hx0,e⟩:=BO.1 hx;rw[hoth j x0 hj hx0]at e;subst e;rw[still];obtain⟨h1,h2⟩:=J.ja j x0 hj hx0;rw[hall j (J.lt hx0)]at h1;have h4:=h1.low (by omega);generalize (D j).deaf=dd at h4 h2;cases h4 with
   |quit hq=>exact⟨by simp[hj],by rw[h2];exact hq⟩
 . refine⟨hm.clean,hm.known,λk _ i x _ hs _=>?_,hm.seen,hm.quiet,λk l hs=>?_,λi k hg hL hc=>?_⟩
   . obtain⟨_,_,s,h,_⟩:=hs;cases h
   . obtain⟨_,_,s,h,_⟩:=hs;cases h
   . by_cases hW:Wk k
     . obtain⟨p,hp0,hrel,hbef⟩:=J.tr.rel k hW (by rw[hall k (G.wk k hW).2];omega);obtain⟨x,hx,hmem,hh⟩:=hc;rcases qbk hx with ⟨hi,hx'⟩|⟨_,op,hop',_,hxa⟩
       . have hg':t.g? i=some k:=by rw[g?_old hi]at hg;exact hg
         rcases hbef i x hg' hx' with h1|⟨h1,h2⟩
         . obtain⟨opi,qfE,hgi⟩:=BO.1 hg';obtain⟨opp,qfF,hgp⟩:=BO.1 hrel.g;exact qt6 hrel (λq hq=>J.tr.norel q (by omega)) y0.1 y0.2 J.deaf (.inr (hb_po h1 qfE qfF (hgi.trans hgp.symm)))
         . rcases hh with hh|hh
           . exact absurd h1 hh
           . exact absurd ((heard_old hi).1 hh) h2
       . rw[one op hop',y0.2]at hxa;cases hxa
     . exact hm.over i k hg ⟨hL.1,hW⟩ hc
theorem q4b(G:jG P ty Wg Bx Sh Fz n Wk cr)(hA:∀g w,AnchW g w->g.status=.running)(hAn:∀g w,AnchW g w->∃m,Goes P true (RM ty Wg Bx) (DM Wg Sh Fz) (MW1 P ty Wg Bx Sh Fz AnchW Next) m g w)
   (hN:∀g w,Next g w->jD P Post Sh Fz (λ_=>.left) n 0 0 g w):∀(μ:Nat×Nat) (D:Nat->WD) (tag:Tag) (f0 d0:Nat) (a:AB) (st sm:Int) (gs:Array AB) (w:AD) (t:AI),
   mu n D tag f0=μ->Join P ty Wg Bx Sh Fz AnchW Next n Wk cr p0 D tag f0 d0 a st sm gs w t->vS P Post gs w t:=by
 intro μ
 induction μ using yQ.induction with
 |_ μ ih=>
  intro D tag f0 d0 a st sm gs w t hμ J;subst hμ;by_cases hanch:tag=.anch/\AnchW a w
  . obtain⟨rfl,hw⟩:=hanch;obtain⟨m,hm⟩:=hAn a w hw
    have hd0:d0=1:=by
     have h:=J.main;cases h;rfl
    subst hd0
    have hmode:qA n D .w1 st sm:=by
     have h:=J.mode;cases h with
     |opn h1 h2 h3=>exact .opn trivial h2 (λvs e=>by cases e)
     |reg h1 _ _=>exact h1.elim
     |last L h1 _ _ _=>exact h1.elim
     |fin h1 _=>exact h1.elim
    refine ih (mu n D .w1 m) ?_ D .w1 m 1 a st sm gs w t rfl ⟨J.size,J.here,.w1 hm,J.ja,J.old,J.nine,J.source,J.nodup,J.open_,J.shut,J.fact,J.wg,hmode,J.tr,J.deaf,J.above⟩;unfold mu;exact BP _ _ (by simp only[phi];omega)
  refine qhr (J.awake hA) (J.runs G hA) (λi x d sl hx hr=>.inl ?_);have Jd:=J.at d;by_cases hi:i=0
  . subst hi;rw[J.here]at hx;cases hx;have hsame:∀{w1 w2:AD},w1=w2->AY Wg w2 w1:=λe=>e▸⟨rfl,rfl,rfl,rfl,λ_ _=>rfl⟩
    have go:∀ {a':AB} {w':AD} {es:Array AL} {tag':Tag} {f' d':Nat} {st' sm':Int},stepG P true a (w.at d)=.go a' w' es->AY Wg (w.at d) w'->WgAt ty Wg w' st' sm'->(∀ e,e∈es->qlg Sh Fz (w.at d).heap.size e/\e.loc≠.mark (.release (stA Wg)))->deafBehind d0 es=d' ->
        zi P ty Wg Bx Sh Fz AnchW Next tag' f' d' a' w'->vI tag'=vI tag->qA n D tag' st' sm'->(phi n (Vc n D) tag'<phi n (Vc n D) tag∨(phi n (Vc n D) tag'=phi n (Vc n D) tag/\f'<f0)) ->
        ∃gs' w' sl' ops,runT P (crowd gs (w.at d) sl) 0=(.next (crowd gs' w' sl'),ops)/\vS P Post gs' w' (t++ops):=λh1 h2 h3 h4 h5 h6 h7 h8 h9=>by
     obtain⟨gs',ops,k1,k2,k3⟩:=Jd.mgo G sl h1 h2 h3 h4 h5 h6 h7 h8 h9;exact⟨gs',_,sl,ops,k1,ih _ k3 _ _ _ _ _ _ _ _ _ _ rfl k2⟩
    have dm:∀{es:Array AL} {w2:AD},DM Wg Sh Fz (w.at d) w2 es->w2=w.at d/\(∀e,e∈es->qlg Sh Fz (w.at d).heap.size e/\e.loc≠.mark (.release (stA Wg)))/\∀d',deafBehind d' es=d':=λh=>⟨h.1,λe he=>⟨(h.2 e he).1,(h.2 e he).2.2.2⟩,λd'=>deafBehind_still (λe he=>⟨(h.2 e he).2.1,(h.2 e he).2.2.1⟩) d'⟩;have hwg:=Jd.wg;have hmode:=J.mode;have hVn:=qdB n D;have xq:=G.few;have hwl:=Jd.wlt;have hmain:=Jd.main;cases hmain with
    |@cl l m _ _ h=>
     rcases qc1 (RM.refl _) h with hst|⟨m',hm,g',w',es,hgo,hdm,hg'⟩
     . cases l with
       |nil=>
        obtain⟨_,g',hgo,m',hm'⟩:=hst;refine go hgo (hsame rfl) hwg (q0k (λb=>⟨by simp,by simp⟩) (by simp)) rfl (.anch hm') rfl ?_ (.inl (by simp only[phi,List.length_nil];omega));cases hmode with
        |opn h1 h2 h3=>exact .opn trivial h2 (λvs e=>by cases e)
        |reg h1 _ _=>exact h1.elim
        |last L h1 _ _ _=>exact h1.elim
        |fin h1 _=>exact h1.elim
       |cons c l=>
        obtain⟨gs',w',ops,D',tag',f',a',st',sm',k1,k2,k3⟩:=Jd.close G hst sl;exact⟨gs',w',sl,ops,k1,ih _ k3 _ _ _ _ _ _ _ _ _ _ rfl k2⟩
     . obtain⟨rfl,k1,k2⟩:=dm hdm;exact go hgo (hsame rfl) hwg k1 (k2 _) (.cl hg') rfl hmode (.inr ⟨rfl,by omega⟩)
    |anch h=>
     rcases qp5 (RM.refl _) h with hst|⟨m',hm,g',w',es,hgo,hdm,hg'⟩
     . exact absurd ⟨rfl,hst w (RM.at (w.at d) w.drawn)⟩ hanch
     . obtain⟨rfl,k1,k2⟩:=dm hdm;exact go hgo (hsame rfl) hwg k1 (k2 _) (.anch hg') rfl hmode (.inr ⟨rfl,by omega⟩)
    |w1 h=>
     rcases qc1 (RM.refl _) h with hst|⟨m',hm,g',w',es,hgo,hdm,hg'⟩
     . cases hmode with
       |opn h1 h2 h3=>
        obtain⟨g',hgo,hz,hnz⟩:=hst.2 (Vc n D) (by omega) hwg;by_cases hv:Vc n D=0
        . obtain⟨m',hm'⟩:=hz hv
          have hall:∀i,i<n->(D i).stage=1:=λi hi=>by
           rcases h2 i hi with h|h
           . have:=le_sumTo (f:=λa=>cnt (D a)) hi;have c1:cnt (D i)=1:=by simp[cnt,h]
             simp only[Vc]at hv;omega
           . exact h
          have hwg':WgAt ty Wg (w.at d) 0 0:=by rw[hv]at hwg;simpa using hwg
          exact go hgo (hsame rfl) hwg' (qjl G hwl (qp4 Wg)) rfl (.ke hm') rfl (.fin trivial hall) (.inl (by simp only[phi];omega))
        . obtain⟨m',hm'⟩:=hnz hv;exact go hgo (hsame rfl) hwg (qjl G hwl (qp4 Wg)) rfl (.w2 hm') rfl (.opn trivial h2 (λvs e=>by cases e;omega)) (.inl (by simp only[phi];omega))
       |reg h1 _ _=>exact h1.elim
       |last L h1 _ _ _=>exact h1.elim
       |fin h1 _=>exact h1.elim
     . obtain⟨rfl,k1,k2⟩:=dm hdm;exact go hgo (hsame rfl) hwg k1 (k2 _) (.w1 hg') rfl hmode (.inr ⟨rfl,by omega⟩)
    |@w2 vs m _ _ h=>
     rcases qc1 (RM.refl _) h with hst|⟨m',hm,g',w',es,hgo,hdm,hg'⟩
     . cases hmode with
       |opn h1 h2 h3=>
        obtain⟨hle,h1v⟩:=h3 vs rfl;obtain⟨hhit,hmiss⟩:=hst.2 (Vc n D) (by omega) hwg;by_cases hv:Vc n D=vs
        . obtain⟨g',hgo,m',hm'⟩:=hhit hv;exact go hgo (AP _ (stA Wg) _) (hwg.setSt _) (qjl G hwl (qld Wg)) rfl (.w3 hm') rfl (.reg trivial h2 (by omega)) (.inl (by simp only[phi];omega))
        . obtain⟨g',hgo,m',hm'⟩:=hmiss hv;exact go hgo (hsame rfl) hwg (qjl G hwl (qp4 Wg)) rfl (.anch hm') rfl (.opn trivial h2 (λvs e=>by cases e)) (.inl (by simp only[phi];omega))
       |reg h1 _ _=>exact h1.elim
       |last L h1 _ _ _=>exact h1.elim
       |fin h1 _=>exact h1.elim
     . obtain⟨rfl,k1,k2⟩:=dm hdm;exact go hgo (hsame rfl) hwg k1 (k2 _) (.w2 hg') rfl hmode (.inr ⟨rfl,by omega⟩)
    |w3 h=>
     rcases qp5 (RM.refl _) h with hst|⟨m',hm,g',w',es,hgo,hdm,hg'⟩
     . obtain⟨_,_,qaU,hwake⟩:=hst _ (RM.refl _)
       have blocks:sm=0->qA n D .blk st sm->∃gs' w' sl' ops,runT P (crowd gs (w.at d) sl) 0=(.next (crowd gs' w' sl'),ops)/\vS P Post gs' w' (t++ops):=λh0 hm=>by
        subst h0;exact go (qaU ⟨st,hwg⟩) (hsame rfl) hwg (λe he=>by simp at he) rfl (.blk hst) rfl hm (.inr ⟨rfl,Nat.succ_pos _⟩)
       cases hmode with
       |opn h1 _ _=>exact h1.elim
       |reg _ h2 h3=>exact blocks rfl (.reg trivial h2 h3)
       |last L _ h2 h3 h4=>exact blocks rfl (.last L trivial h2 h3 h4)
       |sema h2=>
        obtain⟨g',hgo,m',hm'⟩:=hwake hwg;exact go hgo (AP _ (smA Wg) _) (hwg.setSm 0) (qjl G hwl (q0j Wg)) rfl (.w4 hm') rfl (.fin trivial h2) (.inl (by simp only[phi];omega))
       |fin h1 _=>exact h1.elim
     . obtain⟨rfl,k1,k2⟩:=dm hdm;exact go hgo (hsame rfl) hwg k1 (k2 _) (.w3 hg') rfl hmode (.inr ⟨rfl,by omega⟩)
    |blk h=>cases hr
    |w4 h=>
     rcases qc1 (RM.refl _) h with hst|⟨m',hm,g',w',es,hgo,hdm,hg'⟩
     . cases hmode with
       |opn h1 _ _=>exact h1.elim
       |reg h1 _ _=>exact h1.elim
       |last L h1 _ _ _=>exact h1.elim
       |fin h1 h2=>
        obtain⟨g',hgo,m',hm'⟩:=hst.2 hwg;exact go hgo (hsame rfl) hwg (qjl G hwl (qp4 Wg)) rfl (.ke hm') rfl (.fin trivial h2) (.inl (by simp only[phi];omega))
     . obtain⟨rfl,k1,k2⟩:=dm hdm;exact go hgo (hsame rfl) hwg k1 (k2 _) (.w4 hg') rfl hmode (.inr ⟨rfl,by omega⟩)
    |ke h=>
     rcases qc1 (RM.refl _) h with hst|⟨m',hm,g',w',es,hgo,hdm,hg'⟩
     . cases hmode with
       |opn h1 _ _=>exact h1.elim
       |reg h1 _ _=>exact h1.elim
       |last L h1 _ _ _=>exact h1.elim
       |fin h1 h2=>
        obtain⟨_,g',hgo,m',hm'⟩:=hst;exact go hgo (hsame rfl) hwg (q0k (λb=>⟨by simp,by simp⟩) (by simp)) rfl (.acq hm') rfl (.fin trivial h2) (.inl (by simp only[phi];omega))
     . obtain⟨rfl,k1,k2⟩:=dm hdm;exact go hgo (hsame rfl) hwg k1 (k2 _) (.ke hg') rfl hmode (.inr ⟨rfl,by omega⟩)
    |acq h=>
     rcases qc1 (RM.refl _) h with hst|⟨m',hm,g',w',es,hgo,hdm,hg'⟩
     . obtain⟨_,g',hgo,hnext⟩:=hst;obtain⟨gs',ops,q,k1,k2⟩:=Jd.done G hgo sl;exact⟨gs',_,sl,ops,k1,hN g' _ hnext _ _ _ k2⟩
     . obtain⟨rfl,k1,k2⟩:=dm hdm;exact go hgo (hsame rfl) hwg k1 (k2 _) (.acq hg') rfl hmode (.inr ⟨rfl,by omega⟩)
  . obtain⟨gs',w',ops,D',tag',f',a',st',sm',k1,k2,k3⟩:=Jd.worker G hA hi hx hr sl;exact⟨gs',w',sl,ops,k1,ih _ k3 _ _ _ _ _ _ _ _ _ _ rfl k2⟩
end
end
end Go.Proofs.YtacemdoejblgaaaGreatDoor

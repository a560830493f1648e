/- Part 8. Conditions: each statement's. -/
import Derived.Test.YtacemdoejblgaaaGreatDoorM07
import Derived.Conc.Machine
import Derived.Conc.Listed
import Derived.Conc.LoneCalls
namespace Go.Proofs.YtacemdoejblgaaaGreatDoor
set_option maxHeartbeats 6400000
set_option maxRecDepth 100000
section
open Go.Conc
structure zr where
 k:List Item
 ds:List Deferred
def noT:zr:=⟨[],[]⟩
def qE(fr:Frame)(k:zr):Frame:={ fr with todo:=fr.todo++k.k,defers:=fr.defers++k.ds }
def zi(k:zr):List Frame->List Frame
 | []=>[]
 | [f]=>[qE f k]
 | f::g::l=>f::zi k (g::l)
def below(k:zr):List Frame->zr
 | []=>k
 | _::_=>noT
def gor(k:zr)(cs:List Frame)(st:Frame × List Frame):Goroutine:=G (qE st.1 (below k st.2)) (zi k st.2++cs)
structure yw(P:Program)(e:Bool)(st:Frame × List Frame){α:Type}(s:Sem α)(Q:α->Prop)(g1:α->Frame × List Frame)(g2:Value->Frame × List Frame)(fn:FuncId)(pan:Bool):Prop where
 ok:∀ main k cs w a w' es,(e=false->k=noT)->s.runT P w #[]=(.ok a w',es)->Q a->stepG P main (gor k cs st) w=.go (gor k cs (g1 a)) w' (seen P fn es)
 panic:∀ main k cs w v w' es,(e=false->k=noT)->pan=true->s.runT P w #[]=(.halt (.panic v) w',es)->stepG P main (gor k cs st) w=.go (gor k cs (g2 v)) w' (seen P fn es)
 fatal:∀ main k cs w h w' es,(e=false->k=noT)->s.runT P w #[]=(.halt h w',es)->(Fatal h∨(pan=false/\∃ v,h=.panic v))->∃ o w₁ es₁,stepG P main (gor k cs st) w=.ended o w₁ es₁
def Clean(C:Pen)(S:List String)(st:Frame × List Frame):Prop:=FrE C S st.1/\∀ x,x∈st.2->FrE C S x/\x.todo≠[]
def Norm(C:Pen)(S:List String)(e:Bool)(st:Frame × List Frame):Prop:=
 ∃ (α:Type) (s:Sem α) (Q:α->Prop) (g1:α->Frame × List Frame) (g2:Value->Frame × List Frame) (fn:FuncId) (pan:Bool),
   yw C.P e st s Q g1 g2 fn pan/\qc C s Q/\(∀ a,Q a->Clean C S (g1 a))/\∀ v,Ok C.A C.F v->Clean C S (g2 v)
def q3x(e:Bool)(fr:Frame):Prop:=fr.mode≠.run∨(e=true/\(fr.todo=[]∨(∃ id t,fr.todo=.code (.exit id)::t/\exitTo id t=none)∨∃ l t,fr.todo=.code (.goto l)::t/\gotoIn l t=none))
section
variable {C:Pen}{S:List String}{X:Nat->Prop}{e:Bool}
theorem qp7{α:Type}(P:Program)(a:α)(w:World)(es:Array Event):(pure a:Sem α).runT P w es=(.ok a w,es):=by rfl
theorem seen_none(P:Program)(fn:FuncId):seen P fn #[]=#[]:=by simp [seen]
theorem qz3(fr:Frame):qE fr noT=fr:=by simp [qE,noT]
theorem q55{id:Nat}:∀ (t t' k:List Item),exitTo id t=some t'->exitTo id (t++k)=some (t'++k):=by
 intro t
 induction t with
 | nil=>intro t' k e;cases e
 | cons x t ih=>
   intro t' k e;cases x with
   | inBlock id'=>
     simp only [exitTo,List.cons_append] at e |-;split at e
     . rename_i h;cases e;rw [if_pos h]
     . rename_i h;rw [if_neg h];exact ih t' k e
   | _=>simp only [exitTo,List.cons_append] at e |-;exact ih t' k e
theorem q56{l:Nat}:∀ (t t' k:List Item),gotoIn l t=some t'->gotoIn l (t++k)=some (t'++k):=by
 intro t
 induction t with
 | nil=>intro t' k e;cases e
 | cons x t ih=>
   intro t' k e;cases x with
   | inScope body=>
     simp only [gotoIn,List.cons_append] at e |-;split at e
     . cases e;rfl
     . exact ih t' k e
   | _=>simp only [gotoIn,List.cons_append] at e |-;exact ih t' k e
theorem qi9{fr:Frame}(h:fr.todo≠[])(k:zr)(v:Value):(qE fr k).finish v=qE (fr.finish v) k:=by
 cases ht:fr.todo with
 | nil=>exact absurd ht h
 | cons x t=>
   cases x with
   | inRegion ops is=>cases is <;> simp [Frame.finish,qE,ht]
   | _=>simp [Frame.finish,qE,ht]
theorem qv0(fr:Frame)(k:zr)(vs:List PanicEntry):(qE fr k).raise vs=qE (fr.raise vs) k:=by
 unfold Frame.raise qE;dsimp only;split <;> rfl
theorem qhd(fr:Frame)(f2:Frame)(fs:List Frame)(k:zr):qE fr (below k (f2::fs))=fr:=qz3 fr
theorem qp8(k:zr)(f:Frame)(fs:List Frame):zi k (f::fs)=qE f (below k fs)::zi k fs:=by
 cases fs with
 | nil=>rfl
 | cons g l=>show f::zi k (g::l)=_;rw [qhd]
theorem qlg{st st':Frame × List Frame}(h:∀ main k cs w,(e=false->k=noT)->stepG C.P main (gor k cs st) w=.go (gor k cs st') w #[])(hc:Clean C S st'):Norm C S e st:=by
 refine⟨Unit,pure (),fun _=>True,fun _=>st',fun _=>st',0,true,⟨?_,?_,?_⟩,qab trivial,fun _ _=>hc,fun _ _=>hc⟩
 . intro main k cs w a w' es hk e _;rw [qp7] at e;cases e;rw [h main k cs w hk,seen_none]
 . intro main k cs w v w' es _ _ e;rw [qp7] at e;cases e
 . intro main k cs w x w' es _ e _;rw [qp7] at e;cases e
theorem qdh{fr fr':Frame}{fs:List Frame}(h:∀ main k cs w,stepG C.P main (G (qE fr k) cs) w=.go (G (qE fr' k) cs) w #[])(hc:Clean C S (fr',fs)):Norm C S e (fr,fs):=
 qlg (st':=(fr',fs)) (fun main _ _ w _=>h main _ _ w) hc
theorem qgb{st:Frame × List Frame}(h:∀ main k cs w,(e=false->k=noT)->∃ o w₁ es₁,stepG C.P main (gor k cs st) w=.ended o w₁ es₁)(hc:Clean C S st):Norm C S e st:=by
 refine⟨Unit,stuck "",fun _=>True,fun _=>st,fun _=>st,0,true,⟨?_,?_,?_⟩,qad,fun _ _=>hc,fun _ _=>hc⟩
 . intro main k cs w a w' es _ e _;cases e
 . intro main k cs w v w' es _ _ e;cases e
 . intro main k cs w x w' es hk e _;exact h main k cs w hk
def qz4(P:Program)(fr:Frame)(fs:List Frame):Next->Frame × List Frame
 | .value v=>(fr.finish v,fs)
 | .skip=>(fr.finish undef,fs)
 | .enter f args=>(Frame.enter P f args .normal,fr::fs)
 | _=>(fr,fs)
theorem q1o(H:jo C S){fr:Frame}{fs:List Frame}(hX:FrE C S fr)(hfs:∀ x,x∈fs->FrE C S x/\x.todo≠[]){s:Sem Next}(hs:qc C s (qnv C))
   {ops:Array Oper} {i:Nat} {is:List Nat} {t:List Item} (hk:fr.todo=.inRegion ops (i::is)::t)
   (h:∀ main k cs w,stepG C.P main (G (qE fr k) cs) w=stepG.apply C.P true (qE fr k) cs none s w):Norm C S e (fr,fs):=by
 have hkind:∀ k,((qE fr k).kind == CallKind.early)=false:=fun k=>by show (fr.kind == CallKind.early)=false;rw [hX.kind];rfl
 have hne:fr.todo≠[]:=by rw [hk];exact fun h=>by cases h
 refine⟨Next,s,qnv C,qz4 C.P fr fs,fun v=>(fr.raise [{ v,recovered:=false }],fs),fr.fn,true,⟨?_,?_,?_⟩,hs,fun a ha=>?_,fun v hv=>⟨FrE.raise hX (fun e he=>?_),hfs⟩⟩
 . intro main k cs w a w' es _ e ha;unfold gor;dsimp only;rw [h];cases a with
   | value v=>simp only [stepG.apply,e,hkind,GStep.after,qz4,if_true,Bool.false_eq_true,if_false,Array.append_empty,qi9 hne];rfl
   | skip=>simp only [stepG.apply,e,hkind,GStep.after,qz4,if_true,Bool.false_eq_true,if_false,Array.append_empty,qi9 hne];rfl
   | enter f args=>
     simp only [stepG.apply,e,hkind,GStep.after,qz4,if_true,Bool.false_eq_true,if_false,Array.append_empty];rw [qp8,show below k (fr::fs)=noT from rfl,qz3];split
     . rename_i hk';rw [show (qE fr (below k fs)).todo=.inRegion ops (i::is)::(t++(below k fs).k) from by simp [qE,hk]] at hk';cases hk'
     . rfl
   | _=>exact ha.elim
 . intro main k cs w v w' es _ _ e;unfold gor;dsimp only;rw [h];simp only [stepG.apply,e,hkind,GStep.after,if_true,Bool.false_eq_true,if_false,Array.append_empty,qv0];rfl
 . intro main k cs w x w' es _ e hx;unfold gor;dsimp only;rw [h];replace hx:Fatal x:=hx.elim id (fun y=>by cases y.1);cases x with
   | stuck y=>exact⟨_,_,_,by simp [stepG.apply,e,hkind,GStep.after,-Sem.runT_eq];exact⟨rfl,rfl,rfl⟩⟩
   | unsupported y=>
     cases y with
     | initOrder g=>exact hx.elim
     | _=>exact⟨_,_,_,by simp [stepG.apply,e,hkind,GStep.after,-Sem.runT_eq];exact⟨rfl,rfl,rfl⟩⟩
   | _=>exact hx.elim
 . cases a with
   | value v=>exact⟨FrE.finish hX ha,hfs⟩
   | skip=>exact⟨FrE.finish hX .undef,hfs⟩
   | enter f args=>
     obtain⟨h1,h2,fn,c,h3,h4⟩:=ha;refine⟨q6c H h1 h2 h3 h4,fun x hx=>?_⟩;rcases List.mem_cons.1 hx with rfl | hx
     . exact⟨hX,hne⟩
     . exact hfs x hx
   | _=>exact ha.elim
 . rw [List.mem_singleton] at he;subst he;exact hv
theorem qty(fr:Frame)(k:zr)(x:Operand):(qE fr k).eval x=fr.eval x:=by cases x <;> rfl
theorem q3y(H:jo C S){fr:Frame}{fs:List Frame}(hX:FrE C S fr)(hfs:∀ x,x∈fs->FrE C S x/\x.todo≠[])(hm:fr.mode=.run):(fs=[]/\q3x e fr)∨Norm C S e (fr,fs):=by
 have hall:Clean C S (fr,fs):=⟨hX,hfs⟩;have hr:=hX.round;have ret:Clean C S ({ fr with mode:=.returning },fs):=⟨jJ.jP hX (fun ch e=>by cases e),hfs⟩;have to:∀ k,(∀ it,it∈k->qjw C S (C.X fr.fn) it)->Clean C S ({ fr with todo:=k },fs):=fun k hk=>⟨jJ.vp hX hk,hfs⟩;have ht:=hX.todo;cases hk:fr.todo with
 | nil=>
   cases fs with
   | nil=>
     cases e with
     | true=>exact .inl ⟨rfl,.inr ⟨rfl,.inl hk⟩⟩
     | false=>exact .inr (qlg (st':=({ fr with mode:=.returning },[])) (fun main κ cs w he=>by
         have:=he rfl;subst this;simp [gor,below,zi,qE,noT,G,stepG,stepG.exec,hm,hk,hr]) ret)
   | cons f2 fs=>exact .inr (qlg (st':=({ fr with mode:=.returning },f2::fs)) (fun main κ cs w _=>by
       unfold gor;dsimp only;rw [qhd,qhd];simp [G,stepG,stepG.exec,hm,hk,hr]) ret)
 | cons it k=>
   rw [hk] at ht;have h0:=ht it (by simp);have hkk:∀ it,it∈k->qjw C S (C.X fr.fn) it:=fun x hx=>ht x (by simp [hx]);cases it with
   | code c=>
     cases c with
     | ret=>exact .inr (qdh (fr':={ fr with mode:=.returning }) (fun main κ cs w=>by simp [G,stepG,stepG.exec,qE,hm,hk,hr]) ret)
     | skip=>exact .inr (qdh (fr':={ fr with todo:=k }) (fun main κ cs w=>by simp [G,stepG,stepG.exec,qE,hm,hk]) (to k hkk))
     | label l=>exact .inr (qdh (fr':={ fr with todo:=k }) (fun main κ cs w=>by simp [G,stepG,stepG.exec,qE,hm,hk]) (to k hkk))
     | seq a b=>
       refine .inr (qdh (fr':={ fr with todo:=.code a::.code b::k }) (fun main κ cs w=>by simp [G,stepG,stepG.exec,qE,hm,hk]) (to _ (fun x hx=>?_)));rcases List.mem_cons.1 hx with rfl | hx
       . exact h0.1
       . rcases List.mem_cons.1 hx with rfl | hx
         . exact h0.2
         . exact hkk x hx
     | cond c a b=>
       right;by_cases hb:∃ t,fr.eval c=.bool t
       . obtain⟨t,ht⟩:=hb;refine qdh (fr':={ fr with todo:=.code (if t then a else b)::k }) (fun main κ cs w=>?_) (to _ (fun x hx=>?_))
         . have h':=(qty fr κ c).trans ht;simp only [qE,hk,hm,List.cons_append] at h';simp [G,stepG,stepG.exec,qE,hm,hk,h']
         rcases List.mem_cons.1 hx with rfl | hx
         . cases t
           . exact h0.2
           . exact h0.1
         . exact hkk x hx
       . refine qgb (fun main κ cs w _=>?_) hall;have h':=qty fr (below κ fs) c;simp only [qE,hk,hm,List.cons_append] at h';cases hv:fr.eval c with
         | bool t=>exact absurd ⟨t,hv⟩ hb
         | _=>rw [hv] at h';exact⟨_,_,_,by simp [gor,G,stepG,stepG.exec,qE,hm,hk,h'];exact⟨rfl,rfl,rfl⟩⟩
     | block id c=>
       refine .inr (qdh (fr':={ fr with todo:=.code c::.inBlock id::k }) (fun main κ cs w=>by simp [G,stepG,stepG.exec,qE,hm,hk]) (to _ (fun x hx=>?_)));rcases List.mem_cons.1 hx with rfl | hx
       . exact h0
       . rcases List.mem_cons.1 hx with rfl | hx
         . trivial
         . exact hkk x hx
     | loop c=>
       refine .inr (qdh (fr':={ fr with todo:=.code c::.inLoop c::k }) (fun main κ cs w=>by simp [G,stepG,stepG.exec,qE,hm,hk]) (to _ (fun x hx=>?_)));rcases List.mem_cons.1 hx with rfl | hx
       . exact h0
       . rcases List.mem_cons.1 hx with rfl | hx
         . exact h0
         . exact hkk x hx
     | scope c=>
       refine .inr (qdh (fr':={ fr with todo:=.code c::.inScope c::k }) (fun main κ cs w=>by simp [G,stepG,stepG.exec,qE,hm,hk]) (to _ (fun x hx=>?_)));rcases List.mem_cons.1 hx with rfl | hx
       . exact h0
       . rcases List.mem_cons.1 hx with rfl | hx
         . exact h0
         . exact hkk x hx
     | exit id=>
       cases he:exitTo id k with
       | some k'=>exact .inr (qdh (fr':={ fr with todo:=k' }) (fun main κ cs w=>by simp [G,stepG,stepG.exec,qE,hm,hk,q55 k k' κ.k he]) (to _ (q39 k k' hkk he)))
       | none=>
         cases fs with
         | nil=>
           cases e with
           | true=>exact .inl ⟨rfl,.inr ⟨rfl,.inr (.inl ⟨id,k,hk,he⟩)⟩⟩
           | false=>exact .inr (qgb (fun main κ cs w h0=>by
               have:=h0 rfl;subst this;exact⟨_,_,_,by simp [gor,below,zi,qE,noT,G,stepG,stepG.exec,hm,hk,he,hr];exact⟨rfl,rfl,rfl⟩⟩) hall)
         | cons f2 fs=>exact .inr (qgb (fun main κ cs w _=>by
             unfold gor;dsimp only;rw [qhd];exact⟨_,_,_,by simp [G,stepG,stepG.exec,hm,hk,he,hr];exact⟨rfl,rfl,rfl⟩⟩) hall)
     | goto l=>
       cases he:gotoIn l k with
       | some k'=>exact .inr (qdh (fr':={ fr with todo:=k' }) (fun main κ cs w=>by simp [G,stepG,stepG.exec,qE,hm,hk,q56 k k' κ.k he]) (to _ (q4a k k' hkk he)))
       | none=>
         cases fs with
         | nil=>
           cases e with
           | true=>exact .inl ⟨rfl,.inr ⟨rfl,.inr (.inr ⟨l,k,hk,he⟩)⟩⟩
           | false=>exact .inr (qgb (fun main κ cs w h0=>by
               have:=h0 rfl;subst this;exact⟨_,_,_,by simp [gor,below,zi,qE,noT,G,stepG,stepG.exec,hm,hk,he,hr];exact⟨rfl,rfl,rfl⟩⟩) hall)
         | cons f2 fs=>exact .inr (qgb (fun main κ cs w _=>by
             unfold gor;dsimp only;rw [qhd];exact⟨_,_,_,by simp [G,stepG,stepG.exec,hm,hk,he,hr];exact⟨rfl,rfl,rfl⟩⟩) hall)
     | rangeFunc f ps a b=>exact h0.elim
     | refuse y=>exact .inr (qgb (fun main κ cs w _=>⟨_,_,_,by simp [gor,G,stepG,stepG.exec,qE,hm,hk];exact⟨rfl,rfl,rfl⟩⟩) hall)
     | region id ops draw=>
       right
       have qcL:∀ is,Clean C S ({ fr with todo:=.inRegion ops is::k },fs):=fun is=>to _ (fun x hx=>by
         rcases List.mem_cons.1 hx with rfl | hx
         . exact h0
         . exact hkk x hx)
       cases draw with
       | false=>exact qdh (fr':={ fr with todo:=.inRegion ops (List.range ops.size)::k }) (fun main κ cs w=>by simp [G,stepG,stepG.exec,qE,hm,hk]) (qcL _)
       | true=>
         refine⟨Nat,choose (.order fr.fn id),fun _=>True,fun t=>({ fr with todo:=.inRegion ops (Region.schedule (C.P.follows .mixedOrders) ops t)::k },fs),fun _=>(fr,fs),0,true,⟨?_,?_,?_⟩,qdd _,fun _ _=>qcL _,fun _ _=>hall⟩
         . intro main κ cs w a w' es _ e _;simp only [choose,Sem.runT,Question.forced,Bool.false_eq_true,if_false,Prod.mk.injEq,Result.ok.injEq] at e;obtain⟨⟨rfl,rfl⟩,rfl⟩:=e;simp [gor,G,stepG,stepG.exec,qE,hm,hk,choose,Sem.run,Question.forced,seen_none]
         . intro main κ cs w v w' es _ _ e;simp [choose,Sem.runT,Question.forced,-Sem.runT_eq] at e
         . intro main κ cs w x w' es _ e _;simp [choose,Sem.runT,Question.forced,-Sem.runT_eq] at e
   | inBlock id=>exact .inr (qdh (fr':={ fr with todo:=k }) (fun main κ cs w=>by simp [G,stepG,stepG.exec,qE,hm,hk]) (to k hkk))
   | inScope c=>exact .inr (qdh (fr':={ fr with todo:=k }) (fun main κ cs w=>by simp [G,stepG,stepG.exec,qE,hm,hk]) (to k hkk))
   | inLoop c=>
     refine .inr (qdh (fr':={ fr with todo:=.code c::.inLoop c::k }) (fun main κ cs w=>by simp [G,stepG,stepG.exec,qE,hm,hk]) (to _ (fun x hx=>?_)));rcases List.mem_cons.1 hx with rfl | hx
     . exact h0
     . rcases List.mem_cons.1 hx with rfl | hx
       . exact h0
       . exact hkk x hx
   | inRegion ops is=>
     right;cases is with
     | nil=>exact qdh (fr':={ fr with todo:=k }) (fun main κ cs w=>by simp [G,stepG,stepG.exec,qE,hm,hk]) (to k hkk)
     | cons i rest=>
       by_cases hw:((ops[i]?).map (Region.wanted · (yielded ops fr.tmps))).getD false=true
       . cases ho:ops[i]? with
         | none=>rw [ho] at hw;cases hw
         | some o=>
           have hoo:=h0 o (Array.mem_of_getElem? ho);rw [ho] at hw;refine q1o H hX hfs (s:=execOp fr.eval o) (qnw H.yu (fun x hx=>q4b hX (hoo.2 x hx)) hoo.1) hk (fun main κ cs w=>?_);have h':(qE fr κ).eval=fr.eval:=funext (qty fr κ);simp only [qE,hk,hm,hr,List.cons_append] at h';simp [G,stepG,stepG.exec,stepG.oper,Frame.oper?,qE,hm,hk,ho,hr] at hw |-;simp [hw,h']
       . refine qdh (fr':=fr.finish undef) (fun main κ cs w=>?_) ⟨FrE.finish hX .undef,hfs⟩;rw [<-qi9 (by rw [hk];exact fun h=>by cases h)];simp [G,stepG,stepG.exec,qE,hm,hk,hw]
   | _=>exact h0.elim
theorem q1p{α β:Type}{Q:β->Prop}{f:α->Sem β}(xs:Array α)(h:∀ x,x∈xs->qc C (f x) Q):qc C (xs.mapM f) (fun ys=>∀ y,y∈ys->Q y):=by
 rw [Array.mapM_eq_mapM_toList];refine qqb (Q:=fun l:List β=>∀ y,y∈l->Q y) ?_ (fun l hl y hy=>hl y (by simpa using hy));have h':∀ x,x∈xs.toList->qc C (f x) Q:=fun x hx=>h x (by simpa using hx);generalize xs.toList=l at h'
 induction l with
 | nil=>rw [List.mapM_nil];exact qab (fun y hy=>by cases hy)
 | cons x l ih=>
   rw [List.mapM_cons];refine qaa (h' x (by simp)) (fun a ha=>qaa (ih (fun y hy=>h' y (by simp [hy]))) (fun b hb=>qab (fun y hy=>?_)));rcases List.mem_cons.1 hy with rfl | hy
   . exact ha
   . exact hb y hy
theorem q3z{fr:Frame}(h:jJ C S X fr){t:Nat}(hx:¬ X t):Ok C.A C.F (fr.tmps.getD t undef):=q4b h (x:=.tmp t) hx
theorem qlh(H:jo C S){fr:Frame}(h:jJ C S X fr){fn:Func}(hf:C.P.funcs[fr.fn]?=some fn):qc C (results fn fr.tmps) (Ok C.A C.F):=by
 obtain⟨fn',h1,h2⟩:=h.fn;cases h1.symm.trans hf;unfold results;refine qaa (q1p _ (fun r hr=>?_) (Q:=Ok C.A C.F)) (fun vs hvs=>qab ?_)
 . have:=h2 r hr;cases r with
   | tmp t=>exact qab (q3z h this)
   | cell a t=>exact qaa (qfi H.yu.handle (q3z h this)) (fun x hx=>qez hx)
 . split
   . exact hvs _ (Array.getElem_mem _)
   . exact .tuple hvs
theorem norm(H:jo C S){fr:Frame}{fs:List Frame}(h:Clean C S (fr,fs)):(fs=[]/\q3x e fr)∨Norm C S e (fr,fs):=by
 obtain⟨hX,hfs⟩:=h;replace hX:FrE C S fr:=hX;replace hfs:∀ x,x∈fs->FrE C S x/\x.todo≠[]:=hfs;by_cases hm:fr.mode=.run
 . exact q3y H hX hfs hm
 cases fs with
 | nil=>exact .inl ⟨rfl,.inl hm⟩
 | cons f2 fs=>
   right;have h2:=hfs f2 (by simp);have hf2:∀ x,x∈fs->FrE C S x/\x.todo≠[]:=fun x hx=>hfs x (by simp [hx]);obtain⟨fn,hf,_⟩:=hX.fn;have hd:=hX.defers
   have yx:∀ k cs,gor k cs (fr,f2::fs)=G fr (qE f2 (below k fs)::(zi k fs++cs)):=fun k cs=>by
     unfold gor;dsimp only;rw [qhd,qp8];rfl
   cases hmode:fr.mode with
   | run=>exact absurd hmode hm
   | panicking ch=>
     exact qlg (st':=(f2.raise ch,fs)) (fun main k cs w _=>by
       rw [yx];unfold gor;simp only [<-qv0];simp [G,stepG,unwind,hmode,hd,Frame.catches,hf]) ⟨h2.1.raise (hX.mode ch hmode),hf2⟩
   | returning=>
     have hk:=hX.kind;refine⟨Value,results fn fr.tmps,Ok C.A C.F,fun v=>(f2.finish v,fs),fun _=>(f2,fs),fr.fn,false,⟨?_,?_,?_⟩,qlh H hX hf,fun v hv=>⟨h2.1.finish hv,hf2⟩,fun v hv=>⟨h2.1,hf2⟩⟩
     . intro main k cs w a w' es _ e _;rw [yx];unfold gor;simp only [<-qi9 h2.2];simp only [Sem.runT_eq,Prod.mk.injEq] at e;simp [G,stepG,unwind,hmode,hd,hf,doReturn,hk,GStep.after,e.1,e.2]
     . intro main k cs w v w' es _ h0 e;cases h0
     . intro main k cs w x w' es _ e hx;rw [yx];simp only [Sem.runT_eq,Prod.mk.injEq] at e;cases x with
       | stuck y=>exact⟨_,_,_,by simp [G,stepG,unwind,hmode,hd,hf,GStep.after,e.1];exact⟨rfl,rfl,rfl⟩⟩
       | _=>exact⟨_,_,_,by simp [G,stepG,unwind,hmode,hd,hf,GStep.after,e.1];exact⟨rfl,rfl,rfl⟩⟩
end
def re(w:World)(t:Nat->Question->Nat)(d:Nat):World:={ w with tape:=t,drawn:=d }
def z9{α:Type}(f:World->World):Result α->Result α
 | .ok a w=>.ok a (f w)
 | .halt h w=>.halt h (f w)
theorem q30{α:Type}:∀ (a:Ask α) (w:World) (t:Nat->Question->Nat) (d:Nat),(∀ i q,t (d+i) q=w.tape (w.drawn+i) q) ->
   (re w t d).ask a=((w.ask a).1,re (w.ask a).2 t (d+((w.ask a).2.drawn - w.drawn))):=by
 intro a
 induction a with
 | done a=>intro w t d _;simp [World.ask,re]
 | ask what range k ih=>
   intro w t d h;simp only [World.ask];split
   . exact ih _ w t d h
   . rename_i hf;have h0:(re w t d).tape (re w t d).drawn (.extern what range)=w.tape w.drawn (.extern what range):=h 0 _;rw [h0]
     have h1:=ih ((Question.extern what range).cut (w.tape w.drawn (.extern what range))) { w with drawn:=w.drawn+1 } t (d+1) (fun i q=>by
       have:=h (i+1) q;show t (d+1+i) q=w.tape (w.drawn+1+i) q;rw [show d+1+i=d+(i+1) by omega,show w.drawn+1+i=w.drawn+(i+1) by omega];exact this)
     have h2:=(qz5 (k ((Question.extern what range).cut (w.tape w.drawn (.extern what range)))) { w with drawn:=w.drawn+1 }).2;refine Eq.trans (show _=(re { w with drawn:=w.drawn+1 } t (d+1)).ask _ from rfl) (h1.trans ?_);simp only [Prod.mk.injEq,true_and];congr 1;have h3:w.drawn+1<=(World.ask { w with drawn:=w.drawn+1 } (k ((Question.extern what range).cut (w.tape w.drawn (.extern what range))))).2.drawn:=h2;show d+1+(_ - (w.drawn+1))=_;omega
theorem q31(w:World)(c:Sys)(t:Nat->Question->Nat)(d:Nat)(h:∀ i q,t (d+i) q=w.tape (w.drawn+i) q) :
   (re w t d).sys c=((w.sys c).1,re (w.sys c).2 t (d+((w.sys c).2.drawn - w.drawn))):=by
 have h1:=q30 (Kernel.perform c w.os) w t d h;unfold World.sys;rw [show (re w t d).os=w.os from rfl,h1];generalize w.ask (Kernel.perform c w.os)=x;obtain⟨⟨r,os⟩,w'⟩:=x;cases r <;> first | rfl | simp [re]
theorem q1q(p:Program)(w:World)(t:Nat->Question->Nat)(d:Nat)(a:Addr)(b:Bool):(re w t d).farLoad p a b=w.farLoad p a b:=rfl
theorem qv1(p:Program)(w:World)(t:Nat->Question->Nat)(d:Nat)(at_:Addr)(u:TypeId)(a:Addr)(v:Value)(b:Bool) :
   (re w t d).viewStore p at_ u a v b=(w.viewStore p at_ u a v b).map (fun x=>(re x.1 t d,x.2)):=by
 have hs:(re w t d).seen p at_ u a b=w.seen p at_ u a b:=rfl;unfold World.viewStore;rw [hs];simp only [bind,Except.bind,pure,Except.pure];split
 . rfl
 . split
   . rfl
   . split
     . split
       . rfl
       . split
         . rfl
         . rfl
     . rfl
theorem qyf(p:Program)(w:World)(t:Nat->Question->Nat)(d:Nat)(a:Addr)(v:Value)(b:Bool) :
   (re w t d).farStore p a v b=(w.farStore p a v b).map (fun x=>(re x.1 t d,x.2)):=by
 unfold World.farStore;rw [show (re w t d).heap=w.heap from rfl];cases w.heap[a.block]? with
 | none=>rfl
 | some o=>
   cases o with
   | view at_ u=>
     dsimp only;rw [qv1];cases w.viewStore p at_ u a v b <;> rfl
   | _=>rfl
theorem qp9{α:Type}(p:Program):∀ (s:Sem α) (w:World) (t:Nat->Question->Nat) (d:Nat),(∀ i q,t (d+i) q=w.tape (w.drawn+i) q) ->
   s.run p (re w t d)=z9 (fun v=>re v t (d+(v.drawn - w.drawn))) (s.run p w):=by
 intro s
 induction s with
 | pure a=>intro w t d _;simp [Sem.run,z9,re]
 | load m a k ih=>
   intro w t d h;simp only [Sem.run];rw [show (re w t d).cell? a=w.cell? a from rfl,q1q];cases w.cell? a with
   | some v=>exact ih v w t d h
   | none=>
     cases w.farLoad p a (m == .atomic) with
     | ok r=>exact ih r.1 w t d h
     | error e=>simp [z9]
 | store m a v k ih=>
   intro w t d h
   have key:(match (re w t d).cell? a with
       | some _=>if (re w t d).frozen? a then .halt (.unsupported (.unsafePointer "a write to bytes that a string shares")) (re w t d) else k.run p ((re w t d).setCell a v)
       | none=>match (re w t d).farStore p a v (m == .atomic) with
         | .ok (w,_)=>k.run p w
         | .error h=>.halt h (re w t d))=z9 (fun v=>re v t (d+(v.drawn - w.drawn))) (match w.cell? a with
       | some _=>if w.frozen? a then .halt (.unsupported (.unsafePointer "a write to bytes that a string shares")) w else k.run p (w.setCell a v)
       | none=>match w.farStore p a v (m == .atomic) with
         | .ok (w,_)=>k.run p w
         | .error h=>.halt h w):=by
     rw [show (re w t d).cell? a=w.cell? a from rfl,show (re w t d).frozen? a=w.frozen? a from rfl,qyf];cases w.cell? a with
     | some x=>
       dsimp only;split
       . simp [z9]
       . exact ih (w.setCell a v) t d h
     | none=>
       cases hf:w.farStore p a v (m == .atomic) with
       | ok r=>
         obtain⟨w2,l⟩:=r;have h1:=qlj hf;have:=ih w2 t d (fun i q=>by rw [h1.1,h1.2];exact h i q);rw [h1.2] at this;exact this
       | error e=>simp [Except.map,z9]
   cases v <;> first | exact key | simp [Sem.run,z9]
 | new o k ih=>intro w t d h;exact ih _ { w with heap:=w.heap.push o } t d h
 | shape r k ih=>intro w t d h;exact ih _ w t d h
 | freeze a n k ih=>
   intro w t d h;have h1:(w.freeze a n).tape=w.tape/\(w.freeze a n).drawn=w.drawn:=by unfold World.freeze;split <;> exact⟨rfl,rfl⟩
   have h2:(re w t d).freeze a n=re (w.freeze a n) t d:=by unfold World.freeze;split <;> rfl
   have:=ih (w.freeze a n) t d (fun i q=>by rw [h1.1,h1.2];exact h i q);rw [h1.2] at this;simp only [Sem.run,h2];exact this
 | frozen a k ih=>intro w t d h;exact ih _ w t d h
 | getObj r k ih=>
   intro w t d h;simp only [Sem.run];rw [show (re w t d).heap=w.heap from rfl];cases w.heap[r]? with
   | none=>simp [z9]
   | some o=>cases o <;> first | (simp [z9];done) | exact ih _ w t d h
 | setObj r o k ih=>
   intro w t d h;simp only [Sem.run];rw [show (re w t d).heap=w.heap from rfl];cases w.heap[r]? with
   | none=>simp [z9]
   | some x=>cases x <;> first | (simp [z9];done) | exact ih { w with heap:=w.heap.setIfInBounds r o } t d h
 | choose q k ih=>
   intro w t d h;simp only [Sem.run];split
   . exact ih 0 w t d h
   . have h0:(re w t d).tape (re w t d).drawn q=w.tape w.drawn q:=h 0 q;rw [h0]
     have h1:=ih (q.cut (w.tape w.drawn q)) { w with drawn:=w.drawn+1 } t (d+1) (fun i q=>by
       have:=h (i+1) q;show t (d+1+i) q=w.tape (w.drawn+1+i) q;rw [show d+1+i=d+(i+1) by omega,show w.drawn+1+i=w.drawn+(i+1) by omega];exact this)
     have h2:=(qja p (k (q.cut (w.tape w.drawn q))) { w with drawn:=w.drawn+1 }).2;refine Eq.trans (show _=(k (q.cut (w.tape w.drawn q))).run p (re { w with drawn:=w.drawn+1 } t (d+1)) from rfl) (h1.trans ?_);cases hr:(k (q.cut (w.tape w.drawn q))).run p { w with drawn:=w.drawn+1 } with
     | ok a v=>
       rw [hr] at h2;have h3:w.drawn+1<=v.drawn:=h2;simp only [z9,Result.ok.injEq,true_and];congr 1;omega
     | halt x v=>
       rw [hr] at h2;have h3:w.drawn+1<=v.drawn:=h2;simp only [z9,Result.halt.injEq,true_and];congr 1;omega
 | sys c k ih=>
   intro w t d h;have h1:=q31 w c t d h;have h2:=qz6 w c;simp only [Sem.run,h1]
   have h3:=ih (w.sys c).1 (w.sys c).2 t (d+((w.sys c).2.drawn - w.drawn)) (fun i q=>by
     rw [h2.1,show d+((w.sys c).2.drawn - w.drawn)+i=d+(((w.sys c).2.drawn - w.drawn)+i) by omega,h];congr 1;have:=h2.2;omega)
   refine h3.trans ?_;have h4:=(qja p (k (w.sys c).1) (w.sys c).2).2;have h5:=h2.2;cases hr:(k (w.sys c).1).run p (w.sys c).2 with
   | ok a v=>
     rw [hr] at h4;have h6:(w.sys c).2.drawn<=v.drawn:=h4;simp only [z9,Result.ok.injEq,true_and];congr 1;omega
   | halt x v=>
     rw [hr] at h4;have h6:(w.sys c).2.drawn<=v.drawn:=h4;simp only [z9,Result.halt.injEq,true_and];congr 1;omega
 | program k ih=>intro w t d h;exact ih _ w t d h
 | mark m k ih=>intro w t d h;exact ih w t d h
 | halt x=>intro w t d _;simp [Sem.run,z9,re]
section
variable {C:Pen}{S:List String}{e:Bool}
theorem Rel.zx{w u:World}(h:Rel C w u):Rel C u u:=
 ⟨rfl,rfl,by have:=h.room;rw [h.size] at this;exact this,fun r hp=>by
   obtain⟨c',c,e,fr,h1,h2,h3,h4,h5,h6⟩:=h.part r hp;exact⟨c',c',e,(0,0),h1,h1,Nat.le_refl _,h4,fun i v hv=>⟨hv,fun hA=>⟨((h5 i v hv).2 hA).1,by omega⟩⟩,.inl rfl,h6.2⟩,fun _ _ _=>rfl,h.cln,h.chn,rfl⟩
theorem Rel.vq{w u:World}(h:Rel C w u)(t:Nat->Question->Nat):Rel C (re w t w.drawn) u:=⟨h.size,h.os,h.room,h.part,h.same,h.cln,h.chn,h.drawn⟩
theorem Rel.zM{w u:World}(h:Rel C w u)(t:Nat->Question->Nat):Rel C w (re u t u.drawn):=⟨h.size,h.os,h.room,h.part,h.same,h.cln,h.chn,h.drawn⟩
theorem Rel.at{w u:World}(h:Rel C w u)(d:Nat):Rel C (w.at d) (u.at d):=⟨h.size,h.os,h.room,h.part,h.same,h.cln,h.chn,rfl⟩
theorem q57{u' v t d}(h1:v.heap=u'.heap)(h2:v.tape=t)(h3:v.drawn=d)(h4:v.os=u'.os)(h5:v.output=u'.output):v=re u' t d:=by
 cases v;cases u';simp only [re] at *;subst h1 h2 h3 h4 h5;rfl
theorem qv2{u u' v:World}{t:Nat->Question->Nat}{e1 e2:Array Event}(k1:Kept C u u' e1)(k2:Kept C (re u t u.drawn) v e2)(r1:Rel C v u')(r2:Rel C u' v):v=re u' t u'.drawn:=by
 refine q57 ?_ (by rw [k2.tape];rfl) r1.drawn (by rw [k2.os,k1.os];rfl) (by rw [k2.output,k1.output];rfl);apply Array.ext_getElem?;intro r;by_cases hA:C.B r/\¬ C.Z r/\¬ C.Ch r
 . obtain⟨hB,hZ,hC⟩:=hA;by_cases hp:C.Pt r
   . obtain⟨c',c,e,fr,h1,h2,h3,_,h5,_⟩:=r1.part r hp;obtain⟨d',d,e2,fr2,k1,k2,k3,_,_,_⟩:=r2.part r hp;rw [h2] at k1;rw [h1] at k2;cases k1;cases k2;rw [h1,h2];congr 2;apply Array.ext_getElem?;intro i;by_cases hi:i < c'.size
     . rw [(h5 i _ (Array.getElem?_eq_getElem hi)).1,Array.getElem?_eq_getElem hi]
     . rw [Array.getElem?_eq_none (by omega),Array.getElem?_eq_none (by omega)]
   . exact r1.same r hB hp
 . have hA':¬ C.B r∨C.Z r∨C.Ch r:=by
     by_cases h1:C.B r
     . by_cases h2:C.Z r
       . exact .inr (.inl h2)
       . by_cases h3:C.Ch r
         . exact .inr (.inr h3)
         . exact absurd ⟨h1,h2,h3⟩ hA
     . exact .inl h1
   rw [k2.block r hA',k1.block r hA'];rfl
theorem q7z{α:Type}{s:Sem α}{Q:α->Prop}(hs:qc C s Q){u:World}(hu:Rel C u u){a:α}{u':World}(e:s.run C.P u=.ok a u')(t:Nat->Question->Nat)(ht:Same (re u t u.drawn) u u.drawn u'.drawn) :
   s.run C.P (re u t u.drawn)=.ok a (re u' t u'.drawn):=by
 have h0:=hs u u #[] hu (fun _ _ _ _=>rfl);rw [e] at h0;obtain⟨u2,e0,h1,h2,k0,_⟩:=h0;rw [Sem.runT_eq,e] at h1;have hu2:u'=u2:=by simp only [Prod.mk.injEq,Result.ok.injEq,true_and] at h1;exact h1.1
 subst hu2;have h:=hs (re u t u.drawn) u #[] (hu.vq t) (by rw [e];exact ht);rw [e] at h;obtain⟨v,e1,h3,h4,k1,_⟩:=h;have h5:s.run C.P (re u t u.drawn)=.ok a v:=by rw [Sem.runT_eq] at h3;exact(Prod.mk.inj h3).1
 have h6:=hs u (re u t u.drawn) #[] (hu.zM t) (by
   rw [h5];intro k q i1 i2;have:v.drawn=u'.drawn:=h4.drawn;exact(ht k q i1 (by rw [<-this];exact i2)).symm)
 rw [h5] at h6;obtain⟨u3,e2,h7,h8,_,_⟩:=h6;have h9:s.run C.P u=.ok a u3:=by rw [Sem.runT_eq] at h7;exact(Prod.mk.inj h7).1
 rw [e] at h9;cases h9;rw [h5,qv2 k0 k1 h4 h8]
theorem q1r{α:Type}{s:Sem α}{Q:α->Prop}(hs:qc C s Q){u:World}(hu:Rel C u u){a:Value}{u':World}(e:s.run C.P u=.halt (.panic a) u')(t:Nat->Question->Nat)(ht:Same (re u t u.drawn) u u.drawn u'.drawn) :
   s.run C.P (re u t u.drawn)=.halt (.panic a) (re u' t u'.drawn):=by
 have h0:=hs u u #[] hu (fun _ _ _ _=>rfl);rw [e] at h0;obtain⟨u2,e0,h1,h2,k0,_⟩:=h0;rw [Sem.runT_eq,e] at h1;have hu2:u'=u2:=by simp only [Prod.mk.injEq,Result.halt.injEq,true_and] at h1;exact h1.1
 subst hu2;have h:=hs (re u t u.drawn) u #[] (hu.vq t) (by rw [e];exact ht);rw [e] at h;obtain⟨v,e1,h3,h4,k1,_⟩:=h;have h5:s.run C.P (re u t u.drawn)=.halt (.panic a) v:=by rw [Sem.runT_eq] at h3;exact(Prod.mk.inj h3).1
 have h6:=hs u (re u t u.drawn) #[] (hu.zM t) (by
   rw [h5];intro k q i1 i2;have:v.drawn=u'.drawn:=h4.drawn;exact(ht k q i1 (by rw [<-this];exact i2)).symm)
 rw [h5] at h6;obtain⟨u3,e2,h7,h8,_,_⟩:=h6;have h9:s.run C.P u=.halt (.panic a) u3:=by rw [Sem.runT_eq] at h7;exact(Prod.mk.inj h7).1
 rw [e] at h9;cases h9;rw [h5,qv2 k0 k1 h4 h8]
structure yz(P:Program)(e:Bool)(st:Frame × List Frame)(v:World)(st':Frame × List Frame)(v':World):Prop where
 le:v.drawn<=v'.drawn
 go:∀ t p,(∀ i q,i < v'.drawn - v.drawn->t (p+i) q=v.tape (v.drawn+i) q)->∀ main k cs,(e=false->k=noT)->∃ es,stepG P main (gor k cs st) (re v t p)=.go (gor k cs st') (re v' t (p+(v'.drawn - v.drawn))) es
def q8x(P:Program)(e:Bool)(st:Frame × List Frame)(v:World):Prop:=∀ t p,(∀ i q,t (p+i) q=v.tape (v.drawn+i) q)->∀ main k cs,(e=false->k=noT)->∃ o w es,stepG P main (gor k cs st) (re v t p)=.ended o w es
theorem qli{w w':World}{es:Array Event}(h:Kept C w w' es)(fn:FuncId):Kept C w w' (seen C.P fn es):=⟨h.block,h.size,h.os,h.output,h.tape,h.drawn,fun e he=>h.evs e (mem_seen he),h.tail⟩
theorem qsy(v:World)(t:Nat->Question->Nat)(p n:Nat)(h:∀ i q,i < n->t (p+i) q=v.tape (v.drawn+i) q) :
   ∃ t2:Nat->Question->Nat,Same (re v t2 v.drawn) v v.drawn (v.drawn+n)/\∀ i q,t (p+i) q=t2 (v.drawn+i) q:=
 ⟨fun j=>t (p+(j - v.drawn)),fun k q h1 h2=>by
   show t (p+(k - v.drawn)) q=v.tape k q;rw [h _ q (by omega)];congr 1;omega,fun i q=>by show t (p+i) q=t (p+(v.drawn+i - v.drawn)) q;congr 2;omega⟩
theorem adv(H:jo C S){fr:Frame}{fs:List Frame}(h:Clean C S (fr,fs)){w u:World}(hr:Rel C w u)(ht:u.tape=w.tape) :
   (fs=[]/\q3x e fr)∨q8x C.P e (fr,fs) u∨∃ st' w' u' es,(∀ main k cs,(e=false->k=noT)->stepG C.P main (gor k cs (fr,fs)) w=.go (gor k cs st') w' es)/\Kept C w w' es/\Rel C w' u'/\u'.tape=w'.tape/\Clean C S st'/\yz C.P e (fr,fs) u st' u':=by
 rcases norm (e:=e) H h with h | ⟨α,s,Q,g1,g2,fn,pan,hb,hs,h1,h2⟩
 . exact .inl h
 . right;have hk:=hs w u #[] hr (fun k q _ _=>by rw [ht]);have htp:=qja C.P s u;cases er:s.run C.P u with
   | ok a u'=>
     rw [er] at hk htp;obtain⟨w',new,e1,r1,k1,q1⟩:=hk;right;refine⟨g1 a,w',u',seen C.P fn (#[]++new),fun main k cs h0=>hb.ok main k cs w a w' _ h0 e1 q1,qli (by simpa using k1) _,r1,?_,h1 a q1,htp.2,fun t p hp main k cs h0=>?_⟩
     . rw [k1.tape,<-ht];exact htp.1
     . obtain⟨t2,hs2,hsh⟩:=qsy u t p _ hp;have e2:=q7z hs hr.zx er t2 (fun k q i1 i2=>hs2 k q i1 (by omega));have e3:=qp9 C.P s (re u t2 u.drawn) t p hsh;rw [e2] at e3;exact⟨_,hb.ok main k cs (re u t p) a (re u' t (p+(u'.drawn - u.drawn))) _ h0 (by rw [Sem.runT_eq];exact Prod.ext e3 rfl) q1⟩
   | halt x u'=>
     rw [er] at hk htp;by_cases hx:(∃ v,x=.panic v)/\pan=true
     . obtain⟨⟨v,rfl⟩,qcM⟩:=hx;obtain⟨w',new,e1,r1,k1,q1⟩:=hk;right;refine⟨g2 v,w',u',seen C.P fn (#[]++new),fun main k cs h0=>hb.panic main k cs w v w' _ h0 qcM e1,qli (by simpa using k1) _,r1,?_,h2 v q1,htp.2,fun t p hp main k cs h0=>?_⟩
       . rw [k1.tape,<-ht];exact htp.1
       . obtain⟨t2,hs2,hsh⟩:=qsy u t p _ hp;have e2:=q1r hs hr.zx er t2 (fun k q i1 i2=>hs2 k q i1 (by omega));have e3:=qp9 C.P s (re u t2 u.drawn) t p hsh;rw [e2] at e3;exact⟨_,hb.panic main k cs (re u t p) v (re u' t (p+(u'.drawn - u.drawn))) _ h0 qcM (by rw [Sem.runT_eq];exact Prod.ext e3 rfl)⟩
     . left;intro t p hp main k cs h0
       have hf:Fatal x∨(pan=false/\∃ v,x=.panic v):=by
         cases x with
         | panic v=>exact .inr ⟨by cases pan with
           | false=>rfl
           | true=>exact absurd ⟨⟨v,rfl⟩,rfl⟩ hx,v,rfl⟩
         | _=>exact .inl hk
       have e3:=qp9 C.P s u t p hp;rw [er] at e3;exact hb.fatal main k cs (re u t p) x _ _ h0 (by rw [Sem.runT_eq];exact Prod.ext e3 rfl) hf
end
def jh(c:Nat->Nat):Nat->Nat
 | 0=>0
 | n+1=>jh c n+c n
theorem qv3(c:Nat->Nat){n m:Nat}(h:n<=m):jh c n<=jh c m:=by
 induction m with
 | zero => have : n = 0 := by omega
           rw [this];exact Nat.le_refl _
 | succ m ih=>
   by_cases e:n=m+1
   . rw [e];exact Nat.le_refl _
   . exact Nat.le_trans (ih (by omega)) (Nat.le_add_right _ _)
theorem q58(c:Nat->Nat){n m i j:Nat}(hi:i < c n)(hj:j < c m)(h:jh c n+i=jh c m+j):n=m/\i=j:=by
 have key:∀ {n m i j:Nat},i < c n->j < c m->jh c n+i=jh c m+j->¬ n < m:=fun {n m i j} hi _ h hlt=>by
   have h1:jh c n+c n<=jh c m:=qv3 c (n:=n+1) hlt;omega
 have:n=m:=by
   have h1:=key hi hj h;have h2:=key hj hi h.symm;omega
 subst this;exact⟨rfl,by omega⟩
open Classical in
theorem concat{β:Type}(b:β)(c:Nat->Nat)(f:Nat->Nat->β):∃ t:Nat->β,∀ n i,i < c n->t (jh c n+i)=f n i:=by
 refine⟨fun j=>if h:∃ x:Nat × Nat,x.2 < c x.1/\jh c x.1+x.2=j then f h.choose.1 h.choose.2 else b,fun n i hi=>?_⟩;have h:∃ x:Nat × Nat,x.2 < c x.1/\jh c x.1+x.2=jh c n+i:=⟨(n,i),hi,rfl⟩;show (if h:∃ x:Nat × Nat,x.2 < c x.1/\jh c x.1+x.2=jh c n+i then f h.choose.1 h.choose.2 else b)=f n i;rw [dif_pos h];obtain⟨h1,h2⟩:=q58 c h.choose_spec.1 hi h.choose_spec.2;rw [h1,h2]
def zy:List Item:=[.code (.refuse "")]
def qdf(e:Bool):zr:=⟨if e then zy else [],[]⟩
def jl:Frame:={ (default:Frame) with todo:=zy,defers:=[{ target:=.nil,args:=#[] }],mode:=.run,kind:=.normal,roundOf:=none }
section
variable {C:Pen}{S:List String}
theorem qck{P:Program}{g:Goroutine}{w w':World}{o:Outcome}{es:Array Event}(hs:g.status=.running)(h:stepG P true g w=.ended o w' es):step P (solo g w)=.ended o w':=by
 obtain⟨fr,cs,st,dy,of⟩:=g;rw [step,stepT_solo hs];simp [runT,solo,Array.swapAt!,Array.swapAt,h,GStep.es]
theorem runN_ended{P:Program}{m m':Machine}{o:Outcome}{w:World}(h:step P m=.ended o w){n:Nat}(h':runN P (n+1) m=.next m'):False:=by
 simp [runN,h] at h'
theorem qv4{P:Program}{m m₁ m':Machine}(h:step P m=.next m₁){n:Nat}(h':runN P (n+1) m=.next m'):runN P n m₁=.next m':=by
 simpa [runN,h] using h'
theorem qtz{g g':Goroutine}{w w':World}(h:solo g w=solo g' w'):g=g'/\w=w':=by
 simp only [solo,Machine.mk.injEq,Array.mk.injEq,List.cons.injEq,and_true] at h;exact⟨h.2,h.1⟩
theorem q1s{id:Nat}:∀ (t:List Item),exitTo id t=none->exitTo id (t++zy)=none:=by
 intro t
 induction t with
 | nil=>intro _;rfl
 | cons x t ih=>
   intro e;cases x with
   | inBlock id'=>
     simp only [exitTo,List.cons_append] at e |-;split at e
     . cases e
     . rename_i h;rw [if_neg h];exact ih e
   | _=>simp only [exitTo,List.cons_append] at e |-;exact ih e
theorem q1t{l:Nat}:∀ (t:List Item),gotoIn l t=none->gotoIn l (t++zy)=none:=by
 intro t
 induction t with
 | nil=>intro _;rfl
 | cons x t ih=>
   intro e;cases x with
   | inScope body=>
     simp only [gotoIn,List.cons_append] at e |-;split at e
     . cases e
     . exact ih e
   | _=>simp only [gotoIn,List.cons_append] at e |-;exact ih e
theorem vO{e:Bool}{fr:Frame}(hf:FrE C S fr)(ho:q3x e fr){w:World}{n:Nat}{g:Goroutine}{v:World}(h:runN C.P (n+1) (solo (gor (qdf e) [jl] (fr,[])) w)=.next (solo g v)):g.callers=[]:=by
 have hX:=hf;obtain⟨fn,hfn,_⟩:=hX.fn;have hd:=hX.defers;have hr:=hX.round;have hk:=hX.kind
 have gone:∀ (f:Frame) (w':World),(f=jl∨∃ ch,f=jl.raise ch)->(∀ g v,runN C.P n (solo (G f []) w')=.next (solo g v)->g.callers=[]):=by
   intro f w' hf g v h;cases n with
   | zero=>
     have:solo (G f []) w'=solo g v:=by simpa [runN] using h
     rw [<-(qtz this).1];rfl
   | succ n=>
     rcases hf with rfl | ⟨ch,rfl⟩
     . exact(runN_ended (qck rfl (show stepG C.P true (G jl []) w'=.ended _ w' #[] from by simp [G,stepG,stepG.exec,jl,zy];rfl)) h).elim
     . exact(runN_ended (qck rfl (show stepG C.P true (G (jl.raise ch) []) w'=.ended _ w' #[] from by simp [G,stepG,Frame.raise,jl,unwind,callDeferred];rfl)) h).elim
 by_cases hm:fr.mode=.run
 . exfalso;rcases ho with h1 | ⟨rfl,h1 | ⟨id,t,h1,h2⟩ | ⟨l,t,h1,h2⟩⟩
   . exact h1 hm
   . exact runN_ended (qck rfl (show stepG C.P true (gor (qdf true) [jl] (fr,[])) w=.ended _ w #[] from by simp [gor,qdf,below,zi,qE,G,stepG,stepG.exec,hm,h1,zy];rfl)) h
   . have h3:=q1s t h2;simp only [zy] at h3;exact runN_ended (qck rfl (show stepG C.P true (gor (qdf true) [jl] (fr,[])) w=.ended _ w #[] from by simp [gor,qdf,below,zi,qE,G,stepG,stepG.exec,hm,h1,zy,h3,hr];rfl)) h
   . have h3:=q1t t h2;simp only [zy] at h3;exact runN_ended (qck rfl (show stepG C.P true (gor (qdf true) [jl] (fr,[])) w=.ended _ w #[] from by simp [gor,qdf,below,zi,qE,G,stepG,stepG.exec,hm,h1,zy,h3,hr];rfl)) h
 . cases hmode:fr.mode with
   | run=>exact absurd hmode hm
   | panicking ch=>
     have h1:stepG C.P true (gor (qdf e) [jl] (fr,[])) w=.go (G (jl.raise ch) []) w #[]:=by simp [gor,qdf,below,zi,qE,G,stepG,unwind,hmode,hd,Frame.catches,hfn]
     exact gone _ w (.inr ⟨ch,rfl⟩) g v (qv4 (step_solo_go rfl h1) h)
   | returning=>
     cases hrun:(results fn fr.tmps).run C.P w with
     | ok a w'=>
       have h1:stepG C.P true (gor (qdf e) [jl] (fr,[])) w=.go (G jl []) w' (seen C.P fr.fn ((results fn fr.tmps).events C.P w #[])):=by
         have hfin:jl.finish a=jl:=rfl;simp [gor,qdf,below,zi,qE,G,stepG,unwind,hmode,hd,hfn,doReturn,hk,hrun,GStep.after,hfin]
       exact gone _ w' (.inl rfl) g v (qv4 (step_solo_go rfl h1) h)
     | halt x w'=>
       exfalso;cases x with
       | stuck y=>exact runN_ended (qck rfl (show stepG C.P true (gor (qdf e) [jl] (fr,[])) w=.ended _ w' _ from by simp [gor,qdf,below,zi,qE,G,stepG,unwind,hmode,hd,hfn,hrun,GStep.after];exact⟨rfl,rfl⟩)) h
       | _=>exact runN_ended (qck rfl (show stepG C.P true (gor (qdf e) [jl] (fr,[])) w=.ended _ w' _ from by simp [gor,qdf,below,zi,qE,G,stepG,unwind,hmode,hd,hfn,hrun,GStep.after];exact⟨rfl,rfl⟩)) h
end
end
end Go.Proofs.YtacemdoejblgaaaGreatDoor

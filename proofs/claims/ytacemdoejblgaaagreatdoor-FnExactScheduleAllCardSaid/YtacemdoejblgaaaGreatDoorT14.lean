/- Part M14. Conditions: each statement's. -/
import Derived.Test.YtacemdoejblgaaaGreatDoorT13
namespace Go.Proofs.YtacemdoejblgaaaGreatDoor
open Bool renaming and_eq_true→Ab,not_eq_true'→Ah
open Go renaming Value→Ai,World→Aj,TypeId→Am,FuncId→Ap,wp_mono→As,Frame→At
open _root_.Go.Proofs.Tryz renaming prog→Ax,f19→Ay
open List renaming range'→Az,map_cons→AA,map_nil→AB,range→AD,mem_toArray→AE,map_toArray→AF,mem_cons→AG,not_mem_nil→AH,lookup_cons→AI,all_cons→AJ
open Nat renaming lt_of_lt_of_le→AK,blt→AL,le_trans→AM,blt_eq→AN,le_refl→AO
open _root_.Go.Proofs.Tryz
set_option maxRecDepth 100000
set_option maxHeartbeats 6400000
variable {af2:Array Edge}{ts:Array Ai}{c tl:Code}{nw:Int}{L:List (Nat×Ai)}{cs:List Code}{ds:List Deferred}{l:List Int}{qa:List Node}{N R b p0 p2 t u:Nat}{ps2:String}{ty2:Am}{d k o r v x0 x2:Ai}{X x y:Aj}
section
open Go.Conc Go.RowKit
def qdC:Nat->Code->Code
 |0,.seq x _=>x
 |k+1,.seq _ y=>qdC k y
 |_,c=>c
def qdc:Nat->Code->Code
 |0,c=>c
 |k+1,.seq _ y=>qdc k y
 |_,c=>c
def xJ:List Code->Code->Code
 |[],t=>t
 |c::cs,t=>.seq c (xJ cs t)
def Onto(t0 N:Nat)(K:Array Ai->Aj->Prop)(X:Aj)(e:Exit)(a:Act)(y:Aj):Prop:=(e=.normal/\(∀r,r<N->y.heap[r]?=X.heap[r]?)/\K a.tmps y)∨(e=.ret/\a.tmps[t0]?=some (.bool true)/\∀r,r<N->y.heap[r]?=X.heap[r]?)
theorem Onto.go{t0:Nat}{K:Array Ai->Aj->Prop}(h:∀r,r<N->y.heap[r]?=X.heap[r]?)(k:K ts y):Onto t0 N K X .normal ⟨ts,ds⟩ y:=.inl ⟨rfl,h,k⟩
theorem Onto.same{t0:Nat}{K:Array Ai->Aj->Prop}(k:K ts X):Onto t0 N K X .normal ⟨ts,ds⟩ X:=.inl ⟨rfl,λ_ _=>rfl,k⟩
theorem Onto.ret{t0:Nat}{K:Array Ai->Aj->Prop}(h:∀r,r<N->y.heap[r]?=X.heap[r]?)(k:ts[t0]?=some (.bool true)):Onto t0 N K X .ret ⟨ts,ds⟩ y:=.inr ⟨rfl,k,h⟩
def zT(P:Program)(t0 N:Nat)(Q:Array Ai->Aj->Prop):List Code->Array Ai->Aj->Prop
 |[],ts,x=>Q ts x
 |c::cs,ts,x=>∀X,x.heap=X.heap->c.wp P (Onto t0 N (zT P t0 N Q cs) X) ⟨ts,[]⟩ X
theorem zT.heap{P:Program}{t0:Nat}{Q:Array Ai->Aj->Prop}(hR:∀t x y,x.heap=y.heap->Q t x->Q t y)(e:x.heap=y.heap)(h:zT P t0 N Q cs ts x):zT P t0 N Q cs ts y:=by
 cases cs with
 |nil=>exact hR _ _ _ e h
 |cons c cs=>exact λX k=>h X (e.trans k)
theorem qkT{n:Nat}(h:ts.size=n):∃f:Nat->Ai,ts=((AD n).map f).toArray:=
 ⟨λi=>ts.getD i undef,by
  apply Array.ext
  . simp[h]
  . intro i h1 h2;simp[Array.getD,h1]⟩
section
variable {W:Aj}{ea:Addr}{pv cv:Ai}{qa:List Node}{l:List Int}{M:Mks (gr2 W.heap.size gE ea).base}{Sh:Nat->Prop}{Fz:Loc->Prop}{T:Nat->qz}{n:Nat}{w z:Aj}
 {lf:Ap} {fn:Func} {t0:Nat} {XL:Nat->Bool} {ts:Array Ai} {k:List Item}
theorem q0y(hg:gE<W.heap.size)(hfn:Ax.funcs[lf]?=some fn)(hlf:Fs lf=false)(yx:Ax.inits.idxOf? lf=none)(hres:fn.results=#[.tmp t0])(ht0:XL t0=false){Q:Array Ai->Aj->Prop}(hR:∀t x y,x.heap=y.heap->Q t x->Q t y)
    (qK:cs.all (λc=>qfa prog Fs Gs SN c&&jz XL c)=true)  (hS:qn W ea pv cv qa l M Sh Fz T n w z) (vA:XOk (gr2 W.heap.size gE ea) XL ts) (hc:zT prog t0 W.heap.size Q cs ts z)
   (next:∀ts' w' z',qn W ea pv cv qa l M Sh Fz T n w' z'->XOk (gr2 W.heap.size gE ea) XL ts'->Q ts' z'->qc prog (qO W) Sh Fz T n 0 0 (G ((base lf).at ⟨ts',[]⟩ (.code tl::k)) []) w') :
   qc prog (qO W) Sh Fz T n 0 0 (G ((base lf).at ⟨ts,[]⟩ (.code (xJ cs tl)::k)) []) w:=by
 induction cs generalizing ts w z with
 |nil=>exact next ts w z hS vA hc
 |cons c cs ih=>
  simp only[AJ,Ab]at qK;refine qau ?_
  refine qr7 hS hg hfn hlf yx hres ht0 vA qK.1 (Q:=λt x=>(∀r,r<W.heap.size->x.heap[r]?=z.heap[r]?)/\zT prog t0 W.heap.size Q cs t x) (λt x y e h=>⟨λr hr=>by rw[<-e];exact h.1 r hr,h.2.heap hR e⟩) (λt x h=>h.1)
   (λX eX=>As (hc X eX) (λe a y h=>?_)) (λts' w' z' hS' ok' h=>ih qK.2 hS' ok' h.2)
  rw[eX];exact h
end
structure qq(gr:Grd)(XL:Nat->Bool)(NT:Nat)(ts:Array Ai)(L:List (Nat×Ai)):Prop where
 ok:XOk gr XL ts
 size:ts.size=NT
 has:∀t v,L.lookup t=some v->ts[t]?=some v
def xm(L:List (Nat×Ai)):List (Nat×Ai)->Prop
 |[]=>True
 |(t,v)::K=>L.lookup t=some v/\xm L K
def Holds(ts:Array Ai):List (Nat×Ai)->Prop
 |[]=>True
 |(t,v)::K=>ts[t]?=some v/\Holds ts K
theorem lookup_cons{x:Ai}(h:((t,v)::L).lookup u=some x):(u=t/\x=v)∨(u≠t/\L.lookup u=some x):=by
 rw[AI]at h;split at h
 . rename_i e;exact .inl ⟨by simpa using e,by simpa using h.symm⟩
 . rename_i e;exact .inr ⟨by simpa using e,h⟩
theorem qk5:((t,v)::L).lookup t=some v:=by simp
theorem qr8(h:u≠t):((t,v)::L).lookup u=L.lookup u:=by
 rw[AI,beq_false_of_ne h]
theorem xm.at:∀{K:List (Nat×Ai)},xm L K->∀t v,K.lookup t=some v->L.lookup t=some v
 |[],_,_,_,h=>by cases h
 |(_,_)::_,k,_,_,h=>by
  rcases lookup_cons h with ⟨rfl,rfl⟩|⟨_,h⟩
  . exact k.1
  . exact k.2.at _ _ h
theorem Holds.at:∀{K:List (Nat×Ai)},Holds ts K->∀t v,K.lookup t=some v->ts[t]?=some v
 |[],_,_,_,h=>by cases h
 |(_,_)::_,k,_,_,h=>by
  rcases lookup_cons h with ⟨rfl,rfl⟩|⟨_,h⟩
  . exact k.1
  . exact k.2.at _ _ h
section
variable {gr:Grd}{XL:Nat->Bool}{NT:Nat}{ts:Array Ai}{L K:List (Nat×Ai)}{t u:Nat}{v:Ai}
theorem qq.put(s:qq gr XL NT ts L)(ht:AL t NT=true)(hv:XL t=true∨Ok gr.A gr.F v):qq gr XL NT (ts.setIfInBounds t v) ((t,v)::L):=
 ⟨s.ok.set hv,by simpa using s.size,λu x h=>by
  rcases lookup_cons h with ⟨rfl,rfl⟩|⟨hn,h⟩
  . exact getSet (by rw[s.size];rwa [AN]at ht)
  . exact(q7d (Ne.symm hn)).trans (s.has _ _ h)⟩
theorem qq.okv(s:qq gr XL NT ts L)(h:L.lookup t=some v)(hx:XL t=false):Ok gr.A gr.F v:=s.ok t v hx (s.has t v h)
theorem qq.keep(s:qq gr XL NT ts L)(h:xm L K):qq gr XL NT ts K:=⟨s.ok,s.size,λt v k=>s.has t v (h.at t v k)⟩
theorem qq.mv(s:qq gr XL NT ts L)(hl:L.lookup u=some v)(hx:(!XL u||XL t)=true)(ht:AL t NT=true):qq gr XL NT (ts.setIfInBounds t v) ((t,v)::L):=
 s.put ht (by
  rcases Bool.or_eq_true _ _▸hx with h|h
  . exact .inr (s.okv hl (by simpa using h))
  . exact .inl h)
theorem qq.all(s:qq gr XL NT ts L):∃f:Nat->Ai,ts=((AD NT).map f).toArray/\∀t v,L.lookup t=some v->AL t NT=true->f t=v:=by
 obtain⟨f,rfl⟩:=qkT s.size;refine⟨f,rfl,λt v h ht=>?_⟩;have:=s.has t v h;rw[AN]at ht;simpa[ht]using this
end
section
variable {W:Aj}{ea:Addr}{pv cv:Ai}{qa:List Node}{l:List Int}{M:Mks (gr2 W.heap.size gE ea).base}{Sh:Nat->Prop}{Fz:Loc->Prop}{T:Nat->qz}{n:Nat}{w z:Aj}{Post:Ai->Aj->Prop}
 {lf:Ap} {XL:Nat->Bool} {NT:Nat} {ts:Array Ai} {L:List (Nat×Ai)} {ops:Array Oper} {i m t u:Nat} {ty:Am} {ps:String} {af:Array Edge} {v:Ai} {k:List Item} {cs:List At} {ats:Array Am}
theorem q9o(N:Nat){id:Nat}(hN:ops.size=N)(next:qc prog Post Sh Fz T n 0 0 (G ((base lf).at ⟨ts,[]⟩ (.inRegion ops (Az 0 N)::k)) cs) w):qc prog Post Sh Fz T n 0 0 (G ((base lf).at ⟨ts,[]⟩ (.code (.region id ops false)::k)) cs) w:=by
 refine qaz ?_;rw[List.range_eq_range',hN];exact next
theorem q0z(N:Nat){id:Nat}(e:c=.seq (.region id ops false) tl)(hN:ops.size=N)(next:qc prog Post Sh Fz T n 0 0 (G ((base lf).at ⟨ts,[]⟩ (.inRegion ops (Az 0 N)::.code tl::k)) cs) w):qc prog Post Sh Fz T n 0 0 (G ((base lf).at ⟨ts,[]⟩ (.code c::k)) cs) w:=
 e▸qau (q9o N hN next)
theorem q67(N:Nat){x:Code}{id:Nat}(e:c=.seq (.seq (.region id ops false) x) tl)(hN:ops.size=N)(next:qc prog Post Sh Fz T n 0 0 (G ((base lf).at ⟨ts,[]⟩ (.inRegion ops (Az 0 N)::.code x::.code tl::k)) cs) w):qc prog Post Sh Fz T n 0 0 (G ((base lf).at ⟨ts,[]⟩ (.code c::k)) cs) w:=
 e▸qau (qau (q9o N hN next))
variable {gr:Grd}
theorem qft(s:qq gr XL NT ts L)(ho:ops[i]?=some ⟨some t,.move (.tmp u),ty,ps,af,none⟩)(hl:L.lookup u=some v)(hx:(!XL u||XL t)=true)(ht:AL t NT=true)
   (next:∀ts',qq gr XL NT ts' ((t,v)::L)->qc prog Post Sh Fz T n 0 0 (G ((base lf).at ⟨ts',[]⟩ (.inRegion ops (Az (i+1) m)::k)) cs) w) :
   qc prog Post Sh Fz T n 0 0 (G ((base lf).at ⟨ts,[]⟩ (.inRegion ops (Az i (m+1))::k)) cs) w:=
 q65 (λh=>by cases h) ho (s.has u v hl) (next _ (s.mv hl hx ht))
theorem qns(s:qq gr XL NT ts L)(ho:ops[i]?=some ⟨some t,.assign (.tmp u),ty,ps,af,none⟩)(hl:L.lookup u=some v)(hx:(!XL u||XL t)=true)(ht:AL t NT=true)
   (next:∀ts',qq gr XL NT ts' ((t,v)::L)->qc prog Post Sh Fz T n 0 0 (G ((base lf).at ⟨ts',[]⟩ (.inRegion ops (Az (i+1) m)::k)) cs) w) :
   qc prog Post Sh Fz T n 0 0 (G ((base lf).at ⟨ts,[]⟩ (.inRegion ops (Az i (m+1))::k)) cs) w:=
 q66 (λh=>by cases h) ho (s.has u v hl) (next _ (s.mv hl hx ht))
theorem qr9{xs:Array Ai}{j:Nat}(s:qq gr XL NT ts L)(ho:ops[i]?=some ⟨some t,.extract (.tmp u) j,ty,ps,af,none⟩)(hl:L.lookup u=some (.tuple xs))(hj:xs[j]?=some v)(hx:XL u=false)(ht:AL t NT=true)
   (next:∀ts',qq gr XL NT ts' ((t,v)::L)->qc prog Post Sh Fz T n 0 0 (G ((base lf).at ⟨ts',[]⟩ (.inRegion ops (Az (i+1) m)::k)) cs) w) :
   qc prog Post Sh Fz T n 0 0 (G ((base lf).at ⟨ts,[]⟩ (.inRegion ops (Az i (m+1))::k)) cs) w:=by
 have hs:=s.has u _ hl;refine qao v ho rfl (λh=>by cases h) (λw=>?_) (λw=>?_) (next _ (s.put ht (.inr ?_)))
 . unfold execOp;simp only[qcc hs];simp[go_sem,hj]
 . unfold execOp;simp only[qcc hs];simp[go_sem,hj]
 . cases s.okv hl hx with
   |tuple h=>exact h v (Array.mem_of_getElem? hj)
theorem q9p{b:Bool}(s:qq gr XL NT ts L)(ho:ops[i]?=some ⟨some t,.unOp .not 4 (.tmp u),ty,ps,af,none⟩)(hl:L.lookup u=some (.bool b))(ht:AL t NT=true)
   (next:∀ts',qq gr XL NT ts' ((t,.bool !b)::L)->qc prog Post Sh Fz T n 0 0 (G ((base lf).at ⟨ts',[]⟩ (.inRegion ops (Az (i+1) m)::k)) cs) w) :
   qc prog Post Sh Fz T n 0 0 (G ((base lf).at ⟨ts,[]⟩ (.inRegion ops (Az i (m+1))::k)) cs) w:=by
 have hs:=s.has u _ hl;refine qao (.bool !b) ho rfl (λh=>by cases h) (λw=>?_) (λw=>?_) (next _ (s.put ht (.inr (.bool _))))
 . unfold execOp;simp only[qcc hs]
   go_simp
 . unfold execOp;simp only[qcc hs];simp[go_sem]
theorem qkU{A:Option Addr}{q c t2:Nat}(s:qq gr XL NT ts L)(ho:ops[i]?=some ⟨some t,.call {callee:=.builtin .len,args:=#[.tmp u],argTypes:=#[24]},ty,ps,af,none⟩)(hl:L.lookup u=some (.slice A q c))(ht:AL t NT=true)
   (ho2:ops[i+1]?=some ⟨some t2,.binOp .gtr 3 (.tmp t) (.const (.int .i64 1048576)) 3,ty2,ps2,af2,none⟩) (ht2:AL t2 NT=true)
   (next:∀ts',qq gr XL NT ts' ((t2,.bool (decide (1048576<(q:Int))))::L)->qc prog Post Sh Fz T n 0 0 (G ((base lf).at ⟨ts',[]⟩ (.inRegion ops (Az (i+2) m)::k)) cs) w) (hn:(L.lookup t).isNone=true) :
   qc prog Post Sh Fz T n 0 0 (G ((base lf).at ⟨ts,[]⟩ (.inRegion ops (Az i (m+2))::k)) cs) w:=by
 have hs:=s.has u _ hl;have s1:=s.put (v:=.int .i64 q) ht (.inr (.int _ _));have hs1:=s1.has t (.int .i64 q) qk5;have hlt:t<ts.size:=by rw[s.size];rwa [AN]at ht
 refine qao (.int .i64 q) ho rfl (λh=>by cases h) (λw=>?_) (λw=>?_) ?_
 . unfold execOp;simp[go_sem,hs]
 . unfold execOp;simp[go_sem,hs]
 refine qao (.bool (decide (1048576<(q:Int)))) ho2 rfl (λh=>by cases h) (λw=>?_) (λw=>?_) (next _ ?_)
 . unfold execOp;simp only[show ∀a:Act,a.eval (.const (.int .i64 1048576))=.int .i64 1048576 from λ_=>rfl]
   go_simp
 . unfold execOp;simp only[show ∀a:Act,a.eval (.const (.int .i64 1048576))=.int .i64 1048576 from λ_=>rfl];simp[go_sem,hlt]
 . have s2:=s1.put (v:=.bool (decide (1048576<(q:Int)))) ht2 (.inr (.bool _));refine⟨s2.ok,s2.size,λx y h=>?_⟩;rcases lookup_cons h with ⟨rfl,rfl⟩|⟨hx,h⟩
   . exact s2.has _ _ qk5
   . exact s2.has x y ((qr8 hx).trans ((qr8 (λe=>by subst e;rw[h]at hn;cases hn)).trans h))
end
section
variable {W:Aj}{ea:Addr}{pv cv:Ai}{qa:List Node}{l:List Int}{M:Mks (gr2 W.heap.size gE ea).base}{Sh:Nat->Prop}{Fz:Loc->Prop}{T:Nat->qz}{n:Nat}{w z:Aj}{Post:Ai->Aj->Prop}
 {lf:Ap} {XL:Nat->Bool} {NT:Nat} {ts:Array Ai} {L:List (Nat×Ai)} {ops:Array Oper} {i m t u:Nat} {ty:Am} {ps:String} {af:Array Edge} {v:Ai} {k:List Item} {cs:List At} {ats:Array Am}
theorem qpr(hS:qn W ea pv cv qa l M Sh Fz T n w z)(hf:qlq qa)(s:qq (gr2 W.heap.size gE ea) XL NT ts L)(ho:ops[i]?=some ⟨some t,.call {callee:=.value (.func 26),args:=#[.tmp u],argTypes:=ats},ty,ps,af,none⟩)(hl:L.lookup u=some pv)(ht:AL t NT=true)
   (next:∀w' z' M' v,qn W ea pv cv qa l M' Sh Fz T n w' z'->HG z z'->DN z' z.heap.size v qa->∀ts',qq (gr2 W.heap.size gE ea) XL NT ts' ((t,v)::L)->qc prog Post Sh Fz T n 0 0 (G ((base lf).at ⟨ts',[]⟩ (.inRegion ops (Az (i+1) m)::k)) cs) w') :
   qc prog Post Sh Fz T n 0 0 (G ((base lf).at ⟨ts,[]⟩ (.inRegion ops (Az i (m+1))::k)) cs) w:=
 qvn hS hf s.ok (λh=>by cases h) ho (s.has u _ hl) (λw' z' M' v h1 h2 h3 _ h4=>next w' z' M' v h1 h2 h3 _ (s.put ht (.inr h4)))
theorem qvp(hS:qn W ea pv cv qa l M Sh Fz T n w z)(hf:l.length<=1048576)(s:qq (gr2 W.heap.size gE ea) XL NT ts L)(ho:ops[i]?=some ⟨some t,.call {callee:=.value (.func 27),args:=#[.tmp u],argTypes:=ats},ty,ps,af,none⟩)(hl:L.lookup u=some cv)(ht:AL t NT=true)
   (next:∀w' z' M' v,qn W ea pv cv qa l M' Sh Fz T n w' z'->HG z z'->qf z' z.heap.size v l->∀ts',qq (gr2 W.heap.size gE ea) XL NT ts' ((t,v)::L)->qc prog Post Sh Fz T n 0 0 (G ((base lf).at ⟨ts',[]⟩ (.inRegion ops (Az (i+1) m)::k)) cs) w') :
   qc prog Post Sh Fz T n 0 0 (G ((base lf).at ⟨ts,[]⟩ (.inRegion ops (Az i (m+1))::k)) cs) w:=
 qyl hS hf s.ok (λh=>by cases h) ho (s.has u _ hl) (λw' z' M' v h1 h2 h3 _ h4=>next w' z' M' v h1 h2 h3 _ (s.put ht (.inr h4)))
theorem qkV(hS:qn W ea pv cv qa l M Sh Fz T n w z){u2:Nat}(s:qq (gr2 W.heap.size gE ea) XL NT ts L)(ho:ops[i]?=some ⟨some t,.call {callee:=.value (.func 25),args:=#[.tmp u,.tmp u2],argTypes:=ats},ty,ps,af,none⟩)(hl:L.lookup u=some pv)(hl2:L.lookup u2=some (.int .i64 1048576))(ht:AL t NT=true)
   (next:∀w' z' M' (x:Int),qn W ea pv cv qa l M' Sh Fz T n w' z'->(0<=x->qlq qa)->∀ts',qq (gr2 W.heap.size gE ea) XL NT ts' ((t,.int .i64 x)::L)->qc prog Post Sh Fz T n 0 0 (G ((base lf).at ⟨ts',[]⟩ (.inRegion ops (Az (i+1) m)::k)) cs) w') :
   qc prog Post Sh Fz T n 0 0 (G ((base lf).at ⟨ts,[]⟩ (.inRegion ops (Az i (m+1))::k)) cs) w:=
 qvo hS (by decide) (Int.le_refl _) (λh=>by cases h) ho (s.has u _ hl) (s.has u2 _ hl2) (λw' z' M' x h1 _ _ _ h3=>next w' z' M' x h1 h3 _ (s.put ht (.inr (.int _ _))))
theorem q68{f:Ap}{fn:Func}{args:Array Operand}{vs:List Ai}(hS:qn W ea pv cv qa l M Sh Fz T n w z)(s:qq (gr2 W.heap.size gE ea) XL NT ts L)(ho:ops[i]?=some ⟨some t,.call {callee:=.value (.func f),args,argTypes:=ats},ty,ps,af,none⟩)
   (hfn:Ax.funcs[f]?=some fn) (hname:(fn.name == "runtime.NumGoroutine")=false) (hbody:fn.body=some c) (hF:Fs f=true) (ht:AL t NT=true) (us:List Nat) (ha:args=(us.map Operand.tmp).toArray) (hl:us.map (λu=>L.lookup u)=vs.map some) (hx:us.all (λu=>!XL u)=true)
   {R:Ai->Aj->Prop} (hR:∀v x y,x.heap=y.heap->R v x->R v y) (hc:∀X,z.heap=X.heap->Calls prog f vs.toArray X fun | .returned v,y=>R v y/\X.grownBy y none|_,_=>False)
   (next:∀v w' z',qn W ea pv cv qa l M Sh Fz T n w' z'->HG z z'->R v z'->∀ts',qq (gr2 W.heap.size gE ea) XL NT ts' ((t,v)::L)->qc prog Post Sh Fz T n 0 0 (G ((base lf).at ⟨ts',[]⟩ (.inRegion ops (Az (i+1) m)::k)) cs) w') :
   qc prog Post Sh Fz T n 0 0 (G ((base lf).at ⟨ts,[]⟩ (.inRegion ops (Az i (m+1))::k)) cs) w:=by
 subst ha
 have hev:∀(us:List Nat) (vs:List Ai),us.map (λu=>L.lookup u)=vs.map some->us.all (λu=>!XL u)=true->us.map (λu=>(Act.mk ts []).eval (.tmp u))=vs/\∀v∈vs,Ok (gr2 W.heap.size gE ea).A (gr2 W.heap.size gE ea).F v:=by
  intro us
  induction us with
  |nil=>intro vs h _;cases vs with|nil=>exact⟨rfl,λv hv=>by cases hv⟩|cons _ _=>cases h
  |cons u us ih=>
   intro vs h hx;cases vs with
   |nil=>cases h
   |cons v vs=>
    simp only[AA,List.cons.injEq,AJ,Ab]at h hx;obtain⟨h1,h2⟩:=ih vs h.2 hx.2;refine⟨by rw[AA,h1,qcc (s.has u v h.1)],λx hxm=>?_⟩;rcases AG.1 hxm with rfl|hxm
    . exact s.okv h.1 (by simpa using hx.1)
    . exact h2 x hxm
 obtain⟨h1,h2⟩:=hev us vs hl hx
 refine q62 (gr:=gr2 W.heap.size gE ea) hS.ours hS.both hS.out hS.left ho rfl (λh=>by cases h) rfl hfn hname hbody hF (vs:=vs.toArray) (by rw[AF,List.map_map];exact congrArg _ h1) (λv hv=>h2 v (AE.1 hv)) (R:=λv x=>R v x/\HG z x)
  (λv x y e h=>⟨hR v x y e h.1,h.2.heap e⟩) (λX eX=>(hc X eX).mono (λe x h=>?_)) (λv w' z' h3 h4 h5 h6=>next v w' z' (hS.step h3 h4 h6.2) h6.2 h6.1 _ (s.put ht (.inr h5)))
 cases e with
 |returned v=>exact⟨h.1,(HG.of h.2).from eX.symm⟩
 |_=>exact h.elim
theorem qn.zE(h:qn W ea pv cv qa l M Sh Fz T n w z):W.heap.size<=z.heap.size:=by rw[show z.heap.size=w.heap.size from h.both.size];exact h.old.size
theorem qkW{A1 A2 A3 A4:Option Addr}{n1 c1 n2 c2 n3 c3 n4 c4:Nat}(hg:gE<W.heap.size)(hS:qn W ea pv cv qa l M Sh Fz T n w z)(s:qq (gr2 W.heap.size gE ea) XL NT ts L)(ho:ops[i]?=some ⟨some t,.alloc 29,ty,ps,af,none⟩)(ho2:ops[i+1]?=some ⟨none,.store 29 (.tmp t) (.tmp u),ty2,ps2,af2,none⟩)(hl:L.lookup u=some (.agg #[.slice A1 n1 c1,.slice A2 n2 c2,.slice A3 n3 c3,.slice A4 n4 c4]))(hx:(!XL t && !XL u&&t != u)=true)(ht:AL t NT=true)
   (next:∀w' z' R,qn W ea pv cv qa l M Sh Fz T n w' z'->HG z z'->z.heap.size<=R->Blk z' R 29 #[.slice A1 n1 c1,.slice A2 n2 c2,.slice A3 n3 c3,.slice A4 n4 c4]->(∀c b,qI z b (.agg #[.slice A1 n1 c1,.slice A2 n2 c2,.slice A3 n3 c3,.slice A4 n4 c4]) c->qI z' b (.agg #[.slice A1 n1 c1,.slice A2 n2 c2,.slice A3 n3 c3,.slice A4 n4 c4]) c)->∀ts',qq (gr2 W.heap.size gE ea) XL NT ts' ((t,.pointer (some ⟨R,0,none⟩))::L)->qc prog Post Sh Fz T n 0 0 (G ((base lf).at ⟨ts',[]⟩ (.inRegion ops (Az (i+2) m)::k)) cs) w') :
   qc prog Post Sh Fz T n 0 0 (G ((base lf).at ⟨ts,[]⟩ (.inRegion ops (Az i (m+2))::k)) cs) w:=by
 simp only[Ab,Ah,bne_iff_ne,ne_eq]at hx;obtain⟨⟨x1,x2⟩,x3⟩:=hx;refine q4b (gr:=gr2 W.heap.size gE ea) hS.ours s.ok hS.both hS.O hS.L (λh=>by cases h) ho (λw4 z4 hb4 hg4 hB4 hh4 ok4=>?_);have hS4:=hS.step hb4 hh4 hg4;have s4:=s.put (v:=.pointer (some ⟨z.heap.size,0,none⟩)) ht (.inr (ok4 t _ x1 (getSet (by rw[s.size];rwa [AN]at ht))));refine q4c (gr:=gr2 W.heap.size gE ea) hS4.ours ok4 hS4.both hS4.O hS4.L (λh=>by cases h) ho2 (s4.has t _ qk5) (s4.has u _ ((qr8 (Ne.symm x3)).trans hl)) hB4 x1 x2 (λw5 z5 hb5 qdD hB5 hh5=>?_);have hS5:=hS4.low hg hb5 hh5 (λr hr=>qdD.block r (AK hr hS4.zE) (by have:=hS.zE;omega));exact next w5 z5 _ hS5 (HGB.hg hg4 qdD (AO _)) (AO _) hB5 (λc b h=>qdD.yM hB4 (hg4.yM h)) _ s4
end
structure qdE(lf:Ap)(NT t0:Nat)(XL:Nat->Bool):Prop where
 fn:∃fn,Ax.funcs[lf]?=some fn/\fn.results=#[.tmp t0]
 al:Fs lf=false
 ini:Ax.inits.idxOf? lf=none
 xl:XL t0=false
structure AtEnd(NT:Nat)(L:List (Nat×Ai))(R:Aj->Prop)(t:Array Ai)(x:Aj):Prop where
 size:t.size=NT
 has:Holds t L
 rest:R x
section
variable {W:Aj}{ea:Addr}{pv cv:Ai}{qa:List Node}{l:List Int}{M:Mks (gr2 W.heap.size gE ea).base}{Sh:Nat->Prop}{Fz:Loc->Prop}{T:Nat->qz}{n:Nat}{w z:Aj}{Post:Ai->Aj->Prop}
 {lf:Ap} {XL:Nat->Bool} {NT t0:Nat} {ts:Array Ai} {L:List (Nat×Ai)} {ops:Array Oper} {i m t:Nat} {ty:Am} {ps:String} {af:Array Edge} {k:List Item} {cs:List At} {ats:Array Am}
theorem qmu(F:qdE lf NT t0 XL)(hg:gE<W.heap.size)(hS:qn W ea pv cv qa l M Sh Fz T n w z)(s:qq (gr2 W.heap.size gE ea) XL NT ts L){ds:List Code}(e:c=xJ ds tl)(qK:ds.all (λc=>qfa prog Fs Gs SN c&&jz XL c)=true)
   (L':List (Nat×Ai)) {R:Aj->Prop} (hR:∀x y,x.heap=y.heap->R x->R y) (hc:zT prog t0 W.heap.size (AtEnd NT L' R) ds ts z)
   (next:∀ts' w' z',qn W ea pv cv qa l M Sh Fz T n w' z'->qq (gr2 W.heap.size gE ea) XL NT ts' L'->R z'->qc prog (qO W) Sh Fz T n 0 0 (G ((base lf).at ⟨ts',[]⟩ (.code tl::k)) []) w') :
   qc prog (qO W) Sh Fz T n 0 0 (G ((base lf).at ⟨ts,[]⟩ (.code c::k)) []) w:=by
 subst e;obtain⟨fn,h1,h2⟩:=F.fn;exact q0y hg h1 F.al F.ini h2 F.xl (λt x y e h=>⟨h.1,h.2,hR x y e h.3⟩) qK hS s.ok hc (λts' w' z' h3 h4 h5=>next ts' w' z' h3 ⟨h4,h5.1,h5.2.at⟩ h5.3)
theorem qps(F:qdE lf NT t0 XL)(hg:gE<W.heap.size)(hS:qn W ea pv cv qa l M Sh Fz T n w z)(s:qq (gr2 W.heap.size gE ea) XL NT ts L)(qK:(qfa prog Fs Gs SN c&&jz XL c)=true)
   (L':List (Nat×Ai)) {R:Aj->Prop} (hR:∀x y,x.heap=y.heap->R x->R y) (hc:∀X,z.heap=X.heap->c.wp prog (Onto t0 W.heap.size (AtEnd NT L' R) X) ⟨ts,[]⟩ X)
   (next:∀ts' w' z',qn W ea pv cv qa l M Sh Fz T n w' z'->qq (gr2 W.heap.size gE ea) XL NT ts' L'->R z'->qc prog (qO W) Sh Fz T n 0 0 (G ((base lf).at ⟨ts',[]⟩ k) []) w') :
   qc prog (qO W) Sh Fz T n 0 0 (G ((base lf).at ⟨ts,[]⟩ (.code c::k)) []) w:=by
 obtain⟨fn,h1,h2⟩:=F.fn;rw[Ab]at qK
 exact qr7 hS hg h1 F.al F.ini h2 F.xl s.ok qK (Q:=λt x=>(∀r,r<W.heap.size->x.heap[r]?=z.heap[r]?)/\AtEnd NT L' R t x) (λt x y e h=>⟨λr hr=>by rw[<-e];exact h.1 r hr,h.2.1,h.2.2,hR x y e h.2.3⟩) (λt x h=>h.1)
  (λX eX=>As (hc X eX) (λe a y h=>by rw[eX];exact h)) (λts' w' z' h3 h4 h5=>next ts' w' z' h3 ⟨h4,h5.2.1,h5.2.2.at⟩ h5.2.3)
theorem q83{p1:Nat}(hS:qn W ea pv cv qa l M Sh Fz T n w z)(hp:RN z x0 qa)(hl:RI z x2 l)(hx:∀x∈l,x<9223372036854775808)(hn:n<=900)(s:qq (gr2 W.heap.size gE ea) XL NT ts L)
   (ho:ops[i]?=some ⟨some t,.call {callee:=.value (.func 13),args:=#[.tmp p0,.tmp p1,.tmp p2],argTypes:=ats},ty,ps,af,none⟩) (l0:L.lookup p0=some x0) (l1:L.lookup p1=some (.int .i64 nw)) (l2:L.lookup p2=some x2) (hxl:(!XL p0 && !XL p2)=true) (ht:AL t NT=true)
   (next:∀w' z' M' Sh' Fz' T' n' A1 m1 c1 A2 m2 c2 A3 m3 c3 A4 m4 c4,qn W ea pv cv qa l M' Sh' Fz' T' n' w' z'->n'<=n+4->HG z z'->qI z' z.heap.size (.agg #[.slice A1 m1 c1,.slice A2 m2 c2,.slice A3 m3 c3,.slice A4 m4 c4]) ((qb8 qa nw l).getD qc4) ->
    ∀ts',qq (gr2 W.heap.size gE ea) XL NT ts' ((t,.tuple #[.agg #[.slice A1 m1 c1,.slice A2 m2 c2,.slice A3 m3 c3,.slice A4 m4 c4],.bool (qb8 qa nw l).isSome])::L) ->
    qc prog Post Sh' Fz' T' n' 0 0 (G ((base lf).at ⟨ts',[]⟩ (.inRegion ops (Az (i+1) m)::k)) cs) w') :
   qc prog Post Sh Fz T n 0 0 (G ((base lf).at ⟨ts,[]⟩ (.inRegion ops (Az i (m+1))::k)) cs) w:=by
 simp only[Ab,Ah]at hxl;refine qe9 (c:=qc2) ho rfl (λh=>by cases h) rfl func13 (by kernel_rfl) rfl ?_
 have h3:#[Operand.tmp p0,.tmp p1,.tmp p2].map (Act.mk ts []).eval=#[x0,.int .i64 nw,x2]:=by
  rw[AF];simp only[AA,AB];rw[qcc (s.has _ _ l0),qcc (s.has _ _ l1),qcc (s.has _ _ l2)]
 rw[h3,q03 x0 (.int .i64 nw) x2 _ ntmps13];refine q0q (gr:=gr2 W.heap.size gE ea) (λM=>q86 M) hS.both hp hl hS.err (s.okv l0 hxl.1) (s.okv l2 hxl.2) hx hS.out hS.left hS.n0 (by omega) (λw1 z1 M1 Sh1 Fz1 T1 n1' v hle hb1 hg1 O1 hs1 hh1 hT1 hn1 hn2 okv hF=>?_);obtain⟨A1,m1,c1,A2,m2,c2,A3,m3,c3,A4,m4,c4,rfl⟩:=hF.form;rw[Frame.finish_at,ho]
 exact next w1 z1 M1 Sh1 Fz1 T1 n1' A1 m1 c1 A2 m2 c2 A3 m3 c3 A4 m4 c4 (hS.qkS hle hb1 hg1 O1 hs1 hh1 hT1 hn1 (by omega)) hn2 hg1 hF _ (s.put ht (.inr (.tuple (λy hy=>by
  simp only[AE,AG,AH,or_false]at hy;rcases hy with rfl|rfl
  . exact okv
  . exact .bool _))))
end
structure ZH(lo hi:Nat)(z x:Aj):Prop where
 size:z.heap.size<=x.heap.size
 block:∀i,i<z.heap.size->(i<lo∨hi<=i)->x.heap[i]?=z.heap[i]?
section
variable {lo hi lo' hi' n R b W':Nat}{x y z z1:Aj}{c:qh}{v:Ai}
theorem ZH.of(h:Zn lo hi z x):ZH lo hi z x:=⟨h.size,h.block⟩
theorem ZH.zn(h:ZH lo hi z x):Zn lo hi z {z with heap:=x.heap}:=⟨rfl,rfl,rfl,h.size,h.block⟩
theorem HG.zh(h:HG z1 z)(k:ZH lo hi z x)(hl:z1.heap.size<=lo):HG z1 x:=⟨AM h.size k.size,λi hi=>(k.block i (AK hi h.size) (.inl (by omega))).trans (h.block i hi)⟩
theorem q5r(h:HG z x)(hs:W'<=z.heap.size):∀r,r<W'->x.heap[r]?=z.heap[r]?:=λr hr=>h.block r (AK hr hs)
theorem q1g(h:ZH lo hi z x)(hs:W'<=z.heap.size)(hl:W'<=lo):∀r,r<W'->x.heap[r]?=z.heap[r]?:=λr hr=>h.block r (AK hr hs) (.inl (by omega))
theorem WNd.heap(e:x.heap=y.heap)(h:WNd x lo hi v n):WNd y lo hi v n:=by
 have k:WNd x lo hi v n=WNd {y with heap:=x.heap} lo hi v n:=rfl;rw[k,e]at h;exact h
theorem WI.heap(e:x.heap=y.heap)(h:WI x lo hi v n):WI y lo hi v n:=by
 have k:WI x lo hi v n=WI {y with heap:=x.heap} lo hi v n:=rfl;rw[k,e]at h;exact h
theorem q9c(h:WNd x lo hi v n)(k:HG x y):WNd y lo hi v n:=(h.mi (MI.xz (lo:=0) (hi:=0) k.gb)).heap (x:={x with heap:=y.heap}) rfl
theorem qkX(h:WI x lo hi v n)(k:HG x y):WI y lo hi v n:=(h.mi (MI.xz (lo:=0) (hi:=0) k.gb)).heap (x:={x with heap:=y.heap}) rfl
theorem qkY(h:WI x lo hi v n)(k:ZH lo' hi' x y)(hb:hi'<=lo):WI y lo hi v n:=(h.yF k.zn hb).heap (x:={x with heap:=y.heap}) rfl
theorem q99(h:qI x b v c)(k:ZH lo hi x y)(hb:hi<=b):qI y b v c:=qI.heap (x:={x with heap:=y.heap}) rfl (h.yF k.zn hb)
structure j0(zt z:Aj)(h0 h1 h2:Nat)(x0 x2:Ai)(qa:List Node)(l:List Int):Prop where
 hz:HG zt z
 lt:zt.heap.size<=h0
 rn:RN z x0 qa
 ri:RI z x2 l
 wn:WNd z h0 h1 x0 qa.length
 wi:WI z h1 h2 x2 l.length
 le1:h0<=h1
 le2:h1<=h2
 le3:h2<=z.heap.size
theorem j0.hg{zt:Aj}{h0 h1 h2:Nat}(h:j0 zt x h0 h1 h2 x0 x2 qa l)(k:HG x y):j0 zt y h0 h1 h2 x0 x2 qa l:=
 ⟨h.hz.trans k,h.lt,k.rn h.rn,k.ri h.ri,q9c h.wn k,qkX h.wi k,h.le1,h.le2,AM h.le3 k.size⟩
end
end
section
def finish(qa:List Node):Nat->qh->qh
 |0,c=>c
 |k+1,c=>finish qa k ((qa0 qa c 0).getD c)
theorem qic(qa:List Node):∀(k:Nat) (c:qh),finish qa (k+1) c=(qa0 qa (finish qa k c) 0).getD (finish qa k c)
 |0,_=>rfl
 |k+1,c=>qic qa k ((qa0 qa c 0).getD c)
theorem q7c{c:qh}(h:c.done.length=qa.length)(w:Int):qa0 qa c w=none:=by
 cases hR:qa0 qa c w with
 |none=>rfl
 |some c'=>
  obtain⟨_,h2,_,y,_,hy,_⟩:=qd6 hR;have:=qev h2;rw[hy]at this;simp only[List.length_append,List.length_cons,List.length_nil]at this;omega
theorem qsb{c:qh}(h:c.done.length=qa.length):∀k,finish qa k c=c
 |0=>rfl
 |k+1=>by
  rw[qic,qsb h k,q7c h 0];rfl
theorem qmx:∀(k:Nat) {c:qh},qm qa c->qm qa (finish qa k c)/\(finish qa k c).qb.length=c.qb.length
 |0,_,h=>⟨h,rfl⟩
 |k+1,c,h=>by
  obtain⟨h1,h2⟩:=qkx h 0;obtain⟨h3,h4⟩:=qmx k h1;exact⟨h3,h4.trans h2⟩
theorem qk7:∀(k:Nat) {c:qh},qm qa c->0<c.qb.length->(finish qa k c).done.length=min (c.done.length+k) qa.length
 |0,c,h,_=>by
  have:=qev h;show c.done.length=_;omega
 |k+1,c,h,hd=>by
  have hs:=qvr (n:=(c.qb.length:Int)) (x:=0) (by omega) h rfl (Int.le_refl 0);rw[Int.zero_tmod]at hs;obtain⟨h1,h2⟩:=qkx h 0;have ih:=qk7 k h1 (by rw[h2];exact hd);show (finish qa k ((qa0 qa c 0).getD c)).done.length=_;rw[ih,hs];omega
theorem qsc:∀(k j:Nat) (c:qh),finish qa (k+j) c=finish qa j (finish qa k c)
 |0,j,c=>by rw[Nat.zero_add];rfl
 |k+1,j,c=>by
  rw[show k+1+j=(k+j)+1 by omega];exact qsc k j _
theorem qvt{c:qh}{k:Nat}(hk:k<=qa.length)(hf:(finish qa k c).done.length=qa.length):finish qa qa.length c=finish qa k c:=by
 have:qa.length=k+(qa.length-k):=by omega
 rw[this,qsc,qsb hf]
def qap(qa:List Node)(n:Int)(l:List Int):Option qh:=(qb8 qa n l).map (finish qa qa.length)
theorem qs8{n:Int}{f:qh}(h:qap qa n l=some f):∃c,qb8 qa n l=some c/\f=finish qa qa.length c/\qm qa f/\f.done.length=qa.length/\f.rows=values qa/\qae qa=true:=by
 unfold qap at h;obtain⟨c,hc,rfl⟩:=Option.map_eq_some_iff.1 h;obtain⟨c0,h0,_,_⟩:=qs7 hc;obtain⟨hn,_,_,hv⟩:=qvs h0;obtain⟨h1,h2⟩:=qky hc;obtain⟨h3,_⟩:=qmx qa.length h1;have h4:=qk7 qa.length h1 (by omega);have h5:(finish qa qa.length c).done.length=qa.length:=by omega
 refine⟨c,hc,rfl,h3,h5,q7i h3 ?_,hv⟩;rw[(qgh h3).2,h5];omega
end
section
open Go.Conc Go.RowKit
noncomputable def qk6:Code:=Ay.body.getD .skip
noncomputable def kW:Code:=qdc 2 qk6
def AllEnd(b:Nat)(ok:Bool)(f:qh)(x:Aj)(ts:Array Ai):Prop:=∃v1 v2 d k,ts[6]?=some v1/\ts[7]?=some v2/\ts[8]?=some (.bool ok)/\qI x b (.agg #[d,k,v2,v1]) f
theorem q84{c:qh}(hF:qI x b (.agg #[d,k,o,r]) c)(hB:Blk x R 29 #[d,k,o,r]):jw x R d k o r c:=by
 obtain⟨d',k',o',r',e,h1,h2,h3,h4⟩:=hF.cv;injection e with e;injection e with e;injection e with e1 e;injection e with e2 e;injection e with e3 e;injection e with e4 e;subst e1 e2 e3 e4;exact⟨hB,h1,h2,h3,h4⟩
def zk(X wr:Aj)(pv:Ai)(qa:List Node)(R b:Nat)(cx:qh):Prop:=∃d k o r,Blk wr R 29 #[d,k,o,r]/\qI wr b (.agg #[d,k,o,r]) cx/\RN wr pv qa/\X.grownBy wr (some R)
theorem zk.end_{wr:Aj}{pv:Ai}{cx:qh}(hB:Blk wr R 29 #[d,k,o,r])(hF:qI wr b (.agg #[d,k,o,r]) cx)(hp:RN wr pv qa)(hg:X.grownBy wr (some R)):zk X wr pv qa R b cx:=⟨d,k,o,r,hB,hF,hp,hg⟩
section
variable {gr:Grd}{pv cv:Ai}{nw:Int}{qa:List Node}{l:List Int}{R b:Nat}{c:qh}{a:Addr}{ts:Array Ai}
set_option maxRecDepth 20000
set_option maxHeartbeats 3200000
theorem qkZ(X:Aj)(s:qq gr (λ_=>false) 39 ts [(0,pv),(9,.pointer (some ⟨R,0,none⟩)),(10,.bool false)]):kW.wp prog (λe a x=>e=.ret/\x.heap=X.heap/\a.tmps[6]?=some (.slice none 0 0)/\a.tmps[7]?=some (.slice none 0 0)/\a.tmps[8]?=some (.bool false)) ⟨ts,[]⟩ X:=by
 obtain⟨f,rfl,F⟩:=s.all;simp only[AD,List.range.loop,AA,AB,F 0 _ rfl rfl,F 9 _ rfl rfl,F 10 _ rfl rfl];rw[show kW=.seq _ _ from rfl];go_wp2_with fail
theorem q85(X:Aj)(s:qq gr (λ_=>false) 39 ts [(0,pv),(9,.pointer (some ⟨R,0,none⟩)),(10,.bool true)])(hok:qm qa c)(hd:0<c.qb.length)(hE:qp X a)(hp:RN X pv qa)(hb:b<=R)(hbg:0<b)
   (hB:∃d k o r,Blk X R 29 #[d,k,o,r]/\qI X b (.agg #[d,k,o,r]) c):kW.wp prog (λe a x=>e=.ret/\HGB R X x/\AllEnd b true (finish qa qa.length c) x a.tmps) ⟨ts,[]⟩ X:=by
 obtain⟨f,rfl,F⟩:=s.all;have f0:=F 0 _ rfl rfl;have f9:=F 9 _ rfl rfl;have f10:=F 10 _ rfl rfl;clear s F;obtain⟨P1,pn,pc,rfl,-,hpn,-⟩:=hp.form'
 have hst:zk X X (.slice P1 pn pc) qa R b (finish qa 0 c):=by
  obtain⟨d,k,o,r,h1,h2⟩:=hB;exact⟨d,k,o,r,h1,h2,hp,qag _ _⟩
 obtain⟨N,hN⟩:∃N:Nat,N=qa.length-c.done.length:=⟨_,rfl⟩;have hle:=qev hok;have hR0:R≠0:=by omega
 have Hok:=Lib.hid hok;have Hd:=Lib.hid hd;have HN:=Lib.hid hN;have Hle:=Lib.hid hle;have HE:=Lib.hid hE;clear hok hd hN hle hE hB hp hpn;simp only[AD,List.range.loop,AA,AB,f0,f9,f10];clear f0 f9 f10;rw[show kW=.seq _ _ from rfl];go_wp2_with fail
 go_loopg [12] (N+1) (λmm _ wr=>∃q:Nat,q<=N/\mm=N+1-q/\zk X wr (.slice P1 pn pc) qa R b (finish qa q c))
 case atStart=>exact⟨0,Nat.zero_le _,rfl,hst⟩
 case round=>
  clear hst;obtain⟨q,hq,rfl,d,k,o,r,hB,hF,hp,hg⟩:=hrel;obtain⟨vC,hdx⟩:=qmx (qa:=qa) q Hok.out;have hdn:=qk7 (qa:=qa) q Hok.out Hd.out;have zL:=(qgh vC).2
  have hE9:qp wr a:=by
   have h0:X.cell? ⟨0,0,none⟩=some _:=HE.out;exact(qis hg (qe0 h0) (λe=>hR0 (Option.some.inj e))).trans h0
  have Hs:Hid (finish qa (q+1) c=(qa0 qa (finish qa q c) 0).getD (finish qa q c)):=qic qa q c;have hkx:0<(finish qa q c).qb.length:=by rw[hdx];exact Hd.out
  have Hen:Hid (q=N->finish qa qa.length c=finish qa q c):=λe=>qvt (by have:=HN.out;omega) (by have:=HN.out;have:=Hle.out;omega);have hNn:=HN.out;have hlen:=Hle.out;generalize finish qa q c=cx at hB hF vC hdx hdn zL Hs hkx Hen;have hBx:=q84 hF hB;obtain⟨V1,Vn1,Vc1,V2,Vn2,Vc2,V3,Vn3,Vc3,V4,Vn4,Vc4,e0⟩:=hF.form;injection e0 with e0;injection e0 with e0;injection e0 with ea e0;injection e0 with eb e0;injection e0 with ec e0;injection e0 with ed e0;subst ea eb ec ed;clear e0;have v0:=hBx.d0;have v1:=hBx.d1;have v2:=hBx.d2;have v3:=hBx.d3;have hfx:=Lib.hid (qu4 vC);have HF:=Lib.hid hF;have HB:=Lib.hid hB;by_cases hlt:q<N
  . obtain⟨cy,hcy⟩:=qle vC (by omega) hkx;have Hcy:Hid (qa0 qa cx 0=some cy):=hcy;obtain⟨L,hL⟩:∃L:Int,L=qew qa cx:=⟨_,rfl⟩;have hLp:0<L:=by omega
    have HL:=Lib.hid hL;clear hcy zL hdn hdx vC hkx hL hNn hlen Hen hF hB;go_wp2_with fail;refine(qig _ _ qa cx wr hp hBx.cv hfx.out).mono ?_;rw[<-HL.out];rintro e w9 ⟨rfl,hg9⟩;have hp9:=hp.new hg9;have hB9:=hBx.new hg9;have qfI:=hE9.new hg9;have g9:=qmy hg hg9;clear v0 v1 v2 v3 hp hBx hE9;have v0:=hB9.d0;have v1:=hB9.d1;have v2:=hB9.d2;have v3:=hB9.d3;go_wp2_with fail;refine(qij _ _ qa cx 0 a w9 qfI hp9 hB9.cv hfx.out).mono ?_;rw[Hcy.out];rintro e w10 ⟨v10,rfl,y9,vh⟩;obtain⟨U1,Un1,Uc1,U2,Un2,Uc2,U3,Un3,Uc3,U4,Un4,Uc4,rfl⟩:=y9.form;have hU:=y9.cv.box;have gU:=World.grownBy_alloc w10 (.cells #[.slice U1 Un1 Uc1,.slice U2 Un2 Uc2,.slice U3 Un3 Uc3,.slice U4 Un4 Uc4] 29) none;have hB2:=(hB9.new vh).new gU;have hp2:=(hp9.new vh).new gU;have g2:=qmy (qmy g9 vh) gU;have hbw:b<=w9.heap.size:=by have:=hB9.b.lt;omega
    have HF2:=Lib.hid ((y9.new gU).low hbw);clear v0 v1 v2 v3 hB9 hp9 g9 qfI y9 vh gU hbw HF HB hg hg9;go_upto_region 6 with fail;generalize w10.alloc (.cells #[.slice U1 Un1 Uc1,.slice U2 Un2 Uc2,.slice U3 Un3 Uc3,.slice U4 Un4 Uc4] 29)=w11 at hU hB2 hp2 g2 HF2 |-;generalize w10.heap.size=U at hU |-;have u0:=hU.d0;have u1:=hU.d1;have u2:=hU.d2;have u3:=hU.d3;have v0:=hB2.d0;have v1:=hB2.d1;have v2:=hB2.d2;have v3:=hB2.d3;have f0:=hB2.b.frozen 0;have f1:=hB2.b.frozen 1;have f2:=hB2.b.frozen 2;have f3:=hB2.b.frozen 3;have hset:=qdn w11 R (.slice U1 Un1 Uc1) (.slice U2 Un2 Uc2) (.slice U3 Un3 Uc3) (.slice U4 Un4 Uc4);have e1:finish qa (q+1) c=cy:=by rw[Hs.out,Hcy.out];rfl
    have hfin:Hid (zk X _ (.slice P1 pn pc) qa R b cy):=zk.end_ (hB2.put hU.cv).b (HF2.out.grown hset (qg.blk hB2.b (by decide)) (qg.blk hB2.b (by decide))) (hp2.grown hset (qg.blk hB2.b (by decide)) (qg.blk hB2.b (by decide))) (qac g2 hset);rw[<-e1]at hfin;clear hset hU hB2 hp2 g2 e1 HF2;go_wp2;go_roundg (N+1-(q+1))
    case measure=>omega
    case rel=>exact⟨q+1,by omega,rfl,hfin.out⟩
  . obtain rfl:N=q:=by omega
    have hz:qew qa cx=0:=by rw[zL];omega
    have Hz:=Lib.hid hz;have He:=Lib.hid (Hen.out rfl);clear zL hz vC hdn hdx hkx hNn hlen Hs hE9 hF hB;go_wp2_with fail;refine(qig _ _ qa cx wr hp hBx.cv hfx.out).mono ?_;rw[Hz.out];rintro e w10 ⟨rfl,vh⟩;have qaR:=hBx.new vh;have y9:=HF.out.new vh;have g10:=qmy hg vh;rw[<-He.out]at y9;clear v0 v1 v2 v3 hBx hp hg vh HF HB;have v0:=qaR.d0;have v1:=qaR.d1;have v2:=qaR.d2;have v3:=qaR.d3;go_wp2_with fail
    go_quiet (fail)
    go_wp2_with fail;exact⟨⟨g10.size,λi hi hne=>g10.block i hi (λe=>hne (Option.some.inj e))⟩,_,_,_,_,rfl,rfl,rfl,y9⟩
end
theorem q00{v1 v2 v3:Ai}(h6:ts[6]?=some v1)(h7:ts[7]?=some v2)(h8:ts[8]?=some v3):(results f19 ts).run prog y=.ok (.tuple #[v1,v2,v3]) y:=by
 have e6:ts[6]?.getD undef=v1:=by rw[h6];rfl
 have e7:ts[7]?.getD undef=v2:=by rw[h7];rfl
 have e8:ts[8]?.getD undef=v3:=by rw[h8];rfl
 simp[results,results19,go_sem,e6,e7,e8]
section
variable {W:Aj}{ea:Addr}{pv cv:Ai}{qa:List Node}{l:List Int}{M:Mks (gr2 W.heap.size gE ea).base}{Sh:Nat->Prop}{Fz:Loc->Prop}{T:Nat->qz}{n:Nat}{w z:Aj}{Post:Ai->Aj->Prop}
 {lf:Ap} {XL:Nat->Bool} {NT:Nat} {ts:Array Ai} {L:List (Nat×Ai)} {ops:Array Oper} {i m t:Nat} {ty:Am} {ps:String} {af:Array Edge} {k:List Item} {cs:List At} {ats:Array Am}
set_option maxRecDepth 20000
set_option maxHeartbeats 1600000
theorem q9q{p1:Nat}(hg:gE<W.heap.size)(hS:qn W ea pv cv qa l M Sh Fz T n w z)(hp:RN z x0 qa)(hl:RI z x2 l)(hx:∀x∈l,x<9223372036854775808)(hn:n<=900)(s:qq (gr2 W.heap.size gE ea) XL NT ts L)
   (ho:ops[i]?=some ⟨some t,.call {callee:=.value (.func 19),args:=#[.tmp p0,.tmp p1,.tmp p2],argTypes:=ats},ty,ps,af,none⟩) (l0:L.lookup p0=some x0) (l1:L.lookup p1=some (.int .i64 nw)) (l2:L.lookup p2=some x2) (hxl:(!XL p0 && !XL p2)=true) (ht:AL t NT=true)
   (next:∀w' z' M' Sh' Fz' T' n' v1 v2 d q,qn W ea pv cv qa l M' Sh' Fz' T' n' w' z'->n'<=n+4->HG z z'->qI z' z.heap.size (.agg #[d,q,v2,v1]) ((qap qa nw l).getD qc4) ->
    ∀ts',qq (gr2 W.heap.size gE ea) XL NT ts' ((t,.tuple #[v1,v2,.bool (qap qa nw l).isSome])::L) ->
    qc prog Post Sh' Fz' T' n' 0 0 (G ((base lf).at ⟨ts',[]⟩ (.inRegion ops (Az (i+1) m)::k)) cs) w') :
   qc prog Post Sh Fz T n 0 0 (G ((base lf).at ⟨ts,[]⟩ (.inRegion ops (Az i (m+1))::k)) cs) w:=by
 simp only[Ab,Ah]at hxl;refine qe9 (c:=qk6) ho rfl (λh=>by cases h) rfl func19 (by kernel_rfl) rfl ?_
 have h3:#[Operand.tmp p0,.tmp p1,.tmp p2].map (Act.mk ts []).eval=#[x0,.int .i64 nw,x2]:=by
  rw[AF];simp only[AA,AB];rw[qcc (s.has _ _ l0),qcc (s.has _ _ l1),qcc (s.has _ _ l2)]
 rw[h3];obtain⟨t0,ht0⟩:∃t0,t0=(#[x0,.int .i64 nw,x2]++Array.replicate (Ay.ntmps-(#[x0,.int .i64 nw,x2]:Array Ai).size) undef:Array Ai):=⟨_,rfl⟩;rw[<-ht0]
 have q:qq (gr2 W.heap.size gE ea) (λ_=>false) 39 t0 [(0,x0),(1,.int .i64 nw),(2,x2)]:=by
  refine⟨λu v _ hv=>?_,by rw[ht0,ntmps19];simp,Holds.at ⟨by rw[ht0];simp,by rw[ht0];simp,by rw[ht0];simp,trivial⟩⟩;have hm:=Array.mem_of_getElem? hv;rw[ht0]at hm;rcases Array.mem_append.1 hm with hm|hm
  . simp only[AE,AG,AH,or_false]at hm;rcases hm with rfl|rfl|rfl
    . exact s.okv l0 hxl.1
    . exact .int _ _
    . exact s.okv l2 hxl.2
  . rw[Array.eq_of_mem_replicate hm];exact .undef
 clear ht0 h3;rw[show qk6=.seq (qdC 0 qk6) (qdc 1 qk6)from rfl];refine qau ?_
 refine qgr (gr:=gr2 W.heap.size gE ea) hS.ours func19 q.ok.all (by kernel_rfl) hS.both hS.O hS.L (Q:=λe a x=>e=.normal/\x.heap=z.heap/\AtEnd 39 [(0,x0),(1,.int .i64 nw),(2,x2)] (λ_=>True) a.tmps x)
  (λe a x y exy h=>⟨h.1,exy.symm.trans h.2.1,h.2.2.1,h.2.2.2,trivial⟩) (λX eX=>?_) (λe a x h=>by rw[h.1];trivial) ?_
 . obtain⟨f,rfl,F⟩:=q.all;simp only[AD,List.range.loop,AA,AB,F 0 _ rfl rfl,F 1 _ rfl rfl,F 2 _ rfl rfl];rw[show qdC 0 qk6=.region _ _ _ from rfl];go_wp2_with fail;exact⟨rfl,⟨rfl,rfl,rfl,trivial⟩,trivial⟩
 rintro e1 ⟨t1,d1⟩ td1 w1 z1 hb1 hh1-ok1 qlA-⟨rfl,hz1,hE1⟩;rw[qlA rfl];have q1:qq (gr2 W.heap.size gE ea) (λ_=>false) 39 t1 [(0,x0),(1,.int .i64 nw),(2,x2)]:=⟨.of ok1 _,hE1.1,hE1.2.at⟩;have g1:HG z z1:=qa4 hz1;have hS1:=hS.step hb1 hh1 g1;refine q0z (lf:=19) (k:=[]) 10 (show qdc 1 qk6=.seq _ kW from rfl) rfl ?_;refine qft q1 rfl rfl rfl rfl (λt1 q1=>?_);refine qft q1 rfl rfl rfl rfl (λt1 q1=>?_);refine qft q1 rfl rfl rfl rfl (λt1 q1=>?_);refine q83 hS1 (g1.rn hp) (g1.ri hl) hx hn q1 rfl rfl rfl rfl rfl rfl (λw2 z2 M2 Sh2 Fz2 T2 n2 A1 m1 c1 A2 m2 c2 A3 m3 c3 A4 m4 c4 hS2 hn2 g2 hF t2 q2=>?_);refine qft q2 rfl rfl rfl rfl (λt2 q2=>?_);refine qr9 q2 rfl rfl rfl rfl rfl (λt2 q2=>?_);refine qr9 q2 rfl rfl rfl rfl rfl (λt2 q2=>?_);refine qkW hg hS2 q2 rfl rfl rfl rfl rfl (λw4 z4 R hS4 g4 hR hB hO t4 q4=>?_);refine qns q4 rfl rfl rfl rfl (λt4 q4=>qai ?_);replace q4:=q4.keep (K:=[(0,x0),(9,.pointer (some ⟨R,0,none⟩)),(10,.bool (qb8 qa nw l).isSome)]) ⟨rfl,rfl,rfl,trivial⟩;have gz:HG z z4:=(g1.trans g2).trans g4;have hF4:=(hO _ _ hF).low g1.size;have hzR:z.heap.size<=R:=AM (AM g1.size g2.size) hR;have qmK:(qap qa nw l).isSome=(qb8 qa nw l).isSome:=by unfold qap;rw[Option.isSome_map]
 have hE4:=hS4.err;clear hF hO q q1 q2
 refine qgr (gr:=gr2 W.heap.size gE ea) hS4.ours func19 q4.ok.all (by kernel_rfl) hS4.both hS4.O hS4.L (Q:=λe a x=>e=.ret/\HG z x/\AllEnd z.heap.size (qap qa nw l).isSome ((qap qa nw l).getD qc4) x a.tmps)
  (λe a x y exy h=>⟨h.1,h.2.1.heap exy,by
   obtain⟨v1,v2,d,k,h1,h2,h3,h4⟩:=h.2.2;exact⟨v1,v2,d,k,h1,h2,h3,h4.heap exy⟩⟩)
  (λX eX=>?_) (λe a x h=>by rw[h.1];trivial) ?_
 . cases hr:qb8 qa nw l with
   |none=>
    rw[hr]at q4;have e2:qap qa nw l=none:=by unfold qap;rw[hr];rfl
    rw[e2];exact As (qkZ X q4) (λe a x h=>⟨h.1,(gz.heap eX).heap h.2.1.symm,_,_,.slice none 0 0,.slice none 0 0,h.2.2.1,h.2.2.2.1,h.2.2.2.2,qI.zero _ _⟩)
   |some c=>
    rw[hr]at q4 hF4;have e2:qap qa nw l=some (finish qa qa.length c):=by unfold qap;rw[hr];rfl
    rw[e2];have hok:=(qky hr).1;exact As (q85 (b:=z.heap.size) X q4 hok hok.d1 ((qa4 (x:=z4) (y:=X) eX.symm).err hE4) ((gz.rn hp).heap eX) hzR (AK hg hS.zE) ⟨_,_,_,_,hB.heap eX,hF4.heap eX⟩) (λe a x h=>⟨h.1,HGB.hg (gz.heap eX) h.2.1 hzR,h.2.2⟩)
 rintro e5 ⟨t5,d5⟩ td5 w5 z5 hb5 hh5-ok5 qmL-⟨rfl,hg5,v1,v2,d,k',h6,h7,h8,hF5⟩;show qc prog Post Sh2 Fz2 T2 n2 0 0 (G {(base 19).at ⟨t5,[]⟩ (td5++_)with mode:=.returning} (_::cs)) w5;refine qno (C:=(gr2 W.heap.size gE ea).base.pen M2) (x:=.tuple #[v1,v2,.bool (qap qa nw l).isSome]) (q86 M2).zR (q0p (gr:=gr2 W.heap.size gE ea) (q86 M2) func19 ok5) rfl hb5 hS4.O (qgq hS4.left) func19 (λd=>q00 h6 h7 h8) ?_;intro w7 z7 hb7 ez7 hh7 qcZ hL7;rw[Frame.finish_at,ho];have g7:=hg5.heap ez7.symm
 have hS5:=hS4.low hg hb5 hh5 (λr hr=>by
  have h1:=AK hr hS.zE;exact(hg5.block r h1).trans (gz.block r h1).symm)
 exact next w7 z7 M2 Sh2 Fz2 T2 n2 v1 v2 d k' (hS5.step hb7 hh7 (qa4 ez7)) hn2 g7 (hF5.heap ez7.symm) _ (s.put ht (.inr qcZ))
end
end
end Go.Proofs.YtacemdoejblgaaaGreatDoor

/- Part M14. Conditions: each statement's. -/
import Derived.Test.YtacemdoejblgaaaGreatDoorM13
namespace Go.Proofs.YtacemdoejblgaaaGreatDoor
open Bool renaming and_eq_true→Ab,not_eq_true'→Ah
open Go renaming Value→Ai,World→Aj,TypeId→Am,FuncId→Ap,Frame→As,Program→At
open Operand renaming tmp→Ax
open _root_.Go.Proofs.Tryz renaming prog→Ay,f11→Az
open List renaming range'→AA,map_cons→AB,map_nil→AD,range→AE,mem_toArray→AF,map_toArray→AG,lookup_cons→AH,mem_cons→AI,all_cons→AJ
open List.range renaming loop→AK
open Nat renaming le_trans→AL,le_refl→AM,blt→AN,lt_of_lt_of_le→AO,blt_eq→AP,le_of_eq→AQ
open _root_.Go.Proofs.Tryz
set_option maxRecDepth 100000
set_option maxHeartbeats 6400000
variable {af2:Array Edge}{ts:Array Ai}{c tl:Code}{L:List (Nat×Ai)}{cs:List Code}{ds:List Deferred}{N R Z b c1 c2 h0 h1 h2 t u:Nat}{A3 A4:Option Addr}{ps2:String}{ty2:Am}{v x0 x2:Ai}{X w' x y z z' zt:Aj}
section
open Go.Conc Go.RowKit
section
variable {W:Aj}{ea:Addr}
theorem Old.low{g:Nat}{cs:Array Ai}{M:Mks (gr2 W.heap.size g ea).base}{w:Aj}(h:Old W ea g cs M w z)(hb':Both ((gr2 W.heap.size g ea).base.pen M) w' z')(hh:Held ((gr2 W.heap.size g ea).base.pen M) w w')(hz:∀r,r<W.heap.size->z'.heap[r]?=z.heap[r]?):Old W ea g cs M w' z':=by
 have hkn:∀r,r<W.heap.size->((gr2 W.heap.size g ea).base.pen M).B r->pt2 W.heap.size g cs ea r=false->z'.heap[r]?=W.heap[r]?:=λr hr hB hp=>(hz r hr).trans (h.kn r hr hB hp);refine⟨AL h.size hh.size,λr hr=>?_,hh.os.trans h.os,hh.output.trans h.output,hh.tape.trans h.tape,hkn,h.le⟩;by_cases hB:((gr2 W.heap.size g ea).base.pen M).B r
 . cases hp:pt2 W.heap.size g cs ea r with
   |true=>
    rw[hh.block r (.inr (.inl (h.le.z r hp)))];exact h.old r hr
   |false=>
    have hn:¬M.Pt r:=λk=>by
     rcases h.le.nw r k with k|k
     . have:pt2 W.heap.size g cs ea r=true:=k;rw[hp]at this;cases this
     . have:W.heap.size<=r:=k;omega
    rw[hb'.rel.same r hB hn];exact hkn r hr hB hp
 . rw[hh.block r (.inl hB)];exact h.old r hr
theorem qo.low{a:Addr}(h:qo z a)(e:z'.heap[gE]?=z.heap[gE]?):qo z' a:=by
 have h':World.cell? z ⟨gE,0,none⟩=_:=h;show World.cell? z' ⟨gE,0,none⟩=_;rw[<-h'];unfold World.cell?;rw[show z'.heap[(⟨gE,0,none⟩:Addr).block]?=z.heap[(⟨gE,0,none⟩:Addr).block]? from e]
variable {pv cv:Ai}{qa:List Node}{l:List Int}{M:Mks (gr2 W.heap.size gE ea).base}{Sh:Nat->Prop}{Fz:Loc->Prop}{T:Nat->qz}{n:Nat}{w z:Aj}
theorem qm.low(h:qm W ea pv cv qa l M Sh Fz T n w z)(hg:gE<W.heap.size)(hb:Both ((gr2 W.heap.size gE ea).base.pen M) w' z')(hh:Held ((gr2 W.heap.size gE ea).base.pen M) w w')(hz:∀r,r<W.heap.size->z'.heap[r]?=z.heap[r]?):qm W ea pv cv qa l M Sh Fz T n w' z':=
 ⟨hb,h.old.low hb hh hz,h.err.low (hz _ hg),h.out,h.shy,h.left,h.n0,h.few,h.kR,h.kS⟩
theorem q81{u:Aj}{base size m:Nat}{t:Am}{xs:List Ai}(h:u.ownsRow base t size v m xs)(hb:W.heap.size<=base):Ok (gr2 W.heap.size gE ea).A (gr2 W.heap.size gE ea).F v:=by
 rcases h.2 with ⟨rfl,_⟩|⟨g,cap,cur,rfl,h2,_⟩
 . exact .slice _ _ (λa e=>by cases e)
 . exact .slice _ _ (λa e=>by cases e;exact .inl (AL hb h2))
section
variable {lf:Ap}{fn:Func}{t0:Nat}{XL:Nat->Bool}{ts:Array Ai}{k:List Item}{cs:List As}
theorem qry(hS:qm W ea pv cv qa l M Sh Fz T n w z)(hg:gE<W.heap.size)(hfn:Ay.funcs[lf]?=some fn)(hlf:Fs lf=false)(yw:Ay.inits.idxOf? lf=none)(hres:fn.results=#[.tmp t0])(ht0:XL t0=false)(vw:XOk (gr2 W.heap.size gE ea) XL ts)
    (qJ:qe4 prog Fs Gs SN c=true/\j3 XL c=true) {Q:Array Ai->Aj->Prop} (hR:∀t x y,x.heap=y.heap->Q t x->Q t y) (hlow:∀t x,Q t x->∀r,r<W.heap.size->x.heap[r]?=z.heap[r]?)
   (hc:∀X,z.heap=X.heap->c.wp prog (λe a x=>(e=.normal/\Q a.tmps x)∨(e=.ret/\a.tmps[t0]?=some (.bool true)/\∀r,r<W.heap.size->x.heap[r]?=z.heap[r]?)) ⟨ts,[]⟩ X)
   (next:∀ts' w' z',qm W ea pv cv qa l M Sh Fz T n w' z'->XOk (gr2 W.heap.size gE ea) XL ts'->Q ts' z'->qc prog (qO W) Sh Fz T n 0 0 (G ((base lf).at ⟨ts',[]⟩ k) []) w') :
   qc prog (qO W) Sh Fz T n 0 0 (G ((base lf).at ⟨ts,[]⟩ (.code c::k)) []) w:=by
 refine q3l (gr:=gr2 W.heap.size gE ea) hS.ours hfn hlf hres vw ht0 qJ.1 qJ.2 hS.both hS.O hS.L (Q:=λe a x=>(e=.normal/\Q a.tmps x)∨(e=.ret/\a.tmps[t0]?=some (.bool true)/\∀r,r<W.heap.size->x.heap[r]?=z.heap[r]?))
  (λe a x y exy h=>h.imp (λk=>⟨k.1,hR _ x y exy k.2⟩) (λk=>⟨k.1,k.2.1,λr hr=>by rw[<-exy];exact k.2.2 r hr⟩)) hc (λe a x h=>by rcases h with h|h<;>(rw[h.1];trivial)) ?_
 rintro e ⟨ts',ds'⟩ td w' z' hb' hh' ok' htd-(⟨rfl,hQ⟩|⟨rfl,hr,hz⟩)
 . rw[htd rfl];exact next ts' w' z' (hS.low hg hb' hh' (hlow _ _ hQ)) ok' hQ
 . have hS':=hS.low hg hb' hh' hz;show qc prog (qO W) Sh Fz T n 0 0 (G {(base lf).at ⟨ts',[]⟩ (td++_)with mode:=.returning} []) w';exact q98 hfn yw hres hr hS.left hS.n0 (λd=>hS'.old.fin d)
end
section
variable {P:At}{Post:Ai->Aj->Prop}{hh dd:Nat}{b:As}{ts:Array Ai}{k:List Item}{cs:List As}{ops:Array Oper}{i:Nat}{rest:List Nat}{s t:Nat}{ty:Am}{ps:String}{af:Array Edge}{v:Ai}
theorem q6p(hk:b.kind≠.early)(ho:ops[i]?=some ⟨some t,.move (.tmp s),ty,ps,af,none⟩)(hs:ts[s]?=some v)(next:qc P Post Sh Fz T n hh dd (G (b.at ⟨ts.setIfInBounds t v,[]⟩ (.inRegion ops rest::k)) cs) w) :
   qc P Post Sh Fz T n hh dd (G (b.at ⟨ts,[]⟩ (.inRegion ops (i::rest)::k)) cs) w:=
 qao v ho rfl hk (λw=>by
  show (Result.ok (Next.value ((Act.mk ts []).eval (.tmp s))) w)=_;rw[qct hs]) (λw=>rfl) next
theorem q6q(hk:b.kind≠.early)(ho:ops[i]?=some ⟨some t,.assign (.tmp s),ty,ps,af,none⟩)(hs:ts[s]?=some v)(next:qc P Post Sh Fz T n hh dd (G (b.at ⟨ts.setIfInBounds t v,[]⟩ (.inRegion ops rest::k)) cs) w) :
   qc P Post Sh Fz T n hh dd (G (b.at ⟨ts,[]⟩ (.inRegion ops (i::rest)::k)) cs) w:=
 qao v ho rfl hk (λw=>by
  show (Result.ok (Next.value ((Act.mk ts []).eval (.tmp s))) w)=_;rw[qct hs]) (λw=>rfl) next
end
section
variable {Post:Ai->Aj->Prop}{b:As}{XL:Nat->Bool}{ts:Array Ai}{k:List Item}{cs:List As}{ops:Array Oper}{i:Nat}{rest:List Nat}{s t:Nat}{ty:Am}{ps:String}{af:Array Edge}{ats:Array Am}
theorem qu8(hS:qm W ea pv cv qa l M Sh Fz T n w z)(hf:qlc qa)(vw:XOk (gr2 W.heap.size gE ea) XL ts)(hk:b.kind≠.early)(ho:ops[i]?=some ⟨some t,.call {callee:=.value (.func 26),args:=#[.tmp s],argTypes:=ats},ty,ps,af,none⟩)(hs:ts[s]?=some pv)
   (next:∀w' z' M' v,qm W ea pv cv qa l M' Sh Fz T n w' z'->HG z z'->DN z' z.heap.size v qa->XOk (gr2 W.heap.size gE ea) XL (ts.setIfInBounds t v)->Ok (gr2 W.heap.size gE ea).A (gr2 W.heap.size gE ea).F v->qc prog Post Sh Fz T n 0 0 (G (b.at ⟨ts.setIfInBounds t v,[]⟩ (.inRegion ops rest::k)) cs) w') :
   qc prog Post Sh Fz T n 0 0 (G (b.at ⟨ts,[]⟩ (.inRegion ops (i::rest)::k)) cs) w:=by
 obtain⟨m,hm⟩:=q6g (n:=n) hS.calm qa hf;have hc:=hm pv w hS.nodes hS.old.size (AM _);have hvs:#[Ax s].map (Act.mk ts []).eval=#[pv]:=by simp[qct hs]
 refine qrx (gr:=gr2 W.heap.size gE ea) hS.both hS.out ho rfl hk rfl (R:=λv w'=>DN w' w.heap.size v qa) (by rw[hvs];exact hc) (λv w' M' hle hb O hg _ hR=>?_);have hzs:z.heap.size=w.heap.size:=hS.both.size;have hsz:z.heap.size<=w'.heap.size:=by rw[hzs];exact hg.size
 have hD:DN (qgn z w') z.heap.size v qa:=by rw[hzs];exact hR.again (AQ hzs)
 have hv:Ok (gr2 W.heap.size gE ea).A (gr2 W.heap.size gE ea).F v:=by
  obtain⟨xs,h1,-⟩:=hR;exact q81 h1 hS.old.size
 exact next w' _ M' v (hS.far hle hb O hg) (qpe hsz) hD (vw.set (.inr hv)) hv
theorem qx2(hS:qm W ea pv cv qa l M Sh Fz T n w z)(hl:l.length<=1048576)(vw:XOk (gr2 W.heap.size gE ea) XL ts)(hk:b.kind≠.early)(ho:ops[i]?=some ⟨some t,.call {callee:=.value (.func 27),args:=#[.tmp s],argTypes:=ats},ty,ps,af,none⟩)(hs:ts[s]?=some cv)
   (next:∀w' z' M' v,qm W ea pv cv qa l M' Sh Fz T n w' z'->HG z z'->qf z' z.heap.size v l->XOk (gr2 W.heap.size gE ea) XL (ts.setIfInBounds t v)->Ok (gr2 W.heap.size gE ea).A (gr2 W.heap.size gE ea).F v->qc prog Post Sh Fz T n 0 0 (G (b.at ⟨ts.setIfInBounds t v,[]⟩ (.inRegion ops rest::k)) cs) w') :
   qc prog Post Sh Fz T n 0 0 (G (b.at ⟨ts,[]⟩ (.inRegion ops (i::rest)::k)) cs) w:=by
 obtain⟨m,hm⟩:=qu5 (n:=n) hS.calm l hl;have hc:=hm cv w hS.ints hS.old.size (AM _);have hvs:#[Ax s].map (Act.mk ts []).eval=#[cv]:=by simp[qct hs]
 refine qrx (gr:=gr2 W.heap.size gE ea) hS.both hS.out ho rfl hk rfl (R:=λv w'=>qf w' w.heap.size v l) (by rw[hvs];exact hc) (λv w' M' hle hb O hg _ hR=>?_);have hzs:z.heap.size=w.heap.size:=hS.both.size;have hsz:z.heap.size<=w'.heap.size:=by rw[hzs];exact hg.size
 have hD:qf (qgn z w') z.heap.size v l:=by rw[hzs];exact hR.again (AQ hzs)
 have hv:Ok (gr2 W.heap.size gE ea).A (gr2 W.heap.size gE ea).F v:=q81 hR hS.old.size;exact next w' _ M' v (hS.far hle hb O hg) (qpe hsz) hD (vw.set (.inr hv)) hv
theorem qu9(hS:qm W ea pv cv qa l M Sh Fz T n w z){lv:Int}(h0:0<=lv)(h1:lv<=1048576){s':Nat}(hk:b.kind≠.early)(ho:ops[i]?=some ⟨some t,.call {callee:=.value (.func 25),args:=#[.tmp s,.tmp s'],argTypes:=ats},ty,ps,af,none⟩)(hs:ts[s]?=some pv)(hs':ts[s']?=some (.int .i64 lv))
   (next:∀w' z' M' (x:Int),qm W ea pv cv qa l M' Sh Fz T n w' z'->HG z z'->x<=lv->-1<=x->(0<=x->qlc qa)->qc prog Post Sh Fz T n 0 0 (G (b.at ⟨ts.setIfInBounds t (.int .i64 x),[]⟩ (.inRegion ops rest::k)) cs) w') :
   qc prog Post Sh Fz T n 0 0 (G (b.at ⟨ts,[]⟩ (.inRegion ops (i::rest)::k)) cs) w:=by
 obtain⟨m,hm⟩:=q6h (n:=n) hS.calm qa;have hc:=hm pv lv w hS.nodes hS.old.size (AM _) h0 h1;have hvs:#[Ax s,.tmp s'].map (Act.mk ts []).eval=#[pv,.int .i64 lv]:=by simp[qct hs,qct hs']
 refine qrx (gr:=gr2 W.heap.size gE ea) hS.both hS.out ho rfl hk rfl (R:=λv _=>SzC lv (qlc qa) v) (by rw[hvs];exact hc) (λv w' M' hle hb O hg _ hR=>?_);obtain⟨x,rfl,k1,k2,k3⟩:=hR;have hsz:z.heap.size<=w'.heap.size:=by rw[show z.heap.size=w.heap.size from hS.both.size];exact hg.size
 exact next w' _ M' x (hS.far hle hb O hg) (qpe hsz) k1 k2 k3
end
end
def qjS:Nat->Code->Code
 |0,.seq x _=>x
 |k+1,.seq _ y=>qjS k y
 |_,c=>c
def qdn:Nat->Code->Code
 |0,c=>c
 |k+1,.seq _ y=>qdn k y
 |_,c=>c
def xG:List Code->Code->Code
 |[],t=>t
 |c::cs,t=>.seq c (xG cs t)
def Onto(t0 N:Nat)(K:Array Ai->Aj->Prop)(X:Aj)(e:Exit)(a:Act)(y:Aj):Prop:=(e=.normal/\(∀r,r<N->y.heap[r]?=X.heap[r]?)/\K a.tmps y)∨(e=.ret/\a.tmps[t0]?=some (.bool true)/\∀r,r<N->y.heap[r]?=X.heap[r]?)
theorem Onto.go{t0:Nat}{K:Array Ai->Aj->Prop}(h:∀r,r<N->y.heap[r]?=X.heap[r]?)(k:K ts y):Onto t0 N K X .normal ⟨ts,ds⟩ y:=.inl ⟨rfl,h,k⟩
theorem Onto.same{t0:Nat}{K:Array Ai->Aj->Prop}(k:K ts X):Onto t0 N K X .normal ⟨ts,ds⟩ X:=.inl ⟨rfl,λ_ _=>rfl,k⟩
theorem Onto.ret{t0:Nat}{K:Array Ai->Aj->Prop}(h:∀r,r<N->y.heap[r]?=X.heap[r]?)(k:ts[t0]?=some (.bool true)):Onto t0 N K X .ret ⟨ts,ds⟩ y:=.inr ⟨rfl,k,h⟩
def zQ(P:At)(t0 N:Nat)(Q:Array Ai->Aj->Prop):List Code->Array Ai->Aj->Prop
 |[],ts,x=>Q ts x
 |c::cs,ts,x=>∀X,x.heap=X.heap->c.wp P (Onto t0 N (zQ P t0 N Q cs) X) ⟨ts,[]⟩ X
theorem zQ.heap{P:At}{t0:Nat}{Q:Array Ai->Aj->Prop}(hR:∀t x y,x.heap=y.heap->Q t x->Q t y)(e:x.heap=y.heap)(h:zQ P t0 N Q cs ts x):zQ P t0 N Q cs ts y:=by
 cases cs with
 |nil=>exact hR _ _ _ e h
 |cons c cs=>exact λX k=>h X (e.trans k)
theorem qjT{n:Nat}(h:ts.size=n):∃f:Nat->Ai,ts=((AE n).map f).toArray:=
 ⟨λi=>ts.getD i undef,by
  apply Array.ext
  . simp[h]
  . intro i h1 h2;simp[Array.getD,h1]⟩
section
variable {W:Aj}{ea:Addr}{pv cv:Ai}{qa:List Node}{l:List Int}{M:Mks (gr2 W.heap.size gE ea).base}{Sh:Nat->Prop}{Fz:Loc->Prop}{T:Nat->qz}{n:Nat}{w z:Aj}
 {lf:Ap} {fn:Func} {t0:Nat} {XL:Nat->Bool} {ts:Array Ai} {k:List Item}
theorem q0d(hg:gE<W.heap.size)(hfn:Ay.funcs[lf]?=some fn)(hlf:Fs lf=false)(yw:Ay.inits.idxOf? lf=none)(hres:fn.results=#[.tmp t0])(ht0:XL t0=false){Q:Array Ai->Aj->Prop}(hR:∀t x y,x.heap=y.heap->Q t x->Q t y)
    (qJ:cs.all (λc=>qe4 prog Fs Gs SN c&&j3 XL c)=true)  (hS:qm W ea pv cv qa l M Sh Fz T n w z) (vw:XOk (gr2 W.heap.size gE ea) XL ts) (hc:zQ prog t0 W.heap.size Q cs ts z)
   (next:∀ts' w' z',qm W ea pv cv qa l M Sh Fz T n w' z'->XOk (gr2 W.heap.size gE ea) XL ts'->Q ts' z'->qc prog (qO W) Sh Fz T n 0 0 (G ((base lf).at ⟨ts',[]⟩ (.code tl::k)) []) w') :
   qc prog (qO W) Sh Fz T n 0 0 (G ((base lf).at ⟨ts,[]⟩ (.code (xG cs tl)::k)) []) w:=by
 induction cs generalizing ts w z with
 |nil=>exact next ts w z hS vw hc
 |cons c cs ih=>
  simp only[AJ,Ab]at qJ;refine qat ?_
  refine qry hS hg hfn hlf yw hres ht0 vw qJ.1 (Q:=λt x=>(∀r,r<W.heap.size->x.heap[r]?=z.heap[r]?)/\zQ prog t0 W.heap.size Q cs t x) (λt x y e h=>⟨λr hr=>by rw[<-e];exact h.1 r hr,h.2.heap hR e⟩) (λt x h=>h.1)
   (λX eX=>wp_mono (hc X eX) (λe a y h=>?_)) (λts' w' z' hS' ok' h=>ih qJ.2 hS' ok' h.2)
  rw[eX];exact h
end
structure qq(gr:Grd)(XL:Nat->Bool)(NT:Nat)(ts:Array Ai)(L:List (Nat×Ai)):Prop where
 ok:XOk gr XL ts
 size:ts.size=NT
 has:∀t v,L.lookup t=some v->ts[t]?=some v
def xg(L:List (Nat×Ai)):List (Nat×Ai)->Prop
 |[]=>True
 |(t,v)::K=>L.lookup t=some v/\xg L K
def Holds(ts:Array Ai):List (Nat×Ai)->Prop
 |[]=>True
 |(t,v)::K=>ts[t]?=some v/\Holds ts K
theorem lookup_cons{x:Ai}(h:((t,v)::L).lookup u=some x):(u=t/\x=v)∨(u≠t/\L.lookup u=some x):=by
 rw[AH]at h;split at h
 . rename_i e;exact .inl ⟨by simpa using e,by simpa using h.symm⟩
 . rename_i e;exact .inr ⟨by simpa using e,h⟩
theorem qku:((t,v)::L).lookup t=some v:=by simp
theorem qrz(h:u≠t):((t,v)::L).lookup u=L.lookup u:=by
 rw[AH,beq_false_of_ne h]
theorem xg.at:∀{K:List (Nat×Ai)},xg L K->∀t v,K.lookup t=some v->L.lookup t=some v
 |[],_,_,_,h=>by cases h
 |(_,_)::_,k,_,_,h=>by
  rcases lookup_cons h with ⟨rfl,rfl⟩|⟨_,h⟩
  . exact k.1
  . exact k.2.at _ _ h
theorem Holds.at:∀{K:List (Nat×Ai)},Holds ts K->∀t v,K.lookup t=some v->ts[t]?=some v
 |[],_,_,_,h=>by cases h
 |(_,_)::_,k,_,_,h=>by
  rcases lookup_cons h with ⟨rfl,rfl⟩|⟨_,h⟩
  . exact k.1
  . exact k.2.at _ _ h
section
variable {gr:Grd}{XL:Nat->Bool}{NT:Nat}{ts:Array Ai}{L K:List (Nat×Ai)}{t u:Nat}{v:Ai}
theorem qq.put(s:qq gr XL NT ts L)(ht:AN t NT=true)(hv:XL t=true∨Ok gr.A gr.F v):qq gr XL NT (ts.setIfInBounds t v) ((t,v)::L):=
 ⟨s.ok.set hv,by simpa using s.size,λu x h=>by
  rcases lookup_cons h with ⟨rfl,rfl⟩|⟨hn,h⟩
  . exact getSet (by rw[s.size];rwa [AP]at ht)
  . exact(q6x (Ne.symm hn)).trans (s.has _ _ h)⟩
theorem qq.okv(s:qq gr XL NT ts L)(h:L.lookup t=some v)(hx:XL t=false):Ok gr.A gr.F v:=s.ok t v hx (s.has t v h)
theorem qq.keep(s:qq gr XL NT ts L)(h:xg L K):qq gr XL NT ts K:=⟨s.ok,s.size,λt v k=>s.has t v (h.at t v k)⟩
theorem qq.mv(s:qq gr XL NT ts L)(hl:L.lookup u=some v)(hx:(!XL u||XL t)=true)(ht:AN t NT=true):qq gr XL NT (ts.setIfInBounds t v) ((t,v)::L):=
 s.put ht (by
  rcases Bool.or_eq_true _ _▸hx with h|h
  . exact .inr (s.okv hl (by simpa using h))
  . exact .inl h)
theorem qq.all(s:qq gr XL NT ts L):∃f:Nat->Ai,ts=((AE NT).map f).toArray/\∀t v,L.lookup t=some v->AN t NT=true->f t=v:=by
 obtain⟨f,rfl⟩:=qjT s.size;refine⟨f,rfl,λt v h ht=>?_⟩;have:=s.has t v h;rw[AP]at ht;simpa[ht]using this
end
section
variable {W:Aj}{ea:Addr}{pv cv:Ai}{qa:List Node}{l:List Int}{M:Mks (gr2 W.heap.size gE ea).base}{Sh:Nat->Prop}{Fz:Loc->Prop}{T:Nat->qz}{n:Nat}{w z:Aj}{Post:Ai->Aj->Prop}
 {lf:Ap} {XL:Nat->Bool} {NT:Nat} {ts:Array Ai} {L:List (Nat×Ai)} {ops:Array Oper} {i m t u:Nat} {ty:Am} {ps:String} {af:Array Edge} {v:Ai} {k:List Item} {cs:List As} {ats:Array Am}
theorem q82(N:Nat){id:Nat}(hN:ops.size=N)(next:qc prog Post Sh Fz T n 0 0 (G ((base lf).at ⟨ts,[]⟩ (.inRegion ops (AA 0 N)::k)) cs) w):qc prog Post Sh Fz T n 0 0 (G ((base lf).at ⟨ts,[]⟩ (.code (.region id ops false)::k)) cs) w:=by
 refine qaz ?_;rw[List.range_eq_range',hN];exact next
theorem q3n(N:Nat){id:Nat}(e:c=.seq (.region id ops false) tl)(hN:ops.size=N)(next:qc prog Post Sh Fz T n 0 0 (G ((base lf).at ⟨ts,[]⟩ (.inRegion ops (AA 0 N)::.code tl::k)) cs) w):qc prog Post Sh Fz T n 0 0 (G ((base lf).at ⟨ts,[]⟩ (.code c::k)) cs) w:=
 e▸qat (q82 N hN next)
theorem q6r(N:Nat){x:Code}{id:Nat}(e:c=.seq (.seq (.region id ops false) x) tl)(hN:ops.size=N)(next:qc prog Post Sh Fz T n 0 0 (G ((base lf).at ⟨ts,[]⟩ (.inRegion ops (AA 0 N)::.code x::.code tl::k)) cs) w):qc prog Post Sh Fz T n 0 0 (G ((base lf).at ⟨ts,[]⟩ (.code c::k)) cs) w:=
 e▸qat (qat (q82 N hN next))
variable {gr:Grd}
theorem qg6(s:qq gr XL NT ts L)(ho:ops[i]?=some ⟨some t,.move (.tmp u),ty,ps,af,none⟩)(hl:L.lookup u=some v)(hx:(!XL u||XL t)=true)(ht:AN t NT=true)
   (next:∀ts',qq gr XL NT ts' ((t,v)::L)->qc prog Post Sh Fz T n 0 0 (G ((base lf).at ⟨ts',[]⟩ (.inRegion ops (AA (i+1) m)::k)) cs) w) :
   qc prog Post Sh Fz T n 0 0 (G ((base lf).at ⟨ts,[]⟩ (.inRegion ops (AA i (m+1))::k)) cs) w:=
 q6p (λh=>by cases h) ho (s.has u v hl) (next _ (s.mv hl hx ht))
theorem q3o(s:qq gr XL NT ts L)(ho:ops[i]?=some ⟨some t,.assign (.tmp u),ty,ps,af,none⟩)(hl:L.lookup u=some v)(hx:(!XL u||XL t)=true)(ht:AN t NT=true)
   (next:∀ts',qq gr XL NT ts' ((t,v)::L)->qc prog Post Sh Fz T n 0 0 (G ((base lf).at ⟨ts',[]⟩ (.inRegion ops (AA (i+1) m)::k)) cs) w) :
   qc prog Post Sh Fz T n 0 0 (G ((base lf).at ⟨ts,[]⟩ (.inRegion ops (AA i (m+1))::k)) cs) w:=
 q6q (λh=>by cases h) ho (s.has u v hl) (next _ (s.mv hl hx ht))
theorem q3p{xs:Array Ai}{j:Nat}(s:qq gr XL NT ts L)(ho:ops[i]?=some ⟨some t,.extract (.tmp u) j,ty,ps,af,none⟩)(hl:L.lookup u=some (.tuple xs))(hj:xs[j]?=some v)(hx:XL u=false)(ht:AN t NT=true)
   (next:∀ts',qq gr XL NT ts' ((t,v)::L)->qc prog Post Sh Fz T n 0 0 (G ((base lf).at ⟨ts',[]⟩ (.inRegion ops (AA (i+1) m)::k)) cs) w) :
   qc prog Post Sh Fz T n 0 0 (G ((base lf).at ⟨ts,[]⟩ (.inRegion ops (AA i (m+1))::k)) cs) w:=by
 have hs:=s.has u _ hl;refine qao v ho rfl (λh=>by cases h) (λw=>?_) (λw=>?_) (next _ (s.put ht (.inr ?_)))
 . unfold execOp;simp only[qct hs];simp[go_sem,hj]
 . unfold execOp;simp only[qct hs];simp[go_sem,hj]
 . cases s.okv hl hx with
   |tuple h=>exact h v (Array.mem_of_getElem? hj)
theorem q83{b:Bool}(s:qq gr XL NT ts L)(ho:ops[i]?=some ⟨some t,.unOp .not 4 (.tmp u),ty,ps,af,none⟩)(hl:L.lookup u=some (.bool b))(ht:AN t NT=true)
   (next:∀ts',qq gr XL NT ts' ((t,.bool !b)::L)->qc prog Post Sh Fz T n 0 0 (G ((base lf).at ⟨ts',[]⟩ (.inRegion ops (AA (i+1) m)::k)) cs) w) :
   qc prog Post Sh Fz T n 0 0 (G ((base lf).at ⟨ts,[]⟩ (.inRegion ops (AA i (m+1))::k)) cs) w:=by
 have hs:=s.has u _ hl;refine qao (.bool !b) ho rfl (λh=>by cases h) (λw=>?_) (λw=>?_) (next _ (s.put ht (.inr (.bool _))))
 . unfold execOp;simp only[qct hs]
   go_simp
 . unfold execOp;simp only[qct hs];simp[go_sem]
theorem qjU{A:Option Addr}{q c t2:Nat}(s:qq gr XL NT ts L)(ho:ops[i]?=some ⟨some t,.call {callee:=.builtin .len,args:=#[.tmp u],argTypes:=#[24]},ty,ps,af,none⟩)(hl:L.lookup u=some (.slice A q c))(ht:AN t NT=true)
   (ho2:ops[i+1]?=some ⟨some t2,.binOp .gtr 3 (.tmp t) (.const (.int .i64 1048576)) 3,ty2,ps2,af2,none⟩) (ht2:AN t2 NT=true)
   (next:∀ts',qq gr XL NT ts' ((t2,.bool (decide (1048576<(q:Int))))::L)->qc prog Post Sh Fz T n 0 0 (G ((base lf).at ⟨ts',[]⟩ (.inRegion ops (AA (i+2) m)::k)) cs) w) (hn:(L.lookup t).isNone=true) :
   qc prog Post Sh Fz T n 0 0 (G ((base lf).at ⟨ts,[]⟩ (.inRegion ops (AA i (m+2))::k)) cs) w:=by
 have hs:=s.has u _ hl;have s1:=s.put (v:=.int .i64 q) ht (.inr (.int _ _));have hs1:=s1.has t (.int .i64 q) qku;have hlt:t<ts.size:=by rw[s.size];rwa [AP]at ht
 refine qao (.int .i64 q) ho rfl (λh=>by cases h) (λw=>?_) (λw=>?_) ?_
 . unfold execOp;simp[go_sem,hs]
 . unfold execOp;simp[go_sem,hs]
 refine qao (.bool (decide (1048576<(q:Int)))) ho2 rfl (λh=>by cases h) (λw=>?_) (λw=>?_) (next _ ?_)
 . unfold execOp;simp only[show ∀a:Act,a.eval (.const (.int .i64 1048576))=.int .i64 1048576 from λ_=>rfl]
   go_simp
 . unfold execOp;simp only[show ∀a:Act,a.eval (.const (.int .i64 1048576))=.int .i64 1048576 from λ_=>rfl];simp[go_sem,hlt]
 . have s2:=s1.put (v:=.bool (decide (1048576<(q:Int)))) ht2 (.inr (.bool _));refine⟨s2.ok,s2.size,λx y h=>?_⟩;rcases lookup_cons h with ⟨rfl,rfl⟩|⟨hx,h⟩
   . exact s2.has _ _ qku
   . exact s2.has x y ((qrz hx).trans ((qrz (λe=>by subst e;rw[h]at hn;cases hn)).trans h))
end
section
variable {W:Aj}{ea:Addr}{pv cv:Ai}{qa:List Node}{l:List Int}{M:Mks (gr2 W.heap.size gE ea).base}{Sh:Nat->Prop}{Fz:Loc->Prop}{T:Nat->qz}{n:Nat}{w z:Aj}{Post:Ai->Aj->Prop}
 {lf:Ap} {XL:Nat->Bool} {NT:Nat} {ts:Array Ai} {L:List (Nat×Ai)} {ops:Array Oper} {i m t u:Nat} {ty:Am} {ps:String} {af:Array Edge} {v:Ai} {k:List Item} {cs:List As} {ats:Array Am}
theorem qpf(hS:qm W ea pv cv qa l M Sh Fz T n w z)(hf:qlc qa)(s:qq (gr2 W.heap.size gE ea) XL NT ts L)(ho:ops[i]?=some ⟨some t,.call {callee:=.value (.func 26),args:=#[.tmp u],argTypes:=ats},ty,ps,af,none⟩)(hl:L.lookup u=some pv)(ht:AN t NT=true)
   (next:∀w' z' M' v,qm W ea pv cv qa l M' Sh Fz T n w' z'->HG z z'->DN z' z.heap.size v qa->∀ts',qq (gr2 W.heap.size gE ea) XL NT ts' ((t,v)::L)->qc prog Post Sh Fz T n 0 0 (G ((base lf).at ⟨ts',[]⟩ (.inRegion ops (AA (i+1) m)::k)) cs) w') :
   qc prog Post Sh Fz T n 0 0 (G ((base lf).at ⟨ts,[]⟩ (.inRegion ops (AA i (m+1))::k)) cs) w:=
 qu8 hS hf s.ok (λh=>by cases h) ho (s.has u _ hl) (λw' z' M' v h1 h2 h3 _ h4=>next w' z' M' v h1 h2 h3 _ (s.put ht (.inr h4)))
theorem qva(hS:qm W ea pv cv qa l M Sh Fz T n w z)(hf:l.length<=1048576)(s:qq (gr2 W.heap.size gE ea) XL NT ts L)(ho:ops[i]?=some ⟨some t,.call {callee:=.value (.func 27),args:=#[.tmp u],argTypes:=ats},ty,ps,af,none⟩)(hl:L.lookup u=some cv)(ht:AN t NT=true)
   (next:∀w' z' M' v,qm W ea pv cv qa l M' Sh Fz T n w' z'->HG z z'->qf z' z.heap.size v l->∀ts',qq (gr2 W.heap.size gE ea) XL NT ts' ((t,v)::L)->qc prog Post Sh Fz T n 0 0 (G ((base lf).at ⟨ts',[]⟩ (.inRegion ops (AA (i+1) m)::k)) cs) w') :
   qc prog Post Sh Fz T n 0 0 (G ((base lf).at ⟨ts,[]⟩ (.inRegion ops (AA i (m+1))::k)) cs) w:=
 qx2 hS hf s.ok (λh=>by cases h) ho (s.has u _ hl) (λw' z' M' v h1 h2 h3 _ h4=>next w' z' M' v h1 h2 h3 _ (s.put ht (.inr h4)))
theorem q97(hS:qm W ea pv cv qa l M Sh Fz T n w z){u2:Nat}(s:qq (gr2 W.heap.size gE ea) XL NT ts L)(ho:ops[i]?=some ⟨some t,.call {callee:=.value (.func 25),args:=#[.tmp u,.tmp u2],argTypes:=ats},ty,ps,af,none⟩)(hl:L.lookup u=some pv)(hl2:L.lookup u2=some (.int .i64 1048576))(ht:AN t NT=true)
   (next:∀w' z' M' (x:Int),qm W ea pv cv qa l M' Sh Fz T n w' z'->(0<=x->qlc qa)->∀ts',qq (gr2 W.heap.size gE ea) XL NT ts' ((t,.int .i64 x)::L)->qc prog Post Sh Fz T n 0 0 (G ((base lf).at ⟨ts',[]⟩ (.inRegion ops (AA (i+1) m)::k)) cs) w') :
   qc prog Post Sh Fz T n 0 0 (G ((base lf).at ⟨ts,[]⟩ (.inRegion ops (AA i (m+1))::k)) cs) w:=
 qu9 hS (by decide) (Int.le_refl _) (λh=>by cases h) ho (s.has u _ hl) (s.has u2 _ hl2) (λw' z' M' x h1 _ _ _ h3=>next w' z' M' x h1 h3 _ (s.put ht (.inr (.int _ _))))
theorem q6s{f:Ap}{fn:Func}{args:Array Operand}{vs:List Ai}(hS:qm W ea pv cv qa l M Sh Fz T n w z)(s:qq (gr2 W.heap.size gE ea) XL NT ts L)(ho:ops[i]?=some ⟨some t,.call {callee:=.value (.func f),args,argTypes:=ats},ty,ps,af,none⟩)
   (hfn:Ay.funcs[f]?=some fn) (hname:(fn.name == "runtime.NumGoroutine")=false) (hbody:fn.body=some c) (hF:Fs f=true) (ht:AN t NT=true) (us:List Nat) (ha:args=(us.map Ax).toArray) (hl:us.map (λu=>L.lookup u)=vs.map some) (hx:us.all (λu=>!XL u)=true)
   {R:Ai->Aj->Prop} (hR:∀v x y,x.heap=y.heap->R v x->R v y) (hc:∀X,z.heap=X.heap->Calls prog f vs.toArray X fun | .returned v,y=>R v y/\X.grownBy y none|_,_=>False)
   (next:∀v w' z',qm W ea pv cv qa l M Sh Fz T n w' z'->HG z z'->R v z'->∀ts',qq (gr2 W.heap.size gE ea) XL NT ts' ((t,v)::L)->qc prog Post Sh Fz T n 0 0 (G ((base lf).at ⟨ts',[]⟩ (.inRegion ops (AA (i+1) m)::k)) cs) w') :
   qc prog Post Sh Fz T n 0 0 (G ((base lf).at ⟨ts,[]⟩ (.inRegion ops (AA i (m+1))::k)) cs) w:=by
 subst ha
 have hev:∀(us:List Nat) (vs:List Ai),us.map (λu=>L.lookup u)=vs.map some->us.all (λu=>!XL u)=true->us.map (λu=>(Act.mk ts []).eval (.tmp u))=vs/\∀v∈vs,Ok (gr2 W.heap.size gE ea).A (gr2 W.heap.size gE ea).F v:=by
  intro us
  induction us with
  |nil=>intro vs h _;cases vs with|nil=>exact⟨rfl,λv hv=>by cases hv⟩|cons _ _=>cases h
  |cons u us ih=>
   intro vs h hx;cases vs with
   |nil=>cases h
   |cons v vs=>
    simp only[AB,List.cons.injEq,AJ,Ab]at h hx;obtain⟨h1,h2⟩:=ih vs h.2 hx.2;refine⟨by rw[AB,h1,qct (s.has u v h.1)],λx hxm=>?_⟩;rcases AI.1 hxm with rfl|hxm
    . exact s.okv h.1 (by simpa using hx.1)
    . exact h2 x hxm
 obtain⟨h1,h2⟩:=hev us vs hl hx
 refine q6m (gr:=gr2 W.heap.size gE ea) hS.ours hS.both hS.out hS.left ho rfl (λh=>by cases h) rfl hfn hname hbody hF (vs:=vs.toArray) (by rw[AG,List.map_map];exact congrArg _ h1) (λv hv=>h2 v (AF.1 hv)) (R:=λv x=>R v x/\HG z x)
  (λv x y e h=>⟨hR v x y e h.1,h.2.heap e⟩) (λX eX=>(hc X eX).mono (λe x h=>?_)) (λv w' z' h3 h4 h5 h6=>next v w' z' (hS.step h3 h4 h6.2) h6.2 h6.1 _ (s.put ht (.inr h5)))
 cases e with
 |returned v=>exact⟨h.1,(HG.of h.2).from eX.symm⟩
 |_=>exact h.elim
theorem qm.vq(h:qm W ea pv cv qa l M Sh Fz T n w z):W.heap.size<=z.heap.size:=by rw[show z.heap.size=w.heap.size from h.both.size];exact h.old.size
theorem q6t{A1 A2:Option Addr}{n1 n2 n3 c3 n4 c4:Nat}(hg:gE<W.heap.size)(hS:qm W ea pv cv qa l M Sh Fz T n w z)(s:qq (gr2 W.heap.size gE ea) XL NT ts L)(ho:ops[i]?=some ⟨some t,.alloc 29,ty,ps,af,none⟩)(ho2:ops[i+1]?=some ⟨none,.store 29 (.tmp t) (.tmp u),ty2,ps2,af2,none⟩)(hl:L.lookup u=some (.agg #[.slice A1 n1 c1,.slice A2 n2 c2,.slice A3 n3 c3,.slice A4 n4 c4]))(hx:(!XL t && !XL u&&t != u)=true)(ht:AN t NT=true)
   (next:∀w' z' R,qm W ea pv cv qa l M Sh Fz T n w' z'->HG z z'->z.heap.size<=R->Blk z' R 29 #[.slice A1 n1 c1,.slice A2 n2 c2,.slice A3 n3 c3,.slice A4 n4 c4]->(∀c b,qL z b (.agg #[.slice A1 n1 c1,.slice A2 n2 c2,.slice A3 n3 c3,.slice A4 n4 c4]) c->qL z' b (.agg #[.slice A1 n1 c1,.slice A2 n2 c2,.slice A3 n3 c3,.slice A4 n4 c4]) c)->∀ts',qq (gr2 W.heap.size gE ea) XL NT ts' ((t,.pointer (some ⟨R,0,none⟩))::L)->qc prog Post Sh Fz T n 0 0 (G ((base lf).at ⟨ts',[]⟩ (.inRegion ops (AA (i+2) m)::k)) cs) w') :
   qc prog Post Sh Fz T n 0 0 (G ((base lf).at ⟨ts,[]⟩ (.inRegion ops (AA i (m+2))::k)) cs) w:=by
 simp only[Ab,Ah,bne_iff_ne,ne_eq]at hx;obtain⟨⟨x1,x2⟩,x3⟩:=hx;refine q3t (gr:=gr2 W.heap.size gE ea) hS.ours s.ok hS.both hS.O hS.L (λh=>by cases h) ho (λw4 z4 hb4 hg4 hB4 hh4 ok4=>?_);have hS4:=hS.step hb4 hh4 hg4;have s4:=s.put (v:=.pointer (some ⟨z.heap.size,0,none⟩)) ht (.inr (ok4 t _ x1 (getSet (by rw[s.size];rwa [AP]at ht))));refine q3u (gr:=gr2 W.heap.size gE ea) hS4.ours ok4 hS4.both hS4.O hS4.L (λh=>by cases h) ho2 (s4.has t _ qku) (s4.has u _ ((qrz (Ne.symm x3)).trans hl)) hB4 x1 x2 (λw5 z5 hb5 qcR hB5 hh5=>?_);have hS5:=hS4.low hg hb5 hh5 (λr hr=>qcR.block r (AO hr hS4.vq) (by have:=hS.vq;omega));exact next w5 z5 _ hS5 (HGB.hg hg4 qcR (AM _)) (AM _) hB5 (λc b h=>qcR.yI hB4 (hg4.yI h)) _ s4
end
structure qcS(lf:Ap)(NT t0:Nat)(XL:Nat->Bool):Prop where
 fn:∃fn,Ay.funcs[lf]?=some fn/\fn.results=#[.tmp t0]
 al:Fs lf=false
 ini:Ay.inits.idxOf? lf=none
 xl:XL t0=false
structure AtEnd(NT:Nat)(L:List (Nat×Ai))(R:Aj->Prop)(t:Array Ai)(x:Aj):Prop where
 size:t.size=NT
 has:Holds t L
 rest:R x
section
variable {W:Aj}{ea:Addr}{pv cv:Ai}{qa:List Node}{l:List Int}{M:Mks (gr2 W.heap.size gE ea).base}{Sh:Nat->Prop}{Fz:Loc->Prop}{T:Nat->qz}{n:Nat}{w z:Aj}{Post:Ai->Aj->Prop}
 {lf:Ap} {XL:Nat->Bool} {NT t0:Nat} {ts:Array Ai} {L:List (Nat×Ai)} {ops:Array Oper} {i m t:Nat} {ty:Am} {ps:String} {af:Array Edge} {k:List Item} {cs:List As} {ats:Array Am}
theorem qmg(F:qcS lf NT t0 XL)(hg:gE<W.heap.size)(hS:qm W ea pv cv qa l M Sh Fz T n w z)(s:qq (gr2 W.heap.size gE ea) XL NT ts L){ds:List Code}(e:c=xG ds tl)(qJ:ds.all (λc=>qe4 prog Fs Gs SN c&&j3 XL c)=true)
   (L':List (Nat×Ai)) {R:Aj->Prop} (hR:∀x y,x.heap=y.heap->R x->R y) (hc:zQ prog t0 W.heap.size (AtEnd NT L' R) ds ts z)
   (next:∀ts' w' z',qm W ea pv cv qa l M Sh Fz T n w' z'->qq (gr2 W.heap.size gE ea) XL NT ts' L'->R z'->qc prog (qO W) Sh Fz T n 0 0 (G ((base lf).at ⟨ts',[]⟩ (.code tl::k)) []) w') :
   qc prog (qO W) Sh Fz T n 0 0 (G ((base lf).at ⟨ts,[]⟩ (.code c::k)) []) w:=by
 subst e;obtain⟨fn,h1,h2⟩:=F.fn;exact q0d hg h1 F.al F.ini h2 F.xl (λt x y e h=>⟨h.1,h.2,hR x y e h.3⟩) qJ hS s.ok hc (λts' w' z' h3 h4 h5=>next ts' w' z' h3 ⟨h4,h5.1,h5.2.at⟩ h5.3)
theorem qpg(F:qcS lf NT t0 XL)(hg:gE<W.heap.size)(hS:qm W ea pv cv qa l M Sh Fz T n w z)(s:qq (gr2 W.heap.size gE ea) XL NT ts L)(qJ:(qe4 prog Fs Gs SN c&&j3 XL c)=true)
   (L':List (Nat×Ai)) {R:Aj->Prop} (hR:∀x y,x.heap=y.heap->R x->R y) (hc:∀X,z.heap=X.heap->c.wp prog (Onto t0 W.heap.size (AtEnd NT L' R) X) ⟨ts,[]⟩ X)
   (next:∀ts' w' z',qm W ea pv cv qa l M Sh Fz T n w' z'->qq (gr2 W.heap.size gE ea) XL NT ts' L'->R z'->qc prog (qO W) Sh Fz T n 0 0 (G ((base lf).at ⟨ts',[]⟩ k) []) w') :
   qc prog (qO W) Sh Fz T n 0 0 (G ((base lf).at ⟨ts,[]⟩ (.code c::k)) []) w:=by
 obtain⟨fn,h1,h2⟩:=F.fn;rw[Ab]at qJ
 exact qry hS hg h1 F.al F.ini h2 F.xl s.ok qJ (Q:=λt x=>(∀r,r<W.heap.size->x.heap[r]?=z.heap[r]?)/\AtEnd NT L' R t x) (λt x y e h=>⟨λr hr=>by rw[<-e];exact h.1 r hr,h.2.1,h.2.2,hR x y e h.2.3⟩) (λt x h=>h.1)
  (λX eX=>wp_mono (hc X eX) (λe a y h=>by rw[eX];exact h)) (λts' w' z' h3 h4 h5=>next ts' w' z' h3 ⟨h4,h5.2.1,h5.2.2.at⟩ h5.2.3)
theorem q1b{p0 p1 p2:Nat}{nw:Int}(hS:qm W ea pv cv qa l M Sh Fz T n w z)(hp:RN z x0 qa)(hl:RI z x2 l)(hx:∀x∈l,x<9223372036854775808)(hn:n<=900)(s:qq (gr2 W.heap.size gE ea) XL NT ts L)
   (ho:ops[i]?=some ⟨some t,.call {callee:=.value (.func 13),args:=#[.tmp p0,.tmp p1,.tmp p2],argTypes:=ats},ty,ps,af,none⟩) (l0:L.lookup p0=some x0) (l1:L.lookup p1=some (.int .i64 nw)) (l2:L.lookup p2=some x2) (hxl:(!XL p0 && !XL p2)=true) (ht:AN t NT=true)
   (next:∀w' z' M' Sh' Fz' T' n' A1 m1 c1 A2 m2 c2 A3 m3 c3 A4 m4 c4,qm W ea pv cv qa l M' Sh' Fz' T' n' w' z'->n'<=n+4->HG z z'->qL z' z.heap.size (.agg #[.slice A1 m1 c1,.slice A2 m2 c2,.slice A3 m3 c3,.slice A4 m4 c4]) ((qap qa nw l).getD qdj) ->
    ∀ts',qq (gr2 W.heap.size gE ea) XL NT ts' ((t,.tuple #[.agg #[.slice A1 m1 c1,.slice A2 m2 c2,.slice A3 m3 c3,.slice A4 m4 c4],.bool (qap qa nw l).isSome])::L) ->
    qc prog Post Sh' Fz' T' n' 0 0 (G ((base lf).at ⟨ts',[]⟩ (.inRegion ops (AA (i+1) m)::k)) cs) w') :
   qc prog Post Sh Fz T n 0 0 (G ((base lf).at ⟨ts,[]⟩ (.inRegion ops (AA i (m+1))::k)) cs) w:=by
 simp only[Ab,Ah]at hxl;refine qga (c:=qcz) ho rfl (λh=>by cases h) rfl func13 (by kernel_rfl) rfl ?_
 have h3:#[Ax p0,.tmp p1,.tmp p2].map (Act.mk ts []).eval=#[x0,.int .i64 nw,x2]:=by
  rw[AG];simp only[AB,AD];rw[qct (s.has _ _ l0),qct (s.has _ _ l1),qct (s.has _ _ l2)]
 rw[h3,q0f x0 (.int .i64 nw) x2 _ ntmps13];refine qz5 (gr:=gr2 W.heap.size gE ea) (λM=>qeV M) hS.both hp hl hS.err (s.okv l0 hxl.1) (s.okv l2 hxl.2) hx hS.out hS.left hS.n0 (by omega) (λw1 z1 M1 Sh1 Fz1 T1 n1' v hle hb1 hg1 O1 hs1 hh1 hT1 hn1 hn2 okv hF=>?_);obtain⟨A1,m1,c1,A2,m2,c2,A3,m3,c3,A4,m4,c4,rfl⟩:=hF.form;rw[Frame.finish_at,ho]
 exact next w1 z1 M1 Sh1 Fz1 T1 n1' A1 m1 c1 A2 m2 c2 A3 m3 c3 A4 m4 c4 (hS.qjR hle hb1 hg1 O1 hs1 hh1 hT1 hn1 (by omega)) hn2 hg1 hF _ (s.put ht (.inr (.tuple (λy hy=>by
  simp only[AF,AI,List.not_mem_nil,or_false]at hy;rcases hy with rfl|rfl
  . exact okv
  . exact .bool _))))
end
structure ZH(lo hi:Nat)(z x:Aj):Prop where
 size:z.heap.size<=x.heap.size
 block:∀i,i<z.heap.size->(i<lo∨hi<=i)->x.heap[i]?=z.heap[i]?
section
variable {lo hi lo' hi' n R b W':Nat}{x y z z1:Aj}{c:qj}{v:Ai}
theorem ZH.of(h:Zn lo hi z x):ZH lo hi z x:=⟨h.size,h.block⟩
theorem ZH.zn(h:ZH lo hi z x):Zn lo hi z {z with heap:=x.heap}:=⟨rfl,rfl,rfl,h.size,h.block⟩
theorem HG.zh(h:HG z1 z)(k:ZH lo hi z x)(hl:z1.heap.size<=lo):HG z1 x:=⟨AL h.size k.size,λi hi=>(k.block i (AO hi h.size) (.inl (by omega))).trans (h.block i hi)⟩
theorem q0v(h:HG z x)(hs:W'<=z.heap.size):∀r,r<W'->x.heap[r]?=z.heap[r]?:=λr hr=>h.block r (AO hr hs)
theorem q5a(h:ZH lo hi z x)(hs:W'<=z.heap.size)(hl:W'<=lo):∀r,r<W'->x.heap[r]?=z.heap[r]?:=λr hr=>h.block r (AO hr hs) (.inl (by omega))
theorem CV.heap(e:x.heap=y.heap)(h:CV x v c):CV y v c:=by
 have k:CV x v c=CV {y with heap:=x.heap} v c:=rfl;rw[k,e]at h;exact h
theorem qjV(h:HG x y)(k:CV x v c):CV y v c:=CV.heap (x:={x with heap:=y.heap}) rfl (k.new h.gb)
theorem WNd.heap(e:x.heap=y.heap)(h:WNd x lo hi v n):WNd y lo hi v n:=by
 have k:WNd x lo hi v n=WNd {y with heap:=x.heap} lo hi v n:=rfl;rw[k,e]at h;exact h
theorem WI.heap(e:x.heap=y.heap)(h:WI x lo hi v n):WI y lo hi v n:=by
 have k:WI x lo hi v n=WI {y with heap:=x.heap} lo hi v n:=rfl;rw[k,e]at h;exact h
theorem q8q(h:WNd x lo hi v n)(k:HG x y):WNd y lo hi v n:=(h.mi (MI.xw (lo:=0) (hi:=0) k.gb)).heap (x:={x with heap:=y.heap}) rfl
theorem qjW(h:WI x lo hi v n)(k:HG x y):WI y lo hi v n:=(h.mi (MI.xw (lo:=0) (hi:=0) k.gb)).heap (x:={x with heap:=y.heap}) rfl
theorem qjX(h:WI x lo hi v n)(k:ZH lo' hi' x y)(hb:hi'<=lo):WI y lo hi v n:=(h.xS k.zn hb).heap (x:={x with heap:=y.heap}) rfl
theorem q9m(h:qL x b v c)(k:ZH lo hi x y)(hb:hi<=b):qL y b v c:=qL.heap (x:={x with heap:=y.heap}) rfl (h.xS k.zn hb)
def jd(x:Aj)(R:Nat)(c:qj):Prop:=∃A1 m1 c1 A2 m2 c2 A3 m3 c3 A4 m4 c4,jv x R (.slice A1 m1 c1) (.slice A2 m2 c2) (.slice A3 m3 c3) (.slice A4 m4 c4) c
theorem qup{A1 A2:Option Addr}{m1 m2 m3 c3 m4 c4:Nat}(h:CV x (.agg #[.slice A1 m1 c1,.slice A2 m2 c2,.slice A3 m3 c3,.slice A4 m4 c4]) c)(hB:Blk x R 29 #[.slice A1 m1 c1,.slice A2 m2 c2,.slice A3 m3 c3,.slice A4 m4 c4]):jd x R c:=by
 obtain⟨d',k',o',r',e,h1,h2,h3,h4⟩:=h;injection e with e;injection e with e;injection e with e1 e;injection e with e2 e;injection e with e3 e;injection e with e4 e;subst e1 e2 e3 e4;exact⟨_,_,_,_,_,_,_,_,_,_,_,_,hB,h1,h2,h3,h4⟩
theorem qfc(h:jd x R c)(k:HG x y):jd y R c:=by
 obtain⟨A1,m1,c1,A2,m2,c2,A3,m3,c3,A4,m4,c4,b⟩:=h;exact⟨_,_,_,_,_,_,_,_,_,_,_,_,k.box b⟩
theorem jd.heap(h:jd x R c)(e:x.heap=y.heap):jd y R c:=qfc h (qdm e.symm)
structure j4(zt z:Aj)(h0 h1 h2:Nat)(x0 x2:Ai)(qa:List Node)(l:List Int):Prop where
 hz:HG zt z
 lt:zt.heap.size<=h0
 rn:RN z x0 qa
 ri:RI z x2 l
 wn:WNd z h0 h1 x0 qa.length
 wi:WI z h1 h2 x2 l.length
 le1:h0<=h1
 le2:h1<=h2
 le3:h2<=z.heap.size
theorem j4.hg{qa:List Node}{l:List Int}(h:j4 zt x h0 h1 h2 x0 x2 qa l)(k:HG x y):j4 zt y h0 h1 h2 x0 x2 qa l:=
 ⟨h.hz.trans k,h.lt,k.rn h.rn,k.ri h.ri,q8q h.wn k,qjW h.wi k,h.le1,h.le2,AL h.le3 k.size⟩
end
def ve(t:Nat):Bool:=[0,2,19,22,28,31,36,38,57,62,97,100].contains t
noncomputable def jo:Code:=Az.body.getD .skip
theorem xh:qcS 11 122 6 ve:=⟨⟨_,func11,rfl⟩,by kernel_rfl,by kernel_rfl,rfl⟩
def ji(x:Aj)(R b:Nat)(c:qj):Prop:=∃A1 m1 c1 A2 m2 c2 A3 m3 c3 A4 m4 c4,Blk x R 29 #[.slice A1 m1 c1,.slice A2 m2 c2,.slice A3 m3 c3,.slice A4 m4 c4]/\qL x b (.agg #[.slice A1 m1 c1,.slice A2 m2 c2,.slice A3 m3 c3,.slice A4 m4 c4]) c
theorem ji.xH{c:qj}(h:ji x R b c):jd x R c:=by
 obtain⟨A1,m1,c1,A2,m2,c2,A3,m3,c3,A4,m4,c4,b1,b2⟩:=h;exact qup b2.cv b1
theorem ji.hg{c:qj}(h:ji x R b c)(k:HG x y):ji y R b c:=by
 obtain⟨A1,m1,c1,A2,m2,c2,A3,m3,c3,A4,m4,c4,b1,b2⟩:=h;exact⟨_,_,_,_,_,_,_,_,_,_,_,_,k.blk b1,k.yI b2⟩
theorem ji.zh{lo hi:Nat}{c:qj}(h:ji x R b c)(k:ZH lo hi x y)(hb:hi<=b)(hR:hi<=R):ji y R b c:=by
 obtain⟨A1,m1,c1,A2,m2,c2,A3,m3,c3,A4,m4,c4,b1,b2⟩:=h;exact⟨_,_,_,_,_,_,_,_,_,_,_,_,Blk.heap (x:={x with heap:=y.heap}) rfl (b1.xS k.zn (.inr hR)),q9m b2 k hb⟩
section
variable {W:Aj}{ea:Addr}{pv cv:Ai}{nw:Int}{qa:List Node}{l:List Int}{M:Mks (gr2 W.heap.size gE ea).base}{Sh:Nat->Prop}{Fz:Loc->Prop}{T:Nat->qz}{n:Nat}{w z:Aj}{ts:Array Ai}
set_option maxRecDepth 20000
set_option maxHeartbeats 3200000
theorem q5b(S:Start W ea)(hN:jM W.heap.size W pv qa)(hI:qY W.heap.size W cv l)
   (next:∀ts w z M,qm W ea pv cv qa l M (λ_=>False) (λ_=>False) (λ_=>.left) 1 w z->qq (gr2 W.heap.size gE ea) ve 122 ts [(0,pv),(1,.int .i64 nw),(2,cv)]->qlc qa->l.length<=1048576->qc prog (qO W) (λ_=>False) (λ_=>False) (λ_=>.left) 1 0 0 (G ((base 11).at ⟨ts,[]⟩ [.code (qdn 5 jo)]) []) w) :
   qc prog (qO W) (λ_=>False) (λ_=>False) (λ_=>.left) 1 0 0 (G (Frame.enter prog 11 #[pv,.int .i64 nw,cv] .normal) []) W:=by
 have hg:gE<W.heap.size:=qmi S.g;have hS:=q0c (pv:=pv) (cv:=cv) (qa:=qa) (l:=l) S hN hI;obtain⟨A,kn,c,rfl,-,hkl,-⟩:=hI.form;rw[enter_at (c:=jo) _ func11 rfl];obtain⟨t0,ht0⟩:∃t0,t0=(#[pv,.int .i64 nw,.slice A kn c]++Array.replicate (Az.ntmps-(#[pv,.int .i64 nw,.slice A kn c]:Array Ai).size) undef:Array Ai):=⟨_,rfl⟩;rw[<-ht0]
 have s:qq (gr2 W.heap.size gE ea) ve 122 t0 [(0,pv),(1,.int .i64 nw),(2,.slice A kn c)]:=by
  refine⟨λt v hx hv=>?_,by rw[ht0,ntmps11];simp,Holds.at ⟨by rw[ht0];simp,by rw[ht0];simp,by rw[ht0];simp,trivial⟩⟩;by_cases h0:t=0
  . subst h0;cases hx
  by_cases h2:t=2
  . subst h2;cases hx
  by_cases h1:t=1
  . subst h1;rw[ht0]at hv;cases (show some (Value.int .i64 nw)=some v by simpa using hv);exact .int _ _
  . rw[ht0,Array.getElem?_append_right (by simp;omega)]at hv;rw[Array.eq_of_mem_replicate (Array.mem_of_getElem? hv)];exact .undef
 have Hkl:=Lib.hid hkl;clear ht0 hkl;refine qmg xh hg hS s (show jo=xG [_] (qdn 1 jo)from rfl) (by kernel_rfl) [(0,pv),(1,.int .i64 nw),(2,.slice A kn c)] (R:=(λ_=>True)) (λ_ _ _ h=>h) ?_ (λts w z hS s hR=>?_)
 . obtain⟨f,rfl,F⟩:=s.all;simp only[AE,AK,AB,AD,F 0 _ rfl rfl,F 1 _ rfl rfl,F 2 _ rfl rfl];intro X eX;go_wp2_with fail;exact .same ⟨rfl,⟨rfl,rfl,rfl,trivial⟩,trivial⟩
 refine q6r 3 (show qdn 1 jo=.seq (.seq _ (.cond (.tmp 21) (.seq _ .ret) .skip)) (qdn 2 jo)from rfl) rfl ?_;refine qg6 s rfl rfl rfl rfl (λts s=>?_);refine qjU s rfl rfl rfl rfl rfl (λts s=>qaj ?_) rfl;refine qpg xh hg hS s (by kernel_rfl) [(0,pv),(1,.int .i64 nw),(2,.slice A kn c)] (R:=λ_=>Hid (¬1048576<(kn:Int))) (λ_ _ _ h=>h) (λX eX=>?_) (λts w z hS s hkn=>?_)
 . obtain⟨f,rfl,F⟩:=s.all;simp only[AE,AK,AB,AD,F 0 _ rfl rfl,F 1 _ rfl rfl,F 2 _ rfl rfl,F 21 _ rfl rfl];by_cases hk:1048576<(kn:Int)
   . go_wp2_with fail;exact .ret (λ_ _=>rfl) rfl
   . have Hk:=Lib.hid hk;go_wp2_with fail;exact .same ⟨rfl,⟨rfl,rfl,rfl,trivial⟩,by first|exact Hk|exact Lib.hid trivial⟩
 refine qmg xh hg hS s (show qdn 2 jo=xG [_] (qdn 3 jo)from rfl) (by kernel_rfl) [(0,pv),(1,.int .i64 nw),(2,.slice A kn c),(7,.int .i64 1048576)] (R:=(λ_=>True)) (λ_ _ _ h=>h) ?_ (λts w z hS s hR=>?_)
 . obtain⟨f,rfl,F⟩:=s.all;simp only[AE,AK,AB,AD,F 0 _ rfl rfl,F 1 _ rfl rfl,F 2 _ rfl rfl];intro X eX;go_wp2_with fail;exact .same ⟨rfl,⟨rfl,rfl,rfl,rfl,trivial⟩,trivial⟩
 refine q3n 4 (show qdn 3 jo=.seq _ (qdn 4 jo)from rfl) rfl ?_;refine qg6 s rfl rfl rfl rfl (λts s=>?_);refine qg6 s rfl rfl rfl rfl (λts s=>?_);refine q97 hS s rfl rfl rfl rfl (λw z M x hS hx ts s=>?_);refine q3o s rfl rfl rfl rfl (λts s=>?_);refine qaj ?_;refine qmg xh hg hS s (show qdn 4 jo=xG [_] (qdn 5 jo)from rfl) (by kernel_rfl) [(0,pv),(1,.int .i64 nw),(2,.slice A kn c)] (R:=(λ_=>Hid (0<=x))) (λ_ _ _ h=>h) ?_ (λts w z hS s hR=>?_)
 . obtain⟨f,rfl,F⟩:=s.all;simp only[AE,AK,AB,AD,F 0 _ rfl rfl,F 1 _ rfl rfl,F 2 _ rfl rfl,F 7 _ rfl rfl];intro X eX;rcases Int.lt_or_le x 0 with h|h
   . go_wp2_with fail;exact .ret (λ_ _=>rfl) rfl
   . have hn:¬x<0:=by omega
     have Hk:=Lib.hid h;clear h;go_wp2_with fail;exact .same ⟨rfl,⟨rfl,rfl,rfl,trivial⟩,by first|exact Hk|exact Lib.hid trivial⟩
 exact next ts w z M hS s (hx hR.out) (by have:=hkn.out;have:=Hkl.out;omega)
theorem q7n(hg:gE<W.heap.size)(hf:qlc qa)(hl:l.length<=1048576)(hS:qm W ea pv cv qa l M Sh Fz T n w z)(s:qq (gr2 W.heap.size gE ea) ve 122 ts [(0,pv),(1,.int .i64 nw),(2,cv)])
   (next:∀ts w z M Z zt x0 x2 h0 h1 h2,qm W ea pv cv qa l M Sh Fz T n w z->qq (gr2 W.heap.size gE ea) ve 122 ts [(0,pv),(1,.int .i64 nw),(2,cv),(8,.pointer (some ⟨Z,0,none⟩)),(9,.bool (qap qa nw l).isSome),(10,x0),(11,x2)]->jd zt Z ((qap qa nw l).getD qdj)->j4 zt z h0 h1 h2 x0 x2 qa l->W.heap.size<=h0->qc prog (qO W) Sh Fz T n 0 0 (G ((base 11).at ⟨ts,[]⟩ [.code (qdn 8 jo)]) []) w):qc prog (qO W) Sh Fz T n 0 0 (G ((base 11).at ⟨ts,[]⟩ [.code (qdn 5 jo)]) []) w:=by
 refine q3n 12 (show qdn 5 jo=.seq _ (qdn 6 jo)from rfl) rfl ?_;refine qg6 s rfl rfl rfl rfl (λts s=>?_);refine qpf hS hf s rfl rfl rfl (λw1 z1 M1 v1 hS1 hg1 hD1 ts s=>?_);refine qg6 s rfl rfl rfl rfl (λts s=>?_);refine qg6 s rfl rfl rfl rfl (λts s=>?_);refine qva hS1 hl s rfl rfl rfl (λw2 z2 M2 v2 hS2 hg2 hI2 ts s=>?_);have hrn:=hg2.rn hD1.rn
 refine q6s hS2 s rfl func14 (by kernel_rfl) rfl (by kernel_rfl) rfl [29,30,32] rfl (vs:=[v1,.int .i64 nw,v2]) rfl rfl (R:=λv x=>∃u,v=.tuple #[u,.bool (qap qa nw l).isSome]/\CV x u ((qap qa nw l).getD qdj)) (λv x y e ⟨u,h1,h2⟩=>⟨u,h1,h2.heap e⟩)
  (λX eX=>(qkp v1 v2 qa nw l X (hrn.heap eX) (hI2.ri.heap eX) (by have:=hf.1;omega) (by omega)).mono (λe x hT=>by
   obtain⟨v,rfl,hcv,hgx⟩:=hT.open_;exact⟨⟨v,rfl,hcv⟩,hgx⟩)) (λv w z hS hg3 hR ts s=>?_)
 obtain⟨u,rfl,hcv⟩:=hR;generalize (qap qa nw l).getD qdj=c at hcv next;generalize (qap qa nw l).isSome=bs at next s;obtain⟨Y1,Yn1,Yc1,Y2,Yn2,Yc2,Y3,Yn3,Yc3,Y4,Yn4,Yc4,rfl,-,-,-,-⟩:=hcv.form;refine qg6 s rfl rfl rfl rfl (λts s=>?_);refine q3p s rfl rfl rfl rfl rfl (λts s=>?_);refine q3p s rfl rfl rfl rfl rfl (λts s=>?_);refine q6t hg hS s rfl rfl rfl rfl rfl (λw z Z hS hg4 _ hB _ ts s=>?_);refine q3o s rfl rfl rfl rfl (λts s=>?_);refine qaj ?_;have hZ:=qup (qjV hg4 hcv) hB;refine q3n 3 (show qdn 6 jo=.seq _ (qdn 7 jo)from rfl) rfl ?_;refine qg6 s rfl rfl rfl rfl (λts s=>?_);refine qpf hS hf s rfl rfl rfl (λw5 z5 M5 v5 hS5 hg5 hD5 ts s=>?_);refine q3o s rfl rfl rfl rfl (λts s=>?_);refine qaj ?_;refine q3n 3 (show qdn 7 jo=.seq _ (qdn 8 jo)from rfl) rfl ?_;refine qg6 s rfl rfl rfl rfl (λts s=>?_);refine qva hS5 hl s rfl rfl rfl (λw6 z6 M6 v6 hS6 hg6 hI6 ts s=>?_);refine q3o s rfl rfl rfl rfl (λts s=>?_);refine qaj ?_;exact next ts w6 z6 M6 Z z v5 v6 z.heap.size z5.heap.size z6.heap.size hS6 (s.keep ⟨rfl,rfl,rfl,rfl,rfl,rfl,rfl,trivial⟩) hZ ⟨hg5.trans hg6,AM _,hg6.rn hD5.rn,hI6.ri,q8q (hD5.wnd (AM _) (AM _) hf) hg6,hI6.wi (AM _) (AM _) hl,hg5.size,hg6.size,AM _⟩ hS.vq
theorem q7o(hg:gE<W.heap.size)(hx:∀x∈l,x<9223372036854775808)(hn:n<=900)(hS:qm W ea pv cv qa l M Sh Fz T n w z)(s:qq (gr2 W.heap.size gE ea) ve 122 ts [(0,pv),(1,.int .i64 nw),(2,cv),(8,.pointer (some ⟨Z,0,none⟩)),(9,.bool (qap qa nw l).isSome),(10,x0),(11,x2)])(hZ:jd zt Z ((qap qa nw l).getD qdj))(hC:j4 zt z h0 h1 h2 x0 x2 qa l)
   (next:∀ts w z M Sh Fz T n' R,qm W ea pv cv qa l M Sh Fz T n' w z->n'<=n+4->qq (gr2 W.heap.size gE ea) ve 122 ts [(0,pv),(1,.int .i64 nw),(2,cv),(8,.pointer (some ⟨Z,0,none⟩)),(9,.bool (qap qa nw l).isSome),(10,x0),(11,x2),(12,.pointer (some ⟨R,0,none⟩)),(13,.bool (qap qa nw l).isSome)]->j4 zt z h0 h1 h2 x0 x2 qa l->ji z R h2 ((qap qa nw l).getD qdj)->h2<=R->qc prog (qO W) Sh Fz T n' 0 0 (G ((base 11).at ⟨ts,[]⟩ [.code (qdn 10 jo)]) []) w):qc prog (qO W) Sh Fz T n 0 0 (G ((base 11).at ⟨ts,[]⟩ [.code (qdn 8 jo)]) []) w:=by
 refine q3n 10 (show qdn 8 jo=.seq _ (qdn 9 jo)from rfl) rfl ?_;refine qg6 s rfl rfl rfl rfl (λts s=>?_);refine qg6 s rfl rfl rfl rfl (λts s=>?_);refine qg6 s rfl rfl rfl rfl (λts s=>?_);refine q1b hS hC.rn hC.ri hx hn s rfl rfl rfl rfl rfl rfl (λw z M Sh Fz T n' A1 m1 c1 A2 m2 c2 A3 m3 c3 A4 m4 c4 hS hn' hg1 hF ts s=>?_);refine qg6 s rfl rfl rfl rfl (λts s=>?_);refine q3p s rfl rfl rfl rfl rfl (λts s=>?_);refine q3p s rfl rfl rfl rfl rfl (λts s=>?_);refine q6t hg hS s rfl rfl rfl rfl rfl (λw z R hS hg2 hR hB hO ts s=>?_);refine q3o s rfl rfl rfl rfl (λts s=>?_);refine qaj ?_;have hF:ji z R h2 ((qap qa nw l).getD qdj):=⟨_,_,_,_,_,_,_,_,_,_,_,_,hB,(hO _ _ hF).low hC.le3⟩;have hR2:h2<=R:=AL hC.le3 (AL hg1.size hR);replace hC:=hC.hg (hg1.trans hg2);generalize (qap qa nw l).getD qdj=c at hZ hF next;generalize (qap qa nw l).isSome=bs at next s;refine qmg xh hg hS s (show qdn 9 jo=xG [_] (qdn 10 jo)from rfl) (by kernel_rfl) [(0,pv),(1,.int .i64 nw),(2,cv),(8,.pointer (some ⟨Z,0,none⟩)),(9,.bool bs),(10,x0),(11,x2),(12,.pointer (some ⟨R,0,none⟩)),(13,.bool bs)] (R:=(HG z)) (λ_ _ e h=>h.heap e) ?_ (λts w z hS s hR=>?_)
 . obtain⟨f,rfl,F⟩:=s.all;simp only[AE,AK,AB,AD,F 0 _ rfl rfl,F 1 _ rfl rfl,F 2 _ rfl rfl,F 8 _ rfl rfl,F 9 _ rfl rfl,F 10 _ rfl rfl,F 11 _ rfl rfl,F 12 _ rfl rfl,F 13 _ rfl rfl];intro X eX;obtain⟨Y1,Yn1,Yc1,Y2,Yn2,Yc2,Y3,Yn3,Yc3,Y4,Yn4,Yc4,hY⟩:=hF.xH.heap eX;obtain⟨V1,Vn1,Vc1,V2,Vn2,Vc2,V3,Vn3,Vc3,V4,Vn4,Vc4,hV⟩:=(qfc hZ hC.hz).heap eX;have y0:=hY.d0;have y1:=hY.d1;have y2:=hY.d2;have y3:=hY.d3;have v0:=hV.d0;have v1:=hV.d1;have v2:=hV.d2;have v3:=hV.d3;go_wp2_with fail;refine(qm4 _ _ c X hY.cv hV.cv).mono ?_;rintro e w1 ⟨rfl,hg1⟩;go_wp2_with fail;have k:=HG.of hg1;exact .go (q0v k (eX▸hS.vq)) ⟨rfl,⟨rfl,rfl,rfl,rfl,rfl,rfl,rfl,rfl,rfl,trivial⟩,k.from eX.symm⟩
 exact next ts w z M Sh Fz T n' R hS hn' s (hC.hg hR) (hF.hg hR) hR2
theorem q5c(hg:gE<W.heap.size)(hf:qlc qa)(hS:qm W ea pv cv qa l M Sh Fz T n w z)(s:qq (gr2 W.heap.size gE ea) ve 122 ts [(0,pv),(1,.int .i64 nw),(2,cv),(8,.pointer (some ⟨Z,0,none⟩)),(9,.bool (qap qa nw l).isSome),(10,x0),(11,x2),(12,.pointer (some ⟨R,0,none⟩)),(13,.bool (qap qa nw l).isSome)])(hC:j4 zt z h0 h1 h2 x0 x2 qa l)(hF:ji z R h2 ((qap qa nw l).getD qdj))
   (next:∀ts w z M,qm W ea pv cv qa l M Sh Fz T n w z->qq (gr2 W.heap.size gE ea) ve 122 ts [(0,pv),(1,.int .i64 nw),(2,cv),(8,.pointer (some ⟨Z,0,none⟩)),(9,.bool (qap qa nw l).isSome),(10,x0),(11,x2),(12,.pointer (some ⟨R,0,none⟩)),(13,.bool (qap qa nw l).isSome)]->j4 zt z h0 h1 h2 x0 x2 qa l->ji z R h2 ((qap qa nw l).getD qdj)->qc prog (qO W) Sh Fz T n 0 0 (G ((base 11).at ⟨ts,[]⟩ [.code (qdn 11 jo)]) []) w):qc prog (qO W) Sh Fz T n 0 0 (G ((base 11).at ⟨ts,[]⟩ [.code (qdn 10 jo)]) []) w:=by
 refine q6r 5 (show qdn 10 jo=.seq (.seq _ (.cond (.tmp 60) (.seq _ .ret) .skip)) (qdn 11 jo)from rfl) rfl ?_;refine qg6 s rfl rfl rfl rfl (λts s=>?_);refine qg6 s rfl rfl rfl rfl (λts s=>?_);refine qpf hS hf s rfl rfl rfl (λw1 z1 M1 v1 hS1 hg1 hD1 ts s=>?_)
 refine q6s hS1 s rfl func30 (by kernel_rfl) rfl (by kernel_rfl) rfl [56,58] rfl (vs:=[x0,v1]) rfl rfl (R:=fun v _=>v=.bool true) (fun _ _ _ _ h=>h) (fun X eX=>(qyl x0 v1 qa X ((hg1.rn hC.rn).heap eX) (hD1.rn.heap eX)).mono (fun e x h=>by
     obtain⟨rfl,hgx⟩:=h;exact⟨rfl,hgx⟩)) (λv w z hS hg2 hv ts s=>?_)
 subst hv;refine q83 s rfl rfl rfl (λts s=>qaj ?_);refine qpg xh hg hS s (by kernel_rfl) [(0,pv),(1,.int .i64 nw),(2,cv),(8,.pointer (some ⟨Z,0,none⟩)),(9,.bool (qap qa nw l).isSome),(10,x0),(11,x2),(12,.pointer (some ⟨R,0,none⟩)),(13,.bool (qap qa nw l).isSome)] (R:=HG z) (λ_ _ e h=>h.heap e) (λX eX=>?_) (λts w z hS s hR=>next ts w z M1 hS s (((hC.hg hg1).hg hg2).hg hR) (((hF.hg hg1).hg hg2).hg hR));obtain⟨f,rfl,F⟩:=s.all;clear next hF hC s;simp only[AE,AK,AB,AD,F 0 _ rfl rfl,F 1 _ rfl rfl,F 2 _ rfl rfl,F 8 _ rfl rfl,F 9 _ rfl rfl,F 10 _ rfl rfl,F 11 _ rfl rfl,F 12 _ rfl rfl,F 13 _ rfl rfl,F 60 _ rfl rfl];go_wp2_with fail;exact .same ⟨rfl,⟨rfl,rfl,rfl,rfl,rfl,rfl,rfl,rfl,rfl,trivial⟩,qdm eX.symm⟩
theorem q5d(hg:gE<W.heap.size)(hl:l.length<=1048576)(hS:qm W ea pv cv qa l M Sh Fz T n w z)(s:qq (gr2 W.heap.size gE ea) ve 122 ts [(0,pv),(1,.int .i64 nw),(2,cv),(8,.pointer (some ⟨Z,0,none⟩)),(9,.bool (qap qa nw l).isSome),(10,x0),(11,x2),(12,.pointer (some ⟨R,0,none⟩)),(13,.bool (qap qa nw l).isSome)])(hC:j4 zt z h0 h1 h2 x0 x2 qa l)(hF:ji z R h2 ((qap qa nw l).getD qdj))
   (next:∀ts w z M,qm W ea pv cv qa l M Sh Fz T n w z->qq (gr2 W.heap.size gE ea) ve 122 ts [(0,pv),(1,.int .i64 nw),(2,cv),(8,.pointer (some ⟨Z,0,none⟩)),(9,.bool (qap qa nw l).isSome),(10,x0),(11,x2),(12,.pointer (some ⟨R,0,none⟩)),(13,.bool (qap qa nw l).isSome)]->j4 zt z h0 h1 h2 x0 x2 qa l->ji z R h2 ((qap qa nw l).getD qdj)->qc prog (qO W) Sh Fz T n 0 0 (G ((base 11).at ⟨ts,[]⟩ [.code (qdn 12 jo)]) []) w):qc prog (qO W) Sh Fz T n 0 0 (G ((base 11).at ⟨ts,[]⟩ [.code (qdn 11 jo)]) []) w:=by
 refine q6r 5 (show qdn 11 jo=.seq (.seq _ (.cond (.tmp 65) (.seq _ .ret) .skip)) (qdn 12 jo)from rfl) rfl ?_;refine qg6 s rfl rfl rfl rfl (λts s=>?_);refine qg6 s rfl rfl rfl rfl (λts s=>?_);refine qva hS hl s rfl rfl rfl (λw1 z1 M1 v1 hS1 hg1 hI1 ts s=>?_)
 refine q6s hS1 s rfl func29 (by kernel_rfl) rfl (by kernel_rfl) rfl [61,63] rfl (vs:=[x2,v1]) rfl rfl (R:=fun v _=>v=.bool true) (fun _ _ _ _ h=>h) (fun X eX=>(qf7 x2 v1 l X ((hg1.ri hC.ri).heap eX) (hI1.ri.heap eX)).mono (fun e x h=>by
     obtain⟨rfl,hgx⟩:=h;exact⟨rfl,hgx⟩)) (λv w z hS hg2 hv ts s=>?_)
 subst hv;refine q83 s rfl rfl rfl (λts s=>qaj ?_);refine qpg xh hg hS s (by kernel_rfl) [(0,pv),(1,.int .i64 nw),(2,cv),(8,.pointer (some ⟨Z,0,none⟩)),(9,.bool (qap qa nw l).isSome),(10,x0),(11,x2),(12,.pointer (some ⟨R,0,none⟩)),(13,.bool (qap qa nw l).isSome)] (R:=HG z) (λ_ _ e h=>h.heap e) (λX eX=>?_) (λts w z hS s hR=>next ts w z M1 hS s (((hC.hg hg1).hg hg2).hg hR) (((hF.hg hg1).hg hg2).hg hR));obtain⟨f,rfl,F⟩:=s.all;clear next hF hC s;simp only[AE,AK,AB,AD,F 0 _ rfl rfl,F 1 _ rfl rfl,F 2 _ rfl rfl,F 8 _ rfl rfl,F 9 _ rfl rfl,F 10 _ rfl rfl,F 11 _ rfl rfl,F 12 _ rfl rfl,F 13 _ rfl rfl,F 65 _ rfl rfl];go_wp2_with fail;exact .same ⟨rfl,⟨rfl,rfl,rfl,rfl,rfl,rfl,rfl,rfl,rfl,trivial⟩,qdm eX.symm⟩
theorem q5e{c:qj}{bs:Bool}(hg:gE<W.heap.size)(hfn:qlc qa)(hf:q2q c)(hsz:qg4 c<=1000000000)(hW:W.heap.size<=h0)(hS:qm W ea pv cv qa l M Sh Fz T n w z)(s:qq (gr2 W.heap.size gE ea) ve 122 ts [(0,pv),(1,.int .i64 nw),(2,cv),(8,.pointer (some ⟨Z,0,none⟩)),(9,.bool bs),(10,x0),(11,x2),(12,.pointer (some ⟨R,0,none⟩)),(13,.bool bs)])(hZ:jd zt Z c)(hC:j4 zt z h0 h1 h2 x0 x2 qa l)(hF:ji z R h2 c)(hR:h2<=R)
   (next:∀ts w z,qm W ea pv cv qa l M Sh Fz T n w z->qq (gr2 W.heap.size gE ea) ve 122 ts [(0,pv),(1,.int .i64 nw),(2,cv),(8,.pointer (some ⟨Z,0,none⟩)),(9,.bool bs),(12,.pointer (some ⟨R,0,none⟩)),(15,.int .i64 (1+qg4 c:Nat))]->jd z Z c->jd z R (qn4 1 c)->qc prog (qO W) Sh Fz T n 0 0 (G ((base 11).at ⟨ts,[]⟩ [.code (qdn 22 jo)]) []) w):qc prog (qO W) Sh Fz T n 0 0 (G ((base 11).at ⟨ts,[]⟩ [.code (qdn 12 jo)]) []) w:=by
 refine qmg xh hg hS s (show qdn 12 jo=xG [_,_,_,_,_,_,_,_,_,_] (qdn 22 jo)from rfl) (by kernel_rfl) [(0,pv),(1,.int .i64 nw),(2,cv),(8,.pointer (some ⟨Z,0,none⟩)),(9,.bool bs),(12,.pointer (some ⟨R,0,none⟩)),(15,.int .i64 (1+qg4 c:Nat))] (R:=(λx=>jd x Z c/\jd x R (qn4 1 c))) (λ_ _ e h=>⟨h.1.heap e,h.2.heap e⟩) ?_ (λts w z hS s hR=>next ts w z hS s hR.1 hR.2);obtain⟨f,rfl,F⟩:=s.all;have hzt:=hC.hz;have hle:=hC.lt;have hwn:=hC.wn;have hwi:=hC.wi;have le1:=hC.le1;have le2:=hC.le2;have hWz:=hS.vq;have hn9:=hfn.1;clear next hC s hS hfn;simp only[AE,AK,AB,AD,F 0 _ rfl rfl,F 1 _ rfl rfl,F 2 _ rfl rfl,F 8 _ rfl rfl,F 9 _ rfl rfl,F 10 _ rfl rfl,F 11 _ rfl rfl,F 12 _ rfl rfl,F 13 _ rfl rfl];intro X e1;go_wp2_with fail;refine .same ?_;intro X1 e2;replace e2:=e1.trans e2;have s1:=congrArg Array.size e2;go_wp2_with fail;refine(qze h0 h1 _ qa.length 1 X1 (hwn.heap e2) (by omega) _).mono ?_;rintro e w1 ⟨⟨k,rfl,hk⟩,hz⟩;have y1:=ZH.of hz;go_wp2_with fail;refine .go (q5a y1 (s1▸hWz) hW) ?_;have ht1:=(hzt.trans (qdm e2.symm)).zh y1 hle;have wi1:=qjX (hwi.heap e2) y1 (AM _);have F1:=(hF.hg (qdm e2.symm)).zh y1 le2 (AL le2 hR);have s2:=AL (s1▸hWz) y1.size;clear hz y1 hF hwi hwn hzt e1;intro X2 e3;have s3:W.heap.size<=X2.heap.size:=e3▸s2;go_wp2_with fail;refine(qiq h1 h2 _ l.length k X2 (wi1.heap e3) (by omega) _).mono ?_;rintro e w2 ⟨rfl,hz,-⟩;have y2:=ZH.of hz.z;go_wp2_with fail;refine .go (q5a y2 s3 (AL hW le1)) ?_;have ht2:=(ht1.trans (qdm e3.symm)).zh y2 (AL hle le1);have F2:=(F1.hg (qdm e3.symm)).zh y2 (AM _) hR;have s4:=AL s3 y2.size;clear hz y2 F1 wi1 ht1;intro X3 e4;obtain⟨Y1,Yn1,Yc1,Y2,Yn2,Yc2,Y3,Yn3,Yc3,Y4,Yn4,Yc4,hY⟩:=F2.xH.heap e4;obtain⟨V1,Vn1,Vc1,V2,Vn2,Vc2,V3,Vn3,Vc3,V4,Vn4,Vc4,hV⟩:=(qfc hZ ht2).heap e4;have y0:=hY.d0;have y1:=hY.d1;have y2:=hY.d2;have y3:=hY.d3;have v0:=hV.d0;have v1:=hV.d1;have v2:=hV.d2;have v3:=hV.d3;have hk0:¬((k+l.length:Nat):Int)<0:=by omega
 go_wp2_with fail;refine(qm4 _ _ c X3 hY.cv hV.cv).mono ?_;rintro e w3 ⟨rfl,hg3⟩;go_wp2_with fail;have y:=HG.of hg3;refine .go (q0v y (e4▸s4)) ?_;have q:=(qdm e4.symm).trans y;have ht3:=ht2.trans q;have F3:=F2.hg q;have s5:=AL s4 q.size;clear y0 y1 y2 y3 v0 v1 v2 v3 hY hV hg3 hk0 F2 ht2 y q;intro X4 e5;go_wp2_with fail;refine .same ?_;intro X5 e6;replace e6:=e5.trans e6;obtain⟨Y1,Yn1,Yc1,Y2,Yn2,Yc2,Y3,Yn3,Yc3,Y4,Yn4,Yc4,hY,hF5⟩:=F3.hg (qdm e6.symm);have y0:=hY.cell 0;have y1:=hY.cell 1;have y2:=hY.cell 2;have y3:=hY.cell 3;go_wp2_with fail;refine(qw0 h2 _ c 1 X5 hF5 hf hsz (by omega) _).mono ?_;rintro e w5 ⟨rfl,hcv,hz,hkp⟩;go_wp2_with fail;have y:=ZH.of hz;refine .go (q5a y (e6▸s5) (AL hW (AL le1 le2))) ?_;have m5:=qup hcv (hkp _ _ hY);have ht5:=(ht3.trans (qdm e6.symm)).zh y (AL hle (AL le1 le2));have s6:=AL (e6▸s5) y.size;clear y0 y1 y2 y3 hY hF5 hcv hz hkp y F3 ht3;intro X6 e7;go_wp2_with fail;refine .same ?_;intro X7 e8;replace e8:=e7.trans e8;obtain⟨Y1,Yn1,Yc1,Y2,Yn2,Yc2,Y3,Yn3,Yc3,Y4,Yn4,Yc4,hY⟩:=m5.heap e8;have y0:=hY.d0;have y1:=hY.d1;have y2:=hY.d2;have y3:=hY.d3;go_wp2_with fail;refine(qn5 _ c 1 X7 hY.cv hf hsz (by omega) _).mono ?_;rintro e w7 ⟨rfl,hg7⟩;go_wp2_with fail;refine .go (q0v (HG.of hg7) (e8▸s6)) ?_;have q:=(qdm e8.symm).trans (HG.of hg7);have m7:=qfc m5 q;have z7:=qfc hZ (ht5.trans q);clear y0 y1 y2 y3 hY hg7 q m5 ht5;intro X8 e9;have hk0:¬((1+qg4 c:Nat):Int)<0:=by omega
 go_wp2_with fail;refine .same ?_;intro X9 e10;replace e10:=e9.trans e10;go_wp2_with fail;exact .same ⟨rfl,⟨rfl,rfl,rfl,rfl,rfl,rfl,rfl,trivial⟩,z7.heap e10,m7.heap e10⟩
theorem q7p(hg:gE<W.heap.size)(hf:qlc qa)(hl:l.length<=1048576)(hx:∀x∈l,x<9223372036854775808)(hn:n<=900)(hfc:q2q ((qap qa nw l).getD qdj))(hsz:qg4 ((qap qa nw l).getD qdj)<=1000000000)(hS:qm W ea pv cv qa l M Sh Fz T n w z)(s:qq (gr2 W.heap.size gE ea) ve 122 ts [(0,pv),(1,.int .i64 nw),(2,cv),(8,.pointer (some ⟨Z,0,none⟩)),(9,.bool (qap qa nw l).isSome),(12,.pointer (some ⟨R,0,none⟩)),(15,.int .i64 (1+qg4 ((qap qa nw l).getD qdj):Nat))])
   (hZ:jd z Z ((qap qa nw l).getD qdj)) (hY:jd z R (qn4 1 ((qap qa nw l).getD qdj))):qc prog (qO W) Sh Fz T n 0 0 (G ((base 11).at ⟨ts,[]⟩ [.code (qdn 22 jo)]) []) w:=by
 refine q3n 12 (show qdn 22 jo=.seq _ (qdn 23 jo)from rfl) rfl ?_;refine qg6 s rfl rfl rfl rfl (λts s=>?_);refine qpf hS hf s rfl rfl rfl (λw1 z1 M1 v1 hS1 hg1 hD1 ts s=>?_);refine qg6 s rfl rfl rfl rfl (λts s=>?_);refine qg6 s rfl rfl rfl rfl (λts s=>?_);refine qva hS1 hl s rfl rfl rfl (λw2 z2 M2 v2 hS2 hg2 hI2 ts s=>?_);refine q1b hS2 (hg2.rn hD1.rn) hI2.ri hx hn s rfl rfl rfl rfl rfl rfl (λw z M Sh Fz T n' A1 m1 c1 A2 m2 c2 A3 m3 c3 A4 m4 c4 hS hn' hg3 hF ts s=>?_);refine qg6 s rfl rfl rfl rfl (λts s=>?_);refine q3p s rfl rfl rfl rfl rfl (λts s=>?_);refine q3p s rfl rfl rfl rfl rfl (λts s=>?_);refine q6t hg hS s rfl rfl rfl rfl rfl (λw z R2 hS hg4 _ hB hO ts s=>?_);refine q3o s rfl rfl rfl rfl (λts s=>?_);refine qaj ?_;have hU:=qup (hO _ _ hF).cv hB;have q:=((hg1.trans hg2).trans hg3).trans hg4;replace hZ:=qfc hZ q;replace hY:=qfc hY q;clear hB hO hF hD1 hI2 q hg1 hg2 hg3 hg4;generalize (qap qa nw l).getD qdj=c at hZ hY hU hfc hsz s;generalize (qap qa nw l).isSome=bs at s;refine qpg xh hg hS s (by kernel_rfl) [] (R:=λ_=>False) (λ_ _ _ h=>h) (λX eX=>?_) (λ_ _ _ _ _ h=>h.elim);have hWz:=hS.vq;obtain⟨f,rfl,F⟩:=s.all;clear s hS;simp only[AE,AK,AB,AD,F 0 _ rfl rfl,F 1 _ rfl rfl,F 2 _ rfl rfl,F 8 _ rfl rfl,F 9 _ rfl rfl,F 12 _ rfl rfl,F 15 _ rfl rfl,F 17 _ rfl rfl,F 18 _ rfl rfl];have HH:Hid (∀(v:Ai) (w:Aj),CV w v (qn4 1 c)->Calls prog 38 #[v,.int .i64 1] w λe w'=>e=.returned (.int .i64 (1+qg4 c:Nat))/\w.grownBy w' none):=λv w h1=>qn5 v c 1 w h1 hfc hsz (by omega) _;replace hY:=hY.heap eX;obtain⟨U1,Un1,Uc1,U2,Un2,Uc2,U3,Un3,Uc3,U4,Un4,Uc4,hU⟩:=hU.heap eX;obtain⟨V1,Vn1,Vc1,V2,Vn2,Vc2,V3,Vn3,Vc3,V4,Vn4,Vc4,hV⟩:=hZ.heap eX;have u0:=hU.d0;have u1:=hU.d1;have u2:=hU.d2;have u3:=hU.d3;have v0:=hV.d0;have v1:=hV.d1;have v2:=hV.d2;have v3:=hV.d3;generalize qg4 c=m at HH hsz |-;rw[show qdn 23 jo=.seq _ _ from rfl];go_wp2_with fail;refine(qm4 _ _ c X hU.cv hV.cv).mono ?_;rintro e w1 ⟨rfl,hg1⟩;obtain⟨Y1,Yn1,Yc1,Y2,Yn2,Yc2,Y3,Yn3,Yc3,Y4,Yn4,Yc4,hY⟩:=qfc hY (HG.of hg1);clear u0 u1 u2 u3 v0 v1 v2 v3;have y0:=hY.d0;have y1:=hY.d1;have y2:=hY.d2;have y3:=hY.d3;go_wp2_with fail;refine(HH.out _ w1 hY.cv).mono ?_;rintro e w2 ⟨rfl,hg2⟩;have hk:¬((1+m:Nat):Int)<0:=by omega
 go_wp2_with fail;exact .ret (q0v (HG.of (qac hg1 hg2)) (eX▸hWz)) rfl
theorem qhy(S:Start W ea)(hN:jM W.heap.size W pv qa)(hI:qY W.heap.size W cv l)(hx:∀x∈l,x<9223372036854775808) :
   qc prog (qO W) (λ_=>False) (λ_=>False) (λ_=>.left) 1 0 0 (G (Frame.enter prog 11 #[pv,.int .i64 nw,cv] .normal) []) W:=by
 have hg:gE<W.heap.size:=qmi S.g;have ff:=qw1 (qa:=qa) (R:=qap qa nw l) (λc e=>(qzo e).1);refine q5b S hN hI (λts w z M hS s hf hl=>?_);refine q7n hg hf hl hS s (λts w z M Z zt x0 x2 h0 h1 h2 hS s hZ hC hW=>?_);refine q7o hg hx (by decide) hS s hZ hC (λts w z M Sh Fz T n R hS hn s hC hF hR=>?_);refine q5c hg hf hS s hC hF (λts w z M hS s hC hF=>?_);refine q5d hg hl hS s hC hF (λts w z M hS s hC hF=>?_);refine q5e hg hf ff.1 ff.2 hW hS s hZ hC hF hR (λts w z hS s hZ hY=>?_);exact q7p hg hf hl hx (by omega) ff.1 ff.2 hS s hZ hY
end
end
end Go.Proofs.YtacemdoejblgaaaGreatDoor

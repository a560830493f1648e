/- Part M06. Conditions: each statement's. -/
import Derived.Test.YtacemdoejblgaaaGreatDoorM05
import Derived.Conc.CrowdRun
namespace Go.Proofs.YtacemdoejblgaaaGreatDoor
set_option maxRecDepth 100000
set_option maxHeartbeats 6400000
section
open Go.Conc
open Go.ConcN (sumTo upd sumTo_upd upd_ne upd_same WgLive RW DWs WSit WD AtR0 PayAt)
open Go.ConcR (KK WgAt stA smA rd wr mk Payload)
section
variable [Payload]
structure RM(ty:TypeId)(Wg:Nat)(Bx:Nat->Prop)(w w₁:World):Prop where
 tape:w₁.tape=w.tape
 os:w₁.os=w.os
 output:w₁.output=w.output
 size:w₁.heap.size=w.heap.size
 block:∀r,r≠Wg->¬Bx r->w₁.heap[r]?=w.heap[r]?
 live:WgLive ty Wg w->WgLive ty Wg w₁
 box:∀r,Bx r->PayAt r 1 w->PayAt r 1 w₁
theorem RM.refl{ty:TypeId}{Wg:Nat}{Bx:Nat->Prop}(w:World):RM ty Wg Bx w w:=⟨rfl,rfl,rfl,rfl,λ_ _ _=>rfl,id,λ_ _=>id⟩
theorem RM.trans{ty:TypeId}{Wg:Nat}{Bx:Nat->Prop}{a b c:World}(h:RM ty Wg Bx a b)(k:RM ty Wg Bx b c):RM ty Wg Bx a c:=
 ⟨k.tape.trans h.tape,k.os.trans h.os,k.output.trans h.output,k.size.trans h.size,λr h1 h2=>(k.block r h1 h2).trans (h.block r h1 h2),k.live∘h.live,λr hr=>k.box r hr∘h.box r hr⟩
theorem RM.at{ty:TypeId}{Wg:Nat}{Bx:Nat->Prop}(w:World)(d:Nat):RM ty Wg Bx w (w.at d):=⟨rfl,rfl,rfl,rfl,λ_ _ _=>rfl,id,λ_ _=>id⟩
end
def DM(Wg:Nat)(Sh:Nat->Prop)(Fz:Loc->Prop)(w w':World)(es:Array Event):Prop:=w'=w/\∀e,e∈es->qo5 Sh Fz w.heap.size e/\e.loc≠.mark .disable/\e.loc≠.mark .enable/\e.loc≠.mark (.release (stA Wg))
section
variable [Payload]
variable (P:Program)(ty:TypeId)(Wg:Nat)(Bx:Nat->Prop)(Sh:Nat->Prop)(Fz:Loc->Prop)(AnchW:Goroutine->World->Prop)(Next:Goroutine->World->Prop)
def qgU(g:Goroutine)(w:World):Prop:=g.status=.running/\∃g',stepG P true g w=.go g' w #[mk (.acquire (stA Wg))]/\Next g' w
def MKe(g:Goroutine)(w:World):Prop:=g.status=.running/\∃g',stepG P true g w=.go g' w #[mk .enable]/\∃m,Goes P true (RM ty Wg Bx) (DM Wg Sh Fz) (qgU P Wg Next) m g' w
def MW4(g:Goroutine)(w:World):Prop:=g.status=.running/\(WgAt ty Wg w 0 0->∃g',stepG P true g w=.go g' w #[rd (stA Wg)]/\∃m,Goes P true (RM ty Wg Bx) (DM Wg Sh Fz) (MKe P ty Wg Bx Sh Fz Next) m g' w)
def MW3(g:Goroutine)(w:World):Prop:=g.status=.running/\g.offers=none/\((∃st,WgAt ty Wg w st 0)->stepG P true g w=.go {g with status:=.blocked} w #[]) /\
 (WgAt ty Wg w 0 1->∃g',stepG P true g w=.go g' (w.setCell (smA Wg) (.int .u32 0)) (semEvents (smA Wg))/\∃m,Goes P true (RM ty Wg Bx) (DM Wg Sh Fz) (MW4 P ty Wg Bx Sh Fz Next) m g' (w.setCell (smA Wg) (.int .u32 0)))
def MW2(vs:Nat)(g:Goroutine)(w:World):Prop:=g.status=.running/\∀v:Nat,v<2147483648->WgAt ty Wg w (v*KK) 0 ->
 (v=vs->∃g',stepG P true g w=.go g' (w.setCell (stA Wg) (.int .u64 (v*KK+1))) #[rd (stA Wg),wr (stA Wg)]/\∃m,Goes P true (RM ty Wg Bx) (DM Wg Sh Fz) (MW3 P ty Wg Bx Sh Fz Next) m g' (w.setCell (stA Wg) (.int .u64 (v*KK+1)))) /\
 (v≠vs->∃g',stepG P true g w=.go g' w #[rd (stA Wg)]/\∃m,Goes P true (RM ty Wg Bx) (DM Wg Sh Fz) AnchW m g' w)
def MW1(g:Goroutine)(w:World):Prop:=g.status=.running/\∀v:Nat,v<2147483648->WgAt ty Wg w (v*KK) 0->∃g',stepG P true g w=.go g' w #[rd (stA Wg)] /\
 (v=0->∃m,Goes P true (RM ty Wg Bx) (DM Wg Sh Fz) (MKe P ty Wg Bx Sh Fz Next) m g' w)/\(v≠0->∃m,Goes P true (RM ty Wg Bx) (DM Wg Sh Fz) (MW2 P ty Wg Bx Sh Fz AnchW Next v) m g' w)
def MKd(g:Goroutine)(w:World):Prop:=g.status=.running/\∃g',stepG P true g w=.go g' w #[mk .disable]/\∃m,Goes P true (RM ty Wg Bx) (DM Wg Sh Fz) AnchW m g' w
def MCl:List Nat->Goroutine->World->Prop
 |[],g,w=>MKd P ty Wg Bx Sh Fz AnchW g w
 | c::l,g,w=>g.status=.running/\mayWake P g=true/\∀ κ,w.heap[c]?=some (.chan 0 #[] false κ κ false) ->
     ∃g',stepG P true g w=.go g' (w.setChan c 0 #[] true κ κ false) #[⟨.obj c,false,true⟩,⟨.obj c,true,true⟩]/\g'.status=.running/\∃m,Goes P true (RM ty Wg Bx) (DM Wg Sh Fz) (MCl l) m g' (w.setChan c 0 #[] true κ κ false)
end
inductive Tag where
 |cl (l:List Nat)|anch|w1|w2 (vs:Nat)|w3|blk|w4|ke|acq
section
variable [Payload]
variable (P:Program)(ty:TypeId)(Wg:Nat)(Bx:Nat->Prop)(Sh:Nat->Prop)(Fz:Loc->Prop)(AnchW:Goroutine->World->Prop)(Next:Goroutine->World->Prop)
inductive vB:Tag->Nat->Nat->Goroutine->World->Prop
 |cl {l:List Nat} {m:Nat} {g:Goroutine} {w:World}:Goes P true (RM ty Wg Bx) (DM Wg Sh Fz) (MCl P ty Wg Bx Sh Fz AnchW l) m g w->vB (.cl l) m 0 g w
 |anch {m:Nat} {g:Goroutine} {w:World}:Goes P true (RM ty Wg Bx) (DM Wg Sh Fz) AnchW m g w->vB .anch m 1 g w
 |w1 {m:Nat} {g:Goroutine} {w:World}:Goes P true (RM ty Wg Bx) (DM Wg Sh Fz) (MW1 P ty Wg Bx Sh Fz AnchW Next) m g w->vB .w1 m 1 g w
 |w2 {vs m:Nat} {g:Goroutine} {w:World}:Goes P true (RM ty Wg Bx) (DM Wg Sh Fz) (MW2 P ty Wg Bx Sh Fz AnchW Next vs) m g w->vB (.w2 vs) m 1 g w
 |w3 {m:Nat} {g:Goroutine} {w:World}:Goes P true (RM ty Wg Bx) (DM Wg Sh Fz) (MW3 P ty Wg Bx Sh Fz Next) m g w->vB .w3 (m+1) 1 g w
 |blk {g:Goroutine} {w:World}:(∀w₁,RM ty Wg Bx w w₁->MW3 P ty Wg Bx Sh Fz Next g w₁)->vB .blk 0 1 {g with status:=.blocked} w
 |w4 {m:Nat} {g:Goroutine} {w:World}:Goes P true (RM ty Wg Bx) (DM Wg Sh Fz) (MW4 P ty Wg Bx Sh Fz Next) m g w->vB .w4 m 1 g w
 |ke {m:Nat} {g:Goroutine} {w:World}:Goes P true (RM ty Wg Bx) (DM Wg Sh Fz) (MKe P ty Wg Bx Sh Fz Next) m g w->vB .ke m 1 g w
 |acq {m:Nat} {g:Goroutine} {w:World}:Goes P true (RM ty Wg Bx) (DM Wg Sh Fz) (qgU P Wg Next) m g w->vB .acq m 0 g w
end
structure Hands where
 s:zW
 bx:Nat
 val:Value
def qo6:Nat->Loc->Prop:=λ_ _=>False
section
variable [Payload]
variable (P:Program)(ty:TypeId)(Wg:Nat)
def q8g(c:Hands)(g:Goroutine)(w:World):Prop:=∃m,Goes P false (RW ty Wg c.bx 1 0 0) (DWs Wg qo6 qo6 c.bx 1 1) (AtR0 P ty Wg c.bx 1 0 1 c.val) m g w
def Shut(s:zW)(m:Nat)(g:Goroutine):Prop:=Way P false s m g∨(m=1/\g.frame=s.fr/\g.callers=s.cs/\g.dying=none/\g.status=.running/\qlf P false s)
def vn(c:Hands):Nat->Nat->Nat->Goroutine->World->Prop
 |9,m,d,g,_=>d=0/\((m=0/\g=qhe c.s)∨Way P false c.s m g)
 |8,m,d,g,_=>d=0/\Shut P c.s m g
 |st,m,d,g,w=>WSit P ty Wg c.bx 1 qo6 qo6 0 1 c.val st m d g w
end
end
section
open Go.Conc
open Go.ConcN (sumTo upd sumTo_upd upd_ne upd_same WgLive RW DWs WSit WD AtR0)
open Go.ConcR (KK WgAt stA smA rd wr mk Payload)
def zT(a:Addr)(p0:Nat)(t:Trace)(i:Nat):Prop:=∃p,p0<=p/\vO a t i p/\∀j x,t.g? j=some i->touchAt t j=some x->j<p∨(x.kind=.atomic/\¬t.heard j)
section
variable {a:Addr}{p0:Nat}{t u:Trace}{i:Nat}
theorem zT.app(h:zT a p0 t i)(hu:∀j op x,t.size<=j->(t++u)[j]?=some op->op.g=i->op.act.touch?=some x->x.kind=.atomic/\¬(t++u).heard j):zT a p0 (t++u) i:=by
 obtain⟨p,h1,h2,h3⟩:=h;refine⟨p,h1,h2.app u,λj x hg hx=>?_⟩;rcases qcc hx with ⟨hj,hx'⟩|⟨hj,op,hop,hy,hxa⟩
 . exact(h3 j x (by rw[g?_old hj]at hg;exact hg) hx').imp id (λy=>⟨y.1,λz=>y.2 ((heard_old hj).1 z)⟩)
 . refine .inr (hu j op x hj hy ?_ hxa);unfold Trace.g? at hg;rw[hy]at hg;exact Option.some.inj hg
theorem zT.other(h:zT a p0 t i)(hu:∀op∈u,op.g=i->op.act.touch?=none):zT a p0 (t++u) i:=
 h.app (λj op x hj hy hg hx=>by
  rcases getElem?_append_cases hy with ⟨hlt,_⟩|⟨_,hop⟩
  . omega
  . rw[hu op hop hg]at hx;cases hx)
theorem zT.new{y:MemOp}(hp:p0<=t.size)(hg:y.g=i)(hy:y.act=.mark (.releaseMerge a))(hd:Deaf t i=0):zT a p0 (t++#[y]) i:=by
 refine⟨t.size,hp,q8c hg hy hd,λj x _ hx=>?_⟩;rcases qcc hx with ⟨hj,_⟩|⟨_,op,hop,_,hxa⟩
 . exact .inl hj
 . have:op=y:=by simpa using hop
   rw[this,hy]at hxa;cases hxa
theorem q8h{t':Trace}{k p:Nat}:∀n,(∀j,j<n->∃y,t'[p+j]?=some y/\y.act≠.mark .enable)->t'.deaf k p<=t'.deaf k (p+n)
 |0,_=>Nat.le_refl _
 |n+1,h=>by
  obtain⟨y,h1,h2⟩:=h n (Nat.lt_succ_self n);refine Nat.le_trans (q8h n (λj hj=>h j (by omega))) ?_;rw[<-Nat.add_assoc,deaf_succ h1];unfold deafStep;split
  . split<;>omega
  . rename_i e;exact absurd e h2
  . exact Nat.le_refl _
theorem q8i{k:Nat}{fn:FuncId}{pos:String}{es:Array Event}{j:Nat}{op:MemOp}(h:(t++MemOp.ofEvents k fn pos es)[t.size+j]?=some op):∃e,es[j]?=some e/\op={g:=k,fn,pos,act:=.ofEvent e}:=by
 rw[Array.getElem?_append_right (Nat.le_add_right _ _),Nat.add_sub_cancel_left,ofEvents_eq,Array.getElem?_map]at h;obtain⟨e,he,rfl⟩:=Option.map_eq_some_iff.1 h;exact⟨e,he,rfl⟩
theorem q0l{k:Nat}{fn:FuncId}{pos:String}{es:Array Event}(hd:0<Deaf t k)(he:∀(j:Nat) (e:Event),es[j]?=some e->(MemAct.ofEvent e).touch?≠none->∀(j':Nat),j'<j->∀(e':Event),es[j']?=some e'->MemAct.ofEvent e'≠.mark .enable) :
   ∀j op x,t.size<=j->(t++MemOp.ofEvents k fn pos es)[j]?=some op->op.act.touch?=some x->¬(t++MemOp.ofEvents k fn pos es).heard j:=by
 intro j op x hj hy hx;obtain⟨m,rfl⟩:∃m,j=t.size+m:=⟨j-t.size,by omega⟩;obtain⟨e,hee,hop⟩:=q8i hy;have h1:=he m e hee (by rw[hop]at hx;rw[hx];simp)
 have h2:=q8h (t':=t++MemOp.ofEvents k fn pos es) (k:=k) (p:=t.size) m (λj' hj'=>by
  have hlt:j'<es.size:=Nat.lt_trans hj' (Array.getElem?_eq_some_iff.1 hee).1;refine⟨{g:=k,fn,pos,act:=.ofEvent es[j']},?_,h1 j' hj' _ (Array.getElem?_eq_getElem hlt)⟩;rw[Array.getElem?_append_right (Nat.le_add_right _ _),Nat.add_sub_cancel_left,ofEvents_eq,Array.getElem?_map,Array.getElem?_eq_getElem hlt];rfl)
 rw[deaf_old (Nat.le_refl _)]at h2;rintro⟨g,hg,hdf⟩;rw[gAt hy (show op.g=k from by rw[hop])]at hg;cases hg;unfold Deaf at hd;omega
end
def StJ(Wk:Nat->Prop)(cr:Nat->Hands)(D:Nat->WD)(i:Nat)(l:Loc):Prop:=Wk i/\8<=(D i).stage/\StL (cr i).s.L l
def LfJ(Wk:Nat->Prop)(i:Nat):Prop:=i≠0/\¬Wk i
structure JTr(Sh:Nat->Prop)(Fz:Loc->Prop)(Wk:Nat->Prop)(cr:Nat->Hands)(Wg p0:Nat)(D:Nat->WD)(B:Nat)(t:Trace):Prop where
 zC:zz Sh Fz (StJ Wk cr D) (LfJ Wk) 0 B t
 start:p0<=t.size
 norel:∀q,p0<=q->t.act? q≠some (.mark (.release (stA Wg)))
 rel:∀i,Wk i->(D i).stage<=6->zT (stA Wg) p0 t i
section
variable {Sh:Nat->Prop}{Fz:Loc->Prop}{Wk:Nat->Prop}{cr:Nat->Hands}{Wg p0:Nat}{D D':Nat->WD}{B:Nat}{t u:Trace}{i:Nat}
theorem q0m(h:∀q,p0<=q->t.act? q≠some (.mark (.release (stA Wg))))(hu:∀op∈u,op.act≠.mark (.release (stA Wg))):∀q,p0<=q->(t++u).act? q≠some (.mark (.release (stA Wg))):=by
 intro q hq e;obtain⟨op,ho,hoa⟩:=Option.map_eq_some_iff.1 e;rcases getElem?_append_cases ho with ⟨hi,ho'⟩|⟨_,hou⟩
 . exact h q hq (by rw[act?_of ho',hoa])
 . exact hu op hou hoa
theorem q4w:t.size<=(t++u).size:=by simp
theorem zz.fall{St':Nat->Loc->Prop}{St:Nat->Loc->Prop}{Lf:Nat->Prop}{h:Nat}(H:zz Sh Fz St Lf h B t)(hs:∀k l,St' k l->St k l):zz Sh Fz St' Lf h B t:=
 ⟨H.clean,H.known,λk hk i a ha hl hw=>H.wrote k hk i a ha (hs k _ hl) hw,H.seen,H.quiet,λk l hl=>H.sub k l (hs k l hl),H.over⟩
theorem q4x(hle:∀j,(D' j).stage<=(D j).stage):∀k l,StJ Wk cr D' k l->StJ Wk cr D k l:=λk _ h=>⟨h.1,Nat.le_trans h.2.1 (hle k),h.2.2⟩
theorem JTr.step(H:JTr Sh Fz Wk cr Wg p0 D B t)(hh:zz Sh Fz (StJ Wk cr D) (LfJ Wk) 0 B (t++u))(hg:∀op∈u,op.g=i)(hn:∀op∈u,op.act≠.mark (.release (stA Wg)))(hle:∀j,(D' j).stage<=(D j).stage)
   (hoth:∀j,j≠i->(D' j).stage=(D j).stage) (hok:Wk i->(D' i).stage<=6->zT (stA Wg) p0 (t++u) i):JTr Sh Fz Wk cr Wg p0 D' B (t++u):=by
 refine⟨hh.fall (q4x hle),Nat.le_trans H.start q4w,q0m H.norel hn,λj hj hs=>?_⟩;by_cases hji:j=i
 . subst hji;exact hok hj hs
 . refine(H.rel j hj (by rw[<-hoth j hji];exact hs)).other (λop hop hgj=>absurd ((hg op hop).symm.trans hgj) (λe=>hji e.symm))
theorem JTr.main{es:Array Event}(H:JTr Sh Fz Wk cr Wg p0 D B t)(hW:∀i,Wk i->i≠0)(he:∀e,e∈es->qo5 Sh Fz B e/\e.loc≠.mark (.release (stA Wg)))(fn:FuncId)(pos:String):JTr Sh Fz Wk cr Wg p0 D B (t++MemOp.ofEvents 0 fn pos es):=by
 refine⟨H.zC.events (λy=>y.1 rfl) (λe hee=>(he e hee).1),Nat.le_trans H.start q4w,q0m H.norel (λop hop=>?_),λj hj hs=>(H.rel j hj hs).other (λop hop hg=>absurd ((qdf op hop).symm.trans hg) (λe=>hW j hj e.symm))⟩;obtain⟨e,hee,rfl⟩:=Go.Conc.mem_ofEvents hop;intro e0;have:=(he e hee).2;obtain⟨loc,wr,sy⟩:=e;cases loc with
 |mark m=>cases e0;exact this rfl
 |obj c=>cases wr<;>cases sy<;>cases e0
 |_=>cases wr<;>cases sy<;>cases e0
end
end
section
open Go.Conc
open Go.ConcN (sumTo upd sumTo_upd upd_ne upd_same WgLive RW DWs WSit WD AtR0 PayAt)
open Go.ConcR (KK WgAt stA smA rd wr mk Payload)
section
variable [Payload]{P:Program}{ty:TypeId}{Wg:Nat}{Bx:Nat->Prop}{Sh:Nat->Prop}{Fz:Loc->Prop}{AnchW Next:Goroutine->World->Prop}{tag:Tag}{f d:Nat}{a:Goroutine}{w w':World}
theorem vB.rely(h:vB P ty Wg Bx Sh Fz AnchW Next tag f d a w)(hr:RM ty Wg Bx w w'):vB P ty Wg Bx Sh Fz AnchW Next tag f d a w':=by
 have tr:∀a b c,RM ty Wg Bx a b->RM ty Wg Bx b c->RM ty Wg Bx a c:=λ_ _ _ h1 h2=>h1.trans h2;cases h with
 |cl h=>exact .cl (Goes.rely tr h hr)
 |anch h=>exact .anch (Goes.rely tr h hr)
 |w1 h=>exact .w1 (Goes.rely tr h hr)
 |w2 h=>exact .w2 (Goes.rely tr h hr)
 |w3 h=>exact .w3 (Goes.rely tr h hr)
 |blk h=>exact .blk (λw₂ h₂=>h w₂ (hr.trans h₂))
 |w4 h=>exact .w4 (Goes.rely tr h hr)
 |ke h=>exact .ke (Goes.rely tr h hr)
 |acq h=>exact .acq (Goes.rely tr h hr)
theorem MCl.running{l:List Nat}(h:MCl P ty Wg Bx Sh Fz AnchW l a w):a.status=.running:=by cases l<;>exact h.1
theorem vB.status(hA:∀g w,AnchW g w->g.status=.running)(h:vB P ty Wg Bx Sh Fz AnchW Next tag f d a w):(a.status=.running/\tag≠.blk)∨(a.status=.blocked/\tag=.blk/\a.offers=none):=by
 cases h with
 |cl h=>exact .inl ⟨Goes.running (λ_ _ x=>MCl.running x) w (RM.refl w) h,λe=>by cases e⟩
 |anch h=>exact .inl ⟨Goes.running hA w (RM.refl w) h,λe=>by cases e⟩
 |w1 h=>exact .inl ⟨Goes.running (λ_ _ x=>x.1) w (RM.refl w) h,λe=>by cases e⟩
 |w2 h=>exact .inl ⟨Goes.running (λ_ _ x=>x.1) w (RM.refl w) h,λe=>by cases e⟩
 |w3 h=>exact .inl ⟨Goes.running (λ_ _ x=>x.1) w (RM.refl w) h,λe=>by cases e⟩
 |blk h=>exact .inr ⟨rfl,rfl,(h w (RM.refl w)).2.1⟩
 |w4 h=>exact .inl ⟨Goes.running (λ_ _ x=>x.1) w (RM.refl w) h,λe=>by cases e⟩
 |ke h=>exact .inl ⟨Goes.running (λ_ _ x=>x.1) w (RM.refl w) h,λe=>by cases e⟩
 |acq h=>exact .inl ⟨Goes.running (λ_ _ x=>x.1) w (RM.refl w) h,λe=>by cases e⟩
theorem vB.woken(hA:∀g w,AnchW g w->g.status=.running)(h:vB P ty Wg Bx Sh Fz AnchW Next tag f d a w)(x x':Goroutine) :
   ∃tag' f',((tag'=tag/\f'=f)∨(tag=.blk/\tag'=.w3/\f'=1/\f=0))/\vB P ty Wg Bx Sh Fz AnchW Next tag' f' d (Go.Conc.woken P x x' w a) w/\(mayWake P x=true->x'.status≠.blocked->x'.status≠.waiting->tag'≠.blk):=by
 by_cases hw:(mayWake P x&&x'.status != .blocked&&x'.status != .waiting)=true
 . have e:Go.Conc.woken P x x' w a=a.again w:=by unfold Go.Conc.woken;rw[if_pos hw]
   rcases h.status hA with ⟨hs,ht⟩|⟨hs,ht,ho⟩
   . exact⟨tag,f,.inl ⟨rfl,rfl⟩,by rw[e,again_running _ (.inl hs)];exact h,λ_ _ _=>ht⟩
   . subst ht;cases h with
     |blk h=>
      rename_i g;have h0:=h w (RM.refl w);refine⟨.w3,1,.inr ⟨rfl,rfl,rfl,rfl⟩,?_,λ_ _ _ e=>by cases e⟩;rw[e]
      have:({g with status:=.blocked}:Goroutine).again w=g:=by
       have h1:g.offers=none:=h0.2.1;have h2:g.status=.running:=h0.1;obtain⟨fr,cs,st,dy,of⟩:=g;cases h1;cases h2;simp[Goroutine.again]
      rw[this];exact .w3 (m:=0) (Goes.stop h)
 . have e:Go.Conc.woken P x x' w a=a:=by unfold Go.Conc.woken;rw[if_neg hw]
   refine⟨tag,f,.inl ⟨rfl,rfl⟩,by rw[e];exact h,λh1 h2 h3=>?_⟩;exfalso;apply hw;rw[h1];cases hs:x'.status<;>first|rfl|exact absurd hs h2|exact absurd hs h3
end
section
variable {P:Program}{m:Nat}{g:Goroutine}
theorem Shut.running{s:zW}(h:Shut P s m g):g.status=.running:=by
 rcases h with h|⟨_,_,_,_,h,_⟩
 . exact h.running
 . exact h
end
section
variable [Payload]
variable {P:Program}{ty:TypeId}{Wg:Nat}{c:Hands}{st m d:Nat}{g:Goroutine}{w w':World}
theorem WSit.stage{C n Low k:Nat}{Own Rd:Nat->Loc->Prop}{v:Value}(h:WSit P ty Wg C n Own Rd Low k v st m d g w):1<=st/\st<=7:=by cases h<;>omega
theorem vn.low(h:vn P ty Wg c st m d g w)(hs:st<=7):WSit P ty Wg c.bx 1 qo6 qo6 0 1 c.val st m d g w:=by
 unfold vn at h;split at h
 . omega
 . omega
 . exact h
theorem vn.of(h:WSit P ty Wg c.bx 1 qo6 qo6 0 1 c.val st m d g w):vn P ty Wg c st m d g w:=by
 have:=WSit.stage h;unfold vn;split
 . omega
 . omega
 . exact h
theorem vn.vJ(h:vn P ty Wg c st m d g w):1<=st/\st<=9:=by
 by_cases h7:st<=7
 . have:=WSit.stage (h.low h7);omega
 . unfold vn at h;split at h
   . omega
   . omega
   . have:=WSit.stage h;omega
theorem vn.rely(h:vn P ty Wg c st m d g w)(hr:RW ty Wg c.bx 1 0 0 w w'):vn P ty Wg c st m d g w':=by
 by_cases h7:st<=7
 . exact .of ((h.low h7).rely hr)
 . unfold vn at h |-;split at h
   . exact h
   . exact h
   . have:=WSit.stage h;omega
theorem vn.status(h:vn P ty Wg c st m d g w):g.status=.running∨(g.status=.finished/\st=1)∨(st=9/\g=qhe c.s):=by
 by_cases h7:st<=7
 . have hw:=h.low h7;by_cases h1:st=1
   . subst h1;rcases hw.status with e|e
     . exact .inl e
     . exact .inr (.inl ⟨e,rfl⟩)
   . exact .inl (hw.running_of h1)
 . unfold vn at h;split at h
   . rcases h.2 with ⟨_,rfl⟩|h
     . exact .inr (.inr ⟨rfl,rfl⟩)
     . exact .inl h.running
   . exact .inl h.2.running
   . have:=WSit.stage h;omega
end
end
section
open Go.Conc
open Go.ConcN (sumTo upd sumTo_upd upd_ne upd_same WgLive RW DWs WSit WD AtR0 PayAt cnt Vc Ssum Fsum)
open Go.ConcR (KK WgAt stA smA rd wr mk Payload)
def yg:Tag->List Nat
 | .cl l=>l
 |_=>[]
def qkM:Tag->Prop
 | .cl _ | .anch | .w1 | .w2 _=>True
 |_=>False
def isW:Tag->Prop
 | .w3 | .blk=>True
 |_=>False
def isF:Tag->Prop
 | .w4 | .ke | .acq=>True
 |_=>False
inductive qL (n:Nat) (D:Nat->WD):Tag->Int->Int->Prop
 |opn {tag:Tag}:qkM tag->(∀i,i<n->5<=(D i).stage∨(D i).stage=1)->(∀vs,tag=.w2 vs->Vc n D<=vs/\1<=vs)->qL n D tag ((Vc n D:Nat)*KK) 0
 |reg {tag:Tag}:isW tag->(∀i,i<n->5<=(D i).stage∨(D i).stage=1)->1<=Vc n D->qL n D tag ((Vc n D:Nat)*KK+1) 0
 |last {tag:Tag} (L:Nat):isW tag->L<n->((D L).stage=4∨(D L).stage=3∨(D L).stage=2)->(∀i,i<n->i≠L->(D i).stage=1)->qL n D tag (if (D L).stage=2 then 0 else 1) 0
 |sema:(∀i,i<n->(D i).stage=1)->qL n D .w3 0 1
 |fin {tag:Tag}:isF tag->(∀i,i<n->(D i).stage=1)->qL n D tag 0 0
structure zX[Payload](P:Program)(ty:TypeId)(Wg:Nat)(Bx:Nat->Prop)(Sh:Nat->Prop)(Fz:Loc->Prop)(n:Nat)(Wk:Nat->Prop)(cr:Nat->Hands):Prop where
 wk:∀i,Wk i->i≠0/\i<n
 chan:∀i j,Wk i->Wk j->(cr i).s.c=(cr j).s.c->i=j
 bxs:∀i j,Wk i->Wk j->(cr i).bx=(cr j).bx->i=j
 bxW:∀i,Wk i->(cr i).bx≠Wg
 cW:∀i,Wk i->(cr i).s.c≠Wg
 cB:∀i j,Wk i->Wk j->(cr i).s.c≠(cr j).bx
 lW:∀i,Wk i->∀x,x∈(cr i).s.L->x.1.block≠Wg/\∀j,Wk j->j≠i->x.1.block≠(cr j).bx
 bx:∀i,Wk i->Bx (cr i).bx
 noW:¬Bx Wg
 after:∀i,Wk i->∀w,WgLive ty Wg w->w.cell? ⟨(cr i).bx,0,none⟩=some (cr i).val->q8g P ty Wg (cr i) (Go.Conc.served (G (cr i).s.fr (cr i).s.cs) (recvd (cr i).s.ok (cr i).s.z false)) w
 comm:∀i,Wk i->qlf P false (cr i).s
 xE:Sh Wg
 fzW:∀b:Addr,b.block=Wg->¬Fz (.cell b)
 few:n<2147483648
structure Join[Payload](P:Program)(ty:TypeId)(Wg:Nat)(Bx:Nat->Prop)(Sh:Nat->Prop)(Fz:Loc->Prop)(AnchW Next:Goroutine->World->Prop)(n:Nat)(Wk:Nat->Prop)(cr:Nat->Hands)(p0:Nat)
   (D:Nat->WD) (tag:Tag) (f0 d0:Nat) (a:Goroutine) (st sm:Int) (gs:Array Goroutine) (w:World) (t:Trace):Prop where
 size:gs.size=n
 here:gs[0]?=some a
 main:vB P ty Wg Bx Sh Fz AnchW Next tag f0 d0 a w
 jW:∀i x,i≠0->gs[i]?=some x->vn P ty Wg (cr i) (D i).stage (D i).fuel (D i).deaf x w/\Deaf t i=(D i).deaf
 old:∀i,¬Wk i->(D i).stage=1
 nine:∀i,Wk i->((D i).stage=9↔(cr i).s.c∈yg tag)
 source:∀c,c∈yg tag->∃i,Wk i/\(cr i).s.c=c
 nodup:(yg tag).Nodup
 open_:∀i,Wk i->(D i).stage=9->∃κ,w.heap[(cr i).s.c]?=some (.chan 0 #[] false κ κ false)
 shut:∀i,Wk i->(D i).stage=8->∃κ,w.heap[(cr i).s.c]?=some (.chan 0 #[] true κ κ false)
 fact:∀i,Wk i->8<=(D i).stage->holds (cr i).s.L w/\w.cell? ⟨(cr i).bx,0,none⟩=some (cr i).val
 wg:WgAt ty Wg w st sm
 mode:qL n D tag st sm
 tr:JTr Sh Fz Wk cr Wg p0 D w.heap.size t
 deaf:Deaf t 0=d0
 above:∀j,n<=j->Deaf t j=0
theorem qhz{w w':World}{r:Nat}(e:w'.heap[r]?=w.heap[r]?)(o:Nat)(s:Option _):w'.cell? ⟨r,o,s⟩=w.cell? ⟨r,o,s⟩:=by simp[World.cell?,e]
theorem qq8{L:List (Addr×Value)}{w w':World}(h:holds L w)(hb:∀x,x∈L->w'.heap[x.1.block]?=w.heap[x.1.block]?):holds L w':=λx hx=>by
 rw[<-h x hx];unfold World.cell?;rw[hb x hx]
section
variable [Payload]{P:Program}{ty:TypeId}{Wg:Nat}{Bx:Nat->Prop}{Sh:Nat->Prop}{Fz:Loc->Prop}{AnchW Next:Goroutine->World->Prop}{n:Nat}{Wk:Nat->Prop}{cr:Nat->Hands}{p0:Nat}
 {D:Nat->WD} {tag:Tag} {f0 d0:Nat} {a:Goroutine} {st sm:Int} {gs:Array Goroutine} {w:World} {t:Trace}
theorem Join.at(J:Join P ty Wg Bx Sh Fz AnchW Next n Wk cr p0 D tag f0 d0 a st sm gs w t)(d:Nat):Join P ty Wg Bx Sh Fz AnchW Next n Wk cr p0 D tag f0 d0 a st sm gs (w.at d) t:=
 ⟨J.size,J.here,J.main.rely (RM.at w d),λi x hi hx=>⟨(J.jW i x hi hx).1.rely (RW.at w d),(J.jW i x hi hx).2⟩,J.old,J.nine,J.source,J.nodup,J.open_,J.shut,J.fact,J.wg,J.mode,J.tr,J.deaf,J.above⟩
theorem Join.lt(J:Join P ty Wg Bx Sh Fz AnchW Next n Wk cr p0 D tag f0 d0 a st sm gs w t){i:Nat}{x:Goroutine}(hx:gs[i]?=some x):i<n:=by rw[<-J.size];exact(Array.getElem?_eq_some_iff.1 hx).1
structure xc[Payload](Wg b:Nat)(w w':World):Prop where
 tape:w'.tape=w.tape
 os:w'.os=w.os
 output:w'.output=w.output
 size:w'.heap.size=w.heap.size
 block:∀r,r≠Wg->r≠b->w'.heap[r]?=w.heap[r]?
 pay:PayAt b 1 w->PayAt b 1 w'
theorem Join.step(G:zX P ty Wg Bx Sh Fz n Wk cr)(J:Join P ty Wg Bx Sh Fz AnchW Next n Wk cr p0 D tag f0 d0 a st sm gs w t){i:Nat}{x:Goroutine}(hi:i≠0)(hx:gs[i]?=some x)
   {x':Goroutine} {w':World} {u:Trace} {s' m' d':Nat} {st' sm':Int} {tag':Tag} {f':Nat} {a':Goroutine} {gs':Array Goroutine}
   (hrel:xc Wg (cr i).bx w w') (hsame:¬Wk i∨8<=s'->w'.heap=w.heap) (hwg':WgAt ty Wg w' st' sm') (hs':vn P ty Wg (cr i) s' m' d' x' w')
   (hle:s'<=(D i).stage) (h9:s'=9↔(D i).stage=9)
   (hg:∀op∈u,op.g=i) (hh:zz Sh Fz (StJ Wk cr D) (LfJ Wk) 0 w.heap.size (t++u)) (hn:∀op∈u,op.act≠.mark (.release (stA Wg))) (hok:Wk i->s'<=6->zT (stA Wg) p0 (t++u) i) (hdf:Deaf (t++u) i=d')
   (hmain:vB P ty Wg Bx Sh Fz AnchW Next tag' f' d0 a' w') (htag:yg tag'=yg tag) (hmode:qL n (upd D i ⟨s',m',d'⟩) tag' st' sm')
   (hsz:gs'.size=n) (h0:gs'[0]?=some a') (hgi:gs'[i]?=some x') (hgo:∀j,j≠0->j≠i->gs'[j]?=gs[j]?) :
   Join P ty Wg Bx Sh Fz AnchW Next n Wk cr p0 (upd D i ⟨s',m',d'⟩) tag' f' d0 a' st' sm' gs' w' (t++u):=by
 have hst:∀j,j≠i->upd D i ⟨s',m',d'⟩ j=D j:=λj hj=>upd_ne D _ hj;have hsi:upd D i ⟨s',m',d'⟩ i=⟨s',m',d'⟩:=upd_same D i _;have s1:=(vn.vJ hs').1
 have keep:∀j,Wk j->∀r,(r=(cr j).s.c∨(r=(cr j).bx/\j≠i))->w'.heap[r]?=w.heap[r]?:=λj hj r hr=>by
  by_cases hWi:Wk i
  . rcases hr with rfl|⟨rfl,hji⟩
    . exact hrel.block _ (G.cW j hj) (G.cB j i hj hWi)
    . exact hrel.block _ (G.bxW j hj) (λe=>hji (G.bxs j i hj hWi e))
  . rw[hsame (.inl hWi)]
 have rw_:∀j,j≠i->RW ty Wg (cr j).bx 1 0 0 w w'∨(D j).stage=1:=λj hj=>by
  by_cases hWj:Wk j
  . left;have hb:=keep j hWj (cr j).bx (.inr ⟨rfl,hj⟩);exact⟨λb hb0 _ _=>absurd hb0 (Nat.not_lt_zero b),λ_=>⟨_,_,hwg'⟩,λ⟨cs,hc,hl⟩=>⟨cs,hb.trans hc,hl⟩,qhz hb 0 none⟩
  . exact .inr (J.old j hWj)
 refine⟨hsz,h0,hmain,λj y hj hy=>?_,λj hj=>?_,λj hj=>?_,by rw[htag];exact J.source,by rw[htag];exact J.nodup,λj hj h=>?_,λj hj h=>?_,λj hj h=>?_,hwg',hmode,?_,?_,λj hj=>?_⟩
 . by_cases hji:j=i
   . subst hji;rw[hgi]at hy;cases hy;rw[hsi];exact⟨hs',hdf⟩
   . rw[hgo j hj hji]at hy;rw[hst j hji,Deaf_other t (λe=>hji e.symm) u hg];obtain⟨h1,h2⟩:=J.jW j y hj hy;refine⟨?_,h2⟩;rcases rw_ j hji with h3|h3
     . exact h1.rely h3
     . rw[h3]at h1 |-;have h4:=h1.low (by omega);cases h4 with
       |quit hq=>exact .of (.quit hq)
 . by_cases hji:j=i
   . subst hji;have h1:=J.old j hj;rw[hsi];show s'=1;omega
   . rw[hst j hji];exact J.old j hj
 . rw[htag];by_cases hji:j=i
   . subst hji;rw[hsi];exact h9.trans (J.nine j hj)
   . rw[hst j hji];exact J.nine j hj
 . have h':(D j).stage=9:=by
    by_cases hji:j=i
    . subst hji;rw[hsi]at h;exact h9.1 h
    . rw[hst j hji]at h;exact h
   obtain⟨κ,hκ⟩:=J.open_ j hj h';exact⟨κ,(keep j hj _ (.inl rfl)).trans hκ⟩
 . have h':(D j).stage=8:=by
    by_cases hji:j=i
    . subst hji;rw[hsi]at h;have e:s'=8:=h;have h10:=h9;have hx9:=(J.jW j x hi hx).1.vJ.2;by_cases h11:(D j).stage=9
      . have:=h10.2 h11;omega
      . omega
    . rw[hst j hji]at h;exact h
   obtain⟨κ,hκ⟩:=J.shut j hj h';exact⟨κ,(keep j hj _ (.inl rfl)).trans hκ⟩
 . by_cases hji:j=i
   . subst hji;rw[hsi]at h;have e:8<=s':=h;obtain⟨h1,h2⟩:=J.fact j hj (Nat.le_trans e hle);have hs:=hsame (.inr e);exact⟨qq8 h1 (λy _=>by rw[hs]),(qhz (by rw[hs]) 0 none).trans h2⟩
   . rw[hst j hji]at h;obtain⟨h1,h2⟩:=J.fact j hj h;refine⟨qq8 h1 (λy hy=>?_),(qhz (keep j hj _ (.inr ⟨rfl,hji⟩)) 0 none).trans h2⟩;by_cases hWi:Wk i
     . exact hrel.block _ (G.lW j hj y hy).1 ((G.lW j hj y hy).2 i hWi (λe=>hji e.symm))
     . rw[hsame (.inl hWi)]
 . rw[hrel.size];refine J.tr.step hh hg hn (λj=>?_) (λj hj=>by rw[hst j hj]) (λhW h6=>hok hW (by rw[hsi]at h6;exact h6));by_cases hji:j=i
   . subst hji;rw[hsi];exact hle
   . rw[hst j hji];exact Nat.le_refl _
 . rw[Deaf_other t hi u hg];exact J.deaf
 . have:=J.lt hx;rw[Deaf_other t (by omega) u hg];exact J.above j hj
end
end
section
open Go.Conc
open Go.ConcN (sumTo upd sumTo_upd upd_ne upd_same sumTo_congr WgLive RW DWs WSit WD AtR0 PayAt cnt Vc Ssum Fsum)
open Go.ConcR (KK WgAt stA smA rd wr mk Payload)
def phi(n V:Nat):Tag->Nat
 | .cl l=>8*n+8+l.length
 | .anch=>8*V+6
 | .w1=>8*V+5
 | .w2 vs=>8*vs+4
 | .w3=>5
 | .blk=>5
 | .w4=>4
 | .ke=>3
 | .acq=>2
theorem phi_mono(n:Nat){v v':Nat}(h:v'<=v)(tag:Tag):phi n v' tag<=phi n v tag:=by
 cases tag<;>simp only[phi]<;>omega
def mu(n:Nat)(D:Nat->WD)(tag:Tag)(f0:Nat):Nat×Nat:=(phi n (Vc n D) tag+Ssum n D,f0+2*Fsum n D)
def LtJ:Nat×Nat->Nat×Nat->Prop:=Prod.Lex (· < ·) (· < ·)
theorem qbK:WellFounded LtJ:=(Prod.lex Nat.lt_wfRel Nat.lt_wfRel).wf
def xd(tag tag':Tag):Prop:=tag'=tag∨(tag=.blk/\tag'=.w3)
theorem phi_retag{n v:Nat}{tag tag':Tag}(e:xd tag tag'):phi n v tag'=phi n v tag:=by
 rcases e with rfl|⟨rfl,rfl⟩<;>rfl
theorem q57{tag tag':Tag}(e:xd tag tag'):yg tag'=yg tag:=by
 rcases e with rfl|⟨rfl,rfl⟩<;>rfl
section
variable {n:Nat}{D D':Nat->WD}{tag tag':Tag}{st sm:Int}{i:Nat}
theorem qL.congr(h:∀a,a<n->(D' a).stage=(D a).stage)(hm:qL n D tag st sm):qL n D' tag st sm:=by
 have hv:Vc n D'=Vc n D:=sumTo_congr λa ha=>by simp only[cnt,h a ha]
 cases hm with
 |opn h1 h2 h3=>rw[<-hv];exact .opn h1 (λa ha=>by rw[h a ha];exact h2 a ha) (λvs e=>by rw[hv];exact h3 vs e)
 |reg h1 h2 h3=>rw[<-hv];exact .reg h1 (λa ha=>by rw[h a ha];exact h2 a ha) (by rw[hv];exact h3)
 |last L h1 h2 h3 h4=>rw[<-h L h2];exact .last L h1 h2 (by rw[h L h2];exact h3) (λa ha e=>by rw[h a ha];exact h4 a ha e)
 |sema h2=>exact .sema λa ha=>by rw[h a ha];exact h2 a ha
 |fin h1 h2=>exact .fin h1 λa ha=>by rw[h a ha];exact h2 a ha
theorem qL.retag(h:qL n D tag st sm)(e:xd tag tag'):qL n D tag' st sm:=by
 rcases e with rfl|⟨rfl,rfl⟩
 . exact h
 . cases h with
   |opn h1 _ _=>exact h1.elim
   |reg _ h2 h3=>exact .reg trivial h2 h3
   |last L _ h2 h3 h4=>exact .last L trivial h2 h3 h4
   |fin h1 _=>exact h1.elim
theorem qL.same(hm:qL n D tag st sm)(m' d':Nat):qL n (upd D i ⟨(D i).stage,m',d'⟩) tag st sm:=
 hm.congr λa _=>by
  by_cases e:a=i
  . subst e;rw[upd_same]
  . rw[upd_ne D _ e]
theorem q0g(x:WD)(hi:i<n):Vc n (upd D i x)+cnt (D i)=Vc n D+cnt x:=sumTo_upd D x cnt hi
theorem qL.counted(hm:qL n D tag st sm)(hi:i<n)(h5:5<=(D i).stage){s':Nat}(hs:5<=s')(m' d':Nat):qL n (upd D i ⟨s',m',d'⟩) tag st sm:=by
 have hv:Vc n (upd D i ⟨s',m',d'⟩)=Vc n D:=by
  have:=q0g (D:=D) (⟨s',m',d'⟩:WD) hi;have c1:cnt (D i)=1:=by simp[cnt,h5]
  have c2:cnt (⟨s',m',d'⟩:WD)=1:=by simp[cnt,hs]
  omega
 have ho:(∀a,a<n->5<=(D a).stage∨(D a).stage=1)->∀a,a<n->5<=(upd D i ⟨s',m',d'⟩ a).stage∨(upd D i ⟨s',m',d'⟩ a).stage=1:=λh a ha=>by
  by_cases e:a=i
  . subst e;rw[upd_same];exact .inl hs
  . rw[upd_ne D _ e];exact h a ha
 cases hm with
 |opn h1 h2 h3=>rw[<-hv];exact .opn h1 (ho h2) (λvs e=>by rw[hv];exact h3 vs e)
 |reg h1 h2 h3=>rw[<-hv];exact .reg h1 (ho h2) (by rw[hv];exact h3)
 |last L h1 h2 h3 h4=>
  by_cases e:i=L
  . subst e;omega
  . have:=h4 i hi e;omega
 |sema h2=>have:=h2 i hi;omega
 |fin h1 h2=>have:=h2 i hi;omega
theorem lower{s' m' d' f0 f':Nat}(hi:i<n)(htag:xd tag tag')(hf:f'<=f0+1)(hlt:(s'<(D i).stage/\cnt ⟨s',m',d'⟩<=cnt (D i))∨(s'=(D i).stage/\m'<(D i).fuel)) :
   LtJ (mu n (upd D i ⟨s',m',d'⟩) tag' f') (mu n D tag f0):=by
 have e1:=q0g (D:=D) (⟨s',m',d'⟩:WD) hi;have e2:=sumTo_upd D (⟨s',m',d'⟩:WD) WD.stage hi;have e3:=sumTo_upd D (⟨s',m',d'⟩:WD) WD.fuel hi;have a2:(sumTo n λa=>WD.stage (upd D i ⟨s',m',d'⟩ a))=Ssum n (upd D i ⟨s',m',d'⟩):=rfl;have a3:(sumTo n λa=>WD.stage (D a))=Ssum n D:=rfl;have a4:(sumTo n λa=>WD.fuel (upd D i ⟨s',m',d'⟩ a))=Fsum n (upd D i ⟨s',m',d'⟩):=rfl;have a5:(sumTo n λa=>WD.fuel (D a))=Fsum n D:=rfl;rw[a2,a3]at e2;rw[a4,a5]at e3;unfold mu LtJ;rw[phi_retag htag];rcases hlt with ⟨h1,h2⟩|⟨h1,h2⟩
 . refine Prod.Lex.left _ _ ?_;have:=phi_mono n (v':=Vc n (upd D i ⟨s',m',d'⟩)) (v:=Vc n D) (by omega) tag;simp only at e2;omega
 . have ec:cnt (⟨s',m',d'⟩:WD)=cnt (D i):=by simp only[cnt,h1]
   have ev:Vc n (upd D i ⟨s',m',d'⟩)=Vc n D:=by omega
   have es':Ssum n (upd D i ⟨s',m',d'⟩)=Ssum n D:=by simp only at e2;omega
   rw[ev,es'];refine Prod.Lex.right _ ?_;simp only at e3;omega
end
section
variable [Payload]{P:Program}{ty:TypeId}{Wg:Nat}{Bx:Nat->Prop}{Sh:Nat->Prop}{Fz:Loc->Prop}{AnchW Next:Goroutine->World->Prop}{n:Nat}{Wk:Nat->Prop}{cr:Nat->Hands}{p0:Nat}
 {D:Nat->WD} {tag:Tag} {f0 d0:Nat} {a:Goroutine} {st sm:Int} {gs:Array Goroutine} {w:World} {t:Trace}
theorem Join.rm(G:zX P ty Wg Bx Sh Fz n Wk cr){i:Nat}{w':World}(hrel:xc Wg (cr i).bx w w')(hsame:¬Wk i->w'.heap=w.heap){st' sm':Int}(hwg':WgAt ty Wg w' st' sm'):RM ty Wg Bx w w':=
 ⟨hrel.tape,hrel.os,hrel.output,hrel.size,λr h1 h2=>by
  by_cases hW:Wk i
  . exact hrel.block r h1 (λe=>h2 (e▸G.bx i hW))
  . rw[hsame hW],λ_=>⟨_,_,hwg'⟩,λr hr hp=>by
  by_cases e:r=(cr i).bx
  . subst e;exact hrel.pay hp
  . obtain⟨cs,h1,h2⟩:=hp;exact⟨cs,(hrel.block r (λk=>G.noW (k▸hr)) e).trans h1,h2⟩⟩
theorem Join.others(J:Join P ty Wg Bx Sh Fz AnchW Next n Wk cr p0 D tag f0 d0 a st sm gs w t){i:Nat}{x x':Goroutine}(hi:i≠0)(hx:gs[i]?=some x){w':World}(hc:∀j,Wk j->(D j).stage=9->w'.heap[(cr j).s.c]?=w.heap[(cr j).s.c]?) :
   ((gs.map (Go.Conc.woken P x x' w')).setIfInBounds i x').size=n/\((gs.map (Go.Conc.woken P x x' w')).setIfInBounds i x')[0]?=some (Go.Conc.woken P x x' w' a)/\((gs.map (Go.Conc.woken P x x' w')).setIfInBounds i x')[i]?=some x' /\
    ∀j,j≠0->j≠i->((gs.map (Go.Conc.woken P x x' w')).setIfInBounds i x')[j]?=gs[j]?:=by
 have hsz:i<gs.size:=(Array.getElem?_eq_some_iff.1 hx).1;have xP:i<(gs.map (Go.Conc.woken P x x' w')).size:=by simpa using hsz
 refine⟨by simp[J.size],?_,by rw[qb5 _ _ _ _ xP,if_pos rfl],λj hj hji=>?_⟩
 . rw[qb5 _ _ _ _ xP,if_neg hi,Array.getElem?_map,J.here];rfl
 . rw[qb5 _ _ _ _ xP,if_neg (λe=>hji e.symm),Array.getElem?_map];cases hy:gs[j]? with
   |none=>rfl
   |some y=>
    have h1:=(J.jW j y hj hy).1
    have:Go.Conc.woken P x x' w' y=y:=by
     unfold Go.Conc.woken;split
     . rcases h1.status with e|⟨e,_⟩|⟨e,e'⟩
       . exact again_running _ (.inl e)
       . exact again_running _ (.inr e)
       . have hW:Wk j:=Classical.byContradiction (λhn=>by have:=J.old j hn;omega);obtain⟨κ,hκ⟩:=J.open_ j hW e;rw[e'];exact again_parked_open (k:=rcase (cr j).s.c (cr j).s.z) (c:=(cr j).s.c) (s:=κ) (r:=κ) (tm:=false) rfl ((hc j hW e).trans hκ)
     . rfl
    show some (Go.Conc.woken P x x' w' y)=some y;rw[this]
theorem Join.go(G:zX P ty Wg Bx Sh Fz n Wk cr)(hA:∀g w,AnchW g w->g.status=.running)(J:Join P ty Wg Bx Sh Fz AnchW Next n Wk cr p0 D tag f0 d0 a st sm gs w t){i:Nat}{x:Goroutine}(hi:i≠0)(hx:gs[i]?=some x)
   {x':Goroutine} {w':World} {es:Array Event} {s' m' d':Nat} {st' sm':Int} {sl:Option (Nat×Nat)} (hgo:stepG P false x w=.go x' w' es)
   (hrel:xc Wg (cr i).bx w w') (hsame:¬Wk i∨8<=s'->w'.heap=w.heap) (hwg':WgAt ty Wg w' st' sm') (hs':vn P ty Wg (cr i) s' m' d' x' w')
   (hlt:(s'<(D i).stage/\cnt ⟨s',m',d'⟩<=cnt (D i))∨(s'=(D i).stage/\m'<(D i).fuel)) (h9:s'=9↔(D i).stage=9)
   (hh:zz Sh Fz (StJ Wk cr D) (LfJ Wk) 0 w.heap.size (t++MemOp.ofEvents i x.frame.fn x.frame.place es)) (hn:∀e,e∈es->e.loc≠.mark (.release (stA Wg)))
   (hok:Wk i->s'<=6->zT (stA Wg) p0 (t++MemOp.ofEvents i x.frame.fn x.frame.place es) i) (hdf:deafBehind (D i).deaf es=d')
   (hmode:∀tag',xd tag tag'->(mayWake P x=true->x'.status≠.blocked->x'.status≠.waiting->tag'≠.blk)->qL n (upd D i ⟨s',m',d'⟩) tag' st' sm') :
   ∃gs' ops tag' f' a',runT P (crowd gs w sl) i=(.next (crowd gs' w' sl),ops)/\Join P ty Wg Bx Sh Fz AnchW Next n Wk cr p0 (upd D i ⟨s',m',d'⟩) tag' f' d0 a' st' sm' gs' w' (t++ops)/\LtJ (mu n (upd D i ⟨s',m',d'⟩) tag' f') (mu n D tag f0):=by
 have hi0:(i==0)=false:=by simp[hi]
 have hrun:=runT_crowd_go (P:=P) (sl:=sl) (i:=i) hx (by rw[hi0];exact hgo)
 have hcc:∀j,Wk j->(D j).stage=9->w'.heap[(cr j).s.c]?=w.heap[(cr j).s.c]?:=λj hj _=>by
  by_cases hW:Wk i
  . exact hrel.block _ (G.cW j hj) (G.cB j i hj hW)
  . rw[hsame (.inl hW)]
 obtain⟨o1,o2,o3,o4⟩:=J.others (x':=x') hi hx hcc;obtain⟨tag',f',h1,h2,h3⟩:=(J.main.rely (Join.rm G hrel (λh=>hsame (.inl h)) hwg')).woken hA x x';have htag:xd tag tag':=h1.imp (λy=>y.1) (λy=>⟨y.1,y.2.1⟩)
 have hnr:∀op∈MemOp.ofEvents i x.frame.fn x.frame.place es,op.act≠.mark (.release (stA Wg)):=λop hop=>by
  obtain⟨e,he,rfl⟩:=Go.Conc.mem_ofEvents hop;intro e0;have:=hn e he;obtain⟨loc,wr,sy⟩:=e;cases loc with
  |mark m=>cases e0;exact this rfl
  |obj c=>cases wr<;>cases sy<;>cases e0
  |_=>cases wr<;>cases sy<;>cases e0
 refine⟨_,_,tag',f',Go.Conc.woken P x x' w' a,hrun,?_,lower (J.lt hx) htag (by rcases h1 with ⟨_,e⟩|⟨_,_,e,_⟩<;>omega) hlt⟩;have hle:s'<=(D i).stage:=by rcases hlt with h|h<;>omega
 exact J.step G hi hx hrel hsame hwg' hs' hle h9 qdf hh hnr hok (by rw[Deaf_own,(J.jW i x hi hx).2];exact hdf) h2 (q57 htag) (hmode tag' htag h3) o1 o2 o3 o4
end
end
section
open Go.Conc
open Go.ConcN (sumTo upd sumTo_upd upd_ne upd_same sumTo_congr le_sumTo WgLive RW DWs WSit WD AtR0 PayAt cnt Vc Ssum Fsum ShN)
open Go.ConcR (KK WgAt stA smA rd wr mk Payload)
theorem xc.refl[Payload](Wg b:Nat)(w:World):xc Wg b w w:=⟨rfl,rfl,rfl,rfl,λ_ _ _=>rfl,id⟩
theorem xc.of[Payload]{Wg b:Nat}{w w':World}(h:Aside Wg w w')(hb:b≠Wg):xc Wg b w w':=⟨h.tape,h.os,h.output,h.size,λr h1 _=>h.block r h1,λ⟨cs,h1,h2⟩=>⟨cs,(h.block b hb).trans h1,h2⟩⟩
theorem qgV(n:Nat)(D:Nat->WD):Vc n D<=n:=Go.ConcN.Vc_le n D
theorem q24{k:Touch.Kind}(h1:k≠.plain)(h2:k≠.said):k=.atomic:=by cases k<;>first|rfl|exact absurd rfl h1|exact absurd rfl h2
section
variable {Sh:Nat->Prop}{Fz:Loc->Prop}{t:Trace}
theorem qkN{St:Nat->Loc->Prop}{Lf:Nat->Prop}{B i Wg:Nat}(H:zz Sh Fz St Lf 0 B t)(hL:¬Lf i)(hS:Sh Wg)(hB:Wg<B){es:Array Event}(he:∀e∈es,Go.ConcN.EvW Wg qo6 qo6 1 e)(fn:FuncId)(pos:String) :
   zz Sh Fz St Lf 0 B (t++MemOp.ofEvents i fn pos es):=by
 have key:∀op∈MemOp.ofEvents i fn pos es,∀x,op.act.touch?=some x->(∃b:Addr,x.loc=.cell b/\b.block=Wg)/\x.kind=.atomic:=λop hop x hx=>by
  obtain⟨e,hee,rfl⟩:=Go.Conc.mem_ofEvents hop;rcases ((he e hee).1 fn pos).2 x hx with ⟨⟨b,h1,h2⟩,h3,h4⟩|h1|⟨h1,_⟩
  . exact⟨⟨b,h1,h2⟩,q24 h3 h4⟩
  . exact h1.elim
  . exact h1.elim
 refine H.atomic hL qdf (λop hop x hx=>?_) (λop hop x hx=>?_)
 . obtain⟨⟨b,h1,h2⟩,h3⟩:=key op hop x hx;rw[h1];exact⟨show Sh b.block from h2▸hS,h3⟩
 . obtain⟨⟨b,h1,h2⟩,_⟩:=key op hop x hx;rw[h1];show b.block<B;rw[h2];exact hB
theorem q78{St:Nat->Loc->Prop}{Lf:Nat->Prop}{B i Wg:Nat}(H:zz Sh Fz St Lf 0 B t)(hL:¬Lf i)(hS:Sh Wg)(hB:Wg<B){es:Array Event}(he:∀e,e∈es->∀x,(MemAct.ofEvent e).touch?=some x->(∃b:Addr,x.loc=.cell b/\b.block=Wg)/\x.kind=.atomic)(fn:FuncId)(pos:String) :
   zz Sh Fz St Lf 0 B (t++MemOp.ofEvents i fn pos es):=by
 refine H.atomic hL qdf (λop hop x hx=>?_) (λop hop x hx=>?_)
 . obtain⟨e,hee,rfl⟩:=Go.Conc.mem_ofEvents hop;obtain⟨⟨b,h1,h2⟩,h3⟩:=he e hee x hx;rw[h1];exact⟨show Sh b.block from h2▸hS,h3⟩
 . obtain⟨e,hee,rfl⟩:=Go.Conc.mem_ofEvents hop;obtain⟨⟨b,h1,h2⟩,_⟩:=he e hee x hx;rw[h1];show b.block<B;rw[h2];exact hB
theorem q0h{St:Nat->Loc->Prop}{Lf:Nat->Prop}{B i:Nat}(H:zz Sh Fz St Lf 0 B t){es:Array Event}(he:∀e,e∈es->∃m,e.loc=.mark m/\(∀b,m≠.read b/\m≠.write b))(fn:FuncId)(pos:String) :
   zz Sh Fz St Lf 0 B (t++MemOp.ofEvents i fn pos es)/\∀op∈MemOp.ofEvents i fn pos es,op.act.touch?=none:=by
 have key:∀op∈MemOp.ofEvents i fn pos es,op.act.touch?=none:=λop hop=>by
  obtain⟨e,hee,rfl⟩:=Go.Conc.mem_ofEvents hop;obtain⟨m,h1,h2⟩:=he e hee;obtain⟨l,x1,x2⟩:=e;cases h1;cases m with
  |read b=>exact absurd rfl (h2 b).1
  |write b=>exact absurd rfl (h2 b).2
  |_=>rfl
 exact⟨H.mute key,key⟩
end
section
variable {P:Program}{w:World}
theorem qd1{main:Bool}{R:World->World->Prop}{Dd:World->World->Array Event->Prop}{Stop:Goroutine->World->Prop}{m:Nat}{g:Goroutine}(hR:R w w)(h:Goes P main R Dd Stop m g w) :
   Stop g w∨∃m',m=m'+1/\∃g' w' es,stepG P main g w=.go g' w' es/\Dd w w' es/\Goes P main R Dd Stop m' g' w':=by
 cases m with
 |zero=>exact .inl (h w hR)
 |succ m=>
  rcases h with h|⟨_,h⟩
  . exact .inl (h w hR)
  . obtain⟨g',w',es,h1,h2,h3⟩:=goes_elim (h w hR);exact .inr ⟨m,rfl,g',w',es,h1,h2,h3⟩
end
section
variable [Payload]{P:Program}{ty:TypeId}{Wg:Nat}{Bx:Nat->Prop}{Sh:Nat->Prop}{Fz:Loc->Prop}{AnchW Next:Goroutine->World->Prop}{n:Nat}{Wk:Nat->Prop}{cr:Nat->Hands}{p0:Nat}
 {D:Nat->WD} {tag:Tag} {f0 d0:Nat} {a:Goroutine} {st sm:Int} {gs:Array Goroutine} {w:World} {t:Trace}
def qq9[Payload](P:Program)(ty:TypeId)(Wg:Nat)(Bx:Nat->Prop)(Sh:Nat->Prop)(Fz:Loc->Prop)(AnchW Next:Goroutine->World->Prop)(n:Nat)(Wk:Nat->Prop)(cr:Nat->Hands)(p0:Nat)
   (D:Nat->WD) (tag:Tag) (f0 d0:Nat) (gs:Array Goroutine) (w:World) (t:Trace) (sl:Option (Nat×Nat)) (i:Nat):Prop:=
 ∃gs' w' ops D' tag' f' a' st' sm',runT P (crowd gs w sl) i=(.next (crowd gs' w' sl),ops)/\Join P ty Wg Bx Sh Fz AnchW Next n Wk cr p0 D' tag' f' d0 a' st' sm' gs' w' (t++ops)/\LtJ (mu n D' tag' f') (mu n D tag f0)
theorem Join.quit(G:zX P ty Wg Bx Sh Fz n Wk cr)(hA:∀g w,AnchW g w->g.status=.running)(J:Join P ty Wg Bx Sh Fz AnchW Next n Wk cr p0 D tag f0 d0 a st sm gs w t){i:Nat}{x:Goroutine}(hi:i≠0)(hx:gs[i]?=some x)(hr:x.status=.running)
   (hs:(D i).stage=1) (sl:Option (Nat×Nat)):qq9 P ty Wg Bx Sh Fz AnchW Next n Wk cr p0 D tag f0 d0 gs w t sl i:=by
 obtain⟨hJ,hd⟩:=J.jW i x hi hx;have hW:=hJ.low (by omega);rw[hs]at hW;cases hW with
 |quit hq=>
  cases hf:(D i).fuel with
  |zero=>rw[hf]at hq;rw[hq.1]at hr;cases hr
  |succ m=>
   rw[hf]at hq;rcases hq with ⟨h1,_⟩|⟨_,x',es,hm,hst,hq'⟩
   . rw[h1]at hr;cases hr
   . have hmt:∀op∈MemOp.ofEvents i x.frame.fn x.frame.place es,op.act.touch?=none:=λop hop=>by obtain⟨e,he,rfl⟩:=Go.Conc.mem_ofEvents hop;exact touch_mute (hm e he)
     obtain⟨gs',ops,tag',f',a',h1,h2,h3⟩:=J.go G hA hi hx (sl:=sl) (s':=1) (m':=m) (hst w) (xc.refl _ _ w) (λ_=>rfl) J.wg (.of (.quit hq')) (.inr ⟨hs.symm,by omega⟩) (by rw[hs])
      (J.tr.zC.mute hmt) (λe he e0=>by have:=hm e he;obtain⟨l,x1,x2⟩:=e;cases e0;cases this) (λhw _=>(J.tr.rel i hw (by omega)).other (λop hop _=>hmt op hop)) rfl
      (λtag' ht _=>(by have:=(J.mode.same (i:=i) m (deafBehind (D i).deaf es)).retag ht;rw[hs]at this;exact this))
     exact⟨gs',w,ops,_,tag',f',a',_,_,h1,h2,h3⟩
theorem Join.yU(J:Join P ty Wg Bx Sh Fz AnchW Next n Wk cr p0 D tag f0 d0 a st sm gs w t){i:Nat}(h:(D i).stage≠1):Wk i:=Classical.byContradiction (λhn=>h (J.old i hn))
theorem Join.wlt(J:Join P ty Wg Bx Sh Fz AnchW Next n Wk cr p0 D tag f0 d0 a st sm gs w t):Wg<w.heap.size:=(Array.getElem?_eq_some_iff.1 J.wg).1
theorem Join.rel(G:zX P ty Wg Bx Sh Fz n Wk cr)(hA:∀g w,AnchW g w->g.status=.running)(J:Join P ty Wg Bx Sh Fz AnchW Next n Wk cr p0 D tag f0 d0 a st sm gs w t){i:Nat}{x:Goroutine}(hi:i≠0)(hx:gs[i]?=some x)
   (hs:(D i).stage=7) (sl:Option (Nat×Nat)):qq9 P ty Wg Bx Sh Fz AnchW Next n Wk cr p0 D tag f0 d0 gs w t sl i:=by
 obtain⟨hJ,hd⟩:=J.jW i x hi hx;have hWk:=J.yU (i:=i) (by omega);have hL:¬LfJ Wk i:=λh=>h.2 hWk;have hW:=hJ.low (by omega);rw[hs]at hW;generalize hdd:(D i).deaf=dd at hW;cases hW with
 |r0 hg=>
  rcases qd1 (RW.refl w) hg with hst|⟨m',hm,g',w',es,hgo,⟨hcell,hev⟩,hg'⟩
  . obtain⟨_,_,g',hgo,m',hg'⟩:=hst;obtain⟨hh,_⟩:=q0h (i:=i) J.tr.zC (es:=#[Go.ConcR.mk (Mark.releaseMerge (stA Wg))]) (λe he=>⟨.releaseMerge (stA Wg),by rw[Array.mem_singleton]at he;rw[he];rfl,λb=>⟨by simp,by simp⟩⟩) x.frame.fn x.frame.place
    obtain⟨gs',ops,tag',f',a',h1,h2,h3⟩:=J.go G hA hi hx (sl:=sl) (s':=6) (m':=m') (d':=0) hgo (xc.refl _ _ w) (λ_=>rfl) J.wg (.of (.k1 hg')) (.inl ⟨by omega,by simp[cnt,hs]⟩) (by rw[hs];omega) hh
     (λe he e0=>by rw[Array.mem_singleton]at he;rw[he]at e0;cases e0) (λ_ _=>by
      have:MemOp.ofEvents i x.frame.fn x.frame.place #[Go.ConcR.mk (Mark.releaseMerge (stA Wg))]=#[{g:=i,fn:=x.frame.fn,pos:=x.frame.place,act:=.mark (.releaseMerge (stA Wg))}]:=by simp[MemOp.ofEvents,Go.ConcR.mk,MemAct.ofEvent]
      rw[this];exact zT.new J.tr.start rfl rfl (by rw[hd,hdd])) (by rw[hdd];rfl) (λtag' ht _=>(J.mode.counted (J.lt hx) (by omega) (s':=6) (by omega) m' 0).retag ht)
    exact⟨gs',w,ops,_,tag',f',a',_,_,h1,h2,h3⟩
  . have hwg':WgAt ty Wg w' st sm:=(hcell.block Wg (λe=>G.bxW i hWk e.symm)).trans J.wg
    obtain⟨gs',ops,tag',f',a',h1,h2,h3⟩:=J.go G hA hi hx (sl:=sl) (s':=7) (m':=m') (d':=0) hgo ⟨hcell.tape,hcell.os,hcell.output,hcell.size,λr _ h=>hcell.block r h,hcell.pay⟩ (λh=>h.elim (λy=>absurd hWk y) (λy=>by omega)) hwg' (.of (.r0 hg')) (.inr ⟨hs.symm,by omega⟩) (by rw[hs])
     (qkN J.tr.zC hL G.xE J.wlt hev _ _) (λe he=>(hev e he).2.2.2) (λ_ h=>by omega) (by rw[hdd];exact deafBehind_still (λe he=>⟨(hev e he).2.1,(hev e he).2.2.1⟩) 0)
     (λtag' ht _=>by have:=(J.mode.same (i:=i) m' 0).retag ht;rw[hs]at this;exact this)
    exact⟨gs',w',ops,_,tag',f',a',_,_,h1,h2,h3⟩
theorem Join.idle(G:zX P ty Wg Bx Sh Fz n Wk cr)(hA:∀g w,AnchW g w->g.status=.running)(J:Join P ty Wg Bx Sh Fz AnchW Next n Wk cr p0 D tag f0 d0 a st sm gs w t){i:Nat}{x x':Goroutine}(hi:i≠0)(hx:gs[i]?=some x)
   {m':Nat} (hgo:stepG P false x w=.go x' w #[]) (hs':vn P ty Wg (cr i) (D i).stage m' (D i).deaf x' w) (hlt:m'<(D i).fuel) (sl:Option (Nat×Nat)):qq9 P ty Wg Bx Sh Fz AnchW Next n Wk cr p0 D tag f0 d0 gs w t sl i:=by
 have hnil:MemOp.ofEvents i x.frame.fn x.frame.place #[]=#[]:=by simp[MemOp.ofEvents]
 have hb:t++MemOp.ofEvents i x.frame.fn x.frame.place #[]=t:=by rw[hnil];simp
 obtain⟨gs',ops,tag',f',a',h1,h2,h3⟩:=J.go G hA hi hx (sl:=sl) (s':=(D i).stage) (m':=m') (d':=(D i).deaf) hgo (xc.refl _ _ w) (λ_=>rfl) J.wg hs' (.inr ⟨rfl,hlt⟩) Iff.rfl
  (by rw[hb];exact J.tr.zC) (λe he=>by simp at he) (λhW h=>by rw[hb];exact J.tr.rel i hW h) rfl (λtag' ht _=>(J.mode.same (i:=i) m' (D i).deaf).retag ht)
 exact⟨gs',w,ops,_,tag',f',a',_,_,h1,h2,h3⟩
theorem Join.dis(G:zX P ty Wg Bx Sh Fz n Wk cr)(hA:∀g w,AnchW g w->g.status=.running)(J:Join P ty Wg Bx Sh Fz AnchW Next n Wk cr p0 D tag f0 d0 a st sm gs w t){i:Nat}{x:Goroutine}(hi:i≠0)(hx:gs[i]?=some x)
   (hs:(D i).stage=6) (sl:Option (Nat×Nat)):qq9 P ty Wg Bx Sh Fz AnchW Next n Wk cr p0 D tag f0 d0 gs w t sl i:=by
 obtain⟨hJ,hd⟩:=J.jW i x hi hx;have hW:=hJ.low (by omega);rw[hs]at hW;generalize hdd:(D i).deaf=dd at hW;cases hW with
 |k1 hg=>
  rcases qd1 (RW.refl w) hg with hst|⟨m',hm,g',w',es,hgo,⟨rfl,rfl⟩,hg'⟩
  . obtain⟨_,g',hgo,m',hg'⟩:=hst;obtain⟨hh,hm⟩:=q0h (i:=i) J.tr.zC (es:=#[Go.ConcR.mk .disable]) (λe he=>⟨.disable,by rw[Array.mem_singleton]at he;rw[he];rfl,λb=>⟨by simp,by simp⟩⟩) x.frame.fn x.frame.place
    obtain⟨gs',ops,tag',f',a',h1,h2,h3⟩:=J.go G hA hi hx (sl:=sl) (s':=5) (m':=m') (d':=1) hgo (xc.refl _ _ w) (λ_=>rfl) J.wg (.of (.d1 hg')) (.inl ⟨by omega,by simp[cnt,hs]⟩) (by rw[hs];omega) hh
     (λe he e0=>by rw[Array.mem_singleton]at he;rw[he]at e0;cases e0) (λhw _=>(J.tr.rel i hw (by omega)).other (λop hop _=>hm op hop)) (by rw[hdd];rfl)
     (λtag' ht _=>(J.mode.counted (J.lt hx) (by omega) (s':=5) (by omega) m' 1).retag ht)
    exact⟨gs',w,ops,_,tag',f',a',_,_,h1,h2,h3⟩
  . exact J.idle G hA hi hx hgo (by rw[hs,hdd];exact .of (.k1 hg')) (by omega) sl
end
end
section
open Go.Conc
open Go.ConcN (sumTo upd sumTo_upd upd_ne upd_same sumTo_congr le_sumTo WgLive RW DWs WSit WD AtR0 PayAt cnt Vc Ssum Fsum ShN)
open Go.ConcR (KK WgAt stA smA rd wr Payload)
theorem qeH(a:Addr)(Wg:Nat)(h:a.block=Wg):∀x,(MemAct.ofEvent (rd a)).touch?=some x->(∃b:Addr,x.loc=.cell b/\b.block=Wg)/\x.kind=.atomic:=λx hx=>by
 cases hx;exact⟨⟨a,rfl,h⟩,rfl⟩
theorem qeI(a:Addr)(Wg:Nat)(h:a.block=Wg):∀x,(MemAct.ofEvent (wr a)).touch?=some x->(∃b:Addr,x.loc=.cell b/\b.block=Wg)/\x.kind=.atomic:=λx hx=>by
 cases hx;exact⟨⟨a,rfl,h⟩,rfl⟩
structure Book(Wg:Nat)(es:Array Event):Prop where
 touch:∀e,e∈es->∀x,(MemAct.ofEvent e).touch?=some x->(∃b:Addr,x.loc=.cell b/\b.block=Wg)/\x.kind=.atomic
 last:∀(j:Nat) (e:Event),es[j]?=some e->(MemAct.ofEvent e).touch?≠none->∀(j':Nat),j'<j->∀(e':Event),es[j']?=some e'->MemAct.ofEvent e'≠.mark .enable
 norel:∀e,e∈es->e.loc≠.mark (.release (stA Wg))
theorem quq(Wg:Nat):Book Wg #[rd (stA Wg)]:=by
 refine⟨λe he=>?_,λj e hj _ j' hlt e' he'=>?_,λe he=>?_⟩
 . rw[Array.mem_singleton]at he;rw[he];exact qeH _ _ rfl
 . have:=(Array.getElem?_eq_some_iff.1 hj).1;simp at this;omega
 . rw[Array.mem_singleton]at he;rw[he];simp[rd]
theorem qkO(Wg:Nat):Book Wg #[wr (stA Wg)]:=by
 refine⟨λe he=>?_,λj e hj _ j' hlt e' he'=>?_,λe he=>?_⟩
 . rw[Array.mem_singleton]at he;rw[he];exact qeI _ _ rfl
 . have:=(Array.getElem?_eq_some_iff.1 hj).1;simp at this;omega
 . rw[Array.mem_singleton]at he;rw[he];simp[wr]
theorem qo2(Wg:Nat):Book Wg #[rd (stA Wg),wr (stA Wg)]:=by
 refine⟨λe he=>?_,λj e hj _ j' hlt e' he'=>?_,λe he=>?_⟩
 . have:e=rd (stA Wg)∨e=wr (stA Wg):=by simpa using he
   rcases this with rfl|rfl
   . exact qeH _ _ rfl
   . exact qeI _ _ rfl
 . have:=(Array.getElem?_eq_some_iff.1 hj).1;simp at this;obtain rfl:j'=0:=by omega
   cases he';exact λh=>by cases h
 . have:e=rd (stA Wg)∨e=wr (stA Wg):=by simpa using he
   rcases this with rfl|rfl<;>simp[rd,wr]
theorem q4u(Wg:Nat):Book Wg (semEvents (smA Wg)):=by
 have four:∀e,e∈semEvents (smA Wg)->e=⟨.mark .disable,false,true⟩∨e=rd (smA Wg)∨e=wr (smA Wg)∨e=⟨.mark .enable,false,true⟩:=λe he=>by
  simpa[semEvents,rd,wr]using he
 refine⟨λe he=>?_,λj e hj ht j' hlt e' he'=>?_,λe he=>?_⟩
 . rcases four e he with rfl|rfl|rfl|rfl
   . intro x hx;cases hx
   . exact qeH _ _ rfl
   . exact qeI _ _ rfl
   . intro x hx;cases hx
 . have hsz:=(Array.getElem?_eq_some_iff.1 hj).1;simp[semEvents]at hsz
   match j,hsz with
   |0,_=>omega
   |1,_=>
    obtain rfl:j'=0:=by omega
    cases he';exact λh=>by cases h
   |2,_=>
    match j',hlt with
    |0,_=>cases he';exact λh=>by cases h
    |1,_=>cases he';exact λh=>by cases h
   |3,_=>cases hj;exact absurd rfl ht
 . rcases four e he with rfl|rfl|rfl|rfl<;>simp[rd,wr]
theorem uncounted{n:Nat}{D:Nat->WD}{i:Nat}(hi:i<n)(h1:Vc n D=1)(hc:cnt (D i)=1):∀a,a<n->a≠i->cnt (D a)=0:=by
 intro a ha e;have h0:=q0g (D:=D) (⟨0,0,0⟩:WD) hi;have c0:cnt (⟨0,0,0⟩:WD)=0:=rfl;have:=le_sumTo (f:=λx=>cnt (upd D i ⟨0,0,0⟩ x)) ha;simp only[upd_ne D _ e]at this;simp only[Vc]at h0 h1;omega
theorem qL.isLast{n:Nat}{D:Nat->WD}{tag:Tag}{st sm:Int}{i:Nat}(hm:qL n D tag st sm)(hi:i<n)(h:(D i).stage=4∨(D i).stage=3∨(D i).stage=2) :
   isW tag/\(∀a,a<n->a≠i->(D a).stage=1)/\st=(if (D i).stage=2 then 0 else 1)/\sm=0:=by
 cases hm with
 |opn _ h2 _=>have:=h2 i hi;omega
 |reg _ h2 _=>have:=h2 i hi;omega
 |last L h1 h2 h3 h4=>
  by_cases e:i=L
  . subst e;exact⟨h1,h4,rfl,rfl⟩
  . have:=h4 i hi e;omega
 |sema h2=>have:=h2 i hi;omega
 |fin _ h2=>have:=h2 i hi;omega
theorem qL.xp{n:Nat}{D:Nat->WD}{tag:Tag}{i:Nat}(hw:isW tag)(hi:i<n)(ho:∀a,a<n->a≠i->(D a).stage=1){s' m' d':Nat}(hs:s'=3∨s'=2):qL n (upd D i ⟨s',m',d'⟩) tag (if s'=2 then 0 else 1) 0:=by
 have key:qL n (upd D i ⟨s',m',d'⟩) tag (if (upd D i ⟨s',m',d'⟩ i).stage=2 then 0 else 1) 0:=.last i hw hi (by rw[upd_same];exact hs.elim (λh=>.inr (.inl h)) (λh=>.inr (.inr h))) (λa ha e=>by rw[upd_ne D _ e];exact ho a ha e);rw[upd_same]at key;exact key
section
variable [Payload]{P:Program}{ty:TypeId}{Wg:Nat}{Bx:Nat->Prop}{Sh:Nat->Prop}{Fz:Loc->Prop}{AnchW Next:Goroutine->World->Prop}{n:Nat}{Wk:Nat->Prop}{cr:Nat->Hands}{p0:Nat}
 {D:Nat->WD} {tag:Tag} {f0 d0:Nat} {a:Goroutine} {st sm:Int} {gs:Array Goroutine} {w:World} {t:Trace}
theorem Join.book(G:zX P ty Wg Bx Sh Fz n Wk cr)(hA:∀g w,AnchW g w->g.status=.running)(J:Join P ty Wg Bx Sh Fz AnchW Next n Wk cr p0 D tag f0 d0 a st sm gs w t){i:Nat}{x:Goroutine}(hi:i≠0)(hx:gs[i]?=some x)
   (hs:2<=(D i).stage/\(D i).stage<=5) (hd:(D i).deaf=1) {x':Goroutine} {w':World} {es:Array Event} {s' m' d':Nat} {st' sm':Int} (hgo:stepG P false x w=.go x' w' es) (hw:Aside Wg w w') (hwg':WgAt ty Wg w' st' sm')
   (hb:Book Wg es) (hs':vn P ty Wg (cr i) s' m' d' x' w') (hlt:s'<(D i).stage) (hdf:deafBehind 1 es=d')
   (hmode:∀tag',xd tag tag'->(mayWake P x=true->x'.status≠.blocked->x'.status≠.waiting->tag'≠.blk)->qL n (upd D i ⟨s',m',d'⟩) tag' st' sm') (sl:Option (Nat×Nat)) :
   qq9 P ty Wg Bx Sh Fz AnchW Next n Wk cr p0 D tag f0 d0 gs w t sl i:=by
 have hWk:=J.yU (i:=i) (by omega);have hL:¬LfJ Wk i:=λh=>h.2 hWk;have hdt:Deaf t i=1:=(J.jW i x hi hx).2.trans hd
 obtain⟨gs',ops,tag',f',a',h1,h2,h3⟩:=J.go G hA hi hx (sl:=sl) (s':=s') (m':=m') (d':=d') hgo (xc.of hw (G.bxW i hWk)) (λh=>h.elim (λy=>absurd hWk y) (λy=>by omega)) hwg' hs'
  (.inl ⟨hlt,by simp only[cnt];split<;>split<;>omega⟩) (by omega) (q78 J.tr.zC hL G.xE J.wlt hb.touch _ _) hb.norel
  (λhW _=>(J.tr.rel i hW (by omega)).app (λj op y hj hy hg hyt=>by
   rcases getElem?_append_cases hy with ⟨hlt',_⟩|⟨_,hop⟩
   . omega
   . obtain⟨e,hee,rfl⟩:=Go.Conc.mem_ofEvents hop;exact⟨(hb.touch e hee y hyt).2,q0l (by rw[hdt];exact Nat.one_pos) hb.last j _ y hj hy hyt⟩)) (by rw[hd];exact hdf) hmode
 exact⟨gs',w',ops,_,tag',f',a',_,_,h1,h2,h3⟩
theorem Join.add(G:zX P ty Wg Bx Sh Fz n Wk cr)(hA:∀g w,AnchW g w->g.status=.running)(J:Join P ty Wg Bx Sh Fz AnchW Next n Wk cr p0 D tag f0 d0 a st sm gs w t){i:Nat}{x:Goroutine}(hi:i≠0)(hx:gs[i]?=some x)
   (hs:(D i).stage=5) (sl:Option (Nat×Nat)):qq9 P ty Wg Bx Sh Fz AnchW Next n Wk cr p0 D tag f0 d0 gs w t sl i:=by
 obtain⟨hJ,hd⟩:=J.jW i x hi hx;have hin:=J.lt hx;have hW:=hJ.low (by omega);rw[hs]at hW;generalize hdd:(D i).deaf=dd at hW;have hci:cnt (D i)=1:=by simp[cnt,hs]
 have hV1:1<=Vc n D:=by
  have:=le_sumTo (f:=λa=>cnt (D a)) hin;simp only[Vc];omega
 have hVn:=qgV n D;have vN:=G.few;cases hW with
 |d1 hg=>
  rcases qd1 (RW.refl w) hg with hst|⟨m',hm,g',w',es,hgo,⟨rfl,rfl⟩,hg'⟩
  . obtain⟨_,hst⟩:=hst;obtain⟨v,hv⟩:∃v,Vc n D=v+1:=⟨Vc n D-1,by omega⟩
    have others:∀s' m' d',(∀a,a<n->5<=(D a).stage∨(D a).stage=1)->(s'=1∨5<=s')->∀a,a<n->5<=(upd D i ⟨s',m',d'⟩ a).stage∨(upd D i ⟨s',m',d'⟩ a).stage=1:=λs' m' d' h hs' a ha=>by
     by_cases e:a=i
     . subst e;rw[upd_same];exact hs'.elim .inr .inl
     . rw[upd_ne D _ e];exact h a ha
    have hvc:∀m' d',Vc n (upd D i ⟨1,m',d'⟩)=v:=λm' d'=>by
     have:=q0g (D:=D) (⟨1,m',d'⟩:WD) hin;have c1:cnt (⟨1,m',d'⟩:WD)=0:=rfl;omega
    have wga:=J.wg;have hmode:=J.mode;cases hmode with
    |opn h1 h2 h3=>
     rw[hv]at wga;obtain⟨g',hgo,_,hq⟩:=hst v 0 (by omega) (by omega) (by simpa using wga);obtain⟨q,hq⟩:=hq (λh=>by omega)
     have qdA:WgAt ty Wg (w.setCell (stA Wg) (.int .u64 (v*KK+(0:Nat)))) (v*KK) 0:=by
      have:=wga.setSt (v*KK+(0:Nat));simpa using this
     exact J.book G hA hi hx (by omega) hdd hgo (aside_setCell w (stA Wg) _) qdA (qo2 Wg) (.of (.quit hq)) (by omega) rfl
      (λtag' ht _=>by
       have key:qL n (upd D i ⟨1,q,1⟩) tag ((Vc n (upd D i ⟨1,q,1⟩):Nat)*KK) 0:=.opn h1 (others 1 q 1 h2 (.inl rfl)) (λvs e=>by rw[hvc];have:=h3 vs e;omega);rw[hvc]at key;exact key.retag ht) sl
    |reg h1 h2 h3=>
     rw[hv]at wga;obtain⟨g',hgo,hl,hq⟩:=hst v 1 (by omega) (by omega) (by simpa using wga)
     have qdA:WgAt ty Wg (w.setCell (stA Wg) (.int .u64 (v*KK+(1:Nat)))) (v*KK+1) 0:=by
      have:=wga.setSt (v*KK+(1:Nat));simpa using this
     by_cases hv0:v=0
     . subst hv0;obtain⟨m',hg'⟩:=hl ⟨rfl,rfl⟩;refine J.book G hA hi hx (by omega) hdd hgo (aside_setCell w (stA Wg) _) qdA (qo2 Wg) (.of (.d2 hg')) (by omega) rfl (λtag' ht _=>?_) sl;have hun:=uncounted hin hv hci
       have key:qL n (upd D i ⟨4,m',1⟩) tag (if (upd D i ⟨4,m',1⟩ i).stage=2 then 0 else 1) 0:=.last i h1 hin (by rw[upd_same];exact .inl rfl) (λa ha e=>by
        rw[upd_ne D _ e];have h4:=hun a ha e;rcases h2 a ha with h5|h5
        . simp[cnt,h5]at h4
        . exact h5)
       rw[upd_same]at key;have e1:(((0:Nat):Int)*KK+1)=1:=by simp
       rw[e1];exact key.retag ht
     . obtain⟨q,hq⟩:=hq (λh=>hv0 h.1)
       exact J.book G hA hi hx (by omega) hdd hgo (aside_setCell w (stA Wg) _) qdA (qo2 Wg) (.of (.quit hq)) (by omega) rfl
        (λtag' ht _=>by
         have key:qL n (upd D i ⟨1,q,1⟩) tag ((Vc n (upd D i ⟨1,q,1⟩):Nat)*KK+1) 0:=.reg h1 (others 1 q 1 h2 (.inl rfl)) (by rw[hvc];omega);rw[hvc]at key;exact key.retag ht) sl
    |last L h1 h2 h3 h4=>
     by_cases e:i=L
     . subst e;omega
     . have:=h4 i hin e;omega
    |sema h2=>have:=h2 i hin;omega
    |fin h1 h2=>have:=h2 i hin;omega
  . exact J.idle G hA hi hx hgo (by rw[hs,hdd];exact .of (.d1 hg')) (by omega) sl
theorem Join.wakes(G:zX P ty Wg Bx Sh Fz n Wk cr)(hA:∀g w,AnchW g w->g.status=.running)(J:Join P ty Wg Bx Sh Fz AnchW Next n Wk cr p0 D tag f0 d0 a st sm gs w t){i:Nat}{x:Goroutine}(hi:i≠0)(hx:gs[i]?=some x)
   (hs:(D i).stage=4∨(D i).stage=3∨(D i).stage=2) (sl:Option (Nat×Nat)):qq9 P ty Wg Bx Sh Fz AnchW Next n Wk cr p0 D tag f0 d0 gs w t sl i:=by
 obtain⟨hJ,hd⟩:=J.jW i x hi hx;have hin:=J.lt hx;have hW:=hJ.low (by omega);obtain⟨k1,k2,k3,k4⟩:=J.mode.isLast hin hs;have wga:=J.wg;generalize hss:(D i).stage=s at hW;generalize hdd:(D i).deaf=dd at hW;cases hW with
 |d2 hg=>
  rw[k3,k4,if_neg (by omega)]at wga;rcases qd1 (RW.refl w) hg with hst|⟨m',hm,g',w',es,hgo,⟨rfl,rfl⟩,hg'⟩
  . obtain⟨g',hgo,m',hg'⟩:=hst.2 wga;exact J.book G hA hi hx (by omega) hdd hgo ⟨rfl,rfl,rfl,rfl,λ_ _=>rfl⟩ wga (quq Wg) (.of (.d3 hg')) (by omega) rfl (λtag' ht _=>(qL.xp (s':=3) k1 hin k2 (.inl rfl)).retag ht) sl
  . exact J.idle G hA hi hx hgo (by rw[hss,hdd];exact .of (.d2 hg')) (by omega) sl
 |d3 hg=>
  rw[k3,k4,if_neg (by omega)]at wga;rcases qd1 (RW.refl w) hg with hst|⟨m',hm,g',w',es,hgo,⟨rfl,rfl⟩,hg'⟩
  . obtain⟨g',hgo,m',hg'⟩:=hst.2 wga;exact J.book G hA hi hx (by omega) hdd hgo (aside_setCell w (stA Wg) _) (wga.setSt 0) (qkO Wg) (.of (.d4 hg')) (by omega) rfl (λtag' ht _=>(qL.xp (s':=2) k1 hin k2 (.inr rfl)).retag ht) sl
  . exact J.idle G hA hi hx hgo (by rw[hss,hdd];exact .of (.d3 hg')) (by omega) sl
 |d4 hg=>
  rw[k3,k4,if_pos (by omega)]at wga;rcases qd1 (RW.refl w) hg with hst|⟨m',hm,g',w',es,hgo,⟨rfl,rfl⟩,hg'⟩
  . obtain⟨_,qeJ,hst⟩:=hst;obtain⟨g',hgo,q,hq⟩:=hst wga;refine J.book G hA hi hx (by omega) hdd hgo (aside_setCell w (smA Wg) _) (wga.setSm 1) (q4u Wg) (.of (.quit hq)) (by omega) rfl (λtag' ht hwk=>?_) sl;have qgW:=hq.status;have hne:tag'≠.blk:=hwk qeJ (by rcases qgW with e|e<;>rw[e]<;>simp) (by rcases qgW with e|e<;>rw[e]<;>simp)
    have hw3:tag'=.w3:=by
     rcases ht with rfl|⟨_,e⟩
     . cases tag'<;>first|rfl|exact absurd rfl hne|exact k1.elim
     . exact e
    rw[hw3]
    exact .sema (λa ha=>by
     by_cases e:a=i
     . subst e;rw[upd_same]
     . rw[upd_ne D _ e];exact k2 a ha e)
  . exact J.idle G hA hi hx hgo (by rw[hss,hdd];exact .of (.d4 hg')) (by omega) sl
 |_=>omega
end
theorem stepG_same{P:Program}{main:Bool}{g:Goroutine}{fr:Frame}{cs:List Frame}{w:World}(h1:g.frame=fr)(h2:g.callers=cs)(h3:g.dying=none):stepG P main g w=stepG P main (G fr cs) w:=by
 obtain⟨f,c,st,dy,of⟩:=g;cases h1;cases h2;cases h3;rfl
theorem qyo{g:Goroutine}(h:g.offers=none)(c:Nat)(b:Bool):offersAt g c b=[]:=by
 unfold offersAt;rw[h];cases g.status<;>rfl
theorem q58{L:List (Addr×Value)}{e:Event}(h:qut L e)(b:Addr):e.loc≠.mark (.release b):=by
 obtain⟨_,_,x,_,h⟩:=h;rw[h];exact λe=>by cases e
section
variable [Payload]{P:Program}{ty:TypeId}{Wg:Nat}{Bx:Nat->Prop}{Sh:Nat->Prop}{Fz:Loc->Prop}{AnchW Next:Goroutine->World->Prop}{n:Nat}{Wk:Nat->Prop}{cr:Nat->Hands}{p0:Nat}
 {D:Nat->WD} {tag:Tag} {f0 d0:Nat} {a:Goroutine} {st sm:Int} {gs:Array Goroutine} {w:World} {t:Trace}
theorem Join.yV(hA:∀g w,AnchW g w->g.status=.running)(J:Join P ty Wg Bx Sh Fz AnchW Next n Wk cr p0 D tag f0 d0 a st sm gs w t)(i c:Nat):partners (gs.setIfInBounds i ph) c true=[]:=
 partners_nil (λj y hy=>by
  rcases getElem?_stand gs i j y hy with ⟨_,rfl⟩|⟨_,hy'⟩
  . exact offersAt_ph _ _
  . by_cases h0:j=0
    . subst h0;rw[J.here]at hy';cases hy';rcases J.main.status hA with ⟨h,_⟩|⟨_,_,h⟩
      . exact offersAt_of_not_blocked (by rw[h];simp) _ _
      . exact qyo h _ _
    . rcases (J.jW j y h0 hy').1.status with h|⟨h,_⟩|⟨_,h⟩
      . exact offersAt_of_not_blocked (by rw[h];simp) _ _
      . exact offersAt_of_not_blocked (by rw[h];simp) _ _
      . rw[h];exact offersAt_parked_recv' _ _ _ _ _)
theorem Join.vK(J:Join P ty Wg Bx Sh Fz AnchW Next n Wk cr p0 D tag f0 d0 a st sm gs w t){i:Nat}(hi:i≠0)(hWk:Wk i)(h8:8<=(D i).stage){es:Array Event}(hes:∀e,e∈es->qut (cr i).s.L e)(fn:FuncId)(pos:String) :
   zz Sh Fz (StJ Wk cr D) (LfJ Wk) 0 w.heap.size (t++MemOp.ofEvents i fn pos es)/\∀d,deafBehind d es=d:=by
 have⟨r1,r2,r3,r4⟩:=qyr (i:=i) (fn:=fn) (pos:=pos) hes (qlg (J.fact i hWk h8).1);exact⟨J.tr.zC.by hi (λh=>h.2 hWk) r1 (λop hop y hy=>⟨⟨hWk,h8,(r2 op hop y hy).1⟩,(r2 op hop y hy).2⟩) r3,r4⟩
theorem Join.reads(G:zX P ty Wg Bx Sh Fz n Wk cr)(hA:∀g w,AnchW g w->g.status=.running)(J:Join P ty Wg Bx Sh Fz AnchW Next n Wk cr p0 D tag f0 d0 a st sm gs w t){i:Nat}{x x':Goroutine}(hi:i≠0)(hx:gs[i]?=some x)
   (h8:8<=(D i).stage) (hWk:Wk i) {m':Nat} {es:Array Event} (hgo:∀w,holds (cr i).s.L w->stepG P false x w=.go x' w es) (hes:∀e,e∈es->qut (cr i).s.L e) (hs':vn P ty Wg (cr i) (D i).stage m' (D i).deaf x' w) (hlt:m'<(D i).fuel)
   (sl:Option (Nat×Nat)):qq9 P ty Wg Bx Sh Fz AnchW Next n Wk cr p0 D tag f0 d0 gs w t sl i:=by
 obtain⟨hh,hdf⟩:=J.vK hi hWk h8 hes x.frame.fn x.frame.place
 obtain⟨gs',ops,tag',f',a',h1,h2,h3⟩:=J.go G hA hi hx (sl:=sl) (s':=(D i).stage) (m':=m') (d':=(D i).deaf) (hgo w (J.fact i hWk h8).1) (xc.refl _ _ w) (λ_=>rfl) J.wg hs' (.inr ⟨rfl,hlt⟩) Iff.rfl hh
  (λe he=>q58 (hes e he) _) (λ_ h=>by omega) (hdf _) (λtag' ht _=>(J.mode.same (i:=i) m' (D i).deaf).retag ht)
 exact⟨gs',w,ops,_,tag',f',a',_,_,h1,h2,h3⟩
theorem Join.way(G:zX P ty Wg Bx Sh Fz n Wk cr)(hA:∀g w,AnchW g w->g.status=.running)(J:Join P ty Wg Bx Sh Fz AnchW Next n Wk cr p0 D tag f0 d0 a st sm gs w t){i:Nat}{x:Goroutine}(hi:i≠0)(hx:gs[i]?=some x)(hr:x.status=.running)
   (hs:(D i).stage=9) (sl:Option (Nat×Nat)):qq9 P ty Wg Bx Sh Fz AnchW Next n Wk cr p0 D tag f0 d0 gs w t sl i:=by
 obtain⟨hJ,hd⟩:=J.jW i x hi hx;have hWk:=J.yU (i:=i) (by omega);have hi0:(i==0)=false:=by simp[hi]
 have hsz:i<gs.size:=(Array.getElem?_eq_some_iff.1 hx).1;rw[hs]at hJ;obtain⟨hd0,hJ⟩:=hJ;rcases hJ with ⟨_,rfl⟩|hw
 . cases hr
 . cases hf:(D i).fuel with
   |zero=>rw[hf]at hw;exact hw.elim
   |succ m=>
    rw[hf]at hw;rcases hw with ⟨rfl,es,hst,hes⟩|⟨_,g',es,hgo,hes,hw'⟩
    . obtain⟨κ,hκ⟩:=J.open_ i hWk hs
      have hrun:=crowd_waits (P:=P) (sl:=sl) (w₁:=w) hx (by rw[hi0];exact hst w (J.fact i hWk (by omega)).1) (λcc hcc=>by
       have:cc=rcase (cr i).s.c (cr i).s.z:=by simpa using hcc
       subst this;exact ways_recv_none (s:=κ) (r:=κ) (tm:=false) hκ (J.yV hA i _))
      obtain⟨hh,hdf⟩:=J.vK hi hWk (by omega) hes (Go.Conc.G (cr i).s.fr (cr i).s.cs).frame.fn (Go.Conc.G (cr i).s.fr (cr i).s.cs).frame.place
      refine⟨_,w,_,upd D i ⟨9,0,0⟩,tag,f0,a,st,sm,hrun,J.step ‹zX P ty Wg Bx Sh Fz n Wk cr› hi hx (x':=qhe (cr i).s) (xc.refl _ _ w) (λ_=>rfl) J.wg ⟨rfl,.inl ⟨rfl,rfl⟩⟩ (by omega) (by rw[hs]) qdf hh (λop hop=>?_) (λ_ h=>by omega)
       (by rw[Deaf_own,hd,hd0,hdf]) J.main rfl (by have:=J.mode.same (i:=i) 0 0;rw[hs]at this;exact this) (by simp[J.size]) (by rw[qb5 _ _ _ _ hsz,if_neg hi];exact J.here) (by rw[qb5 _ _ _ _ hsz,if_pos rfl];rfl) (λj _ hji=>by rw[qb5 _ _ _ _ hsz,if_neg (λe=>hji e.symm)]),
       lower (J.lt hx) (.inl rfl) (by omega) (.inr ⟨hs.symm,by omega⟩)⟩
      obtain⟨e,hee,rfl⟩:=Go.Conc.mem_ofEvents hop;obtain⟨h1,h2,y,hy,h3⟩:=hes e hee;obtain⟨loc,wr',sy⟩:=e;cases h1;cases h2;cases h3;exact λe=>by cases e
    . exact J.reads ‹zX P ty Wg Bx Sh Fz n Wk cr› hA hi hx (by omega) hWk hgo hes (by rw[hs];exact⟨hd0,.inr hw'⟩) (by omega) sl
theorem Join.closed(G:zX P ty Wg Bx Sh Fz n Wk cr)(hA:∀g w,AnchW g w->g.status=.running)(J:Join P ty Wg Bx Sh Fz AnchW Next n Wk cr p0 D tag f0 d0 a st sm gs w t){i:Nat}{x:Goroutine}(hi:i≠0)(hx:gs[i]?=some x)
   (hs:(D i).stage=8) (hst:stepG P false x w=stepG P false (Go.Conc.G (cr i).s.fr (cr i).s.cs) w) (hc:qlf P false (cr i).s) (hd0:(D i).deaf=0) (sl:Option (Nat×Nat)):qq9 P ty Wg Bx Sh Fz AnchW Next n Wk cr p0 D tag f0 d0 gs w t sl i:=by
 obtain⟨hJ,hd⟩:=J.jW i x hi hx;have hWk:=J.yU (i:=i) (by omega);have hi0:(i==0)=false:=by simp[hi]
 have hsz:i<gs.size:=(Array.getElem?_eq_some_iff.1 hx).1;obtain⟨es,hcm,hes⟩:=hc;obtain⟨κ,hκ⟩:=J.shut i hWk hs;have hf:=J.fact i hWk (by omega);have hrun:=crowd_recv_closed (P:=P) (sl:=sl) (w₁:=w) hx (by rw[hi0,hst];exact hcm w hf.1) hκ (J.yV hA i _);rw[finishComm_recv]at hrun;obtain⟨m',hg'⟩:=G.after i hWk w ⟨_,_,J.wg⟩ hf.2;obtain⟨hh,hdf⟩:=J.vK hi hWk (by omega) hes x.frame.fn x.frame.place;generalize hop:({g:=i,fn:=(Go.Conc.G (cr i).s.fr (cr i).s.cs).frame.fn,pos:=(Go.Conc.G (cr i).s.fr (cr i).s.cs).frame.place,act:=.recvClosed (cr i).s.c}:MemOp)=y at hrun;have hy:y.g=i/\y.act=.recvClosed (cr i).s.c:=by rw[<-hop];exact⟨rfl,rfl⟩
 have one:∀op∈(#[y]:Trace),op=y:=λop h=>by simpa using h
 refine⟨_,w,_,upd D i ⟨7,m',0⟩,tag,f0,a,st,sm,hrun,J.step G hi hx (x':=Go.Conc.served (Go.Conc.G (cr i).s.fr (cr i).s.cs) (recvd (cr i).s.ok (cr i).s.z false)) (xc.refl _ _ w) (λ_=>rfl) J.wg (.of (.r0 hg')) (by omega) (by rw[hs];omega) (λop h=>?_) ?_ (λop h=>?_) (λ_ h=>by omega)
  ?_ J.main rfl (J.mode.counted (J.lt hx) (by omega) (s':=7) (by omega) m' 0) (by simp[J.size]) (by rw[qb5 _ _ _ _ hsz,if_neg hi];exact J.here) (by rw[qb5 _ _ _ _ hsz,if_pos rfl]) (λj _ hji=>by rw[qb5 _ _ _ _ hsz,if_neg (λe=>hji e.symm)]),
  lower (J.lt hx) (.inl rfl) (by omega) (.inl ⟨by omega,by simp[cnt,hs]⟩)⟩
 . rcases Array.mem_append.1 h with h|h
   . exact qdf op h
   . rw[one op h];exact hy.1
 . rw[<-Array.append_assoc];exact hh.mute (λop h=>by rw[one op h,hy.2];rfl)
 . rcases Array.mem_append.1 h with h|h
   . obtain⟨e,hee,rfl⟩:=Go.Conc.mem_ofEvents h;obtain⟨h1,h2,z,hz,h3⟩:=hes e hee;obtain⟨loc,wr',sy⟩:=e;cases h1;cases h2;cases h3;exact λe=>by cases e
   . rw[one op h,hy.2];exact λe=>by cases e
 . rw[<-Array.append_assoc,Deaf_push,Deaf_own,hdf,hd,hd0];simp[deafStep,hy.2]
theorem Join.shuts(G:zX P ty Wg Bx Sh Fz n Wk cr)(hA:∀g w,AnchW g w->g.status=.running)(J:Join P ty Wg Bx Sh Fz AnchW Next n Wk cr p0 D tag f0 d0 a st sm gs w t){i:Nat}{x:Goroutine}(hi:i≠0)(hx:gs[i]?=some x)
   (hs:(D i).stage=8) (sl:Option (Nat×Nat)):qq9 P ty Wg Bx Sh Fz AnchW Next n Wk cr p0 D tag f0 d0 gs w t sl i:=by
 obtain⟨hJ,hd⟩:=J.jW i x hi hx;have hWk:=J.yU (i:=i) (by omega);rw[hs]at hJ;obtain⟨hd0,hJ⟩:=hJ;rcases hJ with hw|⟨_,h1,h2,h3,_,hc⟩
 . cases hf:(D i).fuel with
   |zero=>rw[hf]at hw;exact hw.elim
   |succ m=>
    rw[hf]at hw;rcases hw with ⟨rfl,hc⟩|⟨_,g',es,hgo,hes,hw'⟩
    . exact J.closed G hA hi hx hs rfl hc hd0 sl
    . exact J.reads G hA hi hx (by omega) hWk hgo hes (by rw[hs];exact⟨hd0,.inl hw'⟩) (by omega) sl
 . exact J.closed G hA hi hx hs (stepG_same h1 h2 h3) hc hd0 sl
theorem Join.worker(G:zX P ty Wg Bx Sh Fz n Wk cr)(hA:∀g w,AnchW g w->g.status=.running)(J:Join P ty Wg Bx Sh Fz AnchW Next n Wk cr p0 D tag f0 d0 a st sm gs w t){i:Nat}{x:Goroutine}(hi:i≠0)(hx:gs[i]?=some x)(hr:x.status=.running)
   (sl:Option (Nat×Nat)):qq9 P ty Wg Bx Sh Fz AnchW Next n Wk cr p0 D tag f0 d0 gs w t sl i:=by
 have h:=(J.jW i x hi hx).1.vJ;generalize hs:(D i).stage=s at h
 match s,h,hs with
 |1,_,hs=>exact J.quit G hA hi hx hr hs sl
 |2,_,hs=>exact J.wakes G hA hi hx (.inr (.inr hs)) sl
 |3,_,hs=>exact J.wakes G hA hi hx (.inr (.inl hs)) sl
 |4,_,hs=>exact J.wakes G hA hi hx (.inl hs) sl
 |5,_,hs=>exact J.add G hA hi hx hs sl
 |6,_,hs=>exact J.dis G hA hi hx hs sl
 |7,_,hs=>exact J.rel G hA hi hx hs sl
 |8,_,hs=>exact J.shuts G hA hi hx hs sl
 |9,_,hs=>exact J.way G hA hi hx hr hs sl
 |0,h,_=>omega
 |s+10,h,_=>omega
end
end
end Go.Proofs.YtacemdoejblgaaaGreatDoor

/- Part M04. Conditions: each statement's. -/
import Derived.Test.YtacemdoejblgaaaGreatDoorT03
import Derived.Conc.CompanyMem
import Derived.Conc.WgGenN3
import Derived.Conc.MuWords
import Derived.Conc.MuLone
import Derived.Test.YtacemdoejblgaaaGreatDoorChecked
import Derived.Conc.MuLib
import Derived.KernelRfl
import Derived.Conc.CompanyDraw
namespace Go.Proofs.YtacemdoejblgaaaGreatDoor
open _root_.Array renaming getElem?_eq_some_iff→Ab,mem_singleton→Ah,replicate→Ai,getElem?_setIfInBounds_ne→Aj,getD_eq_getD_getElem?→Am
open Bool renaming false_eq_true→Ap
open Go renaming World→As,Value→At,Frame→Ax,Goroutine→Ay,Program→Az,mem_ready→AA,madeCells→AB,Event→AD,results_none→AE,events_store→AF,TypeId→AG,FuncId→AH,run_underlying→AI,Deferred→AJ,Operand→AK
open Act renaming eval→AL
open Addr.mk renaming injEq→AM
open Conc renaming served→AN,stepG_mark0→AO,AtRel→AP,stepG_region_end→AQ,stepG_markAt→AR,stepG_region→AS,stepG_seq→AT,events_results_none→AU,stepG_load_atomic→AV,stepG_value→AW,mem_seen→AX,stepG_inLoop→AY,stepG_leave_deferred→AZ,stepG_unwind_entry→B9,stepG_unwind_enter→Ba,stepG_loop→Bb,goes_elim→Bc,stepG_inBlock→Be,stepG_defer→Bf,stepG_block→Bg
open Conc.Goes renaming stop→Bh,step→Bi
open ConcR renaming wgBlock→Bj,mk→Bm
open Instr renaming makeSlice→Bn,makeChan→Bo
open IntKind renaming i32→Bp,wrap_u64→Bq,wrap_i64→Br,wrap_i32→Bs,u64→Bt,i64→Bu
open Loc.cell renaming injEq→Bv
open MemAct renaming ofEvent→By
open Region renaming wanted→Bz,ready→BA,schedule→BB,binds→BC
open Region.linearise renaming go→BE
open World renaming cell?→BF,setCell→BG,frozen?→BH
open List renaming size_toArray→BI,length_cons→BJ,length_nil→BK,not_mem_nil→BL,range→BM,mem_cons→BN,ne_nil_of_mem→BO,getElem?_cons_zero→BP,getElem?_toArray→BQ,mem_toArray→BR,getElem?_cons_succ→BS
open List.range renaming loop→BT
open Nat renaming zero_add→BU,reduceAdd→BV,le_refl→BW,not_lt_zero→BX,le_trans→BY,le_succ_of_le→BZ,eq_zero_or_pos→C0,lt_of_not_le→C6,mul_le_mul→C7,zero_le→C8
open Option renaming getD_some→C9
open Option.some renaming injEq→Ca
open Tryz
set_option maxRecDepth 100000
set_option maxHeartbeats 6400000
variable {a:Act}{ad:Addr}{es:Array AD}{ops:Array Oper}{ats:Array AG}{args tm ts:Array At}{main t:Bool}{lp x y:Code}{b:Ax}{fn:Func}{f:AH}{g g':Ay}{call sm st:Int}{cs:List Ax}{k todo:List Item}{rest:List Nat}{K N Wg c h i j m m0 n r κ:Nat}{T:Nat->qz}{o:Oper}{C:Pen}{P:Az}{e ty:AG}{csv u v z:At}{w w' w₀ w₁:As}{s sh:jD}
section
open Go.Conc
def StW(T:Nat->qz)(n h:Nat)(r:Nat):Prop:=∃i s,i≠h/\i<n/\T i=.seat s/\(r=s.c∨∃x,x∈s.L/\x.1.block=r)
structure Still(T:Nat->qz)(n h:Nat)(w w':As):Prop where
 chan:∀i s,i≠h->i<n->T i=.seat s->w'.heap[s.c]?=w.heap[s.c]?
 cell:∀i s,i≠h->i<n->T i=.seat s->∀x,x∈s.L->w.cell? x.1=some x.2->w'.cell? x.1=some x.2
theorem Still.of(k:∀r,StW T n h r->w'.heap[r]?=w.heap[r]?):Still T n h w w':=
 ⟨λi s h1 h2 h3=>k _ ⟨i,s,h1,h2,h3,.inl rfl⟩,λi s h1 h2 h3 x hx hc=>by
  have:=k _ ⟨i,s,h1,h2,h3,.inr ⟨x,hx,rfl⟩⟩;unfold BF at hc |-;rw[this];exact hc⟩
theorem Still.refl:Still T n h w w:=⟨λ_ _ _ _ _=>rfl,λ_ _ _ _ _ _ _ hc=>hc⟩
theorem Still.alone(hT:∀i,i≠h->i<n->T i=.left):Still T n h w w':=⟨λi s h1 h2 h3=>(by rw[hT i h1 h2]at h3;cases h3),λi s h1 h2 h3 _ _ _=>(by rw[hT i h1 h2]at h3;cases h3)⟩
structure qN(Sh:Nat->Prop)(Fz:Loc->Prop)(T:Nat->qz)(n h:Nat)(w w':As)(es:Array AD):Prop where
 still:Still T n h w w'
 evs:∀e,e∈es->qlu Sh Fz w'.heap.size e
 size:w.heap.size<=w'.heap.size
def DS(Sh:Nat->Prop)(Fz:Loc->Prop)(T:Nat->qz)(n h:Nat)(w w':As)(es:Array AD):Prop:=
 qN Sh Fz T n h w w' es/\∀e,e∈es->e.loc≠.mark .disable/\e.loc≠.mark .enable
section
variable {P:Az}{Post:At->As->Prop}{Sh:Nat->Prop}{Fz:Loc->Prop}{T:Nat->qz}{n h dd:Nat}{g:Ay}{w:As}
theorem qN.idle(w:As):qN Sh Fz T n h w w #[]:=⟨.refl,λe he=>by simp at he,BW _⟩
theorem DS.idle(w:As):DS Sh Fz T n h w w #[]:=⟨.idle w,λe he=>by simp at he⟩
theorem qi6:Terms AP (DS Sh Fz T n h):=⟨λa b c h1 h2=>by obtain⟨d,rfl⟩:=h1;obtain⟨e,rfl⟩:=h2;exact⟨e,rfl⟩,λw=>DS.idle w⟩
theorem qfV:LetsDraw (DS Sh Fz T n h):=λw=>⟨⟨⟨λ_ _ _ _ _=>rfl,λ_ _ _ _ _ _ _ hc=>hc⟩,λe he=>by simp at he,BW _⟩,λe he=>by simp at he⟩
theorem qqh(hs:g.status=.running)(step:∀d,∃g' w' es,stepG P (h==0) g (w.at d)=.go g' w' es/\qN Sh Fz T n h (w.at d) w' es/\jB P Post Sh Fz T n h (deafBehind dd es) g' w'):jB P Post Sh Fz T n h dd g w:=by
 refine qqj hs (λd gs t q H sl=>?_);obtain⟨g',w',es,h1,h2,h3⟩:=step d;have ho:zI Sh Fz T n h (w.at d) w' es:=⟨λi s hi hn hT=>⟨λx hx=>h2.still.cell i s hi hn hT x hx ((H.fact i s hi hn hT).1 x hx),h2.still.chan i s hi hn hT⟩,h2.evs,h2.size⟩;have hrun:=runT_crowd_go (P:=P) (sl:=sl) H.here h1;rw[H.vE ho.chan g']at hrun;exact .inl ⟨_,w',sl,_,hrun,h3 _ _ _ (H.stepped ho)⟩
def qc(P:Az)(Post:At->As->Prop)(Sh:Nat->Prop)(Fz:Loc->Prop)(T:Nat->qz)(n h dd:Nat)(g:Ay)(w:As):Prop:=∀d,jB P Post Sh Fz T n h dd g (w.at d)
theorem qc.lead(H:qc P Post Sh Fz T n h dd g w):jB P Post Sh Fz T n h dd g w:=H w.drawn
theorem qc.at(H:qc P Post Sh Fz T n h dd g w)(d:Nat):qc P Post Sh Fz T n h dd g (w.at d):=λe=>H e
theorem qb5(hs:g.status=.running)(step:∀d,∃g' w' es,stepG P (h==0) g (w.at d)=.go g' w' es/\qN Sh Fz T n h (w.at d) w' es/\jB P Post Sh Fz T n h (deafBehind dd es) g' w'):qc P Post Sh Fz T n h dd g w:=
 λ_=>qqh hs (λe=>step e)
theorem q4v{Stop:Ay->As->Prop}:∀{m:Nat} {g:Ay} {w:As},Goes P (h==0) AP (DS Sh Fz T n h) Stop m g w->(∀g' w',Stop g' w'->jB P Post Sh Fz T n h dd g' w')->jB P Post Sh Fz T n h dd g w:=by
 intro m
 induction m with
 |zero=>intro g w hg next;exact next g w (hg w ⟨w.drawn,rfl⟩)
 |succ m ih=>
  intro g w hg next;rcases hg with hg|⟨hs,hg⟩
  . exact next g w (hg w ⟨w.drawn,rfl⟩)
  . refine qqh hs (λd=>?_);obtain⟨g',w',es,h1,⟨h2,h3⟩,h4⟩:=Bc (hg (w.at d) ⟨d,rfl⟩);refine⟨g',w',es,h1,h2,?_⟩;rw[deafBehind_still h3];exact ih h4 next
theorem q2o(hg:Goes P (h==0) AP (DS Sh Fz T n h) (qc P Post Sh Fz T n h dd) m g w):qc P Post Sh Fz T n h dd g w:=
 λd=>q4v (Goes.rely (qi6 (Sh:=Sh) (Fz:=Fz) (T:=T) (n:=n) (h:=h)).trans hg ⟨d,rfl⟩) (λ_ _ x=>x.lead)
theorem qcv(hs:g.status=.running)(hc:∀w,stepG P (h==0) g w=.go g' w #[])(H:qc P Post Sh Fz T n h dd g' w):qc P Post Sh Fz T n h dd g w:=
 qb5 hs (λd=>⟨g',w.at d,#[],hc _,.idle _,by show jB P Post Sh Fz T n h dd g' _;exact H d⟩)
theorem qau(H:qc P Post Sh Fz T n h dd (G (b.at a (.code x::.code y::k)) cs) w):qc P Post Sh Fz T n h dd (G (b.at a (.code (.seq x y)::k)) cs) w:=
 qcv rfl (λ_=>AT) H
theorem qm8(H:qc P Post Sh Fz T n h dd (G (b.at a k) cs) w):qc P Post Sh Fz T n h dd (G (b.at a (.code .skip::k)) cs) w:=
 qcv rfl (λ_=>stepG_skip) H
theorem qe4{id:Nat}(H:qc P Post Sh Fz T n h dd (G (b.at a (.code x::.inBlock id::k)) cs) w):qc P Post Sh Fz T n h dd (G (b.at a (.code (.block id x)::k)) cs) w:=
 qcv rfl (λ_=>Bg) H
theorem qls{id:Nat}(H:qc P Post Sh Fz T n h dd (G (b.at a k) cs) w):qc P Post Sh Fz T n h dd (G (b.at a (.inBlock id::k)) cs) w:=
 qcv rfl (λ_=>Be) H
theorem qm9(H:qc P Post Sh Fz T n h dd (G (b.at a (.code x::.inLoop x::k)) cs) w):qc P Post Sh Fz T n h dd (G (b.at a (.code (.loop x)::k)) cs) w:=
 qcv rfl (λ_=>Bb) H
theorem qn4(H:qc P Post Sh Fz T n h dd (G (b.at a (.code x::.inLoop x::k)) cs) w):qc P Post Sh Fz T n h dd (G (b.at a (.inLoop x::k)) cs) w:=
 qcv rfl (λ_=>AY) H
theorem qai(H:qc P Post Sh Fz T n h dd (G (b.at a k) cs) w):qc P Post Sh Fz T n h dd (G (b.at a (.inRegion ops []::k)) cs) w:=
 qcv rfl (λ_=>AQ) H
theorem qaz{id:Nat}(H:qc P Post Sh Fz T n h dd (G (b.at a (.inRegion ops (BM ops.size)::k)) cs) w):qc P Post Sh Fz T n h dd (G (b.at a (.code (.region id ops false)::k)) cs) w:=
 qcv rfl (λ_=>AS) H
theorem qhj{c:AK}(hc:a.eval c=.bool t)(H:qc P Post Sh Fz T n h dd (G (b.at a (.code (if t then x else y)::k)) cs) w):qc P Post Sh Fz T n h dd (G (b.at a (.code (.cond c x y)::k)) cs) w:=
 qcv rfl (λ_=>stepG_cond hc) H
theorem qtk{id:Nat}{k':List Item}(he:exitTo id k=some k')(H:qc P Post Sh Fz T n h dd (G (b.at a k') cs) w):qc P Post Sh Fz T n h dd (G (b.at a (.code (.exit id)::k)) cs) w:=
 qcv rfl (λ_=>stepG_exit he) H
theorem q4w{Sh':Nat->Prop}{Fz':Loc->Prop}(h1:∀r,Sh r->Sh' r)(h2:∀r,Sh' r->Sh r∨w.heap.size<=r)(h3:∀l,Fz l->Fz' l)(H:jB P Post Sh' Fz' T n h dd g w):jB P Post Sh Fz T n h dd g w:=by
 intro gs t q hall;refine H gs t q ⟨hall.size,hall.here,hall.ja,hall.fact,hall.apart,?_,hall.deaf,hall.above⟩;refine hall.jr.more h1 h2 h3 (λk l hl=>?_);obtain⟨hk,hkn,s,hT,hL⟩:=hl;exact qi8 (hall.fact k s hk hkn hT).1 l hL
theorem qna{Sh':Nat->Prop}{Fz':Loc->Prop}(h1:∀r,Sh r->Sh' r)(h2:∀r,Sh' r->Sh r∨w.heap.size<=r)(h3:∀l,Fz l->Fz' l)(H:qc P Post Sh' Fz' T n h dd g w):qc P Post Sh Fz T n h dd g w:=
 λd=>q4w h1 (λr hr=>h2 r hr) h3 (H d)
end
structure Base where
 P:Az
 A:Addr->Prop
 F:AH->Prop
 N0:Nat
 fresh:∀a:Addr,N0<=a.block->A a
 up:∀a b:Addr,A a->b.block=a.block->a.off<=b.off->A b
 G:Nat
 K:Nat
 X:AH->Nat->Prop
structure Mks(B:Base) where
 N:Nat
 ge:B.N0<=N
 Pt:Nat->Prop
 Z:Nat->Prop
 Ch:Nat->Prop
 old:∀r,Pt r∨Ch r->r<N
 zp:∀r,Z r->Pt r
def Base.pen(B:Base)(M:Mks B):Pen where
 P:=B.P
 A:=B.A
 F:=B.F
 N:=M.N
 fresh:=λa h=>B.fresh a (BY M.ge h)
 up:=B.up
 Pt:=M.Pt
 Z:=M.Z
 Ch:=M.Ch
 old:=M.old
 zp:=M.zp
 G:=B.G
 K:=B.K
 X:=B.X
structure Mks.Le{B:Base}(M M':Mks B):Prop where
 n:M.N<=M'.N
 pt:∀r,M.Pt r->M'.Pt r
 z:∀r,M.Z r->M'.Z r
 ch:∀r,M.Ch r->M'.Ch r
 nw:∀r,M'.Pt r->M.Pt r∨M.N<=r
theorem Mks.Le.refl{B:Base}(M:Mks B):M.Le M:=⟨BW _,λ_ h=>h,λ_ h=>h,λ_ h=>h,λ_ h=>.inl h⟩
theorem Mks.Le.trans{B:Base}{a b c:Mks B}(h:a.Le b)(k:b.Le c):a.Le c:=⟨BY h.n k.n,λr x=>k.pt r (h.pt r x),λr x=>k.z r (h.z r x),λr x=>k.ch r (h.ch r x),λr x=>(k.nw r x).elim (λy=>h.nw r y) (λy=>.inr (BY h.n y))⟩
def Mks.void{B:Base}(M:Mks B)(r:Nat)(h:M.N<=r):Mks B where
 N:=r+1
 ge:=BY M.ge (BZ h)
 Pt:=λx=>M.Pt x∨x=r
 Z:=λx=>M.Z x∨x=r
 Ch:=M.Ch
 old:=λx hx=>by
  rcases hx with (hx|hx)|hx
  . have:=M.old x (.inl hx);omega
  . omega
  . have:=M.old x (.inr hx);omega
 zp:=λx hx=>hx.imp (M.zp x) id
def Mks.chan{B:Base}(M:Mks B)(r:Nat)(h:M.N<=r):Mks B where
 N:=r+1
 ge:=BY M.ge (BZ h)
 Pt:=M.Pt
 Z:=M.Z
 Ch:=λx=>M.Ch x∨x=r
 old:=λx hx=>by
  rcases hx with hx|hx|hx
  . have:=M.old x (.inl hx);omega
  . have:=M.old x (.inr hx);omega
  . omega
 zp:=M.zp
section
variable {B:Base}{M:Mks B}{w z:As}
theorem Mks.vM(M:Mks B)(r:Nat)(h:M.N<=r):M.Le (M.void r h):=⟨BZ h,λ_ x=>.inl x,λ_ x=>.inl x,λ_ x=>x,λ_ x=>x.imp id (λe=>by rw[e];exact h)⟩
theorem Mks.vN(M:Mks B)(r:Nat)(h:M.N<=r):M.Le (M.chan r h):=⟨BZ h,λ_ x=>x,λ_ x=>x,λ_ x=>.inl x,λ_ x=>.inl x⟩
theorem heap_alloc(w:As)(o:Obj)(r:Nat):(w.alloc o).heap[r]?=if r=w.heap.size then some o else w.heap[r]?:=by
 show (w.heap.push o)[r]?=_;rw[Array.getElem?_push]
theorem qb3(w:As)(o:Obj)(h:r≠w.heap.size):(w.alloc o).heap[r]?=w.heap[r]?:=by rw[heap_alloc,if_neg h]
theorem heap_alloc_new(w:As)(o:Obj):(w.alloc o).heap[w.heap.size]?=some o:=by rw[heap_alloc,if_pos rfl]
theorem Both.void(h:Both (B.pen M) w z)(c:Array At)(e:AG):Both (B.pen (M.void w.heap.size h.rel.room)) (w.alloc (.cells c e (0,0))) (z.alloc (.cells #[] e)):=by
 have hs:=h.rel.size;have hN:M.N<=w.heap.size:=h.rel.room;refine⟨⟨by simp[hs],h.rel.os,?_,λr hp=>?_,λr hB hp=>?_,λr o hB hp ho=>?_,λr hc=>?_,h.rel.drawn⟩,h.tape⟩
 . show w.heap.size+1<=_;simp
 . by_cases hr:r=w.heap.size
   . subst hr;refine⟨#[],c,e,(0,0),by rw[hs];exact heap_alloc_new z _,heap_alloc_new w _,C8 _,λ_=>rfl,λi v hv=>by simp at hv,.inl rfl,λ_=>C8 _⟩
   . have hp':M.Pt r:=hp.elim id (λk=>absurd k hr);obtain⟨c',c2,e2,fr,h1,h2,h3,h4,h5⟩:=h.rel.part r hp';exact⟨c',c2,e2,fr,by rw[qb3 z _ (by rw[<-hs];exact hr)];exact h1,by rw[qb3 w _ hr];exact h2,h3,λhz=>h4 (hz.elim id (λk=>absurd k hr)),h5⟩
 . have hr:r≠w.heap.size:=λk=>hp (.inr k);rw[qb3 z _ (by rw[<-hs];exact hr),qb3 w _ hr];exact h.rel.same r hB (λk=>hp (.inl k))
 . have hr:r≠w.heap.size:=λk=>hp (.inr k);rw[qb3 z _ (by rw[<-hs];exact hr)]at ho;exact h.rel.cln r o hB (λk=>hp (.inl k)) ho
 . have hr:r≠w.heap.size:=λk=>by have:=M.old r (.inr hc);omega
   rw[qb3 z _ (by rw[<-hs];exact hr)];exact h.rel.chn r hc
theorem Both.alloc(h:Both (B.pen M) w z){o:Obj}(ho:qw2 B.A B.F o):Both (B.pen M) (w.alloc o) (z.alloc o):=by
 have hs:=h.rel.size;have hN:M.N<=w.heap.size:=h.rel.room;have hno:=Pen.xq (C:=B.pen M) hN;refine⟨⟨by simp[hs],h.rel.os,?_,λr hp=>?_,λr hB hp=>?_,λr x hB hp hx=>?_,λr hc=>?_,h.rel.drawn⟩,h.tape⟩
 . have:=h.rel.room;simp only[World.size_alloc];omega
 . have hr:r≠w.heap.size:=λk=>hno.1 (k▸hp);obtain⟨c',c2,e2,fr,h1,h2,h3⟩:=h.rel.part r hp;exact⟨c',c2,e2,fr,by rw[qb3 z _ (by rw[<-hs];exact hr)];exact h1,by rw[qb3 w _ hr];exact h2,h3⟩
 . rw[heap_alloc,heap_alloc,hs];split
   . rfl
   . exact h.rel.same r hB hp
 . rw[heap_alloc]at hx;split at hx
   . cases hx;exact .inl ho
   . exact h.rel.cln r x hB hp hx
 . have hr:r≠w.heap.size:=λk=>hno.2 (k▸hc);rw[qb3 z _ (by rw[<-hs];exact hr)];exact h.rel.chn r hc
theorem Both.chan(h:Both (B.pen M) w z)(k:Nat)(b:Array At)(cl:Bool)(m n:Nat)(t:Bool):Both (B.pen (M.chan w.heap.size h.rel.room)) (w.alloc (.chan k b cl m n t)) (z.alloc (.chan k b cl m n t)):=by
 have h':=h.alloc (o:=.chan k b cl m n t) trivial;have hs:=h.rel.size;refine⟨⟨h'.rel.size,h'.rel.os,?_,h'.rel.part,h'.rel.same,h'.rel.cln,λr hc=>?_,h'.rel.drawn⟩,h'.tape⟩
 . show w.heap.size+1<=_;simp
 . rcases hc with hc|rfl
   . exact h'.rel.chn r hc
   . exact⟨k,b,cl,m,n,t,by rw[hs];exact heap_alloc_new z _⟩
theorem Both.qfW(h:Both (B.pen M) w z){a:Addr}(ha:M.Z a.block)(v:At):Both (B.pen M) (w.setCell a v) z:=by
 have hp0:=M.zp _ ha;refine⟨⟨by simp[BG,h.rel.size],h.rel.os,by have:=h.rel.room;simpa[BG]using this,λr hp=>?_,λr hB hp=>?_,h.rel.cln,h.rel.chn,h.rel.drawn⟩,h.tape⟩
 . obtain⟨c',c2,e2,fr,h1,h2,h3,h4,h5,h6⟩:=h.rel.part r hp;by_cases hr:a.block=r
   . subst hr;refine⟨c',_,e2,fr,h1,qdj w a v h2,?_,h4,λi x hx=>?_,⟨h6.1.imp id (λk=>⟨k.1,?_⟩),h6.2⟩⟩
     . split
       . exact h3
       . simpa using h3
     . rw[h4 ha]at hx;simp at hx
     . split
       . exact k.2
       . simpa using k.2
   . exact⟨c',c2,e2,fr,h1,by rw[qb4 _ _ _ _ hr];exact h2,h3,h4,h5,h6⟩
 . have hne:a.block≠r:=λk=>hp (by rw[<-k];exact hp0);rw[qb4 _ _ _ _ hne];exact h.rel.same r hB hp
theorem Both.set(h:Both (B.pen M) w z){a:Addr}(ha:B.A a){x:At}(hv:z.cell? a=some x)(hok:Ok B.A B.F v):Both (B.pen M) (w.setCell a v) (z.setCell a v):=
 ⟨h.rel.set (C:=B.pen M) ha hv hok,h.tape⟩
theorem qbw(w:As)(c k:Nat)(b:Array At)(cl:Bool)(m n:Nat)(t:Bool)(r:Nat):(w.setChan c k b cl m n t).heap[r]?=if c=r then (if c<w.heap.size then some (.chan k b cl m n t)else none)else w.heap[r]?:=by
 unfold As.setChan;rw[Array.getElem?_setIfInBounds]
theorem Both.setChan(h:Both (B.pen M) w z)(hnp:¬M.Pt c)(k:Nat)(b:Array At)(cl:Bool)(m n:Nat)(t:Bool):Both (B.pen M) (w.setChan c k b cl m n t) (z.setChan c k b cl m n t):=by
 have hs:=h.rel.size;refine⟨⟨by simp[As.setChan,hs],h.rel.os,by have:=h.rel.room;simpa[As.setChan]using this,λr hp=>?_,λr hB hp=>?_,λr x hB hp hx=>?_,λr hr=>?_,h.rel.drawn⟩,h.tape⟩
 . have hne:c≠r:=λe=>hnp (e▸hp);obtain⟨c',c2,e2,fr,h1,h2,h3⟩:=h.rel.part r hp;exact⟨c',c2,e2,fr,by rw[qbw,if_neg hne];exact h1,by rw[qbw,if_neg hne];exact h2,h3⟩
 . rw[qbw,qbw,hs];split
   . rfl
   . exact h.rel.same r hB hp
 . rw[qbw]at hx;split at hx
   . split at hx
     . cases hx;exact .inl trivial
     . cases hx
   . exact h.rel.cln r x hB hp hx
 . by_cases hr':c=r
   . subst hr';obtain⟨k1,b1,cl1,m1,n1,t1,h1⟩:=h.rel.chn c hr;refine⟨k,b,cl,m,n,t,?_⟩;rw[qbw,if_pos rfl,if_pos (Ab.1 h1).1]
   . obtain⟨k1,b1,cl1,m1,n1,t1,h1⟩:=h.rel.chn r hr;exact⟨k1,b1,cl1,m1,n1,t1,by rw[qbw,if_neg hr'];exact h1⟩
theorem Both.size(h:Both (B.pen M) w z):z.heap.size=w.heap.size:=h.rel.size.symm
theorem Both.cell(h:Both (B.pen M) w z){a:Addr}(ha:B.A a)(hv:z.cell? a=some v):w.cell? a=some v/\Ok B.A B.F v:=by
 obtain⟨h1,h2,_⟩:=h.rel.cell (C:=B.pen M) ha hv;exact⟨h1,h2⟩
theorem Both.thaw(h:Both (B.pen M) w z){a:Addr}(ha:B.A a)(hv:z.cell? a=some v):w.frozen? a=false:=(h.rel.cell (C:=B.pen M) ha hv).2.2.2.2.2
theorem Both.vO(h:Both (B.pen M) w z)(hB:(B.pen M).B c)(hnp:¬M.Pt c):z.heap[c]?=w.heap[c]?:=(h.rel.same c hB hnp).symm
end
section
variable {C:Pen}{S:List String}{Post:At->As->Prop}{Sh:Nat->Prop}{Fz:Loc->Prop}{T:Nat->qz}{n h dd:Nat}{w z:As}
def qH(T:Nat->qz)(n h:Nat)(w:As):Prop:=∀i s,i≠h->i<n->T i=.seat s->holds s.L w
theorem qH.at(H:qH T n h w)(d:Nat):qH T n h (w.at d):=H
theorem qy8(H:jd C S){c:Code}(hf:C.F f)(ha:qo C args)(hfn:C.P.funcs[f]?=some fn)(hbody:fn.body=some c)(hb:Both C w z)(O:Outside C Sh Fz T n h)
   (hL:qH T n h w) {R:At->As->Prop} (hR:∀v a b,a.heap=b.heap->R v a->R v b)
   (hc:∀d t,Calls C.P f args (re (z.at d) t 0) fun | .returned v,w'=>R v w'|_,_=>False) {caller:Ax} 
   (next:∀v w' z',Both C w' z'->Held C w w'->Ok C.A C.F v->qH T n h w'->R v z'->qc C.P Post Sh Fz T n h dd (G (caller.finish v) cs) w') :
   qc C.P Post Sh Fz T n h dd (G (Frame.enter C.P f args .normal) (caller::cs)) w:=λd=>
 q2p H hf ha hfn hbody (hb.at d) O (hL.at d) (R:=λ_ v w=>R v w) (hc d) (λv w' z' h1 h2 h3 h4 h5=>by
  obtain⟨t,t2,d2,h6⟩:=h5;exact(next v w' z' h1 (Held.trans (show Held C w (w.at d)from⟨λ_ _=>rfl,BW _,rfl,rfl,rfl,.of rfl⟩) h2) h3 h4 (hR v (re z' t2 d2) z' rfl h6)).lead)
theorem qnb(H:jd C S){c:Code}(hX:FrE C S (b.at ⟨a.tmps,[]⟩ [.code c]))(hb:Both C w z)(O:Outside C Sh Fz T n h)
   (hL:qH T n h w) {Q:Exit->Act->As->Prop} (hR:∀e v x y,x.heap=y.heap->Q e v x->Q e v y) (hc:∀d t,c.wp C.P Q ⟨a.tmps,[]⟩ (re (z.at d) t 0)) (hQ:∀e a w,Q e a w->Ends e)
    
   (next:∀e a' todo w' z',Both C w' z'->Held C w w'->FrE C S (qi9 b a' todo e)->(e=.normal->todo=[])->qH T n h w'->Q e a' z'->qc C.P Post Sh Fz T n h dd (G (qi9 b ⟨a'.tmps,a.defers⟩ (todo++k) e) cs) w') :
   qc C.P Post Sh Fz T n h dd (G (b.at a (.code c::k)) cs) w:=λd=>
 q40 (a:=⟨a.tmps,[]⟩) (ds:=a.defers) H hX (hb.at d) O (hL.at d) (Q:=λ_ e v w=>Q e v w) (hc d) (λ_ e v w=>hQ e v w) (λe a' todo w' z' h1 h2 h3 h4 h5 h6=>by
  obtain⟨t,t2,d2,h7⟩:=h6;exact(next e a' todo w' z' h1 (Held.trans (show Held C w (w.at d)from⟨λ_ _=>rfl,BW _,rfl,rfl,rfl,.of rfl⟩) h2) h3 h4 h5 (hR e a' (re z' t2 d2) z' rfl h7)).lead)
end
end
section
open Go.Conc Go.RowKit Go.Conc.Lib Go.ConcR.Gen
open Go.ConcR (KK WgAt stA smA rd wr DC0)
open Go.ConcN (st_flag st_waiters)
section
variable {P:Az}{Post:At->As->Prop}{Sh:Nat->Prop}{Fz:Loc->Prop}{T:Nat->qz}{n h dd:Nat}{g:Ay}{w w':As}{es:Array AD}
theorem qd9(he:∀e,e∈es->(By e).touch?=none):qN Sh Fz T n h w w es:=
 ⟨.refl,λe h1=>⟨λx hx=>(by rw[he e h1]at hx;cases hx),λx hx=>(by rw[he e h1]at hx;cases hx)⟩,BW _⟩
theorem qjn{b:Nat}(zG:¬StW T n h b)(hh:∀r,r≠b->w'.heap[r]?=w.heap[r]?)(hs:w.heap.size<=w'.heap.size)(hb:b<w'.heap.size)
   (he:∀e,e∈es->∀x,(By e).touch?=some x->∃a:Addr,x.loc=.cell a/\a.block=b/\(Sh b->x.kind≠.plain)/\(x.write=true->¬Fz (.cell a))):qN Sh Fz T n h w w' es:=by
 refine⟨.of (λr hr=>hh r (λe=>zG (e▸hr))),λe h1=>⟨λx hx=>?_,λx hx=>?_⟩,hs⟩
 . obtain⟨a,e1,e2,e3,e4⟩:=he e h1 x hx;rw[e1];exact⟨λk=>e3 (by rw[<-e2];exact k),e4⟩
 . obtain⟨a,e1,e2,_⟩:=he e h1 x hx;rw[e1];show a.block<_;omega
theorem qct(w:As)(a:Addr)(v:At):∀r,r≠a.block->(w.setCell a v).heap[r]?=w.heap[r]?:=λr hr=>qb4 w a v r (λe=>hr e.symm)
theorem qbs:∀{m:Nat} {g:Ay} {w:As},Goes P (h==0) AP DC0 (qc P Post Sh Fz T n h dd) m g w->qc P Post Sh Fz T n h dd g w:=by
 intro m
 induction m with
 |zero=>intro g w hg d;exact(hg (w.at d) ⟨d,rfl⟩).lead
 |succ m ih=>
  intro g w hg;rcases hg with hg|⟨hs,hg⟩
  . exact λd=>(hg (w.at d) ⟨d,rfl⟩).lead
  . refine λd=>qqh hs (λe=>?_);obtain⟨g',w',es,h1,⟨h2,h3⟩,h4⟩:=Bc (hg (w.at e) ⟨e,rfl⟩);subst h2;subst h3;exact⟨g',w.at e,#[],h1,.idle _,(ih h4).lead⟩
theorem qea(h:AP w₀ w/\WgAt ty Wg w st sm)(r:AP w w₁):AP w₀ w₁/\WgAt ty Wg w₁ st sm:=by
 obtain⟨⟨d,rfl⟩,k⟩:=h;obtain⟨e,rfl⟩:=r;exact⟨⟨e,rfl⟩,k⟩
theorem q8h(h:WgAt ty Wg w st sm):w.cell? ⟨Wg,1,none⟩=some (.int .u32 sm):=h.cellSm
theorem qc.on(H:qc P Post Sh Fz T n h dd g w)(r:AP w w'):qc P Post Sh Fz T n h dd g w':=by obtain⟨d,rfl⟩:=r;exact H.at d
end
section
variable {Sh:Nat->Prop}{Fz:Loc->Prop}{Wg:Nat}
theorem q1n{a:Addr}(ha:a.block=Wg)(hFz:∀b:Addr,b.block=Wg->¬Fz (.cell b))(he:∀e,e∈es->e=⟨.cell a,false,true⟩∨e=⟨.cell a,true,true⟩∨e=⟨.mark (.read a),false,true⟩) :
   ∀e,e∈es->∀x,(By e).touch?=some x->∃a:Addr,x.loc=.cell a/\a.block=Wg/\(Sh Wg->x.kind≠.plain)/\(x.write=true->¬Fz (.cell a)):=λe h1 x hx=>by
 rcases he e h1 with rfl|rfl|rfl
 . cases hx;exact⟨a,rfl,ha,λ_=>by simp,λ_=>hFz a ha⟩
 . cases hx;exact⟨a,rfl,ha,λ_=>by simp,λ_=>hFz a ha⟩
 . cases hx;exact⟨a,rfl,ha,λ_=>by simp,λ_=>hFz a ha⟩
end
section
variable {L:WgLink}{P:Az}{Post:At->As->Prop}{Sh:Nat->Prop}{Fz:Loc->Prop}{T:Nat->qz}{n h:Nat}{Wg:Nat}
 {b₀:Ax} {a₀:Act} {ops₀:Array Oper} {i₀:Nat} {rest₀:List Nat} {k₀:List Item} {cs:List Ax}
theorem q6d(H:WgLib P L)(zG:¬StW T n h Wg)(hFz:∀b:Addr,b.block=Wg->¬Fz (.cell b)){v:Nat}(hv:v<64)(hwg:WgAt L.tWg Wg w₀ ((v:Int)*KK) 0)
   (next:qc P Post Sh Fz T n h 0 (G (b₀.at (a₀.put ((ops₀[i₀]?).bind (·.dst)) (.tuple #[])) (.inRegion ops₀ rest₀::k₀)) cs) (w₀.setCell (stA Wg) (.int .u64 (((v:Int)+1)*KK)))) :
   qc P Post Sh Fz T n h 0 (G ((base L.add).at ⟨#[.pointer (some ⟨Wg,0,none⟩),.int .i64 1,undef,undef,undef,undef,undef,undef,undef,undef,undef,undef,undef,undef,undef,undef,undef,undef,undef,undef,undef,undef,undef,undef,undef,undef,undef,undef,undef,undef,undef,undef,undef,undef,undef,undef,undef,undef,undef,undef,undef,undef,undef,undef,undef,undef,undef,undef,undef,undef,undef,undef,undef,undef,undef,undef,undef,undef,undef,undef,undef,undef,undef,undef,undef,undef,undef,undef,undef,undef,undef,undef,undef,undef,undef,undef,undef,undef,undef,undef,undef,undef,undef,undef,undef,undef,undef,undef,undef,undef,undef,undef,undef,undef,undef,undef,undef,undef,undef,undef,undef,undef,undef,undef,undef,undef,undef,undef,undef,undef,undef,undef,undef,undef,undef,undef,undef],[]⟩ [.code (body_add L)]) (b₀.at a₀ (.inRegion ops₀ (i₀::rest₀)::k₀)::cs)) w₀:=by
 lib_facts
 simp only[body_add,addFn,C9];have hF:AP w₀ w₀/\WgAt L.tWg Wg w₀ ((v:Int)*KK) 0:=⟨⟨w₀.drawn,rfl⟩,hwg⟩;refine qbs (m:=60) ?_
 repeat w_go qea
 refine Bh (λw₁ h₁=>?_);replace hF:=qea hF h₁;clear h₁;refine qb5 rfl (λd=>⟨_,_,_,AO .disable (by simp) rfl rfl (by k_ne) rfl H.f_disable (x_disable_n L) (x_disable_b L) (x_disable_x L) (x_disable_f L),qd9 (λe he=>(by rw[Ah]at he;subst he;rfl)),qc.lead ?_⟩);replace hF:=qea hF ⟨d,rfl⟩;change qc P Post Sh Fz T n h 1 _ _;refine qbs (m:=200) ?_;walk_nrm
 repeat w_go qea
 u_defer qea hF
 repeat w_go qea
 u_bub qea hF
 repeat w_go qea
 u_call H.f_uAdd (nm_uAdd L) uAddFn qea hF
 repeat w_go qea
 refine Bh (λw₂ h₂=>?_);replace hF:=qea hF h₂;clear h₂;obtain⟨V,hV⟩:∃V:Int,V=(v:Int)+1:=⟨_,rfl⟩;obtain⟨S,hS⟩:∃S:Int,S=V*KK:=⟨_,rfl⟩;have eS:Bt.wrap ((v:Int)*KK+4294967296)=S:=by rw[Bq,hS,hV];simp only[KK];omega
 rw[<-hV,<-hS]at next;refine qb5 rfl (λd=>?_);have hw:=(qea hF ⟨d,rfl⟩).2;refine⟨_,_,_,(stepG_add_atomic rfl rfl (by k_ne) rfl H.f_addU64 (x_addU64_n L) (x_addU64_b L) (x_addU64_x L) .u64 (x_addU64_f L) rfl rfl hw.cellSt (hw.thaw 0)).trans (by rw[eS]),qjn zG (qct _ (stA Wg) _) (by simp) (Ab.1 (hw.setSt S)).1 (q1n (a:=stA Wg) rfl hFz (λe he=>?_)),qc.lead ?_⟩
 . simp only[BR,BN,BL,or_false]at he;rcases he with rfl|rfl
   . exact .inl rfl
   . exact .inr (.inl rfl)
 change qc P Post Sh Fz T n h 1 _ _
 have hF0:AP (w₀.setCell (stA Wg) (.int .u64 S)) ((w₂.at d).setCell (stA Wg) (.int .u64 S)):=by
  obtain⟨⟨d2,rfl⟩,_⟩:=hF;exact⟨d,rfl⟩
 replace hF:AP (w₀.setCell (stA Wg) (.int .u64 S)) ((w₂.at d).setCell (stA Wg) (.int .u64 S))/\WgAt L.tWg Wg ((w₂.at d).setCell (stA Wg) (.int .u64 S)) S 0:=⟨hF0,hw.setSt _⟩;clear hw hF0 eS;rcases C0 v with rfl|hvp
 ·
  obtain rfl:S=4294967296:=by rw[hS,hV];simp[KK]
  clear hS hV;refine qbs (m:=200) ?_;walk_nrm
  repeat w_go qea
  u_leave1 H.f_uAdd qea hF
  repeat w_go qea
  u_conv H.underlying_tPU32 H.room_tU32 (q8h hF.2) qea hF
  refine Bh (λw₃ h₃=>?_);replace hF:=qea hF h₃;clear h₃;refine qb5 rfl (λd=>⟨_,_,_,AR .read (by simp) rfl rfl (by k_ne) rfl H.f_raceRead (x_raceRead_n L) (x_raceRead_b L) (x_raceRead_x L) (x_raceRead_f L) (ad:=⟨Wg,1,none⟩) (by simp[AL]),qjn zG (λ_ _=>rfl) (BW _) (Ab.1 hF.2).1 (q1n (a:=⟨Wg,1,none⟩) rfl hFz (λe he=>?_)),qc.lead ?_⟩)
  . rw[Ah]at he;exact .inr (.inr he)
  change qc P Post Sh Fz T n h 1 _ _;replace hF:=qea hF ⟨d,rfl⟩;refine qbs (m:=200) ?_;walk_nrm
  repeat w_go qea
  refine Bh (λw₄ h₄=>?_);replace hF:=qea hF h₄;clear h₄;refine qb5 rfl (λd=>⟨_,_,_,B9 (v:=.tuple #[]) (evs:=#[Bm .enable]) rfl H.f_enable (x_enable_n L) (x_enable_b L) (x_enable_x L) (x_enable_f L) (by simp[Extern.Race.none_]) (by simp[Bm]) (by simp[Bm]),qd9 (λe he=>(by rw[Ah]at he;subst he;rfl)),qc.lead ?_⟩);change qc P Post Sh Fz T n h 0 _ _;replace hF:=qea hF ⟨d,rfl⟩;refine qbs (m:=20) ?_
  u_leave0 H.f_add qea hF
  exact Bh (λw₅ h₅=>next.on (qea hF h₅).1)
 ·
  have a1:S/4294967296=V:=by rw[hS];simp only[KK];omega
  have b1:bits .and .u64 S 2147483648=0:=by rw[hS,hV];have:=st_flag (v+1) 0 (by omega) (by omega);simpa[KK]using this
  have b2:bits .and .u64 S 2147483647=0:=by rw[hS,hV];have:=st_waiters (v+1) 0 (by omega) (by omega);simpa[KK]using this
  have c1:Bp.wrap V=V:=by rw[Bs];omega
  have hV1:1<V:=by omega
  have hV2:V<2147483648:=by omega
  have q1:(V==1)=false:=by simp;omega
  have q2:decide (V=1)=false:=decide_eq_false (by omega);have q3:decide (V<0)=false:=decide_eq_false (by omega);have q4:decide (0<V)=true:=decide_eq_true (by omega);have q5:(V==0)=false:=by simp;omega
  have q6:decide (V=0)=false:=decide_eq_false (by omega);clear hS hV;refine qbs (m:=200) ?_;walk_nrm
  repeat (first|w_go qea|u_cnd true qea hF|u_cnd false qea hF)
  u_leave1 H.f_uAdd qea hF
  repeat (first|w_go qea|u_cnd true qea hF|u_cnd false qea hF)
  refine Bh (λw₄ h₄=>?_);replace hF:=qea hF h₄;clear h₄;refine qb5 rfl (λd=>⟨_,_,_,B9 (v:=.tuple #[]) (evs:=#[Bm .enable]) rfl H.f_enable (x_enable_n L) (x_enable_b L) (x_enable_x L) (x_enable_f L) (by simp[Extern.Race.none_]) (by simp[Bm]) (by simp[Bm]),qd9 (λe he=>(by rw[Ah]at he;subst he;rfl)),qc.lead ?_⟩);change qc P Post Sh Fz T n h 0 _ _;replace hF:=qea hF ⟨d,rfl⟩;refine qbs (m:=20) ?_
  u_leave0 H.f_add qea hF
  exact Bh (λw₅ h₅=>next.on (qea hF h₅).1)
end
end
section
open Go.Conc Go.RowKit Go.Conc.Lib Go.ConcR.Gen Go.Conc.Locks Go.ConcM
open Go.ConcR (DC0)
section
variable {P:Az}{Post:At->As->Prop}{Sh:Nat->Prop}{Fz:Loc->Prop}{T:Nat->qz}{n h dd:Nat}{g:Ay}{w w':As}{es:Array AD}
def j6(a:Addr)(v:At)(w:As):Prop:=w.cell? a=some v/\w.frozen? a=false
theorem qdb{a:Addr}(h:AP w₀ w/\j6 a v w)(r:AP w w₁):AP w₀ w₁/\j6 a v w₁:=by
 obtain⟨⟨d,rfl⟩,k⟩:=h;obtain⟨e,rfl⟩:=r;exact⟨⟨e,rfl⟩,k⟩
theorem j6.set{a:Addr}{v':At}(h:j6 a v w):j6 a v' (w.setCell a v'):=
 ⟨by simp[go_sem,h.1],by rw[World.frozen?_setCell];exact h.2⟩
theorem j6.lt{a:Addr}(h:j6 a v w):a.block<w.heap.size:=by
 obtain⟨_,c,e,fr,hb,_⟩:=qdt h.1;exact(Ab.1 hb).1
theorem qnn{a:Addr}(hSh:¬Sh a.block)(hFz:¬Fz (.cell a))(he:∀e,e∈es->e=⟨.cell a,false,true⟩∨e=⟨.cell a,true,true⟩∨e=⟨.cell a,false,false⟩∨e=⟨.cell a,true,false⟩) :
   ∀e,e∈es->∀x,(By e).touch?=some x->∃b:Addr,x.loc=.cell b/\b.block=a.block/\(Sh a.block->x.kind≠.plain)/\(x.write=true->¬Fz (.cell b)):=λe h1 x hx=>by
 rcases he e h1 with rfl|rfl|rfl|rfl
 . cases hx;exact⟨a,rfl,rfl,λk=>absurd k hSh,λ_=>hFz⟩
 . cases hx;exact⟨a,rfl,rfl,λk=>absurd k hSh,λ_=>hFz⟩
 . cases hx;exact⟨a,rfl,rfl,λk=>absurd k hSh,λ_=>hFz⟩
 . cases hx;exact⟨a,rfl,rfl,λk=>absurd k hSh,λ_=>hFz⟩
end
section
variable {L:MuLink}{P:Az}{Post:At->As->Prop}{Sh:Nat->Prop}{Fz:Loc->Prop}{T:Nat->qz}{n h:Nat}
 {b₀:Ax} {a₀:Act} {ops₀:Array Oper} {i₀:Nat} {rest₀:List Nat} {k₀:List Item} {cs:List Ax}
theorem q3q(H:MuLib P L)(zG:¬StW T n h r)(hSh:¬Sh r)(hFz:¬Fz (.cell ⟨r,0,none⟩))(hc:j6 ⟨r,0,none⟩ (.int .i32 0) w₀)
   (next:qc P Post Sh Fz T n h 0 (G (b₀.at (a₀.put ((ops₀[i₀]?).bind (·.dst)) (.tuple #[])) (.inRegion ops₀ rest₀::k₀)) cs) (w₀.setCell ⟨r,0,none⟩ (.int .i32 1))) :
   qc P Post Sh Fz T n h 0 (G ((base L.lock).at ⟨#[.pointer (some ⟨r,0,none⟩),undef,undef,undef,undef,undef],[]⟩ [.code ((lockFn L).body.getD .skip)]) (b₀.at a₀ (.inRegion ops₀ (i₀::rest₀)::k₀)::cs)) w₀:=by
 have m1:=H.runUnderlying_tMutex;have m2:=H.sizeOf_tMutex;have m3:=H.isAgg_tMutex;have m4:=H.runUnderlying_tIMutex;have m5:=H.sizeOf_tIMutex;have m6:=H.isAgg_tIMutex;have m7:=H.runUnderlying_tPMutex;have m8:=H.runUnderlying_tPIMutex;have m9:=H.runUnderlying_tPI32;have m10:=H.runUnderlying_t21;have m11:=H.isAgg_t21;have m12:=H.sizeOf_t21;simp only[lockFn,C9];have hF:AP w₀ w₀/\j6 ⟨r,0,none⟩ (.int .i32 0) w₀:=⟨⟨w₀.drawn,rfl⟩,hc⟩;refine qbs (m:=60) ?_
 repeat w_go qdb
 u_call H.f_ilock (by kernel_rfl) ilockFn qdb hF
 repeat w_go qdb
 refine Bh (λw₁ h₁=>?_);replace hF:=qdb hF h₁;clear h₁;refine qb5 rfl (λd=>⟨_,_,_,AO .disable (by simp) rfl rfl (by k_ne) rfl H.f_disable (by kernel_rfl) (by kernel_rfl) (by kernel_rfl) (by kernel_rfl),qd9 (λe he=>(by rw[Ah]at he;subst he;rfl)),qc.lead ?_⟩);replace hF:=qdb hF ⟨d,rfl⟩;change qc P Post Sh Fz T n h 1 _ _;refine qbs (m:=60) ?_;walk_nrm
 repeat w_go qdb
 refine Bh (λw₁ h₁=>?_);replace hF:=qdb hF h₁;clear h₁;refine qb5 rfl (λd=>?_);have hz:=(qdb hF ⟨d,rfl⟩).2;refine⟨_,_,_,stepG_cas_hit rfl rfl (by k_ne) rfl H.f_cas32 (by kernel_rfl) (by kernel_rfl) (by kernel_rfl) .i32 (by kernel_rfl) (ad:=⟨r,0,none⟩) (v:=0) (n:=1) (by rfl) (by rfl) (by rfl) hz.1 hz.2,qjn zG (qct _ ⟨r,0,none⟩ _) (by simp) (hz.set (v':=.int .i32 1)).lt (qnn hSh hFz (λe he=>?_)),qc.lead ?_⟩
 . simp only[BR,BN,BL,or_false]at he;rcases he with rfl|rfl
   . exact .inl rfl
   . exact .inr (.inl rfl)
 change qc P Post Sh Fz T n h 1 _ _
 have hF0:AP (w₀.setCell ⟨r,0,none⟩ (.int .i32 1)) ((w₁.at d).setCell ⟨r,0,none⟩ (.int .i32 1)):=by
  obtain⟨⟨d2,rfl⟩,_⟩:=hF;exact⟨d,rfl⟩
 replace hF:AP (w₀.setCell ⟨r,0,none⟩ (.int .i32 1)) ((w₁.at d).setCell ⟨r,0,none⟩ (.int .i32 1))/\j6 ⟨r,0,none⟩ (.int .i32 1) ((w₁.at d).setCell ⟨r,0,none⟩ (.int .i32 1)):=⟨hF0,hz.set⟩;clear hz hF0;refine qbs (m:=60) ?_;walk_nrm
 repeat w_go qdb
 refine Bh (λw₂ h₂=>?_);replace hF:=qdb hF h₂;clear h₂;refine qb5 rfl (λd=>⟨_,_,_,AO .enable (by simp) rfl rfl (by k_ne) rfl H.f_enable (by kernel_rfl) (by kernel_rfl) (by kernel_rfl) (by kernel_rfl),qd9 (λe he=>(by rw[Ah]at he;subst he;rfl)),qc.lead ?_⟩);replace hF:=qdb hF ⟨d,rfl⟩;change qc P Post Sh Fz T n h 0 _ _;refine qbs (m:=60) ?_;walk_nrm
 repeat w_go qdb
 m_convG P H.underlying_tUP H.underlying_tPIMutex H.room_tIMutex hF.2.1 qdb hF
 refine Bh (λw₂ h₂=>?_);replace hF:=qdb hF h₂;clear h₂;refine qb5 rfl (λd=>⟨_,_,_,AR .acquire (by simp) rfl rfl (by k_ne) rfl H.f_acquire (by kernel_rfl) (by kernel_rfl) (by kernel_rfl) (by kernel_rfl) (ad:=⟨r,0,none⟩) (by simp[AL]),qd9 (λe he=>(by rw[Ah]at he;subst he;rfl)),qc.lead ?_⟩);replace hF:=qdb hF ⟨d,rfl⟩;change qc P Post Sh Fz T n h 0 _ _;refine qbs (m:=60) ?_;walk_nrm
 repeat w_go qdb
 u_leave0 H.f_ilock qdb hF
 repeat w_go qdb
 u_leave0 H.f_lock qdb hF
 exact Bh (λw₅ h₅=>next.on (qdb hF h₅).1)
theorem qve{c:Ax}(hn:b.kind=.deferred)(hd:a.defers=[])(hf:P.funcs[b.fn]?=some fn)(hr:fn.results=#[])(hc:c.mode=.returning) :
   stepG P main (G {b.at a todo with mode:=.returning} (c::cs)) w=.go (G c cs) w #[]:=by
 first
 |exact AZ hn hd hf (AE hr _ P w) (AU hr _ _) hc
 |exact AZ hn hd hf (AE hr _ P w) (AU hr _ _)
theorem qx0(H:MuLib P L)(zG:¬StW T n h r)(hSh:¬Sh r)(hFz:¬Fz (.cell ⟨r,0,none⟩))(hc:j6 ⟨r,0,none⟩ (.int .i32 1) w₀){c:Ax}(hcm:c.mode=.returning)
   (next:qc P Post Sh Fz T n h 0 (G c cs) (w₀.setCell ⟨r,0,none⟩ (.int .i32 0))) :
   qc P Post Sh Fz T n h 0 (G ((baseD L.unlock).at ⟨#[.pointer (some ⟨r,0,none⟩),undef,undef,undef,undef,undef],[]⟩ [.code ((unlockFn L).body.getD .skip)]) (c::cs)) w₀:=by
 have m1:=H.runUnderlying_tMutex;have m2:=H.sizeOf_tMutex;have m3:=H.isAgg_tMutex;have m4:=H.runUnderlying_tIMutex;have m5:=H.sizeOf_tIMutex;have m6:=H.isAgg_tIMutex;have m7:=H.runUnderlying_tPMutex;have m8:=H.runUnderlying_tPIMutex;have m9:=H.runUnderlying_tPI32;have m10:=H.runUnderlying_t21;have m11:=H.isAgg_t21;have m12:=H.sizeOf_t21;simp only[unlockFn,C9];have hF:AP w₀ w₀/\j6 ⟨r,0,none⟩ (.int .i32 1) w₀:=⟨⟨w₀.drawn,rfl⟩,hc⟩;refine qbs (m:=60) ?_
 repeat w_go qdb
 u_call H.f_iunlock (by kernel_rfl) iunlockFn qdb hF
 repeat w_go qdb
 refine Bh (λw₁ h₁=>?_);replace hF:=qdb hF h₁;clear h₁;refine qb5 rfl (λd=>?_);have hz:=(qdb hF ⟨d,rfl⟩).2;refine⟨_,_,_,AW (v:=.int .i32 1) rfl rfl (by k_ne) (by have:=hz.1;go_simp),qjn zG (λ_ _=>rfl) (BW _) hz.lt (qnn hSh hFz (λe he=>?_)),qc.lead ?_⟩
 . have hm:=mem_listed he;have:=hz.1;simp[go_sem, *]at hm;exact .inr (.inr (.inl hm))
 replace hF:=qdb hF ⟨d,rfl⟩;clear hz;have hdf:∀es:Array AD,(∀e,e∈es->e=⟨.cell ⟨r,0,none⟩,false,false⟩)->deafBehind 0 es=0:=λes he=>deafBehind_still (λe h1=>by rw[he e h1];exact⟨(λk=>by cases k),(λk=>by cases k)⟩) 0
 rw[hdf _ (λe he=>by
  have hm:=mem_listed he;have:=hF.2.1;simp[go_sem, *]at hm;exact hm)]
 clear hdf;refine qbs (m:=60) ?_;walk_nrm
 repeat w_go qdb
 m_convG P H.underlying_tUP H.underlying_tPIMutex H.room_tIMutex hF.2.1 qdb hF
 refine Bh (λw₂ h₂=>?_);replace hF:=qdb hF h₂;clear h₂;refine qb5 rfl (λd=>⟨_,_,_,AR .releaseMerge (by simp) rfl rfl (by k_ne) rfl H.f_relMerge (by kernel_rfl) (by kernel_rfl) (by kernel_rfl) (by kernel_rfl) (ad:=⟨r,0,none⟩) (by simp[AL]),qd9 (λe he=>(by rw[Ah]at he;subst he;rfl)),qc.lead ?_⟩);replace hF:=qdb hF ⟨d,rfl⟩;change qc P Post Sh Fz T n h 0 _ _;refine qbs (m:=60) ?_;walk_nrm
 repeat w_go qdb
 refine Bh (λw₃ h₃=>?_);replace hF:=qdb hF h₃;clear h₃;refine qb5 rfl (λd=>⟨_,_,_,AO .disable (by simp) rfl rfl (by k_ne) rfl H.f_disable (by kernel_rfl) (by kernel_rfl) (by kernel_rfl) (by kernel_rfl),qd9 (λe he=>(by rw[Ah]at he;subst he;rfl)),qc.lead ?_⟩);replace hF:=qdb hF ⟨d,rfl⟩;change qc P Post Sh Fz T n h 1 _ _;refine qbs (m:=60) ?_;walk_nrm
 repeat w_go qdb
 refine Bh (λw₄ h₄=>?_);replace hF:=qdb hF h₄;clear h₄;refine qb5 rfl (λd=>?_);have hz:=(qdb hF ⟨d,rfl⟩).2;refine⟨_,_,_,(stepG_add_atomic rfl rfl (by k_ne) rfl H.f_add32 (by kernel_rfl) (by kernel_rfl) (by kernel_rfl) .i32 (by kernel_rfl) (ad:=⟨r,0,none⟩) (v:=1) (d:=-1) (by rfl) (by rfl) hz.1 hz.2).trans (by rw[show Bp.wrap (1+-1)=0 from by decide]),qjn zG (qct _ ⟨r,0,none⟩ _) (by simp) (hz.set (v':=.int .i32 0)).lt (qnn hSh hFz (λe he=>?_)),qc.lead ?_⟩
 . simp only[BR,BN,BL,or_false]at he;rcases he with rfl|rfl
   . exact .inl rfl
   . exact .inr (.inl rfl)
 change qc P Post Sh Fz T n h 1 _ _
 have hF0:AP (w₀.setCell ⟨r,0,none⟩ (.int .i32 0)) ((w₄.at d).setCell ⟨r,0,none⟩ (.int .i32 0)):=by
  obtain⟨⟨d2,rfl⟩,_⟩:=hF;exact⟨d,rfl⟩
 replace hF:AP (w₀.setCell ⟨r,0,none⟩ (.int .i32 0)) ((w₄.at d).setCell ⟨r,0,none⟩ (.int .i32 0))/\j6 ⟨r,0,none⟩ (.int .i32 0) ((w₄.at d).setCell ⟨r,0,none⟩ (.int .i32 0)):=⟨hF0,hz.set⟩;clear hz hF0;refine qbs (m:=60) ?_;walk_nrm
 repeat w_go qdb
 refine Bh (λw₂ h₂=>?_);replace hF:=qdb hF h₂;clear h₂;refine qb5 rfl (λd=>⟨_,_,_,AO .enable (by simp) rfl rfl (by k_ne) rfl H.f_enable (by kernel_rfl) (by kernel_rfl) (by kernel_rfl) (by kernel_rfl),qd9 (λe he=>(by rw[Ah]at he;subst he;rfl)),qc.lead ?_⟩);replace hF:=qdb hF ⟨d,rfl⟩;change qc P Post Sh Fz T n h 0 _ _;refine qbs (m:=60) ?_;walk_nrm
 repeat w_go qdb
 u_leave0 H.f_iunlock qdb hF
 repeat w_go qdb
 refine Bh (λw₂ h₂=>?_);replace hF:=qdb hF h₂;clear h₂;exact qb5 rfl (λd=>⟨_,_,_,qve rfl rfl H.f_unlock rfl hcm,.idle _,(next.on (qdb hF ⟨d,rfl⟩).1).lead⟩)
end
end
section
open Go.Conc
section
variable {Sh:Nat->Prop}{Fz:Loc->Prop}{T:Nat->qz}{n h:Nat}{w w':As}{es:Array AD}
theorem qN.shift(H:qN Sh Fz T n h w w' es)(d:Nat):qN Sh Fz T n h (w.at d) (w'.at d) es:=
 ⟨⟨λi s h1 h2 h3=>H.still.chan i s h1 h2 h3,λi s h1 h2 h3 x hx hc=>H.still.cell i s h1 h2 h3 x hx hc⟩,H.evs,H.size⟩
theorem qN.less{fs:Array AD}(H:qN Sh Fz T n h w w' es)(hs:∀e,e∈fs->e∈es):qN Sh Fz T n h w w' fs:=⟨H.still,λe he=>H.evs e (hs e he),H.size⟩
theorem qN.read(hc:w.cell? ad=some v)(hSh:¬Sh ad.block):qN Sh Fz T n h w w #[⟨.cell ad,false,false⟩]:=by
 refine⟨.refl,λe he=>?_,BW _⟩;rw[Ah]at he;subst he;obtain⟨_,c,e,fr,hb,_⟩:=qdt hc;have hlt:=(Ab.1 hb).1;exact⟨λx hx=>(by cases hx;exact⟨λk=>absurd k hSh,λk=>by cases k⟩),λx hx=>(by cases hx;exact hlt)⟩
theorem qN.write(hc:w.cell? ad=some u)(zG:¬StW T n h ad.block)(hSh:¬Sh ad.block)(hFz:¬Fz (.cell ad)):qN Sh Fz T n h w (w.setCell ad v) #[⟨.cell ad,true,false⟩]:=by
 obtain⟨_,c,e,fr,hb,_⟩:=qdt hc;have hlt:=(Ab.1 hb).1;refine⟨.of (λr hr=>qct w ad v r (λk=>zG (k▸hr))),λe he=>?_,by simp⟩;rw[Ah]at he;subst he;exact⟨λx hx=>(by cases hx;exact⟨λk=>absurd k hSh,λ_=>hFz⟩),λx hx=>(by cases hx;show ad.block<_;simpa[BG]using hlt)⟩
theorem qN.spot(hc:w.cell? ad=some u)(zG:∀i s,i≠h->i<n->T i=.seat s->s.c≠ad.block/\∀x,x∈s.L->x.1≠ad)(hSh:¬Sh ad.block)(hFz:¬Fz (.cell ad)):qN Sh Fz T n h w (w.setCell ad v) #[⟨.cell ad,true,false⟩]:=by
 obtain⟨_,c,e,fr,hb,_⟩:=qdt hc;have hlt:=(Ab.1 hb).1;refine⟨⟨λi s h1 h2 h3=>qct w ad v _ (zG i s h1 h2 h3).1,λi s h1 h2 h3 x hx hcx=>?_⟩,λe he=>?_,by simp⟩
 . rw[World.cell?_setCell_other (h:=λe:ad=x.1=>(zG i s h1 h2 h3).2 x hx e.symm)];exact hcx
 rw[Ah]at he;subst he;exact⟨λx hx=>(by cases hx;exact⟨λk=>absurd k hSh,λ_=>hFz⟩),λx hx=>(by cases hx;show ad.block<_;simpa[BG]using hlt)⟩
def qaB(T:Nat->qz)(n h:Nat)(w:As):Prop:=∀r,StW T n h r->r<w.heap.size
theorem qN.new(hT:qaB T n h w)(o:Obj):qN Sh Fz T n h w (w.alloc o) #[]:=
 ⟨.of (λr hr=>qb3 w o (Nat.ne_of_lt (hT r hr))),λe he=>by simp at he,by simp⟩
end
section
variable {P:Az}{Post:At->As->Prop}{Sh:Nat->Prop}{Fz:Loc->Prop}{T:Nat->qz}{n h dd:Nat}{g:Ay}{w w':As}{es:Array AD}
 {b:Ax} {a:Act} {k:List Item} {cs:List Ax} {ops:Array Oper} {i:Nat} {rest:List Nat} {o:Oper}
def Plain(es:Array AD):Prop:=∀e,e∈es->e.loc≠.mark .disable/\e.loc≠.mark .enable
theorem qye(hs:g.status=.running)(step:∀d,stepG P (h==0) g (w.at d)=.go g' (w'.at d) es)(H:qN Sh Fz T n h w w' es)(hp:Plain es)(next:qc P Post Sh Fz T n h dd g' w'):qc P Post Sh Fz T n h dd g w:=
 qb5 hs (λd=>⟨g',w'.at d,es,step d,H.shift d,by rw[deafBehind_still hp];exact next d⟩)
theorem qgs(v:At)(ho:ops[i]?=some o)(hw:Bz o (yielded ops a.tmps)=true)(hk:b.kind≠.early)
   (hr:∀d,(execOp a.eval o).run P (w.at d)=.ok (.value v) (w'.at d)) (he:∀d,(execOp a.eval o).events P (w.at d) #[]=es) (H:qN Sh Fz T n h w w' es) (hp:Plain es)
   (next:qc P Post Sh Fz T n h dd (G (b.at (a.put o.dst v) (.inRegion ops rest::k)) cs) w'):qc P Post Sh Fz T n h dd (G (b.at a (.inRegion ops (i::rest)::k)) cs) w:=
 qye (es:=seen P b.fn es) rfl (λd=>by rw[AW ho hw hk (hr d)];unfold listed;rw[he d]) (H.less (λ_ x=>AX x)) (λe x=>hp e (AX x)) next
theorem qt3(ho:ops[i]?=some o)(hw:Bz o (yielded ops a.tmps)=true)(hk:b.kind≠.early)
   (hr:∀d,(execOp a.eval o).run P (w.at d)=.ok .skip (w'.at d)) (he:∀d,(execOp a.eval o).events P (w.at d) #[]=es) (H:qN Sh Fz T n h w w' es) (hp:Plain es)
   (next:qc P Post Sh Fz T n h dd (G (b.at (a.put o.dst undef) (.inRegion ops rest::k)) cs) w'):qc P Post Sh Fz T n h dd (G (b.at a (.inRegion ops (i::rest)::k)) cs) w:=
 qye (es:=seen P b.fn es) rfl (λd=>by rw[stepG_none ho hw hk (hr d)];unfold listed;rw[he d]) (H.less (λ_ x=>AX x)) (λe x=>hp e (AX x)) next
theorem qhn:Plain #[]:=λe he=>by simp at he
theorem qnq{wr sy:Bool}:Plain #[⟨.cell ad,wr,sy⟩]:=λe he=>by
 rw[Ah]at he;subst he;exact⟨(λh=>by cases h),(λh=>by cases h)⟩
theorem qao(v:At)(ho:ops[i]?=some o)(hw:Bz o (yielded ops a.tmps)=true)(hk:b.kind≠.early)(hr:∀w,(execOp a.eval o).run P w=.ok (.value v) w)(he:∀w,(execOp a.eval o).events P w #[]=#[])
   (next:qc P Post Sh Fz T n h dd (G (b.at (a.put o.dst v) (.inRegion ops rest::k)) cs) w):qc P Post Sh Fz T n h dd (G (b.at a (.inRegion ops (i::rest)::k)) cs) w:=
 qgs v ho hw hk (λ_=>hr _) (λ_=>he _) (.idle w) qhn next
theorem qdu(hc:w.cell? ad=some v)(hSh:¬Sh ad.block)(ho:ops[i]?=some o)(hw:Bz o (yielded ops a.tmps)=true)(hk:b.kind≠.early)
   (hr:∀w,w.cell? ad=some v->(execOp a.eval o).run P w=.ok (.value v) w) (he:∀w,w.cell? ad=some v->(execOp a.eval o).events P w #[]=#[⟨.cell ad,false,false⟩])
   (next:qc P Post Sh Fz T n h dd (G (b.at (a.put o.dst v) (.inRegion ops rest::k)) cs) w):qc P Post Sh Fz T n h dd (G (b.at a (.inRegion ops (i::rest)::k)) cs) w:=
 qgs v ho hw hk (λ_=>hr _ hc) (λ_=>he _ hc) (.read hc hSh) qnq next
theorem qr5(hc:w.cell? ad=some u)(hz:w.frozen? ad=false)(zG:¬StW T n h ad.block)(hSh:¬Sh ad.block)(hFz:¬Fz (.cell ad))(ho:ops[i]?=some o)(hw:Bz o (yielded ops a.tmps)=true)(hk:b.kind≠.early)
   (hr:∀w,w.cell? ad=some u->w.frozen? ad=false->(execOp a.eval o).run P w=.ok .skip (w.setCell ad v)) (he:∀w,w.cell? ad=some u->w.frozen? ad=false->(execOp a.eval o).events P w #[]=#[⟨.cell ad,true,false⟩])
   (next:qc P Post Sh Fz T n h dd (G (b.at (a.put o.dst undef) (.inRegion ops rest::k)) cs) (w.setCell ad v)):qc P Post Sh Fz T n h dd (G (b.at a (.inRegion ops (i::rest)::k)) cs) w:=
 qt3 (w':=w.setCell ad v) ho hw hk (λd=>hr (w.at d) hc hz) (λd=>he (w.at d) hc hz) (.write hc zG hSh hFz) qnq next
theorem qfm{ob:Obj}{v:Nat->At}(hT:qaB T n h w)(ho:ops[i]?=some o)(hw:Bz o (yielded ops a.tmps)=true)(hk:b.kind≠.early)
   (hr:∀w,(execOp a.eval o).run P w=.ok (.value (v w.heap.size)) (w.alloc ob)) (he:∀w,(execOp a.eval o).events P w #[]=#[])
   (next:qc P Post Sh Fz T n h dd (G (b.at (a.put o.dst (v w.heap.size)) (.inRegion ops rest::k)) cs) (w.alloc ob)):qc P Post Sh Fz T n h dd (G (b.at a (.inRegion ops (i::rest)::k)) cs) w:=
 qgs (w':=w.alloc ob) (v w.heap.size) ho hw hk (λd=>hr (w.at d)) (λ_=>he _) (.new hT ob) qhn next
theorem qe9{c:Code}{args:Array AK}(ho:ops[i]?=some o)(hw:Bz o (yielded ops a.tmps)=true)(hk:b.kind≠.early)(hop:o.op=.call {callee:=.value (.func f),args,argTypes:=ats})
   (hf:P.funcs[f]?=some fn) (hname:(fn.name == "runtime.NumGoroutine")=false) (hb:fn.body=some c)
   (next:qc P Post Sh Fz T n h dd (G ((base f).at {tmps:=args.map a.eval++Ai (fn.ntmps-(args.map a.eval).size) undef,defers:=[]} [.code c]) (b.at a (.inRegion ops (i::rest)::k)::cs)) w) :
   qc P Post Sh Fz T n h dd (G (b.at a (.inRegion ops (i::rest)::k)) cs) w:=by
 have hb':fn.body.isNone=false:=by rw[hb];rfl
 refine qcv rfl (λw=>?_) next;rw[stepG_enter ho hw hk (run_call_body hop hf hname hb'),enter_at _ hf hb];have:listed P b.fn a o w=#[]:=by unfold listed;rw[events_call_body hop hf hname hb'];exact seen_none P _
 rw[this]
theorem q0t{ags:Array AK}(ho:ops[i]?=some o)(hw:Bz o (yielded ops a.tmps)=true)(hk:b.kind≠.early)(hop:o.op=.defer {callee:=.value (.func f),args:=ags,argTypes:=ats})
   (next:qc P Post Sh Fz T n h dd (G (b.at (Act.put ⟨a.tmps,dcall f (ags.map a.eval)::a.defers⟩ o.dst undef) (.inRegion ops rest::k)) cs) w):qc P Post Sh Fz T n h dd (G (b.at a (.inRegion ops (i::rest)::k)) cs) w:=
 qcv rfl (λ_=>Bf ho hw hk hop) next
theorem qyf(next:qc P Post Sh Fz T n h dd (G {b.at a []with mode:=.returning} cs) w):qc P Post Sh Fz T n h dd (G (b.at a []) cs) w:=
 qcv rfl (λ_=>stepG_end) next
theorem qyg{ds:List AJ}{c:Code}(hd:a.defers=dcall f args::ds)(hf:P.funcs[f]?=some fn)(hname:(fn.name == "runtime.NumGoroutine")=false)(hb:fn.body=some c)
   (next:qc P Post Sh Fz T n h dd (G ((baseD f).at {tmps:=args++Ai (fn.ntmps-args.size) undef,defers:=[]} [.code c]) ({b.at ⟨a.tmps,ds⟩ todo with mode:=.returning}::cs)) w) :
   qc P Post Sh Fz T n h dd (G {b.at a todo with mode:=.returning} cs) w:=
 qcv rfl (λ_=>Ba hd hf hname hb) next
theorem qos{b₀:Ax}{a₀:Act}(hn:b.kind=.normal)(hd:a.defers=[])(hf:P.funcs[b.fn]?=some fn)(hr:fn.results=#[])
   (next:qc P Post Sh Fz T n h dd (G (b₀.at (a₀.put ((ops[i]?).bind (·.dst)) (.tuple #[])) (.inRegion ops rest::k)) cs) w) :
   qc P Post Sh Fz T n h dd (G {b.at a todo with mode:=.returning} (b₀.at a₀ (.inRegion ops (i::rest)::k)::cs)) w:=
 qcv rfl (λw=>by rw[stepG_leave hn hd hf (AE hr _ P w) (AU hr _ _),Frame.finish_at]) next
end
end
section
@[reducible] def muL:Go.Conc.Locks.MuLink:={lock:=114,unlock:=115,ilock:=154,iunlock:=155,lockSlow:=198,unlockSlow:=200,disable:=102,enable:=103,acquire:=116,relMerge:=101,cas32:=197,add32:=199,tMutex:=64,tIMutex:=62,tPMutex:=190,tPIMutex:=229,tPI32:=231,tUP:=145,tNoCopy:=59,tU32:=60}
theorem qdS:Go.Conc.Locks.MuLib prog muL:=
 ⟨func114,func115,func154,func155,func102,func103,func116,func101,func197,func199,underlying62,runUnderlying62,sizeOf62,isAgg62,zeroValue62,underlying64,runUnderlying64,sizeOf64,isAgg64,zeroValue64,underlying190,runUnderlying190,sizeOf190,isAgg190,zeroValue190,underlying229,runUnderlying229,sizeOf229,isAgg229,zeroValue229,underlying231,runUnderlying231,sizeOf231,isAgg231,zeroValue231,underlying145,runUnderlying145,sizeOf145,isAgg145,zeroValue145,underlying59,runUnderlying59,sizeOf59,isAgg59,zeroValue59,underlying21,runUnderlying21,sizeOf21,isAgg21,zeroValue21,by kernel_rfl⟩
end
section
open Go.Conc Go.RowKit Go.Conc.Lib Go.ConcR.Gen Go.Conc.Locks
structure Grd where
 A:Addr->Prop
 F:AH->Prop
 N0:Nat
 fresh:∀a:Addr,N0<=a.block->A a
 up:∀a b:Addr,A a->b.block=a.block->a.off<=b.off->A b
 G:Nat
 K:Nat
 X:AH->Nat->Prop
noncomputable def Grd.base(g:Grd):Base where
 P:=prog
 A:=g.A
 F:=g.F
 N0:=g.N0
 fresh:=g.fresh
 up:=g.up
 G:=g.G
 K:=g.K
 X:=g.X
section
variable {C:Pen}{S:List String}{Sh:Nat->Prop}{Fz:Loc->Prop}{T:Nat->qz}{n h:Nat}{w z:As}
theorem ordinary(hb:Both C w z){a:Addr}(hv:z.cell? a=some v):¬C.Z a.block/\¬C.Ch a.block:=by
 obtain⟨_,c,e,fr,hc,_⟩:=qdt hv;refine⟨λhZ=>?_,λhCh=>?_⟩
 . obtain⟨c',c2,e2,fr2,h1,_,_,h4,_⟩:=hb.rel.part _ (C.zp _ hZ);rw[h4 hZ]at h1;unfold BF at hv;rw[h1]at hv;simp at hv
 . obtain⟨k,b,cl,m,n,t,h1⟩:=hb.rel.chn _ hCh;rw[hc]at h1;cases h1
theorem Outside.sep(O:Outside C Sh Fz T n h)(hB:C.B r)(hZ:¬C.Z r)(hCh:¬C.Ch r):¬StW T n h r/\¬Sh r/\∀a:Addr,a.block=r->¬Fz (.cell a):=by
 refine⟨?_,λhs=>(O.zV r hs).elim (λk=>k hB) hZ,λa ha hf=>?_⟩
 . rintro⟨i,s,h1,h2,h3,h4⟩;obtain⟨k1,k2⟩:=O.seat i s h1 h2 h3;rcases h4 with rfl|⟨x,hx,rfl⟩
   . exact k1.elim (λk=>k hB) hCh
   . exact(k2 x hx).elim (λk=>k hB) hZ
 . obtain⟨a',e,h1⟩:=O.still _ hf;cases e;subst ha;exact h1.elim (λk=>k hB) hZ
theorem Held.set{a:Addr}(hB:C.B a.block)(hZ:¬C.Z a.block)(hCh:¬C.Ch a.block)(w:As)(ht:Beyond C w (w.setCell a v)):Held C w (w.setCell a v):=
 ⟨λr hr=>qct w a v r (λe=>by subst e;exact hr.elim (λk=>k hB) (λk=>k.elim hZ hCh)),by simp,rfl,rfl,rfl,ht⟩
theorem qH.held(O:Outside C Sh Fz T n h)(hL:qH T n h w)(hh:Held C w w'):qH T n h w':=λi s h1 h2 h3=>qtn (hL i s h1 h2 h3) (O.seat i s h1 h2 h3).2 hh
theorem q9m{c:Code}(hT:∀v,v∈ts->Ok C.A C.F v)(hc:qec C S (C.X f) c)(hf:C.P.funcs[f]?=some fn)(hr:∀r,r∈fn.results->qu2 (C.X f) r):FrE C S ((base f).at ⟨ts,[]⟩ [.code c]):=
 ⟨λt v _ hv=>hT v (Array.mem_of_getElem? hv),λit hi=>(by
  have:it=.code c:=by simpa[Frame.at]using hi
  subst this;exact hc),rfl,rfl,rfl,λch e=>(by cases e),fn,hf,hr⟩
end
noncomputable def qg9:Code:=Tryz.f71.body.getD .skip
noncomputable def qy:Code:=match qg9 with | .seq _ (.seq _ c)=>c|_=>.skip
def qfn(fl:Nat)(k:Int):Array At:=#[.pointer (some ⟨fl,0,none⟩),.int .i64 k,undef,undef,undef,undef,.pointer (some ⟨fl,0,none⟩),.pointer (some ⟨fl,0,none⟩),.pointer (some ⟨fl,0,none⟩),.tuple #[],
 .pointer (some ⟨fl,0,none⟩),.pointer (some ⟨fl,0,none⟩),.pointer (some ⟨fl,0,none⟩),undef,undef,undef,undef,undef,undef,undef,undef,undef,undef,undef,undef,undef,undef,undef,undef,undef,undef]
section
variable {gr:Grd}{M:Mks gr.base}{S:List String}{Post:At->As->Prop}{Sh:Nat->Prop}{Fz:Loc->Prop}{T:Nat->qz}{n h:Nat}{w z:As}
 {b₀:Ax} {a₀:Act} {ops₀:Array Oper} {i₀:Nat} {rest₀:List Nat} {k₀:List Item} {cs:List Ax}
theorem q30(H:jd (gr.base.pen M) S)(qK:qec (gr.base.pen M) S (gr.X 71) qy)(hb:Both (gr.base.pen M) w z)(O:Outside (gr.base.pen M) Sh Fz T n h)(hL:qH T n h w)
   {fl:Nat} {k:Int} (hA:gr.A ⟨fl,0,none⟩) (hc0:z.cell? ⟨fl,0,none⟩=some (.int .i32 0)) {R:As->Prop} (hR:∀x y,x.heap=y.heap->R x->R y) (hR0:∀x,R x->x.cell? ⟨fl,0,none⟩=some (.int .i32 1))
   (piece:∀d t,qy.wp prog (λe _ x=>e=.normal/\R x) ⟨qfn fl k,[]⟩ (re ((z.setCell ⟨fl,0,none⟩ (.int .i32 1)).at d) t 0))
   (next:∀w' z',Both (gr.base.pen M) w' (z'.setCell ⟨fl,0,none⟩ (.int .i32 0))->Held (gr.base.pen M) w w'->qH T n h w'->R z'->qc prog Post Sh Fz T n h 0 (G (b₀.at (a₀.put ((ops₀[i₀]?).bind (·.dst)) (.tuple #[])) (.inRegion ops₀ rest₀::k₀)) cs) w') :
   qc prog Post Sh Fz T n h 0 (G ((base 71).at ⟨#[.pointer (some ⟨fl,0,none⟩),.int .i64 k,undef,undef,undef,undef,undef,undef,undef,undef,undef,undef,undef,undef,undef,undef,undef,undef,undef,undef,undef,undef,undef,undef,undef,undef,undef,undef,undef,undef,undef],[]⟩ [.code qg9])
    (b₀.at a₀ (.inRegion ops₀ (i₀::rest₀)::k₀)::cs)) w:=by
 obtain⟨hZ,hCh⟩:=ordinary hb hc0;have hB:(gr.base.pen M).B fl:=⟨_,hA,rfl⟩;obtain⟨s1,s2,s3⟩:=O.sep hB hZ hCh;have hcz:j6 ⟨fl,0,none⟩ (.int .i32 0) w:=⟨(hb.cell hA hc0).1,hb.thaw hA hc0⟩;have e0:qg9=.seq (match qg9 with | .seq x _=>x|_=>.skip) (.seq (match qg9 with | .seq _ (.seq x _)=>x|_=>.skip) qy):=rfl;generalize hp:qy=tp at *;rw[e0];clear e0;simp only[qg9,f71,C9];refine qau ?_;refine qaz ?_;simp only[BI,BJ,BK,BV,BU,BM,BT];refine qao (.pointer (some ⟨fl,0,none⟩)) rfl rfl (by decide) (λw=>by go_simp) (λw=>by simp[go_sem]) ?_;walk_nrm;refine qgs (w':=w) (es:=#[]) (.pointer (some ⟨fl,0,none⟩)) rfl rfl (by decide) (λd=>by have:=hcz.1;go_simp) (λd=>by have:=hcz.1;simp[go_sem]) (.idle w) qhn ?_;walk_nrm;refine qgs (w':=w) (es:=#[]) (.pointer (some ⟨fl,0,none⟩)) rfl rfl (by decide) (λd=>by have:=hcz.1;go_simp) (λd=>by have:=hcz.1;simp[go_sem]) (.idle w) qhn ?_;walk_nrm;refine qe9 rfl rfl (by decide) rfl func114 (by kernel_rfl) rfl ?_;walk_nrmf f114;have hl:=λ{b₀:Ax} {a₀:Act} {ops₀:Array Oper} {i₀:Nat} {rest₀:List Nat} {k₀:List Item} {cs:List Ax}=>q3q (Post:=Post) (b₀:=b₀) (a₀:=a₀) (ops₀:=ops₀) (i₀:=i₀) (rest₀:=rest₀) (k₀:=k₀) (cs:=cs) qdS s1 s2 (s3 ⟨fl,0,none⟩ rfl) hcz;simp only[lockFn,C9]at hl;refine hl ?_;clear hl;have yV:=hcz.set (v':=.int .i32 1);have hb1:=hb.set (v:=.int .i32 1) hA hc0 (.int _ _);have hL1:=hL.held O (Held.set (a:=⟨fl,0,none⟩) (v:=.int .i32 1) hB hZ hCh w (hb.rel.jI hc0 _));have hh1:=Held.set (C:=gr.base.pen M) (a:=⟨fl,0,none⟩) (v:=.int .i32 1) hB hZ hCh w (hb.rel.jI hc0 _);generalize w.setCell ⟨fl,0,none⟩ (.int .i32 1)=w1 at yV hb1 hL1 hh1 |-;walk_nrm;refine qai ?_;refine qau ?_;refine qaz ?_;simp only[BI,BJ,BK,BV,BU,BM,BT];refine qao (.pointer (some ⟨fl,0,none⟩)) rfl rfl (by decide) (λw=>by go_simp) (λw=>by simp[go_sem]) ?_;walk_nrm;refine qgs (w':=w1) (es:=#[]) (.pointer (some ⟨fl,0,none⟩)) rfl rfl (by decide) (λd=>by have:=yV.1;go_simp) (λd=>by have:=yV.1;simp[go_sem]) (.idle w1) qhn ?_;walk_nrm;refine qgs (w':=w1) (es:=#[]) (.pointer (some ⟨fl,0,none⟩)) rfl rfl (by decide) (λd=>by have:=yV.1;go_simp) (λd=>by have:=yV.1;simp[go_sem]) (.idle w1) qhn ?_;walk_nrm;refine q0t rfl rfl (by decide) rfl ?_;walk_nrm;refine qai ?_
 have hX:FrE (gr.base.pen M) S ((base 71).at ⟨qfn fl k,[]⟩ [.code tp]):=by
  refine q9m (λv hv=>?_) qK func71 (λr hr=>by simp[f71]at hr);simp only[qfn,BR,BN,BL,or_false]at hv
  rcases hv with rfl|rfl|rfl|rfl|rfl|rfl|rfl|rfl|rfl|rfl|rfl|rfl|rfl|rfl|rfl|rfl|rfl|rfl|rfl|rfl|rfl|rfl|rfl|rfl|rfl|rfl|rfl|rfl|rfl|rfl|rfl <;>
   first|exact .ptr hA|exact .int _ _|exact .undef
 refine qnb (a:=⟨qfn fl k,[dcall 115 #[.pointer (some ⟨fl,0,none⟩)]]⟩) H hX hb1 O hL1 (Q:=λe _ x=>e=.normal/\R x) (λe v x y hxy hq=>⟨hq.1,hR x y hxy hq.2⟩) piece (λe a w hq=>by rw[hq.1];trivial) ?_;rintro e a' todo w2 z2 hb2 hh2-xP hL2 ⟨rfl,hR2⟩;rw[xP rfl];show qc prog Post Sh Fz T n h 0 (G ((base 71).at ⟨a'.tmps,[dcall 115 #[.pointer (some ⟨fl,0,none⟩)]]⟩ []) (b₀.at a₀ (.inRegion ops₀ (i₀::rest₀)::k₀)::cs)) w2;refine qyf ?_;refine qyg rfl func115 (by kernel_rfl) rfl ?_;walk_nrmf f115;have hc2:=hR0 _ hR2;have qfX:j6 ⟨fl,0,none⟩ (.int .i32 1) w2:=⟨(hb2.cell hA hc2).1,hb2.thaw hA hc2⟩;have hu:=λ{c:Ax} {cs:List Ax}=>qx0 (Post:=Post) (c:=c) (cs:=cs) qdS s1 s2 (s3 ⟨fl,0,none⟩ rfl) qfX;simp only[unlockFn,C9]at hu;refine hu rfl ?_;clear hu;refine qos rfl rfl func71 rfl ?_;have hh3:=Held.set (C:=gr.base.pen M) (a:=⟨fl,0,none⟩) (v:=.int .i32 0) hB hZ hCh w2 (hb2.rel.jI hc2 _);exact next _ _ (hb2.set (v:=.int .i32 0) hA hc2 (.int _ _)) ((hh1.trans hh2).trans hh3) (hL2.held O hh3) hR2
end
end
section
open Go.Conc Go.RowKit Go.Conc.Lib Go.ConcR.Gen
open Go.ConcR (KK WgAt stA smA rd wr DC0 Payload)
open Go.ConcN (st_flag st_waiters WgLive PayAt)
open Go.ConcN.Gen (AnchWN)
theorem qdp{R:As->As->Prop}{D:As->As->Array AD->Prop}{Stop:Ay->As->Prop}(hR:∀w,R w w)(hD:∀w,D w w #[]){M:Nat} :
   ∀{m:Nat} {g:Ay} {w:As},Goes P main R DC0 (Goes P main R D Stop M) m g w->Goes P main R D Stop (m+M) g w
 |0,g,w,h=>by rw[BU];exact h w (hR w)
 |m+1,g,w,h=>by
  rcases h with h|⟨hs,h⟩
  . rw[Nat.add_comm];exact Go.ConcM.goes_pad (h w (hR w)) (m+1)
  . rw[Nat.succ_add];refine Bi hs (λw₁ h₁=>?_);obtain⟨g',w',es,e1,⟨e2,e3⟩,e4⟩:=Bc (h w₁ h₁);rw[e1];subst e2;subst e3;exact⟨hD _,qdp hR hD e4⟩
theorem qe8{Sh:Nat->Prop}{Fz:Loc->Prop}(w:As):DM Wg Sh Fz w w #[]:=⟨rfl,λe he=>by simp at he⟩
section
variable [Payload]{ty:AG}{Wg:Nat}{Bx:Nat->Prop}{w w₁:As}
theorem qav{F:As->Prop}(hF:∀w w',RM ty Wg Bx w w'->F w->F w')(h:F w/\WgLive ty Wg w)(r:RM ty Wg Bx w w₁):F w₁/\WgLive ty Wg w₁:=⟨hF _ _ r h.1,r.live h.2⟩
theorem qfY(a:Addr)(v:At)(hp:PayAt r m w):PayAt r m (w.setCell a v):=by
 obtain⟨cs,h1,h2⟩:=hp;by_cases e:a.block=r
 . subst e;refine⟨_,qdj w a v h1,?_⟩;split
   . exact h2
   . simpa using h2
 . exact⟨cs,(qb4 w a v r e).trans h1,h2⟩
theorem q9k{a:Addr}(ha:a.block=Wg)(hl:WgLive ty Wg (w.setCell a v)):RM ty Wg Bx w (w.setCell a v):=
 ⟨rfl,rfl,rfl,by simp[BG],λr hr _=>qb4 w a v r (λe=>hr (e.symm.trans ha)),λ_=>hl,λr _ hp=>qfY a v hp⟩
theorem qjo{F:As->Prop}(hF:∀w w',RM ty Wg Bx w w'->F w->F w')(h:F w/\WgLive ty Wg w)(r:AP w w₁):F w₁/\WgLive ty Wg w₁:=by
 obtain⟨d,rfl⟩:=r;exact qav hF h (RM.at w d)
end
def LdL(P:Az)(Post:At->As->Prop)(Sh:Nat->Prop)(Fz:Loc->Prop)(n:Nat)(g:Ay)(w:As):Prop:=qc P Post Sh Fz (λ_=>.left) n 0 0 g w
section
variable [Payload]{L:WgLink}{P:Az}{Post:At->As->Prop}{Sh:Nat->Prop}{Fz:Loc->Prop}{n:Nat}{Wg:Nat}{Bx:Nat->Prop}{F:As->Prop}
 {b₀:Ax} {a₀:Act} {ops₀:Array Oper} {i₀:Nat} {rest₀:List Nat} {k₀:List Item} {cs:List Ax}
theorem q3x(H:WgLib P L)(hF2:∀w w',RM L.tWg Wg Bx w w'->F w->F w')(w:As)(hF:F w/\WgLive L.tWg Wg w) :
   ∃m,Goes P true (RM L.tWg Wg Bx) (DM Wg Sh Fz) (MKd P L.tWg Wg Bx Sh Fz (AnchWN L F Wg (b₀.at a₀ (.inRegion ops₀ (i₀::rest₀)::k₀)) cs)) m
    (G ((base L.wait).at ⟨#[.pointer (some ⟨Wg,0,none⟩),undef,undef,undef,undef,undef,undef,undef,undef,undef,undef,undef,undef,undef,undef,undef,undef,undef,undef,undef,undef,undef,undef,undef,undef,undef,undef,undef,undef,undef,undef,undef,undef,undef,undef,undef,undef,undef,undef,undef,undef,undef,undef,undef,undef,undef,undef,undef,undef,undef,undef,undef,undef,undef,undef,undef,undef,undef,undef,undef,undef,undef,undef,undef,undef,undef,undef,undef,undef,undef,undef,undef,undef,undef,undef,undef,undef,undef,undef,undef,undef,undef,undef,undef],[]⟩ [.code (body_wait L)]) (b₀.at a₀ (.inRegion ops₀ (i₀::rest₀)::k₀)::cs)) w:=by
 lib_facts
 refine⟨_,qdp (m:=20) (M:=0) .refl qe8 ?_⟩;simp only[body_wait,waitFn,C9]
 repeat w_go (qav hF2)
 refine Bh (λw₁ h₁=>?_);replace hF:=qav hF2 hF h₁;clear h₁;refine λw₁ h₁=>?_;replace hF:=qav hF2 hF h₁;clear h₁;refine⟨rfl,_,AO .disable (by simp) rfl rfl (by k_ne) rfl H.f_disable (x_disable_n L) (x_disable_b L) (x_disable_x L) (x_disable_f L),_,qdp (m:=10) (M:=0) .refl qe8 ?_⟩;walk_nrm
 repeat w_bar (qav hF2)
 u_c Bb (qav hF2) hF
 refine Bh (λw₂ h₂=>?_);replace hF:=qav hF2 hF h₂;exact λw₃ h₃=>⟨_,rfl,by simp,by simp,qav hF2 hF h₃⟩
theorem q3y(H:WgLib P L)(hFz:∀b:Addr,b.block=Wg->¬Fz (.cell b))(hF2:∀w w',RM L.tWg Wg Bx w w'->F w->F w')
   (hT:∀w,F w->WgLive L.tWg Wg w->qc P Post Sh Fz (λ_=>.left) n 0 0 (G (b₀.at (a₀.put ((ops₀[i₀]?).bind (·.dst)) (.tuple #[])) (.inRegion ops₀ rest₀::k₀)) cs) w)
   (g:Ay) (w:As) (h:AnchWN L F Wg (b₀.at a₀ (.inRegion ops₀ (i₀::rest₀)::k₀)) cs g w) :
   ∃m,Goes P true (RM L.tWg Wg Bx) (DM Wg Sh Fz) (MW1 P L.tWg Wg Bx Sh Fz (AnchWN L F Wg (b₀.at a₀ (.inRegion ops₀ (i₀::rest₀)::k₀)) cs) (LdL P Post Sh Fz n)) m g w:=by
 lib_facts
 obtain⟨T,rfl,hT84,t0,hF⟩:=h;obtain⟨v0,v1,v2,v3,v4,v5,v6,v7,v8,v9,v10,v11,v12,v13,v14,v15,v16,v17,v18,v19,v20,v21,v22,v23,v24,v25,v26,v27,v28,v29,v30,v31,v32,v33,v34,v35,v36,v37,v38,v39,v40,v41,v42,v43,v44,v45,v46,v47,v48,v49,v50,v51,v52,v53,v54,v55,v56,v57,v58,v59,v60,v61,v62,v63,v64,v65,v66,v67,v68,v69,v70,v71,v72,v73,v74,v75,v76,v77,v78,v79,v80,v81,v82,v83,rfl⟩:=array84 T hT84;simp only[BQ,BP,Ca]at t0;subst t0;refine⟨_,qdp (m:=60) (M:=0) .refl qe8 ?_⟩;simp only[L7,body_wait,waitFn,C9]
 repeat w_go (qav hF2)
 u_call H.f_uLoad (nm_uLoad L) uLoadFn (qav hF2) hF
 repeat w_go (qav hF2)
 refine Bh (λw₀ h₀ w₁ h₁=>?_);replace hF:=qav hF2 (qav hF2 hF h₀) h₁;clear h₁ h₀;refine⟨rfl,λv hv hw=>?_⟩;rcases C0 v with rfl|hvp
 ·
  replace hw:WgAt L.tWg Wg w₁ 0 0:=by simpa using hw
  refine⟨_,AV (v:=0) rfl rfl (by k_ne) rfl H.f_loadU64 (x_loadU64_n L) (x_loadU64_b L) (x_loadU64_x L) .u64 (x_loadU64_f L) rfl hw.cellSt,λ_=>⟨_,qdp (m:=100) (M:=0) .refl qe8 ?_⟩,λh=>absurd rfl h⟩;clear hw;walk_nrm
  repeat w_go (qav hF2)
  u_leave1 H.f_uLoad (qav hF2) hF
  repeat w_go (qav hF2)
  refine Bh (λw₀ h₀ w₁ h₁=>?_);replace hF:=qav hF2 (qav hF2 hF h₀) h₁;clear h₁ h₀;refine⟨rfl,_,AO .enable (by simp) rfl rfl (by k_ne) rfl H.f_enable (x_enable_n L) (x_enable_b L) (x_enable_x L) (x_enable_f L),_,qdp (m:=30) (M:=0) .refl qe8 ?_⟩;walk_nrm
  repeat w_go (qav hF2)
  u_conv H.underlying_tWgP H.room_tWg (Go.ConcN.Gen.WgLive.cell0 hF.2).choose_spec (qav hF2) hF
  refine Bh (λw₀ h₀ w₁ h₁=>?_);replace hF:=qav hF2 (qav hF2 hF h₀) h₁;clear h₁ h₀;refine⟨rfl,_,AR .acquire (by simp) rfl rfl (by k_ne) rfl H.f_acquire (x_acquire_n L) (x_acquire_b L) (x_acquire_x L) (x_acquire_f L) (by simp[AL,stA]),?_⟩;refine qbs (m:=60) ?_;walk_nrm
  repeat w_go (qjo hF2)
  u_leave0 H.f_wait (qjo hF2) hF
  exact Bh (λw₅ h₅=>hT _ (qjo hF2 hF h₅).1 (qjo hF2 hF h₅).2)
 ·
  obtain⟨S,hS⟩:∃S:Int,(v:Int)*KK=S:=⟨_,rfl⟩;have a1:S/4294967296=(v:Int):=by rw[<-hS];simp only[KK];omega
  have b1:bits .and .u64 S 2147483648=0:=by rw[<-hS];have:=st_flag v 0 (by omega) (by omega);simpa[KK]using this
  have b2:bits .and .u64 S 2147483647=0:=by rw[<-hS];have:=st_waiters v 0 (by omega) (by omega);simpa[KK]using this
  have c1:Bp.wrap (v:Int)=(v:Int):=by rw[Bs];omega
  have w1:Bt.wrap (S+1)=S+1:=by rw[Bq,<-hS];simp only[KK];omega
  have q3:decide ((v:Int)<0)=false:=decide_eq_false (by omega);have q4:decide (0<(v:Int))=true:=decide_eq_true (by omega);have q5:((v:Int)==0)=false:=by simp;omega
  have q6:decide ((v:Int)=0)=false:=decide_eq_false (by omega);rw[hS]at hw;refine⟨_,AV (v:=S) rfl rfl (by k_ne) rfl H.f_loadU64 (x_loadU64_n L) (x_loadU64_b L) (x_loadU64_x L) .u64 (x_loadU64_f L) rfl hw.cellSt,λh0=>absurd h0 (by omega),λ_=>⟨_,qdp (m:=100) (M:=0) .refl qe8 ?_⟩⟩;clear hw;walk_nrm
  repeat (first|w_go (qav hF2)|u_cnd false (qav hF2) hF)
  u_leave1 H.f_uLoad (qav hF2) hF
  repeat (first|w_go (qav hF2)|u_cnd false (qav hF2) hF)
  u_call H.f_uCas (nm_uCas L) uCasFn (qav hF2) hF
  repeat w_go (qav hF2)
  refine Bh (λw₀ h₀ w₂ h₂=>?_);replace hF:=qav hF2 (qav hF2 hF h₀) h₂;clear h₂ h₀;refine⟨rfl,λv' hv' hw=>⟨λe=>?_,λe=>?_⟩⟩
  ·
   subst e;rw[hS]at hw |-;refine⟨_,stepG_cas_hit (v:=S) (n:=S+1) rfl rfl (by k_ne) rfl H.f_casU64 (x_casU64_n L) (x_casU64_b L) (x_casU64_x L) .u64 (x_casU64_f L) rfl rfl rfl hw.cellSt (hw.thaw 0),_,qdp (m:=100) (M:=61) .refl qe8 ?_⟩;have hl:WgLive L.tWg Wg (w₂.setCell (stA Wg) (.int .u64 (S+1))):=⟨_,_,hw.setSt _⟩;replace hF:F (w₂.setCell (stA Wg) (.int .u64 (S+1)))/\WgLive L.tWg Wg (w₂.setCell (stA Wg) (.int .u64 (S+1))):=⟨hF2 _ _ (q9k rfl hl) hF.1,hl⟩;clear hw hl;walk_nrm
   repeat w_go (qav hF2)
   u_leave1 H.f_uCas (qav hF2) hF
   repeat w_go (qav hF2)
   u_conv H.underlying_tPU32 H.room_tU32 (Go.ConcN.Gen.WgLive.cell1 hF.2).choose_spec (qav hF2) hF
   refine Bh (λw₃ h₃=>?_);replace hF:=qav hF2 hF h₃;clear h₃;refine Bi rfl (λw₄ h₄=>?_);replace hF:=qav hF2 hF h₄;clear h₄;rw[AR .write (by simp) rfl rfl (by k_ne) rfl H.f_raceWrite (x_raceWrite_n L) (x_raceWrite_b L) (x_raceWrite_x L) (x_raceWrite_f L) (ad:=⟨Wg,1,none⟩) (by simp[AL])];simp only[goes_go];refine⟨⟨rfl,λe he=>?_⟩,?_⟩
   . rw[Ah]at he;subst he;have hlt:Wg<w₄.heap.size:=by obtain⟨st,sm,h1⟩:=hF.2;exact(Ab.1 h1).1
     refine⟨⟨λx hx=>?_,λx hx=>?_⟩,by simp,by simp,by simp⟩
     . cases hx;exact⟨λ_=>by simp,λ_=>hFz _ rfl⟩
     . cases hx;exact hlt
   refine qdp (m:=60) (M:=0) .refl qe8 ?_;walk_nrm
   repeat w_go (qav hF2)
   refine Bh (λw₀ h₀ w₃ h₃=>?_);replace hF:=qav hF2 (qav hF2 hF h₀) h₃;clear h₃ h₀;refine⟨rfl,rfl,λ⟨st,hw⟩=>stepG_semacquire_wait rfl rfl rfl H.f_semacquire (x_semacquire_n L) (x_semacquire_b L) (x_semacquire_x L) (x_semacquire_f L) (by simp[AL,smA]) hw.cellSm,λhf=>?_⟩;refine⟨_,stepG_semacquire (n:=1) rfl rfl (by k_ne) rfl H.f_semacquire (x_semacquire_n L) (x_semacquire_b L) (x_semacquire_x L) (x_semacquire_f L) (by simp[AL,smA]) hf.cellSm (by k_ne) (hf.thaw 1),_,qdp (m:=60) (M:=0) .refl qe8 ?_⟩;have hl:WgLive L.tWg Wg (w₃.setCell (smA Wg) (.int .u32 0)):=⟨_,_,hf.setSm 0⟩;replace hF:F (w₃.setCell (smA Wg) (.int .u32 0))/\WgLive L.tWg Wg (w₃.setCell (smA Wg) (.int .u32 0)):=⟨hF2 _ _ (q9k rfl hl) hF.1,hl⟩;clear hf hl;walk_nrm
   repeat w_go (qav hF2)
   u_call H.f_uLoad (nm_uLoad L) uLoadFn (qav hF2) hF
   repeat w_go (qav hF2)
   refine Bh (λw₀ h₀ w₄ h₄=>?_);replace hF:=qav hF2 (qav hF2 hF h₀) h₄;clear h₄ h₀;refine⟨rfl,λhw=>⟨_,AV (v:=0) rfl rfl (by k_ne) rfl H.f_loadU64 (x_loadU64_n L) (x_loadU64_b L) (x_loadU64_x L) .u64 (x_loadU64_f L) rfl hw.cellSt,_,qdp (m:=60) (M:=0) .refl qe8 ?_⟩⟩;clear hw;walk_nrm
   repeat w_go (qav hF2)
   u_leave1 H.f_uLoad (qav hF2) hF
   repeat w_go (qav hF2)
   refine Bh (λw₀ h₀ w₁ h₁=>?_);replace hF:=qav hF2 (qav hF2 hF h₀) h₁;clear h₁ h₀;refine⟨rfl,_,AO .enable (by simp) rfl rfl (by k_ne) rfl H.f_enable (x_enable_n L) (x_enable_b L) (x_enable_x L) (x_enable_f L),_,qdp (m:=30) (M:=0) .refl qe8 ?_⟩;walk_nrm
   repeat w_go (qav hF2)
   u_conv H.underlying_tWgP H.room_tWg (Go.ConcN.Gen.WgLive.cell0 hF.2).choose_spec (qav hF2) hF
   refine Bh (λw₀ h₀ w₁ h₁=>?_);replace hF:=qav hF2 (qav hF2 hF h₀) h₁;clear h₁ h₀;refine⟨rfl,_,AR .acquire (by simp) rfl rfl (by k_ne) rfl H.f_acquire (x_acquire_n L) (x_acquire_b L) (x_acquire_x L) (x_acquire_f L) (by simp[AL,stA]),?_⟩;refine qbs (m:=60) ?_;walk_nrm
   repeat w_go (qjo hF2)
   u_leave0 H.f_wait (qjo hF2) hF
   exact Bh (λw₅ h₅=>hT _ (qjo hF2 hF h₅).1 (qjo hF2 hF h₅).2)
  ·
   refine⟨_,stepG_cas_miss (v:=(v':Int)*KK) (old:=S) (n:=S+1) rfl rfl (by k_ne) rfl H.f_casU64 (x_casU64_n L) (x_casU64_b L) (x_casU64_x L) .u64 (x_casU64_f L) rfl rfl rfl hw.cellSt (hw.thaw 0) (by rw[<-hS];simp only[KK];omega),_,qdp (m:=60) (M:=0) .refl qe8 ?_⟩;clear hw;walk_nrm
   repeat w_nl (qav hF2)
   u_leave1 H.f_uCas (qav hF2) hF
   repeat w_nl (qav hF2)
   u_c AY (qav hF2) hF
   refine Bh (λw₀ h₀ w₃ h₃=>?_);replace hF:=qav hF2 (qav hF2 hF h₀) h₃;exact⟨_,rfl,by simp,by simp,hF⟩
end
end
section
@[reducible] def wgL:Go.Conc.Lib.WgLink:={add:=68,done:=70,wait:=72,relMerge:=101,disable:=102,enable:=103,inBubble:=104,associate:=105,fatal:=106,uOr:=107,uAdd:=108,raceRead:=109,uLoad:=110,uStore:=111,disassociate:=112,semrelease:=113,acquire:=116,isAssociated:=117,uCas:=118,raceWrite:=119,semacquire:=120,orU64:=150,addU64:=151,loadU64:=152,storeU64:=153,casU64:=156,tWgP:=143,tUP:=145,tAssoc:=146,tWg:=105,tAU:=103,tU64:=101,tUint:=150,tU32:=60,tPU32:=151,tPAU:=185,tPU64:=187,tNoCopy:=59,tANoCopy:=99,tAlign64:=100}
theorem vm:Go.Conc.Lib.WgLib prog wgL:=
 ⟨func68,func70,func72,func101,func102,func103,func104,func105,func106,func107,func108,func109,func110,func111,func112,func113,func116,func117,func118,func119,func120,func150,func151,func152,func153,func156,underlying143,runUnderlying143,sizeOf143,isAgg143,zeroValue143,underlying145,runUnderlying145,sizeOf145,isAgg145,zeroValue145,underlying146,runUnderlying146,sizeOf146,isAgg146,zeroValue146,underlying105,runUnderlying105,sizeOf105,isAgg105,zeroValue105,underlying103,runUnderlying103,sizeOf103,isAgg103,zeroValue103,underlying101,runUnderlying101,sizeOf101,isAgg101,zeroValue101,underlying150,runUnderlying150,sizeOf150,isAgg150,zeroValue150,underlying60,runUnderlying60,sizeOf60,isAgg60,zeroValue60,underlying151,runUnderlying151,sizeOf151,isAgg151,zeroValue151,underlying185,runUnderlying185,sizeOf185,isAgg185,zeroValue185,underlying187,runUnderlying187,sizeOf187,isAgg187,zeroValue187,underlying0,runUnderlying0,sizeOf0,isAgg0,zeroValue0,underlying3,runUnderlying3,sizeOf3,isAgg3,zeroValue3,underlying4,runUnderlying4,sizeOf4,isAgg4,zeroValue4,underlying9,runUnderlying9,sizeOf9,isAgg9,zeroValue9,underlying20,runUnderlying20,sizeOf20,isAgg20,zeroValue20,underlying21,runUnderlying21,sizeOf21,isAgg21,zeroValue21,(by kernel_rfl),(by kernel_rfl)⟩
end
section
open Go.Conc Go.RowKit Go.Conc.Lib Go.ConcR.Gen
open Go.ConcR (KK WgAt stA smA DC0)
section
variable {P:Az}{main:Bool}{s:jD}{m:Nat}{b:Ax}{a:Act}{k:List Item}{cs:List Ax}{ops:Array Oper}{i:Nat}{rest:List Nat}{o:Oper}
theorem Way.ctl(hs:g.status=.running)(h:∀w,stepG P main g w=.go g' w #[])(H:Way P main s m g'):Way P main s (m+1) g:=
 .inr ⟨hs,g',#[],λw _=>h w,λe he=>by simp at he,H⟩
theorem Way.here(h:qi7 P main s){fr:Ax}(h1:fr=s.fr)(h2:cs=s.cs):Way P main s (m+1) (G fr cs):=by
 subst h1;subst h2;exact .inl ⟨rfl,h⟩
theorem Way.value(v:At)(ho:ops[i]?=some o)(hw:Bz o (yielded ops a.tmps)=true)(hk:b.kind≠.early)
   (hr:∀w,(execOp a.eval o).run P w=.ok (.value v) w) (he:∀w,(execOp a.eval o).events P w #[]=#[])
   (H:Way P main s m (G (b.at (a.put o.dst v) (.inRegion ops rest::k)) cs)):Way P main s (m+1) (G (b.at a (.inRegion ops (i::rest)::k)) cs):=
 .ctl rfl (λw=>by rw[AW ho hw hk (hr w)];unfold listed;rw[he w,seen_none]) H
theorem Way.load(hm:(ad,v)∈s.L)(ho:ops[i]?=some o)(hw:Bz o (yielded ops a.tmps)=true)(hk:b.kind≠.early)
   (hr:∀w,w.cell? ad=some v->(execOp a.eval o).run P w=.ok (.value v) w) (he:∀w,w.cell? ad=some v->(execOp a.eval o).events P w #[]=#[⟨.cell ad,false,false⟩])
   (H:Way P main s m (G (b.at (a.put o.dst v) (.inRegion ops rest::k)) cs)):Way P main s (m+1) (G (b.at a (.inRegion ops (i::rest)::k)) cs):=
 .inr ⟨rfl,_,seen P b.fn #[⟨.cell ad,false,false⟩],λw hL=>by rw[AW ho hw hk (hr w (hL _ hm))];unfold listed;rw[he w (hL _ hm)],λe he=>by
  have:=AX he;rw[Ah]at this;subst this;exact⟨rfl,rfl,_,hm,rfl⟩,H⟩
theorem qr4(hfr:s.fr=b.at a (.inRegion ops (i::rest)::k))(ho:ops[i]?=some o)(hw:Bz o (yielded ops a.tmps)=true)(hk:b.kind≠.early)
   (hr:∀w,(execOp a.eval o).run P w=.ok (.comm #[rcase s.c s.z] true (.recv s.ok)) w) (he:∀w,(execOp a.eval o).events P w #[]=#[]):qi7 P main s:=
 ⟨#[],λw _=>by rw[hfr,stepG_comm ho hw hk (hr w)];unfold listed;rw[he w,seen_none],λe he=>by simp at he⟩
end
def bot(P:Az):Ax:={(default:Ax)with fn:=P.funcs.size,defers:=[],mode:=.panicking [goexitEntry]}
noncomputable def q0r:Code:=Tryz.f69.body.getD .skip
def qbD(wg cb bx fb ab:Nat):Array At:=#[.pointer (some ⟨wg,0,none⟩),.pointer (some ⟨cb,0,none⟩),.pointer (some ⟨bx,0,none⟩),.pointer (some ⟨fb,0,none⟩),.pointer (some ⟨ab,0,none⟩)]
def zM(wg cb bx fb ab:Nat):AJ:={target:=.fn (.func 69) (qbD wg cb bx fb ab),args:=#[]}
theorem q6q(wg cb bx fb ab:Nat)(w:As):stepG prog false (born prog (zM wg cb bx fb ab)) w =
   .go (G ((baseD 69).at ⟨#[.pointer (some ⟨wg,0,none⟩),.pointer (some ⟨cb,0,none⟩),.pointer (some ⟨bx,0,none⟩),.pointer (some ⟨fb,0,none⟩),.pointer (some ⟨ab,0,none⟩),undef,undef,undef,undef,undef,undef,undef,undef,undef,undef,undef,undef,undef],[]⟩ [.code q0r]) [bot prog]) w #[]:=by
 simp[born,zM,qbD,stepG,unwind,callDeferred,invoke,callFunc,func69,f69,seen,GStep.after,G,Frame.enter,Frame.at,baseD,bot,q0r]
noncomputable def qpg:Code:=match q0r with | .seq _ (.seq _ (.block _ (.loop c)))=>c|_=>.skip
noncomputable def qk4:Array Oper:=match qpg with | .seq (.region _ ops _) _=>ops|_=>#[]
noncomputable def qh9:Code:=match qpg with | .seq _ c=>c|_=>.skip
def qor(wg cb bx fb ab ch:Nat)(x5 x6 x7 x8 x10 x11 x12 x13 x14 x15 x16 x17:At):Array At:=
 #[.pointer (some ⟨wg,0,none⟩),.pointer (some ⟨cb,0,none⟩),.pointer (some ⟨bx,0,none⟩),.pointer (some ⟨fb,0,none⟩),.pointer (some ⟨ab,0,none⟩),x5,x6,x7,x8,.chan (some ch),x10,x11,x12,x13,x14,x15,x16,x17]
noncomputable def qia(L:List (Addr×At))(wg cb bx fb ab ch:Nat)(x5 x6 x7 x8 x10 x11 x12 x13 x14 x15 x16 x17:At):jD where
 L:=L
 fr:=(baseD 69).at ⟨qor wg cb bx fb ab ch x5 x6 x7 x8 x10 x11 x12 x13 x14 x15 x16 x17,[dcall 70 #[.pointer (some ⟨wg,0,none⟩)]]⟩ [.inRegion qk4 [0,1],.code qh9,.inLoop qpg,.inBlock 0]
 cs:=[bot prog]
 c:=ch
 z:=.int .i64 0
 ok:=true
section
variable {L:List (Addr×At)}{wg cb bx fb ab ch:Nat}{x5 x6 x7 x8 x10 x11 x12 x13 x14 x15 x16 x17:At}{main:Bool}
theorem qnp:qi7 prog main (qia L wg cb bx fb ab ch x5 x6 x7 x8 x10 x11 x12 x13 x14 x15 x16 x17):=by
 unfold qia;simp only[qor,qk4,qpg,q0r,f69,C9];refine qr4 (b:=baseD 69) (i:=0) rfl rfl rfl (by decide) (λw=>?_) (λw=>?_)
 . simp[go_sem,rcase]
 . simp[go_sem]
end
def qg8(cb bx row ch k N:Nat):List (Addr×At):=[(⟨cb,0,none⟩,.slice (some ⟨row,0,none⟩) N N),(⟨bx,0,none⟩,.int .i64 k),(⟨row,k,none⟩,.chan (some ch))]
section
variable {L:List (Addr×At)}{wg cb bx fb ab ch row k N:Nat}{x5 x6 x7 x8 x10 x11 x12 x13 x14 x15 x16 x17:At}
theorem q8r(hk:k<N):Way prog false (qia (qg8 cb bx row ch k N) wg cb bx fb ab ch undef (.slice (some ⟨row,0,none⟩) N N) (.int .i64 k) (.pointer (some ⟨row,k,none⟩)) undef undef undef undef undef undef undef undef) 20
   (born prog (zM wg cb bx fb ab)):=by
 have hk0:(0:Int)<=(k:Int):=by omega
 have hk1:(k:Int)<(N:Int):=by omega
 refine Way.ctl rfl (q6q wg cb bx fb ab) ?_;simp only[q0r,f69,C9];refine Way.ctl rfl (λ_=>AT) ?_;refine Way.ctl rfl (λ_=>AS) ?_;simp only[BI,BJ,BK,BU,BM,BT];refine Way.ctl rfl (λ_=>Bf rfl rfl (by decide) rfl) ?_;walk_nrm;refine Way.ctl rfl (λ_=>AQ) ?_;refine Way.ctl rfl (λ_=>AT) ?_;refine Way.ctl rfl (λ_=>AS) ?_;simp only[BI,BJ,BK,BV,BU,BM,BT];refine Way.load (ad:=⟨cb,0,none⟩) (v:=.slice (some ⟨row,0,none⟩) N N) (by simp[qia,qg8]) rfl rfl (by decide) (λw h=>by go_simp) (λw h=>by simp[go_sem, *]) ?_;walk_nrm;refine Way.load (ad:=⟨bx,0,none⟩) (v:=.int .i64 k) (by simp[qia,qg8]) rfl rfl (by decide) (λw h=>by go_simp) (λw h=>by simp[go_sem, *]) ?_;walk_nrm;refine Way.value (.pointer (some ⟨row,k,none⟩)) rfl rfl (by decide) (λw=>by go_simp) (λw=>by simp[go_sem, *]) ?_;walk_nrm;refine Way.load (ad:=⟨row,k,none⟩) (v:=.chan (some ch)) (by simp[qia,qg8]) rfl rfl (by decide) (λw h=>by go_simp) (λw h=>by simp[go_sem, *]) ?_;walk_nrm;refine Way.ctl rfl (λ_=>AQ) ?_;refine Way.ctl rfl (λ_=>Bg) ?_;refine Way.ctl rfl (λ_=>Bb) ?_;refine Way.ctl rfl (λ_=>AT) ?_;refine Way.ctl rfl (λ_=>AS) ?_;simp only[BI,BJ,BK,BV,BU,BM,BT];exact Way.here qnp rfl rfl
noncomputable def q6r:Array Oper:=match qh9 with | .seq _ (.block _ (.seq _ (.seq _ (.region _ ops _))))=>ops|_=>#[]
noncomputable def q9l(wg cb bx fb ab ch:Nat)(x5 x6 x7 x8 x10 x11 x12 x13 x14 x15 x16 x17:At):Ax:=
 (baseD 69).at ⟨qor wg cb bx fb ab ch x5 x6 x7 x8 x10 x11 x12 x13 x14 x15 x16 x17,[dcall 70 #[.pointer (some ⟨wg,0,none⟩)]]⟩ [.inRegion q6r [2],.inBlock 1,.inLoop qpg,.inBlock 0]
theorem q6s:Way prog false (qia L wg cb bx fb ab ch x5 x6 x7 x8 x10 x11 x12 x13 x14 x15 x16 x17) 8 (AN (G (q9l wg cb bx fb ab ch x5 x6 x7 x8 x10 x11 x12 x13 x14 x15 x16 x17) [bot prog]) undef):=by
 have e:AN (G (q9l wg cb bx fb ab ch x5 x6 x7 x8 x10 x11 x12 x13 x14 x15 x16 x17) [bot prog]) undef=G ((baseD 69).at ⟨qor wg cb bx fb ab ch x5 x6 x7 x8 x10 x11 x12 x13 x14 x15 x16 x17,[dcall 70 #[.pointer (some ⟨wg,0,none⟩)]]⟩ [.inRegion q6r [],.inBlock 1,.inLoop qpg,.inBlock 0]) [bot prog]:=rfl;rw[e];refine Way.ctl rfl (λ_=>AQ) ?_;refine Way.ctl rfl (λ_=>Be) ?_;refine Way.ctl rfl (λ_=>AY) ?_;have e2:qpg=.seq (.region 2 qk4 false) qh9:=rfl;rw[e2];refine Way.ctl rfl (λ_=>AT) ?_;refine Way.ctl rfl (λ_=>AS) ?_;exact Way.here qnp rfl rfl
end
end
section
open Go.Conc Go.RowKit Go.Conc.Lib Go.ConcR.Gen Go.ConcN.Gen
open Go.ConcR (KK WgAt stA smA DC0 Payload)
open Go.ConcN (WgLive Has RW DWs AtR0)
theorem q3z(T:Array At):QuitsD prog 2 0 (G {(baseD 69).at ⟨T,[]⟩ []with mode:=.returning} [bot prog]):=by
 refine QuitsD.ctl (g':=G (bot prog) []) rfl (λw=>?_) ?_
 . simp[G,stepG,unwind,doReturn,results,Frame.at,baseD,bot,func69,f69,seen,GStep.after,goexitEntry]
 refine QuitsD.ctl (g':={G (bot prog) []with status:=.finished}) rfl (λw=>?_) ⟨rfl,rfl⟩;simp[G,stepG,unwind,bot,goexitEntry,Frame.catches];rfl
section
variable [Payload]{L:List (Addr×At)}{wg cb bx fb ab ch:Nat}{x5 x6 x7 x8 x10 x11 x12 x13 x14 x15 x16 x17 val:At}
theorem q0s(hw:WgLive wgL.tWg wg w)(hb:w.cell? ⟨bx,0,none⟩=some val) :
   q41 prog wgL.tWg wg ⟨qia L wg cb bx fb ab ch x5 x6 x7 x8 x10 x11 x12 x13 x14 x15 x16 x17,bx,val⟩ (AN (G (qia L wg cb bx fb ab ch x5 x6 x7 x8 x10 x11 x12 x13 x14 x15 x16 x17).fr (qia L wg cb bx fb ab ch x5 x6 x7 x8 x10 x11 x12 x13 x14 x15 x16 x17).cs) (recvd true (.int .i64 0) false)) w:=by
 have e:AN (G (qia L wg cb bx fb ab ch x5 x6 x7 x8 x10 x11 x12 x13 x14 x15 x16 x17).fr (qia L wg cb bx fb ab ch x5 x6 x7 x8 x10 x11 x12 x13 x14 x15 x16 x17).cs) (recvd true (.int .i64 0) false) =
     G ((baseD 69).at ⟨qor wg cb bx fb ab ch x5 x6 x7 x8 (.tuple #[.int .i64 0,.bool false]) x11 x12 x13 x14 x15 x16 x17,[dcall 70 #[.pointer (some ⟨wg,0,none⟩)]]⟩ [.inRegion qk4 [1],.code qh9,.inLoop qpg,.inBlock 0]) [bot prog]:=rfl
 rw[e];have hK:WgLive wgL.tWg wg w/\Has bx (1-1) val w:=⟨hw,hb⟩;refine⟨60,?_⟩;show Goes prog false (RW wgL.tWg wg bx 1 0 (1-1)) (DWs wg qlv qlv bx 1 1) (AtR0 prog wgL.tWg wg bx 1 0 1 val) _ _ w;simp only[qor,qk4,qh9,qpg,q0r,f69,C9]
 u_op kn_rely hK
 u_c AQ kn_rely hK
 u_c AT kn_rely hK
 u_cond false kn_rely hK
 u_exit kn_rely hK
 u_c stepG_end kn_rely hK
 u_in kn_rely hK
 rw[Ba rfl func70 (nm_done wgL) rfl];simp only[goes_go];refine⟨by u_nil,?_⟩;walk_nrmf f70;have hA:=λ{c:Ax} {cs:List Ax} {qt:Nat}=>doneN (L:=wgL) (P:=prog) vm (Own:=qlv) (Rd:=qlv) (Wg:=wg) (C:=bx) (n:=1) (Low:=0) (k:=1) (val:=val) (c:=c) (cs:=cs) (qt:=qt);simp only[body_done,doneFn,C9]at hA;exact Go.ConcM.goes_le (by omega) (hA rfl (q3z _) _ hK)
end
end
section
open Go.Conc Go.RowKit Go.Conc.Lib Go.ConcR.Gen Go.Conc.Locks
open Go.ConcN (upd upd_ne upd_same)
section
variable {P:Az}{Post:At->As->Prop}{Sh:Nat->Prop}{Fz:Loc->Prop}{T:Nat->qz}{n h:Nat}{g:Ay}{w:As}
theorem qt4(hs:g.status=.running){k:Nat}(hk:k≠h)(hkn:k<n)(hT:T k=.seat s)(hc:w.heap[s.c]?=some (.chan 0 #[] false κ κ false))
   (step:∀w,stepG P (h==0) g w=.comm g #[scase s.c v z] true .send w #[])
   {mh:Nat} (yC:Way P (h==0) sh mh (AN g undef)) (hL:holds sh.L w) (hch:∃κ',w.heap[sh.c]?=some (.chan 0 #[] false κ' κ' false)) (hd:sh.c≠s.c) (hdo:∀i s',i≠h->i≠k->i<n->T i=.seat s'->s'.c≠sh.c) (hfz:∀l,StL sh.L l->Fz l/\¬qi5 Sh l)
   (next:qc P Post Sh Fz (upd T h (.seat sh)) n k 0 (AN (G s.fr s.cs) (recvd s.ok v true)) (w.setChan s.c 0 #[] false (κ+1) (κ+1) false)):qc P Post Sh Fz T n h 0 g w:=
 λd=>q4y (v:=v) (z:=z) hs hk hkn hT (κ:=κ) hc ⟨#[],λe=>step _,λe he=>by simp at he,rfl⟩ yC hL hch hd hdo hfz (λe=>next e)
theorem qt5(ho:ops[i]?=some o)(hw:Bz o (yielded ops a.tmps)=true)(hk:b.kind≠.early)
   (hr:∀w,(execOp a.eval o).run P w=.ok (.comm #[scase c v z] true .send) w) (he:∀w,(execOp a.eval o).events P w #[]=#[]) :
   ∀w,stepG P main (G (b.at a (.inRegion ops (i::rest)::k)) cs) w=.comm (G (b.at a (.inRegion ops (i::rest)::k)) cs) #[scase c v z] true .send w #[]:=λw=>by
 rw[stepG_comm ho hw hk (hr w)];unfold listed;rw[he w,seen_none]
end
structure ql(C:Pen)(X:Nat->Prop)(w w':As):Prop where
 block:∀r,¬X r->(¬C.B r∨C.Z r∨C.Ch r)->w'.heap[r]?=w.heap[r]?
 size:w.heap.size<=w'.heap.size
 os:w'.os=w.os
 output:w'.output=w.output
 tape:w'.tape=w.tape
theorem Held.but{X:Nat->Prop}(h:Held C w w'):ql C X w w':=⟨λr _ hr=>h.block r hr,h.size,h.os,h.output,h.tape⟩
theorem ql.refl(C:Pen)(X:Nat->Prop)(w:As):ql C X w w:=(Held.refl C w).but
theorem ql.trans{X:Nat->Prop}{a b c:As}(h:ql C X a b)(k:ql C X b c):ql C X a c:=
 ⟨λr hr hr'=>(k.block r hr hr').trans (h.block r hr hr'),BY h.size k.size,k.os.trans h.os,k.output.trans h.output,k.tape.trans h.tape⟩
theorem ql.mono{X Y:Nat->Prop}{a b:As}(h:ql C X a b)(k:∀r,X r->Y r):ql C Y a b:=⟨λr hr hr'=>h.block r (λx=>hr (k r x)) hr',h.size,h.os,h.output,h.tape⟩
theorem ql.chan{X:Nat->Prop}(hX:X c)(k:Nat)(b:Array At)(cl:Bool)(m n:Nat)(t:Bool):ql C X w (w.setChan c k b cl m n t):=
 ⟨λr hr _=>(by rw[qbw,if_neg (λe=>by subst e;exact hr hX)]),by simp[As.setChan],rfl,rfl,rfl⟩
theorem ql.new{X:Nat->Prop}(hX:X w.heap.size)(o:Obj):ql C X w (w.alloc o):=
 ⟨λr hr _=>qb3 w o (λe=>by subst e;exact hr hX),by simp,rfl,rfl,rfl⟩
theorem ql.set{X:Nat->Prop}{a:Addr}(hX:X a.block)(v:At):ql C X w (w.setCell a v):=
 ⟨λr hr _=>qct w a v r (λe=>by subst e;exact hr hX),by simp,rfl,rfl,rfl⟩
theorem Held.cell(h:Held C w w'){a:Addr}(ha:C.Z a.block)(hv:w.cell? a=some v):w'.cell? a=some v:=by
 unfold BF at hv |-;rw[h.block _ (.inr (.inl ha))];exact hv
theorem q6t{k:Nat}{b:Array At}{cl:Bool}(h:w.heap[c]?=some (.chan k b cl m n t)):c<w.heap.size:=(Ab.1 h).1
def xQ(L:List (Addr×At))(wg cb bx fb ab ch:Nat)(s:jD):Prop:=∃x5 x6 x7 x8 x10 x11 x12 x13 x14 x15 x16 x17,s=qia L wg cb bx fb ab ch x5 x6 x7 x8 x10 x11 x12 x13 x14 x15 x16 x17
section
variable {gr:Grd}{M:Mks gr.base}{S:List String}{Post:At->As->Prop}{Sh:Nat->Prop}{Fz:Loc->Prop}{T:Nat->qz}{n h:Nat}{w z:As}
theorem q31(H:jd (gr.base.pen M) S)(qK:qec (gr.base.pen M) S (gr.X 71) qy)(hb:Both (gr.base.pen M) w z)(O:Outside (gr.base.pen M) Sh Fz T n h)(hL:qH T n h w)
   {fl:Nat} {j:Int} (hA:gr.A ⟨fl,0,none⟩) (hc0:z.cell? ⟨fl,0,none⟩=some (.int .i32 0)) {R:As->Prop} (hR:∀x y,x.heap=y.heap->R x->R y) (hR0:∀x,R x->x.cell? ⟨fl,0,none⟩=some (.int .i32 1))
   (piece:∀d t,qy.wp prog (λe _ x=>e=.normal/\R x) ⟨qfn fl j,[]⟩ (re ((z.setCell ⟨fl,0,none⟩ (.int .i32 1)).at d) t 0))
   {L:List (Addr×At)} {wg cb bx fb ab ch ac:Nat}  (hs:xQ L wg cb bx fb ab ch s) (h0:h≠0) (hn:0<n) (hT0:T 0=.seat sh) (hsh:sh.c=ac)
   (hfb:w.cell? ⟨fb,0,none⟩=some (.pointer (some ⟨fl,0,none⟩))) (hbx:w.cell? ⟨bx,0,none⟩=some (.int .i64 j)) (hab:w.cell? ⟨ab,0,none⟩=some (.chan (some ac)))
   (zab:M.Z ab) (nfb:¬Sh fb) (nbx:¬Sh bx) (nab:¬Sh ab)  (hac:w.heap[ac]?=some (.chan 0 #[] false κ κ false)) (cac:M.Ch ac) (pac:¬M.Pt ac) (bac:gr.A ⟨ac,0,none⟩)
   (hown:holds L w) (hch:∃κ',w.heap[ch]?=some (.chan 0 #[] false κ' κ' false)) (cch:M.Ch ch) (hne:ch≠ac) (hdo:∀i s',i≠h->i≠0->i<n->T i=.seat s'->s'.c≠ch) (hfz:∀l,StL L l->Fz l/\¬qi5 Sh l) (hLZ:∀x,x∈L->M.Z x.1.block)
   (next:∀s' w' z',xQ L wg cb bx fb ab ch s'->R z'->Both (gr.base.pen M) w' ((z'.setCell ⟨fl,0,none⟩ (.int .i32 0)).setChan ac 0 #[] false (κ+1) (κ+1) false)->ql (gr.base.pen M) (λr=>r=ac) w w' ->
    w'.heap[ac]?=some (.chan 0 #[] false (κ+1) (κ+1) false)->(z'.setCell ⟨fl,0,none⟩ (.int .i32 0)).heap[ac]?=some (.chan 0 #[] false κ κ false)->qc prog Post Sh Fz (upd T h (.seat s')) n 0 0 (AN (G sh.fr sh.cs) (recvd sh.ok (.int .i64 call) true)) w') :
   qc prog Post Sh Fz T n h 0 (AN (G s.fr s.cs) (recvd s.ok (.int .i64 call) true)) w:=by
 obtain⟨x5,x6,x7,x8,x10,x11,x12,x13,x14,x15,x16,x17,rfl⟩:=hs
 have e:AN (G (qia L wg cb bx fb ab ch x5 x6 x7 x8 x10 x11 x12 x13 x14 x15 x16 x17).fr (qia L wg cb bx fb ab ch x5 x6 x7 x8 x10 x11 x12 x13 x14 x15 x16 x17).cs) (recvd (qia L wg cb bx fb ab ch x5 x6 x7 x8 x10 x11 x12 x13 x14 x15 x16 x17).ok (.int .i64 call) true) =
     G ((baseD 69).at ⟨qor wg cb bx fb ab ch x5 x6 x7 x8 (.tuple #[.int .i64 call,.bool true]) x11 x12 x13 x14 x15 x16 x17,[dcall 70 #[.pointer (some ⟨wg,0,none⟩)]]⟩ [.inRegion qk4 [1],.code qh9,.inLoop qpg,.inBlock 0]) [bot prog]:=rfl
 rw[e];clear e;generalize hl:qpg=lp;simp only[qor,qk4,qh9,qpg,q0r,f69,C9];refine qao (.bool true) rfl rfl (by decide) (λw=>by go_simp) (λw=>by simp[go_sem]) ?_;walk_nrm;refine qai ?_;refine qau ?_;refine qhj (t:=true) rfl ?_;simp only[if_true];refine qm8 ?_;refine qe4 ?_;refine qau ?_;refine qaz ?_;simp only[BI,BJ,BK,BV,BU,BM,BT];refine qao (.int .i64 call) rfl rfl (by decide) (λw=>by go_simp) (λw=>by simp[go_sem]) ?_;walk_nrm;refine qao (.int .i64 call) rfl rfl (by decide) (λw=>by go_simp) (λw=>by simp[go_sem]) ?_;walk_nrm;refine qai ?_;refine qau ?_;refine qaz ?_;simp only[BI,BJ,BK,BV,BU,BM,BT];refine qdu hfb nfb rfl rfl (by decide) (λw h=>by go_simp) (λw h=>by simp[go_sem, *]) ?_;walk_nrm;refine qdu hbx nbx rfl rfl (by decide) (λw h=>by go_simp) (λw h=>by simp[go_sem, *]) ?_;walk_nrm;refine qe9 (c:=qg9) rfl rfl (by decide) rfl func71 (by kernel_rfl) rfl ?_;walk_nrmf f71;refine q30 H qK hb O hL hA hc0 hR hR0 piece (λw1 z1 hb1 hh1 hL1 hR1=>?_);walk_nrm;refine qai ?_;refine qaz ?_;simp only[BI,BJ,BK,BV,BU,BM,BT];have qfZ:=hh1.cell (a:=⟨ab,0,none⟩) zab hab;refine qdu qfZ nab rfl rfl (by decide) (λw h=>by go_simp) (λw h=>by simp[go_sem, *]) ?_;walk_nrm;refine qao (.int .i64 call) rfl rfl (by decide) (λw=>by go_simp) (λw=>by simp[go_sem]) ?_;walk_nrm;subst hl;have qbE:w1.heap[ac]?=some (.chan 0 #[] false κ κ false):=(hh1.block _ (.inr (.inr cac))).trans hac;obtain⟨κ',hch⟩:=hch;have qgA:w1.heap[ch]?=some (.chan 0 #[] false κ' κ' false):=(hh1.block _ (.inr (.inr cch))).trans hch;have hown1:holds L w1:=λx hx=>hh1.cell (hLZ x hx) (hown x hx);subst hsh
 refine qt4 (k:=0) (s:=sh) (sh:=qia L wg cb bx fb ab ch (.int .i64 call) x6 x7 x8 (.tuple #[.int .i64 call,.bool true]) (.bool true) (.int .i64 call) (.pointer (some ⟨fl,0,none⟩)) (.int .i64 j) (.tuple #[]) (.chan (some sh.c)) (.int .i64 call)) (mh:=8) (v:=.int .i64 call) rfl h0.symm hn hT0 qbE
  (qt5 rfl rfl (by decide) (λw=>by simp[go_sem,scase];rfl) (λw=>by simp[go_sem])) ?_ hown1 ⟨κ',qgA⟩ hne hdo hfz ?_
 . have:(h==0)=false:=by simpa using h0
   rw[this];exact q6s
 . refine next _ _ z1 ⟨_,_,_,_,_,_,_,_,_,_,_,_,rfl⟩ hR1 (hb1.setChan pac 0 #[] false (κ+1) (κ+1) false) (hh1.but.trans (ql.chan (X:=λr=>r=sh.c) rfl _ _ _ _ _ _)) ?_ ((hb1.vO ⟨_,bac,rfl⟩ pac).trans qbE);rw[qbw,if_pos rfl,if_pos (q6t qbE)]
end
end
section
open Go.Conc Go.RowKit Go.Conc.Lib Go.ConcR.Gen
open Go.ConcR (KK WgAt stA smA Payload)
open Go.ConcN (upd upd_ne upd_same WgLive PayAt)
def qms(m0 j N:Nat):List (Addr×At):=qg8 (m0+3) (m0+6+2*j) (m0+2) (m0+7+2*j) j N
def vn(m0 j N:Nat)(s:jD):Prop:=xQ (qms m0 j N) (m0+1) (m0+3) (m0+6+2*j) m0 (m0+5) (m0+7+2*j) s
structure ju(m0 N K fl:Nat)(w:As):Prop where
 fb:∃e,w.heap[m0]?=some (.cells #[.pointer (some ⟨fl,0,none⟩)] e)
 wg:WgAt wgL.tWg (m0+1) w ((K:Int)*KK) 0
 row:∃arr,w.heap[m0+2]?=some (.cells arr 107)/\arr.size=N/\∀j,j<K->arr[j]?=some (.chan (some (m0+7+2*j)))
 cb:∃e,w.heap[m0+3]?=some (.cells #[.slice (some ⟨m0+2,0,none⟩) N N] e)
 ac:∃κ,w.heap[m0+4]?=some (.chan 0 #[] false κ κ false)
 ab:∃e,w.heap[m0+5]?=some (.cells #[.chan (some (m0+4))] e)
 bx:∀j,j<K->w.heap[m0+6+2*j]?=some (.cells #[.int .i64 j] 3)
 ch:∀j,j<K->∃κ,w.heap[m0+7+2*j]?=some (.chan 0 #[] false κ κ false)
structure qV{B:Base}(m0 K:Nat)(M:Mks B):Prop where
 z0:M.Z m0
 z1:M.Z (m0+1)
 z2:M.Z (m0+2)
 z3:M.Z (m0+3)
 c4:M.Ch (m0+4)
 z5:M.Z (m0+5)
 zb:∀j,j<K->M.Z (m0+6+2*j)
 cc:∀j,j<K->M.Ch (m0+7+2*j)
 n4:¬M.Pt (m0+4)
 nc:∀j,j<K->¬M.Pt (m0+7+2*j)
structure qW(m0 N n0 K:Nat)(T:Nat->qz):Prop where
 old:∀i,i≠0->i<n0->T i=.left
 work:∀j,j<K->∃s,vn m0 j N s/\T (n0+j)=.seat s
 out:∀i,n0+K<=i->T i=.left
def qb9(m0:Nat)(Sh:Nat->Prop)(r:Nat):Prop:=Sh r∨r=m0+1
def qcm(m0 K:Nat)(Fz:Loc->Prop)(l:Loc):Prop:=Fz l∨l=.cell ⟨m0+3,0,none⟩∨l=.cell ⟨m0+5,0,none⟩∨∃j,j<K/\(l=.cell ⟨m0+6+2*j,0,none⟩∨l=.cell ⟨m0+2,j,none⟩)
structure jA(C:Pen)(Sh:Nat->Prop)(Fz:Loc->Prop):Prop where
 zV:∀r,Sh r->¬C.B r∨C.Z r
 still:∀l,Fz l->∃a:Addr,l=.cell a/\(¬C.B a.block∨C.Z a.block)
theorem jA.le{B:Base}{M M':Mks B}{Sh:Nat->Prop}{Fz:Loc->Prop}(O:jA (B.pen M) Sh Fz)(k:M.Le M'):jA (B.pen M') Sh Fz:=
 ⟨λr hr=>(O.zV r hr).imp id (k.z _),λl hl=>by
  obtain⟨a,e,h1⟩:=O.still l hl;exact⟨a,e,h1.imp id (k.z _)⟩⟩
theorem jA.lt{B:Base}{M:Mks B}{Sh:Nat->Prop}{Fz:Loc->Prop}(O:jA (B.pen M) Sh Fz):(∀r,Sh r->r<M.N)/\∀a:Addr,Fz (.cell a)->a.block<M.N:=by
 have key:∀r,(¬(B.pen M).B r∨M.Z r)->r<M.N:=λr hr=>by
  rcases hr with hr|hr
  . refine C6 (λhge=>hr ⟨⟨r,0,none⟩,B.fresh _ (BY M.ge hge),rfl⟩)
  . exact M.old r (.inl (M.zp r hr))
 refine⟨λr hr=>key r (O.zV r hr),λa ha=>?_⟩;obtain⟨a',e,h1⟩:=O.still _ ha;cases e;exact key _ h1
section
variable {B:Base}{M:Mks B}{m0 N n0 K fl:Nat}{T:Nat->qz}{Sh:Nat->Prop}{Fz:Loc->Prop}{w w':As}
theorem qd4(h:vn m0 j N s):s.c=m0+7+2*j/\s.L=qms m0 j N/\s.cs=[bot prog]/\s.z=.int .i64 0/\s.ok=true:=by
 obtain⟨_,_,_,_,_,_,_,_,_,_,_,_,rfl⟩:=h;exact⟨rfl,rfl,rfl,rfl,rfl⟩
theorem qW.seat(R:qW m0 N n0 K T)(h0:i≠0)(hT:T i=.seat s):∃j,j<K/\i=n0+j/\vn m0 j N s:=by
 by_cases h1:i<n0
 . rw[R.old i h0 h1]at hT;cases hT
 . by_cases h2:i<n0+K
   . obtain⟨s',h3,h4⟩:=R.work (i-n0) (by omega);rw[show n0+(i-n0)=i from by omega]at h4;rw[h4]at hT;cases hT;exact⟨i-n0,by omega,by omega,h3⟩
   . rw[R.out i (by omega)]at hT;cases hT
theorem qW.stw(R:qW m0 N n0 K T)(h:StW T (n0+K) 0 r):r=m0+2∨r=m0+3∨∃j,j<K/\(r=m0+6+2*j∨r=m0+7+2*j):=by
 obtain⟨i,s,h1,h2,h3,h4⟩:=h;obtain⟨j,hj,rfl,hs⟩:=R.seat h1 h3;obtain⟨e1,e2,_⟩:=qd4 hs;rcases h4 with rfl|⟨x,hx,rfl⟩
 . exact .inr (.inr ⟨j,hj,.inr e1⟩)
 . rw[e2]at hx;simp only[qms,qg8,BN,BL,or_false]at hx;rcases hx with rfl|rfl|rfl
   . exact .inr (.inl rfl)
   . exact .inr (.inr ⟨j,hj,.inl rfl⟩)
   . exact .inl rfl
theorem ju.vZ(C:ju m0 N K fl w)(hj:j<K):holds (qms m0 j N) w:=by
 intro x hx;simp only[qms,qg8,BN,BL,or_false]at hx;rcases hx with rfl|rfl|rfl
 . obtain⟨e,h1⟩:=C.cb;simp[BF,h1]
 . have h1:=C.bx j hj;simp[BF,h1]
 . obtain⟨arr,h1,h2,h3⟩:=C.row;simp[BF,h1,h3 j hj]
theorem ju.hold(C:ju m0 N K fl w)(R:qW m0 N n0 K T):qH T (n0+K) 0 w:=λi s h1 _ h3=>by
 obtain⟨j,hj,rfl,hs⟩:=R.seat h1 h3;rw[(qd4 hs).2.1];exact C.vZ hj
theorem qV.out(C:qV m0 K M)(R:qW m0 N n0 K T)(O:jA (B.pen M) Sh Fz):Outside (B.pen M) (qb9 m0 Sh) (qcm m0 K Fz) T (n0+K) 0:=by
 refine⟨λi s h1 _ h3=>?_,λr hr=>?_,λl hl=>?_⟩
 . obtain⟨j,hj,rfl,hs⟩:=R.seat h1 h3;obtain⟨e1,e2,_⟩:=qd4 hs;refine⟨.inr (e1▸C.cc j hj),λx hx=>.inr ?_⟩;rw[e2]at hx;simp only[qms,qg8,BN,BL,or_false]at hx;rcases hx with rfl|rfl|rfl
   . exact C.z3
   . exact C.zb j hj
   . exact C.z2
 . rcases hr with hr|rfl
   . exact O.zV r hr
   . exact .inr C.z1
 . rcases hl with hl|rfl|rfl|⟨j,hj,rfl|rfl⟩
   . exact O.still l hl
   . exact⟨_,rfl,.inr C.z3⟩
   . exact⟨_,rfl,.inr C.z5⟩
   . exact⟨_,rfl,.inr (C.zb j hj)⟩
   . exact⟨_,rfl,.inr C.z2⟩
theorem ju.lt(C:ju m0 N K fl w):m0+5<w.heap.size/\∀j,j<K->m0+7+2*j<w.heap.size:=by
 obtain⟨e,h1⟩:=C.ab;refine⟨(Ab.1 h1).1,λj hj=>?_⟩;obtain⟨κ,h2⟩:=C.ch j hj;exact(Ab.1 h2).1
theorem ju.qdT(C:ju m0 N K fl w)(R:qW m0 N n0 K T):qaB T (n0+K) 0 w:=λr hr=>by
 obtain⟨h1,h2⟩:=C.lt;rcases R.stw hr with rfl|rfl|⟨j,hj,rfl|rfl⟩
 . omega
 . omega
 . have:=h2 j hj;omega
 . exact h2 j hj
theorem ju.same(C:ju m0 N K fl w)(h:∀r,m0<=r->r<m0+6+2*K->w'.heap[r]?=w.heap[r]?):ju m0 N K fl w':=by
 obtain⟨h1,h2,h3,h4,h5,h6,h7,h8⟩:=C;refine⟨?_,(h (m0+1) (by omega) (by omega)).trans h2,?_,?_,?_,?_,λj hj=>(h _ (by omega) (by omega)).trans (h7 j hj),λj hj=>?_⟩
 . rw[h m0 (by omega) (by omega)];exact h1
 . rw[h (m0+2) (by omega) (by omega)];exact h3
 . rw[h (m0+3) (by omega) (by omega)];exact h4
 . rw[h (m0+4) (by omega) (by omega)];exact h5
 . rw[h (m0+5) (by omega) (by omega)];exact h6
 . rw[h (m0+7+2*j) (by omega) (by omega)];exact h8 j hj
theorem ju.held(C:ju m0 N K fl w)(hM:qV m0 K M){X:Nat->Prop}(hh:ql (B.pen M) X w w')(hX:∀r,X r->r=m0+4∨∃j,j<K/\r=m0+7+2*j)
   (h4:∃κ,w'.heap[m0+4]?=some (.chan 0 #[] false κ κ false)) (hc:∀j,j<K->∃κ,w'.heap[m0+7+2*j]?=some (.chan 0 #[] false κ κ false)):ju m0 N K fl w':=by
 have nX:∀r,r≠m0+4->(∀j,j<K->r≠m0+7+2*j)->¬X r:=λr h1 h2 hx=>by
  rcases hX r hx with e|⟨j,hj,e⟩
  . exact h1 e
  . exact h2 j hj e
 have st:∀r,M.Z r->r≠m0+4->(∀j,j<K->r≠m0+7+2*j)->w'.heap[r]?=w.heap[r]?:=λr hz h1 h2=>hh.block r (nX r h1 h2) (.inr (.inl hz));have e0:=st m0 hM.z0 (by omega) (λj _=>by omega);have e1:=st (m0+1) hM.z1 (by omega) (λj _=>by omega);have e2:=st (m0+2) hM.z2 (by omega) (λj _=>by omega);have e3:=st (m0+3) hM.z3 (by omega) (λj _=>by omega);have e5:=st (m0+5) hM.z5 (by omega) (λj _=>by omega);refine⟨?_,e1.trans C.wg,?_,?_,h4,?_,λj hj=>?_,hc⟩
 . rw[e0];exact C.fb
 . rw[e2];exact C.row
 . rw[e3];exact C.cb
 . rw[e5];exact C.ab
 . rw[st _ (hM.zb j hj) (by omega) (λi _=>by omega)];exact C.bx j hj
theorem qV.le{M':Mks B}(C:qV m0 K M)(k:M.Le M')(h4:¬M'.Pt (m0+4))(hn:∀j,j<K->¬M'.Pt (m0+7+2*j)):qV m0 K M':=
 ⟨k.z _ C.z0,k.z _ C.z1,k.z _ C.z2,k.z _ C.z3,k.ch _ C.c4,k.z _ C.z5,λj hj=>k.z _ (C.zb j hj),λj hj=>k.ch _ (C.cc j hj),h4,hn⟩
end
end
section
theorem qib(T:Array At)(h:T.size=55):∃v0 v1 v2 v3 v4 v5 v6 v7 v8 v9 v10 v11 v12 v13 v14 v15 v16 v17 v18 v19 v20 v21 v22 v23 v24 v25 v26 v27 v28 v29 v30 v31 v32 v33 v34 v35 v36 v37 v38 v39 v40 v41 v42 v43 v44 v45 v46 v47 v48 v49 v50 v51 v52 v53 v54:At,T=#[v0,v1,v2,v3,v4,v5,v6,v7,v8,v9,v10,v11,v12,v13,v14,v15,v16,v17,v18,v19,v20,v21,v22,v23,v24,v25,v26,v27,v28,v29,v30,v31,v32,v33,v34,v35,v36,v37,v38,v39,v40,v41,v42,v43,v44,v45,v46,v47,v48,v49,v50,v51,v52,v53,v54]:=by
 obtain⟨l⟩:=T;simp only[BI]at h;rcases l with _|⟨v0,l⟩
 . simp at h
 rcases l with _|⟨v1,l⟩
 . simp at h
 rcases l with _|⟨v2,l⟩
 . simp at h
 rcases l with _|⟨v3,l⟩
 . simp at h
 rcases l with _|⟨v4,l⟩
 . simp at h
 rcases l with _|⟨v5,l⟩
 . simp at h
 rcases l with _|⟨v6,l⟩
 . simp at h
 rcases l with _|⟨v7,l⟩
 . simp at h
 rcases l with _|⟨v8,l⟩
 . simp at h
 rcases l with _|⟨v9,l⟩
 . simp at h
 rcases l with _|⟨v10,l⟩
 . simp at h
 rcases l with _|⟨v11,l⟩
 . simp at h
 rcases l with _|⟨v12,l⟩
 . simp at h
 rcases l with _|⟨v13,l⟩
 . simp at h
 rcases l with _|⟨v14,l⟩
 . simp at h
 rcases l with _|⟨v15,l⟩
 . simp at h
 rcases l with _|⟨v16,l⟩
 . simp at h
 rcases l with _|⟨v17,l⟩
 . simp at h
 rcases l with _|⟨v18,l⟩
 . simp at h
 rcases l with _|⟨v19,l⟩
 . simp at h
 rcases l with _|⟨v20,l⟩
 . simp at h
 rcases l with _|⟨v21,l⟩
 . simp at h
 rcases l with _|⟨v22,l⟩
 . simp at h
 rcases l with _|⟨v23,l⟩
 . simp at h
 rcases l with _|⟨v24,l⟩
 . simp at h
 rcases l with _|⟨v25,l⟩
 . simp at h
 rcases l with _|⟨v26,l⟩
 . simp at h
 rcases l with _|⟨v27,l⟩
 . simp at h
 rcases l with _|⟨v28,l⟩
 . simp at h
 rcases l with _|⟨v29,l⟩
 . simp at h
 rcases l with _|⟨v30,l⟩
 . simp at h
 rcases l with _|⟨v31,l⟩
 . simp at h
 rcases l with _|⟨v32,l⟩
 . simp at h
 rcases l with _|⟨v33,l⟩
 . simp at h
 rcases l with _|⟨v34,l⟩
 . simp at h
 rcases l with _|⟨v35,l⟩
 . simp at h
 rcases l with _|⟨v36,l⟩
 . simp at h
 rcases l with _|⟨v37,l⟩
 . simp at h
 rcases l with _|⟨v38,l⟩
 . simp at h
 rcases l with _|⟨v39,l⟩
 . simp at h
 rcases l with _|⟨v40,l⟩
 . simp at h
 rcases l with _|⟨v41,l⟩
 . simp at h
 rcases l with _|⟨v42,l⟩
 . simp at h
 rcases l with _|⟨v43,l⟩
 . simp at h
 rcases l with _|⟨v44,l⟩
 . simp at h
 rcases l with _|⟨v45,l⟩
 . simp at h
 rcases l with _|⟨v46,l⟩
 . simp at h
 rcases l with _|⟨v47,l⟩
 . simp at h
 rcases l with _|⟨v48,l⟩
 . simp at h
 rcases l with _|⟨v49,l⟩
 . simp at h
 rcases l with _|⟨v50,l⟩
 . simp at h
 rcases l with _|⟨v51,l⟩
 . simp at h
 rcases l with _|⟨v52,l⟩
 . simp at h
 rcases l with _|⟨v53,l⟩
 . simp at h
 rcases l with _|⟨v54,l⟩
 . simp at h
 rcases l with _|⟨x,l⟩
 . exact⟨v0,v1,v2,v3,v4,v5,v6,v7,v8,v9,v10,v11,v12,v13,v14,v15,v16,v17,v18,v19,v20,v21,v22,v23,v24,v25,v26,v27,v28,v29,v30,v31,v32,v33,v34,v35,v36,v37,v38,v39,v40,v41,v42,v43,v44,v45,v46,v47,v48,v49,v50,v51,v52,v53,v54,rfl⟩
 . simp at h
structure qP(m0 N fl:Nat)(cs:At)(T:Array At):Prop where
 size:T.size=55
 s0:T[0]?=some (.pointer (some ⟨fl,0,none⟩))
 s1:T[1]?=some (.int .i64 N)
 s2:T[2]?=some cs
 s3:T[3]?=some (.pointer (some ⟨m0,0,none⟩))
 s6:T[6]?=some (.pointer (some ⟨m0+1,0,none⟩))
 s7:T[7]?=some (.pointer (some ⟨m0+3,0,none⟩))
 s8:T[8]?=some (.pointer (some ⟨m0+5,0,none⟩))
end
section
open Go.Conc Go.RowKit Go.Conc.Lib Go.ConcR.Gen
open Go.ConcR (KK WgAt stA smA Payload)
noncomputable def qhd:Code:=Tryz.f43.body.getD .skip
noncomputable def qh7:Code:=match qhd with | .seq _ (.seq _ (.seq _ (.seq _ c)))=>c|_=>.skip
theorem qir(h:w.heap[r]?=some (.cells #[v] e)):w.cell? ⟨r,0,none⟩=some v/\w.frozen? ⟨r,0,none⟩=false:=by
 simp[BF,BH,h]
theorem qbF(h:w.heap[r]?=some (.cells #[u] e)):(w.setCell ⟨r,0,none⟩ v).heap[r]?=some (.cells #[v] e):=by
 rw[qdj w ⟨r,0,none⟩ v h];simp
theorem qgB{t:AG}{i:TypeInfo}(w:As)(ht:P.underlying t=some (.slice e))(hi:P.info? e=some i)(hb:i.bytes<=64)(N:Nat)(hN:N<=4):(Bn t (.int .i64 N) (.int .i64 N)).events P w #[]=#[]:=by
 have wc:Bu.wrap (N:Int)=N:=by rw[Br];omega
 have h1:N*i.bytes<=4*64:=C7 hN hb;have n1:¬((N:Int)<0):=by omega
 have n2:¬(281474976710656<(i.bytes:Int)*(N:Int)):=by
  have:((i.bytes*N:Nat):Int)<=256:=by rw[Nat.mul_comm];omega
  rw[Int.natCast_mul]at this;omega
 have n3:¬(roomBytes<N*i.bytes):=by unfold roomBytes;omega
 by_cases hz:N*i.size=0
 . simp[Bn,AI ht,asInt,asIntOf,typeInfo,hi,sizeOf,wc,n1,n2,n3,hz,newRow,askRoom]
 . cases hzero:i.zero<;>simp[Bn,AI ht,asInt,asIntOf,typeInfo,hi,sizeOf,zeroValue,hzero,wc,n1,n2,n3,newRow,askRoom]
theorem qpm(w:As):(Bo 107 (.int .i64 0)).run prog w=.ok (.chan (some w.heap.size)) (w.alloc (.chan 0 #[] false 0 0 false))/\(Bo 107 (.int .i64 0)).events prog w #[]=#[]:=by
 have h:(Tryz.prog.info? 3).isSome=true:=by kernel_rfl
 obtain⟨i,hi⟩:=Option.isSome_iff_exists.1 h;have hb:(i.bytes:Int)*(0:Nat)<=281474976710544:=by omega
 exact⟨run_makeChan (P:=prog) (w:=w) underlying107 hi .i64 0 (by omega) hb,events_makeChan (P:=prog) (w:=w) underlying107 hi .i64 0 (by omega) hb #[]⟩
structure jv(gr:Grd)(M:Mks gr.base)(m0:Nat)(D:As->Prop)(w₀:As)(w z:As)(M1:Mks gr.base)(s:Nat):Prop where
 both:Both (gr.base.pen M1) w z
 data:D z
 le:M.Le M1
 size:w.heap.size=s
 ge:m0<=s
 held:ql (gr.base.pen M) (λr=>m0<=r) w₀ w
section
variable {gr:Grd}{M M1:Mks gr.base}{m0 s:Nat}{D:As->Prop}{w₀ w z:As}
theorem jv.void(S:jv gr M m0 D w₀ w z M1 s)(hD:∀x o,D x->D (x.alloc o))(c:Array At)(e:AG) :
   ∃z2 M2,jv gr M m0 D w₀ (w.alloc (.cells c e)) z2 M2 (s+1)/\M1.Le M2/\M2.Z s/\(∀r,M2.Pt r->M1.Pt r∨r=s)/\(w.alloc (.cells c e)).heap[s]?=some (.cells c e)/\∀r,r≠s->(w.alloc (.cells c e)).heap[r]?=w.heap[r]?:=by
 obtain⟨hb,hz,le,rfl,ge,hh⟩:=S;exact⟨_,_,⟨hb.void c e,hD _ _ hz,le.trans (M1.vM _ hb.rel.room),by simp,by omega,hh.trans (.new ge _)⟩,M1.vM _ hb.rel.room,.inr rfl,λr h=>h,heap_alloc_new w _,λr hr=>qb3 w _ hr⟩
theorem jv.chan(S:jv gr M m0 D w₀ w z M1 s)(hD:∀x o,D x->D (x.alloc o))(o:Obj)(ho:o=.chan 0 #[] false 0 0 false) :
   ∃z2 M2,jv gr M m0 D w₀ (w.alloc o) z2 M2 (s+1)/\M1.Le M2/\M2.Ch s/\¬M2.Pt s/\(∀r,M2.Pt r->M1.Pt r)/\(w.alloc o).heap[s]?=some o/\∀r,r≠s->(w.alloc o).heap[r]?=w.heap[r]?:=by
 subst ho;obtain⟨hb,hz,le,rfl,ge,hh⟩:=S;exact⟨_,_,⟨hb.chan 0 #[] false 0 0 false,hD _ _ hz,le.trans (M1.vN _ hb.rel.room),by simp,by omega,hh.trans (.new ge _)⟩,M1.vN _ hb.rel.room,.inr rfl,(λh=>Nat.lt_irrefl _ (Nat.lt_of_lt_of_le (M1.old _ (.inl h)) hb.rel.room)),λr h=>h,heap_alloc_new w _,λr hr=>qb3 w _ hr⟩
theorem jv.set(S:jv gr M m0 D w₀ w z M1 s){a:Addr}(hZ:M1.Z a.block)(ha:m0<=a.block)(v:At):jv gr M m0 D w₀ (w.setCell a v) z M1 s:=
 ⟨S.both.qfW hZ v,S.data,S.le,by rw[<-S.size];simp,S.ge,S.held.trans (.set (X:=λr=>m0<=r) ha v)⟩
end
section
variable {gr:Grd}{M:Mks gr.base}{Post:At->As->Prop}{Sh:Nat->Prop}{Fz:Loc->Prop}{T:Nat->qz}{n0:Nat}{w z:As}{cs:List Ax}
theorem q0c(hb:Both (gr.base.pen M) w z)(O:jA (gr.base.pen M) Sh Fz)(hT:∀i,i≠0->T i=.left){D:As->Prop}(hD:∀x o,D x->D (x.alloc o))(hz:D z){fl:Nat}(hN1:1<=N)(hN:N<=4)
   (next:∀tm w' z' (M':Mks gr.base),qP w.heap.size N fl csv tm->M.Le M'->Both (gr.base.pen M') w' z'->D z'->qV w.heap.size 0 M'->ju w.heap.size N 0 fl w'->w'.heap.size=w.heap.size+6->ql (gr.base.pen M) (λr=>w.heap.size<=r) w w' ->
    qc prog Post (qb9 w.heap.size Sh) (qcm w.heap.size 0 Fz) T n0 0 0 (G ((base 43).at ⟨tm,[]⟩ [.code qh7]) cs) w') :
   qc prog Post Sh Fz T n0 0 0 (G ((base 43).at ⟨#[.pointer (some ⟨fl,0,none⟩),.int .i64 N,csv,undef,undef,undef,undef,undef,undef,undef,undef,undef,undef,undef,undef,undef,undef,undef,undef,undef,undef,undef,undef,undef,undef,undef,undef,undef,undef,undef,undef,undef,undef,undef,undef,undef,undef,undef,undef,undef,undef,undef,undef,undef,undef,undef,undef,undef,undef,undef,undef,undef,undef,undef,undef],[]⟩ [.code qhd]) cs) w:=by
 have hst:∀w:As,qaB T n0 0 w:=λw r hr=>by
  obtain⟨i,s,h1,_,h3,_⟩:=hr;rw[hT i h1]at h3;cases h3
 have hsw:∀r,¬StW T n0 0 r:=λr hr=>by
  obtain⟨i,s,h1,_,h3,_⟩:=hr;rw[hT i h1]at h3;cases h3
 obtain⟨lt1,lt2⟩:=O.lt;have hroom:=hb.rel.room;have e0:qhd=.seq (match qhd with | .seq x _=>x|_=>.skip) (.seq (match qhd with | .seq _ (.seq x _)=>x|_=>.skip) (.seq (match qhd with | .seq _ (.seq _ (.seq x _))=>x|_=>.skip) (.seq (match qhd with | .seq _ (.seq _ (.seq _ (.seq x _)))=>x|_=>.skip) qh7))):=rfl;generalize qh7=rm at *;rw[e0];clear e0;obtain⟨m0,hm0⟩:∃m0,m0=w.heap.size:=⟨_,rfl⟩;rw[<-hm0]at next;simp only[qhd,f43,C9];refine qau ?_;refine qaz ?_;simp only[BI,BJ,BK,BU,BM,BT];refine qfm (ob:=.cells #[.pointer (some ⟨fl,0,none⟩)] 98) (v:=λs=>.pointer (some ⟨s,0,none⟩)) (hst w) rfl rfl (by decide) (λw=>by go_simp) (λw=>by simp[go_sem]) ?_;walk_nrm;refine qai ?_;refine qau ?_;refine qaz ?_;simp only[BI,BJ,BK,BU,BM,BT];have S0:jv gr M m0 D w w z M m0:=⟨hb,hz,.refl M,hm0.symm,BW _,.refl _ _ _⟩;obtain⟨z1,M1,S1,le1,zz0,p1,k0,-⟩:=S0.void hD #[.pointer (some ⟨fl,0,none⟩)] 98;rw[<-hm0];replace hroom:M.N<=m0:=by rw[hm0];exact hroom
 clear hm0;generalize w.alloc (.cells #[.pointer (some ⟨fl,0,none⟩)] 98)=w1 at S1 k0 |-;have hs1:=S1.size;refine qna (Sh':=qb9 m0 Sh) (Fz':=Fz) (λr h=>.inl h) (λr h=>h.imp id (λe=>by omega)) (λ_ h=>h) ?_;refine qfm (ob:=Bj wgL.tWg 0 0) (v:=λs=>.pointer (some ⟨s,0,none⟩)) (hst w1) rfl rfl (by decide) (λw=>by go_simp;rfl) (λw=>by simp[go_sem]) ?_;walk_nrm;refine qai ?_;refine qau ?_;refine qaz ?_;simp only[BI,BJ,BK,BV,BU,BM,BT];rw[hs1];obtain⟨z2,M2,S2,le2,zz1,p2,k1,ks⟩:=S1.void hD #[.int .u64 0,.int .u32 0] wgL.tWg;replace k0:(w1.alloc (Bj wgL.tWg 0 0)).heap[m0]?=some (.cells #[.pointer (some ⟨fl,0,none⟩)] 98):=(ks m0 (by omega)).trans k0;clear ks;replace k1:WgAt wgL.tWg (m0+1) (w1.alloc (Bj wgL.tWg 0 0)) 0 0:=k1;change jv gr M m0 D w (w1.alloc (Bj wgL.tWg 0 0)) z2 M2 (m0+1+1)at S2;generalize w1.alloc (Bj wgL.tWg 0 0)=w2 at S2 k0 k1 |-;have hs2:=S2.size;refine qao (.int .i64 N) rfl rfl (by decide) (λw=>by go_simp) (λw=>by simp[go_sem]) ?_;walk_nrm
 obtain⟨i,hi,hi1,hi2,hi3⟩:∃i,Tryz.prog.info? 107=some i/\i.zero=some (.chan none)/\i.size=1/\i.bytes<=64:=by
  have h:(Tryz.prog.info? 107).map (λi=>(i.zero,i.size,decide (i.bytes<=64)))=some (some (.chan none),1,true):=by kernel_rfl
  obtain⟨i,h1,h2⟩:=Option.map_eq_some_iff.1 h;simp only[Prod.mk.injEq,decide_eq_true_eq]at h2;exact⟨i,h1,h2.1,h2.2.1,h2.2.2⟩
 have hi4:(i.bytes:Int)*(N:Int)<=281474976710656:=by
  have h1:i.bytes*N<=64*4:=C7 hi3 hN;have:((i.bytes*N:Nat):Int)<=256:=by omega
  rw[Int.natCast_mul]at this;omega
 refine qfm (ob:=.cells (AB #[.chan none] N) 107) (v:=λs=>.slice (some ⟨s,0,none⟩) N N) (hst w2) rfl rfl (by decide) (λw=>?_) (λw=>?_) ?_
 . have:=run_make (P:=prog) w 106 107 i (.chan none) underlying106 hi hi1 .i64 .i64 N N (by omega) (Int.le_refl _) hi4 (by omega);simp only[Int.toNat_natCast,hi2,Nat.mul_one]at this
   go_simp
 . have:=qgB (P:=prog) w underlying106 hi hi3 N hN;simp[go_sem,this]
 walk_nrm;rw[hs2];obtain⟨z3,M3,S3,le3,zz2,p3,k2,ks⟩:=S2.void hD (AB #[.chan none] N) 107;replace k0:=(ks m0 (by omega)).trans k0;replace k1:WgAt wgL.tWg (m0+1) _ 0 0:=(ks (m0+1) (by omega)).trans k1;clear ks;generalize w2.alloc (.cells (AB #[.chan none] N) 107)=w3 at S3 k0 k1 k2 |-;have hs3:=S3.size;refine qfm (ob:=.cells #[.slice none 0 0] 106) (v:=λs=>.pointer (some ⟨s,0,none⟩)) (hst w3) rfl rfl (by decide) (λw=>by go_simp) (λw=>by simp[go_sem]) ?_;walk_nrm;rw[hs3];obtain⟨z4,M4,S4,le4,zz3,p4,k3,ks⟩:=S3.void hD #[.slice none 0 0] 106;replace k0:=(ks m0 (by omega)).trans k0;replace k1:WgAt wgL.tWg (m0+1) _ 0 0:=(ks (m0+1) (by omega)).trans k1;replace k2:=(ks (m0+1+1) (by omega)).trans k2;clear ks;generalize w3.alloc (.cells #[.slice none 0 0] 106)=w4 at S4 k0 k1 k2 k3 |-
 have nsh:∀r,m0+1<r->¬qb9 m0 Sh r:=λr hr h=>by
  rcases h with h|h
  . have:=lt1 r h;omega
  . omega
 have nfz:∀r,m0<=r->¬Fz (.cell ⟨r,0,none⟩):=λr hr h=>by
  have h1:r<M.N:=lt2 _ h;omega
 refine qr5 (u:=.slice none 0 0) (v:=.slice (some ⟨m0+1+1,0,none⟩) N N) (qir k3).1 (qir k3).2 (hsw _) (nsh _ (by show m0+1<m0+1+1+1;omega)) (nfz _ (by omega)) rfl rfl (by decide) (λw h1 h2=>by go_simp) (λw h1 h2=>by simp[go_sem,AF _ _ _ _ (.slice (some ⟨m0+1+1,0,none⟩) N N) _ rfl,h1,h2]) ?_;walk_nrm;refine qai ?_;refine qau ?_;refine qaz ?_;simp only[BI,BJ,BK,BV,BU,BM,BT];have S5:=S4.set (a:=⟨m0+1+1+1,0,none⟩) zz3 (by show m0<=m0+1+1+1;omega) (.slice (some ⟨m0+1+1,0,none⟩) N N);have ks:=qct w4 ⟨m0+1+1+1,0,none⟩ (.slice (some ⟨m0+1+1,0,none⟩) N N);replace k0:=(ks m0 (by show m0≠m0+1+1+1;omega)).trans k0;replace k1:WgAt wgL.tWg (m0+1) _ 0 0:=(ks (m0+1) (by show m0+1≠m0+1+1+1;omega)).trans k1;replace k2:=(ks (m0+1+1) (by show m0+1+1≠m0+1+1+1;omega)).trans k2;replace k3:=qbF (v:=.slice (some ⟨m0+1+1,0,none⟩) N N) k3;clear ks;generalize w4.setCell ⟨m0+1+1+1,0,none⟩ (.slice (some ⟨m0+1+1,0,none⟩) N N)=w5 at S5 k0 k1 k2 k3 |-;have hs5:=S5.size;refine qfm (ob:=.chan 0 #[] false 0 0 false) (v:=λs=>.chan (some s)) (hst w5) rfl rfl (by decide) (λw=>?_) (λw=>?_) ?_
 . have:=(qpm w).1
   go_simp
 . have:=(qpm w).2;simp[go_sem,this]
 walk_nrm;rw[hs5];obtain⟨z6,M6,S6,le6,cc4,n4,p6,k4,ks⟩:=S5.chan hD _ rfl;replace k0:=(ks m0 (by omega)).trans k0;replace k1:WgAt wgL.tWg (m0+1) _ 0 0:=(ks (m0+1) (by omega)).trans k1;replace k2:=(ks (m0+1+1) (by omega)).trans k2;replace k3:=(ks (m0+1+1+1) (by omega)).trans k3;clear ks;generalize w5.alloc (.chan 0 #[] false 0 0 false)=w6 at S6 k0 k1 k2 k3 k4 |-;have hs6:=S6.size;refine qfm (ob:=.cells #[.chan none] 107) (v:=λs=>.pointer (some ⟨s,0,none⟩)) (hst w6) rfl rfl (by decide) (λw=>by go_simp) (λw=>by simp[go_sem]) ?_;walk_nrm;rw[hs6];obtain⟨z7,M7,S7,le7,zz5,p7,k5,ks⟩:=S6.void hD #[.chan none] 107;replace k0:=(ks m0 (by omega)).trans k0;replace k1:WgAt wgL.tWg (m0+1) _ 0 0:=(ks (m0+1) (by omega)).trans k1;replace k2:=(ks (m0+1+1) (by omega)).trans k2;replace k3:=(ks (m0+1+1+1) (by omega)).trans k3;replace k4:=(ks (m0+1+1+1+1) (by omega)).trans k4;clear ks;generalize w6.alloc (.cells #[.chan none] 107)=w7 at S7 k0 k1 k2 k3 k4 k5 |-;refine qr5 (u:=.chan none) (v:=.chan (some (m0+1+1+1+1))) (qir k5).1 (qir k5).2 (hsw _) (nsh _ (by show m0+1<m0+1+1+1+1+1;omega)) (nfz _ (by omega)) rfl rfl (by decide) (λw h1 h2=>by go_simp) (λw h1 h2=>by simp[go_sem,AF _ _ _ _ (.chan (some (m0+1+1+1+1))) _ rfl,h1,h2]) ?_;walk_nrm;refine qai ?_;have S8:=S7.set (a:=⟨m0+1+1+1+1+1,0,none⟩) zz5 (by show m0<=m0+1+1+1+1+1;omega) (.chan (some (m0+1+1+1+1)));have ks:=qct w7 ⟨m0+1+1+1+1+1,0,none⟩ (.chan (some (m0+1+1+1+1)));replace k0:=(ks m0 (by show m0≠m0+1+1+1+1+1;omega)).trans k0;replace k1:WgAt wgL.tWg (m0+1) _ 0 0:=(ks (m0+1) (by show m0+1≠m0+1+1+1+1+1;omega)).trans k1;replace k2:=(ks (m0+1+1) (by show m0+1+1≠m0+1+1+1+1+1;omega)).trans k2;replace k3:=(ks (m0+1+1+1) (by show m0+1+1+1≠m0+1+1+1+1+1;omega)).trans k3;replace k4:=(ks (m0+1+1+1+1) (by show m0+1+1+1+1≠m0+1+1+1+1+1;omega)).trans k4;replace k5:=qbF (v:=.chan (some (m0+1+1+1+1))) k5;clear ks;generalize w7.setCell ⟨m0+1+1+1+1+1,0,none⟩ (.chan (some (m0+1+1+1+1)))=w8 at S8 k0 k1 k2 k3 k4 k5 |-;have hC:ju m0 N 0 fl w8:=⟨⟨_,k0⟩,(by simpa using k1),⟨_,k2,by simp[AB],λj hj=>absurd hj (BX j)⟩,⟨_,k3⟩,⟨0,k4⟩,⟨_,k5⟩,λj hj=>absurd hj (BX j),λj hj=>absurd hj (BX j)⟩
 have hM:qV m0 0 M7:=⟨le7.z _ (le6.z _ (le4.z _ (le3.z _ (le2.z _ zz0)))),le7.z _ (le6.z _ (le4.z _ (le3.z _ zz1))),le7.z _ (le6.z _ (le4.z _ zz2)),le7.z _ (le6.z _ zz3),le7.ch _ cc4,zz5,λj hj=>absurd hj (BX j),λj hj=>absurd hj (BX j),
  λh=>(p7 _ h).elim n4 (λe=>by omega),λj hj=>absurd hj (BX j)⟩
 have hFz:∀l,Fz l->qcm m0 0 Fz l:=λl h=>.inl h;refine qna (Sh':=qb9 m0 Sh) (Fz':=qcm m0 0 Fz) (λr h=>h) (λr h=>.inl h) hFz ?_;exact next _ _ _ _ ⟨rfl,rfl,rfl,rfl,rfl,rfl,rfl,rfl⟩ S8.le S8.both S8.data hM hC S8.size S8.held
end
end
section
open Go.Conc
theorem count_set{S:Array Bool}(h:S.getD i true=false):(S.setIfInBounds i true).toList.countP (!·)+1=S.toList.countP (!·):=by
 obtain⟨l⟩:=S
 have hi:i<l.length:=by
  refine C6 (λhge=>?_);rw[Am,Array.getElem?_eq_none (by simpa using hge)]at h;simp at h
 have hv:l[i]=false:=by
  rw[Am,Array.getElem?_eq_getElem (by simpa using hi)]at h;simpa using h
 have hpos:0<l.countP (!·):=List.countP_pos_iff.2 ⟨false,by rw[<-hv];exact List.getElem_mem hi,rfl⟩;simp only[List.setIfInBounds_toArray];rw[List.countP_set (h:=hi),hv];simp;omega
section
variable {P:Az}{Post:At->As->Prop}{Sh:Nat->Prop}{Fz:Loc->Prop}{T:Nat->qz}{n h dd:Nat}
 {b:Ax} {k:List Item} {cs:List Ax} {ops:Array Oper}
theorem qx6{I:Array Bool->Act->As->Prop}
   (step:∀S a w i rest,I S a w->i∈BA .any ops S->(BA .any ops (S.setIfInBounds i true)=[]->rest=[])->(∀a' w',I (S.setIfInBounds i true) a' w'->qc P Post Sh Fz T n h dd (G (b.at a' (.inRegion ops rest::k)) cs) w')->qc P Post Sh Fz T n h dd (G (b.at a (.inRegion ops (i::rest)::k)) cs) w)
   (stop:∀S a w,I S a w->BA .any ops S=[]->qc P Post Sh Fz T n h dd (G (b.at a (.inRegion ops []::k)) cs) w) :
   ∀fuel t S a w,S.toList.countP (!·)<=fuel->I S a w->qc P Post Sh Fz T n h dd (G (b.at a (.inRegion ops (BE .any ops fuel t S [])::k)) cs) w:=by
 intro fuel
 induction fuel with
 |zero=>
  intro t S a w hf hI;refine stop S a w hI ?_;refine List.eq_nil_iff_forall_not_mem.2 (λi hi=>?_);have:=count_set (AA.1 hi).1;omega
 |succ fuel ih=>
  intro t S a w hf hI;simp only[BE]
  change qc P Post Sh Fz T n h dd (G (b.at a (.inRegion ops (match (BA .any ops S)[t%(BA .any ops S).length]? with
   |some i=>BE .any ops fuel (t/(BA .any ops S).length) (S.setIfInBounds i true) [i]
   |none=>[].reverse)::k)) cs) w
  cases hi:(BA .any ops S)[t%(BA .any ops S).length]? with
  |none=>
   refine stop S a w hI ?_;cases hr:BA .any ops S with
   |nil=>rfl
   |cons x xs=>
    rw[hr]at hi;have hlt:t%(x::xs).length<(x::xs).length:=Nat.mod_lt _ (by simp);rw[List.getElem?_eq_getElem hlt]at hi;cases hi
  |some i=>
   have him:i∈BA .any ops S:=List.mem_of_getElem? hi;have hc:=count_set (AA.1 him).1;simp only[];rw[linearise_go_acc,List.reverse_singleton,List.singleton_append];refine step S a w i _ hI him (λhr=>?_) (λa' w' hI'=>ih _ _ a' w' (by omega) hI');cases fuel with
   |zero=>rfl
   |succ f=>
    simp only[BE];have hr':(BM ops.size).filter (λj=>!(S.setIfInBounds i true).getD j true&&((ops[j]?).map (·.after.all λe=>!Region.binds .any e||(S.setIfInBounds i true).getD e.on false)).getD false)=[]:=hr;rw[hr'];rfl
theorem qt1{I:Array Bool->Act->As->Prop}{id:Nat}(hm:P.follows .mixedOrders=true)(h0:I (Ai ops.size false) a w)
   (step:∀S a w i rest,I S a w->i∈BA .any ops S->(BA .any ops (S.setIfInBounds i true)=[]->rest=[])->(∀a' w',I (S.setIfInBounds i true) a' w'->qc P Post Sh Fz T n h dd (G (b.at a' (.inRegion ops rest::k)) cs) w')->qc P Post Sh Fz T n h dd (G (b.at a (.inRegion ops (i::rest)::k)) cs) w)
   (stop:∀S a w,I S a w->BA .any ops S=[]->qc P Post Sh Fz T n h dd (G (b.at a (.inRegion ops []::k)) cs) w) :
   qc P Post Sh Fz T n h dd (G (b.at a (.code (.region id ops true)::k)) cs) w:=by
 refine qb5 rfl (λd=>⟨_,_,_,stepG_region_draw,(qfV (w.at d)).1,?_⟩);have:=qx6 step stop ops.size ((w.at d).tape (w.at d).drawn (.order b.fn id)) (Ai ops.size false) a w (BY List.countP_le_length (by simp)) h0
 have e:BB (P.follows .mixedOrders) ops ((w.at d).tape (w.at d).drawn (.order b.fn id))=BE .any ops ops.size ((w.at d).tape (w.at d).drawn (.order b.fn id)) (Ai ops.size false) []:=by
  simp only[BB,hm,Bool.true_or,if_true];rfl
 rw[e];exact this (d+1)
end
end
section
open Go.Conc Go.RowKit Go.Conc.Lib Go.ConcR.Gen
open Go.ConcR (KK WgAt stA smA Payload)
open Go.ConcN (upd upd_ne upd_same)
theorem q8k{Post:At->As->Prop}{Sh:Nat->Prop}{Fz:Loc->Prop}{child:Ay}(hs:g.status=.running)(step:∀w,stepG P (h==0) g w=.spawn g' child w #[])(hL:qH T n h w)
     (h4:holds s.L w) (h5:w.heap[s.c]?=some (.chan 0 #[] false κ κ false)) (h6:∀i s',i≠h->i<n->T i=.seat s'->s'.c≠s.c) (h7:Way P false s m child) (h8:∀l,StL s.L l->Fz l/\¬qi5 Sh l)
   (next:qc P Post Sh Fz (upd T n (.seat s)) (n+1) h 0 g' w):qc P Post Sh Fz T n h 0 g w:=
 λe=>q9y hs (λd=>⟨g',child,w.at d,#[],step _,⟨λi s h1 h2 h3=>⟨hL i s h1 h2 h3,rfl⟩,λe he=>by simp at he,BW _⟩,rfl,s,m,κ,h4,h5,h6,h7,h8,next d⟩)
theorem q3t{Post:At->As->Prop}{Sh:Nat->Prop}{Fz:Loc->Prop}{d:AJ}{f:Fn}{c:Array At}
   (ho:ops[i]?=some o) (hw:Bz o (yielded ops a.tmps)=true) (hk:b.kind≠.early) (hr:∀w,(execOp a.eval o).run P w=.ok (.spawn d) w) (he:∀w,(execOp a.eval o).events P w #[]=#[]) (hd:d.target=.fn f c) (hL:qH T n h w)
     (h4:holds s.L w) (h5:w.heap[s.c]?=some (.chan 0 #[] false κ κ false)) (h6:∀i s',i≠h->i<n->T i=.seat s'->s'.c≠s.c) (h7:Way P false s m (born P d)) (h8:∀l,StL s.L l->Fz l/\¬qi5 Sh l)
   (next:qc P Post Sh Fz (upd T n (.seat s)) (n+1) h 0 (G (b.at (a.put o.dst undef) (.inRegion ops rest::k)) cs) w):qc P Post Sh Fz T n h 0 (G (b.at a (.inRegion ops (i::rest)::k)) cs) w:=
 q8k rfl (λw=>by rw[stepG_spawn ho hw hk (hr w) hd];unfold listed;rw[he w,seen_none]) hL h4 h5 h6 h7 h8 next
theorem qW.next{n0:Nat}(R:qW m0 N n0 K T)(hs:vn m0 K N s):qW m0 N n0 (K+1) (upd T (n0+K) (.seat s)):=
 ⟨λi h1 h2=>by rw[upd_ne T _ (by omega)];exact R.old i h1 h2,λj hj=>by
  by_cases e:j=K
  . subst e;exact⟨s,hs,upd_same ..⟩
  . rw[upd_ne T _ (by omega)];exact R.work j (by omega),λi hi=>by rw[upd_ne T _ (by omega)];exact R.out i (by omega)⟩
theorem q8l{c:Array At}(h:w.heap[r]?=some (.cells c e)):(w.setCell ⟨r,i,none⟩ v).heap[r]?=some (.cells (c.setIfInBounds i v) e):=by
 rw[qdj w ⟨r,i,none⟩ v h];simp
noncomputable def qek:Code:=match qh7 with | .seq (.seq _ (.block _ (.loop c))) _=>c|_=>.skip
noncomputable def qgu:Code:=match qh7 with | .seq _ c=>c|_=>.skip
def qh8(m0 N fl K:Nat)(csv x22 x23 x24 x25 v4 v5 v10 v11 v12 v13 v14 v15 v16 v17 v26 v27 v28 v29 v30 v31 v32 v33 v34 v35 v36 v37 v38 v39 v40 v41 v42 v43 v44 v45 v46 v47 v48 v49 v50 v51 v52 v53 v54:At):Array At:=
 #[.pointer (some ⟨fl,0,none⟩),.int .i64 N,csv,.pointer (some ⟨m0,0,none⟩),v4,v5,.pointer (some ⟨m0+1,0,none⟩),.pointer (some ⟨m0+3,0,none⟩),.pointer (some ⟨m0+5,0,none⟩),.pointer (some ⟨m0+6+2*K,0,none⟩),v10,v11,v12,v13,v14,v15,v16,v17,.int .i64 N,.int .i64 K,.bool true,.int .i64 K,x22,x23,x24,x25,v26,v27,v28,v29,v30,v31,v32,v33,v34,v35,v36,v37,v38,v39,v40,v41,v42,v43,v44,v45,v46,v47,v48,v49,v50,v51,v52,v53,v54]
section
variable {gr:Grd}{M M1:Mks gr.base}{Post:At->As->Prop}{Sh:Nat->Prop}{Fz:Loc->Prop}{T:Nat->qz}{n0 m0 N fl:Nat}{csv:At}{D:As->Prop}{w₀ w z:As}{cs:List Ax}{kk:List Item}
theorem q3u(hD:∀x o,D x->D (x.alloc o))(O:jA (gr.base.pen M) Sh Fz)(hm0:M.N<=m0)(hN:N<=4)(hK:K<N)(S:jv gr M m0 D w₀ w z M1 (m0+6+2*K))(C:ju m0 N K fl w)(hM:qV m0 K M1)(R:qW m0 N n0 K T)
   (hs:qP m0 N fl csv tm) (h18:tm[18]?=some (.int .i64 N)) (h19:tm[19]?=some (.int .i64 K))
   (next:∀tm' T' w' z' M2,jv gr M m0 D w₀ w' z' M2 (m0+6+2*(K+1))->ju m0 N (K+1) fl w'->qV m0 (K+1) M2->qW m0 N n0 (K+1) T'->qP m0 N fl csv tm'->tm'[18]?=some (.int .i64 N)->tm'[19]?=some (.int .i64 ((K+1:Nat):Int)) ->
    qc prog Post (qb9 m0 Sh) (qcm m0 (K+1) Fz) T' (n0+(K+1)) 0 0 (G ((base 43).at ⟨tm',[]⟩ (.inLoop lp::.inBlock 0::kk)) cs) w') :
   qc prog Post (qb9 m0 Sh) (qcm m0 K Fz) T (n0+K) 0 0 (G ((base 43).at ⟨tm,[]⟩ (.code qek::.inLoop lp::.inBlock 0::kk)) cs) w:=by
 obtain⟨v0,v1,v2,v3,v4,v5,v6,v7,v8,v9,v10,v11,v12,v13,v14,v15,v16,v17,v18,v19,v20,v21,v22,v23,v24,v25,v26,v27,v28,v29,v30,v31,v32,v33,v34,v35,v36,v37,v38,v39,v40,v41,v42,v43,v44,v45,v46,v47,v48,v49,v50,v51,v52,v53,v54,rfl⟩:=qib tm hs.size;have s0:=hs.s0;have s1:=hs.s1;have s2:=hs.s2;have s3:=hs.s3;have s6:=hs.s6;have s7:=hs.s7;have s8:=hs.s8;simp only[BQ,BP,BS,Ca]at s0 s1 s2 s3 s6 s7 s8 h18 h19;replace s2:=s2.symm;subst s0 s1 s2 s3 s6 s7 s8 h18 h19;clear hs;obtain⟨lt1,lt2⟩:=O.lt
 have nsh:∀r,m0<=r->r≠m0+1->¬qb9 m0 Sh r:=λr hr hne h=>by
  rcases h with h|h
  . have:=lt1 r h;omega
  . exact hne h
 have nfz:∀a:Addr,m0<=a.block->¬Fz (.cell a):=λa hr h=>by
  have h1:a.block<M.N:=lt2 _ h;omega
 have yD:decide ((K:Int)<(N:Int))=true:=by simp;omega
 have hK0:(0:Int)<=(K:Int):=by omega
 have hK1:(K:Int)<(N:Int):=by omega
 have hadd:Bu.wrap ((K:Int)+1)=((K+1:Nat):Int):=by rw[Br];omega
 simp only[qek,qh7,qhd,f43,C9];refine qau ?_;refine qaz ?_;simp only[BI,BJ,BK,BU,BM,BT];refine qao (.bool true) rfl rfl (by decide) (λw=>by go_simp) (λw=>by simp[go_sem]) ?_;walk_nrm;refine qai ?_;refine qau ?_;refine qhj (t:=true) rfl ?_;simp only[if_true];refine qm8 ?_;refine qau ?_;refine qe4 ?_;refine qau ?_;refine qaz ?_;simp only[BI,BJ,BK,BV,BU,BM,BT];refine qao (.int .i64 K) rfl rfl (by decide) (λw=>by go_simp) (λw=>by simp[go_sem]) ?_;walk_nrm;refine qfm (ob:=.cells #[.int .i64 0] 3) (v:=λs=>.pointer (some ⟨s,0,none⟩)) (C.qdT R) rfl rfl (by decide) (λw=>by go_simp) (λw=>by simp[go_sem]) ?_;walk_nrm;rw[S.size];have Ssz:=S.size;obtain⟨z1,M2,S1,le1,zb1,p1,kb,ks⟩:=S.void hD #[.int .i64 0] 3;have C1:ju m0 N K fl _:=C.same (λr h1 h2=>ks r (by omega));have hM1:qV m0 K M2:=hM.le le1 (λh=>(p1 _ h).elim hM.n4 (λe=>by omega)) (λj hj h=>(p1 _ h).elim (hM.nc j hj) (λe=>by omega));clear ks;generalize w.alloc (.cells #[.int .i64 0] 3)=w1 at S1 C1 kb |-;clear Ssz S C hM
 have nst:∀r,m0+6+2*K<=r->¬StW T (n0+K) 0 r:=λr hr h=>by
  rcases R.stw h with e|e|⟨j,hj,e|e⟩<;>omega
 refine qr5 (u:=.int .i64 0) (v:=.int .i64 K) (qir kb).1 (qir kb).2 (nst _ (BW _)) (nsh _ (by show m0<=m0+6+2*K;omega) (by show m0+6+2*K≠m0+1;omega)) (λh=>?_) rfl rfl (by decide) (λw h1 h2=>by go_simp) (λw h1 h2=>by simp[go_sem,h1,h2]) ?_
 . rcases h with h|h|h|⟨j,hj,h|h⟩
   . exact nfz _ (by show m0<=m0+6+2*K;omega) h
   . simp only[Bv,AM]at h;omega
   . simp only[Bv,AM]at h;omega
   . simp only[Bv,AM]at h;omega
   . simp only[Bv,AM]at h;omega
 walk_nrm;refine qai ?_;refine qau ?_;have S2:=S1.set (a:=⟨m0+6+2*K,0,none⟩) zb1 (by show m0<=m0+6+2*K;omega) (.int .i64 K);have C2:ju m0 N K fl _:=C1.same (λr h1 h2=>qct w1 ⟨m0+6+2*K,0,none⟩ (.int .i64 K) r (by show r≠m0+6+2*K;omega));replace kb:=qbF (v:=.int .i64 K) kb;generalize w1.setCell ⟨m0+6+2*K,0,none⟩ (.int .i64 K)=w2 at S2 C2 kb |-;clear S1 C1;obtain⟨z3,M3,S3,le3,cc3,n3,p3,kc,ks⟩:=S2.chan hD (.chan 0 #[] false 0 0 false) rfl;obtain⟨arr,ra1,ra2,ra3⟩:=C2.row;obtain⟨ecb,kcb⟩:=C2.cb;have hrow:∃u,w2.cell? ⟨m0+2,K,none⟩=some u/\w2.frozen? ⟨m0+2,K,none⟩=false:=⟨arr[K]'(by omega),by simp[BF,ra1,show K<arr.size by omega],by simp[BH,ra1]⟩;obtain⟨u,hu1,hu2⟩:=hrow;have ks':∀r,r<m0+6+2*K+1->(w2.alloc (.chan 0 #[] false 0 0 false)).heap[r]?=w2.heap[r]?:=λr hr=>ks r (by omega)
 have vP:∀a:Addr,a.block<m0+6+2*K+1->(w2.alloc (.chan 0 #[] false 0 0 false)).cell? a=w2.cell? a/\(w2.alloc (.chan 0 #[] false 0 0 false)).frozen? a=w2.frozen? a:=λa ha=>by
  unfold BF BH;rw[ks' _ ha];exact⟨rfl,rfl⟩
 refine qt1 (I:=fun Sb a w'=>∃ s0 s1 s2 s3 s4 x22 x23 x24 x25,Sb=#[s0,s1,s2,s3,s4]/\a=⟨qh8 m0 N fl K csv x22 x23 x24 x25 v4 v5 v10 v11 v12 v13 v14 v15 v16 v17 v26 v27 v28 v29 v30 v31 v32 v33 v34 v35 v36 v37 v38 v39 v40 v41 v42 v43 v44 v45 v46 v47 v48 v49 v50 v51 v52 v53 v54,[]⟩/\(s0=true->x22=.slice (some ⟨m0+2,0,none⟩) N N)/\(s1=true->x23=.int .i64 K)/\(s2=true->x24=.chan (some (m0+6+2 * K+1))) /\
     (s3=true->s0=true/\s1=true/\s2=true/\x25=.pointer (some ⟨m0+2,K,none⟩))/\(s4=true->s3=true)/\w'=if s4=true then (w2.alloc (.chan 0 #[] false 0 0 false)).setCell ⟨m0+2,K,none⟩ (.chan (some (m0+6+2*K+1)))else if s2=true then w2.alloc (.chan 0 #[] false 0 0 false)else w2)
  (by kernel_rfl) ⟨false,false,false,false,false,_,_,_,_,rfl,rfl,(λh=>by cases h),(λh=>by cases h),(λh=>by cases h),(λh=>by cases h),(λh=>by cases h),rfl⟩ ?_ ?_
 . rintro Sb a w' i rest ⟨s0,s1,s2,s3,s4,x22,x23,x24,x25,rfl,rfl,i0,i1,i2,i3,i4,rfl⟩ hi-hgo;obtain⟨hi0,o,ho,jc⟩:=AA.1 hi
   have hi5:i<5:=by
    have:=(Ab.1 ho).1;simpa using this
   rcases i with _|_|_|_|_|i
   ·
    simp at hi0;subst hi0;obtain rfl:s3=false:=by cases s3 with|false=>rfl|true=>exact absurd (i3 rfl).1 (by simp)
    obtain rfl:s4=false:=by cases s4 with|false=>rfl|true=>exact absurd (i4 rfl) (by simp)
    have hc:(if s2=true then w2.alloc (.chan 0 #[] false 0 0 false)else w2).cell? ⟨m0+3,0,none⟩=some (.slice (some ⟨m0+2,0,none⟩) N N):=by
     split
     . rw[(vP ⟨m0+3,0,none⟩ (by show m0+3<m0+6+2*K+1;omega)).1];exact(qir kcb).1
     . exact(qir kcb).1
    simp only[Ap,if_false,qh8]at hgo |-;refine qdu hc (nsh _ (by show m0<=m0+3;omega) (by show m0+3≠m0+1;omega)) rfl rfl (by decide) (λw h=>by go_simp) (λw h=>by simp[go_sem,h]) ?_;walk_nrm;exact hgo _ _ ⟨true,s1,s2,false,false,_,_,_,_,rfl,rfl,λ_=>rfl,i1,i2,(λh=>by cases h),(λh=>by cases h),rfl⟩
   . simp at hi0;subst hi0;obtain rfl:s3=false:=by cases s3 with|false=>rfl|true=>exact absurd (i3 rfl).2.1 (by simp)
     obtain rfl:s4=false:=by cases s4 with|false=>rfl|true=>exact absurd (i4 rfl) (by simp)
     have hc:(if s2=true then w2.alloc (.chan 0 #[] false 0 0 false)else w2).cell? ⟨m0+6+2*K,0,none⟩=some (.int .i64 K):=by
      split
      . rw[(vP ⟨m0+6+2*K,0,none⟩ (by show m0+6+2*K<m0+6+2*K+1;omega)).1];exact(qir kb).1
      . exact(qir kb).1
     simp only[Ap,if_false,qh8]at hgo |-;refine qdu hc (nsh _ (by show m0<=m0+6+2*K;omega) (by show m0+6+2*K≠m0+1;omega)) rfl rfl (by decide) (λw h=>by go_simp) (λw h=>by simp[go_sem,h]) ?_;walk_nrm;exact hgo _ _ ⟨s0,true,s2,false,false,_,_,_,_,rfl,rfl,i0,λ_=>rfl,i2,(λh=>by cases h),(λh=>by cases h),rfl⟩
   . simp at hi0;subst hi0;obtain rfl:s3=false:=by cases s3 with|false=>rfl|true=>exact absurd (i3 rfl).2.2.1 (by simp)
     obtain rfl:s4=false:=by cases s4 with|false=>rfl|true=>exact absurd (i4 rfl) (by simp)
     simp only[Ap,if_false,qh8]at hgo |-;refine qfm (ob:=.chan 0 #[] false 0 0 false) (v:=λs=>.chan (some s)) (C2.qdT R) rfl rfl (by decide) (λw=>?_) (λw=>?_) ?_
     . have:=(qpm w).1
       go_simp
     . have:=(qpm w).2;simp[go_sem,this]
     walk_nrm;rw[S2.size];exact hgo _ _ ⟨s0,s1,true,false,false,_,_,_,_,rfl,rfl,i0,i1,λ_=>rfl,(λh=>by cases h),(λh=>by cases h),rfl⟩
   . simp at hi0;subst hi0;obtain rfl:s4=false:=by cases s4 with|false=>rfl|true=>exact absurd (i4 rfl) (by simp)
     have hd:s0=true/\s1=true/\s2=true:=by
      simp at ho;subst ho;simp[BC]at jc;exact⟨jc.1,jc.2.1,jc.2.2.2.2⟩
     obtain⟨rfl,rfl,rfl⟩:=hd;obtain rfl:=i0 rfl;obtain rfl:=i1 rfl;simp only[Ap,if_false,if_true,qh8]at hgo |-;refine qao (.pointer (some ⟨m0+2,K,none⟩)) rfl rfl (by decide) (λw=>by go_simp) (λw=>by simp[go_sem, *]) ?_;walk_nrm;exact hgo _ _ ⟨true,true,true,true,false,_,_,_,_,rfl,rfl,λ_=>rfl,λ_=>rfl,i2,λ_=>⟨rfl,rfl,rfl,rfl⟩,(λh=>by cases h),rfl⟩
   . simp at hi0;subst hi0
     have hd:s3=true:=by
      simp at ho;subst ho;simp[BC]at jc;exact jc.1
     subst hd;obtain⟨rfl,rfl,rfl,rfl⟩:=i3 rfl;obtain rfl:=i2 rfl;simp only[Ap,if_false,if_true,qh8]at hgo |-;have h1:=(vP ⟨m0+2,K,none⟩ (by show m0+2<m0+6+2*K+1;omega)).1.trans hu1;have h2:=(vP ⟨m0+2,K,none⟩ (by show m0+2<m0+6+2*K+1;omega)).2.trans hu2;refine qt3 (w':=(w2.alloc (.chan 0 #[] false 0 0 false)).setCell ⟨m0+2,K,none⟩ (.chan (some (m0+6+2*K+1)))) rfl rfl (by decide) (λd=>?_) (λd=>?_) (qN.spot h1 (λi s e1 e2 e3=>?_) (nsh _ (by show m0<=m0+2;omega) (by show m0+2≠m0+1;omega)) (λh=>?_)) qnq ?_
     . replace h1:((w2.alloc (.chan 0 #[] false 0 0 false)).at d).cell? ⟨m0+2,K,none⟩=some u:=h1;replace h2:((w2.alloc (.chan 0 #[] false 0 0 false)).at d).frozen? ⟨m0+2,K,none⟩=false:=h2;generalize w2.alloc (.chan 0 #[] false 0 0 false)=wx at h1 h2 |-
       go_simp
       rfl
     . replace h1:((w2.alloc (.chan 0 #[] false 0 0 false)).at d).cell? ⟨m0+2,K,none⟩=some u:=h1;replace h2:((w2.alloc (.chan 0 #[] false 0 0 false)).at d).frozen? ⟨m0+2,K,none⟩=false:=h2;generalize w2.alloc (.chan 0 #[] false 0 0 false)=wx at h1 h2 |-;simp[go_sem,AF _ _ _ _ (.chan (some (m0+6+2*K+1))) _ rfl,h1,h2]
     . obtain⟨j,hj,rfl,hsj⟩:=R.seat e1 e3;obtain⟨q1,q2,_⟩:=qd4 hsj;refine⟨by rw[q1];show m0+7+2*j≠m0+2;omega,λx hx e=>?_⟩;rw[q2]at hx;simp only[qms,qg8,BN,BL,or_false]at hx;rcases hx with rfl|rfl|rfl
       . simp only[AM]at e;omega
       . simp only[AM]at e;omega
       . simp only[AM]at e;omega
     . rcases h with h|h|h|⟨j,hj,h|h⟩
       . exact nfz _ (by show m0<=m0+2;omega) h
       . simp only[Bv,AM]at h;omega
       . simp only[Bv,AM]at h;omega
       . simp only[Bv,AM]at h;omega
       . simp only[Bv,AM]at h;omega
     walk_nrm;exact hgo _ _ ⟨true,true,true,true,true,_,_,_,_,rfl,rfl,i0,i1,λ_=>rfl,λ_=>⟨rfl,rfl,rfl,rfl⟩,λ_=>rfl,rfl⟩
   . omega
 . rintro Sb a w' ⟨s0,s1,s2,s3,s4,x22,x23,x24,x25,rfl,rfl,i0,i1,i2,i3,i4,rfl⟩ je
   have e0:s0=true:=by
    cases s0 with
    |true=>rfl
    |false=>exact absurd je (BO (AA.2 ⟨rfl,_,rfl,λe he=>by simp at he⟩:0∈_))
   have e1:s1=true:=by
    cases s1 with
    |true=>rfl
    |false=>exact absurd je (BO (AA.2 ⟨rfl,_,rfl,λe he=>by simp at he⟩:1∈_))
   have e2:s2=true:=by
    cases s2 with
    |true=>rfl
    |false=>exact absurd je (BO (AA.2 ⟨rfl,_,rfl,λe he=>by simp at he⟩:2∈_))
   subst e0 e1 e2
   have e3:s3=true:=by
    cases s3 with
    |true=>rfl
    | false=>exact absurd je (BO (AA.2 ⟨rfl,_,rfl,fun e he _=>by
        simp at he;rcases he with rfl|rfl|rfl|rfl|rfl<;>rfl⟩:3∈_))
   subst e3
   have e4:s4=true:=by
    cases s4 with
    |true=>rfl
    | false=>exact absurd je (BO (AA.2 ⟨rfl,_,rfl,fun e he _=>by
        simp at he;rcases he with rfl|rfl|rfl|rfl|rfl<;>rfl⟩:4∈_))
   subst e4;obtain rfl:=i0 rfl;obtain rfl:=i1 rfl;obtain rfl:=i2 rfl;obtain⟨-,-,-,rfl⟩:=i3 rfl;clear i0 i1 i2 i3 i4 je vP hu1 hu2 u ks' nst;simp only[if_true,qh8];have C3:ju m0 N K fl (w2.alloc (.chan 0 #[] false 0 0 false)):=C2.same (λr h1 h2=>ks r (by omega));have kb3:=(ks (m0+6+2*K) (by omega)).trans kb;have qbG:=(ks (m0+2) (by omega)).trans ra1;have hM3:qV m0 K M3:=hM1.le le3 (λh=>hM1.n4 (p3 _ h)) (λj hj h=>hM1.nc j hj (p3 _ h));have zb3:=le3.z _ zb1;clear ks hM1;generalize w2.alloc (.chan 0 #[] false 0 0 false)=w3 at S3 C3 kb3 qbG kc |-;have S4:=S3.set (a:=⟨m0+2,K,none⟩) hM3.z2 (by show m0<=m0+2;omega) (.chan (some (m0+6+2*K+1)));have kso:=qct w3 ⟨m0+2,K,none⟩ (.chan (some (m0+6+2*K+1)));have ra4:=q8l (v:=.chan (some (m0+6+2*K+1))) (i:=K) qbG;have kb4:=(kso (m0+6+2*K) (by show m0+6+2*K≠m0+2;omega)).trans kb3;have kc4:=(kso (m0+6+2*K+1) (by show m0+6+2*K+1≠m0+2;omega)).trans kc
   have C4:ju m0 N K fl (w3.setCell ⟨m0+2,K,none⟩ (.chan (some (m0+6+2*K+1)))):=by
    obtain⟨h1,h2,h3,h4,h5,h6,h7,h8⟩:=C3;refine⟨?_,(kso (m0+1) (by show m0+1≠m0+2;omega)).trans h2,⟨_,ra4,by simpa using ra2,λj hj=>?_⟩,?_,?_,?_,λj hj=>(kso _ (by show m0+6+2*j≠m0+2;omega)).trans (h7 j hj),λj hj=>?_⟩
    . rw[kso m0 (by show m0≠m0+2;omega)];exact h1
    . rw[Aj (by omega)];exact ra3 j hj
    . rw[kso (m0+3) (by show m0+3≠m0+2;omega)];exact h4
    . rw[kso (m0+4) (by show m0+4≠m0+2;omega)];exact h5
    . rw[kso (m0+5) (by show m0+5≠m0+2;omega)];exact h6
    . rw[kso (m0+7+2*j) (by show m0+7+2*j≠m0+2;omega)];exact h8 j hj
   have raK:(arr.setIfInBounds K (.chan (some (m0+6+2*K+1))))[K]?=some (.chan (some (m0+6+2*K+1))):=by rw[Array.getElem?_setIfInBounds_self_of_lt (by omega)]
   clear kso kb3 kc C3 qbG S3;generalize w3.setCell ⟨m0+2,K,none⟩ (.chan (some (m0+6+2*K+1)))=w4 at S4 C4 ra4 kb4 kc4 |-;refine qai ?_;refine qau ?_;refine qaz ?_;simp only[BI,BJ,BK,BU,BM,BT];refine qe9 (fn:=addFn wgL) (c:=body_add wgL) rfl rfl (by decide) rfl vm.f_add (nm_add wgL) rfl ?_;walk_nrmf addFn;refine q6d vm (λh=>?_) (λb hb h=>?_) (v:=K) (by omega) C4.wg ?_
   . rcases R.stw h with e|e|⟨j,hj,e|e⟩<;>omega
   . rcases h with h|h|h|⟨j,hj,h|h⟩
     . exact nfz _ (by rw[hb];omega) h
     . simp only[Bv]at h;subst h;simp at hb
     . simp only[Bv]at h;subst h;simp at hb
     . simp only[Bv]at h;subst h;simp only at hb;omega
     . simp only[Bv]at h;subst h;simp at hb
   walk_nrm;refine qai ?_;refine qaz ?_;simp only[BI,BJ,BK,BV,BU,BM,BT];have S5:=S4.set (a:=stA (m0+1)) hM3.z1 (by show m0<=m0+1;omega) (.int .u64 (((K:Int)+1)*KK));have wg5:=C4.wg.setSt (((K:Int)+1)*KK);have kso:=qct w4 (stA (m0+1)) (.int .u64 (((K:Int)+1)*KK));have e7:m0+6+2*K+1=m0+7+2*K:=by omega
   have eK:((K+1:Nat):Int)=(K:Int)+1:=by omega
   have C5:ju m0 N (K+1) fl (w4.setCell (stA (m0+1)) (.int .u64 (((K:Int)+1)*KK))):=by
    obtain⟨h1,h2,h3,h4,h5,h6,h7,h8⟩:=C4;refine⟨?_,by rw[eK];exact wg5,⟨_,(kso (m0+2) (by show m0+2≠m0+1;omega)).trans ra4,by simpa using ra2,λj hj=>?_⟩,?_,?_,?_,λj hj=>?_,λj hj=>?_⟩
    . rw[kso m0 (by show m0≠m0+1;omega)];exact h1
    . by_cases e:j=K
      . subst e;rw[<-e7];exact raK
      . rw[Aj (λx=>e x.symm)];exact ra3 j (by omega)
    . rw[kso (m0+3) (by show m0+3≠m0+1;omega)];exact h4
    . rw[kso (m0+4) (by show m0+4≠m0+1;omega)];exact h5
    . rw[kso (m0+5) (by show m0+5≠m0+1;omega)];exact h6
    . rw[kso (m0+6+2*j) (by show m0+6+2*j≠m0+1;omega)];by_cases e:j=K
      . subst e;exact kb4
      . exact h7 j (by omega)
    . rw[kso (m0+7+2*j) (by show m0+7+2*j≠m0+1;omega)];by_cases e:j=K
      . subst e;rw[<-e7];exact⟨0,kc4⟩
      . exact h8 j (by omega)
   have hM5:qV m0 (K+1) M3:=⟨hM3.z0,hM3.z1,hM3.z2,hM3.z3,hM3.c4,hM3.z5,λj hj=>by
    by_cases e:j=K
    . subst e;exact zb3
    . exact hM3.zb j (by omega),λj hj=>by
    by_cases e:j=K
    . subst e;rw[<-e7];exact cc3
    . exact hM3.cc j (by omega),hM3.n4,λj hj=>by
    by_cases e:j=K
    . subst e;rw[<-e7];exact n3
    . exact hM3.nc j (by omega)⟩
   clear kso wg5 C4 S4 hM3 ra4 kb4 kc4 raK zb3 cc3 n3;generalize w4.setCell (stA (m0+1)) (.int .u64 (((K:Int)+1)*KK))=w5 at S5 C5 |-;refine qao (.func (.func 69) #[] (qbD (m0+1) (m0+3) (m0+6+2*K) m0 (m0+5))) rfl rfl (by decide) (λw=>by go_simp;rfl) (λw=>by simp[go_sem]) ?_;walk_nrm
   have hL5:qH T (n0+K) 0 w5:=λi s h1 _ h3=>by
    obtain⟨j,hj,rfl,hsj⟩:=R.seat h1 h3;rw[(qd4 hsj).2.1];exact C5.vZ (by omega)
   have hch:=C5.ch K (by omega);obtain⟨κ,hκ⟩:=hch;refine qna (Sh':=qb9 m0 Sh) (Fz':=qcm m0 (K+1) Fz) (λr h=>h) (λr h=>.inl h) (λl h=>?_) ?_
   . rcases h with h|h|h|⟨j,hj,h⟩
     . exact .inl h
     . exact .inr (.inl h)
     . exact .inr (.inr (.inl h))
     . exact .inr (.inr (.inr ⟨j,by omega,h⟩))
   refine q3t (d:=zM (m0+1) (m0+3) (m0+6+2*K) m0 (m0+5)) rfl rfl (by decide) (λw=>?_) (λw=>?_) rfl hL5 (C5.vZ (j:=K) (by omega)) hκ (λi s' h1 _ h3=>?_) (q8r (ch:=m0+7+2*K) hK) (λl hl=>?_) ?_
   . simp[go_sem,execOp,zM,resolve,Deferred.ofValue]
   . simp[go_sem,execOp,resolve,Deferred.ofValue]
   . obtain⟨j,hj,rfl,hsj⟩:=R.seat h1 h3;rw[(qd4 hsj).1];show m0+7+2*j≠m0+7+2*K;omega
   . obtain⟨x,hx,rfl⟩:=hl;change x∈qms m0 K N at hx;simp only[qms,qg8,BN,BL,or_false]at hx;rcases hx with rfl|rfl|rfl
     . exact⟨.inr (.inl rfl),nsh _ (by show m0<=m0+3;omega) (by show m0+3≠m0+1;omega)⟩
     . exact⟨.inr (.inr (.inr ⟨K,by omega,.inl rfl⟩)),nsh _ (by show m0<=m0+6+2*K;omega) (by show m0+6+2*K≠m0+1;omega)⟩
     . exact⟨.inr (.inr (.inr ⟨K,by omega,.inr rfl⟩)),nsh _ (by show m0<=m0+2;omega) (by show m0+2≠m0+1;omega)⟩
   walk_nrm;have R':=R.next (s:=qia (qms m0 K N) (m0+1) (m0+3) (m0+6+2*K) m0 (m0+5) (m0+7+2*K) undef (.slice (some ⟨m0+2,0,none⟩) N N) (.int .i64 K) (.pointer (some ⟨m0+2,K,none⟩)) undef undef undef undef undef undef undef undef) ⟨_,_,_,_,_,_,_,_,_,_,_,_,rfl⟩;refine qai ?_;refine qls ?_;refine qaz ?_;simp only[BI,BJ,BK,BV,BU,BM,BT];refine qao (.int .i64 ((K+1:Nat):Int)) rfl rfl (by decide) (λw=>by go_simp) (λw=>by simp[go_sem]) ?_;walk_nrm;refine qao (.int .i64 ((K+1:Nat):Int)) rfl rfl (by decide) (λw=>by go_simp) (λw=>by simp[go_sem]) ?_;walk_nrm;refine qai ?_
   have S6:jv gr M m0 D w₀ w5 z3 M3 (m0+6+2*(K+1)):=by
    rw[show m0+6+2*(K+1)=m0+6+2*K+1+1 from by omega];exact S5
   exact next _ _ _ _ _ S6 C5 hM5 R' ⟨rfl,rfl,rfl,rfl,rfl,rfl,rfl,rfl⟩ rfl rfl
end
end
section
open Go.Conc Go.RowKit Go.Conc.Lib Go.ConcR.Gen
open Go.ConcR (KK WgAt stA smA Payload)
section
variable {gr:Grd}{M:Mks gr.base}{Post:At->As->Prop}{Sh:Nat->Prop}{Fz:Loc->Prop}{n0 m0 N fl:Nat}{csv:At}{D:As->Prop}{w₀:As}{cs:List Ax}{kk:List Item}
theorem qr2(hD:∀x o,D x->D (x.alloc o))(O:jA (gr.base.pen M) Sh Fz)(hm0:M.N<=m0)(hN:N<=4)
   (next:∀tm T w z M1,jv gr M m0 D w₀ w z M1 (m0+6+2*N)->ju m0 N N fl w->qV m0 N M1->qW m0 N n0 N T->qP m0 N fl csv tm->qc prog Post (qb9 m0 Sh) (qcm m0 N Fz) T (n0+N) 0 0 (G ((base 43).at ⟨tm,[]⟩ kk) cs) w) :
   ∀r K tm T w z M1,K+r=N->jv gr M m0 D w₀ w z M1 (m0+6+2*K)->ju m0 N K fl w->qV m0 K M1->qW m0 N n0 K T->qP m0 N fl csv tm->tm[18]?=some (.int .i64 N)->tm[19]?=some (.int .i64 K) ->
    qc prog Post (qb9 m0 Sh) (qcm m0 K Fz) T (n0+K) 0 0 (G ((base 43).at ⟨tm,[]⟩ (.code qek::.inLoop qek::.inBlock 0::kk)) cs) w:=by
 intro r
 induction r with
 |zero=>
  intro K tm T w z M1 hK S C hM R hs h18 h19;obtain rfl:K=N:=by omega
  obtain⟨v0,v1,v2,v3,v4,v5,v6,v7,v8,v9,v10,v11,v12,v13,v14,v15,v16,v17,v18,v19,v20,v21,v22,v23,v24,v25,v26,v27,v28,v29,v30,v31,v32,v33,v34,v35,v36,v37,v38,v39,v40,v41,v42,v43,v44,v45,v46,v47,v48,v49,v50,v51,v52,v53,v54,rfl⟩:=qib tm hs.size;have s0:=hs.s0;have s1:=hs.s1;have s2:=hs.s2;have s3:=hs.s3;have s6:=hs.s6;have s7:=hs.s7;have s8:=hs.s8;simp only[BQ,BP,BS,Ca]at s0 s1 s2 s3 s6 s7 s8 h18 h19;replace s2:=s2.symm;subst s0 s1 s2 s3 s6 s7 s8 h18 h19;clear hs;have yD:decide ((K:Int)<(K:Int))=false:=by simp
  generalize hl:qek=lp;simp only[<-hl,qek,qh7,qhd,f43,C9];refine qau ?_;refine qaz ?_;simp only[BI,BJ,BK,BU,BM,BT];refine qao (.bool false) rfl rfl (by decide) (λw=>by go_simp) (λw=>by simp[go_sem]) ?_;walk_nrm;refine qai ?_;refine qau ?_;refine qhj (t:=false) rfl ?_;simp only[Ap,if_false];refine qtk rfl ?_;exact next _ _ _ _ _ S C hM R ⟨rfl,rfl,rfl,rfl,rfl,rfl,rfl,rfl⟩
 |succ r ih=>
  intro K tm T w z M1 hK S C hM R hs h18 h19;refine q3u hD O hm0 hN (by omega) S C hM R hs h18 h19 (λtm' T' w' z' M2 S' C' hM' R' hs' qgC qgD=>?_);refine qn4 ?_;exact ih (K+1) tm' T' w' z' M2 (by omega) S' C' hM' R' hs' qgC qgD
theorem q0d(hD:∀x o,D x->D (x.alloc o))(O:jA (gr.base.pen M) Sh Fz)(hm0:M.N<=m0)(hN:N<=4){z:As}{M1:Mks gr.base}(S:jv gr M m0 D w₀ w z M1 (m0+6))(C:ju m0 N 0 fl w)(hM:qV m0 0 M1)(hT:∀i,i≠0->T i=.left)(hn0:0<n0)
   (hs:qP m0 N fl csv tm)
   (next:∀tm T w z M1,jv gr M m0 D w₀ w z M1 (m0+6+2*N)->ju m0 N N fl w->qV m0 N M1->qW m0 N n0 N T->qP m0 N fl csv tm->qc prog Post (qb9 m0 Sh) (qcm m0 N Fz) T (n0+N) 0 0 (G ((base 43).at ⟨tm,[]⟩ [.code qgu]) cs) w) :
   qc prog Post (qb9 m0 Sh) (qcm m0 0 Fz) T n0 0 0 (G ((base 43).at ⟨tm,[]⟩ [.code qh7]) cs) w:=by
 obtain⟨v0,v1,v2,v3,v4,v5,v6,v7,v8,v9,v10,v11,v12,v13,v14,v15,v16,v17,v18,v19,v20,v21,v22,v23,v24,v25,v26,v27,v28,v29,v30,v31,v32,v33,v34,v35,v36,v37,v38,v39,v40,v41,v42,v43,v44,v45,v46,v47,v48,v49,v50,v51,v52,v53,v54,rfl⟩:=qib tm hs.size;have s0:=hs.s0;have s1:=hs.s1;have s2:=hs.s2;have s3:=hs.s3;have s6:=hs.s6;have s7:=hs.s7;have s8:=hs.s8;simp only[BQ,BP,BS,Ca]at s0 s1 s2 s3 s6 s7 s8;replace s2:=s2.symm;subst s0 s1 s2 s3 s6 s7 s8;clear hs;obtain⟨lt1,lt2⟩:=O.lt
 have nsh:¬qb9 m0 Sh (m0+3):=λh=>by
  rcases h with h|h
  . have:=lt1 _ h;omega
  . omega
 obtain⟨ecb,kcb⟩:=C.cb;have hcb:=(qir kcb).1;have e0:qh7=.seq (.seq (match qh7 with | .seq (.seq x _) _=>x|_=>.skip) (.block 0 (.loop qek))) qgu:=rfl;rw[e0];clear e0
 have hk:∀(tm':Array At),qP m0 N fl csv tm'->tm'[18]?=some (.int .i64 N)->tm'[19]?=some (.int .i64 (0:Nat))->qc prog Post (qb9 m0 Sh) (qcm m0 0 Fz) T n0 0 0 (G ((base 43).at ⟨tm',[]⟩ [.code qek,.inLoop qek,.inBlock 0,.code qgu]) cs) w:=λtm' h1 h2 h3=>
  qr2 hD O hm0 hN next N 0 tm' T w z M1 (by omega) S C hM ⟨λi h _=>hT i h,λj hj=>absurd hj (BX j),λi hi=>hT i (by omega)⟩ h1 h2 h3
 generalize qek=lp at hk |-;generalize qgu=r2 at hk |-;simp only[qh7,qhd,f43,C9];refine qau ?_;refine qau ?_;refine qaz ?_;simp only[BI,BJ,BK,BV,BU,BM,BT];refine qdu hcb nsh rfl rfl (by decide) (λw h=>by go_simp) (λw h=>by simp[go_sem,h]) ?_;walk_nrm;refine qao (.int .i64 N) rfl rfl (by decide) (λw=>by go_simp) (λw=>by simp[go_sem]) ?_;walk_nrm;refine qao (.int .i64 (0:Nat)) rfl rfl (by decide) (λw=>by go_simp) (λw=>by simp[go_sem]) ?_;walk_nrm;refine qai ?_;refine qe4 ?_;refine qm9 ?_;exact hk _ ⟨rfl,rfl,rfl,rfl,rfl,rfl,rfl,rfl⟩ rfl rfl
end
end
section
open Go.Conc Go.RowKit Go.Conc.Lib Go.ConcR.Gen
open Go.ConcR (KK WgAt stA smA Payload)
open Go.ConcN (upd upd_ne upd_same)
structure Task(gr:Grd)(m0 N fl:Nat)(csv:At)(chs:List Nat){α:Type}(step:α->Nat->α)(D L:α->As->Prop):Prop where
 alloc:∀c x o,D c x->D c (x.alloc o)
 qbH:∀c x y,x.heap=y.heap->D c x->D c y
 chan:∀c x r κ κ' b,m0<=r->D c x->x.heap[r]?=some (.chan 0 #[] false κ κ false)->D c (x.setChan r 0 #[] b κ' κ' false)
 lock:∀c x,D c x->x.cell? ⟨fl,0,none⟩=some (.int .i32 0)
 heap:∀c x y,x.heap=y.heap->L c x->L c y
 held:∀c x,L c x->x.cell? ⟨fl,0,none⟩=some (.int .i32 1)
 free:∀c x,L c x->D c (x.setCell ⟨fl,0,none⟩ (.int .i32 0))
 turn:∀c x j,j<N->D c x->∀d t,qy.wp prog (λe _ y=>e=.normal/\L (step c j) y) ⟨qfn fl j,[]⟩ (re ((x.setCell ⟨fl,0,none⟩ (.int .i32 1)).at d) t 0)
 floor:gr.A ⟨fl,0,none⟩
 form:∃A cap,csv=.slice A chs.length cap
 choice:∀i (h:i<chs.length),∃ca:Addr,gr.A ca/\(∀c x,D c x->x.cell? ca=some (.int .i64 chs[i]))/\∃a0,(∃cap,csv=.slice (some a0) chs.length cap)/\a0.add i=ca
 small:∀i (h:i<chs.length),chs[i]<9223372036854775808
noncomputable def qcg:Code:=match qgu with | .seq (.seq _ (.block _ (.loop c))) _=>c|_=>.skip
noncomputable def qpf:Code:=match qgu with | .seq _ c=>c|_=>.skip
noncomputable def qvh:Array Oper:=match qcg with | .seq _ (.seq _ (.seq (.block _ (.seq _ (.seq _ (.region _ ops _)))) _))=>ops|_=>#[]
noncomputable def q6i:Code:=match qcg with | .seq _ (.seq _ (.seq _ c))=>c|_=>.skip
def qeb(m0 N fl len i x:Nat)(csv:At)(ca:Addr)(x36 x37 x38 x39 x40 x41 x42 x43 v4 v5 v9 v12 v13 v14 v15 v16 v17 v18 v19 v20 v21 v22 v23 v24 v25 v26 v27 v28 v44 v45 v46 v47 v48 v49 v50 v51 v52 v53 v54:At):Array At:=
 #[.pointer (some ⟨fl,0,none⟩),.int .i64 N,csv,.pointer (some ⟨m0,0,none⟩),v4,v5,.pointer (some ⟨m0+1,0,none⟩),.pointer (some ⟨m0+3,0,none⟩),.pointer (some ⟨m0+5,0,none⟩),v9,.int .i64 i,.int .i64 x,v12,v13,v14,v15,v16,v17,v18,v19,v20,v21,v22,v23,v24,v25,v26,v27,v28,csv,.int .i64 len,.int .i64 i,.bool true,.int .i64 i,.pointer (some ca),.int .i64 x,x36,x37,x38,x39,x40,x41,x42,x43,v44,v45,v46,v47,v48,v49,v50,v51,v52,v53,v54]
noncomputable def qk3(m0:Nat)(ts:Array At)(lp:Code)(kk:List Item)(cs:List Ax):jD where
 L:=[(⟨m0+5,0,none⟩,.chan (some (m0+4)))]
 fr:=(base 43).at ⟨ts,[]⟩ (.inRegion qvh [1]::.inBlock 3::.code q6i::.inLoop lp::.inBlock 2::kk)
 cs:=cs
 c:=m0+4
 z:=.int .i64 0
 ok:=false
theorem q3v{fl len x:Nat}{ca:Addr}{x36 x37 x38 x39 x40 x41 x42 v4 v5 v9 v12 v13 v14 v15 v16 v17 v18 v19 v20 v21 v22 v23 v24 v25 v26 v27 v28 v44 v45 v46 v47 v48 v49 v50 v51 v52 v53 v54:At}{kk:List Item} :
   qi7 prog main (qk3 m0 (qeb m0 N fl len i x csv ca x36 x37 x38 x39 x40 x41 x42 (.chan (some (m0+4))) v4 v5 v9 v12 v13 v14 v15 v16 v17 v18 v19 v20 v21 v22 v23 v24 v25 v26 v27 v28 v44 v45 v46 v47 v48 v49 v50 v51 v52 v53 v54) lp kk cs):=by
 unfold qk3;simp only[qeb,qvh,qcg,qgu,qh7,qhd,f43,C9];refine qr4 (b:=base 43) (i:=1) rfl rfl rfl (by decide) (λw=>?_) (λw=>?_)
 . simp[go_sem,rcase]
 . simp[go_sem]
section
variable {gr:Grd}{M1:Mks gr.base}{S:List String}{Post:At->As->Prop}{Sh:Nat->Prop}{Fz:Loc->Prop}{T:Nat->qz}{n0 m0 N fl:Nat}{csv:At}{chs:List Nat}{α:Type}{step:α->Nat->α}{D L:α->As->Prop}{w z:As}{cs:List Ax}{kk:List Item}{lp:Code}
theorem qx7(W:Task gr m0 N fl csv chs step D L)(H:jd (gr.base.pen M1) S)(qK:qec (gr.base.pen M1) S (gr.X 71) qy)(hb:Both (gr.base.pen M1) w z){c:α}(hz:D c z)(C:ju m0 N N fl w)(hM:qV m0 N M1)(O:jA (gr.base.pen M1) Sh Fz)
   (lt1:∀r,Sh r->r<m0) (hN0:gr.N0<=m0) (hn0:0<n0) (R:qW m0 N n0 N T)  (hj:j<N)  (hs:vn m0 j N s) (hT:T (n0+j)=.seat s)  
   (next:∀T' w' z',Both (gr.base.pen M1) w' z'->D (step c j) z'->ju m0 N N fl w'->qW m0 N n0 N T'->ql (gr.base.pen M1) (λr=>m0<=r) w w' ->
    qc prog Post (qb9 m0 Sh) (qcm m0 N Fz) T' (n0+N) 0 0 (AN (G (qk3 m0 ts lp kk cs).fr (qk3 m0 ts lp kk cs).cs) (recvd false (.int .i64 call) true)) w') :
   qc prog Post (qb9 m0 Sh) (qcm m0 N Fz) (upd T 0 (.seat (qk3 m0 ts lp kk cs))) (n0+N) (n0+j) 0 (AN (G s.fr s.cs) (recvd s.ok (.int .i64 call) true)) w:=by
 have nsh:∀r,m0<=r->r≠m0+1->¬qb9 m0 Sh r:=λr hr hne h=>by
  rcases h with h|h
  . have:=lt1 r h;omega
  . exact hne h
 have O1:=hM.out R O;obtain⟨e1,e2,e3,e4,e5⟩:=qd4 hs;obtain⟨ef,kf⟩:=C.fb;obtain⟨ea,ka⟩:=C.ab;have kbx:=C.bx j hj;obtain⟨κ,hκ⟩:=C.ac
 have hL0:qH (upd T 0 (.seat (qk3 m0 ts lp kk cs))) (n0+N) (n0+j) w:=λi s' h1 h2 h3=>by
  by_cases hi:i=0
  . subst hi;rw[upd_same]at h3;cases h3;intro x hx;simp only[qk3,BN,BL,or_false]at hx;subst hx;exact(qir ka).1
  . rw[upd_ne T _ hi]at h3;exact C.hold R i s' hi h2 h3
 have O2:Outside (gr.base.pen M1) (qb9 m0 Sh) (qcm m0 N Fz) (upd T 0 (.seat (qk3 m0 ts lp kk cs))) (n0+N) (n0+j):=by
  refine⟨λi s' h1 h2 h3=>?_,O1.zV,O1.still⟩;by_cases hi:i=0
  . subst hi;rw[upd_same]at h3;cases h3;refine⟨.inr hM.c4,λx hx=>.inr ?_⟩;simp only[qk3,BN,BL,or_false]at hx;subst hx;exact hM.z5
  . rw[upd_ne T _ hi]at h3;exact O1.seat i s' hi h2 h3
 refine q31 H qK hb O2 hL0 W.floor (W.lock c z hz) (W.heap (step c j)) (W.held (step c j)) (W.turn c z j hj hz) hs (by omega) (by omega) (upd_same ..) rfl (qir kf).1 (qir kbx).1 (qir ka).1 hM.z5 (nsh m0 (by omega) (by omega)) (nsh _ (by omega) (by omega)) (nsh _ (by omega) (by omega)) hκ hM.c4 hM.n4 (gr.fresh _ (by show gr.N0<=m0+4;omega))
  (C.vZ hj) (C.ch j hj) (hM.cc j hj) (by show m0+7+2*j≠m0+4;omega) (λi s' h1 h2 h3 h4=>?_) (λl hl=>?_) (λx hx=>?_) ?_
 . rw[upd_ne T _ h2]at h4;obtain⟨j',hj',rfl,hs'⟩:=R.seat h2 h4;rw[(qd4 hs').1];omega
 . obtain⟨x,hx,rfl⟩:=hl;simp only[qms,qg8,BN,BL,or_false]at hx;rcases hx with rfl|rfl|rfl
   . exact⟨.inr (.inl rfl),nsh _ (by show m0<=m0+3;omega) (by show m0+3≠m0+1;omega)⟩
   . exact⟨.inr (.inr (.inr ⟨j,hj,.inl rfl⟩)),nsh _ (by show m0<=m0+6+2*j;omega) (by show m0+6+2*j≠m0+1;omega)⟩
   . exact⟨.inr (.inr (.inr ⟨j,hj,.inr rfl⟩)),nsh _ (by show m0<=m0+2;omega) (by show m0+2≠m0+1;omega)⟩
 . simp only[qms,qg8,BN,BL,or_false]at hx;rcases hx with rfl|rfl|rfl
   . exact hM.z3
   . exact hM.zb j hj
   . exact hM.z2
 . intro s' w' z' hs' hL' hb' hh' qgE hz4;refine next _ w' _ hb' (W.chan _ _ _ _ _ _ (by show m0<=m0+4;omega) (W.free _ _ hL') hz4) (C.held hM hh' (λr hr=>.inl hr) ⟨_,qgE⟩ (λi hi=>?_)) ⟨λi h1 h2=>?_,λi hi=>?_,λi hi=>?_⟩ (hh'.mono (λr hr=>by show m0<=r;rw[hr];show m0<=m0+4;omega))
   . obtain⟨κ',hκ'⟩:=C.ch i hi;exact⟨κ',(hh'.block _ (λe:m0+7+2*i=m0+4=>by omega) (.inr (.inr (hM.cc i hi)))).trans hκ'⟩
   . rw[upd_ne _ _ (by omega),upd_ne T _ h1];exact R.old i h1 h2
   . by_cases e:i=j
     . subst e;exact⟨s',hs',upd_same ..⟩
     . rw[upd_ne _ _ (by omega),upd_ne T _ (by omega)];exact R.work i hi
   . rw[upd_ne _ _ (by omega),upd_ne T _ (by omega)];exact R.out i hi
end
end
end Go.Proofs.YtacemdoejblgaaaGreatDoor

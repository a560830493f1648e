/- Part 12. Conditions: each statement's. -/
import Derived.Test.YtacemdoejblgaaaGreatDoorM11
import Derived.Conc.WgGenN3
import Derived.Conc.MuWords
import Derived.Conc.MuLone
import Derived.Test.YtacemdoejblgaaaGreatDoorChecked
import Derived.Conc.MuLib
import Derived.KernelRfl
namespace Go.Proofs.YtacemdoejblgaaaGreatDoor
set_option maxHeartbeats 6400000
set_option maxRecDepth 100000
section
open Go.Conc
structure Base where
 P:Program
 A:Addr->Prop
 F:FuncId->Prop
 N0:Nat
 fresh:∀ a:Addr,N0<=a.block->A a
 up:∀ a b:Addr,A a->b.block=a.block->a.off<=b.off->A b
 G:Nat
 K:Nat
 X:FuncId->Nat->Prop
structure Mks(B:Base) where
 N:Nat
 ge:B.N0<=N
 Pt:Nat->Prop
 Z:Nat->Prop
 Ch:Nat->Prop
 old:∀ r,Pt r∨Ch r->r < N
 zp:∀ r,Z r->Pt r
def Base.pen(B:Base)(M:Mks B):Pen where
 P:=B.P
 A:=B.A
 F:=B.F
 N:=M.N
 fresh:=fun a h=>B.fresh a (Nat.le_trans M.ge h)
 up:=B.up
 Pt:=M.Pt
 Z:=M.Z
 Ch:=M.Ch
 old:=M.old
 zp:=M.zp
 G:=B.G
 K:=B.K
 X:=B.X
structure Mks.Le{B:Base}(M M':Mks B):Prop where
 n:M.N<=M'.N
 pt:∀ r,M.Pt r->M'.Pt r
 z:∀ r,M.Z r->M'.Z r
 ch:∀ r,M.Ch r->M'.Ch r
 nw:∀ r,M'.Pt r->M.Pt r∨M.N<=r
theorem Mks.Le.refl{B:Base}(M:Mks B):M.Le M:=⟨Nat.le_refl _,fun _ h=>h,fun _ h=>h,fun _ h=>h,fun _ h=>.inl h⟩
theorem Mks.Le.trans{B:Base}{a b c:Mks B}(h:a.Le b)(k:b.Le c):a.Le c:=⟨Nat.le_trans h.n k.n,fun r x=>k.pt r (h.pt r x),fun r x=>k.z r (h.z r x),fun r x=>k.ch r (h.ch r x),fun r x=>(k.nw r x).elim (fun y=>h.nw r y) (fun y=>.inr (Nat.le_trans h.n y))⟩
def Mks.void{B:Base}(M:Mks B)(r:Nat)(h:M.N<=r):Mks B where
 N:=r+1
 ge:=Nat.le_trans M.ge (Nat.le_succ_of_le h)
 Pt:=fun x=>M.Pt x∨x=r
 Z:=fun x=>M.Z x∨x=r
 Ch:=M.Ch
 old:=fun x hx=>by
   rcases hx with (hx | hx) | hx
   . have:=M.old x (.inl hx);omega
   . omega
   . have:=M.old x (.inr hx);omega
 zp:=fun x hx=>hx.imp (M.zp x) id
def Mks.chan{B:Base}(M:Mks B)(r:Nat)(h:M.N<=r):Mks B where
 N:=r+1
 ge:=Nat.le_trans M.ge (Nat.le_succ_of_le h)
 Pt:=M.Pt
 Z:=M.Z
 Ch:=fun x=>M.Ch x∨x=r
 old:=fun x hx=>by
   rcases hx with hx | hx | hx
   . have:=M.old x (.inl hx);omega
   . have:=M.old x (.inr hx);omega
   . omega
 zp:=M.zp
section
variable {B:Base}{M:Mks B}{w z:World}
theorem Mks.vw(M:Mks B)(r:Nat)(h:M.N<=r):M.Le (M.void r h):=⟨Nat.le_succ_of_le h,fun _ x=>.inl x,fun _ x=>.inl x,fun _ x=>x,fun _ x=>x.imp id (fun e=>by rw [e];exact h)⟩
theorem Mks.vz(M:Mks B)(r:Nat)(h:M.N<=r):M.Le (M.chan r h):=⟨Nat.le_succ_of_le h,fun _ x=>x,fun _ x=>x,fun _ x=>.inl x,fun _ x=>.inl x⟩
theorem heap_alloc(w:World)(o:Obj)(r:Nat):(w.alloc o).heap[r]?=if r=w.heap.size then some o else w.heap[r]?:=by
 show (w.heap.push o)[r]?=_;rw [Array.getElem?_push]
theorem qb4(w:World)(o:Obj){r:Nat}(h:r≠w.heap.size):(w.alloc o).heap[r]?=w.heap[r]?:=by rw [heap_alloc,if_neg h]
theorem heap_alloc_new(w:World)(o:Obj):(w.alloc o).heap[w.heap.size]?=some o:=by rw [heap_alloc,if_pos rfl]
theorem Both.void(h:Both (B.pen M) w z)(c:Array Value)(e:TypeId):Both (B.pen (M.void w.heap.size h.rel.room)) (w.alloc (.cells c e (0,0))) (z.alloc (.cells #[] e)):=by
 have hs:=h.rel.size;have hN:M.N<=w.heap.size:=h.rel.room;refine⟨⟨by simp [hs],h.rel.os,?_,fun r hp=>?_,fun r hB hp=>?_,fun r o hB hp ho=>?_,fun r hc=>?_,h.rel.drawn⟩,h.tape⟩
 . show w.heap.size+1<=_;simp
 . by_cases hr:r=w.heap.size
   . subst hr;refine⟨#[],c,e,(0,0),by rw [hs];exact heap_alloc_new z _,heap_alloc_new w _,Nat.zero_le _,fun _=>rfl,fun i v hv=>by simp at hv,.inl rfl,fun _=>Nat.zero_le _⟩
   . have hp':M.Pt r:=hp.elim id (fun k=>absurd k hr);obtain⟨c',c2,e2,fr,h1,h2,h3,h4,h5⟩:=h.rel.part r hp';exact⟨c',c2,e2,fr,by rw [qb4 z _ (by rw [<-hs];exact hr)];exact h1,by rw [qb4 w _ hr];exact h2,h3,fun hz=>h4 (hz.elim id (fun k=>absurd k hr)),h5⟩
 . have hr:r≠w.heap.size:=fun k=>hp (.inr k);rw [qb4 z _ (by rw [<-hs];exact hr),qb4 w _ hr];exact h.rel.same r hB (fun k=>hp (.inl k))
 . have hr:r≠w.heap.size:=fun k=>hp (.inr k);rw [qb4 z _ (by rw [<-hs];exact hr)] at ho;exact h.rel.cln r o hB (fun k=>hp (.inl k)) ho
 . have hr:r≠w.heap.size:=fun k=>by have:=M.old r (.inr hc);omega
   rw [qb4 z _ (by rw [<-hs];exact hr)];exact h.rel.chn r hc
theorem Both.alloc(h:Both (B.pen M) w z){o:Obj}(ho:qv5 B.A B.F o):Both (B.pen M) (w.alloc o) (z.alloc o):=by
 have hs:=h.rel.size;have hN:M.N<=w.heap.size:=h.rel.room;have hno:=Pen.vY (C:=B.pen M) hN;refine⟨⟨by simp [hs],h.rel.os,?_,fun r hp=>?_,fun r hB hp=>?_,fun r x hB hp hx=>?_,fun r hc=>?_,h.rel.drawn⟩,h.tape⟩
 . have:=h.rel.room;simp only [World.size_alloc];omega
 . have hr:r≠w.heap.size:=fun k=>hno.1 (k ▸ hp);obtain⟨c',c2,e2,fr,h1,h2,h3⟩:=h.rel.part r hp;exact⟨c',c2,e2,fr,by rw [qb4 z _ (by rw [<-hs];exact hr)];exact h1,by rw [qb4 w _ hr];exact h2,h3⟩
 . rw [heap_alloc,heap_alloc,hs];split
   . rfl
   . exact h.rel.same r hB hp
 . rw [heap_alloc] at hx;split at hx
   . cases hx;exact .inl ho
   . exact h.rel.cln r x hB hp hx
 . have hr:r≠w.heap.size:=fun k=>hno.2 (k ▸ hc);rw [qb4 z _ (by rw [<-hs];exact hr)];exact h.rel.chn r hc
theorem Both.chan(h:Both (B.pen M) w z)(k:Nat)(b:Array Value)(cl:Bool)(m n:Nat)(t:Bool):Both (B.pen (M.chan w.heap.size h.rel.room)) (w.alloc (.chan k b cl m n t)) (z.alloc (.chan k b cl m n t)):=by
 have h':=h.alloc (o:=.chan k b cl m n t) trivial;have hs:=h.rel.size;refine⟨⟨h'.rel.size,h'.rel.os,?_,h'.rel.part,h'.rel.same,h'.rel.cln,fun r hc=>?_,h'.rel.drawn⟩,h'.tape⟩
 . show w.heap.size+1<=_;simp
 . rcases hc with hc | rfl
   . exact h'.rel.chn r hc
   . exact⟨k,b,cl,m,n,t,by rw [hs];exact heap_alloc_new z _⟩
theorem Both.qeR(h:Both (B.pen M) w z){a:Addr}(ha:M.Z a.block)(v:Value):Both (B.pen M) (w.setCell a v) z:=by
 have hp0:=M.zp _ ha;refine⟨⟨by simp [World.setCell,h.rel.size],h.rel.os,by have:=h.rel.room;simpa [World.setCell] using this,fun r hp=>?_,fun r hB hp=>?_,h.rel.cln,h.rel.chn,h.rel.drawn⟩,h.tape⟩
 . obtain⟨c',c2,e2,fr,h1,h2,h3,h4,h5,h6⟩:=h.rel.part r hp;by_cases hr:a.block=r
   . subst hr;refine⟨c',_,e2,fr,h1,qdv w a v h2,?_,h4,fun i x hx=>?_,⟨h6.1.imp id (fun k=>⟨k.1,?_⟩),h6.2⟩⟩
     . split
       . exact h3
       . simpa using h3
     . rw [h4 ha] at hx;simp at hx
     . split
       . exact k.2
       . simpa using k.2
   . exact⟨c',c2,e2,fr,h1,by rw [qca _ _ _ _ hr];exact h2,h3,h4,h5,h6⟩
 . have hne:a.block≠r:=fun k=>hp (by rw [<-k];exact hp0);rw [qca _ _ _ _ hne];exact h.rel.same r hB hp
theorem Both.set(h:Both (B.pen M) w z){a:Addr}(ha:B.A a){v x:Value}(hv:z.cell? a=some x)(hok:Ok B.A B.F v):Both (B.pen M) (w.setCell a v) (z.setCell a v):=
 ⟨h.rel.set (C:=B.pen M) ha hv hok,h.tape⟩
theorem qby(w:World)(c k:Nat)(b:Array Value)(cl:Bool)(m n:Nat)(t:Bool)(r:Nat):(w.setChan c k b cl m n t).heap[r]?=if c=r then (if c < w.heap.size then some (.chan k b cl m n t) else none) else w.heap[r]?:=by
 unfold World.setChan;rw [Array.getElem?_setIfInBounds]
theorem Both.setChan(h:Both (B.pen M) w z){c:Nat}(hnp:¬ M.Pt c)(k:Nat)(b:Array Value)(cl:Bool)(m n:Nat)(t:Bool):Both (B.pen M) (w.setChan c k b cl m n t) (z.setChan c k b cl m n t):=by
 have hs:=h.rel.size;refine⟨⟨by simp [World.setChan,hs],h.rel.os,by have:=h.rel.room;simpa [World.setChan] using this,fun r hp=>?_,fun r hB hp=>?_,fun r x hB hp hx=>?_,fun r hr=>?_,h.rel.drawn⟩,h.tape⟩
 . have hne:c≠r:=fun e=>hnp (e ▸ hp);obtain⟨c',c2,e2,fr,h1,h2,h3⟩:=h.rel.part r hp;exact⟨c',c2,e2,fr,by rw [qby,if_neg hne];exact h1,by rw [qby,if_neg hne];exact h2,h3⟩
 . rw [qby,qby,hs];split
   . rfl
   . exact h.rel.same r hB hp
 . rw [qby] at hx;split at hx
   . split at hx
     . cases hx;exact .inl trivial
     . cases hx
   . exact h.rel.cln r x hB hp hx
 . by_cases hr':c=r
   . subst hr';obtain⟨k1,b1,cl1,m1,n1,t1,h1⟩:=h.rel.chn c hr;refine⟨k,b,cl,m,n,t,?_⟩;rw [qby,if_pos rfl,if_pos (Array.getElem?_eq_some_iff.1 h1).1]
   . obtain⟨k1,b1,cl1,m1,n1,t1,h1⟩:=h.rel.chn r hr;exact⟨k1,b1,cl1,m1,n1,t1,by rw [qby,if_neg hr'];exact h1⟩
theorem Both.size(h:Both (B.pen M) w z):z.heap.size=w.heap.size:=h.rel.size.symm
theorem Both.cell(h:Both (B.pen M) w z){a:Addr}(ha:B.A a){v:Value}(hv:z.cell? a=some v):w.cell? a=some v/\Ok B.A B.F v:=by
 obtain⟨h1,h2,_⟩:=h.rel.cell (C:=B.pen M) ha hv;exact⟨h1,h2⟩
theorem Both.thaw(h:Both (B.pen M) w z){a:Addr}(ha:B.A a){v:Value}(hv:z.cell? a=some v):w.frozen? a=false:=(h.rel.cell (C:=B.pen M) ha hv).2.2.2.2.2
theorem Both.vA(h:Both (B.pen M) w z){c:Nat}(hB:(B.pen M).B c)(hnp:¬ M.Pt c):z.heap[c]?=w.heap[c]?:=(h.rel.same c hB hnp).symm
end
section
variable {C:Pen}{S:List String}{Post:Value->World->Prop}{Sh:Nat->Prop}{Fz:Loc->Prop}{T:Nat->q8}{n h dd:Nat}{w z:World}
def qH(T:Nat->q8)(n h:Nat)(w:World):Prop:=∀ i s,i≠h->i < n->T i=.seat s->holds s.L w
theorem qH.at{T:Nat->q8}{n h:Nat}{w:World}(H:qH T n h w)(d:Nat):qH T n h (w.at d):=H
theorem qst(H:jo C S){b:Frame}{a:Act}{c:Code}(hX:FrE C S (b.at ⟨a.tmps,[]⟩ [.code c]))(hb:Both C w z)(O:Outside C Sh Fz T n h)
   (hL:qH T n h w) {Q:Exit->Act->World->Prop} (hR:∀ e v x y,x.heap=y.heap->Q e v x->Q e v y) (hc:∀ d t,c.wp C.P Q ⟨a.tmps,[]⟩ (re (z.at d) t 0)) (hQ:∀ e a w,Q e a w->Ends e)
   {k:List Item} {cs:List Frame}
   (next:∀ e a' todo w' z',Both C w' z'->Held C w w'->FrE C S (qmq b a' todo e)->(e=.normal->todo=[])->qH T n h w'->Q e a' z'->qd C.P Post Sh Fz T n h dd (G (qmq b ⟨a'.tmps,a.defers⟩ (todo++k) e) cs) w') :
   qd C.P Post Sh Fz T n h dd (G (b.at a (.code c::k)) cs) w:=fun d=>
 q3k (a:=⟨a.tmps,[]⟩) (ds:=a.defers) H hX (hb.at d) O (hL.at d) (Q:=fun _ e v w=>Q e v w) (hc d) (fun _ e v w=>hQ e v w) (fun e a' todo w' z' h1 h2 h3 h4 h5 h6=>by
   obtain⟨t,t2,d2,h7⟩:=h6;exact(next e a' todo w' z' h1 (Held.trans (show Held C w (w.at d) from⟨fun _ _=>rfl,Nat.le_refl _,rfl,rfl,rfl,.of rfl⟩) h2) h3 h4 h5 (hR e a' (re z' t2 d2) z' rfl h7)).lead)
end
end
section
open Go.Conc Go.RowKit Go.Conc.Lib Go.ConcR.Gen
open Go.ConcR (KK WgAt stA smA rd wr DC0)
open Go.ConcN (st_flag st_waiters)
section
variable {P:Program}{Post:Value->World->Prop}{Sh:Nat->Prop}{Fz:Loc->Prop}{T:Nat->q8}{n h dd:Nat}{g:Goroutine}{w w':World}{es:Array Event}
theorem qec(he:∀ e,e∈es->(MemAct.ofEvent e).touch?=none):qZ Sh Fz T n h w w es:=
 ⟨.refl,fun e h1=>⟨fun x hx=>(by rw [he e h1] at hx;cases hx),fun x hx=>(by rw [he e h1] at hx;cases hx)⟩,Nat.le_refl _⟩
theorem qi2{b:Nat}(zA:¬ StW T n h b)(hh:∀ r,r≠b->w'.heap[r]?=w.heap[r]?)(hs:w.heap.size<=w'.heap.size)(hb:b < w'.heap.size)
   (he:∀ e,e∈es->∀ x,(MemAct.ofEvent e).touch?=some x->∃ a:Addr,x.loc=.cell a/\a.block=b/\(Sh b->x.kind≠.plain)/\(x.write=true->¬ Fz (.cell a))):qZ Sh Fz T n h w w' es:=by
 refine⟨.of (fun r hr=>hh r (fun e=>zA (e ▸ hr))),fun e h1=>⟨fun x hx=>?_,fun x hx=>?_⟩,hs⟩
 . obtain⟨a,e1,e2,e3,e4⟩:=he e h1 x hx;rw [e1];exact⟨fun k=>e3 (by rw [<-e2];exact k),e4⟩
 . obtain⟨a,e1,e2,_⟩:=he e h1 x hx;rw [e1];show a.block < _;omega
theorem qcw(w:World)(a:Addr)(v:Value):∀ r,r≠a.block->(w.setCell a v).heap[r]?=w.heap[r]?:=fun r hr=>qca w a v r (fun e=>hr e.symm)
theorem qbv:∀ {m:Nat} {g:Goroutine} {w:World},Goes P (h == 0) AtRel DC0 (qd P Post Sh Fz T n h dd) m g w->qd P Post Sh Fz T n h dd g w:=by
 intro m
 induction m with
 | zero=>intro g w hg d;exact(hg (w.at d) ⟨d,rfl⟩).lead
 | succ m ih=>
   intro g w hg;rcases hg with hg | ⟨hs,hg⟩
   . exact fun d=>(hg (w.at d) ⟨d,rfl⟩).lead
   . refine fun d=>qvn hs (fun e=>?_);obtain⟨g',w',es,h1,⟨h2,h3⟩,h4⟩:=goes_elim (hg (w.at e) ⟨e,rfl⟩);subst h2;subst h3;exact⟨g',w.at e,#[],h1,.idle _,(ih h4).lead⟩
theorem qed{ty:TypeId}{Wg:Nat}{st sm:Int}{w₀ w w₁:World}(h:AtRel w₀ w/\WgAt ty Wg w st sm)(r:AtRel w w₁):AtRel w₀ w₁/\WgAt ty Wg w₁ st sm:=by
 obtain⟨⟨d,rfl⟩,k⟩:=h;obtain⟨e,rfl⟩:=r;exact⟨⟨e,rfl⟩,k⟩
theorem q6n{ty:TypeId}{Wg:Nat}{st sm:Int}{w:World}(h:WgAt ty Wg w st sm):w.cell? ⟨Wg,1,none⟩=some (.int .u32 sm):=h.cellSm
theorem qd.on(H:qd P Post Sh Fz T n h dd g w)(r:AtRel w w'):qd P Post Sh Fz T n h dd g w':=by obtain⟨d,rfl⟩:=r;exact H.at d
end
section
variable {Sh:Nat->Prop}{Fz:Loc->Prop}{Wg:Nat}
theorem q0d{a:Addr}{es:Array Event}(ha:a.block=Wg)(hFz:∀ b:Addr,b.block=Wg->¬ Fz (.cell b))(he:∀ e,e∈es->e=⟨.cell a,false,true⟩∨e=⟨.cell a,true,true⟩∨e=⟨.mark (.read a),false,true⟩) :
   ∀ e,e∈es->∀ x,(MemAct.ofEvent e).touch?=some x->∃ a:Addr,x.loc=.cell a/\a.block=Wg/\(Sh Wg->x.kind≠.plain)/\(x.write=true->¬ Fz (.cell a)):=fun e h1 x hx=>by
 rcases he e h1 with rfl | rfl | rfl
 . cases hx;exact⟨a,rfl,ha,fun _=>by simp,fun _=>hFz a ha⟩
 . cases hx;exact⟨a,rfl,ha,fun _=>by simp,fun _=>hFz a ha⟩
 . cases hx;exact⟨a,rfl,ha,fun _=>by simp,fun _=>hFz a ha⟩
end
section
variable {L:WgLink}{P:Program}{Post:Value->World->Prop}{Sh:Nat->Prop}{Fz:Loc->Prop}{T:Nat->q8}{n h:Nat}{Wg:Nat}
 {b₀:Frame} {a₀:Act} {ops₀:Array Oper} {i₀:Nat} {rest₀:List Nat} {k₀:List Item} {cs:List Frame}
theorem q4t(H:WgLib P L)(zA:¬ StW T n h Wg)(hFz:∀ b:Addr,b.block=Wg->¬ Fz (.cell b)){v:Nat}(hv:v < 64){w₀:World}(hwg:WgAt L.tWg Wg w₀ ((v:Int) * KK) 0)
   (next:qd P Post Sh Fz T n h 0 (G (b₀.at (a₀.put ((ops₀[i₀]?).bind (·.dst)) (.tuple #[])) (.inRegion ops₀ rest₀::k₀)) cs) (w₀.setCell (stA Wg) (.int .u64 (((v:Int)+1) * KK)))) :
   qd P Post Sh Fz T n h 0 (G ((base L.add).at ⟨#[.pointer (some ⟨Wg,0,none⟩),.int .i64 1,undef,undef,undef,undef,undef,undef,undef,undef,undef,undef,undef,undef,undef,undef,undef,undef,undef,undef,undef,undef,undef,undef,undef,undef,undef,undef,undef,undef,undef,undef,undef,undef,undef,undef,undef,undef,undef,undef,undef,undef,undef,undef,undef,undef,undef,undef,undef,undef,undef,undef,undef,undef,undef,undef,undef,undef,undef,undef,undef,undef,undef,undef,undef,undef,undef,undef,undef,undef,undef,undef,undef,undef,undef,undef,undef,undef,undef,undef,undef,undef,undef,undef,undef,undef,undef,undef,undef,undef,undef,undef,undef,undef,undef,undef,undef,undef,undef,undef,undef,undef,undef,undef,undef,undef,undef,undef,undef,undef,undef,undef,undef,undef,undef,undef,undef],[]⟩ [.code (body_add L)]) (b₀.at a₀ (.inRegion ops₀ (i₀::rest₀)::k₀)::cs)) w₀:=by
 lib_facts
 simp only [body_add,addFn,Option.getD_some];have hF:AtRel w₀ w₀/\WgAt L.tWg Wg w₀ ((v:Int) * KK) 0:=⟨⟨w₀.drawn,rfl⟩,hwg⟩;refine qbv (m:=60) ?_
 repeat w_go qed
 refine Goes.stop (fun w₁ h₁=>?_);replace hF:=qed hF h₁;clear h₁;refine qb5 rfl (fun d=>⟨_,_,_,stepG_mark0 .disable (by simp) rfl rfl (by k_ne) rfl H.f_disable (x_disable_n L) (x_disable_b L) (x_disable_x L) (x_disable_f L),qec (fun e he=>(by rw [Array.mem_singleton] at he;subst he;rfl)),qd.lead ?_⟩);replace hF:=qed hF ⟨d,rfl⟩;change qd P Post Sh Fz T n h 1 _ _;refine qbv (m:=200) ?_;walk_nrm
 repeat w_go qed
 u_defer qed hF
 repeat w_go qed
 u_bub qed hF
 repeat w_go qed
 u_call H.f_uAdd (nm_uAdd L) uAddFn qed hF
 repeat w_go qed
 refine Goes.stop (fun w₂ h₂=>?_);replace hF:=qed hF h₂;clear h₂;obtain⟨V,hV⟩:∃ V:Int,V=(v:Int)+1:=⟨_,rfl⟩;obtain⟨S,hS⟩:∃ S:Int,S=V * KK:=⟨_,rfl⟩;have eS:IntKind.u64.wrap ((v:Int) * KK+4294967296)=S:=by rw [IntKind.wrap_u64,hS,hV];simp only [KK];omega
 rw [<-hV,<-hS] at next;refine qb5 rfl (fun d=>?_);have hw:=(qed hF ⟨d,rfl⟩).2;refine⟨_,_,_,(stepG_add_atomic rfl rfl (by k_ne) rfl H.f_addU64 (x_addU64_n L) (x_addU64_b L) (x_addU64_x L) .u64 (x_addU64_f L) rfl rfl hw.cellSt (hw.thaw 0)).trans (by rw [eS]),qi2 zA (qcw _ (stA Wg) _) (by simp) (Array.getElem?_eq_some_iff.1 (hw.setSt S)).1 (q0d (a:=stA Wg) rfl hFz (fun e he=>?_)),qd.lead ?_⟩
 . simp only [List.mem_toArray,List.mem_cons,List.not_mem_nil,or_false] at he;rcases he with rfl | rfl
   . exact .inl rfl
   . exact .inr (.inl rfl)
 change qd P Post Sh Fz T n h 1 _ _
 have hF0:AtRel (w₀.setCell (stA Wg) (.int .u64 S)) ((w₂.at d).setCell (stA Wg) (.int .u64 S)):=by
   obtain⟨⟨d2,rfl⟩,_⟩:=hF;exact⟨d,rfl⟩
 replace hF:AtRel (w₀.setCell (stA Wg) (.int .u64 S)) ((w₂.at d).setCell (stA Wg) (.int .u64 S))/\WgAt L.tWg Wg ((w₂.at d).setCell (stA Wg) (.int .u64 S)) S 0:=⟨hF0,hw.setSt _⟩;clear hw hF0 eS;rcases Nat.eq_zero_or_pos v with rfl | hvp
 ·
   obtain rfl:S=4294967296:=by rw [hS,hV];simp [KK]
   clear hS hV;refine qbv (m:=200) ?_;walk_nrm
   repeat w_go qed
   u_leave1 H.f_uAdd qed hF
   repeat w_go qed
   u_conv H.underlying_tPU32 H.room_tU32 (q6n hF.2) qed hF
   refine Goes.stop (fun w₃ h₃=>?_);replace hF:=qed hF h₃;clear h₃;refine qb5 rfl (fun d=>⟨_,_,_,stepG_markAt .read (by simp) rfl rfl (by k_ne) rfl H.f_raceRead (x_raceRead_n L) (x_raceRead_b L) (x_raceRead_x L) (x_raceRead_f L) (ad:=⟨Wg,1,none⟩) (by simp [Act.eval]),qi2 zA (fun _ _=>rfl) (Nat.le_refl _) (Array.getElem?_eq_some_iff.1 hF.2).1 (q0d (a:=⟨Wg,1,none⟩) rfl hFz (fun e he=>?_)),qd.lead ?_⟩)
   . rw [Array.mem_singleton] at he;exact .inr (.inr he)
   change qd P Post Sh Fz T n h 1 _ _;replace hF:=qed hF ⟨d,rfl⟩;refine qbv (m:=200) ?_;walk_nrm
   repeat w_go qed
   refine Goes.stop (fun w₄ h₄=>?_);replace hF:=qed hF h₄;clear h₄;refine qb5 rfl (fun d=>⟨_,_,_,stepG_unwind_entry (v:=.tuple #[]) (evs:=#[Go.ConcR.mk .enable]) rfl H.f_enable (x_enable_n L) (x_enable_b L) (x_enable_x L) (x_enable_f L) (by simp [Extern.Race.none_]) (by simp [Go.ConcR.mk]) (by simp [Go.ConcR.mk]),qec (fun e he=>(by rw [Array.mem_singleton] at he;subst he;rfl)),qd.lead ?_⟩);change qd P Post Sh Fz T n h 0 _ _;replace hF:=qed hF ⟨d,rfl⟩;refine qbv (m:=20) ?_
   u_leave0 H.f_add qed hF
   exact Goes.stop (fun w₅ h₅=>next.on (qed hF h₅).1)
 ·
   have a1:S / 4294967296=V:=by rw [hS];simp only [KK];omega
   have b1:bits .and .u64 S 2147483648=0:=by rw [hS,hV];have:=st_flag (v+1) 0 (by omega) (by omega);simpa [KK] using this
   have b2:bits .and .u64 S 2147483647=0:=by rw [hS,hV];have:=st_waiters (v+1) 0 (by omega) (by omega);simpa [KK] using this
   have c1:IntKind.i32.wrap V=V:=by rw [IntKind.wrap_i32];omega
   have hV1:1 < V:=by omega
   have hV2:V < 2147483648:=by omega
   have q1:(V == 1)=false:=by simp;omega
   have q2:decide (V=1)=false:=decide_eq_false (by omega);have q3:decide (V < 0)=false:=decide_eq_false (by omega);have q4:decide (0 < V)=true:=decide_eq_true (by omega);have q5:(V == 0)=false:=by simp;omega
   have q6:decide (V=0)=false:=decide_eq_false (by omega);clear hS hV;refine qbv (m:=200) ?_;walk_nrm
   repeat (first | w_go qed | u_cnd true qed hF | u_cnd false qed hF)
   u_leave1 H.f_uAdd qed hF
   repeat (first | w_go qed | u_cnd true qed hF | u_cnd false qed hF)
   refine Goes.stop (fun w₄ h₄=>?_);replace hF:=qed hF h₄;clear h₄;refine qb5 rfl (fun d=>⟨_,_,_,stepG_unwind_entry (v:=.tuple #[]) (evs:=#[Go.ConcR.mk .enable]) rfl H.f_enable (x_enable_n L) (x_enable_b L) (x_enable_x L) (x_enable_f L) (by simp [Extern.Race.none_]) (by simp [Go.ConcR.mk]) (by simp [Go.ConcR.mk]),qec (fun e he=>(by rw [Array.mem_singleton] at he;subst he;rfl)),qd.lead ?_⟩);change qd P Post Sh Fz T n h 0 _ _;replace hF:=qed hF ⟨d,rfl⟩;refine qbv (m:=20) ?_
   u_leave0 H.f_add qed hF
   exact Goes.stop (fun w₅ h₅=>next.on (qed hF h₅).1)
end
end
section
open Go.Conc Go.RowKit Go.Conc.Lib Go.ConcR.Gen Go.Conc.Locks Go.ConcM
open Go.ConcR (DC0)
section
variable {P:Program}{Post:Value->World->Prop}{Sh:Nat->Prop}{Fz:Loc->Prop}{T:Nat->q8}{n h dd:Nat}{g:Goroutine}{w w':World}{es:Array Event}
def j6(a:Addr)(v:Value)(w:World):Prop:=w.cell? a=some v/\w.frozen? a=false
theorem qde{a:Addr}{v:Value}{w₀ w w₁:World}(h:AtRel w₀ w/\j6 a v w)(r:AtRel w w₁):AtRel w₀ w₁/\j6 a v w₁:=by
 obtain⟨⟨d,rfl⟩,k⟩:=h;obtain⟨e,rfl⟩:=r;exact⟨⟨e,rfl⟩,k⟩
theorem j6.set{a:Addr}{v v':Value}{w:World}(h:j6 a v w):j6 a v' (w.setCell a v'):=
 ⟨by simp [go_sem,h.1],by rw [World.frozen?_setCell];exact h.2⟩
theorem j6.lt{a:Addr}{v:Value}{w:World}(h:j6 a v w):a.block < w.heap.size:=by
 obtain⟨_,c,e,fr,hb,_⟩:=qdw h.1;exact(Array.getElem?_eq_some_iff.1 hb).1
theorem qm1{a:Addr}{es:Array Event}(hSh:¬ Sh a.block)(hFz:¬ Fz (.cell a))(he:∀ e,e∈es->e=⟨.cell a,false,true⟩∨e=⟨.cell a,true,true⟩∨e=⟨.cell a,false,false⟩∨e=⟨.cell a,true,false⟩) :
   ∀ e,e∈es->∀ x,(MemAct.ofEvent e).touch?=some x->∃ b:Addr,x.loc=.cell b/\b.block=a.block/\(Sh a.block->x.kind≠.plain)/\(x.write=true->¬ Fz (.cell b)):=fun e h1 x hx=>by
 rcases he e h1 with rfl | rfl | rfl | rfl
 . cases hx;exact⟨a,rfl,rfl,fun k=>absurd k hSh,fun _=>hFz⟩
 . cases hx;exact⟨a,rfl,rfl,fun k=>absurd k hSh,fun _=>hFz⟩
 . cases hx;exact⟨a,rfl,rfl,fun k=>absurd k hSh,fun _=>hFz⟩
 . cases hx;exact⟨a,rfl,rfl,fun k=>absurd k hSh,fun _=>hFz⟩
end
section
variable {L:MuLink}{P:Program}{Post:Value->World->Prop}{Sh:Nat->Prop}{Fz:Loc->Prop}{T:Nat->q8}{n h:Nat}
 {b₀:Frame} {a₀:Act} {ops₀:Array Oper} {i₀:Nat} {rest₀:List Nat} {k₀:List Item} {cs:List Frame}
theorem q2f(H:MuLib P L){r:Nat}(zA:¬ StW T n h r)(hSh:¬ Sh r)(hFz:¬ Fz (.cell ⟨r,0,none⟩)){w₀:World}(hc:j6 ⟨r,0,none⟩ (.int .i32 0) w₀)
   (next:qd P Post Sh Fz T n h 0 (G (b₀.at (a₀.put ((ops₀[i₀]?).bind (·.dst)) (.tuple #[])) (.inRegion ops₀ rest₀::k₀)) cs) (w₀.setCell ⟨r,0,none⟩ (.int .i32 1))) :
   qd P Post Sh Fz T n h 0 (G ((base L.lock).at ⟨#[.pointer (some ⟨r,0,none⟩),undef,undef,undef,undef,undef],[]⟩ [.code ((lockFn L).body.getD .skip)]) (b₀.at a₀ (.inRegion ops₀ (i₀::rest₀)::k₀)::cs)) w₀:=by
 have m1:=H.runUnderlying_tMutex;have m2:=H.sizeOf_tMutex;have m3:=H.isAgg_tMutex;have m4:=H.runUnderlying_tIMutex;have m5:=H.sizeOf_tIMutex;have m6:=H.isAgg_tIMutex;have m7:=H.runUnderlying_tPMutex;have m8:=H.runUnderlying_tPIMutex;have m9:=H.runUnderlying_tPI32;have m10:=H.runUnderlying_t21;have m11:=H.isAgg_t21;have m12:=H.sizeOf_t21;simp only [lockFn,Option.getD_some];have hF:AtRel w₀ w₀/\j6 ⟨r,0,none⟩ (.int .i32 0) w₀:=⟨⟨w₀.drawn,rfl⟩,hc⟩;refine qbv (m:=60) ?_
 repeat w_go qde
 u_call H.f_ilock (by kernel_rfl) ilockFn qde hF
 repeat w_go qde
 refine Goes.stop (fun w₁ h₁=>?_);replace hF:=qde hF h₁;clear h₁;refine qb5 rfl (fun d=>⟨_,_,_,stepG_mark0 .disable (by simp) rfl rfl (by k_ne) rfl H.f_disable (by kernel_rfl) (by kernel_rfl) (by kernel_rfl) (by kernel_rfl),qec (fun e he=>(by rw [Array.mem_singleton] at he;subst he;rfl)),qd.lead ?_⟩);replace hF:=qde hF ⟨d,rfl⟩;change qd P Post Sh Fz T n h 1 _ _;refine qbv (m:=60) ?_;walk_nrm
 repeat w_go qde
 refine Goes.stop (fun w₁ h₁=>?_);replace hF:=qde hF h₁;clear h₁;refine qb5 rfl (fun d=>?_);have hz:=(qde hF ⟨d,rfl⟩).2;refine⟨_,_,_,stepG_cas_hit rfl rfl (by k_ne) rfl H.f_cas32 (by kernel_rfl) (by kernel_rfl) (by kernel_rfl) .i32 (by kernel_rfl) (ad:=⟨r,0,none⟩) (v:=0) (n:=1) (by rfl) (by rfl) (by rfl) hz.1 hz.2,qi2 zA (qcw _ ⟨r,0,none⟩ _) (by simp) (hz.set (v':=.int .i32 1)).lt (qm1 hSh hFz (fun e he=>?_)),qd.lead ?_⟩
 . simp only [List.mem_toArray,List.mem_cons,List.not_mem_nil,or_false] at he;rcases he with rfl | rfl
   . exact .inl rfl
   . exact .inr (.inl rfl)
 change qd P Post Sh Fz T n h 1 _ _
 have hF0:AtRel (w₀.setCell ⟨r,0,none⟩ (.int .i32 1)) ((w₁.at d).setCell ⟨r,0,none⟩ (.int .i32 1)):=by
   obtain⟨⟨d2,rfl⟩,_⟩:=hF;exact⟨d,rfl⟩
 replace hF:AtRel (w₀.setCell ⟨r,0,none⟩ (.int .i32 1)) ((w₁.at d).setCell ⟨r,0,none⟩ (.int .i32 1))/\j6 ⟨r,0,none⟩ (.int .i32 1) ((w₁.at d).setCell ⟨r,0,none⟩ (.int .i32 1)):=⟨hF0,hz.set⟩;clear hz hF0;refine qbv (m:=60) ?_;walk_nrm
 repeat w_go qde
 refine Goes.stop (fun w₂ h₂=>?_);replace hF:=qde hF h₂;clear h₂;refine qb5 rfl (fun d=>⟨_,_,_,stepG_mark0 .enable (by simp) rfl rfl (by k_ne) rfl H.f_enable (by kernel_rfl) (by kernel_rfl) (by kernel_rfl) (by kernel_rfl),qec (fun e he=>(by rw [Array.mem_singleton] at he;subst he;rfl)),qd.lead ?_⟩);replace hF:=qde hF ⟨d,rfl⟩;change qd P Post Sh Fz T n h 0 _ _;refine qbv (m:=60) ?_;walk_nrm
 repeat w_go qde
 m_convG P H.underlying_tUP H.underlying_tPIMutex H.room_tIMutex hF.2.1 qde hF
 refine Goes.stop (fun w₂ h₂=>?_);replace hF:=qde hF h₂;clear h₂;refine qb5 rfl (fun d=>⟨_,_,_,stepG_markAt .acquire (by simp) rfl rfl (by k_ne) rfl H.f_acquire (by kernel_rfl) (by kernel_rfl) (by kernel_rfl) (by kernel_rfl) (ad:=⟨r,0,none⟩) (by simp [Act.eval]),qec (fun e he=>(by rw [Array.mem_singleton] at he;subst he;rfl)),qd.lead ?_⟩);replace hF:=qde hF ⟨d,rfl⟩;change qd P Post Sh Fz T n h 0 _ _;refine qbv (m:=60) ?_;walk_nrm
 repeat w_go qde
 u_leave0 H.f_ilock qde hF
 repeat w_go qde
 u_leave0 H.f_lock qde hF
 exact Goes.stop (fun w₅ h₅=>next.on (qde hF h₅).1)
theorem qun{main:Bool}{b c:Frame}{a:Act}{todo:List Item}{cs:List Frame}{w:World}{fn:Func}(hn:b.kind=.deferred)(hd:a.defers=[])(hf:P.funcs[b.fn]?=some fn)(hr:fn.results=#[])(hc:c.mode=.returning) :
   stepG P main (G { b.at a todo with mode:=.returning } (c::cs)) w=.go (G c cs) w #[]:=by
 first
 | exact stepG_leave_deferred hn hd hf (results_none hr _ P w) (events_results_none hr _ _) hc
 | exact stepG_leave_deferred hn hd hf (results_none hr _ P w) (events_results_none hr _ _)
theorem qw1(H:MuLib P L){r:Nat}(zA:¬ StW T n h r)(hSh:¬ Sh r)(hFz:¬ Fz (.cell ⟨r,0,none⟩)){w₀:World}(hc:j6 ⟨r,0,none⟩ (.int .i32 1) w₀){c:Frame}(hcm:c.mode=.returning)
   (next:qd P Post Sh Fz T n h 0 (G c cs) (w₀.setCell ⟨r,0,none⟩ (.int .i32 0))) :
   qd P Post Sh Fz T n h 0 (G ((baseD L.unlock).at ⟨#[.pointer (some ⟨r,0,none⟩),undef,undef,undef,undef,undef],[]⟩ [.code ((unlockFn L).body.getD .skip)]) (c::cs)) w₀:=by
 have m1:=H.runUnderlying_tMutex;have m2:=H.sizeOf_tMutex;have m3:=H.isAgg_tMutex;have m4:=H.runUnderlying_tIMutex;have m5:=H.sizeOf_tIMutex;have m6:=H.isAgg_tIMutex;have m7:=H.runUnderlying_tPMutex;have m8:=H.runUnderlying_tPIMutex;have m9:=H.runUnderlying_tPI32;have m10:=H.runUnderlying_t21;have m11:=H.isAgg_t21;have m12:=H.sizeOf_t21;simp only [unlockFn,Option.getD_some];have hF:AtRel w₀ w₀/\j6 ⟨r,0,none⟩ (.int .i32 1) w₀:=⟨⟨w₀.drawn,rfl⟩,hc⟩;refine qbv (m:=60) ?_
 repeat w_go qde
 u_call H.f_iunlock (by kernel_rfl) iunlockFn qde hF
 repeat w_go qde
 refine Goes.stop (fun w₁ h₁=>?_);replace hF:=qde hF h₁;clear h₁;refine qb5 rfl (fun d=>?_);have hz:=(qde hF ⟨d,rfl⟩).2;refine⟨_,_,_,stepG_value (v:=.int .i32 1) rfl rfl (by k_ne) (by have:=hz.1;go_simp),qi2 zA (fun _ _=>rfl) (Nat.le_refl _) hz.lt (qm1 hSh hFz (fun e he=>?_)),qd.lead ?_⟩
 . have hm:=mem_listed he;have:=hz.1;simp [go_sem,*] at hm;exact .inr (.inr (.inl hm))
 replace hF:=qde hF ⟨d,rfl⟩;clear hz;have hdf:∀ es:Array Event,(∀ e,e∈es->e=⟨.cell ⟨r,0,none⟩,false,false⟩)->deafBehind 0 es=0:=fun es he=>deafBehind_still (fun e h1=>by rw [he e h1];exact⟨(fun k=>by cases k),(fun k=>by cases k)⟩) 0
 rw [hdf _ (fun e he=>by
   have hm:=mem_listed he;have:=hF.2.1;simp [go_sem,*] at hm;exact hm)]
 clear hdf;refine qbv (m:=60) ?_;walk_nrm
 repeat w_go qde
 m_convG P H.underlying_tUP H.underlying_tPIMutex H.room_tIMutex hF.2.1 qde hF
 refine Goes.stop (fun w₂ h₂=>?_);replace hF:=qde hF h₂;clear h₂;refine qb5 rfl (fun d=>⟨_,_,_,stepG_markAt .releaseMerge (by simp) rfl rfl (by k_ne) rfl H.f_relMerge (by kernel_rfl) (by kernel_rfl) (by kernel_rfl) (by kernel_rfl) (ad:=⟨r,0,none⟩) (by simp [Act.eval]),qec (fun e he=>(by rw [Array.mem_singleton] at he;subst he;rfl)),qd.lead ?_⟩);replace hF:=qde hF ⟨d,rfl⟩;change qd P Post Sh Fz T n h 0 _ _;refine qbv (m:=60) ?_;walk_nrm
 repeat w_go qde
 refine Goes.stop (fun w₃ h₃=>?_);replace hF:=qde hF h₃;clear h₃;refine qb5 rfl (fun d=>⟨_,_,_,stepG_mark0 .disable (by simp) rfl rfl (by k_ne) rfl H.f_disable (by kernel_rfl) (by kernel_rfl) (by kernel_rfl) (by kernel_rfl),qec (fun e he=>(by rw [Array.mem_singleton] at he;subst he;rfl)),qd.lead ?_⟩);replace hF:=qde hF ⟨d,rfl⟩;change qd P Post Sh Fz T n h 1 _ _;refine qbv (m:=60) ?_;walk_nrm
 repeat w_go qde
 refine Goes.stop (fun w₄ h₄=>?_);replace hF:=qde hF h₄;clear h₄;refine qb5 rfl (fun d=>?_);have hz:=(qde hF ⟨d,rfl⟩).2;refine⟨_,_,_,(stepG_add_atomic rfl rfl (by k_ne) rfl H.f_add32 (by kernel_rfl) (by kernel_rfl) (by kernel_rfl) .i32 (by kernel_rfl) (ad:=⟨r,0,none⟩) (v:=1) (d:=-1) (by rfl) (by rfl) hz.1 hz.2).trans (by rw [show IntKind.i32.wrap (1+-1)=0 from by decide]),qi2 zA (qcw _ ⟨r,0,none⟩ _) (by simp) (hz.set (v':=.int .i32 0)).lt (qm1 hSh hFz (fun e he=>?_)),qd.lead ?_⟩
 . simp only [List.mem_toArray,List.mem_cons,List.not_mem_nil,or_false] at he;rcases he with rfl | rfl
   . exact .inl rfl
   . exact .inr (.inl rfl)
 change qd P Post Sh Fz T n h 1 _ _
 have hF0:AtRel (w₀.setCell ⟨r,0,none⟩ (.int .i32 0)) ((w₄.at d).setCell ⟨r,0,none⟩ (.int .i32 0)):=by
   obtain⟨⟨d2,rfl⟩,_⟩:=hF;exact⟨d,rfl⟩
 replace hF:AtRel (w₀.setCell ⟨r,0,none⟩ (.int .i32 0)) ((w₄.at d).setCell ⟨r,0,none⟩ (.int .i32 0))/\j6 ⟨r,0,none⟩ (.int .i32 0) ((w₄.at d).setCell ⟨r,0,none⟩ (.int .i32 0)):=⟨hF0,hz.set⟩;clear hz hF0;refine qbv (m:=60) ?_;walk_nrm
 repeat w_go qde
 refine Goes.stop (fun w₂ h₂=>?_);replace hF:=qde hF h₂;clear h₂;refine qb5 rfl (fun d=>⟨_,_,_,stepG_mark0 .enable (by simp) rfl rfl (by k_ne) rfl H.f_enable (by kernel_rfl) (by kernel_rfl) (by kernel_rfl) (by kernel_rfl),qec (fun e he=>(by rw [Array.mem_singleton] at he;subst he;rfl)),qd.lead ?_⟩);replace hF:=qde hF ⟨d,rfl⟩;change qd P Post Sh Fz T n h 0 _ _;refine qbv (m:=60) ?_;walk_nrm
 repeat w_go qde
 u_leave0 H.f_iunlock qde hF
 repeat w_go qde
 refine Goes.stop (fun w₂ h₂=>?_);replace hF:=qde hF h₂;clear h₂;exact qb5 rfl (fun d=>⟨_,_,_,qun rfl rfl H.f_unlock rfl hcm,.idle _,(next.on (qde hF ⟨d,rfl⟩).1).lead⟩)
end
end
section
open Go.Conc
section
variable {Sh:Nat->Prop}{Fz:Loc->Prop}{T:Nat->q8}{n h:Nat}{w w':World}{es:Array Event}
theorem qZ.shift(H:qZ Sh Fz T n h w w' es)(d:Nat):qZ Sh Fz T n h (w.at d) (w'.at d) es:=
 ⟨⟨fun i s h1 h2 h3=>H.still.chan i s h1 h2 h3,fun i s h1 h2 h3 x hx hc=>H.still.cell i s h1 h2 h3 x hx hc⟩,H.evs,H.size⟩
theorem qZ.less{fs:Array Event}(H:qZ Sh Fz T n h w w' es)(hs:∀ e,e∈fs->e∈es):qZ Sh Fz T n h w w' fs:=⟨H.still,fun e he=>H.evs e (hs e he),H.size⟩
theorem qZ.read{ad:Addr}{v:Value}(hc:w.cell? ad=some v)(hSh:¬ Sh ad.block):qZ Sh Fz T n h w w #[⟨.cell ad,false,false⟩]:=by
 refine⟨.refl,fun e he=>?_,Nat.le_refl _⟩;rw [Array.mem_singleton] at he;subst he;obtain⟨_,c,e,fr,hb,_⟩:=qdw hc;have hlt:=(Array.getElem?_eq_some_iff.1 hb).1;exact⟨fun x hx=>(by cases hx;exact⟨fun k=>absurd k hSh,fun k=>by cases k⟩),fun x hx=>(by cases hx;exact hlt)⟩
theorem qZ.write{ad:Addr}{u v:Value}(hc:w.cell? ad=some u)(zA:¬ StW T n h ad.block)(hSh:¬ Sh ad.block)(hFz:¬ Fz (.cell ad)):qZ Sh Fz T n h w (w.setCell ad v) #[⟨.cell ad,true,false⟩]:=by
 obtain⟨_,c,e,fr,hb,_⟩:=qdw hc;have hlt:=(Array.getElem?_eq_some_iff.1 hb).1;refine⟨.of (fun r hr=>qcw w ad v r (fun k=>zA (k ▸ hr))),fun e he=>?_,by simp⟩;rw [Array.mem_singleton] at he;subst he;exact⟨fun x hx=>(by cases hx;exact⟨fun k=>absurd k hSh,fun _=>hFz⟩),fun x hx=>(by cases hx;show ad.block < _;simpa [World.setCell] using hlt)⟩
theorem qZ.spot{ad:Addr}{u v:Value}(hc:w.cell? ad=some u)(zA:∀ i s,i≠h->i < n->T i=.seat s->s.c≠ad.block/\∀ x,x∈s.L->x.1≠ad)(hSh:¬ Sh ad.block)(hFz:¬ Fz (.cell ad)):qZ Sh Fz T n h w (w.setCell ad v) #[⟨.cell ad,true,false⟩]:=by
 obtain⟨_,c,e,fr,hb,_⟩:=qdw hc;have hlt:=(Array.getElem?_eq_some_iff.1 hb).1;refine⟨⟨fun i s h1 h2 h3=>qcw w ad v _ (zA i s h1 h2 h3).1,fun i s h1 h2 h3 x hx hcx=>?_⟩,fun e he=>?_,by simp⟩
 . rw [World.cell?_setCell_other (h:=fun e:ad=x.1=>(zA i s h1 h2 h3).2 x hx e.symm)];exact hcx
 rw [Array.mem_singleton] at he;subst he;exact⟨fun x hx=>(by cases hx;exact⟨fun k=>absurd k hSh,fun _=>hFz⟩),fun x hx=>(by cases hx;show ad.block < _;simpa [World.setCell] using hlt)⟩
def kM(T:Nat->q8)(n h:Nat)(w:World):Prop:=∀ r,StW T n h r->r < w.heap.size
theorem qZ.new(hT:kM T n h w)(o:Obj):qZ Sh Fz T n h w (w.alloc o) #[]:=
 ⟨.of (fun r hr=>qb4 w o (Nat.ne_of_lt (hT r hr))),fun e he=>by simp at he,by simp⟩
end
section
variable {P:Program}{Post:Value->World->Prop}{Sh:Nat->Prop}{Fz:Loc->Prop}{T:Nat->q8}{n h dd:Nat}{g:Goroutine}{w w':World}{es:Array Event}
 {b:Frame} {a:Act} {k:List Item} {cs:List Frame} {ops:Array Oper} {i:Nat} {rest:List Nat} {o:Oper}
def Plain(es:Array Event):Prop:=∀ e,e∈es->e.loc≠.mark .disable/\e.loc≠.mark .enable
theorem qxf{g':Goroutine}(hs:g.status=.running)(step:∀ d,stepG P (h == 0) g (w.at d)=.go g' (w'.at d) es)(H:qZ Sh Fz T n h w w' es)(hp:Plain es)(next:qd P Post Sh Fz T n h dd g' w'):qd P Post Sh Fz T n h dd g w:=
 qb5 hs (fun d=>⟨g',w'.at d,es,step d,H.shift d,by rw [deafBehind_still hp];exact next d⟩)
theorem qgp(v:Value)(ho:ops[i]?=some o)(hw:Region.wanted o (yielded ops a.tmps)=true)(hk:b.kind≠.early)
   (hr:∀ d,(execOp a.eval o).run P (w.at d)=.ok (.value v) (w'.at d)) (he:∀ d,(execOp a.eval o).events P (w.at d) #[]=es) (H:qZ Sh Fz T n h w w' es) (hp:Plain es)
   (next:qd P Post Sh Fz T n h dd (G (b.at (a.put o.dst v) (.inRegion ops rest::k)) cs) w'):qd P Post Sh Fz T n h dd (G (b.at a (.inRegion ops (i::rest)::k)) cs) w:=
 qxf (es:=seen P b.fn es) rfl (fun d=>by rw [stepG_value ho hw hk (hr d)];unfold listed;rw [he d]) (H.less (fun _ x=>mem_seen x)) (fun e x=>hp e (mem_seen x)) next
theorem qtd(ho:ops[i]?=some o)(hw:Region.wanted o (yielded ops a.tmps)=true)(hk:b.kind≠.early)
   (hr:∀ d,(execOp a.eval o).run P (w.at d)=.ok .skip (w'.at d)) (he:∀ d,(execOp a.eval o).events P (w.at d) #[]=es) (H:qZ Sh Fz T n h w w' es) (hp:Plain es)
   (next:qd P Post Sh Fz T n h dd (G (b.at (a.put o.dst undef) (.inRegion ops rest::k)) cs) w'):qd P Post Sh Fz T n h dd (G (b.at a (.inRegion ops (i::rest)::k)) cs) w:=
 qxf (es:=seen P b.fn es) rfl (fun d=>by rw [stepG_none ho hw hk (hr d)];unfold listed;rw [he d]) (H.less (fun _ x=>mem_seen x)) (fun e x=>hp e (mem_seen x)) next
theorem qhg:Plain #[]:=fun e he=>by simp at he
theorem qm3{ad:Addr}{wr sy:Bool}:Plain #[⟨.cell ad,wr,sy⟩]:=fun e he=>by
 rw [Array.mem_singleton] at he;subst he;exact⟨(fun h=>by cases h),(fun h=>by cases h)⟩
theorem qat(v:Value)(ho:ops[i]?=some o)(hw:Region.wanted o (yielded ops a.tmps)=true)(hk:b.kind≠.early)(hr:∀ w,(execOp a.eval o).run P w=.ok (.value v) w)(he:∀ w,(execOp a.eval o).events P w #[]=#[])
   (next:qd P Post Sh Fz T n h dd (G (b.at (a.put o.dst v) (.inRegion ops rest::k)) cs) w):qd P Post Sh Fz T n h dd (G (b.at a (.inRegion ops (i::rest)::k)) cs) w:=
 qgp v ho hw hk (fun _=>hr _) (fun _=>he _) (.idle w) qhg next
theorem qdx{ad:Addr}{v:Value}(hc:w.cell? ad=some v)(hSh:¬ Sh ad.block)(ho:ops[i]?=some o)(hw:Region.wanted o (yielded ops a.tmps)=true)(hk:b.kind≠.early)
   (hr:∀ w,w.cell? ad=some v->(execOp a.eval o).run P w=.ok (.value v) w) (he:∀ w,w.cell? ad=some v->(execOp a.eval o).events P w #[]=#[⟨.cell ad,false,false⟩])
   (next:qd P Post Sh Fz T n h dd (G (b.at (a.put o.dst v) (.inRegion ops rest::k)) cs) w):qd P Post Sh Fz T n h dd (G (b.at a (.inRegion ops (i::rest)::k)) cs) w:=
 qgp v ho hw hk (fun _=>hr _ hc) (fun _=>he _ hc) (.read hc hSh) qm3 next
theorem qrm{ad:Addr}{u v:Value}(hc:w.cell? ad=some u)(hz:w.frozen? ad=false)(zA:¬ StW T n h ad.block)(hSh:¬ Sh ad.block)(hFz:¬ Fz (.cell ad))(ho:ops[i]?=some o)(hw:Region.wanted o (yielded ops a.tmps)=true)(hk:b.kind≠.early)
   (hr:∀ w,w.cell? ad=some u->w.frozen? ad=false->(execOp a.eval o).run P w=.ok .skip (w.setCell ad v)) (he:∀ w,w.cell? ad=some u->w.frozen? ad=false->(execOp a.eval o).events P w #[]=#[⟨.cell ad,true,false⟩])
   (next:qd P Post Sh Fz T n h dd (G (b.at (a.put o.dst undef) (.inRegion ops rest::k)) cs) (w.setCell ad v)):qd P Post Sh Fz T n h dd (G (b.at a (.inRegion ops (i::rest)::k)) cs) w:=
 qtd (w':=w.setCell ad v) ho hw hk (fun d=>hr (w.at d) hc hz) (fun d=>he (w.at d) hc hz) (.write hc zA hSh hFz) qm3 next
theorem qfm{ob:Obj}{v:Nat->Value}(hT:kM T n h w)(ho:ops[i]?=some o)(hw:Region.wanted o (yielded ops a.tmps)=true)(hk:b.kind≠.early)
   (hr:∀ w,(execOp a.eval o).run P w=.ok (.value (v w.heap.size)) (w.alloc ob)) (he:∀ w,(execOp a.eval o).events P w #[]=#[])
   (next:qd P Post Sh Fz T n h dd (G (b.at (a.put o.dst (v w.heap.size)) (.inRegion ops rest::k)) cs) (w.alloc ob)):qd P Post Sh Fz T n h dd (G (b.at a (.inRegion ops (i::rest)::k)) cs) w:=
 qgp (w':=w.alloc ob) (v w.heap.size) ho hw hk (fun d=>hr (w.at d)) (fun _=>he _) (.new hT ob) qhg next
theorem qhh{f:FuncId}{fn:Func}{c:Code}{args:Array Operand}{ats:Array TypeId}(ho:ops[i]?=some o)(hw:Region.wanted o (yielded ops a.tmps)=true)(hk:b.kind≠.early)(hop:o.op=.call { callee:=.value (.func f),args,argTypes:=ats })
   (hf:P.funcs[f]?=some fn) (hname:(fn.name == "runtime.NumGoroutine")=false) (hb:fn.body=some c)
   (next:qd P Post Sh Fz T n h dd (G ((base f).at { tmps:=args.map a.eval++Array.replicate (fn.ntmps - (args.map a.eval).size) undef,defers:=[] } [.code c]) (b.at a (.inRegion ops (i::rest)::k)::cs)) w) :
   qd P Post Sh Fz T n h dd (G (b.at a (.inRegion ops (i::rest)::k)) cs) w:=by
 have hb':fn.body.isNone=false:=by rw [hb];rfl
 refine qcy rfl (fun w=>?_) next;rw [stepG_enter ho hw hk (run_call_body hop hf hname hb'),enter_at _ hf hb];have:listed P b.fn a o w=#[]:=by unfold listed;rw [events_call_body hop hf hname hb'];exact seen_none P _
 rw [this]
theorem qzo{f:FuncId}{as:Array Operand}{ats:Array TypeId}(ho:ops[i]?=some o)(hw:Region.wanted o (yielded ops a.tmps)=true)(hk:b.kind≠.early)(hop:o.op=.defer { callee:=.value (.func f),args:=as,argTypes:=ats })
   (next:qd P Post Sh Fz T n h dd (G (b.at (Act.put ⟨a.tmps,dcall f (as.map a.eval)::a.defers⟩ o.dst undef) (.inRegion ops rest::k)) cs) w):qd P Post Sh Fz T n h dd (G (b.at a (.inRegion ops (i::rest)::k)) cs) w:=
 qcy rfl (fun _=>stepG_defer ho hw hk hop) next
theorem qxg(next:qd P Post Sh Fz T n h dd (G { b.at a [] with mode:=.returning } cs) w):qd P Post Sh Fz T n h dd (G (b.at a []) cs) w:=
 qcy rfl (fun _=>stepG_end) next
theorem qxh{todo:List Item}{ds:List Deferred}{f:FuncId}{fn:Func}{args:Array Value}{c:Code}(hd:a.defers=dcall f args::ds)(hf:P.funcs[f]?=some fn)(hname:(fn.name == "runtime.NumGoroutine")=false)(hb:fn.body=some c)
   (next:qd P Post Sh Fz T n h dd (G ((baseD f).at { tmps:=args++Array.replicate (fn.ntmps - args.size) undef,defers:=[] } [.code c]) ({ b.at ⟨a.tmps,ds⟩ todo with mode:=.returning }::cs)) w) :
   qd P Post Sh Fz T n h dd (G { b.at a todo with mode:=.returning } cs) w:=
 qcy rfl (fun _=>stepG_unwind_enter hd hf hname hb) next
theorem qn5{todo:List Item}{fn:Func}{b₀:Frame}{a₀:Act}(hn:b.kind=.normal)(hd:a.defers=[])(hf:P.funcs[b.fn]?=some fn)(hr:fn.results=#[])
   (next:qd P Post Sh Fz T n h dd (G (b₀.at (a₀.put ((ops[i]?).bind (·.dst)) (.tuple #[])) (.inRegion ops rest::k)) cs) w) :
   qd P Post Sh Fz T n h dd (G { b.at a todo with mode:=.returning } (b₀.at a₀ (.inRegion ops (i::rest)::k)::cs)) w:=
 qcy rfl (fun w=>by rw [stepG_leave hn hd hf (results_none hr _ P w) (events_results_none hr _ _),Frame.finish_at]) next
end
end
section
@[reducible] def muL:Go.Conc.Locks.MuLink:={ lock:=114,unlock:=115,ilock:=154,iunlock:=155,lockSlow:=198,unlockSlow:=200,disable:=102,enable:=103,acquire:=116,relMerge:=101,cas32:=197,add32:=199,tMutex:=64,tIMutex:=62,tPMutex:=190,tPIMutex:=229,tPI32:=231,tUP:=145,tNoCopy:=59,tU32:=60 }
theorem q82:Go.Conc.Locks.MuLib Tryz.prog muL:=
 ⟨Tryz.func114,Tryz.func115,Tryz.func154,Tryz.func155,Tryz.func102,Tryz.func103,Tryz.func116,Tryz.func101,Tryz.func197,Tryz.func199,Tryz.underlying62,Tryz.runUnderlying62,Tryz.sizeOf62,Tryz.isAgg62,Tryz.zeroValue62,Tryz.underlying64,Tryz.runUnderlying64,Tryz.sizeOf64,Tryz.isAgg64,Tryz.zeroValue64,Tryz.underlying190,Tryz.runUnderlying190,Tryz.sizeOf190,Tryz.isAgg190,Tryz.zeroValue190,Tryz.underlying229,Tryz.runUnderlying229,Tryz.sizeOf229,Tryz.isAgg229,Tryz.zeroValue229,Tryz.underlying231,Tryz.runUnderlying231,Tryz.sizeOf231,Tryz.isAgg231,Tryz.zeroValue231,Tryz.underlying145,Tryz.runUnderlying145,Tryz.sizeOf145,Tryz.isAgg145,Tryz.zeroValue145,Tryz.underlying59,Tryz.runUnderlying59,Tryz.sizeOf59,Tryz.isAgg59,Tryz.zeroValue59,Tryz.underlying21,Tryz.runUnderlying21,Tryz.sizeOf21,Tryz.isAgg21,Tryz.zeroValue21,by kernel_rfl⟩
end
end Go.Proofs.YtacemdoejblgaaaGreatDoor

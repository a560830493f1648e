/- Part M08. Conditions: each statement's. -/
import Derived.Test.YtacemdoejblgaaaGreatDoorM07
import Derived.Test.YtacemdoejblgaaaGreatDoorChecked
import Derived.Conc.MuLib
import Derived.KernelRfl
namespace Go.Proofs.YtacemdoejblgaaaGreatDoor
open List Tryz
set_option maxRecDepth 100000
set_option maxHeartbeats 6400000
section
open Go.Conc
section
variable {Sh:Nat->Prop}{Fz:Loc->Prop}{T:Nat->qA}{n h:Nat}{w w':World}{es:Array Event}
theorem jV.shift(H:jV Sh Fz T n h w w' es)(d:Nat):jV Sh Fz T n h (w.at d) (w'.at d) es:=
 ⟨⟨λi s h1 h2 h3=>H.still.chan i s h1 h2 h3,λi s h1 h2 h3 x hx hc=>H.still.cell i s h1 h2 h3 x hx hc⟩,H.evs,H.size⟩
theorem jV.less{fs:Array Event}(H:jV Sh Fz T n h w w' es)(hs:∀e,e∈fs->e∈es):jV Sh Fz T n h w w' fs:=⟨H.still,λe he=>H.evs e (hs e he),H.size⟩
theorem jV.read{ad:Addr}{v:Value}(hc:w.cell? ad=some v)(hSh:¬Sh ad.block):jV Sh Fz T n h w w #[⟨.cell ad,false,false⟩]:=by
 refine⟨.refl,λe he=>?_,Nat.le_refl _⟩;rw[Array.mem_singleton]at he;subst he;obtain⟨_,c,e,fr,hb,_⟩:=qev hc;have hlt:=(Array.getElem?_eq_some_iff.1 hb).1;exact⟨λx hx=>(by cases hx;exact⟨λk=>absurd k hSh,λk=>by cases k⟩),λx hx=>(by cases hx;exact hlt)⟩
theorem jV.write{ad:Addr}{u v:Value}(hc:w.cell? ad=some u)(vX:¬StW T n h ad.block)(hSh:¬Sh ad.block)(hFz:¬Fz (.cell ad)):jV Sh Fz T n h w (w.setCell ad v) #[⟨.cell ad,true,false⟩]:=by
 obtain⟨_,c,e,fr,hb,_⟩:=qev hc;have hlt:=(Array.getElem?_eq_some_iff.1 hb).1;refine⟨.of (λr hr=>qdl w ad v r (λk=>vX (k▸hr))),λe he=>?_,by simp⟩;rw[Array.mem_singleton]at he;subst he;exact⟨λx hx=>(by cases hx;exact⟨λk=>absurd k hSh,λ_=>hFz⟩),λx hx=>(by cases hx;show ad.block<_;simpa[World.setCell]using hlt)⟩
theorem jV.spot{ad:Addr}{u v:Value}(hc:w.cell? ad=some u)(vX:∀i s,i≠h->i<n->T i=.seat s->s.c≠ad.block/\∀x,x∈s.L->x.1≠ad)(hSh:¬Sh ad.block)(hFz:¬Fz (.cell ad)):jV Sh Fz T n h w (w.setCell ad v) #[⟨.cell ad,true,false⟩]:=by
 obtain⟨_,c,e,fr,hb,_⟩:=qev hc;have hlt:=(Array.getElem?_eq_some_iff.1 hb).1;refine⟨⟨λi s h1 h2 h3=>qdl w ad v _ (vX i s h1 h2 h3).1,λi s h1 h2 h3 x hx hcx=>?_⟩,λe he=>?_,by simp⟩
 . rw[World.cell?_setCell_other (h:=λe:ad=x.1=>(vX i s h1 h2 h3).2 x hx e.symm)];exact hcx
 rw[Array.mem_singleton]at he;subst he;exact⟨λx hx=>(by cases hx;exact⟨λk=>absurd k hSh,λ_=>hFz⟩),λx hx=>(by cases hx;show ad.block<_;simpa[World.setCell]using hlt)⟩
def qdC(T:Nat->qA)(n h:Nat)(w:World):Prop:=∀r,StW T n h r->r<w.heap.size
theorem jV.new(hT:qdC T n h w)(o:Obj):jV Sh Fz T n h w (w.alloc o) #[]:=
 ⟨.of (λr hr=>qcr w o (Nat.ne_of_lt (hT r hr))),λe he=>by simp at he,by simp⟩
end
section
variable {P:Program}{Post:Value->World->Prop}{Sh:Nat->Prop}{Fz:Loc->Prop}{T:Nat->qA}{n h dd:Nat}{g:Goroutine}{w w':World}{es:Array Event}
 {b:Frame} {a:Act} {k:List Item} {cs:List Frame} {ops:Array Oper} {i:Nat} {rest:List Nat} {o:Oper}
def Plain(es:Array Event):Prop:=∀e,e∈es->e.loc≠.mark .disable/\e.loc≠.mark .enable
theorem q2c{g':Goroutine}(hs:g.status=.running)(step:∀d,stepG P (h==0) g (w.at d)=.go g' (w'.at d) es)(H:jV Sh Fz T n h w w' es)(hp:Plain es)(next:qc P Post Sh Fz T n h dd g' w'):qc P Post Sh Fz T n h dd g w:=
 qct hs (λd=>⟨g',w'.at d,es,step d,H.shift d,by rw[deafBehind_still hp];exact next d⟩)
theorem qh8(v:Value)(ho:ops[i]?=some o)(hw:Region.wanted o (yielded ops a.tmps)=true)(hk:b.kind≠.early)
   (hr:∀d,(execOp a.eval o).run P (w.at d)=.ok (.value v) (w'.at d)) (he:∀d,(execOp a.eval o).events P (w.at d) #[]=es) (H:jV Sh Fz T n h w w' es) (hp:Plain es)
   (next:qc P Post Sh Fz T n h dd (G (b.at (a.put o.dst v) (.inRegion ops rest::k)) cs) w'):qc P Post Sh Fz T n h dd (G (b.at a (.inRegion ops (i::rest)::k)) cs) w:=
 q2c (es:=seen P b.fn es) rfl (λd=>by rw[stepG_value ho hw hk (hr d)];unfold listed;rw[he d]) (H.less (λ_ x=>mem_seen x)) (λe x=>hp e (mem_seen x)) next
theorem qyb(ho:ops[i]?=some o)(hw:Region.wanted o (yielded ops a.tmps)=true)(hk:b.kind≠.early)
   (hr:∀d,(execOp a.eval o).run P (w.at d)=.ok .skip (w'.at d)) (he:∀d,(execOp a.eval o).events P (w.at d) #[]=es) (H:jV Sh Fz T n h w w' es) (hp:Plain es)
   (next:qc P Post Sh Fz T n h dd (G (b.at (a.put o.dst undef) (.inRegion ops rest::k)) cs) w'):qc P Post Sh Fz T n h dd (G (b.at a (.inRegion ops (i::rest)::k)) cs) w:=
 q2c (es:=seen P b.fn es) rfl (λd=>by rw[stepG_none ho hw hk (hr d)];unfold listed;rw[he d]) (H.less (λ_ x=>mem_seen x)) (λe x=>hp e (mem_seen x)) next
theorem qjd:Plain #[]:=λe he=>by simp at he
theorem qry{ad:Addr}{wr sy:Bool}:Plain #[⟨.cell ad,wr,sy⟩]:=λe he=>by
 rw[Array.mem_singleton]at he;subst he;exact⟨(λh=>by cases h),(λh=>by cases h)⟩
theorem qa2(v:Value)(ho:ops[i]?=some o)(hw:Region.wanted o (yielded ops a.tmps)=true)(hk:b.kind≠.early)(hr:∀w,(execOp a.eval o).run P w=.ok (.value v) w)(he:∀w,(execOp a.eval o).events P w #[]=#[])
   (next:qc P Post Sh Fz T n h dd (G (b.at (a.put o.dst v) (.inRegion ops rest::k)) cs) w):qc P Post Sh Fz T n h dd (G (b.at a (.inRegion ops (i::rest)::k)) cs) w:=
 qh8 v ho hw hk (λ_=>hr _) (λ_=>he _) (.idle w) qjd next
theorem qew{ad:Addr}{v:Value}(hc:w.cell? ad=some v)(hSh:¬Sh ad.block)(ho:ops[i]?=some o)(hw:Region.wanted o (yielded ops a.tmps)=true)(hk:b.kind≠.early)
   (hr:∀w,w.cell? ad=some v->(execOp a.eval o).run P w=.ok (.value v) w) (he:∀w,w.cell? ad=some v->(execOp a.eval o).events P w #[]=#[⟨.cell ad,false,false⟩])
   (next:qc P Post Sh Fz T n h dd (G (b.at (a.put o.dst v) (.inRegion ops rest::k)) cs) w):qc P Post Sh Fz T n h dd (G (b.at a (.inRegion ops (i::rest)::k)) cs) w:=
 qh8 v ho hw hk (λ_=>hr _ hc) (λ_=>he _ hc) (.read hc hSh) qry next
theorem qwk{ad:Addr}{u v:Value}(hc:w.cell? ad=some u)(hz:w.frozen? ad=false)(vX:¬StW T n h ad.block)(hSh:¬Sh ad.block)(hFz:¬Fz (.cell ad))(ho:ops[i]?=some o)(hw:Region.wanted o (yielded ops a.tmps)=true)(hk:b.kind≠.early)
   (hr:∀w,w.cell? ad=some u->w.frozen? ad=false->(execOp a.eval o).run P w=.ok .skip (w.setCell ad v)) (he:∀w,w.cell? ad=some u->w.frozen? ad=false->(execOp a.eval o).events P w #[]=#[⟨.cell ad,true,false⟩])
   (next:qc P Post Sh Fz T n h dd (G (b.at (a.put o.dst undef) (.inRegion ops rest::k)) cs) (w.setCell ad v)):qc P Post Sh Fz T n h dd (G (b.at a (.inRegion ops (i::rest)::k)) cs) w:=
 qyb (w':=w.setCell ad v) ho hw hk (λd=>hr (w.at d) hc hz) (λd=>he (w.at d) hc hz) (.write hc vX hSh hFz) qry next
theorem qgw{ob:Obj}{v:Nat->Value}(hT:qdC T n h w)(ho:ops[i]?=some o)(hw:Region.wanted o (yielded ops a.tmps)=true)(hk:b.kind≠.early)
   (hr:∀w,(execOp a.eval o).run P w=.ok (.value (v w.heap.size)) (w.alloc ob)) (he:∀w,(execOp a.eval o).events P w #[]=#[])
   (next:qc P Post Sh Fz T n h dd (G (b.at (a.put o.dst (v w.heap.size)) (.inRegion ops rest::k)) cs) (w.alloc ob)):qc P Post Sh Fz T n h dd (G (b.at a (.inRegion ops (i::rest)::k)) cs) w:=
 qh8 (w':=w.alloc ob) (v w.heap.size) ho hw hk (λd=>hr (w.at d)) (λ_=>he _) (.new hT ob) qjd next
theorem qho{f:FuncId}{fn:Func}{c:Code}{args:Array Operand}{ats:Array TypeId}(ho:ops[i]?=some o)(hw:Region.wanted o (yielded ops a.tmps)=true)(hk:b.kind≠.early)(hop:o.op=.call {callee:=.value (.func f),args,argTypes:=ats})
   (hf:P.funcs[f]?=some fn) (hname:(fn.name == "runtime.NumGoroutine")=false) (hb:fn.body=some c)
   (next:qc P Post Sh Fz T n h dd (G ((base f).at {tmps:=args.map a.eval++Array.replicate (fn.ntmps-(args.map a.eval).size) undef,defers:=[]} [.code c]) (b.at a (.inRegion ops (i::rest)::k)::cs)) w) :
   qc P Post Sh Fz T n h dd (G (b.at a (.inRegion ops (i::rest)::k)) cs) w:=by
 have hb':fn.body.isNone=false:=by rw[hb];rfl
 refine qdn rfl (λw=>?_) next;rw[stepG_enter ho hw hk (run_call_body hop hf hname hb'),enter_at _ hf hb];have:listed P b.fn a o w=#[]:=by unfold listed;rw[events_call_body hop hf hname hb'];exact seen_none P _
 rw[this]
theorem q4k{f:FuncId}{ags:Array Operand}{ats:Array TypeId}(ho:ops[i]?=some o)(hw:Region.wanted o (yielded ops a.tmps)=true)(hk:b.kind≠.early)(hop:o.op=.defer {callee:=.value (.func f),args:=ags,argTypes:=ats})
   (next:qc P Post Sh Fz T n h dd (G (b.at (Act.put ⟨a.tmps,dcall f (ags.map a.eval)::a.defers⟩ o.dst undef) (.inRegion ops rest::k)) cs) w):qc P Post Sh Fz T n h dd (G (b.at a (.inRegion ops (i::rest)::k)) cs) w:=
 qdn rfl (λ_=>stepG_defer ho hw hk hop) next
theorem q2d(next:qc P Post Sh Fz T n h dd (G {b.at a []with mode:=.returning} cs) w):qc P Post Sh Fz T n h dd (G (b.at a []) cs) w:=
 qdn rfl (λ_=>stepG_end) next
theorem q2e{todo:List Item}{ds:List Deferred}{f:FuncId}{fn:Func}{args:Array Value}{c:Code}(hd:a.defers=dcall f args::ds)(hf:P.funcs[f]?=some fn)(hname:(fn.name == "runtime.NumGoroutine")=false)(hb:fn.body=some c)
   (next:qc P Post Sh Fz T n h dd (G ((baseD f).at {tmps:=args++Array.replicate (fn.ntmps-args.size) undef,defers:=[]} [.code c]) ({b.at ⟨a.tmps,ds⟩ todo with mode:=.returning}::cs)) w) :
   qc P Post Sh Fz T n h dd (G {b.at a todo with mode:=.returning} cs) w:=
 qdn rfl (λ_=>stepG_unwind_enter hd hf hname hb) next
theorem qsz{todo:List Item}{fn:Func}{b₀:Frame}{a₀:Act}(hn:b.kind=.normal)(hd:a.defers=[])(hf:P.funcs[b.fn]?=some fn)(hr:fn.results=#[])
   (next:qc P Post Sh Fz T n h dd (G (b₀.at (a₀.put ((ops[i]?).bind (·.dst)) (.tuple #[])) (.inRegion ops rest::k)) cs) w) :
   qc P Post Sh Fz T n h dd (G {b.at a todo with mode:=.returning} (b₀.at a₀ (.inRegion ops (i::rest)::k)::cs)) w:=
 qdn rfl (λw=>by rw[stepG_leave hn hd hf (results_none hr _ P w) (events_results_none hr _ _),Frame.finish_at]) next
end
end
section
@[reducible] def muL:Go.Conc.Locks.MuLink:={lock:=114,unlock:=115,ilock:=154,iunlock:=155,lockSlow:=198,unlockSlow:=200,disable:=102,enable:=103,acquire:=116,relMerge:=101,cas32:=197,add32:=199,tMutex:=64,tIMutex:=62,tPMutex:=190,tPIMutex:=229,tPI32:=231,tUP:=145,tNoCopy:=59,tU32:=60}
theorem qhA:Go.Conc.Locks.MuLib prog muL:=
 ⟨func114,func115,func154,func155,func102,func103,func116,func101,func197,func199,underlying62,runUnderlying62,sizeOf62,isAgg62,zeroValue62,underlying64,runUnderlying64,sizeOf64,isAgg64,zeroValue64,underlying190,runUnderlying190,sizeOf190,isAgg190,zeroValue190,underlying229,runUnderlying229,sizeOf229,isAgg229,zeroValue229,underlying231,runUnderlying231,sizeOf231,isAgg231,zeroValue231,underlying145,runUnderlying145,sizeOf145,isAgg145,zeroValue145,underlying59,runUnderlying59,sizeOf59,isAgg59,zeroValue59,underlying21,runUnderlying21,sizeOf21,isAgg21,zeroValue21,by kernel_rfl⟩
end
section
open Go.Conc Go.RowKit Go.Conc.Lib Go.ConcR.Gen Go.Conc.Locks
structure Grd where
 A:Addr->Prop
 F:FuncId->Prop
 N0:Nat
 fresh:∀a:Addr,N0<=a.block->A a
 up:∀a b:Addr,A a->b.block=a.block->a.off<=b.off->A b
 G:Nat
 K:Nat
 X:FuncId->Nat->Prop
noncomputable def Grd.base(g:Grd):Base where
 P:=prog
 A:=g.A
 F:=g.F
 N0:=g.N0
 fresh:=g.fresh
 up:=g.up
 G:=g.G
 K:=g.K
 X:=g.X
section
variable {C:Pen}{S:List String}{Sh:Nat->Prop}{Fz:Loc->Prop}{T:Nat->qA}{n h:Nat}{w z:World}
theorem ordinary(hb:Both C w z){a:Addr}{v:Value}(hv:z.cell? a=some v):¬C.Z a.block/\¬C.Ch a.block:=by
 obtain⟨_,c,e,fr,hc,_⟩:=qev hv;refine⟨λhZ=>?_,λhCh=>?_⟩
 . obtain⟨c',c2,e2,fr2,h1,_,_,h4,_⟩:=hb.rel.part _ (C.zp _ hZ);rw[h4 hZ]at h1;unfold World.cell? at hv;rw[h1]at hv;simp at hv
 . obtain⟨k,b,cl,m,n,t,h1⟩:=hb.rel.chn _ hCh;rw[hc]at h1;cases h1
theorem Outside.sep(O:Outside C Sh Fz T n h){r:Nat}(hB:C.B r)(hZ:¬C.Z r)(hCh:¬C.Ch r):¬StW T n h r/\¬Sh r/\∀a:Addr,a.block=r->¬Fz (.cell a):=by
 refine⟨?_,λhs=>(O.xE r hs).elim (λk=>k hB) hZ,λa ha hf=>?_⟩
 . rintro⟨i,s,h1,h2,h3,h4⟩;obtain⟨k1,k2⟩:=O.seat i s h1 h2 h3;rcases h4 with rfl|⟨x,hx,rfl⟩
   . exact k1.elim (λk=>k hB) hCh
   . exact(k2 x hx).elim (λk=>k hB) hZ
 . obtain⟨a',e,h1⟩:=O.still _ hf;cases e;subst ha;exact h1.elim (λk=>k hB) hZ
theorem Held.set{a:Addr}{v:Value}(hB:C.B a.block)(hZ:¬C.Z a.block)(hCh:¬C.Ch a.block)(w:World)(ht:Beyond C w (w.setCell a v)):Held C w (w.setCell a v):=
 ⟨λr hr=>qdl w a v r (λe=>by subst e;exact hr.elim (λk=>k hB) (λk=>k.elim hZ hCh)),by simp,rfl,rfl,rfl,ht⟩
theorem jv.held(O:Outside C Sh Fz T n h)(hL:jv T n h w){w':World}(hh:Held C w w'):jv T n h w':=λi s h1 h2 h3=>qxv (hL i s h1 h2 h3) (O.seat i s h1 h2 h3).2 hh
theorem qhB{f:FuncId}{fn:Func}{ts:Array Value}{c:Code}(hT:∀v,v∈ts->Ok C.A C.F v)(hc:qf4 C S (C.X f) c)(hf:C.P.funcs[f]?=some fn)(hr:∀r,r∈fn.results->qy8 (C.X f) r):FrE C S ((base f).at ⟨ts,[]⟩ [.code c]):=
 ⟨λt v _ hv=>hT v (Array.mem_of_getElem? hv),λit hi=>(by
  have:it=.code c:=by simpa[Frame.at]using hi
  subst this;exact hc),rfl,rfl,rfl,λch e=>(by cases e),fn,hf,hr⟩
end
noncomputable def qim:Code:=Tryz.f71.body.getD .skip
noncomputable def qz:Code:=match qim with | .seq _ (.seq _ c)=>c|_=>.skip
def qgx(fl:Nat)(k:Int):Array Value:=#[.pointer (some ⟨fl,0,none⟩),.int .i64 k,undef,undef,undef,undef,.pointer (some ⟨fl,0,none⟩),.pointer (some ⟨fl,0,none⟩),.pointer (some ⟨fl,0,none⟩),.tuple #[],
 .pointer (some ⟨fl,0,none⟩),.pointer (some ⟨fl,0,none⟩),.pointer (some ⟨fl,0,none⟩),undef,undef,undef,undef,undef,undef,undef,undef,undef,undef,undef,undef,undef,undef,undef,undef,undef,undef]
section
variable {gr:Grd}{M:Mks gr.base}{S:List String}{Post:Value->World->Prop}{Sh:Nat->Prop}{Fz:Loc->Prop}{T:Nat->qA}{n h:Nat}{w z:World}
 {b₀:Frame} {a₀:Act} {ops₀:Array Oper} {i₀:Nat} {rest₀:List Nat} {k₀:List Item} {cs:List Frame}
theorem q7l(H:zw (gr.base.pen M) S)(zF:qf4 (gr.base.pen M) S (gr.X 71) qz)(hb:Both (gr.base.pen M) w z)(O:Outside (gr.base.pen M) Sh Fz T n h)(hL:jv T n h w)
   {fl:Nat} {k:Int} (hA:gr.A ⟨fl,0,none⟩) (hc0:z.cell? ⟨fl,0,none⟩=some (.int .i32 0)) {R:World->Prop} (hR:∀x y,x.heap=y.heap->R x->R y) (hR0:∀x,R x->x.cell? ⟨fl,0,none⟩=some (.int .i32 1))
   (piece:∀d t,qz.wp prog (λe _ x=>e=.normal/\R x) ⟨qgx fl k,[]⟩ (re ((z.setCell ⟨fl,0,none⟩ (.int .i32 1)).at d) t 0))
   (next:∀w' z',Both (gr.base.pen M) w' (z'.setCell ⟨fl,0,none⟩ (.int .i32 0))->Held (gr.base.pen M) w w'->jv T n h w'->R z'->qc prog Post Sh Fz T n h 0 (G (b₀.at (a₀.put ((ops₀[i₀]?).bind (·.dst)) (.tuple #[])) (.inRegion ops₀ rest₀::k₀)) cs) w') :
   qc prog Post Sh Fz T n h 0 (G ((base 71).at ⟨#[.pointer (some ⟨fl,0,none⟩),.int .i64 k,undef,undef,undef,undef,undef,undef,undef,undef,undef,undef,undef,undef,undef,undef,undef,undef,undef,undef,undef,undef,undef,undef,undef,undef,undef,undef,undef,undef,undef],[]⟩ [.code qim])
    (b₀.at a₀ (.inRegion ops₀ (i₀::rest₀)::k₀)::cs)) w:=by
 obtain⟨hZ,hCh⟩:=ordinary hb hc0;have hB:(gr.base.pen M).B fl:=⟨_,hA,rfl⟩;obtain⟨s1,s2,s3⟩:=O.sep hB hZ hCh;have hcz:zO ⟨fl,0,none⟩ (.int .i32 0) w:=⟨(hb.cell hA hc0).1,hb.thaw hA hc0⟩;have e0:qim=.seq (match qim with | .seq x _=>x|_=>.skip) (.seq (match qim with | .seq _ (.seq x _)=>x|_=>.skip) qz):=rfl;generalize hp:qz=tp at *;rw[e0];clear e0;simp only[qim,f71,Option.getD_some];refine qao ?_;refine qau ?_;simp only[List.size_toArray,length_cons,length_nil,Nat.reduceAdd,Nat.zero_add,range,range.loop];refine qa2 (.pointer (some ⟨fl,0,none⟩)) rfl rfl (by decide) (λw=>by go_simp) (λw=>by simp[go_sem]) ?_;walk_nrm;refine qh8 (w':=w) (es:=#[]) (.pointer (some ⟨fl,0,none⟩)) rfl rfl (by decide) (λd=>by have:=hcz.1;go_simp) (λd=>by have:=hcz.1;simp[go_sem]) (.idle w) qjd ?_;walk_nrm;refine qh8 (w':=w) (es:=#[]) (.pointer (some ⟨fl,0,none⟩)) rfl rfl (by decide) (λd=>by have:=hcz.1;go_simp) (λd=>by have:=hcz.1;simp[go_sem]) (.idle w) qjd ?_;walk_nrm;refine qho rfl rfl (by decide) rfl func114 (by kernel_rfl) rfl ?_;walk_nrmf f114;have hl:=λ{b₀:Frame} {a₀:Act} {ops₀:Array Oper} {i₀:Nat} {rest₀:List Nat} {k₀:List Item} {cs:List Frame}=>q7a (Post:=Post) (b₀:=b₀) (a₀:=a₀) (ops₀:=ops₀) (i₀:=i₀) (rest₀:=rest₀) (k₀:=k₀) (cs:=cs) qhA s1 s2 (s3 ⟨fl,0,none⟩ rfl) hcz;simp only[lockFn,Option.getD_some]at hl;refine hl ?_;clear hl;have qbL:=hcz.set (v':=.int .i32 1);have hb1:=hb.set (v:=.int .i32 1) hA hc0 (.int _ _);have hL1:=hL.held O (Held.set (a:=⟨fl,0,none⟩) (v:=.int .i32 1) hB hZ hCh w (hb.rel.ve hc0 _));have hh1:=Held.set (C:=gr.base.pen M) (a:=⟨fl,0,none⟩) (v:=.int .i32 1) hB hZ hCh w (hb.rel.ve hc0 _);generalize w.setCell ⟨fl,0,none⟩ (.int .i32 1)=w1 at qbL hb1 hL1 hh1 |-;walk_nrm;refine qan ?_;refine qao ?_;refine qau ?_;simp only[List.size_toArray,length_cons,length_nil,Nat.reduceAdd,Nat.zero_add,range,range.loop];refine qa2 (.pointer (some ⟨fl,0,none⟩)) rfl rfl (by decide) (λw=>by go_simp) (λw=>by simp[go_sem]) ?_;walk_nrm;refine qh8 (w':=w1) (es:=#[]) (.pointer (some ⟨fl,0,none⟩)) rfl rfl (by decide) (λd=>by have:=qbL.1;go_simp) (λd=>by have:=qbL.1;simp[go_sem]) (.idle w1) qjd ?_;walk_nrm;refine qh8 (w':=w1) (es:=#[]) (.pointer (some ⟨fl,0,none⟩)) rfl rfl (by decide) (λd=>by have:=qbL.1;go_simp) (λd=>by have:=qbL.1;simp[go_sem]) (.idle w1) qjd ?_;walk_nrm;refine q4k rfl rfl (by decide) rfl ?_;walk_nrm;refine qan ?_
 have hX:FrE (gr.base.pen M) S ((base 71).at ⟨qgx fl k,[]⟩ [.code tp]):=by
  refine qhB (λv hv=>?_) zF func71 (λr hr=>by simp[f71]at hr);simp only[qgx,List.mem_toArray,mem_cons,not_mem_nil,or_false]at hv
  rcases hv with rfl|rfl|rfl|rfl|rfl|rfl|rfl|rfl|rfl|rfl|rfl|rfl|rfl|rfl|rfl|rfl|rfl|rfl|rfl|rfl|rfl|rfl|rfl|rfl|rfl|rfl|rfl|rfl|rfl|rfl|rfl <;>
   first|exact .ptr hA|exact .int _ _|exact .undef
 refine qxs (a:=⟨qgx fl k,[dcall 115 #[.pointer (some ⟨fl,0,none⟩)]]⟩) H hX hb1 O hL1 (Q:=λe _ x=>e=.normal/\R x) (λe v x y hxy hq=>⟨hq.1,hR x y hxy hq.2⟩) piece (λe a w hq=>by rw[hq.1];trivial) ?_;rintro e a' todo w2 z2 hb2 hh2-kH hL2 ⟨rfl,hR2⟩;rw[kH rfl];show qc prog Post Sh Fz T n h 0 (G ((base 71).at ⟨a'.tmps,[dcall 115 #[.pointer (some ⟨fl,0,none⟩)]]⟩ []) (b₀.at a₀ (.inRegion ops₀ (i₀::rest₀)::k₀)::cs)) w2;refine q2d ?_;refine q2e rfl func115 (by kernel_rfl) rfl ?_;walk_nrmf f115;have hc2:=hR0 _ hR2;have qkV:zO ⟨fl,0,none⟩ (.int .i32 1) w2:=⟨(hb2.cell hA hc2).1,hb2.thaw hA hc2⟩;have hu:=λ{c:Frame} {cs:List Frame}=>q1x (Post:=Post) (c:=c) (cs:=cs) qhA s1 s2 (s3 ⟨fl,0,none⟩ rfl) qkV;simp only[unlockFn,Option.getD_some]at hu;refine hu rfl ?_;clear hu;refine qsz rfl rfl func71 rfl ?_;have hh3:=Held.set (C:=gr.base.pen M) (a:=⟨fl,0,none⟩) (v:=.int .i32 0) hB hZ hCh w2 (hb2.rel.ve hc2 _);exact next _ _ (hb2.set (v:=.int .i32 0) hA hc2 (.int _ _)) ((hh1.trans hh2).trans hh3) (hL2.held O hh3) hR2
end
end
section
open Go.Conc Go.RowKit Go.Conc.Lib Go.ConcR.Gen
open Go.ConcR (KK WgAt stA smA rd wr DC0 Payload)
open Go.ConcN (st_flag st_waiters WgLive PayAt)
open Go.ConcN.Gen (AnchWN)
theorem qei{P:Program}{main:Bool}{R:World->World->Prop}{D:World->World->Array Event->Prop}{Stop:Goroutine->World->Prop}(hR:∀w,R w w)(hD:∀w,D w w #[]){M:Nat} :
   ∀{m:Nat} {g:Goroutine} {w:World},Goes P main R DC0 (Goes P main R D Stop M) m g w->Goes P main R D Stop (m+M) g w
 |0,g,w,h=>by rw[Nat.zero_add];exact h w (hR w)
 |m+1,g,w,h=>by
  rcases h with h|⟨hs,h⟩
  . rw[Nat.add_comm];exact Go.ConcM.goes_pad (h w (hR w)) (m+1)
  . rw[Nat.succ_add];refine Goes.step hs (λw₁ h₁=>?_);obtain⟨g',w',es,e1,⟨e2,e3⟩,e4⟩:=goes_elim (h w₁ h₁);rw[e1];subst e2;subst e3;exact⟨hD _,qei hR hD e4⟩
theorem qgj{Wg:Nat}{Sh:Nat->Prop}{Fz:Loc->Prop}(w:World):DM Wg Sh Fz w w #[]:=⟨rfl,λe he=>by simp at he⟩
section
variable [Payload]{ty:TypeId}{Wg:Nat}{Bx:Nat->Prop}{w w₁:World}
theorem qa7{F:World->Prop}(hF:∀w w',RM ty Wg Bx w w'->F w->F w')(h:F w/\WgLive ty Wg w)(r:RM ty Wg Bx w w₁):F w₁/\WgLive ty Wg w₁:=⟨hF _ _ r h.1,r.live h.2⟩
theorem qkW(a:Addr)(v:Value){r m:Nat}(hp:PayAt r m w):PayAt r m (w.setCell a v):=by
 obtain⟨cs,h1,h2⟩:=hp;by_cases e:a.block=r
 . subst e;refine⟨_,qeu w a v h1,?_⟩;split
   . exact h2
   . simpa using h2
 . exact⟨cs,(qcw w a v r e).trans h1,h2⟩
theorem qhC{a:Addr}{v:Value}(ha:a.block=Wg)(hl:WgLive ty Wg (w.setCell a v)):RM ty Wg Bx w (w.setCell a v):=
 ⟨rfl,rfl,rfl,by simp[World.setCell],λr hr _=>qcw w a v r (λe=>hr (e.symm.trans ha)),λ_=>hl,λr _ hp=>qkW a v hp⟩
theorem ql9{F:World->Prop}(hF:∀w w',RM ty Wg Bx w w'->F w->F w')(h:F w/\WgLive ty Wg w)(r:AtRel w w₁):F w₁/\WgLive ty Wg w₁:=by
 obtain⟨d,rfl⟩:=r;exact qa7 hF h (RM.at w d)
end
def LdL(P:Program)(Post:Value->World->Prop)(Sh:Nat->Prop)(Fz:Loc->Prop)(n:Nat)(g:Goroutine)(w:World):Prop:=qc P Post Sh Fz (λ_=>.left) n 0 0 g w
section
variable [Payload]{L:WgLink}{P:Program}{Post:Value->World->Prop}{Sh:Nat->Prop}{Fz:Loc->Prop}{n:Nat}{Wg:Nat}{Bx:Nat->Prop}{F:World->Prop}
 {b₀:Frame} {a₀:Act} {ops₀:Array Oper} {i₀:Nat} {rest₀:List Nat} {k₀:List Item} {cs:List Frame}
theorem q7i(H:WgLib P L)(hF2:∀w w',RM L.tWg Wg Bx w w'->F w->F w')(w:World)(hF:F w/\WgLive L.tWg Wg w) :
   ∃m,Goes P true (RM L.tWg Wg Bx) (DM Wg Sh Fz) (MKd P L.tWg Wg Bx Sh Fz (AnchWN L F Wg (b₀.at a₀ (.inRegion ops₀ (i₀::rest₀)::k₀)) cs)) m
    (G ((base L.wait).at ⟨#[.pointer (some ⟨Wg,0,none⟩),undef,undef,undef,undef,undef,undef,undef,undef,undef,undef,undef,undef,undef,undef,undef,undef,undef,undef,undef,undef,undef,undef,undef,undef,undef,undef,undef,undef,undef,undef,undef,undef,undef,undef,undef,undef,undef,undef,undef,undef,undef,undef,undef,undef,undef,undef,undef,undef,undef,undef,undef,undef,undef,undef,undef,undef,undef,undef,undef,undef,undef,undef,undef,undef,undef,undef,undef,undef,undef,undef,undef,undef,undef,undef,undef,undef,undef,undef,undef,undef,undef,undef,undef],[]⟩ [.code (body_wait L)]) (b₀.at a₀ (.inRegion ops₀ (i₀::rest₀)::k₀)::cs)) w:=by
 lib_facts
 refine⟨_,qei (m:=20) (M:=0) .refl qgj ?_⟩;simp only[body_wait,waitFn,Option.getD_some]
 repeat w_go (qa7 hF2)
 refine Goes.stop (λw₁ h₁=>?_);replace hF:=qa7 hF2 hF h₁;clear h₁;refine λw₁ h₁=>?_;replace hF:=qa7 hF2 hF h₁;clear h₁;refine⟨rfl,_,stepG_mark0 .disable (by simp) rfl rfl (by k_ne) rfl H.f_disable (x_disable_n L) (x_disable_b L) (x_disable_x L) (x_disable_f L),_,qei (m:=10) (M:=0) .refl qgj ?_⟩;walk_nrm
 repeat w_bar (qa7 hF2)
 u_c stepG_loop (qa7 hF2) hF
 refine Goes.stop (λw₂ h₂=>?_);replace hF:=qa7 hF2 hF h₂;exact λw₃ h₃=>⟨_,rfl,by simp,by simp,qa7 hF2 hF h₃⟩
theorem q7j(H:WgLib P L)(hFz:∀b:Addr,b.block=Wg->¬Fz (.cell b))(hF2:∀w w',RM L.tWg Wg Bx w w'->F w->F w')
   (hT:∀w,F w->WgLive L.tWg Wg w->qc P Post Sh Fz (λ_=>.left) n 0 0 (G (b₀.at (a₀.put ((ops₀[i₀]?).bind (·.dst)) (.tuple #[])) (.inRegion ops₀ rest₀::k₀)) cs) w)
   (g:Goroutine) (w:World) (h:AnchWN L F Wg (b₀.at a₀ (.inRegion ops₀ (i₀::rest₀)::k₀)) cs g w) :
   ∃m,Goes P true (RM L.tWg Wg Bx) (DM Wg Sh Fz) (MW1 P L.tWg Wg Bx Sh Fz (AnchWN L F Wg (b₀.at a₀ (.inRegion ops₀ (i₀::rest₀)::k₀)) cs) (LdL P Post Sh Fz n)) m g w:=by
 lib_facts
 obtain⟨T,rfl,hT84,t0,hF⟩:=h;obtain⟨v0,v1,v2,v3,v4,v5,v6,v7,v8,v9,v10,v11,v12,v13,v14,v15,v16,v17,v18,v19,v20,v21,v22,v23,v24,v25,v26,v27,v28,v29,v30,v31,v32,v33,v34,v35,v36,v37,v38,v39,v40,v41,v42,v43,v44,v45,v46,v47,v48,v49,v50,v51,v52,v53,v54,v55,v56,v57,v58,v59,v60,v61,v62,v63,v64,v65,v66,v67,v68,v69,v70,v71,v72,v73,v74,v75,v76,v77,v78,v79,v80,v81,v82,v83,rfl⟩:=array84 T hT84;simp only[getElem?_toArray,getElem?_cons_zero,Option.some.injEq]at t0;subst t0;refine⟨_,qei (m:=60) (M:=0) .refl qgj ?_⟩;simp only[L7,body_wait,waitFn,Option.getD_some]
 repeat w_go (qa7 hF2)
 u_call H.f_uLoad (nm_uLoad L) uLoadFn (qa7 hF2) hF
 repeat w_go (qa7 hF2)
 refine Goes.stop (λw₀ h₀ w₁ h₁=>?_);replace hF:=qa7 hF2 (qa7 hF2 hF h₀) h₁;clear h₁ h₀;refine⟨rfl,λv hv hw=>?_⟩;rcases Nat.eq_zero_or_pos v with rfl|hvp
 ·
  replace hw:WgAt L.tWg Wg w₁ 0 0:=by simpa using hw
  refine⟨_,stepG_load_atomic (v:=0) rfl rfl (by k_ne) rfl H.f_loadU64 (x_loadU64_n L) (x_loadU64_b L) (x_loadU64_x L) .u64 (x_loadU64_f L) rfl hw.cellSt,λ_=>⟨_,qei (m:=100) (M:=0) .refl qgj ?_⟩,λh=>absurd rfl h⟩;clear hw;walk_nrm
  repeat w_go (qa7 hF2)
  u_leave1 H.f_uLoad (qa7 hF2) hF
  repeat w_go (qa7 hF2)
  refine Goes.stop (λw₀ h₀ w₁ h₁=>?_);replace hF:=qa7 hF2 (qa7 hF2 hF h₀) h₁;clear h₁ h₀;refine⟨rfl,_,stepG_mark0 .enable (by simp) rfl rfl (by k_ne) rfl H.f_enable (x_enable_n L) (x_enable_b L) (x_enable_x L) (x_enable_f L),_,qei (m:=30) (M:=0) .refl qgj ?_⟩;walk_nrm
  repeat w_go (qa7 hF2)
  u_conv H.underlying_tWgP H.room_tWg (Go.ConcN.Gen.WgLive.cell0 hF.2).choose_spec (qa7 hF2) hF
  refine Goes.stop (λw₀ h₀ w₁ h₁=>?_);replace hF:=qa7 hF2 (qa7 hF2 hF h₀) h₁;clear h₁ h₀;refine⟨rfl,_,stepG_markAt .acquire (by simp) rfl rfl (by k_ne) rfl H.f_acquire (x_acquire_n L) (x_acquire_b L) (x_acquire_x L) (x_acquire_f L) (by simp[Act.eval,stA]),?_⟩;refine qcf (m:=60) ?_;walk_nrm
  repeat w_go (ql9 hF2)
  u_leave0 H.f_wait (ql9 hF2) hF
  exact Goes.stop (λw₅ h₅=>hT _ (ql9 hF2 hF h₅).1 (ql9 hF2 hF h₅).2)
 ·
  obtain⟨S,hS⟩:∃S:Int,(v:Int)*KK=S:=⟨_,rfl⟩;have a1:S/4294967296=(v:Int):=by rw[<-hS];simp only[KK];omega
  have b1:bits .and .u64 S 2147483648=0:=by rw[<-hS];have:=st_flag v 0 (by omega) (by omega);simpa[KK]using this
  have b2:bits .and .u64 S 2147483647=0:=by rw[<-hS];have:=st_waiters v 0 (by omega) (by omega);simpa[KK]using this
  have c1:IntKind.i32.wrap (v:Int)=(v:Int):=by rw[IntKind.wrap_i32];omega
  have w1:IntKind.u64.wrap (S+1)=S+1:=by rw[IntKind.wrap_u64,<-hS];simp only[KK];omega
  have q3:decide ((v:Int)<0)=false:=decide_eq_false (by omega);have q4:decide (0<(v:Int))=true:=decide_eq_true (by omega);have q5:((v:Int)==0)=false:=by simp;omega
  have q6:decide ((v:Int)=0)=false:=decide_eq_false (by omega);rw[hS]at hw;refine⟨_,stepG_load_atomic (v:=S) rfl rfl (by k_ne) rfl H.f_loadU64 (x_loadU64_n L) (x_loadU64_b L) (x_loadU64_x L) .u64 (x_loadU64_f L) rfl hw.cellSt,λh0=>absurd h0 (by omega),λ_=>⟨_,qei (m:=100) (M:=0) .refl qgj ?_⟩⟩;clear hw;walk_nrm
  repeat (first|w_go (qa7 hF2)|u_cnd false (qa7 hF2) hF)
  u_leave1 H.f_uLoad (qa7 hF2) hF
  repeat (first|w_go (qa7 hF2)|u_cnd false (qa7 hF2) hF)
  u_call H.f_uCas (nm_uCas L) uCasFn (qa7 hF2) hF
  repeat w_go (qa7 hF2)
  refine Goes.stop (λw₀ h₀ w₂ h₂=>?_);replace hF:=qa7 hF2 (qa7 hF2 hF h₀) h₂;clear h₂ h₀;refine⟨rfl,λv' hv' hw=>⟨λe=>?_,λe=>?_⟩⟩
  ·
   subst e;rw[hS]at hw |-;refine⟨_,stepG_cas_hit (v:=S) (n:=S+1) rfl rfl (by k_ne) rfl H.f_casU64 (x_casU64_n L) (x_casU64_b L) (x_casU64_x L) .u64 (x_casU64_f L) rfl rfl rfl hw.cellSt (hw.thaw 0),_,qei (m:=100) (M:=61) .refl qgj ?_⟩;have hl:WgLive L.tWg Wg (w₂.setCell (stA Wg) (.int .u64 (S+1))):=⟨_,_,hw.setSt _⟩;replace hF:F (w₂.setCell (stA Wg) (.int .u64 (S+1)))/\WgLive L.tWg Wg (w₂.setCell (stA Wg) (.int .u64 (S+1))):=⟨hF2 _ _ (qhC rfl hl) hF.1,hl⟩;clear hw hl;walk_nrm
   repeat w_go (qa7 hF2)
   u_leave1 H.f_uCas (qa7 hF2) hF
   repeat w_go (qa7 hF2)
   u_conv H.underlying_tPU32 H.room_tU32 (Go.ConcN.Gen.WgLive.cell1 hF.2).choose_spec (qa7 hF2) hF
   refine Goes.stop (λw₃ h₃=>?_);replace hF:=qa7 hF2 hF h₃;clear h₃;refine Goes.step rfl (λw₄ h₄=>?_);replace hF:=qa7 hF2 hF h₄;clear h₄;rw[stepG_markAt .write (by simp) rfl rfl (by k_ne) rfl H.f_raceWrite (x_raceWrite_n L) (x_raceWrite_b L) (x_raceWrite_x L) (x_raceWrite_f L) (ad:=⟨Wg,1,none⟩) (by simp[Act.eval])];simp only[goes_go];refine⟨⟨rfl,λe he=>?_⟩,?_⟩
   . rw[Array.mem_singleton]at he;subst he;have hlt:Wg<w₄.heap.size:=by obtain⟨st,sm,h1⟩:=hF.2;exact(Array.getElem?_eq_some_iff.1 h1).1
     refine⟨⟨λx hx=>?_,λx hx=>?_⟩,by simp,by simp,by simp⟩
     . cases hx;exact⟨λ_=>by simp,λ_=>hFz _ rfl⟩
     . cases hx;exact hlt
   refine qei (m:=60) (M:=0) .refl qgj ?_;walk_nrm
   repeat w_go (qa7 hF2)
   refine Goes.stop (λw₀ h₀ w₃ h₃=>?_);replace hF:=qa7 hF2 (qa7 hF2 hF h₀) h₃;clear h₃ h₀;refine⟨rfl,rfl,λ⟨st,hw⟩=>stepG_semacquire_wait rfl rfl rfl H.f_semacquire (x_semacquire_n L) (x_semacquire_b L) (x_semacquire_x L) (x_semacquire_f L) (by simp[Act.eval,smA]) hw.cellSm,λhf=>?_⟩;refine⟨_,stepG_semacquire (n:=1) rfl rfl (by k_ne) rfl H.f_semacquire (x_semacquire_n L) (x_semacquire_b L) (x_semacquire_x L) (x_semacquire_f L) (by simp[Act.eval,smA]) hf.cellSm (by k_ne) (hf.thaw 1),_,qei (m:=60) (M:=0) .refl qgj ?_⟩;have hl:WgLive L.tWg Wg (w₃.setCell (smA Wg) (.int .u32 0)):=⟨_,_,hf.setSm 0⟩;replace hF:F (w₃.setCell (smA Wg) (.int .u32 0))/\WgLive L.tWg Wg (w₃.setCell (smA Wg) (.int .u32 0)):=⟨hF2 _ _ (qhC rfl hl) hF.1,hl⟩;clear hf hl;walk_nrm
   repeat w_go (qa7 hF2)
   u_call H.f_uLoad (nm_uLoad L) uLoadFn (qa7 hF2) hF
   repeat w_go (qa7 hF2)
   refine Goes.stop (λw₀ h₀ w₄ h₄=>?_);replace hF:=qa7 hF2 (qa7 hF2 hF h₀) h₄;clear h₄ h₀;refine⟨rfl,λhw=>⟨_,stepG_load_atomic (v:=0) rfl rfl (by k_ne) rfl H.f_loadU64 (x_loadU64_n L) (x_loadU64_b L) (x_loadU64_x L) .u64 (x_loadU64_f L) rfl hw.cellSt,_,qei (m:=60) (M:=0) .refl qgj ?_⟩⟩;clear hw;walk_nrm
   repeat w_go (qa7 hF2)
   u_leave1 H.f_uLoad (qa7 hF2) hF
   repeat w_go (qa7 hF2)
   refine Goes.stop (λw₀ h₀ w₁ h₁=>?_);replace hF:=qa7 hF2 (qa7 hF2 hF h₀) h₁;clear h₁ h₀;refine⟨rfl,_,stepG_mark0 .enable (by simp) rfl rfl (by k_ne) rfl H.f_enable (x_enable_n L) (x_enable_b L) (x_enable_x L) (x_enable_f L),_,qei (m:=30) (M:=0) .refl qgj ?_⟩;walk_nrm
   repeat w_go (qa7 hF2)
   u_conv H.underlying_tWgP H.room_tWg (Go.ConcN.Gen.WgLive.cell0 hF.2).choose_spec (qa7 hF2) hF
   refine Goes.stop (λw₀ h₀ w₁ h₁=>?_);replace hF:=qa7 hF2 (qa7 hF2 hF h₀) h₁;clear h₁ h₀;refine⟨rfl,_,stepG_markAt .acquire (by simp) rfl rfl (by k_ne) rfl H.f_acquire (x_acquire_n L) (x_acquire_b L) (x_acquire_x L) (x_acquire_f L) (by simp[Act.eval,stA]),?_⟩;refine qcf (m:=60) ?_;walk_nrm
   repeat w_go (ql9 hF2)
   u_leave0 H.f_wait (ql9 hF2) hF
   exact Goes.stop (λw₅ h₅=>hT _ (ql9 hF2 hF h₅).1 (ql9 hF2 hF h₅).2)
  ·
   refine⟨_,stepG_cas_miss (v:=(v':Int)*KK) (old:=S) (n:=S+1) rfl rfl (by k_ne) rfl H.f_casU64 (x_casU64_n L) (x_casU64_b L) (x_casU64_x L) .u64 (x_casU64_f L) rfl rfl rfl hw.cellSt (hw.thaw 0) (by rw[<-hS];simp only[KK];omega),_,qei (m:=60) (M:=0) .refl qgj ?_⟩;clear hw;walk_nrm
   repeat w_nl (qa7 hF2)
   u_leave1 H.f_uCas (qa7 hF2) hF
   repeat w_nl (qa7 hF2)
   u_c stepG_inLoop (qa7 hF2) hF
   refine Goes.stop (λw₀ h₀ w₃ h₃=>?_);replace hF:=qa7 hF2 (qa7 hF2 hF h₀) h₃;exact⟨_,rfl,by simp,by simp,hF⟩
end
end
section
@[reducible] def wgL:Go.Conc.Lib.WgLink:={add:=68,done:=70,wait:=72,relMerge:=101,disable:=102,enable:=103,inBubble:=104,associate:=105,fatal:=106,uOr:=107,uAdd:=108,raceRead:=109,uLoad:=110,uStore:=111,disassociate:=112,semrelease:=113,acquire:=116,isAssociated:=117,uCas:=118,raceWrite:=119,semacquire:=120,orU64:=150,addU64:=151,loadU64:=152,storeU64:=153,casU64:=156,tWgP:=143,tUP:=145,tAssoc:=146,tWg:=105,tAU:=103,tU64:=101,tUint:=150,tU32:=60,tPU32:=151,tPAU:=185,tPU64:=187,tNoCopy:=59,tANoCopy:=99,tAlign64:=100}
theorem xF:Go.Conc.Lib.WgLib prog wgL:=
 ⟨func68,func70,func72,func101,func102,func103,func104,func105,func106,func107,func108,func109,func110,func111,func112,func113,func116,func117,func118,func119,func120,func150,func151,func152,func153,func156,underlying143,runUnderlying143,sizeOf143,isAgg143,zeroValue143,underlying145,runUnderlying145,sizeOf145,isAgg145,zeroValue145,underlying146,runUnderlying146,sizeOf146,isAgg146,zeroValue146,underlying105,runUnderlying105,sizeOf105,isAgg105,zeroValue105,underlying103,runUnderlying103,sizeOf103,isAgg103,zeroValue103,underlying101,runUnderlying101,sizeOf101,isAgg101,zeroValue101,underlying150,runUnderlying150,sizeOf150,isAgg150,zeroValue150,underlying60,runUnderlying60,sizeOf60,isAgg60,zeroValue60,underlying151,runUnderlying151,sizeOf151,isAgg151,zeroValue151,underlying185,runUnderlying185,sizeOf185,isAgg185,zeroValue185,underlying187,runUnderlying187,sizeOf187,isAgg187,zeroValue187,underlying0,runUnderlying0,sizeOf0,isAgg0,zeroValue0,underlying3,runUnderlying3,sizeOf3,isAgg3,zeroValue3,underlying4,runUnderlying4,sizeOf4,isAgg4,zeroValue4,underlying9,runUnderlying9,sizeOf9,isAgg9,zeroValue9,underlying20,runUnderlying20,sizeOf20,isAgg20,zeroValue20,underlying21,runUnderlying21,sizeOf21,isAgg21,zeroValue21,(by kernel_rfl),(by kernel_rfl)⟩
end
section
open Go.Conc Go.RowKit Go.Conc.Lib Go.ConcR.Gen
open Go.ConcR (KK WgAt stA smA DC0)
section
variable {P:Program}{main:Bool}{s:zW}{m:Nat}{b:Frame}{a:Act}{k:List Item}{cs:List Frame}{ops:Array Oper}{i:Nat}{rest:List Nat}{o:Oper}
theorem Way.ctl{g g':Goroutine}(hs:g.status=.running)(h:∀w,stepG P main g w=.go g' w #[])(H:Way P main s m g'):Way P main s (m+1) g:=
 .inr ⟨hs,g',#[],λw _=>h w,λe he=>by simp at he,H⟩
theorem Way.here(h:qlf P main s){fr:Frame}{cs:List Frame}(h1:fr=s.fr)(h2:cs=s.cs):Way P main s (m+1) (G fr cs):=by
 subst h1;subst h2;exact .inl ⟨rfl,h⟩
theorem Way.value(v:Value)(ho:ops[i]?=some o)(hw:Region.wanted o (yielded ops a.tmps)=true)(hk:b.kind≠.early)
   (hr:∀w,(execOp a.eval o).run P w=.ok (.value v) w) (he:∀w,(execOp a.eval o).events P w #[]=#[])
   (H:Way P main s m (G (b.at (a.put o.dst v) (.inRegion ops rest::k)) cs)):Way P main s (m+1) (G (b.at a (.inRegion ops (i::rest)::k)) cs):=
 .ctl rfl (λw=>by rw[stepG_value ho hw hk (hr w)];unfold listed;rw[he w,seen_none]) H
theorem Way.load{ad:Addr}{v:Value}(hm:(ad,v)∈s.L)(ho:ops[i]?=some o)(hw:Region.wanted o (yielded ops a.tmps)=true)(hk:b.kind≠.early)
   (hr:∀w,w.cell? ad=some v->(execOp a.eval o).run P w=.ok (.value v) w) (he:∀w,w.cell? ad=some v->(execOp a.eval o).events P w #[]=#[⟨.cell ad,false,false⟩])
   (H:Way P main s m (G (b.at (a.put o.dst v) (.inRegion ops rest::k)) cs)):Way P main s (m+1) (G (b.at a (.inRegion ops (i::rest)::k)) cs):=
 .inr ⟨rfl,_,seen P b.fn #[⟨.cell ad,false,false⟩],λw hL=>by rw[stepG_value ho hw hk (hr w (hL _ hm))];unfold listed;rw[he w (hL _ hm)],λe he=>by
  have:=mem_seen he;rw[Array.mem_singleton]at this;subst this;exact⟨rfl,rfl,_,hm,rfl⟩,H⟩
theorem qwj{s:zW}(hfr:s.fr=b.at a (.inRegion ops (i::rest)::k))(ho:ops[i]?=some o)(hw:Region.wanted o (yielded ops a.tmps)=true)(hk:b.kind≠.early)
   (hr:∀w,(execOp a.eval o).run P w=.ok (.comm #[rcase s.c s.z] true (.recv s.ok)) w) (he:∀w,(execOp a.eval o).events P w #[]=#[]):qlf P main s:=
 ⟨#[],λw _=>by rw[hfr,stepG_comm ho hw hk (hr w)];unfold listed;rw[he w,seen_none],λe he=>by simp at he⟩
end
def bot(P:Program):Frame:={(default:Frame)with fn:=P.funcs.size,defers:=[],mode:=.panicking [goexitEntry]}
noncomputable def q4i:Code:=Tryz.f69.body.getD .skip
def qeM(wg cb bx fb ab:Nat):Array Value:=#[.pointer (some ⟨wg,0,none⟩),.pointer (some ⟨cb,0,none⟩),.pointer (some ⟨bx,0,none⟩),.pointer (some ⟨fb,0,none⟩),.pointer (some ⟨ab,0,none⟩)]
def q94(wg cb bx fb ab:Nat):Deferred:={target:=.fn (.func 69) (qeM wg cb bx fb ab),args:=#[]}
theorem q95(wg cb bx fb ab:Nat)(w:World):stepG prog false (born prog (q94 wg cb bx fb ab)) w =
   .go (G ((baseD 69).at ⟨#[.pointer (some ⟨wg,0,none⟩),.pointer (some ⟨cb,0,none⟩),.pointer (some ⟨bx,0,none⟩),.pointer (some ⟨fb,0,none⟩),.pointer (some ⟨ab,0,none⟩),undef,undef,undef,undef,undef,undef,undef,undef,undef,undef,undef,undef,undef],[]⟩ [.code q4i]) [bot prog]) w #[]:=by
 simp[born,q94,qeM,stepG,unwind,callDeferred,invoke,callFunc,func69,f69,seen,GStep.after,G,Frame.enter,Frame.at,baseD,bot,q4i]
noncomputable def qtx:Code:=match q4i with | .seq _ (.seq _ (.block _ (.loop c)))=>c|_=>.skip
noncomputable def qoh:Array Oper:=match qtx with | .seq (.region _ ops _) _=>ops|_=>#[]
noncomputable def qjy:Code:=match qtx with | .seq _ c=>c|_=>.skip
def qsy(wg cb bx fb ab ch:Nat)(x5 x6 x7 x8 x10 x11 x12 x13 x14 x15 x16 x17:Value):Array Value:=
 #[.pointer (some ⟨wg,0,none⟩),.pointer (some ⟨cb,0,none⟩),.pointer (some ⟨bx,0,none⟩),.pointer (some ⟨fb,0,none⟩),.pointer (some ⟨ab,0,none⟩),x5,x6,x7,x8,.chan (some ch),x10,x11,x12,x13,x14,x15,x16,x17]
noncomputable def qjz(L:List (Addr×Value))(wg cb bx fb ab ch:Nat)(x5 x6 x7 x8 x10 x11 x12 x13 x14 x15 x16 x17:Value):zW where
 L:=L
 fr:=(baseD 69).at ⟨qsy wg cb bx fb ab ch x5 x6 x7 x8 x10 x11 x12 x13 x14 x15 x16 x17,[dcall 70 #[.pointer (some ⟨wg,0,none⟩)]]⟩ [.inRegion qoh [0,1],.code qjy,.inLoop qtx,.inBlock 0]
 cs:=[bot prog]
 c:=ch
 z:=.int .i64 0
 ok:=true
section
variable {L:List (Addr×Value)}{wg cb bx fb ab ch:Nat}{x5 x6 x7 x8 x10 x11 x12 x13 x14 x15 x16 x17:Value}{main:Bool}
theorem qrx:qlf prog main (qjz L wg cb bx fb ab ch x5 x6 x7 x8 x10 x11 x12 x13 x14 x15 x16 x17):=by
 unfold qjz;simp only[qsy,qoh,qtx,q4i,f69,Option.getD_some];refine qwj (b:=baseD 69) (i:=0) rfl rfl rfl (by decide) (λw=>?_) (λw=>?_)
 . simp[go_sem,rcase]
 . simp[go_sem]
end
def qil(cb bx row ch k N:Nat):List (Addr×Value):=[(⟨cb,0,none⟩,.slice (some ⟨row,0,none⟩) N N),(⟨bx,0,none⟩,.int .i64 k),(⟨row,k,none⟩,.chan (some ch))]
section
variable {L:List (Addr×Value)}{wg cb bx fb ab ch row k N:Nat}{x5 x6 x7 x8 x10 x11 x12 x13 x14 x15 x16 x17:Value}
theorem qkX(hk:k<N):Way prog false (qjz (qil cb bx row ch k N) wg cb bx fb ab ch undef (.slice (some ⟨row,0,none⟩) N N) (.int .i64 k) (.pointer (some ⟨row,k,none⟩)) undef undef undef undef undef undef undef undef) 20
   (born prog (q94 wg cb bx fb ab)):=by
 have hk0:(0:Int)<=(k:Int):=by omega
 have hk1:(k:Int)<(N:Int):=by omega
 refine Way.ctl rfl (q95 wg cb bx fb ab) ?_;simp only[q4i,f69,Option.getD_some];refine Way.ctl rfl (λ_=>stepG_seq) ?_;refine Way.ctl rfl (λ_=>stepG_region) ?_;simp only[List.size_toArray,length_cons,length_nil,Nat.zero_add,range,range.loop];refine Way.ctl rfl (λ_=>stepG_defer rfl rfl (by decide) rfl) ?_;walk_nrm;refine Way.ctl rfl (λ_=>stepG_region_end) ?_;refine Way.ctl rfl (λ_=>stepG_seq) ?_;refine Way.ctl rfl (λ_=>stepG_region) ?_;simp only[List.size_toArray,length_cons,length_nil,Nat.reduceAdd,Nat.zero_add,range,range.loop];refine Way.load (ad:=⟨cb,0,none⟩) (v:=.slice (some ⟨row,0,none⟩) N N) (by simp[qjz,qil]) rfl rfl (by decide) (λw h=>by go_simp) (λw h=>by simp[go_sem, *]) ?_;walk_nrm;refine Way.load (ad:=⟨bx,0,none⟩) (v:=.int .i64 k) (by simp[qjz,qil]) rfl rfl (by decide) (λw h=>by go_simp) (λw h=>by simp[go_sem, *]) ?_;walk_nrm;refine Way.value (.pointer (some ⟨row,k,none⟩)) rfl rfl (by decide) (λw=>by go_simp) (λw=>by simp[go_sem, *]) ?_;walk_nrm;refine Way.load (ad:=⟨row,k,none⟩) (v:=.chan (some ch)) (by simp[qjz,qil]) rfl rfl (by decide) (λw h=>by go_simp) (λw h=>by simp[go_sem, *]) ?_;walk_nrm;refine Way.ctl rfl (λ_=>stepG_region_end) ?_;refine Way.ctl rfl (λ_=>stepG_block) ?_;refine Way.ctl rfl (λ_=>stepG_loop) ?_;refine Way.ctl rfl (λ_=>stepG_seq) ?_;refine Way.ctl rfl (λ_=>stepG_region) ?_;simp only[List.size_toArray,length_cons,length_nil,Nat.reduceAdd,Nat.zero_add,range,range.loop];exact Way.here qrx rfl rfl
noncomputable def q96:Array Oper:=match qjy with | .seq _ (.block _ (.seq _ (.seq _ (.region _ ops _))))=>ops|_=>#[]
noncomputable def qhD(wg cb bx fb ab ch:Nat)(x5 x6 x7 x8 x10 x11 x12 x13 x14 x15 x16 x17:Value):Frame:=
 (baseD 69).at ⟨qsy wg cb bx fb ab ch x5 x6 x7 x8 x10 x11 x12 x13 x14 x15 x16 x17,[dcall 70 #[.pointer (some ⟨wg,0,none⟩)]]⟩ [.inRegion q96 [2],.inBlock 1,.inLoop qtx,.inBlock 0]
theorem q97:Way prog false (qjz L wg cb bx fb ab ch x5 x6 x7 x8 x10 x11 x12 x13 x14 x15 x16 x17) 8 (Go.Conc.served (G (qhD wg cb bx fb ab ch x5 x6 x7 x8 x10 x11 x12 x13 x14 x15 x16 x17) [bot prog]) undef):=by
 have e:Go.Conc.served (G (qhD wg cb bx fb ab ch x5 x6 x7 x8 x10 x11 x12 x13 x14 x15 x16 x17) [bot prog]) undef=G ((baseD 69).at ⟨qsy wg cb bx fb ab ch x5 x6 x7 x8 x10 x11 x12 x13 x14 x15 x16 x17,[dcall 70 #[.pointer (some ⟨wg,0,none⟩)]]⟩ [.inRegion q96 [],.inBlock 1,.inLoop qtx,.inBlock 0]) [bot prog]:=rfl;rw[e];refine Way.ctl rfl (λ_=>stepG_region_end) ?_;refine Way.ctl rfl (λ_=>stepG_inBlock) ?_;refine Way.ctl rfl (λ_=>stepG_inLoop) ?_;have e2:qtx=.seq (.region 2 qoh false) qjy:=rfl;rw[e2];refine Way.ctl rfl (λ_=>stepG_seq) ?_;refine Way.ctl rfl (λ_=>stepG_region) ?_;exact Way.here qrx rfl rfl
end
end
section
open Go.Conc Go.RowKit Go.Conc.Lib Go.ConcR.Gen Go.ConcN.Gen
open Go.ConcR (KK WgAt stA smA DC0 Payload)
open Go.ConcN (WgLive Has RW DWs AtR0)
theorem q7k(T:Array Value):QuitsD prog 2 0 (G {(baseD 69).at ⟨T,[]⟩ []with mode:=.returning} [bot prog]):=by
 refine QuitsD.ctl (g':=G (bot prog) []) rfl (λw=>?_) ?_
 . simp[G,stepG,unwind,doReturn,results,Frame.at,baseD,bot,func69,f69,seen,GStep.after,goexitEntry]
 refine QuitsD.ctl (g':={G (bot prog) []with status:=.finished}) rfl (λw=>?_) ⟨rfl,rfl⟩;simp[G,stepG,unwind,bot,goexitEntry,Frame.catches];rfl
section
variable [Payload]{L:List (Addr×Value)}{wg cb bx fb ab ch:Nat}{x5 x6 x7 x8 x10 x11 x12 x13 x14 x15 x16 x17 val:Value}
theorem q4j{w:World}(hw:WgLive wgL.tWg wg w)(hb:w.cell? ⟨bx,0,none⟩=some val) :
   q8g prog wgL.tWg wg ⟨qjz L wg cb bx fb ab ch x5 x6 x7 x8 x10 x11 x12 x13 x14 x15 x16 x17,bx,val⟩ (Go.Conc.served (G (qjz L wg cb bx fb ab ch x5 x6 x7 x8 x10 x11 x12 x13 x14 x15 x16 x17).fr (qjz L wg cb bx fb ab ch x5 x6 x7 x8 x10 x11 x12 x13 x14 x15 x16 x17).cs) (recvd true (.int .i64 0) false)) w:=by
 have e:Go.Conc.served (G (qjz L wg cb bx fb ab ch x5 x6 x7 x8 x10 x11 x12 x13 x14 x15 x16 x17).fr (qjz L wg cb bx fb ab ch x5 x6 x7 x8 x10 x11 x12 x13 x14 x15 x16 x17).cs) (recvd true (.int .i64 0) false) =
     G ((baseD 69).at ⟨qsy wg cb bx fb ab ch x5 x6 x7 x8 (.tuple #[.int .i64 0,.bool false]) x11 x12 x13 x14 x15 x16 x17,[dcall 70 #[.pointer (some ⟨wg,0,none⟩)]]⟩ [.inRegion qoh [1],.code qjy,.inLoop qtx,.inBlock 0]) [bot prog]:=rfl
 rw[e];have hK:WgLive wgL.tWg wg w/\Has bx (1-1) val w:=⟨hw,hb⟩;refine⟨60,?_⟩;show Goes prog false (RW wgL.tWg wg bx 1 0 (1-1)) (DWs wg qo6 qo6 bx 1 1) (AtR0 prog wgL.tWg wg bx 1 0 1 val) _ _ w;simp only[qsy,qoh,qjy,qtx,q4i,f69,Option.getD_some]
 u_op kn_rely hK
 u_c stepG_region_end kn_rely hK
 u_c stepG_seq kn_rely hK
 u_cond false kn_rely hK
 u_exit kn_rely hK
 u_c stepG_end kn_rely hK
 u_in kn_rely hK
 rw[stepG_unwind_enter rfl func70 (nm_done wgL) rfl];simp only[goes_go];refine⟨by u_nil,?_⟩;walk_nrmf f70;have hA:=λ{c:Frame} {cs:List Frame} {qt:Nat}=>doneN (L:=wgL) (P:=prog) xF (Own:=qo6) (Rd:=qo6) (Wg:=wg) (C:=bx) (n:=1) (Low:=0) (k:=1) (val:=val) (c:=c) (cs:=cs) (qt:=qt);simp only[body_done,doneFn,Option.getD_some]at hA;exact Go.ConcM.goes_le (by omega) (hA rfl (q7k _) _ hK)
end
end
section
open Go.Conc Go.RowKit Go.Conc.Lib Go.ConcR.Gen Go.Conc.Locks
open Go.ConcN (upd upd_ne upd_same)
section
variable {P:Program}{Post:Value->World->Prop}{Sh:Nat->Prop}{Fz:Loc->Prop}{T:Nat->qA}{n h:Nat}{g:Goroutine}{w:World}
theorem qyc(hs:g.status=.running){k κ:Nat}{s sh:zW}(hk:k≠h)(hkn:k<n)(hT:T k=.seat s){v z:Value}(hc:w.heap[s.c]?=some (.chan 0 #[] false κ κ false))
   (step:∀w,stepG P (h==0) g w=.comm g #[scase s.c v z] true .send w #[])
   {mh:Nat} (qaP:Way P (h==0) sh mh (Go.Conc.served g undef)) (hL:holds sh.L w) (hch:∃κ',w.heap[sh.c]?=some (.chan 0 #[] false κ' κ' false)) (hd:sh.c≠s.c) (hdo:∀i s',i≠h->i≠k->i<n->T i=.seat s'->s'.c≠sh.c) (hfz:∀l,StL sh.L l->Fz l/\¬qle Sh l)
   (next:qc P Post Sh Fz (upd T h (.seat sh)) n k 0 (Go.Conc.served (G s.fr s.cs) (recvd s.ok v true)) (w.setChan s.c 0 #[] false (κ+1) (κ+1) false)):qc P Post Sh Fz T n h 0 g w:=
 λd=>q8d (v:=v) (z:=z) hs hk hkn hT (κ:=κ) hc ⟨#[],λe=>step _,λe he=>by simp at he,rfl⟩ qaP hL hch hd hdo hfz (λe=>next e)
theorem qyd{main:Bool}{b:Frame}{a:Act}{k:List Item}{cs:List Frame}{ops:Array Oper}{i:Nat}{rest:List Nat}{o:Oper}{c:Nat}{v z:Value}(ho:ops[i]?=some o)(hw:Region.wanted o (yielded ops a.tmps)=true)(hk:b.kind≠.early)
   (hr:∀w,(execOp a.eval o).run P w=.ok (.comm #[scase c v z] true .send) w) (he:∀w,(execOp a.eval o).events P w #[]=#[]) :
   ∀w,stepG P main (G (b.at a (.inRegion ops (i::rest)::k)) cs) w=.comm (G (b.at a (.inRegion ops (i::rest)::k)) cs) #[scase c v z] true .send w #[]:=λw=>by
 rw[stepG_comm ho hw hk (hr w)];unfold listed;rw[he w,seen_none]
end
structure qn(C:Pen)(X:Nat->Prop)(w w':World):Prop where
 block:∀r,¬X r->(¬C.B r∨C.Z r∨C.Ch r)->w'.heap[r]?=w.heap[r]?
 size:w.heap.size<=w'.heap.size
 os:w'.os=w.os
 output:w'.output=w.output
 tape:w'.tape=w.tape
theorem Held.but{C:Pen}{X:Nat->Prop}{w w':World}(h:Held C w w'):qn C X w w':=⟨λr _ hr=>h.block r hr,h.size,h.os,h.output,h.tape⟩
theorem qn.refl(C:Pen)(X:Nat->Prop)(w:World):qn C X w w:=(Held.refl C w).but
theorem qn.trans{C:Pen}{X:Nat->Prop}{a b c:World}(h:qn C X a b)(k:qn C X b c):qn C X a c:=
 ⟨λr hr hr'=>(k.block r hr hr').trans (h.block r hr hr'),Nat.le_trans h.size k.size,k.os.trans h.os,k.output.trans h.output,k.tape.trans h.tape⟩
theorem qn.mono{C:Pen}{X Y:Nat->Prop}{a b:World}(h:qn C X a b)(k:∀r,X r->Y r):qn C Y a b:=⟨λr hr hr'=>h.block r (λx=>hr (k r x)) hr',h.size,h.os,h.output,h.tape⟩
theorem qn.chan{C:Pen}{X:Nat->Prop}{w:World}{c:Nat}(hX:X c)(k:Nat)(b:Array Value)(cl:Bool)(m n:Nat)(t:Bool):qn C X w (w.setChan c k b cl m n t):=
 ⟨λr hr _=>(by rw[qci,if_neg (λe=>by subst e;exact hr hX)]),by simp[World.setChan],rfl,rfl,rfl⟩
theorem qn.new{C:Pen}{X:Nat->Prop}{w:World}(hX:X w.heap.size)(o:Obj):qn C X w (w.alloc o):=
 ⟨λr hr _=>qcr w o (λe=>by subst e;exact hr hX),by simp,rfl,rfl,rfl⟩
theorem qn.set{C:Pen}{X:Nat->Prop}{w:World}{a:Addr}(hX:X a.block)(v:Value):qn C X w (w.setCell a v):=
 ⟨λr hr _=>qdl w a v r (λe=>by subst e;exact hr hX),by simp,rfl,rfl,rfl⟩
theorem Held.cell{C:Pen}{w w':World}(h:Held C w w'){a:Addr}(ha:C.Z a.block){v:Value}(hv:w.cell? a=some v):w'.cell? a=some v:=by
 unfold World.cell? at hv |-;rw[h.block _ (.inr (.inl ha))];exact hv
theorem q98{w:World}{c k:Nat}{b:Array Value}{cl:Bool}{m n:Nat}{t:Bool}(h:w.heap[c]?=some (.chan k b cl m n t)):c<w.heap.size:=(Array.getElem?_eq_some_iff.1 h).1
def kI(L:List (Addr×Value))(wg cb bx fb ab ch:Nat)(s:zW):Prop:=∃x5 x6 x7 x8 x10 x11 x12 x13 x14 x15 x16 x17,s=qjz L wg cb bx fb ab ch x5 x6 x7 x8 x10 x11 x12 x13 x14 x15 x16 x17
section
variable {gr:Grd}{M:Mks gr.base}{S:List String}{Post:Value->World->Prop}{Sh:Nat->Prop}{Fz:Loc->Prop}{T:Nat->qA}{n h:Nat}{w z:World}
theorem q7m(H:zw (gr.base.pen M) S)(zF:qf4 (gr.base.pen M) S (gr.X 71) qz)(hb:Both (gr.base.pen M) w z)(O:Outside (gr.base.pen M) Sh Fz T n h)(hL:jv T n h w)
   {fl:Nat} {j call:Int} (hA:gr.A ⟨fl,0,none⟩) (hc0:z.cell? ⟨fl,0,none⟩=some (.int .i32 0)) {R:World->Prop} (hR:∀x y,x.heap=y.heap->R x->R y) (hR0:∀x,R x->x.cell? ⟨fl,0,none⟩=some (.int .i32 1))
   (piece:∀d t,qz.wp prog (λe _ x=>e=.normal/\R x) ⟨qgx fl j,[]⟩ (re ((z.setCell ⟨fl,0,none⟩ (.int .i32 1)).at d) t 0))
   {L:List (Addr×Value)} {wg cb bx fb ab ch ac:Nat} {s sh:zW} (hs:kI L wg cb bx fb ab ch s) (h0:h≠0) (hn:0<n) (hT0:T 0=.seat sh) (hsh:sh.c=ac)
   (hfb:w.cell? ⟨fb,0,none⟩=some (.pointer (some ⟨fl,0,none⟩))) (hbx:w.cell? ⟨bx,0,none⟩=some (.int .i64 j)) (hab:w.cell? ⟨ab,0,none⟩=some (.chan (some ac)))
   (zab:M.Z ab) (nfb:¬Sh fb) (nbx:¬Sh bx) (nab:¬Sh ab) {κ:Nat} (hac:w.heap[ac]?=some (.chan 0 #[] false κ κ false)) (cac:M.Ch ac) (pac:¬M.Pt ac) (bac:gr.A ⟨ac,0,none⟩)
   (hown:holds L w) (hch:∃κ',w.heap[ch]?=some (.chan 0 #[] false κ' κ' false)) (cch:M.Ch ch) (hne:ch≠ac) (hdo:∀i s',i≠h->i≠0->i<n->T i=.seat s'->s'.c≠ch) (hfz:∀l,StL L l->Fz l/\¬qle Sh l) (hLZ:∀x,x∈L->M.Z x.1.block)
   (next:∀s' w' z',kI L wg cb bx fb ab ch s'->R z'->Both (gr.base.pen M) w' ((z'.setCell ⟨fl,0,none⟩ (.int .i32 0)).setChan ac 0 #[] false (κ+1) (κ+1) false)->qn (gr.base.pen M) (λr=>r=ac) w w' ->
    w'.heap[ac]?=some (.chan 0 #[] false (κ+1) (κ+1) false)->(z'.setCell ⟨fl,0,none⟩ (.int .i32 0)).heap[ac]?=some (.chan 0 #[] false κ κ false)->qc prog Post Sh Fz (upd T h (.seat s')) n 0 0 (Go.Conc.served (G sh.fr sh.cs) (recvd sh.ok (.int .i64 call) true)) w') :
   qc prog Post Sh Fz T n h 0 (Go.Conc.served (G s.fr s.cs) (recvd s.ok (.int .i64 call) true)) w:=by
 obtain⟨x5,x6,x7,x8,x10,x11,x12,x13,x14,x15,x16,x17,rfl⟩:=hs
 have e:Go.Conc.served (G (qjz L wg cb bx fb ab ch x5 x6 x7 x8 x10 x11 x12 x13 x14 x15 x16 x17).fr (qjz L wg cb bx fb ab ch x5 x6 x7 x8 x10 x11 x12 x13 x14 x15 x16 x17).cs) (recvd (qjz L wg cb bx fb ab ch x5 x6 x7 x8 x10 x11 x12 x13 x14 x15 x16 x17).ok (.int .i64 call) true) =
     G ((baseD 69).at ⟨qsy wg cb bx fb ab ch x5 x6 x7 x8 (.tuple #[.int .i64 call,.bool true]) x11 x12 x13 x14 x15 x16 x17,[dcall 70 #[.pointer (some ⟨wg,0,none⟩)]]⟩ [.inRegion qoh [1],.code qjy,.inLoop qtx,.inBlock 0]) [bot prog]:=rfl
 rw[e];clear e;generalize hl:qtx=lp;simp only[qsy,qoh,qjy,qtx,q4i,f69,Option.getD_some];refine qa2 (.bool true) rfl rfl (by decide) (λw=>by go_simp) (λw=>by simp[go_sem]) ?_;walk_nrm;refine qan ?_;refine qao ?_;refine qiw (t:=true) rfl ?_;simp only[if_true];refine qra ?_;refine qgb ?_;refine qao ?_;refine qau ?_;simp only[List.size_toArray,length_cons,length_nil,Nat.reduceAdd,Nat.zero_add,range,range.loop];refine qa2 (.int .i64 call) rfl rfl (by decide) (λw=>by go_simp) (λw=>by simp[go_sem]) ?_;walk_nrm;refine qa2 (.int .i64 call) rfl rfl (by decide) (λw=>by go_simp) (λw=>by simp[go_sem]) ?_;walk_nrm;refine qan ?_;refine qao ?_;refine qau ?_;simp only[List.size_toArray,length_cons,length_nil,Nat.reduceAdd,Nat.zero_add,range,range.loop];refine qew hfb nfb rfl rfl (by decide) (λw h=>by go_simp) (λw h=>by simp[go_sem, *]) ?_;walk_nrm;refine qew hbx nbx rfl rfl (by decide) (λw h=>by go_simp) (λw h=>by simp[go_sem, *]) ?_;walk_nrm;refine qho (c:=qim) rfl rfl (by decide) rfl func71 (by kernel_rfl) rfl ?_;walk_nrmf f71;refine q7l H zF hb O hL hA hc0 hR hR0 piece (λw1 z1 hb1 hh1 hL1 hR1=>?_);walk_nrm;refine qan ?_;refine qau ?_;simp only[List.size_toArray,length_cons,length_nil,Nat.reduceAdd,Nat.zero_add,range,range.loop];have qkY:=hh1.cell (a:=⟨ab,0,none⟩) zab hab;refine qew qkY nab rfl rfl (by decide) (λw h=>by go_simp) (λw h=>by simp[go_sem, *]) ?_;walk_nrm;refine qa2 (.int .i64 call) rfl rfl (by decide) (λw=>by go_simp) (λw=>by simp[go_sem]) ?_;walk_nrm;subst hl;have qeN:w1.heap[ac]?=some (.chan 0 #[] false κ κ false):=(hh1.block _ (.inr (.inr cac))).trans hac;obtain⟨κ',hch⟩:=hch;have qkZ:w1.heap[ch]?=some (.chan 0 #[] false κ' κ' false):=(hh1.block _ (.inr (.inr cch))).trans hch;have hown1:holds L w1:=λx hx=>hh1.cell (hLZ x hx) (hown x hx);subst hsh
 refine qyc (k:=0) (s:=sh) (sh:=qjz L wg cb bx fb ab ch (.int .i64 call) x6 x7 x8 (.tuple #[.int .i64 call,.bool true]) (.bool true) (.int .i64 call) (.pointer (some ⟨fl,0,none⟩)) (.int .i64 j) (.tuple #[]) (.chan (some sh.c)) (.int .i64 call)) (mh:=8) (v:=.int .i64 call) rfl h0.symm hn hT0 qeN
  (qyd rfl rfl (by decide) (λw=>by simp[go_sem,scase];rfl) (λw=>by simp[go_sem])) ?_ hown1 ⟨κ',qkZ⟩ hne hdo hfz ?_
 . have:(h==0)=false:=by simpa using h0
   rw[this];exact q97
 . refine next _ _ z1 ⟨_,_,_,_,_,_,_,_,_,_,_,_,rfl⟩ hR1 (hb1.setChan pac 0 #[] false (κ+1) (κ+1) false) (hh1.but.trans (qn.chan (X:=λr=>r=sh.c) rfl _ _ _ _ _ _)) ?_ ((hb1.yl ⟨_,bac,rfl⟩ pac).trans qeN);rw[qci,if_pos rfl,if_pos (q98 qeN)]
end
end
section
open Go.Conc Go.RowKit Go.Conc.Lib Go.ConcR.Gen
open Go.ConcR (KK WgAt stA smA Payload)
open Go.ConcN (upd upd_ne upd_same WgLive PayAt)
def qqr(m0 j N:Nat):List (Addr×Value):=qil (m0+3) (m0+6+2*j) (m0+2) (m0+7+2*j) j N
def xG(m0 j N:Nat)(s:zW):Prop:=kI (qqr m0 j N) (m0+1) (m0+3) (m0+6+2*j) m0 (m0+5) (m0+7+2*j) s
structure zD(m0 N K fl:Nat)(w:World):Prop where
 fb:∃e,w.heap[m0]?=some (.cells #[.pointer (some ⟨fl,0,none⟩)] e)
 wg:WgAt wgL.tWg (m0+1) w ((K:Int)*KK) 0
 row:∃arr,w.heap[m0+2]?=some (.cells arr 107)/\arr.size=N/\∀j,j<K->arr[j]?=some (.chan (some (m0+7+2*j)))
 cb:∃e,w.heap[m0+3]?=some (.cells #[.slice (some ⟨m0+2,0,none⟩) N N] e)
 ac:∃κ,w.heap[m0+4]?=some (.chan 0 #[] false κ κ false)
 ab:∃e,w.heap[m0+5]?=some (.cells #[.chan (some (m0+4))] e)
 bx:∀j,j<K->w.heap[m0+6+2*j]?=some (.cells #[.int .i64 j] 3)
 ch:∀j,j<K->∃κ,w.heap[m0+7+2*j]?=some (.chan 0 #[] false κ κ false)
structure jP{B:Base}(m0 K:Nat)(M:Mks B):Prop where
 z0:M.Z m0
 z1:M.Z (m0+1)
 z2:M.Z (m0+2)
 z3:M.Z (m0+3)
 c4:M.Ch (m0+4)
 z5:M.Z (m0+5)
 zb:∀j,j<K->M.Z (m0+6+2*j)
 cc:∀j,j<K->M.Ch (m0+7+2*j)
 n4:¬M.Pt (m0+4)
 nc:∀j,j<K->¬M.Pt (m0+7+2*j)
structure jQ(m0 N n0 K:Nat)(T:Nat->qA):Prop where
 old:∀i,i≠0->i<n0->T i=.left
 work:∀j,j<K->∃s,xG m0 j N s/\T (n0+j)=.seat s
 out:∀i,n0+K<=i->T i=.left
def qcx(m0:Nat)(Sh:Nat->Prop)(r:Nat):Prop:=Sh r∨r=m0+1
def qdc(m0 K:Nat)(Fz:Loc->Prop)(l:Loc):Prop:=Fz l∨l=.cell ⟨m0+3,0,none⟩∨l=.cell ⟨m0+5,0,none⟩∨∃j,j<K/\(l=.cell ⟨m0+6+2*j,0,none⟩∨l=.cell ⟨m0+2,j,none⟩)
structure zx(C:Pen)(Sh:Nat->Prop)(Fz:Loc->Prop):Prop where
 xE:∀r,Sh r->¬C.B r∨C.Z r
 still:∀l,Fz l->∃a:Addr,l=.cell a/\(¬C.B a.block∨C.Z a.block)
theorem zx.le{B:Base}{M M':Mks B}{Sh:Nat->Prop}{Fz:Loc->Prop}(O:zx (B.pen M) Sh Fz)(k:M.Le M'):zx (B.pen M') Sh Fz:=
 ⟨λr hr=>(O.xE r hr).imp id (k.z _),λl hl=>by
  obtain⟨a,e,h1⟩:=O.still l hl;exact⟨a,e,h1.imp id (k.z _)⟩⟩
theorem zx.lt{B:Base}{M:Mks B}{Sh:Nat->Prop}{Fz:Loc->Prop}(O:zx (B.pen M) Sh Fz):(∀r,Sh r->r<M.N)/\∀a:Addr,Fz (.cell a)->a.block<M.N:=by
 have key:∀r,(¬(B.pen M).B r∨M.Z r)->r<M.N:=λr hr=>by
  rcases hr with hr|hr
  . refine Nat.lt_of_not_le (λhge=>hr ⟨⟨r,0,none⟩,B.fresh _ (Nat.le_trans M.ge hge),rfl⟩)
  . exact M.old r (.inl (M.zp r hr))
 refine⟨λr hr=>key r (O.xE r hr),λa ha=>?_⟩;obtain⟨a',e,h1⟩:=O.still _ ha;cases e;exact key _ h1
section
variable {B:Base}{M:Mks B}{m0 N n0 K fl:Nat}{T:Nat->qA}{Sh:Nat->Prop}{Fz:Loc->Prop}{w w':World}
theorem qfa{s:zW}{j:Nat}(h:xG m0 j N s):s.c=m0+7+2*j/\s.L=qqr m0 j N/\s.cs=[bot prog]/\s.z=.int .i64 0/\s.ok=true:=by
 obtain⟨_,_,_,_,_,_,_,_,_,_,_,_,rfl⟩:=h;exact⟨rfl,rfl,rfl,rfl,rfl⟩
theorem jQ.seat(R:jQ m0 N n0 K T){i:Nat}{s:zW}(h0:i≠0)(hT:T i=.seat s):∃j,j<K/\i=n0+j/\xG m0 j N s:=by
 by_cases h1:i<n0
 . rw[R.old i h0 h1]at hT;cases hT
 . by_cases h2:i<n0+K
   . obtain⟨s',h3,h4⟩:=R.work (i-n0) (by omega);rw[show n0+(i-n0)=i from by omega]at h4;rw[h4]at hT;cases hT;exact⟨i-n0,by omega,by omega,h3⟩
   . rw[R.out i (by omega)]at hT;cases hT
theorem jQ.stw(R:jQ m0 N n0 K T){r:Nat}(h:StW T (n0+K) 0 r):r=m0+2∨r=m0+3∨∃j,j<K/\(r=m0+6+2*j∨r=m0+7+2*j):=by
 obtain⟨i,s,h1,h2,h3,h4⟩:=h;obtain⟨j,hj,rfl,hs⟩:=R.seat h1 h3;obtain⟨e1,e2,_⟩:=qfa hs;rcases h4 with rfl|⟨x,hx,rfl⟩
 . exact .inr (.inr ⟨j,hj,.inr e1⟩)
 . rw[e2]at hx;simp only[qqr,qil,mem_cons,not_mem_nil,or_false]at hx;rcases hx with rfl|rfl|rfl
   . exact .inr (.inl rfl)
   . exact .inr (.inr ⟨j,hj,.inl rfl⟩)
   . exact .inl rfl
theorem zD.yE(C:zD m0 N K fl w){j:Nat}(hj:j<K):holds (qqr m0 j N) w:=by
 intro x hx;simp only[qqr,qil,mem_cons,not_mem_nil,or_false]at hx;rcases hx with rfl|rfl|rfl
 . obtain⟨e,h1⟩:=C.cb;simp[World.cell?,h1]
 . have h1:=C.bx j hj;simp[World.cell?,h1]
 . obtain⟨arr,h1,h2,h3⟩:=C.row;simp[World.cell?,h1,h3 j hj]
theorem zD.hold(C:zD m0 N K fl w)(R:jQ m0 N n0 K T):jv T (n0+K) 0 w:=λi s h1 _ h3=>by
 obtain⟨j,hj,rfl,hs⟩:=R.seat h1 h3;rw[(qfa hs).2.1];exact C.yE hj
theorem jP.out{m0:Nat}(C:jP m0 K M)(R:jQ m0 N n0 K T)(O:zx (B.pen M) Sh Fz):Outside (B.pen M) (qcx m0 Sh) (qdc m0 K Fz) T (n0+K) 0:=by
 refine⟨λi s h1 _ h3=>?_,λr hr=>?_,λl hl=>?_⟩
 . obtain⟨j,hj,rfl,hs⟩:=R.seat h1 h3;obtain⟨e1,e2,_⟩:=qfa hs;refine⟨.inr (e1▸C.cc j hj),λx hx=>.inr ?_⟩;rw[e2]at hx;simp only[qqr,qil,mem_cons,not_mem_nil,or_false]at hx;rcases hx with rfl|rfl|rfl
   . exact C.z3
   . exact C.zb j hj
   . exact C.z2
 . rcases hr with hr|rfl
   . exact O.xE r hr
   . exact .inr C.z1
 . rcases hl with hl|rfl|rfl|⟨j,hj,rfl|rfl⟩
   . exact O.still l hl
   . exact⟨_,rfl,.inr C.z3⟩
   . exact⟨_,rfl,.inr C.z5⟩
   . exact⟨_,rfl,.inr (C.zb j hj)⟩
   . exact⟨_,rfl,.inr C.z2⟩
theorem zD.lt(C:zD m0 N K fl w):m0+5<w.heap.size/\∀j,j<K->m0+7+2*j<w.heap.size:=by
 obtain⟨e,h1⟩:=C.ab;refine⟨(Array.getElem?_eq_some_iff.1 h1).1,λj hj=>?_⟩;obtain⟨κ,h2⟩:=C.ch j hj;exact(Array.getElem?_eq_some_iff.1 h2).1
theorem zD.qhE(C:zD m0 N K fl w)(R:jQ m0 N n0 K T):qdC T (n0+K) 0 w:=λr hr=>by
 obtain⟨h1,h2⟩:=C.lt;rcases R.stw hr with rfl|rfl|⟨j,hj,rfl|rfl⟩
 . omega
 . omega
 . have:=h2 j hj;omega
 . exact h2 j hj
theorem zD.same(C:zD m0 N K fl w)(h:∀r,m0<=r->r<m0+6+2*K->w'.heap[r]?=w.heap[r]?):zD m0 N K fl w':=by
 obtain⟨h1,h2,h3,h4,h5,h6,h7,h8⟩:=C;refine⟨?_,(h (m0+1) (by omega) (by omega)).trans h2,?_,?_,?_,?_,λj hj=>(h _ (by omega) (by omega)).trans (h7 j hj),λj hj=>?_⟩
 . rw[h m0 (by omega) (by omega)];exact h1
 . rw[h (m0+2) (by omega) (by omega)];exact h3
 . rw[h (m0+3) (by omega) (by omega)];exact h4
 . rw[h (m0+4) (by omega) (by omega)];exact h5
 . rw[h (m0+5) (by omega) (by omega)];exact h6
 . rw[h (m0+7+2*j) (by omega) (by omega)];exact h8 j hj
theorem zD.held(C:zD m0 N K fl w)(hM:jP m0 K M){X:Nat->Prop}(hh:qn (B.pen M) X w w')(hX:∀r,X r->r=m0+4∨∃j,j<K/\r=m0+7+2*j)
   (h4:∃κ,w'.heap[m0+4]?=some (.chan 0 #[] false κ κ false)) (hc:∀j,j<K->∃κ,w'.heap[m0+7+2*j]?=some (.chan 0 #[] false κ κ false)):zD m0 N K fl w':=by
 have nX:∀r,r≠m0+4->(∀j,j<K->r≠m0+7+2*j)->¬X r:=λr h1 h2 hx=>by
  rcases hX r hx with e|⟨j,hj,e⟩
  . exact h1 e
  . exact h2 j hj e
 have st:∀r,M.Z r->r≠m0+4->(∀j,j<K->r≠m0+7+2*j)->w'.heap[r]?=w.heap[r]?:=λr hz h1 h2=>hh.block r (nX r h1 h2) (.inr (.inl hz));have e0:=st m0 hM.z0 (by omega) (λj _=>by omega);have e1:=st (m0+1) hM.z1 (by omega) (λj _=>by omega);have e2:=st (m0+2) hM.z2 (by omega) (λj _=>by omega);have e3:=st (m0+3) hM.z3 (by omega) (λj _=>by omega);have e5:=st (m0+5) hM.z5 (by omega) (λj _=>by omega);refine⟨?_,e1.trans C.wg,?_,?_,h4,?_,λj hj=>?_,hc⟩
 . rw[e0];exact C.fb
 . rw[e2];exact C.row
 . rw[e3];exact C.cb
 . rw[e5];exact C.ab
 . rw[st _ (hM.zb j hj) (by omega) (λi _=>by omega)];exact C.bx j hj
theorem jP.le{M':Mks B}{m0:Nat}(C:jP m0 K M)(k:M.Le M')(h4:¬M'.Pt (m0+4))(hn:∀j,j<K->¬M'.Pt (m0+7+2*j)):jP m0 K M':=
 ⟨k.z _ C.z0,k.z _ C.z1,k.z _ C.z2,k.z _ C.z3,k.ch _ C.c4,k.z _ C.z5,λj hj=>k.z _ (C.zb j hj),λj hj=>k.ch _ (C.cc j hj),h4,hn⟩
end
end
section
theorem qj0(T:Array Value)(h:T.size=55):∃v0 v1 v2 v3 v4 v5 v6 v7 v8 v9 v10 v11 v12 v13 v14 v15 v16 v17 v18 v19 v20 v21 v22 v23 v24 v25 v26 v27 v28 v29 v30 v31 v32 v33 v34 v35 v36 v37 v38 v39 v40 v41 v42 v43 v44 v45 v46 v47 v48 v49 v50 v51 v52 v53 v54:Value,T=#[v0,v1,v2,v3,v4,v5,v6,v7,v8,v9,v10,v11,v12,v13,v14,v15,v16,v17,v18,v19,v20,v21,v22,v23,v24,v25,v26,v27,v28,v29,v30,v31,v32,v33,v34,v35,v36,v37,v38,v39,v40,v41,v42,v43,v44,v45,v46,v47,v48,v49,v50,v51,v52,v53,v54]:=by
 obtain⟨l⟩:=T;simp only[List.size_toArray]at h;rcases l with _|⟨v0,l⟩
 . simp at h
 rcases l with _|⟨v1,l⟩
 . simp at h
 rcases l with _|⟨v2,l⟩
 . simp at h
 rcases l with _|⟨v3,l⟩
 . simp at h
 rcases l with _|⟨v4,l⟩
 . simp at h
 rcases l with _|⟨v5,l⟩
 . simp at h
 rcases l with _|⟨v6,l⟩
 . simp at h
 rcases l with _|⟨v7,l⟩
 . simp at h
 rcases l with _|⟨v8,l⟩
 . simp at h
 rcases l with _|⟨v9,l⟩
 . simp at h
 rcases l with _|⟨v10,l⟩
 . simp at h
 rcases l with _|⟨v11,l⟩
 . simp at h
 rcases l with _|⟨v12,l⟩
 . simp at h
 rcases l with _|⟨v13,l⟩
 . simp at h
 rcases l with _|⟨v14,l⟩
 . simp at h
 rcases l with _|⟨v15,l⟩
 . simp at h
 rcases l with _|⟨v16,l⟩
 . simp at h
 rcases l with _|⟨v17,l⟩
 . simp at h
 rcases l with _|⟨v18,l⟩
 . simp at h
 rcases l with _|⟨v19,l⟩
 . simp at h
 rcases l with _|⟨v20,l⟩
 . simp at h
 rcases l with _|⟨v21,l⟩
 . simp at h
 rcases l with _|⟨v22,l⟩
 . simp at h
 rcases l with _|⟨v23,l⟩
 . simp at h
 rcases l with _|⟨v24,l⟩
 . simp at h
 rcases l with _|⟨v25,l⟩
 . simp at h
 rcases l with _|⟨v26,l⟩
 . simp at h
 rcases l with _|⟨v27,l⟩
 . simp at h
 rcases l with _|⟨v28,l⟩
 . simp at h
 rcases l with _|⟨v29,l⟩
 . simp at h
 rcases l with _|⟨v30,l⟩
 . simp at h
 rcases l with _|⟨v31,l⟩
 . simp at h
 rcases l with _|⟨v32,l⟩
 . simp at h
 rcases l with _|⟨v33,l⟩
 . simp at h
 rcases l with _|⟨v34,l⟩
 . simp at h
 rcases l with _|⟨v35,l⟩
 . simp at h
 rcases l with _|⟨v36,l⟩
 . simp at h
 rcases l with _|⟨v37,l⟩
 . simp at h
 rcases l with _|⟨v38,l⟩
 . simp at h
 rcases l with _|⟨v39,l⟩
 . simp at h
 rcases l with _|⟨v40,l⟩
 . simp at h
 rcases l with _|⟨v41,l⟩
 . simp at h
 rcases l with _|⟨v42,l⟩
 . simp at h
 rcases l with _|⟨v43,l⟩
 . simp at h
 rcases l with _|⟨v44,l⟩
 . simp at h
 rcases l with _|⟨v45,l⟩
 . simp at h
 rcases l with _|⟨v46,l⟩
 . simp at h
 rcases l with _|⟨v47,l⟩
 . simp at h
 rcases l with _|⟨v48,l⟩
 . simp at h
 rcases l with _|⟨v49,l⟩
 . simp at h
 rcases l with _|⟨v50,l⟩
 . simp at h
 rcases l with _|⟨v51,l⟩
 . simp at h
 rcases l with _|⟨v52,l⟩
 . simp at h
 rcases l with _|⟨v53,l⟩
 . simp at h
 rcases l with _|⟨v54,l⟩
 . simp at h
 rcases l with _|⟨x,l⟩
 . exact⟨v0,v1,v2,v3,v4,v5,v6,v7,v8,v9,v10,v11,v12,v13,v14,v15,v16,v17,v18,v19,v20,v21,v22,v23,v24,v25,v26,v27,v28,v29,v30,v31,v32,v33,v34,v35,v36,v37,v38,v39,v40,v41,v42,v43,v44,v45,v46,v47,v48,v49,v50,v51,v52,v53,v54,rfl⟩
 . simp at h
structure jM(m0 N fl:Nat)(cs:Value)(T:Array Value):Prop where
 size:T.size=55
 s0:T[0]?=some (.pointer (some ⟨fl,0,none⟩))
 s1:T[1]?=some (.int .i64 N)
 s2:T[2]?=some cs
 s3:T[3]?=some (.pointer (some ⟨m0,0,none⟩))
 s6:T[6]?=some (.pointer (some ⟨m0+1,0,none⟩))
 s7:T[7]?=some (.pointer (some ⟨m0+3,0,none⟩))
 s8:T[8]?=some (.pointer (some ⟨m0+5,0,none⟩))
end
end Go.Proofs.YtacemdoejblgaaaGreatDoor

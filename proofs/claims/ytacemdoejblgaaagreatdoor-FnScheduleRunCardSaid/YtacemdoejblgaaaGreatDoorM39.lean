/- Part 39. Conditions: each statement's. -/
import Derived.Test.YtacemdoejblgaaaGreatDoorM38
import Derived.Conc.HoldsTime
namespace Go.Proofs.YtacemdoejblgaaaGreatDoor
set_option maxHeartbeats 6400000
set_option maxRecDepth 100000
section
open Go.Conc Go.RowKit
structure Old(W:World)(ea:Addr)(g:Nat)(cs:Array Value)(M:Mks (gr2 W.heap.size g ea).base)(w z:World):Prop where
 size:W.heap.size<=w.heap.size
 old:∀ r,r < W.heap.size->w.heap[r]?=W.heap[r]?
 os:w.os=W.os
 output:w.output=W.output
 tape:w.tape=W.tape
 kn:∀ r,r < W.heap.size->((gr2 W.heap.size g ea).base.pen M).B r->pt2 W.heap.size g cs ea r=false->z.heap[r]?=W.heap[r]?
 le:(mk2 W.heap.size g cs ea).Le M
def j8(W:World)(v:Value)(w:World):Prop:=v=.bool true/\W.heap.size<=w.heap.size/\(∀ r,r < W.heap.size->w.heap[r]?=W.heap[r]?)/\w.os=W.os/\w.output=W.output/\w.tape=W.tape
section
variable {W:World}{ea:Addr}{v:Value}{n g o c:Nat}{cs:Array Value}{e:TypeId}{fr:Nat × Nat}
theorem Old.step{M M':Mks (gr2 W.heap.size g ea).base}{w z w' z':World}(h:Old W ea g cs M w z)(hb':Both ((gr2 W.heap.size g ea).base.pen M') w' z')(hle:M.Le M')(hh:ql ((gr2 W.heap.size g ea).base.pen M) (fun r=>w.heap.size<=r) w w')(hz:z.heap.size=w.heap.size)(hg:HG z z') :
   Old W ea g cs M' w' z':=by
 have hkn:∀ r,r < W.heap.size->((gr2 W.heap.size g ea).base.pen M).B r->pt2 W.heap.size g cs ea r=false->z'.heap[r]?=W.heap[r]?:=fun r hr hB hp=>by
   rw [hg.block r (by rw [hz];exact Nat.lt_of_lt_of_le hr h.size)];exact h.kn r hr hB hp
 refine⟨Nat.le_trans h.size hh.size,fun r hr=>?_,hh.os.trans h.os,hh.output.trans h.output,hh.tape.trans h.tape,hkn,h.le.trans hle⟩;have hX:¬ w.heap.size<=r:=by have:=h.size;omega
 by_cases hB:((gr2 W.heap.size g ea).base.pen M).B r
 . cases hp:pt2 W.heap.size g cs ea r with
   | true=>
     rw [hh.block r hX (.inr (.inl (h.le.z r hp)))];exact h.old r hr
   | false=>
     have hn:¬ M'.Pt r:=fun k=>by
       rcases (h.le.trans hle).nw r k with k | k
       . have:pt2 W.heap.size g cs ea r=true:=k;rw [hp] at this;cases this
       . have:W.heap.size<=r:=k;omega
     rw [hb'.rel.same r hB hn];exact hkn r hr hB hp
 . rw [hh.block r hX (.inl hB)];exact h.old r hr
theorem Old.fin{M:Mks (gr2 W.heap.size g ea).base}{w z:World}(h:Old W ea g cs M w z)(d:Nat):j8 W (.bool true) (w.at d):=⟨rfl,h.size,h.old,h.os,h.output,h.tape⟩
structure First(W:World)(g o c:Nat)(cs:Array Value)(w z:World):Prop where
 both:Both ((gr1 W.heap.size g o c).base.pen (mk1 W.heap.size g o c cs)) w z
 held:Held ((gr1 W.heap.size g o c).base.pen (mk1 W.heap.size g o c cs)) W w
 hg:HG (zh (pt1 W.heap.size g cs) (κ1 o c) W) z
theorem qzu(S:Start W ea)(H:qX W v n g o c cs e fr):First W g o c cs W (zh (pt1 W.heap.size g cs) (κ1 o c) W):=⟨q9n S H,Held.refl _ _,HG.refl _⟩
theorem First.step{w z w' z':World}(F:First W g o c cs w z)(hb:Both ((gr1 W.heap.size g o c).base.pen (mk1 W.heap.size g o c cs)) w' z')(hh:Held ((gr1 W.heap.size g o c).base.pen (mk1 W.heap.size g o c cs)) w w')(hg:HG z z'):First W g o c cs w' z':=
 ⟨hb,F.held.trans hh,F.hg.trans hg⟩
theorem First.bytes{w z:World}(F:First W g o c cs w z)(S:Start W ea)(H:qX W v n g o c cs e fr):Bytes z W.heap.size v n:=by
 have hB:=q87 S H;have k:=F.hg.gb;have e:Bytes { zh (pt1 W.heap.size g cs) (κ1 o c) W with heap:=z.heap } W.heap.size v n=Bytes z W.heap.size v n:=rfl;rw [<-e];exact hB.kept k (by rw [j9];exact Nat.le_refl _) (fun g h=>by cases h)
theorem First.size{w z:World}(F:First W g o c cs w z):W.heap.size<=z.heap.size:=by
 have:=F.hg.size;rw [j9] at this;exact this
theorem First.fin{w z:World}(F:First W g o c cs w z)(H:qX W v n g o c cs e fr)(d:Nat):j8 W (.bool true) (w.at d):=
 have k:=qeH H F.both F.held (fun r hr=>F.hg.block r (by rw [j9];exact hr))
 ⟨rfl,F.held.size,k,F.held.os,F.held.output,F.held.tape⟩
theorem First.switch{w1 z1:World}(F:First W g o c cs w1 z1)(S:Start W ea)(H:qX W v n g o c cs e fr):∃ z2,Both ((gr2 W.heap.size g ea).base.pen (mk2 W.heap.size g cs ea)) w1 z2/\Old W ea g cs (mk2 W.heap.size g cs ea) w1 z2/\qp z2 ea /\
   (∀ u l,Ok (gr1 W.heap.size g o c).A (gr1 W.heap.size g o c).F u->RI z1 u l->RI z2 u l)/\(∀ u l,Ok (gr1 W.heap.size g o c).A (gr1 W.heap.size g o c).F u->RN z1 u l->RN z2 u l):=by
 have hz:∀ r,r < W.heap.size->z1.heap[r]?=(zh (pt1 W.heap.size g cs) (κ1 o c) W).heap[r]?:=fun r hr=>F.hg.block r (by rw [j9];exact hr);have hold:=qeH H F.both F.held hz;have hb2:=q9o S H F.both F.held.size hold;have hm:=q8k (ea:=ea) H F.both hz;have hE:=q63 (cs:=cs) (g:=g) S hold;have hkn:∀ r,r < W.heap.size->pt2 W.heap.size g cs ea r=false->(zh (pt2 W.heap.size g cs ea) (fun _=>0) w1).heap[r]?=W.heap[r]?:=fun r hr hp=>(qh0 hp).trans (hold r hr);refine⟨_,hb2,⟨F.held.size,hold,F.held.os,F.held.output,F.held.tape,fun r hr _ hp=>hkn r hr hp,Mks.Le.refl _⟩,hE,fun u l hu h=>qzr hm hu h,fun u l hu h=>q8i hm (fun r j i hA=>?_) (fun a u hA hu=>(F.both.cell hA hu).2) hu h⟩;exact(gr1 W.heap.size g o c).up ⟨r,j,none⟩ ⟨r,j+i,none⟩ hA rfl (Nat.le_add_right _ _)
end
end
section
open Go.ChangeShapes Go.WideShapes Go.ChangeAt Go.RowKit Go.Deep Go.Conc Go.ConcM
theorem qer{H:Type}{enc:TypeId × Value->H}{a:Assume}{C:Checked}{os:Os}{f:FuncId}{fn:Func}{s:ChangeSpec}{F:Stop.Interp}{conds:List PathCond}{apart fresh handsOn:Bool}{X:World->Array Value->Prop}
   (hX:∀ (w w':World) (args:Array Value),w.heap=w'.heap->X w args->X w' args)
   (own:ownKnob C.prog.godebug=none) (started:os.Started) (hfn:C.prog.funcs[f]?=some fn)
   (witness:∃ (w:World) (tape:Tape) (i:Input),w.os=os/\(w.forCall tape i).Shaped C.prog/\i.vars=[]/\Input.okWide C.prog (w.forCall tape i) .any w.heap.size f i /\
     ((s.pre enc C.prog fn conds apart (w.forCall tape i).memory i.args/\X (w.forCall tape i).memory i.args)/\sizedMet enc C.prog fn (OpenSpec.ofChange s) apart (w.forCall tape i).memory i.args)/\a.holds C.prog (lone (Frame.enter C.prog f i.args .normal) [] (w.forCall tape i)))
   (runs:∀ (W:World) (base:Nat) (args:Array Value) (ds gs:List (DataW H)) (before:List MemPlace),
     (∀ (j:Nat) t v,fn.params[j]?=some t->args[j]?=some v->Value.okWide C.prog W .any base t v) ->
     DataW.Whole enc C.prog fn.params.toList s.vars apart W args.toList ds gs before->X W args->W.ShapedOpen C.prog ->
     ∃ M last o w' t',runNT C.prog (M+1) (solo (G (Frame.enter C.prog f args .normal) []) W) #[]=(.ended o w',t')/\runN C.prog M (solo (G (Frame.enter C.prog f args .normal) []) W)=.next last /\
       step C.prog last=.ended o w'/\Conc.Good C.prog (fun v W'=>s.post enc C.prog fn apart fresh handsOn false W args v { W' with os:=W.os }/\OsLater W.os W'.os) last o w' t') :
   ReturnsInLeavingWide a C os f .any (fun w args=>(s.pre enc C.prog fn conds apart w args/\X w args)/\sizedMet enc C.prog fn (OpenSpec.ofChange s) apart w args) ((OpenSpec.ofChange s).postWith enc C.prog fn F (outsideKept [.timePasses]) apart fresh handsOn):=by
 refine returnsInLeavingWide_of_good own started witness ?_;intro w tape i _ hsh _ hok hpre _;obtain⟨_,_,_,fn',hfn',_,_,_,_,hval⟩:=hok;have e:fn'=fn:=Option.some.inj (hfn'.symm.trans hfn);subst e;obtain⟨⟨⟨ds,gs,before,hw,_⟩,hx⟩,_⟩:=hpre;have hw':=DataW.Whole.of_heap (w':=w.forCall tape i) (by rfl) hw;obtain⟨M,last,o,w',t',h1,h2,h3,h4⟩:=runs (w.forCall tape i) w.heap.size i.args ds gs before hval hw' (hX _ _ _ (by rfl) hx) hsh;obtain⟨v,e,hp,r1,r2,r3,r4⟩:=h4;exact⟨M,last,o,w',t',h1,h2,h3,v,e,postWith_blind (postWith_of_post hp.1 hp.2),r1,r2,r3,r4⟩
theorem qmy{P:Program}{n nm:String}{text:List UInt8}{r:List (String × DataW Unit)}{W:World}{g:Nat}{ti tp te ts:TypeId}{ms:Array (String × TypeId)}{f:Field}
   (h:laidMet P ((n,.iface nm (.ptr (.agg [.lit (.string text)])))::r) W)
   (hg:P.globalNamed n=some g) (ht:(P.globals[g]?).map (·.type)=some ti) (hi:P.underlying ti=some (.interface ms)) (hrow:∀ u,P.typeName? 3 u=some nm->u=tp)
   (hp:P.underlying tp=some (.pointer te)) (he:P.underlying te=some (.struct #[f])) (hft:f.type=ts) (hfo:f.offset=0) (hs:P.underlying ts=some .string) (hc:P.cellsOf te=1) (hcs:P.cellsOf ts=1) :
   ∃ (a:Addr) (s:ByteArray) (t:TypeId),W.heap[g]?=some (.cells #[.iface tp (.pointer (some a))] t (0,0))/\W.cell? a=some (.string s)/\∃ c t,W.heap[a.block]?=some (.cells c t (0,0)):=by
 obtain⟨ps,⟨g0,t0,cs0,f0,p0,q0,hg0,ht0,hv0,hd0,_,e0⟩,_,hrows⟩:=h;obtain rfl:=Option.some.inj (hg.symm.trans hg0);obtain rfl:=Option.some.inj (ht.symm.trans ht0);subst e0;obtain⟨l0⟩:=cs0
 have ok0:∀ u v,l0=[.iface u v]->Value.okWide P W .any 0 u v:=fun u v e=>by
   subst e;exact(hrows g 0 (by simp [MemPlace.row])).2 u v (by simpa using World.var?_cell hg0 hv0 0)
 obtain⟨a0,s0,rfl,hc0,_,_,rfl⟩:=errorString_of_trod hi hrow hp he hft hfo hs hc hcs hd0 ok0;have h1:=(hrows g 0 (by simp [MemPlace.row])).1;have h2:=(hrows a0.block a0.off (by simp [MemPlace.row])).1;obtain⟨c1,t1,h1⟩:=h1;refine⟨a0,s0,t1,?_,hc0,h2⟩;simp only [World.var?,hg,Option.bind_some] at hv0;rw [h1] at hv0 |-;simp only [Option.some.injEq] at hv0;rw [hv0]
def qhT:Value->Bool
 | .int .u8 _=>false
 | _=>true
def qyw:Option Obj->Bool
 | some (.cells c _ (0,0))=>c.all qhT
 | _=>false
theorem qwn{x:Option Obj}(h:qyw x=true):∃ c e,x=some (.cells c e (0,0))/\∀ (i:Nat) (b:Int),c[i]?≠some (.int .u8 b):=by
 unfold qyw at h;split at h
 . rename_i c e;refine⟨c,e,rfl,fun i b hb=>?_⟩;have:=Array.all_eq_true_iff_forall_mem.1 h _ (Array.mem_of_getElem? hb);cases this
 . cases h
theorem qyx:qyw (begin Tryz.prog (fun _ _=>0) default).world.heap[gH]?=true:=by kernel_rfl
theorem q6h{rest:List (String × DataW Unit)}{W:World}(hsh:W.ShapedOpen Tryz.prog)(h:laidMet Tryz.prog (("loop.example/workplans/impl.errTurn",Rows.laid_loop_example_workplans_impl_errTurn)::rest) W):∃ ea,Start W ea:=by
 obtain⟨a,s,t,hg,ha,hb⟩:=qmy h gEt qeA Tryz.underlying119 qcA Tryz.underlying244 Tryz.underlying268 rfl rfl Tryz.underlying9 (by kernel_rfl) (by kernel_rfl)
 have ht:t=119:=by
   obtain⟨cs,h1,_⟩:=hsh.1 0 #[.nilIface] 119 (of_decide_eq_true (by kernel_rfl)) (by kernel_rfl);rw [hg] at h1;injection h1 with h1;injection h1
 subst ht;obtain⟨c0,e0,k0,hu⟩:=qwn qyx;obtain⟨ob,ob0,k1,k2,k3⟩:=hsh.2 gH (Nat.le_refl _) (Array.getElem?_eq_some_iff.1 k0).1;rw [k0] at k2;cases k2
 have k3':ob=.cells c0 e0 (0,0):=by
   rw [show gH - Tryz.prog.globals.size=0 from Nat.sub_self _] at k3;simpa [World.looseAt] using k3
 subst k3';refine⟨a,hg,⟨_,_,k1,hu⟩,hb,fun hn=>?_,by decide⟩
 . obtain⟨g,o,sp⟩:=a;have hn':g=gE:=hn;subst hn';obtain⟨hsp,c,e,fr,hb2,hlt⟩:=qdw ha;have hx:=q70 (w:=W) hsp hb2 ha;rw [show W.heap[gE]?=_ from hg] at hb2;cases hb2
   have:o=0:=by
     have:o < 1:=by simpa using hlt
     omega
   subst this;simp at hx
theorem qwo{H:Type}{enc:TypeId × Value->H}{C:Checked}{os:Os}{f:FuncId}{fn:Func}{s:ChangeSpec}{conds:List PathCond}{apart:Bool}{X:World->Array Value->Prop}(w0:World)(args:Array Value)(fuel:Nat)(hos:w0.os=os)
   (hsh:(w0.forCall (fun _ _=>0) ⟨#[],args,[]⟩).Shaped C.prog)
   (hok:Input.okWideB C.prog (w0.forCall (fun _ _=>0) ⟨#[],args,[]⟩) f ⟨#[],args,[]⟩=true)
   (hpre:s.preB enc C.prog fn conds apart (w0.forCall (fun _ _=>0) ⟨#[],args,[]⟩).memory args fuel=true)
   (hsz:s.sizedB enc C.prog fn apart (w0.forCall (fun _ _=>0) ⟨#[],args,[]⟩).memory args fuel=true)
   (hx:X (w0.forCall (fun _ _=>0) ⟨#[],args,[]⟩).memory args) :
   ∃ (w:World) (tape:Tape) (i:Input),w.os=os/\(w.forCall tape i).Shaped C.prog/\i.vars=[]/\Input.okWide C.prog (w.forCall tape i) .any w.heap.size f i /\
     ((s.pre enc C.prog fn conds apart (w.forCall tape i).memory i.args/\X (w.forCall tape i).memory i.args)/\sizedMet enc C.prog fn (OpenSpec.ofChange s) apart (w.forCall tape i).memory i.args)/\({ calm:=true }:Assume).holds C.prog (lone (Frame.enter C.prog f i.args .normal) [] (w.forCall tape i)):=
 ⟨w0,fun _ _=>0,⟨#[],args,[]⟩,hos,hsh,(Input.okWide_of_okWideB (base:=0) hok).1,(Input.okWide_of_okWideB hok).2,⟨⟨ChangeSpec.pre_of_preB hpre,hx⟩,sizedMet_of_sizedB hsz⟩,by
   simp only [Assume.holds];exact⟨by simp,fun _ _ _ _=>rfl,by simp,by simp,by simp⟩⟩
theorem qlu(Lk:Go.Looks){p:Pinned}{s:OpenSpec}{c:OpenClaim}(al:List (List PathCond))(kinds:List LaidKind)(tests:Bool)(har:Bool × String)(lk:Bool)
   (hc:c.holds p s) (hal:∀ D∈al,(c.withDomain D).holds p s) (hw:c.wfByText s=true) (hwal:∀ D∈al,(c.withDomain D).wfByText s=true)
   (htie:c.laidByTextAt Lk p kinds tests)
   (hst:c.start=.entering) (hnb:c.noBlocks=false/\c.again=false) (hm:p.checked.prog.mainIs=some (har.1,har.2.toList)) (hn:(!har.1 && har.2.isEmpty && !lk)=false)
   (hl:∀ f fn,p.checked.prog.funcNamed c.func=some f->p.checked.prog.funcs[f]?=some fn->lk=p.checked.prog.looks []/\∀ (j:Nat) t,fn.params[j]?=some t->p.checked.prog.wantsStandIn t=false)
   (hg:true=c.goesBy p.checked.prog) :
   Claim7.holds p (.plain s) { stood:={ row:=c,standIns:=[],harness:=har,looks:=lk },kinds:=[],alts:=al,goes:=true,laidByText:=true,laidKinds:=kinds,laidTests:=tests,laidLooks:=Lk }:=by
 have h6:∀ r:OpenClaim,Claim7.isSixth { stood:={ row:=r,standIns:=[],harness:=har,looks:=lk },kinds:=[] }=false:=fun r=>by simpa [Claim7.isSixth] using hn
 refine⟨Claim7.tied_new_at Lk kinds tests (Claim7.new_of_sixth hc har lk hst hnb hm (h6 c) hl) hw,fun D hD=>?_,htie,(fun h=>by cases h),hg⟩;exact Claim7.tied_new_at Lk kinds tests (Claim7.new_of_sixth (hal D hD) har lk hst hnb hm (h6 _) hl) (hwal D hD)
theorem qwp{W:World}{f:FuncId}{v:Value}(h:qd Tryz.prog (j8 W) (fun _=>False) (fun _=>False) (fun _=>.left) 1 0 0 (G (Frame.enter Tryz.prog f #[v] .normal) []) W) :
   ∃ M last o w' t',runNT Tryz.prog (M+1) (solo (G (Frame.enter Tryz.prog f #[v] .normal) []) W) #[]=(.ended o w',t')/\runN Tryz.prog M (solo (G (Frame.enter Tryz.prog f #[v] .normal) []) W)=.next last /\
     step Tryz.prog last=.ended o w'/\Conc.Good Tryz.prog (j8 W) last o w' t':=by
 obtain⟨M,last,o,w',t',h1,h2,h3,h4⟩:=q2t h none;exact⟨M,last,o,w',t',h1,h2,h3,h4⟩
theorem j8.below{W w:World}{v:Value}(h:j8 W v w):Below W.heap.size W { w with os:=W.os }:=⟨rfl,h.2.2.2.2.2,h.2.2.2.2.1,h.2.1,fun k hk=>h.2.2.1 k hk⟩
theorem qyy{H:Type}{enc:TypeId × Value->H}{W:World}{a0:Option Addr}{yo xY base:Nat}{d0:DataW H}{p0:List MemPlace}{ea:Addr}(S:Start W ea)
   (h0:DataW.Trod enc Tryz.prog W 0 (fun _=>true) true 22 (.slice a0 yo xY) d0 p0) (hv:Value.okWide Tryz.prog W .any base 22 (.slice a0 yo xY)) (hz:W.noneFrozen p0) :
   ∃ g o cs e fr,qX W (.slice a0 yo xY) yo g o xY cs e fr:=by
 obtain⟨fuel,hf⟩:=h0;rcases open_ints Tryz.underlying22 Tryz.underlying5 (by kernel_rfl) hf with ⟨hcs,_⟩ | ⟨x,l,c,zs,hcs,_,hl,hm,hzl,hx,hcell,hwz⟩
 . simp [Value.cells] at hcs;obtain⟨rfl,rfl,rfl⟩:=hcs;exact⟨gE,0,_,_,_,⟨⟨none,rfl,(fun a h=>by cases h),fun _=>rfl⟩,Nat.le_refl _,S.g,fun j hj=>by omega⟩⟩
 . simp [Value.cells] at hcs;obtain⟨rfl,rfl,rfl⟩:=hcs
   have hv2:Cell.okWide Tryz.prog W .any base 22 (.slice (some x) yo xY):=by
     unfold Value.okWide at hv;rw [Tryz.underlying22] at hv;exact hv
   unfold Cell.okWide at hv2;rw [Tryz.underlying22] at hv2;dsimp only at hv2;unfold Cell.ok at hv2;rw [Tryz.underlying22] at hv2;obtain⟨_,_,_,hsp,row,cells,hsh,_⟩:=hv2
   have hb:∃ cs fr,W.heap[x.block]?=some (.cells cs row fr):=by
     unfold World.shape? at hsh;split at hsh
     . rename_i cs' e' fr' hb;simp only [Option.some.injEq,Prod.mk.injEq] at hsh;rw [<-hsh.1];exact⟨cs',fr',hb⟩
     . cases hsh
   obtain⟨cs,fr,hb⟩:=hb;obtain⟨g,o,sp⟩:=x;have qhU:sp=none:=hsp;subst qhU;have hzc:zs.length=xY:=by simpa using hzl
   refine⟨g,o,cs,row,fr,⟨⟨_,rfl,(fun a h=>(Option.some.inj h).symm),(fun h=>by cases h)⟩,hl,hb,fun j hj=>?_⟩⟩;have hj':j < zs.length:=by omega
   have hw:=hwz (zs.getD j 0) (by rw [List.getD_eq_getElem?_getD,List.getElem?_eq_getElem hj'];simp);have hbd:=bounds_u8 hw;have e1:(⟨g,o,none⟩:Addr).add j=⟨g,o+j,none⟩:=by unfold Addr.add;split <;> simp_all
   have hc:=hcell j hj';rw [e1,cell_of_row _ g (o+j) _ _ _ hb] at hc;refine⟨zs.getD j 0,hbd.1,hbd.2,hc,?_⟩
   have hp:MemPlace.cell g (o+j)∈p0:=by
     have:p0=MemPlace.row ⟨g,o,none⟩ zs.length:=by injection hx
     rw [this];unfold MemPlace.row;refine List.mem_map.2 ⟨j,List.mem_range.2 hj',rfl⟩
   have hfz:=hz g (o+j) hp;unfold World.frozen? at hfz;rw [hb] at hfz;obtain⟨lo,hi⟩:=fr;simp only [Bool.and_eq_false_iff,decide_eq_false_iff_not] at hfz;rintro⟨k1,k2⟩;exact hfz.elim (fun k=>k k1) (fun k=>k k2)
end
section
open Go.Conc Go.RowKit
def qg2(ts:Array Value)(tc tm tv tb tx tk:Nat)(v:Value)(b:Bool)(R:Nat):Array Value:=
 (((((ts.setIfInBounds tc (.tuple #[v,.bool b])).setIfInBounds tm (.tuple #[v,.bool b])).setIfInBounds tv v).setIfInBounds tb (.bool b)).setIfInBounds tx (.pointer (some ⟨R,0,none⟩))).setIfInBounds tk (.bool b)
structure vW(ops:Array Oper)(i p0 p1 p2 tc tm tv tb tx tk:Nat):Prop where
 o0:∃ o ats,ops[i]?=some o/\o.op=.call { callee:=.value (.func 13),args:=#[.tmp p0,.tmp p1,.tmp p2],argTypes:=ats }/\o.dst=some tc/\o.guard=none
 o1:∃ o,ops[i+1]?=some o/\o.op=.move (.tmp tc)/\o.dst=some tm/\o.guard=none
 o2:∃ o,ops[i+2]?=some o/\o.op=.extract (.tmp tm) 0/\o.dst=some tv/\o.guard=none
 o3:∃ o,ops[i+3]?=some o/\o.op=.extract (.tmp tm) 1/\o.dst=some tb/\o.guard=none
 o4:∃ o,ops[i+4]?=some o/\o.op=.alloc 29/\o.dst=some tx/\o.guard=none
 o5:∃ o,ops[i+5]?=some o/\o.op=.store 29 (.tmp tx) (.tmp tv)/\o.dst=none/\o.guard=none
 o6:∃ o,ops[i+6]?=some o/\o.op=.assign (.tmp tb)/\o.dst=some tk/\o.guard=none
theorem q2u(ρ:Operand->Value)(o:Oper)(h:o.op=.alloc 29)(w:World):(execOp ρ o).run Tryz.prog w=.ok (.value (.pointer (some ⟨w.heap.size,0,none⟩))) (w.alloc (.cells qfl 29)):=by
 unfold execOp;rw [h];unfold qfl
 go_simp
theorem q2v(ρ:Operand->Value)(o:Oper)(x y:Operand)(h:o.op=.store 29 x y)(w:World){R:Nat}{d0 k0 o0 r0:Value}{A1 A2 A3 A4:Option Addr}{n1 c1 n2 c2 n3 c3 n4 c4:Nat}(hx:ρ x=.pointer (some ⟨R,0,none⟩))
   (hy:ρ y=.agg #[.slice A1 n1 c1,.slice A2 n2 c2,.slice A3 n3 c3,.slice A4 n4 c4]) (hB:Blk w R 29 #[d0,k0,o0,r0]) :
   (execOp ρ o).run Tryz.prog w=.ok .skip ((((w.setCell ⟨R,0,none⟩ (.slice A1 n1 c1)).setCell ⟨R,1,none⟩ (.slice A2 n2 c2)).setCell ⟨R,2,none⟩ (.slice A3 n3 c3)).setCell ⟨R,3,none⟩ (.slice A4 n4 c4)):=by
 have v0:=hB.cell 0;have v1:=hB.cell 1;have v2:=hB.cell 2;have v3:=hB.cell 3;have f0:=hB.frozen 0;have f1:=hB.frozen 1;have f2:=hB.frozen 2;have f3:=hB.frozen 3;unfold execOp;rw [h];simp only [hx,hy]
 go_simp
section
variable {gr:Grd}{M:Mks gr.base}{Post:Value->World->Prop}{Sh:Nat->Prop}{Fz:Loc->Prop}{T:Nat->q8}{n0:Nat}{w z:World}
theorem qzv(a b c:Value)(n:Nat)(hn:n=33):#[a,b,c]++Array.replicate (n - (#[a,b,c]:Array Value).size) undef=qas a b c undef undef undef undef undef undef undef undef undef undef undef undef undef undef undef undef undef undef undef undef undef undef undef undef undef undef undef undef undef undef:=by
 subst hn;apply Array.ext';simp [qas,List.replicate]
theorem getSet{ts:Array Value}{t:Nat}{v:Value}(h:t < ts.size):(ts.setIfInBounds t v)[t]?=some v:=by rw [Array.getElem?_setIfInBounds,if_pos rfl,if_pos h]
theorem qcc{ts:Array Value}{t u:Nat}{v:Value}(h:t≠u):(ts.setIfInBounds t v)[u]?=ts[u]?:=by rw [Array.getElem?_setIfInBounds,if_neg h]
theorem qi5{ts:Array Value}{ds:List Deferred}{t:Nat}{v:Value}(h:ts[t]?=some v):(Act.mk ts ds).eval (.tmp t)=v:=by
 show ts.getD t undef=v;rw [Array.getD_eq_getD_getElem?,h];rfl
theorem qo5(OM:jY (gr.base.pen M)){n h:Nat}{b:Frame}{ts:Array Value}(zL:∀ v,v∈ts->Ok gr.A gr.F v)(hb:Both (gr.base.pen M) w z)(O:Outside (gr.base.pen M) Sh Fz T n h)(hL:qH T n h w)(hk:b.kind≠.early)
   {ops:Array Oper} {i s t:Nat} {ty:TypeId} {ps:String} {af:Array Edge} {v:Value} {rest:List Nat} {k:List Item} {cs:List Frame} (ho:ops[i]?=some ⟨some t,.move (.tmp s),ty,ps,af,none⟩) (hs:ts[s]?=some v)
   (next:∀ w' z',Both (gr.base.pen M) w' z'->z'.heap=z.heap->Held (gr.base.pen M) w w'->(∀ u,u∈ts.setIfInBounds t v->Ok gr.A gr.F u)->qd Tryz.prog Post Sh Fz T n h 0 (G (b.at ⟨ts.setIfInBounds t v,[]⟩ (.inRegion ops rest::k)) cs) w') :
   qd Tryz.prog Post Sh Fz T n h 0 (G (b.at ⟨ts,[]⟩ (.inRegion ops (i::rest)::k)) cs) w:=
 qi4 (z2:=z) OM (by simp [qev,q2s,opB,Op.operands,qje]) zL hb O hL v (.inl rfl) ho rfl hk (fun d=>by
   show (Result.ok (Next.value ((Act.mk ts []).eval (.tmp s))) (z.at d))=_;rw [qi5 hs]) (fun w' d h1 h2 h3 _=>next w' (z.at d) h1 rfl h2 h3)
theorem q64(OM:jY (gr.base.pen M)){n h:Nat}{b:Frame}{ts:Array Value}(zL:∀ v,v∈ts->Ok gr.A gr.F v)(hb:Both (gr.base.pen M) w z)(O:Outside (gr.base.pen M) Sh Fz T n h)(hL:qH T n h w)(hk:b.kind≠.early)
   {ops:Array Oper} {i s t:Nat} {ty:TypeId} {ps:String} {af:Array Edge} {v:Value} {rest:List Nat} {k:List Item} {cs:List Frame} (ho:ops[i]?=some ⟨some t,.assign (.tmp s),ty,ps,af,none⟩) (hs:ts[s]?=some v)
   (next:∀ w' z',Both (gr.base.pen M) w' z'->z'.heap=z.heap->Held (gr.base.pen M) w w'->(∀ u,u∈ts.setIfInBounds t v->Ok gr.A gr.F u)->qd Tryz.prog Post Sh Fz T n h 0 (G (b.at ⟨ts.setIfInBounds t v,[]⟩ (.inRegion ops rest::k)) cs) w') :
   qd Tryz.prog Post Sh Fz T n h 0 (G (b.at ⟨ts,[]⟩ (.inRegion ops (i::rest)::k)) cs) w:=
 qi4 (z2:=z) OM (by simp [qev,q2s,opB,Op.operands,qje]) zL hb O hL v (.inl rfl) ho rfl hk (fun d=>by
   show (Result.ok (Next.value ((Act.mk ts []).eval (.tmp s))) (z.at d))=_;rw [qi5 hs]) (fun w' d h1 h2 h3 _=>next w' (z.at d) h1 rfl h2 h3)
theorem q0n(OM:jY (gr.base.pen M)){n h:Nat}{b:Frame}{ts:Array Value}(zL:∀ v,v∈ts->Ok gr.A gr.F v)(hb:Both (gr.base.pen M) w z)(O:Outside (gr.base.pen M) Sh Fz T n h)(hL:qH T n h w)(hk:b.kind≠.early)
   {ops:Array Oper} {i s t j:Nat} {ty:TypeId} {ps:String} {af:Array Edge} {v:Value} {xs:Array Value} {rest:List Nat} {k:List Item} {cs:List Frame} (ho:ops[i]?=some ⟨some t,.extract (.tmp s) j,ty,ps,af,none⟩) (hs:ts[s]?=some (.tuple xs)) (hj:xs[j]?=some v)
   (next:∀ w' z',Both (gr.base.pen M) w' z'->z'.heap=z.heap->Held (gr.base.pen M) w w'->(∀ u,u∈ts.setIfInBounds t v->Ok gr.A gr.F u)->qd Tryz.prog Post Sh Fz T n h 0 (G (b.at ⟨ts.setIfInBounds t v,[]⟩ (.inRegion ops rest::k)) cs) w') :
   qd Tryz.prog Post Sh Fz T n h 0 (G (b.at ⟨ts,[]⟩ (.inRegion ops (i::rest)::k)) cs) w:=
 qi4 (z2:=z) OM (by simp [qev,q2s,opB,Op.operands,qje]) zL hb O hL v (.inl rfl) ho rfl hk (fun d=>by
   have he:=qi5 (ds:=[]) hs;unfold execOp;simp only [he];simp [go_sem,hj]) (fun w' d h1 h2 h3 _=>next w' (z.at d) h1 rfl h2 h3)
theorem q5i(OM:jY (gr.base.pen M)){n h:Nat}{b:Frame}{ts:Array Value}(zL:∀ v,v∈ts->Ok gr.A gr.F v)(hb:Both (gr.base.pen M) w z)(O:Outside (gr.base.pen M) Sh Fz T n h)(hL:qH T n h w)(hk:b.kind≠.early)
   {ops:Array Oper} {i t:Nat} {ty:TypeId} {ps:String} {af:Array Edge} {rest:List Nat} {k:List Item} {cs:List Frame} (ho:ops[i]?=some ⟨some t,.alloc 29,ty,ps,af,none⟩)
   (next:∀ w' z',Both (gr.base.pen M) w' z'->HG z z'->Blk z' z.heap.size 29 #[.slice none 0 0,.slice none 0 0,.slice none 0 0,.slice none 0 0]->Held (gr.base.pen M) w w'->(∀ u,u∈ts.setIfInBounds t (.pointer (some ⟨z.heap.size,0,none⟩))->Ok gr.A gr.F u) ->
     qd Tryz.prog Post Sh Fz T n h 0 (G (b.at ⟨ts.setIfInBounds t (.pointer (some ⟨z.heap.size,0,none⟩)),[]⟩ (.inRegion ops rest::k)) cs) w') :
   qd Tryz.prog Post Sh Fz T n h 0 (G (b.at ⟨ts,[]⟩ (.inRegion ops (i::rest)::k)) cs) w:=
 qi4 (z2:=z.alloc (.cells qfl 29)) OM (by kernel_rfl) zL hb O hL (.pointer (some ⟨z.heap.size,0,none⟩)) (.inl rfl) ho rfl hk (fun d=>q2u _ _ rfl (z.at d))
   (fun w' d h1 h2 h3 _=>next w' _ h1 ((HG.of (World.grownBy_alloc z (.cells qfl 29) none)).heap rfl) (Blk.new z 29 qfl) h2 h3)
theorem q5j(OM:jY (gr.base.pen M)){n h:Nat}{b:Frame}{ts:Array Value}(zL:∀ v,v∈ts->Ok gr.A gr.F v)(hb:Both (gr.base.pen M) w z)(O:Outside (gr.base.pen M) Sh Fz T n h)(hL:qH T n h w)(hk:b.kind≠.early)
   {ops:Array Oper} {i x y R:Nat} {ty:TypeId} {ps:String} {af:Array Edge} {rest:List Nat} {k:List Item} {cs:List Frame} {d0 k0 o0 r0:Value} {A1 A2 A3 A4:Option Addr} {n1 c1 n2 c2 n3 c3 n4 c4:Nat} (ho:ops[i]?=some ⟨none,.store 29 (.tmp x) (.tmp y),ty,ps,af,none⟩)
   (hx:ts[x]?=some (.pointer (some ⟨R,0,none⟩))) (hy:ts[y]?=some (.agg #[.slice A1 n1 c1,.slice A2 n2 c2,.slice A3 n3 c3,.slice A4 n4 c4])) (hB:Blk z R 29 #[d0,k0,o0,r0])
   (next:∀ w' z',Both (gr.base.pen M) w' z'->HGB R z z'->Blk z' R 29 #[.slice A1 n1 c1,.slice A2 n2 c2,.slice A3 n3 c3,.slice A4 n4 c4]->Held (gr.base.pen M) w w'->qd Tryz.prog Post Sh Fz T n h 0 (G (b.at ⟨ts,[]⟩ (.inRegion ops rest::k)) cs) w') :
   qd Tryz.prog Post Sh Fz T n h 0 (G (b.at ⟨ts,[]⟩ (.inRegion ops (i::rest)::k)) cs) w:=by
 have hp4:=qcC (d:=.slice A1 n1 c1) (k:=.slice A2 n2 c2) (o:=.slice A3 n3 c3) (r:=.slice A4 n4 c4) hB
 exact qi4 (z2:=(((z.setCell ⟨R,0,none⟩ (.slice A1 n1 c1)).setCell ⟨R,1,none⟩ (.slice A2 n2 c2)).setCell ⟨R,2,none⟩ (.slice A3 n3 c3)).setCell ⟨R,3,none⟩ (.slice A4 n4 c4)) OM (by simp [qev,q2s,opB,Op.operands,qje]) zL hb O hL undef (.inr ⟨rfl,rfl⟩) ho rfl hk
   (fun d=>q2v _ _ (.tmp x) (.tmp y) rfl (z.at d) (qi5 hx) (qi5 hy) hB) (fun w' d h1 h2 _ _=>next w' _ h1 (hp4.1.heap rfl) (hp4.2.heap rfl) h2)
theorem qsj(OO:∀ M:Mks gr.base,jY (gr.base.pen M))(hb:Both (gr.base.pen M) w z){pv cv:Value}{nw:Int}{qa:List Node}{l:List Int}{ea:Addr}
   (hp:RN z pv qa) (hl:RI z cv l) (hE:qp z ea) (hx:∀ x∈l,x < 9223372036854775808) (O:jB (gr.base.pen M) Sh Fz) (hT:∀ i,i≠0->T i=.left) (hn0:0 < n0) (vJ:n0 < 2000000000)
   {b:Frame} (hk:b.kind≠.early) {ts:Array Value} (zL:∀ v,v∈ts->Ok gr.A gr.F v) {ops:Array Oper} {i p0 p1 p2 tc tm tv tb tx tk:Nat} (S:vW ops i p0 p1 p2 tc tm tv tb tx tk)
   (hpv:ts[p0]?=some pv) (hnw:ts[p1]?=some (.int .i64 nw)) (hcv:ts[p2]?=some cv) (htc:tc < ts.size) (htm:tm < ts.size) (htv:tv < ts.size) (htb:tb < ts.size) (htx:tx < ts.size) (n1:tv≠tm) (n2:tb≠tv) (n3:tx≠tv) (n4:tx≠tb)
   {k:List Item} {cs:List Frame}
   (next:∀ w' z' (M':Mks gr.base) Sh' Fz' T' n' A1 m1 c1 A2 m2 c2 A3 m3 c3 A4 m4 c4 R,M.Le M'->Both (gr.base.pen M') w' z'->HG z z'->jB (gr.base.pen M') Sh' Fz'->ql (gr.base.pen M) (fun r=>w.heap.size<=r) w w'->(∀ i,i≠0->T' i=.left)->n0<=n'->n'<=n0+4 ->
     qY z' z.heap.size (.agg #[.slice A1 m1 c1,.slice A2 m2 c2,.slice A3 m3 c3,.slice A4 m4 c4]) ((qbg qa nw l).getD qf7)->Blk z' R 29 #[.slice A1 m1 c1,.slice A2 m2 c2,.slice A3 m3 c3,.slice A4 m4 c4]->z.heap.size<=R ->
     (∀ v,v∈qg2 ts tc tm tv tb tx tk (.agg #[.slice A1 m1 c1,.slice A2 m2 c2,.slice A3 m3 c3,.slice A4 m4 c4]) (qbg qa nw l).isSome R->Ok gr.A gr.F v) ->
     qd Tryz.prog Post Sh' Fz' T' n' 0 0 (G (b.at ⟨qg2 ts tc tm tv tb tx tk (.agg #[.slice A1 m1 c1,.slice A2 m2 c2,.slice A3 m3 c3,.slice A4 m4 c4]) (qbg qa nw l).isSome R,[]⟩ (.inRegion ops []::k)) cs) w') :
   qd Tryz.prog Post Sh Fz T n0 0 0 (G (b.at ⟨ts,[]⟩ (.inRegion ops [i,i+1,i+2,i+3,i+4,i+5,i+6]::k)) cs) w:=by
 obtain⟨⟨⟨q0,q1,q2,q3,q4,q5⟩,ats,e0,rfl,rfl,rfl⟩,⟨⟨r0,r1,r2,r3,r4,r5⟩,e1,rfl,rfl,rfl⟩,⟨⟨s0,s1,s2,s3,s4,s5⟩,e2,rfl,rfl,rfl⟩,⟨⟨t0,t1,t2,t3,t4,t5⟩,e3,rfl,rfl,rfl⟩,⟨⟨u0,u1,u2,u3,u4,u5⟩,e4,rfl,rfl,rfl⟩,⟨⟨v0,v1,v2,v3,v4,v5⟩,e5,rfl,rfl,rfl⟩,⟨⟨x0,x1,x2,x3,x4,x5⟩,e6,rfl,rfl,rfl⟩⟩:=S;have okp:Ok gr.A gr.F pv:=zL _ (Array.mem_of_getElem? hpv);have okc:Ok gr.A gr.F cv:=zL _ (Array.mem_of_getElem? hcv);refine qhh (c:=qc7) e0 rfl hk rfl Tryz.func13 (by kernel_rfl) rfl ?_
 have ge:∀ (p:Nat) (v:Value),ts[p]?=some v->(Act.mk ts []).eval (.tmp p)=v:=fun p v h=>by
   show ts.getD p undef=v;rw [Array.getD_eq_getD_getElem?,h];rfl
 have hent:(#[Operand.tmp p0,.tmp p1,.tmp p2].map (Act.mk ts []).eval++Array.replicate (Tryz.f13.ntmps - (#[Operand.tmp p0,.tmp p1,.tmp p2].map (Act.mk ts []).eval).size) undef)=qas pv (.int .i64 nw) cv undef undef undef undef undef undef undef undef undef undef undef undef undef undef undef undef undef undef undef undef undef undef undef undef undef undef undef undef undef undef:=by
   have h3:#[Operand.tmp p0,.tmp p1,.tmp p2].map (Act.mk ts []).eval=#[pv,.int .i64 nw,cv]:=by
     simp [ge p0 _ hpv,ge p1 _ hnw,ge p2 _ hcv]
   rw [h3];exact qzv pv (.int .i64 nw) cv _ Tryz.ntmps13
 rw [hent];refine qzl OO hb hp hl hE okp okc hx O hT hn0 vJ (fun w1 z1 M1 Sh1 Fz1 T1 n1' v hle hb1 hg1 O1 hh1 hT1 hn1 hn2 okv hF=>?_);obtain⟨A1,m1,c1,A2,m2,c2,A3,m3,c3,A4,m4,c4,rfl⟩:=hF.form;have hHT:=fun (w:World)=>qdg (n:=n1') (w:=w) hT1;have OM:=OO M1;generalize hbs:(qbg qa nw l).isSome=bs at next |-;rw [Frame.finish_at,e0]
 have ok1:∀ u,u∈ts.setIfInBounds tc (.tuple #[.agg #[.slice A1 m1 c1,.slice A2 m2 c2,.slice A3 m3 c3,.slice A4 m4 c4],.bool bs])->Ok gr.A gr.F u:=fun u hu=>by
   rcases Array.mem_or_eq_of_mem_setIfInBounds hu with h5 | h5
   . exact zL u h5
   . rw [h5];refine .tuple (fun y hy=>?_);simp only [List.mem_toArray,List.mem_cons,List.not_mem_nil,or_false] at hy;rcases hy with rfl | rfl
     . exact okv
     . exact .bool _
 have hput:Act.put ⟨ts,[]⟩ ((some (⟨some tc,.call { callee:=.value (.func 13),args:=#[.tmp p0,.tmp p1,.tmp p2],argTypes:=ats },q2,q3,q4,none⟩:Oper)).bind (·.dst)) (.tuple #[.agg #[.slice A1 m1 c1,.slice A2 m2 c2,.slice A3 m3 c3,.slice A4 m4 c4],.bool bs])=⟨ts.setIfInBounds tc (.tuple #[.agg #[.slice A1 m1 c1,.slice A2 m2 c2,.slice A3 m3 c3,.slice A4 m4 c4],.bool bs]),[]⟩:=rfl;rw [hput];clear hput hent;refine qo5 OM ok1 hb1 (O1.alone hT1) (hHT _) hk e1 (getSet htc) (fun w2 z2 hb2 hz2 hh2 ok2=>?_);refine q0n OM ok2 hb2 (O1.alone hT1) (hHT _) hk e2 (by rw [getSet (by simpa using htm)]) rfl (fun w3 z3 hb3 hz3 hh3 ok3=>?_);refine q0n OM ok3 hb3 (O1.alone hT1) (hHT _) hk e3 (by rw [qcc n1,getSet (by simpa using htm)]) rfl (fun w4 z4 hb4 hz4 hh4 ok4=>?_);have qeI:z4.heap=z1.heap:=(hz4.trans hz3).trans hz2;refine q5i OM ok4 hb4 (O1.alone hT1) (hHT _) hk e4 (fun w5 z5 hb5 hg5 hB5 hh5 ok5=>?_);refine q5j OM ok5 hb5 (O1.alone hT1) (hHT _) hk e5 (getSet (by simpa using htx)) ((qcc n3).trans ((qcc n2).trans (getSet (by simpa using htv)))) hB5 (fun w6 z6 hb6 qeJ qhV hh6=>?_);refine q64 OM ok5 hb6 (O1.alone hT1) (hHT _) hk e6 (by rw [qcc n4,getSet (by simpa using htb)]) (fun w7 z7 hb7 hz7 hh7 ok7=>?_);have xq:HG z z4:=hg1.heap qeI.symm;have qhW:HG z z7:=(HGB.hg (xq.trans hg5) qeJ xq.size).heap hz7.symm;have hF4:qY z4 z.heap.size (.agg #[.slice A1 m1 c1,.slice A2 m2 c2,.slice A3 m3 c3,.slice A4 m4 c4]) ((qbg qa nw l).getD qf7):=hF.heap qeI.symm;have hF7:qY z7 z.heap.size (.agg #[.slice A1 m1 c1,.slice A2 m2 c2,.slice A3 m3 c3,.slice A4 m4 c4]) ((qbg qa nw l).getD qf7):=(qeJ.kG hB5 (hg5.kG hF4)).heap hz7.symm;have hh:=((hh2.trans hh3).trans hh4).trans ((hh5.trans hh6).trans hh7);exact next w7 z7 M1 Sh1 Fz1 T1 n1' A1 m1 c1 A2 m2 c2 A3 m3 c3 A4 m4 c4 z4.heap.size hle hb7 qhW O1 (hh1.trans (hh.but.down hle)) hT1 hn1 hn2 hF7 (qhV.heap hz7.symm) xq.size ok7
end
structure jV(NT:Nat)(ts:Array Value)(z:World)(pv cv:Value)(nw:Int)(qa:List Node)(l:List Int):Prop where
 size:ts.size=NT
 s2:ts[2]?=some (.bool false)
 s3:ts[3]?=some pv
 s4:ts[4]?=some (.int .i64 nw)
 s5:ts[5]?=some cv
 rn:RN z pv qa
 ri:RI z cv l
 n1:-3<=nw
 n2:nw<=4
 sp:qig qa
 sc:qgz l
theorem qam{α:Type}{n:Nat}{l:List α}(h:l.length=n+1):∃ a t,l=a::t/\t.length=n:=by
 cases l with
 | nil=>cases h
 | cons a t=>exact⟨a,t,rfl,Nat.succ.inj h⟩
theorem qe9{x y:World}(e:y.heap=x.heap):HG x y:=⟨by rw [e];exact Nat.le_refl _,fun i _=>by rw [e]⟩
section
variable {W:World}{ea:Addr}{v:Value}{n g o c:Nat}{cs:Array Value}{e:TypeId}{fr:Nat × Nat}
theorem q5c(S:Start W ea)(H:qX W v n g o c cs e fr){f:FuncId}{fn:Func}(hfn:Tryz.prog.funcs[f]?=some fn)(kI:Tryz.prog.inits.idxOf? f=none)(hr:fn.results=#[.tmp 2]){NT:Nat}{c0 c1 c3 rest:Code}
   (h0c:qev Tryz.prog Fs Gs SN c0=true) (h1c:qev Tryz.prog Fs Gs SN c1=true) (h3c:qev Tryz.prog Fs Gs SN c3=true) {ts0:Array Value} (ht0:ts0.size=NT) (ht1:∀ u,u∈ts0->u=v∨u=undef) (ht2:ts0[0]?=some v)
   (w0:∀ (ts:Array Value) (X:World),ts.size=NT->ts[0]?=some v->c0.wp Tryz.prog (fun e a x=>e=.normal/\x.heap=X.heap/\a.tmps.size=NT/\a.tmps[0]?=some v/\a.tmps[2]?=some (.bool false)) ⟨ts,[]⟩ X)
   (w1:∀ (ts:Array Value) (X:World),ts.size=NT->ts[0]?=some v->ts[2]?=some (.bool false)->c1.wp Tryz.prog (fun e a x=>x.heap=X.heap/\((e=.normal/\n<=1048576/\a.tmps.size=NT/\a.tmps[0]?=some v/\a.tmps[2]?=some (.bool false))∨(e=.ret/\a.tmps[2]?=some (.bool true)))) ⟨ts,[]⟩ X)
   (w3:n<=1048576->∀ (ts:Array Value) (X:World) (B0:Nat),ts.size=NT->ts[0]?=some v->ts[2]?=some (.bool false)->Bytes X B0 v n->B0<=X.heap.size->c3.wp Tryz.prog (fun e a x=>e=.normal/\HG X x/\∃ pv cv nw qa l,jV NT a.tmps x pv cv nw qa l) ⟨ts,[]⟩ X)
   (next:∀ ts w z pv cv nw qa l,jV NT ts z pv cv nw qa l->(∀ u,u∈ts->Ok (gr2 W.heap.size g ea).A (gr2 W.heap.size g ea).F u)->Both ((gr2 W.heap.size g ea).base.pen (mk2 W.heap.size g cs ea)) w z->Old W ea g cs (mk2 W.heap.size g cs ea) w z->qp z ea ->
     qd Tryz.prog (j8 W) (fun _=>False) (fun _=>False) (fun _=>.left) 1 0 0 (G ((base f).at ⟨ts,[]⟩ [.code rest]) []) w) :
   qd Tryz.prog (j8 W) (fun _=>False) (fun _=>False) (fun _=>.left) 1 0 0 (G ((base f).at ⟨ts0,[]⟩ [.code (.seq c0 (.seq c1 (.seq c3 rest)))]) []) W:=by
 have F0:=qzu S H;generalize zh (pt1 W.heap.size g cs) (κ1 o c) W=z0 at F0;have O:jB ((gr1 W.heap.size g o c).base.pen (mk1 W.heap.size g o c cs)) (fun _=>False) (fun _=>False):=⟨fun _ h=>h.elim,fun _ h=>h.elim⟩;have hT:∀ i,i≠0->(fun _=>q8.left:Nat->q8) i=.left:=fun _ _=>rfl;have O1:jB ((gr1 W.heap.size g o c).base.pen (mk1 W.heap.size g o c cs)) (fun _=>False) (fun _=>False):=O;refine qau ?_
 refine qe2 (gr:=gr1 W.heap.size g o c) (q8j _) hfn (fun u hu=>?_) h0c F0.both (O.alone hT) (qdg hT) (Q:=fun e a x=>e=.normal/\x.heap=z0.heap/\a.tmps.size=NT/\a.tmps[0]?=some v/\a.tmps[2]?=some (.bool false))
   (fun e a x y exy h=>⟨h.1,exy.symm.trans h.2.1,h.2.2⟩) (fun X eX=>wp_mono (w0 ts0 X ht0 ht2) (fun e a x h=>⟨h.1,h.2.1.trans eX.symm,h.2.2⟩)) (fun e a x h=>by rw [h.1];trivial) ?_
 . rcases ht1 u hu with rfl | rfl
   . exact H.ok
   . exact .undef
 rintro e1 ⟨ts1,ds1⟩ td1 w1' z1 hb1 hh1 - ok1 qhX - ⟨rfl,hz1,hs1,h10,h12⟩;rw [qhX rfl];have F1:=F0.step hb1 hh1 (qe9 hz1);show qd Tryz.prog (j8 W) _ _ _ 1 0 0 (G ((base f).at ⟨ts1,[]⟩ [.code _]) []) w1';refine qau ?_
 refine qe2 (gr:=gr1 W.heap.size g o c) (q8j _) hfn ok1 h1c F1.both (O.alone hT) (qdg hT) (Q:=fun e a x=>x.heap=z1.heap/\((e=.normal/\n<=1048576/\a.tmps.size=NT/\a.tmps[0]?=some v/\a.tmps[2]?=some (.bool false))∨(e=.ret/\a.tmps[2]?=some (.bool true))))
   (fun e a x y exy h=>⟨exy.symm.trans h.1,h.2⟩) (fun X eX=>wp_mono (w1 ts1 X hs1 h10 h12) (fun e a x h=>⟨h.1.trans eX.symm,h.2⟩)) (fun e a x h=>by rcases h.2 with h | h <;> (rw [h.1];trivial)) ?_
 rintro e2 ⟨ts2,ds2⟩ td2 w2 z2 hb2 hh2 - ok2 qhY - ⟨hz2,⟨rfl,hn,hs2,h20,h22⟩ | ⟨rfl,h22⟩⟩
 . rw [qhY rfl];have F2:=F1.step hb2 hh2 (qe9 hz2);show qd Tryz.prog (j8 W) _ _ _ 1 0 0 (G ((base f).at ⟨ts2,[]⟩ [.code _]) []) w2;refine qau ?_
   refine qe2 (gr:=gr1 W.heap.size g o c) (q8j _) hfn ok2 h3c F2.both (O.alone hT) (qdg hT) (Q:=fun e a x=>e=.normal/\HG z2 x/\∃ pv cv nw qa l,jV NT a.tmps x pv cv nw qa l)
     (fun e a x y exy h=>by
       obtain⟨h1,h2,pv,cv,nw,qa,l,h3⟩:=h;exact⟨h1,h2.heap exy,pv,cv,nw,qa,l,h3.size,h3.s2,h3.s3,h3.s4,h3.s5,h3.rn.heap exy,h3.ri.heap exy,h3.n1,h3.n2,h3.sp,h3.sc⟩)
     (fun X eX=>by
       have hB:Bytes X W.heap.size v n:=by
         have k:Bytes { z2 with heap:=X.heap } W.heap.size v n=Bytes X W.heap.size v n:=rfl;rw [<-k,<-eX];exact F2.bytes S H
       exact wp_mono (w3 hn ts2 X W.heap.size hs2 h20 h22 hB (by rw [<-eX];exact F2.size)) (fun e a x h=>⟨h.1,h.2.1.from eX.symm,h.2.2⟩)) (fun e a x h=>by rw [h.1];trivial) ?_
   rintro e3 ⟨ts3,ds3⟩ td3 w3' z3 hb3 hh3 - ok3 qhZ - ⟨rfl,hg3,pv,cv,nw,qa,l,hD⟩;rw [qhZ rfl];have F3:=F2.step hb3 hh3 hg3;obtain⟨z4,hb4,hO,hE,mi,mn⟩:=F3.switch S H;have okp:=ok3 pv (Array.mem_of_getElem? hD.s3);have okc:=ok3 cv (Array.mem_of_getElem? hD.s5);exact next ts3 w3' z4 pv cv nw qa l ⟨hD.size,hD.s2,hD.s3,hD.s4,hD.s5,mn _ _ okp hD.rn,mi _ _ okc hD.ri,hD.n1,hD.n2,hD.sp,hD.sc⟩ (fun u hu=>(ok3 u hu).to2) hb4 hO hE
 . have F2:=F1.step hb2 hh2 (qe9 hz2);show qd Tryz.prog (j8 W) _ _ _ 1 0 0 (G { (base f).at ⟨ts2,[]⟩ (td2++_) with mode:=.returning } []) w2;exact q5g hfn kI hr h22 hT (by omega) (fun d=>F2.fin H d)
end
theorem q6d{P:Array Value->Prop}(hP:∀ v0 v1 v2 v3 v4 v5 v6 v7 v8 v9 v10 v11 v12 v13 v14 v15 v16 v17 v18 v19 v20 v21 v22 v23 v24 v25 v26 v27 v28 v29 v30 v31 v32 v33 v34 v35 v36 v37 v38 v39 v40 v41 v42 v43 v44 v45 v46 v47 v48 v49 v50 v51 v52 v53 v54 v55 v56 v57 v58 v59 v60 v61 v62 v63 v64 v65 v66 v67 v68 v69 v70 v71 v72 v73 v74:Value,P #[v0,v1,v2,v3,v4,v5,v6,v7,v8,v9,v10,v11,v12,v13,v14,v15,v16,v17,v18,v19,v20,v21,v22,v23,v24,v25,v26,v27,v28,v29,v30,v31,v32,v33,v34,v35,v36,v37,v38,v39,v40,v41,v42,v43,v44,v45,v46,v47,v48,v49,v50,v51,v52,v53,v54,v55,v56,v57,v58,v59,v60,v61,v62,v63,v64,v65,v66,v67,v68,v69,v70,v71,v72,v73,v74])(T:Array Value)(h:T.size=75):P T:=by
 obtain⟨l⟩:=T;replace h:l.length=75:=h;obtain⟨v0,l0,rfl,h0⟩:=qam h;obtain⟨v1,l1,rfl,h1⟩:=qam h0;obtain⟨v2,l2,rfl,h2⟩:=qam h1;obtain⟨v3,l3,rfl,h3⟩:=qam h2;obtain⟨v4,l4,rfl,h4⟩:=qam h3;obtain⟨v5,l5,rfl,h5⟩:=qam h4;obtain⟨v6,l6,rfl,h6⟩:=qam h5;obtain⟨v7,l7,rfl,h7⟩:=qam h6;obtain⟨v8,l8,rfl,h8⟩:=qam h7;obtain⟨v9,l9,rfl,h9⟩:=qam h8;obtain⟨v10,l10,rfl,h10⟩:=qam h9;obtain⟨v11,l11,rfl,h11⟩:=qam h10;obtain⟨v12,l12,rfl,h12⟩:=qam h11;obtain⟨v13,l13,rfl,h13⟩:=qam h12;obtain⟨v14,l14,rfl,h14⟩:=qam h13;obtain⟨v15,l15,rfl,h15⟩:=qam h14;obtain⟨v16,l16,rfl,h16⟩:=qam h15;obtain⟨v17,l17,rfl,h17⟩:=qam h16;obtain⟨v18,l18,rfl,h18⟩:=qam h17;obtain⟨v19,l19,rfl,h19⟩:=qam h18;obtain⟨v20,l20,rfl,h20⟩:=qam h19;obtain⟨v21,l21,rfl,h21⟩:=qam h20;obtain⟨v22,l22,rfl,h22⟩:=qam h21;obtain⟨v23,l23,rfl,h23⟩:=qam h22;obtain⟨v24,l24,rfl,h24⟩:=qam h23;obtain⟨v25,l25,rfl,h25⟩:=qam h24;obtain⟨v26,l26,rfl,h26⟩:=qam h25;obtain⟨v27,l27,rfl,h27⟩:=qam h26;obtain⟨v28,l28,rfl,h28⟩:=qam h27;obtain⟨v29,l29,rfl,h29⟩:=qam h28;obtain⟨v30,l30,rfl,h30⟩:=qam h29;obtain⟨v31,l31,rfl,h31⟩:=qam h30;obtain⟨v32,l32,rfl,h32⟩:=qam h31;obtain⟨v33,l33,rfl,h33⟩:=qam h32;obtain⟨v34,l34,rfl,h34⟩:=qam h33;obtain⟨v35,l35,rfl,h35⟩:=qam h34;obtain⟨v36,l36,rfl,h36⟩:=qam h35;obtain⟨v37,l37,rfl,h37⟩:=qam h36;obtain⟨v38,l38,rfl,h38⟩:=qam h37;obtain⟨v39,l39,rfl,h39⟩:=qam h38;obtain⟨v40,l40,rfl,h40⟩:=qam h39;obtain⟨v41,l41,rfl,h41⟩:=qam h40;obtain⟨v42,l42,rfl,h42⟩:=qam h41;obtain⟨v43,l43,rfl,h43⟩:=qam h42;obtain⟨v44,l44,rfl,h44⟩:=qam h43;obtain⟨v45,l45,rfl,h45⟩:=qam h44;obtain⟨v46,l46,rfl,h46⟩:=qam h45;obtain⟨v47,l47,rfl,h47⟩:=qam h46;obtain⟨v48,l48,rfl,h48⟩:=qam h47;obtain⟨v49,l49,rfl,h49⟩:=qam h48;obtain⟨v50,l50,rfl,h50⟩:=qam h49;obtain⟨v51,l51,rfl,h51⟩:=qam h50;obtain⟨v52,l52,rfl,h52⟩:=qam h51;obtain⟨v53,l53,rfl,h53⟩:=qam h52;obtain⟨v54,l54,rfl,h54⟩:=qam h53;obtain⟨v55,l55,rfl,h55⟩:=qam h54;obtain⟨v56,l56,rfl,h56⟩:=qam h55;obtain⟨v57,l57,rfl,h57⟩:=qam h56;obtain⟨v58,l58,rfl,h58⟩:=qam h57;obtain⟨v59,l59,rfl,h59⟩:=qam h58;obtain⟨v60,l60,rfl,h60⟩:=qam h59;obtain⟨v61,l61,rfl,h61⟩:=qam h60;obtain⟨v62,l62,rfl,h62⟩:=qam h61;obtain⟨v63,l63,rfl,h63⟩:=qam h62;obtain⟨v64,l64,rfl,h64⟩:=qam h63;obtain⟨v65,l65,rfl,h65⟩:=qam h64;obtain⟨v66,l66,rfl,h66⟩:=qam h65;obtain⟨v67,l67,rfl,h67⟩:=qam h66;obtain⟨v68,l68,rfl,h68⟩:=qam h67;obtain⟨v69,l69,rfl,h69⟩:=qam h68;obtain⟨v70,l70,rfl,h70⟩:=qam h69;obtain⟨v71,l71,rfl,h71⟩:=qam h70;obtain⟨v72,l72,rfl,h72⟩:=qam h71;obtain⟨v73,l73,rfl,h73⟩:=qam h72;obtain⟨v74,l74,rfl,h74⟩:=qam h73;obtain rfl:=List.eq_nil_of_length_eq_zero h74;exact hP _ _ _ _ _ _ _ _ _ _ _ _ _ _ _ _ _ _ _ _ _ _ _ _ _ _ _ _ _ _ _ _ _ _ _ _ _ _ _ _ _ _ _ _ _ _ _ _ _ _ _ _ _ _ _ _ _ _ _ _ _ _ _ _ _ _ _ _ _ _ _ _ _ _ _
noncomputable def qbe:Code:=Tryz.f4.body.getD .skip
noncomputable def qJ:Code:=match qbe with | .seq x _=>x | _=>.skip
noncomputable def qK:Code:=match qbe with | .seq _ (.seq x _)=>x | _=>.skip
noncomputable def qL:Code:=match qbe with | .seq _ (.seq _ (.seq x _))=>x | _=>.skip
noncomputable def qc6:Code:=match qbe with | .seq _ (.seq _ (.seq _ x))=>x | _=>.skip
theorem qjg:qbe=.seq qJ (.seq qK (.seq qL qc6)):=rfl
theorem qjh:qev Tryz.prog Fs Gs SN qJ=true:=by kernel_rfl
theorem qji:qev Tryz.prog Fs Gs SN qK=true:=by kernel_rfl
theorem qjj:qev Tryz.prog Fs Gs SN qL=true:=by kernel_rfl
section
variable {v:Value}{n:Nat}
theorem qol(ts:Array Value)(X:World)(hs:ts.size=75)(h0:ts[0]?=some v):qJ.wp Tryz.prog (fun e a x=>e=.normal/\x.heap=X.heap/\a.tmps.size=75/\a.tmps[0]?=some v/\a.tmps[2]?=some (.bool false)) ⟨ts,[]⟩ X:=by
 revert ts;refine q6d ?_;intro v0 v1 v2 v3 v4 v5 v6 v7 v8 v9 v10 v11 v12 v13 v14 v15 v16 v17 v18 v19 v20 v21 v22 v23 v24 v25 v26 v27 v28 v29 v30 v31 v32 v33 v34 v35 v36 v37 v38 v39 v40 v41 v42 v43 v44 v45 v46 v47 v48 v49 v50 v51 v52 v53 v54 v55 v56 v57 v58 v59 v60 v61 v62 v63 v64 v65 v66 v67 v68 v69 v70 v71 v72 v73 v74 h0;obtain rfl:v0=v:=by simpa using h0
 clear h0;simp only [qJ,qbe,Tryz.f4,Option.getD_some];go_wp2_with fail
theorem qom(hA:∃ A c,v=.slice A n c)(ts:Array Value)(X:World)(hs:ts.size=75)(h0:ts[0]?=some v)(h2:ts[2]?=some (.bool false)):qK.wp Tryz.prog (fun e a x=>x.heap=X.heap/\((e=.normal/\n<=1048576/\a.tmps.size=75/\a.tmps[0]?=some v/\a.tmps[2]?=some (.bool false))∨(e=.ret/\a.tmps[2]?=some (.bool true)))) ⟨ts,[]⟩ X:=by
 obtain⟨A,c,rfl⟩:=hA;revert ts;refine q6d ?_;intro v0 v1 v2 v3 v4 v5 v6 v7 v8 v9 v10 v11 v12 v13 v14 v15 v16 v17 v18 v19 v20 v21 v22 v23 v24 v25 v26 v27 v28 v29 v30 v31 v32 v33 v34 v35 v36 v37 v38 v39 v40 v41 v42 v43 v44 v45 v46 v47 v48 v49 v50 v51 v52 v53 v54 v55 v56 v57 v58 v59 v60 v61 v62 v63 v64 v65 v66 v67 v68 v69 v70 v71 v72 v73 v74 h2 h0;obtain rfl:v0=.slice A n c:=by simpa using h0
 obtain rfl:v2=.bool false:=by simpa using h2
 clear h0 h2;simp only [qK,qbe,Tryz.f4,Option.getD_some];by_cases qdT:1048576 < n
 . go_wp2_with fail
 . have hle:n<=1048576:=by omega
   go_wp2_with fail
theorem qon(hn:n<=1048576)(ts:Array Value)(X:World)(B0:Nat)(hs:ts.size=75)(h0:ts[0]?=some v)(h2:ts[2]?=some (.bool false))(hB:Bytes X B0 v n)(hX:B0<=X.heap.size) :
   qL.wp Tryz.prog (fun e a x=>e=.normal/\HG X x/\∃ pv cv nw qa l,jV 75 a.tmps x pv cv nw qa l) ⟨ts,[]⟩ X:=by
 revert ts;refine q6d ?_;intro v0 v1 v2 v3 v4 v5 v6 v7 v8 v9 v10 v11 v12 v13 v14 v15 v16 v17 v18 v19 v20 v21 v22 v23 v24 v25 v26 v27 v28 v29 v30 v31 v32 v33 v34 v35 v36 v37 v38 v39 v40 v41 v42 v43 v44 v45 v46 v47 v48 v49 v50 v51 v52 v53 v54 v55 v56 v57 v58 v59 v60 v61 v62 v63 v64 v65 v66 v67 v68 v69 v70 v71 v72 v73 v74 h0 h2;obtain rfl:v0=v:=by simpa using h0
 obtain rfl:v2=.bool false:=by simpa using h2
 clear h0 h2;simp only [qL,qbe,Tryz.f4,Option.getD_some];go_wp2_with fail;refine(qkf B0 X _ n hB hX hn).mono ?_;rintro e w1 ⟨pv,cv,nw,qa,l,rfl,h1,h2,hr,hi,hp,hc,hg⟩;go_wp2_with fail;exact⟨HG.of hg,pv,cv,nw,qa,l,rfl,rfl,rfl,rfl,rfl,hr,hi,h1,h2,hp,hc⟩
end
theorem qkb{W:World}{ea:Addr}{v:Value}{n g o c:Nat}{cs:Array Value}{e:TypeId}{fr:Nat × Nat}(S:Start W ea)(H:qX W v n g o c cs e fr)
   (next:∀ ts w z pv cv nw qa l,jV 75 ts z pv cv nw qa l->(∀ u,u∈ts->Ok (gr2 W.heap.size g ea).A (gr2 W.heap.size g ea).F u)->Both ((gr2 W.heap.size g ea).base.pen (mk2 W.heap.size g cs ea)) w z->Old W ea g cs (mk2 W.heap.size g cs ea) w z->qp z ea ->
     qd Tryz.prog (j8 W) (fun _=>False) (fun _=>False) (fun _=>.left) 1 0 0 (G ((base 4).at ⟨ts,[]⟩ [.code qc6]) []) w) :
   qd Tryz.prog (j8 W) (fun _=>False) (fun _=>False) (fun _=>.left) 1 0 0 (G (Frame.enter Tryz.prog 4 #[v] .normal) []) W:=by
 rw [enter_at (c:=qbe) _ Tryz.func4 rfl,qjg];obtain⟨A,hA,-⟩:=H.v;refine q5c S H Tryz.func4 (by kernel_rfl) rfl qjh qji qjj (NT:=75) (by rw [Tryz.ntmps4];simp) (fun u hu=>?_) (by simp) (fun ts X=>qol ts X) (fun ts X=>qom ⟨A,_,hA⟩ ts X) (fun hn ts X B0=>qon hn ts X B0) next;rcases Array.mem_append.1 hu with hu | hu
 . exact .inl (by simpa using hu)
 . exact .inr (Array.eq_of_mem_replicate hu)
end
end Go.Proofs.YtacemdoejblgaaaGreatDoor

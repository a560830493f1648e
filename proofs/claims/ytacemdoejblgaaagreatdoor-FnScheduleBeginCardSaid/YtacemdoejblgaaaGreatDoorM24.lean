/- Part M24. Conditions: each statement's. -/
import Derived.Test.YtacemdoejblgaaaGreatDoorM23
import Derived.Conc.HoldsTime
namespace Go.Proofs.YtacemdoejblgaaaGreatDoor
open List _root_.Go.Proofs.Tryz World Value
set_option maxRecDepth 100000
set_option maxHeartbeats 6400000
section
open Go.ChangeShapes Go.WideShapes Go.ChangeAt Go.RowKit Go.Deep Go.Conc Go.ConcM
theorem qa5{H:Type}{enc:TypeId×Value->H}{a:Assume}{C:Checked}{os:Os}{f:FuncId}{fn:Func}{s:ChangeSpec}{F:Stop.Interp}{conds:List PathCond}{apart fresh handsOn:Bool}{X:World->Array Value->Prop}
   (hX:∀(w w':World) (args:Array Value),w.heap=w'.heap->X w args->X w' args)
   (own:ownKnob C.prog.godebug=none) (started:os.Started) (hfn:C.prog.funcs[f]?=some fn)
   (witness:∃(w:World) (tape:Tape) (i:Input),w.os=os/\(w.forCall tape i).Shaped C.prog/\i.vars=[]/\Input.okWide C.prog (w.forCall tape i) .any w.heap.size f i /\
    ((s.pre enc C.prog fn conds apart (w.forCall tape i).memory i.args/\X (w.forCall tape i).memory i.args)/\sizedMet enc C.prog fn (OpenSpec.ofChange s) apart (w.forCall tape i).memory i.args)/\a.holds C.prog (lone (Frame.enter C.prog f i.args .normal) [] (w.forCall tape i)))
   (runs:∀(W:World) (base:Nat) (args:Array Value) (ds gs:List (DataW H)) (before:List MemPlace),
    (∀(j:Nat) t v,fn.params[j]?=some t->args[j]?=some v->okWide C.prog W .any base t v) ->
    DataW.Whole enc C.prog fn.params.toList s.vars apart W args.toList ds gs before->X W args->W.ShapedOpen C.prog ->
    ∃M last o w' t',runNT C.prog (M+1) (solo (G (Frame.enter C.prog f args .normal) []) W) #[]=(.ended o w',t')/\runN C.prog M (solo (G (Frame.enter C.prog f args .normal) []) W)=.next last /\
     step C.prog last=.ended o w'/\Conc.Good C.prog (λv W'=>s.post enc C.prog fn apart fresh handsOn false W args v {W' with os:=W.os}/\OsLater W.os W'.os) last o w' t') :
   ReturnsInLeavingWide a C os f .any (λw args=>(s.pre enc C.prog fn conds apart w args/\X w args)/\sizedMet enc C.prog fn (OpenSpec.ofChange s) apart w args) ((OpenSpec.ofChange s).postWith enc C.prog fn F (outsideKept [.timePasses]) apart fresh handsOn):=by
 refine returnsInLeavingWide_of_good own started witness ?_;intro w tape i _ hsh _ hok hpre _;obtain⟨_,_,_,fn',hfn',_,_,_,_,hval⟩:=hok;have e:fn'=fn:=Option.some.inj (hfn'.symm.trans hfn);subst e;obtain⟨⟨⟨ds,gs,before,hw,_⟩,hx⟩,_⟩:=hpre;have hw':=DataW.Whole.of_heap (w':=w.forCall tape i) (by rfl) hw;obtain⟨M,last,o,w',t',h1,h2,h3,h4⟩:=runs (w.forCall tape i) w.heap.size i.args ds gs before hval hw' (hX _ _ _ (by rfl) hx) hsh;obtain⟨v,e,hp,r1,r2,r3,r4⟩:=h4;exact⟨M,last,o,w',t',h1,h2,h3,v,e,postWith_blind (postWith_of_post hp.1 hp.2),r1,r2,r3,r4⟩
theorem qrs{P:Program}{n nm:String}{text:List UInt8}{r:List (String×DataW Unit)}{W:World}{g:Nat}{ti tp te ts:TypeId}{ms:Array (String×TypeId)}{f:Field}
   (h:laidMet P ((n,.iface nm (.ptr (.agg [.lit (.string text)])))::r) W)
   (hg:P.globalNamed n=some g) (ht:(P.globals[g]?).map (·.type)=some ti) (hi:P.underlying ti=some (.interface ms)) (hrow:∀u,P.typeName? 3 u=some nm->u=tp)
   (hp:P.underlying tp=some (.pointer te)) (he:P.underlying te=some (.struct #[f])) (hft:f.type=ts) (hfo:f.offset=0) (hs:P.underlying ts=some .string) (hc:P.cellsOf te=1) (hcs:P.cellsOf ts=1) :
   ∃(a:Addr) (s:ByteArray) (t:TypeId),W.heap[g]?=some (.cells #[.iface tp (.pointer (some a))] t (0,0))/\W.cell? a=some (.string s)/\∃c t,W.heap[a.block]?=some (.cells c t (0,0)):=by
 obtain⟨ps,⟨g0,t0,cs0,f0,p0,q0,hg0,ht0,hv0,hd0,_,e0⟩,_,hrows⟩:=h;obtain rfl:=Option.some.inj (hg.symm.trans hg0);obtain rfl:=Option.some.inj (ht.symm.trans ht0);subst e0;obtain⟨l0⟩:=cs0
 have ok0:∀u v,l0=[.iface u v]->okWide P W .any 0 u v:=λu v e=>by
  subst e;exact(hrows g 0 (by simp[MemPlace.row])).2 u v (by simpa using World.var?_cell hg0 hv0 0)
 obtain⟨a0,s0,rfl,hc0,_,_,rfl⟩:=errorString_of_trod hi hrow hp he hft hfo hs hc hcs hd0 ok0;have h1:=(hrows g 0 (by simp[MemPlace.row])).1;have h2:=(hrows a0.block a0.off (by simp[MemPlace.row])).1;obtain⟨c1,t1,h1⟩:=h1;refine⟨a0,s0,t1,?_,hc0,h2⟩;simp only[var?,hg,Option.bind_some]at hv0;rw[h1]at hv0 |-;simp only[Option.some.injEq]at hv0;rw[hv0]
def qrC:Value->Bool
 | .int .u8 _=>false
 |_=>true
def q3t:Option Obj->Bool
 |some (.cells c _ (0,0))=>c.all qrC
 |_=>false
theorem q1k{x:Option Obj}(h:q3t x=true):∃c e,x=some (.cells c e (0,0))/\∀(i:Nat) (b:Int),c[i]?≠some (.int .u8 b):=by
 unfold q3t at h;split at h
 . rename_i c e;refine⟨c,e,rfl,λi b hb=>?_⟩;have:=Array.all_eq_true_iff_forall_mem.1 h _ (Array.mem_of_getElem? hb);cases this
 . cases h
theorem q3u:q3t (begin prog (λ_ _=>0) default).world.heap[gH]?=true:=by kernel_rfl
theorem qjr{rest:List (String×DataW Unit)}{W:World}(hsh:W.ShapedOpen prog)(h:laidMet prog (("loop.example/workplans/impl.errTurn",Rows.laid_loop_example_workplans_impl_errTurn)::rest) W):∃ea,Start W ea:=by
 obtain⟨a,s,t,hg,ha,hb⟩:=qrs h gEt qiS underlying119 qfZ underlying244 underlying268 rfl rfl underlying9 (by kernel_rfl) (by kernel_rfl)
 have ht:t=119:=by
  obtain⟨cs,h1,_⟩:=hsh.1 0 #[.nilIface] 119 (of_decide_eq_true (by kernel_rfl)) (by kernel_rfl);rw[hg]at h1;injection h1 with h1;injection h1
 subst ht;obtain⟨c0,e0,k0,hu⟩:=q1k q3u;obtain⟨ob,ob0,k1,k2,k3⟩:=hsh.2 gH (Nat.le_refl _) (Array.getElem?_eq_some_iff.1 k0).1;rw[k0]at k2;cases k2
 have k3':ob=.cells c0 e0 (0,0):=by
  rw[show gH-Tryz.prog.globals.size=0 from Nat.sub_self _]at k3;simpa[looseAt]using k3
 subst k3';refine⟨a,hg,⟨_,_,k1,hu⟩,hb,λhn=>?_,by decide⟩
 . obtain⟨g,o,sp⟩:=a;have hn':g=gE:=hn;subst hn';obtain⟨hsp,c,e,fr,hb2,hlt⟩:=qev ha;have hx:=qkA (w:=W) hsp hb2 ha;rw[show W.heap[gE]?=_ from hg]at hb2;cases hb2
   have:o=0:=by
    have:o<1:=by simpa using hlt
    omega
   subst this;simp at hx
theorem qe7{H:Type}{enc:TypeId×Value->H}{C:Checked}{os:Os}{f:FuncId}{fn:Func}{s:ChangeSpec}{conds:List PathCond}{apart:Bool}{X:World->Array Value->Prop}(w0:World)(args:Array Value)(fuel:Nat)(hos:w0.os=os)
   (hsh:(w0.forCall (λ_ _=>0) ⟨#[],args,[]⟩).Shaped C.prog)
   (hok:Input.okWideB C.prog (w0.forCall (λ_ _=>0) ⟨#[],args,[]⟩) f ⟨#[],args,[]⟩=true)
   (hpre:s.preB enc C.prog fn conds apart (w0.forCall (λ_ _=>0) ⟨#[],args,[]⟩).memory args fuel=true)
   (hsz:s.sizedB enc C.prog fn apart (w0.forCall (λ_ _=>0) ⟨#[],args,[]⟩).memory args fuel=true)
   (hx:X (w0.forCall (λ_ _=>0) ⟨#[],args,[]⟩).memory args) :
   ∃(w:World) (tape:Tape) (i:Input),w.os=os/\(w.forCall tape i).Shaped C.prog/\i.vars=[]/\Input.okWide C.prog (w.forCall tape i) .any w.heap.size f i /\
    ((s.pre enc C.prog fn conds apart (w.forCall tape i).memory i.args/\X (w.forCall tape i).memory i.args)/\sizedMet enc C.prog fn (OpenSpec.ofChange s) apart (w.forCall tape i).memory i.args)/\({calm:=true}:Assume).holds C.prog (lone (Frame.enter C.prog f i.args .normal) [] (w.forCall tape i)):=
 ⟨w0,λ_ _=>0,⟨#[],args,[]⟩,hos,hsh,(Input.okWide_of_okWideB (base:=0) hok).1,(Input.okWide_of_okWideB hok).2,⟨⟨ChangeSpec.pre_of_preB hpre,hx⟩,sizedMet_of_sizedB hsz⟩,by
  simp only[Assume.holds];exact⟨by simp,λ_ _ _ _=>rfl,by simp,by simp,by simp⟩⟩
theorem qcz(Lk:Go.Looks){p:Pinned}{s:OpenSpec}{c:OpenClaim}(al:List (List PathCond))(kinds:List LaidKind)(tests:Bool)(har:Bool×String)(lk:Bool)
   (hc:c.holds p s) (hal:∀D∈al,(c.withDomain D).holds p s) (hw:c.wfByText s=true) (hwal:∀D∈al,(c.withDomain D).wfByText s=true)
   (htie:c.laidByTextAt Lk p kinds tests)
   (hst:c.start=.entering) (hnb:c.noBlocks=false/\c.again=false) (hm:p.checked.prog.mainIs=some (har.1,har.2.toList)) (hn:(!har.1&&har.2.isEmpty && !lk)=false)
   (hl:∀f fn,p.checked.prog.funcNamed c.func=some f->p.checked.prog.funcs[f]?=some fn->lk=p.checked.prog.looks []/\∀(j:Nat) t,fn.params[j]?=some t->p.checked.prog.wantsStandIn t=false)
   (hg:true=c.goesBy p.checked.prog) :
   Claim7.holds p (.plain s) {stood:={row:=c,standIns:=[],harness:=har,looks:=lk},kinds:=[],alts:=al,goes:=true,laidByText:=true,laidKinds:=kinds,laidTests:=tests,laidLooks:=Lk}:=by
 have h6:∀r:OpenClaim,Claim7.isSixth {stood:={row:=r,standIns:=[],harness:=har,looks:=lk},kinds:=[]}=false:=λr=>by simpa[Claim7.isSixth]using hn
 refine⟨Claim7.tied_new_at Lk kinds tests (Claim7.new_of_sixth hc har lk hst hnb hm (h6 c) hl) hw,λD hD=>?_,htie,(λh=>by cases h),hg⟩;exact Claim7.tied_new_at Lk kinds tests (Claim7.new_of_sixth (hal D hD) har lk hst hnb hm (h6 _) hl) (hwal D hD)
theorem qe8{W:World}{f:FuncId}{v:Value}(h:qc prog (qv W) (λ_=>False) (λ_=>False) (λ_=>.left) 1 0 0 (G (Frame.enter prog f #[v] .normal) []) W) :
   ∃M last o w' t',runNT prog (M+1) (solo (G (Frame.enter prog f #[v] .normal) []) W) #[]=(.ended o w',t')/\runN prog M (solo (G (Frame.enter prog f #[v] .normal) []) W)=.next last /\
    step prog last=.ended o w'/\Conc.Good prog (qv W) last o w' t':=by
 obtain⟨M,last,o,w',t',h1,h2,h3,h4⟩:=q7p h none;exact⟨M,last,o,w',t',h1,h2,h3,h4⟩
theorem qv.below{W w:World}{v:Value}(h:qv W v w):Below W.heap.size W {w with os:=W.os}:=⟨rfl,h.2.2.2.2.2,h.2.2.2.2.1,h.2.1,λk hk=>h.2.2.1 k hk⟩
theorem qfu{H:Type}{enc:TypeId×Value->H}{W:World}{a0:Option Addr}{xR xN base:Nat}{d0:DataW H}{p0:List MemPlace}{ea:Addr}(S:Start W ea)
   (h0:DataW.Trod enc prog W 0 (λ_=>true) true 22 (.slice a0 xR xN) d0 p0) (hv:okWide prog W .any base 22 (.slice a0 xR xN)) (hz:W.noneFrozen p0) :
   ∃g o cs e fr,qC W (.slice a0 xR xN) xR g o xN cs e fr:=by
 obtain⟨fuel,hf⟩:=h0;rcases open_ints underlying22 underlying5 (by kernel_rfl) hf with ⟨hcs,_⟩|⟨x,l,c,zs,hcs,_,hl,hm,hzl,hx,hcell,hwz⟩
 . simp[Value.cells]at hcs;obtain⟨rfl,rfl,rfl⟩:=hcs;exact⟨gE,0,_,_,_,⟨⟨none,rfl,(λa h=>by cases h),λ_=>rfl⟩,Nat.le_refl _,S.g,λj hj=>by omega⟩⟩
 . simp[Value.cells]at hcs;obtain⟨rfl,rfl,rfl⟩:=hcs
   have hv2:Cell.okWide prog W .any base 22 (.slice (some x) xR xN):=by
    unfold okWide at hv;rw[underlying22]at hv;exact hv
   unfold Cell.okWide at hv2;rw[underlying22]at hv2;dsimp only at hv2;unfold Cell.ok at hv2;rw[underlying22]at hv2;obtain⟨_,_,_,hsp,row,cells,hsh,_⟩:=hv2
   have hb:∃cs fr,W.heap[x.block]?=some (.cells cs row fr):=by
    unfold shape? at hsh;split at hsh
    . rename_i cs' e' fr' hb;simp only[Option.some.injEq,Prod.mk.injEq]at hsh;rw[<-hsh.1];exact⟨cs',fr',hb⟩
    . cases hsh
   obtain⟨cs,fr,hb⟩:=hb;obtain⟨g,o,sp⟩:=x;have qrD:sp=none:=hsp;subst qrD;have hzc:zs.length=xN:=by simpa using hzl
   refine⟨g,o,cs,row,fr,⟨⟨_,rfl,(λa h=>(Option.some.inj h).symm),(λh=>by cases h)⟩,hl,hb,λj hj=>?_⟩⟩;have hj':j<zs.length:=by omega
   have hw:=hwz (zs.getD j 0) (by rw[getD_eq_getElem?_getD,getElem?_eq_getElem hj'];simp);have hbd:=bounds_u8 hw;have e1:(⟨g,o,none⟩:Addr).add j=⟨g,o+j,none⟩:=by unfold Addr.add;split<;>simp_all
   have hc:=hcell j hj';rw[e1,cell_of_row _ g (o+j) _ _ _ hb]at hc;refine⟨zs.getD j 0,hbd.1,hbd.2,hc,?_⟩
   have hp:MemPlace.cell g (o+j)∈p0:=by
    have:p0=MemPlace.row ⟨g,o,none⟩ zs.length:=by injection hx
    rw[this];unfold MemPlace.row;refine mem_map.2 ⟨j,mem_range.2 hj',rfl⟩
   have hfz:=hz g (o+j) hp;unfold frozen? at hfz;rw[hb]at hfz;obtain⟨lo,hi⟩:=fr;simp only[Bool.and_eq_false_iff,decide_eq_false_iff_not]at hfz;rintro⟨k1,k2⟩;exact hfz.elim (λk=>k k1) (λk=>k k2)
end
section
open Go.Conc Go.RowKit
def qb0(ts:Array Value)(tc tm tv tb tx tk:Nat)(v:Value)(b:Bool)(R:Nat):Array Value:=
 (((((ts.setIfInBounds tc (.tuple #[v,.bool b])).setIfInBounds tm (.tuple #[v,.bool b])).setIfInBounds tv v).setIfInBounds tb (.bool b)).setIfInBounds tx (.pointer (some ⟨R,0,none⟩))).setIfInBounds tk (.bool b)
structure xB(ops:Array Oper)(i p0 p1 p2 tc tm tv tb tx tk:Nat):Prop where
 o0:∃o ats,ops[i]?=some o/\o.op=.call {callee:=.value (.func 13),args:=#[.tmp p0,.tmp p1,.tmp p2],argTypes:=ats}/\o.dst=some tc/\o.guard=none
 o1:∃o,ops[i+1]?=some o/\o.op=.move (.tmp tc)/\o.dst=some tm/\o.guard=none
 o2:∃o,ops[i+2]?=some o/\o.op=.extract (.tmp tm) 0/\o.dst=some tv/\o.guard=none
 o3:∃o,ops[i+3]?=some o/\o.op=.extract (.tmp tm) 1/\o.dst=some tb/\o.guard=none
 o4:∃o,ops[i+4]?=some o/\o.op=.alloc 29/\o.dst=some tx/\o.guard=none
 o5:∃o,ops[i+5]?=some o/\o.op=.store 29 (.tmp tx) (.tmp tv)/\o.dst=none/\o.guard=none
 o6:∃o,ops[i+6]?=some o/\o.op=.assign (.tmp tb)/\o.dst=some tk/\o.guard=none
theorem q7q(ρ:Operand->Value)(o:Oper)(h:o.op=.alloc 29)(w:World):(execOp ρ o).run prog w=.ok (.value (.pointer (some ⟨w.heap.size,0,none⟩))) (w.alloc (.cells qgv 29)):=by
 unfold execOp;rw[h];unfold qgv
 go_simp
theorem q7r(ρ:Operand->Value)(o:Oper)(x y:Operand)(h:o.op=.store 29 x y)(w:World){R:Nat}{d0 k0 o0 r0:Value}{A1 A2 A3 A4:Option Addr}{n1 c1 n2 c2 n3 c3 n4 c4:Nat}(hx:ρ x=.pointer (some ⟨R,0,none⟩))
   (hy:ρ y=.agg #[.slice A1 n1 c1,.slice A2 n2 c2,.slice A3 n3 c3,.slice A4 n4 c4]) (hB:Blk w R 29 #[d0,k0,o0,r0]) :
   (execOp ρ o).run prog w=.ok .skip ((((w.setCell ⟨R,0,none⟩ (.slice A1 n1 c1)).setCell ⟨R,1,none⟩ (.slice A2 n2 c2)).setCell ⟨R,2,none⟩ (.slice A3 n3 c3)).setCell ⟨R,3,none⟩ (.slice A4 n4 c4)):=by
 have v0:=hB.cell 0;have v1:=hB.cell 1;have v2:=hB.cell 2;have v3:=hB.cell 3;have f0:=hB.frozen 0;have f1:=hB.frozen 1;have f2:=hB.frozen 2;have f3:=hB.frozen 3;unfold execOp;rw[h];simp only[hx,hy]
 go_simp
section
variable {gr:Grd}{M:Mks gr.base}{Post:Value->World->Prop}{Sh:Nat->Prop}{Fz:Loc->Prop}{T:Nat->qA}{n0:Nat}{w z:World}
theorem q4s(a b c:Value)(n:Nat)(hn:n=33):#[a,b,c]++Array.replicate (n-(#[a,b,c]:Array Value).size) undef=qaz a b c undef undef undef undef undef undef undef undef undef undef undef undef undef undef undef undef undef undef undef undef undef undef undef undef undef undef undef undef undef undef:=by
 subst hn;apply Array.ext';simp[qaz,replicate]
theorem getSet{ts:Array Value}{t:Nat}{v:Value}(h:t<ts.size):(ts.setIfInBounds t v)[t]?=some v:=by rw[Array.getElem?_setIfInBounds,if_pos rfl,if_pos h]
theorem qai{ts:Array Value}{t u:Nat}{v:Value}(h:t≠u):(ts.setIfInBounds t v)[u]?=ts[u]?:=by rw[Array.getElem?_setIfInBounds,if_neg h]
theorem qet{ts:Array Value}{ds:List Deferred}{t:Nat}{v:Value}(h:ts[t]?=some v):(Act.mk ts ds).eval (.tmp t)=v:=by
 show ts.getD t undef=v;rw[Array.getD_eq_getD_getElem?,h];rfl
theorem qea(OM:zL (gr.base.pen M)){n h:Nat}{b:Frame}{ts:Array Value}(zy:∀v,v∈ts->Ok gr.A gr.F v)(hb:Both (gr.base.pen M) w z)(O:Outside (gr.base.pen M) Sh Fz T n h)(hL:jv T n h w)(hk:b.kind≠.early)
   {ops:Array Oper} {i s t:Nat} {ty:TypeId} {ps:String} {af:Array Edge} {v:Value} {rest:List Nat} {k:List Item} {cs:List Frame} (ho:ops[i]?=some ⟨some t,.move (.tmp s),ty,ps,af,none⟩) (hs:ts[s]?=some v)
   (next:∀w' z',Both (gr.base.pen M) w' z'->z'.heap=z.heap->Held (gr.base.pen M) w w'->(∀u,u∈ts.setIfInBounds t v->Ok gr.A gr.F u)->qc prog Post Sh Fz T n h 0 (G (b.at ⟨ts.setIfInBounds t v,[]⟩ (.inRegion ops rest::k)) cs) w') :
   qc prog Post Sh Fz T n h 0 (G (b.at ⟨ts,[]⟩ (.inRegion ops (i::rest)::k)) cs) w:=
 qia (z2:=z) OM (by simp[qcl,q7o,opB,Op.operands,qmj]) zy hb O hL v (.inl rfl) ho rfl hk (λd=>by
  show (Result.ok (Next.value ((Act.mk ts []).eval (.tmp s))) (z.at d))=_;rw[qet hs]) (λw' d h1 h2 h3 _=>next w' (z.at d) h1 rfl h2 h3)
theorem qt4(OM:zL (gr.base.pen M)){n h:Nat}{b:Frame}{ts:Array Value}(zy:∀v,v∈ts->Ok gr.A gr.F v)(hb:Both (gr.base.pen M) w z)(O:Outside (gr.base.pen M) Sh Fz T n h)(hL:jv T n h w)(hk:b.kind≠.early)
   {ops:Array Oper} {i s t:Nat} {ty:TypeId} {ps:String} {af:Array Edge} {v:Value} {rest:List Nat} {k:List Item} {cs:List Frame} (ho:ops[i]?=some ⟨some t,.assign (.tmp s),ty,ps,af,none⟩) (hs:ts[s]?=some v)
   (next:∀w' z',Both (gr.base.pen M) w' z'->z'.heap=z.heap->Held (gr.base.pen M) w w'->(∀u,u∈ts.setIfInBounds t v->Ok gr.A gr.F u)->qc prog Post Sh Fz T n h 0 (G (b.at ⟨ts.setIfInBounds t v,[]⟩ (.inRegion ops rest::k)) cs) w') :
   qc prog Post Sh Fz T n h 0 (G (b.at ⟨ts,[]⟩ (.inRegion ops (i::rest)::k)) cs) w:=
 qia (z2:=z) OM (by simp[qcl,q7o,opB,Op.operands,qmj]) zy hb O hL v (.inl rfl) ho rfl hk (λd=>by
  show (Result.ok (Next.value ((Act.mk ts []).eval (.tmp s))) (z.at d))=_;rw[qet hs]) (λw' d h1 h2 h3 _=>next w' (z.at d) h1 rfl h2 h3)
theorem qqx(OM:zL (gr.base.pen M)){n h:Nat}{b:Frame}{ts:Array Value}(zy:∀v,v∈ts->Ok gr.A gr.F v)(hb:Both (gr.base.pen M) w z)(O:Outside (gr.base.pen M) Sh Fz T n h)(hL:jv T n h w)(hk:b.kind≠.early)
   {ops:Array Oper} {i s t j:Nat} {ty:TypeId} {ps:String} {af:Array Edge} {v:Value} {xs:Array Value} {rest:List Nat} {k:List Item} {cs:List Frame} (ho:ops[i]?=some ⟨some t,.extract (.tmp s) j,ty,ps,af,none⟩) (hs:ts[s]?=some (.tuple xs)) (hj:xs[j]?=some v)
   (next:∀w' z',Both (gr.base.pen M) w' z'->z'.heap=z.heap->Held (gr.base.pen M) w w'->(∀u,u∈ts.setIfInBounds t v->Ok gr.A gr.F u)->qc prog Post Sh Fz T n h 0 (G (b.at ⟨ts.setIfInBounds t v,[]⟩ (.inRegion ops rest::k)) cs) w') :
   qc prog Post Sh Fz T n h 0 (G (b.at ⟨ts,[]⟩ (.inRegion ops (i::rest)::k)) cs) w:=
 qia (z2:=z) OM (by simp[qcl,q7o,opB,Op.operands,qmj]) zy hb O hL v (.inl rfl) ho rfl hk (λd=>by
  have he:=qet (ds:=[]) hs;unfold execOp;simp only[he];simp[go_sem,hj]) (λw' d h1 h2 h3 _=>next w' (z.at d) h1 rfl h2 h3)
theorem qrE(OM:zL (gr.base.pen M)){n h:Nat}{b:Frame}{ts:Array Value}(zy:∀v,v∈ts->Ok gr.A gr.F v)(hb:Both (gr.base.pen M) w z)(O:Outside (gr.base.pen M) Sh Fz T n h)(hL:jv T n h w)(hk:b.kind≠.early)
   {ops:Array Oper} {i t:Nat} {ty:TypeId} {ps:String} {af:Array Edge} {rest:List Nat} {k:List Item} {cs:List Frame} (ho:ops[i]?=some ⟨some t,.alloc 29,ty,ps,af,none⟩)
   (next:∀w' z',Both (gr.base.pen M) w' z'->HG z z'->Blk z' z.heap.size 29 #[.slice none 0 0,.slice none 0 0,.slice none 0 0,.slice none 0 0]->Held (gr.base.pen M) w w'->(∀u,u∈ts.setIfInBounds t (.pointer (some ⟨z.heap.size,0,none⟩))->Ok gr.A gr.F u) ->
    qc prog Post Sh Fz T n h 0 (G (b.at ⟨ts.setIfInBounds t (.pointer (some ⟨z.heap.size,0,none⟩)),[]⟩ (.inRegion ops rest::k)) cs) w') :
   qc prog Post Sh Fz T n h 0 (G (b.at ⟨ts,[]⟩ (.inRegion ops (i::rest)::k)) cs) w:=
 qia (z2:=z.alloc (.cells qgv 29)) OM (by kernel_rfl) zy hb O hL (.pointer (some ⟨z.heap.size,0,none⟩)) (.inl rfl) ho rfl hk (λd=>q7q _ _ rfl (z.at d))
  (λw' d h1 h2 h3 _=>next w' _ h1 ((HG.of (grownBy_alloc z (.cells qgv 29) none)).heap rfl) (Blk.new z 29 qgv) h2 h3)
theorem qrF(OM:zL (gr.base.pen M)){n h:Nat}{b:Frame}{ts:Array Value}(zy:∀v,v∈ts->Ok gr.A gr.F v)(hb:Both (gr.base.pen M) w z)(O:Outside (gr.base.pen M) Sh Fz T n h)(hL:jv T n h w)(hk:b.kind≠.early)
   {ops:Array Oper} {i x y R:Nat} {ty:TypeId} {ps:String} {af:Array Edge} {rest:List Nat} {k:List Item} {cs:List Frame} {d0 k0 o0 r0:Value} {A1 A2 A3 A4:Option Addr} {n1 c1 n2 c2 n3 c3 n4 c4:Nat} (ho:ops[i]?=some ⟨none,.store 29 (.tmp x) (.tmp y),ty,ps,af,none⟩)
   (hx:ts[x]?=some (.pointer (some ⟨R,0,none⟩))) (hy:ts[y]?=some (.agg #[.slice A1 n1 c1,.slice A2 n2 c2,.slice A3 n3 c3,.slice A4 n4 c4])) (hB:Blk z R 29 #[d0,k0,o0,r0])
   (next:∀w' z',Both (gr.base.pen M) w' z'->HGB R z z'->Blk z' R 29 #[.slice A1 n1 c1,.slice A2 n2 c2,.slice A3 n3 c3,.slice A4 n4 c4]->Held (gr.base.pen M) w w'->qc prog Post Sh Fz T n h 0 (G (b.at ⟨ts,[]⟩ (.inRegion ops rest::k)) cs) w') :
   qc prog Post Sh Fz T n h 0 (G (b.at ⟨ts,[]⟩ (.inRegion ops (i::rest)::k)) cs) w:=by
 have hp4:=qgB (d:=.slice A1 n1 c1) (k:=.slice A2 n2 c2) (o:=.slice A3 n3 c3) (r:=.slice A4 n4 c4) hB
 exact qia (z2:=(((z.setCell ⟨R,0,none⟩ (.slice A1 n1 c1)).setCell ⟨R,1,none⟩ (.slice A2 n2 c2)).setCell ⟨R,2,none⟩ (.slice A3 n3 c3)).setCell ⟨R,3,none⟩ (.slice A4 n4 c4)) OM (by simp[qcl,q7o,opB,Op.operands,qmj]) zy hb O hL undef (.inr ⟨rfl,rfl⟩) ho rfl hk
  (λd=>q7r _ _ (.tmp x) (.tmp y) rfl (z.at d) (qet hx) (qet hy) hB) (λw' d h1 h2 _ _=>next w' _ h1 (hp4.1.heap rfl) (hp4.2.heap rfl) h2)
theorem qis(OO:∀M:Mks gr.base,zL (gr.base.pen M))(hb:Both (gr.base.pen M) w z){pv cv:Value}{nw:Int}{qa:List Node}{l:List Int}{ea:Addr}
   (hp:RN z pv qa) (hl:RI z cv l) (hE:qm z ea) (hx:∀x∈l,x<9223372036854775808) (O:zx (gr.base.pen M) Sh Fz) (hT:∀i,i≠0->T i=.left) (hn0:0<n0) (vN:n0<2000000000)
   {b:Frame} (hk:b.kind≠.early) {ts:Array Value} (zy:∀v,v∈ts->Ok gr.A gr.F v) {ops:Array Oper} {i p0 p1 p2 tc tm tv tb tx tk:Nat} (S:xB ops i p0 p1 p2 tc tm tv tb tx tk)
   (hpv:ts[p0]?=some pv) (hnw:ts[p1]?=some (.int .i64 nw)) (hcv:ts[p2]?=some cv) (htc:tc<ts.size) (htm:tm<ts.size) (htv:tv<ts.size) (htb:tb<ts.size) (htx:tx<ts.size) (n1:tv≠tm) (n2:tb≠tv) (n3:tx≠tv) (n4:tx≠tb)
   {k:List Item} {cs:List Frame}
   (next:∀w' z' (M':Mks gr.base) Sh' Fz' T' n' A1 m1 c1 A2 m2 c2 A3 m3 c3 A4 m4 c4 R,M.Le M'->Both (gr.base.pen M') w' z'->HG z z'->zx (gr.base.pen M') Sh' Fz'->qn (gr.base.pen M) (λr=>w.heap.size<=r) w w'->(∀i,i≠0->T' i=.left)->n0<=n'->n'<=n0+4 ->
    jw z' z.heap.size (.agg #[.slice A1 m1 c1,.slice A2 m2 c2,.slice A3 m3 c3,.slice A4 m4 c4]) ((qas qa nw l).getD qdk)->Blk z' R 29 #[.slice A1 m1 c1,.slice A2 m2 c2,.slice A3 m3 c3,.slice A4 m4 c4]->z.heap.size<=R ->
    (∀v,v∈qb0 ts tc tm tv tb tx tk (.agg #[.slice A1 m1 c1,.slice A2 m2 c2,.slice A3 m3 c3,.slice A4 m4 c4]) (qas qa nw l).isSome R->Ok gr.A gr.F v) ->
    qc prog Post Sh' Fz' T' n' 0 0 (G (b.at ⟨qb0 ts tc tm tv tb tx tk (.agg #[.slice A1 m1 c1,.slice A2 m2 c2,.slice A3 m3 c3,.slice A4 m4 c4]) (qas qa nw l).isSome R,[]⟩ (.inRegion ops []::k)) cs) w') :
   qc prog Post Sh Fz T n0 0 0 (G (b.at ⟨ts,[]⟩ (.inRegion ops [i,i+1,i+2,i+3,i+4,i+5,i+6]::k)) cs) w:=by
 obtain⟨⟨⟨q0,q1,q2,q3,q4,q5⟩,ats,e0,rfl,rfl,rfl⟩,⟨⟨r0,r1,r2,r3,r4,r5⟩,e1,rfl,rfl,rfl⟩,⟨⟨s0,s1,s2,s3,s4,s5⟩,e2,rfl,rfl,rfl⟩,⟨⟨t0,t1,t2,t3,t4,t5⟩,e3,rfl,rfl,rfl⟩,⟨⟨u0,u1,u2,u3,u4,u5⟩,e4,rfl,rfl,rfl⟩,⟨⟨v0,v1,v2,v3,v4,v5⟩,e5,rfl,rfl,rfl⟩,⟨⟨x0,x1,x2,x3,x4,x5⟩,e6,rfl,rfl,rfl⟩⟩:=S;have okp:Ok gr.A gr.F pv:=zy _ (Array.mem_of_getElem? hpv);have okc:Ok gr.A gr.F cv:=zy _ (Array.mem_of_getElem? hcv);refine qho (c:=qdz) e0 rfl hk rfl func13 (by kernel_rfl) rfl ?_
 have ge:∀(p:Nat) (v:Value),ts[p]?=some v->(Act.mk ts []).eval (.tmp p)=v:=λp v h=>by
  show ts.getD p undef=v;rw[Array.getD_eq_getD_getElem?,h];rfl
 have hent:(#[Operand.tmp p0,.tmp p1,.tmp p2].map (Act.mk ts []).eval++Array.replicate (Tryz.f13.ntmps-(#[Operand.tmp p0,.tmp p1,.tmp p2].map (Act.mk ts []).eval).size) undef)=qaz pv (.int .i64 nw) cv undef undef undef undef undef undef undef undef undef undef undef undef undef undef undef undef undef undef undef undef undef undef undef undef undef undef undef undef undef undef:=by
  have h3:#[Operand.tmp p0,.tmp p1,.tmp p2].map (Act.mk ts []).eval=#[pv,.int .i64 nw,cv]:=by
   simp[ge p0 _ hpv,ge p1 _ hnw,ge p2 _ hcv]
  rw[h3];exact q4s pv (.int .i64 nw) cv _ ntmps13
 rw[hent];refine q4g OO hb hp hl hE okp okc hx O hT hn0 vN (λw1 z1 M1 Sh1 Fz1 T1 n1' v hle hb1 hg1 O1 hh1 hT1 hn1 hn2 okv hF=>?_);obtain⟨A1,m1,c1,A2,m2,c2,A3,m3,c3,A4,m4,c4,rfl⟩:=hF.form;have hHT:=λ(w:World)=>qaq (n:=n1') (w:=w) hT1;have OM:=OO M1;generalize hbs:(qas qa nw l).isSome=bs at next |-;rw[Frame.finish_at,e0]
 have ok1:∀u,u∈ts.setIfInBounds tc (.tuple #[.agg #[.slice A1 m1 c1,.slice A2 m2 c2,.slice A3 m3 c3,.slice A4 m4 c4],.bool bs])->Ok gr.A gr.F u:=λu hu=>by
  rcases Array.mem_or_eq_of_mem_setIfInBounds hu with h5|h5
  . exact zy u h5
  . rw[h5];refine .tuple (λy hy=>?_);simp only[List.mem_toArray,mem_cons,not_mem_nil,or_false]at hy;rcases hy with rfl|rfl
    . exact okv
    . exact .bool _
 have hput:Act.put ⟨ts,[]⟩ ((some (⟨some tc,.call {callee:=.value (.func 13),args:=#[.tmp p0,.tmp p1,.tmp p2],argTypes:=ats},q2,q3,q4,none⟩:Oper)).bind (·.dst)) (.tuple #[.agg #[.slice A1 m1 c1,.slice A2 m2 c2,.slice A3 m3 c3,.slice A4 m4 c4],.bool bs])=⟨ts.setIfInBounds tc (.tuple #[.agg #[.slice A1 m1 c1,.slice A2 m2 c2,.slice A3 m3 c3,.slice A4 m4 c4],.bool bs]),[]⟩:=rfl;rw[hput];clear hput hent;refine qea OM ok1 hb1 (O1.alone hT1) (hHT _) hk e1 (getSet htc) (λw2 z2 hb2 hz2 hh2 ok2=>?_);refine qqx OM ok2 hb2 (O1.alone hT1) (hHT _) hk e2 (by rw[getSet (by simpa using htm)]) rfl (λw3 z3 hb3 hz3 hh3 ok3=>?_);refine qqx OM ok3 hb3 (O1.alone hT1) (hHT _) hk e3 (by rw[qai n1,getSet (by simpa using htm)]) rfl (λw4 z4 hb4 hz4 hh4 ok4=>?_);have xC:z4.heap=z1.heap:=(hz4.trans hz3).trans hz2;refine qrE OM ok4 hb4 (O1.alone hT1) (hHT _) hk e4 (λw5 z5 hb5 hg5 hB5 hh5 ok5=>?_);refine qrF OM ok5 hb5 (O1.alone hT1) (hHT _) hk e5 (getSet (by simpa using htx)) ((qai n3).trans ((qai n2).trans (getSet (by simpa using htv)))) hB5 (λw6 z6 hb6 qjF qrG hh6=>?_);refine qt4 OM ok5 hb6 (O1.alone hT1) (hHT _) hk e6 (by rw[qai n4,getSet (by simpa using htb)]) (λw7 z7 hb7 hz7 hh7 ok7=>?_);have kz:HG z z4:=hg1.heap xC.symm;have qrH:HG z z7:=(HGB.hg (kz.trans hg5) qjF kz.size).heap hz7.symm;have hF4:jw z4 z.heap.size (.agg #[.slice A1 m1 c1,.slice A2 m2 c2,.slice A3 m3 c3,.slice A4 m4 c4]) ((qas qa nw l).getD qdk):=hF.heap xC.symm;have hF7:jw z7 z.heap.size (.agg #[.slice A1 m1 c1,.slice A2 m2 c2,.slice A3 m3 c3,.slice A4 m4 c4]) ((qas qa nw l).getD qdk):=(qjF.qcT hB5 (hg5.qcT hF4)).heap hz7.symm;have hh:=((hh2.trans hh3).trans hh4).trans ((hh5.trans hh6).trans hh7);exact next w7 z7 M1 Sh1 Fz1 T1 n1' A1 m1 c1 A2 m2 c2 A3 m3 c3 A4 m4 c4 z4.heap.size hle hb7 qrH O1 (hh1.trans (hh.but.down hle)) hT1 hn1 hn2 hF7 (qrG.heap hz7.symm) kz.size ok7
end
structure qY(NT:Nat)(ts:Array Value)(z:World)(pv cv:Value)(nw:Int)(qa:List Node)(l:List Int):Prop where
 size:ts.size=NT
 s2:ts[2]?=some (.bool false)
 s3:ts[3]?=some pv
 s4:ts[4]?=some (.int .i64 nw)
 s5:ts[5]?=some cv
 rn:RN z pv qa
 ri:RI z cv l
 n1:-3<=nw
 n2:nw<=4
 sp:qe3 qa
 sc:qda l
theorem qaa{α:Type}{n:Nat}{l:List α}(h:l.length=n+1):∃a t,l=a::t/\t.length=n:=by
 cases l with
 |nil=>cases h
 |cons a t=>exact⟨a,t,rfl,Nat.succ.inj h⟩
theorem qcs{x y:World}(e:y.heap=x.heap):HG x y:=⟨by rw[e];exact Nat.le_refl _,λi _=>by rw[e]⟩
section
variable {W:World}{ea:Addr}{v:Value}{n g o c:Nat}{cs:Array Value}{e:TypeId}{fr:Nat×Nat}
theorem qh9(S:Start W ea)(H:qC W v n g o c cs e fr){f:FuncId}{fn:Func}(hfn:Tryz.prog.funcs[f]?=some fn)(qcW:Tryz.prog.inits.idxOf? f=none)(hr:fn.results=#[.tmp 2]){NT:Nat}{c0 c1 c3 rest:Code}
   (h0c:qcl prog Fs Gs SN c0=true) (h1c:qcl prog Fs Gs SN c1=true) (h3c:qcl prog Fs Gs SN c3=true) {ts0:Array Value} (ht0:ts0.size=NT) (ht1:∀u,u∈ts0->u=v∨u=undef) (ht2:ts0[0]?=some v)
   (w0:∀(ts:Array Value) (X:World),ts.size=NT->ts[0]?=some v->c0.wp prog (λe a x=>e=.normal/\x.heap=X.heap/\a.tmps.size=NT/\a.tmps[0]?=some v/\a.tmps[2]?=some (.bool false)) ⟨ts,[]⟩ X)
   (w1:∀(ts:Array Value) (X:World),ts.size=NT->ts[0]?=some v->ts[2]?=some (.bool false)->c1.wp prog (λe a x=>x.heap=X.heap/\((e=.normal/\n<=1048576/\a.tmps.size=NT/\a.tmps[0]?=some v/\a.tmps[2]?=some (.bool false))∨(e=.ret/\a.tmps[2]?=some (.bool true)))) ⟨ts,[]⟩ X)
   (w3:n<=1048576->∀(ts:Array Value) (X:World) (B0:Nat),ts.size=NT->ts[0]?=some v->ts[2]?=some (.bool false)->Bytes X B0 v n->B0<=X.heap.size->c3.wp prog (λe a x=>e=.normal/\HG X x/\∃pv cv nw qa l,qY NT a.tmps x pv cv nw qa l) ⟨ts,[]⟩ X)
   (next:∀ts w z pv cv nw qa l,qY NT ts z pv cv nw qa l->(∀u,u∈ts->Ok (gr2 W.heap.size g ea).A (gr2 W.heap.size g ea).F u)->Both ((gr2 W.heap.size g ea).base.pen (mk2 W.heap.size g cs ea)) w z->Old W ea g cs (mk2 W.heap.size g cs ea) w z->qm z ea ->
    qc prog (qv W) (λ_=>False) (λ_=>False) (λ_=>.left) 1 0 0 (G ((base f).at ⟨ts,[]⟩ [.code rest]) []) w) :
   qc prog (qv W) (λ_=>False) (λ_=>False) (λ_=>.left) 1 0 0 (G ((base f).at ⟨ts0,[]⟩ [.code (.seq c0 (.seq c1 (.seq c3 rest)))]) []) W:=by
 have F0:=q4q S H;generalize vD (pt1 W.heap.size g cs) (κ1 o c) W=z0 at F0;have O:zx ((gr1 W.heap.size g o c).base.pen (mk1 W.heap.size g o c cs)) (λ_=>False) (λ_=>False):=⟨λ_ h=>h.elim,λ_ h=>h.elim⟩;have hT:∀i,i≠0->(λ_=>qA.left:Nat->qA) i=.left:=λ_ _=>rfl;have O1:zx ((gr1 W.heap.size g o c).base.pen (mk1 W.heap.size g o c cs)) (λ_=>False) (λ_=>False):=O;refine qao ?_
 refine qbg (gr:=gr1 W.heap.size g o c) (qgJ _) hfn (λu hu=>?_) h0c F0.both (O.alone hT) (qaq hT) (Q:=λe a x=>e=.normal/\x.heap=z0.heap/\a.tmps.size=NT/\a.tmps[0]?=some v/\a.tmps[2]?=some (.bool false))
  (λe a x y exy h=>⟨h.1,exy.symm.trans h.2.1,h.2.2⟩) (λX eX=>wp_mono (w0 ts0 X ht0 ht2) (λe a x h=>⟨h.1,h.2.1.trans eX.symm,h.2.2⟩)) (λe a x h=>by rw[h.1];trivial) ?_
 . rcases ht1 u hu with rfl|rfl
   . exact H.ok
   . exact .undef
 rintro e1 ⟨ts1,ds1⟩ td1 w1' z1 hb1 hh1-ok1 qgK-⟨rfl,hz1,hs1,h10,h12⟩;rw[qgK rfl];have F1:=F0.step hb1 hh1 (qcs hz1);show qc prog (qv W) _ _ _ 1 0 0 (G ((base f).at ⟨ts1,[]⟩ [.code _]) []) w1';refine qao ?_
 refine qbg (gr:=gr1 W.heap.size g o c) (qgJ _) hfn ok1 h1c F1.both (O.alone hT) (qaq hT) (Q:=λe a x=>x.heap=z1.heap/\((e=.normal/\n<=1048576/\a.tmps.size=NT/\a.tmps[0]?=some v/\a.tmps[2]?=some (.bool false))∨(e=.ret/\a.tmps[2]?=some (.bool true))))
  (λe a x y exy h=>⟨exy.symm.trans h.1,h.2⟩) (λX eX=>wp_mono (w1 ts1 X hs1 h10 h12) (λe a x h=>⟨h.1.trans eX.symm,h.2⟩)) (λe a x h=>by rcases h.2 with h|h<;>(rw[h.1];trivial)) ?_
 rintro e2 ⟨ts2,ds2⟩ td2 w2 z2 hb2 hh2-ok2 qrI-⟨hz2,⟨rfl,hn,hs2,h20,h22⟩|⟨rfl,h22⟩⟩
 . rw[qrI rfl];have F2:=F1.step hb2 hh2 (qcs hz2);show qc prog (qv W) _ _ _ 1 0 0 (G ((base f).at ⟨ts2,[]⟩ [.code _]) []) w2;refine qao ?_
   refine qbg (gr:=gr1 W.heap.size g o c) (qgJ _) hfn ok2 h3c F2.both (O.alone hT) (qaq hT) (Q:=λe a x=>e=.normal/\HG z2 x/\∃pv cv nw qa l,qY NT a.tmps x pv cv nw qa l)
    (λe a x y exy h=>by
     obtain⟨h1,h2,pv,cv,nw,qa,l,h3⟩:=h;exact⟨h1,h2.heap exy,pv,cv,nw,qa,l,h3.size,h3.s2,h3.s3,h3.s4,h3.s5,h3.rn.heap exy,h3.ri.heap exy,h3.n1,h3.n2,h3.sp,h3.sc⟩)
    (λX eX=>by
     have hB:Bytes X W.heap.size v n:=by
      have k:Bytes {z2 with heap:=X.heap} W.heap.size v n=Bytes X W.heap.size v n:=rfl;rw[<-k,<-eX];exact F2.bytes S H
     exact wp_mono (w3 hn ts2 X W.heap.size hs2 h20 h22 hB (by rw[<-eX];exact F2.size)) (λe a x h=>⟨h.1,h.2.1.from eX.symm,h.2.2⟩)) (λe a x h=>by rw[h.1];trivial) ?_
   rintro e3 ⟨ts3,ds3⟩ td3 w3' z3 hb3 hh3-ok3 qrJ-⟨rfl,hg3,pv,cv,nw,qa,l,hD⟩;rw[qrJ rfl];have F3:=F2.step hb3 hh3 hg3;obtain⟨z4,hb4,hO,hE,mi,mn⟩:=F3.switch S H;have okp:=ok3 pv (Array.mem_of_getElem? hD.s3);have okc:=ok3 cv (Array.mem_of_getElem? hD.s5);exact next ts3 w3' z4 pv cv nw qa l ⟨hD.size,hD.s2,hD.s3,hD.s4,hD.s5,mn _ _ okp hD.rn,mi _ _ okc hD.ri,hD.n1,hD.n2,hD.sp,hD.sc⟩ (λu hu=>(ok3 u hu).to2) hb4 hO hE
 . have F2:=F1.step hb2 hh2 (qcs hz2);show qc prog (qv W) _ _ _ 1 0 0 (G {(base f).at ⟨ts2,[]⟩ (td2++_)with mode:=.returning} []) w2;exact qf8 hfn qcW hr h22 hT (by omega) (λd=>F2.fin H d)
end
end
section
theorem q4p{n x:Int}(hn:1<=n)(hx:0<=x):∃k:Nat,x.tmod n=(k:Int)/\(k:Int)<n:=by
 have h0:0<=x.tmod n:=Int.tmod_nonneg n hx;have h1:x.tmod n<n:=Int.tmod_lt_of_pos x (by omega);exact⟨(x.tmod n).toNat,by omega,by omega⟩
theorem qqt{qa:List Node}{n x:Int}{c:qj}(hn:1<=n)(h:qp qa c)(hd:(c.qb.length:Int)=n)(hx:0<=x):((qa0 qa c (x.tmod n)).getD c).done.length=min (c.done.length+1) qa.length:=by
 obtain⟨k,hk,hk2⟩:=q4p hn hx;rw[hk];have hle:=qfz h;by_cases hl:c.done.length<qa.length
 . obtain⟨c',hc⟩:=qor h hl (k:=k) (by omega);rw[hc];obtain⟨_,h2,_,y,_,hy,_⟩:=qej hc;have:=qfz h2;show c'.done.length=_;rw[hy]at this |-;simp only[length_append,length_cons,length_nil]at this |-;omega
 . cases hR:qa0 qa c (k:Int)with
   |none=>
    show c.done.length=_;omega
   |some c'=>
    obtain⟨_,h2,_,y,_,hy,_⟩:=qej hR;have:=qfz h2;rw[hy]at this;simp only[length_append,length_cons,length_nil]at this;omega
theorem qex{qa:List Node}{n:Int}{l:List Int}{c:qj}(h:qas qa n l=some c):∃c0,qbv qa n=some c0/\qbt l=true/\c=qdy qa n c0 l:=by
 unfold qas at h;split at h
 . rename_i c0 hc;split at h
   . rename_i hl;injection h with h;exact⟨c0,hc,hl,h.symm⟩
   . cases h
 . cases h
theorem qf9{qa:List Node}{n:Int}{c:qj}(h:qbv qa n=some c):1<=n/\n<=4/\c.done=[]/\qaf qa=true:=by
 unfold qbv at h;split at h
 . rename_i hc;simp only[Bool.and_eq_true,decide_eq_true_eq]at hc;injection h with h;subst h;exact⟨hc.2.1,hc.2.2,rfl,hc.1⟩
 . cases h
def finish(qa:List Node):Nat->qj->qj
 |0,c=>c
 |k+1,c=>finish qa k ((qa0 qa c 0).getD c)
theorem qj2(qa:List Node):∀(k:Nat) (c:qj),finish qa (k+1) c=(qa0 qa (finish qa k c) 0).getD (finish qa k c)
 |0,_=>rfl
 |k+1,c=>qj2 qa k ((qa0 qa c 0).getD c)
theorem qrK{qa:List Node}{c:qj}(h:c.done.length=qa.length)(w:Int):qa0 qa c w=none:=by
 cases hR:qa0 qa c w with
 |none=>rfl
 |some c'=>
  obtain⟨_,h2,_,y,_,hy,_⟩:=qej hR;have:=qfz h2;rw[hy]at this;simp only[length_append,length_cons,length_nil]at this;omega
theorem qwo{qa:List Node}{c:qj}(h:c.done.length=qa.length):∀k,finish qa k c=c
 |0=>rfl
 |k+1=>by
  rw[qj2,qwo h k,qrK h 0];rfl
theorem qqv{qa:List Node}:∀(k:Nat) {c:qj},qp qa c->qp qa (finish qa k c)/\(finish qa k c).qb.length=c.qb.length
 |0,_,h=>⟨h,rfl⟩
 |k+1,c,h=>by
  obtain⟨h1,h2⟩:=qju h 0;obtain⟨h3,h4⟩:=qqv k h1;exact⟨h3,h4.trans h2⟩
theorem qoi{qa:List Node}:∀(k:Nat) {c:qj},qp qa c->0<c.qb.length->(finish qa k c).done.length=min (c.done.length+k) qa.length
 |0,c,h,_=>by
  have:=qfz h;show c.done.length=_;omega
 |k+1,c,h,hd=>by
  have hs:=qqt (n:=(c.qb.length:Int)) (x:=0) (by omega) h rfl (Int.le_refl 0);rw[Int.zero_tmod]at hs;obtain⟨h1,h2⟩:=qju h 0;have ih:=qoi k h1 (by rw[h2];exact hd);show (finish qa k ((qa0 qa c 0).getD c)).done.length=_;rw[ih,hs];omega
theorem qwp{qa:List Node}:∀(k j:Nat) (c:qj),finish qa (k+j) c=finish qa j (finish qa k c)
 |0,j,c=>by rw[Nat.zero_add];rfl
 |k+1,j,c=>by
  rw[show k+1+j=(k+j)+1 by omega];exact qwp k j _
theorem qzs{qa:List Node}{c:qj}{k:Nat}(hk:k<=qa.length)(hf:(finish qa k c).done.length=qa.length):finish qa qa.length c=finish qa k c:=by
 have:qa.length=k+(qa.length-k):=by omega
 rw[this,qwp,qwo hf]
def qa1(qa:List Node)(n:Int)(l:List Int):Option qj:=(qas qa n l).map (finish qa qa.length)
theorem qey{qa:List Node}{n:Int}{l:List Int}{f:qj}(h:qa1 qa n l=some f):∃c,qas qa n l=some c/\f=finish qa qa.length c/\qp qa f/\f.done.length=qa.length/\f.rows=values qa/\qaf qa=true:=by
 unfold qa1 at h;obtain⟨c,hc,rfl⟩:=Option.map_eq_some_iff.1 h;obtain⟨c0,h0,_,_⟩:=qex hc;obtain⟨hn,_,_,hv⟩:=qf9 h0;obtain⟨h1,h2⟩:=qh7 hc;obtain⟨h3,_⟩:=qqv qa.length h1;have h4:=qoi qa.length h1 (by omega);have h5:(finish qa qa.length c).done.length=qa.length:=by omega
 refine⟨c,hc,rfl,h3,h5,qjR h3 ?_,hv⟩;rw[(qhu h3).2,h5];omega
end
section
open Go.Conc Go.RowKit
structure jA(NT:Nat)(ts:Array Value)(x:World)(pv cv:Value)(nw:Int)(qa:List Node)(l:List Int)(R:Nat)(c:qj)(ok:Bool):Prop where
 size:ts.size=NT
 s3:ts[3]?=some pv
 s4:ts[4]?=some (.int .i64 nw)
 s5:ts[5]?=some cv
 s6:ts[6]?=some (.pointer (some ⟨R,0,none⟩))
 s7:ts[7]?=some (.bool ok)
 rn:RN x pv qa
 ri:RI x cv l
 box:∃Y1 Yn1 Yc1 Y2 Yn2 Yc2 Y3 Yn3 Yc3 Y4 Yn4 Yc4,jU x R (.slice Y1 Yn1 Yc1) (.slice Y2 Yn2 Yc2) (.slice Y3 Yn3 Yc3) (.slice Y4 Yn4 Yc4) c
structure zI(NT:Nat)(ts:Array Value)(x:World)(pv cv:Value)(nw:Int)(qa:List Node)(l:List Int)(R:Nat)(c:qj)(ok:Bool):Prop where
 run:jA NT ts x pv cv nw qa l R c ok
 told:∃Z Z1 Zn1 Zc1 Z2 Zn2 Zc2 Z3 Zn3 Zc3 Z4 Zn4 Zc4,ts[8]?=some (.pointer (some ⟨Z,0,none⟩))/\ts[9]?=some (.bool ok)/\jU x Z (.slice Z1 Zn1 Zc1) (.slice Z2 Zn2 Zc2) (.slice Z3 Zn3 Zc3) (.slice Z4 Zn4 Zc4) c
section
variable {NT:Nat}{ts:Array Value}{x y:World}{pv cv:Value}{nw:Int}{qa:List Node}{l:List Int}{R:Nat}{c:qj}{ok:Bool}
theorem RL.heap{v:Value}{ll:List (List Int)}(e:x.heap=y.heap)(h:RL x v ll):RL y v ll:=by
 have k2:RL x v ll=RL {y with heap:=x.heap} v ll:=rfl;rw[k2,e]at h;exact h
theorem jU.heap{g:Nat}{d k o r:Value}(e:x.heap=y.heap)(h:jU x g d k o r c):jU y g d k o r c:=⟨h.b.heap e,h.dq.heap e,h.ct.heap e,h.dn.heap e,h.ro.heap e⟩
theorem HG.grown{w0:World}{row:Option Nat}(h:HG w0 x)(g:x.grownBy y row)(hr:∀k,row=some k->w0.heap.size<=k):HG w0 y:=
 ⟨Nat.le_trans h.size g.size,λi hi=>(g.block i (Nat.lt_of_lt_of_le hi h.size) (λe=>by have:=hr i e.symm;omega)).trans (h.block i hi)⟩
theorem HG.box(h:HG x y){g:Nat}{d k o r:Value}(b:jU x g d k o r c):jU y g d k o r c:=(b.new h.gb).heap (x:={x with heap:=y.heap}) rfl
theorem q99{b:Nat}{Y1 Y2 Y3 Y4:Option Addr}{Yn1 Yc1 Yn2 Yc2 Yn3 Yc3 Yn4 Yc4:Nat}(hF:jw x b (.agg #[.slice Y1 Yn1 Yc1,.slice Y2 Yn2 Yc2,.slice Y3 Yn3 Yc3,.slice Y4 Yn4 Yc4]) c)(hB:Blk x R 29 #[.slice Y1 Yn1 Yc1,.slice Y2 Yn2 Yc2,.slice Y3 Yn3 Yc3,.slice Y4 Yn4 Yc4]):jU x R (.slice Y1 Yn1 Yc1) (.slice Y2 Yn2 Yc2) (.slice Y3 Yn3 Yc3) (.slice Y4 Yn4 Yc4) c:=by
 obtain⟨d',k',o',r',e,h1,h2,h3,h4⟩:=hF.cv;injection e with e;injection e with e;injection e with e1 e;injection e with e2 e;injection e with e3 e;injection e with e4 e;subst e1 e2 e3 e4;exact⟨hB,h1,h2,h3,h4⟩
end
theorem qd7{ts:Array Value}{p0 p1 p2 tc tm tv tb tx tk:Nat}{a0 a1 a2 v:Value}{b:Bool}{R t:Nat}{u:Value}(h:[p0,p1,p2,tc,tm,tv,tb,tx,tk].all (λx=>x != t)=true)(hu:ts[t]?=some u) :
   (qb0 (((ts.setIfInBounds p0 a0).setIfInBounds p1 a1).setIfInBounds p2 a2) tc tm tv tb tx tk v b R)[t]?=some u:=by
 simp only[all_cons,all_nil,Bool.and_true,Bool.and_eq_true,bne_iff_ne]at h;obtain⟨h1,h2,h3,h4,h5,h6,h7,h8,h9⟩:=h;unfold qb0;rw[qai h9,qai h8,qai h7,qai h6,qai h5,qai h4,qai h3,qai h2,qai h1];exact hu
theorem jb{ts:Array Value}{tc tm tv tb tx tk:Nat}{v:Value}{b:Bool}{R:Nat}:(qb0 ts tc tm tv tb tx tk v b R).size=ts.size:=by simp[qb0]
theorem qhp{ts:Array Value}{tc tm tv tb tx tk:Nat}{v:Value}{b:Bool}{R:Nat}(h:tk≠tx)(hx:tx<ts.size):(qb0 ts tc tm tv tb tx tk v b R)[tx]?=some (.pointer (some ⟨R,0,none⟩)):=by
 unfold qb0;rw[qai h,getSet (by simpa using hx)]
theorem qhq{ts:Array Value}{tc tm tv tb tx tk:Nat}{v:Value}{b:Bool}{R:Nat}(hk:tk<ts.size):(qb0 ts tc tm tv tb tx tk v b R)[tk]?=some (.bool b):=by
 unfold qb0;rw[getSet (by simpa using hk)]
section
variable {gr:Grd}{M:Mks gr.base}{Post:Value->World->Prop}{Sh:Nat->Prop}{Fz:Loc->Prop}{T:Nat->qA}{n0:Nat}{w z:World}
theorem jy(OO:∀M:Mks gr.base,zL (gr.base.pen M))(hb:Both (gr.base.pen M) w z){pv cv:Value}{nw:Int}{qa:List Node}{l:List Int}{ea:Addr}
   (hp:RN z pv qa) (hl:RI z cv l) (hE:qm z ea) (hx:∀x∈l,x<9223372036854775808) (O:zx (gr.base.pen M) Sh Fz) (hT:∀i,i≠0->T i=.left) (hn0:0<n0) (vN:n0<2000000000)
   {b:Frame} (hk:b.kind≠.early) {ts:Array Value} (zy:∀v,v∈ts->Ok gr.A gr.F v) {NT:Nat} (hs:ts.size=NT) {ops:Array Oper} {q0 q1 q2 p0 p1 p2 tc tm tv tb tx tk:Nat} (S:xB ops 3 p0 p1 p2 tc tm tv tb tx tk)
   {y0 y1 y2:TypeId} {s0 s1 s2:String} {a0 a1 a2:Array Edge} (m0:ops[0]?=some ⟨some p0,.move (.tmp q0),y0,s0,a0,none⟩) (m1:ops[1]?=some ⟨some p1,.move (.tmp q1),y1,s1,a1,none⟩) (m2:ops[2]?=some ⟨some p2,.move (.tmp q2),y2,s2,a2,none⟩)
   (hpv:ts[q0]?=some pv) (hnw:ts[q1]?=some (.int .i64 nw)) (hcv:ts[q2]?=some cv)
   (lts:[p0,p1,p2,tc,tm,tv,tb,tx,tk].all (λx=>decide (x<NT))=true) (nes:decide (tv≠tm/\tb≠tv/\tx≠tv/\tx≠tb/\p0≠q1/\p0≠q2/\p1≠q2/\p1≠p0/\p2≠p0/\p2≠p1)=true)
   {k:List Item} {cs:List Frame}
   (next:∀w' z' (M':Mks gr.base) Sh' Fz' T' n' A1 m1 c1 A2 m2 c2 A3 m3 c3 A4 m4 c4 R,M.Le M'->Both (gr.base.pen M') w' z'->HG z z'->zx (gr.base.pen M') Sh' Fz'->qn (gr.base.pen M) (λr=>w.heap.size<=r) w w'->(∀i,i≠0->T' i=.left)->n0<=n'->n'<=n0+4 ->
    jw z' z.heap.size (.agg #[.slice A1 m1 c1,.slice A2 m2 c2,.slice A3 m3 c3,.slice A4 m4 c4]) ((qas qa nw l).getD qdk)->Blk z' R 29 #[.slice A1 m1 c1,.slice A2 m2 c2,.slice A3 m3 c3,.slice A4 m4 c4]->z.heap.size<=R ->
    (∀v,v∈qb0 (((ts.setIfInBounds p0 pv).setIfInBounds p1 (.int .i64 nw)).setIfInBounds p2 cv) tc tm tv tb tx tk (.agg #[.slice A1 m1 c1,.slice A2 m2 c2,.slice A3 m3 c3,.slice A4 m4 c4]) (qas qa nw l).isSome R->Ok gr.A gr.F v) ->
    qc prog Post Sh' Fz' T' n' 0 0 (G (b.at ⟨qb0 (((ts.setIfInBounds p0 pv).setIfInBounds p1 (.int .i64 nw)).setIfInBounds p2 cv) tc tm tv tb tx tk (.agg #[.slice A1 m1 c1,.slice A2 m2 c2,.slice A3 m3 c3,.slice A4 m4 c4]) (qas qa nw l).isSome R,[]⟩ k) cs) w') :
   qc prog Post Sh Fz T n0 0 0 (G (b.at ⟨ts,[]⟩ (.inRegion ops [0,1,2,3,4,5,6,7,8,9]::k)) cs) w:=by
 subst hs;simp only[all_cons,all_nil,Bool.and_true,Bool.and_eq_true,decide_eq_true_eq]at lts nes;obtain⟨l0,l1,l2,l3,l4,l5,l6,l7,l8⟩:=lts;obtain⟨n1,n2,n3,n4,n5,n6,n7,n8,n9,n10⟩:=nes;refine qea (OO _) zy hb (O.alone hT) (qaq hT) hk m0 hpv (λw1 z1 hb1 hz1 hh1 ok1=>?_);refine qea (OO _) ok1 hb1 (O.alone hT) (qaq hT) hk m1 ((qai n5).trans hnw) (λw2 z2 hb2 hz2 hh2 ok2=>?_);refine qea (OO _) ok2 hb2 (O.alone hT) (qaq hT) hk m2 ((qai n7).trans ((qai n6).trans hcv)) (λw3 z3 hb3 hz3 hh3 ok3=>?_);have ez:z.heap=z3.heap:=(hz3.trans (hz2.trans hz1)).symm;have hg3:HG z z3:=qcs ez.symm
 refine qis OO hb3 (hp.heap ez) (hl.heap ez) (hg3.err hE) hx O hT hn0 vN hk ok3 S ((qai n9).trans ((qai n8).trans (getSet l0))) ((qai n10).trans (getSet (by simpa using l1))) (getSet (by simpa using l2)) (by simpa using l3) (by simpa using l4) (by simpa using l5) (by simpa using l6) (by simpa using l7) n1 n2 n3 n4
  (λw4 z4 M4 Sh4 Fz4 T4 n4 A1 m1 c1 A2 m2 c2 A3 m3 c3 A4 m4 c4 R hle hb4 hg4 O4 hh4 hT4 hn4 xS hF hB hR ok4=>?_)
 refine qan ?_;have hsz:w.heap.size<=w3.heap.size:=((hh1.trans hh2).trans hh3).size;have ezs:z3.heap.size=z.heap.size:=by rw[ez]
 exact next w4 z4 M4 Sh4 Fz4 T4 n4 A1 m1 c1 A2 m2 c2 A3 m3 c3 A4 m4 c4 R hle hb4 (hg3.trans hg4) O4 (((hh1.trans hh2).trans hh3).but.trans (hh4.mono (λr hr=>Nat.le_trans hsz hr))) hT4 hn4 xS (by rw[<-ezs];exact hF) hB (by rw[<-ezs];exact hR) ok4
end
end
end Go.Proofs.YtacemdoejblgaaaGreatDoor

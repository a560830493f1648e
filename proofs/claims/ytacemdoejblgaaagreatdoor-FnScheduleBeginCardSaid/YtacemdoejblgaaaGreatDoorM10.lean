/- Part M10. Conditions: each statement's. -/
import Derived.Test.YtacemdoejblgaaaGreatDoorM09
namespace Go.Proofs.YtacemdoejblgaaaGreatDoor
open List Tryz
set_option maxRecDepth 100000
set_option maxHeartbeats 6400000
section
open Go.Conc Go.RowKit Go.Conc.Lib Go.ConcR.Gen
open Go.ConcR (KK WgAt stA smA Payload)
section
variable {gr:Grd}{M1:Mks gr.base}{S:List String}{Post:Value->World->Prop}{Sh:Nat->Prop}{Fz:Loc->Prop}{n0 m0 N fl:Nat}{csv:Value}{chs:List Nat}{α:Type}{step:α->Nat->α}{D L:α->World->Prop}{cs:List Frame}{kk:List Item}
def turns{α:Type}(step:α->Nat->α)(N:Nat)(c:α)(l:List Nat):α:=l.foldl (λc x=>step c (x%N)) c
theorem qwi(W:Task gr m0 N fl csv chs step D L)(H:zw (gr.base.pen M1) S)(zF:qf4 (gr.base.pen M1) S (gr.X 71) qz)(hM:jP m0 N M1)(O:zx (gr.base.pen M1) Sh Fz)
   (lt1:∀r,Sh r->r<m0) (hN0:gr.N0<=m0) (hn0:0<n0) (hN1:1<=N) (hlen:chs.length<1000000) {c0:α} {w0:World}
   (next:∀tm T w z,Both (gr.base.pen M1) w z->D (turns step N c0 chs) z->zD m0 N N fl w->jQ m0 N n0 N T->qn (gr.base.pen M1) (λr=>m0<=r) w0 w->jM m0 N fl csv tm->qc prog Post (qcx m0 Sh) (qdc m0 N Fz) T (n0+N) 0 0 (G ((base 43).at ⟨tm,[]⟩ kk) cs) w) :
   ∀r i tm T w z c,i+r=chs.length->turns step N c (chs.drop i)=turns step N c0 chs->Both (gr.base.pen M1) w z->D c z->zD m0 N N fl w->jQ m0 N n0 N T->qn (gr.base.pen M1) (λr=>m0<=r) w0 w->jM m0 N fl csv tm->tm[29]?=some csv->tm[30]?=some (.int .i64 (chs.length:Nat))->tm[31]?=some (.int .i64 i) ->
    qc prog Post (qcx m0 Sh) (qdc m0 N Fz) T (n0+N) 0 0 (G ((base 43).at ⟨tm,[]⟩ (.code qc2::.inLoop qc2::.inBlock 2::kk)) cs) w:=by
 intro r
 induction r with
 |zero=>
  intro i tm T w z c hi hc hb hz C R hh hs h29 h30 h31;obtain rfl:i=chs.length:=by omega
  rw[drop_length]at hc;have hz':D (turns step N c0 chs) z:=by rw[<-hc];exact hz
  obtain⟨v0,v1,v2,v3,v4,v5,v6,v7,v8,v9,v10,v11,v12,v13,v14,v15,v16,v17,v18,v19,v20,v21,v22,v23,v24,v25,v26,v27,v28,v29,v30,v31,v32,v33,v34,v35,v36,v37,v38,v39,v40,v41,v42,v43,v44,v45,v46,v47,v48,v49,v50,v51,v52,v53,v54,rfl⟩:=qj0 tm hs.size;have s0:=hs.s0;have s1:=hs.s1;have s2:=hs.s2;have s3:=hs.s3;have s6:=hs.s6;have s7:=hs.s7;have s8:=hs.s8;simp only[getElem?_toArray,getElem?_cons_zero,getElem?_cons_succ,Option.some.injEq]at s0 s1 s2 s3 s6 s7 s8 h29 h30 h31;replace s2:=s2.symm;subst s0 s1 s2 s3 s6 s7 s8 h30 h31;replace h29:=h29.symm;subst h29;clear hs;have qaR:decide (((chs.length:Nat):Int)<((chs.length:Nat):Int))=false:=by simp
  generalize hl:qc2=lp;simp only[<-hl,qc2,qib,qjw,qiq,f43,Option.getD_some];refine qao ?_;refine qau ?_;simp only[List.size_toArray,length_cons,length_nil,Nat.zero_add,range,range.loop];refine qa2 (.bool false) rfl rfl (by decide) (λw=>by go_simp) (λw=>by simp[go_sem]) ?_;walk_nrm;refine qan ?_;refine qao ?_;refine qiw (t:=false) rfl ?_;simp only[Bool.false_eq_true,if_false];refine qxr rfl ?_;exact next _ _ _ _ hb hz' C R hh ⟨rfl,rfl,rfl,rfl,rfl,rfl,rfl,rfl⟩
 |succ r ih=>
  intro i tm T w z c hi hc hb hz C R hh hs h29 h30 h31;have hil:i<chs.length:=by omega
  refine q34 W H zF hb hz C hM O lt1 hN0 hn0 hN1 R hs h29 h30 h31 hil hlen (λtm' T' w' z' hb' hz' C' R' hh' hs' qlH qlI qlJ=>?_);refine qsc ?_;refine ih (i+1) tm' T' w' z' _ (by omega) ?_ hb' hz' C' R' (hh.trans hh') hs' qlH qlI qlJ;rw[<-hc,drop_eq_getElem_cons hil];rfl
theorem q15(W:Task gr m0 N fl csv chs step D L)(H:zw (gr.base.pen M1) S)(zF:qf4 (gr.base.pen M1) S (gr.X 71) qz)(hM:jP m0 N M1)(O:zx (gr.base.pen M1) Sh Fz)
   (lt1:∀r,Sh r->r<m0) (hN0:gr.N0<=m0) (hn0:0<n0) (hN1:1<=N) (hlen:chs.length<1000000) {c0:α} {w z:World} {T:Nat->qA} {tm:Array Value} (hb:Both (gr.base.pen M1) w z) (hz:D c0 z) (C:zD m0 N N fl w) (R:jQ m0 N n0 N T) (hs:jM m0 N fl csv tm)
   (next:∀tm T w' z,Both (gr.base.pen M1) w' z->D (turns step N c0 chs) z->zD m0 N N fl w'->jQ m0 N n0 N T->qn (gr.base.pen M1) (λr=>m0<=r) w w'->jM m0 N fl csv tm->qc prog Post (qcx m0 Sh) (qdc m0 N Fz) T (n0+N) 0 0 (G ((base 43).at ⟨tm,[]⟩ [.code qtw]) cs) w') :
   qc prog Post (qcx m0 Sh) (qdc m0 N Fz) T (n0+N) 0 0 (G ((base 43).at ⟨tm,[]⟩ [.code qib]) cs) w:=by
 obtain⟨v0,v1,v2,v3,v4,v5,v6,v7,v8,v9,v10,v11,v12,v13,v14,v15,v16,v17,v18,v19,v20,v21,v22,v23,v24,v25,v26,v27,v28,v29,v30,v31,v32,v33,v34,v35,v36,v37,v38,v39,v40,v41,v42,v43,v44,v45,v46,v47,v48,v49,v50,v51,v52,v53,v54,rfl⟩:=qj0 tm hs.size;have s0:=hs.s0;have s1:=hs.s1;have s2:=hs.s2;have s3:=hs.s3;have s6:=hs.s6;have s7:=hs.s7;have s8:=hs.s8;simp only[getElem?_toArray,getElem?_cons_zero,getElem?_cons_succ,Option.some.injEq]at s0 s1 s2 s3 s6 s7 s8;replace s2:=s2.symm;subst s0 s1 s2 s3 s6 s7 s8;clear hs
 have hk:∀(tm':Array Value),jM m0 N fl csv tm'->tm'[29]?=some csv->tm'[30]?=some (.int .i64 (chs.length:Nat))->tm'[31]?=some (.int .i64 (0:Nat))->qc prog Post (qcx m0 Sh) (qdc m0 N Fz) T (n0+N) 0 0 (G ((base 43).at ⟨tm',[]⟩ [.code qc2,.inLoop qc2,.inBlock 2,.code qtw]) cs) w:=λtm' h1 h2 h3 h4=>
  qwi W H zF hM O lt1 hN0 hn0 hN1 hlen next chs.length 0 tm' T w z c0 (by omega) rfl hb hz C R (.refl _ _ _) h1 h2 h3 h4
 have e0:qib=.seq (.seq (match qib with | .seq (.seq x _) _=>x|_=>.skip) (.block 2 (.loop qc2))) qtw:=rfl;rw[e0];clear e0;obtain⟨A,cap,qbM⟩:=W.form;generalize qc2=lp at hk |-;generalize qtw=r3 at hk |-;simp only[qib,qjw,qiq,f43,Option.getD_some];refine qao ?_;refine qao ?_;refine qau ?_;simp only[List.size_toArray,length_cons,length_nil,Nat.reduceAdd,Nat.zero_add,range,range.loop];refine qa2 csv rfl rfl (by decide) (λw=>by go_simp) (λw=>by simp[go_sem]) ?_;walk_nrm;refine qa2 (.int .i64 (chs.length:Nat)) rfl rfl (by decide) (λw=>by rw[qbM];go_simp) (λw=>by rw[qbM];simp[go_sem]) ?_;walk_nrm;refine qa2 (.int .i64 (0:Nat)) rfl rfl (by decide) (λw=>by go_simp) (λw=>by simp[go_sem]) ?_;walk_nrm;refine qan ?_;refine qgb ?_;refine qrb ?_;exact hk _ ⟨rfl,rfl,rfl,rfl,rfl,rfl,rfl,rfl⟩ rfl rfl rfl
end
end
section
open Go.Conc Go.RowKit Go.Conc.Lib Go.ConcR.Gen
open Go.ConcR (KK WgAt stA smA Payload)
open Go.ConcN (upd upd_ne upd_same WgLive PayAt sumTo)
open Go.ConcN.Gen (AnchWN)
instance qsX:Payload:=⟨3⟩
def BxC(m0 N r:Nat):Prop:=∃j,j<N/\r=m0+6+2*j
section
variable {B:Base}{M:Mks B}{ty:TypeId}{Wg:Nat}{Bx:Nat->Prop}{w w' z:World}
theorem Both.rm(hb:Both (B.pen M) w z)(hr:RM ty Wg Bx w w')(hW:M.Z Wg)(hBx:∀r,Bx r->M.Z r)(hl:WgLive ty Wg w)(hp:∀r,Bx r->PayAt r 1 w):Both (B.pen M) w' (z.at w'.drawn):=by
 refine⟨⟨hr.size.trans hb.rel.size,hr.os.trans hb.rel.os,by rw[hr.size];exact hb.rel.room,λr hpr=>?_,λr hB hnp=>?_,hb.rel.cln,hb.rel.chn,rfl⟩,by rw[hr.tape];exact hb.tape⟩
 . obtain⟨c',c,e,fr,h1,h2,h3,h4,h5,h6⟩:=hb.rel.part r hpr;by_cases e1:r=Wg
   . subst e1;obtain⟨st,sm,hw⟩:=hl;obtain⟨st',sm',hw'⟩:=hr.live ⟨st,sm,hw⟩;have hw0:w.heap[r]?=some (Go.ConcR.wgBlock ty st sm):=hw;rw[h2]at hw0;simp only[Go.ConcR.wgBlock,Option.some.injEq,Obj.cells.injEq]at hw0;obtain⟨-,rfl,-⟩:=hw0;refine⟨c',_,e,(0,0),h1,hw',by rw[h4 hW];exact Nat.zero_le _,h4,λi x hx=>?_,.inl rfl,h6.2⟩;rw[h4 hW]at hx;simp at hx
   . by_cases e2:Bx r
     . obtain⟨cs,hw,-⟩:=hp r e2;obtain⟨cs',hw',-⟩:=hr.box r e2 (hp r e2);rw[h2]at hw;simp only[Option.some.injEq,Obj.cells.injEq]at hw;obtain⟨-,rfl,-⟩:=hw;have hZ:=hBx r e2;refine⟨c',_,_,(0,0),h1,hw',by rw[h4 hZ];exact Nat.zero_le _,h4,λi x hx=>?_,.inl rfl,h6.2⟩;rw[h4 hZ]at hx;simp at hx
     . exact⟨c',c,e,fr,h1,(hr.block r e1 e2).trans h2,h3,h4,h5,h6⟩
 . exact(hr.block r (λe=>hnp (M.zp r (e▸hW))) (λe=>hnp (M.zp r (hBx r e)))).trans (hb.rel.same r hB hnp)
end
section
variable {P:Program}{ty:TypeId}{Wg:Nat}{Bx:Nat->Prop}{Sh:Nat->Prop}{Fz:Loc->Prop}{Stop:Goroutine->World->Prop}{m:Nat}{w:World}
 {b:Frame} {a:Act} {k:List Item} {cs:List Frame} {ops:Array Oper} {i:Nat} {rest:List Nat} {o:Oper}
theorem qfh{g g':Goroutine}(hs:g.status=.running)(h:∀w,stepG P true g w=.go g' w #[])(H:Goes P true (RM ty Wg Bx) (DM Wg Sh Fz) Stop m g' w):Goes P true (RM ty Wg Bx) (DM Wg Sh Fz) Stop (m+1) g w:=
 Goes.step hs (λw₁ h₁=>by rw[h];exact⟨qgj _,Goes.rely (λ_ _ _ a b=>a.trans b) H h₁⟩)
theorem qya(v:Value)(ho:ops[i]?=some o)(hw:Region.wanted o (yielded ops a.tmps)=true)(hk:b.kind≠.early)(hr:∀w,(execOp a.eval o).run P w=.ok (.value v) w)(he:∀w,(execOp a.eval o).events P w #[]=#[])
   (H:Goes P true (RM ty Wg Bx) (DM Wg Sh Fz) Stop m (G (b.at (a.put o.dst v) (.inRegion ops rest::k)) cs) w):Goes P true (RM ty Wg Bx) (DM Wg Sh Fz) Stop (m+1) (G (b.at a (.inRegion ops (i::rest)::k)) cs) w:=
 qfh rfl (λw=>by rw[stepG_value ho hw hk (hr w)];unfold listed;rw[he w,seen_none]) H
theorem qlK{ad:Addr}{v:Value}(hc:w.cell? ad=some v)(hW:ad.block≠Wg)(hB:¬Bx ad.block)(hSh:¬Sh ad.block)(ho:ops[i]?=some o)(hw:Region.wanted o (yielded ops a.tmps)=true)(hk:b.kind≠.early)
   (hr:∀w,w.cell? ad=some v->(execOp a.eval o).run P w=.ok (.value v) w) (he:∀w,w.cell? ad=some v->(execOp a.eval o).events P w #[]=#[⟨.cell ad,false,false⟩])
   (H:Goes P true (RM ty Wg Bx) (DM Wg Sh Fz) Stop m (G (b.at (a.put o.dst v) (.inRegion ops rest::k)) cs) w):Goes P true (RM ty Wg Bx) (DM Wg Sh Fz) Stop (m+1) (G (b.at a (.inRegion ops (i::rest)::k)) cs) w:=
 Goes.step rfl (λw₁ h₁=>by
  have hc1:w₁.cell? ad=some v:=by
   unfold World.cell? at hc |-;rw[h₁.block _ hW hB];exact hc
  obtain⟨_,c,e,fr,hb,_⟩:=qev hc1;have hlt:=(Array.getElem?_eq_some_iff.1 hb).1;rw[stepG_value ho hw hk (hr w₁ hc1)];unfold listed;rw[he w₁ hc1];refine⟨⟨rfl,λe he'=>?_⟩,Goes.rely (λ_ _ _ a b=>a.trans b) H h₁⟩;have:=mem_seen he';rw[Array.mem_singleton]at this;subst this;exact⟨⟨λx hx=>(by cases hx;exact⟨λk=>absurd k hSh,λk=>by cases k⟩),λx hx=>(by cases hx;exact hlt)⟩,(λh=>by cases h),(λh=>by cases h),(λh=>by cases h)⟩)
theorem q16{g g':Goroutine}(hs:g.status=.running)(h:∀w,stepG P true g w=.go g' w #[])(H:∃m,Goes P true (RM ty Wg Bx) (DM Wg Sh Fz) Stop m g' w):∃m,Goes P true (RM ty Wg Bx) (DM Wg Sh Fz) Stop m g w:=by
 obtain⟨m,H⟩:=H;exact⟨m+1,qfh hs h H⟩
theorem qhG(v:Value)(ho:ops[i]?=some o)(hw:Region.wanted o (yielded ops a.tmps)=true)(hk:b.kind≠.early)(hr:∀w,(execOp a.eval o).run P w=.ok (.value v) w)(he:∀w,(execOp a.eval o).events P w #[]=#[])
   (H:∃m,Goes P true (RM ty Wg Bx) (DM Wg Sh Fz) Stop m (G (b.at (a.put o.dst v) (.inRegion ops rest::k)) cs) w):∃m,Goes P true (RM ty Wg Bx) (DM Wg Sh Fz) Stop m (G (b.at a (.inRegion ops (i::rest)::k)) cs) w:=by
 obtain⟨m,H⟩:=H;exact⟨m+1,qya v ho hw hk hr he H⟩
theorem qlL{f:FuncId}{fn:Func}{c:Code}{args:Array Operand}{ats:Array TypeId}(ho:ops[i]?=some o)(hw:Region.wanted o (yielded ops a.tmps)=true)(hk:b.kind≠.early)(hop:o.op=.call {callee:=.value (.func f),args,argTypes:=ats})
   (hf:P.funcs[f]?=some fn) (hname:(fn.name == "runtime.NumGoroutine")=false) (hb:fn.body=some c)
   (H:Goes P true (RM ty Wg Bx) (DM Wg Sh Fz) Stop m (G ((base f).at {tmps:=args.map a.eval++Array.replicate (fn.ntmps-(args.map a.eval).size) undef,defers:=[]} [.code c]) (b.at a (.inRegion ops (i::rest)::k)::cs)) w) :
   Goes P true (RM ty Wg Bx) (DM Wg Sh Fz) Stop (m+1) (G (b.at a (.inRegion ops (i::rest)::k)) cs) w:=by
 have hb':fn.body.isNone=false:=by rw[hb];rfl
 refine qfh rfl (λw=>?_) H;rw[stepG_enter ho hw hk (run_call_body hop hf hname hb'),enter_at _ hf hb];have:listed P b.fn a o w=#[]:=by unfold listed;rw[events_call_body hop hf hname hb'];exact seen_none P _
 rw[this]
end
theorem q35{P:Program}{main:Bool}{b:Frame}{a:Act}{k:List Item}{cs:List Frame}{ops:Array Oper}{i:Nat}{rest:List Nat}{o:Oper}{c κ:Nat}{w:World}(ho:ops[i]?=some o)(hw:Region.wanted o (yielded ops a.tmps)=true)(hk:b.kind≠.early)
   (hr:(execOp a.eval o).run P w=.ok (.value (.tuple #[])) (w.setChan c 0 #[] true κ κ false)) (he:(execOp a.eval o).events P w #[]=#[⟨.obj c,false,true⟩,⟨.obj c,true,true⟩]) (hl:(P.funcs[b.fn]?).any (·.norace)=false) :
   stepG P main (G (b.at a (.inRegion ops (i::rest)::k)) cs) w=.go (G (b.at (a.put o.dst (.tuple #[])) (.inRegion ops rest::k)) cs) (w.setChan c 0 #[] true κ κ false) #[⟨.obj c,false,true⟩,⟨.obj c,true,true⟩]:=by
 rw[stepG_value ho hw hk hr];unfold listed;rw[he,seen_eq hl (by simp)]
theorem qjc{P:Program}{main:Bool}{R:World->World->Prop}{D:World->World->Array Event->Prop}{A A':Goroutine->World->Prop}(h:∀g w,A g w->A' g w):∀{m:Nat} {g:Goroutine} {w:World},Goes P main R D A m g w->Goes P main R D A' m g w
 |0,g,w,H=>λw₁ h₁=>h _ _ (H w₁ h₁)
 |m+1,g,w,H=>by
  rcases H with H|⟨hs,H⟩
  . exact .inl (λw₁ h₁=>h _ _ (H w₁ h₁))
  . refine .inr ⟨hs,λw₁ h₁=>?_⟩;obtain⟨g',w',es,e1,e2,e3⟩:=goes_elim (H w₁ h₁);rw[e1];exact⟨e2,qjc h e3⟩
theorem qlM{P:Program}{ty:TypeId}{Wg:Nat}{Bx:Nat->Prop}{Sh:Nat->Prop}{Fz:Loc->Prop}{A A':Goroutine->World->Prop}(h:∀g w,A g w->A' g w){g:Goroutine}{w:World}(H:MKd P ty Wg Bx Sh Fz A g w):MKd P ty Wg Bx Sh Fz A' g w:=by
 obtain⟨h1,g',h2,m,h3⟩:=H;exact⟨h1,g',h2,m,qjc h h3⟩
structure jz(gr:Grd)(M1:Mks gr.base)(m0 N:Nat)(D:World->Prop)(w₀ w:World):Prop where
 both:∃z,Both (gr.base.pen M1) w z/\D z
 row:∃arr,w.heap[m0+2]?=some (.cells arr 107)/\arr.size=N/\∀j,j<N->arr[j]?=some (.chan (some (m0+7+2*j)))
 pay:∀j,j<N->PayAt (m0+6+2*j) 1 w
 live:WgLive wgL.tWg (m0+1) w
 held:qn (gr.base.pen M1) (λr=>m0<=r) w₀ w
section
variable {gr:Grd}{M1:Mks gr.base}{m0 N:Nat}{D:World->Prop}{w₀ w w':World}
theorem jz.rm(hD:∀x y,x.heap=y.heap->D x->D y)(hM:jP m0 N M1)(S:jz gr M1 m0 N D w₀ w)(hr:RM wgL.tWg (m0+1) (BxC m0 N) w w'):jz gr M1 m0 N D w₀ w':=by
 obtain⟨⟨z,hb,hz⟩,hrow,hpay,yF,kJ⟩:=S;refine⟨⟨z.at w'.drawn,hb.rm hr hM.z1 (λr ⟨j,hj,e⟩=>e▸hM.zb j hj) yF (λr ⟨j,hj,e⟩=>e▸hpay j hj),hD z _ rfl hz⟩,?_,λj hj=>hr.box _ ⟨j,hj,rfl⟩ (hpay j hj),hr.live yF,kJ.trans ⟨λr hr1 _=>hr.block r (λe=>hr1 (by show m0<=r;omega)) (λ⟨j,_,e⟩=>hr1 (by show m0<=r;omega)),by rw[hr.size];exact Nat.le_refl _,hr.os,hr.output,hr.tape⟩⟩;rw[hr.block (m0+2) (by omega) (λ⟨j,_,e⟩=>by omega)];exact hrow
theorem jz.close(hDc:∀x r κ κ' b,m0<=r->D x->x.heap[r]?=some (.chan 0 #[] false κ κ false)->D (x.setChan r 0 #[] b κ' κ' false))(hN0:gr.N0<=m0)(hM:jP m0 N M1)(S:jz gr M1 m0 N D w₀ w){j κ:Nat}(hj:j<N)(hκ:w.heap[m0+7+2*j]?=some (.chan 0 #[] false κ κ false)) :
   jz gr M1 m0 N D w₀ (w.setChan (m0+7+2*j) 0 #[] true κ κ false):=by
 obtain⟨⟨z,hb,hz⟩,hrow,hpay,⟨st,sm,yF⟩,kJ⟩:=S;have hzc:z.heap[m0+7+2*j]?=some (.chan 0 #[] false κ κ false):=(hb.yl ⟨_,gr.fresh ⟨m0+7+2*j,0,none⟩ (by show gr.N0<=m0+7+2*j;omega),rfl⟩ (hM.nc j hj)).trans hκ;refine⟨⟨_,hb.setChan (hM.nc j hj) 0 #[] true κ κ false,hDc z _ κ κ true (by omega) hz hzc⟩,?_,λi hi=>?_,⟨st,sm,?_⟩,kJ.trans (.chan (X:=λr=>m0<=r) (by show m0<=m0+7+2*j;omega) _ _ _ _ _ _)⟩
 . rw[qci,if_neg (by omega)];exact hrow
 . obtain⟨cs,h1,h2⟩:=hpay i hi;exact⟨cs,by rw[qci,if_neg (by omega)];exact h1,h2⟩
 . show (w.setChan (m0+7+2*j) 0 #[] true κ κ false).heap[m0+1]?=_;rw[qci,if_neg (by omega)];exact yF
end
noncomputable def qeh:Code:=match qtw with | .seq (.seq _ (.block _ (.loop c))) _=>c|_=>.skip
noncomputable def q17:Code:=match qtw with | .seq _ c=>c|_=>.skip
noncomputable def q36:Array Oper:=match q17 with | .region _ ops _=>ops|_=>#[]
def chl(m0:Nat):Nat->Nat->List Nat
 |_,0=>[]
 |K,r+1=>(m0+7+2*K)::chl m0 (K+1) r
theorem qlN:(Tryz.prog.funcs[(base 43).fn]?).any (·.norace)=false:=by kernel_rfl
section
variable {gr:Grd}{M1:Mks gr.base}{m0 N fl:Nat}{csv:Value}{D:World->Prop}{w₀:World}{Sh:Nat->Prop}{Fz:Loc->Prop}{cs:List Frame}
noncomputable def qlO(tm:Array Value):Frame:=(base 43).at ⟨tm,[]⟩ [.inRegion q36 [0]]
def q9u(gr:Grd)(M1:Mks gr.base)(m0 N:Nat)(D:World->Prop)(w₀:World)(cs:List Frame)(g:Goroutine)(w:World):Prop:=∃tm,AnchWN wgL (jz gr M1 m0 N D w₀) (m0+1) (qlO tm) cs g w
theorem q7g(hD:∀x y,x.heap=y.heap->D x->D y)(hDc:∀x r κ κ' b,m0<=r->D x->x.heap[r]?=some (.chan 0 #[] false κ κ false)->D (x.setChan r 0 #[] b κ' κ' false))(hN0:gr.N0<=m0)(hN:N<=4)(hM:jP m0 N M1)(nsh:¬Sh (m0+2)) :
   ∀r K tm w,K+r=N->jz gr M1 m0 N D w₀ w->jM m0 N fl csv tm->tm[46]?=some (.slice (some ⟨m0+2,0,none⟩) N N)->tm[47]?=some (.int .i64 N)->tm[48]?=some (.int .i64 K) ->
    ∃m,Goes prog true (RM wgL.tWg (m0+1) (BxC m0 N)) (DM (m0+1) Sh Fz) (MCl prog wgL.tWg (m0+1) (BxC m0 N) Sh Fz (q9u gr M1 m0 N D w₀ cs) (chl m0 K r)) m (G ((base 43).at ⟨tm,[]⟩ [.code qeh,.inLoop qeh,.inBlock 4,.code q17]) cs) w:=by
 intro r
 induction r with
 |zero=>
  intro K tm w hK S hs h46 h47 h48;obtain rfl:K=N:=by omega
  obtain⟨v0,v1,v2,v3,v4,v5,v6,v7,v8,v9,v10,v11,v12,v13,v14,v15,v16,v17,v18,v19,v20,v21,v22,v23,v24,v25,v26,v27,v28,v29,v30,v31,v32,v33,v34,v35,v36,v37,v38,v39,v40,v41,v42,v43,v44,v45,v46,v47,v48,v49,v50,v51,v52,v53,v54,rfl⟩:=qj0 tm hs.size;have s0:=hs.s0;have s1:=hs.s1;have s2:=hs.s2;have s3:=hs.s3;have s6:=hs.s6;have s7:=hs.s7;have s8:=hs.s8;simp only[getElem?_toArray,getElem?_cons_zero,getElem?_cons_succ,Option.some.injEq]at s0 s1 s2 s3 s6 s7 s8 h46 h47 h48;replace s2:=s2.symm;subst s0 s1 s2 s3 s6 s7 s8 h46 h47 h48;clear hs;have qaR:decide ((K:Int)<(K:Int))=false:=by simp
  obtain⟨m',hm'⟩:=q7i (Sh:=Sh) (Fz:=Fz) (Bx:=BxC m0 K) (F:=jz gr M1 m0 K D w₀) (Wg:=m0+1) (b₀:=base 43) (a₀:=⟨#[.pointer (some ⟨fl,0,none⟩),.int .i64 K,csv,.pointer (some ⟨m0,0,none⟩),v4,v5,.pointer (some ⟨m0+1,0,none⟩),.pointer (some ⟨m0+3,0,none⟩),.pointer (some ⟨m0+5,0,none⟩),v9,v10,v11,v12,v13,v14,v15,v16,v17,v18,v19,v20,v21,v22,v23,v24,v25,v26,v27,v28,v29,v30,v31,v32,v33,v34,v35,v36,v37,v38,v39,v40,v41,v42,v43,v44,v45,.slice (some ⟨m0+2,0,none⟩) K K,.int .i64 K,.int .i64 K,.bool false,v50,v51,v52,v53,v54],[]⟩) (ops₀:=q36) (i₀:=0) (rest₀:=[]) (k₀:=[]) (cs:=cs) xF (λx y hr hF=>hF.rm hD hM hr) w ⟨S,S.live⟩;refine⟨m'+9,?_⟩;show Goes prog true _ _ (MKd prog wgL.tWg (m0+1) (BxC m0 K) Sh Fz (q9u gr M1 m0 K D w₀ cs)) _ _ _;replace hm':=qjc (λg x hx=>qlM (A':=q9u gr M1 m0 K D w₀ cs) (λg x hx=>⟨#[.pointer (some ⟨fl,0,none⟩),.int .i64 K,csv,.pointer (some ⟨m0,0,none⟩),v4,v5,.pointer (some ⟨m0+1,0,none⟩),.pointer (some ⟨m0+3,0,none⟩),.pointer (some ⟨m0+5,0,none⟩),v9,v10,v11,v12,v13,v14,v15,v16,v17,v18,v19,v20,v21,v22,v23,v24,v25,v26,v27,v28,v29,v30,v31,v32,v33,v34,v35,v36,v37,v38,v39,v40,v41,v42,v43,v44,v45,.slice (some ⟨m0+2,0,none⟩) K K,.int .i64 K,.int .i64 K,.bool false,v50,v51,v52,v53,v54],hx⟩) hx) hm';generalize hl:qeh=lp;simp only[<-hl,qeh,q17,qtw,qib,qjw,qiq,f43,Option.getD_some];refine qfh rfl (λ_=>stepG_seq) ?_;refine qfh rfl (λ_=>stepG_region) ?_;simp only[List.size_toArray,length_cons,length_nil,Nat.zero_add,range,range.loop];refine qya (.bool false) rfl rfl (by decide) (λw=>by go_simp) (λw=>by simp[go_sem]) ?_;walk_nrm;refine qfh rfl (λ_=>stepG_region_end) ?_;refine qfh rfl (λ_=>stepG_seq) ?_;refine qfh rfl (λ_=>stepG_cond (t:=false) rfl) ?_;simp only[Bool.false_eq_true,if_false];refine qfh rfl (λ_=>stepG_exit rfl) ?_;refine qfh rfl (λ_=>stepG_region) ?_;simp only[List.size_toArray,length_cons,length_nil,Nat.zero_add,range,range.loop];refine qlL (fn:=waitFn wgL) (c:=body_wait wgL) rfl rfl (by decide) rfl xF.f_wait (nm_wait wgL) rfl ?_;walk_nrmf waitFn;exact hm'
 |succ r ih=>
  intro K tm w hK S hs h46 h47 h48;obtain⟨v0,v1,v2,v3,v4,v5,v6,v7,v8,v9,v10,v11,v12,v13,v14,v15,v16,v17,v18,v19,v20,v21,v22,v23,v24,v25,v26,v27,v28,v29,v30,v31,v32,v33,v34,v35,v36,v37,v38,v39,v40,v41,v42,v43,v44,v45,v46,v47,v48,v49,v50,v51,v52,v53,v54,rfl⟩:=qj0 tm hs.size;have s0:=hs.s0;have s1:=hs.s1;have s2:=hs.s2;have s3:=hs.s3;have s6:=hs.s6;have s7:=hs.s7;have s8:=hs.s8;simp only[getElem?_toArray,getElem?_cons_zero,getElem?_cons_succ,Option.some.injEq]at s0 s1 s2 s3 s6 s7 s8 h46 h47 h48;replace s2:=s2.symm;subst s0 s1 s2 s3 s6 s7 s8 h46 h47 h48;clear hs;have qaR:decide ((K:Int)<(N:Int))=true:=by simp;omega
  have hK0:(0:Int)<=(K:Int):=by omega
  have hK1:(K:Int)<(N:Int):=by omega
  have hKN:K<N:=by omega
  obtain⟨arr,ra1,ra2,ra3⟩:=S.row;have hrow:w.cell? ⟨m0+2,K,none⟩=some (.chan (some (m0+7+2*K))):=by simp[World.cell?,ra1,ra3 K hKN]
  refine⟨30,?_⟩;obtain⟨lp,hl⟩:∃lp,lp=qeh:=⟨_,rfl⟩;obtain⟨wc,hw⟩:∃wc,wc=q17:=⟨_,rfl⟩;rw[show [Item.code qeh,.inLoop qeh,.inBlock 4,.code q17]=[Item.code qeh,.inLoop lp,.inBlock 4,.code wc]from by rw[hl,hw]];simp only[qeh,qtw,qib,qjw,qiq,f43,Option.getD_some];refine qfh rfl (λ_=>stepG_seq) ?_;refine qfh rfl (λ_=>stepG_region) ?_;simp only[List.size_toArray,length_cons,length_nil,Nat.zero_add,range,range.loop];refine qya (.bool true) rfl rfl (by decide) (λw=>by go_simp) (λw=>by simp[go_sem]) ?_;walk_nrm;refine qfh rfl (λ_=>stepG_region_end) ?_;refine qfh rfl (λ_=>stepG_seq) ?_;refine qfh rfl (λ_=>stepG_cond (t:=true) rfl) ?_;simp only[if_true];refine qfh rfl (λ_=>stepG_skip) ?_;refine qfh rfl (λ_=>stepG_seq) ?_;refine qfh rfl (λ_=>stepG_block) ?_;refine qfh rfl (λ_=>stepG_seq) ?_;refine qfh rfl (λ_=>stepG_region) ?_;simp only[List.size_toArray,length_cons,length_nil,Nat.reduceAdd,Nat.zero_add,range,range.loop];refine qya (.pointer (some ⟨m0+2,K,none⟩)) rfl rfl (by decide) (λw=>by go_simp) (λw=>by simp[go_sem, *]) ?_;walk_nrm;refine qlK hrow (by show m0+2≠m0+1;omega) (λ⟨j,_,e⟩=>by have e:m0+2=m0+6+2*j:=e;omega) nsh rfl rfl (by decide) (λw h=>by go_simp) (λw h=>by simp[go_sem,h]) ?_;walk_nrm;refine qya (.chan (some (m0+7+2*K))) rfl rfl (by decide) (λw=>by go_simp) (λw=>by simp[go_sem]) ?_;walk_nrm;refine qfh rfl (λ_=>stepG_region_end) ?_;refine qfh rfl (λ_=>stepG_region) ?_;simp only[List.size_toArray,length_cons,length_nil,Nat.reduceAdd,Nat.zero_add,range,range.loop];refine qya (.chan (some (m0+7+2*K))) rfl rfl (by decide) (λw=>by go_simp) (λw=>by simp[go_sem]) ?_;walk_nrm;refine Goes.stop (λw₁ h₁=>?_);have S1:=S.rm hD hM h₁;refine⟨rfl,by simp[mayWake,G,Frame.at],λκ hκ=>⟨_,q35 rfl rfl (by decide) (by have hr:=run_close_open (P:=prog) #[107] 0 hκ;simp[go_sem,hr,World.setChan]) (by have he:=events_close_open (P:=prog) (es:=#[]) #[107] 0 hκ;simp[go_sem,he]) qlN,rfl,?_⟩⟩
  . walk_nrm;have S2:=S1.close hDc hN0 hM hKN hκ;have qeR:IntKind.i64.wrap ((K:Int)+1)=((K+1:Nat):Int):=by rw[IntKind.wrap_i64];omega
    refine q16 rfl (λ_=>stepG_region_end) ?_;refine q16 rfl (λ_=>stepG_inBlock) ?_;refine q16 rfl (λ_=>stepG_region) ?_;simp only[List.size_toArray,length_cons,length_nil,Nat.reduceAdd,Nat.zero_add,range,range.loop];refine qhG (.int .i64 ((K+1:Nat):Int)) rfl rfl (by decide) (λw=>by go_simp) (λw=>by simp[go_sem]) ?_;walk_nrm;refine qhG (.int .i64 ((K+1:Nat):Int)) rfl rfl (by decide) (λw=>by go_simp) (λw=>by simp[go_sem]) ?_;walk_nrm;refine q16 rfl (λ_=>stepG_region_end) ?_;refine q16 rfl (λ_=>stepG_inLoop) ?_;rw[hl,hw];exact ih (K+1) _ _ (by omega) S2 (by exact⟨rfl,rfl,rfl,rfl,rfl,rfl,rfl,rfl⟩) (by rfl) (by rfl) (by rfl)
end
theorem qlP{P:Program}{ty:TypeId}{Wg:Nat}{Bx:Nat->Prop}{Sh:Nat->Prop}{Fz:Loc->Prop}{A A' Next:Goroutine->World->Prop}(h:∀g w,A g w->A' g w){g:Goroutine}{w:World}(H:MW1 P ty Wg Bx Sh Fz A Next g w):MW1 P ty Wg Bx Sh Fz A' Next g w:=by
 refine⟨H.1,λv hv hw=>?_⟩;obtain⟨g',h1,h2,h3⟩:=H.2 v hv hw;refine⟨g',h1,h2,λhv0=>?_⟩;obtain⟨m,hm⟩:=h3 hv0;refine⟨m,qjc (λg x hx=>⟨hx.1,λv hv hw=>⟨(hx.2 v hv hw).1,λhne=>?_⟩⟩) hm⟩;obtain⟨g',k1,m,k2⟩:=(hx.2 v hv hw).2 hne;exact⟨g',k1,m,qjc h k2⟩
def qlQ:qA->zW
 | .seat s=>s
 | .left=>⟨[],default,[],0,undef,false⟩
def qnt(m0 n0:Nat)(T:Nat->qA)(i:Nat):Hands:=⟨qlQ (T i),m0+6+2*(i-n0),.int .i64 ((i-n0:Nat):Int)⟩
theorem qzm{m0:Nat}:∀{r K c:Nat},c∈chl m0 K r↔∃j,K<=j/\j<K+r/\c=m0+7+2*j
 |0,K,c=>by simp[chl];intro j h1 h2;omega
 |r+1,K,c=>by
  rw[chl,mem_cons,qzm];constructor
  . rintro(rfl|⟨j,h1,h2,rfl⟩)
    . exact⟨K,Nat.le_refl _,by omega,rfl⟩
    . exact⟨j,by omega,by omega,rfl⟩
  . rintro⟨j,h1,h2,rfl⟩;by_cases e:j=K
    . subst e;exact .inl rfl
    . exact .inr ⟨j,by omega,by omega,rfl⟩
theorem q18{m0:Nat}:∀{r K:Nat},(chl m0 K r).Nodup
 |0,_=>nodup_nil
 |r+1,K=>by
  rw[chl,nodup_cons];refine⟨λh=>?_,q18⟩;obtain⟨j,h1,_,h3⟩:=qzm.1 h;omega
theorem q5e{f:Nat->Nat}{n0:Nat}(h0:∀i,i<n0->f i=0):∀N,(∀j,j<N->f (n0+j)=1)->sumTo (n0+N) f=N
 |0,_=>by
  have:∀n,n<=n0->sumTo n f=0:=by
   intro n
   induction n with
   |zero=>intro _;rfl
   |succ n ih=>intro hn;show sumTo n f+f n=0;rw[ih (by omega),h0 n (by omega)]
  exact this n0 (Nat.le_refl _)
 |N+1,h=>by
  show sumTo (n0+N) f+f (n0+N)=N+1;rw[q5e h0 N (λj hj=>h j (by omega)),h N (by omega)]
section
variable {gr:Grd}{M1:Mks gr.base}{Post:Value->World->Prop}{Sh:Nat->Prop}{Fz:Loc->Prop}{T:Nat->qA}{n0 m0 N fl:Nat}{csv:Value}{D:World->Prop}{w₀ w z:World}
theorem qf7(R:jQ m0 N n0 N T)(hn0:0<n0){i:Nat}:WkT T (n0+N) i↔n0<=i/\i<n0+N:=by
 constructor
 . rintro⟨h1,h2,h3⟩;refine⟨Nat.le_of_not_lt (λh=>?_),h2⟩;rw[R.old i h1 h]at h3;exact h3
 . rintro⟨h1,h2⟩;obtain⟨s,_,h⟩:=R.work (i-n0) (by omega);rw[show n0+(i-n0)=i from by omega]at h;exact⟨by omega,h2,by rw[h];trivial⟩
theorem qe9(R:jQ m0 N n0 N T){i:Nat}(h1:n0<=i)(h2:i<n0+N):∃j s,j<N/\i=n0+j/\xG m0 j N s/\T i=.seat s/\qnt m0 n0 T i=⟨s,m0+6+2*j,.int .i64 j⟩:=by
 obtain⟨s,hs,h⟩:=R.work (i-n0) (by omega);rw[show n0+(i-n0)=i from by omega]at h;refine⟨i-n0,s,by omega,by omega,hs,h,?_⟩;unfold qnt;rw[h];rfl
theorem qlR(R:jQ m0 N n0 N T)(hn0:0<n0)(vN:n0+N<2147483648)(lt2:∀a:Addr,Fz (.cell a)->a.block<m0):zX prog wgL.tWg (m0+1) (BxC m0 N) (qcx m0 Sh) (qdc m0 N Fz) (n0+N) (WkT T (n0+N)) (qnt m0 n0 T):=by
 refine⟨λi h=>⟨h.1,h.2.1⟩,λi j hi hj e=>?_,λi j hi hj e=>?_,λi hi=>?_,λi hi=>?_,λi j hi hj=>?_,λi hi x hx=>?_,λi hi=>?_,?_,λi hi x hl hb=>?_,λi hi=>?_,.inr rfl,λb hb h=>?_,vN⟩
 . obtain⟨h1,h2⟩:=(qf7 R hn0).1 hi;obtain⟨h3,h4⟩:=(qf7 R hn0).1 hj;obtain⟨a,s,ha,rfl,hs,_,e1⟩:=qe9 R h1 h2;obtain⟨b,s',hb,rfl,hs',_,e2⟩:=qe9 R h3 h4;rw[e1,e2]at e;change s.c=s'.c at e;rw[(qfa hs).1,(qfa hs').1]at e;omega
 . obtain⟨h1,h2⟩:=(qf7 R hn0).1 hi;obtain⟨h3,h4⟩:=(qf7 R hn0).1 hj;obtain⟨a,s,ha,rfl,hs,_,e1⟩:=qe9 R h1 h2;obtain⟨b,s',hb,rfl,hs',_,e2⟩:=qe9 R h3 h4;rw[e1,e2]at e;change m0+6+2*a=m0+6+2*b at e;omega
 . obtain⟨h1,h2⟩:=(qf7 R hn0).1 hi;obtain⟨a,s,ha,rfl,hs,_,e1⟩:=qe9 R h1 h2;rw[e1];show m0+6+2*a≠m0+1;omega
 . obtain⟨h1,h2⟩:=(qf7 R hn0).1 hi;obtain⟨a,s,ha,rfl,hs,_,e1⟩:=qe9 R h1 h2;rw[e1];show s.c≠m0+1;rw[(qfa hs).1];omega
 . obtain⟨h1,h2⟩:=(qf7 R hn0).1 hi;obtain⟨h3,h4⟩:=(qf7 R hn0).1 hj;obtain⟨a,s,ha,rfl,hs,_,e1⟩:=qe9 R h1 h2;obtain⟨b,s',hb,rfl,hs',_,e2⟩:=qe9 R h3 h4;rw[e1,e2];show s.c≠m0+6+2*b;rw[(qfa hs).1];omega
 . obtain⟨h1,h2⟩:=(qf7 R hn0).1 hi;obtain⟨a,s,ha,rfl,hs,_,e1⟩:=qe9 R h1 h2;rw[e1]at hx;change x∈s.L at hx;rw[(qfa hs).2.1]at hx
   have key:x.1.block≠m0+1/\∀b,b<N->b≠a->x.1.block≠m0+6+2*b:=by
    simp only[qqr,qil,mem_cons,not_mem_nil,or_false]at hx;rcases hx with rfl|rfl|rfl
    . exact⟨by show m0+3≠m0+1;omega,λb _ _=>by show m0+3≠m0+6+2*b;omega⟩
    . exact⟨by show m0+6+2*a≠m0+1;omega,λb _ _=>by show m0+6+2*a≠m0+6+2*b;omega⟩
    . exact⟨by show m0+2≠m0+1;omega,λb _ _=>by show m0+2≠m0+6+2*b;omega⟩
   refine⟨key.1,λj hj hji=>?_⟩;obtain⟨h3,h4⟩:=(qf7 R hn0).1 hj;obtain⟨b,s',hb,rfl,hs',_,e2⟩:=qe9 R h3 h4;rw[e2];exact key.2 b hb (by omega)
 . obtain⟨h1,h2⟩:=(qf7 R hn0).1 hi;obtain⟨a,s,ha,rfl,hs,_,e1⟩:=qe9 R h1 h2;rw[e1];exact⟨a,ha,rfl⟩
 . rintro⟨j,_,e⟩;omega
 . obtain⟨h1,h2⟩:=(qf7 R hn0).1 hi;obtain⟨a,s,ha,rfl,hs,_,e1⟩:=qe9 R h1 h2;rw[e1]at hb |-;obtain⟨_,_,_,_,_,_,_,_,_,_,_,_,rfl⟩:=hs;exact q4j hl hb
 . obtain⟨h1,h2⟩:=(qf7 R hn0).1 hi;obtain⟨a,s,ha,rfl,hs,_,e1⟩:=qe9 R h1 h2;rw[e1];obtain⟨_,_,_,_,_,_,_,_,_,_,_,_,rfl⟩:=hs;exact qrx
 . rcases h with h|h|h|⟨j,_,h|h⟩
   . have:=lt2 _ h;omega
   . simp only[Loc.cell.injEq]at h;subst h;simp at hb
   . simp only[Loc.cell.injEq]at h;subst h;simp at hb
   . simp only[Loc.cell.injEq]at h;subst h;simp only at hb;omega
   . simp only[Loc.cell.injEq]at h;subst h;simp at hb
open Classical in
theorem q37(hD:∀x y,x.heap=y.heap->D x->D y)(hDc:∀x r κ κ' b,m0<=r->D x->x.heap[r]?=some (.chan 0 #[] false κ κ false)->D (x.setChan r 0 #[] b κ' κ' false))(hN0:gr.N0<=m0)(hN:N<=4)(hn0:0<n0)(vN:n0+N<2147483648)(hM:jP m0 N M1)
   (lt1:∀r,Sh r->r<m0) (lt2:∀a:Addr,Fz (.cell a)->a.block<m0) (R:jQ m0 N n0 N T) (C:zD m0 N N fl w) (hb:Both (gr.base.pen M1) w z) (hz:D z) {tm:Array Value} (hs:jM m0 N fl csv tm)
   {b₀:Frame} {a₀:Act} {ops₀:Array Oper} {i₀:Nat} {rest₀:List Nat} {k₀:List Item} {cs:List Frame}
   (next:∀w',jz gr M1 m0 N D w w'->qc prog Post (qcx m0 Sh) (qdc m0 N Fz) (λ_=>.left) (n0+N) 0 0 (G (b₀.at (a₀.put ((ops₀[i₀]?).bind (·.dst)) (.tuple #[])) (.inRegion ops₀ rest₀::k₀)) cs) w') :
   qc prog Post (qcx m0 Sh) (qdc m0 N Fz) T (n0+N) 0 0 (G ((base 43).at ⟨tm,[]⟩ [.code qtw]) (b₀.at a₀ (.inRegion ops₀ (i₀::rest₀)::k₀)::cs)) w:=by
 obtain⟨v0,v1,v2,v3,v4,v5,v6,v7,v8,v9,v10,v11,v12,v13,v14,v15,v16,v17,v18,v19,v20,v21,v22,v23,v24,v25,v26,v27,v28,v29,v30,v31,v32,v33,v34,v35,v36,v37,v38,v39,v40,v41,v42,v43,v44,v45,v46,v47,v48,v49,v50,v51,v52,v53,v54,rfl⟩:=qj0 tm hs.size;have s0:=hs.s0;have s1:=hs.s1;have s2:=hs.s2;have s3:=hs.s3;have s6:=hs.s6;have s7:=hs.s7;have s8:=hs.s8;simp only[getElem?_toArray,getElem?_cons_zero,getElem?_cons_succ,Option.some.injEq]at s0 s1 s2 s3 s6 s7 s8;replace s2:=s2.symm;subst s0 s1 s2 s3 s6 s7 s8;clear hs
 have nsh:∀r,m0<=r->r≠m0+1->¬qcx m0 Sh r:=λr hr hne h=>by
  rcases h with h|h
  . have:=lt1 r h;omega
  . exact hne h
 obtain⟨ecb,kcb⟩:=C.cb;have hcb:=(qk3 kcb).1;have hG:zX prog wgL.tWg (m0+1) (BxC m0 N) (qcx m0 Sh) (qdc m0 N Fz) (n0+N) (WkT T (n0+N)) (qnt m0 n0 T):=qlR R hn0 vN lt2;have hfz:∀b:Addr,b.block=m0+1->¬qdc m0 N Fz (.cell b):=hG.fzW;have hS:jz gr M1 m0 N D w w:=⟨⟨z,hb,hz⟩,C.row,λj hj=>⟨_,C.bx j hj,rfl⟩,⟨_,_,C.wg⟩,.refl _ _ _⟩
 have hk:∀ (tm':Array Value),jM m0 N fl csv tm'->tm'[46]?=some (.slice (some ⟨m0+2,0,none⟩) N N)->tm'[47]?=some (.int .i64 N)->tm'[48]?=some (.int .i64 (0:Nat)) ->
     qc prog Post (qcx m0 Sh) (qdc m0 N Fz) T (n0+N) 0 0 (G ((base 43).at ⟨tm',[]⟩ [.code qeh,.inLoop qeh,.inBlock 4,.code q17]) (b₀.at a₀ (.inRegion ops₀ (i₀::rest₀)::k₀)::cs)) w:=λtm' h1 h2 h3 h4 d=>by
  obtain⟨m,hm⟩:=q7g (cs:=b₀.at a₀ (.inRegion ops₀ (i₀::rest₀)::k₀)::cs) (Sh:=qcx m0 Sh) (Fz:=qdc m0 N Fz) (w₀:=w) hD hDc hN0 hN hM (nsh _ (by omega) (by omega)) N 0 tm' (w.at d) (by omega) (hS.rm hD hM (RM.at w d)) h1 h2 h3 h4
  have hAn:∀g x,q9u gr M1 m0 N D w (b₀.at a₀ (.inRegion ops₀ (i₀::rest₀)::k₀)::cs) g x->∃m,Goes prog true (RM wgL.tWg (m0+1) (BxC m0 N)) (DM (m0+1) (qcx m0 Sh) (qdc m0 N Fz)) (MW1 prog wgL.tWg (m0+1) (BxC m0 N) (qcx m0 Sh) (qdc m0 N Fz) (q9u gr M1 m0 N D w (b₀.at a₀ (.inRegion ops₀ (i₀::rest₀)::k₀)::cs)) (LdL prog Post (qcx m0 Sh) (qdc m0 N Fz) (n0+N))) m g x:=by
   rintro g x ⟨tm2,ha⟩
   obtain⟨m,hm⟩:=q7j (Post:=Post) (n:=n0+N) (Sh:=qcx m0 Sh) (Fz:=qdc m0 N Fz) (Bx:=BxC m0 N) (F:=jz gr M1 m0 N D w) (Wg:=m0+1) (b₀:=base 43) (a₀:=⟨tm2,[]⟩) (ops₀:=q36) (i₀:=0) (rest₀:=[]) (k₀:=[]) (cs:=b₀.at a₀ (.inRegion ops₀ (i₀::rest₀)::k₀)::cs) xF hfz (λx y hr hF=>hF.rm hD hM hr) (λx hF _=>by
    refine qan ?_;refine q2d ?_;refine qsz rfl rfl func43 rfl ?_;exact next x hF) g x ha
   exact⟨m,qjc (λg x hx=>qlP (λg x hx=>⟨tm2,hx⟩) hx) hm⟩
  have hR1:∀i,WkT T (n0+N) i->T i=.seat (qnt m0 n0 T i).s:=λi hi=>by
   obtain⟨h1,h2⟩:=(qf7 R hn0).1 hi;obtain⟨a,s,ha,rfl,hs,hT,e1⟩:=qe9 R h1 h2;rw[e1];exact hT
  have hR2:∀i,WkT T (n0+N) i->((⟨(qnt m0 n0 T i).bx,0,none⟩:Addr),(qnt m0 n0 T i).val)∈(qnt m0 n0 T i).s.L:=λi hi=>by
   obtain⟨h1,h2⟩:=(qf7 R hn0).1 hi;obtain⟨a,s,ha,rfl,hs,hT,e1⟩:=qe9 R h1 h2;rw[e1];show _∈s.L;rw[(qfa hs).2.1];simp[qqr,qil]
  have hR3:∀i,WkT T (n0+N) i->(qnt m0 n0 T i).s.c∈chl m0 0 N:=λi hi=>by
   obtain⟨h1,h2⟩:=(qf7 R hn0).1 hi;obtain⟨a,s,ha,rfl,hs,hT,e1⟩:=qe9 R h1 h2;rw[e1];exact qzm.2 ⟨a,Nat.zero_le _,by omega,(qfa hs).1⟩
  have hR4:∀c,c∈chl m0 0 N->∃i,WkT T (n0+N) i/\(qnt m0 n0 T i).s.c=c:=λc hc=>by
   obtain⟨j,_,h2,rfl⟩:=qzm.1 hc;have hw:WkT T (n0+N) (n0+j):=(qf7 R hn0).2 ⟨by omega,by omega⟩;obtain⟨a,s,ha,e0,hs,hT,e1⟩:=qe9 R (i:=n0+j) (by omega) (by omega);refine⟨n0+j,hw,?_⟩;rw[e1];show s.c=_;rw[(qfa hs).1];omega
  have hV:(sumTo (n0+N) λi=>if WkT T (n0+N) i then 1 else 0)=N:=by
   refine q5e (λi hi=>if_neg (λh=>?_)) N (λj hj=>if_pos ((qf7 R hn0).2 ⟨by omega,by omega⟩));have:=((qf7 R hn0).1 h).1;omega
  exact q8a (Next:=LdL prog Post (qcx m0 Sh) (qdc m0 N Fz) (n0+N)) hG (λg x ⟨tm,T',hg,_⟩=>by rw[hg];rfl) hAn (λg x hx=>hx.lead) hR1 (λi hi=>R.out i hi) hR2 q18 hR3 hR4 hV C.wg hm
 have e0:qtw=.seq (.seq (match qtw with | .seq (.seq x _) _=>x|_=>.skip) (.block 4 (.loop qeh))) q17:=rfl;rw[e0];clear e0;generalize qeh=lp at hk |-;generalize q17=wc at hk |-;simp only[qtw,qib,qjw,qiq,f43,Option.getD_some];refine qao ?_;refine qao ?_;refine qau ?_;simp only[List.size_toArray,length_cons,length_nil,Nat.reduceAdd,Nat.zero_add,range,range.loop];refine qew hcb (nsh _ (by show m0<=m0+3;omega) (by show m0+3≠m0+1;omega)) rfl rfl (by decide) (λw h=>by go_simp) (λw h=>by simp[go_sem,h]) ?_;walk_nrm;refine qa2 (.int .i64 N) rfl rfl (by decide) (λw=>by go_simp) (λw=>by simp[go_sem]) ?_;walk_nrm;refine qa2 (.int .i64 (0:Nat)) rfl rfl (by decide) (λw=>by go_simp) (λw=>by simp[go_sem]) ?_;walk_nrm;refine qan ?_;refine qgb ?_;refine qrb ?_;exact hk _ ⟨rfl,rfl,rfl,rfl,rfl,rfl,rfl,rfl⟩ rfl rfl rfl
end
end
section
open Go.Conc Go.RowKit Go.Conc.Lib Go.ConcR.Gen
open Go.ConcR (KK WgAt stA smA Payload)
theorem qn.down{B:Base}{M M':Mks B}{X:Nat->Prop}{w w':World}(h:qn (B.pen M') X w w')(k:M.Le M'):qn (B.pen M) X w w':=
 ⟨λr hr hr'=>h.block r hr (hr'.imp id (Or.imp (k.z r) (k.ch r))),h.size,h.os,h.output,h.tape⟩
theorem jP.qlS{B:Base}{M:Mks B}{m0 K:Nat}{Sh:Nat->Prop}{Fz:Loc->Prop}(C:jP m0 K M)(O:zx (B.pen M) Sh Fz):zx (B.pen M) (qcx m0 Sh) (qdc m0 K Fz):=by
 refine⟨λr hr=>?_,λl hl=>?_⟩
 . rcases hr with hr|rfl
   . exact O.xE r hr
   . exact .inr C.z1
 . rcases hl with hl|rfl|rfl|⟨j,hj,rfl|rfl⟩
   . exact O.still l hl
   . exact⟨_,rfl,.inr C.z3⟩
   . exact⟨_,rfl,.inr C.z5⟩
   . exact⟨_,rfl,.inr (C.zb j hj)⟩
   . exact⟨_,rfl,.inr C.z2⟩
section
variable {gr:Grd}{M:Mks gr.base}{S:List String}{Post:Value->World->Prop}{Sh:Nat->Prop}{Fz:Loc->Prop}{T:Nat->qA}{n0 N fl:Nat}{csv:Value}{chs:List Nat}{α:Type}{step:α->Nat->α}{D L:α->World->Prop}{w z:World}
 {b₀:Frame} {a₀:Act} {ops₀:Array Oper} {i₀:Nat} {rest₀:List Nat} {k₀:List Item} {cs:List Frame}
theorem qxe(W:Task gr w.heap.size N fl csv chs step D L)(H:∀M:Mks gr.base,zw (gr.base.pen M) S)(zF:∀M:Mks gr.base,qf4 (gr.base.pen M) S (gr.X 71) qz)(hb:Both (gr.base.pen M) w z){c0:α}(hz:D c0 z)(O:zx (gr.base.pen M) Sh Fz)
   (hT:∀i,i≠0->T i=.left) (hn0:0<n0) (vN:n0<2000000000) (hN1:1<=N) (hN:N<=4) (hlen:chs.length<1000000)
   (next:∀w' z' (M':Mks gr.base) Sh' Fz',M.Le M'->Both (gr.base.pen M') w' z'->D (turns step N c0 chs) z'->zx (gr.base.pen M') Sh' Fz'->qn (gr.base.pen M) (λr=>w.heap.size<=r) w w' ->
    qc prog Post Sh' Fz' (λ_=>.left) (n0+N) 0 0 (G (b₀.at (a₀.put ((ops₀[i₀]?).bind (·.dst)) (.tuple #[])) (.inRegion ops₀ rest₀::k₀)) cs) w') :
   qc prog Post Sh Fz T n0 0 0 (G ((base 43).at ⟨#[.pointer (some ⟨fl,0,none⟩),.int .i64 N,csv,undef,undef,undef,undef,undef,undef,undef,undef,undef,undef,undef,undef,undef,undef,undef,undef,undef,undef,undef,undef,undef,undef,undef,undef,undef,undef,undef,undef,undef,undef,undef,undef,undef,undef,undef,undef,undef,undef,undef,undef,undef,undef,undef,undef,undef,undef,undef,undef,undef,undef,undef,undef],[]⟩ [.code qiq]) (b₀.at a₀ (.inRegion ops₀ (i₀::rest₀)::k₀)::cs)) w:=by
 have hroom:M.N<=w.heap.size:=hb.rel.room;have hN0:gr.N0<=w.heap.size:=Nat.le_trans M.ge hroom;obtain⟨lt1,lt2⟩:=O.lt;refine q32 hb O hT (D:=D c0) (W.alloc c0) hz hN1 hN (λtm w1 z1 M1 hs1 le1 hb1 hz1 hM1 C1 sz1 hh1=>?_);refine q33 (M:=M) (D:=D c0) (w₀:=w) (W.alloc c0) O hroom hN ⟨hb1,hz1,le1,sz1,by omega,hh1⟩ C1 hM1 hT hn0 hs1 (λtm2 T2 w2 z2 M2 S2 C2 hM2 R2 hs2=>?_);refine q15 W (H M2) (zF M2) hM2 (O.le S2.le) (λr hr=>Nat.lt_of_lt_of_le (lt1 r hr) hroom) hN0 hn0 hN1 hlen S2.both S2.data C2 R2 hs2 (λtm3 T3 w3 z3 hb3 hz3 C3 R3 hh3 hs3=>?_);refine q37 (D:=D (turns step N c0 chs)) (W.qeQ _) (λx r κ κ' b=>W.chan _ x r κ κ' b) hN0 hN hn0 (by omega) hM2 (λr hr=>Nat.lt_of_lt_of_le (lt1 r hr) hroom) (λa ha=>Nat.lt_of_lt_of_le (lt2 a ha) hroom) R3 C3 hb3 hz3 hs3 (λw4 S4=>?_);obtain⟨⟨z4,hb4,hz4⟩,-,-,-,hh4⟩:=S4;exact next w4 z4 M2 _ _ S2.le hb4 hz4 (hM2.qlS (O.le S2.le)) ((S2.held.trans (hh3.down S2.le)).trans (hh4.down S2.le))
end
end
section
open Go.Conc
section
variable {C:Pen}{S:List String}{Post:Value->World->Prop}{Sh:Nat->Prop}{Fz:Loc->Prop}{T:Nat->qA}{n h dd:Nat}{w z:World}
theorem qrw(H:zw C S){fr:Frame}(hX:FrE C S {fr with todo:=[]})(hm:fr.mode=.returning)(hb:Both C w z)(O:Outside C Sh Fz T n h)(hL:jv T n h w){fn':Func}(hf:C.P.funcs[fr.fn]?=some fn'){x:Value}(hres:∀d,(results fn' fr.tmps).run C.P (z.at d)=.ok x (z.at d))
   {caller:Frame} {cs:List Frame} (next:∀w' z',Both C w' z'->z'.heap=z.heap->Held C w w'->Ok C.A C.F x->jv T n h w'->qc C.P Post Sh Fz T n h dd (G (caller.finish x) cs) w') :
   qc C.P Post Sh Fz T n h dd (G fr (caller::cs)) w:=by
 refine λe=>qys rfl (λd=>?_);have hk:qd C (results fn' fr.tmps) (Ok C.A C.F):=qpg H hX hf;have ho:=hk (w.at d) (z.at d) #[] (hb.at d).rel (λk q _ _=>by rw[show (w.at d).tape=(z.at d).tape from hb.tape.symm]);rw[hres d]at ho;obtain⟨w2,new,h1,h2,h3,h4⟩:=ho;rw[Sem.runT_eq]at h1;have h5:(results fn' fr.tmps).run C.P (w.at d)=.ok x w2:=(Prod.mk.inj h1).1;obtain⟨h7,h8⟩:=qny (w:=w.at d) O (hL.at d) (qph (C:=C) h3 fr.fn);refine⟨G (caller.finish x) cs,w2,seen C.P fr.fn new,?_,h7,?_⟩
 . have h6:(results fn' fr.tmps).events C.P (w.at d) #[]=new:=by have:=(Prod.mk.inj h1).2;simpa using this
   have hdf:fr.defers=[]:=vf.defers (fr:={fr with todo:=[]}) hX;have hkind:fr.kind=.normal:=vf.kind (fr:={fr with todo:=[]}) hX;show stepG C.P (h==0) (G fr (caller::cs)) (w.at d)=_;simp[G,stepG,unwind,hm,hdf,hf,doReturn,hkind,GStep.after,h5,h6]
 . rw[h8 dd];have hb2:Both C w2 (z.at d):=⟨h2,by rw[h3.tape];exact hb.tape⟩;exact(next w2 (z.at d) hb2 rfl (Held.trans (show Held C w (w.at d)from⟨λ_ _=>rfl,Nat.le_refl _,rfl,rfl,rfl,.of rfl⟩) h3.held) h4 (λi s hi hn hT=>(h7.fact i s hi hn hT).1)).lead
end
theorem zx.alone{C:Pen}{Sh:Nat->Prop}{Fz:Loc->Prop}{T:Nat->qA}{n:Nat}(O:zx C Sh Fz)(hT:∀i,i≠0->T i=.left):Outside C Sh Fz T n 0:=
 ⟨λi s h1 _ h3=>(by rw[hT i h1]at h3;cases h3),O.xE,O.still⟩
theorem qaq{T:Nat->qA}{n:Nat}{w:World}(hT:∀i,i≠0->T i=.left):jv T n 0 w:=λi s h1 _ h3=>(by rw[hT i h1]at h3;cases h3)
end
end Go.Proofs.YtacemdoejblgaaaGreatDoor

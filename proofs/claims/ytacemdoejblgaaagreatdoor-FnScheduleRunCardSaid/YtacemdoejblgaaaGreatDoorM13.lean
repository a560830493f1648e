/- Part 13. Conditions: each statement's. -/
import Derived.Test.YtacemdoejblgaaaGreatDoorM12
namespace Go.Proofs.YtacemdoejblgaaaGreatDoor
set_option maxHeartbeats 6400000
set_option maxRecDepth 100000
section
open Go.Conc Go.RowKit Go.Conc.Lib Go.ConcR.Gen Go.Conc.Locks
structure Grd where
 A:Addr->Prop
 F:FuncId->Prop
 N0:Nat
 fresh:∀ a:Addr,N0<=a.block->A a
 up:∀ a b:Addr,A a->b.block=a.block->a.off<=b.off->A b
 G:Nat
 K:Nat
 X:FuncId->Nat->Prop
noncomputable def Grd.base(g:Grd):Base where
 P:=Tryz.prog
 A:=g.A
 F:=g.F
 N0:=g.N0
 fresh:=g.fresh
 up:=g.up
 G:=g.G
 K:=g.K
 X:=g.X
section
variable {C:Pen}{S:List String}{Sh:Nat->Prop}{Fz:Loc->Prop}{T:Nat->q8}{n h:Nat}{w z:World}
theorem ordinary(hb:Both C w z){a:Addr}{v:Value}(hv:z.cell? a=some v):¬ C.Z a.block/\¬ C.Ch a.block:=by
 obtain⟨_,c,e,fr,hc,_⟩:=qdw hv;refine⟨fun hZ=>?_,fun hCh=>?_⟩
 . obtain⟨c',c2,e2,fr2,h1,_,_,h4,_⟩:=hb.rel.part _ (C.zp _ hZ);rw [h4 hZ] at h1;unfold World.cell? at hv;rw [h1] at hv;simp at hv
 . obtain⟨k,b,cl,m,n,t,h1⟩:=hb.rel.chn _ hCh;rw [hc] at h1;cases h1
theorem Outside.sep(O:Outside C Sh Fz T n h){r:Nat}(hB:C.B r)(hZ:¬ C.Z r)(hCh:¬ C.Ch r):¬ StW T n h r/\¬ Sh r/\∀ a:Addr,a.block=r->¬ Fz (.cell a):=by
 refine⟨?_,fun hs=>(O.zW r hs).elim (fun k=>k hB) hZ,fun a ha hf=>?_⟩
 . rintro⟨i,s,h1,h2,h3,h4⟩;obtain⟨k1,k2⟩:=O.seat i s h1 h2 h3;rcases h4 with rfl | ⟨x,hx,rfl⟩
   . exact k1.elim (fun k=>k hB) hCh
   . exact(k2 x hx).elim (fun k=>k hB) hZ
 . obtain⟨a',e,h1⟩:=O.still _ hf;cases e;subst ha;exact h1.elim (fun k=>k hB) hZ
theorem Held.set{a:Addr}{v:Value}(hB:C.B a.block)(hZ:¬ C.Z a.block)(hCh:¬ C.Ch a.block)(w:World)(ht:Beyond C w (w.setCell a v)):Held C w (w.setCell a v):=
 ⟨fun r hr=>qcw w a v r (fun e=>by subst e;exact hr.elim (fun k=>k hB) (fun k=>k.elim hZ hCh)),by simp,rfl,rfl,rfl,ht⟩
theorem qH.held(O:Outside C Sh Fz T n h)(hL:qH T n h w){w':World}(hh:Held C w w'):qH T n h w':=fun i s h1 h2 h3=>qsw (hL i s h1 h2 h3) (O.seat i s h1 h2 h3).2 hh
theorem q7j{f:FuncId}{fn:Func}{ts:Array Value}{c:Code}(hT:∀ v,v∈ts->Ok C.A C.F v)(hc:qe0 C S (C.X f) c)(hf:C.P.funcs[f]?=some fn)(hr:∀ r,r∈fn.results->quc (C.X f) r):FrE C S ((base f).at ⟨ts,[]⟩ [.code c]):=
 ⟨fun t v _ hv=>hT v (Array.mem_of_getElem? hv),fun it hi=>(by
   have:it=.code c:=by simpa [Frame.at] using hi
   subst this;exact hc),rfl,rfl,rfl,fun ch e=>(by cases e),fn,hf,hr⟩
end
noncomputable def qg1:Code:=Tryz.f71.body.getD .skip
noncomputable def qv:Code:=match qg1 with | .seq _ (.seq _ c)=>c | _=>.skip
def qfn(fl:Nat)(k:Int):Array Value:=#[.pointer (some ⟨fl,0,none⟩),.int .i64 k,undef,undef,undef,undef,.pointer (some ⟨fl,0,none⟩),.pointer (some ⟨fl,0,none⟩),.pointer (some ⟨fl,0,none⟩),.tuple #[],
 .pointer (some ⟨fl,0,none⟩),.pointer (some ⟨fl,0,none⟩),.pointer (some ⟨fl,0,none⟩),undef,undef,undef,undef,undef,undef,undef,undef,undef,undef,undef,undef,undef,undef,undef,undef,undef,undef]
section
variable {gr:Grd}{M:Mks gr.base}{S:List String}{Post:Value->World->Prop}{Sh:Nat->Prop}{Fz:Loc->Prop}{T:Nat->q8}{n h:Nat}{w z:World}
 {b₀:Frame} {a₀:Act} {ops₀:Array Oper} {i₀:Nat} {rest₀:List Nat} {k₀:List Item} {cs:List Frame}
theorem q2p(H:jo (gr.base.pen M) S)(jw:qe0 (gr.base.pen M) S (gr.X 71) qv)(hb:Both (gr.base.pen M) w z)(O:Outside (gr.base.pen M) Sh Fz T n h)(hL:qH T n h w)
   {fl:Nat} {k:Int} (hA:gr.A ⟨fl,0,none⟩) (hc0:z.cell? ⟨fl,0,none⟩=some (.int .i32 0)) {R:World->Prop} (hR:∀ x y,x.heap=y.heap->R x->R y) (hR0:∀ x,R x->x.cell? ⟨fl,0,none⟩=some (.int .i32 1))
   (piece:∀ d t,qv.wp Tryz.prog (fun e _ x=>e=.normal/\R x) ⟨qfn fl k,[]⟩ (re ((z.setCell ⟨fl,0,none⟩ (.int .i32 1)).at d) t 0))
   (next:∀ w' z',Both (gr.base.pen M) w' (z'.setCell ⟨fl,0,none⟩ (.int .i32 0))->Held (gr.base.pen M) w w'->qH T n h w'->R z'->qd Tryz.prog Post Sh Fz T n h 0 (G (b₀.at (a₀.put ((ops₀[i₀]?).bind (·.dst)) (.tuple #[])) (.inRegion ops₀ rest₀::k₀)) cs) w') :
   qd Tryz.prog Post Sh Fz T n h 0 (G ((base 71).at ⟨#[.pointer (some ⟨fl,0,none⟩),.int .i64 k,undef,undef,undef,undef,undef,undef,undef,undef,undef,undef,undef,undef,undef,undef,undef,undef,undef,undef,undef,undef,undef,undef,undef,undef,undef,undef,undef,undef,undef],[]⟩ [.code qg1])
     (b₀.at a₀ (.inRegion ops₀ (i₀::rest₀)::k₀)::cs)) w:=by
 obtain⟨hZ,hCh⟩:=ordinary hb hc0;have hB:(gr.base.pen M).B fl:=⟨_,hA,rfl⟩;obtain⟨s1,s2,s3⟩:=O.sep hB hZ hCh;have hcz:j6 ⟨fl,0,none⟩ (.int .i32 0) w:=⟨(hb.cell hA hc0).1,hb.thaw hA hc0⟩;have e0:qg1=.seq (match qg1 with | .seq x _=>x | _=>.skip) (.seq (match qg1 with | .seq _ (.seq x _)=>x | _=>.skip) qv):=rfl;generalize hp:qv=tp at *;rw [e0];clear e0;simp only [qg1,Tryz.f71,Option.getD_some];refine qau ?_;refine qaz ?_;simp only [List.size_toArray,List.length_cons,List.length_nil,Nat.reduceAdd,Nat.zero_add,List.range,List.range.loop];refine qat (.pointer (some ⟨fl,0,none⟩)) rfl rfl (by decide) (fun w=>by go_simp) (fun w=>by simp [go_sem]) ?_;walk_nrm;refine qgp (w':=w) (es:=#[]) (.pointer (some ⟨fl,0,none⟩)) rfl rfl (by decide) (fun d=>by have:=hcz.1;go_simp) (fun d=>by have:=hcz.1;simp [go_sem]) (.idle w) qhg ?_;walk_nrm;refine qgp (w':=w) (es:=#[]) (.pointer (some ⟨fl,0,none⟩)) rfl rfl (by decide) (fun d=>by have:=hcz.1;go_simp) (fun d=>by have:=hcz.1;simp [go_sem]) (.idle w) qhg ?_;walk_nrm;refine qhh rfl rfl (by decide) rfl Tryz.func114 (by kernel_rfl) rfl ?_;walk_nrmf Tryz.f114;have hl:=fun {b₀:Frame} {a₀:Act} {ops₀:Array Oper} {i₀:Nat} {rest₀:List Nat} {k₀:List Item} {cs:List Frame}=>q2f (Post:=Post) (b₀:=b₀) (a₀:=a₀) (ops₀:=ops₀) (i₀:=i₀) (rest₀:=rest₀) (k₀:=k₀) (cs:=cs) q82 s1 s2 (s3 ⟨fl,0,none⟩ rfl) hcz;simp only [lockFn,Option.getD_some] at hl;refine hl ?_;clear hl;have yE:=hcz.set (v':=.int .i32 1);have hb1:=hb.set (v:=.int .i32 1) hA hc0 (.int _ _);have hL1:=hL.held O (Held.set (a:=⟨fl,0,none⟩) (v:=.int .i32 1) hB hZ hCh w (hb.rel.jI hc0 _));have hh1:=Held.set (C:=gr.base.pen M) (a:=⟨fl,0,none⟩) (v:=.int .i32 1) hB hZ hCh w (hb.rel.jI hc0 _);generalize w.setCell ⟨fl,0,none⟩ (.int .i32 1)=w1 at yE hb1 hL1 hh1 |-;walk_nrm;refine qan ?_;refine qau ?_;refine qaz ?_;simp only [List.size_toArray,List.length_cons,List.length_nil,Nat.reduceAdd,Nat.zero_add,List.range,List.range.loop];refine qat (.pointer (some ⟨fl,0,none⟩)) rfl rfl (by decide) (fun w=>by go_simp) (fun w=>by simp [go_sem]) ?_;walk_nrm;refine qgp (w':=w1) (es:=#[]) (.pointer (some ⟨fl,0,none⟩)) rfl rfl (by decide) (fun d=>by have:=yE.1;go_simp) (fun d=>by have:=yE.1;simp [go_sem]) (.idle w1) qhg ?_;walk_nrm;refine qgp (w':=w1) (es:=#[]) (.pointer (some ⟨fl,0,none⟩)) rfl rfl (by decide) (fun d=>by have:=yE.1;go_simp) (fun d=>by have:=yE.1;simp [go_sem]) (.idle w1) qhg ?_;walk_nrm;refine qzo rfl rfl (by decide) rfl ?_;walk_nrm;refine qan ?_
 have hX:FrE (gr.base.pen M) S ((base 71).at ⟨qfn fl k,[]⟩ [.code tp]):=by
   refine q7j (fun v hv=>?_) jw Tryz.func71 (fun r hr=>by simp [Tryz.f71] at hr);simp only [qfn,List.mem_toArray,List.mem_cons,List.not_mem_nil,or_false] at hv
   rcases hv with rfl | rfl | rfl | rfl | rfl | rfl | rfl | rfl | rfl | rfl | rfl | rfl | rfl | rfl | rfl | rfl | rfl | rfl | rfl | rfl | rfl | rfl | rfl | rfl | rfl | rfl | rfl | rfl | rfl | rfl | rfl <;>
     first | exact .ptr hA | exact .int _ _ | exact .undef
 refine qst (a:=⟨qfn fl k,[dcall 115 #[.pointer (some ⟨fl,0,none⟩)]]⟩) H hX hb1 O hL1 (Q:=fun e _ x=>e=.normal/\R x) (fun e v x y hxy hq=>⟨hq.1,hR x y hxy hq.2⟩) piece (fun e a w hq=>by rw [hq.1];trivial) ?_;rintro e a' todo w2 z2 hb2 hh2 - xy hL2 ⟨rfl,hR2⟩;rw [xy rfl];show qd Tryz.prog Post Sh Fz T n h 0 (G ((base 71).at ⟨a'.tmps,[dcall 115 #[.pointer (some ⟨fl,0,none⟩)]]⟩ []) (b₀.at a₀ (.inRegion ops₀ (i₀::rest₀)::k₀)::cs)) w2;refine qxg ?_;refine qxh rfl Tryz.func115 (by kernel_rfl) rfl ?_;walk_nrmf Tryz.f115;have hc2:=hR0 _ hR2;have qeS:j6 ⟨fl,0,none⟩ (.int .i32 1) w2:=⟨(hb2.cell hA hc2).1,hb2.thaw hA hc2⟩;have hu:=fun {c:Frame} {cs:List Frame}=>qw1 (Post:=Post) (c:=c) (cs:=cs) q82 s1 s2 (s3 ⟨fl,0,none⟩ rfl) qeS;simp only [unlockFn,Option.getD_some] at hu;refine hu rfl ?_;clear hu;refine qn5 rfl rfl Tryz.func71 rfl ?_;have hh3:=Held.set (C:=gr.base.pen M) (a:=⟨fl,0,none⟩) (v:=.int .i32 0) hB hZ hCh w2 (hb2.rel.jI hc2 _);exact next _ _ (hb2.set (v:=.int .i32 0) hA hc2 (.int _ _)) ((hh1.trans hh2).trans hh3) (hL2.held O hh3) hR2
end
end
section
open Go.Conc Go.RowKit Go.Conc.Lib Go.ConcR.Gen
open Go.ConcR (KK WgAt stA smA rd wr DC0 Payload)
open Go.ConcN (st_flag st_waiters WgLive PayAt)
open Go.ConcN.Gen (AnchWN)
theorem qdp{P:Program}{main:Bool}{R:World->World->Prop}{D:World->World->Array Event->Prop}{Stop:Goroutine->World->Prop}(hR:∀ w,R w w)(hD:∀ w,D w w #[]){M:Nat} :
   ∀ {m:Nat} {g:Goroutine} {w:World},Goes P main R DC0 (Goes P main R D Stop M) m g w->Goes P main R D Stop (m+M) g w
 | 0,g,w,h=>by rw [Nat.zero_add];exact h w (hR w)
 | m+1,g,w,h=>by
   rcases h with h | ⟨hs,h⟩
   . rw [Nat.add_comm];exact Go.ConcM.goes_pad (h w (hR w)) (m+1)
   . rw [Nat.succ_add];refine Goes.step hs (fun w₁ h₁=>?_);obtain⟨g',w',es,e1,⟨e2,e3⟩,e4⟩:=goes_elim (h w₁ h₁);rw [e1];subst e2;subst e3;exact⟨hD _,qdp hR hD e4⟩
theorem qe8{Wg:Nat}{Sh:Nat->Prop}{Fz:Loc->Prop}(w:World):DM Wg Sh Fz w w #[]:=⟨rfl,fun e he=>by simp at he⟩
section
variable [Payload]{ty:TypeId}{Wg:Nat}{Bx:Nat->Prop}{w w₁:World}
theorem qav{F:World->Prop}(hF:∀ w w',RM ty Wg Bx w w'->F w->F w')(h:F w/\WgLive ty Wg w)(r:RM ty Wg Bx w w₁):F w₁/\WgLive ty Wg w₁:=⟨hF _ _ r h.1,r.live h.2⟩
theorem q8e(a:Addr)(v:Value){r m:Nat}(hp:PayAt r m w):PayAt r m (w.setCell a v):=by
 obtain⟨cs,h1,h2⟩:=hp;by_cases e:a.block=r
 . subst e;refine⟨_,qdv w a v h1,?_⟩;split
   . exact h2
   . simpa using h2
 . exact⟨cs,(qca w a v r e).trans h1,h2⟩
theorem q7h{a:Addr}{v:Value}(ha:a.block=Wg)(hl:WgLive ty Wg (w.setCell a v)):RM ty Wg Bx w (w.setCell a v):=
 ⟨rfl,rfl,rfl,by simp [World.setCell],fun r hr _=>qca w a v r (fun e=>hr (e.symm.trans ha)),fun _=>hl,fun r _ hp=>q8e a v hp⟩
theorem qi3{F:World->Prop}(hF:∀ w w',RM ty Wg Bx w w'->F w->F w')(h:F w/\WgLive ty Wg w)(r:AtRel w w₁):F w₁/\WgLive ty Wg w₁:=by
 obtain⟨d,rfl⟩:=r;exact qav hF h (RM.at w d)
end
def LdL(P:Program)(Post:Value->World->Prop)(Sh:Nat->Prop)(Fz:Loc->Prop)(n:Nat)(g:Goroutine)(w:World):Prop:=qd P Post Sh Fz (fun _=>.left) n 0 0 g w
section
variable [Payload]{L:WgLink}{P:Program}{Post:Value->World->Prop}{Sh:Nat->Prop}{Fz:Loc->Prop}{n:Nat}{Wg:Nat}{Bx:Nat->Prop}{F:World->Prop}
 {b₀:Frame} {a₀:Act} {ops₀:Array Oper} {i₀:Nat} {rest₀:List Nat} {k₀:List Item} {cs:List Frame}
theorem q2m(H:WgLib P L)(hF2:∀ w w',RM L.tWg Wg Bx w w'->F w->F w')(w:World)(hF:F w/\WgLive L.tWg Wg w) :
   ∃ m,Goes P true (RM L.tWg Wg Bx) (DM Wg Sh Fz) (MKd P L.tWg Wg Bx Sh Fz (AnchWN L F Wg (b₀.at a₀ (.inRegion ops₀ (i₀::rest₀)::k₀)) cs)) m
     (G ((base L.wait).at ⟨#[.pointer (some ⟨Wg,0,none⟩),undef,undef,undef,undef,undef,undef,undef,undef,undef,undef,undef,undef,undef,undef,undef,undef,undef,undef,undef,undef,undef,undef,undef,undef,undef,undef,undef,undef,undef,undef,undef,undef,undef,undef,undef,undef,undef,undef,undef,undef,undef,undef,undef,undef,undef,undef,undef,undef,undef,undef,undef,undef,undef,undef,undef,undef,undef,undef,undef,undef,undef,undef,undef,undef,undef,undef,undef,undef,undef,undef,undef,undef,undef,undef,undef,undef,undef,undef,undef,undef,undef,undef,undef],[]⟩ [.code (body_wait L)]) (b₀.at a₀ (.inRegion ops₀ (i₀::rest₀)::k₀)::cs)) w:=by
 lib_facts
 refine⟨_,qdp (m:=20) (M:=0) .refl qe8 ?_⟩;simp only [body_wait,waitFn,Option.getD_some]
 repeat w_go (qav hF2)
 refine Goes.stop (fun w₁ h₁=>?_);replace hF:=qav hF2 hF h₁;clear h₁;refine fun w₁ h₁=>?_;replace hF:=qav hF2 hF h₁;clear h₁;refine⟨rfl,_,stepG_mark0 .disable (by simp) rfl rfl (by k_ne) rfl H.f_disable (x_disable_n L) (x_disable_b L) (x_disable_x L) (x_disable_f L),_,qdp (m:=10) (M:=0) .refl qe8 ?_⟩;walk_nrm
 repeat w_bar (qav hF2)
 u_c stepG_loop (qav hF2) hF
 refine Goes.stop (fun w₂ h₂=>?_);replace hF:=qav hF2 hF h₂;exact fun w₃ h₃=>⟨_,rfl,by simp,by simp,qav hF2 hF h₃⟩
theorem q2n(H:WgLib P L)(hFz:∀ b:Addr,b.block=Wg->¬ Fz (.cell b))(hF2:∀ w w',RM L.tWg Wg Bx w w'->F w->F w')
   (hT:∀ w,F w->WgLive L.tWg Wg w->qd P Post Sh Fz (fun _=>.left) n 0 0 (G (b₀.at (a₀.put ((ops₀[i₀]?).bind (·.dst)) (.tuple #[])) (.inRegion ops₀ rest₀::k₀)) cs) w)
   (g:Goroutine) (w:World) (h:AnchWN L F Wg (b₀.at a₀ (.inRegion ops₀ (i₀::rest₀)::k₀)) cs g w) :
   ∃ m,Goes P true (RM L.tWg Wg Bx) (DM Wg Sh Fz) (MW1 P L.tWg Wg Bx Sh Fz (AnchWN L F Wg (b₀.at a₀ (.inRegion ops₀ (i₀::rest₀)::k₀)) cs) (LdL P Post Sh Fz n)) m g w:=by
 lib_facts
 obtain⟨T,rfl,hT84,t0,hF⟩:=h;obtain⟨v0,v1,v2,v3,v4,v5,v6,v7,v8,v9,v10,v11,v12,v13,v14,v15,v16,v17,v18,v19,v20,v21,v22,v23,v24,v25,v26,v27,v28,v29,v30,v31,v32,v33,v34,v35,v36,v37,v38,v39,v40,v41,v42,v43,v44,v45,v46,v47,v48,v49,v50,v51,v52,v53,v54,v55,v56,v57,v58,v59,v60,v61,v62,v63,v64,v65,v66,v67,v68,v69,v70,v71,v72,v73,v74,v75,v76,v77,v78,v79,v80,v81,v82,v83,rfl⟩:=array84 T hT84;simp only [List.getElem?_toArray,List.getElem?_cons_zero,Option.some.injEq] at t0;subst t0;refine⟨_,qdp (m:=60) (M:=0) .refl qe8 ?_⟩;simp only [L7,body_wait,waitFn,Option.getD_some]
 repeat w_go (qav hF2)
 u_call H.f_uLoad (nm_uLoad L) uLoadFn (qav hF2) hF
 repeat w_go (qav hF2)
 refine Goes.stop (fun w₀ h₀ w₁ h₁=>?_);replace hF:=qav hF2 (qav hF2 hF h₀) h₁;clear h₁ h₀;refine⟨rfl,fun v hv hw=>?_⟩;rcases Nat.eq_zero_or_pos v with rfl | hvp
 ·
   replace hw:WgAt L.tWg Wg w₁ 0 0:=by simpa using hw
   refine⟨_,stepG_load_atomic (v:=0) rfl rfl (by k_ne) rfl H.f_loadU64 (x_loadU64_n L) (x_loadU64_b L) (x_loadU64_x L) .u64 (x_loadU64_f L) rfl hw.cellSt,fun _=>⟨_,qdp (m:=100) (M:=0) .refl qe8 ?_⟩,fun h=>absurd rfl h⟩;clear hw;walk_nrm
   repeat w_go (qav hF2)
   u_leave1 H.f_uLoad (qav hF2) hF
   repeat w_go (qav hF2)
   refine Goes.stop (fun w₀ h₀ w₁ h₁=>?_);replace hF:=qav hF2 (qav hF2 hF h₀) h₁;clear h₁ h₀;refine⟨rfl,_,stepG_mark0 .enable (by simp) rfl rfl (by k_ne) rfl H.f_enable (x_enable_n L) (x_enable_b L) (x_enable_x L) (x_enable_f L),_,qdp (m:=30) (M:=0) .refl qe8 ?_⟩;walk_nrm
   repeat w_go (qav hF2)
   u_conv H.underlying_tWgP H.room_tWg (Go.ConcN.Gen.WgLive.cell0 hF.2).choose_spec (qav hF2) hF
   refine Goes.stop (fun w₀ h₀ w₁ h₁=>?_);replace hF:=qav hF2 (qav hF2 hF h₀) h₁;clear h₁ h₀;refine⟨rfl,_,stepG_markAt .acquire (by simp) rfl rfl (by k_ne) rfl H.f_acquire (x_acquire_n L) (x_acquire_b L) (x_acquire_x L) (x_acquire_f L) (by simp [Act.eval,stA]),?_⟩;refine qbv (m:=60) ?_;walk_nrm
   repeat w_go (qi3 hF2)
   u_leave0 H.f_wait (qi3 hF2) hF
   exact Goes.stop (fun w₅ h₅=>hT _ (qi3 hF2 hF h₅).1 (qi3 hF2 hF h₅).2)
 ·
   obtain⟨S,hS⟩:∃ S:Int,(v:Int) * KK=S:=⟨_,rfl⟩;have a1:S / 4294967296=(v:Int):=by rw [<-hS];simp only [KK];omega
   have b1:bits .and .u64 S 2147483648=0:=by rw [<-hS];have:=st_flag v 0 (by omega) (by omega);simpa [KK] using this
   have b2:bits .and .u64 S 2147483647=0:=by rw [<-hS];have:=st_waiters v 0 (by omega) (by omega);simpa [KK] using this
   have c1:IntKind.i32.wrap (v:Int)=(v:Int):=by rw [IntKind.wrap_i32];omega
   have w1:IntKind.u64.wrap (S+1)=S+1:=by rw [IntKind.wrap_u64,<-hS];simp only [KK];omega
   have q3:decide ((v:Int) < 0)=false:=decide_eq_false (by omega);have q4:decide (0 < (v:Int))=true:=decide_eq_true (by omega);have q5:((v:Int) == 0)=false:=by simp;omega
   have q6:decide ((v:Int)=0)=false:=decide_eq_false (by omega);rw [hS] at hw;refine⟨_,stepG_load_atomic (v:=S) rfl rfl (by k_ne) rfl H.f_loadU64 (x_loadU64_n L) (x_loadU64_b L) (x_loadU64_x L) .u64 (x_loadU64_f L) rfl hw.cellSt,fun h0=>absurd h0 (by omega),fun _=>⟨_,qdp (m:=100) (M:=0) .refl qe8 ?_⟩⟩;clear hw;walk_nrm
   repeat (first | w_go (qav hF2) | u_cnd false (qav hF2) hF)
   u_leave1 H.f_uLoad (qav hF2) hF
   repeat (first | w_go (qav hF2) | u_cnd false (qav hF2) hF)
   u_call H.f_uCas (nm_uCas L) uCasFn (qav hF2) hF
   repeat w_go (qav hF2)
   refine Goes.stop (fun w₀ h₀ w₂ h₂=>?_);replace hF:=qav hF2 (qav hF2 hF h₀) h₂;clear h₂ h₀;refine⟨rfl,fun v' hv' hw=>⟨fun e=>?_,fun e=>?_⟩⟩
   ·
     subst e;rw [hS] at hw |-;refine⟨_,stepG_cas_hit (v:=S) (n:=S+1) rfl rfl (by k_ne) rfl H.f_casU64 (x_casU64_n L) (x_casU64_b L) (x_casU64_x L) .u64 (x_casU64_f L) rfl rfl rfl hw.cellSt (hw.thaw 0),_,qdp (m:=100) (M:=61) .refl qe8 ?_⟩;have hl:WgLive L.tWg Wg (w₂.setCell (stA Wg) (.int .u64 (S+1))):=⟨_,_,hw.setSt _⟩;replace hF:F (w₂.setCell (stA Wg) (.int .u64 (S+1)))/\WgLive L.tWg Wg (w₂.setCell (stA Wg) (.int .u64 (S+1))):=⟨hF2 _ _ (q7h rfl hl) hF.1,hl⟩;clear hw hl;walk_nrm
     repeat w_go (qav hF2)
     u_leave1 H.f_uCas (qav hF2) hF
     repeat w_go (qav hF2)
     u_conv H.underlying_tPU32 H.room_tU32 (Go.ConcN.Gen.WgLive.cell1 hF.2).choose_spec (qav hF2) hF
     refine Goes.stop (fun w₃ h₃=>?_);replace hF:=qav hF2 hF h₃;clear h₃;refine Goes.step rfl (fun w₄ h₄=>?_);replace hF:=qav hF2 hF h₄;clear h₄;rw [stepG_markAt .write (by simp) rfl rfl (by k_ne) rfl H.f_raceWrite (x_raceWrite_n L) (x_raceWrite_b L) (x_raceWrite_x L) (x_raceWrite_f L) (ad:=⟨Wg,1,none⟩) (by simp [Act.eval])];simp only [goes_go];refine⟨⟨rfl,fun e he=>?_⟩,?_⟩
     . rw [Array.mem_singleton] at he;subst he;have hlt:Wg < w₄.heap.size:=by obtain⟨st,sm,h1⟩:=hF.2;exact(Array.getElem?_eq_some_iff.1 h1).1
       refine⟨⟨fun x hx=>?_,fun x hx=>?_⟩,by simp,by simp,by simp⟩
       . cases hx;exact⟨fun _=>by simp,fun _=>hFz _ rfl⟩
       . cases hx;exact hlt
     refine qdp (m:=60) (M:=0) .refl qe8 ?_;walk_nrm
     repeat w_go (qav hF2)
     refine Goes.stop (fun w₀ h₀ w₃ h₃=>?_);replace hF:=qav hF2 (qav hF2 hF h₀) h₃;clear h₃ h₀;refine⟨rfl,rfl,fun ⟨st,hw⟩=>stepG_semacquire_wait rfl rfl rfl H.f_semacquire (x_semacquire_n L) (x_semacquire_b L) (x_semacquire_x L) (x_semacquire_f L) (by simp [Act.eval,smA]) hw.cellSm,fun hf=>?_⟩;refine⟨_,stepG_semacquire (n:=1) rfl rfl (by k_ne) rfl H.f_semacquire (x_semacquire_n L) (x_semacquire_b L) (x_semacquire_x L) (x_semacquire_f L) (by simp [Act.eval,smA]) hf.cellSm (by k_ne) (hf.thaw 1),_,qdp (m:=60) (M:=0) .refl qe8 ?_⟩;have hl:WgLive L.tWg Wg (w₃.setCell (smA Wg) (.int .u32 0)):=⟨_,_,hf.setSm 0⟩;replace hF:F (w₃.setCell (smA Wg) (.int .u32 0))/\WgLive L.tWg Wg (w₃.setCell (smA Wg) (.int .u32 0)):=⟨hF2 _ _ (q7h rfl hl) hF.1,hl⟩;clear hf hl;walk_nrm
     repeat w_go (qav hF2)
     u_call H.f_uLoad (nm_uLoad L) uLoadFn (qav hF2) hF
     repeat w_go (qav hF2)
     refine Goes.stop (fun w₀ h₀ w₄ h₄=>?_);replace hF:=qav hF2 (qav hF2 hF h₀) h₄;clear h₄ h₀;refine⟨rfl,fun hw=>⟨_,stepG_load_atomic (v:=0) rfl rfl (by k_ne) rfl H.f_loadU64 (x_loadU64_n L) (x_loadU64_b L) (x_loadU64_x L) .u64 (x_loadU64_f L) rfl hw.cellSt,_,qdp (m:=60) (M:=0) .refl qe8 ?_⟩⟩;clear hw;walk_nrm
     repeat w_go (qav hF2)
     u_leave1 H.f_uLoad (qav hF2) hF
     repeat w_go (qav hF2)
     refine Goes.stop (fun w₀ h₀ w₁ h₁=>?_);replace hF:=qav hF2 (qav hF2 hF h₀) h₁;clear h₁ h₀;refine⟨rfl,_,stepG_mark0 .enable (by simp) rfl rfl (by k_ne) rfl H.f_enable (x_enable_n L) (x_enable_b L) (x_enable_x L) (x_enable_f L),_,qdp (m:=30) (M:=0) .refl qe8 ?_⟩;walk_nrm
     repeat w_go (qav hF2)
     u_conv H.underlying_tWgP H.room_tWg (Go.ConcN.Gen.WgLive.cell0 hF.2).choose_spec (qav hF2) hF
     refine Goes.stop (fun w₀ h₀ w₁ h₁=>?_);replace hF:=qav hF2 (qav hF2 hF h₀) h₁;clear h₁ h₀;refine⟨rfl,_,stepG_markAt .acquire (by simp) rfl rfl (by k_ne) rfl H.f_acquire (x_acquire_n L) (x_acquire_b L) (x_acquire_x L) (x_acquire_f L) (by simp [Act.eval,stA]),?_⟩;refine qbv (m:=60) ?_;walk_nrm
     repeat w_go (qi3 hF2)
     u_leave0 H.f_wait (qi3 hF2) hF
     exact Goes.stop (fun w₅ h₅=>hT _ (qi3 hF2 hF h₅).1 (qi3 hF2 hF h₅).2)
   ·
     refine⟨_,stepG_cas_miss (v:=(v':Int) * KK) (old:=S) (n:=S+1) rfl rfl (by k_ne) rfl H.f_casU64 (x_casU64_n L) (x_casU64_b L) (x_casU64_x L) .u64 (x_casU64_f L) rfl rfl rfl hw.cellSt (hw.thaw 0) (by rw [<-hS];simp only [KK];omega),_,qdp (m:=60) (M:=0) .refl qe8 ?_⟩;clear hw;walk_nrm
     repeat w_nl (qav hF2)
     u_leave1 H.f_uCas (qav hF2) hF
     repeat w_nl (qav hF2)
     u_c stepG_inLoop (qav hF2) hF
     refine Goes.stop (fun w₀ h₀ w₃ h₃=>?_);replace hF:=qav hF2 (qav hF2 hF h₀) h₃;exact⟨_,rfl,by simp,by simp,hF⟩
end
end
section
@[reducible] def wgL:Go.Conc.Lib.WgLink:={ add:=68,done:=70,wait:=72,relMerge:=101,disable:=102,enable:=103,inBubble:=104,associate:=105,fatal:=106,uOr:=107,uAdd:=108,raceRead:=109,uLoad:=110,uStore:=111,disassociate:=112,semrelease:=113,acquire:=116,isAssociated:=117,uCas:=118,raceWrite:=119,semacquire:=120,orU64:=150,addU64:=151,loadU64:=152,storeU64:=153,casU64:=156,tWgP:=143,tUP:=145,tAssoc:=146,tWg:=105,tAU:=103,tU64:=101,tUint:=150,tU32:=60,tPU32:=151,tPAU:=185,tPU64:=187,tNoCopy:=59,tANoCopy:=99,tAlign64:=100 }
theorem zX:Go.Conc.Lib.WgLib Tryz.prog wgL:=
 ⟨Tryz.func68,Tryz.func70,Tryz.func72,Tryz.func101,Tryz.func102,Tryz.func103,Tryz.func104,Tryz.func105,Tryz.func106,Tryz.func107,Tryz.func108,Tryz.func109,Tryz.func110,Tryz.func111,Tryz.func112,Tryz.func113,Tryz.func116,Tryz.func117,Tryz.func118,Tryz.func119,Tryz.func120,Tryz.func150,Tryz.func151,Tryz.func152,Tryz.func153,Tryz.func156,Tryz.underlying143,Tryz.runUnderlying143,Tryz.sizeOf143,Tryz.isAgg143,Tryz.zeroValue143,Tryz.underlying145,Tryz.runUnderlying145,Tryz.sizeOf145,Tryz.isAgg145,Tryz.zeroValue145,Tryz.underlying146,Tryz.runUnderlying146,Tryz.sizeOf146,Tryz.isAgg146,Tryz.zeroValue146,Tryz.underlying105,Tryz.runUnderlying105,Tryz.sizeOf105,Tryz.isAgg105,Tryz.zeroValue105,Tryz.underlying103,Tryz.runUnderlying103,Tryz.sizeOf103,Tryz.isAgg103,Tryz.zeroValue103,Tryz.underlying101,Tryz.runUnderlying101,Tryz.sizeOf101,Tryz.isAgg101,Tryz.zeroValue101,Tryz.underlying150,Tryz.runUnderlying150,Tryz.sizeOf150,Tryz.isAgg150,Tryz.zeroValue150,Tryz.underlying60,Tryz.runUnderlying60,Tryz.sizeOf60,Tryz.isAgg60,Tryz.zeroValue60,Tryz.underlying151,Tryz.runUnderlying151,Tryz.sizeOf151,Tryz.isAgg151,Tryz.zeroValue151,Tryz.underlying185,Tryz.runUnderlying185,Tryz.sizeOf185,Tryz.isAgg185,Tryz.zeroValue185,Tryz.underlying187,Tryz.runUnderlying187,Tryz.sizeOf187,Tryz.isAgg187,Tryz.zeroValue187,Tryz.underlying0,Tryz.runUnderlying0,Tryz.sizeOf0,Tryz.isAgg0,Tryz.zeroValue0,Tryz.underlying3,Tryz.runUnderlying3,Tryz.sizeOf3,Tryz.isAgg3,Tryz.zeroValue3,Tryz.underlying4,Tryz.runUnderlying4,Tryz.sizeOf4,Tryz.isAgg4,Tryz.zeroValue4,Tryz.underlying9,Tryz.runUnderlying9,Tryz.sizeOf9,Tryz.isAgg9,Tryz.zeroValue9,Tryz.underlying20,Tryz.runUnderlying20,Tryz.sizeOf20,Tryz.isAgg20,Tryz.zeroValue20,Tryz.underlying21,Tryz.runUnderlying21,Tryz.sizeOf21,Tryz.isAgg21,Tryz.zeroValue21,(by kernel_rfl),(by kernel_rfl)⟩
end
section
open Go.Conc Go.RowKit Go.Conc.Lib Go.ConcR.Gen
open Go.ConcR (KK WgAt stA smA DC0)
section
variable {P:Program}{main:Bool}{s:jD}{m:Nat}{b:Frame}{a:Act}{k:List Item}{cs:List Frame}{ops:Array Oper}{i:Nat}{rest:List Nat}{o:Oper}
theorem Way.ctl{g g':Goroutine}(hs:g.status=.running)(h:∀ w,stepG P main g w=.go g' w #[])(H:Way P main s m g'):Way P main s (m+1) g:=
 .inr ⟨hs,g',#[],fun w _=>h w,fun e he=>by simp at he,H⟩
theorem Way.here(h:qin P main s){fr:Frame}{cs:List Frame}(h1:fr=s.fr)(h2:cs=s.cs):Way P main s (m+1) (G fr cs):=by
 subst h1;subst h2;exact .inl ⟨rfl,h⟩
theorem Way.value(v:Value)(ho:ops[i]?=some o)(hw:Region.wanted o (yielded ops a.tmps)=true)(hk:b.kind≠.early)
   (hr:∀ w,(execOp a.eval o).run P w=.ok (.value v) w) (he:∀ w,(execOp a.eval o).events P w #[]=#[])
   (H:Way P main s m (G (b.at (a.put o.dst v) (.inRegion ops rest::k)) cs)):Way P main s (m+1) (G (b.at a (.inRegion ops (i::rest)::k)) cs):=
 .ctl rfl (fun w=>by rw [stepG_value ho hw hk (hr w)];unfold listed;rw [he w,seen_none]) H
theorem Way.load{ad:Addr}{v:Value}(hm:(ad,v)∈s.L)(ho:ops[i]?=some o)(hw:Region.wanted o (yielded ops a.tmps)=true)(hk:b.kind≠.early)
   (hr:∀ w,w.cell? ad=some v->(execOp a.eval o).run P w=.ok (.value v) w) (he:∀ w,w.cell? ad=some v->(execOp a.eval o).events P w #[]=#[⟨.cell ad,false,false⟩])
   (H:Way P main s m (G (b.at (a.put o.dst v) (.inRegion ops rest::k)) cs)):Way P main s (m+1) (G (b.at a (.inRegion ops (i::rest)::k)) cs):=
 .inr ⟨rfl,_,seen P b.fn #[⟨.cell ad,false,false⟩],fun w hL=>by rw [stepG_value ho hw hk (hr w (hL _ hm))];unfold listed;rw [he w (hL _ hm)],fun e he=>by
   have:=mem_seen he;rw [Array.mem_singleton] at this;subst this;exact⟨rfl,rfl,_,hm,rfl⟩,H⟩
theorem qrl{s:jD}(hfr:s.fr=b.at a (.inRegion ops (i::rest)::k))(ho:ops[i]?=some o)(hw:Region.wanted o (yielded ops a.tmps)=true)(hk:b.kind≠.early)
   (hr:∀ w,(execOp a.eval o).run P w=.ok (.comm #[rcase s.c s.z] true (.recv s.ok)) w) (he:∀ w,(execOp a.eval o).events P w #[]=#[]):qin P main s:=
 ⟨#[],fun w _=>by rw [hfr,stepG_comm ho hw hk (hr w)];unfold listed;rw [he w,seen_none],fun e he=>by simp at he⟩
end
def bot(P:Program):Frame:={ (default:Frame) with fn:=P.funcs.size,defers:=[],mode:=.panicking [goexitEntry] }
noncomputable def qzm:Code:=Tryz.f69.body.getD .skip
def qaN(wg cb bx fb ab:Nat):Array Value:=#[.pointer (some ⟨wg,0,none⟩),.pointer (some ⟨cb,0,none⟩),.pointer (some ⟨bx,0,none⟩),.pointer (some ⟨fb,0,none⟩),.pointer (some ⟨ab,0,none⟩)]
def q47(wg cb bx fb ab:Nat):Deferred:={ target:=.fn (.func 69) (qaN wg cb bx fb ab),args:=#[] }
theorem q48(wg cb bx fb ab:Nat)(w:World):stepG Tryz.prog false (born Tryz.prog (q47 wg cb bx fb ab)) w =
   .go (G ((baseD 69).at ⟨#[.pointer (some ⟨wg,0,none⟩),.pointer (some ⟨cb,0,none⟩),.pointer (some ⟨bx,0,none⟩),.pointer (some ⟨fb,0,none⟩),.pointer (some ⟨ab,0,none⟩),undef,undef,undef,undef,undef,undef,undef,undef,undef,undef,undef,undef,undef],[]⟩ [.code qzm]) [bot Tryz.prog]) w #[]:=by
 simp [born,q47,qaN,stepG,unwind,callDeferred,invoke,callFunc,Tryz.func69,Tryz.f69,seen,GStep.after,G,Frame.enter,Frame.at,baseD,bot,qzm]
noncomputable def qoz:Code:=match qzm with | .seq _ (.seq _ (.block _ (.loop c)))=>c | _=>.skip
noncomputable def qkk:Array Oper:=match qoz with | .seq (.region _ ops _) _=>ops | _=>#[]
noncomputable def qhx:Code:=match qoz with | .seq _ c=>c | _=>.skip
def qn4(wg cb bx fb ab ch:Nat)(x5 x6 x7 x8 x10 x11 x12 x13 x14 x15 x16 x17:Value):Array Value:=
 #[.pointer (some ⟨wg,0,none⟩),.pointer (some ⟨cb,0,none⟩),.pointer (some ⟨bx,0,none⟩),.pointer (some ⟨fb,0,none⟩),.pointer (some ⟨ab,0,none⟩),x5,x6,x7,x8,.chan (some ch),x10,x11,x12,x13,x14,x15,x16,x17]
noncomputable def qhy(L:List (Addr × Value))(wg cb bx fb ab ch:Nat)(x5 x6 x7 x8 x10 x11 x12 x13 x14 x15 x16 x17:Value):jD where
 L:=L
 fr:=(baseD 69).at ⟨qn4 wg cb bx fb ab ch x5 x6 x7 x8 x10 x11 x12 x13 x14 x15 x16 x17,[dcall 70 #[.pointer (some ⟨wg,0,none⟩)]]⟩ [.inRegion qkk [0,1],.code qhx,.inLoop qoz,.inBlock 0]
 cs:=[bot Tryz.prog]
 c:=ch
 z:=.int .i64 0
 ok:=true
section
variable {L:List (Addr × Value)}{wg cb bx fb ab ch:Nat}{x5 x6 x7 x8 x10 x11 x12 x13 x14 x15 x16 x17:Value}{main:Bool}
theorem qm2:qin Tryz.prog main (qhy L wg cb bx fb ab ch x5 x6 x7 x8 x10 x11 x12 x13 x14 x15 x16 x17):=by
 unfold qhy;simp only [qn4,qkk,qoz,qzm,Tryz.f69,Option.getD_some];refine qrl (b:=baseD 69) (i:=0) rfl rfl rfl (by decide) (fun w=>?_) (fun w=>?_)
 . simp [go_sem,rcase]
 . simp [go_sem]
end
def qg0(cb bx row ch k N:Nat):List (Addr × Value):=[(⟨cb,0,none⟩,.slice (some ⟨row,0,none⟩) N N),(⟨bx,0,none⟩,.int .i64 k),(⟨row,k,none⟩,.chan (some ch))]
section
variable {L:List (Addr × Value)}{wg cb bx fb ab ch row k N:Nat}{x5 x6 x7 x8 x10 x11 x12 x13 x14 x15 x16 x17:Value}
theorem q6x(hk:k < N):Way Tryz.prog false (qhy (qg0 cb bx row ch k N) wg cb bx fb ab ch undef (.slice (some ⟨row,0,none⟩) N N) (.int .i64 k) (.pointer (some ⟨row,k,none⟩)) undef undef undef undef undef undef undef undef) 20
   (born Tryz.prog (q47 wg cb bx fb ab)):=by
 have hk0:(0:Int)<=(k:Int):=by omega
 have hk1:(k:Int) < (N:Int):=by omega
 refine Way.ctl rfl (q48 wg cb bx fb ab) ?_;simp only [qzm,Tryz.f69,Option.getD_some];refine Way.ctl rfl (fun _=>stepG_seq) ?_;refine Way.ctl rfl (fun _=>stepG_region) ?_;simp only [List.size_toArray,List.length_cons,List.length_nil,Nat.zero_add,List.range,List.range.loop];refine Way.ctl rfl (fun _=>stepG_defer rfl rfl (by decide) rfl) ?_;walk_nrm;refine Way.ctl rfl (fun _=>stepG_region_end) ?_;refine Way.ctl rfl (fun _=>stepG_seq) ?_;refine Way.ctl rfl (fun _=>stepG_region) ?_;simp only [List.size_toArray,List.length_cons,List.length_nil,Nat.reduceAdd,Nat.zero_add,List.range,List.range.loop];refine Way.load (ad:=⟨cb,0,none⟩) (v:=.slice (some ⟨row,0,none⟩) N N) (by simp [qhy,qg0]) rfl rfl (by decide) (fun w h=>by go_simp) (fun w h=>by simp [go_sem,*]) ?_;walk_nrm;refine Way.load (ad:=⟨bx,0,none⟩) (v:=.int .i64 k) (by simp [qhy,qg0]) rfl rfl (by decide) (fun w h=>by go_simp) (fun w h=>by simp [go_sem,*]) ?_;walk_nrm;refine Way.value (.pointer (some ⟨row,k,none⟩)) rfl rfl (by decide) (fun w=>by go_simp) (fun w=>by simp [go_sem,*]) ?_;walk_nrm;refine Way.load (ad:=⟨row,k,none⟩) (v:=.chan (some ch)) (by simp [qhy,qg0]) rfl rfl (by decide) (fun w h=>by go_simp) (fun w h=>by simp [go_sem,*]) ?_;walk_nrm;refine Way.ctl rfl (fun _=>stepG_region_end) ?_;refine Way.ctl rfl (fun _=>stepG_block) ?_;refine Way.ctl rfl (fun _=>stepG_loop) ?_;refine Way.ctl rfl (fun _=>stepG_seq) ?_;refine Way.ctl rfl (fun _=>stepG_region) ?_;simp only [List.size_toArray,List.length_cons,List.length_nil,Nat.reduceAdd,Nat.zero_add,List.range,List.range.loop];exact Way.here qm2 rfl rfl
noncomputable def q49:Array Oper:=match qhx with | .seq _ (.block _ (.seq _ (.seq _ (.region _ ops _))))=>ops | _=>#[]
noncomputable def q7i(wg cb bx fb ab ch:Nat)(x5 x6 x7 x8 x10 x11 x12 x13 x14 x15 x16 x17:Value):Frame:=
 (baseD 69).at ⟨qn4 wg cb bx fb ab ch x5 x6 x7 x8 x10 x11 x12 x13 x14 x15 x16 x17,[dcall 70 #[.pointer (some ⟨wg,0,none⟩)]]⟩ [.inRegion q49 [2],.inBlock 1,.inLoop qoz,.inBlock 0]
theorem q5a:Way Tryz.prog false (qhy L wg cb bx fb ab ch x5 x6 x7 x8 x10 x11 x12 x13 x14 x15 x16 x17) 8 (Go.Conc.served (G (q7i wg cb bx fb ab ch x5 x6 x7 x8 x10 x11 x12 x13 x14 x15 x16 x17) [bot Tryz.prog]) undef):=by
 have e:Go.Conc.served (G (q7i wg cb bx fb ab ch x5 x6 x7 x8 x10 x11 x12 x13 x14 x15 x16 x17) [bot Tryz.prog]) undef=G ((baseD 69).at ⟨qn4 wg cb bx fb ab ch x5 x6 x7 x8 x10 x11 x12 x13 x14 x15 x16 x17,[dcall 70 #[.pointer (some ⟨wg,0,none⟩)]]⟩ [.inRegion q49 [],.inBlock 1,.inLoop qoz,.inBlock 0]) [bot Tryz.prog]:=rfl;rw [e];refine Way.ctl rfl (fun _=>stepG_region_end) ?_;refine Way.ctl rfl (fun _=>stepG_inBlock) ?_;refine Way.ctl rfl (fun _=>stepG_inLoop) ?_;have e2:qoz=.seq (.region 2 qkk false) qhx:=rfl;rw [e2];refine Way.ctl rfl (fun _=>stepG_seq) ?_;refine Way.ctl rfl (fun _=>stepG_region) ?_;exact Way.here qm2 rfl rfl
end
end
section
open Go.Conc Go.RowKit Go.Conc.Lib Go.ConcR.Gen Go.ConcN.Gen
open Go.ConcR (KK WgAt stA smA DC0 Payload)
open Go.ConcN (WgLive Has RW DWs AtR0)
theorem q2o(T:Array Value):QuitsD Tryz.prog 2 0 (G { (baseD 69).at ⟨T,[]⟩ [] with mode:=.returning } [bot Tryz.prog]):=by
 refine QuitsD.ctl (g':=G (bot Tryz.prog) []) rfl (fun w=>?_) ?_
 . simp [G,stepG,unwind,doReturn,results,Frame.at,baseD,bot,Tryz.func69,Tryz.f69,seen,GStep.after,goexitEntry]
 refine QuitsD.ctl (g':={ G (bot Tryz.prog) [] with status:=.finished }) rfl (fun w=>?_) ⟨rfl,rfl⟩;simp [G,stepG,unwind,bot,goexitEntry,Frame.catches];rfl
section
variable [Payload]{L:List (Addr × Value)}{wg cb bx fb ab ch:Nat}{x5 x6 x7 x8 x10 x11 x12 x13 x14 x15 x16 x17 val:Value}
theorem qzn{w:World}(hw:WgLive wgL.tWg wg w)(hb:w.cell? ⟨bx,0,none⟩=some val) :
   q3l Tryz.prog wgL.tWg wg ⟨qhy L wg cb bx fb ab ch x5 x6 x7 x8 x10 x11 x12 x13 x14 x15 x16 x17,bx,val⟩ (Go.Conc.served (G (qhy L wg cb bx fb ab ch x5 x6 x7 x8 x10 x11 x12 x13 x14 x15 x16 x17).fr (qhy L wg cb bx fb ab ch x5 x6 x7 x8 x10 x11 x12 x13 x14 x15 x16 x17).cs) (recvd true (.int .i64 0) false)) w:=by
 have e:Go.Conc.served (G (qhy L wg cb bx fb ab ch x5 x6 x7 x8 x10 x11 x12 x13 x14 x15 x16 x17).fr (qhy L wg cb bx fb ab ch x5 x6 x7 x8 x10 x11 x12 x13 x14 x15 x16 x17).cs) (recvd true (.int .i64 0) false) =
     G ((baseD 69).at ⟨qn4 wg cb bx fb ab ch x5 x6 x7 x8 (.tuple #[.int .i64 0,.bool false]) x11 x12 x13 x14 x15 x16 x17,[dcall 70 #[.pointer (some ⟨wg,0,none⟩)]]⟩ [.inRegion qkk [1],.code qhx,.inLoop qoz,.inBlock 0]) [bot Tryz.prog]:=rfl
 rw [e];have hK:WgLive wgL.tWg wg w/\Has bx (1 - 1) val w:=⟨hw,hb⟩;refine⟨60,?_⟩;show Goes Tryz.prog false (RW wgL.tWg wg bx 1 0 (1 - 1)) (DWs wg qk7 qk7 bx 1 1) (AtR0 Tryz.prog wgL.tWg wg bx 1 0 1 val) _ _ w;simp only [qn4,qkk,qhx,qoz,qzm,Tryz.f69,Option.getD_some]
 u_op kn_rely hK
 u_c stepG_region_end kn_rely hK
 u_c stepG_seq kn_rely hK
 u_cond false kn_rely hK
 u_exit kn_rely hK
 u_c stepG_end kn_rely hK
 u_in kn_rely hK
 rw [stepG_unwind_enter rfl Tryz.func70 (nm_done wgL) rfl];simp only [goes_go];refine⟨by u_nil,?_⟩;walk_nrmf Tryz.f70;have hA:=fun {c:Frame} {cs:List Frame} {qt:Nat}=>doneN (L:=wgL) (P:=Tryz.prog) zX (Own:=qk7) (Rd:=qk7) (Wg:=wg) (C:=bx) (n:=1) (Low:=0) (k:=1) (val:=val) (c:=c) (cs:=cs) (qt:=qt);simp only [body_done,doneFn,Option.getD_some] at hA;exact Go.ConcM.goes_le (by omega) (hA rfl (q2o _) _ hK)
end
end
section
open Go.Conc Go.RowKit Go.Conc.Lib Go.ConcR.Gen Go.Conc.Locks
open Go.ConcN (upd upd_ne upd_same)
section
variable {P:Program}{Post:Value->World->Prop}{Sh:Nat->Prop}{Fz:Loc->Prop}{T:Nat->q8}{n h:Nat}{g:Goroutine}{w:World}
theorem qte(hs:g.status=.running){k κ:Nat}{s sh:jD}(hk:k≠h)(hkn:k < n)(hT:T k=.seat s){v z:Value}(hc:w.heap[s.c]?=some (.chan 0 #[] false κ κ false))
   (step:∀ w,stepG P (h == 0) g w=.comm g #[scase s.c v z] true .send w #[])
   {mh:Nat} (yc:Way P (h == 0) sh mh (Go.Conc.served g undef)) (hL:holds sh.L w) (hch:∃ κ',w.heap[sh.c]?=some (.chan 0 #[] false κ' κ' false)) (hd:sh.c≠s.c) (hdo:∀ i s',i≠h->i≠k->i < n->T i=.seat s'->s'.c≠sh.c) (hfz:∀ l,StL sh.L l->Fz l/\¬ qim Sh l)
   (next:qd P Post Sh Fz (upd T h (.seat sh)) n k 0 (Go.Conc.served (G s.fr s.cs) (recvd s.ok v true)) (w.setChan s.c 0 #[] false (κ+1) (κ+1) false)):qd P Post Sh Fz T n h 0 g w:=
 fun d=>q3i (v:=v) (z:=z) hs hk hkn hT (κ:=κ) hc ⟨#[],fun e=>step _,fun e he=>by simp at he,rfl⟩ yc hL hch hd hdo hfz (fun e=>next e)
theorem qtf{main:Bool}{b:Frame}{a:Act}{k:List Item}{cs:List Frame}{ops:Array Oper}{i:Nat}{rest:List Nat}{o:Oper}{c:Nat}{v z:Value}(ho:ops[i]?=some o)(hw:Region.wanted o (yielded ops a.tmps)=true)(hk:b.kind≠.early)
   (hr:∀ w,(execOp a.eval o).run P w=.ok (.comm #[scase c v z] true .send) w) (he:∀ w,(execOp a.eval o).events P w #[]=#[]) :
   ∀ w,stepG P main (G (b.at a (.inRegion ops (i::rest)::k)) cs) w=.comm (G (b.at a (.inRegion ops (i::rest)::k)) cs) #[scase c v z] true .send w #[]:=fun w=>by
 rw [stepG_comm ho hw hk (hr w)];unfold listed;rw [he w,seen_none]
end
structure ql(C:Pen)(X:Nat->Prop)(w w':World):Prop where
 block:∀ r,¬ X r->(¬ C.B r∨C.Z r∨C.Ch r)->w'.heap[r]?=w.heap[r]?
 size:w.heap.size<=w'.heap.size
 os:w'.os=w.os
 output:w'.output=w.output
 tape:w'.tape=w.tape
theorem Held.but{C:Pen}{X:Nat->Prop}{w w':World}(h:Held C w w'):ql C X w w':=⟨fun r _ hr=>h.block r hr,h.size,h.os,h.output,h.tape⟩
theorem ql.refl(C:Pen)(X:Nat->Prop)(w:World):ql C X w w:=(Held.refl C w).but
theorem ql.trans{C:Pen}{X:Nat->Prop}{a b c:World}(h:ql C X a b)(k:ql C X b c):ql C X a c:=
 ⟨fun r hr hr'=>(k.block r hr hr').trans (h.block r hr hr'),Nat.le_trans h.size k.size,k.os.trans h.os,k.output.trans h.output,k.tape.trans h.tape⟩
theorem ql.mono{C:Pen}{X Y:Nat->Prop}{a b:World}(h:ql C X a b)(k:∀ r,X r->Y r):ql C Y a b:=⟨fun r hr hr'=>h.block r (fun x=>hr (k r x)) hr',h.size,h.os,h.output,h.tape⟩
theorem ql.chan{C:Pen}{X:Nat->Prop}{w:World}{c:Nat}(hX:X c)(k:Nat)(b:Array Value)(cl:Bool)(m n:Nat)(t:Bool):ql C X w (w.setChan c k b cl m n t):=
 ⟨fun r hr _=>(by rw [qby,if_neg (fun e=>by subst e;exact hr hX)]),by simp [World.setChan],rfl,rfl,rfl⟩
theorem ql.new{C:Pen}{X:Nat->Prop}{w:World}(hX:X w.heap.size)(o:Obj):ql C X w (w.alloc o):=
 ⟨fun r hr _=>qb4 w o (fun e=>by subst e;exact hr hX),by simp,rfl,rfl,rfl⟩
theorem ql.set{C:Pen}{X:Nat->Prop}{w:World}{a:Addr}(hX:X a.block)(v:Value):ql C X w (w.setCell a v):=
 ⟨fun r hr _=>qcw w a v r (fun e=>by subst e;exact hr hX),by simp,rfl,rfl,rfl⟩
theorem Held.cell{C:Pen}{w w':World}(h:Held C w w'){a:Addr}(ha:C.Z a.block){v:Value}(hv:w.cell? a=some v):w'.cell? a=some v:=by
 unfold World.cell? at hv |-;rw [h.block _ (.inr (.inl ha))];exact hv
theorem q5b{w:World}{c k:Nat}{b:Array Value}{cl:Bool}{m n:Nat}{t:Bool}(h:w.heap[c]?=some (.chan k b cl m n t)):c < w.heap.size:=(Array.getElem?_eq_some_iff.1 h).1
def xz(L:List (Addr × Value))(wg cb bx fb ab ch:Nat)(s:jD):Prop:=∃ x5 x6 x7 x8 x10 x11 x12 x13 x14 x15 x16 x17,s=qhy L wg cb bx fb ab ch x5 x6 x7 x8 x10 x11 x12 x13 x14 x15 x16 x17
section
variable {gr:Grd}{M:Mks gr.base}{S:List String}{Post:Value->World->Prop}{Sh:Nat->Prop}{Fz:Loc->Prop}{T:Nat->q8}{n h:Nat}{w z:World}
theorem q2q(H:jo (gr.base.pen M) S)(jw:qe0 (gr.base.pen M) S (gr.X 71) qv)(hb:Both (gr.base.pen M) w z)(O:Outside (gr.base.pen M) Sh Fz T n h)(hL:qH T n h w)
   {fl:Nat} {j call:Int} (hA:gr.A ⟨fl,0,none⟩) (hc0:z.cell? ⟨fl,0,none⟩=some (.int .i32 0)) {R:World->Prop} (hR:∀ x y,x.heap=y.heap->R x->R y) (hR0:∀ x,R x->x.cell? ⟨fl,0,none⟩=some (.int .i32 1))
   (piece:∀ d t,qv.wp Tryz.prog (fun e _ x=>e=.normal/\R x) ⟨qfn fl j,[]⟩ (re ((z.setCell ⟨fl,0,none⟩ (.int .i32 1)).at d) t 0))
   {L:List (Addr × Value)} {wg cb bx fb ab ch ac:Nat} {s sh:jD} (hs:xz L wg cb bx fb ab ch s) (h0:h≠0) (hn:0 < n) (hT0:T 0=.seat sh) (hsh:sh.c=ac)
   (hfb:w.cell? ⟨fb,0,none⟩=some (.pointer (some ⟨fl,0,none⟩))) (hbx:w.cell? ⟨bx,0,none⟩=some (.int .i64 j)) (hab:w.cell? ⟨ab,0,none⟩=some (.chan (some ac)))
   (zab:M.Z ab) (nfb:¬ Sh fb) (nbx:¬ Sh bx) (nab:¬ Sh ab) {κ:Nat} (hac:w.heap[ac]?=some (.chan 0 #[] false κ κ false)) (cac:M.Ch ac) (pac:¬ M.Pt ac) (bac:gr.A ⟨ac,0,none⟩)
   (hown:holds L w) (hch:∃ κ',w.heap[ch]?=some (.chan 0 #[] false κ' κ' false)) (cch:M.Ch ch) (hne:ch≠ac) (hdo:∀ i s',i≠h->i≠0->i < n->T i=.seat s'->s'.c≠ch) (hfz:∀ l,StL L l->Fz l/\¬ qim Sh l) (hLZ:∀ x,x∈L->M.Z x.1.block)
   (next:∀ s' w' z',xz L wg cb bx fb ab ch s'->R z'->Both (gr.base.pen M) w' ((z'.setCell ⟨fl,0,none⟩ (.int .i32 0)).setChan ac 0 #[] false (κ+1) (κ+1) false)->ql (gr.base.pen M) (fun r=>r=ac) w w' ->
     w'.heap[ac]?=some (.chan 0 #[] false (κ+1) (κ+1) false)->(z'.setCell ⟨fl,0,none⟩ (.int .i32 0)).heap[ac]?=some (.chan 0 #[] false κ κ false)->qd Tryz.prog Post Sh Fz (upd T h (.seat s')) n 0 0 (Go.Conc.served (G sh.fr sh.cs) (recvd sh.ok (.int .i64 call) true)) w') :
   qd Tryz.prog Post Sh Fz T n h 0 (Go.Conc.served (G s.fr s.cs) (recvd s.ok (.int .i64 call) true)) w:=by
 obtain⟨x5,x6,x7,x8,x10,x11,x12,x13,x14,x15,x16,x17,rfl⟩:=hs
 have e:Go.Conc.served (G (qhy L wg cb bx fb ab ch x5 x6 x7 x8 x10 x11 x12 x13 x14 x15 x16 x17).fr (qhy L wg cb bx fb ab ch x5 x6 x7 x8 x10 x11 x12 x13 x14 x15 x16 x17).cs) (recvd (qhy L wg cb bx fb ab ch x5 x6 x7 x8 x10 x11 x12 x13 x14 x15 x16 x17).ok (.int .i64 call) true) =
     G ((baseD 69).at ⟨qn4 wg cb bx fb ab ch x5 x6 x7 x8 (.tuple #[.int .i64 call,.bool true]) x11 x12 x13 x14 x15 x16 x17,[dcall 70 #[.pointer (some ⟨wg,0,none⟩)]]⟩ [.inRegion qkk [1],.code qhx,.inLoop qoz,.inBlock 0]) [bot Tryz.prog]:=rfl
 rw [e];clear e;generalize hl:qoz=lp;simp only [qn4,qkk,qhx,qoz,qzm,Tryz.f69,Option.getD_some];refine qat (.bool true) rfl rfl (by decide) (fun w=>by go_simp) (fun w=>by simp [go_sem]) ?_;walk_nrm;refine qan ?_;refine qau ?_;refine qhc (t:=true) rfl ?_;simp only [if_true];refine qmn ?_;refine qe4 ?_;refine qau ?_;refine qaz ?_;simp only [List.size_toArray,List.length_cons,List.length_nil,Nat.reduceAdd,Nat.zero_add,List.range,List.range.loop];refine qat (.int .i64 call) rfl rfl (by decide) (fun w=>by go_simp) (fun w=>by simp [go_sem]) ?_;walk_nrm;refine qat (.int .i64 call) rfl rfl (by decide) (fun w=>by go_simp) (fun w=>by simp [go_sem]) ?_;walk_nrm;refine qan ?_;refine qau ?_;refine qaz ?_;simp only [List.size_toArray,List.length_cons,List.length_nil,Nat.reduceAdd,Nat.zero_add,List.range,List.range.loop];refine qdx hfb nfb rfl rfl (by decide) (fun w h=>by go_simp) (fun w h=>by simp [go_sem,*]) ?_;walk_nrm;refine qdx hbx nbx rfl rfl (by decide) (fun w h=>by go_simp) (fun w h=>by simp [go_sem,*]) ?_;walk_nrm;refine qhh (c:=qg1) rfl rfl (by decide) rfl Tryz.func71 (by kernel_rfl) rfl ?_;walk_nrmf Tryz.f71;refine q2p H jw hb O hL hA hc0 hR hR0 piece (fun w1 z1 hb1 hh1 hL1 hR1=>?_);walk_nrm;refine qan ?_;refine qaz ?_;simp only [List.size_toArray,List.length_cons,List.length_nil,Nat.reduceAdd,Nat.zero_add,List.range,List.range.loop];have qeT:=hh1.cell (a:=⟨ab,0,none⟩) zab hab;refine qdx qeT nab rfl rfl (by decide) (fun w h=>by go_simp) (fun w h=>by simp [go_sem,*]) ?_;walk_nrm;refine qat (.int .i64 call) rfl rfl (by decide) (fun w=>by go_simp) (fun w=>by simp [go_sem]) ?_;walk_nrm;subst hl;have qaO:w1.heap[ac]?=some (.chan 0 #[] false κ κ false):=(hh1.block _ (.inr (.inr cac))).trans hac;obtain⟨κ',hch⟩:=hch;have qeU:w1.heap[ch]?=some (.chan 0 #[] false κ' κ' false):=(hh1.block _ (.inr (.inr cch))).trans hch;have hown1:holds L w1:=fun x hx=>hh1.cell (hLZ x hx) (hown x hx);subst hsh
 refine qte (k:=0) (s:=sh) (sh:=qhy L wg cb bx fb ab ch (.int .i64 call) x6 x7 x8 (.tuple #[.int .i64 call,.bool true]) (.bool true) (.int .i64 call) (.pointer (some ⟨fl,0,none⟩)) (.int .i64 j) (.tuple #[]) (.chan (some sh.c)) (.int .i64 call)) (mh:=8) (v:=.int .i64 call) rfl h0.symm hn hT0 qaO
   (qtf rfl rfl (by decide) (fun w=>by simp [go_sem,scase];rfl) (fun w=>by simp [go_sem])) ?_ hown1 ⟨κ',qeU⟩ hne hdo hfz ?_
 . have:(h == 0)=false:=by simpa using h0
   rw [this];exact q5a
 . refine next _ _ z1 ⟨_,_,_,_,_,_,_,_,_,_,_,_,rfl⟩ hR1 (hb1.setChan pac 0 #[] false (κ+1) (κ+1) false) (hh1.but.trans (ql.chan (X:=fun r=>r=sh.c) rfl _ _ _ _ _ _)) ?_ ((hb1.vA ⟨_,bac,rfl⟩ pac).trans qaO);rw [qby,if_pos rfl,if_pos (q5b qaO)]
end
end
end Go.Proofs.YtacemdoejblgaaaGreatDoor

/- The law FnExactScheduleRun: whatever plan, number and choices it is given, it returns true, and what was there reads as it did; goroutines that it starts have left or only leave; the library's tables are as the program's text lays them (the card ties them). Conditions: the row's own. -/
import Derived.Test.YtacemdoejblgaaaGreatDoorM13
import Derived.Test.YtacemdoejblgaaaGreatDoorM14
import Derived.Test.YtacemdoejblgaaaGreatDoorCards
import Derived.Test.YtacemdoejblgaaaGreatDoorTie
import Derived.SevenTiedAt
namespace Go.Proofs.YtacemdoejblgaaaGreatDoor.fnExactScheduleRunDone
open Go.ChangeShapes Go.WideShapes Go.ChangeAt Go.RowKit Go.Conc Go.ConcM
set_option maxRecDepth 100000 in
theorem lifted(os:Os)(started:os.Started)(H:Type)(enc:TypeId×Value->H)(F:Stop.Interp) :
   ReturnsInLeavingWide {calm:=true} Tryz.checked os 11 .any (λw args=>(Rows.fnExactScheduleRunSpec.pre enc Tryz.prog Tryz.f11 [] false w args/\laidMetH Tryz.prog Rows.fnExactScheduleRunRow.laid w)/\sizedMet enc Tryz.prog Tryz.f11 (OpenSpec.ofChange Rows.fnExactScheduleRunSpec) false w args)
    ((OpenSpec.ofChange Rows.fnExactScheduleRunSpec).postWith enc Tryz.prog Tryz.f11 F (outsideKept [.timePasses]) false true false):=by
 refine qen (C:=Tryz.checked) (X:=λw _=>laidMetH Tryz.prog Rows.fnExactScheduleRunRow.laid w) (λ_ _ _ hh h=>h.of_heap hh) qiM started Tryz.func11
  (qw5 (enc:=enc) (C:=Tryz.checked) (os:=os) (X:=λw _=>laidMetH Tryz.prog Rows.fnExactScheduleRunRow.laid w) (World.doorLaid Tryz.prog 400 os) #[.slice none 0 0,.int .i64 0,.slice none 0 0] 8 rfl (q2t os _) (by kernel_rfl) (by kernel_rfl) (by kernel_rfl) (q9p os _)) ?_
 intro W base args ds gs before qcT hW hL hsh;have hval:∀(j:Nat) t v,Tryz.f11.params[j]?=some t->args[j]?=some v->Value.okWide Tryz.prog W .any base t v:=qcT;have hW':=hW;obtain⟨p,q,hA0,hV,rfl,hfz,hnd⟩:=hW;have hA:DataW.TrodAll enc Tryz.prog W 0 (λ_=>true) true Tryz.f11.params.toList args.toList ds p:=hA0;rw[Tryz.params11]at hA hval;obtain⟨v0,vs0,d0,ds0,p0,q0,qeX,rfl,rfl,h0,r0⟩:=trodAll_cons hA;obtain⟨v1,vs1,d1,ds1,p1,q1,qeY,rfl,rfl,h1,r1⟩:=trodAll_cons r0;obtain⟨v2,vs2,d2,ds2,p2,q2,qeZ,rfl,rfl,h2,r2⟩:=trodAll_cons r1;obtain⟨rfl,rfl,rfl⟩:=trodAll_nil r2;obtain rfl:args=#[v0,v1,v2]:=by cases args;simp_all
 obtain⟨dg,rfl⟩:∃dg,gs=[dg]:=by
  obtain⟨_,_,_,_,d,_,e,_⟩:=trodVars_one hV;exact⟨d,e⟩
 obtain⟨a0,zO,xE,rfl⟩:=okWide_slice Tryz.underlying43 (hval 0 43 v0 rfl rfl);obtain⟨n1,rfl⟩:=okWide_int Tryz.underlying3 (hval 1 3 v1 rfl rfl);obtain⟨a2,qlF,qhA,rfl⟩:=okWide_slice Tryz.underlying24 (hval 2 24 v2 rfl rfl);have k0:=h0;have lt0:∀x∈p0,x.block<W.heap.size:=by obtain⟨m,hm⟩:=k0;exact DataW.trod_lt m _ _ _ hm
 have k1:=h1;have lt1:∀x∈p1,x.block<W.heap.size:=by obtain⟨m,hm⟩:=k1;exact DataW.trod_lt m _ _ _ hm
 have k2:=h2;have lt2:∀x∈p2,x.block<W.heap.size:=by obtain⟨m,hm⟩:=k2;exact DataW.trod_lt m _ _ _ hm
 obtain⟨qa,w0⟩:=qw3 h0;obtain⟨l,w2,hx⟩:=qsk h2
 have hS:∃ea,Start W ea:=by
  have hL':=hL;rw[MakeChecks.laidMetH_plain _ _ _ (by kernel_rfl)]at hL';exact q7t hsh hL'
 obtain⟨ea,S⟩:=hS;obtain⟨M,last,oo,w',t',r1,r2,r3,v,e,hp,g1,g2,g3,g4⟩:=quq (qhy (nw:=n1) S w0 w2 hx);refine⟨M,last,oo,w',t',r1,r2,r3,v,e,⟨?_,?_⟩,g1,g2,g3,g4⟩
 . have bel:=hp.below;obtain⟨pv,hpv⟩:=q9n hV bel;obtain rfl:=hp.1;exact⟨_,_,_,[],_,pv,hW',trodAll_mk1 (shut_bool Tryz.underlying4 _),(trodAll_cons_mk (Below.trod ql0 (by kernel_rfl) (of_decide_eq_true (by kernel_rfl)) k0 bel lt0) (trodAll_cons_mk (Below.trod ql0 (by kernel_rfl) (of_decide_eq_true (by kernel_rfl)) k1 bel lt1) (trodAll_cons_mk (Below.trod ql0 (by kernel_rfl) (of_decide_eq_true (by kernel_rfl)) k2 bel lt2) trodAll_mk0))),hpv,bel.frame _,λh=>by cases h⟩
 . rw[hp.2.2.2.1];exact OsLater.refl _
theorem c0:Rows.fnExactScheduleRunRow.wf (OpenSpec.ofChange Rows.fnExactScheduleRunSpec)=true:=by kernel_rfl
theorem c3:(Tryz.f11.params.all (Tryz.prog.readableRec ·)&&namedTie Tryz.prog Rows.fnExactScheduleRunRow.named Rows.fnExactScheduleRunSpec.vars&&(Rows.fnExactScheduleRunRow.stops==[])&&(Tryz.prog.stops==[])&&(Rows.fnExactScheduleRunRow.knobs==[])&&(Tryz.prog.stopKnobs==[]))=true:=by kernel_rfl
theorem c4:(Rows.fnExactScheduleRunRow.inPlace==Tryz.prog.inPlace 11)=true:=by kernel_rfl
theorem c5:(Rows.fnExactScheduleRunRow.unfollowed==Tryz.prog.unfollowed 11)=true:=by kernel_rfl
theorem c6:(Rows.fnExactScheduleRunRow.recurses==Tryz.prog.recurses 11)=true:=by kernel_rfl
theorem c7:(Rows.fnExactScheduleRunRow.named==Tryz.prog.varsNamed 11)=true:=by kernel_rfl
theorem joined:joinedFacts Tryz.prog 11 Tryz.f11 Rows.fnExactScheduleRunSpec Rows.fnExactScheduleRunRow=true:=
 q2r c0 ql0 q2u c3 c4 c5 c6 c7 (by kernel_rfl) (by kernel_rfl) (by kernel_rfl) q5h (by rw[qzf];rfl) (by rw[qiO];rfl) (by kernel_rfl) (by kernel_rfl)
theorem inst:Tryz.f11.isInstance Tryz.prog "" []:=q7r rfl rfl (by kernel_rfl)
theorem q9r:Check.packageOf Tryz.f11.name≠ "main":=by decide +kernel
theorem wrapped:Tryz.f11.isWrapper Tryz.prog false "":=q7s Tryz.prog Tryz.f11 q9r
theorem q5i:Rows.FnExactScheduleRunSaid:=
 OpenClaim.holds_of_wide_leaving_time 11 Tryz.f11 rfl rfl rfl rfl rfl rfl rfl ⟨rfl,rfl,rfl,rfl,rfl⟩ rfl rfl rfl rfl rfl (by kernel_rfl) Tryz.func11 joined
  inst wrapped
  (λos started H enc _ F=>lifted os started H enc F)
theorem p1:Rows.fnExactScheduleRunRow.wfByText (OpenSpec.ofChange Rows.fnExactScheduleRunSpec)=true:=by kernel_rfl
theorem p4:true=Rows.fnExactScheduleRunRow.goesBy Tryz.pinned.checked.prog:=by kernel_rfl
theorem proved:Rows.FnExactScheduleRunCardSaid:=
 ql1 .later [] [.sentinel] true Rows.fnExactScheduleRunCard.stood.harness true
  q5i (λ_ h=>by cases h) p1 (λ_ h=>by cases h) fnExactScheduleRun_row_tie rfl ⟨rfl,rfl⟩ q9q rfl
  (λf fn hf hfn=>by
   obtain rfl:f=11:=Option.some.inj ((show Tryz.prog.funcNamed "loop.example/workplans/laws.FnExactScheduleRun" = some 11 by kernel_rfl).symm.trans hf) |>.symm;obtain rfl:fn=Tryz.f11:=(Option.some.inj (Tryz.func11.symm.trans hfn)).symm
   exact⟨qiP,λj t ht=>by
    rw[Tryz.params11]at ht;have hm:t∈[43,3,24]:=by simpa using Array.mem_of_getElem? ht
    have hall:([43,3,24].all λu=>!Tryz.prog.wantsStandIn u)=true:=by kernel_rfl
    exact(show Tryz.prog.wantsStandIn t=false by simpa using List.all_eq_true.1 hall t hm)⟩)
  p4
#print axioms proved
end Go.Proofs.YtacemdoejblgaaaGreatDoor.fnExactScheduleRunDone

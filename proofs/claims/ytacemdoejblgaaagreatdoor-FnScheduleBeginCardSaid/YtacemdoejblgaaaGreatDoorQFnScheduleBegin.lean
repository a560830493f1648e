/- The law FnScheduleBegin: whatever bytes it is given, it returns true, and what was there reads as it did; goroutines that it starts have left or only leave; the library's tables are as the program's text lays them (the card ties them). Conditions: the row's own. -/
import Derived.Test.YtacemdoejblgaaaGreatDoorM24
import Derived.Test.YtacemdoejblgaaaGreatDoorSFnScheduleBegin
import Derived.Test.YtacemdoejblgaaaGreatDoorCards
import Derived.Test.YtacemdoejblgaaaGreatDoorTie
import Derived.SevenTiedAt
namespace Go.Proofs.YtacemdoejblgaaaGreatDoor.fnScheduleBeginDone
open Go.ChangeShapes Go.WideShapes Go.ChangeAt Go.RowKit Go.Conc Go.ConcM
set_option maxRecDepth 100000 in
theorem lifted(os:Os)(started:os.Started)(H:Type)(enc:TypeId×Value->H)(F:Stop.Interp) :
   ReturnsInLeavingWide {calm:=true} Tryz.checked os 7 .any (λw args=>(Rows.fnScheduleBeginSpec.pre enc Tryz.prog Tryz.f7 [] false w args/\laidMetH Tryz.prog Rows.fnScheduleBeginRow.laid w)/\sizedMet enc Tryz.prog Tryz.f7 (OpenSpec.ofChange Rows.fnScheduleBeginSpec) false w args)
    ((OpenSpec.ofChange Rows.fnScheduleBeginSpec).postWith enc Tryz.prog Tryz.f7 F (outsideKept [.timePasses]) false true false):=by
 refine qa5 (C:=Tryz.checked) (X:=λw _=>laidMetH Tryz.prog Rows.fnScheduleBeginRow.laid w) (λ_ _ _ hh h=>h.of_heap hh) qaG started Tryz.func7
  (qe7 (enc:=enc) (C:=Tryz.checked) (os:=os) (X:=λw _=>laidMetH Tryz.prog Rows.fnScheduleBeginRow.laid w) (World.doorLaid Tryz.prog 400 os) #[.slice none 0 0] 8 rfl (qgh os _) (by kernel_rfl) (by kernel_rfl) (by kernel_rfl) (qn9 os _)) ?_
 intro W base args ds gs before zU hW hL hsh;have hval:∀(j:Nat) t v,Tryz.f7.params[j]?=some t->args[j]?=some v->Value.okWide Tryz.prog W .any base t v:=zU;have hW':=hW;obtain⟨p,q,hA0,hV,rfl,hfz,hnd⟩:=hW;have hA:DataW.TrodAll enc Tryz.prog W 0 (λ_=>true) true Tryz.f7.params.toList args.toList ds p:=hA0;rw[Tryz.params7]at hA hval;obtain⟨v0,vs0,d0,ds0,p0,q0,vH,rfl,rfl,h0,r0⟩:=trodAll_cons hA;obtain⟨rfl,rfl,rfl⟩:=trodAll_nil r0;obtain rfl:args=#[v0]:=by cases args;simp_all
 obtain⟨dg,rfl⟩:∃dg,gs=[dg]:=by
  obtain⟨_,_,_,_,d,_,e,_⟩:=trodVars_one hV;exact⟨d,e⟩
 have hv0:=hval 0 22 v0 rfl rfl;obtain⟨a0,xR,xN,rfl⟩:=okWide_slice Tryz.underlying22 hv0;have k0:=h0;have lt0:∀x∈p0,x.block<W.heap.size:=by obtain⟨m,hm⟩:=k0;exact DataW.trod_lt m _ _ _ hm
 have hS:∃ea,Start W ea:=by
  have hL':=hL;rw[MakeChecks.laidMetH_plain _ _ _ (by kernel_rfl)]at hL';exact qjr hsh hL'
 obtain⟨ea,S⟩:=hS;obtain⟨g,o,cs,e,fr,HC⟩:=qfu S h0 hv0 (λb off hb=>hfz b off (by simp[hb]));obtain⟨M,last,oo,w',t',r1,r2,r3,v,e,hp,g1,g2,g3,g4⟩:=qe8 (qnb S HC);refine⟨M,last,oo,w',t',r1,r2,r3,v,e,⟨?_,?_⟩,g1,g2,g3,g4⟩
 . have bel:=hp.below;obtain⟨pv,hpv⟩:=qn8 hV bel;obtain rfl:=hp.1;exact⟨_,_,_,[],_,pv,hW',trodAll_mk1 (shut_bool Tryz.underlying4 _),(trodAll_cons_mk (Below.trod qel (by kernel_rfl) (of_decide_eq_true (by kernel_rfl)) k0 bel lt0) trodAll_mk0),hpv,bel.frame _,λh=>by cases h⟩
 . rw[hp.2.2.2.1];exact OsLater.refl _
theorem c0:Rows.fnScheduleBeginRow.wf (OpenSpec.ofChange Rows.fnScheduleBeginSpec)=true:=by kernel_rfl
theorem c3:(Tryz.f7.params.all (Tryz.prog.readableRec ·)&&namedTie Tryz.prog Rows.fnScheduleBeginRow.named Rows.fnScheduleBeginSpec.vars&&(Rows.fnScheduleBeginRow.stops==[])&&(Tryz.prog.stops==[])&&(Rows.fnScheduleBeginRow.knobs==[])&&(Tryz.prog.stopKnobs==[]))=true:=by kernel_rfl
theorem c4:(Rows.fnScheduleBeginRow.inPlace==Tryz.prog.inPlace 7)=true:=by kernel_rfl
theorem c5:(Rows.fnScheduleBeginRow.unfollowed==Tryz.prog.unfollowed 7)=true:=by kernel_rfl
theorem c6:(Rows.fnScheduleBeginRow.recurses==Tryz.prog.recurses 7)=true:=by kernel_rfl
theorem c7:(Rows.fnScheduleBeginRow.named==Tryz.prog.varsNamed 7)=true:=by kernel_rfl
theorem joined:joinedFacts Tryz.prog 7 Tryz.f7 Rows.fnScheduleBeginSpec Rows.fnScheduleBeginRow=true:=
 qgg c0 qel qgi c3 c4 c5 c6 c7 (by kernel_rfl) (by kernel_rfl) (by kernel_rfl) qh5 (by rw[qft];rfl) (by rw[q3s];rfl) (by kernel_rfl) (by kernel_rfl)
theorem inst:Tryz.f7.isInstance Tryz.prog "" []:=qjp rfl rfl (by kernel_rfl)
theorem jS:Check.packageOf Tryz.f7.name≠ "main":=by decide +kernel
theorem wrapped:Tryz.f7.isWrapper Tryz.prog false "":=qjq Tryz.prog Tryz.f7 jS
theorem row_holds:Rows.FnScheduleBeginSaid:=
 OpenClaim.holds_of_wide_leaving_time 7 Tryz.f7 rfl rfl rfl rfl rfl rfl rfl ⟨rfl,rfl,rfl,rfl,rfl⟩ rfl rfl rfl rfl rfl (by kernel_rfl) Tryz.func7 joined
  inst wrapped
  (λos started H enc _ F=>lifted os started H enc F)
theorem p1:Rows.fnScheduleBeginRow.wfByText (OpenSpec.ofChange Rows.fnScheduleBeginSpec)=true:=by kernel_rfl
theorem p4:true=Rows.fnScheduleBeginRow.goesBy Tryz.pinned.checked.prog:=by kernel_rfl
theorem proved:Rows.FnScheduleBeginCardSaid:=
 qcz .later [] [.sentinel] true Rows.fnScheduleBeginCard.stood.harness true
  row_holds (λ_ h=>by cases h) p1 (λ_ h=>by cases h) fnScheduleBegin_row_tie rfl ⟨rfl,rfl⟩ qoa rfl
  (λf fn hf hfn=>by
   obtain rfl:f=7:=Option.some.inj ((show Tryz.prog.funcNamed "loop.example/workplans/laws.FnScheduleBegin" = some 7 by kernel_rfl).symm.trans hf) |>.symm;obtain rfl:fn=Tryz.f7:=(Option.some.inj (Tryz.func7.symm.trans hfn)).symm
   exact⟨qvl,λj t ht=>by
    rw[Tryz.params7]at ht;have hm:t∈[22]:=by simpa using Array.mem_of_getElem? ht
    have hall:([22].all λu=>!Tryz.prog.wantsStandIn u)=true:=by kernel_rfl
    exact(show Tryz.prog.wantsStandIn t=false by simpa using List.all_eq_true.1 hall t hm)⟩)
  p4
#print axioms proved
end Go.Proofs.YtacemdoejblgaaaGreatDoor.fnScheduleBeginDone

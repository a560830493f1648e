/- Part M22. Conditions: each statement's. -/
import Derived.Test.YtacemdoejblgaaaGreatDoorRows
import Derived.ProofKit
import Derived.OpenShut
import Derived.ShutString
import Derived.ChangeOld
import Derived.Below
import Derived.LaidMore
import Derived.LaidHandle
import Derived.MakeChecks
import Derived.Stop.LaidErr
import Derived.Stop.Joined
import Derived.Deep.Slices
import Derived.Deep.Fields
import Derived.Test.YtacemdoejblgaaaGreatDoorCards
import Derived.SevenTiedAt
import Derived.ChangeVars
import Derived.WideKeyArgs
import Derived.Lib.SmallJoins
import Derived.LaidLaws
import Derived.Test.YtacemdoejblgaaaGreatDoorM21
import Derived.Test.YtacemdoejblgaaaGreatDoorM10
namespace Go.Proofs.YtacemdoejblgaaaGreatDoor
open List Option _root_.Go.Proofs.Tryz World
set_option maxRecDepth 100000
set_option maxHeartbeats 6400000
section
open Go.ChangeShapes Go.WideShapes Go.ChangeAt Go.RowKit Go.Deep
theorem qaG:ownKnob Tryz.prog.godebug=none:=by kernel_rfl
theorem qel:laidOutB prog=true:=by kernel_rfl
theorem qpR:Tryz.prog.initOrder=String.ofList (([104,97,114,110,101,115,115,32,50,97,56,48,57,52,102,99,98,101,54,55,53,101,49,101,50,54,49,100,49,57,56,102,102,57,54,101,102,53,57,55,54,51,57,100,49,50,57,53,57,51,102,56,49,55,97,53,49,97,100,97,100,101,101,102,55,56,52,55,52,53,53,49,32,99,117,116,32,97,116,32,108,111,111,112,46,101,120,97,109,112,108,101,47,119,111,114,107,112,108,97,110,115,47,108,97,119,115,46,70,110,83,99,104,101,100,117,108,101,82,101,115,116,32,108,111,111,112,46,101,120,97,109,112,108,101,47,119,111,114,107,112,108,97,110,115,47,108,97,119,115,46,70,110,83,99,104,101,100,117,108,101,82,117,110,32,108,111,111,112,46,101,120,97,109,112,108,101,47,119,111,114,107,112,108,97,110,115,47,108,97,119,115,46,70,110,83,99,104,101,100,117,108,101,82,117,110,80,97,114,116,32,108,111,111,112,46,101,120,97,109,112,108,101,47,119,111,114,107,112,108,97,110,115,47,108,97,119,115,46,70,110,83,99,104,101,100,117,108,101,65,108,108,32,108,111,111,112,46,101,120,97,109,112,108,101,47,119,111,114,107,112,108,97,110,115,47,108,97,119,115,46,70,110,83,99,104,101,100,117,108,101,66,101,103,105,110,32,108,111,111,112,46,101,120,97,109,112,108,101,47,119,111,114,107,112,108,97,110,115,47,108,97,119,115,46,70,110,83,99,104,101,100,117,108,101,79,114,100,101,114,32,108,111,111,112,46,101,120,97,109,112,108,101,47,119,111,114,107,112,108,97,110,115,47,108,97,119,115,46,70,110,83,99,104,101,100,117,108,101,79,116,104,101,114,32,108,111,111,112,46,101,120,97,109,112,108,101,47,119,111,114,107,112,108,97,110,115,47,108,97,119,115,46,70,110,69,120,97,99,116,83,99,104,101,100,117,108,101,65,108,108,32,108,111,111,112,46,101,120,97,109,112,108,101,47,119,111,114,107,112,108,97,110,115,47,108,97,119,115,46,70,110,69,120,97,99,116,83,99,104,101,100,117,108,101,82,117,110]:List Nat).map Char.ofNat):=by kernel_rfl
theorem q88:behindMainWord (wordsSigns Tryz.prog.initOrder.toList)=([99,117,116]:List Nat).map Char.ofNat::([[97,116],[108,111,111,112,46,101,120,97,109,112,108,101,47,119,111,114,107,112,108,97,110,115,47,108,97,119,115,46,70,110,83,99,104,101,100,117,108,101,82,101,115,116],[108,111,111,112,46,101,120,97,109,112,108,101,47,119,111,114,107,112,108,97,110,115,47,108,97,119,115,46,70,110,83,99,104,101,100,117,108,101,82,117,110],[108,111,111,112,46,101,120,97,109,112,108,101,47,119,111,114,107,112,108,97,110,115,47,108,97,119,115,46,70,110,83,99,104,101,100,117,108,101,82,117,110,80,97,114,116],[108,111,111,112,46,101,120,97,109,112,108,101,47,119,111,114,107,112,108,97,110,115,47,108,97,119,115,46,70,110,83,99,104,101,100,117,108,101,65,108,108],[108,111,111,112,46,101,120,97,109,112,108,101,47,119,111,114,107,112,108,97,110,115,47,108,97,119,115,46,70,110,83,99,104,101,100,117,108,101,66,101,103,105,110],[108,111,111,112,46,101,120,97,109,112,108,101,47,119,111,114,107,112,108,97,110,115,47,108,97,119,115,46,70,110,83,99,104,101,100,117,108,101,79,114,100,101,114],[108,111,111,112,46,101,120,97,109,112,108,101,47,119,111,114,107,112,108,97,110,115,47,108,97,119,115,46,70,110,83,99,104,101,100,117,108,101,79,116,104,101,114],[108,111,111,112,46,101,120,97,109,112,108,101,47,119,111,114,107,112,108,97,110,115,47,108,97,119,115,46,70,110,69,120,97,99,116,83,99,104,101,100,117,108,101,65,108,108],[108,111,111,112,46,101,120,97,109,112,108,101,47,119,111,114,107,112,108,97,110,115,47,108,97,119,115,46,70,110,69,120,97,99,116,83,99,104,101,100,117,108,101,82,117,110]]:List (List Nat)).map (·.map Char.ofNat):=by
 rw[qpR,String.toList_ofList]
 kernel_rfl
theorem qxz(w:List Char)(ws:List (List Char)):∀os:List String,os.all (λo=>!(w==o.toList))=true->stripLifts os (w::ws)=([],w::ws)
 |[],_=>rfl
 |o::os,h=>by
  simp only[all_cons,Bool.and_eq_true,Bool.not_eq_true']at h;unfold stripLifts;rw[if_neg (by simp[h.1])];exact qxz w ws os h.2
theorem qiR(ws:List (List Char)):stripLifts liftWords (([99,117,116]:List Nat).map Char.ofNat::ws)=([],([99,117,116]:List Nat).map Char.ofNat::ws):=qxz _ ws liftWords (by kernel_rfl)
theorem q1j{P:Program}{ws:List (List Char)}(h:behindMainWord (wordsSigns P.initOrder.toList)=([99,117,116]:List Nat).map Char.ofNat::ws)(h5:P.laysLater=false)(h6:P.bearsReflect=false)(h7:P.doorFits []=true):P.mayEnter=true:=by
 unfold Program.mayEnter;rw[h];dsimp only;rw[qiR];have h1:(([99,117,116]:List Nat).map Char.ofNat == "gc".toList)=false:=by kernel_rfl
 have h2:(([99,117,116]:List Nat).map Char.ofNat == "spec".toList)=false:=by kernel_rfl
 have h3:(([99,117,116]:List Nat).map Char.ofNat == "carried".toList)=false:=by kernel_rfl
 have h4:(some (([99,117,116]:List Nat).map Char.ofNat)==some "cut".toList)=true:=by kernel_rfl
 simp only[head?_cons,h1,h2,h3,h4,h5,h6,h7];simp
theorem qh5:Tryz.prog.mayEnter=true:=q1j q88 (by kernel_rfl) (by kernel_rfl) (by kernel_rfl)
theorem qw7{P:Program}{ws:List (List Char)}(h:behindMainWord (wordsSigns P.initOrder.toList)=([99,117,116]:List Nat).map Char.ofNat::ws):P.liftsFinal=false:=by
 unfold Program.liftsFinal Program.headLifts;rw[h];dsimp only;rw[qiR];simp[head?_cons]
theorem qft:Tryz.prog.liftsFinal=false:=qw7 q88
theorem qpS{P:Program}{ws:List (List Char)}(h:behindMainWord (wordsSigns P.initOrder.toList)=([99,117,116]:List Nat).map Char.ofNat::ws):P.make=some .cut:=by
 unfold Program.make;rw[h];rfl
theorem q3s:Tryz.prog.make=some .cut:=qpS q88
theorem qgg{P:Program}{f:FuncId}{fn:Func}{s:ChangeSpec}{c:OpenClaim}(k0:c.wf (OpenSpec.ofChange s)=true)(k1:laidOutB P=true)(k2:mapsRowed P=true)
   (k3:(fn.params.all (P.readableRec ·)&&namedTie P c.named s.vars&&(c.stops==[])&&(P.stops==[])&&(c.knobs==[])&&(P.stopKnobs==[]))=true)
   (k4:(c.inPlace==P.inPlace f)=true) (k5:(c.unfollowed==P.unfollowed f)=true) (k6:(c.recurses==P.recurses f)=true) (k7:(c.named==P.varsNamed f)=true)
   (k8:((c.maps==(fn.params.toList++s.plain.varTypes P).any (P.mapsRec ·))&&(c.ifaces==(fn.params.toList++s.plain.varTypes P).any (P.ifacesRec ·))&&(c.mapsOut==P.mapsAmong fn.resultTypes.toList) &&
    (c.loops==(fn.params.toList++s.plain.varTypes P).any (P.loopsFrom ·))&&(c.wideKeys==(fn.params.toList++s.plain.varTypes P++fn.resultTypes.toList).any (P.wideKeysFrom ·)))=true)
   (k9:(s.vars.all (P.varReadable ·)&&fn.resultTypes.all (λt=>P.readableRec t&&decide (t<P.types.size))&&(c.ifacesOut==fn.resultTypes.toList.any (P.ifacesRec ·))&&(c.loopsOut==fn.resultTypes.toList.any (P.loopsFrom ·)))=true)
   (k10:((c.plainKeys==P.plainKeys)&&c.shortTexts.isNone&&P.stopsHeard)=true) (k11:P.mayEnter=true) (k12:(c.lifted==P.liftsFinal)=true) (k13:(P.make==some c.make)=true)
   (k14:((c.kinds==(if c.domain.isEmpty then []else fn.params.toList.map λt=>match P.underlying t with|some (.int k)=>some k|_=>none))&&(c.pinned==c.pinnedBy))=true)
   (k15:((c.veiled==(fn.params.toList++s.plain.varTypes P++fn.resultTypes.toList).any (P.veiledRec ·))&&c.veiledFits P fn.params.toList (fn.params.toList++s.plain.varTypes P++fn.resultTypes.toList))=true) :
   joinedFacts P f fn s c=true:=by
 unfold joinedFacts;simp only[Bool.and_eq_true]at k3 k8 k9 k10 k14 k15 |-;obtain⟨⟨⟨⟨⟨a1,a2⟩,a3⟩,a4⟩,a5⟩,a6⟩:=k3;obtain⟨⟨⟨⟨b1,b2⟩,b3⟩,b4⟩,b5⟩:=k8;obtain⟨⟨⟨c1,c2⟩,c3⟩,c4⟩:=k9;obtain⟨⟨d1,d2⟩,d3⟩:=k10;obtain⟨e1,e2⟩:=k14;obtain⟨f1,f2⟩:=k15;exact⟨⟨⟨⟨⟨⟨⟨⟨⟨⟨⟨⟨⟨⟨⟨⟨⟨⟨⟨⟨⟨⟨⟨⟨⟨⟨⟨⟨⟨⟨⟨k0,k1⟩,k2⟩,a1⟩,a2⟩,a3⟩,a4⟩,a5⟩,a6⟩,k4⟩,k5⟩,k6⟩,k7⟩,b1⟩,b2⟩,b3⟩,b4⟩,b5⟩,c1⟩,c2⟩,c3⟩,c4⟩,d1⟩,d2⟩,d3⟩,k11⟩,k12⟩,k13⟩,e1⟩,e2⟩,f1⟩,f2⟩
theorem qjp{P:Program}{fn:Func}(h1:fn.origin = "")(h2:fn.targs=#[])(h3:fn.name.toList.contains (Char.ofNat 91)=false):fn.isInstance P "" []:=
 ⟨h1,by rw[h2];rfl,by rw[if_pos rfl];exact⟨rfl,h3⟩⟩
theorem qjq(P:Program)(fn:Func)(h:Check.packageOf fn.name≠ "main"):fn.isWrapper P false "":=by
 unfold Func.isWrapper;rw[if_neg h];exact⟨rfl,rfl⟩
theorem q6z{H:Type}{enc:TypeId×Value->H}{W W':World}{n:String}{t:TypeId}{g:Nat}{gs:List (DataW H)}{q:List MemPlace}(hg:Tryz.prog.globalNamed n=some g)(ht:(Tryz.prog.globals[g]?).map (·.type)=some t)
   (hr:Tryz.prog.readableRec t=true) (hrow:t<Tryz.prog.types.size) (h:DataW.TrodVars enc prog W (λ_=>true) [n] gs q) (hb:Below W.heap.size W W') :
   ∃pv,DataW.TrodVars enc prog W' (λb=>decide (b<W.heap.size)) [n] gs pv:=by
 obtain⟨g',t',cs,fuel,d,p,rfl,h1,h2,h3,h4,_⟩:=trodVars_one h;obtain rfl:=Option.some.inj (hg.symm.trans h1);obtain rfl:=Option.some.inj (ht.symm.trans h2);have hlt:∀x∈p,x.block<W.heap.size:=DataW.trod_lt fuel _ _ _ h4
 have h3':W'.var? prog n=some cs:=by
  simp only[var?,h1,Option.bind_some]at h3 |-
  have hgl:g<W.heap.size:=by
   rcases Nat.lt_or_ge g W.heap.size with hh|hh
   . exact hh
   . rw[Array.getElem?_eq_none hh]at h3;cases h3
  rw[hb.block g hgl];exact h3
 exact⟨_,trodVars_mk1 h1 h2 h3' (DataW.trod_stays (kids_book qel hr) (book_sized hr) (λh=>by cases h) ⟨hrow,book_self t⟩ h4 (λx hx=>hb.same (hlt x hx)) (λx hx=>by simpa using hlt x hx))⟩
theorem gEt:Tryz.prog.globalNamed "loop.example/workplans/impl.errTurn" = some 0:=by kernel_rfl
theorem qiS:(Tryz.prog.globals[0]?).map (·.type)=some 119:=by kernel_rfl
theorem qiT: "*"++ "errors.errorString" = "*errors.errorString":=by decide
theorem qfZ(u:TypeId)(h:Tryz.prog.typeName? 3 u=some "*errors.errorString"):u=244:=
 typeName_ptr_named (nm:= "errors.errorString") (by rw[qiT];kernel_rfl) (by kernel_rfl) (by decide) u (by rw[qiT];exact h)
theorem qn8{H:Type}{enc:TypeId×Value->H}{W W':World}{gs:List (DataW H)}{q:List MemPlace}(h:DataW.TrodVars enc prog W (λ_=>true) ["loop.example/workplans/impl.errTurn"] gs q)(hb:Below W.heap.size W W') :
   ∃pv,DataW.TrodVars enc prog W' (λb=>decide (b<W.heap.size)) ["loop.example/workplans/impl.errTurn"] gs pv:=
 q6z gEt qiS (by kernel_rfl) (of_decide_eq_true (by kernel_rfl)) h hb
def qiU:List (String×DataW Unit):=[("loop.example/workplans/impl.errTurn",Rows.laid_loop_example_workplans_impl_errTurn)]
theorem qpT(os:Os):laidMet prog qiU (World.doorLaid prog 400 os):=laidMet_of_run' 8 (by kernel_rfl) (by kernel_rfl)
theorem qn9(os:Os)(args:Array Value):laidMetH prog qiU ((World.doorLaid prog 400 os).forCall (λ_ _=>0) ⟨#[],args,[]⟩).memory:=
 laidMetH_of_parts3 (fuel:=8) ((qpT os).of_heap (by simp[memory,forCall,Input.heap])) (by kernel_rfl) (by kernel_rfl)
theorem qgh(os:Os)(args:Array Value):((World.doorLaid prog 400 os).forCall (λ_ _=>0) ⟨#[],args,[]⟩).Shaped prog:=shaped_of_RefB (by kernel_rfl) (by kernel_rfl)
theorem qvl:true=Tryz.pinned.checked.prog.looks []:=by kernel_rfl
theorem qgi:mapsRowed prog=true:=by kernel_rfl
theorem qoa:Tryz.pinned.checked.prog.mainIs=some (Rows.fnScheduleRunCard.stood.harness.1,Rows.fnScheduleRunCard.stood.harness.2.toList):=by kernel_rfl
end
section
open Go.RowKit
theorem qy9{qa:List Node}{c:qj}(h:q9l qa c):c.qb.length<=1048576/\∀d∈c.qb,d.length<=1048576:=by
 rcases h with h|rfl
 . exact⟨by have:=h.d4;omega,λd hd=>by have:=qes h d hd;omega⟩
 . exact⟨by simp[qdk],λd hd=>by simp[qdk]at hd⟩
theorem qpq{qa:List Node}{c:qj}(h:qp qa c):∀d∈c.qb,d.length<=1048576:=(qy9 (.inl h)).2
theorem jU.put{w:World}{V:Nat}{d k o r d' k' o' r':Value}{c c':qj}(h:jU w V d k o r c)(hc:CV w (.agg #[d',k',o',r']) c') :
   jU ((((w.setCell ⟨V,0,none⟩ d').setCell ⟨V,1,none⟩ k').setCell ⟨V,2,none⟩ o').setCell ⟨V,3,none⟩ r') V d' k' o' r' c':=by
 have hst:=qeg w V d' k' o' r';have b1:=(((h.b.jr 0 d').jr 1 k').jr 2 o').jr 3 r';obtain⟨e1,e2,e3,e4,e,h1,h2,h3,h4⟩:=hc.grown hst (qh.blk h.b (by decide)) (qh.blk h.b (by decide));injection e with e;injection e with e;injection e with ea e;injection e with eb e;injection e with ec e;injection e with ed e;subst ea eb ec ed;exact⟨b1,h1,h2,h3,h4⟩
theorem qgf{w:World}{b:Nat}{d k o r:Value}{c:qj}(hb:Blk w b 29 #[.slice none 0 0,.slice none 0 0,.slice none 0 0,.slice none 0 0])(hc:CV w (.agg #[d,k,o,r]) c) :
   jU ((((w.setCell ⟨b,0,none⟩ d).setCell ⟨b,1,none⟩ k).setCell ⟨b,2,none⟩ o).setCell ⟨b,3,none⟩ r) b d k o r c/\w.grownBy ((((w.setCell ⟨b,0,none⟩ d).setCell ⟨b,1,none⟩ k).setCell ⟨b,2,none⟩ o).setCell ⟨b,3,none⟩ r) (some b):=by
 have hz:=(CV.zero w).box
 have h0:jU w b (.slice none 0 0) (.slice none 0 0) (.slice none 0 0) (.slice none 0 0) qdk:=by
  obtain⟨e1,e2,e3,e4,e,h1,h2,h3,h4⟩:=CV.zero w;injection e with e;injection e with e;injection e with ea e;injection e with eb e;injection e with ec e;injection e with ed e;subst ea eb ec ed;exact⟨hb,h1,h2,h3,h4⟩
 exact⟨h0.put hc,qeg w b d k o r⟩
def zk(fl b0:Nat)(lk:Int)(pv:Value)(c:qj)(z:World):Prop:=∃d k o r,Blk z fl 66 #[.int .i32 lk,.int .u32 0,pv,d,k,o,r]/\jw z b0 (.agg #[d,k,o,r]) c
theorem zk.grown{fl b0:Nat}{lk:Int}{pv:Value}{c:qj}{w z:World}{row:Option Nat}(h:zk fl b0 lk pv c w)(g:w.grownBy z row)(h1:qh w 3 row)(h2:qh w 24 row)(hne:some fl≠row):zk fl b0 lk pv c z:=by
 obtain⟨d,k,o,r,hB,hF⟩:=h;exact⟨d,k,o,r,hB.grown g hne,hF.grown g h1 h2⟩
theorem zk.lock{fl b0:Nat}{lk:Int}{pv:Value}{c:qj}{z:World}(h:zk fl b0 lk pv c z)(lk':Int):zk fl b0 lk' pv c (z.setCell ⟨fl,0,none⟩ (.int .i32 lk')):=by
 obtain⟨d,k,o,r,hB,hF⟩:=h;exact⟨d,k,o,r,hB.jr 0 _,hF.grown (qbf (qah z (some fl)) (.inr rfl) _) (qh.blk hB (by decide)) (qh.blk hB (by decide))⟩
theorem q19(fl b0:Nat)(j:Int)(pv:Value)(qa:List Node)(c:qj)(a:Addr)(W:World)(hW:zk fl b0 1 pv c W)(hb0:b0<=fl)(hp:RN W pv qa)(hE:qm W a)(hfit:∀d∈c.qb,d.length<=1048576) :
   qz.wp prog (λe _ x=>e=.normal/\zk fl b0 1 pv ((qa0 qa c j).getD c) x/\W.grownBy x (some fl)) ⟨qgx fl j,[]⟩ W:=by
 obtain⟨d,k,o,r,hB,hF⟩:=hW;have hc:=hF.cv;obtain⟨X1,Xn1,Xc1,X2,Xn2,Xc2,X3,Xn3,Xc3,X4,Xn4,Xc4,hv,-,-,-,-⟩:=hc.form;simp only[Value.agg.injEq,Array.mk.injEq,cons.injEq,and_true]at hv;obtain⟨rfl,rfl,rfl,rfl⟩:=hv;obtain⟨P1,pn,pc,rfl,-,-,-⟩:=hp.form';have d0:=hB.cell 0;have d2:=hB.cell 2;have d3:=hB.cell 3;have d4:=hB.cell 4;have d5:=hB.cell 5;have d6:=hB.cell 6;have qW:=Lib.hid hfit;clear hfit;simp only[qz,qim,f71,Option.getD_some,qgx];obtain⟨R,hR⟩:∃R,R=qa0 qa c j:=⟨_,rfl⟩;rw[<-hR];have HR:=Lib.hid hR;clear hR;have gW:=qah W none;go_upto_region 2 with fail
 go_cut [4,5]from 13 to 26 (λt4 t5 wx=>∃b V1 Vn1 Vc1 V2 Vn2 Vc2 V3 Vn3 Vc3 V4 Vn4 Vc4,t4=.pointer (some ⟨b,0,none⟩)/\t5=.bool R.isSome/\W.heap.size<=b/\jU wx b (.slice V1 Vn1 Vc1) (.slice V2 Vn2 Vc2) (.slice V3 Vn3 Vc3) (.slice V4 Vn4 Vc4) (R.getD qdk)/\W.grownBy wx none/\jw wx W.heap.size (.agg #[.slice V1 Vn1 Vc1,.slice V2 Vn2 Vc2,.slice V3 Vn3 Vc3,.slice V4 Vn4 Vc4]) (R.getD qdk))
 case first=>
  go_region_held3 (λw'=>w'.cell? ⟨fl,2,none⟩=some (.slice P1 pn pc)/\w'.cell? ⟨fl,3,none⟩=some (.slice X1 Xn1 Xc1)/\w'.cell? ⟨fl,4,none⟩=some (.slice X2 Xn2 Xc2)/\w'.cell? ⟨fl,5,none⟩=some (.slice X3 Xn3 Xc3)/\w'.cell? ⟨fl,6,none⟩=some (.slice X4 Xn4 Xc4)) (go_keep) (first
   |(go_at_call 17;have hz:=hc;refine(qgz _ _ qa c j a _ (by first|exact hE|exact hE.new (qay gW)|exact hE.new (qar gW _)|exact hE.new (qay (qar gW _))) (by first|exact hp|exact hp.new (qay gW)|exact hp.new (qar gW _)|exact hp.new (qay (qar gW _))) (by first|exact hc|exact hc.new (qay gW)|exact hc.new (qar gW _)|exact hc.new (qay (qar gW _))) qW.out).mono ?_;rw[<-HR.out];rintro e w5 ⟨v5,rfl,hF5,hg5⟩;have zQ:=hF5.cv;obtain⟨U1,Un1,Uc1,U2,Un2,Uc2,U3,Un3,Uc3,U4,Un4,Uc4,rfl⟩:=hF5.form;have g5:W.grownBy w5 none:=(by first|exact hg5|exact qad (qay gW) hg5|exact qad (qar gW _) hg5|exact qad (qay (qar gW _)) hg5);have hF6:=hF5.low (b:=W.heap.size) (by first|exact Nat.le_refl _|exact(qay gW).size|exact(qay (qar gW _)).size);have hB5:=hB.grown g5 (by simp);have x2:=hB5.cell 2;have x3:=hB5.cell 3;have x4:=hB5.cell 4;have x5:=hB5.cell 5;have x6:=hB5.cell 6;have kr:fl≠W.heap.size:=Nat.ne_of_lt hB.lt;have qpU:=kr.symm;have qgA:fl≠w5.heap.size:=Nat.ne_of_lt (Nat.lt_of_lt_of_le hB.lt g5.size);have qdN:=qgA.symm;try (have zH:Blk w5 W.heap.size 29 #[.slice none 0 0,.slice none 0 0,.slice none 0 0,.slice none 0 0]:=(Blk.new W 29 #[.slice none 0 0,.slice none 0 0,.slice none 0 0,.slice none 0 0]).drew.grown hg5 (by simp));try (have yy0:=zH.cell 0;have ff0:=zH.frozen 0;have yy1:=zH.cell 1;have ff1:=zH.frozen 1;have yy2:=zH.cell 2;have ff2:=zH.frozen 2;have yy3:=zH.cell 3;have ff3:=zH.frozen 3)))
  all_goals
   go_wp2_with fail;go_meet
   first
    |exact⟨_,_,_,_,_,_,_,_,_,_,_,_,_,rfl,rfl,Nat.le_refl _,(qgf zH zQ).1,qbd g5 (qgf zH zQ).2 (λg e=>by cases e;exact .inl (Nat.le_refl _)),hF6.grown (qgf zH zQ).2 (qh.blk zH (by decide)) (qh.blk zH (by decide))⟩
    |exact⟨_,_,_,_,_,_,_,_,_,_,_,_,_,rfl,rfl,g5.size,zQ.box,qar g5 _,hF6.new (qar (qah w5 none) _)⟩
 case rest=>
  obtain⟨b,V1,Vn1,Vc1,V2,Vn2,Vc2,V3,Vn3,Vc3,V4,Vn4,Vc4,rfl,rfl,hb,hV,gV,hFV⟩:=hcut;have hBc:=hB.grown gV (by simp);have hFc:=hF.new gV;have hbW:b0<=W.heap.size:=by have:=hB.lt;omega
  clear d0 d2 d3 d4 d5 d6 HR qW hE hp hc;cases R with
  |none=>
   clear hV hFV hbW hb;go_wp2_with fail;exact⟨⟨_,_,_,_,hBc,hFc⟩,qye gV _⟩
  |some c'=>
   have v0:=hV.d0;have v1:=hV.d1;have v2:=hV.d2;have v3:=hV.d3;have y3:=hBc.cell 3;have z3:=hBc.frozen 3;have y4:=hBc.cell 4;have z4:=hBc.frozen 4;have y5:=hBc.cell 5;have z5:=hBc.frozen 5;have y6:=hBc.cell 6;have z6:=hBc.frozen 6;have hst:wc.grownBy ((((wc.setCell ⟨fl,3,none⟩ (.slice V1 Vn1 Vc1)).setCell ⟨fl,4,none⟩ (.slice V2 Vn2 Vc2)).setCell ⟨fl,5,none⟩ (.slice V3 Vn3 Vc3)).setCell ⟨fl,6,none⟩ (.slice V4 Vn4 Vc4)) (some fl):=qbf (qbf (qbf (qbf (qah wc (some fl)) (.inr rfl) _) (.inr rfl) _) (.inr rfl) _) (.inr rfl) _;have hB9:=(((hBc.jr 3 (.slice V1 Vn1 Vc1)).jr 4 (.slice V2 Vn2 Vc2)).jr 5 (.slice V3 Vn3 Vc3)).jr 6 (.slice V4 Vn4 Vc4);have hF9:=(hFV.low hbW).grown hst (qh.blk hBc (by decide)) (qh.blk hBc (by decide));have hfin:=Lib.hid (show zk fl b0 1 (.slice P1 pn pc) c' _/\W.grownBy _ (some fl)from⟨⟨_,_,_,_,hB9,hF9⟩,qad (qye gV _) hst⟩);clear hst hB9 hF9 hV hFV hBc hFc hb hbW gV hB hF;go_wp2_with fail;exact hfin.out
end
section
open Go.RowKit Go.Conc
theorem zk.heap{fl b0:Nat}{lk:Int}{pv:Value}{c:qj}{x y:World}(e:x.heap=y.heap)(h:zk fl b0 lk pv c x):zk fl b0 lk pv c y:=by
 have k:zk fl b0 lk pv c x=zk fl b0 lk pv c {y with heap:=x.heap}:=rfl;rw[k,e]at h;exact h
theorem q38{a w:World}{row:Option Nat}(h:a.grownBy w row){c:Nat}(hc:a.heap.size<=c∨row=some c)(cap:Nat)(buf:Array Value)(cl:Bool)(s r:Nat)(tm:Bool):a.grownBy (w.setChan c cap buf cl s r tm) row:=
 qbd (row':=some c) h ⟨rfl,rfl,rfl,by rw[Go.Conc.size_setChan];exact Nat.le_refl _,λi _ hne=>by
  show (w.heap.setIfInBounds c _)[i]?=_;rw[Array.getElem?_setIfInBounds_ne (λe=>hne (by rw[e]))]⟩ (λg e=>by cases e;exact hc)
theorem qh.qcS{w:World}{E:TypeId}{c cap s r:Nat}{buf:Array Value}{cl tm:Bool}(h:w.heap[c]?=some (.chan cap buf cl s r tm)):qh w E (some c):=λg e cur hb=>by
 cases e;unfold Blk at hb;rw[h]at hb;cases hb
structure DZ(z₀:World)(fl b0:Nat)(lk:Int)(pv:Value)(qa:List Node)(c:qj)(z:World):Prop where
 size:z₀.heap.size<=z.heap.size
 block:∀i,i<z₀.heap.size->i≠fl->z.heap[i]?=z₀.heap[i]?
 floor:zk fl b0 lk pv c z
 fit:∀d∈c.qb,d.length<=1048576
section
variable {z₀ x y:World}{fl b0:Nat}{lk:Int}{pv:Value}{qa:List Node}{c:qj}
theorem DZ.heap(e:x.heap=y.heap)(h:DZ z₀ fl b0 lk pv qa c x):DZ z₀ fl b0 lk pv qa c y:=⟨e▸h.size,λi h1 h2=>e▸h.block i h1 h2,h.floor.heap e,h.fit⟩
theorem DZ.gb(h:DZ z₀ fl b0 lk pv qa c x):z₀.grownBy {z₀ with heap:=x.heap} (some fl):=⟨rfl,rfl,rfl,h.size,λi h1 h2=>h.block i h1 (λe=>h2 (by rw[e]))⟩
theorem DZ.step(h:DZ z₀ fl b0 lk pv qa c x){row:Option Nat}(g:x.grownBy y row)(hr:∀r,row=some r->z₀.heap.size<=r)(hfl:fl<z₀.heap.size)(h1:qh x 3 row)(h2:qh x 24 row):DZ z₀ fl b0 lk pv qa c y:=
 ⟨Nat.le_trans h.size g.size,λi hi hne=>(g.block i (Nat.lt_of_lt_of_le hi h.size) (λe=>by have:=hr i e.symm;omega)).trans (h.block i hi hne),h.floor.grown g h1 h2 (λe=>by have:=hr fl e.symm;omega),h.fit⟩
end
theorem qpV{gr:Grd}{N fl b0:Nat}{csv pv:Value}{chs:List Nat}{qa:List Node}{z₀:World}{a:Addr}{cs0:Array Value}(hA:gr.A ⟨fl,0,none⟩)(hfl:Blk z₀ fl 66 cs0)(hb0:b0<=fl)(hg0:0<b0)
   (hp:RN z₀ pv qa) (hE:qm z₀ a) (hc:RI z₀ csv (chs.map (Int.ofNat ·))) (hcA:∀a0 n k,csv=.slice (some a0) n k->gr.A a0) (hs:∀i (h:i<chs.length),chs[i]<9223372036854775808) :
   Task gr z₀.heap.size N fl csv chs (λc j=>(qa0 qa c (j:Nat)).getD c) (DZ z₀ fl b0 0 pv qa) (DZ z₀ fl b0 1 pv qa):=by
 have hlt:fl<z₀.heap.size:=hfl.lt;have n1:qh z₀ 3 (some fl):=qh.blk hfl (by decide);have n2:qh z₀ 24 (some fl):=qh.blk hfl (by decide);have n3:qh z₀ 81 (some fl):=qh.blk hfl (by decide);refine⟨λc x o h=>?_,λc x y e h=>h.heap e,λc x r κ κ' b hr h hk=>?_,λc x h=>?_,λc x y e h=>h.heap e,λc x h=>?_,λc x h=>?_,λc x j hj h d t=>?_,hA,?_,λi hi=>?_,hs⟩
 . exact h.step (row:=none) (grownBy_alloc x o none) (λr e=>by cases e) hlt (qh.none _ _) (qh.none _ _)
 . exact h.step (row:=some r) (q38 (qah x (some r)) (.inr rfl) _ _ _ _ _ _) (λr' e=>by cases e;exact hr) hlt (qh.qcS hk) (qh.qcS hk)
 . obtain⟨_,_,_,_,hB,_⟩:=h.floor;exact hB.cell 0
 . obtain⟨_,_,_,_,hB,_⟩:=h.floor;exact hB.cell 0
 . refine⟨?_,λi h1 h2=>?_,h.floor.lock 0,h.fit⟩
   . rw[size_setCell];exact h.size
   . exact(Below.heap_setCell x ⟨fl,0,none⟩ _ i h2).trans (h.block i h1 h2)
 . have h1:DZ z₀ fl b0 1 pv qa c (x.setCell ⟨fl,0,none⟩ (.int .i32 1)):=by
    refine⟨?_,λi h1 h2=>?_,h.floor.lock 1,h.fit⟩
    . rw[size_setCell];exact h.size
    . exact(Below.heap_setCell x ⟨fl,0,none⟩ _ i h2).trans (h.block i h1 h2)
   have h2:DZ z₀ fl b0 1 pv qa c (re ((x.setCell ⟨fl,0,none⟩ (.int .i32 1)).at d) t 0):=h1.heap (show (x.setCell ⟨fl,0,none⟩ (.int .i32 1)).heap=(re ((x.setCell ⟨fl,0,none⟩ (.int .i32 1)).at d) t 0).heap from rfl);generalize re ((x.setCell ⟨fl,0,none⟩ (.int .i32 1)).at d) t 0=W at h2
   have hpW:RN W pv qa:=by
    have k:RN {z₀ with heap:=W.heap} pv qa=RN W pv qa:=rfl;rw[<-k];exact hp.grown h2.gb n1 n3
   have hEW:qm W a:=by
    have k:qm {z₀ with heap:=W.heap} a=qm W a:=rfl;rw[<-k];unfold qm at hE |-;have hg:z₀.cell? ⟨0,0,none⟩=some _:=hE;refine(qnv h2.gb (qf5 hg) (λe=>?_)).trans hg;have e3:fl=0:=Option.some.inj e;omega
   refine wp_mono (q19 fl b0 j pv qa c a W h2.floor hb0 hpW hEW h.fit) λe _ y hy=>?_;obtain⟨h3,h4,h5⟩:=hy;refine⟨h3,Nat.le_trans h2.size h5.size,λi h6 h7=>(h5.block i (Nat.lt_of_lt_of_le h6 h2.size) (λe=>h7 (Option.some.inj e))).trans (h2.block i h6 h7),h4,?_⟩;show ∀d∈((qa0 qa c j).getD c).qb,d.length<=1048576;cases hR:qa0 qa c j with
   |none=>exact h.fit
   |some c'=>exact qpq (qej hR).2.1
 . obtain⟨A,n,k,rfl,-⟩:=hc.form';have e:=hc.len;rw[length_map]at e;subst e;exact⟨A,k,rfl⟩
 . obtain⟨A,n,k,rfl,-⟩:=hc.form';have e:=hc.len;subst e;obtain⟨g,o,cur,rfl,hB,hcell⟩:=TS.at_ hc (by rw[length_map];omega);have hne:g≠fl:=hB.ne_ hfl (by decide);have hv:=hcell i (.int .i64 chs[i]) (by simp[hi]);refine⟨⟨g,o+i,none⟩,gr.up _ _ (hcA _ _ _ rfl) rfl (by simp),λc x h=>?_,⟨g,o,none⟩,⟨k,by rw[length_map]⟩,Addr.add_lit ..⟩;have k2:=(qnv h.gb (qf5 hv) (λe=>hne (Option.some.inj e).symm)).trans hv;exact k2
end
section
open Go.RowKit
noncomputable def qdz:Code:=Tryz.f13.body.getD .skip
noncomputable def xx:Code:=match qdz with | .seq x _=>x|_=>.skip
noncomputable def xy:Code:=match qdz with | .seq _ (.seq x _)=>x|_=>.skip
noncomputable def xz:Code:=match qdz with | .seq _ (.seq _ (.seq x _))=>x|_=>.skip
noncomputable def xA:Code:=match qdz with | .seq _ (.seq _ (.seq _ (.seq x _)))=>x|_=>.skip
noncomputable def vU:Code:=match qdz with | .seq _ (.seq _ (.seq _ (.seq _ (.seq _ (.seq x _)))))=>x|_=>.skip
structure HG(z x:World):Prop where
 size:z.heap.size<=x.heap.size
 block:∀i,i<z.heap.size->x.heap[i]?=z.heap[i]?
section
variable {z x y:World}
theorem HG.of(g:z.grownBy x none):HG z x:=⟨g.size,λi hi=>g.block i hi (by simp)⟩
theorem HG.gb(h:HG z x):z.grownBy {z with heap:=x.heap} none:=⟨rfl,rfl,rfl,h.size,λi hi _=>h.block i hi⟩
theorem HG.trans(h:HG z x)(k:HG x y):HG z y:=⟨Nat.le_trans h.size k.size,λi hi=>(k.block i (Nat.lt_of_lt_of_le hi h.size)).trans (h.block i hi)⟩
theorem HG.refl(z:World):HG z z:=⟨Nat.le_refl _,λ_ _=>rfl⟩
theorem HG.heap{x y:World}(h:HG z x)(e:x.heap=y.heap):HG z y:=⟨e▸h.size,λi hi=>e▸h.block i hi⟩
theorem HG.rn(h:HG z x){v:Value}{l:List Node}(k:RN z v l):RN x v l:=by
 have e:RN {z with heap:=x.heap} v l=RN x v l:=rfl;rw[<-e];exact k.new h.gb
theorem HG.ri(h:HG z x){v:Value}{l:List Int}(k:RI z v l):RI x v l:=by
 have e:RI {z with heap:=x.heap} v l=RI x v l:=rfl;rw[<-e];exact k.new h.gb
theorem HG.err(h:HG z x){a:Addr}(k:qm z a):qm x a:=by
 have e:qm {z with heap:=x.heap} a=qm x a:=rfl;rw[<-e];exact k.new h.gb
theorem HG.qcT(h:HG z x){b:Nat}{v:Value}{c:qj}(k:jw z b v c):jw x b v c:=by
 have e:jw {z with heap:=x.heap} b v c=jw x b v c:=rfl;rw[<-e];exact k.new h.gb
theorem HG.blk(h:HG z x){g:Nat}{t:TypeId}{cs:Array Value}(k:Blk z g t cs):Blk x g t cs:=(h.block g k.lt).trans k
end
def qgv:Array Value:=#[.slice none 0 0,.slice none 0 0,.slice none 0 0,.slice none 0 0]
def qaz(pv nv cv:Value)(R X fl:Value)(x3 x4 x5 x7 x9 x11 x12 x13 x14 x15 x16 x17 x18 x19 x20 x21 x22 x23 x24 x25 x26 x27 x28 x29 x30 x31 x32:Value):Array Value:=
 #[pv,nv,cv,x3,x4,x5,R,x7,X,x9,fl,x11,x12,x13,x14,x15,x16,x17,x18,x19,x20,x21,x22,x23,x24,x25,x26,x27,x28,x29,x30,x31,x32]
structure HGB(R:Nat)(z x:World):Prop where
 size:z.heap.size<=x.heap.size
 block:∀i,i<z.heap.size->i≠R->x.heap[i]?=z.heap[i]?
theorem HGB.hg{R:Nat}{z x y:World}(h:HG z x)(k:HGB R x y)(hR:z.heap.size<=R):HG z y:=⟨Nat.le_trans h.size k.size,λi hi=>(k.block i (Nat.lt_of_lt_of_le hi h.size) (by omega)).trans (h.block i hi)⟩
theorem qgB{W:World}{R:Nat}{d0 k0 o0 r0 d k o r:Value}(h:Blk W R 29 #[d0,k0,o0,r0]) :
   HGB R W ((((W.setCell ⟨R,0,none⟩ d).setCell ⟨R,1,none⟩ k).setCell ⟨R,2,none⟩ o).setCell ⟨R,3,none⟩ r)/\Blk ((((W.setCell ⟨R,0,none⟩ d).setCell ⟨R,1,none⟩ k).setCell ⟨R,2,none⟩ o).setCell ⟨R,3,none⟩ r) R 29 #[d,k,o,r]:=by
 have g:=qeg W R d k o r;exact⟨⟨g.size,λi hi hne=>g.block i hi (λe=>hne (Option.some.inj e))⟩,(((h.jr 0 d).jr 1 k).jr 2 o).jr 3 r⟩
section
variable (pv cv:Value)(n:Int)(qa:List Node)(l:List Int)(W:World)
theorem q9v:xx.wp prog (λe a x=>e=.normal/\HG W x/\Blk x W.heap.size 29 qgv /\
   a.tmps=qaz pv (.int .i64 n) cv (.pointer (some ⟨W.heap.size,0,none⟩)) undef undef undef undef undef (.bool false) undef undef undef undef undef undef undef undef undef undef undef undef undef undef undef undef undef undef undef undef undef undef undef)
   ⟨qaz pv (.int .i64 n) cv undef undef undef undef undef undef undef undef undef undef undef undef undef undef undef undef undef undef undef undef undef undef undef undef undef undef undef undef undef undef,[]⟩ W:=by
 have hR:=Blk.new W 29 qgv;have hg:=HG.of (grownBy_alloc W (.cells qgv 29) none);simp only[xx,qdz,f13,Option.getD_some,qaz,qgv]at hR hg |-;go_wp2_with fail
theorem q9w(hp:RN W pv qa)(R:Nat):xy.wp prog (λe a x=>e=.normal/\HG W x/\∃A1 n1 c1 A2 n2 c2 A3 n3 c3 A4 n4 c4 X x11 x12 x13 x14 x15 x16,W.heap.size<=X/\Blk x X 29 #[.slice A1 n1 c1,.slice A2 n2 c2,.slice A3 n3 c3,.slice A4 n4 c4] /\
     jw x W.heap.size (.agg #[.slice A1 n1 c1,.slice A2 n2 c2,.slice A3 n3 c3,.slice A4 n4 c4]) ((qbv qa n).getD qdk) /\
     a.tmps=qaz pv (.int .i64 n) cv (.pointer (some ⟨R,0,none⟩)) (.pointer (some ⟨X,0,none⟩)) undef undef undef undef (.bool false) (.bool (qbv qa n).isSome) x11 x12 x13 x14 x15 x16 undef undef undef undef undef undef undef undef undef undef undef undef undef undef undef undef)
 ⟨qaz pv (.int .i64 n) cv (.pointer (some ⟨R,0,none⟩)) undef undef undef undef undef (.bool false) undef undef undef undef undef undef undef undef undef undef undef undef undef undef undef undef undef undef undef undef undef undef undef,[]⟩ W:=by
 simp only[xy,qdz,f13,Option.getD_some,qaz];go_wp2_with fail;refine(qu1 _ qa n W hp).mono ?_;rintro e w1 ⟨v,rfl,hF,hg⟩;obtain⟨A1,n1,c1,A2,n2,c2,A3,n3,c3,A4,n4,c4,rfl⟩:=hF.form;have gX:=grownBy_alloc w1 (.cells #[.slice A1 n1 c1,.slice A2 n2 c2,.slice A3 n3 c3,.slice A4 n4 c4] 29) none;have hfin:=Lib.hid (show HG W _/\W.heap.size<=w1.heap.size/\Blk _ w1.heap.size 29 #[.slice A1 n1 c1,.slice A2 n2 c2,.slice A3 n3 c3,.slice A4 n4 c4]/\jw _ W.heap.size _ _ from⟨HG.of (qad hg gX),hg.size,Blk.new w1 _ _,hF.new gX⟩);clear gX hF hg;go_wp2_with fail;obtain⟨h1,h2,h3,h4⟩:=hfin.out;exact⟨h1,_,_,_,_,_,_,_,_,_,_,_,_,_,h2,h3,h4,rfl⟩
theorem q9x(hl:RI W cv l)(ok:Bool)(R X:Nat)(hR:Blk W R 29 qgv)(x11 x12 x13 x14 x15 x16:Value):xz.wp prog (λe a x=>((ok&&qbt l)=true/\e=.normal/\x=W/\∃x17 x18 x19 x20 x21 x22 x23 x24,a.tmps=qaz pv (.int .i64 n) cv (.pointer (some ⟨R,0,none⟩)) (.pointer (some ⟨X,0,none⟩)) undef undef undef undef (.bool false) (.bool ok) x11 x12 x13 x14 x15 x16 x17 x18 x19 x20 x21 x22 x23 x24 undef undef undef undef undef undef undef undef) ∨
     ((ok&&qbt l)=false/\e=.ret/\HGB R W x/\Blk x R 29 qgv/\∃x17 x18 x19 x20 x21 x22 x23 x24,a.tmps=qaz pv (.int .i64 n) cv (.pointer (some ⟨R,0,none⟩)) (.pointer (some ⟨X,0,none⟩)) undef undef undef undef (.bool false) (.bool ok) x11 x12 x13 x14 x15 x16 x17 x18 x19 x20 x21 x22 x23 x24 undef undef undef undef undef undef undef undef))
 ⟨qaz pv (.int .i64 n) cv (.pointer (some ⟨R,0,none⟩)) (.pointer (some ⟨X,0,none⟩)) undef undef undef undef (.bool false) (.bool ok) x11 x12 x13 x14 x15 x16 undef undef undef undef undef undef undef undef undef undef undef undef undef undef undef undef,[]⟩ W:=by
 have y0:=hR.cell 0;have y1:=hR.cell 1;have y2:=hR.cell 2;have y3:=hR.cell 3;have f0:=hR.frozen 0;have f1:=hR.frozen 1;have f2:=hR.frozen 2;have f3:=hR.frozen 3;have qcU:=Lib.hid (qgB (d:=.slice none 0 0) (k:=.slice none 0 0) (o:=.slice none 0 0) (r:=.slice none 0 0) hR);obtain⟨b,hb⟩:∃b,b=qbt l:=⟨_,rfl⟩;rw[<-hb];have Hb:=Lib.hid hb;clear hb;simp only[qgv]at y0 y1 y2 y3;simp only[xz,qdz,f13,Option.getD_some,qaz];cases ok with
 |false=>
  go_wp2_with fail;exact qcU.out
 |true=>
  go_wp2_with fail;refine(qwz cv l W hl).mono ?_;rintro e w1 ⟨rfl,rfl⟩;rw[<-Hb.out];cases b with
  |false=>
   go_wp2_with fail;exact qcU.out
  |true=>
   go_wp2_with fail
theorem q9y(P:Option Addr)(pn pc R X n1 c1 n2 c2 n3 c3 n4 c4:Nat)(A1 A2 A3 A4:Option Addr)(x9:Value)(x11 x12 x13 x14 x15 x16 x17 x18 x19 x20 x21 x22 x23 x24:Value)(hX:Blk W X 29 #[.slice A1 n1 c1,.slice A2 n2 c2,.slice A3 n3 c3,.slice A4 n4 c4]):xA.wp prog (λe a x=>e=.normal/\HG W x/\Blk x W.heap.size 66 #[.int .i32 0,.int .u32 0,.slice P pn pc,.slice A1 n1 c1,.slice A2 n2 c2,.slice A3 n3 c3,.slice A4 n4 c4] /\
     ∃x25 x26 x27,a.tmps=qaz (.slice P pn pc) (.int .i64 n) cv (.pointer (some ⟨R,0,none⟩)) (.pointer (some ⟨X,0,none⟩)) (.pointer (some ⟨W.heap.size,0,none⟩)) undef undef undef (.bool false) x9 x11 x12 x13 x14 x15 x16 x17 x18 x19 x20 x21 x22 x23 x24 x25 x26 x27 undef undef undef undef undef)
 ⟨qaz (.slice P pn pc) (.int .i64 n) cv (.pointer (some ⟨R,0,none⟩)) (.pointer (some ⟨X,0,none⟩)) undef undef undef undef (.bool false) x9 x11 x12 x13 x14 x15 x16 x17 x18 x19 x20 x21 x22 x23 x24 undef undef undef undef undef undef undef undef,[]⟩ W:=by
 have y0:=hX.cell 0;have y1:=hX.cell 1;have y2:=hX.cell 2;have y3:=hX.cell 3;have hF:=Blk.new W 66 #[.int .i32 0,.int .u32 0,.slice P pn pc,.slice A1 n1 c1,.slice A2 n2 c2,.slice A3 n3 c3,.slice A4 n4 c4];have hg:=HG.of (grownBy_alloc W (.cells #[.int .i32 0,.int .u32 0,.slice P pn pc,.slice A1 n1 c1,.slice A2 n2 c2,.slice A3 n3 c3,.slice A4 n4 c4] 66) none);have hfin:=Lib.hid (And.intro hg hF);clear hg hF hX;simp only[xA,qdz,f13,Option.getD_some,qaz];go_wp2_with fail;exact hfin.out
theorem q9z(R fl n1 c1 n2 c2 n3 c3 n4 c4:Nat)(A1 A2 A3 A4:Option Addr)(pv xX x9 lk lk2:Value)(x11 x12 x13 x14 x15 x16 x17 x18 x19 x20 x21 x22 x23 x24 x25 x26 x27 x28 x29 x30:Value)(hne:R≠fl)(hR:Blk W R 29 qgv)(hF:Blk W fl 66 #[lk,lk2,pv,.slice A1 n1 c1,.slice A2 n2 c2,.slice A3 n3 c3,.slice A4 n4 c4]) :
   vU.wp prog (λe a x=>e=.normal/\HGB R W x/\Blk x R 29 #[.slice A1 n1 c1,.slice A2 n2 c2,.slice A3 n3 c3,.slice A4 n4 c4] /\
    ∃x31 x32,a.tmps=qaz pv (.int .i64 n) cv (.pointer (some ⟨R,0,none⟩)) xX (.pointer (some ⟨fl,0,none⟩)) undef undef undef (.bool true) x9 x11 x12 x13 x14 x15 x16 x17 x18 x19 x20 x21 x22 x23 x24 x25 x26 x27 x28 x29 x30 x31 x32)
   ⟨qaz pv (.int .i64 n) cv (.pointer (some ⟨R,0,none⟩)) xX (.pointer (some ⟨fl,0,none⟩)) undef undef undef (.bool false) x9 x11 x12 x13 x14 x15 x16 x17 x18 x19 x20 x21 x22 x23 x24 x25 x26 x27 x28 x29 x30 undef undef,[]⟩ W:=by
 have y0:=hF.cell 3;have y1:=hF.cell 4;have y2:=hF.cell 5;have y3:=hF.cell 6;have z0:=hR.cell 0;have z1:=hR.cell 1;have z2:=hR.cell 2;have z3:=hR.cell 3;have f0:=hR.frozen 0;have f1:=hR.frozen 1;have f2:=hR.frozen 2;have f3:=hR.frozen 3;have hfin:=Lib.hid (qgB (d:=.slice A1 n1 c1) (k:=.slice A2 n2 c2) (o:=.slice A3 n3 c3) (r:=.slice A4 n4 c4) hR);have xK:=hne.symm;simp only[qgv]at z0 z1 z2 z3;clear hF hR;simp only[vU,qdz,f13,Option.getD_some,qaz];go_wp2_with fail;exact hfin.out
end
end
section
section
variable (P:Program)(Fs Gs:Nat->Bool)(S:List String)
def q7n(t:TypeId):Bool:=match P.info? t with
 |none=>true
 |some i=>match i.zero with
  |none=>true
  |some v=>qgr 8 v
def qdP(t:TypeId):Bool:=match P.underlying t with
 |some (.slice e)=>q7n P e
 |_=>true
def qgC(t:TypeId):Bool:=match P.underlying t with
 |some (.map _ e)=>q7n P e
 |_=>true
def qdQ(t:TypeId):Bool:=match P.underlying t with
 |some (.int _)=>true
 |_=>false
def qgD(t:TypeId):Bool:=match P.underlying t with
 |some .unsafePointer=>false
 |_=>true
def qmj:Operand->Bool
 | .tmp _=>true
 | .const v=>qgr 8 v
 | .global g=>Gs g
 | .func f=>Fs f
def qgE(c:Call):Bool:=match c.callee with
 | .builtin .append=>match c.argTypes[0]? with
  |none=>true
  |some s=>qdP P s
 | .builtin .cap | .builtin .copy | .builtin .len | .builtin .min=>true
 | .builtin _=>false
 | .invoke _ name=>S.contains name
 | .value _=>true
def opB:Op->Bool
 | .move _ | .assign _ | .pick _ _ _ | .box _ _ | .load _ _ | .store _ _ _ | .nilCheck _ | .unOp _ _ _ | .makeInterface _ _ | .makeMap _ _ | .slice _ _ _ _ _ | .fieldAddr _ _ _
 | .field _ _ _ | .indexAddr _ _ _ | .index _ _ _ | .mapUpdate _ _ _ _ | .insert _ _ _ _ | .extract _ _ | .panic _=>true
 | .binOp _ t _ _ _=>qgD P t
 | .alloc t | .build t _=>q7n P t
 | .buildSlice t _ _ | .makeSlice t _ _=>qdP P t
 | .typeAssert _ _ a _=>q7n P a
 | .lookup t _ _ _=>qgC P t
 | .convert s d _=>qdQ P s&&qdQ P d
 | .makeFunc fn _ _=>match fn with
  | .func f=>Fs f
  |_=>false
 | .call c=>qgE P S c
 |_=>false
def q7o(o:Oper):Bool:=opB P Fs S o.op&&o.op.operands.all (qmj Fs Gs)
def qcl:Code->Bool
 | .region _ ops _=>ops.all (q7o P Fs Gs S)
 | .seq a b=>qcl a&&qcl b
 | .cond _ a b=>qcl a&&qcl b
 | .block _ c | .loop c | .scope c=>qcl c
 | .rangeFunc _ _ _ _=>false
 |_=>true
def xn(Es:List Nat)(f:Nat):Bool:=match P.funcs[f]? with
 |none=>false
 |some fn=>!(fn.name == "runtime.NumGoroutine")&&match fn.body with
  |some c=>qcl P Fs Gs S c
  |none=>Es.contains f
def qiV(t:TypeId):Bool:=match P.info? t with
 |none=>true
 |some i=>i.methods.all (λm=>!(S.contains m.name)||match m.func with
  |some (f,_)=>Fs f
  |none=>true)
end
section
variable {C:Pen}{S:List String}{Fs Gs:Nat->Bool}
theorem qzo{t:TypeId}(h:q7n C.P t=true):qpj C t:=λi v hi hv=>by
 unfold q7n at h;rw[hi]at h;simp only[hv]at h;exact qu7 8 v h
theorem q5g{t:TypeId}(h:qdP C.P t=true):qhn C t:=λe he=>by
 unfold qdP at h;rw[he]at h;exact qzo h
theorem qpW{t:TypeId}(h:qgC C.P t=true):qvh C t:=λk e he=>by
 unfold qgC at h;rw[he]at h;exact qzo h
theorem qiW{t:TypeId}(h:qdQ C.P t=true):∃k,C.P.underlying t=some (.int k):=by
 unfold qdQ at h;split at h
 . rename_i k hk;exact⟨k,hk⟩
 . cases h
theorem qpX{t:TypeId}(h:qgD C.P t=true):C.P.underlying t≠some .unsafePointer:=λe=>by
 unfold qgD at h;rw[e]at h;cases h
theorem q4l(hF:∀f,Fs f=true->C.F f)(hG:∀g,Gs g=true->C.A ⟨g,0,none⟩){x:Operand}(h:qmj Fs Gs x=true):qvj C (λ_=>False) x:=by
 cases x with
 |tmp t=>exact λh=>h
 |const v=>exact qu7 8 v h
 |global g=>exact hG g h
 |func f=>exact hF f h
theorem qpY{c:Call}(h:qgE C.P S c=true):q1g C S c:=by
 unfold qgE at h;unfold q1g;split at h<;>rename_i hc<;>rw[hc]
 . intro s hs;rw[hs]at h;exact q5g h
 . trivial
 . trivial
 . trivial
 . trivial
 . cases h
 . exact contains_iff_mem.1 h
 . trivial
theorem qpZ(hF:∀f,Fs f=true->C.F f){o:Op}(h:opB C.P Fs S o=true):qeF C S o:=by
 cases o<;>first
  |trivial
  |exact qpX h
  |exact qzo h
  |exact q5g h
  |exact qpW h
  |(simp only[opB,Bool.and_eq_true]at h;exact⟨qiW h.1,qiW h.2⟩)
  |exact qpY h
  |(rename_i fn _ _
    cases fn with
    |func f=>exact⟨f,rfl,hF f h⟩
    |_=>cases h)
  |cases h
theorem qqA(hF:∀f,Fs f=true->C.F f)(hG:∀g,Gs g=true->C.A ⟨g,0,none⟩):∀{c:Code},qcl C.P Fs Gs S c=true->qf4 C S (λ_=>False) c:=by
 intro c
 induction c with
 |region id ops b=>
  intro h o ho;have:=Array.all_eq_true_iff_forall_mem.1 h o ho;simp only[q7o,Bool.and_eq_true]at this;exact⟨qpZ hF this.1,λx hx=>q4l hF hG (Array.all_eq_true_iff_forall_mem.1 this.2 x hx)⟩
 |seq a b iha ihb=>
  intro h;simp only[qcl,Bool.and_eq_true]at h;exact⟨iha h.1,ihb h.2⟩
 |cond x a b iha ihb=>
  intro h;simp only[qcl,Bool.and_eq_true]at h;exact⟨iha h.1,ihb h.2⟩
 |block id c ih=>exact λh=>ih h
 |loop c ih=>exact λh=>ih h
 |scope c ih=>exact λh=>ih h
 |rangeFunc=>intro h;cases h
 |_=>intro _;trivial
end
end
section
open Go.Conc
theorem qxg{info:TypeId->Option TypeInfo}{d:TypeDesc}{i:TypeInfo}(h:Made.reckon info d=some i):i.methods=#[]:=by
 unfold Made.reckon at h;split at h
 all_goals try simp only[bind,bind_eq_some_iff,pure]at h
 all_goals repeat' first
  |(obtain⟨_,_,h⟩:=h)
  |(split at h)
 all_goals first
  |(cases h;rfl)
  |(cases h)
  |skip
 all_goals first
  |rfl
  |(simp only[bind_eq_some_iff]at h;obtain⟨_,_,h⟩:=h;cases h;rfl)
  |skip
 unfold Made.reckonStruct at h;simp only[bind,bind_eq_some_iff,pure]at h;obtain⟨a,_,h⟩:=h;split at h<;>(cases h;rfl)
theorem qxh{T:Tables}{t:TypeId}{i:TypeInfo}(ht:¬t<T.types.size)(h:T.info? t=some i):i.methods=#[]:=by
 unfold Tables.info? at h;rw[if_neg ht]at h;unfold Made.depth at h;unfold Made.infoAt at h;rw[if_neg ht]at h;simp only[bind_eq_some_iff]at h;obtain⟨d,_,h⟩:=h;exact qxg h
section
variable {C:Pen}
theorem qzp(name:String):qd C (cutType name) (λ_=>True):=by
 unfold cutType;refine qab qbe (λp _=>?_);split
 . exact qac trivial
 . exact qae
theorem q2f(H:qca C){args:Array Value}(h:qq C args):qd C (Extern.ReflectliteType.typeOf args) (Ok C.A C.F):=by
 have hT:∀t,qd C (Extern.ReflectliteType.toType t) (Ok C.A C.F):=λt=>by
  unfold Extern.ReflectliteType.toType;refine qab (qzp _) (λn _=>?_);unfold Extern.Rtype.handle;refine qab (Q:=Ok C.A C.F) (qab qbe (λp hp=>?_)) (λv hv=>?_)
  . subst hp;exact qac (qhg H _)
  . refine qac (.iface _ (.agg (λu hu=>?_)));simp only[List.mem_toArray,mem_cons,not_mem_nil,or_false]at hu;subst hu;exact hv
 obtain⟨l⟩:=args;rcases l with _|⟨a,_|⟨b,l⟩⟩
 . exact qae
 . cases a<;>first|exact qac .nilIface|exact hT _|exact qae
 . exact qae
theorem qrz(f:TypeId->Sem Value)(hf:∀t,qd C (f t) (Ok C.A C.F))(args:Array Value):qd C (Extern.ReflectliteType.method f args) (Ok C.A C.F):=by
 have hR:∀r,qd C (Extern.ReflectliteType.ofRtype r) (λ_=>True):=λr=>by
  have k:∀h,qd C (do let t <-Extern.Rtype.ofHandle h;Extern.Rtype.noPack "a Type asked or handed on" t;pure t) (fun _=>True):=fun h=>by
   refine qab (Q:=λ_=>True) ?_ (λt _=>qab (Q:=λ_=>True) ?_ (λ_ _=>qac trivial))
   . unfold Extern.Rtype.ofHandle;refine qab qbe (λp _=>?_);split
     . exact qac trivial
     . exact qae
   . unfold Extern.Rtype.noPack;refine qab qbe (λp _=>?_);exact qaj (λ_=>qag (by simp)) (λ_=>qac trivial)
  cases r with
  |agg cs=>
   obtain⟨l⟩:=cs;rcases l with _|⟨a,_|⟨b,l⟩⟩
   . exact qae
   . exact k _
   . exact qae
  |_=>exact qae
 obtain⟨l⟩:=args;rcases l with _|⟨a,_|⟨b,l⟩⟩
 . exact qae
 . exact qab (hR a) (λt _=>hf t)
 . exact qae
theorem qty(args:Array Value):qd C (Extern.ReflectliteType.method (λt=>do Extern.Rtype.noPackHeld "Comparable" t;pure (.bool (<-typeInfo t).comparable)) args) (Ok C.A C.F):=by
 refine qrz _ (λt=>?_) args;refine qab (Q:=λ_=>True) ?_ (λ_ _=>qab (qbl t) (λi _=>qac (.bool _)));unfold Extern.Rtype.noPackHeld;refine qab qbe (λp _=>?_);refine qab qbe (λp _=>?_);exact qaj (λ_=>qag (by simp)) (λ_=>qac trivial)
end
def Fs(f:Nat):Bool:=Nat.blt f 265&&Nat.testBit 494717392981601621360436002341386437694368325660548181167137909069361696768 f
def Gs(g:Nat):Bool:=g==0
def SN:List String:=["Comparable","Is","Unwrap","loop.example/workplans/impl.needs"]
theorem qqB{f:Nat}(h:Fs f=true):f<265:=by
 unfold Fs at h;rw[Bool.and_eq_true,Nat.blt_eq]at h;exact h.1
theorem qqC:(range 265).all (λf=>!(Fs f)||xn prog Fs Gs SN [139,248] f)=true:=by kernel_rfl
theorem qqD:(range Tryz.prog.types.size).all (λt=>qiV prog Fs SN t)=true:=by kernel_rfl
theorem q4m:∃fn,Tryz.prog.funcs[139]?=some fn/\fn.body.isNone=true/\Extern.findNext fn=none/\Extern.find fn=some Extern.ReflectliteType.typeOf:=⟨_,func139,rfl,by kernel_rfl,by kernel_rfl⟩
theorem qwl:∃fn,Tryz.prog.funcs[248]?=some fn/\fn.body.isNone=true/\Extern.findNext fn=none/\Extern.find fn=some (Extern.ReflectliteType.method (λt=>do Extern.Rtype.noPackHeld "Comparable" t;pure (.bool (<-typeInfo t).comparable))):=⟨_,func248,rfl,by kernel_rfl,by kernel_rfl⟩
structure zL(C:Pen):Prop where
 P:C.P=prog
 F:∀f,C.F f↔Fs f=true
 X:∀f t,¬C.X f t
 H:C.A ⟨Tryz.prog.globals.size,0,none⟩
 g:C.A ⟨0,0,none⟩
section
variable {C:Pen}(O:zL C)
include O
theorem zL.qqE:∀g,Gs g=true->C.A ⟨g,0,none⟩:=λg h=>by
 have:g=0:=by simpa[Gs]using h
 subst this;exact O.g
theorem zL.x{f:Nat}:C.X f=λ_=>False:=funext (λt=>eq_false (O.X f t))
theorem zL.code{c:Code}(h:qcl prog Fs Gs SN c=true)(f:Nat):qf4 C SN (C.X f) c:=by
 rw[O.x];refine qqA (Fs:=Fs) (Gs:=Gs) (λf hf=>(O.F f).2 hf) O.qqE ?_;rw[O.P];exact h
theorem zL.xn{f:Nat}(h:C.F f):xn prog Fs Gs SN [139,248] f=true:=by
 have h1:=(O.F f).1 h;have:=List.all_eq_true.1 qqC f (mem_range.2 (qqB h1));simpa[h1]using this
theorem zL.qbD:qaQ C SN:=by
 have hH:qca C:=by unfold qca;rw[O.P];exact O.H
 refine⟨hH,λf hf=>?_,λt i m f b hi hm hn hf=>?_⟩
 . have h:=O.xn hf;unfold Go.Proofs.YtacemdoejblgaaaGreatDoor.xn at h;rw[O.P];split at h
   . cases h
   . rename_i fn hfn;simp only[Bool.and_eq_true,Bool.not_eq_true']at h;refine⟨fn,hfn,h.1,?_⟩;cases hb:fn.body with
     |some c=>exact .inl rfl
     |none=>
      rw[hb]at h;have h2:=h.2;simp only[contains_cons,contains_nil,Bool.or_false,Bool.or_eq_true,beq_iff_eq]at h2;rcases h2 with rfl|rfl
      . obtain⟨fn2,e1,e2,e3,e4⟩:=q4m;rw[hfn]at e1;cases e1;exact .inr ⟨rfl,e3,_,e4,λargs ha=>q2f hH ha⟩
      . obtain⟨fn2,e1,e2,e3,e4⟩:=qwl;rw[hfn]at e1;cases e1;exact .inr ⟨rfl,e3,_,e4,λargs _=>qty args⟩
 . rw[O.P]at hi;refine(O.F f).2 ?_;rcases Nat.lt_or_ge t Tryz.prog.types.size with ht|ht
   . have h:=List.all_eq_true.1 qqD t (mem_range.2 ht);unfold qiV at h;rw[hi]at h;have h2:=Array.all_eq_true_iff_forall_mem.1 h m hm;rw[hf,contains_iff_mem.2 hn]at h2;simpa using h2
   . rw[qxh (Nat.not_lt.2 ht) hi]at hm;simp at hm
theorem zL.xM:zw C SN:=by
 refine⟨O.qbD,λf fn c hf hfn hb=>⟨?_,λr _=>?_⟩⟩
 . refine O.code ?_ f;have h:=O.xn hf;rw[O.P]at hfn;unfold Go.Proofs.YtacemdoejblgaaaGreatDoor.xn at h;rw[hfn]at h;simp only[hb,Bool.and_eq_true]at h;exact h.2
 . cases r<;>exact O.X f _
end
end
end Go.Proofs.YtacemdoejblgaaaGreatDoor

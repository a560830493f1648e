/- Part 36. Conditions: each statement's. -/
import Derived.Test.YtacemdoejblgaaaGreatDoorRows
import Derived.ProofKit
import Derived.OpenShut
import Derived.ShutString
import Derived.ChangeOld
import Derived.Below
import Derived.LaidMore
import Derived.LaidHandle
import Derived.MakeChecks
import Derived.Stop.LaidErr
import Derived.Stop.Joined
import Derived.Deep.Slices
import Derived.Deep.Fields
import Derived.Test.YtacemdoejblgaaaGreatDoorCards
import Derived.SevenTiedAt
import Derived.ChangeVars
import Derived.WideKeyArgs
import Derived.Lib.SmallJoins
import Derived.LaidLaws
import Derived.Test.YtacemdoejblgaaaGreatDoorM16
import Derived.Test.YtacemdoejblgaaaGreatDoorM35
namespace Go.Proofs.YtacemdoejblgaaaGreatDoor
set_option maxHeartbeats 6400000
set_option maxRecDepth 100000
section
open Go.ChangeShapes Go.WideShapes Go.ChangeAt Go.RowKit Go.Deep
theorem qhC:ownKnob Tryz.prog.godebug=none:=by kernel_rfl
theorem que:laidOutB Tryz.prog=true:=by kernel_rfl
theorem q8z:Tryz.prog.initOrder=String.ofList (([104,97,114,110,101,115,115,32,50,97,56,48,57,52,102,99,98,101,54,55,53,101,49,101,50,54,49,100,49,57,56,102,102,57,54,101,102,53,57,55,54,51,57,100,49,50,57,53,57,51,102,56,49,55,97,53,49,97,100,97,100,101,101,102,55,56,52,55,52,53,53,49,32,99,117,116,32,97,116,32,108,111,111,112,46,101,120,97,109,112,108,101,47,119,111,114,107,112,108,97,110,115,47,108,97,119,115,46,70,110,83,99,104,101,100,117,108,101,82,101,115,116,32,108,111,111,112,46,101,120,97,109,112,108,101,47,119,111,114,107,112,108,97,110,115,47,108,97,119,115,46,70,110,83,99,104,101,100,117,108,101,82,117,110,32,108,111,111,112,46,101,120,97,109,112,108,101,47,119,111,114,107,112,108,97,110,115,47,108,97,119,115,46,70,110,83,99,104,101,100,117,108,101,82,117,110,80,97,114,116,32,108,111,111,112,46,101,120,97,109,112,108,101,47,119,111,114,107,112,108,97,110,115,47,108,97,119,115,46,70,110,83,99,104,101,100,117,108,101,65,108,108,32,108,111,111,112,46,101,120,97,109,112,108,101,47,119,111,114,107,112,108,97,110,115,47,108,97,119,115,46,70,110,83,99,104,101,100,117,108,101,66,101,103,105,110,32,108,111,111,112,46,101,120,97,109,112,108,101,47,119,111,114,107,112,108,97,110,115,47,108,97,119,115,46,70,110,83,99,104,101,100,117,108,101,79,114,100,101,114,32,108,111,111,112,46,101,120,97,109,112,108,101,47,119,111,114,107,112,108,97,110,115,47,108,97,119,115,46,70,110,83,99,104,101,100,117,108,101,79,116,104,101,114,32,108,111,111,112,46,101,120,97,109,112,108,101,47,119,111,114,107,112,108,97,110,115,47,108,97,119,115,46,70,110,69,120,97,99,116,83,99,104,101,100,117,108,101,65,108,108,32,108,111,111,112,46,101,120,97,109,112,108,101,47,119,111,114,107,112,108,97,110,115,47,108,97,119,115,46,70,110,69,120,97,99,116,83,99,104,101,100,117,108,101,82,117,110]:List Nat).map Char.ofNat):=by kernel_rfl
theorem q4d:behindMainWord (wordsSigns Tryz.prog.initOrder.toList)=([99,117,116]:List Nat).map Char.ofNat::([[97,116],[108,111,111,112,46,101,120,97,109,112,108,101,47,119,111,114,107,112,108,97,110,115,47,108,97,119,115,46,70,110,83,99,104,101,100,117,108,101,82,101,115,116],[108,111,111,112,46,101,120,97,109,112,108,101,47,119,111,114,107,112,108,97,110,115,47,108,97,119,115,46,70,110,83,99,104,101,100,117,108,101,82,117,110],[108,111,111,112,46,101,120,97,109,112,108,101,47,119,111,114,107,112,108,97,110,115,47,108,97,119,115,46,70,110,83,99,104,101,100,117,108,101,82,117,110,80,97,114,116],[108,111,111,112,46,101,120,97,109,112,108,101,47,119,111,114,107,112,108,97,110,115,47,108,97,119,115,46,70,110,83,99,104,101,100,117,108,101,65,108,108],[108,111,111,112,46,101,120,97,109,112,108,101,47,119,111,114,107,112,108,97,110,115,47,108,97,119,115,46,70,110,83,99,104,101,100,117,108,101,66,101,103,105,110],[108,111,111,112,46,101,120,97,109,112,108,101,47,119,111,114,107,112,108,97,110,115,47,108,97,119,115,46,70,110,83,99,104,101,100,117,108,101,79,114,100,101,114],[108,111,111,112,46,101,120,97,109,112,108,101,47,119,111,114,107,112,108,97,110,115,47,108,97,119,115,46,70,110,83,99,104,101,100,117,108,101,79,116,104,101,114],[108,111,111,112,46,101,120,97,109,112,108,101,47,119,111,114,107,112,108,97,110,115,47,108,97,119,115,46,70,110,69,120,97,99,116,83,99,104,101,100,117,108,101,65,108,108],[108,111,111,112,46,101,120,97,109,112,108,101,47,119,111,114,107,112,108,97,110,115,47,108,97,119,115,46,70,110,69,120,97,99,116,83,99,104,101,100,117,108,101,82,117,110]]:List (List Nat)).map (·.map Char.ofNat):=by
 rw [q8z,String.toList_ofList]
 kernel_rfl
theorem qs0(w:List Char)(ws:List (List Char)):∀ os:List String,os.all (fun o=>!(w == o.toList))=true->stripLifts os (w::ws)=([],w::ws)
 | [],_=>rfl
 | o::os,h=>by
   simp only [List.all_cons,Bool.and_eq_true,Bool.not_eq_true'] at h;unfold stripLifts;rw [if_neg (by simp [h.1])];exact qs0 w ws os h.2
theorem q7a(ws:List (List Char)):stripLifts liftWords (([99,117,116]:List Nat).map Char.ofNat::ws)=([],([99,117,116]:List Nat).map Char.ofNat::ws):=qs0 _ ws liftWords (by kernel_rfl)
theorem qwm{P:Program}{ws:List (List Char)}(h:behindMainWord (wordsSigns P.initOrder.toList)=([99,117,116]:List Nat).map Char.ofNat::ws)(h5:P.laysLater=false)(h6:P.bearsReflect=false)(h7:P.doorFits []=true):P.mayEnter=true:=by
 unfold Program.mayEnter;rw [h];dsimp only;rw [q7a];have h1:(([99,117,116]:List Nat).map Char.ofNat == "gc".toList)=false:=by kernel_rfl
 have h2:(([99,117,116]:List Nat).map Char.ofNat == "spec".toList)=false:=by kernel_rfl
 have h3:(([99,117,116]:List Nat).map Char.ofNat == "carried".toList)=false:=by kernel_rfl
 have h4:(some (([99,117,116]:List Nat).map Char.ofNat) == some "cut".toList)=true:=by kernel_rfl
 simp only [List.head?_cons,h1,h2,h3,h4,h5,h6,h7];simp
theorem q4e:Tryz.prog.mayEnter=true:=qwm q4d (by kernel_rfl) (by kernel_rfl) (by kernel_rfl)
theorem qr7{P:Program}{ws:List (List Char)}(h:behindMainWord (wordsSigns P.initOrder.toList)=([99,117,116]:List Nat).map Char.ofNat::ws):P.liftsFinal=false:=by
 unfold Program.liftsFinal Program.headLifts;rw [h];dsimp only;rw [q7a];simp [List.head?_cons]
theorem qyv:Tryz.prog.liftsFinal=false:=qr7 q4d
theorem q6e{P:Program}{ws:List (List Char)}(h:behindMainWord (wordsSigns P.initOrder.toList)=([99,117,116]:List Nat).map Char.ofNat::ws):P.make=some .cut:=by
 unfold Program.make;rw [h];rfl
theorem q9b:Tryz.prog.make=some .cut:=q6e q4d
theorem q10{P:Program}{f:FuncId}{fn:Func}{s:ChangeSpec}{c:OpenClaim}(k0:c.wf (OpenSpec.ofChange s)=true)(k1:laidOutB P=true)(k2:mapsRowed P=true)
   (k3:(fn.params.all (P.readableRec ·) && namedTie P c.named s.vars && (c.stops == []) && (P.stops == []) && (c.knobs == []) && (P.stopKnobs == []))=true)
   (k4:(c.inPlace == P.inPlace f)=true) (k5:(c.unfollowed == P.unfollowed f)=true) (k6:(c.recurses == P.recurses f)=true) (k7:(c.named == P.varsNamed f)=true)
   (k8:((c.maps == (fn.params.toList++s.plain.varTypes P).any (P.mapsRec ·)) && (c.ifaces == (fn.params.toList++s.plain.varTypes P).any (P.ifacesRec ·)) && (c.mapsOut == P.mapsAmong fn.resultTypes.toList) &&
     (c.loops == (fn.params.toList++s.plain.varTypes P).any (P.loopsFrom ·)) && (c.wideKeys == (fn.params.toList++s.plain.varTypes P++fn.resultTypes.toList).any (P.wideKeysFrom ·)))=true)
   (k9:(s.vars.all (P.varReadable ·) && fn.resultTypes.all (fun t=>P.readableRec t && decide (t < P.types.size)) && (c.ifacesOut == fn.resultTypes.toList.any (P.ifacesRec ·)) && (c.loopsOut == fn.resultTypes.toList.any (P.loopsFrom ·)))=true)
   (k10:((c.plainKeys == P.plainKeys) && c.shortTexts.isNone && P.stopsHeard)=true) (k11:P.mayEnter=true) (k12:(c.lifted == P.liftsFinal)=true) (k13:(P.make == some c.make)=true)
   (k14:((c.kinds == (if c.domain.isEmpty then [] else fn.params.toList.map fun t=>match P.underlying t with | some (.int k)=>some k | _=>none)) && (c.pinned == c.pinnedBy))=true)
   (k15:((c.veiled == (fn.params.toList++s.plain.varTypes P++fn.resultTypes.toList).any (P.veiledRec ·)) && c.veiledFits P fn.params.toList (fn.params.toList++s.plain.varTypes P++fn.resultTypes.toList))=true) :
   joinedFacts P f fn s c=true:=by
 unfold joinedFacts;simp only [Bool.and_eq_true] at k3 k8 k9 k10 k14 k15 |-;obtain⟨⟨⟨⟨⟨a1,a2⟩,a3⟩,a4⟩,a5⟩,a6⟩:=k3;obtain⟨⟨⟨⟨b1,b2⟩,b3⟩,b4⟩,b5⟩:=k8;obtain⟨⟨⟨c1,c2⟩,c3⟩,c4⟩:=k9;obtain⟨⟨d1,d2⟩,d3⟩:=k10;obtain⟨e1,e2⟩:=k14;obtain⟨f1,f2⟩:=k15;exact⟨⟨⟨⟨⟨⟨⟨⟨⟨⟨⟨⟨⟨⟨⟨⟨⟨⟨⟨⟨⟨⟨⟨⟨⟨⟨⟨⟨⟨⟨⟨k0,k1⟩,k2⟩,a1⟩,a2⟩,a3⟩,a4⟩,a5⟩,a6⟩,k4⟩,k5⟩,k6⟩,k7⟩,b1⟩,b2⟩,b3⟩,b4⟩,b5⟩,c1⟩,c2⟩,c3⟩,c4⟩,d1⟩,d2⟩,d3⟩,k11⟩,k12⟩,k13⟩,e1⟩,e2⟩,f1⟩,f2⟩
theorem q6f{P:Program}{fn:Func}(h1:fn.origin = "")(h2:fn.targs=#[])(h3:fn.name.toList.contains (Char.ofNat 91)=false):fn.isInstance P "" []:=
 ⟨h1,by rw [h2];rfl,by rw [if_pos rfl];exact⟨rfl,h3⟩⟩
theorem q6g(P:Program)(fn:Func)(h:Check.packageOf fn.name≠ "main"):fn.isWrapper P false "":=by
 unfold Func.isWrapper;rw [if_neg h];exact⟨rfl,rfl⟩
theorem q11{H:Type}{enc:TypeId × Value->H}{W W':World}{n:String}{t:TypeId}{g:Nat}{gs:List (DataW H)}{q:List MemPlace}(hg:Tryz.prog.globalNamed n=some g)(ht:(Tryz.prog.globals[g]?).map (·.type)=some t)
   (hr:Tryz.prog.readableRec t=true) (hrow:t < Tryz.prog.types.size) (h:DataW.TrodVars enc Tryz.prog W (fun _=>true) [n] gs q) (hb:Below W.heap.size W W') :
   ∃ pv,DataW.TrodVars enc Tryz.prog W' (fun b=>decide (b < W.heap.size)) [n] gs pv:=by
 obtain⟨g',t',cs,fuel,d,p,rfl,h1,h2,h3,h4,_⟩:=trodVars_one h;obtain rfl:=Option.some.inj (hg.symm.trans h1);obtain rfl:=Option.some.inj (ht.symm.trans h2);have hlt:∀ x∈p,x.block < W.heap.size:=DataW.trod_lt fuel _ _ _ h4
 have h3':W'.var? Tryz.prog n=some cs:=by
   simp only [World.var?,h1,Option.bind_some] at h3 |-
   have hgl:g < W.heap.size:=by
     rcases Nat.lt_or_ge g W.heap.size with hh | hh
     . exact hh
     . rw [Array.getElem?_eq_none hh] at h3;cases h3
   rw [hb.block g hgl];exact h3
 exact⟨_,trodVars_mk1 h1 h2 h3' (DataW.trod_stays (kids_book que hr) (book_sized hr) (fun h=>by cases h) ⟨hrow,book_self t⟩ h4 (fun x hx=>hb.same (hlt x hx)) (fun x hx=>by simpa using hlt x hx))⟩
theorem gEt:Tryz.prog.globalNamed "loop.example/workplans/impl.errTurn" = some 0:=by kernel_rfl
theorem qeA:(Tryz.prog.globals[0]?).map (·.type)=some 119:=by kernel_rfl
theorem q7b: "*"++ "errors.errorString" = "*errors.errorString":=by decide
theorem qcA(u:TypeId)(h:Tryz.prog.typeName? 3 u=some "*errors.errorString"):u=244:=
 typeName_ptr_named (nm:= "errors.errorString") (by rw [q7b];kernel_rfl) (by kernel_rfl) (by decide) u (by rw [q7b];exact h)
theorem q71{H:Type}{enc:TypeId × Value->H}{W W':World}{gs:List (DataW H)}{q:List MemPlace}(h:DataW.TrodVars enc Tryz.prog W (fun _=>true) ["loop.example/workplans/impl.errTurn"] gs q)(hb:Below W.heap.size W W') :
   ∃ pv,DataW.TrodVars enc Tryz.prog W' (fun b=>decide (b < W.heap.size)) ["loop.example/workplans/impl.errTurn"] gs pv:=
 q11 gEt qeA (by kernel_rfl) (of_decide_eq_true (by kernel_rfl)) h hb
def q7c:List (String × DataW Unit):=[("loop.example/workplans/impl.errTurn",Rows.laid_loop_example_workplans_impl_errTurn)]
theorem q72(os:Os):laidMet Tryz.prog q7c (World.doorLaid Tryz.prog 400 os):=laidMet_of_run' 8 (by kernel_rfl) (by kernel_rfl)
theorem q73(os:Os)(args:Array Value):laidMetH Tryz.prog q7c ((World.doorLaid Tryz.prog 400 os).forCall (fun _ _=>0) ⟨#[],args,[]⟩).memory:=
 laidMetH_of_parts3 (fuel:=8) ((q72 os).of_heap (by simp [World.memory,World.forCall,Input.heap])) (by kernel_rfl) (by kernel_rfl)
theorem q12(os:Os)(args:Array Value):((World.doorLaid Tryz.prog 400 os).forCall (fun _ _=>0) ⟨#[],args,[]⟩).Shaped Tryz.prog:=World.shaped_of_RefB (by kernel_rfl) (by kernel_rfl)
theorem q80:true=Tryz.pinned.checked.prog.looks []:=by kernel_rfl
theorem q13:mapsRowed Tryz.prog=true:=by kernel_rfl
theorem q74:Tryz.pinned.checked.prog.mainIs=some (Rows.fnScheduleRunCard.stood.harness.1,Rows.fnScheduleRunCard.stood.harness.2.toList):=by kernel_rfl
end
section
open Go.RowKit
theorem qz7{qa:List Node}{c:qj}(h:q4s qa c):c.qb.length<=1048576/\∀ d∈c.qb,d.length<=1048576:=by
 rcases h with h | rfl
 . exact⟨by have:=h.d4;omega,fun d hd=>by have:=qdu h d hd;omega⟩
 . exact⟨by simp [qf7],fun d hd=>by simp [qf7] at hd⟩
theorem qud{qa:List Node}{c:qj}(h:qo qa c):∀ d∈c.qb,d.length<=1048576:=(qz7 (.inl h)).2
theorem jy.put{w:World}{V:Nat}{d k o r d' k' o' r':Value}{c c':qj}(h:jy w V d k o r c)(hc:CV w (.agg #[d',k',o',r']) c') :
   jy ((((w.setCell ⟨V,0,none⟩ d').setCell ⟨V,1,none⟩ k').setCell ⟨V,2,none⟩ o').setCell ⟨V,3,none⟩ r') V d' k' o' r' c':=by
 have hst:=qdz w V d' k' o' r';have b1:=(((h.b.qC 0 d').qC 1 k').qC 2 o').qC 3 r';obtain⟨e1,e2,e3,e4,e,h1,h2,h3,h4⟩:=hc.grown hst (qg.blk h.b (by decide)) (qg.blk h.b (by decide));injection e with e;injection e with e;injection e with ea e;injection e with eb e;injection e with ec e;injection e with ed e;subst ea eb ec ed;exact⟨b1,h1,h2,h3,h4⟩
theorem qix(va vb:Value)(c:qj)(w:World)(ha:CV w va c)(hb:CV w vb c):Calls Tryz.prog 15 #[va,vb] w fun e w'=>e=.returned (.bool true)/\w.grownBy w' none:=by
 obtain⟨A1,n1,c1,A2,n2,c2,A3,n3,c3,A4,n4,c4,rfl,-,-,-,-⟩:=ha.form;obtain⟨B1,m1,e1,B2,m2,e2,B3,m3,e3,B4,m4,e4,rfl,-,-,-,-⟩:=hb.form;have hX:=ha.box.new (World.grownBy_alloc _ (.cells #[.slice B1 m1 e1,.slice B2 m2 e2,.slice B3 m3 e3,.slice B4 m4 e4] 29) none);have hY:=(hb.new (World.grownBy_alloc w (.cells #[.slice A1 n1 c1,.slice A2 n2 c2,.slice A3 n3 c3,.slice A4 n4 c4] 29) none)).box;rw [World.size_alloc] at hY;have g1:w.grownBy ((w.alloc (.cells #[.slice A1 n1 c1,.slice A2 n2 c2,.slice A3 n3 c3,.slice A4 n4 c4] 29)).alloc (.cells #[.slice B1 m1 e1,.slice B2 m2 e2,.slice B3 m3 e3,.slice B4 m4 e4] 29)) none:=qap (qap (qag w none) _) _;clear ha hb;go_enter Tryz.func15,Tryz.ntmps15;go_upto_region 1 with fail;generalize ((w.alloc (.cells #[.slice A1 n1 c1,.slice A2 n2 c2,.slice A3 n3 c3,.slice A4 n4 c4] 29)).alloc (.cells #[.slice B1 m1 e1,.slice B2 m2 e2,.slice B3 m3 e3,.slice B4 m4 e4] 29))=W at hX hY g1 |-;have x0:=hX.d0;have y0:=hY.d0;go_wp2_with fail;refine(qs1 _ _ c.qb c.qb W hX.dq hY.dq (c:=true) (decide_eq_true rfl)).mono ?_;rintro e w1 ⟨rfl,hg1⟩;replace hX:=hX.new hg1;replace hY:=hY.new hg1;replace g1:=qac g1 hg1;clear x0 y0 hg1;have x1:=hX.d1;have y1:=hY.d1;go_wp2_with fail;refine(qly _ _ c.counts c.counts w1 hX.ct hY.ct (c:=true) (decide_eq_true rfl)).mono ?_;rintro e w2 ⟨rfl,hg1⟩;replace hX:=hX.new hg1;replace hY:=hY.new hg1;replace g1:=qac g1 hg1;clear x1 y1 hg1;have x2:=hX.d2;have y2:=hY.d2;go_wp2_with fail;refine(qly _ _ c.done c.done w2 hX.dn hY.dn (c:=true) (decide_eq_true rfl)).mono ?_;rintro e w3 ⟨rfl,hg1⟩;replace hX:=hX.new hg1;replace hY:=hY.new hg1;replace g1:=qac g1 hg1;clear x2 y2 hg1;have x3:=hX.d3;have y3:=hY.d3;go_wp2_with fail;refine(qs1 _ _ c.rows c.rows w3 hX.ro hY.ro (c:=true) (decide_eq_true rfl)).mono ?_;rintro e w4 ⟨rfl,hg1⟩;go_wp2_with fail;go_ret;exact⟨rfl,qac g1 hg1⟩
theorem qhe{w:World}{b:Nat}{d k o r:Value}{c:qj}(hb:Blk w b 29 #[.slice none 0 0,.slice none 0 0,.slice none 0 0,.slice none 0 0])(hc:CV w (.agg #[d,k,o,r]) c) :
   jy ((((w.setCell ⟨b,0,none⟩ d).setCell ⟨b,1,none⟩ k).setCell ⟨b,2,none⟩ o).setCell ⟨b,3,none⟩ r) b d k o r c/\w.grownBy ((((w.setCell ⟨b,0,none⟩ d).setCell ⟨b,1,none⟩ k).setCell ⟨b,2,none⟩ o).setCell ⟨b,3,none⟩ r) (some b):=by
 have hz:=(CV.zero w).box
 have h0:jy w b (.slice none 0 0) (.slice none 0 0) (.slice none 0 0) (.slice none 0 0) qf7:=by
   obtain⟨e1,e2,e3,e4,e,h1,h2,h3,h4⟩:=CV.zero w;injection e with e;injection e with e;injection e with ea e;injection e with eb e;injection e with ec e;injection e with ed e;subst ea eb ec ed;exact⟨hb,h1,h2,h3,h4⟩
 exact⟨h0.put hc,qdz w b d k o r⟩
def jg(fl b0:Nat)(lk:Int)(pv:Value)(c:qj)(z:World):Prop:=∃ d k o r,Blk z fl 66 #[.int .i32 lk,.int .u32 0,pv,d,k,o,r]/\qY z b0 (.agg #[d,k,o,r]) c
theorem jg.grown{fl b0:Nat}{lk:Int}{pv:Value}{c:qj}{w z:World}{row:Option Nat}(h:jg fl b0 lk pv c w)(g:w.grownBy z row)(h1:qg w 3 row)(h2:qg w 24 row)(hne:some fl≠row):jg fl b0 lk pv c z:=by
 obtain⟨d,k,o,r,hB,hF⟩:=h;exact⟨d,k,o,r,hB.grown g hne,hF.grown g h1 h2⟩
theorem jg.lock{fl b0:Nat}{lk:Int}{pv:Value}{c:qj}{z:World}(h:jg fl b0 lk pv c z)(lk':Int):jg fl b0 lk' pv c (z.setCell ⟨fl,0,none⟩ (.int .i32 lk')):=by
 obtain⟨d,k,o,r,hB,hF⟩:=h;exact⟨d,k,o,r,hB.qC 0 _,hF.grown (qa2 (qag z (some fl)) (.inr rfl) _) (qg.blk hB (by decide)) (qg.blk hB (by decide))⟩
theorem qxd(fl b0:Nat)(j:Int)(pv:Value)(qa:List Node)(c:qj)(a:Addr)(W:World)(hW:jg fl b0 1 pv c W)(hb0:b0<=fl)(hp:RN W pv qa)(hE:qp W a)(hfit:∀ d∈c.qb,d.length<=1048576) :
   qv.wp Tryz.prog (fun e _ x=>e=.normal/\jg fl b0 1 pv ((qba qa c j).getD c) x/\W.grownBy x (some fl)) ⟨qfn fl j,[]⟩ W:=by
 obtain⟨d,k,o,r,hB,hF⟩:=hW;have hc:=hF.cv;obtain⟨X1,Xn1,Xc1,X2,Xn2,Xc2,X3,Xn3,Xc3,X4,Xn4,Xc4,hv,-,-,-,-⟩:=hc.form;simp only [Value.agg.injEq,Array.mk.injEq,List.cons.injEq,and_true] at hv;obtain⟨rfl,rfl,rfl,rfl⟩:=hv;obtain⟨P1,pn,pc,rfl,-,-,-⟩:=hp.form';have d0:=hB.cell 0;have d2:=hB.cell 2;have d3:=hB.cell 3;have d4:=hB.cell 4;have d5:=hB.cell 5;have d6:=hB.cell 6;have qD:=Lib.hid hfit;clear hfit;simp only [qv,qg1,Tryz.f71,Option.getD_some,qfn];obtain⟨R,hR⟩:∃ R,R=qba qa c j:=⟨_,rfl⟩;rw [<-hR];have HR:=Lib.hid hR;clear hR;have gW:=qag W none;go_upto_region 2 with fail
 go_cut [4,5] from 13 to 26 (fun t4 t5 wx=>∃ b V1 Vn1 Vc1 V2 Vn2 Vc2 V3 Vn3 Vc3 V4 Vn4 Vc4,t4=.pointer (some ⟨b,0,none⟩)/\t5=.bool R.isSome/\W.heap.size<=b/\jy wx b (.slice V1 Vn1 Vc1) (.slice V2 Vn2 Vc2) (.slice V3 Vn3 Vc3) (.slice V4 Vn4 Vc4) (R.getD qf7)/\W.grownBy wx none/\qY wx W.heap.size (.agg #[.slice V1 Vn1 Vc1,.slice V2 Vn2 Vc2,.slice V3 Vn3 Vc3,.slice V4 Vn4 Vc4]) (R.getD qf7))
 case first=>
   go_region_held3 (fun w'=>w'.cell? ⟨fl,2,none⟩=some (.slice P1 pn pc)/\w'.cell? ⟨fl,3,none⟩=some (.slice X1 Xn1 Xc1)/\w'.cell? ⟨fl,4,none⟩=some (.slice X2 Xn2 Xc2)/\w'.cell? ⟨fl,5,none⟩=some (.slice X3 Xn3 Xc3)/\w'.cell? ⟨fl,6,none⟩=some (.slice X4 Xn4 Xc4)) (go_keep) (first
     | (go_at_call 17;have hz:=hc;refine(qob _ _ qa c j a _ (by first | exact hE | exact hE.new (qax gW) | exact hE.new (qap gW _) | exact hE.new (qax (qap gW _))) (by first | exact hp | exact hp.new (qax gW) | exact hp.new (qap gW _) | exact hp.new (qax (qap gW _))) (by first | exact hc | exact hc.new (qax gW) | exact hc.new (qap gW _) | exact hc.new (qax (qap gW _))) qD.out).mono ?_;rw [<-HR.out];rintro e w5 ⟨v5,rfl,hF5,hg5⟩;have zf:=hF5.cv;obtain⟨U1,Un1,Uc1,U2,Un2,Uc2,U3,Un3,Uc3,U4,Un4,Uc4,rfl⟩:=hF5.form;have g5:W.grownBy w5 none:=(by first | exact hg5 | exact qac (qax gW) hg5 | exact qac (qap gW _) hg5 | exact qac (qax (qap gW _)) hg5);have hF6:=hF5.low (b:=W.heap.size) (by first | exact Nat.le_refl _ | exact(qax gW).size | exact(qax (qap gW _)).size);have hB5:=hB.grown g5 (by simp);have x2:=hB5.cell 2;have x3:=hB5.cell 3;have x4:=hB5.cell 4;have x5:=hB5.cell 5;have x6:=hB5.cell 6;have xn:fl≠W.heap.size:=Nat.ne_of_lt hB.lt;have qhD:=xn.symm;have qcB:fl≠w5.heap.size:=Nat.ne_of_lt (Nat.lt_of_lt_of_le hB.lt g5.size);have kY:=qcB.symm;try (have jL:Blk w5 W.heap.size 29 #[.slice none 0 0,.slice none 0 0,.slice none 0 0,.slice none 0 0]:=(Blk.new W 29 #[.slice none 0 0,.slice none 0 0,.slice none 0 0,.slice none 0 0]).drew.grown hg5 (by simp));try (have yy0:=jL.cell 0;have ff0:=jL.frozen 0;have yy1:=jL.cell 1;have ff1:=jL.frozen 1;have yy2:=jL.cell 2;have ff2:=jL.frozen 2;have yy3:=jL.cell 3;have ff3:=jL.frozen 3)))
   all_goals
     go_wp2_with fail;go_meet
     first
       | exact⟨_,_,_,_,_,_,_,_,_,_,_,_,_,rfl,rfl,Nat.le_refl _,(qhe jL zf).1,qa1 g5 (qhe jL zf).2 (fun g e=>by cases e;exact .inl (Nat.le_refl _)),hF6.grown (qhe jL zf).2 (qg.blk jL (by decide)) (qg.blk jL (by decide))⟩
       | exact⟨_,_,_,_,_,_,_,_,_,_,_,_,_,rfl,rfl,g5.size,zf.box,qap g5 _,hF6.new (qap (qag w5 none) _)⟩
 case rest=>
   obtain⟨b,V1,Vn1,Vc1,V2,Vn2,Vc2,V3,Vn3,Vc3,V4,Vn4,Vc4,rfl,rfl,hb,hV,gV,hFV⟩:=hcut;have hBc:=hB.grown gV (by simp);have hFc:=hF.new gV;have hbW:b0<=W.heap.size:=by have:=hB.lt;omega
   clear d0 d2 d3 d4 d5 d6 HR qD hE hp hc;cases R with
   | none=>
     clear hV hFV hbW hb;go_wp2_with fail;exact⟨⟨_,_,_,_,hBc,hFc⟩,qtg gV _⟩
   | some c'=>
     have v0:=hV.d0;have v1:=hV.d1;have v2:=hV.d2;have v3:=hV.d3;have y3:=hBc.cell 3;have z3:=hBc.frozen 3;have y4:=hBc.cell 4;have z4:=hBc.frozen 4;have y5:=hBc.cell 5;have z5:=hBc.frozen 5;have y6:=hBc.cell 6;have z6:=hBc.frozen 6;have hst:wc.grownBy ((((wc.setCell ⟨fl,3,none⟩ (.slice V1 Vn1 Vc1)).setCell ⟨fl,4,none⟩ (.slice V2 Vn2 Vc2)).setCell ⟨fl,5,none⟩ (.slice V3 Vn3 Vc3)).setCell ⟨fl,6,none⟩ (.slice V4 Vn4 Vc4)) (some fl):=qa2 (qa2 (qa2 (qa2 (qag wc (some fl)) (.inr rfl) _) (.inr rfl) _) (.inr rfl) _) (.inr rfl) _;have hB9:=(((hBc.qC 3 (.slice V1 Vn1 Vc1)).qC 4 (.slice V2 Vn2 Vc2)).qC 5 (.slice V3 Vn3 Vc3)).qC 6 (.slice V4 Vn4 Vc4);have hF9:=(hFV.low hbW).grown hst (qg.blk hBc (by decide)) (qg.blk hBc (by decide));have hfin:=Lib.hid (show jg fl b0 1 (.slice P1 pn pc) c' _/\W.grownBy _ (some fl) from⟨⟨_,_,_,_,hB9,hF9⟩,qac (qtg gV _) hst⟩);clear hst hB9 hF9 hV hFV hBc hFc hb hbW gV hB hF;go_wp2_with fail;exact hfin.out
end
section
open Go.RowKit Go.Conc
theorem jg.heap{fl b0:Nat}{lk:Int}{pv:Value}{c:qj}{x y:World}(e:x.heap=y.heap)(h:jg fl b0 lk pv c x):jg fl b0 lk pv c y:=by
 have k:jg fl b0 lk pv c x=jg fl b0 lk pv c { y with heap:=x.heap }:=rfl;rw [k,e] at h;exact h
theorem qze{a w:World}{row:Option Nat}(h:a.grownBy w row){c:Nat}(hc:a.heap.size<=c∨row=some c)(cap:Nat)(buf:Array Value)(cl:Bool)(s r:Nat)(tm:Bool):a.grownBy (w.setChan c cap buf cl s r tm) row:=
 qa1 (row':=some c) h ⟨rfl,rfl,rfl,by rw [Go.Conc.size_setChan];exact Nat.le_refl _,fun i _ hne=>by
   show (w.heap.setIfInBounds c _)[i]?=_;rw [Array.getElem?_setIfInBounds_ne (fun e=>hne (by rw [e]))]⟩ (fun g e=>by cases e;exact hc)
theorem qg.kF{w:World}{E:TypeId}{c cap s r:Nat}{buf:Array Value}{cl tm:Bool}(h:w.heap[c]?=some (.chan cap buf cl s r tm)):qg w E (some c):=fun g e cur hb=>by
 cases e;unfold Blk at hb;rw [h] at hb;cases hb
structure DZ(z₀:World)(fl b0:Nat)(lk:Int)(pv:Value)(qa:List Node)(c:qj)(z:World):Prop where
 size:z₀.heap.size<=z.heap.size
 block:∀ i,i < z₀.heap.size->i≠fl->z.heap[i]?=z₀.heap[i]?
 floor:jg fl b0 lk pv c z
 fit:∀ d∈c.qb,d.length<=1048576
section
variable {z₀ x y:World}{fl b0:Nat}{lk:Int}{pv:Value}{qa:List Node}{c:qj}
theorem DZ.heap(e:x.heap=y.heap)(h:DZ z₀ fl b0 lk pv qa c x):DZ z₀ fl b0 lk pv qa c y:=⟨e ▸ h.size,fun i h1 h2=>e ▸ h.block i h1 h2,h.floor.heap e,h.fit⟩
theorem DZ.gb(h:DZ z₀ fl b0 lk pv qa c x):z₀.grownBy { z₀ with heap:=x.heap } (some fl):=⟨rfl,rfl,rfl,h.size,fun i h1 h2=>h.block i h1 (fun e=>h2 (by rw [e]))⟩
theorem DZ.step(h:DZ z₀ fl b0 lk pv qa c x){row:Option Nat}(g:x.grownBy y row)(hr:∀ r,row=some r->z₀.heap.size<=r)(hfl:fl < z₀.heap.size)(h1:qg x 3 row)(h2:qg x 24 row):DZ z₀ fl b0 lk pv qa c y:=
 ⟨Nat.le_trans h.size g.size,fun i hi hne=>(g.block i (Nat.lt_of_lt_of_le hi h.size) (fun e=>by have:=hr i e.symm;omega)).trans (h.block i hi hne),h.floor.grown g h1 h2 (fun e=>by have:=hr fl e.symm;omega),h.fit⟩
end
theorem q8c{gr:Grd}{N fl b0:Nat}{csv pv:Value}{chs:List Nat}{qa:List Node}{z₀:World}{a:Addr}{cs0:Array Value}(hA:gr.A ⟨fl,0,none⟩)(hfl:Blk z₀ fl 66 cs0)(hb0:b0<=fl)(hg0:0 < b0)
   (hp:RN z₀ pv qa) (hE:qp z₀ a) (hc:RI z₀ csv (chs.map (Int.ofNat ·))) (hcA:∀ a0 n k,csv=.slice (some a0) n k->gr.A a0) (hs:∀ i (h:i < chs.length),chs[i] < 9223372036854775808) :
   Task gr z₀.heap.size N fl csv chs (fun c j=>(qba qa c (j:Nat)).getD c) (DZ z₀ fl b0 0 pv qa) (DZ z₀ fl b0 1 pv qa):=by
 have hlt:fl < z₀.heap.size:=hfl.lt;have n1:qg z₀ 3 (some fl):=qg.blk hfl (by decide);have n2:qg z₀ 24 (some fl):=qg.blk hfl (by decide);have n3:qg z₀ 81 (some fl):=qg.blk hfl (by decide);refine⟨fun c x o h=>?_,fun c x y e h=>h.heap e,fun c x r κ κ' b hr h hk=>?_,fun c x h=>?_,fun c x y e h=>h.heap e,fun c x h=>?_,fun c x h=>?_,fun c x j hj h d t=>?_,hA,?_,fun i hi=>?_,hs⟩
 . exact h.step (row:=none) (World.grownBy_alloc x o none) (fun r e=>by cases e) hlt (qg.none _ _) (qg.none _ _)
 . exact h.step (row:=some r) (qze (qag x (some r)) (.inr rfl) _ _ _ _ _ _) (fun r' e=>by cases e;exact hr) hlt (qg.kF hk) (qg.kF hk)
 . obtain⟨_,_,_,_,hB,_⟩:=h.floor;exact hB.cell 0
 . obtain⟨_,_,_,_,hB,_⟩:=h.floor;exact hB.cell 0
 . refine⟨?_,fun i h1 h2=>?_,h.floor.lock 0,h.fit⟩
   . rw [World.size_setCell];exact h.size
   . exact(Below.heap_setCell x ⟨fl,0,none⟩ _ i h2).trans (h.block i h1 h2)
 . have h1:DZ z₀ fl b0 1 pv qa c (x.setCell ⟨fl,0,none⟩ (.int .i32 1)):=by
     refine⟨?_,fun i h1 h2=>?_,h.floor.lock 1,h.fit⟩
     . rw [World.size_setCell];exact h.size
     . exact(Below.heap_setCell x ⟨fl,0,none⟩ _ i h2).trans (h.block i h1 h2)
   have h2:DZ z₀ fl b0 1 pv qa c (re ((x.setCell ⟨fl,0,none⟩ (.int .i32 1)).at d) t 0):=h1.heap (show (x.setCell ⟨fl,0,none⟩ (.int .i32 1)).heap=(re ((x.setCell ⟨fl,0,none⟩ (.int .i32 1)).at d) t 0).heap from rfl);generalize re ((x.setCell ⟨fl,0,none⟩ (.int .i32 1)).at d) t 0=W at h2
   have hpW:RN W pv qa:=by
     have k:RN { z₀ with heap:=W.heap } pv qa=RN W pv qa:=rfl;rw [<-k];exact hp.grown h2.gb n1 n3
   have hEW:qp W a:=by
     have k:qp { z₀ with heap:=W.heap } a=qp W a:=rfl;rw [<-k];unfold qp at hE |-;have hg:z₀.cell? ⟨0,0,none⟩=some _:=hE;refine(qmb h2.gb (qgo hg) (fun e=>?_)).trans hg;have e3:fl=0:=Option.some.inj e;omega
   refine wp_mono (qxd fl b0 j pv qa c a W h2.floor hb0 hpW hEW h.fit) fun e _ y hy=>?_;obtain⟨h3,h4,h5⟩:=hy;refine⟨h3,Nat.le_trans h2.size h5.size,fun i h6 h7=>(h5.block i (Nat.lt_of_lt_of_le h6 h2.size) (fun e=>h7 (Option.some.inj e))).trans (h2.block i h6 h7),h4,?_⟩;show ∀ d∈((qba qa c j).getD c).qb,d.length<=1048576;cases hR:qba qa c j with
   | none=>exact h.fit
   | some c'=>exact qud (qew hR).2.1
 . obtain⟨A,n,k,rfl,-⟩:=hc.form';have e:=hc.len;rw [List.length_map] at e;subst e;exact⟨A,k,rfl⟩
 . obtain⟨A,n,k,rfl,-⟩:=hc.form';have e:=hc.len;subst e;obtain⟨g,o,cur,rfl,hB,hcell⟩:=TS.at_ hc (by rw [List.length_map];omega);have hne:g≠fl:=hB.ne_ hfl (by decide);have hv:=hcell i (.int .i64 chs[i]) (by simp [hi]);refine⟨⟨g,o+i,none⟩,gr.up _ _ (hcA _ _ _ rfl) rfl (by simp),fun c x h=>?_,⟨g,o,none⟩,⟨k,by rw [List.length_map]⟩,Addr.add_lit ..⟩;have k2:=(qmb h.gb (qgo hv) (fun e=>hne (Option.some.inj e).symm)).trans hv;exact k2
end
section
open Go.RowKit
noncomputable def qc7:Code:=Tryz.f13.body.getD .skip
noncomputable def zR:Code:=match qc7 with | .seq x _=>x | _=>.skip
noncomputable def zS:Code:=match qc7 with | .seq _ (.seq x _)=>x | _=>.skip
noncomputable def zT:Code:=match qc7 with | .seq _ (.seq _ (.seq x _))=>x | _=>.skip
noncomputable def zU:Code:=match qc7 with | .seq _ (.seq _ (.seq _ (.seq x _)))=>x | _=>.skip
noncomputable def z8:Code:=match qc7 with | .seq _ (.seq _ (.seq _ (.seq _ (.seq _ (.seq x _)))))=>x | _=>.skip
structure HG(z x:World):Prop where
 size:z.heap.size<=x.heap.size
 block:∀ i,i < z.heap.size->x.heap[i]?=z.heap[i]?
section
variable {z x y:World}
theorem HG.of(g:z.grownBy x none):HG z x:=⟨g.size,fun i hi=>g.block i hi (by simp)⟩
theorem HG.gb(h:HG z x):z.grownBy { z with heap:=x.heap } none:=⟨rfl,rfl,rfl,h.size,fun i hi _=>h.block i hi⟩
theorem HG.trans(h:HG z x)(k:HG x y):HG z y:=⟨Nat.le_trans h.size k.size,fun i hi=>(k.block i (Nat.lt_of_lt_of_le hi h.size)).trans (h.block i hi)⟩
theorem HG.refl(z:World):HG z z:=⟨Nat.le_refl _,fun _ _=>rfl⟩
theorem HG.heap{x y:World}(h:HG z x)(e:x.heap=y.heap):HG z y:=⟨e ▸ h.size,fun i hi=>e ▸ h.block i hi⟩
theorem HG.rn(h:HG z x){v:Value}{l:List Node}(k:RN z v l):RN x v l:=by
 have e:RN { z with heap:=x.heap } v l=RN x v l:=rfl;rw [<-e];exact k.new h.gb
theorem HG.ri(h:HG z x){v:Value}{l:List Int}(k:RI z v l):RI x v l:=by
 have e:RI { z with heap:=x.heap } v l=RI x v l:=rfl;rw [<-e];exact k.new h.gb
theorem HG.err(h:HG z x){a:Addr}(k:qp z a):qp x a:=by
 have e:qp { z with heap:=x.heap } a=qp x a:=rfl;rw [<-e];exact k.new h.gb
theorem HG.kG(h:HG z x){b:Nat}{v:Value}{c:qj}(k:qY z b v c):qY x b v c:=by
 have e:qY { z with heap:=x.heap } b v c=qY x b v c:=rfl;rw [<-e];exact k.new h.gb
theorem HG.blk(h:HG z x){g:Nat}{t:TypeId}{cs:Array Value}(k:Blk z g t cs):Blk x g t cs:=(h.block g k.lt).trans k
end
def qfl:Array Value:=#[.slice none 0 0,.slice none 0 0,.slice none 0 0,.slice none 0 0]
def qas(pv nv cv:Value)(R X fl:Value)(x3 x4 x5 x7 x9 x11 x12 x13 x14 x15 x16 x17 x18 x19 x20 x21 x22 x23 x24 x25 x26 x27 x28 x29 x30 x31 x32:Value):Array Value:=
 #[pv,nv,cv,x3,x4,x5,R,x7,X,x9,fl,x11,x12,x13,x14,x15,x16,x17,x18,x19,x20,x21,x22,x23,x24,x25,x26,x27,x28,x29,x30,x31,x32]
structure HGB(R:Nat)(z x:World):Prop where
 size:z.heap.size<=x.heap.size
 block:∀ i,i < z.heap.size->i≠R->x.heap[i]?=z.heap[i]?
theorem HGB.hg{R:Nat}{z x y:World}(h:HG z x)(k:HGB R x y)(hR:z.heap.size<=R):HG z y:=⟨Nat.le_trans h.size k.size,fun i hi=>(k.block i (Nat.lt_of_lt_of_le hi h.size) (by omega)).trans (h.block i hi)⟩
theorem qcC{W:World}{R:Nat}{d0 k0 o0 r0 d k o r:Value}(h:Blk W R 29 #[d0,k0,o0,r0]) :
   HGB R W ((((W.setCell ⟨R,0,none⟩ d).setCell ⟨R,1,none⟩ k).setCell ⟨R,2,none⟩ o).setCell ⟨R,3,none⟩ r)/\Blk ((((W.setCell ⟨R,0,none⟩ d).setCell ⟨R,1,none⟩ k).setCell ⟨R,2,none⟩ o).setCell ⟨R,3,none⟩ r) R 29 #[d,k,o,r]:=by
 have g:=qdz W R d k o r;exact⟨⟨g.size,fun i hi hne=>g.block i hi (fun e=>hne (Option.some.inj e))⟩,(((h.qC 0 d).qC 1 k).qC 2 o).qC 3 r⟩
section
variable (pv cv:Value)(n:Int)(qa:List Node)(l:List Int)(W:World)
theorem q41:zR.wp Tryz.prog (fun e a x=>e=.normal/\HG W x/\Blk x W.heap.size 29 qfl /\
   a.tmps=qas pv (.int .i64 n) cv (.pointer (some ⟨W.heap.size,0,none⟩)) undef undef undef undef undef (.bool false) undef undef undef undef undef undef undef undef undef undef undef undef undef undef undef undef undef undef undef undef undef undef undef)
   ⟨qas pv (.int .i64 n) cv undef undef undef undef undef undef undef undef undef undef undef undef undef undef undef undef undef undef undef undef undef undef undef undef undef undef undef undef undef undef,[]⟩ W:=by
 have hR:=Blk.new W 29 qfl;have hg:=HG.of (World.grownBy_alloc W (.cells qfl 29) none);simp only [zR,qc7,Tryz.f13,Option.getD_some,qas,qfl] at hR hg |-;go_wp2_with fail
theorem q42(hp:RN W pv qa)(R:Nat):zS.wp Tryz.prog (fun e a x=>e=.normal/\HG W x/\∃ A1 n1 c1 A2 n2 c2 A3 n3 c3 A4 n4 c4 X x11 x12 x13 x14 x15 x16,W.heap.size<=X/\Blk x X 29 #[.slice A1 n1 c1,.slice A2 n2 c2,.slice A3 n3 c3,.slice A4 n4 c4] /\
     qY x W.heap.size (.agg #[.slice A1 n1 c1,.slice A2 n2 c2,.slice A3 n3 c3,.slice A4 n4 c4]) ((qbm qa n).getD qf7) /\
     a.tmps=qas pv (.int .i64 n) cv (.pointer (some ⟨R,0,none⟩)) (.pointer (some ⟨X,0,none⟩)) undef undef undef undef (.bool false) (.bool (qbm qa n).isSome) x11 x12 x13 x14 x15 x16 undef undef undef undef undef undef undef undef undef undef undef undef undef undef undef undef)
   ⟨qas pv (.int .i64 n) cv (.pointer (some ⟨R,0,none⟩)) undef undef undef undef undef (.bool false) undef undef undef undef undef undef undef undef undef undef undef undef undef undef undef undef undef undef undef undef undef undef undef,[]⟩ W:=by
 simp only [zS,qc7,Tryz.f13,Option.getD_some,qas];go_wp2_with fail;refine(qp4 _ qa n W hp).mono ?_;rintro e w1 ⟨v,rfl,hF,hg⟩;obtain⟨A1,n1,c1,A2,n2,c2,A3,n3,c3,A4,n4,c4,rfl⟩:=hF.form;have gX:=World.grownBy_alloc w1 (.cells #[.slice A1 n1 c1,.slice A2 n2 c2,.slice A3 n3 c3,.slice A4 n4 c4] 29) none;have hfin:=Lib.hid (show HG W _/\W.heap.size<=w1.heap.size/\Blk _ w1.heap.size 29 #[.slice A1 n1 c1,.slice A2 n2 c2,.slice A3 n3 c3,.slice A4 n4 c4]/\qY _ W.heap.size _ _ from⟨HG.of (qac hg gX),hg.size,Blk.new w1 _ _,hF.new gX⟩);clear gX hF hg;go_wp2_with fail;obtain⟨h1,h2,h3,h4⟩:=hfin.out;exact⟨h1,_,_,_,_,_,_,_,_,_,_,_,_,_,h2,h3,h4,rfl⟩
theorem q43(hl:RI W cv l)(ok:Bool)(R X:Nat)(hR:Blk W R 29 qfl)(x11 x12 x13 x14 x15 x16:Value):zT.wp Tryz.prog (fun e a x=>((ok && qb9 l)=true/\e=.normal/\x=W/\∃ x17 x18 x19 x20 x21 x22 x23 x24,a.tmps=qas pv (.int .i64 n) cv (.pointer (some ⟨R,0,none⟩)) (.pointer (some ⟨X,0,none⟩)) undef undef undef undef (.bool false) (.bool ok) x11 x12 x13 x14 x15 x16 x17 x18 x19 x20 x21 x22 x23 x24 undef undef undef undef undef undef undef undef) ∨
     ((ok && qb9 l)=false/\e=.ret/\HGB R W x/\Blk x R 29 qfl/\∃ x17 x18 x19 x20 x21 x22 x23 x24,a.tmps=qas pv (.int .i64 n) cv (.pointer (some ⟨R,0,none⟩)) (.pointer (some ⟨X,0,none⟩)) undef undef undef undef (.bool false) (.bool ok) x11 x12 x13 x14 x15 x16 x17 x18 x19 x20 x21 x22 x23 x24 undef undef undef undef undef undef undef undef))
   ⟨qas pv (.int .i64 n) cv (.pointer (some ⟨R,0,none⟩)) (.pointer (some ⟨X,0,none⟩)) undef undef undef undef (.bool false) (.bool ok) x11 x12 x13 x14 x15 x16 undef undef undef undef undef undef undef undef undef undef undef undef undef undef undef undef,[]⟩ W:=by
 have y0:=hR.cell 0;have y1:=hR.cell 1;have y2:=hR.cell 2;have y3:=hR.cell 3;have f0:=hR.frozen 0;have f1:=hR.frozen 1;have f2:=hR.frozen 2;have f3:=hR.frozen 3;have kH:=Lib.hid (qcC (d:=.slice none 0 0) (k:=.slice none 0 0) (o:=.slice none 0 0) (r:=.slice none 0 0) hR);obtain⟨b,hb⟩:∃ b,b=qb9 l:=⟨_,rfl⟩;rw [<-hb];have Hb:=Lib.hid hb;clear hb;simp only [qfl] at y0 y1 y2 y3;simp only [zT,qc7,Tryz.f13,Option.getD_some,qas];cases ok with
 | false=>
   go_wp2_with fail;exact kH.out
 | true=>
   go_wp2_with fail;refine(qrz cv l W hl).mono ?_;rintro e w1 ⟨rfl,rfl⟩;rw [<-Hb.out];cases b with
   | false=>
     go_wp2_with fail;exact kH.out
   | true=>
     go_wp2_with fail
theorem q44(P:Option Addr)(pn pc R X n1 c1 n2 c2 n3 c3 n4 c4:Nat)(A1 A2 A3 A4:Option Addr)(x9:Value)(x11 x12 x13 x14 x15 x16 x17 x18 x19 x20 x21 x22 x23 x24:Value)(hX:Blk W X 29 #[.slice A1 n1 c1,.slice A2 n2 c2,.slice A3 n3 c3,.slice A4 n4 c4]):zU.wp Tryz.prog (fun e a x=>e=.normal/\HG W x/\Blk x W.heap.size 66 #[.int .i32 0,.int .u32 0,.slice P pn pc,.slice A1 n1 c1,.slice A2 n2 c2,.slice A3 n3 c3,.slice A4 n4 c4] /\
     ∃ x25 x26 x27,a.tmps=qas (.slice P pn pc) (.int .i64 n) cv (.pointer (some ⟨R,0,none⟩)) (.pointer (some ⟨X,0,none⟩)) (.pointer (some ⟨W.heap.size,0,none⟩)) undef undef undef (.bool false) x9 x11 x12 x13 x14 x15 x16 x17 x18 x19 x20 x21 x22 x23 x24 x25 x26 x27 undef undef undef undef undef)
   ⟨qas (.slice P pn pc) (.int .i64 n) cv (.pointer (some ⟨R,0,none⟩)) (.pointer (some ⟨X,0,none⟩)) undef undef undef undef (.bool false) x9 x11 x12 x13 x14 x15 x16 x17 x18 x19 x20 x21 x22 x23 x24 undef undef undef undef undef undef undef undef,[]⟩ W:=by
 have y0:=hX.cell 0;have y1:=hX.cell 1;have y2:=hX.cell 2;have y3:=hX.cell 3;have hF:=Blk.new W 66 #[.int .i32 0,.int .u32 0,.slice P pn pc,.slice A1 n1 c1,.slice A2 n2 c2,.slice A3 n3 c3,.slice A4 n4 c4];have hg:=HG.of (World.grownBy_alloc W (.cells #[.int .i32 0,.int .u32 0,.slice P pn pc,.slice A1 n1 c1,.slice A2 n2 c2,.slice A3 n3 c3,.slice A4 n4 c4] 66) none);have hfin:=Lib.hid (And.intro hg hF);clear hg hF hX;simp only [zU,qc7,Tryz.f13,Option.getD_some,qas];go_wp2_with fail;exact hfin.out
theorem q45(R fl n1 c1 n2 c2 n3 c3 n4 c4:Nat)(A1 A2 A3 A4:Option Addr)(pv xX x9 lk lk2:Value)(x11 x12 x13 x14 x15 x16 x17 x18 x19 x20 x21 x22 x23 x24 x25 x26 x27 x28 x29 x30:Value)(hne:R≠fl)(hR:Blk W R 29 qfl)(hF:Blk W fl 66 #[lk,lk2,pv,.slice A1 n1 c1,.slice A2 n2 c2,.slice A3 n3 c3,.slice A4 n4 c4]) :
   z8.wp Tryz.prog (fun e a x=>e=.normal/\HGB R W x/\Blk x R 29 #[.slice A1 n1 c1,.slice A2 n2 c2,.slice A3 n3 c3,.slice A4 n4 c4] /\
     ∃ x31 x32,a.tmps=qas pv (.int .i64 n) cv (.pointer (some ⟨R,0,none⟩)) xX (.pointer (some ⟨fl,0,none⟩)) undef undef undef (.bool true) x9 x11 x12 x13 x14 x15 x16 x17 x18 x19 x20 x21 x22 x23 x24 x25 x26 x27 x28 x29 x30 x31 x32)
   ⟨qas pv (.int .i64 n) cv (.pointer (some ⟨R,0,none⟩)) xX (.pointer (some ⟨fl,0,none⟩)) undef undef undef (.bool false) x9 x11 x12 x13 x14 x15 x16 x17 x18 x19 x20 x21 x22 x23 x24 x25 x26 x27 x28 x29 x30 undef undef,[]⟩ W:=by
 have y0:=hF.cell 3;have y1:=hF.cell 4;have y2:=hF.cell 5;have y3:=hF.cell 6;have z0:=hR.cell 0;have z1:=hR.cell 1;have z2:=hR.cell 2;have z3:=hR.cell 3;have f0:=hR.frozen 0;have f1:=hR.frozen 1;have f2:=hR.frozen 2;have f3:=hR.frozen 3;have hfin:=Lib.hid (qcC (d:=.slice A1 n1 c1) (k:=.slice A2 n2 c2) (o:=.slice A3 n3 c3) (r:=.slice A4 n4 c4) hR);have vf:=hne.symm;simp only [qfl] at z0 z1 z2 z3;clear hF hR;simp only [z8,qc7,Tryz.f13,Option.getD_some,qas];go_wp2_with fail;exact hfin.out
end
end
section
section
variable (P:Program)(Fs Gs:Nat->Bool)(S:List String)
def q2r(t:TypeId):Bool:=match P.info? t with
 | none=>true
 | some i=>match i.zero with
   | none=>true
   | some v=>qfh 8 v
def q6y(t:TypeId):Bool:=match P.underlying t with
 | some (.slice e)=>q2r P e
 | _=>true
def qcD(t:TypeId):Bool:=match P.underlying t with
 | some (.map _ e)=>q2r P e
 | _=>true
def qaA(t:TypeId):Bool:=match P.underlying t with
 | some (.int _)=>true
 | _=>false
def q8f(t:TypeId):Bool:=match P.underlying t with
 | some .unsafePointer=>false
 | _=>true
def qje:Operand->Bool
 | .tmp _=>true
 | .const v=>qfh 8 v
 | .global g=>Gs g
 | .func f=>Fs f
def q8g(c:Call):Bool:=match c.callee with
 | .builtin .append=>match c.argTypes[0]? with
   | none=>true
   | some s=>q6y P s
 | .builtin .cap | .builtin .copy | .builtin .len | .builtin .min=>true
 | .builtin _=>false
 | .invoke _ name=>S.contains name
 | .value _=>true
def opB:Op->Bool
 | .move _ | .assign _ | .pick _ _ _ | .box _ _ | .load _ _ | .store _ _ _ | .nilCheck _ | .unOp _ _ _ | .makeInterface _ _ | .makeMap _ _ | .slice _ _ _ _ _ | .fieldAddr _ _ _
 | .field _ _ _ | .indexAddr _ _ _ | .index _ _ _ | .mapUpdate _ _ _ _ | .insert _ _ _ _ | .extract _ _ | .panic _=>true
 | .binOp _ t _ _ _=>q8f P t
 | .alloc t | .build t _=>q2r P t
 | .buildSlice t _ _ | .makeSlice t _ _=>q6y P t
 | .typeAssert _ _ a _=>q2r P a
 | .lookup t _ _ _=>qcD P t
 | .convert s d _=>qaA P s && qaA P d
 | .makeFunc fn _ _=>match fn with
   | .func f=>Fs f
   | _=>false
 | .call c=>q8g P S c
 | _=>false
def q2s(o:Oper):Bool:=opB P Fs S o.op && o.op.operands.all (qje Fs Gs)
def qev:Code->Bool
 | .region _ ops _=>ops.all (q2s P Fs Gs S)
 | .seq a b=>qev a && qev b
 | .cond _ a b=>qev a && qev b
 | .block _ c | .loop c | .scope c=>qev c
 | .rangeFunc _ _ _ _=>false
 | _=>true
def zK(Es:List Nat)(f:Nat):Bool:=match P.funcs[f]? with
 | none=>false
 | some fn=>!(fn.name == "runtime.NumGoroutine") && match fn.body with
   | some c=>qev P Fs Gs S c
   | none=>Es.contains f
def q85(t:TypeId):Bool:=match P.info? t with
 | none=>true
 | some i=>i.methods.all (fun m=>!(S.contains m.name) || match m.func with
   | some (f,_)=>Fs f
   | none=>true)
end
section
variable {C:Pen}{S:List String}{Fs Gs:Nat->Bool}
theorem qut{t:TypeId}(h:q2r C.P t=true):qlk C t:=fun i v hi hv=>by
 unfold q2r at h;rw [hi] at h;simp only [hv] at h;exact qqa 8 v h
theorem q0k{t:TypeId}(h:q6y C.P t=true):qgc C t:=fun e he=>by
 unfold q6y at h;rw [he] at h;exact qut h
theorem q8h{t:TypeId}(h:qcD C.P t=true):qqk C t:=fun k e he=>by
 unfold qcD at h;rw [he] at h;exact qut h
theorem q5d{t:TypeId}(h:qaA C.P t=true):∃ k,C.P.underlying t=some (.int k):=by
 unfold qaA at h;split at h
 . rename_i k hk;exact⟨k,hk⟩
 . cases h
theorem q6z{t:TypeId}(h:q8f C.P t=true):C.P.underlying t≠some .unsafePointer:=fun e=>by
 unfold q8f at h;rw [e] at h;cases h
theorem qzp(hF:∀ f,Fs f=true->C.F f)(hG:∀ g,Gs g=true->C.A ⟨g,0,none⟩){x:Operand}(h:qje Fs Gs x=true):qqm C (fun _=>False) x:=by
 cases x with
 | tmp t=>exact fun h=>h
 | const v=>exact qqa 8 v h
 | global g=>exact hG g h
 | func f=>exact hF f h
theorem q60{c:Call}(h:q8g C.P S c=true):qwk C S c:=by
 unfold q8g at h;unfold qwk;split at h <;> rename_i hc <;> rw [hc]
 . intro s hs;rw [hs] at h;exact q0k h
 . trivial
 . trivial
 . trivial
 . trivial
 . cases h
 . exact List.contains_iff_mem.1 h
 . trivial
theorem q86(hF:∀ f,Fs f=true->C.F f){o:Op}(h:opB C.P Fs S o=true):qaI C S o:=by
 cases o <;> first
   | trivial
   | exact q6z h
   | exact qut h
   | exact q0k h
   | exact q8h h
   | (simp only [opB,Bool.and_eq_true] at h;exact⟨q5d h.1,q5d h.2⟩)
   | exact q60 h
   | (rename_i fn _ _
      cases fn with
      | func f=>exact⟨f,rfl,hF f h⟩
      | _=>cases h)
   | cases h
theorem q61(hF:∀ f,Fs f=true->C.F f)(hG:∀ g,Gs g=true->C.A ⟨g,0,none⟩):∀ {c:Code},qev C.P Fs Gs S c=true->qe0 C S (fun _=>False) c:=by
 intro c
 induction c with
 | region id ops b=>
   intro h o ho;have:=Array.all_eq_true_iff_forall_mem.1 h o ho;simp only [q2s,Bool.and_eq_true] at this;exact⟨q86 hF this.1,fun x hx=>qzp hF hG (Array.all_eq_true_iff_forall_mem.1 this.2 x hx)⟩
 | seq a b iha ihb=>
   intro h;simp only [qev,Bool.and_eq_true] at h;exact⟨iha h.1,ihb h.2⟩
 | cond x a b iha ihb=>
   intro h;simp only [qev,Bool.and_eq_true] at h;exact⟨iha h.1,ihb h.2⟩
 | block id c ih=>exact fun h=>ih h
 | loop c ih=>exact fun h=>ih h
 | scope c ih=>exact fun h=>ih h
 | rangeFunc=>intro h;cases h
 | _=>intro _;trivial
end
end
end Go.Proofs.YtacemdoejblgaaaGreatDoor

/- Part 10. Conditions: each statement's. -/
import Derived.Test.YtacemdoejblgaaaGreatDoorM09
namespace Go.Proofs.YtacemdoejblgaaaGreatDoor
set_option maxHeartbeats 6400000
set_option maxRecDepth 100000
section
open Go.Conc
open Go.ConcN (sumTo upd sumTo_upd upd_ne upd_same sumTo_congr WgLive RW DWs WSit WD AtR0 PayAt cnt Vc Ssum Fsum)
open Go.ConcR (KK WgAt stA smA rd wr mk Payload)
def phi(n V:Nat):Tag->Nat
 | .cl l=>8 * n+8+l.length
 | .anch=>8 * V+6
 | .w1=>8 * V+5
 | .w2 vs=>8 * vs+4
 | .w3=>5
 | .blk=>5
 | .w4=>4
 | .ke=>3
 | .acq=>2
theorem phi_mono(n:Nat){v v':Nat}(h:v'<=v)(tag:Tag):phi n v' tag<=phi n v tag:=by
 cases tag <;> simp only [phi] <;> omega
def mu(n:Nat)(D:Nat->WD)(tag:Tag)(f0:Nat):Nat × Nat:=(phi n (Vc n D) tag+Ssum n D,f0+2 * Fsum n D)
def LtJ:Nat × Nat->Nat × Nat->Prop:=Prod.Lex (· < ·) (· < ·)
theorem yC:WellFounded LtJ:=(Prod.lex Nat.lt_wfRel Nat.lt_wfRel).wf
def zG(tag tag':Tag):Prop:=tag'=tag∨(tag=.blk/\tag'=.w3)
theorem phi_retag{n v:Nat}{tag tag':Tag}(e:zG tag tag'):phi n v tag'=phi n v tag:=by
 rcases e with rfl | ⟨rfl,rfl⟩ <;> rfl
theorem q1c{tag tag':Tag}(e:zG tag tag'):vv tag'=vv tag:=by
 rcases e with rfl | ⟨rfl,rfl⟩ <;> rfl
section
variable {n:Nat}{D D':Nat->WD}{tag tag':Tag}{st sm:Int}{i:Nat}
theorem q7.congr(h:∀ a,a < n->(D' a).stage=(D a).stage)(hm:q7 n D tag st sm):q7 n D' tag st sm:=by
 have hv:Vc n D'=Vc n D:=sumTo_congr fun a ha=>by simp only [cnt,h a ha]
 cases hm with
 | opn h1 h2 h3=>rw [<-hv];exact .opn h1 (fun a ha=>by rw [h a ha];exact h2 a ha) (fun vs e=>by rw [hv];exact h3 vs e)
 | reg h1 h2 h3=>rw [<-hv];exact .reg h1 (fun a ha=>by rw [h a ha];exact h2 a ha) (by rw [hv];exact h3)
 | last L h1 h2 h3 h4=>rw [<-h L h2];exact .last L h1 h2 (by rw [h L h2];exact h3) (fun a ha e=>by rw [h a ha];exact h4 a ha e)
 | sema h2=>exact .sema fun a ha=>by rw [h a ha];exact h2 a ha
 | fin h1 h2=>exact .fin h1 fun a ha=>by rw [h a ha];exact h2 a ha
theorem q7.retag(h:q7 n D tag st sm)(e:zG tag tag'):q7 n D tag' st sm:=by
 rcases e with rfl | ⟨rfl,rfl⟩
 . exact h
 . cases h with
   | opn h1 _ _=>exact h1.elim
   | reg _ h2 h3=>exact .reg trivial h2 h3
   | last L _ h2 h3 h4=>exact .last L trivial h2 h3 h4
   | fin h1 _=>exact h1.elim
theorem q7.same(hm:q7 n D tag st sm)(m' d':Nat):q7 n (upd D i ⟨(D i).stage,m',d'⟩) tag st sm:=
 hm.congr fun a _=>by
   by_cases e:a=i
   . subst e;rw [upd_same]
   . rw [upd_ne D _ e]
theorem qvl(x:WD)(hi:i < n):Vc n (upd D i x)+cnt (D i)=Vc n D+cnt x:=sumTo_upd D x cnt hi
theorem q7.counted(hm:q7 n D tag st sm)(hi:i < n)(h5:5<=(D i).stage){s':Nat}(hs:5<=s')(m' d':Nat):q7 n (upd D i ⟨s',m',d'⟩) tag st sm:=by
 have hv:Vc n (upd D i ⟨s',m',d'⟩)=Vc n D:=by
   have:=qvl (D:=D) (⟨s',m',d'⟩:WD) hi;have c1:cnt (D i)=1:=by simp [cnt,h5]
   have c2:cnt (⟨s',m',d'⟩:WD)=1:=by simp [cnt,hs]
   omega
 have ho:(∀ a,a < n->5<=(D a).stage∨(D a).stage=1)->∀ a,a < n->5<=(upd D i ⟨s',m',d'⟩ a).stage∨(upd D i ⟨s',m',d'⟩ a).stage=1:=fun h a ha=>by
   by_cases e:a=i
   . subst e;rw [upd_same];exact .inl hs
   . rw [upd_ne D _ e];exact h a ha
 cases hm with
 | opn h1 h2 h3=>rw [<-hv];exact .opn h1 (ho h2) (fun vs e=>by rw [hv];exact h3 vs e)
 | reg h1 h2 h3=>rw [<-hv];exact .reg h1 (ho h2) (by rw [hv];exact h3)
 | last L h1 h2 h3 h4=>
   by_cases e:i=L
   . subst e;omega
   . have:=h4 i hi e;omega
 | sema h2=>have:=h2 i hi;omega
 | fin h1 h2=>have:=h2 i hi;omega
theorem lower{s' m' d' f0 f':Nat}(hi:i < n)(htag:zG tag tag')(hf:f'<=f0+1)(hlt:(s' < (D i).stage/\cnt ⟨s',m',d'⟩<=cnt (D i))∨(s'=(D i).stage/\m' < (D i).fuel)) :
   LtJ (mu n (upd D i ⟨s',m',d'⟩) tag' f') (mu n D tag f0):=by
 have e1:=qvl (D:=D) (⟨s',m',d'⟩:WD) hi;have e2:=sumTo_upd D (⟨s',m',d'⟩:WD) WD.stage hi;have e3:=sumTo_upd D (⟨s',m',d'⟩:WD) WD.fuel hi;have a2:(sumTo n fun a=>WD.stage (upd D i ⟨s',m',d'⟩ a))=Ssum n (upd D i ⟨s',m',d'⟩):=rfl;have a3:(sumTo n fun a=>WD.stage (D a))=Ssum n D:=rfl;have a4:(sumTo n fun a=>WD.fuel (upd D i ⟨s',m',d'⟩ a))=Fsum n (upd D i ⟨s',m',d'⟩):=rfl;have a5:(sumTo n fun a=>WD.fuel (D a))=Fsum n D:=rfl;rw [a2,a3] at e2;rw [a4,a5] at e3;unfold mu LtJ;rw [phi_retag htag];rcases hlt with ⟨h1,h2⟩ | ⟨h1,h2⟩
 . refine Prod.Lex.left _ _ ?_;have:=phi_mono n (v':=Vc n (upd D i ⟨s',m',d'⟩)) (v:=Vc n D) (by omega) tag;simp only at e2;omega
 . have ec:cnt (⟨s',m',d'⟩:WD)=cnt (D i):=by simp only [cnt,h1]
   have ev:Vc n (upd D i ⟨s',m',d'⟩)=Vc n D:=by omega
   have es':Ssum n (upd D i ⟨s',m',d'⟩)=Ssum n D:=by simp only at e2;omega
   rw [ev,es'];refine Prod.Lex.right _ ?_;simp only at e3;omega
end
section
variable [Payload]{P:Program}{ty:TypeId}{Wg:Nat}{Bx:Nat->Prop}{Sh:Nat->Prop}{Fz:Loc->Prop}{AnchW Next:Goroutine->World->Prop}{n:Nat}{Wk:Nat->Prop}{cr:Nat->Hands}{p0:Nat}
 {D:Nat->WD} {tag:Tag} {f0 d0:Nat} {a:Goroutine} {st sm:Int} {gs:Array Goroutine} {w:World} {t:Trace}
theorem Join.rm(G:jE P ty Wg Bx Sh Fz n Wk cr){i:Nat}{w':World}(hrel:zF Wg (cr i).bx w w')(hsame:¬ Wk i->w'.heap=w.heap){st' sm':Int}(hwg':WgAt ty Wg w' st' sm'):RM ty Wg Bx w w':=
 ⟨hrel.tape,hrel.os,hrel.output,hrel.size,fun r h1 h2=>by
   by_cases hW:Wk i
   . exact hrel.block r h1 (fun e=>h2 (e ▸ G.bx i hW))
   . rw [hsame hW],fun _=>⟨_,_,hwg'⟩,fun r hr hp=>by
   by_cases e:r=(cr i).bx
   . subst e;exact hrel.pay hp
   . obtain⟨cs,h1,h2⟩:=hp;exact⟨cs,(hrel.block r (fun k=>G.noW (k ▸ hr)) e).trans h1,h2⟩⟩
theorem Join.others(J:Join P ty Wg Bx Sh Fz AnchW Next n Wk cr p0 D tag f0 d0 a st sm gs w t){i:Nat}{x x':Goroutine}(hi:i≠0)(hx:gs[i]?=some x){w':World}(hc:∀ j,Wk j->(D j).stage=9->w'.heap[(cr j).s.c]?=w.heap[(cr j).s.c]?) :
   ((gs.map (Go.Conc.woken P x x' w')).setIfInBounds i x').size=n/\((gs.map (Go.Conc.woken P x x' w')).setIfInBounds i x')[0]?=some (Go.Conc.woken P x x' w' a)/\((gs.map (Go.Conc.woken P x x' w')).setIfInBounds i x')[i]?=some x' /\
     ∀ j,j≠0->j≠i->((gs.map (Go.Conc.woken P x x' w')).setIfInBounds i x')[j]?=gs[j]?:=by
 have hsz:i < gs.size:=(Array.getElem?_eq_some_iff.1 hx).1;have vk:i < (gs.map (Go.Conc.woken P x x' w')).size:=by simpa using hsz
 refine⟨by simp [J.size],?_,by rw [qbn _ _ _ _ vk,if_pos rfl],fun j hj hji=>?_⟩
 . rw [qbn _ _ _ _ vk,if_neg hi,Array.getElem?_map,J.here];rfl
 . rw [qbn _ _ _ _ vk,if_neg (fun e=>hji e.symm),Array.getElem?_map];cases hy:gs[j]? with
   | none=>rfl
   | some y=>
     have h1:=(J.ja j y hj hy).1
     have:Go.Conc.woken P x x' w' y=y:=by
       unfold Go.Conc.woken;split
       . rcases h1.status with e | ⟨e,_⟩ | ⟨e,e'⟩
         . exact again_running _ (.inl e)
         . exact again_running _ (.inr e)
         . have hW:Wk j:=Classical.byContradiction (fun hn=>by have:=J.old j hn;omega);obtain⟨κ,hκ⟩:=J.open_ j hW e;rw [e'];exact again_parked_open (k:=rcase (cr j).s.c (cr j).s.z) (c:=(cr j).s.c) (s:=κ) (r:=κ) (tm:=false) rfl ((hc j hW e).trans hκ)
       . rfl
     show some (Go.Conc.woken P x x' w' y)=some y;rw [this]
theorem Join.go(G:jE P ty Wg Bx Sh Fz n Wk cr)(hA:∀ g w,AnchW g w->g.status=.running)(J:Join P ty Wg Bx Sh Fz AnchW Next n Wk cr p0 D tag f0 d0 a st sm gs w t){i:Nat}{x:Goroutine}(hi:i≠0)(hx:gs[i]?=some x)
   {x':Goroutine} {w':World} {es:Array Event} {s' m' d':Nat} {st' sm':Int} {sl:Option (Nat × Nat)} (hgo:stepG P false x w=.go x' w' es)
   (hrel:zF Wg (cr i).bx w w') (hsame:¬ Wk i∨8<=s'->w'.heap=w.heap) (hwg':WgAt ty Wg w' st' sm') (hs':jQ P ty Wg (cr i) s' m' d' x' w')
   (hlt:(s' < (D i).stage/\cnt ⟨s',m',d'⟩<=cnt (D i))∨(s'=(D i).stage/\m' < (D i).fuel)) (h9:s'=9↔(D i).stage=9)
   (hh:jq Sh Fz (StJ Wk cr D) (LfJ Wk) 0 w.heap.size (t++MemOp.ofEvents i x.frame.fn x.frame.place es)) (hn:∀ e,e∈es->e.loc≠.mark (.release (stA Wg)))
   (hok:Wk i->s'<=6->jA (stA Wg) p0 (t++MemOp.ofEvents i x.frame.fn x.frame.place es) i) (hdf:deafBehind (D i).deaf es=d')
   (hmode:∀ tag',zG tag tag'->(mayWake P x=true->x'.status≠.blocked->x'.status≠.waiting->tag'≠.blk)->q7 n (upd D i ⟨s',m',d'⟩) tag' st' sm') :
   ∃ gs' ops tag' f' a',runT P (crowd gs w sl) i=(.next (crowd gs' w' sl),ops)/\Join P ty Wg Bx Sh Fz AnchW Next n Wk cr p0 (upd D i ⟨s',m',d'⟩) tag' f' d0 a' st' sm' gs' w' (t++ops)/\LtJ (mu n (upd D i ⟨s',m',d'⟩) tag' f') (mu n D tag f0):=by
 have hi0:(i == 0)=false:=by simp [hi]
 have hrun:=runT_crowd_go (P:=P) (sl:=sl) (i:=i) hx (by rw [hi0];exact hgo)
 have hcc:∀ j,Wk j->(D j).stage=9->w'.heap[(cr j).s.c]?=w.heap[(cr j).s.c]?:=fun j hj _=>by
   by_cases hW:Wk i
   . exact hrel.block _ (G.cW j hj) (G.cB j i hj hW)
   . rw [hsame (.inl hW)]
 obtain⟨o1,o2,o3,o4⟩:=J.others (x':=x') hi hx hcc;obtain⟨tag',f',h1,h2,h3⟩:=(J.main.rely (Join.rm G hrel (fun h=>hsame (.inl h)) hwg')).woken hA x x';have htag:zG tag tag':=h1.imp (fun y=>y.1) (fun y=>⟨y.1,y.2.1⟩)
 have hnr:∀ op∈MemOp.ofEvents i x.frame.fn x.frame.place es,op.act≠.mark (.release (stA Wg)):=fun op hop=>by
   obtain⟨e,he,rfl⟩:=Go.Conc.mem_ofEvents hop;intro e0;have:=hn e he;obtain⟨loc,wr,sy⟩:=e;cases loc with
   | mark m=>cases e0;exact this rfl
   | obj c=>cases wr <;> cases sy <;> cases e0
   | _=>cases wr <;> cases sy <;> cases e0
 refine⟨_,_,tag',f',Go.Conc.woken P x x' w' a,hrun,?_,lower (J.lt hx) htag (by rcases h1 with ⟨_,e⟩ | ⟨_,_,e,_⟩ <;> omega) hlt⟩;have hle:s'<=(D i).stage:=by rcases hlt with h | h <;> omega
 exact J.step G hi hx hrel hsame hwg' hs' hle h9 qcr hh hnr hok (by rw [Deaf_own,(J.ja i x hi hx).2];exact hdf) h2 (q1c htag) (hmode tag' htag h3) o1 o2 o3 o4
end
end
section
open Go.Conc
open Go.ConcN (sumTo upd sumTo_upd upd_ne upd_same sumTo_congr le_sumTo WgLive RW DWs WSit WD AtR0 PayAt cnt Vc Ssum Fsum ShN)
open Go.ConcR (KK WgAt stA smA rd wr mk Payload)
theorem zF.refl[Payload](Wg b:Nat)(w:World):zF Wg b w w:=⟨rfl,rfl,rfl,rfl,fun _ _ _=>rfl,id⟩
theorem zF.of[Payload]{Wg b:Nat}{w w':World}(h:Aside Wg w w')(hb:b≠Wg):zF Wg b w w':=⟨h.tape,h.os,h.output,h.size,fun r h1 _=>h.block r h1,fun ⟨cs,h1,h2⟩=>⟨cs,(h.block b hb).trans h1,h2⟩⟩
theorem q8q(n:Nat)(D:Nat->WD):Vc n D<=n:=Go.ConcN.Vc_le n D
theorem qx7{k:Touch.Kind}(h1:k≠.plain)(h2:k≠.said):k=.atomic:=by cases k <;> first | rfl | exact absurd rfl h1 | exact absurd rfl h2
section
variable {Sh:Nat->Prop}{Fz:Loc->Prop}{t:Trace}
theorem q5x{St:Nat->Loc->Prop}{Lf:Nat->Prop}{B i Wg:Nat}(H:jq Sh Fz St Lf 0 B t)(hL:¬ Lf i)(hS:Sh Wg)(hB:Wg < B){es:Array Event}(he:∀ e∈es,Go.ConcN.EvW Wg qk7 qk7 1 e)(fn:FuncId)(pos:String) :
   jq Sh Fz St Lf 0 B (t++MemOp.ofEvents i fn pos es):=by
 have key:∀ op∈MemOp.ofEvents i fn pos es,∀ x,op.act.touch?=some x->(∃ b:Addr,x.loc=.cell b/\b.block=Wg)/\x.kind=.atomic:=fun op hop x hx=>by
   obtain⟨e,hee,rfl⟩:=Go.Conc.mem_ofEvents hop;rcases ((he e hee).1 fn pos).2 x hx with ⟨⟨b,h1,h2⟩,h3,h4⟩ | h1 | ⟨h1,_⟩
   . exact⟨⟨b,h1,h2⟩,qx7 h3 h4⟩
   . exact h1.elim
   . exact h1.elim
 refine H.atomic hL qcr (fun op hop x hx=>?_) (fun op hop x hx=>?_)
 . obtain⟨⟨b,h1,h2⟩,h3⟩:=key op hop x hx;rw [h1];exact⟨show Sh b.block from h2 ▸ hS,h3⟩
 . obtain⟨⟨b,h1,h2⟩,_⟩:=key op hop x hx;rw [h1];show b.block < B;rw [h2];exact hB
theorem q3d{St:Nat->Loc->Prop}{Lf:Nat->Prop}{B i Wg:Nat}(H:jq Sh Fz St Lf 0 B t)(hL:¬ Lf i)(hS:Sh Wg)(hB:Wg < B){es:Array Event}(he:∀ e,e∈es->∀ x,(MemAct.ofEvent e).touch?=some x->(∃ b:Addr,x.loc=.cell b/\b.block=Wg)/\x.kind=.atomic)(fn:FuncId)(pos:String) :
   jq Sh Fz St Lf 0 B (t++MemOp.ofEvents i fn pos es):=by
 refine H.atomic hL qcr (fun op hop x hx=>?_) (fun op hop x hx=>?_)
 . obtain⟨e,hee,rfl⟩:=Go.Conc.mem_ofEvents hop;obtain⟨⟨b,h1,h2⟩,h3⟩:=he e hee x hx;rw [h1];exact⟨show Sh b.block from h2 ▸ hS,h3⟩
 . obtain⟨e,hee,rfl⟩:=Go.Conc.mem_ofEvents hop;obtain⟨⟨b,h1,h2⟩,_⟩:=he e hee x hx;rw [h1];show b.block < B;rw [h2];exact hB
theorem qvm{St:Nat->Loc->Prop}{Lf:Nat->Prop}{B i:Nat}(H:jq Sh Fz St Lf 0 B t){es:Array Event}(he:∀ e,e∈es->∃ m,e.loc=.mark m/\(∀ b,m≠.read b/\m≠.write b))(fn:FuncId)(pos:String) :
   jq Sh Fz St Lf 0 B (t++MemOp.ofEvents i fn pos es)/\∀ op∈MemOp.ofEvents i fn pos es,op.act.touch?=none:=by
 have key:∀ op∈MemOp.ofEvents i fn pos es,op.act.touch?=none:=fun op hop=>by
   obtain⟨e,hee,rfl⟩:=Go.Conc.mem_ofEvents hop;obtain⟨m,h1,h2⟩:=he e hee;obtain⟨l,x1,x2⟩:=e;cases h1;cases m with
   | read b=>exact absurd rfl (h2 b).1
   | write b=>exact absurd rfl (h2 b).2
   | _=>rfl
 exact⟨H.mute key,key⟩
end
section
variable {P:Program}{w:World}
theorem qc9{main:Bool}{R:World->World->Prop}{Dd:World->World->Array Event->Prop}{Stop:Goroutine->World->Prop}{m:Nat}{g:Goroutine}(hR:R w w)(h:Goes P main R Dd Stop m g w) :
   Stop g w∨∃ m',m=m'+1/\∃ g' w' es,stepG P main g w=.go g' w' es/\Dd w w' es/\Goes P main R Dd Stop m' g' w':=by
 cases m with
 | zero=>exact .inl (h w hR)
 | succ m=>
   rcases h with h | ⟨_,h⟩
   . exact .inl (h w hR)
   . obtain⟨g',w',es,h1,h2,h3⟩:=goes_elim (h w hR);exact .inr ⟨m,rfl,g',w',es,h1,h2,h3⟩
end
section
variable [Payload]{P:Program}{ty:TypeId}{Wg:Nat}{Bx:Nat->Prop}{Sh:Nat->Prop}{Fz:Loc->Prop}{AnchW Next:Goroutine->World->Prop}{n:Nat}{Wk:Nat->Prop}{cr:Nat->Hands}{p0:Nat}
 {D:Nat->WD} {tag:Tag} {f0 d0:Nat} {a:Goroutine} {st sm:Int} {gs:Array Goroutine} {w:World} {t:Trace}
def qmm[Payload](P:Program)(ty:TypeId)(Wg:Nat)(Bx:Nat->Prop)(Sh:Nat->Prop)(Fz:Loc->Prop)(AnchW Next:Goroutine->World->Prop)(n:Nat)(Wk:Nat->Prop)(cr:Nat->Hands)(p0:Nat)
   (D:Nat->WD) (tag:Tag) (f0 d0:Nat) (gs:Array Goroutine) (w:World) (t:Trace) (sl:Option (Nat × Nat)) (i:Nat):Prop:=
 ∃ gs' w' ops D' tag' f' a' st' sm',runT P (crowd gs w sl) i=(.next (crowd gs' w' sl),ops)/\Join P ty Wg Bx Sh Fz AnchW Next n Wk cr p0 D' tag' f' d0 a' st' sm' gs' w' (t++ops)/\LtJ (mu n D' tag' f') (mu n D tag f0)
theorem Join.quit(G:jE P ty Wg Bx Sh Fz n Wk cr)(hA:∀ g w,AnchW g w->g.status=.running)(J:Join P ty Wg Bx Sh Fz AnchW Next n Wk cr p0 D tag f0 d0 a st sm gs w t){i:Nat}{x:Goroutine}(hi:i≠0)(hx:gs[i]?=some x)(hr:x.status=.running)
   (hs:(D i).stage=1) (sl:Option (Nat × Nat)):qmm P ty Wg Bx Sh Fz AnchW Next n Wk cr p0 D tag f0 d0 gs w t sl i:=by
 obtain⟨hJ,hd⟩:=J.ja i x hi hx;have hW:=hJ.low (by omega);rw [hs] at hW;cases hW with
 | quit hq=>
   cases hf:(D i).fuel with
   | zero=>rw [hf] at hq;rw [hq.1] at hr;cases hr
   | succ m=>
     rw [hf] at hq;rcases hq with ⟨h1,_⟩ | ⟨_,x',es,hm,hst,hq'⟩
     . rw [h1] at hr;cases hr
     . have hmt:∀ op∈MemOp.ofEvents i x.frame.fn x.frame.place es,op.act.touch?=none:=fun op hop=>by obtain⟨e,he,rfl⟩:=Go.Conc.mem_ofEvents hop;exact touch_mute (hm e he)
       obtain⟨gs',ops,tag',f',a',h1,h2,h3⟩:=J.go G hA hi hx (sl:=sl) (s':=1) (m':=m) (hst w) (zF.refl _ _ w) (fun _=>rfl) J.wg (.of (.quit hq')) (.inr ⟨hs.symm,by omega⟩) (by rw [hs])
         (J.tr.jr.mute hmt) (fun e he e0=>by have:=hm e he;obtain⟨l,x1,x2⟩:=e;cases e0;cases this) (fun hw _=>(J.tr.rel i hw (by omega)).other (fun op hop _=>hmt op hop)) rfl
         (fun tag' ht _=>(by have:=(J.mode.same (i:=i) m (deafBehind (D i).deaf es)).retag ht;rw [hs] at this;exact this))
       exact⟨gs',w,ops,_,tag',f',a',_,_,h1,h2,h3⟩
theorem Join.xa(J:Join P ty Wg Bx Sh Fz AnchW Next n Wk cr p0 D tag f0 d0 a st sm gs w t){i:Nat}(h:(D i).stage≠1):Wk i:=Classical.byContradiction (fun hn=>h (J.old i hn))
theorem Join.wlt(J:Join P ty Wg Bx Sh Fz AnchW Next n Wk cr p0 D tag f0 d0 a st sm gs w t):Wg < w.heap.size:=(Array.getElem?_eq_some_iff.1 J.wg).1
theorem Join.rel(G:jE P ty Wg Bx Sh Fz n Wk cr)(hA:∀ g w,AnchW g w->g.status=.running)(J:Join P ty Wg Bx Sh Fz AnchW Next n Wk cr p0 D tag f0 d0 a st sm gs w t){i:Nat}{x:Goroutine}(hi:i≠0)(hx:gs[i]?=some x)
   (hs:(D i).stage=7) (sl:Option (Nat × Nat)):qmm P ty Wg Bx Sh Fz AnchW Next n Wk cr p0 D tag f0 d0 gs w t sl i:=by
 obtain⟨hJ,hd⟩:=J.ja i x hi hx;have hWk:=J.xa (i:=i) (by omega);have hL:¬ LfJ Wk i:=fun h=>h.2 hWk;have hW:=hJ.low (by omega);rw [hs] at hW;generalize hdd:(D i).deaf=dd at hW;cases hW with
 | r0 hg=>
   rcases qc9 (RW.refl w) hg with hst | ⟨m',hm,g',w',es,hgo,⟨hcell,hev⟩,hg'⟩
   . obtain⟨_,_,g',hgo,m',hg'⟩:=hst;obtain⟨hh,_⟩:=qvm (i:=i) J.tr.jr (es:=#[Go.ConcR.mk (Mark.releaseMerge (stA Wg))]) (fun e he=>⟨.releaseMerge (stA Wg),by rw [Array.mem_singleton] at he;rw [he];rfl,fun b=>⟨by simp,by simp⟩⟩) x.frame.fn x.frame.place
     obtain⟨gs',ops,tag',f',a',h1,h2,h3⟩:=J.go G hA hi hx (sl:=sl) (s':=6) (m':=m') (d':=0) hgo (zF.refl _ _ w) (fun _=>rfl) J.wg (.of (.k1 hg')) (.inl ⟨by omega,by simp [cnt,hs]⟩) (by rw [hs];omega) hh
       (fun e he e0=>by rw [Array.mem_singleton] at he;rw [he] at e0;cases e0) (fun _ _=>by
         have:MemOp.ofEvents i x.frame.fn x.frame.place #[Go.ConcR.mk (Mark.releaseMerge (stA Wg))]=#[{ g:=i,fn:=x.frame.fn,pos:=x.frame.place,act:=.mark (.releaseMerge (stA Wg)) }]:=by simp [MemOp.ofEvents,Go.ConcR.mk,MemAct.ofEvent]
         rw [this];exact jA.new J.tr.start rfl rfl (by rw [hd,hdd])) (by rw [hdd];rfl) (fun tag' ht _=>(J.mode.counted (J.lt hx) (by omega) (s':=6) (by omega) m' 0).retag ht)
     exact⟨gs',w,ops,_,tag',f',a',_,_,h1,h2,h3⟩
   . have hwg':WgAt ty Wg w' st sm:=(hcell.block Wg (fun e=>G.bxW i hWk e.symm)).trans J.wg
     obtain⟨gs',ops,tag',f',a',h1,h2,h3⟩:=J.go G hA hi hx (sl:=sl) (s':=7) (m':=m') (d':=0) hgo ⟨hcell.tape,hcell.os,hcell.output,hcell.size,fun r _ h=>hcell.block r h,hcell.pay⟩ (fun h=>h.elim (fun y=>absurd hWk y) (fun y=>by omega)) hwg' (.of (.r0 hg')) (.inr ⟨hs.symm,by omega⟩) (by rw [hs])
       (q5x J.tr.jr hL G.zW J.wlt hev _ _) (fun e he=>(hev e he).2.2.2) (fun _ h=>by omega) (by rw [hdd];exact deafBehind_still (fun e he=>⟨(hev e he).2.1,(hev e he).2.2.1⟩) 0)
       (fun tag' ht _=>by have:=(J.mode.same (i:=i) m' 0).retag ht;rw [hs] at this;exact this)
     exact⟨gs',w',ops,_,tag',f',a',_,_,h1,h2,h3⟩
theorem Join.idle(G:jE P ty Wg Bx Sh Fz n Wk cr)(hA:∀ g w,AnchW g w->g.status=.running)(J:Join P ty Wg Bx Sh Fz AnchW Next n Wk cr p0 D tag f0 d0 a st sm gs w t){i:Nat}{x x':Goroutine}(hi:i≠0)(hx:gs[i]?=some x)
   {m':Nat} (hgo:stepG P false x w=.go x' w #[]) (hs':jQ P ty Wg (cr i) (D i).stage m' (D i).deaf x' w) (hlt:m' < (D i).fuel) (sl:Option (Nat × Nat)):qmm P ty Wg Bx Sh Fz AnchW Next n Wk cr p0 D tag f0 d0 gs w t sl i:=by
 have hnil:MemOp.ofEvents i x.frame.fn x.frame.place #[]=#[]:=by simp [MemOp.ofEvents]
 have hb:t++MemOp.ofEvents i x.frame.fn x.frame.place #[]=t:=by rw [hnil];simp
 obtain⟨gs',ops,tag',f',a',h1,h2,h3⟩:=J.go G hA hi hx (sl:=sl) (s':=(D i).stage) (m':=m') (d':=(D i).deaf) hgo (zF.refl _ _ w) (fun _=>rfl) J.wg hs' (.inr ⟨rfl,hlt⟩) Iff.rfl
   (by rw [hb];exact J.tr.jr) (fun e he=>by simp at he) (fun hW h=>by rw [hb];exact J.tr.rel i hW h) rfl (fun tag' ht _=>(J.mode.same (i:=i) m' (D i).deaf).retag ht)
 exact⟨gs',w,ops,_,tag',f',a',_,_,h1,h2,h3⟩
theorem Join.dis(G:jE P ty Wg Bx Sh Fz n Wk cr)(hA:∀ g w,AnchW g w->g.status=.running)(J:Join P ty Wg Bx Sh Fz AnchW Next n Wk cr p0 D tag f0 d0 a st sm gs w t){i:Nat}{x:Goroutine}(hi:i≠0)(hx:gs[i]?=some x)
   (hs:(D i).stage=6) (sl:Option (Nat × Nat)):qmm P ty Wg Bx Sh Fz AnchW Next n Wk cr p0 D tag f0 d0 gs w t sl i:=by
 obtain⟨hJ,hd⟩:=J.ja i x hi hx;have hW:=hJ.low (by omega);rw [hs] at hW;generalize hdd:(D i).deaf=dd at hW;cases hW with
 | k1 hg=>
   rcases qc9 (RW.refl w) hg with hst | ⟨m',hm,g',w',es,hgo,⟨rfl,rfl⟩,hg'⟩
   . obtain⟨_,g',hgo,m',hg'⟩:=hst;obtain⟨hh,hm⟩:=qvm (i:=i) J.tr.jr (es:=#[Go.ConcR.mk .disable]) (fun e he=>⟨.disable,by rw [Array.mem_singleton] at he;rw [he];rfl,fun b=>⟨by simp,by simp⟩⟩) x.frame.fn x.frame.place
     obtain⟨gs',ops,tag',f',a',h1,h2,h3⟩:=J.go G hA hi hx (sl:=sl) (s':=5) (m':=m') (d':=1) hgo (zF.refl _ _ w) (fun _=>rfl) J.wg (.of (.d1 hg')) (.inl ⟨by omega,by simp [cnt,hs]⟩) (by rw [hs];omega) hh
       (fun e he e0=>by rw [Array.mem_singleton] at he;rw [he] at e0;cases e0) (fun hw _=>(J.tr.rel i hw (by omega)).other (fun op hop _=>hm op hop)) (by rw [hdd];rfl)
       (fun tag' ht _=>(J.mode.counted (J.lt hx) (by omega) (s':=5) (by omega) m' 1).retag ht)
     exact⟨gs',w,ops,_,tag',f',a',_,_,h1,h2,h3⟩
   . exact J.idle G hA hi hx hgo (by rw [hs,hdd];exact .of (.k1 hg')) (by omega) sl
end
end
section
open Go.Conc
open Go.ConcN (sumTo upd sumTo_upd upd_ne upd_same sumTo_congr le_sumTo WgLive RW DWs WSit WD AtR0 PayAt cnt Vc Ssum Fsum ShN)
open Go.ConcR (KK WgAt stA smA rd wr Payload)
theorem q7m(a:Addr)(Wg:Nat)(h:a.block=Wg):∀ x,(MemAct.ofEvent (rd a)).touch?=some x->(∃ b:Addr,x.loc=.cell b/\b.block=Wg)/\x.kind=.atomic:=fun x hx=>by
 cases hx;exact⟨⟨a,rfl,h⟩,rfl⟩
theorem q7n(a:Addr)(Wg:Nat)(h:a.block=Wg):∀ x,(MemAct.ofEvent (wr a)).touch?=some x->(∃ b:Addr,x.loc=.cell b/\b.block=Wg)/\x.kind=.atomic:=fun x hx=>by
 cases hx;exact⟨⟨a,rfl,h⟩,rfl⟩
structure Book(Wg:Nat)(es:Array Event):Prop where
 touch:∀ e,e∈es->∀ x,(MemAct.ofEvent e).touch?=some x->(∃ b:Addr,x.loc=.cell b/\b.block=Wg)/\x.kind=.atomic
 last:∀ (j:Nat) (e:Event),es[j]?=some e->(MemAct.ofEvent e).touch?≠none->∀ (j':Nat),j' < j->∀ (e':Event),es[j']?=some e'->MemAct.ofEvent e'≠.mark .enable
 norel:∀ e,e∈es->e.loc≠.mark (.release (stA Wg))
theorem qps(Wg:Nat):Book Wg #[rd (stA Wg)]:=by
 refine⟨fun e he=>?_,fun j e hj _ j' hlt e' he'=>?_,fun e he=>?_⟩
 . rw [Array.mem_singleton] at he;rw [he];exact q7m _ _ rfl
 . have:=(Array.getElem?_eq_some_iff.1 hj).1;simp at this;omega
 . rw [Array.mem_singleton] at he;rw [he];simp [rd]
theorem q7o(Wg:Nat):Book Wg #[wr (stA Wg)]:=by
 refine⟨fun e he=>?_,fun j e hj _ j' hlt e' he'=>?_,fun e he=>?_⟩
 . rw [Array.mem_singleton] at he;rw [he];exact q7n _ _ rfl
 . have:=(Array.getElem?_eq_some_iff.1 hj).1;simp at this;omega
 . rw [Array.mem_singleton] at he;rw [he];simp [wr]
theorem qk3(Wg:Nat):Book Wg #[rd (stA Wg),wr (stA Wg)]:=by
 refine⟨fun e he=>?_,fun j e hj _ j' hlt e' he'=>?_,fun e he=>?_⟩
 . have:e=rd (stA Wg)∨e=wr (stA Wg):=by simpa using he
   rcases this with rfl | rfl
   . exact q7m _ _ rfl
   . exact q7n _ _ rfl
 . have:=(Array.getElem?_eq_some_iff.1 hj).1;simp at this;obtain rfl:j'=0:=by omega
   cases he';exact fun h=>by cases h
 . have:e=rd (stA Wg)∨e=wr (stA Wg):=by simpa using he
   rcases this with rfl | rfl <;> simp [rd,wr]
theorem qzx(Wg:Nat):Book Wg (semEvents (smA Wg)):=by
 have four:∀ e,e∈semEvents (smA Wg)->e=⟨.mark .disable,false,true⟩∨e=rd (smA Wg)∨e=wr (smA Wg)∨e=⟨.mark .enable,false,true⟩:=fun e he=>by
   simpa [semEvents,rd,wr] using he
 refine⟨fun e he=>?_,fun j e hj ht j' hlt e' he'=>?_,fun e he=>?_⟩
 . rcases four e he with rfl | rfl | rfl | rfl
   . intro x hx;cases hx
   . exact q7m _ _ rfl
   . exact q7n _ _ rfl
   . intro x hx;cases hx
 . have hsz:=(Array.getElem?_eq_some_iff.1 hj).1;simp [semEvents] at hsz
   match j,hsz with
   | 0,_=>omega
   | 1,_=>
     obtain rfl:j'=0:=by omega
     cases he';exact fun h=>by cases h
   | 2,_=>
     match j',hlt with
     | 0,_=>cases he';exact fun h=>by cases h
     | 1,_=>cases he';exact fun h=>by cases h
   | 3,_=>cases hj;exact absurd rfl ht
 . rcases four e he with rfl | rfl | rfl | rfl <;> simp [rd,wr]
theorem uncounted{n:Nat}{D:Nat->WD}{i:Nat}(hi:i < n)(h1:Vc n D=1)(hc:cnt (D i)=1):∀ a,a < n->a≠i->cnt (D a)=0:=by
 intro a ha e;have h0:=qvl (D:=D) (⟨0,0,0⟩:WD) hi;have c0:cnt (⟨0,0,0⟩:WD)=0:=rfl;have:=le_sumTo (f:=fun x=>cnt (upd D i ⟨0,0,0⟩ x)) ha;simp only [upd_ne D _ e] at this;simp only [Vc] at h0 h1;omega
theorem q7.isLast{n:Nat}{D:Nat->WD}{tag:Tag}{st sm:Int}{i:Nat}(hm:q7 n D tag st sm)(hi:i < n)(h:(D i).stage=4∨(D i).stage=3∨(D i).stage=2) :
   isW tag/\(∀ a,a < n->a≠i->(D a).stage=1)/\st=(if (D i).stage=2 then 0 else 1)/\sm=0:=by
 cases hm with
 | opn _ h2 _=>have:=h2 i hi;omega
 | reg _ h2 _=>have:=h2 i hi;omega
 | last L h1 h2 h3 h4=>
   by_cases e:i=L
   . subst e;exact⟨h1,h4,rfl,rfl⟩
   . have:=h4 i hi e;omega
 | sema h2=>have:=h2 i hi;omega
 | fin _ h2=>have:=h2 i hi;omega
theorem q7.zN{n:Nat}{D:Nat->WD}{tag:Tag}{i:Nat}(hw:isW tag)(hi:i < n)(ho:∀ a,a < n->a≠i->(D a).stage=1){s' m' d':Nat}(hs:s'=3∨s'=2):q7 n (upd D i ⟨s',m',d'⟩) tag (if s'=2 then 0 else 1) 0:=by
 have key:q7 n (upd D i ⟨s',m',d'⟩) tag (if (upd D i ⟨s',m',d'⟩ i).stage=2 then 0 else 1) 0:=.last i hw hi (by rw [upd_same];exact hs.elim (fun h=>.inr (.inl h)) (fun h=>.inr (.inr h))) (fun a ha e=>by rw [upd_ne D _ e];exact ho a ha e);rw [upd_same] at key;exact key
section
variable [Payload]{P:Program}{ty:TypeId}{Wg:Nat}{Bx:Nat->Prop}{Sh:Nat->Prop}{Fz:Loc->Prop}{AnchW Next:Goroutine->World->Prop}{n:Nat}{Wk:Nat->Prop}{cr:Nat->Hands}{p0:Nat}
 {D:Nat->WD} {tag:Tag} {f0 d0:Nat} {a:Goroutine} {st sm:Int} {gs:Array Goroutine} {w:World} {t:Trace}
theorem Join.book(G:jE P ty Wg Bx Sh Fz n Wk cr)(hA:∀ g w,AnchW g w->g.status=.running)(J:Join P ty Wg Bx Sh Fz AnchW Next n Wk cr p0 D tag f0 d0 a st sm gs w t){i:Nat}{x:Goroutine}(hi:i≠0)(hx:gs[i]?=some x)
   (hs:2<=(D i).stage/\(D i).stage<=5) (hd:(D i).deaf=1) {x':Goroutine} {w':World} {es:Array Event} {s' m' d':Nat} {st' sm':Int} (hgo:stepG P false x w=.go x' w' es) (hw:Aside Wg w w') (hwg':WgAt ty Wg w' st' sm')
   (hb:Book Wg es) (hs':jQ P ty Wg (cr i) s' m' d' x' w') (hlt:s' < (D i).stage) (hdf:deafBehind 1 es=d')
   (hmode:∀ tag',zG tag tag'->(mayWake P x=true->x'.status≠.blocked->x'.status≠.waiting->tag'≠.blk)->q7 n (upd D i ⟨s',m',d'⟩) tag' st' sm') (sl:Option (Nat × Nat)) :
   qmm P ty Wg Bx Sh Fz AnchW Next n Wk cr p0 D tag f0 d0 gs w t sl i:=by
 have hWk:=J.xa (i:=i) (by omega);have hL:¬ LfJ Wk i:=fun h=>h.2 hWk;have hdt:Deaf t i=1:=(J.ja i x hi hx).2.trans hd
 obtain⟨gs',ops,tag',f',a',h1,h2,h3⟩:=J.go G hA hi hx (sl:=sl) (s':=s') (m':=m') (d':=d') hgo (zF.of hw (G.bxW i hWk)) (fun h=>h.elim (fun y=>absurd hWk y) (fun y=>by omega)) hwg' hs'
   (.inl ⟨hlt,by simp only [cnt];split <;> split <;> omega⟩) (by omega) (q3d J.tr.jr hL G.zW J.wlt hb.touch _ _) hb.norel
   (fun hW _=>(J.tr.rel i hW (by omega)).app (fun j op y hj hy hg hyt=>by
     rcases getElem?_append_cases hy with ⟨hlt',_⟩ | ⟨_,hop⟩
     . omega
     . obtain⟨e,hee,rfl⟩:=Go.Conc.mem_ofEvents hop;exact⟨(hb.touch e hee y hyt).2,qvq (by rw [hdt];exact Nat.one_pos) hb.last j _ y hj hy hyt⟩)) (by rw [hd];exact hdf) hmode
 exact⟨gs',w',ops,_,tag',f',a',_,_,h1,h2,h3⟩
theorem Join.add(G:jE P ty Wg Bx Sh Fz n Wk cr)(hA:∀ g w,AnchW g w->g.status=.running)(J:Join P ty Wg Bx Sh Fz AnchW Next n Wk cr p0 D tag f0 d0 a st sm gs w t){i:Nat}{x:Goroutine}(hi:i≠0)(hx:gs[i]?=some x)
   (hs:(D i).stage=5) (sl:Option (Nat × Nat)):qmm P ty Wg Bx Sh Fz AnchW Next n Wk cr p0 D tag f0 d0 gs w t sl i:=by
 obtain⟨hJ,hd⟩:=J.ja i x hi hx;have hin:=J.lt hx;have hW:=hJ.low (by omega);rw [hs] at hW;generalize hdd:(D i).deaf=dd at hW;have hci:cnt (D i)=1:=by simp [cnt,hs]
 have hV1:1<=Vc n D:=by
   have:=le_sumTo (f:=fun a=>cnt (D a)) hin;simp only [Vc];omega
 have hVn:=q8q n D;have vJ:=G.few;cases hW with
 | d1 hg=>
   rcases qc9 (RW.refl w) hg with hst | ⟨m',hm,g',w',es,hgo,⟨rfl,rfl⟩,hg'⟩
   . obtain⟨_,hst⟩:=hst;obtain⟨v,hv⟩:∃ v,Vc n D=v+1:=⟨Vc n D - 1,by omega⟩
     have others:∀ s' m' d',(∀ a,a < n->5<=(D a).stage∨(D a).stage=1)->(s'=1∨5<=s')->∀ a,a < n->5<=(upd D i ⟨s',m',d'⟩ a).stage∨(upd D i ⟨s',m',d'⟩ a).stage=1:=fun s' m' d' h hs' a ha=>by
       by_cases e:a=i
       . subst e;rw [upd_same];exact hs'.elim .inr .inl
       . rw [upd_ne D _ e];exact h a ha
     have hvc:∀ m' d',Vc n (upd D i ⟨1,m',d'⟩)=v:=fun m' d'=>by
       have:=qvl (D:=D) (⟨1,m',d'⟩:WD) hin;have c1:cnt (⟨1,m',d'⟩:WD)=0:=rfl;omega
     have wga:=J.wg;have hmode:=J.mode;cases hmode with
     | opn h1 h2 h3=>
       rw [hv] at wga;obtain⟨g',hgo,_,hq⟩:=hst v 0 (by omega) (by omega) (by simpa using wga);obtain⟨q,hq⟩:=hq (fun h=>by omega)
       have kK:WgAt ty Wg (w.setCell (stA Wg) (.int .u64 (v * KK+(0:Nat)))) (v * KK) 0:=by
         have:=wga.setSt (v * KK+(0:Nat));simpa using this
       exact J.book G hA hi hx (by omega) hdd hgo (aside_setCell w (stA Wg) _) kK (qk3 Wg) (.of (.quit hq)) (by omega) rfl
         (fun tag' ht _=>by
           have key:q7 n (upd D i ⟨1,q,1⟩) tag ((Vc n (upd D i ⟨1,q,1⟩):Nat) * KK) 0:=.opn h1 (others 1 q 1 h2 (.inl rfl)) (fun vs e=>by rw [hvc];have:=h3 vs e;omega);rw [hvc] at key;exact key.retag ht) sl
     | reg h1 h2 h3=>
       rw [hv] at wga;obtain⟨g',hgo,hl,hq⟩:=hst v 1 (by omega) (by omega) (by simpa using wga)
       have kK:WgAt ty Wg (w.setCell (stA Wg) (.int .u64 (v * KK+(1:Nat)))) (v * KK+1) 0:=by
         have:=wga.setSt (v * KK+(1:Nat));simpa using this
       by_cases hv0:v=0
       . subst hv0;obtain⟨m',hg'⟩:=hl ⟨rfl,rfl⟩;refine J.book G hA hi hx (by omega) hdd hgo (aside_setCell w (stA Wg) _) kK (qk3 Wg) (.of (.d2 hg')) (by omega) rfl (fun tag' ht _=>?_) sl;have hun:=uncounted hin hv hci
         have key:q7 n (upd D i ⟨4,m',1⟩) tag (if (upd D i ⟨4,m',1⟩ i).stage=2 then 0 else 1) 0:=.last i h1 hin (by rw [upd_same];exact .inl rfl) (fun a ha e=>by
           rw [upd_ne D _ e];have h4:=hun a ha e;rcases h2 a ha with h5 | h5
           . simp [cnt,h5] at h4
           . exact h5)
         rw [upd_same] at key;have e1:(((0:Nat):Int) * KK+1)=1:=by simp
         rw [e1];exact key.retag ht
       . obtain⟨q,hq⟩:=hq (fun h=>hv0 h.1)
         exact J.book G hA hi hx (by omega) hdd hgo (aside_setCell w (stA Wg) _) kK (qk3 Wg) (.of (.quit hq)) (by omega) rfl
           (fun tag' ht _=>by
             have key:q7 n (upd D i ⟨1,q,1⟩) tag ((Vc n (upd D i ⟨1,q,1⟩):Nat) * KK+1) 0:=.reg h1 (others 1 q 1 h2 (.inl rfl)) (by rw [hvc];omega);rw [hvc] at key;exact key.retag ht) sl
     | last L h1 h2 h3 h4=>
       by_cases e:i=L
       . subst e;omega
       . have:=h4 i hin e;omega
     | sema h2=>have:=h2 i hin;omega
     | fin h1 h2=>have:=h2 i hin;omega
   . exact J.idle G hA hi hx hgo (by rw [hs,hdd];exact .of (.d1 hg')) (by omega) sl
theorem Join.wakes(G:jE P ty Wg Bx Sh Fz n Wk cr)(hA:∀ g w,AnchW g w->g.status=.running)(J:Join P ty Wg Bx Sh Fz AnchW Next n Wk cr p0 D tag f0 d0 a st sm gs w t){i:Nat}{x:Goroutine}(hi:i≠0)(hx:gs[i]?=some x)
   (hs:(D i).stage=4∨(D i).stage=3∨(D i).stage=2) (sl:Option (Nat × Nat)):qmm P ty Wg Bx Sh Fz AnchW Next n Wk cr p0 D tag f0 d0 gs w t sl i:=by
 obtain⟨hJ,hd⟩:=J.ja i x hi hx;have hin:=J.lt hx;have hW:=hJ.low (by omega);obtain⟨k1,k2,k3,k4⟩:=J.mode.isLast hin hs;have wga:=J.wg;generalize hss:(D i).stage=s at hW;generalize hdd:(D i).deaf=dd at hW;cases hW with
 | d2 hg=>
   rw [k3,k4,if_neg (by omega)] at wga;rcases qc9 (RW.refl w) hg with hst | ⟨m',hm,g',w',es,hgo,⟨rfl,rfl⟩,hg'⟩
   . obtain⟨g',hgo,m',hg'⟩:=hst.2 wga;exact J.book G hA hi hx (by omega) hdd hgo ⟨rfl,rfl,rfl,rfl,fun _ _=>rfl⟩ wga (qps Wg) (.of (.d3 hg')) (by omega) rfl (fun tag' ht _=>(q7.zN (s':=3) k1 hin k2 (.inl rfl)).retag ht) sl
   . exact J.idle G hA hi hx hgo (by rw [hss,hdd];exact .of (.d2 hg')) (by omega) sl
 | d3 hg=>
   rw [k3,k4,if_neg (by omega)] at wga;rcases qc9 (RW.refl w) hg with hst | ⟨m',hm,g',w',es,hgo,⟨rfl,rfl⟩,hg'⟩
   . obtain⟨g',hgo,m',hg'⟩:=hst.2 wga;exact J.book G hA hi hx (by omega) hdd hgo (aside_setCell w (stA Wg) _) (wga.setSt 0) (q7o Wg) (.of (.d4 hg')) (by omega) rfl (fun tag' ht _=>(q7.zN (s':=2) k1 hin k2 (.inr rfl)).retag ht) sl
   . exact J.idle G hA hi hx hgo (by rw [hss,hdd];exact .of (.d3 hg')) (by omega) sl
 | d4 hg=>
   rw [k3,k4,if_pos (by omega)] at wga;rcases qc9 (RW.refl w) hg with hst | ⟨m',hm,g',w',es,hgo,⟨rfl,rfl⟩,hg'⟩
   . obtain⟨_,qaK,hst⟩:=hst;obtain⟨g',hgo,q,hq⟩:=hst wga;refine J.book G hA hi hx (by omega) hdd hgo (aside_setCell w (smA Wg) _) (wga.setSm 1) (qzx Wg) (.of (.quit hq)) (by omega) rfl (fun tag' ht hwk=>?_) sl;have qcO:=hq.status;have hne:tag'≠.blk:=hwk qaK (by rcases qcO with e | e <;> rw [e] <;> simp) (by rcases qcO with e | e <;> rw [e] <;> simp)
     have hw3:tag'=.w3:=by
       rcases ht with rfl | ⟨_,e⟩
       . cases tag' <;> first | rfl | exact absurd rfl hne | exact k1.elim
       . exact e
     rw [hw3]
     exact .sema (fun a ha=>by
       by_cases e:a=i
       . subst e;rw [upd_same]
       . rw [upd_ne D _ e];exact k2 a ha e)
   . exact J.idle G hA hi hx hgo (by rw [hss,hdd];exact .of (.d4 hg')) (by omega) sl
 | _=>omega
end
theorem stepG_same{P:Program}{main:Bool}{g:Goroutine}{fr:Frame}{cs:List Frame}{w:World}(h1:g.frame=fr)(h2:g.callers=cs)(h3:g.dying=none):stepG P main g w=stepG P main (G fr cs) w:=by
 obtain⟨f,c,st,dy,of⟩:=g;cases h1;cases h2;cases h3;rfl
theorem qts{g:Goroutine}(h:g.offers=none)(c:Nat)(b:Bool):offersAt g c b=[]:=by
 unfold offersAt;rw [h];cases g.status <;> rfl
theorem q1d{L:List (Addr × Value)}{e:Event}(h:qpv L e)(b:Addr):e.loc≠.mark (.release b):=by
 obtain⟨_,_,x,_,h⟩:=h;rw [h];exact fun e=>by cases e
section
variable [Payload]{P:Program}{ty:TypeId}{Wg:Nat}{Bx:Nat->Prop}{Sh:Nat->Prop}{Fz:Loc->Prop}{AnchW Next:Goroutine->World->Prop}{n:Nat}{Wk:Nat->Prop}{cr:Nat->Hands}{p0:Nat}
 {D:Nat->WD} {tag:Tag} {f0 d0:Nat} {a:Goroutine} {st sm:Int} {gs:Array Goroutine} {w:World} {t:Trace}
theorem Join.xc(hA:∀ g w,AnchW g w->g.status=.running)(J:Join P ty Wg Bx Sh Fz AnchW Next n Wk cr p0 D tag f0 d0 a st sm gs w t)(i c:Nat):partners (gs.setIfInBounds i ph) c true=[]:=
 partners_nil (fun j y hy=>by
   rcases getElem?_stand gs i j y hy with ⟨_,rfl⟩ | ⟨_,hy'⟩
   . exact offersAt_ph _ _
   . by_cases h0:j=0
     . subst h0;rw [J.here] at hy';cases hy';rcases J.main.status hA with ⟨h,_⟩ | ⟨_,_,h⟩
       . exact offersAt_of_not_blocked (by rw [h];simp) _ _
       . exact qts h _ _
     . rcases (J.ja j y h0 hy').1.status with h | ⟨h,_⟩ | ⟨_,h⟩
       . exact offersAt_of_not_blocked (by rw [h];simp) _ _
       . exact offersAt_of_not_blocked (by rw [h];simp) _ _
       . rw [h];exact offersAt_parked_recv' _ _ _ _ _)
theorem Join.zo(J:Join P ty Wg Bx Sh Fz AnchW Next n Wk cr p0 D tag f0 d0 a st sm gs w t){i:Nat}(hi:i≠0)(hWk:Wk i)(h8:8<=(D i).stage){es:Array Event}(hes:∀ e,e∈es->qpv (cr i).s.L e)(fn:FuncId)(pos:String) :
   jq Sh Fz (StJ Wk cr D) (LfJ Wk) 0 w.heap.size (t++MemOp.ofEvents i fn pos es)/\∀ d,deafBehind d es=d:=by
 have⟨r1,r2,r3,r4⟩:=qtv (i:=i) (fn:=fn) (pos:=pos) hes (qio (J.fact i hWk h8).1);exact⟨J.tr.jr.by hi (fun h=>h.2 hWk) r1 (fun op hop y hy=>⟨⟨hWk,h8,(r2 op hop y hy).1⟩,(r2 op hop y hy).2⟩) r3,r4⟩
theorem Join.reads(G:jE P ty Wg Bx Sh Fz n Wk cr)(hA:∀ g w,AnchW g w->g.status=.running)(J:Join P ty Wg Bx Sh Fz AnchW Next n Wk cr p0 D tag f0 d0 a st sm gs w t){i:Nat}{x x':Goroutine}(hi:i≠0)(hx:gs[i]?=some x)
   (h8:8<=(D i).stage) (hWk:Wk i) {m':Nat} {es:Array Event} (hgo:∀ w,holds (cr i).s.L w->stepG P false x w=.go x' w es) (hes:∀ e,e∈es->qpv (cr i).s.L e) (hs':jQ P ty Wg (cr i) (D i).stage m' (D i).deaf x' w) (hlt:m' < (D i).fuel)
   (sl:Option (Nat × Nat)):qmm P ty Wg Bx Sh Fz AnchW Next n Wk cr p0 D tag f0 d0 gs w t sl i:=by
 obtain⟨hh,hdf⟩:=J.zo hi hWk h8 hes x.frame.fn x.frame.place
 obtain⟨gs',ops,tag',f',a',h1,h2,h3⟩:=J.go G hA hi hx (sl:=sl) (s':=(D i).stage) (m':=m') (d':=(D i).deaf) (hgo w (J.fact i hWk h8).1) (zF.refl _ _ w) (fun _=>rfl) J.wg hs' (.inr ⟨rfl,hlt⟩) Iff.rfl hh
   (fun e he=>q1d (hes e he) _) (fun _ h=>by omega) (hdf _) (fun tag' ht _=>(J.mode.same (i:=i) m' (D i).deaf).retag ht)
 exact⟨gs',w,ops,_,tag',f',a',_,_,h1,h2,h3⟩
theorem Join.way(G:jE P ty Wg Bx Sh Fz n Wk cr)(hA:∀ g w,AnchW g w->g.status=.running)(J:Join P ty Wg Bx Sh Fz AnchW Next n Wk cr p0 D tag f0 d0 a st sm gs w t){i:Nat}{x:Goroutine}(hi:i≠0)(hx:gs[i]?=some x)(hr:x.status=.running)
   (hs:(D i).stage=9) (sl:Option (Nat × Nat)):qmm P ty Wg Bx Sh Fz AnchW Next n Wk cr p0 D tag f0 d0 gs w t sl i:=by
 obtain⟨hJ,hd⟩:=J.ja i x hi hx;have hWk:=J.xa (i:=i) (by omega);have hi0:(i == 0)=false:=by simp [hi]
 have hsz:i < gs.size:=(Array.getElem?_eq_some_iff.1 hx).1;rw [hs] at hJ;obtain⟨hd0,hJ⟩:=hJ;rcases hJ with ⟨_,rfl⟩ | hw
 . cases hr
 . cases hf:(D i).fuel with
   | zero=>rw [hf] at hw;exact hw.elim
   | succ m=>
     rw [hf] at hw;rcases hw with ⟨rfl,es,hst,hes⟩ | ⟨_,g',es,hgo,hes,hw'⟩
     . obtain⟨κ,hκ⟩:=J.open_ i hWk hs
       have hrun:=crowd_waits (P:=P) (sl:=sl) (w₁:=w) hx (by rw [hi0];exact hst w (J.fact i hWk (by omega)).1) (fun cc hcc=>by
         have:cc=rcase (cr i).s.c (cr i).s.z:=by simpa using hcc
         subst this;exact ways_recv_none (s:=κ) (r:=κ) (tm:=false) hκ (J.xc hA i _))
       obtain⟨hh,hdf⟩:=J.zo hi hWk (by omega) hes (Go.Conc.G (cr i).s.fr (cr i).s.cs).frame.fn (Go.Conc.G (cr i).s.fr (cr i).s.cs).frame.place
       refine⟨_,w,_,upd D i ⟨9,0,0⟩,tag,f0,a,st,sm,hrun,J.step ‹jE P ty Wg Bx Sh Fz n Wk cr› hi hx (x':=qf3 (cr i).s) (zF.refl _ _ w) (fun _=>rfl) J.wg ⟨rfl,.inl ⟨rfl,rfl⟩⟩ (by omega) (by rw [hs]) qcr hh (fun op hop=>?_) (fun _ h=>by omega)
         (by rw [Deaf_own,hd,hd0,hdf]) J.main rfl (by have:=J.mode.same (i:=i) 0 0;rw [hs] at this;exact this) (by simp [J.size]) (by rw [qbn _ _ _ _ hsz,if_neg hi];exact J.here) (by rw [qbn _ _ _ _ hsz,if_pos rfl];rfl) (fun j _ hji=>by rw [qbn _ _ _ _ hsz,if_neg (fun e=>hji e.symm)]),
         lower (J.lt hx) (.inl rfl) (by omega) (.inr ⟨hs.symm,by omega⟩)⟩
       obtain⟨e,hee,rfl⟩:=Go.Conc.mem_ofEvents hop;obtain⟨h1,h2,y,hy,h3⟩:=hes e hee;obtain⟨loc,wr',sy⟩:=e;cases h1;cases h2;cases h3;exact fun e=>by cases e
     . exact J.reads ‹jE P ty Wg Bx Sh Fz n Wk cr› hA hi hx (by omega) hWk hgo hes (by rw [hs];exact⟨hd0,.inr hw'⟩) (by omega) sl
theorem Join.closed(G:jE P ty Wg Bx Sh Fz n Wk cr)(hA:∀ g w,AnchW g w->g.status=.running)(J:Join P ty Wg Bx Sh Fz AnchW Next n Wk cr p0 D tag f0 d0 a st sm gs w t){i:Nat}{x:Goroutine}(hi:i≠0)(hx:gs[i]?=some x)
   (hs:(D i).stage=8) (hst:stepG P false x w=stepG P false (Go.Conc.G (cr i).s.fr (cr i).s.cs) w) (hc:qin P false (cr i).s) (hd0:(D i).deaf=0) (sl:Option (Nat × Nat)):qmm P ty Wg Bx Sh Fz AnchW Next n Wk cr p0 D tag f0 d0 gs w t sl i:=by
 obtain⟨hJ,hd⟩:=J.ja i x hi hx;have hWk:=J.xa (i:=i) (by omega);have hi0:(i == 0)=false:=by simp [hi]
 have hsz:i < gs.size:=(Array.getElem?_eq_some_iff.1 hx).1;obtain⟨es,hcm,hes⟩:=hc;obtain⟨κ,hκ⟩:=J.shut i hWk hs;have hf:=J.fact i hWk (by omega);have hrun:=crowd_recv_closed (P:=P) (sl:=sl) (w₁:=w) hx (by rw [hi0,hst];exact hcm w hf.1) hκ (J.xc hA i _);rw [finishComm_recv] at hrun;obtain⟨m',hg'⟩:=G.after i hWk w ⟨_,_,J.wg⟩ hf.2;obtain⟨hh,hdf⟩:=J.zo hi hWk (by omega) hes x.frame.fn x.frame.place;generalize hop:({ g:=i,fn:=(Go.Conc.G (cr i).s.fr (cr i).s.cs).frame.fn,pos:=(Go.Conc.G (cr i).s.fr (cr i).s.cs).frame.place,act:=.recvClosed (cr i).s.c }:MemOp)=y at hrun;have hy:y.g=i/\y.act=.recvClosed (cr i).s.c:=by rw [<-hop];exact⟨rfl,rfl⟩
 have one:∀ op∈(#[y]:Trace),op=y:=fun op h=>by simpa using h
 refine⟨_,w,_,upd D i ⟨7,m',0⟩,tag,f0,a,st,sm,hrun,J.step G hi hx (x':=Go.Conc.served (Go.Conc.G (cr i).s.fr (cr i).s.cs) (recvd (cr i).s.ok (cr i).s.z false)) (zF.refl _ _ w) (fun _=>rfl) J.wg (.of (.r0 hg')) (by omega) (by rw [hs];omega) (fun op h=>?_) ?_ (fun op h=>?_) (fun _ h=>by omega)
   ?_ J.main rfl (J.mode.counted (J.lt hx) (by omega) (s':=7) (by omega) m' 0) (by simp [J.size]) (by rw [qbn _ _ _ _ hsz,if_neg hi];exact J.here) (by rw [qbn _ _ _ _ hsz,if_pos rfl]) (fun j _ hji=>by rw [qbn _ _ _ _ hsz,if_neg (fun e=>hji e.symm)]),
   lower (J.lt hx) (.inl rfl) (by omega) (.inl ⟨by omega,by simp [cnt,hs]⟩)⟩
 . rcases Array.mem_append.1 h with h | h
   . exact qcr op h
   . rw [one op h];exact hy.1
 . rw [<-Array.append_assoc];exact hh.mute (fun op h=>by rw [one op h,hy.2];rfl)
 . rcases Array.mem_append.1 h with h | h
   . obtain⟨e,hee,rfl⟩:=Go.Conc.mem_ofEvents h;obtain⟨h1,h2,z,hz,h3⟩:=hes e hee;obtain⟨loc,wr',sy⟩:=e;cases h1;cases h2;cases h3;exact fun e=>by cases e
   . rw [one op h,hy.2];exact fun e=>by cases e
 . rw [<-Array.append_assoc,Deaf_push,Deaf_own,hdf,hd,hd0];simp [deafStep,hy.2]
theorem Join.shuts(G:jE P ty Wg Bx Sh Fz n Wk cr)(hA:∀ g w,AnchW g w->g.status=.running)(J:Join P ty Wg Bx Sh Fz AnchW Next n Wk cr p0 D tag f0 d0 a st sm gs w t){i:Nat}{x:Goroutine}(hi:i≠0)(hx:gs[i]?=some x)
   (hs:(D i).stage=8) (sl:Option (Nat × Nat)):qmm P ty Wg Bx Sh Fz AnchW Next n Wk cr p0 D tag f0 d0 gs w t sl i:=by
 obtain⟨hJ,hd⟩:=J.ja i x hi hx;have hWk:=J.xa (i:=i) (by omega);rw [hs] at hJ;obtain⟨hd0,hJ⟩:=hJ;rcases hJ with hw | ⟨_,h1,h2,h3,_,hc⟩
 . cases hf:(D i).fuel with
   | zero=>rw [hf] at hw;exact hw.elim
   | succ m=>
     rw [hf] at hw;rcases hw with ⟨rfl,hc⟩ | ⟨_,g',es,hgo,hes,hw'⟩
     . exact J.closed G hA hi hx hs rfl hc hd0 sl
     . exact J.reads G hA hi hx (by omega) hWk hgo hes (by rw [hs];exact⟨hd0,.inl hw'⟩) (by omega) sl
 . exact J.closed G hA hi hx hs (stepG_same h1 h2 h3) hc hd0 sl
theorem Join.worker(G:jE P ty Wg Bx Sh Fz n Wk cr)(hA:∀ g w,AnchW g w->g.status=.running)(J:Join P ty Wg Bx Sh Fz AnchW Next n Wk cr p0 D tag f0 d0 a st sm gs w t){i:Nat}{x:Goroutine}(hi:i≠0)(hx:gs[i]?=some x)(hr:x.status=.running)
   (sl:Option (Nat × Nat)):qmm P ty Wg Bx Sh Fz AnchW Next n Wk cr p0 D tag f0 d0 gs w t sl i:=by
 have h:=(J.ja i x hi hx).1.zn;generalize hs:(D i).stage=s at h
 match s,h,hs with
 | 1,_,hs=>exact J.quit G hA hi hx hr hs sl
 | 2,_,hs=>exact J.wakes G hA hi hx (.inr (.inr hs)) sl
 | 3,_,hs=>exact J.wakes G hA hi hx (.inr (.inl hs)) sl
 | 4,_,hs=>exact J.wakes G hA hi hx (.inl hs) sl
 | 5,_,hs=>exact J.add G hA hi hx hs sl
 | 6,_,hs=>exact J.dis G hA hi hx hs sl
 | 7,_,hs=>exact J.rel G hA hi hx hs sl
 | 8,_,hs=>exact J.shuts G hA hi hx hs sl
 | 9,_,hs=>exact J.way G hA hi hx hr hs sl
 | 0,h,_=>omega
 | s+10,h,_=>omega
end
end
end Go.Proofs.YtacemdoejblgaaaGreatDoor

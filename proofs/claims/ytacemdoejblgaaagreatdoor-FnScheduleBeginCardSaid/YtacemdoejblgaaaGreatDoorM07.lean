/- Part M07. Conditions: each statement's. -/
import Derived.Test.YtacemdoejblgaaaGreatDoorM06
import Derived.Conc.CompanyMem
import Derived.Conc.WgGenN3
import Derived.Conc.MuWords
import Derived.Conc.MuLone
namespace Go.Proofs.YtacemdoejblgaaaGreatDoor
open List Option World
set_option maxRecDepth 100000
set_option maxHeartbeats 6400000
section
open Go.Conc
open Go.ConcN (sumTo upd sumTo_upd upd_ne upd_same sumTo_congr le_sumTo WgLive RW DWs WSit WD AtR0 PayAt cnt Vc Ssum Fsum ShN)
open Go.ConcR (KK WgAt stA smA rd wr Payload)
section
variable {P:Program}{w:World}
theorem qur{main:Bool}{R:World->World->Prop}{Dd:World->World->Array Event->Prop}{Stop:Goroutine->World->Prop}{m:Nat}{g:Goroutine}(hR:R w w)(h:Goes P main R Dd Stop m g w) :
   (∀w₁,R w w₁->Stop g w₁)∨∃m',m=m'+1/\∃g' w' es,stepG P main g w=.go g' w' es/\Dd w w' es/\Goes P main R Dd Stop m' g' w':=by
 cases m with
 |zero=>exact .inl h
 |succ m=>
  rcases h with h|⟨_,h⟩
  . exact .inl h
  . obtain⟨g',w',es,h1,h2,h3⟩:=goes_elim (h w hR);exact .inr ⟨m,rfl,g',w',es,h1,h2,h3⟩
end
section
variable {Sh:Nat->Prop}{Fz:Loc->Prop}{Wg:Nat}
theorem q4v{B:Nat}{m:Mark}(hm:∀b,m≠.read b/\m≠.write b)(hr:m≠.release (stA Wg)):∀e,e∈#[Go.ConcR.mk m]->qo5 Sh Fz B e/\e.loc≠.mark (.release (stA Wg)):=λe he=>by
 rw[Array.mem_singleton]at he;subst he
 have ht:(MemAct.ofEvent (Go.ConcR.mk m)).touch?=none:=by
  cases m with
  |read b=>exact absurd rfl (hm b).1
  |write b=>exact absurd rfl (hm b).2
  |_=>rfl
 exact⟨⟨(λx hx=>by rw[ht]at hx;cases hx),(λx hx=>by rw[ht]at hx;cases hx)⟩,(λe=>hr (by cases e;rfl))⟩
end
section
variable [Payload]{P:Program}{ty:TypeId}{Wg:Nat}{Bx:Nat->Prop}{Sh:Nat->Prop}{Fz:Loc->Prop}{AnchW Next:Goroutine->World->Prop}{n:Nat}{Wk:Nat->Prop}{cr:Nat->Hands}{p0:Nat}
 {D:Nat->WD} {tag:Tag} {f0 d0:Nat} {a:Goroutine} {st sm:Int} {gs:Array Goroutine} {w:World} {t:Trace}
theorem qmb(G:zX P ty Wg Bx Sh Fz n Wk cr){B:Nat}(hB:Wg<B){es:Array Event}(hb:Book Wg es):∀e,e∈es->qo5 Sh Fz B e/\e.loc≠.mark (.release (stA Wg)):=λe he=>by
 refine⟨⟨λx hx=>?_,λx hx=>?_⟩,hb.norel e he⟩
 . obtain⟨⟨b,h1,h2⟩,h3⟩:=hb.touch e he x hx;exact⟨(λ_ h=>by rw[h3]at h;cases h),(λ_=>by rw[h1];exact G.fzW b h2)⟩
 . obtain⟨⟨b,h1,h2⟩,_⟩:=hb.touch e he x hx;rw[h1];show b.block<B;rw[h2];exact hB
theorem Join.mgo(G:zX P ty Wg Bx Sh Fz n Wk cr)(J:Join P ty Wg Bx Sh Fz AnchW Next n Wk cr p0 D tag f0 d0 a st sm gs w t){a':Goroutine}{w':World}{es:Array Event}{tag':Tag}{f' d':Nat}{st' sm':Int}(sl:Option (Nat×Nat))
   (hgo:stepG P true a w=.go a' w' es) (hw:Aside Wg w w') (hwg':WgAt ty Wg w' st' sm') (he:∀e,e∈es->qo5 Sh Fz w.heap.size e/\e.loc≠.mark (.release (stA Wg))) (hd:deafBehind d0 es=d')
   (hmain:vB P ty Wg Bx Sh Fz AnchW Next tag' f' d' a' w') (htag:yg tag'=yg tag) (hmode:qL n D tag' st' sm') (hlt:phi n (Vc n D) tag'<phi n (Vc n D) tag∨(phi n (Vc n D) tag'=phi n (Vc n D) tag/\f'<f0)) :
   ∃gs' ops,runT P (crowd gs w sl) 0=(.next (crowd gs' w' sl),ops)/\Join P ty Wg Bx Sh Fz AnchW Next n Wk cr p0 D tag' f' d' a' st' sm' gs' w' (t++ops)/\LtJ (mu n D tag' f') (mu n D tag f0):=by
 have hsz:0<gs.size:=(Array.getElem?_eq_some_iff.1 J.here).1;have xP:0<(gs.map (Go.Conc.woken P a a' w')).size:=by simpa using hsz
 have hrun:=runT_crowd_go (P:=P) (sl:=sl) (i:=0) J.here (by simpa using hgo)
 have keep:∀j,Wk j->∀r,(r=(cr j).s.c∨r=(cr j).bx)->w'.heap[r]?=w.heap[r]?:=λj hj r hr=>by
  rcases hr with rfl|rfl
  . exact hw.block _ (G.cW j hj)
  . exact hw.block _ (G.bxW j hj)
 have hoth:∀j y,j≠0->gs[j]?=some y->Go.Conc.woken P a a' w' y=y:=λj y hj hy=>by
  unfold Go.Conc.woken;split
  . rcases (J.jW j y hj hy).1.status with e|⟨e,_⟩|⟨e,e'⟩
    . exact again_running _ (.inl e)
    . exact again_running _ (.inr e)
    . have hW:Wk j:=J.yU (by omega);obtain⟨κ,hκ⟩:=J.open_ j hW e;rw[e'];exact again_parked_open (k:=rcase (cr j).s.c (cr j).s.z) (c:=(cr j).s.c) (s:=κ) (r:=κ) (tm:=false) rfl ((keep j hW _ (.inl rfl)).trans hκ)
  . rfl
 refine⟨_,_,hrun,?_,?_⟩
 . refine⟨by simp[J.size],by rw[qb5 _ _ _ _ xP,if_pos rfl],hmain,λj y hj hy=>?_,J.old,λj hj=>by rw[htag];exact J.nine j hj,by rw[htag];exact J.source,by rw[htag];exact J.nodup,λj hj h=>?_,λj hj h=>?_,λj hj h=>?_,hwg',hmode,?_,by rw[Deaf_own,J.deaf];exact hd,λj hj=>?_⟩
   . rw[qb5 _ _ _ _ xP,if_neg (λe=>hj e.symm),Array.getElem?_map]at hy;obtain⟨y',hy',e⟩:=map_eq_some_iff.1 hy;rw[hoth j y' hj hy']at e;subst e;rw[Deaf_other t (λe=>hj e.symm) _ qdf];obtain⟨h1,h2⟩:=J.jW j y' hj hy';refine⟨?_,h2⟩;by_cases hW:Wk j
     . have hb:=keep j hW _ (.inr rfl);exact h1.rely ⟨λb hb0 _ _=>absurd hb0 (Nat.not_lt_zero b),λ_=>⟨_,_,hwg'⟩,λ⟨cs,hc,hl⟩=>⟨cs,hb.trans hc,hl⟩,qhz hb 0 none⟩
     . rw[J.old j hW]at h1 |-;have h4:=h1.low (by omega);cases h4 with
       |quit hq=>exact .of (.quit hq)
   . obtain⟨κ,hκ⟩:=J.open_ j hj h;exact⟨κ,(keep j hj _ (.inl rfl)).trans hκ⟩
   . obtain⟨κ,hκ⟩:=J.shut j hj h;exact⟨κ,(keep j hj _ (.inl rfl)).trans hκ⟩
   . obtain⟨h1,h2⟩:=J.fact j hj h;exact⟨qq8 h1 (λy hy=>hw.block _ (G.lW j hj y hy).1),(qhz (keep j hj _ (.inr rfl)) 0 none).trans h2⟩
   . rw[hw.size];exact J.tr.main (λi hi=>(G.wk i hi).1) he _ _
   . rw[Deaf_other t (by have:=J.lt J.here;omega) _ qdf];exact J.above j hj
 . unfold mu LtJ;rcases hlt with h|⟨h,h'⟩
   . exact Prod.Lex.left _ _ (by omega)
   . rw[h];exact Prod.Lex.right _ (by omega)
end
theorem qus(w:World){c:Nat}(h:c<w.heap.size)(cl:Bool)(a b:Nat):(w.setChan c 0 #[] cl a b false).heap[c]?=some (.chan 0 #[] cl a b false):=by
 simp[World.setChan,h]
theorem qL.tail{n:Nat}{D:Nat->WD}{c:Nat}{l:List Nat}{st sm:Int}(h:qL n D (.cl (c::l)) st sm):qL n D (.cl l) st sm:=by
 cases h with
 |opn h1 h2 h3=>exact .opn trivial h2 (λvs e=>by cases e)
 |reg h1 _ _=>exact h1.elim
 |last L h1 _ _ _=>exact h1.elim
 |fin h1 _=>exact h1.elim
section
variable [Payload]{P:Program}{ty:TypeId}{Wg:Nat}{Bx:Nat->Prop}{Sh:Nat->Prop}{Fz:Loc->Prop}{AnchW Next:Goroutine->World->Prop}{n:Nat}{Wk:Nat->Prop}{cr:Nat->Hands}{p0:Nat}
 {D:Nat->WD} {tag:Tag} {f0 d0:Nat} {a:Goroutine} {st sm:Int} {gs:Array Goroutine} {w:World} {t:Trace}
theorem Join.close(G:zX P ty Wg Bx Sh Fz n Wk cr){c:Nat}{l:List Nat}(J:Join P ty Wg Bx Sh Fz AnchW Next n Wk cr p0 D (.cl (c::l)) f0 0 a st sm gs w t)(hcl:MCl P ty Wg Bx Sh Fz AnchW (c::l) a w)(sl:Option (Nat×Nat)) :
   qq9 P ty Wg Bx Sh Fz AnchW Next n Wk cr p0 D (.cl (c::l)) f0 0 gs w t sl 0:=by
 obtain⟨i,hWi,hci⟩:=J.source c (mem_cons_self ..);have hi:=G.wk i hWi;have h9:(D i).stage=9:=(J.nine i hWi).2 (by rw[hci];exact mem_cons_self ..);obtain⟨κ,hκ⟩:=J.open_ i hWi h9;rw[hci]at hκ;obtain⟨_,qeJ,hstep⟩:=hcl;obtain⟨a',hgo,hrun',m,hm⟩:=hstep κ hκ;have qgX:c<w.heap.size:=(Array.getElem?_eq_some_iff.1 hκ).1;have hsz:0<gs.size:=(Array.getElem?_eq_some_iff.1 J.here).1;generalize hw':w.setChan c 0 #[] true κ κ false=w' at hgo hm;have hat:w'.heap[c]?=some (.chan 0 #[] true κ κ false):=by rw[<-hw'];exact qus w qgX _ _ _
 have hne:∀r,r≠c->w'.heap[r]?=w.heap[r]?:=λr hr=>by rw[<-hw'];exact qh0 w hr _ _ _ _
 have hsize:w'.heap.size=w.heap.size:=by rw[<-hw'];simp[World.setChan]
 have qeK:∀L,holds L w->holds L w':=λL hL=>by rw[<-hw'];exact qjk hL hκ _ _ _ _
 have qdB:∀j,Wk j->j≠i->(cr j).s.c≠c:=λj hj hji e=>hji (G.chan j i hj hWi (e.trans hci.symm));have qgY:∀j,Wk j->(cr j).bx≠c:=λj hj e=>G.cB i j hWi hj (hci.trans e.symm);have qgZ:Wg≠c:=λe=>G.cW i hWi (hci.trans e.symm);have xP:0<(gs.map (Go.Conc.woken P a a' w')).size:=by simpa using hsz
 have hrun:=runT_crowd_go (P:=P) (sl:=sl) (i:=0) J.here (by simpa using hgo)
 have wake:∀y,Go.Conc.woken P a a' w' y=y.again w':=λy=>by
  unfold Go.Conc.woken;rw[if_pos (by rw[qeJ,hrun'];rfl)]
 have hoth:∀j y,j≠0->j≠i->gs[j]?=some y->Go.Conc.woken P a a' w' y=y:=λj y hj hji hy=>by
  rw[wake];rcases (J.jW j y hj hy).1.status with e|⟨e,_⟩|⟨e,e'⟩
  . exact again_running _ (.inl e)
  . exact again_running _ (.inr e)
  . have hW:Wk j:=J.yU (by omega);obtain⟨κ',hκ'⟩:=J.open_ j hW e;rw[e'];exact again_parked_open (k:=rcase (cr j).s.c (cr j).s.z) (c:=(cr j).s.c) (s:=κ') (r:=κ') (tm:=false) rfl ((hne _ (qdB j hW hji)).trans hκ')
 obtain⟨y,hy⟩:∃y,gs[i]?=some y:=⟨_,Array.getElem?_eq_getElem (by rw[J.size];exact hi.2)⟩;obtain⟨hyJ,hyd⟩:=J.jW i y hi.1 hy;rw[h9]at hyJ;obtain⟨hd0,hyJ⟩:=hyJ
 obtain⟨m8,hm8⟩:∃m8,Shut P (cr i).s m8 (Go.Conc.woken P a a' w' y):=by
  rw[wake];rcases hyJ with ⟨_,rfl⟩|hwy
  ·
   have e:=again_parked_shut (g:=Go.Conc.G (cr i).s.fr (cr i).s.cs) (k:=rcase (cr i).s.c (cr i).s.z) (sh:=.recv (cr i).s.ok) (w:=w') (c:=(cr i).s.c) (s:=κ) (r:=κ) (tm:=false) rfl (by rw[hci];exact hat);have e':(qhe (cr i).s).again w'={qhe (cr i).s with status:=.running}:=e;rw[e'];exact⟨1,.inr ⟨rfl,rfl,rfl,rfl,rfl,G.comm i hWi⟩⟩
  . rw[again_running _ (.inl hwy.running)];exact⟨_,.inl hwy⟩
 have hst:∀j,j≠i->upd D i ⟨8,m8,0⟩ j=D j:=λj hj=>upd_ne D _ hj;have hsi:upd D i ⟨8,m8,0⟩ i=⟨8,m8,0⟩:=upd_same D i _
 have hev:∀e,e∈(#[⟨.obj c,false,true⟩,⟨.obj c,true,true⟩]:Array Event)->qo5 Sh Fz w.heap.size e/\e.loc≠.mark (.release (stA Wg)):=λe he=>by
  have:e=⟨.obj c,false,true⟩∨e=⟨.obj c,true,true⟩:=by simpa using he
  rcases this with rfl|rfl
  . refine⟨⟨λx hx=>?_,λx hx=>?_⟩,λe=>by cases e⟩
    . cases hx;exact⟨λh=>h.elim,λh=>by cases h⟩
    . cases hx;exact qgX
  . exact⟨⟨λx hx=>(by cases hx),λx hx=>(by cases hx)⟩,λe=>by cases e⟩
 have htr:=J.tr.main (λj hj=>(G.wk j hj).1) hev a.frame.fn a.frame.place;refine⟨_,w',_,upd D i ⟨8,m8,0⟩,.cl l,m,a',st,sm,hrun,?_,?_⟩
 . refine⟨by simp[J.size],by rw[qb5 _ _ _ _ xP,if_pos rfl],.cl hm,λj x hj hx=>?_,λj hj=>?_,λj hj=>?_,λc' hc'=>J.source c' (mem_cons_of_mem _ hc'),(nodup_cons.1 J.nodup).2,λj hj h=>?_,λj hj h=>?_,λj hj h=>?_,(hne _ qgZ).trans J.wg,?_,?_,?_,λj hj=>?_⟩
   . rw[qb5 _ _ _ _ xP,if_neg (λe=>hj e.symm),Array.getElem?_map]at hx;obtain⟨x0,hx0,e⟩:=map_eq_some_iff.1 hx;rw[Deaf_other t (λe=>hj e.symm) _ qdf];by_cases hji:j=i
     . subst hji;rw[hy]at hx0;cases hx0;subst e;rw[hsi];exact⟨⟨rfl,hm8⟩,hyd.trans hd0⟩
     . rw[hoth j x0 hj hji hx0]at e;subst e;rw[hst j hji];obtain⟨h1,h2⟩:=J.jW j x0 hj hx0;refine⟨?_,h2⟩;by_cases hW:Wk j
       . have hb:=hne _ (qgY j hW);exact h1.rely ⟨λb hb0 _ _=>absurd hb0 (Nat.not_lt_zero b),λ⟨s1,s2,h⟩=>⟨s1,s2,(hne _ qgZ).trans h⟩,λ⟨cs,hc,hl⟩=>⟨cs,hb.trans hc,hl⟩,qhz hb 0 none⟩
       . rw[J.old j hW]at h1 |-;have h4:=h1.low (by omega);cases h4 with
         |quit hq=>exact .of (.quit hq)
   . have hji:j≠i:=λe=>hj (e▸hWi);rw[hst j hji];exact J.old j hj
   . by_cases hji:j=i
     . subst hji;rw[hsi];constructor
       . intro h;cases h
       . intro h;rw[hci]at h;exact absurd h (nodup_cons.1 J.nodup).1
     . rw[hst j hji];refine(J.nine j hj).trans ⟨λh=>?_,λh=>mem_cons_of_mem _ h⟩;rcases mem_cons.1 h with h|h
       . exact absurd h (qdB j hj hji)
       . exact h
   . by_cases hji:j=i
     . subst hji;rw[hsi]at h;cases h
     . rw[hst j hji]at h;obtain⟨κ',hκ'⟩:=J.open_ j hj h;exact⟨κ',(hne _ (qdB j hj hji)).trans hκ'⟩
   . by_cases hji:j=i
     . subst hji;exact⟨κ,by rw[hci];exact hat⟩
     . rw[hst j hji]at h;obtain⟨κ',hκ'⟩:=J.shut j hj h;exact⟨κ',(hne _ (qdB j hj hji)).trans hκ'⟩
   . have h':8<=(D j).stage:=by
      by_cases hji:j=i
      . subst hji;omega
      . rw[hst j hji]at h;exact h
     obtain⟨h1,h2⟩:=J.fact j hj h';exact⟨qeK _ h1,(qhz (hne _ (qgY j hj)) 0 none).trans h2⟩
   . exact(J.mode.counted hi.2 (by omega) (s':=8) (by omega) m8 0).tail
   . rw[hsize]
     have hle:∀j,(upd D i ⟨8,m8,0⟩ j).stage<=(D j).stage:=λj=>by
      by_cases hji:j=i
      . subst hji;rw[hsi,h9];show 8<=9;omega
      . rw[hst j hji];exact Nat.le_refl _
     refine⟨htr.zC.fall (q4x hle),htr.start,htr.norel,λj hj h=>htr.rel j hj ?_⟩;by_cases hji:j=i
     . subst hji;rw[hsi]at h;have h:8<=6:=h;omega
     . rw[hst j hji]at h;exact h
   . rw[Deaf_own,J.deaf];rfl
   . rw[Deaf_other t (by have:=J.lt J.here;omega) _ qdf];exact J.above j hj
 . have e1:=q0g (D:=D) (⟨8,m8,0⟩:WD) hi.2;have e2:=sumTo_upd D (⟨8,m8,0⟩:WD) WD.stage hi.2;have a2:(sumTo n λa=>WD.stage (upd D i ⟨8,m8,0⟩ a))=Ssum n (upd D i ⟨8,m8,0⟩):=rfl;have a3:(sumTo n λa=>WD.stage (D a))=Ssum n D:=rfl;rw[a2,a3,h9]at e2;simp only at e2;unfold mu LtJ;refine Prod.Lex.left _ _ ?_;simp only[phi,length_cons];omega
end
section
variable [Payload]{P:Program}{ty:TypeId}{Wg:Nat}{Bx:Nat->Prop}{Sh:Nat->Prop}{Fz Fz':Loc->Prop}{AnchW Next:Goroutine->World->Prop}{n:Nat}{Wk:Nat->Prop}{cr:Nat->Hands}{p0:Nat}{Post:Value->World->Prop}
 {D:Nat->WD} {tag:Tag} {f0 d0:Nat} {a:Goroutine} {st sm:Int} {gs:Array Goroutine} {w:World} {t:Trace}
theorem Join.awake(hA:∀g w,AnchW g w->g.status=.running)(J:Join P ty Wg Bx Sh Fz AnchW Next n Wk cr p0 D tag f0 d0 a st sm gs w t):∀x∈gs,awake x:=by
 intro x hx;obtain⟨i,hi⟩:=Array.mem_iff_getElem?.1 hx;by_cases h0:i=0
 . subst h0;rw[J.here]at hi;cases hi;rcases J.main.status hA with ⟨h,_⟩|⟨h,_⟩
   . exact awake_of (.inl h)
   . exact awake_of (.inr (.inl h))
 . rcases (J.jW i x h0 hi).1.status with h|⟨h,_⟩|⟨_,h⟩
   . exact awake_of (.inl h)
   . exact awake_of (.inr (.inr h))
   . rw[h];exact awake_of (.inr (.inl rfl))
theorem Join.runs(G:zX P ty Wg Bx Sh Fz n Wk cr)(hA:∀g w,AnchW g w->g.status=.running)(J:Join P ty Wg Bx Sh Fz AnchW Next n Wk cr p0 D tag f0 d0 a st sm gs w t):∃(i:Nat) (g:Goroutine),gs[i]?=some g/\g.status=.running:=by
 rcases J.main.status hA with ⟨h,_⟩|⟨_,rfl,_⟩
 . exact⟨0,a,J.here,h⟩
 . have one:∀ i,i < n->(D i).stage≠1->∃ (i:Nat) (g:Goroutine),gs[i]?=some g/\g.status=.running:=fun i hi h1=>by
    have hW:=J.yU h1;obtain⟨y,hy⟩:∃y,gs[i]?=some y:=⟨_,Array.getElem?_eq_getElem (by rw[J.size];exact hi)⟩;rcases (J.jW i y (G.wk i hW).1 hy).1.status with h|⟨_,h⟩|⟨h,_⟩
    . exact⟨i,y,hy,h⟩
    . exact absurd h h1
    . have:=(J.nine i hW).1 h;cases this
   have hm:=J.mode;cases hm with
   |opn h1 _ _=>exact h1.elim
   |reg _ _ h3=>
    obtain⟨i,hi,h5⟩:=Go.ConcN.exists_counted h3;exact one i hi (by omega)
   |last L _ h2 h3 _=>exact one L h2 (by omega)
   |fin h1 _=>exact h1.elim
theorem Join.done(G:zX P ty Wg Bx Sh Fz n Wk cr)(J:Join P ty Wg Bx Sh Fz AnchW Next n Wk cr p0 D .acq f0 0 a st sm gs w t){g':Goroutine}(hgo:stepG P true a w=.go g' w #[Go.ConcR.mk (Mark.acquire (stA Wg))])(sl:Option (Nat×Nat)) :
   ∃gs' ops q,runT P (crowd gs w sl) 0=(.next (crowd gs' w sl),ops)/\qV P Sh Fz (λ_=>.left) n 0 0 g' w gs' (t++ops) q:=by
 have hall:∀i,i<n->(D i).stage=1:=by
  have hm:=J.mode;cases hm with
  |opn h1 _ _=>exact h1.elim
  |reg h1 _ _=>exact h1.elim
  |last L h1 _ _ _=>exact h1.elim
  |fin _ h2=>exact h2
 have hsz:0<gs.size:=(Array.getElem?_eq_some_iff.1 J.here).1;have xP:0<(gs.map (Go.Conc.woken P a g' w)).size:=by simpa using hsz
 have hrun:=runT_crowd_go (P:=P) (sl:=sl) (i:=0) J.here (by simpa using hgo)
 have hoth:∀j y,j≠0->gs[j]?=some y->Go.Conc.woken P a g' w y=y:=λj y hj hy=>by
  unfold Go.Conc.woken;split
  . rcases (J.jW j y hj hy).1.status with e|⟨e,_⟩|⟨e,_⟩
    . exact again_running _ (.inl e)
    . exact again_running _ (.inr e)
    . have:=hall j (J.lt hy);omega
  . rfl
 have hop:MemOp.ofEvents 0 a.frame.fn a.frame.place #[Go.ConcR.mk (Mark.acquire (stA Wg))]=#[{g:=0,fn:=a.frame.fn,pos:=a.frame.place,act:=.mark (.acquire (stA Wg))}]:=by simp[MemOp.ofEvents,Go.ConcR.mk,MemAct.ofEvent]
 rw[hop]at hrun;generalize hy:({g:=0,fn:=a.frame.fn,pos:=a.frame.place,act:=.mark (.acquire (stA Wg))}:MemOp)=y at hrun;have y0:y.g=0/\y.act=.mark (.acquire (stA Wg)):=by rw[<-hy];exact⟨rfl,rfl⟩
 have one:∀op∈(#[y]:Trace),op=y:=λop h=>by simpa using h
 have still:∀j,Deaf (t++#[y]) j=Deaf t j:=λj=>by rw[Deaf_push];simp[deafStep,y0.2]
 have hm:=J.tr.zC.mute (u:=#[y]) (λop h=>by rw[one op h,y0.2];rfl);refine⟨_,_,λi=>(D i).fuel,hrun,⟨by simp[J.size],by rw[qb5 _ _ _ _ xP,if_pos rfl],λj x hj hx=>?_,(λi s _ _ h=>by cases h),(λi j s s' _ _ _ _ h=>by cases h),?_,by rw[still];exact J.deaf,λj hj=>by rw[still];exact J.above j hj⟩⟩
 . rw[qb5 _ _ _ _ xP,if_neg (λe=>hj e.symm),Array.getElem?_map]at hx;obtain⟨x0,hx0,e⟩:=map_eq_some_iff.1 hx;rw[hoth j x0 hj hx0]at e;subst e;rw[still];obtain⟨h1,h2⟩:=J.jW j x0 hj hx0;rw[hall j (J.lt hx0)]at h1;have h4:=h1.low (by omega);generalize (D j).deaf=dd at h4 h2;cases h4 with
   |quit hq=>exact⟨by simp[hj],by rw[h2];exact hq⟩
 . refine⟨hm.clean,hm.known,λk _ i x _ hs _=>?_,hm.seen,hm.quiet,λk l hs=>?_,λi k hg hL hc=>?_⟩
   . obtain⟨_,_,s,h,_⟩:=hs;cases h
   . obtain⟨_,_,s,h,_⟩:=hs;cases h
   . by_cases hW:Wk k
     . obtain⟨p,hp0,hrel,hbef⟩:=J.tr.rel k hW (by rw[hall k (G.wk k hW).2];omega);obtain⟨x,hx,hmem,hh⟩:=hc;rcases qcc hx with ⟨hi,hx'⟩|⟨_,op,hop',_,hxa⟩
       . have hg':t.g? i=some k:=by rw[g?_old hi]at hg;exact hg
         rcases hbef i x hg' hx' with h1|⟨h1,h2⟩
         . obtain⟨opi,qkP,hgi⟩:=map_eq_some_iff.1 hg';obtain⟨opp,qkQ,hgp⟩:=map_eq_some_iff.1 hrel.g;exact qyq hrel (λq hq=>J.tr.norel q (by omega)) y0.1 y0.2 J.deaf (.inr (hb_po h1 qkP qkQ (hgi.trans hgp.symm)))
         . rcases hh with hh|hh
           . exact absurd h1 hh
           . exact absurd ((heard_old hi).1 hh) h2
       . rw[one op hop',y0.2]at hxa;cases hxa
     . exact hm.over i k hg ⟨hL.1,hW⟩ hc
theorem q79(G:zX P ty Wg Bx Sh Fz n Wk cr)(hA:∀g w,AnchW g w->g.status=.running)(hAn:∀g w,AnchW g w->∃m,Goes P true (RM ty Wg Bx) (DM Wg Sh Fz) (MW1 P ty Wg Bx Sh Fz AnchW Next) m g w)
   (hN:∀g w,Next g w->vc P Post Sh Fz (λ_=>.left) n 0 0 g w):∀(μ:Nat×Nat) (D:Nat->WD) (tag:Tag) (f0 d0:Nat) (a:Goroutine) (st sm:Int) (gs:Array Goroutine) (w:World) (t:Trace),
   mu n D tag f0=μ->Join P ty Wg Bx Sh Fz AnchW Next n Wk cr p0 D tag f0 d0 a st sm gs w t->yx P Post gs w t:=by
 intro μ
 induction μ using qbK.induction with
 |_ μ ih=>
  intro D tag f0 d0 a st sm gs w t hμ J;subst hμ;by_cases hanch:tag=.anch/\AnchW a w
  . obtain⟨rfl,hw⟩:=hanch;obtain⟨m,hm⟩:=hAn a w hw
    have hd0:d0=1:=by
     have h:=J.main;cases h;rfl
    subst hd0
    have hmode:qL n D .w1 st sm:=by
     have h:=J.mode;cases h with
     |opn h1 h2 h3=>exact .opn trivial h2 (λvs e=>by cases e)
     |reg h1 _ _=>exact h1.elim
     |last L h1 _ _ _=>exact h1.elim
     |fin h1 _=>exact h1.elim
    refine ih (mu n D .w1 m) ?_ D .w1 m 1 a st sm gs w t rfl ⟨J.size,J.here,.w1 hm,J.jW,J.old,J.nine,J.source,J.nodup,J.open_,J.shut,J.fact,J.wg,hmode,J.tr,J.deaf,J.above⟩;unfold mu;exact Prod.Lex.left _ _ (by simp only[phi];omega)
  refine qjj (J.awake hA) (J.runs G hA) (λi x d sl hx hr=>.inl ?_);have Jd:=J.at d;by_cases hi:i=0
  . subst hi;rw[J.here]at hx;cases hx;have hsame:∀{w1 w2:World},w1=w2->Aside Wg w2 w1:=λe=>e▸⟨rfl,rfl,rfl,rfl,λ_ _=>rfl⟩
    have go:∀ {a':Goroutine} {w':World} {es:Array Event} {tag':Tag} {f' d':Nat} {st' sm':Int},stepG P true a (w.at d)=.go a' w' es->Aside Wg (w.at d) w'->WgAt ty Wg w' st' sm'->(∀ e,e∈es->qo5 Sh Fz (w.at d).heap.size e/\e.loc≠.mark (.release (stA Wg)))->deafBehind d0 es=d' ->
        vB P ty Wg Bx Sh Fz AnchW Next tag' f' d' a' w'->yg tag'=yg tag->qL n D tag' st' sm'->(phi n (Vc n D) tag'<phi n (Vc n D) tag∨(phi n (Vc n D) tag'=phi n (Vc n D) tag/\f'<f0)) ->
        ∃gs' w' sl' ops,runT P (crowd gs (w.at d) sl) 0=(.next (crowd gs' w' sl'),ops)/\yx P Post gs' w' (t++ops):=λh1 h2 h3 h4 h5 h6 h7 h8 h9=>by
     obtain⟨gs',ops,k1,k2,k3⟩:=Jd.mgo G sl h1 h2 h3 h4 h5 h6 h7 h8 h9;exact⟨gs',_,sl,ops,k1,ih _ k3 _ _ _ _ _ _ _ _ _ _ rfl k2⟩
    have dm:∀{es:Array Event} {w2:World},DM Wg Sh Fz (w.at d) w2 es->w2=w.at d/\(∀e,e∈es->qo5 Sh Fz (w.at d).heap.size e/\e.loc≠.mark (.release (stA Wg)))/\∀d',deafBehind d' es=d':=λh=>⟨h.1,λe he=>⟨(h.2 e he).1,(h.2 e he).2.2.2⟩,λd'=>deafBehind_still (λe he=>⟨(h.2 e he).2.1,(h.2 e he).2.2.1⟩) d'⟩;have hwg:=Jd.wg;have hmode:=J.mode;have hVn:=qgV n D;have vN:=G.few;have hwl:=Jd.wlt;have hmain:=Jd.main;cases hmain with
    |@cl l m _ _ h=>
     rcases qd1 (RM.refl _) h with hst|⟨m',hm,g',w',es,hgo,hdm,hg'⟩
     . cases l with
       |nil=>
        obtain⟨_,g',hgo,m',hm'⟩:=hst;refine go hgo (hsame rfl) hwg (q4v (λb=>⟨by simp,by simp⟩) (by simp)) rfl (.anch hm') rfl ?_ (.inl (by simp only[phi,length_nil];omega));cases hmode with
        |opn h1 h2 h3=>exact .opn trivial h2 (λvs e=>by cases e)
        |reg h1 _ _=>exact h1.elim
        |last L h1 _ _ _=>exact h1.elim
        |fin h1 _=>exact h1.elim
       |cons c l=>
        obtain⟨gs',w',ops,D',tag',f',a',st',sm',k1,k2,k3⟩:=Jd.close G hst sl;exact⟨gs',w',sl,ops,k1,ih _ k3 _ _ _ _ _ _ _ _ _ _ rfl k2⟩
     . obtain⟨rfl,k1,k2⟩:=dm hdm;exact go hgo (hsame rfl) hwg k1 (k2 _) (.cl hg') rfl hmode (.inr ⟨rfl,by omega⟩)
    |anch h=>
     rcases qur (RM.refl _) h with hst|⟨m',hm,g',w',es,hgo,hdm,hg'⟩
     . exact absurd ⟨rfl,hst w (RM.at (w.at d) w.drawn)⟩ hanch
     . obtain⟨rfl,k1,k2⟩:=dm hdm;exact go hgo (hsame rfl) hwg k1 (k2 _) (.anch hg') rfl hmode (.inr ⟨rfl,by omega⟩)
    |w1 h=>
     rcases qd1 (RM.refl _) h with hst|⟨m',hm,g',w',es,hgo,hdm,hg'⟩
     . cases hmode with
       |opn h1 h2 h3=>
        obtain⟨g',hgo,hz,hnz⟩:=hst.2 (Vc n D) (by omega) hwg;by_cases hv:Vc n D=0
        . obtain⟨m',hm'⟩:=hz hv
          have hall:∀i,i<n->(D i).stage=1:=λi hi=>by
           rcases h2 i hi with h|h
           . have:=le_sumTo (f:=λa=>cnt (D a)) hi;have c1:cnt (D i)=1:=by simp[cnt,h]
             simp only[Vc]at hv;omega
           . exact h
          have hwg':WgAt ty Wg (w.at d) 0 0:=by rw[hv]at hwg;simpa using hwg
          exact go hgo (hsame rfl) hwg' (qmb G hwl (quq Wg)) rfl (.ke hm') rfl (.fin trivial hall) (.inl (by simp only[phi];omega))
        . obtain⟨m',hm'⟩:=hnz hv;exact go hgo (hsame rfl) hwg (qmb G hwl (quq Wg)) rfl (.w2 hm') rfl (.opn trivial h2 (λvs e=>by cases e;omega)) (.inl (by simp only[phi];omega))
       |reg h1 _ _=>exact h1.elim
       |last L h1 _ _ _=>exact h1.elim
       |fin h1 _=>exact h1.elim
     . obtain⟨rfl,k1,k2⟩:=dm hdm;exact go hgo (hsame rfl) hwg k1 (k2 _) (.w1 hg') rfl hmode (.inr ⟨rfl,by omega⟩)
    |@w2 vs m _ _ h=>
     rcases qd1 (RM.refl _) h with hst|⟨m',hm,g',w',es,hgo,hdm,hg'⟩
     . cases hmode with
       |opn h1 h2 h3=>
        obtain⟨hle,h1v⟩:=h3 vs rfl;obtain⟨hhit,hmiss⟩:=hst.2 (Vc n D) (by omega) hwg;by_cases hv:Vc n D=vs
        . obtain⟨g',hgo,m',hm'⟩:=hhit hv;exact go hgo (aside_setCell _ (stA Wg) _) (hwg.setSt _) (qmb G hwl (qo2 Wg)) rfl (.w3 hm') rfl (.reg trivial h2 (by omega)) (.inl (by simp only[phi];omega))
        . obtain⟨g',hgo,m',hm'⟩:=hmiss hv;exact go hgo (hsame rfl) hwg (qmb G hwl (quq Wg)) rfl (.anch hm') rfl (.opn trivial h2 (λvs e=>by cases e)) (.inl (by simp only[phi];omega))
       |reg h1 _ _=>exact h1.elim
       |last L h1 _ _ _=>exact h1.elim
       |fin h1 _=>exact h1.elim
     . obtain⟨rfl,k1,k2⟩:=dm hdm;exact go hgo (hsame rfl) hwg k1 (k2 _) (.w2 hg') rfl hmode (.inr ⟨rfl,by omega⟩)
    |w3 h=>
     rcases qur (RM.refl _) h with hst|⟨m',hm,g',w',es,hgo,hdm,hg'⟩
     . obtain⟨_,_,qeL,hwake⟩:=hst _ (RM.refl _)
       have blocks:sm=0->qL n D .blk st sm->∃gs' w' sl' ops,runT P (crowd gs (w.at d) sl) 0=(.next (crowd gs' w' sl'),ops)/\yx P Post gs' w' (t++ops):=λh0 hm=>by
        subst h0;exact go (qeL ⟨st,hwg⟩) (hsame rfl) hwg (λe he=>by simp at he) rfl (.blk hst) rfl hm (.inr ⟨rfl,Nat.succ_pos _⟩)
       cases hmode with
       |opn h1 _ _=>exact h1.elim
       |reg _ h2 h3=>exact blocks rfl (.reg trivial h2 h3)
       |last L _ h2 h3 h4=>exact blocks rfl (.last L trivial h2 h3 h4)
       |sema h2=>
        obtain⟨g',hgo,m',hm'⟩:=hwake hwg;exact go hgo (aside_setCell _ (smA Wg) _) (hwg.setSm 0) (qmb G hwl (q4u Wg)) rfl (.w4 hm') rfl (.fin trivial h2) (.inl (by simp only[phi];omega))
       |fin h1 _=>exact h1.elim
     . obtain⟨rfl,k1,k2⟩:=dm hdm;exact go hgo (hsame rfl) hwg k1 (k2 _) (.w3 hg') rfl hmode (.inr ⟨rfl,by omega⟩)
    |blk h=>cases hr
    |w4 h=>
     rcases qd1 (RM.refl _) h with hst|⟨m',hm,g',w',es,hgo,hdm,hg'⟩
     . cases hmode with
       |opn h1 _ _=>exact h1.elim
       |reg h1 _ _=>exact h1.elim
       |last L h1 _ _ _=>exact h1.elim
       |fin h1 h2=>
        obtain⟨g',hgo,m',hm'⟩:=hst.2 hwg;exact go hgo (hsame rfl) hwg (qmb G hwl (quq Wg)) rfl (.ke hm') rfl (.fin trivial h2) (.inl (by simp only[phi];omega))
     . obtain⟨rfl,k1,k2⟩:=dm hdm;exact go hgo (hsame rfl) hwg k1 (k2 _) (.w4 hg') rfl hmode (.inr ⟨rfl,by omega⟩)
    |ke h=>
     rcases qd1 (RM.refl _) h with hst|⟨m',hm,g',w',es,hgo,hdm,hg'⟩
     . cases hmode with
       |opn h1 _ _=>exact h1.elim
       |reg h1 _ _=>exact h1.elim
       |last L h1 _ _ _=>exact h1.elim
       |fin h1 h2=>
        obtain⟨_,g',hgo,m',hm'⟩:=hst;exact go hgo (hsame rfl) hwg (q4v (λb=>⟨by simp,by simp⟩) (by simp)) rfl (.acq hm') rfl (.fin trivial h2) (.inl (by simp only[phi];omega))
     . obtain⟨rfl,k1,k2⟩:=dm hdm;exact go hgo (hsame rfl) hwg k1 (k2 _) (.ke hg') rfl hmode (.inr ⟨rfl,by omega⟩)
    |acq h=>
     rcases qd1 (RM.refl _) h with hst|⟨m',hm,g',w',es,hgo,hdm,hg'⟩
     . obtain⟨_,g',hgo,hnext⟩:=hst;obtain⟨gs',ops,q,k1,k2⟩:=Jd.done G hgo sl;exact⟨gs',_,sl,ops,k1,hN g' _ hnext _ _ _ k2⟩
     . obtain⟨rfl,k1,k2⟩:=dm hdm;exact go hgo (hsame rfl) hwg k1 (k2 _) (.acq hg') rfl hmode (.inr ⟨rfl,by omega⟩)
  . obtain⟨gs',w',ops,D',tag',f',a',st',sm',k1,k2,k3⟩:=Jd.worker G hA hi hx hr sl;exact⟨gs',w',sl,ops,k1,ih _ k3 _ _ _ _ _ _ _ _ _ _ rfl k2⟩
end
def qkR:qA->Prop
 | .seat _=>True
 | .left=>False
def WkT(T:Nat->qA)(n:Nat)(i:Nat):Prop:=i≠0/\i<n/\qkR (T i)
section
variable [Payload]{P:Program}{ty:TypeId}{Wg:Nat}{Bx:Nat->Prop}{Sh:Nat->Prop}{Fz:Loc->Prop}{AnchW Next:Goroutine->World->Prop}{n:Nat}{T:Nat->qA}{cr:Nat->Hands}{Post:Value->World->Prop}
 {a:Goroutine} {w:World}
open Classical in
theorem q8a(G:zX P ty Wg Bx Sh Fz n (WkT T n) cr)(hA:∀g w,AnchW g w->g.status=.running)(hAn:∀g w,AnchW g w->∃m,Goes P true (RM ty Wg Bx) (DM Wg Sh Fz) (MW1 P ty Wg Bx Sh Fz AnchW Next) m g w)
   (hN:∀g w,Next g w->vc P Post Sh Fz (λ_=>.left) n 0 0 g w) (hT:∀i,WkT T n i->T i=.seat (cr i).s) (hout:∀i,n<=i->T i=.left) (yD:∀i,WkT T n i->((⟨(cr i).bx,0,none⟩:Addr),(cr i).val)∈(cr i).s.L)
   {l:List Nat} (hl:l.Nodup) (hl1:∀i,WkT T n i->(cr i).s.c∈l) (hl2:∀c,c∈l->∃i,WkT T n i/\(cr i).s.c=c) {V:Nat} (hV:(sumTo n λi=>if WkT T n i then 1 else 0)=V) (hwg:WgAt ty Wg w (V*KK) 0)
   {m:Nat} (hm:Goes P true (RM ty Wg Bx) (DM Wg Sh Fz) (MCl P ty Wg Bx Sh Fz AnchW l) m a w):vc P Post Sh Fz T n 0 0 a w:=by
 intro gs t q H
 let D:Nat->WD:=λi=>if WkT T n i then ⟨9,q i,0⟩else ⟨1,q i,Deaf t i⟩
 have hD1:∀i,WkT T n i->D i=⟨9,q i,0⟩:=λi h=>if_pos h;have hD2:∀i,¬WkT T n i->D i=⟨1,q i,Deaf t i⟩:=λi h=>if_neg h
 have xe:∀i,i≠0->i<n->¬WkT T n i->T i=.left:=λi h1 h2 h3=>by
  cases hTi:T i with
  |left=>rfl
  |seat s=>exact absurd ⟨h1,h2,by rw[hTi];trivial⟩ h3
 have hVc:Vc n D=V:=by
  rw[<-hV];refine sumTo_congr (λi _=>?_);by_cases h:WkT T n i
  . rw[hD1 i h,if_pos h];rfl
  . rw[hD2 i h,if_neg h];rfl
 refine q79 (p0:=t.size) G hA hAn hN _ D (.cl l) m 0 a (V*KK) 0 gs w t rfl ⟨H.size,H.here,.cl hm,λi x hi hx=>?_,λi h=>by rw[hD2 i h],λi h=>?_,hl2,hl,λi h _=>?_,λi h h8=>?_,λi h _=>?_,hwg,?_,?_,H.deaf,H.above⟩
 . have hs:=H.jW i x hi hx;have hlt:=H.lt hx;by_cases h:WkT T n i
   . rw[hD1 i h];rw[hT i h]at hs;exact⟨⟨rfl,by rw[show (i==0)=false from by simp[hi]]at hs;exact hs.2⟩,hs.1⟩
   . rw[hD2 i h];rw[xe i hi hlt h]at hs;exact⟨.of (.quit hs.2),rfl⟩
 . rw[hD1 i h];exact⟨λ_=>hl1 i h,λ_=>rfl⟩
 . exact(H.fact i _ h.1 h.2.1 (hT i h)).2
 . rw[hD1 i h]at h8;cases h8
 . have h1:=(H.fact i _ h.1 h.2.1 (hT i h)).1;exact⟨h1,h1 _ (yD i h)⟩
 . have key:qL n D (.cl l) ((Vc n D:Nat) * KK) 0:=.opn trivial (fun i _=>by
    by_cases h:WkT T n i
    . rw[hD1 i h];exact .inl (by show 5<=9;omega)
    . rw[hD2 i h];exact .inr rfl) (λvs e=>by cases e)
   rw[hVc]at key;exact key
 . refine⟨⟨H.zC.clean,H.zC.known,λk hk i x ha hs hw=>H.zC.wrote k hk i x ha ?_ hw,H.zC.seen,H.zC.quiet,λk l hs=>H.zC.sub k l ?_,λi k hg hL hc=>H.zC.over i k hg ⟨hL.1,?_⟩ hc⟩,Nat.le_refl _,λp hp e=>?_,λi h h6=>?_⟩
   . obtain⟨h1,_,h3⟩:=hs;exact⟨h1.1,h1.2.1,_,hT k h1,h3⟩
   . obtain⟨h1,_,h3⟩:=hs;exact⟨h1.1,h1.2.1,_,hT k h1,h3⟩
   . by_cases hk:k<n
     . exact xe k hL.1 hk hL.2
     . exact hout k (by omega)
   . have:=lt_of_act? e;omega
   . rw[hD1 i h]at h6;have h6:9<=6:=h6;omega
end
end
section
open Go.Conc
def StW(T:Nat->qA)(n h:Nat)(r:Nat):Prop:=∃i s,i≠h/\i<n/\T i=.seat s/\(r=s.c∨∃x,x∈s.L/\x.1.block=r)
structure Still(T:Nat->qA)(n h:Nat)(w w':World):Prop where
 chan:∀i s,i≠h->i<n->T i=.seat s->w'.heap[s.c]?=w.heap[s.c]?
 cell:∀i s,i≠h->i<n->T i=.seat s->∀x,x∈s.L->w.cell? x.1=some x.2->w'.cell? x.1=some x.2
theorem Still.of{T:Nat->qA}{n h:Nat}{w w':World}(k:∀r,StW T n h r->w'.heap[r]?=w.heap[r]?):Still T n h w w':=
 ⟨λi s h1 h2 h3=>k _ ⟨i,s,h1,h2,h3,.inl rfl⟩,λi s h1 h2 h3 x hx hc=>by
  have:=k _ ⟨i,s,h1,h2,h3,.inr ⟨x,hx,rfl⟩⟩;unfold cell? at hc |-;rw[this];exact hc⟩
theorem Still.refl{T:Nat->qA}{n h:Nat}{w:World}:Still T n h w w:=⟨λ_ _ _ _ _=>rfl,λ_ _ _ _ _ _ _ hc=>hc⟩
structure jV(Sh:Nat->Prop)(Fz:Loc->Prop)(T:Nat->qA)(n h:Nat)(w w':World)(es:Array Event):Prop where
 still:Still T n h w w'
 evs:∀e,e∈es->qo5 Sh Fz w'.heap.size e
 size:w.heap.size<=w'.heap.size
def DS(Sh:Nat->Prop)(Fz:Loc->Prop)(T:Nat->qA)(n h:Nat)(w w':World)(es:Array Event):Prop:=
 jV Sh Fz T n h w w' es/\∀e,e∈es->e.loc≠.mark .disable/\e.loc≠.mark .enable
section
variable {P:Program}{Post:Value->World->Prop}{Sh:Nat->Prop}{Fz:Loc->Prop}{T:Nat->qA}{n h dd:Nat}{g:Goroutine}{w:World}
theorem jV.idle(w:World):jV Sh Fz T n h w w #[]:=⟨.refl,λe he=>by simp at he,Nat.le_refl _⟩
theorem qkS:LetsDraw (DS Sh Fz T n h):=λw=>⟨⟨⟨λ_ _ _ _ _=>rfl,λ_ _ _ _ _ _ _ hc=>hc⟩,λe he=>by simp at he,Nat.le_refl _⟩,λe he=>by simp at he⟩
theorem q0i(hs:g.status=.running)(step:∀d,∃g' w' es,stepG P (h==0) g (w.at d)=.go g' w' es/\jV Sh Fz T n h (w.at d) w' es/\vc P Post Sh Fz T n h (deafBehind dd es) g' w'):vc P Post Sh Fz T n h dd g w:=by
 refine quu hs (λd gs t q H sl=>?_);obtain⟨g',w',es,h1,h2,h3⟩:=step d;have ho:vZ Sh Fz T n h (w.at d) w' es:=⟨λi s hi hn hT=>⟨λx hx=>h2.still.cell i s hi hn hT x hx ((H.fact i s hi hn hT).1 x hx),h2.still.chan i s hi hn hT⟩,h2.evs,h2.size⟩;have hrun:=runT_crowd_go (P:=P) (sl:=sl) H.here h1;rw[H.xY ho.chan g']at hrun;exact .inl ⟨_,w',sl,_,hrun,h3 _ _ _ (H.stepped ho)⟩
def qc(P:Program)(Post:Value->World->Prop)(Sh:Nat->Prop)(Fz:Loc->Prop)(T:Nat->qA)(n h dd:Nat)(g:Goroutine)(w:World):Prop:=∀d,vc P Post Sh Fz T n h dd g (w.at d)
theorem qc.lead(H:qc P Post Sh Fz T n h dd g w):vc P Post Sh Fz T n h dd g w:=H w.drawn
theorem qc.at(H:qc P Post Sh Fz T n h dd g w)(d:Nat):qc P Post Sh Fz T n h dd g (w.at d):=λe=>H e
theorem qct(hs:g.status=.running)(step:∀d,∃g' w' es,stepG P (h==0) g (w.at d)=.go g' w' es/\jV Sh Fz T n h (w.at d) w' es/\vc P Post Sh Fz T n h (deafBehind dd es) g' w'):qc P Post Sh Fz T n h dd g w:=
 λ_=>q0i hs (λe=>step e)
theorem qdn{g':Goroutine}(hs:g.status=.running)(hc:∀w,stepG P (h==0) g w=.go g' w #[])(H:qc P Post Sh Fz T n h dd g' w):qc P Post Sh Fz T n h dd g w:=
 qct hs (λd=>⟨g',w.at d,#[],hc _,.idle _,by show vc P Post Sh Fz T n h dd g' _;exact H d⟩)
theorem qao{b:Frame}{a:Act}{x y:Code}{k:List Item}{cs:List Frame}(H:qc P Post Sh Fz T n h dd (G (b.at a (.code x::.code y::k)) cs) w):qc P Post Sh Fz T n h dd (G (b.at a (.code (.seq x y)::k)) cs) w:=
 qdn rfl (λ_=>stepG_seq) H
theorem qra{b:Frame}{a:Act}{k:List Item}{cs:List Frame}(H:qc P Post Sh Fz T n h dd (G (b.at a k) cs) w):qc P Post Sh Fz T n h dd (G (b.at a (.code .skip::k)) cs) w:=
 qdn rfl (λ_=>stepG_skip) H
theorem qgb{b:Frame}{a:Act}{id:Nat}{x:Code}{k:List Item}{cs:List Frame}(H:qc P Post Sh Fz T n h dd (G (b.at a (.code x::.inBlock id::k)) cs) w):qc P Post Sh Fz T n h dd (G (b.at a (.code (.block id x)::k)) cs) w:=
 qdn rfl (λ_=>stepG_block) H
theorem qo3{b:Frame}{a:Act}{id:Nat}{k:List Item}{cs:List Frame}(H:qc P Post Sh Fz T n h dd (G (b.at a k) cs) w):qc P Post Sh Fz T n h dd (G (b.at a (.inBlock id::k)) cs) w:=
 qdn rfl (λ_=>stepG_inBlock) H
theorem qrb{b:Frame}{a:Act}{x:Code}{k:List Item}{cs:List Frame}(H:qc P Post Sh Fz T n h dd (G (b.at a (.code x::.inLoop x::k)) cs) w):qc P Post Sh Fz T n h dd (G (b.at a (.code (.loop x)::k)) cs) w:=
 qdn rfl (λ_=>stepG_loop) H
theorem qsc{b:Frame}{a:Act}{x:Code}{k:List Item}{cs:List Frame}(H:qc P Post Sh Fz T n h dd (G (b.at a (.code x::.inLoop x::k)) cs) w):qc P Post Sh Fz T n h dd (G (b.at a (.inLoop x::k)) cs) w:=
 qdn rfl (λ_=>stepG_inLoop) H
theorem qan{b:Frame}{a:Act}{ops:Array Oper}{k:List Item}{cs:List Frame}(H:qc P Post Sh Fz T n h dd (G (b.at a k) cs) w):qc P Post Sh Fz T n h dd (G (b.at a (.inRegion ops []::k)) cs) w:=
 qdn rfl (λ_=>stepG_region_end) H
theorem qau{b:Frame}{a:Act}{id:Nat}{ops:Array Oper}{k:List Item}{cs:List Frame}(H:qc P Post Sh Fz T n h dd (G (b.at a (.inRegion ops (range ops.size)::k)) cs) w):qc P Post Sh Fz T n h dd (G (b.at a (.code (.region id ops false)::k)) cs) w:=
 qdn rfl (λ_=>stepG_region) H
theorem qiw{b:Frame}{a:Act}{c:Operand}{x y:Code}{t:Bool}{k:List Item}{cs:List Frame}(hc:a.eval c=.bool t)(H:qc P Post Sh Fz T n h dd (G (b.at a (.code (if t then x else y)::k)) cs) w):qc P Post Sh Fz T n h dd (G (b.at a (.code (.cond c x y)::k)) cs) w:=
 qdn rfl (λ_=>stepG_cond hc) H
theorem qxr{b:Frame}{a:Act}{id:Nat}{k k':List Item}{cs:List Frame}(he:exitTo id k=some k')(H:qc P Post Sh Fz T n h dd (G (b.at a k') cs) w):qc P Post Sh Fz T n h dd (G (b.at a (.code (.exit id)::k)) cs) w:=
 qdn rfl (λ_=>stepG_exit he) H
theorem q8b{Sh':Nat->Prop}{Fz':Loc->Prop}(h1:∀r,Sh r->Sh' r)(h2:∀r,Sh' r->Sh r∨w.heap.size<=r)(h3:∀l,Fz l->Fz' l)(H:vc P Post Sh' Fz' T n h dd g w):vc P Post Sh Fz T n h dd g w:=by
 intro gs t q hall;refine H gs t q ⟨hall.size,hall.here,hall.jW,hall.fact,hall.apart,?_,hall.deaf,hall.above⟩;refine hall.zC.more h1 h2 h3 (λk l hl=>?_);obtain⟨hk,hkn,s,hT,hL⟩:=hl;exact qlg (hall.fact k s hk hkn hT).1 l hL
theorem qrc{Sh':Nat->Prop}{Fz':Loc->Prop}(h1:∀r,Sh r->Sh' r)(h2:∀r,Sh' r->Sh r∨w.heap.size<=r)(h3:∀l,Fz l->Fz' l)(H:qc P Post Sh' Fz' T n h dd g w):qc P Post Sh Fz T n h dd g w:=
 λd=>q8b h1 (λr hr=>h2 r hr) h3 (H d)
end
structure Base where
 P:Program
 A:Addr->Prop
 F:FuncId->Prop
 N0:Nat
 fresh:∀a:Addr,N0<=a.block->A a
 up:∀a b:Addr,A a->b.block=a.block->a.off<=b.off->A b
 G:Nat
 K:Nat
 X:FuncId->Nat->Prop
structure Mks(B:Base) where
 N:Nat
 ge:B.N0<=N
 Pt:Nat->Prop
 Z:Nat->Prop
 Ch:Nat->Prop
 old:∀r,Pt r∨Ch r->r<N
 zp:∀r,Z r->Pt r
def Base.pen(B:Base)(M:Mks B):Pen where
 P:=B.P
 A:=B.A
 F:=B.F
 N:=M.N
 fresh:=λa h=>B.fresh a (Nat.le_trans M.ge h)
 up:=B.up
 Pt:=M.Pt
 Z:=M.Z
 Ch:=M.Ch
 old:=M.old
 zp:=M.zp
 G:=B.G
 K:=B.K
 X:=B.X
structure Mks.Le{B:Base}(M M':Mks B):Prop where
 n:M.N<=M'.N
 pt:∀r,M.Pt r->M'.Pt r
 z:∀r,M.Z r->M'.Z r
 ch:∀r,M.Ch r->M'.Ch r
 nw:∀r,M'.Pt r->M.Pt r∨M.N<=r
theorem Mks.Le.refl{B:Base}(M:Mks B):M.Le M:=⟨Nat.le_refl _,λ_ h=>h,λ_ h=>h,λ_ h=>h,λ_ h=>.inl h⟩
theorem Mks.Le.trans{B:Base}{a b c:Mks B}(h:a.Le b)(k:b.Le c):a.Le c:=⟨Nat.le_trans h.n k.n,λr x=>k.pt r (h.pt r x),λr x=>k.z r (h.z r x),λr x=>k.ch r (h.ch r x),λr x=>(k.nw r x).elim (λy=>h.nw r y) (λy=>.inr (Nat.le_trans h.n y))⟩
def Mks.void{B:Base}(M:Mks B)(r:Nat)(h:M.N<=r):Mks B where
 N:=r+1
 ge:=Nat.le_trans M.ge (Nat.le_succ_of_le h)
 Pt:=λx=>M.Pt x∨x=r
 Z:=λx=>M.Z x∨x=r
 Ch:=M.Ch
 old:=λx hx=>by
  rcases hx with (hx|hx)|hx
  . have:=M.old x (.inl hx);omega
  . omega
  . have:=M.old x (.inr hx);omega
 zp:=λx hx=>hx.imp (M.zp x) id
def Mks.chan{B:Base}(M:Mks B)(r:Nat)(h:M.N<=r):Mks B where
 N:=r+1
 ge:=Nat.le_trans M.ge (Nat.le_succ_of_le h)
 Pt:=M.Pt
 Z:=M.Z
 Ch:=λx=>M.Ch x∨x=r
 old:=λx hx=>by
  rcases hx with hx|hx|hx
  . have:=M.old x (.inl hx);omega
  . have:=M.old x (.inr hx);omega
  . omega
 zp:=M.zp
section
variable {B:Base}{M:Mks B}{w z:World}
theorem Mks.yh(M:Mks B)(r:Nat)(h:M.N<=r):M.Le (M.void r h):=⟨Nat.le_succ_of_le h,λ_ x=>.inl x,λ_ x=>.inl x,λ_ x=>x,λ_ x=>x.imp id (λe=>by rw[e];exact h)⟩
theorem Mks.yj(M:Mks B)(r:Nat)(h:M.N<=r):M.Le (M.chan r h):=⟨Nat.le_succ_of_le h,λ_ x=>x,λ_ x=>x,λ_ x=>.inl x,λ_ x=>.inl x⟩
theorem heap_alloc(w:World)(o:Obj)(r:Nat):(w.alloc o).heap[r]?=if r=w.heap.size then some o else w.heap[r]?:=by
 show (w.heap.push o)[r]?=_;rw[Array.getElem?_push]
theorem qcr(w:World)(o:Obj){r:Nat}(h:r≠w.heap.size):(w.alloc o).heap[r]?=w.heap[r]?:=by rw[heap_alloc,if_neg h]
theorem heap_alloc_new(w:World)(o:Obj):(w.alloc o).heap[w.heap.size]?=some o:=by rw[heap_alloc,if_pos rfl]
theorem Both.void(h:Both (B.pen M) w z)(c:Array Value)(e:TypeId):Both (B.pen (M.void w.heap.size h.rel.room)) (w.alloc (.cells c e (0,0))) (z.alloc (.cells #[] e)):=by
 have hs:=h.rel.size;have hN:M.N<=w.heap.size:=h.rel.room;refine⟨⟨by simp[hs],h.rel.os,?_,λr hp=>?_,λr hB hp=>?_,λr o hB hp ho=>?_,λr hc=>?_,h.rel.drawn⟩,h.tape⟩
 . show w.heap.size+1<=_;simp
 . by_cases hr:r=w.heap.size
   . subst hr;refine⟨#[],c,e,(0,0),by rw[hs];exact heap_alloc_new z _,heap_alloc_new w _,Nat.zero_le _,λ_=>rfl,λi v hv=>by simp at hv,.inl rfl,λ_=>Nat.zero_le _⟩
   . have hp':M.Pt r:=hp.elim id (λk=>absurd k hr);obtain⟨c',c2,e2,fr,h1,h2,h3,h4,h5⟩:=h.rel.part r hp';exact⟨c',c2,e2,fr,by rw[qcr z _ (by rw[<-hs];exact hr)];exact h1,by rw[qcr w _ hr];exact h2,h3,λhz=>h4 (hz.elim id (λk=>absurd k hr)),h5⟩
 . have hr:r≠w.heap.size:=λk=>hp (.inr k);rw[qcr z _ (by rw[<-hs];exact hr),qcr w _ hr];exact h.rel.same r hB (λk=>hp (.inl k))
 . have hr:r≠w.heap.size:=λk=>hp (.inr k);rw[qcr z _ (by rw[<-hs];exact hr)]at ho;exact h.rel.cln r o hB (λk=>hp (.inl k)) ho
 . have hr:r≠w.heap.size:=λk=>by have:=M.old r (.inr hc);omega
   rw[qcr z _ (by rw[<-hs];exact hr)];exact h.rel.chn r hc
theorem Both.alloc(h:Both (B.pen M) w z){o:Obj}(ho:q01 B.A B.F o):Both (B.pen M) (w.alloc o) (z.alloc o):=by
 have hs:=h.rel.size;have hN:M.N<=w.heap.size:=h.rel.room;have hno:=Pen.yS (C:=B.pen M) hN;refine⟨⟨by simp[hs],h.rel.os,?_,λr hp=>?_,λr hB hp=>?_,λr x hB hp hx=>?_,λr hc=>?_,h.rel.drawn⟩,h.tape⟩
 . have:=h.rel.room;simp only[size_alloc];omega
 . have hr:r≠w.heap.size:=λk=>hno.1 (k▸hp);obtain⟨c',c2,e2,fr,h1,h2,h3⟩:=h.rel.part r hp;exact⟨c',c2,e2,fr,by rw[qcr z _ (by rw[<-hs];exact hr)];exact h1,by rw[qcr w _ hr];exact h2,h3⟩
 . rw[heap_alloc,heap_alloc,hs];split
   . rfl
   . exact h.rel.same r hB hp
 . rw[heap_alloc]at hx;split at hx
   . cases hx;exact .inl ho
   . exact h.rel.cln r x hB hp hx
 . have hr:r≠w.heap.size:=λk=>hno.2 (k▸hc);rw[qcr z _ (by rw[<-hs];exact hr)];exact h.rel.chn r hc
theorem Both.chan(h:Both (B.pen M) w z)(k:Nat)(b:Array Value)(cl:Bool)(m n:Nat)(t:Bool):Both (B.pen (M.chan w.heap.size h.rel.room)) (w.alloc (.chan k b cl m n t)) (z.alloc (.chan k b cl m n t)):=by
 have h':=h.alloc (o:=.chan k b cl m n t) trivial;have hs:=h.rel.size;refine⟨⟨h'.rel.size,h'.rel.os,?_,h'.rel.part,h'.rel.same,h'.rel.cln,λr hc=>?_,h'.rel.drawn⟩,h'.tape⟩
 . show w.heap.size+1<=_;simp
 . rcases hc with hc|rfl
   . exact h'.rel.chn r hc
   . exact⟨k,b,cl,m,n,t,by rw[hs];exact heap_alloc_new z _⟩
theorem Both.qkT(h:Both (B.pen M) w z){a:Addr}(ha:M.Z a.block)(v:Value):Both (B.pen M) (w.setCell a v) z:=by
 have hp0:=M.zp _ ha;refine⟨⟨by simp[setCell,h.rel.size],h.rel.os,by have:=h.rel.room;simpa[setCell]using this,λr hp=>?_,λr hB hp=>?_,h.rel.cln,h.rel.chn,h.rel.drawn⟩,h.tape⟩
 . obtain⟨c',c2,e2,fr,h1,h2,h3,h4,h5,h6⟩:=h.rel.part r hp;by_cases hr:a.block=r
   . subst hr;refine⟨c',_,e2,fr,h1,qeu w a v h2,?_,h4,λi x hx=>?_,⟨h6.1.imp id (λk=>⟨k.1,?_⟩),h6.2⟩⟩
     . split
       . exact h3
       . simpa using h3
     . rw[h4 ha]at hx;simp at hx
     . split
       . exact k.2
       . simpa using k.2
   . exact⟨c',c2,e2,fr,h1,by rw[qcw _ _ _ _ hr];exact h2,h3,h4,h5,h6⟩
 . have hne:a.block≠r:=λk=>hp (by rw[<-k];exact hp0);rw[qcw _ _ _ _ hne];exact h.rel.same r hB hp
theorem Both.set(h:Both (B.pen M) w z){a:Addr}(ha:B.A a){v x:Value}(hv:z.cell? a=some x)(hok:Ok B.A B.F v):Both (B.pen M) (w.setCell a v) (z.setCell a v):=
 ⟨h.rel.set (C:=B.pen M) ha hv hok,h.tape⟩
theorem qci(w:World)(c k:Nat)(b:Array Value)(cl:Bool)(m n:Nat)(t:Bool)(r:Nat):(w.setChan c k b cl m n t).heap[r]?=if c=r then (if c<w.heap.size then some (.chan k b cl m n t)else none)else w.heap[r]?:=by
 unfold World.setChan;rw[Array.getElem?_setIfInBounds]
theorem Both.setChan(h:Both (B.pen M) w z){c:Nat}(hnp:¬M.Pt c)(k:Nat)(b:Array Value)(cl:Bool)(m n:Nat)(t:Bool):Both (B.pen M) (w.setChan c k b cl m n t) (z.setChan c k b cl m n t):=by
 have hs:=h.rel.size;refine⟨⟨by simp[World.setChan,hs],h.rel.os,by have:=h.rel.room;simpa[World.setChan]using this,λr hp=>?_,λr hB hp=>?_,λr x hB hp hx=>?_,λr hr=>?_,h.rel.drawn⟩,h.tape⟩
 . have hne:c≠r:=λe=>hnp (e▸hp);obtain⟨c',c2,e2,fr,h1,h2,h3⟩:=h.rel.part r hp;exact⟨c',c2,e2,fr,by rw[qci,if_neg hne];exact h1,by rw[qci,if_neg hne];exact h2,h3⟩
 . rw[qci,qci,hs];split
   . rfl
   . exact h.rel.same r hB hp
 . rw[qci]at hx;split at hx
   . split at hx
     . cases hx;exact .inl trivial
     . cases hx
   . exact h.rel.cln r x hB hp hx
 . by_cases hr':c=r
   . subst hr';obtain⟨k1,b1,cl1,m1,n1,t1,h1⟩:=h.rel.chn c hr;refine⟨k,b,cl,m,n,t,?_⟩;rw[qci,if_pos rfl,if_pos (Array.getElem?_eq_some_iff.1 h1).1]
   . obtain⟨k1,b1,cl1,m1,n1,t1,h1⟩:=h.rel.chn r hr;exact⟨k1,b1,cl1,m1,n1,t1,by rw[qci,if_neg hr'];exact h1⟩
theorem Both.size(h:Both (B.pen M) w z):z.heap.size=w.heap.size:=h.rel.size.symm
theorem Both.cell(h:Both (B.pen M) w z){a:Addr}(ha:B.A a){v:Value}(hv:z.cell? a=some v):w.cell? a=some v/\Ok B.A B.F v:=by
 obtain⟨h1,h2,_⟩:=h.rel.cell (C:=B.pen M) ha hv;exact⟨h1,h2⟩
theorem Both.thaw(h:Both (B.pen M) w z){a:Addr}(ha:B.A a){v:Value}(hv:z.cell? a=some v):w.frozen? a=false:=(h.rel.cell (C:=B.pen M) ha hv).2.2.2.2.2
theorem Both.yl(h:Both (B.pen M) w z){c:Nat}(hB:(B.pen M).B c)(hnp:¬M.Pt c):z.heap[c]?=w.heap[c]?:=(h.rel.same c hB hnp).symm
end
section
variable {C:Pen}{S:List String}{Post:Value->World->Prop}{Sh:Nat->Prop}{Fz:Loc->Prop}{T:Nat->qA}{n h dd:Nat}{w z:World}
def jv(T:Nat->qA)(n h:Nat)(w:World):Prop:=∀i s,i≠h->i<n->T i=.seat s->holds s.L w
theorem jv.at{T:Nat->qA}{n h:Nat}{w:World}(H:jv T n h w)(d:Nat):jv T n h (w.at d):=H
theorem qxs(H:zw C S){b:Frame}{a:Act}{c:Code}(hX:FrE C S (b.at ⟨a.tmps,[]⟩ [.code c]))(hb:Both C w z)(O:Outside C Sh Fz T n h)
   (hL:jv T n h w) {Q:Exit->Act->World->Prop} (hR:∀e v x y,x.heap=y.heap->Q e v x->Q e v y) (hc:∀d t,c.wp C.P Q ⟨a.tmps,[]⟩ (re (z.at d) t 0)) (hQ:∀e a w,Q e a w->Ends e)
   {k:List Item} {cs:List Frame}
   (next:∀e a' todo w' z',Both C w' z'->Held C w w'->FrE C S (qrd b a' todo e)->(e=.normal->todo=[])->jv T n h w'->Q e a' z'->qc C.P Post Sh Fz T n h dd (G (qrd b ⟨a'.tmps,a.defers⟩ (todo++k) e) cs) w') :
   qc C.P Post Sh Fz T n h dd (G (b.at a (.code c::k)) cs) w:=λd=>
 q8f (a:=⟨a.tmps,[]⟩) (ds:=a.defers) H hX (hb.at d) O (hL.at d) (Q:=λ_ e v w=>Q e v w) (hc d) (λ_ e v w=>hQ e v w) (λe a' todo w' z' h1 h2 h3 h4 h5 h6=>by
  obtain⟨t,t2,d2,h7⟩:=h6;exact(next e a' todo w' z' h1 (Held.trans (show Held C w (w.at d)from⟨λ_ _=>rfl,Nat.le_refl _,rfl,rfl,rfl,.of rfl⟩) h2) h3 h4 h5 (hR e a' (re z' t2 d2) z' rfl h7)).lead)
end
end
section
open Go.Conc Go.RowKit Go.Conc.Lib Go.ConcR.Gen
open Go.ConcR (KK WgAt stA smA rd wr DC0)
open Go.ConcN (st_flag st_waiters)
section
variable {P:Program}{Post:Value->World->Prop}{Sh:Nat->Prop}{Fz:Loc->Prop}{T:Nat->qA}{n h dd:Nat}{g:Goroutine}{w w':World}{es:Array Event}
theorem qfe(he:∀e,e∈es->(MemAct.ofEvent e).touch?=none):jV Sh Fz T n h w w es:=
 ⟨.refl,λe h1=>⟨λx hx=>(by rw[he e h1]at hx;cases hx),λx hx=>(by rw[he e h1]at hx;cases hx)⟩,Nat.le_refl _⟩
theorem ql8{b:Nat}(vX:¬StW T n h b)(hh:∀r,r≠b->w'.heap[r]?=w.heap[r]?)(hs:w.heap.size<=w'.heap.size)(hb:b<w'.heap.size)
   (he:∀e,e∈es->∀x,(MemAct.ofEvent e).touch?=some x->∃a:Addr,x.loc=.cell a/\a.block=b/\(Sh b->x.kind≠.plain)/\(x.write=true->¬Fz (.cell a))):jV Sh Fz T n h w w' es:=by
 refine⟨.of (λr hr=>hh r (λe=>vX (e▸hr))),λe h1=>⟨λx hx=>?_,λx hx=>?_⟩,hs⟩
 . obtain⟨a,e1,e2,e3,e4⟩:=he e h1 x hx;rw[e1];exact⟨λk=>e3 (by rw[<-e2];exact k),e4⟩
 . obtain⟨a,e1,e2,_⟩:=he e h1 x hx;rw[e1];show a.block<_;omega
theorem qdl(w:World)(a:Addr)(v:Value):∀r,r≠a.block->(w.setCell a v).heap[r]?=w.heap[r]?:=λr hr=>qcw w a v r (λe=>hr e.symm)
theorem qcf:∀{m:Nat} {g:Goroutine} {w:World},Goes P (h==0) AtRel DC0 (qc P Post Sh Fz T n h dd) m g w->qc P Post Sh Fz T n h dd g w:=by
 intro m
 induction m with
 |zero=>intro g w hg d;exact(hg (w.at d) ⟨d,rfl⟩).lead
 |succ m ih=>
  intro g w hg;rcases hg with hg|⟨hs,hg⟩
  . exact λd=>(hg (w.at d) ⟨d,rfl⟩).lead
  . refine λd=>q0i hs (λe=>?_);obtain⟨g',w',es,h1,⟨h2,h3⟩,h4⟩:=goes_elim (hg (w.at e) ⟨e,rfl⟩);subst h2;subst h3;exact⟨g',w.at e,#[],h1,.idle _,(ih h4).lead⟩
theorem qff{ty:TypeId}{Wg:Nat}{st sm:Int}{w₀ w w₁:World}(h:AtRel w₀ w/\WgAt ty Wg w st sm)(r:AtRel w w₁):AtRel w₀ w₁/\WgAt ty Wg w₁ st sm:=by
 obtain⟨⟨d,rfl⟩,k⟩:=h;obtain⟨e,rfl⟩:=r;exact⟨⟨e,rfl⟩,k⟩
theorem qkU{ty:TypeId}{Wg:Nat}{st sm:Int}{w:World}(h:WgAt ty Wg w st sm):w.cell? ⟨Wg,1,none⟩=some (.int .u32 sm):=h.cellSm
theorem qc.on(H:qc P Post Sh Fz T n h dd g w)(r:AtRel w w'):qc P Post Sh Fz T n h dd g w':=by obtain⟨d,rfl⟩:=r;exact H.at d
end
section
variable {Sh:Nat->Prop}{Fz:Loc->Prop}{Wg:Nat}
theorem q49{a:Addr}{es:Array Event}(ha:a.block=Wg)(hFz:∀b:Addr,b.block=Wg->¬Fz (.cell b))(he:∀e,e∈es->e=⟨.cell a,false,true⟩∨e=⟨.cell a,true,true⟩∨e=⟨.mark (.read a),false,true⟩) :
   ∀e,e∈es->∀x,(MemAct.ofEvent e).touch?=some x->∃a:Addr,x.loc=.cell a/\a.block=Wg/\(Sh Wg->x.kind≠.plain)/\(x.write=true->¬Fz (.cell a)):=λe h1 x hx=>by
 rcases he e h1 with rfl|rfl|rfl
 . cases hx;exact⟨a,rfl,ha,λ_=>by simp,λ_=>hFz a ha⟩
 . cases hx;exact⟨a,rfl,ha,λ_=>by simp,λ_=>hFz a ha⟩
 . cases hx;exact⟨a,rfl,ha,λ_=>by simp,λ_=>hFz a ha⟩
end
section
variable {L:WgLink}{P:Program}{Post:Value->World->Prop}{Sh:Nat->Prop}{Fz:Loc->Prop}{T:Nat->qA}{n h:Nat}{Wg:Nat}
 {b₀:Frame} {a₀:Act} {ops₀:Array Oper} {i₀:Nat} {rest₀:List Nat} {k₀:List Item} {cs:List Frame}
theorem q9n(H:WgLib P L)(vX:¬StW T n h Wg)(hFz:∀b:Addr,b.block=Wg->¬Fz (.cell b)){v:Nat}(hv:v<64){w₀:World}(hwg:WgAt L.tWg Wg w₀ ((v:Int)*KK) 0)
   (next:qc P Post Sh Fz T n h 0 (G (b₀.at (a₀.put ((ops₀[i₀]?).bind (·.dst)) (.tuple #[])) (.inRegion ops₀ rest₀::k₀)) cs) (w₀.setCell (stA Wg) (.int .u64 (((v:Int)+1)*KK)))) :
   qc P Post Sh Fz T n h 0 (G ((base L.add).at ⟨#[.pointer (some ⟨Wg,0,none⟩),.int .i64 1,undef,undef,undef,undef,undef,undef,undef,undef,undef,undef,undef,undef,undef,undef,undef,undef,undef,undef,undef,undef,undef,undef,undef,undef,undef,undef,undef,undef,undef,undef,undef,undef,undef,undef,undef,undef,undef,undef,undef,undef,undef,undef,undef,undef,undef,undef,undef,undef,undef,undef,undef,undef,undef,undef,undef,undef,undef,undef,undef,undef,undef,undef,undef,undef,undef,undef,undef,undef,undef,undef,undef,undef,undef,undef,undef,undef,undef,undef,undef,undef,undef,undef,undef,undef,undef,undef,undef,undef,undef,undef,undef,undef,undef,undef,undef,undef,undef,undef,undef,undef,undef,undef,undef,undef,undef,undef,undef,undef,undef,undef,undef,undef,undef,undef,undef],[]⟩ [.code (body_add L)]) (b₀.at a₀ (.inRegion ops₀ (i₀::rest₀)::k₀)::cs)) w₀:=by
 lib_facts
 simp only[body_add,addFn,Option.getD_some];have hF:AtRel w₀ w₀/\WgAt L.tWg Wg w₀ ((v:Int)*KK) 0:=⟨⟨w₀.drawn,rfl⟩,hwg⟩;refine qcf (m:=60) ?_
 repeat w_go qff
 refine Goes.stop (λw₁ h₁=>?_);replace hF:=qff hF h₁;clear h₁;refine qct rfl (λd=>⟨_,_,_,stepG_mark0 .disable (by simp) rfl rfl (by k_ne) rfl H.f_disable (x_disable_n L) (x_disable_b L) (x_disable_x L) (x_disable_f L),qfe (λe he=>(by rw[Array.mem_singleton]at he;subst he;rfl)),qc.lead ?_⟩);replace hF:=qff hF ⟨d,rfl⟩;change qc P Post Sh Fz T n h 1 _ _;refine qcf (m:=200) ?_;walk_nrm
 repeat w_go qff
 u_defer qff hF
 repeat w_go qff
 u_bub qff hF
 repeat w_go qff
 u_call H.f_uAdd (nm_uAdd L) uAddFn qff hF
 repeat w_go qff
 refine Goes.stop (λw₂ h₂=>?_);replace hF:=qff hF h₂;clear h₂;obtain⟨V,hV⟩:∃V:Int,V=(v:Int)+1:=⟨_,rfl⟩;obtain⟨S,hS⟩:∃S:Int,S=V*KK:=⟨_,rfl⟩;have eS:IntKind.u64.wrap ((v:Int)*KK+4294967296)=S:=by rw[IntKind.wrap_u64,hS,hV];simp only[KK];omega
 rw[<-hV,<-hS]at next;refine qct rfl (λd=>?_);have hw:=(qff hF ⟨d,rfl⟩).2;refine⟨_,_,_,(stepG_add_atomic rfl rfl (by k_ne) rfl H.f_addU64 (x_addU64_n L) (x_addU64_b L) (x_addU64_x L) .u64 (x_addU64_f L) rfl rfl hw.cellSt (hw.thaw 0)).trans (by rw[eS]),ql8 vX (qdl _ (stA Wg) _) (by simp) (Array.getElem?_eq_some_iff.1 (hw.setSt S)).1 (q49 (a:=stA Wg) rfl hFz (λe he=>?_)),qc.lead ?_⟩
 . simp only[List.mem_toArray,mem_cons,not_mem_nil,or_false]at he;rcases he with rfl|rfl
   . exact .inl rfl
   . exact .inr (.inl rfl)
 change qc P Post Sh Fz T n h 1 _ _
 have hF0:AtRel (w₀.setCell (stA Wg) (.int .u64 S)) ((w₂.at d).setCell (stA Wg) (.int .u64 S)):=by
  obtain⟨⟨d2,rfl⟩,_⟩:=hF;exact⟨d,rfl⟩
 replace hF:AtRel (w₀.setCell (stA Wg) (.int .u64 S)) ((w₂.at d).setCell (stA Wg) (.int .u64 S))/\WgAt L.tWg Wg ((w₂.at d).setCell (stA Wg) (.int .u64 S)) S 0:=⟨hF0,hw.setSt _⟩;clear hw hF0 eS;rcases Nat.eq_zero_or_pos v with rfl|hvp
 ·
  obtain rfl:S=4294967296:=by rw[hS,hV];simp[KK]
  clear hS hV;refine qcf (m:=200) ?_;walk_nrm
  repeat w_go qff
  u_leave1 H.f_uAdd qff hF
  repeat w_go qff
  u_conv H.underlying_tPU32 H.room_tU32 (qkU hF.2) qff hF
  refine Goes.stop (λw₃ h₃=>?_);replace hF:=qff hF h₃;clear h₃;refine qct rfl (λd=>⟨_,_,_,stepG_markAt .read (by simp) rfl rfl (by k_ne) rfl H.f_raceRead (x_raceRead_n L) (x_raceRead_b L) (x_raceRead_x L) (x_raceRead_f L) (ad:=⟨Wg,1,none⟩) (by simp[Act.eval]),ql8 vX (λ_ _=>rfl) (Nat.le_refl _) (Array.getElem?_eq_some_iff.1 hF.2).1 (q49 (a:=⟨Wg,1,none⟩) rfl hFz (λe he=>?_)),qc.lead ?_⟩)
  . rw[Array.mem_singleton]at he;exact .inr (.inr he)
  change qc P Post Sh Fz T n h 1 _ _;replace hF:=qff hF ⟨d,rfl⟩;refine qcf (m:=200) ?_;walk_nrm
  repeat w_go qff
  refine Goes.stop (λw₄ h₄=>?_);replace hF:=qff hF h₄;clear h₄;refine qct rfl (λd=>⟨_,_,_,stepG_unwind_entry (v:=.tuple #[]) (evs:=#[Go.ConcR.mk .enable]) rfl H.f_enable (x_enable_n L) (x_enable_b L) (x_enable_x L) (x_enable_f L) (by simp[Extern.Race.none_]) (by simp[Go.ConcR.mk]) (by simp[Go.ConcR.mk]),qfe (λe he=>(by rw[Array.mem_singleton]at he;subst he;rfl)),qc.lead ?_⟩);change qc P Post Sh Fz T n h 0 _ _;replace hF:=qff hF ⟨d,rfl⟩;refine qcf (m:=20) ?_
  u_leave0 H.f_add qff hF
  exact Goes.stop (λw₅ h₅=>next.on (qff hF h₅).1)
 ·
  have a1:S/4294967296=V:=by rw[hS];simp only[KK];omega
  have b1:bits .and .u64 S 2147483648=0:=by rw[hS,hV];have:=st_flag (v+1) 0 (by omega) (by omega);simpa[KK]using this
  have b2:bits .and .u64 S 2147483647=0:=by rw[hS,hV];have:=st_waiters (v+1) 0 (by omega) (by omega);simpa[KK]using this
  have c1:IntKind.i32.wrap V=V:=by rw[IntKind.wrap_i32];omega
  have hV1:1<V:=by omega
  have hV2:V<2147483648:=by omega
  have q1:(V==1)=false:=by simp;omega
  have q2:decide (V=1)=false:=decide_eq_false (by omega);have q3:decide (V<0)=false:=decide_eq_false (by omega);have q4:decide (0<V)=true:=decide_eq_true (by omega);have q5:(V==0)=false:=by simp;omega
  have q6:decide (V=0)=false:=decide_eq_false (by omega);clear hS hV;refine qcf (m:=200) ?_;walk_nrm
  repeat (first|w_go qff|u_cnd true qff hF|u_cnd false qff hF)
  u_leave1 H.f_uAdd qff hF
  repeat (first|w_go qff|u_cnd true qff hF|u_cnd false qff hF)
  refine Goes.stop (λw₄ h₄=>?_);replace hF:=qff hF h₄;clear h₄;refine qct rfl (λd=>⟨_,_,_,stepG_unwind_entry (v:=.tuple #[]) (evs:=#[Go.ConcR.mk .enable]) rfl H.f_enable (x_enable_n L) (x_enable_b L) (x_enable_x L) (x_enable_f L) (by simp[Extern.Race.none_]) (by simp[Go.ConcR.mk]) (by simp[Go.ConcR.mk]),qfe (λe he=>(by rw[Array.mem_singleton]at he;subst he;rfl)),qc.lead ?_⟩);change qc P Post Sh Fz T n h 0 _ _;replace hF:=qff hF ⟨d,rfl⟩;refine qcf (m:=20) ?_
  u_leave0 H.f_add qff hF
  exact Goes.stop (λw₅ h₅=>next.on (qff hF h₅).1)
end
end
section
open Go.Conc Go.RowKit Go.Conc.Lib Go.ConcR.Gen Go.Conc.Locks Go.ConcM
open Go.ConcR (DC0)
section
variable {P:Program}{Post:Value->World->Prop}{Sh:Nat->Prop}{Fz:Loc->Prop}{T:Nat->qA}{n h dd:Nat}{g:Goroutine}{w w':World}{es:Array Event}
def zO(a:Addr)(v:Value)(w:World):Prop:=w.cell? a=some v/\w.frozen? a=false
theorem qd6{a:Addr}{v:Value}{w₀ w w₁:World}(h:AtRel w₀ w/\zO a v w)(r:AtRel w w₁):AtRel w₀ w₁/\zO a v w₁:=by
 obtain⟨⟨d,rfl⟩,k⟩:=h;obtain⟨e,rfl⟩:=r;exact⟨⟨e,rfl⟩,k⟩
theorem zO.set{a:Addr}{v v':Value}{w:World}(h:zO a v w):zO a v' (w.setCell a v'):=
 ⟨by simp[go_sem,h.1],by rw[frozen?_setCell];exact h.2⟩
theorem zO.lt{a:Addr}{v:Value}{w:World}(h:zO a v w):a.block<w.heap.size:=by
 obtain⟨_,c,e,fr,hb,_⟩:=qev h.1;exact(Array.getElem?_eq_some_iff.1 hb).1
theorem qrv{a:Addr}{es:Array Event}(hSh:¬Sh a.block)(hFz:¬Fz (.cell a))(he:∀e,e∈es->e=⟨.cell a,false,true⟩∨e=⟨.cell a,true,true⟩∨e=⟨.cell a,false,false⟩∨e=⟨.cell a,true,false⟩) :
   ∀e,e∈es->∀x,(MemAct.ofEvent e).touch?=some x->∃b:Addr,x.loc=.cell b/\b.block=a.block/\(Sh a.block->x.kind≠.plain)/\(x.write=true->¬Fz (.cell b)):=λe h1 x hx=>by
 rcases he e h1 with rfl|rfl|rfl|rfl
 . cases hx;exact⟨a,rfl,rfl,λk=>absurd k hSh,λ_=>hFz⟩
 . cases hx;exact⟨a,rfl,rfl,λk=>absurd k hSh,λ_=>hFz⟩
 . cases hx;exact⟨a,rfl,rfl,λk=>absurd k hSh,λ_=>hFz⟩
 . cases hx;exact⟨a,rfl,rfl,λk=>absurd k hSh,λ_=>hFz⟩
end
section
variable {L:MuLink}{P:Program}{Post:Value->World->Prop}{Sh:Nat->Prop}{Fz:Loc->Prop}{T:Nat->qA}{n h:Nat}
 {b₀:Frame} {a₀:Act} {ops₀:Array Oper} {i₀:Nat} {rest₀:List Nat} {k₀:List Item} {cs:List Frame}
theorem q7a(H:MuLib P L){r:Nat}(vX:¬StW T n h r)(hSh:¬Sh r)(hFz:¬Fz (.cell ⟨r,0,none⟩)){w₀:World}(hc:zO ⟨r,0,none⟩ (.int .i32 0) w₀)
   (next:qc P Post Sh Fz T n h 0 (G (b₀.at (a₀.put ((ops₀[i₀]?).bind (·.dst)) (.tuple #[])) (.inRegion ops₀ rest₀::k₀)) cs) (w₀.setCell ⟨r,0,none⟩ (.int .i32 1))) :
   qc P Post Sh Fz T n h 0 (G ((base L.lock).at ⟨#[.pointer (some ⟨r,0,none⟩),undef,undef,undef,undef,undef],[]⟩ [.code ((lockFn L).body.getD .skip)]) (b₀.at a₀ (.inRegion ops₀ (i₀::rest₀)::k₀)::cs)) w₀:=by
 have m1:=H.runUnderlying_tMutex;have m2:=H.sizeOf_tMutex;have m3:=H.isAgg_tMutex;have m4:=H.runUnderlying_tIMutex;have m5:=H.sizeOf_tIMutex;have m6:=H.isAgg_tIMutex;have m7:=H.runUnderlying_tPMutex;have m8:=H.runUnderlying_tPIMutex;have m9:=H.runUnderlying_tPI32;have m10:=H.runUnderlying_t21;have m11:=H.isAgg_t21;have m12:=H.sizeOf_t21;simp only[lockFn,Option.getD_some];have hF:AtRel w₀ w₀/\zO ⟨r,0,none⟩ (.int .i32 0) w₀:=⟨⟨w₀.drawn,rfl⟩,hc⟩;refine qcf (m:=60) ?_
 repeat w_go qd6
 u_call H.f_ilock (by kernel_rfl) ilockFn qd6 hF
 repeat w_go qd6
 refine Goes.stop (λw₁ h₁=>?_);replace hF:=qd6 hF h₁;clear h₁;refine qct rfl (λd=>⟨_,_,_,stepG_mark0 .disable (by simp) rfl rfl (by k_ne) rfl H.f_disable (by kernel_rfl) (by kernel_rfl) (by kernel_rfl) (by kernel_rfl),qfe (λe he=>(by rw[Array.mem_singleton]at he;subst he;rfl)),qc.lead ?_⟩);replace hF:=qd6 hF ⟨d,rfl⟩;change qc P Post Sh Fz T n h 1 _ _;refine qcf (m:=60) ?_;walk_nrm
 repeat w_go qd6
 refine Goes.stop (λw₁ h₁=>?_);replace hF:=qd6 hF h₁;clear h₁;refine qct rfl (λd=>?_);have hz:=(qd6 hF ⟨d,rfl⟩).2;refine⟨_,_,_,stepG_cas_hit rfl rfl (by k_ne) rfl H.f_cas32 (by kernel_rfl) (by kernel_rfl) (by kernel_rfl) .i32 (by kernel_rfl) (ad:=⟨r,0,none⟩) (v:=0) (n:=1) (by rfl) (by rfl) (by rfl) hz.1 hz.2,ql8 vX (qdl _ ⟨r,0,none⟩ _) (by simp) (hz.set (v':=.int .i32 1)).lt (qrv hSh hFz (λe he=>?_)),qc.lead ?_⟩
 . simp only[List.mem_toArray,mem_cons,not_mem_nil,or_false]at he;rcases he with rfl|rfl
   . exact .inl rfl
   . exact .inr (.inl rfl)
 change qc P Post Sh Fz T n h 1 _ _
 have hF0:AtRel (w₀.setCell ⟨r,0,none⟩ (.int .i32 1)) ((w₁.at d).setCell ⟨r,0,none⟩ (.int .i32 1)):=by
  obtain⟨⟨d2,rfl⟩,_⟩:=hF;exact⟨d,rfl⟩
 replace hF:AtRel (w₀.setCell ⟨r,0,none⟩ (.int .i32 1)) ((w₁.at d).setCell ⟨r,0,none⟩ (.int .i32 1))/\zO ⟨r,0,none⟩ (.int .i32 1) ((w₁.at d).setCell ⟨r,0,none⟩ (.int .i32 1)):=⟨hF0,hz.set⟩;clear hz hF0;refine qcf (m:=60) ?_;walk_nrm
 repeat w_go qd6
 refine Goes.stop (λw₂ h₂=>?_);replace hF:=qd6 hF h₂;clear h₂;refine qct rfl (λd=>⟨_,_,_,stepG_mark0 .enable (by simp) rfl rfl (by k_ne) rfl H.f_enable (by kernel_rfl) (by kernel_rfl) (by kernel_rfl) (by kernel_rfl),qfe (λe he=>(by rw[Array.mem_singleton]at he;subst he;rfl)),qc.lead ?_⟩);replace hF:=qd6 hF ⟨d,rfl⟩;change qc P Post Sh Fz T n h 0 _ _;refine qcf (m:=60) ?_;walk_nrm
 repeat w_go qd6
 m_convG P H.underlying_tUP H.underlying_tPIMutex H.room_tIMutex hF.2.1 qd6 hF
 refine Goes.stop (λw₂ h₂=>?_);replace hF:=qd6 hF h₂;clear h₂;refine qct rfl (λd=>⟨_,_,_,stepG_markAt .acquire (by simp) rfl rfl (by k_ne) rfl H.f_acquire (by kernel_rfl) (by kernel_rfl) (by kernel_rfl) (by kernel_rfl) (ad:=⟨r,0,none⟩) (by simp[Act.eval]),qfe (λe he=>(by rw[Array.mem_singleton]at he;subst he;rfl)),qc.lead ?_⟩);replace hF:=qd6 hF ⟨d,rfl⟩;change qc P Post Sh Fz T n h 0 _ _;refine qcf (m:=60) ?_;walk_nrm
 repeat w_go qd6
 u_leave0 H.f_ilock qd6 hF
 repeat w_go qd6
 u_leave0 H.f_lock qd6 hF
 exact Goes.stop (λw₅ h₅=>next.on (qd6 hF h₅).1)
theorem qzi{main:Bool}{b c:Frame}{a:Act}{todo:List Item}{cs:List Frame}{w:World}{fn:Func}(hn:b.kind=.deferred)(hd:a.defers=[])(hf:P.funcs[b.fn]?=some fn)(hr:fn.results=#[])(hc:c.mode=.returning) :
   stepG P main (G {b.at a todo with mode:=.returning} (c::cs)) w=.go (G c cs) w #[]:=by
 first
 |exact stepG_leave_deferred hn hd hf (results_none hr _ P w) (events_results_none hr _ _) hc
 |exact stepG_leave_deferred hn hd hf (results_none hr _ P w) (events_results_none hr _ _)
theorem q1x(H:MuLib P L){r:Nat}(vX:¬StW T n h r)(hSh:¬Sh r)(hFz:¬Fz (.cell ⟨r,0,none⟩)){w₀:World}(hc:zO ⟨r,0,none⟩ (.int .i32 1) w₀){c:Frame}(hcm:c.mode=.returning)
   (next:qc P Post Sh Fz T n h 0 (G c cs) (w₀.setCell ⟨r,0,none⟩ (.int .i32 0))) :
   qc P Post Sh Fz T n h 0 (G ((baseD L.unlock).at ⟨#[.pointer (some ⟨r,0,none⟩),undef,undef,undef,undef,undef],[]⟩ [.code ((unlockFn L).body.getD .skip)]) (c::cs)) w₀:=by
 have m1:=H.runUnderlying_tMutex;have m2:=H.sizeOf_tMutex;have m3:=H.isAgg_tMutex;have m4:=H.runUnderlying_tIMutex;have m5:=H.sizeOf_tIMutex;have m6:=H.isAgg_tIMutex;have m7:=H.runUnderlying_tPMutex;have m8:=H.runUnderlying_tPIMutex;have m9:=H.runUnderlying_tPI32;have m10:=H.runUnderlying_t21;have m11:=H.isAgg_t21;have m12:=H.sizeOf_t21;simp only[unlockFn,Option.getD_some];have hF:AtRel w₀ w₀/\zO ⟨r,0,none⟩ (.int .i32 1) w₀:=⟨⟨w₀.drawn,rfl⟩,hc⟩;refine qcf (m:=60) ?_
 repeat w_go qd6
 u_call H.f_iunlock (by kernel_rfl) iunlockFn qd6 hF
 repeat w_go qd6
 refine Goes.stop (λw₁ h₁=>?_);replace hF:=qd6 hF h₁;clear h₁;refine qct rfl (λd=>?_);have hz:=(qd6 hF ⟨d,rfl⟩).2;refine⟨_,_,_,stepG_value (v:=.int .i32 1) rfl rfl (by k_ne) (by have:=hz.1;go_simp),ql8 vX (λ_ _=>rfl) (Nat.le_refl _) hz.lt (qrv hSh hFz (λe he=>?_)),qc.lead ?_⟩
 . have hm:=mem_listed he;have:=hz.1;simp[go_sem, *]at hm;exact .inr (.inr (.inl hm))
 replace hF:=qd6 hF ⟨d,rfl⟩;clear hz;have hdf:∀es:Array Event,(∀e,e∈es->e=⟨.cell ⟨r,0,none⟩,false,false⟩)->deafBehind 0 es=0:=λes he=>deafBehind_still (λe h1=>by rw[he e h1];exact⟨(λk=>by cases k),(λk=>by cases k)⟩) 0
 rw[hdf _ (λe he=>by
  have hm:=mem_listed he;have:=hF.2.1;simp[go_sem, *]at hm;exact hm)]
 clear hdf;refine qcf (m:=60) ?_;walk_nrm
 repeat w_go qd6
 m_convG P H.underlying_tUP H.underlying_tPIMutex H.room_tIMutex hF.2.1 qd6 hF
 refine Goes.stop (λw₂ h₂=>?_);replace hF:=qd6 hF h₂;clear h₂;refine qct rfl (λd=>⟨_,_,_,stepG_markAt .releaseMerge (by simp) rfl rfl (by k_ne) rfl H.f_relMerge (by kernel_rfl) (by kernel_rfl) (by kernel_rfl) (by kernel_rfl) (ad:=⟨r,0,none⟩) (by simp[Act.eval]),qfe (λe he=>(by rw[Array.mem_singleton]at he;subst he;rfl)),qc.lead ?_⟩);replace hF:=qd6 hF ⟨d,rfl⟩;change qc P Post Sh Fz T n h 0 _ _;refine qcf (m:=60) ?_;walk_nrm
 repeat w_go qd6
 refine Goes.stop (λw₃ h₃=>?_);replace hF:=qd6 hF h₃;clear h₃;refine qct rfl (λd=>⟨_,_,_,stepG_mark0 .disable (by simp) rfl rfl (by k_ne) rfl H.f_disable (by kernel_rfl) (by kernel_rfl) (by kernel_rfl) (by kernel_rfl),qfe (λe he=>(by rw[Array.mem_singleton]at he;subst he;rfl)),qc.lead ?_⟩);replace hF:=qd6 hF ⟨d,rfl⟩;change qc P Post Sh Fz T n h 1 _ _;refine qcf (m:=60) ?_;walk_nrm
 repeat w_go qd6
 refine Goes.stop (λw₄ h₄=>?_);replace hF:=qd6 hF h₄;clear h₄;refine qct rfl (λd=>?_);have hz:=(qd6 hF ⟨d,rfl⟩).2;refine⟨_,_,_,(stepG_add_atomic rfl rfl (by k_ne) rfl H.f_add32 (by kernel_rfl) (by kernel_rfl) (by kernel_rfl) .i32 (by kernel_rfl) (ad:=⟨r,0,none⟩) (v:=1) (d:=-1) (by rfl) (by rfl) hz.1 hz.2).trans (by rw[show IntKind.i32.wrap (1+-1)=0 from by decide]),ql8 vX (qdl _ ⟨r,0,none⟩ _) (by simp) (hz.set (v':=.int .i32 0)).lt (qrv hSh hFz (λe he=>?_)),qc.lead ?_⟩
 . simp only[List.mem_toArray,mem_cons,not_mem_nil,or_false]at he;rcases he with rfl|rfl
   . exact .inl rfl
   . exact .inr (.inl rfl)
 change qc P Post Sh Fz T n h 1 _ _
 have hF0:AtRel (w₀.setCell ⟨r,0,none⟩ (.int .i32 0)) ((w₄.at d).setCell ⟨r,0,none⟩ (.int .i32 0)):=by
  obtain⟨⟨d2,rfl⟩,_⟩:=hF;exact⟨d,rfl⟩
 replace hF:AtRel (w₀.setCell ⟨r,0,none⟩ (.int .i32 0)) ((w₄.at d).setCell ⟨r,0,none⟩ (.int .i32 0))/\zO ⟨r,0,none⟩ (.int .i32 0) ((w₄.at d).setCell ⟨r,0,none⟩ (.int .i32 0)):=⟨hF0,hz.set⟩;clear hz hF0;refine qcf (m:=60) ?_;walk_nrm
 repeat w_go qd6
 refine Goes.stop (λw₂ h₂=>?_);replace hF:=qd6 hF h₂;clear h₂;refine qct rfl (λd=>⟨_,_,_,stepG_mark0 .enable (by simp) rfl rfl (by k_ne) rfl H.f_enable (by kernel_rfl) (by kernel_rfl) (by kernel_rfl) (by kernel_rfl),qfe (λe he=>(by rw[Array.mem_singleton]at he;subst he;rfl)),qc.lead ?_⟩);replace hF:=qd6 hF ⟨d,rfl⟩;change qc P Post Sh Fz T n h 0 _ _;refine qcf (m:=60) ?_;walk_nrm
 repeat w_go qd6
 u_leave0 H.f_iunlock qd6 hF
 repeat w_go qd6
 refine Goes.stop (λw₂ h₂=>?_);replace hF:=qd6 hF h₂;clear h₂;exact qct rfl (λd=>⟨_,_,_,qzi rfl rfl H.f_unlock rfl hcm,.idle _,(next.on (qd6 hF ⟨d,rfl⟩).1).lead⟩)
end
end
end Go.Proofs.YtacemdoejblgaaaGreatDoor

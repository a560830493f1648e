/- Part 11. Conditions: each statement's. -/
import Derived.Test.YtacemdoejblgaaaGreatDoorM10
import Derived.Conc.CompanyMem
namespace Go.Proofs.YtacemdoejblgaaaGreatDoor
set_option maxHeartbeats 6400000
set_option maxRecDepth 100000
section
open Go.Conc
open Go.ConcN (sumTo upd sumTo_upd upd_ne upd_same sumTo_congr le_sumTo WgLive RW DWs WSit WD AtR0 PayAt cnt Vc Ssum Fsum ShN)
open Go.ConcR (KK WgAt stA smA rd wr Payload)
section
variable {P:Program}{w:World}
theorem qpt{main:Bool}{R:World->World->Prop}{Dd:World->World->Array Event->Prop}{Stop:Goroutine->World->Prop}{m:Nat}{g:Goroutine}(hR:R w w)(h:Goes P main R Dd Stop m g w) :
   (∀ w₁,R w w₁->Stop g w₁)∨∃ m',m=m'+1/\∃ g' w' es,stepG P main g w=.go g' w' es/\Dd w w' es/\Goes P main R Dd Stop m' g' w':=by
 cases m with
 | zero=>exact .inl h
 | succ m=>
   rcases h with h | ⟨_,h⟩
   . exact .inl h
   . obtain⟨g',w',es,h1,h2,h3⟩:=goes_elim (h w hR);exact .inr ⟨m,rfl,g',w',es,h1,h2,h3⟩
end
section
variable {Sh:Nat->Prop}{Fz:Loc->Prop}{Wg:Nat}
theorem qzy{B:Nat}{m:Mark}(hm:∀ b,m≠.read b/\m≠.write b)(hr:m≠.release (stA Wg)):∀ e,e∈#[Go.ConcR.mk m]->qk6 Sh Fz B e/\e.loc≠.mark (.release (stA Wg)):=fun e he=>by
 rw [Array.mem_singleton] at he;subst he
 have ht:(MemAct.ofEvent (Go.ConcR.mk m)).touch?=none:=by
   cases m with
   | read b=>exact absurd rfl (hm b).1
   | write b=>exact absurd rfl (hm b).2
   | _=>rfl
 exact⟨⟨(fun x hx=>by rw [ht] at hx;cases hx),(fun x hx=>by rw [ht] at hx;cases hx)⟩,(fun e=>hr (by cases e;rfl))⟩
end
section
variable [Payload]{P:Program}{ty:TypeId}{Wg:Nat}{Bx:Nat->Prop}{Sh:Nat->Prop}{Fz:Loc->Prop}{AnchW Next:Goroutine->World->Prop}{n:Nat}{Wk:Nat->Prop}{cr:Nat->Hands}{p0:Nat}
 {D:Nat->WD} {tag:Tag} {f0 d0:Nat} {a:Goroutine} {st sm:Int} {gs:Array Goroutine} {w:World} {t:Trace}
theorem qi7(G:jE P ty Wg Bx Sh Fz n Wk cr){B:Nat}(hB:Wg < B){es:Array Event}(hb:Book Wg es):∀ e,e∈es->qk6 Sh Fz B e/\e.loc≠.mark (.release (stA Wg)):=fun e he=>by
 refine⟨⟨fun x hx=>?_,fun x hx=>?_⟩,hb.norel e he⟩
 . obtain⟨⟨b,h1,h2⟩,h3⟩:=hb.touch e he x hx;exact⟨(fun _ h=>by rw [h3] at h;cases h),(fun _=>by rw [h1];exact G.fzW b h2)⟩
 . obtain⟨⟨b,h1,h2⟩,_⟩:=hb.touch e he x hx;rw [h1];show b.block < B;rw [h2];exact hB
theorem Join.mgo(G:jE P ty Wg Bx Sh Fz n Wk cr)(J:Join P ty Wg Bx Sh Fz AnchW Next n Wk cr p0 D tag f0 d0 a st sm gs w t){a':Goroutine}{w':World}{es:Array Event}{tag':Tag}{f' d':Nat}{st' sm':Int}(sl:Option (Nat × Nat))
   (hgo:stepG P true a w=.go a' w' es) (hw:Aside Wg w w') (hwg':WgAt ty Wg w' st' sm') (he:∀ e,e∈es->qk6 Sh Fz w.heap.size e/\e.loc≠.mark (.release (stA Wg))) (hd:deafBehind d0 es=d')
   (hmain:ze P ty Wg Bx Sh Fz AnchW Next tag' f' d' a' w') (htag:vv tag'=vv tag) (hmode:q7 n D tag' st' sm') (hlt:phi n (Vc n D) tag' < phi n (Vc n D) tag∨(phi n (Vc n D) tag'=phi n (Vc n D) tag/\f' < f0)) :
   ∃ gs' ops,runT P (crowd gs w sl) 0=(.next (crowd gs' w' sl),ops)/\Join P ty Wg Bx Sh Fz AnchW Next n Wk cr p0 D tag' f' d' a' st' sm' gs' w' (t++ops)/\LtJ (mu n D tag' f') (mu n D tag f0):=by
 have hsz:0 < gs.size:=(Array.getElem?_eq_some_iff.1 J.here).1;have vk:0 < (gs.map (Go.Conc.woken P a a' w')).size:=by simpa using hsz
 have hrun:=runT_crowd_go (P:=P) (sl:=sl) (i:=0) J.here (by simpa using hgo)
 have keep:∀ j,Wk j->∀ r,(r=(cr j).s.c∨r=(cr j).bx)->w'.heap[r]?=w.heap[r]?:=fun j hj r hr=>by
   rcases hr with rfl | rfl
   . exact hw.block _ (G.cW j hj)
   . exact hw.block _ (G.bxW j hj)
 have hoth:∀ j y,j≠0->gs[j]?=some y->Go.Conc.woken P a a' w' y=y:=fun j y hj hy=>by
   unfold Go.Conc.woken;split
   . rcases (J.ja j y hj hy).1.status with e | ⟨e,_⟩ | ⟨e,e'⟩
     . exact again_running _ (.inl e)
     . exact again_running _ (.inr e)
     . have hW:Wk j:=J.xa (by omega);obtain⟨κ,hκ⟩:=J.open_ j hW e;rw [e'];exact again_parked_open (k:=rcase (cr j).s.c (cr j).s.z) (c:=(cr j).s.c) (s:=κ) (r:=κ) (tm:=false) rfl ((keep j hW _ (.inl rfl)).trans hκ)
   . rfl
 refine⟨_,_,hrun,?_,?_⟩
 . refine⟨by simp [J.size],by rw [qbn _ _ _ _ vk,if_pos rfl],hmain,fun j y hj hy=>?_,J.old,fun j hj=>by rw [htag];exact J.nine j hj,by rw [htag];exact J.source,by rw [htag];exact J.nodup,fun j hj h=>?_,fun j hj h=>?_,fun j hj h=>?_,hwg',hmode,?_,by rw [Deaf_own,J.deaf];exact hd,fun j hj=>?_⟩
   . rw [qbn _ _ _ _ vk,if_neg (fun e=>hj e.symm),Array.getElem?_map] at hy;obtain⟨y',hy',e⟩:=Option.map_eq_some_iff.1 hy;rw [hoth j y' hj hy'] at e;subst e;rw [Deaf_other t (fun e=>hj e.symm) _ qcr];obtain⟨h1,h2⟩:=J.ja j y' hj hy';refine⟨?_,h2⟩;by_cases hW:Wk j
     . have hb:=keep j hW _ (.inr rfl);exact h1.rely ⟨fun b hb0 _ _=>absurd hb0 (Nat.not_lt_zero b),fun _=>⟨_,_,hwg'⟩,fun ⟨cs,hc,hl⟩=>⟨cs,hb.trans hc,hl⟩,qgk hb 0 none⟩
     . rw [J.old j hW] at h1 |-;have h4:=h1.low (by omega);cases h4 with
       | quit hq=>exact .of (.quit hq)
   . obtain⟨κ,hκ⟩:=J.open_ j hj h;exact⟨κ,(keep j hj _ (.inl rfl)).trans hκ⟩
   . obtain⟨κ,hκ⟩:=J.shut j hj h;exact⟨κ,(keep j hj _ (.inl rfl)).trans hκ⟩
   . obtain⟨h1,h2⟩:=J.fact j hj h;exact⟨qml h1 (fun y hy=>hw.block _ (G.lW j hj y hy).1),(qgk (keep j hj _ (.inr rfl)) 0 none).trans h2⟩
   . rw [hw.size];exact J.tr.main (fun i hi=>(G.wk i hi).1) he _ _
   . rw [Deaf_other t (by have:=J.lt J.here;omega) _ qcr];exact J.above j hj
 . unfold mu LtJ;rcases hlt with h | ⟨h,h'⟩
   . exact Prod.Lex.left _ _ (by omega)
   . rw [h];exact Prod.Lex.right _ (by omega)
end
theorem qpu(w:World){c:Nat}(h:c < w.heap.size)(cl:Bool)(a b:Nat):(w.setChan c 0 #[] cl a b false).heap[c]?=some (.chan 0 #[] cl a b false):=by
 simp [World.setChan,h]
theorem q7.tail{n:Nat}{D:Nat->WD}{c:Nat}{l:List Nat}{st sm:Int}(h:q7 n D (.cl (c::l)) st sm):q7 n D (.cl l) st sm:=by
 cases h with
 | opn h1 h2 h3=>exact .opn trivial h2 (fun vs e=>by cases e)
 | reg h1 _ _=>exact h1.elim
 | last L h1 _ _ _=>exact h1.elim
 | fin h1 _=>exact h1.elim
section
variable [Payload]{P:Program}{ty:TypeId}{Wg:Nat}{Bx:Nat->Prop}{Sh:Nat->Prop}{Fz:Loc->Prop}{AnchW Next:Goroutine->World->Prop}{n:Nat}{Wk:Nat->Prop}{cr:Nat->Hands}{p0:Nat}
 {D:Nat->WD} {tag:Tag} {f0 d0:Nat} {a:Goroutine} {st sm:Int} {gs:Array Goroutine} {w:World} {t:Trace}
theorem Join.close(G:jE P ty Wg Bx Sh Fz n Wk cr){c:Nat}{l:List Nat}(J:Join P ty Wg Bx Sh Fz AnchW Next n Wk cr p0 D (.cl (c::l)) f0 0 a st sm gs w t)(hcl:MCl P ty Wg Bx Sh Fz AnchW (c::l) a w)(sl:Option (Nat × Nat)) :
   qmm P ty Wg Bx Sh Fz AnchW Next n Wk cr p0 D (.cl (c::l)) f0 0 gs w t sl 0:=by
 obtain⟨i,hWi,hci⟩:=J.source c (List.mem_cons_self ..);have hi:=G.wk i hWi;have h9:(D i).stage=9:=(J.nine i hWi).2 (by rw [hci];exact List.mem_cons_self ..);obtain⟨κ,hκ⟩:=J.open_ i hWi h9;rw [hci] at hκ;obtain⟨_,qaK,hstep⟩:=hcl;obtain⟨a',hgo,hrun',m,hm⟩:=hstep κ hκ;have qcP:c < w.heap.size:=(Array.getElem?_eq_some_iff.1 hκ).1;have hsz:0 < gs.size:=(Array.getElem?_eq_some_iff.1 J.here).1;generalize hw':w.setChan c 0 #[] true κ κ false=w' at hgo hm;have hat:w'.heap[c]?=some (.chan 0 #[] true κ κ false):=by rw [<-hw'];exact qpu w qcP _ _ _
 have hne:∀ r,r≠c->w'.heap[r]?=w.heap[r]?:=fun r hr=>by rw [<-hw'];exact qgl w hr _ _ _ _
 have hsize:w'.heap.size=w.heap.size:=by rw [<-hw'];simp [World.setChan]
 have qaL:∀ L,holds L w->holds L w':=fun L hL=>by rw [<-hw'];exact qho hL hκ _ _ _ _
 have kL:∀ j,Wk j->j≠i->(cr j).s.c≠c:=fun j hj hji e=>hji (G.chan j i hj hWi (e.trans hci.symm));have qcQ:∀ j,Wk j->(cr j).bx≠c:=fun j hj e=>G.cB i j hWi hj (hci.trans e.symm);have qcR:Wg≠c:=fun e=>G.cW i hWi (hci.trans e.symm);have vk:0 < (gs.map (Go.Conc.woken P a a' w')).size:=by simpa using hsz
 have hrun:=runT_crowd_go (P:=P) (sl:=sl) (i:=0) J.here (by simpa using hgo)
 have wake:∀ y,Go.Conc.woken P a a' w' y=y.again w':=fun y=>by
   unfold Go.Conc.woken;rw [if_pos (by rw [qaK,hrun'];rfl)]
 have hoth:∀ j y,j≠0->j≠i->gs[j]?=some y->Go.Conc.woken P a a' w' y=y:=fun j y hj hji hy=>by
   rw [wake];rcases (J.ja j y hj hy).1.status with e | ⟨e,_⟩ | ⟨e,e'⟩
   . exact again_running _ (.inl e)
   . exact again_running _ (.inr e)
   . have hW:Wk j:=J.xa (by omega);obtain⟨κ',hκ'⟩:=J.open_ j hW e;rw [e'];exact again_parked_open (k:=rcase (cr j).s.c (cr j).s.z) (c:=(cr j).s.c) (s:=κ') (r:=κ') (tm:=false) rfl ((hne _ (kL j hW hji)).trans hκ')
 obtain⟨y,hy⟩:∃ y,gs[i]?=some y:=⟨_,Array.getElem?_eq_getElem (by rw [J.size];exact hi.2)⟩;obtain⟨hyJ,hyd⟩:=J.ja i y hi.1 hy;rw [h9] at hyJ;obtain⟨hd0,hyJ⟩:=hyJ
 obtain⟨m8,hm8⟩:∃ m8,Shut P (cr i).s m8 (Go.Conc.woken P a a' w' y):=by
   rw [wake];rcases hyJ with ⟨_,rfl⟩ | hwy
   ·
     have e:=again_parked_shut (g:=Go.Conc.G (cr i).s.fr (cr i).s.cs) (k:=rcase (cr i).s.c (cr i).s.z) (sh:=.recv (cr i).s.ok) (w:=w') (c:=(cr i).s.c) (s:=κ) (r:=κ) (tm:=false) rfl (by rw [hci];exact hat);have e':(qf3 (cr i).s).again w'={ qf3 (cr i).s with status:=.running }:=e;rw [e'];exact⟨1,.inr ⟨rfl,rfl,rfl,rfl,rfl,G.comm i hWi⟩⟩
   . rw [again_running _ (.inl hwy.running)];exact⟨_,.inl hwy⟩
 have hst:∀ j,j≠i->upd D i ⟨8,m8,0⟩ j=D j:=fun j hj=>upd_ne D _ hj;have hsi:upd D i ⟨8,m8,0⟩ i=⟨8,m8,0⟩:=upd_same D i _
 have hev:∀ e,e∈(#[⟨.obj c,false,true⟩,⟨.obj c,true,true⟩]:Array Event)->qk6 Sh Fz w.heap.size e/\e.loc≠.mark (.release (stA Wg)):=fun e he=>by
   have:e=⟨.obj c,false,true⟩∨e=⟨.obj c,true,true⟩:=by simpa using he
   rcases this with rfl | rfl
   . refine⟨⟨fun x hx=>?_,fun x hx=>?_⟩,fun e=>by cases e⟩
     . cases hx;exact⟨fun h=>h.elim,fun h=>by cases h⟩
     . cases hx;exact qcP
   . exact⟨⟨fun x hx=>(by cases hx),fun x hx=>(by cases hx)⟩,fun e=>by cases e⟩
 have htr:=J.tr.main (fun j hj=>(G.wk j hj).1) hev a.frame.fn a.frame.place;refine⟨_,w',_,upd D i ⟨8,m8,0⟩,.cl l,m,a',st,sm,hrun,?_,?_⟩
 . refine⟨by simp [J.size],by rw [qbn _ _ _ _ vk,if_pos rfl],.cl hm,fun j x hj hx=>?_,fun j hj=>?_,fun j hj=>?_,fun c' hc'=>J.source c' (List.mem_cons_of_mem _ hc'),(List.nodup_cons.1 J.nodup).2,fun j hj h=>?_,fun j hj h=>?_,fun j hj h=>?_,(hne _ qcR).trans J.wg,?_,?_,?_,fun j hj=>?_⟩
   . rw [qbn _ _ _ _ vk,if_neg (fun e=>hj e.symm),Array.getElem?_map] at hx;obtain⟨x0,hx0,e⟩:=Option.map_eq_some_iff.1 hx;rw [Deaf_other t (fun e=>hj e.symm) _ qcr];by_cases hji:j=i
     . subst hji;rw [hy] at hx0;cases hx0;subst e;rw [hsi];exact⟨⟨rfl,hm8⟩,hyd.trans hd0⟩
     . rw [hoth j x0 hj hji hx0] at e;subst e;rw [hst j hji];obtain⟨h1,h2⟩:=J.ja j x0 hj hx0;refine⟨?_,h2⟩;by_cases hW:Wk j
       . have hb:=hne _ (qcQ j hW);exact h1.rely ⟨fun b hb0 _ _=>absurd hb0 (Nat.not_lt_zero b),fun ⟨s1,s2,h⟩=>⟨s1,s2,(hne _ qcR).trans h⟩,fun ⟨cs,hc,hl⟩=>⟨cs,hb.trans hc,hl⟩,qgk hb 0 none⟩
       . rw [J.old j hW] at h1 |-;have h4:=h1.low (by omega);cases h4 with
         | quit hq=>exact .of (.quit hq)
   . have hji:j≠i:=fun e=>hj (e ▸ hWi);rw [hst j hji];exact J.old j hj
   . by_cases hji:j=i
     . subst hji;rw [hsi];constructor
       . intro h;cases h
       . intro h;rw [hci] at h;exact absurd h (List.nodup_cons.1 J.nodup).1
     . rw [hst j hji];refine(J.nine j hj).trans ⟨fun h=>?_,fun h=>List.mem_cons_of_mem _ h⟩;rcases List.mem_cons.1 h with h | h
       . exact absurd h (kL j hj hji)
       . exact h
   . by_cases hji:j=i
     . subst hji;rw [hsi] at h;cases h
     . rw [hst j hji] at h;obtain⟨κ',hκ'⟩:=J.open_ j hj h;exact⟨κ',(hne _ (kL j hj hji)).trans hκ'⟩
   . by_cases hji:j=i
     . subst hji;exact⟨κ,by rw [hci];exact hat⟩
     . rw [hst j hji] at h;obtain⟨κ',hκ'⟩:=J.shut j hj h;exact⟨κ',(hne _ (kL j hj hji)).trans hκ'⟩
   . have h':8<=(D j).stage:=by
       by_cases hji:j=i
       . subst hji;omega
       . rw [hst j hji] at h;exact h
     obtain⟨h1,h2⟩:=J.fact j hj h';exact⟨qaL _ h1,(qgk (hne _ (qcQ j hj)) 0 none).trans h2⟩
   . exact(J.mode.counted hi.2 (by omega) (s':=8) (by omega) m8 0).tail
   . rw [hsize]
     have hle:∀ j,(upd D i ⟨8,m8,0⟩ j).stage<=(D j).stage:=fun j=>by
       by_cases hji:j=i
       . subst hji;rw [hsi,h9];show 8<=9;omega
       . rw [hst j hji];exact Nat.le_refl _
     refine⟨htr.jr.fall (qz0 hle),htr.start,htr.norel,fun j hj h=>htr.rel j hj ?_⟩;by_cases hji:j=i
     . subst hji;rw [hsi] at h;have h:8<=6:=h;omega
     . rw [hst j hji] at h;exact h
   . rw [Deaf_own,J.deaf];rfl
   . rw [Deaf_other t (by have:=J.lt J.here;omega) _ qcr];exact J.above j hj
 . have e1:=qvl (D:=D) (⟨8,m8,0⟩:WD) hi.2;have e2:=sumTo_upd D (⟨8,m8,0⟩:WD) WD.stage hi.2;have a2:(sumTo n fun a=>WD.stage (upd D i ⟨8,m8,0⟩ a))=Ssum n (upd D i ⟨8,m8,0⟩):=rfl;have a3:(sumTo n fun a=>WD.stage (D a))=Ssum n D:=rfl;rw [a2,a3,h9] at e2;simp only at e2;unfold mu LtJ;refine Prod.Lex.left _ _ ?_;simp only [phi,List.length_cons];omega
end
section
variable [Payload]{P:Program}{ty:TypeId}{Wg:Nat}{Bx:Nat->Prop}{Sh:Nat->Prop}{Fz Fz':Loc->Prop}{AnchW Next:Goroutine->World->Prop}{n:Nat}{Wk:Nat->Prop}{cr:Nat->Hands}{p0:Nat}{Post:Value->World->Prop}
 {D:Nat->WD} {tag:Tag} {f0 d0:Nat} {a:Goroutine} {st sm:Int} {gs:Array Goroutine} {w:World} {t:Trace}
theorem Join.awake(hA:∀ g w,AnchW g w->g.status=.running)(J:Join P ty Wg Bx Sh Fz AnchW Next n Wk cr p0 D tag f0 d0 a st sm gs w t):∀ x∈gs,awake x:=by
 intro x hx;obtain⟨i,hi⟩:=Array.mem_iff_getElem?.1 hx;by_cases h0:i=0
 . subst h0;rw [J.here] at hi;cases hi;rcases J.main.status hA with ⟨h,_⟩ | ⟨h,_⟩
   . exact awake_of (.inl h)
   . exact awake_of (.inr (.inl h))
 . rcases (J.ja i x h0 hi).1.status with h | ⟨h,_⟩ | ⟨_,h⟩
   . exact awake_of (.inl h)
   . exact awake_of (.inr (.inr h))
   . rw [h];exact awake_of (.inr (.inl rfl))
theorem Join.runs(G:jE P ty Wg Bx Sh Fz n Wk cr)(hA:∀ g w,AnchW g w->g.status=.running)(J:Join P ty Wg Bx Sh Fz AnchW Next n Wk cr p0 D tag f0 d0 a st sm gs w t):∃ (i:Nat) (g:Goroutine),gs[i]?=some g/\g.status=.running:=by
 rcases J.main.status hA with ⟨h,_⟩ | ⟨_,rfl,_⟩
 . exact⟨0,a,J.here,h⟩
 . have one:∀ i,i < n->(D i).stage≠1->∃ (i:Nat) (g:Goroutine),gs[i]?=some g/\g.status=.running:=fun i hi h1=>by
     have hW:=J.xa h1;obtain⟨y,hy⟩:∃ y,gs[i]?=some y:=⟨_,Array.getElem?_eq_getElem (by rw [J.size];exact hi)⟩;rcases (J.ja i y (G.wk i hW).1 hy).1.status with h | ⟨_,h⟩ | ⟨h,_⟩
     . exact⟨i,y,hy,h⟩
     . exact absurd h h1
     . have:=(J.nine i hW).1 h;cases this
   have hm:=J.mode;cases hm with
   | opn h1 _ _=>exact h1.elim
   | reg _ _ h3=>
     obtain⟨i,hi,h5⟩:=Go.ConcN.exists_counted h3;exact one i hi (by omega)
   | last L _ h2 h3 _=>exact one L h2 (by omega)
   | fin h1 _=>exact h1.elim
theorem Join.done(G:jE P ty Wg Bx Sh Fz n Wk cr)(J:Join P ty Wg Bx Sh Fz AnchW Next n Wk cr p0 D .acq f0 0 a st sm gs w t){g':Goroutine}(hgo:stepG P true a w=.go g' w #[Go.ConcR.mk (Mark.acquire (stA Wg))])(sl:Option (Nat × Nat)) :
   ∃ gs' ops q,runT P (crowd gs w sl) 0=(.next (crowd gs' w sl),ops)/\q9 P Sh Fz (fun _=>.left) n 0 0 g' w gs' (t++ops) q:=by
 have hall:∀ i,i < n->(D i).stage=1:=by
   have hm:=J.mode;cases hm with
   | opn h1 _ _=>exact h1.elim
   | reg h1 _ _=>exact h1.elim
   | last L h1 _ _ _=>exact h1.elim
   | fin _ h2=>exact h2
 have hsz:0 < gs.size:=(Array.getElem?_eq_some_iff.1 J.here).1;have vk:0 < (gs.map (Go.Conc.woken P a g' w)).size:=by simpa using hsz
 have hrun:=runT_crowd_go (P:=P) (sl:=sl) (i:=0) J.here (by simpa using hgo)
 have hoth:∀ j y,j≠0->gs[j]?=some y->Go.Conc.woken P a g' w y=y:=fun j y hj hy=>by
   unfold Go.Conc.woken;split
   . rcases (J.ja j y hj hy).1.status with e | ⟨e,_⟩ | ⟨e,_⟩
     . exact again_running _ (.inl e)
     . exact again_running _ (.inr e)
     . have:=hall j (J.lt hy);omega
   . rfl
 have hop:MemOp.ofEvents 0 a.frame.fn a.frame.place #[Go.ConcR.mk (Mark.acquire (stA Wg))]=#[{ g:=0,fn:=a.frame.fn,pos:=a.frame.place,act:=.mark (.acquire (stA Wg)) }]:=by simp [MemOp.ofEvents,Go.ConcR.mk,MemAct.ofEvent]
 rw [hop] at hrun;generalize hy:({ g:=0,fn:=a.frame.fn,pos:=a.frame.place,act:=.mark (.acquire (stA Wg)) }:MemOp)=y at hrun;have y0:y.g=0/\y.act=.mark (.acquire (stA Wg)):=by rw [<-hy];exact⟨rfl,rfl⟩
 have one:∀ op∈(#[y]:Trace),op=y:=fun op h=>by simpa using h
 have still:∀ j,Deaf (t++#[y]) j=Deaf t j:=fun j=>by rw [Deaf_push];simp [deafStep,y0.2]
 have hm:=J.tr.jr.mute (u:=#[y]) (fun op h=>by rw [one op h,y0.2];rfl);refine⟨_,_,fun i=>(D i).fuel,hrun,⟨by simp [J.size],by rw [qbn _ _ _ _ vk,if_pos rfl],fun j x hj hx=>?_,(fun i s _ _ h=>by cases h),(fun i j s s' _ _ _ _ h=>by cases h),?_,by rw [still];exact J.deaf,fun j hj=>by rw [still];exact J.above j hj⟩⟩
 . rw [qbn _ _ _ _ vk,if_neg (fun e=>hj e.symm),Array.getElem?_map] at hx;obtain⟨x0,hx0,e⟩:=Option.map_eq_some_iff.1 hx;rw [hoth j x0 hj hx0] at e;subst e;rw [still];obtain⟨h1,h2⟩:=J.ja j x0 hj hx0;rw [hall j (J.lt hx0)] at h1;have h4:=h1.low (by omega);generalize (D j).deaf=dd at h4 h2;cases h4 with
   | quit hq=>exact⟨by simp [hj],by rw [h2];exact hq⟩
 . refine⟨hm.clean,hm.known,fun k _ i x _ hs _=>?_,hm.seen,hm.quiet,fun k l hs=>?_,fun i k hg hL hc=>?_⟩
   . obtain⟨_,_,s,h,_⟩:=hs;cases h
   . obtain⟨_,_,s,h,_⟩:=hs;cases h
   . by_cases hW:Wk k
     . obtain⟨p,hp0,hrel,hbef⟩:=J.tr.rel k hW (by rw [hall k (G.wk k hW).2];omega);obtain⟨x,hx,hmem,hh⟩:=hc;rcases qbs hx with ⟨hi,hx'⟩ | ⟨_,op,hop',_,hxa⟩
       . have hg':t.g? i=some k:=by rw [g?_old hi] at hg;exact hg
         rcases hbef i x hg' hx' with h1 | ⟨h1,h2⟩
         . obtain⟨opi,qeO,hgi⟩:=Option.map_eq_some_iff.1 hg';obtain⟨opp,qeP,hgp⟩:=Option.map_eq_some_iff.1 hrel.g;exact qtu hrel (fun q hq=>J.tr.norel q (by omega)) y0.1 y0.2 J.deaf (.inr (hb_po h1 qeO qeP (hgi.trans hgp.symm)))
         . rcases hh with hh | hh
           . exact absurd h1 hh
           . exact absurd ((heard_old hi).1 hh) h2
       . rw [one op hop',y0.2] at hxa;cases hxa
     . exact hm.over i k hg ⟨hL.1,hW⟩ hc
theorem q3e(G:jE P ty Wg Bx Sh Fz n Wk cr)(hA:∀ g w,AnchW g w->g.status=.running)(hAn:∀ g w,AnchW g w->∃ m,Goes P true (RM ty Wg Bx) (DM Wg Sh Fz) (MW1 P ty Wg Bx Sh Fz AnchW Next) m g w)
   (hN:∀ g w,Next g w->jH P Post Sh Fz (fun _=>.left) n 0 0 g w):∀ (μ:Nat × Nat) (D:Nat->WD) (tag:Tag) (f0 d0:Nat) (a:Goroutine) (st sm:Int) (gs:Array Goroutine) (w:World) (t:Trace),
   mu n D tag f0=μ->Join P ty Wg Bx Sh Fz AnchW Next n Wk cr p0 D tag f0 d0 a st sm gs w t->vI P Post gs w t:=by
 intro μ
 induction μ using yC.induction with
 | _ μ ih=>
   intro D tag f0 d0 a st sm gs w t hμ J;subst hμ;by_cases hanch:tag=.anch/\AnchW a w
   . obtain⟨rfl,hw⟩:=hanch;obtain⟨m,hm⟩:=hAn a w hw
     have hd0:d0=1:=by
       have h:=J.main;cases h;rfl
     subst hd0
     have hmode:q7 n D .w1 st sm:=by
       have h:=J.mode;cases h with
       | opn h1 h2 h3=>exact .opn trivial h2 (fun vs e=>by cases e)
       | reg h1 _ _=>exact h1.elim
       | last L h1 _ _ _=>exact h1.elim
       | fin h1 _=>exact h1.elim
     refine ih (mu n D .w1 m) ?_ D .w1 m 1 a st sm gs w t rfl ⟨J.size,J.here,.w1 hm,J.ja,J.old,J.nine,J.source,J.nodup,J.open_,J.shut,J.fact,J.wg,hmode,J.tr,J.deaf,J.above⟩;unfold mu;exact Prod.Lex.left _ _ (by simp only [phi];omega)
   refine qhn (J.awake hA) (J.runs G hA) (fun i x d sl hx hr=>.inl ?_);have Jd:=J.at d;by_cases hi:i=0
   . subst hi;rw [J.here] at hx;cases hx;have hsame:∀ {w1 w2:World},w1=w2->Aside Wg w2 w1:=fun e=>e ▸ ⟨rfl,rfl,rfl,rfl,fun _ _=>rfl⟩
     have go:∀ {a':Goroutine} {w':World} {es:Array Event} {tag':Tag} {f' d':Nat} {st' sm':Int},stepG P true a (w.at d)=.go a' w' es->Aside Wg (w.at d) w'->WgAt ty Wg w' st' sm'->(∀ e,e∈es->qk6 Sh Fz (w.at d).heap.size e/\e.loc≠.mark (.release (stA Wg)))->deafBehind d0 es=d' ->
         ze P ty Wg Bx Sh Fz AnchW Next tag' f' d' a' w'->vv tag'=vv tag->q7 n D tag' st' sm'->(phi n (Vc n D) tag' < phi n (Vc n D) tag∨(phi n (Vc n D) tag'=phi n (Vc n D) tag/\f' < f0)) ->
         ∃ gs' w' sl' ops,runT P (crowd gs (w.at d) sl) 0=(.next (crowd gs' w' sl'),ops)/\vI P Post gs' w' (t++ops):=fun h1 h2 h3 h4 h5 h6 h7 h8 h9=>by
       obtain⟨gs',ops,k1,k2,k3⟩:=Jd.mgo G sl h1 h2 h3 h4 h5 h6 h7 h8 h9;exact⟨gs',_,sl,ops,k1,ih _ k3 _ _ _ _ _ _ _ _ _ _ rfl k2⟩
     have dm:∀ {es:Array Event} {w2:World},DM Wg Sh Fz (w.at d) w2 es->w2=w.at d/\(∀ e,e∈es->qk6 Sh Fz (w.at d).heap.size e/\e.loc≠.mark (.release (stA Wg)))/\∀ d',deafBehind d' es=d':=fun h=>⟨h.1,fun e he=>⟨(h.2 e he).1,(h.2 e he).2.2.2⟩,fun d'=>deafBehind_still (fun e he=>⟨(h.2 e he).2.1,(h.2 e he).2.2.1⟩) d'⟩;have hwg:=Jd.wg;have hmode:=J.mode;have hVn:=q8q n D;have vJ:=G.few;have hwl:=Jd.wlt;have hmain:=Jd.main;cases hmain with
     | @cl l m _ _ h=>
       rcases qc9 (RM.refl _) h with hst | ⟨m',hm,g',w',es,hgo,hdm,hg'⟩
       . cases l with
         | nil=>
           obtain⟨_,g',hgo,m',hm'⟩:=hst;refine go hgo (hsame rfl) hwg (qzy (fun b=>⟨by simp,by simp⟩) (by simp)) rfl (.anch hm') rfl ?_ (.inl (by simp only [phi,List.length_nil];omega));cases hmode with
           | opn h1 h2 h3=>exact .opn trivial h2 (fun vs e=>by cases e)
           | reg h1 _ _=>exact h1.elim
           | last L h1 _ _ _=>exact h1.elim
           | fin h1 _=>exact h1.elim
         | cons c l=>
           obtain⟨gs',w',ops,D',tag',f',a',st',sm',k1,k2,k3⟩:=Jd.close G hst sl;exact⟨gs',w',sl,ops,k1,ih _ k3 _ _ _ _ _ _ _ _ _ _ rfl k2⟩
       . obtain⟨rfl,k1,k2⟩:=dm hdm;exact go hgo (hsame rfl) hwg k1 (k2 _) (.cl hg') rfl hmode (.inr ⟨rfl,by omega⟩)
     | anch h=>
       rcases qpt (RM.refl _) h with hst | ⟨m',hm,g',w',es,hgo,hdm,hg'⟩
       . exact absurd ⟨rfl,hst w (RM.at (w.at d) w.drawn)⟩ hanch
       . obtain⟨rfl,k1,k2⟩:=dm hdm;exact go hgo (hsame rfl) hwg k1 (k2 _) (.anch hg') rfl hmode (.inr ⟨rfl,by omega⟩)
     | w1 h=>
       rcases qc9 (RM.refl _) h with hst | ⟨m',hm,g',w',es,hgo,hdm,hg'⟩
       . cases hmode with
         | opn h1 h2 h3=>
           obtain⟨g',hgo,hz,hnz⟩:=hst.2 (Vc n D) (by omega) hwg;by_cases hv:Vc n D=0
           . obtain⟨m',hm'⟩:=hz hv
             have hall:∀ i,i < n->(D i).stage=1:=fun i hi=>by
               rcases h2 i hi with h | h
               . have:=le_sumTo (f:=fun a=>cnt (D a)) hi;have c1:cnt (D i)=1:=by simp [cnt,h]
                 simp only [Vc] at hv;omega
               . exact h
             have hwg':WgAt ty Wg (w.at d) 0 0:=by rw [hv] at hwg;simpa using hwg
             exact go hgo (hsame rfl) hwg' (qi7 G hwl (qps Wg)) rfl (.ke hm') rfl (.fin trivial hall) (.inl (by simp only [phi];omega))
           . obtain⟨m',hm'⟩:=hnz hv;exact go hgo (hsame rfl) hwg (qi7 G hwl (qps Wg)) rfl (.w2 hm') rfl (.opn trivial h2 (fun vs e=>by cases e;omega)) (.inl (by simp only [phi];omega))
         | reg h1 _ _=>exact h1.elim
         | last L h1 _ _ _=>exact h1.elim
         | fin h1 _=>exact h1.elim
       . obtain⟨rfl,k1,k2⟩:=dm hdm;exact go hgo (hsame rfl) hwg k1 (k2 _) (.w1 hg') rfl hmode (.inr ⟨rfl,by omega⟩)
     | @w2 vs m _ _ h=>
       rcases qc9 (RM.refl _) h with hst | ⟨m',hm,g',w',es,hgo,hdm,hg'⟩
       . cases hmode with
         | opn h1 h2 h3=>
           obtain⟨hle,h1v⟩:=h3 vs rfl;obtain⟨hhit,hmiss⟩:=hst.2 (Vc n D) (by omega) hwg;by_cases hv:Vc n D=vs
           . obtain⟨g',hgo,m',hm'⟩:=hhit hv;exact go hgo (aside_setCell _ (stA Wg) _) (hwg.setSt _) (qi7 G hwl (qk3 Wg)) rfl (.w3 hm') rfl (.reg trivial h2 (by omega)) (.inl (by simp only [phi];omega))
           . obtain⟨g',hgo,m',hm'⟩:=hmiss hv;exact go hgo (hsame rfl) hwg (qi7 G hwl (qps Wg)) rfl (.anch hm') rfl (.opn trivial h2 (fun vs e=>by cases e)) (.inl (by simp only [phi];omega))
         | reg h1 _ _=>exact h1.elim
         | last L h1 _ _ _=>exact h1.elim
         | fin h1 _=>exact h1.elim
       . obtain⟨rfl,k1,k2⟩:=dm hdm;exact go hgo (hsame rfl) hwg k1 (k2 _) (.w2 hg') rfl hmode (.inr ⟨rfl,by omega⟩)
     | w3 h=>
       rcases qpt (RM.refl _) h with hst | ⟨m',hm,g',w',es,hgo,hdm,hg'⟩
       . obtain⟨_,_,qaM,hwake⟩:=hst _ (RM.refl _)
         have blocks:sm=0->q7 n D .blk st sm->∃ gs' w' sl' ops,runT P (crowd gs (w.at d) sl) 0=(.next (crowd gs' w' sl'),ops)/\vI P Post gs' w' (t++ops):=fun h0 hm=>by
           subst h0;exact go (qaM ⟨st,hwg⟩) (hsame rfl) hwg (fun e he=>by simp at he) rfl (.blk hst) rfl hm (.inr ⟨rfl,Nat.succ_pos _⟩)
         cases hmode with
         | opn h1 _ _=>exact h1.elim
         | reg _ h2 h3=>exact blocks rfl (.reg trivial h2 h3)
         | last L _ h2 h3 h4=>exact blocks rfl (.last L trivial h2 h3 h4)
         | sema h2=>
           obtain⟨g',hgo,m',hm'⟩:=hwake hwg;exact go hgo (aside_setCell _ (smA Wg) _) (hwg.setSm 0) (qi7 G hwl (qzx Wg)) rfl (.w4 hm') rfl (.fin trivial h2) (.inl (by simp only [phi];omega))
         | fin h1 _=>exact h1.elim
       . obtain⟨rfl,k1,k2⟩:=dm hdm;exact go hgo (hsame rfl) hwg k1 (k2 _) (.w3 hg') rfl hmode (.inr ⟨rfl,by omega⟩)
     | blk h=>cases hr
     | w4 h=>
       rcases qc9 (RM.refl _) h with hst | ⟨m',hm,g',w',es,hgo,hdm,hg'⟩
       . cases hmode with
         | opn h1 _ _=>exact h1.elim
         | reg h1 _ _=>exact h1.elim
         | last L h1 _ _ _=>exact h1.elim
         | fin h1 h2=>
           obtain⟨g',hgo,m',hm'⟩:=hst.2 hwg;exact go hgo (hsame rfl) hwg (qi7 G hwl (qps Wg)) rfl (.ke hm') rfl (.fin trivial h2) (.inl (by simp only [phi];omega))
       . obtain⟨rfl,k1,k2⟩:=dm hdm;exact go hgo (hsame rfl) hwg k1 (k2 _) (.w4 hg') rfl hmode (.inr ⟨rfl,by omega⟩)
     | ke h=>
       rcases qc9 (RM.refl _) h with hst | ⟨m',hm,g',w',es,hgo,hdm,hg'⟩
       . cases hmode with
         | opn h1 _ _=>exact h1.elim
         | reg h1 _ _=>exact h1.elim
         | last L h1 _ _ _=>exact h1.elim
         | fin h1 h2=>
           obtain⟨_,g',hgo,m',hm'⟩:=hst;exact go hgo (hsame rfl) hwg (qzy (fun b=>⟨by simp,by simp⟩) (by simp)) rfl (.acq hm') rfl (.fin trivial h2) (.inl (by simp only [phi];omega))
       . obtain⟨rfl,k1,k2⟩:=dm hdm;exact go hgo (hsame rfl) hwg k1 (k2 _) (.ke hg') rfl hmode (.inr ⟨rfl,by omega⟩)
     | acq h=>
       rcases qc9 (RM.refl _) h with hst | ⟨m',hm,g',w',es,hgo,hdm,hg'⟩
       . obtain⟨_,g',hgo,hnext⟩:=hst;obtain⟨gs',ops,q,k1,k2⟩:=Jd.done G hgo sl;exact⟨gs',_,sl,ops,k1,hN g' _ hnext _ _ _ k2⟩
       . obtain⟨rfl,k1,k2⟩:=dm hdm;exact go hgo (hsame rfl) hwg k1 (k2 _) (.acq hg') rfl hmode (.inr ⟨rfl,by omega⟩)
   . obtain⟨gs',w',ops,D',tag',f',a',st',sm',k1,k2,k3⟩:=Jd.worker G hA hi hx hr sl;exact⟨gs',w',sl,ops,k1,ih _ k3 _ _ _ _ _ _ _ _ _ _ rfl k2⟩
end
def q8r:q8->Prop
 | .seat _=>True
 | .left=>False
def WkT(T:Nat->q8)(n:Nat)(i:Nat):Prop:=i≠0/\i < n/\q8r (T i)
section
variable [Payload]{P:Program}{ty:TypeId}{Wg:Nat}{Bx:Nat->Prop}{Sh:Nat->Prop}{Fz:Loc->Prop}{AnchW Next:Goroutine->World->Prop}{n:Nat}{T:Nat->q8}{cr:Nat->Hands}{Post:Value->World->Prop}
 {a:Goroutine} {w:World}
open Classical in
theorem q3f(G:jE P ty Wg Bx Sh Fz n (WkT T n) cr)(hA:∀ g w,AnchW g w->g.status=.running)(hAn:∀ g w,AnchW g w->∃ m,Goes P true (RM ty Wg Bx) (DM Wg Sh Fz) (MW1 P ty Wg Bx Sh Fz AnchW Next) m g w)
   (hN:∀ g w,Next g w->jH P Post Sh Fz (fun _=>.left) n 0 0 g w) (hT:∀ i,WkT T n i->T i=.seat (cr i).s) (hout:∀ i,n<=i->T i=.left) (qeQ:∀ i,WkT T n i->((⟨(cr i).bx,0,none⟩:Addr),(cr i).val)∈(cr i).s.L)
   {l:List Nat} (hl:l.Nodup) (hl1:∀ i,WkT T n i->(cr i).s.c∈l) (hl2:∀ c,c∈l->∃ i,WkT T n i/\(cr i).s.c=c) {V:Nat} (hV:(sumTo n fun i=>if WkT T n i then 1 else 0)=V) (hwg:WgAt ty Wg w (V * KK) 0)
   {m:Nat} (hm:Goes P true (RM ty Wg Bx) (DM Wg Sh Fz) (MCl P ty Wg Bx Sh Fz AnchW l) m a w):jH P Post Sh Fz T n 0 0 a w:=by
 intro gs t q H
 let D:Nat->WD:=fun i=>if WkT T n i then ⟨9,q i,0⟩ else ⟨1,q i,Deaf t i⟩
 have hD1:∀ i,WkT T n i->D i=⟨9,q i,0⟩:=fun i h=>if_pos h;have hD2:∀ i,¬ WkT T n i->D i=⟨1,q i,Deaf t i⟩:=fun i h=>if_neg h
 have yD:∀ i,i≠0->i < n->¬ WkT T n i->T i=.left:=fun i h1 h2 h3=>by
   cases hTi:T i with
   | left=>rfl
   | seat s=>exact absurd ⟨h1,h2,by rw [hTi];trivial⟩ h3
 have hVc:Vc n D=V:=by
   rw [<-hV];refine sumTo_congr (fun i _=>?_);by_cases h:WkT T n i
   . rw [hD1 i h,if_pos h];rfl
   . rw [hD2 i h,if_neg h];rfl
 refine q3e (p0:=t.size) G hA hAn hN _ D (.cl l) m 0 a (V * KK) 0 gs w t rfl ⟨H.size,H.here,.cl hm,fun i x hi hx=>?_,fun i h=>by rw [hD2 i h],fun i h=>?_,hl2,hl,fun i h _=>?_,fun i h h8=>?_,fun i h _=>?_,hwg,?_,?_,H.deaf,H.above⟩
 . have hs:=H.ja i x hi hx;have hlt:=H.lt hx;by_cases h:WkT T n i
   . rw [hD1 i h];rw [hT i h] at hs;exact⟨⟨rfl,by rw [show (i == 0)=false from by simp [hi]] at hs;exact hs.2⟩,hs.1⟩
   . rw [hD2 i h];rw [yD i hi hlt h] at hs;exact⟨.of (.quit hs.2),rfl⟩
 . rw [hD1 i h];exact⟨fun _=>hl1 i h,fun _=>rfl⟩
 . exact(H.fact i _ h.1 h.2.1 (hT i h)).2
 . rw [hD1 i h] at h8;cases h8
 . have h1:=(H.fact i _ h.1 h.2.1 (hT i h)).1;exact⟨h1,h1 _ (qeQ i h)⟩
 . have key:q7 n D (.cl l) ((Vc n D:Nat) * KK) 0:=.opn trivial (fun i _=>by
     by_cases h:WkT T n i
     . rw [hD1 i h];exact .inl (by show 5<=9;omega)
     . rw [hD2 i h];exact .inr rfl) (fun vs e=>by cases e)
   rw [hVc] at key;exact key
 . refine⟨⟨H.jr.clean,H.jr.known,fun k hk i x ha hs hw=>H.jr.wrote k hk i x ha ?_ hw,H.jr.seen,H.jr.quiet,fun k l hs=>H.jr.sub k l ?_,fun i k hg hL hc=>H.jr.over i k hg ⟨hL.1,?_⟩ hc⟩,Nat.le_refl _,fun p hp e=>?_,fun i h h6=>?_⟩
   . obtain⟨h1,_,h3⟩:=hs;exact⟨h1.1,h1.2.1,_,hT k h1,h3⟩
   . obtain⟨h1,_,h3⟩:=hs;exact⟨h1.1,h1.2.1,_,hT k h1,h3⟩
   . by_cases hk:k < n
     . exact yD k hL.1 hk hL.2
     . exact hout k (by omega)
   . have:=lt_of_act? e;omega
   . rw [hD1 i h] at h6;have h6:9<=6:=h6;omega
end
end
section
open Go.Conc
end
section
open Go.Conc
def StW(T:Nat->q8)(n h:Nat)(r:Nat):Prop:=∃ i s,i≠h/\i < n/\T i=.seat s/\(r=s.c∨∃ x,x∈s.L/\x.1.block=r)
structure Still(T:Nat->q8)(n h:Nat)(w w':World):Prop where
 chan:∀ i s,i≠h->i < n->T i=.seat s->w'.heap[s.c]?=w.heap[s.c]?
 cell:∀ i s,i≠h->i < n->T i=.seat s->∀ x,x∈s.L->w.cell? x.1=some x.2->w'.cell? x.1=some x.2
theorem Still.of{T:Nat->q8}{n h:Nat}{w w':World}(k:∀ r,StW T n h r->w'.heap[r]?=w.heap[r]?):Still T n h w w':=
 ⟨fun i s h1 h2 h3=>k _ ⟨i,s,h1,h2,h3,.inl rfl⟩,fun i s h1 h2 h3 x hx hc=>by
   have:=k _ ⟨i,s,h1,h2,h3,.inr ⟨x,hx,rfl⟩⟩;unfold World.cell? at hc |-;rw [this];exact hc⟩
theorem Still.refl{T:Nat->q8}{n h:Nat}{w:World}:Still T n h w w:=⟨fun _ _ _ _ _=>rfl,fun _ _ _ _ _ _ _ hc=>hc⟩
structure qZ(Sh:Nat->Prop)(Fz:Loc->Prop)(T:Nat->q8)(n h:Nat)(w w':World)(es:Array Event):Prop where
 still:Still T n h w w'
 evs:∀ e,e∈es->qk6 Sh Fz w'.heap.size e
 size:w.heap.size<=w'.heap.size
def DS(Sh:Nat->Prop)(Fz:Loc->Prop)(T:Nat->q8)(n h:Nat)(w w':World)(es:Array Event):Prop:=
 qZ Sh Fz T n h w w' es/\∀ e,e∈es->e.loc≠.mark .disable/\e.loc≠.mark .enable
section
variable {P:Program}{Post:Value->World->Prop}{Sh:Nat->Prop}{Fz:Loc->Prop}{T:Nat->q8}{n h dd:Nat}{g:Goroutine}{w:World}
theorem qZ.idle(w:World):qZ Sh Fz T n h w w #[]:=⟨.refl,fun e he=>by simp at he,Nat.le_refl _⟩
theorem q8s:LetsDraw (DS Sh Fz T n h):=fun w=>⟨⟨⟨fun _ _ _ _ _=>rfl,fun _ _ _ _ _ _ _ hc=>hc⟩,fun e he=>by simp at he,Nat.le_refl _⟩,fun e he=>by simp at he⟩
theorem qvn(hs:g.status=.running)(step:∀ d,∃ g' w' es,stepG P (h == 0) g (w.at d)=.go g' w' es/\qZ Sh Fz T n h (w.at d) w' es/\jH P Post Sh Fz T n h (deafBehind dd es) g' w'):jH P Post Sh Fz T n h dd g w:=by
 refine qpw hs (fun d gs t q H sl=>?_);obtain⟨g',w',es,h1,h2,h3⟩:=step d;have ho:zD Sh Fz T n h (w.at d) w' es:=⟨fun i s hi hn hT=>⟨fun x hx=>h2.still.cell i s hi hn hT x hx ((H.fact i s hi hn hT).1 x hx),h2.still.chan i s hi hn hT⟩,h2.evs,h2.size⟩;have hrun:=runT_crowd_go (P:=P) (sl:=sl) H.here h1;rw [H.vn ho.chan g'] at hrun;exact .inl ⟨_,w',sl,_,hrun,h3 _ _ _ (H.stepped ho)⟩
def qd(P:Program)(Post:Value->World->Prop)(Sh:Nat->Prop)(Fz:Loc->Prop)(T:Nat->q8)(n h dd:Nat)(g:Goroutine)(w:World):Prop:=∀ d,jH P Post Sh Fz T n h dd g (w.at d)
theorem qd.lead(H:qd P Post Sh Fz T n h dd g w):jH P Post Sh Fz T n h dd g w:=H w.drawn
theorem qd.at(H:qd P Post Sh Fz T n h dd g w)(d:Nat):qd P Post Sh Fz T n h dd g (w.at d):=fun e=>H e
theorem qb5(hs:g.status=.running)(step:∀ d,∃ g' w' es,stepG P (h == 0) g (w.at d)=.go g' w' es/\qZ Sh Fz T n h (w.at d) w' es/\jH P Post Sh Fz T n h (deafBehind dd es) g' w'):qd P Post Sh Fz T n h dd g w:=
 fun _=>qvn hs (fun e=>step e)
theorem qcy{g':Goroutine}(hs:g.status=.running)(hc:∀ w,stepG P (h == 0) g w=.go g' w #[])(H:qd P Post Sh Fz T n h dd g' w):qd P Post Sh Fz T n h dd g w:=
 qb5 hs (fun d=>⟨g',w.at d,#[],hc _,.idle _,by show jH P Post Sh Fz T n h dd g' _;exact H d⟩)
theorem qau{b:Frame}{a:Act}{x y:Code}{k:List Item}{cs:List Frame}(H:qd P Post Sh Fz T n h dd (G (b.at a (.code x::.code y::k)) cs) w):qd P Post Sh Fz T n h dd (G (b.at a (.code (.seq x y)::k)) cs) w:=
 qcy rfl (fun _=>stepG_seq) H
theorem qmn{b:Frame}{a:Act}{k:List Item}{cs:List Frame}(H:qd P Post Sh Fz T n h dd (G (b.at a k) cs) w):qd P Post Sh Fz T n h dd (G (b.at a (.code .skip::k)) cs) w:=
 qcy rfl (fun _=>stepG_skip) H
theorem qe4{b:Frame}{a:Act}{id:Nat}{x:Code}{k:List Item}{cs:List Frame}(H:qd P Post Sh Fz T n h dd (G (b.at a (.code x::.inBlock id::k)) cs) w):qd P Post Sh Fz T n h dd (G (b.at a (.code (.block id x)::k)) cs) w:=
 qcy rfl (fun _=>stepG_block) H
theorem qk4{b:Frame}{a:Act}{id:Nat}{k:List Item}{cs:List Frame}(H:qd P Post Sh Fz T n h dd (G (b.at a k) cs) w):qd P Post Sh Fz T n h dd (G (b.at a (.inBlock id::k)) cs) w:=
 qcy rfl (fun _=>stepG_inBlock) H
theorem qmo{b:Frame}{a:Act}{x:Code}{k:List Item}{cs:List Frame}(H:qd P Post Sh Fz T n h dd (G (b.at a (.code x::.inLoop x::k)) cs) w):qd P Post Sh Fz T n h dd (G (b.at a (.code (.loop x)::k)) cs) w:=
 qcy rfl (fun _=>stepG_loop) H
theorem qni{b:Frame}{a:Act}{x:Code}{k:List Item}{cs:List Frame}(H:qd P Post Sh Fz T n h dd (G (b.at a (.code x::.inLoop x::k)) cs) w):qd P Post Sh Fz T n h dd (G (b.at a (.inLoop x::k)) cs) w:=
 qcy rfl (fun _=>stepG_inLoop) H
theorem qan{b:Frame}{a:Act}{ops:Array Oper}{k:List Item}{cs:List Frame}(H:qd P Post Sh Fz T n h dd (G (b.at a k) cs) w):qd P Post Sh Fz T n h dd (G (b.at a (.inRegion ops []::k)) cs) w:=
 qcy rfl (fun _=>stepG_region_end) H
theorem qaz{b:Frame}{a:Act}{id:Nat}{ops:Array Oper}{k:List Item}{cs:List Frame}(H:qd P Post Sh Fz T n h dd (G (b.at a (.inRegion ops (List.range ops.size)::k)) cs) w):qd P Post Sh Fz T n h dd (G (b.at a (.code (.region id ops false)::k)) cs) w:=
 qcy rfl (fun _=>stepG_region) H
theorem qhc{b:Frame}{a:Act}{c:Operand}{x y:Code}{t:Bool}{k:List Item}{cs:List Frame}(hc:a.eval c=.bool t)(H:qd P Post Sh Fz T n h dd (G (b.at a (.code (if t then x else y)::k)) cs) w):qd P Post Sh Fz T n h dd (G (b.at a (.code (.cond c x y)::k)) cs) w:=
 qcy rfl (fun _=>stepG_cond hc) H
theorem qss{b:Frame}{a:Act}{id:Nat}{k k':List Item}{cs:List Frame}(he:exitTo id k=some k')(H:qd P Post Sh Fz T n h dd (G (b.at a k') cs) w):qd P Post Sh Fz T n h dd (G (b.at a (.code (.exit id)::k)) cs) w:=
 qcy rfl (fun _=>stepG_exit he) H
theorem q3g{Sh':Nat->Prop}{Fz':Loc->Prop}(h1:∀ r,Sh r->Sh' r)(h2:∀ r,Sh' r->Sh r∨w.heap.size<=r)(h3:∀ l,Fz l->Fz' l)(H:jH P Post Sh' Fz' T n h dd g w):jH P Post Sh Fz T n h dd g w:=by
 intro gs t q hall;refine H gs t q ⟨hall.size,hall.here,hall.ja,hall.fact,hall.apart,?_,hall.deaf,hall.above⟩;refine hall.jr.more h1 h2 h3 (fun k l hl=>?_);obtain⟨hk,hkn,s,hT,hL⟩:=hl;exact qio (hall.fact k s hk hkn hT).1 l hL
theorem qmp{Sh':Nat->Prop}{Fz':Loc->Prop}(h1:∀ r,Sh r->Sh' r)(h2:∀ r,Sh' r->Sh r∨w.heap.size<=r)(h3:∀ l,Fz l->Fz' l)(H:qd P Post Sh' Fz' T n h dd g w):qd P Post Sh Fz T n h dd g w:=
 fun d=>q3g h1 (fun r hr=>h2 r hr) h3 (H d)
end
end
end Go.Proofs.YtacemdoejblgaaaGreatDoor

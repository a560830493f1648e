/- Part 19. Conditions: each statement's. -/
import Derived.Test.YtacemdoejblgaaaGreatDoorM18
import Derived.Test.YtacemdoejblgaaaGreatDoorM04
namespace Go.Proofs.YtacemdoejblgaaaGreatDoor
set_option maxHeartbeats 6400000
set_option maxRecDepth 100000
section
open Go.RowKit
theorem Gr.row{w:World}{base k a:Nat}{B:Nat->Nat}{R:Nat->Value × List Nat}(h:Gr w base k B R)(ha:a < 2 * k+1):w.ownsRow base 177 1 (R a).1 (R a).2.length (ptrs B (R a).2):=h.rw_.rows a ha
theorem qpl{ops:Array Oper}{rest:List Oper}{o:Oper}{a:Act}{Q:Exit->Act->World->Prop}{w:World}{base k i c j:Nat}{B:Nat->Nat}{R:Nat->Value × List Nat}(G:Gr w base k B R)(hi:i < k)(hc:c=1∨c=2)(hj:j < k)
   (hl:(R (2 * i+c)).2.length < 1000) (s x:Operand) (hgd:o.guard=none) (ho:o.op=.call { callee:=.builtin .append,args:=#[s,x],argTypes:=#[124,124] })
   {v:Value} (hv:(R (2 * i+c)).1=v) (hs:a.eval s=v) {N:Nat} (hx:a.eval x=.slice (some ⟨N,0,none⟩) 1 1) (hN:N=w.heap.size)
   (h:∀ A n cc w',w'.cell? ⟨B i,c,none⟩=some v->w'.frozen? ⟨B i,c,none⟩=false->Gr (w'.setCell ⟨B i,c,none⟩ (.slice A n cc)) base k B (upd R (2 * i+c) (.slice A n cc,(R (2 * i+c)).2++[j])) ->
     Below base w (w'.setCell ⟨B i,c,none⟩ (.slice A n cc))->wpList Tryz.prog ops Q rest (a.put o.dst (.slice A n cc)) w') :
   wpList Tryz.prog ops Q (o::rest) a (w.alloc (.cells #[.pointer (some ⟨B j,0,none⟩)] 177)):=by
 subst hv;subst hN;have hrow:=G.row (a:=2 * i+c) (by omega);refine qfx s x 124 _ 1 8 Tryz.underlying124 qx2 rfl (by decide) (by decide) hgd ho hrow (by omega) G.jz rfl (by simp [Value.oneCell']) hs hx ?_;intro v' w' h1 h2 h3
 obtain⟨A,cc,hv'⟩:∃ A cc,v'=.slice A ((R (2 * i+c)).2.length+1) cc:=by
   rcases h1.2 with ⟨hv,h0⟩ | ⟨g,cap,cur,hv,_⟩
   . omega
   . exact⟨_,_,hv⟩
 subst hv';obtain⟨hb,hG⟩:=G.qaW hi hc hj hl h2 h1 (Nat.le_succ _) h3;refine h A _ cc w' ?_ (hb.frozen c) hG ?_
 . rcases hc with rfl | rfl
   . exact hb.cell 1
   . exact hb.cell 2
 . refine((q0s h2 ?_ G.jz).setCell (p:=⟨B i,c,none⟩) (G.low i hi) _);intro g e;exact(hrow.lt g e).1
def q5s(w:World)(base k n f:Nat)(B:Nat->Nat)(R:Nat->Value × List Nat)(e:Ending)(w':World):Prop:=
 e=.returned (.tuple #[])/\∃ R',Gr w' base k B R'/\Below base w w'/\(∀ a,(R' a).2=qex n f (fun a=>(R a).2) a)/\R' 0=R 0
theorem q5t{w:World}{base k n f:Nat}{B:Nat->Nat}{R:Nat->Value × List Nat}(h:Gr w base k B R)(hn:n < k)(hf:f < k)(hl1:(R (2 * n+1)).2.length < 1000)(hl2:(R (2 * f+2)).2.length < 1000) :
   Calls Tryz.prog 143 #[.pointer (some ⟨B n,0,none⟩),.pointer (some ⟨B f,0,none⟩)] w (q5s w base k n f B R):=by
 by_cases hm:f∈(R (2 * n+1)).2
 . have Hm:=Lib.hid hm;clear hm;go_enter Tryz.func143,Tryz.ntmps143;go_wp2_with fail;refine(qh3 h hn hf (b:=true) (by simpa using Hm.out)).mono ?_;rintro e w' ⟨rfl,rfl⟩;go_wp2_with fail;refine bodyPost_ret (results_none rfl _ _ _) rfl ⟨rfl,R,h,Below.refl _ _,fun a=>?_,rfl⟩;unfold qex;rw [if_pos Hm.out]
 . have Hm:=Lib.hid hm;clear hm;go_enter Tryz.func143,Tryz.ntmps143;go_wp2_with fail;refine(qh3 h hn hf (b:=false) (by simpa using Hm.out)).mono ?_;rintro e w' ⟨rfl,rfl⟩;have c1:w.cell? ⟨B n,1,none⟩=some (R (2 * n+1)).1:=(h.blk n hn).cell 1;obtain⟨v1,hv1⟩:∃ v1,(R (2 * n+1)).1=v1:=⟨_,rfl⟩;rw [hv1] at c1;have Hv1:=Lib.hid hv1;clear hv1;go_wp2_with (at_builtin;go_must (refine qpl h hn (.inl rfl) hf hl1 (.tmp 11) (.tmp 13) rfl rfl Hv1.out rfl rfl rfl ?_));intro A1 n1 cc1 w1 d1 d2 G1 qaX
   have d3:(w1.setCell ⟨B n,1,none⟩ (.slice A1 n1 cc1)).cell? ⟨B f,2,none⟩=some (R (2 * f+2)).1:=by
     rw [(G1.blk f hf).cell 2];show some (upd R (2 * n+1) (.slice A1 n1 cc1,(R (2 * n+1)).2++[f]) (2 * f+2)).1=_;rw [qar _ _ (show 2 * f+2≠2 * n+1 by omega)]
   obtain⟨v2,hv2⟩:∃ v2,(R (2 * f+2)).1=v2:=⟨_,rfl⟩;rw [hv2] at d3
   have Hv2:Hid ((upd R (2 * n+1) (.slice A1 n1 cc1,(R (2 * n+1)).2++[f]) (2 * f+2)).1=v2):=by
     show (upd R (2 * n+1) (.slice A1 n1 cc1,(R (2 * n+1)).2++[f]) (2 * f+2)).1=v2;rw [qar _ _ (show 2 * f+2≠2 * n+1 by omega)];exact hv2
   clear hv2;go_wp2_with (at_builtin;go_must (refine qpl (i:=f) (c:=2) (j:=n) G1 hf (.inr rfl) hn ?_ (.tmp 21) (.tmp 23) rfl rfl Hv2.out rfl rfl (World.size_setCell _ _ _).symm ?_))
   . rw [qar _ _ (show 2 * f+2≠2 * n+1 by omega)];exact hl2
   . intro A2 n2 cc2 w2 d4 d5 G2 qaY;go_wp2_with fail;refine bodyPost_ret (results_none rfl _ _ _) rfl ⟨rfl,_,G2,qaX.trans qaY,fun a=>?_,by rw [qar _ _ (by omega),qar _ _ (by omega)]⟩;unfold qex;rw [if_neg Hm.out];unfold upd;by_cases h1:a=2 * f+2
     . rw [if_pos h1,if_pos h1,if_neg (show 2 * f+2≠2 * n+1 by omega)]
     . rw [if_neg h1,if_neg h1];by_cases h2:a=2 * n+1
       . rw [if_pos h2,if_pos h2]
       . rw [if_neg h2,if_neg h2]
theorem Gr.node{w:World}{base k:Nat}{B:Nat->Nat}{R:Nat->Value × List Nat}(h:Gr w base k B R) :
   Gr (w.alloc (.cells #[.int .i64 (k:Nat),.slice none 0 0,.slice none 0 0] 179)) base (k+1) (upd B k w.heap.size) R:=by
 have hB:∀ a,a < 2 * k+1->ptrs (upd B k w.heap.size) (R a).2=ptrs B (R a).2:=by
   intro a ha;unfold ptrs;apply List.map_congr_left;intro j hj;rw [qar _ _ (by have:=h.mem a ha j hj;omega)]
 have r1:=h.rest (2 * k+1) (by omega);have r2:=h.rest (2 * k+2) (by omega);refine⟨?_,?_,?_,⟨?_,?_⟩,?_,h.len,fun a ha=>h.rest a (by omega),by simp;have:=h.jz;omega⟩
 . intro i hi;by_cases hik:i=k
   . subst hik;rw [upd_same,r1,r2];exact Blk.new w _ _
   . rw [qar _ _ hik];exact(h.blk i (by omega)).alloc _
 . intro i j hi hj;by_cases hik:i=k
   . subst hik;by_cases hjk:j=i
     . exact fun _=>hjk.symm
     . rw [upd_same,qar _ _ hjk];intro e;have:=(h.blk j (by omega)).lt;omega
   . by_cases hjk:j=k
     . subst hjk;rw [upd_same,qar _ _ hik];intro e;have:=(h.blk i (by omega)).lt;omega
     . rw [qar _ _ hik,qar _ _ hjk];exact h.inj i j (by omega) (by omega)
 . intro i hi;by_cases hik:i=k
   . subst hik;rw [upd_same];exact h.jz
   . rw [qar _ _ hik];exact h.low i (by omega)
 . intro a ha;by_cases hak:a < 2 * k+1
   . rw [hB a hak];exact(h.rw_.rows a hak).alloc _
   . rw [h.rest a (by omega)];exact World.ownsRow_nil _ _ _ _
 . intro a b ha hb hab;by_cases hak:a < 2 * k+1
   . by_cases hbk:b < 2 * k+1
     . exact h.rw_.apart a b hak hbk hab
     . rw [h.rest b (by omega)];cases hx:(R a).1.ownBlock
       . exact .inl rfl
       . exact .inr (by simp [Value.ownBlock])
   . rw [h.rest a (by omega)];exact .inl rfl
 . intro a ha j hj;by_cases hak:a < 2 * k+1
   . have:=h.mem a hak j hj;omega
   . rw [h.rest a (by omega)] at hj;simp at hj
theorem Gr.qaZ{w w':World}{base k N j:Nat}{B:Nat->Nat}{R:Nat->Value × List Nat}{v':Value}(h:Gr w base k B R)(hj:j < k)(hl:(R 0).2.length < 1000)(hg:w.grownBy w' (R 0).1.ownBlock)
   (ho:w'.ownsRow base 177 1 v' ((R 0).2.length+1) (ptrs B (R 0).2++[.pointer (some ⟨B j,0,none⟩)])) (hN:w.heap.size<=N) (hob:v'.ownBlock=(R 0).1.ownBlock∨v'.ownBlock=some N) :
   Gr w' base k B (upd R 0 (v',(R 0).2++[j])):=by
 have hbn:∀ i',i' < k->some (B i')≠(R 0).1.ownBlock:=fun i' hi' e=>qg.own (h.rw_.rows 0 (by omega)) (show 179≠177 by decide) _ e.symm _ (h.blk i' hi');refine⟨?_,h.inj,h.low,h.rw_.push (by omega) hg ho hN hob,?_,?_,?_,Nat.le_trans h.jz hg.size⟩
 . intro i' hi';rw [qar _ _ (by omega),qar _ _ (by omega)];exact(h.blk i' hi').grown hg (hbn i' hi')
 . intro a haa x hx;by_cases hae:a=0
   . subst hae;rw [upd_same] at hx;rcases List.mem_append.1 hx with hx | hx
     . exact h.mem _ haa x hx
     . simp at hx;omega
   . rw [qar _ _ hae] at hx;exact h.mem a haa x hx
 . intro a;by_cases hae:a=0
   . subst hae;rw [upd_same,List.length_append];simp;omega
   . rw [qar _ _ hae];exact h.len a
 . intro a haa;rw [qar _ _ (by omega)];exact h.rest a haa
def qpm(w:World)(qa:List Node)(e:Ending)(w':World):Prop:=
 ∃ gv,e=.returned (.tuple #[gv,.bool (qae qa)])/\w.grownBy w' none/\(qae qa=true->∃ B R,Gr w' w.heap.size qa.length B R/\(R 0).1=gv/\∀ a,(R a).2=qsm qa a)
theorem Gr.at0{w:World}{base k n c f:Nat}{A:Option Addr}{B:Nat->Nat}{R:Nat->Value × List Nat}(h:Gr w base k B R)(hv:(R 0).1=.slice A n c)(hr:(R 0).2=List.range n)(hf:f < n) :
   ∃ g,A=some ⟨g,0,none⟩/\w.cell? ⟨g,f,none⟩=some (.pointer (some ⟨B f,0,none⟩)):=by
 obtain⟨A',c',h1,h2⟩:=h.form (a:=0) (by omega);rw [hv] at h1;injection h1 with h1 _ _;subst h1;rw [hr,List.length_range] at h2;obtain⟨g,hg,hc⟩:=h2 (by omega);exact⟨g,hg,hc f f (by simp [hf])⟩
theorem qvf(v:Value)(qa:List Node)(w:World)(h:RN w v qa)(hl:10 < qa.length):Calls Tryz.prog 92 #[v] w (qpm w qa):=by
 have Hv:Hid (qae qa=false):=by
   show qae qa=false;unfold qae;simp;omega
 obtain⟨A,n,c,rfl,_,hn,hle⟩:=h.form';have hl':(10:Int) < n:=by omega
 clear hl;have Hn:=Lib.hid hn;clear hn;go_enter Tryz.func92,Tryz.ntmps92;go_wp2_with fail
 go_ret2
 exact⟨_,by rw [Hv.out];rfl,qag _ _,fun h=>by rw [Hv.out] at h;cases h⟩
theorem qx3(v:Value)(qa:List Node)(w:World)(h:RN w v qa)(hl:qa.length<=10):Calls Tryz.prog 92 #[v] w (qpm w qa):=by
 obtain⟨A,n,c,rfl,_,hn,hle⟩:=h.form';have hl':n<=10:=by omega
 clear hl;have Hn:=Lib.hid hn;clear hn;obtain⟨i0,hi,hz0,hz1,hz2⟩:=info_parts qx2;go_enter Tryz.func92,Tryz.ntmps92;go_wp2_with (at_make;go_must (refine wpList_make_own _ rfl _ _ 124 rfl w.heap.size 177 i0 _ 1 Tryz.underlying124 hi hz0 hz1 _ _ _ n rfl rfl rfl (by rw [hz2];omega) (by unfold maxLen;omega) (Nat.le_refl _) ?_));intro w0 hown0 hg0;go_wp2_with fail
 go_loopw [4,5,19] (fun gv wd i wr=>∃ (k:Nat) (B:Nat->Nat) (R:Nat->Value × List Nat),k<=n/\i=.int .i64 k/\wd=.int .i64 (qfo qa k)/\(R 0).1=gv/\Gr wr w.heap.size k B R/\(∀ a,(R a).2=qcz qa k a) /\
     (qa.zipIdx.take k).all (fun x=>qcx x.1 x.2 (wide qa))=true/\(∀ a,(R a).2.length<=3 * k)/\(R 0).2=List.range k/\w.grownBy wr none) (fun _ _ i _=>n - (intOf i).toNat)
 case atStart=>
   refine⟨0,fun _=>0,upd (fun _=>(.slice none 0 0,[])) 0 (.slice (some ⟨w.heap.size,0,none⟩) 0 n,[]),Nat.zero_le _,rfl,rfl,by rw [upd_same],?_,?_,rfl,?_,by rw [upd_same];rfl,hg0⟩
   . refine⟨fun i hi=>by omega,fun i j hi=>by omega,fun i hi=>by omega,⟨?_,fun a b ha hb hab=>by omega⟩,?_,?_,?_,hg0.size⟩
     . intro a ha;obtain rfl:a=0:=by omega
       rw [upd_same];exact hown0
     . intro a ha j hj;obtain rfl:a=0:=by omega
       rw [upd_same] at hj;simp at hj
     . intro a;unfold upd;split <;> simp
     . intro a ha;rw [qar _ _ (by omega)]
   . intro a;unfold upd;split <;> rfl
   . intro a;unfold upd;split <;> simp
 case round=>
   obtain⟨k,B,R,hk,rfl,rfl,hR0,G,hL,hall,hlen,hrg,hg⟩:=hrel;have HR0:=Lib.hid hR0;have HL:=Lib.hid hL;have q9:=Lib.hid hall;have xB:=Lib.hid hlen;have Hrg:=Lib.hid hrg;clear hR0 hL hall hlen hrg hown0 hg0;by_cases hlt:k < n
   . have hwr:=h.new hg;obtain⟨g,o,nd,f,r,rfl,hx,e0,e1,e2,hf,hr⟩:=h.at_ hlt;have c0:=hg.cell e0 (by simp);have c1:=hg.cell e1 (by simp);have c2:=hg.cell e2 (by simp);have Hx:=Lib.hid hx;clear hx hwr e0 e1 e2;obtain⟨Af,nf,cf,rfl,_,hnf⟩:=hf.form';obtain⟨Ar,nr,cr,rfl,_,hnr⟩:=hr.form';have Hnf:=Lib.hid hnf;have Hnr:=Lib.hid hnr;clear hnf hnr;obtain⟨Ag,cg,hAg,_⟩:=G.form (a:=0) (by omega);obtain rfl:u4=.slice Ag k cg:=by rw [<-HR0.out,hAg,Hrg.out,List.length_range]
     clear hAg;have hnv:NV (wr.alloc (.cells #[.int .i64 nd.kind,.slice Af nf cf,.slice Ar nr cr] 81)) (.agg #[.int .i64 nd.kind,.slice Af nf cf,.slice Ar nr cr]) nd:=⟨_,_,rfl,(hf.new hg).alloc _,(hr.new hg).alloc _⟩;by_cases hfit:qbf nd k=true
     . have qD:=Lib.hid hfit;clear hfit;have qiM:nf<=2:=by have:=qna qD.out;rw [<-Hnf.out] at this;exact this
       go_wp2_with fail;refine(qsp _ nd k _ hnv qD.out).mono ?_;rintro e w2 ⟨rfl,hg2⟩;have hB2:=(Blk.new wr 81 #[.int .i64 nd.kind,.slice Af nf cf,.slice Ar nr cr]).grown hg2 (by simp);have d0:w2.cell? ⟨wr.heap.size,0,none⟩=some (.int .i64 nd.kind):=hB2.cell 0;have d1:w2.cell? ⟨wr.heap.size,1,none⟩=some (.slice Af nf cf):=hB2.cell 1;have d2:w2.cell? ⟨wr.heap.size,2,none⟩=some (.slice Ar nr cr):=hB2.cell 2;have kP:wr.grownBy w2 none:=qac (World.grownBy_alloc _ _ _) hg2;clear c0 c1 c2 hnv hg2
       go_upto_if 30 with fail
       go_cut [5] (fun wd wx=>wx=w2/\wd=.int .i64 (qfo qa (k+1))/\Hid (qcx nd k (wide qa)=true))
       case first=>
         by_cases hk0:nd.kind=0
         . have hb0:(nd.kind == 0)=true:=by simpa using hk0
           have Hk0:=Lib.hid hk0;clear hk0
           have Hok:∀ {b:Bool},decide (nr=wide qa)=b->Hid (qcx nd k (wide qa)=b):=by
             intro b hb;show qcx nd k (wide qa)=b;rw [qku,qD.out,if_pos Hk0.out,<-Hnr.out,hb,Bool.true_and]
           have Hw1:Hid (qfo qa (k+1)=(wide qa:Int)):=qtl Hx.out Hk0.out;by_cases hany:(qa.take k).any (fun x=>x.kind == 0)=true
           . rw [show qfo qa k=(wide qa:Int) from if_pos hany];clear hany;by_cases hwd:nr=wide qa
             . have yf:=Hok (decide_eq_true hwd);have Hwd:=Lib.hid hwd;have hb1:((nr:Int) != (wide qa:Int))=false:=by rw [bne_eq_false_iff_eq];omega
               clear hwd Hok;go_wp2_with fail;go_meet;exact⟨rfl,by rw [Hw1.out,Hwd.out],yf⟩
             . have yf:=Hok (decide_eq_false hwd);have Hv:Hid (qae qa=false):=qkv Hx.out yf.out;have hb1:((nr:Int) != (wide qa:Int))=true:=by rw [bne_iff_ne];omega
               clear hwd Hok yf;go_wp2_with fail
               go_ret2
               exact⟨_,by rw [Hv.out];rfl,qac hg kP,fun h=>by rw [Hv.out] at h;cases h⟩
           . have yK:(qa.take k).any (fun x=>x.kind == 0)=false:=by simpa using hany
             have hwf:=q0z Hx.out Hk0.out yK;rw [<-Hnr.out] at hwf;have yf:=Hok (decide_eq_true hwf.symm);have Hwd:=Lib.hid hwf;rw [show qfo qa k=-1 from if_neg hany];clear hany yK hwf Hok;go_wp2_with fail;go_meet;exact⟨rfl,by rw [Hw1.out,Hwd.out],yf⟩
         . have Hok:Hid (qcx nd k (wide qa)=true):=by
             show qcx nd k (wide qa)=true;rw [qku,qD.out,if_neg hk0];rfl
           have Hw:Hid (qfo qa (k+1)=qfo qa k):=qtm Hx.out hk0;have hb0:(nd.kind == 0)=false:=by simpa using hk0
           clear hk0;go_wp2_with fail;go_meet;exact⟨rfl,by rw [Hw.out],Hok⟩
       case rest=>
         obtain⟨wo,rfl⟩:∃ wo:World,wo=wr:=⟨_,rfl⟩;obtain⟨hwc,rfl,Hok⟩:=hcut;have hwc':=hwc.symm;clear hwc;subst hwc';clear d0 d2;have G3:=(G.new kP).node;have hB3:=hB2.alloc (.cells #[.int .i64 (k:Nat),.slice none 0 0,.slice none 0 0] 179);have hg3:w.grownBy (w2.alloc (.cells #[.int .i64 (k:Nat),.slice none 0 0,.slice none 0 0] 179)) none:=qap (qac hg kP) _;go_upto_region 15 with fail;obtain⟨B',hB'⟩:∃ B',B'=upd B k w2.heap.size:=⟨_,rfl⟩;rw [<-hB'] at G3;rw [show w2.heap.size=B' k by rw [hB',upd_same]];clear hB' hB2 d1 kP;generalize w2.alloc (.cells #[.int .i64 (k:Nat),.slice none 0 0,.slice none 0 0] 179)=w3 at *;have d1:w3.cell? ⟨wo.heap.size,1,none⟩=some (.slice Af nf cf):=hB3.cell 1;go_wp2_with fail
         go_loopw [49] (fun i wy=>∃ (m:Nat) (R':Nat->Value × List Nat),m<=nf/\i=.int .i64 m/\Gr wy w.heap.size (k+1) B' R'/\(∀ a,(R' a).2=qcv k (nd.frm.take m) (qcz qa k) a)/\(∀ a,(R' a).2.length<=3 * k+m)/\R' 0=R 0/\Below w.heap.size w3 wy) (fun i _=>nf - (intOf i).toNat)
         case atStart=>exact⟨0,R,Nat.zero_le _,rfl,G3,fun a=>HL.out a,fun a=>by have:=xB.out a;omega,rfl,Below.refl _ _⟩
         case round=>
           obtain⟨m,R',hm,rfl,G',hL',hlen',hR',qcY⟩:=hrel;have HL':=Lib.hid hL';have vC:=Lib.hid hlen';have HR':=Lib.hid hR';clear hL' hlen' hR';have hgy:w.grownBy wr none:=qxl ((q5m hg3).trans qcY) none;have hR1:Hid ((R' 0).1=.slice Ag k cg):=by show (R' 0).1=_;rw [HR'.out,HR0.out]
           have hR2:Hid ((R' 0).2=List.range k):=by show (R' 0).2=_;rw [HR'.out,Hrg.out]
           by_cases hmf:m < nf
           . obtain⟨g1,o1,x,rfl,hx,hcell⟩:=(hf.new hgy).at_ hmf;have Hxm:=Lib.hid hx;clear hx;have hxb:=qcj qD.out (List.mem_of_getElem? Hxm.out);obtain⟨x',rfl⟩:=Int.eq_ofNat_of_zero_le hxb.1;have hxk:x' < k:=by omega
             obtain⟨gg,rfl,hgc⟩:=G'.at0 hR1.out hR2.out hxk;clear hxb;go_wp2_with fail;refine(q5t G' (n:=k) (f:=x') (by omega) (by omega) (by have:=vC.out (2 * k+1);omega) (by have:=vC.out (2 * x'+2);omega)).mono ?_;rintro e w5 ⟨rfl,R5,G5,hb5,hl5,hr5⟩;have Hl5:=Lib.hid hl5;have Hr5:=Lib.hid hr5;clear hl5 hr5;go_wp2_with fail;go_roundw
             case rel=>
               refine⟨m+1,R5,by omega,by go_num,G5,fun a=>?_,fun a=>?_,by rw [Hr5.out,HR'.out],qcY.trans hb5⟩
               . rw [qu6 _ Hxm.out,Hl5.out a,show (fun a=>(R' a).2)=qcv k (nd.frm.take m) (qcz qa k) from funext HL'.out];rfl
               . rw [Hl5.out a];have:=q26 k x' (fun a=>(R' a).2) a;have:=vC.out a;omega
             case measure=>simp [intOf];omega
           . have hmn:m=nf:=by omega
             subst hmn;have hrow:=G'.row (a:=0) (by omega);have yL:=hrow;rw [hR1.out,hR2.out] at yL;go_wp2_with (at_builtin;go_must (refine qfx (.tmp 60) (.tmp 62) 124 _ 1 8 Tryz.underlying124 qx2 rfl (by decide) (by decide) rfl rfl yL (by simp;omega) G'.jz rfl (by simp [Value.oneCell']) (by simp [Act.eval]) rfl ?_));intro v' w5 qA hg5 qcZ
             have G5:Gr w5 w.heap.size (k+1) B' (upd R' 0 (v',(R' 0).2++[k])):=by
               refine G'.qaZ (j:=k) (by omega) (by have:=vC.out 0;omega) (by rw [hR1.out];exact hg5) (by rw [hR2.out];simpa using qA) (Nat.le_succ _) (by rw [hR1.out];exact qcZ)
             have hgf:w.grownBy w5 none:=qa1 hgy hg5 (fun g e=>.inl (by
               have:=hrow.lt g (by rw [hR1.out];exact e);exact this.1))
             have hfin:∀ a,(upd R' 0 (v',(R' 0).2++[k]) a).2=qcz qa (k+1) a:=by
               intro a;rw [qeu Hx.out];unfold qfg
               have hl0:qcv k nd.frm (qcz qa k)=fun a=>(R' a).2:=by
                 funext b;rw [HL'.out b,List.take_of_length_le (by rw [<-Hnf.out];omega)]
               show _=upd (qcv k nd.frm (qcz qa k)) 0 (qcv k nd.frm (qcz qa k) 0++[k]) a;rw [hl0];unfold upd;split <;> rfl
             have hlf:∀ a,(upd R' 0 (v',(R' 0).2++[k]) a).2.length<=3 * (k+1):=by
               intro a;by_cases ha:a=0
               . subst ha;rw [upd_same,hR2.out];simp;omega
               . rw [qar _ _ ha];have:=vC.out a;omega
             have yH:=Lib.hid hfin;have Hlf:=Lib.hid hlf;clear hfin hlf qA hg5 qcZ;go_wp2_with fail;go_roundw
             case rel=>exact⟨k+1,B',_,by omega,by go_num,rfl,by rw [upd_same],G5,yH.out,by rw [qfw _ (qmc Hx.out),q9.out];exact Hok.out,Hlf.out,by rw [upd_same,hR2.out,List.range_succ],hgf⟩
             case measure=>simp [intOf];omega
     . have xC:qbf nd k=false:=by simpa using hfit
       have Hv:Hid (qae qa=false):=qkv Hx.out (by rw [qku,xC];rfl);have qD:=Lib.hid xC;clear hfit xC;go_wp2_with fail;refine(qsp _ nd k _ hnv qD.out).mono ?_;rintro e w2 ⟨rfl,hg2⟩;have hgf:w.grownBy w2 none:=qac (qap hg _) hg2;go_wp2_with fail
       go_ret2
       exact⟨_,by rw [Hv.out];rfl,hgf,fun h=>by rw [Hv.out] at h;cases h⟩
   . have hkn:k=n:=by omega
     subst hkn
     have Hv:Hid (qae qa=true):=by
       show qae qa=true;have h1:=q9.out;rw [List.take_of_length_le (by rw [List.length_zipIdx,<-Hn.out];omega)] at h1;unfold qae;rw [h1,<-Hn.out,Bool.true_and];exact decide_eq_true (by omega)
     go_wp2_with fail
     go_ret2
     refine⟨_,by rw [Hv.out];rfl,hg,fun _=>⟨B,R,?_,HR0.out,?_⟩⟩
     . rw [<-Hn.out];exact G
     . intro a;rw [HL.out a];unfold qsm;rw [<-Hn.out]
theorem qpn(v:Value)(qa:List Node)(w:World)(h:RN w v qa):Calls Tryz.prog 92 #[v] w (qpm w qa):=by
 by_cases hl:qa.length<=10
 . exact qx3 v qa w h hl
 . exact qvf v qa w h (by omega)
theorem qmg(v:Value)(qa:List Node)(w:World)(h:RN w v qa) :
   Calls Tryz.prog 55 #[v] w fun e w'=>e=.returned (.bool (qae qa))/\w.grownBy w' none:=by
 obtain⟨A,n,c,rfl⟩:=h.val;go_enter Tryz.func55,Tryz.ntmps55;go_wp2_with fail;refine(qpn _ qa _ h).mono ?_;rintro e w' ⟨gv,rfl,hg,_⟩;go_wp2_with fail;go_ret;exact⟨rfl,hg⟩
theorem qb6(v:Value)(qa:List Node)(w:World)(h:RN w v qa){b:Bool}(hb:qae qa=b) :
   Calls Tryz.prog 55 #[v] w fun e w'=>e=.returned (.bool b)/\w.grownBy w' none:=hb ▸ qmg v qa w h
structure Zn(lo hi:Nat)(w w':World):Prop where
 os:w'.os=w.os
 tape:w'.tape=w.tape
 output:w'.output=w.output
 size:w.heap.size<=w'.heap.size
 block:∀ i,i < w.heap.size->(i < lo∨hi<=i)->w'.heap[i]?=w.heap[i]?
theorem Zn.refl(lo hi:Nat)(w:World):Zn lo hi w w:=⟨rfl,rfl,rfl,Nat.le_refl _,fun _ _ _=>rfl⟩
theorem Zn.trans{lo hi:Nat}{a b c:World}(h:Zn lo hi a b)(k:Zn lo hi b c):Zn lo hi a c:=
 ⟨k.os.trans h.os,k.tape.trans h.tape,k.output.trans h.output,Nat.le_trans h.size k.size,fun i hi hr=>(k.block i (Nat.lt_of_lt_of_le hi h.size) hr).trans (h.block i hi hr)⟩
theorem Zn.yM{lo hi:Nat}{a b:World}{row:Option Nat}(h:a.grownBy b row)(hr:∀ g,row=some g->lo<=g/\g < hi):Zn lo hi a b:=
 ⟨h.os,h.tape,h.output,h.size,fun i hi h'=>h.block i hi (fun e=>by have:=hr i e.symm;omega)⟩
theorem Zn.gb{lo hi:Nat}{a b c:World}(h:a.grownBy b none)(k:Zn lo hi b c)(hl:a.heap.size<=lo):a.grownBy c none:=
 ⟨k.os.trans h.os,k.tape.trans h.tape,k.output.trans h.output,Nat.le_trans h.size k.size,fun i hi _=>(k.block i (Nat.lt_of_lt_of_le hi h.size) (.inl (by omega))).trans (h.block i hi (by simp))⟩
theorem Blk.qfD{lo hi:Nat}{w w':World}{g:Nat}{t:TypeId}{cs:Array Value}(h:Blk w g t cs)(k:Zn lo hi w w')(hg:g < lo∨hi<=g):Blk w' g t cs:=(k.block g h.lt hg).trans h
theorem q5u{lo hi base size n:Nat}{w w':World}{E:TypeId}{v:Value}{xs:List Value}(h:w.ownsRow base E size v n xs)(k:Zn lo hi w w')(hb:hi<=base):w'.ownsRow base E size v n xs:=by
 refine⟨h.1,?_⟩;rcases h.2 with h0 | ⟨g,cap,cur,h1,h2,h3,h4⟩
 . exact .inl h0
 . exact .inr ⟨g,cap,cur,h1,h2,Blk.qfD (t:=E) (cs:=cur) h3 k (.inr (by omega)),h4⟩
end
section
open Go.RowKit
end
end Go.Proofs.YtacemdoejblgaaaGreatDoor

/- Part M15. Conditions: each statement's. -/
import Derived.Test.YtacemdoejblgaaaGreatDoorT14
namespace Go.Proofs.YtacemdoejblgaaaGreatDoor
open World renaming grownBy_alloc→Ab
open Option renaming isSome→Ah,map→Ai
open List _root_.Go.Proofs.Tryz World
set_option maxRecDepth 100000
set_option maxHeartbeats 6400000
section
open Go.RowKit
def qlB(w:World)(r:Option qh)(e:Ending)(w':World):Prop:=∃v1 v2,e=.returned (.tuple #[v1,v2,.bool r.isSome])/\RL w' v1 (r.getD qc4).rows/\RI w' v2 (r.getD qc4).done/\w.grownBy w' none
theorem qxx{ops:Array Oper}{rest:List Oper}{o:Oper}{a:Act}{Q:Exit->Act->World->Prop}{w:World}
   (s x:Operand) (hgd:o.guard=none) (ho:o.op=.call {callee:=.builtin .append,args:=#[s,x],argTypes:=#[27,27]})
   {v xv:Value} {ll:List (List Int)} (hs:a.eval s=v) (hx:a.eval x=xv) {base:Nat} (hown:qL w base v []) (hxv:RL w xv ll) (hn:ll.length<=1000000) (hbase:base<=w.heap.size)
   (h:∀v' w',qL w' base v' ll->w.grownBy w' v.ownBlock->wpList prog ops Q rest (a.put o.dst v') w') :
   wpList prog ops Q (o::rest) a w:=by
 obtain⟨i,hi,hz0,hz1,hz2⟩:=info_parts qlk;obtain⟨xs,hxs,hrows⟩:=hxv;have hlen:xs.length=ll.length:=by have:=hxs.1;omega
 obtain⟨ys,hown,-⟩:=hown;obtain rfl:ys=[]:=eq_nil_of_length_eq_zero (by have:=hown.1;simpa using this);obtain⟨A,c,e,hc,hcm,hcn⟩:=TS.form hxs;subst e
 match A,hcn with
 |none,hcn=>
  obtain rfl:=hcn rfl;have hl0:ll=[]:=eq_nil_of_length_eq_zero (by omega);subst hl0;refine wpList_append_own_none hgd s x 27 ho base 24 i 1 underlying27 hi v _ _ hs hown hx ?_;exact h _ _ ⟨[],hown,λi l hi=>by simp at hi⟩ (qag _ _)
 |some ad,hcn=>
  refine wpList_append_own _ hgd s x 27 ho base 24 i _ 1 24 underlying27 hi hz0 hz1 hz2 rfl (by decide) v _ _ hs hown ad ll.length c xs hx (by rw[hlen,Nat.mul_one]) ?_ ?_ ?_ ?_ hbase ?_
  . intro j u hj;have hjl:=(List.getElem?_eq_some_iff.1 hj).1;obtain⟨g,o',cur,e,_,hcell⟩:=TS.at_ hxs (by omega);have e2:ad=⟨g,o',none⟩:=Option.some.inj e;rw[e2,Addr.add_lit];exact hcell j u hj
  . intro u hu;obtain⟨j,hj,rfl⟩:=getElem_of_mem hu;obtain⟨y,k1,k2⟩:=hrows j _ (getElem?_eq_getElem (by omega));rw[getElem?_eq_getElem hj]at k1;injection k1 with k1;obtain⟨B,m,e,h1,-⟩:=k2.form';rw[k1,h1];rfl
  . simp only[length_nil,Nat.zero_add];unfold maxLen;omega
  . simp only[length_nil,Nat.zero_add];omega
  . intro v' w' h1 h2 _;have hne:qg w 3 v.ownBlock:=qg.own hown (by decide);refine h v' w' ⟨xs,by simpa using h1,λi l hi=>?_⟩ h2;obtain⟨u,k1,k2⟩:=hrows i l hi;exact⟨u,k1,k2.grown h2 hne⟩
def qaS(w wr:World)(pv:Value)(qa:List Node)(X:Nat)(cx:qh):Prop:=∃d k o r,jw wr X d k o r cx/\RN wr pv qa/\w.grownBy wr none
theorem qk0(pv cv:Value)(qa:List Node)(n:Int)(l:List Int)(w:World)(hp:RN w pv qa)(hl:RI w cv l)(hpl:qa.length<=1000000000)(hll:l.length<=1000000000) :
   Calls prog 20 #[pv,.int .i64 n,cv] w (qlB w (qap qa n l)):=by
 obtain⟨A,np,cp,rfl,-,hnp,-⟩:=hp.form';obtain⟨Ac,m,cc,rfl,-,-⟩:=hl.form';have HT:=Lib.hid (qkz _ _ qa n l w hp hl hpl hll);obtain⟨Q,hQ⟩:∃Q,Q=qb8 qa n l:=⟨_,rfl⟩;rw[<-hQ]at HT;have HA:Hid (qap qa n l=Q.map (finish qa qa.length)):=by show _=_;rw[hQ];rfl
 have HQ:=Lib.hid hQ;have Hnp:=Lib.hid hnp;have Hpl:=Lib.hid hpl;have qmM:np<=1000000000:=by omega
 clear hQ hnp hll hl;rw[HA.out];clear HA hpl;go_enter func20,ntmps20;go_wp2_with fail;refine HT.out.mono ?_;intro e w1 hT;obtain⟨v1,rfl,hcv,hg1⟩:=hT.open_;obtain⟨A1,n1,c1,A2,n2,c2,A3,n3,c3,A4,n4,c4,rfl,-⟩:=hcv.form;have hX:=hcv.box;have gX:=Ab w1 (.cells #[.slice A1 n1 c1,.slice A2 n2 c2,.slice A3 n3 c3,.slice A4 n4 c4] 29) none;have g2:=qac hg1 gX;have hp2:=hp.new g2;have hwX:w.heap.size<=w1.heap.size:=hg1.size;clear hT hcv hg1 gX hp HT;go_upto_region 2 with fail;generalize w1.alloc (.cells #[.slice A1 n1 c1,.slice A2 n2 c2,.slice A3 n3 c3,.slice A4 n4 c4] 29)=w2 at hX g2 hp2 |-;generalize w1.heap.size=X at hX hwX |-;cases Q with
 |none=>
  have ga:=Ab w2 (.cells #[] 24) none;have gb:=Ab (w2.alloc (.cells #[] 24)) (.cells #[] 3) none;have k1:=((qL.empty w2 (Nat.le_refl _)).rl).new gb;have k2:=(qf.empty (w2.alloc (.cells #[] 24)) (base:=0) (Nat.zero_le _)).ri;have g4:=qac (qac g2 ga) gb;rw[size_alloc]at k2;clear ga gb hX g2 hp2;simp only[Ah,Ai];go_wp2_with fail
  go_ret3
  exact⟨_,_,rfl,k1,k2,g4⟩
 |some c=>
  obtain⟨hok,hdl⟩:=qky HQ.out.symm;have Hok:=Lib.hid hok;have hst:qaS w w2 (.slice A np cp) qa X (finish qa 0 c):=⟨_,_,_,_,hX,hp2,g2⟩;clear hok hdl hX hp2 g2;simp only[Ah,Ai];go_wp2_with fail
  go_loopg [11] (np+1) (λmm i wr=>∃k:Nat,k<=np/\mm=np+1-k/\i=.int .i64 k/\qaS w wr (.slice A np cp) qa X (finish qa k c))
  case atStart=>exact⟨0,Nat.zero_le _,rfl,rfl,hst⟩
  case round=>
   clear hst;obtain⟨k,hk,rfl,rfl,d,q,o,r,hB,hp,hg⟩:=hrel;obtain⟨vC,-⟩:=qmx (qa:=qa) k Hok.out;have Hs:Hid (finish qa (k+1) c=(qa0 qa (finish qa k c) 0).getD (finish qa k c)):=qic qa k c;have qaT:Hid (np=k->finish qa qa.length c=finish qa k c):=λe=>by rw[<-Hnp.out,e]
   generalize finish qa k c=cx at hB vC Hs qaT;have qD:=Lib.hid (qu3 (.inl vC));have hrl:cx.rows.length<=1000000:=by have:=vC.rl;have:=qam vC.pv;omega
   have Hrl:=Lib.hid hrl;clear vC hrl;obtain⟨V1,Vn1,Vc1,V2,Vn2,Vc2,V3,Vn3,Vc3,V4,Vn4,Vc4,e0,-,-,-,-⟩:=hB.cv.form;injection e0 with e0;injection e0 with e0;injection e0 with ea e0;injection e0 with eb e0;injection e0 with ec e0;injection e0 with ed e0;subst ea eb ec ed;clear e0;have v0:=hB.d0;have v1:=hB.d1;have v2:=hB.d2;have v3:=hB.d3;by_cases hlt:k<np
   . obtain⟨R,hR⟩:∃R,R=qa0 qa cx 0:=⟨_,rfl⟩;rw[<-hR]at Hs;have HR:=Lib.hid hR;have hki:(k:Int)<(np:Int):=by omega
     clear hR qaT;go_wp2_with fail;refine(qin _ _ qa cx 0 wr hp hB.cv Hpl.out qD.out).mono ?_;rw[<-HR.out];intro e w10 hT;obtain⟨v10,rfl,yA,vh⟩:=hT.open_;obtain⟨U1,Un1,Uc1,U2,Un2,Uc2,U3,Un3,Uc3,U4,Un4,Uc4,rfl,-⟩:=yA.form;have hU:=yA.box;have gU:=Ab w10 (.cells #[.slice U1 Un1 Uc1,.slice U2 Un2 Uc2,.slice U3 Un3 Uc3,.slice U4 Un4 Uc4] 29) none;have hB2:=(hB.new vh).new gU;have hp2:=(hp.new vh).new gU;have g2:=qac (qac hg vh) gU;clear v0 v1 v2 v3 hB hp hg hT yA vh gU;go_upto_region 8 with fail;generalize w10.alloc (.cells #[.slice U1 Un1 Uc1,.slice U2 Un2 Uc2,.slice U3 Un3 Uc3,.slice U4 Un4 Uc4] 29)=w11 at hU hB2 hp2 g2 |-;generalize w10.heap.size=U at hU |-;cases R with
     |none=>
      have hfin:Hid (qaS w w11 (.slice A np cp) qa X (finish qa (k+1) c)):=by
       rw[Hs.out];exact⟨_,_,_,_,hB2,hp2,g2⟩
      clear hU hB2 hp2 g2;simp only[Ah];go_wp2;go_roundg (np+1-(k+1))
      case measure=>omega
      case rel=>exact⟨k+1,by omega,rfl,by go_num,hfin.out⟩
     |some cy=>
      replace hU:jw w11 U _ _ _ _ cy:=hU;have u0:=hU.d0;have u1:=hU.d1;have u2:=hU.d2;have u3:=hU.d3;have v0:=hB2.d0;have v1:=hB2.d1;have v2:=hB2.d2;have v3:=hB2.d3;have f0:=hB2.b.frozen 0;have f1:=hB2.b.frozen 1;have f2:=hB2.b.frozen 2;have f3:=hB2.b.frozen 3;have hset:=qdn w11 X (.slice U1 Un1 Uc1) (.slice U2 Un2 Uc2) (.slice U3 Un3 Uc3) (.slice U4 Un4 Uc4);have e1:finish qa (k+1) c=cy:=Hs.out;have hfin:Hid (qaS w _ (.slice A np cp) qa X cy):=⟨_,_,_,_,hB2.put hU.cv,hp2.grown hset (qg.blk hB2.b (by decide)) (qg.blk hB2.b (by decide)),qa2 g2 hset (λg e=>by cases e;exact .inl hwX)⟩;rw[<-e1]at hfin;clear hset hU hB2 hp2 g2;simp only[Ah];go_wp2;go_roundg (np+1-(k+1))
      case measure=>omega
      case rel=>exact⟨k+1,by omega,rfl,by go_num,hfin.out⟩
   . obtain rfl:np=k:=by omega
     have He:=qaT.out rfl;clear qaT Hs;have ga:=Ab wr (.cells #[] 24) none;have ho:=qL.empty wr (base:=wr.heap.size) (Nat.le_refl _);have hB2:=hB.new ga;have g2:=qac hg ga;have hbz:wr.heap.size<=(wr.alloc (.cells #[] 24)).heap.size:=ga.size;have hwz:w.heap.size<=wr.heap.size:=hg.size;have He2:=Lib.hid He;clear v0 v1 v2 v3 hB hp hg He ga;go_upto_region 11 with fail;generalize hbb:wr.heap.size=bb at ho hbz hwz |-;generalize wr.alloc (.cells #[] 24)=w12 at ho hB2 g2 hbz |-;clear hbb;have v3:=hB2.d3;go_wp2_with (at_builtin;go_must (refine qxx (.tmp 41) (.tmp 43) rfl rfl rfl rfl ho hB2.ro Hrl.out hbz ?_));intro v5 w5 h5 hg5;have hint:qg w12 3 (Value.ownBlock (.slice (some ⟨bb,0,none⟩) 0 0)):=ho.jl (by decide);have hcr:qg w12 29 (Value.ownBlock (.slice (some ⟨bb,0,none⟩) 0 0)):=ho.jl (by decide);have hX5:=hB2.b.past hg5 hcr;have hd5:=hB2.dn.grown hg5 hint;have g5:=qa2 g2 hg5 (λg e=>.inl (by have:=(ho.lt g e).1;omega));have h5r:=h5.rl;obtain⟨A5,n5,c5,rfl⟩:=h5r.val;have y2:=hX5.cell 2;clear v3 hB2 ho g2 hg5 hint hcr h5;rw[<-He2.out]at h5r hd5;go_wp2_with fail
     go_quiet (fail)
     go_wp2_with fail
     go_ret3
     exact⟨_,_,rfl,h5r,hd5,qca g5 _⟩
end
end Go.Proofs.YtacemdoejblgaaaGreatDoor

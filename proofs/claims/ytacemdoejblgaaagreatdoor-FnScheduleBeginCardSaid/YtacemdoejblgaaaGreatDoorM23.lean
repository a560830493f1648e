/- Part M23. Conditions: each statement's. -/
import Derived.Test.YtacemdoejblgaaaGreatDoorM22
namespace Go.Proofs.YtacemdoejblgaaaGreatDoor
open List Option _root_.Go.Proofs.Tryz
set_option maxRecDepth 100000
set_option maxHeartbeats 6400000
section
open Go.RowKit
def qdy(qa:List Node)(n:Int)(c:qj)(l:List Int):qj:=l.foldl (λc x=>(qa0 qa c (x.tmod n)).getD c) c
def qas(qa:List Node)(n:Int)(l:List Int):Option qj:=match qbv qa n with
 |some c=>if qbt l=true then some (qdy qa n c l)else none
 |none=>none
theorem q1t{qa:List Node}{n:Int}{c:qj}{l:List Int}{k:Nat}{x:Int}(hx:l[k]?=some x):qdy qa n c (l.take (k+1))=(qa0 qa (qdy qa n c (l.take k)) (x.tmod n)).getD (qdy qa n c (l.take k)):=by
 obtain⟨hk,rfl⟩:=List.getElem?_eq_some_iff.1 hx;unfold qdy;rw[take_succ_eq_append_getElem hk,foldl_append];rfl
theorem qju{qa:List Node}{c:qj}(h:qp qa c)(y:Int):qp qa ((qa0 qa c y).getD c)/\((qa0 qa c y).getD c).qb.length=c.qb.length:=by
 cases hR:qa0 qa c y with
 |none=>exact⟨h,rfl⟩
 |some c'=>exact⟨(qej hR).2.1,(qej hR).2.2.1⟩
theorem qru{qa:List Node}{n:Int}:∀(l:List Int) {c:qj},qp qa c->qp qa (qdy qa n c l)/\(qdy qa n c l).qb.length=c.qb.length
 |[],_,h=>⟨h,rfl⟩
 |x::l,c,h=>by
  obtain⟨h1,h2⟩:=qju h (x.tmod n);obtain⟨h3,h4⟩:=qru l h1;exact⟨h3,h4.trans h2⟩
theorem qhi{qa:List Node}{n:Int}{l:List Int}(h:qbv qa n=none∨qbt l=false):qas qa n l=none:=by
 unfold qas;cases hc:qbv qa n with
 |none=>rfl
 |some c=>
  rcases h with h|h
  . rw[hc]at h;cases h
  . simp[h]
theorem qf6{qa:List Node}{n:Int}{l:List Int}{c:qj}(h:qbv qa n=some c)(hl:qbt l=true):qas qa n l=some (qdy qa n c l):=by
 unfold qas;rw[h,hl];rfl
theorem qh7{qa:List Node}{n:Int}{l:List Int}{c:qj}(h:qas qa n l=some c):qp qa c/\(c.qb.length:Int)=n:=by
 unfold qas at h;split at h
 . rename_i c0 hc;split at h
   . injection h with h;subst h;obtain⟨h1,h2⟩:=qid hc;obtain⟨h3,h4⟩:=qru (n:=n) l h1;exact⟨h3,by rw[h4];exact h2⟩
   . cases h
 . cases h
theorem qqF{w:World}{X:Nat}{cs:Array Value}(hb:Blk w X 29 cs):qh w 3 (some X)/\qh w 24 (some X)/\qh w 81 (some X):=⟨qh.blk hb (by decide),qh.blk hb (by decide),qh.blk hb (by decide)⟩
theorem qeo(pv cv:Value)(qa:List Node)(n:Int)(l:List Int)(w:World)(hp:RN w pv qa)(hl:RI w cv l)(hpl:qa.length<=1000000000)(hll:l.length<=1000000000) :
   Calls prog 14 #[pv,.int .i64 n,cv] w (jR w (qas qa n l)):=by
 obtain⟨A,np,cp,rfl,-,-,-⟩:=hp.form';obtain⟨Ac,m,cc,rfl,-,hm⟩:=hl.form';have Hm:=Lib.hid hm;have hmb:m<=1000000000:=by omega
 have hR0:=Blk.new w 29 #[.slice none 0 0,.slice none 0 0,.slice none 0 0,.slice none 0 0];have hgR:=World.grownBy_alloc w (.cells #[.slice none 0 0,.slice none 0 0,.slice none 0 0,.slice none 0 0] 29) none;clear hm;go_enter func14,ntmps14;go_upto_region 1 with fail;have hpW:=hp.new hgR;have hlW:=hl.new hgR;generalize w.alloc (.cells #[.slice none 0 0,.slice none 0 0,.slice none 0 0,.slice none 0 0] 29)=W at hR0 hgR hpW hlW |-;go_wp2_with fail;refine(qv6 _ qa n W hpW hpl).mono ?_;rintro e w1 hT;obtain⟨v1,rfl,hcv,hg1⟩:=hT.open_;obtain⟨A1,n1,c1,A2,n2,c2,A3,n3,c3,A4,n4,c4,rfl,-⟩:=hcv.form;have g1:=qad hgR hg1;have hR1:=hR0.grown hg1 (by simp);have hgX:=World.grownBy_alloc w1 (.cells #[.slice A1 n1 c1,.slice A2 n2 c2,.slice A3 n3 c3,.slice A4 n4 c4] 29) none;have hX:=hcv.box;have g2:=qad g1 hgX;have hR2:=hR1.grown hgX (by simp);have hp2:=hp.new g2;have hl2:=hl.new g2;have hRX:w.heap.size<w1.heap.size:=hR1.lt;clear hT hgR hR0 hg1 hR1 hpW hlW g1 hgX hcv hp hl;go_upto_region 2 with fail;generalize w1.alloc (.cells #[.slice A1 n1 c1,.slice A2 n2 c2,.slice A3 n3 c3,.slice A4 n4 c4] 29)=w2 at hX g2 hR2 hp2 hl2 |-;generalize w1.heap.size=X at hX hRX |-;cases hc:qbv qa n with
 |none=>
  have Hr:Hid (qas qa n l=none):=qhi (.inl hc);have y0:=hR2.cell 0;have y1:=hR2.cell 1;have y2:=hR2.cell 2;have y3:=hR2.cell 3;have f0:=hR2.frozen 0;have f1:=hR2.frozen 1;have f2:=hR2.frozen 2;have f3:=hR2.frozen 3;have hfin:=Lib.hid (qv5 g2);clear hc hX g2 hR2 hp2 hl2;simp only[isSome];go_wp2_with fail;refine bodyPost_ret (v:=.tuple #[.agg #[.slice none 0 0,.slice none 0 0,.slice none 0 0,.slice none 0 0],.bool false]) (by simp[results,results14,go_sem,y0,y1,y2,y3]) rfl ?_;rw[Hr.out];exact hfin.out
 |some c0=>
  have Hc:=Lib.hid hc;obtain⟨hok,hlen⟩:=qid hc;have hn1:1<=n:=by have:=hok.d1;omega
  have hn4:n<=4:=by have:=hok.d4;omega
  have hn0:¬(n=0):=by omega
  have Hok:=Lib.hid hok;rw[hc]at hX;clear hc hok hlen;simp only[isSome];by_cases qqG:20<m
  . have Hr:Hid (qas qa n l=none):=qhi (.inr (qng (by have:=Hm.out;omega)));have y0:=hR2.cell 0;have y1:=hR2.cell 1;have y2:=hR2.cell 2;have y3:=hR2.cell 3;have f0:=hR2.frozen 0;have f1:=hR2.frozen 1;have f2:=hR2.frozen 2;have f3:=hR2.frozen 3;have hfin:=Lib.hid (qv5 g2);clear hX g2 hR2 hp2 hl2;have hmi:(20:Int)<(m:Int):=by omega
    go_wp2_with fail;refine bodyPost_ret (v:=.tuple #[.agg #[.slice none 0 0,.slice none 0 0,.slice none 0 0,.slice none 0 0],.bool false]) (by simp[results,results14,go_sem,y0,y1,y2,y3]) rfl ?_;rw[Hr.out];exact hfin.out
  . have hmi:¬((20:Int)<(m:Int)):=by omega
    obtain⟨hni,hnl,hnn⟩:=qqF hX.b;have qaV:=hX.b.lt;have qqH:Hid (l.length<=20):=by show _<=_;have:=Hm.out;omega
    have Hpl:=Lib.hid hpl;clear hpl hll;go_wp2_with fail
    go_loopg [10] (m+1) (λmm i wr=>∃(k:Nat) (d q o r:Value),k<=m/\mm=m+1-k/\i=.int .i64 k/\jU wr X d q o r (qdy qa n c0 (l.take k))/\w2.grownBy wr (some X)/\Hid ((l.take k).all (λx=>decide (0<=x))=true))
    case atStart=>exact⟨0,_,_,_,_,Nat.zero_le _,rfl,rfl,hX,qah _ _,Lib.hid (by simp)⟩
    case round=>
     clear hX;obtain⟨k,d,q,o,r,hk,rfl,rfl,hB,hg,Ha⟩:=hrel;have hR:=hR2.grown hg (λe=>by injection e with e;omega);by_cases hlt:k<m
     . have hlr:=hl2.grown hg hni;obtain⟨ga,oa,x,rfl,hx,x0⟩:=hlr.at_ hlt;have Hx:=Lib.hid hx;have hki:(k:Int)<(m:Int):=by omega
       clear hx;by_cases hneg:x<0
       . have Hr:Hid (qas qa n l=none):=qhi (.inr (qpb Hx.out hneg));have y0:=hR.cell 0;have y1:=hR.cell 1;have y2:=hR.cell 2;have y3:=hR.cell 3;have f0:=hR.frozen 0;have f1:=hR.frozen 1;have f2:=hR.frozen 2;have f3:=hR.frozen 3;have hfin:=Lib.hid (qv5 (qbd g2 hg (λg e=>by cases e;exact .inl (by omega))));clear hB hg hR hlr;go_wp2_with fail;refine bodyPost_ret (v:=.tuple #[.agg #[.slice none 0 0,.slice none 0 0,.slice none 0 0,.slice none 0 0],.bool false]) (by simp[results,results14,go_sem,y0,y1,y2,y3]) rfl ?_;rw[Hr.out];exact hfin.out
       . have Ha2:=Lib.hid (qpd Hx.out hneg Ha.out);obtain⟨qcV,-⟩:=qru (n:=n) (l.take k) Hok.out;have qW:=Lib.hid (qy9 (.inl qcV));have Hst:=Lib.hid (q1t (qa:=qa) (n:=n) (c:=c0) Hx.out);obtain⟨cz,hcz⟩:∃cz,cz=qdy qa n c0 (l.take k):=⟨_,rfl⟩;obtain⟨R,hRR⟩:∃R,R=qa0 qa cz (x.tmod n):=⟨_,rfl⟩;rw[<-hcz]at hB qW Hst;rw[<-hRR]at Hst;have HR:=Lib.hid hRR;obtain⟨Ad,nd,cd,Aq,nq,cq,Ao,no,co,Ar,nr,cr,e,-⟩:=hB.cv.form;injection e with e;injection e with e;injection e with e1 e;injection e with e2 e;injection e with e3 e;injection e with e4 e;subst e1 e2 e3 e4;clear qcV hcz hRR e;have hp:=hp2.grown hg hni hnn;have hc:=hB.cv;have d0:=hB.d0;have d1:=hB.d1;have d2:=hB.d2;have d3:=hB.d3;have hXb:=hB.b;have gW:=qah wr none;have qiX:X<wr.heap.size:=hXb.lt;go_upto_region 9 with fail
         go_cut [11,12] (λt4 t5 wx=>∃b V1 Vn1 Vc1 V2 Vn2 Vc2 V3 Vn3 Vc3 V4 Vn4 Vc4,t4=.pointer (some ⟨b,0,none⟩)/\t5=.bool R.isSome/\wr.heap.size<=b/\jU wx b (.slice V1 Vn1 Vc1) (.slice V2 Vn2 Vc2) (.slice V3 Vn3 Vc3) (.slice V4 Vn4 Vc4) (R.getD qdk)/\wr.grownBy wx none)
         case first=>
          go_region_held3 (λw'=>w'.cell? ⟨X,0,none⟩=some (.slice Ad nd cd)/\w'.cell? ⟨X,1,none⟩=some (.slice Aq nq cq)/\w'.cell? ⟨X,2,none⟩=some (.slice Ao no co)/\w'.cell? ⟨X,3,none⟩=some (.slice Ar nr cr)/\w'.cell? ⟨ga,oa+k,none⟩=some (.int .i64 x)) (go_keep) (first
           |(go_at_call 45;have hz:=hc;refine(qkd _ _ qa cz (x.tmod n) _ (by first|exact hp|exact hp.new (qay gW)|exact hp.new (qar gW _)|exact hp.new (qay (qar gW _))) (by first|exact hc|exact hc.new (qay gW)|exact hc.new (qar gW _)|exact hc.new (qay (qar gW _))) Hpl.out qW.out).mono ?_;rw[<-HR.out];intro e w5 hT;obtain⟨v5,rfl,zQ,hg5⟩:=hT.open_;obtain⟨U1,Un1,Uc1,U2,Un2,Uc2,U3,Un3,Uc3,U4,Un4,Uc4,rfl,-⟩:=zQ.form;have g5:wr.grownBy w5 none:=(by first|exact hg5|exact qad (qay gW) hg5|exact qad (qar gW _) hg5|exact qad (qay (qar gW _)) hg5);have hB5:=hXb.grown g5 (by simp);have x05:=hB5.cell 0;have x15:=hB5.cell 1;have x25:=hB5.cell 2;have x35:=hB5.cell 3;have c5:w5.cell? ⟨ga,oa+k,none⟩=some (.int .i64 x):=qc1 x0 g5;have kr:X≠wr.heap.size:=Nat.ne_of_lt qiX;have qpU:=kr.symm;have qgA:X≠w5.heap.size:=Nat.ne_of_lt (Nat.lt_of_lt_of_le qiX g5.size);have qdN:=qgA.symm;have qqI:ga≠wr.heap.size:=Nat.ne_of_lt (qf5 x0);have quC:=qqI.symm;have qqJ:ga≠w5.heap.size:=Nat.ne_of_lt (Nat.lt_of_lt_of_le (qf5 x0) g5.size);have quD:=qqJ.symm;clear hT;try (have zH:Blk w5 wr.heap.size 29 #[.slice none 0 0,.slice none 0 0,.slice none 0 0,.slice none 0 0]:=(Blk.new wr 29 #[.slice none 0 0,.slice none 0 0,.slice none 0 0,.slice none 0 0]).drew.grown hg5 (by simp));try (have yy0:=zH.cell 0;have ff0:=zH.frozen 0;have yy1:=zH.cell 1;have ff1:=zH.frozen 1;have yy2:=zH.cell 2;have ff2:=zH.frozen 2;have yy3:=zH.cell 3;have ff3:=zH.frozen 3)))
          all_goals
           go_wp2_with fail;go_meet
           first
            |exact⟨_,_,_,_,_,_,_,_,_,_,_,_,_,rfl,rfl,Nat.le_refl _,(qgf zH zQ).1,qbd g5 (qgf zH zQ).2 (λg e=>by cases e;exact .inl (Nat.le_refl _))⟩
            |exact⟨_,_,_,_,_,_,_,_,_,_,_,_,_,rfl,rfl,g5.size,zQ.box,qar g5 _⟩
         case rest=>
          obtain⟨b,V1,Vn1,Vc1,V2,Vn2,Vc2,V3,Vn3,Vc3,V4,Vn4,Vc4,rfl,rfl,hb,hV,gV⟩:=hcut;have gz:=qqy hg gV;have hBz:=hB.new gV;clear d0 d1 d2 d3 hXb hp hc gW hR hlr hB x0 hg;cases R with
          |none=>
           have qgF:Hid (qdy qa n c0 (l.take (k+1))=cz):=Hst.out;rw[<-qgF.out]at hBz;clear hV gV;go_wp2;go_roundg (m+1-(k+1))
           case measure=>omega
           case rel=>exact⟨k+1,_,_,_,_,by omega,rfl,by go_num,hBz,gz,Ha2⟩
          |some c'=>
           have qgF:Hid (qdy qa n c0 (l.take (k+1))=c'):=Hst.out;have v0:=hV.d0;have v1:=hV.d1;have v2:=hV.d2;have v3:=hV.d3;have y0:=hBz.d0;have y1:=hBz.d1;have y2:=hBz.d2;have y3:=hBz.d3;have f0:=hBz.b.frozen 0;have f1:=hBz.b.frozen 1;have f2:=hBz.b.frozen 2;have f3:=hBz.b.frozen 3;have hbX:b≠X:=by omega
           have hXb:X≠b:=hbX.symm;have hP2:=hBz.put (c':=c') hV.cv;rw[<-qgF.out]at hP2;have gP:=qad gz (qeg wc X (.slice V1 Vn1 Vc1) (.slice V2 Vn2 Vc2) (.slice V3 Vn3 Vc3) (.slice V4 Vn4 Vc4));clear hV gV hBz gz;go_wp2;go_roundg (m+1-(k+1))
           case measure=>omega
           case rel=>exact⟨k+1,_,_,_,_,by omega,rfl,by go_num,hP2,gP,Ha2⟩
     . obtain rfl:m=k:=by omega
       have hall:l.take m=l:=take_of_length_le (by rw[Hm.out];exact Nat.le_refl _);have Hr:Hid (qas qa n l=some (qdy qa n c0 l)):=qf6 Hc.out (qpc qqH.out (by rw[<-Hm.out];exact Ha.out));rw[hall]at hB;obtain⟨Ad,nd,cd,Aq,nq,cq,Ao,no,co,Ar,nr,cr,e,-⟩:=hB.cv.form;injection e with e;injection e with e;injection e with e1 e;injection e with e2 e;injection e with e3 e;injection e with e4 e;subst e1 e2 e3 e4;have d0:=hB.d0;have d1:=hB.d1;have d2:=hB.d2;have d3:=hB.d3;have y0:=hR.cell 0;have y1:=hR.cell 1;have y2:=hR.cell 2;have y3:=hR.cell 3;have f0:=hR.frozen 0;have f1:=hR.frozen 1;have f2:=hR.frozen 2;have f3:=hR.frozen 3;have hfin:=Lib.hid (q9k (qbd g2 hg (λg e=>by cases e;exact .inl (by omega))) hR hB.cv);have quE:w.heap.size≠X:=by omega
       clear hB hg hR e hall;go_wp2_with fail;refine bodyPost_ret (v:=.tuple #[.agg #[.slice Ad nd cd,.slice Aq nq cq,.slice Ao no co,.slice Ar nr cr],.bool true]) (by simp[results,results14,go_sem,y0,y1,y2,y3]) rfl ?_;rw[Hr.out];exact hfin.out
end
section
open Go.Conc Go.RowKit
theorem Blk.heap{x y:World}{g:Nat}{t:TypeId}{cs:Array Value}(e:x.heap=y.heap)(h:Blk x g t cs):Blk y g t cs:=by
 unfold Blk at *;rw[<-e];exact h
theorem jw.heap{x y:World}{b:Nat}{v:Value}{c:qj}(e:x.heap=y.heap)(h:jw x b v c):jw y b v c:=by
 have k:jw x b v c=jw {y with heap:=x.heap} b v c:=rfl;rw[k,e]at h;exact h
theorem RN.heap{x y:World}{v:Value}{l:List Node}(e:x.heap=y.heap)(h:RN x v l):RN y v l:=by
 have k:RN x v l=RN {y with heap:=x.heap} v l:=rfl;rw[k,e]at h;exact h
theorem RI.heap{x y:World}{v:Value}{l:List Int}(e:x.heap=y.heap)(h:RI x v l):RI y v l:=by
 have k:RI x v l=RI {y with heap:=x.heap} v l:=rfl;rw[k,e]at h;exact h
theorem HGB.heap{R:Nat}{z x y:World}(h:HGB R z x)(e:x.heap=y.heap):HGB R z y:=⟨e▸h.size,λi hi hne=>e▸h.block i hi hne⟩
theorem HG.from{z x y:World}(h:HG z x)(e:z.heap=y.heap):HG y x:=⟨e▸h.size,λi hi=>e▸h.block i (e▸hi)⟩
theorem HGB.from{R:Nat}{z x y:World}(h:HGB R z x)(e:z.heap=y.heap):HGB R y x:=⟨e▸h.size,λi hi hne=>e▸h.block i (e▸hi) hne⟩
section
variable {gr:Grd}{M:Mks gr.base}{Post:Value->World->Prop}{Sh:Nat->Prop}{Fz:Loc->Prop}{T:Nat->qA}{n h:Nat}{w z:World}
theorem qqK(OO:zL (gr.base.pen M)){f:FuncId}{fn:Func}(hfn:Tryz.prog.funcs[f]?=some fn){ts:Array Value}(hts:∀v,v∈ts->Ok gr.A gr.F v){c:Code}(hc:qcl prog Fs Gs SN c=true):FrE (gr.base.pen M) SN ((base f).at ⟨ts,[]⟩ [.code c]):=
 qhB hts (OO.code hc f) hfn (λr _=>by cases r<;>exact OO.X f _)
theorem qqL(OO:zL (gr.base.pen M)){f:FuncId}{a:Act}{todo:List Item}{e:Exit}(h:FrE (gr.base.pen M) SN (qrd (base f) a todo e)):∀v,v∈a.tmps->Ok gr.A gr.F v:=λv hv=>by
 obtain⟨i,hi,rfl⟩:=Array.mem_iff_getElem.1 hv;have k:=h.tm i (a.tmps[i]) (OO.X _ i);have e2:(qrd (base f) a todo e).tmps=a.tmps:=by cases e<;>rfl
 rw[e2]at k;exact k (Array.getElem?_eq_getElem hi)
theorem qbg(OO:zL (gr.base.pen M)){f:FuncId}{fn:Func}(hfn:Tryz.prog.funcs[f]?=some fn){ts:Array Value}(hts:∀v,v∈ts->Ok gr.A gr.F v){c:Code}(zF:qcl prog Fs Gs SN c=true)
   (hb:Both (gr.base.pen M) w z) (O:Outside (gr.base.pen M) Sh Fz T n h) (hL:jv T n h w) {Q:Exit->Act->World->Prop} (hR:∀e v x y,x.heap=y.heap->Q e v x->Q e v y) (hc:∀W,z.heap=W.heap->c.wp prog Q ⟨ts,[]⟩ W) (hQ:∀e a w,Q e a w->Ends e)
   {k:List Item} {cs:List Frame}
   (next:∀e a' todo w' z',Both (gr.base.pen M) w' z'->Held (gr.base.pen M) w w'->FrE (gr.base.pen M) SN (qrd (base f) a' todo e)->(∀v,v∈a'.tmps->Ok gr.A gr.F v)->(e=.normal->todo=[])->jv T n h w'->Q e a' z'->qc prog Post Sh Fz T n h 0 (G (qrd (base f) ⟨a'.tmps,[]⟩ (todo++k) e) cs) w') :
   qc prog Post Sh Fz T n h 0 (G ((base f).at ⟨ts,[]⟩ (.code c::k)) cs) w:=
 qxs (a:=⟨ts,[]⟩) OO.xM (qqK OO hfn hts zF) hb O hL hR (λ_ _=>hc _ rfl) hQ (λe a' todo w' z' h1 h2 h3 h4 h5 h6=>next e a' todo w' z' h1 h2 h3 (qqL OO h3) h4 h5 h6)
end
end
section
open Go.Conc Go.RowKit Go.ConcR.Gen
noncomputable def qiY:Code:=match qdz with | .seq _ (.seq _ (.seq _ (.seq _ (.seq x _))))=>x|_=>.skip
theorem q2a:qdz=.seq xx (.seq xy (.seq xz (.seq xA (.seq qiY (.seq vU .ret))))):=rfl
theorem q39:qcl prog Fs Gs SN xx=true:=by kernel_rfl
theorem q4a:qcl prog Fs Gs SN xy=true:=by kernel_rfl
theorem q4b:qcl prog Fs Gs SN xz=true:=by kernel_rfl
theorem q4c:qcl prog Fs Gs SN xA=true:=by kernel_rfl
theorem q4d:qcl prog Fs Gs SN vU=true:=by kernel_rfl
theorem qxf:qcl prog Fs Gs SN qz=true:=by kernel_rfl
theorem qqq{y:World}{R:Nat}{d k o r b pv nv cv X fl x3 x4 x5 x9 x11 x12 x13 x14 x15 x16 x17 x18 x19 x20 x21 x22 x23 x24 x25 x26 x27 x28 x29 x30 x31 x32:Value}(hR:Blk y R 29 #[d,k,o,r]) :
   (results f13 (qaz pv nv cv (.pointer (some ⟨R,0,none⟩)) X fl x3 x4 x5 b x9 x11 x12 x13 x14 x15 x16 x17 x18 x19 x20 x21 x22 x23 x24 x25 x26 x27 x28 x29 x30 x31 x32)).run prog y=.ok (.tuple #[.agg #[d,k,o,r],b]) y:=by
 have z0:=hR.cell 0;have z1:=hR.cell 1;have z2:=hR.cell 2;have z3:=hR.cell 3;simp[results,results13,qaz,go_sem,z0,z1,z2,z3]
theorem q5f{qa:List Node}{N:Nat}:∀(l:List Int),(∀x∈l,0<=x)->∀c:qj,turns (λc j=>(qa0 qa c ((j:Nat):Int)).getD c) N c (l.map Int.toNat)=qdy qa N c l
 |[],_,_=>rfl
 |x::l,h,c=>by
  have h0:0<=x:=h x (by simp)
  have e:((x.toNat%N:Nat):Int)=x.tmod N:=by
   obtain⟨m,rfl⟩:=Int.eq_ofNat_of_zero_le h0;rfl
  have ih:=q5f (qa:=qa) (N:=N) l (λy hy=>h y (by simp[hy])) ((qa0 qa c (x.tmod N)).getD c);unfold turns qdy at ih |-;simp only[map_cons,foldl_cons,e];exact ih
theorem q4e{l:List Int}(h:∀x∈l,0<=x):(l.map Int.toNat).map (Int.ofNat ·)=l:=by
 rw[List.map_map]
 conv=>rhs;rw[<-List.map_id l]
 exact map_congr_left (λx hx=>Int.toNat_of_nonneg (h x hx))
theorem qzn{l:List Int}(h:qbt l=true):l.length<=20/\∀x∈l,0<=x:=by
 unfold qbt at h;simp only[Bool.and_eq_true,decide_eq_true_eq,List.all_eq_true]at h;exact h
theorem HGB.qcT{R b:Nat}{z x:World}(h:HGB R z x){v:Value}{c:qj}{cs:Array Value}(hB:Blk z R 29 cs)(k:jw z b v c):jw x b v c:=by
 have e:jw {z with heap:=x.heap} b v c=jw x b v c:=rfl;rw[<-e];exact k.grown (w':={z with heap:=x.heap}) (row:=some R) ⟨rfl,rfl,rfl,h.size,λi hi hne=>h.block i hi (λe=>hne (by rw[e]))⟩ (qh.blk hB (by decide)) (qh.blk hB (by decide))
theorem DZ.hg{z₀ z:World}{fl b0:Nat}{lk:Int}{pv:Value}{qa:List Node}{c:qj}(h:DZ z₀ fl b0 lk pv qa c z):HGB fl z₀ z:=⟨h.size,h.block⟩
section
variable {gr:Grd}{M:Mks gr.base}{Post:Value->World->Prop}{Sh:Nat->Prop}{Fz:Loc->Prop}{T:Nat->qA}{n0:Nat}{w z:World}
theorem q4f(OO:zL (gr.base.pen M)){f:FuncId}{fn:Func}(hfn:Tryz.prog.funcs[f]?=some fn){ts:Array Value}(hts:∀v,v∈ts->Ok gr.A gr.F v):FrE (gr.base.pen M) SN {(base f).at ⟨ts,[]⟩ []with mode:=.returning}:=
 ⟨λt v _ hv=>hts v (Array.mem_of_getElem? hv),λit hi=>(by cases hi),rfl,rfl,rfl,λch e=>(by cases e),fn,hfn,λr _=>by cases r<;>exact OO.X f _⟩
theorem q4g(OO:∀M:Mks gr.base,zL (gr.base.pen M))(hb:Both (gr.base.pen M) w z){pv cv:Value}{nw:Int}{qa:List Node}{l:List Int}{a:Addr}
   (hp:RN z pv qa) (hl:RI z cv l) (hE:qm z a) (okp:Ok gr.A gr.F pv) (okc:Ok gr.A gr.F cv) (hx:∀x∈l,x<9223372036854775808)
   (O:zx (gr.base.pen M) Sh Fz) (hT:∀i,i≠0->T i=.left) (hn0:0<n0) (vN:n0<2000000000) {caller:Frame} {cs:List Frame}
   (next:∀w' z' (M':Mks gr.base) Sh' Fz' T' n' v,M.Le M'->Both (gr.base.pen M') w' z'->HG z z'->zx (gr.base.pen M') Sh' Fz'->qn (gr.base.pen M) (λr=>w.heap.size<=r) w w'->(∀i,i≠0->T' i=.left)->n0<=n'->n'<=n0+4 ->
    Ok gr.A gr.F v->jw z' z.heap.size v ((qas qa nw l).getD qdk)->qc prog Post Sh' Fz' T' n' 0 0 (G (caller.finish (.tuple #[v,.bool (qas qa nw l).isSome])) cs) w') :
   qc prog Post Sh Fz T n0 0 0 (G ((base 13).at ⟨qaz pv (.int .i64 nw) cv undef undef undef undef undef undef undef undef undef undef undef undef undef undef undef undef undef undef undef undef undef undef undef undef undef undef undef undef undef undef,[]⟩ [.code qdz]) (caller::cs)) w:=by
 have OM:=OO M
 have ok0:∀v,v∈qaz pv (.int .i64 nw) cv undef undef undef undef undef undef undef undef undef undef undef undef undef undef undef undef undef undef undef undef undef undef undef undef undef undef undef undef undef undef->Ok gr.A gr.F v:=λv hv=>by
  simp only[qaz,List.mem_toArray,mem_cons,not_mem_nil,or_false]at hv
  rcases hv with rfl|rfl|rfl|rfl|rfl|rfl|rfl|rfl|rfl|rfl|rfl|rfl|rfl|rfl|rfl|rfl|rfl|rfl|rfl|rfl|rfl|rfl|rfl|rfl|rfl|rfl|rfl|rfl|rfl|rfl|rfl|rfl|rfl <;>
   first|exact okp|exact okc|exact .int _ _|exact .undef
 rw[q2a];refine qao ?_
 refine qbg OM func13 ok0 q39 hb (O.alone hT) (qaq hT)
  (Q:=λe a x=>e=.normal/\HG z x/\Blk x z.heap.size 29 qgv/\a.tmps=qaz pv (.int .i64 nw) cv (.pointer (some ⟨z.heap.size,0,none⟩)) undef undef undef undef undef (.bool false) undef undef undef undef undef undef undef undef undef undef undef undef undef undef undef undef undef undef undef undef undef undef undef)
  (λe v x y exy h=>⟨h.1,h.2.1.heap exy,h.2.2.1.heap exy,h.2.2.2⟩)
  (λW eW=>wp_mono (q9v pv cv nw W) (λe a x h=>by
   have hs:W.heap.size=z.heap.size:=by rw[eW]
   rw[hs]at h;exact⟨h.1,h.2.1.from eW.symm,h.2.2.1,h.2.2.2⟩)) (λe a w h=>by rw[h.1];trivial) ?_
 rintro e a1 td w1 z1 hb1 hh1-ok1 ht1 hL1 ⟨rfl,hg1,hR1,qiZ⟩;rw[ht1 rfl];clear ht1 ok0;show qc prog Post Sh Fz T n0 0 0 (G ((base 13).at ⟨a1.tmps,[]⟩ [.code _]) (caller::cs)) w1;rw[qiZ]at ok1 |-;refine qao ?_
 refine qbg OM func13 ok1 q4a hb1 (O.alone hT) hL1
  (Q:=λe a x=>e=.normal/\HG z1 x/\∃A1 n1 c1 A2 n2 c2 A3 n3 c3 A4 n4 c4 X x11 x12 x13 x14 x15 x16,z1.heap.size<=X/\Blk x X 29 #[.slice A1 n1 c1,.slice A2 n2 c2,.slice A3 n3 c3,.slice A4 n4 c4] /\
   jw x z1.heap.size (.agg #[.slice A1 n1 c1,.slice A2 n2 c2,.slice A3 n3 c3,.slice A4 n4 c4]) ((qbv qa nw).getD qdk)/\a.tmps=qaz pv (.int .i64 nw) cv (.pointer (some ⟨z.heap.size,0,none⟩)) (.pointer (some ⟨X,0,none⟩)) undef undef undef undef (.bool false) (.bool (qbv qa nw).isSome) x11 x12 x13 x14 x15 x16 undef undef undef undef undef undef undef undef undef undef undef undef undef undef undef undef)
  (λe v x y exy h=>by
   obtain⟨h1,h2,A1,n1,c1,A2,n2,c2,A3,n3,c3,A4,n4,c4,X,x11,x12,x13,x14,x15,x16,h3,h4,h5,h6⟩:=h;exact⟨h1,h2.heap exy,A1,n1,c1,A2,n2,c2,A3,n3,c3,A4,n4,c4,X,x11,x12,x13,x14,x15,x16,h3,h4.heap exy,h5.heap exy,h6⟩)
  (λW eW=>wp_mono (q9w pv cv nw qa W ((hg1.rn hp).heap eW) z.heap.size) (λe a x h=>by
   have hs:W.heap.size=z1.heap.size:=by rw[eW]
   rw[hs]at h;obtain⟨h1,h2,h3⟩:=h;exact⟨h1,h2.from eW.symm,h3⟩)) (λe a w h=>by rw[h.1];trivial) ?_
 rintro e a2 td w2 z2 hb2 hh2-ok2 ht2 hL2 ⟨rfl,hg2,A1,n1,c1,A2,n2,c2,A3,n3,c3,A4,n4,c4,X,x11,x12,x13,x14,x15,x16,hX,hBX,hF,qjA⟩;rw[ht2 rfl];clear ht2 ok1 qiZ;show qc prog Post Sh Fz T n0 0 0 (G ((base 13).at ⟨a2.tmps,[]⟩ [.code _]) (caller::cs)) w2;rw[qjA]at ok2 |-;clear qjA;have hR2:=hg2.blk hR1;have qgG:=hg1.trans hg2;refine qao ?_
 refine qbg OM func13 ok2 q4b hb2 (O.alone hT) hL2
  (Q:=λe a x=>(((qbv qa nw).isSome&&qbt l)=true/\e=.normal/\x.heap=z2.heap/\∃x17 x18 x19 x20 x21 x22 x23 x24,a.tmps=qaz pv (.int .i64 nw) cv (.pointer (some ⟨z.heap.size,0,none⟩)) (.pointer (some ⟨X,0,none⟩)) undef undef undef undef (.bool false) (.bool (qbv qa nw).isSome) x11 x12 x13 x14 x15 x16 x17 x18 x19 x20 x21 x22 x23 x24 undef undef undef undef undef undef undef undef) ∨
   (((qbv qa nw).isSome&&qbt l)=false/\e=.ret/\HGB z.heap.size z2 x/\Blk x z.heap.size 29 qgv/\∃x17 x18 x19 x20 x21 x22 x23 x24,a.tmps=qaz pv (.int .i64 nw) cv (.pointer (some ⟨z.heap.size,0,none⟩)) (.pointer (some ⟨X,0,none⟩)) undef undef undef undef (.bool false) (.bool (qbv qa nw).isSome) x11 x12 x13 x14 x15 x16 x17 x18 x19 x20 x21 x22 x23 x24 undef undef undef undef undef undef undef undef))
  (λe v x y exy h=>h.imp (λk=>⟨k.1,k.2.1,exy.symm.trans k.2.2.1,k.2.2.2⟩) (λk=>⟨k.1,k.2.1,k.2.2.1.heap exy,k.2.2.2.1.heap exy,k.2.2.2.2⟩))
  (λW eW=>wp_mono (q9x pv cv nw l W ((qgG.ri hl).heap eW) (qbv qa nw).isSome z.heap.size X (hR2.heap eW) x11 x12 x13 x14 x15 x16) (λe a x h=>h.imp (λk=>⟨k.1,k.2.1,by rw[k.2.2.1,eW],k.2.2.2⟩) (λk=>⟨k.1,k.2.1,k.2.2.1.from eW.symm,k.2.2.2.1,k.2.2.2.2⟩)))
  (λe a w h=>by rcases h with h|h<;>(rw[h.2.1];trivial)) ?_
 rintro e a3 td w3 z3 hb3 hh3-ok3 ht3 hL3 (⟨hok,rfl,ez3,x17,x18,x19,x20,x21,x22,x23,x24,qdR⟩|⟨hno,rfl,hg3,hR3,x17,x18,x19,x20,x21,x22,x23,x24,qdR⟩)
 . rw[ht3 rfl];clear ht3;show qc prog Post Sh Fz T n0 0 0 (G ((base 13).at ⟨a3.tmps,[]⟩ [.code _]) (caller::cs)) w3;rw[qdR]at ok3 |-;clear qdR;simp only[Bool.and_eq_true]at hok;obtain⟨hs,hch⟩:=hok;obtain⟨c0,hc0⟩:=isSome_iff_exists.1 hs;obtain⟨qdS,qqM⟩:=qid hc0;obtain⟨N,rfl⟩:=Int.eq_ofNat_of_zero_le (show 0<=nw by have:=qdS.d1;omega);have hss:qas qa (N:Nat) l=some (qdy qa (N:Nat) c0 l):=qf6 hc0 hch;rw[hss]at next;have hN1:1<=N:=by have:=qdS.d1;omega
   have hN4:N<=4:=by have:=qdS.d4;omega
   obtain⟨qeS,hnn⟩:=qzn hch;obtain⟨P,pn,pc,rfl,-,-,-⟩:=hp.form';have qgH:HG z z3:=qgG.heap ez3.symm;have qqN:=hBX.heap ez3.symm;have hR3:=hR2.heap ez3.symm;have hF3:=hF.heap ez3.symm;rw[hc0]at hF3;refine qao ?_
   refine qbg OM func13 ok3 q4c hb3 (O.alone hT) hL3
    (Q:=λe a x=>e=.normal/\HG z3 x/\Blk x z3.heap.size 66 #[.int .i32 0,.int .u32 0,.slice P pn pc,.slice A1 n1 c1,.slice A2 n2 c2,.slice A3 n3 c3,.slice A4 n4 c4]/\∃x25 x26 x27,a.tmps=qaz (.slice P pn pc) (.int .i64 (N:Nat)) cv (.pointer (some ⟨z.heap.size,0,none⟩)) (.pointer (some ⟨X,0,none⟩)) (.pointer (some ⟨z3.heap.size,0,none⟩)) undef undef undef (.bool false) (.bool (qbv qa (N:Nat)).isSome) x11 x12 x13 x14 x15 x16 x17 x18 x19 x20 x21 x22 x23 x24 x25 x26 x27 undef undef undef undef undef)
    (λe v x y exy h=>⟨h.1,h.2.1.heap exy,h.2.2.1.heap exy,h.2.2.2⟩)
    (λW eW=>wp_mono (q9y cv (N:Nat) W P pn pc z.heap.size X n1 c1 n2 c2 n3 c3 n4 c4 A1 A2 A3 A4 _ x11 x12 x13 x14 x15 x16 x17 x18 x19 x20 x21 x22 x23 x24 (qqN.heap eW)) (λe a x h=>by
     have hs:W.heap.size=z3.heap.size:=by rw[eW]
     rw[hs]at h;exact⟨h.1,h.2.1.from eW.symm,h.2.2.1,h.2.2.2⟩)) (λe a w h=>by rw[h.1];trivial) ?_
   rintro e a4 td w4 z4 hb4 hh4-ok4 ht4 hL4 ⟨rfl,hg4,hFl,x25,x26,x27,qjB⟩;rw[ht4 rfl];clear ht4;show qc prog Post Sh Fz T n0 0 0 (G ((base 13).at ⟨a4.tmps,[]⟩ [.code _]) (caller::cs)) w4;rw[qjB]at ok4 |-;clear qjB;have kz:=qgH.trans hg4;have hA:gr.A ⟨z3.heap.size,0,none⟩:=(ok4 (.pointer (some ⟨z3.heap.size,0,none⟩)) (by simp[qaz])).jX
   have hW:=qpV (gr:=gr) (N:=N) (fl:=z3.heap.size) (b0:=z.heap.size) (csv:=cv) (chs:=l.map Int.toNat) (qa:=qa) (z₀:=z4) hA hFl qgH.size (qf5 hE) (kz.rn hp) (kz.err hE) (by rw[q4e hnn];exact kz.ri hl)
    (λa0 n k e=>by subst e;exact okc.of_slice) (λi hi=>by
     rw[length_map]at hi;rw[getElem_map];have h1:=hx _ (getElem_mem hi);have h2:=hnn _ (getElem_mem hi);omega)
   rw[<-hb4.rel.size]at hW;have hD:DZ z4 z3.heap.size z.heap.size 0 (.slice P pn pc) qa c0 z4:=⟨Nat.le_refl _,λ_ _ _=>rfl,⟨_,_,_,_,hFl,(hg4.qcT hF3).low hg1.size⟩,qpq qdS⟩
   have ok5:∀v,v∈qaz (.slice P pn pc) (.int .i64 (N:Nat)) cv (.pointer (some ⟨z.heap.size,0,none⟩)) (.pointer (some ⟨X,0,none⟩)) (.pointer (some ⟨z3.heap.size,0,none⟩)) undef undef undef (.bool false) (.bool (qbv qa (N:Nat)).isSome) x11 x12 x13 x14 x15 x16 x17 x18 x19 x20 x21 x22 x23 x24 x25 x26 x27 (.int .i64 (N:Nat)) cv (.tuple #[]) undef undef->Ok gr.A gr.F v:=λv hv=>by
    simp only[qaz,List.mem_toArray,mem_cons,not_mem_nil,or_false]at hv ok4
    rcases hv with rfl|rfl|rfl|rfl|rfl|rfl|rfl|rfl|rfl|rfl|rfl|rfl|rfl|rfl|rfl|rfl|rfl|rfl|rfl|rfl|rfl|rfl|rfl|rfl|rfl|rfl|rfl|rfl|rfl|rfl|rfl|rfl|rfl <;>
     first|exact .undef|exact .int _ _|exact okc|exact ok4 _ (by simp)
   refine qao ?_;generalize hs6:vU=c6;simp only[qiY,qdz,f13,Option.getD_some,qaz];refine qau ?_;simp only[List.size_toArray,length_cons,length_nil,Nat.reduceAdd,Nat.zero_add,range,range.loop];refine qa2 (.int .i64 (N:Nat)) rfl rfl (by decide) (λw=>by go_simp) (λw=>by simp[go_sem]) ?_;walk_nrm;refine qa2 cv rfl rfl (by decide) (λw=>by go_simp) (λw=>by simp[go_sem]) ?_;walk_nrm;refine qho (c:=qiq) rfl rfl (by decide) rfl func43 (by kernel_rfl) rfl ?_;walk_nrmf f43;have quF:w.heap.size<=w4.heap.size:=Nat.le_trans (Nat.le_trans (Nat.le_trans hh1.size hh2.size) hh3.size) hh4.size;refine qxe (gr:=gr) (M:=M) (T:=T) hW (λM=>(OO M).xM) (λM=>(OO M).code qxf _) hb4 hD O hT hn0 vN hN1 hN4 (by rw[length_map];omega) (λw5 z5 M5 Sh5 Fz5 hle hb5 hD5 O5 hh5=>?_);walk_nrm;refine qan ?_;rw[q5f l hnn c0]at hD5;have hT5:∀i,i≠0->(λ_=>qA.left:Nat->qA) i=.left:=λ_ _=>rfl;have OM5:=OO M5;obtain⟨d,k,o,r,qqO,hF5⟩:=hD5.floor;obtain⟨B1,m1,e1,B2,m2,e2,B3,m3,e3,B4,m4,e4,ee⟩:=hF5.form;injection ee with ee;injection ee with ee;injection ee with ea ee;injection ee with eb ee;injection ee with ec ee;injection ee with ed ee;subst ea eb ec ed;clear ee;have qqP:z.heap.size<=z3.heap.size:=qgH.size;have kT:z.heap.size<z3.heap.size:=hR3.lt;have hR4:=hg4.blk hR3;have hR5:Blk z5 z.heap.size 29 qgv:=(hD5.block z.heap.size hR4.lt (by omega)).trans hR4;have qqQ:HG z z5:=HGB.hg kz hD5.hg qqP;subst hs6;refine qao ?_
   refine qbg (ts:=qaz (.slice P pn pc) (.int .i64 (N:Nat)) cv (.pointer (some ⟨z.heap.size,0,none⟩)) (.pointer (some ⟨X,0,none⟩)) (.pointer (some ⟨z3.heap.size,0,none⟩)) undef undef undef (.bool false) (.bool (qbv qa (N:Nat)).isSome) x11 x12 x13 x14 x15 x16 x17 x18 x19 x20 x21 x22 x23 x24 x25 x26 x27 (.int .i64 (N:Nat)) cv (.tuple #[]) undef undef) OM5 func13 ok5 q4d hb5 (O5.alone hT5) (qaq hT5)
    (Q:=λe a x=>e=.normal/\HGB z.heap.size z5 x/\Blk x z.heap.size 29 #[.slice B1 m1 e1,.slice B2 m2 e2,.slice B3 m3 e3,.slice B4 m4 e4]/\∃x31 x32,a.tmps=qaz (.slice P pn pc) (.int .i64 (N:Nat)) cv (.pointer (some ⟨z.heap.size,0,none⟩)) (.pointer (some ⟨X,0,none⟩)) (.pointer (some ⟨z3.heap.size,0,none⟩)) undef undef undef (.bool true) (.bool (qbv qa (N:Nat)).isSome) x11 x12 x13 x14 x15 x16 x17 x18 x19 x20 x21 x22 x23 x24 x25 x26 x27 (.int .i64 (N:Nat)) cv (.tuple #[]) x31 x32)
    (λe v x y exy h=>⟨h.1,h.2.1.heap exy,h.2.2.1.heap exy,h.2.2.2⟩)
    (λW eW=>wp_mono (q9z cv (N:Nat) W z.heap.size z3.heap.size m1 e1 m2 e2 m3 e3 m4 e4 B1 B2 B3 B4 (.slice P pn pc) _ _ _ _ x11 x12 x13 x14 x15 x16 x17 x18 x19 x20 x21 x22 x23 x24 x25 x26 x27 _ _ _ (by omega) (hR5.heap eW) (qqO.heap eW)) (λe a x h=>⟨h.1,h.2.1.from eW.symm,h.2.2.1,h.2.2.2⟩)) (λe a w h=>by rw[h.1];trivial) ?_
   rintro e a6 td w6 z6 hb6 hh6-ok6 ht6 hL6 ⟨rfl,hg6,hR6,x31,x32,qqR⟩;rw[ht6 rfl];clear ht6;show qc prog Post Sh5 Fz5 _ (n0+N) 0 0 (G ((base 13).at ⟨a6.tmps,[]⟩ [.code .ret]) (caller::cs)) w6;rw[qqR]at ok6 |-;refine qdn rfl (λ_=>stepG_ret') ?_;refine qrw (C:=gr.base.pen M5) (x:=.tuple #[.agg #[.slice B1 m1 e1,.slice B2 m2 e2,.slice B3 m3 e3,.slice B4 m4 e4],.bool true]) OM5.xM (q4f OM5 func13 ok6) rfl hb6 (O5.alone hT5) hL6 func13 (λd=>?_) ?_
   . show (results f13 (qaz (.slice P pn pc) (.int .i64 (N:Nat)) cv (.pointer (some ⟨z.heap.size,0,none⟩)) (.pointer (some ⟨X,0,none⟩)) (.pointer (some ⟨z3.heap.size,0,none⟩)) undef undef undef (.bool true) (.bool (qbv qa (N:Nat)).isSome) x11 x12 x13 x14 x15 x16 x17 x18 x19 x20 x21 x22 x23 x24 x25 x26 x27 (.int .i64 (N:Nat)) cv (.tuple #[]) x31 x32)).run prog (z6.at d)=_;exact qqq (y:=z6.at d) hR6
   . intro w7 z7 hb7 ez7 hh7 qdT hL7;have hgz:HG z z7:=(HGB.hg qqQ hg6 (Nat.le_refl _)).heap ez7.symm;have hF7:=(hg6.qcT hR5 hF5).heap ez7.symm
     exact next w7 z7 M5 Sh5 Fz5 _ (n0+N) _ hle hb7 hgz O5
      ((((((hh1.trans hh2).trans hh3).trans hh4).but).trans (hh5.mono (λr hr=>by omega))).trans (((hh6.trans hh7).but).down hle)) hT5 (by omega) (by omega) (qdT.zR _ (by simp)) hF7
 . have hsn:qas qa nw l=none:=by
    rw[Bool.and_eq_false_iff]at hno;exact qhi (hno.imp (λk=>by simpa using k) id)
   rw[hsn]at next;show qc prog Post Sh Fz T n0 0 0 (G {(base 13).at ⟨a3.tmps,[]⟩ (td++_)with mode:=.returning} (caller::cs)) w3;rw[qdR]at ok3 |-;refine qrw (C:=gr.base.pen M) (x:=.tuple #[.agg #[.slice none 0 0,.slice none 0 0,.slice none 0 0,.slice none 0 0],.bool false]) OM.xM (q4f OM func13 ok3) rfl hb3 (O.alone hT) hL3 func13 (λd=>?_) ?_
   . show (results f13 (qaz pv (.int .i64 nw) cv (.pointer (some ⟨z.heap.size,0,none⟩)) (.pointer (some ⟨X,0,none⟩)) undef undef undef undef (.bool false) (.bool (qbv qa nw).isSome) x11 x12 x13 x14 x15 x16 x17 x18 x19 x20 x21 x22 x23 x24 undef undef undef undef undef undef undef undef)).run prog (z3.at d)=_;exact qqq (y:=z3.at d) hR3
   . intro w4 z4 hb4 ez4 hh4 qqS hL4;have hgz:HG z z4:=(HGB.hg qgG hg3 (Nat.le_refl _)).heap ez4.symm;exact next w4 z4 M Sh Fz T n0 _ (Mks.Le.refl M) hb4 hgz O ((((hh1.trans hh2).trans hh3).trans hh4).but) hT (Nat.le_refl _) (by omega) (qqS.zR _ (by simp)) (jw.zero _ _)
end
end
section
open Go.Conc Go.RowKit
section
variable {P:Program}{Post:Value->World->Prop}{g:Goroutine}{w:World}
theorem q7p(h:qc P Post (λ_=>False) (λ_=>False) (λ_=>.left) 1 0 0 g w):yx P Post #[g] w #[]:=by
 refine h.lead #[g] #[] (λ_=>0) ⟨rfl,rfl,λi x hi hx=>?_,λi s h1 h2 h3=>(by cases h3),λi j s s' _ _ _ _ h3=>(by cases h3),⟨?_,λi a ha=>?_,λk _ i a ha=>?_,λop ho=>(by simp at ho),λi a ha=>?_,λk l hk=>?_,λi k hg=>?_⟩,rfl,λj _=>rfl⟩
 . exfalso;have:=(Array.getElem?_eq_some_iff.1 hx).1;simp at this;omega
 . rintro said ⟨i,j,-,⟨a,b,h1,-⟩,-⟩;obtain⟨x,hx,_⟩:=touch_of h1;simp at hx
 . obtain⟨x,hx,_⟩:=touch_of ha;simp at hx
 . obtain⟨x,hx,_⟩:=touch_of ha;simp at hx
 . obtain⟨x,hx,_⟩:=touch_of ha;simp at hx
 . obtain⟨_,_,s,h3,_⟩:=hk;cases h3
 . simp[Trace.g?]at hg
theorem q2g{Sh:Nat->Prop}{Fz:Loc->Prop}{T:Nat->qA}{n:Nat}{fr:Frame}(hm:fr.mode=.returning)(hdf:fr.defers=[])(hkind:fr.kind=.normal){fn':Func}(hf:P.funcs[fr.fn]?=some fn'){x:Value}
   (qcW:P.inits.idxOf? fr.fn=none) (hres:∀w,(results fn' fr.tmps).run P w=.ok x w) (hev:∀w,(results fn' fr.tmps).events P w #[]=#[]) (hT:∀i,i≠0->T i=.left) (hn:0<n) (hpost:∀d,Post x (w.at d)):qc P Post Sh Fz T n 0 0 (G fr []) w:=λe=>by
 have hw:qc P Post Sh Fz (λi=>if i=0 then .left else T i) n 0 0 (G fr []) w:=λe=>by
  refine qjW rfl (λi _ h0=>?_) (λi hi=>?_) (λd=>⟨x,w.at d,seen P fr.fn #[],?_,?_,hpost d⟩)
  . show (if i=0 then qA.left else T i)=_;rw[if_neg h0];exact hT i h0
  . show (if i=0 then qA.left else T i)=_;rw[if_neg (by omega)];exact hT i (by omega)
  . show stepG P true (G fr []) (w.at d)=_;simp[G,stepG,unwind,hm,hdf,hf,doReturn,hkind,GStep.after,hres,hev,qcW]
  . intro e he;have:=mem_seen he;simp at this
 have key:∀gs t q,qV P Sh Fz T n 0 0 (G fr []) (w.at e) gs t q->qV P Sh Fz (λi=>if i=0 then .left else T i) n 0 0 (G fr []) (w.at e) gs t q:=λgs t q H=>by
  have eT:∀i,i≠0->(if i=0 then qA.left else T i)=T i:=λi h=>if_neg h;refine⟨H.size,H.here,λi x hi hx=>by rw[eT i hi];exact H.jW i x hi hx,λi s hi hn h3=>H.fact i s hi hn (by rw[<-eT i hi];exact h3),λi j s s' hi hj hni hnj h3 h4=>H.apart i j s s' hi hj hni hnj (by rw[<-eT i hi];exact h3) (by rw[<-eT j hj];exact h4),?_,H.deaf,H.above⟩
  have e1:StT (λi=>if i=0 then qA.left else T i) n 0=StT T n 0:=by
   funext k l;unfold StT;apply propext;constructor
   . rintro⟨h1,h2,s,h3,h4⟩;exact⟨h1,h2,s,by rw[<-eT k h1];exact h3,h4⟩
   . rintro⟨h1,h2,s,h3,h4⟩;exact⟨h1,h2,s,(eT k h1).trans h3,h4⟩
  have e2:LfT (λi=>if i=0 then qA.left else T i) 0=LfT T 0:=by
   funext k;unfold LfT;apply propext;constructor
   . rintro⟨h1,h2⟩;exact⟨h1,by rw[<-eT k h1];exact h2⟩
   . rintro⟨h1,h2⟩;exact⟨h1,(eT k h1).trans h2⟩
  rw[e1,e2];exact H.zC
 exact λgs t q H=>hw e gs t q (key gs t q H)
theorem qf8{Sh:Nat->Prop}{Fz:Loc->Prop}{T:Nat->qA}{n:Nat}{f:FuncId}{fn:Func}(hfn:P.funcs[f]?=some fn)(qcW:P.inits.idxOf? f=none){t:Nat}(hr:fn.results=#[.tmp t]){ts:Array Value}{v:Value}(hv:ts[t]?=some v)(hT:∀i,i≠0->T i=.left)(hn:0<n){todo:List Item}
   (hpost:∀d,Post v (w.at d)):qc P Post Sh Fz T n 0 0 (G {(base f).at ⟨ts,[]⟩ todo with mode:=.returning} []) w:=by
 have e1:ts[t]?.getD undef=v:=by
  rw[hv];rfl
 refine q2g rfl rfl rfl hfn qcW (x:=v) (λw=>?_) (λw=>?_) hT hn hpost
 . show (results fn ts).run P w=_;simp[results,hr,go_sem,e1]
 . show (results fn ts).events P w #[]=_;simp[results,hr,go_sem]
end
section
variable {C:Pen}{S:List String}{Post:Value->World->Prop}{Sh:Nat->Prop}{Fz:Loc->Prop}{T:Nat->qA}{n h dd:Nat}{w z z2:World}
 {b:Frame} {a:Act} {k:List Item} {cs:List Frame} {ops:Array Oper} {i:Nat} {rest:List Nat} {o:Oper} {X:Nat->Prop}
theorem qqT(H:zw C S)(hoo:q82 C S (λ_=>False) o)(ht:∀v,v∈a.tmps->Ok C.A C.F v)(hb:Both C w z)(O:Outside C Sh Fz T n h)(hL:jv T n h w){nx:Next}(v:Value)(hnx:nx=.value v∨(nx=.skip/\v=undef))(ho:ops[i]?=some o)(hw:Region.wanted o (yielded ops a.tmps)=true)(hk:b.kind≠.early)
   (hr:∀d,(execOp a.eval o).run C.P (z.at d)=.ok nx (z2.at d))
   (next:∀w' d,Both C w' (z2.at d)->Held C w w'->Ok C.A C.F v->jv T n h w'->qc C.P Post Sh Fz T n h dd (G (b.at (a.put o.dst v) (.inRegion ops rest::k)) cs) w') :
   qc C.P Post Sh Fz T n h dd (G (b.at a (.inRegion ops (i::rest)::k)) cs) w:=by
 refine λe=>qys rfl (λd=>?_)
 have hev:∀x,x∈o.op.operands->Ok C.A C.F (a.eval x):=λx hx=>by
  have hx':=hoo.2 x hx;cases x with
  |tmp t=>
   show Ok C.A C.F (a.tmps.getD t undef);rw[Array.getD_eq_getD_getElem?];cases ht':a.tmps[t]? with
   |none=>exact .undef
   |some v=>exact ht v (Array.mem_of_getElem? ht')
  |const v=>exact hx'
  |global g=>exact .ptr hx'
  |func f=>exact .func hx' (λv hv=>by simp at hv) (λv hv=>by simp at hv)
 have hk':qd C (execOp a.eval o) (qsp C):=qsq H.qbD hev hoo.1;have ho':=hk' (w.at d) (z.at d) #[] (hb.at d).rel (λk q _ _=>by rw[show (w.at d).tape=(z.at d).tape from hb.tape.symm]);rw[hr d]at ho';obtain⟨w2,new,h1,h2,h3,h4⟩:=ho';rw[Sem.runT_eq]at h1;have h5:(execOp a.eval o).run C.P (w.at d)=.ok nx w2:=(Prod.mk.inj h1).1;have h6:(execOp a.eval o).events C.P (w.at d) #[]=new:=by have:=(Prod.mk.inj h1).2;simpa using this
 obtain⟨h7,h8⟩:=qny (w:=w.at d) O (hL.at d) (qph (C:=C) h3 b.fn);refine⟨G (b.at (a.put o.dst v) (.inRegion ops rest::k)) cs,w2,seen C.P b.fn new,?_,h7,?_⟩
 . show stepG C.P (h==0) _ (w.at d)=_;rcases hnx with rfl|⟨rfl,rfl⟩
   . rw[stepG_value ho hw hk h5];unfold listed;rw[h6]
   . rw[stepG_none ho hw hk h5];unfold listed;rw[h6]
 . rw[h8 dd]
   have ht2:z2.tape=z.tape:=by
    have:=qme C.P (execOp a.eval o) (z.at d);rw[hr d]at this;exact this.1
   have hb2:Both C w2 (z2.at d):=⟨h2,by rw[h3.tape];exact ht2.trans hb.tape⟩
   have hv:Ok C.A C.F v:=by
    rcases hnx with rfl|⟨rfl,rfl⟩
    . exact h4
    . exact .undef
   exact(next w2 d hb2 (Held.trans (show Held C w (w.at d)from⟨λ_ _=>rfl,Nat.le_refl _,rfl,rfl,rfl,.of rfl⟩) h3.held) hv (λi s hi hn hT=>(h7.fact i s hi hn hT).1)).lead
end
theorem qia{gr:Grd}{M:Mks gr.base}(OO:zL (gr.base.pen M)){Post:Value->World->Prop}{Sh:Nat->Prop}{Fz:Loc->Prop}{T:Nat->qA}{n h:Nat}{w z z2:World}{b:Frame}{a:Act}{k:List Item}{cs:List Frame}{ops:Array Oper}{i:Nat}{rest:List Nat}{o:Oper}
   (zF:qcl prog Fs Gs SN (.region 0 #[o] false)=true) (ht:∀v,v∈a.tmps->Ok gr.A gr.F v) (hb:Both (gr.base.pen M) w z) (O:Outside (gr.base.pen M) Sh Fz T n h) (hL:jv T n h w) {nx:Next} (v:Value) (hnx:nx=.value v∨(nx=.skip/\v=undef))
   (ho:ops[i]?=some o) (hw:Region.wanted o (yielded ops a.tmps)=true) (hk:b.kind≠.early) (hr:∀d,(execOp a.eval o).run prog (z.at d)=.ok nx (z2.at d))
   (next:∀w' d,Both (gr.base.pen M) w' (z2.at d)->Held (gr.base.pen M) w w'->(∀u,u∈(a.put o.dst v).tmps->Ok gr.A gr.F u)->jv T n h w'->qc prog Post Sh Fz T n h 0 (G (b.at (a.put o.dst v) (.inRegion ops rest::k)) cs) w') :
   qc prog Post Sh Fz T n h 0 (G (b.at a (.inRegion ops (i::rest)::k)) cs) w:=by
 have hco:=OO.code zF 0;rw[OO.x]at hco;refine qqT (C:=gr.base.pen M) OO.xM (hco o (by simp)) ht hb O hL v hnx ho hw hk hr (λw' d h1 h2 h3 h4=>next w' d h1 h2 (λu hu=>?_) h4);cases hd:o.dst with
 |none=>rw[hd]at hu;exact ht u hu
 |some t=>
  rw[hd]at hu;have hu':u∈a.tmps.setIfInBounds t v:=hu;rcases Array.mem_or_eq_of_mem_setIfInBounds hu' with h5|h5
  . exact ht u h5
  . rw[h5];exact h3
def qjC(b:Bool)(k:Nat)(o:Obj):Obj:=match b,o with
 |true,.cells c e _=>.cells (c.extract 0 k) e (0,0)
 |_,o=>o
def vD(Pt:Nat->Bool)(κ:Nat->Nat)(w:World):World:={w with heap:=w.heap.mapIdx (λi o=>qjC (Pt i) (κ i) o)}
section
variable {Pt:Nat->Bool}{κ:Nat->Nat}{w:World}
theorem zS:(vD Pt κ w).heap.size=w.heap.size:=by simp[vD]
theorem q5h(r:Nat):(vD Pt κ w).heap[r]?=(w.heap[r]?).map (qjC (Pt r) (κ r)):=by simp[vD]
theorem qj1{r:Nat}(h:Pt r=false):(vD Pt κ w).heap[r]?=w.heap[r]?:=by
 rw[q5h,h];cases w.heap[r]?<;>rfl
theorem q5i{r:Nat}(h:Pt r=true){c:Array Value}{e:TypeId}{fr:Nat×Nat}(hw:w.heap[r]?=some (.cells c e fr)):(vD Pt κ w).heap[r]?=some (.cells (c.extract 0 (κ r)) e):=by
 rw[q5h,h,hw];rfl
theorem qwm{c:Array Value}{k i:Nat}{v:Value}(h:(c.extract 0 k)[i]?=some v):i<k/\c[i]?=some v:=by
 have hlt:=(Array.getElem?_eq_some_iff.1 h).1;simp only[Array.size_extract]at hlt;rw[Array.getElem?_extract]at h;rw[if_pos hlt,Nat.zero_add]at h;exact⟨by omega,h⟩
theorem qwn{c:Array Value}{k i:Nat}{v:Value}(hi:i<k)(h:c[i]?=some v):(c.extract 0 k)[i]?=some v:=by
 have hlt:=(Array.getElem?_eq_some_iff.1 h).1;rw[Array.getElem?_extract];simp only[Nat.zero_add];rw[if_pos (by omega)];exact h
theorem qjD{C:Pen}(hN:C.N<=w.heap.size)(hPt:∀r,C.Pt r↔Pt r=true)
   (qgI:∀r,Pt r=true->∃c e fr,w.heap[r]?=some (.cells c e fr)/\(C.Z r->κ r=0)/\(∀i v,i<κ r->c[i]?=some v->C.A ⟨r,i,none⟩->Ok C.A C.F v/\¬(fr.1<=i/\i<fr.2))/\(fr=(0,0)∨(r=C.G/\0<c.size))/\(r=C.G->κ r<=C.K))
   (qqU:∀r o,C.B r->Pt r=false->w.heap[r]?=some o->qgQ C r o) (hch:∀r,¬C.Ch r):Both C w (vD Pt κ w):=by
 refine⟨⟨zS.symm,rfl,hN,λr hp=>?_,λr _ hp=>(qj1 ?_).symm,λr o hB hp ho=>?_,λr hc=>absurd hc (hch r),rfl⟩,rfl⟩
 . have hp':=(hPt r).1 hp;obtain⟨c,e,fr,h1,h2,h3,h4,h5⟩:=qgI r hp';refine⟨c.extract 0 (κ r),c,e,fr,q5i hp' h1,h1,by simp only[Array.size_extract];omega,λhz=>by rw[h2 hz];simp,λi v hv=>?_,h4,λhG=>?_⟩
   . obtain⟨k1,k2⟩:=qwm hv;exact⟨k2,h3 i v k1 k2⟩
   . have:=h5 hG;simp only[Array.size_extract];omega
 . cases hr:Pt r with
   |false=>rfl
   |true=>exact absurd ((hPt r).2 hr) hp
 . have hf:Pt r=false:=by
    cases hr:Pt r with
    |false=>rfl
    |true=>exact absurd ((hPt r).2 hr) hp
   rw[qj1 hf]at ho;exact qqU r o hB hf ho
end
def Moves(A:Addr->Prop)(x y:World):Prop:=∀g o q,A ⟨g,o,none⟩->x.cell? ⟨g,o,none⟩=some (.int .i64 q)->y.heap[g]?=x.heap[g]?
section
variable {A:Addr->Prop}{F:FuncId->Prop}{x y:World}{v:Value}
theorem q4n{l:List Int}(hm:Moves A x y)(hv:Ok A F v)(h:RI x v l):RI y v l:=by
 obtain⟨h0,B,c,rfl,h2,h3,h4,h5⟩:=h;refine⟨h0,B,c,rfl,h2,h3,h4,?_⟩;rcases h5 with h5|⟨g,o,cur,rfl,hb,hc⟩
 . exact .inl h5
 . cases l with
   |nil=>exact .inl rfl
   |cons q l=>
    refine .inr ⟨g,o,cur,rfl,?_,hc⟩;have hq:x.cell? ⟨g,o,none⟩=some (.int .i64 q):=(hb.cell o).trans (hc 0 _ (by simp));exact(hm g o q hv.of_slice hq).trans hb
theorem qqV{qa:List Node}(hm:Moves A x y)(up:∀g o j,A ⟨g,o,none⟩->A ⟨g,o+j,none⟩)(hok:∀a u,A a->x.cell? a=some u->Ok A F u)(hv:Ok A F v)(h:RN x v qa):RN y v qa:=by
 obtain⟨xs,⟨h0,B,c,rfl,h2,h3,h4,h5⟩,hn⟩:=h;rcases h5 with h5|⟨g,o,cur,rfl,hb,hc⟩
 . refine⟨xs,⟨h0,B,c,rfl,h2,h3,h4,.inl h5⟩,λi nd hi=>?_⟩;have:=(List.getElem?_eq_some_iff.1 hi).1;omega
 . cases qa with
   |nil=>exact⟨xs,⟨h0,_,c,rfl,h2,h3,h4,.inl rfl⟩,λi nd hi=>by simp at hi⟩
   |cons nd0 qa=>
    have hA:=hv.of_slice;obtain⟨f0,r0,k0,-⟩:=hn 0 nd0 rfl;have hq:x.cell? ⟨g,o,none⟩=some (.int .i64 nd0.kind):=(hb.cell o).trans (hc 0 _ (by simpa using k0));refine⟨xs,⟨h0,_,c,rfl,h2,h3,h4,.inr ⟨g,o,cur,rfl,(hm g o _ hA hq).trans hb,hc⟩⟩,λi nd hi=>?_⟩;obtain⟨f,r,k1,k2,k3,k4,k5⟩:=hn i nd hi;have o2:Ok A F f:=hok ⟨g,o+(i*3+1),none⟩ f (up g o _ hA) ((hb.cell _).trans (hc _ _ k2));have o3:Ok A F r:=hok ⟨g,o+(i*3+2),none⟩ r (up g o _ hA) ((hb.cell _).trans (hc _ _ k3));exact⟨f,r,k1,k2,k3,q4n hm o2 k4,q4n hm o3 k5⟩
end
noncomputable def gE:Nat:=0
noncomputable def gH:Nat:=Tryz.prog.globals.size
structure Start(W:World)(ea:Addr):Prop where
 g:Blk W gE 119 #[.iface 244 (.pointer (some ea))]
 h:∃c e,W.heap[gH]?=some (.cells c e (0,0))/\∀(i:Nat) (b:Int),c[i]?≠some (.int .u8 b)
 e:∃c t,W.heap[ea.block]?=some (.cells c t (0,0))
 ne:ea.block≠gE
 gh:gE≠gH
structure qC(W:World)(v:Value)(n g o c:Nat)(cs:Array Value)(e:TypeId)(fr:Nat×Nat):Prop where
 v:∃A,v=.slice A n c/\(∀a,A=some a->a=⟨g,o,none⟩)/\(A=none->c=0)
 le:n<=c
 b:W.heap[g]?=some (.cells cs e fr)
 at_:∀j,j<c->∃b:Int,0<=b/\b<=255/\cs[o+j]?=some (.int .u8 b)/\¬(fr.1<=o+j/\o+j<fr.2)
def A1(N0 g o:Nat)(a:Addr):Prop:=N0<=a.block∨a.block=gE∨a.block=gH∨(a.block=g/\o<=a.off)
noncomputable def gr1(N0 g o c:Nat):Grd where
 A:=A1 N0 g o
 F:=λf=>Fs f=true
 N0:=N0
 fresh:=λ_ h=>.inl h
 up:=λa b h e l=>by
  rcases h with h|h|h|⟨h,k⟩
  . exact .inl (by rw[e];exact h)
  . exact .inr (.inl (e.trans h))
  . exact .inr (.inr (.inl (e.trans h)))
  . exact .inr (.inr (.inr ⟨e.trans h,Nat.le_trans k l⟩))
 G:=g
 K:=o+c
 X:=λ_ _=>False
def A2(N0 g:Nat)(ea a:Addr):Prop:=N0<=a.block∨a.block=gE∨a.block=gH∨a.block=g∨a.block=ea.block
noncomputable def gr2(N0 g:Nat)(ea:Addr):Grd where
 A:=A2 N0 g ea
 F:=λf=>Fs f=true
 N0:=N0
 fresh:=λ_ h=>.inl h
 up:=λa b h e _=>by unfold A2 at *;rw[e];exact h
 G:=g
 K:=0
 X:=λ_ _=>False
section
variable {N0 g o c:Nat}{ea:Addr}
theorem qgJ(M:Mks (gr1 N0 g o c).base):zL ((gr1 N0 g o c).base.pen M):=⟨rfl,λ_=>Iff.rfl,λ_ _ h=>h,.inr (.inr (.inl rfl)),.inr (.inl rfl)⟩
theorem q4o(M:Mks (gr2 N0 g ea).base):zL ((gr2 N0 g ea).base.pen M):=⟨rfl,λ_=>Iff.rfl,λ_ _ h=>h,.inr (.inr (.inl rfl)),.inr (.inl rfl)⟩
theorem A1.to2{a:Addr}(h:A1 N0 g o a):A2 N0 g ea a:=by
 rcases h with h|h|h|⟨h,_⟩
 . exact .inl h
 . exact .inr (.inl h)
 . exact .inr (.inr (.inl h))
 . exact .inr (.inr (.inr (.inl h)))
theorem Ok.to2{F:FuncId->Prop}{v:Value}(h:Ok (A1 N0 g o) F v):Ok (A2 N0 g ea) F v:=h.mono (λ_=>A1.to2) (λ_ h=>h)
end
noncomputable def pt1(N0 g:Nat)(cs:Array Value)(r:Nat):Bool:=decide (r<N0/\(r=gE∨r=gH∨(r=g/\cs.size≠0)))
noncomputable def κ1(o c r:Nat):Nat:=if r=gE∨r=gH then 0 else o+c
noncomputable def mk1(N0 g o c:Nat)(cs:Array Value):Mks (gr1 N0 g o c).base where
 N:=N0
 ge:=Nat.le_refl _
 Pt:=λr=>pt1 N0 g cs r=true
 Z:=λr=>r<N0/\(r=gE∨r=gH)
 Ch:=λ_=>False
 old:=λr h=>by
  rcases h with h|h
  . exact(of_decide_eq_true h).1
  . exact h.elim
 zp:=λr h=>decide_eq_true ⟨h.1,h.2.elim .inl (λk=>.inr (.inl k))⟩
noncomputable def pt2(N0 g:Nat)(cs:Array Value)(ea:Addr)(r:Nat):Bool:=decide (r<N0/\r≠gE/\(r=gH∨(r=g/\cs.size≠0)∨r=ea.block))
noncomputable def mk2(N0 g:Nat)(cs:Array Value)(ea:Addr):Mks (gr2 N0 g ea).base where
 N:=N0
 ge:=Nat.le_refl _
 Pt:=λr=>pt2 N0 g cs ea r=true
 Z:=λr=>pt2 N0 g cs ea r=true
 Ch:=λ_=>False
 old:=λr h=>by
  rcases h with h|h
  . exact(of_decide_eq_true h).1
  . exact h.elim
 zp:=λr h=>h
section
variable {W:World}{ea:Addr}{v:Value}{n g o c:Nat}{cs:Array Value}{e:TypeId}{fr:Nat×Nat}
theorem qqs{W:World}{r:Nat}{ob:Obj}(h:W.heap[r]?=some ob):r<W.heap.size:=(Array.getElem?_eq_some_iff.1 h).1
theorem qC.ok(H:qC W v n g o c cs e fr):Ok (A1 W.heap.size g o) (λf=>Fs f=true) v:=by
 obtain⟨A,rfl,h1,h2⟩:=H.v;exact .slice _ _ (λa ha=>by rw[h1 a ha];exact .inr (.inr (.inr ⟨rfl,Nat.le_refl _⟩)))
theorem qC.apart(H:qC W v n g o c cs e fr)(S:Start W ea)(hc:0<c):g≠gE/\g≠gH:=by
 obtain⟨b,_,_,h1,_⟩:=H.at_ 0 hc;refine⟨λhg=>?_,λhg=>?_⟩
 . have h2:=S.g;unfold Blk at h2;have h3:=H.b;rw[hg,h2]at h3;cases h3;rcases Nat.eq_zero_or_pos o with rfl|ho
   . simp at h1
   . rw[Array.getElem?_eq_none (by simp;omega)]at h1;cases h1
 . obtain⟨c',e',h2,h4⟩:=S.h;have h3:=H.b;rw[hg,h2]at h3;cases h3;exact h4 _ _ h1
theorem qqW(S:Start W ea)(H:qC W v n g o c cs e fr):Both ((gr1 W.heap.size g o c).base.pen (mk1 W.heap.size g o c cs)) W (vD (pt1 W.heap.size g cs) (κ1 o c) W):=by
 refine qjD (Nat.le_refl _) (λ_=>Iff.rfl) (λr hr=>?_) (λr ob hB hr ho=>?_) (λ_ h=>h)
 . obtain⟨hlt,hr⟩:=of_decide_eq_true hr;by_cases h0:r=gE∨r=gH
   . have hk:κ1 o c r=0:=by unfold κ1;rw[if_pos h0]
     have hc:∃c' e',W.heap[r]?=some (.cells c' e' (0,0)):=by
      rcases h0 with rfl|rfl
      . exact⟨_,_,S.g⟩
      . obtain⟨c',e',h2,_⟩:=S.h;exact⟨c',e',h2⟩
     obtain⟨c',e',h2⟩:=hc;exact⟨c',e',(0,0),h2,λ_=>hk,λi v hi=>by omega,.inl rfl,λ_=>by rw[hk];exact Nat.zero_le _⟩
   . obtain⟨rfl,hs⟩:r=g/\cs.size≠0:=by
      rcases hr with h|h|h
      . exact absurd (.inl h) h0
      . exact absurd (.inr h) h0
      . exact h
     have hk:κ1 o c r=o+c:=by unfold κ1;rw[if_neg h0]
     refine⟨cs,e,fr,H.b,λhz=>absurd hz.2 h0,λi v hi hv hA=>?_,.inr ⟨rfl,by omega⟩,λ_=>by rw[hk];exact Nat.le_refl _⟩;rcases hA with hA|hA|hA|⟨_,hA⟩
     . have:W.heap.size<=r:=hA;omega
     . exact absurd (.inl hA) h0
     . exact absurd (.inr hA) h0
     . have hA':o<=i:=hA;obtain⟨b,_,_,h1,h2⟩:=H.at_ (i-o) (by omega);rw[show o+(i-o)=i by omega]at h1 h2;rw[h1]at hv;cases hv;exact⟨.int _ _,h2⟩
 . have hlt:=qqs ho;have hn:¬(r<W.heap.size/\(r=gE∨r=gH∨(r=g/\cs.size≠0))):=of_decide_eq_false hr;obtain⟨a,hA,rfl⟩:=hB;rcases hA with hA|hA|hA|⟨hA,_⟩
   . omega
   . exact absurd ⟨hlt,.inl hA⟩ hn
   . exact absurd ⟨hlt,.inr (.inl hA)⟩ hn
   . have hs:cs.size=0:=by
      rcases Nat.eq_zero_or_pos cs.size with h|h
      . exact h
      . exact absurd ⟨hlt,.inr (.inr ⟨hA,by omega⟩)⟩ hn
     rw[hA,H.b]at ho;cases ho;obtain rfl:=Array.eq_empty_of_size_eq_zero hs;exact .inr ⟨hA,e,fr,rfl⟩
theorem qqX(S:Start W ea)(H:qC W v n g o c cs e fr):Bytes (vD (pt1 W.heap.size g cs) (κ1 o c) W) W.heap.size v n:=by
 obtain⟨A,rfl,h1,h2⟩:=H.v;refine⟨A,c,rfl,H.le,λhn=>?_⟩;have hc:0<c:=Nat.lt_of_lt_of_le hn H.le;obtain⟨g1,g2⟩:=H.apart S hc;cases A with
 |none=>have:=h2 rfl;omega
 |some a=>
  obtain rfl:=h1 a rfl;refine⟨_,rfl,qqs H.b,λj hj=>?_⟩;obtain⟨b,k1,k2,k3,_⟩:=H.at_ j (Nat.lt_of_lt_of_le hj H.le);refine⟨b,k1,k2,?_⟩;have hs:cs.size≠0:=by have:=(Array.getElem?_eq_some_iff.1 k3).1;omega
  have hp:pt1 W.heap.size g cs g=true:=decide_eq_true ⟨qqs H.b,.inr (.inr ⟨rfl,hs⟩)⟩;have hk:κ1 o c g=o+c:=by unfold κ1;rw[if_neg (by rintro(h|h);exact g1 h;exact g2 h)]
  have hb:=q5i (κ:=κ1 o c) hp H.b;rw[hk]at hb;show World.cell? _ (Addr.add ⟨g,o,none⟩ j)=_;have e1:(⟨g,o,none⟩:Addr).add j=⟨g,o+j,none⟩:=by unfold Addr.add;split<;>simp_all
  rw[e1,cell_of_row _ g (o+j) _ _ _ hb];have hle:=H.le;exact qwn (by omega) k3
theorem qjE(H:qC W v n g o c cs e fr){w1 z1:World}(hb:Both ((gr1 W.heap.size g o c).base.pen (mk1 W.heap.size g o c cs)) w1 z1)(hh:Held ((gr1 W.heap.size g o c).base.pen (mk1 W.heap.size g o c cs)) W w1)
   (hz:∀r,r<W.heap.size->z1.heap[r]?=(vD (pt1 W.heap.size g cs) (κ1 o c) W).heap[r]?):∀r,r<W.heap.size->w1.heap[r]?=W.heap[r]?:=by
 intro r hr;by_cases h0:r=gE∨r=gH
 . exact hh.block r (.inr (.inl ⟨hr,h0⟩))
 by_cases hg:r=g
 . subst hg;by_cases hs:cs.size=0
   . have hf:pt1 W.heap.size r cs r=false:=decide_eq_false (by rintro⟨_,h|h|h⟩;exact h0 (.inl h);exact h0 (.inr h);exact h.2 hs);have hB:((gr1 W.heap.size r o c).base.pen (mk1 W.heap.size r o c cs)).B r:=⟨⟨r,o,none⟩,.inr (.inr (.inr ⟨rfl,Nat.le_refl _⟩)),rfl⟩;rw[hb.rel.same r hB (by show ¬(pt1 W.heap.size r cs r=true);rw[hf];simp),hz r hr,qj1 hf]
   . have hp:pt1 W.heap.size r cs r=true:=decide_eq_true ⟨hr,.inr (.inr ⟨rfl,hs⟩)⟩;have hk:κ1 o c r=o+c:=by unfold κ1;rw[if_neg h0]
     obtain⟨c',h1,h2,h3⟩:=hh.tail hp cs e fr H.b;obtain⟨d',d,e2,fr2,k1,k2,_,_,k5,_⟩:=hb.rel.part r hp;rw[hz r hr,q5i hp H.b,hk]at k1;cases k1;rw[show ((gr1 W.heap.size r o c).base.pen (mk1 W.heap.size r o c cs)).G=r from rfl]at h1;rw[h1]at k2;cases k2;rw[h1,H.b];congr 2;apply Array.ext_getElem?;intro i;by_cases hi:o+c<=i
     . exact h3 i hi
     . by_cases hi2:i<cs.size
       . have hx:(cs.extract 0 (o+c))[i]?=some cs[i]:=qwn (by omega) (Array.getElem?_eq_getElem hi2);rw[(k5 i _ hx).1,Array.getElem?_eq_getElem hi2]
       . rw[Array.getElem?_eq_none (by omega),Array.getElem?_eq_none (by omega)]
 . refine hh.block r (.inl ?_);rintro⟨a,hA,rfl⟩;rcases hA with hA|hA|hA|⟨hA,_⟩
   . omega
   . exact h0 (.inl hA)
   . exact h0 (.inr hA)
   . exact hg hA
theorem qqY(S:Start W ea)(H:qC W v n g o c cs e fr){w1 z1:World}(hb:Both ((gr1 W.heap.size g o c).base.pen (mk1 W.heap.size g o c cs)) w1 z1)(hs:W.heap.size<=w1.heap.size)(hold:∀r,r<W.heap.size->w1.heap[r]?=W.heap[r]?) :
   Both ((gr2 W.heap.size g ea).base.pen (mk2 W.heap.size g cs ea)) w1 (vD (pt2 W.heap.size g cs ea) (λ_=>0) w1):=by
 refine qjD hs (λ_=>Iff.rfl) (λr hr=>?_) (λr ob hB hr ho=>?_) (λ_ h=>h)
 . obtain⟨hlt,h0,hr⟩:=of_decide_eq_true hr
   have key:∃c' e' fr',w1.heap[r]?=some (.cells c' e' fr')/\(fr'=(0,0)∨(r=g/\0<c'.size)):=by
    rw[hold r hlt];rcases hr with rfl|⟨rfl,hc⟩|rfl
    . obtain⟨c',e',h2,_⟩:=S.h;exact⟨c',e',_,h2,.inl rfl⟩
    . exact⟨_,_,_,H.b,.inr ⟨rfl,by omega⟩⟩
    . obtain⟨c',e',h2⟩:=S.e;exact⟨c',e',_,h2,.inl rfl⟩
   obtain⟨c',e',fr',h1,h2⟩:=key;exact⟨c',e',fr',h1,λ_=>rfl,λi v hi=>absurd hi (Nat.not_lt_zero _),h2,λ_=>Nat.zero_le _⟩
 . have hn:¬(r<W.heap.size/\r≠gE/\(r=gH∨(r=g/\cs.size≠0)∨r=ea.block)):=of_decide_eq_false hr;rcases Nat.lt_or_ge r W.heap.size with hlt|hge
   . by_cases h0:r=gE
     . subst h0;rw[hold _ hlt,show W.heap[gE]?=_ from S.g]at ho;cases ho;refine .inl ⟨rfl,λu hu=>?_⟩;have hu':u=.iface 244 (.pointer (some ea)):=by simpa using hu
       subst hu';exact .iface _ (.ptr (.inr (.inr (.inr (.inr rfl)))))
     . obtain⟨a,hA,rfl⟩:=hB;rcases hA with hA|hA|hA|hA|hA
       . exact absurd hA (by show ¬(W.heap.size<=a.block);omega)
       . exact absurd hA h0
       . exact absurd ⟨hlt,h0,.inl hA⟩ hn
       . have hs0:cs.size=0:=by
          rcases Nat.eq_zero_or_pos cs.size with h|h
          . exact h
          . exact absurd ⟨hlt,h0,.inr (.inl ⟨hA,by omega⟩)⟩ hn
         rw[hold _ hlt,hA,H.b]at ho;cases ho;obtain rfl:=Array.eq_empty_of_size_eq_zero hs0;exact .inr ⟨hA,e,fr,rfl⟩
       . exact absurd ⟨hlt,h0,.inr (.inr hA)⟩ hn
   . have hB1:((gr1 W.heap.size g o c).base.pen (mk1 W.heap.size g o c cs)).B r:=⟨⟨r,0,none⟩,.inl hge,rfl⟩;have hp1:¬(pt1 W.heap.size g cs r=true):=λk=>by have:=(of_decide_eq_true k).1;omega
     have h2:=hb.rel.cln r ob hB1 hp1 (by rw[<-hb.rel.same r hB1 hp1];exact ho);rcases h2 with h2|⟨hG,h2⟩
     . left;cases ob with
       |cells c e fr=>exact⟨h2.1,λv hv=>(h2.2 v hv).to2⟩
       |map es k=>exact λe he=>⟨(h2 e he).1.to2,(h2 e he).2.to2⟩
       |mapIter m _ _ _=>exact λx hx=>(h2 x hx).to2
       |number a _=>obtain⟨b,k1,k2⟩:=h2;exact⟨b,k1.to2,k2⟩
       |stringIter _ _=>trivial
       |chan _ _ _ _ _ _=>trivial
       |_=>exact h2.elim
     . exact .inr ⟨hG,h2⟩
theorem qqZ(S:Start W ea){w1:World}(hold:∀r,r<W.heap.size->w1.heap[r]?=W.heap[r]?):qm (vD (pt2 W.heap.size g cs ea) (λ_=>0) w1) ea:=by
 have h1:(vD (pt2 W.heap.size g cs ea) (λ_=>0) w1).heap[gE]?=some (.cells #[.iface 244 (.pointer (some ea))] 119 (0,0)):=by
  rw[qj1 (decide_eq_false (λh=>h.2.1 rfl)),hold _ (qqs S.g)];exact S.g
 show World.cell? _ ⟨gE,0,none⟩=_;rw[cell_of_row _ gE 0 _ _ _ h1];rfl
theorem qrA(H:qC W v n g o c cs e fr){w1 z1:World}(hb:Both ((gr1 W.heap.size g o c).base.pen (mk1 W.heap.size g o c cs)) w1 z1)
   (hz:∀r,r<W.heap.size->z1.heap[r]?=(vD (pt1 W.heap.size g cs) (κ1 o c) W).heap[r]?):Moves (A1 W.heap.size g o) z1 (vD (pt2 W.heap.size g cs ea) (λ_=>0) w1):=by
 intro r j q hA hq;have qrB:=ordinary hb hq;rcases Nat.lt_or_ge r W.heap.size with hlt|hge
 . exfalso;have h0:¬(r=gE∨r=gH):=λh=>qrB.1 ⟨hlt,h⟩;rcases hA with hA|hA|hA|⟨hA,hj⟩
   . have:W.heap.size<=r:=hA;omega
   . exact h0 (.inl hA)
   . exact h0 (.inr hA)
   . have hA':r=g:=hA;have hj':o<=j:=hj;subst hA';by_cases hs:cs.size=0
     . have hf:pt1 W.heap.size r cs r=false:=decide_eq_false (by rintro⟨_,h|h|h⟩;exact h0 (.inl h);exact h0 (.inr h);exact h.2 hs);have h1:z1.heap[r]?=some (.cells cs e fr):=by rw[hz r hlt,qj1 hf];exact H.b
       rw[cell_of_row _ r j _ _ _ h1]at hq;have:=(Array.getElem?_eq_some_iff.1 hq).1;omega
     . have hp:pt1 W.heap.size r cs r=true:=decide_eq_true ⟨hlt,.inr (.inr ⟨rfl,hs⟩)⟩;have hk:κ1 o c r=o+c:=by unfold κ1;rw[if_neg h0]
       have h1:z1.heap[r]?=some (.cells (cs.extract 0 (o+c)) e (0,0)):=by rw[hz r hlt,q5i hp H.b,hk]
       rw[cell_of_row _ r j _ _ _ h1]at hq;obtain⟨k1,k2⟩:=qwm hq;obtain⟨b,_,_,k3,_⟩:=H.at_ (j-o) (by omega);rw[show o+(j-o)=j by omega,k2]at k3;cases k3
 . have hB1:((gr1 W.heap.size g o c).base.pen (mk1 W.heap.size g o c cs)).B r:=⟨⟨r,0,none⟩,.inl hge,rfl⟩;have hp1:¬(pt1 W.heap.size g cs r=true):=λk=>by have:=(of_decide_eq_true k).1;omega
   rw[qj1 (decide_eq_false (λh=>by omega)),hb.rel.same r hB1 hp1]
end
structure Old(W:World)(ea:Addr)(g:Nat)(cs:Array Value)(M:Mks (gr2 W.heap.size g ea).base)(w z:World):Prop where
 size:W.heap.size<=w.heap.size
 old:∀r,r<W.heap.size->w.heap[r]?=W.heap[r]?
 os:w.os=W.os
 output:w.output=W.output
 tape:w.tape=W.tape
 kn:∀r,r<W.heap.size->((gr2 W.heap.size g ea).base.pen M).B r->pt2 W.heap.size g cs ea r=false->z.heap[r]?=W.heap[r]?
 le:(mk2 W.heap.size g cs ea).Le M
def qv(W:World)(v:Value)(w:World):Prop:=v=.bool true/\W.heap.size<=w.heap.size/\(∀r,r<W.heap.size->w.heap[r]?=W.heap[r]?)/\w.os=W.os/\w.output=W.output/\w.tape=W.tape
section
variable {W:World}{ea:Addr}{v:Value}{n g o c:Nat}{cs:Array Value}{e:TypeId}{fr:Nat×Nat}
theorem Old.step{M M':Mks (gr2 W.heap.size g ea).base}{w z w' z':World}(h:Old W ea g cs M w z)(hb':Both ((gr2 W.heap.size g ea).base.pen M') w' z')(hle:M.Le M')(hh:qn ((gr2 W.heap.size g ea).base.pen M) (λr=>w.heap.size<=r) w w')(hz:z.heap.size=w.heap.size)(hg:HG z z') :
   Old W ea g cs M' w' z':=by
 have hkn:∀r,r<W.heap.size->((gr2 W.heap.size g ea).base.pen M).B r->pt2 W.heap.size g cs ea r=false->z'.heap[r]?=W.heap[r]?:=λr hr hB hp=>by
  rw[hg.block r (by rw[hz];exact Nat.lt_of_lt_of_le hr h.size)];exact h.kn r hr hB hp
 refine⟨Nat.le_trans h.size hh.size,λr hr=>?_,hh.os.trans h.os,hh.output.trans h.output,hh.tape.trans h.tape,hkn,h.le.trans hle⟩;have hX:¬w.heap.size<=r:=by have:=h.size;omega
 by_cases hB:((gr2 W.heap.size g ea).base.pen M).B r
 . cases hp:pt2 W.heap.size g cs ea r with
   |true=>
    rw[hh.block r hX (.inr (.inl (h.le.z r hp)))];exact h.old r hr
   |false=>
    have hn:¬M'.Pt r:=λk=>by
     rcases (h.le.trans hle).nw r k with k|k
     . have:pt2 W.heap.size g cs ea r=true:=k;rw[hp]at this;cases this
     . have:W.heap.size<=r:=k;omega
    rw[hb'.rel.same r hB hn];exact hkn r hr hB hp
 . rw[hh.block r hX (.inl hB)];exact h.old r hr
theorem Old.fin{M:Mks (gr2 W.heap.size g ea).base}{w z:World}(h:Old W ea g cs M w z)(d:Nat):qv W (.bool true) (w.at d):=⟨rfl,h.size,h.old,h.os,h.output,h.tape⟩
structure First(W:World)(g o c:Nat)(cs:Array Value)(w z:World):Prop where
 both:Both ((gr1 W.heap.size g o c).base.pen (mk1 W.heap.size g o c cs)) w z
 held:Held ((gr1 W.heap.size g o c).base.pen (mk1 W.heap.size g o c cs)) W w
 hg:HG (vD (pt1 W.heap.size g cs) (κ1 o c) W) z
theorem q4q(S:Start W ea)(H:qC W v n g o c cs e fr):First W g o c cs W (vD (pt1 W.heap.size g cs) (κ1 o c) W):=⟨qqW S H,Held.refl _ _,HG.refl _⟩
theorem First.step{w z w' z':World}(F:First W g o c cs w z)(hb:Both ((gr1 W.heap.size g o c).base.pen (mk1 W.heap.size g o c cs)) w' z')(hh:Held ((gr1 W.heap.size g o c).base.pen (mk1 W.heap.size g o c cs)) w w')(hg:HG z z'):First W g o c cs w' z':=
 ⟨hb,F.held.trans hh,F.hg.trans hg⟩
theorem First.bytes{w z:World}(F:First W g o c cs w z)(S:Start W ea)(H:qC W v n g o c cs e fr):Bytes z W.heap.size v n:=by
 have hB:=qqX S H;have k:=F.hg.gb;have e:Bytes {vD (pt1 W.heap.size g cs) (κ1 o c) W with heap:=z.heap} W.heap.size v n=Bytes z W.heap.size v n:=rfl;rw[<-e];exact hB.kept k (by rw[zS];exact Nat.le_refl _) (λg h=>by cases h)
theorem First.size{w z:World}(F:First W g o c cs w z):W.heap.size<=z.heap.size:=by
 have:=F.hg.size;rw[zS]at this;exact this
theorem First.fin{w z:World}(F:First W g o c cs w z)(H:qC W v n g o c cs e fr)(d:Nat):qv W (.bool true) (w.at d):=
 have k:=qjE H F.both F.held (λr hr=>F.hg.block r (by rw[zS];exact hr))
 ⟨rfl,F.held.size,k,F.held.os,F.held.output,F.held.tape⟩
theorem First.switch{w1 z1:World}(F:First W g o c cs w1 z1)(S:Start W ea)(H:qC W v n g o c cs e fr):∃z2,Both ((gr2 W.heap.size g ea).base.pen (mk2 W.heap.size g cs ea)) w1 z2/\Old W ea g cs (mk2 W.heap.size g cs ea) w1 z2/\qm z2 ea /\
   (∀u l,Ok (gr1 W.heap.size g o c).A (gr1 W.heap.size g o c).F u->RI z1 u l->RI z2 u l)/\(∀u l,Ok (gr1 W.heap.size g o c).A (gr1 W.heap.size g o c).F u->RN z1 u l->RN z2 u l):=by
 have hz:∀r,r<W.heap.size->z1.heap[r]?=(vD (pt1 W.heap.size g cs) (κ1 o c) W).heap[r]?:=λr hr=>F.hg.block r (by rw[zS];exact hr);have hold:=qjE H F.both F.held hz;have hb2:=qqY S H F.both F.held.size hold;have hm:=qrA (ea:=ea) H F.both hz;have hE:=qqZ (cs:=cs) (g:=g) S hold;have hkn:∀r,r<W.heap.size->pt2 W.heap.size g cs ea r=false->(vD (pt2 W.heap.size g cs ea) (λ_=>0) w1).heap[r]?=W.heap[r]?:=λr hr hp=>(qj1 hp).trans (hold r hr);refine⟨_,hb2,⟨F.held.size,hold,F.held.os,F.held.output,F.held.tape,λr hr _ hp=>hkn r hr hp,Mks.Le.refl _⟩,hE,λu l hu h=>q4n hm hu h,λu l hu h=>qqV hm (λr j i hA=>?_) (λa u hA hu=>(F.both.cell hA hu).2) hu h⟩;exact(gr1 W.heap.size g o c).up ⟨r,j,none⟩ ⟨r,j+i,none⟩ hA rfl (Nat.le_add_right _ _)
end
end
end Go.Proofs.YtacemdoejblgaaaGreatDoor

/- Part M19. Conditions: each statement's. -/
import Derived.Test.YtacemdoejblgaaaGreatDoorM18
import Derived.Lib.AppendZeros
namespace Go.Proofs.YtacemdoejblgaaaGreatDoor
open List Tryz World Value
set_option maxRecDepth 100000
set_option maxHeartbeats 6400000
section
open Go.RowKit
def q9l(qa:List Node)(c:qj):Prop:=qp qa c∨c=qdk
section
variable {B0 rb cb:Nat}{w wx wy:World}{pv d k o r:Value}{qa:List Node}{c:qj}{q q':Int}
theorem Rdr.ne{w:World}{p:Int}(h:Rdr B0 w rb p){E:TypeId}(hE:E≠92):qh w E (some rb):=by
 obtain⟨bv,hb⟩:=h.blk;exact qh.blk hb hE
end
theorem qv7(B0:Nat)(w:World)(v:Value)(n:Nat)(h:Bytes w B0 v n)(hB:B0<=w.heap.size)(hn:n<=1048576) :
   Calls prog 40 #[v] w (λe w'=>∃rb:Nat,e=.returned (.pointer (some ⟨rb,0,none⟩))/\Rdr B0 w' rb 0/\w.grownBy w' none/\w.heap.size<=rb):=by
 obtain⟨A,c,rfl,hnc,hcells⟩:=h
 have key:∀k:Nat,k<=n->k<=2000->∀A' c',A'=A->k<=c'->∃rb:Nat,Ending.returned (.pointer (some ⟨w.heap.size,0,none⟩))=.returned (.pointer (some ⟨rb,0,none⟩))/\Rdr B0 (w.alloc (.cells #[.slice A' k c',.int .i64 0] 92)) rb 0/\w.grownBy (w.alloc (.cells #[.slice A' k c',.int .i64 0] 92)) none/\w.heap.size<=rb:=by
  intro k hk hk2 A' c' hA hc';subst hA;refine⟨_,rfl,⟨_,k,hk2,Blk.new w _ _,hB,by simp;omega,A',c',rfl,hc',λhk0=>?_⟩,qar (qah w none) _,Nat.le_refl _⟩;obtain⟨ad,hA,hb,hc⟩:=hcells (by omega);refine⟨ad,hA,hb,λj hj=>?_⟩;obtain⟨b,h1,h2,h3⟩:=hc j (by omega);exact⟨b,h1,h2,(cell?_alloc_lt _ _ _ (by rw[block_add];omega)).trans h3⟩
 have Key:=Lib.hid key;clear key;by_cases hlt:(2000:Int)<n
 . go_enter func40,ntmps40;go_wp2;go_ret;exact Key.out 2000 (by omega) (by omega) A c rfl (by omega)
 . go_enter func40,ntmps40;go_wp2;go_ret;exact Key.out n (Nat.le_refl _) (by omega) A c rfl hnc
def qda(l:List Int):Prop:=l.length<=21/\∀x∈l,-9<=x/\x<=8
structure jZ(B0 rb:Nat)(w1 wx:World)(cv:Value)(l:List Int)(q:Int):Prop where
 rd:Rdr B0 wx rb q
 o:qg wx w1.heap.size cv l
 g:w1.grownBy wx (some rb)
section
variable {B0 rb:Nat}{w1 wx wy:World}{cv cv':Value}{l:List Int}{q q':Int}
theorem jZ.read(M:jZ B0 rb w1 wx cv l q)(hg:wx.grownBy wy (some rb))(hr:Rdr B0 wy rb q'):jZ B0 rb w1 wy cv l q':=
 ⟨hr,M.o.grown hg (M.rd.ne (by decide)),qad M.g hg⟩
theorem jZ.push(M:jZ B0 rb w1 wx cv l q){x:Int}(hlt:rb<w1.heap.size)(hB:B0<=w1.heap.size)(hg:wx.grownBy wy cv.ownBlock)(ho:qg wy w1.heap.size cv' (l++[x])):jZ B0 rb w1 wy cv' (l++[x]) q:=
 ⟨M.rd.kept hg (λg e=>⟨Nat.le_trans hB (M.o.lt g e).1,λe2=>by have:=(M.o.lt g e).1;omega⟩),ho,qbd M.g hg (λg e=>.inl (M.o.lt g e).1)⟩
end
def q1s(B0 rb:Nat)(w:World)(_p:Int)(e:Ending)(w':World):Prop:=
 ∃pv cv nw qa l,e=.returned (.tuple #[pv,.int .i64 nw,cv])/\-3<=nw/\nw<=4/\RN w' pv qa/\RI w' cv l/\qe3 qa/\qda l/\∃q,Rdr B0 w' rb q/\w.grownBy w' (some rb)
theorem ql7(B0 rb:Nat)(p:Int)(w:World)(h:Rdr B0 w rb p)(hp0:0<=p)(hp:p<=600000)(hrb:rb<w.heap.size) :
   Calls prog 39 #[.pointer (some ⟨rb,0,none⟩)] w (q1s B0 rb w p):=by
 have hB:B0<=w.heap.size:=by obtain⟨_,_,_,_,_,h4,_⟩:=h;exact h4
 go_enter func39,ntmps39;go_wp2_with fail;refine(q2y B0 rb p w h (by omega) (by omega)).mono ?_;rintro e w1 ⟨pv,qa,rfl,hpl,hsm,q1,hq0,hq1,vY,hg1⟩;obtain⟨An,nn,cn,rfl,-,-,-⟩:=hpl.form';have Hsm:=Lib.hid hsm;have hgA:=grownBy_alloc w1 (.cells #[] 3) none;have M1:jZ B0 rb w1 (w1.alloc (.cells #[] 3)) (.slice (some ⟨w1.heap.size,0,none⟩) 0 0) [] q1:=⟨vY.new hgA,qg.empty w1 (Nat.le_refl _),qye hgA _⟩;have qoL:rb<w1.heap.size:=Nat.lt_of_lt_of_le hrb hg1.size;have hB1:B0<=w1.heap.size:=Nat.le_trans hB hg1.size;have Hg1:=Lib.hid hg1;have hni:qh w1 3 (some rb):=vY.ne (by decide);have hnn:qh w1 81 (some rb):=vY.ne (by decide);go_upto_region 3 with fail;generalize w1.alloc (.cells #[] 3)=w2 at M1 |-;have hcv:∃c0,c0=w1.heap.size:=⟨_,rfl⟩;obtain⟨c0,hc0⟩:=hcv;rw[<-hc0];have Hc0:=Lib.hid hc0;rw[<-hc0]at M1;clear hsm vY hg1 hgA h hc0;go_wp2_with fail;refine(qde B0 rb q1 _ _ M1.rd (by omega) (by omega)).mono ?_;rintro e w3 ⟨r3,rfl,hr3,-,yz,hg3⟩;have M3:=M1.read hg3 yz;have qoM:=hr3 (by omega);clear hr3 M1 yz hg3;go_wp2_with fail;refine(qde B0 rb (q1+1) _ _ M3.rd (by omega) (by omega)).mono ?_;rintro e w4 ⟨r4,rfl,hr4,-,yX,hg4⟩;have M4:=M3.read hg4 yX;clear hr4 M3 yX hg4
 go_upto_if 16 with fail
 go_cut [7] (λn7 wx=>∃m q:Int,n7=.int .i64 m/\0<=m/\m<=21/\q1+2<=q/\q<=q1+3/\jZ B0 rb w1 wx (.slice (some ⟨c0,0,none⟩) 0 0) [] q)
 case first=>
  by_cases h0:r4=0
  . have hq:(r4==0)=true:=by simpa using h0
    clear h0;go_wp2_with fail;refine(qde B0 rb (q1+1+1) _ _ M4.rd (by omega) (by omega)).mono ?_;rintro e w5 ⟨r5,rfl,hr5,-,qdH,hg5⟩;have M5:=M4.read hg5 qdH;have qtS:=hr5 (by omega);have e1:IntKind.i64.wrap (20+r5)=20+r5:=IntWalk.i64_in _ (by omega);clear hr5 M4 qdH hg5;go_wp2_with fail;go_meet;exact⟨_,_,rfl,by omega,by omega,by omega,by omega,M5⟩
  . have hq:(r4==0)=false:=by simpa using h0
    clear h0;go_wp2_with fail;go_meet;exact⟨_,_,rfl,by omega,by omega,by omega,by omega,M4⟩
 case rest=>
  obtain⟨m,q,rfl,hm0,hm1,hq2,hq3,M⟩:=hcut;clear M4 qoM;obtain⟨m,rfl⟩:=Int.eq_ofNat_of_zero_le hm0;clear hm0;go_wp2_with fail
  go_loopg [6,8] (m+1) (λmm v i wr=>∃(k:Nat) (l:List Int) (q:Int),k<=m/\mm=m+1-k/\i=.int .i64 k/\jZ B0 rb w1 wr v l q/\l.length=k/\Hid (∀x∈l,-9<=x/\x<=8)/\0<=q/\q<=q1+3+2*k)
  case atStart=>exact⟨0,[],q,Nat.zero_le _,rfl,rfl,M,rfl,Lib.hid (λx hx=>by simp at hx),by omega,by omega⟩
  case round=>
   clear M;obtain⟨k,l,q,hk,rfl,rfl,M,hl,Hx,hqa,hqb⟩:=hrel;have Hl:=Lib.hid hl;clear hl;obtain⟨Ac,nc,cc,rfl⟩:=M.o.ri.val;by_cases hlt:k<m
   . have hki:(k:Int)<(m:Int):=by omega
     go_wp2_with fail;refine(qde B0 rb q _ _ M.rd (by omega) (by omega)).mono ?_;rintro e wa ⟨ra,rfl,hra,-,qcJ,hga⟩;have Ma:=M.read hga qcJ;have qoN:=hra (by omega);clear hra M qcJ hga;go_wp2_with fail;refine(qde B0 rb (q+1) _ _ Ma.rd (by omega) (by omega)).mono ?_;rintro e wb ⟨rb',rfl,qcK,-,qcL,hgb⟩;have Mb:=Ma.read hgb qcL;have qoO:=qcK (by omega)
     have Hx2:Hid (∀x∈l++[ra-rb'/59*9],-9<=x/\x<=8):=by
      show ∀x∈_,_;intro x hx;rcases mem_append.1 hx with hx|hx
      . exact Hx.out x hx
      . have:x=_:=mem_singleton.1 hx;rw[this];omega
     have hll:l.length<=1000000000:=by have:=Hl.out;omega
     clear qcK Ma qcL hgb;go_wp2_with (at_builtin;go_must (refine qek (.tmp 25) (.tmp 33) rfl rfl Mb.o hll Mb.g.size rfl rfl rfl ?_));intro v5 w5 ho5 hg5;have M5:=Mb.push qoL hB1 hg5 ho5;obtain⟨A5,n5,c5,rfl⟩:=ho5.ri.val;clear Mb hg5 ho5;go_wp2;go_roundg (m+1-(k+1))
     case measure=>omega
     case rel=>exact⟨k+1,_,_,by omega,rfl,by go_num,M5,by rw[length_append,Hl.out];rfl,Hx2,by omega,by omega⟩
   . obtain rfl:m=k:=by omega
     go_wp2_with fail;refine(qde B0 rb q _ _ M.rd (by omega) (by omega)).mono ?_;rintro e wa ⟨ra,rfl,hra,-,qcJ,hga⟩;have Ma:=M.read hga qcJ;have qoN:=hra (by omega);clear hra M qcJ hga;go_wp2_with fail;refine(qde B0 rb (q+1) _ _ Ma.rd (by omega) (by omega)).mono ?_;rintro e wb ⟨rb',rfl,qcK,-,qcL,hgb⟩;have Mb:=Ma.read hgb qcL;have qoO:=qcK (by omega)
     have hfin:Hid (q1s B0 rb w p (.returned (.tuple #[.slice An nn cn,.int .i64 (1+ra-rb'/23*4),.slice Ac nc cc])) wb):=by
      refine⟨_,_,_,qa,l,rfl,?_,?_,hpl.grown Mb.g hni hnn,Mb.o.ri,Hsm.out,⟨by rw[Hl.out];omega,Hx.out⟩,_,Mb.rd,qad Hg1.out Mb.g⟩
      . omega
      . omega
     clear qcK Ma Mb qcL hgb hpl;go_wp2_with fail;refine bodyPost_ret (v:=.tuple #[.slice An nn cn,.int .i64 (1+ra-rb'/23*4),.slice Ac nc cc]) (by simp[results,results39,go_sem]) rfl ?_;exact hfin.out
def qx6(w:World)(e:Ending)(w':World):Prop:=
 ∃pv cv nw qa l,e=.returned (.tuple #[pv,.int .i64 nw,cv])/\-3<=nw/\nw<=4/\RN w' pv qa/\RI w' cv l/\qe3 qa/\qda l/\w.grownBy w' none
theorem qfv(B0:Nat)(w:World)(v:Value)(n:Nat)(h:Bytes w B0 v n)(hB:B0<=w.heap.size)(hn:n<=1048576):Calls prog 12 #[v] w (qx6 w):=by
 have h0:=h;obtain⟨A,c,rfl,-,-⟩:=h0;go_enter func12,ntmps12;go_wp2_with fail;refine(qv7 B0 w _ n h hB hn).mono ?_;rintro e w1 ⟨rb,rfl,hrd,hg,hlt⟩;obtain⟨bv,hbv⟩:=hrd.blk;have kQ:=hbv.lt;go_wp2_with fail;refine(ql7 B0 rb 0 w1 hrd (by omega) (by omega) kQ).mono ?_;rintro e w2 ⟨pv,cv,nw,qa,l,rfl,h1,h2,h3,h4,h5,h6,q,-,h8⟩;obtain⟨A1,n1,c1,rfl,-,-,-⟩:=h3.form';obtain⟨A2,n2,c2,rfl,-,-⟩:=h4.form';have g:=qbd hg h8 (λg e=>by cases e;exact .inl hlt);clear hbv kQ hrd hg hlt h8;go_wp2_with fail;refine bodyPost_ret (v:=.tuple #[.slice A1 n1 c1,.int .i64 nw,.slice A2 n2 c2]) (by simp[results,results12,go_sem]) rfl ?_;exact⟨_,_,nw,qa,l,rfl,h1,h2,h3,h4,h5,h6,g⟩
theorem qem(B0:Nat)(w:World)(v:Value)(n:Nat)(h:Bytes w B0 v n)(hB:B0<=w.heap.size)(hn:n<=1048576):Calls prog 18 #[v] w (qx6 w):=by
 have h0:=h;obtain⟨A,c,rfl,-,-⟩:=h0;go_enter func18,ntmps18;go_wp2_with fail;refine(qv7 B0 w _ n h hB hn).mono ?_;rintro e w1 ⟨rb,rfl,hrd,hg,hlt⟩;obtain⟨bv,hbv⟩:=hrd.blk;have kQ:=hbv.lt;go_wp2_with fail;refine(ql7 B0 rb 0 w1 hrd (by omega) (by omega) kQ).mono ?_;rintro e w2 ⟨pv,cv,nw,qa,l,rfl,h1,h2,h3,h4,h5,h6,q,-,h8⟩;obtain⟨A1,n1,c1,rfl,-,-,-⟩:=h3.form';obtain⟨A2,n2,c2,rfl,-,-⟩:=h4.form';have g:=qbd hg h8 (λg e=>by cases e;exact .inl hlt);clear hbv kQ hrd hg hlt h8;go_wp2_with fail;refine bodyPost_ret (v:=.tuple #[.slice A1 n1 c1,.int .i64 nw,.slice A2 n2 c2]) (by simp[results,results18,go_sem]) rfl ?_;exact⟨_,_,nw,qa,l,rfl,h1,h2,h3,h4,h5,h6,g⟩
def qpe(f:Nat->Int)(n:Nat)(cs:List Int):Prop:=cs.length=n/\∀i c,cs[i]?=some c->0<=c/\c<=f i
def qoP(w:World)(tb:Nat)(f:Nat->Int)(n:Nat)(cs:List Int)(e:Ending)(w':World):Prop:=
 (qpe f n cs/\e=.returned (.bool true)/\TT w' tb (qmk f cs) n/\w.grownBy w' (some tb))∨(¬qpe f n cs/\e=.returned (.bool false)/\w.grownBy w' none)
theorem q6g(tb n:Nat)(f:Nat->Int)(cv:Value)(cs:List Int)(w:World)(h:TT w tb f n)(hn:n<=10)(hc:RI w cv cs):Calls prog 129 #[.pointer (some ⟨tb,0,none⟩),cv] w (qoP w tb f n cs):=by
 obtain⟨A,m,c,rfl,hmc,hm⟩:=hc.form';have hsz:=h.size;have Hm:=Lib.hid hm;by_cases hmn:m=n
 . subst hmn;clear hm;go_enter func129,ntmps129;go_wp2_with fail
   go_loopg [16] (m+1) (λmm i wr=>∃k:Nat,k<=m/\mm=m+1-k/\i=.int .i64 k/\w.grownBy wr none/\Hid (∀i c,i<k->cs[i]?=some c->0<=c/\c<=f i))
   case atStart=>exact⟨0,Nat.zero_le _,rfl,rfl,qah _ _,λi c hi=>absurd hi (Nat.not_lt_zero _)⟩
   case round=>
    obtain⟨k,hk,rfl,rfl,hg,Hk⟩:=hrel;have T:=h.new hg;have hr:=hc.new hg;by_cases hlt:k<m
    . obtain⟨gu,ou,x,rfl,hx,c0⟩:=hr.at_ hlt;have hz:=T.cell (u:=k) (by omega);have Hx:=Lib.hid hx;clear hx;obtain⟨y,hy⟩:∃y,y=f k:=⟨_,rfl⟩;rw[<-hy]at hz;have Hy:=Lib.hid hy;clear hy hsz;by_cases h1:x<0
      . have hno:Hid (¬qpe f m cs):=λe=>by have:=(e.2 k x Hx.out).1;omega
        clear T hr h hc;go_wp2;go_ret;exact .inr ⟨hno.out,rfl,hg⟩
      . by_cases h2:y<x
        . have hno:Hid (¬qpe f m cs):=λe=>by have:=(e.2 k x Hx.out).2;have:=Hy.out;omega
          clear T hr h hc;go_wp2;go_ret;exact .inr ⟨hno.out,rfl,hg⟩
        . go_wp2;go_roundg (m+1-(k+1))
          case measure=>omega
          case rel=>exact⟨k+1,by omega,rfl,by go_num,hg,λi c hi hc'=>by
           by_cases e:i=k
           . subst e;rw[Hx.out]at hc';injection hc' with hc';subst hc';have:=Hy.out;omega
           . exact Hk.out i c (by omega) hc'⟩
    . obtain rfl:m=k:=by omega
      have hfit:Hid (qpe f m cs):=⟨Hm.out.symm,λi c hc'=>Hk.out i c (by have:=(List.getElem?_eq_some_iff.1 hc').1;have:=Hm.out;omega) hc'⟩;have hl:cs.length<=10:=by have:=Hm.out;omega
      clear hsz Hk hk;go_wp2_with (with_reducible refine q29 (.tmp 37) (.tmp 38) rfl rfl T hr hl rfl rfl ?_);intro z w2 T2 hg2;go_wp2;go_ret;exact .inl ⟨hfit.out,rfl,T2,qad (qye hg _) hg2⟩
 . have hb:((m:Int)==(n:Int))=false:=by simp only[beq_eq_false_iff_ne,ne_eq];omega
   have hno:Hid (¬qpe f n cs):=λe=>hmn (by rw[hm];exact e.1);clear hm hmn;go_enter func129,ntmps129;go_wp2;go_ret;exact .inr ⟨hno.out,rfl,qah _ _⟩
def qoQ(w:World)(tb:Nat)(f:Nat->Int)(n:Nat)(us:List Nat)(e:Ending)(w':World):Prop:=
 ((∃(t u:Nat),us[t]?=some u/\f u=0)/\e=.returned (.tuple #[.slice none 0 0,.bool false])/\w.grownBy w' (some tb)) ∨
 ((∀u∈us,f u≠0)/\∃v,e=.returned (.tuple #[v,.bool true])/\qg w' w.heap.size v (jT f us us.length)/\TT w' tb (qfj f us us.length) n/\w.grownBy w' (some tb))
theorem q3b(tb n:Nat)(f:Nat->Int)(uv:Value)(us:List Nat)(w:World)(h:TT w tb f n)(hn:n<=10)(hu:RI w uv (us.map (λj:Nat=>(j:Int))))(hus:∀u∈us,u<n)(hnd:us.Nodup)(hf:∀u∈us,0<=f u/\f u<=1000) :
   Calls prog 130 #[.pointer (some ⟨tb,0,none⟩),uv] w (qoQ w tb f n us):=by
 obtain⟨A,m,c,rfl,hmc,hm⟩:=hu.form';have hm':m=us.length:=by rw[hm,length_map]
 have Hm:=Lib.hid hm'
 have qbW:m<=10:=by
  have h1:us.length<=n:=qz8 hnd hus;omega
 have Hus:=Lib.hid hus;have Hnd:=Lib.hid hnd;have Hf:=Lib.hid hf;have hI0:=h.ne (E:=3) (by decide);have htw:tb<w.heap.size:=Blk.lt h;clear hm hm' hus hnd hf;have T0:TT w tb (qfj f us 0) n:=by rw[qz3];exact h
 go_enter func130,ntmps130;go_wp2_with fail
 go_loopg [6,11] (m+1) (λmm r i wr=>∃t:Nat,t<=m/\mm=m+1-t/\i=.int .i64 t/\qg wr w.heap.size r (jT f us t)/\TT wr tb (qfj f us t) n/\w.grownBy wr (some tb)/\Hid (∀i u,i<t->us[i]?=some u->f u≠0))
 case atStart=>exact⟨0,Nat.zero_le _,rfl,rfl,by exact qg.nil w _,T0,qah _ _,λi c hi=>absurd hi (Nat.not_lt_zero _)⟩
 case round=>
  clear T0 h;obtain⟨t,ht,rfl,rfl,ho,T,hg,Hz⟩:=hrel;obtain⟨Ar,nr,cr,rfl⟩:=ho.ri.val;have hr:=hu.grown hg hI0;by_cases hlt:t<m
  . obtain⟨gu,ou,x,rfl,hx,c0⟩:=hr.at_ hlt;rw[getElem?_map]at hx;obtain⟨u,hut,rfl⟩:=Option.map_eq_some_iff.1 hx;have hun:=Hus.out u (mem_of_getElem? hut);have qfQ:u<10:=by omega
    have hz:=T.cell qfQ;rw[q5y Hnd.out hut]at hz;have hzf:=T.frozen u;have hfu:=Hf.out u (mem_of_getElem? hut);have T2:=T.put qfQ (f u-1);rw[<-qr7 Hnd.out hut]at T2;have hst:wr.grownBy (wr.setCell ⟨tb,u,none⟩ (.int .i64 (f u-1))) (some tb):=qbf (qah _ _) (.inr rfl) _;have ho2:=ho.grown hst (T.ne (by decide));have g2:=qad hg hst;have hz2:=T2.cell qfQ;have Hut:=Lib.hid hut;have hzl:=q5z f us t;have Hzs:Hid (jT f us (t+1)=jT f us t++(if f u=1 then [(u:Int)]else [])):=q2r hut
    have Htk:Hid (qfj f us (t+1) u=f u-1):=by
     show _=_;rw[qr7 Hnd.out hut];unfold kF;rw[if_pos rfl]
    rw[Htk.out]at hz2;obtain⟨y,hy⟩:∃y,y=f u:=⟨_,rfl⟩;rw[<-hy]at hz hfu T2 hst ho2 g2 hz2 Hzs;have Hy:=Lib.hid hy;clear hx hut hy Htk;by_cases h0:y=0
    . subst h0;have hno:Hid (∃(t u:Nat),us[t]?=some u/\f u=0):=⟨t,u,Hut.out,Hy.out.symm⟩;clear T T2 ho ho2 hst g2 hz2 Hzs;go_wp2_with fail;refine bodyPost_ret (v:=.tuple #[.slice none 0 0,.bool false]) (by simp[results,results130,go_sem]) rfl ?_;exact .inl ⟨hno.out,rfl,hg⟩
    . have hb0:(y==0)=false:=by simpa using h0
      have Hz2:Hid (∀i v,i<t+1->us[i]?=some v->f v≠0):=by
       intro i v hi hv;by_cases e:i=t
       . subst e;rw[Hut.out]at hv;injection hv with hv;subst hv;rw[<-Hy.out];exact h0
       . exact Hz.out i v (by omega) hv
      have hw1:IntKind.i64.wrap (y-1)=y-1:=IntWalk.i64_in _ (by omega);go_upto_region 8 with fail
      go_cut [] (λwx=>qg wx w.heap.size (.slice Ar nr cr) (jT f us t)/\TT wx tb (qfj f us (t+1)) n/\w.grownBy wx (some tb)/\wx.cell? ⟨tb,u,none⟩=some (.int .i64 (y-1)))
      case first=>
       go_region
       all_goals
        go_wp2_with fail;go_meet;exact⟨ho2,T2,by first|exact g2|exact qay g2,hz2⟩
      case rest=>
       obtain⟨ho3,T3,g3,hz3⟩:=hcut;clear T ho T2 ho2 hst g2 hz2 hz hzf hg hr c0;by_cases h1:y=1
       . subst h1;have qfR:Hid (jT f us (t+1)=jT f us t++[(u:Int)]):=Hzs.out;clear Hzs;go_wp2_with (at_builtin;go_must (refine qek (.tmp 39) (.tmp 41) rfl rfl ho3 (by omega) (Nat.le_of_lt (Nat.lt_of_lt_of_le htw g3.size) |> λ_=>g3.size) rfl rfl rfl ?_));intro v5 w5 ho5 hg5;have T5:TT w5 tb (qfj f us (t+1)) n:=Blk.past T3 hg5 (ho3.jL (by decide));have g5:=qbd g3 hg5 (λg e=>.inl (ho3.lt g e).1);rw[<-qfR.out]at ho5;obtain⟨A5,n5,c5,rfl⟩:=ho5.ri.val;go_wp2;go_roundg (m+1-(t+1))
         case measure=>omega
         case rel=>exact⟨t+1,by omega,rfl,by go_num,ho5,T5,g5,Hz2⟩
       . have hb1:(y-1==0)=false:=by simp only[beq_eq_false_iff_ne,ne_eq];omega
         have qfR:Hid (jT f us (t+1)=jT f us t):=by
          show _=_;rw[Hzs.out,if_neg h1,append_nil]
         rw[<-qfR.out]at ho3;clear Hzs;go_wp2;go_roundg (m+1-(t+1))
         case measure=>omega
         case rel=>exact⟨t+1,by omega,rfl,by go_num,ho3,T3,g3,Hz2⟩
  . obtain rfl:m=t:=by omega
    have hall:Hid (∀u∈us,f u≠0):=by
     intro u hu';obtain⟨i,hi,rfl⟩:=getElem_of_mem hu';exact Hz.out i _ (by have:=Hm.out;omega) (getElem?_eq_getElem hi)
    have HH:=Lib.hid ho;have HT:=Lib.hid T;clear ho T;go_wp2_with fail;refine bodyPost_ret (v:=.tuple #[.slice Ar nr cr,.bool true]) (by simp[results,results130,go_sem]) rfl ?_;exact .inr ⟨hall.out,_,rfl,by rw[<-Hm.out];exact HH.out,by rw[<-Hm.out];exact HT.out,hg⟩
def CDOut(w:World)(r:Option (List Int×List Int))(e:Ending)(w':World):Prop:=match r with
 |some (k,r)=>∃kv rv,e=.returned (.tuple #[kv,rv,.bool true])/\qg w' w.heap.size kv k/\qg w' w.heap.size rv r/\w.grownBy w' none
 |none=>e=.returned (.tuple #[.slice none 0 0,.slice none 0 0,.bool false])/\w.grownBy w' none
theorem qoR{qa:List Node}{cs:List Int}{x:Int}(h:qaf qa=false):qco qa cs x=none:=by unfold qco;rw[h];rfl
theorem qoS{qa:List Node}{cs:List Int}{x:Int}(h:(decide (0<=x)&&decide (x<qa.length))=false):qco qa cs x=none:=by unfold qco;rw[h,Bool.and_false];rfl
theorem qoT{qa:List Node}(hv:qaf qa=true){cs:List Int}{x:Int}(h:¬qpe (qhb qa qa.length) qa.length cs):qco qa cs x=none:=by
 unfold qco;by_cases hl:cs.length=qa.length
 . have:∃ i c,cs[i]?=some c/\¬ (0<=c/\c<=qhb qa qa.length i):=by
    apply Classical.byContradiction;intro hno;refine h ⟨hl,λi c hc=>?_⟩;apply Classical.byContradiction;intro h2;exact hno ⟨i,c,hc,h2⟩
   obtain⟨i,c,hc,h2⟩:=this;rw[qub hv]at h2;have hi:=(List.getElem?_eq_some_iff.1 hc).1;rw[quc (by omega) hc h2,Bool.and_false];rfl
 . rw[decide_eq_false hl,Bool.and_false];rfl
theorem q0s{f:Nat->Int}{cs:List Int}{u:Nat}(h:u<cs.length):qmk f cs u=cs.getD u 0:=by
 rw[qou (getElem?_eq_getElem h),getD_eq_getElem?_getD,getElem?_eq_getElem h];rfl
theorem qoU{qa:List Node}(hv:qaf qa=true){cs:List Int}{x t u:Nat}{f:Nat->Int}(hl:cs.length=qa.length)(hu:(qcq qa x)[t]?=some u)(hz:qmk f cs u=0):qco qa cs (x:Int)=none:=by
 unfold qco;have hm:=((qhw hv).1 (mem_of_getElem? hu)).1;rw[qwv hv hu (by rw[<-q0s (f:=f) (by omega)];exact hz),Bool.and_false];rfl
theorem qoV{qa:List Node}(hv:qaf qa=true){cs:List Int}{x:Nat}(hx:x<qa.length)(hfit:qpe (qhb qa qa.length) qa.length cs)(hnz:∀u∈qcq qa x,qmk (qhb qa qa.length) cs u≠0) :
   qco qa cs (x:Int)=some ((range qa.length).map (qfj (qmk (qhb qa qa.length) cs) (qcq qa x) (qcq qa x).length),jT (qmk (qhb qa qa.length) cs) (qcq qa x) (qcq qa x).length):=by
 have hl:=hfit.1
 have h1:qfl qa cs (x:Int)=true:=qyj hv hl (λi c hc=>by have:=hfit.2 i c hc;rwa [qub hv]at this) (λu hu=>by
  have hm:=((qhw hv).1 hu).1;rw[<-q0s (f:=qhb qa qa.length) (by omega)];exact hnz u hu)
 unfold qco;rw[qz4 hv hl _ x _ (Nat.le_refl _),qz5 hv hl _ x _ (Nat.le_refl _),if_pos];rw[hv,h1,decide_eq_true hl,decide_eq_true (Int.natCast_nonneg x),decide_eq_true (Int.ofNat_lt.2 hx)];rfl
theorem q6h{qa:List Node}(hv:qaf qa=true){cs:List Int}{x:Nat}(hfit:qpe (qhb qa qa.length) qa.length cs):∀u∈qcq qa x,0<=qmk (qhb qa qa.length) cs u/\qmk (qhb qa qa.length) cs u<=1000:=by
 intro u hu;have hm:=((qhw hv).1 hu).1;have hl:=hfit.1;have hg:cs[u]?=some cs[u]:=getElem?_eq_getElem (by omega);rw[qou hg];have h1:=hfit.2 u _ hg;have h2:=qz2 hv qa.length 0 u;rw[qt9]at h2;omega
theorem qj9(v:Value)(qa:List Node)(w:World)(h:RN w v qa)(hv:qaf qa=true):Calls prog 65 #[v] w (qfw w (qbm qa)):=by
 obtain⟨A,n,c,rfl,-,-,-⟩:=h.form';go_enter func65,ntmps65;go_wp2_with fail;refine(qb8 _ qa _ h hv).mono ?_;rintro e w1 ⟨rfl,hg1⟩;have h1:=h.new hg1;go_wp2_with fail;refine(qj8 _ qa _ h1 hv).mono ?_;rintro e w2 ⟨tb,rfl,T,htb,hg2⟩;go_wp2_with fail;refine(qu2 tb _ _ _ T (qap hv)).mono ?_;rintro e w3 ⟨v3,rfl,ho,hg3⟩;have g2:=qad hg1 hg2;rw[q5x hv]at ho;obtain⟨A3,n3,c3,rfl⟩:=ho.ri.val;go_wp2;go_ret;exact⟨_,rfl,ho.lower g2.size,qad g2 hg3⟩
theorem qif(v cv:Value)(qa:List Node)(cs:List Int)(x:Int)(w:World)(h:RN w v qa)(hc:RI w cv cs):Calls prog 82 #[v,cv,.int .i64 x] w (CDOut w (qco qa cs x)):=by
 obtain⟨A,n,c,rfl,-,hn,-⟩:=h.form';obtain⟨B,m,k,rfl⟩:=hc.val;have Hn:=Lib.hid hn;clear hn;have fin:∀w',w.grownBy w' none->qco qa cs x=none->CDOut w (qco qa cs x) (.returned (.tuple #[.slice none 0 0,.slice none 0 0,.bool false])) w':=λw' hg hr=>by rw[hr];exact⟨rfl,hg⟩
 by_cases hv:qaf qa=true
 . have Hv:=Lib.hid hv;have zY:=qap hv;by_cases hin:0<=x/\x<(n:Int)
   . have Hin:Hid ((decide (0<=x)&&decide (x<(n:Int)))=true):=by show _=_;simp[hin.1,hin.2]
     obtain⟨x,rfl⟩:=Int.eq_ofNat_of_zero_le hin.1;have hx:x<qa.length:=by have:=Hn.out;omega
     clear hv hin;go_enter func82,ntmps82;go_wp2_with fail;refine(qb8 _ qa _ h Hv.out).mono ?_;rintro e w1 ⟨rfl,hg1⟩;go_wp2_with fail;refine(qgk _ _ _ _ _ Hin.out).mono ?_;rintro e w1' ⟨rfl,rfl⟩;go_wp2_with fail;refine(qj8 _ qa w1 (h.new hg1) Hv.out).mono ?_;rintro e w2 ⟨tb,rfl,T,htb,hg2⟩;have g2:=qad hg1 hg2;have qfS:w.heap.size<=tb:=Nat.le_trans hg1.size htb;have hI:=T.ne (E:=3) (by decide);have hN:=T.ne (E:=81) (by decide);go_wp2_with fail;refine(q6g tb _ _ _ cs w2 T zY (hc.new g2)).mono ?_;rintro e w3 (⟨hfit,rfl,T3,hg3⟩|⟨hfit,rfl,hg3⟩)
     . have g3:=qbd g2 hg3 (λg e=>by cases e;exact .inl qfS);have h3:=(h.new g2).grown hg3 hI hN;have qW:=Lib.hid hfit;clear hfit hg1 hg2;go_wp2_with fail;refine(qsa _ qa x w3 h3 Hv.out hx).mono ?_;rintro e w4 ⟨uv,rfl,hu,hg4⟩;rw[qr9 Hv.out]at hu;have T4:=T3.new hg4;have g4:=qad g3 hg4;obtain⟨Au,mu,cu,rfl⟩:=hu.ri.val;go_wp2_with fail;refine(q3b tb _ _ _ (qcq qa x) w4 T4 zY hu.ri (λu hu'=>(qhx.1 hu').1) (qo0 qa x) (q6h Hv.out qW.out)).mono ?_;rintro e w5 (⟨⟨t,u,hut,hz⟩,rfl,hg5⟩|⟨hnz,rv,rfl,ho5,T5,hg5⟩)
       . have g5:=qbd g4 hg5 (λg e=>by cases e;exact .inl qfS);have hfin:=Lib.hid (fin w5 g5 (qoU Hv.out qW.out.1 hut hz));clear hut hz fin T T3 T4 hu;go_wp2_with fail;refine bodyPost_ret (v:=.tuple #[.slice none 0 0,.slice none 0 0,.bool false]) (by simp[results,results82,go_sem]) rfl ?_;exact hfin.out
       . have g5:=qbd g4 hg5 (λg e=>by cases e;exact .inl qfS);have Hr:=Lib.hid (qoV Hv.out hx qW.out hnz);obtain⟨Ar,nr,cr,rfl⟩:=ho5.ri.val;clear hnz fin T T3 T4 hu;go_wp2_with fail;refine(qu2 tb _ _ w5 T5 zY).mono ?_;rintro e w6 ⟨lv,rfl,ho6,hg6⟩;obtain⟨Al,nl,cl,rfl⟩:=ho6.ri.val;have g6:=qad g5 hg6
         have hfin:Hid (CDOut w (qco qa cs (x:Int)) (.returned (.tuple #[.slice Al nl cl,.slice Ar nr cr,.bool true])) w6):=by
          show CDOut _ _ _ _;rw[Hr.out];exact⟨_,_,rfl,ho6.lower g5.size,(ho5.new hg6).lower g4.size,g6⟩
         clear ho5 ho6;go_wp2_with fail;refine bodyPost_ret (v:=.tuple #[.slice Al nl cl,.slice Ar nr cr,.bool true]) (by simp[results,results82,go_sem]) rfl ?_;exact hfin.out
     . have hfin:=Lib.hid (fin w3 (qad g2 hg3) (qoT Hv.out hfit));clear hfit fin T;go_wp2_with fail;refine bodyPost_ret (v:=.tuple #[.slice none 0 0,.slice none 0 0,.bool false]) (by simp[results,results82,go_sem]) rfl ?_;exact hfin.out
   . have vA:(decide (0<=x) && decide (x < (n:Int)))=false:=by
      simp only[Bool.and_eq_false_iff,decide_eq_false_iff_not];omega
     have Hin:=Lib.hid vA;have Hr:Hid (qco qa cs x=none):=qoS (by rw[<-Hn.out];exact vA);clear hv hin vA;go_enter func82,ntmps82;go_wp2_with fail;refine(qb8 _ qa _ h Hv.out).mono ?_;rintro e w1 ⟨rfl,hg1⟩;go_wp2_with fail;refine(qgk _ _ _ _ _ Hin.out).mono ?_;rintro e w1' ⟨rfl,rfl⟩;have hfin:=Lib.hid (fin w1 hg1 Hr.out);clear fin;go_wp2_with fail;refine bodyPost_ret (v:=.tuple #[.slice none 0 0,.slice none 0 0,.bool false]) (by simp[results,results82,go_sem]) rfl ?_;exact hfin.out
 . have hv':qaf qa=false:=by simpa using hv
   have Hv:=Lib.hid hv';clear hv hv';go_enter func82,ntmps82;go_wp2_with fail;refine(qb8 _ qa _ h Hv.out).mono ?_;rintro e w1 ⟨rfl,hg1⟩;have hfin:=Lib.hid (fin w1 hg1 (qoR Hv.out));clear fin;go_wp2_with fail;refine bodyPost_ret (v:=.tuple #[.slice none 0 0,.slice none 0 0,.bool false]) (by simp[results,results82,go_sem]) rfl ?_;exact hfin.out
theorem q8p(v:Value)(l:List Int)(x:Int)(w:World)(h:RI w v l):Calls prog 178 #[v,.int .i64 x] w λe w'=>∃z:Int,e=.returned (.int .i64 z)/\(x∈l↔0<=z)/\w=w':=by
 obtain⟨A,n,c,rfl,-,hn⟩:=h.form';have hle:=h.le;have hn9:n<=9223372036854775807:=by omega
 have Hn:=Lib.hid hn;clear hn;go_enter func178,ntmps178;go_wp2_with fail
 go_loopg [8] (n+1) (λmm i wr=>∃k:Nat,k<=n/\mm=n+1-k/\i=.int .i64 k/\w=wr/\Hid (∀j,j<k->l[j]?≠some x))
 case atStart=>exact⟨0,Nat.zero_le _,rfl,rfl,rfl,λj hj=>absurd hj (Nat.not_lt_zero _)⟩
 case round=>
  obtain⟨k,hk,rfl,rfl,rfl,Hk⟩:=hrel;by_cases hlt:k<n
  . obtain⟨g,o,y,rfl,hy,c0⟩:=h.at_ hlt;have Hy:=Lib.hid hy;clear hy;by_cases e:x=y
    . subst e;have hin:Hid (x∈l):=mem_of_getElem? Hy.out;go_wp2;go_ret;exact⟨k,rfl,⟨λ_=>by omega,λ_=>hin.out⟩,rfl⟩
    . have hb:(x==y)=false:=by simpa using e
      go_wp2;go_roundg (n+1-(k+1))
      case measure=>omega
      case rel=>exact⟨k+1,by omega,rfl,by go_num,rfl,λj hj=>by
       by_cases e2:j=k
       . subst e2;rw[Hy.out];intro e3;injection e3 with e3;exact e e3.symm
       . exact Hk.out j (by omega)⟩
  . obtain rfl:n=k:=by omega
    have hno:Hid (x∉l):=λhx=>by
     obtain⟨j,hj,e⟩:=getElem_of_mem hx;exact Hk.out j (by have:=Hn.out;omega) (by rw[getElem?_eq_getElem hj,e])
    go_wp2;go_ret;exact⟨-1,rfl,⟨λhx=>absurd hx hno.out,λhx=>by omega⟩,rfl⟩
theorem q0t(v:Value)(l:List Int)(x:Int)(w:World)(h:RI w v l):Calls prog 135 #[v,.int .i64 x] w λe w'=>e=.returned (.bool (decide (x∈l)))/\w=w':=by
 obtain⟨A,n,c,rfl,-,-⟩:=h.form';go_enter func135,ntmps135;go_wp2_with fail;refine(q8p _ l x _ h).mono ?_;rintro e w1 ⟨z,rfl,hz,rfl⟩;have Hz:=Lib.hid hz;clear hz;by_cases hp:0<=z
 . have hin:Hid (decide (x∈l)=true):=decide_eq_true (Hz.out.2 hp);go_wp2;go_ret;exact⟨by rw[hin.out];rfl,rfl⟩
 . have hin:Hid (decide (x∈l)=false):=decide_eq_false (λh=>hp (Hz.out.1 h));go_wp2;go_ret;have hd:decide (0<=z)=false:=decide_eq_false (by omega);exact⟨by rw[hin.out,<-hd];rfl,rfl⟩
def PCV(w:World)(v:Value)(qa:List Node)(vs:List (List Int))(c:qj):Prop:=
 ∃A0 n0 c0 A5 n5 c5 A1 n1 c1 A2 n2 c2 A3 n3 c3 A4 n4 c4,v=.agg #[.slice A0 n0 c0,.slice A5 n5 c5,.slice A1 n1 c1,.slice A2 n2 c2,.slice A3 n3 c3,.slice A4 n4 c4] /\
  RN w (.slice A0 n0 c0) qa/\RL w (.slice A5 n5 c5) vs/\RL w (.slice A1 n1 c1) c.qb/\RI w (.slice A2 n2 c2) c.counts/\RI w (.slice A3 n3 c3) c.done/\RL w (.slice A4 n4 c4) c.rows
theorem PCV.new{w w':World}{v:Value}{qa:List Node}{vs:List (List Int)}{c:qj}(h:PCV w v qa vs c)(hg:w.grownBy w' none):PCV w' v qa vs c:=by
 obtain⟨A0,n0,c0,A5,n5,c5,A1,n1,c1,A2,n2,c2,A3,n3,c3,A4,n4,c4,rfl,h0,h5,h1,h2,h3,h4⟩:=h;exact⟨_,_,_,_,_,_,_,_,_,_,_,_,_,_,_,_,_,_,rfl,h0.new hg,h5.new hg,h1.new hg,h2.new hg,h3.new hg,h4.new hg⟩
theorem q6i(v:Value)(qa:List Node)(vs:List (List Int))(c:qj)(x:Int)(w:World)(h:PCV w v qa vs c):Calls prog 87 #[v,.int .i64 x] w λe w'=>e=.returned (.bool (decide (x∈c.done)))/\w.grownBy w' none:=by
 obtain⟨A0,n0,c0,A5,n5,c5,A1,n1,c1,A2,n2,c2,A3,n3,c3,A4,n4,c4,rfl,h0,h5,h1,h2,h3,h4⟩:=h;have hB:=Blk.new w 72 #[.slice A0 n0 c0,.slice A5 n5 c5,.slice A1 n1 c1,.slice A2 n2 c2,.slice A3 n3 c3,.slice A4 n4 c4];have hg:=grownBy_alloc w (.cells #[.slice A0 n0 c0,.slice A5 n5 c5,.slice A1 n1 c1,.slice A2 n2 c2,.slice A3 n3 c3,.slice A4 n4 c4] 72) none;clear h0 h5 h1 h2 h4;have h3':=h3.new hg;go_enter func87,ntmps87;go_upto_region 1 with fail;generalize w.alloc (.cells #[.slice A0 n0 c0,.slice A5 n5 c5,.slice A1 n1 c1,.slice A2 n2 c2,.slice A3 n3 c3,.slice A4 n4 c4] 72)=W at hB hg h3' |-;have q4:=hB.cell 4;go_wp2_with fail;refine(q0t _ _ x W h3').mono ?_;rintro e w1 ⟨rfl,rfl⟩;go_wp2;go_ret;exact⟨rfl,hg⟩
theorem q0u{qa:List Node}{D:List Int}(ho:qb6 qa D=true):D.length<=qa.length:=by
 have h:=qtz (qnw ho) (m:=(range qa.length).map (λi:Nat=>(i:Int))) (λy hy=>by
  obtain⟨h0,h1,_⟩:=qic ho hy;exact mem_map.2 ⟨y.toNat,mem_range.2 (by omega),by omega⟩)
 rwa [length_map,length_range]at h
theorem q8q{qa:List Node}(hv:qaf qa=true){D:List Int}(ho:qb6 qa D=true){k:Nat}{x:Int}(hx:D[k]?=some x) :
   qco qa (lefts qa (D.take k)) x=some (lefts qa (D.take (k+1)),qb4 qa (lefts qa (D.take k)) x):=by
 obtain⟨hk,rfl⟩:=List.getElem?_eq_some_iff.1 hx;obtain⟨h1,h2,h3,-⟩:=qfb.1 (qit ho hk);rw[qoq hv h1 h2 h3,take_succ_eq_append_getElem hk]
theorem qlh(v:Value)(qa:List Node)(vs:List (List Int))(c:qj)(w:World)(h:PCV w v qa vs c)(hv:qaf qa=true)(ho:qb6 qa c.done=true){b:Bool}(hb:decide (lefts qa c.done=c.counts)=b) :
   Calls prog 48 #[v] w λe w'=>e=.returned (.bool b)/\w.grownBy w' none:=by
 obtain⟨A0,n0,c0,A5,n5,c5,A1,n1,c1,A2,n2,c2,A3,n3,c3,A4,n4,c4,rfl,h0,h5,h1,h2,h3,h4⟩:=h;have hB:=Blk.new w 72 #[.slice A0 n0 c0,.slice A5 n5 c5,.slice A1 n1 c1,.slice A2 n2 c2,.slice A3 n3 c3,.slice A4 n4 c4];have hg:=grownBy_alloc w (.cells #[.slice A0 n0 c0,.slice A5 n5 c5,.slice A1 n1 c1,.slice A2 n2 c2,.slice A3 n3 c3,.slice A4 n4 c4] 72) none;have Hv:=Lib.hid hv;have Ho:=Lib.hid ho;have Hb:=Lib.hid hb;have hn3:=h3.len;have vV:n3<=10:=by have:=q0u ho;have:=qap hv;omega
 have Hn3:=Lib.hid hn3;clear h5 h1 h4 hv ho hb hn3;go_enter func48,ntmps48;go_upto_region 1 with fail;have k0:=h0.new hg;have k2:=h2.new hg;have k3:=h3.new hg;clear h0 h2 h3;generalize w.alloc (.cells #[.slice A0 n0 c0,.slice A5 n5 c5,.slice A1 n1 c1,.slice A2 n2 c2,.slice A3 n3 c3,.slice A4 n4 c4] 72)=W at hB hg k0 k2 k3 |-;have q0:=hB.cell 0;go_wp2_with fail;refine(qj9 _ qa W k0 Hv.out).mono ?_;rintro e w1 ⟨v1,rfl,ho1,hg1⟩;have B1:=hB.grown hg1 (by simp);have q4:=B1.cell 4;obtain⟨Ac,nc,cc,rfl⟩:=ho1.ri.val;have hr1:=ho1.ri;rw[<-qt7]at hr1;have m0:=k0.new hg1;have m2:=k2.new hg1;have m3:=k3.new hg1;have g1:=qad hg hg1;clear k0 k2 k3 ho1 hg1 hB hg q0;go_wp2_with fail
 go_loopg [3,17] (n3+1) (λmm kv i wr=>∃k:Nat,k<=n3/\mm=n3+1-k/\i=.int .i64 k/\RI wr kv (lefts qa (c.done.take k))/\w1.grownBy wr none)
 case atStart=>exact⟨0,Nat.zero_le _,rfl,rfl,by exact hr1,qah _ _⟩
 case round=>
  obtain⟨k,hk,rfl,rfl,hr,hg⟩:=hrel;clear hr1 q4;obtain⟨Ar,nr,cr,rfl⟩:=hr.val;have B2:=B1.grown hg (by simp);have q0:=B2.cell 0;have q3:=B2.cell 3;have p0:=m0.new hg;have p2:=m2.new hg;have p3:=m3.new hg;by_cases hlt:k<n3
  . obtain⟨g,o,x,rfl,hx,x0⟩:=p3.at_ hlt;have Hd:=Lib.hid (q8q Hv.out Ho.out hx);clear hx q3;go_wp2_with fail;refine(qif _ _ qa (lefts qa (c.done.take k)) x wr p0 hr).mono ?_;intro e w2 hO;rw[Hd.out]at hO;obtain⟨kv,rv,rfl,o1,o2,hg2⟩:=hO;obtain⟨Ak,nk,ck,rfl⟩:=o1.ri.val;obtain⟨Aq,nq,cq,rfl⟩:=o2.ri.val;have r2:=o1.ri;have g2:=qad hg hg2;clear hr p0 p2 p3 q0 o1 o2 B2;go_wp2;go_roundg (n3+1-(k+1))
    case measure=>omega
    case rel=>exact⟨k+1,by omega,rfl,by go_num,r2,g2⟩
  . obtain rfl:n3=k:=by omega
    have he:lefts qa (c.done.take n3)=lefts qa c.done:=by rw[take_of_length_le (Nat.le_of_eq Hn3.out.symm)]
    rw[he]at hr;clear he q0 p0 p3;go_wp2_with fail;refine(qqh _ _ _ _ wr hr p2 Hb.out).mono ?_;rintro e w2 ⟨rfl,hg2⟩;go_wp2;go_ret;exact⟨rfl,qad g1 (qad hg hg2)⟩
def rowFine(vs:List (List Int))(c:qj)(i:Nat):Prop:=c.rows.getD i []=if (i:Int)∈c.done then vs.getD i []else []
def qig(qa:List Node)(vs:List (List Int))(c:qj):Prop:=c.rows.length=qa.length/\∀i,i<c.rows.length->rowFine vs c i
def qoW(w:World)(qa:List Node)(vs:List (List Int))(c:qj)(e:Ending)(w':World):Prop:=∃b,e=.returned (.bool b)/\(b=true↔qig qa vs c)/\w.grownBy w' none
theorem q4z(v:Value)(qa:List Node)(vs:List (List Int))(c:qj)(x:Int)(w:World)(h:PCV w v qa vs c){b:Bool}(hb:decide (x∈c.done)=b):Calls prog 87 #[v,.int .i64 x] w λe w'=>e=.returned (.bool b)/\w.grownBy w' none:=hb▸q6i v qa vs c x w h
theorem PCV.form{w:World}{A0:Option Addr}{n0 c0:Nat}{A5:Option Addr}{n5 c5:Nat}{A1:Option Addr}{n1 c1:Nat}{A2:Option Addr}{n2 c2:Nat}{A3:Option Addr}{n3 c3:Nat}{A4:Option Addr}{n4 c4:Nat}{qa:List Node}{vs:List (List Int)}{c:qj}(h:PCV w (.agg #[.slice A0 n0 c0,.slice A5 n5 c5,.slice A1 n1 c1,.slice A2 n2 c2,.slice A3 n3 c3,.slice A4 n4 c4]) qa vs c) :
   RN w (.slice A0 n0 c0) qa/\RL w (.slice A5 n5 c5) vs/\RL w (.slice A4 n4 c4) c.rows:=by
 obtain⟨A0',n0',c0',A5',n5',c5',A1',n1',c1',A2',n2',c2',A3',n3',c3',A4',n4',c4',e,h0,h5,h1,h2,h3,h4⟩:=h;injection e with e;injection e with e;injection e with e0 e;injection e with e5 e;injection e with e1 e;injection e with e2 e;injection e with e3 e;injection e with e4 e;rw[e0,e5,e4];exact⟨h0,h5,h4⟩
theorem qu3(v:Value)(qa:List Node)(vs:List (List Int))(c:qj)(w:World)(h:PCV w v qa vs c)(hvs:vs.length=qa.length) :
   Calls prog 50 #[v] w (qoW w qa vs c):=by
 obtain⟨A0,n0,c0,A5,n5,c5,A1,n1,c1,A2,n2,c2,A3,n3,c3,A4,n4,c4,rfl,h0,h5,h1,h2,h3,h4⟩:=id h;have hB:=Blk.new w 72 #[.slice A0 n0 c0,.slice A5 n5 c5,.slice A1 n1 c1,.slice A2 n2 c2,.slice A3 n3 c3,.slice A4 n4 c4];have hg:=grownBy_alloc w (.cells #[.slice A0 n0 c0,.slice A5 n5 c5,.slice A1 n1 c1,.slice A2 n2 c2,.slice A3 n3 c3,.slice A4 n4 c4] 72) none;have hn0:=h0.len;have hn4:=h4.len;have hn5:=h5.len
 have qtT:n4<=9223372036854775807:=by
  obtain⟨xs,t1,-⟩:=id h4;have:=t1.le;omega
 have P0:=h.new hg;have Hn0:=Lib.hid hn0;have Hn4:=Lib.hid hn4;clear h0 h1 h2 h3 h4 h5;by_cases hll:n4=n0
 . subst hll;have qoX:n5=n4:=by omega
   subst qoX;clear hn0 hn4 hn5 hvs h;go_enter func50,ntmps50;go_upto_region 1 with fail;generalize w.alloc (.cells #[.slice A0 n5 c0,.slice A5 n5 c5,.slice A1 n1 c1,.slice A2 n2 c2,.slice A3 n3 c3,.slice A4 n5 c4] 72)=W at hB hg P0 |-;have q0:=hB.cell 0;have q5:=hB.cell 5;go_wp2_with fail
   go_loopg [18] (n5+1) (λmm i wr=>∃k:Nat,k<=n5/\mm=n5+1-k/\i=.int .i64 k/\W.grownBy wr none/\Hid (∀i,i<k->rowFine vs c i))
   case atStart=>exact⟨0,Nat.zero_le _,rfl,rfl,qah _ _,λi hi=>absurd hi (Nat.not_lt_zero _)⟩
   case round=>
    clear q0 q5;obtain⟨k,hk,rfl,rfl,hgr,Hk⟩:=hrel;have B2:=hB.grown hgr (by simp);have P2:=P0.new hgr;have gw:=qad hg hgr;by_cases hlt:k<n5
    . obtain⟨-,p5,p4⟩:=P2.form;obtain⟨g,o,l,B,m,e',rfl,hl,x0,hrl,hml,-,-⟩:=p4.at_ hlt;obtain⟨g5,o5,l5,B5,m5,e5,rfl,hl5,x5,qfT,-,-,-⟩:=p5.at_ hlt;have Hl:=Lib.hid hl;have Hl5:=Lib.hid hl5;have Hml:=Lib.hid hml;clear hl hl5 hml p4 p5;have q0:=B2.cell 0;have q1:=B2.cell 1;have q2:=B2.cell 2;have q3:=B2.cell 3;have q4:=B2.cell 4;have q5:=B2.cell 5;have hki:(k:Int)<(n5:Int):=by omega
      have Hf1:Hid (c.rows.getD k []=l):=by show _=_;rw[getD_eq_getElem?_getD,Hl.out];rfl
      have Hf2:Hid (vs.getD k []=l5):=by show _=_;rw[getD_eq_getElem?_getD,Hl5.out];rfl
      by_cases hd:(k:Int)∈c.done
      . have Hd:Hid (decide ((k:Int)∈c.done)=true):=decide_eq_true hd;have Hin:=Lib.hid hd;clear hd;go_wp2_with fail;refine(q4z _ qa vs c k wr P2 Hd.out).mono ?_;rintro e w2 ⟨rfl,hg2⟩;have g2:=qad hgr hg2;have B3:=B2.grown hg2 (by simp);have r1:=hrl.new hg2;have r5:=qfT.new hg2;have y5:=qc1 x5 hg2;have y1:=B3.cell 1;clear q0 q1 q2 q3 q4 q5 hrl qfT x0 x5 P2;by_cases heq:l=l5
        . have kX:Hid (rowFine vs c k):=by
           show rowFine vs c k;unfold rowFine;rw[if_pos Hin.out,Hf1.out,Hf2.out];exact heq
          have He:Hid (decide (l=l5)=true):=decide_eq_true heq;clear heq;go_wp2_with fail;refine(qqh _ _ _ _ w2 r1 r5 He.out).mono ?_;rintro e w3 ⟨rfl,hg3⟩;have g3:=qad g2 hg3;go_wp2;go_roundg (n5+1-(k+1))
          case measure=>omega
          case rel=>exact⟨k+1,by omega,rfl,by go_num,g3,λi hi=>by
           by_cases e2:i=k
           . subst e2;exact kX.out
           . exact Hk.out i (by omega)⟩
        . have hno:Hid (¬ qig qa vs c):=fun e2=>by
           have h1:=e2.2 k (by rw[<-Hn4.out];exact hlt);unfold rowFine at h1;rw[if_pos Hin.out,Hf1.out,Hf2.out]at h1;exact heq h1
          have He:Hid (decide (l=l5)=false):=decide_eq_false heq;clear heq;go_wp2_with fail;refine(qqh _ _ _ _ w2 r1 r5 He.out).mono ?_;rintro e w3 ⟨rfl,hg3⟩;have g3:=qad hg (qad g2 hg3);go_wp2;go_ret;exact⟨false,rfl,⟨λe2=>(by cases e2),λe2=>absurd e2 hno.out⟩,g3⟩
      . have Hd:Hid (decide ((k:Int)∈c.done)=false):=decide_eq_false hd;have Hin:=Lib.hid hd;clear hd;go_wp2_with fail;refine(q4z _ qa vs c k wr P2 Hd.out).mono ?_;rintro e w2 ⟨rfl,hg2⟩;have g2:=qad hgr hg2;clear q0 q1 q2 q3 q4 q5 qfT x0 x5 P2;by_cases heq:m=0
        . subst heq
          have kX:Hid (rowFine vs c k):=by
           show rowFine vs c k;unfold rowFine;rw[if_neg Hin.out,Hf1.out];exact eq_nil_of_length_eq_zero Hml.out.symm
          go_wp2;go_roundg (n5+1-(k+1))
          case measure=>omega
          case rel=>exact⟨k+1,by omega,rfl,by go_num,g2,λi hi=>by
           by_cases e2:i=k
           . subst e2;exact kX.out
           . exact Hk.out i (by omega)⟩
        . have hno:Hid (¬ qig qa vs c):=fun e2=>by
           have h1:=e2.2 k (by rw[<-Hn4.out];exact hlt);unfold rowFine at h1;rw[if_neg Hin.out,Hf1.out]at h1;have:=Hml.out;rw[h1]at this;exact heq this
          have hb:((m:Int)==0)=false:=by simpa using heq
          have g3:=qad hg g2;go_wp2;go_ret;exact⟨false,rfl,⟨λe2=>(by cases e2),λe2=>absurd e2 hno.out⟩,g3⟩
    . obtain rfl:n5=k:=by omega
      have qfU:Hid (qig qa vs c):=⟨by rw[<-Hn4.out,<-Hn0.out],λi hi=>Hk.out i (by rw[Hn4.out];exact hi)⟩;clear P2 B2;go_wp2;go_ret;exact⟨true,rfl,⟨λ_=>qfU.out,λ_=>rfl⟩,gw⟩
 . have hno:Hid (¬qig qa vs c):=λe=>hll (by rw[Hn4.out,Hn0.out];exact e.1);have hb:((n4:Int)==(n0:Int))=false:=by simp only[beq_eq_false_iff_ne,ne_eq];omega
   clear hn0 hn4 hn5 hvs h hll;go_enter func50,ntmps50;go_upto_region 1 with fail;generalize w.alloc (.cells #[.slice A0 n0 c0,.slice A5 n5 c5,.slice A1 n1 c1,.slice A2 n2 c2,.slice A3 n3 c3,.slice A4 n4 c4] 72)=W at hB hg P0 |-;have q0:=hB.cell 0;have q5:=hB.cell 5;go_wp2;go_ret;exact⟨false,rfl,⟨λe2=>(by cases e2),λe2=>absurd e2 hno.out⟩,hg⟩
theorem q0v(v:Value)(base:Nat)(l:List Int)(w:World)(h:qg w base v l)(hl:l.length<=12) :
   Calls prog 86 #[v] w (qvm w base v (ql l)):=by
 have hlen:=h.1;rcases id h.2 with ⟨e,hz⟩|⟨g,cap,cur,e,-⟩
 . have hl0:l=[]:=eq_nil_of_length_eq_zero (by omega);subst hl0 e;go_enter func86,ntmps86;go_wp2_with fail;refine(qjs 0 (by omega) _).mono ?_;rintro e w' ⟨⟨z,rfl⟩,rfl⟩;go_wp2_with fail;refine(q46 z _).mono ?_;rintro e w1 ⟨rfl,rfl⟩;go_wp2_with fail;exact bodyPost_ret (results_none rfl _ _ _) rfl ⟨rfl,h,qah _ _⟩
 . subst e;generalize hn:l.length=n at *;have Hn:=Lib.hid hn;clear hn hlen;go_enter func86,ntmps86;go_wp2_with fail;refine(qjs n hl _).mono ?_;rintro e w' ⟨⟨z,rfl⟩,rfl⟩;go_wp2_with fail;refine(q9c g n cap base l _ h Hn.out.symm hl z).mono ?_;rintro e w1 ⟨rfl,ho,hg⟩;go_wp2_with fail;exact bodyPost_ret (results_none rfl _ _ _) rfl ⟨rfl,ho,hg⟩
theorem qoY(n:Nat)(w:World)(hn:n<=1000):Calls prog 132 #[.slice none 0 0,.int .i64 n] w (qfw w []):=by
 by_cases h0:n=0
 . subst h0;go_enter func132,ntmps132;go_wp2;go_ret;exact⟨_,rfl,qg.nil _ _,qah _ _⟩
 . obtain⟨i,hi,hz0,hz1,hz2⟩:=info_parts qok;have hpos:0<n:=by omega
   have hr:=λty=>Lib.run_append_nil_zeros (P:=prog) w 24 3 ty 3 i (.int .i64 0) .i64 .i64 underlying24 underlying3 hi hz0 n hpos (by omega) (by omega) (by rw[hz2];omega);have hge:n<=grownCap w n 0 3:=grownCap_ge w _ _ _;have hmx:grownCap w n 0 3<=maxLen:=grownCap_le_maxLen w n 0 3 (by unfold maxLen;omega);generalize grownCap w n 0 3=G at hr hge hmx
   have ho:qg (w.drew.alloc (.cells (Builtin.zeroCells (int .i64 0).cells n++Builtin.zeroCells (int .i64 0).cells (G-n)) 3)) w.heap.size (.slice (some ⟨w.heap.size,0,none⟩) 0 G) []:=by
    refine⟨rfl,.inr ⟨w.heap.size,G,_,rfl,Nat.le_refl _,heap_alloc_new w.drew _,Nat.zero_le _,hmx,?_,by simp⟩⟩;rw[Array.size_append,size_zeroCells,size_zeroCells];show n*1+(G-n)*1=G*1;omega
   have hg:w.grownBy (w.drew.alloc (.cells (Builtin.zeroCells (int .i64 0).cells n++Builtin.zeroCells (int .i64 0).cells (G-n)) 3)) none:=qad (qay (qah w none)) (grownBy_alloc w.drew _ none);have qtU:G<=9223372036854775807:=by unfold maxLen at hmx;omega
   generalize Builtin.zeroCells (int .i64 0).cells n++Builtin.zeroCells (int .i64 0).cells (G-n)=Z at hr ho hg;clear hz0 hz1 hz2 hi;go_enter func132,ntmps132;go_wp2_with (at_builtin;refine Lib.wpList_append_run _ rfl _ _ _ _ rfl _ _ rfl rfl _ _ (hr _) ?_);go_ret;exact⟨_,rfl,ho,hg⟩
theorem q25{ops:Array Oper}{rest:List Oper}{o:Oper}{a:Act}{Q:Exit->Act->World->Prop}{w:World}
   (s x:Operand) (t:TypeId) (ht:Tryz.prog.underlying t=some (.slice 3)) (hgd:o.guard=none) (ho:o.op=.call {callee:=.builtin .append,args:=#[s,x],argTypes:=#[t,t]})
   {base:Nat} {v xv:Value} {l0 l:List Int} (hown:qg w base v l0) (hxv:RI w xv l) (hn:l0.length+l.length<=1000000000) (hbase:base<=w.heap.size)
   (hs:a.eval s=v) (hx:a.eval x=xv)
   (h:∀v' w',qg w' base v' (l0++l)->w.grownBy w' v.ownBlock->wpList prog ops Q rest (a.put o.dst v') w') :
   wpList prog ops Q (o::rest) a w:=by
 obtain⟨i,hi,hz0,hz1,hz2⟩:=info_parts qok;obtain⟨A,c,e,hc,hcm,hcn⟩:=TS.form hxv;subst e
 match A,hcn with
 |none,hcn=>
  obtain rfl:=hcn rfl;have hl0:l=[]:=eq_nil_of_length_eq_zero (by omega);subst hl0;refine wpList_append_own_none hgd s x t ho base 3 i 1 ht hi v _ _ hs hown hx ?_;rw[append_nil]at h;exact h _ _ hown (qah _ _)
 |some ad,hcn=>
  refine wpList_append_own _ hgd s x t ho base 3 i _ 1 8 ht hi hz0 hz1 hz2 rfl (by decide) v _ _ hs hown ad l.length c (l.map (.int .i64)) hx (by rw[length_map,Nat.mul_one]) ?_ (qjh l) ?_ ?_ hbase ?_
  . intro j u hj;have hjl:=(List.getElem?_eq_some_iff.1 hj).1;rw[length_map]at hjl;obtain⟨g,o',cur,e,_,hcell⟩:=TS.at_ hxv (by omega);have e2:ad=⟨g,o',none⟩:=Option.some.inj e;rw[e2,Addr.add_lit];exact hcell j u hj
  . unfold maxLen;omega
  . omega
  . intro v' w' h1 h2 _;refine h v' w' ?_ h2;unfold qg;simpa using h1
theorem qo7{ll:List (List Int)}{k:Nat}{l:List Int}(h:ll[k]?=some l):(ll.take (k+1)).flatten=(ll.take k).flatten++l:=by
 obtain⟨hk,rfl⟩:=List.getElem?_eq_some_iff.1 h;rw[take_succ_eq_append_getElem hk,flatten_append];simp
theorem q26(ll:List (List Int))(k:Nat):(ll.take k).flatten.length<=ll.flatten.length:=by
 have e:ll.flatten=(ll.take k).flatten++(ll.drop k).flatten:=by rw[<-flatten_append,take_append_drop]
 rw[e,length_append];omega
theorem q59(v:Value)(ll:List (List Int))(w:World)(h:RL w v ll)(hl:ll.flatten.length<=1000)(hll:ll.length<=1000):Calls prog 85 #[v] w (qfw w ll.flatten):=by
 obtain⟨A,n,c,rfl⟩:=h.val;have hn:=h.len;have hn1:n<=1000:=by omega
 have Hn:=Lib.hid hn;have Hl:=Lib.hid hl;clear hn hl hll;go_enter func85,ntmps85;go_wp2_with fail
 go_loopg [3,11] (n+1) (λmm s i wr=>∃(k z:Nat),k<=n/\mm=n+1-k/\i=.int .i64 k/\s=.int .i64 z/\w=wr/\z<=1000/\Hid (z=(ll.take k).flatten.length))
 case atStart=>exact⟨0,0,Nat.zero_le _,rfl,rfl,rfl,rfl,Nat.zero_le _,rfl⟩
 case round=>
  obtain⟨k,z,hk,rfl,rfl,rfl,rfl,hz,Hz⟩:=hrel;by_cases hlt:k<n
  . obtain⟨g,o,l,B,m,e,rfl,hx,c0,hr,hm,-,-⟩:=h.at_ hlt;have hz2:Hid (z+m=(ll.take (k+1)).flatten.length):=by show _=_;rw[qo7 hx,length_append,<-Hz.out,hm]
    have hzm:z+m<=1000:=by have:=q26 ll (k+1);have:=hz2.out;have:=Hl.out;omega
    clear hx hr hm;go_wp2;go_roundg (n+1-(k+1))
    case measure=>omega
    case rel=>exact⟨k+1,z+m,by omega,rfl,by go_num,by go_num,rfl,hzm,hz2⟩
  . obtain rfl:n=k:=by omega
    go_wp2_with fail;refine(qoY z w hz).mono ?_;rintro e w1 ⟨v1,rfl,ho,hg⟩;obtain⟨A1,n1,c1,rfl⟩:=ho.ri.val;go_wp2_with fail
    go_loopg [6,27] (n+1) (λmm s i wr=>∃(k:Nat),k<=n/\mm=n+1-k/\i=.int .i64 k/\qg wr w.heap.size s (ll.take k).flatten/\w.grownBy wr none)
    case atStart=>exact⟨0,Nat.zero_le _,rfl,rfl,by exact ho,hg⟩
    case round=>
     clear ho hg;obtain⟨k,hk,rfl,rfl,ho,hg⟩:=hrel;obtain⟨A2,n2,c2,rfl⟩:=ho.ri.val;have h2:=h.new hg;by_cases hlt:k<n
     . obtain⟨g,o,l,B,m,e,rfl,hx,c0,hr,hm,-,-⟩:=h2.at_ hlt;have Hx:=Lib.hid hx
       have hb:(ll.take k).flatten.length+l.length<=1000000000:=by
        have h3:=q26 ll (k+1);rw[qo7 hx,length_append]at h3;have:=Hl.out;omega
       clear hx hm;go_wp2_with (at_builtin;go_must (refine q25 (.tmp 31) (.tmp 32) 24 underlying24 rfl rfl ho hr hb hg.size rfl rfl ?_));intro v5 w5 ho5 hg5;have g5:=ho.gb hg hg5 (Nat.le_refl _);rw[<-qo7 Hx.out]at ho5;obtain⟨A5,n5,c5,rfl⟩:=ho5.ri.val;go_wp2;go_roundg (n+1-(k+1))
       case measure=>omega
       case rel=>exact⟨k+1,by omega,rfl,by go_num,ho5,g5⟩
     . obtain rfl:n=k:=by omega
       rw[take_of_length_le (Nat.le_of_eq Hn.out.symm)]at ho;go_wp2;go_ret;exact⟨_,rfl,ho,hg⟩
theorem q6a(qa:List Node)(D:List Int)(hv:qaf qa=true):(qat qa D).length<=10:=by
 have h:=qht qa D;have:=qap hv;omega
def q8j(w:World)(qa:List Node)(c:qj)(e:Ending)(w':World):Prop:=∃b,e=.returned (.bool b)/\(b=true↔c.qb.flatten.Perm (qat qa c.done))/\w.grownBy w' none
theorem qre(v:Value)(qa:List Node)(vs:List (List Int))(c:qj)(w:World)(h:PCV w v qa vs c)(hv:qaf qa=true)(hd4:c.qb.length<=4)(hfit:∀d∈c.qb,d.length<=1048576) :
   Calls prog 49 #[v] w (q8j w qa c):=by
 obtain⟨A0,n0,c0,A5,n5,c5,A1,n1,c1,A2,n2,c2,A3,n3,c3,A4,n4,c4,rfl,h0,h5,h1,h2,h3,h4⟩:=h;have hB:=Blk.new w 72 #[.slice A0 n0 c0,.slice A5 n5 c5,.slice A1 n1 c1,.slice A2 n2 c2,.slice A3 n3 c3,.slice A4 n4 c4];have hg:=grownBy_alloc w (.cells #[.slice A0 n0 c0,.slice A5 n5 c5,.slice A1 n1 c1,.slice A2 n2 c2,.slice A3 n3 c3,.slice A4 n4 c4] 72) none;have Hv:=Lib.hid hv;have hn1:=h1.len;have qnV:n1<=4:=by omega
 have Hn1:=Lib.hid hn1;have qW:=Lib.hid hfit;have H4:=Lib.hid hd4;clear h5 h2 h4 hv hn1 hfit hd4;have k0:=h0.new hg;have k1:=h1.new hg;have k3:=h3.new hg;clear h0 h1 h3;go_enter func49,ntmps49;go_upto_region 1 with fail;generalize w.alloc (.cells #[.slice A0 n0 c0,.slice A5 n5 c5,.slice A1 n1 c1,.slice A2 n2 c2,.slice A3 n3 c3,.slice A4 n4 c4] 72)=W at hB hg k0 k1 k3 |-;have q0:=hB.cell 0;have q4:=hB.cell 4;go_wp2_with fail;refine(q31 _ _ qa c.done W k0 k3 Hv.out).mono ?_;rintro e w1 ⟨rv,rfl,ho1,hg1⟩;obtain⟨Ar,nr,cr,rfl,hnr,hlr⟩:=ho1.ri.form';have qcF:nr<=10:=by have:=q6a qa c.done Hv.out;omega
 have Hlr:=Lib.hid hlr;have B1:=hB.grown hg1 (by simp);have q2:=B1.cell 2;have m1:=k1.new hg1;have g1:=qad hg hg1;clear k0 k1 k3 hB hg hg1 q0 q4 hlr;go_wp2_with fail
 go_loopg [4,19] (n1+1) (λmm s i wr=>∃(k z:Nat),k<=n1/\mm=n1+1-k/\i=.int .i64 k/\s=.int .i64 z/\w1=wr/\z<=nr/\Hid (z=(c.qb.take k).flatten.length))
 case atStart=>exact⟨0,0,Nat.zero_le _,rfl,rfl,rfl,rfl,Nat.zero_le _,rfl⟩
 case round=>
  obtain⟨k,z,hk,rfl,rfl,rfl,rfl,hz,Hz⟩:=hrel;by_cases hlt:k<n1
  . obtain⟨g,o,l,B,m,e,rfl,hx,x0,hr,hm,-,-⟩:=m1.at_ hlt;have hz2:Hid (z+m=(c.qb.take (k+1)).flatten.length):=by show _=_;rw[qo7 hx,length_append,<-Hz.out,hm]
    have hmb:m<=1048576:=by have:=qW.out l (mem_of_getElem? hx);omega
    clear hx hr hm;by_cases kx:nr<z+m
    . have hno:Hid (¬ c.qb.flatten.Perm (qat qa c.done)):=fun hp=>by
       have h1:=hp.length_eq;have h2:=q26 c.qb (k+1);have h3:=hz2.out;have h4:=Hlr.out;omega
      clear hz2;go_wp2;go_ret;exact⟨false,rfl,⟨λe2=>(by cases e2),λe2=>absurd e2 hno.out⟩,g1⟩
    . go_wp2;go_roundg (n1+1-(k+1))
      case measure=>omega
      case rel=>exact⟨k+1,z+m,by omega,rfl,by go_num,by go_num,rfl,by omega,hz2⟩
  . obtain rfl:n1=k:=by omega
    have hfl:c.qb.flatten.length<=10:=by
     have:=Hz.out;rw[take_of_length_le (Nat.le_of_eq Hn1.out.symm)]at this;omega
    have qcM:c.qb.length<=1000:=by have:=H4.out;omega
    clear Hz;go_wp2_with fail;refine(q59 _ c.qb w1 m1 (by omega) qcM).mono ?_;rintro e w2 ⟨av,rfl,ho2,hg2⟩;have qoZ:=ho1.new hg2;obtain⟨Aa,na,ca,rfl⟩:=ho2.ri.val;go_wp2_with fail;refine(q0v _ w1.heap.size c.qb.flatten w2 ho2 (by omega)).mono ?_;rintro e w3 ⟨rfl,ho3,hg3⟩;have g3:=qbd hg2 hg3 (λg e=>.inl (ho2.lt g e).1);have hr3:=ho1.ri.new g3;have g4:=qad g1 g3;clear ho1 qoZ hg2 hg3 g3 g1 ho2;by_cases heq:ql c.qb.flatten=qat qa c.done
    . have He:Hid (decide (ql c.qb.flatten=qat qa c.done)=true):=decide_eq_true heq;have qfU:Hid (c.qb.flatten.Perm (qat qa c.done)):=qxk.1 heq;clear heq;go_wp2_with fail;refine(qqh _ _ _ _ w3 ho3.ri hr3 He.out).mono ?_;rintro e w4 ⟨rfl,hg4⟩;go_wp2;go_ret;exact⟨true,rfl,⟨λ_=>qfU.out,λ_=>rfl⟩,qad g4 hg4⟩
    . have He:Hid (decide (ql c.qb.flatten=qat qa c.done)=false):=decide_eq_false heq;have hno:Hid (¬c.qb.flatten.Perm (qat qa c.done)):=λhp=>heq (qxk.2 hp);clear heq;go_wp2_with fail;refine(qqh _ _ _ _ w3 ho3.ri hr3 He.out).mono ?_;rintro e w4 ⟨rfl,hg4⟩;go_wp2;go_ret;exact⟨false,rfl,⟨λe2=>(by cases e2),λe2=>absurd e2 hno.out⟩,qad g4 hg4⟩
theorem qrf{qa:List Node}{D:List Int}{k:Nat}{x:Int}(hx:D[k]?=some x)(h:qga qa (D.take k) x=false):qb6 qa D=false:=by
 obtain⟨hk,rfl⟩:=List.getElem?_eq_some_iff.1 hx;cases ho:qb6 qa D with
 |false=>rfl
 |true=>rw[qit ho hk]at h;cases h
theorem q0n{qa:List Node}{D:List Int}{k:Nat}{x:Int}(hx:D[k]?=some x)(ho:qd0 qa D k=true)(h:qga qa (D.take k) x=true):qd0 qa D (k+1)=true:=by
 rw[qe0,ho,getD_eq_getElem?_getD,hx];exact h
theorem qpA{qa:List Node}{D:List Int}{q:Nat}{nd:Node}(hv:qaf qa=true)(hq:qa[q]?=some nd):qga qa D (q:Int)=true↔qdb qa.length D q=false/\nd.frm.all (λx=>qdb qa.length D x.toNat)=true:=by
 have hql:=(List.getElem?_eq_some_iff.1 hq).1;rw[qfb,Int.toNat_natCast,qec hq,List.all_eq_true];unfold qdb;constructor
 . rintro⟨-,-,h3,h4⟩;refine⟨by simp[h3],λf hf=>?_⟩;have:=qfk hv (i:=q) (x:=f) (by rw[qec hq];exact hf);rw[Int.toNat_of_nonneg this.1];simp[h4 f hf];omega
 . rintro⟨h3,h4⟩;refine⟨Int.natCast_nonneg q,Int.ofNat_lt.2 hql,λe=>by simp[hql,e]at h3,λf hf=>?_⟩;have h5:=qfk hv (i:=q) (x:=f) (by rw[qec hq];exact hf);have h6:=h4 f hf;rw[Int.toNat_of_nonneg h5.1]at h6;simp only[Bool.and_eq_true,decide_eq_true_eq]at h6;exact h6.2
theorem qh1(v dv:Value)(qa:List Node)(D:List Int)(w:World)(h:RN w v qa)(hd:RI w dv D)(hv:qaf qa=true) :
   Calls prog 47 #[v,dv] w λe w'=>e=.returned (.bool (qb6 qa D))/\w.grownBy w' none:=by
 obtain⟨A,n,c,rfl,-,hn,-⟩:=h.form';obtain⟨B,m,c',rfl,-,hm⟩:=hd.form';have hle:=hd.le;have qtV:m<=9223372036854775807:=by omega
 have vV:n<=10:=by have:=qap hv;omega
 have Hn:=Lib.hid hn;have Hm:=Lib.hid hm;have Hv:=Lib.hid hv;clear hn hm hv hle
 have hM0:MK (w.alloc (.cells #[.bool false,.bool false,.bool false,.bool false,.bool false,.bool false,.bool false,.bool false,.bool false,.bool false] 78)) w.heap.size (qdb n (D.take 0)):=by
  have e:marks (qdb n (D.take 0))=#[.bool false,.bool false,.bool false,.bool false,.bool false,.bool false,.bool false,.bool false,.bool false,.bool false]:=by
   have:qdb n (D.take 0)=λ_=>false:=by
    funext i;simp[qdb]
   rw[this];rfl
  show Blk _ _ _ _;rw[e];exact Blk.new w _ _
 have hg0:w.grownBy (w.alloc (.cells #[.bool false,.bool false,.bool false,.bool false,.bool false,.bool false,.bool false,.bool false,.bool false,.bool false] 78)) none:=qar (qah w none) _;have fin:∀w' b,w.grownBy w' none->qb6 qa D=b->(Ending.returned (.bool b)=.returned (.bool (qb6 qa D))/\w.grownBy w' none):=λw' b hg hr=>⟨by rw[hr],hg⟩;go_enter func47,ntmps47;go_wp2_with fail
 go_loopg [10] (m+1) (λmm i wr=>∃k:Nat,k<=m/\mm=m+1-k/\i=.int .i64 k/\Hid (MK wr w.heap.size (qdb n (D.take k)))/\w.grownBy wr none/\Hid (qd0 qa D k=true))
 case atStart=>exact⟨0,Nat.zero_le _,rfl,rfl,hM0,hg0,rfl⟩
 case round=>
  clear hM0 hg0;obtain⟨k,hk,rfl,rfl,HM,hg,Ho⟩:=hrel;by_cases hlt:k<m
  . obtain⟨g,o,x,rfl,hx,c0⟩:=(hd.new hg).at_ hlt;have Hx:=Lib.hid hx;clear hx;by_cases hxn:0<=x/\x<n
    . obtain⟨q,rfl⟩:=Int.eq_ofNat_of_zero_le hxn.1;have hq:q<n:=by omega
      obtain⟨gp,op,nd,f,r,rfl,hnd,d0,d1,d2,hf,hr⟩:=(h.new hg).at_ hq;obtain⟨Af,nf,cf,rfl⟩:=hf.val;have Hnd:=Lib.hid hnd;have Hst:=Lib.hid (qpA (D:=D.take k) Hv.out hnd)
      have Hin:Hid (∀x∈nd.frm,0<=x/\x<10):=λx hx=>by
       have:=qfk Hv.out (i:=q) (x:=x) (by rw[qec Hnd.out];exact hx);omega
      have c1:=HM.out.cell (k:=q) (by omega);have f1:wr.frozen? ⟨w.heap.size,q,none⟩=false:=Blk.frozen HM.out q;have hb1:Hid ((decide (0<=(q:Int))&&decide ((q:Int)<(n:Int)))=true):=by show _=_;simp;omega
      clear hnd hxn hr;by_cases hmk:qdb n (D.take k) q=true
      . have Hr:Hid (qb6 qa D=false):=qrf Hx.out (by
         cases hs:qga qa (D.take k) (q:Int)with
         |false=>rfl
         |true=>
          have:=(Hst.out.1 hs).1;rw[<-Hn.out,hmk]at this;cases this)
        rw[hmk]at c1;clear hmk;have hfin:=Lib.hid (fin wr false hg Hr.out);clear fin;go_wp2_with fail;refine(qgk _ _ _ q _ hb1.out).mono ?_;rintro e w2 ⟨rfl,rfl⟩;go_wp2;go_ret;exact hfin.out
      . have qfV:qdb n (D.take k) q=false:=by simpa using hmk
        rw[qfV]at c1;have Hmk:=Lib.hid qfV;clear hmk qfV;by_cases hal:nd.frm.all (λx=>qdb n (D.take k) x.toNat)=true
        . have Hal:=Lib.hid hal;clear hal;have Ho2:Hid (qd0 qa D (k+1)=true):=q0n Hx.out Ho.out (Hst.out.2 ⟨by rw[<-Hn.out];exact Hmk.out,by rw[<-Hn.out];exact Hal.out⟩)
          have HM2:Hid (MK (wr.setCell ⟨w.heap.size,q,none⟩ (.bool true)) w.heap.size (qdb n (D.take (k+1)))):=by
           show Blk _ _ _ _;rw[qwg n Hx.out,if_pos ⟨Int.natCast_nonneg q,Int.ofNat_lt.2 hq⟩,Int.toNat_natCast,<-q12 _ (by omega)];exact Blk.jr HM.out q _
          have hg2:w.grownBy (wr.setCell ⟨w.heap.size,q,none⟩ (.bool true)) none:=qbf (p:=⟨w.heap.size,q,none⟩) hg (.inl (Nat.le_refl _)) _;clear fin;go_wp2_with fail;refine(qgk _ _ _ q _ hb1.out).mono ?_;rintro e w2 ⟨rfl,rfl⟩;go_wp2_with fail;refine(qqp _ nd.frm w.heap.size _ wr hf HM.out Hin.out Hal.out).mono ?_;rintro e w2 ⟨rfl,rfl⟩;go_wp2;go_roundg (m+1-(k+1))
          case measure=>omega
          case rel=>exact⟨k+1,by omega,rfl,by go_num,HM2,hg2,Ho2⟩
        . have qiI:nd.frm.all (λx=>qdb n (D.take k) x.toNat)=false:=by simpa using hal
          have Hal:=Lib.hid qiI;clear hal qiI
          have Hr:Hid (qb6 qa D=false):=qrf Hx.out (by
           cases hs:qga qa (D.take k) (q:Int)with
           |false=>rfl
           |true=>
            have:=(Hst.out.1 hs).2;rw[<-Hn.out,Hal.out]at this;cases this)
          have hfin:=Lib.hid (fin wr false hg Hr.out);clear fin;go_wp2_with fail;refine(qgk _ _ _ q _ hb1.out).mono ?_;rintro e w2 ⟨rfl,rfl⟩;go_wp2_with fail;refine(qqp _ nd.frm w.heap.size _ wr hf HM.out Hin.out Hal.out).mono ?_;rintro e w2 ⟨rfl,rfl⟩;go_wp2;go_ret;exact hfin.out
    . have hbn:(decide (0<=x) && decide (x < (n:Int)))=false:=by
       rw[Bool.and_eq_false_iff,decide_eq_false_iff_not,decide_eq_false_iff_not];omega
      have Hbn:=Lib.hid hbn
      have Hr:Hid (qb6 qa D=false):=qrf Hx.out (by
       cases hs:qga qa (D.take k) x with
       |false=>rfl
       |true=>
        have h1:=qfb.1 hs;have h2:=Hn.out;exfalso;exact hxn ⟨h1.1,by omega⟩)
      have hfin:=Lib.hid (fin wr false hg Hr.out);clear hbn hxn fin;go_wp2_with fail;refine(qgk _ _ _ x _ Hbn.out).mono ?_;rintro e w2 ⟨rfl,rfl⟩;go_wp2;go_ret;exact hfin.out
  . obtain rfl:m=k:=by omega
    have Hr:Hid (qb6 qa D=true):=by
     show qd0 qa D D.length=true;rw[<-Hm.out];exact Ho.out
    have hfin:=Lib.hid (fin wr true hg Hr.out);clear fin;go_wp2;go_ret;exact hfin.out
theorem q0o{qa:List Node}{c:qj}:qig qa (values qa) c↔c.rows.length=qa.length/\∀i,i<qa.length->c.rows[i]?=some (qfi qa c.done i):=by
 unfold qig;constructor
 . rintro⟨h1,h2⟩;refine⟨h1,λi hi=>?_⟩;have h3:=h2 i (by omega);unfold rowFine at h3;rw[getD_eq_getElem?_getD,getElem?_eq_getElem (by omega)]at h3;rw[getElem?_eq_getElem (by omega)];exact congrArg some h3
 . rintro⟨h1,h2⟩;refine⟨h1,λi hi=>?_⟩;have h3:=h2 i (by omega);unfold rowFine;rw[getD_eq_getElem?_getD,h3];rfl
theorem qe4{qa:List Node}{c:qj}:qp qa c↔qaf qa=true/\(1<=c.qb.length/\c.qb.length<=4)/\qb6 qa c.done=true/\lefts qa c.done=c.counts/\c.qb.flatten.Perm (qat qa c.done)/\qig qa (values qa) c:=by
 rw[q0o];constructor
 . intro h;exact⟨h.pv,⟨h.d1,h.d4⟩,h.order,h.counts.symm,h.dq,h.rl,h.rows⟩
 . rintro⟨h1,⟨h2,h3⟩,h4,h5,h6,h7,h8⟩;exact⟨h1,h2,h3,h4,h5.symm,h7,h6,h8⟩
theorem qo8(v dv:Value)(qa:List Node)(D:List Int)(w:World)(h:RN w v qa)(hd:RI w dv D)(hv:qaf qa=true){b:Bool}(hb:qb6 qa D=b) :
   Calls prog 47 #[v,dv] w λe w'=>e=.returned (.bool b)/\w.grownBy w' none:=hb▸qh1 v dv qa D w h hd hv
theorem qfc{qa:List Node}{c:qj}(h:¬qp qa c):qa3 qa c=false:=by
 cases hc:qa3 qa c with
 |false=>rfl
 |true=>exact absurd (qbp.1 hc) h
theorem qrg(pv v:Value)(qa:List Node)(c:qj)(w:World)(hp:RN w pv qa)(h:CV w v c)(hfit:∀d∈c.qb,d.length<=1048576) :
   Calls prog 16 #[pv,v] w λe w'=>e=.returned (.bool (qa3 qa c))/\w.grownBy w' none:=by
 obtain⟨A0,n0,c0,rfl,-,-,-⟩:=hp.form';obtain⟨A1,n1,c1,A2,n2,c2,A3,n3,c3,A4,n4,c4,rfl,h1,h2,h3,h4⟩:=h.form;have hB:=Blk.new w 29 #[.slice A1 n1 c1,.slice A2 n2 c2,.slice A3 n3 c3,.slice A4 n4 c4];have hg:=grownBy_alloc w (.cells #[.slice A1 n1 c1,.slice A2 n2 c2,.slice A3 n3 c3,.slice A4 n4 c4] 29) none;have Hn1:=Lib.hid h1.len;have qW:=Lib.hid hfit;have fin:∀w' b,w.grownBy w' none->qa3 qa c=b->(Ending.returned (.bool b)=.returned (.bool (qa3 qa c))/\w.grownBy w' none):=λw' b hg hr=>⟨by rw[hr],hg⟩;have k0:=hp.new hg;have k1:=h1.new hg;have k2:=h2.new hg;have k3:=h3.new hg;have k4:=h4.new hg;clear hp h h1 h2 h3 h4 hfit;go_enter func16,ntmps16;go_upto_region 1 with fail;generalize w.alloc (.cells #[.slice A1 n1 c1,.slice A2 n2 c2,.slice A3 n3 c3,.slice A4 n4 c4] 29)=W at hB hg k0 k1 k2 k3 k4 |-;go_wp2_with fail;refine(ql6 _ qa W k0).mono ?_;rintro e w1 ⟨v1,rfl,ho1,hg1⟩;have B1:=hB.grown hg1 (by simp);have m0:=k0.new hg1;have m1:=k1.new hg1;have m2:=k2.new hg1;have m3:=k3.new hg1;have m4:=k4.new hg1;have g1:=qad hg hg1;have q0:=B1.cell 0;have q1:=B1.cell 1;have q2:=B1.cell 2;have q3:=B1.cell 3;obtain⟨Av,nv,cv,rfl⟩:=ho1.rl.val;clear k0 k1 k2 k3 k4 hB hg hg1;by_cases hv:qaf qa=true
 . have Hv:=Lib.hid hv;rw[hv,if_pos rfl]at ho1;rw[hv];have r5:=ho1.rl;clear hv ho1;by_cases hin:1<=n1/\n1<=4
   . have Hin:Hid ((decide (1<=(n1:Int))&&decide ((n1:Int)<=4))=true):=by show _=_;simp;omega
     have hd4:1<=c.qb.length/\c.qb.length<=4:=by have:=Hn1.out;omega
     by_cases ho:qb6 qa c.done=true
     . have Ho:=Lib.hid ho;clear ho hin;go_wp2_with fail;refine(qgu _ _ Hin.out).mono ?_;rintro e w2 ⟨rfl,rfl⟩;go_wp2_with fail;refine(qo8 _ _ qa c.done w1 m0 m3 Hv.out Ho.out).mono ?_;rintro e w2 ⟨rfl,hg2⟩;have B2:=B1.grown hg2 (by simp);have q0:=B2.cell 0;have q1:=B2.cell 1;have q2:=B2.cell 2;have q3:=B2.cell 3;have P2:PCV w2 (.agg #[.slice A0 n0 c0,.slice Av nv cv,.slice A1 n1 c1,.slice A2 n2 c2,.slice A3 n3 c3,.slice A4 n4 c4]) qa (values qa) c:=⟨_,_,_,_,_,_,_,_,_,_,_,_,_,_,_,_,_,_,rfl,m0.new hg2,r5.new hg2,m1.new hg2,m2.new hg2,m3.new hg2,m4.new hg2⟩;have hP:=Blk.new w2 72 #[.slice A0 n0 c0,.slice Av nv cv,.slice A1 n1 c1,.slice A2 n2 c2,.slice A3 n3 c3,.slice A4 n4 c4];have hgP:=grownBy_alloc w2 (.cells #[.slice A0 n0 c0,.slice Av nv cv,.slice A1 n1 c1,.slice A2 n2 c2,.slice A3 n3 c3,.slice A4 n4 c4] 72) none;have P3:=P2.new hgP;have g3:=qad (qad g1 hg2) hgP;clear m0 m1 m2 m3 m4 r5 B1 P2 hg2 g1;go_upto_region 5 with fail;generalize w2.alloc (.cells #[.slice A0 n0 c0,.slice Av nv cv,.slice A1 n1 c1,.slice A2 n2 c2,.slice A3 n3 c3,.slice A4 n4 c4] 72)=w3 at hP hgP P3 g3 |-;clear hgP B2 q0 q1 q2 q3;have s0:=hP.cell 0;have s1:=hP.cell 1;have s2:=hP.cell 2;have s3:=hP.cell 3;have s4:=hP.cell 4;have s5:=hP.cell 5;by_cases hc:lefts qa c.done=c.counts
       . have Hc:Hid (decide (lefts qa c.done=c.counts)=true):=decide_eq_true hc;have Hc2:=Lib.hid hc;clear hc;go_wp2_with fail;refine(qlh _ qa (values qa) c w3 P3 Hv.out Ho.out Hc.out).mono ?_;rintro e w4 ⟨rfl,hg4⟩;have P4:=P3.new hg4;have hP4:=hP.grown hg4 (by simp);have g4:=qad g3 hg4;clear s0 s1 s2 s3 s4 s5 P3 hP hg4 g3;have s0:=hP4.cell 0;have s1:=hP4.cell 1;have s2:=hP4.cell 2;have s3:=hP4.cell 3;have s4:=hP4.cell 4;have s5:=hP4.cell 5;go_wp2_with fail;refine(qre _ qa (values qa) c w4 P4 Hv.out hd4.2 qW.out).mono ?_;rintro e w5 ⟨b2,rfl,hb2,hg5⟩;have P5:=P4.new hg5;have hP5:=hP4.grown hg5 (by simp);have g5:=qad g4 hg5;have Hb2:=Lib.hid hb2;clear s0 s1 s2 s3 s4 s5 P4 hP4 hg5 g4 hb2;have s0:=hP5.cell 0;have s1:=hP5.cell 1;have s2:=hP5.cell 2;have s3:=hP5.cell 3;have s4:=hP5.cell 4;have s5:=hP5.cell 5;cases b2 with
         |false=>
          have hfin:=Lib.hid (fin w5 false g5 (qfc (λhk=>by have:=Hb2.out.2 (qe4.1 hk).2.2.2.2.1;cases this)));clear fin;go_wp2;go_ret;exact hfin.out
         |true=>
          go_wp2_with fail;refine(qu3 _ qa (values qa) c w5 P5 (qhj qa)).mono ?_;rintro e w6 ⟨b3,rfl,hb3,hg6⟩;have Hb3:=Lib.hid hb3;have g6:=qad g5 hg6;clear hb3 hg6;cases b3 with
          |false=>
           have hfin:=Lib.hid (fin w6 false g6 (qfc (λhk=>by have:=Hb3.out.2 (qe4.1 hk).2.2.2.2.2;cases this)));clear fin;go_wp2;go_ret;exact hfin.out
          |true=>
           have hfin:=Lib.hid (fin w6 true g6 (qbp.2 (qe4.2 ⟨Hv.out,hd4,Ho.out,Hc2.out,Hb2.out.1 (by first|trivial|rfl),Hb3.out.1 (by first|trivial|rfl)⟩)));clear fin;go_wp2;go_ret;exact hfin.out
       . have Hc:Hid (decide (lefts qa c.done=c.counts)=false):=decide_eq_false hc;have hno:Hid (qa3 qa c=false):=qfc (λhk=>hc (qe4.1 hk).2.2.2.1);clear hc;go_wp2_with fail;refine(qlh _ qa (values qa) c w3 P3 Hv.out Ho.out Hc.out).mono ?_;rintro e w4 ⟨rfl,hg4⟩;have hfin:=Lib.hid (fin w4 false (qad g3 hg4) hno.out);clear fin;go_wp2;go_ret;exact hfin.out
     . have ho':qb6 qa c.done=false:=by simpa using ho
       have Ho:=Lib.hid ho';have hno:Hid (qa3 qa c=false):=qfc (λhk=>ho (qe4.1 hk).2.2.1);clear ho ho' hin;go_wp2_with fail;refine(qgu _ _ Hin.out).mono ?_;rintro e w2 ⟨rfl,rfl⟩;go_wp2_with fail;refine(qo8 _ _ qa c.done w1 m0 m3 Hv.out Ho.out).mono ?_;rintro e w2 ⟨rfl,hg2⟩;have hfin:=Lib.hid (fin w2 false (qad g1 hg2) hno.out);clear fin;go_wp2;go_ret;exact hfin.out
   . have Hin:Hid ((decide (1<=(n1:Int)) && decide ((n1:Int)<=4))=false):=by
      show _=_;rw[Bool.and_eq_false_iff,decide_eq_false_iff_not,decide_eq_false_iff_not];omega
     have hno:Hid (qa3 qa c=false):=qfc (λhk=>hin (by have:=(qe4.1 hk).2.1;have:=Hn1.out;omega));clear hin;go_wp2_with fail;refine(qgu _ _ Hin.out).mono ?_;rintro e w2 ⟨rfl,rfl⟩;have hfin:=Lib.hid (fin w1 false g1 hno.out);clear fin;go_wp2;go_ret;exact hfin.out
 . have hv':qaf qa=false:=by simpa using hv
   have hno:Hid (qa3 qa c=false):=qfc (λhk=>hv (qe4.1 hk).1);have hfin:=Lib.hid (fin w1 false g1 hno.out);rw[hv'];clear fin hv hv' ho1;go_wp2;go_ret;exact hfin.out
end
end Go.Proofs.YtacemdoejblgaaaGreatDoor

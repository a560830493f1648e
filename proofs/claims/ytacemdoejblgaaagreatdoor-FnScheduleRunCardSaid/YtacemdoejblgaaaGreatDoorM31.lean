/- Part 31. Conditions: each statement's. -/
import Derived.Test.YtacemdoejblgaaaGreatDoorM30
namespace Go.Proofs.YtacemdoejblgaaaGreatDoor
set_option maxHeartbeats 6400000
set_option maxRecDepth 100000
section
open Go.RowKit
def q4s(qa:List Node)(c:qj):Prop:=qo qa c∨c=qf7
section
variable {B0 rb cb:Nat}{w wx wy:World}{pv d k o r:Value}{qa:List Node}{c:qj}{q q':Int}
theorem Rdr.ne{w:World}{p:Int}(h:Rdr B0 w rb p){E:TypeId}(hE:E≠92):qg w E (some rb):=by
 obtain⟨bv,hb⟩:=h.blk;exact qg.blk hb hE
end
theorem qy3(B0:Nat)(w:World)(v:Value)(n:Nat)(h:Bytes w B0 v n)(hB:B0<=w.heap.size)(hn:n<=1048576) :
   Calls Tryz.prog 40 #[v] w (fun e w'=>∃ rb:Nat,e=.returned (.pointer (some ⟨rb,0,none⟩))/\Rdr B0 w' rb 0/\w.grownBy w' none/\w.heap.size<=rb):=by
 obtain⟨A,c,rfl,hnc,hcells⟩:=h
 have key:∀ k:Nat,k<=n->k<=2000->∀ A' c',A'=A->k<=c'->∃ rb:Nat,Ending.returned (.pointer (some ⟨w.heap.size,0,none⟩))=.returned (.pointer (some ⟨rb,0,none⟩))/\Rdr B0 (w.alloc (.cells #[.slice A' k c',.int .i64 0] 92)) rb 0/\w.grownBy (w.alloc (.cells #[.slice A' k c',.int .i64 0] 92)) none/\w.heap.size<=rb:=by
   intro k hk hk2 A' c' hA hc';subst hA;refine⟨_,rfl,⟨_,k,hk2,Blk.new w _ _,hB,by simp;omega,A',c',rfl,hc',fun hk0=>?_⟩,qap (qag w none) _,Nat.le_refl _⟩;obtain⟨ad,hA,hb,hc⟩:=hcells (by omega);refine⟨ad,hA,hb,fun j hj=>?_⟩;obtain⟨b,h1,h2,h3⟩:=hc j (by omega);exact⟨b,h1,h2,(World.cell?_alloc_lt _ _ _ (by rw [block_add];omega)).trans h3⟩
 have Key:=Lib.hid key;clear key;by_cases hlt:(2000:Int) < n
 . go_enter Tryz.func40,Tryz.ntmps40;go_wp2_with fail;go_ret;exact Key.out 2000 (by omega) (by omega) A c rfl (by omega)
 . go_enter Tryz.func40,Tryz.ntmps40;go_wp2_with fail;go_ret;exact Key.out n (Nat.le_refl _) (by omega) A c rfl hnc
end
section
open Go.RowKit
end
section
open Go.RowKit
def qgz(l:List Int):Prop:=l.length<=21/\∀ x∈l,-9<=x/\x<=8
structure jd(B0 rb:Nat)(w1 wx:World)(cv:Value)(l:List Int)(q:Int):Prop where
 rd:Rdr B0 wx rb q
 o:qf wx w1.heap.size cv l
 g:w1.grownBy wx (some rb)
section
variable {B0 rb:Nat}{w1 wx wy:World}{cv cv':Value}{l:List Int}{q q':Int}
theorem jd.read(M:jd B0 rb w1 wx cv l q)(hg:wx.grownBy wy (some rb))(hr:Rdr B0 wy rb q'):jd B0 rb w1 wy cv l q':=
 ⟨hr,M.o.grown hg (M.rd.ne (by decide)),qac M.g hg⟩
theorem jd.push(M:jd B0 rb w1 wx cv l q){x:Int}(hlt:rb < w1.heap.size)(hB:B0<=w1.heap.size)(hg:wx.grownBy wy cv.ownBlock)(ho:qf wy w1.heap.size cv' (l++[x])):jd B0 rb w1 wy cv' (l++[x]) q:=
 ⟨M.rd.kept hg (fun g e=>⟨Nat.le_trans hB (M.o.lt g e).1,fun e2=>by have:=(M.o.lt g e).1;omega⟩),ho,qa1 M.g hg (fun g e=>.inl (M.o.lt g e).1)⟩
end
def qwx(B0 rb:Nat)(w:World)(p:Int)(e:Ending)(w':World):Prop:=
 ∃ pv cv nw qa l,e=.returned (.tuple #[pv,.int .i64 nw,cv])/\-3<=nw/\nw<=4/\RN w' pv qa/\RI w' cv l/\qig qa/\qgz l/\∃ q,Rdr B0 w' rb q/\w.grownBy w' (some rb)
theorem qq8(B0 rb:Nat)(p:Int)(w:World)(h:Rdr B0 w rb p)(hp0:0<=p)(hp:p<=600000)(hrb:rb < w.heap.size) :
   Calls Tryz.prog 39 #[.pointer (some ⟨rb,0,none⟩)] w (qwx B0 rb w p):=by
 have hB:B0<=w.heap.size:=by obtain⟨_,_,_,_,_,h4,_⟩:=h;exact h4
 go_enter Tryz.func39,Tryz.ntmps39;go_wp2_with fail;refine(qx1 B0 rb p w h (by omega) (by omega)).mono ?_;rintro e w1 ⟨pv,qa,rfl,hpl,hsm,q1,hq0,hq1,zB,hg1⟩;obtain⟨An,nn,cn,rfl,-,-,-⟩:=hpl.form';have Hsm:=Lib.hid hsm;have hgA:=World.grownBy_alloc w1 (.cells #[] 3) none;have M1:jd B0 rb w1 (w1.alloc (.cells #[] 3)) (.slice (some ⟨w1.heap.size,0,none⟩) 0 0) [] q1:=⟨zB.new hgA,qf.empty w1 (Nat.le_refl _),qtg hgA _⟩;have qgP:rb < w1.heap.size:=Nat.lt_of_lt_of_le hrb hg1.size;have hB1:B0<=w1.heap.size:=Nat.le_trans hB hg1.size;have Hg1:=Lib.hid hg1;have hni:qg w1 3 (some rb):=zB.ne (by decide);have hnn:qg w1 81 (some rb):=zB.ne (by decide);go_upto_region 3 with fail;generalize w1.alloc (.cells #[] 3)=w2 at M1 |-;have hcv:∃ c0,c0=w1.heap.size:=⟨_,rfl⟩;obtain⟨c0,hc0⟩:=hcv;rw [<-hc0];have Hc0:=Lib.hid hc0;rw [<-hc0] at M1;clear hsm zB hg1 hgA h hc0;go_wp2_with fail;refine(qcq B0 rb q1 _ _ M1.rd (by omega) (by omega)).mono ?_;rintro e w3 ⟨r3,rfl,hr3,-,vK,hg3⟩;have M3:=M1.read hg3 vK;have qgQ:=hr3 (by omega);clear hr3 M1 vK hg3;go_wp2_with fail;refine(qcq B0 rb (q1+1) _ _ M3.rd (by omega) (by omega)).mono ?_;rintro e w4 ⟨r4,rfl,hr4,-,xd,hg4⟩;have M4:=M3.read hg4 xd;clear hr4 M3 xd hg4
 go_upto_if 16 with fail
 go_cut [7] (fun n7 wx=>∃ m q:Int,n7=.int .i64 m/\0<=m/\m<=21/\q1+2<=q/\q<=q1+3/\jd B0 rb w1 wx (.slice (some ⟨c0,0,none⟩) 0 0) [] q)
 case first=>
   by_cases h0:r4=0
   . have hq:(r4 == 0)=true:=by simpa using h0
     clear h0;go_wp2_with fail;refine(qcq B0 rb (q1+1+1) _ _ M4.rd (by omega) (by omega)).mono ?_;rintro e w5 ⟨r5,rfl,hr5,-,kR,hg5⟩;have M5:=M4.read hg5 kR;have qjC:=hr5 (by omega);have e1:IntKind.i64.wrap (20+r5)=20+r5:=IntWalk.i64_in _ (by omega);clear hr5 M4 kR hg5;go_wp2_with fail;go_meet;exact⟨_,_,rfl,by omega,by omega,by omega,by omega,M5⟩
   . have hq:(r4 == 0)=false:=by simpa using h0
     clear h0;go_wp2_with fail;go_meet;exact⟨_,_,rfl,by omega,by omega,by omega,by omega,M4⟩
 case rest=>
   obtain⟨m,q,rfl,hm0,hm1,hq2,hq3,M⟩:=hcut;clear M4 qgQ;obtain⟨m,rfl⟩:=Int.eq_ofNat_of_zero_le hm0;clear hm0;go_wp2_with fail
   go_loopg [6,8] (m+1) (fun mm v i wr=>∃ (k:Nat) (l:List Int) (q:Int),k<=m/\mm=m+1 - k/\i=.int .i64 k/\jd B0 rb w1 wr v l q/\l.length=k/\Hid (∀ x∈l,-9<=x/\x<=8)/\0<=q/\q<=q1+3+2 * k)
   case atStart=>exact⟨0,[],q,Nat.zero_le _,rfl,rfl,M,rfl,Lib.hid (fun x hx=>by simp at hx),by omega,by omega⟩
   case round=>
     clear M;obtain⟨k,l,q,hk,rfl,rfl,M,hl,Hx,hqa,hqb⟩:=hrel;have Hl:=Lib.hid hl;clear hl;obtain⟨Ac,nc,cc,rfl⟩:=M.o.ri.val;by_cases hlt:k < m
     . have hki:(k:Int) < (m:Int):=by omega
       go_wp2_with fail;refine(qcq B0 rb q _ _ M.rd (by omega) (by omega)).mono ?_;rintro e wa ⟨ra,rfl,hra,-,kp,hga⟩;have Ma:=M.read hga kp;have qgR:=hra (by omega);clear hra M kp hga;go_wp2_with fail;refine(qcq B0 rb (q+1) _ _ Ma.rd (by omega) (by omega)).mono ?_;rintro e wb ⟨rb',rfl,kq,-,kr,hgb⟩;have Mb:=Ma.read hgb kr;have qgS:=kq (by omega)
       have Hx2:Hid (∀ x∈l++[ra - rb' / 59 * 9],-9<=x/\x<=8):=by
         show ∀ x∈_,_;intro x hx;rcases List.mem_append.1 hx with hx | hx
         . exact Hx.out x hx
         . have:x=_:=List.mem_singleton.1 hx;rw [this];omega
       have hll:l.length<=1000000000:=by have:=Hl.out;omega
       clear kq Ma kr hgb;go_wp2_with (at_builtin;go_must (refine qd9 (.tmp 25) (.tmp 33) rfl rfl Mb.o hll Mb.g.size rfl rfl rfl ?_));intro v5 w5 ho5 hg5;have M5:=Mb.push qgP hB1 hg5 ho5;obtain⟨A5,n5,c5,rfl⟩:=ho5.ri.val;clear Mb hg5 ho5;go_wp2_with fail;go_roundg (m+1 - (k+1))
       case measure=>omega
       case rel=>exact⟨k+1,_,_,by omega,rfl,by go_num,M5,by rw [List.length_append,Hl.out];rfl,Hx2,by omega,by omega⟩
     . obtain rfl:m=k:=by omega
       go_wp2_with fail;refine(qcq B0 rb q _ _ M.rd (by omega) (by omega)).mono ?_;rintro e wa ⟨ra,rfl,hra,-,kp,hga⟩;have Ma:=M.read hga kp;have qgR:=hra (by omega);clear hra M kp hga;go_wp2_with fail;refine(qcq B0 rb (q+1) _ _ Ma.rd (by omega) (by omega)).mono ?_;rintro e wb ⟨rb',rfl,kq,-,kr,hgb⟩;have Mb:=Ma.read hgb kr;have qgS:=kq (by omega)
       have hfin:Hid (qwx B0 rb w p (.returned (.tuple #[.slice An nn cn,.int .i64 (1+ra - rb' / 23 * 4),.slice Ac nc cc])) wb):=by
         refine⟨_,_,_,qa,l,rfl,?_,?_,hpl.grown Mb.g hni hnn,Mb.o.ri,Hsm.out,⟨by rw [Hl.out];omega,Hx.out⟩,_,Mb.rd,qac Hg1.out Mb.g⟩
         . omega
         . omega
       clear kq Ma Mb kr hgb hpl;go_wp2_with fail;refine bodyPost_ret (v:=.tuple #[.slice An nn cn,.int .i64 (1+ra - rb' / 23 * 4),.slice Ac nc cc]) (by simp [results,Tryz.results39,go_sem]) rfl ?_;exact hfin.out
def q2b(w:World)(e:Ending)(w':World):Prop:=
 ∃ pv cv nw qa l,e=.returned (.tuple #[pv,.int .i64 nw,cv])/\-3<=nw/\nw<=4/\RN w' pv qa/\RI w' cv l/\qig qa/\qgz l/\w.grownBy w' none
theorem qkf(B0:Nat)(w:World)(v:Value)(n:Nat)(h:Bytes w B0 v n)(hB:B0<=w.heap.size)(hn:n<=1048576):Calls Tryz.prog 12 #[v] w (q2b w):=by
 have h0:=h;obtain⟨A,c,rfl,-,-⟩:=h0;go_enter Tryz.func12,Tryz.ntmps12;go_wp2_with fail;refine(qy3 B0 w _ n h hB hn).mono ?_;rintro e w1 ⟨rb,rfl,hrd,hg,hlt⟩;obtain⟨bv,hbv⟩:=hrd.blk;have kT:=hbv.lt;go_wp2_with fail;refine(qq8 B0 rb 0 w1 hrd (by omega) (by omega) kT).mono ?_;rintro e w2 ⟨pv,cv,nw,qa,l,rfl,h1,h2,h3,h4,h5,h6,q,-,h8⟩;obtain⟨A1,n1,c1,rfl,-,-,-⟩:=h3.form';obtain⟨A2,n2,c2,rfl,-,-⟩:=h4.form';have g:=qa1 hg h8 (fun g e=>by cases e;exact .inl hlt);clear hbv kT hrd hg hlt h8;go_wp2_with fail;refine bodyPost_ret (v:=.tuple #[.slice A1 n1 c1,.int .i64 nw,.slice A2 n2 c2]) (by simp [results,Tryz.results12,go_sem]) rfl ?_;exact⟨_,_,nw,qa,l,rfl,h1,h2,h3,h4,h5,h6,g⟩
def qlf(f:Nat->Int)(n:Nat)(cs:List Int):Prop:=cs.length=n/\∀ i c,cs[i]?=some c->0<=c/\c<=f i
def q8u(w:World)(tb:Nat)(f:Nat->Int)(n:Nat)(cs:List Int)(e:Ending)(w':World):Prop:=
 (qlf f n cs/\e=.returned (.bool true)/\TT w' tb (qjf f cs) n/\w.grownBy w' (some tb))∨(¬ qlf f n cs/\e=.returned (.bool false)/\w.grownBy w' none)
theorem q1l(tb n:Nat)(f:Nat->Int)(cv:Value)(cs:List Int)(w:World)(h:TT w tb f n)(hn:n<=10)(hc:RI w cv cs):Calls Tryz.prog 129 #[.pointer (some ⟨tb,0,none⟩),cv] w (q8u w tb f n cs):=by
 obtain⟨A,m,c,rfl,hmc,hm⟩:=hc.form';have hsz:=h.size;have Hm:=Lib.hid hm;by_cases hmn:m=n
 . subst hmn;clear hm;go_enter Tryz.func129,Tryz.ntmps129;go_wp2_with fail
   go_loopg [16] (m+1) (fun mm i wr=>∃ k:Nat,k<=m/\mm=m+1 - k/\i=.int .i64 k/\w.grownBy wr none/\Hid (∀ i c,i < k->cs[i]?=some c->0<=c/\c<=f i))
   case atStart=>exact⟨0,Nat.zero_le _,rfl,rfl,qag _ _,fun i c hi=>absurd hi (Nat.not_lt_zero _)⟩
   case round=>
     obtain⟨k,hk,rfl,rfl,hg,Hk⟩:=hrel;have T:=h.new hg;have hr:=hc.new hg;by_cases hlt:k < m
     . obtain⟨gu,ou,x,rfl,hx,c0⟩:=hr.at_ hlt;have hz:=T.cell (u:=k) (by omega);have Hx:=Lib.hid hx;clear hx;obtain⟨y,hy⟩:∃ y,y=f k:=⟨_,rfl⟩;rw [<-hy] at hz;have Hy:=Lib.hid hy;clear hy hsz;by_cases h1:x < 0
       . have hno:Hid (¬ qlf f m cs):=fun e=>by have:=(e.2 k x Hx.out).1;omega
         clear T hr h hc;go_wp2_with fail;go_ret;exact .inr ⟨hno.out,rfl,hg⟩
       . by_cases h2:y < x
         . have hno:Hid (¬ qlf f m cs):=fun e=>by have:=(e.2 k x Hx.out).2;have:=Hy.out;omega
           clear T hr h hc;go_wp2_with fail;go_ret;exact .inr ⟨hno.out,rfl,hg⟩
         . go_wp2_with fail;go_roundg (m+1 - (k+1))
           case measure=>omega
           case rel=>exact⟨k+1,by omega,rfl,by go_num,hg,fun i c hi hc'=>by
             by_cases e:i=k
             . subst e;rw [Hx.out] at hc';injection hc' with hc';subst hc';have:=Hy.out;omega
             . exact Hk.out i c (by omega) hc'⟩
     . obtain rfl:m=k:=by omega
       have hfit:Hid (qlf f m cs):=⟨Hm.out.symm,fun i c hc'=>Hk.out i c (by have:=(List.getElem?_eq_some_iff.1 hc').1;have:=Hm.out;omega) hc'⟩;have hl:cs.length<=10:=by have:=Hm.out;omega
       clear hsz Hk hk;go_wp2_with (with_reducible refine qyc (.tmp 37) (.tmp 38) rfl rfl T hr hl rfl rfl ?_);intro z w2 T2 hg2;go_wp2_with fail;go_ret;exact .inl ⟨hfit.out,rfl,T2,qac (qtg hg _) hg2⟩
 . have hb:((m:Int) == (n:Int))=false:=by simp only [beq_eq_false_iff_ne,ne_eq];omega
   have hno:Hid (¬ qlf f n cs):=fun e=>hmn (by rw [hm];exact e.1);clear hm hmn;go_enter Tryz.func129,Tryz.ntmps129;go_wp2_with fail;go_ret;exact .inr ⟨hno.out,rfl,qag _ _⟩
def q7w(w:World)(tb:Nat)(f:Nat->Int)(n:Nat)(us:List Nat)(e:Ending)(w':World):Prop:=
 ((∃ (t u:Nat),us[t]?=some u/\f u=0)/\e=.returned (.tuple #[.slice none 0 0,.bool false])/\w.grownBy w' (some tb)) ∨
 ((∀ u∈us,f u≠0)/\∃ v,e=.returned (.tuple #[v,.bool true])/\qf w' w.heap.size v (qW f us us.length)/\TT w' tb (qeg f us us.length) n/\w.grownBy w' (some tb))
theorem qye(tb n:Nat)(f:Nat->Int)(uv:Value)(us:List Nat)(w:World)(h:TT w tb f n)(hn:n<=10)(hu:RI w uv (us.map (fun j:Nat=>(j:Int))))(hus:∀ u∈us,u < n)(hnd:us.Nodup)(hf:∀ u∈us,0<=f u/\f u<=1000) :
   Calls Tryz.prog 130 #[.pointer (some ⟨tb,0,none⟩),uv] w (q7w w tb f n us):=by
 obtain⟨A,m,c,rfl,hmc,hm⟩:=hu.form';have hm':m=us.length:=by rw [hm,List.length_map]
 have Hm:=Lib.hid hm'
 have yP:m<=10:=by
   have h1:us.length<=n:=qvd hnd hus;omega
 have Hus:=Lib.hid hus;have Hnd:=Lib.hid hnd;have Hf:=Lib.hid hf;have hI0:=h.ne (E:=3) (by decide);have htw:tb < w.heap.size:=Blk.lt h;clear hm hm' hus hnd hf;have T0:TT w tb (qeg f us 0) n:=by rw [qu8];exact h
 go_enter Tryz.func130,Tryz.ntmps130;go_wp2_with fail
 go_loopg [6,11] (m+1) (fun mm r i wr=>∃ t:Nat,t<=m/\mm=m+1 - t/\i=.int .i64 t/\qf wr w.heap.size r (qW f us t)/\TT wr tb (qeg f us t) n/\w.grownBy wr (some tb)/\Hid (∀ i u,i < t->us[i]?=some u->f u≠0))
 case atStart=>exact⟨0,Nat.zero_le _,rfl,rfl,by exact qf.nil w _,T0,qag _ _,fun i c hi=>absurd hi (Nat.not_lt_zero _)⟩
 case round=>
   clear T0 h;obtain⟨t,ht,rfl,rfl,ho,T,hg,Hz⟩:=hrel;obtain⟨Ar,nr,cr,rfl⟩:=ho.ri.val;have hr:=hu.grown hg hI0;by_cases hlt:t < m
   . obtain⟨gu,ou,x,rfl,hx,c0⟩:=hr.at_ hlt;rw [List.getElem?_map] at hx;obtain⟨u,hut,rfl⟩:=Option.map_eq_some_iff.1 hx;have hun:=Hus.out u (List.mem_of_getElem? hut);have qbR:u < 10:=by omega
     have hz:=T.cell qbR;rw [q03 Hnd.out hut] at hz;have hzf:=T.frozen u;have hfu:=Hf.out u (List.mem_of_getElem? hut);have T2:=T.put qbR (f u - 1);rw [<-qnc Hnd.out hut] at T2;have hst:wr.grownBy (wr.setCell ⟨tb,u,none⟩ (.int .i64 (f u - 1))) (some tb):=qa2 (qag _ _) (.inr rfl) _;have ho2:=ho.grown hst (T.ne (by decide));have g2:=qac hg hst;have hz2:=T2.cell qbR;have Hut:=Lib.hid hut;have hzl:=q04 f us t;have Hzs:Hid (qW f us (t+1)=qW f us t++(if f u=1 then [(u:Int)] else [])):=qxu hut
     have Htk:Hid (qeg f us (t+1) u=f u - 1):=by
       show _=_;rw [qnc Hnd.out hut];unfold xw;rw [if_pos rfl]
     rw [Htk.out] at hz2;obtain⟨y,hy⟩:∃ y,y=f u:=⟨_,rfl⟩;rw [<-hy] at hz hfu T2 hst ho2 g2 hz2 Hzs;have Hy:=Lib.hid hy;clear hx hut hy Htk;by_cases h0:y=0
     . subst h0;have hno:Hid (∃ (t u:Nat),us[t]?=some u/\f u=0):=⟨t,u,Hut.out,Hy.out.symm⟩;clear T T2 ho ho2 hst g2 hz2 Hzs;go_wp2_with fail;refine bodyPost_ret (v:=.tuple #[.slice none 0 0,.bool false]) (by simp [results,Tryz.results130,go_sem]) rfl ?_;exact .inl ⟨hno.out,rfl,hg⟩
     . have hb0:(y == 0)=false:=by simpa using h0
       have Hz2:Hid (∀ i v,i < t+1->us[i]?=some v->f v≠0):=by
         intro i v hi hv;by_cases e:i=t
         . subst e;rw [Hut.out] at hv;injection hv with hv;subst hv;rw [<-Hy.out];exact h0
         . exact Hz.out i v (by omega) hv
       have hw1:IntKind.i64.wrap (y - 1)=y - 1:=IntWalk.i64_in _ (by omega);go_upto_region 8 with fail
       go_cut [] (fun wx=>qf wx w.heap.size (.slice Ar nr cr) (qW f us t)/\TT wx tb (qeg f us (t+1)) n/\w.grownBy wx (some tb)/\wx.cell? ⟨tb,u,none⟩=some (.int .i64 (y - 1)))
       case first=>
         go_region
         all_goals
           go_wp2_with fail;go_meet;exact⟨ho2,T2,by first | exact g2 | exact qax g2,hz2⟩
       case rest=>
         obtain⟨ho3,T3,g3,hz3⟩:=hcut;clear T ho T2 ho2 hst g2 hz2 hz hzf hg hr c0;by_cases h1:y=1
         . subst h1;have qbS:Hid (qW f us (t+1)=qW f us t++[(u:Int)]):=Hzs.out;clear Hzs;go_wp2_with (at_builtin;go_must (refine qd9 (.tmp 39) (.tmp 41) rfl rfl ho3 (by omega) (Nat.le_of_lt (Nat.lt_of_lt_of_le htw g3.size) |> fun _=>g3.size) rfl rfl rfl ?_));intro v5 w5 ho5 hg5;have T5:TT w5 tb (qeg f us (t+1)) n:=Blk.past T3 hg5 (ho3.qV (by decide));have g5:=qa1 g3 hg5 (fun g e=>.inl (ho3.lt g e).1);rw [<-qbS.out] at ho5;obtain⟨A5,n5,c5,rfl⟩:=ho5.ri.val;go_wp2_with fail;go_roundg (m+1 - (t+1))
           case measure=>omega
           case rel=>exact⟨t+1,by omega,rfl,by go_num,ho5,T5,g5,Hz2⟩
         . have hb1:(y - 1 == 0)=false:=by simp only [beq_eq_false_iff_ne,ne_eq];omega
           have qbS:Hid (qW f us (t+1)=qW f us t):=by
             show _=_;rw [Hzs.out,if_neg h1,List.append_nil]
           rw [<-qbS.out] at ho3;clear Hzs;go_wp2_with fail;go_roundg (m+1 - (t+1))
           case measure=>omega
           case rel=>exact⟨t+1,by omega,rfl,by go_num,ho3,T3,g3,Hz2⟩
   . obtain rfl:m=t:=by omega
     have hall:Hid (∀ u∈us,f u≠0):=by
       intro u hu';obtain⟨i,hi,rfl⟩:=List.getElem_of_mem hu';exact Hz.out i _ (by have:=Hm.out;omega) (List.getElem?_eq_getElem hi)
     have HH:=Lib.hid ho;have HT:=Lib.hid T;clear ho T;go_wp2_with fail;refine bodyPost_ret (v:=.tuple #[.slice Ar nr cr,.bool true]) (by simp [results,Tryz.results130,go_sem]) rfl ?_;exact .inr ⟨hall.out,_,rfl,by rw [<-Hm.out];exact HH.out,by rw [<-Hm.out];exact HT.out,hg⟩
def CDOut(w:World)(r:Option (List Int × List Int))(e:Ending)(w':World):Prop:=match r with
 | some (k,r)=>∃ kv rv,e=.returned (.tuple #[kv,rv,.bool true])/\qf w' w.heap.size kv k/\qf w' w.heap.size rv r/\w.grownBy w' none
 | none=>e=.returned (.tuple #[.slice none 0 0,.slice none 0 0,.bool false])/\w.grownBy w' none
theorem q8v{qa:List Node}{cs:List Int}{x:Int}(h:qae qa=false):qb1 qa cs x=none:=by unfold qb1;rw [h];rfl
theorem q8w{qa:List Node}{cs:List Int}{x:Int}(h:(decide (0<=x) && decide (x < qa.length))=false):qb1 qa cs x=none:=by unfold qb1;rw [h,Bool.and_false];rfl
theorem q54{qa:List Node}(hv:qae qa=true){cs:List Int}{x:Int}(h:¬ qlf (qf0 qa qa.length) qa.length cs):qb1 qa cs x=none:=by
 unfold qb1;by_cases hl:cs.length=qa.length
 . have:∃ i c,cs[i]?=some c/\¬ (0<=c/\c<=qf0 qa qa.length i):=by
     apply Classical.byContradiction;intro hno;refine h ⟨hl,fun i c hc=>?_⟩;apply Classical.byContradiction;intro h2;exact hno ⟨i,c,hc,h2⟩
   obtain⟨i,c,hc,h2⟩:=this;rw [qpd hv] at h2;have hi:=(List.getElem?_eq_some_iff.1 hc).1;rw [qpe (by omega) hc h2,Bool.and_false];rfl
 . rw [decide_eq_false hl,Bool.and_false];rfl
theorem qvx{f:Nat->Int}{cs:List Int}{u:Nat}(h:u < cs.length):qjf f cs u=cs.getD u 0:=by
 rw [qkw (List.getElem?_eq_getElem h),List.getD_eq_getElem?_getD,List.getElem?_eq_getElem h];rfl
theorem q7x{qa:List Node}(hv:qae qa=true){cs:List Int}{x t u:Nat}{f:Nat->Int}(hl:cs.length=qa.length)(hu:(qb3 qa x)[t]?=some u)(hz:qjf f cs u=0):qb1 qa cs (x:Int)=none:=by
 unfold qb1;have hm:=((qgh hv).1 (List.mem_of_getElem? hu)).1;rw [qrv hv hu (by rw [<-qvx (f:=f) (by omega)];exact hz),Bool.and_false];rfl
theorem q9a{qa:List Node}(hv:qae qa=true){cs:List Int}{x:Nat}(hx:x < qa.length)(hfit:qlf (qf0 qa qa.length) qa.length cs)(hnz:∀ u∈qb3 qa x,qjf (qf0 qa qa.length) cs u≠0) :
   qb1 qa cs (x:Int)=some ((List.range qa.length).map (qeg (qjf (qf0 qa qa.length) cs) (qb3 qa x) (qb3 qa x).length),qW (qjf (qf0 qa qa.length) cs) (qb3 qa x) (qb3 qa x).length):=by
 have hl:=hfit.1
 have h1:qei qa cs (x:Int)=true:=qtn hv hl (fun i c hc=>by have:=hfit.2 i c hc;rwa [qpd hv] at this) (fun u hu=>by
   have hm:=((qgh hv).1 hu).1;rw [<-qvx (f:=qf0 qa qa.length) (by omega)];exact hnz u hu)
 unfold qb1;rw [qu9 hv hl _ x _ (Nat.le_refl _),qva hv hl _ x _ (Nat.le_refl _),if_pos];rw [hv,h1,decide_eq_true hl,decide_eq_true (Int.natCast_nonneg x),decide_eq_true (Int.ofNat_lt.2 hx)];rfl
theorem q1m{qa:List Node}(hv:qae qa=true){cs:List Int}{x:Nat}(hfit:qlf (qf0 qa qa.length) qa.length cs):∀ u∈qb3 qa x,0<=qjf (qf0 qa qa.length) cs u/\qjf (qf0 qa qa.length) cs u<=1000:=by
 intro u hu;have hm:=((qgh hv).1 hu).1;have hl:=hfit.1;have hg:cs[u]?=some cs[u]:=List.getElem?_eq_getElem (by omega);rw [qkw hg];have h1:=hfit.2 u _ hg;have h2:=qu7 hv qa.length 0 u;rw [qpb] at h2;omega
theorem qh6(v:Value)(qa:List Node)(w:World)(h:RN w v qa)(hv:qae qa=true):Calls Tryz.prog 65 #[v] w (qes w (qa6 qa)):=by
 obtain⟨A,n,c,rfl,-,-,-⟩:=h.form';go_enter Tryz.func65,Tryz.ntmps65;go_wp2_with fail;refine(qb6 _ qa _ h hv).mono ?_;rintro e w1 ⟨rfl,hg1⟩;have h1:=h.new hg1;go_wp2_with fail;refine(qh5 _ qa _ h1 hv).mono ?_;rintro e w2 ⟨tb,rfl,T,htb,hg2⟩;go_wp2_with fail;refine(qp5 tb _ _ _ T (qal hv)).mono ?_;rintro e w3 ⟨v3,rfl,ho,hg3⟩;have g2:=qac hg1 hg2;rw [q02 hv] at ho;obtain⟨A3,n3,c3,rfl⟩:=ho.ri.val;go_wp2_with fail;go_ret;exact⟨_,rfl,ho.lower g2.size,qac g2 hg3⟩
theorem qgt(v cv:Value)(qa:List Node)(cs:List Int)(x:Int)(w:World)(h:RN w v qa)(hc:RI w cv cs):Calls Tryz.prog 82 #[v,cv,.int .i64 x] w (CDOut w (qb1 qa cs x)):=by
 obtain⟨A,n,c,rfl,-,hn,-⟩:=h.form';obtain⟨B,m,k,rfl⟩:=hc.val;have Hn:=Lib.hid hn;clear hn;have fin:∀ w',w.grownBy w' none->qb1 qa cs x=none->CDOut w (qb1 qa cs x) (.returned (.tuple #[.slice none 0 0,.slice none 0 0,.bool false])) w':=fun w' hg hr=>by rw [hr];exact⟨rfl,hg⟩
 by_cases hv:qae qa=true
 . have Hv:=Lib.hid hv;have jF:=qal hv;by_cases hin:0<=x/\x < (n:Int)
   . have Hin:Hid ((decide (0<=x) && decide (x < (n:Int)))=true):=by show _=_;simp [hin.1,hin.2]
     obtain⟨x,rfl⟩:=Int.eq_ofNat_of_zero_le hin.1;have hx:x < qa.length:=by have:=Hn.out;omega
     clear hv hin;go_enter Tryz.func82,Tryz.ntmps82;go_wp2_with fail;refine(qb6 _ qa _ h Hv.out).mono ?_;rintro e w1 ⟨rfl,hg1⟩;go_wp2_with fail;refine(qfa _ _ _ _ _ Hin.out).mono ?_;rintro e w1' ⟨rfl,rfl⟩;go_wp2_with fail;refine(qh5 _ qa w1 (h.new hg1) Hv.out).mono ?_;rintro e w2 ⟨tb,rfl,T,htb,hg2⟩;have g2:=qac hg1 hg2;have qbT:w.heap.size<=tb:=Nat.le_trans hg1.size htb;have hI:=T.ne (E:=3) (by decide);have hN:=T.ne (E:=81) (by decide);go_wp2_with fail;refine(q1l tb _ _ _ cs w2 T jF (hc.new g2)).mono ?_;rintro e w3 (⟨hfit,rfl,T3,hg3⟩ | ⟨hfit,rfl,hg3⟩)
     . have g3:=qa1 g2 hg3 (fun g e=>by cases e;exact .inl qbT);have h3:=(h.new g2).grown hg3 hI hN;have qD:=Lib.hid hfit;clear hfit hg1 hg2;go_wp2_with fail;refine(qng _ qa x w3 h3 Hv.out hx).mono ?_;rintro e w4 ⟨uv,rfl,hu,hg4⟩;rw [qnf Hv.out] at hu;have T4:=T3.new hg4;have g4:=qac g3 hg4;obtain⟨Au,mu,cu,rfl⟩:=hu.ri.val;go_wp2_with fail;refine(qye tb _ _ _ (qb3 qa x) w4 T4 jF hu.ri (fun u hu'=>(qgi.1 hu').1) (qk1 qa x) (q1m Hv.out qD.out)).mono ?_;rintro e w5 (⟨⟨t,u,hut,hz⟩,rfl,hg5⟩ | ⟨hnz,rv,rfl,ho5,T5,hg5⟩)
       . have g5:=qa1 g4 hg5 (fun g e=>by cases e;exact .inl qbT);have hfin:=Lib.hid (fin w5 g5 (q7x Hv.out qD.out.1 hut hz));clear hut hz fin T T3 T4 hu;go_wp2_with fail;refine bodyPost_ret (v:=.tuple #[.slice none 0 0,.slice none 0 0,.bool false]) (by simp [results,Tryz.results82,go_sem]) rfl ?_;exact hfin.out
       . have g5:=qa1 g4 hg5 (fun g e=>by cases e;exact .inl qbT);have Hr:=Lib.hid (q9a Hv.out hx qD.out hnz);obtain⟨Ar,nr,cr,rfl⟩:=ho5.ri.val;clear hnz fin T T3 T4 hu;go_wp2_with fail;refine(qp5 tb _ _ w5 T5 jF).mono ?_;rintro e w6 ⟨lv,rfl,ho6,hg6⟩;obtain⟨Al,nl,cl,rfl⟩:=ho6.ri.val;have g6:=qac g5 hg6
         have hfin:Hid (CDOut w (qb1 qa cs (x:Int)) (.returned (.tuple #[.slice Al nl cl,.slice Ar nr cr,.bool true])) w6):=by
           show CDOut _ _ _ _;rw [Hr.out];exact⟨_,_,rfl,ho6.lower g5.size,(ho5.new hg6).lower g4.size,g6⟩
         clear ho5 ho6;go_wp2_with fail;refine bodyPost_ret (v:=.tuple #[.slice Al nl cl,.slice Ar nr cr,.bool true]) (by simp [results,Tryz.results82,go_sem]) rfl ?_;exact hfin.out
     . have hfin:=Lib.hid (fin w3 (qac g2 hg3) (q54 Hv.out hfit));clear hfit fin T;go_wp2_with fail;refine bodyPost_ret (v:=.tuple #[.slice none 0 0,.slice none 0 0,.bool false]) (by simp [results,Tryz.results82,go_sem]) rfl ?_;exact hfin.out
   . have za:(decide (0<=x) && decide (x < (n:Int)))=false:=by
       simp only [Bool.and_eq_false_iff,decide_eq_false_iff_not];omega
     have Hin:=Lib.hid za;have Hr:Hid (qb1 qa cs x=none):=q8w (by rw [<-Hn.out];exact za);clear hv hin za;go_enter Tryz.func82,Tryz.ntmps82;go_wp2_with fail;refine(qb6 _ qa _ h Hv.out).mono ?_;rintro e w1 ⟨rfl,hg1⟩;go_wp2_with fail;refine(qfa _ _ _ _ _ Hin.out).mono ?_;rintro e w1' ⟨rfl,rfl⟩;have hfin:=Lib.hid (fin w1 hg1 Hr.out);clear fin;go_wp2_with fail;refine bodyPost_ret (v:=.tuple #[.slice none 0 0,.slice none 0 0,.bool false]) (by simp [results,Tryz.results82,go_sem]) rfl ?_;exact hfin.out
 . have hv':qae qa=false:=by simpa using hv
   have Hv:=Lib.hid hv';clear hv hv';go_enter Tryz.func82,Tryz.ntmps82;go_wp2_with fail;refine(qb6 _ qa _ h Hv.out).mono ?_;rintro e w1 ⟨rfl,hg1⟩;have hfin:=Lib.hid (fin w1 hg1 (q8v Hv.out));clear fin;go_wp2_with fail;refine bodyPost_ret (v:=.tuple #[.slice none 0 0,.slice none 0 0,.bool false]) (by simp [results,Tryz.results82,go_sem]) rfl ?_;exact hfin.out
theorem q3u(v:Value)(l:List Int)(x:Int)(w:World)(h:RI w v l):Calls Tryz.prog 178 #[v,.int .i64 x] w fun e w'=>∃ z:Int,e=.returned (.int .i64 z)/\(x∈l↔0<=z)/\w=w':=by
 obtain⟨A,n,c,rfl,-,hn⟩:=h.form';have hle:=h.le;have hn9:n<=9223372036854775807:=by omega
 have Hn:=Lib.hid hn;clear hn;go_enter Tryz.func178,Tryz.ntmps178;go_wp2_with fail
 go_loopg [8] (n+1) (fun mm i wr=>∃ k:Nat,k<=n/\mm=n+1 - k/\i=.int .i64 k/\w=wr/\Hid (∀ j,j < k->l[j]?≠some x))
 case atStart=>exact⟨0,Nat.zero_le _,rfl,rfl,rfl,fun j hj=>absurd hj (Nat.not_lt_zero _)⟩
 case round=>
   obtain⟨k,hk,rfl,rfl,rfl,Hk⟩:=hrel;by_cases hlt:k < n
   . obtain⟨g,o,y,rfl,hy,c0⟩:=h.at_ hlt;have Hy:=Lib.hid hy;clear hy;by_cases e:x=y
     . subst e;have hin:Hid (x∈l):=List.mem_of_getElem? Hy.out;go_wp2_with fail;go_ret;exact⟨k,rfl,⟨fun _=>by omega,fun _=>hin.out⟩,rfl⟩
     . have hb:(x == y)=false:=by simpa using e
       go_wp2_with fail;go_roundg (n+1 - (k+1))
       case measure=>omega
       case rel=>exact⟨k+1,by omega,rfl,by go_num,rfl,fun j hj=>by
         by_cases e2:j=k
         . subst e2;rw [Hy.out];intro e3;injection e3 with e3;exact e e3.symm
         . exact Hk.out j (by omega)⟩
   . obtain rfl:n=k:=by omega
     have hno:Hid (x∉l):=fun hx=>by
       obtain⟨j,hj,e⟩:=List.getElem_of_mem hx;exact Hk.out j (by have:=Hn.out;omega) (by rw [List.getElem?_eq_getElem hj,e])
     go_wp2_with fail;go_ret;exact⟨-1,rfl,⟨fun hx=>absurd hx hno.out,fun hx=>by omega⟩,rfl⟩
theorem qvy(v:Value)(l:List Int)(x:Int)(w:World)(h:RI w v l):Calls Tryz.prog 135 #[v,.int .i64 x] w fun e w'=>e=.returned (.bool (decide (x∈l)))/\w=w':=by
 obtain⟨A,n,c,rfl,-,-⟩:=h.form';go_enter Tryz.func135,Tryz.ntmps135;go_wp2_with fail;refine(q3u _ l x _ h).mono ?_;rintro e w1 ⟨z,rfl,hz,rfl⟩;have Hz:=Lib.hid hz;clear hz;by_cases hp:0<=z
 . have hin:Hid (decide (x∈l)=true):=decide_eq_true (Hz.out.2 hp);go_wp2_with fail;go_ret;exact⟨by rw [hin.out];rfl,rfl⟩
 . have hin:Hid (decide (x∈l)=false):=decide_eq_false (fun h=>hp (Hz.out.1 h));go_wp2_with fail;go_ret;have hd:decide (0<=z)=false:=decide_eq_false (by omega);exact⟨by rw [hin.out,<-hd];rfl,rfl⟩
def PCV(w:World)(v:Value)(qa:List Node)(vs:List (List Int))(c:qj):Prop:=
 ∃ A0 n0 c0 A5 n5 c5 A1 n1 c1 A2 n2 c2 A3 n3 c3 A4 n4 c4,v=.agg #[.slice A0 n0 c0,.slice A5 n5 c5,.slice A1 n1 c1,.slice A2 n2 c2,.slice A3 n3 c3,.slice A4 n4 c4] /\
   RN w (.slice A0 n0 c0) qa/\RL w (.slice A5 n5 c5) vs/\RL w (.slice A1 n1 c1) c.qb/\RI w (.slice A2 n2 c2) c.counts/\RI w (.slice A3 n3 c3) c.done/\RL w (.slice A4 n4 c4) c.rows
theorem PCV.new{w w':World}{v:Value}{qa:List Node}{vs:List (List Int)}{c:qj}(h:PCV w v qa vs c)(hg:w.grownBy w' none):PCV w' v qa vs c:=by
 obtain⟨A0,n0,c0,A5,n5,c5,A1,n1,c1,A2,n2,c2,A3,n3,c3,A4,n4,c4,rfl,h0,h5,h1,h2,h3,h4⟩:=h;exact⟨_,_,_,_,_,_,_,_,_,_,_,_,_,_,_,_,_,_,rfl,h0.new hg,h5.new hg,h1.new hg,h2.new hg,h3.new hg,h4.new hg⟩
theorem q1n(v:Value)(qa:List Node)(vs:List (List Int))(c:qj)(x:Int)(w:World)(h:PCV w v qa vs c):Calls Tryz.prog 87 #[v,.int .i64 x] w fun e w'=>e=.returned (.bool (decide (x∈c.done)))/\w.grownBy w' none:=by
 obtain⟨A0,n0,c0,A5,n5,c5,A1,n1,c1,A2,n2,c2,A3,n3,c3,A4,n4,c4,rfl,h0,h5,h1,h2,h3,h4⟩:=h;have hB:=Blk.new w 72 #[.slice A0 n0 c0,.slice A5 n5 c5,.slice A1 n1 c1,.slice A2 n2 c2,.slice A3 n3 c3,.slice A4 n4 c4];have hg:=World.grownBy_alloc w (.cells #[.slice A0 n0 c0,.slice A5 n5 c5,.slice A1 n1 c1,.slice A2 n2 c2,.slice A3 n3 c3,.slice A4 n4 c4] 72) none;clear h0 h5 h1 h2 h4;have h3':=h3.new hg;go_enter Tryz.func87,Tryz.ntmps87;go_upto_region 1 with fail;generalize w.alloc (.cells #[.slice A0 n0 c0,.slice A5 n5 c5,.slice A1 n1 c1,.slice A2 n2 c2,.slice A3 n3 c3,.slice A4 n4 c4] 72)=W at hB hg h3' |-;have q4:=hB.cell 4;go_wp2_with fail;refine(qvy _ _ x W h3').mono ?_;rintro e w1 ⟨rfl,rfl⟩;go_wp2_with fail;go_ret;exact⟨rfl,hg⟩
theorem q3v{qa:List Node}{D:List Int}(ho:qbu qa D=true):D.length<=qa.length:=by
 have h:=qtj (qo8 ho) (m:=(List.range qa.length).map (fun i:Nat=>(i:Int))) (fun y hy=>by
   obtain⟨h0,h1,_⟩:=qic ho hy;exact List.mem_map.2 ⟨y.toNat,List.mem_range.2 (by omega),by omega⟩)
 rwa [List.length_map,List.length_range] at h
theorem q3w{qa:List Node}(hv:qae qa=true){D:List Int}(ho:qbu qa D=true){k:Nat}{x:Int}(hx:D[k]?=some x) :
   qb1 qa (lefts qa (D.take k)) x=some (lefts qa (D.take (k+1)),qbl qa (lefts qa (D.take k)) x):=by
 obtain⟨hk,rfl⟩:=List.getElem?_eq_some_iff.1 hx;obtain⟨h1,h2,h3,-⟩:=qd8.1 (qg9 ho hk);rw [qkt hv h1 h2 h3,List.take_succ_eq_append_getElem hk]
theorem qip(v:Value)(qa:List Node)(vs:List (List Int))(c:qj)(w:World)(h:PCV w v qa vs c)(hv:qae qa=true)(ho:qbu qa c.done=true){b:Bool}(hb:decide (lefts qa c.done=c.counts)=b) :
   Calls Tryz.prog 48 #[v] w fun e w'=>e=.returned (.bool b)/\w.grownBy w' none:=by
 obtain⟨A0,n0,c0,A5,n5,c5,A1,n1,c1,A2,n2,c2,A3,n3,c3,A4,n4,c4,rfl,h0,h5,h1,h2,h3,h4⟩:=h;have hB:=Blk.new w 72 #[.slice A0 n0 c0,.slice A5 n5 c5,.slice A1 n1 c1,.slice A2 n2 c2,.slice A3 n3 c3,.slice A4 n4 c4];have hg:=World.grownBy_alloc w (.cells #[.slice A0 n0 c0,.slice A5 n5 c5,.slice A1 n1 c1,.slice A2 n2 c2,.slice A3 n3 c3,.slice A4 n4 c4] 72) none;have Hv:=Lib.hid hv;have Ho:=Lib.hid ho;have Hb:=Lib.hid hb;have hn3:=h3.len;have zC:n3<=10:=by have:=q3v ho;have:=qal hv;omega
 have Hn3:=Lib.hid hn3;clear h5 h1 h4 hv ho hb hn3;go_enter Tryz.func48,Tryz.ntmps48;go_upto_region 1 with fail;have k0:=h0.new hg;have k2:=h2.new hg;have k3:=h3.new hg;clear h0 h2 h3;generalize w.alloc (.cells #[.slice A0 n0 c0,.slice A5 n5 c5,.slice A1 n1 c1,.slice A2 n2 c2,.slice A3 n3 c3,.slice A4 n4 c4] 72)=W at hB hg k0 k2 k3 |-;have q0:=hB.cell 0;go_wp2_with fail;refine(qh6 _ qa W k0 Hv.out).mono ?_;rintro e w1 ⟨v1,rfl,ho1,hg1⟩;have B1:=hB.grown hg1 (by simp);have q4:=B1.cell 4;obtain⟨Ac,nc,cc,rfl⟩:=ho1.ri.val;have hr1:=ho1.ri;rw [<-qo9] at hr1;have m0:=k0.new hg1;have m2:=k2.new hg1;have m3:=k3.new hg1;have g1:=qac hg hg1;clear k0 k2 k3 ho1 hg1 hB hg q0;go_wp2_with fail
 go_loopg [3,17] (n3+1) (fun mm kv i wr=>∃ k:Nat,k<=n3/\mm=n3+1 - k/\i=.int .i64 k/\RI wr kv (lefts qa (c.done.take k))/\w1.grownBy wr none)
 case atStart=>exact⟨0,Nat.zero_le _,rfl,rfl,by exact hr1,qag _ _⟩
 case round=>
   obtain⟨k,hk,rfl,rfl,hr,hg⟩:=hrel;clear hr1 q4;obtain⟨Ar,nr,cr,rfl⟩:=hr.val;have B2:=B1.grown hg (by simp);have q0:=B2.cell 0;have q3:=B2.cell 3;have p0:=m0.new hg;have p2:=m2.new hg;have p3:=m3.new hg;by_cases hlt:k < n3
   . obtain⟨g,o,x,rfl,hx,x0⟩:=p3.at_ hlt;have Hd:=Lib.hid (q3w Hv.out Ho.out hx);clear hx q3;go_wp2_with fail;refine(qgt _ _ qa (lefts qa (c.done.take k)) x wr p0 hr).mono ?_;intro e w2 hO;rw [Hd.out] at hO;obtain⟨kv,rv,rfl,o1,o2,hg2⟩:=hO;obtain⟨Ak,nk,ck,rfl⟩:=o1.ri.val;obtain⟨Aq,nq,cq,rfl⟩:=o2.ri.val;have r2:=o1.ri;have g2:=qac hg hg2;clear hr p0 p2 p3 q0 o1 o2 B2;go_wp2_with fail;go_roundg (n3+1 - (k+1))
     case measure=>omega
     case rel=>exact⟨k+1,by omega,rfl,by go_num,r2,g2⟩
   . obtain rfl:n3=k:=by omega
     have he:lefts qa (c.done.take n3)=lefts qa c.done:=by rw [List.take_of_length_le (Nat.le_of_eq Hn3.out.symm)]
     rw [he] at hr;clear he q0 p0 p3;go_wp2_with fail;refine(qlx _ _ _ _ wr hr p2 Hb.out).mono ?_;rintro e w2 ⟨rfl,hg2⟩;go_wp2_with fail;go_ret;exact⟨rfl,qac g1 (qac hg hg2)⟩
def rowFine(vs:List (List Int))(c:qj)(i:Nat):Prop:=c.rows.getD i []=if (i:Int)∈c.done then vs.getD i [] else []
def qgu(qa:List Node)(vs:List (List Int))(c:qj):Prop:=c.rows.length=qa.length/\∀ i,i < c.rows.length->rowFine vs c i
def q7y(w:World)(qa:List Node)(vs:List (List Int))(c:qj)(e:Ending)(w':World):Prop:=∃ b,e=.returned (.bool b)/\(b=true↔qgu qa vs c)/\w.grownBy w' none
theorem qz2(v:Value)(qa:List Node)(vs:List (List Int))(c:qj)(x:Int)(w:World)(h:PCV w v qa vs c){b:Bool}(hb:decide (x∈c.done)=b):Calls Tryz.prog 87 #[v,.int .i64 x] w fun e w'=>e=.returned (.bool b)/\w.grownBy w' none:=hb ▸ q1n v qa vs c x w h
theorem PCV.form{w:World}{A0:Option Addr}{n0 c0:Nat}{A5:Option Addr}{n5 c5:Nat}{A1:Option Addr}{n1 c1:Nat}{A2:Option Addr}{n2 c2:Nat}{A3:Option Addr}{n3 c3:Nat}{A4:Option Addr}{n4 c4:Nat}{qa:List Node}{vs:List (List Int)}{c:qj}(h:PCV w (.agg #[.slice A0 n0 c0,.slice A5 n5 c5,.slice A1 n1 c1,.slice A2 n2 c2,.slice A3 n3 c3,.slice A4 n4 c4]) qa vs c) :
   RN w (.slice A0 n0 c0) qa/\RL w (.slice A5 n5 c5) vs/\RL w (.slice A4 n4 c4) c.rows:=by
 obtain⟨A0',n0',c0',A5',n5',c5',A1',n1',c1',A2',n2',c2',A3',n3',c3',A4',n4',c4',e,h0,h5,h1,h2,h3,h4⟩:=h;injection e with e;injection e with e;injection e with e0 e;injection e with e5 e;injection e with e1 e;injection e with e2 e;injection e with e3 e;injection e with e4 e;rw [e0,e5,e4];exact⟨h0,h5,h4⟩
theorem qp6(v:Value)(qa:List Node)(vs:List (List Int))(c:qj)(w:World)(h:PCV w v qa vs c)(hvs:vs.length=qa.length) :
   Calls Tryz.prog 50 #[v] w (q7y w qa vs c):=by
 obtain⟨A0,n0,c0,A5,n5,c5,A1,n1,c1,A2,n2,c2,A3,n3,c3,A4,n4,c4,rfl,h0,h5,h1,h2,h3,h4⟩:=id h;have hB:=Blk.new w 72 #[.slice A0 n0 c0,.slice A5 n5 c5,.slice A1 n1 c1,.slice A2 n2 c2,.slice A3 n3 c3,.slice A4 n4 c4];have hg:=World.grownBy_alloc w (.cells #[.slice A0 n0 c0,.slice A5 n5 c5,.slice A1 n1 c1,.slice A2 n2 c2,.slice A3 n3 c3,.slice A4 n4 c4] 72) none;have hn0:=h0.len;have hn4:=h4.len;have hn5:=h5.len
 have qjD:n4<=9223372036854775807:=by
   obtain⟨xs,t1,-⟩:=id h4;have:=t1.le;omega
 have P0:=h.new hg;have Hn0:=Lib.hid hn0;have Hn4:=Lib.hid hn4;clear h0 h1 h2 h3 h4 h5;by_cases hll:n4=n0
 . subst hll;have qgT:n5=n4:=by omega
   subst qgT;clear hn0 hn4 hn5 hvs h;go_enter Tryz.func50,Tryz.ntmps50;go_upto_region 1 with fail;generalize w.alloc (.cells #[.slice A0 n5 c0,.slice A5 n5 c5,.slice A1 n1 c1,.slice A2 n2 c2,.slice A3 n3 c3,.slice A4 n5 c4] 72)=W at hB hg P0 |-;have q0:=hB.cell 0;have q5:=hB.cell 5;go_wp2_with fail
   go_loopg [18] (n5+1) (fun mm i wr=>∃ k:Nat,k<=n5/\mm=n5+1 - k/\i=.int .i64 k/\W.grownBy wr none/\Hid (∀ i,i < k->rowFine vs c i))
   case atStart=>exact⟨0,Nat.zero_le _,rfl,rfl,qag _ _,fun i hi=>absurd hi (Nat.not_lt_zero _)⟩
   case round=>
     clear q0 q5;obtain⟨k,hk,rfl,rfl,hgr,Hk⟩:=hrel;have B2:=hB.grown hgr (by simp);have P2:=P0.new hgr;have gw:=qac hg hgr;by_cases hlt:k < n5
     . obtain⟨-,p5,p4⟩:=P2.form;obtain⟨g,o,l,B,m,e',rfl,hl,x0,hrl,hml,-,-⟩:=p4.at_ hlt;obtain⟨g5,o5,l5,B5,m5,e5,rfl,hl5,x5,qbU,-,-,-⟩:=p5.at_ hlt;have Hl:=Lib.hid hl;have Hl5:=Lib.hid hl5;have Hml:=Lib.hid hml;clear hl hl5 hml p4 p5;have q0:=B2.cell 0;have q1:=B2.cell 1;have q2:=B2.cell 2;have q3:=B2.cell 3;have q4:=B2.cell 4;have q5:=B2.cell 5;have hki:(k:Int) < (n5:Int):=by omega
       have Hf1:Hid (c.rows.getD k []=l):=by show _=_;rw [List.getD_eq_getElem?_getD,Hl.out];rfl
       have Hf2:Hid (vs.getD k []=l5):=by show _=_;rw [List.getD_eq_getElem?_getD,Hl5.out];rfl
       by_cases hd:(k:Int)∈c.done
       . have Hd:Hid (decide ((k:Int)∈c.done)=true):=decide_eq_true hd;have Hin:=Lib.hid hd;clear hd;go_wp2_with fail;refine(qz2 _ qa vs c k wr P2 Hd.out).mono ?_;rintro e w2 ⟨rfl,hg2⟩;have g2:=qac hgr hg2;have B3:=B2.grown hg2 (by simp);have r1:=hrl.new hg2;have r5:=qbU.new hg2;have y5:=qdi x5 hg2;have y1:=B3.cell 1;clear q0 q1 q2 q3 q4 q5 hrl qbU x0 x5 P2;by_cases heq:l=l5
         . have xN:Hid (rowFine vs c k):=by
             show rowFine vs c k;unfold rowFine;rw [if_pos Hin.out,Hf1.out,Hf2.out];exact heq
           have He:Hid (decide (l=l5)=true):=decide_eq_true heq;clear heq;go_wp2_with fail;refine(qlx _ _ _ _ w2 r1 r5 He.out).mono ?_;rintro e w3 ⟨rfl,hg3⟩;have g3:=qac g2 hg3;go_wp2_with fail;go_roundg (n5+1 - (k+1))
           case measure=>omega
           case rel=>exact⟨k+1,by omega,rfl,by go_num,g3,fun i hi=>by
             by_cases e2:i=k
             . subst e2;exact xN.out
             . exact Hk.out i (by omega)⟩
         . have hno:Hid (¬ qgu qa vs c):=fun e2=>by
             have h1:=e2.2 k (by rw [<-Hn4.out];exact hlt);unfold rowFine at h1;rw [if_pos Hin.out,Hf1.out,Hf2.out] at h1;exact heq h1
           have He:Hid (decide (l=l5)=false):=decide_eq_false heq;clear heq;go_wp2_with fail;refine(qlx _ _ _ _ w2 r1 r5 He.out).mono ?_;rintro e w3 ⟨rfl,hg3⟩;have g3:=qac hg (qac g2 hg3);go_wp2_with fail;go_ret;exact⟨false,rfl,⟨fun e2=>(by cases e2),fun e2=>absurd e2 hno.out⟩,g3⟩
       . have Hd:Hid (decide ((k:Int)∈c.done)=false):=decide_eq_false hd;have Hin:=Lib.hid hd;clear hd;go_wp2_with fail;refine(qz2 _ qa vs c k wr P2 Hd.out).mono ?_;rintro e w2 ⟨rfl,hg2⟩;have g2:=qac hgr hg2;clear q0 q1 q2 q3 q4 q5 qbU x0 x5 P2;by_cases heq:m=0
         . subst heq
           have xN:Hid (rowFine vs c k):=by
             show rowFine vs c k;unfold rowFine;rw [if_neg Hin.out,Hf1.out];exact List.eq_nil_of_length_eq_zero Hml.out.symm
           go_wp2_with fail;go_roundg (n5+1 - (k+1))
           case measure=>omega
           case rel=>exact⟨k+1,by omega,rfl,by go_num,g2,fun i hi=>by
             by_cases e2:i=k
             . subst e2;exact xN.out
             . exact Hk.out i (by omega)⟩
         . have hno:Hid (¬ qgu qa vs c):=fun e2=>by
             have h1:=e2.2 k (by rw [<-Hn4.out];exact hlt);unfold rowFine at h1;rw [if_neg Hin.out,Hf1.out] at h1;have:=Hml.out;rw [h1] at this;exact heq this
           have hb:((m:Int) == 0)=false:=by simpa using heq
           have g3:=qac hg g2;go_wp2_with fail;go_ret;exact⟨false,rfl,⟨fun e2=>(by cases e2),fun e2=>absurd e2 hno.out⟩,g3⟩
     . obtain rfl:n5=k:=by omega
       have qbV:Hid (qgu qa vs c):=⟨by rw [<-Hn4.out,<-Hn0.out],fun i hi=>Hk.out i (by rw [Hn4.out];exact hi)⟩;clear P2 B2;go_wp2_with fail;go_ret;exact⟨true,rfl,⟨fun _=>qbV.out,fun _=>rfl⟩,gw⟩
 . have hno:Hid (¬ qgu qa vs c):=fun e=>hll (by rw [Hn4.out,Hn0.out];exact e.1);have hb:((n4:Int) == (n0:Int))=false:=by simp only [beq_eq_false_iff_ne,ne_eq];omega
   clear hn0 hn4 hn5 hvs h hll;go_enter Tryz.func50,Tryz.ntmps50;go_upto_region 1 with fail;generalize w.alloc (.cells #[.slice A0 n0 c0,.slice A5 n5 c5,.slice A1 n1 c1,.slice A2 n2 c2,.slice A3 n3 c3,.slice A4 n4 c4] 72)=W at hB hg P0 |-;have q0:=hB.cell 0;have q5:=hB.cell 5;go_wp2_with fail;go_ret;exact⟨false,rfl,⟨fun e2=>(by cases e2),fun e2=>absurd e2 hno.out⟩,hg⟩
theorem qvz(v:Value)(base:Nat)(l:List Int)(w:World)(h:qf w base v l)(hl:l.length<=12) :
   Calls Tryz.prog 86 #[v] w (qqn w base v (qh l)):=by
 have hlen:=h.1;rcases id h.2 with ⟨e,hz⟩ | ⟨g,cap,cur,e,-⟩
 . have hl0:l=[]:=List.eq_nil_of_length_eq_zero (by omega);subst hl0 e;go_enter Tryz.func86,Tryz.ntmps86;go_wp2_with fail;refine(qhs 0 (by omega) _).mono ?_;rintro e w' ⟨⟨z,rfl⟩,rfl⟩;go_wp2_with fail;refine(q0a z _).mono ?_;rintro e w1 ⟨rfl,rfl⟩;go_wp2_with fail;exact bodyPost_ret (results_none rfl _ _ _) rfl ⟨rfl,h,qag _ _⟩
 . subst e;generalize hn:l.length=n at *;have Hn:=Lib.hid hn;clear hn hlen;go_enter Tryz.func86,Tryz.ntmps86;go_wp2_with fail;refine(qhs n hl _).mono ?_;rintro e w' ⟨⟨z,rfl⟩,rfl⟩;go_wp2_with fail;refine(q4j g n cap base l _ h Hn.out.symm hl z).mono ?_;rintro e w1 ⟨rfl,ho,hg⟩;go_wp2_with fail;exact bodyPost_ret (results_none rfl _ _ _) rfl ⟨rfl,ho,hg⟩
end
end Go.Proofs.YtacemdoejblgaaaGreatDoor

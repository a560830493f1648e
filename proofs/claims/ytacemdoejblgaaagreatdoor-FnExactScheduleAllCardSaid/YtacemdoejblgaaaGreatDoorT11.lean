/- Part M11. Conditions: each statement's. -/
import Derived.Test.YtacemdoejblgaaaGreatDoorT10
import Derived.Lib.AppendZeros
import Derived.LaidEql
import Derived.Stop.Asserts
import Derived.RowKitTokens
import Derived.Maps.OwnOps
import Derived.Maps.OwnSet
namespace Go.Proofs.YtacemdoejblgaaaGreatDoor
open Bool renaming and_eq_false_iff→Ab,and_false→Ah,eq_iff_iff→Ai
open Go renaming bodyPost_ret→Aj,World→Am,Value→Ap,Calls→As,Ending→At,results_none→Ax,run_callFunc_extern→Ay,DataW→Az,size_zeroCells→AA,TypeId→AB,method→AD,rounds_succ→AE
open Builtin renaming zeroCells→AF
open Ending renaming returned→AG
open Extern.ReflectliteType renaming typeOf→AH,method→AI
open World renaming grownBy_alloc→AJ
open World.ownsRow renaming lt→AK,stored→AL
open Int renaming eq_ofNat_of_zero_le→AM,natCast_nonneg→AN,toNat_natCast→AO,ofNat_lt→AP,toNat_of_nonneg→AQ
open List renaming getElem?_eq_some_iff→AR,getElem?_eq_getElem→AS,mem_of_getElem?→AT,getD_eq_getElem?_getD→AU,take_succ_eq_append_getElem→AV,eq_nil_of_length_eq_zero→AW,take_of_length_le→AX,mem_or_eq_of_mem_set→AY,length_append→AZ,mem_cons_of_mem→B9,mem_append→Ba,pairwise_cons→Bb,length_map→Bc,mem_cons→Be,getElem_of_mem→Bf,length_set→Bg,getElem?_set_self→Bh,mem_append_right→Bi,length_singleton→Bj,mem_append_left→Bm,getElem?_set_ne→Bn,flatten_append→Bo,set_cons_succ→Bp,length_range→Bq,length_take→Br
open Nat renaming zero_le→Bs,le_refl→Bt,le_trans→Bu,not_lt_zero→Bv,le_of_eq→By,le_succ→Bz
open Option renaming map_eq_some_iff→BA
open List Tryz Value
set_option maxRecDepth 100000
set_option maxHeartbeats 6400000
variable {b:Bool}{x:Int}{Rw ll vs:List (List Int)}{C D N cs l:List Int}{qa:List Node}{xs ys:List Ap}{a cap g k n u:Nat}{row:Option Nat}{d f o r v:Ap}{w w' w0 w1 wx:Am}{c:qh}
section
open Go.RowKit
def q6c(qa:List Node)(c:qh):Prop:=qm qa c∨c=qc4
def ql3(f:Nat->Int)(n:Nat)(cs:List Int):Prop:=cs.length=n/\∀i c,cs[i]?=some c->0<=c/\c<=f i
def qiR(w:Am)(tb:Nat)(f:Nat->Int)(n:Nat)(cs:List Int)(e:At)(w':Am):Prop:=
 (ql3 f n cs/\e=.returned (.bool true)/\TT w' tb (qj0 f cs) n/\w.grownBy w' (some tb))∨(¬ql3 f n cs/\e=.returned (.bool false)/\w.grownBy w' none)
theorem q2x(tb n:Nat)(f:Nat->Int)(cv:Ap)(cs:List Int)(w:Am)(h:TT w tb f n)(hn:n<=10)(hc:RI w cv cs):As prog 129 #[.pointer (some ⟨tb,0,none⟩),cv] w (qiR w tb f n cs):=by
 obtain⟨A,m,c,rfl,hmc,hm⟩:=hc.form';have hsz:=h.size;have Hm:=Lib.hid hm;by_cases hmn:m=n
 . subst hmn;clear hm;go_enter func129,ntmps129;go_wp2_with fail
   go_loopg [16] (m+1) (λmm i wr=>∃k:Nat,k<=m/\mm=m+1-k/\i=.int .i64 k/\w.grownBy wr none/\Hid (∀i c,i<k->cs[i]?=some c->0<=c/\c<=f i))
   case atStart=>exact⟨0,Bs _,rfl,rfl,qag _ _,λi c hi=>absurd hi (Bv _)⟩
   case round=>
    obtain⟨k,hk,rfl,rfl,hg,Hk⟩:=hrel;have T:=h.new hg;have hr:=hc.new hg;by_cases hlt:k<m
    . obtain⟨gu,ou,x,rfl,hx,c0⟩:=hr.at_ hlt;have hz:=T.cell (u:=k) (by omega);have Hx:=Lib.hid hx;clear hx;obtain⟨y,hy⟩:∃y,y=f k:=⟨_,rfl⟩;rw[<-hy]at hz;have Hy:=Lib.hid hy;clear hy hsz;by_cases h1:x<0
      . have hno:Hid (¬ql3 f m cs):=λe=>by have:=(e.2 k x Hx.out).1;omega
        clear T hr h hc;go_wp2;go_ret;exact .inr ⟨hno.out,rfl,hg⟩
      . by_cases h2:y<x
        . have hno:Hid (¬ql3 f m cs):=λe=>by have:=(e.2 k x Hx.out).2;have:=Hy.out;omega
          clear T hr h hc;go_wp2;go_ret;exact .inr ⟨hno.out,rfl,hg⟩
        . go_wp2;go_roundg (m+1-(k+1))
          case measure=>omega
          case rel=>exact⟨k+1,by omega,rfl,by go_num,hg,λi c hi hc'=>by
           by_cases e:i=k
           . subst e;rw[Hx.out]at hc';injection hc' with hc';subst hc';have:=Hy.out;omega
           . exact Hk.out i c (by omega) hc'⟩
    . obtain rfl:m=k:=by omega
      have hfit:Hid (ql3 f m cs):=⟨Hm.out.symm,λi c hc'=>Hk.out i c (by have:=(AR.1 hc').1;have:=Hm.out;omega) hc'⟩;have hl:cs.length<=10:=by have:=Hm.out;omega
      clear hsz Hk hk;go_wp2_with (with_reducible refine qzd (.tmp 37) (.tmp 38) rfl rfl T hr hl rfl rfl ?_);intro z w2 T2 hg2;go_wp2;go_ret;exact .inl ⟨hfit.out,rfl,T2,qac (qyo hg _) hg2⟩
 . have hb:((m:Int)==(n:Int))=false:=by simp only[beq_eq_false_iff_ne,ne_eq];omega
   have hno:Hid (¬ql3 f n cs):=λe=>hmn (by rw[hm];exact e.1);clear hm hmn;go_enter func129,ntmps129;go_wp2;go_ret;exact .inr ⟨hno.out,rfl,qag _ _⟩
def q95(w:Am)(tb:Nat)(f:Nat->Int)(n:Nat)(us:List Nat)(e:At)(w':Am):Prop:=
 ((∃(t u:Nat),us[t]?=some u/\f u=0)/\e=.returned (.tuple #[.slice none 0 0,.bool false])/\w.grownBy w' (some tb)) ∨
 ((∀u∈us,f u≠0)/\∃v,e=.returned (.tuple #[v,.bool true])/\qf w' w.heap.size v (qX f us us.length)/\TT w' tb (qef f us us.length) n/\w.grownBy w' (some tb))
theorem qzf(tb n:Nat)(f:Nat->Int)(uv:Ap)(us:List Nat)(w:Am)(h:TT w tb f n)(hn:n<=10)(hu:RI w uv (us.map (λj:Nat=>(j:Int))))(hus:∀u∈us,u<n)(hnd:us.Nodup)(hf:∀u∈us,0<=f u/\f u<=1000) :
   As prog 130 #[.pointer (some ⟨tb,0,none⟩),uv] w (q95 w tb f n us):=by
 obtain⟨A,m,c,rfl,hmc,hm⟩:=hu.form';have hm':m=us.length:=by rw[hm,Bc]
 have Hm:=Lib.hid hm'
 have kq:m<=10:=by
  have h1:us.length<=n:=qwb hnd hus;omega
 have Hus:=Lib.hid hus;have Hnd:=Lib.hid hnd;have Hf:=Lib.hid hf;have hI0:=h.ne (E:=3) (by decide);have htw:tb<w.heap.size:=Blk.lt h;clear hm hm' hus hnd hf;have T0:TT w tb (qef f us 0) n:=by rw[qv7];exact h
 go_enter func130,ntmps130;go_wp2_with fail
 go_loopg [6,11] (m+1) (λmm r i wr=>∃t:Nat,t<=m/\mm=m+1-t/\i=.int .i64 t/\qf wr w.heap.size r (qX f us t)/\TT wr tb (qef f us t) n/\w.grownBy wr (some tb)/\Hid (∀i u,i<t->us[i]?=some u->f u≠0))
 case atStart=>exact⟨0,Bs _,rfl,rfl,by exact qf.nil w _,T0,qag _ _,λi c hi=>absurd hi (Bv _)⟩
 case round=>
  clear T0 h;obtain⟨t,ht,rfl,rfl,ho,T,hg,Hz⟩:=hrel;obtain⟨Ar,nr,cr,rfl⟩:=ho.ri.val;have hr:=hu.grown hg hI0;by_cases hlt:t<m
  . obtain⟨gu,ou,x,rfl,hx,c0⟩:=hr.at_ hlt;rw[getElem?_map]at hx;obtain⟨u,hut,rfl⟩:=BA.1 hx;have hun:=Hus.out u (AT hut);have qcF:u<10:=by omega
    have hz:=T.cell qcF;rw[q2d Hnd.out hut]at hz;have hzf:=T.frozen u;have hfu:=Hf.out u (AT hut);have T2:=T.put qcF (f u-1);rw[<-qnz Hnd.out hut]at T2;have hst:wr.grownBy (wr.setCell ⟨tb,u,none⟩ (.int .i64 (f u-1))) (some tb):=qa3 (qag _ _) (.inr rfl) _;have ho2:=ho.grown hst (T.ne (by decide));have g2:=qac hg hst;have hz2:=T2.cell qcF;have Hut:=Lib.hid hut;have hzl:=q2e f us t;have Hzs:Hid (qX f us (t+1)=qX f us t++(if f u=1 then [(u:Int)]else [])):=qyx hut
    have Htk:Hid (qef f us (t+1) u=f u-1):=by
     show _=_;rw[qnz Hnd.out hut];unfold xL;rw[if_pos rfl]
    rw[Htk.out]at hz2;obtain⟨y,hy⟩:∃y,y=f u:=⟨_,rfl⟩;rw[<-hy]at hz hfu T2 hst ho2 g2 hz2 Hzs;have Hy:=Lib.hid hy;clear hx hut hy Htk;by_cases h0:y=0
    . subst h0;have hno:Hid (∃(t u:Nat),us[t]?=some u/\f u=0):=⟨t,u,Hut.out,Hy.out.symm⟩;clear T T2 ho ho2 hst g2 hz2 Hzs;go_wp2_with fail;refine Aj (v:=.tuple #[.slice none 0 0,.bool false]) (by simp[results,results130,go_sem]) rfl ?_;exact .inl ⟨hno.out,rfl,hg⟩
    . have hb0:(y==0)=false:=by simpa using h0
      have Hz2:Hid (∀i v,i<t+1->us[i]?=some v->f v≠0):=by
       intro i v hi hv;by_cases e:i=t
       . subst e;rw[Hut.out]at hv;injection hv with hv;subst hv;rw[<-Hy.out];exact h0
       . exact Hz.out i v (by omega) hv
      have hw1:IntKind.i64.wrap (y-1)=y-1:=IntWalk.i64_in _ (by omega);go_upto_region 8 with fail
      go_cut [] (λwx=>qf wx w.heap.size (.slice Ar nr cr) (qX f us t)/\TT wx tb (qef f us (t+1)) n/\w.grownBy wx (some tb)/\wx.cell? ⟨tb,u,none⟩=some (.int .i64 (y-1)))
      case first=>
       go_region
       all_goals
        go_wp2_with fail;go_meet;exact⟨ho2,T2,by first|exact g2|exact qay g2,hz2⟩
      case rest=>
       obtain⟨ho3,T3,g3,hz3⟩:=hcut;clear T ho T2 ho2 hst g2 hz2 hz hzf hg hr c0;by_cases h1:y=1
       . subst h1;have qcG:Hid (qX f us (t+1)=qX f us t++[(u:Int)]):=Hzs.out;clear Hzs;go_wp2_with (at_builtin;go_must (refine qex (.tmp 39) (.tmp 41) rfl rfl ho3 (by omega) (Nat.le_of_lt (Nat.lt_of_lt_of_le htw g3.size) |> λ_=>g3.size) rfl rfl rfl ?_));intro v5 w5 ho5 hg5;have T5:TT w5 tb (qef f us (t+1)) n:=Blk.past T3 hg5 (ho3.jl (by decide));have g5:=qa2 g3 hg5 (λg e=>.inl (ho3.lt g e).1);rw[<-qcG.out]at ho5;obtain⟨A5,n5,c5,rfl⟩:=ho5.ri.val;go_wp2;go_roundg (m+1-(t+1))
         case measure=>omega
         case rel=>exact⟨t+1,by omega,rfl,by go_num,ho5,T5,g5,Hz2⟩
       . have hb1:(y-1==0)=false:=by simp only[beq_eq_false_iff_ne,ne_eq];omega
         have qcG:Hid (qX f us (t+1)=qX f us t):=by
          show _=_;rw[Hzs.out,if_neg h1,append_nil]
         rw[<-qcG.out]at ho3;clear Hzs;go_wp2;go_roundg (m+1-(t+1))
         case measure=>omega
         case rel=>exact⟨t+1,by omega,rfl,by go_num,ho3,T3,g3,Hz2⟩
  . obtain rfl:m=t:=by omega
    have hall:Hid (∀u∈us,f u≠0):=by
     intro u hu';obtain⟨i,hi,rfl⟩:=Bf hu';exact Hz.out i _ (by have:=Hm.out;omega) (AS hi)
    have HH:=Lib.hid ho;have HT:=Lib.hid T;clear ho T;go_wp2_with fail;refine Aj (v:=.tuple #[.slice Ar nr cr,.bool true]) (by simp[results,results130,go_sem]) rfl ?_;exact .inr ⟨hall.out,_,rfl,by rw[<-Hm.out];exact HH.out,by rw[<-Hm.out];exact HT.out,hg⟩
def CDOut(w:Am)(r:Option (List Int×List Int))(e:At)(w':Am):Prop:=match r with
 |some (k,r)=>∃kv rv,e=.returned (.tuple #[kv,rv,.bool true])/\qf w' w.heap.size kv k/\qf w' w.heap.size rv r/\w.grownBy w' none
 |none=>e=.returned (.tuple #[.slice none 0 0,.slice none 0 0,.bool false])/\w.grownBy w' none
theorem qiS(h:qae qa=false):qbz qa cs x=none:=by unfold qbz;rw[h];rfl
theorem qiT(h:(decide (0<=x)&&decide (x<qa.length))=false):qbz qa cs x=none:=by unfold qbz;rw[h,Ah];rfl
theorem q7w(hv:qae qa=true)(h:¬ql3 (qf1 qa qa.length) qa.length cs):qbz qa cs x=none:=by
 unfold qbz;by_cases hl:cs.length=qa.length
 . have:∃ i c,cs[i]?=some c/\¬ (0<=c/\c<=qf1 qa qa.length i):=by
    apply Classical.byContradiction;intro hno;refine h ⟨hl,λi c hc=>?_⟩;apply Classical.byContradiction;intro h2;exact hno ⟨i,c,hc,h2⟩
   obtain⟨i,c,hc,h2⟩:=this;rw[qpz hv]at h2;have hi:=(AR.1 hc).1;rw[qp0 (by omega) hc h2,Ah];rfl
 . rw[decide_eq_false hl,Ah];rfl
theorem qwt{f:Nat->Int}(h:u<cs.length):qj0 f cs u=cs.getD u 0:=by
 rw[qlh (AS h),AU,AS h];rfl
theorem q96(hv:qae qa=true){x t:Nat}{f:Nat->Int}(hl:cs.length=qa.length)(hu:(qb1 qa x)[t]?=some u)(hz:qj0 f cs u=0):qbz qa cs (x:Int)=none:=by
 unfold qbz;have hm:=((qgj hv).1 (AT hu)).1;rw[qsi hv hu (by rw[<-qwt (f:=f) (by omega)];exact hz),Ah];rfl
theorem qiU(hv:qae qa=true){x:Nat}(hx:x<qa.length)(hfit:ql3 (qf1 qa qa.length) qa.length cs)(hnz:∀u∈qb1 qa x,qj0 (qf1 qa qa.length) cs u≠0) :
   qbz qa cs (x:Int)=some ((range qa.length).map (qef (qj0 (qf1 qa qa.length) cs) (qb1 qa x) (qb1 qa x).length),qX (qj0 (qf1 qa qa.length) cs) (qb1 qa x) (qb1 qa x).length):=by
 have hl:=hfit.1
 have h1:qeh qa cs (x:Int)=true:=qud hv hl (λi c hc=>by have:=hfit.2 i c hc;rwa [qpz hv]at this) (λu hu=>by
  have hm:=((qgj hv).1 hu).1;rw[<-qwt (f:=qf1 qa qa.length) (by omega)];exact hnz u hu)
 unfold qbz;rw[qv8 hv hl _ x _ (Bt _),qv9 hv hl _ x _ (Bt _),if_pos];rw[hv,h1,decide_eq_true hl,decide_eq_true (AN x),decide_eq_true (AP.2 hx)];rfl
theorem q2y(hv:qae qa=true){x:Nat}(hfit:ql3 (qf1 qa qa.length) qa.length cs):∀u∈qb1 qa x,0<=qj0 (qf1 qa qa.length) cs u/\qj0 (qf1 qa qa.length) cs u<=1000:=by
 intro u hu;have hm:=((qgj hv).1 hu).1;have hl:=hfit.1;have hg:cs[u]?=some cs[u]:=AS (by omega);rw[qlh hg];have h1:=hfit.2 u _ hg;have h2:=qv6 hv qa.length 0 u;rw[qpx]at h2;omega
theorem qik(v:Ap)(qa:List Node)(w:Am)(h:RN w v qa)(hv:qae qa=true):As prog 65 #[v] w (qer w (qa7 qa)):=by
 obtain⟨A,n,c,rfl,-,-,-⟩:=h.form';go_enter func65,ntmps65;go_wp2_with fail;refine(qb6 _ qa _ h hv).mono ?_;rintro e w1 ⟨rfl,hg1⟩;have h1:=h.new hg1;go_wp2_with fail;refine(qii _ qa _ h1 hv).mono ?_;rintro e w2 ⟨tb,rfl,T,htb,hg2⟩;go_wp2_with fail;refine(qqs tb _ _ _ T (qam hv)).mono ?_;rintro e w3 ⟨v3,rfl,ho,hg3⟩;have g2:=qac hg1 hg2;rw[q2c hv]at ho;obtain⟨A3,n3,c3,rfl⟩:=ho.ri.val;go_wp2;go_ret;exact⟨_,rfl,ho.lower g2.size,qac g2 hg3⟩
theorem qg1(v cv:Ap)(qa:List Node)(cs:List Int)(x:Int)(w:Am)(h:RN w v qa)(hc:RI w cv cs):As prog 82 #[v,cv,.int .i64 x] w (CDOut w (qbz qa cs x)):=by
 obtain⟨A,n,c,rfl,-,hn,-⟩:=h.form';obtain⟨B,m,k,rfl⟩:=hc.val;have Hn:=Lib.hid hn;clear hn;have fin:∀w',w.grownBy w' none->qbz qa cs x=none->CDOut w (qbz qa cs x) (.returned (.tuple #[.slice none 0 0,.slice none 0 0,.bool false])) w':=λw' hg hr=>by rw[hr];exact⟨rfl,hg⟩
 by_cases hv:qae qa=true
 . have Hv:=Lib.hid hv;have jF:=qam hv;by_cases hin:0<=x/\x<(n:Int)
   . have Hin:Hid ((decide (0<=x)&&decide (x<(n:Int)))=true):=by show _=_;simp[hin.1,hin.2]
     obtain⟨x,rfl⟩:=AM hin.1;have hx:x<qa.length:=by have:=Hn.out;omega
     clear hv hin;go_enter func82,ntmps82;go_wp2_with fail;refine(qb6 _ qa _ h Hv.out).mono ?_;rintro e w1 ⟨rfl,hg1⟩;go_wp2_with fail;refine(qfb _ _ _ _ _ Hin.out).mono ?_;rintro e w1' ⟨rfl,rfl⟩;go_wp2_with fail;refine(qii _ qa w1 (h.new hg1) Hv.out).mono ?_;rintro e w2 ⟨tb,rfl,T,htb,hg2⟩;have g2:=qac hg1 hg2;have qcH:w.heap.size<=tb:=Bu hg1.size htb;have hI:=T.ne (E:=3) (by decide);have hN:=T.ne (E:=81) (by decide);go_wp2_with fail;refine(q2x tb _ _ _ cs w2 T jF (hc.new g2)).mono ?_;rintro e w3 (⟨hfit,rfl,T3,hg3⟩|⟨hfit,rfl,hg3⟩)
     . have g3:=qa2 g2 hg3 (λg e=>by cases e;exact .inl qcH);have h3:=(h.new g2).grown hg3 hI hN;have qD:=Lib.hid hfit;clear hfit hg1 hg2;go_wp2_with fail;refine(qn2 _ qa x w3 h3 Hv.out hx).mono ?_;rintro e w4 ⟨uv,rfl,hu,hg4⟩;rw[qn1 Hv.out]at hu;have T4:=T3.new hg4;have g4:=qac g3 hg4;obtain⟨Au,mu,cu,rfl⟩:=hu.ri.val;go_wp2_with fail;refine(qzf tb _ _ _ (qb1 qa x) w4 T4 jF hu.ri (λu hu'=>(qgk.1 hu').1) (qln qa x) (q2y Hv.out qD.out)).mono ?_;rintro e w5 (⟨⟨t,u,hut,hz⟩,rfl,hg5⟩|⟨hnz,rv,rfl,ho5,T5,hg5⟩)
       . have g5:=qa2 g4 hg5 (λg e=>by cases e;exact .inl qcH);have hfin:=Lib.hid (fin w5 g5 (q96 Hv.out qD.out.1 hut hz));clear hut hz fin T T3 T4 hu;go_wp2_with fail;refine Aj (v:=.tuple #[.slice none 0 0,.slice none 0 0,.bool false]) (by simp[results,results82,go_sem]) rfl ?_;exact hfin.out
       . have g5:=qa2 g4 hg5 (λg e=>by cases e;exact .inl qcH);have Hr:=Lib.hid (qiU Hv.out hx qD.out hnz);obtain⟨Ar,nr,cr,rfl⟩:=ho5.ri.val;clear hnz fin T T3 T4 hu;go_wp2_with fail;refine(qqs tb _ _ w5 T5 jF).mono ?_;rintro e w6 ⟨lv,rfl,ho6,hg6⟩;obtain⟨Al,nl,cl,rfl⟩:=ho6.ri.val;have g6:=qac g5 hg6
         have hfin:Hid (CDOut w (qbz qa cs (x:Int)) (.returned (.tuple #[.slice Al nl cl,.slice Ar nr cr,.bool true])) w6):=by
          show CDOut _ _ _ _;rw[Hr.out];exact⟨_,_,rfl,ho6.lower g5.size,(ho5.new hg6).lower g4.size,g6⟩
         clear ho5 ho6;go_wp2_with fail;refine Aj (v:=.tuple #[.slice Al nl cl,.slice Ar nr cr,.bool true]) (by simp[results,results82,go_sem]) rfl ?_;exact hfin.out
     . have hfin:=Lib.hid (fin w3 (qac g2 hg3) (q7w Hv.out hfit));clear hfit fin T;go_wp2_with fail;refine Aj (v:=.tuple #[.slice none 0 0,.slice none 0 0,.bool false]) (by simp[results,results82,go_sem]) rfl ?_;exact hfin.out
   . have ze:(decide (0<=x) && decide (x < (n:Int)))=false:=by
      simp only[Ab,decide_eq_false_iff_not];omega
     have Hin:=Lib.hid ze;have Hr:Hid (qbz qa cs x=none):=qiT (by rw[<-Hn.out];exact ze);clear hv hin ze;go_enter func82,ntmps82;go_wp2_with fail;refine(qb6 _ qa _ h Hv.out).mono ?_;rintro e w1 ⟨rfl,hg1⟩;go_wp2_with fail;refine(qfb _ _ _ _ _ Hin.out).mono ?_;rintro e w1' ⟨rfl,rfl⟩;have hfin:=Lib.hid (fin w1 hg1 Hr.out);clear fin;go_wp2_with fail;refine Aj (v:=.tuple #[.slice none 0 0,.slice none 0 0,.bool false]) (by simp[results,results82,go_sem]) rfl ?_;exact hfin.out
 . have hv':qae qa=false:=by simpa using hv
   have Hv:=Lib.hid hv';clear hv hv';go_enter func82,ntmps82;go_wp2_with fail;refine(qb6 _ qa _ h Hv.out).mono ?_;rintro e w1 ⟨rfl,hg1⟩;have hfin:=Lib.hid (fin w1 hg1 (qiS Hv.out));clear fin;go_wp2_with fail;refine Aj (v:=.tuple #[.slice none 0 0,.slice none 0 0,.bool false]) (by simp[results,results82,go_sem]) rfl ?_;exact hfin.out
theorem q5a(v:Ap)(l:List Int)(x:Int)(w:Am)(h:RI w v l):As prog 178 #[v,.int .i64 x] w λe w'=>∃z:Int,e=.returned (.int .i64 z)/\(x∈l↔0<=z)/\w=w':=by
 obtain⟨A,n,c,rfl,-,hn⟩:=h.form';have hle:=h.le;have hn9:n<=9223372036854775807:=by omega
 have Hn:=Lib.hid hn;clear hn;go_enter func178,ntmps178;go_wp2_with fail
 go_loopg [8] (n+1) (λmm i wr=>∃k:Nat,k<=n/\mm=n+1-k/\i=.int .i64 k/\w=wr/\Hid (∀j,j<k->l[j]?≠some x))
 case atStart=>exact⟨0,Bs _,rfl,rfl,rfl,λj hj=>absurd hj (Bv _)⟩
 case round=>
  obtain⟨k,hk,rfl,rfl,rfl,Hk⟩:=hrel;by_cases hlt:k<n
  . obtain⟨g,o,y,rfl,hy,c0⟩:=h.at_ hlt;have Hy:=Lib.hid hy;clear hy;by_cases e:x=y
    . subst e;have hin:Hid (x∈l):=AT Hy.out;go_wp2;go_ret;exact⟨k,rfl,⟨λ_=>by omega,λ_=>hin.out⟩,rfl⟩
    . have hb:(x==y)=false:=by simpa using e
      go_wp2;go_roundg (n+1-(k+1))
      case measure=>omega
      case rel=>exact⟨k+1,by omega,rfl,by go_num,rfl,λj hj=>by
       by_cases e2:j=k
       . subst e2;rw[Hy.out];intro e3;injection e3 with e3;exact e e3.symm
       . exact Hk.out j (by omega)⟩
  . obtain rfl:n=k:=by omega
    have hno:Hid (x∉l):=λhx=>by
     obtain⟨j,hj,e⟩:=Bf hx;exact Hk.out j (by have:=Hn.out;omega) (by rw[AS hj,e])
    go_wp2;go_ret;exact⟨-1,rfl,⟨λhx=>absurd hx hno.out,λhx=>by omega⟩,rfl⟩
theorem qwu(v:Ap)(l:List Int)(x:Int)(w:Am)(h:RI w v l):As prog 135 #[v,.int .i64 x] w λe w'=>e=.returned (.bool (decide (x∈l)))/\w=w':=by
 obtain⟨A,n,c,rfl,-,-⟩:=h.form';go_enter func135,ntmps135;go_wp2_with fail;refine(q5a _ l x _ h).mono ?_;rintro e w1 ⟨z,rfl,hz,rfl⟩;have Hz:=Lib.hid hz;clear hz;by_cases hp:0<=z
 . have hin:Hid (decide (x∈l)=true):=decide_eq_true (Hz.out.2 hp);go_wp2;go_ret;exact⟨by rw[hin.out];rfl,rfl⟩
 . have hin:Hid (decide (x∈l)=false):=decide_eq_false (λh=>hp (Hz.out.1 h));go_wp2;go_ret;have hd:decide (0<=z)=false:=decide_eq_false (by omega);exact⟨by rw[hin.out,<-hd];rfl,rfl⟩
def PCV(w:Am)(v:Ap)(qa:List Node)(vs:List (List Int))(c:qh):Prop:=
 ∃A0 n0 c0 A5 n5 c5 A1 n1 c1 A2 n2 c2 A3 n3 c3 A4 n4 c4,v=.agg #[.slice A0 n0 c0,.slice A5 n5 c5,.slice A1 n1 c1,.slice A2 n2 c2,.slice A3 n3 c3,.slice A4 n4 c4] /\
  RN w (.slice A0 n0 c0) qa/\RL w (.slice A5 n5 c5) vs/\RL w (.slice A1 n1 c1) c.qb/\RI w (.slice A2 n2 c2) c.counts/\RI w (.slice A3 n3 c3) c.done/\RL w (.slice A4 n4 c4) c.rows
theorem PCV.new(h:PCV w v qa vs c)(hg:w.grownBy w' none):PCV w' v qa vs c:=by
 obtain⟨A0,n0,c0,A5,n5,c5,A1,n1,c1,A2,n2,c2,A3,n3,c3,A4,n4,c4,rfl,h0,h5,h1,h2,h3,h4⟩:=h;exact⟨_,_,_,_,_,_,_,_,_,_,_,_,_,_,_,_,_,_,rfl,h0.new hg,h5.new hg,h1.new hg,h2.new hg,h3.new hg,h4.new hg⟩
theorem q2z(v:Ap)(qa:List Node)(vs:List (List Int))(c:qh)(x:Int)(w:Am)(h:PCV w v qa vs c):As prog 87 #[v,.int .i64 x] w λe w'=>e=.returned (.bool (decide (x∈c.done)))/\w.grownBy w' none:=by
 obtain⟨A0,n0,c0,A5,n5,c5,A1,n1,c1,A2,n2,c2,A3,n3,c3,A4,n4,c4,rfl,h0,h5,h1,h2,h3,h4⟩:=h;have hB:=Blk.new w 72 #[.slice A0 n0 c0,.slice A5 n5 c5,.slice A1 n1 c1,.slice A2 n2 c2,.slice A3 n3 c3,.slice A4 n4 c4];have hg:=AJ w (.cells #[.slice A0 n0 c0,.slice A5 n5 c5,.slice A1 n1 c1,.slice A2 n2 c2,.slice A3 n3 c3,.slice A4 n4 c4] 72) none;clear h0 h5 h1 h2 h4;have h3':=h3.new hg;go_enter func87,ntmps87;go_upto_region 1 with fail;generalize w.alloc (.cells #[.slice A0 n0 c0,.slice A5 n5 c5,.slice A1 n1 c1,.slice A2 n2 c2,.slice A3 n3 c3,.slice A4 n4 c4] 72)=W at hB hg h3' |-;have q4:=hB.cell 4;go_wp2_with fail;refine(qwu _ _ x W h3').mono ?_;rintro e w1 ⟨rfl,rfl⟩;go_wp2;go_ret;exact⟨rfl,hg⟩
theorem qwv(ho:qbu qa D=true):D.length<=qa.length:=by
 have h:=qph (qkk ho) (m:=(range qa.length).map (λi:Nat=>(i:Int))) (λy hy=>by
  obtain⟨h0,h1,_⟩:=qgv ho hy;exact mem_map.2 ⟨y.toNat,mem_range.2 (by omega),by omega⟩)
 rwa [Bc,Bq]at h
theorem q5b(hv:qae qa=true)(ho:qbu qa D=true)(hx:D[k]?=some x) :
   qbz qa (lefts qa (D.take k)) x=some (lefts qa (D.take (k+1)),qbj qa (lefts qa (D.take k)) x):=by
 obtain⟨hk,rfl⟩:=AR.1 hx;obtain⟨h1,h2,h3,-⟩:=qd5.1 (qhe ho hk);rw[qld hv h1 h2 h3,AV hk]
theorem qja(v:Ap)(qa:List Node)(vs:List (List Int))(c:qh)(w:Am)(h:PCV w v qa vs c)(hv:qae qa=true)(ho:qbu qa c.done=true)(hb:decide (lefts qa c.done=c.counts)=b) :
   As prog 48 #[v] w λe w'=>e=.returned (.bool b)/\w.grownBy w' none:=by
 obtain⟨A0,n0,c0,A5,n5,c5,A1,n1,c1,A2,n2,c2,A3,n3,c3,A4,n4,c4,rfl,h0,h5,h1,h2,h3,h4⟩:=h;have hB:=Blk.new w 72 #[.slice A0 n0 c0,.slice A5 n5 c5,.slice A1 n1 c1,.slice A2 n2 c2,.slice A3 n3 c3,.slice A4 n4 c4];have hg:=AJ w (.cells #[.slice A0 n0 c0,.slice A5 n5 c5,.slice A1 n1 c1,.slice A2 n2 c2,.slice A3 n3 c3,.slice A4 n4 c4] 72) none;have Hv:=Lib.hid hv;have Ho:=Lib.hid ho;have Hb:=Lib.hid hb;have hn3:=h3.len;have zF:n3<=10:=by have:=qwv ho;have:=qam hv;omega
 have Hn3:=Lib.hid hn3;clear h5 h1 h4 hv ho hb hn3;go_enter func48,ntmps48;go_upto_region 1 with fail;have k0:=h0.new hg;have k2:=h2.new hg;have k3:=h3.new hg;clear h0 h2 h3;generalize w.alloc (.cells #[.slice A0 n0 c0,.slice A5 n5 c5,.slice A1 n1 c1,.slice A2 n2 c2,.slice A3 n3 c3,.slice A4 n4 c4] 72)=W at hB hg k0 k2 k3 |-;have q0:=hB.cell 0;go_wp2_with fail;refine(qik _ qa W k0 Hv.out).mono ?_;rintro e w1 ⟨v1,rfl,ho1,hg1⟩;have B1:=hB.grown hg1 (by simp);have q4:=B1.cell 4;obtain⟨Ac,nc,cc,rfl⟩:=ho1.ri.val;have hr1:=ho1.ri;rw[<-qpv]at hr1;have m0:=k0.new hg1;have m2:=k2.new hg1;have m3:=k3.new hg1;have g1:=qac hg hg1;clear k0 k2 k3 ho1 hg1 hB hg q0;go_wp2_with fail
 go_loopg [3,17] (n3+1) (λmm kv i wr=>∃k:Nat,k<=n3/\mm=n3+1-k/\i=.int .i64 k/\RI wr kv (lefts qa (c.done.take k))/\w1.grownBy wr none)
 case atStart=>exact⟨0,Bs _,rfl,rfl,by exact hr1,qag _ _⟩
 case round=>
  obtain⟨k,hk,rfl,rfl,hr,hg⟩:=hrel;clear hr1 q4;obtain⟨Ar,nr,cr,rfl⟩:=hr.val;have B2:=B1.grown hg (by simp);have q0:=B2.cell 0;have q3:=B2.cell 3;have p0:=m0.new hg;have p2:=m2.new hg;have p3:=m3.new hg;by_cases hlt:k<n3
  . obtain⟨g,o,x,rfl,hx,x0⟩:=p3.at_ hlt;have Hd:=Lib.hid (q5b Hv.out Ho.out hx);clear hx q3;go_wp2_with fail;refine(qg1 _ _ qa (lefts qa (c.done.take k)) x wr p0 hr).mono ?_;intro e w2 hO;rw[Hd.out]at hO;obtain⟨kv,rv,rfl,o1,o2,hg2⟩:=hO;obtain⟨Ak,nk,ck,rfl⟩:=o1.ri.val;obtain⟨Aq,nq,cq,rfl⟩:=o2.ri.val;have r2:=o1.ri;have g2:=qac hg hg2;clear hr p0 p2 p3 q0 o1 o2 B2;go_wp2;go_roundg (n3+1-(k+1))
    case measure=>omega
    case rel=>exact⟨k+1,by omega,rfl,by go_num,r2,g2⟩
  . obtain rfl:n3=k:=by omega
    have he:lefts qa (c.done.take n3)=lefts qa c.done:=by rw[AX (By Hn3.out.symm)]
    rw[he]at hr;clear he q0 p0 p3;go_wp2_with fail;refine(qmh _ _ _ _ wr hr p2 Hb.out).mono ?_;rintro e w2 ⟨rfl,hg2⟩;go_wp2;go_ret;exact⟨rfl,qac g1 (qac hg hg2)⟩
def rowFine(vs:List (List Int))(c:qh)(i:Nat):Prop:=c.rows.getD i []=if (i:Int)∈c.done then vs.getD i []else []
def qg2(qa:List Node)(vs:List (List Int))(c:qh):Prop:=c.rows.length=qa.length/\∀i,i<c.rows.length->rowFine vs c i
def q97(w:Am)(qa:List Node)(vs:List (List Int))(c:qh)(e:At)(w':Am):Prop:=∃b,e=.returned (.bool b)/\(b=true↔qg2 qa vs c)/\w.grownBy w' none
theorem q1b(v:Ap)(qa:List Node)(vs:List (List Int))(c:qh)(x:Int)(w:Am)(h:PCV w v qa vs c)(hb:decide (x∈c.done)=b):As prog 87 #[v,.int .i64 x] w λe w'=>e=.returned (.bool b)/\w.grownBy w' none:=hb▸q2z v qa vs c x w h
theorem PCV.form{A0:Option Addr}{n0 c0:Nat}{A5:Option Addr}{n5 c5:Nat}{A1:Option Addr}{n1 c1:Nat}{A2:Option Addr}{n2 c2:Nat}{A3:Option Addr}{n3 c3:Nat}{A4:Option Addr}{n4 c4:Nat}(h:PCV w (.agg #[.slice A0 n0 c0,.slice A5 n5 c5,.slice A1 n1 c1,.slice A2 n2 c2,.slice A3 n3 c3,.slice A4 n4 c4]) qa vs c) :
   RN w (.slice A0 n0 c0) qa/\RL w (.slice A5 n5 c5) vs/\RL w (.slice A4 n4 c4) c.rows:=by
 obtain⟨A0',n0',c0',A5',n5',c5',A1',n1',c1',A2',n2',c2',A3',n3',c3',A4',n4',c4',e,h0,h5,h1,h2,h3,h4⟩:=h;injection e with e;injection e with e;injection e with e0 e;injection e with e5 e;injection e with e1 e;injection e with e2 e;injection e with e3 e;injection e with e4 e;rw[e0,e5,e4];exact⟨h0,h5,h4⟩
theorem qqt(v:Ap)(qa:List Node)(vs:List (List Int))(c:qh)(w:Am)(h:PCV w v qa vs c)(hvs:vs.length=qa.length) :
   As prog 50 #[v] w (q97 w qa vs c):=by
 obtain⟨A0,n0,c0,A5,n5,c5,A1,n1,c1,A2,n2,c2,A3,n3,c3,A4,n4,c4,rfl,h0,h5,h1,h2,h3,h4⟩:=id h;have hB:=Blk.new w 72 #[.slice A0 n0 c0,.slice A5 n5 c5,.slice A1 n1 c1,.slice A2 n2 c2,.slice A3 n3 c3,.slice A4 n4 c4];have hg:=AJ w (.cells #[.slice A0 n0 c0,.slice A5 n5 c5,.slice A1 n1 c1,.slice A2 n2 c2,.slice A3 n3 c3,.slice A4 n4 c4] 72) none;have hn0:=h0.len;have hn4:=h4.len;have hn5:=h5.len
 have qlW:n4<=9223372036854775807:=by
  obtain⟨xs,t1,-⟩:=id h4;have:=t1.le;omega
 have P0:=h.new hg;have Hn0:=Lib.hid hn0;have Hn4:=Lib.hid hn4;clear h0 h1 h2 h3 h4 h5;by_cases hll:n4=n0
 . subst hll;have qiV:n5=n4:=by omega
   subst qiV;clear hn0 hn4 hn5 hvs h;go_enter func50,ntmps50;go_upto_region 1 with fail;generalize w.alloc (.cells #[.slice A0 n5 c0,.slice A5 n5 c5,.slice A1 n1 c1,.slice A2 n2 c2,.slice A3 n3 c3,.slice A4 n5 c4] 72)=W at hB hg P0 |-;have q0:=hB.cell 0;have q5:=hB.cell 5;go_wp2_with fail
   go_loopg [18] (n5+1) (λmm i wr=>∃k:Nat,k<=n5/\mm=n5+1-k/\i=.int .i64 k/\W.grownBy wr none/\Hid (∀i,i<k->rowFine vs c i))
   case atStart=>exact⟨0,Bs _,rfl,rfl,qag _ _,λi hi=>absurd hi (Bv _)⟩
   case round=>
    clear q0 q5;obtain⟨k,hk,rfl,rfl,hgr,Hk⟩:=hrel;have B2:=hB.grown hgr (by simp);have P2:=P0.new hgr;have gw:=qac hg hgr;by_cases hlt:k<n5
    . obtain⟨-,p5,p4⟩:=P2.form;obtain⟨g,o,l,B,m,e',rfl,hl,x0,hrl,hml,-,-⟩:=p4.at_ hlt;obtain⟨g5,o5,l5,B5,m5,e5,rfl,hl5,x5,qcI,-,-,-⟩:=p5.at_ hlt;have Hl:=Lib.hid hl;have Hl5:=Lib.hid hl5;have Hml:=Lib.hid hml;clear hl hl5 hml p4 p5;have q0:=B2.cell 0;have q1:=B2.cell 1;have q2:=B2.cell 2;have q3:=B2.cell 3;have q4:=B2.cell 4;have q5:=B2.cell 5;have hki:(k:Int)<(n5:Int):=by omega
      have Hf1:Hid (c.rows.getD k []=l):=by show _=_;rw[AU,Hl.out];rfl
      have Hf2:Hid (vs.getD k []=l5):=by show _=_;rw[AU,Hl5.out];rfl
      by_cases hd:(k:Int)∈c.done
      . have Hd:Hid (decide ((k:Int)∈c.done)=true):=decide_eq_true hd;have Hin:=Lib.hid hd;clear hd;go_wp2_with fail;refine(q1b _ qa vs c k wr P2 Hd.out).mono ?_;rintro e w2 ⟨rfl,hg2⟩;have g2:=qac hgr hg2;have B3:=B2.grown hg2 (by simp);have r1:=hrl.new hg2;have r5:=qcI.new hg2;have y5:=qg7 x5 hg2;have y1:=B3.cell 1;clear q0 q1 q2 q3 q4 q5 hrl qcI x0 x5 P2;by_cases heq:l=l5
        . have yl:Hid (rowFine vs c k):=by
           show rowFine vs c k;unfold rowFine;rw[if_pos Hin.out,Hf1.out,Hf2.out];exact heq
          have He:Hid (decide (l=l5)=true):=decide_eq_true heq;clear heq;go_wp2_with fail;refine(qmh _ _ _ _ w2 r1 r5 He.out).mono ?_;rintro e w3 ⟨rfl,hg3⟩;have g3:=qac g2 hg3;go_wp2;go_roundg (n5+1-(k+1))
          case measure=>omega
          case rel=>exact⟨k+1,by omega,rfl,by go_num,g3,λi hi=>by
           by_cases e2:i=k
           . subst e2;exact yl.out
           . exact Hk.out i (by omega)⟩
        . have hno:Hid (¬ qg2 qa vs c):=fun e2=>by
           have h1:=e2.2 k (by rw[<-Hn4.out];exact hlt);unfold rowFine at h1;rw[if_pos Hin.out,Hf1.out,Hf2.out]at h1;exact heq h1
          have He:Hid (decide (l=l5)=false):=decide_eq_false heq;clear heq;go_wp2_with fail;refine(qmh _ _ _ _ w2 r1 r5 He.out).mono ?_;rintro e w3 ⟨rfl,hg3⟩;have g3:=qac hg (qac g2 hg3);go_wp2;go_ret;exact⟨false,rfl,⟨λe2=>(by cases e2),λe2=>absurd e2 hno.out⟩,g3⟩
      . have Hd:Hid (decide ((k:Int)∈c.done)=false):=decide_eq_false hd;have Hin:=Lib.hid hd;clear hd;go_wp2_with fail;refine(q1b _ qa vs c k wr P2 Hd.out).mono ?_;rintro e w2 ⟨rfl,hg2⟩;have g2:=qac hgr hg2;clear q0 q1 q2 q3 q4 q5 qcI x0 x5 P2;by_cases heq:m=0
        . subst heq
          have yl:Hid (rowFine vs c k):=by
           show rowFine vs c k;unfold rowFine;rw[if_neg Hin.out,Hf1.out];exact AW Hml.out.symm
          go_wp2;go_roundg (n5+1-(k+1))
          case measure=>omega
          case rel=>exact⟨k+1,by omega,rfl,by go_num,g2,λi hi=>by
           by_cases e2:i=k
           . subst e2;exact yl.out
           . exact Hk.out i (by omega)⟩
        . have hno:Hid (¬ qg2 qa vs c):=fun e2=>by
           have h1:=e2.2 k (by rw[<-Hn4.out];exact hlt);unfold rowFine at h1;rw[if_neg Hin.out,Hf1.out]at h1;have:=Hml.out;rw[h1]at this;exact heq this
          have hb:((m:Int)==0)=false:=by simpa using heq
          have g3:=qac hg g2;go_wp2;go_ret;exact⟨false,rfl,⟨λe2=>(by cases e2),λe2=>absurd e2 hno.out⟩,g3⟩
    . obtain rfl:n5=k:=by omega
      have qcJ:Hid (qg2 qa vs c):=⟨by rw[<-Hn4.out,<-Hn0.out],λi hi=>Hk.out i (by rw[Hn4.out];exact hi)⟩;clear P2 B2;go_wp2;go_ret;exact⟨true,rfl,⟨λ_=>qcJ.out,λ_=>rfl⟩,gw⟩
 . have hno:Hid (¬qg2 qa vs c):=λe=>hll (by rw[Hn4.out,Hn0.out];exact e.1);have hb:((n4:Int)==(n0:Int))=false:=by simp only[beq_eq_false_iff_ne,ne_eq];omega
   clear hn0 hn4 hn5 hvs h hll;go_enter func50,ntmps50;go_upto_region 1 with fail;generalize w.alloc (.cells #[.slice A0 n0 c0,.slice A5 n5 c5,.slice A1 n1 c1,.slice A2 n2 c2,.slice A3 n3 c3,.slice A4 n4 c4] 72)=W at hB hg P0 |-;have q0:=hB.cell 0;have q5:=hB.cell 5;go_wp2;go_ret;exact⟨false,rfl,⟨λe2=>(by cases e2),λe2=>absurd e2 hno.out⟩,hg⟩
theorem qww(v:Ap)(base:Nat)(l:List Int)(w:Am)(h:qf w base v l)(hl:l.length<=12) :
   As prog 86 #[v] w (qq9 w base v (qj l)):=by
 have hlen:=h.1;rcases id h.2 with ⟨e,hz⟩|⟨g,cap,cur,e,-⟩
 . have hl0:l=[]:=AW (by omega);subst hl0 e;go_enter func86,ntmps86;go_wp2_with fail;refine(qh4 0 (by omega) _).mono ?_;rintro e w' ⟨⟨z,rfl⟩,rfl⟩;go_wp2_with fail;refine(q1k z _).mono ?_;rintro e w1 ⟨rfl,rfl⟩;go_wp2_with fail;exact Aj (Ax rfl _ _ _) rfl ⟨rfl,h,qag _ _⟩
 . subst e;generalize hn:l.length=n at *;have Hn:=Lib.hid hn;clear hn hlen;go_enter func86,ntmps86;go_wp2_with fail;refine(qh4 n hl _).mono ?_;rintro e w' ⟨⟨z,rfl⟩,rfl⟩;go_wp2_with fail;refine(q53 g n cap base l _ h Hn.out.symm hl z).mono ?_;rintro e w1 ⟨rfl,ho,hg⟩;go_wp2_with fail;exact Aj (Ax rfl _ _ _) rfl ⟨rfl,ho,hg⟩
theorem q7s(n:Nat)(w:Am)(hn:n<=1000):As prog 132 #[.slice none 0 0,.int .i64 n] w (qer w []):=by
 by_cases h0:n=0
 . subst h0;go_enter func132,ntmps132;go_wp2;go_ret;exact⟨_,rfl,qf.nil _ _,qag _ _⟩
 . obtain⟨i,hi,hz0,hz1,hz2⟩:=info_parts qiq;have hpos:0<n:=by omega
   have hr:=λty=>Lib.run_append_nil_zeros (P:=prog) w 24 3 ty 3 i (.int .i64 0) .i64 .i64 underlying24 underlying3 hi hz0 n hpos (by omega) (by omega) (by rw[hz2];omega);have hge:n<=grownCap w n 0 3:=grownCap_ge w _ _ _;have hmx:grownCap w n 0 3<=maxLen:=grownCap_le_maxLen w n 0 3 (by unfold maxLen;omega);generalize grownCap w n 0 3=G at hr hge hmx
   have ho:qf (w.drew.alloc (.cells (AF (int .i64 0).cells n++AF (int .i64 0).cells (G-n)) 3)) w.heap.size (.slice (some ⟨w.heap.size,0,none⟩) 0 G) []:=by
    refine⟨rfl,.inr ⟨w.heap.size,G,_,rfl,Bt _,heap_alloc_new w.drew _,Bs _,hmx,?_,by simp⟩⟩;rw[Array.size_append,AA,AA];show n*1+(G-n)*1=G*1;omega
   have hg:w.grownBy (w.drew.alloc (.cells (AF (int .i64 0).cells n++AF (int .i64 0).cells (G-n)) 3)) none:=qac (qay (qag w none)) (AJ w.drew _ none);have qlX:G<=9223372036854775807:=by unfold maxLen at hmx;omega
   generalize AF (int .i64 0).cells n++AF (int .i64 0).cells (G-n)=Z at hr ho hg;clear hz0 hz1 hz2 hi;go_enter func132,ntmps132;go_wp2_with (at_builtin;refine Lib.wpList_append_run _ rfl _ _ _ _ rfl _ _ rfl rfl _ _ (hr _) ?_);go_ret;exact⟨_,rfl,ho,hg⟩
theorem qy9{ops:Array Oper}{rest:List Oper}{o:Oper}{a:Act}{Q:Exit->Act->Am->Prop}
   (s x:Operand) (t:AB) (ht:Tryz.prog.underlying t=some (.slice 3)) (hgd:o.guard=none) (ho:o.op=.call {callee:=.builtin .append,args:=#[s,x],argTypes:=#[t,t]})
   {base:Nat} {xv:Ap} {l0:List Int} (hown:qf w base v l0) (hxv:RI w xv l) (hn:l0.length+l.length<=1000000000) (hbase:base<=w.heap.size)
   (hs:a.eval s=v) (hx:a.eval x=xv)
   (h:∀v' w',qf w' base v' (l0++l)->w.grownBy w' v.ownBlock->wpList prog ops Q rest (a.put o.dst v') w') :
   wpList prog ops Q (o::rest) a w:=by
 obtain⟨i,hi,hz0,hz1,hz2⟩:=info_parts qiq;obtain⟨A,c,e,hc,hcm,hcn⟩:=TS.form hxv;subst e
 match A,hcn with
 |none,hcn=>
  obtain rfl:=hcn rfl;have hl0:l=[]:=AW (by omega);subst hl0;refine wpList_append_own_none hgd s x t ho base 3 i 1 ht hi v _ _ hs hown hx ?_;rw[append_nil]at h;exact h _ _ hown (qag _ _)
 |some ad,hcn=>
  refine wpList_append_own _ hgd s x t ho base 3 i _ 1 8 ht hi hz0 hz1 hz2 rfl (by decide) v _ _ hs hown ad l.length c (l.map (.int .i64)) hx (by rw[Bc,Nat.mul_one]) ?_ (qgy l) ?_ ?_ hbase ?_
  . intro j u hj;have hjl:=(AR.1 hj).1;rw[Bc]at hjl;obtain⟨g,o',cur,e,_,hcell⟩:=TS.at_ hxv (by omega);have e2:ad=⟨g,o',none⟩:=Option.some.inj e;rw[e2,Addr.add_lit];exact hcell j u hj
  . unfold maxLen;omega
  . omega
  . intro v' w' h1 h2 _;refine h v' w' ?_ h2;unfold qf;simpa using h1
theorem qlw(h:ll[k]?=some l):(ll.take (k+1)).flatten=(ll.take k).flatten++l:=by
 obtain⟨hk,rfl⟩:=AR.1 h;rw[AV hk,Bo];simp
theorem qza(ll:List (List Int))(k:Nat):(ll.take k).flatten.length<=ll.flatten.length:=by
 have e:ll.flatten=(ll.take k).flatten++(ll.drop k).flatten:=by rw[<-Bo,take_append_drop]
 rw[e,AZ];omega
theorem q2q(v:Ap)(ll:List (List Int))(w:Am)(h:RL w v ll)(hl:ll.flatten.length<=1000)(hll:ll.length<=1000):As prog 85 #[v] w (qer w ll.flatten):=by
 obtain⟨A,n,c,rfl⟩:=h.val;have hn:=h.len;have hn1:n<=1000:=by omega
 have Hn:=Lib.hid hn;have Hl:=Lib.hid hl;clear hn hl hll;go_enter func85,ntmps85;go_wp2_with fail
 go_loopg [3,11] (n+1) (λmm s i wr=>∃(k z:Nat),k<=n/\mm=n+1-k/\i=.int .i64 k/\s=.int .i64 z/\w=wr/\z<=1000/\Hid (z=(ll.take k).flatten.length))
 case atStart=>exact⟨0,0,Bs _,rfl,rfl,rfl,rfl,Bs _,rfl⟩
 case round=>
  obtain⟨k,z,hk,rfl,rfl,rfl,rfl,hz,Hz⟩:=hrel;by_cases hlt:k<n
  . obtain⟨g,o,l,B,m,e,rfl,hx,c0,hr,hm,-,-⟩:=h.at_ hlt;have hz2:Hid (z+m=(ll.take (k+1)).flatten.length):=by show _=_;rw[qlw hx,AZ,<-Hz.out,hm]
    have hzm:z+m<=1000:=by have:=qza ll (k+1);have:=hz2.out;have:=Hl.out;omega
    clear hx hr hm;go_wp2;go_roundg (n+1-(k+1))
    case measure=>omega
    case rel=>exact⟨k+1,z+m,by omega,rfl,by go_num,by go_num,rfl,hzm,hz2⟩
  . obtain rfl:n=k:=by omega
    go_wp2_with fail;refine(q7s z w hz).mono ?_;rintro e w1 ⟨v1,rfl,ho,hg⟩;obtain⟨A1,n1,c1,rfl⟩:=ho.ri.val;go_wp2_with fail
    go_loopg [6,27] (n+1) (λmm s i wr=>∃(k:Nat),k<=n/\mm=n+1-k/\i=.int .i64 k/\qf wr w.heap.size s (ll.take k).flatten/\w.grownBy wr none)
    case atStart=>exact⟨0,Bs _,rfl,rfl,by exact ho,hg⟩
    case round=>
     clear ho hg;obtain⟨k,hk,rfl,rfl,ho,hg⟩:=hrel;obtain⟨A2,n2,c2,rfl⟩:=ho.ri.val;have h2:=h.new hg;by_cases hlt:k<n
     . obtain⟨g,o,l,B,m,e,rfl,hx,c0,hr,hm,-,-⟩:=h2.at_ hlt;have Hx:=Lib.hid hx
       have hb:(ll.take k).flatten.length+l.length<=1000000000:=by
        have h3:=qza ll (k+1);rw[qlw hx,AZ]at h3;have:=Hl.out;omega
       clear hx hm;go_wp2_with (at_builtin;go_must (refine qy9 (.tmp 31) (.tmp 32) 24 underlying24 rfl rfl ho hr hb hg.size rfl rfl ?_));intro v5 w5 ho5 hg5;have g5:=ho.gb hg hg5 (Bt _);rw[<-qlw Hx.out]at ho5;obtain⟨A5,n5,c5,rfl⟩:=ho5.ri.val;go_wp2;go_roundg (n+1-(k+1))
       case measure=>omega
       case rel=>exact⟨k+1,by omega,rfl,by go_num,ho5,g5⟩
     . obtain rfl:n=k:=by omega
       rw[AX (By Hn.out.symm)]at ho;go_wp2;go_ret;exact⟨_,rfl,ho,hg⟩
theorem q2r(qa:List Node)(D:List Int)(hv:qae qa=true):(qan qa D).length<=10:=by
 have h:=qgg qa D;have:=qam hv;omega
def q44(w:Am)(qa:List Node)(c:qh)(e:At)(w':Am):Prop:=∃b,e=.returned (.bool b)/\(b=true↔c.qb.flatten.Perm (qan qa c.done))/\w.grownBy w' none
theorem qnc(v:Ap)(qa:List Node)(vs:List (List Int))(c:qh)(w:Am)(h:PCV w v qa vs c)(hv:qae qa=true)(hd4:c.qb.length<=4)(hfit:∀d∈c.qb,d.length<=1048576) :
   As prog 49 #[v] w (q44 w qa c):=by
 obtain⟨A0,n0,c0,A5,n5,c5,A1,n1,c1,A2,n2,c2,A3,n3,c3,A4,n4,c4,rfl,h0,h5,h1,h2,h3,h4⟩:=h;have hB:=Blk.new w 72 #[.slice A0 n0 c0,.slice A5 n5 c5,.slice A1 n1 c1,.slice A2 n2 c2,.slice A3 n3 c3,.slice A4 n4 c4];have hg:=AJ w (.cells #[.slice A0 n0 c0,.slice A5 n5 c5,.slice A1 n1 c1,.slice A2 n2 c2,.slice A3 n3 c3,.slice A4 n4 c4] 72) none;have Hv:=Lib.hid hv;have hn1:=h1.len;have qiB:n1<=4:=by omega
 have Hn1:=Lib.hid hn1;have qD:=Lib.hid hfit;have H4:=Lib.hid hd4;clear h5 h2 h4 hv hn1 hfit hd4;have k0:=h0.new hg;have k1:=h1.new hg;have k3:=h3.new hg;clear h0 h1 h3;go_enter func49,ntmps49;go_upto_region 1 with fail;generalize w.alloc (.cells #[.slice A0 n0 c0,.slice A5 n5 c5,.slice A1 n1 c1,.slice A2 n2 c2,.slice A3 n3 c3,.slice A4 n4 c4] 72)=W at hB hg k0 k1 k3 |-;have q0:=hB.cell 0;have q4:=hB.cell 4;go_wp2_with fail;refine(q0b _ _ qa c.done W k0 k3 Hv.out).mono ?_;rintro e w1 ⟨rv,rfl,ho1,hg1⟩;obtain⟨Ar,nr,cr,rfl,hnr,hlr⟩:=ho1.ri.form';have kH:nr<=10:=by have:=q2r qa c.done Hv.out;omega
 have Hlr:=Lib.hid hlr;have B1:=hB.grown hg1 (by simp);have q2:=B1.cell 2;have m1:=k1.new hg1;have g1:=qac hg hg1;clear k0 k1 k3 hB hg hg1 q0 q4 hlr;go_wp2_with fail
 go_loopg [4,19] (n1+1) (λmm s i wr=>∃(k z:Nat),k<=n1/\mm=n1+1-k/\i=.int .i64 k/\s=.int .i64 z/\w1=wr/\z<=nr/\Hid (z=(c.qb.take k).flatten.length))
 case atStart=>exact⟨0,0,Bs _,rfl,rfl,rfl,rfl,Bs _,rfl⟩
 case round=>
  obtain⟨k,z,hk,rfl,rfl,rfl,rfl,hz,Hz⟩:=hrel;by_cases hlt:k<n1
  . obtain⟨g,o,l,B,m,e,rfl,hx,x0,hr,hm,-,-⟩:=m1.at_ hlt;have hz2:Hid (z+m=(c.qb.take (k+1)).flatten.length):=by show _=_;rw[qlw hx,AZ,<-Hz.out,hm]
    have hmb:m<=1048576:=by have:=qD.out l (AT hx);omega
    clear hx hr hm;by_cases qiW:nr<z+m
    . have hno:Hid (¬ c.qb.flatten.Perm (qan qa c.done)):=fun hp=>by
       have h1:=hp.length_eq;have h2:=qza c.qb (k+1);have h3:=hz2.out;have h4:=Hlr.out;omega
      clear hz2;go_wp2;go_ret;exact⟨false,rfl,⟨λe2=>(by cases e2),λe2=>absurd e2 hno.out⟩,g1⟩
    . go_wp2;go_roundg (n1+1-(k+1))
      case measure=>omega
      case rel=>exact⟨k+1,z+m,by omega,rfl,by go_num,by go_num,rfl,by omega,hz2⟩
  . obtain rfl:n1=k:=by omega
    have hfl:c.qb.flatten.length<=10:=by
     have:=Hz.out;rw[AX (By Hn1.out.symm)]at this;omega
    have kK:c.qb.length<=1000:=by have:=H4.out;omega
    clear Hz;go_wp2_with fail;refine(q2q _ c.qb w1 m1 (by omega) kK).mono ?_;rintro e w2 ⟨av,rfl,ho2,hg2⟩;have qiX:=ho1.new hg2;obtain⟨Aa,na,ca,rfl⟩:=ho2.ri.val;go_wp2_with fail;refine(qww _ w1.heap.size c.qb.flatten w2 ho2 (by omega)).mono ?_;rintro e w3 ⟨rfl,ho3,hg3⟩;have g3:=qa2 hg2 hg3 (λg e=>.inl (ho2.lt g e).1);have hr3:=ho1.ri.new g3;have g4:=qac g1 g3;clear ho1 qiX hg2 hg3 g3 g1 ho2;by_cases heq:qj c.qb.flatten=qan qa c.done
    . have He:Hid (decide (qj c.qb.flatten=qan qa c.done)=true):=decide_eq_true heq;have qcJ:Hid (c.qb.flatten.Perm (qan qa c.done)):=qta.1 heq;clear heq;go_wp2_with fail;refine(qmh _ _ _ _ w3 ho3.ri hr3 He.out).mono ?_;rintro e w4 ⟨rfl,hg4⟩;go_wp2;go_ret;exact⟨true,rfl,⟨λ_=>qcJ.out,λ_=>rfl⟩,qac g4 hg4⟩
    . have He:Hid (decide (qj c.qb.flatten=qan qa c.done)=false):=decide_eq_false heq;have hno:Hid (¬c.qb.flatten.Perm (qan qa c.done)):=λhp=>heq (qta.2 hp);clear heq;go_wp2_with fail;refine(qmh _ _ _ _ w3 ho3.ri hr3 He.out).mono ?_;rintro e w4 ⟨rfl,hg4⟩;go_wp2;go_ret;exact⟨false,rfl,⟨λe2=>(by cases e2),λe2=>absurd e2 hno.out⟩,qac g4 hg4⟩
theorem qnd(hx:D[k]?=some x)(h:qe2 qa (D.take k) x=false):qbu qa D=false:=by
 obtain⟨hk,rfl⟩:=AR.1 hx;cases ho:qbu qa D with
 |false=>rfl
 |true=>rw[qhe ho hk]at h;cases h
theorem qwo(hx:D[k]?=some x)(ho:qdd qa D k=true)(h:qe2 qa (D.take k) x=true):qdd qa D (k+1)=true:=by
 rw[qet,ho,AU,hx];exact h
theorem q7t{q:Nat}{nd:Node}(hv:qae qa=true)(hq:qa[q]?=some nd):qe2 qa D (q:Int)=true↔qcl qa.length D q=false/\nd.frm.all (λx=>qcl qa.length D x.toNat)=true:=by
 have hql:=(AR.1 hq).1;rw[qd5,AO,qdh hq,all_eq_true];unfold qcl;constructor
 . rintro⟨-,-,h3,h4⟩;refine⟨by simp[h3],λf hf=>?_⟩;have:=qeg hv (i:=q) (x:=f) (by rw[qdh hq];exact hf);rw[AQ this.1];simp[h4 f hf];omega
 . rintro⟨h3,h4⟩;refine⟨AN q,AP.2 hql,λe=>by simp[hql,e]at h3,λf hf=>?_⟩;have h5:=qeg hv (i:=q) (x:=f) (by rw[qdh hq];exact hf);have h6:=h4 f hf;rw[AQ h5.1]at h6;simp only[Bool.and_eq_true,decide_eq_true_eq]at h6;exact h6.2
theorem qql(v dv:Ap)(qa:List Node)(D:List Int)(w:Am)(h:RN w v qa)(hd:RI w dv D)(hv:qae qa=true) :
   As prog 47 #[v,dv] w λe w'=>e=.returned (.bool (qbu qa D))/\w.grownBy w' none:=by
 obtain⟨A,n,c,rfl,-,hn,-⟩:=h.form';obtain⟨B,m,c',rfl,-,hm⟩:=hd.form';have hle:=hd.le;have qlY:m<=9223372036854775807:=by omega
 have zF:n<=10:=by have:=qam hv;omega
 have Hn:=Lib.hid hn;have Hm:=Lib.hid hm;have Hv:=Lib.hid hv;clear hn hm hv hle
 have hM0:MK (w.alloc (.cells #[.bool false,.bool false,.bool false,.bool false,.bool false,.bool false,.bool false,.bool false,.bool false,.bool false] 78)) w.heap.size (qcl n (D.take 0)):=by
  have e:marks (qcl n (D.take 0))=#[.bool false,.bool false,.bool false,.bool false,.bool false,.bool false,.bool false,.bool false,.bool false,.bool false]:=by
   have:qcl n (D.take 0)=λ_=>false:=by
    funext i;simp[qcl]
   rw[this];rfl
  show Blk _ _ _ _;rw[e];exact Blk.new w _ _
 have hg0:w.grownBy (w.alloc (.cells #[.bool false,.bool false,.bool false,.bool false,.bool false,.bool false,.bool false,.bool false,.bool false,.bool false] 78)) none:=qaq (qag w none) _;have fin:∀w' b,w.grownBy w' none->qbu qa D=b->(AG (.bool b)=.returned (.bool (qbu qa D))/\w.grownBy w' none):=λw' b hg hr=>⟨by rw[hr],hg⟩;go_enter func47,ntmps47;go_wp2_with fail
 go_loopg [10] (m+1) (λmm i wr=>∃k:Nat,k<=m/\mm=m+1-k/\i=.int .i64 k/\Hid (MK wr w.heap.size (qcl n (D.take k)))/\w.grownBy wr none/\Hid (qdd qa D k=true))
 case atStart=>exact⟨0,Bs _,rfl,rfl,hM0,hg0,rfl⟩
 case round=>
  clear hM0 hg0;obtain⟨k,hk,rfl,rfl,HM,hg,Ho⟩:=hrel;by_cases hlt:k<m
  . obtain⟨g,o,x,rfl,hx,c0⟩:=(hd.new hg).at_ hlt;have Hx:=Lib.hid hx;clear hx;by_cases hxn:0<=x/\x<n
    . obtain⟨q,rfl⟩:=AM hxn.1;have hq:q<n:=by omega
      obtain⟨gp,op,nd,f,r,rfl,hnd,d0,d1,d2,hf,hr⟩:=(h.new hg).at_ hq;obtain⟨Af,nf,cf,rfl⟩:=hf.val;have Hnd:=Lib.hid hnd;have Hst:=Lib.hid (q7t (D:=D.take k) Hv.out hnd)
      have Hin:Hid (∀x∈nd.frm,0<=x/\x<10):=λx hx=>by
       have:=qeg Hv.out (i:=q) (x:=x) (by rw[qdh Hnd.out];exact hx);omega
      have c1:=HM.out.cell (k:=q) (by omega);have f1:wr.frozen? ⟨w.heap.size,q,none⟩=false:=Blk.frozen HM.out q;have hb1:Hid ((decide (0<=(q:Int))&&decide ((q:Int)<(n:Int)))=true):=by show _=_;simp;omega
      clear hnd hxn hr;by_cases hmk:qcl n (D.take k) q=true
      . have Hr:Hid (qbu qa D=false):=qnd Hx.out (by
         cases hs:qe2 qa (D.take k) (q:Int)with
         |false=>rfl
         |true=>
          have:=(Hst.out.1 hs).1;rw[<-Hn.out,hmk]at this;cases this)
        rw[hmk]at c1;clear hmk;have hfin:=Lib.hid (fin wr false hg Hr.out);clear fin;go_wp2_with fail;refine(qfb _ _ _ q _ hb1.out).mono ?_;rintro e w2 ⟨rfl,rfl⟩;go_wp2;go_ret;exact hfin.out
      . have qcK:qcl n (D.take k) q=false:=by simpa using hmk
        rw[qcK]at c1;have Hmk:=Lib.hid qcK;clear hmk qcK;by_cases hal:nd.frm.all (λx=>qcl n (D.take k) x.toNat)=true
        . have Hal:=Lib.hid hal;clear hal;have Ho2:Hid (qdd qa D (k+1)=true):=qwo Hx.out Ho.out (Hst.out.2 ⟨by rw[<-Hn.out];exact Hmk.out,by rw[<-Hn.out];exact Hal.out⟩)
          have HM2:Hid (MK (wr.setCell ⟨w.heap.size,q,none⟩ (.bool true)) w.heap.size (qcl n (D.take (k+1)))):=by
           show Blk _ _ _ _;rw[qr1 n Hx.out,if_pos ⟨AN q,AP.2 hq⟩,AO,<-qx5 _ (by omega)];exact Blk.qC HM.out q _
          have hg2:w.grownBy (wr.setCell ⟨w.heap.size,q,none⟩ (.bool true)) none:=qa3 (p:=⟨w.heap.size,q,none⟩) hg (.inl (Bt _)) _;clear fin;go_wp2_with fail;refine(qfb _ _ _ q _ hb1.out).mono ?_;rintro e w2 ⟨rfl,rfl⟩;go_wp2_with fail;refine(qmq _ nd.frm w.heap.size _ wr hf HM.out Hin.out Hal.out).mono ?_;rintro e w2 ⟨rfl,rfl⟩;go_wp2;go_roundg (m+1-(k+1))
          case measure=>omega
          case rel=>exact⟨k+1,by omega,rfl,by go_num,HM2,hg2,Ho2⟩
        . have qeR:nd.frm.all (λx=>qcl n (D.take k) x.toNat)=false:=by simpa using hal
          have Hal:=Lib.hid qeR;clear hal qeR
          have Hr:Hid (qbu qa D=false):=qnd Hx.out (by
           cases hs:qe2 qa (D.take k) (q:Int)with
           |false=>rfl
           |true=>
            have:=(Hst.out.1 hs).2;rw[<-Hn.out,Hal.out]at this;cases this)
          have hfin:=Lib.hid (fin wr false hg Hr.out);clear fin;go_wp2_with fail;refine(qfb _ _ _ q _ hb1.out).mono ?_;rintro e w2 ⟨rfl,rfl⟩;go_wp2_with fail;refine(qmq _ nd.frm w.heap.size _ wr hf HM.out Hin.out Hal.out).mono ?_;rintro e w2 ⟨rfl,rfl⟩;go_wp2;go_ret;exact hfin.out
    . have hbn:(decide (0<=x) && decide (x < (n:Int)))=false:=by
       rw[Ab,decide_eq_false_iff_not,decide_eq_false_iff_not];omega
      have Hbn:=Lib.hid hbn
      have Hr:Hid (qbu qa D=false):=qnd Hx.out (by
       cases hs:qe2 qa (D.take k) x with
       |false=>rfl
       |true=>
        have h1:=qd5.1 hs;have h2:=Hn.out;exfalso;exact hxn ⟨h1.1,by omega⟩)
      have hfin:=Lib.hid (fin wr false hg Hr.out);clear hbn hxn fin;go_wp2_with fail;refine(qfb _ _ _ x _ Hbn.out).mono ?_;rintro e w2 ⟨rfl,rfl⟩;go_wp2;go_ret;exact hfin.out
  . obtain rfl:m=k:=by omega
    have Hr:Hid (qbu qa D=true):=by
     show qdd qa D D.length=true;rw[<-Hm.out];exact Ho.out
    have hfin:=Lib.hid (fin wr true hg Hr.out);clear fin;go_wp2;go_ret;exact hfin.out
theorem qwp:qg2 qa (values qa) c↔c.rows.length=qa.length/\∀i,i<qa.length->c.rows[i]?=some (qee qa c.done i):=by
 unfold qg2;constructor
 . rintro⟨h1,h2⟩;refine⟨h1,λi hi=>?_⟩;have h3:=h2 i (by omega);unfold rowFine at h3;rw[AU,AS (by omega)]at h3;rw[AS (by omega)];exact congrArg some h3
 . rintro⟨h1,h2⟩;refine⟨h1,λi hi=>?_⟩;have h3:=h2 i (by omega);unfold rowFine;rw[AU,h3];rfl
theorem qdz:qm qa c↔qae qa=true/\(1<=c.qb.length/\c.qb.length<=4)/\qbu qa c.done=true/\lefts qa c.done=c.counts/\c.qb.flatten.Perm (qan qa c.done)/\qg2 qa (values qa) c:=by
 rw[qwp];constructor
 . intro h;exact⟨h.pv,⟨h.d1,h.d4⟩,h.order,h.counts.symm,h.dq,h.rl,h.rows⟩
 . rintro⟨h1,⟨h2,h3⟩,h4,h5,h6,h7,h8⟩;exact⟨h1,h2,h3,h4,h5.symm,h7,h6,h8⟩
theorem qlx(v dv:Ap)(qa:List Node)(D:List Int)(w:Am)(h:RN w v qa)(hd:RI w dv D)(hv:qae qa=true)(hb:qbu qa D=b) :
   As prog 47 #[v,dv] w λe w'=>e=.returned (.bool b)/\w.grownBy w' none:=hb▸qql v dv qa D w h hd hv
theorem qd7(h:¬qm qa c):qat qa c=false:=by
 cases hc:qat qa c with
 |false=>rfl
 |true=>exact absurd (qbb.1 hc) h
theorem qne(pv v:Ap)(qa:List Node)(c:qh)(w:Am)(hp:RN w pv qa)(h:CV w v c)(hfit:∀d∈c.qb,d.length<=1048576) :
   As prog 16 #[pv,v] w λe w'=>e=.returned (.bool (qat qa c))/\w.grownBy w' none:=by
 obtain⟨A0,n0,c0,rfl,-,-,-⟩:=hp.form';obtain⟨A1,n1,c1,A2,n2,c2,A3,n3,c3,A4,n4,c4,rfl,h1,h2,h3,h4⟩:=h.form;have hB:=Blk.new w 29 #[.slice A1 n1 c1,.slice A2 n2 c2,.slice A3 n3 c3,.slice A4 n4 c4];have hg:=AJ w (.cells #[.slice A1 n1 c1,.slice A2 n2 c2,.slice A3 n3 c3,.slice A4 n4 c4] 29) none;have Hn1:=Lib.hid h1.len;have qD:=Lib.hid hfit;have fin:∀w' b,w.grownBy w' none->qat qa c=b->(AG (.bool b)=.returned (.bool (qat qa c))/\w.grownBy w' none):=λw' b hg hr=>⟨by rw[hr],hg⟩;have k0:=hp.new hg;have k1:=h1.new hg;have k2:=h2.new hg;have k3:=h3.new hg;have k4:=h4.new hg;clear hp h h1 h2 h3 h4 hfit;go_enter func16,ntmps16;go_upto_region 1 with fail;generalize w.alloc (.cells #[.slice A1 n1 c1,.slice A2 n2 c2,.slice A3 n3 c3,.slice A4 n4 c4] 29)=W at hB hg k0 k1 k2 k3 k4 |-;go_wp2_with fail;refine(qok _ qa W k0).mono ?_;rintro e w1 ⟨v1,rfl,ho1,hg1⟩;have B1:=hB.grown hg1 (by simp);have m0:=k0.new hg1;have m1:=k1.new hg1;have m2:=k2.new hg1;have m3:=k3.new hg1;have m4:=k4.new hg1;have g1:=qac hg hg1;have q0:=B1.cell 0;have q1:=B1.cell 1;have q2:=B1.cell 2;have q3:=B1.cell 3;obtain⟨Av,nv,cv,rfl⟩:=ho1.rl.val;clear k0 k1 k2 k3 k4 hB hg hg1;by_cases hv:qae qa=true
 . have Hv:=Lib.hid hv;rw[hv,if_pos rfl]at ho1;rw[hv];have r5:=ho1.rl;clear hv ho1;by_cases hin:1<=n1/\n1<=4
   . have Hin:Hid ((decide (1<=(n1:Int))&&decide ((n1:Int)<=4))=true):=by show _=_;simp;omega
     have hd4:1<=c.qb.length/\c.qb.length<=4:=by have:=Hn1.out;omega
     by_cases ho:qbu qa c.done=true
     . have Ho:=Lib.hid ho;clear ho hin;go_wp2_with fail;refine(qfk _ _ Hin.out).mono ?_;rintro e w2 ⟨rfl,rfl⟩;go_wp2_with fail;refine(qlx _ _ qa c.done w1 m0 m3 Hv.out Ho.out).mono ?_;rintro e w2 ⟨rfl,hg2⟩;have B2:=B1.grown hg2 (by simp);have q0:=B2.cell 0;have q1:=B2.cell 1;have q2:=B2.cell 2;have q3:=B2.cell 3;have P2:PCV w2 (.agg #[.slice A0 n0 c0,.slice Av nv cv,.slice A1 n1 c1,.slice A2 n2 c2,.slice A3 n3 c3,.slice A4 n4 c4]) qa (values qa) c:=⟨_,_,_,_,_,_,_,_,_,_,_,_,_,_,_,_,_,_,rfl,m0.new hg2,r5.new hg2,m1.new hg2,m2.new hg2,m3.new hg2,m4.new hg2⟩;have hP:=Blk.new w2 72 #[.slice A0 n0 c0,.slice Av nv cv,.slice A1 n1 c1,.slice A2 n2 c2,.slice A3 n3 c3,.slice A4 n4 c4];have hgP:=AJ w2 (.cells #[.slice A0 n0 c0,.slice Av nv cv,.slice A1 n1 c1,.slice A2 n2 c2,.slice A3 n3 c3,.slice A4 n4 c4] 72) none;have P3:=P2.new hgP;have g3:=qac (qac g1 hg2) hgP;clear m0 m1 m2 m3 m4 r5 B1 P2 hg2 g1;go_upto_region 5 with fail;generalize w2.alloc (.cells #[.slice A0 n0 c0,.slice Av nv cv,.slice A1 n1 c1,.slice A2 n2 c2,.slice A3 n3 c3,.slice A4 n4 c4] 72)=w3 at hP hgP P3 g3 |-;clear hgP B2 q0 q1 q2 q3;have s0:=hP.cell 0;have s1:=hP.cell 1;have s2:=hP.cell 2;have s3:=hP.cell 3;have s4:=hP.cell 4;have s5:=hP.cell 5;by_cases hc:lefts qa c.done=c.counts
       . have Hc:Hid (decide (lefts qa c.done=c.counts)=true):=decide_eq_true hc;have Hc2:=Lib.hid hc;clear hc;go_wp2_with fail;refine(qja _ qa (values qa) c w3 P3 Hv.out Ho.out Hc.out).mono ?_;rintro e w4 ⟨rfl,hg4⟩;have P4:=P3.new hg4;have hP4:=hP.grown hg4 (by simp);have g4:=qac g3 hg4;clear s0 s1 s2 s3 s4 s5 P3 hP hg4 g3;have s0:=hP4.cell 0;have s1:=hP4.cell 1;have s2:=hP4.cell 2;have s3:=hP4.cell 3;have s4:=hP4.cell 4;have s5:=hP4.cell 5;go_wp2_with fail;refine(qnc _ qa (values qa) c w4 P4 Hv.out hd4.2 qD.out).mono ?_;rintro e w5 ⟨b2,rfl,hb2,hg5⟩;have P5:=P4.new hg5;have hP5:=hP4.grown hg5 (by simp);have g5:=qac g4 hg5;have Hb2:=Lib.hid hb2;clear s0 s1 s2 s3 s4 s5 P4 hP4 hg5 g4 hb2;have s0:=hP5.cell 0;have s1:=hP5.cell 1;have s2:=hP5.cell 2;have s3:=hP5.cell 3;have s4:=hP5.cell 4;have s5:=hP5.cell 5;cases b2 with
         |false=>
          have hfin:=Lib.hid (fin w5 false g5 (qd7 (λhk=>by have:=Hb2.out.2 (qdz.1 hk).2.2.2.2.1;cases this)));clear fin;go_wp2;go_ret;exact hfin.out
         |true=>
          go_wp2_with fail;refine(qqt _ qa (values qa) c w5 P5 (qf9 qa)).mono ?_;rintro e w6 ⟨b3,rfl,hb3,hg6⟩;have Hb3:=Lib.hid hb3;have g6:=qac g5 hg6;clear hb3 hg6;cases b3 with
          |false=>
           have hfin:=Lib.hid (fin w6 false g6 (qd7 (λhk=>by have:=Hb3.out.2 (qdz.1 hk).2.2.2.2.2;cases this)));clear fin;go_wp2;go_ret;exact hfin.out
          |true=>
           have hfin:=Lib.hid (fin w6 true g6 (qbb.2 (qdz.2 ⟨Hv.out,hd4,Ho.out,Hc2.out,Hb2.out.1 (by first|trivial|rfl),Hb3.out.1 (by first|trivial|rfl)⟩)));clear fin;go_wp2;go_ret;exact hfin.out
       . have Hc:Hid (decide (lefts qa c.done=c.counts)=false):=decide_eq_false hc;have hno:Hid (qat qa c=false):=qd7 (λhk=>hc (qdz.1 hk).2.2.2.1);clear hc;go_wp2_with fail;refine(qja _ qa (values qa) c w3 P3 Hv.out Ho.out Hc.out).mono ?_;rintro e w4 ⟨rfl,hg4⟩;have hfin:=Lib.hid (fin w4 false (qac g3 hg4) hno.out);clear fin;go_wp2;go_ret;exact hfin.out
     . have ho':qbu qa c.done=false:=by simpa using ho
       have Ho:=Lib.hid ho';have hno:Hid (qat qa c=false):=qd7 (λhk=>ho (qdz.1 hk).2.2.1);clear ho ho' hin;go_wp2_with fail;refine(qfk _ _ Hin.out).mono ?_;rintro e w2 ⟨rfl,rfl⟩;go_wp2_with fail;refine(qlx _ _ qa c.done w1 m0 m3 Hv.out Ho.out).mono ?_;rintro e w2 ⟨rfl,hg2⟩;have hfin:=Lib.hid (fin w2 false (qac g1 hg2) hno.out);clear fin;go_wp2;go_ret;exact hfin.out
   . have Hin:Hid ((decide (1<=(n1:Int)) && decide ((n1:Int)<=4))=false):=by
      show _=_;rw[Ab,decide_eq_false_iff_not,decide_eq_false_iff_not];omega
     have hno:Hid (qat qa c=false):=qd7 (λhk=>hin (by have:=(qdz.1 hk).2.1;have:=Hn1.out;omega));clear hin;go_wp2_with fail;refine(qfk _ _ Hin.out).mono ?_;rintro e w2 ⟨rfl,rfl⟩;have hfin:=Lib.hid (fin w1 false g1 hno.out);clear fin;go_wp2;go_ret;exact hfin.out
 . have hv':qae qa=false:=by simpa using hv
   have hno:Hid (qat qa c=false):=qd7 (λhk=>hv (qdz.1 hk).1);have hfin:=Lib.hid (fin w1 false g1 hno.out);rw[hv'];clear fin hv hv' ho1;go_wp2;go_ret;exact hfin.out
theorem qbd(pv v:Ap)(qa:List Node)(c:qh)(w:Am)(hp:RN w pv qa)(h:CV w v c)(hfit:∀d∈c.qb,d.length<=1048576)(hb:qat qa c=b) :
   As prog 16 #[pv,v] w λe w'=>e=.returned (.bool b)/\w.grownBy w' none:=hb▸qne pv v qa c w hp h hfit
theorem qig(pv v:Ap)(qa:List Node)(c:qh)(w:Am)(hp:RN w pv qa)(h:CV w v c)(hfit:∀d∈c.qb,d.length<=1048576) :
   As prog 54 #[pv,v] w λe w'=>e=.returned (.int .i64 (qew qa c))/\w.grownBy w' none:=by
 obtain⟨A0,n0,c0,rfl,-,hn0,-⟩:=hp.form';obtain⟨A1,n1,c1,A2,n2,c2,A3,n3,c3,A4,n4,c4,rfl,h1,h2,h3,h4⟩:=h.form;have Hn0:=Lib.hid hn0;have Hn3:=Lib.hid h3.len;have hB:=h.box;have hg:=AJ w (.cells #[.slice A1 n1 c1,.slice A2 n2 c2,.slice A3 n3 c3,.slice A4 n4 c4] 29) none;have k0:=hp.new hg;have qD:=Lib.hid hfit;clear hn0 h1 h2 h3 h4 hp h hfit;by_cases hv:qat qa c=true
 . have Hv:=Lib.hid hv;have hok:=qbb.1 hv;have zF:n0<=10:=by have:=qam hok.pv;have:=Hn0.out;omega
   have hn3:n3<=n0:=by have:=qwv hok.order;have:=Hn0.out;have:=Hn3.out;omega
   have Hr:Hid (qew qa c=(n0:Int)-(n3:Int)):=by
    show _=_;unfold qew;rw[if_pos hv,Hn0.out,Hn3.out]
   clear hv hok;go_enter func54,ntmps54;go_upto_region 1 with fail;generalize w.alloc (.cells #[.slice A1 n1 c1,.slice A2 n2 c2,.slice A3 n3 c3,.slice A4 n4 c4] 29)=W at hB hg k0 |-;have d0:=hB.d0;have d1:=hB.d1;have d2:=hB.d2;have d3:=hB.d3;go_wp2_with fail;refine(qbd _ _ qa c W k0 hB.cv qD.out Hv.out).mono ?_;rintro e w1 ⟨rfl,hg1⟩;have B1:=hB.new hg1;clear d0 d1 d2 d3;have d2:=B1.d2;have g1:=qac hg hg1;have hw:IntKind.i64.wrap ((n0:Int)-(n3:Int))=(n0:Int)-(n3:Int):=IntWalk.i64_in _ (by omega);go_wp2;go_ret;exact⟨by rw[Hr.out];rfl,g1⟩
 . have hv':qat qa c=false:=by simpa using hv
   have Hv:=Lib.hid hv'
   have Hr:Hid (qew qa c=-1):=by
    show _=_;unfold qew;rw[if_neg hv]
   clear hv hv';go_enter func54,ntmps54;go_upto_region 1 with fail;generalize w.alloc (.cells #[.slice A1 n1 c1,.slice A2 n2 c2,.slice A3 n3 c3,.slice A4 n4 c4] 29)=W at hB hg k0 |-;have d0:=hB.d0;have d1:=hB.d1;have d2:=hB.d2;have d3:=hB.d3;go_wp2_with fail;refine(qbd _ _ qa c W k0 hB.cv qD.out Hv.out).mono ?_;rintro e w1 ⟨rfl,hg1⟩;have g1:=qac hg hg1;go_wp2;go_ret;exact⟨by rw[Hr.out];rfl,g1⟩
theorem qb7(v:Ap)(c:qh)(x:Int)(w:Am)(h:CV w v c)(hb:qba c x=b) :
   As prog 88 #[v,.int .i64 x] w λe w'=>e=.returned (.bool b)/\w.grownBy w' none:=by
 subst hb;obtain⟨A1,n1,c1,A2,n2,c2,A3,n3,c3,A4,n4,c4,rfl,h1,h2,h3,h4⟩:=h.form;have Hn1:=Lib.hid h1.len;have hB:=h.box;have hg:=AJ w (.cells #[.slice A1 n1 c1,.slice A2 n2 c2,.slice A3 n3 c3,.slice A4 n4 c4] 29) none;clear h1 h2 h3 h4 h;have fin:∀w' b,w.grownBy w' none->qba c x=b->(AG (.bool b)=.returned (.bool (qba c x))/\w.grownBy w' none):=λw' b hg hr=>⟨by rw[hr],hg⟩
 have hoff:¬(0<=x/\x<n1)->qba c x=false:=λhno=>by
  cases hw:qba c x with
  |false=>rfl
  |true=>exact absurd (by have:=qbg.1 hw;have:=Hn1.out;omega) hno
 by_cases h0:0<=x
 . by_cases hx:x<(n1:Int)
   . have Hr:Hid (qba c x=true):=qbg.2 ⟨h0,by have:=Hn1.out;omega⟩;clear hoff;go_enter func88,ntmps88;go_upto_region 1 with fail;generalize w.alloc (.cells #[.slice A1 n1 c1,.slice A2 n2 c2,.slice A3 n3 c3,.slice A4 n4 c4] 29)=W at hB hg |-;have d0:=hB.d0;have hfin:=Lib.hid (fin W true hg Hr.out);clear fin;go_wp2;go_ret;exact hfin.out
   . have Hr:Hid (qba c x=false):=hoff (λe=>hx e.2);clear hoff;go_enter func88,ntmps88;go_upto_region 1 with fail;generalize w.alloc (.cells #[.slice A1 n1 c1,.slice A2 n2 c2,.slice A3 n3 c3,.slice A4 n4 c4] 29)=W at hB hg |-;have d0:=hB.d0;have hfin:=Lib.hid (fin W false hg Hr.out);clear fin;go_wp2;go_ret;exact hfin.out
 . have Hr:Hid (qba c x=false):=hoff (λe=>h0 e.1);clear hoff;go_enter func88,ntmps88;go_upto_region 1 with fail;generalize w.alloc (.cells #[.slice A1 n1 c1,.slice A2 n2 c2,.slice A3 n3 c3,.slice A4 n4 c4] 29)=W at hB hg |-;have hfin:=Lib.hid (fin W false hg Hr.out);clear fin;go_wp2;go_ret;exact hfin.out
theorem jf.val{base:Nat}(h:jf w base v ll):∃A n c,v=.slice A n c:=let ⟨_,h1,_⟩:=h;h1.rl.val
theorem LX.ltz{base:Nat}(h:LX w base v ll xs):∀u∈xs,∀g,u.ownBlock=some g->base<=g/\g<w.heap.size:=by
 intro u hu g hg;obtain⟨i,hi,rfl⟩:=Bf hu;have hl:=h.len;obtain⟨u',k1,k2⟩:=h.2 i _ (AS (by omega));rw[AS hi]at k1;rw[Option.some.inj k1]at hg;exact k2.lt g hg
theorem yZ.kL{b:Nat}(h:yZ w b v c)(hg:w.grownBy w' row)(hr:qg w 3 row)(hr':qg w 24 row):yZ w' b v c:=by
 obtain⟨d,k,o,r,xs,ys,rfl,h1,h2,h3,h4,h5,h6⟩:=h;exact⟨d,k,o,r,xs,ys,rfl,h1.grown hg hr hr',h2.grown hg hr,h3.grown hg hr,h4.grown hg hr hr',h5,h6⟩
theorem q45{w2 w3 w4:Am}{b:Nat}{k:Ap}(h1:jf w1 w0.heap.size d c.qb)(g2:w1.grownBy w2 none)(h2:qf w2 w1.heap.size k c.counts)(g3:w2.grownBy w3 none)(h3:qf w3 w2.heap.size o c.done)(g4:w3.grownBy w4 none)(h4:jf w4 w3.heap.size r c.rows)(hb:b<=w0.heap.size)(g1:w0.grownBy w1 none) :
   yZ w4 b (.agg #[d,k,o,r]) c:=by
 obtain⟨xs,x1,x2⟩:=h1;obtain⟨ys,y1,y2⟩:=h4;have s1:=g1.size;have s2:=g2.size;have s3:=g3.size;have s4:=g4.size;have l1:=x1.ltz;have l4:=y1.ltz;refine⟨d,k,o,r,xs,ys,rfl,(x1.new (qac (qac g2 g3) g4)).low hb,h2.ri.new (qac g3 g4),(h3.new g4).lower (by omega),y1.low (by omega),?_,λg hd hr=>?_⟩
 . refine Bb.2 ⟨λu hu g ho hg=>?_,Apart.join (s:=w3.heap.size) x2 y2 (λu hu g hg=>by have:=l1 u hu g hg;omega) (λu hu g hg=>(l4 u hu g hg).1)⟩;have h5:=h3.lt g ho;rcases Ba.1 hu with hu|hu
   . have:=l1 u hu g hg;omega
   . have:=l4 u hu g hg;omega
 . have h5:=AK x1.1 g hd;have h6:=AK y1.1 g hr;omega
theorem qih(v:Ap)(c:qh)(w:Am)(h:CV w v c)(hd:c.qb.length<=1000/\∀l∈c.qb,l.length<=1000)(hr:c.rows.length<=1000/\∀l∈c.rows,l.length<=1000)(hk:c.counts.length<=1000000000)(ho:c.done.length<=1000000000) :
   As prog 137 #[v] w (qvg w c):=by
 obtain⟨A1,n1,c1,A2,n2,c2,A3,n3,c3,A4,n4,c4,rfl,-,-,-,-⟩:=h.form;have B0:=j7.start h;go_enter func137,ntmps137;go_upto_region 1 with fail;generalize ((w.alloc (.cells #[.slice A1 n1 c1,.slice A2 n2 c2,.slice A3 n3 c3,.slice A4 n4 c4] 29)).alloc (.cells #[.slice none 0 0,.slice none 0 0,.slice none 0 0,.slice none 0 0] 29))=W at B0 |-;have BD:=B0.new (qay (qag W none));have z0:=B0.b.d0;have z1:=B0.b.d1;have z2:=B0.b.d2;have z3:=B0.b.d3;have hne:w.heap.size+1≠w.heap.size:=by omega
 go_region_held3 (λw'=>w'.cell? ⟨w.heap.size,0,none⟩=some (.slice A1 n1 c1)/\w'.cell? ⟨w.heap.size,1,none⟩=some (.slice A2 n2 c2)/\w'.cell? ⟨w.heap.size,2,none⟩=some (.slice A3 n3 c3)/\w'.cell? ⟨w.heap.size,3,none⟩=some (.slice A4 n4 c4)) (go_keep) (first
  |(go_at_call 182;have hz:=o3;refine(qmg _ c.rows _ (by exact B3.b.ro) hr.1 hr.2).mono ?_;rintro e w4 ⟨v4,rfl,o4,g4⟩;have B4:=B3.new g4;obtain⟨E4,e4,b4,rfl⟩:=o4.val;have p0:=B4.b.d0;have p1:=B4.b.d1;have p2:=B4.b.d2;have p3:=B4.b.d3;have y0:=B4.res.cell 0;have f0:=B4.res.frozen 0;have y1:=B4.res.cell 1;have f1:=B4.res.frozen 1;have y2:=B4.res.cell 2;have f2:=B4.res.frozen 2;have y3:=B4.res.cell 3;have f3:=B4.res.frozen 3)
  |(go_at_call 57;have hz:=o2;refine(qg6 _ c.done _ (by exact B2.b.dn) ho).mono ?_;rintro e w3 ⟨v3,rfl,o3,g3⟩;have B3:=B2.new g3;obtain⟨E3,e3,b3,rfl⟩:=o3.ri.val;have p0:=B3.b.d0;have p1:=B3.b.d1;have p2:=B3.b.d2;have p3:=B3.b.d3;have y0:=B3.res.cell 0;have f0:=B3.res.frozen 0;have y1:=B3.res.cell 1;have f1:=B3.res.frozen 1;have y2:=B3.res.cell 2;have f2:=B3.res.frozen 2;have y3:=B3.res.cell 3;have f3:=B3.res.frozen 3)
  |(go_at_call 57;refine(qg6 _ c.counts _ (by exact B1.b.ct) hk).mono ?_;rintro e w2 ⟨v2,rfl,o2,g2⟩;have B2:=B1.new g2;obtain⟨E2,e2,b2,rfl⟩:=o2.ri.val;have p0:=B2.b.d0;have p1:=B2.b.d1;have p2:=B2.b.d2;have p3:=B2.b.d3;have y0:=B2.res.cell 0;have f0:=B2.res.frozen 0;have y1:=B2.res.cell 1;have f1:=B2.res.frozen 1;have y2:=B2.res.cell 2;have f2:=B2.res.frozen 2;have y3:=B2.res.cell 3;have f3:=B2.res.frozen 3)
  |(go_at_call 182;refine(qmg _ c.qb _ (by first|exact BD.b.dq|exact B0.b.dq) hd.1 hd.2).mono ?_;rintro e w1 ⟨v1,rfl,o1,g1⟩;have B1:=(by first|exact BD.new g1|exact B0.new g1:j7 w w1 (.slice A1 n1 c1) (.slice A2 n2 c2) (.slice A3 n3 c3) (.slice A4 n4 c4) c);obtain⟨E1,e1,b1,rfl⟩:=o1.val;have p0:=B1.b.d0;have p1:=B1.b.d1;have p2:=B1.b.d2;have p3:=B1.b.d3;have y0:=B1.res.cell 0;have f0:=B1.res.frozen 0;have y1:=B1.res.cell 1;have f1:=B1.res.frozen 1;have y2:=B1.res.cell 2;have f2:=B1.res.frozen 2;have y3:=B1.res.cell 3;have f3:=B1.res.frozen 3))
 have gW:W.grownBy w1 none:=by first|exact g1|exact qac (qay (qag W none)) g1
 have hs0:w.heap.size<=W.heap.size:=B0.g.size;have hO:=q45 (b:=w.heap.size) o1 g2 o2 g3 o3 g4 o4 hs0 g1;have hst:=qdn w4 (w.heap.size+1) (.slice E1 e1 b1) (.slice E2 e2 b2) (.slice E3 e3 b3) (.slice E4 e4 b4);have hI:qg w4 3 (some (w.heap.size+1)):=qg.blk B4.res (by decide);have hL:qg w4 24 (some (w.heap.size+1)):=qg.blk B4.res (by decide);have hO2:=hO.kL hst hI hL;have gF:=qa2 B4.g hst (λg e=>by cases e;exact .inl (Bz _));have hfin:Hid (qvg w c _ _):=⟨_,rfl,hO2,gF⟩;clear hO hst hI hL hO2 gF gW o1 o2 o3 o4 g1 g2 g3 g4 B0 BD B1 B2 B3 B4;go_wp2_with fail;refine Aj (v:=.agg #[.slice E1 e1 b1,.slice E2 e2 b2,.slice E3 e3 b3,.slice E4 e4 b4]) (by simp[results,results137,go_sem,y0,y1,y2,y3]) rfl ?_;exact hfin.out
theorem qhz(v:Ap)(l:List Int)(w:Am)(h:RI w v l)(hl:l.length<=1000000000):As prog 180 #[v] w λe w'=>∃u,e=.returned (.agg #[u])/\qf w' w.heap.size u l/\w.grownBy w' none:=by
 obtain⟨A,n,c,rfl⟩:=h.val;have hB:=Blk.new w 96 #[.slice none 0 0];have hg:=AJ w (.cells #[.slice none 0 0] 96) none;have h1:=h.new hg;go_enter func180,ntmps180;go_upto_region 1 with fail;generalize w.alloc (.cells #[.slice none 0 0] 96)=W at hB hg h1 |-;go_wp2_with (at_builtin;go_must (refine qg5 _ (.tmp 3) 24 underlying24 rfl rfl h1 hl (Bt _) rfl rfl ?_));intro v' w1 ho hg1;obtain⟨A',n',c',rfl⟩:=ho.ri.val;have B1:=hB.grown hg1 (by simp);have y0:=B1.cell 0;have f0:=B1.frozen 0;have hst:w1.grownBy (w1.setCell ⟨w.heap.size,0,none⟩ (.slice A' n' c')) (some w.heap.size):=qa3 (qag _ _) (.inr rfl) _;have ho2:=(ho.grown hst (qg.blk B1 (by decide))).lower hg.size;have g2:=qa2 (qac hg hg1) hst (λg e=>by cases e;exact .inl (Bt _));clear ho hg1 B1 hB hst;go_wp2_with fail;refine Aj (v:=.agg #[.slice A' n' c']) (by simp[results,results180,go_sem,y0]) rfl ?_;exact⟨_,rfl,ho2,g2⟩
theorem q9z(tb g o n c:Nat)(x:Int)(l:List Int)(w:Am)(hB:Blk w tb 96 #[.slice (some ⟨g,o,none⟩) (n+1) c])(hr:RI w (.slice (some ⟨g,o,none⟩) (n+1) c) l)(hn:n<=10)(hx:l[n]?=some x) :
   As prog 181 #[.pointer (some ⟨tb,0,none⟩)] w λe w'=>e=.returned (.int .i64 x)/\w'=w.setCell ⟨tb,0,none⟩ (.slice (some ⟨g,o,none⟩) n c):=by
 obtain⟨g',o',x',e,hx',c0⟩:=hr.at_ (k:=n) (by omega);injection e with e;injection e with e1 e2;subst e1 e2;rw[hx]at hx';injection hx' with hx';subst hx';obtain⟨A,n',c',e,hnc,-⟩:=hr.form';injection e with e1 e2 e3;subst e2 e3;clear e1 hx hr;have d0:=hB.cell 0;have f0:=hB.frozen 0;have hw:IntKind.i64.wrap (((n+1:Nat):Int)-1)=(n:Int):=by rw[IntWalk.i64_in _ (by omega)];omega
 have hb1:(n:Int)<((n+1:Nat):Int):=by omega
 have hb2:(n:Int)<=(c:Int):=by omega
 go_enter func181,ntmps181;go_wp2;go_ret;exact⟨rfl,rfl⟩
theorem q46(tb g o n c:Nat)(x:Int)(l:List Int)(w:Am)(hB:Blk w tb 96 #[.slice (some ⟨g,o,none⟩) (n+1) c])(hr:RI w (.slice (some ⟨g,o,none⟩) (n+1) c) l)(hn:n<=10)(hx:l[0]?=some x) :
   As prog 184 #[.pointer (some ⟨tb,0,none⟩)] w λe w'=>e=.returned (.int .i64 x)/\w'=w.setCell ⟨tb,0,none⟩ (.slice (if c=1 then some ⟨g,o,none⟩else some ⟨g,o+1,none⟩) n (c-1)):=by
 obtain⟨g',o',x',e,hx',c0⟩:=hr.at_ (k:=0) (by omega);injection e with e;injection e with e1 e2;subst e1 e2;rw[hx]at hx';injection hx' with hx';subst hx';obtain⟨A,n',c',e,hnc,-⟩:=hr.form';injection e with e1 e2 e3;subst e2 e3;clear e1 hx hr;have c1:w.cell? ⟨g,o,none⟩=some (.int .i64 x):=c0;clear c0;have d0:=hB.cell 0;have f0:=hB.frozen 0;have hb1:(0:Int)<((n+1:Nat):Int):=by omega
 have hb2:(1:Int)<=((n+1:Nat):Int):=by omega
 have hb3:((n+1:Nat):Int)<=(c:Int):=by omega
 by_cases h1:c=1
 . subst h1;obtain rfl:n=0:=by omega
   go_enter func184,ntmps184;go_wp2;go_ret;exact⟨rfl,rfl⟩
 . rw[if_neg h1];go_enter func184,ntmps184;go_wp2;go_ret;exact⟨rfl,rfl⟩
theorem q7u(tb base:Nat)(x:Int)(u:Ap)(l:List Int)(w0 w:Am)(hB:Blk w tb 96 #[u])(ho:qf w base u l)(hl:l.length<=1000000)(hg:w0.grownBy w none)(hb:w0.heap.size<=base)(hbw:base<=w.heap.size)(ht:w0.heap.size<=tb) :
   As prog 67 #[.pointer (some ⟨tb,0,none⟩),.int .i64 x] w λe w'=>e=.returned (.tuple #[])/\∃u',Blk w' tb 96 #[u']/\qf w' base u' (l++[x])/\w0.grownBy w' none:=by
 obtain⟨A,n,c,rfl⟩:=ho.ri.val;have d0:=hB.cell 0;have f0:=hB.frozen 0;go_enter func67,ntmps67;go_wp2_with (at_builtin;go_must (refine qex (.tmp 8) (.tmp 10) rfl rfl ho (by omega) hbw rfl rfl rfl ?_));intro v2 w2 ho2 hg2;have B2:Blk w2 tb 96 #[.slice A n c]:=hB.past hg2 (ho.jl (by decide));have g2:=qa2 hg hg2 (λg e=>.inl (Bu hb (ho.lt g e).1));obtain⟨A2,n2,c2,rfl⟩:=ho2.ri.val;have e0:=B2.cell 0;have e1:=B2.frozen 0;have hst:w2.grownBy (w2.setCell ⟨tb,0,none⟩ (.slice A2 n2 c2)) (some tb):=qa3 (qag _ _) (.inr rfl) _;have B3:Blk (w2.setCell ⟨tb,0,none⟩ (.slice A2 n2 c2)) tb 96 #[.slice A2 n2 c2]:=B2.qC 0 _;have ho3:=ho2.grown hst (qg.blk B2 (by decide));have g3:=qa2 g2 hst (λg e=>by cases e;exact .inl ht);clear hB ho hg hg2 B2 g2 ho2 hst d0 f0;go_wp2_with fail
 first|exact jU (Ax rfl _ _ _) rfl ⟨rfl,_,B3,ho3,g3⟩|exact bodyPost_end (Ax rfl _ _ _) rfl ⟨rfl,_,B3,ho3,g3⟩|(go_ret;exact⟨rfl,_,B3,ho3,g3⟩)
theorem Apart.xG(h:Apart xs)(hne:∀u∈xs,∀g,u.ownBlock=some g->f.ownBlock≠some g):Apart (xs.set k f):=by
 rw[Apart.iff]at *;intro i j u u' g hij hi hj hg;rw[getElem?_set]at hi hj;split at hi
 . rename_i e;subst e;split at hi
   . injection hi with hi;subst hi;rw[if_neg (by omega)]at hj;exact λe'=>hne u' (AT hj) g e' hg
   . cases hi
 . split at hj
   . split at hj
     . injection hj with hj;subst hj;exact hne u (AT hi) g hg
     . cases hj
   . exact h i j u u' g hij hi hj hg
theorem QI.qQ{base:Nat}(h:QI w base v l)(hg:w.grownBy w' row)(hr:v.ownBlock=none∨v.ownBlock≠row):QI w' base v l:=QS.apart h hg hr
theorem QI.block{base:Nat}(h:QI w base v l)(hg:v.ownBlock=some g):∃cur,Blk w g 3 cur:=by
 obtain⟨A,c,rfl,_,_,_,h5⟩:=h;rcases h5 with ⟨rfl,_⟩|⟨g',o,cur,rfl,_,k3,_⟩
 . cases hg
 . cases hg;exact⟨cur,k3⟩
def LQ(w:Am)(base:Nat)(v:Ap)(ll:List (List Int))(xs:List Ap):Prop:=
 w.ownsRow base 24 1 v ll.length xs/\∀(i:Nat) (l:List Int),ll[i]?=some l->∃u,xs[i]?=some u/\QI w base u l
section
variable {w w':Am}{v:Ap}{ll:List (List Int)}{base:Nat}{row:Option Nat}{xs:List Ap}
theorem LX.lq(h:LX w base v ll xs):LQ w base v ll xs:=⟨h.1,λi l hi=>let ⟨u,k1,k2⟩:=h.2 i l hi;⟨u,k1,k2.qi⟩⟩
theorem LQ.grown(h:LQ w base v ll xs)(hg:w.grownBy w' row)(hr:qg w 3 row)(hr':qg w 24 row):LQ w' base v ll xs:=by
 refine⟨qce h.1 hg hr',λi l hi=>?_⟩;obtain⟨u,k1,k2⟩:=h.2 i l hi;exact⟨u,k1,k2.grown hg hr⟩
theorem LQ.new(h:LQ w base v ll xs)(hg:w.grownBy w' none):LQ w' base v ll xs:=h.grown hg (qg.none _ _) (qg.none _ _)
theorem LQ.rl(h:LQ w base v ll xs):RL w v ll:=⟨xs,TS.j8 h.1,λi l hi=>let ⟨u,k1,k2⟩:=h.2 i l hi;⟨u,k1,k2.ri⟩⟩
theorem LQ.lt(h:LQ w base v ll xs):∀g,v.ownBlock=some g->base<=g/\g<w.heap.size:=AK h.1
theorem LQ.len(h:LQ w base v ll xs):xs.length=ll.length:=by have:=h.1.1;omega
theorem LQ.lts(h:LQ w base v ll xs):∀u∈xs,∀g,u.ownBlock=some g->base<=g/\g<w.heap.size:=by
 intro u hu g hg;obtain⟨i,hi,rfl⟩:=Bf hu;have hl:=h.len;obtain⟨u',k1,k2⟩:=h.2 i _ (AS (by omega));rw[AS hi]at k1;cases k1;exact k2.lt g hg
theorem LQ.low{b:Nat}(h:LQ w a v ll xs)(hab:b<=a):LQ w b v ll xs:=by
 refine⟨⟨h.1.1,?_⟩,λi l hi=>let ⟨u,k1,k2⟩:=h.2 i l hi;⟨u,k1,k2.low hab⟩⟩;rcases h.1.2 with h0|⟨g,cap,cur,h1,h2,h3⟩
 . exact .inl h0
 . exact .inr ⟨g,cap,cur,h1,Bu hab h2,h3⟩
theorem LQ.jl(h:LQ w base v ll xs){E:AB}(hE:E≠24):qg w E v.ownBlock:=qg.own h.1 hE
theorem LQ.far(h:LQ w base v ll xs)(hg:w.grownBy w' (some g))(hi:qg w 3 (some g))(hne:v.ownBlock≠some g):LQ w' base v ll xs:=by
 obtain⟨h1,h2⟩:=h;have hlt:=AK h1;refine⟨⟨h1.1,?_⟩,λi l hl=>let ⟨u,k1,k2⟩:=h2 i l hl;⟨u,k1,k2.grown hg hi⟩⟩;rcases h1.2 with h0|⟨g',cap,cur,rfl,k2,k3,k4⟩
 . exact .inl h0
 . exact .inr ⟨g',cap,cur,rfl,k2,(hg.block g' (hlt g' rfl).2 (λe=>hne (by rw[<-e];rfl))).trans k3,k4⟩
theorem LQ.qQ{b:Nat}{cur:Array Ap}(h:LQ w base v ll xs)(hg:w.grownBy w' (some b))(hB:Blk w b 3 cur)(hx:∀u∈xs,u.ownBlock≠some b):LQ w' base v ll xs:=by
 have hne:qg w 24 (some b):=qg.blk hB (by decide);refine⟨qce h.1 hg hne,λi l hi=>?_⟩;obtain⟨u,k1,k2⟩:=h.2 i l hi;exact⟨u,k1,k2.qQ hg (.inr (hx u (AT k1)))⟩
theorem LQ.form(h:LQ w base v ll xs)(hn:ll.length=n)(h0:0<n):∃g cap,v=.slice (some ⟨g,0,none⟩) n cap/\n<=cap/\base<=g:=by
 subst hn;rcases h.1.2 with ⟨rfl,hz⟩|⟨g,cap,cur,rfl,hb,hh,hn,_,hcs,ht⟩
 . omega
 . exact⟨g,cap,rfl,hn,hb⟩
end
theorem LQ.cell{base:Nat}(h:LQ w base (.slice (some ⟨g,0,none⟩) n cap) ll xs)(hk:k<ll.length):∃u,w.cell? ⟨g,k,none⟩=some u/\w.frozen? ⟨g,k,none⟩=false:=by
 rcases h.1.2 with ⟨e0,hz⟩|⟨g',cap',cur,e0,hb,hh,hn,hm,hcs,ht⟩
 . cases e0
 . injection e0 with e1 e2 e3;injection e1 with e1;injection e1 with e1;subst e1 e3;have hB:Blk w g 24 cur:=hh;refine⟨cur[k]'(by rw[hcs];omega),?_,hB.frozen _⟩;rw[hB.cell];exact Array.getElem?_eq_getElem (by rw[hcs];omega)
theorem LQ.qC{base:Nat}(h:LQ w base (.slice (some ⟨g,0,none⟩) n cap) ll xs)(hk:k<ll.length)(hf:QI w base f l) :
   LQ (w.setCell ⟨g,k,none⟩ f) base (.slice (some ⟨g,0,none⟩) n cap) (ll.set k l) (xs.set k f):=by
 have hxl:=h.len;obtain⟨h1,h2⟩:=h
 have hn:n=ll.length:=by
  rcases h1.2 with ⟨e0,hz⟩|⟨g',cap',cur,e0,_⟩
  . cases e0
  . injection e0
 subst hn;have s1:=AL h1 k f;have hne:qg w 3 (some g):=qg.own (v:=.slice (some ⟨g,0,none⟩) ll.length cap) h1 (by decide);refine⟨by rw[Bg];exact s1.1,λi x hi=>?_⟩;by_cases hik:i=k
 . subst hik;rw[Bh hk]at hi;obtain rfl:l=x:=by simpa using hi
   exact⟨f,by rw[Bh (by omega)],hf.grown s1.2 hne⟩
 . rw[Bn (λe=>hik e.symm)]at hi;obtain⟨u,k1,k2⟩:=h2 i x hi;exact⟨u,by rw[Bn (λe=>hik e.symm)];exact k1,k2.grown s1.2 hne⟩
structure jZ(w:Am)(base X:Nat)(d k o r:Ap)(D:List (List Int))(N:List Int)(Rw:List (List Int))(xs ys:List Ap):Prop where
 x:Blk w X 29 #[d,k,o,r]
 dq:LQ w base d D xs
 dn:qf w base o N
 ro:LX w base r Rw ys
 al:Apart (o::(xs++ys))
 dr:∀g,d.ownBlock=some g->r.ownBlock≠some g
section
variable {w w':Am}{base X:Nat}{d k o r:Ap}{D Rw:List (List Int)}{N:List Int}{xs ys:List Ap}
theorem jZ.new(h:jZ w base X d k o r D N Rw xs ys)(hg:w.grownBy w' none):jZ w' base X d k o r D N Rw xs ys:=⟨h.x.grown hg (by simp),h.dq.new hg,h.dn.new hg,h.ro.new hg,h.al,h.dr⟩
theorem jZ.lts(h:jZ w base X d k o r D N Rw xs ys):∀u∈o::(xs++ys),∀g,u.ownBlock=some g->base<=g/\g<w.heap.size:=by
 intro u hu g hg;rcases Be.1 hu with rfl|hu
 . exact h.dn.lt g hg
 . rcases Ba.1 hu with hu|hu
   . exact h.dq.lts u hu g hg
   . exact h.ro.lts u hu g hg
theorem jZ.setRow{gr m:Nat}(h:jZ w base X d k o (.slice (some ⟨gr,0,none⟩) n cap) D N Rw xs ys)(hm:m<Rw.length)(hf:qf w base f l)(hne:∀u∈o::(xs++ys),∀g,u.ownBlock=some g->f.ownBlock≠some g) :
   (∃u,w.cell? ⟨gr,m,none⟩=some u/\w.frozen? ⟨gr,m,none⟩=false)/\w.grownBy (w.setCell ⟨gr,m,none⟩ f) (some gr)/\base<=gr/\qg w 29 (some gr)/\qg w 3 (some gr)/\qg w 96 (some gr) /\
   jZ (w.setCell ⟨gr,m,none⟩ f) base X d k o (.slice (some ⟨gr,0,none⟩) n cap) D N (Rw.set m l) xs (ys.set m f):=by
 have hst:w.grownBy (w.setCell ⟨gr,m,none⟩ f) (some gr):=qa3 (p:=⟨gr,m,none⟩) (qag w (some gr)) (.inr rfl) _;have hI:qg w 3 (some gr):=h.ro.jl (by decide);have hE:qg w 29 (some gr):=h.ro.jl (by decide);refine⟨h.ro.cell hm,hst,(h.ro.lt gr rfl).1,hE,hI,h.ro.jl (by decide),h.x.grown hst (λe=>by injection e with e;exact hE _ rfl _ (e▸h.x)),h.dq.far hst hI (λe=>h.dr gr e rfl),h.dn.grown hst hI,h.ro.qC hm hf,?_,h.dr⟩;have hyl:ys.length=Rw.length:=h.ro.len
 have e:o::(xs++ys.set m f)=(o::(xs++ys)).set (xs.length+m+1) f:=by
  rw[Bp,set_append_right _ _ (by omega),show xs.length+m-xs.length=m by omega]
 rw[e];exact h.al.xG hne
theorem jZ.ym{gd j:Nat}(h:jZ w base X (.slice (some ⟨gd,0,none⟩) n cap) k o r D N Rw xs ys)(hj:j<D.length)(hf:QI w base f l)(hne:∀u∈o::(xs++ys),∀g,u.ownBlock=some g->f.ownBlock≠some g) :
   (∃u,w.cell? ⟨gd,j,none⟩=some u/\w.frozen? ⟨gd,j,none⟩=false)/\w.grownBy (w.setCell ⟨gd,j,none⟩ f) (some gd)/\base<=gd/\qg w 29 (some gd)/\qg w 3 (some gd) /\
   jZ (w.setCell ⟨gd,j,none⟩ f) base X (.slice (some ⟨gd,0,none⟩) n cap) k o r (D.set j l) N Rw (xs.set j f) ys:=by
 have hst:w.grownBy (w.setCell ⟨gd,j,none⟩ f) (some gd):=qa3 (p:=⟨gd,j,none⟩) (qag w (some gd)) (.inr rfl) _;have hI:qg w 3 (some gd):=h.dq.jl (by decide);have hE:qg w 29 (some gd):=h.dq.jl (by decide);refine⟨h.dq.cell hj,hst,(h.dq.lt gd rfl).1,hE,hI,h.x.grown hst (λe=>by injection e with e;exact hE _ rfl _ (e▸h.x)),h.dq.qC hj hf,h.dn.grown hst hI,h.ro.far hst hI (λe=>h.dr gd rfl e),?_,h.dr⟩;have hxl:xs.length=D.length:=h.dq.len
 have e:o::(xs.set j f++ys)=(o::(xs++ys)).set (j+1) f:=by
  rw[Bp,set_append_left _ _ (by omega)]
 rw[e];exact h.al.xG hne
theorem jZ.put(h:jZ w base X d k o r D N Rw xs ys){k':Ap}:jZ (w.setCell ⟨X,1,none⟩ k') base X d k' o r D N Rw xs ys:=by
 have hst:w.grownBy (w.setCell ⟨X,1,none⟩ k') (some X):=qa3 (p:=⟨X,1,none⟩) (qag w (some X)) (.inr rfl) _;have hn:qg w 3 (some X):=qg.blk h.x (by decide);have hn':qg w 24 (some X):=qg.blk h.x (by decide);exact⟨h.x.qC 1 _,h.dq.grown hst hn hn',h.dn.grown hst hn,h.ro.grown hst hn hn',h.al,h.dr⟩
theorem jZ.more{o':Ap}{N':List Int}(h:jZ w base X d k o r D N Rw xs ys)(hg:w.grownBy w' o.ownBlock)(ho:qf w' base o' N')(hb:o'.ownBlock=o.ownBlock∨∃b,o'.ownBlock=some b/\w.heap.size<=b) :
   w'.cell? ⟨X,2,none⟩=some o/\w'.frozen? ⟨X,2,none⟩=false/\jZ (w'.setCell ⟨X,2,none⟩ o') base X d k o' r D N' Rw xs ys:=by
 have hEc:qg w 29 o.ownBlock:=h.dn.jl (by decide);have hx:=h.x.grown hg (λe=>hEc _ e.symm _ h.x);have hst:w'.grownBy (w'.setCell ⟨X,2,none⟩ o') (some X):=qa3 (p:=⟨X,2,none⟩) (qag w' (some X)) (.inr rfl) _;have hn:qg w' 3 (some X):=qg.blk hx (by decide);have hn':qg w' 24 (some X):=qg.blk hx (by decide)
 have hdq:LQ w' base d D xs:=by
  cases e:o.ownBlock with
  |none=>rw[e]at hg;exact h.dq.new hg
  |some b=>
   rw[e]at hg;obtain⟨cur,hB⟩:=h.dn.block e;exact h.dq.qQ hg hB (h.al.zY e).1
 have hro:LX w' base r Rw ys:=by
  cases e:o.ownBlock with
  |none=>rw[e]at hg;exact h.ro.new hg
  |some b=>
   rw[e]at hg;obtain⟨cur,hB⟩:=h.dn.block e;exact h.ro.qQ hg hB (h.al.zY e).2
 refine⟨hx.cell 2,hx.frozen 2,hx.qC 2 _,hdq.grown hst hn hn',ho.grown hst hn,hro.grown hst hn hn',?_,h.dr⟩;refine Bb.2 ⟨λu hu g hg'=>?_,(Bb.1 h.al).2⟩;rcases hb with e|⟨b,e,hbs⟩
 . rw[e]at hg';exact(Bb.1 h.al).1 u hu g hg'
 . rw[e]at hg';injection hg' with hg';intro hu';have:=(h.lts u (B9 _ hu) g hu').2;omega
end
def qI(w:Am)(base:Nat)(v:Ap)(c:qh):Prop:=
 ∃d k o r xs ys,v=.agg #[d,k,o,r]/\LQ w base d c.qb xs/\qf w base k c.counts/\qf w base o c.done/\LX w base r c.rows ys/\Apart (k::o::(xs++ys))/\(∀g,d.ownBlock=some g->r.ownBlock≠some g)
theorem qI.cv{base:Nat}(h:qI w base v c):CV w v c:=by
 obtain⟨d,k,o,r,xs,ys,rfl,h1,h2,h3,h4,_⟩:=h;exact⟨d,k,o,r,rfl,h1.rl,h2.ri,h3.ri,h4.rl⟩
theorem qI.new{base:Nat}(h:qI w base v c)(hg:w.grownBy w' none):qI w' base v c:=by
 obtain⟨d,k,o,r,xs,ys,rfl,h1,h2,h3,h4,h5⟩:=h;exact⟨d,k,o,r,xs,ys,rfl,h1.new hg,h2.new hg,h3.new hg,h4.new hg,h5⟩
theorem qI.grown{base:Nat}(h:qI w base v c)(hg:w.grownBy w' row)(hr:qg w 3 row)(hr':qg w 24 row):qI w' base v c:=by
 obtain⟨d,k,o,r,xs,ys,rfl,h1,h2,h3,h4,h5⟩:=h;exact⟨d,k,o,r,xs,ys,rfl,h1.grown hg hr hr',h2.grown hg hr,h3.grown hg hr,h4.grown hg hr hr',h5⟩
theorem qI.low{b:Nat}(h:qI w a v c)(hab:b<=a):qI w b v c:=by
 obtain⟨d,k,o,r,xs,ys,rfl,h1,h2,h3,h4,h5⟩:=h;exact⟨d,k,o,r,xs,ys,rfl,h1.low hab,h2.low hab,h3.low hab,h4.low hab,h5⟩
end
section
open Go.RowKit Go.Extern.Stop Go.Stop Go.Extern
theorem q48(v:Ap)(w:Am):(AH #[.iface 244 v]).run prog w=.ok (.iface 213 (.agg #[.pointer (some ⟨1,244,none⟩)])) w:=by kernel_rfl
theorem qkp(v:Ap)(w:Am):(AD 379 213 v "Comparable").run prog w=.ok (248,v) w:=by kernel_rfl
theorem qum(w:Am):((AI λt=>do Rtype.noPackHeld "Comparable" t;Functor.map (λa=>Value.bool a.comparable) (typeInfo t)) #[.agg #[.pointer (some ⟨1,244,none⟩)]]).run prog w=.ok (.bool true) w:=by kernel_rfl
theorem q91:(Tryz.prog.info? 244).map (·.comparable)=some true:=by kernel_rfl
theorem q92:(Tryz.prog.info? 268).map (·.size)=some 1:=by kernel_rfl
theorem q93(v:Ap)(xT:AB)(w:Am):(Instr.typeAssert (.iface 171 v) xT 215 true).run prog w=.ok (.tuple #[.nilIface,.bool false]) w:=run_typeAssert_lacksB underlying215 (by kernel_rfl) (by kernel_rfl) v xT w
theorem q2t(v:Ap)(xT:AB)(w:Am):(Instr.typeAssert (.iface 171 v) xT 218 true).run prog w=.ok (.tuple #[.iface 171 v,.bool true]) w:=run_typeAssert_hasB underlying218 (by kernel_rfl) v xT w
theorem qqn(v:Ap)(w:Am):(AD 379 171 v "Unwrap").run prog w=.ok (243,v) w:=by kernel_rfl
def qp(w:Am)(a:Addr):Prop:=w.cell? ⟨0,0,none⟩=some (.iface 244 (.pointer (some a)))
theorem qp.new{a:Addr}(h:qp w a)(hg:w.grownBy w' none):qp w' a:=qg7 h hg
theorem qsm(s:ByteArray)(a:Addr)(w:Am)(h:qp w a):As prog 243 #[.agg #[.string s]] w λe w'=>e=.returned (.iface 244 (.pointer (some a)))/\w.grownBy w' none:=by
 have h1:=h.new (AJ w (.cells #[.string s] 171) none);unfold qp at h1;go_enter func243,ntmps243;go_wp2;go_ret;exact⟨rfl,AJ _ _ _⟩
theorem q7v(a:Addr)(w:Am):(binOp BinOp.eql 119 .nilIface (.iface 244 (.pointer (some a)))).run prog w=.ok (.bool false) w:=by kernel_rfl
theorem qwq(a:Addr)(w:Am):As prog 90 #[.nilIface,.iface 244 (.pointer (some a))] w λe w'=>e=.returned (.bool false)/\w'=w:=by
 have e0:=q7v a;go_enter func90,ntmps90;go_wp2;go_ret;exact⟨rfl,rfl⟩
theorem q2u(s:ByteArray)(a:Addr)(w:Am)(h:qp w a):As prog 140 #[.iface 171 (.agg #[.string s]),.iface 244 (.pointer (some a)),.bool true] w λe w'=>e=.returned (.bool true)/\w.grownBy w' none:=by
 obtain⟨i,hi,qiY⟩:=BA.1 q91;obtain⟨j,hj,hjs⟩:=BA.1 q92;have n1:=q93;have n2:=q2t;have n3:=qqn;have hty:=λw=>run_eql_iface_types (P:=prog) 171 244 (.agg #[.string s]) (.pointer (some a)) underlying119 (by decide) w;have heq:=λw=>run_eql_iface_ptr_same (P:=prog) w a underlying119 underlying244 hi qiY hj;go_enter func140,ntmps140;go_wp2_with fail;refine wp_loop_rounds 2 ?_;rw[AE];go_wp2_with fail;refine(qsm s a w h).mono ?_;rintro e w1 ⟨rfl,hg1⟩;go_wp2_with fail;rw[AE];go_wp2;go_ret;exact⟨rfl,hg1⟩
theorem qwr(s:ByteArray)(a:Addr)(w:Am)(h:qp w a):As prog 90 #[.iface 171 (.agg #[.string s]),.iface 244 (.pointer (some a))] w λe w'=>e=.returned (.bool true)/\w.grownBy w' none:=by
 have h10:=Ay (P:=prog) (f:=139) (e:=AH) func139 (by kernel_rfl) (by kernel_rfl) (by kernel_rfl) (by kernel_rfl);have h11:=Ay (P:=prog) (f:=248) (e:=AI λt=>do Rtype.noPackHeld "Comparable" t;pure (.bool (<-typeInfo t).comparable)) func248 (by kernel_rfl) (by kernel_rfl) (by kernel_rfl) (by kernel_rfl);have t1:=q48;have t2:=qkp;have t3:=qum;go_enter func90,ntmps90;go_wp2_with fail;refine(q2u s a w h).mono ?_;rintro e w1 ⟨rfl,hg1⟩;go_wp2;go_ret;exact⟨rfl,hg1⟩
end
section
open Go.RowKit
structure KeysOf(D:Az Unit)(L:List Int):Prop where
 t:Maps.Tidy D
 h:∀x:Int,Maps.has D (.int .i64 x)=decide (x∈L)
 le:Maps.size D<=L.length
 nd:Maps.size D=L.length↔L.Nodup
theorem KeysOf.nil:KeysOf (.map []) []:=⟨Maps.tidy_empty,λx=>by simp[Maps.has],by simp[Maps.size],by simp[Maps.size]⟩
theorem KeysOf.put{D:Az Unit}{L:List Int}(h:KeysOf D L)(x:Int)(d:Az Unit):KeysOf (D.put (.int .i64 x) d) (L++[x]):=by
 have hs:=Maps.size_put (k:=.int .i64 x) h.t d;rw[h.h x]at hs;have hle:=h.le;have hnd:=h.nd;refine⟨h.t.put (show WideAt.IsKeyLit (.int .i64 x)from trivial) d,λy=>?_,?_,?_⟩
 . by_cases e:y=x
   . subst e;rw[Maps.has_put_same h.t.isMap (show WideAt.IsKeyLit (.int .i64 y)from trivial)];simp
   . rw[Maps.has_put_other (λe'=>e (by injection e')),h.h y];simp[e]
 . rw[hs,AZ,Bj];split<;>omega
 . have hap:(L++[x]).Nodup↔L.Nodup/\x∉L:=by
    rw[nodup_append];constructor
    . rintro⟨h1,_,h3⟩;exact⟨h1,λhx=>h3 x hx x (by simp) rfl⟩
    . rintro⟨h1,h2⟩;refine⟨h1,by simp,λa ha b hb e=>h2 ?_⟩;obtain rfl:b=x:=by simpa using hb
      exact e▸ha
   rw[hap,hs,AZ,Bj];by_cases hx:x∈L
   . rw[decide_eq_true hx,if_pos rfl];constructor
     . intro e;omega
     . intro e;exact absurd hx e.2
   . rw[decide_eq_false hx,if_neg (by simp)];constructor
     . intro e;exact⟨hnd.1 (by omega),hx⟩
     . intro e;have:=hnd.2 e.1;omega
theorem KeysOf.step{D:Az Unit}(h:KeysOf D (l.take k))(hx:l[k]?=some x)(d:Az Unit):KeysOf (D.put (.int .i64 x) d) (l.take (k+1)):=by
 obtain⟨h1,rfl⟩:=AR.1 hx;rw[AV h1];exact h.put _ d
theorem q88:Maps.Keyed prog 3:=Maps.int_keyed underlying3
theorem q90(w:Am):(zeroValue 3).run prog w=.ok (.int .i64 0) w:=by kernel_rfl
def q89(w wr:Am)(l:List Int)(k:Nat):Prop:=∃D:Az Unit,wr.ownsMap prog 3 (plainElem prog 3) w.heap.size k D/\KeysOf D (l.take k)/\w.grownBy wr none
theorem qzb(tb:Nat)(u:Ap)(l:List Int)(w:Am)(hB:Blk w tb 96 #[u])(hr:RI w u l)(hl:l.length<=10)(hx:∀x∈l,0<=x/\x<=9)(hb:decide l.Nodup=b) :
   As prog 209 #[.pointer (some ⟨tb,0,none⟩)] w λe w'=>e=.returned (.bool b)/\w.grownBy w' none:=by
 obtain⟨A,n,c,rfl,-,hn⟩:=hr.form';have hmm:=run_makeMap (P:=prog);have Hn:=Lib.hid hn;have Hb:=Lib.hid hb;have Hx:=Lib.hid hx;have zF:n<=10:=by omega
 have c0:=(hB.alloc (.map #[] 0)).cell 0;clear hn hb hx hl;have hst:q89 w (w.alloc (.map #[] 0)) l 0:=⟨_,Am.ownsMap_made _ _ _ _,by rw[take_zero];exact KeysOf.nil,qaq (qag w none) _⟩;go_enter func209,ntmps209;go_wp2_with fail
 go_loopg [12] (n+1) (λmm i wr=>∃k:Nat,k<=n/\mm=n+1-k/\i=.int .i64 k/\q89 w wr l k)
 case atStart=>exact⟨0,Bs _,rfl,rfl,hst⟩
 case round=>
  obtain⟨k,hk,rfl,rfl,D,hown,hks,hg⟩:=hrel;clear hst;by_cases hlt:k<n
  . obtain⟨g,o,x,rfl,hx,c1⟩:=(hr.new hg).at_ hlt;have qlZ:=Hx.out x (AT hx);have Hk:=Lib.hid (λd=>hks.step hx d);have hkey:keyOf prog 3 (.int .i64 x)=some (.int .i64 x):=Maps.keyOf_int_mk underlying3 (WalkArith.wf_i64 (by omega));clear hx hks
    go_wp2_with (first
     |(at_lookup;refine wpList_lookup_own_int _ rfl _ _ 243 rfl 3 3 .i64 q88 underlying243 underlying3 (q90 _) w.heap.size k _ rfl hown _ _ rfl hkey ?_;intro cv hat hwc)
     |(at_mapUpdate;refine wpList_mapUpdate_own _ rfl _ _ _ 243 rfl 3 3 q88 underlying243 _ w.heap.size k _ rfl hown (by unfold maxLen;omega) _ _ _ rfl rfl hkey _ [] (plainElem_int underlying3 (wrap64_wf _)) ?_;intro w1 hown1 kM)
     |go_in)
    go_roundg (n+1-(k+1))
    case measure=>omega
    case rel=>exact⟨k+1,by omega,rfl,by go_num,_,hown1,Hk.out _,qa2 hg kM (λg e=>by cases e;exact .inl (Bt _))⟩
  . obtain rfl:n=k:=by omega
    have hB1:=hB.grown hg (by simp);have hD:=hown.kept (qay (qag wr none)) (by simp);have hlen:=λty=>hD.len underlying243 ty;have qcL:=λty=>hown.len underlying243 ty;have c1:=hB1.cell 0;have hle:=hks.le
    have Hr:Hid ((Maps.size D==n)=b):=by
     show _=_;rw[<-Hb.out,Ai,beq_iff_eq,decide_eq_true_eq];have:=hks.nd;rw[AX (By Hn.out.symm),<-Hn.out]at this;exact this
    generalize Maps.size D=m at hlen qcL Hr hle;have hfin:=Lib.hid hg;clear hks hg;by_cases hmn:m=n
    . subst hmn;have Hr2:Hid (b=true):=by have:=Hr.out;rw[beq_self_eq_true]at this;exact this.symm
      clear Hr Hb;go_wp2_with fail
      go_region
      all_goals go_wp2_with fail
      all_goals go_ret
      all_goals exact⟨by rw[Hr2.out];rfl,qay hfin.out⟩
    . have Hr2:Hid (b=false):=by have:=Hr.out;rw[beq_eq_false_iff_ne.2 hmn]at this;exact this.symm
      clear Hr Hb;have hmi:¬((m:Int)=(n:Int)):=by omega
      go_wp2_with fail
      go_region
      all_goals go_wp2_with fail
      all_goals go_ret
      all_goals exact⟨by rw[Hr2.out];show AG (.bool ((m:Int)==(n:Int)))=_;rw[beq_eq_false_iff_ne.2 hmi],qay hfin.out⟩
theorem qc6(v:Ap)(l:List Int)(w:Am)(h:RI w v l)(hb:qa5 l=b) :
   As prog 179 #[v] w λe w'=>e=.returned (.bool b)/\w.grownBy w' none:=by
 obtain⟨A,n,c,rfl,-,hn⟩:=h.form';have hle:=h.le;rw[<-hn]at hle;have Hn:=Lib.hid hn;have Hb:=Lib.hid hb;clear hn hb
 have hoff:¬(l.length<=10/\∀x∈l,0<=x/\x<=9)->b=false:=λhno=>by
  rw[<-Hb.out];cases hd:qa5 l with
  |false=>rfl
  |true=>exact absurd ⟨(qby.1 hd).1,(qby.1 hd).2.1⟩ hno
 by_cases qiW:10<n
 . have Hr:Hid (b=false):=hoff (λe=>by have:=Hn.out;omega);have hgt:(10:Int)<(n:Int):=by omega
   clear hoff;go_enter func179,ntmps179;go_wp2;go_ret;exact⟨by rw[Hr.out];rfl,qag _ _⟩
 . have hgt:¬((10:Int)<(n:Int)):=by omega
   have qeS:=Lib.hid hoff;clear hoff;go_enter func179,ntmps179;go_wp2_with fail
   go_loopg [11] (n+1) (λmm i wr=>∃k:Nat,k<=n/\mm=n+1-k/\i=.int .i64 k/\Hid (∀x∈l.take k,0<=x/\x<=9)/\wr=w)
   case atStart=>exact⟨0,Bs _,rfl,rfl,by show ∀x∈_,_;simp,rfl⟩
   case round=>
    obtain⟨k,hk,rfl,rfl,Hk,rfl⟩:=hrel;by_cases hlt:k<n
    . obtain⟨g,o,y,rfl,hy,c0⟩:=h.at_ hlt;have Hy:=Lib.hid hy;clear hy;by_cases hlo:y<0
      . have Hr:Hid (b=false):=qeS.out (λe=>by have:=e.2 y (AT Hy.out);omega);go_wp2;go_ret;exact⟨by rw[Hr.out];rfl,qag _ _⟩
      . by_cases hhi:10<=y
        . have Hr:Hid (b=false):=qeS.out (λe=>by have:=e.2 y (AT Hy.out);omega);go_wp2;go_ret;exact⟨by rw[Hr.out];rfl,qag _ _⟩
        . have Hs:Hid (∀ x∈l.take (k+1),0<=x/\x<=9):=by
           show ∀x∈_,_;obtain⟨h1,h2⟩:=AR.1 Hy.out;rw[AV h1,h2];intro x hx;rcases Ba.1 hx with hx|hx
           . exact Hk.out x hx
           . obtain rfl:x=y:=by simpa using hx
             omega
          go_wp2;go_roundg (n+1-(k+1))
          case measure=>omega
          case rel=>exact⟨k+1,by omega,rfl,by go_num,Hs,rfl⟩
    . obtain rfl:n=k:=by omega
      have Hx:Hid (∀x∈l,0<=x/\x<=9):=by
       have:=Hk.out;rw[AX (By Hn.out.symm)]at this;exact this
      have Hd:Hid (decide l.Nodup=b):=by
       show _=_;rw[<-Hb.out,Ai,decide_eq_true_eq,qby];exact⟨λe=>⟨by have:=Hn.out;omega,Hx.out,e⟩,λe=>e.2.2⟩
      have jF:l.length<=10:=by have:=Hn.out;omega
      clear Hk hgt;go_wp2_with fail;refine(qhz _ l wr h (by omega)).mono ?_;rintro e w1 ⟨u,rfl,ho,hg1⟩;obtain⟨A',n',c',rfl⟩:=ho.ri.val;have hB:=Blk.new w1 96 #[.slice A' n' c'];have hg2:=AJ w1 (.cells #[.slice A' n' c'] 96) none;have r2:=ho.ri.new hg2;have g2:=qac hg1 hg2;clear ho hg1 hg2;go_upto_region 10 with fail;generalize w1.alloc (.cells #[.slice A' n' c'] 96)=w2 at hB r2 g2 |-;generalize w1.heap.size=tb at hB |-;go_wp2_with fail;refine(qzb tb _ l w2 hB r2 jF Hx.out Hd.out).mono ?_;rintro e w3 ⟨rfl,hg3⟩;go_wp2;go_ret;exact⟨rfl,qac g2 hg3⟩
def q47(w:Am)(r:Option (List Int×Int))(e:At)(w':Am):Prop:=match r with
 |some (l,x)=>∃u,e=.returned (.tuple #[u,.int .i64 x,.bool true])/\QI w' w.heap.size u l/\w.grownBy w' none
 |none=>e=.returned (.tuple #[.slice none 0 0,.int .i64 0,.bool false])/\w.grownBy w' none
theorem qov(v:Ap)(d:List Int)(w:Am)(h:RI w v d):As prog 136 #[v] w (q47 w (qcx d)):=by
 obtain⟨A,n,c,rfl,-,hn⟩:=h.form';have Hn:=Lib.hid hn;clear hn;by_cases hv:qa5 d=true
 . have Hv:=Lib.hid hv;by_cases h0:n=0
   . have Hr:Hid (qcx d=none):=by
      show _=_;rw[AW (by have:=Hn.out;omega:d.length=0)];exact qoq
     subst h0;clear hv;go_enter func136,ntmps136;go_wp2_with fail;refine(qc6 _ d w h Hv.out).mono ?_;rintro e w1 ⟨rfl,hg1⟩;go_wp2_with fail;refine Aj (v:=.tuple #[.slice none 0 0,.int .i64 0,.bool false]) (by simp[results,results136,go_sem]) rfl ?_;rw[Hr.out];exact⟨rfl,hg1⟩
   . obtain⟨m,rfl⟩:∃m,n=m+1:=⟨n-1,by omega⟩;have qiZ:d.length<=10:=(qby.1 hv).1;have hne:¬(((m+1:Nat):Int)=0):=by omega
     have kq:m<=10:=by have:=Hn.out;omega
     obtain⟨x,hx⟩:∃x,d[m]?=some x:=⟨_,AS (by have:=Hn.out;omega)⟩
     have Hr:Hid (qcx d=some (d.take m,x)):=by
      show _=_;rw[qmo hv (by have:=Hn.out;omega),<-Hn.out,AU,show m+1-1=m by omega,hx];rfl
     have Hx:=Lib.hid hx;clear hv h0 hx;go_enter func136,ntmps136;go_wp2_with fail;refine(qc6 _ d w h Hv.out).mono ?_;rintro e w1 ⟨rfl,hg1⟩;go_wp2_with fail;refine(qhz _ d w1 (h.new hg1) (by omega)).mono ?_;rintro e w2 ⟨u,rfl,ho,hg2⟩;have g2:=qac hg1 hg2;have hs1:=hg1.size;have hob:=ho.lower hs1;obtain⟨g,cap,cur,rfl,-,-,-,-⟩:=hob.form (by have:=Hn.out;omega);have hl:d.length=m+1:=Hn.out.symm;rw[hl]at hob |-;have hB:=Blk.new w2 96 #[.slice (some ⟨g,0,none⟩) (m+1) cap];have hg3:=AJ w2 (.cells #[.slice (some ⟨g,0,none⟩) (m+1) cap] 96) none;have ho3:=hob.new hg3;have g3:=qac g2 hg3;have hs3:=g2.size;clear hg1 hg2 ho hob hg3 g2 hl;go_upto_region 4 with fail;generalize w2.alloc (.cells #[.slice (some ⟨g,0,none⟩) (m+1) cap] 96)=w3 at hB ho3 g3 |-;generalize w2.heap.size=tb at hB hs3 |-;go_wp2_with fail;refine(q9z tb g 0 m cap x d w3 hB ho3.ri kq Hx.out).mono ?_;rintro e w4 ⟨rfl,rfl⟩;have hst:w3.grownBy (w3.setCell ⟨tb,0,none⟩ (.slice (some ⟨g,0,none⟩) m cap)) (some tb):=qa3 (qag _ _) (.inr rfl) _;have vq:qg w3 3 (some tb):=qg.blk hB (by decide)
     have hd2:d=d.take m++[x]:=by
      obtain⟨h1,h2⟩:=AR.1 Hx.out;have:=AV h1;rw[h2,AX (by have:=Hn.out;omega)]at this;exact this
     have q4:QI w3 w.heap.size (.slice (some ⟨g,0,none⟩) m cap) (d.take m):=by
      have q3:=ho3.qi;unfold QI at q3 |-;rw[hd2,map_append]at q3;obtain⟨-,-,q5⟩:=QS.init q3;rw[Bc,Br,Nat.min_eq_left (by have:=Hn.out;omega)]at q5;exact q5
     have Q4:=q4.grown hst vq;have B4:=hB.qC 0 (.slice (some ⟨g,0,none⟩) m cap);have c4:=B4.cell 0;have g4:=qa2 g3 hst (λg e=>by cases e;exact .inl hs3);clear hd2 q4 ho3 hst vq hB;generalize w3.setCell ⟨tb,0,none⟩ (.slice (some ⟨g,0,none⟩) m cap)=w4 at Q4 B4 c4 g4 |-;go_wp2_with fail;refine Aj (v:=.tuple #[.slice (some ⟨g,0,none⟩) m cap,.int .i64 x,.bool true]) (by simp[results,results136,go_sem]) rfl ?_;rw[Hr.out];exact⟨_,rfl,Q4,g4⟩
 . have hv':qa5 d=false:=by simpa using hv
   have Hv:=Lib.hid hv';have Hr:Hid (qcx d=none):=qop hv';clear hv hv';go_enter func136,ntmps136;go_wp2_with fail;refine(qc6 _ d w h Hv.out).mono ?_;rintro e w1 ⟨rfl,hg1⟩;go_wp2_with fail;refine Aj (v:=.tuple #[.slice none 0 0,.int .i64 0,.bool false]) (by simp[results,results136,go_sem]) rfl ?_;rw[Hr.out];exact⟨rfl,hg1⟩
theorem qqm{d:List Int}(h:qa5 d=true)(hx:d[0]?=some x):qbi d=some (d.drop 1,x):=by
 unfold qbi;rw[h,if_pos rfl,head?_eq_getElem?,hx];rfl
theorem qly(v:Ap)(d:List Int)(w:Am)(h:RI w v d):As prog 141 #[v] w (q47 w (qbi d)):=by
 obtain⟨A,n,c,rfl,-,hn⟩:=h.form';have Hn:=Lib.hid hn;clear hn;by_cases hv:qa5 d=true
 . have Hv:=Lib.hid hv;by_cases h0:n=0
   . have Hr:Hid (qbi d=none):=by
      show _=_;rw[AW (by have:=Hn.out;omega:d.length=0)];unfold qbi;simp
     subst h0;clear hv;go_enter func141,ntmps141;go_wp2_with fail;refine(qc6 _ d w h Hv.out).mono ?_;rintro e w1 ⟨rfl,hg1⟩;go_wp2_with fail;refine Aj (v:=.tuple #[.slice none 0 0,.int .i64 0,.bool false]) (by simp[results,results141,go_sem]) rfl ?_;rw[Hr.out];exact⟨rfl,hg1⟩
   . obtain⟨m,rfl⟩:∃m,n=m+1:=⟨n-1,by omega⟩;have qiZ:d.length<=10:=(qby.1 hv).1;have hne:¬(((m+1:Nat):Int)=0):=by omega
     have kq:m<=10:=by have:=Hn.out;omega
     obtain⟨x,hx⟩:∃x,d[0]?=some x:=⟨_,AS (by have:=Hn.out;omega)⟩;have Hr:Hid (qbi d=some (d.drop 1,x)):=qqm hv hx;have Hx:=Lib.hid hx;clear hv h0 hx;go_enter func141,ntmps141;go_wp2_with fail;refine(qc6 _ d w h Hv.out).mono ?_;rintro e w1 ⟨rfl,hg1⟩;go_wp2_with fail;refine(qhz _ d w1 (h.new hg1) (by omega)).mono ?_;rintro e w2 ⟨u,rfl,ho,hg2⟩;have g2:=qac hg1 hg2;have hs1:=hg1.size;have hob:=ho.lower hs1;obtain⟨g,cap,cur,rfl,-,-,-,-⟩:=hob.form (by have:=Hn.out;omega);have hl:d.length=m+1:=Hn.out.symm;rw[hl]at hob |-;have hB:=Blk.new w2 96 #[.slice (some ⟨g,0,none⟩) (m+1) cap];have hg3:=AJ w2 (.cells #[.slice (some ⟨g,0,none⟩) (m+1) cap] 96) none;have ho3:=hob.new hg3;have g3:=qac g2 hg3;have hs3:=g2.size;clear hg1 hg2 ho hob hg3 g2 hl;go_upto_region 4 with fail;generalize w2.alloc (.cells #[.slice (some ⟨g,0,none⟩) (m+1) cap] 96)=w3 at hB ho3 g3 |-;generalize w2.heap.size=tb at hB hs3 |-;obtain⟨A2,hA2⟩:∃A2:Option Addr,A2=(if cap=1 then some ⟨g,0,none⟩else some ⟨g,0+1,none⟩):=⟨_,rfl⟩
     have hd2:d=x::d.drop 1:=by
      obtain⟨h1,h2⟩:=AR.1 Hx.out;rw[<-h2,getElem_cons_drop];rfl
     have q4:QI w3 w.heap.size (.slice A2 m (cap-1)) (d.drop 1):=by
      have q3:=ho3.qi;unfold QI at q3 |-;rw[hd2,map_cons]at q3;obtain⟨g',o',e1,e2,e3,e4,e5⟩:=QS.tail q3;injection e1 with e1;injection e1 with e1 e6;subst e1 e6;rw[show m+1-1=m by omega]at e4 e5;rw[hA2];split
      . exact e5 (by assumption)
      . exact e4
     have HA2:=Lib.hid hA2;clear hA2 hd2;go_wp2_with fail;refine(q46 tb g 0 m cap x d w3 hB ho3.ri kq Hx.out).mono ?_;rw[<-HA2.out];rintro e w4 ⟨rfl,rfl⟩;have hst:w3.grownBy (w3.setCell ⟨tb,0,none⟩ (.slice A2 m (cap-1))) (some tb):=qa3 (qag _ _) (.inr rfl) _;have vq:qg w3 3 (some tb):=qg.blk hB (by decide);have Q4:=q4.grown hst vq;have B4:=hB.qC 0 (.slice A2 m (cap-1));have c4:=B4.cell 0;have g4:=qa2 g3 hst (λg e=>by cases e;exact .inl hs3);clear q4 ho3 hst vq hB HA2;generalize w3.setCell ⟨tb,0,none⟩ (.slice A2 m (cap-1))=w4 at Q4 B4 c4 g4 |-;go_wp2_with fail;refine Aj (v:=.tuple #[.slice A2 m (cap-1),.int .i64 x,.bool true]) (by simp[results,results141,go_sem]) rfl ?_;rw[Hr.out];exact⟨_,rfl,Q4,g4⟩
 . have hv':qa5 d=false:=by simpa using hv
   have Hv:=Lib.hid hv'
   have Hr:Hid (qbi d=none):=by
    show _=_;unfold qbi;rw[hv'];rfl
   clear hv hv';go_enter func141,ntmps141;go_wp2_with fail;refine(qc6 _ d w h Hv.out).mono ?_;rintro e w1 ⟨rfl,hg1⟩;go_wp2_with fail;refine Aj (v:=.tuple #[.slice none 0 0,.int .i64 0,.bool false]) (by simp[results,results141,go_sem]) rfl ?_;rw[Hr.out];exact⟨rfl,hg1⟩
theorem qf.yn{b:Nat}(h:qf w b v l)(hg:w.grownBy w' o.ownBlock)(ho:∀g,o.ownBlock=some g->∀g',v.ownBlock=some g'->g≠g'):qf w' b v l:=by
 refine h.qQ hg ?_;cases hv:v.ownBlock with
 |none=>exact .inl rfl
 |some g'=>exact .inr (λe=>ho g' e.symm g' hv rfl)
structure yJ(w0 wx:Am)(base X:Nat)(d k o r:Ap)(C:List Int)(D:List (List Int))(N:List Int)(Rw:List (List Int))(xs ys:List Ap):Prop where
 o:jZ wx base X d k o r D N Rw xs ys
 ct:RI wx k C
 res:Blk wx (X+1) 29 #[.slice none 0 0,.slice none 0 0,.slice none 0 0,.slice none 0 0]
 g:w0.grownBy wx none
theorem yJ.new{wy:Am}{base X:Nat}{k:Ap}{D:List (List Int)}(M:yJ w0 wx base X d k o r C D N Rw xs ys)(hg:wx.grownBy wy none):yJ w0 wy base X d k o r C D N Rw xs ys:=
 ⟨M.o.new hg,M.ct.new hg,M.res.grown hg (by simp),qac M.g hg⟩
theorem yJ.start{base:Nat}{k:Ap}{D:List (List Int)}(hd:LQ w base d D xs)(hk:RI w k C)(ho:qf w base o N)(hr:LX w base r Rw ys)(hal:Apart (o::(xs++ys)))(hdr:∀g,d.ownBlock=some g->r.ownBlock≠some g)(hg:w0.grownBy w none) :
   yJ w0 ((w.alloc (.cells #[d,k,o,r] 29)).alloc (.cells #[.slice none 0 0,.slice none 0 0,.slice none 0 0,.slice none 0 0] 29)) base w.heap.size d k o r C D N Rw xs ys:=by
 have hR0:=Blk.new (w.alloc (.cells #[d,k,o,r] 29)) 29 #[.slice none 0 0,.slice none 0 0,.slice none 0 0,.slice none 0 0];rw[World.size_alloc]at hR0;have g1:=AJ w (.cells #[d,k,o,r] 29) none;have g2:=qac g1 (AJ (w.alloc (.cells #[d,k,o,r] 29)) (.cells #[.slice none 0 0,.slice none 0 0,.slice none 0 0,.slice none 0 0] 29) none);exact⟨⟨(Blk.new w 29 #[d,k,o,r]).alloc _,hd.new g2,ho.new g2,hr.new g2,hal,hdr⟩,hk.new g2,hR0,qac hg g2⟩
def q9a(w0:Am)(base:Nat)(c:qh)(e:At)(w':Am):Prop:=∃v,e=.returned (.tuple #[v,.nilIface])/\qI w' base v c/\w0.grownBy w' none
theorem qj4(pv d k o r:Ap)(qa:List Node)(c:qh)(L:List (List Int))(j m:Nat)(xs ys:List Ap)(base:Nat)(w0 w:Am)(hp:RN w pv qa)(hd:LQ w base d L xs)(hk:RI w k c.counts)(ho:qf w base o c.done)(hr:LX w base r c.rows ys)(hal:Apart (o::(xs++ys)))(hdr:∀g,d.ownBlock=some g->r.ownBlock≠some g)
   (hg:w0.grownBy w none) (hb:w0.heap.size<=base) (hbw:base<=w.heap.size) (H:qm qa c) (hL:L.length=c.qb.length) (hj:j<L.length) (hx:(m:Int)∈qan qa c.done) (hdl:∀l∈L,l.length<=10) :
   As prog 138 #[pv,.agg #[d,k,o,r],.int .i64 j,.int .i64 m] w (q9a w0 base (qfu qa {c with qb:=L} j (m:Int))):=by
 have hmp:m<qa.length:=by
  obtain⟨i,hi,e,_⟩:=(qc1 H.pv).1 hx;omega
 have hrl:c.rows.length=qa.length:=H.rl;obtain⟨A,n,cp,rfl,-,hn,-⟩:=hp.form';obtain⟨gd,j5,rfl,hcd,hbd⟩:=hd.form rfl (by omega);obtain⟨gr,zO,rfl,hcr,hbr⟩:=hr.form hrl (by omega);obtain⟨Ak,nk,ck,rfl⟩:=hk.val;obtain⟨Ao,no,co,rfl⟩:=ho.ri.val;have M0:=yJ.start hd hk ho hr hal hdr hg
 have yK:Hid (∀u∈.slice Ao no co::(xs++ys),∀g,u.ownBlock=some g->g<w.heap.size):=by
  show ∀u∈_,_;intro u hu g hg;rcases Be.1 hu with rfl|hu
  . exact(ho.lt g hg).2
  . rcases Ba.1 hu with hu|hu
    . exact(hd.lts u hu g hg).2
    . exact(hr.lts u hu g hg).2
 have hnr:(qbj qa c.counts (m:Int)).length<=10:=by
  have h1:=length_filter_le (λi=>has qa i (m:Int)&&decide (c.counts.getD i 0=1)) (range qa.length);have h2:=qam H.pv;unfold qbj;rw[Bc];rw[Bq]at h1;omega
 have hgW:w.grownBy ((w.alloc (.cells #[.slice (some ⟨gd,0,none⟩) L.length j5,.slice Ak nk ck,.slice Ao no co,.slice (some ⟨gr,0,none⟩) qa.length zO] 29)).alloc (.cells #[.slice none 0 0,.slice none 0 0,.slice none 0 0,.slice none 0 0] 29)) none:=qaq (qaq (qag w none) _) _;obtain⟨l0,hl0⟩:∃l0,L[j]?=some l0:=⟨_,AS hj⟩;have jF:l0.length<=10:=hdl l0 (AT hl0);have HH:=Lib.hid H;have Hx:=Lib.hid hx;have Hl0:=Lib.hid hl0;have Hrl:=Lib.hid hrl;have hdn:c.done.length<=1000:=by have:=qev H;have:=qam H.pv;omega
 clear H hx hl0 hrl hd hk ho hr hal hdr hg hdl hL hn;obtain⟨nD,hnD⟩:∃nD,nD=L.length:=⟨_,rfl⟩;obtain⟨nR,hnR⟩:∃nR,nR=qa.length:=⟨_,rfl⟩;have hjD:j<nD:=by omega
 have hmR:m<nR:=by omega
 rw[<-hnD,<-hnR]at M0 hgW |-;have HnD:=Lib.hid hnD;have HnR:=Lib.hid hnR;clear hnD hnR;go_enter func138,ntmps138;go_upto_region 1 with fail;generalize ((w.alloc (.cells #[.slice (some ⟨gd,0,none⟩) nD j5,.slice Ak nk ck,.slice Ao no co,.slice (some ⟨gr,0,none⟩) nR zO] 29)).alloc (.cells #[.slice none 0 0,.slice none 0 0,.slice none 0 0,.slice none 0 0] 29))=W at M0 hgW |-;have d1:=M0.o.x.cell 1;have hsW:=hgW.size;go_wp2_with fail;refine(qg1 _ _ qa c.counts m W (hp.new hgW) M0.ct).mono ?_;intro e w1 hO;rw[HH.out.done Hx.out]at hO;obtain⟨kv,rv,rfl,o1,o2,hg1⟩:=hO;have M1:=M0.new hg1;have hs1:=hg1.size;have Hk:=Lib.hid o1.lt;have p1:=(hp.new hgW).new hg1;obtain⟨Ac,nc,cc,rfl⟩:=o1.ri.val;obtain⟨Ar,nr,cr,rfl,-,qeT⟩:=o2.ri.form';have Hnr:=Lib.hid qeT;have kH:nr<=10:=by omega
 clear d1 M0 hg1 qeT;go_wp2_with fail;refine(qz7 _ qa m w1 p1 HH.out.pv hmp).mono ?_;rintro e w2 ⟨qmA,rfl,o3,hg2⟩;have M2:=M1.new hg2;have hs2:=hg2.size;have yH:=Lib.hid o3.lt;have o1b:=o1.new hg2;have o2b:=o2.ri.new hg2;obtain⟨Aw,nw,cw,rfl⟩:=o3.ri.val;clear M1 hg2 o1 o2 p1;have d0:=M2.o.x.cell 0;obtain⟨g,oz,l,Bl,ml,el,e1,hl,q0,hrl,-,-,-⟩:=M2.o.dq.rl.at_ hjD;injection e1 with e1;injection e1 with e1 e2;subst e1 e2;obtain rfl:l0=l:=Option.some.inj (Hl0.out.symm.trans hl);rw[Nat.zero_add]at q0;have hji:(j:Int)<(nD:Int):=by omega
 clear hl;go_wp2_with fail;refine(qhz _ l0 w2 hrl (by omega)).mono ?_;rintro e w3 ⟨u,rfl,o4,hg3⟩;obtain⟨An,nn,cn,rfl⟩:=o4.ri.val;have hB4:=Blk.new w3 96 #[.slice An nn cn];have hgN:=qac hg3 (AJ w3 (.cells #[.slice An nn cn] 96) none);have o4b:=o4.new (AJ w3 (.cells #[.slice An nn cn] 96) none);have hs3:=hg3.size;clear q0 hrl o4 hg3;go_upto_region 8 with fail;generalize w3.alloc (.cells #[.slice An nn cn] 96)=w4 at hB4 hgN o4b |-;generalize w3.heap.size=nb at hB4 hs3 |-;clear d0;go_wp2_with fail
 go_loopg [50] (nr+1) (λmm i wr=>∃(q:Nat) (u:Ap),q<=nr/\mm=nr+1-q/\i=.int .i64 q/\Blk wr nb 96 #[u]/\qf wr w2.heap.size u (l0++(qbj qa c.counts m).take q)/\w2.grownBy wr none)
 case atStart=>exact⟨0,_,Bs _,rfl,rfl,hB4,by simpa using o4b,hgN⟩
 case round=>
  clear hB4 o4b hgN;obtain⟨q,u,hq,rfl,rfl,hB,hown,hgr⟩:=hrel;by_cases hlt:q<nr
  . obtain⟨g',o',y,rfl,hy,c0⟩:=(o2b.new hgr).at_ hlt
    have Hy:Hid ((l0++(qbj qa c.counts m).take q)++[y]=l0++(qbj qa c.counts m).take (q+1)):=by
     show _=_;obtain⟨h1,h2⟩:=AR.1 hy;rw[AV h1,h2,append_assoc]
    have hlen:(l0++(qbj qa c.counts m).take q).length<=1000000:=by
     rw[AZ,Br];omega
    clear hy;go_wp2_with fail;refine(q7u nb w2.heap.size y u _ w2 wr hB hown hlen hgr (Bt _) hgr.size hs3).mono ?_;rintro e w5 ⟨rfl,u',hB',hown',qjA⟩;rw[Hy.out]at hown';clear hB hown;go_wp2;go_roundg (nr+1-(q+1))
    case measure=>omega
    case rel=>exact⟨q+1,u',by omega,rfl,by go_num,hB',hown',qjA⟩
  . obtain rfl:nr=q:=by omega
    have M4:=M2.new hgr;have k4:=o1b.new hgr;have r4:=o3.new hgr;have hsr:=hgr.size;rw[AX (By Hnr.out.symm)]at hown;obtain⟨Af,nf,cf,rfl⟩:=hown.ri.val;have yo:=Lib.hid hown.lt;clear M2 o1b o3 o2b hgr;have x1:=M4.o.x.cell 1;have y1:=M4.o.x.frozen 1;have j3:wr.grownBy (wr.setCell ⟨w.heap.size,1,none⟩ (.slice Ac nc cc)) (some w.heap.size):=qa3 (p:=⟨w.heap.size,1,none⟩) (qag wr (some w.heap.size)) (.inr rfl) _;have hn5:qg wr 3 (some w.heap.size):=qg.blk M4.o.x (by decide);have O5:=M4.o.put (k':=.slice Ac nc cc);have k5:qf _ _ _ _:=k4.grown j3 hn5;have r5:qf _ _ _ _:=r4.grown j3 hn5;have n5:qf _ _ _ _:=hown.grown j3 hn5;have B5:=hB.past j3 (qg.blk M4.o.x (by decide));have R5:=M4.res.grown j3 (by simp);have hw0:w0.heap.size<=w.heap.size:=Bu hb hbw;have g5:w0.grownBy _ none:=qa2 M4.g j3 (λg e=>by cases e;exact .inl hw0);have hs5:=j3.size;clear k4 r4 hown hB hn5;go_upto_region 14 with fail;clear x1 y1 M4 j3;generalize wr.setCell ⟨w.heap.size,1,none⟩ (.slice Ac nc cc)=w5 at O5 k5 r5 n5 B5 R5 g5 hs5 |-;have x2:=O5.x.cell 2;have yL:=O5.dn;go_wp2_with (at_builtin;go_must (refine qh6 (.tmp 60) (.tmp 62) rfl rfl yL (by omega) (by omega) rfl rfl rfl ?_));intro v6 w6 jS hg6 hb6;obtain⟨x6,f6,O6⟩:=O5.more hg6 jS hb6;have hoB:∀g,(slice Ao no co).ownBlock=some g->g<w.heap.size:=λg e=>yK.out _ (by simp) g e;have k6:=k5.yn hg6 (λg e g' e'=>by have:=hoB g e;have:=(Hk.out g' e').1;omega);have r6:=r5.yn hg6 (λg e g' e'=>by have:=hoB g e;have:=(yH.out g' e').1;omega);have n6:=n5.yn hg6 (λg e g' e'=>by have:=hoB g e;have:=(yo.out g' e').1;omega);have B6:=B5.past hg6 (yL.jl (by decide));have R6:=R5.past hg6 (yL.jl (by decide));have X6:=O5.x.past hg6 (yL.jl (by decide));have g6:=yL.gb g5 hg6 hb;have yp:w6.grownBy (w6.setCell ⟨w.heap.size,2,none⟩ v6) (some w.heap.size):=qa3 (p:=⟨w.heap.size,2,none⟩) (qag w6 (some w.heap.size)) (.inr rfl) _;have hn7:qg w6 3 (some w.heap.size):=qg.blk X6 (by decide);have k7:qf _ _ _ _:=k6.grown yp hn7;have r7:qf _ _ _ _:=r6.grown yp hn7;have n7:qf _ _ _ _:=n6.grown yp hn7;have B7:=B6.past yp (qg.blk X6 (by decide));have R7:=R6.grown yp (by simp);have g7:w0.grownBy _ none:=qa2 g6 yp (λg e=>by cases e;exact .inl hw0)
    have hov:∀g,v6.ownBlock=some g->g<w.heap.size∨w5.heap.size<=g:=λg e=>by
     rcases hb6 with h|⟨b,h,hb'⟩
     . exact .inl (hoB g (h▸e))
     . rw[h]at e;cases e;exact .inr hb'
    have Hov:=Lib.hid hov;obtain⟨Av,nv,cv,rfl⟩:=jS.ri.val;clear k5 r5 n5 B5 R5 g5 yL k6 r6 n6 B6 R6 g6 x2 hov hn7 jS hb6 O5 hg6 yp;go_upto_region 15 with fail;clear x6 f6 X6;generalize w6.setCell ⟨w.heap.size,2,none⟩ (.slice Av nv cv)=w7 at O6 k7 r7 n7 B7 R7 g7 |-
    have qaK:∀u∈.slice Av nv cv::(xs++ys),∀g,u.ownBlock=some g->(slice Aw nw cw).ownBlock≠some g:=λu hu g hu' e=>by
     have h1:=yH.out g e;rcases Be.1 hu with rfl|hu
     . have:=Hov.out g hu';omega
     . have:=yK.out u (B9 _ hu) g hu';omega
    have hmr:m<c.rows.length:=by have:=Hrl.out;have:=HnR.out;omega
    obtain⟨⟨u8,cR,fR⟩,zZ,hb8,hE8,hI8,hQ8,O8⟩:=O6.setRow hmr (r7.low (by omega)) qaK;have x3:=O6.x.cell 3;have k8:qf _ _ _ _:=k7.grown zZ hI8;have n8:qf _ _ _ _:=n7.grown zZ hI8;have B8:=B7.past zZ hQ8;have R8:=R7.past zZ hE8;have g8:w0.grownBy _ none:=qa2 g7 zZ (λg e=>by cases e;exact .inl (Bu hb hb8));have hmi:(m:Int)<(nR:Int):=by omega
    clear k7 n7 r7 B7 R7 g7 qaK O6;go_upto_region 16 with fail;clear x3 cR fR zZ hE8 hI8 hQ8;generalize w7.setCell ⟨gr,m,none⟩ (.slice Aw nw cw)=w8 at O8 k8 n8 B8 R8 g8 |-
    have qeU:∀u∈.slice Av nv cv::(xs++ys.set m (.slice Aw nw cw)),∀g,u.ownBlock=some g->(slice Af nf cf).ownBlock≠some g:=λu hu g hu' e=>by
     have h1:=yo.out g e;rcases Be.1 hu with rfl|hu
     . have:=Hov.out g hu';omega
     . rcases Ba.1 hu with hu|hu
       . have:=yK.out u (B9 _ (Bm _ hu)) g hu';omega
       . rcases AY hu with hu|rfl
         . have:=yK.out u (B9 _ (Bi _ hu)) g hu';omega
         . have:=yH.out g hu';omega
    have hjL:j<L.length:=by have:=HnD.out;omega
    obtain⟨⟨u9,cQ,fQ⟩,vT,hb9,hE9,hI9,O9⟩:=O8.ym hjL ((n8.low (by omega)).qi) qeU;have x0:=O8.x.cell 0;have z0:=B8.cell 0;have k9:qf _ _ _ _:=k8.grown vT hI9;have R9:=R8.past vT hE9;have g9:w0.grownBy _ none:=qa2 g8 vT (λg e=>by cases e;exact .inl (Bu hb hb9));clear k8 n8 R8 g8 qeU O8;go_upto_region 17 with fail;clear x0 z0 cQ fQ vT hE9 hI9 B8;generalize w8.setCell ⟨gd,j,none⟩ (.slice Af nf cf)=w9 at O9 k9 R9 g9 |-
    have hal:Apart (.slice Ac nc cc::.slice Av nv cv::(xs.set j (.slice Af nf cf)++ys.set m (.slice Aw nw cw))):=by
     refine Bb.2 ⟨λu hu g e e'=>?_,O9.al⟩;have h1:=Hk.out g e;rcases Be.1 hu with rfl|hu
     . have:=Hov.out g e';omega
     . rcases Ba.1 hu with hu|hu
       . rcases AY hu with hu|rfl
         . have:=yK.out u (B9 _ (Bm _ hu)) g e';omega
         . have:=yo.out g e';omega
       . rcases AY hu with hu|rfl
         . have:=yK.out u (B9 _ (Bi _ hu)) g e';omega
         . have:=yH.out g e';omega
    have hF:qI w9 base (.agg #[.slice (some ⟨gd,0,none⟩) nD j5,.slice Ac nc cc,.slice Av nv cv,.slice (some ⟨gr,0,none⟩) nR zO]) (qfu qa {c with qb:=L} j (m:Int)):=by
     have e1:qfu qa {c with qb:=L} j (m:Int)=⟨L.set j (l0++qbj qa c.counts m),qbh qa c.counts m,c.done++[(m:Int)],c.rows.set m (qcs qa m)⟩:=by
      unfold qfu;simp only[AU,Hl0.out,Option.getD_some,AO]
     rw[e1];exact⟨_,_,_,_,_,_,rfl,O9.dq,k9.low (by omega),O9.dn,O9.ro,hal,O9.dr⟩
    have x0:=O9.x.cell 0;have x1:=O9.x.cell 1;have x2:=O9.x.cell 2;have x3:=O9.x.cell 3;have y0:=R9.cell 0;have y1:=R9.cell 1;have y2:=R9.cell 2;have y3:=R9.cell 3;have f0:=R9.frozen 0;have f1:=R9.frozen 1;have f2:=R9.frozen 2;have f3:=R9.frozen 3;have hst:=qdn w9 (w.heap.size+1) (.slice (some ⟨gd,0,none⟩) nD j5) (.slice Ac nc cc) (.slice Av nv cv) (.slice (some ⟨gr,0,none⟩) nR zO);have hfin:Hid (q9a w0 base (qfu qa {c with qb:=L} j (m:Int)) _ _):=⟨_,rfl,hF.grown hst (qg.blk R9 (by decide)) (qg.blk R9 (by decide)),qa2 g9 hst (λg e=>by cases e;exact .inl (by omega))⟩;clear hF hst hal k9 O9 R9 g9;go_wp2_with fail;refine Aj (v:=.tuple #[.agg #[.slice (some ⟨gd,0,none⟩) nD j5,.slice Ac nc cc,.slice Av nv cv,.slice (some ⟨gr,0,none⟩) nR zO],.nilIface]) (by simp[results,results138,go_sem,y0,y1,y2,y3]) rfl ?_;exact hfin.out
theorem jZ.lay{base:Nat}{k:Ap}{D:List (List Int)}(h1:LQ w1 base d D xs)(h3:qf w1 base o N)(h4:LX w1 base r Rw ys)(h5:Apart (o::(xs++ys)))(h6:∀g,d.ownBlock=some g->r.ownBlock≠some g) :
   jZ (w1.alloc (.cells #[d,k,o,r] 29)) base w1.heap.size d k o r D N Rw xs ys:=
 have hg:=AJ w1 (.cells #[d,k,o,r] 29) none
 ⟨Blk.new _ _ _,h1.new hg,h3.new hg,h4.new hg,h5,h6⟩
def q1a(w:Am)(r:Option qh)(e:At)(w':Am):Prop:=match r with
 |some c=>∃v,e=.returned (.tuple #[v,.nilIface])/\qI w' w.heap.size v c/\w.grownBy w' none
 |none=>∃s:ByteArray,e=.returned (.tuple #[.agg #[.slice none 0 0,.slice none 0 0,.slice none 0 0,.slice none 0 0],.iface 171 (.agg #[.string s])])/\w.grownBy w' none
theorem qh0(s:ByteArray)(hg:w.grownBy wx none):q1a w none (.returned (.tuple #[.agg #[.slice none 0 0,.slice none 0 0,.slice none 0 0,.slice none 0 0],.iface 171 (.agg #[.string s])])) ((((wx.setCell ⟨w.heap.size+1,0,none⟩ (.slice none 0 0)).setCell ⟨w.heap.size+1,1,none⟩ (.slice none 0 0)).setCell ⟨w.heap.size+1,2,none⟩ (.slice none 0 0)).setCell ⟨w.heap.size+1,3,none⟩ (.slice none 0 0)):=
 ⟨_,rfl,qa2 hg (qdn wx (w.heap.size+1) (.slice none 0 0) (.slice none 0 0) (.slice none 0 0) (.slice none 0 0)) (λg e=>by cases e;exact .inl (Bz _))⟩
theorem q49{k:Ap}(hg:w.grownBy wx none)(hR:Blk wx (w.heap.size+1) 29 #[.slice none 0 0,.slice none 0 0,.slice none 0 0,.slice none 0 0])(hc:qI wx w.heap.size (.agg #[d,k,o,r]) c):q1a w (some c) (.returned (.tuple #[.agg #[d,k,o,r],.nilIface])) ((((wx.setCell ⟨w.heap.size+1,0,none⟩ d).setCell ⟨w.heap.size+1,1,none⟩ k).setCell ⟨w.heap.size+1,2,none⟩ o).setCell ⟨w.heap.size+1,3,none⟩ r):=
 have hst:=qdn wx (w.heap.size+1) d k o r
 ⟨_,rfl,hc.grown hst (qg.blk hR (by decide)) (qg.blk hR (by decide)),qa2 hg hst (λg e=>by cases e;exact .inl (Bz _))⟩
def qju(w:Am)(r:Option qh)(e:At)(w':Am):Prop:=∃v,e=.returned (.tuple #[v,.bool r.isSome])/\qI w' w.heap.size v (r.getD qc4)/\w.grownBy w' none
theorem qI.zero(w:Am)(base:Nat):qI w base (.agg #[.slice none 0 0,.slice none 0 0,.slice none 0 0,.slice none 0 0]) qc4:=
 ⟨_,_,_,_,[],[],rfl,(LX.nil w base).lq,qf.nil w base,qf.nil w base,LX.nil w base,Apart.qaD 2,λg hg=>by cases hg⟩
theorem qgo{r:Option qh}{k q:Ap}(hg:w.grownBy wx none)(hR:Blk wx (w.heap.size+1) 29 #[.slice none 0 0,.slice none 0 0,.slice none 0 0,.slice none 0 0])(hb:b=r.isSome)(hc:qI wx w.heap.size (.agg #[d,k,o,q]) (r.getD qc4)):qju w r (.returned (.tuple #[.agg #[d,k,o,q],.bool b])) ((((wx.setCell ⟨w.heap.size+1,0,none⟩ d).setCell ⟨w.heap.size+1,1,none⟩ k).setCell ⟨w.heap.size+1,2,none⟩ o).setCell ⟨w.heap.size+1,3,none⟩ q):=
 have hst:=qdn wx (w.heap.size+1) d k o q
 ⟨_,by rw[hb],hc.grown hst (qg.blk hR (by decide)) (qg.blk hR (by decide)),qa2 hg hst (λg e=>by cases e;exact .inl (Bz _))⟩
theorem qI.form{base:Nat}(h:qI w base v c):∃A1 n1 c1 A2 n2 c2 A3 n3 c3 A4 n4 c4,v=.agg #[.slice A1 n1 c1,.slice A2 n2 c2,.slice A3 n3 c3,.slice A4 n4 c4]:=by
 obtain⟨A1,n1,c1,A2,n2,c2,A3,n3,c3,A4,n4,c4,e,-⟩:=h.cv.form;exact⟨_,_,_,_,_,_,_,_,_,_,_,_,e⟩
theorem qqo(pv v:Ap)(qa:List Node)(c:qh)(wk:Int)(w:Am)(hp:RN w pv qa)(h:CV w v c)(hfit:∀d∈c.qb,d.length<=1048576) :
   As prog 89 #[pv,v,.int .i64 wk] w (q1a w (qch qa c wk)):=by
 obtain⟨A,n,cp,rfl,-,hn,-⟩:=hp.form';obtain⟨A1,n1,c1,A2,n2,c2,A3,n3,c3,A4,n4,c4,rfl,h1,-,-,-⟩:=h.form;have B0:=j7.start h;have hn1:=h1.len;have Hn1:=Lib.hid hn1;have qD:=Lib.hid hfit;clear hn hn1 h1 h hfit;by_cases hv:qat qa c=true
 . have Hv:=Lib.hid hv;by_cases hin:qba c wk=true
   . have Hin:=Lib.hid hin;have vr:=qbg.1 hin;obtain⟨k,rfl⟩:=AM vr.1;have hk:k<n1:=by have:=Hn1.out;omega
     clear hv hin vr;go_enter func89,ntmps89;go_upto_region 1 with fail;generalize ((w.alloc (.cells #[.slice A1 n1 c1,.slice A2 n2 c2,.slice A3 n3 c3,.slice A4 n4 c4] 29)).alloc (.cells #[.slice none 0 0,.slice none 0 0,.slice none 0 0,.slice none 0 0] 29))=W at B0 |-;have d0:=B0.b.d0;have d1:=B0.b.d1;have d2:=B0.b.d2;have d3:=B0.b.d3;go_wp2_with fail;refine(qbd _ _ qa c W (hp.new B0.g) B0.b.cv qD.out Hv.out).mono ?_;rintro e w1 ⟨rfl,hg1⟩;have B1:=B0.new hg1;clear B0 hg1 d0 d1 d2 d3;have d0:=B1.b.d0;have d1:=B1.b.d1;have d2:=B1.b.d2;have d3:=B1.b.d3;go_wp2_with fail;refine(qb7 _ c _ w1 B1.b.cv Hin.out).mono ?_;rintro e w1' ⟨rfl,kO⟩;have B1':=B1.new kO;clear B1 kO d0 d1 d2 d3;have d0:=B1'.b.d0;have d1:=B1'.b.d1;have d2:=B1'.b.d2;have d3:=B1'.b.d3;have hkD:k<c.qb.length:=by rw[<-Hn1.out];exact hk
     obtain⟨g,o,d,Bd,md,ed,rfl,hd,q0,hrd,-,-,-⟩:=B1'.b.dq.at_ hk;have hki:(k:Int)<(n1:Int):=by omega
     have Heq:=Lib.hid (qtu Hv.out hkD hd);have Hd:=Lib.hid hd;clear hd;go_wp2_with fail;refine(qov _ d w1' hrd).mono ?_;cases jT:qcx d with
     |none=>
      rintro e w2 ⟨rfl,hg2⟩;have B2:=B1'.new hg2;have Hr:Hid (qch qa c (k:Int)=none):=by show _=_;rw[Heq.out,jT];rfl
      have y0:=B2.res.cell 0;have y1:=B2.res.cell 1;have y2:=B2.res.cell 2;have y3:=B2.res.cell 3;have f0:=B2.res.frozen 0;have f1:=B2.res.frozen 1;have f2:=B2.res.frozen 2;have f3:=B2.res.frozen 3;have hfin:=Lib.hid (λs=>qh0 s B2.g);clear jT B1' B2 d0 d1 d2 d3 hg2 q0 hrd;go_wp2_with fail;refine Aj (by simp[results,results89,go_sem,y0,y1,y2,y3];rfl) rfl ?_;rw[Hr.out];exact hfin.out _
     |some lx=>
      obtain⟨l,x⟩:=lx;rintro e w2 ⟨u,rfl,hu,hg2⟩;have H:=qbb.1 Hv.out;obtain⟨hxd,hll⟩:=q6a jT;have jF:l.length<=10:=Bu hll (qdm H d (AT Hd.out));obtain⟨m,nd,rfl,hnd,vU,hmp⟩:=qjy H Hd.out hxd;have HH:=Lib.hid H;have qcM:=Lib.hid vU;have Hr:Hid (qch qa c (k:Int)=some (qfu qa {c with qb:=c.qb.set k l} k (m:Int))):=by show _=_;rw[Heq.out,jT];rfl
      have hdl:Hid (∀y∈c.qb.set k l,y.length<=10):=by
       show ∀y∈_,_;intro y hy;rcases AY hy with hy|rfl
       . exact qdm H y hy
       . exact jF
      have yq:=hg2.size;have Hub:Hid (∀g,u.ownBlock=some g->w1'.heap.size<=g/\g<w2.heap.size):=hu.lt;have B2:=B1'.new hg2;obtain⟨Au,nu,cu,rfl⟩:=hu.ri.val;clear jT H hxd hll jF hnd vU hmp d0 d1 d2 d3 q0 hrd;have d0:=B2.b.d0;have d1:=B2.b.d1;have d2:=B2.b.d2;have d3:=B2.b.d3;go_wp2_with fail;refine(qih _ c w2 B2.b.cv ⟨by have:=HH.out.d4;omega,λl hl=>by have:=qdm HH.out l hl;omega⟩ ⟨by have:=HH.out.rl;have:=qam HH.out.pv;omega,λl hl=>by have:=qnk HH.out l hl;omega⟩ (by have:=HH.out.counts;rw[this,qeu];have:=qam HH.out.pv;omega) (by have:=qev HH.out;have:=qam HH.out.pv;omega)).mono ?_;rintro e w3 ⟨v3,rfl,⟨dv,kv,ov,rv,xs,ys,rfl,q1,q2,q3,q4,q5,q6⟩,hg3⟩;have g3:=qac hg2 hg3;have hu3:=hu.new hg3
      have hap:∀u'∈ov::(xs++ys),∀g,u'.ownBlock=some g->(slice Au nu cu).ownBlock≠some g:=λu' hu' g e e'=>by
       have h1:=Hub.out g e';rcases Be.1 hu' with rfl|hu'
       . have:=q3.lt g e;omega
       . rcases Ba.1 hu' with hu'|hu'
         . have:=q1.lts u' hu' g e;omega
         . have:=q4.lts u' hu' g e;omega
      obtain⟨gd,j5,rfl,hcd,hbd⟩:=q1.form Hn1.out.symm (by omega);obtain⟨Ar,nr,cr,rfl⟩:=q4.rl.val;obtain⟨Ak,nk,ck,rfl⟩:=q2.val;obtain⟨Ao,no,co,rfl⟩:=q3.ri.val;clear d0 d1 d2 d3 B2 hu hg3 hg2;go_upto_region 9 with fail;have hO:=jZ.lay (k:=.slice Ak nk ck) (q1.lq.low yq) (q3.lower yq) (q4.low yq) q5 q6;have hgX:=AJ w3 (.cells #[.slice (some ⟨gd,0,none⟩) n1 j5,.slice Ak nk ck,.slice Ao no co,.slice Ar nr cr] 29) none;have q2':=q2.new hgX;have hu4:=hu3.new hgX;have g4:=qac g3 hgX;generalize w3.alloc (.cells #[.slice (some ⟨gd,0,none⟩) n1 j5,.slice Ak nk ck,.slice Ao no co,.slice Ar nr cr] 29)=w4 at hO hgX q2' hu4 g4 |-;generalize w3.heap.size=X at hO |-;obtain⟨⟨u0,cR,fR⟩,j3,yg,hE5,hI5,O5⟩:=hO.ym hkD hu4 hap;have x0:=hO.x.cell 0;have k5:RI _ _ _:=q2'.grown j3 hI5;have g5:w1'.grownBy _ none:=qa2 g4 j3 (λg e=>by cases e;exact .inl yg);clear q1 q2 q3 q4 q5 q6 hgX hu3 hap;go_upto_region 10 with fail;clear cR fR x0 j3 hE5 hI5 q2' hu4 g4 hO;generalize w4.setCell ⟨gd,k,none⟩ (.slice Au nu cu)=w5 at O5 k5 g5 |-;have x0:=O5.x.cell 0;have x1:=O5.x.cell 1;have x2:=O5.x.cell 2;have x3:=O5.x.cell 3;go_wp2_with fail;refine(qj4 _ _ _ _ _ qa c (c.qb.set k l) k m _ _ w1'.heap.size w1' w5 (hp.new (qac B1'.g g5)) O5.dq k5 O5.dn O5.ro O5.al O5.dr g5 (Bt _) g5.size HH.out (by rw[Bg]) (by rw[Bg];exact hkD) qcM.out hdl.out).mono ?_;rintro e w6 ⟨v6,rfl,hF6,hg6⟩;have B6:=B1'.new hg6;have yt:=hF6.low B1'.g.size;obtain⟨B1,m1,e1,B2,m2,e2,B3,m3,e3,B4,m4,e4,rfl⟩:=yt.form;have hfin:=Lib.hid (q49 B6.g B6.res yt);have y0:=B6.res.cell 0;have y1:=B6.res.cell 1;have y2:=B6.res.cell 2;have y3:=B6.res.cell 3;have f0:=B6.res.frozen 0;have f1:=B6.res.frozen 1;have f2:=B6.res.frozen 2;have f3:=B6.res.frozen 3;clear x0 x1 x2 x3 O5 k5 g5 hF6 yt hg6 B6 B1';go_wp2_with fail;refine Aj (v:=.tuple #[.agg #[.slice B1 m1 e1,.slice B2 m2 e2,.slice B3 m3 e3,.slice B4 m4 e4],.nilIface]) (by simp[results,results89,go_sem,y0,y1,y2,y3]) rfl ?_;rw[Hr.out];exact hfin.out
   . have ze:qba c wk=false:=by simpa using hin
     have Hin:=Lib.hid ze;have Hr:Hid (qch qa c wk=none):=qrk ze;clear hv hin ze;go_enter func89,ntmps89;go_upto_region 1 with fail;generalize ((w.alloc (.cells #[.slice A1 n1 c1,.slice A2 n2 c2,.slice A3 n3 c3,.slice A4 n4 c4] 29)).alloc (.cells #[.slice none 0 0,.slice none 0 0,.slice none 0 0,.slice none 0 0] 29))=W at B0 |-;have d0:=B0.b.d0;have d1:=B0.b.d1;have d2:=B0.b.d2;have d3:=B0.b.d3;go_wp2_with fail;refine(qbd _ _ qa c W (hp.new B0.g) B0.b.cv qD.out Hv.out).mono ?_;rintro e w1 ⟨rfl,hg1⟩;have B1:=B0.new hg1;clear B0 hg1 d0 d1 d2 d3;have d0:=B1.b.d0;have d1:=B1.b.d1;have d2:=B1.b.d2;have d3:=B1.b.d3;go_wp2_with fail;refine(qb7 _ c _ w1 B1.b.cv Hin.out).mono ?_;rintro e w1' ⟨rfl,kO⟩;have B2:=B1.new kO;clear B1 kO d0 d1 d2 d3;have y0:=B2.res.cell 0;have y1:=B2.res.cell 1;have y2:=B2.res.cell 2;have y3:=B2.res.cell 3;have f0:=B2.res.frozen 0;have f1:=B2.res.frozen 1;have f2:=B2.res.frozen 2;have f3:=B2.res.frozen 3;have hfin:=Lib.hid (λs=>qh0 s B2.g);clear B2;go_wp2_with fail;refine Aj (by simp[results,results89,go_sem,y0,y1,y2,y3];rfl) rfl ?_;rw[Hr.out];exact hfin.out _
 . have hv':qat qa c=false:=by simpa using hv
   have Hv:=Lib.hid hv';have Hr:Hid (qch qa c wk=none):=qrj hv';clear hv hv';go_enter func89,ntmps89;go_upto_region 1 with fail;generalize ((w.alloc (.cells #[.slice A1 n1 c1,.slice A2 n2 c2,.slice A3 n3 c3,.slice A4 n4 c4] 29)).alloc (.cells #[.slice none 0 0,.slice none 0 0,.slice none 0 0,.slice none 0 0] 29))=W at B0 |-;have d0:=B0.b.d0;have d1:=B0.b.d1;have d2:=B0.b.d2;have d3:=B0.b.d3;go_wp2_with fail;refine(qbd _ _ qa c W (hp.new B0.g) B0.b.cv qD.out Hv.out).mono ?_;rintro e w1 ⟨rfl,hg1⟩;have B2:=B0.new hg1;clear B0 hg1 d0 d1 d2 d3;have y0:=B2.res.cell 0;have y1:=B2.res.cell 1;have y2:=B2.res.cell 2;have y3:=B2.res.cell 3;have f0:=B2.res.frozen 0;have f1:=B2.res.frozen 1;have f2:=B2.res.frozen 2;have f3:=B2.res.frozen 3;have hfin:=Lib.hid (λs=>qh0 s B2.g);clear B2;go_wp2_with fail;refine Aj (by simp[results,results89,go_sem,y0,y1,y2,y3];rfl) rfl ?_;rw[Hr.out];exact hfin.out _
theorem qqp(pv v:Ap)(qa:List Node)(c:qh)(wk:Int)(a:Addr)(w:Am)(hE:qp w a)(hp:RN w pv qa)(h:CV w v c)(hfit:∀d∈c.qb,d.length<=1048576) :
   As prog 52 #[pv,v,.int .i64 wk] w (qju w (qch qa c wk)):=by
 obtain⟨A,n,cp,rfl,-,hn,-⟩:=hp.form';obtain⟨A1,n1,c1,A2,n2,c2,A3,n3,c3,A4,n4,c4,rfl,h1,-,-,-⟩:=h.form;have B0:=j7.start h;have qD:=Lib.hid hfit;obtain⟨R,hR⟩:∃R,R=qch qa c wk:=⟨_,rfl⟩;rw[<-hR];have HR:=Lib.hid hR;clear hn h1 h hfit hR;go_enter func52,ntmps52;go_upto_region 1 with fail;generalize ((w.alloc (.cells #[.slice A1 n1 c1,.slice A2 n2 c2,.slice A3 n3 c3,.slice A4 n4 c4] 29)).alloc (.cells #[.slice none 0 0,.slice none 0 0,.slice none 0 0,.slice none 0 0] 29))=W at B0 |-;have d0:=B0.b.d0;have d1:=B0.b.d1;have d2:=B0.b.d2;have d3:=B0.b.d3;go_wp2_with fail;refine(qqo _ _ qa c wk W (hp.new B0.g) B0.b.cv qD.out).mono ?_;rw[<-HR.out];clear HR;cases R with
 |none=>
  rintro e w1 ⟨s,rfl,hg1⟩;have hgX:=AJ w1 (.cells #[.slice none 0 0,.slice none 0 0,.slice none 0 0,.slice none 0 0] 29) none;have B2:=(B0.new hg1).new hgX;clear B0 hg1 hgX d0 d1 d2 d3;go_upto_region 2 with fail;generalize w1.alloc (.cells #[.slice none 0 0,.slice none 0 0,.slice none 0 0,.slice none 0 0] 29)=w2 at B2 |-;have hE2:=hE.new B2.g;have e0:w2.cell? ⟨0,0,none⟩=some (.iface 244 (.pointer (some a))):=hE2;go_wp2_with fail;refine(qwr s a w2 hE2).mono ?_;rintro e w3 ⟨rfl,hg3⟩;have B3:=B2.new hg3;have y0:=B3.res.cell 0;have y1:=B3.res.cell 1;have y2:=B3.res.cell 2;have y3:=B3.res.cell 3;have f0:=B3.res.frozen 0;have f1:=B3.res.frozen 1;have f2:=B3.res.frozen 2;have f3:=B3.res.frozen 3;have hfin:=Lib.hid (qgo (r:=none) B3.g B3.res rfl (qI.zero w3 w.heap.size));clear B2 B3 hE2 e0 hg3;go_wp2_with fail;refine Aj (v:=.tuple #[.agg #[.slice none 0 0,.slice none 0 0,.slice none 0 0,.slice none 0 0],.bool false]) (by simp[results,results52,go_sem,y0,y1,y2,y3]) rfl ?_;exact hfin.out
 |some c'=>
  rintro e w1 ⟨v1,rfl,hF1,hg1⟩;obtain⟨C1,m1,e1,C2,m2,e2,C3,m3,e3,C4,m4,e4,rfl⟩:=hF1.form;have hgX:=AJ w1 (.cells #[.slice C1 m1 e1,.slice C2 m2 e2,.slice C3 m3 e3,.slice C4 m4 e4] 29) none;have hX:=Blk.new w1 29 #[.slice C1 m1 e1,.slice C2 m2 e2,.slice C3 m3 e3,.slice C4 m4 e4];have B2:=(B0.new hg1).new hgX;have hF2:=(hF1.new hgX).low B0.g.size;clear B0 hg1 hgX hF1 d0 d1 d2 d3;go_upto_region 2 with fail;generalize w1.alloc (.cells #[.slice C1 m1 e1,.slice C2 m2 e2,.slice C3 m3 e3,.slice C4 m4 e4] 29)=w2 at B2 hF2 hX |-;generalize w1.heap.size=X at hX |-;have e0:w2.cell? ⟨0,0,none⟩=some (.iface 244 (.pointer (some a))):=hE.new B2.g;go_wp2_with fail;refine(qwq a w2).mono ?_;rintro e w3 ⟨rfl,rfl⟩;have x0:=hX.cell 0;have x1:=hX.cell 1;have x2:=hX.cell 2;have x3:=hX.cell 3;have y0:=B2.res.cell 0;have y1:=B2.res.cell 1;have y2:=B2.res.cell 2;have y3:=B2.res.cell 3;have f0:=B2.res.frozen 0;have f1:=B2.res.frozen 1;have f2:=B2.res.frozen 2;have f3:=B2.res.frozen 3;have hfin:=Lib.hid (qgo (r:=some c') B2.g B2.res rfl hF2);clear B2 e0 hF2 hX;go_wp2_with fail;refine Aj (v:=.tuple #[.agg #[.slice C1 m1 e1,.slice C2 m2 e2,.slice C3 m3 e3,.slice C4 m4 e4],.bool true]) (by simp[results,results52,go_sem,y0,y1,y2,y3]) rfl ?_;exact hfin.out
theorem qnf(pv v:Ap)(qa:List Node)(c:qh)(wk fz:Int)(w:Am)(hp:RN w pv qa)(h:CV w v c)(hfit:∀d∈c.qb,d.length<=1048576) :
   As prog 91 #[pv,v,.int .i64 wk,.int .i64 fz] w (q1a w (qax qa c wk fz)):=by
 obtain⟨A,n,cp,rfl,-,hn,-⟩:=hp.form';obtain⟨A1,n1,c1,A2,n2,c2,A3,n3,c3,A4,n4,c4,rfl,h1,-,-,-⟩:=h.form;have B0:=j7.start h;have hn1:=h1.len;have Hn1:=Lib.hid hn1;have qD:=Lib.hid hfit;clear hn hn1 h1 h hfit;by_cases hv:qat qa c=true
 . have Hv:=Lib.hid hv;by_cases hin:qba c wk=true
   . have Hin:=Lib.hid hin;by_cases vr:qba c fz=true
     . have yG:=Lib.hid vr;have qeV:=qbg.1 hin;replace vr:=qbg.1 vr;obtain⟨k,rfl⟩:=AM qeV.1;obtain⟨fk,rfl⟩:=AM vr.1;have hk:k<n1:=by have:=Hn1.out;omega
       have hf:fk<n1:=by have:=Hn1.out;omega
       clear hv hin qeV vr;by_cases hkf:k=fk
       . subst hkf;have Hr:Hid (qax qa c (k:Int) (k:Int)=none):=qkf;go_enter func91,ntmps91;go_upto_region 1 with fail;generalize ((w.alloc (.cells #[.slice A1 n1 c1,.slice A2 n2 c2,.slice A3 n3 c3,.slice A4 n4 c4] 29)).alloc (.cells #[.slice none 0 0,.slice none 0 0,.slice none 0 0,.slice none 0 0] 29))=W at B0 |-;have d0:=B0.b.d0;have d1:=B0.b.d1;have d2:=B0.b.d2;have d3:=B0.b.d3;go_wp2_with fail;refine(qbd _ _ qa c W (hp.new B0.g) B0.b.cv qD.out Hv.out).mono ?_;rintro e w1 ⟨rfl,hg1⟩;have B1:=B0.new hg1;clear B0 hg1 d0 d1 d2 d3;have d0:=B1.b.d0;have d1:=B1.b.d1;have d2:=B1.b.d2;have d3:=B1.b.d3;go_wp2_with fail;refine(qb7 _ c _ w1 B1.b.cv Hin.out).mono ?_;rintro e w2 ⟨rfl,hg2⟩;have B2:=B1.new hg2;clear B1 hg2 d0 d1 d2 d3;have d0:=B2.b.d0;have d1:=B2.b.d1;have d2:=B2.b.d2;have d3:=B2.b.d3;go_wp2_with fail;refine(qb7 _ c _ w2 B2.b.cv yG.out).mono ?_;rintro e w3 ⟨rfl,hg3⟩;have B3:=B2.new hg3;clear B2 hg3 d0 d1 d2 d3;have y0:=B3.res.cell 0;have y1:=B3.res.cell 1;have y2:=B3.res.cell 2;have y3:=B3.res.cell 3;have f0:=B3.res.frozen 0;have f1:=B3.res.frozen 1;have f2:=B3.res.frozen 2;have f3:=B3.res.frozen 3;have hfin:=Lib.hid (λs=>qh0 s B3.g);clear B3;go_wp2_with fail;refine Aj (by simp[results,results91,go_sem,y0,y1,y2,y3];rfl) rfl ?_;rw[Hr.out];exact hfin.out _
       . have qmB:¬((k:Int)=(fk:Int)):=by omega
         have hkD:k<c.qb.length:=by rw[<-Hn1.out];exact hk
         have hfD:fk<c.qb.length:=by rw[<-Hn1.out];exact hf
         have hki:(k:Int)<(n1:Int):=by omega
         have hfi:(fk:Int)<(n1:Int):=by omega
         go_enter func91,ntmps91;go_upto_region 1 with fail;generalize ((w.alloc (.cells #[.slice A1 n1 c1,.slice A2 n2 c2,.slice A3 n3 c3,.slice A4 n4 c4] 29)).alloc (.cells #[.slice none 0 0,.slice none 0 0,.slice none 0 0,.slice none 0 0] 29))=W at B0 |-;have d0:=B0.b.d0;have d1:=B0.b.d1;have d2:=B0.b.d2;have d3:=B0.b.d3;go_wp2_with fail;refine(qbd _ _ qa c W (hp.new B0.g) B0.b.cv qD.out Hv.out).mono ?_;rintro e w1 ⟨rfl,hg1⟩;have B1:=B0.new hg1;clear B0 hg1 d0 d1 d2 d3;have d0:=B1.b.d0;have d1:=B1.b.d1;have d2:=B1.b.d2;have d3:=B1.b.d3;go_wp2_with fail;refine(qb7 _ c _ w1 B1.b.cv Hin.out).mono ?_;rintro e w2 ⟨rfl,hg2⟩;have B2:=B1.new hg2;clear B1 hg2 d0 d1 d2 d3;have d0:=B2.b.d0;have d1:=B2.b.d1;have d2:=B2.b.d2;have d3:=B2.b.d3;go_wp2_with fail;refine(qb7 _ c _ w2 B2.b.cv yG.out).mono ?_;rintro e w3 ⟨rfl,hg3⟩;have B3:=B2.new hg3;clear B2 hg3 d0 d1 d2 d3;have d0:=B3.b.d0;have d1:=B3.b.d1;have d2:=B3.b.d2;have d3:=B3.b.d3;obtain⟨g,o,dk,Bk,mk,ek,rfl,hdk,q0,hrk,hmk,-,-⟩:=B3.b.dq.at_ hk;obtain⟨g',o',d,Bd,md,ed,eA,hd,p0,hrd,-,-,-⟩:=B3.b.dq.at_ hf;injection eA with eA;injection eA with eg eo;subst eg eo;by_cases hm0:mk=0
         . have qjB:dk=[]:=AW (by omega);subst hm0 qjB;have Heq:=Lib.hid (qol Hv.out hkD hfD hkf hdk hd);have Hd:=Lib.hid hd;clear hd hdk hrk hmk;go_wp2_with fail;refine(qly _ d w3 hrd).mono ?_;cases jT:qbi d with
           |none=>
            rintro e w2 ⟨rfl,hg2⟩;have B2:=B3.new hg2;have Hr:Hid (qax qa c (k:Int) (fk:Int)=none):=by show _=_;rw[Heq.out,jT];rfl
            have y0:=B2.res.cell 0;have y1:=B2.res.cell 1;have y2:=B2.res.cell 2;have y3:=B2.res.cell 3;have f0:=B2.res.frozen 0;have f1:=B2.res.frozen 1;have f2:=B2.res.frozen 2;have f3:=B2.res.frozen 3;have hfin:=Lib.hid (λs=>qh0 s B2.g);clear jT B3 B2 d0 d1 d2 d3 hg2 q0 hrd;go_wp2_with fail;refine Aj (by simp[results,results91,go_sem,y0,y1,y2,y3];rfl) rfl ?_;rw[Hr.out];exact hfin.out _
           |some lx=>
            obtain⟨l,x⟩:=lx;rintro e w2 ⟨u,rfl,hu,hg2⟩;have H:=qbb.1 Hv.out;obtain⟨hxd,hll⟩:=qxt jT;have jF:l.length<=10:=Bu hll (qdm H d (AT Hd.out));obtain⟨m,nd,rfl,hnd,vU,hmp⟩:=qjy H Hd.out hxd;have HH:=Lib.hid H;have qcM:=Lib.hid vU;have Hr:Hid (qax qa c (k:Int) (fk:Int)=some (qfu qa {c with qb:=c.qb.set fk l} k (m:Int))):=by show _=_;rw[Heq.out,jT];rfl
            have hdl:Hid (∀y∈c.qb.set fk l,y.length<=10):=by
             show ∀y∈_,_;intro y hy;rcases AY hy with hy|rfl
             . exact qdm H y hy
             . exact jF
            have yq:=hg2.size;have Hub:Hid (∀g,u.ownBlock=some g->w3.heap.size<=g/\g<w2.heap.size):=hu.lt;have B2:=B3.new hg2;obtain⟨Au,nu,cu,rfl⟩:=hu.ri.val;clear jT H hxd hll jF hnd vU hmp d0 d1 d2 d3 q0 hrd;have d0:=B2.b.d0;have d1:=B2.b.d1;have d2:=B2.b.d2;have d3:=B2.b.d3;go_wp2_with fail;refine(qih _ c w2 B2.b.cv ⟨by have:=HH.out.d4;omega,λl hl=>by have:=qdm HH.out l hl;omega⟩ ⟨by have:=HH.out.rl;have:=qam HH.out.pv;omega,λl hl=>by have:=qnk HH.out l hl;omega⟩ (by have:=HH.out.counts;rw[this,qeu];have:=qam HH.out.pv;omega) (by have:=qev HH.out;have:=qam HH.out.pv;omega)).mono ?_;rintro e v3w ⟨v3,rfl,⟨dv,kv,ov,rv,xs,ys,rfl,q1,q2,q3,q4,q5,q6⟩,hg3⟩;have g3:=qac hg2 hg3;have hu3:=hu.new hg3
            have hap:∀u'∈ov::(xs++ys),∀g,u'.ownBlock=some g->(slice Au nu cu).ownBlock≠some g:=λu' hu' g e e'=>by
             have h1:=Hub.out g e';rcases Be.1 hu' with rfl|hu'
             . have:=q3.lt g e;omega
             . rcases Ba.1 hu' with hu'|hu'
               . have:=q1.lts u' hu' g e;omega
               . have:=q4.lts u' hu' g e;omega
            obtain⟨gd,j5,rfl,hcd,hbd⟩:=q1.form Hn1.out.symm (by omega);obtain⟨Ar,nr,cr,rfl⟩:=q4.rl.val;obtain⟨Ak,nk,ck,rfl⟩:=q2.val;obtain⟨Ao,no,co,rfl⟩:=q3.ri.val;clear d0 d1 d2 d3 B2 hu hg3 hg2;go_upto_region 13 with fail;have hO:=jZ.lay (k:=.slice Ak nk ck) (q1.lq.low yq) (q3.lower yq) (q4.low yq) q5 q6;have hgX:=AJ v3w (.cells #[.slice (some ⟨gd,0,none⟩) n1 j5,.slice Ak nk ck,.slice Ao no co,.slice Ar nr cr] 29) none;have q2':=q2.new hgX;have hu4:=hu3.new hgX;have g4:=qac g3 hgX;generalize v3w.alloc (.cells #[.slice (some ⟨gd,0,none⟩) n1 j5,.slice Ak nk ck,.slice Ao no co,.slice Ar nr cr] 29)=w4 at hO hgX q2' hu4 g4 |-;generalize v3w.heap.size=X at hO |-;obtain⟨⟨u0,cR,fR⟩,j3,yg,hE5,hI5,O5⟩:=hO.ym hfD hu4 hap;have x0:=hO.x.cell 0;have k5:RI _ _ _:=q2'.grown j3 hI5;have g5:w3.grownBy _ none:=qa2 g4 j3 (λg e=>by cases e;exact .inl yg);clear q1 q2 q3 q4 q5 q6 hgX hu3 hap;go_upto_region 14 with fail;clear cR fR x0 j3 hE5 hI5 q2' hu4 g4 hO;generalize w4.setCell ⟨gd,fk,none⟩ (.slice Au nu cu)=w5 at O5 k5 g5 |-;have x0:=O5.x.cell 0;have x1:=O5.x.cell 1;have x2:=O5.x.cell 2;have x3:=O5.x.cell 3;go_wp2_with fail;refine(qj4 _ _ _ _ _ qa c (c.qb.set fk l) k m _ _ w3.heap.size w3 w5 (hp.new (qac B3.g g5)) O5.dq k5 O5.dn O5.ro O5.al O5.dr g5 (Bt _) g5.size HH.out (by rw[Bg]) (by rw[Bg];exact hkD) qcM.out hdl.out).mono ?_;rintro e w6 ⟨v6,rfl,hF6,hg6⟩;have B6:=B3.new hg6;have yt:=hF6.low B3.g.size;obtain⟨C1,m1,e1,C2,m2,e2,C3,m3,e3,C4,m4,e4,rfl⟩:=yt.form;have hfin:=Lib.hid (q49 B6.g B6.res yt);have y0:=B6.res.cell 0;have y1:=B6.res.cell 1;have y2:=B6.res.cell 2;have y3:=B6.res.cell 3;have f0:=B6.res.frozen 0;have f1:=B6.res.frozen 1;have f2:=B6.res.frozen 2;have f3:=B6.res.frozen 3;clear x0 x1 x2 x3 O5 k5 g5 hF6 yt hg6 B6 B3;go_wp2_with fail;refine Aj (v:=.tuple #[.agg #[.slice C1 m1 e1,.slice C2 m2 e2,.slice C3 m3 e3,.slice C4 m4 e4],.nilIface]) (by simp[results,results91,go_sem,y0,y1,y2,y3]) rfl ?_;rw[Hr.out];exact hfin.out
         . have Hr:Hid (qax qa c (k:Int) (fk:Int)=none):=qkg hdk (by intro e;rw[e]at hmk;exact hm0 hmk);have qmC:¬((mk:Int)=0):=by omega
           clear hd hdk hrk hrd hmk p0;have y0:=B3.res.cell 0;have y1:=B3.res.cell 1;have y2:=B3.res.cell 2;have y3:=B3.res.cell 3;have f0:=B3.res.frozen 0;have f1:=B3.res.frozen 1;have f2:=B3.res.frozen 2;have f3:=B3.res.frozen 3;have hfin:=Lib.hid (λs=>qh0 s B3.g);clear B3;go_wp2_with fail;refine Aj (by simp[results,results91,go_sem,y0,y1,y2,y3];rfl) rfl ?_;rw[Hr.out];exact hfin.out _
     . have yu:qba c fz=false:=by simpa using vr
       have yG:=Lib.hid yu;have Hr:Hid (qax qa c wk fz=none):=qke yu;clear hv hin vr yu;go_enter func91,ntmps91;go_upto_region 1 with fail;generalize ((w.alloc (.cells #[.slice A1 n1 c1,.slice A2 n2 c2,.slice A3 n3 c3,.slice A4 n4 c4] 29)).alloc (.cells #[.slice none 0 0,.slice none 0 0,.slice none 0 0,.slice none 0 0] 29))=W at B0 |-;have d0:=B0.b.d0;have d1:=B0.b.d1;have d2:=B0.b.d2;have d3:=B0.b.d3;go_wp2_with fail;refine(qbd _ _ qa c W (hp.new B0.g) B0.b.cv qD.out Hv.out).mono ?_;rintro e w1 ⟨rfl,hg1⟩;have B1:=B0.new hg1;clear B0 hg1 d0 d1 d2 d3;have d0:=B1.b.d0;have d1:=B1.b.d1;have d2:=B1.b.d2;have d3:=B1.b.d3;go_wp2_with fail;refine(qb7 _ c _ w1 B1.b.cv Hin.out).mono ?_;rintro e w2 ⟨rfl,hg2⟩;have B2:=B1.new hg2;clear B1 hg2 d0 d1 d2 d3;have d0:=B2.b.d0;have d1:=B2.b.d1;have d2:=B2.b.d2;have d3:=B2.b.d3;go_wp2_with fail;refine(qb7 _ c _ w2 B2.b.cv yG.out).mono ?_;rintro e w3 ⟨rfl,hg3⟩;have B3:=B2.new hg3;clear B2 hg3 d0 d1 d2 d3;have y0:=B3.res.cell 0;have y1:=B3.res.cell 1;have y2:=B3.res.cell 2;have y3:=B3.res.cell 3;have f0:=B3.res.frozen 0;have f1:=B3.res.frozen 1;have f2:=B3.res.frozen 2;have f3:=B3.res.frozen 3;have hfin:=Lib.hid (λs=>qh0 s B3.g);clear B3;go_wp2_with fail;refine Aj (by simp[results,results91,go_sem,y0,y1,y2,y3];rfl) rfl ?_;rw[Hr.out];exact hfin.out _
   . have ze:qba c wk=false:=by simpa using hin
     have Hin:=Lib.hid ze;have Hr:Hid (qax qa c wk fz=none):=qmj ze;clear hv hin ze;go_enter func91,ntmps91;go_upto_region 1 with fail;generalize ((w.alloc (.cells #[.slice A1 n1 c1,.slice A2 n2 c2,.slice A3 n3 c3,.slice A4 n4 c4] 29)).alloc (.cells #[.slice none 0 0,.slice none 0 0,.slice none 0 0,.slice none 0 0] 29))=W at B0 |-;have d0:=B0.b.d0;have d1:=B0.b.d1;have d2:=B0.b.d2;have d3:=B0.b.d3;go_wp2_with fail;refine(qbd _ _ qa c W (hp.new B0.g) B0.b.cv qD.out Hv.out).mono ?_;rintro e w1 ⟨rfl,hg1⟩;have B1:=B0.new hg1;clear B0 hg1 d0 d1 d2 d3;have d0:=B1.b.d0;have d1:=B1.b.d1;have d2:=B1.b.d2;have d3:=B1.b.d3;go_wp2_with fail;refine(qb7 _ c _ w1 B1.b.cv Hin.out).mono ?_;rintro e w2 ⟨rfl,hg2⟩;have B2:=B1.new hg2;clear B1 hg2 d0 d1 d2 d3;have y0:=B2.res.cell 0;have y1:=B2.res.cell 1;have y2:=B2.res.cell 2;have y3:=B2.res.cell 3;have f0:=B2.res.frozen 0;have f1:=B2.res.frozen 1;have f2:=B2.res.frozen 2;have f3:=B2.res.frozen 3;have hfin:=Lib.hid (λs=>qh0 s B2.g);clear B2;go_wp2_with fail;refine Aj (by simp[results,results91,go_sem,y0,y1,y2,y3];rfl) rfl ?_;rw[Hr.out];exact hfin.out _
 . have hv':qat qa c=false:=by simpa using hv
   have Hv:=Lib.hid hv';have Hr:Hid (qax qa c wk fz=none):=qmi hv';clear hv hv';go_enter func91,ntmps91;go_upto_region 1 with fail;generalize ((w.alloc (.cells #[.slice A1 n1 c1,.slice A2 n2 c2,.slice A3 n3 c3,.slice A4 n4 c4] 29)).alloc (.cells #[.slice none 0 0,.slice none 0 0,.slice none 0 0,.slice none 0 0] 29))=W at B0 |-;have d0:=B0.b.d0;have d1:=B0.b.d1;have d2:=B0.b.d2;have d3:=B0.b.d3;go_wp2_with fail;refine(qbd _ _ qa c W (hp.new B0.g) B0.b.cv qD.out Hv.out).mono ?_;rintro e w1 ⟨rfl,hg1⟩;have B1:=B0.new hg1;clear B0 hg1 d0 d1 d2 d3;have y0:=B1.res.cell 0;have y1:=B1.res.cell 1;have y2:=B1.res.cell 2;have y3:=B1.res.cell 3;have f0:=B1.res.frozen 0;have f1:=B1.res.frozen 1;have f2:=B1.res.frozen 2;have f3:=B1.res.frozen 3;have hfin:=Lib.hid (λs=>qh0 s B1.g);clear B1;go_wp2_with fail;refine Aj (by simp[results,results91,go_sem,y0,y1,y2,y3];rfl) rfl ?_;rw[Hr.out];exact hfin.out _
theorem qng(pv v:Ap)(qa:List Node)(c:qh)(wk fz:Int)(a:Addr)(w:Am)(hE:qp w a)(hp:RN w pv qa)(h:CV w v c)(hfit:∀d∈c.qb,d.length<=1048576) :
   As prog 53 #[pv,v,.int .i64 wk,.int .i64 fz] w (qju w (qax qa c wk fz)):=by
 obtain⟨A,n,cp,rfl,-,hn,-⟩:=hp.form';obtain⟨A1,n1,c1,A2,n2,c2,A3,n3,c3,A4,n4,c4,rfl,h1,-,-,-⟩:=h.form;have B0:=j7.start h;have qD:=Lib.hid hfit;obtain⟨R,hR⟩:∃R,R=qax qa c wk fz:=⟨_,rfl⟩;rw[<-hR];have HR:=Lib.hid hR;clear hn h1 h hfit hR;go_enter func53,ntmps53;go_upto_region 1 with fail;generalize ((w.alloc (.cells #[.slice A1 n1 c1,.slice A2 n2 c2,.slice A3 n3 c3,.slice A4 n4 c4] 29)).alloc (.cells #[.slice none 0 0,.slice none 0 0,.slice none 0 0,.slice none 0 0] 29))=W at B0 |-;have d0:=B0.b.d0;have d1:=B0.b.d1;have d2:=B0.b.d2;have d3:=B0.b.d3;go_wp2_with fail;refine(qnf _ _ qa c wk fz W (hp.new B0.g) B0.b.cv qD.out).mono ?_;rw[<-HR.out];clear HR;cases R with
 |none=>
  rintro e w1 ⟨s,rfl,hg1⟩;have hgX:=AJ w1 (.cells #[.slice none 0 0,.slice none 0 0,.slice none 0 0,.slice none 0 0] 29) none;have B2:=(B0.new hg1).new hgX;clear B0 hg1 hgX d0 d1 d2 d3;go_upto_region 2 with fail;generalize w1.alloc (.cells #[.slice none 0 0,.slice none 0 0,.slice none 0 0,.slice none 0 0] 29)=w2 at B2 |-;have hE2:=hE.new B2.g;have e0:w2.cell? ⟨0,0,none⟩=some (.iface 244 (.pointer (some a))):=hE2;go_wp2_with fail;refine(qwr s a w2 hE2).mono ?_;rintro e w3 ⟨rfl,hg3⟩;have B3:=B2.new hg3;have y0:=B3.res.cell 0;have y1:=B3.res.cell 1;have y2:=B3.res.cell 2;have y3:=B3.res.cell 3;have f0:=B3.res.frozen 0;have f1:=B3.res.frozen 1;have f2:=B3.res.frozen 2;have f3:=B3.res.frozen 3;have hfin:=Lib.hid (qgo (r:=none) B3.g B3.res rfl (qI.zero w3 w.heap.size));clear B2 B3 hE2 e0 hg3;go_wp2_with fail;refine Aj (v:=.tuple #[.agg #[.slice none 0 0,.slice none 0 0,.slice none 0 0,.slice none 0 0],.bool false]) (by simp[results,results53,go_sem,y0,y1,y2,y3]) rfl ?_;exact hfin.out
 |some c'=>
  rintro e w1 ⟨v1,rfl,hF1,hg1⟩;obtain⟨C1,m1,e1,C2,m2,e2,C3,m3,e3,C4,m4,e4,rfl⟩:=hF1.form;have hgX:=AJ w1 (.cells #[.slice C1 m1 e1,.slice C2 m2 e2,.slice C3 m3 e3,.slice C4 m4 e4] 29) none;have hX:=Blk.new w1 29 #[.slice C1 m1 e1,.slice C2 m2 e2,.slice C3 m3 e3,.slice C4 m4 e4];have B2:=(B0.new hg1).new hgX;have hF2:=(hF1.new hgX).low B0.g.size;clear B0 hg1 hgX hF1 d0 d1 d2 d3;go_upto_region 2 with fail;generalize w1.alloc (.cells #[.slice C1 m1 e1,.slice C2 m2 e2,.slice C3 m3 e3,.slice C4 m4 e4] 29)=w2 at B2 hF2 hX |-;generalize w1.heap.size=X at hX |-;have e0:w2.cell? ⟨0,0,none⟩=some (.iface 244 (.pointer (some a))):=hE.new B2.g;go_wp2_with fail;refine(qwq a w2).mono ?_;rintro e w3 ⟨rfl,rfl⟩;have x0:=hX.cell 0;have x1:=hX.cell 1;have x2:=hX.cell 2;have x3:=hX.cell 3;have y0:=B2.res.cell 0;have y1:=B2.res.cell 1;have y2:=B2.res.cell 2;have y3:=B2.res.cell 3;have f0:=B2.res.frozen 0;have f1:=B2.res.frozen 1;have f2:=B2.res.frozen 2;have f3:=B2.res.frozen 3;have hfin:=Lib.hid (qgo (r:=some c') B2.g B2.res rfl hF2);clear B2 e0 hF2 hX;go_wp2_with fail;refine Aj (v:=.tuple #[.agg #[.slice C1 m1 e1,.slice C2 m2 e2,.slice C3 m3 e3,.slice C4 m4 e4],.bool true]) (by simp[results,results53,go_sem,y0,y1,y2,y3]) rfl ?_;exact hfin.out
theorem qow(pv v:Ap)(qa:List Node)(c:qh)(wk:Int)(w:Am)(hp:RN w pv qa)(h:CV w v c)(hfit:∀d∈c.qb,d.length<=1048576) :
   As prog 51 #[pv,v,.int .i64 wk] w λe w'=>e=.returned (.int .i64 (qbt qa c wk))/\w.grownBy w' none:=by
 obtain⟨A,n,cp,rfl,-,hn,-⟩:=hp.form';obtain⟨A1,n1,c1,A2,n2,c2,A3,n3,c3,A4,n4,c4,rfl,h1,-,-,-⟩:=h.form;have hX:=h.box;have hgW:=AJ w (.cells #[.slice A1 n1 c1,.slice A2 n2 c2,.slice A3 n3 c3,.slice A4 n4 c4] 29) none;have hn1:=h1.len;have Hn1:=Lib.hid hn1;have qD:=Lib.hid hfit;have hpW:=hp.new hgW;clear hn hn1 h1 h hfit;by_cases hv:qat qa c=true
 . have Hv:=Lib.hid hv;have hn4:n1<=4:=by have:=(qbb.1 hv).d4;have:=Hn1.out;omega
   by_cases hin:qba c wk=true
   . have Hin:=Lib.hid hin;have vr:=qbg.1 hin;obtain⟨k,rfl⟩:=AM vr.1;have hk:k<n1:=by have:=Hn1.out;omega
     clear hv hin vr;go_enter func51,ntmps51;go_upto_region 1 with fail;generalize w.alloc (.cells #[.slice A1 n1 c1,.slice A2 n2 c2,.slice A3 n3 c3,.slice A4 n4 c4] 29)=W at hX hgW hpW |-;have d0:=hX.d0;have d1:=hX.d1;have d2:=hX.d2;have d3:=hX.d3;go_wp2_with fail;refine(qbd _ _ qa c _ hpW hX.cv qD.out Hv.out).mono ?_;rintro e w1 ⟨rfl,hg1⟩;have hX1:=hX.new hg1;have g1:=qac hgW hg1;clear hX hgW hpW hg1 d0 d1 d2 d3;have d0:=hX1.d0;have d1:=hX1.d1;have d2:=hX1.d2;have d3:=hX1.d3;go_wp2_with fail;refine(qb7 _ c _ w1 hX1.cv Hin.out).mono ?_;rintro e w2 ⟨rfl,hg2⟩;have hX2:=hX1.new hg2;have g2:=qac g1 hg2;clear hX1 g1 hg2 d0 d1 d2 d3;have d0:=hX2.d0;go_wp2_with fail
     go_loopg [22] (n1+1) (λmm i wr=>∃q:Nat,q<=n1/\mm=n1+1-q/\i=.int .i64 q/\Hid (qtv c k q)/\wr=w2)
     case atStart=>exact⟨0,Bs _,rfl,rfl,λs hs=>absurd hs (Bv _),rfl⟩
     case round=>
      obtain⟨q,hq,rfl,rfl,Hq,rfl⟩:=hrel;by_cases hlt:q<n1
      . obtain⟨t,ht⟩:∃t,t=(k+q)%n1:=⟨_,rfl⟩;have htn:t<n1:=by rw[ht];exact Nat.mod_lt _ (by omega)
        have hmod:((k:Int)+(q:Int)).tmod (n1:Int)=(t:Int):=by rw[ht];rfl
        have hn0:¬((n1:Int)=0):=by omega
        obtain⟨g,o,d,B,m,e,rfl,hd,q0,hrd,hm,-,-⟩:=hX2.dq.at_ htn;have hti:(t:Int)<(n1:Int):=by omega
        have hget:c.qb.getD ((k+q)%c.qb.length) []=d:=by
         rw[<-Hn1.out,<-ht,AU,hd];rfl
        by_cases hm0:m=0
        . have hd0:d=[]:=AW (by omega);have Hs:Hid (qtv c k (q+1)):=qrm Hq.out (hget.trans hd0);subst hm0;clear hd hget hd0 hm ht;go_wp2;go_roundg (n1+1-(q+1))
          case measure=>omega
          case rel=>exact⟨q+1,by omega,rfl,by go_num,Hs,rfl⟩
        . have Hr:Hid (qbt qa c (k:Int)=(t:Int)):=by
           show _=_;rw[qkh Hv.out (by rw[<-Hn1.out];exact hk) (by rw[<-Hn1.out];exact hlt) Hq.out (by rw[hget];intro e;rw[e]at hm;exact hm0 hm),ht,<-Hn1.out]
          have hgt:¬((m:Int)=0):=by omega
          clear hd hget hm ht;go_wp2;go_ret;exact⟨by rw[Hr.out];rfl,g2⟩
      . obtain rfl:n1=q:=by omega
        have Hr:Hid (qbt qa c (k:Int)=-1):=qmk (by have:=Hq.out;rw[Hn1.out]at this;exact this);go_wp2;go_ret;exact⟨by rw[Hr.out];rfl,g2⟩
   . have ze:qba c wk=false:=by simpa using hin
     have Hin:=Lib.hid ze;have Hr:Hid (qbt qa c wk=-1):=qon ze;clear hv hin ze;go_enter func51,ntmps51;go_upto_region 1 with fail;generalize w.alloc (.cells #[.slice A1 n1 c1,.slice A2 n2 c2,.slice A3 n3 c3,.slice A4 n4 c4] 29)=W at hX hgW hpW |-;have d0:=hX.d0;have d1:=hX.d1;have d2:=hX.d2;have d3:=hX.d3;go_wp2_with fail;refine(qbd _ _ qa c _ hpW hX.cv qD.out Hv.out).mono ?_;rintro e w1 ⟨rfl,hg1⟩;have hX1:=hX.new hg1;have g1:=qac hgW hg1;clear hX hgW hpW hg1 d0 d1 d2 d3;have d0:=hX1.d0;have d1:=hX1.d1;have d2:=hX1.d2;have d3:=hX1.d3;go_wp2_with fail;refine(qb7 _ c _ w1 hX1.cv Hin.out).mono ?_;rintro e w2 ⟨rfl,hg2⟩;go_wp2;go_ret;exact⟨by rw[Hr.out];rfl,qac g1 hg2⟩
 . have hv':qat qa c=false:=by simpa using hv
   have Hv:=Lib.hid hv';have Hr:Hid (qbt qa c wk=-1):=qom hv';clear hv hv';go_enter func51,ntmps51;go_upto_region 1 with fail;generalize w.alloc (.cells #[.slice A1 n1 c1,.slice A2 n2 c2,.slice A3 n3 c3,.slice A4 n4 c4] 29)=W at hX hgW hpW |-;have d0:=hX.d0;have d1:=hX.d1;have d2:=hX.d2;have d3:=hX.d3;go_wp2_with fail;refine(qbd _ _ qa c _ hpW hX.cv qD.out Hv.out).mono ?_;rintro e w1 ⟨rfl,hg1⟩;go_wp2;go_ret;exact⟨by rw[Hr.out];rfl,qac hgW hg1⟩
theorem qij(pv v:Ap)(qa:List Node)(c:qh)(wk:Int)(a:Addr)(w:Am)(hE:qp w a)(hp:RN w pv qa)(h:CV w v c)(hfit:∀d∈c.qb,d.length<=1048576) :
   As prog 17 #[pv,v,.int .i64 wk] w (qju w (qa0 qa c wk)):=by
 obtain⟨A,n,cp,rfl,-,hn,-⟩:=hp.form';obtain⟨A1,n1,c1,A2,n2,c2,A3,n3,c3,A4,n4,c4,rfl,-,-,-,-⟩:=h.form;have B0:=j7.start h;have qD:=Lib.hid hfit;clear hn h hfit;go_enter func17,ntmps17;go_upto_region 1 with fail;generalize ((w.alloc (.cells #[.slice A1 n1 c1,.slice A2 n2 c2,.slice A3 n3 c3,.slice A4 n4 c4] 29)).alloc (.cells #[.slice none 0 0,.slice none 0 0,.slice none 0 0,.slice none 0 0] 29))=W at B0 |-;have d0:=B0.b.d0;have d1:=B0.b.d1;have d2:=B0.b.d2;have d3:=B0.b.d3;go_wp2_with fail;refine(qow _ _ qa c wk W (hp.new B0.g) B0.b.cv qD.out).mono ?_;rintro e w1 ⟨rfl,hg1⟩;have B1:=B0.new hg1;clear B0 hg1 d0 d1 d2 d3;obtain⟨f,hf⟩:∃f,f=qbt qa c wk:=⟨_,rfl⟩;rw[<-hf];have Hf:=Lib.hid hf;clear hf;by_cases h1:f=-1
 . have Hr:Hid (qa0 qa c wk=none):=by show _=_;unfold qa0;rw[<-Hf.out,if_pos h1]
   have hb:(f == -1)=true:=by simpa using h1
   have y0:=B1.res.cell 0;have y1:=B1.res.cell 1;have y2:=B1.res.cell 2;have y3:=B1.res.cell 3;have f0:=B1.res.frozen 0;have f1:=B1.res.frozen 1;have f2:=B1.res.frozen 2;have f3:=B1.res.frozen 3;have hfin:=Lib.hid (qgo (r:=none) B1.g B1.res rfl (qI.zero w1 w.heap.size));clear B1 h1;go_wp2_with fail;refine Aj (v:=.tuple #[.agg #[.slice none 0 0,.slice none 0 0,.slice none 0 0,.slice none 0 0],.bool false]) (by simp[results,results17,go_sem,y0,y1,y2,y3]) rfl ?_;rw[Hr.out];exact hfin.out
 . have hb1:(f == -1)=false:=by simpa using h1
   have d0:=B1.b.d0;have d1:=B1.b.d1;have d2:=B1.b.d2;have d3:=B1.b.d3;by_cases h2:f=wk
   . have hb:(f==wk)=true:=by simpa using h2
     have Hr:Hid (qa0 qa c wk=qch qa c wk):=by show _=_;unfold qa0;rw[<-Hf.out,if_neg h1,if_pos h2]
     clear h1 h2;go_wp2_with fail;refine(qqp _ _ qa c wk a w1 (hE.new B1.g) (hp.new B1.g) B1.b.cv qD.out).mono ?_;rintro e w2 ⟨v2,rfl,zP,hg2⟩;have B2:=B1.new hg2;obtain⟨B1',m1',e1',B2',m2',e2',B3',m3',e3',B4',m4',e4',rfl⟩:=zP.form;generalize hb2:(qch qa c wk).isSome=b2;have hfin:=Lib.hid (qgo B2.g B2.res hb2.symm (zP.low B1.g.size));have y0:=B2.res.cell 0;have y1:=B2.res.cell 1;have y2:=B2.res.cell 2;have y3:=B2.res.cell 3;have f0:=B2.res.frozen 0;have f1:=B2.res.frozen 1;have f2:=B2.res.frozen 2;have f3:=B2.res.frozen 3;clear d0 d1 d2 d3 B1 B2 hg2 zP hb2;go_wp2_with fail;refine Aj (v:=.tuple #[.agg #[.slice B1' m1' e1',.slice B2' m2' e2',.slice B3' m3' e3',.slice B4' m4' e4'],.bool b2]) (by simp[results,results17,go_sem,y0,y1,y2,y3]) rfl ?_;rw[Hr.out];exact hfin.out
   . have hb:(f==wk)=false:=by simpa using h2
     have Hr:Hid (qa0 qa c wk=qax qa c wk f):=by show _=_;unfold qa0;rw[<-Hf.out,if_neg h1,if_neg h2]
     clear h1 h2;go_wp2_with fail;refine(qng _ _ qa c wk f a w1 (hE.new B1.g) (hp.new B1.g) B1.b.cv qD.out).mono ?_;rintro e w2 ⟨v2,rfl,zP,hg2⟩;have B2:=B1.new hg2;obtain⟨B1',m1',e1',B2',m2',e2',B3',m3',e3',B4',m4',e4',rfl⟩:=zP.form;generalize hb2:(qax qa c wk f).isSome=b2;have hfin:=Lib.hid (qgo B2.g B2.res hb2.symm (zP.low B1.g.size));have y0:=B2.res.cell 0;have y1:=B2.res.cell 1;have y2:=B2.res.cell 2;have y3:=B2.res.cell 3;have f0:=B2.res.frozen 0;have f1:=B2.res.frozen 1;have f2:=B2.res.frozen 2;have f3:=B2.res.frozen 3;clear d0 d1 d2 d3 B1 B2 hg2 zP hb2;go_wp2_with fail;refine Aj (v:=.tuple #[.agg #[.slice B1' m1' e1',.slice B2' m2' e2',.slice B3' m3' e3',.slice B4' m4' e4'],.bool b2]) (by simp[results,results17,go_sem,y0,y1,y2,y3]) rfl ?_;rw[Hr.out];exact hfin.out
def qcf(l:List Int):Bool:=decide (l.length<=20)&&l.all (λx=>decide (0<=x))
theorem qj5(h:20<l.length):qcf l=false:=by
 unfold qcf;rw[decide_eq_false (by omega)];rfl
theorem ql0(hx:l[k]?=some x)(h:x<0):qcf l=false:=by
 unfold qcf;rw[Ab];right;rw[all_eq_false];exact⟨x,AT hx,by simpa using h⟩
theorem ql1(h:l.length<=20)(k:(l.take l.length).all (λx=>decide (0<=x))=true):qcf l=true:=by
 unfold qcf;rw[take_length]at k;rw[decide_eq_true h,k];rfl
theorem ql2(hx:l[k]?=some x)(h:¬x<0)(ha:(l.take k).all (λx=>decide (0<=x))=true):(l.take (k+1)).all (λx=>decide (0<=x))=true:=by
 obtain⟨hk,rfl⟩:=AR.1 hx;rw[AV hk,all_append,ha];simpa using h
theorem qsn(v:Ap)(l:List Int)(w:Am)(h:RI w v l):As prog 42 #[v] w λe w'=>e=.returned (.bool (qcf l))/\w'=w:=by
 obtain⟨A,n,c,rfl,-,hn⟩:=h.form';have Hn:=Lib.hid hn;by_cases hl:20<n
 . have Hc:=Lib.hid (qj5 (l:=l) (by omega));clear hn;go_enter func42,ntmps42;go_wp2;go_ret;exact⟨by rw[Hc.out];rfl,rfl⟩
 . have Hl:=Lib.hid (show l.length<=20 by omega);clear hn;go_enter func42,ntmps42;go_wp2_with fail;have Hw:=Lib.hid (show w=w from rfl)
   go_loopg [10] (n+1) (λmm i wr=>∃k:Nat,k<=n/\mm=n+1-k/\i=.int .i64 k/\wr=w/\Hid ((l.take k).all (λx=>decide (0<=x))=true))
   case atStart=>exact⟨0,Bs _,rfl,rfl,rfl,Lib.hid (by simp)⟩
   case round=>
    obtain⟨k,hk,rfl,rfl,rfl,Ha⟩:=hrel;by_cases hlt:k<n
    . obtain⟨g,o,x,rfl,hx,x0⟩:=h.at_ hlt;have Hx:=Lib.hid hx;clear hx;by_cases hneg:x<0
      . have Hc:=Lib.hid (ql0 Hx.out hneg);go_wp2;go_ret;exact⟨by rw[Hc.out];rfl,rfl⟩
      . have Ha2:=Lib.hid (ql2 Hx.out hneg Ha.out);go_wp2;go_roundg (n+1-(k+1))
        case measure=>omega
        case rel=>exact⟨k+1,by omega,rfl,by go_num,rfl,Ha2⟩
    . obtain rfl:n=k:=by omega
      have Hc:=Lib.hid (ql1 Hl.out (by rw[<-Hn.out];exact Ha.out));go_wp2;go_ret;exact⟨by rw[Hc.out];rfl,rfl⟩
end
end Go.Proofs.YtacemdoejblgaaaGreatDoor

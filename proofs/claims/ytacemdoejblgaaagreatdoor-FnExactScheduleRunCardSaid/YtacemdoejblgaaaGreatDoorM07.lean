/- Part M07. Conditions: each statement's. -/
import Derived.Test.YtacemdoejblgaaaGreatDoorM06
import Derived.Deep.Upon
import Derived.Deep.AppendLies
import Derived.Deep.RegionLaw
import Derived.BigRegion
import Derived.RegionTactic
import Derived.Orders
namespace Go.Proofs.YtacemdoejblgaaaGreatDoor
open _root_.Array renaming getD_eq_getD_getElem?→Ab,getElem?_eq_getElem→Ah,all_eq_true_iff_forall_mem→Ai,ofFn→Aj,getElem_ofFn→Am,getElem?_setIfInBounds→Ap,length_toList→As
open Bool renaming and_eq_true→At,eq_false_or_eq_true→Ax,eq_iff_iff→Ay,or_eq_true→Az,true_and→AA,not_eq_true'→AB,and_eq_false_iff→AD,not_false→AE,or_true→AF
open Classical renaming byContradiction→AG
open Go renaming World→AH,Value→AI,Calls→AJ,info_parts→AK,wp_append_own→AL,run_append_owned_none→AM,Operand→AN
open Tryz renaming prog→AO,underlying24→AP,ntmps121→AQ,ntmps46→AR,func121→AS,func46→AT,underlying27→AU
open Region renaming wanted→AV,ready→AW
open Int renaming toNat_natCast→AX,eq_ofNat_of_zero_le→AY
open List renaming getElem?_eq_some_iff→AZ,all_eq_true→B9,mem_of_getElem?→Ba,getElem?_append_right→Bb,getElem?_append_left→Bc,take_of_length_le→Be,eq_nil_of_length_eq_zero→Bf,mem_range→Bg,getD_eq_getElem?_getD→Bh,length_map→Bi,take_succ_eq_append_getElem→Bj,getElem?_map→Bm,all_eq_false→Bn,getElem?_eq_getElem→Bo,range_succ→Bp,mem_filter→Bq,getElem?_eq_none→Br,countP_le_length→Bs,countP_eq_length→Bt,getElem?_range→Bu,foldl_append→Bv,take_length→By,not_mem_nil→Bz
open Nat renaming le_refl→BA,zero_le→BB,le_trans→BC,mul_one→BE,eq_zero_or_pos→BF,sub_self→BG
open Option renaming getD_some→BH,map_some→BI
open List World Value
set_option maxRecDepth 100000
set_option maxHeartbeats 6400000
variable {a:Act}{ops:Array Oper}{b:Bool}{x:Int}{ll:List (List Int)}{D l:List Int}{qa:List Node}{g i j k m n t u:Nat}{o:Oper}{f v xv:AI}{w w':AH}
section
open Go.RowKit
def QI(w:AH)(base:Nat)(v:AI)(l:List Int):Prop:=QS w base 3 v (l.map (.int .i64))
section
variable {w w':AH}{base:Nat}{v:AI}{l:List Int}{row:Option Nat}
theorem QI.ri(h:QI w base v l):RI w v l:=QS.ri h
theorem qf.qi(h:qf w base v l):QI w base v l:=h.qs
theorem QI.grown(h:QI w base v l)(hg:w.grownBy w' row)(hr:qg w 3 row):QI w' base v l:=QS.grown h hg hr
theorem QI.new(h:QI w base v l)(hg:w.grownBy w' none):QI w' base v l:=QS.new h hg
theorem QI.lt(h:QI w base v l):∀g,v.ownBlock=some g->base<=g/\g<w.heap.size:=QS.lt h
theorem QI.slice(h:QI w base v l):∃A n c,v=.slice A n c/\n=l.length/\n<=c:=by
 obtain⟨A,n,c,h1,h2,h3⟩:=h.ri.form';exact⟨A,n,c,h1,h3,h2⟩
theorem QI.low{b:Nat}(h:QI w base v l)(hab:b<=base):QI w b v l:=by
 obtain⟨A,c,h1,h2,h3,h6,h5⟩:=h;refine⟨A,c,h1,h2,h3,h6,?_⟩;rcases h5 with h5|⟨g,o,cur,k1,k2,k3⟩
 . exact .inl h5
 . exact .inr ⟨g,o,cur,k1,BC hab k2,k3⟩
end
theorem qgr(l:List Int):∀u∈l.map (int .i64),u.oneCell'=true:=λu hu=>by
 obtain⟨x,_,rfl⟩:=mem_map.1 hu;rfl
theorem qet{rest:List Oper}{Q:Exit->Act->AH->Prop}{u:Int}
   (s x:AN) (hgd:o.guard=none) (ho:o.op=.call {callee:=.builtin .append,args:=#[s,x],argTypes:=#[24,24]})
   {base:Nat}   (hown:qf w base v l) (hn:l.length<=1000000000) (hbase:base<=w.heap.size)
   (hs:a.eval s=v) {N:Nat} (hx:a.eval x=.slice (some ⟨N,0,none⟩) 1 1) (hN:N=w.heap.size)
   (h:∀v' w',qf w' base v' (l++[u])->w.grownBy w' v.ownBlock->wpList AO ops Q rest (a.put o.dst v') w') :
   wpList AO ops Q (o::rest) a (w.alloc (.cells #[.int .i64 u] 3)):=by
 subst hN;exact qcm s x hgd ho hown hn hbase hs hx h
theorem qsy(v:AI)(qa:List Node)(w:AH)(h:RN w v qa) :
   AJ AO 122 #[v] w λe w'=>e=.returned (.int .i64 (wide qa:Nat))/\w=w':=by
 obtain⟨A,n,c,rfl,_,hn,hle⟩:=h.form';have Hn:=Lib.hid hn;clear hn;go_enter Tryz.func122,Tryz.ntmps122
 go_wp2
 go_loop [3] (λi=>∃k:Nat,k<=n/\i=.int .i64 k/\(qa.take k).all (λx=>x.kind != 0)=true) (λi=>n-(intOf i).toNat)
 case atStart=>exact⟨0,BB _,rfl,rfl⟩
 case round=>
  obtain⟨k,hk,rfl,hall⟩:=hrel;have qB:=Lib.hid hall;clear hall;by_cases hlt:k<n
  . obtain⟨g,o,nd,f,r,rfl,hx,c0,c1,c2,hf,hr⟩:=h.at_ hlt;have Hx:=Lib.hid hx;clear hx;by_cases hk0:nd.kind=0
    . have Hr:Hid (wide qa=nd.row.length):=by
       show wide qa=nd.row.length
       have:qa.find? (λx=>x.kind==0)=some nd:=by
        rw[find?_eq_some_iff_getElem];obtain⟨hk',hx'⟩:=AZ.1 Hx.out;refine⟨by simp[hk0],k,hk',hx',λj hj=>?_⟩;have:=B9.1 qB.out qa[j] (mem_take_iff_getElem.2 ⟨j,by omega,rfl⟩);simpa using this
       unfold wide;rw[this]
      obtain⟨Ar,nr,cr,rfl,_,hnr⟩:=hr.form';rw[<-hnr]at Hr;clear hnr;rw[hk0]at c0;clear hk0;go_wp2;go_ret;exact⟨by rw[Hr.out];rfl,rfl⟩
    . have hb:(nd.kind==0)=false:=by simpa using hk0
      have Hb:Hid (nd.kind != 0):=by show (nd.kind != 0)=true;simpa using hk0
      clear hk0;go_wp2;go_round
      case rel=>exact⟨k+1,by omega,by go_num,by rw[qft _ Hx.out,qB.out];exact Hb.out⟩
      case measure=>simp[intOf];omega
  . have Hr:Hid (wide qa=0):=by
     show wide qa=0
     have:qa.find? (λx=>x.kind==0)=none:=by
      rw[find?_eq_none];intro x hx;have h1:=qB.out;rw[show k=n by omega,Hn.out,By]at h1;simpa using B9.1 h1 x hx
     unfold wide;rw[this]
    go_wp2;go_ret;exact⟨by rw[Hr.out];rfl,rfl⟩
theorem q1v(v:AI)(nd:Node)(at_:Int)(wd:Nat)(w:AH)(h:NV w v nd)(ha0:0<=at_)(ha1:at_<=1000000000) :
   AJ AO 121 #[v,.int .i64 at_,.int .i64 wd] w λe w'=>e=.returned (.bool (qcr nd at_ wd))/\w.grownBy w' none:=by
 obtain⟨f,r,rfl,hf,hr⟩:=h;have hfl:=hf.le;have hrl:=hr.le;obtain⟨Af,nf,cf,rfl,_,hnf⟩:=hf.form';obtain⟨Ar,nr,cr,rfl,_,hnr⟩:=hr.form';rw[<-hnf]at hfl;rw[<-hnr]at hrl;have Hnf:=Lib.hid hnf;have Hnr:=Lib.hid hnr;clear hnf hnr;have hrW:=hr.alloc (.cells #[.int .i64 nd.kind,.slice Af nf cf,.slice Ar nr cr] 81);have hfW:=hf.alloc (.cells #[.int .i64 nd.kind,.slice Af nf cf,.slice Ar nr cr] 81);have hG:Hid (w.grownBy (w.alloc (.cells #[.int .i64 nd.kind,.slice Af nf cf,.slice Ar nr cr] 81)) none):=grownBy_alloc _ _ _;clear hf hr;by_cases hk:qas nd.kind=nf
 . have hb:(qas nd.kind != (nf:Int))=false:=by simpa using hk
   clear hk;by_cases hv:qak nd.row=true
   . have Hv:=Lib.hid hv;clear hv;go_enter AS,AQ;go_wp2_with fail
     go_quiet ((first
      |(go_at_call 149;exact qcn (qby _ _))
      |(go_at_call 157;exact qcn (qbj _ _ _ (by exact hrW) Hv.out))))
     go_wp2_with fail
     go_loop [7] (λi=>∃k:Nat,k<=nf/\i=.int .i64 k/\(nd.frm.take k).all (λy=>decide (0<=y)&&decide (y<=at_-1))=true) (λi=>nf-(intOf i).toNat)
     case atStart=>exact⟨0,BB _,rfl,rfl⟩
     case round=>
      obtain⟨k,hk,rfl,hall⟩:=hrel;have qB:=Lib.hid hall;clear hall;by_cases hlt:k<nf
      . obtain⟨g,o,x,rfl,hx,hcell⟩:=hfW.at_ hlt;have Hx:=Lib.hid hx;clear hx;by_cases hin:(decide (0<=x)&&decide (x<=at_-1))=true
        . have Hin:=Lib.hid hin;go_wp2_with fail;refine(qla _ _ _ _).mono ?_;rw[hin];clear hin;rintro e w' ⟨rfl,rfl⟩;go_wp2;go_round
          case rel=>exact⟨k+1,by omega,by go_num,by rw[qft _ Hx.out,qB.out,Hin.out];rfl⟩
          case measure=>simp[intOf];omega
        . have zg:(decide (0<=x)&&decide (x<=at_-1))=false:=by simpa using hin
          have Hr:Hid (qcr nd at_ wd=false):=by
           show qcr nd at_ wd=false
           have:nd.frm.all (λy=>decide (0<=y)&&decide (y<=at_-1))=false:=by
            rw[Bn];exact⟨x,Ba Hx.out,by simpa using hin⟩
           unfold qcr;rw[this];simp
          clear hin;go_wp2_with fail;refine(qla _ _ _ _).mono ?_;rw[zg];clear zg;rintro e w' ⟨rfl,rfl⟩;go_wp2;go_ret;exact⟨by rw[Hr.out];rfl,qb8 hG.out _⟩
      . have Hr:Hid (qcr nd at_ wd=if nd.kind=0 then decide (nr=wd) else decide (nr=0)):=by
         show qcr nd at_ wd=if nd.kind=0 then decide (nr=wd)else decide (nr=0);have h1:=qB.out;rw[show k=nf by omega,Hnf.out,By]at h1;have h2:qas nd.kind=(nd.frm.length:Int):=by rw[<-Hnf.out];simpa using hb
         unfold qcr;rw[h1,h2,Hv.out,Hnr.out];simp
        by_cases hk0:nd.kind=0
        . have Hr':Hid (qcr nd at_ wd=((nr:Int) == (wd:Int))):=by
           show qcr nd at_ wd=((nr:Int)==(wd:Int));rw[Hr.out,if_pos hk0,Ay];simp;omega
          have hb0:(nd.kind==0)=true:=by simpa using hk0
          clear hk0 Hr;go_wp2;go_ret;exact⟨by rw[Hr'.out];rfl,qb8 hG.out _⟩
        . have Hr':Hid (qcr nd at_ wd=((nr:Int) == 0)):=by
           show qcr nd at_ wd=((nr:Int)==0);rw[Hr.out,if_neg hk0,Ay];simp
          have hb0:(nd.kind==0)=false:=by simpa using hk0
          clear hk0 Hr;go_wp2;go_ret;exact⟨by rw[Hr'.out];rfl,qb8 hG.out _⟩
   . have hv':qak nd.row=false:=by simpa using hv
     have Hr:Hid (qcr nd at_ wd=false):=by
      show qcr nd at_ wd=false;unfold qcr;rw[hv'];simp
     have Hv:=Lib.hid hv';clear hv hv';go_enter AS,AQ;go_wp2_with fail
     go_quiet ((first
      |(go_at_call 149;exact qcn (qby _ _))
      |(go_at_call 157;exact qcn (qbj _ _ _ (by exact hrW) Hv.out))))
     go_wp2;go_ret;exact⟨by rw[Hr.out];rfl,qb8 hG.out _⟩
 . have hb:(qas nd.kind != (nf:Int))=true:=by simpa using hk
   have Hr:Hid (qcr nd at_ wd=false):=by
    show qcr nd at_ wd=false;unfold qcr;rw[show decide (qas nd.kind=(nd.frm.length:Int))=false by rw[<-Hnf.out];simpa using hk];simp
   clear hk;go_enter AS,AQ;go_wp2_with fail
   go_quiet ((first
    |(go_at_call 149;exact qcn (qby _ _))
    |(go_at_call 157;exact qcn (qh9 _ _ _ (by exact hrW)))))
   go_wp2;go_ret;exact⟨by rw[Hr.out];rfl,qb8 hG.out _⟩
theorem q0h(v:AI)(nd:Node)(at_:Int)(wd:Nat)(w:AH)(h:NV w v nd)(ha0:0<=at_)(ha1:at_<=1000000000)(hb:qcr nd at_ wd=b) :
   AJ AO 121 #[v,.int .i64 at_,.int .i64 wd] w λe w'=>e=.returned (.bool b)/\w.grownBy w' none:=hb▸q1v v nd at_ wd w h ha0 ha1
theorem qml(v:AI)(qa:List Node)(w:AH)(h:RN w v qa)(hl:qa.length<=1000000000) :
   AJ AO 73 #[v] w λe w'=>e=.returned (.bool (qae qa))/\w.grownBy w' none:=by
 obtain⟨A,n,c,rfl,_,hn,_⟩:=h.form';rw[<-hn]at hl;have Hn:=Lib.hid hn;clear hn;go_enter Tryz.func73,Tryz.ntmps73;go_wp2_with fail
 go_loopw [3] (λi wr=>∃k:Nat,k<=n/\i=.int .i64 k/\(qa.zipIdx.take k).all (λx=>qcr x.1 x.2 (wide qa))=true/\w.grownBy wr none) (λi _=>n-(intOf i).toNat)
 case atStart=>exact⟨0,BB _,rfl,rfl,qag _ _⟩
 case round=>
  obtain⟨k,hk,rfl,hall,hg⟩:=hrel;have qB:=Lib.hid hall;clear hall;have hwr:=h.new hg;by_cases hlt:k<n
  . obtain⟨g,o,nd,f,r,rfl,hx,c0,c1,c2,hf,hr⟩:=hwr.at_ hlt;have Hx:=Lib.hid hx;clear hx;have hnv:NV wr (.agg #[.int .i64 nd.kind,f,r]) nd:=⟨f,r,rfl,hf,hr⟩;by_cases hno:qcr nd k (wide qa)=true
    . have Hno:=Lib.hid hno;clear hno;go_wp2_with fail
      go_region_held3 (λw'=>w'.cell? ⟨g,o+k*3,none⟩=some (.int .i64 nd.kind)/\w'.cell? ⟨g,o+k*3+1,none⟩=some f/\w'.cell? ⟨g,o+k*3+2,none⟩=some r) (go_keep)
       (first
        |(go_at_call 122;refine(qsy _ qa _ (by exact hwr)).mono ?_;rintro e w' ⟨rfl,rfl⟩)
        |(go_at_call 121;refine(q0h _ nd k (wide qa) _ (by exact hnv) (by omega) (by omega) Hno.out).mono ?_;rintro e w' ⟨rfl,hg'⟩;have k0:=hg'.cell (by exact c0) (by simp);have k1:=hg'.cell (by exact c1) (by simp);have k2:=hg'.cell (by exact c2) (by simp)))
      go_wp2;go_roundw
      case rel=>exact⟨k+1,by omega,by go_num,by rw[qft _ (qmj Hx.out),qB.out];exact Hno.out,qac (qax hg) (by assumption)⟩
      case measure=>simp[intOf];omega
    . have hno':qcr nd k (wide qa)=false:=by simpa using hno
      have Hno:=Lib.hid hno'
      have Hr:Hid (qae qa=false):=by
       show qae qa=false
       have:qa.zipIdx.all (λx=>qcr x.1 x.2 (wide qa))=false:=by
        rw[Bn];exact⟨(nd,k),Ba (qmj Hx.out),hno⟩
       unfold qae;rw[this];simp
      clear hno hno';go_wp2_with fail
      go_region_held3 (λw'=>w'.cell? ⟨g,o+k*3,none⟩=some (.int .i64 nd.kind)/\w'.cell? ⟨g,o+k*3+1,none⟩=some f/\w'.cell? ⟨g,o+k*3+2,none⟩=some r) (go_keep)
       (first
        |(go_at_call 122;refine(qsy _ qa _ (by exact hwr)).mono ?_;rintro e w' ⟨rfl,rfl⟩)
        |(go_at_call 121;refine(q0h _ nd k (wide qa) _ (by exact hnv) (by omega) (by omega) Hno.out).mono ?_;rintro e w' ⟨rfl,hg'⟩;have k0:=hg'.cell (by exact c0) (by simp);have k1:=hg'.cell (by exact c1) (by simp);have k2:=hg'.cell (by exact c2) (by simp)))
      go_wp2;go_ret;exact⟨by rw[Hr.out];rfl,qac (qax hg) (by assumption)⟩
  . have Hr:Hid (qae qa=decide ((n:Int)<=10)):=by
     show qae qa=decide ((n:Int)<=10);have h1:=qB.out;rw[Be (by rw[length_zipIdx,<-Hn.out];omega)]at h1;unfold qae;rw[h1,AA,<-Hn.out];exact decide_eq_decide.2 (by omega)
    go_wp2;go_ret;exact⟨by rw[Hr.out];rfl,hg⟩
theorem qbh(v:AI)(qa:List Node)(w:AH)(h:RN w v qa)(hl:qa.length<=1000000000)(hb:qae qa=b) :
   AJ AO 73 #[v] w λe w'=>e=.returned (.bool b)/\w.grownBy w' none:=hb▸qml v qa w h hl
def qkD(qa:List Node)(k:Nat):Int:=((qa.take k).map (λx=>(x.frm.length:Int))).sum
theorem qrk(h:D[k]?=some x)(hs:qex qa (D.take k) x=false):qbp qa D=false:=by
 obtain⟨hk,rfl⟩:=AZ.1 h;rcases Ax (qbp qa D)with e|e
 . rw[qg8 e hk]at hs;cases hs
 . exact e
theorem q22(h:D[k]?=some x)(ho:qc8 qa D k=true)(hs:qex qa (D.take k) x=true):qc8 qa D (k+1)=true:=by
 rw[qeq,ho,Bh,h];exact hs
theorem q23(l:List Int)(x:Int):dedup (l++[x])=if x.toNat∈dedup l then dedup l else dedup l++[x.toNat]:=by
 unfold dedup;rw[Bv];rfl
theorem qux(hl:∀y∈l,0<=y)(hx:0<=x):x.toNat∈dedup l↔x∈l:=by
 rw[qk7];constructor
 . rintro⟨f,hf,e⟩;have:=hl f hf;obtain rfl:f=x:=by omega
   exact hf
 . exact λh=>⟨x,h,rfl⟩
theorem qxf(qa:List Node):qa5 qa=(range qa.length).map λi=>((dedup (qfj qa i)).length:Int):=by
 unfold qa5;simp only[qgb]
theorem qjr(v v':AI)(qa:List Node)(order:List Int)(w:AH)(h:RN w v qa)(h':RI w v' order)(hl:qa.length<=1000000000)(hb:qbp qa order=b) :
   AJ AO 158 #[v,v'] w λe w'=>e=.returned (.bool b)/\w.grownBy w' none:=by
 obtain⟨A,n,c,rfl,hnc,hn,-⟩:=h.form';obtain⟨B,m,c',rfl,hmc,hm⟩:=h'.form';have hle:=h'.le;rw[<-hm]at hle;have hn9:n<=1000000000:=by omega
 have Hn:=Lib.hid hn;have Hm:=Lib.hid hm;have Hb:=Lib.hid hb;clear hn hm hb hl;go_enter Tryz.func158,Tryz.ntmps158;go_wp2_with fail
 go_loopg [5] (m+1) (λmm i wr=>∃k:Nat,k<=m/\mm=m+1-k/\i=.int .i64 k/\Hid (qc8 qa order k=true)/\w.grownBy wr none)
 case atStart=>exact⟨0,BB _,rfl,rfl,by show _=_;rfl,qag _ _⟩
 case round=>
  obtain⟨k,hk,rfl,rfl,Hk,hg⟩:=hrel;by_cases hlt:k<m
  . obtain⟨g,o,x,rfl,hx,c0⟩:=(h'.new hg).at_ hlt;have Hx:=Lib.hid hx;have ht:=(h'.new hg).take (k:=k) (by omega);have hkc:k<=c':=by omega
    clear hx;by_cases hin:0<=x/\x<=(n:Int)-1
    . have Hin:Hid ((decide (0<=x)&&decide (x<=(n:Int)-1))=true):=by show _=_;simp[hin.1,hin.2]
      obtain⟨j,rfl⟩:=AY hin.1;have hj:j<n:=by omega
      clear hin;obtain⟨g2,o2,nd,f,r,rfl,hnd,d0,d1,d2,hf,-⟩:=(h.new hg).at_ hj;have hfr:Hid (qfj qa j=nd.frm):=qdd hnd;clear hnd d0 d2;obtain⟨Af,nf,cf,rfl⟩:=hf.val;by_cases hD:(j:Int)∈order.take k
      . have HD:Hid (decide ((j:Int)∈order.take k)=true):=decide_eq_true hD
        have Hr:Hid (b=false):=by
         show _=_;rw[<-Hb.out];refine qrk Hx.out ?_;unfold qex;rw[decide_eq_true hD];simp
        clear hD Hk;go_wp2_with fail
        go_quiet ((first
         |(go_at_call 74;exact qcn (qde _ _ _ _ Hin.out))
         |(go_at_call 123;exact qcn (qdo _ _ _ _ (by exact ht) HD.out))))
        go_wp2;go_ret;exact⟨by rw[Hr.out];rfl,qb8 hg _⟩
      . have HD:Hid (decide ((j:Int)∈order.take k)=false):=decide_eq_false hD;by_cases hall:(nd.frm.all λy=>decide (y∈order.take k))=true
        . have qB:=Lib.hid hall
          have Hs:Hid (qc8 qa order (k+1)=true):=by
           refine q22 Hx.out Hk.out (qd3.2 ⟨Int.natCast_nonneg j,by rw[<-Hn.out];omega,hD,?_⟩);rw[AX,hfr.out];intro y hy;exact of_decide_eq_true (B9.1 hall y hy)
          clear hD hall Hk;go_wp2_with fail
          go_quiet ((first
           |(go_at_call 74;exact qcn (qde _ _ _ _ Hin.out))
           |(go_at_call 123;exact qcn (qdo _ _ _ _ (by exact ht) HD.out))
           |(go_at_call 201;exact qcn (quw _ _ _ nd.frm _ (by exact ht) (by exact hf) qB.out))))
          go_wp2;go_roundg (m+1-(k+1))
          case measure=>omega
          case rel=>exact⟨k+1,by omega,rfl,by go_num,Hs,qb8 hg _⟩
        . have xU:(nd.frm.all λy=>decide (y∈order.take k))=false:=by simpa using hall
          have qB:=Lib.hid xU
          have Hr:Hid (b=false):=by
           show _=_;rw[<-Hb.out];refine qrk Hx.out ?_;unfold qex;rw[AX,hfr.out,xU];simp
          clear hD hall xU Hk;go_wp2_with fail
          go_quiet ((first
           |(go_at_call 74;exact qcn (qde _ _ _ _ Hin.out))
           |(go_at_call 123;exact qcn (qdo _ _ _ _ (by exact ht) HD.out))
           |(go_at_call 201;exact qcn (quw _ _ _ nd.frm _ (by exact ht) (by exact hf) qB.out))))
          go_wp2;go_ret;exact⟨by rw[Hr.out];rfl,qb8 hg _⟩
    . have Hin:Hid ((decide (0<=x) && decide (x<=(n:Int) - 1))=false):=by
       show _=_;rw[AD,decide_eq_false_iff_not,decide_eq_false_iff_not];omega
      have Hr:Hid (b=false):=by
       show _=_;rw[<-Hb.out];refine qrk Hx.out ?_;rcases Ax (qex qa (order.take k) x)with e|e
       . obtain⟨h1,h2,_⟩:=qd3.1 e;rw[<-Hn.out]at h2;exact absurd ⟨h1,by omega⟩ hin
       . exact e
      clear hin Hk;go_wp2_with fail
      go_quiet ((first
       |(go_at_call 74;exact qcn (qde _ _ _ _ Hin.out))))
      go_wp2;go_ret;exact⟨by rw[Hr.out];rfl,qb8 hg _⟩
  . obtain rfl:k=m:=by omega
    have Hr:Hid (b=true):=by
     show _=_;rw[<-Hb.out];have:=Hk.out;rw[Hm.out]at this;exact this
    clear Hk;go_wp2;go_ret;exact⟨by rw[Hr.out];rfl,hg⟩
def qkE(N:Nat)(L:Nat->List Nat):Nat:=((range N).map (λi=>(L (2*i+2)).length)).sum
theorem qvw(hk:k<=qa.length):qej qa k 0=range k:=by
 induction k with
 |zero=>rfl
 |succ k ih=>
  obtain⟨nd,h⟩:∃nd,qa[k]?=some nd:=⟨_,Bo (by omega)⟩;rw[qgp h];unfold qg9;rw[upd_same,qvm,ih (by omega),Bp]
theorem qe5(A:Option Addr)(n c:Nat)(at_:Int)(w:AH)(hb:(decide (0<=at_)&&decide (at_<n))=b) :
   AJ AO 80 #[.slice A n c,.int .i64 at_] w λe w'=>e=.returned (.bool b)/\w=w':=by
 subst hb;go_enter Tryz.func80,Tryz.ntmps80;by_cases h0:0<=at_
 . by_cases h1:at_<n
   . go_wp2;go_ret;exact⟨by simp;omega,rfl⟩
   . go_wp2;go_ret;exact⟨by simp;omega,rfl⟩
 . go_wp2;go_ret;exact⟨by simp;omega,rfl⟩
def q67(w:AH)(l:List Int)(e:Ending)(w':AH):Prop:=∃v',e=.returned v'/\qf w' w.heap.size v' l/\w.grownBy w' none
theorem qnn(v:AI)(qa:List Node)(at_:Nat)(w:AH)(h:RN w v qa)(hv:qae qa=true)(hat:at_<qa.length) :
   AJ AO 131 #[v,.int .i64 at_] w (q67 w ((qsx qa (2*at_+2)).map (λj:Nat=>(j:Int)))):=by
 obtain⟨A,n,c,rfl,-,hn,-⟩:=h.form';have zF:n<=10:=by have:=qam hv;omega
 have hat':at_<n:=by omega
 have Hn:=Lib.hid hn;have Hv:=Lib.hid hv;clear hn hv hat;go_enter Tryz.func131,Tryz.ntmps131;go_wp2_with fail;refine(qpy _ qa _ h).mono ?_;rintro e w1 ⟨gv,rfl,hg1,hG⟩;obtain⟨B,R,G,hR0,hR⟩:=hG Hv.out;clear hG;rw[Hv.out];have hsz:=hg1.size;have hz:(R 0).2=range n:=by rw[hR 0,Hn.out];exact qvw (BA _)
 rw[<-Hn.out]at G;obtain⟨Ag,cg,hgv,-⟩:=G.form (a:=0) (by omega);rw[hz,length_range]at hgv;obtain⟨gg,rfl,c0⟩:=G.at0 hgv hz hat';rw[hR0]at hgv;subst hgv;obtain⟨Au,cu,hu,hcu⟩:=G.form (a:=2*at_+2) (by omega);have c1:=(G.blk at_ hat').cell 2;have hm:=G.len (2*at_+2);have Hl:Hid ((R (2*at_+2)).2=qsx qa (2*at_+2)):=hR _;have hu2:(R (2*at_+2)).1=.slice Au (R (2*at_+2)).2.length cu:=hu;have c1':w1.cell? ⟨B at_,2,none⟩=some (.slice Au (R (2*at_+2)).2.length cu):=by rw[c1,hu2];rfl
 have Hu:Hid ((R (2*at_+2)).1=.slice Au (R (2*at_+2)).2.length cu):=hu;have yX:Hid (∀j∈(R (2*at_+2)).2,j<n):=G.mem (2*at_+2) (by omega);clear hu hu2 hcu c1 hR0 hR hz;generalize hLL:(R (2*at_+2)).2=LL at *;have HLL:=Lib.hid hLL;clear hLL;go_wp2_with fail;refine(qe5 A n c at_ _ (b:=true) (by simp;omega)).mono ?_;rintro e w2 ⟨rfl,rfl⟩;go_wp2_with fail
 go_loopw [7,31] (λs i wr=>∃k:Nat,k<=LL.length/\i=.int .i64 k/\qf wr w.heap.size s ((LL.take k).map (λj:Nat=>(j:Int)))/\Gr wr w.heap.size n B R/\w.grownBy wr none) (λ_ i _=>LL.length-(intOf i).toNat)
 case atStart=>exact⟨0,BB _,rfl,qf.nil _ _,G,hg1⟩
 case round=>
  clear G hg1;obtain⟨k,hk,rfl,ho,G,hg⟩:=hrel;by_cases hlt:k<LL.length
  . obtain⟨Au',cu',hu',qbH⟩:=G.form (a:=2*at_+2) (by omega);obtain rfl:Au=Au':=by rw[Hu.out]at hu';injection hu'
    rw[HLL.out]at qbH;obtain⟨g,rfl,hcs⟩:=qbH (by omega);obtain⟨x,hx⟩:∃x,LL[k]?=some x:=⟨_,Bo hlt⟩;have hxn:=yX.out x (Ba hx);have d0:=hcs k x hx;have d1:wr.cell? ⟨B x,0,none⟩=some (.int .i64 (x:Nat)):=(G.blk x hxn).cell 0;have Hx:=Lib.hid hx;have Hcs:=Lib.hid hcs;have hlen:((LL.take k).map (λj:Nat=>(j:Int))).length<=1000:=by simp;omega
    clear hx hcs hu' qbH;go_wp2_with (at_builtin;go_must (refine qcm (.tmp 35) (.tmp 40) rfl rfl ho (by omega) hg.size rfl rfl ?_));intro v' w5 qE hg5;obtain⟨A5,n5,c5,rfl⟩:=qE.ri.val;have G5:=G.grown hg5 (ho.jq (by decide)) (ho.jq (by decide));have hg6:=ho.gb hg hg5 (BA _)
    have jV:qf w5 w.heap.size (.slice A5 n5 c5) ((LL.take (k+1)).map (λj:Nat=>(j:Int))):=by
     obtain⟨hk',hx'⟩:=AZ.1 Hx.out;rw[Bj hk',map_append,hx'];simpa[map_take]using qE
    go_wp2;go_roundw
    case rel=>exact⟨k+1,by omega,by go_num,jV,G5,hg6⟩
    case measure=>simp[intOf];omega
  . obtain rfl:k=LL.length:=by omega
    rw[Be (BA _)]at ho;obtain⟨A5,n5,c5,rfl⟩:=ho.ri.val;go_wp2;go_ret;exact⟨_,rfl,by rw[<-Hl.out];exact ho,hg⟩
def qll(f:Nat->Int)(n:Nat):Array AI:=#[.int .i64 (f 0),.int .i64 (f 1),.int .i64 (f 2),.int .i64 (f 3),.int .i64 (f 4),.int .i64 (f 5),.int .i64 (f 6),.int .i64 (f 7),.int .i64 (f 8),.int .i64 (f 9),.int .i64 n]
def TT(w:AH)(tb:Nat)(f:Nat->Int)(n:Nat):Prop:=Blk w tb 184 (qll f n)
theorem qta(f:Nat->Int)(n:Nat)(hu:u<10):(qll f n)[u]?=some (.int .i64 (f u)):=by
 rcases (show u=0∨u=1∨u=2∨u=3∨u=4∨u=5∨u=6∨u=7∨u=8∨u=9 by omega)with rfl|rfl|rfl|rfl|rfl|rfl|rfl|rfl|rfl|rfl<;>rfl
theorem q16(f:Nat->Int)(n:Nat)(hu:u<10)(x:Int):(qll f n).setIfInBounds u (.int .i64 x)=qll (xJ f u x) n:=by
 rcases (show u=0∨u=1∨u=2∨u=3∨u=4∨u=5∨u=6∨u=7∨u=8∨u=9 by omega)with rfl|rfl|rfl|rfl|rfl|rfl|rfl|rfl|rfl|rfl<;>rfl
section
variable {w w':AH}{tb n:Nat}{f:Nat->Int}
theorem TT.cell(h:TT w tb f n)(hu:u<10):w.cell? ⟨tb,u,none⟩=some (.int .i64 (f u)):=by
 rw[<-qta f n hu];exact Blk.cell h u
theorem TT.size(h:TT w tb f n):w.cell? ⟨tb,10,none⟩=some (.int .i64 n):=Blk.cell h 10
theorem TT.frozen(h:TT w tb f n)(u:Nat):w.frozen? ⟨tb,u,none⟩=false:=Blk.frozen h u
theorem TT.new(h:TT w tb f n)(hg:w.grownBy w' none):TT w' tb f n:=Blk.grown h hg (by simp)
theorem TT.put(h:TT w tb f n)(hu:u<10)(x:Int):TT (w.setCell ⟨tb,u,none⟩ (.int .i64 x)) tb (xJ f u x) n:=by
 have:=Blk.qC h u (.int .i64 x);rw[q16 f n hu]at this;exact this
theorem TT.ne(h:TT w tb f n){E:TypeId}(hE:E≠184):qg w E (some tb):=qg.blk h hE
end
theorem qic(v:AI)(qa:List Node)(w:AH)(h:RN w v qa)(hv:qae qa=true) :
   AJ AO 99 #[v] w λe w'=>∃tb,e=.returned (.pointer (some ⟨tb,0,none⟩))/\TT w' tb (qfx qa qa.length) qa.length/\w.heap.size<=tb/\w.grownBy w' none:=by
 obtain⟨A,n,c,rfl,-,hn,-⟩:=h.form';have zF:n<=10:=by have:=qam hv;omega
 have Hn:=Lib.hid hn;have Hv:=Lib.hid hv;clear hn hv;go_enter Tryz.func99,Tryz.ntmps99;go_upto_region 2 with fail
 have T0:TT (w.alloc (.cells #[.int .i64 0,.int .i64 0,.int .i64 0,.int .i64 0,.int .i64 0,.int .i64 0,.int .i64 0,.int .i64 0,.int .i64 0,.int .i64 0,.int .i64 n] 184)) w.heap.size (qfx qa 0) n:=by
  rw[q1o];exact Blk.new _ _ _
 have hg0:=grownBy_alloc w (.cells #[.int .i64 0,.int .i64 0,.int .i64 0,.int .i64 0,.int .i64 0,.int .i64 0,.int .i64 0,.int .i64 0,.int .i64 0,.int .i64 0,.int .i64 n] 184) none;have h0:=h.new hg0;generalize w.alloc (.cells #[.int .i64 0,.int .i64 0,.int .i64 0,.int .i64 0,.int .i64 0,.int .i64 0,.int .i64 0,.int .i64 0,.int .i64 0,.int .i64 0,.int .i64 n] 184)=wA at T0 hg0 h0 |-;clear h;go_wp2_with fail
 go_loopg [13] (n+1) (λmm i wr=>∃k:Nat,k<=n/\mm=n+1-k/\i=.int .i64 k/\TT wr w.heap.size (qfx qa k) n/\RN wr (.slice A n c) qa/\w.grownBy wr none)
 case atStart=>exact⟨0,BB _,rfl,rfl,T0,h0,hg0⟩
 case round=>
  clear T0 h0 hg0;obtain⟨k,hk,rfl,rfl,T,h,hg⟩:=hrel;by_cases hlt:k<n
  . go_wp2_with fail;refine(qnn _ qa k wr h Hv.out (by rw[<-Hn.out];exact hlt)).mono ?_;rintro e w2 ⟨uv,rfl,hu,hg2⟩;rw[qnm Hv.out]at hu;have T2:=T.new hg2;have h2:=h.new hg2;have g2:=qac hg hg2;obtain⟨Au,m,cu,rfl,-,hm⟩:=hu.ri.form';have hm':m=(qbx qa k).length:=by rw[hm,Bi]
    have kg:m<=10:=by have:=qyi qa k;have:=Hn.out;omega
    have Hm:=Lib.hid hm';have hu2:=hu.ri;clear T h hg hg2 hu hm hm';go_wp2_with fail
    go_loopg [20] (m+1) (λmm i wx=>∃t:Nat,t<=m/\mm=m+1-t/\i=.int .i64 t/\TT wx w.heap.size (qge qa k t) n/\RN wx (.slice A n c) qa/\RI wx (.slice Au m cu) ((qbx qa k).map (λj:Nat=>(j:Int)))/\w.grownBy wx none)
    case atStart=>exact⟨0,BB _,rfl,rfl,by rw[qpm];exact T2,h2,hu2,g2⟩
    case round=>
     clear T2 h2 g2 hu2;obtain⟨t,ht,rfl,rfl,T,h,hr,hg⟩:=hrel;by_cases qbI:t<m
     . obtain⟨gu,ou,x,rfl,hx,c0⟩:=hr.at_ qbI;rw[Bm]at hx;obtain⟨u,hu,rfl⟩:=Option.map_eq_some_iff.1 hx
       have hun:u<10:=by
        have:=(qgg.1 (Ba hu)).1;have:=Hn.out;omega
       have T3:=T.put hun (qge qa k t u+1);rw[<-qyc hu]at T3;have hz:=T.cell hun;have hzf:=T.frozen u;have hb:=qvo Hv.out k t u;have hst:wr.grownBy (wr.setCell ⟨w.heap.size,u,none⟩ (.int .i64 (qge qa k t u+1))) (some w.heap.size):=qa1 (qag _ _) (.inr rfl) _;have h3:=h.grown hst (T.ne (by decide)) (T.ne (by decide));have hr3:=hr.grown hst (T.ne (by decide));have g3:=qa2 hg hst (λg e=>by cases e;exact .inl (BA _));generalize qge qa k t u=y at hz hb T3 h3 hr3 g3 hst;clear T h hr hg hst hx hu;go_wp2_with fail
       go_region
       all_goals
        go_wp2;go_roundg (m+1-(t+1))
        case measure=>omega
        case rel=>exact⟨t+1,by omega,rfl,by go_num,T3,h3,hr3,by first|exact g3|exact qax g3⟩
     . obtain rfl:m=t:=by omega
       have T3:TT wr w.heap.size (qfx qa (k+1)) n:=by
        rw[<-q1p Hv.out (Nat.le_of_eq Hm.out.symm)];exact T
       clear T;go_wp2;go_roundg (n+1-(k+1))
       case measure=>omega
       case rel=>exact⟨k+1,by omega,rfl,by go_num,T3,h,hg⟩
  . obtain rfl:n=k:=by omega
    go_wp2;go_ret;exact⟨_,rfl,by rw[<-Hn.out];exact T,BA _,hg⟩
def qeo(w:AH)(l:List Int)(e:Ending)(w':AH):Prop:=∃v',e=.returned v'/\qf w' w.heap.size v' l/\w.grownBy w' none
theorem qf.made{base:Nat}(h:w.ownsRow base 3 1 v n (madeCells #[int .i64 0] n).toList):qf w base v (replicate n 0):=by
 unfold qf
 have e:(madeCells #[int .i64 0] n).toList=(replicate n (0:Int)).map (.int .i64):=by
  apply ext_getElem?;intro j;by_cases hj:j<n
  . simp[madeCells,hj,Nat.mod_one]
  . simp[madeCells,hj]
 rw[length_replicate,<-e];exact h
theorem qf.qQ{base:Nat}{row:Option Nat}(h:qf w base v l)(hg:w.grownBy w' row)(hr:v.ownBlock=none∨v.ownBlock≠row):qf w' base v l:=ownsRow.kept h hg hr
theorem qf.cell{base c:Nat}(h:qf w base (.slice (some ⟨g,0,none⟩) n c) l)(hx:l[k]?=some x):w.cell? ⟨g,k,none⟩=some (.int .i64 x)/\w.frozen? ⟨g,k,none⟩=false/\base<=g/\∃cs,Blk w g 3 cs:=by
 obtain⟨g',cap',cur,he,_,hbg,hbk,hcs⟩:=h.form (by have:=(AZ.1 hx).1;omega);obtain rfl:g=g':=qkg he;exact⟨hcs k x hx,hbk.frozen k,hbg,cur,hbk⟩
theorem qdq{K:Act->AH->Prop}{Q:Exit->Act->AH->Prop}{E:Prop}
   (s x:AN) (hgd:o.guard=none) (ho:o.op=.call {callee:=.builtin .append,args:=#[s,x],argTypes:=#[24,24]})
   {base:Nat}  {l0:List Int} (hown:qf w base v l0) (hxv:RI w xv l) (hn:l0.length+l.length<=1000000000) (hbase:base<=w.heap.size)
   (hs:a.eval s=v) (hx:a.eval x=xv)
   (h:∀v' w',qf w' base v' (l0++l)->w.grownBy w' v.ownBlock->K (a.put o.dst v') w') :
   if AV o (yielded ops a.tmps)=true then Oper.wp AO o a w K Q else E:=by
 have hw:AV o (yielded ops a.tmps)=true:=by simp[AV,hgd]
 rw[if_pos hw];obtain⟨i,hi,hz0,hz1,hz2⟩:=AK qii;obtain⟨A,c,e,hc,hcm,hcn⟩:=TS.form hxv;subst e
 match A,hcn with
 |none,hcn=>
  obtain rfl:=hcn rfl;have hl0:l=[]:=Bf (by omega);subst hl0;have hrun:=AM (P:=AO) (w:=w) base 24 o.type 3 i 1 AP hi v _ _ hown;unfold Oper.wp;simp[execOp,ho,resolve,invoke,builtin,hs,hx,hrun,Result.andThen];rw[append_nil]at h;exact h _ _ hown (qag _ _)
 |some ad,hcn=>
  refine AL _ s x 24 ho base 3 i _ 1 8 AP hi hz0 hz1 hz2 rfl (by decide) v _ _ hs hown ad l.length c (l.map (.int .i64)) hx (by rw[Bi,BE]) ?_ (qgr l) ?_ ?_ hbase ?_
  . intro j u hj;have hjl:=(AZ.1 hj).1;rw[Bi]at hjl;obtain⟨g,o',cur,e,_,hcell⟩:=TS.at_ hxv (by omega);have e2:ad=⟨g,o',none⟩:=Option.some.inj e;rw[e2,Addr.add_lit];exact hcell j u hj
  . unfold maxLen;omega
  . omega
  . intro v' w' h1 h2 _;refine h v' w' ?_ h2;unfold qf;simpa using h1
theorem q6y{K:Act->AH->Prop}{Q:Exit->Act->AH->Prop}{E:Prop}
   (s x:AN) (hgd:o.guard=none) (ho:o.op=.call {callee:=.builtin .append,args:=#[s,x],argTypes:=#[27,27]})
   {base:Nat}   (hown:qM w base v ll) (hf:RI w f l) (hn:ll.length<=1000000000) (hbase:base<=w.heap.size)
   (hs:a.eval s=v) (hx:a.eval x=.slice (some ⟨w.heap.size,0,none⟩) 1 1)
   (h:∀v' w',qM w' base v' (ll++[l])->w.grownBy w' v.ownBlock->K (a.put o.dst v') w') :
   if AV o (yielded ops a.tmps)=true then Oper.wp AO o a (w.alloc (.cells #[f] 24)) K Q else E:=by
 have hw:AV o (yielded ops a.tmps)=true:=by simp[AV,hgd]
 rw[if_pos hw];obtain⟨i,hi,hz0,hz1,hz2⟩:=AK qnk;obtain⟨xs,ho1,ho2⟩:=hown;have hxl:xs.length=ll.length:=by have:=ho1.1;omega
 refine AL _ s x 27 ho base 24 i _ 1 24 AU hi hz0 hz1 hz2 rfl (by decide) v ll.length _ hs (ownsRow.alloc ho1 _) ⟨w.heap.size,0,none⟩ 1 1 [f] hx rfl ?_ ?_ ?_ ?_ ?_ ?_
 . intro j u' hj
   match j,hj with
   |0,hj=>simp at hj;subst hj;simp[Addr.add]
 . intro u' hu;simp only[mem_cons,Bz,or_false]at hu;subst hu;exact hf.zG
 . unfold maxLen;omega
 . omega
 . simp;omega
 . intro v' w' ho' hg _;have h2:w.grownBy w' v.ownBlock:=⟨hg.os,hg.tape,hg.output,BC (by simp) hg.size,λk hk hne=>(hg.block k (by simp;omega) hne).trans (Below.heap_alloc w _ k hk)⟩;refine h v' w' ⟨_,by simpa using ho',?_⟩ h2;intro i' l' hi';have hne:qg w 3 v.ownBlock:=qg.own ho1 (by decide);by_cases hl:i'<ll.length
   . rw[Bc hl]at hi';obtain⟨u,k1,k2⟩:=ho2 i' l' hi';exact⟨u,by rw[Bc (by omega)];exact k1,k2.grown h2 hne⟩
   . rw[Bb (by omega)]at hi'
     have h0:i'-ll.length=0:=by
      rcases BF (i'-ll.length)with h|h
      . exact h
      . rw[Br (by simp;omega)]at hi';cases hi'
     rw[h0]at hi';obtain rfl:l=l':=by simpa using hi'
     exact⟨f,by rw[Bb (by omega),show i'-xs.length=0 by omega];rfl,hf.grown h2 hne⟩
theorem qiv{K:Act->AH->Prop}{Q:Exit->Act->AH->Prop}{E:Prop}
   (s x:AN) (hgd:o.guard=none) (ho:o.op=.call {callee:=.builtin .append,args:=#[s,x],argTypes:=#[27,27]})
   {base:Nat}   {xs:List AI} (hown:LX w base v ll xs) (hf:qf w base f l) (hn:ll.length<=1000000000) (hbase:base<=w.heap.size)
   (hs:a.eval s=v) (hx:a.eval x=.slice (some ⟨w.heap.size,0,none⟩) 1 1)
   (h:∀v' w',LX w' base v' (ll++[l]) (xs++[f])->w.grownBy w' v.ownBlock->K (a.put o.dst v') w') :
   if AV o (yielded ops a.tmps)=true then Oper.wp AO o a (w.alloc (.cells #[f] 24)) K Q else E:=by
 have hw:AV o (yielded ops a.tmps)=true:=by simp[AV,hgd]
 rw[if_pos hw];obtain⟨i,hi,hz0,hz1,hz2⟩:=AK qnk;obtain⟨ho1,ho2⟩:=hown;have hxl:xs.length=ll.length:=by have:=ho1.1;omega
 refine AL _ s x 27 ho base 24 i _ 1 24 AU hi hz0 hz1 hz2 rfl (by decide) v ll.length _ hs (ownsRow.alloc ho1 _) ⟨w.heap.size,0,none⟩ 1 1 [f] hx rfl ?_ ?_ ?_ ?_ ?_ ?_
 . intro j u' hj
   match j,hj with
   |0,hj=>simp at hj;subst hj;simp[Addr.add]
 . intro u' hu;simp only[mem_cons,Bz,or_false]at hu;subst hu;exact hf.ri.zG
 . unfold maxLen;omega
 . omega
 . simp;omega
 . intro v' w' ho' hg _;have h2:w.grownBy w' v.ownBlock:=⟨hg.os,hg.tape,hg.output,BC (by simp) hg.size,λk hk hne=>(hg.block k (by simp;omega) hne).trans (Below.heap_alloc w _ k hk)⟩;refine h v' w' ⟨by simpa using ho',?_⟩ h2;intro i' l' hi';have hne:qg w 3 v.ownBlock:=qg.own ho1 (by decide);by_cases hl:i'<ll.length
   . rw[Bc hl]at hi';obtain⟨u,k1,k2⟩:=ho2 i' l' hi';exact⟨u,by rw[Bc (by omega)];exact k1,k2.grown h2 hne⟩
   . rw[Bb (by omega)]at hi'
     have h0:i'-ll.length=0:=by
      rcases BF (i'-ll.length)with h|h
      . exact h
      . rw[Br (by simp;omega)]at hi';cases hi'
     rw[h0]at hi';obtain rfl:l=l':=by simpa using hi'
     exact⟨f,by rw[Bb (by omega),show i'-xs.length=0 by omega];rfl,hf.grown h2 hne⟩
theorem qvy{base:Nat}(ty:TypeId)(hB:Blk w g 3 #[])(hbg:base<=g)(hx:RI w xv l)(hn:l.length<=1000000000) :
   ∃v' w',(Builtin.append_ #[24,24] ty #[.slice (some ⟨g,0,none⟩) 0 0,xv]).run AO w=.ok v' w'/\qf w' base v' l/\w.grownBy w' none:=by
 obtain⟨i,hi,hz0,hz1,hz2⟩:=AK qii;have hE:qf w base (.slice (some ⟨g,0,none⟩) 0 0) []:=⟨rfl,.inr ⟨g,0,#[],rfl,hbg,hB,BA _,by unfold maxLen;omega,rfl,rfl⟩⟩;obtain⟨A,c,e,hc,hcm,hcn⟩:=TS.form hx;subst e
 match A,hcn with
 |none,hcn=>
  obtain rfl:=hcn rfl;have hl0:l=[]:=Bf (by omega);subst hl0;exact⟨_,w,AM (P:=AO) (w:=w) base 24 ty 3 i 1 AP hi _ _ _ hE,hE,qag _ _⟩
 |some ad,hcn=>
  by_cases h0:l.length=0
  . have hl0:l=[]:=Bf h0;subst hl0;refine⟨.slice (some ⟨g,0,none⟩) 0 0,w,?_,hE,qag _ _⟩;simp[Builtin.append_,run_underlying AP,sizeOf,typeInfo,hi,Builtin.lenOf,Builtin.firstCells,loadCells,loadCellsFrom,storeCells]
  . have hnews:∀ j u,(l.map (int .i64))[j]?=some u->w.cell? (ad.add j)=some u:=by
     intro j u hj;obtain⟨g',o',cur,e,_,hcell⟩:=TS.at_ hx (by omega);have e2:ad=⟨g',o',none⟩:=Option.some.inj e;rw[e2,Addr.add_lit];exact hcell j u hj
    have hr:=run_append_grow (P:=AO) (w:=w) 24 ty 3 i _ AP hi hz0 ⟨g,0,none⟩ 0 0 [] (by simp) (λj v h=>by simp at h) ad l.length c (l.map (int .i64)) (by rw[hz1,Bi,BE]) hnews (by omega) (by omega)
     (growslice_fits (by omega) (by rw[hz2];omega))
    obtain⟨v',w',hr2,h2,h3,_⟩:=run_append_own (P:=AO) w base 24 ty 3 i _ 1 8 AP hi hz0 hz1 hz2 rfl (by decide) _ 0 [] hE ad l.length c (l.map (int .i64)) (by rw[Bi,BE]) hnews (qgr l) (by unfold maxLen;omega) (by omega) (by have:=hB.lt;omega);refine⟨v',w',hr2,?_,?_⟩
    . unfold qf;simpa using h2
    . rw[hr2]at hr;injection hr with _ hw;rw[hw];exact qaq (qax (qag w none)) _
def jN(ops:Array Oper)(j:Nat):Nat:=((ops[j]?).bind (λo=>o.dst)).getD 0
def qp0(ops:Array Oper)(j i:Nat):Bool:=((ops[j]?).map λo=>o.after.any λe=>Region.binds .any e&&e.on==i).getD false
def qfr(ops:Array Oper)(n m:Nat):Bool:=
 ((range n).all λj=>((ops[j]?).map λo=>o.guard.isNone&&o.dst.isSome).getD false&&decide (jN ops j<m)&&(range j).all λi=>!decide (jN ops i=jN ops j)) &&
 ((range ops.size).all λt=>(decide (t<n)||(range t).all λi=>qp0 ops t i)&&((ops[t]?).map λo=>o.after.all λe=>decide (e.on<t)).getD false)&&decide (n<=ops.size)
def qp1(ops:Array Oper)(vs:List AI)(a:Act)(k:Nat):Act:=(range k).foldl (λa j=>a.put (some (jN ops j)) (vs.getD j undef)) a
def qdM(ops:Array Oper)(n:Nat)(a0 a:Act):Prop:=a.tmps.size=a0.tmps.size/\a.defers=a0.defers/\∀t,(∀j,j<n->jN ops j≠t)->a.tmps[t]?=a0.tmps[t]?
theorem qo6(h:a.tmps[t]?=some v):a.eval (.tmp t)=v:=by
 unfold Act.eval;simp only;rw[Ab,h];rfl
structure vk(ops:Array Oper)(n:Nat)(F:Nat->AH->AI->Prop)(a0:Act)(w0:AH)(listed:Array Bool)(a:Act)(w:AH):Prop where
 sz:listed.size=ops.size
 g:w0.grownBy w none
 ts:a.tmps.size=a0.tmps.size
 df:a.defers=a0.defers
 oth:∀t,(∀j,j<n->listed.getD j false=true->jN ops j≠t)->a.tmps[t]?=a0.tmps[t]?
 val:∀j,j<n->listed.getD j false=true->∃v,a.tmps[jN ops j]?=some v/\F j w v
 rest:∀j,n<=j->j<ops.size->listed.getD j true=false
section
variable {P:Program}{ops:Array Oper}{Q:Exit->Act->AH->Prop}{n:Nat}{F:Nat->AH->AI->Prop}{a0:Act}{w0:AH}
theorem qp2(h:qfr ops n m=true)(hj:j<n):∃o,ops[j]?=some o/\o.guard=none/\o.dst=some (jN ops j)/\jN ops j<m:=by
 unfold qfr at h;simp only[At,B9,Bg,decide_eq_true_eq]at h;obtain⟨⟨h1,h2⟩,h3⟩:=h;have:=(h1 j hj).1;cases ho:ops[j]? with
 |none=>rw[ho]at this;simp at this
 |some o=>
  rw[ho]at this;simp only[BI,BH,At]at this;obtain⟨⟨k1,k2⟩,k3⟩:=this;refine⟨o,rfl,by simpa using k1,?_,k3⟩;unfold jN;rw[ho];cases hd:o.dst with
  |none=>rw[hd]at k2;cases k2
  |some d=>simp[hd]
theorem qno(h:qfr ops n m=true)(hj:j<n)(hi:i<n)(hne:i≠j):jN ops i≠jN ops j:=by
 unfold qfr at h;simp only[At,B9,Bg,decide_eq_true_eq]at h;obtain⟨⟨h1,h2⟩,h3⟩:=h;rcases Nat.lt_or_gt_of_ne hne with hlt|hlt
 . have:=(h1 j hj).2 i hlt;simpa using this
 . have:=(h1 i hi).2 j hlt;intro e;simp[e]at this
theorem qp3(h:qfr ops n m=true)(ht:n<=t)(hts:t<ops.size)(hi:i<t):qp0 ops t i=true:=by
 unfold qfr at h;simp only[At,B9,Bg,decide_eq_true_eq,Az]at h;rcases (h.1.2 t hts).1 with h|h
 . omega
 . exact h i hi
theorem qvx(h:qfr ops n m=true):n<=ops.size:=by
 unfold qfr at h;simp only[At,decide_eq_true_eq]at h;exact h.2
theorem qym(h:qfr ops n m=true)(hts:t<ops.size)(ho:ops[t]?=some o):∀e∈o.after,e.on<t:=by
 unfold qfr at h;simp only[At,B9,Bg,decide_eq_true_eq,Az]at h;have:=(h.1.2 t hts).2;rw[ho]at this;simp only[BI,BH]at this;intro e he;have:=Ai.1 this e he;simpa using this
theorem qs4(hc:qfr ops n m=true){listed:Array Bool}(hsz:listed.size=ops.size)(hts:t<ops.size)(hall:∀i,i<t->listed.getD i false=true)(hf:listed.getD t false=false):t∈AW .any ops listed:=by
 unfold AW;simp only[Bq,Bg,At,AB];have ho:ops[t]?=some ops[t]:=Ah hts;refine⟨hts,?_,?_⟩
 . rw[Ab,Ah (by omega)]at hf |-;exact hf
 . rw[ho];simp only[BI,BH];rw[Ai];intro e he;rw[hall _ (qym hc hts ho e he),AF]
theorem qhq{listed:Array Bool}(hr:t∈AW .any ops listed)(hb:qp0 ops t i=true):listed.getD i false=true:=by
 obtain⟨h1,h2,h3⟩:t<ops.size/\listed.getD t true=false/\((ops[t]?).map (·.after.all λe=>!Region.binds .any e||listed.getD e.on false)).getD false=true:=by
  unfold AW at hr;simp only[Bq,Bg,At,AB]at hr;exact⟨hr.1,hr.2.1,hr.2.2⟩
 unfold qp0 at hb;cases ho:ops[t]? with
 |none=>rw[ho]at hb;cases hb
 |some o=>
  rw[ho]at hb h3;simp only[BI,BH]at hb h3;obtain⟨e,he,hb⟩:=Array.any_eq_true'.1 hb;simp only[At,beq_iff_eq]at hb;have:=Ai.1 h3 e he;rw[hb.1,hb.2]at this;simpa using this
theorem qe6{listed:Array Bool}(hr:t∈AW .any ops listed):t<ops.size/\listed.getD t true=false:=by
 unfold AW at hr;simp only[Bq,Bg,At,AB]at hr;exact⟨hr.1,hr.2.1⟩
theorem qmo{listed:Array Bool}(h:t<listed.size):listed.getD t true=listed.getD t false:=by
 rw[Ab,Ab,Ah h];rfl
theorem qis{listed:Array Bool}(hi:i<listed.size)(j:Nat):(listed.setIfInBounds i true).getD j false=(decide (j=i)||listed.getD j false):=by
 rw[Ab,Ab,Ap];by_cases e:i=j
 . subst e;simp[hi]
 . have:¬j=i:=λh=>e h.symm;simp[e,this]
theorem qs5(hc:qfr ops n m=true):∀(fuel t:Nat) (listed:Array Bool) (a:Act) (w:AH),n<=t->t<=ops.size->listed.size=ops.size->(∀j,j<ops.size->listed.getD j false=decide (j<t))->ops.size-t<=fuel ->
   wpOps P ops Q (range' t (ops.size-t)) a w->wpAny P .any ops Q fuel listed a w:=by
 intro fuel
 induction fuel with
 |zero=>
  intro t listed a w h1 h2 h3 h4 h5 h6;obtain rfl:t=ops.size:=by omega
  have hr:AW .any ops listed=[]:=by
   rw[eq_nil_iff_forall_not_mem];intro j hj;obtain⟨k1,k2⟩:=qe6 hj;rw[qmo (by omega),h4 j k1]at k2;simp at k2;omega
  refine⟨hr,?_⟩;rw[BG]at h6;exact h6
 |succ fuel ih=>
  intro t listed a w h1 h2 h3 h4 h5 h6
  have hone:∀j∈AW .any ops listed,j=t:=by
   intro j hj;obtain⟨k1,k2⟩:=qe6 hj;rw[qmo (by omega),h4 j k1]at k2;have hge:t<=j:=by simpa using k2
   rcases Nat.eq_or_lt_of_le hge with e|e
   . exact e.symm
   . have:=qhq hj (qp3 hc (by omega) k1 e);rw[h4 t (by omega)]at this;simp at this
  by_cases ht:t=ops.size
  . subst ht;refine⟨λ_=>by rw[BG]at h6;exact h6,λi hi=>?_⟩;have:=hone i hi;have:=(qe6 hi).1;omega
  . have hlt:t<ops.size:=by omega
    have qbJ:ops.size-t=(ops.size-(t+1))+1:=by omega
    rw[qbJ,range'_succ,wpOps_cons]at h6
    have hnext:∀a w,wpOps P ops Q (range' (t+1) (ops.size-(t+1))) a w->wpAny P .any ops Q fuel (listed.setIfInBounds t true) a w:=by
     intro a w h;refine ih (t+1) _ a w (by omega) (by omega) (by simpa using h3) (λj hj=>?_) (by omega) h;rw[qis (by omega),h4 j hj,Ay];simp only[Az,decide_eq_true_eq];omega
    refine⟨λhr=>?_,λi hi=>?_⟩
    . exfalso;have hmem:t∈AW .any ops listed:=qs4 hc h3 hlt (λi hi=>by rw[h4 i (by omega)];simpa using hi) (by rw[h4 t hlt];simp);rw[hr]at hmem;cases hmem
    . obtain rfl:=hone i hi;exact wpOp_mono hnext h6
theorem qmp{d:Nat}(hd:d<a.tmps.size):(a.put (some d) v).tmps[t]?=if d=t then some v else a.tmps[t]?:=by
 unfold Act.put;simp only;rw[Ap];by_cases e:d=t
 . subst e;simp[hd]
 . simp[e]
def gOp(P:Program)(ops:Array Oper)(Q:Exit->Act->AH->Prop)(n:Nat)(F:Nat->AH->AI->Prop)(a0:Act)(w0:AH)(j:Nat):Prop:=
 ∀(o:Oper) (a:Act) (w:AH) (K:Act->AH->Prop),ops[j]?=some o->w0.grownBy w none->qdM ops n a0 a->(∀i,i<n->qp0 ops j i=true->∃v,a.tmps[jN ops i]?=some v/\F i w v) ->
  (∀v w',w.grownBy w' none->F j w' v->K (a.put o.dst v) w')->o.wp P a w K Q
theorem vk.step(hc:qfr ops n m=true)(hm:a0.tmps.size=m)(hF:∀j w w' v,F j w v->w.grownBy w' none->F j w' v){listed:Array Bool}
   (h:vk ops n F a0 w0 listed a w) (hj:j<n) (hg:w.grownBy w' none) (hv:F j w' v):vk ops n F a0 w0 (listed.setIfInBounds j true) (a.put (some (jN ops j)) v) w':=by
 obtain⟨o,ho,_,_,hlt⟩:=qp2 hc hj;have hjs:j<ops.size:=(Array.getElem?_eq_some_iff.1 ho).1;have hd:jN ops j<a.tmps.size:=by rw[h.ts];omega
 refine⟨by simpa using h.sz,qac h.g hg,by unfold Act.put;simpa using h.ts,h.df,λt ht=>?_,λi hi hl=>?_,λi hi his=>?_⟩
 . rw[qmp hd,if_neg (ht j hj (by rw[qis (by rw[h.sz];exact hjs)];simp))];exact h.oth t (λi hi hl=>ht i hi (by rw[qis (by rw[h.sz];exact hjs),hl,AF]))
 . by_cases e:i=j
   . subst e;exact⟨v,by rw[qmp hd,if_pos rfl],hv⟩
   . rw[qis (by rw[h.sz];exact hjs)]at hl;have hl':listed.getD i false=true:=by simpa[e]using hl
     obtain⟨u,k1,k2⟩:=h.val i hi hl';exact⟨u,by rw[qmp hd,if_neg (qno hc hi hj (λe'=>e e'.symm))];exact k1,hF i w w' u k2 hg⟩
 . have:=h.rest i hi his;rw[qmo (by simp;rw[h.sz];exact his),qis (by rw[h.sz];exact hjs)];rw[qmo (by rw[h.sz];exact his)]at this;rw[this];simp;omega
theorem q1x(hc:qfr ops n m=true)(hm:a0.tmps.size=m)(hF:∀j w w' v,F j w v->w.grownBy w' none->F j w' v)(hop:∀j,j<n->gOp P ops Q n F a0 w0 j)
   (hrest:∀a w,vk ops n F a0 w0 (Aj (n:=ops.size) λj=>decide (j.val<n)) a w->wpOps P ops Q (range' n (ops.size-n)) a w) :
   ∀(fuel:Nat) (listed:Array Bool) (a:Act) (w:AH),vk ops n F a0 w0 listed a w->ops.size-(listed.toList.countP id)<=fuel->wpAny P .any ops Q fuel listed a w:=by
 have hle:=qvx hc
 have hfull:∀(listed:Array Bool) (a:Act) (w:AH),vk ops n F a0 w0 listed a w->(∀j,j<n->listed.getD j false=true)->listed=Aj (n:=ops.size) λj=>decide (j.val<n):=by
  intro listed a w h hall;apply Array.ext
  . rw[h.sz];simp
  . intro i hi hi2;rw[h.sz]at hi;rw[Am];by_cases e:i<n
    . have:=hall i e;rw[Ab,Ah (by rw[h.sz];exact hi)]at this;simpa[e]using this
    . have:=h.rest i (by omega) hi;rw[Ab,Ah (by rw[h.sz];exact hi)]at this;simpa[e]using this
 have ko:∀j,j<ops.size->(Aj (n:=ops.size) λj=>decide (j.val<n)).getD j false=decide (j<n):=by
  intro j hj;rw[Ab,Ah (by simpa using hj),Am];rfl
 intro fuel
 induction fuel with
 |zero=>
  intro listed a w h hf
  have kp:listed.toList.countP id=listed.toList.length:=by
   have:=Bs (p:=id) (l:=listed.toList);have hs:=h.sz;rw[As]at this |-;omega
  have hall:∀j,j<n->listed.getD j false=true:=by
   intro j hj;rw[Bt]at kp;have hjl:j<listed.size:=by rw[h.sz];omega
   have:=kp listed[j] (by simp);rw[Ab,Ah hjl];exact this
  have e:=hfull listed a w h hall;rw[e]at h |-;by_cases hn:n=ops.size
  . refine qs5 hc 0 n _ a w (BA _) hle (by simp) ko (by omega) (hrest a w h)
  . exfalso;rw[e]at kp;rw[Bt]at kp;have hlt:n<(Aj (n:=ops.size) λj=>decide (j.val<n)).size:=by simp;omega
    have:=kp (Aj (n:=ops.size) λj=>decide (j.val<n))[n] (by simp;exact⟨⟨n,by omega⟩,BA _⟩);rw[Am]at this;simp at this
 |succ fuel ih=>
  intro listed a w h hf;by_cases hall:∀j,j<n->listed.getD j false=true
  . have e:=hfull listed a w h hall;rw[e]at h |-;refine qs5 hc (fuel+1) n _ a w (BA _) hle (by simp) ko ?_ (hrest a w h);rw[e]at hf
    have hcn:(Aj (n:=ops.size) λj=>decide (j.val<n)).toList.countP id<=n:=by
     have h1:(Aj (n:=ops.size) λj=>decide (j.val<n)).toList=(range ops.size).map λj=>decide (j<n):=by
      apply ext_getElem
      . simp
      . intro i h1 h2;simp
     rw[h1,countP_map]
     have h2:∀k,(range k).countP (id∘λj=>decide (j<n))<=n:=by
      intro k
      induction k with
      |zero=>simp
      |succ k ihk=>
       rw[Bp,countP_append,countP_singleton];by_cases hk:k<n
       . have:(range k).countP (id ∘ fun j=>decide (j < n))<=k:=by
          refine BC Bs ?_;simp
         split<;>omega
       . have:¬((id∘λj=>decide (j<n)) k=true):=by simp;omega
         rw[if_neg this];omega
     exact h2 _
    omega
  . have hne:∃ j,j < n/\listed.getD j false=false:=by
     apply AG;intro hno;apply hall;intro j hj;rcases Ax (listed.getD j false)with k|k
     . exact k
     . exact absurd ⟨j,hj,k⟩ hno
    refine⟨λhr=>?_,λi hi=>?_⟩
    . exfalso
      have qgB:∀k,(∃j,j<k/\j<n/\listed.getD j false=false)->∃j,j<n/\listed.getD j false=false/\∀i,i<j->listed.getD i false=true:=by
       intro k
       induction k with
       |zero=>rintro⟨j,hj,_⟩;omega
       |succ k ihk=>
        rintro⟨j,hj,hjn,hjf⟩;by_cases hex:∃j,j<k/\j<n/\listed.getD j false=false
        . exact ihk hex
        . have hjk:j=k:=by
           apply AG;intro hne';exact hex ⟨j,by omega,hjn,hjf⟩
          subst hjk;refine⟨j,hjn,hjf,λi hi=>?_⟩;rcases Ax (listed.getD i false)with q|q
          . exact q
          . exact absurd ⟨i,hi,by omega,q⟩ hex
      obtain⟨j,hj,hjf⟩:=hne;obtain⟨t,ht,htf,hta⟩:=qgB n ⟨j,hj,hj,hjf⟩;have:=qs4 hc h.sz (by omega) hta htf;rw[hr]at this;cases this
    . obtain⟨his,hif⟩:=qe6 hi
      have hin:i<n:=by
       apply AG;intro hge;obtain⟨j,hj,hjf⟩:=hne;have:=qhq hi (qp3 hc (by omega) his (i:=j) (by omega));rw[hjf]at this;cases this
      obtain⟨o,ho,hgd,qgC,hdl⟩:=qp2 hc hin;have hsame:qdM ops n a0 a:=⟨h.ts,h.df,λt ht=>h.oth t (λj hj _=>ht j hj)⟩
      have hw:=hop i hin o a w (wpAny P .any ops Q fuel (listed.setIfInBounds i true)) ho h.g hsame (λj hj hb=>h.val j hj (qhq hi hb)) (λv w' hg hv=>by
       rw[qgC];refine ih _ _ _ (h.step hc hm hF hin hg hv) ?_;have hil:i<listed.size:=by rw[h.sz];exact his
       have hcount:(listed.setIfInBounds i true).toList.countP id=listed.toList.countP id+1:=by
        have hfi:listed.toList[i]=false:=by
         have:=hif;rw[qmo hil,Ab,Ah hil]at this;simpa using this
        rw[Array.toList_setIfInBounds,countP_set (by simpa using hil),hfi];simp
       omega)
      unfold wpOp;rw[ho];simp only;rw[if_pos (by simp[AV,hgd])];exact .inl hw
theorem q1y(vs:List AI)(a:Act)(k:Nat):qp1 ops vs a (k+1)=(qp1 ops vs a k).put (some (jN ops k)) (vs.getD k undef):=by
 unfold qp1;rw[Bp,Bv];rfl
theorem q1z(hc:qfr ops n m=true)(hm:a0.tmps.size=m)(vs:List AI):∀k,k<=n->(qp1 ops vs a0 k).tmps.size=m/\(qp1 ops vs a0 k).defers=a0.defers/\(∀t,(∀j,j<k->jN ops j≠t)->(qp1 ops vs a0 k).tmps[t]?=a0.tmps[t]?) /\
   ∀j,j<k->(qp1 ops vs a0 k).tmps[jN ops j]?=some (vs.getD j undef):=by
 intro k
 induction k with
 |zero=>intro _;exact⟨hm,rfl,λ_ _=>rfl,λj hj=>absurd hj (Nat.not_lt_zero _)⟩
 |succ k ih=>
  intro hk;obtain⟨h1,h2,h3,h4⟩:=ih (by omega);obtain⟨o,ho,_,_,hlt⟩:=qp2 hc (show k<n by omega);have hd:jN ops k<(qp1 ops vs a0 k).tmps.size:=by rw[h1];exact hlt
  rw[q1y];refine⟨by unfold Act.put;simpa using h1,h2,λt ht=>?_,λj hj=>?_⟩
  . rw[qmp hd,if_neg (ht k (by omega))];exact h3 t (λj hj=>ht j (by omega))
  . by_cases e:j=k
    . subst e;rw[qmp hd,if_pos rfl]
    . rw[qmp hd,if_neg (qno hc (by omega) (by omega) (λe'=>e e'.symm))];exact h4 j (by omega)
theorem q87{b:Act}(h1:a.tmps=b.tmps)(h2:a.defers=b.defers):a=b:=by
 cases a;cases b;simp only at h1 h2;subst h1 h2;rfl
theorem qr9{id:Nat}{w00:AH}(hmx:P.follows .mixedOrders=true)(hc:qfr ops n m=true)(hm:a0.tmps.size=m)(hF:∀j w w' v,F j w v->w.grownBy w' none->F j w' v)
   (hop:∀j,j<n->gOp P ops Q n F a0 w00.drew j)
   (hrest:∀vs:List AI,vs.length=n->∀w,w00.drew.grownBy w none->(∀j,j<n->F j w (vs.getD j undef))->wpList P ops Q (ops.toList.drop n) (qp1 ops vs a0 n) w) :
   (Code.region id ops true).wp P Q a0 w00:=by
 have hle:=qvx hc;refine wp_region_any hmx (q1x (F:=F) (w0:=w00.drew) hc hm hF hop ?_ ops.size _ a0 _ ?_ (by omega))
 . intro a w h
   have hget:∀j,j<n->(Aj (n:=ops.size) λj=>decide (j.val<n)).getD j false=true:=by
    intro j hj;rw[Ab,Ah (by simp;omega),Am];simpa using hj
   have e1:wpOps P ops Q (range' n (ops.size-n))=wpList P ops Q (ops.toList.drop n):=by
    have:=wpOps_eq_wpList (P:=P) (ops:=ops) (Q:=Q) (ops.toList.drop n) n (λj=>by rw[getElem?_drop,Array.getElem?_toList]);rw[length_drop,As]at this;exact this
   rw[e1]
   have hea:a=qp1 ops ((range n).map λj=>(a.tmps[jN ops j]?).getD undef) a0 n:=by
    obtain⟨k1,k2,k3,k4⟩:=q1z hc hm ((range n).map λj=>(a.tmps[jN ops j]?).getD undef) n (BA _);refine q87 ?_ (h.df.trans k2.symm);apply Array.ext_getElem?;intro t;by_cases ht:∃j,j<n/\jN ops j=t
    . obtain⟨j,hj,rfl⟩:=ht;obtain⟨v,q1,_⟩:=h.val j hj (hget j hj);rw[k4 j hj,q1,Bh,Bm,Bu hj];simp[q1]
    . have hno:∀j,j<n->jN ops j≠t:=λj hj e=>ht ⟨j,hj,e⟩;rw[k3 t hno];exact h.oth t (λj hj _=>hno j hj)
   rw[hea];refine hrest _ (by simp) w h.g (λj hj=>?_);obtain⟨v,q1,q2⟩:=h.val j hj (hget j hj);rw[Bh,Bm,Bu hj];simp only[BI,BH,q1];exact q2
 . have xx:∀ j,(Array.replicate ops.size false).getD j false=false:=by
    intro j;rw[Ab,Array.getElem?_replicate];split<;>rfl
   refine⟨by simp,qag _ _,rfl,rfl,λ_ _=>rfl,λj hj hl=>?_,λj _ hj=>?_⟩
   . rw[xx]at hl;cases hl
   . rw[qmo (by simpa using hj)];exact xx j
variable {o:Oper}{a:Act}{w:AH}{K:Act->AH->Prop}
theorem qit(hr:(execOp a.eval o).run P w=.ok (.value v) w)(h:K (a.put o.dst v) w):o.wp P a w K Q:=by
 unfold Oper.wp;rw[hr];exact h
theorem qiu(hr:(execOp a.eval o).run P w=.ok (.value v) w')(h:K (a.put o.dst v) w'):o.wp P a w K Q:=by
 unfold Oper.wp;rw[hr];exact h
end
def marks(f:Nat->Bool):Array AI:=#[.bool (f 0),.bool (f 1),.bool (f 2),.bool (f 3),.bool (f 4),.bool (f 5),.bool (f 6),.bool (f 7),.bool (f 8),.bool (f 9)]
theorem q50(f:Nat->Bool)(h:k<10):(marks f)[k]?=some (.bool (f k)):=by
 rcases (show k=0∨k=1∨k=2∨k=3∨k=4∨k=5∨k=6∨k=7∨k=8∨k=9 by omega)with rfl|rfl|rfl|rfl|rfl|rfl|rfl|rfl|rfl|rfl
 all_goals rfl
def qzq(f:Nat->Bool)(k:Nat):Nat->Bool:=λi=>decide (i=k)||f i
theorem qxm(f:Nat->Bool)(h:k<10):(marks f).setIfInBounds k (.bool true)=marks (qzq f k):=by
 rcases (show k=0∨k=1∨k=2∨k=3∨k=4∨k=5∨k=6∨k=7∨k=8∨k=9 by omega)with rfl|rfl|rfl|rfl|rfl|rfl|rfl|rfl|rfl|rfl
 all_goals rfl
def MK(w:AH)(gb:Nat)(f:Nat->Bool):Prop:=Blk w gb 78 (marks f)
theorem MK.cell{gb:Nat}{f:Nat->Bool}(h:MK w gb f)(hk:k<10):w.cell? ⟨gb,k,none⟩=some (.bool (f k)):=(Blk.cell h k).trans (q50 f hk)
theorem qmc(v:AI)(l:List Int)(gb:Nat)(f:Nat->Bool)(w:AH)(h:RI w v l)(hm:MK w gb f)(hin:∀x∈l,0<=x/\x<10)(hb:l.all (λx=>f x.toNat)=b) :
   AJ AO 81 #[v,.pointer (some ⟨gb,0,none⟩)] w λe w'=>e=.returned (.bool b)/\w=w':=by
 obtain⟨A,n,c,rfl,-,hn⟩:=h.form';have hle:=h.le;rw[<-hn]at hle;have Hn:=Lib.hid hn;have Hb:=Lib.hid hb;have Hin:=Lib.hid hin;clear hn hb hin;go_enter Tryz.func81,Tryz.ntmps81;go_wp2_with fail
 go_loopg [9] (n+1) (λm i wx=>∃k:Nat,k<=n/\m=n+1-k/\i=.int .i64 k/\Hid ((l.take k).all (λx=>f x.toNat)=true)/\wx=w)
 case atStart=>exact⟨0,BB _,rfl,rfl,rfl,rfl⟩
 case round=>
  obtain⟨k,hk,rfl,rfl,qB,hw⟩:=hrel;subst hw;by_cases hlt:k<n
  . obtain⟨g,o,x,rfl,hx,c0⟩:=h.at_ hlt;have hxb:=Hin.out x (Ba hx);obtain⟨q,rfl⟩:=AY hxb.1;have hq:q<10:=by omega
    have c1:=hm.cell hq;have Hx:=Lib.hid hx;clear hx hxb;by_cases hf:f q=true
    . have qbK:Hid ((l.take (k+1)).all (fun x=>f x.toNat)=true):=by
       show _=_;rw[qft _ Hx.out,qB.out,AX,hf];rfl
      rw[hf]at c1;clear hf;go_wp2;go_roundg (n+1-(k+1))
      case measure=>omega
      case rel=>exact⟨k+1,by omega,rfl,by go_num,qbK,rfl⟩
    . have hf':f q=false:=by simpa using hf
      have Hr:Hid (b=false):=by
       show b=false;rw[<-Hb.out,Bn];exact⟨_,Ba Hx.out,by simpa using hf'⟩
      rw[hf']at c1;clear hf hf';go_wp2;go_ret;exact⟨by rw[Hr.out];rfl,rfl⟩
  . obtain rfl:k=n:=by omega
    have Hr:Hid (b=true):=by
     show b=true;rw[<-Hb.out];have:=qB.out;rw[Be (by rw[<-Hn.out];exact BA _)]at this;exact this
    go_wp2;go_ret;exact⟨by rw[Hr.out];rfl,rfl⟩
def qch(n:Nat)(l:List Int)(i:Nat):Bool:=decide (i<n)&&decide ((i:Int)∈l)
theorem qrs(n:Nat)(h:l[k]?=some x):qch n (l.take (k+1))=if 0<=x/\x<n then qzq (qch n (l.take k)) x.toNat else qch n (l.take k):=by
 obtain⟨hk,rfl⟩:=AZ.1 h;funext i
 have e:((i:Int)∈l.take (k+1))↔(i:Int)∈l.take k∨(i:Int)=l[k]:=by
  rw[Bj hk,mem_append,mem_singleton]
 split
 . rename_i hx;unfold qch qzq;rw[Ay];simp only[At,Az,decide_eq_true_eq,e];constructor
   . rintro⟨h1,h2|h2⟩
     . exact .inr ⟨h1,h2⟩
     . left;omega
   . rintro(h1|⟨h1,h2⟩)
     . exact⟨by omega,.inr (by omega)⟩
     . exact⟨h1,.inl h2⟩
 . rename_i hx;unfold qch;rw[Ay];simp only[At,decide_eq_true_eq,e];constructor
   . rintro⟨h1,h2|h2⟩
     . exact⟨h1,h2⟩
     . exfalso;omega
   . rintro⟨h1,h2⟩;exact⟨h1,.inl h2⟩
theorem qzr(v dv:AI)(qa:List Node)(done:List Int)(w:AH)(h:RN w v qa)(hd:RI w dv done)(hv:qae qa=true) :
   AJ AO 84 #[v,dv] w (qeo w (qan qa done)):=by
 obtain⟨A,n,c,rfl,-,hn,-⟩:=h.form';have zF:n<=10:=by have:=qam hv;omega
 have Hn:=Lib.hid hn;have Hv:=Lib.hid hv;have hdl:=hd.le;obtain⟨Ad,m,cd,rfl,-,hm⟩:=hd.form';rw[<-hm]at hdl;have Hm:=Lib.hid hm;clear hn hv hm;go_enter Tryz.func84,Tryz.ntmps84;go_wp2_with fail;refine(qb2 _ qa _ h Hv.out).mono ?_;rintro e w1 ⟨rfl,hg1⟩;have hs1:=hg1.size
 have hM0:MK (w1.alloc (.cells #[.bool false,.bool false,.bool false,.bool false,.bool false,.bool false,.bool false,.bool false,.bool false,.bool false] 78)) w1.heap.size (qch n (done.take 0)):=by
  have e:marks (qch n (done.take 0))=#[.bool false,.bool false,.bool false,.bool false,.bool false,.bool false,.bool false,.bool false,.bool false,.bool false]:=by
   have:qch n (done.take 0)=λ_=>false:=by
    funext i;simp[qch]
   rw[this];rfl
  show Blk _ _ _ _;rw[e];exact Blk.new w1 _ _
 have hg2:w.grownBy (w1.alloc (.cells #[.bool false,.bool false,.bool false,.bool false,.bool false,.bool false,.bool false,.bool false,.bool false,.bool false] 78)) none:=qaq hg1 _;go_wp2_with fail
 go_loopg [16] (m+1) (λmm i wr=>∃k:Nat,k<=m/\mm=m+1-k/\i=.int .i64 k/\Hid (MK wr w1.heap.size (qch n (done.take k)))/\w.grownBy wr none)
 case atStart=>exact⟨0,BB _,rfl,rfl,hM0,hg2⟩
 case round=>
  clear hM0 hg2;obtain⟨k,hk,rfl,rfl,HM,hg⟩:=hrel;by_cases hlt:k<m
  . obtain⟨g,o,x,rfl,hx,c0⟩:=(hd.new hg).at_ hlt;have hsn:=qrs n hx;by_cases hxn:0<=x/\x<n
    . rw[if_pos hxn]at hsn;obtain⟨q,rfl⟩:=AY hxn.1;have hq:q<n:=by omega
      have c1:=HM.out.cell (k:=q) (by omega);have f1:wr.frozen? ⟨w1.heap.size,q,none⟩=false:=Blk.frozen HM.out q
      have HM2:Hid (MK (wr.setCell ⟨w1.heap.size,q,none⟩ (.bool true)) w1.heap.size (qch n (done.take (k+1)))):=by
       show Blk _ _ _ _;rw[hsn,AX,<-qxm _ (by omega)];exact Blk.qC HM.out q _
      have hg2:w.grownBy (wr.setCell ⟨w1.heap.size,q,none⟩ (.bool true)) none:=qa1 (p:=⟨w1.heap.size,q,none⟩) hg (.inl hs1) _;clear hx hsn HM hxn;go_wp2_with fail;refine(qe5 A n c q _ (b:=true) (by simp;omega)).mono ?_;rintro e w2 ⟨rfl,rfl⟩;go_wp2;go_roundg (m+1-(k+1))
      case measure=>omega
      case rel=>exact⟨k+1,by omega,rfl,by go_num,HM2,hg2⟩
    . rw[if_neg hxn]at hsn;rw[<-hsn]at HM
      have hbn:(decide (0<=x)&&decide (x<(n:Int)))=false:=by
       rw[AD,decide_eq_false_iff_not,decide_eq_false_iff_not];omega
      have Hbn:=Lib.hid hbn;clear hx hsn hxn hbn;go_wp2_with fail;refine(qe5 A n c x _ Hbn.out).mono ?_;rintro e w2 ⟨rfl,rfl⟩;go_wp2;go_roundg (m+1-(k+1))
      case measure=>omega
      case rel=>exact⟨k+1,by omega,rfl,by go_num,HM,hg⟩
  . obtain rfl:k=m:=by omega
    have HM2:Hid (MK wr w1.heap.size (qch n done)):=by
     have:=HM.out;rw[Be (by rw[<-Hm.out];exact BA _)]at this;exact this
    clear HM;obtain⟨wo,rfl⟩:∃wo:AH,wo=wr:=⟨_,rfl⟩;go_wp2_with fail
    go_loopg [8,28] (n+1) (λmm r i wr=>∃t:Nat,t<=n/\mm=n+1-t/\i=.int .i64 t/\qf wr w.heap.size r (qca qa done t)/\Hid (MK wr w1.heap.size (qch n done))/\w.grownBy wr none)
    case atStart=>exact⟨0,BB _,rfl,rfl,qf.nil _ _,HM2,hg⟩
    case round=>
     clear HM2 hg;obtain⟨t,ht,rfl,rfl,ho,HM,hg⟩:=hrel;obtain⟨Ar,nr,cr,rfl⟩:=ho.ri.val;have hrl:=qkb qa done t;by_cases htn:t<n
     . obtain⟨g,o,nd,f,r,rfl,hx,c0,c1,c2,hf,hr⟩:=(h.new hg).at_ htn;have hfit:=(qbb Hv.out hx).1;have c3:=HM.out.cell (k:=t) (by omega);obtain⟨Af,nf,cf,rfl⟩:=hf.val;obtain⟨Arr,nrr,crr,rfl⟩:=hr.val;have hin:qch n done t=decide ((t:Int)∈done):=by simp[qch,htn]
       rw[hin]at c3
       have hall:nd.frm.all (λx=>qch n done x.toNat)=nd.frm.all (λx=>decide (x∈done)):=by
        rw[Ay,B9,B9]
        have key:∀x∈nd.frm,qch n done x.toNat=decide (x∈done):=by
         intro x hx';have:=qc5 hfit hx';unfold qch;rw[Int.toNat_of_nonneg this.1,decide_eq_true (show x.toNat<n by omega),AA]
        constructor
        . intro h1 x hx';rw[<-key x hx'];exact h1 x hx'
        . intro h1 x hx';rw[key x hx'];exact h1 x hx'
       have Hin:=Lib.hid (λx (hx':x∈nd.frm)=>(show 0<=x/\x<10 from by have:=qc5 hfit hx';omega));have hsn:=qep done hx;have hrn:qdc done (nd,t)=(!decide ((t:Int)∈done)&&nd.frm.all (λx=>decide (x∈done))):=rfl;rw[hrn]at hsn;have Hsn:=Lib.hid hsn;have hgA:=grownBy_alloc wr (.cells #[.int .i64 nd.kind,.slice Af nf cf,.slice Arr nrr crr] 81) none;have HM2:Hid (MK (wr.alloc (.cells #[.int .i64 nd.kind,.slice Af nf cf,.slice Arr nrr crr] 81)) w1.heap.size (qch n done)):=Blk.alloc HM.out _;have hoA:=ho.alloc (.cells #[.int .i64 nd.kind,.slice Af nf cf,.slice Arr nrr crr] 81);have hfA:=hf.alloc (.cells #[.int .i64 nd.kind,.slice Af nf cf,.slice Arr nrr crr] 81);have hgB:=qac hg hgA
       have c4:(wr.alloc (.cells #[.int .i64 nd.kind,.slice Af nf cf,.slice Arr nrr crr] 81)).cell? ⟨w1.heap.size,t,none⟩=some (.bool (decide ((t:Int)∈done))):=by
        have:=HM2.out.cell (k:=t) (by omega);rw[hin]at this;exact this
       clear hx hsn hrn hin hr hfit c3 HM ho hg hgA hf;by_cases hd0:(t:Int)∈done
       . rw[decide_eq_true hd0]at Hsn c4
         have kq:Hid (qca qa done (t+1)=qca qa done t):=by
          show _=_;rw[Hsn.out,Bool.not_true,Bool.false_and,if_neg (by simp)]
         clear hd0 Hsn;go_wp2;go_roundg (n+1-(t+1))
         case measure=>omega
         case rel=>exact⟨t+1,by omega,rfl,by go_num,by rw[kq.out];exact hoA,HM2,hgB⟩
       . rw[decide_eq_false hd0]at Hsn c4;clear hd0;by_cases ha:nd.frm.all (λx=>decide (x∈done))=true
         . have kq:Hid (qca qa done (t+1)=qca qa done t++[(t:Int)]):=by
            show _=_;rw[Hsn.out,AE,AA,if_pos ha]
           have Ha:=Lib.hid (hall.trans ha);clear ha Hsn hall;go_wp2_with fail;refine(qmc _ nd.frm w1.heap.size (qch n done) _ hfA HM2.out Hin.out Ha.out).mono ?_;rintro e w2 ⟨rfl,rfl⟩;go_wp2_with (at_builtin;go_must (refine qet (.tmp 42) (.tmp 44) rfl rfl hoA (by omega) hgB.size rfl rfl (size_alloc ..).symm ?_));intro v' w4 qp hg4;have hg5:=hoA.gb hgB hg4 (BA _);have HM4:Hid (MK w4 w1.heap.size (qch n done)):=Blk.grown HM2.out hg4 (λe=>hoA.jq (show 78≠3 by decide) _ e.symm _ HM2.out);rw[<-kq.out]at qp;go_wp2;go_roundg (n+1-(t+1))
           case measure=>omega
           case rel=>exact⟨t+1,by omega,rfl,by go_num,qp,HM4,hg5⟩
         . have ha':nd.frm.all (λx=>decide (x∈done))=false:=by simpa using ha
           have kq:Hid (qca qa done (t+1)=qca qa done t):=by
            show _=_;rw[Hsn.out,AE,AA,if_neg ha]
           have Ha:=Lib.hid (hall.trans ha');clear ha ha' Hsn hall;go_wp2_with fail;refine(qmc _ nd.frm w1.heap.size (qch n done) _ hfA HM2.out Hin.out Ha.out).mono ?_;rintro e w2 ⟨rfl,rfl⟩;go_wp2;go_roundg (n+1-(t+1))
           case measure=>omega
           case rel=>exact⟨t+1,by omega,rfl,by go_num,by rw[kq.out];exact hoA,HM2,hgB⟩
     . obtain rfl:t=n:=by omega
       have ho2:qf wr w.heap.size (.slice Ar nr cr) (qan qa done):=by
        unfold qan;rw[if_pos Hv.out,<-Hn.out];exact ho
       clear ho;go_wp2;go_ret;exact⟨_,rfl,ho2,hg⟩
theorem qff(k:Int)(w:AH)(hb:(decide (1<=k)&&decide (k<=4))=b) :
   AJ AO 46 #[.int .i64 k] w λe w'=>e=.returned (.bool b)/\w=w':=by
 subst hb;by_cases h0:1<=k
 . by_cases h1:k<=4
   . rw[decide_eq_true h0,decide_eq_true h1];go_enter AT,AR;go_wp2;go_ret;exact⟨rfl,rfl⟩
   . rw[decide_eq_true h0,decide_eq_false h1];go_enter AT,AR;go_wp2;go_ret;exact⟨rfl,rfl⟩
 . rw[decide_eq_false h0];go_enter AT,AR;go_wp2;go_ret;exact⟨by simp,rfl⟩
end
end Go.Proofs.YtacemdoejblgaaaGreatDoor

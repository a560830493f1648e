/- Part M13. Conditions: each statement's. -/
import Derived.Test.YtacemdoejblgaaaGreatDoorT12
import Derived.Conc.HoldsTime
import Derived.Conc.CompanyWords
import Derived.Deep.OwnRows
import Derived.Conc.AppendWalk
namespace Go.Proofs.YtacemdoejblgaaaGreatDoor
open _root_.Array renaming getElem?_eq_some_iff→Ab,replicate_zero→Ah,replicate_succ→Ai,mem_iff_getElem→Aj,all_eq_true_iff_forall_mem→Am,getElem?_setIfInBounds→Ap,mem_of_getElem?→As,size_extract→At,replicate→Ax,getD_eq_getD_getElem?→Ay,getElem?_eq_getElem→Az,getElem?_extract→AA
open Bool renaming and_eq_true→AB
open Exists renaming intro→AD
open Go renaming World→AE,Value→AF,TypeId→AG,Frame→AH,FuncId→AI,info_parts→AJ,bodyPost_ret→AK,Program→AL,Operand→AM,Event→AN,wp_mono→AO,run_make_full→AP,DataW→AQ
open Act renaming eval→AR,mk→AS
open Claim7 renaming new_of_sixth→AT,tied_new_at→AU,isSixth→AV
open Conc renaming AtRel→AW,mem_listed→AX,touch_of→AY,Good→AZ
open Frame renaming enter→B9,finish_at→Ba
open Input renaming okWide_of_okWideB→Bb,okWide→Bc
open IntKind renaming wrap_i64→Be,i64→Bf
open OpenSpec renaming ofChange→Bg
open _root_.Go.Proofs.Tryz renaming prog→Bh
open Region renaming wanted→Bi
open World renaming cell?→Bj,grownBy_alloc→Bm,size_alloc→Bn
open Int renaming toNat_natCast→Bo,eq_ofNat_of_zero_le→Bp,le_refl→Bq,toNat→Br
open List renaming length_cons→Bs,length_nil→Bt,replicate→Bu,getElem?_eq_some_iff→Bv,size_toArray→By,append_toArray→Bz,push_toArray→BA,cons_append→BB,nil_append→BC,length_append→BE,length_take→BF,length_replicate→BG,mem_cons→BH,take_length→BI,not_mem_nil→BJ,mem_toArray→BK,getElem_mem→BL,length_map→BM
open Nat renaming le_trans→BN,le_refl→BO,lt_of_lt_of_le→BP,reduceAdd→BQ,zero_le→BR,reduceSub→BS,ne_of_lt→BT,sub_self→BU,mul_le_mul_right→BV,zero_add→BW,le_of_eq→BX,mod_one→BY
open Option renaming map_some→BZ,isSome→C0
open Option.some renaming inj→C6,injEq→C7
open _root_.Go.Proofs.Tryz Value
set_option maxRecDepth 100000
set_option maxHeartbeats 6400000
variable {a:Act}{ad:Addr}{af:Array Edge}{es:Array AN}{ops:Array Oper}{args:Array AM}{ats:Array AG}{o' ts vs:Array AF}{apart main:Bool}{s:ChangeSpec}{C:Checked}{b:AH}{fn:Func}{f lf:AI}{gr:Grd}{ll:List (List Int)}{cs:List AH}{l:List Int}{todo:List Item}{rest:List Nat}{qa:List Node}{conds:List PathCond}{xs:List AF}{B0 N R c1 c2 g h hi i k lo m n n1 n2 n3 n4 nf size t:Nat}{XL:Nat->Bool}{T:Nat->qz}{nx:Next}{nd:Node}{o:Oper}{A3 A4:Option Addr}{P:AL}{ps:String}{e ty:AG}{cv k0 o0 pv r r0 u v:AF}{W w w' w₀ w₁ x y z z':AE}{c:qh}
section
open Go.RowKit
def q77(c:qh):Prop:=qdV c.qb/\c.counts.length<=1048576/\c.done.length<=1048576/\qdV c.rows
def qzy(c:qh):Nat:=qde c.qb+c.counts.length+c.done.length+qde c.rows
theorem LQ.gsI{S:Nat->Prop}{base:Nat}(h:LQ w base v ll xs)(k:GS S w w')(hS:∀b,S b->∃cur,Blk w b 3 cur)(hx:∀u∈xs,∀g,u.ownBlock=some g->¬S g):LQ w' base v ll xs:=
 h.gs k (λg hg hs=>by
  obtain⟨cur,hc⟩:=hS g hs;exact qg.own (E:=3) h.1 (by decide) g hg cur hc) hx
def qd2(qa:List Node)(n:Int)(c:qh)(l:List Int):qh:=l.foldl (λc x=>(qa0 qa c (x.tmod n)).getD c) c
def qb8(qa:List Node)(n:Int)(l:List Int):Option qh:=match qbk qa n with
 |some c=>if qcf l=true then some (qd2 qa n c l)else none
 |none=>none
theorem qxw{n:Int}{x:Int}(hx:l[k]?=some x):qd2 qa n c (l.take (k+1))=(qa0 qa (qd2 qa n c (l.take k)) (x.tmod n)).getD (qd2 qa n c (l.take k)):=by
 obtain⟨hk,rfl⟩:=Bv.1 hx;unfold qd2;rw[List.take_succ_eq_append_getElem hk,List.foldl_append];rfl
theorem qkx(h:qm qa c)(y:Int):qm qa ((qa0 qa c y).getD c)/\((qa0 qa c y).getD c).qb.length=c.qb.length:=by
 cases hR:qa0 qa c y with
 |none=>exact⟨h,rfl⟩
 |some c'=>exact⟨(qd6 hR).2.1,(qd6 hR).2.2.1⟩
theorem qnm{n:Int}:∀(l:List Int) {c:qh},qm qa c->qm qa (qd2 qa n c l)/\(qd2 qa n c l).qb.length=c.qb.length
 |[],_,h=>⟨h,rfl⟩
 |x::l,c,h=>by
  obtain⟨h1,h2⟩:=qkx h (x.tmod n);obtain⟨h3,h4⟩:=qnm l h1;exact⟨h3,h4.trans h2⟩
theorem qf8{n:Int}(h:qbk qa n=none∨qcf l=false):qb8 qa n l=none:=by
 unfold qb8;cases hc:qbk qa n with
 |none=>rfl
 |some c=>
  rcases h with h|h
  . rw[hc]at h;cases h
  . simp[h]
theorem qmm{n:Int}(h:qbk qa n=some c)(hl:qcf l=true):qb8 qa n l=some (qd2 qa n c l):=by
 unfold qb8;rw[h,hl];rfl
theorem qky{n:Int}(h:qb8 qa n l=some c):qm qa c/\(c.qb.length:Int)=n:=by
 unfold qb8 at h;split at h
 . rename_i c0 hc;split at h
   . injection h with h;subst h;obtain⟨h1,h2⟩:=qiv hc;obtain⟨h3,h4⟩:=qnm (n:=n) l h1;exact⟨h3,by rw[h4];exact h2⟩
   . cases h
 . cases h
theorem q8g{X:Nat}{cs:Array AF}(hb:Blk w X 29 cs):qg w 3 (some X)/\qg w 24 (some X)/\qg w 81 (some X):=⟨qg.blk hb (by decide),qg.blk hb (by decide),qg.blk hb (by decide)⟩
theorem qkz(pv cv:AF)(qa:List Node)(n:Int)(l:List Int)(w:AE)(hp:RN w pv qa)(hl:RI w cv l)(hpl:qa.length<=1000000000)(hll:l.length<=1000000000) :
   Calls prog 14 #[pv,.int .i64 n,cv] w (qZ w (qb8 qa n l)):=by
 obtain⟨A,np,cp,rfl,-,-,-⟩:=hp.form';obtain⟨Ac,m,cc,rfl,-,hm⟩:=hl.form';have Hm:=Lib.hid hm;have hmb:m<=1000000000:=by omega
 have hR0:=Blk.new w 29 #[.slice none 0 0,.slice none 0 0,.slice none 0 0,.slice none 0 0];have hgR:=Bm w (.cells #[.slice none 0 0,.slice none 0 0,.slice none 0 0,.slice none 0 0] 29) none;clear hm;go_enter func14,ntmps14;go_upto_region 1 with fail;have hpW:=hp.new hgR;have hlW:=hl.new hgR;generalize w.alloc (.cells #[.slice none 0 0,.slice none 0 0,.slice none 0 0,.slice none 0 0] 29)=W at hR0 hgR hpW hlW |-;go_wp2_with fail;refine(qrs _ qa n W hpW hpl).mono ?_;rintro e w1 hT;obtain⟨v1,rfl,hcv,hg1⟩:=hT.open_;obtain⟨A1,n1,c1,A2,n2,c2,A3,n3,c3,A4,n4,c4,rfl,-⟩:=hcv.form;have g1:=qac hgR hg1;have hR1:=hR0.grown hg1 (by simp);have hgX:=Bm w1 (.cells #[.slice A1 n1 c1,.slice A2 n2 c2,.slice A3 n3 c3,.slice A4 n4 c4] 29) none;have hX:=hcv.box;have g2:=qac g1 hgX;have hR2:=hR1.grown hgX (by simp);have hp2:=hp.new g2;have hl2:=hl.new g2;have hRX:w.heap.size<w1.heap.size:=hR1.lt;clear hT hgR hR0 hg1 hR1 hpW hlW g1 hgX hcv hp hl;go_upto_region 2 with fail;generalize w1.alloc (.cells #[.slice A1 n1 c1,.slice A2 n2 c2,.slice A3 n3 c3,.slice A4 n4 c4] 29)=w2 at hX g2 hR2 hp2 hl2 |-;generalize w1.heap.size=X at hX hRX |-;cases hc:qbk qa n with
 |none=>
  have Hr:Hid (qb8 qa n l=none):=qf8 (.inl hc);have y0:=hR2.cell 0;have y1:=hR2.cell 1;have y2:=hR2.cell 2;have y3:=hR2.cell 3;have f0:=hR2.frozen 0;have f1:=hR2.frozen 1;have f2:=hR2.frozen 2;have f3:=hR2.frozen 3;have hfin:=Lib.hid (qrr g2);clear hc hX g2 hR2 hp2 hl2;simp only[C0];go_wp2_with fail;refine AK (v:=.tuple #[.agg #[.slice none 0 0,.slice none 0 0,.slice none 0 0,.slice none 0 0],.bool false]) (by simp[results,results14,go_sem,y0,y1,y2,y3]) rfl ?_;rw[Hr.out];exact hfin.out
 |some c0=>
  have Hc:=Lib.hid hc;obtain⟨hok,hlen⟩:=qiv hc;have hn1:1<=n:=by have:=hok.d1;omega
  have hn4:n<=4:=by have:=hok.d4;omega
  have hn0:¬(n=0):=by omega
  have Hok:=Lib.hid hok;rw[hc]at hX;clear hc hok hlen;simp only[C0];by_cases qjU:20<m
  . have Hr:Hid (qb8 qa n l=none):=qf8 (.inr (qj5 (by have:=Hm.out;omega)));have y0:=hR2.cell 0;have y1:=hR2.cell 1;have y2:=hR2.cell 2;have y3:=hR2.cell 3;have f0:=hR2.frozen 0;have f1:=hR2.frozen 1;have f2:=hR2.frozen 2;have f3:=hR2.frozen 3;have hfin:=Lib.hid (qrr g2);clear hX g2 hR2 hp2 hl2;have hmi:(20:Int)<(m:Int):=by omega
    go_wp2_with fail;refine AK (v:=.tuple #[.agg #[.slice none 0 0,.slice none 0 0,.slice none 0 0,.slice none 0 0],.bool false]) (by simp[results,results14,go_sem,y0,y1,y2,y3]) rfl ?_;rw[Hr.out];exact hfin.out
  . have hmi:¬((20:Int)<(m:Int)):=by omega
    obtain⟨hni,hnl,hnn⟩:=q8g hX.b;have yI:=hX.b.lt;have qjV:Hid (l.length<=20):=by show _<=_;have:=Hm.out;omega
    have Hpl:=Lib.hid hpl;clear hpl hll;go_wp2_with fail
    go_loopg [10] (m+1) (λmm i wr=>∃(k:Nat) (d q o r:AF),k<=m/\mm=m+1-k/\i=.int .i64 k/\jw wr X d q o r (qd2 qa n c0 (l.take k))/\w2.grownBy wr (some X)/\Hid ((l.take k).all (λx=>decide (0<=x))=true))
    case atStart=>exact⟨0,_,_,_,_,BR _,rfl,rfl,hX,qag _ _,Lib.hid (by simp)⟩
    case round=>
     clear hX;obtain⟨k,d,q,o,r,hk,rfl,rfl,hB,hg,Ha⟩:=hrel;have hR:=hR2.grown hg (λe=>by injection e with e;omega);by_cases hlt:k<m
     . have hlr:=hl2.grown hg hni;obtain⟨ga,oa,x,rfl,hx,x0⟩:=hlr.at_ hlt;have Hx:=Lib.hid hx;have hki:(k:Int)<(m:Int):=by omega
       clear hx;by_cases hneg:x<0
       . have Hr:Hid (qb8 qa n l=none):=qf8 (.inr (ql0 Hx.out hneg));have y0:=hR.cell 0;have y1:=hR.cell 1;have y2:=hR.cell 2;have y3:=hR.cell 3;have f0:=hR.frozen 0;have f1:=hR.frozen 1;have f2:=hR.frozen 2;have f3:=hR.frozen 3;have hfin:=Lib.hid (qrr (qa2 g2 hg (λg e=>by cases e;exact .inl (by omega))));clear hB hg hR hlr;go_wp2_with fail;refine AK (v:=.tuple #[.agg #[.slice none 0 0,.slice none 0 0,.slice none 0 0,.slice none 0 0],.bool false]) (by simp[results,results14,go_sem,y0,y1,y2,y3]) rfl ?_;rw[Hr.out];exact hfin.out
       . have Ha2:=Lib.hid (ql2 Hx.out hneg Ha.out);obtain⟨qfB,-⟩:=qnm (n:=n) (l.take k) Hok.out;have qD:=Lib.hid (qu3 (.inl qfB));have Hst:=Lib.hid (qxw (qa:=qa) (n:=n) (c:=c0) Hx.out);obtain⟨cz,hcz⟩:∃cz,cz=qd2 qa n c0 (l.take k):=⟨_,rfl⟩;obtain⟨R,hRR⟩:∃R,R=qa0 qa cz (x.tmod n):=⟨_,rfl⟩;rw[<-hcz]at hB qD Hst;rw[<-hRR]at Hst;have HR:=Lib.hid hRR;obtain⟨Ad,nd,cd,Aq,nq,cq,Ao,no,co,Ar,nr,cr,e,-⟩:=hB.cv.form;injection e with e;injection e with e;injection e with e1 e;injection e with e2 e;injection e with e3 e;injection e with e4 e;subst e1 e2 e3 e4;clear qfB hcz hRR e;have hp:=hp2.grown hg hni hnn;have hc:=hB.cv;have d0:=hB.d0;have d1:=hB.d1;have d2:=hB.d2;have d3:=hB.d3;have hXb:=hB.b;have gW:=qag wr none;have qfC:X<wr.heap.size:=hXb.lt;go_upto_region 9 with fail
         go_cut [11,12] (λt4 t5 wx=>∃b V1 Vn1 Vc1 V2 Vn2 Vc2 V3 Vn3 Vc3 V4 Vn4 Vc4,t4=.pointer (some ⟨b,0,none⟩)/\t5=.bool R.isSome/\wr.heap.size<=b/\jw wx b (.slice V1 Vn1 Vc1) (.slice V2 Vn2 Vc2) (.slice V3 Vn3 Vc3) (.slice V4 Vn4 Vc4) (R.getD qc4)/\wr.grownBy wx none)
         case first=>
          go_region_held3 (λw'=>w'.cell? ⟨X,0,none⟩=some (.slice Ad nd cd)/\w'.cell? ⟨X,1,none⟩=some (.slice Aq nq cq)/\w'.cell? ⟨X,2,none⟩=some (.slice Ao no co)/\w'.cell? ⟨X,3,none⟩=some (.slice Ar nr cr)/\w'.cell? ⟨ga,oa+k,none⟩=some (.int .i64 x)) (go_keep) (first
           |(go_at_call 45;have hz:=hc;refine(qin _ _ qa cz (x.tmod n) _ (by first|exact hp|exact hp.new (qay gW)|exact hp.new (qaq gW _)|exact hp.new (qay (qaq gW _))) (by first|exact hc|exact hc.new (qay gW)|exact hc.new (qaq gW _)|exact hc.new (qay (qaq gW _))) Hpl.out qD.out).mono ?_;rw[<-HR.out];intro e w5 hT;obtain⟨v5,rfl,zC,hg5⟩:=hT.open_;obtain⟨U1,Un1,Uc1,U2,Un2,Uc2,U3,Un3,Uc3,U4,Un4,Uc4,rfl,-⟩:=zC.form;have g5:wr.grownBy w5 none:=(by first|exact hg5|exact qac (qay gW) hg5|exact qac (qaq gW _) hg5|exact qac (qay (qaq gW _)) hg5);have hB5:=hXb.grown g5 (by simp);have x05:=hB5.cell 0;have x15:=hB5.cell 1;have x25:=hB5.cell 2;have x35:=hB5.cell 3;have c5:w5.cell? ⟨ga,oa+k,none⟩=some (.int .i64 x):=qg7 x0 g5;have xE:X≠wr.heap.size:=BT qfC;have qjP:=xE.symm;have qcP:X≠w5.heap.size:=BT (BP qfC g5.size);have qaK:=qcP.symm;have qjW:ga≠wr.heap.size:=BT (qe0 x0);have qmF:=qjW.symm;have qjX:ga≠w5.heap.size:=BT (BP (qe0 x0) g5.size);have qmG:=qjX.symm;clear hT;try (have jM:Blk w5 wr.heap.size 29 #[.slice none 0 0,.slice none 0 0,.slice none 0 0,.slice none 0 0]:=(Blk.new wr 29 #[.slice none 0 0,.slice none 0 0,.slice none 0 0,.slice none 0 0]).drew.grown hg5 (by simp));try (have yy0:=jM.cell 0;have ff0:=jM.frozen 0;have yy1:=jM.cell 1;have ff1:=jM.frozen 1;have yy2:=jM.cell 2;have ff2:=jM.frozen 2;have yy3:=jM.cell 3;have ff3:=jM.frozen 3)))
          all_goals
           go_wp2_with fail;go_meet
           first
            |exact⟨_,_,_,_,_,_,_,_,_,_,_,_,_,rfl,rfl,BO _,(qhl jM zC).1,qa2 g5 (qhl jM zC).2 (λg e=>by cases e;exact .inl (BO _))⟩
            |exact⟨_,_,_,_,_,_,_,_,_,_,_,_,_,rfl,rfl,g5.size,zC.box,qaq g5 _⟩
         case rest=>
          obtain⟨b,V1,Vn1,Vc1,V2,Vn2,Vc2,V3,Vn3,Vc3,V4,Vn4,Vc4,rfl,rfl,hb,hV,gV⟩:=hcut;have gz:=qmy hg gV;have hBz:=hB.new gV;clear d0 d1 d2 d3 hXb hp hc gW hR hlr hB x0 hg;cases R with
          |none=>
           have qcV:Hid (qd2 qa n c0 (l.take (k+1))=cz):=Hst.out;rw[<-qcV.out]at hBz;clear hV gV;go_wp2;go_roundg (m+1-(k+1))
           case measure=>omega
           case rel=>exact⟨k+1,_,_,_,_,by omega,rfl,by go_num,hBz,gz,Ha2⟩
          |some c'=>
           have qcV:Hid (qd2 qa n c0 (l.take (k+1))=c'):=Hst.out;have v0:=hV.d0;have v1:=hV.d1;have v2:=hV.d2;have v3:=hV.d3;have y0:=hBz.d0;have y1:=hBz.d1;have y2:=hBz.d2;have y3:=hBz.d3;have f0:=hBz.b.frozen 0;have f1:=hBz.b.frozen 1;have f2:=hBz.b.frozen 2;have f3:=hBz.b.frozen 3;have hbX:b≠X:=by omega
           have hXb:X≠b:=hbX.symm;have hP2:=hBz.put (c':=c') hV.cv;rw[<-qcV.out]at hP2;have gP:=qac gz (qdn wc X (.slice V1 Vn1 Vc1) (.slice V2 Vn2 Vc2) (.slice V3 Vn3 Vc3) (.slice V4 Vn4 Vc4));clear hV gV hBz gz;go_wp2;go_roundg (m+1-(k+1))
           case measure=>omega
           case rel=>exact⟨k+1,_,_,_,_,by omega,rfl,by go_num,hP2,gP,Ha2⟩
     . obtain rfl:m=k:=by omega
       have hall:l.take m=l:=List.take_of_length_le (by rw[Hm.out];exact BO _);have Hr:Hid (qb8 qa n l=some (qd2 qa n c0 l)):=qmm Hc.out (ql1 qjV.out (by rw[<-Hm.out];exact Ha.out));rw[hall]at hB;obtain⟨Ad,nd,cd,Aq,nq,cq,Ao,no,co,Ar,nr,cr,e,-⟩:=hB.cv.form;injection e with e;injection e with e;injection e with e1 e;injection e with e2 e;injection e with e3 e;injection e with e4 e;subst e1 e2 e3 e4;have d0:=hB.d0;have d1:=hB.d1;have d2:=hB.d2;have d3:=hB.d3;have y0:=hR.cell 0;have y1:=hR.cell 1;have y2:=hR.cell 2;have y3:=hR.cell 3;have f0:=hR.frozen 0;have f1:=hR.frozen 1;have f2:=hR.frozen 2;have f3:=hR.frozen 3;have hfin:=Lib.hid (q6b (qa2 g2 hg (λg e=>by cases e;exact .inl (by omega))) hR hB.cv);have qmH:w.heap.size≠X:=by omega
       clear hB hg hR e hall;go_wp2_with fail;refine AK (v:=.tuple #[.agg #[.slice Ad nd cd,.slice Aq nq cq,.slice Ao no co,.slice Ar nr cr],.bool true]) (by simp[results,results14,go_sem,y0,y1,y2,y3]) rfl ?_;rw[Hr.out];exact hfin.out
theorem qq8{b:Nat}(h:∀l∈ll,l.length<=b):qde ll<=ll.length*b:=by
 induction ll with
 |nil=>simp[qde]
 |cons l ll ih=>
  have h1:=h l (by simp);have h2:=ih (λx hx=>h x (by simp[hx]));rw[qte,Bs,Nat.add_mul];omega
theorem qzz(h:qm qa c):q77 c/\qzy c<=1000000000:=by
 have hd:=qdm h;have hr:=qnk h;have hl:=qam h.pv;have hc:c.counts.length=qa.length:=by rw[h.counts,qeu]
 have hn:=qev h;have h4:=h.d4;have hrl:=h.rl;have s1:=qq8 hd;have s2:=qq8 hr;have m1:c.qb.length*10<=4*10:=BV _ h4;have m2:c.rows.length*1000<=10*1000:=BV _ (by omega);refine⟨⟨⟨by omega,λl hl=>by have:=hd l hl;omega⟩,by omega,by omega,⟨by omega,λl hl=>by have:=hr l hl;omega⟩⟩,?_⟩;unfold qzy;omega
theorem qxj{R:Option qh}(h:∀c,R=some c->qm qa c):q77 (R.getD qc4)/\qzy (R.getD qc4)<=1000000000:=by
 cases R with
 |none=>exact⟨⟨⟨by decide,by simp[qc4]⟩,by decide,by decide,⟨by decide,by simp[qc4]⟩⟩,by decide⟩
 |some c=>exact qzz (h c rfl)
theorem GS.qcW{a b:AE}(k:Zn lo hi a b):GS (λg=>lo<=g/\g<hi) a b:=⟨k.os,k.tape,k.output,k.size,λi hi' h=>k.block i hi' (by omega)⟩
theorem qI.yF{base:Nat}(h:qI w base v c)(k:Zn lo hi w w')(hb:hi<=base):qI w' base v c:=by
 obtain⟨d,q,o,r,xs,ys,e,h1,h2,h3,h4,h5⟩:=h;have k':=GS.qcW k;have l1:=h1.lt;have l2:=h1.lts;have l3:=h2.lt;have l4:=h3.lt;have l5:=h4.lt;have l6:=h4.lq.lts;exact⟨d,q,o,r,xs,ys,e,h1.gs k' (λg hg hs=>by have:=l1 g hg;omega) (λu hu g hg hs=>by have:=l2 u hu g hg;omega),h2.gs k' (λg hg hs=>by have:=l3 g hg;omega),h3.gs k' (λg hg hs=>by have:=l4 g hg;omega),h4.gs k' (λg hg hs=>by have:=l5 g hg;omega) (λu hu g hg hs=>by have:=l6 u hu g hg;omega),h5⟩
def qjY(lo hi m:Nat)(w:AE)(e:Ending)(w':AE):Prop:=(∃k:Nat,e=.returned (.int .i64 k)/\k<=m)/\Zn lo hi w w'
theorem qz0(lo hi:Nat)(v:AF)(n k:Nat)(w:AE)(h:WNd w lo hi v n)(hk:k<=1000000)(kz:Int)(hkz:kz=(k:Nat):=by omega) :
   Calls prog 31 #[v,.int .i64 kz] w (qjY lo hi (k+2097153*n) w):=by
 subst hkz;obtain⟨A,c,rfl,hnc,hn⟩:=h.form;go_enter func31,ntmps31;go_wp2_with fail
 go_loopw [1,5] (λs i wr=>∃j y:Nat,j<=n/\i=.int .i64 j/\s=.int .i64 y/\y<=k+2097153*j/\WNd wr lo hi (.slice A n c) n/\Zn lo hi w wr) (λ_ i _=>n-(intOf i).toNat)
 case atStart=>exact⟨0,k,BR _,rfl,rfl,by omega,h,Zn.refl _ _ _⟩
 case round=>
  clear h;obtain⟨j,y,hj,rfl,rfl,hy,h,hz⟩:=hrel;by_cases hlt:j<n
  . obtain⟨g,u,f,nf,r,nr,rfl,h1,h2,c0,c1,c2,f0,hset⟩:=h.at_ hlt;obtain⟨hs,hf',hr',cur,hb,hcr⟩:=hset (.int .i64 y);have hz1:Zn lo hi wr (wr.setCell ⟨g,j*3,none⟩ (.int .i64 y)):=Zn.zr (qa3 (p:=⟨g,j*3,none⟩) (qag wr (some g)) (.inr rfl) _) (λg' e=>by cases e;exact⟨h1,h2⟩);have hz2:=hz.trans hz1;obtain⟨Af,cf,rfl,_,hnf⟩:=hf'.form;obtain⟨Ar,cr,rfl,_,hnr⟩:=hr'.form;clear h hset hz hz1;go_wp2_with fail;refine(qiz lo hi _ nf (y+1) _ (by exact hf') (by omega) _).mono ?_;rintro e w1 ⟨rfl,hM1,-,-⟩;have hs1:=hs.mi hM1;have hr1:=hr'.mi hM1;have hz3:=hz2.trans hM1.z;have d2:w1.cell? ⟨g,j*3+2,none⟩=some (.slice Ar nr cr):=((hM1.other g _ cur (by decide) hb).cell _).trans hcr;clear hb hcr hs hr' hM1 hz2;go_wp2_with fail;refine(qiz lo hi _ nr (y+1+nf) _ (by exact hr1) (by omega) _).mono ?_;rintro e w2 ⟨rfl,hM2,-,-⟩;have hs2:=hs1.mi hM2;have hz4:=hz3.trans hM2.z;go_wp2;go_roundw
    case rel=>exact⟨j+1,y+1+nf+nr,by omega,by go_num,by go_num,by omega,hs2,hz4⟩
    case measure=>simp[intOf];omega
  . obtain rfl:j=n:=by omega
    go_wp2;go_ret;exact⟨⟨y,rfl,hy⟩,hz⟩
end
section
open Go.Conc Go.RowKit
theorem Blk.heap{t:AG}{cs:Array AF}(e:x.heap=y.heap)(h:Blk x g t cs):Blk y g t cs:=by
 unfold Blk at *;rw[<-e];exact h
theorem qI.heap{b:Nat}(e:x.heap=y.heap)(h:qI x b v c):qI y b v c:=by
 have k:qI x b v c=qI {y with heap:=x.heap} b v c:=rfl;rw[k,e]at h;exact h
theorem RN.heap{l:List Node}(e:x.heap=y.heap)(h:RN x v l):RN y v l:=by
 have k:RN x v l=RN {y with heap:=x.heap} v l:=rfl;rw[k,e]at h;exact h
theorem RI.heap(e:x.heap=y.heap)(h:RI x v l):RI y v l:=by
 have k:RI x v l=RI {y with heap:=x.heap} v l:=rfl;rw[k,e]at h;exact h
theorem HGB.heap(h:HGB R z x)(e:x.heap=y.heap):HGB R z y:=⟨e▸h.size,λi hi hne=>e▸h.block i hi hne⟩
theorem HG.from(h:HG z x)(e:z.heap=y.heap):HG y x:=⟨e▸h.size,λi hi=>e▸h.block i (e▸hi)⟩
theorem HGB.from(h:HGB R z x)(e:z.heap=y.heap):HGB R y x:=⟨e▸h.size,λi hi hne=>e▸h.block i (e▸hi) hne⟩
section
variable {gr:Grd}{M:Mks gr.base}{Post:AF->AE->Prop}{Sh:Nat->Prop}{Fz:Loc->Prop}{T:Nat->qz}{n h:Nat}{w z:AE}
theorem q8q(OO:jN (gr.base.pen M))(hfn:Bh.funcs[f]?=some fn)(hts:∀v,v∈ts->Ok gr.A gr.F v){c:Code}(hc:qfa prog Fs Gs SN c=true):FrE (gr.base.pen M) SN ((base f).at ⟨ts,[]⟩ [.code c]):=
 q9m hts (OO.code hc f) hfn (λr _=>by cases r<;>exact OO.X f _)
theorem qjZ(OO:jN (gr.base.pen M)){e:Exit}(h:FrE (gr.base.pen M) SN (qi9 (base f) a todo e)):∀v,v∈a.tmps->Ok gr.A gr.F v:=λv hv=>by
 obtain⟨i,hi,rfl⟩:=Aj.1 hv;have k:=h.tm i (a.tmps[i]) (OO.X _ i);have e2:(qi9 (base f) a todo e).tmps=a.tmps:=by cases e<;>rfl
 rw[e2]at k;exact k (Az hi)
theorem qgr(OO:jN (gr.base.pen M))(hfn:Bh.funcs[f]?=some fn)(hts:∀v,v∈ts->Ok gr.A gr.F v){c:Code}(qK:qfa prog Fs Gs SN c=true)
   (hb:Both (gr.base.pen M) w z) (O:Outside (gr.base.pen M) Sh Fz T n h) (hL:qH T n h w) {Q:Exit->Act->AE->Prop} (hR:∀e v x y,x.heap=y.heap->Q e v x->Q e v y) (hc:∀W,z.heap=W.heap->c.wp prog Q ⟨ts,[]⟩ W) (hQ:∀e a w,Q e a w->Ends e)
   {k:List Item} 
   (next:∀e a' todo w' z',Both (gr.base.pen M) w' z'->Held (gr.base.pen M) w w'->FrE (gr.base.pen M) SN (qi9 (base f) a' todo e)->(∀v,v∈a'.tmps->Ok gr.A gr.F v)->(e=.normal->todo=[])->qH T n h w'->Q e a' z'->qc prog Post Sh Fz T n h 0 (G (qi9 (base f) ⟨a'.tmps,[]⟩ (todo++k) e) cs) w') :
   qc prog Post Sh Fz T n h 0 (G ((base f).at ⟨ts,[]⟩ (.code c::k)) cs) w:=
 qnb (a:=⟨ts,[]⟩) OO.zR (q8q OO hfn hts qK) hb O hL hR (λ_ _=>hc _ rfl) hQ (λe a' todo w' z' h1 h2 h3 h4 h5 h6=>next e a' todo w' z' h1 h2 h3 (qjZ OO h3) h4 h5 h6)
end
end
section
open Go.Conc Go.RowKit Go.ConcR.Gen
noncomputable def q9j:Code:=match qc2 with | .seq _ (.seq _ (.seq _ (.seq _ (.seq x _))))=>x|_=>.skip
theorem qyd:qc2=.seq vc (.seq ve (.seq vf (.seq vg (.seq q9j (.seq zD .ret))))):=rfl
theorem q0j:qfa prog Fs Gs SN vc=true:=by kernel_rfl
theorem q0k:qfa prog Fs Gs SN ve=true:=by kernel_rfl
theorem q0l:qfa prog Fs Gs SN vf=true:=by kernel_rfl
theorem q0m:qfa prog Fs Gs SN vg=true:=by kernel_rfl
theorem q0n:qfa prog Fs Gs SN zD=true:=by kernel_rfl
theorem qs4:qfa prog Fs Gs SN qy=true:=by kernel_rfl
theorem qmr{d k o b nv X fl x3 x4 x5 x9 x11 x12 x13 x14 x15 x16 x17 x18 x19 x20 x21 x22 x23 x24 x25 x26 x27 x28 x29 x30 x31 x32:AF}(hR:Blk y R 29 #[d,k,o,r]) :
   (results f13 (qar pv nv cv (.pointer (some ⟨R,0,none⟩)) X fl x3 x4 x5 b x9 x11 x12 x13 x14 x15 x16 x17 x18 x19 x20 x21 x22 x23 x24 x25 x26 x27 x28 x29 x30 x31 x32)).run prog y=.ok (.tuple #[.agg #[d,k,o,r],b]) y:=by
 have z0:=hR.cell 0;have z1:=hR.cell 1;have z2:=hR.cell 2;have z3:=hR.cell 3;simp[results,results13,qar,go_sem,z0,z1,z2,z3]
theorem q1t:∀(l:List Int),(∀x∈l,0<=x)->∀c:qh,turns (λc j=>(qa0 qa c ((j:Nat):Int)).getD c) N c (l.map Br)=qd2 qa N c l
 |[],_,_=>rfl
 |x::l,h,c=>by
  have h0:0<=x:=h x (by simp)
  have e:((x.toNat%N:Nat):Int)=x.tmod N:=by
   obtain⟨m,rfl⟩:=Bp h0;rfl
  have ih:=q1t l (λy hy=>h y (by simp[hy])) ((qa0 qa c (x.tmod N)).getD c);unfold turns qd2 at ih |-;simp only[List.map_cons,List.foldl_cons,e];exact ih
theorem q0o(h:∀x∈l,0<=x):(l.map Br).map (Int.ofNat ·)=l:=by
 rw[List.map_map]
 conv=>rhs;rw[<-List.map_id l]
 exact List.map_congr_left (λx hx=>Int.toNat_of_nonneg (h x hx))
theorem qvj(h:qcf l=true):l.length<=20/\∀x∈l,0<=x:=by
 unfold qcf at h;simp only[AB,decide_eq_true_eq,List.all_eq_true]at h;exact h
theorem HGB.yM{b:Nat}(h:HGB R z x){cs:Array AF}(hB:Blk z R 29 cs)(k:qI z b v c):qI x b v c:=by
 have e:qI {z with heap:=x.heap} b v c=qI x b v c:=rfl;rw[<-e];exact k.grown (w':={z with heap:=x.heap}) (row:=some R) ⟨rfl,rfl,rfl,h.size,λi hi hne=>h.block i hi (λe=>hne (by rw[e]))⟩ (qg.blk hB (by decide)) (qg.blk hB (by decide))
theorem DZ.hg{z₀:AE}{fl b0:Nat}{lk:Int}(h:DZ z₀ fl b0 lk pv qa c z):HGB fl z₀ z:=⟨h.size,h.block⟩
section
variable {gr:Grd}{M:Mks gr.base}{Post:AF->AE->Prop}{Sh:Nat->Prop}{Fz:Loc->Prop}{T:Nat->qz}{n0:Nat}{w z:AE}
theorem q0p(OO:jN (gr.base.pen M))(hfn:Bh.funcs[f]?=some fn)(hts:∀v,v∈ts->Ok gr.A gr.F v):FrE (gr.base.pen M) SN {(base f).at ⟨ts,[]⟩ []with mode:=.returning}:=
 ⟨λt v _ hv=>hts v (As hv),λit hi=>(by cases hi),rfl,rfl,rfl,λch e=>(by cases e),fn,hfn,λr _=>by cases r<;>exact OO.X f _⟩
theorem q0q(OO:∀M:Mks gr.base,jN (gr.base.pen M))(hb:Both (gr.base.pen M) w z){nw:Int}{a:Addr}
   (hp:RN z pv qa) (hl:RI z cv l) (hE:qp z a) (okp:Ok gr.A gr.F pv) (okc:Ok gr.A gr.F cv) (hx:∀x∈l,x<9223372036854775808)
   (O:jA (gr.base.pen M) Sh Fz) (hT:∀i,i≠0->T i=.left) (hn0:0<n0) (xx:n0<2000000000) {caller:AH} 
   (next:∀w' z' (M':Mks gr.base) Sh' Fz' T' n' v,M.Le M'->Both (gr.base.pen M') w' z'->HG z z'->jA (gr.base.pen M') Sh' Fz'->(∀r,Sh' r->Sh r∨w.heap.size<=r)->ql (gr.base.pen M) (λr=>w.heap.size<=r) w w'->(∀i,i≠0->T' i=.left)->n0<=n'->n'<=n0+4 ->
    Ok gr.A gr.F v->qI z' z.heap.size v ((qb8 qa nw l).getD qc4)->qc prog Post Sh' Fz' T' n' 0 0 (G (caller.finish (.tuple #[v,.bool (qb8 qa nw l).isSome])) cs) w') :
   qc prog Post Sh Fz T n0 0 0 (G ((base 13).at ⟨qar pv (.int .i64 nw) cv undef undef undef undef undef undef undef undef undef undef undef undef undef undef undef undef undef undef undef undef undef undef undef undef undef undef undef undef undef undef,[]⟩ [.code qc2]) (caller::cs)) w:=by
 have OM:=OO M
 have ok0:∀v,v∈qar pv (.int .i64 nw) cv undef undef undef undef undef undef undef undef undef undef undef undef undef undef undef undef undef undef undef undef undef undef undef undef undef undef undef undef undef undef->Ok gr.A gr.F v:=λv hv=>by
  simp only[qar,BK,BH,BJ,or_false]at hv
  rcases hv with rfl|rfl|rfl|rfl|rfl|rfl|rfl|rfl|rfl|rfl|rfl|rfl|rfl|rfl|rfl|rfl|rfl|rfl|rfl|rfl|rfl|rfl|rfl|rfl|rfl|rfl|rfl|rfl|rfl|rfl|rfl|rfl|rfl <;>
   first|exact okp|exact okc|exact .int _ _|exact .undef
 rw[qyd];refine qau ?_
 refine qgr OM func13 ok0 q0j hb (O.alone hT) (qgq hT)
  (Q:=λe a x=>e=.normal/\HG z x/\Blk x z.heap.size 29 qfl/\a.tmps=qar pv (.int .i64 nw) cv (.pointer (some ⟨z.heap.size,0,none⟩)) undef undef undef undef undef (.bool false) undef undef undef undef undef undef undef undef undef undef undef undef undef undef undef undef undef undef undef undef undef undef undef)
  (λe v x y exy h=>⟨h.1,h.2.1.heap exy,h.2.2.1.heap exy,h.2.2.2⟩)
  (λW eW=>AO (q6l pv cv nw W) (λe a x h=>by
   have hs:W.heap.size=z.heap.size:=by rw[eW]
   rw[hs]at h;exact⟨h.1,h.2.1.from eW.symm,h.2.2.1,h.2.2.2⟩)) (λe a w h=>by rw[h.1];trivial) ?_
 rintro e a1 td w1 z1 hb1 hh1-ok1 ht1 hL1 ⟨rfl,hg1,hR1,qfD⟩;rw[ht1 rfl];clear ht1 ok0;show qc prog Post Sh Fz T n0 0 0 (G ((base 13).at ⟨a1.tmps,[]⟩ [.code _]) (caller::cs)) w1;rw[qfD]at ok1 |-;refine qau ?_
 refine qgr OM func13 ok1 q0k hb1 (O.alone hT) hL1
  (Q:=λe a x=>e=.normal/\HG z1 x/\∃A1 n1 c1 A2 n2 c2 A3 n3 c3 A4 n4 c4 X x11 x12 x13 x14 x15 x16,z1.heap.size<=X/\Blk x X 29 #[.slice A1 n1 c1,.slice A2 n2 c2,.slice A3 n3 c3,.slice A4 n4 c4] /\
   qI x z1.heap.size (.agg #[.slice A1 n1 c1,.slice A2 n2 c2,.slice A3 n3 c3,.slice A4 n4 c4]) ((qbk qa nw).getD qc4)/\a.tmps=qar pv (.int .i64 nw) cv (.pointer (some ⟨z.heap.size,0,none⟩)) (.pointer (some ⟨X,0,none⟩)) undef undef undef undef (.bool false) (.bool (qbk qa nw).isSome) x11 x12 x13 x14 x15 x16 undef undef undef undef undef undef undef undef undef undef undef undef undef undef undef undef)
  (λe v x y exy h=>by
   obtain⟨h1,h2,A1,n1,c1,A2,n2,c2,A3,n3,c3,A4,n4,c4,X,x11,x12,x13,x14,x15,x16,h3,h4,h5,h6⟩:=h;exact⟨h1,h2.heap exy,A1,n1,c1,A2,n2,c2,A3,n3,c3,A4,n4,c4,X,x11,x12,x13,x14,x15,x16,h3,h4.heap exy,h5.heap exy,h6⟩)
  (λW eW=>AO (q6m pv cv nw qa W ((hg1.rn hp).heap eW) z.heap.size) (λe a x h=>by
   have hs:W.heap.size=z1.heap.size:=by rw[eW]
   rw[hs]at h;obtain⟨h1,h2,h3⟩:=h;exact⟨h1,h2.from eW.symm,h3⟩)) (λe a w h=>by rw[h.1];trivial) ?_
 rintro e a2 td w2 z2 hb2 hh2-ok2 ht2 hL2 ⟨rfl,hg2,A1,n1,c1,A2,n2,c2,A3,n3,c3,A4,n4,c4,X,x11,x12,x13,x14,x15,x16,hX,hBX,hF,qfE⟩;rw[ht2 rfl];clear ht2 ok1 qfD;show qc prog Post Sh Fz T n0 0 0 (G ((base 13).at ⟨a2.tmps,[]⟩ [.code _]) (caller::cs)) w2;rw[qfE]at ok2 |-;clear qfE;have hR2:=hg2.blk hR1;have qcX:=hg1.trans hg2;refine qau ?_
 refine qgr OM func13 ok2 q0l hb2 (O.alone hT) hL2
  (Q:=λe a x=>(((qbk qa nw).isSome&&qcf l)=true/\e=.normal/\x.heap=z2.heap/\∃x17 x18 x19 x20 x21 x22 x23 x24,a.tmps=qar pv (.int .i64 nw) cv (.pointer (some ⟨z.heap.size,0,none⟩)) (.pointer (some ⟨X,0,none⟩)) undef undef undef undef (.bool false) (.bool (qbk qa nw).isSome) x11 x12 x13 x14 x15 x16 x17 x18 x19 x20 x21 x22 x23 x24 undef undef undef undef undef undef undef undef) ∨
   (((qbk qa nw).isSome&&qcf l)=false/\e=.ret/\HGB z.heap.size z2 x/\Blk x z.heap.size 29 qfl/\∃x17 x18 x19 x20 x21 x22 x23 x24,a.tmps=qar pv (.int .i64 nw) cv (.pointer (some ⟨z.heap.size,0,none⟩)) (.pointer (some ⟨X,0,none⟩)) undef undef undef undef (.bool false) (.bool (qbk qa nw).isSome) x11 x12 x13 x14 x15 x16 x17 x18 x19 x20 x21 x22 x23 x24 undef undef undef undef undef undef undef undef))
  (λe v x y exy h=>h.imp (λk=>⟨k.1,k.2.1,exy.symm.trans k.2.2.1,k.2.2.2⟩) (λk=>⟨k.1,k.2.1,k.2.2.1.heap exy,k.2.2.2.1.heap exy,k.2.2.2.2⟩))
  (λW eW=>AO (q6n pv cv nw l W ((qcX.ri hl).heap eW) (qbk qa nw).isSome z.heap.size X (hR2.heap eW) x11 x12 x13 x14 x15 x16) (λe a x h=>h.imp (λk=>⟨k.1,k.2.1,by rw[k.2.2.1,eW],k.2.2.2⟩) (λk=>⟨k.1,k.2.1,k.2.2.1.from eW.symm,k.2.2.2.1,k.2.2.2.2⟩)))
  (λe a w h=>by rcases h with h|h<;>(rw[h.2.1];trivial)) ?_
 rintro e a3 td w3 z3 hb3 hh3-ok3 ht3 hL3 (⟨hok,rfl,ez3,x17,x18,x19,x20,x21,x22,x23,x24,qaN⟩|⟨hno,rfl,hg3,hR3,x17,x18,x19,x20,x21,x22,x23,x24,qaN⟩)
 . rw[ht3 rfl];clear ht3;show qc prog Post Sh Fz T n0 0 0 (G ((base 13).at ⟨a3.tmps,[]⟩ [.code _]) (caller::cs)) w3;rw[qaN]at ok3 |-;clear qaN;simp only[AB]at hok;obtain⟨hs,hch⟩:=hok;obtain⟨c0,hc0⟩:=Option.isSome_iff_exists.1 hs;obtain⟨qaO,qkA⟩:=qiv hc0;obtain⟨N,rfl⟩:=Bp (show 0<=nw by have:=qaO.d1;omega);have hss:qb8 qa (N:Nat) l=some (qd2 qa (N:Nat) c0 l):=qmm hc0 hch;rw[hss]at next;have hN1:1<=N:=by have:=qaO.d1;omega
   have hN4:N<=4:=by have:=qaO.d4;omega
   obtain⟨qmI,hnn⟩:=qvj hch;obtain⟨P,pn,pc,rfl,-,-,-⟩:=hp.form';have qcY:HG z z3:=qcX.heap ez3.symm;have qkB:=hBX.heap ez3.symm;have hR3:=hR2.heap ez3.symm;have hF3:=hF.heap ez3.symm;rw[hc0]at hF3;refine qau ?_
   refine qgr OM func13 ok3 q0m hb3 (O.alone hT) hL3
    (Q:=λe a x=>e=.normal/\HG z3 x/\Blk x z3.heap.size 66 #[.int .i32 0,.int .u32 0,.slice P pn pc,.slice A1 n1 c1,.slice A2 n2 c2,.slice A3 n3 c3,.slice A4 n4 c4]/\∃x25 x26 x27,a.tmps=qar (.slice P pn pc) (.int .i64 (N:Nat)) cv (.pointer (some ⟨z.heap.size,0,none⟩)) (.pointer (some ⟨X,0,none⟩)) (.pointer (some ⟨z3.heap.size,0,none⟩)) undef undef undef (.bool false) (.bool (qbk qa (N:Nat)).isSome) x11 x12 x13 x14 x15 x16 x17 x18 x19 x20 x21 x22 x23 x24 x25 x26 x27 undef undef undef undef undef)
    (λe v x y exy h=>⟨h.1,h.2.1.heap exy,h.2.2.1.heap exy,h.2.2.2⟩)
    (λW eW=>AO (q6o cv (N:Nat) W P pn pc z.heap.size X n1 c1 n2 c2 n3 c3 n4 c4 A1 A2 A3 A4 _ x11 x12 x13 x14 x15 x16 x17 x18 x19 x20 x21 x22 x23 x24 (qkB.heap eW)) (λe a x h=>by
     have hs:W.heap.size=z3.heap.size:=by rw[eW]
     rw[hs]at h;exact⟨h.1,h.2.1.from eW.symm,h.2.2.1,h.2.2.2⟩)) (λe a w h=>by rw[h.1];trivial) ?_
   rintro e a4 td w4 z4 hb4 hh4-ok4 ht4 hL4 ⟨rfl,hg4,hFl,x25,x26,x27,qfF⟩;rw[ht4 rfl];clear ht4;show qc prog Post Sh Fz T n0 0 0 (G ((base 13).at ⟨a4.tmps,[]⟩ [.code _]) (caller::cs)) w4;rw[qfF]at ok4 |-;clear qfF;have qaP:=qcY.trans hg4;have hA:gr.A ⟨z3.heap.size,0,none⟩:=(ok4 (.pointer (some ⟨z3.heap.size,0,none⟩)) (by simp[qar])).jb
   have hW:=qjQ (gr:=gr) (N:=N) (fl:=z3.heap.size) (b0:=z.heap.size) (csv:=cv) (chs:=l.map Br) (qa:=qa) (z₀:=z4) hA hFl qcY.size (qe0 hE) (qaP.rn hp) (qaP.err hE) (by rw[q0o hnn];exact qaP.ri hl)
    (λa0 n k e=>by subst e;exact okc.of_slice) (λi hi=>by
     rw[BM]at hi;rw[List.getElem_map];have h1:=hx _ (BL hi);have h2:=hnn _ (BL hi);omega)
   rw[<-hb4.rel.size]at hW;have hD:DZ z4 z3.heap.size z.heap.size 0 (.slice P pn pc) qa c0 z4:=⟨BO _,λ_ _ _=>rfl,⟨_,_,_,_,hFl,(hg4.yM hF3).low hg1.size⟩,qu4 qaO⟩
   have ok5:∀v,v∈qar (.slice P pn pc) (.int .i64 (N:Nat)) cv (.pointer (some ⟨z.heap.size,0,none⟩)) (.pointer (some ⟨X,0,none⟩)) (.pointer (some ⟨z3.heap.size,0,none⟩)) undef undef undef (.bool false) (.bool (qbk qa (N:Nat)).isSome) x11 x12 x13 x14 x15 x16 x17 x18 x19 x20 x21 x22 x23 x24 x25 x26 x27 (.int .i64 (N:Nat)) cv (.tuple #[]) undef undef->Ok gr.A gr.F v:=λv hv=>by
    simp only[qar,BK,BH,BJ,or_false]at hv ok4
    rcases hv with rfl|rfl|rfl|rfl|rfl|rfl|rfl|rfl|rfl|rfl|rfl|rfl|rfl|rfl|rfl|rfl|rfl|rfl|rfl|rfl|rfl|rfl|rfl|rfl|rfl|rfl|rfl|rfl|rfl|rfl|rfl|rfl|rfl <;>
     first|exact .undef|exact .int _ _|exact okc|exact ok4 _ (by simp)
   refine qau ?_;generalize hs6:zD=c6;simp only[q9j,qc2,f13,Option.getD_some,qar];refine qaz ?_;simp only[By,Bs,Bt,BQ,BW,List.range,List.range.loop];refine qao (.int .i64 (N:Nat)) rfl rfl (by decide) (λw=>by go_simp) (λw=>by simp[go_sem]) ?_;walk_nrm;refine qao cv rfl rfl (by decide) (λw=>by go_simp) (λw=>by simp[go_sem]) ?_;walk_nrm;refine qe9 (c:=qhd) rfl rfl (by decide) rfl func43 (by kernel_rfl) rfl ?_;walk_nrmf f43;have qmJ:w.heap.size<=w4.heap.size:=BN (BN (BN hh1.size hh2.size) hh3.size) hh4.size;refine qs3 (gr:=gr) (M:=M) (T:=T) hW (λM=>(OO M).zR) (λM=>(OO M).code qs4 _) hb4 hD O hT hn0 xx hN1 hN4 (by rw[BM];omega) (λw5 z5 M5 Sh5 Fz5 hle hb5 hD5 O5 hs5 hh5=>?_);walk_nrm;refine qai ?_;rw[q1t l hnn c0]at hD5;have hT5:∀i,i≠0->(λ_=>qz.left:Nat->qz) i=.left:=λ_ _=>rfl;have OM5:=OO M5;obtain⟨d,k,o,r,qkC,hF5⟩:=hD5.floor;obtain⟨B1,m1,e1,B2,m2,e2,B3,m3,e3,B4,m4,e4,ee⟩:=hF5.form;injection ee with ee;injection ee with ee;injection ee with ea ee;injection ee with eb ee;injection ee with ec ee;injection ee with ed ee;subst ea eb ec ed;clear ee;have qkD:z.heap.size<=z3.heap.size:=qcY.size;have yf:z.heap.size<z3.heap.size:=hR3.lt;have hR4:=hg4.blk hR3;have hR5:Blk z5 z.heap.size 29 qfl:=(hD5.block z.heap.size hR4.lt (by omega)).trans hR4;have qkE:HG z z5:=HGB.hg qaP hD5.hg qkD;subst hs6;refine qau ?_
   refine qgr (ts:=qar (.slice P pn pc) (.int .i64 (N:Nat)) cv (.pointer (some ⟨z.heap.size,0,none⟩)) (.pointer (some ⟨X,0,none⟩)) (.pointer (some ⟨z3.heap.size,0,none⟩)) undef undef undef (.bool false) (.bool (qbk qa (N:Nat)).isSome) x11 x12 x13 x14 x15 x16 x17 x18 x19 x20 x21 x22 x23 x24 x25 x26 x27 (.int .i64 (N:Nat)) cv (.tuple #[]) undef undef) OM5 func13 ok5 q0n hb5 (O5.alone hT5) (qgq hT5)
    (Q:=λe a x=>e=.normal/\HGB z.heap.size z5 x/\Blk x z.heap.size 29 #[.slice B1 m1 e1,.slice B2 m2 e2,.slice B3 m3 e3,.slice B4 m4 e4]/\∃x31 x32,a.tmps=qar (.slice P pn pc) (.int .i64 (N:Nat)) cv (.pointer (some ⟨z.heap.size,0,none⟩)) (.pointer (some ⟨X,0,none⟩)) (.pointer (some ⟨z3.heap.size,0,none⟩)) undef undef undef (.bool true) (.bool (qbk qa (N:Nat)).isSome) x11 x12 x13 x14 x15 x16 x17 x18 x19 x20 x21 x22 x23 x24 x25 x26 x27 (.int .i64 (N:Nat)) cv (.tuple #[]) x31 x32)
    (λe v x y exy h=>⟨h.1,h.2.1.heap exy,h.2.2.1.heap exy,h.2.2.2⟩)
    (λW eW=>AO (q6p cv (N:Nat) W z.heap.size z3.heap.size m1 e1 m2 e2 m3 e3 m4 e4 B1 B2 B3 B4 (.slice P pn pc) _ _ _ _ x11 x12 x13 x14 x15 x16 x17 x18 x19 x20 x21 x22 x23 x24 x25 x26 x27 _ _ _ (by omega) (hR5.heap eW) (qkC.heap eW)) (λe a x h=>⟨h.1,h.2.1.from eW.symm,h.2.2.1,h.2.2.2⟩)) (λe a w h=>by rw[h.1];trivial) ?_
   rintro e a6 td w6 z6 hb6 hh6-ok6 ht6 hL6 ⟨rfl,hg6,hR6,x31,x32,qkF⟩;rw[ht6 rfl];clear ht6;show qc prog Post Sh5 Fz5 _ (n0+N) 0 0 (G ((base 13).at ⟨a6.tmps,[]⟩ [.code .ret]) (caller::cs)) w6;rw[qkF]at ok6 |-;refine qcv rfl (λ_=>stepG_ret') ?_;refine qno (C:=gr.base.pen M5) (x:=.tuple #[.agg #[.slice B1 m1 e1,.slice B2 m2 e2,.slice B3 m3 e3,.slice B4 m4 e4],.bool true]) OM5.zR (q0p OM5 func13 ok6) rfl hb6 (O5.alone hT5) hL6 func13 (λd=>?_) ?_
   . show (results f13 (qar (.slice P pn pc) (.int .i64 (N:Nat)) cv (.pointer (some ⟨z.heap.size,0,none⟩)) (.pointer (some ⟨X,0,none⟩)) (.pointer (some ⟨z3.heap.size,0,none⟩)) undef undef undef (.bool true) (.bool (qbk qa (N:Nat)).isSome) x11 x12 x13 x14 x15 x16 x17 x18 x19 x20 x21 x22 x23 x24 x25 x26 x27 (.int .i64 (N:Nat)) cv (.tuple #[]) x31 x32)).run prog (z6.at d)=_;exact qmr (y:=z6.at d) hR6
   . intro w7 z7 hb7 ez7 hh7 qcZ hL7;have hgz:HG z z7:=(HGB.hg qkE hg6 (BO _)).heap ez7.symm;have hF7:=(hg6.yM hR5 hF5).heap ez7.symm
     exact next w7 z7 M5 Sh5 Fz5 _ (n0+N) _ hle hb7 hgz O5 (λr h=>(hs5 r h).imp id (λk=>BN (((hh1.trans hh2).trans hh3).trans hh4).size k))
      ((((((hh1.trans hh2).trans hh3).trans hh4).but).trans (hh5.mono (λr hr=>by omega))).trans (((hh6.trans hh7).but).down hle)) hT5 (by omega) (by omega) (qcZ.zm _ (by simp)) hF7
 . have hsn:qb8 qa nw l=none:=by
    rw[Bool.and_eq_false_iff]at hno;exact qf8 (hno.imp (λk=>by simpa using k) id)
   rw[hsn]at next;show qc prog Post Sh Fz T n0 0 0 (G {(base 13).at ⟨a3.tmps,[]⟩ (td++_)with mode:=.returning} (caller::cs)) w3;rw[qaN]at ok3 |-;refine qno (C:=gr.base.pen M) (x:=.tuple #[.agg #[.slice none 0 0,.slice none 0 0,.slice none 0 0,.slice none 0 0],.bool false]) OM.zR (q0p OM func13 ok3) rfl hb3 (O.alone hT) hL3 func13 (λd=>?_) ?_
   . show (results f13 (qar pv (.int .i64 nw) cv (.pointer (some ⟨z.heap.size,0,none⟩)) (.pointer (some ⟨X,0,none⟩)) undef undef undef undef (.bool false) (.bool (qbk qa nw).isSome) x11 x12 x13 x14 x15 x16 x17 x18 x19 x20 x21 x22 x23 x24 undef undef undef undef undef undef undef undef)).run prog (z3.at d)=_;exact qmr (y:=z3.at d) hR3
   . intro w4 z4 hb4 ez4 hh4 qkG hL4;have hgz:HG z z4:=(HGB.hg qcX hg3 (BO _)).heap ez4.symm;exact next w4 z4 M Sh Fz T n0 _ (Mks.Le.refl M) hb4 hgz O (λr h=>.inl h) ((((hh1.trans hh2).trans hh3).trans hh4).but) hT (BO _) (by omega) (qkG.zm _ (by simp)) (qI.zero _ _)
end
end
section
open Go.Conc Go.RowKit
section
variable {P:AL}{Post:AF->AE->Prop}{g:Goroutine}{w:AE}
theorem q38(h:qc P Post (λ_=>False) (λ_=>False) (λ_=>.left) 1 0 0 g w):vV P Post #[g] w #[]:=by
 refine h.lead #[g] #[] (λ_=>0) ⟨rfl,rfl,λi x hi hx=>?_,λi s h1 h2 h3=>(by cases h3),λi j s s' _ _ _ _ h3=>(by cases h3),⟨?_,λi a ha=>?_,λk _ i a ha=>?_,λop ho=>(by simp at ho),λi a ha=>?_,λk l hk=>?_,λi k hg=>?_⟩,rfl,λj _=>rfl⟩
 . exfalso;have:=(Ab.1 hx).1;simp at this;omega
 . rintro said ⟨i,j,-,⟨a,b,h1,-⟩,-⟩;obtain⟨x,hx,_⟩:=AY h1;simp at hx
 . obtain⟨x,hx,_⟩:=AY ha;simp at hx
 . obtain⟨x,hx,_⟩:=AY ha;simp at hx
 . obtain⟨x,hx,_⟩:=AY ha;simp at hx
 . obtain⟨_,_,s,h3,_⟩:=hk;cases h3
 . simp[Trace.g?]at hg
theorem qym{Sh:Nat->Prop}{Fz:Loc->Prop}{fr:AH}(hm:fr.mode=.returning)(hdf:fr.defers=[])(hkind:fr.kind=.normal){fn':Func}(hf:P.funcs[fr.fn]?=some fn'){x:AF}
   (yx:P.inits.idxOf? fr.fn=none) (hres:∀w,(results fn' fr.tmps).run P w=.ok x w) (hev:∀w,(results fn' fr.tmps).events P w #[]=#[]) (hT:∀i,i≠0->T i=.left) (hn:0<n) (hpost:∀d,Post x (w.at d)):qc P Post Sh Fz T n 0 0 (G fr []) w:=λe=>by
 have hw:qc P Post Sh Fz (λi=>if i=0 then .left else T i) n 0 0 (G fr []) w:=λe=>by
  refine q7r rfl (λi _ h0=>?_) (λi hi=>?_) (λd=>⟨x,w.at d,seen P fr.fn #[],?_,?_,hpost d⟩)
  . show (if i=0 then qz.left else T i)=_;rw[if_neg h0];exact hT i h0
  . show (if i=0 then qz.left else T i)=_;rw[if_neg (by omega)];exact hT i (by omega)
  . show stepG P true (G fr []) (w.at d)=_;simp[G,stepG,unwind,hm,hdf,hf,doReturn,hkind,GStep.after,hres,hev,yx]
  . intro e he;have:=mem_seen he;simp at this
 have key:∀gs t q,qB P Sh Fz T n 0 0 (G fr []) (w.at e) gs t q->qB P Sh Fz (λi=>if i=0 then .left else T i) n 0 0 (G fr []) (w.at e) gs t q:=λgs t q H=>by
  have eT:∀i,i≠0->(if i=0 then qz.left else T i)=T i:=λi h=>if_neg h;refine⟨H.size,H.here,λi x hi hx=>by rw[eT i hi];exact H.ja i x hi hx,λi s hi hn h3=>H.fact i s hi hn (by rw[<-eT i hi];exact h3),λi j s s' hi hj hni hnj h3 h4=>H.apart i j s s' hi hj hni hnj (by rw[<-eT i hi];exact h3) (by rw[<-eT j hj];exact h4),?_,H.deaf,H.above⟩
  have e1:StT (λi=>if i=0 then qz.left else T i) n 0=StT T n 0:=by
   funext k l;unfold StT;apply propext;constructor
   . rintro⟨h1,h2,s,h3,h4⟩;exact⟨h1,h2,s,by rw[<-eT k h1];exact h3,h4⟩
   . rintro⟨h1,h2,s,h3,h4⟩;exact⟨h1,h2,s,(eT k h1).trans h3,h4⟩
  have e2:LfT (λi=>if i=0 then qz.left else T i) 0=LfT T 0:=by
   funext k;unfold LfT;apply propext;constructor
   . rintro⟨h1,h2⟩;exact⟨h1,by rw[<-eT k h1];exact h2⟩
   . rintro⟨h1,h2⟩;exact⟨h1,(eT k h1).trans h2⟩
  rw[e1,e2];exact H.jr
 exact λgs t q H=>hw e gs t q (key gs t q H)
theorem qkH{Sh:Nat->Prop}{Fz:Loc->Prop}(hfn:P.funcs[f]?=some fn)(yx:P.inits.idxOf? f=none)(hr:fn.results=#[.tmp t])(hv:ts[t]?=some v)(hT:∀i,i≠0->T i=.left)(hn:0<n)
   (hpost:∀d,Post v (w.at d)):qc P Post Sh Fz T n 0 0 (G {(base f).at ⟨ts,[]⟩ todo with mode:=.returning} []) w:=by
 have e1:ts[t]?.getD undef=v:=by
  rw[hv];rfl
 refine qym rfl rfl rfl hfn yx (x:=v) (λw=>?_) (λw=>?_) hT hn hpost
 . show (results fn ts).run P w=_;simp[results,hr,go_sem,e1]
 . show (results fn ts).events P w #[]=_;simp[results,hr,go_sem]
end
section
variable {C:Pen}{S:List String}{Post:AF->AE->Prop}{Sh:Nat->Prop}{Fz:Loc->Prop}{T:Nat->qz}{n h dd:Nat}{w z z2:AE}
 {b:AH} {a:Act} {k:List Item} {cs:List AH} {ops:Array Oper} {i:Nat} {rest:List Nat} {o:Oper} {X:Nat->Prop}
theorem q7b(H:jd C S)(hoo:kY C S o.op)(hev:∀x,x∈o.op.operands->Ok C.A C.F (a.eval x))(hb:Both C w z)(O:Outside C Sh Fz T n h)(hL:qH T n h w)(v:AF)(hnx:nx=.value v∨(nx=.skip/\v=undef))(ho:ops[i]?=some o)(hw:Bi o (yielded ops a.tmps)=true)(hk:b.kind≠.early)
   (hr:∀d,(execOp a.eval o).run C.P (z.at d)=.ok nx (z2.at d))
   (next:∀w' d,Both C w' (z2.at d)->Held C w w'->Ok C.A C.F v->qH T n h w'->qc C.P Post Sh Fz T n h dd (G (b.at (a.put o.dst v) (.inRegion ops rest::k)) cs) w') :
   qc C.P Post Sh Fz T n h dd (G (b.at a (.inRegion ops (i::rest)::k)) cs) w:=by
 refine λe=>qpk rfl (λd=>?_);have hk':qd C (execOp a.eval o) (qoh C):=qoi H.xO hev hoo;have ho':=hk' (w.at d) (z.at d) #[] (hb.at d).rel (λk q _ _=>by rw[show (w.at d).tape=(z.at d).tape from hb.tape.symm]);rw[hr d]at ho';obtain⟨w2,new,h1,h2,h3,h4⟩:=ho';rw[Sem.runT_eq]at h1;have h5:(execOp a.eval o).run C.P (w.at d)=.ok nx w2:=(Prod.mk.inj h1).1;have h6:(execOp a.eval o).events C.P (w.at d) #[]=new:=by have:=(Prod.mk.inj h1).2;simpa using this
 obtain⟨h7,h8⟩:=qhy (w:=w.at d) O (hL.at d) (qjc (C:=C) h3 b.fn);refine⟨G (b.at (a.put o.dst v) (.inRegion ops rest::k)) cs,w2,seen C.P b.fn new,?_,h7,?_⟩
 . show stepG C.P (h==0) _ (w.at d)=_;rcases hnx with rfl|⟨rfl,rfl⟩
   . rw[stepG_value ho hw hk h5];unfold listed;rw[h6]
   . rw[stepG_none ho hw hk h5];unfold listed;rw[h6]
 . rw[h8 dd]
   have ht2:z2.tape=z.tape:=by
    have:=qjw C.P (execOp a.eval o) (z.at d);rw[hr d]at this;exact this.1
   have hb2:Both C w2 (z2.at d):=⟨h2,by rw[h3.tape];exact ht2.trans hb.tape⟩
   have hv:Ok C.A C.F v:=by
    rcases hnx with rfl|⟨rfl,rfl⟩
    . exact h4
    . exact .undef
   exact(next w2 d hb2 (Held.trans (show Held C w (w.at d)from⟨λ_ _=>rfl,BO _,rfl,rfl,rfl,.of rfl⟩) h3.held) hv (λi s hi hn hT=>(h7.fact i s hi hn hT).1)).lead
end
def XOk(gr:Grd)(XL:Nat->Bool)(ts:Array AF):Prop:=∀(t:Nat) (v:AF),XL t=false->ts[t]?=some v->Ok gr.A gr.F v
theorem XOk.set(h:XOk gr XL ts)(hv:XL t=true∨Ok gr.A gr.F v):XOk gr XL (ts.setIfInBounds t v):=λu x hu hx=>by
 rw[Ap]at hx;split at hx
 . rename_i e;split at hx
   . injection hx with hx;subst e hx;rcases hv with hv|hv
     . rw[hv]at hu;cases hu
     . exact hv
   . cases hx
 . exact h u x hu hx
theorem XOk.of(h:∀v,v∈ts->Ok gr.A gr.F v)(XL:Nat->Bool):XOk gr XL ts:=λ_ v _ hv=>h v (As hv)
theorem XOk.all(h:XOk gr (λ_=>false) ts):∀v,v∈ts->Ok gr.A gr.F v:=λv hv=>by
 obtain⟨i,hi,rfl⟩:=Aj.1 hv;exact h i _ rfl (Az hi)
def qmv(XL:Nat->Bool):AM->Bool
 | .tmp t=>!XL t
 |_=>true
def opX(XL:Nat->Bool)(o:Oper):Bool:=o.op.operands.all (qmv XL)
theorem qt7{M:Mks gr.base}(OO:jN (gr.base.pen M)){Post:AF->AE->Prop}{Sh:Nat->Prop}{Fz:Loc->Prop}{z2:AE}{k:List Item}
   (qK:qfa prog Fs Gs SN (.region 0 #[o] false)=true) (hx:opX XL o=true) (ht:XOk gr XL a.tmps) (hb:Both (gr.base.pen M) w z) (O:Outside (gr.base.pen M) Sh Fz T n h) (hL:qH T n h w)  (v:AF) (hnx:nx=.value v∨(nx=.skip/\v=undef))
   (ho:ops[i]?=some o) (hw:Bi o (yielded ops a.tmps)=true) (hk:b.kind≠.early) (hr:∀d,(execOp a.eval o).run prog (z.at d)=.ok nx (z2.at d))
   (next:∀w' d,Both (gr.base.pen M) w' (z2.at d)->Held (gr.base.pen M) w w'->Ok gr.A gr.F v->XOk gr XL (a.put o.dst v).tmps->qH T n h w'->qc prog Post Sh Fz T n h 0 (G (b.at (a.put o.dst v) (.inRegion ops rest::k)) cs) w') :
   qc prog Post Sh Fz T n h 0 (G (b.at a (.inRegion ops (i::rest)::k)) cs) w:=by
 have hco:=OO.code qK 0;rw[OO.x]at hco;have ho1:=hco o (by simp);refine q7b (C:=gr.base.pen M) OO.zR ho1.1 (λx hxo=>?_) hb O hL v hnx ho hw hk hr (λw' d h1 h2 h3 h4=>next w' d h1 h2 h3 ?_ h4)
 . have hx':=ho1.2 x hxo
   have hx2:qmv XL x=true:=by
    obtain⟨j,hj,rfl⟩:=Aj.1 hxo;exact Array.all_eq_true.1 hx j hj
   cases x with
   |tmp t=>
    show Ok gr.A gr.F (a.tmps.getD t undef);rw[Ay];cases ht':a.tmps[t]? with
    |none=>exact .undef
    |some v=>exact ht t v (by simpa[qmv]using hx2) ht'
   |const v=>exact hx'
   |global g=>exact .ptr hx'
   |func f=>exact .func hx' (λv hv=>by simp at hv) (λv hv=>by simp at hv)
 . cases hd:o.dst with
   |none=>exact ht
   |some t=>exact ht.set (.inr h3)
def qfG(b:Bool)(k:Nat)(o:Obj):Obj:=match b,o with
 |true,.cells c e _=>.cells (c.extract 0 k) e (0,0)
 |_,o=>o
def vu(Pt:Nat->Bool)(κ:Nat->Nat)(w:AE):AE:={w with heap:=w.heap.mapIdx (λi o=>qfG (Pt i) (κ i) o)}
section
variable {Pt:Nat->Bool}{κ:Nat->Nat}{w:AE}
theorem xj:(vu Pt κ w).heap.size=w.heap.size:=by simp[vu]
theorem q1x(r:Nat):(vu Pt κ w).heap[r]?=(w.heap[r]?).map (qfG (Pt r) (κ r)):=by simp[vu]
theorem qpt{r:Nat}(h:Pt r=false):(vu Pt κ w).heap[r]?=w.heap[r]?:=by
 rw[q1x,h];cases w.heap[r]?<;>rfl
theorem qkI{r:Nat}(h:Pt r=true){c:Array AF}{fr:Nat×Nat}(hw:w.heap[r]?=some (.cells c e fr)):(vu Pt κ w).heap[r]?=some (.cells (c.extract 0 (κ r)) e):=by
 rw[q1x,h,hw];rfl
theorem q01{c:Array AF}(h:(c.extract 0 k)[i]?=some v):i<k/\c[i]?=some v:=by
 have hlt:=(Ab.1 h).1;simp only[At]at hlt;rw[AA]at h;rw[if_pos hlt,BW]at h;exact⟨by omega,h⟩
theorem qkJ{C:Pen}(hN:C.N<=w.heap.size)(hPt:∀r,C.Pt r↔Pt r=true)
   (qdA:∀r,Pt r=true->∃c e fr,w.heap[r]?=some (.cells c e fr)/\(C.Z r->κ r=0)/\(∀i v,i<κ r->c[i]?=some v->C.A ⟨r,i,none⟩->Ok C.A C.F v/\¬(fr.1<=i/\i<fr.2))/\(fr=(0,0)∨(r=C.G/\0<c.size))/\(r=C.G->κ r<=C.K))
   (qkK:∀r o,C.B r->Pt r=false->w.heap[r]?=some o->qdH C r o) (hch:∀r,¬C.Ch r):Both C w (vu Pt κ w):=by
 refine⟨⟨xj.symm,rfl,hN,λr hp=>?_,λr _ hp=>(qpt ?_).symm,λr o hB hp ho=>?_,λr hc=>absurd hc (hch r),rfl⟩,rfl⟩
 . have hp':=(hPt r).1 hp;obtain⟨c,e,fr,h1,h2,h3,h4,h5⟩:=qdA r hp';refine⟨c.extract 0 (κ r),c,e,fr,qkI hp' h1,h1,by simp only[At];omega,λhz=>by rw[h2 hz];simp,λi v hv=>?_,h4,λhG=>?_⟩
   . obtain⟨k1,k2⟩:=q01 hv;exact⟨k2,h3 i v k1 k2⟩
   . have:=h5 hG;simp only[At];omega
 . cases hr:Pt r with
   |false=>rfl
   |true=>exact absurd ((hPt r).2 hr) hp
 . have hf:Pt r=false:=by
    cases hr:Pt r with
    |false=>rfl
    |true=>exact absurd ((hPt r).2 hr) hp
   rw[qpt hf]at ho;exact qkK r o hB hf ho
end
noncomputable def gE:Nat:=0
noncomputable def gH:Nat:=Bh.globals.size
structure Start(W:AE)(ea:Addr):Prop where
 g:Blk W gE 119 #[.iface 244 (.pointer (some ea))]
 h:∃c e,W.heap[gH]?=some (.cells c e (0,0))/\∀(i:Nat) (b:Int),c[i]?≠some (.int .u8 b)
 e:∃c t,W.heap[ea.block]?=some (.cells c t (0,0))
 ne:ea.block≠gE
 gh:gE≠gH
def A1(N0 g o:Nat)(a:Addr):Prop:=N0<=a.block∨a.block=gE∨a.block=gH∨(a.block=g/\o<=a.off)
def A2(N0 g:Nat)(ea a:Addr):Prop:=N0<=a.block∨a.block=gE∨a.block=gH∨a.block=g∨a.block=ea.block
noncomputable def gr2(N0 g:Nat)(ea:Addr):Grd where
 A:=A2 N0 g ea
 F:=λf=>Fs f=true
 N0:=N0
 fresh:=λ_ h=>.inl h
 up:=λa b h e _=>by unfold A2 at *;rw[e];exact h
 G:=g
 K:=0
 X:=λ_ _=>False
section
variable {N0 g o c:Nat}{ea:Addr}
theorem q86(M:Mks (gr2 N0 g ea).base):jN ((gr2 N0 g ea).base.pen M):=⟨rfl,λ_=>Iff.rfl,λ_ _ h=>h,.inr (.inr (.inl rfl)),.inr (.inl rfl)⟩
end
noncomputable def pt2(N0 g:Nat)(cs:Array AF)(ea:Addr)(r:Nat):Bool:=decide (r<N0/\r≠gE/\(r=gH∨(r=g/\cs.size≠0)∨r=ea.block))
noncomputable def mk2(N0 g:Nat)(cs:Array AF)(ea:Addr):Mks (gr2 N0 g ea).base where
 N:=N0
 ge:=BO _
 Pt:=λr=>pt2 N0 g cs ea r=true
 Z:=λr=>pt2 N0 g cs ea r=true
 Ch:=λ_=>False
 old:=λr h=>by
  rcases h with h|h
  . exact(of_decide_eq_true h).1
  . exact h.elim
 zp:=λr h=>h
section
variable {W:AE}{ea:Addr}{v:AF}{n g o c:Nat}{cs:Array AF}{e:AG}{fr:Nat×Nat}
theorem qmw{r:Nat}{ob:Obj}(h:W.heap[r]?=some ob):r<W.heap.size:=(Ab.1 h).1
theorem q87(S:Start W ea){w1:AE}(hold:∀r,r<W.heap.size->w1.heap[r]?=W.heap[r]?):qp (vu (pt2 W.heap.size g cs ea) (λ_=>0) w1) ea:=by
 have h1:(vu (pt2 W.heap.size g cs ea) (λ_=>0) w1).heap[gE]?=some (.cells #[.iface 244 (.pointer (some ea))] 119 (0,0)):=by
  rw[qpt (decide_eq_false (λh=>h.2.1 rfl)),hold _ (qmw S.g)];exact S.g
 show Bj _ ⟨gE,0,none⟩=_;rw[cell_of_row _ gE 0 _ _ _ h1];rfl
end
structure Old(W:AE)(ea:Addr)(g:Nat)(cs:Array AF)(M:Mks (gr2 W.heap.size g ea).base)(w z:AE):Prop where
 size:W.heap.size<=w.heap.size
 old:∀r,r<W.heap.size->w.heap[r]?=W.heap[r]?
 os:w.os=W.os
 output:w.output=W.output
 tape:w.tape=W.tape
 kn:∀r,r<W.heap.size->((gr2 W.heap.size g ea).base.pen M).B r->pt2 W.heap.size g cs ea r=false->z.heap[r]?=W.heap[r]?
 le:(mk2 W.heap.size g cs ea).Le M
def qO(W:AE)(v:AF)(w:AE):Prop:=v=.bool true/\W.heap.size<=w.heap.size/\(∀r,r<W.heap.size->w.heap[r]?=W.heap[r]?)/\w.os=W.os/\w.output=W.output/\w.tape=W.tape
section
variable {W:AE}{ea:Addr}{v:AF}{n g o c:Nat}{cs:Array AF}{e:AG}{fr:Nat×Nat}
theorem Old.step{M M':Mks (gr2 W.heap.size g ea).base}(h:Old W ea g cs M w z)(hb':Both ((gr2 W.heap.size g ea).base.pen M') w' z')(hle:M.Le M')(hh:ql ((gr2 W.heap.size g ea).base.pen M) (λr=>w.heap.size<=r) w w')(hz:z.heap.size=w.heap.size)(hg:HG z z') :
   Old W ea g cs M' w' z':=by
 have hkn:∀r,r<W.heap.size->((gr2 W.heap.size g ea).base.pen M).B r->pt2 W.heap.size g cs ea r=false->z'.heap[r]?=W.heap[r]?:=λr hr hB hp=>by
  rw[hg.block r (by rw[hz];exact BP hr h.size)];exact h.kn r hr hB hp
 refine⟨BN h.size hh.size,λr hr=>?_,hh.os.trans h.os,hh.output.trans h.output,hh.tape.trans h.tape,hkn,h.le.trans hle⟩;have hX:¬w.heap.size<=r:=by have:=h.size;omega
 by_cases hB:((gr2 W.heap.size g ea).base.pen M).B r
 . cases hp:pt2 W.heap.size g cs ea r with
   |true=>
    rw[hh.block r hX (.inr (.inl (h.le.z r hp)))];exact h.old r hr
   |false=>
    have hn:¬M'.Pt r:=λk=>by
     rcases (h.le.trans hle).nw r k with k|k
     . have:pt2 W.heap.size g cs ea r=true:=k;rw[hp]at this;cases this
     . have:W.heap.size<=r:=k;omega
    rw[hb'.rel.same r hB hn];exact hkn r hr hB hp
 . rw[hh.block r hX (.inl hB)];exact h.old r hr
theorem Old.fin{M:Mks (gr2 W.heap.size g ea).base}(h:Old W ea g cs M w z)(d:Nat):qO W (.bool true) (w.at d):=⟨rfl,h.size,h.old,h.os,h.output,h.tape⟩
end
end
section
open Go.ChangeShapes Go.WideShapes Go.ChangeAt Go.RowKit Go.Deep Go.Conc Go.ConcM
theorem qeq{H:Type}{enc:AG×AF->H}{a:Assume}{os:Os}{F:Stop.Interp}{fresh handsOn:Bool}{X:AE->Array AF->Prop}
   (hX:∀(w w':AE) (args:Array AF),w.heap=w'.heap->X w args->X w' args)
   (own:ownKnob C.prog.godebug=none) (started:os.Started) (hfn:C.prog.funcs[f]?=some fn)
   (witness:∃(w:AE) (tape:Tape) (i:Input),w.os=os/\(w.forCall tape i).Shaped C.prog/\i.vars=[]/\Bc C.prog (w.forCall tape i) .any w.heap.size f i /\
    ((s.pre enc C.prog fn conds apart (w.forCall tape i).memory i.args/\X (w.forCall tape i).memory i.args)/\sizedMet enc C.prog fn (Bg s) apart (w.forCall tape i).memory i.args)/\a.holds C.prog (lone (B9 C.prog f i.args .normal) [] (w.forCall tape i)))
   (runs:∀(W:AE) (base:Nat) (args:Array AF) (ds gs:List (AQ H)) (before:List MemPlace),
    (∀(j:Nat) t v,fn.params[j]?=some t->args[j]?=some v->okWide C.prog W .any base t v) ->
    DataW.Whole enc C.prog fn.params.toList s.vars apart W args.toList ds gs before->X W args->W.ShapedOpen C.prog ->
    ∃M last o w' t',runNT C.prog (M+1) (solo (G (B9 C.prog f args .normal) []) W) #[]=(.ended o w',t')/\runN C.prog M (solo (G (B9 C.prog f args .normal) []) W)=.next last /\
     step C.prog last=.ended o w'/\AZ C.prog (λv W'=>s.post enc C.prog fn apart fresh handsOn false W args v {W' with os:=W.os}/\OsLater W.os W'.os) last o w' t') :
   ReturnsInLeavingWide a C os f .any (λw args=>(s.pre enc C.prog fn conds apart w args/\X w args)/\sizedMet enc C.prog fn (Bg s) apart w args) ((Bg s).postWith enc C.prog fn F (outsideKept [.timePasses]) apart fresh handsOn):=by
 refine returnsInLeavingWide_of_good own started witness ?_;intro w tape i _ hsh _ hok hpre _;obtain⟨_,_,_,fn',hfn',_,_,_,_,hval⟩:=hok;have e:fn'=fn:=C6 (hfn'.symm.trans hfn);subst e;obtain⟨⟨⟨ds,gs,before,hw,_⟩,hx⟩,_⟩:=hpre;have hw':=DataW.Whole.of_heap (w':=w.forCall tape i) (by rfl) hw;obtain⟨M,last,o,w',t',h1,h2,h3,h4⟩:=runs (w.forCall tape i) w.heap.size i.args ds gs before hval hw' (hX _ _ _ (by rfl) hx) hsh;obtain⟨v,e,hp,r1,r2,r3,r4⟩:=h4;exact⟨M,last,o,w',t',h1,h2,h3,v,e,postWith_blind (postWith_of_post hp.1 hp.2),r1,r2,r3,r4⟩
theorem qnj{n nm:String}{text:List UInt8}{r:List (String×AQ Unit)}{ti tp te ts:AG}{ms:Array (String×AG)}{f:Field}
   (h:laidMet P ((n,.iface nm (.ptr (.agg [.lit (.string text)])))::r) W)
   (hg:P.globalNamed n=some g) (ht:(P.globals[g]?).map (·.type)=some ti) (hi:P.underlying ti=some (.interface ms)) (hrow:∀u,P.typeName? 3 u=some nm->u=tp)
   (hp:P.underlying tp=some (.pointer te)) (he:P.underlying te=some (.struct #[f])) (hft:f.type=ts) (hfo:f.offset=0) (hs:P.underlying ts=some .string) (hc:P.cellsOf te=1) (hcs:P.cellsOf ts=1) :
   ∃(a:Addr) (s:ByteArray) (t:AG),W.heap[g]?=some (.cells #[.iface tp (.pointer (some a))] t (0,0))/\W.cell? a=some (.string s)/\∃c t,W.heap[a.block]?=some (.cells c t (0,0)):=by
 obtain⟨ps,⟨g0,t0,cs0,f0,p0,q0,hg0,ht0,hv0,hd0,_,e0⟩,_,hrows⟩:=h;obtain rfl:=C6 (hg.symm.trans hg0);obtain rfl:=C6 (ht.symm.trans ht0);subst e0;obtain⟨l0⟩:=cs0
 have ok0:∀u v,l0=[.iface u v]->okWide P W .any 0 u v:=λu v e=>by
  subst e;exact(hrows g 0 (by simp[MemPlace.row])).2 u v (by simpa using World.var?_cell hg0 hv0 0)
 obtain⟨a0,s0,rfl,hc0,_,_,rfl⟩:=errorString_of_trod hi hrow hp he hft hfo hs hc hcs hd0 ok0;have h1:=(hrows g 0 (by simp[MemPlace.row])).1;have h2:=(hrows a0.block a0.off (by simp[MemPlace.row])).1;obtain⟨c1,t1,h1⟩:=h1;refine⟨a0,s0,t1,?_,hc0,h2⟩;simp only[World.var?,hg,Option.bind_some]at hv0;rw[h1]at hv0 |-;simp only[C7]at hv0;rw[hv0]
def qkL:AF->Bool
 | .int .u8 _=>false
 |_=>true
def qz3:Option Obj->Bool
 |some (.cells c _ (0,0))=>c.all qkL
 |_=>false
theorem qxm{x:Option Obj}(h:qz3 x=true):∃c e,x=some (.cells c e (0,0))/\∀(i:Nat) (b:Int),c[i]?≠some (.int .u8 b):=by
 unfold qz3 at h;split at h
 . rename_i c e;refine⟨c,e,rfl,λi b hb=>?_⟩;have:=Am.1 h _ (As hb);cases this
 . cases h
theorem qz4:qz3 (begin prog (λ_ _=>0) default).world.heap[gH]?=true:=by kernel_rfl
theorem q8b{rest:List (String×AQ Unit)}(hsh:W.ShapedOpen prog)(h:laidMet prog (("loop.example/workplans/impl.errTurn",Rows.laid_loop_example_workplans_impl_errTurn)::rest) W):∃ea,Start W ea:=by
 obtain⟨a,s,t,hg,ha,hb⟩:=qnj h gEt qeY underlying119 qcO underlying244 underlying268 rfl rfl underlying9 (by kernel_rfl) (by kernel_rfl)
 have ht:t=119:=by
  obtain⟨cs,h1,_⟩:=hsh.1 0 #[.nilIface] 119 (of_decide_eq_true (by kernel_rfl)) (by kernel_rfl);rw[hg]at h1;injection h1 with h1;injection h1
 subst ht;obtain⟨c0,e0,k0,hu⟩:=qxm qz4;obtain⟨ob,ob0,k1,k2,k3⟩:=hsh.2 gH (BO _) (Ab.1 k0).1;rw[k0]at k2;cases k2
 have k3':ob=.cells c0 e0 (0,0):=by
  rw[show gH-Bh.globals.size=0 from BU _]at k3;simpa[World.looseAt]using k3
 subst k3';refine⟨a,hg,⟨_,_,k1,hu⟩,hb,λhn=>?_,by decide⟩
 . obtain⟨g,o,sp⟩:=a;have hn':g=gE:=hn;subst hn';obtain⟨hsp,c,e,fr,hb2,hlt⟩:=qdt ha;have hx:=q98 (w:=W) hsp hb2 ha;rw[show W.heap[gE]?=_ from hg]at hb2;cases hb2
   have:o=0:=by
    have:o<1:=by simpa using hlt
    omega
   subst this;simp at hx
theorem qxn{H:Type}{enc:AG×AF->H}{os:Os}{X:AE->Array AF->Prop}(w0:AE)(args:Array AF)(fuel:Nat)(hos:w0.os=os)
   (hsh:(w0.forCall (λ_ _=>0) ⟨#[],args,[]⟩).Shaped C.prog)
   (hok:Input.okWideB C.prog (w0.forCall (λ_ _=>0) ⟨#[],args,[]⟩) f ⟨#[],args,[]⟩=true)
   (hpre:s.preB enc C.prog fn conds apart (w0.forCall (λ_ _=>0) ⟨#[],args,[]⟩).memory args fuel=true)
   (hsz:s.sizedB enc C.prog fn apart (w0.forCall (λ_ _=>0) ⟨#[],args,[]⟩).memory args fuel=true)
   (hx:X (w0.forCall (λ_ _=>0) ⟨#[],args,[]⟩).memory args) :
   ∃(w:AE) (tape:Tape) (i:Input),w.os=os/\(w.forCall tape i).Shaped C.prog/\i.vars=[]/\Bc C.prog (w.forCall tape i) .any w.heap.size f i /\
    ((s.pre enc C.prog fn conds apart (w.forCall tape i).memory i.args/\X (w.forCall tape i).memory i.args)/\sizedMet enc C.prog fn (Bg s) apart (w.forCall tape i).memory i.args)/\({calm:=true}:Assume).holds C.prog (lone (B9 C.prog f i.args .normal) [] (w.forCall tape i)):=
 ⟨w0,λ_ _=>0,⟨#[],args,[]⟩,hos,hsh,(Bb (base:=0) hok).1,(Bb hok).2,⟨⟨ChangeSpec.pre_of_preB hpre,hx⟩,sizedMet_of_sizedB hsz⟩,by
  simp only[Assume.holds];exact⟨by simp,λ_ _ _ _=>rfl,by simp,by simp,by simp⟩⟩
theorem qmf(Lk:Go.Looks){p:Pinned}{s:OpenSpec}{c:OpenClaim}(al:List (List PathCond))(kinds:List LaidKind)(tests:Bool)(har:Bool×String)(lk:Bool)
   (hc:c.holds p s) (hal:∀D∈al,(c.withDomain D).holds p s) (hw:c.wfByText s=true) (hwal:∀D∈al,(c.withDomain D).wfByText s=true)
   (htie:c.laidByTextAt Lk p kinds tests)
   (hst:c.start=.entering) (hnb:c.noBlocks=false/\c.again=false) (hm:p.checked.prog.mainIs=some (har.1,har.2.toList)) (hn:(!har.1&&har.2.isEmpty && !lk)=false)
   (hl:∀f fn,p.checked.prog.funcNamed c.func=some f->p.checked.prog.funcs[f]?=some fn->lk=p.checked.prog.looks []/\∀(j:Nat) t,fn.params[j]?=some t->p.checked.prog.wantsStandIn t=false)
   (hg:true=c.goesBy p.checked.prog) :
   Claim7.holds p (.plain s) {stood:={row:=c,standIns:=[],harness:=har,looks:=lk},kinds:=[],alts:=al,goes:=true,laidByText:=true,laidKinds:=kinds,laidTests:=tests,laidLooks:=Lk}:=by
 have h6:∀r:OpenClaim,AV {stood:={row:=r,standIns:=[],harness:=har,looks:=lk},kinds:=[]}=false:=λr=>by simpa[AV]using hn
 refine⟨AU Lk kinds tests (AT hc har lk hst hnb hm (h6 c) hl) hw,λD hD=>?_,htie,(λh=>by cases h),hg⟩;exact AU Lk kinds tests (AT (hal D hD) har lk hst hnb hm (h6 _) hl) (hwal D hD)
theorem qO.below(h:qO W v w):Below W.heap.size W {w with os:=W.os}:=⟨rfl,h.2.2.2.2.2,h.2.2.2.2.1,h.2.1,λk hk=>h.2.2.1 k hk⟩
section
variable {H:Type}{enc:AG×AF->H}{W:AE}{base:Nat}{spare:Nat->Bool}{held:Bool}
theorem qsw{a0:Option Addr}{zQ xH:Nat}{d0:AQ H}{p0:List MemPlace}
   (h0:DataW.Trod enc prog W 0 (λ_=>true) true 24 (.slice a0 zQ xH) d0 p0):∃l,qY W.heap.size W (.slice a0 zQ xH) l/\∀x∈l,x<9223372036854775808:=by
 obtain⟨fuel,h⟩:=h0;rcases open_ints underlying24 underlying3 (by kernel_rfl) h with ⟨hcs,_⟩|⟨a,len,cap,zs,hcs,_,hl,hm,hz,_,hcell,hwz⟩
 . simp[cells]at hcs;obtain⟨rfl,rfl,rfl⟩:=hcs;exact⟨[],⟨none,0,0,rfl,BO _,rfl,by omega,λj x hx=>by simp at hx⟩,λx hx=>by simp at hx⟩
 . simp[cells]at hcs;obtain⟨rfl,rfl,rfl⟩:=hcs;have hlz:zQ<=zs.length:=by rw[hz];split<;>omega
   refine⟨zs.take zQ,⟨some a,zQ,xH,rfl,hl,by simp;omega,by unfold maxLen at hm;omega,λj x hx=>?_⟩,λx hx=>?_⟩
   . have hj:j<(zs.take zQ).length:=(Bv.1 hx).1;simp only[BF]at hj
     have hx2:zs.getD j 0=x:=by
      rw[List.getElem?_take]at hx;split at hx
      . rw[List.getD_eq_getElem?_getD,hx];rfl
      . cases hx
     have hc:=hcell j (by omega);rw[hx2]at hc;have hc0:=hcell 0 (by omega);obtain⟨g,o,rfl,hg,hcg⟩:=qfi ⟨_,by simpa[Addr.add]using hc0⟩ hc;exact⟨g,o,rfl,hg,hcg⟩
   . have hw:=hwz x (List.mem_of_mem_take hx);have:=(bounds_i64 hw).2;omega
end
theorem qu5{a b c:AF}(h:qc prog (qO W) (λ_=>False) (λ_=>False) (λ_=>.left) 1 0 0 (G (B9 prog f #[a,b,c] .normal) []) W) :
   ∃M last o w' t',runNT prog (M+1) (solo (G (B9 prog f #[a,b,c] .normal) []) W) #[]=(.ended o w',t')/\runN prog M (solo (G (B9 prog f #[a,b,c] .normal) []) W)=.next last /\
    step prog last=.ended o w'/\AZ prog (qO W) last o w' t':=by
 obtain⟨M,last,o,w',t',h1,h2,h3,h4⟩:=q38 h none;exact⟨M,last,o,w',t',h1,h2,h3,h4⟩
end
section
open Go.Conc Go.RowKit
theorem q39(ρ:AM->AF)(o:Oper)(h:o.op=.alloc 29)(w:AE):(execOp ρ o).run prog w=.ok (.value (.pointer (some ⟨w.heap.size,0,none⟩))) (w.alloc (.cells qfl 29)):=by
 unfold execOp;rw[h];unfold qfl
 go_simp
theorem q4a(ρ:AM->AF)(o:Oper)(x y:AM)(h:o.op=.store 29 x y)(w:AE){d0:AF}{A1 A2:Option Addr}{c3 c4:Nat}(hx:ρ x=.pointer (some ⟨R,0,none⟩))
   (hy:ρ y=.agg #[.slice A1 n1 c1,.slice A2 n2 c2,.slice A3 n3 c3,.slice A4 n4 c4]) (hB:Blk w R 29 #[d0,k0,o0,r0]) :
   (execOp ρ o).run prog w=.ok .skip ((((w.setCell ⟨R,0,none⟩ (.slice A1 n1 c1)).setCell ⟨R,1,none⟩ (.slice A2 n2 c2)).setCell ⟨R,2,none⟩ (.slice A3 n3 c3)).setCell ⟨R,3,none⟩ (.slice A4 n4 c4)):=by
 have v0:=hB.cell 0;have v1:=hB.cell 1;have v2:=hB.cell 2;have v3:=hB.cell 3;have f0:=hB.frozen 0;have f1:=hB.frozen 1;have f2:=hB.frozen 2;have f3:=hB.frozen 3;unfold execOp;rw[h];simp only[hx,hy]
 go_simp
section
variable {gr:Grd}{M:Mks gr.base}{Post:AF->AE->Prop}{Sh:Nat->Prop}{Fz:Loc->Prop}{T:Nat->qz}{n0:Nat}{w z:AE}
theorem q03(a b c:AF)(n:Nat)(hn:n=33):#[a,b,c]++Ax (n-(#[a,b,c]:Array AF).size) undef=qar a b c undef undef undef undef undef undef undef undef undef undef undef undef undef undef undef undef undef undef undef undef undef undef undef undef undef undef undef undef undef undef:=by
 subst hn;apply Array.ext';simp[qar,Bu]
theorem getSet(h:t<ts.size):(ts.setIfInBounds t v)[t]?=some v:=by rw[Ap,if_pos rfl,if_pos h]
theorem q7d{u:Nat}(h:t≠u):(ts.setIfInBounds t v)[u]?=ts[u]?:=by rw[Ap,if_neg h]
theorem qcc{ds:List Deferred}(h:ts[t]?=some v):(AS ts ds).eval (.tmp t)=v:=by
 show ts.getD t undef=v;rw[Ay,h];rfl
theorem q4b(OM:jN (gr.base.pen M))(vA:XOk gr XL ts)(hb:Both (gr.base.pen M) w z)(O:Outside (gr.base.pen M) Sh Fz T n h)(hL:qH T n h w)(hk:b.kind≠.early)
         {k:List Item}  (ho:ops[i]?=some ⟨some t,.alloc 29,ty,ps,af,none⟩)
   (next:∀w' z',Both (gr.base.pen M) w' z'->HG z z'->Blk z' z.heap.size 29 #[.slice none 0 0,.slice none 0 0,.slice none 0 0,.slice none 0 0]->Held (gr.base.pen M) w w'->XOk gr XL (ts.setIfInBounds t (.pointer (some ⟨z.heap.size,0,none⟩))) ->
    qc prog Post Sh Fz T n h 0 (G (b.at ⟨ts.setIfInBounds t (.pointer (some ⟨z.heap.size,0,none⟩)),[]⟩ (.inRegion ops rest::k)) cs) w') :
   qc prog Post Sh Fz T n h 0 (G (b.at ⟨ts,[]⟩ (.inRegion ops (i::rest)::k)) cs) w:=
 qt7 (z2:=z.alloc (.cells qfl 29)) OM (by kernel_rfl) (by simp[opX,Op.operands]) vA hb O hL (.pointer (some ⟨z.heap.size,0,none⟩)) (.inl rfl) ho rfl hk (λd=>q39 _ _ rfl (z.at d))
  (λw' d h1 h2 _ h3 _=>next w' _ h1 ((HG.of (Bm z (.cells qfl 29) none)).heap rfl) (Blk.new z 29 qfl) h2 h3)
theorem q4c(OM:jN (gr.base.pen M))(vA:XOk gr XL ts)(hb:Both (gr.base.pen M) w z)(O:Outside (gr.base.pen M) Sh Fz T n h)(hL:qH T n h w)(hk:b.kind≠.early)
    {x y:Nat}     {k:List Item}  {d0:AF} {A1 A2:Option Addr} {c3 c4:Nat} (ho:ops[i]?=some ⟨none,.store 29 (.tmp x) (.tmp y),ty,ps,af,none⟩)
   (hx:ts[x]?=some (.pointer (some ⟨R,0,none⟩))) (hy:ts[y]?=some (.agg #[.slice A1 n1 c1,.slice A2 n2 c2,.slice A3 n3 c3,.slice A4 n4 c4])) (hB:Blk z R 29 #[d0,k0,o0,r0]) (hxx:XL x=false) (hxy:XL y=false)
   (next:∀w' z',Both (gr.base.pen M) w' z'->HGB R z z'->Blk z' R 29 #[.slice A1 n1 c1,.slice A2 n2 c2,.slice A3 n3 c3,.slice A4 n4 c4]->Held (gr.base.pen M) w w'->qc prog Post Sh Fz T n h 0 (G (b.at ⟨ts,[]⟩ (.inRegion ops rest::k)) cs) w') :
   qc prog Post Sh Fz T n h 0 (G (b.at ⟨ts,[]⟩ (.inRegion ops (i::rest)::k)) cs) w:=by
 have hp4:=qcQ (d:=.slice A1 n1 c1) (k:=.slice A2 n2 c2) (o:=.slice A3 n3 c3) (r:=.slice A4 n4 c4) hB
 exact qt7 (z2:=(((z.setCell ⟨R,0,none⟩ (.slice A1 n1 c1)).setCell ⟨R,1,none⟩ (.slice A2 n2 c2)).setCell ⟨R,2,none⟩ (.slice A3 n3 c3)).setCell ⟨R,3,none⟩ (.slice A4 n4 c4)) OM (by simp[qfa,qcU,opB,Op.operands,qvl]) (by simp[opX,Op.operands,qmv,hxx,hxy]) vA hb O hL undef (.inr ⟨rfl,rfl⟩) ho rfl hk
  (λd=>q4a _ _ (.tmp x) (.tmp y) rfl (z.at d) (qcc hx) (qcc hy) hB) (λw' d h1 h2 _ _ _=>next w' _ h1 (hp4.1.heap rfl) (hp4.2.heap rfl) h2)
end
theorem qa4(e:y.heap=x.heap):HG x y:=⟨by rw[e];exact BO _,λi _=>by rw[e]⟩
end
section
theorem q02{n x:Int}(hn:1<=n)(hx:0<=x):∃k:Nat,x.tmod n=(k:Int)/\(k:Int)<n:=by
 have h0:0<=x.tmod n:=Int.tmod_nonneg n hx;have h1:x.tmod n<n:=Int.tmod_lt_of_pos x (by omega);exact⟨(x.tmod n).toNat,by omega,by omega⟩
theorem qvr{n x:Int}(hn:1<=n)(h:qm qa c)(hd:(c.qb.length:Int)=n)(hx:0<=x):((qa0 qa c (x.tmod n)).getD c).done.length=min (c.done.length+1) qa.length:=by
 obtain⟨k,hk,hk2⟩:=q02 hn hx;rw[hk];have hle:=qev h;by_cases hl:c.done.length<qa.length
 . obtain⟨c',hc⟩:=qle h hl (k:=k) (by omega);rw[hc];obtain⟨_,h2,_,y,_,hy,_⟩:=qd6 hc;have:=qev h2;show c'.done.length=_;rw[hy]at this |-;simp only[BE,Bs,Bt]at this |-;omega
 . cases hR:qa0 qa c (k:Int)with
   |none=>
    show c.done.length=_;omega
   |some c'=>
    obtain⟨_,h2,_,y,_,hy,_⟩:=qd6 hR;have:=qev h2;rw[hy]at this;simp only[BE,Bs,Bt]at this;omega
theorem qs7{n:Int}(h:qb8 qa n l=some c):∃c0,qbk qa n=some c0/\qcf l=true/\c=qd2 qa n c0 l:=by
 unfold qb8 at h;split at h
 . rename_i c0 hc;split at h
   . rename_i hl;injection h with h;exact⟨c0,hc,hl,h.symm⟩
   . cases h
 . cases h
theorem qvs{n:Int}(h:qbk qa n=some c):1<=n/\n<=4/\c.done=[]/\qae qa=true:=by
 unfold qbk at h;split at h
 . rename_i hc;simp only[AB,decide_eq_true_eq]at hc;injection h with h;subst h;exact⟨hc.2.1,hc.2.2,rfl,hc.1⟩
 . cases h
end
section
open Go.Conc Go.RowKit
structure Calm(Sh:Nat->Prop)(Fz:Loc->Prop)(T:Nat->qz)(B0 N1:Nat):Prop where
 left:∀i,i≠0->T i=.left
 sh:∀r,Sh r->B0<=r/\r<N1
 fz:∀a:Addr,Fz (.cell a)->a.block<N1
def q8(N:Nat):AF->Prop
 | .int _ _=>True
 | .slice none _ _=>True
 | .slice (some a) _ _=>N<=a.block
 |_=>False
def qE(N:Nat)(w:AE):Prop:=∀r,N<=r->r<w.heap.size->∃c e,w.heap[r]?=some (.cells c e (0,0))/\((e=3∨e=81)->∀v,v∈c->q8 N v)
section
variable {N:Nat}{w:AE}
theorem qE.start:qE w.heap.size w:=λr h1 h2=>absurd h1 (by omega)
theorem qE.alloc(h:qE N w){c:Array AF}(hc:(e=3∨e=81)->∀v,v∈c->q8 N v):qE N (w.alloc (.cells c e)):=λr h1 h2=>by
 rw[Bn]at h2;rw[heap_alloc];by_cases hr:r=w.heap.size
 . rw[if_pos hr];exact⟨c,e,rfl,hc⟩
 . rw[if_neg hr];exact h r h1 (by omega)
theorem qE.set(h:qE N w)(a:Addr)(hv:q8 N v):qE N (w.setCell a v):=λr h1 h2=>by
 rw[World.size_setCell]at h2;obtain⟨c,e,hb,hc⟩:=h r h1 h2;by_cases hr:a.block=r
 . subst hr;refine⟨_,e,qdj w a v hb,λhe u hu=>?_⟩;split at hu
   . exact hc he u hu
   . rcases Array.mem_or_eq_of_mem_setIfInBounds hu with k|k
     . exact hc he u k
     . rw[k];exact hv
 . exact⟨c,e,(qb4 w a v r hr).trans hb,hc⟩
end
section
variable {Sh:Nat->Prop}{Fz:Loc->Prop}{T:Nat->qz}{n B0 N1:Nat}{w:AE}
theorem Calm.stw(E:Calm Sh Fz T B0 N1)(r:Nat):¬StW T n 0 r:=by
 rintro⟨i,s,h1,_,h3,_⟩;rw[E.left i h1]at h3;cases h3
theorem q8s(E:Calm Sh Fz T B0 N1)(o:Obj):DS Sh Fz T n 0 w (w.alloc o) #[]:=⟨qN.new (λr h=>absurd h (E.stw r)) o,λe he=>by simp at he⟩
theorem qho(E:Calm Sh Fz T B0 N1)(o:Obj)(he:es=#[]):DS Sh Fz T n 0 w (w.alloc o) es:=he▸q8s E o
theorem qnr(hc:w.cell? ad=some v)(hSh:¬Sh ad.block)(he:∀e,e∈es->e=⟨.cell ad,false,false⟩):DS Sh Fz T n 0 w w es:=
 ⟨(qN.read hc hSh).less (λe h=>by rw[he e h];simp),λe h=>by rw[he e h];exact⟨by simp,by simp⟩⟩
theorem qpn(E:Calm Sh Fz T B0 N1)(hc:w.cell? ad=some u)(hN:N1<=ad.block)(he:∀e,e∈es->e=⟨.cell ad,true,false⟩):DS Sh Fz T n 0 w (w.setCell ad v) es:=
 ⟨(qN.write hc (E.stw _) (λh=>by have:=(E.sh _ h).2;omega) (λh=>by have:=E.fz _ h;omega)).less (λe h=>by rw[he e h];simp),λe h=>by rw[he e h];exact⟨by simp,by simp⟩⟩
end
structure vB(B0:Nat)(w₀:AE)(v:AF)(l:List Int)(w:AE):Prop where
 g:w₀.grownBy w none
 ok:qE w₀.heap.size w
 arg:qY B0 w v l
theorem qhp(w:AE)(d:Nat):w.grownBy (w.at d) none:=⟨rfl,rfl,rfl,BO _,λ_ _ _=>rfl⟩
section
variable {B0:Nat}{w₀ w w₁:AE}{v:AF}{l:List Int}
theorem vB.start(h:qY B0 w v l):vB B0 w v l w:=⟨qag _ _,.start,h⟩
theorem vB.rely(h:vB B0 w₀ v l w)(r:AW w w₁):vB B0 w₀ v l w₁:=by
 obtain⟨d,rfl⟩:=r;exact⟨qac h.g (qhp w d),h.ok,h.arg⟩
structure zw(B0:Nat)(w₀:AE)(v:AF)(l:List Int)(k:Nat)(w:AE):Prop where
 m:vB B0 w₀ v l w
 row:qf w w₀.heap.size (.slice (some ⟨w₀.heap.size,0,none⟩) l.length l.length) (l.take k++Bu (l.length-k) 0)
theorem zw.rely(h:zw B0 w₀ v l k w)(r:AW w w₁):zw B0 w₀ v l k w₁:=by
 refine⟨h.m.rely r,?_⟩;obtain⟨d,rfl⟩:=r;exact h.row.new (qhp w d)
end
theorem qkM(w:AE)(k:Nat)(hk:k<=1048576)(es:Array AN):(Instr.makeSlice 24 (.int .i64 (k:Int)) (.int .i64 (k:Int))).events prog w es=es:=by
 obtain⟨i,hi,hz0,hz1,hz2⟩:=AJ qiq;exact events_make w _ _ i _ underlying24 hi hz0 .i64 .i64 k k (by omega) (Bq _) (by rw[hz2];omega) (by omega) (by rw[hz2,Bo];omega) es
theorem qY.get{o c:Nat}{x:Int}(h:qY B0 w (.slice (some ⟨g,o,none⟩) n c) l)(hx:l[k]?=some x):w.cell? ⟨g,o+k,none⟩=some (.int .i64 x):=by
 obtain⟨A',n',c',h1,h2,h3,h4,h5⟩:=h;obtain⟨g',o',k1,k2,k3⟩:=h5 k x hx;injection h1 with e1;rw[k1]at e1;injection e1 with e1;injection e1 with e2 e3;rw[e2,e3];exact k3
section
variable {B0:Nat}{w₀ w:AE}{v:AF}{l:List Int}
theorem vB.first(h:vB B0 w₀ v l w)(hs:w.heap.size=w₀.heap.size)(hB:B0<=w₀.heap.size)(hl:l.length<=1048576):zw B0 w₀ v l 0 (w.alloc (.cells (madeCells #[int .i64 0] l.length) 3)):=by
 have hg:=Bm w (.cells (madeCells #[int .i64 0] l.length) 3) none
 have e:(madeCells #[int .i64 0] l.length).toList=(l.take 0++Bu (l.length-0) (0:Int)).map (.int .i64):=by
  apply List.ext_getElem?;intro j;by_cases hj:j<l.length
  . simp[madeCells,hj,BY]
  . simp[madeCells,hj]
 have hL:(l.take 0++Bu (l.length-0) (0:Int)).length=l.length:=by simp
 refine⟨⟨qac h.g hg,h.ok.alloc (λ_ u hu=>?_),h.arg.new hg (by omega)⟩,?_⟩
 . obtain⟨i,hi,rfl⟩:=Aj.1 hu;have hi':i<l.length:=by simpa[madeCells]using hi
   have:(madeCells #[int .i64 0] l.length)[i]=.int .i64 0:=by simp[madeCells,BY]
   rw[this];trivial
 . obtain⟨i0,hi,hz0,hz1,hz2⟩:=AJ qiq;obtain⟨w',hrun,r1,-⟩:=AP (P:=prog) w w₀.heap.size 24 3 i0 _ 1 underlying24 hi hz0 hz1 .i64 .i64 l.length (by rw[hz2];omega) (by unfold maxLen;omega) (by omega);rw[Go.run_make_row' (P:=prog) 24 3 (.int .i64 0) 8 underlying24 qiq rfl .i64 .i64 l.length (by omega) (by omega) w]at hrun;injection hrun with _ hw;subst hw;unfold qf;rw[hL,<-e,<-hs];rw[<-hs,Nat.mul_one]at r1;exact r1
theorem zw.at_(h:zw B0 w₀ v l k w)(hk:k<l.length):(∃u,w.cell? ⟨w₀.heap.size,k,none⟩=some u)/\w.frozen? ⟨w₀.heap.size,k,none⟩=false:=by
 have hlen:(l.take k++Bu (l.length-k) (0:Int)).length=l.length:=by rw[BE,BF,BG];omega
 obtain⟨g',cap',cur,he,_,_,hb,hcs⟩:=h.row.form (by omega);obtain⟨y,hy⟩:∃y,(l.take k++Bu (l.length-k) (0:Int))[k]?=some y:=⟨_,List.getElem?_eq_getElem (by omega)⟩;obtain rfl:w₀.heap.size=g':=qkn he;exact⟨⟨_,hcs k y hy⟩,hb.frozen k⟩
theorem zw.store{x:Int}(h:zw B0 w₀ v l k w)(hx:l[k]?=some x)(hB:B0<=w₀.heap.size):zw B0 w₀ v l (k+1) (w.setCell ⟨w₀.heap.size,k,none⟩ (.int .i64 x)):=by
 have hk:=(Bv.1 hx).1;have hlen:(l.take k++Bu (l.length-k) (0:Int)).length=l.length:=by rw[BE,BF,BG];omega
 have hgs:w.grownBy (w.setCell ⟨w₀.heap.size,k,none⟩ (.int .i64 x)) (some w₀.heap.size):=qa3 (p:=⟨w₀.heap.size,k,none⟩) (qag w (some w₀.heap.size)) (.inr rfl) _;refine⟨⟨qa2 h.m.g hgs (λg e=>by cases e;exact .inl (BO _)),h.m.ok.set _ trivial,h.m.arg.kept hgs (BN hB h.m.g.size) (λg e=>by cases e;exact hB)⟩,?_⟩;rw[<-take_set 0 hx rfl];exact h.row.qC hlen.symm k x
end
section
variable {Sh:Nat->Prop}{Fz:Loc->Prop}{T:Nat->qz}{n B0 N1:Nat}
def MuI(l:List Int)(a:Act)(_:AE):Nat:=match a.tmps.getD 4 undef with | .int _ j=>l.length-j.toNat|_=>0
theorem qvk(E:Calm Sh Fz T B0 N1)(l:List Int)(hl:l.length<=1048576):∃m,∀(v:AF) (w:AE),qY B0 w v l->B0<=w.heap.size->N1<=w.heap.size ->
   CallsC prog true AW (DS Sh Fz T n 0) 27 #[v] m w λr w'=>qf w' w.heap.size r l/\w.grownBy w' none/\qE w.heap.size w':=by
 have TT:=qi6 (Sh:=Sh) (Fz:=Fz) (T:=T) (n:=n) (h:=0)
 co_apply AD
 intro v w h hB hN;obtain⟨A,k0,c,rfl,h2,h3,h4⟩:=h.form;subst h3;have hF:vB B0 w (.slice A l.length c) l w/\w.heap.size=w.heap.size:=⟨vB.start h,rfl⟩;have rl:∀{w1 w2:AE},(vB B0 w (.slice A l.length c) l w1/\w1.heap.size=w.heap.size)->AW w1 w2->(vB B0 w (.slice A l.length c) l w2/\w2.heap.size=w.heap.size):=λh r=>⟨h.1.rely r,by obtain⟨d,rfl⟩:=r;exact h.2⟩
 co_apply callsC_of_wpC func27 (by rfl) rfl
 simp only[ntmps27,By,Bs,Bt,BQ,BS,Ai,Ah,BA,Bz,BC,BB]
 co_stmt TT rl hF (co_quiet TT)
 co_apply wpC_seq TT
 co_reg TT
 co_op rl hF (co_quiet TT)
 co_op rl hF (co_quiet TT)
 have hmk:=Go.run_make_row' (P:=prog) 24 3 (.int .i64 0) 8 underlying24 qiq rfl .i64 .i64 l.length (by omega) (by omega)
 co_apply opsC_cons_k rfl (by rfl)
 intro w1 hR K hK;replace hF:=rl hF hR;clear hR;simp[go_sem,hmk];refine hK _ _ ⟨qho E _ (listed_nil (by simp[go_sem,qkM _ _ hl])),?_⟩;clear hK K;have hs1:=hF.2;replace hF:=hF.1.first hs1 hB hl
 rw[hs1]
 co_op zw.rely hF (co_quiet TT)
 co_apply opsC_nil TT
 co_then
 co_go TT zw.rely hF (co_quiet TT)
 co_apply wpC_loop TT (λa w'=>∃(k:Nat) (v5 v6 v7 v8 v9 v10 v11 v12 v13 v14 v15 v16 v17 v18 v19 v20 v21:AF),k<=l.length/\zw B0 w (.slice A l.length c) l k w'/\a={tmps:=#[.slice A l.length c,undef,.slice none 0 0,.slice (some ⟨w.heap.size,0,none⟩) l.length l.length,.int .i64 k,v5,v6,v7,v8,v9,v10,v11,v12,v13,v14,v15,v16,v17,v18,v19,v20,v21],defers:=[]}) (MuI l) _ l.length
 . exact⟨0,_,_,_,_,_,_,_,_,_,_,_,_,_,_,_,_,_,BR _,hF,rfl⟩
 . simp[MuI]
 . rintro a w' ⟨k,v5,v6,v7,v8,v9,v10,v11,v12,v13,v14,v15,v16,v17,v18,v19,v20,v21,hk,hS,rfl⟩
   co_go TT zw.rely hS (co_quiet TT)
   co_split TT (decide ((k:Int)<(l.length:Int)))
   . intro hk0;have hki:(k:Int)<(l.length:Int):=of_decide_eq_true hk0;have hlt:k<l.length:=by omega
     obtain⟨g,o,x,rfl,hgB,hx,-⟩:=hS.m.arg.at_ hlt;have hSh:¬Sh g:=λh=>by have:=(E.sh _ h).1;omega
     co_go TT zw.rely hS (co_still TT)
     co_opw zw.rely hS (have hc:=hS.m.arg.get hx) (exact qnr hc hSh (by co_evs (rfl)))
     co_go TT zw.rely hS (co_still TT)
     co_opw zw.rely hS (obtain⟨⟨u,hc⟩,hz⟩:=hS.at_ hlt) (exact qpn E hc hN (by co_evs (rfl)))
     replace hS:=hS.store hx hB
     co_go TT zw.rely hS (co_quiet TT)
     have e:Bf.wrap ((k:Int)+1)=((k+1:Nat):Int):=by rw[Be];omega
     simp only[e];refine⟨⟨k+1,_,_,_,_,_,_,_,_,_,_,_,_,_,_,_,_,_,by omega,hS,rfl⟩,?_⟩;simp[MuI];omega
   . intro hk0;obtain rfl:k=l.length:=by have:=of_decide_eq_false hk0;omega
     co_go TT zw.rely hS (co_quiet TT)
     refine⟨rfl,_,resultsC_tmp (by rfl) _,?_,hS.m.g,hS.m.ok⟩;have:=hS.row;rw[BU,BI]at this;simpa using this
end
section
variable {P:AL}{main:Bool}{R:AE->AE->Prop}{D:AE->AE->Array AN->Prop}
def q6u(P:AL)(R:AE->AE->Prop)(D:AE->AE->Array AN->Prop)(f:AI)(fn:Func)(Post:AF->AE->Prop):Exit->Act->AE->Prop
 | .normal,a,w | .ret,a,w=>a.defers=[]/\∃v,(∀w₁,R w w₁->(results fn a.tmps).run P w₁=.ok v w₁/\D w₁ w₁ (seen P f ((results fn a.tmps).events P w₁ #[])))/\Post v w
 |_,_,_=>False
def jW(P:AL)(main:Bool)(R:AE->AE->Prop)(D:AE->AE->Array AN->Prop)(f:AI)(args:Array AF)(n:Nat)(w:AE)(Post:AF->AE->Prop):Prop:=
 ∃fn c,P.funcs[f]?=some fn/\(fn.name == "runtime.NumGoroutine")=false/\fn.body=some c /\
  c.wpC P main R D f n (q6u P R D f fn Post) {tmps:=args++Ax (fn.ntmps-args.size) undef,defers:=[]} w
theorem qyh{c:AH}(hn:b.kind=.normal)(hd:a.defers=[])(hf:P.funcs[b.fn]?=some fn)
   (hr:(results fn a.tmps).run P w=.ok v w) :
   stepG P main (G {b.at a todo with mode:=.returning} (c::cs)) w=.go (G (c.finish v) cs) w (seen P b.fn ((results fn a.tmps).events P w #[])):=by
 simp[G,stepG,unwind,doReturn,Frame.at,hn,hd,hf,hr,GStep.after]
theorem Goes.zM(T:Terms R D){k:List Item}
    {Post:AF->AE->Prop} {Stop:Goroutine->AE->Prop}
   (ho:ops[i]?=some o) (hw:Bi o (yielded ops a.tmps)=true) (hk:b.kind≠.early) (hop:o.op=.call {callee:=.value (.func f),args,argTypes:=ats})
   (hcall:jW P main R D f (args.map a.eval) nf w Post)
   (hnext:∀v w',Post v w'->Goes P main R D Stop m (G (b.at (a.put o.dst v) (.inRegion ops rest::k)) cs) w') :
   Goes P main R D Stop (m+nf+3) (G (b.at a (.inRegion ops (i::rest)::k)) cs) w:=by
 obtain⟨fn,c,hf,hname,hbody,hwp⟩:=hcall;have hfin:∀v,(b.at a (.inRegion ops (i::rest)::k)).finish v=b.at (a.put o.dst v) (.inRegion ops rest::k):=λv=>by rw[Ba,ho];rfl
 have hleave:∀ (a':Act) (w':AE) (todo:List Item),(a'.defers=[]/\∃ v,(∀ w₁,R w' w₁->(results fn a'.tmps).run P w₁=.ok v w₁/\D w₁ w₁ (seen P f ((results fn a'.tmps).events P w₁ #[])))/\Post v w') ->
     Goes P main R D Stop (m+1) (G {(base f).at a' todo with mode:=.returning} (b.at a (.inRegion ops (i::rest)::k)::cs)) w':=by
  rintro a' w' todo ⟨hd,v,hr,hp⟩;refine Goes.step rfl λw₁ h₁=>?_;rw[qyh (b:=base f) rfl hd hf (hr w₁ h₁).1,hfin];exact⟨(hr w₁ h₁).2,(hnext v w' hp).rely T.trans h₁⟩
 have hbodyG:Goes P main R D Stop (m+2+nf) (G ((base f).at {tmps:=args.map a.eval++Ax (fn.ntmps-(args.map a.eval).size) undef,defers:=[]} [.code c]) (b.at a (.inRegion ops (i::rest)::k)::cs)) w:=by
  refine hwp (base f) [] _ Stop (m+2) rfl (by simp[base]) λe a' w' q=>?_;cases e with
  |normal=>exact Goes.step rfl λw₁ h₁=>by rw[stepG_end];exact⟨T.idle _,(hleave a' w' [] q).rely T.trans h₁⟩
  |ret=>exact λtodo=>(hleave a' w' todo q).more
  |exit id=>exact q.elim
  |goto l=>exact q.elim
  |panic ch=>exact q.elim
  |outgrown=>exact q.elim
 have e:m+nf+3=(m+2+nf)+1:=by omega
 rw[e];exact Goes.step rfl λw₁ h₁=>goes_call ho hw hk hop hf hname hbody ⟨T.idle _,hbodyG.rely T.trans h₁⟩
theorem q32(T:Terms R D){fn:AI}{Q:Exit->Act->AE->Prop}{Post:AF->AE->Prop}
   (ho:ops[i]?=some o) (hw:Bi o (yielded ops a.tmps)=true) (hop:o.op=.call {callee:=.value (.func f),args,argTypes:=ats})
    (hcall:jW P main R D f vs nf w Post) (ha:args.map a.eval=vs) (hnext:∀v w',Post v w'->OpsC P main R D fn ops rest n Q (a.put o.dst v) w'):OpsC P main R D fn ops (i::rest) (n+nf+3) Q a w:=by
 subst ha;intro b k cs Stop m hb hk hc;have:=Goes.zM (Stop:=Stop) (m:=m+n) (b:=b) (k:=k) (cs:=cs) T ho hw hk hop hcall λv w' hp=>hnext v w' hp b k cs Stop m hb hk hc;exact this.mono (by omega)
end
section
variable {Sh:Nat->Prop}{Fz:Loc->Prop}{T:Nat->qz}{n B0 N1:Nat}{w w':AE}
theorem qhq{R:AE->AE->Prop}{D:AE->AE->Array AN->Prop}(T:Terms R D){fn:AI}{Q:Exit->Act->AE->Prop}{Post:AF->AE->Prop}
   (ho:ops[i]?=some o) (hw:Bi o (yielded ops a.tmps)=true) (hop:o.op=.call {callee:=.value (.func f),args,argTypes:=ats})
    (hcall:CallsC P main R D f vs nf w Post) (ha:args.map a.eval=vs) (hnext:∀v w',Post v w'->OpsC P main R D fn ops rest n Q (a.put o.dst v) w'):OpsC P main R D fn ops (i::rest) (n+nf+3) Q a w:=
 opsC_call T ho hw hop (ha.symm▸hcall) hnext
theorem qpo{a:Addr}{m:Mode}(A:Option Addr)(n c:Nat):(store a (.slice A n c) m).events P w es=storedEv P w es a (.slice A n c) m:=events_store P w es a _ m rfl
theorem qpp(E:Calm Sh Fz T B0 N1)(hs:w.heap.size<=w'.heap.size)(he:∀e,e∈es->∃ad wr,e=⟨.cell ad,wr,false⟩/\N1<=ad.block/\ad.block<w'.heap.size):DS Sh Fz T n 0 w w' es:=by
 refine⟨⟨.alone (λi h1 _=>E.left i h1),λe h=>?_,hs⟩,λe h=>?_⟩
 . obtain⟨ad,wr,rfl,h1,h2⟩:=he e h;exact⟨λx hx=>(by cases hx;exact⟨λk=>absurd k (λk=>by have k':Sh ad.block:=k;have:=(E.sh _ k').2;omega),λ_ k=>by have:=E.fz _ k;omega⟩),λx hx=>(by cases hx;exact h2)⟩
 . obtain⟨ad,wr,rfl,h1,h2⟩:=he e h;exact⟨by simp,by simp⟩
theorem q8.mono{M:Nat}(h:q8 M v)(hN:N<=M):q8 N v:=by
 unfold q8 at *;split at h<;>first|trivial|exact BN hN h|exact h.elim
theorem qE.trans(h:qE N w)(hN:N<=w.heap.size)(k:qE w.heap.size w')(g:w.grownBy w' none):qE N w':=λr h1 h2=>by
 by_cases hr:r<w.heap.size
 . obtain⟨c,e,hb,hc⟩:=h r h1 hr;exact⟨c,e,(g.block r hr (by simp)).trans hb,hc⟩
 . obtain⟨c,e,hb,hc⟩:=k r (by omega) h2;exact⟨c,e,hb,λhe v hv=>(hc he v hv).mono hN⟩
end
structure NSt(B0:Nat)(w₀:AE)(nd:Node)(f r:AF)(k:Nat)(o:Array AF)(w:AE):Prop where
 g:w₀.grownBy w none
 ok:qE w₀.heap.size w
 size:k<4->w.heap.size=w₀.heap.size+k
 a:1<=k->Blk w w₀.heap.size 86 #[.int .i64 nd.kind,f,r]
 res:2<=k->Blk w (w₀.heap.size+1) 81 #[.int .i64 0,.slice none 0 0,.slice none 0 0]
 out:3<=k->Blk w (w₀.heap.size+2) 81 o
 af:qY B0 w f nd.frm
 ar:qY B0 w r nd.row
 lt:B0<=w₀.heap.size
section
variable {B0:Nat}{w₀ w w₁:AE}{nd:Node}{f r:AF}{k:Nat}{o:Array AF}
theorem NSt.new(h:NSt B0 w₀ nd f r 4 o w)(hg:w.grownBy w₁ none)(hk:qE w.heap.size w₁):NSt B0 w₀ nd f r 4 o w₁:=
 ⟨qac h.g hg,h.ok.trans h.g.size hk hg,λh=>absurd h (by omega),λh1=>(h.a h1).grown hg (by simp),λh1=>(h.res h1).grown hg (by simp),λh1=>(h.out h1).grown hg (by simp),h.af.new hg (BN h.lt h.g.size),h.ar.new hg (BN h.lt h.g.size),h.lt⟩
theorem NSt.rely(h:NSt B0 w₀ nd f r k o w)(q:AW w w₁):NSt B0 w₀ nd f r k o w₁:=by
 obtain⟨d,rfl⟩:=q;exact⟨qac h.g (qhp w d),h.ok,h.size,h.a,h.res,h.out,h.af,h.ar,h.lt⟩
theorem NSt.alloc{c:Array AF}(h:NSt B0 w₀ nd f r k o w)(hk:k<3)(hc:(e=3∨e=81)->∀v,v∈c->q8 w₀.heap.size v)(hb:Blk (w.alloc (.cells c e)) (w₀.heap.size+k) e c ->
     (1<=k+1->Blk (w.alloc (.cells c e)) w₀.heap.size 86 #[.int .i64 nd.kind,f,r])/\(2<=k+1->Blk (w.alloc (.cells c e)) (w₀.heap.size+1) 81 #[.int .i64 0,.slice none 0 0,.slice none 0 0])/\(3<=k+1->Blk (w.alloc (.cells c e)) (w₀.heap.size+2) 81 o)):NSt B0 w₀ nd f r (k+1) o (w.alloc (.cells c e)):=by
 have hs:=h.size (by omega);have hb':Blk (w.alloc (.cells c e)) (w₀.heap.size+k) e c:=by rw[<-hs];exact Blk.new w e c
 obtain⟨h1,h2,h3⟩:=hb hb';have hg:=Bm w (.cells c e) none;exact⟨qac h.g hg,h.ok.alloc hc,λ_=>by rw[Bn,hs];omega,h1,h2,h3,h.af.new hg (BN h.lt h.g.size),h.ar.new hg (BN h.lt h.g.size),h.lt⟩
theorem NSt.four(h:NSt B0 w₀ nd f r 3 o w):NSt B0 w₀ nd f r 4 o w:=⟨h.g,h.ok,λh=>absurd h (by omega),λ_=>h.a (by omega),λ_=>h.res (by omega),λ_=>h.out (by omega),h.af,h.ar,h.lt⟩
theorem NSt.store(h:NSt B0 w₀ nd f r 4 o w)(hv:q8 w₀.heap.size v)(ho:o.setIfInBounds i v=o'):NSt B0 w₀ nd f r 4 o' (w.setCell ⟨w₀.heap.size+2,i,none⟩ v):=by
 have hgs:w.grownBy (w.setCell ⟨w₀.heap.size+2,i,none⟩ v) (some (w₀.heap.size+2)):=qa3 (p:=⟨w₀.heap.size+2,i,none⟩) (qag w (some (w₀.heap.size+2))) (.inr rfl) _;have hl:=h.lt;exact⟨qa2 h.g hgs (λg e=>by cases e;exact .inl (by omega)),h.ok.set _ hv,λh=>absurd h (by omega),λh1=>(h.a h1).far (by show w₀.heap.size≠w₀.heap.size+2;omega) v,λh1=>(h.res h1).far (by show w₀.heap.size+1≠w₀.heap.size+2;omega) v,λh1=>ho▸(h.out h1).qC i v,h.af.kept hgs (BN hl h.g.size) (λg e=>by cases e;show B0<=w₀.heap.size+2;omega),h.ar.kept hgs (BN hl h.g.size) (λg e=>by cases e;show B0<=w₀.heap.size+2;omega),hl⟩
theorem qhr{b:Nat}(ho:qf w b v l):q8 b v:=by
 obtain⟨A,n,c,rfl⟩:=ho.ri.val;cases A with
 |none=>trivial
 |some a=>exact(ho.lt a.block rfl).1
structure NS1(B0:Nat)(w₀:AE)(nd:Node)(f r f':AF)(o:Array AF)(w:AE):Prop where
 s:NSt B0 w₀ nd f r 4 o w
 o1:qf w w₀.heap.size f' nd.frm
structure NS2(B0:Nat)(w₀:AE)(nd:Node)(f r f' r':AF)(o:Array AF)(w:AE):Prop where
 s:NSt B0 w₀ nd f r 4 o w
 o1:qf w w₀.heap.size f' nd.frm
 o2:qf w w₀.heap.size r' nd.row
variable {f' r':AF}
theorem NS1.rely(h:NS1 B0 w₀ nd f r f' o w)(q:AW w w₁):NS1 B0 w₀ nd f r f' o w₁:=⟨h.s.rely q,by obtain⟨d,rfl⟩:=q;exact h.o1.new (qhp w d)⟩
theorem NS2.rely(h:NS2 B0 w₀ nd f r f' r' o w)(q:AW w w₁):NS2 B0 w₀ nd f r f' r' o w₁:=⟨h.s.rely q,by obtain⟨d,rfl⟩:=q;exact h.o1.new (qhp w d),by obtain⟨d,rfl⟩:=q;exact h.o2.new (qhp w d)⟩
theorem q0u{t:AG}{cs:Array AF}(ho:qf w w₀.heap.size v l)(hb:Blk w g t cs)(ht:3≠t):qf (w.setCell ⟨g,i,none⟩ u) w₀.heap.size v l:=
 ho.keep (qa3 (p:=⟨g,i,none⟩) (qag w (some g)) (.inr rfl) u) hb ht
theorem NS1.store(h:NS1 B0 w₀ nd f r f' o w)(hv:q8 w₀.heap.size v)(ho:o.setIfInBounds i v=o'):NS1 B0 w₀ nd f r f' o' (w.setCell ⟨w₀.heap.size+2,i,none⟩ v):=
 ⟨h.s.store hv ho,q0u h.o1 (h.s.out (by omega)) (by decide)⟩
theorem NS2.store(h:NS2 B0 w₀ nd f r f' r' o w)(hv:q8 w₀.heap.size v)(ho:o.setIfInBounds i v=o'):NS2 B0 w₀ nd f r f' r' o' (w.setCell ⟨w₀.heap.size+2,i,none⟩ v):=
 ⟨h.s.store hv ho,q0u h.o1 (h.s.out (by omega)) (by decide),q0u h.o2 (h.s.out (by omega)) (by decide)⟩
structure qaQ(w₀:AE)(nd:Node)(f' r':AF)(w:AE):Prop where
 g:w₀.grownBy w none
 ok:qE w₀.heap.size w
 res:Blk w (w₀.heap.size+1) 81 #[.int .i64 nd.kind,f',r']
 o1:qf w w₀.heap.size f' nd.frm
 o2:qf w w₀.heap.size r' nd.row
theorem qaQ.rely(h:qaQ w₀ nd f' r' w)(q:AW w w₁):qaQ w₀ nd f' r' w₁:=by
 obtain⟨d,rfl⟩:=q;exact⟨qac h.g (qhp w d),h.ok,h.res,h.o1.new (qhp w d),h.o2.new (qhp w d)⟩
theorem NS2.fin(h:NS2 B0 w₀ nd f r f' r' o w):qaQ w₀ nd f' r' (((w.setCell ⟨w₀.heap.size+1,0,none⟩ (.int .i64 nd.kind)).setCell ⟨w₀.heap.size+1,1,none⟩ f').setCell ⟨w₀.heap.size+1,2,none⟩ r'):=by
 have hb:=h.s.res (by omega);have b1:=hb.qC 0 (.int .i64 nd.kind);have b2:=b1.qC 1 f';have b3:=b2.qC 2 r'
 have hgs:w.grownBy (((w.setCell ⟨w₀.heap.size+1,0,none⟩ (.int .i64 nd.kind)).setCell ⟨w₀.heap.size+1,1,none⟩ f').setCell ⟨w₀.heap.size+1,2,none⟩ r') (some (w₀.heap.size+1)):=
  qa3 (p:=⟨w₀.heap.size+1,2,none⟩) (qa3 (p:=⟨w₀.heap.size+1,1,none⟩) (qa3 (p:=⟨w₀.heap.size+1,0,none⟩) (qag w (some (w₀.heap.size+1))) (.inr rfl) _) (.inr rfl) _) (.inr rfl) _
 exact⟨qa2 h.s.g hgs (λg e=>by cases e;exact .inl (by omega)),((h.s.ok.set _ (v:=.int .i64 nd.kind) trivial).set _ (qhr h.o1)).set _ (qhr h.o2),b3,h.o1.keep hgs hb (by decide),h.o2.keep hgs hb (by decide)⟩
end
section
variable {Sh:Nat->Prop}{Fz:Loc->Prop}{T:Nat->qz}{n B0 N1:Nat}
theorem q8t(E:Calm Sh Fz T B0 N1)(nd:Node)(hl1:nd.frm.length<=1048576)(hl2:nd.row.length<=1048576):∃m,∀(f r:AF) (w:AE),qY B0 w f nd.frm->qY B0 w r nd.row->B0<=w.heap.size->N1<=w.heap.size ->
   jW prog true AW (DS Sh Fz T n 0) 61 #[.agg #[.int .i64 nd.kind,f,r]] m w λx w'=>∃f' r',x=.agg #[.int .i64 nd.kind,f',r']/\qf w' w.heap.size f' nd.frm/\qf w' w.heap.size r' nd.row/\w.grownBy w' none/\qE w.heap.size w':=by
 have TT:=qi6 (Sh:=Sh) (Fz:=Fz) (T:=T) (n:=n) (h:=0);obtain⟨m1,hI1⟩:=qvk (n:=n) E nd.frm hl1;obtain⟨m2,hI2⟩:=qvk (n:=n) E nd.row hl2
 co_apply AD
 intro f r w hf hr hB hN;obtain⟨A1,n1,c1,rfl,-,-,-⟩:=hf.form;obtain⟨A2,n2,c2,rfl,-,-,-⟩:=hr.form;have hF:NSt B0 w nd (.slice A1 n1 c1) (.slice A2 n2 c2) 0 #[.int .i64 0,.slice none 0 0,.slice none 0 0] w:=⟨qag _ _,.start,λ_=>rfl,λh=>absurd h (by omega),λh=>absurd h (by omega),λh=>absurd h (by omega),hf,hr,hB⟩;refine⟨_,_,func61,by rfl,rfl,?_⟩;simp only[ntmps61,By,Bs,Bt,BQ,BS,Ai,Ah,BA,Bz,BC,BB];have hSh:∀r,w.heap.size<=r->¬Sh r:=λr h1 h2=>by have:=(E.sh r h2).2;omega
 co_apply wpC_seq TT
 co_reg TT
 co_opw NSt.rely hF (skip) (exact qho E _ (listed_nil (by simp[go_sem])))
 have hs1:=hF.size (by omega);rw[Nat.add_zero]at hs1;rw[hs1];replace hF:=hF.alloc (c:=#[.int .i64 nd.kind,.slice A1 n1 c1,.slice A2 n2 c2]) (e:=86) (by omega) (λh=>absurd h (by decide)) (λhb=>⟨λ_=>hb,λh=>absurd h (by omega),λh=>absurd h (by omega)⟩)
 co_opw NSt.rely hF (skip) (exact qho E _ (listed_nil (by simp[go_sem])))
 have hs2:=hF.size (by omega);rw[hs2];have ha:=hF.a (by omega);replace hF:=hF.alloc (c:=#[.int .i64 0,.slice none 0 0,.slice none 0 0]) (e:=81) (by omega) (λ_ v hv=>by simp at hv;rcases hv with rfl|rfl<;>trivial) (λhb=>⟨λ_=>ha.alloc _,λ_=>hb,λh=>absurd h (by omega)⟩);clear ha
 co_apply opsC_nil TT
 co_then
 co_apply wpC_seq TT
 co_reg TT
 co_opw NSt.rely hF (skip) (exact qho E _ (listed_nil (by simp[go_sem])))
 have hs3:=hF.size (by omega);rw[hs3];have ha:=hF.a (by omega);have hb2:=hF.res (by omega);replace hF:=(hF.alloc (c:=#[.int .i64 0,.slice none 0 0,.slice none 0 0]) (e:=81) (by omega) (λ_ v hv=>by simp at hv;rcases hv with rfl|rfl<;>trivial) (λhb=>⟨λ_=>ha.alloc _,λ_=>hb2.alloc _,λ_=>hb⟩)).four;clear ha hb2 hs1 hs2 hs3
 co_apply opsC_nil TT
 co_then
 co_apply wpC_seq TT
 co_reg TT
 co_opw NSt.rely hF (skip) (co_still TT)
 co_opw NSt.rely hF (have hc:Bj _ ⟨w.heap.size,0,none⟩=some (.int .i64 nd.kind):=(hF.a (by omega)).cell 0) (exact qnr hc (hSh _ (BO _)) (by co_evs (rfl)))
 co_opw NSt.rely hF (skip) (co_still TT)
 co_opw NSt.rely hF (have hc:Bj _ ⟨w.heap.size+2,0,none⟩=some (.int .i64 0):=(hF.out (by omega)).cell 0;have hz:=(hF.out (by omega)).frozen 0) (exact qpn E hc (by show N1<=w.heap.size+2;omega) (by co_evs (rfl)))
 replace hF:=hF.store (i:=0) (v:=.int .i64 nd.kind) (o':=#[.int .i64 nd.kind,.slice none 0 0,.slice none 0 0]) trivial rfl
 co_apply opsC_nil TT
 co_then
 co_apply wpC_seq TT
 co_reg TT
 co_opw NSt.rely hF (skip) (co_still TT)
 co_opw NSt.rely hF (have hc:Bj _ ⟨w.heap.size,1,none⟩=some (.slice A1 n1 c1):=(hF.a (by omega)).cell 1) (exact qnr hc (hSh _ (BO _)) (by co_evs (rfl)))
 co_apply qhq TT rfl (by rfl) rfl (hI1 _ _ hF.af (BN hB hF.g.size) (BN hN hF.g.size)) (by simp[AR])
 rintro f' w5 ⟨ho,hg,hk⟩;obtain⟨B1,m1,e1,rfl⟩:=ho.ri.val;replace hF:NS1 B0 w nd _ _ _ _ w5:=⟨hF.new hg hk,ho.lower hF.g.size⟩;clear ho hg hk
 try walk_nrm
 co_opw NS1.rely hF (skip) (co_still TT)
 co_opw NS1.rely hF (have hc:Bj _ ⟨w.heap.size+2,1,none⟩=some (.slice none 0 0):=(hF.s.out (by omega)).cell 1;have hz:=(hF.s.out (by omega)).frozen 1) (exact qpn E hc (by show N1<=w.heap.size+2;omega) (by intro e he;have hm:=AX he;simp[go_sem,qpo,hc,hz]at hm;exact hm))
 replace hF:=hF.store (i:=1) (v:=.slice B1 m1 e1) (o':=#[.int .i64 nd.kind,.slice B1 m1 e1,.slice none 0 0]) (qhr hF.o1) rfl
 co_apply opsC_nil TT
 co_then
 co_apply wpC_seq TT
 co_reg TT
 co_opw NS1.rely hF (skip) (co_still TT)
 co_opw NS1.rely hF (have hc:Bj _ ⟨w.heap.size,2,none⟩=some (.slice A2 n2 c2):=(hF.s.a (by omega)).cell 2) (exact qnr hc (hSh _ (BO _)) (by co_evs (rfl)))
 co_apply qhq TT rfl (by rfl) rfl (hI2 _ _ hF.s.ar (BN hB hF.s.g.size) (BN hN hF.s.g.size)) (by simp[AR])
 rintro r' w6 ⟨ho,hg,hk⟩;obtain⟨B2,m2,e2,rfl⟩:=ho.ri.val;replace hF:NS2 B0 w nd _ _ _ _ _ w6:=⟨hF.s.new hg hk,hF.o1.new hg,ho.lower hF.s.g.size⟩;clear ho hg hk
 try walk_nrm
 co_opw NS2.rely hF (skip) (co_still TT)
 co_opw NS2.rely hF (have hc:Bj _ ⟨w.heap.size+2,2,none⟩=some (.slice none 0 0):=(hF.s.out (by omega)).cell 2;have hz:=(hF.s.out (by omega)).frozen 2) (exact qpn E hc (by show N1<=w.heap.size+2;omega) (by intro e he;have hm:=AX he;simp[go_sem,qpo,hc,hz]at hm;exact hm))
 replace hF:=hF.store (i:=2) (v:=.slice B2 m2 e2) (o':=#[.int .i64 nd.kind,.slice B1 m1 e1,.slice B2 m2 e2]) (qhr hF.o2) rfl
 co_apply opsC_nil TT
 co_then
 co_apply wpC_seq TT
 co_reg TT
 co_opw NS2.rely hF (have k0:Bj _ ⟨w.heap.size+2,0,none⟩=some (.int .i64 nd.kind):=(hF.s.out (by omega)).cell 0;have k1:Bj _ ⟨w.heap.size+2,1,none⟩=some (.slice B1 m1 e1):=(hF.s.out (by omega)).cell 1;have k2:Bj _ ⟨w.heap.size+2,2,none⟩=some (.slice B2 m2 e2):=(hF.s.out (by omega)).cell 2) (have hlt:=(hF.s.out (by omega)).lt;exact qpp E (BO _) (by intro e he;have hm:=AX he;simp[go_sem,k0,k1,k2]at hm;rcases hm with rfl|rfl|rfl<;>exact⟨_,_,rfl,by show N1<=w.heap.size+2;omega,hlt⟩))
 co_opw NS2.rely hF (have k0:Bj _ ⟨w.heap.size+1,0,none⟩=some (.int .i64 0):=(hF.s.res (by omega)).cell 0;have k1:Bj _ ⟨w.heap.size+1,1,none⟩=some (.slice none 0 0):=(hF.s.res (by omega)).cell 1;have k2:Bj _ ⟨w.heap.size+1,2,none⟩=some (.slice none 0 0):=(hF.s.res (by omega)).cell 2;have z0:=(hF.s.res (by omega)).frozen 0;have z1:=(hF.s.res (by omega)).frozen 1;have z2:=(hF.s.res (by omega)).frozen 2) (have hlt:=(hF.s.res (by omega)).lt;refine qpp E (by simp) ?_;intro e he;have hm:=AX he;simp[go_sem,qpo,k0,k1,k2,z0,z1,z2]at hm;rcases hm with rfl|rfl|rfl<;>exact⟨_,_,rfl,by show N1<=w.heap.size+1;omega,by simpa using hlt⟩)
 replace hF:=hF.fin
 co_apply opsC_nil TT
 co_then
 co_apply wpC_ret TT
 refine⟨rfl,.agg #[.int .i64 nd.kind,.slice B1 m1 e1,.slice B2 m2 e2],λw₁ h₁=>?_,_,_,rfl,hF.o1,hF.o2,hF.g,hF.ok⟩;replace hF:=hF.rely h₁;have k0:w₁.cell? ⟨w.heap.size+1,0,none⟩=some (.int .i64 nd.kind):=hF.res.cell 0;have k1:w₁.cell? ⟨w.heap.size+1,1,none⟩=some (.slice B1 m1 e1):=hF.res.cell 1;have k2:w₁.cell? ⟨w.heap.size+1,2,none⟩=some (.slice B2 m2 e2):=hF.res.cell 2;have hlt:=hF.res.lt;refine⟨by simp[results,results61,go_sem,k0,k1,k2],qpp E (BO _) (λe he=>?_)⟩;have hm:=mem_seen he;simp[results,results61,go_sem,k0,k1,k2]at hm;rcases hm with rfl|rfl|rfl<;>exact⟨_,_,rfl,by show N1<=w.heap.size+1;omega,hlt⟩
end
section
variable {Sh:Nat->Prop}{Fz:Loc->Prop}{T:Nat->qz}{n B0 N1:Nat}{w:AE}
theorem q1u(he:∀e,e∈es->∃ad:Addr,e=⟨.cell ad,false,false⟩/\¬Sh ad.block/\ad.block<w.heap.size):DS Sh Fz T n 0 w w es:=by
 refine⟨⟨.refl,λe h=>?_,BO _⟩,λe h=>?_⟩
 . obtain⟨ad,rfl,h1,h2⟩:=he e h;exact⟨λx hx=>(by cases hx;exact⟨λk=>absurd k h1,λk=>by cases k⟩),λx hx=>(by cases hx;exact h2)⟩
 . obtain⟨ad,rfl,h1,h2⟩:=he e h;exact⟨by simp,by simp⟩
theorem jW.more{R:AE->AE->Prop}{D:AE->AE->Array AN->Prop}{args:Array AF}{Post:AF->AE->Prop}(h:jW P main R D f args k w Post)(hk:k<=m):jW P main R D f args m w Post:=by
 obtain⟨fn,c,h1,h2,h3,h4⟩:=h;exact⟨fn,c,h1,h2,h3,wpC_more h4 hk⟩
end
structure jH(B0:Nat)(w₀:AE)(v:AF)(qa:List Node)(k:Nat)(w:AE):Prop where
 g:w₀.grownBy w none
 ok:qE w₀.heap.size w
 arg:jK B0 w v qa
 row:DN w w₀.heap.size (.slice (some ⟨w₀.heap.size,0,none⟩) qa.length qa.length) (qa.take k++Bu (qa.length-k) ⟨0,[],[]⟩)
 lt:B0<=w₀.heap.size
section
variable {B0:Nat}{w₀ w w₁:AE}{v:AF}{qa:List Node}{k:Nat}
theorem jH.rely(h:jH B0 w₀ v qa k w)(r:AW w w₁):jH B0 w₀ v qa k w₁:=by
 obtain⟨d,rfl⟩:=r;exact⟨qac h.g (qhp w d),h.ok,h.arg.new (qhp w d) (BN h.lt h.g.size),h.row.new (qhp w d),h.lt⟩
theorem jH.new(h:jH B0 w₀ v qa k w)(hg:w.grownBy w₁ none)(hk:qE w.heap.size w₁):jH B0 w₀ v qa k w₁:=
 ⟨qac h.g hg,h.ok.trans h.g.size hk hg,h.arg.new hg (BN h.lt h.g.size),h.row.new hg,h.lt⟩
theorem jH.len(_h:jH B0 w₀ v qa k w)(hk:k<=qa.length):(qa.take k++Bu (qa.length-k) (⟨0,[],[]⟩:Node)).length=qa.length:=by
 rw[BE,BF,BG];omega
theorem jH.at_(h:jH B0 w₀ v qa k w)(hk:k<qa.length):∃u0 u1 u2,w.cell? ⟨w₀.heap.size,k*3,none⟩=some u0/\w.cell? ⟨w₀.heap.size,k*3+1,none⟩=some u1/\w.cell? ⟨w₀.heap.size,k*3+2,none⟩=some u2 /\
   w.frozen? ⟨w₀.heap.size,k*3,none⟩=false/\w.frozen? ⟨w₀.heap.size,k*3+1,none⟩=false/\w.frozen? ⟨w₀.heap.size,k*3+2,none⟩=false/\w₀.heap.size<w.heap.size:=by
 obtain⟨g',cap',cur,he,_,_,hb,hcs⟩:=h.row.own.form (h.len (by omega)) (by omega);obtain rfl:w₀.heap.size=g':=qkn he;obtain⟨u0,d0⟩:=hcs (k*3) (by omega);obtain⟨u1,d1⟩:=hcs (k*3+1) (by omega);obtain⟨u2,d2⟩:=hcs (k*3+2) (by omega);exact⟨u0,u1,u2,d0,d1,d2,hb.frozen _,hb.frozen _,hb.frozen _,hb.lt⟩
theorem jH.store{f:AF}(h:jH B0 w₀ v qa k w)(hx:qa[k]?=some nd)(hf:qf w w₀.heap.size f nd.frm)(hr:qf w w₀.heap.size r nd.row) :
   jH B0 w₀ v qa (k+1) (((w.setCell ⟨w₀.heap.size,k*3,none⟩ (.int .i64 nd.kind)).setCell ⟨w₀.heap.size,k*3+1,none⟩ f).setCell ⟨w₀.heap.size,k*3+2,none⟩ r):=by
 have hk:=(Bv.1 hx).1
 have hgs:w.grownBy (((w.setCell ⟨w₀.heap.size,k*3,none⟩ (.int .i64 nd.kind)).setCell ⟨w₀.heap.size,k*3+1,none⟩ f).setCell ⟨w₀.heap.size,k*3+2,none⟩ r) (some w₀.heap.size):=
  qa3 (p:=⟨w₀.heap.size,k*3+2,none⟩) (qa3 (p:=⟨w₀.heap.size,k*3+1,none⟩) (qa3 (p:=⟨w₀.heap.size,k*3,none⟩) (qag w (some w₀.heap.size)) (.inr rfl) _) (.inr rfl) _) (.inr rfl) _
 have hD2:=h.row.qC (h.len (by omega)) hk hf hr;rw[take_set _ hx rfl]at hD2;have hl:=h.lt;exact⟨qa2 h.g hgs (λg e=>by cases e;exact .inl (BO _)),((h.ok.set _ (v:=.int .i64 nd.kind) trivial).set _ (qhr hf)).set _ (qhr hr),h.arg.kept hgs (BN hl h.g.size) (λg e=>by cases e;exact hl),hD2,hl⟩
end
theorem q8u(w:AE)(k:Nat)(hk:k<=1048576)(es:Array AN):(Instr.makeSlice 23 (.int .i64 (k:Int)) (.int .i64 (k:Int))).events prog w es=es:=by
 obtain⟨i,hi,hz0,hz1,hz2⟩:=AJ q4n;exact events_make w _ _ i _ underlying23 hi hz0 .i64 .i64 k k (by omega) (Bq _) (by rw[hz2];omega) (by omega) (by rw[hz2,Bo];omega) es
theorem qyi(w:AE)(k:Nat)(hk:k<=1048576):(Instr.makeSlice 23 (.int .i64 (k:Int)) (.int .i64 (k:Int))).run prog w=.ok (.slice (some ⟨w.heap.size,0,none⟩) k k) (w.alloc (.cells (madeCells #[.int .i64 0,.slice none 0 0,.slice none 0 0] (k*3)) 81)):=by
 obtain⟨i,hi,hz0,hz1,hz2⟩:=AJ q4n;have hr:=run_make (P:=prog) w 23 81 i _ underlying23 hi hz0 .i64 .i64 k k (by omega) (Bq _) (by rw[hz2];omega) (by omega);simp only[Bo,hz1]at hr;exact hr
theorem jH.first(hg:w₀.grownBy w none)(hk:qE w₀.heap.size w)(ha:jK B0 w v qa)(hs:w.heap.size=w₀.heap.size)(hB:B0<=w₀.heap.size)(hl:qa.length<=1048576) :
   jH B0 w₀ v qa 0 (w.alloc (.cells (madeCells #[.int .i64 0,.slice none 0 0,.slice none 0 0] (qa.length*3)) 81)):=by
 have hga:=Bm w (.cells (madeCells #[.int .i64 0,.slice none 0 0,.slice none 0 0] (qa.length*3)) 81) none;obtain⟨i0,hi,hz0,hz1,hz2⟩:=AJ q4n;obtain⟨w',hrun,r1,-⟩:=AP (P:=prog) w w₀.heap.size 23 81 i0 _ 3 underlying23 hi hz0 hz1 .i64 .i64 qa.length (by rw[hz2];omega) (by unfold maxLen;omega) (by omega);rw[qyi w qa.length hl]at hrun;injection hrun with _ hw;subst hw;rw[hs]at r1;refine⟨qac hg hga,hk.alloc (λ_ u hu=>?_),ha.new hga (by omega),?_,hB⟩
 . obtain⟨i,hi,rfl⟩:=Aj.1 hu;have h3:i%3=0∨i%3=1∨i%3=2:=by omega
   rcases h3 with h3|h3|h3<;>(simp[madeCells,h3];trivial)
 . have:=DN.made r1;simpa using this
def MuN(qa:List Node)(a:Act)(_:AE):Nat:=match a.tmps.getD 4 undef with | .int _ j=>qa.length-j.toNat|_=>0
section
variable {Sh:Nat->Prop}{Fz:Loc->Prop}{T:Nat->qz}{n B0 N1:Nat}
def qkN(B0 N1:Nat)(Sh:Nat->Prop)(Fz:Loc->Prop)(T:Nat->qz)(n m:Nat)(nd:Node):Prop:=∀(f r:AF) (w:AE),qY B0 w f nd.frm->qY B0 w r nd.row->B0<=w.heap.size->N1<=w.heap.size ->
   jW prog true AW (DS Sh Fz T n 0) 61 #[.agg #[.int .i64 nd.kind,f,r]] m w λx w'=>∃f' r',x=.agg #[.int .i64 nd.kind,f',r']/\qf w' w.heap.size f' nd.frm/\qf w' w.heap.size r' nd.row/\w.grownBy w' none/\qE w.heap.size w'
theorem q6v(E:Calm Sh Fz T B0 N1):∀qa:List Node,(∀nd∈qa,nd.frm.length<=1048576/\nd.row.length<=1048576)->∃m,∀nd∈qa,qkN B0 N1 Sh Fz T n m nd
 |[],_=>⟨0,λnd h=>by cases h⟩
 |x::l,h=>by
  obtain⟨m1,h1⟩:=q6v E l (λnd hd=>h nd (by simp[hd]));obtain⟨m2,h2⟩:=q8t (n:=n) E x (h x (by simp)).1 (h x (by simp)).2;refine⟨max m1 m2,λnd hd=>?_⟩;rcases BH.1 hd with rfl|hd
  . exact λf r w a b c d=>(h2 f r w a b c d).more (Nat.le_max_right _ _)
  . exact λf r w a b c d=>(h1 nd hd f r w a b c d).more (Nat.le_max_left _ _)
theorem q6w(E:Calm Sh Fz T B0 N1)(qa:List Node)(hl:qlq qa):∃m,∀(v:AF) (w:AE),jK B0 w v qa->B0<=w.heap.size->N1<=w.heap.size ->
   CallsC prog true AW (DS Sh Fz T n 0) 26 #[v] m w λr w'=>DN w' w.heap.size r qa/\w.grownBy w' none/\qE w.heap.size w':=by
 have TT:=qi6 (Sh:=Sh) (Fz:=Fz) (T:=T) (n:=n) (h:=0);obtain⟨mN,hN1⟩:=q6v (n:=n) E qa hl.2;have hln:=hl.1
 co_apply AD
 intro v w h hB hN;obtain⟨A,k0,c,rfl,h2,h3,h4⟩:=h.form;subst h3;have hF:(w.grownBy w none/\qE w.heap.size w/\jK B0 w (.slice A qa.length c) qa)/\w.heap.size=w.heap.size:=⟨⟨qag _ _,.start,h⟩,rfl⟩
 have rl:∀{w1 w2:AE},((w.grownBy w1 none/\qE w.heap.size w1/\jK B0 w1 (.slice A qa.length c) qa)/\w1.heap.size=w.heap.size)->AW w1 w2->((w.grownBy w2 none/\qE w.heap.size w2/\jK B0 w2 (.slice A qa.length c) qa)/\w2.heap.size=w.heap.size):=λ{w1 w2} h r=>by
  obtain⟨d,rfl⟩:=r;exact⟨⟨qac h.1.1 (qhp w1 d),h.1.2.1,h.1.2.2.new (qhp w1 d) (by rw[h.2];exact hB)⟩,h.2⟩
 co_apply callsC_of_wpC func26 (by rfl) rfl
 simp only[ntmps26,By,Bs,Bt,BQ,BS,Ai,Ah,BA,Bz,BC,BB]
 co_stmt TT rl hF (co_quiet TT)
 co_apply wpC_seq TT
 co_reg TT
 co_op rl hF (co_quiet TT)
 co_op rl hF (co_quiet TT)
 co_apply opsC_cons_k rfl (by rfl)
 intro w1 hR K hK;replace hF:=rl hF hR;clear hR;simp[go_sem,qyi _ _ hln];refine hK _ _ ⟨qho E _ (listed_nil (by simp[go_sem,q8u _ _ hln])),?_⟩;clear hK K;have hs1:=hF.2;replace hF:=jH.first hF.1.1 hF.1.2.1 hF.1.2.2 hs1 hB hln
 rw[hs1]
 co_op jH.rely hF (co_quiet TT)
 co_apply opsC_nil TT
 co_then
 co_go TT jH.rely hF (co_quiet TT)
 co_apply wpC_loop TT (λa w'=>∃(k:Nat) (v5 v6 v7 v8 v9 v10 v11 v12 v13 v14 v15 v16 v17 v18 v19 v20 v21 v22:AF),k<=qa.length/\jH B0 w (.slice A qa.length c) qa k w'/\a={tmps:=#[.slice A qa.length c,undef,.slice none 0 0,.slice (some ⟨w.heap.size,0,none⟩) qa.length qa.length,.int .i64 k,v5,v6,v7,v8,v9,v10,v11,v12,v13,v14,v15,v16,v17,v18,v19,v20,v21,v22],defers:=[]}) (MuN qa) _ qa.length
 . exact⟨0,_,_,_,_,_,_,_,_,_,_,_,_,_,_,_,_,_,_,BR _,hF,rfl⟩
 . simp[MuN]
 . rintro a w' ⟨k,v5,v6,v7,v8,v9,v10,v11,v12,v13,v14,v15,v16,v17,v18,v19,v20,v21,v22,hk,hS,rfl⟩
   co_go TT jH.rely hS (co_quiet TT)
   co_split TT (decide ((k:Int)<(qa.length:Int)))
   . intro hk0;have hki:(k:Int)<(qa.length:Int):=of_decide_eq_true hk0;have hlt:k<qa.length:=by omega
     obtain⟨g,o,nd,f,r,rfl,hgB,hx,-,-,-,-,-⟩:=hS.arg.at_ hlt;have hSh:¬Sh g:=λh=>by have:=(E.sh _ h).1;omega
     co_go TT jH.rely hS (co_still TT)
     co_apply opsC_cons_k rfl (by rfl)
     intro w3 hR K hK;replace hS:=hS.rely hR;clear hR;obtain⟨g',o',nd',f1,r1,e1,-,hx',c0,c1,c2,hf,hr⟩:=hS.arg.at_ hlt;injection e1 with e1;injection e1 with e2 e3;subst e2 e3;rw[hx]at hx';injection hx' with hx';subst hx';have hg3:=qe0 c0;simp[go_sem,c0,c1,c2];refine hK _ _ ⟨q1u (λe he=>?_),?_⟩
     . have hm:=AX he;simp[go_sem,c0,c1,c2]at hm;rcases hm with rfl|rfl|rfl<;>exact⟨_,rfl,hSh,hg3⟩
     clear hK K c0 c1 c2 hg3
     try walk_nrm
     co_apply q32 TT rfl (by rfl) rfl (hN1 nd (List.mem_of_getElem? hx) _ _ _ hf hr (BN hB hS.g.size) (BN hN hS.g.size)) (by simp[AR])
     rintro x w4 ⟨f',r',rfl,ho1,ho2,hg,hk4⟩;obtain⟨B1,m1,d1,rfl⟩:=ho1.ri.val;obtain⟨B2,m2,d2,rfl⟩:=ho2.ri.val;replace hS:jH B0 w _ qa k w4/\qf w4 w.heap.size (.slice B1 m1 d1) nd.frm/\qf w4 w.heap.size (.slice B2 m2 d2) nd.row:=⟨hS.new hg hk4,ho1.lower hS.g.size,ho2.lower hS.g.size⟩;clear ho1 ho2 hg hk4 hf hr
     have rl2:∀{x y:AE},(jH B0 w (.slice (some ⟨g,o,none⟩) qa.length c) qa k x/\qf x w.heap.size (.slice B1 m1 d1) nd.frm/\qf x w.heap.size (.slice B2 m2 d2) nd.row)->AW x y->(jH B0 w (.slice (some ⟨g,o,none⟩) qa.length c) qa k y/\qf y w.heap.size (.slice B1 m1 d1) nd.frm/\qf y w.heap.size (.slice B2 m2 d2) nd.row):=λ{x y} h r=>by
      obtain⟨d,rfl⟩:=r;exact⟨h.1.rely ⟨d,rfl⟩,h.2.1.new (qhp x d),h.2.2.new (qhp x d)⟩
     try walk_nrm
     co_opw rl2 hS (skip) (co_still TT)
     co_apply opsC_cons_k rfl (by rfl)
     intro w5 hR K hK;replace hS:=rl2 hS hR;clear hR;obtain⟨u0,u1,u2,k0,k1,k2,z0,z1,z2,qkO⟩:=hS.1.at_ hlt;simp[go_sem,k0,k1,k2,z0,z1,z2];refine hK _ _ ⟨qpp E (by simp) (λe he=>?_),?_⟩
     . have hm:=AX he;simp[go_sem,qpo,k0,k1,k2,z0,z1,z2]at hm;rcases hm with rfl|rfl|rfl<;>exact⟨_,_,rfl,hN,by simpa using qkO⟩
     clear hK K k0 k1 k2 z0 z1 z2;replace hS:=hS.1.store hx hS.2.1 hS.2.2
     try walk_nrm
     co_go TT jH.rely hS (co_quiet TT)
     have e:Bf.wrap ((k:Int)+1)=((k+1:Nat):Int):=by rw[Be];omega
     simp only[e];refine⟨⟨k+1,_,_,_,_,_,_,_,_,_,_,_,_,_,_,_,_,_,_,by omega,hS,rfl⟩,?_⟩;simp[MuN];omega
   . intro hk0;obtain rfl:k=qa.length:=by have:=of_decide_eq_false hk0;omega
     co_go TT jH.rely hS (co_quiet TT)
     refine⟨rfl,_,resultsC_tmp (by rfl) _,?_,hS.g,hS.ok⟩;have:=hS.row;rw[BU,BI]at this;simpa using this
end
section
variable {Sh:Nat->Prop}{Fz:Loc->Prop}{T:Nat->qz}{n B0 N1:Nat}
def SzC(left:Int)(fits:Prop)(x:AF):Prop:=∃z:Int,x=.int .i64 z/\z<=left/\-1<=z/\(0<=z->fits)
theorem q8v:∃m,∀(l:List Int) (v:AF) (left:Int) (w:AE),qY B0 w v l->0<=left->left<=1048576 ->
   CallsC prog true AW (DS Sh Fz T n 0) 96 #[v,.int .i64 left] m w λx w'=>SzC left ((l.length:Int)<=left) x/\Since AW w w':=by
 have TT:=qi6 (Sh:=Sh) (Fz:=Fz) (T:=T) (n:=n) (h:=0)
 co_apply AD
 intro l v left w h h0 h1;obtain⟨A,k0,c,rfl,h2,h3,h4⟩:=h.form;subst h3;have hF:Since AW w w:=.refl w
 co_apply callsC_of_wpC func96 (by rfl) rfl
 simp only[ntmps96,By,Bs,Bt,BQ,BS,Ai,Ah,BA,Bz,BC,BB]
 co_stmt TT (Since.rely TT) hF (co_quiet TT)
 co_apply wpC_seq TT
 co_reg TT
 co_op (Since.rely TT) hF (co_quiet TT)
 co_op (Since.rely TT) hF (co_quiet TT)
 co_op (Since.rely TT) hF (co_quiet TT)
 co_op (Since.rely TT) hF (co_quiet TT)
 have e:Bf.wrap (left-(l.length:Int))=left-l.length:=by rw[Be];omega
 rw[e]
 co_op (Since.rely TT) hF (co_quiet TT)
 co_apply opsC_nil TT
 co_then
 co_apply wpC_seq_mid TT (λa' w'=>Since AW w w'/\(l.length:Int)<=left/\∃v9 v10 v11,a'={tmps:=#[.slice A l.length c,.int .i64 (left-l.length),undef,undef,.int .i64 0,.int .i64 left,.slice A l.length c,.int .i64 l.length,.int .i64 (left-l.length),v9,v10,v11],defers:=[]})
 . co_go TT (Since.rely TT) hF (co_quiet TT)
   co_split TT (decide (left-(l.length:Int)<0))
   . intro hx;have hx':left-(l.length:Int)<0:=of_decide_eq_true hx
     co_go TT (Since.rely TT) hF (co_quiet TT)
     exact⟨rfl,_,resultsC_tmp (by rfl) _,⟨-1,rfl,by omega,by omega,λh=>by omega⟩,hF⟩
   . intro hx;have hx':¬left-(l.length:Int)<0:=of_decide_eq_false hx
     co_go TT (Since.rely TT) hF (co_quiet TT)
     exact⟨hF,by omega,_,_,_,rfl⟩
 . rintro a' w' ⟨hF,hle,v9,v10,v11,rfl⟩
   co_go TT (Since.rely TT) hF (co_quiet TT)
   exact⟨rfl,_,resultsC_tmp (by rfl) _,⟨left-l.length,rfl,by omega,by omega,λ_=>hle⟩,hF⟩
structure SSt(B0:Nat)(w₀:AE)(nd:Node)(f r:AF)(w:AE):Prop where
 g:w₀.grownBy w none
 ok:qE w₀.heap.size w
 a:Blk w w₀.heap.size 86 #[.int .i64 nd.kind,f,r]
 af:qY B0 w f nd.frm
 ar:qY B0 w r nd.row
 lt:B0<=w₀.heap.size
theorem SSt.rely{f:AF}(h:SSt B0 w₀ nd f r w)(q:AW w w₁):SSt B0 w₀ nd f r w₁:=by
 obtain⟨d,rfl⟩:=q;exact⟨qac h.g (qhp w d),h.ok,h.a,h.af,h.ar,h.lt⟩
theorem SSt.since{f:AF}(h:SSt B0 w₀ nd f r w)(q:Since AW w w₁):SSt B0 w₀ nd f r w₁:=by
 rcases q with rfl|q
 . exact h
 . exact h.rely q
theorem q8w(E:Calm Sh Fz T B0 N1):∃m,∀(nd:Node) (f r:AF) (left:Int) (w:AE),qY B0 w f nd.frm->qY B0 w r nd.row->B0<=w.heap.size->N1<=w.heap.size->0<=left->left<=1048576 ->
   CallsC prog true AW (DS Sh Fz T n 0) 60 #[.agg #[.int .i64 nd.kind,f,r],.int .i64 left] m w λx w'=>SzC left ((nd.frm.length:Int)<=left/\(nd.row.length:Int)<=left) x/\w.grownBy w' none/\qE w.heap.size w':=by
 have TT:=qi6 (Sh:=Sh) (Fz:=Fz) (T:=T) (n:=n) (h:=0);obtain⟨m1,hI⟩:=q8v (Sh:=Sh) (Fz:=Fz) (T:=T) (n:=n) (B0:=B0)
 co_apply AD
 intro nd f r left w hf hr hB hN h0 h1;obtain⟨A1,n1,c1,rfl,-,-,-⟩:=hf.form;obtain⟨A2,n2,c2,rfl,-,-,-⟩:=hr.form;have hF:w.grownBy w none/\w.heap.size=w.heap.size/\qY B0 w (.slice A1 n1 c1) nd.frm/\qY B0 w (.slice A2 n2 c2) nd.row:=⟨qag _ _,rfl,hf,hr⟩
 have rl:∀{x y:AE},(w.grownBy x none/\x.heap.size=w.heap.size/\qY B0 x (.slice A1 n1 c1) nd.frm/\qY B0 x (.slice A2 n2 c2) nd.row)->AW x y->(w.grownBy y none/\y.heap.size=w.heap.size/\qY B0 y (.slice A1 n1 c1) nd.frm/\qY B0 y (.slice A2 n2 c2) nd.row):=λ{x y} h q=>by
  obtain⟨d,rfl⟩:=q;exact⟨qac h.1 (qhp x d),h.2.1,h.2.2.1,h.2.2.2⟩
 have hSh:∀r,w.heap.size<=r->¬Sh r:=λr h1 h2=>by have:=(E.sh r h2).2;omega
 co_apply callsC_of_wpC func60 (by rfl) rfl
 simp only[ntmps60,By,Bs,Bt,BQ,BS,Ai,Ah,BA,Bz,BC,BB]
 co_apply wpC_seq TT
 co_reg TT
 co_apply opsC_cons_k rfl (by rfl)
 intro w1 hR K hK;replace hF:=rl hF hR;clear hR
 go_simp
 refine hK _ _ ⟨qho E _ (listed_nil (by simp[go_sem])),?_⟩;clear hK K
 try walk_nrm
 have hs1:=hF.2.1
 try rw[hs1]
 replace hF:SSt B0 w nd (.slice A1 n1 c1) (.slice A2 n2 c2) (w1.alloc (.cells #[.int .i64 nd.kind,.slice A1 n1 c1,.slice A2 n2 c2] 86)):=by
  have hg:=Bm w1 (.cells #[.int .i64 nd.kind,.slice A1 n1 c1,.slice A2 n2 c2] 86) none;exact⟨qac hF.1 hg,qE.alloc (λr k1 k2=>by omega) (λh=>absurd h (by decide)),by rw[<-hs1];exact Blk.new _ _ _,hF.2.2.1.new hg (by omega),hF.2.2.2.new hg (by omega),hB⟩
 co_op SSt.rely hF (co_quiet TT)
 co_apply opsC_nil TT
 co_then
 co_apply wpC_seq TT
 co_reg TT
 co_opw SSt.rely hF (skip) (co_still TT)
 co_opw SSt.rely hF (have hc:Bj _ ⟨w.heap.size,1,none⟩=some (.slice A1 n1 c1):=hF.a.cell 1) (exact qnr hc (hSh _ (BO _)) (by co_evs (rfl)))
 co_op SSt.rely hF (co_quiet TT)
 co_apply qhq TT rfl (by rfl) rfl (hI _ _ left _ hF.af h0 h1) (by simp[AR])
 rintro x w5 ⟨⟨z,rfl,hz1,hz2,hz3⟩,hw5⟩;replace hF:=hF.since hw5;clear hw5
 try walk_nrm
 co_op SSt.rely hF (co_quiet TT)
 co_apply opsC_nil TT
 co_then
 co_apply wpC_seq_mid TT (λa' w'=>SSt B0 w nd (.slice A1 n1 c1) (.slice A2 n2 c2) w'/\0<=z/\∃v6 v7 v8 v9 v10 v11 v12 v13 v14 v15 v16 v17,a'={tmps:=#[.agg #[.int .i64 nd.kind,.slice A1 n1 c1,.slice A2 n2 c2],.int .i64 z,.pointer (some ⟨w.heap.size,0,none⟩),undef,.int .i64 0,.pointer (some ⟨w.heap.size,1,none⟩),v6,v7,v8,v9,v10,v11,v12,v13,v14,v15,v16,v17],defers:=[]})
 . co_go TT SSt.rely hF (co_quiet TT)
   co_split TT (decide (z<0))
   . intro hx;have hx':z<0:=of_decide_eq_true hx
     co_go TT SSt.rely hF (co_quiet TT)
     exact⟨rfl,_,resultsC_tmp (by rfl) _,⟨-1,rfl,by omega,by omega,λh=>by omega⟩,hF.g,hF.ok⟩
   . intro hx;have hx':¬z<0:=of_decide_eq_false hx
     co_go TT SSt.rely hF (co_quiet TT)
     exact⟨hF,by omega,_,_,_,_,_,_,_,_,_,_,_,_,rfl⟩
 . rintro a' w' ⟨hF,hz0,v6,v7,v8,v9,v10,v11,v12,v13,v14,v15,v16,v17,rfl⟩
   co_apply wpC_seq TT
   co_reg TT
   co_opw SSt.rely hF (skip) (co_still TT)
   co_opw SSt.rely hF (have hc:Bj _ ⟨w.heap.size,2,none⟩=some (.slice A2 n2 c2):=hF.a.cell 2) (exact qnr hc (hSh _ (BO _)) (by co_evs (rfl)))
   co_op SSt.rely hF (co_quiet TT)
   co_apply qhq TT rfl (by rfl) rfl (hI _ _ z _ hF.ar hz0 (by omega)) (by simp[AR])
   rintro x w6 ⟨⟨y,rfl,hy1,hy2,hy3⟩,hw6⟩;replace hF:=hF.since hw6;clear hw6
   try walk_nrm
   co_op SSt.rely hF (co_quiet TT)
   co_apply opsC_nil TT
   co_then
   co_apply wpC_seq_mid TT (λa' w'=>SSt B0 w nd (.slice A1 n1 c1) (.slice A2 n2 c2) w'/\0<=y/\∃v0 v2 v3 v4 v5 v6 v7 v8 v9 v10 v11 v12 v13 v14 v15 v16 v17,a'={tmps:=#[v0,.int .i64 y,v2,v3,v4,v5,v6,v7,v8,v9,v10,v11,v12,v13,v14,v15,v16,v17],defers:=[]})
   . co_go TT SSt.rely hF (co_quiet TT)
     co_split TT (decide (y<0))
     . intro hx;have hx':y<0:=of_decide_eq_true hx
       co_go TT SSt.rely hF (co_quiet TT)
       exact⟨rfl,_,resultsC_tmp (by rfl) _,⟨-1,rfl,by omega,by omega,λh=>by omega⟩,hF.g,hF.ok⟩
     . intro hx;have hx':¬y<0:=of_decide_eq_false hx
       co_go TT SSt.rely hF (co_quiet TT)
       exact⟨hF,by omega,_,_,_,_,_,_,_,_,_,_,_,_,_,_,_,_,_,rfl⟩
   . rintro a' w' ⟨hF,hy0,v0,v2,v3,v4,v5,v6,v7,v8,v9,v10,v11,v12,v13,v14,v15,v16,v17,rfl⟩
     co_go TT SSt.rely hF (co_quiet TT)
     exact⟨rfl,_,resultsC_tmp (by rfl) _,⟨y,rfl,by omega,by omega,λ_=>⟨hz3 hz0,Int.le_trans (hy3 hy0) hz1⟩⟩,hF.g,hF.ok⟩
structure PSt(B0:Nat)(w₀:AE)(v:AF)(qa:List Node)(w:AE):Prop where
 g:w₀.grownBy w none
 ok:qE w₀.heap.size w
 arg:jK B0 w v qa
 lt:B0<=w₀.heap.size
theorem PSt.new(h:PSt B0 w₀ v qa w)(hg:w.grownBy w₁ none)(hk:qE w.heap.size w₁):PSt B0 w₀ v qa w₁:=⟨qac h.g hg,h.ok.trans h.g.size hk hg,h.arg.new hg (BN h.lt h.g.size),h.lt⟩
theorem PSt.rely(h:PSt B0 w₀ v qa w)(q:AW w w₁):PSt B0 w₀ v qa w₁:=by
 obtain⟨d,rfl⟩:=q;exact⟨qac h.g (qhp w d),h.ok,h.arg.new (qhp w d) (BN h.lt h.g.size),h.lt⟩
def MuS(qa:List Node)(a:Act)(_:AE):Nat:=match a.tmps.getD 5 undef with | .int _ j=>qa.length-j.toNat|_=>0
theorem q6x(E:Calm Sh Fz T B0 N1)(qa:List Node):∃m,∀(v:AF) (left:Int) (w:AE),jK B0 w v qa->B0<=w.heap.size->N1<=w.heap.size->0<=left->left<=1048576 ->
   CallsC prog true AW (DS Sh Fz T n 0) 25 #[v,.int .i64 left] m w λx w'=>SzC left (qlq qa) x/\w.grownBy w' none/\qE w.heap.size w':=by
 have TT:=qi6 (Sh:=Sh) (Fz:=Fz) (T:=T) (n:=n) (h:=0);obtain⟨mN,hN1⟩:=q8w (n:=n) E
 co_apply AD
 intro v left w h hB hN h0 h1;obtain⟨A,k0,c,rfl,h2,h3,h4⟩:=h.form;subst h3;have hF:PSt B0 w (.slice A qa.length c) qa w:=⟨qag _ _,.start,h,hB⟩
 co_apply callsC_of_wpC func25 (by rfl) rfl
 simp only[ntmps25,By,Bs,Bt,BQ,BS,Ai,Ah,BA,Bz,BC,BB]
 co_stmt TT PSt.rely hF (co_quiet TT)
 co_apply wpC_seq TT
 co_reg TT
 co_op PSt.rely hF (co_quiet TT)
 co_op PSt.rely hF (co_quiet TT)
 co_op PSt.rely hF (co_quiet TT)
 co_op PSt.rely hF (co_quiet TT)
 have e:Bf.wrap (left-(qa.length:Int))=left-qa.length:=by rw[Be];omega
 rw[e]
 co_op PSt.rely hF (co_quiet TT)
 co_apply opsC_nil TT
 co_then
 co_apply wpC_seq_mid TT (λa' w'=>PSt B0 w (.slice A qa.length c) qa w'/\(qa.length:Int)<=left/\∃v5 v6 v7 v8 v9 v10 v11 v12 v13 v14 v15 v16 v17 v18 v19 v20 v21 v22 v23 v24 v25 v26,a'={tmps:=#[.slice A qa.length c,.int .i64 (left-qa.length),undef,undef,.int .i64 0,v5,v6,v7,v8,v9,v10,v11,v12,v13,v14,v15,v16,v17,v18,v19,v20,v21,v22,v23,v24,v25,v26],defers:=[]})
 . co_go TT PSt.rely hF (co_quiet TT)
   co_split TT (decide (left-(qa.length:Int)<0))
   . intro hx;have hx':left-(qa.length:Int)<0:=of_decide_eq_true hx
     co_go TT PSt.rely hF (co_quiet TT)
     exact⟨rfl,_,resultsC_tmp (by rfl) _,⟨-1,rfl,by omega,by omega,λh=>by omega⟩,hF.g,hF.ok⟩
   . intro hx;have hx':¬left-(qa.length:Int)<0:=of_decide_eq_false hx
     co_go TT PSt.rely hF (co_quiet TT)
     exact⟨hF,by omega,_,_,_,_,_,_,_,_,_,_,_,_,_,_,_,_,_,_,_,_,_,_,rfl⟩
 . rintro a' w' ⟨hF,hle,v5,v6,v7,v8,v9,v10,v11,v12,v13,v14,v15,v16,v17,v18,v19,v20,v21,v22,v23,v24,v25,v26,rfl⟩
   co_go TT PSt.rely hF (co_quiet TT)
   co_apply wpC_loop TT (λa w'=>∃(k:Nat) (z:Int) (v6 v7 v8 v9 v10 v11 v12 v13 v14 v15 v16 v17 v18 v19 v20 v21 v22 v23 v24 v25 v26:AF),k<=qa.length/\0<=z/\z<=left/\(∀j nd,j<k->qa[j]?=some nd->nd.frm.length<=1048576/\nd.row.length<=1048576)/\PSt B0 w (.slice A qa.length c) qa w'/\a={tmps:=#[.slice A qa.length c,.int .i64 z,undef,undef,.int .i64 0,.int .i64 k,v6,v7,v8,v9,v10,v11,v12,v13,v14,v15,v16,v17,v18,v19,v20,v21,v22,v23,v24,v25,v26],defers:=[]}) (MuS qa) _ qa.length
   . exact⟨0,left-qa.length,_,_,_,_,_,_,_,_,_,_,_,_,_,_,_,_,_,_,_,_,_,BR _,by omega,by omega,λj nd hj=>by omega,hF,rfl⟩
   . simp[MuS]
   . rintro a w' ⟨k,z,v6,v7,v8,v9,v10,v11,v12,v13,v14,v15,v16,v17,v18,v19,v20,v21,v22,v23,v24,v25,v26,hk,hz0,hz1,hall,hS,rfl⟩
     co_go TT PSt.rely hS (co_quiet TT)
     co_split TT (decide ((k:Int)<(qa.length:Int)))
     . intro hk0;have hki:(k:Int)<(qa.length:Int):=of_decide_eq_true hk0;have hlt:k<qa.length:=by omega
       obtain⟨g,o,nd,f,r,rfl,hgB,hx,-,-,-,-,-⟩:=hS.arg.at_ hlt;have hSh:¬Sh g:=λh=>by have:=(E.sh _ h).1;omega
       co_go TT PSt.rely hS (co_still TT)
       co_apply opsC_cons_k rfl (by rfl)
       intro w3 hR K hK;replace hS:=hS.rely hR;clear hR;obtain⟨g',o',nd',f1,r1,e1,-,hx',c0,c1,c2,hf,hr⟩:=hS.arg.at_ hlt;injection e1 with e1;injection e1 with e2 e3;subst e2 e3;rw[hx]at hx';injection hx' with hx';subst hx';have hg3:=qe0 c0;simp[go_sem,c0,c1,c2];refine hK _ _ ⟨q1u (λe he=>?_),?_⟩
       . have hm:=AX he;simp[go_sem,c0,c1,c2]at hm;rcases hm with rfl|rfl|rfl<;>exact⟨_,rfl,hSh,hg3⟩
       clear hK K c0 c1 c2 hg3;replace hS:PSt B0 w (.slice (some ⟨g,o,none⟩) qa.length c) qa w3/\qY B0 w3 f1 nd.frm/\qY B0 w3 r1 nd.row:=⟨hS,hf,hr⟩
       have rl3:∀{x y:AE},(PSt B0 w (.slice (some ⟨g,o,none⟩) qa.length c) qa x/\qY B0 x f1 nd.frm/\qY B0 x r1 nd.row)->AW x y->(PSt B0 w (.slice (some ⟨g,o,none⟩) qa.length c) qa y/\qY B0 y f1 nd.frm/\qY B0 y r1 nd.row):=λ{x y} h q=>by
        obtain⟨d,rfl⟩:=q;exact⟨h.1.rely ⟨d,rfl⟩,h.2.1,h.2.2⟩
       clear hf hr
       try walk_nrm
       co_op rl3 hS (co_quiet TT)
       co_apply qhq TT rfl (by rfl) rfl (hN1 nd f1 r1 z _ hS.2.1 hS.2.2 (BN hB hS.1.g.size) (BN hN hS.1.g.size) hz0 (by omega)) (by simp[AR])
       rintro x w4 ⟨⟨y,rfl,hy1,hy2,hy3⟩,hg,hk4⟩;replace hS:=hS.1.new hg hk4;clear hg hk4 rl3
       try walk_nrm
       co_go TT PSt.rely hS (co_quiet TT)
       co_split TT (decide (y<0))
       . intro hyx;have qkP:y<0:=of_decide_eq_true hyx
         co_go TT PSt.rely hS (co_quiet TT)
         exact⟨rfl,_,resultsC_tmp (by rfl) _,⟨-1,rfl,by omega,by omega,λh=>by omega⟩,hS.g,hS.ok⟩
       . intro hyx;have qkP:¬y<0:=of_decide_eq_false hyx;have h5:=hy3 (by omega)
         co_go TT PSt.rely hS (co_quiet TT)
         have e:Bf.wrap ((k:Int)+1)=((k+1:Nat):Int):=by rw[Be];omega
         simp only[e];refine⟨⟨k+1,y,_,_,_,_,_,_,_,_,_,_,_,_,_,_,_,_,_,_,_,_,_,by omega,by omega,by omega,λj nd' hj hx'=>?_,hS,rfl⟩,?_⟩
         . by_cases hjk:j=k
           . subst hjk;rw[hx]at hx';cases hx';omega
           . exact hall j nd' (by omega) hx'
         . simp[MuS];omega
     . intro hk0;obtain rfl:k=qa.length:=by have:=of_decide_eq_false hk0;omega
       have hfit:qlq qa:=⟨by omega,λnd hm=>by
        obtain⟨j,hj⟩:=List.mem_iff_getElem?.1 hm;exact hall j nd (Bv.1 hj).1 hj⟩
       co_go TT PSt.rely hS (co_quiet TT)
       exact⟨rfl,_,resultsC_tmp (by rfl) _,⟨z,rfl,by omega,by omega,λ_=>hfit⟩,hS.g,hS.ok⟩
end
def q34:Obj->Obj
 | .cells c e fr=>if e=3∨e=81 then .cells c e fr else .cells #[] e
 |o=>o
def q6z:Obj->Bool
 | .cells _ e _=>!decide (e=3∨e=81)
 |_=>false
def qgt(z w':AE):AE:={z with heap:=z.heap++(w'.heap.extract z.heap.size w'.heap.size).map q34,drawn:=w'.drawn}
section
variable {B:Base}{M:Mks B}{w z w':AE}
theorem qjp(r:Nat)(h:r<z.heap.size):(qgt z w').heap[r]?=z.heap[r]?:=by
 show (z.heap++_)[r]?=_;rw[Array.getElem?_append_left h]
theorem qmt(r:Nat)(h:z.heap.size<=r):(qgt z w').heap[r]?=(w'.heap[r]?).map q34:=by
 show (z.heap++_)[r]?=_;rw[Array.getElem?_append_right h,Array.getElem?_map,AA];by_cases h2:r<w'.heap.size
 . rw[if_pos (by omega),show z.heap.size+(r-z.heap.size)=r by omega]
 . rw[if_neg (by omega),Array.getElem?_eq_none (by omega)]
theorem qt6(h:z.heap.size<=w'.heap.size):(qgt z w').heap.size=w'.heap.size:=by
 show (z.heap++_).size=_;simp;omega
def Mks.qfH(M:Mks B)(w w':AE)(hN:M.N<=w.heap.size)(hs:w.heap.size<=w'.heap.size):Mks B where
 N:=w'.heap.size
 ge:=BN M.ge (BN hN hs)
 Pt:=λr=>M.Pt r∨(w.heap.size<=r/\∃o,w'.heap[r]?=some o/\q6z o=true)
 Z:=λr=>M.Z r∨(w.heap.size<=r/\∃o,w'.heap[r]?=some o/\q6z o=true)
 Ch:=M.Ch
 old:=λr h=>by
  rcases h with (h|⟨_,o,h,_⟩)|h
  . have:=M.old r (.inl h);omega
  . exact(Ab.1 h).1
  . have:=M.old r (.inr h);omega
 zp:=λr h=>h.imp (M.zp r) id
theorem Mks.yz(hN:M.N<=w.heap.size)(hs:w.heap.size<=w'.heap.size):M.Le (M.qfH w w' hN hs):=
 ⟨BN hN hs,λ_ h=>.inl h,λ_ h=>.inl h,λ_ h=>h,λ_ h=>h.imp id (λk=>BN hN k.1)⟩
theorem q80(h:q8 N v)(hN:B.N0<=N):Ok B.A B.F v:=by
 unfold q8 at h;split at h
 . exact .int _ _
 . exact .slice _ _ (λa e=>by cases e)
 . exact .slice _ _ (λa e=>by cases e;exact B.fresh _ (BN hN h))
 . exact h.elim
theorem q35(hb:Both (B.pen M) w z)(hg:w.grownBy w' none)(hk:qE w.heap.size w'):∃M':Mks B,M.Le M'/\Both (B.pen M') w' (qgt z w')/\(∀r,w.heap.size<=r->M.N<=r):=by
 have hN:M.N<=w.heap.size:=hb.rel.room;have hs:=hg.size;have hz:z.heap.size=w.heap.size:=hb.size;refine⟨M.qfH w w' hN hs,Mks.yz hN hs,⟨⟨(qt6 (by omega)).symm,?_,BO _,λr hp=>?_,λr hB hp=>?_,λr o hB hp ho=>?_,λr hc=>?_,rfl⟩,?_⟩,λr h=>BN hN h⟩
 . show w'.os=z.os;rw[hg.os];exact hb.rel.os
 . rcases hp with hp|⟨h1,o,h2,h3⟩
   . have hlt:r<w.heap.size:=BP (M.old r (.inl hp)) hN;obtain⟨c',c,e,fr,k1,k2,k3,k4,k5,k6,k7⟩:=hb.rel.part r hp;refine⟨c',c,e,fr,(qjp r (by omega)).trans k1,(hg.block r hlt (by simp)).trans k2,k3,λhzz=>?_,k5,k6,k7⟩;rcases hzz with h|⟨h,_⟩
     . exact k4 h
     . omega
   . obtain⟨c,e,k1,k2⟩:=hk r h1 (Ab.1 h2).1;rw[k1]at h2;cases h2;have he:¬(e=3∨e=81):=by simpa[q6z]using h3
     refine⟨#[],c,e,(0,0),?_,k1,BR _,λ_=>rfl,λi v hv=>by simp at hv,.inl rfl,λ_=>BR _⟩;rw[qmt r (by omega),k1];simp only[BZ,q34,if_neg he]
 . by_cases hlt:r<w.heap.size
   . rw[hg.block r hlt (by simp),qjp r (by omega)];exact hb.rel.same r hB (λh=>hp (.inl h))
   . rw[qmt r (by omega)];cases hr:w'.heap[r]? with
     |none=>rfl
     |some o=>
      obtain⟨c,e,k1,k2⟩:=hk r (by omega) (Ab.1 hr).1;rw[k1]at hr;cases hr
      have he:e=3∨e=81:=by
       rcases Classical.em (e=3∨e=81)with h|h
       . exact h
       . exact absurd (.inr ⟨by omega,_,k1,by simp[q6z];simpa using h⟩) hp
      simp only[BZ,q34,if_pos he]
 . by_cases hlt:r<w.heap.size
   . rw[qjp r (by omega)]at ho;exact hb.rel.cln r o hB (λh=>hp (.inl h)) ho
   . rw[qmt r (by omega)]at ho;cases hr:w'.heap[r]? with
     |none=>rw[hr]at ho;cases ho
     |some o'=>
      obtain⟨c,e,k1,k2⟩:=hk r (by omega) (Ab.1 hr).1;rw[k1]at ho
      have he:e=3∨e=81:=by
       rcases Classical.em (e=3∨e=81)with h|h
       . exact h
       . exact absurd (.inr ⟨by omega,_,k1,by simp[q6z];simpa using h⟩) hp
      simp only[BZ,q34,if_pos he,C7]at ho;subst ho;exact .inl ⟨rfl,λv hv=>q80 (k2 he v hv) (BN M.ge hN)⟩
 . obtain⟨k,b,cl,m,n,t,h1⟩:=hb.rel.chn r hc;have hlt:r<w.heap.size:=BP (M.old r (.inr hc)) hN;exact⟨k,b,cl,m,n,t,(qjp r (by omega)).trans h1⟩
 . show z.tape=w'.tape;rw[hg.tape];exact hb.tape
theorem again_at{t:AG}{cs:Array AF}(ht:t=3∨t=81)(h:w'.heap[g]?=some (.cells cs t (0,0)))(hg:z.heap.size<=g):(qgt z w').heap[g]?=some (.cells cs t (0,0)):=by
 rw[qmt g hg,h];simp only[BZ,q34,if_pos ht]
theorem qyj{base:Nat}{t:AG}(ht:t=3∨t=81)(h:w'.ownsRow base t size v n xs)(hb:z.heap.size<=base):(qgt z w').ownsRow base t size v n xs:=by
 refine⟨h.1,?_⟩;rcases h.2 with h0|⟨g,cap,cur,h1,h2,h3,h4⟩
 . exact .inl h0
 . exact .inr ⟨g,cap,cur,h1,h2,again_at ht h3 (BN hb h2),h4⟩
theorem qf.again{base:Nat}(h:qf w' base v l)(hb:z.heap.size<=base):qf (qgt z w') base v l:=qyj (.inl rfl) h hb
theorem DN.again{base:Nat}(h:DN w' base v qa)(hb:z.heap.size<=base):DN (qgt z w') base v qa:=by
 obtain⟨xs,h1,h2⟩:=h;refine⟨xs,qyj (.inr rfl) h1 hb,λi nd hi=>?_⟩;obtain⟨f,r,k1,k2,k3,k4,k5⟩:=h2 i nd hi;exact⟨f,r,k1,k2,k3,k4.again hb,k5.again hb⟩
theorem qpq(hs:z.heap.size<=w'.heap.size):HG z (qgt z w'):=⟨by rw[qt6 hs];exact hs,λi hi=>qjp i hi⟩
end
def Pen.slots(C:Pen)(lf:AI)(XL:Nat->Bool):Pen:={C with X:=λf t=>f=lf/\XL t=true}
section
variable {C:Pen}{S:List String}{lf:AI}{XL:Nat->Bool}{w z w':AE}
theorem Both.slots(h:Both C w z):Both (C.slots lf XL) w z:=⟨⟨h.rel.size,h.rel.os,h.rel.room,h.rel.part,h.rel.same,h.rel.cln,h.rel.chn,h.rel.drawn⟩,h.tape⟩
theorem Both.zS(h:Both (C.slots lf XL) w z):Both C w z:=⟨⟨h.rel.size,h.rel.os,h.rel.room,h.rel.part,h.rel.same,h.rel.cln,h.rel.chn,h.rel.drawn⟩,h.tape⟩
theorem Held.zS(h:Held (C.slots lf XL) w w'):Held C w w':=⟨h.block,h.size,h.os,h.output,h.tape,h.tail⟩
theorem Outside.slots{Sh:Nat->Prop}{Fz:Loc->Prop}(O:Outside C Sh Fz T n h):Outside (C.slots lf XL) Sh Fz T n h:=⟨O.seat,O.zV,O.still⟩
def jz(XL:Nat->Bool):Code->Bool
 | .region _ ops _=>ops.all (opX XL)
 | .seq a b=>jz XL a&&jz XL b
 | .cond _ a b=>jz XL a&&jz XL b
 | .block _ c | .loop c | .scope c=>jz XL c
 |_=>true
theorem q81:∀{c:Code},qec C S (λ_=>False) c->jz XL c=true->qec C S (λt=>XL t=true) c:=by
 intro c
 induction c with
 |region id ops b=>
  intro h hx o ho;refine⟨(h o ho).1,λx hxo=>?_⟩;have k:=(h o ho).2 x hxo;have k2:=Am.1 (Am.1 hx o ho) x hxo;cases x with
  |tmp t=>show ¬XL t=true;simpa[qmv]using k2
  |const v=>exact k
  |global g=>exact k
  |func f=>exact k
 |seq a b iha ihb=>
  intro h hx;simp only[jz,AB]at hx;exact⟨iha h.1 hx.1,ihb h.2 hx.2⟩
 |cond x a b iha ihb=>
  intro h hx;simp only[jz,AB]at hx;exact⟨iha h.1 hx.1,ihb h.2 hx.2⟩
 |block id c ih=>intro h hx;exact ih h hx
 |loop c ih=>intro h hx;exact ih h hx
 |scope c ih=>intro h hx;exact ih h hx
 |rangeFunc _ _ _ _=>intro h _;exact h.elim
 |_=>intro _ _;trivial
theorem q0w(h:f≠lf):(C.slots lf XL).X f=λ_=>False:=funext (λ_=>eq_false (λk=>h k.1))
theorem q60:(C.slots lf XL).X lf=λt=>XL t=true:=funext (λ_=>propext ⟨λk=>k.2,λk=>⟨rfl,k⟩⟩)
end
section
variable {C:Pen}(O:jN C){lf:AI}{XL:Nat->Bool}
include O
theorem jN.qdB:xN (C.slots lf XL) SN:=by
 have hH:qbm (C.slots lf XL):=O.xO.handle;refine⟨hH,λf hf=>?_,O.xO.qdI⟩;have h:=O.jV hf;unfold Go.Proofs.YtacemdoejblgaaaGreatDoor.jV at h;rw[show (C.slots lf XL).P=_ from O.P];split at h
 . cases h
 . rename_i fn hfn;simp only[AB,Bool.not_eq_true']at h;refine⟨fn,hfn,h.1,?_⟩;cases hb:fn.body with
   |some c=>exact .inl rfl
   |none=>
    rw[hb]at h;have h2:=h.2;simp only[List.contains_cons,List.contains_nil,Bool.or_false,Bool.or_eq_true,beq_iff_eq]at h2;rcases h2 with rfl|rfl
    . obtain⟨fn2,e1,e2,e3,e4⟩:=qsa;rw[hfn]at e1;cases e1;exact .inr ⟨rfl,e3,_,e4,λargs ha=>qot hH ha⟩
    . obtain⟨fn2,e1,e2,e3,e4⟩:=qjq;rw[hfn]at e1;cases e1;exact .inr ⟨rfl,e3,_,e4,λargs _=>qio args⟩
theorem jN.jz{c:Code}(h:qfa prog Fs Gs SN c=true):qec (C.slots lf XL) SN (λ_=>False) c:=by
 refine q1w (C:=C.slots lf XL) (Fs:=Fs) (Gs:=Gs) (λf hf=>(O.F f).2 hf) O.qfA ?_;rw[show (C.slots lf XL).P=_ from O.P];exact h
theorem jN.kT(hlf:Fs lf=false):jd (C.slots lf XL) SN:=by
 refine⟨O.qdB,λf fn c hf hfn hb=>?_⟩;have hF:Fs f=true:=(O.F f).1 hf;have hne:f≠lf:=λe=>by rw[e,hlf]at hF;cases hF
 rw[q0w (C:=C) (XL:=XL) hne];refine⟨O.jz ?_,λr _=>by cases r<;>exact λh=>h⟩;have h:=O.jV hf;rw[show (C.slots lf XL).P=_ from O.P]at hfn;unfold Go.Proofs.YtacemdoejblgaaaGreatDoor.jV at h;rw[hfn]at h;simp only[hb,AB]at h;exact h.2
end
section
variable {gr:Grd}{M:Mks gr.base}{Post:AF->AE->Prop}{Sh:Nat->Prop}{Fz:Loc->Prop}{T:Nat->qz}{n h:Nat}{w z:AE}
theorem q61(OO:jN (gr.base.pen M))(hfn:Bh.funcs[lf]?=some fn){t0:Nat}(hres:fn.results=#[.tmp t0])(hts:XOk gr XL ts)(ht0:XL t0=false){c:Code}(hc:qfa prog Fs Gs SN c=true)(hx:jz XL c=true) :
   FrE ((gr.base.pen M).slots lf XL) SN ((base lf).at ⟨ts,[]⟩ [.code c]):=by
 unfold FrE;rw[show ((base lf).at ⟨ts,[]⟩ [.code c]).fn=lf from rfl,q60];refine⟨λt v hn hv=>hts t v (by simpa using hn) hv,λit hi=>?_,rfl,rfl,rfl,λch e=>(by cases e),fn,?_,λr hr=>?_⟩
 . have:it=.code c:=by simpa[Frame.at]using hi
   subst this;exact q81 (OO.jz hc) hx
 . exact hfn
 . rw[hres]at hr;have:r=.tmp t0:=by simpa using hr
   subst this;show ¬XL t0=true;simp[ht0]
theorem q82{e:Exit}(h:FrE ((gr.base.pen M).slots lf XL) SN (qi9 (base lf) a todo e)):XOk gr XL a.tmps:=λt v hx hv=>by
 have e2:(qi9 (base lf) a todo e).tmps=a.tmps:=by cases e<;>rfl
 have e3:(qi9 (base lf) a todo e).fn=lf:=by cases e<;>rfl
 have k:=h.tm t v (by rw[e3];intro hh;rw[hh.2]at hx;cases hx);rw[e2]at k;exact k hv
theorem q36(OO:jN (gr.base.pen M))(hfn:Bh.funcs[lf]?=some fn)(hlf:Fs lf=false){t0:Nat}(hres:fn.results=#[.tmp t0])(hts:XOk gr XL ts)(ht0:XL t0=false){c:Code}(qK:qfa prog Fs Gs SN c=true)(hx:jz XL c=true)
   (hb:Both (gr.base.pen M) w z) (O:Outside (gr.base.pen M) Sh Fz T n h) (hL:qH T n h w) {Q:Exit->Act->AE->Prop} (hR:∀e v x y,x.heap=y.heap->Q e v x->Q e v y) (hc:∀W,z.heap=W.heap->c.wp prog Q ⟨ts,[]⟩ W) (hQ:∀e a w,Q e a w->Ends e)
   {k:List Item} 
   (next:∀e a' todo w' z',Both (gr.base.pen M) w' z'->Held (gr.base.pen M) w w'->XOk gr XL a'.tmps->(e=.normal->todo=[])->qH T n h w'->Q e a' z'->qc prog Post Sh Fz T n h 0 (G (qi9 (base lf) ⟨a'.tmps,[]⟩ (todo++k) e) cs) w') :
   qc prog Post Sh Fz T n h 0 (G ((base lf).at ⟨ts,[]⟩ (.code c::k)) cs) w:=
 qnb (C:=(gr.base.pen M).slots lf XL) (a:=⟨ts,[]⟩) (OO.kT hlf) (q61 OO hfn hres hts ht0 qK hx) hb.slots O.slots hL hR (λ_ _=>hc _ rfl) hQ
  (λe a' todo w' z' h1 h2 h3 h4 h5 h6=>next e a' todo w' z' h1.zS h2.zS (q82 h3) h4 h5 h6)
end
section
variable {gr:Grd}{M:Mks gr.base}{Post:AF->AE->Prop}{Sh:Nat->Prop}{Fz:Loc->Prop}{T:Nat->qz}{n:Nat}{w z:AE}
 {b:AH} {a:Act} {k:List Item} {cs:List AH} {ops:Array Oper} {i:Nat} {rest:List Nat} {o:Oper} {f:AI} {args:Array AM} {ats:Array AG}
theorem qkQ(hb:Both (gr.base.pen M) w z)(O:jA (gr.base.pen M) Sh Fz)(hT:∀i,i≠0->T i=.left)(hsh:∀r,Sh r->gr.N0<=r):Calm Sh Fz T gr.N0 w.heap.size:=
 ⟨hT,λr h=>⟨hsh r h,BP (O.lt.1 r h) hb.rel.room⟩,λa h=>BP (O.lt.2 a h) hb.rel.room⟩
theorem qyk(hg:w.grownBy w' none):ql (gr.base.pen M) (λr=>w.heap.size<=r) w w':=
 ⟨λr hr _=>hg.block r (by omega) (by simp),hg.size,hg.os,hg.output,hg.tape⟩
theorem qr6(hb:Both (gr.base.pen M) w z)(O:jA (gr.base.pen M) Sh Fz)(ho:ops[i]?=some o)(hw:Bi o (yielded ops a.tmps)=true)(hk:b.kind≠.early)(hop:o.op=.call {callee:=.value (.func f),args,argTypes:=ats})
   {R:AF->AE->Prop}  (hc:CallsC prog true AW (DS Sh Fz T n 0) f (args.map a.eval) m w λv w'=>R v w'/\w.grownBy w' none/\qE w.heap.size w')
   (next:∀v w' M',M.Le M'->Both (gr.base.pen M') w' (qgt z w')->jA (gr.base.pen M') Sh Fz->w.grownBy w' none->ql (gr.base.pen M) (λr=>w.heap.size<=r) w w'->R v w' ->
    qc prog Post Sh Fz T n 0 0 (G (b.at (a.put o.dst v) (.inRegion ops rest::k)) cs) w') :
   qc prog Post Sh Fz T n 0 0 (G (b.at a (.inRegion ops (i::rest)::k)) cs) w:=by
 refine q2o (Goes.call (m:=0) (qi6 (Sh:=Sh) (Fz:=Fz) (T:=T) (n:=n) (h:=0)) ho hw hk hop hc (λv w' hp=>?_));obtain⟨hR,hg,hn⟩:=hp;obtain⟨M',hle,hb',-⟩:=q35 hb hg hn;have key:=next v w' M' hle hb' (O.le hle) hg (qyk hg) hR;exact λw₁ h₁=>by obtain⟨d,rfl⟩:=h₁;exact qc.at key d
theorem q62(OO:jN (gr.base.pen M))(hb:Both (gr.base.pen M) w z)(O:jA (gr.base.pen M) Sh Fz)(hT:∀i,i≠0->T i=.left)(ho:ops[i]?=some o)(hw:Bi o (yielded ops a.tmps)=true)(hk:b.kind≠.early)(hop:o.op=.call {callee:=.value (.func f),args,argTypes:=ats})
    {c:Code} (hfn:Bh.funcs[f]?=some fn) (hname:(fn.name == "runtime.NumGoroutine")=false) (hbody:fn.body=some c) (hF:Fs f=true)  (hvs:args.map a.eval=vs) (qkR:∀v,v∈vs->Ok gr.A gr.F v)
   {R:AF->AE->Prop} (hR:∀v x y,x.heap=y.heap->R v x->R v y) (hc:∀W,z.heap=W.heap->Calls prog f vs W fun | .returned v,w'=>R v w'|_,_=>False)
   (next:∀v w' z',Both (gr.base.pen M) w' z'->Held (gr.base.pen M) w w'->Ok gr.A gr.F v->R v z'->qc prog Post Sh Fz T n 0 0 (G (b.at (a.put o.dst v) (.inRegion ops rest::k)) cs) w') :
   qc prog Post Sh Fz T n 0 0 (G (b.at a (.inRegion ops (i::rest)::k)) cs) w:=by
 refine qe9 ho hw hk hop hfn hname hbody ?_;rw[hvs,<-enter_at _ hfn hbody];refine qy8 (C:=gr.base.pen M) OO.zR ((OO.F f).2 hF) qkR (by rw[OO.P];exact hfn) hbody hb (O.alone hT) (qgq hT) hR (λd t=>hc _ rfl) (λv w' z' h1 h2 h3 _ h5=>?_);rw[Ba,ho];exact next v w' z' h1 h2 h3 h5
end
section
variable {W:AE}{ea:Addr}
theorem q37(S:Start W ea):Both ((gr2 W.heap.size gE ea).base.pen (mk2 W.heap.size gE #[] ea)) W (vu (pt2 W.heap.size gE #[] ea) (λ_=>0) W):=by
 refine qkJ (BO _) (λ_=>Iff.rfl) (λr hr=>?_) (λr ob hB hr ho=>?_) (λ_ h=>h)
 . obtain⟨hlt,h0,hr⟩:=of_decide_eq_true hr
   have key:∃c' e',W.heap[r]?=some (.cells c' e' (0,0)):=by
    rcases hr with rfl|⟨_,hc⟩|rfl
    . obtain⟨c',e',h2,_⟩:=S.h;exact⟨c',e',h2⟩
    . exact absurd rfl hc
    . exact S.e
   obtain⟨c',e',h1⟩:=key;exact⟨c',e',(0,0),h1,λ_=>rfl,λi v hi=>absurd hi (Nat.not_lt_zero _),.inl rfl,λ_=>BR _⟩
 . have hn:¬(r<W.heap.size/\r≠gE/\(r=gH∨(r=gE/\(#[]:Array AF).size≠0)∨r=ea.block)):=of_decide_eq_false hr;have hlt:=qmw ho;by_cases h0:r=gE
   . subst h0;rw[show W.heap[gE]?=_ from S.g]at ho;cases ho;refine .inl ⟨rfl,λu hu=>?_⟩;have hu':u=.iface 244 (.pointer (some ea)):=by simpa using hu
     subst hu';exact .iface _ (.ptr (.inr (.inr (.inr (.inr rfl)))))
   . obtain⟨a,hA,rfl⟩:=hB;rcases hA with hA|hA|hA|hA|hA
     . exact absurd hA (by show ¬(W.heap.size<=a.block);omega)
     . exact absurd hA h0
     . exact absurd ⟨hlt,h0,.inl hA⟩ hn
     . exact absurd hA h0
     . exact absurd ⟨hlt,h0,.inr (.inr hA)⟩ hn
theorem q63(W:AE)(ea:Addr):Old W ea gE #[] (mk2 W.heap.size gE #[] ea) W (vu (pt2 W.heap.size gE #[] ea) (λ_=>0) W):=
 ⟨BO _,λ_ _=>rfl,rfl,rfl,rfl,λ_ _ _ hp=>qpt hp,Mks.Le.refl _⟩
theorem q64(S:Start W ea):qp (vu (pt2 W.heap.size gE #[] ea) (λ_=>0) W) ea:=q87 S (λ_ _=>rfl)
theorem Old.gb{cs:Array AF}{M:Mks (gr2 W.heap.size g ea).base}(h:Old W ea g cs M w z):W.grownBy w none:=⟨h.os,h.tape,h.output,h.size,λr hr _=>h.old r hr⟩
structure qn(W:AE)(ea:Addr)(pv cv:AF)(qa:List Node)(l:List Int)(M:Mks (gr2 W.heap.size gE ea).base)(Sh:Nat->Prop)(Fz:Loc->Prop)(T:Nat->qz)(n:Nat)(w z:AE):Prop where
 both:Both ((gr2 W.heap.size gE ea).base.pen M) w z
 old:Old W ea gE #[] M w z
 err:qp z ea
 out:jA ((gr2 W.heap.size gE ea).base.pen M) Sh Fz
 shy:∀r,Sh r->W.heap.size<=r
 left:∀i,i≠0->T i=.left
 n0:0<n
 few:n<=1000
 kU:jK W.heap.size W pv qa
 kV:qY W.heap.size W cv l
section
variable {pv cv:AF}{qa:List Node}{l:List Int}{M:Mks (gr2 W.heap.size gE ea).base}{Sh:Nat->Prop}{Fz:Loc->Prop}{T:Nat->qz}{n:Nat}{w z:AE}
theorem q0x(S:Start W ea)(hN:jK W.heap.size W pv qa)(hI:qY W.heap.size W cv l):qn W ea pv cv qa l (mk2 W.heap.size gE #[] ea) (λ_=>False) (λ_=>False) (λ_=>.left) 1 W (vu (pt2 W.heap.size gE #[] ea) (λ_=>0) W):=
 ⟨q37 S,q63 W ea,q64 S,⟨λ_ h=>h.elim,λ_ h=>h.elim⟩,λ_ h=>h.elim,λ_ _=>rfl,by decide,by decide,hN,hI⟩
theorem qn.ours(_:qn W ea pv cv qa l M Sh Fz T n w z):jN ((gr2 W.heap.size gE ea).base.pen M):=q86 M
theorem qn.O(h:qn W ea pv cv qa l M Sh Fz T n w z):Outside ((gr2 W.heap.size gE ea).base.pen M) Sh Fz T n 0:=h.out.alone h.left
theorem qn.L(h:qn W ea pv cv qa l M Sh Fz T n w z):qH T n 0 w:=qgq h.left
theorem qn.nodes(h:qn W ea pv cv qa l M Sh Fz T n w z):jK W.heap.size w pv qa:=h.kU.new h.old.gb (BO _)
theorem qn.ints(h:qn W ea pv cv qa l M Sh Fz T n w z):qY W.heap.size w cv l:=h.kV.new h.old.gb (BO _)
theorem qn.calm(h:qn W ea pv cv qa l M Sh Fz T n w z):Calm Sh Fz T W.heap.size w.heap.size:=qkQ (gr:=gr2 W.heap.size gE ea) h.both h.out h.left h.shy
theorem qn.step(h:qn W ea pv cv qa l M Sh Fz T n w z)(hb:Both ((gr2 W.heap.size gE ea).base.pen M) w' z')(hh:Held ((gr2 W.heap.size gE ea).base.pen M) w w')(hg:HG z z'):qn W ea pv cv qa l M Sh Fz T n w' z':=
 ⟨hb,h.old.step hb (Mks.Le.refl _) hh.but h.both.size hg,hg.err h.err,h.out,h.shy,h.left,h.n0,h.few,h.kU,h.kV⟩
theorem qn.far{M':Mks (gr2 W.heap.size gE ea).base}(h:qn W ea pv cv qa l M Sh Fz T n w z)(hle:M.Le M')(hb:Both ((gr2 W.heap.size gE ea).base.pen M') w' (qgt z w'))(O:jA ((gr2 W.heap.size gE ea).base.pen M') Sh Fz)(hg:w.grownBy w' none):qn W ea pv cv qa l M' Sh Fz T n w' (qgt z w'):=
 have hz:HG z (qgt z w'):=qpq (by rw[h.both.size];exact hg.size)
 ⟨hb,h.old.step hb hle (qyk hg) h.both.size hz,hz.err h.err,O,h.shy,h.left,h.n0,h.few,h.kU,h.kV⟩
theorem qn.qkS{M':Mks (gr2 W.heap.size gE ea).base}{Sh':Nat->Prop}{Fz':Loc->Prop}{T':Nat->qz}{n':Nat}(h:qn W ea pv cv qa l M Sh Fz T n w z)(hle:M.Le M')(hb:Both ((gr2 W.heap.size gE ea).base.pen M') w' z')(hg:HG z z')(O:jA ((gr2 W.heap.size gE ea).base.pen M') Sh' Fz')
   (hs:∀r,Sh' r->Sh r∨w.heap.size<=r) (hh:ql ((gr2 W.heap.size gE ea).base.pen M) (λr=>w.heap.size<=r) w w') (hT:∀i,i≠0->T' i=.left) (hn:n<=n') (hn':n'<=1000):qn W ea pv cv qa l M' Sh' Fz' T' n' w' z':=
 ⟨hb,h.old.step hb hle hh h.both.size hg,hg.err h.err,O,λr hr=>(hs r hr).elim (h.shy r) (λk=>BN h.old.size k),hT,BP h.n0 hn,hn',h.kU,h.kV⟩
end
end
section
variable {W:AE}{ea:Addr}
theorem Old.low{cs:Array AF}{M:Mks (gr2 W.heap.size g ea).base}(h:Old W ea g cs M w z)(hb':Both ((gr2 W.heap.size g ea).base.pen M) w' z')(hh:Held ((gr2 W.heap.size g ea).base.pen M) w w')(hz:∀r,r<W.heap.size->z'.heap[r]?=z.heap[r]?):Old W ea g cs M w' z':=by
 have hkn:∀r,r<W.heap.size->((gr2 W.heap.size g ea).base.pen M).B r->pt2 W.heap.size g cs ea r=false->z'.heap[r]?=W.heap[r]?:=λr hr hB hp=>(hz r hr).trans (h.kn r hr hB hp);refine⟨BN h.size hh.size,λr hr=>?_,hh.os.trans h.os,hh.output.trans h.output,hh.tape.trans h.tape,hkn,h.le⟩;by_cases hB:((gr2 W.heap.size g ea).base.pen M).B r
 . cases hp:pt2 W.heap.size g cs ea r with
   |true=>
    rw[hh.block r (.inr (.inl (h.le.z r hp)))];exact h.old r hr
   |false=>
    have hn:¬M.Pt r:=λk=>by
     rcases h.le.nw r k with k|k
     . have:pt2 W.heap.size g cs ea r=true:=k;rw[hp]at this;cases this
     . have:W.heap.size<=r:=k;omega
    rw[hb'.rel.same r hB hn];exact hkn r hr hB hp
 . rw[hh.block r (.inl hB)];exact h.old r hr
theorem qp.low{a:Addr}(h:qp z a)(e:z'.heap[gE]?=z.heap[gE]?):qp z' a:=by
 have h':Bj z ⟨gE,0,none⟩=_:=h;show Bj z' ⟨gE,0,none⟩=_;rw[<-h'];unfold Bj;rw[show z'.heap[(⟨gE,0,none⟩:Addr).block]?=z.heap[(⟨gE,0,none⟩:Addr).block]? from e]
variable {pv cv:AF}{qa:List Node}{l:List Int}{M:Mks (gr2 W.heap.size gE ea).base}{Sh:Nat->Prop}{Fz:Loc->Prop}{T:Nat->qz}{n:Nat}{w z:AE}
theorem qn.low(h:qn W ea pv cv qa l M Sh Fz T n w z)(hg:gE<W.heap.size)(hb:Both ((gr2 W.heap.size gE ea).base.pen M) w' z')(hh:Held ((gr2 W.heap.size gE ea).base.pen M) w w')(hz:∀r,r<W.heap.size->z'.heap[r]?=z.heap[r]?):qn W ea pv cv qa l M Sh Fz T n w' z':=
 ⟨hb,h.old.low hb hh hz,h.err.low (hz _ hg),h.out,h.shy,h.left,h.n0,h.few,h.kU,h.kV⟩
theorem q9n{u:AE}{base:Nat}{t:AG}(h:u.ownsRow base t size v m xs)(hb:W.heap.size<=base):Ok (gr2 W.heap.size gE ea).A (gr2 W.heap.size gE ea).F v:=by
 rcases h.2 with ⟨rfl,_⟩|⟨g,cap,cur,rfl,h2,_⟩
 . exact .slice _ _ (λa e=>by cases e)
 . exact .slice _ _ (λa e=>by cases e;exact .inl (BN hb h2))
section
variable {lf:AI}{fn:Func}{t0:Nat}{XL:Nat->Bool}{ts:Array AF}{k:List Item}{cs:List AH}
theorem qr7(hS:qn W ea pv cv qa l M Sh Fz T n w z)(hg:gE<W.heap.size)(hfn:Bh.funcs[lf]?=some fn)(hlf:Fs lf=false)(yx:Bh.inits.idxOf? lf=none)(hres:fn.results=#[.tmp t0])(ht0:XL t0=false)(vA:XOk (gr2 W.heap.size gE ea) XL ts)
   {c:Code} (qK:qfa prog Fs Gs SN c=true/\jz XL c=true) {Q:Array AF->AE->Prop} (hR:∀t x y,x.heap=y.heap->Q t x->Q t y) (hlow:∀t x,Q t x->∀r,r<W.heap.size->x.heap[r]?=z.heap[r]?)
   (hc:∀X,z.heap=X.heap->c.wp prog (λe a x=>(e=.normal/\Q a.tmps x)∨(e=.ret/\a.tmps[t0]?=some (.bool true)/\∀r,r<W.heap.size->x.heap[r]?=z.heap[r]?)) ⟨ts,[]⟩ X)
   (next:∀ts' w' z',qn W ea pv cv qa l M Sh Fz T n w' z'->XOk (gr2 W.heap.size gE ea) XL ts'->Q ts' z'->qc prog (qO W) Sh Fz T n 0 0 (G ((base lf).at ⟨ts',[]⟩ k) []) w') :
   qc prog (qO W) Sh Fz T n 0 0 (G ((base lf).at ⟨ts,[]⟩ (.code c::k)) []) w:=by
 refine q36 (gr:=gr2 W.heap.size gE ea) hS.ours hfn hlf hres vA ht0 qK.1 qK.2 hS.both hS.O hS.L (Q:=λe a x=>(e=.normal/\Q a.tmps x)∨(e=.ret/\a.tmps[t0]?=some (.bool true)/\∀r,r<W.heap.size->x.heap[r]?=z.heap[r]?))
  (λe a x y exy h=>h.imp (λk=>⟨k.1,hR _ x y exy k.2⟩) (λk=>⟨k.1,k.2.1,λr hr=>by rw[<-exy];exact k.2.2 r hr⟩)) hc (λe a x h=>by rcases h with h|h<;>(rw[h.1];trivial)) ?_
 rintro e ⟨ts',ds'⟩ td w' z' hb' hh' ok' htd-(⟨rfl,hQ⟩|⟨rfl,hr,hz⟩)
 . rw[htd rfl];exact next ts' w' z' (hS.low hg hb' hh' (hlow _ _ hQ)) ok' hQ
 . have hS':=hS.low hg hb' hh' hz;show qc prog (qO W) Sh Fz T n 0 0 (G {(base lf).at ⟨ts',[]⟩ (td++_)with mode:=.returning} []) w';exact qkH hfn yx hres hr hS.left hS.n0 (λd=>hS'.old.fin d)
end
section
variable {P:AL}{Post:AF->AE->Prop}{hh dd:Nat}{b:AH}{ts:Array AF}{k:List Item}{cs:List AH}{ops:Array Oper}{i:Nat}{rest:List Nat}{s t:Nat}{ty:AG}{ps:String}{af:Array Edge}{v:AF}
theorem q65(hk:b.kind≠.early)(ho:ops[i]?=some ⟨some t,.move (.tmp s),ty,ps,af,none⟩)(hs:ts[s]?=some v)(next:qc P Post Sh Fz T n hh dd (G (b.at ⟨ts.setIfInBounds t v,[]⟩ (.inRegion ops rest::k)) cs) w) :
   qc P Post Sh Fz T n hh dd (G (b.at ⟨ts,[]⟩ (.inRegion ops (i::rest)::k)) cs) w:=
 qao v ho rfl hk (λw=>by
  show (Result.ok (Next.value ((AS ts []).eval (.tmp s))) w)=_;rw[qcc hs]) (λw=>rfl) next
theorem q66(hk:b.kind≠.early)(ho:ops[i]?=some ⟨some t,.assign (.tmp s),ty,ps,af,none⟩)(hs:ts[s]?=some v)(next:qc P Post Sh Fz T n hh dd (G (b.at ⟨ts.setIfInBounds t v,[]⟩ (.inRegion ops rest::k)) cs) w) :
   qc P Post Sh Fz T n hh dd (G (b.at ⟨ts,[]⟩ (.inRegion ops (i::rest)::k)) cs) w:=
 qao v ho rfl hk (λw=>by
  show (Result.ok (Next.value ((AS ts []).eval (.tmp s))) w)=_;rw[qcc hs]) (λw=>rfl) next
end
section
variable {Post:AF->AE->Prop}{b:AH}{XL:Nat->Bool}{ts:Array AF}{k:List Item}{cs:List AH}{ops:Array Oper}{i:Nat}{rest:List Nat}{s t:Nat}{ty:AG}{ps:String}{af:Array Edge}{ats:Array AG}
theorem qvn(hS:qn W ea pv cv qa l M Sh Fz T n w z)(hf:qlq qa)(vA:XOk (gr2 W.heap.size gE ea) XL ts)(hk:b.kind≠.early)(ho:ops[i]?=some ⟨some t,.call {callee:=.value (.func 26),args:=#[.tmp s],argTypes:=ats},ty,ps,af,none⟩)(hs:ts[s]?=some pv)
   (next:∀w' z' M' v,qn W ea pv cv qa l M' Sh Fz T n w' z'->HG z z'->DN z' z.heap.size v qa->XOk (gr2 W.heap.size gE ea) XL (ts.setIfInBounds t v)->Ok (gr2 W.heap.size gE ea).A (gr2 W.heap.size gE ea).F v->qc prog Post Sh Fz T n 0 0 (G (b.at ⟨ts.setIfInBounds t v,[]⟩ (.inRegion ops rest::k)) cs) w') :
   qc prog Post Sh Fz T n 0 0 (G (b.at ⟨ts,[]⟩ (.inRegion ops (i::rest)::k)) cs) w:=by
 obtain⟨m,hm⟩:=q6w (n:=n) hS.calm qa hf;have hc:=hm pv w hS.nodes hS.old.size (BO _);have hvs:#[Operand.tmp s].map (AS ts []).eval=#[pv]:=by simp[qcc hs]
 refine qr6 (gr:=gr2 W.heap.size gE ea) hS.both hS.out ho rfl hk rfl (R:=λv w'=>DN w' w.heap.size v qa) (by rw[hvs];exact hc) (λv w' M' hle hb O hg _ hR=>?_);have hzs:z.heap.size=w.heap.size:=hS.both.size;have hsz:z.heap.size<=w'.heap.size:=by rw[hzs];exact hg.size
 have hD:DN (qgt z w') z.heap.size v qa:=by rw[hzs];exact hR.again (BX hzs)
 have hv:Ok (gr2 W.heap.size gE ea).A (gr2 W.heap.size gE ea).F v:=by
  obtain⟨xs,h1,-⟩:=hR;exact q9n h1 hS.old.size
 exact next w' _ M' v (hS.far hle hb O hg) (qpq hsz) hD (vA.set (.inr hv)) hv
theorem qyl(hS:qn W ea pv cv qa l M Sh Fz T n w z)(hl:l.length<=1048576)(vA:XOk (gr2 W.heap.size gE ea) XL ts)(hk:b.kind≠.early)(ho:ops[i]?=some ⟨some t,.call {callee:=.value (.func 27),args:=#[.tmp s],argTypes:=ats},ty,ps,af,none⟩)(hs:ts[s]?=some cv)
   (next:∀w' z' M' v,qn W ea pv cv qa l M' Sh Fz T n w' z'->HG z z'->qf z' z.heap.size v l->XOk (gr2 W.heap.size gE ea) XL (ts.setIfInBounds t v)->Ok (gr2 W.heap.size gE ea).A (gr2 W.heap.size gE ea).F v->qc prog Post Sh Fz T n 0 0 (G (b.at ⟨ts.setIfInBounds t v,[]⟩ (.inRegion ops rest::k)) cs) w') :
   qc prog Post Sh Fz T n 0 0 (G (b.at ⟨ts,[]⟩ (.inRegion ops (i::rest)::k)) cs) w:=by
 obtain⟨m,hm⟩:=qvk (n:=n) hS.calm l hl;have hc:=hm cv w hS.ints hS.old.size (BO _);have hvs:#[Operand.tmp s].map (AS ts []).eval=#[cv]:=by simp[qcc hs]
 refine qr6 (gr:=gr2 W.heap.size gE ea) hS.both hS.out ho rfl hk rfl (R:=λv w'=>qf w' w.heap.size v l) (by rw[hvs];exact hc) (λv w' M' hle hb O hg _ hR=>?_);have hzs:z.heap.size=w.heap.size:=hS.both.size;have hsz:z.heap.size<=w'.heap.size:=by rw[hzs];exact hg.size
 have hD:qf (qgt z w') z.heap.size v l:=by rw[hzs];exact hR.again (BX hzs)
 have hv:Ok (gr2 W.heap.size gE ea).A (gr2 W.heap.size gE ea).F v:=q9n hR hS.old.size;exact next w' _ M' v (hS.far hle hb O hg) (qpq hsz) hD (vA.set (.inr hv)) hv
theorem qvo(hS:qn W ea pv cv qa l M Sh Fz T n w z){lv:Int}(h0:0<=lv)(h1:lv<=1048576){s':Nat}(hk:b.kind≠.early)(ho:ops[i]?=some ⟨some t,.call {callee:=.value (.func 25),args:=#[.tmp s,.tmp s'],argTypes:=ats},ty,ps,af,none⟩)(hs:ts[s]?=some pv)(hs':ts[s']?=some (.int .i64 lv))
   (next:∀w' z' M' (x:Int),qn W ea pv cv qa l M' Sh Fz T n w' z'->HG z z'->x<=lv->-1<=x->(0<=x->qlq qa)->qc prog Post Sh Fz T n 0 0 (G (b.at ⟨ts.setIfInBounds t (.int .i64 x),[]⟩ (.inRegion ops rest::k)) cs) w') :
   qc prog Post Sh Fz T n 0 0 (G (b.at ⟨ts,[]⟩ (.inRegion ops (i::rest)::k)) cs) w:=by
 obtain⟨m,hm⟩:=q6x (n:=n) hS.calm qa;have hc:=hm pv lv w hS.nodes hS.old.size (BO _) h0 h1;have hvs:#[Operand.tmp s,.tmp s'].map (AS ts []).eval=#[pv,.int .i64 lv]:=by simp[qcc hs,qcc hs']
 refine qr6 (gr:=gr2 W.heap.size gE ea) hS.both hS.out ho rfl hk rfl (R:=λv _=>SzC lv (qlq qa) v) (by rw[hvs];exact hc) (λv w' M' hle hb O hg _ hR=>?_);obtain⟨x,rfl,k1,k2,k3⟩:=hR;have hsz:z.heap.size<=w'.heap.size:=by rw[show z.heap.size=w.heap.size from hS.both.size];exact hg.size
 exact next w' _ M' x (hS.far hle hb O hg) (qpq hsz) k1 k2 k3
end
end
end
end Go.Proofs.YtacemdoejblgaaaGreatDoor

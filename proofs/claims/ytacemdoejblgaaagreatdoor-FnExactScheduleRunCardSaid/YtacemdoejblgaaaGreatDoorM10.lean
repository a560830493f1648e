/- Part M10. Conditions: each statement's. -/
import Derived.Test.YtacemdoejblgaaaGreatDoorM09
namespace Go.Proofs.YtacemdoejblgaaaGreatDoor
open Bool renaming and_eq_false_iff→Ab,and_false→Ah,and_eq_true→Ai,and_true→Aj,not_false→Am
open Go renaming bodyPost_ret→Ap,Value→As,World→At,Calls→Ax,Operand→Ay,Ending→Az
open Region renaming wanted→AA
open World renaming grownBy_alloc→AB,size_alloc→AD
open Int renaming toNat_natCast→AE,eq_ofNat_of_zero_le→AF,natCast_nonneg→AG
open List renaming getD_eq_getElem?_getD→AH,mem_of_getElem?→AI,getElem?_eq_getElem→AJ,getElem?_set_ne→AK,take_succ_eq_append_getElem→AL,getElem?_set_self→AM,getElem?_eq_some_iff→AN,pairwise_cons→AO,eq_nil_of_length_eq_zero→AP,length_take→AQ,take_of_length_le→AR,length_range→AS,length_replicate→AT,length_set→AU,length_map→AV,mem_range→AW,mem_or_eq_of_mem_set→AX,all_eq_true→AY,mem_append→AZ,length_filter_le→B9,replicate_succ'→Ba,pairwise_append→Bb,mem_append_left→Bc,getElem_of_mem→Be,map_nil→Bf,all_eq_false→Bg,filter_cons→Bh
open Nat renaming le_trans→Bi,le_refl→Bj,zero_le→Bm,le_succ→Bn,lt_or_gt_of_ne→Bo,lt_of_lt_of_le→Bp,not_lt_zero→Bq,le_of_lt→Br,mod_lt→Bs
open Option.some renaming inj→Bt,injEq→Bu
open List Tryz Value
set_option maxRecDepth 100000
set_option maxHeartbeats 6400000
variable {a:Act}{ops:Array Oper}{b:Bool}{x:Int}{D Rw ll:List (List Int)}{l l' l0:List Int}{qa:List Node}{rest:List Oper}{xs ys:List As}{N X cap g gd i j k m n x3 xb:Nat}{nd:Node}{row:Option Nat}{d f k0 o o0 r r0 u u' v v':As}{W w w' w1 wx:At}{c:qj}
section
open Go.RowKit
theorem qro(v dv:As)(qa:List Node)(done:List Int)(w:At)(h:RN w v qa)(hd:RI w dv done)(hv:qae qa=true) :
   Ax prog 160 #[v,dv] w (qeo w (qan qa done)):=by
 obtain⟨A,n,c,rfl,-,hn,-⟩:=h.form';have zF:n<=10:=by have:=qam hv;omega
 have Hn:=Lib.hid hn;have Hv:=Lib.hid hv;obtain⟨Ad,m,cd,rfl⟩:=hd.val;have h0:qf (w.alloc (.cells #[] 3)) w.heap.size (.slice (some ⟨w.heap.size,0,none⟩) 0 0) []:=qf.empty w (Bj _);clear hn hv;go_enter func160,ntmps160;go_wp2_with fail
 go_loopg [5,6] (n+1) (λmm out i wr=>∃k:Nat,k<=n/\mm=n+1-k/\i=.int .i64 k/\qf wr w.heap.size out (qca qa done k)/\w.grownBy wr none)
 case atStart=>exact⟨0,Bm _,rfl,rfl,h0,qaq (qag w none) _⟩
 case round=>
  clear h0;obtain⟨k,hk,rfl,rfl,hown,hg⟩:=hrel;by_cases hlt:k<n
  . obtain⟨g,o,nd,f,r,rfl,hx,c0,c1,c2,hf,hr⟩:=(h.new hg).at_ hlt;obtain⟨Af,nf,cf,rfl⟩:=hf.val;have hpl:qa.length<=1000000000:=by have:=Hn.out;omega
    have hs:=qep done hx;have hol:=qkb qa done k;clear hx c0 c2 hr;by_cases hD:(k:Int)∈done
    . have HD:Hid (decide ((k:Int)∈done)=true):=decide_eq_true hD
      have Hs:Hid (qca qa done (k+1)=qca qa done k):=by
       show _=_;rw[hs,if_neg (by unfold qdc;simp[hD])]
      obtain⟨A2,n2,c2,rfl⟩:=hown.ri.val;clear hD hs;go_wp2_with fail;refine(qbh _ qa _ (h.new hg) hpl Hv.out).mono ?_;rintro e w1 ⟨rfl,hg1⟩;have hd1:=(hd.new hg).new hg1;go_wp2_with fail;refine(qdo _ _ _ _ hd1 HD.out).mono ?_;rintro e w2 ⟨rfl,rfl⟩;go_wp2;go_roundg (n+1-(k+1))
      case measure=>omega
      case rel=>exact⟨k+1,by omega,rfl,by go_num,by rw[Hs.out];exact hown.new hg1,qac hg hg1⟩
    . have HD:Hid (decide ((k:Int)∈done)=false):=decide_eq_false hD;by_cases ha:nd.frm.all (λx=>decide (x∈done))=true
      . have Ha:=Lib.hid ha
        have Hs:Hid (qca qa done (k+1)=qca qa done k++[(k:Int)]):=by
         show _=_;rw[hs,if_pos (by unfold qdc;simp only[decide_eq_false hD,ha];rfl)]
        obtain⟨A2,n2,c2,rfl⟩:=hown.ri.val;clear hD hs ha;go_wp2_with fail;refine(qbh _ qa _ (h.new hg) hpl Hv.out).mono ?_;rintro e w1 ⟨rfl,hg1⟩;have hd1:=(hd.new hg).new hg1;have hf1:=hf.new hg1
        have c1':w1.cell? ⟨g,o+k*3+1,none⟩=some (.slice Af nf cf):=by
         rw[<-c1];exact qkc hg1 (qe2 c1) (by simp)
        have hown1:=hown.new hg1;have hg2:=qac hg hg1;go_wp2_with fail;refine(qdo _ _ _ _ hd1 HD.out).mono ?_;rintro e w2 ⟨rfl,rfl⟩;go_wp2_with fail;refine(quw _ _ _ nd.frm _ hd1 hf1 Ha.out).mono ?_;rintro e w2 ⟨rfl,rfl⟩;go_wp2_with (at_builtin;go_must (refine qcm _ _ rfl rfl hown1 (by omega) hg2.size rfl rfl ?_));intro v3 w3 xZ hg3;have hg4:=hown1.gb hg2 hg3 (Bj _);rw[<-Hs.out]at xZ;obtain⟨A3,n3,c3,rfl⟩:=xZ.ri.val;go_wp2;go_roundg (n+1-(k+1))
        case measure=>omega
        case rel=>exact⟨k+1,by omega,rfl,by go_num,xZ,hg4⟩
      . have ha':nd.frm.all (λx=>decide (x∈done))=false:=by simpa using ha
        have Ha:=Lib.hid ha'
        have Hs:Hid (qca qa done (k+1)=qca qa done k):=by
         show _=_;rw[hs,if_neg (by unfold qdc;simp only[decide_eq_false hD,ha'];simp)]
        obtain⟨A2,n2,c2,rfl⟩:=hown.ri.val;clear hD hs ha ha';go_wp2_with fail;refine(qbh _ qa _ (h.new hg) hpl Hv.out).mono ?_;rintro e w1 ⟨rfl,hg1⟩;have hd1:=(hd.new hg).new hg1;have hf1:=hf.new hg1
        have c1':w1.cell? ⟨g,o+k*3+1,none⟩=some (.slice Af nf cf):=by
         rw[<-c1];exact qkc hg1 (qe2 c1) (by simp)
        go_wp2_with fail;refine(qdo _ _ _ _ hd1 HD.out).mono ?_;rintro e w2 ⟨rfl,rfl⟩;go_wp2_with fail;refine(quw _ _ _ nd.frm _ hd1 hf1 Ha.out).mono ?_;rintro e w2 ⟨rfl,rfl⟩;go_wp2;go_roundg (n+1-(k+1))
        case measure=>omega
        case rel=>exact⟨k+1,by omega,rfl,by go_num,by rw[Hs.out];exact hown.new hg1,qac hg hg1⟩
  . obtain rfl:k=n:=by omega
    obtain⟨A2,n2,c2,rfl⟩:=hown.ri.val
    have ho2:qf wr w.heap.size (.slice A2 n2 c2) (qan qa done):=by
     unfold qan;rw[if_pos Hv.out,<-Hn.out];exact hown
    clear hown;go_wp2;go_ret;exact⟨_,rfl,ho2,hg⟩
theorem qfe(hb:qaw qa c=b)(h:¬qv qa c):b=false:=by
 rw[<-hb];rcases Bool.eq_false_or_eq_true (qaw qa c)with e|e
 . exact absurd (qb4.1 e) h
 . exact e
structure zL(qa:List Node)(c:qj):Prop where
 pv:qae qa=true
 d1:1<=c.qb.length
 d4:c.qb.length<=4
 order:qbp qa c.done=true
 counts:c.counts=qa7 qa c.done
 rl:c.rows.length=qa.length
theorem zL.valid(h:zL qa c):qaw qa c=(qfw qa c&&qnf qa c):=by
 unfold qaw;rw[h.pv,decide_eq_true h.d1,decide_eq_true h.d4,h.order,decide_eq_true h.counts,decide_eq_true h.rl];simp
def qrp(qa:List Node)(c:qj)(k:Nat):Prop:=∀x∈(qan qa c.done).take k,c.qb.flatten.count x=1
def qtk(qa:List Node)(c:qj)(k:Nat):Prop:=∀i,i<k->c.rows.getD i []=qei qa c.done i
theorem qzp(h:qrp qa c k)(hx:(qan qa c.done)[k]?=some x)(h1:c.qb.flatten.count x=1):qrp qa c (k+1):=by
 obtain⟨hk,rfl⟩:=AN.1 hx;unfold qrp;rw[AL hk];intro y hy;rcases AZ.1 hy with hy|hy
 . exact h y hy
 . obtain rfl:y=(qan qa c.done)[k]:=by simpa using hy
   exact h1
theorem qxk(hx:(qan qa c.done)[k]?=some x)(h1:¬c.qb.flatten.count x=1):qfw qa c=false:=by
 unfold qfw;rw[Ab];right;rw[Bg];exact⟨x,AI hx,by simpa using h1⟩
theorem qu0(h:qrp qa c (qan qa c.done).length):qfw qa c=decide (c.qb.flatten.length=(qan qa c.done).length):=by
 unfold qrp at h;rw[take_length]at h;unfold qfw;rw[Bool.and_eq_left_iff_imp.2];intro _;rw[AY];exact λx hx=>decide_eq_true (h x hx)
theorem qrq{r:List Int}(h:qtk qa c k)(hr:c.rows[k]?=some r)(h1:qei qa c.done k=r):qtk qa c (k+1):=by
 intro i hi;by_cases e:i=k
 . subst e;rw[AH,hr,h1];rfl
 . exact h i (by omega)
theorem qtl{r:List Int}(hk:k<qa.length)(hr:c.rows[k]?=some r)(h1:¬qei qa c.done k=r):qnf qa c=false:=by
 unfold qnf;rw[Bg];refine⟨k,AW.2 hk,?_⟩;rw[AH,hr];simpa using λe=>h1 e.symm
theorem q27(h:qtk qa c qa.length):qnf qa c=true:=by
 unfold qnf;rw[AY];exact λi hi=>decide_eq_true (h i (AW.1 hi))
theorem qbt(pv v:As)(qa:List Node)(c:qj)(w:At)(hp:RN w pv qa)(h:CV w v c)(hpl:qa.length<=1000000000)(hfit:∀d∈c.qb,d.length<=1048576)(hb:qaw qa c=b) :
   Ax prog 124 #[pv,v] w λe w'=>e=.returned (.bool b)/\w.grownBy w' none:=by
 obtain⟨A,n,cp,rfl,-,hn,-⟩:=hp.form';obtain⟨A1,n1,c1,A2,n2,c2,A3,n3,c3,A4,n4,c4,rfl,h1,-,-,h4⟩:=h.form;have hX:=h.box;have hn1:=h1.len;have hn4:=h4.len;have hgW:=AB w (.cells #[.slice A1 n1 c1,.slice A2 n2 c2,.slice A3 n3 c3,.slice A4 n4 c4] 29) none;have hpW:=hp.new hgW;have Hn:=Lib.hid hn;have Hn1:=Lib.hid hn1;have Hn4:=Lib.hid hn4;have Hb:=Lib.hid hb;have qF:=Lib.hid hfit;clear hn hn1 hn4 hb hfit h1 h4 h hp;have d0:=hX.d0;by_cases hv:qae qa=true
 . have Hv:=Lib.hid hv;have zF:n<=10:=by have:=qam hv;have:=Hn.out;omega
   by_cases hin:1<=n1/\n1<=4
   . have Hin:Hid ((decide ((1:Int)<=(n1:Int)) && decide ((n1:Int)<=4))=true):=by
      show _=_;rw[Ai,decide_eq_true_eq,decide_eq_true_eq];omega
     by_cases ho:qbp qa c.done=true
     . have Ho:=Lib.hid ho;by_cases hc:c.counts=qa7 qa c.done
       . have Hc:Hid (decide (c.counts=qa7 qa c.done)=true):=decide_eq_true hc;by_cases hr:n4=n
         . have Pre:Hid (zL qa c):=⟨hv,by have:=Hn1.out;omega,by have:=Hn1.out;omega,ho,hc,by rw[<-Hn4.out,<-Hn.out];exact hr⟩;have hne:((n4:Int) != (n:Int))=false:=by simp[hr]
           have qhI:n1<=4:=hin.2;clear hv hin ho hc hr;go_enter func124,ntmps124;go_wp2_with fail;refine(qbh _ qa _ hpW hpl Hv.out).mono ?_;rintro e w1 ⟨rfl,hg1⟩;have g1:=qac hgW hg1;have hp1:=hpW.new hg1;have hX1:=hX.new hg1;have d0:=hX1.d0;have d2:=hX1.d2;go_wp2_with fail;refine(qde _ _ _ _ Hin.out).mono ?_;rintro e w2 ⟨rfl,rfl⟩;go_wp2_with fail;refine(qjr _ _ qa c.done _ hp1 hX1.dn hpl Ho.out).mono ?_;rintro e w2 ⟨rfl,hg2⟩;replace g1:=qac g1 hg2;replace hp1:=hp1.new hg2;replace hX1:=hX1.new hg2;clear d0 d2;have d0:=hX1.d0;have d2:=hX1.d2;have d1:=hX1.d1;have d3:=hX1.d3;go_wp2_with fail;refine(qkq _ _ qa c _ hp1 hX1.cv Hv.out Ho.out Hc.out).mono ?_;rintro e w3 ⟨rfl,hg3⟩;have g3:=qac g1 hg3;have hp3:=hp1.new hg3;have hX3:=hX1.new hg3;clear g1 hp1 hX1 d0 d1 d2 d3 hX hpW hgW hg1 hg3;have d0:=hX3.d0;have d1:=hX3.d1;have d2:=hX3.d2;have d3:=hX3.d3;go_wp2_with fail
           go_loopg [5,6] (n1+1) (λmm sz i wr=>∃k:Nat,k<=n1/\mm=n1+1-k/\i=.int .i64 k/\sz=.int .i64 ((c.qb.take k).flatten.length:Nat)/\wr=w3)
           case atStart=>exact⟨0,Bm _,rfl,rfl,rfl,rfl⟩
           case round=>
            obtain⟨k,hk,rfl,rfl,rfl,rfl⟩:=hrel;by_cases hlt:k<n1
            . obtain⟨g,o,d,B,m,e,rfl,hx,c0,hd,hm,-,-⟩:=hX3.dq.at_ hlt;have hdl:=qF.out d (AI hx);have hml:m<=1048576:=by omega
              have hfl:(c.qb.take k).flatten.length<=4194304:=by
               refine Bi (q03 (b:=1048576) (λy hy=>qF.out y (mem_of_mem_take hy))) ?_;have:(c.qb.take k).length<=4:=by rw[AQ];have:=Pre.out.d4;omega
               calc (c.qb.take k).length*1048576<=4*1048576:=Nat.mul_le_mul_right _ this
                _<=4194304:=by omega
              have Hf:Hid ((c.qb.take (k+1)).flatten.length=(c.qb.take k).flatten.length+m):=by
               show _=_;rw[qxi hx,length_append,hm]
              generalize (c.qb.take k).flatten.length=q at hfl Hf |-;clear hx hm hdl;go_wp2;go_roundg (n1+1-(k+1))
              case measure=>omega
              case rel=>exact⟨k+1,by omega,rfl,by go_num,by rw[Hf.out];go_num,rfl⟩
            . obtain rfl:n1=k:=by omega
              have Hr:Hid ((c.qb.take n1).flatten.length=c.qb.flatten.length):=by
               show _=_;rw[AR (by rw[<-Hn1.out];exact Bj _)]
              rw[Hr.out];generalize hq:c.qb.flatten.length=q;have Hq:=Lib.hid hq;clear hq;go_wp2_with fail;refine(qro _ _ qa c.done _ hp3 hX3.dn Hv.out).mono ?_;rintro e w5 ⟨v5,rfl,qE,hg5⟩;have g5:=qac g3 hg5;have hp5:=hp3.new hg5;have hX5:=hX3.new hg5;have hr5:=qE.ri;obtain⟨A5,nr,c5,rfl⟩:=hr5.val;have hnr:=hr5.len;have Hnr:=Lib.hid hnr;have kE:nr<=10:=by rw[hnr];have:=qgd qa c.done;have:=qam Hv.out;omega
              clear hnr qE hg5 hp3 hX3 g3 d0 d1 d2 d3;go_wp2_with fail
              go_loopg [8] (nr+1) (λmm i wr=>∃k:Nat,k<=nr/\mm=nr+1-k/\i=.int .i64 k/\Hid (qrp qa c k)/\w5.grownBy wr none)
              case atStart=>exact⟨0,Bm _,rfl,rfl,by show ∀x∈_,_;simp,qag _ _⟩
              case round=>
               obtain⟨k,hk,rfl,rfl,Hk,hgk⟩:=hrel;by_cases hlt:k<nr
               . obtain⟨g,o,x,rfl,hx,c0⟩:=(hr5.new hgk).at_ hlt;have Hx:=Lib.hid hx;have hXk:=hX5.new hgk;have d0:=hXk.d0;have d1:=hXk.d1;have d2:=hXk.d2;have d3:=hXk.d3;have hdl:c.qb.length<=100:=by have:=Pre.out.d4;omega
                 clear hx;by_cases h1:c.qb.flatten.count x=1
                 . have Hs:Hid (qrp qa c (k+1)):=qzp Hk.out Hx.out h1;clear Hk;have hXd:jv wr.drew w.heap.size (.slice A1 n1 c1) (.slice A2 n2 c2) (.slice A3 n3 c3) (.slice A4 n4 c4) c:=hXk.new (qax (qag _ none));go_wp2_with fail
                   go_region_law (go_simp;go_at_call 161;refine(qxj _ c x _ (by exact hXd.cv) hdl qF.out).mono ?_;rintro e w6 ⟨z,rfl,hg6⟩;rw[h1])
                   all_goals
                    have hg7:=qac (qax hgk) hg6;clear h1 hXk hXd d0 d1 d2 d3;go_wp2;go_roundg (nr+1-(k+1))
                    case measure=>omega
                    case rel=>exact⟨k+1,by omega,rfl,by go_num,Hs,hg7⟩
                 . have Hr:Hid (b=false):=by
                    show _=_;rw[<-Hb.out,Pre.out.valid,qxk Hx.out h1];rfl
                   have h1':(((c.qb.flatten.count x:Nat):Int) != 1)=true:=by simp;omega
                   clear Hk;have hXd:jv wr.drew w.heap.size (.slice A1 n1 c1) (.slice A2 n2 c2) (.slice A3 n3 c3) (.slice A4 n4 c4) c:=hXk.new (qax (qag _ none));have hAt:∀v' w',CV w' v' c->Ax prog 161 #[v',.int .i64 x] w' (qdN w' (c.qb.flatten.count x)):=λv' w' hcv=>qxj v' c x w' hcv hdl qF.out;have HAt:=Lib.hid hAt;generalize c.qb.flatten.count x=y at h1' HAt;clear h1 hAt;go_wp2_with fail
                   go_region_law (go_simp;go_at_call 161;refine(HAt.out _ _ (by exact hXd.cv)).mono ?_;rintro e w6 ⟨z,rfl,hg6⟩)
                   all_goals
                    go_wp2;go_ret;exact⟨by rw[Hr.out];rfl,qac g5 (qac (qax hgk) hg6)⟩
               . obtain rfl:nr=k:=by omega
                 have hD:qfw qa c=decide (c.qb.flatten.length=(qan qa c.done).length):=by
                  have:=Hk.out;rw[Hnr.out]at this;exact qu0 this
                 have HD:=Lib.hid hD;have hp7:=hp5.new hgk;have hX7:=hX5.new hgk;have g7:=qac g5 hgk;clear Hk hD hp5 hX5 g5 hgk;obtain⟨w7,rfl⟩:∃w7:At,w7=wr:=⟨_,rfl⟩;go_wp2_with fail;refine(qw9 _ qa _ hp7 Hv.out).mono ?_;rintro e w8 ⟨v8,rfl,kF,hg8⟩;have g8:=qac g7 hg8;have hX8:=hX7.new hg8;have hr8:=kF.rl;obtain⟨A8,n8,c8,rfl⟩:=hr8.val;have hn8:=hr8.len;have qhJ:n8=n:=by rw[hn8,qg7,Hn.out]
                 clear kF hg8 hp7 hX7 g7 hn8;subst qhJ;go_wp2_with fail
                 go_loopg [12] (n8+1) (λmm i wr=>∃k:Nat,k<=n8/\mm=n8+1-k/\i=.int .i64 k/\Hid (qtk qa c k)/\w8.grownBy wr none)
                 case atStart=>exact⟨0,Bm _,rfl,rfl,λi hi=>absurd hi (Bq _),qag _ _⟩
                 case round=>
                  obtain⟨k,hk,rfl,rfl,Hk,hgk⟩:=hrel;have hga:=qaq hgk (.cells #[] 3);have hXk:=hX8.new hga;have hrk:=hr8.new hga;have hE:RI (wr.alloc (.cells #[] 3)) (.slice (some ⟨wr.heap.size,0,none⟩) 0 0) []:=(qf.empty wr (Bj _)).ri;generalize hWa:wr.alloc (.cells #[] 3)=wa at hga hXk hrk hE;have d2:=hXk.d2;have d3:=hXk.d3;by_cases hlt:k<n8
                  . have qhK:k<n4:=by have h1:=Hn4.out;have h2:=Pre.out.rl;have h3:=Hn.out;omega
                    obtain⟨g,o,l,B,m,e,rfl,hx,c0,hl,-,-,-⟩:=hrk.at_ hlt;obtain⟨g',o',l',B',m',e',rfl,hx',c0',hl',-,-,-⟩:=hXk.ro.at_ qhK;have hkp:k<qa.length:=by rw[<-Hn.out];exact hlt
                    have hval:l=qco qa k:=by
                     have:=qkw hkp;rw[hx]at this;injection this
                    have Hx':=Lib.hid hx';have Hkp:=Lib.hid hkp;clear hx hx' hkp;by_cases hD:(k:Int)∈c.done
                    . have HD2:Hid (decide ((k:Int)∈c.done)=true):=decide_eq_true hD;have hw:qei qa c.done k=l:=by unfold qei;rw[if_pos hD,hval]
                      by_cases hs:l=l'
                      . have Hs:Hid (decide (l=l')=true):=decide_eq_true hs;have Hn2:Hid (qtk qa c (k+1)):=qrq Hk.out Hx'.out (hw.trans hs);clear hD hw hs hval Hk;go_wp2_with fail;refine(qdo _ _ _ _ hXk.dn HD2.out).mono ?_;rintro e' w9 ⟨rfl,rfl⟩;go_wp2_with fail;refine(qjd _ _ _ _ _ hl hl' Hs.out).mono ?_;rintro e' w9 ⟨rfl,hg9⟩;go_wp2;go_roundg (n8+1-(k+1))
                        case measure=>omega
                        case rel=>exact⟨k+1,by omega,rfl,by go_num,Hn2,qac hga hg9⟩
                      . have Hs:Hid (decide (l=l')=false):=decide_eq_false hs
                        have Hr:Hid (b=false):=by
                         show _=_;rw[<-Hb.out,Pre.out.valid,qtl Hkp.out Hx'.out (λe=>hs (hw.symm.trans e)),Ah]
                        clear hD hw hs hval Hk;go_wp2_with fail;refine(qdo _ _ _ _ hXk.dn HD2.out).mono ?_;rintro e' w9 ⟨rfl,rfl⟩;go_wp2_with fail;refine(qjd _ _ _ _ _ hl hl' Hs.out).mono ?_;rintro e' w9 ⟨rfl,hg9⟩;go_wp2;go_ret;exact⟨by rw[Hr.out];rfl,qac g8 (qac hga hg9)⟩
                    . have HD2:Hid (decide ((k:Int)∈c.done)=false):=decide_eq_false hD;have hw:qei qa c.done k=[]:=by unfold qei;rw[if_neg hD]
                      by_cases hs:[]=l'
                      . have Hs:Hid (decide ([]=l')=true):=decide_eq_true hs;have Hn2:Hid (qtk qa c (k+1)):=qrq Hk.out Hx'.out (hw.trans hs);clear hD hw hs hval Hk;go_wp2_with fail;refine(qdo _ _ _ _ hXk.dn HD2.out).mono ?_;rintro e' w9 ⟨rfl,rfl⟩;go_wp2_with fail;refine(qjd _ _ _ _ _ hE hl' Hs.out).mono ?_;rintro e' w9 ⟨rfl,hg9⟩;go_wp2;go_roundg (n8+1-(k+1))
                        case measure=>omega
                        case rel=>exact⟨k+1,by omega,rfl,by go_num,Hn2,qac hga hg9⟩
                      . have Hs:Hid (decide ([]=l')=false):=decide_eq_false hs
                        have Hr:Hid (b=false):=by
                         show _=_;rw[<-Hb.out,Pre.out.valid,qtl Hkp.out Hx'.out (λe=>hs (hw.symm.trans e)),Ah]
                        clear hD hw hs hval Hk;go_wp2_with fail;refine(qdo _ _ _ _ hXk.dn HD2.out).mono ?_;rintro e' w9 ⟨rfl,rfl⟩;go_wp2_with fail;refine(qjd _ _ _ _ _ hE hl' Hs.out).mono ?_;rintro e' w9 ⟨rfl,hg9⟩;go_wp2;go_ret;exact⟨by rw[Hr.out];rfl,qac g8 (qac hga hg9)⟩
                  . obtain rfl:n8=k:=by omega
                    have Hr:Hid (((q:Int)==(nr:Int))=b):=by
                     show _=_;have hk2:=Hk.out;rw[Hn.out]at hk2;rw[<-Hb.out,Pre.out.valid,HD.out,q27 hk2,Aj,Hq.out,<-Hnr.out,Bool.eq_iff_iff];simp;omega
                    clear Hk hWa hga hXk hrk hE d2 d3;go_wp2;go_ret;exact⟨by rw[Hr.out];rfl,qac g8 hgk⟩
         . have Hr:Hid (b=false):=qfe Hb.out (λe=>hr (by rw[Hn4.out,e.rl,<-Hn.out]));have hne:((n4:Int) != (n:Int))=true:=by simp;omega
           clear hr hc ho hin hv;go_enter func124,ntmps124;go_wp2_with fail;refine(qbh _ qa _ hpW hpl Hv.out).mono ?_;rintro e w1 ⟨rfl,hg1⟩;have g1:=qac hgW hg1;have hp1:=hpW.new hg1;have hX1:=hX.new hg1;have d0:=hX1.d0;have d2:=hX1.d2;go_wp2_with fail;refine(qde _ _ _ _ Hin.out).mono ?_;rintro e w2 ⟨rfl,rfl⟩;go_wp2_with fail;refine(qjr _ _ qa c.done _ hp1 hX1.dn hpl Ho.out).mono ?_;rintro e w2 ⟨rfl,hg2⟩;replace g1:=qac g1 hg2;replace hp1:=hp1.new hg2;replace hX1:=hX1.new hg2;clear d0 d2;have d0:=hX1.d0;have d2:=hX1.d2;have d1:=hX1.d1;have d3:=hX1.d3;go_wp2_with fail;refine(qkq _ _ qa c _ hp1 hX1.cv Hv.out Ho.out Hc.out).mono ?_;rintro e w3 ⟨rfl,hg3⟩;have g3:=qac g1 hg3;have hX3:=hX1.new hg3;clear d0 d1 d2 d3;have d3:=hX3.d3;go_wp2;go_ret;exact⟨by rw[Hr.out];rfl,g3⟩
       . have Hr:Hid (b=false):=qfe Hb.out (λe=>hc (by rw[e.counts,qg2 e.pv e.order]));have Hc:Hid (decide (c.counts=qa7 qa c.done)=false):=decide_eq_false hc;clear hc ho hin hv;go_enter func124,ntmps124;go_wp2_with fail;refine(qbh _ qa _ hpW hpl Hv.out).mono ?_;rintro e w1 ⟨rfl,hg1⟩;have g1:=qac hgW hg1;have hp1:=hpW.new hg1;have hX1:=hX.new hg1;have d0:=hX1.d0;have d2:=hX1.d2;go_wp2_with fail;refine(qde _ _ _ _ Hin.out).mono ?_;rintro e w2 ⟨rfl,rfl⟩;go_wp2_with fail;refine(qjr _ _ qa c.done _ hp1 hX1.dn hpl Ho.out).mono ?_;rintro e w2 ⟨rfl,hg2⟩;replace g1:=qac g1 hg2;replace hp1:=hp1.new hg2;replace hX1:=hX1.new hg2;clear d0 d2;have d0:=hX1.d0;have d2:=hX1.d2;have d1:=hX1.d1;have d3:=hX1.d3;go_wp2_with fail;refine(qkq _ _ qa c _ hp1 hX1.cv Hv.out Ho.out Hc.out).mono ?_;rintro e w3 ⟨rfl,hg3⟩;have g3:=qac g1 hg3;go_wp2;go_ret;exact⟨by rw[Hr.out];rfl,g3⟩
     . have Hr:Hid (b=false):=qfe Hb.out (λe=>ho e.order);have Ho':Hid (qbp qa c.done=false):=by show _=_;simpa using ho
       clear ho hin hv;go_enter func124,ntmps124;go_wp2_with fail;refine(qbh _ qa _ hpW hpl Hv.out).mono ?_;rintro e w1 ⟨rfl,hg1⟩;have g1:=qac hgW hg1;have hp1:=hpW.new hg1;have hX1:=hX.new hg1;have d0:=hX1.d0;have d2:=hX1.d2;go_wp2_with fail;refine(qde _ _ _ _ Hin.out).mono ?_;rintro e w2 ⟨rfl,rfl⟩;go_wp2_with fail;refine(qjr _ _ qa c.done _ hp1 hX1.dn hpl Ho'.out).mono ?_;rintro e w2 ⟨rfl,hg2⟩;replace g1:=qac g1 hg2;replace hp1:=hp1.new hg2;replace hX1:=hX1.new hg2;clear d0 d2;have d0:=hX1.d0;have d2:=hX1.d2;go_wp2;go_ret;exact⟨by rw[Hr.out];rfl,g1⟩
   . have Hr:Hid (b=false):=qfe Hb.out (λe=>hin ⟨by have:=Hn1.out;have:=e.d1;omega,by have:=Hn1.out;have:=e.d4;omega⟩)
     have Hin:Hid ((decide ((1:Int)<=(n1:Int))&&decide ((n1:Int)<=4))=false):=by
      show _=_;rw[Ab,decide_eq_false_iff_not,decide_eq_false_iff_not];omega
     clear hin hv;go_enter func124,ntmps124;go_wp2_with fail;refine(qbh _ qa _ hpW hpl Hv.out).mono ?_;rintro e w1 ⟨rfl,hg1⟩;have g1:=qac hgW hg1;have hp1:=hpW.new hg1;have hX1:=hX.new hg1;have d0:=hX1.d0;have d2:=hX1.d2;go_wp2_with fail;refine(qde _ _ _ _ Hin.out).mono ?_;rintro e w2 ⟨rfl,rfl⟩;go_wp2;go_ret;exact⟨by rw[Hr.out];rfl,g1⟩
 . have Hr:Hid (b=false):=qfe Hb.out (λe=>hv e.pv);have Hv':Hid (qae qa=false):=by show _=_;simpa using hv
   clear hv;go_enter func124,ntmps124;go_wp2_with fail;refine(qbh _ qa _ hpW hpl Hv'.out).mono ?_;rintro e w1 ⟨rfl,hg1⟩;have g1:=qac hgW hg1;go_wp2;go_ret;exact⟨by rw[Hr.out];rfl,g1⟩
theorem qdv(w:At)(g:Nat)(u v x y:As):w.grownBy ((((w.setCell ⟨g,0,none⟩ u).setCell ⟨g,1,none⟩ v).setCell ⟨g,2,none⟩ x).setCell ⟨g,3,none⟩ y) (some g):=
 qa1 (q84 w g u v x) (.inr rfl) y
structure qx(w wx:At)(xb R x3 b2:Nat)(d0 k0 o0 r0 d k o r:As)(c:qj)(D Rw:List (List Int))(xs ys:List As):Prop where
 b:jv wx xb d0 k0 o0 r0 c
 res:Blk wx R 29 #[.slice none 0 0,.slice none 0 0,.slice none 0 0,.slice none 0 0]
 x:Blk wx x3 29 #[d,k,o,r]
 dq:LX wx w.heap.size d D xs
 ct:RI wx k c.counts
 dn:qf wx w.heap.size o c.done
 ro:LX wx b2 r Rw ys
 hb:w.heap.size<=b2
 hbx:b2<=wx.heap.size
 ap:r=.slice none 0 0∨∀g,d.ownBlock=some g->g<b2
 al:Apart (o::(xs++ys))
 g:w.grownBy wx none
 lx:w.heap.size<=x3
 nb:xb≠x3
 nr:R≠x3
 hR:w.heap.size<=R
section
variable {w wx wy:At}{xb R x3 b2:Nat}{d0 k0 o0 r0 d k o r:As}{c:qj}{D Rw:List (List Int)}{xs ys:List As}
theorem qx.new(M:qx w wx xb R x3 b2 d0 k0 o0 r0 d k o r c D Rw xs ys)(hg:wx.grownBy wy none):qx w wy xb R x3 b2 d0 k0 o0 r0 d k o r c D Rw xs ys:=
 ⟨M.b.new hg,M.res.grown hg (by simp),M.x.grown hg (by simp),M.dq.new hg,M.ct.new hg,M.dn.new hg,M.ro.new hg,M.hb,Bi M.hbx hg.size,M.ap,M.al,qac M.g hg,M.lx,M.nb,M.nr,M.hR⟩
theorem jv.grown{k:As}(h:jv w g d k o r c)(hg:w.grownBy w' row)(hne:some g≠row)(hr:qg w 3 row)(hr':qg w 24 row):jv w' g d k o r c:=
 ⟨h.b.grown hg hne,h.dq.grown hg hr hr',h.ct.grown hg hr,h.dn.grown hg hr,h.ro.grown hg hr hr'⟩
theorem qx.lts(M:qx w wx xb R x3 b2 d0 k0 o0 r0 d k o r c D Rw xs ys):∀u∈o::(xs++ys),∀g,u.ownBlock=some g->g<wx.heap.size:=by
 intro u hu g hg;rcases mem_cons.1 hu with rfl|hu
 . exact(M.dn.lt g hg).2
 . rcases AZ.1 hu with hu|hu
   . exact(M.dq.lts u hu g hg).2
   . exact(M.ro.lts u hu g hg).2
theorem qx.apR(M:qx w wx xb R x3 b2 d0 k0 o0 r0 d k o r c D Rw xs ys)(hf:qf wy wx.heap.size f l):Apart (o::(xs++(ys++[f]))):=by
 have:=M.al.join (Apart.one f) M.lts (λu hu g hg=>by obtain rfl:u=f:=(by simpa using hu);exact(hf.lt g hg).1);simpa using this
theorem qx.apD(M:qx w wx xb R x3 b2 d0 k0 o0 r0 d k o r c D Rw xs [])(hf:qf wy wx.heap.size f l):Apart (o::((xs++[f])++[])):=by
 have:=M.apR hf;simpa using this
theorem qx.yc(M:qx w wx xb R x3 b2 d0 k0 o0 r0 d k o (.slice none 0 0) c D [] xs [])(hc:CV w (.agg #[d0,k0,o0,r0]) c)(hg:wx.grownBy wy d.ownBlock){D':List (List Int)}(ho:LX wy w.heap.size v' D' (xs++[f]))(hal:Apart (o::((xs++[f])++[]))) :
   wy.cell? ⟨x3,0,none⟩=some d/\wy.frozen? ⟨x3,0,none⟩=false/\qx w (wy.setCell ⟨x3,0,none⟩ v') xb R x3 b2 d0 k0 o0 r0 v' k o (.slice none 0 0) c D' [] (xs++[f]) []:=by
 have hne:∀{g:Nat} {cs:Array As},Blk wx g 29 cs->some g≠d.ownBlock:=λhb e=>M.dq.jq (by decide) _ e.symm _ hb;have hx:=M.x.grown hg (hne M.x);have hst:wy.grownBy (wy.setCell ⟨x3,0,none⟩ v') (some x3):=qa1 (qag wy (some x3)) (.inr rfl) _;have hg2:w.grownBy wy none:=M.dq.gb M.g hg (Bj _);have hg3:w.grownBy (wy.setCell ⟨x3,0,none⟩ v') none:=qa1 hg2 (.inl M.lx) _;have hn2:qg wy 3 (some x3):=qg.blk hx (by decide);have hn3:qg wy 24 (some x3):=qg.blk hx (by decide);have hn1:qg wx 3 d.ownBlock:=M.dq.jq (by decide);obtain⟨d0',k0',o0',r0',e,q1,q2,q3,q4⟩:=hc;injection e with e;injection e with e;injection e with e1 e;injection e with e2 e;injection e with e3 e;injection e with e4 e;subst e1 e2 e3 e4;refine⟨hx.cell 0,hx.frozen 0,⟨(M.b.b.grown hg (hne M.b.b)).far M.nb _,q1.new hg3,q2.new hg3,q3.new hg3,q4.new hg3⟩,(M.res.grown hg (hne M.res)).far M.nr _,hx.qC 0 v',?_,(M.ct.grown hg hn1).grown hst hn2,(M.dn.grown hg hn1).grown hst hn2,LX.nil _ _,M.hb,?_,.inl rfl,hal,hg3,M.lx,M.nb,M.nr,M.hR⟩
 . exact ho.grown hst hn2 hn3
 . exact Bi M.hbx (Bi hg.size hst.size)
theorem qx.yd(M:qx w wx xb R x3 b2 d0 k0 o0 r0 d k o r c D Rw xs ys)(hlt:∀g,d.ownBlock=some g->g<b2)(hc:CV w (.agg #[d0,k0,o0,r0]) c)(hg:wx.grownBy wy r.ownBlock){R':List (List Int)}(ho:LX wy b2 v' R' (ys++[f]))(hal:Apart (o::(xs++(ys++[f])))) :
   wy.cell? ⟨x3,3,none⟩=some r/\wy.frozen? ⟨x3,3,none⟩=false/\qx w (wy.setCell ⟨x3,3,none⟩ v') xb R x3 b2 d0 k0 o0 r0 d k o v' c D R' xs (ys++[f]):=by
 have hne:∀{g:Nat} {cs:Array As},Blk wx g 29 cs->some g≠r.ownBlock:=λhb e=>M.ro.jq (by decide) _ e.symm _ hb;have hx:=M.x.grown hg (hne M.x);have hst:wy.grownBy (wy.setCell ⟨x3,3,none⟩ v') (some x3):=qa1 (qag wy (some x3)) (.inr rfl) _;have hg2:w.grownBy wy none:=M.ro.gb M.g hg M.hb;have hg3:w.grownBy (wy.setCell ⟨x3,3,none⟩ v') none:=qa1 hg2 (.inl M.lx) _;have hn2:qg wy 3 (some x3):=qg.blk hx (by decide);have hn3:qg wy 24 (some x3):=qg.blk hx (by decide);have hn1:qg wx 3 r.ownBlock:=M.ro.jq (by decide)
 have hdq:LX wy w.heap.size d D xs:=by
  cases hr:r.ownBlock with
  |none=>rw[hr]at hg;exact M.dq.new hg
  |some b=>
   rw[hr]at hg;refine M.dq.far hg (hr▸hn1) (λe=>?_);have:=hlt b e;have:=(M.ro.lt b hr).1;omega
 obtain⟨d0',k0',o0',r0',e,q1,q2,q3,q4⟩:=hc;injection e with e;injection e with e;injection e with e1 e;injection e with e2 e;injection e with e3 e;injection e with e4 e;subst e1 e2 e3 e4;refine⟨hx.cell 3,hx.frozen 3,⟨(M.b.b.grown hg (hne M.b.b)).far M.nb _,q1.new hg3,q2.new hg3,q3.new hg3,q4.new hg3⟩,(M.res.grown hg (hne M.res)).far M.nr _,hx.qC 3 v',hdq.grown hst hn2 hn3,(M.ct.grown hg hn1).grown hst hn2,(M.dn.grown hg hn1).grown hst hn2,ho.grown hst hn2 hn3,M.hb,Bi M.hbx (Bi hg.size hst.size),.inr hlt,hal,hg3,M.lx,M.nb,M.nr,M.hR⟩
end
def qu1(w:At)(c:qj)(e:Az)(w':At):Prop:=∃v,e=.returned v/\yV w' w.heap.size v c/\w.grownBy w' none
theorem qx.mk0{d0 k:As}(hgW:w.grownBy W none)(hg:W.grownBy w1 none)(hX:jv W w.heap.size d0 k0 o0 r0 c)(hR:Blk W (w.heap.size+1) 29 #[.slice none 0 0,.slice none 0 0,.slice none 0 0,.slice none 0 0])
   (hB:Blk w1 x3 29 #[.slice none 0 0,.slice none 0 0,.slice none 0 0,.slice none 0 0]) (hbg:W.heap.size<=x3) (hk:qf w1 W.heap.size k c.counts) (ho:qf w1 W.heap.size o c.done) :
   qx w ((((w1.setCell ⟨x3,0,none⟩ (.slice none 0 0)).setCell ⟨x3,1,none⟩ k).setCell ⟨x3,2,none⟩ o).setCell ⟨x3,3,none⟩ (.slice none 0 0)) w.heap.size (w.heap.size+1) x3 w.heap.size d0 k0 o0 r0 (.slice none 0 0) k o (.slice none 0 0) c [] [] [] []:=by
 have hst:=qdv w1 x3 (.slice none 0 0) k o (.slice none 0 0);have hn:qg w1 3 (some x3):=qg.blk hB (by decide);have hn':qg w1 24 (some x3):=qg.blk hB (by decide);have h1:=hX.b.lt;have h2:=hR.lt;have h3:=hgW.size;have hs:=hg.size
 exact⟨(hX.new hg).grown hst (by simp;omega) hn hn',(hR.grown hg (by simp)).grown hst (by simp;omega),(((hB.qC 0 _).qC 1 _).qC 2 _).qC 3 _,LX.nil _ _,hk.ri.grown hst hn,(ho.low h3).grown hst hn,LX.nil _ _,Bj _,Bi h3 (Bi hs hst.size),.inl rfl,Apart.one _,
  qa2 (qac hgW hg) hst (λg e=>by cases e;exact .inl (by omega)),by omega,by omega,by omega,by omega⟩
theorem qx.end_{R b2:Nat}{d0 k:As}(M:qx w wx xb R x3 b2 d0 k0 o0 r0 d k o r c c.qb c.rows xs ys) :
   qu1 w c (.returned (.agg #[d,k,o,r])) ((((wx.setCell ⟨R,0,none⟩ d).setCell ⟨R,1,none⟩ k).setCell ⟨R,2,none⟩ o).setCell ⟨R,3,none⟩ r):=by
 have hst:=qdv wx R d k o r;have hne:qg wx 3 (some R):=qg.blk M.res (by decide);have vm:qg wx 24 (some R):=qg.blk M.res (by decide);have hro:=M.ro.low M.hb;refine⟨_,rfl,⟨d,k,o,r,xs,ys,rfl,M.dq.grown hst hne vm,M.ct.grown hst hne,M.dn.grown hst hne,hro.grown hst hne vm,M.al,λg hg hr=>?_⟩,qa2 M.g hst (λg e=>by cases e;exact .inl M.hR)⟩;rcases M.ap with h|h
 . rw[h]at hr;cases hr
 . have:=h g hg;have:=(M.ro.lt g hr).1;omega
def cpF(xb base:Nat)(k0 o0:As)(c:qj):Nat->At->As->Prop
 |0,w,v=>∃g,v=.slice (some ⟨g,0,none⟩) 0 0/\Blk w g 3 #[]/\base<=g
 |1,_,v=>v=.pointer (some ⟨xb,1,none⟩)
 |2,_,v=>v=k0
 |3,w,v=>qf w base v c.counts
 |4,w,v=>∃g,v=.slice (some ⟨g,0,none⟩) 0 0/\Blk w g 3 #[]/\base<=g
 |5,_,v=>v=.pointer (some ⟨xb,2,none⟩)
 |6,_,v=>v=o0
 |7,w,v=>qf w base v c.done
 |8,w,v=>∃k o,v=.agg #[.slice none 0 0,k,o,.slice none 0 0]/\qf w base k c.counts/\qf w base o c.done
 |9,w,v=>∃g,v=.pointer (some ⟨g,0,none⟩)/\Blk w g 29 #[.slice none 0 0,.slice none 0 0,.slice none 0 0,.slice none 0 0]/\base<=g
 |_,_,_=>True
theorem q9u{base:Nat}(j:Nat)(w w':At)(v:As)(h:cpF xb base k0 o0 c j w v)(hg:w.grownBy w' none):cpF xb base k0 o0 c j w' v:=by
 match j,h with
 |0,⟨g,h1,h2,h3⟩=>exact⟨g,h1,h2.grown hg (by simp),h3⟩
 |1,h=>exact h
 |2,h=>exact h
 |3,h=>exact qf.new h hg
 |4,⟨g,h1,h2,h3⟩=>exact⟨g,h1,h2.grown hg (by simp),h3⟩
 |5,h=>exact h
 |6,h=>exact h
 |7,h=>exact qf.new h hg
 |8,⟨k,o,h1,h2,h3⟩=>exact⟨k,o,h1,h2.new hg,h3.new hg⟩
 |9,⟨g,h1,h2,h3⟩=>exact⟨g,h1,h2.grown hg (by simp),h3⟩
 |_+10,_=>trivial
theorem qkr(v:As)(c:qj)(w:At)(h:CV w v c)(hf1:c.qb.length<=1000)(hf2:∀l∈c.qb,l.length<=1000000)(hf3:c.rows.length<=1000)(hf4:∀l∈c.rows,l.length<=1000000)(hf5:c.counts.length<=1000000)(hf6:c.done.length<=1000000) :
   Ax prog 126 #[v] w (qu1 w c):=by
 obtain⟨A1,n1,c1,A2,n2,c2,A3,n3,c3,A4,n4,c4,rfl,h1,h2,h3,h4⟩:=h.form;have hX:=h.box;have hn1:=h1.len;have hn4:=h4.len;have Hn1:=Lib.hid hn1;have Hn4:=Lib.hid hn4;have hk1:n1<=1000:=by omega
 have hk4:n4<=1000:=by omega
 have Hf2:=Lib.hid hf2;have Hf4:=Lib.hid hf4;have Hcv:=Lib.hid h;clear hn1 hn4 hf2 hf4 h1 h2 h3 h4 h;go_enter func126,ntmps126;go_upto_region 1 with fail;have hR0:=Blk.new (w.alloc (.cells #[.slice A1 n1 c1,.slice A2 n2 c2,.slice A3 n3 c3,.slice A4 n4 c4] 29)) 29 #[.slice none 0 0,.slice none 0 0,.slice none 0 0,.slice none 0 0];rw[AD]at hR0;have hX0:=hX.new (AB _ (.cells #[.slice none 0 0,.slice none 0 0,.slice none 0 0,.slice none 0 0] 29) none);have hgW:w.grownBy ((w.alloc (.cells #[.slice A1 n1 c1,.slice A2 n2 c2,.slice A3 n3 c3,.slice A4 n4 c4] 29)).alloc (.cells #[.slice none 0 0,.slice none 0 0,.slice none 0 0,.slice none 0 0] 29)) none:=qaq (qaq (qag w none) _) _;generalize ((w.alloc (.cells #[.slice A1 n1 c1,.slice A2 n2 c2,.slice A3 n3 c3,.slice A4 n4 c4] 29)).alloc (.cells #[.slice none 0 0,.slice none 0 0,.slice none 0 0,.slice none 0 0] 29))=W at hR0 hX0 hgW |-;have HR0:=Lib.hid hR0;have ye:=hR0.lt;have yE:=hX0.b.lt;clear hX hR0
 go_cut [3] (λt3 wx=>∃x3 k' o',t3=.pointer (some ⟨x3,0,none⟩)/\qx w wx w.heap.size (w.heap.size+1) x3 w.heap.size (.slice A1 n1 c1) (.slice A2 n2 c2) (.slice A3 n3 c3) (.slice A4 n4 c4) (.slice none 0 0) k' o' (.slice none 0 0) c [] [] [] [])
 case first=>
  refine qr9 (n:=10) (m:=54) (F:=cpF w.heap.size W.heap.size (.slice A2 n2 c2) (.slice A3 n3 c3) c) (by kernel_rfl) (by kernel_rfl) rfl q9u ?_ ?_
  . have hb1:Hid (jv W w.heap.size (.slice A1 n1 c1) (.slice A2 n2 c2) (.slice A3 n3 c3) (.slice A4 n4 c4) c):=hX0;have hct:c.counts.length<=1000000000:=by omega
    have hdt:c.done.length<=1000000000:=by omega
    have hgD:W.grownBy W.drew none:=qax (qag _ none);clear hX0;intro j hj o a w1 K ho hg hs hb hK;have hg0:=qac hgD hg;have hbx:=hb1.out.new hg0;have hsz:W.heap.size<=w1.heap.size:=hg0.size;have e1:a.tmps[1]?=some (.pointer (some ⟨w.heap.size,0,none⟩)):=(hs.2.2 1 (by decide)).trans rfl
    match j,hj with
    |0,_=>
     obtain rfl:=Bt ho;exact qiu (v:=.slice (some ⟨w1.heap.size,0,none⟩) 0 0) (w':=w1.alloc (.cells #[] 3)) (by simp[go_sem,execOp]) (hK _ _ (AB _ _ _) ⟨_,rfl,Blk.new _ _ _,hsz⟩)
    |1,_=>
     obtain rfl:=Bt ho;exact qit (v:=.pointer (some ⟨w.heap.size,1,none⟩)) (by simp[go_sem,execOp,e1]) (hK _ _ (qag _ _) rfl)
    |2,_=>
     obtain rfl:=Bt ho;obtain⟨_,q1,rfl⟩:=hb 1 (by decide) (by kernel_rfl);have e7:a.tmps[7]?=some _:=q1;have d1:=hbx.d1;exact qit (v:=.slice A2 n2 c2) (by simp[go_sem,execOp,e7,d1]) (hK _ _ (qag _ _) rfl)
    |3,_=>
     obtain rfl:=Bt ho;obtain⟨_,q1,g,rfl,hB,hbg⟩:=hb 0 (by decide) (by kernel_rfl);obtain⟨_,q2,rfl⟩:=hb 2 (by decide) (by kernel_rfl);have e6:a.tmps[6]?=some _:=q1;have e8:a.tmps[8]?=some _:=q2;obtain⟨v',w',hr,h3,h4⟩:=qvy 24 hB hbg hbx.ct hct;exact qiu (v:=v') (w':=w') (by simp[execOp,resolve,invoke,builtin,qo6 e6,qo6 e8,hr]) (hK _ _ h4 h3)
    |4,_=>
     obtain rfl:=Bt ho;exact qiu (v:=.slice (some ⟨w1.heap.size,0,none⟩) 0 0) (w':=w1.alloc (.cells #[] 3)) (by simp[go_sem,execOp]) (hK _ _ (AB _ _ _) ⟨_,rfl,Blk.new _ _ _,hsz⟩)
    |5,_=>
     obtain rfl:=Bt ho;exact qit (v:=.pointer (some ⟨w.heap.size,2,none⟩)) (by simp[go_sem,execOp,e1]) (hK _ _ (qag _ _) rfl)
    |6,_=>
     obtain rfl:=Bt ho;obtain⟨_,q1,rfl⟩:=hb 5 (by decide) (by kernel_rfl);have e7:a.tmps[11]?=some _:=q1;have d1:=hbx.d2;exact qit (v:=.slice A3 n3 c3) (by simp[go_sem,execOp,e7,d1]) (hK _ _ (qag _ _) rfl)
    |7,_=>
     obtain rfl:=Bt ho;obtain⟨_,q1,g,rfl,hB,hbg⟩:=hb 4 (by decide) (by kernel_rfl);obtain⟨_,q2,rfl⟩:=hb 6 (by decide) (by kernel_rfl);have e6:a.tmps[10]?=some _:=q1;have e8:a.tmps[12]?=some _:=q2;obtain⟨v',w',hr,h3,h4⟩:=qvy 24 hB hbg hbx.dn hdt;exact qiu (v:=v') (w':=w') (by simp[execOp,resolve,invoke,builtin,qo6 e6,qo6 e8,hr]) (hK _ _ h4 h3)
    |8,_=>
     obtain rfl:=Bt ho;obtain⟨k',q1,hk'⟩:=hb 3 (by decide) (by kernel_rfl);obtain⟨o',q2,ho'⟩:=hb 7 (by decide) (by kernel_rfl);obtain⟨Ak,nk,ck,rfl⟩:=(show qf _ _ k' _ from hk').ri.val;obtain⟨Ao,no,co,rfl⟩:=(show qf _ _ o' _ from ho').ri.val;have e9:a.tmps[9]?=some _:=q1;have e13:a.tmps[13]?=some _:=q2;exact qit (v:=.agg #[.slice none 0 0,.slice Ak nk ck,.slice Ao no co,.slice none 0 0]) (by simp[go_sem,execOp,e9,e13]) (hK _ _ (qag _ _) ⟨_,_,rfl,hk',ho'⟩)
    |9,_=>
     obtain rfl:=Bt ho;exact qiu (v:=.pointer (some ⟨w1.heap.size,0,none⟩)) (w':=w1.alloc (.cells #[.slice none 0 0,.slice none 0 0,.slice none 0 0,.slice none 0 0] 29)) (by simp[go_sem,execOp]) (hK _ _ (AB _ _ _) ⟨_,rfl,Blk.new _ _ _,hsz⟩)
  . intro vs hvs w1 hg hall
    match vs,hvs with
    |[v0,v1,v2,v3,v4,v5,v6,v7,v8,v9],_=>
     obtain⟨x3,e9,hB,hbg⟩:=hall 9 (by decide);obtain⟨k',o',e8,hk',ho'⟩:=hall 8 (by decide);obtain rfl:v9=.pointer (some ⟨x3,0,none⟩):=e9;obtain rfl:v8=.agg #[.slice none 0 0,k',o',.slice none 0 0]:=e8;have b0:=hB.cell 0;have b1:=hB.cell 1;have b2:=hB.cell 2;have b3:=hB.cell 3;have f0:=hB.frozen 0;have f1:=hB.frozen 1;have f2:=hB.frozen 2;have f3:=hB.frozen 3;have qbP:qf w1 W.heap.size k' c.counts:=hk';have qbQ:qf w1 W.heap.size o' c.done:=ho';obtain⟨Ak,nk,ck,rfl⟩:=qbP.ri.val;obtain⟨Ao,no,co,rfl⟩:=qbQ.ri.val;simp only[qp1,range,range.loop,foldl,jN,Act.put,drop];go_wp2_with fail;have M:=qx.mk0 hgW (qac (qax (qag _ none)) hg) hX0 HR0.out hB hbg qbP qbQ;clear b0 b1 b2 b3 f0 f1 f2 f3 qbP qbQ hB;go_meet;exact⟨x3,_,_,rfl,M⟩
 case rest=>
  obtain⟨x3,k',o',rfl,M⟩:=hcut;clear hX0 HR0 hgW ye yE;have hs1:w.heap.size<=w.heap.size+1:=Bn _;generalize w.heap.size+1=R at M |-;go_wp2_with fail
  go_loopg [4] (n1+1) (λmm i wr=>∃(k:Nat) (d:As) (xs:List As),k<=n1/\mm=n1+1-k/\i=.int .i64 k/\qx w wr w.heap.size R x3 w.heap.size (.slice A1 n1 c1) (.slice A2 n2 c2) (.slice A3 n3 c3) (.slice A4 n4 c4) d k' o' (.slice none 0 0) c (c.qb.take k) [] xs [])
  case atStart=>exact⟨0,_,_,Bm _,rfl,rfl,M⟩
  case round=>
   clear M;obtain⟨k,d,xs,hk,rfl,rfl,M⟩:=hrel;have b0:=M.b.d0;by_cases hlt:k<n1
   . obtain⟨g,o,l,B,m,e',rfl,hl,q0,kx,-,-,-⟩:=M.b.dq.at_ hlt;have qhL:l.length<=1000000:=Hf2.out l (AI hl)
     have Ht:Hid (c.qb.take (k+1)=c.qb.take k++[l]):=by
      show _=_;obtain⟨hkl,rfl⟩:=AN.1 hl;rw[AL hkl]
     have htl:(c.qb.take k).length<=1000:=by rw[AQ];omega
     obtain⟨Af,nf,cf,rfl⟩:=M.dq.rl.val;have hlb:w.heap.size<wr.heap.size:=M.b.b.lt;have hlx:x3<wr.heap.size:=M.x.lt;have hlg:g<wr.heap.size:=by simpa using qe2 q0
     have x0:=M.x.cell 0;have hE:qf (wr.alloc (.cells #[] 3)).drew wr.heap.size (.slice (some ⟨wr.heap.size,0,none⟩) 0 0) []:=qf.empty wr (Bj _);have hgE:wr.grownBy (wr.alloc (.cells #[] 3)).drew none:=qax (AB wr _ none);have hrE:RI (wr.alloc (.cells #[] 3)).drew (.slice B m e') l:=kx.new hgE;have hlen:([]:List Int).length+l.length<=1000000000:=by simp only[length_nil];omega
     clear hl;go_wp2_with fail
     go_region_law (first
      |(refine qdq (w:=(wr.alloc (.cells #[] 3)).drew) (base:=wr.heap.size) (v:=.slice (some ⟨wr.heap.size,0,none⟩) 0 0) (xv:=.slice B m e') (l0:=[]) (l:=l) (.tmp 24) (.tmp 29) rfl rfl hE hrE hlen hgE.size rfl rfl ?_;intro v' w4 qp hg4;have hg5:=hE.gb hgE hg4 (Bj _);have M4:=M.new hg5;have x04:=M4.x.cell 0;have hl4:x3<w4.heap.size:=Bp hlx hg5.size;obtain⟨A4',n4',c4',rfl⟩:=qp.ri.val;have r4:qf w4 wr.heap.size (.slice A4' n4' c4') l:=by simpa using qp)
      |(refine qiv (w:=w4) (base:=w.heap.size) (v:=.slice Af nf cf) (ll:=c.qb.take k) (l:=l) (f:=.slice A4' n4' c4') (.tmp 23) (.tmp 31) rfl rfl M4.dq (r4.low M.g.size) (by omega) M4.g.size rfl rfl ?_;intro v5 w5 qE hg6;obtain⟨z1,z2,M5⟩:=M4.yc Hcv.out hg6 qE (M.apD r4);obtain⟨A5,n5,c5,rfl⟩:=qE.rl.val))
     all_goals
      rw[<-Ht.out]at M5;go_wp2;go_roundg (n1+1-(k+1))
      case measure=>omega
      case rel=>exact⟨k+1,_,_,by omega,rfl,by go_num,M5⟩
   . obtain rfl:n1=k:=by omega
     have M0:qx w wr w.heap.size R x3 wr.heap.size (.slice A1 n1 c1) (.slice A2 n2 c2) (.slice A3 n3 c3) (.slice A4 n4 c4) d k' o' (.slice none 0 0) c c.qb [] xs []:=by
      have e:c.qb.take n1=c.qb:=AR (by rw[<-Hn1.out];exact Bj _);rw[e]at M;exact{M with ro:=LX.nil _ _,hb:=M.g.size,hbx:=Bj _,ap:=.inl rfl}
     have Hlt:Hid (∀g,d.ownBlock=some g->g<wr.heap.size):=λg hg=>(M0.dq.lt g hg).2;clear M;obtain⟨w3,rfl⟩:∃w3:At,w3=wr:=⟨_,rfl⟩;go_wp2_with fail;generalize w3.heap.size=b2 at M0 Hlt
     go_loopg [5] (n4+1) (λmm i wr=>∃(k:Nat) (r:As) (ys:List As),k<=n4/\mm=n4+1-k/\i=.int .i64 k/\qx w wr w.heap.size R x3 b2 (.slice A1 n1 c1) (.slice A2 n2 c2) (.slice A3 n3 c3) (.slice A4 n4 c4) d k' o' r c c.qb (c.rows.take k) xs ys)
     case atStart=>exact⟨0,_,_,Bm _,rfl,rfl,M0⟩
     case round=>
      clear M0;obtain⟨k,r,ys,hk,rfl,rfl,M⟩:=hrel;have b3:=M.b.d3;by_cases hlt:k<n4
      . obtain⟨g,o,l,B,m,e',rfl,hl,q0,kx,-,-,-⟩:=M.b.ro.at_ hlt;have qhL:l.length<=1000000:=Hf4.out l (AI hl)
        have Ht:Hid (c.rows.take (k+1)=c.rows.take k++[l]):=by
         show _=_;obtain⟨hkl,rfl⟩:=AN.1 hl;rw[AL hkl]
        have htl:(c.rows.take k).length<=1000:=by rw[AQ];omega
        obtain⟨Af,nf,cf,rfl⟩:=M.ro.rl.val;have hlb:w.heap.size<wr.heap.size:=M.b.b.lt;have hlx:x3<wr.heap.size:=M.x.lt;have hlg:g<wr.heap.size:=by simpa using qe2 q0
        have x0:=M.x.cell 3;have hE:qf (wr.alloc (.cells #[] 3)).drew wr.heap.size (.slice (some ⟨wr.heap.size,0,none⟩) 0 0) []:=qf.empty wr (Bj _);have hgE:wr.grownBy (wr.alloc (.cells #[] 3)).drew none:=qax (AB wr _ none);have hrE:RI (wr.alloc (.cells #[] 3)).drew (.slice B m e') l:=kx.new hgE;have hlen:([]:List Int).length+l.length<=1000000000:=by simp only[length_nil];omega
        clear hl;go_wp2_with fail
        go_region_law (first
         |(refine qdq (w:=(wr.alloc (.cells #[] 3)).drew) (base:=wr.heap.size) (v:=.slice (some ⟨wr.heap.size,0,none⟩) 0 0) (xv:=.slice B m e') (l0:=[]) (l:=l) (.tmp 43) (.tmp 48) rfl rfl hE hrE hlen hgE.size rfl rfl ?_;intro v' w4 qp hg4;have hg5:=hE.gb hgE hg4 (Bj _);have M4:=M.new hg5;have x04:=M4.x.cell 3;have hl4:x3<w4.heap.size:=Bp hlx hg5.size;obtain⟨A4',n4',c4',rfl⟩:=qp.ri.val;have r4:qf w4 wr.heap.size (.slice A4' n4' c4') l:=by simpa using qp)
         |(refine qiv (w:=w4) (base:=b2) (v:=.slice Af nf cf) (ll:=c.rows.take k) (l:=l) (f:=.slice A4' n4' c4') (.tmp 42) (.tmp 50) rfl rfl M4.ro (r4.low M.hbx) (by omega) M4.hbx rfl rfl ?_;intro v5 w5 qE hg6;obtain⟨z1,z2,M5⟩:=M4.yd Hlt.out Hcv.out hg6 qE (M.apR r4);obtain⟨A5,n5,c5,rfl⟩:=qE.rl.val))
        all_goals
         rw[<-Ht.out]at M5;go_wp2;go_roundg (n4+1-(k+1))
         case measure=>omega
         case rel=>exact⟨k+1,_,_,by omega,rfl,by go_num,M5⟩
      . obtain rfl:n4=k:=by omega
        have e:c.rows.take n4=c.rows:=AR (by rw[<-Hn4.out];exact Bj _);rw[e]at M;have hcr:=M.end_;obtain⟨Ad,nd,cd,rfl⟩:=M.dq.rl.val;obtain⟨Ak,nk,ck,rfl⟩:=M.ct.val;obtain⟨Ao,no,co,rfl⟩:=M.dn.ri.val;obtain⟨Ar,nr,cr,rfl⟩:=M.ro.rl.val;have x0:=M.x.cell 0;have x1:=M.x.cell 1;have x2:=M.x.cell 2;have x3':=M.x.cell 3;have y0:=M.res.cell 0;have y1:=M.res.cell 1;have y2:=M.res.cell 2;have y3:=M.res.cell 3;have f0:=M.res.frozen 0;have f1:=M.res.frozen 1;have f2:=M.res.frozen 2;have f3:=M.res.frozen 3;clear M e;go_wp2_with fail;refine Ap (v:=.agg #[.slice Ad nd cd,.slice Ak nk ck,.slice Ao no co,.slice Ar nr cr]) (by simp[results,results126,go_sem,y0,y1,y2,y3]) rfl ?_;exact hcr
theorem LX.qQ{base b:Nat}{cur:Array As}(h:LX w base v ll xs)(hg:w.grownBy w' (some b))(hB:Blk w b 3 cur)(hx:∀u∈xs,u.ownBlock≠some b):LX w' base v ll xs:=by
 have hne:qg w 24 (some b):=qg.blk hB (by decide);refine⟨qcb h.1 hg hne,λi l hi=>?_⟩;obtain⟨u,k1,k2⟩:=h.2 i l hi;exact⟨u,k1,k2.qQ hg (.inr (hx u (AI k1)))⟩
theorem qf.block{base:Nat}(h:qf w base v l)(hg:v.ownBlock=some g):∃cur,Blk w g 3 cur:=by
 rcases h.2 with ⟨rfl,_⟩|⟨g',cap,cur,rfl,_,hh,_⟩
 . cases hg
 . injection hg with hg;subst hg;exact⟨cur,hh⟩
theorem Apart.zV(h:Apart (o::(xs++ys))){b:Nat}(hb:o.ownBlock=some b):(∀u∈xs,u.ownBlock≠some b)/\(∀u∈ys,u.ownBlock≠some b):=by
 have h1:=(AO.1 h).1;exact⟨λu hu=>h1 u (Bc _ hu) b hb,λu hu=>h1 u (mem_append_right _ hu) b hb⟩
structure za(w:At)(base X:Nat)(d k o r:As)(D:List (List Int))(N:List Int)(Rw:List (List Int))(xs ys:List As):Prop where
 x:Blk w X 29 #[d,k,o,r]
 dq:LX w base d D xs
 dn:qf w base o N
 ro:LX w base r Rw ys
 al:Apart (o::(xs++ys))
 dr:∀g,d.ownBlock=some g->r.ownBlock≠some g
section
variable {w w':At}{base X:Nat}{d k o r:As}{D Rw:List (List Int)}{N:List Int}{xs ys:List As}
theorem za.new(h:za w base X d k o r D N Rw xs ys)(hg:w.grownBy w' none):za w' base X d k o r D N Rw xs ys:=⟨h.x.grown hg (by simp),h.dq.new hg,h.dn.new hg,h.ro.new hg,h.al,h.dr⟩
theorem za.lts(h:za w base X d k o r D N Rw xs ys):∀u∈o::(xs++ys),∀g,u.ownBlock=some g->base<=g/\g<w.heap.size:=by
 intro u hu g hg;rcases mem_cons.1 hu with rfl|hu
 . exact h.dn.lt g hg
 . rcases AZ.1 hu with hu|hu
   . exact h.dq.lts u hu g hg
   . exact h.ro.lts u hu g hg
theorem za.lay(h1:LX w1 base d c.qb xs)(h3:qf w1 base o c.done)(h4:LX w1 base r c.rows ys)(h5:Apart (o::(xs++ys)))(h6:∀g,d.ownBlock=some g->r.ownBlock≠some g) :
   za (w1.alloc (.cells #[d,k,o,r] 29)) base w1.heap.size d k o r c.qb c.done c.rows xs ys:=
 have hg:=AB w1 (.cells #[d,k,o,r] 29) none
 ⟨Blk.new _ _ _,h1.new hg,h3.new hg,h4.new hg,h5,h6⟩
theorem za.setRow{gr s:Nat}(h:za w base X d k o (.slice (some ⟨gr,0,none⟩) n cap) D N Rw xs ys)(hm:m<Rw.length)(hf:qf w base f l)(hs:∀u∈o::(xs++ys),∀g,u.ownBlock=some g->g<s)(hfs:∀g,f.ownBlock=some g->s<=g) :
   (∃u,w.cell? ⟨gr,m,none⟩=some u/\w.frozen? ⟨gr,m,none⟩=false)/\w.grownBy (w.setCell ⟨gr,m,none⟩ f) (some gr) /\
   za (w.setCell ⟨gr,m,none⟩ f) base X d k o (.slice (some ⟨gr,0,none⟩) n cap) D N (Rw.set m l) xs (ys.set m f):=by
 have hst:w.grownBy (w.setCell ⟨gr,m,none⟩ f) (some gr):=qa1 (p:=⟨gr,m,none⟩) (qag w (some gr)) (.inr rfl) _;have hI:qg w 3 (some gr):=h.ro.jq (by decide);have hE:qg w 29 (some gr):=h.ro.jq (by decide);refine⟨h.ro.cell hm,hst,h.x.grown hst (λe=>by injection e with e;exact hE _ rfl _ (e▸h.x)),h.dq.far hst hI (λe=>h.dr gr e rfl),h.dn.grown hst hI,h.ro.qC hm hf,?_,h.dr⟩;have hyl:ys.length=Rw.length:=h.ro.len
 have e:o::(xs++ys.set m f)=(o::(xs++ys)).set (xs.length+m+1) f:=by
  rw[set_cons_succ,set_append_right _ _ (by omega),show xs.length+m-xs.length=m by omega]
 rw[e];exact h.al.set hs hfs
theorem za.put(h:za w base X d k o r D N Rw xs ys){k':As}:za (w.setCell ⟨X,1,none⟩ k') base X d k' o r D N Rw xs ys:=by
 have hst:w.grownBy (w.setCell ⟨X,1,none⟩ k') (some X):=qa1 (p:=⟨X,1,none⟩) (qag w (some X)) (.inr rfl) _;have hn:qg w 3 (some X):=qg.blk h.x (by decide);have hn':qg w 24 (some X):=qg.blk h.x (by decide);exact⟨h.x.qC 1 _,h.dq.grown hst hn hn',h.dn.grown hst hn,h.ro.grown hst hn hn',h.al,h.dr⟩
theorem za.more{o':As}{N':List Int}(h:za w base X d k o r D N Rw xs ys)(hg:w.grownBy w' o.ownBlock)(ho:qf w' base o' N')(hb:o'.ownBlock=o.ownBlock∨∃b,o'.ownBlock=some b/\w.heap.size<=b) :
   w'.cell? ⟨X,2,none⟩=some o/\w'.frozen? ⟨X,2,none⟩=false/\za (w'.setCell ⟨X,2,none⟩ o') base X d k o' r D N' Rw xs ys:=by
 have hEc:qg w 29 o.ownBlock:=h.dn.jq (by decide);have hx:=h.x.grown hg (λe=>hEc _ e.symm _ h.x);have hst:w'.grownBy (w'.setCell ⟨X,2,none⟩ o') (some X):=qa1 (p:=⟨X,2,none⟩) (qag w' (some X)) (.inr rfl) _;have hn:qg w' 3 (some X):=qg.blk hx (by decide);have hn':qg w' 24 (some X):=qg.blk hx (by decide)
 have hdq:LX w' base d D xs:=by
  cases e:o.ownBlock with
  |none=>rw[e]at hg;exact h.dq.new hg
  |some b=>
   rw[e]at hg;obtain⟨cur,hB⟩:=h.dn.block e;exact h.dq.qQ hg hB (h.al.zV e).1
 have hro:LX w' base r Rw ys:=by
  cases e:o.ownBlock with
  |none=>rw[e]at hg;exact h.ro.new hg
  |some b=>
   rw[e]at hg;obtain⟨cur,hB⟩:=h.dn.block e;exact h.ro.qQ hg hB (h.al.zV e).2
 refine⟨hx.cell 2,hx.frozen 2,hx.qC 2 _,hdq.grown hst hn hn',ho.grown hst hn,hro.grown hst hn hn',?_,h.dr⟩;refine AO.2 ⟨λu hu g hg'=>?_,(AO.1 h.al).2⟩;rcases hb with e|⟨b,e,hbs⟩
 . rw[e]at hg';exact(AO.1 h.al).1 u hu g hg'
 . rw[e]at hg';injection hg' with hg';intro hu';have:=(h.lts u (mem_cons_of_mem _ hu) g hu').2;omega
end
theorem LX.at_{base:Nat}(h:LX w base (.slice (some ⟨g,0,none⟩) n cap) ll xs)(hk:k<ll.length):∃l u,ll[k]?=some l/\xs[k]?=some u/\w.cell? ⟨g,k,none⟩=some u/\qf w base u l:=by
 obtain⟨h1,h2⟩:=h;rcases h1.2 with ⟨e,hz⟩|⟨g',cap',cur,e,hb,hh,hn,hm,hcs,ht⟩
 . cases e
 . injection e with e1 e2 e3;injection e1 with e1;injection e1 with e1;subst e1;obtain⟨u,k1,k2⟩:=h2 k _ (AJ hk);refine⟨_,u,AJ hk,k1,?_,k2⟩;have hB:Blk w g 24 cur:=hh;rw[hB.cell];rw[<-ht,getElem?_take]at k1;split at k1
   . simpa using k1
   . cases k1
theorem LX.form{base:Nat}(h:LX w base v ll xs)(hn:ll.length=n)(h0:0<n):∃g cap,v=.slice (some ⟨g,0,none⟩) n cap/\n<=cap/\base<=g:=by
 subst hn;rcases h.1.2 with ⟨rfl,hz⟩|⟨g,cap,cur,rfl,hb,hh,hn,_,hcs,ht⟩
 . omega
 . exact⟨g,cap,rfl,hn,hb⟩
theorem LX.turn{base:Nat}(h:LX w base (.slice (some ⟨g,0,none⟩) n cap) ll xs)(hk:k<ll.length)(hu:xs[k]?=some u)(hg:w.grownBy w' u.ownBlock)(hap:Apart xs)(ho:qf w' base u' l')(hI:∃l,qf w base u l) :
   (∃u0,w'.cell? ⟨g,k,none⟩=some u0/\w'.frozen? ⟨g,k,none⟩=false)/\RL (w'.setCell ⟨g,k,none⟩ u') (.slice (some ⟨g,0,none⟩) n cap) (ll.set k l')/\w'.grownBy (w'.setCell ⟨g,k,none⟩ u') (some g)/\(∀E,E≠24->qg w' E (some g)):=by
 obtain⟨l0,hI⟩:=hI;have hNu:qg w 24 u.ownBlock:=hI.jq (by decide);have hcs:=qcb h.1 hg hNu
 have hn:n=ll.length:=by
  rcases h.1.2 with ⟨e,_⟩|⟨_,_,_,e,_⟩
  . cases e
  . injection e
 subst hn;have hst:w'.grownBy (w'.setCell ⟨g,k,none⟩ u') (some g):=qa1 (p:=⟨g,k,none⟩) (qag w' (some g)) (.inr rfl) _;have s1:=World.ownsRow.stored hcs k u';have qdV:∀E,E≠24->qg w' E (some g):=λE hE=>qg.own (v:=.slice (some ⟨g,0,none⟩) ll.length cap) hcs hE;have hne:=qdV 3 (by decide);have hxl:=h.len
 have hcell:∃u0,w'.cell? ⟨g,k,none⟩=some u0/\w'.frozen? ⟨g,k,none⟩=false:=by
  rcases hcs.2 with ⟨e0,hz⟩|⟨g',cap',cur,e0,hb,hh,hn,hm,hcs2,ht⟩
  . cases e0
  . injection e0 with e1 e2 e3;injection e1 with e1;injection e1 with e1;subst e1;have hB:Blk w' g 24 cur:=hh;exact⟨_,by rw[hB.cell];exact Array.getElem?_eq_getElem (by rw[hcs2];omega),hB.frozen _⟩
 refine⟨hcell,⟨xs.set k u',?_,λi x hi=>?_⟩,hst,qdV⟩
 . rw[AU];exact TS.jA s1.1
 . by_cases hik:i=k
   . subst hik;rw[AM hk]at hi;obtain rfl:l'=x:=by simpa using hi
     exact⟨u',by rw[AM (by omega)],ho.ri.grown hst hne⟩
   . rw[AK (λe=>hik e.symm)]at hi;obtain⟨y,k1,k2⟩:=h.2 i x hi;refine⟨y,by rw[AK (λe=>hik e.symm)];exact k1,?_⟩
     have hyu:y.ownBlock=none∨y.ownBlock≠u.ownBlock:=by
      cases hy:y.ownBlock with
      |none=>exact .inl rfl
      |some b=>
       right;intro e;rw[Apart.iff]at hap;rcases Bo hik with hlt|hlt
       . exact hap i k y u b hlt k1 hu hy e.symm
       . exact hap k i u y b hlt hu k1 e.symm hy
     exact((k2.qQ hg hyu).ri).grown hst hne
theorem qf.zl{base:Nat}(h:qf w base v l)(hg:w.grownBy w' u.ownBlock)(hne:∀b,v.ownBlock=some b->u.ownBlock≠some b):qf w' base v l:=by
 cases hv:v.ownBlock with
 |none=>exact h.qQ hg (.inl hv)
 |some b=>exact h.qQ hg (.inr (by rw[hv];exact λe=>hne b hv e.symm))
theorem LX.zl{base b0:Nat}(h:LX w base v ll xs)(hg:w.grownBy w' u.ownBlock)(hu:qf w b0 u l)(hne:∀b,u.ownBlock=some b->∀x∈xs,x.ownBlock≠some b):LX w' base v ll xs:=by
 cases e:u.ownBlock with
 |none=>rw[e]at hg;exact h.new hg
 |some b=>
  rw[e]at hg;obtain⟨cur,hB⟩:=hu.block e;exact h.qQ hg hB (hne b e)
theorem Apart.vV(h:Apart (o::(xs++ys)))(hu:u∈xs){b:Nat}(hb:u.ownBlock=some b):(o.ownBlock≠some b)/\∀y∈ys,y.ownBlock≠some b:=by
 obtain⟨h1,h2⟩:=AO.1 h;refine⟨λe=>h1 u (Bc _ hu) b e hb,λy hy=>(Bb.1 h2).2.2 u hu y hy b hb⟩
theorem qh1{o:Oper}{Q:Exit->Act->At->Prop}{u:Int}
   (s x:Ay) (hgd:o.guard=none) (ho:o.op=.call {callee:=.builtin .append,args:=#[s,x],argTypes:=#[24,24]})
   {base:Nat}   (hown:qf w base v l) (hn:l.length<=1000000000) (hbase:base<=w.heap.size)
   (hs:a.eval s=v)  (hx:a.eval x=.slice (some ⟨N,0,none⟩) 1 1) (hN:N=w.heap.size)
   (h:∀v' w',qf w' base v' (l++[u])->w.grownBy w' v.ownBlock->(v'.ownBlock=v.ownBlock∨∃b,v'.ownBlock=some b/\w.heap.size<=b)->wpList prog ops Q rest (a.put o.dst v') w') :
   wpList prog ops Q (o::rest) a (w.alloc (.cells #[.int .i64 u] 3)):=by
 subst hN
 exact qfu s x 24 (.int .i64 0) 1 8 underlying24 qii rfl (by decide) (by decide) hgd ho hown hn hbase rfl (by simp[oneCell']) hs hx
  λv' w' h1 h2 h3=>h v' w' (by unfold qf;simpa using h1) h2 (h3.imp id λe=>⟨_,e,by omega⟩)
theorem CV.xA{B:Nat}{k:As}(h:CV w (.agg #[d,k,o,r]) c)(hg:w.grownBy w' none)(hB:Blk w' B 29 #[d,k,o,r]):jv w' B d k o r c:=by
 have h':=h.new hg;obtain⟨d',k',o',r',e,q1,q2,q3,q4⟩:=h';injection e with e;injection e with e;injection e with e1 e;injection e with e2 e;injection e with e3 e;injection e with e4 e;subst e1 e2 e3 e4;exact⟨hB,q1,q2,q3,q4⟩
theorem q5z{a:Int}(h:qba nd a=true):nd.row.length<=1000:=by
 obtain⟨_,_,_,h4⟩:=qik h;by_cases hk:nd.kind=0
 . have:=qbq (h4 hk);omega
 . unfold qba at h;simp only[Ai]at h;have:=h.2;rw[if_neg hk]at this;simp only[decide_eq_true_eq]at this;omega
theorem Blk.past{t:TypeId}{cs:Array As}(h:Blk w g t cs)(hg:w.grownBy w' row)(hr:qg w t row):Blk w' g t cs:=h.grown hg (λe=>hr g e.symm _ h)
structure vP(w wx:At)(base X:Nat)(box:Array As)(d k o r:As)(D:List (List Int))(N:List Int)(Rw:List (List Int))(xs ys:List As):Prop where
 o:za wx base X d k o r D N Rw xs ys
 b:Blk wx w.heap.size 29 box
 res:Blk wx (w.heap.size+1) 29 #[.slice none 0 0,.slice none 0 0,.slice none 0 0,.slice none 0 0]
 g:w.grownBy wx none
theorem vP.new{wy:At}{base:Nat}{box:Array As}{k:As}{N:List Int}(M:vP w wx base X box d k o r D N Rw xs ys)(hg:wx.grownBy wy none):vP w wy base X box d k o r D N Rw xs ys:=
 ⟨M.o.new hg,M.b.grown hg (by simp),M.res.grown hg (by simp),qac M.g hg⟩
def q05(w:At)(c:qj)(e:Az)(w':At):Prop:=∃v,e=.returned v/\CV w' v c/\w.grownBy w' none
structure xc(qa:List Node)(c:qj)(k m:Nat):Prop where
 pv:qae qa=true
 k:k<c.qb.length
 m:m<qa.length
 cl:c.counts.length=qa.length
 cs:∀y∈c.counts,-1000<=y/\y<=1000
 rl:c.rows.length=qa.length
 d4:c.qb.length<=4
 dl:∀l∈c.qb,l.length<=1000
 rw:∀l∈c.rows,l.length<=1000
 dn:c.done.length<=1000
def qrr(qa:List Node)(c:qj)(k m:Nat)(nd:Node):qj:=
 {qb:=c.qb.set k (c.qb.getD k []++qbe qa c.counts m),counts:=qbc qa c.counts m,done:=c.done++[(m:Int)],rows:=c.rows.set m (q9 nd c.rows)}
theorem qxl(pv v:As)(qa:List Node)(c:qj)(k m:Nat)(nd:Node)(w:At)(hp:RN w pv qa)(h:CV w v c)(hd:xc qa c k m)(hx:qa[m]?=some nd) :
   Ax prog 127 #[pv,v,.int .i64 k,.int .i64 m] w (q05 w (qrr qa c k m nd)):=by
 obtain⟨A,n,cp,rfl,-,hn,-⟩:=hp.form';obtain⟨A1,n1,c1,A2,n2,c2,A3,n3,c3,A4,n4,c4,rfl,h1,h2,h3,h4⟩:=h.form;have hX:=h.box;have hn1:=h1.len;have hn4:=h4.len;have hk1:k<n1:=by have:=hd.k;omega
 have hm1:m<n:=by have:=hd.m;omega
 have hm4:m<n4:=by have:=hd.rl;have:=hd.m;omega
 have Hd:=Lib.hid hd;have Hx:=Lib.hid hx;have Hn:=Lib.hid hn;have Hn1:=Lib.hid hn1;have Hn4:=Lib.hid hn4;have hR0:=Blk.new (w.alloc (.cells #[.slice A1 n1 c1,.slice A2 n2 c2,.slice A3 n3 c3,.slice A4 n4 c4] 29)) 29 #[.slice none 0 0,.slice none 0 0,.slice none 0 0,.slice none 0 0];rw[AD]at hR0;have hX0:=hX.new (AB _ (.cells #[.slice none 0 0,.slice none 0 0,.slice none 0 0,.slice none 0 0] 29) none);have hgW:w.grownBy ((w.alloc (.cells #[.slice A1 n1 c1,.slice A2 n2 c2,.slice A3 n3 c3,.slice A4 n4 c4] 29)).alloc (.cells #[.slice none 0 0,.slice none 0 0,.slice none 0 0,.slice none 0 0] 29)) none:=qaq (qaq (qag w none) _) _;have Hcv:=Lib.hid h;clear hn hn1 hn4 hd hx h1 h2 h3 h4 h hX;go_enter func127,ntmps127;go_upto_region 1 with fail;generalize ((w.alloc (.cells #[.slice A1 n1 c1,.slice A2 n2 c2,.slice A3 n3 c3,.slice A4 n4 c4] 29)).alloc (.cells #[.slice none 0 0,.slice none 0 0,.slice none 0 0,.slice none 0 0] 29))=W at hR0 hX0 hgW |-;have ye:=hR0.lt;have yE:=hX0.b.lt;have d0:=hX0.d0;have d1:=hX0.d1;have d2:=hX0.d2;have d3:=hX0.d3;have hpW:=hp.new hgW;go_wp2_with fail;refine(qkr _ c W hX0.cv (by have:=Hd.out.d4;omega) (λl hl=>by have:=Hd.out.dl l hl;omega) (by have:=Hd.out.rl;have:=qam Hd.out.pv;omega) (λl hl=>by have:=Hd.out.rw l hl;omega) (by have:=Hd.out.cl;have:=qam Hd.out.pv;omega) (by have:=Hd.out.dn;omega)).mono ?_;rintro e w1 ⟨v1,rfl,⟨d,kv,o,r,xs,ys,rfl,q1,q2,q3,q4,q5,q6⟩,hg1⟩;have g1:=qac hgW hg1;have hX1:=hX0.b.grown hg1 (by simp);have hR1:=hR0.grown hg1 (by simp);have qdW:=hg1.size;have qhM:=hgW.size;obtain⟨gd,j7,rfl,hcd,hbd⟩:=q1.form Hn1.out.symm (by omega);obtain⟨gr,zM,rfl,hcr,hbr⟩:=q4.form Hn4.out.symm (by omega);obtain⟨Ak,nk,ck,rfl⟩:=q2.val;obtain⟨Ao,no,co,rfl⟩:=q3.ri.val;clear d0 d1 d2 d3 hX0 hR0 hgW hpW hg1 q2;go_upto_region 2 with fail;have hO:=za.lay (k:=.slice Ak nk ck) q1 q3 q4 q5 q6;have hgX:=AB w1 (.cells #[.slice (some ⟨gd,0,none⟩) n1 j7,.slice Ak nk ck,.slice Ao no co,.slice (some ⟨gr,0,none⟩) n4 zM] 29) none;generalize w1.alloc (.cells #[.slice (some ⟨gd,0,none⟩) n1 j7,.slice Ak nk ck,.slice Ao no co,.slice (some ⟨gr,0,none⟩) n4 zM] 29)=w2 at hO hgX |-;have hX2:=hX1.grown hgX (by simp);have hR2:=hR1.grown hgX (by simp);have g2:=qac g1 hgX;clear hX1 hR1 q1 q3 q4 q5 q6 g1 hgX;have hRX:w.heap.size+1<w1.heap.size:=by omega
 have hbW:w.heap.size<=W.heap.size:=qhM;generalize w1.heap.size=X at hO hRX qdW |-;generalize W.heap.size=base at hO hbd hbr hbW qdW ye yE;obtain⟨gp,ox,nd',fv,rv,rfl,hnd,e0,e1,e2,hf,hr⟩:=(hp.new g2).at_ hm1
 obtain rfl:nd=nd':=by
  have:=Hx.out;rw[hnd]at this;injection this with this;exact this.symm
 have xd:=qbb Hd.out.pv hnd;have hf2:=xd.2.1
 have Hin:Hid (nd.kind≠0->∀y∈nd.frm,0<=y/\y<c.rows.length):=by
  intro _ y hy;have:=qc5 xd.1 hy;have:=Hd.out.rl;have:=Hd.out.m;omega
 have hxr:nd.row.length<=1000:=q5z xd.1;have hrl:c.rows.length<=1000:=by have:=Hd.out.rl;have:=qam Hd.out.pv;omega
 obtain⟨Af,nf,cf,rfl⟩:=hf.val;obtain⟨Arv,nrv,crv,rfl⟩:=hr.val;have hDr:w2.grownBy w2.drew none:=qax (qag _ none);have hB2:=Hcv.out.xA g2 hX2;have cc3:=hB2.d3;have x3:=hO.x.cell 3;have hfD:=hf.new hDr;have hrD:=hr.new hDr;have qdX:=hB2.ro.new hDr;have hOD:=hO.new hDr;have hmR:m<c.rows.length:=by rw[<-Hn4.out];exact hm4
 have qhN:base<=w2.drew.heap.size:=by have:=(hO.dq.lt gd rfl);have:w2.drew.heap.size=w2.heap.size:=rfl;omega
 have qkN:(m:Int)<(n:Int):=by omega
 have qkO:(m:Int)<(n4:Int):=by omega
 clear xd hnd hf hr
 go_cut [] (λwx=>∃ys',vP w wx base X #[.slice A1 n1 c1,.slice A2 n2 c2,.slice A3 n3 c3,.slice A4 n4 c4] (.slice (some ⟨gd,0,none⟩) n1 j7) (.slice Ak nk ck) (.slice Ao no co) (.slice (some ⟨gr,0,none⟩) n4 zM) c.qb c.done (c.rows.set m (q9 nd c.rows)) xs ys')
 case first=>
  go_region_law (go_simp;go_at_call 165;refine(qte _ _ nd c.rows _ ⟨_,_,rfl,by exact hfD,by exact hrD⟩ (by exact qdX) hf2 Hin.out hrl hxr).mono ?_;rintro e w3 ⟨v3,rfl,ho3,hg3⟩;have hO3:=hOD.new hg3;have x33:=hO3.x.cell 3;obtain⟨⟨u0,cR,fR⟩,qbR,M3⟩:=hO3.setRow hmR (ho3.lower qhN) (λu hu g hg=>(hOD.lts u hu g hg).2) (λg hg=>(ho3.lt g hg).1);have hEc:qg w3 29 (some gr):=hO3.ro.jq (by decide);have g4:=qa2 (qac g2 (qac hDr hg3)) qbR (λg e=>by cases e;exact .inl (Bi hbW hbr));have b4:=(hX2.grown (qac hDr hg3) (by simp)).past qbR hEc;have r4:=(hR2.grown (qac hDr hg3) (by simp)).past qbR hEc;obtain⟨A5,n5,c5,rfl⟩:=ho3.ri.val)
  all_goals
   go_wp2_with fail;go_meet;exact⟨_,M3,b4,r4,g4⟩
 case rest=>
  obtain⟨ys',M⟩:=hcut;clear hO hOD hX2 hR2 g2 hB2 hfD hrD qdX x3 cc3 e0 e1 e2;have hdl:c.done.length<=1000:=Hd.out.dn;have x2:=M.o.x.cell 2;have qhO:base<=wc.heap.size:=by have:=(M.o.dq.lt gd rfl);omega
  have qdY:=M.o.dn;go_wp2_with (at_builtin;go_must (refine qh1 (.tmp 26) (.tmp 28) rfl rfl qdY (by omega) qhO rfl rfl rfl ?_));intro v5 w5 qE hg5 hb5;have xB:qg wc 29 (ownBlock (.slice Ao no co)):=M.o.dn.jq (by decide);obtain⟨x25,f25,O5⟩:=M.o.more hg5 qE hb5;have qdZ:=M.o.dn.gb M.g hg5 hbW;have b5:=(M.b.past hg5 xB);have r5:=(M.res.past hg5 xB);have hx5:=M.o.x.past hg5 xB;have j5:w5.grownBy (w5.setCell ⟨X,2,none⟩ v5) (some X):=qa1 (p:=⟨X,2,none⟩) (qag w5 (some X)) (.inr rfl) _;have g6:w.grownBy (w5.setCell ⟨X,2,none⟩ v5) none:=qa2 qdZ j5 (λg e=>by cases e;exact .inl (by omega));have b6:=b5.grown j5 (by simp;omega);have r6:=r5.grown j5 (by simp;omega);obtain⟨A5,n5,c5,rfl⟩:=qE.ri.val;clear qE hb5 xB qdZ b5 r5 hx5 qdY hg5 x2 M j5;go_upto_region 4 with fail;generalize w5.setCell ⟨X,2,none⟩ (.slice A5 n5 c5)=w6 at O5 g6 b6 r6 |-;have M6:vP w w6 base X _ _ _ _ _ _ _ _ _ _:=⟨O5,b6,r6,g6⟩;clear O5 x25 f25 b6 r6 g6;have d1:=M6.b.cell 1;have hcl:c.counts.length=qa.length:=Hd.out.cl;have hB6:=Hcv.out.xA M6.g M6.b;go_wp2_with fail;refine(qrl _ _ qa c.counts m w6 (hp.new M6.g) hB6.ct Hd.out.pv hcl Hd.out.cs).mono ?_;rintro e w7 ⟨cv,uv,rfl,qaD,qaE,hg7⟩;have hgu:∀u∈xs,∀g,u.ownBlock=some g->g<w6.heap.size:=λu hu g hg=>(M6.o.dq.lts u hu g hg).2;have M7:=M6.new hg7;obtain⟨Ac,nc,cc,rfl⟩:=qaD.ri.val;obtain⟨Au,nu,cu,rfl⟩:=qaE.ri.val;have qeA:w6.heap.size<=w7.heap.size:=hg7.size;generalize w6.heap.size=s6 at qaD qaE hgu qeA;clear d1 hB6 M6 hg7;have x1:=M7.o.x.cell 1;have y1:=M7.o.x.frozen 1;have zW:w7.grownBy (w7.setCell ⟨X,1,none⟩ (.slice Ac nc cc)) (some X):=qa1 (p:=⟨X,1,none⟩) (qag w7 (some X)) (.inr rfl) _;have O8:=M7.o.put (k':=.slice Ac nc cc);have hn8:qg w7 3 (some X):=qg.blk M7.o.x (by decide);have qaF:qf _ _ _ _:=qaD.grown zW hn8;have qbS:qf _ _ _ _:=qaE.grown zW hn8;have b8:=M7.b.grown zW (by simp;omega);have r8:=M7.res.grown zW (by simp;omega);have g8:w.grownBy (w7.setCell ⟨X,1,none⟩ (.slice Ac nc cc)) none:=qa2 M7.g zW (λg e=>by cases e;exact .inl (by omega));go_upto_region 6 with fail;clear x1 y1 hn8 M7 qaD qaE;have qhP:s6<=(w7.setCell ⟨X,1,none⟩ (.slice Ac nc cc)).heap.size:=Bi qeA zW.size;clear zW;generalize w7.setCell ⟨X,1,none⟩ (.slice Ac nc cc)=w8 at O8 qaF qbS b8 r8 g8 qhP |-;have hkD:k<c.qb.length:=Hd.out.k;have hal:=O8.al;have qbT:Apart xs:=(AO.1 hal).2 |> Apart.left;obtain⟨l0,u,hl0,hu,hcu,hou⟩:=O8.dq.at_ hkD;have qeB:l0.length<=1000:=Hd.out.dl l0 (AI hl0)
  have hnr:(qbe qa c.counts m).length<=1000:=by
   have h1:=B9 (λi=>has qa i (m:Int)&&decide (c.counts.getD i 0=1)) (range qa.length);have h2:=qam Hd.out.pv;unfold qbe;rw[AV];rw[AS]at h1;omega
  have qhQ:Hid (c.qb.getD k []=l0):=by show _=_;rw[AH,hl0];rfl
  obtain⟨Ae,ne,ce,rfl⟩:=hou.ri.val;have x0:=O8.x.cell 0;have qkP:(k:Int)<(n1:Int):=by omega
  have hD8:w8.grownBy w8.drew none:=qax (qag _ none);have vv:=hou.new hD8;have qeC:=qbS.ri.new hD8;have hlen:l0.length+(qbe qa c.counts m).length<=1000000000:=by omega
  have hb8:base<=w8.drew.heap.size:=by have:w8.drew.heap.size=w8.heap.size:=rfl;have:=(O8.dq.lt gd rfl);omega
  have HO8:=Lib.hid O8
  go_cut [] (λwx=>Blk wx X 29 #[.slice (some ⟨gd,0,none⟩) n1 j7,.slice Ac nc cc,.slice A5 n5 c5,.slice (some ⟨gr,0,none⟩) n4 zM]/\Blk wx (w.heap.size+1) 29 #[.slice none 0 0,.slice none 0 0,.slice none 0 0,.slice none 0 0]/\w.grownBy wx none /\
   RL wx (.slice (some ⟨gd,0,none⟩) n1 j7) (c.qb.set k (l0++qbe qa c.counts m))/\RI wx (.slice Ac nc cc) (qbc qa c.counts m)/\RI wx (.slice A5 n5 c5) (c.done++[(m:Int)])/\RL wx (.slice (some ⟨gr,0,none⟩) n4 zM) (c.rows.set m (q9 nd c.rows)))
  case first=>
   go_region_law (refine qdq (w:=w8.drew) (base:=base) (v:=.slice Ae ne ce) (xv:=.slice Au nu cu) (l0:=l0) (l:=qbe qa c.counts m) (.tmp 48) (.tmp 49) rfl rfl vv qeC hlen hb8 rfl rfl ?_;intro v9 w9 kG hg9;have hEc:qg w8.drew 29 (ownBlock (.slice Ae ne ce)):=vv.jq (by decide);have hx9:=(O8.x.grown hD8 (by simp)).past hg9 hEc;have x90:=hx9.cell 0;obtain⟨⟨u0,cR,fR⟩,hRL,vQ,hN9⟩:=(O8.dq.new hD8).turn hkD hu hg9 qbT kG ⟨_,vv⟩;obtain⟨A9,n9,c9,rfl⟩:=kG.ri.val)
   all_goals
    go_wp2_with fail;go_meet;have hum:=AI hu;have hE9:=hN9 29 (by decide);have hI9:=hN9 3 (by decide);have g9:=qa2 (qac g8 hD8) hg9 (λg e=>.inl (Bi hbW (vv.lt g e).1));have c9:=(qaF.new hD8).zl hg9 (λb hb e=>by have:=(qaF.lt b hb).1;have:=hgu _ hum b e;omega);have n9':=(O8.dn.new hD8).zl hg9 (λb hb e=>(hal.vV hum e).1 hb);have r9:=(O8.ro.new hD8).zl hg9 vv (λb hb=>(hal.vV hum hb).2)
    exact⟨hx9.past vQ hE9,((r8.grown hD8 (by simp)).past hg9 hEc).past vQ hE9,qa2 g9 vQ (λg e=>by cases e;exact .inl (Bi hbW hbd)),hRL,c9.ri.grown vQ hI9,n9'.ri.grown vQ hI9,
     (r9.far vQ hI9 (λe=>O8.dr gd rfl e)).rl⟩
  case rest=>
   obtain⟨hx,hr,hg,hdq,hct,hdn,hro⟩:=hcut;have x0:=hx.cell 0;have x1:=hx.cell 1;have x2:=hx.cell 2;have x3:=hx.cell 3;have y0:=hr.cell 0;have y1:=hr.cell 1;have y2:=hr.cell 2;have y3:=hr.cell 3;have f0:=hr.frozen 0;have f1:=hr.frozen 1;have f2:=hr.frozen 2;have f3:=hr.frozen 3;have hst:=qdv wc (w.heap.size+1) (.slice (some ⟨gd,0,none⟩) n1 j7) (.slice Ac nc cc) (.slice A5 n5 c5) (.slice (some ⟨gr,0,none⟩) n4 zM);have hne:qg wc 3 (some (w.heap.size+1)):=qg.blk hr (by decide);have vm:qg wc 24 (some (w.heap.size+1)):=qg.blk hr (by decide)
   have hfin:q05 w (qrr qa c k m nd) (.returned (.agg #[.slice (some ⟨gd,0,none⟩) n1 j7,.slice Ac nc cc,.slice A5 n5 c5,.slice (some ⟨gr,0,none⟩) n4 zM])) ((((wc.setCell ⟨w.heap.size+1,0,none⟩ (.slice (some ⟨gd,0,none⟩) n1 j7)).setCell ⟨w.heap.size+1,1,none⟩ (.slice Ac nc cc)).setCell ⟨w.heap.size+1,2,none⟩ (.slice A5 n5 c5)).setCell ⟨w.heap.size+1,3,none⟩ (.slice (some ⟨gr,0,none⟩) n4 zM)):=by
    refine⟨_,rfl,⟨_,_,_,_,rfl,?_,hct.grown hst hne,hdn.grown hst hne,hro.grown hst hne vm⟩,qa2 hg hst (λg e=>by cases e;exact .inl (Bn _))⟩;have:=hdq.grown hst hne vm;unfold qrr;rw[qhQ.out];exact this
   have qbG:=Lib.hid hfin;clear hfin hx hr hdq hct hdn hro hst hne vm HO8 O8 qaF qbS b8 r8 vv qeC hou;go_wp2_with fail;refine Ap (v:=.agg #[.slice (some ⟨gd,0,none⟩) n1 j7,.slice Ac nc cc,.slice A5 n5 c5,.slice (some ⟨gr,0,none⟩) n4 zM]) (by simp[results,results127,go_sem,y0,y1,y2,y3]) rfl ?_;exact qbG.out
theorem qm6(h:qv qa c):∀l∈c.rows,l.length<=1000:=by
 intro l hl;obtain⟨i,hi,rfl⟩:=Be hl;have hp:i<qa.length:=by rw[<-h.rl];exact hi
 have:=h.rows i hp;rw[AJ hi]at this;injection this with this;rw[this];unfold qei;split
 . have:=qbq (qx7 h.pv hp).1;omega
 . simp
theorem qdi(h:qv qa c):∀l∈c.qb,l.length<=10:=by
 intro l hl;obtain⟨i,hi,rfl⟩:=Be hl;exact(qbu.1 (h.xI (AJ hi))).1
theorem q0z(h:qv qa c){r:List Int}(hk:k<c.qb.length)(hm:m<qa.length)(hr:r.length<=10):xc qa {c with qb:=c.qb.set j r} k m:=by
 have hp:=qam h.pv;refine⟨h.pv,by show k<(c.qb.set j r).length;rw[AU];exact hk,hm,by show c.counts.length=_;rw[h.counts,qes],?_,h.rl,by show (c.qb.set j r).length<=4;rw[AU];exact h.d4,?_,(show ∀l∈c.rows,l.length<=1000 from qm6 h),?_⟩
 . show ∀y∈c.counts,_;rw[h.counts];exact q04 h.pv _
 . show ∀l∈c.qb.set j r,_;intro l hl;rcases AX hl with hl|rfl
   . have:=qdi h l hl;omega
   . omega
 . have:=qke h;show c.done.length<=1000;omega
theorem qxa(h:qv qa c){L:List (List Int)}(hx:qa[m]?=some nd)(hr:(m:Int)∈qan qa c.done):qrr qa {c with qb:=L} k m nd=qfp qa {c with qb:=L} k (m:Int):=by
 unfold qrr qfp;rw[show ({c with qb:=L}:qj).rows=c.rows from rfl,q1k h hx hr];rfl
theorem za.xC{base:Nat}{kv:As}{N C:List Int}(h:za w base X (.slice (some ⟨gd,0,none⟩) n cap) kv o r D N Rw xs ys)(hk:k<D.length)(hf:qf w base f l)(hC:RI w kv C) :
   (∃u,w.cell? ⟨gd,k,none⟩=some u/\w.frozen? ⟨gd,k,none⟩=false)/\w.grownBy (w.setCell ⟨gd,k,none⟩ f) (some gd)/\qg w 29 (some gd)/\base<=gd /\
   Blk (w.setCell ⟨gd,k,none⟩ f) X 29 #[.slice (some ⟨gd,0,none⟩) n cap,kv,o,r]/\CV (w.setCell ⟨gd,k,none⟩ f) (.agg #[.slice (some ⟨gd,0,none⟩) n cap,kv,o,r]) ⟨D.set k l,C,N,Rw⟩:=by
 have hst:w.grownBy (w.setCell ⟨gd,k,none⟩ f) (some gd):=qa1 (p:=⟨gd,k,none⟩) (qag w (some gd)) (.inr rfl) _;have hI:qg w 3 (some gd):=h.dq.jq (by decide);have hE:qg w 29 (some gd):=h.dq.jq (by decide);exact⟨h.dq.cell hk,hst,hE,(h.dq.lt gd rfl).1,h.x.past hst hE,_,_,_,_,rfl,(h.dq.qC hk hf).rl,hC.grown hst hI,(h.dn.grown hst hI).ri,(h.ro.far hst hI (h.dr gd rfl)).rl⟩
theorem q5t{d:List Int}(h:qcv d=some (l,x)):x∈d/\l.length<=d.length:=by
 unfold qcv at h;split at h
 . cases hg:d.getLast? with
   |none=>rw[hg]at h;cases h
   |some y=>
    rw[hg]at h;simp only[Option.map_some,Bu,Prod.mk.injEq]at h;obtain⟨rfl,rfl⟩:=h;exact⟨mem_of_getLast? hg,by simp⟩
 . cases h
theorem qxb{d:List Int}(h:qbd d=some (l,x)):x∈d/\l.length<=d.length:=by
 unfold qbd at h;split at h
 . cases d with
   |nil=>simp at h
   |cons y r=>
    simp only[head?_cons,Option.map_some,drop_succ_cons,drop_zero,Bu,Prod.mk.injEq]at h;obtain⟨rfl,rfl⟩:=h;exact⟨by simp,by simp⟩
 . cases h
theorem qjq(H:qv qa c){d:List Int}(hd:c.qb[k]?=some d)(hx:x∈d):∃(m:Nat) (nd:Node),x=m/\qa[m]?=some nd/\(m:Int)∈qan qa c.done/\m<qa.length:=by
 have hxr:x∈qan qa c.done:=(H.dq.mem_iff).1 (mem_flatten.2 ⟨d,AI hd,hx⟩);obtain⟨m,hm,rfl,_⟩:=(qc9 H.pv).1 hxr;exact⟨m,qa[m],rfl,AJ hm,hxr,hm⟩
def qZ(w:At)(r:Option qj)(e:Az)(w':At):Prop:=match r with
 |some c=>∃v,e=.returned (.tuple #[v,.bool true])/\CV w' v c/\w.grownBy w' none
 |none=>∃v,e=.returned (.tuple #[v,.bool false])/\CV w' v qdj/\w.grownBy w' none
theorem qe7(hg:w.grownBy wx none):qZ w none (.returned (.tuple #[.agg #[.slice none 0 0,.slice none 0 0,.slice none 0 0,.slice none 0 0],.bool false])) ((((wx.setCell ⟨w.heap.size+1,0,none⟩ (.slice none 0 0)).setCell ⟨w.heap.size+1,1,none⟩ (.slice none 0 0)).setCell ⟨w.heap.size+1,2,none⟩ (.slice none 0 0)).setCell ⟨w.heap.size+1,3,none⟩ (.slice none 0 0)):=
 ⟨_,rfl,CV.zero _,qa2 hg (qdv wx (w.heap.size+1) (.slice none 0 0) (.slice none 0 0) (.slice none 0 0) (.slice none 0 0)) (λg e=>by cases e;exact .inl (Bn _))⟩
theorem q00{k:As}(hg:w.grownBy wx none)(hR:Blk wx (w.heap.size+1) 29 #[.slice none 0 0,.slice none 0 0,.slice none 0 0,.slice none 0 0])(hc:CV wx (.agg #[d,k,o,r]) c):qZ w (some c) (.returned (.tuple #[.agg #[d,k,o,r],.bool true])) ((((wx.setCell ⟨w.heap.size+1,0,none⟩ d).setCell ⟨w.heap.size+1,1,none⟩ k).setCell ⟨w.heap.size+1,2,none⟩ o).setCell ⟨w.heap.size+1,3,none⟩ r):=
 have hst:=qdv wx (w.heap.size+1) d k o r
 ⟨_,rfl,hc.grown hst (qg.blk hR (by decide)) (qg.blk hR (by decide)),qa2 hg hst (λg e=>by cases e;exact .inl (Bn _))⟩
structure j9(w W:At)(d k o r:As)(c:qj):Prop where
 b:jv W w.heap.size d k o r c
 res:Blk W (w.heap.size+1) 29 #[.slice none 0 0,.slice none 0 0,.slice none 0 0,.slice none 0 0]
 g:w.grownBy W none
theorem j9.start{k:As}(h:CV w (.agg #[d,k,o,r]) c):j9 w ((w.alloc (.cells #[d,k,o,r] 29)).alloc (.cells #[.slice none 0 0,.slice none 0 0,.slice none 0 0,.slice none 0 0] 29)) d k o r c:=by
 have hR0:=Blk.new (w.alloc (.cells #[d,k,o,r] 29)) 29 #[.slice none 0 0,.slice none 0 0,.slice none 0 0,.slice none 0 0];rw[AD]at hR0;exact⟨h.box.new (AB _ _ none),hR0,qaq (qaq (qag w none) _) _⟩
theorem j9.new{W':At}{k:As}(B:j9 w W d k o r c)(hg:W.grownBy W' none):j9 w W' d k o r c:=⟨B.b.new hg,B.res.grown hg (by simp),qac B.g hg⟩
theorem qra{w:Int}(h:qaw qa c=false):qcp qa c w=none:=by unfold qcp;rw[h];rfl
theorem qrb{w:Int}(h:qa8 c w=false):qcp qa c w=none:=by unfold qcp;rw[h,Ah];rfl
theorem qtf(hv:qaw qa c=true)(hk:k<c.qb.length){d:List Int}(hd:c.qb[k]?=some d):qcp qa c (k:Int)=(qcv d).map λx=>qfp qa {c with qb:=c.qb.set k x.1} k x.2:=by
 have H:=qb4.1 hv;have hw:qa8 c (k:Int)=true:=qb6.2 ⟨AG k,by omega⟩;unfold qcp qcv;rw[hv,hw,H.xI hd,Aj,if_pos rfl,if_pos rfl,AE,AH,hd];simp only[Option.getD_some];cases d.getLast?<;>rfl
theorem qrc(pv v:As)(qa:List Node)(c:qj)(wk:Int)(w:At)(hp:RN w pv qa)(h:CV w v c)(hpl:qa.length<=1000000000)(hfit:c.qb.length<=1048576/\∀d∈c.qb,d.length<=1048576) :
   Ax prog 78 #[pv,v,.int .i64 wk] w (qZ w (qcp qa c wk)):=by
 obtain⟨A,n,cp,rfl,-,hn,-⟩:=hp.form';obtain⟨A1,n1,c1,A2,n2,c2,A3,n3,c3,A4,n4,c4,rfl,h1,-,-,-⟩:=h.form;have B0:=j9.start h;have hn1:=h1.len;have qeD:n1<=1048576:=by omega
 have Hn1:=Lib.hid hn1;have qF:=Lib.hid hfit.2;clear hn hn1 h1 h hfit;by_cases hv:qaw qa c=true
 . have Hv:=Lib.hid hv;by_cases hin:0<=wk/\wk<=(n1:Int)-1
   . have Hin:Hid ((decide (0<=wk)&&decide (wk<=(n1:Int)-1))=true):=by show _=_;simp[hin.1,hin.2]
     obtain⟨k,rfl⟩:=AF hin.1;have hk:k<n1:=by omega
     clear hv hin;go_enter func78,ntmps78;go_upto_region 1 with fail;generalize ((w.alloc (.cells #[.slice A1 n1 c1,.slice A2 n2 c2,.slice A3 n3 c3,.slice A4 n4 c4] 29)).alloc (.cells #[.slice none 0 0,.slice none 0 0,.slice none 0 0,.slice none 0 0] 29))=W at B0 |-;have d0:=B0.b.d0;have d1:=B0.b.d1;have d2:=B0.b.d2;have d3:=B0.b.d3;go_wp2_with fail;refine(qbt _ _ qa c W (hp.new B0.g) B0.b.cv hpl qF.out Hv.out).mono ?_;rintro e w1 ⟨rfl,hg1⟩;have B1:=B0.new hg1;clear B0 hg1 d0 d1 d2 d3;have d0:=B1.b.d0;have d1:=B1.b.d1;have d2:=B1.b.d2;have d3:=B1.b.d3;have hkD:k<c.qb.length:=by rw[<-Hn1.out];exact hk
     obtain⟨g,o,d,Bd,md,ed,rfl,hd,q0,hrd,-,-,-⟩:=B1.b.dq.at_ hk;have hki:(k:Int)<(n1:Int):=by omega
     have Heq:=Lib.hid (qtf Hv.out hkD hd);have Hd:=Lib.hid hd;clear hd;go_wp2_with fail;refine(qde _ _ _ _ Hin.out).mono ?_;rintro e w2 ⟨rfl,rfl⟩;go_wp2_with fail;refine(qo2 _ d w1 hrd).mono ?_;cases jW:qcv d with
     |none=>
      rintro e w2 ⟨u,y,rfl,hu,hg2⟩;have B2:=B1.new hg2;have Hr:Hid (qcp qa c (k:Int)=none):=by show _=_;rw[Heq.out,jW];rfl
      have y0:=B2.res.cell 0;have y1:=B2.res.cell 1;have y2:=B2.res.cell 2;have y3:=B2.res.cell 3;have f0:=B2.res.frozen 0;have f1:=B2.res.frozen 1;have f2:=B2.res.frozen 2;have f3:=B2.res.frozen 3;have hfin:=Lib.hid (qe7 B2.g);clear jW B1 B2 d0 d1 d2 d3 hg2 q0 hrd;obtain⟨Au,nu,cu,rfl⟩:=hu.val;go_wp2_with fail;refine Ap (v:=.tuple #[.agg #[.slice none 0 0,.slice none 0 0,.slice none 0 0,.slice none 0 0],.bool false]) (by simp[results,results78,go_sem,y0,y1,y2,y3]) rfl ?_;rw[Hr.out];exact hfin.out
     |some lx=>
      obtain⟨l,x⟩:=lx;rintro e w2 ⟨u,rfl,hu,hg2⟩;have H:=qb4.1 Hv.out;obtain⟨hxd,hll⟩:=q5t jW;have jH:l.length<=10:=Bi hll (qdi H d (AI Hd.out));obtain⟨m,nd,rfl,hnd,vR,hmp⟩:=qjq H Hd.out hxd;have HH:=Lib.hid H;have Hr:Hid (qcp qa c (k:Int)=some (qrr qa {c with qb:=c.qb.set k l} k m nd)):=by show _=_;rw[Heq.out,jW,qxa H hnd vR];rfl
      have Hnd:=Lib.hid hnd;have hDo:Hid (xc qa {c with qb:=c.qb.set k l} k m):=q0z H hkD hmp jH;have B2:=B1.new hg2;have hs1:w.heap.size<=w1.heap.size:=B1.g.size;have hu':=hu.lower hs1;obtain⟨Au,nu,cu,rfl⟩:=hu.ri.val;clear jW H hxd hll jH hnd vR hmp hu B1 hg2 d0 d1 d2 d3 q0 hrd;have d0:=B2.b.d0;have d1:=B2.b.d1;have d2:=B2.b.d2;have d3:=B2.b.d3;go_wp2_with fail;refine(qkr _ c w2 B2.b.cv (by have:=HH.out.d4;omega) (λl hl=>by have:=qdi HH.out l hl;omega) (by have:=HH.out.rl;have:=qam HH.out.pv;omega) (λl hl=>by have:=qm6 HH.out l hl;omega) (by have:=HH.out.counts;rw[this,qes];have:=qam HH.out.pv;omega) (by have:=qke HH.out;have:=qam HH.out.pv;omega)).mono ?_;rintro e w3 ⟨v3,rfl,⟨dv,kv,ov,rv,xs,ys,rfl,q1,q2,q3,q4,q5,q6⟩,hg3⟩;have B3:=B2.new hg3;have hu3:=hu'.new hg3;have hs2:w.heap.size<=w2.heap.size:=B2.g.size;obtain⟨gd,j7,rfl,hcd,hbd⟩:=q1.form Hn1.out.symm (by omega);obtain⟨Ar,nr,cr,rfl⟩:=q4.rl.val;obtain⟨Ak,nk,ck,rfl⟩:=q2.val;obtain⟨Ao,no,co,rfl⟩:=q3.ri.val;clear d0 d1 d2 d3 B2 hu' hg3;go_upto_region 7 with fail;have hO:=za.lay (k:=.slice Ak nk ck) (q1.low hs2) (q3.lower hs2) (q4.low hs2) q5 q6;have hgX:=AB w3 (.cells #[.slice (some ⟨gd,0,none⟩) n1 j7,.slice Ak nk ck,.slice Ao no co,.slice Ar nr cr] 29) none;have q2':=q2.new hgX;have hu4:=hu3.new hgX;have B4:=B3.new hgX;have hRX:w.heap.size+1<w3.heap.size:=B3.res.lt;generalize w3.alloc (.cells #[.slice (some ⟨gd,0,none⟩) n1 j7,.slice Ak nk ck,.slice Ao no co,.slice Ar nr cr] 29)=w4 at hO hgX q2' hu4 B4 |-;generalize w3.heap.size=X at hO hRX |-;obtain⟨⟨u0,cR,fR⟩,j5,hE5,yf,hx5,zC⟩:=hO.xC hkD hu4 q2';have x0:=hO.x.cell 0;have yg:=B4.res.past j5 hE5;have g5:=qa2 B4.g j5 (λg e=>by cases e;exact .inl yf);clear q1 q2 q3 q4 q5 q6 hgX B3 hu3;go_upto_region 8 with fail;clear cR fR x0 j5 hE5 q2' hu4 B4 hO;generalize w4.setCell ⟨gd,k,none⟩ (.slice Au nu cu)=w5 at hx5 zC yg g5 |-;have x0:=hx5.cell 0;have x1:=hx5.cell 1;have x2:=hx5.cell 2;have x3:=hx5.cell 3;go_wp2_with fail;refine(qxl _ _ qa {c with qb:=c.qb.set k l} k m nd w5 (hp.new g5) zC hDo.out Hnd.out).mono ?_;rintro e w6 ⟨v6,rfl,yh,hg6⟩;have zk:=yg.grown hg6 (by simp);have g6:=qac g5 hg6;obtain⟨B1',m1',e1',B2',m2',e2',B3',m3',e3',B4',m4',e4',rfl,-,-,-,-⟩:=yh.form;have hfin:=Lib.hid (q00 g6 zk yh);have y0:=zk.cell 0;have y1:=zk.cell 1;have y2:=zk.cell 2;have y3:=zk.cell 3;have f0:=zk.frozen 0;have f1:=zk.frozen 1;have f2:=zk.frozen 2;have f3:=zk.frozen 3;clear x0 x1 x2 x3 hx5 zC yg g5 hg6 yh zk g6;go_wp2_with fail;refine Ap (v:=.tuple #[.agg #[.slice B1' m1' e1',.slice B2' m2' e2',.slice B3' m3' e3',.slice B4' m4' e4'],.bool true]) (by simp[results,results78,go_sem,y0,y1,y2,y3]) rfl ?_;rw[Hr.out];exact hfin.out
   . have Hin:Hid ((decide (0<=wk) && decide (wk<=(n1:Int) - 1))=false):=by
      show _=_;rw[Ab,decide_eq_false_iff_not,decide_eq_false_iff_not];omega
     have Hr:Hid (qcp qa c wk=none):=by
      show _=_;refine qrb ?_;unfold qa8;rw[<-Hn1.out,Ab,decide_eq_false_iff_not,decide_eq_false_iff_not];omega
     clear hv hin;go_enter func78,ntmps78;go_upto_region 1 with fail;generalize ((w.alloc (.cells #[.slice A1 n1 c1,.slice A2 n2 c2,.slice A3 n3 c3,.slice A4 n4 c4] 29)).alloc (.cells #[.slice none 0 0,.slice none 0 0,.slice none 0 0,.slice none 0 0] 29))=W at B0 |-;have d0:=B0.b.d0;have d1:=B0.b.d1;have d2:=B0.b.d2;have d3:=B0.b.d3;go_wp2_with fail;refine(qbt _ _ qa c W (hp.new B0.g) B0.b.cv hpl qF.out Hv.out).mono ?_;rintro e w1 ⟨rfl,hg1⟩;have B1:=B0.new hg1;clear B0 hg1 d0 d1 d2 d3;have d0:=B1.b.d0;have y0:=B1.res.cell 0;have y1:=B1.res.cell 1;have y2:=B1.res.cell 2;have y3:=B1.res.cell 3;have f0:=B1.res.frozen 0;have f1:=B1.res.frozen 1;have f2:=B1.res.frozen 2;have f3:=B1.res.frozen 3;have hfin:=Lib.hid (qe7 B1.g);clear B1;go_wp2_with fail;refine(qde _ _ _ _ Hin.out).mono ?_;rintro e w2 ⟨rfl,rfl⟩;go_wp2_with fail;refine Ap (v:=.tuple #[.agg #[.slice none 0 0,.slice none 0 0,.slice none 0 0,.slice none 0 0],.bool false]) (by simp[results,results78,go_sem,y0,y1,y2,y3]) rfl ?_;rw[Hr.out];exact hfin.out
 . have hv':qaw qa c=false:=by simpa using hv
   have Hv:=Lib.hid hv';have Hr:Hid (qcp qa c wk=none):=qra hv';clear hv hv';go_enter func78,ntmps78;go_upto_region 1 with fail;generalize ((w.alloc (.cells #[.slice A1 n1 c1,.slice A2 n2 c2,.slice A3 n3 c3,.slice A4 n4 c4] 29)).alloc (.cells #[.slice none 0 0,.slice none 0 0,.slice none 0 0,.slice none 0 0] 29))=W at B0 |-;have d0:=B0.b.d0;have d1:=B0.b.d1;have d2:=B0.b.d2;have d3:=B0.b.d3;go_wp2_with fail;refine(qbt _ _ qa c W (hp.new B0.g) B0.b.cv hpl qF.out Hv.out).mono ?_;rintro e w1 ⟨rfl,hg1⟩;have B1:=B0.new hg1;clear B0 hg1 d0 d1 d2 d3;have y0:=B1.res.cell 0;have y1:=B1.res.cell 1;have y2:=B1.res.cell 2;have y3:=B1.res.cell 3;have f0:=B1.res.frozen 0;have f1:=B1.res.frozen 1;have f2:=B1.res.frozen 2;have f3:=B1.res.frozen 3;have hfin:=Lib.hid (qe7 B1.g);clear B1;go_wp2_with fail;refine Ap (v:=.tuple #[.agg #[.slice none 0 0,.slice none 0 0,.slice none 0 0,.slice none 0 0],.bool false]) (by simp[results,results78,go_sem,y0,y1,y2,y3]) rfl ?_;rw[Hr.out];exact hfin.out
theorem ql4{w f:Int}(h:qaw qa c=false):qay qa c w f=none:=by unfold qay;rw[h];rfl
theorem ql5{w f:Int}(h:qa8 c w=false):qay qa c w f=none:=by unfold qay;rw[h,Ah];rfl
theorem qj6{w f:Int}(h:qa8 c f=false):qay qa c w f=none:=by unfold qay;rw[h,Ah];rfl
theorem qj7{w:Int}:qay qa c w w=none:=by unfold qay;simp
theorem qj8{f:Int}{d:List Int}(hd:c.qb[k]?=some d)(h:d≠[]):qay qa c (k:Int) f=none:=by
 unfold qay;rw[AE,AH,hd];simp[h]
theorem qn8{f:Nat}(hv:qaw qa c=true)(hk:k<c.qb.length)(hf:f<c.qb.length)(hne:k≠f)(he:c.qb[k]?=some []){d:List Int}(hd:c.qb[f]?=some d):qay qa c (k:Int) (f:Int)=(qbd d).map λx=>qfp qa {c with qb:=c.qb.set f x.1} k x.2:=by
 have H:=qb4.1 hv;have hw:qa8 c (k:Int)=true:=qb6.2 ⟨AG k,by omega⟩;have hw2:qa8 c (f:Int)=true:=qb6.2 ⟨AG f,by omega⟩;have hne':¬(k:Int)=(f:Int):=by omega
 unfold qay qbd;rw[hv,hw,hw2,H.xI hd,AE,AE,AH,he,AH,hd,decide_eq_false hne'];simp only[Option.getD_some,decide_true,Am,Bool.and_self,if_true];cases d<;>rfl
theorem qm7(pv v:As)(qa:List Node)(c:qj)(wk fk:Int)(w:At)(hp:RN w pv qa)(h:CV w v c)(hpl:qa.length<=1000000000)(hfit:c.qb.length<=1048576/\∀d∈c.qb,d.length<=1048576) :
   Ax prog 79 #[pv,v,.int .i64 wk,.int .i64 fk] w (qZ w (qay qa c wk fk)):=by
 obtain⟨A,n,cp,rfl,-,hn,-⟩:=hp.form';obtain⟨A1,n1,c1,A2,n2,c2,A3,n3,c3,A4,n4,c4,rfl,h1,-,-,-⟩:=h.form;have B0:=j9.start h;have hn1:=h1.len;have qeD:n1<=1048576:=by omega
 have Hn1:=Lib.hid hn1;have qF:=Lib.hid hfit.2;clear hn hn1 h1 h hfit;by_cases hv:qaw qa c=true
 . have Hv:=Lib.hid hv;by_cases hin:0<=wk/\wk<=(n1:Int)-1
   . have Hin:Hid ((decide (0<=wk)&&decide (wk<=(n1:Int)-1))=true):=by show _=_;simp[hin.1,hin.2]
     by_cases hif:0<=fk/\fk<=(n1:Int)-1
     . have Hif:Hid ((decide (0<=fk)&&decide (fk<=(n1:Int)-1))=true):=by show _=_;simp[hif.1,hif.2]
       by_cases hsame:wk=fk
       . have hb:(wk==fk)=true:=by simpa using hsame
         have Hr:Hid (qay qa c wk fk=none):=by show _=_;rw[hsame];exact qj7
         clear hv hin hif hsame;go_enter func79,ntmps79;go_upto_region 1 with fail;generalize ((w.alloc (.cells #[.slice A1 n1 c1,.slice A2 n2 c2,.slice A3 n3 c3,.slice A4 n4 c4] 29)).alloc (.cells #[.slice none 0 0,.slice none 0 0,.slice none 0 0,.slice none 0 0] 29))=W at B0 |-;have d0:=B0.b.d0;have d1:=B0.b.d1;have d2:=B0.b.d2;have d3:=B0.b.d3;go_wp2_with fail;refine(qbt _ _ qa c W (hp.new B0.g) B0.b.cv hpl qF.out Hv.out).mono ?_;rintro e w1 ⟨rfl,hg1⟩;have B1:=B0.new hg1;clear B0 hg1 d0 d1 d2 d3;have d0:=B1.b.d0;have y0:=B1.res.cell 0;have y1:=B1.res.cell 1;have y2:=B1.res.cell 2;have y3:=B1.res.cell 3;have f0:=B1.res.frozen 0;have f1:=B1.res.frozen 1;have f2:=B1.res.frozen 2;have f3:=B1.res.frozen 3;have hfin:=Lib.hid (qe7 B1.g);clear B1;go_wp2_with fail;refine(qde _ _ _ _ Hin.out).mono ?_;rintro e w2 ⟨rfl,rfl⟩;go_wp2_with fail;refine(qde _ _ _ _ Hif.out).mono ?_;rintro e w2 ⟨rfl,rfl⟩;go_wp2_with fail;refine Ap (v:=.tuple #[.agg #[.slice none 0 0,.slice none 0 0,.slice none 0 0,.slice none 0 0],.bool false]) (by simp[results,results79,go_sem,y0,y1,y2,y3]) rfl ?_;rw[Hr.out];exact hfin.out
       . have hb:(wk==fk)=false:=by simpa using hsame
         obtain⟨k,rfl⟩:=AF hin.1;obtain⟨f,rfl⟩:=AF hif.1;have hk:k<n1:=by omega
         have hf:f<n1:=by omega
         have hkf:k≠f:=λe=>hsame (by rw[e]);clear hv hin hif hsame;go_enter func79,ntmps79;go_upto_region 1 with fail;generalize ((w.alloc (.cells #[.slice A1 n1 c1,.slice A2 n2 c2,.slice A3 n3 c3,.slice A4 n4 c4] 29)).alloc (.cells #[.slice none 0 0,.slice none 0 0,.slice none 0 0,.slice none 0 0] 29))=W at B0 |-;have d0:=B0.b.d0;have d1:=B0.b.d1;have d2:=B0.b.d2;have d3:=B0.b.d3;go_wp2_with fail;refine(qbt _ _ qa c W (hp.new B0.g) B0.b.cv hpl qF.out Hv.out).mono ?_;rintro e w1 ⟨rfl,hg1⟩;have B1:=B0.new hg1;clear B0 hg1 d0 d1 d2 d3;have d0:=B1.b.d0;have d1:=B1.b.d1;have d2:=B1.b.d2;have d3:=B1.b.d3;have hkD:k<c.qb.length:=by rw[<-Hn1.out];exact hk
         have hfD:f<c.qb.length:=by rw[<-Hn1.out];exact hf
         obtain⟨g,o,dw,Bw,mw,ew,rfl,hdw,qw,hrw,hmw,-,-⟩:=B1.b.dq.at_ hk;obtain⟨g2,o2,d,Bd,md,ed,e2,hd,q0,hrd,-,-,-⟩:=B1.b.dq.at_ hf;injection e2 with e2;injection e2 with e2 e3;subst e2 e3;have hki:(k:Int)<(n1:Int):=by omega
         have hfi:(f:Int)<(n1:Int):=by omega
         by_cases hm0:mw=0
         . have hgt:¬((0:Int)<(mw:Int)):=by omega
           have qhR:dw=[]:=AP (by omega);subst qhR;have Heq:=Lib.hid (qn8 Hv.out hkD hfD hkf hdw hd);have Hd:=Lib.hid hd;clear hd hdw hmw hm0;go_wp2_with fail;refine(qde _ _ _ _ Hin.out).mono ?_;rintro e w2 ⟨rfl,rfl⟩;go_wp2_with fail;refine(qde _ _ _ _ Hif.out).mono ?_;rintro e w2 ⟨rfl,rfl⟩;go_wp2_with fail;refine(qmb _ d w1 hrd).mono ?_;cases jW:qbd d with
           |none=>
            rintro e w2 ⟨u,y,rfl,hu,hg2⟩;have B2:=B1.new hg2;have Hr:Hid (qay qa c (k:Int) (f:Int)=none):=by show _=_;rw[Heq.out,jW];rfl
            have y0:=B2.res.cell 0;have y1:=B2.res.cell 1;have y2:=B2.res.cell 2;have y3:=B2.res.cell 3;have f0:=B2.res.frozen 0;have f1:=B2.res.frozen 1;have f2:=B2.res.frozen 2;have f3:=B2.res.frozen 3;have hfin:=Lib.hid (qe7 B2.g);clear jW B1 B2 d0 d1 d2 d3 hg2 q0 hrd qw hrw;obtain⟨Au,nu,cu,rfl⟩:=hu.val;go_wp2_with fail;refine Ap (v:=.tuple #[.agg #[.slice none 0 0,.slice none 0 0,.slice none 0 0,.slice none 0 0],.bool false]) (by simp[results,results79,go_sem,y0,y1,y2,y3]) rfl ?_;rw[Hr.out];exact hfin.out
           |some lx=>
            obtain⟨l,x⟩:=lx;rintro e w2 ⟨u,rfl,hu,hg2⟩;have H:=qb4.1 Hv.out;obtain⟨hxd,hll⟩:=qxb jW;have jH:l.length<=10:=Bi hll (qdi H d (AI Hd.out));obtain⟨m,nd,rfl,hnd,vR,hmp⟩:=qjq H Hd.out hxd;have HH:=Lib.hid H;have Hr:Hid (qay qa c (k:Int) (f:Int)=some (qrr qa {c with qb:=c.qb.set f l} k m nd)):=by show _=_;rw[Heq.out,jW,qxa H hnd vR];rfl
            have Hnd:=Lib.hid hnd;have hDo:Hid (xc qa {c with qb:=c.qb.set f l} k m):=q0z H hkD hmp jH;have B2:=B1.new hg2;have hs1:w.heap.size<=w1.heap.size:=B1.g.size;have hu':=hu.lower hs1;obtain⟨Au,nu,cu,rfl⟩:=hu.ri.val;clear jW H hxd hll jH hnd vR hmp hu B1 hg2 d0 d1 d2 d3 q0 hrd qw hrw;have d0:=B2.b.d0;have d1:=B2.b.d1;have d2:=B2.b.d2;have d3:=B2.b.d3;go_wp2_with fail;refine(qkr _ c w2 B2.b.cv (by have:=HH.out.d4;omega) (λl hl=>by have:=qdi HH.out l hl;omega) (by have:=HH.out.rl;have:=qam HH.out.pv;omega) (λl hl=>by have:=qm6 HH.out l hl;omega) (by have:=HH.out.counts;rw[this,qes];have:=qam HH.out.pv;omega) (by have:=qke HH.out;have:=qam HH.out.pv;omega)).mono ?_;rintro e w3 ⟨v3,rfl,⟨dv,kv,ov,rv,xs,ys,rfl,q1,q2,q3,q4,q5,q6⟩,hg3⟩;have B3:=B2.new hg3;have hu3:=hu'.new hg3;have hs2:w.heap.size<=w2.heap.size:=B2.g.size;obtain⟨gd,j7,rfl,hcd,hbd⟩:=q1.form Hn1.out.symm (by omega);obtain⟨Ar,nr,cr,rfl⟩:=q4.rl.val;obtain⟨Ak,nk,ck,rfl⟩:=q2.val;obtain⟨Ao,no,co,rfl⟩:=q3.ri.val;clear d0 d1 d2 d3 B2 hu' hg3;go_upto_region 7 with fail;have hO:=za.lay (k:=.slice Ak nk ck) (q1.low hs2) (q3.lower hs2) (q4.low hs2) q5 q6;have hgX:=AB w3 (.cells #[.slice (some ⟨gd,0,none⟩) n1 j7,.slice Ak nk ck,.slice Ao no co,.slice Ar nr cr] 29) none;have q2':=q2.new hgX;have hu4:=hu3.new hgX;have B4:=B3.new hgX;have hRX:w.heap.size+1<w3.heap.size:=B3.res.lt;generalize w3.alloc (.cells #[.slice (some ⟨gd,0,none⟩) n1 j7,.slice Ak nk ck,.slice Ao no co,.slice Ar nr cr] 29)=w4 at hO hgX q2' hu4 B4 |-;generalize w3.heap.size=X at hO hRX |-;obtain⟨⟨u0,cR,fR⟩,j5,hE5,yf,hx5,zC⟩:=hO.xC hfD hu4 q2';have x0:=hO.x.cell 0;have yg:=B4.res.past j5 hE5;have g5:=qa2 B4.g j5 (λg e=>by cases e;exact .inl yf);clear q1 q2 q3 q4 q5 q6 hgX B3 hu3;go_upto_region 8 with fail;clear cR fR x0 j5 hE5 q2' hu4 B4 hO;generalize w4.setCell ⟨gd,f,none⟩ (.slice Au nu cu)=w5 at hx5 zC yg g5 |-;have x0:=hx5.cell 0;have x1:=hx5.cell 1;have x2:=hx5.cell 2;have x3:=hx5.cell 3;go_wp2_with fail;refine(qxl _ _ qa {c with qb:=c.qb.set f l} k m nd w5 (hp.new g5) zC hDo.out Hnd.out).mono ?_;rintro e w6 ⟨v6,rfl,yh,hg6⟩;have zk:=yg.grown hg6 (by simp);have g6:=qac g5 hg6;obtain⟨B1',m1',e1',B2',m2',e2',B3',m3',e3',B4',m4',e4',rfl,-,-,-,-⟩:=yh.form;have hfin:=Lib.hid (q00 g6 zk yh);have y0:=zk.cell 0;have y1:=zk.cell 1;have y2:=zk.cell 2;have y3:=zk.cell 3;have f0:=zk.frozen 0;have f1:=zk.frozen 1;have f2:=zk.frozen 2;have f3:=zk.frozen 3;clear x0 x1 x2 x3 hx5 zC yg g5 hg6 yh zk g6;go_wp2_with fail;refine Ap (v:=.tuple #[.agg #[.slice B1' m1' e1',.slice B2' m2' e2',.slice B3' m3' e3',.slice B4' m4' e4'],.bool true]) (by simp[results,results79,go_sem,y0,y1,y2,y3]) rfl ?_;rw[Hr.out];exact hfin.out
         . have hgt:(0:Int)<(mw:Int):=by omega
           have Hr:Hid (qay qa c (k:Int) (f:Int)=none):=qj8 hdw (λe=>hm0 (by rw[hmw,e];rfl));have y0:=B1.res.cell 0;have y1:=B1.res.cell 1;have y2:=B1.res.cell 2;have y3:=B1.res.cell 3;have f0:=B1.res.frozen 0;have f1:=B1.res.frozen 1;have f2:=B1.res.frozen 2;have f3:=B1.res.frozen 3;have hfin:=Lib.hid (qe7 B1.g);clear B1 hd hdw hmw hm0 hrw hrd q0;go_wp2_with fail;refine(qde _ _ _ _ Hin.out).mono ?_;rintro e w2 ⟨rfl,rfl⟩;go_wp2_with fail;refine(qde _ _ _ _ Hif.out).mono ?_;rintro e w2 ⟨rfl,rfl⟩;go_wp2_with fail;refine Ap (v:=.tuple #[.agg #[.slice none 0 0,.slice none 0 0,.slice none 0 0,.slice none 0 0],.bool false]) (by simp[results,results79,go_sem,y0,y1,y2,y3]) rfl ?_;rw[Hr.out];exact hfin.out
     . have Hif:Hid ((decide (0<=fk) && decide (fk<=(n1:Int) - 1))=false):=by
        show _=_;rw[Ab,decide_eq_false_iff_not,decide_eq_false_iff_not];omega
       have Hr:Hid (qay qa c wk fk=none):=by
        show _=_;refine qj6 ?_;unfold qa8;rw[<-Hn1.out,Ab,decide_eq_false_iff_not,decide_eq_false_iff_not];omega
       clear hv hin hif;go_enter func79,ntmps79;go_upto_region 1 with fail;generalize ((w.alloc (.cells #[.slice A1 n1 c1,.slice A2 n2 c2,.slice A3 n3 c3,.slice A4 n4 c4] 29)).alloc (.cells #[.slice none 0 0,.slice none 0 0,.slice none 0 0,.slice none 0 0] 29))=W at B0 |-;have d0:=B0.b.d0;have d1:=B0.b.d1;have d2:=B0.b.d2;have d3:=B0.b.d3;go_wp2_with fail;refine(qbt _ _ qa c W (hp.new B0.g) B0.b.cv hpl qF.out Hv.out).mono ?_;rintro e w1 ⟨rfl,hg1⟩;have B1:=B0.new hg1;clear B0 hg1 d0 d1 d2 d3;have d0:=B1.b.d0;have y0:=B1.res.cell 0;have y1:=B1.res.cell 1;have y2:=B1.res.cell 2;have y3:=B1.res.cell 3;have f0:=B1.res.frozen 0;have f1:=B1.res.frozen 1;have f2:=B1.res.frozen 2;have f3:=B1.res.frozen 3;have hfin:=Lib.hid (qe7 B1.g);clear B1;go_wp2_with fail;refine(qde _ _ _ _ Hin.out).mono ?_;rintro e w2 ⟨rfl,rfl⟩;go_wp2_with fail;refine(qde _ _ _ _ Hif.out).mono ?_;rintro e w2 ⟨rfl,rfl⟩;go_wp2_with fail;refine Ap (v:=.tuple #[.agg #[.slice none 0 0,.slice none 0 0,.slice none 0 0,.slice none 0 0],.bool false]) (by simp[results,results79,go_sem,y0,y1,y2,y3]) rfl ?_;rw[Hr.out];exact hfin.out
   . have Hin:Hid ((decide (0<=wk) && decide (wk<=(n1:Int) - 1))=false):=by
      show _=_;rw[Ab,decide_eq_false_iff_not,decide_eq_false_iff_not];omega
     have Hr:Hid (qay qa c wk fk=none):=by
      show _=_;refine ql5 ?_;unfold qa8;rw[<-Hn1.out,Ab,decide_eq_false_iff_not,decide_eq_false_iff_not];omega
     clear hv hin;go_enter func79,ntmps79;go_upto_region 1 with fail;generalize ((w.alloc (.cells #[.slice A1 n1 c1,.slice A2 n2 c2,.slice A3 n3 c3,.slice A4 n4 c4] 29)).alloc (.cells #[.slice none 0 0,.slice none 0 0,.slice none 0 0,.slice none 0 0] 29))=W at B0 |-;have d0:=B0.b.d0;have d1:=B0.b.d1;have d2:=B0.b.d2;have d3:=B0.b.d3;go_wp2_with fail;refine(qbt _ _ qa c W (hp.new B0.g) B0.b.cv hpl qF.out Hv.out).mono ?_;rintro e w1 ⟨rfl,hg1⟩;have B1:=B0.new hg1;clear B0 hg1 d0 d1 d2 d3;have d0:=B1.b.d0;have y0:=B1.res.cell 0;have y1:=B1.res.cell 1;have y2:=B1.res.cell 2;have y3:=B1.res.cell 3;have f0:=B1.res.frozen 0;have f1:=B1.res.frozen 1;have f2:=B1.res.frozen 2;have f3:=B1.res.frozen 3;have hfin:=Lib.hid (qe7 B1.g);clear B1;go_wp2_with fail;refine(qde _ _ _ _ Hin.out).mono ?_;rintro e w2 ⟨rfl,rfl⟩;go_wp2_with fail;refine Ap (v:=.tuple #[.agg #[.slice none 0 0,.slice none 0 0,.slice none 0 0,.slice none 0 0],.bool false]) (by simp[results,results79,go_sem,y0,y1,y2,y3]) rfl ?_;rw[Hr.out];exact hfin.out
 . have hv':qaw qa c=false:=by simpa using hv
   have Hv:=Lib.hid hv';have Hr:Hid (qay qa c wk fk=none):=ql4 hv';clear hv hv';go_enter func79,ntmps79;go_upto_region 1 with fail;generalize ((w.alloc (.cells #[.slice A1 n1 c1,.slice A2 n2 c2,.slice A3 n3 c3,.slice A4 n4 c4] 29)).alloc (.cells #[.slice none 0 0,.slice none 0 0,.slice none 0 0,.slice none 0 0] 29))=W at B0 |-;have d0:=B0.b.d0;have d1:=B0.b.d1;have d2:=B0.b.d2;have d3:=B0.b.d3;go_wp2_with fail;refine(qbt _ _ qa c W (hp.new B0.g) B0.b.cv hpl qF.out Hv.out).mono ?_;rintro e w1 ⟨rfl,hg1⟩;have B1:=B0.new hg1;clear B0 hg1 d0 d1 d2 d3;have y0:=B1.res.cell 0;have y1:=B1.res.cell 1;have y2:=B1.res.cell 2;have y3:=B1.res.cell 3;have f0:=B1.res.frozen 0;have f1:=B1.res.frozen 1;have f2:=B1.res.frozen 2;have f3:=B1.res.frozen 3;have hfin:=Lib.hid (qe7 B1.g);clear B1;go_wp2_with fail;refine Ap (v:=.tuple #[.agg #[.slice none 0 0,.slice none 0 0,.slice none 0 0,.slice none 0 0],.bool false]) (by simp[results,results79,go_sem,y0,y1,y2,y3]) rfl ?_;rw[Hr.out];exact hfin.out
theorem qn9{w:Int}(h:qaw qa c=false):qb5 qa c w=-1:=by unfold qb5;rw[h];rfl
theorem qoa{w:Int}(h:qa8 c w=false):qb5 qa c w=-1:=by unfold qb5;rw[h,Ah];rfl
theorem ql6(h:∀s,s<c.qb.length->c.qb.getD ((k+s)%c.qb.length) []=[]):qb5 qa c (k:Int)=-1:=by
 unfold qb5;split
 . rw[AE,find?_map]
   have:(range c.qb.length).find? ((λi=>!decide (c.qb.getD i []=[]))∘λs=>(k+s)%c.qb.length)=none:=by
    rw[find?_eq_none];intro s hs;have e:=h s (AW.1 hs);rw[AH]at e;simp[e]
   rw[this];rfl
 . rfl
theorem qj9(hv:qaw qa c=true)(hk:k<c.qb.length)(hi:i<c.qb.length)(h:∀s,s<i->c.qb.getD ((k+s)%c.qb.length) []=[])(hne:c.qb.getD ((k+i)%c.qb.length) []≠[]) :
   qb5 qa c (k:Int)=(((k+i)%c.qb.length:Nat):Int):=by
 have hw:qa8 c (k:Int)=true:=qb6.2 ⟨AG k,by omega⟩;unfold qb5;rw[hv,hw,Aj,if_pos rfl,AE,find?_map]
 have:(range c.qb.length).find? ((λi=>!decide (c.qb.getD i []=[]))∘λs=>(k+s)%c.qb.length)=some i:=by
  rw[find?_range_eq_some];refine⟨by simpa using hne,AW.2 hi,λs hs=>?_⟩;have e:=h s hs;rw[AH]at e;simp[e]
 rw[this];rfl
theorem qzm{w:Int}:-1<=qb5 qa c w:=by
 unfold qb5;split
 . split<;>omega
 . omega
def qtg(c:qj)(k i:Nat):Prop:=∀s,s<i->c.qb.getD ((k+s)%c.qb.length) []=[]
theorem qrd(h:qtg c k i)(he:c.qb.getD ((k+i)%c.qb.length) []=[]):qtg c k (i+1):=by
 intro s hs;by_cases e:s=i
 . subst e;exact he
 . exact h s (by omega)
theorem qoy(pv v:As)(qa:List Node)(c:qj)(wk:Int)(w:At)(hp:RN w pv qa)(h:CV w v c)(hpl:qa.length<=1000000000)(hfit:c.qb.length<=1048576/\∀d∈c.qb,d.length<=1048576) :
   Ax prog 77 #[pv,v,.int .i64 wk] w λe w'=>e=.returned (.int .i64 (qb5 qa c wk))/\w.grownBy w' none:=by
 obtain⟨A,n,cp,rfl,-,hn,-⟩:=hp.form';obtain⟨A1,n1,c1,A2,n2,c2,A3,n3,c3,A4,n4,c4,rfl,h1,-,-,-⟩:=h.form;have hX:=h.box;have hgW:=AB w (.cells #[.slice A1 n1 c1,.slice A2 n2 c2,.slice A3 n3 c3,.slice A4 n4 c4] 29) none;have hn1:=h1.len;have qeD:n1<=1048576:=by omega
 have Hn1:=Lib.hid hn1;have qF:=Lib.hid hfit.2;have d0:=hX.d0;have d1:=hX.d1;have d2:=hX.d2;have d3:=hX.d3;have hpW:=hp.new hgW;clear hn hn1 h1 h hfit;by_cases hv:qaw qa c=true
 . have Hv:=Lib.hid hv;by_cases hin:0<=wk/\wk<=(n1:Int)-1
   . have Hin:Hid ((decide (0<=wk)&&decide (wk<=(n1:Int)-1))=true):=by show _=_;simp[hin.1,hin.2]
     obtain⟨k,rfl⟩:=AF hin.1;have hk:k<n1:=by omega
     clear hv hin;go_enter func77,ntmps77;go_wp2_with fail;refine(qbt _ _ qa c _ hpW hX.cv hpl qF.out Hv.out).mono ?_;rintro e w1 ⟨rfl,hg1⟩;have hX1:=hX.new hg1;have g1:=qac hgW hg1;clear hX hgW hpW hg1 d0 d1 d2 d3;have d0:=hX1.d0;go_wp2_with fail;refine(qde _ _ _ _ Hin.out).mono ?_;rintro e w2 ⟨rfl,rfl⟩;go_wp2_with fail
     go_loopg [7] (n1+1) (λmm i wr=>∃q:Nat,q<=n1/\mm=n1+1-q/\i=.int .i64 q/\Hid (qtg c k q)/\wr=w1)
     case atStart=>exact⟨0,Bm _,rfl,rfl,λs hs=>absurd hs (Bq _),rfl⟩
     case round=>
      obtain⟨q,hq,rfl,rfl,Hq,rfl⟩:=hrel;by_cases hlt:q<n1
      . obtain⟨t,ht⟩:∃t,t=(k+q)%n1:=⟨_,rfl⟩;have htn:t<n1:=by rw[ht];exact Bs _ (by omega)
        have hmod:((k:Int)+(q:Int)).tmod (n1:Int)=(t:Int):=by rw[ht];rfl
        have hn0:¬((n1:Int)=0):=by omega
        obtain⟨g,o,d,B,m,e,rfl,hd,q0,hrd,hm,-,-⟩:=hX1.dq.at_ htn;have hti:(t:Int)<(n1:Int):=by omega
        have hget:c.qb.getD ((k+q)%c.qb.length) []=d:=by
         rw[<-Hn1.out,<-ht,AH,hd];rfl
        by_cases hm0:m=0
        . have hd0:d=[]:=AP (by omega);have Hs:Hid (qtg c k (q+1)):=qrd Hq.out (hget.trans hd0);have hgt:¬((0:Int)<(m:Int)):=by omega
          clear hd hget hd0 hm0 hm ht;go_wp2;go_roundg (n1+1-(q+1))
          case measure=>omega
          case rel=>exact⟨q+1,by omega,rfl,by go_num,Hs,rfl⟩
        . have Hr:Hid (qb5 qa c (k:Int)=(t:Int)):=by
           show _=_;rw[qj9 Hv.out (by rw[<-Hn1.out];exact hk) (by rw[<-Hn1.out];exact hlt) Hq.out (by rw[hget];intro e;rw[e]at hm;exact hm0 hm),ht,<-Hn1.out]
          have hgt:(0:Int)<(m:Int):=by omega
          clear hd hget hm0 hm ht;go_wp2;go_ret;exact⟨by rw[Hr.out];rfl,g1⟩
      . obtain rfl:n1=q:=by omega
        have Hr:Hid (qb5 qa c (k:Int)=-1):=ql6 (by have:=Hq.out;rw[Hn1.out]at this;exact this);go_wp2;go_ret;exact⟨by rw[Hr.out];rfl,g1⟩
   . have Hin:Hid ((decide (0<=wk) && decide (wk<=(n1:Int) - 1))=false):=by
      show _=_;rw[Ab,decide_eq_false_iff_not,decide_eq_false_iff_not];omega
     have Hr:Hid (qb5 qa c wk=-1):=by
      show _=_;refine qoa ?_;unfold qa8;rw[<-Hn1.out,Ab,decide_eq_false_iff_not,decide_eq_false_iff_not];omega
     clear hv hin;go_enter func77,ntmps77;go_wp2_with fail;refine(qbt _ _ qa c _ hpW hX.cv hpl qF.out Hv.out).mono ?_;rintro e w1 ⟨rfl,hg1⟩;have hX1:=hX.new hg1;have g1:=qac hgW hg1;clear hX hgW hpW hg1 d0 d1 d2 d3;have d0:=hX1.d0;go_wp2_with fail;refine(qde _ _ _ _ Hin.out).mono ?_;rintro e w2 ⟨rfl,rfl⟩;go_wp2;go_ret;exact⟨by rw[Hr.out];rfl,g1⟩
 . have hv':qaw qa c=false:=by simpa using hv
   have Hv:=Lib.hid hv';have Hr:Hid (qb5 qa c wk=-1):=qn9 hv';clear hv hv';go_enter func77,ntmps77;go_wp2_with fail;refine(qbt _ _ qa c _ hpW hX.cv hpl qF.out Hv.out).mono ?_;rintro e w1 ⟨rfl,hg1⟩;go_wp2;go_ret;exact⟨by rw[Hr.out];rfl,qac hgW hg1⟩
theorem qre{c:Option qj}{k:As}(hg:w.grownBy wx none)(hR:Blk wx (w.heap.size+1) 29 #[.slice none 0 0,.slice none 0 0,.slice none 0 0,.slice none 0 0])(hb:b=c.isSome)(hc:CV wx (.agg #[d,k,o,r]) (c.getD qdj)):qZ w c (.returned (.tuple #[.agg #[d,k,o,r],.bool b])) ((((wx.setCell ⟨w.heap.size+1,0,none⟩ d).setCell ⟨w.heap.size+1,1,none⟩ k).setCell ⟨w.heap.size+1,2,none⟩ o).setCell ⟨w.heap.size+1,3,none⟩ r):=by
 have hst:=qdv wx (w.heap.size+1) d k o r;have h2:=hc.grown hst (qg.blk hR (by decide)) (qg.blk hR (by decide));have h3:w.grownBy _ none:=qa2 hg hst (λg e=>by cases e;exact .inl (Bn _));subst hb;cases c with
 |none=>exact⟨_,rfl,h2,h3⟩
 |some c=>exact⟨_,rfl,h2,h3⟩
theorem qZ.open_{c:Option qj}{e:Az}(h:qZ w c e w'):∃v,e=.returned (.tuple #[v,.bool c.isSome])/\CV w' v (c.getD qdj)/\w.grownBy w' none:=by
 cases c with
 |none=>exact h
 |some c=>exact h
theorem qoz(pv v:As)(qa:List Node)(c:qj)(wk:Int)(w:At)(hp:RN w pv qa)(h:CV w v c)(hpl:qa.length<=1000000000)(hfit:c.qb.length<=1048576/\∀d∈c.qb,d.length<=1048576) :
   Ax prog 45 #[pv,v,.int .i64 wk] w (qZ w (qbl qa c wk)):=by
 obtain⟨A,n,cp,rfl,-,hn,-⟩:=hp.form';obtain⟨A1,n1,c1,A2,n2,c2,A3,n3,c3,A4,n4,c4,rfl,-,-,-,-⟩:=h.form;have B0:=j9.start h;have qF:=Lib.hid hfit;clear hn h hfit;go_enter func45,ntmps45;go_upto_region 1 with fail;generalize ((w.alloc (.cells #[.slice A1 n1 c1,.slice A2 n2 c2,.slice A3 n3 c3,.slice A4 n4 c4] 29)).alloc (.cells #[.slice none 0 0,.slice none 0 0,.slice none 0 0,.slice none 0 0] 29))=W at B0 |-;have d0:=B0.b.d0;have d1:=B0.b.d1;have d2:=B0.b.d2;have d3:=B0.b.d3;go_wp2_with fail;refine(qoy _ _ qa c wk W (hp.new B0.g) B0.b.cv hpl qF.out).mono ?_;rintro e w1 ⟨rfl,hg1⟩;have B1:=B0.new hg1;clear B0 hg1 d0 d1 d2 d3;have hge:=qzm (qa:=qa) (c:=c) (w:=wk);obtain⟨f,hf⟩:∃f,f=qb5 qa c wk:=⟨_,rfl⟩;rw[<-hf]at hge |-;have Hf:=Lib.hid hf;clear hf;by_cases h1:f=-1
 . have Hr:Hid (qbl qa c wk=none):=by show _=_;unfold qbl;rw[<-Hf.out,if_pos h1]
   have hlt:f<0:=by omega
   have y0:=B1.res.cell 0;have y1:=B1.res.cell 1;have y2:=B1.res.cell 2;have y3:=B1.res.cell 3;have f0:=B1.res.frozen 0;have f1:=B1.res.frozen 1;have f2:=B1.res.frozen 2;have f3:=B1.res.frozen 3;have hfin:=Lib.hid (qe7 B1.g);clear B1 h1 hge;go_wp2_with fail;refine Ap (v:=.tuple #[.agg #[.slice none 0 0,.slice none 0 0,.slice none 0 0,.slice none 0 0],.bool false]) (by simp[results,results45,go_sem,y0,y1,y2,y3]) rfl ?_;rw[Hr.out];exact hfin.out
 . have hlt:¬f<0:=by omega
   have d0:=B1.b.d0;have d1:=B1.b.d1;have d2:=B1.b.d2;have d3:=B1.b.d3;by_cases h2:f=wk
   . have hb:(f==wk)=true:=by simpa using h2
     have Hr:Hid (qbl qa c wk=qcp qa c wk):=by show _=_;unfold qbl;rw[<-Hf.out,if_neg h1,if_pos h2]
     clear h1 h2 hge;go_wp2_with fail;refine(qrc _ _ qa c wk w1 (hp.new B1.g) B1.b.cv hpl qF.out).mono ?_;rintro e w2 hout;obtain⟨v2,rfl,zN,hg2⟩:=hout.open_;have B2:=B1.new hg2;obtain⟨B1',m1',e1',B2',m2',e2',B3',m3',e3',B4',m4',e4',rfl,-,-,-,-⟩:=zN.form;generalize hb2:(qcp qa c wk).isSome=b2;have hfin:=Lib.hid (qre B2.g B2.res hb2.symm zN);have y0:=B2.res.cell 0;have y1:=B2.res.cell 1;have y2:=B2.res.cell 2;have y3:=B2.res.cell 3;have f0:=B2.res.frozen 0;have f1:=B2.res.frozen 1;have f2:=B2.res.frozen 2;have f3:=B2.res.frozen 3;clear d0 d1 d2 d3 B1 B2 hg2 zN hout hb2;go_wp2_with fail;refine Ap (v:=.tuple #[.agg #[.slice B1' m1' e1',.slice B2' m2' e2',.slice B3' m3' e3',.slice B4' m4' e4'],.bool b2]) (by simp[results,results45,go_sem,y0,y1,y2,y3]) rfl ?_;rw[Hr.out];exact hfin.out
   . have hb:(f==wk)=false:=by simpa using h2
     have Hr:Hid (qbl qa c wk=qay qa c wk f):=by show _=_;unfold qbl;rw[<-Hf.out,if_neg h1,if_neg h2]
     clear h1 h2 hge;go_wp2_with fail;refine(qm7 _ _ qa c wk f w1 (hp.new B1.g) B1.b.cv hpl qF.out).mono ?_;rintro e w2 hout;obtain⟨v2,rfl,zN,hg2⟩:=hout.open_;have B2:=B1.new hg2;obtain⟨B1',m1',e1',B2',m2',e2',B3',m3',e3',B4',m4',e4',rfl,-,-,-,-⟩:=zN.form;generalize hb2:(qay qa c wk f).isSome=b2;have hfin:=Lib.hid (qre B2.g B2.res hb2.symm zN);have y0:=B2.res.cell 0;have y1:=B2.res.cell 1;have y2:=B2.res.cell 2;have y3:=B2.res.cell 3;have f0:=B2.res.frozen 0;have f1:=B2.res.frozen 1;have f2:=B2.res.frozen 2;have f3:=B2.res.frozen 3;clear d0 d1 d2 d3 B1 B2 hg2 zN hout hb2;go_wp2_with fail;refine Ap (v:=.tuple #[.agg #[.slice B1' m1' e1',.slice B2' m2' e2',.slice B3' m3' e3',.slice B4' m4' e4'],.bool b2]) (by simp[results,results45,go_sem,y0,y1,y2,y3]) rfl ?_;rw[Hr.out];exact hfin.out
def ql7(cs:List Int)(k:Nat):List Int:=((range k).filter λi=>decide (cs.getD i 0=0)).map λi:Nat=>(i:Int)
def jI(cs:List Int):List Int:=ql7 cs cs.length
theorem qkn{cs:List Int}(h:cs[k]?=some x):ql7 cs (k+1)=ql7 cs k++if x=0 then [(k:Int)]else []:=by
 unfold ql7;rw[range_succ,filter_append,map_append];have e:cs.getD k 0=x:=by rw[AH,h];rfl
 by_cases hx:x=0
 . simp only[Bh,filter_nil,e,hx,decide_true,if_true,map_cons,Bf]
 . simp only[Bh,filter_nil,e,hx,decide_false,Bool.false_eq_true,if_false,Bf]
theorem qth(cs:List Int)(k:Nat):(ql7 cs k).length<=k:=by
 unfold ql7;rw[AV];have:=B9 (λi=>decide (cs.getD i 0=0)) (range k)
 rwa [AS]at this
theorem qob(hv:qae qa=true):jI (qa5 qa)=qan qa []:=by
 have key:∀k,k<=qa.length->ql7 (qa5 qa) k=qca qa [] k:=by
  intro k
  induction k with
  |zero=>intro _;rfl
  |succ k ih=>
   intro hk;have hx:qa[k]?=some qa[k]:=AJ (by omega)
   have hc:(qa5 qa)[k]?=some ((qbw qa k).length:Int):=by
    unfold qa5;rw[getElem?_map,getElem?_range (by omega)];rfl
   rw[qkn hc,qep [] hx,ih (by omega)]
   have hz:(((qbw qa k).length:Int)=0)↔qdc [] (qa[k],k)=true:=by
    unfold qdc;rw[qgb,qdd hx];simp only[not_mem_nil,decide_false,Am,Bool.true_and];constructor
    . intro h;have h0:dedup qa[k].frm=[]:=AP (by omega);rw[AY];intro f hf;exfalso;have:=(qk7 (i:=f.toNat)).2 ⟨f,hf,rfl⟩;rw[h0]at this;cases this
    . intro h
      have h0:qa[k].frm=[]:=by
       cases hfr:qa[k].frm with
       |nil=>rfl
       |cons a r=>rw[hfr]at h;simp at h
      rw[h0];rfl
   by_cases h0:((qbw qa k).length:Int)=0
   . rw[if_pos h0,if_pos (hz.1 h0)]
   . rw[if_neg h0,if_neg (λe=>h0 (hz.2 e)),append_nil]
 unfold jI qan;rw[if_pos hv];have:(qa5 qa).length=qa.length:=by unfold qa5;rw[AV,AS]
 rw[this];exact key _ (Bj _)
theorem qko(v:As)(cs:List Int)(w:At)(h:RI w v cs)(hl:cs.length<=1000000):Ax prog 76 #[v] w (qeo w (jI cs)):=by
 obtain⟨A,n,c,rfl,hnc,hn⟩:=h.form';rw[<-hn]at hl;have Hn:=Lib.hid hn;have h0:qf (w.alloc (.cells #[] 3)) w.heap.size (.slice (some ⟨w.heap.size,0,none⟩) 0 0) []:=qf.empty w (Bj _);clear hn;go_enter func76,ntmps76;go_wp2_with fail
 go_loopg [3,4] (n+1) (λmm out i wr=>∃k:Nat,k<=n/\mm=n+1-k/\i=.int .i64 k/\qf wr w.heap.size out (ql7 cs k)/\w.grownBy wr none)
 case atStart=>exact⟨0,Bm _,rfl,rfl,h0,qaq (qag w none) _⟩
 case round=>
  clear h0;obtain⟨k,hk,rfl,rfl,hown,hg⟩:=hrel;have hzl:=qth cs k;by_cases hlt:k<n
  . obtain⟨g,o,x,rfl,hx,c0⟩:=(h.new hg).at_ hlt;have hs:=qkn hx;have hsz:=hg.size;clear hx;by_cases h0:x=0
    . have hq:(x==0)=true:=by simpa using h0
      rw[if_pos h0]at hs;have Hs:=Lib.hid hs;clear hs h0;go_wp2_with (at_builtin;go_must (refine qcm _ _ rfl rfl hown (by omega) hsz rfl rfl ?_));intro v2 w2 j6 hg2;rw[<-Hs.out]at j6;have hg3:=hown.gb hg hg2 (Bj _);obtain⟨A2,n2,c2,rfl⟩:=j6.ri.val;go_wp2;go_roundg (n+1-(k+1))
      case measure=>omega
      case rel=>exact⟨k+1,by omega,rfl,by go_num,j6,hg3⟩
    . have hq:(x==0)=false:=by simpa using h0
      rw[if_neg h0,append_nil]at hs;rw[<-hs]at hown;obtain⟨A2,n2,c2,rfl⟩:=hown.ri.val;clear hs h0;go_wp2;go_roundg (n+1-(k+1))
      case measure=>omega
      case rel=>exact⟨k+1,by omega,rfl,by go_num,hown,hg⟩
  . obtain rfl:n=k:=by omega
    obtain⟨A2,n2,c2,rfl⟩:=hown.ri.val;have ho2:qf wr w.heap.size (.slice A2 n2 c2) (jI cs):=by unfold jI;rw[<-Hn.out];exact hown
    go_wp2;go_ret;exact⟨_,rfl,ho2,hg⟩
theorem q21{o:Oper}{Q:Exit->Act->At->Prop}
   (s x:Ay) (hgd:o.guard=none) (ho:o.op=.call {callee:=.builtin .append,args:=#[s,x],argTypes:=#[27,27]})
   {base:Nat}    (hown:LX w base v ll xs) (hf:qf w base f l) (hn:ll.length<=1000000000) (hbase:base<=w.heap.size)
   (hs:a.eval s=v)  (hx:a.eval x=.slice (some ⟨N,0,none⟩) 1 1) (hN:N=w.heap.size)
   (h:∀v' w',LX w' base v' (ll++[l]) (xs++[f])->w.grownBy w' v.ownBlock->wpList prog ops Q rest (a.put o.dst v') w') :
   wpList prog ops Q (o::rest) a (w.alloc (.cells #[f] 24)):=by
 subst hN;refine wpList_plain hgd λK hK=>?_;have:=qiv (ops:=ops) (E:=False) (Q:=Q) (K:=K) s x hgd ho hown hf hn hbase hs hx (λv' w' h1 h2=>hK _ _ (h v' w' h1 h2))
 rwa [if_pos (by simp[AA,hgd])]at this
theorem qso{o:Oper}{Q:Exit->Act->At->Prop}
   (s x:Ay) (hgd:o.guard=none) (ho:o.op=.call {callee:=.builtin .append,args:=#[s,x],argTypes:=#[27,27]})
   {base:Nat}   (hown:qM w base v ll) (hf:RI w f l) (hn:ll.length<=1000000000) (hbase:base<=w.heap.size)
   (hs:a.eval s=v)  (hx:a.eval x=.slice (some ⟨N,0,none⟩) 1 1) (hN:N=w.heap.size)
   (h:∀v' w',qM w' base v' (ll++[l])->w.grownBy w' v.ownBlock->wpList prog ops Q rest (a.put o.dst v') w') :
   wpList prog ops Q (o::rest) a (w.alloc (.cells #[f] 24)):=by
 subst hN;exact qip s x hgd ho hown hf hn hbase hs hx h
theorem qM.empties{base:Nat}(h:qM w base v (replicate m []))(hg:w.grownBy w' row)(hr:qg w 24 row):qM w' base v (replicate m []):=by
 obtain⟨xs,h1,h2⟩:=h;refine⟨xs,qcb h1 hg hr,λi l hi=>?_⟩;obtain⟨u,k1,k2⟩:=h2 i l hi
 obtain rfl:l=[]:=by
  rw[getElem?_replicate]at hi;split at hi
  . injection hi with hi;exact hi.symm
  . cases hi
 exact⟨u,k1,k2.empty w'⟩
theorem LX.qbU{base:Nat}(h:LX w base (.slice (some ⟨g,0,none⟩) n cap) ll xs)(hk:k<ll.length)(hu:xs[k]?=some u)(hg:w.grownBy w' u.ownBlock)(hap:Apart xs)(ho:qf w' base u' l')(hI:qf w base u l0)(hb:u'.ownBlock=u.ownBlock∨∃b,u'.ownBlock=some b/\w.heap.size<=b) :
   LX (w'.setCell ⟨g,k,none⟩ u') base (.slice (some ⟨g,0,none⟩) n cap) (ll.set k l') (xs.set k u')/\Apart (xs.set k u'):=by
 have hNu:qg w 24 u.ownBlock:=hI.jq (by decide);have hcs:=qcb h.1 hg hNu
 have hn:n=ll.length:=by
  rcases h.1.2 with ⟨e,_⟩|⟨_,_,_,e,_⟩
  . cases e
  . injection e
 subst hn;have hst:w'.grownBy (w'.setCell ⟨g,k,none⟩ u') (some g):=qa1 (p:=⟨g,k,none⟩) (qag w' (some g)) (.inr rfl) _;have s1:=World.ownsRow.stored hcs k u';have hne:qg w' 3 (some g):=qg.own (v:=.slice (some ⟨g,0,none⟩) ll.length cap) hcs (by decide);have hxl:=h.len;have hkx:k<xs.length:=by omega
 refine⟨⟨by rw[AU];exact s1.1,λi x hi=>?_⟩,?_⟩
 . by_cases hik:i=k
   . subst hik;rw[AM hk]at hi;obtain rfl:l'=x:=by simpa using hi
     exact⟨u',by rw[AM hkx],ho.grown hst hne⟩
   . rw[AK (λe=>hik e.symm)]at hi;obtain⟨y,k1,k2⟩:=h.2 i x hi;refine⟨y,by rw[AK (λe=>hik e.symm)];exact k1,?_⟩
     have hyu:y.ownBlock=none∨y.ownBlock≠u.ownBlock:=by
      cases hy:y.ownBlock with
      |none=>exact .inl rfl
      |some b=>
       right;intro e;rw[Apart.iff]at hap;rcases Bo hik with hlt|hlt
       . exact hap i k y u b hlt k1 hu hy e.symm
       . exact hap k i u y b hlt hu k1 e.symm hy
     exact(k2.qQ hg hyu).grown hst hne
 . rw[Apart.iff]at hap |-;have qbV:=h.lts;intro i j a b gg hij ha hb' hga hgb
   have other:∀(i:Nat) (a:As),i≠k->xs[i]?=some a->a.ownBlock=some gg->u'.ownBlock≠some gg:=by
    intro i a hik ha hga e;rcases hb with e2|⟨b2,e2,hge⟩
    . rw[e2]at e;rcases Bo hik with hlt|hlt
      . exact hap i k a u gg hlt ha hu hga e
      . exact hap k i u a gg hlt hu ha e hga
    . rw[e2]at e;injection e with e;have:=(qbV a (AI ha) gg hga).2;omega
   by_cases hik:i=k
   . subst hik;rw[AM hkx]at ha;injection ha with ha;subst ha;rw[AK (by omega)]at hb';exact other j b (by omega) hb' hgb hga
   . rw[AK (λe=>hik e.symm)]at ha;by_cases hjk:j=k
     . subst hjk;rw[AM hkx]at hb';injection hb' with hb';subst hb';exact other i a hik ha hga hgb
     . rw[AK (λe=>hjk e.symm)]at hb';exact hap i j a b gg hij ha hb' hga hgb
structure qR(w wx:At)(X s0 b2:Nat)(d k o r:As)(cs:List Int)(D:List (List Int))(m:Nat)(xs:List As):Prop where
 x:Blk wx X 29 #[d,k,o,r]
 dq:LX wx s0 d D xs
 ap:Apart xs
 kt:qf wx w.heap.size k cs
 kl:∀g,k.ownBlock=some g->g<s0
 od:∀w',RI w' o []
 ro:qM wx b2 r (replicate m [])
 dr:r=.slice none 0 0∨∀g,d.ownBlock=some g->g<b2
 hb:s0<=b2/\w.heap.size<=s0
 hbx:b2<=wx.heap.size
 res:Blk wx w.heap.size 29 #[.slice none 0 0,.slice none 0 0,.slice none 0 0,.slice none 0 0]
 hX:w.heap.size<X
 g:w.grownBy wx none
section
variable {w wx wy:At}{X s0 b2 m:Nat}{d k o r:As}{cs:List Int}{D:List (List Int)}{xs:List As}
theorem qR.new(M:qR w wx X s0 b2 d k o r cs D m xs)(hg:wx.grownBy wy none):qR w wy X s0 b2 d k o r cs D m xs:=
 ⟨M.x.grown hg (by simp),M.dq.new hg,M.ap,M.kt.new hg,M.kl,M.od,M.ro.new hg,M.dr,M.hb,Bi M.hbx hg.size,M.res.grown hg (by simp),M.hX,qac M.g hg⟩
theorem qR.yc(M:qR w wx X s0 b2 d k o (.slice none 0 0) cs D 0 xs)(hg:wx.grownBy wy d.ownBlock)(ho:LX wy s0 v' (D++[[]]) (xs++[f]))(hf:∀g,f.ownBlock=some g->∀u∈xs,∀g',u.ownBlock=some g'->g'<g) :
   wy.cell? ⟨X,0,none⟩=some d/\wy.frozen? ⟨X,0,none⟩=false/\qR w (wy.setCell ⟨X,0,none⟩ v') X s0 b2 v' k o (.slice none 0 0) cs (D++[[]]) 0 (xs++[f]):=by
 have hE:qg wx 29 d.ownBlock:=M.dq.jq (by decide);have hI:qg wx 3 d.ownBlock:=M.dq.jq (by decide);have hx:=M.x.past hg hE;have hst:wy.grownBy (wy.setCell ⟨X,0,none⟩ v') (some X):=qa1 (p:=⟨X,0,none⟩) (qag wy (some X)) (.inr rfl) _;have hn2:qg wy 3 (some X):=qg.blk hx (by decide);have hn3:qg wy 24 (some X):=qg.blk hx (by decide);have hg2:w.grownBy wy none:=M.dq.gb M.g hg M.hb.2;refine⟨hx.cell 0,hx.frozen 0,hx.qC 0 _,ho.grown hst hn2 hn3,?_,(M.kt.grown hg hI).grown hst hn2,M.kl,M.od,qM.nil _ _,.inl rfl,M.hb,Bi M.hbx (Bi hg.size hst.size),(M.res.past hg hE).grown hst (by simp;have:=M.hX;omega),M.hX,qa2 hg2 hst (λg e=>by cases e;exact .inl (Br M.hX))⟩;unfold Apart;rw[Bb];refine⟨M.ap,pairwise_singleton _ _,λa ha b hb g hga hgb=>?_⟩;obtain rfl:b=f:=by simpa using hb
 have:=hf g hgb a ha g hga;omega
theorem qR.yd(M:qR w wx X s0 b2 d k o r cs D m xs)(hlt:∀g,d.ownBlock=some g->g<b2)(hg:wx.grownBy wy r.ownBlock)(ho:qM wy b2 v' (replicate m []++[[]])) :
   wy.cell? ⟨X,3,none⟩=some r/\wy.frozen? ⟨X,3,none⟩=false/\qR w (wy.setCell ⟨X,3,none⟩ v') X s0 b2 d k o v' cs D (m+1) xs:=by
 have hE:qg wx 29 r.ownBlock:=M.ro.jq (by decide);have hI:qg wx 3 r.ownBlock:=M.ro.jq (by decide);have hx:=M.x.past hg hE;have hst:wy.grownBy (wy.setCell ⟨X,3,none⟩ v') (some X):=qa1 (p:=⟨X,3,none⟩) (qag wy (some X)) (.inr rfl) _;have hn2:qg wy 3 (some X):=qg.blk hx (by decide);have hn3:qg wy 24 (some X):=qg.blk hx (by decide);have hg2:w.grownBy wy none:=M.ro.gb M.g hg (Bi M.hb.2 M.hb.1)
 have hdq:LX wy s0 d D xs:=by
  cases hr:r.ownBlock with
  |none=>rw[hr]at hg;exact M.dq.new hg
  |some b=>
   rw[hr]at hg;refine M.dq.far hg (hr▸hI) (λe=>?_);have:=hlt b e;have:=(M.ro.lt b hr).1;omega
 have er:replicate m ([]:List Int)++[[]]=replicate (m+1) []:=by rw[Ba]
 rw[er]at ho;exact⟨hx.cell 3,hx.frozen 3,hx.qC 3 _,hdq.grown hst hn2 hn3,M.ap,(M.kt.grown hg hI).grown hst hn2,M.kl,M.od,ho.grown hst hn2 hn3,.inr hlt,M.hb,Bi M.hbx (Bi hg.size hst.size),(M.res.past hg hE).grown hst (by simp;have:=M.hX;omega),M.hX,qa2 hg2 hst (λg e=>by cases e;exact .inl (Br M.hX))⟩
theorem qR.qhS(M:qR w wx X s0 b2 (.slice (some ⟨gd,0,none⟩) n cap) k o r cs D m xs)(hj:j<D.length)(hu:xs[j]?=some u)(hI:qf wx s0 u l0)(hg:wx.grownBy wy u.ownBlock)(ho:qf wy s0 u' l')(hb:u'.ownBlock=u.ownBlock∨∃b,u'.ownBlock=some b/\wx.heap.size<=b) :
   (∃u0,wy.cell? ⟨gd,j,none⟩=some u0/\wy.frozen? ⟨gd,j,none⟩=false)/\qR w (wy.setCell ⟨gd,j,none⟩ u') X s0 b2 (.slice (some ⟨gd,0,none⟩) n cap) k o r cs (D.set j l') m (xs.set j u'):=by
 obtain⟨hcell,-,hst,hA⟩:=M.dq.turn hj hu hg M.ap ho ⟨_,hI⟩;obtain⟨h1,h2⟩:=M.dq.qbU hj hu hg M.ap ho hI hb;have hEu:qg wx 29 u.ownBlock:=hI.jq (by decide);have hLu:qg wx 24 u.ownBlock:=hI.jq (by decide);have hgd:s0<=gd:=(M.dq.lt gd rfl).1;have hw:=M.hb.2;have hg2:w.grownBy wy none:=qa2 M.g hg (λg e=>.inl (by have:=(hI.lt g e).1;omega));refine⟨hcell,(M.x.past hg hEu).past hst (hA _ (by decide)),h1,h2,(M.kt.zl hg (λb hkb hub=>by have:=M.kl b hkb;have:=(hI.lt b hub).1;omega)).grown hst (hA _ (by decide)),M.kl,M.od,?_,M.dr,M.hb,Bi M.hbx (Bi hg.size hst.size),(M.res.past hg hEu).past hst (hA _ (by decide)),M.hX,qa2 hg2 hst (λg e=>by cases e;exact .inl (by omega))⟩;have h3:=M.ro.empties hg hLu;refine h3.far hst (hA _ (by decide)) (λe=>?_);rcases M.dr with h|h
 . rw[h]at e;cases e
 . have:=h gd rfl;have:=(M.ro.lt gd e).1;omega
end
theorem qrf{o:Oper}{K:Act->At->Prop}{Q:Exit->Act->At->Prop}{E:Prop}{u:Int}
   (s x:Ay) (hgd:o.guard=none) (ho:o.op=.call {callee:=.builtin .append,args:=#[s,x],argTypes:=#[24,24]})
   {base:Nat}   (hown:qf w base v l) (hn:l.length<=1000000000) (hbase:base<=w.heap.size)
   (hs:a.eval s=v)  (hx:a.eval x=.slice (some ⟨N,0,none⟩) 1 1) (hN:N=w.heap.size)
   (h:∀v' w',qf w' base v' (l++[u])->w.grownBy w' v.ownBlock->(v'.ownBlock=v.ownBlock∨∃b,v'.ownBlock=some b/\w.heap.size<=b)->K (a.put o.dst v') w') :
   if AA o (yielded ops a.tmps)=true then Oper.wp prog o a (w.alloc (.cells #[.int .i64 u] 3)) K Q else E:=by
 subst hN;have hw:AA o (yielded ops a.tmps)=true:=by simp[AA,hgd]
 rw[if_pos hw]
 have hnews:∀j y,[int .i64 u][j]?=some y->(w.alloc (.cells #[.int .i64 u] 3)).cell? ((⟨w.heap.size,0,none⟩:Addr).add j)=some y:=by
  intro j y hj;have hadd:(⟨w.heap.size,0,none⟩:Addr).add j=⟨w.heap.size,j,none⟩:=by unfold Addr.add;split<;>simp_all
  rw[hadd,World.cell?_alloc_new];simpa using hj
 obtain⟨v',w',hr,h2,h3,h4⟩:=qh8 (P:=prog) (t:=24) (ty:=o.type) (c:=1) underlying24 qii rfl (by decide) (World.ownsRow.alloc hown (.cells #[.int .i64 u] 3)) (news:=[.int .i64 u]) rfl hnews (by intro y hy;simp at hy;subst hy;rfl) (by unfold maxLen;omega) (by omega) (by simp;omega);unfold Oper.wp execOp;simp only[ho,resolve,invoke,builtin,Sem.run_bind,Sem.run_pure,Result.andThen_ok,map_toArray,map_cons,Bf,hs,hx,hr];refine h v' w' (by unfold qf;simpa using h2) ⟨h3.os,h3.tape,h3.output,Bi (by simp) h3.size,λk hk hne=>(h3.block k (by simp;omega) hne).trans (Below.heap_alloc w _ k hk)⟩ (h4.imp id λe=>⟨_,e,by simp⟩)
theorem qo0{o:Oper}{K:Act->At->Prop}{Q:Exit->Act->At->Prop}{E:Prop}{u:Int}
   (s x:Ay) (hgd:o.guard=none) (ho:o.op=.call {callee:=.builtin .append,args:=#[s,x],argTypes:=#[24,24]})
   {base:Nat}   (hown:qf w.drew base v l) (hn:l.length<=1000000000) (hbase:base<=w.heap.size)
   (hs:a.eval s=v)  (hx:a.eval x=.slice (some ⟨N,0,none⟩) 1 1) (hN:N=w.heap.size)
   (h:∀v' w',qf w' base v' (l++[u])->w.drew.grownBy w' v.ownBlock->(v'.ownBlock=v.ownBlock∨∃b,v'.ownBlock=some b/\w.drew.heap.size<=b)->K (a.put o.dst v') w') :
   if AA o (yielded ops a.tmps)=true then Oper.wp prog o a (w.alloc (.cells #[.int .i64 u] 3)).drew K Q else E:=
 qrf (w:=w.drew) s x hgd ho hown hn hbase hs hx hN h
theorem qti(hx:(qan qa [])[k]?=some x):dealt qa n (k+1)=(dealt qa n k).set (k%n) ((dealt qa n k).getD (k%n) []++[x]):=by
 obtain⟨hk,rfl⟩:=AN.1 hx;unfold dealt;have hl:((qan qa []).take k).length=k:=by rw[AQ];omega
 rw[AL hk,zipIdx_append,foldl_append,hl];simp only[zipIdx_cons,zipIdx_nil,foldl_cons,foldl_nil,Nat.zero_add]
theorem qxc(hn:0<n)(hk:k<=(qan qa []).length):(dealt qa n k).length=n:=(qpl n hn (qan qa []) k hk).1
theorem qxd(hn:0<n)(hk:k<=(qan qa []).length)(qbN:k<=10):∀l∈dealt qa n k,l.length<=10:=by
 intro l hl;have h1:=(qpl n hn (qan qa []) k hk).2.length_eq;have h2:l.length<=(dealt qa n k).flatten.length:=(sublist_flatten_of_mem hl).length_le;have h3:((qan qa []).take k).length<=10:=by rw[AQ];omega
 unfold dealt at h2;omega
theorem qrg{n:Int}(h:qae qa=false):qbn qa n=none:=by unfold qbn;rw[h];rfl
theorem qrh{n:Int}(h:¬(1<=n/\n<=4)):qbn qa n=none:=by
 unfold qbn;split
 . rename_i hc;simp only[Ai,decide_eq_true_eq]at hc;exact absurd hc.2 h
 . rfl
theorem qtj(hv:qae qa=true)(h1:1<=n)(h4:n<=4):qbn qa (n:Int)=some {qb:=dealt qa n (qan qa []).length,counts:=qa5 qa,done:=[],rows:=replicate qa.length []}:=by
 unfold qbn;rw[hv,decide_eq_true (show (1:Int)<=n by omega),decide_eq_true (show (n:Int)<=4 by omega),AE];rfl
theorem qri(hg:w.grownBy wx none):qZ w none (.returned (.tuple #[.agg #[.slice none 0 0,.slice none 0 0,.slice none 0 0,.slice none 0 0],.bool false])) ((((wx.setCell ⟨w.heap.size,0,none⟩ (.slice none 0 0)).setCell ⟨w.heap.size,1,none⟩ (.slice none 0 0)).setCell ⟨w.heap.size,2,none⟩ (.slice none 0 0)).setCell ⟨w.heap.size,3,none⟩ (.slice none 0 0)):=
 ⟨_,rfl,CV.zero _,qa2 hg (qdv wx w.heap.size (.slice none 0 0) (.slice none 0 0) (.slice none 0 0) (.slice none 0 0)) (λg e=>by cases e;exact .inl (Bj _))⟩
theorem q5u{k:As}(hg:w.grownBy wx none)(hR:Blk wx w.heap.size 29 #[.slice none 0 0,.slice none 0 0,.slice none 0 0,.slice none 0 0])(hc:CV wx (.agg #[d,k,o,r]) c):qZ w (some c) (.returned (.tuple #[.agg #[d,k,o,r],.bool true])) ((((wx.setCell ⟨w.heap.size,0,none⟩ d).setCell ⟨w.heap.size,1,none⟩ k).setCell ⟨w.heap.size,2,none⟩ o).setCell ⟨w.heap.size,3,none⟩ r):=
 have hst:=qdv wx w.heap.size d k o r
 ⟨_,rfl,hc.grown hst (qg.blk hR (by decide)) (qg.blk hR (by decide)),qa2 hg hst (λg e=>by cases e;exact .inl (Bj _))⟩
theorem qrj(pv:As)(qa:List Node)(n:Int)(w:At)(hp:RN w pv qa)(hpl:qa.length<=1000000000):Ax prog 44 #[pv,.int .i64 n] w (qZ w (qbn qa n)):=by
 obtain⟨A,np,cp,rfl,-,hnp,-⟩:=hp.form';have Hnp:=Lib.hid hnp;have hR0:=Blk.new w 29 #[.slice none 0 0,.slice none 0 0,.slice none 0 0,.slice none 0 0];have hgR:=AB w (.cells #[.slice none 0 0,.slice none 0 0,.slice none 0 0,.slice none 0 0] 29) none;clear hnp;by_cases hv:qae qa=true
 . have Hv:=Lib.hid hv;have qbW:np<=10:=by have:=qam hv;have:=Hnp.out;omega
   by_cases hin:1<=n/\n<=4
   . have Hin:Hid ((decide (1<=n)&&decide (n<=4))=true):=by show _=_;simp[hin.1,hin.2]
     obtain⟨n,rfl⟩:=AF (show (0:Int)<=n by omega);have h1n:1<=n:=by omega
     have hn4:n<=4:=by omega
     have Hr:Hid (qbn qa (n:Int)=some {qb:=dealt qa n (qan qa []).length,counts:=qa5 qa,done:=[],rows:=replicate qa.length []}):=qtj hv h1n hn4;clear hv hin;go_enter func44,ntmps44;go_upto_region 1 with fail;generalize w.alloc (.cells #[.slice none 0 0,.slice none 0 0,.slice none 0 0,.slice none 0 0] 29)=W at hR0 hgR |-;go_wp2_with fail;refine(qbh _ qa W (hp.new hgR) hpl Hv.out).mono ?_;rintro e w1 ⟨rfl,hg1⟩;have g1:=qac hgR hg1;have hR1:=hR0.grown hg1 (by simp);clear hgR hR0 hg1;go_wp2_with fail;refine(qde _ _ _ _ Hin.out).mono ?_;rintro e w2 ⟨rfl,rfl⟩;go_wp2_with fail;refine(ql9 _ qa w1 (hp.new g1) Hv.out).mono ?_;rintro e w2 ⟨kv,rfl,hkv,hg2⟩;obtain⟨Ak,nk,ck,rfl⟩:=hkv.ri.val;have g2:=qac g1 hg2;have hR2:=hR1.grown hg2 (by simp);have hkw:=hkv.low g1.size;have ye:=hR2.lt;clear g1 hR1 hg2 hkv;go_upto_region 4 with fail;have hE0:qf (w2.alloc (.cells #[] 3)) w2.heap.size (.slice (some ⟨w2.heap.size,0,none⟩) 0 0) []:=qf.empty w2 (Bj _);have hgE:=AB w2 (.cells #[] 3) none;have hBX:=Blk.new (w2.alloc (.cells #[] 3)) 29 #[.slice none 0 0,.slice Ak nk ck,.slice (some ⟨w2.heap.size,0,none⟩) 0 0,.slice none 0 0];have hgX:=AB (w2.alloc (.cells #[] 3)) (.cells #[.slice none 0 0,.slice Ak nk ck,.slice (some ⟨w2.heap.size,0,none⟩) 0 0,.slice none 0 0] 29) none;have hg3:=qac hgE hgX
     have M0:qR w ((w2.alloc (.cells #[] 3)).alloc (.cells #[.slice none 0 0,.slice Ak nk ck,.slice (some ⟨w2.heap.size,0,none⟩) 0 0,.slice none 0 0] 29)) (w2.alloc (.cells #[] 3)).heap.size w2.heap.size w2.heap.size (.slice none 0 0) (.slice Ak nk ck) (.slice (some ⟨w2.heap.size,0,none⟩) 0 0) (.slice none 0 0) (qa5 qa) [] 0 []:=
      ⟨hBX,LX.nil _ _,.nil,hkw.new hg3,λg hg=>(hkw.lt g hg).2,λw'=>hE0.ri.empty w',qM.nil _ _,.inl rfl,⟨Bj _,g2.size⟩,hg3.size,hR2.grown hg3 (by simp),Bp ye hgE.size,qac g2 hg3⟩
     rw[AD]at M0;have hs0:w2.heap.size<=((w2.alloc (.cells #[] 3)).alloc (.cells #[.slice none 0 0,.slice Ak nk ck,.slice (some ⟨w2.heap.size,0,none⟩) 0 0,.slice none 0 0] 29)).heap.size:=hg3.size;generalize ((w2.alloc (.cells #[] 3)).alloc (.cells #[.slice none 0 0,.slice Ak nk ck,.slice (some ⟨w2.heap.size,0,none⟩) 0 0,.slice none 0 0] 29))=w3 at M0 hs0 |-;clear hE0 hgE hBX hgX hg3 hkw hR2 ye g2;generalize w2.heap.size+1=X at M0 |-;generalize w2.heap.size=s0 at M0 hs0 |-;go_wp2_with fail
     go_loopg [7] (n+1) (λmm i wr=>∃(k:Nat) (d:As) (xs:List As),k<=n/\mm=n+1-k/\i=.int .i64 k/\qR w wr X s0 s0 d (.slice Ak nk ck) (.slice (some ⟨s0,0,none⟩) 0 0) (.slice none 0 0) (qa5 qa) (replicate k []) 0 xs)
     case atStart=>exact⟨0,_,_,Bm _,rfl,rfl,M0⟩
     case round=>
      clear M0 hs0;obtain⟨k,d,xs,hk,rfl,rfl,M⟩:=hrel;by_cases hlt:k<n
      . obtain⟨Ad,nd,cd,rfl⟩:=M.dq.rl.val;have x0:=M.x.cell 0;have hXl:X<wr.heap.size:=M.x.lt;have hE:qf (wr.alloc (.cells #[] 3)) wr.heap.size (.slice (some ⟨wr.heap.size,0,none⟩) 0 0) []:=qf.empty wr (Bj _);have hgE:=AB wr (.cells #[] 3) none;have ME:=M.new hgE;have hbE:s0<=wr.heap.size:=M.hbx;have hlen:(replicate k ([]:List Int)).length<=1000000000:=by rw[AT];omega
        go_wp2_with (at_builtin;go_must (refine q21 (.tmp 30) (.tmp 32) rfl rfl ME.dq (hE.low hbE) hlen ME.hbx rfl rfl (by simp) ?_));intro v5 w5 qE hg5
        obtain⟨z1,z2,M5⟩:=ME.yc hg5 qE (λg hg u hu g' hg'=>by
         have h1:=(hE.lt g hg).1;have h2:=(M.dq.lts u hu g' hg').2;omega)
        have er:replicate k ([]:List Int)++[[]]=replicate (k+1) []:=by rw[Ba]
        rw[er]at M5;obtain⟨A5,n5,c5,rfl⟩:=qE.rl.val;clear qE hg5 ME hE hgE x0;go_wp2;go_roundg (n+1-(k+1))
        case measure=>omega
        case rel=>exact⟨k+1,_,_,by omega,rfl,by go_num,M5⟩
      . obtain rfl:n=k:=by omega
        obtain⟨w4,rfl⟩:∃w4:At,w4=wr:=⟨_,rfl⟩;have M0:qR w w4 X s0 w4.heap.size d (.slice Ak nk ck) (.slice (some ⟨s0,0,none⟩) 0 0) (.slice none 0 0) (qa5 qa) (replicate n []) 0 xs:={M with ro:=qM.nil _ _,dr:=.inl rfl,hb:=⟨M.hbx,M.hb.2⟩,hbx:=Bj _};have Hlt:Hid (∀g,d.ownBlock=some g->g<w4.heap.size):=λg hg=>(M.dq.lt g hg).2;clear M;go_wp2_with fail;generalize w4.heap.size=b2 at M0 Hlt
        go_loopg [8] (np+1) (λmm i wr=>∃(k:Nat) (r:As),k<=np/\mm=np+1-k/\i=.int .i64 k/\qR w wr X s0 b2 d (.slice Ak nk ck) (.slice (some ⟨s0,0,none⟩) 0 0) r (qa5 qa) (replicate n []) k xs)
        case atStart=>exact⟨0,_,Bm _,rfl,rfl,M0⟩
        case round=>
         clear M0;obtain⟨k,r,hk,rfl,rfl,M⟩:=hrel;by_cases hlt:k<np
         . obtain⟨Ar,nr,cr,rfl⟩:=M.ro.rl.val;have x0:=M.x.cell 3;have hXl:X<wr.heap.size:=M.x.lt;have hE:qf (wr.alloc (.cells #[] 3)) wr.heap.size (.slice (some ⟨wr.heap.size,0,none⟩) 0 0) []:=qf.empty wr (Bj _);have hgE:=AB wr (.cells #[] 3) none;have ME:=M.new hgE;have hlen:(replicate k ([]:List Int)).length<=1000000000:=by rw[AT];omega
           go_wp2_with (at_builtin;go_must (refine qso (.tmp 42) (.tmp 44) rfl rfl ME.ro hE.ri hlen ME.hbx rfl rfl (by simp) ?_));intro v5 w5 qE hg5;obtain⟨z1,z2,M5⟩:=ME.yd Hlt.out hg5 qE;obtain⟨A5,n5,c5,rfl⟩:=qE.rl.val;clear qE hg5 ME hE hgE x0;go_wp2;go_roundg (np+1-(k+1))
           case measure=>omega
           case rel=>exact⟨k+1,_,by omega,rfl,by go_num,M5⟩
         . obtain rfl:np=k:=by omega
           obtain⟨gd,j7,rfl,hcd,hbd⟩:=M.dq.form (n:=n) (by rw[AT]) (by omega);obtain⟨Ar,nr,cr,rfl⟩:=M.ro.rl.val;have x1:=M.x.cell 1;obtain⟨w5,rfl⟩:∃w5:At,w5=wr:=⟨_,rfl⟩;have hcl:(qa5 qa).length<=1000000:=by unfold qa5;rw[AV,AS];have:=Hnp.out;omega
           go_wp2_with fail;refine(qko _ (qa5 qa) w5 M.kt.ri hcl).mono ?_;rintro e w6 ⟨rv,rfl,hrv,hg6⟩;rw[qob Hv.out]at hrv;have M6:=M.new hg6;have hr6:=hrv.ri;obtain⟨Av,nv,cv,rfl⟩:=hr6.val;have hnv:=hr6.len;have Hnv:=Lib.hid hnv;have qbX:nv<=10:=by rw[hnv];have:=qgd qa [];have:=Hnp.out;omega
           have hrb:Hid (∀g,(slice Av nv cv).ownBlock=some g->w5.heap.size<=g):=λg hg=>(hrv.lt g hg).1
           have MD:qR w w6 X s0 b2 (.slice (some ⟨gd,0,none⟩) n j7) (.slice Ak nk ck) (.slice (some ⟨s0,0,none⟩) 0 0) (.slice Ar nr cr) (qa5 qa) (dealt qa n 0) np xs:=by
            have e:dealt qa n 0=replicate n []:=by unfold dealt;simp
            rw[e];exact M6
           have hxb:Hid (∀u∈xs,∀g,u.ownBlock=some g->g<w5.heap.size):=λu hu g hg=>(M.dq.lts u hu g hg).2;clear x1 M M6 hg6 hnv hr6
           have qeE:∀u∈xs,∀g,u.ownBlock=some g->(slice Av nv cv).ownBlock≠some g:=λu hu g hg e=>by
            have h1:=hxb.out u hu g hg;have h2:=hrb.out g e;omega
           generalize w5.heap.size=s1 at hrv hrb hxb;clear hrb hxb;have hn0:¬((n:Int)=0):=by omega
           have qhT:¬(n=0):=by omega
           go_wp2_with fail
           go_loopg [10] (nv+1) (λmm i wr=>∃(k:Nat) (xs:List As),k<=nv/\mm=nv+1-k/\i=.int .i64 k/\qR w wr X s0 b2 (.slice (some ⟨gd,0,none⟩) n j7) (.slice Ak nk ck) (.slice (some ⟨s0,0,none⟩) 0 0) (.slice Ar nr cr) (qa5 qa) (dealt qa n k) np xs/\qf wr s1 (.slice Av nv cv) (qan qa [])/\Hid (∀u∈xs,∀g,u.ownBlock=some g->(slice Av nv cv).ownBlock≠some g))
           case atStart=>exact⟨0,_,Bm _,rfl,rfl,MD,hrv,qeE⟩
           case round=>
            clear MD hrv qeE;obtain⟨k,xs,hk,rfl,rfl,M,hrv,hap⟩:=hrel;by_cases hlt:k<nv
            . obtain⟨g,o,x,rfl,hx,c0⟩:=hrv.ri.at_ hlt;obtain⟨j,hj⟩:∃j,j=k%n:=⟨_,rfl⟩;have hjn:j<n:=by rw[hj];exact Bs _ (by omega)
              have hmod:(k:Int).tmod (n:Int)=(j:Int):=by rw[hj];rfl
              have hkr:k<=(qan qa []).length:=by rw[<-Hnv.out];exact hk
              have hdl:=qxc (qa:=qa) (n:=n) (k:=k) (by omega) hkr;have hjD:j<(dealt qa n k).length:=by rw[hdl];exact hjn
              obtain⟨l0,u,hl0,hu,cu,hou⟩:=M.dq.at_ hjD;have jH:l0.length<=10:=qxd (by omega) hkr (by omega) l0 (AI hl0)
              have Hs:Hid (dealt qa n (k+1)=(dealt qa n k).set j (l0++[x])):=by
               show _=_;rw[qti hx,<-hj,AH,hl0];rfl
              obtain⟨Ae,ne,ce,rfl⟩:=hou.ri.val;have x0:=M.x.cell 0;have hji:(j:Int)<(n:Int):=by omega
              have hki:(k:Int)<(nv:Int):=by omega
              have hXl:X<wr.heap.size:=M.x.lt;have hgl:g<wr.heap.size:=by simpa using qe2 c0
              have qkQ:gd<wr.heap.size:=(M.dq.lt gd rfl).2;have hDr:wr.grownBy wr.drew none:=qax (qag _ none);have vv:=hou.new hDr;have MDr:=M.new hDr;have hbs:s0<=wr.heap.size:=Bi M.hb.1 M.hbx;have hum:=AI hu;have Hj:=Lib.hid hj;clear hx hj hl0 hdl;go_wp2_with fail
              go_region_law (refine qo0 (w:=wr) (u:=x) (base:=s0) (v:=.slice Ae ne ce) (l:=l0) (.tmp 67) (.tmp 72) rfl rfl vv (by omega) hbs rfl rfl rfl ?_;intro v' w4 qp hg4 hb4;have hEu:qg wr.drew 29 (ownBlock (.slice Ae ne ce)):=vv.jq (by decide);have x04:=(MDr.x.past hg4 hEu).cell 0;obtain⟨⟨u0,cR,fR⟩,M5⟩:=MDr.qhS hjD hu vv hg4 qp hb4;obtain⟨A4,n4',c4,rfl⟩:=qp.ri.val)
              all_goals
               have hst:w4.grownBy (w4.setCell ⟨gd,j,none⟩ (.slice A4 n4' c4)) (some gd):=qa1 (p:=⟨gd,j,none⟩) (qag w4 (some gd)) (.inr rfl) _;have hI4:qg w4 3 (some gd):=(qcb MDr.dq.1 hg4 (vv.jq (by decide))) |> λh=>qg.own h (by decide);rw[<-Hs.out]at M5;have qhU:=((hrv.new hDr).zl hg4 (λb hb e=>hap.out _ hum b e hb)).grown hst hI4
               have qhV:Hid (∀y∈xs.set j (.slice A4 n4' c4),∀b,y.ownBlock=some b->(slice (some ⟨g,o,none⟩) nv cv).ownBlock≠some b):=by
                show ∀y∈_,_;intro y hy b hyb e;rcases AX hy with hy|rfl
                . exact hap.out y hy b hyb e
                . rcases hb4 with e2|⟨b2,e2,hge⟩
                  . exact hap.out _ hum b (e2▸hyb) e
                  . rw[e2]at hyb;injection hyb with hyb;have h1:=(hrv.lt b e).2;have h2:wr.drew.heap.size=wr.heap.size:=rfl;omega
               clear M MDr hrv hap hou vv qp hg4 hb4 hEu x04 hst hI4 x0 cu c0;go_wp2;go_roundg (nv+1-(k+1))
               case measure=>omega
               case rel=>exact⟨k+1,_,by omega,rfl,by go_num,M5,qhU,qhV⟩
            . obtain rfl:nv=k:=by omega
              have hcv:CV wr (.agg #[.slice (some ⟨gd,0,none⟩) n j7,.slice Ak nk ck,.slice (some ⟨s0,0,none⟩) 0 0,.slice Ar nr cr]) {qb:=dealt qa n (qan qa []).length,counts:=qa5 qa,done:=[],rows:=replicate qa.length []}:=by
               refine⟨_,_,_,_,rfl,?_,M.kt.ri,M.od wr,?_⟩
               . rw[<-Hnv.out];exact M.dq.rl
               . rw[<-Hnp.out];exact M.ro.rl
              have x0:=M.x.cell 0;have x1:=M.x.cell 1;have x2:=M.x.cell 2;have x3:=M.x.cell 3;have y0:=M.res.cell 0;have y1:=M.res.cell 1;have y2:=M.res.cell 2;have y3:=M.res.cell 3;have f0:=M.res.frozen 0;have f1:=M.res.frozen 1;have f2:=M.res.frozen 2;have f3:=M.res.frozen 3;have hfin:=Lib.hid (q5u M.g M.res hcv);clear M hcv hrv hap;go_wp2_with fail;refine Ap (v:=.tuple #[.agg #[.slice (some ⟨gd,0,none⟩) n j7,.slice Ak nk ck,.slice (some ⟨s0,0,none⟩) 0 0,.slice Ar nr cr],.bool true]) (by simp[results,results44,go_sem,y0,y1,y2,y3]) rfl ?_;rw[Hr.out];exact hfin.out
   . have Hin:Hid ((decide (1<=n) && decide (n<=4))=false):=by
      show _=_;rw[Ab,decide_eq_false_iff_not,decide_eq_false_iff_not];omega
     have Hr:Hid (qbn qa n=none):=qrh hin;clear hv hin;go_enter func44,ntmps44;go_upto_region 1 with fail;generalize w.alloc (.cells #[.slice none 0 0,.slice none 0 0,.slice none 0 0,.slice none 0 0] 29)=W at hR0 hgR |-;go_wp2_with fail;refine(qbh _ qa W (hp.new hgR) hpl Hv.out).mono ?_;rintro e w1 ⟨rfl,hg1⟩;have g1:=qac hgR hg1;have hR1:=hR0.grown hg1 (by simp);have y0:=hR1.cell 0;have y1:=hR1.cell 1;have y2:=hR1.cell 2;have y3:=hR1.cell 3;have f0:=hR1.frozen 0;have f1:=hR1.frozen 1;have f2:=hR1.frozen 2;have f3:=hR1.frozen 3;have hfin:=Lib.hid (qri g1);clear hgR hR0 hg1 hR1 g1;go_wp2_with fail;refine(qde _ _ _ _ Hin.out).mono ?_;rintro e w2 ⟨rfl,rfl⟩;go_wp2_with fail;refine Ap (v:=.tuple #[.agg #[.slice none 0 0,.slice none 0 0,.slice none 0 0,.slice none 0 0],.bool false]) (by simp[results,results44,go_sem,y0,y1,y2,y3]) rfl ?_;rw[Hr.out];exact hfin.out
 . have hv':qae qa=false:=by simpa using hv
   have Hv:=Lib.hid hv';have Hr:Hid (qbn qa n=none):=qrg hv';clear hv hv';go_enter func44,ntmps44;go_upto_region 1 with fail;generalize w.alloc (.cells #[.slice none 0 0,.slice none 0 0,.slice none 0 0,.slice none 0 0] 29)=W at hR0 hgR |-;go_wp2_with fail;refine(qbh _ qa W (hp.new hgR) hpl Hv.out).mono ?_;rintro e w1 ⟨rfl,hg1⟩;have g1:=qac hgR hg1;have hR1:=hR0.grown hg1 (by simp);have y0:=hR1.cell 0;have y1:=hR1.cell 1;have y2:=hR1.cell 2;have y3:=hR1.cell 3;have f0:=hR1.frozen 0;have f1:=hR1.frozen 1;have f2:=hR1.frozen 2;have f3:=hR1.frozen 3;have hfin:=Lib.hid (qri g1);clear hgR hR0 hg1 hR1 g1;go_wp2_with fail;refine Ap (v:=.tuple #[.agg #[.slice none 0 0,.slice none 0 0,.slice none 0 0,.slice none 0 0],.bool false]) (by simp[results,results44,go_sem,y0,y1,y2,y3]) rfl ?_;rw[Hr.out];exact hfin.out
end
end Go.Proofs.YtacemdoejblgaaaGreatDoor

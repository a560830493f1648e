/- Part M17. Conditions: each statement's. -/
import Derived.Test.YtacemdoejblgaaaGreatDoorM16
namespace Go.Proofs.YtacemdoejblgaaaGreatDoor
open List Tryz Value
set_option maxRecDepth 100000
set_option maxHeartbeats 6400000
section
open Go.RowKit
theorem qwc(v dv:Value)(qa:List Node)(done:List Int)(w:World)(h:RN w v qa)(hd:RI w dv done)(hv:qaf qa=true) :
   Calls prog 160 #[v,dv] w (qfw w (qat qa done)):=by
 obtain⟨A,n,c,rfl,-,hn,-⟩:=h.form';have vV:n<=10:=by have:=qap hv;omega
 have Hn:=Lib.hid hn;have Hv:=Lib.hid hv;obtain⟨Ad,m,cd,rfl⟩:=hd.val;have h0:qg (w.alloc (.cells #[] 3)) w.heap.size (.slice (some ⟨w.heap.size,0,none⟩) 0 0) []:=qg.empty w (Nat.le_refl _);clear hn hv;go_enter func160,ntmps160;go_wp2_with fail
 go_loopg [5,6] (n+1) (λmm out i wr=>∃k:Nat,k<=n/\mm=n+1-k/\i=.int .i64 k/\qg wr w.heap.size out (qc0 qa done k)/\w.grownBy wr none)
 case atStart=>exact⟨0,Nat.zero_le _,rfl,rfl,h0,qar (qah w none) _⟩
 case round=>
  clear h0;obtain⟨k,hk,rfl,rfl,hown,hg⟩:=hrel;by_cases hlt:k<n
  . obtain⟨g,o,nd,f,r,rfl,hx,c0,c1,c2,hf,hr⟩:=(h.new hg).at_ hlt;obtain⟨Af,nf,cf,rfl⟩:=hf.val;have hpl:qa.length<=1000000000:=by have:=Hn.out;omega
    have hs:=qfx done hx;have hol:=qnu qa done k;clear hx c0 c2 hr;by_cases hD:(k:Int)∈done
    . have HD:Hid (decide ((k:Int)∈done)=true):=decide_eq_true hD
      have Hs:Hid (qc0 qa done (k+1)=qc0 qa done k):=by
       show _=_;rw[hs,if_neg (by unfold qeb;simp[hD])]
      obtain⟨A2,n2,c2,rfl⟩:=hown.ri.val;clear hD hs;go_wp2_with fail;refine(qb7 _ qa _ (h.new hg) hpl Hv.out).mono ?_;rintro e w1 ⟨rfl,hg1⟩;have hd1:=(hd.new hg).new hg1;go_wp2_with fail;refine(qen _ _ _ _ hd1 HD.out).mono ?_;rintro e w2 ⟨rfl,rfl⟩;go_wp2;go_roundg (n+1-(k+1))
      case measure=>omega
      case rel=>exact⟨k+1,by omega,rfl,by go_num,by rw[Hs.out];exact hown.new hg1,qad hg hg1⟩
    . have HD:Hid (decide ((k:Int)∈done)=false):=decide_eq_false hD;by_cases ha:nd.frm.all (λx=>decide (x∈done))=true
      . have Ha:=Lib.hid ha
        have Hs:Hid (qc0 qa done (k+1)=qc0 qa done k++[(k:Int)]):=by
         show _=_;rw[hs,if_pos (by unfold qeb;simp only[decide_eq_false hD,ha];rfl)]
        obtain⟨A2,n2,c2,rfl⟩:=hown.ri.val;clear hD hs ha;go_wp2_with fail;refine(qb7 _ qa _ (h.new hg) hpl Hv.out).mono ?_;rintro e w1 ⟨rfl,hg1⟩;have hd1:=(hd.new hg).new hg1;have hf1:=hf.new hg1
        have c1':w1.cell? ⟨g,o+k*3+1,none⟩=some (.slice Af nf cf):=by
         rw[<-c1];exact qnv hg1 (qf5 c1) (by simp)
        have hown1:=hown.new hg1;have hg2:=qad hg hg1;go_wp2_with fail;refine(qen _ _ _ _ hd1 HD.out).mono ?_;rintro e w2 ⟨rfl,rfl⟩;go_wp2_with fail;refine(qzf _ _ _ nd.frm _ hd1 hf1 Ha.out).mono ?_;rintro e w2 ⟨rfl,rfl⟩;go_wp2_with (at_builtin;go_must (refine qc3 _ _ rfl rfl hown1 (by omega) hg2.size rfl rfl ?_));intro v3 w3 vo hg3;have hg4:=hown1.gb hg2 hg3 (Nat.le_refl _);rw[<-Hs.out]at vo;obtain⟨A3,n3,c3,rfl⟩:=vo.ri.val;go_wp2;go_roundg (n+1-(k+1))
        case measure=>omega
        case rel=>exact⟨k+1,by omega,rfl,by go_num,vo,hg4⟩
      . have ha':nd.frm.all (λx=>decide (x∈done))=false:=by simpa using ha
        have Ha:=Lib.hid ha'
        have Hs:Hid (qc0 qa done (k+1)=qc0 qa done k):=by
         show _=_;rw[hs,if_neg (by unfold qeb;simp only[decide_eq_false hD,ha'];simp)]
        obtain⟨A2,n2,c2,rfl⟩:=hown.ri.val;clear hD hs ha ha';go_wp2_with fail;refine(qb7 _ qa _ (h.new hg) hpl Hv.out).mono ?_;rintro e w1 ⟨rfl,hg1⟩;have hd1:=(hd.new hg).new hg1;have hf1:=hf.new hg1
        have c1':w1.cell? ⟨g,o+k*3+1,none⟩=some (.slice Af nf cf):=by
         rw[<-c1];exact qnv hg1 (qf5 c1) (by simp)
        go_wp2_with fail;refine(qen _ _ _ _ hd1 HD.out).mono ?_;rintro e w2 ⟨rfl,rfl⟩;go_wp2_with fail;refine(qzf _ _ _ nd.frm _ hd1 hf1 Ha.out).mono ?_;rintro e w2 ⟨rfl,rfl⟩;go_wp2;go_roundg (n+1-(k+1))
        case measure=>omega
        case rel=>exact⟨k+1,by omega,rfl,by go_num,by rw[Hs.out];exact hown.new hg1,qad hg hg1⟩
  . obtain rfl:k=n:=by omega
    obtain⟨A2,n2,c2,rfl⟩:=hown.ri.val
    have ho2:qg wr w.heap.size (.slice A2 n2 c2) (qat qa done):=by
     unfold qat;rw[if_pos Hv.out,<-Hn.out];exact hown
    clear hown;go_wp2;go_ret;exact⟨_,rfl,ho2,hg⟩
theorem qgt{qa:List Node}{c:qj}{b:Bool}(hb:qa3 qa c=b)(h:¬qp qa c):b=false:=by
 rw[<-hb];rcases Bool.eq_false_or_eq_true (qa3 qa c)with e|e
 . exact absurd (qbp.1 e) h
 . exact e
structure xh(qa:List Node)(c:qj):Prop where
 pv:qaf qa=true
 d1:1<=c.qb.length
 d4:c.qb.length<=4
 order:qb6 qa c.done=true
 counts:c.counts=qbr qa c.done
 rl:c.rows.length=qa.length
theorem xh.valid{qa:List Node}{c:qj}(h:xh qa c):qa3 qa c=(qha qa c&&qr2 qa c):=by
 unfold qa3;rw[h.pv,decide_eq_true h.d1,decide_eq_true h.d4,h.order,decide_eq_true h.counts,decide_eq_true h.rl];simp
def qwd(qa:List Node)(c:qj)(k:Nat):Prop:=∀x∈(qat qa c.done).take k,c.qb.flatten.count x=1
def qx7(qa:List Node)(c:qj)(k:Nat):Prop:=∀i,i<k->c.rows.getD i []=qfi qa c.done i
theorem q3z{qa:List Node}{c:qj}{k:Nat}{x:Int}(h:qwd qa c k)(hx:(qat qa c.done)[k]?=some x)(h1:c.qb.flatten.count x=1):qwd qa c (k+1):=by
 obtain⟨hk,rfl⟩:=List.getElem?_eq_some_iff.1 hx;unfold qwd;rw[take_succ_eq_append_getElem hk];intro y hy;rcases mem_append.1 hy with hy|hy
 . exact h y hy
 . obtain rfl:y=(qat qa c.done)[k]:=by simpa using hy
   exact h1
theorem q10{qa:List Node}{c:qj}{k:Nat}{x:Int}(hx:(qat qa c.done)[k]?=some x)(h1:¬c.qb.flatten.count x=1):qha qa c=false:=by
 unfold qha;rw[Bool.and_eq_false_iff];right;rw[List.all_eq_false];exact⟨x,mem_of_getElem? hx,by simpa using h1⟩
theorem qzj{qa:List Node}{c:qj}(h:qwd qa c (qat qa c.done).length):qha qa c=decide (c.qb.flatten.length=(qat qa c.done).length):=by
 unfold qwd at h;rw[take_length]at h;unfold qha;rw[Bool.and_eq_left_iff_imp.2];intro _;rw[List.all_eq_true];exact λx hx=>decide_eq_true (h x hx)
theorem qwe{qa:List Node}{c:qj}{k:Nat}{r:List Int}(h:qx7 qa c k)(hr:c.rows[k]?=some r)(h1:qfi qa c.done k=r):qx7 qa c (k+1):=by
 intro i hi;by_cases e:i=k
 . subst e;rw[getD_eq_getElem?_getD,hr,h1];rfl
 . exact h i (by omega)
theorem qx8{qa:List Node}{c:qj}{k:Nat}{r:List Int}(hk:k<qa.length)(hr:c.rows[k]?=some r)(h1:¬qfi qa c.done k=r):qr2 qa c=false:=by
 unfold qr2;rw[List.all_eq_false];refine⟨k,mem_range.2 hk,?_⟩;rw[getD_eq_getElem?_getD,hr];simpa using λe=>h1 e.symm
theorem q7c{qa:List Node}{c:qj}(h:qx7 qa c qa.length):qr2 qa c=true:=by
 unfold qr2;rw[List.all_eq_true];exact λi hi=>decide_eq_true (h i (mem_range.1 hi))
theorem qck(pv v:Value)(qa:List Node)(c:qj)(w:World)(hp:RN w pv qa)(h:CV w v c)(hpl:qa.length<=1000000000)(hfit:∀d∈c.qb,d.length<=1048576){b:Bool}(hb:qa3 qa c=b) :
   Calls prog 124 #[pv,v] w λe w'=>e=.returned (.bool b)/\w.grownBy w' none:=by
 obtain⟨A,n,cp,rfl,-,hn,-⟩:=hp.form';obtain⟨A1,n1,c1,A2,n2,c2,A3,n3,c3,A4,n4,c4,rfl,h1,-,-,h4⟩:=h.form;have hX:=h.box;have hn1:=h1.len;have hn4:=h4.len;have hgW:=World.grownBy_alloc w (.cells #[.slice A1 n1 c1,.slice A2 n2 c2,.slice A3 n3 c3,.slice A4 n4 c4] 29) none;have hpW:=hp.new hgW;have Hn:=Lib.hid hn;have Hn1:=Lib.hid hn1;have Hn4:=Lib.hid hn4;have Hb:=Lib.hid hb;have qW:=Lib.hid hfit;clear hn hn1 hn4 hb hfit h1 h4 h hp;have d0:=hX.d0;by_cases hv:qaf qa=true
 . have Hv:=Lib.hid hv;have vV:n<=10:=by have:=qap hv;have:=Hn.out;omega
   by_cases hin:1<=n1/\n1<=4
   . have Hin:Hid ((decide ((1:Int)<=(n1:Int)) && decide ((n1:Int)<=4))=true):=by
      show _=_;rw[Bool.and_eq_true,decide_eq_true_eq,decide_eq_true_eq];omega
     by_cases ho:qb6 qa c.done=true
     . have Ho:=Lib.hid ho;by_cases hc:c.counts=qbr qa c.done
       . have Hc:Hid (decide (c.counts=qbr qa c.done)=true):=decide_eq_true hc;by_cases hr:n4=n
         . have Pre:Hid (xh qa c):=⟨hv,by have:=Hn1.out;omega,by have:=Hn1.out;omega,ho,hc,by rw[<-Hn4.out,<-Hn.out];exact hr⟩;have hne:((n4:Int) != (n:Int))=false:=by simp[hr]
           have qnV:n1<=4:=hin.2;clear hv hin ho hc hr;go_enter func124,ntmps124;go_wp2_with fail;refine(qb7 _ qa _ hpW hpl Hv.out).mono ?_;rintro e w1 ⟨rfl,hg1⟩;have g1:=qad hgW hg1;have hp1:=hpW.new hg1;have hX1:=hX.new hg1;have d0:=hX1.d0;have d2:=hX1.d2;go_wp2_with fail;refine(qed _ _ _ _ Hin.out).mono ?_;rintro e w2 ⟨rfl,rfl⟩;go_wp2_with fail;refine(qmh _ _ qa c.done _ hp1 hX1.dn hpl Ho.out).mono ?_;rintro e w2 ⟨rfl,hg2⟩;replace g1:=qad g1 hg2;replace hp1:=hp1.new hg2;replace hX1:=hX1.new hg2;clear d0 d2;have d0:=hX1.d0;have d2:=hX1.d2;have d1:=hX1.d1;have d3:=hX1.d3;go_wp2_with fail;refine(qoe _ _ qa c _ hp1 hX1.cv Hv.out Ho.out Hc.out).mono ?_;rintro e w3 ⟨rfl,hg3⟩;have g3:=qad g1 hg3;have hp3:=hp1.new hg3;have hX3:=hX1.new hg3;clear g1 hp1 hX1 d0 d1 d2 d3 hX hpW hgW hg1 hg3;have d0:=hX3.d0;have d1:=hX3.d1;have d2:=hX3.d2;have d3:=hX3.d3;go_wp2_with fail
           go_loopg [5,6] (n1+1) (λmm sz i wr=>∃k:Nat,k<=n1/\mm=n1+1-k/\i=.int .i64 k/\sz=.int .i64 ((c.qb.take k).flatten.length:Nat)/\wr=w3)
           case atStart=>exact⟨0,Nat.zero_le _,rfl,rfl,rfl,rfl⟩
           case round=>
            obtain⟨k,hk,rfl,rfl,rfl,rfl⟩:=hrel;by_cases hlt:k<n1
            . obtain⟨g,o,d,B,m,e,rfl,hx,c0,hd,hm,-,-⟩:=hX3.dq.at_ hlt;have hdl:=qW.out d (mem_of_getElem? hx);have hml:m<=1048576:=by omega
              have hfl:(c.qb.take k).flatten.length<=4194304:=by
               refine Nat.le_trans (q5b (b:=1048576) (λy hy=>qW.out y (mem_of_mem_take hy))) ?_;have:(c.qb.take k).length<=4:=by rw[length_take];have:=Pre.out.d4;omega
               calc (c.qb.take k).length*1048576<=4*1048576:=Nat.mul_le_mul_right _ this
                _<=4194304:=by omega
              have Hf:Hid ((c.qb.take (k+1)).flatten.length=(c.qb.take k).flatten.length+m):=by
               show _=_;rw[q1y hx,length_append,hm]
              generalize (c.qb.take k).flatten.length=q at hfl Hf |-;clear hx hm hdl;go_wp2;go_roundg (n1+1-(k+1))
              case measure=>omega
              case rel=>exact⟨k+1,by omega,rfl,by go_num,by rw[Hf.out];go_num,rfl⟩
            . obtain rfl:n1=k:=by omega
              have Hr:Hid ((c.qb.take n1).flatten.length=c.qb.flatten.length):=by
               show _=_;rw[take_of_length_le (by rw[<-Hn1.out];exact Nat.le_refl _)]
              rw[Hr.out];generalize hq:c.qb.flatten.length=q;have Hq:=Lib.hid hq;clear hq;go_wp2_with fail;refine(qwc _ _ qa c.done _ hp3 hX3.dn Hv.out).mono ?_;rintro e w5 ⟨v5,rfl,qX,hg5⟩;have g5:=qad g3 hg5;have hp5:=hp3.new hg5;have hX5:=hX3.new hg5;have hr5:=qX.ri;obtain⟨A5,nr,c5,rfl⟩:=hr5.val;have hnr:=hr5.len;have Hnr:=Lib.hid hnr;have qcF:nr<=10:=by rw[hnr];have:=qht qa c.done;have:=qap Hv.out;omega
              clear hnr qX hg5 hp3 hX3 g3 d0 d1 d2 d3;go_wp2_with fail
              go_loopg [8] (nr+1) (λmm i wr=>∃k:Nat,k<=nr/\mm=nr+1-k/\i=.int .i64 k/\Hid (qwd qa c k)/\w5.grownBy wr none)
              case atStart=>exact⟨0,Nat.zero_le _,rfl,rfl,by show ∀x∈_,_;simp,qah _ _⟩
              case round=>
               obtain⟨k,hk,rfl,rfl,Hk,hgk⟩:=hrel;by_cases hlt:k<nr
               . obtain⟨g,o,x,rfl,hx,c0⟩:=(hr5.new hgk).at_ hlt;have Hx:=Lib.hid hx;have hXk:=hX5.new hgk;have d0:=hXk.d0;have d1:=hXk.d1;have d2:=hXk.d2;have d3:=hXk.d3;have hdl:c.qb.length<=100:=by have:=Pre.out.d4;omega
                 clear hx;by_cases h1:c.qb.flatten.count x=1
                 . have Hs:Hid (qwd qa c (k+1)):=q3z Hk.out Hx.out h1;clear Hk;have hXd:jU wr.drew w.heap.size (.slice A1 n1 c1) (.slice A2 n2 c2) (.slice A3 n3 c3) (.slice A4 n4 c4) c:=hXk.new (qay (qah _ none));go_wp2_with fail
                   go_region_law (go_simp;go_at_call 161;refine(q1z _ c x _ (by exact hXd.cv) hdl qW.out).mono ?_;rintro e w6 ⟨z,rfl,hg6⟩;rw[h1])
                   all_goals
                    have hg7:=qad (qay hgk) hg6;clear h1 hXk hXd d0 d1 d2 d3;go_wp2;go_roundg (nr+1-(k+1))
                    case measure=>omega
                    case rel=>exact⟨k+1,by omega,rfl,by go_num,Hs,hg7⟩
                 . have Hr:Hid (b=false):=by
                    show _=_;rw[<-Hb.out,Pre.out.valid,q10 Hx.out h1];rfl
                   have h1':(((c.qb.flatten.count x:Nat):Int) != 1)=true:=by simp;omega
                   clear Hk;have hXd:jU wr.drew w.heap.size (.slice A1 n1 c1) (.slice A2 n2 c2) (.slice A3 n3 c3) (.slice A4 n4 c4) c:=hXk.new (qay (qah _ none));have hAt:∀v' w',CV w' v' c->Calls prog 161 #[v',.int .i64 x] w' (qhR w' (c.qb.flatten.count x)):=λv' w' hcv=>q1z v' c x w' hcv hdl qW.out;have HAt:=Lib.hid hAt;generalize c.qb.flatten.count x=y at h1' HAt;clear h1 hAt;go_wp2_with fail
                   go_region_law (go_simp;go_at_call 161;refine(HAt.out _ _ (by exact hXd.cv)).mono ?_;rintro e w6 ⟨z,rfl,hg6⟩)
                   all_goals
                    go_wp2;go_ret;exact⟨by rw[Hr.out];rfl,qad g5 (qad (qay hgk) hg6)⟩
               . obtain rfl:nr=k:=by omega
                 have hD:qha qa c=decide (c.qb.flatten.length=(qat qa c.done).length):=by
                  have:=Hk.out;rw[Hnr.out]at this;exact qzj this
                 have HD:=Lib.hid hD;have hp7:=hp5.new hgk;have hX7:=hX5.new hgk;have g7:=qad g5 hgk;clear Hk hD hp5 hX5 g5 hgk;obtain⟨w7,rfl⟩:∃w7:World,w7=wr:=⟨_,rfl⟩;go_wp2_with fail;refine(q1n _ qa _ hp7 Hv.out).mono ?_;rintro e w8 ⟨v8,rfl,qcG,hg8⟩;have g8:=qad g7 hg8;have hX8:=hX7.new hg8;have hr8:=qcG.rl;obtain⟨A8,n8,c8,rfl⟩:=hr8.val;have hn8:=hr8.len;have qnW:n8=n:=by rw[hn8,qhj,Hn.out]
                 clear qcG hg8 hp7 hX7 g7 hn8;subst qnW;go_wp2_with fail
                 go_loopg [12] (n8+1) (λmm i wr=>∃k:Nat,k<=n8/\mm=n8+1-k/\i=.int .i64 k/\Hid (qx7 qa c k)/\w8.grownBy wr none)
                 case atStart=>exact⟨0,Nat.zero_le _,rfl,rfl,λi hi=>absurd hi (Nat.not_lt_zero _),qah _ _⟩
                 case round=>
                  obtain⟨k,hk,rfl,rfl,Hk,hgk⟩:=hrel;have hga:=qar hgk (.cells #[] 3);have hXk:=hX8.new hga;have hrk:=hr8.new hga;have hE:RI (wr.alloc (.cells #[] 3)) (.slice (some ⟨wr.heap.size,0,none⟩) 0 0) []:=(qg.empty wr (Nat.le_refl _)).ri;generalize hWa:wr.alloc (.cells #[] 3)=wa at hga hXk hrk hE;have d2:=hXk.d2;have d3:=hXk.d3;by_cases hlt:k<n8
                  . have qnX:k<n4:=by have h1:=Hn4.out;have h2:=Pre.out.rl;have h3:=Hn.out;omega
                    obtain⟨g,o,l,B,m,e,rfl,hx,c0,hl,-,-,-⟩:=hrk.at_ hlt;obtain⟨g',o',l',B',m',e',rfl,hx',c0',hl',-,-,-⟩:=hXk.ro.at_ qnX;have hkp:k<qa.length:=by rw[<-Hn.out];exact hlt
                    have hval:l=qdi qa k:=by
                     have:=qk4 hkp;rw[hx]at this;injection this
                    have Hx':=Lib.hid hx';have Hkp:=Lib.hid hkp;clear hx hx' hkp;by_cases hD:(k:Int)∈c.done
                    . have HD2:Hid (decide ((k:Int)∈c.done)=true):=decide_eq_true hD;have hw:qfi qa c.done k=l:=by unfold qfi;rw[if_pos hD,hval]
                      by_cases hs:l=l'
                      . have Hs:Hid (decide (l=l')=true):=decide_eq_true hs;have Hn2:Hid (qx7 qa c (k+1)):=qwe Hk.out Hx'.out (hw.trans hs);clear hD hw hs hval Hk;go_wp2_with fail;refine(qen _ _ _ _ hXk.dn HD2.out).mono ?_;rintro e' w9 ⟨rfl,rfl⟩;go_wp2_with fail;refine(ql5 _ _ _ _ _ hl hl' Hs.out).mono ?_;rintro e' w9 ⟨rfl,hg9⟩;go_wp2;go_roundg (n8+1-(k+1))
                        case measure=>omega
                        case rel=>exact⟨k+1,by omega,rfl,by go_num,Hn2,qad hga hg9⟩
                      . have Hs:Hid (decide (l=l')=false):=decide_eq_false hs
                        have Hr:Hid (b=false):=by
                         show _=_;rw[<-Hb.out,Pre.out.valid,qx8 Hkp.out Hx'.out (λe=>hs (hw.symm.trans e)),Bool.and_false]
                        clear hD hw hs hval Hk;go_wp2_with fail;refine(qen _ _ _ _ hXk.dn HD2.out).mono ?_;rintro e' w9 ⟨rfl,rfl⟩;go_wp2_with fail;refine(ql5 _ _ _ _ _ hl hl' Hs.out).mono ?_;rintro e' w9 ⟨rfl,hg9⟩;go_wp2;go_ret;exact⟨by rw[Hr.out];rfl,qad g8 (qad hga hg9)⟩
                    . have HD2:Hid (decide ((k:Int)∈c.done)=false):=decide_eq_false hD;have hw:qfi qa c.done k=[]:=by unfold qfi;rw[if_neg hD]
                      by_cases hs:[]=l'
                      . have Hs:Hid (decide ([]=l')=true):=decide_eq_true hs;have Hn2:Hid (qx7 qa c (k+1)):=qwe Hk.out Hx'.out (hw.trans hs);clear hD hw hs hval Hk;go_wp2_with fail;refine(qen _ _ _ _ hXk.dn HD2.out).mono ?_;rintro e' w9 ⟨rfl,rfl⟩;go_wp2_with fail;refine(ql5 _ _ _ _ _ hE hl' Hs.out).mono ?_;rintro e' w9 ⟨rfl,hg9⟩;go_wp2;go_roundg (n8+1-(k+1))
                        case measure=>omega
                        case rel=>exact⟨k+1,by omega,rfl,by go_num,Hn2,qad hga hg9⟩
                      . have Hs:Hid (decide ([]=l')=false):=decide_eq_false hs
                        have Hr:Hid (b=false):=by
                         show _=_;rw[<-Hb.out,Pre.out.valid,qx8 Hkp.out Hx'.out (λe=>hs (hw.symm.trans e)),Bool.and_false]
                        clear hD hw hs hval Hk;go_wp2_with fail;refine(qen _ _ _ _ hXk.dn HD2.out).mono ?_;rintro e' w9 ⟨rfl,rfl⟩;go_wp2_with fail;refine(ql5 _ _ _ _ _ hE hl' Hs.out).mono ?_;rintro e' w9 ⟨rfl,hg9⟩;go_wp2;go_ret;exact⟨by rw[Hr.out];rfl,qad g8 (qad hga hg9)⟩
                  . obtain rfl:n8=k:=by omega
                    have Hr:Hid (((q:Int)==(nr:Int))=b):=by
                     show _=_;have hk2:=Hk.out;rw[Hn.out]at hk2;rw[<-Hb.out,Pre.out.valid,HD.out,q7c hk2,Bool.and_true,Hq.out,<-Hnr.out,Bool.eq_iff_iff];simp;omega
                    clear Hk hWa hga hXk hrk hE d2 d3;go_wp2;go_ret;exact⟨by rw[Hr.out];rfl,qad g8 hgk⟩
         . have Hr:Hid (b=false):=qgt Hb.out (λe=>hr (by rw[Hn4.out,e.rl,<-Hn.out]));have hne:((n4:Int) != (n:Int))=true:=by simp;omega
           clear hr hc ho hin hv;go_enter func124,ntmps124;go_wp2_with fail;refine(qb7 _ qa _ hpW hpl Hv.out).mono ?_;rintro e w1 ⟨rfl,hg1⟩;have g1:=qad hgW hg1;have hp1:=hpW.new hg1;have hX1:=hX.new hg1;have d0:=hX1.d0;have d2:=hX1.d2;go_wp2_with fail;refine(qed _ _ _ _ Hin.out).mono ?_;rintro e w2 ⟨rfl,rfl⟩;go_wp2_with fail;refine(qmh _ _ qa c.done _ hp1 hX1.dn hpl Ho.out).mono ?_;rintro e w2 ⟨rfl,hg2⟩;replace g1:=qad g1 hg2;replace hp1:=hp1.new hg2;replace hX1:=hX1.new hg2;clear d0 d2;have d0:=hX1.d0;have d2:=hX1.d2;have d1:=hX1.d1;have d3:=hX1.d3;go_wp2_with fail;refine(qoe _ _ qa c _ hp1 hX1.cv Hv.out Ho.out Hc.out).mono ?_;rintro e w3 ⟨rfl,hg3⟩;have g3:=qad g1 hg3;have hX3:=hX1.new hg3;clear d0 d1 d2 d3;have d3:=hX3.d3;go_wp2;go_ret;exact⟨by rw[Hr.out];rfl,g3⟩
       . have Hr:Hid (b=false):=qgt Hb.out (λe=>hc (by rw[e.counts,qio e.pv e.order]));have Hc:Hid (decide (c.counts=qbr qa c.done)=false):=decide_eq_false hc;clear hc ho hin hv;go_enter func124,ntmps124;go_wp2_with fail;refine(qb7 _ qa _ hpW hpl Hv.out).mono ?_;rintro e w1 ⟨rfl,hg1⟩;have g1:=qad hgW hg1;have hp1:=hpW.new hg1;have hX1:=hX.new hg1;have d0:=hX1.d0;have d2:=hX1.d2;go_wp2_with fail;refine(qed _ _ _ _ Hin.out).mono ?_;rintro e w2 ⟨rfl,rfl⟩;go_wp2_with fail;refine(qmh _ _ qa c.done _ hp1 hX1.dn hpl Ho.out).mono ?_;rintro e w2 ⟨rfl,hg2⟩;replace g1:=qad g1 hg2;replace hp1:=hp1.new hg2;replace hX1:=hX1.new hg2;clear d0 d2;have d0:=hX1.d0;have d2:=hX1.d2;have d1:=hX1.d1;have d3:=hX1.d3;go_wp2_with fail;refine(qoe _ _ qa c _ hp1 hX1.cv Hv.out Ho.out Hc.out).mono ?_;rintro e w3 ⟨rfl,hg3⟩;have g3:=qad g1 hg3;go_wp2;go_ret;exact⟨by rw[Hr.out];rfl,g3⟩
     . have Hr:Hid (b=false):=qgt Hb.out (λe=>ho e.order);have Ho':Hid (qb6 qa c.done=false):=by show _=_;simpa using ho
       clear ho hin hv;go_enter func124,ntmps124;go_wp2_with fail;refine(qb7 _ qa _ hpW hpl Hv.out).mono ?_;rintro e w1 ⟨rfl,hg1⟩;have g1:=qad hgW hg1;have hp1:=hpW.new hg1;have hX1:=hX.new hg1;have d0:=hX1.d0;have d2:=hX1.d2;go_wp2_with fail;refine(qed _ _ _ _ Hin.out).mono ?_;rintro e w2 ⟨rfl,rfl⟩;go_wp2_with fail;refine(qmh _ _ qa c.done _ hp1 hX1.dn hpl Ho'.out).mono ?_;rintro e w2 ⟨rfl,hg2⟩;replace g1:=qad g1 hg2;replace hp1:=hp1.new hg2;replace hX1:=hX1.new hg2;clear d0 d2;have d0:=hX1.d0;have d2:=hX1.d2;go_wp2;go_ret;exact⟨by rw[Hr.out];rfl,g1⟩
   . have Hr:Hid (b=false):=qgt Hb.out (λe=>hin ⟨by have:=Hn1.out;have:=e.d1;omega,by have:=Hn1.out;have:=e.d4;omega⟩)
     have Hin:Hid ((decide ((1:Int)<=(n1:Int))&&decide ((n1:Int)<=4))=false):=by
      show _=_;rw[Bool.and_eq_false_iff,decide_eq_false_iff_not,decide_eq_false_iff_not];omega
     clear hin hv;go_enter func124,ntmps124;go_wp2_with fail;refine(qb7 _ qa _ hpW hpl Hv.out).mono ?_;rintro e w1 ⟨rfl,hg1⟩;have g1:=qad hgW hg1;have hp1:=hpW.new hg1;have hX1:=hX.new hg1;have d0:=hX1.d0;have d2:=hX1.d2;go_wp2_with fail;refine(qed _ _ _ _ Hin.out).mono ?_;rintro e w2 ⟨rfl,rfl⟩;go_wp2;go_ret;exact⟨by rw[Hr.out];rfl,g1⟩
 . have Hr:Hid (b=false):=qgt Hb.out (λe=>hv e.pv);have Hv':Hid (qaf qa=false):=by show _=_;simpa using hv
   clear hv;go_enter func124,ntmps124;go_wp2_with fail;refine(qb7 _ qa _ hpW hpl Hv'.out).mono ?_;rintro e w1 ⟨rfl,hg1⟩;have g1:=qad hgW hg1;go_wp2;go_ret;exact⟨by rw[Hr.out];rfl,g1⟩
theorem qeg(w:World)(g:Nat)(u v x y:Value):w.grownBy ((((w.setCell ⟨g,0,none⟩ u).setCell ⟨g,1,none⟩ v).setCell ⟨g,2,none⟩ x).setCell ⟨g,3,none⟩ y) (some g):=
 qbf (q7w w g u v x) (.inr rfl) y
structure qy(w wx:World)(xb R x3 b2:Nat)(d0 k0 o0 r0 d k o r:Value)(c:qj)(D Rw:List (List Int))(xs ys:List Value):Prop where
 b:jU wx xb d0 k0 o0 r0 c
 res:Blk wx R 29 #[.slice none 0 0,.slice none 0 0,.slice none 0 0,.slice none 0 0]
 x:Blk wx x3 29 #[d,k,o,r]
 dq:LX wx w.heap.size d D xs
 ct:RI wx k c.counts
 dn:qg wx w.heap.size o c.done
 ro:LX wx b2 r Rw ys
 hb:w.heap.size<=b2
 hbx:b2<=wx.heap.size
 ap:r=.slice none 0 0∨∀g,d.ownBlock=some g->g<b2
 al:Apart (o::(xs++ys))
 g:w.grownBy wx none
 lx:w.heap.size<=x3
 nb:xb≠x3
 nr:R≠x3
 hR:w.heap.size<=R
section
variable {w wx wy:World}{xb R x3 b2:Nat}{d0 k0 o0 r0 d k o r:Value}{c:qj}{D Rw:List (List Int)}{xs ys:List Value}
theorem qy.new(M:qy w wx xb R x3 b2 d0 k0 o0 r0 d k o r c D Rw xs ys)(hg:wx.grownBy wy none):qy w wy xb R x3 b2 d0 k0 o0 r0 d k o r c D Rw xs ys:=
 ⟨M.b.new hg,M.res.grown hg (by simp),M.x.grown hg (by simp),M.dq.new hg,M.ct.new hg,M.dn.new hg,M.ro.new hg,M.hb,Nat.le_trans M.hbx hg.size,M.ap,M.al,qad M.g hg,M.lx,M.nb,M.nr,M.hR⟩
theorem jU.grown{w w':World}{g:Nat}{d k o r:Value}{c:qj}{row:Option Nat}(h:jU w g d k o r c)(hg:w.grownBy w' row)(hne:some g≠row)(hr:qh w 3 row)(hr':qh w 24 row):jU w' g d k o r c:=
 ⟨h.b.grown hg hne,h.dq.grown hg hr hr',h.ct.grown hg hr,h.dn.grown hg hr,h.ro.grown hg hr hr'⟩
theorem qy.lts(M:qy w wx xb R x3 b2 d0 k0 o0 r0 d k o r c D Rw xs ys):∀u∈o::(xs++ys),∀g,u.ownBlock=some g->g<wx.heap.size:=by
 intro u hu g hg;rcases mem_cons.1 hu with rfl|hu
 . exact(M.dn.lt g hg).2
 . rcases mem_append.1 hu with hu|hu
   . exact(M.dq.lts u hu g hg).2
   . exact(M.ro.lts u hu g hg).2
theorem qy.apR(M:qy w wx xb R x3 b2 d0 k0 o0 r0 d k o r c D Rw xs ys){f:Value}{l:List Int}(hf:qg wy wx.heap.size f l):Apart (o::(xs++(ys++[f]))):=by
 have:=M.al.join (Apart.one f) M.lts (λu hu g hg=>by obtain rfl:u=f:=(by simpa using hu);exact(hf.lt g hg).1);simpa using this
theorem qy.apD(M:qy w wx xb R x3 b2 d0 k0 o0 r0 d k o r c D Rw xs []){f:Value}{l:List Int}(hf:qg wy wx.heap.size f l):Apart (o::((xs++[f])++[])):=by
 have:=M.apR hf;simpa using this
theorem qy.kR(M:qy w wx xb R x3 b2 d0 k0 o0 r0 d k o (.slice none 0 0) c D [] xs [])(hc:CV w (.agg #[d0,k0,o0,r0]) c)(hg:wx.grownBy wy d.ownBlock){v' f:Value}{D':List (List Int)}(ho:LX wy w.heap.size v' D' (xs++[f]))(hal:Apart (o::((xs++[f])++[]))) :
   wy.cell? ⟨x3,0,none⟩=some d/\wy.frozen? ⟨x3,0,none⟩=false/\qy w (wy.setCell ⟨x3,0,none⟩ v') xb R x3 b2 d0 k0 o0 r0 v' k o (.slice none 0 0) c D' [] (xs++[f]) []:=by
 have hne:∀{g:Nat} {cs:Array Value},Blk wx g 29 cs->some g≠d.ownBlock:=λhb e=>M.dq.jL (by decide) _ e.symm _ hb;have hx:=M.x.grown hg (hne M.x);have hst:wy.grownBy (wy.setCell ⟨x3,0,none⟩ v') (some x3):=qbf (qah wy (some x3)) (.inr rfl) _;have hg2:w.grownBy wy none:=M.dq.gb M.g hg (Nat.le_refl _);have hg3:w.grownBy (wy.setCell ⟨x3,0,none⟩ v') none:=qbf hg2 (.inl M.lx) _;have hn2:qh wy 3 (some x3):=qh.blk hx (by decide);have hn3:qh wy 24 (some x3):=qh.blk hx (by decide);have hn1:qh wx 3 d.ownBlock:=M.dq.jL (by decide);obtain⟨d0',k0',o0',r0',e,q1,q2,q3,q4⟩:=hc;injection e with e;injection e with e;injection e with e1 e;injection e with e2 e;injection e with e3 e;injection e with e4 e;subst e1 e2 e3 e4;refine⟨hx.cell 0,hx.frozen 0,⟨(M.b.b.grown hg (hne M.b.b)).far M.nb _,q1.new hg3,q2.new hg3,q3.new hg3,q4.new hg3⟩,(M.res.grown hg (hne M.res)).far M.nr _,hx.jr 0 v',?_,(M.ct.grown hg hn1).grown hst hn2,(M.dn.grown hg hn1).grown hst hn2,LX.nil _ _,M.hb,?_,.inl rfl,hal,hg3,M.lx,M.nb,M.nr,M.hR⟩
 . exact ho.grown hst hn2 hn3
 . exact Nat.le_trans M.hbx (Nat.le_trans hg.size hst.size)
theorem qy.kS(M:qy w wx xb R x3 b2 d0 k0 o0 r0 d k o r c D Rw xs ys)(hlt:∀g,d.ownBlock=some g->g<b2)(hc:CV w (.agg #[d0,k0,o0,r0]) c)(hg:wx.grownBy wy r.ownBlock){v' f:Value}{R':List (List Int)}(ho:LX wy b2 v' R' (ys++[f]))(hal:Apart (o::(xs++(ys++[f])))) :
   wy.cell? ⟨x3,3,none⟩=some r/\wy.frozen? ⟨x3,3,none⟩=false/\qy w (wy.setCell ⟨x3,3,none⟩ v') xb R x3 b2 d0 k0 o0 r0 d k o v' c D R' xs (ys++[f]):=by
 have hne:∀{g:Nat} {cs:Array Value},Blk wx g 29 cs->some g≠r.ownBlock:=λhb e=>M.ro.jL (by decide) _ e.symm _ hb;have hx:=M.x.grown hg (hne M.x);have hst:wy.grownBy (wy.setCell ⟨x3,3,none⟩ v') (some x3):=qbf (qah wy (some x3)) (.inr rfl) _;have hg2:w.grownBy wy none:=M.ro.gb M.g hg M.hb;have hg3:w.grownBy (wy.setCell ⟨x3,3,none⟩ v') none:=qbf hg2 (.inl M.lx) _;have hn2:qh wy 3 (some x3):=qh.blk hx (by decide);have hn3:qh wy 24 (some x3):=qh.blk hx (by decide);have hn1:qh wx 3 r.ownBlock:=M.ro.jL (by decide)
 have hdq:LX wy w.heap.size d D xs:=by
  cases hr:r.ownBlock with
  |none=>rw[hr]at hg;exact M.dq.new hg
  |some b=>
   rw[hr]at hg;refine M.dq.far hg (hr▸hn1) (λe=>?_);have:=hlt b e;have:=(M.ro.lt b hr).1;omega
 obtain⟨d0',k0',o0',r0',e,q1,q2,q3,q4⟩:=hc;injection e with e;injection e with e;injection e with e1 e;injection e with e2 e;injection e with e3 e;injection e with e4 e;subst e1 e2 e3 e4;refine⟨hx.cell 3,hx.frozen 3,⟨(M.b.b.grown hg (hne M.b.b)).far M.nb _,q1.new hg3,q2.new hg3,q3.new hg3,q4.new hg3⟩,(M.res.grown hg (hne M.res)).far M.nr _,hx.jr 3 v',hdq.grown hst hn2 hn3,(M.ct.grown hg hn1).grown hst hn2,(M.dn.grown hg hn1).grown hst hn2,ho.grown hst hn2 hn3,M.hb,Nat.le_trans M.hbx (Nat.le_trans hg.size hst.size),.inr hlt,hal,hg3,M.lx,M.nb,M.nr,M.hR⟩
end
def qzk(w:World)(c:qj)(e:Ending)(w':World):Prop:=∃v,e=.returned v/\qbP w' w.heap.size v c/\w.grownBy w' none
theorem qy.mk0{w W w1:World}{x3:Nat}{d0 k0 o0 r0 k o:Value}{c:qj}(hgW:w.grownBy W none)(hg:W.grownBy w1 none)(hX:jU W w.heap.size d0 k0 o0 r0 c)(hR:Blk W (w.heap.size+1) 29 #[.slice none 0 0,.slice none 0 0,.slice none 0 0,.slice none 0 0])
   (hB:Blk w1 x3 29 #[.slice none 0 0,.slice none 0 0,.slice none 0 0,.slice none 0 0]) (hbg:W.heap.size<=x3) (hk:qg w1 W.heap.size k c.counts) (ho:qg w1 W.heap.size o c.done) :
   qy w ((((w1.setCell ⟨x3,0,none⟩ (.slice none 0 0)).setCell ⟨x3,1,none⟩ k).setCell ⟨x3,2,none⟩ o).setCell ⟨x3,3,none⟩ (.slice none 0 0)) w.heap.size (w.heap.size+1) x3 w.heap.size d0 k0 o0 r0 (.slice none 0 0) k o (.slice none 0 0) c [] [] [] []:=by
 have hst:=qeg w1 x3 (.slice none 0 0) k o (.slice none 0 0);have hn:qh w1 3 (some x3):=qh.blk hB (by decide);have hn':qh w1 24 (some x3):=qh.blk hB (by decide);have h1:=hX.b.lt;have h2:=hR.lt;have h3:=hgW.size;have hs:=hg.size
 exact⟨(hX.new hg).grown hst (by simp;omega) hn hn',(hR.grown hg (by simp)).grown hst (by simp;omega),(((hB.jr 0 _).jr 1 _).jr 2 _).jr 3 _,LX.nil _ _,hk.ri.grown hst hn,(ho.low h3).grown hst hn,LX.nil _ _,Nat.le_refl _,Nat.le_trans h3 (Nat.le_trans hs hst.size),.inl rfl,Apart.one _,
  qbd (qad hgW hg) hst (λg e=>by cases e;exact .inl (by omega)),by omega,by omega,by omega,by omega⟩
theorem qy.end_{w wx:World}{xb R x3 b2:Nat}{d0 k0 o0 r0 d k o r:Value}{c:qj}{xs ys:List Value}(M:qy w wx xb R x3 b2 d0 k0 o0 r0 d k o r c c.qb c.rows xs ys) :
   qzk w c (.returned (.agg #[d,k,o,r])) ((((wx.setCell ⟨R,0,none⟩ d).setCell ⟨R,1,none⟩ k).setCell ⟨R,2,none⟩ o).setCell ⟨R,3,none⟩ r):=by
 have hst:=qeg wx R d k o r;have hne:qh wx 3 (some R):=qh.blk M.res (by decide);have xK:qh wx 24 (some R):=qh.blk M.res (by decide);have hro:=M.ro.low M.hb;refine⟨_,rfl,⟨d,k,o,r,xs,ys,rfl,M.dq.grown hst hne xK,M.ct.grown hst hne,M.dn.grown hst hne,hro.grown hst hne xK,M.al,λg hg hr=>?_⟩,qbd M.g hst (λg e=>by cases e;exact .inl M.hR)⟩;rcases M.ap with h|h
 . rw[h]at hr;cases hr
 . have:=h g hg;have:=(M.ro.lt g hr).1;omega
def cpF(xb base:Nat)(k0 o0:Value)(c:qj):Nat->World->Value->Prop
 |0,w,v=>∃g,v=.slice (some ⟨g,0,none⟩) 0 0/\Blk w g 3 #[]/\base<=g
 |1,_,v=>v=.pointer (some ⟨xb,1,none⟩)
 |2,_,v=>v=k0
 |3,w,v=>qg w base v c.counts
 |4,w,v=>∃g,v=.slice (some ⟨g,0,none⟩) 0 0/\Blk w g 3 #[]/\base<=g
 |5,_,v=>v=.pointer (some ⟨xb,2,none⟩)
 |6,_,v=>v=o0
 |7,w,v=>qg w base v c.done
 |8,w,v=>∃k o,v=.agg #[.slice none 0 0,k,o,.slice none 0 0]/\qg w base k c.counts/\qg w base o c.done
 |9,w,v=>∃g,v=.pointer (some ⟨g,0,none⟩)/\Blk w g 29 #[.slice none 0 0,.slice none 0 0,.slice none 0 0,.slice none 0 0]/\base<=g
 |_,_,_=>True
theorem qnY{xb base:Nat}{k0 o0:Value}{c:qj}(j:Nat)(w w':World)(v:Value)(h:cpF xb base k0 o0 c j w v)(hg:w.grownBy w' none):cpF xb base k0 o0 c j w' v:=by
 match j,h with
 |0,⟨g,h1,h2,h3⟩=>exact⟨g,h1,h2.grown hg (by simp),h3⟩
 |1,h=>exact h
 |2,h=>exact h
 |3,h=>exact qg.new h hg
 |4,⟨g,h1,h2,h3⟩=>exact⟨g,h1,h2.grown hg (by simp),h3⟩
 |5,h=>exact h
 |6,h=>exact h
 |7,h=>exact qg.new h hg
 |8,⟨k,o,h1,h2,h3⟩=>exact⟨k,o,h1,h2.new hg,h3.new hg⟩
 |9,⟨g,h1,h2,h3⟩=>exact⟨g,h1,h2.grown hg (by simp),h3⟩
 |_+10,_=>trivial
theorem qof(v:Value)(c:qj)(w:World)(h:CV w v c)(hf1:c.qb.length<=1000)(hf2:∀l∈c.qb,l.length<=1000000)(hf3:c.rows.length<=1000)(hf4:∀l∈c.rows,l.length<=1000000)(hf5:c.counts.length<=1000000)(hf6:c.done.length<=1000000) :
   Calls prog 126 #[v] w (qzk w c):=by
 obtain⟨A1,n1,c1,A2,n2,c2,A3,n3,c3,A4,n4,c4,rfl,h1,h2,h3,h4⟩:=h.form;have hX:=h.box;have hn1:=h1.len;have hn4:=h4.len;have Hn1:=Lib.hid hn1;have Hn4:=Lib.hid hn4;have hk1:n1<=1000:=by omega
 have hk4:n4<=1000:=by omega
 have Hf2:=Lib.hid hf2;have Hf4:=Lib.hid hf4;have Hcv:=Lib.hid h;clear hn1 hn4 hf2 hf4 h1 h2 h3 h4 h;go_enter func126,ntmps126;go_upto_region 1 with fail;have hR0:=Blk.new (w.alloc (.cells #[.slice A1 n1 c1,.slice A2 n2 c2,.slice A3 n3 c3,.slice A4 n4 c4] 29)) 29 #[.slice none 0 0,.slice none 0 0,.slice none 0 0,.slice none 0 0];rw[World.size_alloc]at hR0;have hX0:=hX.new (World.grownBy_alloc _ (.cells #[.slice none 0 0,.slice none 0 0,.slice none 0 0,.slice none 0 0] 29) none);have hgW:w.grownBy ((w.alloc (.cells #[.slice A1 n1 c1,.slice A2 n2 c2,.slice A3 n3 c3,.slice A4 n4 c4] 29)).alloc (.cells #[.slice none 0 0,.slice none 0 0,.slice none 0 0,.slice none 0 0] 29)) none:=qar (qar (qah w none) _) _;generalize ((w.alloc (.cells #[.slice A1 n1 c1,.slice A2 n2 c2,.slice A3 n3 c3,.slice A4 n4 c4] 29)).alloc (.cells #[.slice none 0 0,.slice none 0 0,.slice none 0 0,.slice none 0 0] 29))=W at hR0 hX0 hgW |-;have HR0:=Lib.hid hR0;have kT:=hR0.lt;have qaV:=hX0.b.lt;clear hX hR0
 go_cut [3] (λt3 wx=>∃x3 k' o',t3=.pointer (some ⟨x3,0,none⟩)/\qy w wx w.heap.size (w.heap.size+1) x3 w.heap.size (.slice A1 n1 c1) (.slice A2 n2 c2) (.slice A3 n3 c3) (.slice A4 n4 c4) (.slice none 0 0) k' o' (.slice none 0 0) c [] [] [] [])
 case first=>
  refine qwx (n:=10) (m:=54) (F:=cpF w.heap.size W.heap.size (.slice A2 n2 c2) (.slice A3 n3 c3) c) (by kernel_rfl) (by kernel_rfl) rfl qnY ?_ ?_
  . have hb1:Hid (jU W w.heap.size (.slice A1 n1 c1) (.slice A2 n2 c2) (.slice A3 n3 c3) (.slice A4 n4 c4) c):=hX0;have hct:c.counts.length<=1000000000:=by omega
    have hdt:c.done.length<=1000000000:=by omega
    have hgD:W.grownBy W.drew none:=qay (qah _ none);clear hX0;intro j hj o a w1 K ho hg hs hb hK;have hg0:=qad hgD hg;have hbx:=hb1.out.new hg0;have hsz:W.heap.size<=w1.heap.size:=hg0.size;have e1:a.tmps[1]?=some (.pointer (some ⟨w.heap.size,0,none⟩)):=(hs.2.2 1 (by decide)).trans rfl
    match j,hj with
    |0,_=>
     obtain rfl:=Option.some.inj ho;exact qlc (v:=.slice (some ⟨w1.heap.size,0,none⟩) 0 0) (w':=w1.alloc (.cells #[] 3)) (by simp[go_sem,execOp]) (hK _ _ (World.grownBy_alloc _ _ _) ⟨_,rfl,Blk.new _ _ _,hsz⟩)
    |1,_=>
     obtain rfl:=Option.some.inj ho;exact qlb (v:=.pointer (some ⟨w.heap.size,1,none⟩)) (by simp[go_sem,execOp,e1]) (hK _ _ (qah _ _) rfl)
    |2,_=>
     obtain rfl:=Option.some.inj ho;obtain⟨_,q1,rfl⟩:=hb 1 (by decide) (by kernel_rfl);have e7:a.tmps[7]?=some _:=q1;have d1:=hbx.d1;exact qlb (v:=.slice A2 n2 c2) (by simp[go_sem,execOp,e7,d1]) (hK _ _ (qah _ _) rfl)
    |3,_=>
     obtain rfl:=Option.some.inj ho;obtain⟨_,q1,g,rfl,hB,hbg⟩:=hb 0 (by decide) (by kernel_rfl);obtain⟨_,q2,rfl⟩:=hb 2 (by decide) (by kernel_rfl);have e6:a.tmps[6]?=some _:=q1;have e8:a.tmps[8]?=some _:=q2;obtain⟨v',w',hr,h3,h4⟩:=q0f 24 hB hbg hbx.ct hct;exact qlc (v:=v') (w':=w') (by simp[execOp,resolve,invoke,builtin,qt0 e6,qt0 e8,hr]) (hK _ _ h4 h3)
    |4,_=>
     obtain rfl:=Option.some.inj ho;exact qlc (v:=.slice (some ⟨w1.heap.size,0,none⟩) 0 0) (w':=w1.alloc (.cells #[] 3)) (by simp[go_sem,execOp]) (hK _ _ (World.grownBy_alloc _ _ _) ⟨_,rfl,Blk.new _ _ _,hsz⟩)
    |5,_=>
     obtain rfl:=Option.some.inj ho;exact qlb (v:=.pointer (some ⟨w.heap.size,2,none⟩)) (by simp[go_sem,execOp,e1]) (hK _ _ (qah _ _) rfl)
    |6,_=>
     obtain rfl:=Option.some.inj ho;obtain⟨_,q1,rfl⟩:=hb 5 (by decide) (by kernel_rfl);have e7:a.tmps[11]?=some _:=q1;have d1:=hbx.d2;exact qlb (v:=.slice A3 n3 c3) (by simp[go_sem,execOp,e7,d1]) (hK _ _ (qah _ _) rfl)
    |7,_=>
     obtain rfl:=Option.some.inj ho;obtain⟨_,q1,g,rfl,hB,hbg⟩:=hb 4 (by decide) (by kernel_rfl);obtain⟨_,q2,rfl⟩:=hb 6 (by decide) (by kernel_rfl);have e6:a.tmps[10]?=some _:=q1;have e8:a.tmps[12]?=some _:=q2;obtain⟨v',w',hr,h3,h4⟩:=q0f 24 hB hbg hbx.dn hdt;exact qlc (v:=v') (w':=w') (by simp[execOp,resolve,invoke,builtin,qt0 e6,qt0 e8,hr]) (hK _ _ h4 h3)
    |8,_=>
     obtain rfl:=Option.some.inj ho;obtain⟨k',q1,hk'⟩:=hb 3 (by decide) (by kernel_rfl);obtain⟨o',q2,ho'⟩:=hb 7 (by decide) (by kernel_rfl);obtain⟨Ak,nk,ck,rfl⟩:=(show qg _ _ k' _ from hk').ri.val;obtain⟨Ao,no,co,rfl⟩:=(show qg _ _ o' _ from ho').ri.val;have e9:a.tmps[9]?=some _:=q1;have e13:a.tmps[13]?=some _:=q2;exact qlb (v:=.agg #[.slice none 0 0,.slice Ak nk ck,.slice Ao no co,.slice none 0 0]) (by simp[go_sem,execOp,e9,e13]) (hK _ _ (qah _ _) ⟨_,_,rfl,hk',ho'⟩)
    |9,_=>
     obtain rfl:=Option.some.inj ho;exact qlc (v:=.pointer (some ⟨w1.heap.size,0,none⟩)) (w':=w1.alloc (.cells #[.slice none 0 0,.slice none 0 0,.slice none 0 0,.slice none 0 0] 29)) (by simp[go_sem,execOp]) (hK _ _ (World.grownBy_alloc _ _ _) ⟨_,rfl,Blk.new _ _ _,hsz⟩)
  . intro vs hvs w1 hg hall
    match vs,hvs with
    |[v0,v1,v2,v3,v4,v5,v6,v7,v8,v9],_=>
     obtain⟨x3,e9,hB,hbg⟩:=hall 9 (by decide);obtain⟨k',o',e8,hk',ho'⟩:=hall 8 (by decide);obtain rfl:v9=.pointer (some ⟨x3,0,none⟩):=e9;obtain rfl:v8=.agg #[.slice none 0 0,k',o',.slice none 0 0]:=e8;have b0:=hB.cell 0;have b1:=hB.cell 1;have b2:=hB.cell 2;have b3:=hB.cell 3;have f0:=hB.frozen 0;have f1:=hB.frozen 1;have f2:=hB.frozen 2;have f3:=hB.frozen 3;have qfI:qg w1 W.heap.size k' c.counts:=hk';have qfJ:qg w1 W.heap.size o' c.done:=ho';obtain⟨Ak,nk,ck,rfl⟩:=qfI.ri.val;obtain⟨Ao,no,co,rfl⟩:=qfJ.ri.val;simp only[qun,range,range.loop,foldl,vg,Act.put,drop];go_wp2_with fail;have M:=qy.mk0 hgW (qad (qay (qah _ none)) hg) hX0 HR0.out hB hbg qfI qfJ;clear b0 b1 b2 b3 f0 f1 f2 f3 qfI qfJ hB;go_meet;exact⟨x3,_,_,rfl,M⟩
 case rest=>
  obtain⟨x3,k',o',rfl,M⟩:=hcut;clear hX0 HR0 hgW kT qaV;have hs1:w.heap.size<=w.heap.size+1:=Nat.le_succ _;generalize w.heap.size+1=R at M |-;go_wp2_with fail
  go_loopg [4] (n1+1) (λmm i wr=>∃(k:Nat) (d:Value) (xs:List Value),k<=n1/\mm=n1+1-k/\i=.int .i64 k/\qy w wr w.heap.size R x3 w.heap.size (.slice A1 n1 c1) (.slice A2 n2 c2) (.slice A3 n3 c3) (.slice A4 n4 c4) d k' o' (.slice none 0 0) c (c.qb.take k) [] xs [])
  case atStart=>exact⟨0,_,_,Nat.zero_le _,rfl,rfl,M⟩
  case round=>
   clear M;obtain⟨k,d,xs,hk,rfl,rfl,M⟩:=hrel;have b0:=M.b.d0;by_cases hlt:k<n1
   . obtain⟨g,o,l,B,m,e',rfl,hl,q0,qcC,-,-,-⟩:=M.b.dq.at_ hlt;have qnZ:l.length<=1000000:=Hf2.out l (mem_of_getElem? hl)
     have Ht:Hid (c.qb.take (k+1)=c.qb.take k++[l]):=by
      show _=_;obtain⟨hkl,rfl⟩:=List.getElem?_eq_some_iff.1 hl;rw[take_succ_eq_append_getElem hkl]
     have htl:(c.qb.take k).length<=1000:=by rw[length_take];omega
     obtain⟨Af,nf,cf,rfl⟩:=M.dq.rl.val;have hlb:w.heap.size<wr.heap.size:=M.b.b.lt;have hlx:x3<wr.heap.size:=M.x.lt;have hlg:g<wr.heap.size:=by simpa using qf5 q0
     have x0:=M.x.cell 0;have hE:qg (wr.alloc (.cells #[] 3)).drew wr.heap.size (.slice (some ⟨wr.heap.size,0,none⟩) 0 0) []:=qg.empty wr (Nat.le_refl _);have hgE:wr.grownBy (wr.alloc (.cells #[] 3)).drew none:=qay (World.grownBy_alloc wr _ none);have hrE:RI (wr.alloc (.cells #[] 3)).drew (.slice B m e') l:=qcC.new hgE;have hlen:([]:List Int).length+l.length<=1000000000:=by simp only[length_nil];omega
     clear hl;go_wp2_with fail
     go_region_law (first
      |(refine qer (w:=(wr.alloc (.cells #[] 3)).drew) (base:=wr.heap.size) (v:=.slice (some ⟨wr.heap.size,0,none⟩) 0 0) (xv:=.slice B m e') (l0:=[]) (l:=l) (.tmp 24) (.tmp 29) rfl rfl hE hrE hlen hgE.size rfl rfl ?_;intro v' w4 qx hg4;have hg5:=hE.gb hgE hg4 (Nat.le_refl _);have M4:=M.new hg5;have x04:=M4.x.cell 0;have hl4:x3<w4.heap.size:=Nat.lt_of_lt_of_le hlx hg5.size;obtain⟨A4',n4',c4',rfl⟩:=qx.ri.val;have r4:qg w4 wr.heap.size (.slice A4' n4' c4') l:=by simpa using qx)
      |(refine qld (w:=w4) (base:=w.heap.size) (v:=.slice Af nf cf) (ll:=c.qb.take k) (l:=l) (f:=.slice A4' n4' c4') (.tmp 23) (.tmp 31) rfl rfl M4.dq (r4.low M.g.size) (by omega) M4.g.size rfl rfl ?_;intro v5 w5 qX hg6;obtain⟨z1,z2,M5⟩:=M4.kR Hcv.out hg6 qX (M.apD r4);obtain⟨A5,n5,c5,rfl⟩:=qX.rl.val))
     all_goals
      rw[<-Ht.out]at M5;go_wp2;go_roundg (n1+1-(k+1))
      case measure=>omega
      case rel=>exact⟨k+1,_,_,by omega,rfl,by go_num,M5⟩
   . obtain rfl:n1=k:=by omega
     have M0:qy w wr w.heap.size R x3 wr.heap.size (.slice A1 n1 c1) (.slice A2 n2 c2) (.slice A3 n3 c3) (.slice A4 n4 c4) d k' o' (.slice none 0 0) c c.qb [] xs []:=by
      have e:c.qb.take n1=c.qb:=take_of_length_le (by rw[<-Hn1.out];exact Nat.le_refl _);rw[e]at M;exact{M with ro:=LX.nil _ _,hb:=M.g.size,hbx:=Nat.le_refl _,ap:=.inl rfl}
     have Hlt:Hid (∀g,d.ownBlock=some g->g<wr.heap.size):=λg hg=>(M0.dq.lt g hg).2;clear M;obtain⟨w3,rfl⟩:∃w3:World,w3=wr:=⟨_,rfl⟩;go_wp2_with fail;generalize w3.heap.size=b2 at M0 Hlt
     go_loopg [5] (n4+1) (λmm i wr=>∃(k:Nat) (r:Value) (ys:List Value),k<=n4/\mm=n4+1-k/\i=.int .i64 k/\qy w wr w.heap.size R x3 b2 (.slice A1 n1 c1) (.slice A2 n2 c2) (.slice A3 n3 c3) (.slice A4 n4 c4) d k' o' r c c.qb (c.rows.take k) xs ys)
     case atStart=>exact⟨0,_,_,Nat.zero_le _,rfl,rfl,M0⟩
     case round=>
      clear M0;obtain⟨k,r,ys,hk,rfl,rfl,M⟩:=hrel;have b3:=M.b.d3;by_cases hlt:k<n4
      . obtain⟨g,o,l,B,m,e',rfl,hl,q0,qcC,-,-,-⟩:=M.b.ro.at_ hlt;have qnZ:l.length<=1000000:=Hf4.out l (mem_of_getElem? hl)
        have Ht:Hid (c.rows.take (k+1)=c.rows.take k++[l]):=by
         show _=_;obtain⟨hkl,rfl⟩:=List.getElem?_eq_some_iff.1 hl;rw[take_succ_eq_append_getElem hkl]
        have htl:(c.rows.take k).length<=1000:=by rw[length_take];omega
        obtain⟨Af,nf,cf,rfl⟩:=M.ro.rl.val;have hlb:w.heap.size<wr.heap.size:=M.b.b.lt;have hlx:x3<wr.heap.size:=M.x.lt;have hlg:g<wr.heap.size:=by simpa using qf5 q0
        have x0:=M.x.cell 3;have hE:qg (wr.alloc (.cells #[] 3)).drew wr.heap.size (.slice (some ⟨wr.heap.size,0,none⟩) 0 0) []:=qg.empty wr (Nat.le_refl _);have hgE:wr.grownBy (wr.alloc (.cells #[] 3)).drew none:=qay (World.grownBy_alloc wr _ none);have hrE:RI (wr.alloc (.cells #[] 3)).drew (.slice B m e') l:=qcC.new hgE;have hlen:([]:List Int).length+l.length<=1000000000:=by simp only[length_nil];omega
        clear hl;go_wp2_with fail
        go_region_law (first
         |(refine qer (w:=(wr.alloc (.cells #[] 3)).drew) (base:=wr.heap.size) (v:=.slice (some ⟨wr.heap.size,0,none⟩) 0 0) (xv:=.slice B m e') (l0:=[]) (l:=l) (.tmp 43) (.tmp 48) rfl rfl hE hrE hlen hgE.size rfl rfl ?_;intro v' w4 qx hg4;have hg5:=hE.gb hgE hg4 (Nat.le_refl _);have M4:=M.new hg5;have x04:=M4.x.cell 3;have hl4:x3<w4.heap.size:=Nat.lt_of_lt_of_le hlx hg5.size;obtain⟨A4',n4',c4',rfl⟩:=qx.ri.val;have r4:qg w4 wr.heap.size (.slice A4' n4' c4') l:=by simpa using qx)
         |(refine qld (w:=w4) (base:=b2) (v:=.slice Af nf cf) (ll:=c.rows.take k) (l:=l) (f:=.slice A4' n4' c4') (.tmp 42) (.tmp 50) rfl rfl M4.ro (r4.low M.hbx) (by omega) M4.hbx rfl rfl ?_;intro v5 w5 qX hg6;obtain⟨z1,z2,M5⟩:=M4.kS Hlt.out Hcv.out hg6 qX (M.apR r4);obtain⟨A5,n5,c5,rfl⟩:=qX.rl.val))
        all_goals
         rw[<-Ht.out]at M5;go_wp2;go_roundg (n4+1-(k+1))
         case measure=>omega
         case rel=>exact⟨k+1,_,_,by omega,rfl,by go_num,M5⟩
      . obtain rfl:n4=k:=by omega
        have e:c.rows.take n4=c.rows:=take_of_length_le (by rw[<-Hn4.out];exact Nat.le_refl _);rw[e]at M;have hcr:=M.end_;obtain⟨Ad,nd,cd,rfl⟩:=M.dq.rl.val;obtain⟨Ak,nk,ck,rfl⟩:=M.ct.val;obtain⟨Ao,no,co,rfl⟩:=M.dn.ri.val;obtain⟨Ar,nr,cr,rfl⟩:=M.ro.rl.val;have x0:=M.x.cell 0;have x1:=M.x.cell 1;have x2:=M.x.cell 2;have x3':=M.x.cell 3;have y0:=M.res.cell 0;have y1:=M.res.cell 1;have y2:=M.res.cell 2;have y3:=M.res.cell 3;have f0:=M.res.frozen 0;have f1:=M.res.frozen 1;have f2:=M.res.frozen 2;have f3:=M.res.frozen 3;clear M e;go_wp2_with fail;refine bodyPost_ret (v:=.agg #[.slice Ad nd cd,.slice Ak nk ck,.slice Ao no co,.slice Ar nr cr]) (by simp[results,results126,go_sem,y0,y1,y2,y3]) rfl ?_;exact hcr
theorem LX.jN{w w':World}{base b:Nat}{cur:Array Value}{v:Value}{ll:List (List Int)}{xs:List Value}(h:LX w base v ll xs)(hg:w.grownBy w' (some b))(hB:Blk w b 3 cur)(hx:∀u∈xs,u.ownBlock≠some b):LX w' base v ll xs:=by
 have hne:qh w 24 (some b):=qh.blk hB (by decide);refine⟨qc4 h.1 hg hne,λi l hi=>?_⟩;obtain⟨u,k1,k2⟩:=h.2 i l hi;exact⟨u,k1,k2.jN hg (.inr (hx u (mem_of_getElem? k1)))⟩
theorem qg.block{w:World}{base g:Nat}{v:Value}{l:List Int}(h:qg w base v l)(hg:v.ownBlock=some g):∃cur,Blk w g 3 cur:=by
 rcases h.2 with ⟨rfl,_⟩|⟨g',cap,cur,rfl,_,hh,_⟩
 . cases hg
 . injection hg with hg;subst hg;exact⟨cur,hh⟩
theorem Apart.xu{o:Value}{xs ys:List Value}(h:Apart (o::(xs++ys))){b:Nat}(hb:o.ownBlock=some b):(∀u∈xs,u.ownBlock≠some b)/\(∀u∈ys,u.ownBlock≠some b):=by
 have h1:=(pairwise_cons.1 h).1;exact⟨λu hu=>h1 u (mem_append_left _ hu) b hb,λu hu=>h1 u (mem_append_right _ hu) b hb⟩
structure vu(w:World)(base X:Nat)(d k o r:Value)(D:List (List Int))(N:List Int)(Rw:List (List Int))(xs ys:List Value):Prop where
 x:Blk w X 29 #[d,k,o,r]
 dq:LX w base d D xs
 dn:qg w base o N
 ro:LX w base r Rw ys
 al:Apart (o::(xs++ys))
 dr:∀g,d.ownBlock=some g->r.ownBlock≠some g
section
variable {w w':World}{base X:Nat}{d k o r:Value}{D Rw:List (List Int)}{N:List Int}{xs ys:List Value}
theorem vu.new(h:vu w base X d k o r D N Rw xs ys)(hg:w.grownBy w' none):vu w' base X d k o r D N Rw xs ys:=⟨h.x.grown hg (by simp),h.dq.new hg,h.dn.new hg,h.ro.new hg,h.al,h.dr⟩
theorem vu.lts(h:vu w base X d k o r D N Rw xs ys):∀u∈o::(xs++ys),∀g,u.ownBlock=some g->base<=g/\g<w.heap.size:=by
 intro u hu g hg;rcases mem_cons.1 hu with rfl|hu
 . exact h.dn.lt g hg
 . rcases mem_append.1 hu with hu|hu
   . exact h.dq.lts u hu g hg
   . exact h.ro.lts u hu g hg
theorem vu.lay{c:qj}{w1:World}{xs ys:List Value}(h1:LX w1 base d c.qb xs)(h3:qg w1 base o c.done)(h4:LX w1 base r c.rows ys)(h5:Apart (o::(xs++ys)))(h6:∀g,d.ownBlock=some g->r.ownBlock≠some g) :
   vu (w1.alloc (.cells #[d,k,o,r] 29)) base w1.heap.size d k o r c.qb c.done c.rows xs ys:=
 have hg:=World.grownBy_alloc w1 (.cells #[d,k,o,r] 29) none
 ⟨Blk.new _ _ _,h1.new hg,h3.new hg,h4.new hg,h5,h6⟩
theorem vu.setRow{gr n cap m s:Nat}{f:Value}{l:List Int}(h:vu w base X d k o (.slice (some ⟨gr,0,none⟩) n cap) D N Rw xs ys)(hm:m<Rw.length)(hf:qg w base f l)(hs:∀u∈o::(xs++ys),∀g,u.ownBlock=some g->g<s)(hfs:∀g,f.ownBlock=some g->s<=g) :
   (∃u,w.cell? ⟨gr,m,none⟩=some u/\w.frozen? ⟨gr,m,none⟩=false)/\w.grownBy (w.setCell ⟨gr,m,none⟩ f) (some gr) /\
   vu (w.setCell ⟨gr,m,none⟩ f) base X d k o (.slice (some ⟨gr,0,none⟩) n cap) D N (Rw.set m l) xs (ys.set m f):=by
 have hst:w.grownBy (w.setCell ⟨gr,m,none⟩ f) (some gr):=qbf (p:=⟨gr,m,none⟩) (qah w (some gr)) (.inr rfl) _;have hI:qh w 3 (some gr):=h.ro.jL (by decide);have hE:qh w 29 (some gr):=h.ro.jL (by decide);refine⟨h.ro.cell hm,hst,h.x.grown hst (λe=>by injection e with e;exact hE _ rfl _ (e▸h.x)),h.dq.far hst hI (λe=>h.dr gr e rfl),h.dn.grown hst hI,h.ro.jr hm hf,?_,h.dr⟩;have hyl:ys.length=Rw.length:=h.ro.len
 have e:o::(xs++ys.set m f)=(o::(xs++ys)).set (xs.length+m+1) f:=by
  rw[set_cons_succ,set_append_right _ _ (by omega),show xs.length+m-xs.length=m by omega]
 rw[e];exact h.al.set hs hfs
theorem vu.put(h:vu w base X d k o r D N Rw xs ys){k':Value}:vu (w.setCell ⟨X,1,none⟩ k') base X d k' o r D N Rw xs ys:=by
 have hst:w.grownBy (w.setCell ⟨X,1,none⟩ k') (some X):=qbf (p:=⟨X,1,none⟩) (qah w (some X)) (.inr rfl) _;have hn:qh w 3 (some X):=qh.blk h.x (by decide);have hn':qh w 24 (some X):=qh.blk h.x (by decide);exact⟨h.x.jr 1 _,h.dq.grown hst hn hn',h.dn.grown hst hn,h.ro.grown hst hn hn',h.al,h.dr⟩
theorem vu.more{o':Value}{N':List Int}(h:vu w base X d k o r D N Rw xs ys)(hg:w.grownBy w' o.ownBlock)(ho:qg w' base o' N')(hb:o'.ownBlock=o.ownBlock∨∃b,o'.ownBlock=some b/\w.heap.size<=b) :
   w'.cell? ⟨X,2,none⟩=some o/\w'.frozen? ⟨X,2,none⟩=false/\vu (w'.setCell ⟨X,2,none⟩ o') base X d k o' r D N' Rw xs ys:=by
 have hEc:qh w 29 o.ownBlock:=h.dn.jL (by decide);have hx:=h.x.grown hg (λe=>hEc _ e.symm _ h.x);have hst:w'.grownBy (w'.setCell ⟨X,2,none⟩ o') (some X):=qbf (p:=⟨X,2,none⟩) (qah w' (some X)) (.inr rfl) _;have hn:qh w' 3 (some X):=qh.blk hx (by decide);have hn':qh w' 24 (some X):=qh.blk hx (by decide)
 have hdq:LX w' base d D xs:=by
  cases e:o.ownBlock with
  |none=>rw[e]at hg;exact h.dq.new hg
  |some b=>
   rw[e]at hg;obtain⟨cur,hB⟩:=h.dn.block e;exact h.dq.jN hg hB (h.al.xu e).1
 have hro:LX w' base r Rw ys:=by
  cases e:o.ownBlock with
  |none=>rw[e]at hg;exact h.ro.new hg
  |some b=>
   rw[e]at hg;obtain⟨cur,hB⟩:=h.dn.block e;exact h.ro.jN hg hB (h.al.xu e).2
 refine⟨hx.cell 2,hx.frozen 2,hx.jr 2 _,hdq.grown hst hn hn',ho.grown hst hn,hro.grown hst hn hn',?_,h.dr⟩;refine pairwise_cons.2 ⟨λu hu g hg'=>?_,(pairwise_cons.1 h.al).2⟩;rcases hb with e|⟨b,e,hbs⟩
 . rw[e]at hg';exact(pairwise_cons.1 h.al).1 u hu g hg'
 . rw[e]at hg';injection hg' with hg';intro hu';have:=(h.lts u (mem_cons_of_mem _ hu) g hu').2;omega
end
theorem LX.at_{w:World}{base g n cap k:Nat}{ll:List (List Int)}{xs:List Value}(h:LX w base (.slice (some ⟨g,0,none⟩) n cap) ll xs)(hk:k<ll.length):∃l u,ll[k]?=some l/\xs[k]?=some u/\w.cell? ⟨g,k,none⟩=some u/\qg w base u l:=by
 obtain⟨h1,h2⟩:=h;rcases h1.2 with ⟨e,hz⟩|⟨g',cap',cur,e,hb,hh,hn,hm,hcs,ht⟩
 . cases e
 . injection e with e1 e2 e3;injection e1 with e1;injection e1 with e1;subst e1;obtain⟨u,k1,k2⟩:=h2 k _ (getElem?_eq_getElem hk);refine⟨_,u,getElem?_eq_getElem hk,k1,?_,k2⟩;have hB:Blk w g 24 cur:=hh;rw[hB.cell];rw[<-ht,getElem?_take]at k1;split at k1
   . simpa using k1
   . cases k1
theorem LX.form{w:World}{base n:Nat}{v:Value}{ll:List (List Int)}{xs:List Value}(h:LX w base v ll xs)(hn:ll.length=n)(h0:0<n):∃g cap,v=.slice (some ⟨g,0,none⟩) n cap/\n<=cap/\base<=g:=by
 subst hn;rcases h.1.2 with ⟨rfl,hz⟩|⟨g,cap,cur,rfl,hb,hh,hn,_,hcs,ht⟩
 . omega
 . exact⟨g,cap,rfl,hn,hb⟩
theorem LX.turn{w w':World}{base g n cap k:Nat}{ll:List (List Int)}{xs:List Value}{u u':Value}{l':List Int}(h:LX w base (.slice (some ⟨g,0,none⟩) n cap) ll xs)(hk:k<ll.length)(hu:xs[k]?=some u)(hg:w.grownBy w' u.ownBlock)(hap:Apart xs)(ho:qg w' base u' l')(hI:∃l,qg w base u l) :
   (∃u0,w'.cell? ⟨g,k,none⟩=some u0/\w'.frozen? ⟨g,k,none⟩=false)/\RL (w'.setCell ⟨g,k,none⟩ u') (.slice (some ⟨g,0,none⟩) n cap) (ll.set k l')/\w'.grownBy (w'.setCell ⟨g,k,none⟩ u') (some g)/\(∀E,E≠24->qh w' E (some g)):=by
 obtain⟨l0,hI⟩:=hI;have hNu:qh w 24 u.ownBlock:=hI.jL (by decide);have hcs:=qc4 h.1 hg hNu
 have hn:n=ll.length:=by
  rcases h.1.2 with ⟨e,_⟩|⟨_,_,_,e,_⟩
  . cases e
  . injection e
 subst hn;have hst:w'.grownBy (w'.setCell ⟨g,k,none⟩ u') (some g):=qbf (p:=⟨g,k,none⟩) (qah w' (some g)) (.inr rfl) _;have s1:=World.ownsRow.stored hcs k u';have qhZ:∀E,E≠24->qh w' E (some g):=λE hE=>qh.own (v:=.slice (some ⟨g,0,none⟩) ll.length cap) hcs hE;have hne:=qhZ 3 (by decide);have hxl:=h.len
 have hcell:∃u0,w'.cell? ⟨g,k,none⟩=some u0/\w'.frozen? ⟨g,k,none⟩=false:=by
  rcases hcs.2 with ⟨e0,hz⟩|⟨g',cap',cur,e0,hb,hh,hn,hm,hcs2,ht⟩
  . cases e0
  . injection e0 with e1 e2 e3;injection e1 with e1;injection e1 with e1;subst e1;have hB:Blk w' g 24 cur:=hh;exact⟨_,by rw[hB.cell];exact Array.getElem?_eq_getElem (by rw[hcs2];omega),hB.frozen _⟩
 refine⟨hcell,⟨xs.set k u',?_,λi x hi=>?_⟩,hst,qhZ⟩
 . rw[length_set];exact TS.zV s1.1
 . by_cases hik:i=k
   . subst hik;rw[getElem?_set_self hk]at hi;obtain rfl:l'=x:=by simpa using hi
     exact⟨u',by rw[getElem?_set_self (by omega)],ho.ri.grown hst hne⟩
   . rw[getElem?_set_ne (λe=>hik e.symm)]at hi;obtain⟨y,k1,k2⟩:=h.2 i x hi;refine⟨y,by rw[getElem?_set_ne (λe=>hik e.symm)];exact k1,?_⟩
     have hyu:y.ownBlock=none∨y.ownBlock≠u.ownBlock:=by
      cases hy:y.ownBlock with
      |none=>exact .inl rfl
      |some b=>
       right;intro e;rw[Apart.iff]at hap;rcases Nat.lt_or_gt_of_ne hik with hlt|hlt
       . exact hap i k y u b hlt k1 hu hy e.symm
       . exact hap k i u y b hlt hu k1 e.symm hy
     exact((k2.jN hg hyu).ri).grown hst hne
theorem qg.vF{w w':World}{base:Nat}{v u:Value}{l:List Int}(h:qg w base v l)(hg:w.grownBy w' u.ownBlock)(hne:∀b,v.ownBlock=some b->u.ownBlock≠some b):qg w' base v l:=by
 cases hv:v.ownBlock with
 |none=>exact h.jN hg (.inl hv)
 |some b=>exact h.jN hg (.inr (by rw[hv];exact λe=>hne b hv e.symm))
theorem LX.vF{w w':World}{base b0:Nat}{v u:Value}{l:List Int}{ll:List (List Int)}{xs:List Value}(h:LX w base v ll xs)(hg:w.grownBy w' u.ownBlock)(hu:qg w b0 u l)(hne:∀b,u.ownBlock=some b->∀x∈xs,x.ownBlock≠some b):LX w' base v ll xs:=by
 cases e:u.ownBlock with
 |none=>rw[e]at hg;exact h.new hg
 |some b=>
  rw[e]at hg;obtain⟨cur,hB⟩:=hu.block e;exact h.jN hg hB (hne b e)
theorem Apart.yC{o u:Value}{xs ys:List Value}(h:Apart (o::(xs++ys)))(hu:u∈xs){b:Nat}(hb:u.ownBlock=some b):(o.ownBlock≠some b)/\∀y∈ys,y.ownBlock≠some b:=by
 obtain⟨h1,h2⟩:=pairwise_cons.1 h;refine⟨λe=>h1 u (mem_append_left _ hu) b e hb,λy hy=>(pairwise_append.1 h2).2.2 u hu y hy b hb⟩
theorem qjv{ops:Array Oper}{rest:List Oper}{o:Oper}{a:Act}{Q:Exit->Act->World->Prop}{w:World}{u:Int}
   (s x:Operand) (hgd:o.guard=none) (ho:o.op=.call {callee:=.builtin .append,args:=#[s,x],argTypes:=#[24,24]})
   {base:Nat} {v:Value} {l:List Int} (hown:qg w base v l) (hn:l.length<=1000000000) (hbase:base<=w.heap.size)
   (hs:a.eval s=v) {N:Nat} (hx:a.eval x=.slice (some ⟨N,0,none⟩) 1 1) (hN:N=w.heap.size)
   (h:∀v' w',qg w' base v' (l++[u])->w.grownBy w' v.ownBlock->(v'.ownBlock=v.ownBlock∨∃b,v'.ownBlock=some b/\w.heap.size<=b)->wpList prog ops Q rest (a.put o.dst v') w') :
   wpList prog ops Q (o::rest) a (w.alloc (.cells #[.int .i64 u] 3)):=by
 subst hN
 exact qg8 s x 24 (.int .i64 0) 1 8 underlying24 qok rfl (by decide) (by decide) hgd ho hown hn hbase rfl (by simp[oneCell']) hs hx
  λv' w' h1 h2 h3=>h v' w' (by unfold qg;simpa using h1) h2 (h3.imp id λe=>⟨_,e,by omega⟩)
theorem CV.kq{w w':World}{B:Nat}{d k o r:Value}{c:qj}(h:CV w (.agg #[d,k,o,r]) c)(hg:w.grownBy w' none)(hB:Blk w' B 29 #[d,k,o,r]):jU w' B d k o r c:=by
 have h':=h.new hg;obtain⟨d',k',o',r',e,q1,q2,q3,q4⟩:=h';injection e with e;injection e with e;injection e with e1 e;injection e with e2 e;injection e with e3 e;injection e with e4 e;subst e1 e2 e3 e4;exact⟨hB,q1,q2,q3,q4⟩
theorem q9q{nd:Node}{a:Int}(h:qbz nd a=true):nd.row.length<=1000:=by
 obtain⟨_,_,_,h4⟩:=qk5 h;by_cases hk:nd.kind=0
 . have:=qch (h4 hk);omega
 . unfold qbz at h;simp only[Bool.and_eq_true]at h;have:=h.2;rw[if_neg hk]at this;simp only[decide_eq_true_eq]at this;omega
theorem Blk.past{w w':World}{g:Nat}{t:TypeId}{cs:Array Value}{row:Option Nat}(h:Blk w g t cs)(hg:w.grownBy w' row)(hr:qh w t row):Blk w' g t cs:=h.grown hg (λe=>hr g e.symm _ h)
structure yp(w wx:World)(base X:Nat)(box:Array Value)(d k o r:Value)(D:List (List Int))(N:List Int)(Rw:List (List Int))(xs ys:List Value):Prop where
 o:vu wx base X d k o r D N Rw xs ys
 b:Blk wx w.heap.size 29 box
 res:Blk wx (w.heap.size+1) 29 #[.slice none 0 0,.slice none 0 0,.slice none 0 0,.slice none 0 0]
 g:w.grownBy wx none
theorem yp.new{w wx wy:World}{base X:Nat}{box:Array Value}{d k o r:Value}{D Rw:List (List Int)}{N:List Int}{xs ys:List Value}(M:yp w wx base X box d k o r D N Rw xs ys)(hg:wx.grownBy wy none):yp w wy base X box d k o r D N Rw xs ys:=
 ⟨M.o.new hg,M.b.grown hg (by simp),M.res.grown hg (by simp),qad M.g hg⟩
def q5d(w:World)(c:qj)(e:Ending)(w':World):Prop:=∃v,e=.returned v/\CV w' v c/\w.grownBy w' none
structure yJ(qa:List Node)(c:qj)(k m:Nat):Prop where
 pv:qaf qa=true
 k:k<c.qb.length
 m:m<qa.length
 cl:c.counts.length=qa.length
 cs:∀y∈c.counts,-1000<=y/\y<=1000
 rl:c.rows.length=qa.length
 d4:c.qb.length<=4
 dl:∀l∈c.qb,l.length<=1000
 rw:∀l∈c.rows,l.length<=1000
 dn:c.done.length<=1000
def qwf(qa:List Node)(c:qj)(k m:Nat)(nd:Node):qj:=
 {qb:=c.qb.set k (c.qb.getD k []++qb4 qa c.counts m),counts:=qb2 qa c.counts m,done:=c.done++[(m:Int)],rows:=c.rows.set m (qD nd c.rows)}
theorem q11(pv v:Value)(qa:List Node)(c:qj)(k m:Nat)(nd:Node)(w:World)(hp:RN w pv qa)(h:CV w v c)(hd:yJ qa c k m)(hx:qa[m]?=some nd) :
   Calls prog 127 #[pv,v,.int .i64 k,.int .i64 m] w (q5d w (qwf qa c k m nd)):=by
 obtain⟨A,n,cp,rfl,-,hn,-⟩:=hp.form';obtain⟨A1,n1,c1,A2,n2,c2,A3,n3,c3,A4,n4,c4,rfl,h1,h2,h3,h4⟩:=h.form;have hX:=h.box;have hn1:=h1.len;have hn4:=h4.len;have hk1:k<n1:=by have:=hd.k;omega
 have hm1:m<n:=by have:=hd.m;omega
 have hm4:m<n4:=by have:=hd.rl;have:=hd.m;omega
 have Hd:=Lib.hid hd;have Hx:=Lib.hid hx;have Hn:=Lib.hid hn;have Hn1:=Lib.hid hn1;have Hn4:=Lib.hid hn4;have hR0:=Blk.new (w.alloc (.cells #[.slice A1 n1 c1,.slice A2 n2 c2,.slice A3 n3 c3,.slice A4 n4 c4] 29)) 29 #[.slice none 0 0,.slice none 0 0,.slice none 0 0,.slice none 0 0];rw[World.size_alloc]at hR0;have hX0:=hX.new (World.grownBy_alloc _ (.cells #[.slice none 0 0,.slice none 0 0,.slice none 0 0,.slice none 0 0] 29) none);have hgW:w.grownBy ((w.alloc (.cells #[.slice A1 n1 c1,.slice A2 n2 c2,.slice A3 n3 c3,.slice A4 n4 c4] 29)).alloc (.cells #[.slice none 0 0,.slice none 0 0,.slice none 0 0,.slice none 0 0] 29)) none:=qar (qar (qah w none) _) _;have Hcv:=Lib.hid h;clear hn hn1 hn4 hd hx h1 h2 h3 h4 h hX;go_enter func127,ntmps127;go_upto_region 1 with fail;generalize ((w.alloc (.cells #[.slice A1 n1 c1,.slice A2 n2 c2,.slice A3 n3 c3,.slice A4 n4 c4] 29)).alloc (.cells #[.slice none 0 0,.slice none 0 0,.slice none 0 0,.slice none 0 0] 29))=W at hR0 hX0 hgW |-;have kT:=hR0.lt;have qaV:=hX0.b.lt;have d0:=hX0.d0;have d1:=hX0.d1;have d2:=hX0.d2;have d3:=hX0.d3;have hpW:=hp.new hgW;go_wp2_with fail;refine(qof _ c W hX0.cv (by have:=Hd.out.d4;omega) (λl hl=>by have:=Hd.out.dl l hl;omega) (by have:=Hd.out.rl;have:=qap Hd.out.pv;omega) (λl hl=>by have:=Hd.out.rw l hl;omega) (by have:=Hd.out.cl;have:=qap Hd.out.pv;omega) (by have:=Hd.out.dn;omega)).mono ?_;rintro e w1 ⟨v1,rfl,⟨d,kv,o,r,xs,ys,rfl,q1,q2,q3,q4,q5,q6⟩,hg1⟩;have g1:=qad hgW hg1;have hX1:=hX0.b.grown hg1 (by simp);have hR1:=hR0.grown hg1 (by simp);have qcH:=hg1.size;have qoA:=hgW.size;obtain⟨gd,zN,rfl,hcd,hbd⟩:=q1.form Hn1.out.symm (by omega);obtain⟨gr,xj,rfl,hcr,hbr⟩:=q4.form Hn4.out.symm (by omega);obtain⟨Ak,nk,ck,rfl⟩:=q2.val;obtain⟨Ao,no,co,rfl⟩:=q3.ri.val;clear d0 d1 d2 d3 hX0 hR0 hgW hpW hg1 q2;go_upto_region 2 with fail;have hO:=vu.lay (k:=.slice Ak nk ck) q1 q3 q4 q5 q6;have hgX:=World.grownBy_alloc w1 (.cells #[.slice (some ⟨gd,0,none⟩) n1 zN,.slice Ak nk ck,.slice Ao no co,.slice (some ⟨gr,0,none⟩) n4 xj] 29) none;generalize w1.alloc (.cells #[.slice (some ⟨gd,0,none⟩) n1 zN,.slice Ak nk ck,.slice Ao no co,.slice (some ⟨gr,0,none⟩) n4 xj] 29)=w2 at hO hgX |-;have hX2:=hX1.grown hgX (by simp);have hR2:=hR1.grown hgX (by simp);have g2:=qad g1 hgX;clear hX1 hR1 q1 q3 q4 q5 q6 g1 hgX;have hRX:w.heap.size+1<w1.heap.size:=by omega
 have hbW:w.heap.size<=W.heap.size:=qoA;generalize w1.heap.size=X at hO hRX qcH |-;generalize W.heap.size=base at hO hbd hbr hbW qcH kT qaV;obtain⟨gp,ox,nd',fv,rv,rfl,hnd,e0,e1,e2,hf,hr⟩:=(hp.new g2).at_ hm1
 obtain rfl:nd=nd':=by
  have:=Hx.out;rw[hnd]at this;injection this with this;exact this.symm
 have yK:=qbk Hd.out.pv hnd;have hf2:=yK.2.1
 have Hin:Hid (nd.kind≠0->∀y∈nd.frm,0<=y/\y<c.rows.length):=by
  intro _ y hy;have:=qc6 yK.1 hy;have:=Hd.out.rl;have:=Hd.out.m;omega
 have hxr:nd.row.length<=1000:=q9q yK.1;have hrl:c.rows.length<=1000:=by have:=Hd.out.rl;have:=qap Hd.out.pv;omega
 obtain⟨Af,nf,cf,rfl⟩:=hf.val;obtain⟨Arv,nrv,crv,rfl⟩:=hr.val;have hDr:w2.grownBy w2.drew none:=qay (qah _ none);have hB2:=Hcv.out.kq g2 hX2;have cc3:=hB2.d3;have x3:=hO.x.cell 3;have hfD:=hf.new hDr;have hrD:=hr.new hDr;have qiA:=hB2.ro.new hDr;have hOD:=hO.new hDr;have hmR:m<c.rows.length:=by rw[<-Hn4.out];exact hm4
 have qoB:base<=w2.drew.heap.size:=by have:=(hO.dq.lt gd rfl);have:w2.drew.heap.size=w2.heap.size:=rfl;omega
 have qtO:(m:Int)<(n:Int):=by omega
 have qtP:(m:Int)<(n4:Int):=by omega
 clear yK hnd hf hr
 go_cut [] (λwx=>∃ys',yp w wx base X #[.slice A1 n1 c1,.slice A2 n2 c2,.slice A3 n3 c3,.slice A4 n4 c4] (.slice (some ⟨gd,0,none⟩) n1 zN) (.slice Ak nk ck) (.slice Ao no co) (.slice (some ⟨gr,0,none⟩) n4 xj) c.qb c.done (c.rows.set m (qD nd c.rows)) xs ys')
 case first=>
  go_region_law (go_simp;go_at_call 165;refine(qx0 _ _ nd c.rows _ ⟨_,_,rfl,by exact hfD,by exact hrD⟩ (by exact qiA) hf2 Hin.out hrl hxr).mono ?_;rintro e w3 ⟨v3,rfl,ho3,hg3⟩;have hO3:=hOD.new hg3;have x33:=hO3.x.cell 3;obtain⟨⟨u0,cR,fR⟩,qfK,M3⟩:=hO3.setRow hmR (ho3.lower qoB) (λu hu g hg=>(hOD.lts u hu g hg).2) (λg hg=>(ho3.lt g hg).1);have hEc:qh w3 29 (some gr):=hO3.ro.jL (by decide);have g4:=qbd (qad g2 (qad hDr hg3)) qfK (λg e=>by cases e;exact .inl (Nat.le_trans hbW hbr));have b4:=(hX2.grown (qad hDr hg3) (by simp)).past qfK hEc;have r4:=(hR2.grown (qad hDr hg3) (by simp)).past qfK hEc;obtain⟨A5,n5,c5,rfl⟩:=ho3.ri.val)
  all_goals
   go_wp2_with fail;go_meet;exact⟨_,M3,b4,r4,g4⟩
 case rest=>
  obtain⟨ys',M⟩:=hcut;clear hO hOD hX2 hR2 g2 hB2 hfD hrD qiA x3 cc3 e0 e1 e2;have hdl:c.done.length<=1000:=Hd.out.dn;have x2:=M.o.x.cell 2;have qoC:base<=wc.heap.size:=by have:=(M.o.dq.lt gd rfl);omega
  have qiB:=M.o.dn;go_wp2_with (at_builtin;go_must (refine qjv (.tmp 26) (.tmp 28) rfl rfl qiB (by omega) qoC rfl rfl rfl ?_));intro v5 w5 qX hg5 hb5;have kr:qh wc 29 (ownBlock (.slice Ao no co)):=M.o.dn.jL (by decide);obtain⟨x25,f25,O5⟩:=M.o.more hg5 qX hb5;have qiC:=M.o.dn.gb M.g hg5 hbW;have b5:=(M.b.past hg5 kr);have r5:=(M.res.past hg5 kr);have hx5:=M.o.x.past hg5 kr;have zK:w5.grownBy (w5.setCell ⟨X,2,none⟩ v5) (some X):=qbf (p:=⟨X,2,none⟩) (qah w5 (some X)) (.inr rfl) _;have g6:w.grownBy (w5.setCell ⟨X,2,none⟩ v5) none:=qbd qiC zK (λg e=>by cases e;exact .inl (by omega));have b6:=b5.grown zK (by simp;omega);have r6:=r5.grown zK (by simp;omega);obtain⟨A5,n5,c5,rfl⟩:=qX.ri.val;clear qX hb5 kr qiC b5 r5 hx5 qiB hg5 x2 M zK;go_upto_region 4 with fail;generalize w5.setCell ⟨X,2,none⟩ (.slice A5 n5 c5)=w6 at O5 g6 b6 r6 |-;have M6:yp w w6 base X _ _ _ _ _ _ _ _ _ _:=⟨O5,b6,r6,g6⟩;clear O5 x25 f25 b6 r6 g6;have d1:=M6.b.cell 1;have hcl:c.counts.length=qa.length:=Hd.out.cl;have hB6:=Hcv.out.kq M6.g M6.b;go_wp2_with fail;refine(qv9 _ _ qa c.counts m w6 (hp.new M6.g) hB6.ct Hd.out.pv hcl Hd.out.cs).mono ?_;rintro e w7 ⟨cv,uv,rfl,qdK,qdL,hg7⟩;have hgu:∀u∈xs,∀g,u.ownBlock=some g->g<w6.heap.size:=λu hu g hg=>(M6.o.dq.lts u hu g hg).2;have M7:=M6.new hg7;obtain⟨Ac,nc,cc,rfl⟩:=qdK.ri.val;obtain⟨Au,nu,cu,rfl⟩:=qdL.ri.val;have qiD:w6.heap.size<=w7.heap.size:=hg7.size;generalize w6.heap.size=s6 at qdK qdL hgu qiD;clear d1 hB6 M6 hg7;have x1:=M7.o.x.cell 1;have y1:=M7.o.x.frozen 1;have xw:w7.grownBy (w7.setCell ⟨X,1,none⟩ (.slice Ac nc cc)) (some X):=qbf (p:=⟨X,1,none⟩) (qah w7 (some X)) (.inr rfl) _;have O8:=M7.o.put (k':=.slice Ac nc cc);have hn8:qh w7 3 (some X):=qh.blk M7.o.x (by decide);have qdM:qg _ _ _ _:=qdK.grown xw hn8;have qfL:qg _ _ _ _:=qdL.grown xw hn8;have b8:=M7.b.grown xw (by simp;omega);have r8:=M7.res.grown xw (by simp;omega);have g8:w.grownBy (w7.setCell ⟨X,1,none⟩ (.slice Ac nc cc)) none:=qbd M7.g xw (λg e=>by cases e;exact .inl (by omega));go_upto_region 6 with fail;clear x1 y1 hn8 M7 qdK qdL;have qoD:s6<=(w7.setCell ⟨X,1,none⟩ (.slice Ac nc cc)).heap.size:=Nat.le_trans qiD xw.size;clear xw;generalize w7.setCell ⟨X,1,none⟩ (.slice Ac nc cc)=w8 at O8 qdM qfL b8 r8 g8 qoD |-;have hkD:k<c.qb.length:=Hd.out.k;have hal:=O8.al;have qoE:Apart xs:=(pairwise_cons.1 hal).2 |> Apart.left;obtain⟨l0,u,hl0,hu,hcu,hou⟩:=O8.dq.at_ hkD;have qiE:l0.length<=1000:=Hd.out.dl l0 (mem_of_getElem? hl0)
  have hnr:(qb4 qa c.counts m).length<=1000:=by
   have h1:=length_filter_le (λi=>has qa i (m:Int)&&decide (c.counts.getD i 0=1)) (range qa.length);have h2:=qap Hd.out.pv;unfold qb4;rw[length_map];rw[length_range]at h1;omega
  have qoF:Hid (c.qb.getD k []=l0):=by show _=_;rw[getD_eq_getElem?_getD,hl0];rfl
  obtain⟨Ae,ne,ce,rfl⟩:=hou.ri.val;have x0:=O8.x.cell 0;have qtQ:(k:Int)<(n1:Int):=by omega
  have hD8:w8.grownBy w8.drew none:=qay (qah _ none);have xQ:=hou.new hD8;have qiF:=qfL.ri.new hD8;have hlen:l0.length+(qb4 qa c.counts m).length<=1000000000:=by omega
  have hb8:base<=w8.drew.heap.size:=by have:w8.drew.heap.size=w8.heap.size:=rfl;have:=(O8.dq.lt gd rfl);omega
  have HO8:=Lib.hid O8
  go_cut [] (λwx=>Blk wx X 29 #[.slice (some ⟨gd,0,none⟩) n1 zN,.slice Ac nc cc,.slice A5 n5 c5,.slice (some ⟨gr,0,none⟩) n4 xj]/\Blk wx (w.heap.size+1) 29 #[.slice none 0 0,.slice none 0 0,.slice none 0 0,.slice none 0 0]/\w.grownBy wx none /\
   RL wx (.slice (some ⟨gd,0,none⟩) n1 zN) (c.qb.set k (l0++qb4 qa c.counts m))/\RI wx (.slice Ac nc cc) (qb2 qa c.counts m)/\RI wx (.slice A5 n5 c5) (c.done++[(m:Int)])/\RL wx (.slice (some ⟨gr,0,none⟩) n4 xj) (c.rows.set m (qD nd c.rows)))
  case first=>
   go_region_law (refine qer (w:=w8.drew) (base:=base) (v:=.slice Ae ne ce) (xv:=.slice Au nu cu) (l0:=l0) (l:=qb4 qa c.counts m) (.tmp 48) (.tmp 49) rfl rfl xQ qiF hlen hb8 rfl rfl ?_;intro v9 w9 qcI hg9;have hEc:qh w8.drew 29 (ownBlock (.slice Ae ne ce)):=xQ.jL (by decide);have hx9:=(O8.x.grown hD8 (by simp)).past hg9 hEc;have x90:=hx9.cell 0;obtain⟨⟨u0,cR,fR⟩,hRL,yq,hN9⟩:=(O8.dq.new hD8).turn hkD hu hg9 qoE qcI ⟨_,xQ⟩;obtain⟨A9,n9,c9,rfl⟩:=qcI.ri.val)
   all_goals
    go_wp2_with fail;go_meet;have hum:=mem_of_getElem? hu;have hE9:=hN9 29 (by decide);have hI9:=hN9 3 (by decide);have g9:=qbd (qad g8 hD8) hg9 (λg e=>.inl (Nat.le_trans hbW (xQ.lt g e).1));have c9:=(qdM.new hD8).vF hg9 (λb hb e=>by have:=(qdM.lt b hb).1;have:=hgu _ hum b e;omega);have n9':=(O8.dn.new hD8).vF hg9 (λb hb e=>(hal.yC hum e).1 hb);have r9:=(O8.ro.new hD8).vF hg9 xQ (λb hb=>(hal.yC hum hb).2)
    exact⟨hx9.past yq hE9,((r8.grown hD8 (by simp)).past hg9 hEc).past yq hE9,qbd g9 yq (λg e=>by cases e;exact .inl (Nat.le_trans hbW hbd)),hRL,c9.ri.grown yq hI9,n9'.ri.grown yq hI9,
     (r9.far yq hI9 (λe=>O8.dr gd rfl e)).rl⟩
  case rest=>
   obtain⟨hx,hr,hg,hdq,hct,hdn,hro⟩:=hcut;have x0:=hx.cell 0;have x1:=hx.cell 1;have x2:=hx.cell 2;have x3:=hx.cell 3;have y0:=hr.cell 0;have y1:=hr.cell 1;have y2:=hr.cell 2;have y3:=hr.cell 3;have f0:=hr.frozen 0;have f1:=hr.frozen 1;have f2:=hr.frozen 2;have f3:=hr.frozen 3;have hst:=qeg wc (w.heap.size+1) (.slice (some ⟨gd,0,none⟩) n1 zN) (.slice Ac nc cc) (.slice A5 n5 c5) (.slice (some ⟨gr,0,none⟩) n4 xj);have hne:qh wc 3 (some (w.heap.size+1)):=qh.blk hr (by decide);have xK:qh wc 24 (some (w.heap.size+1)):=qh.blk hr (by decide)
   have hfin:q5d w (qwf qa c k m nd) (.returned (.agg #[.slice (some ⟨gd,0,none⟩) n1 zN,.slice Ac nc cc,.slice A5 n5 c5,.slice (some ⟨gr,0,none⟩) n4 xj])) ((((wc.setCell ⟨w.heap.size+1,0,none⟩ (.slice (some ⟨gd,0,none⟩) n1 zN)).setCell ⟨w.heap.size+1,1,none⟩ (.slice Ac nc cc)).setCell ⟨w.heap.size+1,2,none⟩ (.slice A5 n5 c5)).setCell ⟨w.heap.size+1,3,none⟩ (.slice (some ⟨gr,0,none⟩) n4 xj)):=by
    refine⟨_,rfl,⟨_,_,_,_,rfl,?_,hct.grown hst hne,hdn.grown hst hne,hro.grown hst hne xK⟩,qbd hg hst (λg e=>by cases e;exact .inl (Nat.le_succ _))⟩;have:=hdq.grown hst hne xK;unfold qwf;rw[qoF.out];exact this
   have qbO:=Lib.hid hfin;clear hfin hx hr hdq hct hdn hro hst hne xK HO8 O8 qdM qfL b8 r8 xQ qiF hou;go_wp2_with fail;refine bodyPost_ret (v:=.agg #[.slice (some ⟨gd,0,none⟩) n1 zN,.slice Ac nc cc,.slice A5 n5 c5,.slice (some ⟨gr,0,none⟩) n4 xj]) (by simp[results,results127,go_sem,y0,y1,y2,y3]) rfl ?_;exact qbO.out
end
end Go.Proofs.YtacemdoejblgaaaGreatDoor

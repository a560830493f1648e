/- Part 27. Conditions: each statement's. -/
import Derived.Test.YtacemdoejblgaaaGreatDoorM25
import Derived.Test.YtacemdoejblgaaaGreatDoorM26
namespace Go.Proofs.YtacemdoejblgaaaGreatDoor
set_option maxHeartbeats 6400000
set_option maxRecDepth 100000
section
open Go.RowKit
theorem qre(v dv:Value)(qa:List Node)(done:List Int)(w:World)(h:RN w v qa)(hd:RI w dv done)(hv:qae qa=true) :
   Calls Tryz.prog 160 #[v,dv] w (qes w (qao qa done)):=by
 obtain⟨A,n,c,rfl,-,hn,-⟩:=h.form';have zC:n<=10:=by have:=qal hv;omega
 have Hn:=Lib.hid hn;have Hv:=Lib.hid hv;obtain⟨Ad,m,cd,rfl⟩:=hd.val;have h0:qf (w.alloc (.cells #[] 3)) w.heap.size (.slice (some ⟨w.heap.size,0,none⟩) 0 0) []:=qf.empty w (Nat.le_refl _);clear hn hv;go_enter Tryz.func160,Tryz.ntmps160;go_wp2_with fail
 go_loopg [5,6] (n+1) (fun mm out i wr=>∃ k:Nat,k<=n/\mm=n+1 - k/\i=.int .i64 k/\qf wr w.heap.size out (qce qa done k)/\w.grownBy wr none)
 case atStart=>exact⟨0,Nat.zero_le _,rfl,rfl,h0,qap (qag w none) _⟩
 case round=>
   clear h0;obtain⟨k,hk,rfl,rfl,hown,hg⟩:=hrel;by_cases hlt:k < n
   . obtain⟨g,o,nd,f,r,rfl,hx,c0,c1,c2,hf,hr⟩:=(h.new hg).at_ hlt;obtain⟨Af,nf,cf,rfl⟩:=hf.val;have hpl:qa.length<=1000000000:=by have:=Hn.out;omega
     have hs:=qet done hx;have hol:=qj3 qa done k;clear hx c0 c2 hr;by_cases hD:(k:Int)∈done
     . have HD:Hid (decide ((k:Int)∈done)=true):=decide_eq_true hD
       have Hs:Hid (qce qa done (k+1)=qce qa done k):=by
         show _=_;rw [hs,if_neg (by unfold qdj;simp [hD])]
       obtain⟨A2,n2,c2,rfl⟩:=hown.ri.val;clear hD hs;go_wp2_with fail;refine(qbo _ qa _ (h.new hg) hpl Hv.out).mono ?_;rintro e w1 ⟨rfl,hg1⟩;have hd1:=(hd.new hg).new hg1;go_wp2_with fail;refine(qdq _ _ _ _ hd1 HD.out).mono ?_;rintro e w2 ⟨rfl,rfl⟩;go_wp2_with fail;go_roundg (n+1 - (k+1))
       case measure=>omega
       case rel=>exact⟨k+1,by omega,rfl,by go_num,by rw [Hs.out];exact hown.new hg1,qac hg hg1⟩
     . have HD:Hid (decide ((k:Int)∈done)=false):=decide_eq_false hD;by_cases ha:nd.frm.all (fun x=>decide (x∈done))=true
       . have Ha:=Lib.hid ha
         have Hs:Hid (qce qa done (k+1)=qce qa done k++[(k:Int)]):=by
           show _=_;rw [hs,if_pos (by unfold qdj;simp only [decide_eq_false hD,ha];rfl)]
         obtain⟨A2,n2,c2,rfl⟩:=hown.ri.val;clear hD hs ha;go_wp2_with fail;refine(qbo _ qa _ (h.new hg) hpl Hv.out).mono ?_;rintro e w1 ⟨rfl,hg1⟩;have hd1:=(hd.new hg).new hg1;have hf1:=hf.new hg1
         have c1':w1.cell? ⟨g,o+k * 3+1,none⟩=some (.slice Af nf cf):=by
           rw [<-c1];exact qmb hg1 (qgo c1) (by simp)
         have hown1:=hown.new hg1;have hg2:=qac hg hg1;go_wp2_with fail;refine(qdq _ _ _ _ hd1 HD.out).mono ?_;rintro e w2 ⟨rfl,rfl⟩;go_wp2_with fail;refine(quk _ _ _ nd.frm _ hd1 hf1 Ha.out).mono ?_;rintro e w2 ⟨rfl,rfl⟩;go_wp2_with (at_builtin;go_must (refine qcg _ _ rfl rfl hown1 (by omega) hg2.size rfl rfl ?_));intro v3 w3 jR hg3;have hg4:=hown1.gb hg2 hg3 (Nat.le_refl _);rw [<-Hs.out] at jR;obtain⟨A3,n3,c3,rfl⟩:=jR.ri.val;go_wp2_with fail;go_roundg (n+1 - (k+1))
         case measure=>omega
         case rel=>exact⟨k+1,by omega,rfl,by go_num,jR,hg4⟩
       . have ha':nd.frm.all (fun x=>decide (x∈done))=false:=by simpa using ha
         have Ha:=Lib.hid ha'
         have Hs:Hid (qce qa done (k+1)=qce qa done k):=by
           show _=_;rw [hs,if_neg (by unfold qdj;simp only [decide_eq_false hD,ha'];simp)]
         obtain⟨A2,n2,c2,rfl⟩:=hown.ri.val;clear hD hs ha ha';go_wp2_with fail;refine(qbo _ qa _ (h.new hg) hpl Hv.out).mono ?_;rintro e w1 ⟨rfl,hg1⟩;have hd1:=(hd.new hg).new hg1;have hf1:=hf.new hg1
         have c1':w1.cell? ⟨g,o+k * 3+1,none⟩=some (.slice Af nf cf):=by
           rw [<-c1];exact qmb hg1 (qgo c1) (by simp)
         go_wp2_with fail;refine(qdq _ _ _ _ hd1 HD.out).mono ?_;rintro e w2 ⟨rfl,rfl⟩;go_wp2_with fail;refine(quk _ _ _ nd.frm _ hd1 hf1 Ha.out).mono ?_;rintro e w2 ⟨rfl,rfl⟩;go_wp2_with fail;go_roundg (n+1 - (k+1))
         case measure=>omega
         case rel=>exact⟨k+1,by omega,rfl,by go_num,by rw [Hs.out];exact hown.new hg1,qac hg hg1⟩
   . obtain rfl:k=n:=by omega
     obtain⟨A2,n2,c2,rfl⟩:=hown.ri.val
     have ho2:qf wr w.heap.size (.slice A2 n2 c2) (qao qa done):=by
       unfold qao;rw [if_pos Hv.out,<-Hn.out];exact hown
     clear hown;go_wp2_with fail;go_ret;exact⟨_,rfl,ho2,hg⟩
theorem qfj{qa:List Node}{c:qj}{b:Bool}(hb:qaw qa c=b)(h:¬ qo qa c):b=false:=by
 rw [<-hb];rcases Bool.eq_false_or_eq_true (qaw qa c) with e | e
 . exact absurd (qbk.1 e) h
 . exact e
structure zH(qa:List Node)(c:qj):Prop where
 pv:qae qa=true
 d1:1<=c.qb.length
 d4:c.qb.length<=4
 order:qbu qa c.done=true
 counts:c.counts=qa8 qa c.done
 rl:c.rows.length=qa.length
theorem zH.valid{qa:List Node}{c:qj}(h:zH qa c):qaw qa c=(qfz qa c && qm7 qa c):=by
 unfold qaw;rw [h.pv,decide_eq_true h.d1,decide_eq_true h.d4,h.order,decide_eq_true h.counts,decide_eq_true h.rl];simp
def qrf(qa:List Node)(c:qj)(k:Nat):Prop:=∀ x∈(qao qa c.done).take k,c.qb.flatten.count x=1
def qs8(qa:List Node)(c:qj)(k:Nat):Prop:=∀ i,i < k->c.rows.getD i []=qen qa c.done i
theorem qy5{qa:List Node}{c:qj}{k:Nat}{x:Int}(h:qrf qa c k)(hx:(qao qa c.done)[k]?=some x)(h1:c.qb.flatten.count x=1):qrf qa c (k+1):=by
 obtain⟨hk,rfl⟩:=List.getElem?_eq_some_iff.1 hx;unfold qrf;rw [List.take_succ_eq_append_getElem hk];intro y hy;rcases List.mem_append.1 hy with hy | hy
 . exact h y hy
 . obtain rfl:y=(qao qa c.done)[k]:=by simpa using hy
   exact h1
theorem qw4{qa:List Node}{c:qj}{k:Nat}{x:Int}(hx:(qao qa c.done)[k]?=some x)(h1:¬ c.qb.flatten.count x=1):qfz qa c=false:=by
 unfold qfz;rw [Bool.and_eq_false_iff];right;rw [List.all_eq_false];exact⟨x,List.mem_of_getElem? hx,by simpa using h1⟩
theorem quo{qa:List Node}{c:qj}(h:qrf qa c (qao qa c.done).length):qfz qa c=decide (c.qb.flatten.length=(qao qa c.done).length):=by
 unfold qrf at h;rw [List.take_length] at h;unfold qfz;rw [Bool.and_eq_left_iff_imp.2];intro _;rw [List.all_eq_true];exact fun x hx=>decide_eq_true (h x hx)
theorem qrg{qa:List Node}{c:qj}{k:Nat}{r:List Int}(h:qs8 qa c k)(hr:c.rows[k]?=some r)(h1:qen qa c.done k=r):qs8 qa c (k+1):=by
 intro i hi;by_cases e:i=k
 . subst e;rw [List.getD_eq_getElem?_getD,hr,h1];rfl
 . exact h i (by omega)
theorem qs9{qa:List Node}{c:qj}{k:Nat}{r:List Int}(hk:k < qa.length)(hr:c.rows[k]?=some r)(h1:¬ qen qa c.done k=r):qm7 qa c=false:=by
 unfold qm7;rw [List.all_eq_false];refine⟨k,List.mem_range.2 hk,?_⟩;rw [List.getD_eq_getElem?_getD,hr];simpa using fun e=>h1 e.symm
theorem q2h{qa:List Node}{c:qj}(h:qs8 qa c qa.length):qm7 qa c=true:=by
 unfold qm7;rw [List.all_eq_true];exact fun i hi=>decide_eq_true (h i (List.mem_range.1 hi))
theorem qbz(pv v:Value)(qa:List Node)(c:qj)(w:World)(hp:RN w pv qa)(h:CV w v c)(hpl:qa.length<=1000000000)(hfit:∀ d∈c.qb,d.length<=1048576){b:Bool}(hb:qaw qa c=b) :
   Calls Tryz.prog 124 #[pv,v] w fun e w'=>e=.returned (.bool b)/\w.grownBy w' none:=by
 obtain⟨A,n,cp,rfl,-,hn,-⟩:=hp.form';obtain⟨A1,n1,c1,A2,n2,c2,A3,n3,c3,A4,n4,c4,rfl,h1,-,-,h4⟩:=h.form;have hX:=h.box;have hn1:=h1.len;have hn4:=h4.len;have hgW:=World.grownBy_alloc w (.cells #[.slice A1 n1 c1,.slice A2 n2 c2,.slice A3 n3 c3,.slice A4 n4 c4] 29) none;have hpW:=hp.new hgW;have Hn:=Lib.hid hn;have Hn1:=Lib.hid hn1;have Hn4:=Lib.hid hn4;have Hb:=Lib.hid hb;have qD:=Lib.hid hfit;clear hn hn1 hn4 hb hfit h1 h4 h hp;have d0:=hX.d0;by_cases hv:qae qa=true
 . have Hv:=Lib.hid hv;have zC:n<=10:=by have:=qal hv;have:=Hn.out;omega
   by_cases hin:1<=n1/\n1<=4
   . have Hin:Hid ((decide ((1:Int)<=(n1:Int)) && decide ((n1:Int)<=4))=true):=by
       show _=_;rw [Bool.and_eq_true,decide_eq_true_eq,decide_eq_true_eq];omega
     by_cases ho:qbu qa c.done=true
     . have Ho:=Lib.hid ho;by_cases hc:c.counts=qa8 qa c.done
       . have Hc:Hid (decide (c.counts=qa8 qa c.done)=true):=decide_eq_true hc;by_cases hr:n4=n
         . have Pre:Hid (zH qa c):=⟨hv,by have:=Hn1.out;omega,by have:=Hn1.out;omega,ho,hc,by rw [<-Hn4.out,<-Hn.out];exact hr⟩;have hne:((n4:Int) != (n:Int))=false:=by simp [hr]
           have qgA:n1<=4:=hin.2;clear hv hin ho hc hr;go_enter Tryz.func124,Tryz.ntmps124;go_wp2_with fail;refine(qbo _ qa _ hpW hpl Hv.out).mono ?_;rintro e w1 ⟨rfl,hg1⟩;have g1:=qac hgW hg1;have hp1:=hpW.new hg1;have hX1:=hX.new hg1;have d0:=hX1.d0;have d2:=hX1.d2;go_wp2_with fail;refine(qdl _ _ _ _ Hin.out).mono ?_;rintro e w2 ⟨rfl,rfl⟩;go_wp2_with fail;refine(qjd _ _ qa c.done _ hp1 hX1.dn hpl Ho.out).mono ?_;rintro e w2 ⟨rfl,hg2⟩;replace g1:=qac g1 hg2;replace hp1:=hp1.new hg2;replace hX1:=hX1.new hg2;clear d0 d2;have d0:=hX1.d0;have d2:=hX1.d2;have d1:=hX1.d1;have d3:=hX1.d3;go_wp2_with fail;refine(qkh _ _ qa c _ hp1 hX1.cv Hv.out Ho.out Hc.out).mono ?_;rintro e w3 ⟨rfl,hg3⟩;have g3:=qac g1 hg3;have hp3:=hp1.new hg3;have hX3:=hX1.new hg3;clear g1 hp1 hX1 d0 d1 d2 d3 hX hpW hgW hg1 hg3;have d0:=hX3.d0;have d1:=hX3.d1;have d2:=hX3.d2;have d3:=hX3.d3;go_wp2_with fail
           go_loopg [5,6] (n1+1) (fun mm sz i wr=>∃ k:Nat,k<=n1/\mm=n1+1 - k/\i=.int .i64 k/\sz=.int .i64 ((c.qb.take k).flatten.length:Nat)/\wr=w3)
           case atStart=>exact⟨0,Nat.zero_le _,rfl,rfl,rfl,rfl⟩
           case round=>
             obtain⟨k,hk,rfl,rfl,rfl,rfl⟩:=hrel;by_cases hlt:k < n1
             . obtain⟨g,o,d,B,m,e,rfl,hx,c0,hd,hm,-,-⟩:=hX3.dq.at_ hlt;have hdl:=qD.out d (List.mem_of_getElem? hx);have hml:m<=1048576:=by omega
               have hfl:(c.qb.take k).flatten.length<=4194304:=by
                 refine Nat.le_trans (q0f (b:=1048576) (fun y hy=>qD.out y (List.mem_of_mem_take hy))) ?_;have:(c.qb.take k).length<=4:=by rw [List.length_take];have:=Pre.out.d4;omega
                 calc (c.qb.take k).length * 1048576<=4 * 1048576:=Nat.mul_le_mul_right _ this
                   _<=4194304:=by omega
               have Hf:Hid ((c.qb.take (k+1)).flatten.length=(c.qb.take k).flatten.length+m):=by
                 show _=_;rw [qw2 hx,List.length_append,hm]
               generalize (c.qb.take k).flatten.length=q at hfl Hf |-;clear hx hm hdl;go_wp2_with fail;go_roundg (n1+1 - (k+1))
               case measure=>omega
               case rel=>exact⟨k+1,by omega,rfl,by go_num,by rw [Hf.out];go_num,rfl⟩
             . obtain rfl:n1=k:=by omega
               have Hr:Hid ((c.qb.take n1).flatten.length=c.qb.flatten.length):=by
                 show _=_;rw [List.take_of_length_le (by rw [<-Hn1.out];exact Nat.le_refl _)]
               rw [Hr.out];generalize hq:c.qb.flatten.length=q;have Hq:=Lib.hid hq;clear hq;go_wp2_with fail;refine(qre _ _ qa c.done _ hp3 hX3.dn Hv.out).mono ?_;rintro e w5 ⟨v5,rfl,qA,hg5⟩;have g5:=qac g3 hg5;have hp5:=hp3.new hg5;have hX5:=hX3.new hg5;have hr5:=qA.ri;obtain⟨A5,nr,c5,rfl⟩:=hr5.val;have hnr:=hr5.len;have Hnr:=Lib.hid hnr;have yZ:nr<=10:=by rw [hnr];have:=qgf qa c.done;have:=qal Hv.out;omega
               clear hnr qA hg5 hp3 hX3 g3 d0 d1 d2 d3;go_wp2_with fail
               go_loopg [8] (nr+1) (fun mm i wr=>∃ k:Nat,k<=nr/\mm=nr+1 - k/\i=.int .i64 k/\Hid (qrf qa c k)/\w5.grownBy wr none)
               case atStart=>exact⟨0,Nat.zero_le _,rfl,rfl,by show ∀ x∈_,_;simp,qag _ _⟩
               case round=>
                 obtain⟨k,hk,rfl,rfl,Hk,hgk⟩:=hrel;by_cases hlt:k < nr
                 . obtain⟨g,o,x,rfl,hx,c0⟩:=(hr5.new hgk).at_ hlt;have Hx:=Lib.hid hx;have hXk:=hX5.new hgk;have d0:=hXk.d0;have d1:=hXk.d1;have d2:=hXk.d2;have d3:=hXk.d3;have hdl:c.qb.length<=100:=by have:=Pre.out.d4;omega
                   clear hx;by_cases h1:c.qb.flatten.count x=1
                   . have Hs:Hid (qrf qa c (k+1)):=qy5 Hk.out Hx.out h1;clear Hk;have hXd:jy wr.drew w.heap.size (.slice A1 n1 c1) (.slice A2 n2 c2) (.slice A3 n3 c3) (.slice A4 n4 c4) c:=hXk.new (qax (qag _ none));go_wp2_with fail
                     go_region_law (go_simp;go_at_call 161;refine(qw3 _ c x _ (by exact hXd.cv) hdl qD.out).mono ?_;rintro e w6 ⟨z,rfl,hg6⟩;rw [h1])
                     all_goals
                       have hg7:=qac (qax hgk) hg6;clear h1 hXk hXd d0 d1 d2 d3;go_wp2_with fail;go_roundg (nr+1 - (k+1))
                       case measure=>omega
                       case rel=>exact⟨k+1,by omega,rfl,by go_num,Hs,hg7⟩
                   . have Hr:Hid (b=false):=by
                       show _=_;rw [<-Hb.out,Pre.out.valid,qw4 Hx.out h1];rfl
                     have h1':(((c.qb.flatten.count x:Nat):Int) != 1)=true:=by simp;omega
                     clear Hk;have hXd:jy wr.drew w.heap.size (.slice A1 n1 c1) (.slice A2 n2 c2) (.slice A3 n3 c3) (.slice A4 n4 c4) c:=hXk.new (qax (qag _ none));have hAt:∀ v' w',CV w' v' c->Calls Tryz.prog 161 #[v',.int .i64 x] w' (q83 w' (c.qb.flatten.count x)):=fun v' w' hcv=>qw3 v' c x w' hcv hdl qD.out;have HAt:=Lib.hid hAt;generalize c.qb.flatten.count x=y at h1' HAt;clear h1 hAt;go_wp2_with fail
                     go_region_law (go_simp;go_at_call 161;refine(HAt.out _ _ (by exact hXd.cv)).mono ?_;rintro e w6 ⟨z,rfl,hg6⟩)
                     all_goals
                       go_wp2_with fail;go_ret;exact⟨by rw [Hr.out];rfl,qac g5 (qac (qax hgk) hg6)⟩
                 . obtain rfl:nr=k:=by omega
                   have hD:qfz qa c=decide (c.qb.flatten.length=(qao qa c.done).length):=by
                     have:=Hk.out;rw [Hnr.out] at this;exact quo this
                   have HD:=Lib.hid hD;have hp7:=hp5.new hgk;have hX7:=hX5.new hgk;have g7:=qac g5 hgk;clear Hk hD hp5 hX5 g5 hgk;obtain⟨w7,rfl⟩:∃ w7:World,w7=wr:=⟨_,rfl⟩;go_wp2_with fail;refine(qws _ qa _ hp7 Hv.out).mono ?_;rintro e w8 ⟨v8,rfl,kg,hg8⟩;have g8:=qac g7 hg8;have hX8:=hX7.new hg8;have hr8:=kg.rl;obtain⟨A8,n8,c8,rfl⟩:=hr8.val;have hn8:=hr8.len;have qgB:n8=n:=by rw [hn8,qg8,Hn.out]
                   clear kg hg8 hp7 hX7 g7 hn8;subst qgB;go_wp2_with fail
                   go_loopg [12] (n8+1) (fun mm i wr=>∃ k:Nat,k<=n8/\mm=n8+1 - k/\i=.int .i64 k/\Hid (qs8 qa c k)/\w8.grownBy wr none)
                   case atStart=>exact⟨0,Nat.zero_le _,rfl,rfl,fun i hi=>absurd hi (Nat.not_lt_zero _),qag _ _⟩
                   case round=>
                     obtain⟨k,hk,rfl,rfl,Hk,hgk⟩:=hrel;have hga:=qap hgk (.cells #[] 3);have hXk:=hX8.new hga;have hrk:=hr8.new hga;have hE:RI (wr.alloc (.cells #[] 3)) (.slice (some ⟨wr.heap.size,0,none⟩) 0 0) []:=(qf.empty wr (Nat.le_refl _)).ri;generalize hWa:wr.alloc (.cells #[] 3)=wa at hga hXk hrk hE;have d2:=hXk.d2;have d3:=hXk.d3;by_cases hlt:k < n8
                     . have qgC:k < n4:=by have h1:=Hn4.out;have h2:=Pre.out.rl;have h3:=Hn.out;omega
                       obtain⟨g,o,l,B,m,e,rfl,hx,c0,hl,-,-,-⟩:=hrk.at_ hlt;obtain⟨g',o',l',B',m',e',rfl,hx',c0',hl',-,-,-⟩:=hXk.ro.at_ qgC;have hkp:k < qa.length:=by rw [<-Hn.out];exact hlt
                       have hval:l=qcu qa k:=by
                         have:=qko hkp;rw [hx] at this;injection this
                       have Hx':=Lib.hid hx';have Hkp:=Lib.hid hkp;clear hx hx' hkp;by_cases hD:(k:Int)∈c.done
                       . have HD2:Hid (decide ((k:Int)∈c.done)=true):=decide_eq_true hD;have hw:qen qa c.done k=l:=by unfold qen;rw [if_pos hD,hval]
                         by_cases hs:l=l'
                         . have Hs:Hid (decide (l=l')=true):=decide_eq_true hs;have Hn2:Hid (qs8 qa c (k+1)):=qrg Hk.out Hx'.out (hw.trans hs);clear hD hw hs hval Hk;go_wp2_with fail;refine(qdq _ _ _ _ hXk.dn HD2.out).mono ?_;rintro e' w9 ⟨rfl,rfl⟩;go_wp2_with fail;refine(qi1 _ _ _ _ _ hl hl' Hs.out).mono ?_;rintro e' w9 ⟨rfl,hg9⟩;go_wp2_with fail;go_roundg (n8+1 - (k+1))
                           case measure=>omega
                           case rel=>exact⟨k+1,by omega,rfl,by go_num,Hn2,qac hga hg9⟩
                         . have Hs:Hid (decide (l=l')=false):=decide_eq_false hs
                           have Hr:Hid (b=false):=by
                             show _=_;rw [<-Hb.out,Pre.out.valid,qs9 Hkp.out Hx'.out (fun e=>hs (hw.symm.trans e)),Bool.and_false]
                           clear hD hw hs hval Hk;go_wp2_with fail;refine(qdq _ _ _ _ hXk.dn HD2.out).mono ?_;rintro e' w9 ⟨rfl,rfl⟩;go_wp2_with fail;refine(qi1 _ _ _ _ _ hl hl' Hs.out).mono ?_;rintro e' w9 ⟨rfl,hg9⟩;go_wp2_with fail;go_ret;exact⟨by rw [Hr.out];rfl,qac g8 (qac hga hg9)⟩
                       . have HD2:Hid (decide ((k:Int)∈c.done)=false):=decide_eq_false hD;have hw:qen qa c.done k=[]:=by unfold qen;rw [if_neg hD]
                         by_cases hs:[]=l'
                         . have Hs:Hid (decide ([]=l')=true):=decide_eq_true hs;have Hn2:Hid (qs8 qa c (k+1)):=qrg Hk.out Hx'.out (hw.trans hs);clear hD hw hs hval Hk;go_wp2_with fail;refine(qdq _ _ _ _ hXk.dn HD2.out).mono ?_;rintro e' w9 ⟨rfl,rfl⟩;go_wp2_with fail;refine(qi1 _ _ _ _ _ hE hl' Hs.out).mono ?_;rintro e' w9 ⟨rfl,hg9⟩;go_wp2_with fail;go_roundg (n8+1 - (k+1))
                           case measure=>omega
                           case rel=>exact⟨k+1,by omega,rfl,by go_num,Hn2,qac hga hg9⟩
                         . have Hs:Hid (decide ([]=l')=false):=decide_eq_false hs
                           have Hr:Hid (b=false):=by
                             show _=_;rw [<-Hb.out,Pre.out.valid,qs9 Hkp.out Hx'.out (fun e=>hs (hw.symm.trans e)),Bool.and_false]
                           clear hD hw hs hval Hk;go_wp2_with fail;refine(qdq _ _ _ _ hXk.dn HD2.out).mono ?_;rintro e' w9 ⟨rfl,rfl⟩;go_wp2_with fail;refine(qi1 _ _ _ _ _ hE hl' Hs.out).mono ?_;rintro e' w9 ⟨rfl,hg9⟩;go_wp2_with fail;go_ret;exact⟨by rw [Hr.out];rfl,qac g8 (qac hga hg9)⟩
                     . obtain rfl:n8=k:=by omega
                       have Hr:Hid (((q:Int) == (nr:Int))=b):=by
                         show _=_;have hk2:=Hk.out;rw [Hn.out] at hk2;rw [<-Hb.out,Pre.out.valid,HD.out,q2h hk2,Bool.and_true,Hq.out,<-Hnr.out,Bool.eq_iff_iff];simp;omega
                       clear Hk hWa hga hXk hrk hE d2 d3;go_wp2_with fail;go_ret;exact⟨by rw [Hr.out];rfl,qac g8 hgk⟩
         . have Hr:Hid (b=false):=qfj Hb.out (fun e=>hr (by rw [Hn4.out,e.rl,<-Hn.out]));have hne:((n4:Int) != (n:Int))=true:=by simp;omega
           clear hr hc ho hin hv;go_enter Tryz.func124,Tryz.ntmps124;go_wp2_with fail;refine(qbo _ qa _ hpW hpl Hv.out).mono ?_;rintro e w1 ⟨rfl,hg1⟩;have g1:=qac hgW hg1;have hp1:=hpW.new hg1;have hX1:=hX.new hg1;have d0:=hX1.d0;have d2:=hX1.d2;go_wp2_with fail;refine(qdl _ _ _ _ Hin.out).mono ?_;rintro e w2 ⟨rfl,rfl⟩;go_wp2_with fail;refine(qjd _ _ qa c.done _ hp1 hX1.dn hpl Ho.out).mono ?_;rintro e w2 ⟨rfl,hg2⟩;replace g1:=qac g1 hg2;replace hp1:=hp1.new hg2;replace hX1:=hX1.new hg2;clear d0 d2;have d0:=hX1.d0;have d2:=hX1.d2;have d1:=hX1.d1;have d3:=hX1.d3;go_wp2_with fail;refine(qkh _ _ qa c _ hp1 hX1.cv Hv.out Ho.out Hc.out).mono ?_;rintro e w3 ⟨rfl,hg3⟩;have g3:=qac g1 hg3;have hX3:=hX1.new hg3;clear d0 d1 d2 d3;have d3:=hX3.d3;go_wp2_with fail;go_ret;exact⟨by rw [Hr.out];rfl,g3⟩
       . have Hr:Hid (b=false):=qfj Hb.out (fun e=>hc (by rw [e.counts,qg4 e.pv e.order]));have Hc:Hid (decide (c.counts=qa8 qa c.done)=false):=decide_eq_false hc;clear hc ho hin hv;go_enter Tryz.func124,Tryz.ntmps124;go_wp2_with fail;refine(qbo _ qa _ hpW hpl Hv.out).mono ?_;rintro e w1 ⟨rfl,hg1⟩;have g1:=qac hgW hg1;have hp1:=hpW.new hg1;have hX1:=hX.new hg1;have d0:=hX1.d0;have d2:=hX1.d2;go_wp2_with fail;refine(qdl _ _ _ _ Hin.out).mono ?_;rintro e w2 ⟨rfl,rfl⟩;go_wp2_with fail;refine(qjd _ _ qa c.done _ hp1 hX1.dn hpl Ho.out).mono ?_;rintro e w2 ⟨rfl,hg2⟩;replace g1:=qac g1 hg2;replace hp1:=hp1.new hg2;replace hX1:=hX1.new hg2;clear d0 d2;have d0:=hX1.d0;have d2:=hX1.d2;have d1:=hX1.d1;have d3:=hX1.d3;go_wp2_with fail;refine(qkh _ _ qa c _ hp1 hX1.cv Hv.out Ho.out Hc.out).mono ?_;rintro e w3 ⟨rfl,hg3⟩;have g3:=qac g1 hg3;go_wp2_with fail;go_ret;exact⟨by rw [Hr.out];rfl,g3⟩
     . have Hr:Hid (b=false):=qfj Hb.out (fun e=>ho e.order);have Ho':Hid (qbu qa c.done=false):=by show _=_;simpa using ho
       clear ho hin hv;go_enter Tryz.func124,Tryz.ntmps124;go_wp2_with fail;refine(qbo _ qa _ hpW hpl Hv.out).mono ?_;rintro e w1 ⟨rfl,hg1⟩;have g1:=qac hgW hg1;have hp1:=hpW.new hg1;have hX1:=hX.new hg1;have d0:=hX1.d0;have d2:=hX1.d2;go_wp2_with fail;refine(qdl _ _ _ _ Hin.out).mono ?_;rintro e w2 ⟨rfl,rfl⟩;go_wp2_with fail;refine(qjd _ _ qa c.done _ hp1 hX1.dn hpl Ho'.out).mono ?_;rintro e w2 ⟨rfl,hg2⟩;replace g1:=qac g1 hg2;replace hp1:=hp1.new hg2;replace hX1:=hX1.new hg2;clear d0 d2;have d0:=hX1.d0;have d2:=hX1.d2;go_wp2_with fail;go_ret;exact⟨by rw [Hr.out];rfl,g1⟩
   . have Hr:Hid (b=false):=qfj Hb.out (fun e=>hin ⟨by have:=Hn1.out;have:=e.d1;omega,by have:=Hn1.out;have:=e.d4;omega⟩)
     have Hin:Hid ((decide ((1:Int)<=(n1:Int)) && decide ((n1:Int)<=4))=false):=by
       show _=_;rw [Bool.and_eq_false_iff,decide_eq_false_iff_not,decide_eq_false_iff_not];omega
     clear hin hv;go_enter Tryz.func124,Tryz.ntmps124;go_wp2_with fail;refine(qbo _ qa _ hpW hpl Hv.out).mono ?_;rintro e w1 ⟨rfl,hg1⟩;have g1:=qac hgW hg1;have hp1:=hpW.new hg1;have hX1:=hX.new hg1;have d0:=hX1.d0;have d2:=hX1.d2;go_wp2_with fail;refine(qdl _ _ _ _ Hin.out).mono ?_;rintro e w2 ⟨rfl,rfl⟩;go_wp2_with fail;go_ret;exact⟨by rw [Hr.out];rfl,g1⟩
 . have Hr:Hid (b=false):=qfj Hb.out (fun e=>hv e.pv);have Hv':Hid (qae qa=false):=by show _=_;simpa using hv
   clear hv;go_enter Tryz.func124,Tryz.ntmps124;go_wp2_with fail;refine(qbo _ qa _ hpW hpl Hv'.out).mono ?_;rintro e w1 ⟨rfl,hg1⟩;have g1:=qac hgW hg1;go_wp2_with fail;go_ret;exact⟨by rw [Hr.out];rfl,g1⟩
theorem qdz(w:World)(g:Nat)(u v x y:Value):w.grownBy ((((w.setCell ⟨g,0,none⟩ u).setCell ⟨g,1,none⟩ v).setCell ⟨g,2,none⟩ x).setCell ⟨g,3,none⟩ y) (some g):=
 qa2 (q21 w g u v x) (.inr rfl) y
structure qq(w wx:World)(xb R x3 b2:Nat)(d0 k0 o0 r0 d k o r:Value)(c:qj)(D Rw:List (List Int))(xs ys:List Value):Prop where
 b:jy wx xb d0 k0 o0 r0 c
 res:Blk wx R 29 #[.slice none 0 0,.slice none 0 0,.slice none 0 0,.slice none 0 0]
 x:Blk wx x3 29 #[d,k,o,r]
 dq:LX wx w.heap.size d D xs
 ct:RI wx k c.counts
 dn:qf wx w.heap.size o c.done
 ro:LX wx b2 r Rw ys
 hb:w.heap.size<=b2
 hbx:b2<=wx.heap.size
 ap:r=.slice none 0 0∨∀ g,d.ownBlock=some g->g < b2
 al:Apart (o::(xs++ys))
 g:w.grownBy wx none
 lx:w.heap.size<=x3
 nb:xb≠x3
 nr:R≠x3
 hR:w.heap.size<=R
section
variable {w wx wy:World}{xb R x3 b2:Nat}{d0 k0 o0 r0 d k o r:Value}{c:qj}{D Rw:List (List Int)}{xs ys:List Value}
theorem qq.new(M:qq w wx xb R x3 b2 d0 k0 o0 r0 d k o r c D Rw xs ys)(hg:wx.grownBy wy none):qq w wy xb R x3 b2 d0 k0 o0 r0 d k o r c D Rw xs ys:=
 ⟨M.b.new hg,M.res.grown hg (by simp),M.x.grown hg (by simp),M.dq.new hg,M.ct.new hg,M.dn.new hg,M.ro.new hg,M.hb,Nat.le_trans M.hbx hg.size,M.ap,M.al,qac M.g hg,M.lx,M.nb,M.nr,M.hR⟩
theorem jy.grown{w w':World}{g:Nat}{d k o r:Value}{c:qj}{row:Option Nat}(h:jy w g d k o r c)(hg:w.grownBy w' row)(hne:some g≠row)(hr:qg w 3 row)(hr':qg w 24 row):jy w' g d k o r c:=
 ⟨h.b.grown hg hne,h.dq.grown hg hr hr',h.ct.grown hg hr,h.dn.grown hg hr,h.ro.grown hg hr hr'⟩
theorem qq.lts(M:qq w wx xb R x3 b2 d0 k0 o0 r0 d k o r c D Rw xs ys):∀ u∈o::(xs++ys),∀ g,u.ownBlock=some g->g < wx.heap.size:=by
 intro u hu g hg;rcases List.mem_cons.1 hu with rfl | hu
 . exact(M.dn.lt g hg).2
 . rcases List.mem_append.1 hu with hu | hu
   . exact(M.dq.lts u hu g hg).2
   . exact(M.ro.lts u hu g hg).2
theorem qq.apR(M:qq w wx xb R x3 b2 d0 k0 o0 r0 d k o r c D Rw xs ys){f:Value}{l:List Int}(hf:qf wy wx.heap.size f l):Apart (o::(xs++(ys++[f]))):=by
 have:=M.al.join (Apart.one f) M.lts (fun u hu g hg=>by obtain rfl:u=f:=(by simpa using hu);exact(hf.lt g hg).1);simpa using this
theorem qq.apD(M:qq w wx xb R x3 b2 d0 k0 o0 r0 d k o r c D Rw xs []){f:Value}{l:List Int}(hf:qf wy wx.heap.size f l):Apart (o::((xs++[f])++[])):=by
 have:=M.apR hf;simpa using this
theorem qq.xH(M:qq w wx xb R x3 b2 d0 k0 o0 r0 d k o (.slice none 0 0) c D [] xs [])(hc:CV w (.agg #[d0,k0,o0,r0]) c)(hg:wx.grownBy wy d.ownBlock){v' f:Value}{D':List (List Int)}(ho:LX wy w.heap.size v' D' (xs++[f]))(hal:Apart (o::((xs++[f])++[]))) :
   wy.cell? ⟨x3,0,none⟩=some d/\wy.frozen? ⟨x3,0,none⟩=false/\qq w (wy.setCell ⟨x3,0,none⟩ v') xb R x3 b2 d0 k0 o0 r0 v' k o (.slice none 0 0) c D' [] (xs++[f]) []:=by
 have hne:∀ {g:Nat} {cs:Array Value},Blk wx g 29 cs->some g≠d.ownBlock:=fun hb e=>M.dq.qV (by decide) _ e.symm _ hb;have hx:=M.x.grown hg (hne M.x);have hst:wy.grownBy (wy.setCell ⟨x3,0,none⟩ v') (some x3):=qa2 (qag wy (some x3)) (.inr rfl) _;have hg2:w.grownBy wy none:=M.dq.gb M.g hg (Nat.le_refl _);have hg3:w.grownBy (wy.setCell ⟨x3,0,none⟩ v') none:=qa2 hg2 (.inl M.lx) _;have hn2:qg wy 3 (some x3):=qg.blk hx (by decide);have hn3:qg wy 24 (some x3):=qg.blk hx (by decide);have hn1:qg wx 3 d.ownBlock:=M.dq.qV (by decide);obtain⟨d0',k0',o0',r0',e,q1,q2,q3,q4⟩:=hc;injection e with e;injection e with e;injection e with e1 e;injection e with e2 e;injection e with e3 e;injection e with e4 e;subst e1 e2 e3 e4;refine⟨hx.cell 0,hx.frozen 0,⟨(M.b.b.grown hg (hne M.b.b)).far M.nb _,q1.new hg3,q2.new hg3,q3.new hg3,q4.new hg3⟩,(M.res.grown hg (hne M.res)).far M.nr _,hx.qC 0 v',?_,(M.ct.grown hg hn1).grown hst hn2,(M.dn.grown hg hn1).grown hst hn2,LX.nil _ _,M.hb,?_,.inl rfl,hal,hg3,M.lx,M.nb,M.nr,M.hR⟩
 . exact ho.grown hst hn2 hn3
 . exact Nat.le_trans M.hbx (Nat.le_trans hg.size hst.size)
theorem qq.xI(M:qq w wx xb R x3 b2 d0 k0 o0 r0 d k o r c D Rw xs ys)(hlt:∀ g,d.ownBlock=some g->g < b2)(hc:CV w (.agg #[d0,k0,o0,r0]) c)(hg:wx.grownBy wy r.ownBlock){v' f:Value}{R':List (List Int)}(ho:LX wy b2 v' R' (ys++[f]))(hal:Apart (o::(xs++(ys++[f])))) :
   wy.cell? ⟨x3,3,none⟩=some r/\wy.frozen? ⟨x3,3,none⟩=false/\qq w (wy.setCell ⟨x3,3,none⟩ v') xb R x3 b2 d0 k0 o0 r0 d k o v' c D R' xs (ys++[f]):=by
 have hne:∀ {g:Nat} {cs:Array Value},Blk wx g 29 cs->some g≠r.ownBlock:=fun hb e=>M.ro.qV (by decide) _ e.symm _ hb;have hx:=M.x.grown hg (hne M.x);have hst:wy.grownBy (wy.setCell ⟨x3,3,none⟩ v') (some x3):=qa2 (qag wy (some x3)) (.inr rfl) _;have hg2:w.grownBy wy none:=M.ro.gb M.g hg M.hb;have hg3:w.grownBy (wy.setCell ⟨x3,3,none⟩ v') none:=qa2 hg2 (.inl M.lx) _;have hn2:qg wy 3 (some x3):=qg.blk hx (by decide);have hn3:qg wy 24 (some x3):=qg.blk hx (by decide);have hn1:qg wx 3 r.ownBlock:=M.ro.qV (by decide)
 have hdq:LX wy w.heap.size d D xs:=by
   cases hr:r.ownBlock with
   | none=>rw [hr] at hg;exact M.dq.new hg
   | some b=>
     rw [hr] at hg;refine M.dq.far hg (hr ▸ hn1) (fun e=>?_);have:=hlt b e;have:=(M.ro.lt b hr).1;omega
 obtain⟨d0',k0',o0',r0',e,q1,q2,q3,q4⟩:=hc;injection e with e;injection e with e;injection e with e1 e;injection e with e2 e;injection e with e3 e;injection e with e4 e;subst e1 e2 e3 e4;refine⟨hx.cell 3,hx.frozen 3,⟨(M.b.b.grown hg (hne M.b.b)).far M.nb _,q1.new hg3,q2.new hg3,q3.new hg3,q4.new hg3⟩,(M.res.grown hg (hne M.res)).far M.nr _,hx.qC 3 v',hdq.grown hst hn2 hn3,(M.ct.grown hg hn1).grown hst hn2,(M.dn.grown hg hn1).grown hst hn2,ho.grown hst hn2 hn3,M.hb,Nat.le_trans M.hbx (Nat.le_trans hg.size hst.size),.inr hlt,hal,hg3,M.lx,M.nb,M.nr,M.hR⟩
end
def qup(w:World)(c:qj)(e:Ending)(w':World):Prop:=∃ v,e=.returned v/\yI w' w.heap.size v c/\w.grownBy w' none
theorem qq.mk0{w W w1:World}{x3:Nat}{d0 k0 o0 r0 k o:Value}{c:qj}(hgW:w.grownBy W none)(hg:W.grownBy w1 none)(hX:jy W w.heap.size d0 k0 o0 r0 c)(hR:Blk W (w.heap.size+1) 29 #[.slice none 0 0,.slice none 0 0,.slice none 0 0,.slice none 0 0])
   (hB:Blk w1 x3 29 #[.slice none 0 0,.slice none 0 0,.slice none 0 0,.slice none 0 0]) (hbg:W.heap.size<=x3) (hk:qf w1 W.heap.size k c.counts) (ho:qf w1 W.heap.size o c.done) :
   qq w ((((w1.setCell ⟨x3,0,none⟩ (.slice none 0 0)).setCell ⟨x3,1,none⟩ k).setCell ⟨x3,2,none⟩ o).setCell ⟨x3,3,none⟩ (.slice none 0 0)) w.heap.size (w.heap.size+1) x3 w.heap.size d0 k0 o0 r0 (.slice none 0 0) k o (.slice none 0 0) c [] [] [] []:=by
 have hst:=qdz w1 x3 (.slice none 0 0) k o (.slice none 0 0);have hn:qg w1 3 (some x3):=qg.blk hB (by decide);have hn':qg w1 24 (some x3):=qg.blk hB (by decide);have h1:=hX.b.lt;have h2:=hR.lt;have h3:=hgW.size;have hs:=hg.size
 exact⟨(hX.new hg).grown hst (by simp;omega) hn hn',(hR.grown hg (by simp)).grown hst (by simp;omega),(((hB.qC 0 _).qC 1 _).qC 2 _).qC 3 _,LX.nil _ _,hk.ri.grown hst hn,(ho.low h3).grown hst hn,LX.nil _ _,Nat.le_refl _,Nat.le_trans h3 (Nat.le_trans hs hst.size),.inl rfl,Apart.one _,
   qa1 (qac hgW hg) hst (fun g e=>by cases e;exact .inl (by omega)),by omega,by omega,by omega,by omega⟩
theorem qq.end_{w wx:World}{xb R x3 b2:Nat}{d0 k0 o0 r0 d k o r:Value}{c:qj}{xs ys:List Value}(M:qq w wx xb R x3 b2 d0 k0 o0 r0 d k o r c c.qb c.rows xs ys) :
   qup w c (.returned (.agg #[d,k,o,r])) ((((wx.setCell ⟨R,0,none⟩ d).setCell ⟨R,1,none⟩ k).setCell ⟨R,2,none⟩ o).setCell ⟨R,3,none⟩ r):=by
 have hst:=qdz wx R d k o r;have hne:qg wx 3 (some R):=qg.blk M.res (by decide);have vf:qg wx 24 (some R):=qg.blk M.res (by decide);have hro:=M.ro.low M.hb;refine⟨_,rfl,⟨d,k,o,r,xs,ys,rfl,M.dq.grown hst hne vf,M.ct.grown hst hne,M.dn.grown hst hne,hro.grown hst hne vf,M.al,fun g hg hr=>?_⟩,qa1 M.g hst (fun g e=>by cases e;exact .inl M.hR)⟩;rcases M.ap with h | h
 . rw [h] at hr;cases hr
 . have:=h g hg;have:=(M.ro.lt g hr).1;omega
def cpF(xb base:Nat)(k0 o0:Value)(c:qj):Nat->World->Value->Prop
 | 0,w,v=>∃ g,v=.slice (some ⟨g,0,none⟩) 0 0/\Blk w g 3 #[]/\base<=g
 | 1,_,v=>v=.pointer (some ⟨xb,1,none⟩)
 | 2,_,v=>v=k0
 | 3,w,v=>qf w base v c.counts
 | 4,w,v=>∃ g,v=.slice (some ⟨g,0,none⟩) 0 0/\Blk w g 3 #[]/\base<=g
 | 5,_,v=>v=.pointer (some ⟨xb,2,none⟩)
 | 6,_,v=>v=o0
 | 7,w,v=>qf w base v c.done
 | 8,w,v=>∃ k o,v=.agg #[.slice none 0 0,k,o,.slice none 0 0]/\qf w base k c.counts/\qf w base o c.done
 | 9,w,v=>∃ g,v=.pointer (some ⟨g,0,none⟩)/\Blk w g 29 #[.slice none 0 0,.slice none 0 0,.slice none 0 0,.slice none 0 0]/\base<=g
 | _,_,_=>True
theorem q78{xb base:Nat}{k0 o0:Value}{c:qj}(j:Nat)(w w':World)(v:Value)(h:cpF xb base k0 o0 c j w v)(hg:w.grownBy w' none):cpF xb base k0 o0 c j w' v:=by
 match j,h with
 | 0,⟨g,h1,h2,h3⟩=>exact⟨g,h1,h2.grown hg (by simp),h3⟩
 | 1,h=>exact h
 | 2,h=>exact h
 | 3,h=>exact qf.new h hg
 | 4,⟨g,h1,h2,h3⟩=>exact⟨g,h1,h2.grown hg (by simp),h3⟩
 | 5,h=>exact h
 | 6,h=>exact h
 | 7,h=>exact qf.new h hg
 | 8,⟨k,o,h1,h2,h3⟩=>exact⟨k,o,h1,h2.new hg,h3.new hg⟩
 | 9,⟨g,h1,h2,h3⟩=>exact⟨g,h1,h2.grown hg (by simp),h3⟩
 | _+10,_=>trivial
theorem qki(v:Value)(c:qj)(w:World)(h:CV w v c)(hf1:c.qb.length<=1000)(hf2:∀ l∈c.qb,l.length<=1000000)(hf3:c.rows.length<=1000)(hf4:∀ l∈c.rows,l.length<=1000000)(hf5:c.counts.length<=1000000)(hf6:c.done.length<=1000000) :
   Calls Tryz.prog 126 #[v] w (qup w c):=by
 obtain⟨A1,n1,c1,A2,n2,c2,A3,n3,c3,A4,n4,c4,rfl,h1,h2,h3,h4⟩:=h.form;have hX:=h.box;have hn1:=h1.len;have hn4:=h4.len;have Hn1:=Lib.hid hn1;have Hn4:=Lib.hid hn4;have hk1:n1<=1000:=by omega
 have hk4:n4<=1000:=by omega
 have Hf2:=Lib.hid hf2;have Hf4:=Lib.hid hf4;have Hcv:=Lib.hid h;clear hn1 hn4 hf2 hf4 h1 h2 h3 h4 h;go_enter Tryz.func126,Tryz.ntmps126;go_upto_region 1 with fail;have hR0:=Blk.new (w.alloc (.cells #[.slice A1 n1 c1,.slice A2 n2 c2,.slice A3 n3 c3,.slice A4 n4 c4] 29)) 29 #[.slice none 0 0,.slice none 0 0,.slice none 0 0,.slice none 0 0];rw [World.size_alloc] at hR0;have hX0:=hX.new (World.grownBy_alloc _ (.cells #[.slice none 0 0,.slice none 0 0,.slice none 0 0,.slice none 0 0] 29) none);have hgW:w.grownBy ((w.alloc (.cells #[.slice A1 n1 c1,.slice A2 n2 c2,.slice A3 n3 c3,.slice A4 n4 c4] 29)).alloc (.cells #[.slice none 0 0,.slice none 0 0,.slice none 0 0,.slice none 0 0] 29)) none:=qap (qap (qag w none) _) _;generalize ((w.alloc (.cells #[.slice A1 n1 c1,.slice A2 n2 c2,.slice A3 n3 c3,.slice A4 n4 c4] 29)).alloc (.cells #[.slice none 0 0,.slice none 0 0,.slice none 0 0,.slice none 0 0] 29))=W at hR0 hX0 hgW |-;have HR0:=Lib.hid hR0;have xJ:=hR0.lt;have yj:=hX0.b.lt;clear hX hR0
 go_cut [3] (fun t3 wx=>∃ x3 k' o',t3=.pointer (some ⟨x3,0,none⟩)/\qq w wx w.heap.size (w.heap.size+1) x3 w.heap.size (.slice A1 n1 c1) (.slice A2 n2 c2) (.slice A3 n3 c3) (.slice A4 n4 c4) (.slice none 0 0) k' o' (.slice none 0 0) c [] [] [] [])
 case first=>
   refine qrx (n:=10) (m:=54) (F:=cpF w.heap.size W.heap.size (.slice A2 n2 c2) (.slice A3 n3 c3) c) (by kernel_rfl) (by kernel_rfl) rfl q78 ?_ ?_
   . have hb1:Hid (jy W w.heap.size (.slice A1 n1 c1) (.slice A2 n2 c2) (.slice A3 n3 c3) (.slice A4 n4 c4) c):=hX0;have hct:c.counts.length<=1000000000:=by omega
     have hdt:c.done.length<=1000000000:=by omega
     have hgD:W.grownBy W.drew none:=qax (qag _ none);clear hX0;intro j hj o a w1 K ho hg hs hb hK;have hg0:=qac hgD hg;have hbx:=hb1.out.new hg0;have hsz:W.heap.size<=w1.heap.size:=hg0.size;have e1:a.tmps[1]?=some (.pointer (some ⟨w.heap.size,0,none⟩)):=(hs.2.2 1 (by decide)).trans rfl
     match j,hj with
     | 0,_=>
       obtain rfl:=Option.some.inj ho;exact qik (v:=.slice (some ⟨w1.heap.size,0,none⟩) 0 0) (w':=w1.alloc (.cells #[] 3)) (by simp [go_sem,execOp]) (hK _ _ (World.grownBy_alloc _ _ _) ⟨_,rfl,Blk.new _ _ _,hsz⟩)
     | 1,_=>
       obtain rfl:=Option.some.inj ho;exact qij (v:=.pointer (some ⟨w.heap.size,1,none⟩)) (by simp [go_sem,execOp,e1]) (hK _ _ (qag _ _) rfl)
     | 2,_=>
       obtain rfl:=Option.some.inj ho;obtain⟨_,q1,rfl⟩:=hb 1 (by decide) (by kernel_rfl);have e7:a.tmps[7]?=some _:=q1;have d1:=hbx.d1;exact qij (v:=.slice A2 n2 c2) (by simp [go_sem,execOp,e7,d1]) (hK _ _ (qag _ _) rfl)
     | 3,_=>
       obtain rfl:=Option.some.inj ho;obtain⟨_,q1,g,rfl,hB,hbg⟩:=hb 0 (by decide) (by kernel_rfl);obtain⟨_,q2,rfl⟩:=hb 2 (by decide) (by kernel_rfl);have e6:a.tmps[6]?=some _:=q1;have e8:a.tmps[8]?=some _:=q2;obtain⟨v',w',hr,h3,h4⟩:=qvk 24 hB hbg hbx.ct hct;exact qik (v:=v') (w':=w') (by simp [execOp,resolve,invoke,builtin,qo1 e6,qo1 e8,hr]) (hK _ _ h4 h3)
     | 4,_=>
       obtain rfl:=Option.some.inj ho;exact qik (v:=.slice (some ⟨w1.heap.size,0,none⟩) 0 0) (w':=w1.alloc (.cells #[] 3)) (by simp [go_sem,execOp]) (hK _ _ (World.grownBy_alloc _ _ _) ⟨_,rfl,Blk.new _ _ _,hsz⟩)
     | 5,_=>
       obtain rfl:=Option.some.inj ho;exact qij (v:=.pointer (some ⟨w.heap.size,2,none⟩)) (by simp [go_sem,execOp,e1]) (hK _ _ (qag _ _) rfl)
     | 6,_=>
       obtain rfl:=Option.some.inj ho;obtain⟨_,q1,rfl⟩:=hb 5 (by decide) (by kernel_rfl);have e7:a.tmps[11]?=some _:=q1;have d1:=hbx.d2;exact qij (v:=.slice A3 n3 c3) (by simp [go_sem,execOp,e7,d1]) (hK _ _ (qag _ _) rfl)
     | 7,_=>
       obtain rfl:=Option.some.inj ho;obtain⟨_,q1,g,rfl,hB,hbg⟩:=hb 4 (by decide) (by kernel_rfl);obtain⟨_,q2,rfl⟩:=hb 6 (by decide) (by kernel_rfl);have e6:a.tmps[10]?=some _:=q1;have e8:a.tmps[12]?=some _:=q2;obtain⟨v',w',hr,h3,h4⟩:=qvk 24 hB hbg hbx.dn hdt;exact qik (v:=v') (w':=w') (by simp [execOp,resolve,invoke,builtin,qo1 e6,qo1 e8,hr]) (hK _ _ h4 h3)
     | 8,_=>
       obtain rfl:=Option.some.inj ho;obtain⟨k',q1,hk'⟩:=hb 3 (by decide) (by kernel_rfl);obtain⟨o',q2,ho'⟩:=hb 7 (by decide) (by kernel_rfl);obtain⟨Ak,nk,ck,rfl⟩:=(show qf _ _ k' _ from hk').ri.val;obtain⟨Ao,no,co,rfl⟩:=(show qf _ _ o' _ from ho').ri.val;have e9:a.tmps[9]?=some _:=q1;have e13:a.tmps[13]?=some _:=q2;exact qij (v:=.agg #[.slice none 0 0,.slice Ak nk ck,.slice Ao no co,.slice none 0 0]) (by simp [go_sem,execOp,e9,e13]) (hK _ _ (qag _ _) ⟨_,_,rfl,hk',ho'⟩)
     | 9,_=>
       obtain rfl:=Option.some.inj ho;exact qik (v:=.pointer (some ⟨w1.heap.size,0,none⟩)) (w':=w1.alloc (.cells #[.slice none 0 0,.slice none 0 0,.slice none 0 0,.slice none 0 0] 29)) (by simp [go_sem,execOp]) (hK _ _ (World.grownBy_alloc _ _ _) ⟨_,rfl,Blk.new _ _ _,hsz⟩)
   . intro vs hvs w1 hg hall
     match vs,hvs with
     | [v0,v1,v2,v3,v4,v5,v6,v7,v8,v9],_=>
       obtain⟨x3,e9,hB,hbg⟩:=hall 9 (by decide);obtain⟨k',o',e8,hk',ho'⟩:=hall 8 (by decide);obtain rfl:v9=.pointer (some ⟨x3,0,none⟩):=e9;obtain rfl:v8=.agg #[.slice none 0 0,k',o',.slice none 0 0]:=e8;have b0:=hB.cell 0;have b1:=hB.cell 1;have b2:=hB.cell 2;have b3:=hB.cell 3;have f0:=hB.frozen 0;have f1:=hB.frozen 1;have f2:=hB.frozen 2;have f3:=hB.frozen 3;have qbJ:qf w1 W.heap.size k' c.counts:=hk';have qbK:qf w1 W.heap.size o' c.done:=ho';obtain⟨Ak,nk,ck,rfl⟩:=qbJ.ri.val;obtain⟨Ao,no,co,rfl⟩:=qbK.ri.val;simp only [qpp,List.range,List.range.loop,List.foldl,jK,Act.put,List.drop];go_wp2_with fail;have M:=qq.mk0 hgW (qac (qax (qag _ none)) hg) hX0 HR0.out hB hbg qbJ qbK;clear b0 b1 b2 b3 f0 f1 f2 f3 qbJ qbK hB;go_meet;exact⟨x3,_,_,rfl,M⟩
 case rest=>
   obtain⟨x3,k',o',rfl,M⟩:=hcut;clear hX0 HR0 hgW xJ yj;have hs1:w.heap.size<=w.heap.size+1:=Nat.le_succ _;generalize w.heap.size+1=R at M |-;go_wp2_with fail
   go_loopg [4] (n1+1) (fun mm i wr=>∃ (k:Nat) (d:Value) (xs:List Value),k<=n1/\mm=n1+1 - k/\i=.int .i64 k/\qq w wr w.heap.size R x3 w.heap.size (.slice A1 n1 c1) (.slice A2 n2 c2) (.slice A3 n3 c3) (.slice A4 n4 c4) d k' o' (.slice none 0 0) c (c.qb.take k) [] xs [])
   case atStart=>exact⟨0,_,_,Nat.zero_le _,rfl,rfl,M⟩
   case round=>
     clear M;obtain⟨k,d,xs,hk,rfl,rfl,M⟩:=hrel;have b0:=M.b.d0;by_cases hlt:k < n1
     . obtain⟨g,o,l,B,m,e',rfl,hl,q0,yV,-,-,-⟩:=M.b.dq.at_ hlt;have qgD:l.length<=1000000:=Hf2.out l (List.mem_of_getElem? hl)
       have Ht:Hid (c.qb.take (k+1)=c.qb.take k++[l]):=by
         show _=_;obtain⟨hkl,rfl⟩:=List.getElem?_eq_some_iff.1 hl;rw [List.take_succ_eq_append_getElem hkl]
       have htl:(c.qb.take k).length<=1000:=by rw [List.length_take];omega
       obtain⟨Af,nf,cf,rfl⟩:=M.dq.rl.val;have hlb:w.heap.size < wr.heap.size:=M.b.b.lt;have hlx:x3 < wr.heap.size:=M.x.lt;have hlg:g < wr.heap.size:=by simpa using qgo q0
       have x0:=M.x.cell 0;have hE:qf (wr.alloc (.cells #[] 3)).drew wr.heap.size (.slice (some ⟨wr.heap.size,0,none⟩) 0 0) []:=qf.empty wr (Nat.le_refl _);have hgE:wr.grownBy (wr.alloc (.cells #[] 3)).drew none:=qax (World.grownBy_alloc wr _ none);have hrE:RI (wr.alloc (.cells #[] 3)).drew (.slice B m e') l:=yV.new hgE;have hlen:([]:List Int).length+l.length<=1000000000:=by simp only [List.length_nil];omega
       clear hl;go_wp2_with fail
       go_region_law (first
         | (refine qdt (w:=(wr.alloc (.cells #[] 3)).drew) (base:=wr.heap.size) (v:=.slice (some ⟨wr.heap.size,0,none⟩) 0 0) (xv:=.slice B m e') (l0:=[]) (l:=l) (.tmp 24) (.tmp 29) rfl rfl hE hrE hlen hgE.size rfl rfl ?_;intro v' w4 qn hg4;have hg5:=hE.gb hgE hg4 (Nat.le_refl _);have M4:=M.new hg5;have x04:=M4.x.cell 0;have hl4:x3 < w4.heap.size:=Nat.lt_of_lt_of_le hlx hg5.size;obtain⟨A4',n4',c4',rfl⟩:=qn.ri.val;have r4:qf w4 wr.heap.size (.slice A4' n4' c4') l:=by simpa using qn)
         | (refine qil (w:=w4) (base:=w.heap.size) (v:=.slice Af nf cf) (ll:=c.qb.take k) (l:=l) (f:=.slice A4' n4' c4') (.tmp 23) (.tmp 31) rfl rfl M4.dq (r4.low M.g.size) (by omega) M4.g.size rfl rfl ?_;intro v5 w5 qA hg6;obtain⟨z1,z2,M5⟩:=M4.xH Hcv.out hg6 qA (M.apD r4);obtain⟨A5,n5,c5,rfl⟩:=qA.rl.val))
       all_goals
         rw [<-Ht.out] at M5;go_wp2_with fail;go_roundg (n1+1 - (k+1))
         case measure=>omega
         case rel=>exact⟨k+1,_,_,by omega,rfl,by go_num,M5⟩
     . obtain rfl:n1=k:=by omega
       have M0:qq w wr w.heap.size R x3 wr.heap.size (.slice A1 n1 c1) (.slice A2 n2 c2) (.slice A3 n3 c3) (.slice A4 n4 c4) d k' o' (.slice none 0 0) c c.qb [] xs []:=by
         have e:c.qb.take n1=c.qb:=List.take_of_length_le (by rw [<-Hn1.out];exact Nat.le_refl _);rw [e] at M;exact{ M with ro:=LX.nil _ _,hb:=M.g.size,hbx:=Nat.le_refl _,ap:=.inl rfl }
       have Hlt:Hid (∀ g,d.ownBlock=some g->g < wr.heap.size):=fun g hg=>(M0.dq.lt g hg).2;clear M;obtain⟨w3,rfl⟩:∃ w3:World,w3=wr:=⟨_,rfl⟩;go_wp2_with fail;generalize w3.heap.size=b2 at M0 Hlt
       go_loopg [5] (n4+1) (fun mm i wr=>∃ (k:Nat) (r:Value) (ys:List Value),k<=n4/\mm=n4+1 - k/\i=.int .i64 k/\qq w wr w.heap.size R x3 b2 (.slice A1 n1 c1) (.slice A2 n2 c2) (.slice A3 n3 c3) (.slice A4 n4 c4) d k' o' r c c.qb (c.rows.take k) xs ys)
       case atStart=>exact⟨0,_,_,Nat.zero_le _,rfl,rfl,M0⟩
       case round=>
         clear M0;obtain⟨k,r,ys,hk,rfl,rfl,M⟩:=hrel;have b3:=M.b.d3;by_cases hlt:k < n4
         . obtain⟨g,o,l,B,m,e',rfl,hl,q0,yV,-,-,-⟩:=M.b.ro.at_ hlt;have qgD:l.length<=1000000:=Hf4.out l (List.mem_of_getElem? hl)
           have Ht:Hid (c.rows.take (k+1)=c.rows.take k++[l]):=by
             show _=_;obtain⟨hkl,rfl⟩:=List.getElem?_eq_some_iff.1 hl;rw [List.take_succ_eq_append_getElem hkl]
           have htl:(c.rows.take k).length<=1000:=by rw [List.length_take];omega
           obtain⟨Af,nf,cf,rfl⟩:=M.ro.rl.val;have hlb:w.heap.size < wr.heap.size:=M.b.b.lt;have hlx:x3 < wr.heap.size:=M.x.lt;have hlg:g < wr.heap.size:=by simpa using qgo q0
           have x0:=M.x.cell 3;have hE:qf (wr.alloc (.cells #[] 3)).drew wr.heap.size (.slice (some ⟨wr.heap.size,0,none⟩) 0 0) []:=qf.empty wr (Nat.le_refl _);have hgE:wr.grownBy (wr.alloc (.cells #[] 3)).drew none:=qax (World.grownBy_alloc wr _ none);have hrE:RI (wr.alloc (.cells #[] 3)).drew (.slice B m e') l:=yV.new hgE;have hlen:([]:List Int).length+l.length<=1000000000:=by simp only [List.length_nil];omega
           clear hl;go_wp2_with fail
           go_region_law (first
             | (refine qdt (w:=(wr.alloc (.cells #[] 3)).drew) (base:=wr.heap.size) (v:=.slice (some ⟨wr.heap.size,0,none⟩) 0 0) (xv:=.slice B m e') (l0:=[]) (l:=l) (.tmp 43) (.tmp 48) rfl rfl hE hrE hlen hgE.size rfl rfl ?_;intro v' w4 qn hg4;have hg5:=hE.gb hgE hg4 (Nat.le_refl _);have M4:=M.new hg5;have x04:=M4.x.cell 3;have hl4:x3 < w4.heap.size:=Nat.lt_of_lt_of_le hlx hg5.size;obtain⟨A4',n4',c4',rfl⟩:=qn.ri.val;have r4:qf w4 wr.heap.size (.slice A4' n4' c4') l:=by simpa using qn)
             | (refine qil (w:=w4) (base:=b2) (v:=.slice Af nf cf) (ll:=c.rows.take k) (l:=l) (f:=.slice A4' n4' c4') (.tmp 42) (.tmp 50) rfl rfl M4.ro (r4.low M.hbx) (by omega) M4.hbx rfl rfl ?_;intro v5 w5 qA hg6;obtain⟨z1,z2,M5⟩:=M4.xI Hlt.out Hcv.out hg6 qA (M.apR r4);obtain⟨A5,n5,c5,rfl⟩:=qA.rl.val))
           all_goals
             rw [<-Ht.out] at M5;go_wp2_with fail;go_roundg (n4+1 - (k+1))
             case measure=>omega
             case rel=>exact⟨k+1,_,_,by omega,rfl,by go_num,M5⟩
         . obtain rfl:n4=k:=by omega
           have e:c.rows.take n4=c.rows:=List.take_of_length_le (by rw [<-Hn4.out];exact Nat.le_refl _);rw [e] at M;have hcr:=M.end_;obtain⟨Ad,nd,cd,rfl⟩:=M.dq.rl.val;obtain⟨Ak,nk,ck,rfl⟩:=M.ct.val;obtain⟨Ao,no,co,rfl⟩:=M.dn.ri.val;obtain⟨Ar,nr,cr,rfl⟩:=M.ro.rl.val;have x0:=M.x.cell 0;have x1:=M.x.cell 1;have x2:=M.x.cell 2;have x3':=M.x.cell 3;have y0:=M.res.cell 0;have y1:=M.res.cell 1;have y2:=M.res.cell 2;have y3:=M.res.cell 3;have f0:=M.res.frozen 0;have f1:=M.res.frozen 1;have f2:=M.res.frozen 2;have f3:=M.res.frozen 3;clear M e;go_wp2_with fail;refine bodyPost_ret (v:=.agg #[.slice Ad nd cd,.slice Ak nk ck,.slice Ao no co,.slice Ar nr cr]) (by simp [results,Tryz.results126,go_sem,y0,y1,y2,y3]) rfl ?_;exact hcr
end
end Go.Proofs.YtacemdoejblgaaaGreatDoor

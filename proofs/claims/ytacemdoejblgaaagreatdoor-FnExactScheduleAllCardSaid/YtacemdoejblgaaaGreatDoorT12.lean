/- Part M12. Conditions: each statement's. -/
import Derived.Test.YtacemdoejblgaaaGreatDoorT11
import Derived.Test.YtacemdoejblgaaaGreatDoorRows
import Derived.ProofKit
import Derived.OpenShut
import Derived.ShutString
import Derived.ChangeOld
import Derived.Below
import Derived.LaidMore
import Derived.LaidHandle
import Derived.MakeChecks
import Derived.Stop.LaidErr
import Derived.Stop.Joined
import Derived.Deep.Slices
import Derived.Deep.Fields
import Derived.Test.YtacemdoejblgaaaGreatDoorCards
import Derived.SevenTiedAt
import Derived.ChangeVars
import Derived.WideKeyArgs
import Derived.Lib.SmallJoins
import Derived.LaidLaws
import Derived.Test.YtacemdoejblgaaaGreatDoorT05
namespace Go.Proofs.YtacemdoejblgaaaGreatDoor
open _root_.Array renaming all_eq_true_iff_forall_mem→Ab,getElem?_setIfInBounds_ne→Ah
open Bool renaming and_eq_true→Ai,not_eq_true'→Aj
open Char renaming ofNat→Am
open Go renaming Value→Ap,World→As,TypeId→At,bodyPost_ret→Ax,wpList_make_full→Ay,MemPlace→Az,DataW→AA,Calls→AB,results_none→AD,Program→AE,Operand→AF
open DataW renaming TrodVars→AG
open Extern.ReflectliteType renaming method→AH,typeOf→AI,toType→AJ,ofRtype→AK
open Extern.Rtype renaming noPackHeld→AL,ofHandle→AM,noPack→AN,handle→AO
open _root_.Go.Proofs.Tryz renaming prog→AP
open World renaming grownBy_alloc→AQ,size_setCell→AR
open List renaming getElem?_eq_getElem→AS,getElem?_eq_some_iff→AT,mem_of_getElem?→AU,getElem?_set_ne→AV,take_of_length_le→AW,getElem?_set_self→AX,length_map→AY,getElem?_replicate→AZ,length_set→B9,getElem_of_mem→Ba,getElem?_map→Bb,getD_eq_getElem?_getD→Bc,length_take→Be,append_nil→Bf,drop_eq_nil_of_le→Bg,contains_iff_mem→Bh,pairwise_cons→Bi,length_append→Bj,length_drop→Bm,all_eq_true→Bn
open Nat renaming le_refl→Bo,lt_of_lt_of_le→Bp,le_trans→Bq,zero_le→Br,lt_or_ge→Bs,lt_or_gt_of_ne→Bt,ne_of_lt→Bu
open Option renaming getD_some→Bv,bind_eq_some_iff→By
open Option.some renaming inj→Bz
open List _root_.Go.Proofs.Tryz World Value
set_option maxRecDepth 100000
set_option maxHeartbeats 6400000
variable {a:Addr}{fn:Func}{lk:Int}{ws:List (List Char)}{l l':List Int}{q:List Az}{qa:List Node}{xs:List Ap}{N R b b0 f g j n:Nat}{row:Option Nat}{P:AE}{E t:At}{i:TypeInfo}{d k o pv r u v:Ap}{W W' w y z:As}{c:qh}
section
open Go.RowKit
theorem qkq(v:Ap)(cs:List Int)(w:As)(h:RI w v cs)(hl:cs.length<=1000000):AB prog 66 #[v] w (qer w (jG cs)):=by
 obtain⟨A,n,c,rfl,hnc,hn⟩:=h.form';rw[<-hn]at hl;have Hn:=Lib.hid hn;have h0:qf w w.heap.size (.slice none 0 0) []:=qf.nil w _;clear hn;go_enter func66,ntmps66;go_wp2_with fail
 go_loopg [3,8] (n+1) (λmm out i wr=>∃k:Nat,k<=n/\mm=n+1-k/\i=.int .i64 k/\qf wr w.heap.size out (qml cs k)/\w.grownBy wr none)
 case atStart=>exact⟨0,Br _,rfl,rfl,h0,qag w none⟩
 case round=>
  clear h0;obtain⟨k,hk,rfl,rfl,hown,hg⟩:=hrel;have hzl:=qtw cs k;by_cases hlt:k<n
  . obtain⟨g,o,x,rfl,hx,c0⟩:=(h.new hg).at_ hlt;have hs:=qkv hx;have hsz:=hg.size;obtain⟨A1,n1,c1,rfl⟩:=hown.ri.val;clear hx;by_cases h0:x=0
    . have hq:(x==0)=true:=by simpa using h0
      rw[if_pos h0]at hs;have Hs:=Lib.hid hs;clear hs h0;go_wp2_with (at_builtin;go_must (refine qex _ _ rfl rfl hown (by omega) hsz rfl rfl rfl ?_));intro v2 w2 j4 hg2;rw[<-Hs.out]at j4;have hg3:=hown.gb hg hg2 (Bo _);obtain⟨A2,n2,c2,rfl⟩:=j4.ri.val;go_wp2;go_roundg (n+1-(k+1))
      case measure=>omega
      case rel=>exact⟨k+1,by omega,rfl,by go_num,j4,hg3⟩
    . have hq:(x==0)=false:=by simpa using h0
      rw[if_neg h0,Bf]at hs;rw[<-hs]at hown;clear hs h0;go_wp2;go_roundg (n+1-(k+1))
      case measure=>omega
      case rel=>exact⟨k+1,by omega,rfl,by go_num,hown,hg⟩
  . obtain rfl:n=k:=by omega
    obtain⟨A2,n2,c2,rfl⟩:=hown.ri.val;have ho2:qf wr w.heap.size (.slice A2 n2 c2) (jG cs):=by unfold jG;rw[<-Hn.out];exact hown
    go_wp2;go_ret;exact⟨_,rfl,ho2,hg⟩
theorem q94(gd j base:Nat)(x:Int)(u:Ap)(l:List Int)(cs:Array Ap)(w:As)(hB:Blk w gd 96 cs)(hu:cs[j]?=some u)(ho:qf w base u l)(hl:l.length<=1000000)(hbw:base<=w.heap.size) :
   AB prog 67 #[.pointer (some ⟨gd,j,none⟩),.int .i64 x] w λe w'=>e=.returned (.tuple #[])/\∃u' wm,qf wm base u' (l++[x])/\w.grownBy wm u.ownBlock /\
    (u'.ownBlock=u.ownBlock∨∃b,u'.ownBlock=some b/\w.heap.size<=b)/\w'=wm.setCell ⟨gd,j,none⟩ u':=by
 obtain⟨A,n,c,rfl⟩:=ho.ri.val;have d0:w.cell? ⟨gd,j,none⟩=some (.slice A n c):=(hB.cell j).trans hu;have f0:=hB.frozen j;clear hu;go_enter func67,ntmps67;go_wp2_with (at_builtin;go_must (refine qh6 (.tmp 8) (.tmp 10) rfl rfl ho (by omega) hbw rfl rfl rfl ?_));intro v2 w2 ho2 hg2 hb2;have B2:Blk w2 gd 96 cs:=hB.past hg2 (ho.jl (by decide));obtain⟨A2,n2,c2,rfl⟩:=ho2.ri.val
 have e0:w2.cell? ⟨gd,j,none⟩=some (.slice A n c):=by
  rw[cell?_of_block (B2.trans hB.symm)];exact d0
 have e1:=B2.frozen j;have hfin:=Lib.hid (show ∃u' wm,qf wm base u' (l++[x])/\w.grownBy wm (slice A n c).ownBlock/\(u'.ownBlock=(slice A n c).ownBlock∨∃b,u'.ownBlock=some b/\w.heap.size<=b)/\w2.setCell ⟨gd,j,none⟩ (.slice A2 n2 c2)=wm.setCell ⟨gd,j,none⟩ u' from⟨_,w2,ho2,hg2,hb2,rfl⟩);clear hB ho hg2 B2 ho2 hb2 d0 f0;go_wp2_with fail
 first|exact jU (AD rfl _ _ _) rfl ⟨rfl,hfin.out⟩|exact bodyPost_end (AD rfl _ _ _) rfl ⟨rfl,hfin.out⟩|(go_ret;exact⟨rfl,hfin.out⟩)
theorem qjC:(AP.info? 96).map (λi=>(i.zero,i.size,i.bytes))=some (some (.agg #[.slice none 0 0]),1,24):=by kernel_rfl
def DX(w:As)(o0 b1 gd n:Nat)(D:List (List Int))(xs:List Ap):Prop:=
 w.ownsRow o0 96 1 (.slice (some ⟨gd,0,none⟩) n n) n xs/\D.length=n/\(∀(i:Nat) (l:List Int),D[i]?=some l->∃u,xs[i]?=some u/\qf w b1 u l)/\Apart xs
theorem qws(n:Nat):(madeCells #[.slice none 0 0] n).toList=replicate n (.slice none 0 0):=by
 apply ext_getElem?;intro i;rw[AZ];by_cases hi:i<n
 . simp[madeCells,hi,Nat.mod_one]
 . simp[madeCells,hi]
section
variable {w w':As}{o0 b1 gd n:Nat}{D:List (List Int)}{xs:List Ap}
theorem DX.len(h:DX w o0 b1 gd n D xs):xs.length=n:=by have:=h.1.1;omega
theorem DX.made(h:w.ownsRow o0 96 1 (.slice (some ⟨gd,0,none⟩) n n) n (madeCells #[.slice none 0 0] n).toList):DX w o0 b1 gd n (replicate n []) (replicate n (.slice none 0 0)):=by
 rw[qws]at h;refine⟨h,by simp,λi l hi=>?_,Apart.qaD n⟩
 obtain⟨hin,rfl⟩:i<n/\l=[]:=by
  rw[AZ]at hi;split at hi
  . exact⟨by assumption,by injection hi with e;exact e.symm⟩
  . cases hi
 exact⟨.slice none 0 0,by simp[hin],qf.nil _ _⟩
theorem LX.qcN(h:w.ownsRow o0 24 1 v n (madeCells #[.slice none 0 0] n).toList):LX w o0 v (replicate n []) (replicate n (.slice none 0 0)):=by
 rw[qws]at h;refine⟨by rw[length_replicate];exact h,λi l hi=>?_⟩
 obtain⟨hin,rfl⟩:i<n/\l=[]:=by
  rw[AZ]at hi;split at hi
  . exact⟨by assumption,by injection hi with e;exact e.symm⟩
  . cases hi
 exact⟨.slice none 0 0,by simp[hin],qf.nil _ _⟩
theorem DX.grown(h:DX w o0 b1 gd n D xs)(hg:w.grownBy w' row)(hr:qg w 3 row)(hr':qg w 96 row):DX w' o0 b1 gd n D xs:=
 ⟨qce h.1 hg hr',h.2.1,λi l hi=>let ⟨u,k1,k2⟩:=h.2.2.1 i l hi;⟨u,k1,k2.grown hg hr⟩,h.2.2.2⟩
theorem DX.new(h:DX w o0 b1 gd n D xs)(hg:w.grownBy w' none):DX w' o0 b1 gd n D xs:=h.grown hg (qg.none _ _) (qg.none _ _)
theorem DX.blk(h:DX w o0 b1 gd n D xs):∃cur,Blk w gd 96 cur/\∀i:Nat,cur[i]?=xs[i]?:=by
 rcases h.1.2 with ⟨e,_⟩|⟨g,cap,cur,e,hb,hh,hn,hm,hcs,ht⟩
 . cases e
 . injection e with e1 e2 e3;injection e1 with e1;injection e1 with e1;subst e1 e3;refine⟨cur,hh,λi=>?_⟩;have hl:cur.toList.length=n:=by rw[Array.length_toList,hcs];omega
   rw[Nat.mul_one,AW (by omega)]at ht;rw[<-ht,Array.getElem?_toList]
theorem DX.push{wm:As}{u':Ap}(h:DX w o0 b1 gd n D xs)(hl:D[j]?=some l)(hu:xs[j]?=some u)(hg:w.grownBy wm u.ownBlock)(ho:qf wm b1 u' l')(hb:u'.ownBlock=u.ownBlock∨∃b,u'.ownBlock=some b/\w.heap.size<=b) :
   DX (wm.setCell ⟨gd,j,none⟩ u') o0 b1 gd n (D.set j l') (xs.set j u'):=by
 obtain⟨h1,h2,h3,hap⟩:=h;have hk:j<D.length:=(AT.1 hl).1;have hkx:j<xs.length:=(AT.1 hu).1;have hxl:xs.length=n:=by have:=h1.1;omega
 have hI:qf w b1 u l:=by
  obtain⟨y,k1,k2⟩:=h3 j l hl;rw[hu]at k1;injection k1 with k1;subst k1;exact k2
 have qcC:∀y∈xs,∀g,y.ownBlock=some g->g<w.heap.size:=by
  intro y hy g hg;obtain⟨i,hi,rfl⟩:=Ba hy;obtain⟨y',k1,k2⟩:=h3 i _ (AS (by omega));rw[AS hi]at k1;injection k1 with k1;subst k1;exact(k2.lt g hg).2
 have hNu:qg w 96 u.ownBlock:=hI.jl (by decide);have hcs:=qce h1 hg hNu;have hst:wm.grownBy (wm.setCell ⟨gd,j,none⟩ u') (some gd):=qa3 (p:=⟨gd,j,none⟩) (qag wm (some gd)) (.inr rfl) _;have s1:=ownsRow.stored hcs j u';have hne:qg wm 3 (some gd):=qg.own (v:=.slice (some ⟨gd,0,none⟩) n n) hcs (by decide);refine⟨s1.1,by rw[B9];exact h2,λi x hi=>?_,?_⟩
 . by_cases hik:i=j
   . subst hik;rw[AX hk]at hi;obtain rfl:l'=x:=by simpa using hi
     exact⟨u',by rw[AX hkx],ho.grown hst hne⟩
   . rw[AV (λe=>hik e.symm)]at hi;obtain⟨y,k1,k2⟩:=h3 i x hi;refine⟨y,by rw[AV (λe=>hik e.symm)];exact k1,?_⟩
     have hyu:y.ownBlock=none∨y.ownBlock≠u.ownBlock:=by
      cases hy:y.ownBlock with
      |none=>exact .inl rfl
      |some b=>
       right;intro e;rw[Apart.iff]at hap;rcases Bt hik with hlt|hlt
       . exact hap i j y u b hlt k1 hu hy e.symm
       . exact hap j i u y b hlt hu k1 e.symm hy
     exact(k2.qQ hg hyu).grown hst hne
 . rw[Apart.iff]at hap |-;intro i i2 a b gg hij ha hb' hga hgb
   have other:∀(i:Nat) (a:Ap),i≠j->xs[i]?=some a->a.ownBlock=some gg->u'.ownBlock≠some gg:=by
    intro i a hik ha hga e;rcases hb with e2|⟨b2,e2,hge⟩
    . rw[e2]at e;rcases Bt hik with hlt|hlt
      . exact hap i j a u gg hlt ha hu hga e
      . exact hap j i u a gg hlt hu ha e hga
    . rw[e2]at e;injection e with e;have:=qcC a (AU ha) gg hga;omega
   by_cases hik:i=j
   . subst hik;rw[AX hkx]at ha;injection ha with ha;subst ha;rw[AV (by omega)]at hb';exact other i2 b (by omega) hb' hgb hga
   . rw[AV (λe=>hik e.symm)]at ha;by_cases hjk:i2=j
     . subst hjk;rw[AX hkx]at hb';injection hb' with hb';subst hb';exact other i a hik ha hga hgb
     . rw[AV (λe=>hjk e.symm)]at hb';exact hap i i2 a b gg hij ha hb' hga hgb
end
theorem q2v{ops:Array Oper}{rest:List Oper}{o:Oper}{a:Act}{Q:Exit->Act->As->Prop}
   (s x:AF) (hgd:o.guard=none) (ho:o.op=.call {callee:=.builtin .append,args:=#[s,x],argTypes:=#[27,27]})
   {base:Nat}   (hown:w.ownsRow base 24 1 v n xs) (h1:u.oneCell'=true) (hn:n<=1000000000) (hbase:base<=w.heap.size)
   (hs:a.eval s=v)  (hx:a.eval x=.slice (some ⟨N,0,none⟩) 1 1) (hN:N=w.heap.size)
   (h:∀v' w',w'.ownsRow base 24 1 v' (n+1) (xs++[u])->w.grownBy w' v.ownBlock->wpList prog ops Q rest (a.put o.dst v') w') :
   wpList prog ops Q (o::rest) a (w.alloc (.cells #[u] 24)):=by
 subst hN
 exact qfy s x 27 (.slice none 0 0) 1 24 underlying27 qlk rfl (by decide) (by decide) hgd ho hown hn hbase rfl (λy hy=>by
  have:y=u:=by simpa using hy
  subst this;exact h1) hs hx λv' w' k1 k2 _=>h v' w' (by simpa using k1) k2
theorem qn6{base:Nat}(h:w.ownsRow base E 1 v n xs):∃A c,v=.slice A n c:=by
 rcases h.2 with ⟨rfl,h0⟩|⟨g,cap,cur,rfl,_⟩
 . obtain rfl:n=0:=by omega
   exact⟨none,0,rfl⟩
 . exact⟨_,_,rfl⟩
theorem qqq{wx:As}{r:Option qh}{q:Ap}{b:Bool}(hg:w.grownBy wx none)(hR:Blk wx w.heap.size 29 #[.slice none 0 0,.slice none 0 0,.slice none 0 0,.slice none 0 0])(hb:b=r.isSome)(hc:qI wx w.heap.size (.agg #[d,k,o,q]) (r.getD qc4)) :
   qju w r (.returned (.tuple #[.agg #[d,k,o,q],.bool b])) ((((wx.setCell ⟨w.heap.size,0,none⟩ d).setCell ⟨w.heap.size,1,none⟩ k).setCell ⟨w.heap.size,2,none⟩ o).setCell ⟨w.heap.size,3,none⟩ q):=
 have hst:=qdn wx w.heap.size d k o q
 ⟨_,by rw[hb],hc.grown hst (qg.blk hR (by decide)) (qg.blk hR (by decide)),qa2 hg hst (λg e=>by cases e;exact .inl (Bo _))⟩
theorem qqr(pv:Ap)(qa:List Node)(n:Int)(w:As)(hp:RN w pv qa):AB prog 41 #[pv,.int .i64 n] w (qju w (qbk qa n)):=by
 obtain⟨A,np,cp,rfl,-,hnp,-⟩:=hp.form';have Hnp:=Lib.hid hnp;have hR0:=Blk.new w 29 #[.slice none 0 0,.slice none 0 0,.slice none 0 0,.slice none 0 0];have hgR:=AQ w (.cells #[.slice none 0 0,.slice none 0 0,.slice none 0 0,.slice none 0 0] 29) none;clear hnp;by_cases hv:qae qa=true
 . have Hv:=Lib.hid hv;have qcD:np<=10:=by have:=qam hv;have:=Hnp.out;omega
   by_cases hin:1<=n/\n<=4
   . have Hin:Hid ((decide (1<=n)&&decide (n<=4))=true):=by show _=_;simp[hin.1,hin.2]
     obtain⟨n,rfl⟩:=Int.eq_ofNat_of_zero_le (show (0:Int)<=n by omega);have h1n:1<=n:=by omega
     have hn4:n<=4:=by omega
     have Hr:Hid (qbk qa (n:Int)=some {qb:=dealt qa n (qan qa []).length,counts:=qa7 qa,done:=[],rows:=replicate qa.length []}):=qty hv h1n hn4;obtain⟨i0,hif,hz0,hz1,hz2⟩:=info_parts qjC;obtain⟨i1,qjD,hy0,hy1,hy2⟩:=info_parts qlk;clear hv hin;go_enter func41,ntmps41;go_upto_region 1 with fail;generalize w.alloc (.cells #[.slice none 0 0,.slice none 0 0,.slice none 0 0,.slice none 0 0] 29)=W at hR0 hgR |-;go_wp2_with fail;refine(qb6 _ qa W (hp.new hgR) Hv.out).mono ?_;rintro e w1 ⟨rfl,hg1⟩;have g1:=qac hgR hg1;have hR1:=hR0.grown hg1 (by simp);clear hgR hR0 hg1;go_wp2_with fail;refine(qfk _ _ Hin.out).mono ?_;rintro e w1b ⟨rfl,rfl⟩;go_upto_region 4 with (at_make;go_must (refine Ay _ rfl _ _ 93 rfl w1.heap.size 96 i0 _ 1 underlying93 hif hz0 hz1 _ _ _ _ n rfl rfl rfl rfl (by rw[hz2];omega) (by unfold maxLen;omega) (Bo _) ?_));intro w2 hown hg2;have D0:Hid (∀b1,DX w2 w1.heap.size b1 w1.heap.size n (replicate n []) (replicate n (.slice none 0 0))):=λb1=>DX.made hown;have g2:=qac g1 hg2;have hR2:=hR1.grown hg2 (by simp);have hs1:=g1.size;clear hown g1 hR1;generalize w1.heap.size=gd at D0 hs1 |-;go_wp2_with fail;refine(qik _ qa w2 (hp.new g2) Hv.out).mono ?_;rintro e w3 ⟨kv,rfl,hkv,hg3⟩;obtain⟨Ak,nk,ck,rfl⟩:=hkv.ri.val;have hcl:(qa7 qa).length<=1000000:=by unfold qa7;rw[AY,length_range];have:=Hnp.out;omega
     go_wp2_with fail;refine(qkq _ (qa7 qa) w3 hkv.ri hcl).mono ?_;rintro e w4 ⟨rv,rfl,hrv,hg4⟩;rw[qoo Hv.out]at hrv;have g24:=qac hg3 hg4;have g4:=qac g2 g24;have hR4:=hR2.grown g24 (by simp);have hk4:=(hkv.new hg4).low g2.size;have hkb:Hid (∀g,(slice Ak nk ck).ownBlock=some g->g<w4.heap.size):=λg hg=>(hk4.lt g hg).2;have hp4:=hp.new g4;have hr4:=hrv.ri;obtain⟨Av,nv,cv,rfl⟩:=hr4.val;have hnv:=hr4.len;have Hnv:=Lib.hid hnv;have qcE:nv<=10:=by rw[hnv];have:=qgg qa [];have:=Hnp.out;omega
     have D4:DX w4 gd w4.heap.size gd n (dealt qa n 0) (replicate n (.slice none 0 0)):=by
      have e:dealt qa n 0=replicate n []:=by unfold dealt;simp
      rw[e];exact(D0.out _).new g24
     obtain⟨qmD,hB4,-⟩:=D4.blk;have qmE:=hB4.lt;have hint:qg w4 3 (some gd):=qg.blk hB4 (by decide);clear hp D0 hkv hg3 hrv hg4 g24 g2 hR2 hnv hg2;have hn0:¬((n:Int)=0):=by omega
     have qiO:¬(n=0):=by omega
     go_wp2_with fail
     go_loopg [29] (nv+1) (λmm i wr=>∃(k:Nat) (xs:List Ap),k<=nv/\mm=nv+1-k/\i=.int .i64 k/\DX wr gd w4.heap.size gd n (dealt qa n k) xs/\w4.grownBy wr (some gd))
     case atStart=>exact⟨0,_,Br _,rfl,rfl,D4,qag _ _⟩
     case round=>
      clear D4;obtain⟨k,xs,hk,rfl,rfl,M,hg⟩:=hrel;by_cases hlt:k<nv
      . obtain⟨g,o,x,rfl,hx,c0⟩:=(hr4.grown hg hint).at_ hlt;obtain⟨j,hj⟩:∃j,j=k%n:=⟨_,rfl⟩;have hjn:j<n:=by rw[hj];exact Nat.mod_lt _ (by omega)
        have hmod:(k:Int).tmod (n:Int)=(j:Int):=by rw[hj];rfl
        have hkr:k<=(qan qa []).length:=by rw[<-Hnv.out];exact hk
        have hdl:=qxu (qa:=qa) (n:=n) (k:=k) (by omega) hkr;have hjD:j<(dealt qa n k).length:=by rw[hdl];exact hjn
        have hl0:=AS hjD;generalize (dealt qa n k)[j]=l0 at hl0;obtain⟨u,hu,hou⟩:=M.2.2.1 j l0 hl0;have jF:l0.length<=10:=qxv (by omega) hkr (by omega) l0 (AU hl0)
        have Hs:Hid (dealt qa n (k+1)=(dealt qa n k).set j (l0++[x])):=by
         show _=_;rw[qtx hx,<-hj,Bc,hl0];rfl
        obtain⟨cur,hB,kP⟩:=M.blk;have Hcu:=Lib.hid ((kP j).trans hu);have hji:(j:Int)<(n:Int):=by omega
        have hki:(k:Int)<(nv:Int):=by omega
        have Hu:=Lib.hid hu;have Hl0:=Lib.hid hl0;clear hx hj hdl kP hu hl0;go_wp2_with fail;refine(q94 gd j w4.heap.size x u l0 cur wr hB Hcu.out hou (by omega) hg.size).mono ?_;rintro e w5 ⟨rfl,u',wm,ho5,hgm,hb5,rfl⟩;have M5:=M.push Hl0.out Hu.out hgm ho5 hb5;rw[<-Hs.out]at M5;have hg5:w4.grownBy (wm.setCell ⟨gd,j,none⟩ u') (some gd):=qa3 (qa2 hg hgm (λb e=>.inl (hou.lt b e).1)) (.inr rfl) _;clear M hgm ho5 hb5 hou hg hB c0;go_wp2;go_roundg (nv+1-(k+1))
        case measure=>omega
        case rel=>exact⟨k+1,_,by omega,rfl,by go_num,M5,hg5⟩
      . obtain rfl:nv=k:=by omega
        rw[Hnv.out]at M;have qjE:w.heap.size<=gd:=hs1;have kQ:qg w4 29 (some gd):=qg.blk hB4 (by decide);have g5:w.grownBy wr none:=qa2 g4 hg (λb e=>by cases e;exact .inl qjE);have hR5:=hR4.grown hg (λe=>by injection e with e;exact hB4.ne_ hR4 (by decide) e.symm);have hk5:=hk4.grown hg hint;have hsw:w4.heap.size<=wr.heap.size:=hg.size;have Hkb:Hid (∀g,(slice Ak nk ck).ownBlock=some g->g<w4.heap.size):=hkb;clear hg g4 hR4 hk4 hint hB4 hr4 hp4 hkb kQ;go_upto_region 11 with (at_make;go_must (refine Ay _ rfl _ _ 27 rfl wr.heap.size 24 i1 _ 1 underlying27 qjD hy0 hy1 _ _ _ _ np rfl rfl rfl rfl (by rw[hy2];omega) (by unfold maxLen;omega) (Bo _) ?_));intro w6 yw hg6;have hRw:=LX.qcN yw;have hX:=Blk.new w6 29 #[.slice none 0 0,.slice Ak nk ck,.slice none 0 0,.slice (some ⟨wr.heap.size,0,none⟩) np np];have hgX:=AQ w6 (.cells #[.slice none 0 0,.slice Ak nk ck,.slice none 0 0,.slice (some ⟨wr.heap.size,0,none⟩) np np] 29) none;have g67:=qac hg6 hgX;have M7:=M.new g67;have qaL:=hRw.new hgX;have hR7:=hR5.grown g67 (by simp);have hk7:=hk5.new g67;have g7:=qac g5 g67;have qeW:wr.heap.size<w6.heap.size:=(yw.lt wr.heap.size rfl).2;clear yw hRw M hR5 hk5 g5 hg6 hgX g67;go_upto_region 11 with fail;generalize w6.alloc (.cells #[.slice none 0 0,.slice Ak nk ck,.slice none 0 0,.slice (some ⟨wr.heap.size,0,none⟩) np np] 29)=w7 at hX M7 qaL hR7 hk7 g7 |-;have yI:=hX.lt;generalize wr.heap.size=gr at hX qaL qeW hsw |-;generalize w6.heap.size=X at hX yI qeW |-;have hXi:qg w7 3 (some X):=qg.blk hX (by decide);have hXd:qg w7 96 (some X):=qg.blk hX (by decide);have hXl:qg w7 24 (some X):=qg.blk hX (by decide);have HD:=Lib.hid M7.2.1;go_wp2_with fail
        go_loopg [49] (n+1) (λmm i wz=>∃(k:Nat) (d:Ap),k<=n/\mm=n+1-k/\i=.int .i64 k/\Blk wz X 29 #[d,.slice Ak nk ck,.slice none 0 0,.slice (some ⟨gr,0,none⟩) np np]/\wz.ownsRow w7.heap.size 24 1 d k (xs.take k)/\w7.grownBy wz (some X))
        case atStart=>exact⟨0,_,Br _,rfl,rfl,hX,by simpa using ownsRow_nil _ _ _ _,qag _ _⟩
        case round=>
         obtain⟨k,d,hk,rfl,rfl,hXz,hd,hg⟩:=hrel;clear hX;obtain⟨Ad,cd,rfl⟩:=qn6 hd;by_cases hlt:k<n
         . have hkD:k<(dealt qa n (qan qa []).length).length:=by rw[HD.out];exact hlt
           obtain⟨u,hu,hou⟩:=(M7.grown hg hXi hXd).2.2.1 k _ (AS hkD);obtain⟨cur,hB,kP⟩:=(M7.grown hg hXi hXd).blk;obtain⟨Au,nu,cu,rfl⟩:=hou.ri.val;have c1:wr.cell? ⟨gd,k,none⟩=some (.slice Au nu cu):=(hB.cell k).trans ((kP k).trans hu);have x0:=hXz.cell 0;have hXw:X<wr.heap.size:=hXz.lt;have hki:(k:Int)<(n:Int):=by omega
           have Ht:Hid (xs.take (k+1)=xs.take k++[.slice Au nu cu]):=by
            show _=_;obtain⟨h1,h2⟩:=AT.1 hu;rw[take_succ_eq_append_getElem h1,h2]
           have gA:=AQ wr (.cells #[.slice Au nu cu] 96) none;have hdA:=qce hd gA (qg.none _ _);have hXA:=hXz.grown gA (by simp);have hbA:w7.heap.size<=(wr.alloc (.cells #[.slice Au nu cu] 96)).heap.size:=Bq hg.size gA.size;have hgA:=qmy hg gA;clear hu kP hB hou hXz hg gA;go_wp2_with (at_builtin;go_must (refine q2v (.tmp 54) (.tmp 57) rfl rfl hdA rfl (by omega) hbA rfl rfl (by simp) ?_));intro v5 w5 hd5 hg5;have hX5:=hXA.past hg5 (qg.own hdA (by decide));obtain⟨A5,c5,rfl⟩:=qn6 hd5;have y0:=hX5.cell 0;have f0:=hX5.frozen 0;have hst:w5.grownBy (w5.setCell ⟨X,0,none⟩ (.slice A5 (k+1) c5)) (some X):=qa3 (qag w5 (some X)) (.inr rfl) _;have hX6:=hX5.qC 0 (.slice A5 (k+1) c5);have hd6:=qce hd5 hst (qg.blk hX5 (by decide));rw[<-Ht.out]at hd6;have g6:w7.grownBy (w5.setCell ⟨X,0,none⟩ (.slice A5 (k+1) c5)) (some X):=qac (qa2 hgA hg5 (λb e=>.inl (ownsRow.lt hd b e).1)) hst;clear hd hdA hXA hgA hbA hd5 hg5 hX5 hst c1 x0;go_wp2;go_roundg (n+1-(k+1))
           case measure=>omega
           case rel=>exact⟨k+1,_,by omega,rfl,by go_num,hX6,hd6,g6⟩
         . obtain rfl:n=k:=by omega
           have hxn:xs.take n=xs:=AW (by rw[M7.len];exact Bo _);rw[hxn]at hd;have MZ:=M7.grown hg hXi hXd;have hkZ:=hk7.grown hg hXi;have hrZ:=qaL.grown hg hXi hXl;have hRZ:=hR7.grown hg (λe=>by injection e with e;omega);have gZ:w.grownBy wr none:=qa2 g7 hg (λb e=>by cases e;exact .inl (by omega))
           have hF:qI wr w.heap.size (.agg #[.slice Ad n cd,.slice Ak nk ck,.slice none 0 0,.slice (some ⟨gr,0,none⟩) np np]) ((some {qb:=dealt qa n (qan qa []).length,counts:=qa7 qa,done:=[],rows:=replicate qa.length []}:Option qh).getD qc4):=by
            refine⟨_,_,_,_,xs,replicate np (.slice none 0 0),rfl,?_,hkZ,qf.nil _ _,?_,?_,?_⟩
            . refine LX.lq (LX.low (a:=w4.heap.size) ⟨?_,MZ.2.2.1⟩ (by omega));show wr.ownsRow w4.heap.size 24 1 _ (dealt qa n (qan qa []).length).length xs;rw[HD.out];refine⟨hd.1,?_⟩;rcases hd.2 with h0|⟨g,cap,cur,h1,h2,h3⟩
              . exact .inl h0
              . exact .inr ⟨g,cap,cur,h1,by omega,h3⟩
            . have e:np=qa.length:=Hnp.out;rw[<-e];exact hrZ.low (by omega)
            . have hnil:∀y∈replicate np (slice none 0 0),y.ownBlock=none:=λy hy=>by rw[eq_of_mem_replicate hy];rfl
              have qjF:∀y∈xs,∀g,y.ownBlock=some g->w4.heap.size<=g:=by
               intro y hy g hg;obtain⟨i,hi,rfl⟩:=Ba hy;obtain⟨y',k1,k2⟩:=MZ.2.2.1 i _ (AS (by have:=MZ.len;rw[HD.out];omega));rw[AS hi]at k1;injection k1 with k1;subst k1;exact(k2.lt g hg).1
              refine Bi.2 ⟨λy hy g hg hg'=>?_,Bi.2 ⟨λy hy g hg=>(by cases hg),pairwise_append.2 ⟨MZ.2.2.2,Apart.qaD np,λy hy z hz g hg hg'=>?_⟩⟩⟩
              . have h1:=Hkb.out g hg;rcases mem_cons.1 hy with rfl|hy
                . cases hg'
                . rcases mem_append.1 hy with hy|hy
                  . have:=qjF y hy g hg';omega
                  . rw[hnil y hy]at hg';cases hg'
              . rw[hnil z hz]at hg';cases hg'
            . intro g hg hg';have e:gr=g:=Bz hg';have:=(ownsRow.lt hd g hg).1;omega
           have x0:=hXz.cell 0;have x1:=hXz.cell 1;have x2:=hXz.cell 2;have x3:=hXz.cell 3;have y0:=hRZ.cell 0;have y1:=hRZ.cell 1;have y2:=hRZ.cell 2;have y3:=hRZ.cell 3;have f0:=hRZ.frozen 0;have f1:=hRZ.frozen 1;have f2:=hRZ.frozen 2;have f3:=hRZ.frozen 3;have hfin:=Lib.hid (qqq gZ hRZ rfl hF);clear hd hXz hg MZ hkZ hrZ hRZ gZ hF hxn M7 qaL hR7 hk7 g7 hXi hXd hXl;go_wp2_with fail;refine Ax (v:=.tuple #[.agg #[.slice Ad n cd,.slice Ak nk ck,.slice none 0 0,.slice (some ⟨gr,0,none⟩) np np],.bool true]) (by simp[results,results41,go_sem,y0,y1,y2,y3]) rfl ?_;rw[Hr.out];exact hfin.out
   . have Hin:Hid ((decide (1<=n) && decide (n<=4))=false):=by
      show _=_;rw[Bool.and_eq_false_iff,decide_eq_false_iff_not,decide_eq_false_iff_not];omega
     have Hr:Hid (qbk qa n=none):=qrq hin;clear hv hin;go_enter func41,ntmps41;go_upto_region 1 with fail;generalize w.alloc (.cells #[.slice none 0 0,.slice none 0 0,.slice none 0 0,.slice none 0 0] 29)=W at hR0 hgR |-;go_wp2_with fail;refine(qb6 _ qa W (hp.new hgR) Hv.out).mono ?_;rintro e w1 ⟨rfl,hg1⟩;have g1:=qac hgR hg1;have hR1:=hR0.grown hg1 (by simp);have y0:=hR1.cell 0;have y1:=hR1.cell 1;have y2:=hR1.cell 2;have y3:=hR1.cell 3;have f0:=hR1.frozen 0;have f1:=hR1.frozen 1;have f2:=hR1.frozen 2;have f3:=hR1.frozen 3;have hfin:=Lib.hid (qqq (r:=none) g1 hR1 rfl (qI.zero w1 w.heap.size));clear hgR hR0 hg1 hR1 g1;go_wp2_with fail;refine(qfk _ _ Hin.out).mono ?_;rintro e w2 ⟨rfl,rfl⟩;go_wp2_with fail;refine Ax (v:=.tuple #[.agg #[.slice none 0 0,.slice none 0 0,.slice none 0 0,.slice none 0 0],.bool false]) (by simp[results,results41,go_sem,y0,y1,y2,y3]) rfl ?_;rw[Hr.out];exact hfin.out
 . have hv':qae qa=false:=by simpa using hv
   have Hv:=Lib.hid hv';have Hr:Hid (qbk qa n=none):=qrp hv';clear hv hv';go_enter func41,ntmps41;go_upto_region 1 with fail;generalize w.alloc (.cells #[.slice none 0 0,.slice none 0 0,.slice none 0 0,.slice none 0 0] 29)=W at hR0 hgR |-;go_wp2_with fail;refine(qb6 _ qa W (hp.new hgR) Hv.out).mono ?_;rintro e w1 ⟨rfl,hg1⟩;have g1:=qac hgR hg1;have hR1:=hR0.grown hg1 (by simp);have y0:=hR1.cell 0;have y1:=hR1.cell 1;have y2:=hR1.cell 2;have y3:=hR1.cell 3;have f0:=hR1.frozen 0;have f1:=hR1.frozen 1;have f2:=hR1.frozen 2;have f3:=hR1.frozen 3;have hfin:=Lib.hid (qqq (r:=none) g1 hR1 rfl (qI.zero w1 w.heap.size));clear hgR hR0 hg1 hR1 g1;go_wp2_with fail;refine Ax (v:=.tuple #[.agg #[.slice none 0 0,.slice none 0 0,.slice none 0 0,.slice none 0 0],.bool false]) (by simp[results,results41,go_sem,y0,y1,y2,y3]) rfl ?_;rw[Hr.out];exact hfin.out
theorem QI.put{base o c:Nat}(h:QI w base (.slice (some ⟨g,o,none⟩) n c) l)(hj:j<l.length)(x:Int) :
   (∃u,w.cell? ⟨g,o+j,none⟩=some u/\w.frozen? ⟨g,o+j,none⟩=false)/\QI (w.setCell ⟨g,o+j,none⟩ (.int .i64 x)) base (.slice (some ⟨g,o,none⟩) n c) (l.set j x):=by
 obtain⟨A,c',e,h2,h3,h4,h5⟩:=h;rw[AY]at e h2;injection e with e1 e2 e3;subst e1 e2 e3;rcases h5 with ⟨e,_⟩|⟨g',o',cur,e,hb,hB,hsz,hc⟩
 . cases e
 . injection e with e;injection e with e1 e2;subst e1 e2;refine⟨⟨cur[o+j]'(by omega),by rw[hB.cell];exact Array.getElem?_eq_getElem (by omega),hB.frozen _⟩,?_⟩;refine⟨some ⟨g,o,none⟩,c,by rw[AY,B9],by rw[AY,B9];exact h2,h3,qgy _,.inr ⟨g,o,_,rfl,hb,hB.qC _ _,by rw[Array.size_setIfInBounds];exact hsz,λi u hi=>?_⟩⟩;rw[Bb,getElem?_set]at hi;by_cases hij:j=i
   . subst hij;rw[if_pos rfl,if_pos hj]at hi;obtain rfl:int .i64 x=u:=by simpa using hi
     rw[Array.getElem?_setIfInBounds_self_of_lt (by omega)]
   . rw[if_neg hij]at hi;rw[Ah (by omega)];exact hc i u (by rw[Bb];exact hi)
theorem QI.start{base c:Nat}{A:Option Addr}(h:QI w base (.slice A n c) l)(h0:0<n):∃g o,A=some ⟨g,o,none⟩:=by
 obtain⟨A',c',e,h2,h3,h4,h5⟩:=h;rw[AY]at e h2;injection e with e1 e2 e3;subst e1 e2 e3;rcases h5 with ⟨_,e⟩|⟨g',o',cur,e,_⟩
 . omega
 . exact⟨_,_,e⟩
theorem QI.gs{S:Nat->Prop}{base:Nat}{w':As}(h:QI w base v l)(k:GS S w w')(hb:∀g,v.ownBlock=some g->¬S g):QI w' base v l:=by
 have hlt:=h.lt;obtain⟨A,c,e,h2,h3,h4,h5⟩:=h;refine⟨A,c,e,h2,h3,h4,?_⟩;rcases h5 with h5|⟨g,o,cur,rfl,hb',hB,hsz,hc⟩
 . exact .inl h5
 . exact .inr ⟨g,o,cur,rfl,hb',(k.block g (hlt g (by rw[e];rfl)).2 (hb g (by rw[e];rfl))).trans hB,hsz,hc⟩
def q5w(base:Nat)(w:As)(v:Ap)(n k:Nat)(e:Ending)(w':As):Prop:=
 e=.returned (.int .i64 (k+n:Nat))/\QI w' base v (qgz k n)/\w.grownBy w' v.ownBlock
theorem qtr(base:Nat)(v:Ap)(l:List Int)(k:Nat)(w:As)(h:QI w base v l)(hl:l.length<=1048576)(hk:k<=8000000000000000000)(kz:Int)(hkz:kz=(k:Nat):=by omega) :
   AB prog 32 #[v,.int .i64 kz] w (q5w base w v l.length k):=by
 subst hkz;obtain⟨A,n,c,rfl,hn,hnc⟩:=h.slice;have Hn:=Lib.hid hn;rw[<-hn]at hl |-;clear hn;go_enter func32,ntmps32;go_wp2_with fail
 go_loopw [1,5] (λs i wr=>∃j:Nat,j<=n/\i=.int .i64 j/\s=.int .i64 (k+j:Nat)/\QI wr base (.slice A n c) ((qgz k n).take j++l.drop j)/\w.grownBy wr (slice A n c).ownBlock) (λ_ i _=>n-(intOf i).toNat)
 case atStart=>exact⟨0,Br _,rfl,rfl,by simpa using h,qag _ _⟩
 case round=>
  clear h;obtain⟨j,hj,rfl,rfl,h,hG⟩:=hrel;by_cases hlt:j<n
  . obtain⟨g,o,rfl⟩:=h.start (by omega)
    have hlen:((qgz k n).take j++l.drop j).length=n:=by
     have:=Hn.out;rw[Bj,Be,Bm,qjs];omega
    obtain⟨⟨u,c0,f0⟩,hQ⟩:=h.put (j:=j) (by omega) ((k+j:Nat):Int)
    have hmg:(qgz k n)[j]?=some ((k+j:Nat):Int):=by
     unfold qgz;rw[Bb,getElem?_range hlt];rfl
    have hset:=q4r (ms:=qgz k n) (ll:=l) (by rw[qjs];exact Hn.out) hmg;rw[hset]at hQ;have hG2:w.grownBy (wr.setCell ⟨g,o+j,none⟩ (.int .i64 (k+j:Nat))) (slice (some ⟨g,o,none⟩) n c).ownBlock:=qa3 (p:=⟨g,o+j,none⟩) hG (.inr rfl) _;clear h hG hset hmg hlen;go_wp2;go_roundw
    case rel=>exact⟨j+1,by omega,by go_num,by go_num,hQ,hG2⟩
    case measure=>simp[intOf];omega
  . obtain rfl:j=n:=by omega
    have hQ:QI wr base (.slice A j c) (qgz k j):=by
     have h2:=h;rw[AW (by rw[qjs];exact Bo _),Bg (by rw[<-Hn.out];exact Bo _),Bf]at h2;exact h2
    clear h;go_wp2;go_ret;exact⟨rfl,hQ,hG⟩
section
variable {w w':As}{v:Ap}{ll:List (List Int)}{base:Nat}{xs:List Ap}
theorem LQ.ne(h:LQ w base v ll xs):∀u∈xs,∀g,u.ownBlock=some g->v.ownBlock≠some g:=by
 intro u hu g hg hv;obtain⟨i,hi,rfl⟩:=Ba hu;have hl:=h.len;obtain⟨u',k1,k2⟩:=h.2 i _ (AS (by omega));rw[AS hi]at k1;cases k1;obtain⟨cur,hb⟩:=k2.block hg;exact qg.own (E:=3) h.1 (by decide) g hv cur hb
theorem LQ.gs{S:Nat->Prop}(h:LQ w base v ll xs)(k:GS S w w')(hv:∀g,v.ownBlock=some g->¬S g)(hx:∀u∈xs,∀g,u.ownBlock=some g->¬S g):LQ w' base v ll xs:=by
 refine⟨q05 h.1 k hv,λi l hi=>?_⟩;obtain⟨u,k1,k2⟩:=h.2 i l hi;exact⟨u,k1,k2.gs k (hx u (AU k1))⟩
theorem LQ.upd(h:LQ w base v ll xs)(hap:Apart xs)(hu:xs[j]?=some u)(k:GS (λg=>u.ownBlock=some g) w w')(ho:QI w' base u l'):LQ w' base v (ll.set j l') xs:=by
 have hl:=h.len;have hne:=h.ne;have hj:j<xs.length:=(AT.1 hu).1;refine⟨by rw[B9];exact q05 h.1 k (λg hg hg'=>hne u (AU hu) g hg' hg),λi l hi=>?_⟩;by_cases hij:i=j
 . subst hij;rw[AX (by omega)]at hi;obtain rfl:l'=l:=by simpa using hi
   exact⟨u,hu,ho⟩
 . rw[AV (λe=>hij e.symm)]at hi;obtain⟨u',k1,k2⟩:=h.2 i l hi;refine⟨u',k1,k2.gs k (λg hg hg'=>?_)⟩;rw[Apart.iff]at hap;rcases Bs i j with hlt|hge
   . exact hap i j u' u g hlt k1 hu hg hg'
   . exact hap j i u u' g (by omega) hu k1 hg' hg
end
def qjG(base:Nat)(w:As)(v:Ap)(ll:List (List Int))(xs:List Ap)(k:Nat)(e:Ending)(w':As):Prop:=
 e=.returned (.int .i64 (k+qde ll:Nat))/\LQ w' base v (qg0 k ll) xs/\GS (λg=>∃u∈xs,u.ownBlock=some g) w w'
theorem qzx(base:Nat)(v:Ap)(ll:List (List Int))(xs:List Ap)(k:Nat)(w:As)(h:LQ w base v ll xs)(hap:Apart xs)(hs:qde ll<=1000000000)(hk:k<=4000000000000000000)(hll:∀l∈ll,l.length<=1048576)(kz:Int)(hkz:kz=(k:Nat):=by omega) :
   AB prog 33 #[v,.int .i64 kz] w (qjG base w v ll xs k):=by
 subst hkz;obtain⟨A,n,c,rfl,hc,hn,hn9⟩:=h.rl.form';have Hn:=Lib.hid hn;have Hll:=Lib.hid hll;have HS:=Lib.hid hs;clear hn hll hs;go_enter func33,ntmps33;go_wp2_with fail
 go_loopw [1,5] (λs i wr=>∃j y:Nat,j<=n/\i=.int .i64 j/\s=.int .i64 y/\Hid (y=k+qde (ll.take j))/\LQ wr base (.slice A n c) ((qg0 k ll).take j++ll.drop j) xs/\GS (λg=>∃u∈xs,u.ownBlock=some g) w wr) (λ_ i _=>n-(intOf i).toNat)
 case atStart=>exact⟨0,k,Br _,rfl,rfl,by show _=_;simp[qde],by simpa using h,GS.refl _ _⟩
 case round=>
  clear h;obtain⟨j,y,hj,rfl,rfl,Hy,h,hz⟩:=hrel;by_cases hlt:j<n
  . obtain⟨l,hl⟩:∃l,ll[j]?=some l:=⟨_,AS (by rw[<-Hn.out];exact hlt)⟩;have hmg:=q9t (qhi k ll) hl;obtain⟨g,o,l2,B1,m1,e1,rfl,hl2,c0,-,hm1,-,-⟩:=h.rl.at_ hlt;obtain rfl:l=l2:=Bz (hmg.symm.trans hl2);obtain⟨u,hu,hou⟩:=h.2 j l hmg
    obtain rfl:u=.slice B1 m1 e1:=by
     obtain⟨g2,o2,cur,e0,_,hcc⟩:=TS.at_ (by have:=TS.j8 h.1;rw[Bj,Be,Bm,qhi,<-Hn.out,show min j n+(n-j)=n by omega]at this;exact this) (by omega:0<n);injection e0 with e0;injection e0 with q1 q2 _;subst q1 q2;exact Bz ((hcc j u (by simpa using hu)).symm.trans c0)
    have qaF:=Hll.out l (AU hl)
    have hyb:y<=5000000000000000000:=by
     have:=Hy.out;have:=qth ll j;have:=HS.out;omega
    have hHl:=Lib.hid hl;clear hm1 hl2 hmg hl;go_wp2_with fail;refine(qtr base _ l y _ (by exact hou) qaF (by omega) _).mono ?_;rintro e w1 ⟨rfl,qeX,hgr⟩;have hup:=h.upd hap hu (GS.zr hgr) qeX
    have hset:Hid (((qg0 k ll).take j++ll.drop j).set j (qgz y l.length)=(qg0 k ll).take (j+1)++ll.drop (j+1)):=by
     refine q4r (qhi k ll) ?_;have:=qtf k ll j l hHl.out;rw[this,<-Hy.out]
    rw[hset.out]at hup;have hz2:=hz.trans ((GS.zr hgr).mono (λg hg=>⟨_,AU hu,hg⟩))
    have Hy2:Hid (y+l.length=k+qde (ll.take (j+1))):=by
     show _=_;rw[qtg hHl.out,Hy.out];omega
    clear hgr hou qeX h hz;obtain⟨m,hm⟩:∃m,m=l.length:=⟨_,rfl⟩;rw[<-hm]at qaF Hy2 |-;clear hm;go_wp2;go_roundw
    case rel=>exact⟨j+1,y+m,by omega,by go_num,by go_num,Hy2,hup,hz2⟩
    case measure=>simp[intOf];omega
  . obtain rfl:j=n:=by omega
    have h2:LQ wr base (.slice A j c) (qg0 k ll) xs:=by
     have:=h;rw[AW (by rw[qhi,<-Hn.out];exact Bo _),Bg (by rw[<-Hn.out];exact Bo _),Bf]at this;exact this
    have hy2:y=k+qde ll:=by
     have:=Hy.out;rw[AW (by rw[<-Hn.out];exact Bo _)]at this;exact this
    have Hy2:=Lib.hid hy2;clear hy2 Hy h;go_wp2;go_ret;exact⟨by have e0:=Hy2.out;subst e0;first|rfl|simp,h2,hz⟩
end
section
open Go.ChangeShapes Go.WideShapes Go.ChangeAt Go.RowKit Go.Deep
theorem qjH:ownKnob AP.godebug=none:=by kernel_rfl
theorem qme:laidOutB prog=true:=by kernel_rfl
theorem qjI:AP.initOrder=String.ofList (([104,97,114,110,101,115,115,32,50,97,56,48,57,52,102,99,98,101,54,55,53,101,49,101,50,54,49,100,49,57,56,102,102,57,54,101,102,53,57,55,54,51,57,100,49,50,57,53,57,51,102,56,49,55,97,53,49,97,100,97,100,101,101,102,55,56,52,55,52,53,53,49,32,99,117,116,32,97,116,32,108,111,111,112,46,101,120,97,109,112,108,101,47,119,111,114,107,112,108,97,110,115,47,108,97,119,115,46,70,110,83,99,104,101,100,117,108,101,82,101,115,116,32,108,111,111,112,46,101,120,97,109,112,108,101,47,119,111,114,107,112,108,97,110,115,47,108,97,119,115,46,70,110,83,99,104,101,100,117,108,101,82,117,110,32,108,111,111,112,46,101,120,97,109,112,108,101,47,119,111,114,107,112,108,97,110,115,47,108,97,119,115,46,70,110,83,99,104,101,100,117,108,101,82,117,110,80,97,114,116,32,108,111,111,112,46,101,120,97,109,112,108,101,47,119,111,114,107,112,108,97,110,115,47,108,97,119,115,46,70,110,83,99,104,101,100,117,108,101,65,108,108,32,108,111,111,112,46,101,120,97,109,112,108,101,47,119,111,114,107,112,108,97,110,115,47,108,97,119,115,46,70,110,83,99,104,101,100,117,108,101,66,101,103,105,110,32,108,111,111,112,46,101,120,97,109,112,108,101,47,119,111,114,107,112,108,97,110,115,47,108,97,119,115,46,70,110,83,99,104,101,100,117,108,101,79,114,100,101,114,32,108,111,111,112,46,101,120,97,109,112,108,101,47,119,111,114,107,112,108,97,110,115,47,108,97,119,115,46,70,110,83,99,104,101,100,117,108,101,79,116,104,101,114,32,108,111,111,112,46,101,120,97,109,112,108,101,47,119,111,114,107,112,108,97,110,115,47,108,97,119,115,46,70,110,69,120,97,99,116,83,99,104,101,100,117,108,101,65,108,108,32,108,111,111,112,46,101,120,97,109,112,108,101,47,119,111,114,107,112,108,97,110,115,47,108,97,119,115,46,70,110,69,120,97,99,116,83,99,104,101,100,117,108,101,82,117,110]:List Nat).map Am):=by kernel_rfl
theorem q5x:behindMainWord (wordsSigns AP.initOrder.toList)=([99,117,116]:List Nat).map Am::([[97,116],[108,111,111,112,46,101,120,97,109,112,108,101,47,119,111,114,107,112,108,97,110,115,47,108,97,119,115,46,70,110,83,99,104,101,100,117,108,101,82,101,115,116],[108,111,111,112,46,101,120,97,109,112,108,101,47,119,111,114,107,112,108,97,110,115,47,108,97,119,115,46,70,110,83,99,104,101,100,117,108,101,82,117,110],[108,111,111,112,46,101,120,97,109,112,108,101,47,119,111,114,107,112,108,97,110,115,47,108,97,119,115,46,70,110,83,99,104,101,100,117,108,101,82,117,110,80,97,114,116],[108,111,111,112,46,101,120,97,109,112,108,101,47,119,111,114,107,112,108,97,110,115,47,108,97,119,115,46,70,110,83,99,104,101,100,117,108,101,65,108,108],[108,111,111,112,46,101,120,97,109,112,108,101,47,119,111,114,107,112,108,97,110,115,47,108,97,119,115,46,70,110,83,99,104,101,100,117,108,101,66,101,103,105,110],[108,111,111,112,46,101,120,97,109,112,108,101,47,119,111,114,107,112,108,97,110,115,47,108,97,119,115,46,70,110,83,99,104,101,100,117,108,101,79,114,100,101,114],[108,111,111,112,46,101,120,97,109,112,108,101,47,119,111,114,107,112,108,97,110,115,47,108,97,119,115,46,70,110,83,99,104,101,100,117,108,101,79,116,104,101,114],[108,111,111,112,46,101,120,97,109,112,108,101,47,119,111,114,107,112,108,97,110,115,47,108,97,119,115,46,70,110,69,120,97,99,116,83,99,104,101,100,117,108,101,65,108,108],[108,111,111,112,46,101,120,97,109,112,108,101,47,119,111,114,107,112,108,97,110,115,47,108,97,119,115,46,70,110,69,120,97,99,116,83,99,104,101,100,117,108,101,82,117,110]]:List (List Nat)).map (·.map Am):=by
 rw[qjI,String.toList_ofList]
 kernel_rfl
theorem qts(w:List Char)(ws:List (List Char)):∀os:List String,os.all (λo=>!(w==o.toList))=true->stripLifts os (w::ws)=([],w::ws)
 |[],_=>rfl
 |o::os,h=>by
  simp only[all_cons,Ai,Aj]at h;unfold stripLifts;rw[if_neg (by simp[h.1])];exact qts w ws os h.2
theorem q9d(ws:List (List Char)):stripLifts liftWords (([99,117,116]:List Nat).map Am::ws)=([],([99,117,116]:List Nat).map Am::ws):=qts _ ws liftWords (by kernel_rfl)
theorem qxk(h:behindMainWord (wordsSigns P.initOrder.toList)=([99,117,116]:List Nat).map Am::ws)(h5:P.laysLater=false)(h6:P.bearsReflect=false)(h7:P.doorFits []=true):P.mayEnter=true:=by
 unfold Program.mayEnter;rw[h];dsimp only;rw[q9d];have h1:(([99,117,116]:List Nat).map Am == "gc".toList)=false:=by kernel_rfl
 have h2:(([99,117,116]:List Nat).map Am == "spec".toList)=false:=by kernel_rfl
 have h3:(([99,117,116]:List Nat).map Am == "carried".toList)=false:=by kernel_rfl
 have h4:(some (([99,117,116]:List Nat).map Am)==some "cut".toList)=true:=by kernel_rfl
 simp only[head?_cons,h1,h2,h3,h4,h5,h6,h7];simp
theorem q5y:AP.mayEnter=true:=qxk q5x (by kernel_rfl) (by kernel_rfl) (by kernel_rfl)
theorem qsv(h:behindMainWord (wordsSigns P.initOrder.toList)=([99,117,116]:List Nat).map Am::ws):P.liftsFinal=false:=by
 unfold Program.liftsFinal Program.headLifts;rw[h];dsimp only;rw[q9d];simp[head?_cons]
theorem qz1:AP.liftsFinal=false:=qsv q5x
theorem q78(h:behindMainWord (wordsSigns P.initOrder.toList)=([99,117,116]:List Nat).map Am::ws):P.make=some .cut:=by
 unfold Program.make;rw[h];rfl
theorem qjJ:AP.make=some .cut:=q78 q5x
theorem q3c{f:FuncId}{s:ChangeSpec}{c:OpenClaim}(k0:c.wf (OpenSpec.ofChange s)=true)(k1:laidOutB P=true)(k2:mapsRowed P=true)
   (k3:(fn.params.all (P.readableRec ·)&&namedTie P c.named s.vars&&(c.stops==[])&&(P.stops==[])&&(c.knobs==[])&&(P.stopKnobs==[]))=true)
   (k4:(c.inPlace==P.inPlace f)=true) (k5:(c.unfollowed==P.unfollowed f)=true) (k6:(c.recurses==P.recurses f)=true) (k7:(c.named==P.varsNamed f)=true)
   (k8:((c.maps==(fn.params.toList++s.plain.varTypes P).any (P.mapsRec ·))&&(c.ifaces==(fn.params.toList++s.plain.varTypes P).any (P.ifacesRec ·))&&(c.mapsOut==P.mapsAmong fn.resultTypes.toList) &&
    (c.loops==(fn.params.toList++s.plain.varTypes P).any (P.loopsFrom ·))&&(c.wideKeys==(fn.params.toList++s.plain.varTypes P++fn.resultTypes.toList).any (P.wideKeysFrom ·)))=true)
   (k9:(s.vars.all (P.varReadable ·)&&fn.resultTypes.all (λt=>P.readableRec t&&decide (t<P.types.size))&&(c.ifacesOut==fn.resultTypes.toList.any (P.ifacesRec ·))&&(c.loopsOut==fn.resultTypes.toList.any (P.loopsFrom ·)))=true)
   (k10:((c.plainKeys==P.plainKeys)&&c.shortTexts.isNone&&P.stopsHeard)=true) (k11:P.mayEnter=true) (k12:(c.lifted==P.liftsFinal)=true) (k13:(P.make==some c.make)=true)
   (k14:((c.kinds==(if c.domain.isEmpty then []else fn.params.toList.map λt=>match P.underlying t with|some (.int k)=>some k|_=>none))&&(c.pinned==c.pinnedBy))=true)
   (k15:((c.veiled==(fn.params.toList++s.plain.varTypes P++fn.resultTypes.toList).any (P.veiledRec ·))&&c.veiledFits P fn.params.toList (fn.params.toList++s.plain.varTypes P++fn.resultTypes.toList))=true) :
   joinedFacts P f fn s c=true:=by
 unfold joinedFacts;simp only[Ai]at k3 k8 k9 k10 k14 k15 |-;obtain⟨⟨⟨⟨⟨a1,a2⟩,a3⟩,a4⟩,a5⟩,a6⟩:=k3;obtain⟨⟨⟨⟨b1,b2⟩,b3⟩,b4⟩,b5⟩:=k8;obtain⟨⟨⟨c1,c2⟩,c3⟩,c4⟩:=k9;obtain⟨⟨d1,d2⟩,d3⟩:=k10;obtain⟨e1,e2⟩:=k14;obtain⟨f1,f2⟩:=k15;exact⟨⟨⟨⟨⟨⟨⟨⟨⟨⟨⟨⟨⟨⟨⟨⟨⟨⟨⟨⟨⟨⟨⟨⟨⟨⟨⟨⟨⟨⟨⟨k0,k1⟩,k2⟩,a1⟩,a2⟩,a3⟩,a4⟩,a5⟩,a6⟩,k4⟩,k5⟩,k6⟩,k7⟩,b1⟩,b2⟩,b3⟩,b4⟩,b5⟩,c1⟩,c2⟩,c3⟩,c4⟩,d1⟩,d2⟩,d3⟩,k11⟩,k12⟩,k13⟩,e1⟩,e2⟩,f1⟩,f2⟩
theorem q79(h1:fn.origin = "")(h2:fn.targs=#[])(h3:fn.name.toList.contains (Am 91)=false):fn.isInstance P "" []:=
 ⟨h1,by rw[h2];rfl,by rw[if_pos rfl];exact⟨rfl,h3⟩⟩
theorem q8a(P:AE)(fn:Func)(h:Check.packageOf fn.name≠ "main"):fn.isWrapper P false "":=by
 unfold Func.isWrapper;rw[if_neg h];exact⟨rfl,rfl⟩
theorem qz2(h:w.cell? a=some v):a.block<w.heap.size:=by
 unfold cell? at h;split at h
 . rename_i hb;exact(Array.getElem?_eq_some_iff.1 hb).1
 . cases h
section
variable {H:Type}{enc:At×Ap->H}{W:As}{base:Nat}{spare:Nat->Bool}{held:Bool}
theorem qfi(h0:∃u,W.cell? a=some u)(h:W.cell? (a.add j)=some v):∃g o,a=⟨g,o,none⟩/\g<W.heap.size/\W.cell? ⟨g,o+j,none⟩=some v:=by
 obtain⟨g,o,s⟩:=a;obtain⟨u,hu⟩:=h0;have hs:s=none:=cell?_spot hu;subst hs;refine⟨g,o,rfl,qz2 hu,?_⟩;have e:(⟨g,o,none⟩:Addr).add j=⟨g,o+j,none⟩:=by unfold Addr.add;split<;>simp_all
 rw[<-e];exact h
theorem qoj{y:AA H×List Az}(h:DataW.trod enc prog W base spare held n 24 [v]=some y):∃l,qY W.heap.size W v l:=by
 rcases open_ints underlying24 underlying3 (by kernel_rfl) h with ⟨hcs,_⟩|⟨a,len,cap,zs,hcs,_,hl,hm,hz,_,hcell,_⟩
 . obtain rfl:v=.slice none 0 0:=by simpa using hcs
   exact⟨[],none,0,0,rfl,Bo _,rfl,by omega,λj x hx=>by simp at hx⟩
 . obtain rfl:v=.slice (some a) len cap:=by simpa using hcs
   have hlz:len<=zs.length:=by rw[hz];split<;>omega
   refine⟨zs.take len,some a,len,cap,rfl,hl,by simp;omega,by unfold maxLen at hm;omega,λj x hx=>?_⟩;have hj:j<(zs.take len).length:=(AT.1 hx).1;simp only[Be]at hj
   have hx2:zs.getD j 0=x:=by
    rw[getElem?_take]at hx;split at hx
    . rw[Bc,hx];rfl
    . cases hx
   have hc:=hcell j (by omega);rw[hx2]at hc;have hc0:=hcell 0 (by omega);obtain⟨g,o,rfl,hg,hcg⟩:=qfi ⟨_,by simpa[Addr.add]using hc0⟩ hc;exact⟨g,o,rfl,hg,hcg⟩
end
theorem q3d{H:Type}{enc:At×Ap->H}{n:String}{gs:List (AA H)}(hg:AP.globalNamed n=some g)(ht:(AP.globals[g]?).map (·.type)=some t)
   (hr:AP.readableRec t=true) (hrow:t<AP.types.size) (h:AG enc prog W (λ_=>true) [n] gs q) (hb:Below W.heap.size W W') :
   ∃pv,AG enc prog W' (λb=>decide (b<W.heap.size)) [n] gs pv:=by
 obtain⟨g',t',cs,fuel,d,p,rfl,h1,h2,h3,h4,_⟩:=trodVars_one h;obtain rfl:=Bz (hg.symm.trans h1);obtain rfl:=Bz (ht.symm.trans h2);have hlt:∀x∈p,x.block<W.heap.size:=DataW.trod_lt fuel _ _ _ h4
 have h3':W'.var? prog n=some cs:=by
  simp only[var?,h1,Option.bind_some]at h3 |-
  have hgl:g<W.heap.size:=by
   rcases Bs g W.heap.size with hh|hh
   . exact hh
   . rw[Array.getElem?_eq_none hh]at h3;cases h3
  rw[hb.block g hgl];exact h3
 exact⟨_,trodVars_mk1 h1 h2 h3' (DataW.trod_stays (kids_book qme hr) (book_sized hr) (λh=>by cases h) ⟨hrow,book_self t⟩ h4 (λx hx=>hb.same (hlt x hx)) (λx hx=>by simpa using hlt x hx))⟩
section
variable {H:Type}{enc:At×Ap->H}{W:As}{base:Nat}{spare:Nat->Bool}{held:Bool}
theorem qxl{a0:Option Addr}{zQ xH:Nat}{d0:AA H}{p0:List Az}
   (h0:DataW.Trod enc prog W 0 (λ_=>true) true 43 (.slice a0 zQ xH) d0 p0):∃qa,jK W.heap.size W (.slice a0 zQ xH) qa:=by
 obtain⟨fuel,hf⟩:=h0;have k3:AP.cellsOf 3=1:=by kernel_rfl
 have k27:AP.cellsOf 24=1:=by kernel_rfl
 have kN:AP.cellsOf 86=3:=by kernel_rfl
 rcases open_slice underlying43 hf with ⟨hcs,_⟩|⟨a,len,cap,m,n,D,Pl,hcs,_,hl,hm,hmm,_,hi⟩
 . simp[cells]at hcs;obtain⟨rfl,rfl,rfl⟩:=hcs;exact⟨[],none,0,0,rfl,Bo _,rfl,by omega,λj x hx=>by simp at hx⟩
 . simp[cells]at hcs;obtain⟨rfl,rfl,rfl⟩:=hcs
   have key:∀ i,i < zQ->∃ nd:Node,∃ g o f r,a=⟨g,o,none⟩/\g < W.heap.size/\W.cell? ⟨g,o+i * 3,none⟩=some (.int .i64 nd.kind)/\W.cell? ⟨g,o+i * 3+1,none⟩=some f/\W.cell? ⟨g,o+i * 3+2,none⟩=some r /\
       qY W.heap.size W f nd.frm/\qY W.heap.size W r nd.row:=by
    intro i hil
    have xI:∀i,i<zQ->∃c0 c1 c2,∃k:Int,∃fl rl,c0=.int .i64 k/\W.cell? (a.add (i*3))=some c0/\W.cell? (a.add (i*3+1))=some c1/\W.cell? (a.add (i*3+2))=some c2/\qY W.heap.size W c1 fl/\qY W.heap.size W c2 rl:=by
     intro i hil;obtain⟨cs',hc,ht⟩:=hi i (by rw[hmm];split<;>omega);rw[kN]at hc;obtain⟨_,hcl,hat⟩:=cells?_some hc
     match cs',hcl with
     |[c0,c1,c2],_=>
      obtain⟨xs,n',_,_,_,hlen,hg⟩:=DataW.trod_struct underlying86 ht;have g0:=hg 0 _ rfl;have g1:=hg 1 _ rfl;have g2:=hg 2 _ rfl
      match xs,hlen with
      |[y0,y1,y2],_=>
       simp[k3,k27]at g0 g1 g2;obtain⟨k,e0,_,_⟩:=DataW.trod_int underlying3 g0;obtain⟨fl,h1⟩:=qoj g1;obtain⟨rl,h2⟩:=qoj g2;have a0:=hat 0 (by omega);have a1:=hat 1 (by omega);have a2:=hat 2 (by omega);rw[Go.Deep.add_add]at a0 a1 a2;exact⟨c0,c1,c2,k,fl,rl,by simpa using e0,by simpa using a0,by simpa using a1,by simpa using a2,h1,h2⟩
    obtain⟨c0,c1,c2,k,fl,rl,rfl,a0,a1,a2,h1,h2⟩:=xI i hil;obtain⟨_,_,_,_,_,_,_,z0,_⟩:=xI 0 (by omega);have hz:∃u,W.cell? a=some u:=⟨_,by simpa[Addr.add]using z0⟩;obtain⟨g,o,rfl,hgl,b0⟩:=qfi hz a0;obtain⟨g',o',e1,_,b1⟩:=qfi hz a1;obtain⟨g2,o2,e2,_,b2⟩:=qfi hz a2;obtain⟨rfl,rfl⟩:g'=g/\o'=o:=by injection e1 with q1 q2 _;exact⟨q1.symm,q2.symm⟩
    obtain⟨rfl,rfl⟩:g2=g'/\o2=o':=by injection e2 with q1 q2 _;exact⟨q1.symm,q2.symm⟩
    exact⟨⟨k,fl,rl⟩,_,_,c1,c2,rfl,hgl,b0,b1,b2,h1,h2⟩
   refine⟨ofFn (λi:Fin zQ=>Classical.choose (key i.1 i.2)),some a,zQ,xH,rfl,hl,by simp,by unfold maxLen at hm;omega,λk nd hx=>?_⟩;have hk:k<zQ:=by have:=(AT.1 hx).1;simpa using this
   have he:nd=Classical.choose (key k hk):=by
    rw[List.getElem?_ofFn]at hx;rw[dif_pos hk]at hx;exact(Bz hx).symm
   subst he;obtain⟨g,o,f,r,h1,h2,h3,h4,h5,h6,h7⟩:=Classical.choose_spec (key k hk);exact⟨g,o,f,r,by rw[h1],h2,h3,h4,h5,h6,h7⟩
end
theorem gEt:AP.globalNamed "loop.example/workplans/impl.errTurn" = some 0:=by kernel_rfl
theorem qeY:(AP.globals[0]?).map (·.type)=some 119:=by kernel_rfl
theorem q9e: "*"++ "errors.errorString" = "*errors.errorString":=by decide
theorem qcO(u:At)(h:AP.typeName? 3 u=some "*errors.errorString"):u=244:=
 typeName_ptr_named (nm:= "errors.errorString") (by rw[q9e];kernel_rfl) (by kernel_rfl) (by decide) u (by rw[q9e];exact h)
theorem qjK{H:Type}{enc:At×Ap->H}{gs:List (AA H)}(h:AG enc prog W (λ_=>true) ["loop.example/workplans/impl.errTurn"] gs q)(hb:Below W.heap.size W W') :
   ∃pv,AG enc prog W' (λb=>decide (b<W.heap.size)) ["loop.example/workplans/impl.errTurn"] gs pv:=
 q3d gEt qeY (by kernel_rfl) (of_decide_eq_true (by kernel_rfl)) h hb
def q9f:List (String×AA Unit):=[("loop.example/workplans/impl.errTurn",Rows.laid_loop_example_workplans_impl_errTurn)]
theorem qjL(os:Os):laidMet prog q9f (As.doorLaid prog 400 os):=laidMet_of_run' 8 (by kernel_rfl) (by kernel_rfl)
theorem qjM(os:Os)(args:Array Ap):laidMetH prog q9f ((As.doorLaid prog 400 os).forCall (λ_ _=>0) ⟨#[],args,[]⟩).memory:=
 laidMetH_of_parts3 (fuel:=8) ((qjL os).of_heap (by simp[memory,forCall,Input.heap])) (by kernel_rfl) (by kernel_rfl)
theorem q3e(os:Os)(args:Array Ap):((As.doorLaid prog 400 os).forCall (λ_ _=>0) ⟨#[],args,[]⟩).Shaped prog:=shaped_of_RefB (by kernel_rfl) (by kernel_rfl)
theorem qjN:true=Tryz.pinned.checked.prog.looks []:=by kernel_rfl
theorem q3f:mapsRowed prog=true:=by kernel_rfl
theorem qjO:Tryz.pinned.checked.prog.mainIs=some (Rows.fnScheduleRunCard.stood.harness.1,Rows.fnScheduleRunCard.stood.harness.2.toList):=by kernel_rfl
end
section
open Go.RowKit
theorem qu3(h:q6c qa c):c.qb.length<=1048576/\∀d∈c.qb,d.length<=1048576:=by
 rcases h with h|rfl
 . exact⟨by have:=h.d4;omega,λd hd=>by have:=qdm h d hd;omega⟩
 . exact⟨by simp[qc4],λd hd=>by simp[qc4]at hd⟩
theorem qu4(h:qm qa c):∀d∈c.qb,d.length<=1048576:=(qu3 (.inl h)).2
theorem jw.put{V:Nat}{d' k' o' r':Ap}{c':qh}(h:jw w V d k o r c)(hc:CV w (.agg #[d',k',o',r']) c') :
   jw ((((w.setCell ⟨V,0,none⟩ d').setCell ⟨V,1,none⟩ k').setCell ⟨V,2,none⟩ o').setCell ⟨V,3,none⟩ r') V d' k' o' r' c':=by
 have hst:=qdn w V d' k' o' r';have b1:=(((h.b.qC 0 d').qC 1 k').qC 2 o').qC 3 r';obtain⟨e1,e2,e3,e4,e,h1,h2,h3,h4⟩:=hc.grown hst (qg.blk h.b (by decide)) (qg.blk h.b (by decide));injection e with e;injection e with e;injection e with ea e;injection e with eb e;injection e with ec e;injection e with ed e;subst ea eb ec ed;exact⟨b1,h1,h2,h3,h4⟩
theorem qhl(hb:Blk w b 29 #[.slice none 0 0,.slice none 0 0,.slice none 0 0,.slice none 0 0])(hc:CV w (.agg #[d,k,o,r]) c) :
   jw ((((w.setCell ⟨b,0,none⟩ d).setCell ⟨b,1,none⟩ k).setCell ⟨b,2,none⟩ o).setCell ⟨b,3,none⟩ r) b d k o r c/\w.grownBy ((((w.setCell ⟨b,0,none⟩ d).setCell ⟨b,1,none⟩ k).setCell ⟨b,2,none⟩ o).setCell ⟨b,3,none⟩ r) (some b):=by
 have hz:=(CV.zero w).box
 have h0:jw w b (.slice none 0 0) (.slice none 0 0) (.slice none 0 0) (.slice none 0 0) qc4:=by
  obtain⟨e1,e2,e3,e4,e,h1,h2,h3,h4⟩:=CV.zero w;injection e with e;injection e with e;injection e with ea e;injection e with eb e;injection e with ec e;injection e with ed e;subst ea eb ec ed;exact⟨hb,h1,h2,h3,h4⟩
 exact⟨h0.put hc,qdn w b d k o r⟩
def jg(fl b0:Nat)(lk:Int)(pv:Ap)(c:qh)(z:As):Prop:=∃d k o r,Blk z fl 66 #[.int .i32 lk,.int .u32 0,pv,d,k,o,r]/\qI z b0 (.agg #[d,k,o,r]) c
theorem jg.grown{fl:Nat}(h:jg fl b0 lk pv c w)(g:w.grownBy z row)(h1:qg w 3 row)(h2:qg w 24 row)(hne:some fl≠row):jg fl b0 lk pv c z:=by
 obtain⟨d,k,o,r,hB,hF⟩:=h;exact⟨d,k,o,r,hB.grown g hne,hF.grown g h1 h2⟩
theorem jg.lock{fl:Nat}(h:jg fl b0 lk pv c z)(lk':Int):jg fl b0 lk' pv c (z.setCell ⟨fl,0,none⟩ (.int .i32 lk')):=by
 obtain⟨d,k,o,r,hB,hF⟩:=h;exact⟨d,k,o,r,hB.qC 0 _,hF.grown (qa3 (qag z (some fl)) (.inr rfl) _) (qg.blk hB (by decide)) (qg.blk hB (by decide))⟩
theorem qyc(fl b0:Nat)(j:Int)(pv:Ap)(qa:List Node)(c:qh)(a:Addr)(W:As)(hW:jg fl b0 1 pv c W)(hb0:b0<=fl)(hp:RN W pv qa)(hE:qp W a)(hfit:∀d∈c.qb,d.length<=1048576) :
   qy.wp prog (λe _ x=>e=.normal/\jg fl b0 1 pv ((qa0 qa c j).getD c) x/\W.grownBy x (some fl)) ⟨qfn fl j,[]⟩ W:=by
 obtain⟨d,k,o,r,hB,hF⟩:=hW;have hc:=hF.cv;obtain⟨X1,Xn1,Xc1,X2,Xn2,Xc2,X3,Xn3,Xc3,X4,Xn4,Xc4,hv,-,-,-,-⟩:=hc.form;simp only[Value.agg.injEq,Array.mk.injEq,cons.injEq,and_true]at hv;obtain⟨rfl,rfl,rfl,rfl⟩:=hv;obtain⟨P1,pn,pc,rfl,-,-,-⟩:=hp.form';have d0:=hB.cell 0;have d2:=hB.cell 2;have d3:=hB.cell 3;have d4:=hB.cell 4;have d5:=hB.cell 5;have d6:=hB.cell 6;have qD:=Lib.hid hfit;clear hfit;simp only[qy,qg9,f71,Bv,qfn];obtain⟨R,hR⟩:∃R,R=qa0 qa c j:=⟨_,rfl⟩;rw[<-hR];have HR:=Lib.hid hR;clear hR;have gW:=qag W none;go_upto_region 2 with fail
 go_cut [4,5]from 13 to 26 (λt4 t5 wx=>∃b V1 Vn1 Vc1 V2 Vn2 Vc2 V3 Vn3 Vc3 V4 Vn4 Vc4,t4=.pointer (some ⟨b,0,none⟩)/\t5=.bool R.isSome/\W.heap.size<=b/\jw wx b (.slice V1 Vn1 Vc1) (.slice V2 Vn2 Vc2) (.slice V3 Vn3 Vc3) (.slice V4 Vn4 Vc4) (R.getD qc4)/\W.grownBy wx none/\qI wx W.heap.size (.agg #[.slice V1 Vn1 Vc1,.slice V2 Vn2 Vc2,.slice V3 Vn3 Vc3,.slice V4 Vn4 Vc4]) (R.getD qc4))
 case first=>
  go_region_held3 (λw'=>w'.cell? ⟨fl,2,none⟩=some (.slice P1 pn pc)/\w'.cell? ⟨fl,3,none⟩=some (.slice X1 Xn1 Xc1)/\w'.cell? ⟨fl,4,none⟩=some (.slice X2 Xn2 Xc2)/\w'.cell? ⟨fl,5,none⟩=some (.slice X3 Xn3 Xc3)/\w'.cell? ⟨fl,6,none⟩=some (.slice X4 Xn4 Xc4)) (go_keep) (first
   |(go_at_call 17;have hz:=hc;refine(qij _ _ qa c j a _ (by first|exact hE|exact hE.new (qay gW)|exact hE.new (qaq gW _)|exact hE.new (qay (qaq gW _))) (by first|exact hp|exact hp.new (qay gW)|exact hp.new (qaq gW _)|exact hp.new (qay (qaq gW _))) (by first|exact hc|exact hc.new (qay gW)|exact hc.new (qaq gW _)|exact hc.new (qay (qaq gW _))) qD.out).mono ?_;rw[<-HR.out];rintro e w5 ⟨v5,rfl,hF5,hg5⟩;have zC:=hF5.cv;obtain⟨U1,Un1,Uc1,U2,Un2,Uc2,U3,Un3,Uc3,U4,Un4,Uc4,rfl⟩:=hF5.form;have g5:W.grownBy w5 none:=(by first|exact hg5|exact qac (qay gW) hg5|exact qac (qaq gW _) hg5|exact qac (qay (qaq gW _)) hg5);have hF6:=hF5.low (b:=W.heap.size) (by first|exact Bo _|exact(qay gW).size|exact(qay (qaq gW _)).size);have hB5:=hB.grown g5 (by simp);have x2:=hB5.cell 2;have x3:=hB5.cell 3;have x4:=hB5.cell 4;have x5:=hB5.cell 5;have x6:=hB5.cell 6;have xE:fl≠W.heap.size:=Bu hB.lt;have qjP:=xE.symm;have qcP:fl≠w5.heap.size:=Bu (Bp hB.lt g5.size);have qaK:=qcP.symm;try (have jM:Blk w5 W.heap.size 29 #[.slice none 0 0,.slice none 0 0,.slice none 0 0,.slice none 0 0]:=(Blk.new W 29 #[.slice none 0 0,.slice none 0 0,.slice none 0 0,.slice none 0 0]).drew.grown hg5 (by simp));try (have yy0:=jM.cell 0;have ff0:=jM.frozen 0;have yy1:=jM.cell 1;have ff1:=jM.frozen 1;have yy2:=jM.cell 2;have ff2:=jM.frozen 2;have yy3:=jM.cell 3;have ff3:=jM.frozen 3)))
  all_goals
   go_wp2_with fail;go_meet
   first
    |exact⟨_,_,_,_,_,_,_,_,_,_,_,_,_,rfl,rfl,Bo _,(qhl jM zC).1,qa2 g5 (qhl jM zC).2 (λg e=>by cases e;exact .inl (Bo _)),hF6.grown (qhl jM zC).2 (qg.blk jM (by decide)) (qg.blk jM (by decide))⟩
    |exact⟨_,_,_,_,_,_,_,_,_,_,_,_,_,rfl,rfl,g5.size,zC.box,qaq g5 _,hF6.new (qaq (qag w5 none) _)⟩
 case rest=>
  obtain⟨b,V1,Vn1,Vc1,V2,Vn2,Vc2,V3,Vn3,Vc3,V4,Vn4,Vc4,rfl,rfl,hb,hV,gV,hFV⟩:=hcut;have hBc:=hB.grown gV (by simp);have hFc:=hF.new gV;have hbW:b0<=W.heap.size:=by have:=hB.lt;omega
  clear d0 d2 d3 d4 d5 d6 HR qD hE hp hc;cases R with
  |none=>
   clear hV hFV hbW hb;go_wp2_with fail;exact⟨⟨_,_,_,_,hBc,hFc⟩,qyo gV _⟩
  |some c'=>
   have v0:=hV.d0;have v1:=hV.d1;have v2:=hV.d2;have v3:=hV.d3;have y3:=hBc.cell 3;have z3:=hBc.frozen 3;have y4:=hBc.cell 4;have z4:=hBc.frozen 4;have y5:=hBc.cell 5;have z5:=hBc.frozen 5;have y6:=hBc.cell 6;have z6:=hBc.frozen 6;have hst:wc.grownBy ((((wc.setCell ⟨fl,3,none⟩ (.slice V1 Vn1 Vc1)).setCell ⟨fl,4,none⟩ (.slice V2 Vn2 Vc2)).setCell ⟨fl,5,none⟩ (.slice V3 Vn3 Vc3)).setCell ⟨fl,6,none⟩ (.slice V4 Vn4 Vc4)) (some fl):=qa3 (qa3 (qa3 (qa3 (qag wc (some fl)) (.inr rfl) _) (.inr rfl) _) (.inr rfl) _) (.inr rfl) _;have hB9:=(((hBc.qC 3 (.slice V1 Vn1 Vc1)).qC 4 (.slice V2 Vn2 Vc2)).qC 5 (.slice V3 Vn3 Vc3)).qC 6 (.slice V4 Vn4 Vc4);have hF9:=(hFV.low hbW).grown hst (qg.blk hBc (by decide)) (qg.blk hBc (by decide));have hfin:=Lib.hid (show jg fl b0 1 (.slice P1 pn pc) c' _/\W.grownBy _ (some fl)from⟨⟨_,_,_,_,hB9,hF9⟩,qac (qyo gV _) hst⟩);clear hst hB9 hF9 hV hFV hBc hFc hb hbW gV hB hF;go_wp2_with fail;exact hfin.out
end
section
open Go.RowKit Go.Conc
theorem jg.heap{fl:Nat}{x:As}(e:x.heap=y.heap)(h:jg fl b0 lk pv c x):jg fl b0 lk pv c y:=by
 have k:jg fl b0 lk pv c x=jg fl b0 lk pv c {y with heap:=x.heap}:=rfl;rw[k,e]at h;exact h
theorem q0i{a:As}(h:a.grownBy w row){c:Nat}(hc:a.heap.size<=c∨row=some c)(cap:Nat)(buf:Array Ap)(cl:Bool)(s r:Nat)(tm:Bool):a.grownBy (w.setChan c cap buf cl s r tm) row:=
 qa2 (row':=some c) h ⟨rfl,rfl,rfl,by rw[Go.Conc.size_setChan];exact Bo _,λi _ hne=>by
  show (w.heap.setIfInBounds c _)[i]?=_;rw[Ah (λe=>hne (by rw[e]))]⟩ (λg e=>by cases e;exact hc)
theorem qg.kR{c cap s r:Nat}{buf:Array Ap}{cl tm:Bool}(h:w.heap[c]?=some (.chan cap buf cl s r tm)):qg w E (some c):=λg e cur hb=>by
 cases e;unfold Blk at hb;rw[h]at hb;cases hb
structure DZ(z₀:As)(fl b0:Nat)(lk:Int)(pv:Ap)(qa:List Node)(c:qh)(z:As):Prop where
 size:z₀.heap.size<=z.heap.size
 block:∀i,i<z₀.heap.size->i≠fl->z.heap[i]?=z₀.heap[i]?
 floor:jg fl b0 lk pv c z
 fit:∀d∈c.qb,d.length<=1048576
section
variable {z₀ x y:As}{fl b0:Nat}{lk:Int}{pv:Ap}{qa:List Node}{c:qh}
theorem DZ.heap(e:x.heap=y.heap)(h:DZ z₀ fl b0 lk pv qa c x):DZ z₀ fl b0 lk pv qa c y:=⟨e▸h.size,λi h1 h2=>e▸h.block i h1 h2,h.floor.heap e,h.fit⟩
theorem DZ.gb(h:DZ z₀ fl b0 lk pv qa c x):z₀.grownBy {z₀ with heap:=x.heap} (some fl):=⟨rfl,rfl,rfl,h.size,λi h1 h2=>h.block i h1 (λe=>h2 (by rw[e]))⟩
theorem DZ.step(h:DZ z₀ fl b0 lk pv qa c x)(g:x.grownBy y row)(hr:∀r,row=some r->z₀.heap.size<=r)(hfl:fl<z₀.heap.size)(h1:qg x 3 row)(h2:qg x 24 row):DZ z₀ fl b0 lk pv qa c y:=
 ⟨Bq h.size g.size,λi hi hne=>(g.block i (Bp hi h.size) (λe=>by have:=hr i e.symm;omega)).trans (h.block i hi hne),h.floor.grown g h1 h2 (λe=>by have:=hr fl e.symm;omega),h.fit⟩
end
theorem qjQ{gr:Grd}{fl:Nat}{csv:Ap}{chs:List Nat}{z₀:As}{cs0:Array Ap}(hA:gr.A ⟨fl,0,none⟩)(hfl:Blk z₀ fl 66 cs0)(hb0:b0<=fl)(hg0:0<b0)
   (hp:RN z₀ pv qa) (hE:qp z₀ a) (hc:RI z₀ csv (chs.map (Int.ofNat ·))) (hcA:∀a0 n k,csv=.slice (some a0) n k->gr.A a0) (hs:∀i (h:i<chs.length),chs[i]<9223372036854775808) :
   Task gr z₀.heap.size N fl csv chs (λc j=>(qa0 qa c (j:Nat)).getD c) (DZ z₀ fl b0 0 pv qa) (DZ z₀ fl b0 1 pv qa):=by
 have hlt:fl<z₀.heap.size:=hfl.lt;have n1:qg z₀ 3 (some fl):=qg.blk hfl (by decide);have n2:qg z₀ 24 (some fl):=qg.blk hfl (by decide);have n3:qg z₀ 81 (some fl):=qg.blk hfl (by decide);refine⟨λc x o h=>?_,λc x y e h=>h.heap e,λc x r κ κ' b hr h hk=>?_,λc x h=>?_,λc x y e h=>h.heap e,λc x h=>?_,λc x h=>?_,λc x j hj h d t=>?_,hA,?_,λi hi=>?_,hs⟩
 . exact h.step (row:=none) (AQ x o none) (λr e=>by cases e) hlt (qg.none _ _) (qg.none _ _)
 . exact h.step (row:=some r) (q0i (qag x (some r)) (.inr rfl) _ _ _ _ _ _) (λr' e=>by cases e;exact hr) hlt (qg.kR hk) (qg.kR hk)
 . obtain⟨_,_,_,_,hB,_⟩:=h.floor;exact hB.cell 0
 . obtain⟨_,_,_,_,hB,_⟩:=h.floor;exact hB.cell 0
 . refine⟨?_,λi h1 h2=>?_,h.floor.lock 0,h.fit⟩
   . rw[AR];exact h.size
   . exact(Below.heap_setCell x ⟨fl,0,none⟩ _ i h2).trans (h.block i h1 h2)
 . have h1:DZ z₀ fl b0 1 pv qa c (x.setCell ⟨fl,0,none⟩ (.int .i32 1)):=by
    refine⟨?_,λi h1 h2=>?_,h.floor.lock 1,h.fit⟩
    . rw[AR];exact h.size
    . exact(Below.heap_setCell x ⟨fl,0,none⟩ _ i h2).trans (h.block i h1 h2)
   have h2:DZ z₀ fl b0 1 pv qa c (re ((x.setCell ⟨fl,0,none⟩ (.int .i32 1)).at d) t 0):=h1.heap (show (x.setCell ⟨fl,0,none⟩ (.int .i32 1)).heap=(re ((x.setCell ⟨fl,0,none⟩ (.int .i32 1)).at d) t 0).heap from rfl);generalize re ((x.setCell ⟨fl,0,none⟩ (.int .i32 1)).at d) t 0=W at h2
   have hpW:RN W pv qa:=by
    have k:RN {z₀ with heap:=W.heap} pv qa=RN W pv qa:=rfl;rw[<-k];exact hp.grown h2.gb n1 n3
   have hEW:qp W a:=by
    have k:qp {z₀ with heap:=W.heap} a=qp W a:=rfl;rw[<-k];unfold qp at hE |-;have hg:z₀.cell? ⟨0,0,none⟩=some _:=hE;refine(qis h2.gb (qe0 hg) (λe=>?_)).trans hg;have e3:fl=0:=Bz e;omega
   refine wp_mono (qyc fl b0 j pv qa c a W h2.floor hb0 hpW hEW h.fit) λe _ y hy=>?_;obtain⟨h3,h4,h5⟩:=hy;refine⟨h3,Bq h2.size h5.size,λi h6 h7=>(h5.block i (Bp h6 h2.size) (λe=>h7 (Bz e))).trans (h2.block i h6 h7),h4,?_⟩;show ∀d∈((qa0 qa c j).getD c).qb,d.length<=1048576;cases hR:qa0 qa c j with
   |none=>exact h.fit
   |some c'=>exact qu4 (qd6 hR).2.1
 . obtain⟨A,n,k,rfl,-⟩:=hc.form';have e:=hc.len;rw[AY]at e;subst e;exact⟨A,k,rfl⟩
 . obtain⟨A,n,k,rfl,-⟩:=hc.form';have e:=hc.len;subst e;obtain⟨g,o,cur,rfl,hB,hcell⟩:=TS.at_ hc (by rw[AY];omega);have hne:g≠fl:=hB.ne_ hfl (by decide);have hv:=hcell i (.int .i64 chs[i]) (by simp[hi]);refine⟨⟨g,o+i,none⟩,gr.up _ _ (hcA _ _ _ rfl) rfl (by simp),λc x h=>?_,⟨g,o,none⟩,⟨k,by rw[AY]⟩,Addr.add_lit ..⟩;have k2:=(qis h.gb (qe0 hv) (λe=>hne (Bz e).symm)).trans hv;exact k2
end
section
open Go.RowKit
noncomputable def qc2:Code:=Tryz.f13.body.getD .skip
noncomputable def vc:Code:=match qc2 with | .seq x _=>x|_=>.skip
noncomputable def ve:Code:=match qc2 with | .seq _ (.seq x _)=>x|_=>.skip
noncomputable def vf:Code:=match qc2 with | .seq _ (.seq _ (.seq x _))=>x|_=>.skip
noncomputable def vg:Code:=match qc2 with | .seq _ (.seq _ (.seq _ (.seq x _)))=>x|_=>.skip
noncomputable def zD:Code:=match qc2 with | .seq _ (.seq _ (.seq _ (.seq _ (.seq _ (.seq x _)))))=>x|_=>.skip
structure HG(z x:As):Prop where
 size:z.heap.size<=x.heap.size
 block:∀i,i<z.heap.size->x.heap[i]?=z.heap[i]?
section
variable {z x y:As}
theorem HG.of(g:z.grownBy x none):HG z x:=⟨g.size,λi hi=>g.block i hi (by simp)⟩
theorem HG.gb(h:HG z x):z.grownBy {z with heap:=x.heap} none:=⟨rfl,rfl,rfl,h.size,λi hi _=>h.block i hi⟩
theorem HG.trans(h:HG z x)(k:HG x y):HG z y:=⟨Bq h.size k.size,λi hi=>(k.block i (Bp hi h.size)).trans (h.block i hi)⟩
theorem HG.heap{x:As}(h:HG z x)(e:x.heap=y.heap):HG z y:=⟨e▸h.size,λi hi=>e▸h.block i hi⟩
theorem HG.rn(h:HG z x){l:List Node}(k:RN z v l):RN x v l:=by
 have e:RN {z with heap:=x.heap} v l=RN x v l:=rfl;rw[<-e];exact k.new h.gb
theorem HG.ri(h:HG z x)(k:RI z v l):RI x v l:=by
 have e:RI {z with heap:=x.heap} v l=RI x v l:=rfl;rw[<-e];exact k.new h.gb
theorem HG.err(h:HG z x)(k:qp z a):qp x a:=by
 have e:qp {z with heap:=x.heap} a=qp x a:=rfl;rw[<-e];exact k.new h.gb
theorem HG.yM(h:HG z x)(k:qI z b v c):qI x b v c:=by
 have e:qI {z with heap:=x.heap} b v c=qI x b v c:=rfl;rw[<-e];exact k.new h.gb
theorem HG.blk(h:HG z x){cs:Array Ap}(k:Blk z g t cs):Blk x g t cs:=(h.block g k.lt).trans k
end
def qfl:Array Ap:=#[.slice none 0 0,.slice none 0 0,.slice none 0 0,.slice none 0 0]
def qar(pv nv cv:Ap)(R X fl:Ap)(x3 x4 x5 x7 x9 x11 x12 x13 x14 x15 x16 x17 x18 x19 x20 x21 x22 x23 x24 x25 x26 x27 x28 x29 x30 x31 x32:Ap):Array Ap:=
 #[pv,nv,cv,x3,x4,x5,R,x7,X,x9,fl,x11,x12,x13,x14,x15,x16,x17,x18,x19,x20,x21,x22,x23,x24,x25,x26,x27,x28,x29,x30,x31,x32]
structure HGB(R:Nat)(z x:As):Prop where
 size:z.heap.size<=x.heap.size
 block:∀i,i<z.heap.size->i≠R->x.heap[i]?=z.heap[i]?
theorem HGB.hg{x:As}(h:HG z x)(k:HGB R x y)(hR:z.heap.size<=R):HG z y:=⟨Bq h.size k.size,λi hi=>(k.block i (Bp hi h.size) (by omega)).trans (h.block i hi)⟩
theorem qcQ{d0 k0 o0 r0:Ap}(h:Blk W R 29 #[d0,k0,o0,r0]) :
   HGB R W ((((W.setCell ⟨R,0,none⟩ d).setCell ⟨R,1,none⟩ k).setCell ⟨R,2,none⟩ o).setCell ⟨R,3,none⟩ r)/\Blk ((((W.setCell ⟨R,0,none⟩ d).setCell ⟨R,1,none⟩ k).setCell ⟨R,2,none⟩ o).setCell ⟨R,3,none⟩ r) R 29 #[d,k,o,r]:=by
 have g:=qdn W R d k o r;exact⟨⟨g.size,λi hi hne=>g.block i hi (λe=>hne (Bz e))⟩,(((h.qC 0 d).qC 1 k).qC 2 o).qC 3 r⟩
section
variable (pv cv:Ap)(n:Int)(qa:List Node)(l:List Int)(W:As)
theorem q6l:vc.wp prog (λe a x=>e=.normal/\HG W x/\Blk x W.heap.size 29 qfl /\
   a.tmps=qar pv (.int .i64 n) cv (.pointer (some ⟨W.heap.size,0,none⟩)) undef undef undef undef undef (.bool false) undef undef undef undef undef undef undef undef undef undef undef undef undef undef undef undef undef undef undef undef undef undef undef)
   ⟨qar pv (.int .i64 n) cv undef undef undef undef undef undef undef undef undef undef undef undef undef undef undef undef undef undef undef undef undef undef undef undef undef undef undef undef undef undef,[]⟩ W:=by
 have hR:=Blk.new W 29 qfl;have hg:=HG.of (AQ W (.cells qfl 29) none);simp only[vc,qc2,f13,Bv,qar,qfl]at hR hg |-;go_wp2_with fail
theorem q6m(hp:RN W pv qa)(R:Nat):ve.wp prog (λe a x=>e=.normal/\HG W x/\∃A1 n1 c1 A2 n2 c2 A3 n3 c3 A4 n4 c4 X x11 x12 x13 x14 x15 x16,W.heap.size<=X/\Blk x X 29 #[.slice A1 n1 c1,.slice A2 n2 c2,.slice A3 n3 c3,.slice A4 n4 c4] /\
     qI x W.heap.size (.agg #[.slice A1 n1 c1,.slice A2 n2 c2,.slice A3 n3 c3,.slice A4 n4 c4]) ((qbk qa n).getD qc4) /\
     a.tmps=qar pv (.int .i64 n) cv (.pointer (some ⟨R,0,none⟩)) (.pointer (some ⟨X,0,none⟩)) undef undef undef undef (.bool false) (.bool (qbk qa n).isSome) x11 x12 x13 x14 x15 x16 undef undef undef undef undef undef undef undef undef undef undef undef undef undef undef undef)
 ⟨qar pv (.int .i64 n) cv (.pointer (some ⟨R,0,none⟩)) undef undef undef undef undef (.bool false) undef undef undef undef undef undef undef undef undef undef undef undef undef undef undef undef undef undef undef undef undef undef undef,[]⟩ W:=by
 simp only[ve,qc2,f13,Bv,qar];go_wp2_with fail;refine(qqr _ qa n W hp).mono ?_;rintro e w1 ⟨v,rfl,hF,hg⟩;obtain⟨A1,n1,c1,A2,n2,c2,A3,n3,c3,A4,n4,c4,rfl⟩:=hF.form;have gX:=AQ w1 (.cells #[.slice A1 n1 c1,.slice A2 n2 c2,.slice A3 n3 c3,.slice A4 n4 c4] 29) none;have hfin:=Lib.hid (show HG W _/\W.heap.size<=w1.heap.size/\Blk _ w1.heap.size 29 #[.slice A1 n1 c1,.slice A2 n2 c2,.slice A3 n3 c3,.slice A4 n4 c4]/\qI _ W.heap.size _ _ from⟨HG.of (qac hg gX),hg.size,Blk.new w1 _ _,hF.new gX⟩);clear gX hF hg;go_wp2_with fail;obtain⟨h1,h2,h3,h4⟩:=hfin.out;exact⟨h1,_,_,_,_,_,_,_,_,_,_,_,_,_,h2,h3,h4,rfl⟩
theorem q6n(hl:RI W cv l)(ok:Bool)(R X:Nat)(hR:Blk W R 29 qfl)(x11 x12 x13 x14 x15 x16:Ap):vf.wp prog (λe a x=>((ok&&qcf l)=true/\e=.normal/\x=W/\∃x17 x18 x19 x20 x21 x22 x23 x24,a.tmps=qar pv (.int .i64 n) cv (.pointer (some ⟨R,0,none⟩)) (.pointer (some ⟨X,0,none⟩)) undef undef undef undef (.bool false) (.bool ok) x11 x12 x13 x14 x15 x16 x17 x18 x19 x20 x21 x22 x23 x24 undef undef undef undef undef undef undef undef) ∨
     ((ok&&qcf l)=false/\e=.ret/\HGB R W x/\Blk x R 29 qfl/\∃x17 x18 x19 x20 x21 x22 x23 x24,a.tmps=qar pv (.int .i64 n) cv (.pointer (some ⟨R,0,none⟩)) (.pointer (some ⟨X,0,none⟩)) undef undef undef undef (.bool false) (.bool ok) x11 x12 x13 x14 x15 x16 x17 x18 x19 x20 x21 x22 x23 x24 undef undef undef undef undef undef undef undef))
 ⟨qar pv (.int .i64 n) cv (.pointer (some ⟨R,0,none⟩)) (.pointer (some ⟨X,0,none⟩)) undef undef undef undef (.bool false) (.bool ok) x11 x12 x13 x14 x15 x16 undef undef undef undef undef undef undef undef undef undef undef undef undef undef undef undef,[]⟩ W:=by
 have y0:=hR.cell 0;have y1:=hR.cell 1;have y2:=hR.cell 2;have y3:=hR.cell 3;have f0:=hR.frozen 0;have f1:=hR.frozen 1;have f2:=hR.frozen 2;have f3:=hR.frozen 3;have kS:=Lib.hid (qcQ (d:=.slice none 0 0) (k:=.slice none 0 0) (o:=.slice none 0 0) (r:=.slice none 0 0) hR);obtain⟨b,hb⟩:∃b,b=qcf l:=⟨_,rfl⟩;rw[<-hb];have Hb:=Lib.hid hb;clear hb;simp only[qfl]at y0 y1 y2 y3;simp only[vf,qc2,f13,Bv,qar];cases ok with
 |false=>
  go_wp2_with fail;exact kS.out
 |true=>
  go_wp2_with fail;refine(qsn cv l W hl).mono ?_;rintro e w1 ⟨rfl,rfl⟩;rw[<-Hb.out];cases b with
  |false=>
   go_wp2_with fail;exact kS.out
  |true=>
   go_wp2_with fail
theorem q6o(P:Option Addr)(pn pc R X n1 c1 n2 c2 n3 c3 n4 c4:Nat)(A1 A2 A3 A4:Option Addr)(x9:Ap)(x11 x12 x13 x14 x15 x16 x17 x18 x19 x20 x21 x22 x23 x24:Ap)(hX:Blk W X 29 #[.slice A1 n1 c1,.slice A2 n2 c2,.slice A3 n3 c3,.slice A4 n4 c4]):vg.wp prog (λe a x=>e=.normal/\HG W x/\Blk x W.heap.size 66 #[.int .i32 0,.int .u32 0,.slice P pn pc,.slice A1 n1 c1,.slice A2 n2 c2,.slice A3 n3 c3,.slice A4 n4 c4] /\
     ∃x25 x26 x27,a.tmps=qar (.slice P pn pc) (.int .i64 n) cv (.pointer (some ⟨R,0,none⟩)) (.pointer (some ⟨X,0,none⟩)) (.pointer (some ⟨W.heap.size,0,none⟩)) undef undef undef (.bool false) x9 x11 x12 x13 x14 x15 x16 x17 x18 x19 x20 x21 x22 x23 x24 x25 x26 x27 undef undef undef undef undef)
 ⟨qar (.slice P pn pc) (.int .i64 n) cv (.pointer (some ⟨R,0,none⟩)) (.pointer (some ⟨X,0,none⟩)) undef undef undef undef (.bool false) x9 x11 x12 x13 x14 x15 x16 x17 x18 x19 x20 x21 x22 x23 x24 undef undef undef undef undef undef undef undef,[]⟩ W:=by
 have y0:=hX.cell 0;have y1:=hX.cell 1;have y2:=hX.cell 2;have y3:=hX.cell 3;have hF:=Blk.new W 66 #[.int .i32 0,.int .u32 0,.slice P pn pc,.slice A1 n1 c1,.slice A2 n2 c2,.slice A3 n3 c3,.slice A4 n4 c4];have hg:=HG.of (AQ W (.cells #[.int .i32 0,.int .u32 0,.slice P pn pc,.slice A1 n1 c1,.slice A2 n2 c2,.slice A3 n3 c3,.slice A4 n4 c4] 66) none);have hfin:=Lib.hid (And.intro hg hF);clear hg hF hX;simp only[vg,qc2,f13,Bv,qar];go_wp2_with fail;exact hfin.out
theorem q6p(R fl n1 c1 n2 c2 n3 c3 n4 c4:Nat)(A1 A2 A3 A4:Option Addr)(pv xX x9 lk lk2:Ap)(x11 x12 x13 x14 x15 x16 x17 x18 x19 x20 x21 x22 x23 x24 x25 x26 x27 x28 x29 x30:Ap)(hne:R≠fl)(hR:Blk W R 29 qfl)(hF:Blk W fl 66 #[lk,lk2,pv,.slice A1 n1 c1,.slice A2 n2 c2,.slice A3 n3 c3,.slice A4 n4 c4]) :
   zD.wp prog (λe a x=>e=.normal/\HGB R W x/\Blk x R 29 #[.slice A1 n1 c1,.slice A2 n2 c2,.slice A3 n3 c3,.slice A4 n4 c4] /\
    ∃x31 x32,a.tmps=qar pv (.int .i64 n) cv (.pointer (some ⟨R,0,none⟩)) xX (.pointer (some ⟨fl,0,none⟩)) undef undef undef (.bool true) x9 x11 x12 x13 x14 x15 x16 x17 x18 x19 x20 x21 x22 x23 x24 x25 x26 x27 x28 x29 x30 x31 x32)
   ⟨qar pv (.int .i64 n) cv (.pointer (some ⟨R,0,none⟩)) xX (.pointer (some ⟨fl,0,none⟩)) undef undef undef (.bool false) x9 x11 x12 x13 x14 x15 x16 x17 x18 x19 x20 x21 x22 x23 x24 x25 x26 x27 x28 x29 x30 undef undef,[]⟩ W:=by
 have y0:=hF.cell 3;have y1:=hF.cell 4;have y2:=hF.cell 5;have y3:=hF.cell 6;have z0:=hR.cell 0;have z1:=hR.cell 1;have z2:=hR.cell 2;have z3:=hR.cell 3;have f0:=hR.frozen 0;have f1:=hR.frozen 1;have f2:=hR.frozen 2;have f3:=hR.frozen 3;have hfin:=Lib.hid (qcQ (d:=.slice A1 n1 c1) (k:=.slice A2 n2 c2) (o:=.slice A3 n3 c3) (r:=.slice A4 n4 c4) hR);have vq:=hne.symm;simp only[qfl]at z0 z1 z2 z3;clear hF hR;simp only[zD,qc2,f13,Bv,qar];go_wp2_with fail;exact hfin.out
end
end
section
section
variable (P:AE)(Fs Gs:Nat->Bool)(S:List String)
def q33(t:At):Bool:=match P.info? t with
 |none=>true
 |some i=>match i.zero with
  |none=>true
  |some v=>qfg 8 v
def q8x(t:At):Bool:=match P.underlying t with
 |some (.slice e)=>q33 P e
 |_=>true
def qcR(t:At):Bool:=match P.underlying t with
 |some (.map _ e)=>q33 P e
 |_=>true
def qaM(t:At):Bool:=match P.underlying t with
 |some (.int _)=>true
 |_=>false
def qcS(t:At):Bool:=match P.underlying t with
 |some .unsafePointer=>false
 |_=>true
def qvl:AF->Bool
 | .tmp _=>true
 | .const v=>qfg 8 v
 | .global g=>Gs g
 | .func f=>Fs f
def qcT(c:Call):Bool:=match c.callee with
 | .builtin .append=>match c.argTypes[0]? with
  |none=>true
  |some s=>q8x P s
 | .builtin .cap | .builtin .copy | .builtin .len | .builtin .min=>true
 | .builtin _=>false
 | .invoke _ name=>S.contains name
 | .value _=>true
def opB:Op->Bool
 | .move _ | .assign _ | .pick _ _ _ | .box _ _ | .load _ _ | .store _ _ _ | .nilCheck _ | .unOp _ _ _ | .makeInterface _ _ | .makeMap _ _ | .slice _ _ _ _ _ | .fieldAddr _ _ _
 | .field _ _ _ | .indexAddr _ _ _ | .index _ _ _ | .mapUpdate _ _ _ _ | .insert _ _ _ _ | .extract _ _ | .panic _=>true
 | .binOp _ t _ _ _=>qcS P t
 | .alloc t | .build t _=>q33 P t
 | .buildSlice t _ _ | .makeSlice t _ _=>q8x P t
 | .typeAssert _ _ a _=>q33 P a
 | .lookup t _ _ _=>qcR P t
 | .convert s d _=>qaM P s&&qaM P d
 | .makeFunc fn _ _=>match fn with
  | .func f=>Fs f
  |_=>false
 | .call c=>qcT P S c
 |_=>false
def qcU(o:Oper):Bool:=opB P Fs S o.op&&o.op.operands.all (qvl Fs Gs)
def qfa:Code->Bool
 | .region _ ops _=>ops.all (qcU P Fs Gs S)
 | .seq a b=>qfa a&&qfa b
 | .cond _ a b=>qfa a&&qfa b
 | .block _ c | .loop c | .scope c=>qfa c
 | .rangeFunc _ _ _ _=>false
 |_=>true
def jV(Es:List Nat)(f:Nat):Bool:=match P.funcs[f]? with
 |none=>false
 |some fn=>!(fn.name == "runtime.NumGoroutine")&&match fn.body with
  |some c=>qfa P Fs Gs S c
  |none=>Es.contains f
def qeZ(t:At):Bool:=match P.info? t with
 |none=>true
 |some i=>i.methods.all (λm=>!(S.contains m.name)||match m.func with
  |some (f,_)=>Fs f
  |none=>true)
end
section
variable {C:Pen}{S:List String}{Fs Gs:Nat->Bool}
theorem qvm(h:q33 C.P t=true):ql7 C t:=λi v hi hv=>by
 unfold q33 at h;rw[hi]at h;simp only[hv]at h;exact qqv 8 v h
theorem q1v(h:q8x C.P t=true):qgd C t:=λe he=>by
 unfold q8x at h;rw[he]at h;exact qvm h
theorem qjR(h:qcR C.P t=true):qq5 C t:=λk e he=>by
 unfold qcR at h;rw[he]at h;exact qvm h
theorem q6y(h:qaM C.P t=true):∃k,C.P.underlying t=some (.int k):=by
 unfold qaM at h;split at h
 . rename_i k hk;exact⟨k,hk⟩
 . cases h
theorem q8y(h:qcS C.P t=true):C.P.underlying t≠some .unsafePointer:=λe=>by
 unfold qcS at h;rw[e]at h;cases h
theorem q0v(hF:∀f,Fs f=true->C.F f)(hG:∀g,Gs g=true->C.A ⟨g,0,none⟩){x:AF}(h:qvl Fs Gs x=true):qq7 C (λ_=>False) x:=by
 cases x with
 |tmp t=>exact λh=>h
 |const v=>exact qqv 8 v h
 |global g=>exact hG g h
 |func f=>exact hF f h
theorem q8z{c:Call}(h:qcT C.P S c=true):qxh C S c:=by
 unfold qcT at h;unfold qxh;split at h<;>rename_i hc<;>rw[hc]
 . intro s hs;rw[hs]at h;exact q1v h
 . trivial
 . trivial
 . trivial
 . trivial
 . cases h
 . exact Bh.1 h
 . trivial
theorem qjS(hF:∀f,Fs f=true->C.F f){o:Op}(h:opB C.P Fs S o=true):kY C S o:=by
 cases o<;>first
  |trivial
  |exact q8y h
  |exact qvm h
  |exact q1v h
  |exact qjR h
  |(simp only[opB,Ai]at h;exact⟨q6y h.1,q6y h.2⟩)
  |exact q8z h
  | (rename_i fn _ _
     cases fn with
     |func f=>exact⟨f,rfl,hF f h⟩
     |_=>cases h)
  |cases h
theorem q1w(hF:∀f,Fs f=true->C.F f)(hG:∀g,Gs g=true->C.A ⟨g,0,none⟩):∀{c:Code},qfa C.P Fs Gs S c=true->qec C S (λ_=>False) c:=by
 intro c
 induction c with
 |region id ops b=>
  intro h o ho;have:=Ab.1 h o ho;simp only[qcU,Ai]at this;exact⟨qjS hF this.1,λx hx=>q0v hF hG (Ab.1 this.2 x hx)⟩
 |seq a b iha ihb=>
  intro h;simp only[qfa,Ai]at h;exact⟨iha h.1,ihb h.2⟩
 |cond x a b iha ihb=>
  intro h;simp only[qfa,Ai]at h;exact⟨iha h.1,ihb h.2⟩
 |block id c ih=>exact λh=>ih h
 |loop c ih=>exact λh=>ih h
 |scope c ih=>exact λh=>ih h
 |rangeFunc=>intro h;cases h
 |_=>intro _;trivial
end
end
section
open Go.Conc
theorem qs5{info:At->Option TypeInfo}{d:TypeDesc}(h:Made.reckon info d=some i):i.methods=#[]:=by
 unfold Made.reckon at h;split at h
 all_goals try simp only[bind,By,pure]at h
 all_goals repeat' first
  |(obtain⟨_,_,h⟩:=h)
  |(split at h)
 all_goals first
  |(cases h;rfl)
  |(cases h)
  |skip
 all_goals first
  |rfl
  |(simp only[By]at h;obtain⟨_,_,h⟩:=h;cases h;rfl)
  |skip
 unfold Made.reckonStruct at h;simp only[bind,By,pure]at h;obtain⟨a,_,h⟩:=h;split at h<;>(cases h;rfl)
theorem qs6{T:Tables}(ht:¬t<T.types.size)(h:T.info? t=some i):i.methods=#[]:=by
 unfold Tables.info? at h;rw[if_neg ht]at h;unfold Made.depth at h;unfold Made.infoAt at h;rw[if_neg ht]at h;simp only[By]at h;obtain⟨d,_,h⟩:=h;exact qs5 h
section
variable {C:Pen}
theorem qvq(name:String):qd C (cutType name) (λ_=>True):=by
 unfold cutType;refine qaa qa1 (λp _=>?_);split
 . exact qab trivial
 . exact qad
theorem qot(H:qbm C){args:Array Ap}(h:qo C args):qd C (AI args) (Ok C.A C.F):=by
 have hT:∀t,qd C (AJ t) (Ok C.A C.F):=λt=>by
  unfold AJ;refine qaa (qvq _) (λn _=>?_);unfold AO;refine qaa (Q:=Ok C.A C.F) (qaa qa1 (λp hp=>?_)) (λv hv=>?_)
  . subst hp;exact qab (qf6 H _)
  . refine qab (.iface _ (.agg (λu hu=>?_)));simp only[mem_toArray,mem_cons,not_mem_nil,or_false]at hu;subst hu;exact hv
 obtain⟨l⟩:=args;rcases l with _|⟨a,_|⟨b,l⟩⟩
 . exact qad
 . cases a<;>first|exact qab .nilIface|exact hT _|exact qad
 . exact qad
theorem qnt(f:At->Sem Ap)(hf:∀t,qd C (f t) (Ok C.A C.F))(args:Array Ap):qd C (AH f args) (Ok C.A C.F):=by
 have hR:∀r,qd C (AK r) (λ_=>True):=λr=>by
  have k:∀h,qd C (do let t <-AM h;AN "a Type asked or handed on" t;pure t) (fun _=>True):=fun h=>by
   refine qaa (Q:=λ_=>True) ?_ (λt _=>qaa (Q:=λ_=>True) ?_ (λ_ _=>qab trivial))
   . unfold AM;refine qaa qa1 (λp _=>?_);split
     . exact qab trivial
     . exact qad
   . unfold AN;refine qaa qa1 (λp _=>?_);exact qah (λ_=>qaf (by simp)) (λ_=>qab trivial)
  cases r with
  |agg cs=>
   obtain⟨l⟩:=cs;rcases l with _|⟨a,_|⟨b,l⟩⟩
   . exact qad
   . exact k _
   . exact qad
  |_=>exact qad
 obtain⟨l⟩:=args;rcases l with _|⟨a,_|⟨b,l⟩⟩
 . exact qad
 . exact qaa (hR a) (λt _=>hf t)
 . exact qad
theorem qio(args:Array Ap):qd C (AH (λt=>do AL "Comparable" t;pure (.bool (<-typeInfo t).comparable)) args) (Ok C.A C.F):=by
 refine qnt _ (λt=>?_) args;refine qaa (Q:=λ_=>True) ?_ (λ_ _=>qaa (qa6 t) (λi _=>qab (.bool _)));unfold AL;refine qaa qa1 (λp _=>?_);refine qaa qa1 (λp _=>?_);exact qah (λ_=>qaf (by simp)) (λ_=>qab trivial)
end
def Fs(f:Nat):Bool:=Nat.blt f 265&&Nat.testBit 494717392981601621360436002341386437694368325660548181167137909069361696768 f
def Gs(g:Nat):Bool:=g==0
def SN:List String:=["Comparable","Is","Unwrap","loop.example/workplans/impl.needs"]
theorem qjT(h:Fs f=true):f<265:=by
 unfold Fs at h;rw[Ai,Nat.blt_eq]at h;exact h.1
theorem q69:(range 265).all (λf=>!(Fs f)||jV prog Fs Gs SN [139,248] f)=true:=by kernel_rfl
theorem q7a:(range AP.types.size).all (λt=>qeZ prog Fs SN t)=true:=by kernel_rfl
theorem qsa:∃fn,AP.funcs[139]?=some fn/\fn.body.isNone=true/\Extern.findNext fn=none/\Extern.find fn=some AI:=⟨_,func139,rfl,by kernel_rfl,by kernel_rfl⟩
theorem qjq:∃fn,AP.funcs[248]?=some fn/\fn.body.isNone=true/\Extern.findNext fn=none/\Extern.find fn=some (AH (λt=>do AL "Comparable" t;pure (.bool (<-typeInfo t).comparable))):=⟨_,func248,rfl,by kernel_rfl,by kernel_rfl⟩
structure jN(C:Pen):Prop where
 P:C.P=prog
 F:∀f,C.F f↔Fs f=true
 X:∀f t,¬C.X f t
 H:C.A ⟨AP.globals.size,0,none⟩
 g:C.A ⟨0,0,none⟩
section
variable {C:Pen}(O:jN C)
include O
theorem jN.qfA:∀g,Gs g=true->C.A ⟨g,0,none⟩:=λg h=>by
 have:g=0:=by simpa[Gs]using h
 subst this;exact O.g
theorem jN.x:C.X f=λ_=>False:=funext (λt=>eq_false (O.X f t))
theorem jN.code{c:Code}(h:qfa prog Fs Gs SN c=true)(f:Nat):qec C SN (C.X f) c:=by
 rw[O.x];refine q1w (Fs:=Fs) (Gs:=Gs) (λf hf=>(O.F f).2 hf) O.qfA ?_;rw[O.P];exact h
theorem jN.jV(h:C.F f):jV prog Fs Gs SN [139,248] f=true:=by
 have h1:=(O.F f).1 h;have:=Bn.1 q69 f (mem_range.2 (qjT h1));simpa[h1]using this
theorem jN.xO:xN C SN:=by
 have hH:qbm C:=by unfold qbm;rw[O.P];exact O.H
 refine⟨hH,λf hf=>?_,λt i m f b hi hm hn hf=>?_⟩
 . have h:=O.jV hf;unfold Go.Proofs.YtacemdoejblgaaaGreatDoor.jV at h;rw[O.P];split at h
   . cases h
   . rename_i fn hfn;simp only[Ai,Aj]at h;refine⟨fn,hfn,h.1,?_⟩;cases hb:fn.body with
     |some c=>exact .inl rfl
     |none=>
      rw[hb]at h;have h2:=h.2;simp only[contains_cons,contains_nil,Bool.or_false,Bool.or_eq_true,beq_iff_eq]at h2;rcases h2 with rfl|rfl
      . obtain⟨fn2,e1,e2,e3,e4⟩:=qsa;rw[hfn]at e1;cases e1;exact .inr ⟨rfl,e3,_,e4,λargs ha=>qot hH ha⟩
      . obtain⟨fn2,e1,e2,e3,e4⟩:=qjq;rw[hfn]at e1;cases e1;exact .inr ⟨rfl,e3,_,e4,λargs _=>qio args⟩
 . rw[O.P]at hi;refine(O.F f).2 ?_;rcases Bs t AP.types.size with ht|ht
   . have h:=Bn.1 q7a t (mem_range.2 ht);unfold qeZ at h;rw[hi]at h;have h2:=Ab.1 h m hm;rw[hf,Bh.2 hn]at h2;simpa using h2
   . rw[qs6 (Nat.not_lt.2 ht) hi]at hm;simp at hm
theorem jN.zR:jd C SN:=by
 refine⟨O.xO,λf fn c hf hfn hb=>⟨?_,λr _=>?_⟩⟩
 . refine O.code ?_ f;have h:=O.jV hf;rw[O.P]at hfn;unfold Go.Proofs.YtacemdoejblgaaaGreatDoor.jV at h;rw[hfn]at h;simp only[hb,Ai]at h;exact h.2
 . cases r<;>exact O.X f _
end
end
end Go.Proofs.YtacemdoejblgaaaGreatDoor

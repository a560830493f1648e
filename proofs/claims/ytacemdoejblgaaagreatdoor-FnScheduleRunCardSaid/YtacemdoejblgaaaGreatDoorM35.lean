/- Part 35. Conditions: each statement's. -/
import Derived.Test.YtacemdoejblgaaaGreatDoorM34
namespace Go.Proofs.YtacemdoejblgaaaGreatDoor
set_option maxHeartbeats 6400000
set_option maxRecDepth 100000
section
open Go.RowKit
theorem qj7(v:Value)(cs:List Int)(w:World)(h:RI w v cs)(hl:cs.length<=1000000):Calls Tryz.prog 66 #[v] w (qes w (jG cs)):=by
 obtain⟨A,n,c,rfl,hnc,hn⟩:=h.form';rw [<-hn] at hl;have Hn:=Lib.hid hn;have h0:qf w w.heap.size (.slice none 0 0) []:=qf.nil w _;clear hn;go_enter Tryz.func66,Tryz.ntmps66;go_wp2_with fail
 go_loopg [3,8] (n+1) (fun mm out i wr=>∃ k:Nat,k<=n/\mm=n+1 - k/\i=.int .i64 k/\qf wr w.heap.size out (ql2 cs k)/\w.grownBy wr none)
 case atStart=>exact⟨0,Nat.zero_le _,rfl,rfl,h0,qag w none⟩
 case round=>
   clear h0;obtain⟨k,hk,rfl,rfl,hown,hg⟩:=hrel;have hzl:=qs5 cs k;by_cases hlt:k < n
   . obtain⟨g,o,x,rfl,hx,c0⟩:=(h.new hg).at_ hlt;have hs:=qkd hx;have hsz:=hg.size;obtain⟨A1,n1,c1,rfl⟩:=hown.ri.val;clear hx;by_cases h0:x=0
     . have hq:(x == 0)=true:=by simpa using h0
       rw [if_pos h0] at hs;have Hs:=Lib.hid hs;clear hs h0;go_wp2_with (at_builtin;go_must (refine qd9 _ _ rfl rfl hown (by omega) hsz rfl rfl rfl ?_));intro v2 w2 j4 hg2;rw [<-Hs.out] at j4;have hg3:=hown.gb hg hg2 (Nat.le_refl _);obtain⟨A2,n2,c2,rfl⟩:=j4.ri.val;go_wp2_with fail;go_roundg (n+1 - (k+1))
       case measure=>omega
       case rel=>exact⟨k+1,by omega,rfl,by go_num,j4,hg3⟩
     . have hq:(x == 0)=false:=by simpa using h0
       rw [if_neg h0,List.append_nil] at hs;rw [<-hs] at hown;clear hs h0;go_wp2_with fail;go_roundg (n+1 - (k+1))
       case measure=>omega
       case rel=>exact⟨k+1,by omega,rfl,by go_num,hown,hg⟩
   . obtain rfl:n=k:=by omega
     obtain⟨A2,n2,c2,rfl⟩:=hown.ri.val;have ho2:qf wr w.heap.size (.slice A2 n2 c2) (jG cs):=by unfold jG;rw [<-Hn.out];exact hown
     go_wp2_with fail;go_ret;exact⟨_,rfl,ho2,hg⟩
theorem q7v(gd j base:Nat)(x:Int)(u:Value)(l:List Int)(cs:Array Value)(w:World)(hB:Blk w gd 96 cs)(hu:cs[j]?=some u)(ho:qf w base u l)(hl:l.length<=1000000)(hbw:base<=w.heap.size) :
   Calls Tryz.prog 67 #[.pointer (some ⟨gd,j,none⟩),.int .i64 x] w fun e w'=>e=.returned (.tuple #[])/\∃ u' wm,qf wm base u' (l++[x])/\w.grownBy wm u.ownBlock /\
     (u'.ownBlock=u.ownBlock∨∃ b,u'.ownBlock=some b/\w.heap.size<=b)/\w'=wm.setCell ⟨gd,j,none⟩ u':=by
 obtain⟨A,n,c,rfl⟩:=ho.ri.val;have d0:w.cell? ⟨gd,j,none⟩=some (.slice A n c):=(hB.cell j).trans hu;have f0:=hB.frozen j;clear hu;go_enter Tryz.func67,Tryz.ntmps67;go_wp2_with (at_builtin;go_must (refine qhu (.tmp 8) (.tmp 10) rfl rfl ho (by omega) hbw rfl rfl rfl ?_));intro v2 w2 ho2 hg2 hb2;have B2:Blk w2 gd 96 cs:=hB.past hg2 (ho.qV (by decide));obtain⟨A2,n2,c2,rfl⟩:=ho2.ri.val
 have e0:w2.cell? ⟨gd,j,none⟩=some (.slice A n c):=by
   rw [World.cell?_of_block (B2.trans hB.symm)];exact d0
 have e1:=B2.frozen j;have hfin:=Lib.hid (show ∃ u' wm,qf wm base u' (l++[x])/\w.grownBy wm (Value.slice A n c).ownBlock/\(u'.ownBlock=(Value.slice A n c).ownBlock∨∃ b,u'.ownBlock=some b/\w.heap.size<=b)/\w2.setCell ⟨gd,j,none⟩ (.slice A2 n2 c2)=wm.setCell ⟨gd,j,none⟩ u' from⟨_,w2,ho2,hg2,hb2,rfl⟩);clear hB ho hg2 B2 ho2 hb2 d0 f0;go_wp2_with fail
 first | exact jU (results_none rfl _ _ _) rfl ⟨rfl,hfin.out⟩ | exact bodyPost_end (results_none rfl _ _ _) rfl ⟨rfl,hfin.out⟩ | (go_ret;exact⟨rfl,hfin.out⟩)
theorem q8t:(Tryz.prog.info? 96).map (fun i=>(i.zero,i.size,i.bytes))=some (some (.agg #[.slice none 0 0]),1,24):=by kernel_rfl
def DX(w:World)(o0 b1 gd n:Nat)(D:List (List Int))(xs:List Value):Prop:=
 w.ownsRow o0 96 1 (.slice (some ⟨gd,0,none⟩) n n) n xs/\D.length=n/\(∀ (i:Nat) (l:List Int),D[i]?=some l->∃ u,xs[i]?=some u/\qf w b1 u l)/\Apart xs
theorem qvw(n:Nat):(madeCells #[.slice none 0 0] n).toList=List.replicate n (.slice none 0 0):=by
 apply List.ext_getElem?;intro i;rw [List.getElem?_replicate];by_cases hi:i < n
 . simp [madeCells,hi,Nat.mod_one]
 . simp [madeCells,hi]
section
variable {w w':World}{o0 b1 gd n:Nat}{D:List (List Int)}{xs:List Value}
theorem DX.len(h:DX w o0 b1 gd n D xs):xs.length=n:=by have:=h.1.1;omega
theorem DX.made(h:w.ownsRow o0 96 1 (.slice (some ⟨gd,0,none⟩) n n) n (madeCells #[.slice none 0 0] n).toList):DX w o0 b1 gd n (List.replicate n []) (List.replicate n (.slice none 0 0)):=by
 rw [qvw] at h;refine⟨h,by simp,fun i l hi=>?_,Apart.kO n⟩
 obtain⟨hin,rfl⟩:i < n/\l=[]:=by
   rw [List.getElem?_replicate] at hi;split at hi
   . exact⟨by assumption,by injection hi with e;exact e.symm⟩
   . cases hi
 exact⟨.slice none 0 0,by simp [hin],qf.nil _ _⟩
theorem LX.qbZ{v:Value}(h:w.ownsRow o0 24 1 v n (madeCells #[.slice none 0 0] n).toList):LX w o0 v (List.replicate n []) (List.replicate n (.slice none 0 0)):=by
 rw [qvw] at h;refine⟨by rw [List.length_replicate];exact h,fun i l hi=>?_⟩
 obtain⟨hin,rfl⟩:i < n/\l=[]:=by
   rw [List.getElem?_replicate] at hi;split at hi
   . exact⟨by assumption,by injection hi with e;exact e.symm⟩
   . cases hi
 exact⟨.slice none 0 0,by simp [hin],qf.nil _ _⟩
theorem DX.grown{row:Option Nat}(h:DX w o0 b1 gd n D xs)(hg:w.grownBy w' row)(hr:qg w 3 row)(hr':qg w 96 row):DX w' o0 b1 gd n D xs:=
 ⟨qch h.1 hg hr',h.2.1,fun i l hi=>let ⟨u,k1,k2⟩:=h.2.2.1 i l hi;⟨u,k1,k2.grown hg hr⟩,h.2.2.2⟩
theorem DX.new(h:DX w o0 b1 gd n D xs)(hg:w.grownBy w' none):DX w' o0 b1 gd n D xs:=h.grown hg (qg.none _ _) (qg.none _ _)
theorem DX.blk(h:DX w o0 b1 gd n D xs):∃ cur,Blk w gd 96 cur/\∀ i:Nat,cur[i]?=xs[i]?:=by
 rcases h.1.2 with ⟨e,_⟩ | ⟨g,cap,cur,e,hb,hh,hn,hm,hcs,ht⟩
 . cases e
 . injection e with e1 e2 e3;injection e1 with e1;injection e1 with e1;subst e1 e3;refine⟨cur,hh,fun i=>?_⟩;have hl:cur.toList.length=n:=by rw [Array.length_toList,hcs];omega
   rw [Nat.mul_one,List.take_of_length_le (by omega)] at ht;rw [<-ht,Array.getElem?_toList]
theorem DX.push{wm:World}{j:Nat}{u u':Value}{l l':List Int}(h:DX w o0 b1 gd n D xs)(hl:D[j]?=some l)(hu:xs[j]?=some u)(hg:w.grownBy wm u.ownBlock)(ho:qf wm b1 u' l')(hb:u'.ownBlock=u.ownBlock∨∃ b,u'.ownBlock=some b/\w.heap.size<=b) :
   DX (wm.setCell ⟨gd,j,none⟩ u') o0 b1 gd n (D.set j l') (xs.set j u'):=by
 obtain⟨h1,h2,h3,hap⟩:=h;have hk:j < D.length:=(List.getElem?_eq_some_iff.1 hl).1;have hkx:j < xs.length:=(List.getElem?_eq_some_iff.1 hu).1;have hxl:xs.length=n:=by have:=h1.1;omega
 have hI:qf w b1 u l:=by
   obtain⟨y,k1,k2⟩:=h3 j l hl;rw [hu] at k1;injection k1 with k1;subst k1;exact k2
 have qbO:∀ y∈xs,∀ g,y.ownBlock=some g->g < w.heap.size:=by
   intro y hy g hg;obtain⟨i,hi,rfl⟩:=List.getElem_of_mem hy;obtain⟨y',k1,k2⟩:=h3 i _ (List.getElem?_eq_getElem (by omega));rw [List.getElem?_eq_getElem hi] at k1;injection k1 with k1;subst k1;exact(k2.lt g hg).2
 have hNu:qg w 96 u.ownBlock:=hI.qV (by decide);have hcs:=qch h1 hg hNu;have hst:wm.grownBy (wm.setCell ⟨gd,j,none⟩ u') (some gd):=qa2 (p:=⟨gd,j,none⟩) (qag wm (some gd)) (.inr rfl) _;have s1:=World.ownsRow.stored hcs j u';have hne:qg wm 3 (some gd):=qg.own (v:=.slice (some ⟨gd,0,none⟩) n n) hcs (by decide);refine⟨s1.1,by rw [List.length_set];exact h2,fun i x hi=>?_,?_⟩
 . by_cases hik:i=j
   . subst hik;rw [List.getElem?_set_self hk] at hi;obtain rfl:l'=x:=by simpa using hi
     exact⟨u',by rw [List.getElem?_set_self hkx],ho.grown hst hne⟩
   . rw [List.getElem?_set_ne (fun e=>hik e.symm)] at hi;obtain⟨y,k1,k2⟩:=h3 i x hi;refine⟨y,by rw [List.getElem?_set_ne (fun e=>hik e.symm)];exact k1,?_⟩
     have hyu:y.ownBlock=none∨y.ownBlock≠u.ownBlock:=by
       cases hy:y.ownBlock with
       | none=>exact .inl rfl
       | some b=>
         right;intro e;rw [Apart.iff] at hap;rcases Nat.lt_or_gt_of_ne hik with hlt | hlt
         . exact hap i j y u b hlt k1 hu hy e.symm
         . exact hap j i u y b hlt hu k1 e.symm hy
     exact(k2.qO hg hyu).grown hst hne
 . rw [Apart.iff] at hap |-;intro i i2 a b gg hij ha hb' hga hgb
   have other:∀ (i:Nat) (a:Value),i≠j->xs[i]?=some a->a.ownBlock=some gg->u'.ownBlock≠some gg:=by
     intro i a hik ha hga e;rcases hb with e2 | ⟨b2,e2,hge⟩
     . rw [e2] at e;rcases Nat.lt_or_gt_of_ne hik with hlt | hlt
       . exact hap i j a u gg hlt ha hu hga e
       . exact hap j i u a gg hlt hu ha e hga
     . rw [e2] at e;injection e with e;have:=qbO a (List.mem_of_getElem? ha) gg hga;omega
   by_cases hik:i=j
   . subst hik;rw [List.getElem?_set_self hkx] at ha;injection ha with ha;subst ha;rw [List.getElem?_set_ne (by omega)] at hb';exact other i2 b (by omega) hb' hgb hga
   . rw [List.getElem?_set_ne (fun e=>hik e.symm)] at ha;by_cases hjk:i2=j
     . subst hjk;rw [List.getElem?_set_self hkx] at hb';injection hb' with hb';subst hb';exact other i a hik ha hga hgb
     . rw [List.getElem?_set_ne (fun e=>hjk e.symm)] at hb';exact hap i i2 a b gg hij ha hb' hga hgb
end
theorem q1j{ops:Array Oper}{rest:List Oper}{o:Oper}{a:Act}{Q:Exit->Act->World->Prop}{w:World}{u:Value}
   (s x:Operand) (hgd:o.guard=none) (ho:o.op=.call { callee:=.builtin .append,args:=#[s,x],argTypes:=#[27,27] })
   {base n:Nat} {v:Value} {xs:List Value} (hown:w.ownsRow base 24 1 v n xs) (h1:u.oneCell'=true) (hn:n<=1000000000) (hbase:base<=w.heap.size)
   (hs:a.eval s=v) {N:Nat} (hx:a.eval x=.slice (some ⟨N,0,none⟩) 1 1) (hN:N=w.heap.size)
   (h:∀ v' w',w'.ownsRow base 24 1 v' (n+1) (xs++[u])->w.grownBy w' v.ownBlock->wpList Tryz.prog ops Q rest (a.put o.dst v') w') :
   wpList Tryz.prog ops Q (o::rest) a (w.alloc (.cells #[u] 24)):=by
 subst hN
 exact qfx s x 27 (.slice none 0 0) 1 24 Tryz.underlying27 qnd rfl (by decide) (by decide) hgd ho hown hn hbase rfl (fun y hy=>by
   have:y=u:=by simpa using hy
   subst this;exact h1) hs hx fun v' w' k1 k2 _=>h v' w' (by simpa using k1) k2
theorem qnk{w:World}{base n:Nat}{E:TypeId}{v:Value}{xs:List Value}(h:w.ownsRow base E 1 v n xs):∃ A c,v=.slice A n c:=by
 rcases h.2 with ⟨rfl,h0⟩ | ⟨g,cap,cur,rfl,_⟩
 . obtain rfl:n=0:=by omega
   exact⟨none,0,rfl⟩
 . exact⟨_,_,rfl⟩
theorem qp3{w wx:World}{r:Option qj}{d k o q:Value}{b:Bool}(hg:w.grownBy wx none)(hR:Blk wx w.heap.size 29 #[.slice none 0 0,.slice none 0 0,.slice none 0 0,.slice none 0 0])(hb:b=r.isSome)(hc:qY wx w.heap.size (.agg #[d,k,o,q]) (r.getD qf7)) :
   qi8 w r (.returned (.tuple #[.agg #[d,k,o,q],.bool b])) ((((wx.setCell ⟨w.heap.size,0,none⟩ d).setCell ⟨w.heap.size,1,none⟩ k).setCell ⟨w.heap.size,2,none⟩ o).setCell ⟨w.heap.size,3,none⟩ q):=
 have hst:=qdz wx w.heap.size d k o q
 ⟨_,by rw [hb],hc.grown hst (qg.blk hR (by decide)) (qg.blk hR (by decide)),qa1 hg hst (fun g e=>by cases e;exact .inl (Nat.le_refl _))⟩
theorem qp4(pv:Value)(qa:List Node)(n:Int)(w:World)(hp:RN w pv qa):Calls Tryz.prog 41 #[pv,.int .i64 n] w (qi8 w (qbm qa n)):=by
 obtain⟨A,np,cp,rfl,-,hnp,-⟩:=hp.form';have Hnp:=Lib.hid hnp;have hR0:=Blk.new w 29 #[.slice none 0 0,.slice none 0 0,.slice none 0 0,.slice none 0 0];have hgR:=World.grownBy_alloc w (.cells #[.slice none 0 0,.slice none 0 0,.slice none 0 0,.slice none 0 0] 29) none;clear hnp;by_cases hv:qae qa=true
 . have Hv:=Lib.hid hv;have qbP:np<=10:=by have:=qal hv;have:=Hnp.out;omega
   by_cases hin:1<=n/\n<=4
   . have Hin:Hid ((decide (1<=n) && decide (n<=4))=true):=by show _=_;simp [hin.1,hin.2]
     obtain⟨n,rfl⟩:=Int.eq_ofNat_of_zero_le (show (0:Int)<=n by omega);have h1n:1<=n:=by omega
     have hn4:n<=4:=by omega
     have Hr:Hid (qbm qa (n:Int)=some { qb:=dealt qa n (qao qa []).length,counts:=qa6 qa,done:=[],rows:=List.replicate qa.length [] }):=qs7 hv h1n hn4;obtain⟨i0,hif,hz0,hz1,hz2⟩:=info_parts q8t;obtain⟨i1,qgZ,hy0,hy1,hy2⟩:=info_parts qnd;clear hv hin;go_enter Tryz.func41,Tryz.ntmps41;go_upto_region 1 with fail;generalize w.alloc (.cells #[.slice none 0 0,.slice none 0 0,.slice none 0 0,.slice none 0 0] 29)=W at hR0 hgR |-;go_wp2_with fail;refine(qb6 _ qa W (hp.new hgR) Hv.out).mono ?_;rintro e w1 ⟨rfl,hg1⟩;have g1:=qac hgR hg1;have hR1:=hR0.grown hg1 (by simp);clear hgR hR0 hg1;go_wp2_with fail;refine(qfk _ _ Hin.out).mono ?_;rintro e w1b ⟨rfl,rfl⟩;go_upto_region 4 with (at_make;go_must (refine wpList_make_full _ rfl _ _ 93 rfl w1.heap.size 96 i0 _ 1 Tryz.underlying93 hif hz0 hz1 _ _ _ _ n rfl rfl rfl rfl (by rw [hz2];omega) (by unfold maxLen;omega) (Nat.le_refl _) ?_));intro w2 hown hg2;have D0:Hid (∀ b1,DX w2 w1.heap.size b1 w1.heap.size n (List.replicate n []) (List.replicate n (.slice none 0 0))):=fun b1=>DX.made hown;have g2:=qac g1 hg2;have hR2:=hR1.grown hg2 (by simp);have hs1:=g1.size;clear hown g1 hR1;generalize w1.heap.size=gd at D0 hs1 |-;go_wp2_with fail;refine(qh6 _ qa w2 (hp.new g2) Hv.out).mono ?_;rintro e w3 ⟨kv,rfl,hkv,hg3⟩;obtain⟨Ak,nk,ck,rfl⟩:=hkv.ri.val;have hcl:(qa6 qa).length<=1000000:=by unfold qa6;rw [List.length_map,List.length_range];have:=Hnp.out;omega
     go_wp2_with fail;refine(qj7 _ (qa6 qa) w3 hkv.ri hcl).mono ?_;rintro e w4 ⟨rv,rfl,hrv,hg4⟩;rw [qn1 Hv.out] at hrv;have g24:=qac hg3 hg4;have g4:=qac g2 g24;have hR4:=hR2.grown g24 (by simp);have hk4:=(hkv.new hg4).low g2.size;have hkb:Hid (∀ g,(Value.slice Ak nk ck).ownBlock=some g->g < w4.heap.size):=fun g hg=>(hk4.lt g hg).2;have hp4:=hp.new g4;have hr4:=hrv.ri;obtain⟨Av,nv,cv,rfl⟩:=hr4.val;have hnv:=hr4.len;have Hnv:=Lib.hid hnv;have qbQ:nv<=10:=by rw [hnv];have:=qgf qa [];have:=Hnp.out;omega
     have D4:DX w4 gd w4.heap.size gd n (dealt qa n 0) (List.replicate n (.slice none 0 0)):=by
       have e:dealt qa n 0=List.replicate n []:=by unfold dealt;simp
       rw [e];exact(D0.out _).new g24
     obtain⟨qjK,hB4,-⟩:=D4.blk;have qjL:=hB4.lt;have hint:qg w4 3 (some gd):=qg.blk hB4 (by decide);clear hp D0 hkv hg3 hrv hg4 g24 g2 hR2 hnv hg2;have hn0:¬ ((n:Int)=0):=by omega
     have qgM:¬ (n=0):=by omega
     go_wp2_with fail
     go_loopg [29] (nv+1) (fun mm i wr=>∃ (k:Nat) (xs:List Value),k<=nv/\mm=nv+1 - k/\i=.int .i64 k/\DX wr gd w4.heap.size gd n (dealt qa n k) xs/\w4.grownBy wr (some gd))
     case atStart=>exact⟨0,_,Nat.zero_le _,rfl,rfl,D4,qag _ _⟩
     case round=>
       clear D4;obtain⟨k,xs,hk,rfl,rfl,M,hg⟩:=hrel;by_cases hlt:k < nv
       . obtain⟨g,o,x,rfl,hx,c0⟩:=(hr4.grown hg hint).at_ hlt;obtain⟨j,hj⟩:∃ j,j=k % n:=⟨_,rfl⟩;have hjn:j < n:=by rw [hj];exact Nat.mod_lt _ (by omega)
         have hmod:(k:Int).tmod (n:Int)=(j:Int):=by rw [hj];rfl
         have hkr:k<=(qao qa []).length:=by rw [<-Hnv.out];exact hk
         have hdl:=qwv (qa:=qa) (n:=n) (k:=k) (by omega) hkr;have hjD:j < (dealt qa n k).length:=by rw [hdl];exact hjn
         have hl0:=List.getElem?_eq_getElem hjD;generalize (dealt qa n k)[j]=l0 at hl0;obtain⟨u,hu,hou⟩:=M.2.2.1 j l0 hl0;have jF:l0.length<=10:=qww (by omega) hkr (by omega) l0 (List.mem_of_getElem? hl0)
         have Hs:Hid (dealt qa n (k+1)=(dealt qa n k).set j (l0++[x])):=by
           show _=_;rw [qs6 hx,<-hj,List.getD_eq_getElem?_getD,hl0];rfl
         obtain⟨cur,hB,kD⟩:=M.blk;have Hcu:=Lib.hid ((kD j).trans hu);have hji:(j:Int) < (n:Int):=by omega
         have hki:(k:Int) < (nv:Int):=by omega
         have Hu:=Lib.hid hu;have Hl0:=Lib.hid hl0;clear hx hj hdl kD hu hl0;go_wp2_with fail;refine(q7v gd j w4.heap.size x u l0 cur wr hB Hcu.out hou (by omega) hg.size).mono ?_;rintro e w5 ⟨rfl,u',wm,ho5,hgm,hb5,rfl⟩;have M5:=M.push Hl0.out Hu.out hgm ho5 hb5;rw [<-Hs.out] at M5;have hg5:w4.grownBy (wm.setCell ⟨gd,j,none⟩ u') (some gd):=qa2 (qa1 hg hgm (fun b e=>.inl (hou.lt b e).1)) (.inr rfl) _;clear M hgm ho5 hb5 hou hg hB c0;go_wp2_with fail;go_roundg (nv+1 - (k+1))
         case measure=>omega
         case rel=>exact⟨k+1,_,by omega,rfl,by go_num,M5,hg5⟩
       . obtain rfl:nv=k:=by omega
         rw [Hnv.out] at M;have qhA:w.heap.size<=gd:=hs1;have kE:qg w4 29 (some gd):=qg.blk hB4 (by decide);have g5:w.grownBy wr none:=qa1 g4 hg (fun b e=>by cases e;exact .inl qhA);have hR5:=hR4.grown hg (fun e=>by injection e with e;exact hB4.ne_ hR4 (by decide) e.symm);have hk5:=hk4.grown hg hint;have hsw:w4.heap.size<=wr.heap.size:=hg.size;have Hkb:Hid (∀ g,(Value.slice Ak nk ck).ownBlock=some g->g < w4.heap.size):=hkb;clear hg g4 hR4 hk4 hint hB4 hr4 hp4 hkb kE;go_upto_region 11 with (at_make;go_must (refine wpList_make_full _ rfl _ _ 27 rfl wr.heap.size 24 i1 _ 1 Tryz.underlying27 qgZ hy0 hy1 _ _ _ _ np rfl rfl rfl rfl (by rw [hy2];omega) (by unfold maxLen;omega) (Nat.le_refl _) ?_));intro w6 xW hg6;have hRw:=LX.qbZ xW;have hX:=Blk.new w6 29 #[.slice none 0 0,.slice Ak nk ck,.slice none 0 0,.slice (some ⟨wr.heap.size,0,none⟩) np np];have hgX:=World.grownBy_alloc w6 (.cells #[.slice none 0 0,.slice Ak nk ck,.slice none 0 0,.slice (some ⟨wr.heap.size,0,none⟩) np np] 29) none;have g67:=qac hg6 hgX;have M7:=M.new g67;have kZ:=hRw.new hgX;have hR7:=hR5.grown g67 (by simp);have hk7:=hk5.new g67;have g7:=qac g5 g67;have qdZ:wr.heap.size < w6.heap.size:=(xW.lt wr.heap.size rfl).2;clear xW hRw M hR5 hk5 g5 hg6 hgX g67;go_upto_region 11 with fail;generalize w6.alloc (.cells #[.slice none 0 0,.slice Ak nk ck,.slice none 0 0,.slice (some ⟨wr.heap.size,0,none⟩) np np] 29)=w7 at hX M7 kZ hR7 hk7 g7 |-;have yj:=hX.lt;generalize wr.heap.size=gr at hX kZ qdZ hsw |-;generalize w6.heap.size=X at hX yj qdZ |-;have hXi:qg w7 3 (some X):=qg.blk hX (by decide);have hXd:qg w7 96 (some X):=qg.blk hX (by decide);have hXl:qg w7 24 (some X):=qg.blk hX (by decide);have HD:=Lib.hid M7.2.1;go_wp2_with fail
         go_loopg [49] (n+1) (fun mm i wz=>∃ (k:Nat) (d:Value),k<=n/\mm=n+1 - k/\i=.int .i64 k/\Blk wz X 29 #[d,.slice Ak nk ck,.slice none 0 0,.slice (some ⟨gr,0,none⟩) np np]/\wz.ownsRow w7.heap.size 24 1 d k (xs.take k)/\w7.grownBy wz (some X))
         case atStart=>exact⟨0,_,Nat.zero_le _,rfl,rfl,hX,by simpa using World.ownsRow_nil _ _ _ _,qag _ _⟩
         case round=>
           obtain⟨k,d,hk,rfl,rfl,hXz,hd,hg⟩:=hrel;clear hX;obtain⟨Ad,cd,rfl⟩:=qnk hd;by_cases hlt:k < n
           . have hkD:k < (dealt qa n (qao qa []).length).length:=by rw [HD.out];exact hlt
             obtain⟨u,hu,hou⟩:=(M7.grown hg hXi hXd).2.2.1 k _ (List.getElem?_eq_getElem hkD);obtain⟨cur,hB,kD⟩:=(M7.grown hg hXi hXd).blk;obtain⟨Au,nu,cu,rfl⟩:=hou.ri.val;have c1:wr.cell? ⟨gd,k,none⟩=some (.slice Au nu cu):=(hB.cell k).trans ((kD k).trans hu);have x0:=hXz.cell 0;have hXw:X < wr.heap.size:=hXz.lt;have hki:(k:Int) < (n:Int):=by omega
             have Ht:Hid (xs.take (k+1)=xs.take k++[.slice Au nu cu]):=by
               show _=_;obtain⟨h1,h2⟩:=List.getElem?_eq_some_iff.1 hu;rw [List.take_succ_eq_append_getElem h1,h2]
             have gA:=World.grownBy_alloc wr (.cells #[.slice Au nu cu] 96) none;have hdA:=qch hd gA (qg.none _ _);have hXA:=hXz.grown gA (by simp);have hbA:w7.heap.size<=(wr.alloc (.cells #[.slice Au nu cu] 96)).heap.size:=Nat.le_trans hg.size gA.size;have hgA:=q20 hg gA;clear hu kD hB hou hXz hg gA;go_wp2_with (at_builtin;go_must (refine q1j (.tmp 54) (.tmp 57) rfl rfl hdA rfl (by omega) hbA rfl rfl (by simp) ?_));intro v5 w5 hd5 hg5;have hX5:=hXA.past hg5 (qg.own hdA (by decide));obtain⟨A5,c5,rfl⟩:=qnk hd5;have y0:=hX5.cell 0;have f0:=hX5.frozen 0;have hst:w5.grownBy (w5.setCell ⟨X,0,none⟩ (.slice A5 (k+1) c5)) (some X):=qa2 (qag w5 (some X)) (.inr rfl) _;have hX6:=hX5.qC 0 (.slice A5 (k+1) c5);have hd6:=qch hd5 hst (qg.blk hX5 (by decide));rw [<-Ht.out] at hd6;have g6:w7.grownBy (w5.setCell ⟨X,0,none⟩ (.slice A5 (k+1) c5)) (some X):=qac (qa1 hgA hg5 (fun b e=>.inl (World.ownsRow.lt hd b e).1)) hst;clear hd hdA hXA hgA hbA hd5 hg5 hX5 hst c1 x0;go_wp2_with fail;go_roundg (n+1 - (k+1))
             case measure=>omega
             case rel=>exact⟨k+1,_,by omega,rfl,by go_num,hX6,hd6,g6⟩
           . obtain rfl:n=k:=by omega
             have hxn:xs.take n=xs:=List.take_of_length_le (by rw [M7.len];exact Nat.le_refl _);rw [hxn] at hd;have MZ:=M7.grown hg hXi hXd;have hkZ:=hk7.grown hg hXi;have hrZ:=kZ.grown hg hXi hXl;have hRZ:=hR7.grown hg (fun e=>by injection e with e;omega);have gZ:w.grownBy wr none:=qa1 g7 hg (fun b e=>by cases e;exact .inl (by omega))
             have hF:qY wr w.heap.size (.agg #[.slice Ad n cd,.slice Ak nk ck,.slice none 0 0,.slice (some ⟨gr,0,none⟩) np np]) ((some { qb:=dealt qa n (qao qa []).length,counts:=qa6 qa,done:=[],rows:=List.replicate qa.length [] }:Option qj).getD qf7):=by
               refine⟨_,_,_,_,xs,List.replicate np (.slice none 0 0),rfl,?_,hkZ,qf.nil _ _,?_,?_,?_⟩
               . refine LX.lq (LX.low (a:=w4.heap.size) ⟨?_,MZ.2.2.1⟩ (by omega));show wr.ownsRow w4.heap.size 24 1 _ (dealt qa n (qao qa []).length).length xs;rw [HD.out];refine⟨hd.1,?_⟩;rcases hd.2 with h0 | ⟨g,cap,cur,h1,h2,h3⟩
                 . exact .inl h0
                 . exact .inr ⟨g,cap,cur,h1,by omega,h3⟩
               . have e:np=qa.length:=Hnp.out;rw [<-e];exact hrZ.low (by omega)
               . have hnil:∀ y∈List.replicate np (Value.slice none 0 0),y.ownBlock=none:=fun y hy=>by rw [List.eq_of_mem_replicate hy];rfl
                 have qhB:∀ y∈xs,∀ g,y.ownBlock=some g->w4.heap.size<=g:=by
                   intro y hy g hg;obtain⟨i,hi,rfl⟩:=List.getElem_of_mem hy;obtain⟨y',k1,k2⟩:=MZ.2.2.1 i _ (List.getElem?_eq_getElem (by have:=MZ.len;rw [HD.out];omega));rw [List.getElem?_eq_getElem hi] at k1;injection k1 with k1;subst k1;exact(k2.lt g hg).1
                 refine List.pairwise_cons.2 ⟨fun y hy g hg hg'=>?_,List.pairwise_cons.2 ⟨fun y hy g hg=>(by cases hg),List.pairwise_append.2 ⟨MZ.2.2.2,Apart.kO np,fun y hy z hz g hg hg'=>?_⟩⟩⟩
                 . have h1:=Hkb.out g hg;rcases List.mem_cons.1 hy with rfl | hy
                   . cases hg'
                   . rcases List.mem_append.1 hy with hy | hy
                     . have:=qhB y hy g hg';omega
                     . rw [hnil y hy] at hg';cases hg'
                 . rw [hnil z hz] at hg';cases hg'
               . intro g hg hg';have e:gr=g:=Option.some.inj hg';have:=(World.ownsRow.lt hd g hg).1;omega
             have x0:=hXz.cell 0;have x1:=hXz.cell 1;have x2:=hXz.cell 2;have x3:=hXz.cell 3;have y0:=hRZ.cell 0;have y1:=hRZ.cell 1;have y2:=hRZ.cell 2;have y3:=hRZ.cell 3;have f0:=hRZ.frozen 0;have f1:=hRZ.frozen 1;have f2:=hRZ.frozen 2;have f3:=hRZ.frozen 3;have hfin:=Lib.hid (qp3 gZ hRZ rfl hF);clear hd hXz hg MZ hkZ hrZ hRZ gZ hF hxn M7 kZ hR7 hk7 g7 hXi hXd hXl;go_wp2_with fail;refine bodyPost_ret (v:=.tuple #[.agg #[.slice Ad n cd,.slice Ak nk ck,.slice none 0 0,.slice (some ⟨gr,0,none⟩) np np],.bool true]) (by simp [results,Tryz.results41,go_sem,y0,y1,y2,y3]) rfl ?_;rw [Hr.out];exact hfin.out
   . have Hin:Hid ((decide (1<=n) && decide (n<=4))=false):=by
       show _=_;rw [Bool.and_eq_false_iff,decide_eq_false_iff_not,decide_eq_false_iff_not];omega
     have Hr:Hid (qbm qa n=none):=qq5 hin;clear hv hin;go_enter Tryz.func41,Tryz.ntmps41;go_upto_region 1 with fail;generalize w.alloc (.cells #[.slice none 0 0,.slice none 0 0,.slice none 0 0,.slice none 0 0] 29)=W at hR0 hgR |-;go_wp2_with fail;refine(qb6 _ qa W (hp.new hgR) Hv.out).mono ?_;rintro e w1 ⟨rfl,hg1⟩;have g1:=qac hgR hg1;have hR1:=hR0.grown hg1 (by simp);have y0:=hR1.cell 0;have y1:=hR1.cell 1;have y2:=hR1.cell 2;have y3:=hR1.cell 3;have f0:=hR1.frozen 0;have f1:=hR1.frozen 1;have f2:=hR1.frozen 2;have f3:=hR1.frozen 3;have hfin:=Lib.hid (qp3 (r:=none) g1 hR1 rfl (qY.zero w1 w.heap.size));clear hgR hR0 hg1 hR1 g1;go_wp2_with fail;refine(qfk _ _ Hin.out).mono ?_;rintro e w2 ⟨rfl,rfl⟩;go_wp2_with fail;refine bodyPost_ret (v:=.tuple #[.agg #[.slice none 0 0,.slice none 0 0,.slice none 0 0,.slice none 0 0],.bool false]) (by simp [results,Tryz.results41,go_sem,y0,y1,y2,y3]) rfl ?_;rw [Hr.out];exact hfin.out
 . have hv':qae qa=false:=by simpa using hv
   have Hv:=Lib.hid hv';have Hr:Hid (qbm qa n=none):=qq4 hv';clear hv hv';go_enter Tryz.func41,Tryz.ntmps41;go_upto_region 1 with fail;generalize w.alloc (.cells #[.slice none 0 0,.slice none 0 0,.slice none 0 0,.slice none 0 0] 29)=W at hR0 hgR |-;go_wp2_with fail;refine(qb6 _ qa W (hp.new hgR) Hv.out).mono ?_;rintro e w1 ⟨rfl,hg1⟩;have g1:=qac hgR hg1;have hR1:=hR0.grown hg1 (by simp);have y0:=hR1.cell 0;have y1:=hR1.cell 1;have y2:=hR1.cell 2;have y3:=hR1.cell 3;have f0:=hR1.frozen 0;have f1:=hR1.frozen 1;have f2:=hR1.frozen 2;have f3:=hR1.frozen 3;have hfin:=Lib.hid (qp3 (r:=none) g1 hR1 rfl (qY.zero w1 w.heap.size));clear hgR hR0 hg1 hR1 g1;go_wp2_with fail;refine bodyPost_ret (v:=.tuple #[.agg #[.slice none 0 0,.slice none 0 0,.slice none 0 0,.slice none 0 0],.bool false]) (by simp [results,Tryz.results41,go_sem,y0,y1,y2,y3]) rfl ?_;rw [Hr.out];exact hfin.out
end
end Go.Proofs.YtacemdoejblgaaaGreatDoor

/- Part 32. Conditions: each statement's. -/
import Derived.Test.YtacemdoejblgaaaGreatDoorM31
import Derived.Lib.AppendZeros
import Derived.Test.YtacemdoejblgaaaGreatDoorM22
namespace Go.Proofs.YtacemdoejblgaaaGreatDoor
set_option maxHeartbeats 6400000
set_option maxRecDepth 100000
section
open Go.RowKit
theorem q50(n:Nat)(w:World)(hn:n<=1000):Calls Tryz.prog 132 #[.slice none 0 0,.int .i64 n] w (qes w []):=by
 by_cases h0:n=0
 . subst h0;go_enter Tryz.func132,Tryz.ntmps132;go_wp2_with fail;go_ret;exact⟨_,rfl,qf.nil _ _,qag _ _⟩
 . obtain⟨i,hi,hz0,hz1,hz2⟩:=info_parts qkm;have hpos:0 < n:=by omega
   have hr:=fun ty=>Lib.run_append_nil_zeros (P:=Tryz.prog) w 24 3 ty 3 i (.int .i64 0) .i64 .i64 Tryz.underlying24 Tryz.underlying3 hi hz0 n hpos (by omega) (by omega) (by rw [hz2];omega);have hge:n<=grownCap w n 0 3:=grownCap_ge w _ _ _;have hmx:grownCap w n 0 3<=maxLen:=grownCap_le_maxLen w n 0 3 (by unfold maxLen;omega);generalize grownCap w n 0 3=G at hr hge hmx
   have ho:qf (w.drew.alloc (.cells (Builtin.zeroCells (Value.int .i64 0).cells n++Builtin.zeroCells (Value.int .i64 0).cells (G - n)) 3)) w.heap.size (.slice (some ⟨w.heap.size,0,none⟩) 0 G) []:=by
     refine⟨rfl,.inr ⟨w.heap.size,G,_,rfl,Nat.le_refl _,heap_alloc_new w.drew _,Nat.zero_le _,hmx,?_,by simp⟩⟩;rw [Array.size_append,size_zeroCells,size_zeroCells];show n * 1+(G - n) * 1=G * 1;omega
   have hg:w.grownBy (w.drew.alloc (.cells (Builtin.zeroCells (Value.int .i64 0).cells n++Builtin.zeroCells (Value.int .i64 0).cells (G - n)) 3)) none:=qac (qax (qag w none)) (World.grownBy_alloc w.drew _ none);have qjE:G<=9223372036854775807:=by unfold maxLen at hmx;omega
   generalize Builtin.zeroCells (Value.int .i64 0).cells n++Builtin.zeroCells (Value.int .i64 0).cells (G - n)=Z at hr ho hg;clear hz0 hz1 hz2 hi;go_enter Tryz.func132,Tryz.ntmps132;go_wp2_with (at_builtin;refine Lib.wpList_append_run _ rfl _ _ _ _ rfl _ _ rfl rfl _ _ (hr _) ?_);go_ret;exact⟨_,rfl,ho,hg⟩
theorem qx8{ops:Array Oper}{rest:List Oper}{o:Oper}{a:Act}{Q:Exit->Act->World->Prop}{w:World}
   (s x:Operand) (t:TypeId) (ht:Tryz.prog.underlying t=some (.slice 3)) (hgd:o.guard=none) (ho:o.op=.call { callee:=.builtin .append,args:=#[s,x],argTypes:=#[t,t] })
   {base:Nat} {v xv:Value} {l0 l:List Int} (hown:qf w base v l0) (hxv:RI w xv l) (hn:l0.length+l.length<=1000000000) (hbase:base<=w.heap.size)
   (hs:a.eval s=v) (hx:a.eval x=xv)
   (h:∀ v' w',qf w' base v' (l0++l)->w.grownBy w' v.ownBlock->wpList Tryz.prog ops Q rest (a.put o.dst v') w') :
   wpList Tryz.prog ops Q (o::rest) a w:=by
 obtain⟨i,hi,hz0,hz1,hz2⟩:=info_parts qkm;obtain⟨A,c,e,hc,hcm,hcn⟩:=TS.form hxv;subst e
 match A,hcn with
 | none,hcn=>
   obtain rfl:=hcn rfl;have hl0:l=[]:=List.eq_nil_of_length_eq_zero (by omega);subst hl0;refine wpList_append_own_none hgd s x t ho base 3 i 1 ht hi v _ _ hs hown hx ?_;rw [List.append_nil] at h;exact h _ _ hown (qag _ _)
 | some ad,hcn=>
   refine wpList_append_own _ hgd s x t ho base 3 i _ 1 8 ht hi hz0 hz1 hz2 rfl (by decide) v _ _ hs hown ad l.length c (l.map (.int .i64)) hx (by rw [List.length_map,Nat.mul_one]) ?_ (qhl l) ?_ ?_ hbase ?_
   . intro j u hj;have hjl:=(List.getElem?_eq_some_iff.1 hj).1;rw [List.length_map] at hjl;obtain⟨g,o',cur,e,_,hcell⟩:=TS.at_ hxv (by omega);have e2:ad=⟨g,o',none⟩:=Option.some.inj e;rw [e2,Addr.add_lit];exact hcell j u hj
   . unfold maxLen;omega
   . omega
   . intro v' w' h1 h2 _;refine h v' w' ?_ h2;unfold qf;simpa using h1
theorem qk8{ll:List (List Int)}{k:Nat}{l:List Int}(h:ll[k]?=some l):(ll.take (k+1)).flatten=(ll.take k).flatten++l:=by
 obtain⟨hk,rfl⟩:=List.getElem?_eq_some_iff.1 h;rw [List.take_succ_eq_append_getElem hk,List.flatten_append];simp
theorem qx9(ll:List (List Int))(k:Nat):(ll.take k).flatten.length<=ll.flatten.length:=by
 have e:ll.flatten=(ll.take k).flatten++(ll.drop k).flatten:=by rw [<-List.flatten_append,List.take_append_drop]
 rw [e,List.length_append];omega
theorem q1e(v:Value)(ll:List (List Int))(w:World)(h:RL w v ll)(hl:ll.flatten.length<=1000)(hll:ll.length<=1000):Calls Tryz.prog 85 #[v] w (qes w ll.flatten):=by
 obtain⟨A,n,c,rfl⟩:=h.val;have hn:=h.len;have hn1:n<=1000:=by omega
 have Hn:=Lib.hid hn;have Hl:=Lib.hid hl;clear hn hl hll;go_enter Tryz.func85,Tryz.ntmps85;go_wp2_with fail
 go_loopg [3,11] (n+1) (fun mm s i wr=>∃ (k z:Nat),k<=n/\mm=n+1 - k/\i=.int .i64 k/\s=.int .i64 z/\w=wr/\z<=1000/\Hid (z=(ll.take k).flatten.length))
 case atStart=>exact⟨0,0,Nat.zero_le _,rfl,rfl,rfl,rfl,Nat.zero_le _,rfl⟩
 case round=>
   obtain⟨k,z,hk,rfl,rfl,rfl,rfl,hz,Hz⟩:=hrel;by_cases hlt:k < n
   . obtain⟨g,o,l,B,m,e,rfl,hx,c0,hr,hm,-,-⟩:=h.at_ hlt;have hz2:Hid (z+m=(ll.take (k+1)).flatten.length):=by show _=_;rw [qk8 hx,List.length_append,<-Hz.out,hm]
     have hzm:z+m<=1000:=by have:=qx9 ll (k+1);have:=hz2.out;have:=Hl.out;omega
     clear hx hr hm;go_wp2_with fail;go_roundg (n+1 - (k+1))
     case measure=>omega
     case rel=>exact⟨k+1,z+m,by omega,rfl,by go_num,by go_num,rfl,hzm,hz2⟩
   . obtain rfl:n=k:=by omega
     go_wp2_with fail;refine(q50 z w hz).mono ?_;rintro e w1 ⟨v1,rfl,ho,hg⟩;obtain⟨A1,n1,c1,rfl⟩:=ho.ri.val;go_wp2_with fail
     go_loopg [6,27] (n+1) (fun mm s i wr=>∃ (k:Nat),k<=n/\mm=n+1 - k/\i=.int .i64 k/\qf wr w.heap.size s (ll.take k).flatten/\w.grownBy wr none)
     case atStart=>exact⟨0,Nat.zero_le _,rfl,rfl,by exact ho,hg⟩
     case round=>
       clear ho hg;obtain⟨k,hk,rfl,rfl,ho,hg⟩:=hrel;obtain⟨A2,n2,c2,rfl⟩:=ho.ri.val;have h2:=h.new hg;by_cases hlt:k < n
       . obtain⟨g,o,l,B,m,e,rfl,hx,c0,hr,hm,-,-⟩:=h2.at_ hlt;have Hx:=Lib.hid hx
         have hb:(ll.take k).flatten.length+l.length<=1000000000:=by
           have h3:=qx9 ll (k+1);rw [qk8 hx,List.length_append] at h3;have:=Hl.out;omega
         clear hx hm;go_wp2_with (at_builtin;go_must (refine qx8 (.tmp 31) (.tmp 32) 24 Tryz.underlying24 rfl rfl ho hr hb hg.size rfl rfl ?_));intro v5 w5 ho5 hg5;have g5:=ho.gb hg hg5 (Nat.le_refl _);rw [<-qk8 Hx.out] at ho5;obtain⟨A5,n5,c5,rfl⟩:=ho5.ri.val;go_wp2_with fail;go_roundg (n+1 - (k+1))
         case measure=>omega
         case rel=>exact⟨k+1,by omega,rfl,by go_num,ho5,g5⟩
       . obtain rfl:n=k:=by omega
         rw [List.take_of_length_le (Nat.le_of_eq Hn.out.symm)] at ho;go_wp2_with fail;go_ret;exact⟨_,rfl,ho,hg⟩
theorem q1f(qa:List Node)(D:List Int)(hv:qae qa=true):(qao qa D).length<=10:=by
 have h:=qgf qa D;have:=qal hv;omega
def q3o(w:World)(qa:List Node)(c:qj)(e:Ending)(w':World):Prop:=∃ b,e=.returned (.bool b)/\(b=true↔c.qb.flatten.Perm (qao qa c.done))/\w.grownBy w' none
theorem qmr(v:Value)(qa:List Node)(vs:List (List Int))(c:qj)(w:World)(h:PCV w v qa vs c)(hv:qae qa=true)(hd4:c.qb.length<=4)(hfit:∀ d∈c.qb,d.length<=1048576) :
   Calls Tryz.prog 49 #[v] w (q3o w qa c):=by
 obtain⟨A0,n0,c0,A5,n5,c5,A1,n1,c1,A2,n2,c2,A3,n3,c3,A4,n4,c4,rfl,h0,h5,h1,h2,h3,h4⟩:=h;have hB:=Blk.new w 72 #[.slice A0 n0 c0,.slice A5 n5 c5,.slice A1 n1 c1,.slice A2 n2 c2,.slice A3 n3 c3,.slice A4 n4 c4];have hg:=World.grownBy_alloc w (.cells #[.slice A0 n0 c0,.slice A5 n5 c5,.slice A1 n1 c1,.slice A2 n2 c2,.slice A3 n3 c3,.slice A4 n4 c4] 72) none;have Hv:=Lib.hid hv;have hn1:=h1.len;have qgA:n1<=4:=by omega
 have Hn1:=Lib.hid hn1;have qD:=Lib.hid hfit;have H4:=Lib.hid hd4;clear h5 h2 h4 hv hn1 hfit hd4;have k0:=h0.new hg;have k1:=h1.new hg;have k3:=h3.new hg;clear h0 h1 h3;go_enter Tryz.func49,Tryz.ntmps49;go_upto_region 1 with fail;generalize w.alloc (.cells #[.slice A0 n0 c0,.slice A5 n5 c5,.slice A1 n1 c1,.slice A2 n2 c2,.slice A3 n3 c3,.slice A4 n4 c4] 72)=W at hB hg k0 k1 k3 |-;have q0:=hB.cell 0;have q4:=hB.cell 4;go_wp2_with fail;refine(qy7 _ _ qa c.done W k0 k3 Hv.out).mono ?_;rintro e w1 ⟨rv,rfl,ho1,hg1⟩;obtain⟨Ar,nr,cr,rfl,hnr,hlr⟩:=ho1.ri.form';have yZ:nr<=10:=by have:=q1f qa c.done Hv.out;omega
 have Hlr:=Lib.hid hlr;have B1:=hB.grown hg1 (by simp);have q2:=B1.cell 2;have m1:=k1.new hg1;have g1:=qac hg hg1;clear k0 k1 k3 hB hg hg1 q0 q4 hlr;go_wp2_with fail
 go_loopg [4,19] (n1+1) (fun mm s i wr=>∃ (k z:Nat),k<=n1/\mm=n1+1 - k/\i=.int .i64 k/\s=.int .i64 z/\w1=wr/\z<=nr/\Hid (z=(c.qb.take k).flatten.length))
 case atStart=>exact⟨0,0,Nat.zero_le _,rfl,rfl,rfl,rfl,Nat.zero_le _,rfl⟩
 case round=>
   obtain⟨k,z,hk,rfl,rfl,rfl,rfl,hz,Hz⟩:=hrel;by_cases hlt:k < n1
   . obtain⟨g,o,l,B,m,e,rfl,hx,x0,hr,hm,-,-⟩:=m1.at_ hlt;have hz2:Hid (z+m=(c.qb.take (k+1)).flatten.length):=by show _=_;rw [qk8 hx,List.length_append,<-Hz.out,hm]
     have hmb:m<=1048576:=by have:=qD.out l (List.mem_of_getElem? hx);omega
     clear hx hr hm;by_cases qdT:nr < z+m
     . have hno:Hid (¬ c.qb.flatten.Perm (qao qa c.done)):=fun hp=>by
         have h1:=hp.length_eq;have h2:=qx9 c.qb (k+1);have h3:=hz2.out;have h4:=Hlr.out;omega
       clear hz2;go_wp2_with fail;go_ret;exact⟨false,rfl,⟨fun e2=>(by cases e2),fun e2=>absurd e2 hno.out⟩,g1⟩
     . go_wp2_with fail;go_roundg (n1+1 - (k+1))
       case measure=>omega
       case rel=>exact⟨k+1,z+m,by omega,rfl,by go_num,by go_num,rfl,by omega,hz2⟩
   . obtain rfl:n1=k:=by omega
     have hfl:c.qb.flatten.length<=10:=by
       have:=Hz.out;rw [List.take_of_length_le (Nat.le_of_eq Hn1.out.symm)] at this;omega
     have ku:c.qb.length<=1000:=by have:=H4.out;omega
     clear Hz;go_wp2_with fail;refine(q1e _ c.qb w1 m1 (by omega) ku).mono ?_;rintro e w2 ⟨av,rfl,ho2,hg2⟩;have qgU:=ho1.new hg2;obtain⟨Aa,na,ca,rfl⟩:=ho2.ri.val;go_wp2_with fail;refine(qvz _ w1.heap.size c.qb.flatten w2 ho2 (by omega)).mono ?_;rintro e w3 ⟨rfl,ho3,hg3⟩;have g3:=qa1 hg2 hg3 (fun g e=>.inl (ho2.lt g e).1);have hr3:=ho1.ri.new g3;have g4:=qac g1 g3;clear ho1 qgU hg2 hg3 g3 g1 ho2;by_cases heq:qh c.qb.flatten=qao qa c.done
     . have He:Hid (decide (qh c.qb.flatten=qao qa c.done)=true):=decide_eq_true heq;have qbV:Hid (c.qb.flatten.Perm (qao qa c.done)):=qsl.1 heq;clear heq;go_wp2_with fail;refine(qlx _ _ _ _ w3 ho3.ri hr3 He.out).mono ?_;rintro e w4 ⟨rfl,hg4⟩;go_wp2_with fail;go_ret;exact⟨true,rfl,⟨fun _=>qbV.out,fun _=>rfl⟩,qac g4 hg4⟩
     . have He:Hid (decide (qh c.qb.flatten=qao qa c.done)=false):=decide_eq_false heq;have hno:Hid (¬ c.qb.flatten.Perm (qao qa c.done)):=fun hp=>heq (qsl.2 hp);clear heq;go_wp2_with fail;refine(qlx _ _ _ _ w3 ho3.ri hr3 He.out).mono ?_;rintro e w4 ⟨rfl,hg4⟩;go_wp2_with fail;go_ret;exact⟨false,rfl,⟨fun e2=>(by cases e2),fun e2=>absurd e2 hno.out⟩,qac g4 hg4⟩
theorem qms{qa:List Node}{D:List Int}{k:Nat}{x:Int}(hx:D[k]?=some x)(h:qe3 qa (D.take k) x=false):qbu qa D=false:=by
 obtain⟨hk,rfl⟩:=List.getElem?_eq_some_iff.1 hx;cases ho:qbu qa D with
 | false=>rfl
 | true=>rw [qg9 ho hk] at h;cases h
theorem qvs{qa:List Node}{D:List Int}{k:Nat}{x:Int}(hx:D[k]?=some x)(ho:qc8 qa D k=true)(h:qe3 qa (D.take k) x=true):qc8 qa D (k+1)=true:=by
 rw [qd0,ho,List.getD_eq_getElem?_getD,hx];exact h
theorem q51{qa:List Node}{D:List Int}{q:Nat}{nd:Node}(hv:qae qa=true)(hq:qa[q]?=some nd):qe3 qa D (q:Int)=true↔qcn qa.length D q=false/\nd.frm.all (fun x=>qcn qa.length D x.toNat)=true:=by
 have hql:=(List.getElem?_eq_some_iff.1 hq).1;rw [qd8,Int.toNat_natCast,qdk hq,List.all_eq_true];unfold qcn;constructor
 . rintro⟨-,-,h3,h4⟩;refine⟨by simp [h3],fun f hf=>?_⟩;have:=qeh hv (i:=q) (x:=f) (by rw [qdk hq];exact hf);rw [Int.toNat_of_nonneg this.1];simp [h4 f hf];omega
 . rintro⟨h3,h4⟩;refine⟨Int.natCast_nonneg q,Int.ofNat_lt.2 hql,fun e=>by simp [hql,e] at h3,fun f hf=>?_⟩;have h5:=qeh hv (i:=q) (x:=f) (by rw [qdk hq];exact hf);have h6:=h4 f hf;rw [Int.toNat_of_nonneg h5.1] at h6;simp only [Bool.and_eq_true,decide_eq_true_eq] at h6;exact h6.2
theorem qpy(v dv:Value)(qa:List Node)(D:List Int)(w:World)(h:RN w v qa)(hd:RI w dv D)(hv:qae qa=true) :
   Calls Tryz.prog 47 #[v,dv] w fun e w'=>e=.returned (.bool (qbu qa D))/\w.grownBy w' none:=by
 obtain⟨A,n,c,rfl,-,hn,-⟩:=h.form';obtain⟨B,m,c',rfl,-,hm⟩:=hd.form';have hle:=hd.le;have qjF:m<=9223372036854775807:=by omega
 have zC:n<=10:=by have:=qal hv;omega
 have Hn:=Lib.hid hn;have Hm:=Lib.hid hm;have Hv:=Lib.hid hv;clear hn hm hv hle
 have hM0:MK (w.alloc (.cells #[.bool false,.bool false,.bool false,.bool false,.bool false,.bool false,.bool false,.bool false,.bool false,.bool false] 78)) w.heap.size (qcn n (D.take 0)):=by
   have e:marks (qcn n (D.take 0))=#[.bool false,.bool false,.bool false,.bool false,.bool false,.bool false,.bool false,.bool false,.bool false,.bool false]:=by
     have:qcn n (D.take 0)=fun _=>false:=by
       funext i;simp [qcn]
     rw [this];rfl
   show Blk _ _ _ _;rw [e];exact Blk.new w _ _
 have hg0:w.grownBy (w.alloc (.cells #[.bool false,.bool false,.bool false,.bool false,.bool false,.bool false,.bool false,.bool false,.bool false,.bool false] 78)) none:=qap (qag w none) _;have fin:∀ w' b,w.grownBy w' none->qbu qa D=b->(Ending.returned (.bool b)=.returned (.bool (qbu qa D))/\w.grownBy w' none):=fun w' b hg hr=>⟨by rw [hr],hg⟩;go_enter Tryz.func47,Tryz.ntmps47;go_wp2_with fail
 go_loopg [10] (m+1) (fun mm i wr=>∃ k:Nat,k<=m/\mm=m+1 - k/\i=.int .i64 k/\Hid (MK wr w.heap.size (qcn n (D.take k)))/\w.grownBy wr none/\Hid (qc8 qa D k=true))
 case atStart=>exact⟨0,Nat.zero_le _,rfl,rfl,hM0,hg0,rfl⟩
 case round=>
   clear hM0 hg0;obtain⟨k,hk,rfl,rfl,HM,hg,Ho⟩:=hrel;by_cases hlt:k < m
   . obtain⟨g,o,x,rfl,hx,c0⟩:=(hd.new hg).at_ hlt;have Hx:=Lib.hid hx;clear hx;by_cases hxn:0<=x/\x < n
     . obtain⟨q,rfl⟩:=Int.eq_ofNat_of_zero_le hxn.1;have hq:q < n:=by omega
       obtain⟨gp,op,nd,f,r,rfl,hnd,d0,d1,d2,hf,hr⟩:=(h.new hg).at_ hq;obtain⟨Af,nf,cf,rfl⟩:=hf.val;have Hnd:=Lib.hid hnd;have Hst:=Lib.hid (q51 (D:=D.take k) Hv.out hnd)
       have Hin:Hid (∀ x∈nd.frm,0<=x/\x < 10):=fun x hx=>by
         have:=qeh Hv.out (i:=q) (x:=x) (by rw [qdk Hnd.out];exact hx);omega
       have c1:=HM.out.cell (k:=q) (by omega);have f1:wr.frozen? ⟨w.heap.size,q,none⟩=false:=Blk.frozen HM.out q;have hb1:Hid ((decide (0<=(q:Int)) && decide ((q:Int) < (n:Int)))=true):=by show _=_;simp;omega
       clear hnd hxn hr;by_cases hmk:qcn n (D.take k) q=true
       . have Hr:Hid (qbu qa D=false):=qms Hx.out (by
           cases hs:qe3 qa (D.take k) (q:Int) with
           | false=>rfl
           | true=>
             have:=(Hst.out.1 hs).1;rw [<-Hn.out,hmk] at this;cases this)
         rw [hmk] at c1;clear hmk;have hfin:=Lib.hid (fin wr false hg Hr.out);clear fin;go_wp2_with fail;refine(qfa _ _ _ q _ hb1.out).mono ?_;rintro e w2 ⟨rfl,rfl⟩;go_wp2_with fail;go_ret;exact hfin.out
       . have qbW:qcn n (D.take k) q=false:=by simpa using hmk
         rw [qbW] at c1;have Hmk:=Lib.hid qbW;clear hmk qbW;by_cases hal:nd.frm.all (fun x=>qcn n (D.take k) x.toNat)=true
         . have Hal:=Lib.hid hal;clear hal;have Ho2:Hid (qc8 qa D (k+1)=true):=qvs Hx.out Ho.out (Hst.out.2 ⟨by rw [<-Hn.out];exact Hmk.out,by rw [<-Hn.out];exact Hal.out⟩)
           have HM2:Hid (MK (wr.setCell ⟨w.heap.size,q,none⟩ (.bool true)) w.heap.size (qcn n (D.take (k+1)))):=by
             show Blk _ _ _ _;rw [qri n Hx.out,if_pos ⟨Int.natCast_nonneg q,Int.ofNat_lt.2 hq⟩,Int.toNat_natCast,<-qw6 _ (by omega)];exact Blk.qC HM.out q _
           have hg2:w.grownBy (wr.setCell ⟨w.heap.size,q,none⟩ (.bool true)) none:=qa2 (p:=⟨w.heap.size,q,none⟩) hg (.inl (Nat.le_refl _)) _;clear fin;go_wp2_with fail;refine(qfa _ _ _ q _ hb1.out).mono ?_;rintro e w2 ⟨rfl,rfl⟩;go_wp2_with fail;refine(ql7 _ nd.frm w.heap.size _ wr hf HM.out Hin.out Hal.out).mono ?_;rintro e w2 ⟨rfl,rfl⟩;go_wp2_with fail;go_roundg (m+1 - (k+1))
           case measure=>omega
           case rel=>exact⟨k+1,by omega,rfl,by go_num,HM2,hg2,Ho2⟩
         . have qdU:nd.frm.all (fun x=>qcn n (D.take k) x.toNat)=false:=by simpa using hal
           have Hal:=Lib.hid qdU;clear hal qdU
           have Hr:Hid (qbu qa D=false):=qms Hx.out (by
             cases hs:qe3 qa (D.take k) (q:Int) with
             | false=>rfl
             | true=>
               have:=(Hst.out.1 hs).2;rw [<-Hn.out,Hal.out] at this;cases this)
           have hfin:=Lib.hid (fin wr false hg Hr.out);clear fin;go_wp2_with fail;refine(qfa _ _ _ q _ hb1.out).mono ?_;rintro e w2 ⟨rfl,rfl⟩;go_wp2_with fail;refine(ql7 _ nd.frm w.heap.size _ wr hf HM.out Hin.out Hal.out).mono ?_;rintro e w2 ⟨rfl,rfl⟩;go_wp2_with fail;go_ret;exact hfin.out
     . have hbn:(decide (0<=x) && decide (x < (n:Int)))=false:=by
         rw [Bool.and_eq_false_iff,decide_eq_false_iff_not,decide_eq_false_iff_not];omega
       have Hbn:=Lib.hid hbn
       have Hr:Hid (qbu qa D=false):=qms Hx.out (by
         cases hs:qe3 qa (D.take k) x with
         | false=>rfl
         | true=>
           have h1:=qd8.1 hs;have h2:=Hn.out;exfalso;exact hxn ⟨h1.1,by omega⟩)
       have hfin:=Lib.hid (fin wr false hg Hr.out);clear hbn hxn fin;go_wp2_with fail;refine(qfa _ _ _ x _ Hbn.out).mono ?_;rintro e w2 ⟨rfl,rfl⟩;go_wp2_with fail;go_ret;exact hfin.out
   . obtain rfl:m=k:=by omega
     have Hr:Hid (qbu qa D=true):=by
       show qc8 qa D D.length=true;rw [<-Hm.out];exact Ho.out
     have hfin:=Lib.hid (fin wr true hg Hr.out);clear fin;go_wp2_with fail;go_ret;exact hfin.out
theorem qvt{qa:List Node}{c:qj}:qgu qa (values qa) c↔c.rows.length=qa.length/\∀ i,i < qa.length->c.rows[i]?=some (qen qa c.done i):=by
 unfold qgu;constructor
 . rintro⟨h1,h2⟩;refine⟨h1,fun i hi=>?_⟩;have h3:=h2 i (by omega);unfold rowFine at h3;rw [List.getD_eq_getElem?_getD,List.getElem?_eq_getElem (by omega)] at h3;rw [List.getElem?_eq_getElem (by omega)];exact congrArg some h3
 . rintro⟨h1,h2⟩;refine⟨h1,fun i hi=>?_⟩;have h3:=h2 i (by omega);unfold rowFine;rw [List.getD_eq_getElem?_getD,h3];rfl
theorem qd3{qa:List Node}{c:qj}:qo qa c↔qae qa=true/\(1<=c.qb.length/\c.qb.length<=4)/\qbu qa c.done=true/\lefts qa c.done=c.counts/\c.qb.flatten.Perm (qao qa c.done)/\qgu qa (values qa) c:=by
 rw [qvt];constructor
 . intro h;exact⟨h.pv,⟨h.d1,h.d4⟩,h.order,h.counts.symm,h.dq,h.rl,h.rows⟩
 . rintro⟨h1,⟨h2,h3⟩,h4,h5,h6,h7,h8⟩;exact⟨h1,h2,h3,h4,h5.symm,h7,h6,h8⟩
theorem qk9(v dv:Value)(qa:List Node)(D:List Int)(w:World)(h:RN w v qa)(hd:RI w dv D)(hv:qae qa=true){b:Bool}(hb:qbu qa D=b) :
   Calls Tryz.prog 47 #[v,dv] w fun e w'=>e=.returned (.bool b)/\w.grownBy w' none:=hb ▸ qpy v dv qa D w h hd hv
theorem qea{qa:List Node}{c:qj}(h:¬ qo qa c):qaw qa c=false:=by
 cases hc:qaw qa c with
 | false=>rfl
 | true=>exact absurd (qbk.1 hc) h
theorem qmt(pv v:Value)(qa:List Node)(c:qj)(w:World)(hp:RN w pv qa)(h:CV w v c)(hfit:∀ d∈c.qb,d.length<=1048576) :
   Calls Tryz.prog 16 #[pv,v] w fun e w'=>e=.returned (.bool (qaw qa c))/\w.grownBy w' none:=by
 obtain⟨A0,n0,c0,rfl,-,-,-⟩:=hp.form';obtain⟨A1,n1,c1,A2,n2,c2,A3,n3,c3,A4,n4,c4,rfl,h1,h2,h3,h4⟩:=h.form;have hB:=Blk.new w 29 #[.slice A1 n1 c1,.slice A2 n2 c2,.slice A3 n3 c3,.slice A4 n4 c4];have hg:=World.grownBy_alloc w (.cells #[.slice A1 n1 c1,.slice A2 n2 c2,.slice A3 n3 c3,.slice A4 n4 c4] 29) none;have Hn1:=Lib.hid h1.len;have qD:=Lib.hid hfit;have fin:∀ w' b,w.grownBy w' none->qaw qa c=b->(Ending.returned (.bool b)=.returned (.bool (qaw qa c))/\w.grownBy w' none):=fun w' b hg hr=>⟨by rw [hr],hg⟩;have k0:=hp.new hg;have k1:=h1.new hg;have k2:=h2.new hg;have k3:=h3.new hg;have k4:=h4.new hg;clear hp h h1 h2 h3 h4 hfit;go_enter Tryz.func16,Tryz.ntmps16;go_upto_region 1 with fail;generalize w.alloc (.cells #[.slice A1 n1 c1,.slice A2 n2 c2,.slice A3 n3 c3,.slice A4 n4 c4] 29)=W at hB hg k0 k1 k2 k3 k4 |-;go_wp2_with fail;refine(qnx _ qa W k0).mono ?_;rintro e w1 ⟨v1,rfl,ho1,hg1⟩;have B1:=hB.grown hg1 (by simp);have m0:=k0.new hg1;have m1:=k1.new hg1;have m2:=k2.new hg1;have m3:=k3.new hg1;have m4:=k4.new hg1;have g1:=qac hg hg1;have q0:=B1.cell 0;have q1:=B1.cell 1;have q2:=B1.cell 2;have q3:=B1.cell 3;obtain⟨Av,nv,cv,rfl⟩:=ho1.rl.val;clear k0 k1 k2 k3 k4 hB hg hg1;by_cases hv:qae qa=true
 . have Hv:=Lib.hid hv;rw [hv,if_pos rfl] at ho1;rw [hv];have r5:=ho1.rl;clear hv ho1;by_cases hin:1<=n1/\n1<=4
   . have Hin:Hid ((decide (1<=(n1:Int)) && decide ((n1:Int)<=4))=true):=by show _=_;simp;omega
     have hd4:1<=c.qb.length/\c.qb.length<=4:=by have:=Hn1.out;omega
     by_cases ho:qbu qa c.done=true
     . have Ho:=Lib.hid ho;clear ho hin;go_wp2_with fail;refine(qfk _ _ Hin.out).mono ?_;rintro e w2 ⟨rfl,rfl⟩;go_wp2_with fail;refine(qk9 _ _ qa c.done w1 m0 m3 Hv.out Ho.out).mono ?_;rintro e w2 ⟨rfl,hg2⟩;have B2:=B1.grown hg2 (by simp);have q0:=B2.cell 0;have q1:=B2.cell 1;have q2:=B2.cell 2;have q3:=B2.cell 3;have P2:PCV w2 (.agg #[.slice A0 n0 c0,.slice Av nv cv,.slice A1 n1 c1,.slice A2 n2 c2,.slice A3 n3 c3,.slice A4 n4 c4]) qa (values qa) c:=⟨_,_,_,_,_,_,_,_,_,_,_,_,_,_,_,_,_,_,rfl,m0.new hg2,r5.new hg2,m1.new hg2,m2.new hg2,m3.new hg2,m4.new hg2⟩;have hP:=Blk.new w2 72 #[.slice A0 n0 c0,.slice Av nv cv,.slice A1 n1 c1,.slice A2 n2 c2,.slice A3 n3 c3,.slice A4 n4 c4];have hgP:=World.grownBy_alloc w2 (.cells #[.slice A0 n0 c0,.slice Av nv cv,.slice A1 n1 c1,.slice A2 n2 c2,.slice A3 n3 c3,.slice A4 n4 c4] 72) none;have P3:=P2.new hgP;have g3:=qac (qac g1 hg2) hgP;clear m0 m1 m2 m3 m4 r5 B1 P2 hg2 g1;go_upto_region 5 with fail;generalize w2.alloc (.cells #[.slice A0 n0 c0,.slice Av nv cv,.slice A1 n1 c1,.slice A2 n2 c2,.slice A3 n3 c3,.slice A4 n4 c4] 72)=w3 at hP hgP P3 g3 |-;clear hgP B2 q0 q1 q2 q3;have s0:=hP.cell 0;have s1:=hP.cell 1;have s2:=hP.cell 2;have s3:=hP.cell 3;have s4:=hP.cell 4;have s5:=hP.cell 5;by_cases hc:lefts qa c.done=c.counts
       . have Hc:Hid (decide (lefts qa c.done=c.counts)=true):=decide_eq_true hc;have Hc2:=Lib.hid hc;clear hc;go_wp2_with fail;refine(qip _ qa (values qa) c w3 P3 Hv.out Ho.out Hc.out).mono ?_;rintro e w4 ⟨rfl,hg4⟩;have P4:=P3.new hg4;have hP4:=hP.grown hg4 (by simp);have g4:=qac g3 hg4;clear s0 s1 s2 s3 s4 s5 P3 hP hg4 g3;have s0:=hP4.cell 0;have s1:=hP4.cell 1;have s2:=hP4.cell 2;have s3:=hP4.cell 3;have s4:=hP4.cell 4;have s5:=hP4.cell 5;go_wp2_with fail;refine(qmr _ qa (values qa) c w4 P4 Hv.out hd4.2 qD.out).mono ?_;rintro e w5 ⟨b2,rfl,hb2,hg5⟩;have P5:=P4.new hg5;have hP5:=hP4.grown hg5 (by simp);have g5:=qac g4 hg5;have Hb2:=Lib.hid hb2;clear s0 s1 s2 s3 s4 s5 P4 hP4 hg5 g4 hb2;have s0:=hP5.cell 0;have s1:=hP5.cell 1;have s2:=hP5.cell 2;have s3:=hP5.cell 3;have s4:=hP5.cell 4;have s5:=hP5.cell 5;cases b2 with
         | false=>
           have hfin:=Lib.hid (fin w5 false g5 (qea (fun hk=>by have:=Hb2.out.2 (qd3.1 hk).2.2.2.2.1;cases this)));clear fin;go_wp2_with fail;go_ret;exact hfin.out
         | true=>
           go_wp2_with fail;refine(qp6 _ qa (values qa) c w5 P5 (qg8 qa)).mono ?_;rintro e w6 ⟨b3,rfl,hb3,hg6⟩;have Hb3:=Lib.hid hb3;have g6:=qac g5 hg6;clear hb3 hg6;cases b3 with
           | false=>
             have hfin:=Lib.hid (fin w6 false g6 (qea (fun hk=>by have:=Hb3.out.2 (qd3.1 hk).2.2.2.2.2;cases this)));clear fin;go_wp2_with fail;go_ret;exact hfin.out
           | true=>
             have hfin:=Lib.hid (fin w6 true g6 (qbk.2 (qd3.2 ⟨Hv.out,hd4,Ho.out,Hc2.out,Hb2.out.1 (by first | trivial | rfl),Hb3.out.1 (by first | trivial | rfl)⟩)));clear fin;go_wp2_with fail;go_ret;exact hfin.out
       . have Hc:Hid (decide (lefts qa c.done=c.counts)=false):=decide_eq_false hc;have hno:Hid (qaw qa c=false):=qea (fun hk=>hc (qd3.1 hk).2.2.2.1);clear hc;go_wp2_with fail;refine(qip _ qa (values qa) c w3 P3 Hv.out Ho.out Hc.out).mono ?_;rintro e w4 ⟨rfl,hg4⟩;have hfin:=Lib.hid (fin w4 false (qac g3 hg4) hno.out);clear fin;go_wp2_with fail;go_ret;exact hfin.out
     . have ho':qbu qa c.done=false:=by simpa using ho
       have Ho:=Lib.hid ho';have hno:Hid (qaw qa c=false):=qea (fun hk=>ho (qd3.1 hk).2.2.1);clear ho ho' hin;go_wp2_with fail;refine(qfk _ _ Hin.out).mono ?_;rintro e w2 ⟨rfl,rfl⟩;go_wp2_with fail;refine(qk9 _ _ qa c.done w1 m0 m3 Hv.out Ho.out).mono ?_;rintro e w2 ⟨rfl,hg2⟩;have hfin:=Lib.hid (fin w2 false (qac g1 hg2) hno.out);clear fin;go_wp2_with fail;go_ret;exact hfin.out
   . have Hin:Hid ((decide (1<=(n1:Int)) && decide ((n1:Int)<=4))=false):=by
       show _=_;rw [Bool.and_eq_false_iff,decide_eq_false_iff_not,decide_eq_false_iff_not];omega
     have hno:Hid (qaw qa c=false):=qea (fun hk=>hin (by have:=(qd3.1 hk).2.1;have:=Hn1.out;omega));clear hin;go_wp2_with fail;refine(qfk _ _ Hin.out).mono ?_;rintro e w2 ⟨rfl,rfl⟩;have hfin:=Lib.hid (fin w1 false g1 hno.out);clear fin;go_wp2_with fail;go_ret;exact hfin.out
 . have hv':qae qa=false:=by simpa using hv
   have hno:Hid (qaw qa c=false):=qea (fun hk=>hv (qd3.1 hk).1);have hfin:=Lib.hid (fin w1 false g1 hno.out);rw [hv'];clear fin hv hv' ho1;go_wp2_with fail;go_ret;exact hfin.out
theorem qbd(pv v:Value)(qa:List Node)(c:qj)(w:World)(hp:RN w pv qa)(h:CV w v c)(hfit:∀ d∈c.qb,d.length<=1048576){b:Bool}(hb:qaw qa c=b) :
   Calls Tryz.prog 16 #[pv,v] w fun e w'=>e=.returned (.bool b)/\w.grownBy w' none:=hb ▸ qmt pv v qa c w hp h hfit
theorem qb7(v:Value)(c:qj)(x:Int)(w:World)(h:CV w v c){b:Bool}(hb:qa9 c x=b) :
   Calls Tryz.prog 88 #[v,.int .i64 x] w fun e w'=>e=.returned (.bool b)/\w.grownBy w' none:=by
 subst hb;obtain⟨A1,n1,c1,A2,n2,c2,A3,n3,c3,A4,n4,c4,rfl,h1,h2,h3,h4⟩:=h.form;have Hn1:=Lib.hid h1.len;have hB:=h.box;have hg:=World.grownBy_alloc w (.cells #[.slice A1 n1 c1,.slice A2 n2 c2,.slice A3 n3 c3,.slice A4 n4 c4] 29) none;clear h1 h2 h3 h4 h;have fin:∀ w' b,w.grownBy w' none->qa9 c x=b->(Ending.returned (.bool b)=.returned (.bool (qa9 c x))/\w.grownBy w' none):=fun w' b hg hr=>⟨by rw [hr],hg⟩
 have hoff:¬ (0<=x/\x < n1)->qa9 c x=false:=fun hno=>by
   cases hw:qa9 c x with
   | false=>rfl
   | true=>exact absurd (by have:=qbh.1 hw;have:=Hn1.out;omega) hno
 by_cases h0:0<=x
 . by_cases hx:x < (n1:Int)
   . have Hr:Hid (qa9 c x=true):=qbh.2 ⟨h0,by have:=Hn1.out;omega⟩;clear hoff;go_enter Tryz.func88,Tryz.ntmps88;go_upto_region 1 with fail;generalize w.alloc (.cells #[.slice A1 n1 c1,.slice A2 n2 c2,.slice A3 n3 c3,.slice A4 n4 c4] 29)=W at hB hg |-;have d0:=hB.d0;have hfin:=Lib.hid (fin W true hg Hr.out);clear fin;go_wp2_with fail;go_ret;exact hfin.out
   . have Hr:Hid (qa9 c x=false):=hoff (fun e=>hx e.2);clear hoff;go_enter Tryz.func88,Tryz.ntmps88;go_upto_region 1 with fail;generalize w.alloc (.cells #[.slice A1 n1 c1,.slice A2 n2 c2,.slice A3 n3 c3,.slice A4 n4 c4] 29)=W at hB hg |-;have d0:=hB.d0;have hfin:=Lib.hid (fin W false hg Hr.out);clear fin;go_wp2_with fail;go_ret;exact hfin.out
 . have Hr:Hid (qa9 c x=false):=hoff (fun e=>h0 e.1);clear hoff;go_enter Tryz.func88,Tryz.ntmps88;go_upto_region 1 with fail;generalize w.alloc (.cells #[.slice A1 n1 c1,.slice A2 n2 c2,.slice A3 n3 c3,.slice A4 n4 c4] 29)=W at hB hg |-;have hfin:=Lib.hid (fin W false hg Hr.out);clear fin;go_wp2_with fail;go_ret;exact hfin.out
theorem jf.val{w:World}{base:Nat}{v:Value}{ll:List (List Int)}(h:jf w base v ll):∃ A n c,v=.slice A n c:=let ⟨_,h1,_⟩:=h;h1.rl.val
theorem LX.ltz{w:World}{base:Nat}{v:Value}{ll:List (List Int)}{xs:List Value}(h:LX w base v ll xs):∀ u∈xs,∀ g,u.ownBlock=some g->base<=g/\g < w.heap.size:=by
 intro u hu g hg;obtain⟨i,hi,rfl⟩:=List.getElem_of_mem hu;have hl:=h.len;obtain⟨u',k1,k2⟩:=h.2 i _ (List.getElem?_eq_getElem (by omega));rw [List.getElem?_eq_getElem hi] at k1;rw [Option.some.inj k1] at hg;exact k2.lt g hg
theorem yI.kx{w w':World}{b:Nat}{v:Value}{c:qj}{row:Option Nat}(h:yI w b v c)(hg:w.grownBy w' row)(hr:qg w 3 row)(hr':qg w 24 row):yI w' b v c:=by
 obtain⟨d,k,o,r,xs,ys,rfl,h1,h2,h3,h4,h5,h6⟩:=h;exact⟨d,k,o,r,xs,ys,rfl,h1.grown hg hr hr',h2.grown hg hr,h3.grown hg hr,h4.grown hg hr hr',h5,h6⟩
theorem q3p{w0 w1 w2 w3 w4:World}{b:Nat}{d k o r:Value}{c:qj}(h1:jf w1 w0.heap.size d c.qb)(g2:w1.grownBy w2 none)(h2:qf w2 w1.heap.size k c.counts)(g3:w2.grownBy w3 none)(h3:qf w3 w2.heap.size o c.done)(g4:w3.grownBy w4 none)(h4:jf w4 w3.heap.size r c.rows)(hb:b<=w0.heap.size)(g1:w0.grownBy w1 none) :
   yI w4 b (.agg #[d,k,o,r]) c:=by
 obtain⟨xs,x1,x2⟩:=h1;obtain⟨ys,y1,y2⟩:=h4;have s1:=g1.size;have s2:=g2.size;have s3:=g3.size;have s4:=g4.size;have l1:=x1.ltz;have l4:=y1.ltz;refine⟨d,k,o,r,xs,ys,rfl,(x1.new (qac (qac g2 g3) g4)).low hb,h2.ri.new (qac g3 g4),(h3.new g4).lower (by omega),y1.low (by omega),?_,fun g hd hr=>?_⟩
 . refine List.pairwise_cons.2 ⟨fun u hu g ho hg=>?_,Apart.join (s:=w3.heap.size) x2 y2 (fun u hu g hg=>by have:=l1 u hu g hg;omega) (fun u hu g hg=>(l4 u hu g hg).1)⟩;have h5:=h3.lt g ho;rcases List.mem_append.1 hu with hu | hu
   . have:=l1 u hu g hg;omega
   . have:=l4 u hu g hg;omega
 . have h5:=World.ownsRow.lt x1.1 g hd;have h6:=World.ownsRow.lt y1.1 g hr;omega
theorem qh4(v:Value)(c:qj)(w:World)(h:CV w v c)(hd:c.qb.length<=1000/\∀ l∈c.qb,l.length<=1000)(hr:c.rows.length<=1000/\∀ l∈c.rows,l.length<=1000)(hk:c.counts.length<=1000000000)(ho:c.done.length<=1000000000) :
   Calls Tryz.prog 137 #[v] w (qup w c):=by
 obtain⟨A1,n1,c1,A2,n2,c2,A3,n3,c3,A4,n4,c4,rfl,-,-,-,-⟩:=h.form;have B0:=j7.start h;go_enter Tryz.func137,Tryz.ntmps137;go_upto_region 1 with fail;generalize ((w.alloc (.cells #[.slice A1 n1 c1,.slice A2 n2 c2,.slice A3 n3 c3,.slice A4 n4 c4] 29)).alloc (.cells #[.slice none 0 0,.slice none 0 0,.slice none 0 0,.slice none 0 0] 29))=W at B0 |-;have BD:=B0.new (qax (qag W none));have z0:=B0.b.d0;have z1:=B0.b.d1;have z2:=B0.b.d2;have z3:=B0.b.d3;have hne:w.heap.size+1≠w.heap.size:=by omega
 go_region_held3 (fun w'=>w'.cell? ⟨w.heap.size,0,none⟩=some (.slice A1 n1 c1)/\w'.cell? ⟨w.heap.size,1,none⟩=some (.slice A2 n2 c2)/\w'.cell? ⟨w.heap.size,2,none⟩=some (.slice A3 n3 c3)/\w'.cell? ⟨w.heap.size,3,none⟩=some (.slice A4 n4 c4)) (go_keep) (first
   | (go_at_call 182;have hz:=o3;refine(qlv _ c.rows _ (by exact B3.b.ro) hr.1 hr.2).mono ?_;rintro e w4 ⟨v4,rfl,o4,g4⟩;have B4:=B3.new g4;obtain⟨E4,e4,b4,rfl⟩:=o4.val;have p0:=B4.b.d0;have p1:=B4.b.d1;have p2:=B4.b.d2;have p3:=B4.b.d3;have y0:=B4.res.cell 0;have f0:=B4.res.frozen 0;have y1:=B4.res.cell 1;have f1:=B4.res.frozen 1;have y2:=B4.res.cell 2;have f2:=B4.res.frozen 2;have y3:=B4.res.cell 3;have f3:=B4.res.frozen 3)
   | (go_at_call 57;have hz:=o2;refine(qgy _ c.done _ (by exact B2.b.dn) ho).mono ?_;rintro e w3 ⟨v3,rfl,o3,g3⟩;have B3:=B2.new g3;obtain⟨E3,e3,b3,rfl⟩:=o3.ri.val;have p0:=B3.b.d0;have p1:=B3.b.d1;have p2:=B3.b.d2;have p3:=B3.b.d3;have y0:=B3.res.cell 0;have f0:=B3.res.frozen 0;have y1:=B3.res.cell 1;have f1:=B3.res.frozen 1;have y2:=B3.res.cell 2;have f2:=B3.res.frozen 2;have y3:=B3.res.cell 3;have f3:=B3.res.frozen 3)
   | (go_at_call 57;refine(qgy _ c.counts _ (by exact B1.b.ct) hk).mono ?_;rintro e w2 ⟨v2,rfl,o2,g2⟩;have B2:=B1.new g2;obtain⟨E2,e2,b2,rfl⟩:=o2.ri.val;have p0:=B2.b.d0;have p1:=B2.b.d1;have p2:=B2.b.d2;have p3:=B2.b.d3;have y0:=B2.res.cell 0;have f0:=B2.res.frozen 0;have y1:=B2.res.cell 1;have f1:=B2.res.frozen 1;have y2:=B2.res.cell 2;have f2:=B2.res.frozen 2;have y3:=B2.res.cell 3;have f3:=B2.res.frozen 3)
   | (go_at_call 182;refine(qlv _ c.qb _ (by first | exact BD.b.dq | exact B0.b.dq) hd.1 hd.2).mono ?_;rintro e w1 ⟨v1,rfl,o1,g1⟩;have B1:=(by first | exact BD.new g1 | exact B0.new g1:j7 w w1 (.slice A1 n1 c1) (.slice A2 n2 c2) (.slice A3 n3 c3) (.slice A4 n4 c4) c);obtain⟨E1,e1,b1,rfl⟩:=o1.val;have p0:=B1.b.d0;have p1:=B1.b.d1;have p2:=B1.b.d2;have p3:=B1.b.d3;have y0:=B1.res.cell 0;have f0:=B1.res.frozen 0;have y1:=B1.res.cell 1;have f1:=B1.res.frozen 1;have y2:=B1.res.cell 2;have f2:=B1.res.frozen 2;have y3:=B1.res.cell 3;have f3:=B1.res.frozen 3))
 have gW:W.grownBy w1 none:=by first | exact g1 | exact qac (qax (qag W none)) g1
 have hs0:w.heap.size<=W.heap.size:=B0.g.size;have hO:=q3p (b:=w.heap.size) o1 g2 o2 g3 o3 g4 o4 hs0 g1;have hst:=qdz w4 (w.heap.size+1) (.slice E1 e1 b1) (.slice E2 e2 b2) (.slice E3 e3 b3) (.slice E4 e4 b4);have hI:qg w4 3 (some (w.heap.size+1)):=qg.blk B4.res (by decide);have hL:qg w4 24 (some (w.heap.size+1)):=qg.blk B4.res (by decide);have hO2:=hO.kx hst hI hL;have gF:=qa1 B4.g hst (fun g e=>by cases e;exact .inl (Nat.le_succ _));have hfin:Hid (qup w c _ _):=⟨_,rfl,hO2,gF⟩;clear hO hst hI hL hO2 gF gW o1 o2 o3 o4 g1 g2 g3 g4 B0 BD B1 B2 B3 B4;go_wp2_with fail;refine bodyPost_ret (v:=.agg #[.slice E1 e1 b1,.slice E2 e2 b2,.slice E3 e3 b3,.slice E4 e4 b4]) (by simp [results,Tryz.results137,go_sem,y0,y1,y2,y3]) rfl ?_;exact hfin.out
theorem qhp(v:Value)(l:List Int)(w:World)(h:RI w v l)(hl:l.length<=1000000000):Calls Tryz.prog 180 #[v] w fun e w'=>∃ u,e=.returned (.agg #[u])/\qf w' w.heap.size u l/\w.grownBy w' none:=by
 obtain⟨A,n,c,rfl⟩:=h.val;have hB:=Blk.new w 96 #[.slice none 0 0];have hg:=World.grownBy_alloc w (.cells #[.slice none 0 0] 96) none;have h1:=h.new hg;go_enter Tryz.func180,Tryz.ntmps180;go_upto_region 1 with fail;generalize w.alloc (.cells #[.slice none 0 0] 96)=W at hB hg h1 |-;go_wp2_with (at_builtin;go_must (refine qgx _ (.tmp 3) 24 Tryz.underlying24 rfl rfl h1 hl (Nat.le_refl _) rfl rfl ?_));intro v' w1 ho hg1;obtain⟨A',n',c',rfl⟩:=ho.ri.val;have B1:=hB.grown hg1 (by simp);have y0:=B1.cell 0;have f0:=B1.frozen 0;have hst:w1.grownBy (w1.setCell ⟨w.heap.size,0,none⟩ (.slice A' n' c')) (some w.heap.size):=qa2 (qag _ _) (.inr rfl) _;have ho2:=(ho.grown hst (qg.blk B1 (by decide))).lower hg.size;have g2:=qa1 (qac hg hg1) hst (fun g e=>by cases e;exact .inl (Nat.le_refl _));clear ho hg1 B1 hB hst;go_wp2_with fail;refine bodyPost_ret (v:=.agg #[.slice A' n' c']) (by simp [results,Tryz.results180,go_sem,y0]) rfl ?_;exact⟨_,rfl,ho2,g2⟩
theorem q7q(tb g o n c:Nat)(x:Int)(l:List Int)(w:World)(hB:Blk w tb 96 #[.slice (some ⟨g,o,none⟩) (n+1) c])(hr:RI w (.slice (some ⟨g,o,none⟩) (n+1) c) l)(hn:n<=10)(hx:l[n]?=some x) :
   Calls Tryz.prog 181 #[.pointer (some ⟨tb,0,none⟩)] w fun e w'=>e=.returned (.int .i64 x)/\w'=w.setCell ⟨tb,0,none⟩ (.slice (some ⟨g,o,none⟩) n c):=by
 obtain⟨g',o',x',e,hx',c0⟩:=hr.at_ (k:=n) (by omega);injection e with e;injection e with e1 e2;subst e1 e2;rw [hx] at hx';injection hx' with hx';subst hx';obtain⟨A,n',c',e,hnc,-⟩:=hr.form';injection e with e1 e2 e3;subst e2 e3;clear e1 hx hr;have d0:=hB.cell 0;have f0:=hB.frozen 0;have hw:IntKind.i64.wrap (((n+1:Nat):Int) - 1)=(n:Int):=by rw [IntWalk.i64_in _ (by omega)];omega
 have hb1:(n:Int) < ((n+1:Nat):Int):=by omega
 have hb2:(n:Int)<=(c:Int):=by omega
 go_enter Tryz.func181,Tryz.ntmps181;go_wp2_with fail;go_ret;exact⟨rfl,rfl⟩
theorem q3q(tb g o n c:Nat)(x:Int)(l:List Int)(w:World)(hB:Blk w tb 96 #[.slice (some ⟨g,o,none⟩) (n+1) c])(hr:RI w (.slice (some ⟨g,o,none⟩) (n+1) c) l)(hn:n<=10)(hx:l[0]?=some x) :
   Calls Tryz.prog 184 #[.pointer (some ⟨tb,0,none⟩)] w fun e w'=>e=.returned (.int .i64 x)/\w'=w.setCell ⟨tb,0,none⟩ (.slice (if c=1 then some ⟨g,o,none⟩ else some ⟨g,o+1,none⟩) n (c - 1)):=by
 obtain⟨g',o',x',e,hx',c0⟩:=hr.at_ (k:=0) (by omega);injection e with e;injection e with e1 e2;subst e1 e2;rw [hx] at hx';injection hx' with hx';subst hx';obtain⟨A,n',c',e,hnc,-⟩:=hr.form';injection e with e1 e2 e3;subst e2 e3;clear e1 hx hr;have c1:w.cell? ⟨g,o,none⟩=some (.int .i64 x):=c0;clear c0;have d0:=hB.cell 0;have f0:=hB.frozen 0;have hb1:(0:Int) < ((n+1:Nat):Int):=by omega
 have hb2:(1:Int)<=((n+1:Nat):Int):=by omega
 have hb3:((n+1:Nat):Int)<=(c:Int):=by omega
 by_cases h1:c=1
 . subst h1;obtain rfl:n=0:=by omega
   go_enter Tryz.func184,Tryz.ntmps184;go_wp2_with fail;go_ret;exact⟨rfl,rfl⟩
 . rw [if_neg h1];go_enter Tryz.func184,Tryz.ntmps184;go_wp2_with fail;go_ret;exact⟨rfl,rfl⟩
theorem q52(tb base:Nat)(x:Int)(u:Value)(l:List Int)(w0 w:World)(hB:Blk w tb 96 #[u])(ho:qf w base u l)(hl:l.length<=1000000)(hg:w0.grownBy w none)(hb:w0.heap.size<=base)(hbw:base<=w.heap.size)(ht:w0.heap.size<=tb) :
   Calls Tryz.prog 67 #[.pointer (some ⟨tb,0,none⟩),.int .i64 x] w fun e w'=>e=.returned (.tuple #[])/\∃ u',Blk w' tb 96 #[u']/\qf w' base u' (l++[x])/\w0.grownBy w' none:=by
 obtain⟨A,n,c,rfl⟩:=ho.ri.val;have d0:=hB.cell 0;have f0:=hB.frozen 0;go_enter Tryz.func67,Tryz.ntmps67;go_wp2_with (at_builtin;go_must (refine qd9 (.tmp 8) (.tmp 10) rfl rfl ho (by omega) hbw rfl rfl rfl ?_));intro v2 w2 ho2 hg2;have B2:Blk w2 tb 96 #[.slice A n c]:=hB.past hg2 (ho.qV (by decide));have g2:=qa1 hg hg2 (fun g e=>.inl (Nat.le_trans hb (ho.lt g e).1));obtain⟨A2,n2,c2,rfl⟩:=ho2.ri.val;have e0:=B2.cell 0;have e1:=B2.frozen 0;have hst:w2.grownBy (w2.setCell ⟨tb,0,none⟩ (.slice A2 n2 c2)) (some tb):=qa2 (qag _ _) (.inr rfl) _;have B3:Blk (w2.setCell ⟨tb,0,none⟩ (.slice A2 n2 c2)) tb 96 #[.slice A2 n2 c2]:=B2.qC 0 _;have ho3:=ho2.grown hst (qg.blk B2 (by decide));have g3:=qa1 g2 hst (fun g e=>by cases e;exact .inl ht);clear hB ho hg hg2 B2 g2 ho2 hst d0 f0;go_wp2_with fail
 first | exact jU (results_none rfl _ _ _) rfl ⟨rfl,_,B3,ho3,g3⟩ | exact bodyPost_end (results_none rfl _ _ _) rfl ⟨rfl,_,B3,ho3,g3⟩ | (go_ret;exact⟨rfl,_,B3,ho3,g3⟩)
end
end Go.Proofs.YtacemdoejblgaaaGreatDoor

/- Part M09. Conditions: each statement's. -/
import Derived.Test.YtacemdoejblgaaaGreatDoorT08
import Derived.Laws.CopyOwn
namespace Go.Proofs.YtacemdoejblgaaaGreatDoor
open Go renaming World→Ab,Value→Ah,info_parts→Ai,Calls→Aj,Ending→Am,wpList_make_full→Ap,TypeId→As
open World renaming size_alloc→At,grownBy_alloc→Ax,ownsRow_nil→Ay
open List renaming getElem?_eq_some_iff→Az,length_map→AA,eq_nil_of_length_eq_zero→AB,getElem?_set_self→AD,getElem?_map→AE,take_succ_eq_append_getElem→AF,length_take→AG,getElem?_eq_getElem→AH,take_of_length_le→AI,getElem?_eq_none→AJ,mem_of_getElem?→AK,getElem?_set_ne→AL
open Nat renaming le_refl→AM,le_trans→AN,zero_le→AO,zero_add→AP,mul_one→AQ,sub_self→AR
open List Tryz World Value
set_option maxRecDepth 100000
set_option maxHeartbeats 6400000
variable {ops:Array Oper}{ll:List (List Int)}{cs l:List Int}{qa:List Node}{rest:List Oper}{GB M PB RB RO RW c g hi k lo n tb:Nat}{f:Nat->Int}{o:Oper}{A:Option Addr}{E:As}{V u v:Ah}{a b w w':Ab}
section
open Go.RowKit
theorem TT.ts(h:TT w tb f n)(hn:n<=10):TS w 184 1 (.slice (some ⟨tb,0,none⟩) n 10) n (((range n).map f).map (.int .i64)):=by
 refine⟨by simp,some ⟨tb,0,none⟩,10,rfl,hn,by unfold maxLen;omega,λe=>(by cases e),.inr ⟨tb,0,qlz f n,rfl,h,λj u hj=>?_⟩⟩;have hjl:=(Az.1 hj).1;rw[AA,AA,length_range]at hjl;rw[AE,AE,getElem?_range hjl]at hj;rw[AP,qto f n (by omega)];exact hj
theorem q2w{a:Act}{Q:Exit->Act->Ab->Prop}
   (s x:Operand) (t:As) (ht:Tryz.prog.underlying t=some (.slice 3)) (hgd:o.guard=none) (ho:o.op=.call {callee:=.builtin .append,args:=#[s,x],argTypes:=#[t,t]})
   {base:Nat} {xv:Ah}  (hxv:TS w E 1 xv l.length (l.map (.int .i64))) (hn:l.length<=1000000000) (hbase:base<=w.heap.size)
   (hs:a.eval s=.slice none 0 0) (hx:a.eval x=xv)
   (h:∀v' w',qf w' base v' l->w.grownBy w' none->wpList prog ops Q rest (a.put o.dst v') w') :
   wpList prog ops Q (o::rest) a w:=by
 obtain⟨i,hi,hz0,hz1,hz2⟩:=Ai qiq;obtain⟨A,c,e,hc,hcm,hcn⟩:=TS.form hxv;subst e
 match A,hcn with
 |none,hcn=>
  obtain rfl:=hcn rfl;have hl0:l=[]:=AB (by omega);subst hl0;refine wpList_append_own_none hgd s x t ho base 3 i 1 ht hi (.slice none 0 0) 0 [] hs (Ay _ _ _ _) hx ?_;exact h _ _ (qf.nil _ _) (qag _ _)
 |some ad,hcn=>
  refine wpList_append_own _ hgd s x t ho base 3 i _ 1 8 ht hi hz0 hz1 hz2 rfl (by decide) (.slice none 0 0) 0 [] hs (Ay _ _ _ _) ad l.length c (l.map (.int .i64)) hx (by rw[AA,AQ]) ?_ (qgy l) ?_ ?_ hbase ?_
  . intro j u hj;have hjl:=(Az.1 hj).1;rw[AA]at hjl;obtain⟨g,o',cur,e,_,hcell⟩:=TS.at_ hxv (by omega);have e2:ad=⟨g,o',none⟩:=Option.some.inj e;rw[e2,Addr.add_lit];exact hcell j u hj
  . unfold maxLen;omega
  . omega
  . intro v' w' h1 h2 _;refine h v' w' ?_ h2;unfold qf;simpa using h1
theorem qzc(f:Nat->Int)(n:Nat)(hl:cs.length<=10):((qlz f n).toList.take 0++(cs.map (int .i64)++(qlz f n).toList.drop (0+(cs.map (int .i64)).length))).toArray=qlz (qj0 f cs) n:=by
 rcases cs with _|⟨a0,_|⟨a1,_|⟨a2,_|⟨a3,_|⟨a4,_|⟨a5,_|⟨a6,_|⟨a7,_|⟨a8,_|⟨a9,_|⟨a10,r⟩⟩⟩⟩⟩⟩⟩⟩⟩⟩⟩
 all_goals first|rfl|(simp only[length_cons]at hl;omega)
theorem qzd{a:Act}{Q:Exit->Act->Ab->Prop}(d s:Operand)(hgd:o.guard=none)(ho:o.op=.call {callee:=.builtin .copy,args:=#[d,s],argTypes:=#[24,24]})
   {m:Nat}    (hT:TT w tb f n) (hc:RI w (.slice A m c) cs) (hl:cs.length<=10) (hd:a.eval d=.slice (some ⟨tb,0,none⟩) 10 10) (hs:a.eval s=.slice A m c)
   (h:∀z w',TT w' tb (qj0 f cs) n->w.grownBy w' (some tb)->wpList prog ops Q rest (a.put o.dst z) w') :
   wpList prog ops Q (o::rest) a w:=by
 obtain⟨i,hi,hz0,hz1,hz2⟩:=Ai qiq;have hsz:(Tryz.prog.info? 3).map (·.size)=some 1:=by rw[hi];exact congrArg some (by assumption)
 have hm:=hc.len;by_cases h0:m=0
 . subst h0;have e:cs=[]:=AB hm.symm;subst e;refine wpList_copy_nothing hgd d s _ _ ho 3 underlying24 hsz _ _ 10 10 0 c hd hs (by simp) ?_;refine h _ w ?_ (qag _ _);have e2:qj0 f []=f:=by funext i;rfl
   rw[e2];exact hT
 . obtain⟨gu,ou,x,rfl,-,-⟩:=hc.at_ (k:=0) (by omega);refine wpList_copy_own hgd d s _ _ ho 3 underlying24 hsz tb 0 10 10 ⟨gu,ou,none⟩ m c hd hs (qlz f n) 184 hT (cs.map (.int .i64)) ?_ ?_ ?_ (qgy cs) ?_
   . rw[AA,<-hm];exact(Nat.min_eq_left (by omega)).symm
   . intro j u hj;have hjl:=(Az.1 hj).1;rw[AA]at hjl;obtain⟨g',o',x',e,hx',hcell⟩:=hc.at_ (k:=j) (by omega);injection e with e;injection e with e1 e2;subst e1 e2;rw[AE,hx']at hj;rw[Addr.add_lit,hcell];exact hj
   . rw[AA];show 0+cs.length<=11;omega
   . rw[qzc f n hl];refine h _ _ ?_ ?_
     . exact setRow_heap w tb _ _ 184 _ hT
     . exact⟨rfl,rfl,rfl,by simp[setRow],λk hk hr=>setRow_other w tb k _ (λe=>hr (by rw[e]))⟩
theorem qze(l:List Int)(E:As)(v:Ah)(w:Ab)(h:TS w E 1 v l.length (l.map (.int .i64)))(hl:l.length<=1000000000):Aj prog 57 #[v] w (qer w l):=by
 obtain⟨A,c,rfl,-⟩:=h.form;go_enter func57,ntmps57;go_wp2_with (at_builtin;go_must (refine q2w _ (.tmp 3) 24 underlying24 rfl rfl h hl (AM _) rfl rfl ?_));intro v' w1 ho hg;obtain⟨A',n',c',rfl⟩:=ho.ri.val;go_wp2;go_ret;exact⟨_,rfl,ho,hg⟩
theorem qqs(tb n:Nat)(f:Nat->Int)(w:Ab)(h:TT w tb f n)(hn:n<=10):Aj prog 100 #[.pointer (some ⟨tb,0,none⟩)] w (qer w ((range n).map f)):=by
 have hsz:=h.size;have qlO:(n:Int)<=10:=by omega
 have hb0:(0:Int)<=n:=by omega
 go_enter func100,ntmps100;go_wp2_with fail
 go_region_law (go_simp;go_at_call 57;refine(qze ((range n).map f) 184 _ _ (by simpa using(h.new (qay (qag w none))).ts hn) (by simp;omega)).mono ?_;rintro e w2 ⟨v2,rfl,ho,hg⟩;obtain⟨A2,n2,c2,rfl⟩:=ho.ri.val)
 all_goals
  go_wp2;go_ret;exact⟨_,rfl,ho,qac (qay (qag w none)) hg⟩
def qhL(w:Ab)(l:List Int)(e:Am)(w':Ab):Prop:=∃v,e=.returned v/\qf w' w.heap.size v l/\w.grownBy w' none
theorem qtt(v rv:Ah)(x:Node)(rows:List (List Int))(w:Ab)(h:NV w v x)(hr:RL w rv rows)(hf:x.frm.length<=2)(hin:x.kind≠0->∀y∈x.frm,0<=y/\y<rows.length)(_hrl:rows.length<=1000)(hxr:x.row.length<=1000) :
   Aj prog 165 #[v,rv] w (qhL w (q9 x rows)):=by
 obtain⟨f,r,rfl,hff,hrr⟩:=h;obtain⟨Af,nf,cf,rfl,_,hnf⟩:=hff.form';obtain⟨Ar,nr,cr,rfl⟩:=hrr.val;obtain⟨A,n,c,rfl,hnc,hn,hn9⟩:=hr.form';have hB:=Blk.new w 81 #[.int .i64 x.kind,.slice Af nf cf,.slice Ar nr cr];have hga:=Ax w (.cells #[.int .i64 x.kind,.slice Af nf cf,.slice Ar nr cr] 81) none;rw[<-hnf]at hf;have Hnf:=Lib.hid hnf;have Hn:=Lib.hid hn;have Hin:=Lib.hid hin;clear hnf hn hin hn9;by_cases hk:x.kind=0
 . have hT:Hid (q9 x rows=x.row):=by show _=_;unfold q9;rw[if_pos hk]
   have hb:(x.kind==0)=true:=by simpa using hk
   clear hk;go_enter func165,ntmps165;go_upto_region 1 with fail;generalize w.alloc (.cells #[.int .i64 x.kind,.slice Af nf cf,.slice Ar nr cr] 81)=wa at hB hga |-;have c0:wa.cell? ⟨w.heap.size,0,none⟩=some (.int .i64 x.kind):=hB.cell 0;have c2:=((hB.alloc (.cells #[] 3)).cell 2);have hq:qf (wa.alloc (.cells #[] 3)) wa.heap.size (.slice (some ⟨wa.heap.size,0,none⟩) 0 0) []:=qf.empty wa (AM _);have hr4:=(hrr.new hga).alloc (.cells #[] 3);have hb4:wa.heap.size<=(wa.alloc (.cells #[] 3)).heap.size:=by rw[At];omega
   have hg4:w.grownBy (wa.alloc (.cells #[] 3)) none:=qaq hga _;have hs:=hga.size;go_wp2_with (at_builtin;go_must (refine qkd (.tmp 12) (.tmp 14) 24 underlying24 rfl rfl hq hr4 (by simp;omega) hb4 rfl rfl ?_));intro v5 w5 hq5 hg5;obtain⟨A5,n5,c5,rfl⟩:=hq5.ri.val;have qhM:w.grownBy w5 none:=qa2 hg4 hg5 (λg e=>by cases e;exact .inl hs);go_wp2;go_ret;exact⟨_,rfl,by rw[hT.out];simpa using hq5.lower hs,qhM⟩
 . have hT:Hid (q9 x rows=(qdx x.kind (x.frm.map λi=>rows.getD i.toNat [])).getD []):=by show _=_;unfold q9;rw[if_neg hk]
   have hb:(x.kind==0)=false:=by simpa using hk
   have yG:=Lib.hid (Hin.out hk);clear hk;go_enter func165,ntmps165;go_upto_region 1 with fail;generalize w.alloc (.cells #[.int .i64 x.kind,.slice Af nf cf,.slice Ar nr cr] 81)=wa at hB hga |-;have hown0:qL (wa.alloc (.cells #[] 24)) wa.heap.size (.slice (some ⟨wa.heap.size,0,none⟩) 0 0) []:=qL.empty wa (AM _);have hs:=hga.size;have c0:wa.cell? ⟨w.heap.size,0,none⟩=some (.int .i64 x.kind):=hB.cell 0;go_wp2_with fail;clear c0
   go_loopg [5,6] (nf+1) (λmm out i wr=>∃k:Nat,k<=nf/\mm=nf+1-k/\i=.int .i64 k/\qL wr wa.heap.size out ((x.frm.map λi=>rows.getD i.toNat []).take k)/\wa.grownBy wr none)
   case atStart=>exact⟨0,AO _,rfl,rfl,hown0,qaq (qag wa none) _⟩
   case round=>
    clear hown0;obtain⟨k,hk,rfl,rfl,hown,hg⟩:=hrel;have c0:wr.cell? ⟨w.heap.size,0,none⟩=some (.int .i64 x.kind):=(hB.grown hg (by simp)).cell 0;have c1:wr.cell? ⟨w.heap.size,1,none⟩=some (.slice Af nf cf):=(hB.grown hg (by simp)).cell 1;by_cases hlt:k<nf
    . obtain⟨g,o,y,rfl,hy,hcell⟩:=((hff.new hga).new hg).at_ hlt;obtain⟨hy0,hy1⟩:=yG.out y (AK hy);obtain⟨j,rfl⟩:=Int.eq_ofNat_of_zero_le hy0;have hj:j<n:=by have:=Hn.out;omega
      obtain⟨g2,o2,l,B,m,e2,rfl,hl,hcl,kE,-,-,-⟩:=((hr.new hga).new hg).at_ hj
      have Hy:Hid ((x.frm.map λi=>rows.getD i.toNat []).take (k+1)=(x.frm.map λi=>rows.getD i.toNat []).take k++[l]):=by
       show _=_;obtain⟨hy2,hy3⟩:=Az.1 hy;rw[AF (by rw[AA];exact hy2),getElem_map,hy3]
       have:rows.getD ((j:Nat):Int).toNat []=l:=by
        rw[getD_eq_getElem?_getD];show rows[j]?.getD []=l;rw[hl];rfl
       rw[this]
      have hll:((x.frm.map λi=>rows.getD i.toNat []).take k).length<=1000000000:=by rw[AG];omega
      have hjn:(j:Int)<(n:Int):=by omega
      have qeB:=hg.size;clear hy hl hy1;go_wp2_with (at_builtin;go_must (refine qiy (.tmp 24) (.tmp 33) rfl rfl hown kE hll qeB rfl rfl ?_));intro v2 w2 j4 hg2;have hg3:=hown.gb hg hg2 (AM _);go_wp2;go_roundg (nf+1-(k+1))
      case measure=>omega
      case rel=>exact⟨k+1,by omega,rfl,by go_num,by rw[Hy.out];exact j4,hg3⟩
    . obtain rfl:k=nf:=by omega
      rw[AI (by rw[AA,<-Hnf.out];exact AM _)]at hown;obtain⟨A2,n2,c2,rfl⟩:=hown.rl.val;go_wp2_with fail;refine(qrg x.kind _ _ wr hown.rl).mono ?_;rintro e w3 ⟨v3,rfl,ho3,hg3⟩;obtain⟨A3,n3,c3,rfl⟩:=ho3.ri.val;go_wp2;go_ret;exact⟨_,rfl,by rw[hT.out];exact ho3.lower (qac hga hg).size,qac (qac hga hg) hg3⟩
def qhN(w:Ab)(ll:List (List Int))(e:Am)(w':Ab):Prop:=∃v,e=.returned v/\qL w' w.heap.size v ll/\w.grownBy w' none
theorem qxr(v:Ah)(qa:List Node)(w:Ab)(h:RN w v qa)(hv:qae qa=true):Aj prog 162 #[v] w (qhN w (values qa)):=by
 obtain⟨A,n,c,rfl,hnc,hn,hn9⟩:=h.form';have jF:=qam hv;have zF:n<=10:=by omega
 have Hv:=Lib.hid hv;have Hn:=Lib.hid hn;have h0:qL (w.alloc (.cells #[] 24)) w.heap.size (.slice (some ⟨w.heap.size,0,none⟩) 0 0) []:=qL.empty w (AM _);clear hv hn hn9 jF;go_enter func162,ntmps162;go_wp2_with fail
 go_loopg [3,4] (n+1) (λmm out i wr=>∃k:Nat,k<=n/\mm=n+1-k/\i=.int .i64 k/\qL wr w.heap.size out (qbo qa k)/\w.grownBy wr none)
 case atStart=>exact⟨0,AO _,rfl,rfl,h0,qaq (qag w none) _⟩
 case round=>
  clear h0;obtain⟨k,hk,rfl,rfl,hown,hg⟩:=hrel;by_cases hlt:k<n
  . obtain⟨g,o,nd,f,r,rfl,hx,c0,c1,c2,hf,hr⟩:=(h.new hg).at_ hlt;obtain⟨A2,n2,c2',rfl⟩:=hown.rl.val;obtain⟨hfit,hf2,-,-⟩:=qbf Hv.out hx;have Hx:=Lib.hid hx;have Hs:Hid (qbo qa (k+1)=qbo qa k++[q9 nd (qbo qa k)]):=qhs hx
    have kg:Hid (nd.kind≠0->∀y∈nd.frm,0<=y/\y<(qbo qa k).length):=λ_ y hy=>by
     rw[qc8];exact qc9 hfit hy
    have hrow:nd.row.length<=1000:=by
     by_cases hk0:nd.kind=0
     . have:=qbv ((qiu hfit).2.2.2 hk0);omega
     . have e:nd.row=[]:=by
        unfold qbe at hfit;simp only[Bool.and_eq_true]at hfit;have h4:=hfit.2;rw[if_neg hk0]at h4;exact AB (by simpa using h4)
       rw[e];simp
    have hvl:(qbo qa k).length<=1000:=by rw[qc8];omega
    have qhO:(qbo qa k).length<=1000000000:=by omega
    have qeB:=hg.size;clear hx hfit;go_wp2_with fail;refine(qtt _ _ nd (qbo qa k) wr ⟨f,r,rfl,hf,hr⟩ hown.rl hf2 kg.out hvl hrow).mono ?_;rintro e w2 ⟨v2,rfl,qhP,hg2⟩;have hv2:=qhP.ri;have j4:=hown.new hg2;have hg3:=qac hg hg2;have qhQ:=hg3.size;obtain⟨A3,n3,c3,rfl⟩:=hv2.val;have hvr:=hv2;clear hown hg hg2;go_wp2_with (at_builtin;go_must (refine qiy (.tmp 12) (.tmp 19) rfl rfl j4 hvr qhO qhQ rfl rfl ?_));intro v4 w4 qv hg4;have hg5:=j4.gb hg3 hg4 (AM _);go_wp2;go_roundg (n+1-(k+1))
    case measure=>omega
    case rel=>exact⟨k+1,by omega,rfl,by go_num,by rw[Hs.out];exact qv,hg5⟩
  . obtain rfl:k=n:=by omega
    have e:qbo qa k=values qa:=by unfold values;rw[Hn.out]
    rw[e]at hown;obtain⟨A2,n2,c2,rfl⟩:=hown.rl.val;go_wp2;go_ret;exact⟨_,rfl,hown,hg⟩
theorem TS.blk{size:Nat}{xs:List Ah}(h:TS w E size v n xs)(k:∀g cs,Blk w g E cs->Blk w' g E cs):TS w' E size v n xs:=by
 obtain⟨h0,A,c,h1,h2,h3,h4,h5⟩:=h;refine⟨h0,A,c,h1,h2,h3,h4,?_⟩;rcases h5 with h5|⟨g,o,cur,hA,hb,hc⟩
 . exact .inl h5
 . exact .inr ⟨g,o,cur,hA,k g cur hb,hc⟩
def qM(w:Ab)(base:Nat)(v:Ah)(ll:List (List Int)):Prop:=∃xs,LX w base v ll xs
theorem qM.qeC{base:Nat}(h:qM w base v ll):qL w base v ll:=let ⟨xs,h1⟩:=h;⟨xs,h1.1,λi l hi=>let ⟨u,k1,k2⟩:=h1.2 i l hi;⟨u,k1,k2.ri⟩⟩
theorem qM.rl{base:Nat}(h:qM w base v ll):RL w v ll:=let ⟨_,h1⟩:=h;h1.rl
theorem qM.new{base:Nat}(h:qM w base v ll)(hg:w.grownBy w' none):qM w' base v ll:=let ⟨xs,h1⟩:=h;⟨xs,h1.new hg⟩
theorem qM.grown{base:Nat}{row:Option Nat}(h:qM w base v ll)(hg:w.grownBy w' row)(hr:qg w 3 row)(hr':qg w 24 row):qM w' base v ll:=let ⟨xs,h1⟩:=h;⟨xs,h1.grown hg hr hr'⟩
theorem qM.low{a b:Nat}(h:qM w a v ll)(hab:b<=a):qM w b v ll:=let ⟨xs,h1⟩:=h;⟨xs,h1.low hab⟩
theorem qM.nil(w:Ab)(base:Nat):qM w base (.slice none 0 0) []:=⟨[],LX.nil _ _⟩
theorem qM.made{base:Nat}(h:w.ownsRow base 24 1 v n (madeCells (slice none 0 0).cells n).toList):qM w base v (replicate n []):=let ⟨xs,h1,_⟩:=jf.made h;⟨xs,h1⟩
theorem qM.qC{base cap:Nat}{f:Ah}(h:qM w base (.slice (some ⟨g,0,none⟩) n cap) ll)(hk:k<ll.length)(hf:qf w base f l) :
   qM (w.setCell ⟨g,k,none⟩ f) base (.slice (some ⟨g,0,none⟩) n cap) (ll.set k l):=let ⟨_,h1⟩:=h;⟨_,h1.qC hk hf⟩
theorem qM.at_{base:Nat}(h:qM w base (.slice A n c) ll)(hk:k<n):∃g l u,A=some ⟨g,0,none⟩/\ll[k]?=some l/\w.cell? ⟨g,k,none⟩=some u/\qf w base u l:=by
 obtain⟨xs,h1,h2⟩:=h;rcases h1.2 with ⟨e,hz⟩|⟨g,cap,cur,e,hb,hh,hn,hm,hcs,ht⟩
 . injection e with e1 e2 e3;omega
 . injection e with e1 e2 e3;have hkl:k<ll.length:=by omega
   obtain⟨u,k1,k2⟩:=h2 k _ (AH hkl);refine⟨g,_,u,e1,AH hkl,?_,k2⟩;have hB:Blk w g 24 cur:=hh;rw[hB.cell];rw[<-ht,getElem?_take]at k1;split at k1
   . simpa using k1
   . cases k1
structure VFr(lo hi:Nat)(w w':Ab):Prop where
 z:Zn lo hi w w'
 o:∀g t cs,t≠78->t≠24->Blk w g t cs->Blk w' g t cs
theorem VFr.refl(lo hi:Nat)(w:Ab):VFr lo hi w w:=⟨Zn.refl _ _ _,λ_ _ _ _ _ h=>h⟩
theorem VFr.trans{c:Ab}(h:VFr lo hi a b)(k:VFr lo hi b c):VFr lo hi a c:=⟨h.z.trans k.z,λg t cs h1 h2 hb=>k.o g t cs h1 h2 (h.o g t cs h1 h2 hb)⟩
theorem VFr.zu(h:a.grownBy b none):VFr lo hi a b:=⟨Zn.zr h (λg e=>by cases e),λg t cs _ _ hb=>hb.grown h (by simp)⟩
theorem VFr.vR{t:As}{cs:Array Ah}(h:a.grownBy b (some g))(hg:lo<=g/\g<hi)(hb:Blk a g t cs)(ht:t=78∨t=24):VFr lo hi a b:=
 ⟨Zn.zr h (λg' e=>by cases e;exact hg),λg' t' cs' h1 h2 hb'=>hb'.grown h (λe=>by
  injection e with e;subst e;have:=hb.symm.trans hb';injection this with this;injection this with _ this;rcases ht with rfl|rfl
  . exact h1 this.symm
  . exact h2 this.symm)⟩
theorem VFr.own{c:Ab}(h:VFr lo hi a b)(k:b.grownBy c (some g))(hg:a.heap.size<=g):VFr lo hi a c:=
 ⟨⟨k.os.trans h.z.os,k.tape.trans h.z.tape,k.output.trans h.z.output,AN h.z.size k.size,λi hi hr=>(k.block i (Nat.lt_of_lt_of_le hi h.z.size) (λe=>by injection e with e;omega)).trans (h.z.block i hi hr)⟩,
  λg' t cs h1 h2 hb=>(h.o g' t cs h1 h2 hb).grown k (λe=>by injection e with e;have:=hb.lt;omega)⟩
theorem RI.fr(h:RI w v l)(k:VFr lo hi w w'):RI w' v l:=TS.blk h (λg cs=>k.o g _ cs (by decide) (by decide))
theorem RN.fr(h:RN w v qa)(k:VFr lo hi w w'):RN w' v qa:=by
 obtain⟨xs,h1,h2⟩:=h;refine⟨xs,h1.blk (λg cs=>k.o g _ cs (by decide) (by decide)),λi nd hi=>?_⟩;obtain⟨f,r,k1,k2,k3,k4,k5⟩:=h2 i nd hi;exact⟨f,r,k1,k2,k3,k4.fr k,k5.fr k⟩
theorem qf.fr{base:Nat}(h:qf w base v l)(k:VFr lo hi w w'):qf w' base v l:=by
 refine⟨h.1,?_⟩;rcases h.2 with h0|⟨g,cap,cur,e,h2,h3,h4⟩
 . exact .inl h0
 . exact .inr ⟨g,cap,cur,e,h2,k.o g _ cur (by decide) (by decide) h3,h4⟩
theorem qL.fr{base:Nat}(h:qL w base v ll)(k:VFr lo hi w w')(hb:hi<=base):qL w' base v ll:=by
 obtain⟨xs,h1,h2⟩:=h;exact⟨xs,q7m h1 k.z hb,λi l hi=>let ⟨u,k1,k2⟩:=h2 i l hi;⟨u,k1,k2.fr k⟩⟩
structure VSt(qa:List Node)(V:Ah)(lo hi M RB RW PB GB RO n:Nat)(w:Ab)(rows:List (List Int)):Prop where
 mm:∃cs,Blk w M 78 cs/\cs.size=10/\∀i:Nat,i<10->∃b,cs[i]?=some (.bool b)/\(b=true->rows[i]?=some (qcs qa i))
 rb:Blk w RB 27 #[.slice (some ⟨RW,0,none⟩) n n]
 rw:qM w lo (.slice (some ⟨RW,0,none⟩) n n) rows
 rl:rows.length=n
 pl:qa.length=n
 pb:Blk w PB 23 #[V]
 gb:Blk w GB 79 #[.func (.func 59) #[] #[.pointer (some ⟨RO,0,none⟩)]]
 ro:Blk w RO 84 #[.func (.func 56) #[] #[.pointer (some ⟨M,0,none⟩),.pointer (some ⟨RB,0,none⟩),.pointer (some ⟨PB,0,none⟩),.pointer (some ⟨GB,0,none⟩)]]
 rn:RN w V qa
 hm:lo<=M/\M<hi
 hr:lo<=RW/\RW<hi
 hh:hi<=w.heap.size
section
variable {qa:List Node}{V:Ah}{lo hi M RB RW PB GB RO n:Nat}{w w':Ab}{rows:List (List Int)}
theorem VSt.new(h:VSt qa V lo hi M RB RW PB GB RO n w rows)(hg:w.grownBy w' none):VSt qa V lo hi M RB RW PB GB RO n w' rows:=by
 obtain⟨cs,m1,m2,m3⟩:=h.mm;exact⟨⟨cs,m1.grown hg (by simp),m2,m3⟩,h.rb.grown hg (by simp),h.rw.new hg,h.rl,h.pl,h.pb.grown hg (by simp),h.gb.grown hg (by simp),h.ro.grown hg (by simp),h.rn.new hg,h.hm,h.hr,AN h.hh hg.size⟩
theorem VSt.rwb(h:VSt qa V lo hi M RB RW PB GB RO n w rows)(hn:0<n):∃cur,Blk w RW 24 cur:=by
 obtain⟨g,cap,cur,e,_,_,hb,_⟩:=h.rw.qeC.form h.rl hn;injection e with e;injection e with e;injection e with e;subst e;exact⟨cur,hb⟩
theorem VSt.far(h:VSt qa V lo hi M RB RW PB GB RO n w rows){cur:Array Ah}(hg:w.grownBy w' (some g))(hB:Blk w g 24 cur)(hge:hi<=g):VSt qa V lo hi M RB RW PB GB RO n w' rows:=by
 have k1:VFr g (g+1) w w':=VFr.vR hg ⟨AM _,Nat.lt_succ_self _⟩ hB (.inr rfl);obtain⟨cs,m1,m2,m3⟩:=h.mm;obtain⟨xs,o1,o2⟩:=h.rw;have hr:=h.hr;have hh:=h.hh;refine⟨⟨cs,m1.grown hg (λe=>?_),m2,m3⟩,k1.o _ _ _ (by decide) (by decide) h.rb,⟨xs,⟨o1.1,?_⟩,λi l hi=>let ⟨u,a,b⟩:=o2 i l hi;⟨u,a,b.fr k1⟩⟩,h.rl,h.pl,k1.o _ _ _ (by decide) (by decide) h.pb,k1.o _ _ _ (by decide) (by decide) h.gb,k1.o _ _ _ (by decide) (by decide) h.ro,h.rn.fr k1,h.hm,h.hr,AN h.hh hg.size⟩
 . injection e with e;exact m1.ne_ hB (by decide) e
 . rcases o1.2 with h0|⟨g',cap,cur',e,h2,h3,h4⟩
   . exact .inl h0
   . injection e with e1 e2 e3;injection e1 with e1;injection e1 with e1;subst e1;exact .inr ⟨RW,cap,cur',by rw[<-e2,<-e3],h2,(hg.block RW (by omega) (λe=>by injection e with e;omega)).trans h3,h4⟩
theorem VSt.slot(h:VSt qa V lo hi M RB RW PB GB RO n w rows)(hk:k<n):(∃u,w.cell? ⟨RW,k,none⟩=some u)/\w.frozen? ⟨RW,k,none⟩=false:=by
 obtain⟨g,cap,cur,e,_,_,hb,hc⟩:=h.rw.qeC.form h.rl (by omega);obtain rfl:RW=g:=by injection e with e;injection e with e;injection e
 exact⟨hc k hk,hb.frozen k⟩
theorem VSt.qbT(h:VSt qa V lo hi M RB RW PB GB RO n w rows)(hk:k<10):(∃u,w.cell? ⟨M,k,none⟩=some u)/\w.frozen? ⟨M,k,none⟩=false:=by
 obtain⟨cs,m1,m2,m3⟩:=h.mm;obtain⟨b,b1,-⟩:=m3 k hk;exact⟨⟨_,(m1.cell k).trans b1⟩,m1.frozen k⟩
theorem VSt.gbc(h:VSt qa V lo hi M RB RW PB GB RO n w rows):w.cell? ⟨GB,0,none⟩=some (.func (.func 59) #[] #[.pointer (some ⟨RO,0,none⟩)]):=h.gb.cell 0
theorem VSt.qhR(h:VSt qa V lo hi M RB RW PB GB RO n w rows)(hk:k<n)(hr:rows[k]?=some (qcs qa k)):∃B m e,w.cell? ⟨RW,k,none⟩=some (.slice B m e)/\RI w (.slice B m e) (qcs qa k):=by
 obtain⟨g,o,l,B,m,e,hA,hl,hc,hrl,-,-,-⟩:=h.rw.rl.at_ hk;injection hA with hA;injection hA with hA1 hA2;subst hA1 hA2;rw[hl]at hr;injection hr with hr;subst hr;rw[AP]at hc;exact⟨B,m,e,hc,hrl⟩
theorem VSt.nes(h:VSt qa V lo hi M RB RW PB GB RO n w rows)(hn:0<n){x:Nat}{cs:Array Ah}(hx:Blk w x 81 cs):x≠RW/\RB≠RW/\GB≠RW:=by
 obtain⟨cur,hb⟩:=h.rwb hn;exact⟨hx.ne_ hb (by decide),h.rb.ne_ hb (by decide),h.gb.ne_ hb (by decide)⟩
theorem VSt.rbc(h:VSt qa V lo hi M RB RW PB GB RO n w rows):w.cell? ⟨RB,0,none⟩=some (.slice (some ⟨RW,0,none⟩) n n):=h.rb.cell 0
theorem VSt.row(h:VSt qa V lo hi M RB RW PB GB RO n w rows)(hk:k<n)(hu:qf w lo u (qcs qa k)):VSt qa V lo hi M RB RW PB GB RO n (w.setCell ⟨RW,k,none⟩ u) (rows.set k (qcs qa k))/\VFr lo hi w (w.setCell ⟨RW,k,none⟩ u):=by
 obtain⟨cur,hB⟩:=h.rwb (by omega);have hst:w.grownBy (w.setCell ⟨RW,k,none⟩ u) (some RW):=qa3 (p:=⟨RW,k,none⟩) (qag w (some RW)) (.inr rfl) _;have k1:VFr lo hi w (w.setCell ⟨RW,k,none⟩ u):=VFr.vR hst h.hr hB (.inr rfl);obtain⟨cs,m1,m2,m3⟩:=h.mm;refine⟨⟨⟨cs,m1.grown hst (λe=>?_),m2,λi hi=>?_⟩,k1.o _ _ _ (by decide) (by decide) h.rb,h.rw.qC (by rw[h.rl];exact hk) hu,by rw[length_set];exact h.rl,h.pl,k1.o _ _ _ (by decide) (by decide) h.pb,k1.o _ _ _ (by decide) (by decide) h.gb,k1.o _ _ _ (by decide) (by decide) h.ro,h.rn.fr k1,h.hm,h.hr,AN h.hh hst.size⟩,k1⟩
 . injection e with e;exact m1.ne_ hB (by decide) e
 . obtain⟨b,b1,b2⟩:=m3 i hi;refine⟨b,b1,λhb=>?_⟩;by_cases hik:i=k
   . subst hik;rw[AD (by rw[h.rl];exact hk)]
   . rw[AL (λe=>hik e.symm)];exact b2 hb
theorem VSt.mark(h:VSt qa V lo hi M RB RW PB GB RO n w rows)(hk:k<10)(hr:rows[k]?=some (qcs qa k)):VSt qa V lo hi M RB RW PB GB RO n (w.setCell ⟨M,k,none⟩ (.bool true)) rows/\VFr lo hi w (w.setCell ⟨M,k,none⟩ (.bool true)):=by
 obtain⟨cs,m1,m2,m3⟩:=h.mm;have hst:w.grownBy (w.setCell ⟨M,k,none⟩ (.bool true)) (some M):=qa3 (p:=⟨M,k,none⟩) (qag w (some M)) (.inr rfl) _;have k1:VFr lo hi w (w.setCell ⟨M,k,none⟩ (.bool true)):=VFr.vR hst h.hm m1 (.inl rfl);refine⟨⟨⟨_,m1.qC k _,by rw[Array.size_setIfInBounds];exact m2,λi hi=>?_⟩,k1.o _ _ _ (by decide) (by decide) h.rb,h.rw.grown hst (qg.blk m1 (by decide)) (qg.blk m1 (by decide)),h.rl,h.pl,k1.o _ _ _ (by decide) (by decide) h.pb,k1.o _ _ _ (by decide) (by decide) h.gb,k1.o _ _ _ (by decide) (by decide) h.ro,h.rn.fr k1,h.hm,h.hr,AN h.hh hst.size⟩,k1⟩;by_cases hik:i=k
 . subst hik;exact⟨true,by rw[Array.getElem?_setIfInBounds];simp[m2,hi],λ_=>hr⟩
 . obtain⟨b,b1,b2⟩:=m3 i hi;exact⟨b,by rw[Array.getElem?_setIfInBounds,if_neg (λe=>hik e.symm)];exact b1,b2⟩
def q9h(qa:List Node)(V:Ah)(lo hi M RB RW PB GB RO n k:Nat)(w:Ab)(rows:List (List Int))(w':Ab):Prop:=
 ∃rows',VSt qa V lo hi M RB RW PB GB RO n w' rows'/\VFr lo hi w w'/\(∀i:Nat,rows[i]?=some (qcs qa i)->rows'[i]?=some (qcs qa i))/\rows'[k]?=some (qcs qa k)
theorem VSt.mid(h:VSt qa V lo hi M RB RW PB GB RO n w' rows){w0:Ab}{kF:List (List Int)}(hfr:VFr lo hi w0 w')(hm:∀i:Nat,kF[i]?=some (qcs qa i)->rows[i]?=some (qcs qa i))(hk:k<n)(hu:qf w' lo u (qcs qa k)) :
   q9h qa V lo hi M RB RW PB GB RO n k w0 kF (w'.setCell ⟨RW,k,none⟩ u):=by
 have hkl:k<rows.length:=by rw[h.rl];exact hk
 obtain⟨h1,h2⟩:=h.row hk hu;refine⟨_,h1,hfr.trans h2,λi hi=>?_,by rw[AD hkl]⟩;by_cases hik:i=k
 . subst hik;rw[AD hkl]
 . rw[AL (λe=>hik e.symm)];exact hm i hi
end
def q58(qa:List Node)(V:Ah)(lo hi M RB RW PB GB RO n k:Nat)(w:Ab)(rows:List (List Int))(e:Am)(w':Ab):Prop:=
 ∃v rows',e=.returned v/\RI w' v (qcs qa k)/\VSt qa V lo hi M RB RW PB GB RO n w' rows'/\VFr lo hi w w'/\(∀i:Nat,rows[i]?=some (qcs qa i)->rows'[i]?=some (qcs qa i))/\rows'[k]?=some (qcs qa k)
def q3j(qa:List Node)(V:Ah)(lo hi M RB RW PB GB RO n:Nat)(l:List Int)(w:Ab)(rows:List (List Int))(e:Am)(w':Ab):Prop:=
 ∃v rows',e=.returned v/\RL w' v (l.map λj=>qcs qa j.toNat)/\VSt qa V lo hi M RB RW PB GB RO n w' rows'/\VFr lo hi w w'/\(∀i:Nat,rows[i]?=some (qcs qa i)->rows'[i]?=some (qcs qa i))
def qva(qa:List Node)(V:Ah)(lo hi M RB RW PB GB RO n k:Nat):Prop:=
 ∀w rows,VSt qa V lo hi M RB RW PB GB RO n w rows->Aj prog 56 #[.int .i64 k,.pointer (some ⟨M,0,none⟩),.pointer (some ⟨RB,0,none⟩),.pointer (some ⟨PB,0,none⟩),.pointer (some ⟨GB,0,none⟩)] w (q58 qa V lo hi M RB RW PB GB RO n k w rows)
theorem q3k(IH:∀j,j<k->qva qa V lo hi M RB RW PB GB RO n j)(_hk:k<=n)(_hn:n<=10){rows:List (List Int)}(h:VSt qa V lo hi M RB RW PB GB RO n w rows)(hl:RI w v l)(hl2:l.length<=2)(hin:∀y∈l,0<=y/\y<k) :
   Aj prog 59 #[v,.pointer (some ⟨RO,0,none⟩)] w (q3j qa V lo hi M RB RW PB GB RO n l w rows):=by
 obtain⟨A,m,c,rfl,hmc,hm⟩:=hl.form';rw[<-hm]at hl2;have Hm:=Lib.hid hm;have Hin:=Lib.hid hin;have HIH:=Lib.hid IH;clear hm hin IH;obtain⟨i0,hif,hz0,hz1,hz2⟩:=Ai qlk;go_enter func59,ntmps59;go_wp2_with (at_make;go_must (refine Ap _ rfl _ _ 27 rfl w.heap.size 24 i0 _ 1 underlying27 hif hz0 hz1 _ _ _ _ m rfl rfl rfl rfl (by rw[hz2];omega) (by unfold maxLen;omega) (AM _) ?_));intro w1 hown hg1
 have ho1:qL w1 w.heap.size (.slice (some ⟨w.heap.size,0,none⟩) m m) (replicate m []):=by
  refine qL.made ?_;have e:m*1=m:=AQ m
  first|exact hown|(rw[e]at hown;exact hown)|(simp at hown;exact hown)
 have qhS:=(hown.lt w.heap.size rfl).2;clear hown;have h1:=h.new hg1;have hl1:=hl.new hg1;go_wp2_with fail;obtain⟨ll,hll⟩:∃ll,ll=l.map λj=>qcs qa j.toNat:=⟨_,rfl⟩;have hlm:Hid (ll.length=m):=by show _=_;rw[hll,AA,Hm.out]
 have Hll:=Lib.hid hll;have hstart:Hid (qL w1 w.heap.size (.slice (some ⟨w.heap.size,0,none⟩) m m) (ll.take 0++replicate (m-0) [])):=by show qL _ _ _ _;simpa using ho1
 have hhi:=h.hh;have qeD:VFr lo hi w w1:=VFr.zu hg1;clear ho1 hll h hl1
 go_loopg [5,6,12] (m+1) (λmm x5 x6 i wr=>∃(q:Nat) (rws:List (List Int)),q<=m/\mm=m+1-q/\i=.int .i64 q/\VSt qa V lo hi M RB RW PB GB RO n wr rws/\VFr lo hi w wr/\Hid (∀i:Nat,rows[i]?=some (qcs qa i)->rws[i]?=some (qcs qa i))/\Hid (qL wr w.heap.size (.slice (some ⟨w.heap.size,0,none⟩) m m) (ll.take q++replicate (m-q) []))/\w.heap.size<wr.heap.size)
 case atStart=>exact⟨0,rows,AO _,rfl,rfl,h1,qeD,λ_ hi=>hi,hstart,qhS⟩
 case round=>
  clear h1 hstart qeD;obtain⟨q,rws,hq,rfl,rfl,hst,hfr,hmono,hO,hsz⟩:=hrel;by_cases hlt:q<m
  . have hlr:=hl.fr hfr;obtain⟨g,o,y,rfl,hy,c0⟩:=hlr.at_ hlt;obtain⟨hy0,hy1⟩:=Hin.out y (AK hy);obtain⟨j,rfl⟩:=Int.eq_ofNat_of_zero_le hy0;have hj:j<k:=by omega
    have r0:wr.cell? ⟨RO,0,none⟩=some _:=hst.ro.cell 0;have hx:ll[q]?=some (qcs qa j):=by rw[Hll.out,AE,hy];rfl
    have hset:Hid ((ll.take q++replicate (m-q) ([]:List Int)).set q (qcs qa j)=ll.take (q+1)++replicate (m-(q+1)) []):=by
     show _=_;obtain⟨hk',hx'⟩:=Az.1 hx;have hsl:(ll.take q).length=q:=by rw[AG];omega
     rw[set_append_right _ _ (by omega),hsl,AR,show m-q=m-(q+1)+1 by omega,replicate_succ,set_cons_zero,AF hk',hx',append_assoc];rfl
    have xS:Hid ((ll.take q++replicate (m-q) ([]:List Int)).length=m):=by
     show _=_;rw[length_append,length_replicate,AG,hlm.out];omega
    clear hx hy hy0 hy1;go_wp2_with fail;refine(HIH.out j hj wr rws hst).mono ?_;rintro e w4 ⟨u,kG,rfl,hu,vp,vX,hm4,-⟩;obtain⟨A',n',c',rfl⟩:=hu.val;have hO4:=hO.out.fr vX hhi;obtain⟨g2,qhT,qlP,he2,-,-,hB2,hc2⟩:=hO4.form xS.out (by omega);obtain rfl:w.heap.size=g2:=by injection he2 with he2;injection he2 with he2;injection he2
    clear he2;obtain⟨u0,c4⟩:=hc2 q hlt;have f4:w4.frozen? ⟨w.heap.size,q,none⟩=false:=hB2.frozen q;have hO5:=hO4.qC xS.out hlt hu;rw[hset.out]at hO5;have HO5:=Lib.hid hO5;have hgs:w4.grownBy (w4.setCell ⟨w.heap.size,q,none⟩ (.slice A' n' c')) (some w.heap.size):=qa3 (p:=⟨w.heap.size,q,none⟩) (qag w4 _) (.inr rfl) _;have j3:=vp.far hgs hB2 hhi;have qhU:VFr lo hi w (w4.setCell ⟨w.heap.size,q,none⟩ (.slice A' n' c')):=(hfr.trans vX).own hgs (AM _);have hm5:Hid (∀i:Nat,rows[i]?=some (qcs qa i)->kG[i]?=some (qcs qa i)):=λi hi=>hm4 i (hmono.out i hi);have qhV:w.heap.size<(w4.setCell ⟨w.heap.size,q,none⟩ (.slice A' n' c')).heap.size:=by have:=hgs.size;have:=vX.z.size;omega
    clear hO hO4 hO5 hset hm4 hmono vp hfr vX hst;go_wp2;go_roundg (m+1-(q+1))
    case measure=>omega
    case rel=>exact⟨q+1,kG,by omega,rfl,by go_num,j3,qhU,hm5,HO5,qhV⟩
  . obtain rfl:q=m:=by omega
    have hO2:RL wr (.slice (some ⟨w.heap.size,0,none⟩) q q) ll:=by
     have:=hO.out;rw[AR,replicate_zero,append_nil,AI (by rw[hlm.out];exact AM _)]at this;exact this.rl
    rw[Hll.out]at hO2;clear hO;go_wp2;go_ret;exact⟨_,rws,rfl,hO2,hst,hfr,hmono.out⟩
theorem q3l(IH:∀j,j<k->qva qa V lo hi M RB RW PB GB RO n j)(hk:k<n)(hn:n<=10)(hv:qae qa=true):qva qa V lo hi M RB RW PB GB RO n k:=by
 intro w rows h;obtain⟨A,n',c,rfl,hnc,hn',-⟩:=h.rn.form';obtain⟨cs,m1,m2,m3⟩:=h.mm;obtain⟨b,b1,b2⟩:=m3 k (by omega);have d0:w.cell? ⟨M,k,none⟩=some (.bool b):=(m1.cell k).trans b1;have d1:w.cell? ⟨RB,0,none⟩=some _:=h.rb.cell 0;have Hb:=Lib.hid b2;clear m1 m2 m3 b1 b2;cases b with
 |true=>
  obtain⟨g,o,l,B,m,e,hA,hl,hc,hrl,-,-,-⟩:=h.rw.rl.at_ hk;injection hA with hA;injection hA with hA1 hA2;subst hA1 hA2;have hrow:=Hb.out rfl;rw[hl]at hrow;injection hrow with hrow;subst hrow;have Hl:=Lib.hid hl;rw[AP]at hc;clear hl hn' hnc;go_enter func56,ntmps56;go_wp2;go_ret;exact⟨_,rows,rfl,hrl,h,VFr.refl _ _ _,λ_ hi=>hi,Hl.out⟩
 |false=>
  have qhW:n'=n:=hn'.trans h.pl;subst qhW;obtain⟨g,o,nd,f,r,rfl,hx,c0,c1,c2',hf,hr⟩:=h.rn.at_ hk;obtain⟨Af,nf,cf,rfl⟩:=hf.val;obtain⟨Ar,nr,cr,rfl⟩:=hr.val;have p0:w.cell? ⟨PB,0,none⟩=some _:=h.pb.cell 0;have Hx:=Lib.hid hx;clear hx hn';go_enter func56,ntmps56;go_upto_region 4 with fail;have hga:=Ax w (.cells #[.int .i64 nd.kind,.slice Af nf cf,.slice Ar nr cr] 81) none;have hB:=Blk.new w 81 #[.int .i64 nd.kind,.slice Af nf cf,.slice Ar nr cr];generalize w.alloc (.cells #[.int .i64 nd.kind,.slice Af nf cf,.slice Ar nr cr] 81)=wa at hB hga |-;have a0:wa.cell? ⟨w.heap.size,0,none⟩=some (.int .i64 nd.kind):=hB.cell 0;have haD:=qay hga;have hD:=h.new haD;have hfD:VFr lo hi w wa.drew:=VFr.zu haD;have hBD:Blk wa.drew w.heap.size 81 #[.int .i64 nd.kind,.slice Af nf cf,.slice Ar nr cr]:=hB;have e0:wa.drew.cell? ⟨w.heap.size,0,none⟩=some (.int .i64 nd.kind):=hBD.cell 0;have e1:wa.drew.cell? ⟨w.heap.size,1,none⟩=some (.slice Af nf cf):=hBD.cell 1;have e2:wa.drew.cell? ⟨w.heap.size,2,none⟩=some (.slice Ar nr cr):=hBD.cell 2;have e3:=hD.rbc;have e4:=hD.gbc;have qhX:=hf.new haD;have qhY:=hr.new haD;clear hf hr c0 c1 c2' d0 d1 p0
  go_upto_if 21 with fail
  clear a0
  go_cut [] (λwx=>q9h qa (.slice (some ⟨g,o,none⟩) n' c) lo hi M RB RW PB GB RO n' k w rows wx)
  case first=>
   by_cases hk0:nd.kind=0
   . have hb0:(nd.kind==0)=true:=by simpa using hk0
     have yH:Hid (qcs qa k=nd.row):=qyr Hx.out hk0
     have hrl:nd.row.length<=1000000000:=by
      have:=qbv ((qiu (qbf hv Hx.out).1).2.2.2 hk0);omega
     clear hk0 IH;go_wp2_with fail
     go_region_law (go_simp;go_at_call 57;refine(qg6 _ nd.row _ (by exact qhY) hrl).mono ?_;rintro e w4 ⟨u,rfl,ho,hg4⟩;have f0:=hg4.cell (by exact e0) (by simp);have f2:=hg4.cell (by exact e2) (by simp);have f3:=hg4.cell (by exact e3) (by simp);have vp:=hD.new hg4;obtain⟨⟨u9,f5⟩,f6⟩:=vp.slot hk;obtain⟨A4,n4,c4,rfl⟩:=ho.ri.val;have qbU:=vp.mid (hfD.trans (VFr.zu hg4)) (λ_ hi=>hi) hk (by rw[yH.out];exact ho.lower (by have:=hD.hm;have:=hD.hh;omega)))
     all_goals
      go_wp2_with fail;go_meet;exact qbU
   . have hb0:(nd.kind==0)=false:=by simpa using hk0
     have qhZ:Hid (qdx nd.kind (nd.frm.map λj=>qcs qa j.toNat)=some (qcs qa k)):=q4i hv Hx.out hk0;have Hin:Hid (∀y∈nd.frm,0<=y/\y<(k:Int)):=(qiu (qbf hv Hx.out).1).2.2.1;have hf2:nd.frm.length<=2:=(qbf hv Hx.out).2.1;have HIH:=Lib.hid IH;clear hk0 IH;go_wp2_with fail;obtain⟨hn1,hn2,hn3⟩:w.heap.size≠RW/\RB≠RW/\GB≠RW:=hD.nes (by omega) hBD
     go_region_held3 (λw'=>w'.cell? ⟨w.heap.size,0,none⟩=some (.int .i64 nd.kind)/\w'.cell? ⟨w.heap.size,1,none⟩=some (.slice Af nf cf)/\w'.cell? ⟨RB,0,none⟩=some (.slice (some ⟨RW,0,none⟩) n' n')/\w'.cell? ⟨GB,0,none⟩=some (.func (.func 59) #[] #[.pointer (some ⟨RO,0,none⟩)])) (go_keep) (first
      |(go_at_call 59;refine(q3k HIH.out (Nat.le_of_lt hk) hn (by exact hD) (by exact qhX) hf2 Hin.out).mono ?_;rintro e w4 ⟨v4,qlQ,rfl,hv4,vp,vX,hm4⟩;have hB4:=vX.o _ _ _ (by decide) (by decide) hBD;have f0:w4.cell? ⟨w.heap.size,0,none⟩=some (.int .i64 nd.kind):=hB4.cell 0;have f1:w4.cell? ⟨w.heap.size,1,none⟩=some (.slice Af nf cf):=hB4.cell 1;have f3:=vp.rbc;have f4:=vp.gbc;obtain⟨A4,n4,c4,rfl⟩:=hv4.val)
      |(go_at_call 58;refine(qri nd.kind _ _ w4 (by exact hv4)).mono ?_;rw[qhZ.out];rintro e w5 ⟨u,rfl,ho,hg5⟩;have q0:=hg5.cell (by exact f0) (by simp);have q1:=hg5.cell (by exact f1) (by simp);have q4:=hg5.cell (by exact f4) (by simp);have q3:=hg5.cell (by exact f3) (by simp);have j3:=vp.new hg5;obtain⟨⟨u9,q5⟩,q6⟩:=j3.slot hk;obtain⟨A5,n5,c5,rfl⟩:=ho.ri.val;have qbU:=j3.mid (hfD.trans (vX.trans (VFr.zu hg5))) hm4 hk (by exact ho.lower (by have:=vp.hm;have:=vp.hh;omega));have gs:w5.grownBy (w5.setCell ⟨RW,k,none⟩ (.slice A5 n5 c5)) (some RW):=qa3 (p:=⟨RW,k,none⟩) (qag w5 _) (.inr rfl) _;have s0:=gs.cell (by exact q0) (λe=>hn1 (by injection e));have s1:=gs.cell (by exact q1) (λe=>hn1 (by injection e));have s3:=gs.cell (by exact q3) (λe=>hn2 (by injection e));have s4:=gs.cell (by exact q4) (λe=>hn3 (by injection e))))
     all_goals
      go_wp2_with fail;go_meet;exact qbU
  case rest=>
   obtain⟨rows',hst,hfr,hm,hk2⟩:=hcut;have qbV:k<10:=by omega
   obtain⟨⟨u9,q5⟩,q6⟩:=hst.qbT qbV;obtain⟨qaG,qeE⟩:=hst.mark qbV hk2;have qeF:=hfr.trans qeE;obtain⟨B,m,e,q1,hrl⟩:=qaG.qhR hk hk2;have q3:=qaG.rbc;have Hm:=Lib.hid hm;have Hk2:=Lib.hid hk2;clear hm hk2 hst hfr qeE;go_upto_region 8 with fail;generalize wc.setCell ⟨M,k,none⟩ (.bool true)=wz at qaG qeF q1 hrl q3 |-;go_wp2;go_ret;exact⟨_,rows',rfl,hrl,qaG,qeF,Hm.out,Hk2.out⟩
theorem q59(hn:n<=10)(hv:qae qa=true):∀k,k<n->qva qa V lo hi M RB RW PB GB RO n k:=by
 intro k
 induction k using Nat.strongRecOn with
 |ind k ih=>exact λhk=>q3l (λj hj=>ih j hj (by omega)) hk hn hv
theorem VSt.start(hB:Blk w PB 23 #[V])(hr:RN w V qa)(ho:qM w lo (.slice (some ⟨RW,0,none⟩) n n) (replicate n []))(hn:qa.length=n)(h1:lo<=RW)(h2:RW<w.heap.size) :
   ∃W:Ab,W=((((w.alloc (.cells #[.slice (some ⟨RW,0,none⟩) n n] 27)).alloc (.cells #[.bool false,.bool false,.bool false,.bool false,.bool false,.bool false,.bool false,.bool false,.bool false,.bool false] 78)).alloc (.cells #[.func (.func 59) #[] #[.pointer (some ⟨w.heap.size+1+1+1,0,none⟩)]] 79)).alloc
    (.cells #[.func (.func 56) #[] #[.pointer (some ⟨w.heap.size+1,0,none⟩),.pointer (some ⟨w.heap.size,0,none⟩),.pointer (some ⟨PB,0,none⟩),.pointer (some ⟨w.heap.size+1+1,0,none⟩)]] 84))
    /\ VSt qa V lo (w.heap.size+1+1+1+1) (w.heap.size+1) w.heap.size RW PB (w.heap.size+1+1) (w.heap.size+1+1+1) n W (replicate n [])/\w.grownBy W none:=by
 generalize ho1:Obj.cells #[.slice (some ⟨RW,0,none⟩) n n] 27=o1;generalize ho2:Obj.cells #[.bool false,.bool false,.bool false,.bool false,.bool false,.bool false,.bool false,.bool false,.bool false,.bool false] 78=o2;generalize ho3:Obj.cells #[.func (.func 59) #[] #[.pointer (some ⟨w.heap.size+1+1+1,0,none⟩)]] 79=o3;generalize ho4:Obj.cells #[.func (.func 56) #[] #[.pointer (some ⟨w.heap.size+1,0,none⟩),.pointer (some ⟨w.heap.size,0,none⟩),.pointer (some ⟨PB,0,none⟩),.pointer (some ⟨w.heap.size+1+1,0,none⟩)]] 84=o4;have hg:w.grownBy ((((w.alloc o1).alloc o2).alloc o3).alloc o4) none:=qaq (qaq (qaq (qaq (qag w none) _) _) _) _;have b1:Blk (w.alloc o1) w.heap.size 27 _:=ho1▸Blk.new w _ _;have b2:=Blk.new (w.alloc o1) 78 #[.bool false,.bool false,.bool false,.bool false,.bool false,.bool false,.bool false,.bool false,.bool false,.bool false];rw[At,ho2]at b2;have b3:=Blk.new ((w.alloc o1).alloc o2) 79 #[.func (.func 59) #[] #[.pointer (some ⟨w.heap.size+1+1+1,0,none⟩)]];rw[At,At,ho3]at b3;have b4:=Blk.new (((w.alloc o1).alloc o2).alloc o3) 84 #[.func (.func 56) #[] #[.pointer (some ⟨w.heap.size+1,0,none⟩),.pointer (some ⟨w.heap.size,0,none⟩),.pointer (some ⟨PB,0,none⟩),.pointer (some ⟨w.heap.size+1+1,0,none⟩)]];rw[At,At,At,ho4]at b4;refine⟨_,rfl,⟨⟨_,(b2.alloc _).alloc _,rfl,λi hi=>⟨false,?_,λe=>by cases e⟩⟩,((b1.alloc _).alloc _).alloc _,ho.new hg,by simp,hn,hB.grown hg (by simp),b3.alloc _,b4,hr.new hg,⟨by omega,by omega⟩,⟨h1,by omega⟩,?_⟩,hg⟩
 . have:i=0∨i=1∨i=2∨i=3∨i=4∨i=5∨i=6∨i=7∨i=8∨i=9:=by omega
   rcases this with rfl|rfl|rfl|rfl|rfl|rfl|rfl|rfl|rfl|rfl<;>rfl
 . rw[At,At,At,At];exact AM _
def qjx(w:Ab)(qa:List Node)(e:Am)(w':Ab):Prop:=
 ∃v,e=.returned (.tuple #[v,.bool (qae qa)])/\qM w' w.heap.size v (if qae qa=true then values qa else [])/\w.grownBy w' none
theorem qok(v:Ah)(qa:List Node)(w:Ab)(h:RN w v qa):Aj prog 23 #[v] w (qjx w qa):=by
 obtain⟨A,n,c,rfl,hnc,hn,hn9⟩:=h.form';have Hn:=Lib.hid hn;clear hn hn9;cases hv:qae qa with
 |false=>
  have Hv:=Lib.hid hv;clear hv;go_enter func23,ntmps23;go_wp2_with fail;refine(qb6 _ qa _ (h.alloc _) Hv.out).mono ?_;rintro e w1 ⟨rfl,hg1⟩;go_wp2_with fail
  go_ret2
  have hfin:qjx w qa (.returned (.tuple #[.slice none 0 0,.bool false])) w1:=by
   refine⟨_,by rw[Hv.out],?_,qac (Ax w _ none) hg1⟩;rw[Hv.out];exact qM.nil _ _
  exact hfin
 |true=>
  have zF:n<=10:=by have:=qam hv;have:=Hn.out;omega
  have Hv:=Lib.hid hv;clear hv;obtain⟨i0,hif,hz0,hz1,hz2⟩:=Ai qlk;have hga:=Ax w (.cells #[.slice A n c] 23) none;have hB:=Blk.new w 23 #[.slice A n c];go_enter func23,ntmps23;go_upto_region 1 with fail;generalize w.alloc (.cells #[.slice A n c] 23)=wa at hB hga |-;have a0:wa.cell? ⟨w.heap.size,0,none⟩=some (.slice A n c):=hB.cell 0;go_wp2_with fail;refine(qb6 _ qa _ (h.new hga) Hv.out).mono ?_;rintro e w1 ⟨rfl,hg1⟩;have hB1:=hB.grown hg1 (by simp);have b0:w1.cell? ⟨w.heap.size,0,none⟩=some (.slice A n c):=hB1.cell 0;go_upto_region 4 with (at_make;go_must (refine Ap _ rfl _ _ 27 rfl w1.heap.size 24 i0 _ 1 underlying27 hif hz0 hz1 _ _ _ _ n rfl rfl rfl rfl (by rw[hz2];omega) (by unfold maxLen;omega) (AM _) ?_));intro w2 hown hg2
  have ho:qM w2 w1.heap.size (.slice (some ⟨w1.heap.size,0,none⟩) n n) (replicate n []):=by
   refine qM.made ?_;have e:n*1=n:=AQ n
   first|exact hown|(rw[e]at hown;exact hown)|(simp at hown;exact hown)
  have qbQ:=(hown.lt w1.heap.size rfl).2;clear hown;go_upto_region 8 with fail;have qbW:=qac hga (qac hg1 hg2);obtain⟨W,hW,hst,hgW⟩:=VSt.start (hB1.grown hg2 (by simp)) (h.new qbW) ho Hn.out.symm (AM _) qbQ;rw[<-hW];have qeG:=qac qbW hgW;have hlo:w.heap.size<=w1.heap.size:=(qac hga hg1).size;clear hW hgW ho qbW hg2 hg1 hga hB1 hB a0 b0;have p0:W.cell? ⟨w.heap.size,0,none⟩=some (.slice A n c):=hst.pb.cell 0;generalize w2.heap.size=z2 at hst |-;generalize w1.heap.size=z1 at hst hlo |-;go_wp2_with fail;clear p0
  go_loopg [8,19] (n+1) (λmm x8 i wr=>∃(q:Nat) (rws:List (List Int)),q<=n/\mm=n+1-q/\i=.int .i64 q/\VSt qa (.slice A n c) z1 (z2+1+1+1+1) (z2+1) z2 z1 w.heap.size (z2+1+1) (z2+1+1+1) n wr rws/\w.grownBy wr none/\Hid (∀i:Nat,i<q->rws[i]?=some (qcs qa i)))
  case atStart=>exact⟨0,_,AO _,rfl,rfl,hst,qeG,λi hi=>absurd hi (Nat.not_lt_zero _)⟩
  case round=>
   clear hst qeG;obtain⟨q,rws,hq,rfl,rfl,hst,hg,xe⟩:=hrel;by_cases hlt:q<n
   . have r0:wr.cell? ⟨z2+1+1+1,0,none⟩=some _:=hst.ro.cell 0;go_wp2_with fail;refine(q59 zF Hv.out q hlt wr rws hst).mono ?_;rintro e w4 ⟨u,kG,rfl,hu,vp,vX,hm4,hk4⟩;have hg4:=vX.z.gb hg hlo
     have hd4:Hid (∀i:Nat,i<q+1->kG[i]?=some (qcs qa i)):=λi hi=>by
      by_cases hiq:i=q
      . subst hiq;exact hk4
      . exact hm4 i (xe.out i (by omega))
     obtain⟨A',n',c',rfl⟩:=hu.val;clear hm4 hk4 xe hst vX hg r0;go_wp2;go_roundg (n+1-(q+1))
     case measure=>omega
     case rel=>exact⟨q+1,kG,by omega,rfl,by go_num,vp,hg4,hd4⟩
   . obtain rfl:q=n:=by omega
     have hrows:rws=values qa:=by
      apply ext_getElem?;intro i;by_cases hi:i<q
      . rw[xe.out i hi,qit (by rw[<-Hn.out];exact hi)]
      . rw[AJ (by rw[hst.rl];omega),AJ (by rw[qf9,<-Hn.out];omega)]
     have hR:=hst.rw.low hlo;rw[hrows]at hR;have q0:=hst.rbc
     have hfin:Hid (qjx w qa (.returned (.tuple #[.slice (some ⟨z1,0,none⟩) q q,.bool true])) wr):=by
      refine⟨_,by rw[Hv.out],?_,hg⟩;rw[Hv.out];exact hR
     clear hrows xe hst;go_wp2_with fail
     go_ret2
     exact hfin
def qz6(w:Ab)(qa:List Node)(k:Nat)(e:Am)(w':Ab):Prop:=∃v,e=.returned (.tuple #[v,.bool true])/\qf w' w.heap.size v (qcs qa k)/\w.grownBy w' none
theorem qz7(v:Ah)(qa:List Node)(k:Nat)(w:Ab)(h:RN w v qa)(hv:qae qa=true)(hk:k<qa.length):Aj prog 183 #[v,.int .i64 k] w (qz6 w qa k):=by
 obtain⟨A,n,c,rfl,hnc,hn,hn9⟩:=h.form';have Hn:=Lib.hid hn;have Hv:=Lib.hid hv;have hkn:k<n:=by omega
 clear hn hn9 hv hk;go_enter func183,ntmps183;go_wp2_with fail;refine(qok _ qa w h).mono ?_;rw[show qjx w qa=λe w'=>∃v,e=.returned (.tuple #[v,.bool (qae qa)])/\qM w' w.heap.size v (if qae qa=true then values qa else [])/\w.grownBy w' none from rfl,Hv.out,if_pos rfl];rintro e w1 ⟨rv,rfl,hrv,hg1⟩;obtain⟨A2,n2,c2,rfl,qlR,hn2,-⟩:=hrv.rl.form';have qiA:n2=n:=by rw[hn2,qf9];exact Hn.out.symm
 subst qiA;clear hn2;obtain⟨g3,l,u3,rfl,hl,hcl,hrl⟩:=hrv.at_ hkn
 have hval:l=qcs qa k:=by
  rw[qit (by rw[<-Hn.out];exact hkn)]at hl;injection hl with hl;exact hl.symm
 subst hval;clear hl;obtain⟨B3,m3,e3,rfl⟩:=hrl.ri.val;go_wp2_with fail;refine(qfb A n2 c (k:Int) _ (b:=true) (by simp;omega)).mono ?_;rintro e w2 ⟨rfl,rfl⟩;go_wp2_with fail
 go_ret2
 exact⟨_,rfl,hrl,hg1⟩
end
end Go.Proofs.YtacemdoejblgaaaGreatDoor

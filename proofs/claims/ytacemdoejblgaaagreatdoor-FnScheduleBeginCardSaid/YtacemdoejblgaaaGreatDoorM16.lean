/- Part M16. Conditions: each statement's. -/
import Derived.Laws.CopyOwn
import Derived.Test.YtacemdoejblgaaaGreatDoorM15
namespace Go.Proofs.YtacemdoejblgaaaGreatDoor
open List Tryz World Value
set_option maxRecDepth 100000
set_option maxHeartbeats 6400000
section
open Go.RowKit
theorem TT.ts{w:World}{tb n:Nat}{f:Nat->Int}(h:TT w tb f n)(hn:n<=10):TS w 184 1 (.slice (some ⟨tb,0,none⟩) n 10) n (((range n).map f).map (.int .i64)):=by
 refine⟨by simp,some ⟨tb,0,none⟩,10,rfl,hn,by unfold maxLen;omega,λe=>(by cases e),.inr ⟨tb,0,qpa f n,rfl,h,λj u hj=>?_⟩⟩;have hjl:=(List.getElem?_eq_some_iff.1 hj).1;rw[length_map,length_map,length_range]at hjl;rw[getElem?_map,getElem?_map,getElem?_range hjl]at hj;rw[Nat.zero_add,qxw f n (by omega)];exact hj
theorem q6f{ops:Array Oper}{rest:List Oper}{o:Oper}{a:Act}{Q:Exit->Act->World->Prop}{w:World}{E:TypeId}
   (s x:Operand) (t:TypeId) (ht:Tryz.prog.underlying t=some (.slice 3)) (hgd:o.guard=none) (ho:o.op=.call {callee:=.builtin .append,args:=#[s,x],argTypes:=#[t,t]})
   {base:Nat} {xv:Value} {l:List Int} (hxv:TS w E 1 xv l.length (l.map (.int .i64))) (hn:l.length<=1000000000) (hbase:base<=w.heap.size)
   (hs:a.eval s=.slice none 0 0) (hx:a.eval x=xv)
   (h:∀v' w',qg w' base v' l->w.grownBy w' none->wpList prog ops Q rest (a.put o.dst v') w') :
   wpList prog ops Q (o::rest) a w:=by
 obtain⟨i,hi,hz0,hz1,hz2⟩:=info_parts qok;obtain⟨A,c,e,hc,hcm,hcn⟩:=TS.form hxv;subst e
 match A,hcn with
 |none,hcn=>
  obtain rfl:=hcn rfl;have hl0:l=[]:=eq_nil_of_length_eq_zero (by omega);subst hl0;refine wpList_append_own_none hgd s x t ho base 3 i 1 ht hi (.slice none 0 0) 0 [] hs (ownsRow_nil _ _ _ _) hx ?_;exact h _ _ (qg.nil _ _) (qah _ _)
 |some ad,hcn=>
  refine wpList_append_own _ hgd s x t ho base 3 i _ 1 8 ht hi hz0 hz1 hz2 rfl (by decide) (.slice none 0 0) 0 [] hs (ownsRow_nil _ _ _ _) ad l.length c (l.map (.int .i64)) hx (by rw[length_map,Nat.mul_one]) ?_ (qjh l) ?_ ?_ hbase ?_
  . intro j u hj;have hjl:=(List.getElem?_eq_some_iff.1 hj).1;rw[length_map]at hjl;obtain⟨g,o',cur,e,_,hcell⟩:=TS.at_ hxv (by omega);have e2:ad=⟨g,o',none⟩:=Option.some.inj e;rw[e2,Addr.add_lit];exact hcell j u hj
  . unfold maxLen;omega
  . omega
  . intro v' w' h1 h2 _;refine h v' w' ?_ h2;unfold qg;simpa using h1
theorem q28(f:Nat->Int)(n:Nat){cs:List Int}(hl:cs.length<=10):((qpa f n).toList.take 0++(cs.map (int .i64)++(qpa f n).toList.drop (0+(cs.map (int .i64)).length))).toArray=qpa (qmk f cs) n:=by
 rcases cs with _|⟨a0,_|⟨a1,_|⟨a2,_|⟨a3,_|⟨a4,_|⟨a5,_|⟨a6,_|⟨a7,_|⟨a8,_|⟨a9,_|⟨a10,r⟩⟩⟩⟩⟩⟩⟩⟩⟩⟩⟩
 all_goals first|rfl|(simp only[length_cons]at hl;omega)
theorem q29{ops:Array Oper}{rest:List Oper}{o:Oper}{a:Act}{Q:Exit->Act->World->Prop}{w:World}(d s:Operand)(hgd:o.guard=none)(ho:o.op=.call {callee:=.builtin .copy,args:=#[d,s],argTypes:=#[24,24]})
   {tb n m c:Nat} {A:Option Addr} {f:Nat->Int} {cs:List Int} (hT:TT w tb f n) (hc:RI w (.slice A m c) cs) (hl:cs.length<=10) (hd:a.eval d=.slice (some ⟨tb,0,none⟩) 10 10) (hs:a.eval s=.slice A m c)
   (h:∀z w',TT w' tb (qmk f cs) n->w.grownBy w' (some tb)->wpList prog ops Q rest (a.put o.dst z) w') :
   wpList prog ops Q (o::rest) a w:=by
 obtain⟨i,hi,hz0,hz1,hz2⟩:=info_parts qok;have hsz:(Tryz.prog.info? 3).map (·.size)=some 1:=by rw[hi];exact congrArg some (by assumption)
 have hm:=hc.len;by_cases h0:m=0
 . subst h0;have e:cs=[]:=eq_nil_of_length_eq_zero hm.symm;subst e;refine wpList_copy_nothing hgd d s _ _ ho 3 underlying24 hsz _ _ 10 10 0 c hd hs (by simp) ?_;refine h _ w ?_ (qah _ _);have e2:qmk f []=f:=by funext i;rfl
   rw[e2];exact hT
 . obtain⟨gu,ou,x,rfl,-,-⟩:=hc.at_ (k:=0) (by omega);refine wpList_copy_own hgd d s _ _ ho 3 underlying24 hsz tb 0 10 10 ⟨gu,ou,none⟩ m c hd hs (qpa f n) 184 hT (cs.map (.int .i64)) ?_ ?_ ?_ (qjh cs) ?_
   . rw[length_map,<-hm];exact(Nat.min_eq_left (by omega)).symm
   . intro j u hj;have hjl:=(List.getElem?_eq_some_iff.1 hj).1;rw[length_map]at hjl;obtain⟨g',o',x',e,hx',hcell⟩:=hc.at_ (k:=j) (by omega);injection e with e;injection e with e1 e2;subst e1 e2;rw[getElem?_map,hx']at hj;rw[Addr.add_lit,hcell];exact hj
   . rw[length_map];show 0+cs.length<=11;omega
   . rw[q28 f n hl];refine h _ _ ?_ ?_
     . exact setRow_heap w tb _ _ 184 _ hT
     . exact⟨rfl,rfl,rfl,by simp[setRow],λk hk hr=>setRow_other w tb k _ (λe=>hr (by rw[e]))⟩
theorem q3a(l:List Int)(E:TypeId)(v:Value)(w:World)(h:TS w E 1 v l.length (l.map (.int .i64)))(hl:l.length<=1000000000):Calls prog 57 #[v] w (qfw w l):=by
 obtain⟨A,c,rfl,-⟩:=h.form;go_enter func57,ntmps57;go_wp2_with (at_builtin;go_must (refine q6f _ (.tmp 3) 24 underlying24 rfl rfl h hl (Nat.le_refl _) rfl rfl ?_));intro v' w1 ho hg;obtain⟨A',n',c',rfl⟩:=ho.ri.val;go_wp2;go_ret;exact⟨_,rfl,ho,hg⟩
theorem qu2(tb n:Nat)(f:Nat->Int)(w:World)(h:TT w tb f n)(hn:n<=10):Calls prog 100 #[.pointer (some ⟨tb,0,none⟩)] w (qfw w ((range n).map f)):=by
 have hsz:=h.size;have qtK:(n:Int)<=10:=by omega
 have hb0:(0:Int)<=n:=by omega
 go_enter func100,ntmps100;go_wp2_with fail
 go_region_law (go_simp;go_at_call 57;refine(q3a ((range n).map f) 184 _ _ (by simpa using(h.new (qay (qah w none))).ts hn) (by simp;omega)).mono ?_;rintro e w2 ⟨v2,rfl,ho,hg⟩;obtain⟨A2,n2,c2,rfl⟩:=ho.ri.val)
 all_goals
  go_wp2;go_ret;exact⟨_,rfl,ho,qad (qay (qah w none)) hg⟩
def qnH(w:World)(l:List Int)(e:Ending)(w':World):Prop:=∃v,e=.returned v/\qg w' w.heap.size v l/\w.grownBy w' none
theorem qx0(v rv:Value)(x:Node)(rows:List (List Int))(w:World)(h:NV w v x)(hr:RL w rv rows)(hf:x.frm.length<=2)(hin:x.kind≠0->∀y∈x.frm,0<=y/\y<rows.length)(_hrl:rows.length<=1000)(hxr:x.row.length<=1000) :
   Calls prog 165 #[v,rv] w (qnH w (qD x rows)):=by
 obtain⟨f,r,rfl,hff,hrr⟩:=h;obtain⟨Af,nf,cf,rfl,_,hnf⟩:=hff.form';obtain⟨Ar,nr,cr,rfl⟩:=hrr.val;obtain⟨A,n,c,rfl,hnc,hn,hn9⟩:=hr.form';have hB:=Blk.new w 81 #[.int .i64 x.kind,.slice Af nf cf,.slice Ar nr cr];have hga:=grownBy_alloc w (.cells #[.int .i64 x.kind,.slice Af nf cf,.slice Ar nr cr] 81) none;rw[<-hnf]at hf;have Hnf:=Lib.hid hnf;have Hn:=Lib.hid hn;have Hin:=Lib.hid hin;clear hnf hn hin hn9;by_cases hk:x.kind=0
 . have hT:Hid (qD x rows=x.row):=by show _=_;unfold qD;rw[if_pos hk]
   have hb:(x.kind==0)=true:=by simpa using hk
   clear hk;go_enter func165,ntmps165;go_upto_region 1 with fail;generalize w.alloc (.cells #[.int .i64 x.kind,.slice Af nf cf,.slice Ar nr cr] 81)=wa at hB hga |-;have c0:wa.cell? ⟨w.heap.size,0,none⟩=some (.int .i64 x.kind):=hB.cell 0;have c2:=((hB.alloc (.cells #[] 3)).cell 2);have hq:qg (wa.alloc (.cells #[] 3)) wa.heap.size (.slice (some ⟨wa.heap.size,0,none⟩) 0 0) []:=qg.empty wa (Nat.le_refl _);have hr4:=(hrr.new hga).alloc (.cells #[] 3);have hb4:wa.heap.size<=(wa.alloc (.cells #[] 3)).heap.size:=by rw[size_alloc];omega
   have hg4:w.grownBy (wa.alloc (.cells #[] 3)) none:=qar hga _;have hs:=hga.size;go_wp2_with (at_builtin;go_must (refine qno (.tmp 12) (.tmp 14) 24 underlying24 rfl rfl hq hr4 (by simp;omega) hb4 rfl rfl ?_));intro v5 w5 hq5 hg5;obtain⟨A5,n5,c5,rfl⟩:=hq5.ri.val;have qnI:w.grownBy w5 none:=qbd hg4 hg5 (λg e=>by cases e;exact .inl hs);go_wp2;go_ret;exact⟨_,rfl,by rw[hT.out];simpa using hq5.lower hs,qnI⟩
 . have hT:Hid (qD x rows=(qe1 x.kind (x.frm.map λi=>rows.getD i.toNat [])).getD []):=by show _=_;unfold qD;rw[if_neg hk]
   have hb:(x.kind==0)=false:=by simpa using hk
   have qaT:=Lib.hid (Hin.out hk);clear hk;go_enter func165,ntmps165;go_upto_region 1 with fail;generalize w.alloc (.cells #[.int .i64 x.kind,.slice Af nf cf,.slice Ar nr cr] 81)=wa at hB hga |-;have hown0:j9 (wa.alloc (.cells #[] 24)) wa.heap.size (.slice (some ⟨wa.heap.size,0,none⟩) 0 0) []:=j9.empty wa (Nat.le_refl _);have hs:=hga.size;have c0:wa.cell? ⟨w.heap.size,0,none⟩=some (.int .i64 x.kind):=hB.cell 0;go_wp2_with fail;clear c0
   go_loopg [5,6] (nf+1) (λmm out i wr=>∃k:Nat,k<=nf/\mm=nf+1-k/\i=.int .i64 k/\j9 wr wa.heap.size out ((x.frm.map λi=>rows.getD i.toNat []).take k)/\wa.grownBy wr none)
   case atStart=>exact⟨0,Nat.zero_le _,rfl,rfl,hown0,qar (qah wa none) _⟩
   case round=>
    clear hown0;obtain⟨k,hk,rfl,rfl,hown,hg⟩:=hrel;have c0:wr.cell? ⟨w.heap.size,0,none⟩=some (.int .i64 x.kind):=(hB.grown hg (by simp)).cell 0;have c1:wr.cell? ⟨w.heap.size,1,none⟩=some (.slice Af nf cf):=(hB.grown hg (by simp)).cell 1;by_cases hlt:k<nf
    . obtain⟨g,o,y,rfl,hy,hcell⟩:=((hff.new hga).new hg).at_ hlt;obtain⟨hy0,hy1⟩:=qaT.out y (mem_of_getElem? hy);obtain⟨j,rfl⟩:=Int.eq_ofNat_of_zero_le hy0;have hj:j<n:=by have:=Hn.out;omega
      obtain⟨g2,o2,l,B,m,e2,rfl,hl,hcl,qcC,-,-,-⟩:=((hr.new hga).new hg).at_ hj
      have Hy:Hid ((x.frm.map λi=>rows.getD i.toNat []).take (k+1)=(x.frm.map λi=>rows.getD i.toNat []).take k++[l]):=by
       show _=_;obtain⟨hy2,hy3⟩:=List.getElem?_eq_some_iff.1 hy;rw[take_succ_eq_append_getElem (by rw[length_map];exact hy2),getElem_map,hy3]
       have:rows.getD ((j:Nat):Int).toNat []=l:=by
        rw[getD_eq_getElem?_getD];show rows[j]?.getD []=l;rw[hl];rfl
       rw[this]
      have hll:((x.frm.map λi=>rows.getD i.toNat []).take k).length<=1000000000:=by rw[length_take];omega
      have hjn:(j:Int)<(n:Int):=by omega
      have qhS:=hg.size;clear hy hl hy1;go_wp2_with (at_builtin;go_must (refine qk8 (.tmp 24) (.tmp 33) rfl rfl hown qcC hll qhS rfl rfl ?_));intro v2 w2 zM hg2;have hg3:=hown.gb hg hg2 (Nat.le_refl _);go_wp2;go_roundg (nf+1-(k+1))
      case measure=>omega
      case rel=>exact⟨k+1,by omega,rfl,by go_num,by rw[Hy.out];exact zM,hg3⟩
    . obtain rfl:k=nf:=by omega
      rw[take_of_length_le (by rw[length_map,<-Hnf.out];exact Nat.le_refl _)]at hown;obtain⟨A2,n2,c2,rfl⟩:=hown.rl.val;go_wp2_with fail;refine(qvt x.kind _ _ wr hown.rl).mono ?_;rintro e w3 ⟨v3,rfl,ho3,hg3⟩;obtain⟨A3,n3,c3,rfl⟩:=ho3.ri.val;go_wp2;go_ret;exact⟨_,rfl,by rw[hT.out];exact ho3.lower (qad hga hg).size,qad (qad hga hg) hg3⟩
def qnJ(w:World)(ll:List (List Int))(e:Ending)(w':World):Prop:=∃v,e=.returned v/\j9 w' w.heap.size v ll/\w.grownBy w' none
theorem q1n(v:Value)(qa:List Node)(w:World)(h:RN w v qa)(hv:qaf qa=true):Calls prog 162 #[v] w (qnJ w (values qa)):=by
 obtain⟨A,n,c,rfl,hnc,hn,hn9⟩:=h.form';have zY:=qap hv;have vV:n<=10:=by omega
 have Hv:=Lib.hid hv;have Hn:=Lib.hid hn;have h0:j9 (w.alloc (.cells #[] 24)) w.heap.size (.slice (some ⟨w.heap.size,0,none⟩) 0 0) []:=j9.empty w (Nat.le_refl _);clear hv hn hn9 zY;go_enter func162,ntmps162;go_wp2_with fail
 go_loopg [3,4] (n+1) (λmm out i wr=>∃k:Nat,k<=n/\mm=n+1-k/\i=.int .i64 k/\j9 wr w.heap.size out (qb9 qa k)/\w.grownBy wr none)
 case atStart=>exact⟨0,Nat.zero_le _,rfl,rfl,h0,qar (qah w none) _⟩
 case round=>
  clear h0;obtain⟨k,hk,rfl,rfl,hown,hg⟩:=hrel;by_cases hlt:k<n
  . obtain⟨g,o,nd,f,r,rfl,hx,c0,c1,c2,hf,hr⟩:=(h.new hg).at_ hlt;obtain⟨A2,n2,c2',rfl⟩:=hown.rl.val;obtain⟨hfit,hf2,-,-⟩:=qbk Hv.out hx;have Hx:=Lib.hid hx;have Hs:Hid (qb9 qa (k+1)=qb9 qa k++[qD nd (qb9 qa k)]):=qje hx
    have qbQ:Hid (nd.kind≠0->∀y∈nd.frm,0<=y/\y<(qb9 qa k).length):=λ_ y hy=>by
     rw[qd4];exact qc6 hfit hy
    have hrow:nd.row.length<=1000:=by
     by_cases hk0:nd.kind=0
     . have:=qch ((qk5 hfit).2.2.2 hk0);omega
     . have e:nd.row=[]:=by
        unfold qbz at hfit;simp only[Bool.and_eq_true]at hfit;have h4:=hfit.2;rw[if_neg hk0]at h4;exact eq_nil_of_length_eq_zero (by simpa using h4)
       rw[e];simp
    have hvl:(qb9 qa k).length<=1000:=by rw[qd4];omega
    have qnK:(qb9 qa k).length<=1000000000:=by omega
    have qhS:=hg.size;clear hx hfit;go_wp2_with fail;refine(qx0 _ _ nd (qb9 qa k) wr ⟨f,r,rfl,hf,hr⟩ hown.rl hf2 qbQ.out hvl hrow).mono ?_;rintro e w2 ⟨v2,rfl,qnL,hg2⟩;have hv2:=qnL.ri;have zM:=hown.new hg2;have hg3:=qad hg hg2;have xg:=hg3.size;obtain⟨A3,n3,c3,rfl⟩:=hv2.val;have hvr:=hv2;clear hown hg hg2;go_wp2_with (at_builtin;go_must (refine qk8 (.tmp 12) (.tmp 19) rfl rfl zM hvr qnK xg rfl rfl ?_));intro v4 w4 qx hg4;have hg5:=zM.gb hg3 hg4 (Nat.le_refl _);go_wp2;go_roundg (n+1-(k+1))
    case measure=>omega
    case rel=>exact⟨k+1,by omega,rfl,by go_num,by rw[Hs.out];exact qx,hg5⟩
  . obtain rfl:k=n:=by omega
    have e:qb9 qa k=values qa:=by unfold values;rw[Hn.out]
    rw[e]at hown;obtain⟨A2,n2,c2,rfl⟩:=hown.rl.val;go_wp2;go_ret;exact⟨_,rfl,hown,hg⟩
theorem TS.blk{w w':World}{E:TypeId}{size n:Nat}{v:Value}{xs:List Value}(h:TS w E size v n xs)(k:∀g cs,Blk w g E cs->Blk w' g E cs):TS w' E size v n xs:=by
 obtain⟨h0,A,c,h1,h2,h3,h4,h5⟩:=h;refine⟨h0,A,c,h1,h2,h3,h4,?_⟩;rcases h5 with h5|⟨g,o,cur,hA,hb,hc⟩
 . exact .inl h5
 . exact .inr ⟨g,o,cur,hA,k g cur hb,hc⟩
def jB(w:World)(base:Nat)(v:Value)(ll:List (List Int)):Prop:=∃xs,LX w base v ll xs
theorem jB.qhT{w:World}{base:Nat}{v:Value}{ll:List (List Int)}(h:jB w base v ll):j9 w base v ll:=let ⟨xs,h1⟩:=h;⟨xs,h1.1,λi l hi=>let ⟨u,k1,k2⟩:=h1.2 i l hi;⟨u,k1,k2.ri⟩⟩
theorem jB.rl{w:World}{base:Nat}{v:Value}{ll:List (List Int)}(h:jB w base v ll):RL w v ll:=let ⟨_,h1⟩:=h;h1.rl
theorem jB.new{w w':World}{base:Nat}{v:Value}{ll:List (List Int)}(h:jB w base v ll)(hg:w.grownBy w' none):jB w' base v ll:=let ⟨xs,h1⟩:=h;⟨xs,h1.new hg⟩
theorem jB.grown{w w':World}{base:Nat}{v:Value}{ll:List (List Int)}{row:Option Nat}(h:jB w base v ll)(hg:w.grownBy w' row)(hr:qh w 3 row)(hr':qh w 24 row):jB w' base v ll:=let ⟨xs,h1⟩:=h;⟨xs,h1.grown hg hr hr'⟩
theorem jB.low{w:World}{a b:Nat}{v:Value}{ll:List (List Int)}(h:jB w a v ll)(hab:b<=a):jB w b v ll:=let ⟨xs,h1⟩:=h;⟨xs,h1.low hab⟩
theorem jB.nil(w:World)(base:Nat):jB w base (.slice none 0 0) []:=⟨[],LX.nil _ _⟩
theorem jB.made{w:World}{base n:Nat}{v:Value}(h:w.ownsRow base 24 1 v n (madeCells (slice none 0 0).cells n).toList):jB w base v (replicate n []):=let ⟨xs,h1,_⟩:=zi.made h;⟨xs,h1⟩
theorem jB.jr{w:World}{base g n cap k:Nat}{ll:List (List Int)}{l:List Int}{f:Value}(h:jB w base (.slice (some ⟨g,0,none⟩) n cap) ll)(hk:k<ll.length)(hf:qg w base f l) :
   jB (w.setCell ⟨g,k,none⟩ f) base (.slice (some ⟨g,0,none⟩) n cap) (ll.set k l):=let ⟨_,h1⟩:=h;⟨_,h1.jr hk hf⟩
theorem jB.at_{w:World}{base k:Nat}{A:Option Addr}{n c:Nat}{ll:List (List Int)}(h:jB w base (.slice A n c) ll)(hk:k<n):∃g l u,A=some ⟨g,0,none⟩/\ll[k]?=some l/\w.cell? ⟨g,k,none⟩=some u/\qg w base u l:=by
 obtain⟨xs,h1,h2⟩:=h;rcases h1.2 with ⟨e,hz⟩|⟨g,cap,cur,e,hb,hh,hn,hm,hcs,ht⟩
 . injection e with e1 e2 e3;omega
 . injection e with e1 e2 e3;have hkl:k<ll.length:=by omega
   obtain⟨u,k1,k2⟩:=h2 k _ (getElem?_eq_getElem hkl);refine⟨g,_,u,e1,getElem?_eq_getElem hkl,?_,k2⟩;have hB:Blk w g 24 cur:=hh;rw[hB.cell];rw[<-ht,getElem?_take]at k1;split at k1
   . simpa using k1
   . cases k1
structure VFr(lo hi:Nat)(w w':World):Prop where
 z:Zn lo hi w w'
 o:∀g t cs,t≠78->t≠24->Blk w g t cs->Blk w' g t cs
theorem VFr.refl(lo hi:Nat)(w:World):VFr lo hi w w:=⟨Zn.refl _ _ _,λ_ _ _ _ _ h=>h⟩
theorem VFr.trans{lo hi:Nat}{a b c:World}(h:VFr lo hi a b)(k:VFr lo hi b c):VFr lo hi a c:=⟨h.z.trans k.z,λg t cs h1 h2 hb=>k.o g t cs h1 h2 (h.o g t cs h1 h2 hb)⟩
theorem VFr.vL{lo hi:Nat}{a b:World}(h:a.grownBy b none):VFr lo hi a b:=⟨Zn.qbT h (λg e=>by cases e),λg t cs _ _ hb=>hb.grown h (by simp)⟩
theorem VFr.yo{lo hi:Nat}{a b:World}{g:Nat}{t:TypeId}{cs:Array Value}(h:a.grownBy b (some g))(hg:lo<=g/\g<hi)(hb:Blk a g t cs)(ht:t=78∨t=24):VFr lo hi a b:=
 ⟨Zn.qbT h (λg' e=>by cases e;exact hg),λg' t' cs' h1 h2 hb'=>hb'.grown h (λe=>by
  injection e with e;subst e;have:=hb.symm.trans hb';injection this with this;injection this with _ this;rcases ht with rfl|rfl
  . exact h1 this.symm
  . exact h2 this.symm)⟩
theorem VFr.own{lo hi:Nat}{a b c:World}{g:Nat}(h:VFr lo hi a b)(k:b.grownBy c (some g))(hg:a.heap.size<=g):VFr lo hi a c:=
 ⟨⟨k.os.trans h.z.os,k.tape.trans h.z.tape,k.output.trans h.z.output,Nat.le_trans h.z.size k.size,λi hi hr=>(k.block i (Nat.lt_of_lt_of_le hi h.z.size) (λe=>by injection e with e;omega)).trans (h.z.block i hi hr)⟩,
  λg' t cs h1 h2 hb=>(h.o g' t cs h1 h2 hb).grown k (λe=>by injection e with e;have:=hb.lt;omega)⟩
theorem RI.fr{lo hi:Nat}{w w':World}{v:Value}{l:List Int}(h:RI w v l)(k:VFr lo hi w w'):RI w' v l:=TS.blk h (λg cs=>k.o g _ cs (by decide) (by decide))
theorem RN.fr{lo hi:Nat}{w w':World}{v:Value}{qa:List Node}(h:RN w v qa)(k:VFr lo hi w w'):RN w' v qa:=by
 obtain⟨xs,h1,h2⟩:=h;refine⟨xs,h1.blk (λg cs=>k.o g _ cs (by decide) (by decide)),λi nd hi=>?_⟩;obtain⟨f,r,k1,k2,k3,k4,k5⟩:=h2 i nd hi;exact⟨f,r,k1,k2,k3,k4.fr k,k5.fr k⟩
theorem qg.fr{lo hi base:Nat}{w w':World}{v:Value}{l:List Int}(h:qg w base v l)(k:VFr lo hi w w'):qg w' base v l:=by
 refine⟨h.1,?_⟩;rcases h.2 with h0|⟨g,cap,cur,e,h2,h3,h4⟩
 . exact .inl h0
 . exact .inr ⟨g,cap,cur,e,h2,k.o g _ cur (by decide) (by decide) h3,h4⟩
theorem j9.fr{lo hi base:Nat}{w w':World}{v:Value}{ll:List (List Int)}(h:j9 w base v ll)(k:VFr lo hi w w')(hb:hi<=base):j9 w' base v ll:=by
 obtain⟨xs,h1,h2⟩:=h;exact⟨xs,qmC h1 k.z hb,λi l hi=>let ⟨u,k1,k2⟩:=h2 i l hi;⟨u,k1,k2.fr k⟩⟩
structure VSt(qa:List Node)(V:Value)(lo hi M RB RW PB GB RO n:Nat)(w:World)(rows:List (List Int)):Prop where
 mm:∃cs,Blk w M 78 cs/\cs.size=10/\∀i:Nat,i<10->∃b,cs[i]?=some (.bool b)/\(b=true->rows[i]?=some (qdi qa i))
 rb:Blk w RB 27 #[.slice (some ⟨RW,0,none⟩) n n]
 rw:jB w lo (.slice (some ⟨RW,0,none⟩) n n) rows
 rl:rows.length=n
 pl:qa.length=n
 pb:Blk w PB 23 #[V]
 gb:Blk w GB 79 #[.func (.func 59) #[] #[.pointer (some ⟨RO,0,none⟩)]]
 ro:Blk w RO 84 #[.func (.func 56) #[] #[.pointer (some ⟨M,0,none⟩),.pointer (some ⟨RB,0,none⟩),.pointer (some ⟨PB,0,none⟩),.pointer (some ⟨GB,0,none⟩)]]
 rn:RN w V qa
 hm:lo<=M/\M<hi
 hr:lo<=RW/\RW<hi
 hh:hi<=w.heap.size
section
variable {qa:List Node}{V:Value}{lo hi M RB RW PB GB RO n:Nat}{w w':World}{rows:List (List Int)}
theorem VSt.new(h:VSt qa V lo hi M RB RW PB GB RO n w rows)(hg:w.grownBy w' none):VSt qa V lo hi M RB RW PB GB RO n w' rows:=by
 obtain⟨cs,m1,m2,m3⟩:=h.mm;exact⟨⟨cs,m1.grown hg (by simp),m2,m3⟩,h.rb.grown hg (by simp),h.rw.new hg,h.rl,h.pl,h.pb.grown hg (by simp),h.gb.grown hg (by simp),h.ro.grown hg (by simp),h.rn.new hg,h.hm,h.hr,Nat.le_trans h.hh hg.size⟩
theorem VSt.rwb(h:VSt qa V lo hi M RB RW PB GB RO n w rows)(hn:0<n):∃cur,Blk w RW 24 cur:=by
 obtain⟨g,cap,cur,e,_,_,hb,_⟩:=h.rw.qhT.form h.rl hn;injection e with e;injection e with e;injection e with e;subst e;exact⟨cur,hb⟩
theorem VSt.far(h:VSt qa V lo hi M RB RW PB GB RO n w rows){g:Nat}{cur:Array Value}(hg:w.grownBy w' (some g))(hB:Blk w g 24 cur)(hge:hi<=g):VSt qa V lo hi M RB RW PB GB RO n w' rows:=by
 have k1:VFr g (g+1) w w':=VFr.yo hg ⟨Nat.le_refl _,Nat.lt_succ_self _⟩ hB (.inr rfl);obtain⟨cs,m1,m2,m3⟩:=h.mm;obtain⟨xs,o1,o2⟩:=h.rw;have hr:=h.hr;have hh:=h.hh;refine⟨⟨cs,m1.grown hg (λe=>?_),m2,m3⟩,k1.o _ _ _ (by decide) (by decide) h.rb,⟨xs,⟨o1.1,?_⟩,λi l hi=>let ⟨u,a,b⟩:=o2 i l hi;⟨u,a,b.fr k1⟩⟩,h.rl,h.pl,k1.o _ _ _ (by decide) (by decide) h.pb,k1.o _ _ _ (by decide) (by decide) h.gb,k1.o _ _ _ (by decide) (by decide) h.ro,h.rn.fr k1,h.hm,h.hr,Nat.le_trans h.hh hg.size⟩
 . injection e with e;exact m1.ne_ hB (by decide) e
 . rcases o1.2 with h0|⟨g',cap,cur',e,h2,h3,h4⟩
   . exact .inl h0
   . injection e with e1 e2 e3;injection e1 with e1;injection e1 with e1;subst e1;exact .inr ⟨RW,cap,cur',by rw[<-e2,<-e3],h2,(hg.block RW (by omega) (λe=>by injection e with e;omega)).trans h3,h4⟩
theorem VSt.slot(h:VSt qa V lo hi M RB RW PB GB RO n w rows){k:Nat}(hk:k<n):(∃u,w.cell? ⟨RW,k,none⟩=some u)/\w.frozen? ⟨RW,k,none⟩=false:=by
 obtain⟨g,cap,cur,e,_,_,hb,hc⟩:=h.rw.qhT.form h.rl (by omega);obtain rfl:RW=g:=by injection e with e;injection e with e;injection e
 exact⟨hc k hk,hb.frozen k⟩
theorem VSt.qfE(h:VSt qa V lo hi M RB RW PB GB RO n w rows){k:Nat}(hk:k<10):(∃u,w.cell? ⟨M,k,none⟩=some u)/\w.frozen? ⟨M,k,none⟩=false:=by
 obtain⟨cs,m1,m2,m3⟩:=h.mm;obtain⟨b,b1,-⟩:=m3 k hk;exact⟨⟨_,(m1.cell k).trans b1⟩,m1.frozen k⟩
theorem VSt.gbc(h:VSt qa V lo hi M RB RW PB GB RO n w rows):w.cell? ⟨GB,0,none⟩=some (.func (.func 59) #[] #[.pointer (some ⟨RO,0,none⟩)]):=h.gb.cell 0
theorem VSt.qnM(h:VSt qa V lo hi M RB RW PB GB RO n w rows){k:Nat}(hk:k<n)(hr:rows[k]?=some (qdi qa k)):∃B m e,w.cell? ⟨RW,k,none⟩=some (.slice B m e)/\RI w (.slice B m e) (qdi qa k):=by
 obtain⟨g,o,l,B,m,e,hA,hl,hc,hrl,-,-,-⟩:=h.rw.rl.at_ hk;injection hA with hA;injection hA with hA1 hA2;subst hA1 hA2;rw[hl]at hr;injection hr with hr;subst hr;rw[Nat.zero_add]at hc;exact⟨B,m,e,hc,hrl⟩
theorem VSt.nes(h:VSt qa V lo hi M RB RW PB GB RO n w rows)(hn:0<n){x:Nat}{cs:Array Value}(hx:Blk w x 81 cs):x≠RW/\RB≠RW/\GB≠RW:=by
 obtain⟨cur,hb⟩:=h.rwb hn;exact⟨hx.ne_ hb (by decide),h.rb.ne_ hb (by decide),h.gb.ne_ hb (by decide)⟩
theorem VSt.rbc(h:VSt qa V lo hi M RB RW PB GB RO n w rows):w.cell? ⟨RB,0,none⟩=some (.slice (some ⟨RW,0,none⟩) n n):=h.rb.cell 0
theorem VSt.row(h:VSt qa V lo hi M RB RW PB GB RO n w rows){k:Nat}{u:Value}(hk:k<n)(hu:qg w lo u (qdi qa k)):VSt qa V lo hi M RB RW PB GB RO n (w.setCell ⟨RW,k,none⟩ u) (rows.set k (qdi qa k))/\VFr lo hi w (w.setCell ⟨RW,k,none⟩ u):=by
 obtain⟨cur,hB⟩:=h.rwb (by omega);have hst:w.grownBy (w.setCell ⟨RW,k,none⟩ u) (some RW):=qbf (p:=⟨RW,k,none⟩) (qah w (some RW)) (.inr rfl) _;have k1:VFr lo hi w (w.setCell ⟨RW,k,none⟩ u):=VFr.yo hst h.hr hB (.inr rfl);obtain⟨cs,m1,m2,m3⟩:=h.mm;refine⟨⟨⟨cs,m1.grown hst (λe=>?_),m2,λi hi=>?_⟩,k1.o _ _ _ (by decide) (by decide) h.rb,h.rw.jr (by rw[h.rl];exact hk) hu,by rw[length_set];exact h.rl,h.pl,k1.o _ _ _ (by decide) (by decide) h.pb,k1.o _ _ _ (by decide) (by decide) h.gb,k1.o _ _ _ (by decide) (by decide) h.ro,h.rn.fr k1,h.hm,h.hr,Nat.le_trans h.hh hst.size⟩,k1⟩
 . injection e with e;exact m1.ne_ hB (by decide) e
 . obtain⟨b,b1,b2⟩:=m3 i hi;refine⟨b,b1,λhb=>?_⟩;by_cases hik:i=k
   . subst hik;rw[getElem?_set_self (by rw[h.rl];exact hk)]
   . rw[getElem?_set_ne (λe=>hik e.symm)];exact b2 hb
theorem VSt.mark(h:VSt qa V lo hi M RB RW PB GB RO n w rows){k:Nat}(hk:k<10)(hr:rows[k]?=some (qdi qa k)):VSt qa V lo hi M RB RW PB GB RO n (w.setCell ⟨M,k,none⟩ (.bool true)) rows/\VFr lo hi w (w.setCell ⟨M,k,none⟩ (.bool true)):=by
 obtain⟨cs,m1,m2,m3⟩:=h.mm;have hst:w.grownBy (w.setCell ⟨M,k,none⟩ (.bool true)) (some M):=qbf (p:=⟨M,k,none⟩) (qah w (some M)) (.inr rfl) _;have k1:VFr lo hi w (w.setCell ⟨M,k,none⟩ (.bool true)):=VFr.yo hst h.hm m1 (.inl rfl);refine⟨⟨⟨_,m1.jr k _,by rw[Array.size_setIfInBounds];exact m2,λi hi=>?_⟩,k1.o _ _ _ (by decide) (by decide) h.rb,h.rw.grown hst (qh.blk m1 (by decide)) (qh.blk m1 (by decide)),h.rl,h.pl,k1.o _ _ _ (by decide) (by decide) h.pb,k1.o _ _ _ (by decide) (by decide) h.gb,k1.o _ _ _ (by decide) (by decide) h.ro,h.rn.fr k1,h.hm,h.hr,Nat.le_trans h.hh hst.size⟩,k1⟩;by_cases hik:i=k
 . subst hik;exact⟨true,by rw[Array.getElem?_setIfInBounds];simp[m2,hi],λ_=>hr⟩
 . obtain⟨b,b1,b2⟩:=m3 i hi;exact⟨b,by rw[Array.getElem?_setIfInBounds,if_neg (λe=>hik e.symm)];exact b1,b2⟩
def qhU(qa:List Node)(V:Value)(lo hi M RB RW PB GB RO n k:Nat)(w:World)(rows:List (List Int))(w':World):Prop:=
 ∃rows',VSt qa V lo hi M RB RW PB GB RO n w' rows'/\VFr lo hi w w'/\(∀i:Nat,rows[i]?=some (qdi qa i)->rows'[i]?=some (qdi qa i))/\rows'[k]?=some (qdi qa k)
theorem VSt.mid(h:VSt qa V lo hi M RB RW PB GB RO n w' rows){w0:World}{qcD:List (List Int)}(hfr:VFr lo hi w0 w')(hm:∀i:Nat,qcD[i]?=some (qdi qa i)->rows[i]?=some (qdi qa i)){k:Nat}{u:Value}(hk:k<n)(hu:qg w' lo u (qdi qa k)) :
   qhU qa V lo hi M RB RW PB GB RO n k w0 qcD (w'.setCell ⟨RW,k,none⟩ u):=by
 have hkl:k<rows.length:=by rw[h.rl];exact hk
 obtain⟨h1,h2⟩:=h.row hk hu;refine⟨_,h1,hfr.trans h2,λi hi=>?_,by rw[getElem?_set_self hkl]⟩;by_cases hik:i=k
 . subst hik;rw[getElem?_set_self hkl]
 . rw[getElem?_set_ne (λe=>hik e.symm)];exact hm i hi
end
def q9h(qa:List Node)(V:Value)(lo hi M RB RW PB GB RO n k:Nat)(w:World)(rows:List (List Int))(e:Ending)(w':World):Prop:=
 ∃v rows',e=.returned v/\RI w' v (qdi qa k)/\VSt qa V lo hi M RB RW PB GB RO n w' rows'/\VFr lo hi w w'/\(∀i:Nat,rows[i]?=some (qdi qa i)->rows'[i]?=some (qdi qa i))/\rows'[k]?=some (qdi qa k)
def q63(qa:List Node)(V:Value)(lo hi M RB RW PB GB RO n:Nat)(l:List Int)(w:World)(rows:List (List Int))(e:Ending)(w':World):Prop:=
 ∃v rows',e=.returned v/\RL w' v (l.map λj=>qdi qa j.toNat)/\VSt qa V lo hi M RB RW PB GB RO n w' rows'/\VFr lo hi w w'/\(∀i:Nat,rows[i]?=some (qdi qa i)->rows'[i]?=some (qdi qa i))
def qze(qa:List Node)(V:Value)(lo hi M RB RW PB GB RO n k:Nat):Prop:=
 ∀w rows,VSt qa V lo hi M RB RW PB GB RO n w rows->Calls prog 56 #[.int .i64 k,.pointer (some ⟨M,0,none⟩),.pointer (some ⟨RB,0,none⟩),.pointer (some ⟨PB,0,none⟩),.pointer (some ⟨GB,0,none⟩)] w (q9h qa V lo hi M RB RW PB GB RO n k w rows)
theorem q64{qa:List Node}{V:Value}{lo hi M RB RW PB GB RO n k:Nat}(IH:∀j,j<k->qze qa V lo hi M RB RW PB GB RO n j)(_hk:k<=n)(_hn:n<=10){v:Value}{l:List Int}{w:World}{rows:List (List Int)}(h:VSt qa V lo hi M RB RW PB GB RO n w rows)(hl:RI w v l)(hl2:l.length<=2)(hin:∀y∈l,0<=y/\y<k) :
   Calls prog 59 #[v,.pointer (some ⟨RO,0,none⟩)] w (q63 qa V lo hi M RB RW PB GB RO n l w rows):=by
 obtain⟨A,m,c,rfl,hmc,hm⟩:=hl.form';rw[<-hm]at hl2;have Hm:=Lib.hid hm;have Hin:=Lib.hid hin;have HIH:=Lib.hid IH;clear hm hin IH;obtain⟨i0,hif,hz0,hz1,hz2⟩:=info_parts qox;go_enter func59,ntmps59;go_wp2_with (at_make;go_must (refine wpList_make_full _ rfl _ _ 27 rfl w.heap.size 24 i0 _ 1 underlying27 hif hz0 hz1 _ _ _ _ m rfl rfl rfl rfl (by rw[hz2];omega) (by unfold maxLen;omega) (Nat.le_refl _) ?_));intro w1 hown hg1
 have ho1:j9 w1 w.heap.size (.slice (some ⟨w.heap.size,0,none⟩) m m) (replicate m []):=by
  refine j9.made ?_;have e:m*1=m:=Nat.mul_one m
  first|exact hown|(rw[e]at hown;exact hown)|(simp at hown;exact hown)
 have kQ:=(hown.lt w.heap.size rfl).2;clear hown;have h1:=h.new hg1;have hl1:=hl.new hg1;go_wp2_with fail;obtain⟨ll,hll⟩:∃ll,ll=l.map λj=>qdi qa j.toNat:=⟨_,rfl⟩;have hlm:Hid (ll.length=m):=by show _=_;rw[hll,length_map,Hm.out]
 have Hll:=Lib.hid hll;have hstart:Hid (j9 w1 w.heap.size (.slice (some ⟨w.heap.size,0,none⟩) m m) (ll.take 0++replicate (m-0) [])):=by show j9 _ _ _ _;simpa using ho1
 have hhi:=h.hh;have qhV:VFr lo hi w w1:=VFr.vL hg1;clear ho1 hll h hl1
 go_loopg [5,6,12] (m+1) (λmm x5 x6 i wr=>∃(q:Nat) (rws:List (List Int)),q<=m/\mm=m+1-q/\i=.int .i64 q/\VSt qa V lo hi M RB RW PB GB RO n wr rws/\VFr lo hi w wr/\Hid (∀i:Nat,rows[i]?=some (qdi qa i)->rws[i]?=some (qdi qa i))/\Hid (j9 wr w.heap.size (.slice (some ⟨w.heap.size,0,none⟩) m m) (ll.take q++replicate (m-q) []))/\w.heap.size<wr.heap.size)
 case atStart=>exact⟨0,rows,Nat.zero_le _,rfl,rfl,h1,qhV,λ_ hi=>hi,hstart,kQ⟩
 case round=>
  clear h1 hstart qhV;obtain⟨q,rws,hq,rfl,rfl,hst,hfr,hmono,hO,hsz⟩:=hrel;by_cases hlt:q<m
  . have hlr:=hl.fr hfr;obtain⟨g,o,y,rfl,hy,c0⟩:=hlr.at_ hlt;obtain⟨hy0,hy1⟩:=Hin.out y (mem_of_getElem? hy);obtain⟨j,rfl⟩:=Int.eq_ofNat_of_zero_le hy0;have hj:j<k:=by omega
    have r0:wr.cell? ⟨RO,0,none⟩=some _:=hst.ro.cell 0;have hx:ll[q]?=some (qdi qa j):=by rw[Hll.out,getElem?_map,hy];rfl
    have hset:Hid ((ll.take q++replicate (m-q) ([]:List Int)).set q (qdi qa j)=ll.take (q+1)++replicate (m-(q+1)) []):=by
     show _=_;obtain⟨hk',hx'⟩:=List.getElem?_eq_some_iff.1 hx;have hsl:(ll.take q).length=q:=by rw[length_take];omega
     rw[set_append_right _ _ (by omega),hsl,Nat.sub_self,show m-q=m-(q+1)+1 by omega,replicate_succ,set_cons_zero,take_succ_eq_append_getElem hk',hx',append_assoc];rfl
    have kK:Hid ((ll.take q++replicate (m-q) ([]:List Int)).length=m):=by
     show _=_;rw[length_append,length_replicate,length_take,hlm.out];omega
    clear hx hy hy0 hy1;go_wp2_with fail;refine(HIH.out j hj wr rws hst).mono ?_;rintro e w4 ⟨u,qcE,rfl,hu,xJ,y9,hm4,-⟩;obtain⟨A',n',c',rfl⟩:=hu.val;have hO4:=hO.out.fr y9 hhi;obtain⟨g2,qtL,qtM,he2,-,-,hB2,hc2⟩:=hO4.form kK.out (by omega);obtain rfl:w.heap.size=g2:=by injection he2 with he2;injection he2 with he2;injection he2
    clear he2;obtain⟨u0,c4⟩:=hc2 q hlt;have f4:w4.frozen? ⟨w.heap.size,q,none⟩=false:=hB2.frozen q;have hO5:=hO4.jr kK.out hlt hu;rw[hset.out]at hO5;have HO5:=Lib.hid hO5;have hgs:w4.grownBy (w4.setCell ⟨w.heap.size,q,none⟩ (.slice A' n' c')) (some w.heap.size):=qbf (p:=⟨w.heap.size,q,none⟩) (qah w4 _) (.inr rfl) _;have zK:=xJ.far hgs hB2 hhi;have qnN:VFr lo hi w (w4.setCell ⟨w.heap.size,q,none⟩ (.slice A' n' c')):=(hfr.trans y9).own hgs (Nat.le_refl _);have hm5:Hid (∀i:Nat,rows[i]?=some (qdi qa i)->qcE[i]?=some (qdi qa i)):=λi hi=>hm4 i (hmono.out i hi);have qnO:w.heap.size<(w4.setCell ⟨w.heap.size,q,none⟩ (.slice A' n' c')).heap.size:=by have:=hgs.size;have:=y9.z.size;omega
    clear hO hO4 hO5 hset hm4 hmono xJ hfr y9 hst;go_wp2;go_roundg (m+1-(q+1))
    case measure=>omega
    case rel=>exact⟨q+1,qcE,by omega,rfl,by go_num,zK,qnN,hm5,HO5,qnO⟩
  . obtain rfl:q=m:=by omega
    have hO2:RL wr (.slice (some ⟨w.heap.size,0,none⟩) q q) ll:=by
     have:=hO.out;rw[Nat.sub_self,replicate_zero,append_nil,take_of_length_le (by rw[hlm.out];exact Nat.le_refl _)]at this;exact this.rl
    rw[Hll.out]at hO2;clear hO;go_wp2;go_ret;exact⟨_,rws,rfl,hO2,hst,hfr,hmono.out⟩
theorem q65{qa:List Node}{V:Value}{lo hi M RB RW PB GB RO n k:Nat}(IH:∀j,j<k->qze qa V lo hi M RB RW PB GB RO n j)(hk:k<n)(hn:n<=10)(hv:qaf qa=true):qze qa V lo hi M RB RW PB GB RO n k:=by
 intro w rows h;obtain⟨A,n',c,rfl,hnc,hn',-⟩:=h.rn.form';obtain⟨cs,m1,m2,m3⟩:=h.mm;obtain⟨b,b1,b2⟩:=m3 k (by omega);have d0:w.cell? ⟨M,k,none⟩=some (.bool b):=(m1.cell k).trans b1;have d1:w.cell? ⟨RB,0,none⟩=some _:=h.rb.cell 0;have Hb:=Lib.hid b2;clear m1 m2 m3 b1 b2;cases b with
 |true=>
  obtain⟨g,o,l,B,m,e,hA,hl,hc,hrl,-,-,-⟩:=h.rw.rl.at_ hk;injection hA with hA;injection hA with hA1 hA2;subst hA1 hA2;have hrow:=Hb.out rfl;rw[hl]at hrow;injection hrow with hrow;subst hrow;have Hl:=Lib.hid hl;rw[Nat.zero_add]at hc;clear hl hn' hnc;go_enter func56,ntmps56;go_wp2;go_ret;exact⟨_,rows,rfl,hrl,h,VFr.refl _ _ _,λ_ hi=>hi,Hl.out⟩
 |false=>
  have qnP:n'=n:=hn'.trans h.pl;subst qnP;obtain⟨g,o,nd,f,r,rfl,hx,c0,c1,c2',hf,hr⟩:=h.rn.at_ hk;obtain⟨Af,nf,cf,rfl⟩:=hf.val;obtain⟨Ar,nr,cr,rfl⟩:=hr.val;have p0:w.cell? ⟨PB,0,none⟩=some _:=h.pb.cell 0;have Hx:=Lib.hid hx;clear hx hn';go_enter func56,ntmps56;go_upto_region 4 with fail;have hga:=grownBy_alloc w (.cells #[.int .i64 nd.kind,.slice Af nf cf,.slice Ar nr cr] 81) none;have hB:=Blk.new w 81 #[.int .i64 nd.kind,.slice Af nf cf,.slice Ar nr cr];generalize w.alloc (.cells #[.int .i64 nd.kind,.slice Af nf cf,.slice Ar nr cr] 81)=wa at hB hga |-;have a0:wa.cell? ⟨w.heap.size,0,none⟩=some (.int .i64 nd.kind):=hB.cell 0;have haD:=qay hga;have hD:=h.new haD;have hfD:VFr lo hi w wa.drew:=VFr.vL haD;have hBD:Blk wa.drew w.heap.size 81 #[.int .i64 nd.kind,.slice Af nf cf,.slice Ar nr cr]:=hB;have e0:wa.drew.cell? ⟨w.heap.size,0,none⟩=some (.int .i64 nd.kind):=hBD.cell 0;have e1:wa.drew.cell? ⟨w.heap.size,1,none⟩=some (.slice Af nf cf):=hBD.cell 1;have e2:wa.drew.cell? ⟨w.heap.size,2,none⟩=some (.slice Ar nr cr):=hBD.cell 2;have e3:=hD.rbc;have e4:=hD.gbc;have qnQ:=hf.new haD;have qnR:=hr.new haD;clear hf hr c0 c1 c2' d0 d1 p0
  go_upto_if 21 with fail
  clear a0
  go_cut [] (λwx=>qhU qa (.slice (some ⟨g,o,none⟩) n' c) lo hi M RB RW PB GB RO n' k w rows wx)
  case first=>
   by_cases hk0:nd.kind=0
   . have hb0:(nd.kind==0)=true:=by simpa using hk0
     have qaU:Hid (qdi qa k=nd.row):=q2l Hx.out hk0
     have hrl:nd.row.length<=1000000000:=by
      have:=qch ((qk5 (qbk hv Hx.out).1).2.2.2 hk0);omega
     clear hk0 IH;go_wp2_with fail
     go_region_law (go_simp;go_at_call 57;refine(qik _ nd.row _ (by exact qnR) hrl).mono ?_;rintro e w4 ⟨u,rfl,ho,hg4⟩;have f0:=hg4.cell (by exact e0) (by simp);have f2:=hg4.cell (by exact e2) (by simp);have f3:=hg4.cell (by exact e3) (by simp);have xJ:=hD.new hg4;obtain⟨⟨u9,f5⟩,f6⟩:=xJ.slot hk;obtain⟨A4,n4,c4,rfl⟩:=ho.ri.val;have qfF:=xJ.mid (hfD.trans (VFr.vL hg4)) (λ_ hi=>hi) hk (by rw[qaU.out];exact ho.lower (by have:=hD.hm;have:=hD.hh;omega)))
     all_goals
      go_wp2_with fail;go_meet;exact qfF
   . have hb0:(nd.kind==0)=false:=by simpa using hk0
     have qnS:Hid (qe1 nd.kind (nd.frm.map λj=>qdi qa j.toNat)=some (qdi qa k)):=q7x hv Hx.out hk0;have Hin:Hid (∀y∈nd.frm,0<=y/\y<(k:Int)):=(qk5 (qbk hv Hx.out).1).2.2.1;have hf2:nd.frm.length<=2:=(qbk hv Hx.out).2.1;have HIH:=Lib.hid IH;clear hk0 IH;go_wp2_with fail;obtain⟨hn1,hn2,hn3⟩:w.heap.size≠RW/\RB≠RW/\GB≠RW:=hD.nes (by omega) hBD
     go_region_held3 (λw'=>w'.cell? ⟨w.heap.size,0,none⟩=some (.int .i64 nd.kind)/\w'.cell? ⟨w.heap.size,1,none⟩=some (.slice Af nf cf)/\w'.cell? ⟨RB,0,none⟩=some (.slice (some ⟨RW,0,none⟩) n' n')/\w'.cell? ⟨GB,0,none⟩=some (.func (.func 59) #[] #[.pointer (some ⟨RO,0,none⟩)])) (go_keep) (first
      |(go_at_call 59;refine(q64 HIH.out (Nat.le_of_lt hk) hn (by exact hD) (by exact qnQ) hf2 Hin.out).mono ?_;rintro e w4 ⟨v4,qtN,rfl,hv4,xJ,y9,hm4⟩;have hB4:=y9.o _ _ _ (by decide) (by decide) hBD;have f0:w4.cell? ⟨w.heap.size,0,none⟩=some (.int .i64 nd.kind):=hB4.cell 0;have f1:w4.cell? ⟨w.heap.size,1,none⟩=some (.slice Af nf cf):=hB4.cell 1;have f3:=xJ.rbc;have f4:=xJ.gbc;obtain⟨A4,n4,c4,rfl⟩:=hv4.val)
      |(go_at_call 58;refine(qvv nd.kind _ _ w4 (by exact hv4)).mono ?_;rw[qnS.out];rintro e w5 ⟨u,rfl,ho,hg5⟩;have q0:=hg5.cell (by exact f0) (by simp);have q1:=hg5.cell (by exact f1) (by simp);have q4:=hg5.cell (by exact f4) (by simp);have q3:=hg5.cell (by exact f3) (by simp);have zK:=xJ.new hg5;obtain⟨⟨u9,q5⟩,q6⟩:=zK.slot hk;obtain⟨A5,n5,c5,rfl⟩:=ho.ri.val;have qfF:=zK.mid (hfD.trans (y9.trans (VFr.vL hg5))) hm4 hk (by exact ho.lower (by have:=xJ.hm;have:=xJ.hh;omega));have gs:w5.grownBy (w5.setCell ⟨RW,k,none⟩ (.slice A5 n5 c5)) (some RW):=qbf (p:=⟨RW,k,none⟩) (qah w5 _) (.inr rfl) _;have s0:=gs.cell (by exact q0) (λe=>hn1 (by injection e));have s1:=gs.cell (by exact q1) (λe=>hn1 (by injection e));have s3:=gs.cell (by exact q3) (λe=>hn2 (by injection e));have s4:=gs.cell (by exact q4) (λe=>hn3 (by injection e))))
     all_goals
      go_wp2_with fail;go_meet;exact qfF
  case rest=>
   obtain⟨rows',hst,hfr,hm,hk2⟩:=hcut;have qfG:k<10:=by omega
   obtain⟨⟨u9,q5⟩,q6⟩:=hst.qfE qfG;obtain⟨qdJ,qhW⟩:=hst.mark qfG hk2;have qhX:=hfr.trans qhW;obtain⟨B,m,e,q1,hrl⟩:=qdJ.qnM hk hk2;have q3:=qdJ.rbc;have Hm:=Lib.hid hm;have Hk2:=Lib.hid hk2;clear hm hk2 hst hfr qhW;go_upto_region 8 with fail;generalize wc.setCell ⟨M,k,none⟩ (.bool true)=wz at qdJ qhX q1 hrl q3 |-;go_wp2;go_ret;exact⟨_,rows',rfl,hrl,qdJ,qhX,Hm.out,Hk2.out⟩
theorem q9i{qa:List Node}{V:Value}{lo hi M RB RW PB GB RO n:Nat}(hn:n<=10)(hv:qaf qa=true):∀k,k<n->qze qa V lo hi M RB RW PB GB RO n k:=by
 intro k
 induction k using Nat.strongRecOn with
 |ind k ih=>exact λhk=>q65 (λj hj=>ih j hj (by omega)) hk hn hv
theorem VSt.start{w:World}{qa:List Node}{V:Value}{lo PB RW n:Nat}(hB:Blk w PB 23 #[V])(hr:RN w V qa)(ho:jB w lo (.slice (some ⟨RW,0,none⟩) n n) (replicate n []))(hn:qa.length=n)(h1:lo<=RW)(h2:RW<w.heap.size) :
   ∃W:World,W=((((w.alloc (.cells #[.slice (some ⟨RW,0,none⟩) n n] 27)).alloc (.cells #[.bool false,.bool false,.bool false,.bool false,.bool false,.bool false,.bool false,.bool false,.bool false,.bool false] 78)).alloc (.cells #[.func (.func 59) #[] #[.pointer (some ⟨w.heap.size+1+1+1,0,none⟩)]] 79)).alloc
    (.cells #[.func (.func 56) #[] #[.pointer (some ⟨w.heap.size+1,0,none⟩),.pointer (some ⟨w.heap.size,0,none⟩),.pointer (some ⟨PB,0,none⟩),.pointer (some ⟨w.heap.size+1+1,0,none⟩)]] 84))
    /\ VSt qa V lo (w.heap.size+1+1+1+1) (w.heap.size+1) w.heap.size RW PB (w.heap.size+1+1) (w.heap.size+1+1+1) n W (replicate n [])/\w.grownBy W none:=by
 generalize ho1:Obj.cells #[.slice (some ⟨RW,0,none⟩) n n] 27=o1;generalize ho2:Obj.cells #[.bool false,.bool false,.bool false,.bool false,.bool false,.bool false,.bool false,.bool false,.bool false,.bool false] 78=o2;generalize ho3:Obj.cells #[.func (.func 59) #[] #[.pointer (some ⟨w.heap.size+1+1+1,0,none⟩)]] 79=o3;generalize ho4:Obj.cells #[.func (.func 56) #[] #[.pointer (some ⟨w.heap.size+1,0,none⟩),.pointer (some ⟨w.heap.size,0,none⟩),.pointer (some ⟨PB,0,none⟩),.pointer (some ⟨w.heap.size+1+1,0,none⟩)]] 84=o4;have hg:w.grownBy ((((w.alloc o1).alloc o2).alloc o3).alloc o4) none:=qar (qar (qar (qar (qah w none) _) _) _) _;have b1:Blk (w.alloc o1) w.heap.size 27 _:=ho1▸Blk.new w _ _;have b2:=Blk.new (w.alloc o1) 78 #[.bool false,.bool false,.bool false,.bool false,.bool false,.bool false,.bool false,.bool false,.bool false,.bool false];rw[size_alloc,ho2]at b2;have b3:=Blk.new ((w.alloc o1).alloc o2) 79 #[.func (.func 59) #[] #[.pointer (some ⟨w.heap.size+1+1+1,0,none⟩)]];rw[size_alloc,size_alloc,ho3]at b3;have b4:=Blk.new (((w.alloc o1).alloc o2).alloc o3) 84 #[.func (.func 56) #[] #[.pointer (some ⟨w.heap.size+1,0,none⟩),.pointer (some ⟨w.heap.size,0,none⟩),.pointer (some ⟨PB,0,none⟩),.pointer (some ⟨w.heap.size+1+1,0,none⟩)]];rw[size_alloc,size_alloc,size_alloc,ho4]at b4;refine⟨_,rfl,⟨⟨_,(b2.alloc _).alloc _,rfl,λi hi=>⟨false,?_,λe=>by cases e⟩⟩,((b1.alloc _).alloc _).alloc _,ho.new hg,by simp,hn,hB.grown hg (by simp),b3.alloc _,b4,hr.new hg,⟨by omega,by omega⟩,⟨h1,by omega⟩,?_⟩,hg⟩
 . have:i=0∨i=1∨i=2∨i=3∨i=4∨i=5∨i=6∨i=7∨i=8∨i=9:=by omega
   rcases this with rfl|rfl|rfl|rfl|rfl|rfl|rfl|rfl|rfl|rfl<;>rfl
 . rw[size_alloc,size_alloc,size_alloc,size_alloc];exact Nat.le_refl _
def qmf(w:World)(qa:List Node)(e:Ending)(w':World):Prop:=
 ∃v,e=.returned (.tuple #[v,.bool (qaf qa)])/\jB w' w.heap.size v (if qaf qa=true then values qa else [])/\w.grownBy w' none
theorem ql6(v:Value)(qa:List Node)(w:World)(h:RN w v qa):Calls prog 23 #[v] w (qmf w qa):=by
 obtain⟨A,n,c,rfl,hnc,hn,hn9⟩:=h.form';have Hn:=Lib.hid hn;clear hn hn9;cases hv:qaf qa with
 |false=>
  have Hv:=Lib.hid hv;clear hv;go_enter func23,ntmps23;go_wp2_with fail;refine(qb8 _ qa _ (h.alloc _) Hv.out).mono ?_;rintro e w1 ⟨rfl,hg1⟩;go_wp2_with fail
  go_ret2
  have hfin:qmf w qa (.returned (.tuple #[.slice none 0 0,.bool false])) w1:=by
   refine⟨_,by rw[Hv.out],?_,qad (grownBy_alloc w _ none) hg1⟩;rw[Hv.out];exact jB.nil _ _
  exact hfin
 |true=>
  have vV:n<=10:=by have:=qap hv;have:=Hn.out;omega
  have Hv:=Lib.hid hv;clear hv;obtain⟨i0,hif,hz0,hz1,hz2⟩:=info_parts qox;have hga:=grownBy_alloc w (.cells #[.slice A n c] 23) none;have hB:=Blk.new w 23 #[.slice A n c];go_enter func23,ntmps23;go_upto_region 1 with fail;generalize w.alloc (.cells #[.slice A n c] 23)=wa at hB hga |-;have a0:wa.cell? ⟨w.heap.size,0,none⟩=some (.slice A n c):=hB.cell 0;go_wp2_with fail;refine(qb8 _ qa _ (h.new hga) Hv.out).mono ?_;rintro e w1 ⟨rfl,hg1⟩;have hB1:=hB.grown hg1 (by simp);have b0:w1.cell? ⟨w.heap.size,0,none⟩=some (.slice A n c):=hB1.cell 0;go_upto_region 4 with (at_make;go_must (refine wpList_make_full _ rfl _ _ 27 rfl w1.heap.size 24 i0 _ 1 underlying27 hif hz0 hz1 _ _ _ _ n rfl rfl rfl rfl (by rw[hz2];omega) (by unfold maxLen;omega) (Nat.le_refl _) ?_));intro w2 hown hg2
  have ho:jB w2 w1.heap.size (.slice (some ⟨w1.heap.size,0,none⟩) n n) (replicate n []):=by
   refine jB.made ?_;have e:n*1=n:=Nat.mul_one n
   first|exact hown|(rw[e]at hown;exact hown)|(simp at hown;exact hown)
  have qfB:=(hown.lt w1.heap.size rfl).2;clear hown;go_upto_region 8 with fail;have qfH:=qad hga (qad hg1 hg2);obtain⟨W,hW,hst,hgW⟩:=VSt.start (hB1.grown hg2 (by simp)) (h.new qfH) ho Hn.out.symm (Nat.le_refl _) qfB;rw[<-hW];have qhY:=qad qfH hgW;have hlo:w.heap.size<=w1.heap.size:=(qad hga hg1).size;clear hW hgW ho qfH hg2 hg1 hga hB1 hB a0 b0;have p0:W.cell? ⟨w.heap.size,0,none⟩=some (.slice A n c):=hst.pb.cell 0;generalize w2.heap.size=z2 at hst |-;generalize w1.heap.size=z1 at hst hlo |-;go_wp2_with fail;clear p0
  go_loopg [8,19] (n+1) (λmm x8 i wr=>∃(q:Nat) (rws:List (List Int)),q<=n/\mm=n+1-q/\i=.int .i64 q/\VSt qa (.slice A n c) z1 (z2+1+1+1+1) (z2+1) z2 z1 w.heap.size (z2+1+1) (z2+1+1+1) n wr rws/\w.grownBy wr none/\Hid (∀i:Nat,i<q->rws[i]?=some (qdi qa i)))
  case atStart=>exact⟨0,_,Nat.zero_le _,rfl,rfl,hst,qhY,λi hi=>absurd hi (Nat.not_lt_zero _)⟩
  case round=>
   clear hst qhY;obtain⟨q,rws,hq,rfl,rfl,hst,hg,yI⟩:=hrel;by_cases hlt:q<n
   . have r0:wr.cell? ⟨z2+1+1+1,0,none⟩=some _:=hst.ro.cell 0;go_wp2_with fail;refine(q9i vV Hv.out q hlt wr rws hst).mono ?_;rintro e w4 ⟨u,qcE,rfl,hu,xJ,y9,hm4,hk4⟩;have hg4:=y9.z.gb hg hlo
     have hd4:Hid (∀i:Nat,i<q+1->qcE[i]?=some (qdi qa i)):=λi hi=>by
      by_cases hiq:i=q
      . subst hiq;exact hk4
      . exact hm4 i (yI.out i (by omega))
     obtain⟨A',n',c',rfl⟩:=hu.val;clear hm4 hk4 yI hst y9 hg r0;go_wp2;go_roundg (n+1-(q+1))
     case measure=>omega
     case rel=>exact⟨q+1,qcE,by omega,rfl,by go_num,xJ,hg4,hd4⟩
   . obtain rfl:q=n:=by omega
     have hrows:rws=values qa:=by
      apply ext_getElem?;intro i;by_cases hi:i<q
      . rw[yI.out i hi,qk4 (by rw[<-Hn.out];exact hi)]
      . rw[getElem?_eq_none (by rw[hst.rl];omega),getElem?_eq_none (by rw[qhj,<-Hn.out];omega)]
     have hR:=hst.rw.low hlo;rw[hrows]at hR;have q0:=hst.rbc
     have hfin:Hid (qmf w qa (.returned (.tuple #[.slice (some ⟨z1,0,none⟩) q q,.bool true])) wr):=by
      refine⟨_,by rw[Hv.out],?_,hg⟩;rw[Hv.out];exact hR
     clear hrows yI hst;go_wp2_with fail
     go_ret2
     exact hfin
def q3w(w:World)(qa:List Node)(k:Nat)(e:Ending)(w':World):Prop:=∃v,e=.returned (.tuple #[v,.bool true])/\qg w' w.heap.size v (qdi qa k)/\w.grownBy w' none
theorem q3x(v:Value)(qa:List Node)(k:Nat)(w:World)(h:RN w v qa)(hv:qaf qa=true)(hk:k<qa.length):Calls prog 183 #[v,.int .i64 k] w (q3w w qa k):=by
 obtain⟨A,n,c,rfl,hnc,hn,hn9⟩:=h.form';have Hn:=Lib.hid hn;have Hv:=Lib.hid hv;have hkn:k<n:=by omega
 clear hn hn9 hv hk;go_enter func183,ntmps183;go_wp2_with fail;refine(ql6 _ qa w h).mono ?_;rw[show qmf w qa=λe w'=>∃v,e=.returned (.tuple #[v,.bool (qaf qa)])/\jB w' w.heap.size v (if qaf qa=true then values qa else [])/\w.grownBy w' none from rfl,Hv.out,if_pos rfl];rintro e w1 ⟨rv,rfl,hrv,hg1⟩;obtain⟨A2,n2,c2,rfl,qnT,hn2,-⟩:=hrv.rl.form';have qnU:n2=n:=by rw[hn2,qhj];exact Hn.out.symm
 subst qnU;clear hn2;obtain⟨g3,l,u3,rfl,hl,hcl,hrl⟩:=hrv.at_ hkn
 have hval:l=qdi qa k:=by
  rw[qk4 (by rw[<-Hn.out];exact hkn)]at hl;injection hl with hl;exact hl.symm
 subst hval;clear hl;obtain⟨B3,m3,e3,rfl⟩:=hrl.ri.val;go_wp2_with fail;refine(qgk A n2 c (k:Int) _ (b:=true) (by simp;omega)).mono ?_;rintro e w2 ⟨rfl,rfl⟩;go_wp2_with fail
 go_ret2
 exact⟨_,rfl,hrl,hg1⟩
end
end Go.Proofs.YtacemdoejblgaaaGreatDoor

/- Part M06. Conditions: each statement's. -/
import Derived.Test.YtacemdoejblgaaaGreatDoorT01
import Derived.Deep.RegionHeld3
import Derived.Deep.LoopGhost
import Derived.Deep.DeepCutAuto
import Derived.LaidEqlPtr
namespace Go.Proofs.YtacemdoejblgaaaGreatDoor
open _root_.Array renaming getElem?_setIfInBounds_ne→Ab,getElem?_eq_getElem→Ah,getElem?_eq_some_iff→Ai
open Bool renaming and_eq_false_iff→Aj,true_and→Am,and_eq_true→Ap
open Go renaming World→As,Value→At,Calls→Ax,FuncId→Ay,results_none→Az,bodyPost_ret→AA
open Tryz renaming prog→AB,underlying124→AD,ntmps142→AE,func142→AF,underlying177→AG,ntmps186→AH,ntmps185→AI,ntmps149→AJ,ntmps143→AK,ntmps93→AL,ntmps92→AM,ntmps74→AN,func186→AO,func185→AP,func149→AQ,func143→AR,func93→AS,func92→AT,func74→AU
open World renaming grownBy_alloc→AV,size_setCell→AW,ownsRow_nil→AX
open World.ownsRow renaming stored→AY,lt→AZ
open List renaming getElem?_eq_getElem→B9,getElem?_eq_some_iff→Ba,mem_of_getElem?→Bb,getElem?_set_ne→Bc,take_of_length_le→Be,getElem?_set_self→Bf,take_succ_eq_append_getElem→Bg,length_take→Bh,getElem?_replicate→Bi,replicate→Bj,getElem?_map→Bm,length_set→Bn,getElem?_take→Bo,all_eq_false→Bp,range→Bq,mem_append→Br,length_replicate→Bs,length_append→Bt,ext_getElem?→Bu,take_length→Bv,pairwise_append→By,getElem?_range→Bz,length_range→BA,getElem?_set→BB,getElem_mem→BC,all_eq_true→BE,sum_append→BF,map_append→BG
open Nat renaming zero_le→BH,le_trans→BI,le_refl→BJ,lt_of_lt_of_le→BK,min_eq_left→BL,sub_self→BM,le_succ→BN
open World Value
set_option maxRecDepth 100000
set_option maxHeartbeats 6400000
variable {cs:Array At}{ll:List (List Int)}{l:List Int}{qa:List Node}{xs ys:List At}{B0 N c cap g hi hi' i j k lo lo' m n s size:Nat}{B:Nat->Nat}{R:Nat->At×List Nat}{A:Option Addr}{E:TypeId}{f r v v':At}{a b w w':As}
section
open Go.RowKit
def qY(B0:Nat)(w:As)(v:At)(l:List Int):Prop:=
 ∃A n c,v=.slice A n c/\n<=c/\n=l.length/\n<=9223372036854775807/\∀j x,l[j]?=some x->∃g o,A=some ⟨g,o,none⟩/\g<B0/\w.cell? ⟨g,o+j,none⟩=some (.int .i64 x)
section
variable {B0:Nat}{w w':As}{v:At}{l:List Int}
theorem qY.kept{row:Option Nat}(h:qY B0 w v l)(hg:w.grownBy w' row)(hB:B0<=w.heap.size)(hr:∀g,row=some g->B0<=g):qY B0 w' v l:=by
 obtain⟨A,n,c,h1,h2,h3,h4,h5⟩:=h;refine⟨A,n,c,h1,h2,h3,h4,λj x hx=>?_⟩;obtain⟨g,o,k1,k2,k3⟩:=h5 j x hx;refine⟨g,o,k1,k2,?_⟩;rw[qis hg (by show g<_;omega) (λe=>by have:=hr _ e;simp at this;omega)];exact k3
theorem qY.new(h:qY B0 w v l)(hg:w.grownBy w' none)(hB:B0<=w.heap.size):qY B0 w' v l:=h.kept hg hB (λ_ e=>by cases e)
theorem qY.form(h:qY B0 w v l):∃A n c,v=.slice A n c/\n<=c/\n=l.length/\n<=9223372036854775807:=by
 obtain⟨A,n,c,h1,h2,h3,h4,_⟩:=h;exact⟨A,n,c,h1,h2,h3,h4⟩
theorem qY.at_(h:qY B0 w (.slice A n c) l)(hk:k<n):∃g o x,A=some ⟨g,o,none⟩/\g<B0/\l[k]?=some x/\w.cell? ⟨g,o+k,none⟩=some (.int .i64 x):=by
 obtain⟨A',n',c',h1,h2,h3,h4,h5⟩:=h;injection h1 with e1 e2 e3;subst e1 e2 e3;have hx:l[k]?=some l[k]:=B9 (by omega);obtain⟨g,o,k1,k2,k3⟩:=h5 k _ hx;exact⟨g,o,_,k1,k2,hx,k3⟩
end
theorem take_set{α:Type}(z:α){l:List α}{x:α}(h:l[k]?=some x)(hn:n=l.length):(l.take k++Bj (n-k) z).set k x=l.take (k+1)++Bj (n-(k+1)) z:=by
 obtain⟨hk,rfl⟩:=Ba.1 h;apply Bu;intro i;rw[BB];simp only[List.getElem?_append,Bt,Bh,Bs,Bo,Bi];rw[BL (by omega),BL (by omega)];rcases Nat.lt_trichotomy i k with hi|hi|hi
 . rw[if_neg (by omega),if_pos hi,if_pos hi,if_pos (by omega),if_pos (by omega)]
 . subst hi;rw[if_pos rfl,if_pos (by omega),if_pos (by omega),if_pos (by omega)];exact(B9 hk).symm
 . rw[if_neg (by omega),if_neg (by omega),if_neg (show ¬i<k+1 by omega)];by_cases h2:i<n
   . rw[if_pos (by omega),if_pos (by omega)]
   . rw[if_neg (by omega),if_neg (by omega)]
theorem qkn{a b:Addr}{n' c':Nat}(h:slice (some a) n c=.slice (some b) n' c'):a.block=b.block:=by
 injection h with e;injection e with e;rw[e]
theorem qe3(v v':At)(l:List Int)(w:As)(h:RI w v l)(h':RI w v' l):Ax AB 29 #[v,v'] w λe w'=>e=.returned (.bool true)/\w.grownBy w' none:=by
 obtain⟨A,n,c,rfl,h2,h3⟩:=h.form';obtain⟨A',n',c',rfl,h2',h3'⟩:=h'.form';have hle:=h.le;obtain rfl:n=n':=by omega
 have hn:n<=9223372036854775807:=by omega
 clear h3 h3' hle;go_enter Tryz.func29,Tryz.ntmps29;go_wp2_with fail
 go_loopw [5] (λi wr=>∃k:Nat,k<=n/\i=.int .i64 k/\w.grownBy wr none) (λi _=>n-(intOf i).toNat)
 case atStart=>exact⟨0,BH _,rfl,qag _ _⟩
 case round=>
  obtain⟨k,hk,rfl,hg⟩:=hrel;have hw:=h.new hg;have hw':=h'.new hg;by_cases hlt:k<n
  . obtain⟨g,o,x,rfl,hx,c0⟩:=hw.at_ hlt;obtain⟨g',o',x',rfl,hx',c1⟩:=hw'.at_ hlt;obtain rfl:x=x':=by rw[hx]at hx';injection hx'
    clear hx hx';go_wp2_with fail
    go_quiet (fail)
    go_wp2;go_roundw
    case rel=>exact⟨k+1,by omega,by go_num,qca hg _⟩
    case measure=>simp[intOf];omega
  . go_wp2;go_ret;exact⟨rfl,hg⟩
def jK(B0:Nat)(w:As)(v:At)(qa:List Node):Prop:=
 ∃A n c,v=.slice A n c/\n<=c/\n=qa.length/\n<=9223372036854775807/\∀k nd,qa[k]?=some nd->∃g o f r,A=some ⟨g,o,none⟩/\g<B0 /\
  w.cell? ⟨g,o+k*3,none⟩=some (.int .i64 nd.kind)/\w.cell? ⟨g,o+k*3+1,none⟩=some f/\w.cell? ⟨g,o+k*3+2,none⟩=some r/\qY B0 w f nd.frm/\qY B0 w r nd.row
theorem jK.kept{row:Option Nat}(h:jK B0 w v qa)(hg:w.grownBy w' row)(hB:B0<=w.heap.size)(hr:∀g,row=some g->B0<=g):jK B0 w' v qa:=by
 obtain⟨A,n,c,h1,h2,h3,h4,h5⟩:=h;refine⟨A,n,c,h1,h2,h3,h4,λk nd hx=>?_⟩;obtain⟨g,o,f,r,k1,k2,k3,k4,k5,k6,k7⟩:=h5 k nd hx;have e:∀j,w'.cell? ⟨g,j,none⟩=w.cell? ⟨g,j,none⟩:=λj=>qis hg (by show g<_;omega) (λe=>by have:=hr _ e;simp at this;omega);exact⟨g,o,f,r,k1,k2,by rw[e];exact k3,by rw[e];exact k4,by rw[e];exact k5,k6.kept hg hB hr,k7.kept hg hB hr⟩
theorem jK.new(h:jK B0 w v qa)(hg:w.grownBy w' none)(hB:B0<=w.heap.size):jK B0 w' v qa:=h.kept hg hB (λ_ e=>by cases e)
theorem jK.form(h:jK B0 w v qa):∃A n c,v=.slice A n c/\n<=c/\n=qa.length/\n<=9223372036854775807:=by
 obtain⟨A,n,c,h1,h2,h3,h4,_⟩:=h;exact⟨A,n,c,h1,h2,h3,h4⟩
theorem jK.at_(h:jK B0 w (.slice A n c) qa)(hk:k<n):∃g o nd f r,A=some ⟨g,o,none⟩/\g<B0/\qa[k]?=some nd /\
   w.cell? ⟨g,o+k*3,none⟩=some (.int .i64 nd.kind)/\w.cell? ⟨g,o+k*3+1,none⟩=some f/\w.cell? ⟨g,o+k*3+2,none⟩=some r/\qY B0 w f nd.frm/\qY B0 w r nd.row:=by
 obtain⟨A',n',c',h1,h2,h3,h4,h5⟩:=h;injection h1 with e1 e2 e3;subst e1 e2 e3;have hx:qa[k]?=some qa[k]:=B9 (by omega);obtain⟨g,o,f,r,k1,k2,k3,k4,k5,k6,k7⟩:=h5 k _ hx;exact⟨g,o,_,f,r,k1,k2,hx,k3,k4,k5,k6,k7⟩
def DC(w:As)(base:Nat)(xs:List At)(i:Nat)(nd:Node):Prop:=
 ∃f r,xs[i*3]?=some (.int .i64 nd.kind)/\xs[i*3+1]?=some f/\xs[i*3+2]?=some r/\qf w base f nd.frm/\qf w base r nd.row
def DN(w:As)(base:Nat)(v:At)(qa:List Node):Prop:=∃xs,w.ownsRow base 81 3 v qa.length xs/\∀i nd,qa[i]?=some nd->DC w base xs i nd
theorem DN.own{base:Nat}(h:DN w base v qa):xo w base v qa:=by
 obtain⟨xs,h1,h2⟩:=h;refine⟨xs,h1,λi nd hi=>?_⟩;obtain⟨f,r,k1,k2,k3,k4,k5⟩:=h2 i nd hi;exact⟨f,r,k1,k2,k3,k4.ri,k5.ri⟩
theorem DN.rn{base:Nat}(h:DN w base v qa):RN w v qa:=h.own.rn
theorem DN.new{base:Nat}(h:DN w base v qa)(hg:w.grownBy w' none):DN w' base v qa:=by
 obtain⟨xs,h1,h2⟩:=h;refine⟨xs,qce h1 hg (qg.none _ _),λi nd hi=>?_⟩;obtain⟨f,r,k1,k2,k3,k4,k5⟩:=h2 i nd hi;exact⟨f,r,k1,k2,k3,k4.new hg,k5.new hg⟩
theorem DN.qC{base:Nat}{nd:Node}(h:DN w base (.slice (some ⟨g,0,none⟩) n cap) qa)(hn:qa.length=n)(hk:k<n)(hf:qf w base f nd.frm)(hr:qf w base r nd.row) :
   DN (((w.setCell ⟨g,k*3,none⟩ (.int .i64 nd.kind)).setCell ⟨g,k*3+1,none⟩ f).setCell ⟨g,k*3+2,none⟩ r) base (.slice (some ⟨g,0,none⟩) n cap) (qa.set k nd):=by
 subst hn;obtain⟨xs,h1,h2⟩:=h;have s1:=AY h1 (k*3) (.int .i64 nd.kind);have s2:=AY s1.1 (k*3+1) f;have s3:=AY s2.1 (k*3+2) r;have hg:w.grownBy (((w.setCell ⟨g,k*3,none⟩ (.int .i64 nd.kind)).setCell ⟨g,k*3+1,none⟩ f).setCell ⟨g,k*3+2,none⟩ r) (some g):=qac (qac s1.2 s2.2) s3.2;have hne:qg w 3 (some g):=qg.own (v:=.slice (some ⟨g,0,none⟩) qa.length cap) h1 (by decide);have hxl:=h1.1;refine⟨_,by rw[Bn];exact s3.1,λi x hi=>?_⟩;by_cases hik:i=k
 . subst hik;rw[Bf hk]at hi;obtain rfl:nd=x:=by simpa using hi
   refine⟨f,r,?_,?_,?_,hf.grown hg hne,hr.grown hg hne⟩
   . rw[Bc (by omega),Bc (by omega),Bf (by omega)]
   . rw[Bc (by omega),Bf (by rw[Bn];omega)]
   . rw[Bf (by rw[Bn,Bn];omega)]
 . rw[Bc (λe=>hik e.symm)]at hi;obtain⟨f',r',k1,k2,k3,k4,k5⟩:=h2 i x hi;refine⟨f',r',?_,?_,?_,k4.grown hg hne,k5.grown hg hne⟩
   all_goals rw[Bc (by omega),Bc (by omega),Bc (by omega)];assumption
theorem DN.made{base:Nat}(h:w.ownsRow base 81 3 v n (madeCells (agg #[.int .i64 0,.slice none 0 0,.slice none 0 0]).cells (n*3)).toList):DN w base v (Bj n ⟨0,[],[]⟩):=by
 refine⟨_,by rw[Bs];exact h,λi nd hi=>?_⟩
 obtain⟨hin,rfl⟩:i<n/\nd=⟨0,[],[]⟩:=by
  rw[Bi]at hi;split at hi
  . exact⟨by assumption,by injection hi with e;exact e.symm⟩
  . cases hi
 have hc:(agg #[.int .i64 0,.slice none 0 0,.slice none 0 0]).cells=#[.int .i64 0,.slice none 0 0,.slice none 0 0]:=rfl;rw[hc];refine⟨.slice none 0 0,.slice none 0 0,?_,?_,?_,qf.nil _ _,qf.nil _ _⟩
 . simp[madeCells,show i*3<n*3 by omega]
 . simp[madeCells,show i*3+1<n*3 by omega,show (i*3+1)%3=1 by omega]
 . simp[madeCells,show i*3+2<n*3 by omega,show (i*3+2)%3=2 by omega]
def qlq(qa:List Node):Prop:=qa.length<=1048576/\∀nd∈qa,nd.frm.length<=1048576/\nd.row.length<=1048576
theorem qf.lower{a b:Nat}(h:qf w a v l)(hab:b<=a):qf w b v l:=by
 refine⟨h.1,?_⟩;rcases h.2 with h0|⟨g,cap,cur,h1,h2,h3⟩
 . exact .inl h0
 . exact .inr ⟨g,cap,cur,h1,BI hab h2,h3⟩
theorem qf.keep{b:Nat}(h:qf w b v l)(hg:w.grownBy w' (some g))(hb:Blk w g E cs)(hE:3≠E):qf w' b v l:=h.grown hg (qg.blk hb hE)
def Apart(ys:List At):Prop:=ys.Pairwise λu u'=>∀g,u.ownBlock=some g->u'.ownBlock≠some g
theorem Apart.iff:Apart ys↔∀(i j:Nat) (u u':At) (g:Nat),i<j->ys[i]?=some u->ys[j]?=some u'->u.ownBlock=some g->u'.ownBlock≠some g:=by
 unfold Apart;rw[List.pairwise_iff_getElem];constructor
 . intro h i j u u' g hij hu hu' hg;obtain⟨a1,rfl⟩:=Ba.1 hu;obtain⟨b1,rfl⟩:=Ba.1 hu';exact h i j a1 b1 hij g hg
 . intro h i j hi hj hij g hg;exact h i j _ _ g hij (B9 hi) (B9 hj) hg
theorem Apart.set(h:Apart xs)(hlt:∀u∈xs,∀g,u.ownBlock=some g->g<s)(hf:∀g,f.ownBlock=some g->s<=g):Apart (xs.set k f):=by
 rw[Apart.iff]at *;intro i j u u' g hij hu hu' hg hg';rw[BB]at hu hu';split at hu
 . split at hu
   . cases hu;rw[if_neg (by omega)]at hu';have:=hlt u' (Bb hu') g hg';have:=hf g hg;omega
   . cases hu
 . split at hu'
   . split at hu'
     . cases hu';have:=hlt u (Bb hu) g hg;have:=hf g hg';omega
     . cases hu'
   . exact h i j u u' g hij hu hu' hg hg'
theorem Apart.qaD(n:Nat):Apart (Bj n (.slice none 0 0)):=by
 rw[Apart.iff];intro i j u u' g _ hu _ hg;rw[Bi]at hu;split at hu
 . cases hu;cases hg
 . cases hu
theorem Apart.join(h1:Apart xs)(h2:Apart ys)(hx:∀u∈xs,∀g,u.ownBlock=some g->g<s)(hy:∀u∈ys,∀g,u.ownBlock=some g->s<=g):Apart (xs++ys):=by
 unfold Apart at *;rw[By];refine⟨h1,h2,λa ha b hb g hg hg'=>?_⟩;have:=hx a ha g hg;have:=hy b hb g hg';omega
theorem Apart.one(u:At):Apart [u]:=List.pairwise_singleton _ _
theorem Apart.left(h:Apart (xs++ys)):Apart xs:=(By.1 h).1
def LX(w:As)(base:Nat)(v:At)(ll:List (List Int))(xs:List At):Prop:=
 w.ownsRow base 24 1 v ll.length xs/\∀(i:Nat) (l:List Int),ll[i]?=some l->∃u,xs[i]?=some u/\qf w base u l
def jf(w:As)(base:Nat)(v:At)(ll:List (List Int)):Prop:=∃xs,LX w base v ll xs/\Apart xs
section
variable {w w':As}{v:At}{ll:List (List Int)}{base:Nat}{row:Option Nat}{xs:List At}
theorem LX.grown(h:LX w base v ll xs)(hg:w.grownBy w' row)(hr:qg w 3 row)(hr':qg w 24 row):LX w' base v ll xs:=by
 refine⟨qce h.1 hg hr',λi l hi=>?_⟩;obtain⟨u,k1,k2⟩:=h.2 i l hi;exact⟨u,k1,k2.grown hg hr⟩
theorem LX.new(h:LX w base v ll xs)(hg:w.grownBy w' none):LX w' base v ll xs:=h.grown hg (qg.none _ _) (qg.none _ _)
theorem LX.rl(h:LX w base v ll xs):RL w v ll:=⟨xs,TS.j8 h.1,λi l hi=>let ⟨u,k1,k2⟩:=h.2 i l hi;⟨u,k1,k2.ri⟩⟩
theorem LX.lt(h:LX w base v ll xs):∀g,v.ownBlock=some g->base<=g/\g<w.heap.size:=AZ h.1
theorem LX.len(h:LX w base v ll xs):xs.length=ll.length:=by have:=h.1.1;omega
theorem LX.lts(h:LX w base v ll xs):∀u∈xs,∀g,u.ownBlock=some g->base<=g/\g<w.heap.size:=by
 intro u hu g hg;obtain⟨i,hi,rfl⟩:=List.getElem_of_mem hu;have hl:=h.len;obtain⟨u',k1,k2⟩:=h.2 i _ (B9 (by omega));rw[B9 hi]at k1;cases k1;exact k2.lt g hg
theorem LX.nil(w:As)(base:Nat):LX w base (.slice none 0 0) [] []:=⟨AX _ _ _ _,λi nd h=>by simp at h⟩
theorem LX.low{a b:Nat}(h:LX w a v ll xs)(hab:b<=a):LX w b v ll xs:=by
 refine⟨⟨h.1.1,?_⟩,λi l hi=>let ⟨u,k1,k2⟩:=h.2 i l hi;⟨u,k1,k2.lower hab⟩⟩;rcases h.1.2 with h0|⟨g,cap,cur,h1,h2,h3⟩
 . exact .inl h0
 . exact .inr ⟨g,cap,cur,h1,BI hab h2,h3⟩
theorem jf.grown(h:jf w base v ll)(hg:w.grownBy w' row)(hr:qg w 3 row)(hr':qg w 24 row):jf w' base v ll:=let ⟨xs,h1,h2⟩:=h;⟨xs,h1.grown hg hr hr',h2⟩
theorem jf.new(h:jf w base v ll)(hg:w.grownBy w' none):jf w' base v ll:=h.grown hg (qg.none _ _) (qg.none _ _)
end
theorem LX.cell{base:Nat}(h:LX w base (.slice (some ⟨g,0,none⟩) n cap) ll xs)(hk:k<ll.length):∃u,w.cell? ⟨g,k,none⟩=some u/\w.frozen? ⟨g,k,none⟩=false:=by
 rcases h.1.2 with ⟨e0,hz⟩|⟨g',cap',cur,e0,hb,hh,hn,hm,hcs,ht⟩
 . cases e0
 . injection e0 with e1 e2 e3;injection e1 with e1;injection e1 with e1;subst e1 e3;have hB:Blk w g 24 cur:=hh;refine⟨cur[k]'(by rw[hcs];omega),?_,hB.frozen _⟩;rw[hB.cell];exact Ah (by rw[hcs];omega)
theorem LX.qC{base:Nat}(h:LX w base (.slice (some ⟨g,0,none⟩) n cap) ll xs)(hk:k<ll.length)(hf:qf w base f l) :
   LX (w.setCell ⟨g,k,none⟩ f) base (.slice (some ⟨g,0,none⟩) n cap) (ll.set k l) (xs.set k f):=by
 have hxl:=h.len;obtain⟨h1,h2⟩:=h
 have hn:n=ll.length:=by
  rcases h1.2 with ⟨e0,hz⟩|⟨g',cap',cur,e0,_⟩
  . cases e0
  . injection e0
 subst hn;have s1:=AY h1 k f;have hne:qg w 3 (some g):=qg.own (v:=.slice (some ⟨g,0,none⟩) ll.length cap) h1 (by decide);refine⟨by rw[Bn];exact s1.1,λi x hi=>?_⟩;by_cases hik:i=k
 . subst hik;rw[Bf hk]at hi;obtain rfl:l=x:=by simpa using hi
   exact⟨f,by rw[Bf (by omega)],hf.grown s1.2 hne⟩
 . rw[Bc (λe=>hik e.symm)]at hi;obtain⟨u,k1,k2⟩:=h2 i x hi;exact⟨u,by rw[Bc (λe=>hik e.symm)];exact k1,k2.grown s1.2 hne⟩
theorem jf.cell{base:Nat}(h:jf w base (.slice (some ⟨g,0,none⟩) n cap) ll)(hk:k<ll.length):∃u,w.cell? ⟨g,k,none⟩=some u/\w.frozen? ⟨g,k,none⟩=false:=let ⟨_,h1,_⟩:=h;h1.cell hk
theorem jf.qC{base:Nat}(h:jf a base (.slice (some ⟨g,0,none⟩) n cap) ll)(hg:a.grownBy w none)(hb:base<=a.heap.size)(hk:k<ll.length)(hf:qf w a.heap.size f l) :
   jf (w.setCell ⟨g,k,none⟩ f) base (.slice (some ⟨g,0,none⟩) n cap) (ll.set k l):=by
 obtain⟨xs,h1,h2⟩:=h;exact⟨xs.set k f,(h1.new hg).qC hk (hf.lower hb),h2.set (λu hu g hg=>(h1.lts u hu g hg).2) (λg hg=>(hf.lt g hg).1)⟩
theorem jf.made{base:Nat}(h:w.ownsRow base 24 1 v n (madeCells (slice none 0 0).cells n).toList):jf w base v (Bj n []):=by
 have hc:(madeCells (slice none 0 0).cells n).toList=Bj n (.slice none 0 0):=by
  have hc0:(slice none 0 0).cells=#[.slice none 0 0]:=rfl;rw[hc0];apply Bu;intro i;rw[Bi];by_cases hi:i<n
  . simp[madeCells,hi,Nat.mod_one]
  . simp[madeCells,hi]
 rw[hc]at h;refine⟨_,⟨by rw[Bs];exact h,λi l hi=>?_⟩,Apart.qaD n⟩
 obtain⟨hin,rfl⟩:i<n/\l=[]:=by
  rw[Bi]at hi;split at hi
  . exact⟨by assumption,by injection hi with e;exact e.symm⟩
  . cases hi
 exact⟨.slice none 0 0,by simp[hin],qf.nil _ _⟩
def qdV(ll:List (List Int)):Prop:=ll.length<=1048576/\∀l∈ll,l.length<=1048576
theorem qko(v v':At)(ll:List (List Int))(w:As)(h:RL w v ll)(h':RL w v' ll):Ax AB 28 #[v,v'] w λe w'=>e=.returned (.bool true)/\w.grownBy w' none:=by
 obtain⟨A,n,c,rfl,h2,h3,h4⟩:=h.form';obtain⟨A',n',c',rfl,h2',h3',h4'⟩:=h'.form';obtain rfl:n=n':=by omega
 clear h3 h3';go_enter Tryz.func28,Tryz.ntmps28;go_wp2_with fail
 go_loopw [5] (λi wr=>∃k:Nat,k<=n/\i=.int .i64 k/\w.grownBy wr none) (λi _=>n-(intOf i).toNat)
 case atStart=>exact⟨0,BH _,rfl,qag _ _⟩
 case round=>
  obtain⟨k,hk,rfl,hg⟩:=hrel;have hw:=h.new hg;have hw':=h'.new hg;by_cases hlt:k<n
  . obtain⟨g,o,l,B1,m1,e1,rfl,hx,c0,hf,-,-,-⟩:=hw.at_ hlt;obtain⟨g',o',l',B2,m2,e2,rfl,hx',d0,hf',-,-,-⟩:=hw'.at_ hlt;obtain rfl:l=l':=by rw[hx]at hx';injection hx'
    clear hx hx';go_wp2_with fail
    go_region_held3 (λw'=>w'.cell? ⟨g,o+k,none⟩=some (.slice B1 m1 e1)/\w'.cell? ⟨g',o'+k,none⟩=some (.slice B2 m2 e2)) (go_keep)
     (first|(go_at_call 29;refine(qe3 _ _ l _ (by exact hf) (by exact hf')).mono ?_;rintro e w' ⟨rfl,hg'⟩;have k0:=hg'.cell (by exact c0) (by simp);have l0:=hg'.cell (by exact d0) (by simp)))
    go_wp2;go_roundw
    case rel=>exact⟨k+1,by omega,by go_num,qac (qay hg) (by assumption)⟩
    case measure=>simp[intOf];omega
  . go_wp2;go_ret;exact⟨rfl,hg⟩
theorem RI.take(h:RI w (.slice A n c) l)(hk:k<=n):RI w (.slice A k c) (l.take k):=by
 obtain⟨h0,A',c',e,h2,h3,h4,h5⟩:=h;injection e with e1 e2 e3;subst e1 e3;have hl:l.length=n:=e2.symm;refine⟨?_,A,c,?_,by rw[Bh];omega,h3,h4,?_⟩
 . rw[List.length_map,Bh];omega
 . rw[Bh,BL (by omega)]
 . rcases h5 with h5|⟨g,o,cur,hA,hb,hc⟩
   . exact .inl (by rw[Bh];omega)
   . refine .inr ⟨g,o,cur,hA,hb,λj u hu=>hc j u ?_⟩;rw[Bm,Bo]at hu;split at hu
     . rw[Bm];exact hu
     . cases hu
theorem qe0{a:Addr}(h:w.cell? a=some v):a.block<w.heap.size:=by
 unfold cell? at h;split at h
 . rename_i hb;exact(Ai.1 hb).1
 . cases h
theorem qg7{a:Addr}(h:w.cell? a=some v)(hg:w.grownBy w' none):w'.cell? a=some v:=(qis hg (qe0 h) (by simp)).trans h
theorem qL.far{base:Nat}(h:qL w base v ll)(hg:w.grownBy w' (some g))(hi:qg w 3 (some g))(hne:v.ownBlock≠some g):qL w' base v ll:=by
 obtain⟨xs,h1,h2⟩:=h;have hlt:=AZ h1;refine⟨xs,⟨h1.1,?_⟩,λi l hl=>let ⟨u,k1,k2⟩:=h2 i l hl;⟨u,k1,k2.grown hg hi⟩⟩;rcases h1.2 with h0|⟨g',cap,cur,rfl,k2,k3,k4⟩
 . exact .inl h0
 . exact .inr ⟨g',cap,cur,rfl,k2,(hg.block g' (hlt g' rfl).2 (λe=>hne (by rw[<-e];rfl))).trans k3,k4⟩
def CV(w:As)(v:At)(c:qh):Prop:=∃d k o r,v=.agg #[d,k,o,r]/\RL w d c.qb/\RI w k c.counts/\RI w o c.done/\RL w r c.rows
theorem CV.grown{c:qh}{row:Option Nat}(h:CV w v c)(hg:w.grownBy w' row)(hr:qg w 3 row)(hr':qg w 24 row):CV w' v c:=by
 obtain⟨d,k,o,r,rfl,h1,h2,h3,h4⟩:=h;exact⟨d,k,o,r,rfl,h1.grown hg hr hr',h2.grown hg hr,h3.grown hg hr,h4.grown hg hr hr'⟩
theorem CV.new{c:qh}(h:CV w v c)(hg:w.grownBy w' none):CV w' v c:=h.grown hg (qg.none _ _) (qg.none _ _)
theorem CV.form{c:qh}(h:CV w v c):∃A1 n1 c1 A2 n2 c2 A3 n3 c3 A4 n4 c4,v=.agg #[.slice A1 n1 c1,.slice A2 n2 c2,.slice A3 n3 c3,.slice A4 n4 c4] /\
   RL w (.slice A1 n1 c1) c.qb/\RI w (.slice A2 n2 c2) c.counts/\RI w (.slice A3 n3 c3) c.done/\RL w (.slice A4 n4 c4) c.rows:=by
 obtain⟨d,k,o,r,rfl,h1,h2,h3,h4⟩:=h;obtain⟨A1,n1,c1,rfl⟩:=h1.val;obtain⟨A2,n2,c2,rfl⟩:=h2.val;obtain⟨A3,n3,c3,rfl⟩:=h3.val;obtain⟨A4,n4,c4,rfl⟩:=h4.val;exact⟨_,_,_,_,_,_,_,_,_,_,_,_,rfl,h1,h2,h3,h4⟩
structure jw(w:As)(g:Nat)(d k o r:At)(c:qh):Prop where
 b:Blk w g 29 #[d,k,o,r]
 dq:RL w d c.qb
 ct:RI w k c.counts
 dn:RI w o c.done
 ro:RL w r c.rows
section
variable {w w':As}{g:Nat}{d k o r:At}{c:qh}
theorem jw.new(h:jw w g d k o r c)(hg:w.grownBy w' none):jw w' g d k o r c:=⟨h.b.grown hg (by simp),h.dq.new hg,h.ct.new hg,h.dn.new hg,h.ro.new hg⟩
theorem jw.cv(h:jw w g d k o r c):CV w (.agg #[d,k,o,r]) c:=⟨d,k,o,r,rfl,h.dq,h.ct,h.dn,h.ro⟩
theorem jw.d0(h:jw w g d k o r c):w.cell? ⟨g,0,none⟩=some d:=h.b.cell 0
theorem jw.d1(h:jw w g d k o r c):w.cell? ⟨g,1,none⟩=some k:=h.b.cell 1
theorem jw.d2(h:jw w g d k o r c):w.cell? ⟨g,2,none⟩=some o:=h.b.cell 2
theorem jw.d3(h:jw w g d k o r c):w.cell? ⟨g,3,none⟩=some r:=h.b.cell 3
theorem CV.box{d k o:At}{c:qh}(h:CV w (.agg #[d,k,o,r]) c):jw (w.alloc (.cells #[d,k,o,r] 29)) w.heap.size d k o r c:=by
 obtain⟨d',k',o',r',e,h1,h2,h3,h4⟩:=h;have hg:=AV w (.cells #[d,k,o,r] 29) none;injection e with e;injection e with e;injection e with e1 e;injection e with e2 e;injection e with e3 e;injection e with e4 e;subst e1 e2 e3 e4;exact⟨Blk.new _ _ _,h1.new hg,h2.new hg,h3.new hg,h4.new hg⟩
end
def qc4:qh:=⟨[],[],[],[]⟩
theorem CV.zero(w:As):CV w (.agg #[.slice none 0 0,.slice none 0 0,.slice none 0 0,.slice none 0 0]) qc4:=⟨_,_,_,_,rfl,RL.nil w,RI.nil w,RI.nil w,RL.nil w⟩
def yZ(w:As)(base:Nat)(v:At)(c:qh):Prop:=
 ∃d k o r xs ys,v=.agg #[d,k,o,r]/\LX w base d c.qb xs/\RI w k c.counts/\qf w base o c.done/\LX w base r c.rows ys/\Apart (o::(xs++ys))/\(∀g,d.ownBlock=some g->r.ownBlock≠some g)
theorem LX.far{base:Nat}(h:LX w base v ll xs)(hg:w.grownBy w' (some g))(hi:qg w 3 (some g))(hne:v.ownBlock≠some g):LX w' base v ll xs:=by
 obtain⟨h1,h2⟩:=h;have hlt:=AZ h1;refine⟨⟨h1.1,?_⟩,λi l hl=>let ⟨u,k1,k2⟩:=h2 i l hl;⟨u,k1,k2.grown hg hi⟩⟩;rcases h1.2 with h0|⟨g',cap,cur,rfl,k2,k3,k4⟩
 . exact .inl h0
 . exact .inr ⟨g',cap,cur,rfl,k2,(hg.block g' (hlt g' rfl).2 (λe=>hne (by rw[<-e];rfl))).trans k3,k4⟩
theorem LX.jl{base:Nat}(h:LX w base v ll xs)(hE:E≠24):qg w E v.ownBlock:=qg.own h.1 hE
theorem LX.gb{row:Option Nat}{base:Nat}(h:LX w base v ll xs)(hg:a.grownBy w row)(k:w.grownBy w' v.ownBlock)(hb:a.heap.size<=base):a.grownBy w' row:=
 qa2 hg k (λg e=>.inl (BI hb (h.lt g e).1))
theorem qdq(v:At)(l:List Int)(x:Int)(w:As)(h:RI w v l){b:Bool}(hb:decide (x∈l)=b) :
   Ax AB 123 #[v,.int .i64 x] w λe w'=>e=.returned (.bool b)/\w=w':=by
 obtain⟨A,n,c,rfl,_,hn⟩:=h.form';have hle:=h.le;rw[<-hn]at hle;have Hn:=Lib.hid hn;have Hb:=Lib.hid hb;clear hn hb;go_enter Tryz.func123,Tryz.ntmps123;go_wp2_with fail
 go_loopg [5] (n+1) (λmm i wr=>∃k:Nat,k<=n/\mm=n+1-k/\i=.int .i64 k/\Hid (x∉l.take k)/\wr=w)
 case atStart=>exact⟨0,BH _,rfl,rfl,by show _∉_;simp,rfl⟩
 case round=>
  obtain⟨k,hk,rfl,rfl,Hk,rfl⟩:=hrel;by_cases hlt:k<n
  . obtain⟨g,o,y,rfl,hy,c0⟩:=h.at_ hlt;have Hy:=Lib.hid hy;clear hy;by_cases hyx:y=x
    . have hq:(y==x)=true:=by simpa using hyx
      have Hr:Hid (b=true):=by
       show _=_;rw[<-Hb.out,decide_eq_true_eq,<-hyx];exact Bb Hy.out
      clear hyx Hk;go_wp2;go_ret;exact⟨by rw[Hr.out];rfl,rfl⟩
    . have hq:(y==x)=false:=by simpa using hyx
      have Hs:Hid (x∉l.take (k+1)):=by
       show _∉_;obtain⟨h1,h2⟩:=Ba.1 Hy.out;rw[Bg h1,h2,Br];rintro(h3|h3)
       . exact Hk.out h3
       . exact hyx (List.mem_singleton.1 h3).symm
      clear hyx Hk;go_wp2;go_roundg (n+1-(k+1))
      case measure=>omega
      case rel=>exact⟨k+1,by omega,rfl,by go_num,Hs,rfl⟩
  . obtain rfl:k=n:=by omega
    have Hr:Hid (b=false):=by
     show _=_;rw[<-Hb.out,decide_eq_false_iff_not];have:=Hk.out
     rwa [Be (by rw[<-Hn.out];exact BJ _)]at this
    clear Hk;go_wp2;go_ret;exact⟨by rw[Hr.out];rfl,rfl⟩
theorem qvb(v v':At)(l m:List Int)(w:As)(h:RI w v l)(h':RI w v' m){b:Bool}(hb:(m.all λf=>decide (f∈l))=b) :
   Ax AB 201 #[v,v'] w λe w'=>e=.returned (.bool b)/\w=w':=by
 obtain⟨A,n,c,rfl,_,hn⟩:=h'.form';obtain⟨B,n',c',rfl⟩:=h.val;have hle:=h'.le;rw[<-hn]at hle;have Hn:=Lib.hid hn;have Hb:=Lib.hid hb;clear hn hb;go_enter Tryz.func201,Tryz.ntmps201;go_wp2_with fail
 go_loopg [5] (n+1) (λmm i wr=>∃k:Nat,k<=n/\mm=n+1-k/\i=.int .i64 k/\Hid (∀f∈m.take k,f∈l)/\wr=w)
 case atStart=>exact⟨0,BH _,rfl,rfl,by show ∀f∈_,_;simp,rfl⟩
 case round=>
  obtain⟨k,hk,rfl,rfl,Hk,rfl⟩:=hrel;by_cases hlt:k<n
  . obtain⟨g,o,y,rfl,hy,c0⟩:=h'.at_ hlt;have Hy:=Lib.hid hy;clear hy;by_cases hyx:y∈l
    . have Hyx:Hid (decide (y∈l)=true):=decide_eq_true hyx
      have Hs:Hid (∀f∈m.take (k+1),f∈l):=by
       show ∀f∈_,_;obtain⟨h1,h2⟩:=Ba.1 Hy.out;rw[Bg h1,h2];intro f hf;rcases Br.1 hf with hf|hf
       . exact Hk.out f hf
       . obtain rfl:f=y:=by simpa using hf
         exact hyx
      clear hyx Hk;go_wp2_with fail;refine(qdq _ l y _ h Hyx.out).mono ?_;rintro e w' ⟨rfl,rfl⟩;go_wp2;go_roundg (n+1-(k+1))
      case measure=>omega
      case rel=>exact⟨k+1,by omega,rfl,by go_num,Hs,rfl⟩
    . have Hyx:Hid (decide (y∈l)=false):=decide_eq_false hyx
      have Hr:Hid (b=false):=by
       show _=_;rw[<-Hb.out,Bp];exact⟨y,Bb Hy.out,by simpa using hyx⟩
      clear hyx Hk;go_wp2_with fail;refine(qdq _ l y _ h Hyx.out).mono ?_;rintro e w' ⟨rfl,rfl⟩;go_wp2;go_ret;exact⟨by rw[Hr.out];rfl,rfl⟩
  . obtain rfl:k=n:=by omega
    have Hr:Hid (b=true):=by
     show _=_;rw[<-Hb.out,BE];have:=Hk.out;rw[Be (by rw[<-Hn.out];exact BJ _)]at this;exact λf hf=>decide_eq_true (this f hf)
    clear Hk;go_wp2;go_ret;exact⟨by rw[Hr.out];rfl,rfl⟩
theorem qlo(n a b:Int)(w:As) :
   Ax AB 74 #[.int .i64 n,.int .i64 a,.int .i64 b] w λe w'=>e=.returned (.bool (decide (a<=n)&&decide (n<=b)))/\w=w':=by
 by_cases h:a<=n
 . rw[show (decide (a<=n)&&decide (n<=b))=decide (n<=b) by simp[h]];go_enter AU,AN
   go_wp2
   go_ret;exact⟨rfl,rfl⟩
 . rw[show (decide (a<=n)&&decide (n<=b))=false by simp[h]];go_enter AU,AN
   go_wp2
   go_ret;exact⟨rfl,rfl⟩
theorem qie(v:At)(l:List Int)(w:As)(h:RI w v l) :
   Ax AB 157 #[v] w λe w'=>e=.returned (.bool (qak l))/\w=w':=by
 obtain⟨A,n,c,rfl,hc,hn⟩:=h.form';have hle:=h.le;rw[<-hn]at hle;have Hn:=Lib.hid hn;clear hn;go_enter Tryz.func157,Tryz.ntmps157
 go_wp2
 go_loop [3] (λi=>∃k:Nat,k<=n/\i=.int .i64 k/\(l.take k).all za=true) (λi=>n-(intOf i).toNat)
 case atStart=>exact⟨0,BH _,rfl,rfl⟩
 case round=>
  obtain⟨k,hk,rfl,hall⟩:=hrel;have qB:=Lib.hid hall;clear hall;by_cases hlt:k<n
  . obtain⟨g,o,x,rfl,hx,hcell⟩:=h.at_ hlt;have Hx:=Lib.hid hx;clear hx;go_wp2_with fail;refine(qlo _ _ _ _).mono ?_;rintro e w' ⟨rfl,rfl⟩;by_cases hin:za x=true
    . have Hin:=Lib.hid hin;have hb:(decide ((0:Int)<=x)&&decide (x<=(1008:Int)))=true:=hin;rw[hb];clear hin hb;go_wp2;go_round
      case rel=>exact⟨k+1,by omega,by go_num,by rw[qfx _ Hx.out,qB.out,Hin.out];rfl⟩
      case measure=>simp[intOf];omega
    . have hb:(decide ((0:Int)<=x)&&decide (x<=(1008:Int)))=false:=by simpa[za]using hin
      have Hr:Hid (qak l=false):=by
       show qak l=false;unfold qak;rw[Aj];left;rw[Bp];exact⟨x,Bb Hx.out,hin⟩
      rw[hb];clear hin hb;go_wp2;go_ret;exact⟨by rw[Hr.out];rfl,rfl⟩
  . have hkn:k=n:=by omega
    have Hr:Hid (qak l=decide ((n:Int)<=6)):=by
     show qak l=decide ((n:Int)<=6);have h1:=qB.out;rw[hkn,Hn.out,Bv]at h1;rw[qak,h1,Hn.out,Am];exact decide_eq_decide.2 (by omega)
    clear hkn;go_wp2;go_ret;exact⟨by rw[Hr.out];rfl,rfl⟩
theorem qbp(v:At)(l:List Int)(w:As)(h:RI w v l){b:Bool}(hb:qak l=b) :
   Ax AB 157 #[v] w λe w'=>e=.returned (.bool b)/\w=w':=hb▸qie v l w h
theorem qdi(n a b:Int)(w:As){c:Bool}(hc:(decide (a<=n)&&decide (n<=b))=c) :
   Ax AB 74 #[.int .i64 n,.int .i64 a,.int .i64 b] w λe w'=>e=.returned (.bool c)/\w=w':=hc▸qlo n a b w
theorem qhg(k:Int)(w:As) :
   Ax AB 196 #[.int .i64 k] w λe w'=>e=.returned (.bool (qdr k))/\w=w':=by
 go_enter Tryz.func196,Tryz.ntmps196;go_wp2_with fail;refine(qlo _ _ _ _).mono ?_;rintro e w' ⟨rfl,rfl⟩;go_wp2;go_ret;exact⟨rfl,rfl⟩
theorem qb2(k:Int)(w:As) :
   Ax AB 149 #[.int .i64 k] w λe w'=>e=.returned (.int .i64 (qas k))/\w=w':=by
 by_cases hk:k<0∨5<k
 . have hv:qdr k=false:=by
    unfold qdr;simp only[Aj,decide_eq_false_iff_not];omega
   have H:Hid (qas k=-1):=by show qas k=-1;unfold qas;rw[if_pos hk]
   clear hk;go_enter AQ,AJ;go_wp2_with fail;refine(qhg _ _).mono ?_;rw[hv];clear hv;rintro e w' ⟨rfl,rfl⟩;go_wp2;go_ret;exact⟨by rw[H.out];rfl,rfl⟩
 . rcases (show k=0∨k=1∨k=2∨k=3∨k=4∨k=5 by omega)with rfl|rfl|rfl|rfl|rfl|rfl
   all_goals
    clear hk;go_enter AQ,AJ;go_wp2_with fail;refine(qhg _ _).mono ?_;rintro e w' ⟨rfl,rfl⟩;go_wp2;go_ret;exact⟨rfl,rfl⟩
def work(k:Int):At:=
 if k=0 then .iface 181 (.agg #[])
 else if k=1 then .iface 132 (.agg #[.func (.func 144) #[] #[]])
 else if k=2 then .iface 132 (.agg #[.func (.func 145) #[] #[]])
 else if k=3 then .iface 136 (.agg #[.func (.func 146) #[] #[]])
 else if k=4 then .iface 136 (.agg #[.func (.func 147) #[] #[]])
 else if k=5 then .iface 136 (.agg #[.func (.func 148) #[] #[]])
 else .nilIface
theorem qcz(k:Int)(w:As) :
   Ax AB 93 #[.int .i64 k] w λe w'=>e=.returned (work k)/\w=w':=by
 by_cases hk:k<0∨5<k
 . have H:Hid (work k=.nilIface):=by
    show work k=.nilIface;unfold work
    repeat rw[if_neg (by omega)]
   rcases hk with hk|hk
   all_goals
    go_enter AS,AL;go_wp2;go_ret;exact⟨by rw[H.out];rfl,rfl⟩
 . rcases (show k=0∨k=1∨k=2∨k=3∨k=4∨k=5 by omega)with rfl|rfl|rfl|rfl|rfl|rfl
   all_goals
    clear hk;go_enter AS,AL;go_wp2;go_ret;exact⟨rfl,rfl⟩
theorem qm2(k:Int)(w:As) :
   Ax AB 185 #[.int .i64 k] w λe w'=>e=.returned (.bool (qdr k))/\w=w':=by
 by_cases hk:k<0∨5<k
 . have H:Hid (work k=.nilIface):=by
    show work k=.nilIface;unfold work
    repeat rw[if_neg (by omega)]
   have hv:qdr k=false:=by
    unfold qdr;simp only[Aj,decide_eq_false_iff_not];omega
   rw[hv];clear hv hk;go_enter AP,AI;go_wp2_with fail;refine(qcz _ _).mono ?_;rw[H.out];rintro e w' ⟨rfl,rfl⟩;go_wp2;go_ret;exact⟨rfl,rfl⟩
 . rcases (show k=0∨k=1∨k=2∨k=3∨k=4∨k=5 by omega)with rfl|rfl|rfl|rfl|rfl|rfl
   all_goals
    clear hk;go_enter AP,AI;go_wp2_with fail;refine(qcz _ _).mono ?_;simp only[work,if_true];rintro e w' ⟨rfl,rfl⟩;go_wp2;go_ret;exact⟨rfl,rfl⟩
theorem qgl(k:Int)(w:As){b:Bool}(hb:qdr k=b) :
   Ax AB 185 #[.int .i64 k] w λe w'=>e=.returned (.bool b)/\w=w':=hb▸qm2 k w
theorem q9s(w:As):(method 379 181 (.agg #[]) "loop.example/workplans/impl.needs").run AB w=.ok (244,.agg #[]) w:=by kernel_rfl
theorem qgO(f:Ay)(w:As):(method 379 132 (.agg #[.func (.func f) #[] #[]]) "loop.example/workplans/impl.needs").run AB w=.ok (94,.agg #[.func (.func f) #[] #[]]) w:=by kernel_rfl
theorem qgP(f:Ay)(w:As):(method 379 136 (.agg #[.func (.func f) #[] #[]]) "loop.example/workplans/impl.needs").run AB w=.ok (95,.agg #[.func (.func f) #[] #[]]) w:=by kernel_rfl
theorem qsj(w:As):Ax AB 244 #[.agg #[]] w λe w'=>e=.returned (.int .i64 0)/\w.grownBy w' none:=by
 go_enter Tryz.func244,Tryz.ntmps244;go_wp2;go_ret;exact⟨rfl,AV _ _ _⟩
theorem qf3(f:Ay)(w:As):Ax AB 94 #[.agg #[.func (.func f) #[] #[]]] w λe w'=>e=.returned (.int .i64 2)/\w.grownBy w' none:=by
 go_enter Tryz.func94,Tryz.ntmps94;go_wp2;go_ret;exact⟨rfl,AV _ _ _⟩
theorem qey(f:Ay)(w:As):Ax AB 95 #[.agg #[.func (.func f) #[] #[]]] w λe w'=>e=.returned (.int .i64 1)/\w.grownBy w' none:=by
 go_enter Tryz.func95,Tryz.ntmps95;go_wp2;go_ret;exact⟨rfl,AV _ _ _⟩
theorem qhh(k:Int)(w:As) :
   Ax AB 186 #[.int .i64 k] w λe w'=>e=.returned (.int .i64 (qas k))/\w.grownBy w' none:=by
 by_cases hk:k<0∨5<k
 . have H:Hid (work k=.nilIface):=by
    show work k=.nilIface;unfold work
    repeat rw[if_neg (by omega)]
   rw[show qas k=-1 by unfold qas;rw[if_pos hk]];clear hk;go_enter AO,AH;go_wp2_with fail;refine(qcz _ _).mono ?_;rw[H.out];rintro e w' ⟨rfl,rfl⟩;go_wp2;go_ret;exact⟨rfl,qag _ _⟩
 . rcases (show k=0∨k=1∨k=2∨k=3∨k=4∨k=5 by omega)with rfl|rfl|rfl|rfl|rfl|rfl
   all_goals
    clear hk;go_enter AO,AH;go_wp2_with fail;refine(qcz _ _).mono ?_;simp only[work,if_true];rintro e w' ⟨rfl,rfl⟩;have hm1:=q9s;have hm2:=qgO;have hm3:=qgP
    go_wp2_with (first
     |(go_at_call 244;refine(qsj _).mono ?_;rintro e w' ⟨rfl,hg⟩)
     |(go_at_call 94;refine(qf3 _ _).mono ?_;rintro e w' ⟨rfl,hg⟩)
     |(go_at_call 95;refine(qey _ _).mono ?_;rintro e w' ⟨rfl,hg⟩))
    go_ret;exact⟨rfl,by assumption⟩
theorem qcb(v:At)(l:List Int)(w:As)(h:RI w v l) :
   Ax AB 192 #[v] w λe w'=>e=.returned (.bool (qak l))/\w=w':=by
 obtain⟨A,n,c,rfl,hc,hn⟩:=h.form';have hle:=h.le;rw[<-hn]at hle;have Hn:=Lib.hid hn;clear hn;go_enter Tryz.func192,Tryz.ntmps192;by_cases h6:(6:Int)<n
 . have Hr:Hid (qak l=false):=by
    show qak l=false;unfold qak;rw[<-Hn.out];simp;omega
   go_wp2;go_ret;exact⟨by rw[Hr.out];rfl,rfl⟩
 . go_wp2_with fail
   go_loop [10] (λi=>∃k:Nat,k<=n/\i=.int .i64 k/\(l.take k).all za=true) (λi=>n-(intOf i).toNat)
   case atStart=>exact⟨0,BH _,rfl,rfl⟩
   case round=>
    obtain⟨k,hk,rfl,hall⟩:=hrel;have qB:=Lib.hid hall;clear hall;by_cases hlt:k<n
    . obtain⟨g,o,x,rfl,hx,hcell⟩:=h.at_ hlt;have Hx:=Lib.hid hx;clear hx;by_cases hin:za x=true
      . have Hin:=Lib.hid hin
        have hb:0<=x/\x<1009:=by
         simp only[za,Ap,decide_eq_true_eq]at hin;omega
        clear hin;obtain⟨hb1,hb2⟩:=hb;go_wp2;go_round
        case rel=>exact⟨k+1,by omega,by go_num,by rw[qfx _ Hx.out,qB.out,Hin.out];rfl⟩
        case measure=>simp[intOf];omega
      . have Hr:Hid (qak l=false):=by
         show qak l=false;unfold qak;rw[Aj];left;rw[Bp];exact⟨x,Bb Hx.out,hin⟩
        have hb:x<0∨1009<=x:=by
         simp only[za,Ap,decide_eq_true_eq]at hin;omega
        clear hin;rcases hb with hb|hb
        all_goals
         go_wp2;go_ret;exact⟨by rw[Hr.out];rfl,rfl⟩
    . have Hr:Hid (qak l=true):=by
       show qak l=true;have h1:=qB.out;rw[show k=n by omega,Hn.out,Bv]at h1;rw[qak,h1,Am,<-Hn.out];simp;omega
      go_wp2;go_ret;exact⟨by rw[Hr.out];rfl,rfl⟩
theorem qou(v:At)(l:List Int)(w:As)(h:RI w v l) :
   Ax AB 187 #[v] w λe w'=>e=.returned (.bool (qak l))/\w=w':=by
 obtain⟨A,n,c,rfl⟩:=h.val;go_enter Tryz.func187,Tryz.ntmps187;go_wp2_with fail;refine(qcb _ l _ h).mono ?_;rintro e w' ⟨rfl,rfl⟩;go_wp2;go_ret;exact⟨rfl,rfl⟩
theorem qwc(v:At)(nd:Node)(at_:Int)(w:As)(h:NV w v nd) :
   Ax AB 142 #[v,.int .i64 at_] w λe w'=>e=.returned (.bool (qbe nd at_))/\w.grownBy w' none:=by
 obtain⟨f,r,rfl,hf,hr⟩:=h;have hfl:=hf.le;obtain⟨Af,nf,cf,rfl,_,hnf⟩:=hf.form';obtain⟨Ar,nr,cr,rfl,_,hnr⟩:=hr.form';rw[<-hnf]at hfl;have Hnf:=Lib.hid hnf;have Hnr:=Lib.hid hnr;clear hnf hnr;by_cases hkv:qdr nd.kind=true
 . have Hkv:=Lib.hid hkv;clear hkv;by_cases hk:(nf:Int)=qas nd.kind
   . have Hk:=Lib.hid hk;have hb:((nf:Int) != qas nd.kind)=false:=by simpa using hk
     clear hk;go_enter AF,AE;go_wp2_with fail;have hB:=Blk.new w 81 #[.int .i64 nd.kind,.slice Af nf cf,.slice Ar nr cr];have hG:=AV w (.cells #[.int .i64 nd.kind,.slice Af nf cf,.slice Ar nr cr] 81) none;generalize w.alloc (.cells #[.int .i64 nd.kind,.slice Af nf cf,.slice Ar nr cr] 81)=wa at hB hG |-;have c0:wa.cell? ⟨w.heap.size,0,none⟩=some (.int .i64 nd.kind):=hB.cell 0;have c1:wa.cell? ⟨w.heap.size,1,none⟩=some (.slice Af nf cf):=hB.cell 1
     go_region_held3 (λw'=>w'.cell? ⟨w.heap.size,0,none⟩=some (.int .i64 nd.kind)/\w'.cell? ⟨w.heap.size,1,none⟩=some (.slice Af nf cf)) (go_keep)
      (first
       |(go_at_call 185;refine(qgl _ _ Hkv.out).mono ?_;rintro e w' ⟨rfl,rfl⟩)
       |(go_at_call 186;refine(qhh _ _).mono ?_;rintro e w2 ⟨rfl,hg2⟩;have k0:=hg2.cell (by exact c0) (by simp);have k1:=hg2.cell (by exact c1) (by simp)))
     have hG2:w.grownBy w2 none:=qac (qay hG) hg2;have hB2:=hB.grown (qac (qay (qag wa none)) hg2) (by simp);have hf2:=hf.new hG2;have hr2:=hr.new hG2;clear c0 c1 k0 k1 hG hg2 hB hf hr;have c0:w2.cell? ⟨w.heap.size,0,none⟩=some (.int .i64 nd.kind):=hB2.cell 0;have c1:w2.cell? ⟨w.heap.size,1,none⟩=some (.slice Af nf cf):=hB2.cell 1;have c2:w2.cell? ⟨w.heap.size,2,none⟩=some (.slice Ar nr cr):=hB2.cell 2;go_wp2_with fail
     go_loop [23] (λi=>∃k:Nat,k<=nf/\i=.int .i64 k/\(nd.frm.take k).all (λy=>decide (0<=y)&&decide (y<at_))=true) (λi=>nf-(intOf i).toNat)
     case atStart=>exact⟨0,BH _,rfl,rfl⟩
     case round=>
      obtain⟨k,hk,rfl,hall⟩:=hrel;have qB:=Lib.hid hall;clear hall;by_cases hlt:k<nf
      . obtain⟨g,o,x,rfl,hx,hcell⟩:=hf2.at_ hlt;have Hx:=Lib.hid hx;clear hx;by_cases hin:0<=x/\x<at_
        . have Hin:=Lib.hid hin;obtain⟨hb1,hb2⟩:=hin;go_wp2;go_round
          case rel=>exact⟨k+1,by omega,by go_num,by rw[qfx _ Hx.out,qB.out];simp[Hin.out]⟩
          case measure=>simp[intOf];omega
        . have Hr:Hid (qbe nd at_=false):=by
           show qbe nd at_=false
           have:nd.frm.all (λy=>decide (0<=y)&&decide (y<at_))=false:=by
            rw[Bp];exact⟨x,Bb Hx.out,by simpa using hin⟩
           unfold qbe;rw[this];simp
          have hb:x<0∨(0<=x/\at_<=x):=by omega
          clear hin;rcases hb with hb|⟨hb,hb'⟩
          all_goals
           go_wp2;go_ret;exact⟨by rw[Hr.out];rfl,hG2⟩
      . have Hr:Hid (qbe nd at_=if nd.kind=0 then qak nd.row else decide (nr=0)):=by
         show qbe nd at_=if nd.kind=0 then qak nd.row else decide (nr=0);have h1:=qB.out;rw[show k=nf by omega,Hnf.out,Bv]at h1;unfold qbe;rw[h1,Hkv.out,<-Hnf.out,decide_eq_true Hk.out,Hnr.out];simp
        by_cases hk0:nd.kind=0
        . have Hr':Hid (qbe nd at_=qak nd.row):=by
           show qbe nd at_=qak nd.row;rw[Hr.out,if_pos hk0]
          have hb0:(nd.kind==0)=true:=by simpa using hk0
          clear hk0 Hr;go_wp2_with fail;refine(qou _ nd.row _ hr2).mono ?_;rintro e w' ⟨rfl,rfl⟩;go_wp2;go_ret;exact⟨by rw[Hr'.out];rfl,hG2⟩
        . have Hr':Hid (qbe nd at_=((nr:Int) == 0)):=by
           show qbe nd at_=((nr:Int)==0);rw[Hr.out,if_neg hk0,Bool.eq_iff_iff];simp
          have hb0:(nd.kind==0)=false:=by simpa using hk0
          clear hk0 Hr;go_wp2;go_ret;exact⟨by rw[Hr'.out];rfl,hG2⟩
   . have hb:((nf:Int) != qas nd.kind)=true:=by simpa using hk
     have Hr:Hid (qbe nd at_=false):=by
      show qbe nd at_=false;unfold qbe;rw[<-Hnf.out,decide_eq_false hk];simp
     clear hk;go_enter AF,AE;go_wp2_with fail;have hB:=Blk.new w 81 #[.int .i64 nd.kind,.slice Af nf cf,.slice Ar nr cr];have hG:=AV w (.cells #[.int .i64 nd.kind,.slice Af nf cf,.slice Ar nr cr] 81) none;generalize w.alloc (.cells #[.int .i64 nd.kind,.slice Af nf cf,.slice Ar nr cr] 81)=wa at hB hG |-;have c0:wa.cell? ⟨w.heap.size,0,none⟩=some (.int .i64 nd.kind):=hB.cell 0;have c1:wa.cell? ⟨w.heap.size,1,none⟩=some (.slice Af nf cf):=hB.cell 1
     go_region_held3 (λw'=>w'.cell? ⟨w.heap.size,0,none⟩=some (.int .i64 nd.kind)/\w'.cell? ⟨w.heap.size,1,none⟩=some (.slice Af nf cf)) (go_keep)
      (first
       |(go_at_call 185;refine(qgl _ _ Hkv.out).mono ?_;rintro e w' ⟨rfl,rfl⟩)
       |(go_at_call 186;refine(qhh _ _).mono ?_;rintro e w2 ⟨rfl,hg2⟩;have k0:=hg2.cell (by exact c0) (by simp);have k1:=hg2.cell (by exact c1) (by simp)))
     have hG2:w.grownBy w2 none:=qac (qay hG) hg2;go_wp2;go_ret;exact⟨by rw[Hr.out];rfl,hG2⟩
 . have qbJ:qdr nd.kind=false:=by simpa using hkv
   have Hr:Hid (qbe nd at_=false):=by
    show qbe nd at_=false;unfold qbe;rw[qbJ];simp
   have Hkv:=Lib.hid qbJ;clear hkv qbJ;go_enter AF,AE;go_wp2_with fail
   go_quiet ((go_at_call 185;exact qcr (qgl _ _ Hkv.out)))
   go_wp2;go_ret;exact⟨by rw[Hr.out];rfl,qca (AV _ _ _) _⟩
theorem qtd(v:At)(nd:Node)(at_:Int)(w:As)(h:NV w v nd){b:Bool}(hb:qbe nd at_=b) :
   Ax AB 142 #[v,.int .i64 at_] w λe w'=>e=.returned (.bool b)/\w.grownBy w' none:=hb▸qwc v nd at_ w h
def ptrs(B:Nat->Nat)(l:List Nat):List At:=l.map (λj=>pointer (some ⟨B j,0,none⟩))
structure Rws(w:As)(base m:Nat)(B:Nat->Nat)(R:Nat->At×List Nat):Prop where
 rows:∀a,a<m->w.ownsRow base 177 1 (R a).1 (R a).2.length (ptrs B (R a).2)
 apart:∀a b,a<m->b<m->a≠b->(R a).1.ownBlock=none∨(R a).1.ownBlock≠(R b).1.ownBlock
theorem Rws.grown{base:Nat}{row:Option Nat}(h:Rws w base m B R)(hg:w.grownBy w' row)(hr:qg w 177 row):Rws w' base m B R:=
 ⟨λa ha=>qce (h.rows a ha) hg hr,h.apart⟩
theorem Rws.push{base a:Nat}(h:Rws w base m B R)(ha:a<m)(hg:w.grownBy w' (R a).1.ownBlock)
   (ho:w'.ownsRow base 177 1 v' ((R a).2.length+1) (ptrs B (R a).2++[.pointer (some ⟨B j,0,none⟩)])) (hN:w.heap.size<=N) (hob:v'.ownBlock=(R a).1.ownBlock∨v'.ownBlock=some N) :
   Rws w' base m B (upd R a (v',(R a).2++[j])):=by
 constructor
 . intro b hb;by_cases hba:b=a
   . subst hba;rw[upd_same];simpa[ptrs]using ho
   . rw[qaw _ _ hba];refine(h.rows b hb).kept hg ?_;rcases h.apart b a hb ha hba with h1|h1
     . exact .inl h1
     . exact .inr h1
 . intro b c hb hc hbc
   have old:∀d,d<m->d≠a->(R d).1.ownBlock=none∨((R d).1.ownBlock≠v'.ownBlock/\(v'.ownBlock=none∨v'.ownBlock≠(R d).1.ownBlock)):=by
    intro d hd hda;rcases h.apart d a hd ha hda with h1|h1
    . exact .inl h1
    . right;rcases hob with h2|h2
      . rw[h2];exact⟨h1,.inr (λe=>h1 e.symm)⟩
      . have hlt:=(h.rows d hd).lt;have:(R d).1.ownBlock≠some N:=λe=>by have:=(hlt N e).2;omega
        rw[h2];exact⟨this,.inr (λe=>this e.symm)⟩
   by_cases hba:b=a
   . subst hba;rw[upd_same,qaw _ _ (λe=>hbc e.symm)];show v'.ownBlock=none∨v'.ownBlock≠(R c).1.ownBlock;rcases old c hc (λe=>hbc e.symm)with h1|h1
     . rw[h1];cases h2:v'.ownBlock
       . exact .inl rfl
       . exact .inr (by simp)
     . exact h1.2
   . rw[qaw _ _ hba];by_cases hca:c=a
     . subst hca;rw[upd_same];rcases old b hb hba with h1|h1
       . exact .inl h1
       . exact .inr h1.1
     . rw[qaw _ _ hca];exact h.apart b c hb hc hbc
structure Gr(w:As)(base k:Nat)(B:Nat->Nat)(R:Nat->At×List Nat):Prop where
 blk:∀i,i<k->Blk w (B i) 179 #[.int .i64 (i:Nat),(R (2*i+1)).1,(R (2*i+2)).1]
 inj:∀i j,i<k->j<k->B i=B j->i=j
 low:∀i,i<k->base<=B i
 rw_:Rws w base (2*k+1) B R
 mem:∀a,a<2*k+1->∀j∈(R a).2,j<k
 len:∀a,(R a).2.length<=1000
 rest:∀a,2*k+1<=a->R a=(.slice none 0 0,[])
 jy:base<=w.heap.size
theorem Gr.grown{base:Nat}{row:Option Nat}(h:Gr w base k B R)(hg:w.grownBy w' row)(h1:qg w 177 row)(h2:qg w 179 row):Gr w' base k B R:=
 ⟨λi hi=>(h.blk i hi).grown hg (λe=>h2 _ e.symm _ (h.blk i hi)),h.inj,h.low,h.rw_.grown hg h1,h.mem,h.len,h.rest,BI h.jy hg.size⟩
theorem Gr.new{base:Nat}(h:Gr w base k B R)(hg:w.grownBy w' none):Gr w' base k B R:=h.grown hg (qg.none _ _) (qg.none _ _)
theorem Gr.form{base a:Nat}(h:Gr w base k B R)(ha:a<2*k+1):∃A c,(R a).1=.slice A (R a).2.length c /\
   (0<(R a).2.length->∃g,A=some ⟨g,0,none⟩/\∀j f,(R a).2[j]?=some f->w.cell? ⟨g,j,none⟩=some (.pointer (some ⟨B f,0,none⟩))):=by
 have hr:=h.rw_.rows a ha;rcases hr.2 with ⟨h1,h2⟩|⟨g,cap,cur,h1,_,hh,_,_,_,ht⟩
 . refine⟨none,0,by rw[h1,h2],λh0=>?_⟩;omega
 . refine⟨some ⟨g,0,none⟩,cap,h1,λ_=>⟨g,rfl,λj f hj=>?_⟩⟩;have hlt:=(Ba.1 hj).1;rw[h1]at hr;rw[ownsRow.cellAt hr j (by omega)];simp[ptrs,hj]
theorem Gr.qbK{base:Nat}(h:Gr w base k B R)(hi:i<k)(hc:c=1∨c=2)(hj:j<k)(hl:(R (2*i+c)).2.length<1000)(hg:w.grownBy w' (R (2*i+c)).1.ownBlock)
   (ho:w'.ownsRow base 177 1 v' ((R (2*i+c)).2.length+1) (ptrs B (R (2*i+c)).2++[.pointer (some ⟨B j,0,none⟩)])) (hN:w.heap.size<=N) (hob:v'.ownBlock=(R (2*i+c)).1.ownBlock∨v'.ownBlock=some N) :
   Blk w' (B i) 179 #[.int .i64 (i:Nat),(R (2*i+1)).1,(R (2*i+2)).1]/\Gr (w'.setCell ⟨B i,c,none⟩ v') base k B (upd R (2*i+c) (v',(R (2*i+c)).2++[j])):=by
 have ha:2*i+c<2*k+1:=by omega
 have hbn:∀i',i'<k->some (B i')≠(R (2*i+c)).1.ownBlock:=λi' hi' e=>qg.own (h.rw_.rows _ ha) (show 179≠177 by decide) _ e.symm _ (h.blk i' hi');have hb':∀i',i'<k->Blk w' (B i') 179 #[.int .i64 (i':Nat),(R (2*i'+1)).1,(R (2*i'+2)).1]:=λi' hi'=>(h.blk i' hi').grown hg (hbn i' hi');have hst:w'.grownBy (w'.setCell ⟨B i,c,none⟩ v') (some (B i)):=qa3 (p:=⟨B i,c,none⟩) (qag w' (some (B i))) (.inr rfl) v';refine⟨hb' i hi,?_,h.inj,h.low,(h.rw_.push ha hg ho hN hob).grown hst (qg.blk (hb' i hi) (by decide)),?_,?_,?_,?_⟩
 . intro i' hi';by_cases hii:i'=i
   . subst hii;have:=(hb' i' hi).qC c v';rcases hc with rfl|rfl
     . rw[upd_same,qaw _ _ (by omega)];exact this
     . rw[upd_same,qaw _ _ (by omega)];exact this
   . rw[qaw _ _ (by omega),qaw _ _ (by omega)];exact(hb' i' hi').far (λe=>hii (h.inj _ _ hi' hi e)) _
 . intro a haa x hx;by_cases hae:a=2*i+c
   . subst hae;rw[upd_same]at hx;rcases Br.1 hx with hx|hx
     . exact h.mem _ ha x hx
     . simp at hx;omega
   . rw[qaw _ _ hae]at hx;exact h.mem a haa x hx
 . intro a;by_cases hae:a=2*i+c
   . subst hae;rw[upd_same,Bt];simp;omega
   . rw[qaw _ _ hae];exact h.len a
 . intro a haa;rw[qaw _ _ (by omega)];exact h.rest a haa
 . rw[AW];exact BI h.jy hg.size
theorem qy3:(AB.info? 177).map (λi=>(i.zero,i.size,i.bytes))=some (some (.pointer none),1,8):=by kernel_rfl
theorem qgQ:(AB.info? 179).map (λi=>(i.zero,i.size,i.bytes))=some (some (.agg #[.int .i64 0,.slice none 0 0,.slice none 0 0]),3,56):=by kernel_rfl
theorem qgR{base:Nat}(h:Gr w base k B R)(hi:i<k)(hj:j<k) :
   (binOp .eql 177 (.pointer (some ⟨B i,0,none⟩)) (.pointer (some ⟨B j,0,none⟩))).run AB w=.ok (.bool (decide (i=j))) w:=by
 obtain⟨i0,hi0,_,hz1,_⟩:=info_parts qgQ;by_cases hij:i=j
 . subst hij;rw[decide_eq_true rfl];exact run_eql_ptr_same w _ AG hi0
 . rw[decide_eq_false hij];exact run_eql_ptr_other w AG hi0 (by rw[hz1];decide) (λe=>hij (h.inj i j hi hj (by injection e))) (h.blk i hi) (h.blk j hj)
theorem qif{base f:Nat}(h:Gr w base k B R)(hn:n<k)(hf:f<k){b:Bool}(hb:decide (f∈(R (2*n+1)).2)=b) :
   Ax AB 188 #[.pointer (some ⟨B n,0,none⟩),.pointer (some ⟨B f,0,none⟩)] w λe w'=>e=.returned (.bool b)/\w=w':=by
 obtain⟨A,c,hA,hc⟩:=h.form (a:=2*n+1) (by omega);have hlen:=h.len (2*n+1);have c1:w.cell? ⟨B n,1,none⟩=some (R (2*n+1)).1:=(h.blk n hn).cell 1;rw[hA]at c1;have hmem:=h.mem (2*n+1) (by omega);generalize (R (2*n+1)).2=l at *;have Hb:=Lib.hid hb;have kg:=Lib.hid hmem;clear hb hA hmem;go_enter Tryz.func188,Tryz.ntmps188;go_wp2_with fail
 go_loop [12] (λi=>∃k':Nat,k'<=l.length/\i=.int .i64 k'/\(l.take k').all (λx=>decide (x≠f))=true) (λi=>l.length-(intOf i).toNat)
 case atStart=>exact⟨0,BH _,rfl,rfl⟩
 case round=>
  obtain⟨k',hk,rfl,hall⟩:=hrel;have qB:=Lib.hid hall;clear hall;by_cases hlt:k'<l.length
  . obtain⟨g,rfl,hcs⟩:=hc (by omega);have hx:=B9 hlt;have hcell:=hcs k' _ hx;have Hx:=Lib.hid hx;have hxk:=kg.out _ (BC hlt);generalize l[k']=x at *;have he:=qgR h hxk hf;clear hcs hx;by_cases hxf:x=f
    . have Hr:Hid (b=true):=by
       show b=true;rw[<-Hb.out,decide_eq_true_eq,<-hxf];exact Bb Hx.out
      rw[decide_eq_true hxf]at he;clear hxf;go_wp2;go_ret;exact⟨by rw[Hr.out];rfl,rfl⟩
    . have Hxf:=Lib.hid hxf;rw[decide_eq_false hxf]at he;clear hxf;go_wp2;go_round
      case rel=>exact⟨k'+1,by omega,by go_num,by rw[qfx _ Hx.out,qB.out];simp[Hxf.out]⟩
      case measure=>simp[intOf];omega
  . have Hr:Hid (b=false):=by
     show b=false;rw[<-Hb.out,decide_eq_false_iff_not];have h1:=qB.out;rw[Be (by omega)]at h1;intro hm;simpa using BE.1 h1 f hm
    go_wp2;go_ret;exact⟨by rw[Hr.out];rfl,rfl⟩
theorem Gr.row{base a:Nat}(h:Gr w base k B R)(ha:a<2*k+1):w.ownsRow base 177 1 (R a).1 (R a).2.length (ptrs B (R a).2):=h.rw_.rows a ha
theorem qp7{ops:Array Oper}{rest:List Oper}{o:Oper}{a:Act}{Q:Exit->Act->As->Prop}{base:Nat}(G:Gr w base k B R)(hi:i<k)(hc:c=1∨c=2)(hj:j<k)
   (hl:(R (2*i+c)).2.length<1000) (s x:Operand) (hgd:o.guard=none) (ho:o.op=.call {callee:=.builtin .append,args:=#[s,x],argTypes:=#[124,124]})
    (hv:(R (2*i+c)).1=v) (hs:a.eval s=v)  (hx:a.eval x=.slice (some ⟨N,0,none⟩) 1 1) (hN:N=w.heap.size)
   (h:∀A n cc w',w'.cell? ⟨B i,c,none⟩=some v->w'.frozen? ⟨B i,c,none⟩=false->Gr (w'.setCell ⟨B i,c,none⟩ (.slice A n cc)) base k B (upd R (2*i+c) (.slice A n cc,(R (2*i+c)).2++[j])) ->
    Below base w (w'.setCell ⟨B i,c,none⟩ (.slice A n cc))->wpList AB ops Q rest (a.put o.dst (.slice A n cc)) w') :
   wpList AB ops Q (o::rest) a (w.alloc (.cells #[.pointer (some ⟨B j,0,none⟩)] 177)):=by
 subst hv;subst hN;have hrow:=G.row (a:=2*i+c) (by omega);refine qfy s x 124 _ 1 8 AD qy3 rfl (by decide) (by decide) hgd ho hrow (by omega) G.jy rfl (by simp[oneCell']) hs hx ?_;intro v' w' h1 h2 h3
 obtain⟨A,cc,hv'⟩:∃A cc,v'=.slice A ((R (2*i+c)).2.length+1) cc:=by
  rcases h1.2 with ⟨hv,h0⟩|⟨g,cap,cur,hv,_⟩
  . omega
  . exact⟨_,_,hv⟩
 subst hv';obtain⟨hb,hG⟩:=G.qbK hi hc hj hl h2 h1 (BN _) h3;refine h A _ cc w' ?_ (hb.frozen c) hG ?_
 . rcases hc with rfl|rfl
   . exact hb.cell 1
   . exact hb.cell 2
 . refine((q12 h2 ?_ G.jy).setCell (p:=⟨B i,c,none⟩) (G.low i hi) _);intro g e;exact(hrow.lt g e).1
def q7k(w:As)(base k n f:Nat)(B:Nat->Nat)(R:Nat->At×List Nat)(e:Ending)(w':As):Prop:=
 e=.returned (.tuple #[])/\∃R',Gr w' base k B R'/\Below base w w'/\(∀a,(R' a).2=qkm n f (λa=>(R a).2) a)/\R' 0=R 0
theorem q7l{base f:Nat}(h:Gr w base k B R)(hn:n<k)(hf:f<k)(hl1:(R (2*n+1)).2.length<1000)(hl2:(R (2*f+2)).2.length<1000) :
   Ax AB 143 #[.pointer (some ⟨B n,0,none⟩),.pointer (some ⟨B f,0,none⟩)] w (q7k w base k n f B R):=by
 by_cases hm:f∈(R (2*n+1)).2
 . have Hm:=Lib.hid hm;clear hm;go_enter AR,AK;go_wp2_with fail;refine(qif h hn hf (b:=true) (by simpa using Hm.out)).mono ?_;rintro e w' ⟨rfl,rfl⟩;go_wp2_with fail;refine AA (Az rfl _ _ _) rfl ⟨rfl,R,h,Below.refl _ _,λa=>?_,rfl⟩;unfold qkm;rw[if_pos Hm.out]
 . have Hm:=Lib.hid hm;clear hm;go_enter AR,AK;go_wp2_with fail;refine(qif h hn hf (b:=false) (by simpa using Hm.out)).mono ?_;rintro e w' ⟨rfl,rfl⟩;have c1:w.cell? ⟨B n,1,none⟩=some (R (2*n+1)).1:=(h.blk n hn).cell 1;obtain⟨v1,hv1⟩:∃v1,(R (2*n+1)).1=v1:=⟨_,rfl⟩;rw[hv1]at c1;have Hv1:=Lib.hid hv1;clear hv1;go_wp2_with (at_builtin;go_must (refine qp7 h hn (.inl rfl) hf hl1 (.tmp 11) (.tmp 13) rfl rfl Hv1.out rfl rfl rfl ?_));intro A1 n1 cc1 w1 d1 d2 G1 qbL
   have d3:(w1.setCell ⟨B n,1,none⟩ (.slice A1 n1 cc1)).cell? ⟨B f,2,none⟩=some (R (2*f+2)).1:=by
    rw[(G1.blk f hf).cell 2];show some (upd R (2*n+1) (.slice A1 n1 cc1,(R (2*n+1)).2++[f]) (2*f+2)).1=_;rw[qaw _ _ (show 2*f+2≠2*n+1 by omega)]
   obtain⟨v2,hv2⟩:∃v2,(R (2*f+2)).1=v2:=⟨_,rfl⟩;rw[hv2]at d3
   have Hv2:Hid ((upd R (2*n+1) (.slice A1 n1 cc1,(R (2*n+1)).2++[f]) (2*f+2)).1=v2):=by
    show (upd R (2*n+1) (.slice A1 n1 cc1,(R (2*n+1)).2++[f]) (2*f+2)).1=v2;rw[qaw _ _ (show 2*f+2≠2*n+1 by omega)];exact hv2
   clear hv2;go_wp2_with (at_builtin;go_must (refine qp7 (i:=f) (c:=2) (j:=n) G1 hf (.inr rfl) hn ?_ (.tmp 21) (.tmp 23) rfl rfl Hv2.out rfl rfl (AW _ _ _).symm ?_))
   . rw[qaw _ _ (show 2*f+2≠2*n+1 by omega)];exact hl2
   . intro A2 n2 cc2 w2 d4 d5 G2 qbM;go_wp2_with fail;refine AA (Az rfl _ _ _) rfl ⟨rfl,_,G2,qbL.trans qbM,λa=>?_,by rw[qaw _ _ (by omega),qaw _ _ (by omega)]⟩;unfold qkm;rw[if_neg Hm.out];unfold upd;by_cases h1:a=2*f+2
     . rw[if_pos h1,if_pos h1,if_neg (show 2*f+2≠2*n+1 by omega)]
     . rw[if_neg h1,if_neg h1];by_cases h2:a=2*n+1
       . rw[if_pos h2,if_pos h2]
       . rw[if_neg h2,if_neg h2]
theorem Gr.node{base:Nat}(h:Gr w base k B R) :
   Gr (w.alloc (.cells #[.int .i64 (k:Nat),.slice none 0 0,.slice none 0 0] 179)) base (k+1) (upd B k w.heap.size) R:=by
 have hB:∀a,a<2*k+1->ptrs (upd B k w.heap.size) (R a).2=ptrs B (R a).2:=by
  intro a ha;unfold ptrs;apply List.map_congr_left;intro j hj;rw[qaw _ _ (by have:=h.mem a ha j hj;omega)]
 have r1:=h.rest (2*k+1) (by omega);have r2:=h.rest (2*k+2) (by omega);refine⟨?_,?_,?_,⟨?_,?_⟩,?_,h.len,λa ha=>h.rest a (by omega),by simp;have:=h.jy;omega⟩
 . intro i hi;by_cases hik:i=k
   . subst hik;rw[upd_same,r1,r2];exact Blk.new w _ _
   . rw[qaw _ _ hik];exact(h.blk i (by omega)).alloc _
 . intro i j hi hj;by_cases hik:i=k
   . subst hik;by_cases hjk:j=i
     . exact λ_=>hjk.symm
     . rw[upd_same,qaw _ _ hjk];intro e;have:=(h.blk j (by omega)).lt;omega
   . by_cases hjk:j=k
     . subst hjk;rw[upd_same,qaw _ _ hik];intro e;have:=(h.blk i (by omega)).lt;omega
     . rw[qaw _ _ hik,qaw _ _ hjk];exact h.inj i j (by omega) (by omega)
 . intro i hi;by_cases hik:i=k
   . subst hik;rw[upd_same];exact h.jy
   . rw[qaw _ _ hik];exact h.low i (by omega)
 . intro a ha;by_cases hak:a<2*k+1
   . rw[hB a hak];exact(h.rw_.rows a hak).alloc _
   . rw[h.rest a (by omega)];exact AX _ _ _ _
 . intro a b ha hb hab;by_cases hak:a<2*k+1
   . by_cases hbk:b<2*k+1
     . exact h.rw_.apart a b hak hbk hab
     . rw[h.rest b (by omega)];cases hx:(R a).1.ownBlock
       . exact .inl rfl
       . exact .inr (by simp[ownBlock])
   . rw[h.rest a (by omega)];exact .inl rfl
 . intro a ha j hj;by_cases hak:a<2*k+1
   . have:=h.mem a hak j hj;omega
   . rw[h.rest a (by omega)]at hj;simp at hj
theorem Gr.qbN{base:Nat}(h:Gr w base k B R)(hj:j<k)(hl:(R 0).2.length<1000)(hg:w.grownBy w' (R 0).1.ownBlock)
   (ho:w'.ownsRow base 177 1 v' ((R 0).2.length+1) (ptrs B (R 0).2++[.pointer (some ⟨B j,0,none⟩)])) (hN:w.heap.size<=N) (hob:v'.ownBlock=(R 0).1.ownBlock∨v'.ownBlock=some N) :
   Gr w' base k B (upd R 0 (v',(R 0).2++[j])):=by
 have hbn:∀i',i'<k->some (B i')≠(R 0).1.ownBlock:=λi' hi' e=>qg.own (h.rw_.rows 0 (by omega)) (show 179≠177 by decide) _ e.symm _ (h.blk i' hi');refine⟨?_,h.inj,h.low,h.rw_.push (by omega) hg ho hN hob,?_,?_,?_,BI h.jy hg.size⟩
 . intro i' hi';rw[qaw _ _ (by omega),qaw _ _ (by omega)];exact(h.blk i' hi').grown hg (hbn i' hi')
 . intro a haa x hx;by_cases hae:a=0
   . subst hae;rw[upd_same]at hx;rcases Br.1 hx with hx|hx
     . exact h.mem _ haa x hx
     . simp at hx;omega
   . rw[qaw _ _ hae]at hx;exact h.mem a haa x hx
 . intro a;by_cases hae:a=0
   . subst hae;rw[upd_same,Bt];simp;omega
   . rw[qaw _ _ hae];exact h.len a
 . intro a haa;rw[qaw _ _ (by omega)];exact h.rest a haa
def qp8(w:As)(qa:List Node)(e:Ending)(w':As):Prop:=
 ∃gv,e=.returned (.tuple #[gv,.bool (qae qa)])/\w.grownBy w' none/\(qae qa=true->∃B R,Gr w' w.heap.size qa.length B R/\(R 0).1=gv/\∀a,(R a).2=qtb qa a)
theorem Gr.at0{base f:Nat}(h:Gr w base k B R)(hv:(R 0).1=.slice A n c)(hr:(R 0).2=Bq n)(hf:f<n) :
   ∃g,A=some ⟨g,0,none⟩/\w.cell? ⟨g,f,none⟩=some (.pointer (some ⟨B f,0,none⟩)):=by
 obtain⟨A',c',h1,h2⟩:=h.form (a:=0) (by omega);rw[hv]at h1;injection h1 with h1 _ _;subst h1;rw[hr,BA]at h2;obtain⟨g,hg,hc⟩:=h2 (by omega);exact⟨g,hg,hc f f (by simp[hf])⟩
theorem qwd(v:At)(qa:List Node)(w:As)(h:RN w v qa)(hl:10<qa.length):Ax AB 92 #[v] w (qp8 w qa):=by
 have Hv:Hid (qae qa=false):=by
  show qae qa=false;unfold qae;simp;omega
 obtain⟨A,n,c,rfl,_,hn,hle⟩:=h.form';have hl':(10:Int)<n:=by omega
 clear hl;have Hn:=Lib.hid hn;clear hn;go_enter AT,AM;go_wp2_with fail
 go_ret2
 exact⟨_,by rw[Hv.out];rfl,qag _ _,λh=>by rw[Hv.out]at h;cases h⟩
theorem qy4(v:At)(qa:List Node)(w:As)(h:RN w v qa)(hl:qa.length<=10):Ax AB 92 #[v] w (qp8 w qa):=by
 obtain⟨A,n,c,rfl,_,hn,hle⟩:=h.form';have hl':n<=10:=by omega
 clear hl;have Hn:=Lib.hid hn;clear hn;obtain⟨i0,hi,hz0,hz1,hz2⟩:=info_parts qy3;go_enter AT,AM;go_wp2_with (at_make;go_must (refine wpList_make_own _ rfl _ _ 124 rfl w.heap.size 177 i0 _ 1 AD hi hz0 hz1 _ _ _ n rfl rfl rfl (by rw[hz2];omega) (by unfold maxLen;omega) (BJ _) ?_));intro w0 hown0 hg0;go_wp2_with fail
 go_loopw [4,5,19] (fun gv wd i wr=>∃ (k:Nat) (B:Nat->Nat) (R:Nat->At × List Nat),k<=n/\i=.int .i64 k/\wd=.int .i64 (qfo qa k)/\(R 0).1=gv/\Gr wr w.heap.size k B R/\(∀ a,(R a).2=qem qa k a) /\
     (qa.zipIdx.take k).all (λx=>qcu x.1 x.2 (wide qa))=true/\(∀a,(R a).2.length<=3*k)/\(R 0).2=Bq k/\w.grownBy wr none) (λ_ _ i _=>n-(intOf i).toNat)
 case atStart=>
  refine⟨0,λ_=>0,upd (λ_=>(.slice none 0 0,[])) 0 (.slice (some ⟨w.heap.size,0,none⟩) 0 n,[]),BH _,rfl,rfl,by rw[upd_same],?_,?_,rfl,?_,by rw[upd_same];rfl,hg0⟩
  . refine⟨λi hi=>by omega,λi j hi=>by omega,λi hi=>by omega,⟨?_,λa b ha hb hab=>by omega⟩,?_,?_,?_,hg0.size⟩
    . intro a ha;obtain rfl:a=0:=by omega
      rw[upd_same];exact hown0
    . intro a ha j hj;obtain rfl:a=0:=by omega
      rw[upd_same]at hj;simp at hj
    . intro a;unfold upd;split<;>simp
    . intro a ha;rw[qaw _ _ (by omega)]
  . intro a;unfold upd;split<;>rfl
  . intro a;unfold upd;split<;>simp
 case round=>
  obtain⟨k,B,R,hk,rfl,rfl,hR0,G,hL,hall,hlen,hrg,hg⟩:=hrel;have HR0:=Lib.hid hR0;have HL:=Lib.hid hL;have qB:=Lib.hid hall;have xS:=Lib.hid hlen;have Hrg:=Lib.hid hrg;clear hR0 hL hall hlen hrg hown0 hg0;by_cases hlt:k<n
  . have hwr:=h.new hg;obtain⟨g,o,nd,f,r,rfl,hx,e0,e1,e2,hf,hr⟩:=h.at_ hlt;have c0:=hg.cell e0 (by simp);have c1:=hg.cell e1 (by simp);have c2:=hg.cell e2 (by simp);have Hx:=Lib.hid hx;clear hx hwr e0 e1 e2;obtain⟨Af,nf,cf,rfl,_,hnf⟩:=hf.form';obtain⟨Ar,nr,cr,rfl,_,hnr⟩:=hr.form';have Hnf:=Lib.hid hnf;have Hnr:=Lib.hid hnr;clear hnf hnr;obtain⟨Ag,cg,hAg,_⟩:=G.form (a:=0) (by omega);obtain rfl:u4=.slice Ag k cg:=by rw[<-HR0.out,hAg,Hrg.out,BA]
    clear hAg;have hnv:NV (wr.alloc (.cells #[.int .i64 nd.kind,.slice Af nf cf,.slice Ar nr cr] 81)) (.agg #[.int .i64 nd.kind,.slice Af nf cf,.slice Ar nr cr]) nd:=⟨_,_,rfl,(hf.new hg).alloc _,(hr.new hg).alloc _⟩;by_cases hfit:qbe nd k=true
    . have qD:=Lib.hid hfit;clear hfit;have qlH:nf<=2:=by have:=qnx qD.out;rw[<-Hnf.out]at this;exact this
      go_wp2_with fail;refine(qtd _ nd k _ hnv qD.out).mono ?_;rintro e w2 ⟨rfl,hg2⟩;have hB2:=(Blk.new wr 81 #[.int .i64 nd.kind,.slice Af nf cf,.slice Ar nr cr]).grown hg2 (by simp);have d0:w2.cell? ⟨wr.heap.size,0,none⟩=some (.int .i64 nd.kind):=hB2.cell 0;have d1:w2.cell? ⟨wr.heap.size,1,none⟩=some (.slice Af nf cf):=hB2.cell 1;have d2:w2.cell? ⟨wr.heap.size,2,none⟩=some (.slice Ar nr cr):=hB2.cell 2;have qaE:wr.grownBy w2 none:=qac (AV _ _ _) hg2;clear c0 c1 c2 hnv hg2
      go_upto_if 30 with fail
      go_cut [5] (λwd wx=>wx=w2/\wd=.int .i64 (qfo qa (k+1))/\Hid (qcu nd k (wide qa)=true))
      case first=>
       by_cases hk0:nd.kind=0
       . have hb0:(nd.kind==0)=true:=by simpa using hk0
         have Hk0:=Lib.hid hk0;clear hk0
         have Hok:∀{b:Bool},decide (nr=wide qa)=b->Hid (qcu nd k (wide qa)=b):=by
          intro b hb;show qcu nd k (wide qa)=b;rw[qlf,qD.out,if_pos Hk0.out,<-Hnr.out,hb,Am]
         have Hw1:Hid (qfo qa (k+1)=(wide qa:Int)):=qub Hx.out Hk0.out;by_cases hany:(qa.take k).any (λx=>x.kind==0)=true
         . rw[show qfo qa k=(wide qa:Int)from if_pos hany];clear hany;by_cases hwd:nr=wide qa
           . have yE:=Hok (decide_eq_true hwd);have Hwd:=Lib.hid hwd;have hb1:((nr:Int) != (wide qa:Int))=false:=by rw[bne_eq_false_iff_eq];omega
             clear hwd Hok;go_wp2_with fail;go_meet;exact⟨rfl,by rw[Hw1.out,Hwd.out],yE⟩
           . have yE:=Hok (decide_eq_false hwd);have Hv:Hid (qae qa=false):=qlg Hx.out yE.out;have hb1:((nr:Int) != (wide qa:Int))=true:=by rw[bne_iff_ne];omega
             clear hwd Hok yE;go_wp2_with fail
             go_ret2
             exact⟨_,by rw[Hv.out];rfl,qac hg qaE,λh=>by rw[Hv.out]at h;cases h⟩
         . have ko:(qa.take k).any (λx=>x.kind==0)=false:=by simpa using hany
           have hwf:=q19 Hx.out Hk0.out ko;rw[<-Hnr.out]at hwf;have yE:=Hok (decide_eq_true hwf.symm);have Hwd:=Lib.hid hwf;rw[show qfo qa k=-1 from if_neg hany];clear hany ko hwf Hok;go_wp2_with fail;go_meet;exact⟨rfl,by rw[Hw1.out,Hwd.out],yE⟩
       . have Hok:Hid (qcu nd k (wide qa)=true):=by
          show qcu nd k (wide qa)=true;rw[qlf,qD.out,if_neg hk0];rfl
         have Hw:Hid (qfo qa (k+1)=qfo qa k):=quc Hx.out hk0;have hb0:(nd.kind==0)=false:=by simpa using hk0
         clear hk0;go_wp2_with fail;go_meet;exact⟨rfl,by rw[Hw.out],Hok⟩
      case rest=>
       obtain⟨wo,rfl⟩:∃wo:As,wo=wr:=⟨_,rfl⟩;obtain⟨hwc,rfl,Hok⟩:=hcut;have hwc':=hwc.symm;clear hwc;subst hwc';clear d0 d2;have G3:=(G.new qaE).node;have hB3:=hB2.alloc (.cells #[.int .i64 (k:Nat),.slice none 0 0,.slice none 0 0] 179);have hg3:w.grownBy (w2.alloc (.cells #[.int .i64 (k:Nat),.slice none 0 0,.slice none 0 0] 179)) none:=qaq (qac hg qaE) _;go_upto_region 15 with fail;obtain⟨B',hB'⟩:∃B',B'=upd B k w2.heap.size:=⟨_,rfl⟩;rw[<-hB']at G3;rw[show w2.heap.size=B' k by rw[hB',upd_same]];clear hB' hB2 d1 qaE;generalize w2.alloc (.cells #[.int .i64 (k:Nat),.slice none 0 0,.slice none 0 0] 179)=w3 at *;have d1:w3.cell? ⟨wo.heap.size,1,none⟩=some (.slice Af nf cf):=hB3.cell 1;go_wp2_with fail
       go_loopw [49] (λi wy=>∃(m:Nat) (R':Nat->At×List Nat),m<=nf/\i=.int .i64 m/\Gr wy w.heap.size (k+1) B' R'/\(∀a,(R' a).2=qdv k (nd.frm.take m) (qem qa k) a)/\(∀a,(R' a).2.length<=3*k+m)/\R' 0=R 0/\Below w.heap.size w3 wy) (λi _=>nf-(intOf i).toNat)
       case atStart=>exact⟨0,R,BH _,rfl,G3,λa=>HL.out a,λa=>by have:=xS.out a;omega,rfl,Below.refl _ _⟩
       case round=>
        obtain⟨m,R',hm,rfl,G',hL',hlen',hR',qdW⟩:=hrel;have HL':=Lib.hid hL';have vQ:=Lib.hid hlen';have HR':=Lib.hid hR';clear hL' hlen' hR';have hgy:w.grownBy wr none:=qyp ((q7g hg3).trans qdW) none;have hR1:Hid ((R' 0).1=.slice Ag k cg):=by show (R' 0).1=_;rw[HR'.out,HR0.out]
        have hR2:Hid ((R' 0).2=Bq k):=by show (R' 0).2=_;rw[HR'.out,Hrg.out]
        by_cases hmf:m<nf
        . obtain⟨g1,o1,x,rfl,hx,hcell⟩:=(hf.new hgy).at_ hmf;have Hxm:=Lib.hid hx;clear hx;have hxb:=qc9 qD.out (Bb Hxm.out);obtain⟨x',rfl⟩:=Int.eq_ofNat_of_zero_le hxb.1;have hxk:x'<k:=by omega
          obtain⟨gg,rfl,hgc⟩:=G'.at0 hR1.out hR2.out hxk;clear hxb;go_wp2_with fail;refine(q7l G' (n:=k) (f:=x') (by omega) (by omega) (by have:=vQ.out (2*k+1);omega) (by have:=vQ.out (2*x'+2);omega)).mono ?_;rintro e w5 ⟨rfl,R5,G5,hb5,hl5,hr5⟩;have Hl5:=Lib.hid hl5;have Hr5:=Lib.hid hr5;clear hl5 hr5;go_wp2;go_roundw
          case rel=>
           refine⟨m+1,R5,by omega,by go_num,G5,λa=>?_,λa=>?_,by rw[Hr5.out,HR'.out],qdW.trans hb5⟩
           . rw[qv5 _ Hxm.out,Hl5.out a,show (λa=>(R' a).2)=qdv k (nd.frm.take m) (qem qa k)from funext HL'.out];rfl
           . rw[Hl5.out a];have:=q4m k x' (λa=>(R' a).2) a;have:=vQ.out a;omega
          case measure=>simp[intOf];omega
        . have hmn:m=nf:=by omega
          subst hmn;have hrow:=G'.row (a:=0) (by omega);have kp:=hrow;rw[hR1.out,hR2.out]at kp;go_wp2_with (at_builtin;go_must (refine qfy (.tmp 60) (.tmp 62) 124 _ 1 8 AD qy3 rfl (by decide) (by decide) rfl rfl kp (by simp;omega) G'.jy rfl (by simp[oneCell']) (by simp[Act.eval]) rfl ?_));intro v' w5 qF hg5 qdX
          have G5:Gr w5 w.heap.size (k+1) B' (upd R' 0 (v',(R' 0).2++[k])):=by
           refine G'.qbN (j:=k) (by omega) (by have:=vQ.out 0;omega) (by rw[hR1.out];exact hg5) (by rw[hR2.out];simpa using qF) (BN _) (by rw[hR1.out];exact qdX)
          have hgf:w.grownBy w5 none:=qa2 hgy hg5 (λg e=>.inl (by
           have:=hrow.lt g (by rw[hR1.out];exact e);exact this.1))
          have hfin:∀a,(upd R' 0 (v',(R' 0).2++[k]) a).2=qem qa (k+1) a:=by
           intro a;rw[qgw Hx.out];unfold qhf
           have hl0:qdv k nd.frm (qem qa k)=λa=>(R' a).2:=by
            funext b;rw[HL'.out b,Be (by rw[<-Hnf.out];omega)]
           show _=upd (qdv k nd.frm (qem qa k)) 0 (qdv k nd.frm (qem qa k) 0++[k]) a;rw[hl0];unfold upd;split<;>rfl
          have hlf:∀a,(upd R' 0 (v',(R' 0).2++[k]) a).2.length<=3*(k+1):=by
           intro a;by_cases ha:a=0
           . subst ha;rw[upd_same,hR2.out];simp;omega
           . rw[qaw _ _ ha];have:=vQ.out a;omega
          have qbO:=Lib.hid hfin;have Hlf:=Lib.hid hlf;clear hfin hlf qF hg5 qdX;go_wp2;go_roundw
          case rel=>exact⟨k+1,B',_,by omega,by go_num,rfl,by rw[upd_same],G5,qbO.out,by rw[qfx _ (qmz Hx.out),qB.out];exact Hok.out,Hlf.out,by rw[upd_same,hR2.out,List.range_succ],hgf⟩
          case measure=>simp[intOf];omega
    . have xU:qbe nd k=false:=by simpa using hfit
      have Hv:Hid (qae qa=false):=qlg Hx.out (by rw[qlf,xU];rfl);have qD:=Lib.hid xU;clear hfit xU;go_wp2_with fail;refine(qtd _ nd k _ hnv qD.out).mono ?_;rintro e w2 ⟨rfl,hg2⟩;have hgf:w.grownBy w2 none:=qac (qaq hg _) hg2;go_wp2_with fail
      go_ret2
      exact⟨_,by rw[Hv.out];rfl,hgf,λh=>by rw[Hv.out]at h;cases h⟩
  . have hkn:k=n:=by omega
    subst hkn
    have Hv:Hid (qae qa=true):=by
     show qae qa=true;have h1:=qB.out;rw[Be (by rw[List.length_zipIdx,<-Hn.out];omega)]at h1;unfold qae;rw[h1,<-Hn.out,Am];exact decide_eq_true (by omega)
    go_wp2_with fail
    go_ret2
    refine⟨_,by rw[Hv.out];rfl,hg,λ_=>⟨B,R,?_,HR0.out,?_⟩⟩
    . rw[<-Hn.out];exact G
    . intro a;rw[HL.out a];unfold qtb;rw[<-Hn.out]
theorem qp9(v:At)(qa:List Node)(w:As)(h:RN w v qa):Ax AB 92 #[v] w (qp8 w qa):=by
 by_cases hl:qa.length<=10
 . exact qy4 v qa w h hl
 . exact qwd v qa w h (by omega)
theorem qm3(v:At)(qa:List Node)(w:As)(h:RN w v qa) :
   Ax AB 55 #[v] w λe w'=>e=.returned (.bool (qae qa))/\w.grownBy w' none:=by
 obtain⟨A,n,c,rfl⟩:=h.val;go_enter Tryz.func55,Tryz.ntmps55;go_wp2_with fail;refine(qp9 _ qa _ h).mono ?_;rintro e w' ⟨gv,rfl,hg,_⟩;go_wp2;go_ret;exact⟨rfl,hg⟩
theorem qb6(v:At)(qa:List Node)(w:As)(h:RN w v qa){b:Bool}(hb:qae qa=b) :
   Ax AB 55 #[v] w λe w'=>e=.returned (.bool b)/\w.grownBy w' none:=hb▸qm3 v qa w h
structure Zn(lo hi:Nat)(w w':As):Prop where
 os:w'.os=w.os
 tape:w'.tape=w.tape
 output:w'.output=w.output
 size:w.heap.size<=w'.heap.size
 block:∀i,i<w.heap.size->(i<lo∨hi<=i)->w'.heap[i]?=w.heap[i]?
theorem Zn.refl(lo hi:Nat)(w:As):Zn lo hi w w:=⟨rfl,rfl,rfl,BJ _,λ_ _ _=>rfl⟩
theorem Zn.trans{c:As}(h:Zn lo hi a b)(k:Zn lo hi b c):Zn lo hi a c:=
 ⟨k.os.trans h.os,k.tape.trans h.tape,k.output.trans h.output,BI h.size k.size,λi hi hr=>(k.block i (BK hi h.size) hr).trans (h.block i hi hr)⟩
theorem Zn.zr{row:Option Nat}(h:a.grownBy b row)(hr:∀g,row=some g->lo<=g/\g<hi):Zn lo hi a b:=
 ⟨h.os,h.tape,h.output,h.size,λi hi h'=>h.block i hi (λe=>by have:=hr i e.symm;omega)⟩
theorem Zn.gb{c:As}(h:a.grownBy b none)(k:Zn lo hi b c)(hl:a.heap.size<=lo):a.grownBy c none:=
 ⟨k.os.trans h.os,k.tape.trans h.tape,k.output.trans h.output,BI h.size k.size,λi hi _=>(k.block i (BK hi h.size) (.inl (by omega))).trans (h.block i hi (by simp))⟩
theorem Blk.yF{t:TypeId}(h:Blk w g t cs)(k:Zn lo hi w w')(hg:g<lo∨hi<=g):Blk w' g t cs:=(k.block g h.lt hg).trans h
theorem q7m{base:Nat}(h:w.ownsRow base E size v n xs)(k:Zn lo hi w w')(hb:hi<=base):w'.ownsRow base E size v n xs:=by
 refine⟨h.1,?_⟩;rcases h.2 with h0|⟨g,cap,cur,h1,h2,h3,h4⟩
 . exact .inl h0
 . exact .inr ⟨g,cap,cur,h1,h2,Blk.yF (t:=E) (cs:=cur) h3 k (.inr (by omega)),h4⟩
def WI(w:As)(lo hi:Nat)(f:At)(n:Nat):Prop:=
 n<=1048576/\∃A c,f=.slice A n c/\n<=c/\(n=0∨∃g cur,A=some ⟨g,0,none⟩/\lo<=g/\g<hi/\Blk w g 3 cur/\n<=cur.size)
theorem WI.form(h:WI w lo hi f n):∃A c,f=.slice A n c/\n<=c/\n<=1048576:=by
 obtain⟨h1,A,c,h2,h3,_⟩:=h;exact⟨A,c,h2,h3,h1⟩
theorem WI.at_(h:WI w lo hi (.slice A n c) n)(h0:0<n):∃g cur,A=some ⟨g,0,none⟩/\lo<=g/\g<hi/\Blk w g 3 cur/\n<=cur.size:=by
 obtain⟨h1,A',c',h2,h3,h4⟩:=h;injection h2 with e1 _ e2;subst e1 e2;rcases h4 with h4|h4
 . omega
 . exact h4
theorem qf.wi{base:Nat}(h:qf w base v l)(h1:lo<=base)(h2:w.heap.size<=hi)(hl:l.length<=1048576):WI w lo hi v l.length:=by
 refine⟨hl,?_⟩;have hlt:=h.lt;rcases h.2 with ⟨rfl,h0⟩|⟨g,cap,cur,rfl,hb,hg,hn,_,hcs,_⟩
 . rw[h0];exact⟨none,0,rfl,BJ _,.inl rfl⟩
 . have:=hlt g rfl;exact⟨_,cap,rfl,hn,.inr ⟨g,cur,rfl,by omega,by omega,hg,by omega⟩⟩
structure MI(lo hi:Nat)(w w':As):Prop where
 z:Zn lo hi w w'
 ints:∀g cs,Blk w g 3 cs->∃cs':Array At,Blk w' g 3 cs'/\cs'.size=cs.size
 other:∀g t cs,t≠3->Blk w g t cs->Blk w' g t cs
theorem MI.refl(lo hi:Nat)(w:As):MI lo hi w w:=⟨Zn.refl _ _ _,λ_ cs h=>⟨cs,h,rfl⟩,λ_ _ _ _ h=>h⟩
theorem MI.trans{c:As}(h:MI lo hi a b)(k:MI lo hi b c):MI lo hi a c:=
 ⟨h.z.trans k.z,λg cs hb=>by
  obtain⟨cs',h1,h2⟩:=h.ints g cs hb;obtain⟨cs2,h3,h4⟩:=k.ints g cs' h1;exact⟨cs2,h3,by omega⟩,λg t cs ht hb=>k.other g t cs ht (h.other g t cs ht hb)⟩
theorem MI.qC{cur:Array At}(hb:Blk w g 3 cur)(h1:lo<=g)(h2:g<hi)(j:Nat)(u:At):MI lo hi w (w.setCell ⟨g,j,none⟩ u):=by
 refine⟨Zn.zr (qa3 (p:=⟨g,j,none⟩) (qag w (some g)) (.inr rfl) u) (λg' e=>by cases e;exact⟨h1,h2⟩),λg' cs hb'=>?_,λg' t cs ht hb'=>hb'.far (hb'.ne_ hb ht) u⟩;by_cases e:g'=g
 . subst e;exact⟨_,hb'.qC j u,by simp⟩
 . exact⟨cs,hb'.far (p:=⟨g,j,none⟩) e u,rfl⟩
theorem MI.xz(h:a.grownBy b none):MI lo hi a b:=
 ⟨Zn.zr h (λ_ e=>by cases e),λ_ cs hb=>⟨cs,hb.grown h (by simp),rfl⟩,λ_ _ _ _ hb=>hb.grown h (by simp)⟩
theorem WI.mi(h:WI w lo hi f n)(k:MI lo' hi' w w'):WI w' lo hi f n:=by
 obtain⟨h1,A,c,h2,h3,h4⟩:=h;refine⟨h1,A,c,h2,h3,?_⟩;rcases h4 with h4|⟨g,cur,h5,h6,h7,h8,h9⟩
 . exact .inl h4
 . obtain⟨cs',k1,k2⟩:=k.ints g cur h8;exact .inr ⟨g,cs',h5,h6,h7,k1,by omega⟩
def q7n(lo hi:Nat)(w:As)(v:At)(n k:Nat)(e:Ending)(w':As):Prop:=
 e=.returned (.int .i64 (k+n:Nat))/\MI lo hi w w'/\w.grownBy w' v.ownBlock/\(∀base l,qf w base v l->qf w' base v ((Bq n).map (λj:Nat=>((k+j:Nat):Int))))
theorem qsk{base:Nat}{l':List Int}(h:qf w base v l)(hn:n=l.length)(hl:l'.length=n)
   (hc:∀g,v.ownBlock=some g->∀cur,Blk w g 3 cur->∃cs':Array At,Blk w' g 3 cs'/\cs'.size=cur.size/\∀(j:Nat) (x:Int),l'[j]?=some x->cs'[j]?=some (int .i64 x)):qf w' base v l':=by
 subst hn;unfold qf;rw[hl];refine⟨by simp[hl],?_⟩;rcases h.2 with ⟨rfl,h0⟩|⟨g,cap,cur,rfl,hb,hg,hn,hm,hcs,ht⟩
 . exact .inl ⟨rfl,h0⟩
 . obtain⟨cs',k1,k2,k3⟩:=hc g rfl cur hg;refine .inr ⟨g,cap,cs',rfl,hb,k1,hn,hm,by omega,?_⟩;apply Bu;intro j;rw[Bo];by_cases hj:j<l.length
   . obtain⟨x,hx⟩:∃x,l'[j]?=some x:=⟨_,B9 (by omega)⟩;rw[if_pos (by omega),Bm,hx];simpa using k3 j x hx
   . rw[if_neg (by omega),List.getElem?_eq_none (by simp;omega)]
theorem qiz(lo hi:Nat)(v:At)(n k:Nat)(w:As)(h:WI w lo hi v n)(hk:k<=8000000000000000000)(kz:Int)(hkz:kz=(k:Nat):=by omega) :
   Ax AB 32 #[v,.int .i64 kz] w (q7n lo hi w v n k):=by
 subst hkz;obtain⟨A,c,rfl,hnc,hn⟩:=h.form;go_enter Tryz.func32,Tryz.ntmps32;go_wp2_with fail
 go_loopw [1,5] (λs i wr=>∃j:Nat,j<=n/\i=.int .i64 j/\s=.int .i64 (k+j:Nat)/\MI lo hi w wr/\w.grownBy wr (slice A n c).ownBlock/\Hid (∀g,A=some ⟨g,0,none⟩->∀cur,Blk wr g 3 cur->∀j',j'<j->cur[j']?=some (.int .i64 (k+j':Nat)))) (λ_ i _=>n-(intOf i).toNat)
 case atStart=>exact⟨0,BH _,rfl,rfl,MI.refl _ _ _,qag _ _,λg _ cur _ j' hj=>by omega⟩
 case round=>
  obtain⟨j,hj,rfl,rfl,hM,hG,Hc⟩:=hrel;by_cases hlt:j<n
  . obtain⟨g,cur,rfl,h1,h2,hb,h3⟩:=(h.mi hM).at_ (by omega);have f0:=hb.frozen j;obtain⟨u,hu⟩:∃u,cur[j]?=some u:=⟨_,Ah (by omega)⟩;have c0:wr.cell? ⟨g,j,none⟩=some u:=(hb.cell j).trans hu;have hM2:=hM.trans (MI.qC hb h1 h2 j (.int .i64 (k+j:Nat)));have hG2:w.grownBy (wr.setCell ⟨g,j,none⟩ (.int .i64 (k+j:Nat))) (slice (some ⟨g,0,none⟩) n c).ownBlock:=qa3 (p:=⟨g,j,none⟩) hG (.inr rfl) _
    have Hc2:Hid (∀g',(some ⟨g,0,none⟩:Option Addr)=some ⟨g',0,none⟩->∀cur,Blk (wr.setCell ⟨g,j,none⟩ (.int .i64 (k+j:Nat))) g' 3 cur->∀j',j'<j+1->cur[j']?=some (.int .i64 (k+j':Nat))):=by
     intro g' e cur' hb' j' hj';obtain rfl:g=g':=by injection e with e;injection e
     have hs:=hb.qC j (.int .i64 (k+j:Nat))
     obtain rfl:cur'=cur.setIfInBounds j (.int .i64 (k+j:Nat)):=by
      unfold Blk at hb' hs;rw[hs]at hb';injection hb' with hb';injection hb' with e1;exact e1.symm
     by_cases hjj:j'=j
     . subst hjj;rw[Array.getElem?_setIfInBounds_self_of_lt (by omega)]
     . rw[Ab (by omega)];exact Hc.out g rfl cur hb j' (by omega)
    clear hb hM hG Hc hu;go_wp2;go_roundw
    case rel=>exact⟨j+1,by omega,by go_num,by go_num,hM2,hG2,Hc2⟩
    case measure=>simp[intOf];omega
  . obtain rfl:j=n:=by omega
    go_wp2;go_ret;refine⟨rfl,hM,hG,λbase l ho=>?_⟩
    obtain⟨A',n',c',e,hl,_⟩:∃A n c,(slice A j c)=slice A n c/\n=l.length/\n<=c:=by
     obtain⟨A',n',c',e,e2,e3⟩:=ho.ri.form';injection e with e4 e5 e6;subst e4 e5 e6;exact⟨A,j,c,rfl,e3,e2⟩
    injection e with _ e2 _;refine qsk ho (n:=j) (by omega) (by simp) ?_;intro g hg cur hb;obtain⟨cs',k1,k2⟩:=hM.ints g cur hb;refine⟨cs',k1,k2,λi x hi=>?_⟩;have hij:i<j:=by have:=(Ba.1 hi).1;simpa using this
    have hA:A=some ⟨g,0,none⟩:=by
     rcases ho.2 with ⟨e0,_⟩|⟨g',cap,cur',e0,_⟩
     . rw[e0]at hg;cases hg
     . injection e0 with e0 _ _;rw[e0]at hg |-;cases hg;rfl
    rw[Hc.out g hA cs' k1 i hij];rw[Bm,Bz hij]at hi;injection hi with hi;rw[<-hi]
theorem qi0(v:At)(n k:Nat)(w:As)(h:RI w v ((Bq n).map (λj:Nat=>((k+j:Nat):Int))))(hk:k<=8000000000000000000)(hn:n<=1048576)(kz:Int)(hkz:kz=(k:Nat):=by omega) :
   Ax AB 35 #[v,.int .i64 kz] w λe w'=>e=.returned (.int .i64 (k+n:Nat))/\w=w':=by
 subst hkz;obtain⟨A,n',c,rfl,h2,h3⟩:=h.form';obtain rfl:n'=n:=by simpa using h3
 clear h3;go_enter Tryz.func35,Tryz.ntmps35;go_wp2_with fail
 go_loop [1,5] (λs i=>∃j:Nat,j<=n'/\i=.int .i64 j/\s=.int .i64 (k+j:Nat)) (λ_ i=>n'-(intOf i).toNat)
 case atStart=>exact⟨0,BH _,rfl,rfl⟩
 case round=>
  obtain⟨j,hj,rfl,rfl⟩:=hrel;by_cases hlt:j<n'
  . obtain⟨g,o,x,rfl,hx,c0⟩:=h.at_ hlt;rw[Bm,Bz hlt]at hx;obtain rfl:((k+j:Nat):Int)=x:=by injection hx
    clear hx;go_wp2;go_round
    case rel=>exact⟨j+1,by omega,by go_num,by go_num⟩
    case measure=>simp[intOf];omega
  . obtain rfl:j=n':=by omega
    go_wp2;go_ret;exact⟨rfl,rfl⟩
def WNd(w:As)(lo hi:Nat)(v:At)(n:Nat):Prop:=
 n<=1048576/\∃A c,v=.slice A n c/\n<=c/\(n=0∨∃g cur,A=some ⟨g,0,none⟩/\lo<=g/\g<hi/\Blk w g 81 cur /\
  ∀i,i<n->∃u f nf r nr,cur[i*3]?=some u/\cur[i*3+1]?=some f/\cur[i*3+2]?=some r/\WI w lo hi f nf/\WI w lo hi r nr)
theorem WNd.form(h:WNd w lo hi v n):∃A c,v=.slice A n c/\n<=c/\n<=1048576:=by
 obtain⟨h1,A,c,h2,h3,_⟩:=h;exact⟨A,c,h2,h3,h1⟩
theorem WNd.mi(h:WNd w lo hi v n)(k:MI lo' hi' w w'):WNd w' lo hi v n:=by
 obtain⟨h1,A,c,h2,h3,h4⟩:=h;refine⟨h1,A,c,h2,h3,?_⟩;rcases h4 with h4|⟨g,cur,h5,h6,h7,h8,h9⟩
 . exact .inl h4
 . refine .inr ⟨g,cur,h5,h6,h7,k.other g _ cur (by decide) h8,λi hi=>?_⟩;obtain⟨u,f,nf,r,nr,k0,k1,k2,k3,k4⟩:=h9 i hi;exact⟨u,f,nf,r,nr,k0,k1,k2,k3.mi k,k4.mi k⟩
theorem WI.far(h:WI w lo hi f n)(hb:Blk w g E cs)(hE:3≠E)(j:Nat)(u:At):WI (w.setCell ⟨g,j,none⟩ u) lo hi f n:=by
 obtain⟨h1,A,c,h2,h3,h4⟩:=h;refine⟨h1,A,c,h2,h3,?_⟩;rcases h4 with h4|⟨g',cur,h5,h6,h7,h8,h9⟩
 . exact .inl h4
 . exact .inr ⟨g',cur,h5,h6,h7,h8.far (p:=⟨g,j,none⟩) (h8.ne_ hb hE) u,h9⟩
theorem WNd.at_(h:WNd w lo hi (.slice A n c) n)(hi':i<n):∃g u f nf r nr,A=some ⟨g,0,none⟩/\lo<=g/\g<hi/\w.cell? ⟨g,i*3,none⟩=some u/\w.cell? ⟨g,i*3+1,none⟩=some f/\w.cell? ⟨g,i*3+2,none⟩=some r /\
   w.frozen? ⟨g,i*3,none⟩=false/\∀k:At,WNd (w.setCell ⟨g,i*3,none⟩ k) lo hi (.slice A n c) n/\WI (w.setCell ⟨g,i*3,none⟩ k) lo hi f nf/\WI (w.setCell ⟨g,i*3,none⟩ k) lo hi r nr/\∃cur,Blk (w.setCell ⟨g,i*3,none⟩ k) g 81 cur/\cur[i*3+2]?=some r:=by
 obtain⟨h1,A',c',h2,h3,h4⟩:=h;injection h2 with e1 _ e2;subst e1 e2;rcases h4 with h4|⟨g,cur,h5,h6,h7,h8,h9⟩
 . omega
 . obtain⟨u,f,nf,r,nr,k0,k1,k2,k3,k4⟩:=h9 i hi';refine⟨g,u,f,nf,r,nr,h5,h6,h7,(h8.cell _).trans k0,(h8.cell _).trans k1,(h8.cell _).trans k2,h8.frozen _,λk=>⟨?_,k3.far h8 (by decide) _ _,k4.far h8 (by decide) _ _,_,h8.qC (i*3) k,by rw[Ab (by omega)];exact k2⟩⟩;refine⟨h1,A,c,rfl,h3,.inr ⟨g,_,h5,h6,h7,h8.qC (i*3) k,λi2 hi2=>?_⟩⟩;obtain⟨u2,f2,nf2,r2,nr2,q0,q1,q2,q3,q4⟩:=h9 i2 hi2;have e1:(cur.setIfInBounds (i*3) k)[i2*3+1]?=some f2:=by rw[Ab (by omega)];exact q1
   have e2:(cur.setIfInBounds (i*3) k)[i2*3+2]?=some r2:=by rw[Ab (by omega)];exact q2
   have e0:∃u3,(cur.setIfInBounds (i*3) k)[i2*3]?=some u3:=⟨_,Ah (by rw[Array.size_setIfInBounds];exact(Ai.1 q0).1)⟩;obtain⟨u3,e0⟩:=e0;exact⟨u3,f2,nf2,r2,nr2,e0,e1,e2,q3.far h8 (by decide) _ _,q4.far h8 (by decide) _ _⟩
theorem DN.wnd{base:Nat}(h:DN w base v qa)(h1:lo<=base)(h2:w.heap.size<=hi)(hl:qlq qa):WNd w lo hi v qa.length:=by
 obtain⟨xs,h3,h4⟩:=h;refine⟨hl.1,?_⟩;have hlt:=h3.lt;rcases h3.2 with ⟨rfl,h0⟩|⟨g,cap,cur,rfl,hb,hg,hn,_,hcs,ht⟩
 . rw[h0];exact⟨none,0,rfl,BJ _,.inl rfl⟩
 . have:=hlt g rfl;refine⟨_,cap,rfl,hn,.inr ⟨g,cur,rfl,by omega,by omega,hg,λi hi=>?_⟩⟩;obtain⟨f,r,k1,k2,k3,k4,k5⟩:=h4 i _ (B9 hi);have hm:=hl.2 _ (BC hi)
   have get:∀{j:Nat} {u:At},xs[j]?=some u->cur[j]?=some u:=by
    intro j u hu;rw[<-ht,Bo]at hu;split at hu
    . simpa using hu
    . cases hu
   exact⟨_,f,_,r,_,get k1,get k2,get k3,k4.wi h1 h2 hm.1,k5.wi h1 h2 hm.2⟩
theorem WI.yF(h:WI w lo hi v n)(k:Zn lo' hi' w w')(hb:hi'<=lo):WI w' lo hi v n:=by
 obtain⟨h1,A,c,h2,h3,h4⟩:=h;refine⟨h1,A,c,h2,h3,?_⟩;rcases h4 with h4|⟨g,cur,h5,h6,h7,h8,h9⟩
 . exact .inl h4
 . exact .inr ⟨g,cur,h5,h6,h7,h8.yF k (.inr (by omega)),h9⟩
structure GS(S:Nat->Prop)(w w':As):Prop where
 os:w'.os=w.os
 tape:w'.tape=w.tape
 output:w'.output=w.output
 size:w.heap.size<=w'.heap.size
 block:∀i,i<w.heap.size->¬S i->w'.heap[i]?=w.heap[i]?
theorem GS.refl(S:Nat->Prop)(w:As):GS S w w:=⟨rfl,rfl,rfl,BJ _,λ_ _ _=>rfl⟩
theorem GS.trans{S:Nat->Prop}{c:As}(h:GS S a b)(k:GS S b c):GS S a c:=
 ⟨k.os.trans h.os,k.tape.trans h.tape,k.output.trans h.output,BI h.size k.size,λi hi hr=>(k.block i (BK hi h.size) hr).trans (h.block i hi hr)⟩
theorem GS.zr{row:Option Nat}(h:a.grownBy b row):GS (λg=>row=some g) a b:=⟨h.os,h.tape,h.output,h.size,λi hi h'=>h.block i hi (λe=>h' e.symm)⟩
theorem GS.mono{S T:Nat->Prop}(h:GS S a b)(hs:∀g,S g->T g):GS T a b:=⟨h.os,h.tape,h.output,h.size,λi hi h'=>h.block i hi (λe=>h' (hs i e))⟩
theorem GS.zn{S:Nat->Prop}(h:GS S a b)(hs:∀g,S g->lo<=g/\g<hi):Zn lo hi a b:=⟨h.os,h.tape,h.output,h.size,λi hi' h'=>h.block i hi' (λe=>by have:=hs i e;omega)⟩
theorem q05{S:Nat->Prop}{base:Nat}(h:w.ownsRow base E size v n xs)(k:GS S w w')(hb:∀g,v.ownBlock=some g->¬S g):w'.ownsRow base E size v n xs:=by
 refine⟨h.1,?_⟩;have hlt:=AZ h;rcases h.2 with h0|⟨g,cap,cur,rfl,h2,h3,h4⟩
 . exact .inl h0
 . exact .inr ⟨g,cap,cur,rfl,h2,(k.block g (hlt g rfl).2 (hb g rfl)).trans h3,h4⟩
theorem qf.gs{S:Nat->Prop}{base:Nat}(h:qf w base v l)(k:GS S w w')(hb:∀g,v.ownBlock=some g->¬S g):qf w' base v l:=q05 h k hb
def qgz(k n:Nat):List Int:=(Bq n).map (λj:Nat=>((k+j:Nat):Int))
def qde(ll:List (List Int)):Nat:=(ll.map List.length).sum
def qg0:Nat->List (List Int)->List (List Int)
 |_,[]=>[]
 |k,l::ll=>qgz k l.length::qg0 (k+l.length) ll
theorem qjs(k n:Nat):(qgz k n).length=n:=by simp[qgz]
theorem qhi(k:Nat)(ll:List (List Int)):(qg0 k ll).length=ll.length:=by
 induction ll generalizing k with
 |nil=>rfl
 |cons l ll ih=>simp[qg0,ih]
theorem qte(l:List Int)(ll:List (List Int)):qde (l::ll)=l.length+qde ll:=by simp[qde]
theorem qtf(k:Nat)(ll:List (List Int))(j:Nat)(l:List Int)(h:ll[j]?=some l):(qg0 k ll)[j]?=some (qgz (k+qde (ll.take j)) l.length):=by
 induction ll generalizing k j with
 |nil=>simp at h
 |cons x ll ih=>
  cases j with
  |zero=>
   obtain rfl:x=l:=by simpa using h
   simp[qg0,qde]
  |succ j=>
   have:=ih (k+x.length) j (by simpa using h);simp only[qg0,List.getElem?_cons_succ,List.take_succ_cons,qte];rw[this,Nat.add_assoc]
theorem qtg(h:ll[j]?=some l):qde (ll.take (j+1))=qde (ll.take j)+l.length:=by
 obtain⟨hj,rfl⟩:=Ba.1 h;unfold qde;rw[Bg hj,BG,BF];simp
theorem qth(ll:List (List Int))(j:Nat):qde (ll.take j)<=qde ll:=by
 have:qde ll=qde (ll.take j)+qde (ll.drop j):=by
  unfold qde;rw[<-BF,<-BG,List.take_append_drop]
 omega
theorem q4r{α:Type}{ms ll:List α}{m:α}(hl:ms.length=ll.length)(hm:ms[j]?=some m):(ms.take j++ll.drop j).set j m=ms.take (j+1)++ll.drop (j+1):=by
 obtain⟨hj,rfl⟩:=Ba.1 hm;have hlt:(ms.take j).length=j:=by rw[Bh];omega
 rw[List.set_append_right _ _ (by omega),hlt,BM,List.drop_eq_getElem_cons (by omega:j<ll.length),List.set_cons_zero,Bg hj,List.append_assoc];rfl
theorem q9t{α:Type}{ms ll:List α}{l:α}(hl:ms.length=ll.length)(h:ll[j]?=some l):(ms.take j++ll.drop j)[j]?=some l:=by
 obtain⟨hj,rfl⟩:=Ba.1 h;have hlt:(ms.take j).length=j:=by rw[Bh];omega
 rw[List.getElem?_append_right (by omega),hlt,BM,List.getElem?_drop];simp
section
variable {w w':As}{v:At}{ll:List (List Int)}{base:Nat}{xs:List At}
theorem LX.gs{S:Nat->Prop}(h:LX w base v ll xs)(k:GS S w w')(hv:∀g,v.ownBlock=some g->¬S g)(hx:∀u∈xs,∀g,u.ownBlock=some g->¬S g):LX w' base v ll xs:=by
 refine⟨q05 h.1 k hv,λi l hi=>?_⟩;obtain⟨u,k1,k2⟩:=h.2 i l hi;exact⟨u,k1,k2.gs k (hx u (Bb k1))⟩
end
theorem qlp(v:At)(ll:List (List Int))(k:Nat)(w:As)(h:RL w v (qg0 k ll))(hs:qde ll<=1000000000)(hk:k<=4000000000000000000)(hll:∀l∈ll,l.length<=1048576)(kz:Int)(hkz:kz=(k:Nat):=by omega) :
   Ax AB 34 #[v,.int .i64 kz] w λe w'=>e=.returned (.int .i64 (k+qde ll:Nat))/\w=w':=by
 subst hkz;obtain⟨A,n,c,rfl,hc,hn,hn9⟩:=h.form';rw[qhi]at hn;have Hn:=Lib.hid hn;have Hll:=Lib.hid hll;have HS:=Lib.hid hs;clear hn hll hs;go_enter Tryz.func34,Tryz.ntmps34;go_wp2_with fail
 go_loop [1,5] (λs i=>∃j y:Nat,j<=n/\i=.int .i64 j/\s=.int .i64 y/\Hid (y=k+qde (ll.take j))) (λ_ i=>n-(intOf i).toNat)
 case atStart=>exact⟨0,k,BH _,rfl,rfl,by show _=_;simp[qde]⟩
 case round=>
  obtain⟨j,y,hj,rfl,rfl,Hy⟩:=hrel;by_cases hlt:j<n
  . obtain⟨l,hl⟩:∃l,ll[j]?=some l:=⟨_,B9 (by rw[<-Hn.out];exact hlt)⟩;obtain⟨g,o,l2,B1,m1,e1,rfl,hl2,c0,hri,hm1,-,-⟩:=h.at_ hlt;rw[qtf k ll j l hl,<-Hy.out]at hl2;obtain rfl:qgz y l.length=l2:=Option.some.inj hl2;rw[qjs]at hm1;have qaF:=Hll.out l (Bb hl)
    have hyb:y<=5000000000000000000:=by
     have:=Hy.out;have:=qth ll j;have:=HS.out;omega
    have Hy2:Hid (y+l.length=k+qde (ll.take (j+1))):=by
     show _=_;rw[qtg hl,Hy.out];omega
    clear hl2 hl hm1;obtain⟨m,hm⟩:∃m,m=l.length:=⟨_,rfl⟩;rw[<-hm]at qaF hri Hy2;clear hm;go_wp2_with fail;refine(qi0 _ m y _ (by exact hri) (by omega) (by omega) _).mono ?_;rintro e w1 ⟨rfl,rfl⟩;go_wp2;go_round
    case rel=>exact⟨j+1,y+m,by omega,by go_num,by go_num,Hy2⟩
    case measure=>simp[intOf];omega
  . obtain rfl:j=n:=by omega
    have hy2:y=k+qde ll:=by
     have:=Hy.out;rw[Be (by rw[<-Hn.out];exact BJ _)]at this;exact this
    have Hy2:=Lib.hid hy2;clear hy2 Hy;go_wp2;go_ret;exact⟨by have e0:=Hy2.out;subst e0;first|rfl|simp,rfl⟩
theorem q2i(f r f' r':At)(nd:Node)(w:As)(hf:RI w f nd.frm)(hr:RI w r nd.row)(hf':RI w f' nd.frm)(hr':RI w r' nd.row) :
   Ax AB 62 #[.agg #[.int .i64 nd.kind,f,r],.agg #[.int .i64 nd.kind,f',r']] w λe w'=>e=.returned (.bool true)/\w.grownBy w' none:=by
 have B0:Blk ((w.alloc (.cells #[.int .i64 nd.kind,f,r] 81)).alloc (.cells #[.int .i64 nd.kind,f',r'] 81)) w.heap.size 81 #[.int .i64 nd.kind,f,r]:=(Blk.new w _ _).alloc _
 have B1:Blk ((w.alloc (.cells #[.int .i64 nd.kind,f,r] 81)).alloc (.cells #[.int .i64 nd.kind,f',r'] 81)) (w.heap.size+1) 81 #[.int .i64 nd.kind,f',r']:=by
  have:=Blk.new (w.alloc (.cells #[.int .i64 nd.kind,f,r] 81)) 81 #[.int .i64 nd.kind,f',r'];rw[size_alloc]at this;exact this
 have hg0:w.grownBy ((w.alloc (.cells #[.int .i64 nd.kind,f,r] 81)).alloc (.cells #[.int .i64 nd.kind,f',r'] 81)) none:=qaq (qaq (qag w none) _) _;go_enter Tryz.func62,Tryz.ntmps62;go_wp2_with fail;generalize ((w.alloc (.cells #[.int .i64 nd.kind,f,r] 81)).alloc (.cells #[.int .i64 nd.kind,f',r'] 81))=X at *;refine(qe3 f f' nd.frm X (hf.new hg0) (hf'.new hg0)).mono ?_;rintro e w1 ⟨rfl,hg1⟩;have k1:=(B0.grown hg1 (by simp)).cell 2;have k2:=(B1.grown hg1 (by simp)).cell 2;go_wp2_with fail;refine(qe3 r r' nd.row w1 ((hr.new hg0).new hg1) ((hr'.new hg0).new hg1)).mono ?_;rintro e w2 ⟨rfl,hg2⟩;go_wp2;go_ret;exact⟨rfl,qac (qac hg0 hg1) hg2⟩
theorem qy5(v v':At)(qa:List Node)(w:As)(h:RN w v qa)(h':RN w v' qa):Ax AB 30 #[v,v'] w λe w'=>e=.returned (.bool true)/\w.grownBy w' none:=by
 obtain⟨A,n,c,rfl,h2,h3,h4⟩:=h.form';obtain⟨A',n',c',rfl,h2',h3',h4'⟩:=h'.form';obtain rfl:n=n':=by omega
 clear h3 h3';go_enter Tryz.func30,Tryz.ntmps30;go_wp2_with fail
 go_loopw [5] (λi wr=>∃k:Nat,k<=n/\i=.int .i64 k/\w.grownBy wr none) (λi _=>n-(intOf i).toNat)
 case atStart=>exact⟨0,BH _,rfl,qag _ _⟩
 case round=>
  obtain⟨k,hk,rfl,hg⟩:=hrel;have hw:=h.new hg;have hw':=h'.new hg;by_cases hlt:k<n
  . obtain⟨g,o,nd,f,r,rfl,hx,c0,c1,c2,hf,hr⟩:=hw.at_ hlt;obtain⟨g',o',nd',f',r',rfl,hx',d0,d1,d2,hf',hr'⟩:=hw'.at_ hlt;obtain rfl:nd=nd':=by rw[hx]at hx';injection hx'
    clear hx hx';go_wp2_with fail
    go_region_held3 (λw'=>w'.cell? ⟨g,o+k*3,none⟩=some (.int .i64 nd.kind)/\w'.cell? ⟨g,o+k*3+1,none⟩=some f/\w'.cell? ⟨g,o+k*3+2,none⟩=some r/\w'.cell? ⟨g',o'+k*3,none⟩=some (.int .i64 nd.kind)/\w'.cell? ⟨g',o'+k*3+1,none⟩=some f'/\w'.cell? ⟨g',o'+k*3+2,none⟩=some r') (go_keep)
     (first|(go_at_call 62;refine(q2i f r f' r' nd _ (by exact hf) (by exact hr) (by exact hf') (by exact hr')).mono ?_;rintro e w' ⟨rfl,hg'⟩;have k0:=hg'.cell (by exact c0) (by simp);have k1:=hg'.cell (by exact c1) (by simp);have k2:=hg'.cell (by exact c2) (by simp);have l0:=hg'.cell (by exact d0) (by simp);have l1:=hg'.cell (by exact d1) (by simp);have l2:=hg'.cell (by exact d2) (by simp)))
    go_wp2;go_roundw
    case rel=>exact⟨k+1,by omega,by go_num,qac (qay hg) (by assumption)⟩
    case measure=>simp[intOf];omega
  . go_wp2;go_ret;exact⟨rfl,hg⟩
end
end Go.Proofs.YtacemdoejblgaaaGreatDoor

/- Part M01. Conditions: each statement's. -/
import Derived.Test.YtacemdoejblgaaaGreatDoorProg
import Derived.WalkKit
import Derived.WalkSpells
import Derived.WalkLawsBesides
import Derived.Lib.Hide
import Derived.Deep.QuietTactic
import Derived.BigQuiet
import Derived.Laws.CopyRow
import Derived.Laws.AppendOwn
namespace Go.Proofs.YtacemdoejblgaaaGreatDoor
open Bool renaming and_eq_true→Ab,not_eq_true'→Ah,eq_iff_iff→Ai
open Go renaming World→Aj,Value→Am,TypeId→Ap,Operand→As,cell_of_row→At,info_parts→Ax
open Tryz renaming prog→Ay,underlying24→Az
open RowKit.Below renaming heap_alloc→AA,heap_setCell→AB
open World renaming grownBy_alloc→AD,cell?_alloc_new→AE,ownsRow_nil→AF
open World.ownsRow renaming stored→AG,lt→AH,cellAt→AI,alloc→AJ
open Int renaming eq_ofNat_of_zero_le→AK,toNat_natCast→AL,natCast_nonneg→AM
open List renaming getElem?_eq_some_iff→AN,getElem?_eq_getElem→AO,getD_eq_getElem?_getD→AP,take_succ_eq_append_getElem→AQ,getElem?_eq_none→AR,all_eq_true→AS,length_take→AT,length_set→AU,append_assoc→AV,getElem?_append_right→AW,take_of_length_le→AX,getElem?_append_left→AY,mem_cons→AZ,mem_range→B9,getElem?_map→Ba,ext_getElem?→Bb,mem_append→Bc,length_append→Be,mem_take_iff_getElem→Bf,length_map→Bg,foldl_cons→Bh,take_length→Bi,getElem?_set_self→Bj,pairwise_cons→Bm,eq_nil_of_length_eq_zero→Bn,nodup_append→Bo,foldl_append→Bp,mem_of_getElem?→Bq,getElem?_zipIdx→Br,getElem?_set_ne→Bs,drop_eq_getElem_cons→Bt,length_erase_of_mem→Bu,mem_singleton→Bv,getElem?_take→By,filter_append→Bz,countP_cons_of_pos→BA,countP_cons_of_neg→BB,perm_append_comm→BC,length_filter_le→BE,length_cons→BF,nodup_cons→BG,map_congr_left→BH,take_append_of_le_length→BI,all_eq_false→BJ,range_succ→BK,map_append→BL,getElem?_replicate→BM,append_nil→BN,mem_map→BO,drop_of_length_le→BP,set_append_right→BQ,nodup_nil→BR,mem_append_right→BS,countP_le_length→BT,countP_eq_length→BU,perm_cons_erase→BV,mem_cons_of_mem→BW,mem_append_left→BX,getElem?_range→BY,countP_eq_zero→BZ,length_zipIdx→C0,getElem?_set→C6,perm_middle→C7,nodup_range→C8,length_drop→C9,getElem_inj→Ca,filter_cons→Cb,countP_cons→Cc
open List.Perm renaming append_left→Cd,refl→Ce,append_right→Cf,cons→Cg,trans→Ci,cons_inv→Cj
open Nat renaming le_trans→Ck,le_refl→Cl,sub_self→Cm,mul_le_mul_left→Cn,lt_of_lt_of_le→Co
open List Value
set_option maxRecDepth 100000
set_option maxHeartbeats 6400000
variable {a:Act}{p:Addr}{ops:Array Oper}{x y:Int}{L ll rows:List (List Int)}{D cs d frm l r:List Int}{us:List Nat}{rest:List Oper}{xs:List Am}{b c cap g i j k m n size t u:Nat}{f:Nat->Int}{o:Oper}{A:Option Addr}{row:Option Nat}{P:Program}{E E':Ap}{v:Am}{w:Aj}
section
structure Node where
 kind:Int
 frm:List Int
 row:List Int
def zf(x:Int):Bool:=decide (0<=x)&&decide (x<=1008)
def qak(l:List Int):Bool:=l.all zf&&decide (l.length<=6)
def qdp(k:Int):Bool:=decide (0<=k)&&decide (k<=5)
def qas(k:Int):Int:=if k<0∨5<k then -1 else if k=0 then 0 else if k=1∨k=2 then 2 else 1
theorem qvl(k:Int):-1<=qas k/\qas k<=2:=by
 unfold qas
 repeat' split
 all_goals omega
def wide(qa:List Node):Nat:=match qa.find? (λx=>x.kind==0)with
 |some x=>x.row.length
 |none=>0
def qcr(x:Node)(at_:Int)(wd:Nat):Bool:=
 decide (qas x.kind=x.frm.length)&&qak x.row&&x.frm.all (λy=>decide (0<=y)&&decide (y<=at_-1))&&(if x.kind=0 then decide (x.row.length=wd)else decide (x.row.length=0))
def qae(qa:List Node):Bool:=qa.zipIdx.all (λx=>qcr x.1 x.2 (wide qa))&&decide (qa.length<=10)
def qba(x:Node)(at_:Int):Bool:=
 qdp x.kind&&decide ((x.frm.length:Int)=qas x.kind)&&x.frm.all (λy=>decide (0<=y)&&decide (y<at_))&&(if x.kind=0 then qak x.row else decide (x.row.length=0))
def upd{α:Type}(f:Nat->α)(a:Nat)(x:α):Nat->α:=λb=>if b=a then x else f b
theorem upd_same{α:Type}(f:Nat->α)(a:Nat)(x:α):upd f a x a=x:=by simp[upd]
theorem qav{α:Type}(f:Nat->α){a:Nat}(x:α)(h:b≠a):upd f a x b=f b:=by simp[upd,h]
def qkf(n f:Nat)(L:Nat->List Nat):Nat->List Nat:=
 if f∈L (2*n+1)then L else upd (upd L (2*n+1) (L (2*n+1)++[f])) (2*f+2) (L (2*f+2)++[n])
def qdt(n:Nat)(frm:List Int)(L:Nat->List Nat):Nat->List Nat:=frm.foldl (λL f=>qkf n f.toNat L) L
def qg9(L:Nat->List Nat)(x:Node×Nat):Nat->List Nat:=upd (qdt x.2 x.1.frm L) 0 (qdt x.2 x.1.frm L 0++[x.2])
def qej(qa:List Node)(k:Nat):Nat->List Nat:=(qa.zipIdx.take k).foldl qg9 (λ_=>[])
def qsx(qa:List Node):Nat->List Nat:=qej qa qa.length
theorem q1m(n f:Nat)(L:Nat->List Nat):qkf n f L 0=L 0:=by
 unfold qkf;split
 . rfl
 . rw[qav _ _ (by omega),qav _ _ (by omega)]
theorem qvm(n:Nat)(frm:List Int)(L:Nat->List Nat):qdt n frm L 0=L 0:=by
 unfold qdt
 induction frm generalizing L with
 |nil=>rfl
 |cons x xs ih=>rw[Bh,ih,q1m]
theorem qvn(L:Nat->List Nat)(h:frm[m]?=some x):qdt n (frm.take (m+1)) L=qkf n x.toNat (qdt n (frm.take m) L):=by
 obtain⟨hm,rfl⟩:=AN.1 h;unfold qdt;rw[AQ hm,Bp];rfl
theorem qgp{qa:List Node}{nd:Node}(h:qa[k]?=some nd):qej qa (k+1)=qg9 (qej qa k) (nd,k):=by
 have hz:qa.zipIdx[k]?=some (nd,k):=by simp[h]
 obtain⟨hk,hx⟩:=AN.1 hz;unfold qej;rw[AQ hk,Bp,hx];rfl
theorem q34(n f:Nat)(L:Nat->List Nat)(a:Nat):(qkf n f L a).length<=(L a).length+1:=by
 unfold qkf upd;split
 . omega
 . dsimp only;split
   . subst_vars;simp
   . split
     . subst_vars;simp
     . omega
theorem qk2(x:Node)(at_:Int)(wd:Nat):qcr x at_ wd=(qba x at_&&(if x.kind=0 then decide (x.row.length=wd)else true)):=by
 rw[Ai];unfold qcr qba;simp only[Ab,decide_eq_true_eq,AS];constructor
 . rintro⟨⟨⟨h1,h2⟩,h3⟩,h4⟩;refine⟨⟨⟨⟨?_,h1.symm⟩,λy hy=>⟨(h3 y hy).1,by have:=(h3 y hy).2;omega⟩⟩,?_⟩,?_⟩
   . have:0<=qas x.kind:=by omega
     unfold qas at this;unfold qdp;split at this
     . omega
     . simp;omega
   . split
     . exact h2
     . rename_i hk;rw[if_neg hk]at h4;exact h4
   . split
     . rename_i hk;rw[if_pos hk]at h4;exact h4
     . rfl
 . rintro⟨⟨⟨⟨h0,h1⟩,h3⟩,h4⟩,h5⟩;refine⟨⟨⟨h1.symm,?_⟩,λy hy=>⟨(h3 y hy).1,by have:=(h3 y hy).2;omega⟩⟩,?_⟩
   . split at h4
     . exact h4
     . have e:x.row=[]:=Bn (by simpa using h4);rw[e];rfl
   . split
     . rename_i hk;rw[if_pos hk]at h5;exact h5
     . rename_i hk;rw[if_neg hk]at h4;exact h4
theorem qnh{x:Node}{at_:Int}(h:qba x at_=true):x.frm.length<=2:=by
 unfold qba at h;simp only[Ab,decide_eq_true_eq]at h;have:=(qvl x.kind).2;omega
theorem qc5{x:Node}{at_:Int}(h:qba x at_=true)(hy:y∈x.frm):0<=y/\y<at_:=by
 unfold qba at h;simp only[Ab,decide_eq_true_eq,AS]at h;exact h.1.2 y hy
theorem q1n{qa:List Node}{nd:Node}(h:qa[k]?=some nd)(hk:nd.kind=0)(ha:(qa.take k).any (λx=>x.kind==0)=false):wide qa=nd.row.length:=by
 have:qa.find? (λx=>x.kind==0)=some nd:=by
  rw[find?_eq_some_iff_getElem];obtain⟨hk',hx'⟩:=AN.1 h;refine⟨by simp[hk],k,hk',hx',λj hj=>?_⟩;have:=any_eq_false.1 ha qa[j] (Bf.2 ⟨j,by omega,rfl⟩);simpa using this
 unfold wide;rw[this]
def qfk(qa:List Node)(k:Nat):Int:=if (qa.take k).any (λx=>x.kind==0)then (wide qa:Int)else -1
theorem qtx{qa:List Node}{nd:Node}(h:qa[k]?=some nd)(hk:nd.kind=0):qfk qa (k+1)=wide qa:=by
 obtain⟨hl,rfl⟩:=AN.1 h;unfold qfk;rw[AQ hl,any_append,if_pos (by simp[hk])]
theorem qty{qa:List Node}{nd:Node}(h:qa[k]?=some nd)(hk:nd.kind≠0):qfk qa (k+1)=qfk qa k:=by
 obtain⟨hl,rfl⟩:=AN.1 h;unfold qfk;rw[AQ hl,any_append];have:([qa[k]].any λx=>x.kind==0)=false:=by simp[hk]
 rw[this,Bool.or_false]
theorem qk3{qa:List Node}{nd:Node}(h:qa[k]?=some nd)(hb:qcr nd k (wide qa)=false):qae qa=false:=by
 have:qa.zipIdx.all (λx=>qcr x.1 x.2 (wide qa))=false:=by
  rw[BJ];exact⟨(nd,k),Bq (show qa.zipIdx[k]?=some (nd,k) by simp[h]),by simp[hb]⟩
 unfold qae;rw[this];rfl
def fl(qa:List Node)(i:Nat):Int:=match qa[i]? with
 |some nd=>nd.frm.length
 |none=>0
theorem qbb{qa:List Node}{nd:Node}(hv:qae qa=true)(h:qa[i]?=some nd):qba nd i=true/\nd.frm.length<=2/\i<10/\(nd.kind=0->nd.row.length=wide qa):=by
 unfold qae at hv;simp only[Ab,decide_eq_true_eq]at hv;have h1:=AS.1 hv.1 (nd,i) (Bq (show qa.zipIdx[i]?=some (nd,i) by simp[h]));rw[qk2]at h1;simp only[Ab]at h1;refine⟨h1.1,qnh h1.1,?_,λhk=>?_⟩
 . have:=(AN.1 h).1;omega
 . have:=h1.2;rw[if_pos hk]at this;simpa using this
theorem qam{qa:List Node}(hv:qae qa=true):qa.length<=10:=by
 unfold qae at hv;simp only[Ab,decide_eq_true_eq]at hv;exact hv.2
def q37(out:List Int)(frm:List Int):Int:=frm.foldl (λn f=>max n (out.getD f.toNat 0+1)) 0
def q62(qa:List Node)(k:Nat):List Int:=(qa.take k).foldl (λout x=>out++[q37 out x.frm]) []
def levels(qa:List Node):List Int:=q62 qa qa.length
def lv(qa:List Node)(i:Nat):Int:=(levels qa).getD i 0
def dedup(frm:List Int):List Nat:=frm.foldl (λl f=>if f.toNat∈l then l else l++[f.toNat]) []
def qbw(qa:List Node)(i:Nat):List Nat:=match qa[i]? with
 |some nd=>dedup nd.frm
 |none=>[]
def qbx(qa:List Node)(i:Nat):List Nat:=(range qa.length).filter (λj=>decide (i∈qbw qa j))
theorem qpt(frm:List Int)(l:List Nat):(∀i,i∈frm.foldl (λl f=>if f.toNat∈l then l else l++[f.toNat]) l↔i∈l∨∃f∈frm,f.toNat=i) /\
   (l.Nodup->(frm.foldl (λl f=>if f.toNat∈l then l else l++[f.toNat]) l).Nodup)/\(frm.foldl (λl f=>if f.toNat∈l then l else l++[f.toNat]) l).length<=l.length+frm.length:=by
 induction frm generalizing l with
 |nil=>simp
 |cons x xs ih=>
  rw[Bh];by_cases h:x.toNat∈l
  . rw[if_pos h];obtain⟨h1,h2,h3⟩:=ih l;refine⟨λi=>?_,h2,by rw[BF];omega⟩;rw[h1 i];constructor
    . rintro(hi|⟨f,hf,e⟩)
      . exact .inl hi
      . exact .inr ⟨f,by simp[hf],e⟩
    . rintro(hi|⟨f,hf,e⟩)
      . exact .inl hi
      . rcases AZ.1 hf with rfl|hf
        . exact .inl (e▸h)
        . exact .inr ⟨f,hf,e⟩
  . rw[if_neg h];obtain⟨h1,h2,h3⟩:=ih (l++[x.toNat]);refine⟨λi=>?_,λhn=>h2 ?_,by rw[Be]at h3;simp at h3 |-;omega⟩
    . rw[h1 i];constructor
      . rintro(hi|⟨f,hf,e⟩)
        . rcases Bc.1 hi with hi|hi
          . exact .inl hi
          . exact .inr ⟨x,by simp,by simp at hi;exact hi.symm⟩
        . exact .inr ⟨f,by simp[hf],e⟩
      . rintro(hi|⟨f,hf,e⟩)
        . exact .inl (by simp[hi])
        . rcases AZ.1 hf with rfl|hf
          . exact .inl (by simp[e])
          . exact .inr ⟨f,hf,e⟩
    . rw[Bo];refine⟨hn,by simp,?_⟩;intro a ha b hb e;simp at hb;subst hb e;exact h ha
theorem qk7:i∈dedup frm↔∃f∈frm,f.toNat=i:=by
 have:=(qpt frm []).1 i;unfold dedup;rw[this];simp
theorem qyf(frm:List Int):(dedup frm).Nodup:=(qpt frm []).2.1 BR
theorem qpu(frm:List Int):(dedup frm).length<=frm.length:=by
 have:=(qpt frm []).2.2;unfold dedup;simpa using this
theorem qpv(n f:Nat)(L:Nat->List Nat):qkf n f L (2*n+1)=if f∈L (2*n+1)then L (2*n+1)else L (2*n+1)++[f]:=by
 unfold qkf;split
 . rfl
 . rw[qav _ _ (by omega),upd_same]
theorem qyg(n f i:Nat)(L:Nat->List Nat):qkf n f L (2*i+2)=if f∉L (2*n+1)/\i=f then L (2*i+2)++[n]else L (2*i+2):=by
 unfold qkf;by_cases h:f∈L (2*n+1)
 . rw[if_pos h,if_neg (λh2=>h2.1 h)]
 . rw[if_neg h];by_cases hi:i=f
   . subst hi;rw[upd_same,if_pos ⟨h,rfl⟩]
   . rw[qav _ _ (by omega),qav _ _ (by omega),if_neg (λh2=>hi h2.2)]
theorem q38(n f a:Nat)(L:Nat->List Nat)(h1:a≠2*n+1)(h2:a≠2*f+2):qkf n f L a=L a:=by
 unfold qkf;split
 . rfl
 . rw[qav _ _ h2,qav _ _ h1]
theorem qt2(n:Nat)(frm:List Int)(L:Nat->List Nat)(hf:∀y∈frm,0<=y/\y<(n:Int)) :
   qdt n frm L (2*n+1)=frm.foldl (λl f=>if f.toNat∈l then l else l++[f.toNat]) (L (2*n+1)):=by
 unfold qdt
 induction frm generalizing L with
 |nil=>rfl
 |cons x xs ih=>
  have hx:=hf x (by simp);rw[Bh,Bh,ih _ (λy hy=>hf y (by simp[hy])),qpv]
theorem qt3(n i:Nat)(frm:List Int)(L:Nat->List Nat)(hf:∀y∈frm,0<=y/\y<(n:Int)) :
   qdt n frm L (2*i+2)=if i∉L (2*n+1)/\(∃f∈frm,f.toNat=i)then L (2*i+2)++[n]else L (2*i+2):=by
 unfold qdt
 induction frm generalizing L with
 |nil=>simp
 |cons x xs ih=>
  have hx:=hf x (by simp);rw[Bh,ih _ (λy hy=>hf y (by simp[hy])),qpv,qyg];by_cases hix:i=x.toNat
  . subst hix;by_cases hm:x.toNat∈L (2*n+1)
    . simp[hm]
    . rw[if_neg hm,if_neg (by simp),if_pos ⟨hm,rfl⟩,if_pos ⟨hm,x,by simp,rfl⟩]
  . have hne:¬(x.toNat∉L (2*n+1)/\i=x.toNat):=λh=>hix h.2;rw[if_neg hne]
    have e2:(i∉(if x.toNat∈L (2*n+1)then L (2*n+1)else L (2*n+1)++[x.toNat]))↔i∉L (2*n+1):=by
     split
     . exact Iff.rfl
     . simp[hix]
    have e3:(∃f∈x::xs,f.toNat=i)↔∃f∈xs,f.toNat=i:=by
     constructor
     . rintro⟨f,hf,he⟩;rcases AZ.1 hf with hfx|hf
       . rw[hfx]at he;exact absurd he.symm hix
       . exact⟨f,hf,he⟩
     . rintro⟨f,hf,e⟩;exact⟨f,by simp[hf],e⟩
    simp only[e2,e3]
theorem qyh(n a:Nat)(frm:List Int)(L:Nat->List Nat)(h1:a≠2*n+1)(h2:∀f∈frm,a≠2*f.toNat+2):qdt n frm L a=L a:=by
 unfold qdt
 induction frm generalizing L with
 |nil=>rfl
 |cons x xs ih=>rw[Bh,ih _ (λf hf=>h2 f (by simp[hf])),q38 _ _ _ _ h1 (h2 x (by simp))]
theorem qnl{qa:List Node}{nd:Node}(h:qa[i]?=some nd):qbw qa i=dedup nd.frm:=by
 unfold qbw;rw[h]
theorem qk8(qa:List Node)(j:Nat):(qbw qa j).Nodup:=by
 unfold qbw;split
 . exact qyf _
 . exact BR
theorem qvs{qa:List Node}(hv:qae qa=true)(hk:k<=qa.length) :
   (∀i,qej qa k (2*i+1)=if i<k then qbw qa i else [])/\(∀i,qej qa k (2*i+2)=(range k).filter (λj=>decide (i∈qbw qa j))):=by
 induction k with
 |zero=>exact⟨λi=>rfl,λi=>rfl⟩
 |succ k ih=>
  obtain⟨ih1,ih2⟩:=ih (by omega);obtain⟨nd,hx⟩:∃nd,qa[k]?=some nd:=⟨_,AO (by omega)⟩;have hf:∀y∈nd.frm,0<=y/\y<(k:Int):=λy hy=>qc5 (qbb hv hx).1 hy;have h0:qej qa k (2*k+1)=[]:=by rw[ih1 k,if_neg (by omega)]
  constructor
  . intro i;rw[qgp hx];unfold qg9;rw[qav _ _ (by omega)];by_cases hik:i=k
    . subst hik;rw[if_pos (by omega),qt2 _ _ _ hf,h0,qnl hx];rfl
    . rw[qyh _ _ _ _ (by simp;omega) (λf _=>by omega),ih1 i];by_cases h:i<k
      . rw[if_pos h,if_pos (by omega)]
      . rw[if_neg h,if_neg (by omega)]
  . intro i;rw[qgp hx];unfold qg9;rw[qav _ _ (by omega),qt3 _ _ _ _ hf,h0,ih2 i,BK,Bz];have e:(∃f∈nd.frm,f.toNat=i)↔i∈qbw qa k:=by rw[qnl hx,qk7]
    by_cases h:i∈qbw qa k
    . rw[if_pos ⟨by simp,e.2 h⟩];simp[h]
    . rw[if_neg (λh2=>h (e.1 h2.2))];simp[h]
theorem qnm{qa:List Node}(hv:qae qa=true)(i:Nat):qsx qa (2*i+2)=qbx qa i:=by
 unfold qsx;exact(qvs hv (Cl _)).2 i
theorem qgg{qa:List Node}:j∈qbx qa i↔j<qa.length/\i∈qbw qa j:=by
 unfold qbx;simp
theorem qk9(qa:List Node)(i:Nat):(qbx qa i).Nodup:=Pairwise.filter _ C8
theorem qyi(qa:List Node)(i:Nat):(qbx qa i).length<=qa.length:=by
 have:=BE (λj=>decide (i∈qbw qa j)) (range qa.length);unfold qbx;simpa using this
theorem qvt{l:List Nat}(h:l.Nodup)(hl:∀x∈l,x<n):l.length<=n:=by
 induction n generalizing l with
 |zero=>
  cases l with
  |nil=>simp
  |cons x xs=>exact absurd (hl x (by simp)) (by omega)
 |succ n ih=>
  by_cases hn:n∈l
  . have h1:=ih (h.erase n) (fun x hx=>by
     have h2:=(h.mem_erase_iff).1 hx;have:=hl x h2.2;omega)
    rw[Bu hn]at h1;omega
  . have:=ih h (fun x hx=>by
     have:=hl x hx;have:x≠n:=λe=>hn (e▸hx);omega)
    omega
def qdc(done:List Int)(x:Node×Nat):Bool:=!decide ((x.2:Int)∈done)&&x.1.frm.all (λf=>decide (f∈done))
def qca(qa:List Node)(done:List Int)(k:Nat):List Int:=((qa.zipIdx.take k).filter (qdc done)).map (λx:Node×Nat=>(x.2:Int))
def qan(qa:List Node)(done:List Int):List Int:=if qae qa then qca qa done qa.length else []
theorem qep{qa:List Node}{nd:Node}(done:List Int)(h:qa[k]?=some nd):qca qa done (k+1)=if qdc done (nd,k)then qca qa done k++[(k:Int)]else qca qa done k:=by
 have hz:qa.zipIdx[k]?=some (nd,k):=by simp[h]
 obtain⟨hk,hx⟩:=AN.1 hz;unfold qca;rw[AQ hk,Bz,BL,hx];by_cases hr:qdc done (nd,k)=true
 . rw[if_pos hr,filter_cons_of_pos hr];rfl
 . rw[if_neg hr,filter_cons_of_neg hr,filter_nil,map_nil,BN]
theorem qkb(qa:List Node)(done:List Int)(k:Nat):(qca qa done k).length<=k:=by
 unfold qca;rw[Bg];have:=BE (qdc done) (qa.zipIdx.take k);rw[AT]at this;omega
structure qj where
 qb:List (List Int)
 counts:List Int
 done:List Int
 rows:List (List Int)
def qfj(qa:List Node)(i:Nat):List Int:=match qa[i]? with
 |some nd=>nd.frm
 |none=>[]
def has(qa:List Node)(i:Nat)(x:Int):Bool:=decide (x∈qfj qa i)
theorem qdd{qa:List Node}{nd:Node}(h:qa[i]?=some nd):qfj qa i=nd.frm:=by unfold qfj;rw[h]
theorem qvg{qa:List Node}(h:qa.length<=i):qfj qa i=[]:=by unfold qfj;rw[AR h]
theorem qer{qa:List Node}(hv:qae qa=true)(h:x∈qfj qa i):0<=x/\x<i/\i<qa.length:=by
 by_cases hi:i<qa.length
 . have hx:qa[i]?=some qa[i]:=AO hi;rw[qdd hx]at h;have:=qc5 (qbb hv hx).1 h;exact⟨this.1,this.2,hi⟩
 . rw[qvg (by omega)]at h;cases h
theorem qgb(qa:List Node)(i:Nat):qbw qa i=dedup (qfj qa i):=by
 unfold qbw qfj;cases qa[i]? with
 |some nd=>rfl
 |none=>rfl
theorem qgc{qa:List Node}(hv:qae qa=true){f:Nat}:f∈qbw qa i↔(f:Int)∈qfj qa i:=by
 rw[qgb,qk7];constructor
 . rintro⟨y,hy,e⟩;have:=qer hv hy;have e2:y=(f:Int):=by omega
   rw[<-e2];exact hy
 . intro h;exact⟨f,h,by simp⟩
def left(qa:List Node)(D:List Int)(i:Nat):Nat:=(qbw qa i).countP (λf:Nat=>!decide ((f:Int)∈D))
theorem q61(qa:List Node)(i:Nat):left qa [] i=(qbw qa i).length:=by
 unfold left;rw[BU];simp
theorem q32(qa:List Node)(D:List Int)(i:Nat):left qa D i<=(qbw qa i).length:=BT
theorem q1i{l:List Nat}(hn:l.Nodup)(p:Nat->Bool){x:Nat}(hp:p x=true):l.countP (λf=>p f && !decide (f=x))+(if x∈l then 1 else 0)=l.countP p:=by
 induction l with
 |nil=>simp
 |cons a r ih=>
  obtain⟨h1,h2⟩:=BG.1 hn;have:=ih h2;by_cases hax:a=x
  . subst hax
    have hc:r.countP (λf=>p f && !decide (f=a))=r.countP p:=by
     rw[if_neg h1]at this;simpa using this
    rw[BB (by simp),BA hp,hc,if_pos (by simp)]
  . have hm:(x∈a::r)↔x∈r:=⟨λh=>by rcases AZ.1 h with e|h;exact absurd e.symm hax;exact h,BW _⟩;by_cases hpa:p a=true
    . rw[BA (by simp[hpa,hax]),BA hpa];simp only[hm];omega
    . rw[BB (by simp[hpa]),BB hpa];simp only[hm];omega
theorem qpi{qa:List Node}(hv:qae qa=true)(hx:x∉D)(h0:0<=x)(i:Nat):left qa (D++[x]) i+(if has qa i x then 1 else 0)=left qa D i:=by
 obtain⟨m,rfl⟩:=AK h0;have e:=q1i (qk8 qa i) (λf:Nat=>!decide ((f:Int)∈D)) (x:=m) (by simpa using hx);unfold left;rw[<-e]
 have e1:(λf:Nat=>!decide ((f:Int)∈D++[(m:Int)]))=(λf:Nat=>!decide ((f:Int)∈D) && !decide (f=m)):=by
  funext f;by_cases h1:(f:Int)∈D
  . simp[h1]
  . by_cases h2:f=m
    . simp[h2]
    . have:¬(f:Int)=(m:Int):=by omega
      simp[h1,h2,this]
 rw[e1]
 have e2:(has qa i (m:Int)=true)↔m∈qbw qa i:=by
  unfold has;rw[decide_eq_true_eq];exact(qgc hv).symm
 by_cases hm:m∈qbw qa i
 . rw[if_pos hm,if_pos (e2.2 hm)]
 . rw[if_neg hm,if_neg (λh=>hm (e2.1 h))]
theorem q33{qa:List Node}(hv:qae qa=true):left qa D i=0↔∀f∈qfj qa i,f∈D:=by
 unfold left;rw[BZ];constructor
 . intro h f hf;have:=qer hv hf;obtain⟨m,rfl⟩:=AK this.1;have:=h m ((qgc hv).2 hf);simpa using this
 . intro h f hf;have:=h _ ((qgc hv).1 hf);simpa using this
def qex(qa:List Node)(D:List Int)(x:Int):Bool:=decide (0<=x)&&decide (x<qa.length) && !decide (x∈D)&&(qfj qa x.toNat).all (λf=>decide (f∈D))
def qc8(qa:List Node)(order:List Int)(k:Nat):Bool:=(range k).all λi=>qex qa (order.take i) (order.getD i 0)
def qbp(qa:List Node)(order:List Int):Bool:=qc8 qa order order.length
theorem qeq(qa:List Node)(order:List Int)(k:Nat):qc8 qa order (k+1)=(qc8 qa order k&&qex qa (order.take k) (order.getD k 0)):=by
 unfold qc8;rw[BK,all_append];simp
theorem qsv{qa:List Node}{order:List Int}(h:k<=m)(ho:qc8 qa order m=true):qc8 qa order k=true:=by
 induction m with
 |zero=>
  obtain rfl:k=0:=by omega
  exact ho
 |succ m ih=>
  by_cases hk:k=m+1
  . subst hk;exact ho
  . rw[qeq,Ab]at ho;exact ih (by omega) ho.1
theorem qvh(qa:List Node)(D:List Int)(x:Int):qbp qa (D++[x])=(qbp qa D&&qex qa D x):=by
 have h1:qc8 qa (D++[x]) D.length=qc8 qa D D.length:=by
  unfold qc8;rw[Ai,AS,AS]
  have e:∀i,i∈range D.length->((D++[x]).take i=D.take i/\(D++[x]).getD i 0=D.getD i 0):=by
   intro i hi;have hi:=B9.1 hi;exact⟨BI (by omega),by simp only[AP];rw[AY hi]⟩
  constructor
  . intro h i hi;have:=h i hi
    rwa [(e i hi).1,(e i hi).2]at this
  . intro h i hi;rw[(e i hi).1,(e i hi).2];exact h i hi
 unfold qbp;rw[Be];show qc8 qa (D++[x]) (D.length+1)=_;rw[qeq,h1,take_left,AP,AW (Cl _),Cm];rfl
theorem qd3{qa:List Node}:qex qa D x=true↔0<=x/\x<qa.length/\x∉D/\∀f∈qfj qa x.toNat,f∈D:=by
 unfold qex;simp only[Ab,decide_eq_true_eq,Ah,decide_eq_false_iff_not,AS,and_assoc]
theorem qg8{qa:List Node}(ho:qbp qa D=true)(hi:i<D.length):qex qa (D.take i) D[i]=true:=by
 have h1:qc8 qa D (i+1)=true:=qsv hi ho;rw[qeq,Ab,AP,AO hi]at h1;exact h1.2
theorem qil{qa:List Node}(ho:qbp qa D=true)(hy:y∈D):0<=y/\y<qa.length/\∀f∈qfj qa y.toNat,f∈D:=by
 obtain⟨i,hi,rfl⟩:=mem_iff_getElem.1 hy;obtain⟨h1,h2,_,h4⟩:=qd3.1 (qg8 ho hi);exact⟨h1,h2,λf hf=>mem_of_mem_take (h4 f hf)⟩
theorem qpj{qa:List Node}(ho:qbp qa D=true):D.Nodup:=by
 have:∀k,k<=D.length->(D.take k).Nodup:=by
  intro k
  induction k with
  |zero=>intro _;simp
  |succ k ih=>
   intro hk;rw[AQ (by omega),Bo];refine⟨ih (by omega),by simp,λa ha b hb e=>?_⟩;obtain rfl:b=D[k]:=by simpa using hb
   exact(qd3.1 (qg8 ho (i:=k) (by omega))).2.2.1 (e▸ha)
 have:=this D.length (Cl _)
 rwa [Bi]at this
def qa5(qa:List Node):List Int:=(range qa.length).map λi=>((qbw qa i).length:Int)
def lefts(qa:List Node)(D:List Int):List Int:=(range qa.length).map λi=>(left qa D i:Int)
def qbc(qa:List Node)(cs:List Int)(x:Int):List Int:=cs.zipIdx.map λy:Int×Nat=>if has qa y.2 x then y.1-1 else y.1
def qa7(qa:List Node)(D:List Int):List Int:=D.foldl (qbc qa) (qa5 qa)
theorem qpk(qa:List Node):lefts qa []=qa5 qa:=by
 unfold lefts qa5;simp only[q61]
theorem qes(qa:List Node)(D:List Int):(lefts qa D).length=qa.length:=by unfold lefts;rw[Bg,length_range]
theorem qky{qa:List Node}(D:List Int)(h:i<qa.length):(lefts qa D)[i]?=some (left qa D i:Int):=by
 unfold lefts;rw[Ba,BY h];rfl
theorem qg1(qa:List Node)(cs:List Int)(x:Int):(qbc qa cs x).length=cs.length:=by unfold qbc;rw[Bg,C0]
theorem qju{qa:List Node}{c:Int}(h:cs[i]?=some c):(qbc qa cs x)[i]?=some (if has qa i x then c-1 else c):=by
 unfold qbc;rw[Ba,Br,h];simp
theorem qjj{qa:List Node}(hv:qae qa=true)(hx:x∉D)(h0:0<=x):qbc qa (lefts qa D) x=lefts qa (D++[x]):=by
 apply Bb;intro i;by_cases hi:i<qa.length
 . rw[qju (qky D hi),qky _ hi];have:=qpi hv hx h0 i;congr 1;split
   . rw[if_pos (by assumption)]at this;omega
   . rw[if_neg (by assumption)]at this;omega
 . rw[AR (by rw[qg1,qes];omega),AR (by rw[qes];omega)]
theorem qne{qa:List Node}(hv:qae qa=true)(ho:qbp qa D=true):∀k,k<=D.length->qa7 qa (D.take k)=lefts qa (D.take k):=by
 intro k
 induction k with
 |zero=>intro _;exact(qpk qa).symm
 |succ k ih=>
  intro hk;have h1:qc8 qa D (k+1)=true:=qsv hk ho;rw[qeq,Ab]at h1;have h2:=qd3.1 h1.2;have hg:D.getD k 0=D[k]:=by rw[AP,AO (by omega)];rfl
  rw[hg]at h2;rw[AQ (by omega)];unfold qa7 at ih |-;rw[Bp,ih (by omega)];exact qjj hv h2.2.2.1 h2.1
theorem qg2{qa:List Node}(hv:qae qa=true)(ho:qbp qa D=true):qa7 qa D=lefts qa D:=by
 have:=qne hv ho D.length (Cl _)
 rwa [Bi]at this
def q7(f:Int->Int->Int)(a b:List Int):List Int:=zipWith (λx y=>f x y%1009) a b
def qdu(f:Int->Int->Int)(a b:List Int):Option (List Int):=if qak a&&qak b&&decide (a.length=b.length)then some (q7 f a b)else none
def vr(x y:Int):Int:=x+y
def vf(x y:Int):Int:=x*y
def qk5(a b:List Int):Option (List Int):=qdu vr a b
def qfy(a b:List Int):Option (List Int):=qdu vf a b
def qa9(s:Int):List Int->List Int
 |[]=>[]
 |x::xs=>((s+x)%1009)::qa9 ((s+x)%1009) xs
def qek(l:List Int):Option (List Int):=if qak l then some (qa9 0 l)else none
def putRow:List Int->Int->List Int
 |[],n=>[n]
 |x::xs,n=>if n<x then n::x::xs else x::putRow xs n
def qh(l:List Int):List Int:=l.foldl putRow []
def qel(l:List Int):Option (List Int):=if qak l then some (qh l)else none
def qem(l:List Int):Option (List Int):=if qak l then some l.reverse else none
def qdw(k:Int):List (List Int)->Option (List Int)
 |[a,b]=>if k=1 then qk5 a b else if k=2 then qfy a b else none
 |[a]=>if k=3 then qek a else if k=4 then qel a else if k=5 then qem a else none
 |_=>none
theorem qcw(h:qak l=true)(hx:x∈l):0<=x/\x<=1008:=by
 unfold qak at h;simp only[Ab,decide_eq_true_eq,AS]at h;have:=h.1 x hx;unfold zf at this;simpa using this
theorem qbq(h:qak l=true):l.length<=6:=by
 unfold qak at h;simp only[Ab,decide_eq_true_eq]at h;exact h.2
theorem qpq(h:∀x∈l,0<=x/\x<=1008)(hl:l.length<=6):qak l=true:=by
 unfold qak;simp only[Ab,decide_eq_true_eq,AS];refine⟨λx hx=>?_,hl⟩;have:=h x hx;unfold zf;simp;omega
theorem qpr(l:List Int)(n:Int):(putRow l n).Perm (n::l):=by
 induction l with
 |nil=>exact Ce _
 |cons x xs ih=>
  unfold putRow;split
  . exact Ce _
  . exact(Cg x ih).trans (Perm.swap n x xs)
theorem qt0(n:Int)(h:l.Pairwise (·<=·)):(putRow l n).Pairwise (·<=·):=by
 induction l with
 |nil=>simp[putRow]
 |cons x xs ih=>
  have h1:=Bm.1 h;unfold putRow;split
  . rename_i hx;refine Bm.2 ⟨?_,h⟩;intro y hy;rcases AZ.1 hy with rfl|hy
    . omega
    . have:=h1.1 y hy;omega
  . refine Bm.2 ⟨?_,ih h1.2⟩;intro y hy;rcases AZ.1 ((qpr xs n).mem_iff.1 hy)with rfl|hy
    . omega
    . exact h1.1 y hy
theorem qps(l acc:List Int)(h:acc.Pairwise (·<=·)):(l.foldl putRow acc).Perm (l++acc)/\(l.foldl putRow acc).Pairwise (·<=·):=by
 induction l generalizing acc with
 |nil=>exact⟨Ce _,h⟩
 |cons x xs ih=>
  obtain⟨h1,h2⟩:=ih (putRow acc x) (qt0 x h);refine⟨h1.trans ?_,h2⟩;refine(Cd xs (qpr acc x)).trans ?_;exact C7
theorem qgq(l:List Int):(qh l).Perm l:=by
 have:=(qps l [] Pairwise.nil).1;rw[BN]at this;exact this
theorem qjv(l:List Int):(qh l).Pairwise (·<=·):=(qps l [] Pairwise.nil).2
theorem qk6:∀{a b:List Int},a.Perm b->a.Pairwise (·<=·)->b.Pairwise (·<=·)->a=b
 |[],b,h,_,_=>by simpa using h.symm
 |x::xs,[],h,_,_=>by simp at h
 |x::xs,y::ys,h,ha,hb=>by
  have ha':=Bm.1 ha;have hb':=Bm.1 hb;have hx:x∈y::ys:=h.mem_iff.1 (by simp);have hy:y∈x::xs:=h.mem_iff.2 (by simp)
  have e:x=y:=by
   rcases AZ.1 hx with h1|h1
   . exact h1
   . rcases AZ.1 hy with h2|h2
     . exact h2.symm
     . have:=ha'.1 y h2;have:=hb'.1 x h1;omega
  subst e;rw[qk6 (Cj h) ha'.2 hb'.2]
theorem q1t{m:List Int}(h:m.Perm l)(hs:m.Pairwise (·<=·)):m=qh l:=
 qk6 (h.trans (qgq l).symm) hs (qjv l)
theorem qdx(l:List Int):(qh l).length=l.length:=(qgq l).length_eq
theorem qio(s:Int)(l:List Int):(qa9 s l).length=l.length:=by
 induction l generalizing s with
 |nil=>rfl
 |cons x xs ih=>simp[qa9,ih]
theorem qye(s:Int)(l:List Int):∀x∈qa9 s l,0<=x/\x<=1008:=by
 induction l generalizing s with
 |nil=>intro x hx;simp[qa9]at hx
 |cons y ys ih=>
  intro x hx;rcases AZ.1 hx with rfl|hx
  . omega
  . exact ih _ x hx
theorem q1u{f:Int->Int->Int}{a b:List Int}(h:a.length=b.length):(q7 f a b).length=a.length:=by
 unfold q7;rw[length_zipWith];omega
theorem q36(f:Int->Int->Int)(a b:List Int):∀x∈q7 f a b,0<=x/\x<=1008:=by
 intro x hx;unfold q7 at hx;obtain⟨i,hi⟩:=mem_iff_getElem?.1 hx;rw[getElem?_zipWith]at hi;split at hi
 . injection hi with hi;omega
 . cases hi
theorem qhp{f:Int->Int->Int}{a b:List Int}(h:qdu f a b=some r):qak r=true/\r.length=a.length/\r.length=b.length/\qak a=true/\qak b=true:=by
 unfold qdu at h;split at h
 . rename_i hc;injection h with h;subst h;simp only[Ab,decide_eq_true_eq]at hc;have hl:=q1u (f:=f) hc.2;exact⟨qpq (q36 f a b) (by rw[hl];exact qbq hc.1.1),hl,by omega,hc.1.1,hc.1.2⟩
 . cases h
theorem qt1{k:Int}(h:qdw k rows=some r):qak r=true/\(rows.length:Int)=qas k/\∀l∈rows,l.length=r.length/\qak l=true:=by
 have two:∀{f:Int->Int->Int} {a b:List Int},qdu f a b=some r->∀l∈[a,b],l.length=r.length/\qak l=true:=by
  intro f a b h l hl;obtain⟨_,h1,h2,h3,h4⟩:=qhp h;simp at hl;rcases hl with rfl|rfl
  . exact⟨h1.symm,h3⟩
  . exact⟨h2.symm,h4⟩
 unfold qdw at h;split at h
 . rename_i a b;split at h
   . rename_i hk;subst hk;exact⟨(qhp h).1,rfl,two h⟩
   . split at h
     . rename_i hk;subst hk;exact⟨(qhp h).1,rfl,two h⟩
     . cases h
 . rename_i a
   have one:∀{m:List Int},qak a=true->m.length=a.length->(∀x∈m,0<=x/\x<=1008)->qak m=true/\∀l∈[a],l.length=m.length/\qak l=true:=by
    intro m hv hl hm;refine⟨qpq hm (by rw[hl];exact qbq hv),λl hl'=>?_⟩;simp at hl';subst hl';exact⟨hl.symm,hv⟩
   split at h
   . rename_i hk;subst hk;unfold qek at h;split at h
     . rename_i hv;injection h with h;subst h;obtain⟨h1,h2⟩:=one hv (qio 0 a) (qye 0 a);exact⟨h1,rfl,h2⟩
     . cases h
   . split at h
     . rename_i hk;subst hk;unfold qel at h;split at h
       . rename_i hv;injection h with h;subst h;obtain⟨h1,h2⟩:=one hv (qdx a) (λx hx=>qcw hv ((qgq a).mem_iff.1 hx));exact⟨h1,rfl,h2⟩
       . cases h
     . split at h
       . rename_i hk;subst hk;unfold qem at h;split at h
         . rename_i hv;injection h with h;subst h;obtain⟨h1,h2⟩:=one (m:=a.reverse) hv (by simp) (λx hx=>qcw hv (by simpa using hx));exact⟨h1,rfl,h2⟩
         . cases h
       . cases h
 . cases h
def q9(x:Node)(rows:List (List Int)):List Int:=if x.kind=0 then x.row else (qdw x.kind (x.frm.map λi=>rows.getD i.toNat [])).getD []
def qbi(qa:List Node):Nat->List (List Int)
 |0=>[]
 |k+1=>qbi qa k++[match qa[k]? with
  |some x=>q9 x (qbi qa k)
  |none=>[]]
def values(qa:List Node):List (List Int):=qbi qa qa.length
theorem qc4(qa:List Node)(k:Nat):(qbi qa k).length=k:=by
 induction k with
 |zero=>rfl
 |succ k ih=>simp[qbi,ih]
theorem qg7(qa:List Node):(values qa).length=qa.length:=qc4 qa _
theorem qhm{qa:List Node}{x:Node}(h:qa[k]?=some x):qbi qa (k+1)=qbi qa k++[q9 x (qbi qa k)]:=by
 rw[qbi,h]
theorem qtv(qa:List Node)(h:i<=k):(qbi qa k).take i=qbi qa i:=by
 induction k with
 |zero=>
  obtain rfl:i=0:=by omega
  rfl
 |succ k ih=>
  by_cases hk:i=k+1
  . subst hk;rw[AX (by rw[qc4];omega)]
  . rw[qbi,BI (by rw[qc4];omega),ih (by omega)]
theorem qhn(qa:List Node)(h:i<k)(hm:i<m):(qbi qa k).getD i []=(qbi qa m).getD i []:=by
 have e:∀k:Nat,i<k->(qbi qa k).getD i []=(qbi qa (i+1)).getD i []:=by
  intro k hk;rw[<-qtv qa (show i+1<=k by omega)];simp only[AP];rw[By,if_pos (by omega)]
 rw[e k h,e m hm]
def qco(qa:List Node)(i:Nat):List Int:=(values qa).getD i []
theorem qkw{qa:List Node}(h:i<qa.length):(values qa)[i]?=some (qco qa i):=by
 unfold qco;rw[AP,AO (by rw[qg7];exact h)];rfl
theorem qvf{k:Int}(h0:1<=k)(h5:k<=5)(hl:(rows.length:Int)=qas k)(hr:∀l∈rows,qak l=true/\l.length=n):∃r,qdw k rows=some r:=by
 have both:∀(f:Int->Int->Int) (a b:List Int),qak a=true->qak b=true->a.length=b.length->∃r,qdu f a b=some r:=by
  intro f a b ha hb hab;unfold qdu;rw[ha,hb,decide_eq_true hab];exact⟨_,rfl⟩
 have two:(qas k=2)->∃a b,rows=[a,b]/\qak a=true/\qak b=true/\a.length=b.length:=by
  intro e;rw[e]at hl
  match rows,hl with
  |[a,b],_=>
   have ha:=hr a (by simp);have hb:=hr b (by simp);exact⟨a,b,rfl,ha.1,hb.1,by omega⟩
  |[],hl=>simp at hl
  |[_],hl=>simp at hl
  |_::_::_::_,hl=>simp at hl;omega
 have one:(qas k=1)->∃a,rows=[a]/\qak a=true:=by
  intro e;rw[e]at hl
  match rows,hl with
  |[a],_=>exact⟨a,rfl,(hr a (by simp)).1⟩
  |[],hl=>simp at hl
  |_::_::_,hl=>simp at hl;omega
 rcases (show k=1∨k=2∨k=3∨k=4∨k=5 by omega)with rfl|rfl|rfl|rfl|rfl
 . obtain⟨a,b,rfl,ha,hb,hab⟩:=two (by decide);exact both _ a b ha hb hab
 . obtain⟨a,b,rfl,ha,hb,hab⟩:=two (by decide);exact both _ a b ha hb hab
 . obtain⟨a,rfl,ha⟩:=one (by decide);exact⟨_,by show qek a=_;unfold qek;rw[if_pos ha]⟩
 . obtain⟨a,rfl,ha⟩:=one (by decide);exact⟨_,by show qel a=_;unfold qel;rw[if_pos ha]⟩
 . obtain⟨a,rfl,ha⟩:=one (by decide);exact⟨_,by show qem a=_;unfold qem;rw[if_pos ha]⟩
theorem qik{x:Node}{a:Int}(h:qba x a=true):(0<=x.kind/\x.kind<=5)/\(x.frm.length:Int)=qas x.kind/\(∀y∈x.frm,0<=y/\y<a)/\(x.kind=0->qak x.row=true):=by
 unfold qba at h;simp only[Ab,decide_eq_true_eq,AS]at h;obtain⟨⟨⟨h1,h2⟩,h3⟩,h4⟩:=h;refine⟨?_,h2,h3,λe=>?_⟩
 . unfold qdp at h1;simpa using h1
 . rw[if_pos e]at h4;exact h4
theorem qkx{qa:List Node}(hv:qae qa=true){x:Node}(hx:qa[k]?=some x)(hl:rows.length=k)(hr:∀l∈rows,qak l=true/\l.length=wide qa) :
   qak (q9 x rows)=true/\(q9 x rows).length=wide qa/\(x.kind≠0->qdw x.kind (x.frm.map λi=>rows.getD i.toNat [])=some (q9 x rows)):=by
 obtain⟨hf,-,-,hw⟩:=qbb hv hx;obtain⟨⟨h0,h5⟩,h2,h3,h4⟩:=qik hf;unfold q9;by_cases hk:x.kind=0
 . rw[if_pos hk];exact⟨h4 hk,hw hk,λh=>absurd hk h⟩
 . rw[if_neg hk]
   have hmem:∀l∈x.frm.map (λi=>rows.getD i.toNat []),qak l=true/\l.length=wide qa:=by
    intro l hl';obtain⟨i,hi,rfl⟩:=BO.1 hl';have:=h3 i hi;have hlt:i.toNat<rows.length:=by omega
    rw[AP,AO hlt];exact hr _ (getElem_mem hlt)
   obtain⟨r,e⟩:=qvf (by omega) h5 (by rw[Bg];exact h2) hmem;rw[e];obtain⟨v1,-,v3⟩:=qt1 e;refine⟨v1,?_,λ_=>rfl⟩
   have hne:x.frm≠[]:=by
    intro e0;rw[e0]at h2;rcases (show x.kind=1∨x.kind=2∨x.kind=3∨x.kind=4∨x.kind=5 by omega)with e|e|e|e|e
    all_goals
     rw[e]at h2;exact absurd h2 (by decide)
   obtain⟨i,r',e1⟩:∃i r',x.frm=i::r':=by
    cases hf':x.frm with
    |nil=>exact absurd hf' hne
    |cons i r'=>exact⟨i,r',rfl⟩
   have hm0:=v3 (rows.getD i.toNat []) (by rw[e1];simp);have hm1:=hmem (rows.getD i.toNat []) (by rw[e1];simp);show r.length=wide qa;omega
theorem qjt{qa:List Node}(hv:qae qa=true):∀k,k<=qa.length->∀l∈qbi qa k,qak l=true/\l.length=wide qa:=by
 intro k
 induction k with
 |zero=>intro _ l hl;simp[qbi]at hl
 |succ k ih=>
  intro hk l hl;have hx:qa[k]?=some qa[k]:=AO (by omega);rw[qhm hx]at hl;rcases Bc.1 hl with hl|hl
  . exact ih (by omega) l hl
  . obtain rfl:l=q9 qa[k] (qbi qa k):=by simpa using hl
    have:=qkx hv hx (qc4 qa k) (ih (by omega));exact⟨this.1,this.2.1⟩
theorem qmk{qa:List Node}{x:Node}(h:qa[i]?=some x):qco qa i=q9 x (qbi qa i):=by
 have hi:=(AN.1 h).1;unfold qco values;rw[qhn qa (m:=i+1) hi (by omega),qhm h,AP,AW (by rw[qc4];omega),qc4,Cm];rfl
theorem qx7{qa:List Node}(hv:qae qa=true)(hi:i<qa.length):qak (qco qa i)=true/\(qco qa i).length=wide qa:=
 qjt hv _ (Cl _) _ (Bq (qkw hi))
theorem q31{qa:List Node}(hv:qae qa=true){x:Node}(h:qa[i]?=some x)(hk:x.kind≠0):qdw x.kind (x.frm.map λj=>qco qa j.toNat)=some (qco qa i):=by
 have hi:=(AN.1 h).1;have hs:=(qkx hv h (qc4 qa i) (qjt hv i (by omega))).2.2 hk;rw[<-qmk h]at hs;rw[<-hs];congr 1;refine BH (λj hj=>?_);have:=qc5 (qbb hv h).1 hj;exact qhn qa (by omega) (by omega)
theorem qx8{qa:List Node}{x:Node}(h:qa[i]?=some x)(hk:x.kind=0):qco qa i=x.row:=by
 rw[qmk h];unfold q9;rw[if_pos hk]
theorem qkd{qa:List Node}(hk:k<=qa.length):x∈qca qa D k↔∃i:Nat,i<k/\x=i/\x∉D/\∀f∈qfj qa i,f∈D:=by
 induction k with
 |zero=>simp[qca]
 |succ k ih=>
  have hx:qa[k]?=some qa[k]:=AO (by omega)
  have hr:qdc D (qa[k],k)=true↔(k:Int)∉D/\∀f∈qfj qa k,f∈D:=by
   rw[qdd hx];unfold qdc;simp only[Ab,Ah,decide_eq_false_iff_not,AS,decide_eq_true_eq]
  rw[qep D hx];have ih:=ih (by omega);constructor
  . intro h;by_cases hc:qdc D (qa[k],k)=true
    . rw[if_pos hc]at h;rcases Bc.1 h with h|h
      . obtain⟨i,h1,h2⟩:=ih.1 h;exact⟨i,by omega,h2⟩
      . obtain rfl:x=(k:Int):=by simpa using h
        exact⟨k,by omega,rfl,(hr.1 hc).1,(hr.1 hc).2⟩
    . rw[if_neg hc]at h;obtain⟨i,h1,h2⟩:=ih.1 h;exact⟨i,by omega,h2⟩
  . rintro⟨i,h1,rfl,h3,h4⟩;by_cases hik:i=k
    . subst hik;rw[if_pos (hr.2 ⟨h3,h4⟩)];simp
    . have:=ih.2 ⟨i,by omega,rfl,h3,h4⟩;split
      . exact BX _ this
      . exact this
theorem qtw(qa:List Node)(D:List Int):∀k,k<=qa.length->(qca qa D k).Nodup:=by
 intro k
 induction k with
 |zero=>intro _;simp[qca]
 |succ k ih=>
  intro hk;have hx:qa[k]?=some qa[k]:=AO (by omega);rw[qep D hx];split
  . rw[Bo];refine⟨ih (by omega),by simp,λa ha b hb e=>?_⟩;obtain rfl:b=(k:Int):=by simpa using hb
    obtain⟨i,h1,h2,_⟩:=(qkd (by omega)).1 ha;omega
  . exact ih (by omega)
theorem qfv(qa:List Node)(D:List Int):(qan qa D).Nodup:=by
 unfold qan;split
 . exact qtw qa D _ (Cl _)
 . exact BR
theorem qc9{qa:List Node}(hv:qae qa=true):x∈qan qa D↔∃i:Nat,i<qa.length/\x=i/\x∉D/\∀f∈qfj qa i,f∈D:=by
 unfold qan;rw[if_pos hv];exact qkd (Cl _)
def qei(qa:List Node)(D:List Int)(i:Nat):List Int:=if (i:Int)∈D then qco qa i else []
def qnf(qa:List Node)(c:qj):Bool:=(range qa.length).all λi=>decide (c.rows.getD i []=qei qa c.done i)
def qfw(qa:List Node)(c:qj):Bool:=decide (c.qb.flatten.length=(qan qa c.done).length)&&(qan qa c.done).all λx=>decide (c.qb.flatten.count x=1)
def qaw(qa:List Node)(c:qj):Bool:=
 qae qa&&(decide (1<=c.qb.length)&&decide (c.qb.length<=4))&&qbp qa c.done&&decide (c.counts=qa7 qa c.done)&&decide (c.rows.length=qa.length)&&qfw qa c&&qnf qa c
theorem qr1{R:List Int}(hn:R.Nodup):∀{F:List Int},F.length=R.length->(∀x∈R,F.count x=1)->F.Perm R:=by
 induction R with
 |nil=>
  intro F hl _;obtain rfl:F=[]:=Bn (by simpa using hl);exact Ce _
 |cons x R ih=>
  intro F hl hc;obtain⟨h1,h2⟩:=BG.1 hn;have hx:x∈F:=count_pos_iff.1 (by rw[hc x (by simp)];omega);have hp:=BV hx;refine hp.trans (Cg x (ih h2 ?_ λy hy=>?_))
  . rw[Bu hx,hl];simp
  . have hne:y≠x:=λe=>h1 (e▸hy);rw[count_erase_of_ne hne];exact hc y (by simp[hy])
theorem qvi{qa:List Node}{c:qj}:qfw qa c=true↔c.qb.flatten.Perm (qan qa c.done):=by
 have hn:=qfv qa c.done;unfold qfw;simp only[Ab,decide_eq_true_eq,AS];constructor
 . rintro⟨h1,h2⟩;exact qr1 hn h1 h2
 . intro h;refine⟨h.length_eq,λx hx=>?_⟩;rw[perm_iff_count.1 h x,hn.count,if_pos hx]
structure qv(qa:List Node)(c:qj):Prop where
 pv:qae qa=true
 d1:1<=c.qb.length
 d4:c.qb.length<=4
 order:qbp qa c.done=true
 counts:c.counts=lefts qa c.done
 rl:c.rows.length=qa.length
 dq:c.qb.flatten.Perm (qan qa c.done)
 rows:∀i,i<qa.length->c.rows[i]?=some (qei qa c.done i)
theorem qb4{qa:List Node}{c:qj}:qaw qa c=true↔qv qa c:=by
 unfold qaw;simp only[Ab,decide_eq_true_eq,qvi];constructor
 . rintro⟨⟨⟨⟨⟨⟨h1,h2,h3⟩,h4⟩,h5⟩,h6⟩,h7⟩,h8⟩;refine⟨h1,h2,h3,h4,by rw[h5,qg2 h1 h4],h6,h7,λi hi=>?_⟩;unfold qnf at h8;have:=AS.1 h8 i (B9.2 hi);rw[decide_eq_true_eq,AP,AO (by omega)]at this;rw[AO (by omega)];exact congrArg some this
 . intro h;refine⟨⟨⟨⟨⟨⟨h.pv,h.d1,h.d4⟩,h.order⟩,by rw[qg2 h.pv h.order];exact h.counts⟩,h.rl⟩,h.dq⟩,?_⟩;unfold qnf;rw[AS];intro i hi;rw[decide_eq_true_eq,AP,h.rows i (B9.1 hi)];rfl
def qbe(qa:List Node)(cs:List Int)(x:Int):List Int:=((range qa.length).filter λi=>has qa i x&&decide (cs.getD i 0=1)).map (λi:Nat=>(i:Int))
theorem qng{qa:List Node}:y∈qbe qa cs x↔∃i:Nat,i<qa.length/\y=i/\x∈qfj qa i/\cs.getD i 0=1:=by
 unfold qbe has;simp only[BO,mem_filter,B9,Ab,decide_eq_true_eq];constructor
 . rintro⟨i,⟨h1,h2,h3⟩,rfl⟩;exact⟨i,h1,rfl,h2,h3⟩
 . rintro⟨i,h1,rfl,h2,h3⟩;exact⟨i,⟨h1,h2,h3⟩,rfl⟩
theorem qr2(qa:List Node)(cs:List Int)(x:Int):(qbe qa cs x).Nodup:=by
 unfold qbe;have h:=(C8 (n:=qa.length)).filter (λi=>has qa i x&&decide (cs.getD i 0=1));exact Pairwise.map _ (λa b hab e=>hab (by omega)) h
theorem q1j{qa:List Node}(hv:qae qa=true)(ho:qbp qa D=true)(hx:x∈qan qa D) :
   (qan qa (D++[x])).Perm ((qan qa D).erase x++qbe qa (lefts qa D) x):=by
 obtain⟨m,hm,rfl,hxD,hxf⟩:=(qc9 hv).1 hx;have hn:=qfv qa D
 have key:∀i:Nat,i<qa.length->((m:Int)∈qfj qa i/\(lefts qa D).getD i 0=1↔(m:Int)∈qfj qa i/\∀f∈qfj qa i,f∈D++[(m:Int)]):=by
  intro i hi;have e:(lefts qa D).getD i 0=(left qa D i:Int):=by rw[AP,qky D hi];rfl
  have h1:=qpi hv hxD (AM m) i;rw[e,<-q33 hv];constructor
  . rintro⟨h2,h3⟩;rw[if_pos (by unfold has;exact decide_eq_true h2)]at h1;exact⟨h2,by omega⟩
  . rintro⟨h2,h3⟩;rw[if_pos (by unfold has;exact decide_eq_true h2)]at h1;exact⟨h2,by omega⟩
 refine(perm_ext_iff_of_nodup (qfv _ _) ?_).2 λy=>?_
 . rw[Bo];refine⟨hn.erase _,qr2 _ _ _,λa ha b hb e=>?_⟩;subst e;obtain⟨i,hi,rfl,h2,h3⟩:=qng.1 hb;obtain⟨j,_,hj,h4,h5⟩:=(qc9 hv).1 (mem_of_mem_erase ha);obtain rfl:i=j:=by omega
   exact hxD (h5 _ h2)
 . rw[Bc,hn.mem_erase_iff,qc9 hv,qc9 hv,qng];constructor
   . rintro⟨i,hi,rfl,h1,h2⟩;have hne:(i:Int)≠m:=λe=>h1 (by simp[e]);have hD:(i:Int)∉D:=λe=>h1 (by simp[e]);by_cases hmf:(m:Int)∈qfj qa i
     . exact .inr ⟨i,hi,rfl,(key i hi).2 ⟨hmf,h2⟩⟩
     . refine .inl ⟨hne,i,hi,rfl,hD,λf hf=>?_⟩;rcases Bc.1 (h2 f hf)with h|h
       . exact h
       . obtain rfl:f=(m:Int):=by simpa using h
         exact absurd hf hmf
   . rintro(⟨hne,i,hi,rfl,h1,h2⟩|⟨i,hi,rfl,h⟩)
     . exact⟨i,hi,rfl,by simp[h1,hne],λf hf=>by simp[h2 f hf]⟩
     . obtain⟨h1,h2⟩:=(key i hi).1 h;refine⟨i,hi,rfl,λe=>?_,h2⟩;rcases Bc.1 e with e|e
       ·
        exact hxD ((qil ho e).2.2 _ (by simpa using h1))
       . obtain rfl : i = m := by have e : (i : Int) = m := by simpa using e
                                  omega
         have:=qer hv h1;omega
theorem qkz{w:Nat}(h:w<L.length)(d:List Int):(L.set w d).flatten.Perm (d++(L.eraseIdx w).flatten):=by
 induction L generalizing w with
 |nil=>simp at h
 |cons a L ih=>
  cases w with
  |zero=>simp
  |succ w=>
   simp only[set_cons_succ,flatten_cons,eraseIdx_cons_succ];have:=ih (w:=w) (by simpa using h);refine(Cd a this).trans ?_;rw[<-AV,<-AV];exact Cf _ BC
theorem qk0{w:Nat}(h:L[w]?=some d):L.flatten.Perm (d++(L.eraseIdx w).flatten):=by
 obtain⟨hw,rfl⟩:=AN.1 h;have:=qkz hw L[w]
 rwa [set_getElem_self]at this
def qfp(qa:List Node)(c:qj)(w:Nat)(x:Int):qj:=
 {qb:=c.qb.set w (c.qb.getD w []++qbe qa c.counts x),counts:=qbc qa c.counts x,done:=c.done++[x],rows:=c.rows.set x.toNat (qco qa x.toNat)}
theorem qvj{qa:List Node}{c:qj}(hc:qv qa c){w:Nat}(hx:x∈qan qa c.done)(hl:L.length=c.qb.length)(hw:w<c.qb.length)(hp:(x::L.flatten).Perm c.qb.flatten) :
   qv qa (qfp qa {c with qb:=L} w x):=by
 obtain⟨m,hm,rfl,hxD,hxf⟩:=(qc9 hc.pv).1 hx;have hwL:w<L.length:=by omega
 have hstep:qex qa c.done (m:Int)=true:=qd3.2 ⟨AM m,by omega,hxD,by simpa using hxf⟩;refine⟨hc.pv,?_,?_,?_,?_,?_,?_,?_⟩
 . show 1<=(L.set w _).length;rw[AU,hl];exact hc.d1
 . show (L.set w _).length<=4;rw[AU,hl];exact hc.d4
 . show qbp qa (c.done++[(m:Int)])=true;rw[qvh,hc.order,hstep];rfl
 . show qbc qa c.counts (m:Int)=lefts qa (c.done++[(m:Int)]);rw[hc.counts];exact qjj hc.pv hxD (AM m)
 . show (c.rows.set _ _).length=qa.length;rw[AU];exact hc.rl
 . show (L.set w (L.getD w []++qbe qa c.counts (m:Int))).flatten.Perm (qan qa (c.done++[(m:Int)]));have h1:=q1j hc.pv hc.order hx;rw[<-hc.counts]at h1;refine Ci ?_ h1.symm
   have hR:(L.flatten).Perm ((qan qa c.done).erase (m:Int)):=by
    have h2:=(hp.trans hc.dq);have h3:=BV hx;exact Cj (h2.trans h3)
   have hg:L[w]?=some (L.getD w []):=by rw[AP,AO hwL];rfl
   have h4:=qkz hwL (L.getD w []++qbe qa c.counts (m:Int));have h5:=qk0 hg;refine h4.trans ?_;rw[AV];refine(Cd _ BC).trans ?_;rw[<-AV];exact Cf _ (h5.symm.trans hR)
 . intro i hi;show (c.rows.set (m:Int).toNat (qco qa (m:Int).toNat))[i]?=some (qei qa (c.done++[(m:Int)]) i);rw[AL];by_cases him:i=m
   . subst him;rw[Bj (by rw[hc.rl];exact hi)];unfold qei;rw[if_pos (by simp)]
   . rw[Bs (λe=>him e.symm),hc.rows i hi];unfold qei;have:(i:Int)≠m:=by omega
     by_cases hD:(i:Int)∈c.done
     . rw[if_pos hD,if_pos (by simp[hD])]
     . rw[if_neg hD,if_neg (by simp[hD,this])]
def qa8(c:qj)(w:Int):Bool:=decide (0<=w)&&decide (w<c.qb.length)
def qcp(qa:List Node)(c:qj)(w:Int):Option qj:=
 if qaw qa c&&qa8 c w then
  (match (c.qb.getD w.toNat []).getLast? with
  |none=>none
  |some x=>some (qfp qa {c with qb:=c.qb.set w.toNat (c.qb.getD w.toNat []).dropLast} w.toNat x))
 else none
def qay(qa:List Node)(c:qj)(w f:Int):Option qj:=
 if qaw qa c&&qa8 c w&&qa8 c f && !decide (w=f)&&decide (c.qb.getD w.toNat []=[])then
  (match c.qb.getD f.toNat []with
  |[]=>none
  |x::r=>some (qfp qa {c with qb:=c.qb.set f.toNat r} w.toNat x))
 else none
def qb5(qa:List Node)(c:qj)(w:Int):Int:=
 if qaw qa c&&qa8 c w then
  (match ((range c.qb.length).map (λs=>(w.toNat+s)%c.qb.length)).find? (λi=>!decide (c.qb.getD i []=[]))with
  |some i=>(i:Int)
  |none=>-1)
 else -1
def qbl(qa:List Node)(c:qj)(w:Int):Option qj:=
 if qb5 qa c w=-1 then none else if qb5 qa c w=w then qcp qa c w else qay qa c w (qb5 qa c w)
theorem qb6{c:qj}{w:Int}:qa8 c w=true↔0<=w/\w<c.qb.length:=by
 unfold qa8;simp
theorem getD_some{w:Nat}(h:w<L.length):L[w]?=some (L.getD w []):=by rw[AP,AO h];rfl
theorem qvk{qa:List Node}{c c':qj}{w:Int}(h:qcp qa c w=some c') :
   qv qa c/\∃(k:Nat) (r:List Int) (x:Int),w=k/\k<c.qb.length/\c.qb[k]?=some (r++[x])/\x∈qan qa c.done/\c'=qfp qa {c with qb:=c.qb.set k r} k x/\qv qa c':=by
 unfold qcp at h;split at h
 . rename_i hc;rw[Ab]at hc;obtain⟨hc,hw⟩:=hc;obtain⟨h0,h1⟩:=qb6.1 hw;obtain⟨k,rfl⟩:=AK h0;have hk:k<c.qb.length:=by omega
   have H:=qb4.1 hc;simp only[AL]at h;have hg:=getD_some hk;generalize c.qb.getD k []=d at h hg;split at h
   . cases h
   . rename_i x hx;obtain⟨r,rfl⟩:=getLast?_eq_some_iff.1 hx;injection h with h;rw[dropLast_concat]at h;have hf:=qk0 hg;have hxr:x∈qan qa c.done:=(H.dq.mem_iff).1 (hf.mem_iff.2 (by simp))
     have hp:(x::(c.qb.set k r).flatten).Perm c.qb.flatten:=by
      refine Ci ?_ hf.symm;refine(Cg x (qkz hk r)).trans ?_;rw[AV];exact(C7 (a:=x)).symm
     have hok:=qvj H (L:=c.qb.set k r) hxr (by rw[AU]) hk hp;exact⟨H,k,r,x,rfl,hk,hg,hxr,h.symm,h▸hok⟩
 . cases h
theorem qr3{qa:List Node}{c c':qj}{w f:Int}(h:qay qa c w f=some c') :
   qv qa c/\∃(k m:Nat) (r:List Int) (x:Int),w=k/\f=m/\k<c.qb.length/\m<c.qb.length/\k≠m/\c.qb[k]?=some []/\c.qb[m]?=some (x::r)/\x∈qan qa c.done/\c'=qfp qa {c with qb:=c.qb.set m r} k x/\qv qa c':=by
 unfold qay at h;split at h
 . rename_i hc;simp only[Ab,Ah,decide_eq_false_iff_not,decide_eq_true_eq]at hc;obtain⟨⟨⟨⟨hc,hw⟩,hf⟩,hne⟩,he⟩:=hc;obtain⟨h0,h1⟩:=qb6.1 hw;obtain⟨h2,h3⟩:=qb6.1 hf;obtain⟨k,rfl⟩:=AK h0;obtain⟨m,rfl⟩:=AK h2;have hk:k<c.qb.length:=by omega
   have hm:m<c.qb.length:=by omega
   have H:=qb4.1 hc;simp only[AL]at h he;have hg:=getD_some hm;have hgk:=getD_some hk;rw[he]at hgk;generalize c.qb.getD m []=d at h hg;split at h
   . cases h
   . rename_i x r;injection h with h;have hfl:=qk0 hg;have hxr:x∈qan qa c.done:=(H.dq.mem_iff).1 (hfl.mem_iff.2 (by simp))
     have hp:(x::(c.qb.set m r).flatten).Perm c.qb.flatten:=by
      refine Ci ?_ hfl.symm;exact Cg x (qkz hm r)
     have hok:=qvj H (L:=c.qb.set m r) hxr (by rw[AU]) hk hp;exact⟨H,k,m,r,x,rfl,rfl,hk,hm,by omega,hgk,hg,hxr,h.symm,h▸hok⟩
 . cases h
theorem q0g:∀{l m:List Int},l.Nodup->(∀y∈l,y∈m)->l.length<=m.length:=by
 intro l
 induction l with
 |nil=>intro m _ _;simp
 |cons a l ih=>
  intro m hl hm;obtain⟨h1,h2⟩:=BG.1 hl;have ha:=hm a (by simp)
  have:=ih (m:=m.erase a) h2 (λy hy=>by
   have hne:y≠a:=λe=>h1 (e▸hy);exact(mem_erase_of_ne hne).2 (hm y (by simp[hy])))
  rw[Bu ha]at this;have hp:0<m.length:=length_pos_of_mem ha;simp only[BF];omega
theorem qke{qa:List Node}{c:qj}(h:qv qa c):c.done.length<=qa.length:=by
 have hn:=qpj h.order
 have hs:∀y∈c.done,y∈(range qa.length).map (λi:Nat=>(i:Int)):=λy hy=>by
  obtain⟨h0,h1,_⟩:=qil h.order hy;obtain⟨j,rfl⟩:=AK h0;exact BO.2 ⟨j,B9.2 (by omega),rfl⟩
 have:=q0g hn hs;simpa using this
theorem qr4(qa:List Node)(D:List Int):∀k,k<=qa.length->(qca qa D k).Pairwise (·<=·):=by
 intro k
 induction k with
 |zero=>intro _;simp[qca]
 |succ k ih=>
  intro hk;have hx:qa[k]?=some qa[k]:=AO (by omega);rw[qep D hx];split
  . rw[pairwise_append];refine⟨ih (by omega),by simp,λa ha b hb=>?_⟩;obtain rfl:b=(k:Int):=by simpa using hb
    obtain⟨i,h1,h2,_⟩:=(qkd (by omega)).1 ha;omega
  . exact ih (by omega)
theorem qr5(qa:List Node)(D:List Int):(qan qa D).Pairwise (·<=·):=by
 unfold qan;split
 . exact qr4 qa D _ (Cl _)
 . exact Pairwise.nil
theorem qsw{qa:List Node}{F:List Int}:qh F=qan qa D↔F.Perm (qan qa D):=by
 constructor
 . intro h;rw[<-h];exact(qgq F).symm
 . intro h;exact(q1t h.symm (qr5 qa D)).symm
theorem qgd(qa:List Node)(D:List Int):(qan qa D).length<=qa.length:=by
 unfold qan;split
 . exact qkb qa D _
 . simp
def qed(qa:List Node)(cs:List Int)(x:Int):Bool:=(range qa.length).all λi=>decide (0<=cs.getD i 0)&&decide (cs.getD i 0<=((qbw qa i).length:Int)) && !(has qa i x&&decide (cs.getD i 0=0))
def qbv(qa:List Node)(cs:List Int)(x:Int):Option (List Int×List Int):=
 if qae qa&&(decide (0<=x)&&decide (x<qa.length))&&decide (cs.length=qa.length)&&qed qa cs x then some (qbc qa cs x,qbe qa cs x)else none
theorem qk1{qa:List Node}(hv:qae qa=true)(h0:0<=x)(h1:x<qa.length)(hx:x∉D):qbv qa (lefts qa D) x=some (lefts qa (D++[x]),qbe qa (lefts qa D) x):=by
 unfold qbv;rw[if_pos,qjj hv hx h0];simp only[Ab,decide_eq_true_eq];refine⟨⟨⟨hv,h0,h1⟩,qes qa D⟩,?_⟩;unfold qed;rw[AS];intro i hi;have hi:=B9.1 hi;have e:(lefts qa D).getD i 0=(left qa D i:Int):=by rw[AP,qky D hi];rfl
 have h2:=q32 qa D i;have h3:=qpi hv hx h0 i;rw[e];simp only[Ab,decide_eq_true_eq,Ah,Bool.and_eq_false_iff,decide_eq_false_iff_not];refine⟨⟨by omega,by omega⟩,?_⟩;by_cases hh:has qa i x=true
 . rw[if_pos hh]at h3;exact .inr (by omega)
 . exact .inl (by simpa using hh)
theorem qv.done{qa:List Node}{c:qj}(h:qv qa c)(hx:x∈qan qa c.done):qbv qa c.counts x=some (qbc qa c.counts x,qbe qa c.counts x):=by
 obtain⟨m,hm,rfl,hxD,hxf⟩:=(qc9 h.pv).1 hx;rw[h.counts,qk1 h.pv (AM m) (by omega) hxD,qjj h.pv hxD (AM m)]
theorem qho{qa:List Node}{c c':qj}{w:Int}(h:qbl qa c w=some c'):qv qa c/\qv qa c'/\c'.qb.length=c.qb.length/\∃x,x∈qan qa c.done/\c'.done=c.done++[x]/\c'.rows=c.rows.set x.toNat (qco qa x.toNat):=by
 unfold qbl at h;split at h
 . cases h
 split at h
 . obtain⟨h1,k,r,x,rfl,hk,hd,hx,rfl,h2⟩:=qvk h;exact⟨h1,h2,by show (set _ _ _).length=_;rw[AU];show (set _ _ _).length=_;rw[AU],x,hx,rfl,rfl⟩
 . obtain⟨h1,k,m,r,x,rfl,-,hk,hm,hkm,hd,hd2,hx,rfl,h2⟩:=qr3 h;exact⟨h1,h2,by show (set _ _ _).length=_;rw[AU];show (set _ _ _).length=_;rw[AU],x,hx,rfl,rfl⟩
def dealt(qa:List Node)(n k:Nat):List (List Int):=((qan qa []).take k).zipIdx.foldl (λL x=>L.set (x.2%n) (L.getD (x.2%n) []++[x.1])) (replicate n [])
def qbn(qa:List Node)(workers:Int):Option qj:=
 if qae qa&&(decide (1<=workers)&&decide (workers<=4))then
  some {qb:=dealt qa workers.toNat (qan qa []).length,counts:=qa5 qa,done:=[],rows:=replicate qa.length []}
 else none
theorem qpl(n:Nat)(hn:0<n)(R:List Int):∀k,k<=R.length->((R.take k).zipIdx.foldl (λL x=>L.set (x.2%n) (L.getD (x.2%n) []++[x.1])) (replicate n [])).length=n /\
   ((R.take k).zipIdx.foldl (λL x=>L.set (x.2%n) (L.getD (x.2%n) []++[x.1])) (replicate n [])).flatten.Perm (R.take k):=by
 intro k
 induction k with
 |zero=>
  intro _;refine⟨by simp,?_⟩;have:(replicate n ([]:List Int)).flatten=[]:=by simp
  simp[this]
 |succ k ih=>
  intro hk;obtain⟨h1,h2⟩:=ih (by omega);rw[AQ (by omega),zipIdx_append,Bp];have hl:(R.take k).length=k:=by rw[AT];omega
  generalize (R.take k).zipIdx.foldl (λL x=>L.set (x.2%n) (L.getD (x.2%n) []++[x.1])) (replicate n [])=L at h1 h2 |-;rw[hl];simp only[zipIdx_cons,zipIdx_nil,Bh,foldl_nil,Nat.zero_add];refine⟨by rw[AU];exact h1,?_⟩;have hm:k%n<L.length:=by rw[h1];exact Nat.mod_lt _ hn
  have p1:=qkz hm (L.getD (k%n) []++[R[k]]);have p2:=qk0 (getD_some hm);refine p1.trans ?_;rw[AV];refine(Cd _ BC).trans ?_;rw[<-AV];exact Cf _ (p2.symm.trans h2)
theorem qim{qa:List Node}{n:Int}{c:qj}(h:qbn qa n=some c):qv qa c/\(c.qb.length:Int)=n:=by
 unfold qbn at h;split at h
 . rename_i hc;simp only[Ab,decide_eq_true_eq]at hc;obtain⟨hv,h1,h4⟩:=hc;injection h with h;obtain⟨m,rfl⟩:=AK (show 0<=n by omega);obtain⟨g1,g2⟩:=qpl m (by omega) (qan qa []) _ (Cl _);rw[Bi]at g2;have e:dealt qa m (qan qa []).length=((qan qa []).take (qan qa []).length).zipIdx.foldl (λL x=>L.set (x.2%m) (L.getD (x.2%m) []++[x.1])) (replicate m []):=rfl;rw[<-Bi (l:=qan qa [])]at g2;rw[Bi]at g2;subst h;refine⟨⟨hv,?_,?_,rfl,(qpk qa).symm,by simp,?_,λi hi=>?_⟩,?_⟩
   . show 1<=(dealt qa _ _).length;rw[AL,e,g1];omega
   . show (dealt qa _ _).length<=4;rw[AL,e,g1];omega
   . show (dealt qa _ _).flatten.Perm _;rw[AL,e,Bi];exact g2
   . show (replicate qa.length [])[i]?=_;rw[BM,if_pos hi];rfl
   . show ((dealt qa _ _).length:Int)=_;rw[AL,e,g1]
 . cases h
theorem q1k{qa:List Node}{c:qj}(h:qv qa c){nd:Node}(hx:qa[m]?=some nd)(hr:(m:Int)∈qan qa c.done):q9 nd c.rows=qco qa m:=by
 obtain⟨m',hm,e,hxD,hxf⟩:=(qc9 h.pv).1 hr;obtain rfl:m=m':=by omega
 rw[qmk hx];unfold q9;by_cases hk:nd.kind=0
 . rw[if_pos hk,if_pos hk]
 . rw[if_neg hk,if_neg hk]
   have e:nd.frm.map (λi=>c.rows.getD i.toNat [])=nd.frm.map (λi=>(qbi qa m).getD i.toNat []):=by
    refine BH λf hf=>?_;rw[<-qdd hx]at hf;have hfD:=hxf f hf;obtain⟨h0,h1,_⟩:=qer h.pv hf;obtain⟨j,rfl⟩:=AK h0;rw[AL];have h2:=h.rows j (by omega);unfold qei at h2;rw[if_pos hfD]at h2;rw[AP,h2];show qco qa j=_;unfold qco values;exact qhn qa (by omega) (by omega)
   rw[e]
def qa3(d:List Int):Bool:=decide (d.length<=10)&&d.all (λx=>decide (0<=x)&&decide (x<=9))&&decide d.Nodup
theorem qbu:qa3 d=true↔d.length<=10/\(∀x∈d,0<=x/\x<=9)/\d.Nodup:=by
 unfold qa3;simp only[Ab,decide_eq_true_eq,AS,and_assoc]
theorem qv.xI{qa:List Node}{c:qj}(h:qv qa c)(hd:c.qb[k]?=some d):qa3 d=true:=by
 have hf:=(qk0 hd).symm.trans h.dq;have zF:=qam h.pv;have hlen:=hf.length_eq;rw[Be]at hlen;have hrl:=qgd qa c.done;refine qbu.2 ⟨by omega,λx hx=>?_,?_⟩
 . obtain⟨i,hi,rfl,_⟩:=(qc9 h.pv).1 (hf.mem_iff.1 (BX _ hx));omega
 . have:=(hf.nodup_iff).2 (qfv qa c.done);exact(Bo.1 this).1
def qe8(qa:List Node)(cs:List Int)(x:Int)(k:Nat):List Int:=cs.zipIdx.map λy:Int×Nat=>if has qa y.2 x&&decide (y.2<k)then y.1-1 else y.1
def qcj(qa:List Node)(cs:List Int)(x:Int)(k:Nat):List Int:=((range k).filter λi=>has qa i x&&decide (cs.getD i 0=1)).map (λi:Nat=>(i:Int))
theorem qx9(qa:List Node)(cs:List Int)(x:Int):qe8 qa cs x 0=cs:=by
 apply Bb;intro i;unfold qe8;rw[Ba,Br];cases cs[i]?<;>simp
theorem q1l{qa:List Node}(x:Int)(h:cs.length<=k):qe8 qa cs x k=qbc qa cs x:=by
 apply Bb;intro i;unfold qe8 qbc;rw[Ba,Ba,Br];by_cases hi:i<cs.length
 . rw[AO hi];have:i<k:=by omega
   simp[this]
 . rw[AR (by omega)];rfl
theorem qf5(qa:List Node)(cs:List Int)(x:Int)(k:Nat):(qe8 qa cs x k).length=cs.length:=by unfold qe8;rw[Bg,C0]
theorem qf6{qa:List Node}{c:Int}(h:cs[i]?=some c):(qe8 qa cs x k)[i]?=some (if has qa i x&&decide (i<k)then c-1 else c):=by
 unfold qe8;rw[Ba,Br,h];simp
theorem qya{qa:List Node}{c:Int}(h:cs[k]?=some c)(hh:has qa k x=true):qe8 qa cs x (k+1)=(qe8 qa cs x k).set k (c-1):=by
 have hk:=(AN.1 h).1;apply Bb;intro i;by_cases hi:i<cs.length
 . have hc:cs[i]?=some cs[i]:=AO hi;by_cases hik:i=k
   . subst hik;obtain rfl:c=cs[i]:=by rw[hc]at h;exact(Option.some.inj h).symm
     rw[qf6 hc,Bj (by rw[qf5];exact hi),hh];simp
   . rw[qf6 hc,Bs (λe=>hik e.symm),qf6 hc];have:(i<k+1)↔(i<k):=by omega
     simp only[this]
 . rw[AR (by rw[qf5];omega),AR (by rw[AU,qf5];omega)]
theorem qyb{qa:List Node}(hh:has qa k x=false):qe8 qa cs x (k+1)=qe8 qa cs x k:=by
 apply Bb;intro i;by_cases hi:i<cs.length
 . have hc:cs[i]?=some cs[i]:=AO hi;rw[qf6 hc,qf6 hc];by_cases hik:i=k
   . subst hik;simp[hh]
   . have:(i<k+1)↔(i<k):=by omega
     simp only[this]
 . rw[AR (by rw[qf5];omega),AR (by rw[qf5];omega)]
theorem qin(qa:List Node)(cs:List Int)(x:Int)(k:Nat):qcj qa cs x (k+1)=qcj qa cs x k++(if has qa k x&&decide (cs.getD k 0=1)then [(k:Int)]else []):=by
 unfold qcj;rw[BK,Bz,BL];congr 1;by_cases h:(has qa k x&&decide (cs.getD k 0=1))=true
 . rw[if_pos h,Cb,if_pos h];rfl
 . rw[if_neg h,Cb,if_neg h];rfl
def qfx(qa:List Node)(k:Nat)(i:Nat):Int:=((qbw qa i).countP (λf:Nat=>decide (f<k)):Nat)
def qge(qa:List Node)(k t:Nat)(i:Nat):Int:=qfx qa k i+if i∈(qbx qa k).take t then 1 else 0
def xJ(f:Nat->Int)(u:Nat)(x:Int):Nat->Int:=λi=>if i=u then x else f i
theorem q1o(qa:List Node):qfx qa 0=λ_=>0:=by
 funext i;unfold qfx;rw[BZ.2 (by simp)];rfl
theorem qpm(qa:List Node)(k:Nat):qge qa k 0=qfx qa k:=by
 funext i;unfold qge;simp
theorem qpn{l:List Nat}(hn:l.Nodup)(k:Nat):l.countP (λf=>decide (f<k+1))=l.countP (λf=>decide (f<k))+if k∈l then 1 else 0:=by
 induction l with
 |nil=>simp
 |cons a r ih=>
  obtain⟨h1,h2⟩:=BG.1 hn;have ih:=ih h2;rw[Cc,Cc,ih];by_cases e:a=k
  . subst e;rw[if_neg h1];simp
  . have hm:(k∈a::r)↔k∈r:=⟨λh=>by rcases AZ.1 h with h|h;exact absurd h.symm e;exact h,BW _⟩;have hd:decide (a<k+1)=decide (a<k):=by rw[decide_eq_decide];omega
    simp only[hm,hd];omega
theorem q1p{qa:List Node}(hv:qae qa=true)(ht:(qbx qa k).length<=t):qge qa k t=qfx qa (k+1):=by
 funext i;unfold qge qfx;rw[AX ht,qpn (qk8 qa i)];by_cases h:k∈qbw qa i
 . have hi:i < qa.length:=by
    have:=qer hv ((qgc hv).1 h);exact this.2.2
   rw[if_pos (qgg.2 ⟨hi,h⟩),if_pos h];omega
 . rw[if_neg (λe=>h (qgg.1 e).2),if_neg h];omega
theorem qyc{qa:List Node}(hu:(qbx qa k)[t]?=some u):qge qa k (t+1)=xJ (qge qa k t) u (qge qa k t u+1):=by
 obtain⟨ht,rfl⟩:=AN.1 hu;funext i
 have hno:(qbx qa k)[t]∉(qbx qa k).take t:=by
  intro h;obtain⟨j,hj,e⟩:=Bf.1 h;have:=(Ca (qk9 qa k)).1 e;omega
 unfold xJ qge;rw[AQ ht];by_cases e:i=(qbx qa k)[t]
 . rw[if_pos e,if_pos (by rw[e];exact BS _ (Bv.2 rfl)),if_neg hno,e];omega
 . rw[if_neg e];have:(i∈(qbx qa k).take t++[(qbx qa k)[t]])↔i∈(qbx qa k).take t:=by rw[Bc,Bv,or_iff_left e]
   simp only[this]
theorem qvo{qa:List Node}(hv:qae qa=true)(k t i:Nat):0<=qge qa k t i/\qge qa k t i<=3:=by
 have h2:(qbw qa i).length<=2:=by
  rw[qgb];refine Ck (qpu _) ?_;by_cases hi:i<qa.length
  . rw[qdd (AO hi)];exact(qbb hv (AO hi)).2.1
  . rw[qvg (by omega)];simp
 have h3:(qbw qa i).countP (λf:Nat=>decide (f<k))<=(qbw qa i).length:=BT;unfold qge qfx;split<;>omega
theorem qpo{qa:List Node}(hv:qae qa=true)(i:Nat):qfx qa qa.length i=((qbw qa i).length:Int):=by
 unfold qfx;rw[BU.2];intro f hf;have:=qer hv ((qgc hv).1 hf);simp only[decide_eq_true_eq];omega
theorem q1q{qa:List Node}(hv:qae qa=true):(range qa.length).map (qfx qa qa.length)=qa5 qa:=by
 unfold qa5;apply BH;intro i _;exact qpo hv i
def qjs(f:Nat->Int)(cs:List Int):Nat->Int:=λi=>cs.getD i (f i)
theorem qk4{c:Int}(h:cs[i]?=some c):qjs f cs i=c:=by
 unfold qjs;rw[AP,h];rfl
def qeb(f:Nat->Int)(us:List Nat)(t:Nat):Nat->Int:=λi=>f i-if i∈us.take t then 1 else 0
def qX(f:Nat->Int)(us:List Nat)(t:Nat):List Int:=((us.take t).filter (λu=>decide (f u=1))).map (λu:Nat=>(u:Int))
theorem qvp(f:Nat->Int)(us:List Nat):qeb f us 0=f:=by
 funext i;unfold qeb;simp
theorem qni(hn:us.Nodup)(hu:us[t]?=some u):u∉us.take t:=by
 obtain⟨ht,rfl⟩:=AN.1 hu;intro h;obtain⟨j,hj,e⟩:=Bf.1 h;have:=(Ca hn).1 e;omega
theorem q1r(hn:us.Nodup)(hu:us[t]?=some u):qeb f us t u=f u:=by
 unfold qeb;rw[if_neg (qni hn hu)];omega
theorem qnj(hn:us.Nodup)(hu:us[t]?=some u):qeb f us (t+1)=xJ (qeb f us t) u (f u-1):=by
 have hno:=qni hn hu;obtain⟨ht,rfl⟩:=AN.1 hu;funext i;unfold xJ qeb;rw[AQ ht];by_cases e:i=us[t]
 . rw[if_pos e,if_pos (by rw[e];exact BS _ (Bv.2 rfl)),e]
 . rw[if_neg e];have:(i∈us.take t++[us[t]])↔i∈us.take t:=by rw[Bc,Bv,or_iff_left e]
   simp only[this]
theorem qyd(hu:us[t]?=some u):qX f us (t+1)=qX f us t++(if f u=1 then [(u:Int)]else []):=by
 obtain⟨ht,rfl⟩:=AN.1 hu;unfold qX;rw[AQ ht,Bz,BL];by_cases h:f us[t]=1
 . simp[h]
 . simp[h]
theorem q1s(f:Nat->Int)(us:List Nat)(t:Nat):(qX f us t).length<=t:=by
 unfold qX;rw[Bg];refine Ck (BE _ _) ?_;rw[AT];exact Nat.min_le_left _ _
theorem qgf{qa:List Node}(hv:qae qa=true){x:Nat}:i∈qbx qa x↔i<qa.length/\has qa i (x:Int)=true:=by
 rw[qgg];unfold has;rw[decide_eq_true_eq,qgc hv]
theorem qvq{qa:List Node}(hv:qae qa=true)(hl:cs.length=qa.length)(f:Nat->Int)(x t:Nat)(ht:(qbx qa x).length<=t) :
   (range qa.length).map (qeb (qjs f cs) (qbx qa x) t)=qbc qa cs (x:Int):=by
 apply Bb;intro i;by_cases hi:i<qa.length
 . have hg:cs[i]?=some cs[i]:=AO (by omega);rw[qju hg,Ba,BY hi];show some _=_;congr 1;unfold qeb;rw[AX ht,qk4 hg];by_cases h:has qa i (x:Int)=true
   . rw[if_pos ((qgf hv).2 ⟨hi,h⟩),if_pos h]
   . rw[if_neg (λe=>h ((qgf hv).1 e).2),if_neg h];omega
 . rw[AR (by simp;omega),AR (by rw[qg1];omega)]
theorem qvr{qa:List Node}(hv:qae qa=true)(hl:cs.length=qa.length)(f:Nat->Int)(x t:Nat)(ht:(qbx qa x).length<=t) :
   qX (qjs f cs) (qbx qa x) t=qbe qa cs (x:Int):=by
 unfold qX qbe qbx;rw[AX (by unfold qbx at ht;exact ht),filter_filter];congr 1;apply filter_congr;intro i hi;have hi:=B9.1 hi;have hg:cs[i]?=some cs[i]:=AO (by omega);have e1:qjs f cs i=cs.getD i 0:=by rw[qk4 hg,AP,hg];rfl
 have e2:decide (x∈qbw qa i)=has qa i (x:Int):=by
  unfold has;rw[decide_eq_decide];exact qgc hv
 rw[e1,e2,Bool.and_comm]
theorem qr6{qa:List Node}(hv:qae qa=true){x:Nat}(hu:(qbx qa x)[t]?=some u)(hz:cs.getD u 0=0):qed qa cs (x:Int)=false:=by
 have hm:=(qgf hv).1 (Bq hu);unfold qed;rw[BJ];refine⟨u,B9.2 hm.1,?_⟩;rw[hm.2,hz];simp
theorem qpp{qa:List Node}{c:Int}(hi:i<qa.length)(hc:cs[i]?=some c)(h:¬(0<=c/\c<=((qbw qa i).length:Int))):qed qa cs x=false:=by
 unfold qed;rw[BJ];refine⟨i,B9.2 hi,?_⟩;rw[AP,hc];simp only[Option.getD_some,Ab,decide_eq_true_eq];exact λe=>h e.1
theorem qtz{qa:List Node}(hv:qae qa=true)(hl:cs.length=qa.length){x:Nat}(h1:∀i c,cs[i]?=some c->0<=c/\c<=((qbw qa i).length:Int))(h2:∀u∈qbx qa x,cs.getD u 0≠0):qed qa cs (x:Int)=true:=by
 unfold qed;rw[AS];intro i hi;have hi:=B9.1 hi;have hg:cs[i]?=some cs[i]:=AO (by omega);have hd:cs.getD i 0=cs[i]:=by rw[AP,hg];rfl
 have h3:=h1 i _ hg;rw[hd,decide_eq_true h3.1,decide_eq_true h3.2];by_cases h:has qa i (x:Int)=true
 . have:=h2 i ((qgf hv).2 ⟨hi,h⟩);rw[hd]at this;simp[this]
 . simp[h]
end
section
open Go.RowKit
section
variable {a b c w w':Aj}{row:Option Nat}
theorem qag(w:Aj)(row:Option Nat):w.grownBy w row:=⟨rfl,rfl,rfl,Cl _,λ_ _ _=>rfl⟩
theorem qac(h:a.grownBy b row)(k:b.grownBy c row):a.grownBy c row:=
 ⟨k.os.trans h.os,k.tape.trans h.tape,k.output.trans h.output,Ck h.size k.size,λi hi hr=>(k.block i (Co hi h.size) hr).trans (h.block i hi hr)⟩
theorem qa2{row':Option Nat}(h:a.grownBy b row)(k:b.grownBy c row')(hg:∀g,row'=some g->a.heap.size<=g∨row=some g):a.grownBy c row:=
 ⟨k.os.trans h.os,k.tape.trans h.tape,k.output.trans h.output,Ck h.size k.size,λi hi hr=>(k.block i (Co hi h.size) (λe=>by
  rcases hg i e.symm with h1|h1
  . omega
  . exact hr h1.symm)).trans (h.block i hi hr)⟩
theorem q3z(h:a.grownBy b row)(k:b.grownBy c none):a.grownBy c row:=qa2 h k (λ_ e=>by cases e)
theorem qx5(h:a.grownBy b none)(row:Option Nat):a.grownBy b row:=⟨h.os,h.tape,h.output,h.size,λi hi _=>h.block i hi (by simp)⟩
theorem qax(h:a.grownBy w row):a.grownBy w.drew row:=⟨h.os,h.tape,h.output,h.size,h.block⟩
theorem qb8(h:a.grownBy w row)(n:Nat):a.grownBy (w.drewN n) row:=⟨h.os,h.tape,h.output,h.size,h.block⟩
theorem qaq(h:a.grownBy w row)(o:Obj):a.grownBy (w.alloc o) row:=
 qa2 h (AD w o none) (λ_ e=>by cases e)
theorem qa1(h:a.grownBy w row)(hp:a.heap.size<=p.block∨row=some p.block)(u:Am):a.grownBy (w.setCell p u) row:=
 qa2 (row':=some p.block) h ⟨rfl,rfl,rfl,by simp[World.setCell],λi _ hne=>AB w p u i (λe=>hne (by rw[e]))⟩ (λg e=>by cases e;exact hp)
theorem q60(h:a.grownBy w none):Below a.heap.size a w:=⟨h.os,h.tape,h.output,h.size,λi hi=>h.block i hi (by simp)⟩
theorem qx6(h:Below a.heap.size a w)(row:Option Nat):a.grownBy w row:=⟨h.os,h.tape,h.output,h.size,λi hi _=>h.block i hi⟩
theorem q1h{base:Nat}(h:a.grownBy w row)(hr:∀g,row=some g->base<=g)(hb:base<=a.heap.size:=by omega):Below base a w:=⟨h.os,h.tape,h.output,h.size,λi hi=>h.block i (by omega) (λe=>by have:=hr i e.symm;omega)⟩
theorem qkc(h:a.grownBy w row)(hp:p.block<a.heap.size)(hne:row≠some p.block):w.cell? p=a.cell? p:=World.cell?_of_block (h.block p.block hp (λe=>hne e.symm))
end
theorem q84(w:Aj)(g:Nat)(u v x:Am):w.grownBy (((w.setCell ⟨g,0,none⟩ u).setCell ⟨g,1,none⟩ v).setCell ⟨g,2,none⟩ x) (some g):=
 qa1 (qa1 (qa1 (qag w (some g)) (.inr rfl) u) (.inr rfl) v) (.inr rfl) x
def Blk(w:Aj)(g:Nat)(t:Ap)(cs:Array Am):Prop:=w.heap[g]?=some (.cells cs t (0,0))
section
variable {w w':Aj}{g:Nat}{t:Ap}{cs:Array Am}
theorem Blk.lt(h:Blk w g t cs):g<w.heap.size:=(Array.getElem?_eq_some_iff.1 h).1
theorem Blk.cell(h:Blk w g t cs)(i:Nat):w.cell? ⟨g,i,none⟩=cs[i]?:=At w g i cs t (0,0) h
theorem Blk.frozen(h:Blk w g t cs)(i:Nat):w.frozen? ⟨g,i,none⟩=false:=frozen_of_row w g i cs t h
theorem Blk.new(w:Aj)(t:Ap)(cs:Array Am):Blk (w.alloc (.cells cs t)) w.heap.size t cs:=heap_alloc_new w _
theorem Blk.drew(h:Blk w g t cs):Blk w.drew g t cs:=h
theorem Blk.alloc(h:Blk w g t cs)(o:Obj):Blk (w.alloc o) g t cs:=(AA w o g h.lt).trans h
theorem Blk.qC(h:Blk w g t cs)(i:Nat)(u:Am):Blk (w.setCell ⟨g,i,none⟩ u) g t (cs.setIfInBounds i u):=heap_setCell_same w g i cs t u h
theorem Blk.far(h:Blk w g t cs)(hp:g≠p.block)(u:Am):Blk (w.setCell p u) g t cs:=(AB w p u g hp).trans h
theorem Blk.grown(h:Blk w g t cs)(hb:w.grownBy w' row)(hg:some g≠row):Blk w' g t cs:=(hb.block g h.lt hg).trans h
theorem Blk.ne_{g':Nat}{t':Ap}{cs':Array Am}(h:Blk w g t cs)(k:Blk w g' t' cs')(ht:t≠t'):g≠g':=by
 rintro rfl;unfold Blk at h k;rw[h]at k;injection k with k;injection k with _ k;exact ht k
end
def qg(w:Aj)(E:Ap)(row:Option Nat):Prop:=∀g,row=some g->∀cur,¬Blk w g E cur
theorem qg.none(w:Aj)(E:Ap):qg w E none:=λ_ e=>by cases e
theorem qg.blk{cs:Array Am}(h:Blk w g E' cs)(hne:E≠E'):qg w E (some g):=λg' e cur hc=>by
 cases e;exact hc.ne_ h hne rfl
theorem qg.own{base:Nat}(h:w.ownsRow base E' size v n xs)(hne:E≠E'):qg w E v.ownBlock:=by
 rcases h.2 with ⟨rfl,_⟩|⟨g,cap,cur,rfl,_,hg,_⟩
 . exact qg.none w E
 . exact qg.blk (cs:=cur) hg hne
def TS(w:Aj)(E:Ap)(size:Nat)(v:Am)(n:Nat)(xs:List Am):Prop:=
 xs.length=n*size/\∃A c,v=.slice A n c/\n<=c/\c<=maxLen/\(A=none->c=0) /\
  (n=0∨∃g o cur,A=some ⟨g,o,none⟩/\Blk w g E cur/\∀j u,xs[j]?=some u->cur[o+j]?=some u)
section
variable {w w':Aj}{E:Ap}{size n:Nat}{v:Am}{xs:List Am}
theorem TS.form(h:TS w E size v n xs):∃A c,v=.slice A n c/\n<=c/\c<=maxLen/\(A=none->c=0):=
 let ⟨_,A,c,h1,h2,h3,h4,_⟩:=h;⟨A,c,h1,h2,h3,h4⟩
theorem TS.le(h:TS w E size v n xs):n<=9223372036854775807:=by
 obtain⟨A,c,_,h2,h3,_⟩:=h.form;unfold maxLen at h3;omega
theorem TS.nil(w:Aj)(E:Ap)(size:Nat):TS w E size (.slice none 0 0) 0 []:=⟨by simp,none,0,rfl,by simp,by simp,by simp,.inl rfl⟩
theorem TS.at_(h:TS w E size (.slice A n c) n xs)(hn:0<n) :
   ∃g o cur,A=some ⟨g,o,none⟩/\Blk w g E cur/\∀j u,xs[j]?=some u->w.cell? ⟨g,o+j,none⟩=some u:=by
 obtain⟨_,A',c',h1,_,_,_,h5⟩:=h;injection h1 with h1 _ _;subst h1;rcases h5 with h5|⟨g,o,cur,rfl,hb,hc⟩
 . omega
 . exact⟨g,o,cur,rfl,hb,λj u hu=>(hb.cell _).trans (hc j u hu)⟩
theorem TS.grown(h:TS w E size v n xs)(hg:w.grownBy w' row)(hr:qg w E row):TS w' E size v n xs:=by
 obtain⟨h0,A,c,h1,h2,h3,h4,h5⟩:=h;refine⟨h0,A,c,h1,h2,h3,h4,?_⟩;rcases h5 with h5|⟨g,o,cur,hA,hb,hc⟩
 . exact .inl h5
 . exact .inr ⟨g,o,cur,hA,hb.grown hg (λe=>hr g e.symm cur hb),hc⟩
theorem TS.new(h:TS w E size v n xs)(hg:w.grownBy w' none):TS w' E size v n xs:=h.grown hg (qg.none _ _)
theorem TS.jA{base:Nat}(h:w.ownsRow base E size v n xs):TS w E size v n xs:=by
 refine⟨h.1,?_⟩;rcases h.2 with ⟨rfl,rfl⟩|⟨g,cap,cur,rfl,_,hg,hn,hcm,_,ht⟩
 . exact⟨none,0,rfl,by simp,by simp,by simp,.inl rfl⟩
 . refine⟨some ⟨g,0,none⟩,cap,rfl,hn,hcm,by simp,.inr ⟨g,0,cur,rfl,hg,λj u hu=>?_⟩⟩;rw[<-ht,By]at hu;split at hu
   . simpa using hu
   . cases hu
end
def RI(w:Aj)(v:Am)(l:List Int):Prop:=TS w 3 1 v l.length (l.map (.int .i64))
section
variable {w w':Aj}{v:Am}{l:List Int}
theorem RI.at_(h:RI w (.slice A n c) l)(hk:k<n):∃g o x,A=some ⟨g,o,none⟩/\l[k]?=some x/\w.cell? ⟨g,o+k,none⟩=some (.int .i64 x):=by
 have hn:n=l.length:=by
  obtain⟨A',c',h1,_⟩:=h.form;injection h1
 subst hn;obtain⟨g,o,cur,rfl,_,hc⟩:=TS.at_ h (by omega);refine⟨g,o,l[k],rfl,AO hk,hc k _ ?_⟩;simp[hk]
theorem RI.len(h:RI w (.slice A n c) l):n=l.length:=by
 obtain⟨A',c',h1,_⟩:=h.form;injection h1
theorem RI.val(h:RI w v l):∃A n c,v=.slice A n c:=by
 obtain⟨A,c,h1,h2,_⟩:=h.form;exact⟨A,_,c,h1⟩
theorem RI.form'(h:RI w v l):∃A n c,v=.slice A n c/\n<=c/\n=l.length:=by
 obtain⟨A,c,h1,h2,_⟩:=h.form;exact⟨A,_,c,h1,h2,rfl⟩
end
theorem q30{Q:Exit->Act->Aj->Prop}{cs:Array Am}
   (s x:As) (t:Ap) (z:Am) (size bytes:Nat) (ht:P.underlying t=some (.slice E)) (yJ:(P.info? E).map (λi=>(i.zero,i.size,i.bytes))=some (some z,size,bytes))
   (hzs:z.cells.size=size) (hsz:0<size) (hby:bytes<=128) (hgd:o.guard=none)
   (ho:o.op=.call {callee:=.builtin .append,args:=#[s,x],argTypes:=#[t,t]})
   {base:Nat}    (hown:w.ownsRow base E size v n xs) (hn:n<=1000000000) (hbase:base<=w.heap.size)
   (hcs:cs.size=size) (h1:∀u∈cs.toList,u.oneCell'=true) (hs:a.eval s=v) (hx:a.eval x=.slice (some ⟨w.heap.size,0,none⟩) 1 1)
   (h:∀v' w',w'.ownsRow base E size v' (n+1) (xs++cs.toList)->w.grownBy w' v.ownBlock->v'≠.slice none 0 0->wpList P ops Q rest (a.put o.dst v') w') :
   wpList P ops Q (o::rest) a (w.alloc (.cells cs E)):=by
 obtain⟨i,hi,hz0,hz1,hz2⟩:=Ax yJ;refine wpList_append_own _ hgd s x t ho base E i z size bytes ht hi hz0 hz1 hz2 hzs hsz v n xs hs (hown.alloc _) ⟨w.heap.size,0,none⟩ 1 1 cs.toList hx (by simpa using hcs) ?_ h1 ?_ ?_ ?_ ?_
 . intro j u hj;have hadd:(⟨w.heap.size,0,none⟩:Addr).add j=⟨w.heap.size,j,none⟩:=by unfold Addr.add;split<;>simp_all
   rw[hadd,AE];simpa using hj
 . unfold maxLen;omega
 . calc (n+1) * bytes<=(n+1) * 128:=Cn _ hby
    _<=140737488355328:=by omega
 . simp;omega
 . intro v' w' ho' hg hnil;refine h v' w' ho' ?_ ?_
   . exact⟨hg.os,hg.tape,hg.output,Ck (by simp) hg.size,λk hk hne=>(hg.block k (by simp;omega) hne).trans (AA w _ k hk)⟩
   . intro e;have:=(hnil.1 e).2;omega
theorem qcb{w':Aj}{base:Nat}(h:w.ownsRow base E size v n xs)(hg:w.grownBy w' row)(hr:qg w E row):w'.ownsRow base E size v n xs:=by
 refine h.kept hg ?_;rcases h.2 with ⟨rfl,_⟩|⟨g,cap,cur,rfl,_,hh,_⟩
 . exact .inl rfl
 . right;intro e;exact hr g (e.symm.trans rfl) cur hh
theorem qve{base:Nat}(hb:base<=w.heap.size):(w.alloc (.cells #[] E)).ownsRow base E size (.slice (some ⟨w.heap.size,0,none⟩) 0 0) 0 []:=
 World.ownsRow_made w #[] 0 hb (by unfold maxLen;omega) (by simp)
theorem qii:(Ay.info? 3).map (λi=>(i.zero,i.size,i.bytes))=some (some (.int .i64 0),1,8):=by kernel_rfl
def qf(w:Aj)(base:Nat)(v:Am)(l:List Int):Prop:=w.ownsRow base 3 1 v l.length (l.map (.int .i64))
section
variable {w w':Aj}{base:Nat}{v:Am}{l:List Int}
theorem qf.grown(h:qf w base v l)(hg:w.grownBy w' row)(hr:qg w 3 row):qf w' base v l:=qcb h hg hr
theorem qf.new(h:qf w base v l)(hg:w.grownBy w' none):qf w' base v l:=qcb h hg (qg.none _ _)
theorem qf.alloc(h:qf w base v l)(o:Obj):qf (w.alloc o) base v l:=h.new (AD w o none)
theorem qf.ri(h:qf w base v l):RI w v l:=TS.jA h
theorem qf.jq(h:qf w base v l)(hE:E≠3):qg w E v.ownBlock:=qg.own h hE
theorem qf.lt(h:qf w base v l):∀g,v.ownBlock=some g->base<=g/\g<w.heap.size:=AH h
theorem qf.empty(w:Aj){base:Nat}(hb:base<=w.heap.size):qf (w.alloc (.cells #[] 3)) base (.slice (some ⟨w.heap.size,0,none⟩) 0 0) []:=qve hb
theorem qf.nil(w:Aj)(base:Nat):qf w base (.slice none 0 0) []:=AF _ _ _ _
theorem qf.form(h:qf w base v l)(hl:0<l.length):∃g cap cur,v=.slice (some ⟨g,0,none⟩) l.length cap/\l.length<=cap/\base<=g/\Blk w g 3 cur/\∀j x,l[j]?=some x->w.cell? ⟨g,j,none⟩=some (.int .i64 x):=by
 rcases h.2 with ⟨rfl,h0⟩|⟨g,cap,cur,rfl,hb,hh,hn,_,_,ht⟩
 . omega
 . refine⟨g,cap,cur,rfl,hn,hb,hh,λj x hx=>?_⟩;have hc:=AI (g:=g) (cap:=cap) h j (by have:=(AN.1 hx).1;omega);rw[hc];simp[hx]
theorem qf.qC(h:qf w base (.slice (some ⟨g,0,none⟩) n cap) l)(hn:n=l.length)(j:Nat)(x:Int):qf (w.setCell ⟨g,j,none⟩ (.int .i64 x)) base (.slice (some ⟨g,0,none⟩) n cap) (l.set j x):=by
 subst hn;have k:=(AG h j (.int .i64 x)).1;unfold qf;rw[AU,map_set];exact k
theorem qf.gb{a:Aj}(h:qf w base v l)(hg:a.grownBy w row)(k:w.grownBy w' v.ownBlock)(hb:a.heap.size<=base):a.grownBy w' row:=
 qa2 hg k (λg e=>.inl (Ck hb (h.lt g e).1))
end
theorem qcm{Q:Exit->Act->Aj->Prop}{u:Int}
   (s x:As) (hgd:o.guard=none) (ho:o.op=.call {callee:=.builtin .append,args:=#[s,x],argTypes:=#[24,24]})
   {base:Nat}   (hown:qf w base v l) (hn:l.length<=1000000000) (hbase:base<=w.heap.size)
   (hs:a.eval s=v) (hx:a.eval x=.slice (some ⟨w.heap.size,0,none⟩) 1 1)
   (h:∀v' w',qf w' base v' (l++[u])->w.grownBy w' v.ownBlock->wpList Ay ops Q rest (a.put o.dst v') w') :
   wpList Ay ops Q (o::rest) a (w.alloc (.cells #[.int .i64 u] 3)):=
 q30 s x 24 (.int .i64 0) 1 8 Az qii rfl (by decide) (by decide) hgd ho hown hn hbase rfl (by simp[oneCell']) hs hx
  λv' w' h1 h2 _=>h v' w' (by unfold qf;simpa using h1) h2
theorem qtu{K:Act->Aj->Prop}{Q:Exit->Act->Aj->Prop}{E:Prop}{u:Int}
   (s x:As) (hgd:o.guard=none) (ho:o.op=.call {callee:=.builtin .append,args:=#[s,x],argTypes:=#[24,24]})
   {base:Nat}   (hown:qf w base v l) (hn:l.length<=1000000000) (hbase:base<=w.heap.size)
   (hs:a.eval s=v) (hx:a.eval x=.slice (some ⟨w.heap.size,0,none⟩) 1 1)
   (h:∀v' w',qf w' base v' (l++[u])->w.grownBy w' v.ownBlock->K (a.put o.dst v') w') :
   if Region.wanted o (yielded ops a.tmps)=true then Oper.wp Ay o a (w.alloc (.cells #[.int .i64 u] 3)) K Q else E:=by
 have hw:Region.wanted o (yielded ops a.tmps)=true:=by simp[Region.wanted,hgd]
 rw[if_pos hw];obtain⟨i,hi,hz0,hz1,hz2⟩:=Ax qii;refine wp_append_own _ s x 24 ho base 3 i _ 1 8 Az hi hz0 hz1 hz2 rfl (by decide) v l.length _ hs (AJ hown _) ⟨w.heap.size,0,none⟩ 1 1 [.int .i64 u] hx rfl ?_ ?_ ?_ ?_ ?_ ?_
 . intro j u' hj
   match j,hj with
   |0,hj=>simp at hj;subst hj;simp[Addr.add]
 . intro u' hu;simp at hu;subst hu;rfl
 . unfold maxLen;omega
 . omega
 . simp;omega
 . intro v' w' ho' hg _;exact h v' w' (by unfold qf;simpa using ho') ⟨hg.os,hg.tape,hg.output,Ck (by simp) hg.size,λk hk hne=>(hg.block k (by simp;omega) hne).trans (AA w _ k hk)⟩
theorem RI.empty(h:RI w v [])(w':Aj):RI w' v []:=by
 obtain⟨h0,A,c,h1,h2,h3,h4,_⟩:=h;exact⟨h0,A,c,h1,h2,h3,h4,.inl rfl⟩
theorem qcn{f:FuncId}{args:Array Am}
   (h:Calls P f args (w.drewN n) λe w'=>e=.returned v/\w.drewN n=w'):Calls P f args (w.drewN n) λe w''=>e=.returned v/\∃m,w''=w.drewN m:=
 h.mono λ_ _ ⟨he,hm⟩=>⟨he,n,hm.symm⟩
theorem qft{α:Type}(p:α->Bool){l:List α}{x:α}(h:l[k]?=some x):(l.take (k+1)).all p=((l.take k).all p&&p x):=by
 obtain⟨hk,rfl⟩:=AN.1 h;rw[AQ hk,all_append];simp
theorem qh8{base:Nat}{t ty:Ap}{z:Am}{bytes:Nat}(ht:P.underlying t=some (.slice E))(yJ:(P.info? E).map (λi=>(i.zero,i.size,i.bytes))=some (some z,size,bytes))
   (hzs:z.cells.size=size) (hsz:0<size)    (hown:w.ownsRow base E size v n xs) {ad:Addr}  {news:List Am} (hl:news.length=1*size)
   (hnews:∀j u,news[j]?=some u->w.cell? (ad.add j)=some u) (h1:∀u∈news,u.oneCell'=true) (h63:n+1<=maxLen) (hbytes:(n+1)*bytes<=140737488355328) (hbase:base<=w.heap.size) :
   ∃v' w',(Builtin.append_ #[t,t] ty #[v,.slice (some ad) 1 c]).run P w=.ok v' w'/\w'.ownsRow base E size v' (n+1) (xs++news)/\w.grownBy w' v.ownBlock/\(v'.ownBlock=v.ownBlock∨v'.ownBlock=some w.heap.size):=by
 obtain⟨i,hi,hz0,hz1,hz2⟩:=Ax yJ;obtain⟨v',w',hr,h2,h3,_⟩:=run_append_own (P:=P) w base t ty E i z size bytes ht hi hz0 hz1 hz2 hzs hsz v n xs hown ad 1 c news hl hnews h1 h63 hbytes hbase;refine⟨v',w',hr,h2,h3,?_⟩;have h63':n+1<=9223372036854775807:=by unfold maxLen at h63;omega
 rcases hown.2 with ⟨rfl,rfl⟩|⟨g,cap,cur,rfl,hb,hg,hn,hcm,hcs,htk⟩
 . right;have hr2:=run_append_nil (P:=P) w t ty E i z ht hi hz0 ad 1 c news (by rw[hz1];exact hl) hnews (by omega) (by omega) (by rw[hz2];omega);rw[hr]at hr2;injection hr2 with hv _;rw[hv];rfl
 . by_cases hroom:n+1<=cap
   . left;obtain⟨w2,hr2,_⟩:=run_append_fits (P:=P) w base t ty E i size ht hi hz1 g n cap xs hown ad 1 c news hl hnews h1 hroom;rw[hr]at hr2;injection hr2 with hv _;rw[hv];rfl
   . right
     have hr2:=run_append_grow (P:=P) w t ty E i z ht hi hz0 ⟨g,0,none⟩ n cap xs (by rw[hz1];exact hown.1) (hown.cells (g:=g) rfl) ad 1 c news (by rw[hz1];exact hl) hnews (by omega) (by omega)
      (growslice_fits (by omega) (by rw[hz2];exact hbytes))
     rw[hr]at hr2;injection hr2 with hv _;rw[hv];rfl
theorem qfu{Q:Exit->Act->Aj->Prop}{cs:Array Am}
   (s x:As) (t:Ap) (z:Am) (size bytes:Nat) (ht:P.underlying t=some (.slice E)) (yJ:(P.info? E).map (λi=>(i.zero,i.size,i.bytes))=some (some z,size,bytes))
   (hzs:z.cells.size=size) (hsz:0<size) (hby:bytes<=128) (hgd:o.guard=none)
   (ho:o.op=.call {callee:=.builtin .append,args:=#[s,x],argTypes:=#[t,t]})
   {base:Nat}    (hown:w.ownsRow base E size v n xs) (hn:n<=1000000000) (hbase:base<=w.heap.size)
   (hcs:cs.size=size) (h1:∀u∈cs.toList,u.oneCell'=true) (hs:a.eval s=v) (hx:a.eval x=.slice (some ⟨w.heap.size,0,none⟩) 1 1)
   (h:∀v' w',w'.ownsRow base E size v' (n+1) (xs++cs.toList)->w.grownBy w' v.ownBlock->(v'.ownBlock=v.ownBlock∨v'.ownBlock=some (w.heap.size+1))->wpList P ops Q rest (a.put o.dst v') w') :
   wpList P ops Q (o::rest) a (w.alloc (.cells cs E)):=by
 have hnews:∀j u,cs.toList[j]?=some u->(w.alloc (.cells cs E)).cell? ((⟨w.heap.size,0,none⟩:Addr).add j)=some u:=by
  intro j u hj;have hadd:(⟨w.heap.size,0,none⟩:Addr).add j=⟨w.heap.size,j,none⟩:=by unfold Addr.add;split<;>simp_all
  rw[hadd,AE];simpa using hj
 obtain⟨v',w',hr,h2,h3,h4⟩:=qh8 (P:=P) (t:=t) (ty:=o.type) (c:=1) ht yJ hzs hsz (hown.alloc (.cells cs E)) (news:=cs.toList) (by simpa using hcs) hnews h1 (by unfold maxLen;omega)
  (by calc (n + 1) * bytes <= (n + 1) * 128 := Cn _ hby
        _<=140737488355328:=by omega) (by simp;omega)
 refine wpList_plain hgd λK hK=>?_;unfold Oper.wp execOp;simp only[ho,resolve,invoke,builtin,Sem.run_bind,Sem.run_pure,Result.andThen_ok,map_toArray,map_cons,map_nil,hs,hx,hr];refine hK _ _ (h v' w' h2 ?_ (by simpa using h4));exact⟨h3.os,h3.tape,h3.output,Ck (by simp) h3.size,λk hk hne=>(h3.block k (by simp;omega) hne).trans (AA w _ k hk)⟩
theorem qmj{α:Type}{l:List α}{x:α}(h:l[k]?=some x):l.zipIdx[k]?=some (x,k):=by simp[h]
def NV(w:Aj)(v:Am)(nd:Node):Prop:=∃f r,v=.agg #[.int .i64 nd.kind,f,r]/\RI w f nd.frm/\RI w r nd.row
def NC(w:Aj)(xs:List Am)(i:Nat)(nd:Node):Prop:=
 ∃f r,xs[i*3]?=some (.int .i64 nd.kind)/\xs[i*3+1]?=some f/\xs[i*3+2]?=some r/\RI w f nd.frm/\RI w r nd.row
def RN(w:Aj)(v:Am)(qa:List Node):Prop:=∃xs,TS w 81 3 v qa.length xs/\∀i nd,qa[i]?=some nd->NC w xs i nd
theorem RI.nil(w:Aj):RI w (.slice none 0 0) []:=TS.nil _ _ _
def xj(w:Aj)(base:Nat)(v:Am)(qa:List Node):Prop:=∃xs,w.ownsRow base 81 3 v qa.length xs/\∀i nd,qa[i]?=some nd->NC w xs i nd
section
variable {w w':Aj}{v:Am}{nd:Node}{qa:List Node}{base:Nat}{xs:List Am}{row:Option Nat}
theorem RI.grown(h:RI w v l)(hg:w.grownBy w' row)(hr:qg w 3 row):RI w' v l:=TS.grown h hg hr
theorem RI.zG(h:RI w v l):v.oneCell'=true:=by
 obtain⟨A,n,c,rfl,_⟩:=h.form';rfl
theorem RI.new(h:RI w v l)(hg:w.grownBy w' none):RI w' v l:=TS.new h hg
theorem RI.alloc(h:RI w v l)(o:Obj):RI (w.alloc o) v l:=h.new (AD w o none)
theorem NC.grown(h:NC w xs i nd)(hg:w.grownBy w' row)(hr:qg w 3 row):NC w' xs i nd:=
 let ⟨f,r,h1,h2,h3,h4,h5⟩:=h;⟨f,r,h1,h2,h3,h4.grown hg hr,h5.grown hg hr⟩
theorem RN.grown(h:RN w v qa)(hg:w.grownBy w' row)(hr:qg w 3 row)(hr':qg w 81 row):RN w' v qa:=
 let ⟨xs,h1,h2⟩:=h;⟨xs,h1.grown hg hr',λi nd hi=>(h2 i nd hi).grown hg hr⟩
theorem RN.new(h:RN w v qa)(hg:w.grownBy w' none):RN w' v qa:=h.grown hg (qg.none _ _) (qg.none _ _)
theorem RN.alloc(h:RN w v qa)(o:Obj):RN (w.alloc o) v qa:=h.new (AD w o none)
theorem xj.grown(h:xj w base v qa)(hg:w.grownBy w' row)(hr:qg w 3 row)(hr':qg w 81 row):xj w' base v qa:=
 let ⟨xs,h1,h2⟩:=h;⟨xs,qcb h1 hg hr',λi nd hi=>(h2 i nd hi).grown hg hr⟩
theorem xj.rn(h:xj w base v qa):RN w v qa:=let ⟨xs,h1,h2⟩:=h;⟨xs,TS.jA h1,h2⟩
theorem RN.len(h:RN w (.slice A n c) qa):n=qa.length:=by
 obtain⟨xs,h,_⟩:=h;obtain⟨A',c',h1,_⟩:=h.form;injection h1
theorem RN.form'(h:RN w v qa):∃A n c,v=.slice A n c/\n<=c/\n=qa.length/\n<=9223372036854775807:=by
 obtain⟨xs,h,_⟩:=h;have:=h.le;obtain⟨A,c,h1,h2,_⟩:=h.form;exact⟨A,_,c,h1,h2,rfl,this⟩
theorem RN.val(h:RN w v qa):∃A n c,v=.slice A n c:=by
 obtain⟨A,n,c,h1,_⟩:=h.form';exact⟨A,n,c,h1⟩
theorem RN.at_(h:RN w (.slice A n c) qa)(hk:k<n) :
   ∃g o nd f r,A=some ⟨g,o,none⟩/\qa[k]?=some nd/\w.cell? ⟨g,o+k*3,none⟩=some (.int .i64 nd.kind)/\w.cell? ⟨g,o+k*3+1,none⟩=some f/\w.cell? ⟨g,o+k*3+2,none⟩=some r/\RI w f nd.frm/\RI w r nd.row:=by
 have hn:=h.len;subst hn;obtain⟨xs,h1,h2⟩:=h;obtain⟨g,o,cur,rfl,_,hc⟩:=TS.at_ h1 (by omega);obtain⟨f,r,k1,k2,k3,k4,k5⟩:=h2 k _ (AO hk);exact⟨g,o,qa[k],f,r,rfl,AO hk,hc _ _ k1,hc _ _ k2,hc _ _ k3,k4,k5⟩
end
theorem q35:(Ay.info? 81).map (λi=>(i.zero,i.size,i.bytes))=some (some (.agg #[.int .i64 0,.slice none 0 0,.slice none 0 0]),3,56):=by kernel_rfl
theorem xj.form{base:Nat}{qa:List Node}(h:xj w base v qa)(hn:qa.length=n)(h0:0<n) :
   ∃g cap cur,v=.slice (some ⟨g,0,none⟩) n cap/\n<=cap/\base<=g/\Blk w g 81 cur/\∀j,j<n*3->∃u,w.cell? ⟨g,j,none⟩=some u:=by
 subst hn;obtain⟨xs,h1,_⟩:=h;rcases h1.2 with ⟨rfl,hz⟩|⟨g,cap,cur,rfl,hb,hh,hn,_,hcs,ht⟩
 . omega
 . refine⟨g,cap,cur,rfl,hn,hb,hh,λj hj=>?_⟩;rw[At w g j cur _ _ hh];exact⟨_,Array.getElem?_eq_getElem (by rw[hcs];omega)⟩
def RL(w:Aj)(v:Am)(ll:List (List Int)):Prop:=∃xs,TS w 24 1 v ll.length xs/\∀(i:Nat) (l:List Int),ll[i]?=some l->∃u,xs[i]?=some u/\RI w u l
def qM(w:Aj)(base:Nat)(v:Am)(ll:List (List Int)):Prop:=∃xs,w.ownsRow base 24 1 v ll.length xs/\∀(i:Nat) (l:List Int),ll[i]?=some l->∃u,xs[i]?=some u/\RI w u l
section
variable {w w':Aj}{v:Am}{ll:List (List Int)}{base:Nat}{row:Option Nat}
theorem RL.grown(h:RL w v ll)(hg:w.grownBy w' row)(hr:qg w 3 row)(hr':qg w 24 row):RL w' v ll:=by
 obtain⟨xs,h1,h2⟩:=h;refine⟨xs,h1.grown hg hr',λi l hi=>?_⟩;obtain⟨u,k1,k2⟩:=h2 i l hi;exact⟨u,k1,k2.grown hg hr⟩
theorem RL.new(h:RL w v ll)(hg:w.grownBy w' none):RL w' v ll:=h.grown hg (qg.none _ _) (qg.none _ _)
theorem qM.grown(h:qM w base v ll)(hg:w.grownBy w' row)(hr:qg w 3 row)(hr':qg w 24 row):qM w' base v ll:=by
 obtain⟨xs,h1,h2⟩:=h;refine⟨xs,qcb h1 hg hr',λi l hi=>?_⟩;obtain⟨u,k1,k2⟩:=h2 i l hi;exact⟨u,k1,k2.grown hg hr⟩
theorem qM.new(h:qM w base v ll)(hg:w.grownBy w' none):qM w' base v ll:=h.grown hg (qg.none _ _) (qg.none _ _)
theorem qM.rl(h:qM w base v ll):RL w v ll:=let ⟨xs,h1,h2⟩:=h;⟨xs,TS.jA h1,h2⟩
theorem qM.lt(h:qM w base v ll):∀g,v.ownBlock=some g->base<=g/\g<w.heap.size:=let ⟨_,h1,_⟩:=h;AH h1
theorem qM.jq(h:qM w base v ll)(hE:E≠24):qg w E v.ownBlock:=let ⟨_,h1,_⟩:=h;qg.own h1 hE
theorem qM.gb{a:Aj}(h:qM w base v ll)(hg:a.grownBy w row)(k:w.grownBy w' v.ownBlock)(hb:a.heap.size<=base):a.grownBy w' row:=
 qa2 hg k (λg e=>.inl (Ck hb (h.lt g e).1))
theorem qM.empty(w:Aj){base:Nat}(hb:base<=w.heap.size):qM (w.alloc (.cells #[] 24)) base (.slice (some ⟨w.heap.size,0,none⟩) 0 0) []:=⟨[],qve hb,λi nd h=>by simp at h⟩
theorem qM.nil(w:Aj)(base:Nat):qM w base (.slice none 0 0) []:=⟨[],AF _ _ _ _,λi nd h=>by simp at h⟩
theorem RL.nil(w:Aj):RL w (.slice none 0 0) []:=⟨[],TS.nil _ _ _,λi nd h=>by simp at h⟩
theorem RL.len(h:RL w (.slice A n c) ll):n=ll.length:=by
 obtain⟨xs,h,_⟩:=h;obtain⟨A',c',h1,_⟩:=h.form;injection h1
theorem RL.form'(h:RL w v ll):∃A n c,v=.slice A n c/\n<=c/\n=ll.length/\n<=9223372036854775807:=by
 obtain⟨xs,h,_⟩:=h;have:=h.le;obtain⟨A,c,h1,h2,_⟩:=h.form;exact⟨A,_,c,h1,h2,rfl,this⟩
theorem RL.val(h:RL w v ll):∃A n c,v=.slice A n c:=by
 obtain⟨A,n,c,h1,_⟩:=h.form';exact⟨A,n,c,h1⟩
theorem RL.at_(h:RL w (.slice A n c) ll)(hk:k<n) :
   ∃g o l B m e,A=some ⟨g,o,none⟩/\ll[k]?=some l/\w.cell? ⟨g,o+k,none⟩=some (.slice B m e)/\RI w (.slice B m e) l/\m=l.length/\m<=e/\m<=9223372036854775807:=by
 have hn:=h.len;subst hn;obtain⟨xs,h1,h2⟩:=h;obtain⟨g,o,cur,rfl,_,hc⟩:=TS.at_ h1 (by omega);obtain⟨u,k1,k2⟩:=h2 k _ (AO hk);have hle:=k2.le;obtain⟨B,m,e,rfl,h3,h4⟩:=k2.form';exact⟨g,o,ll[k],B,m,e,rfl,AO hk,hc _ _ k1,k2,h4,h3,by omega⟩
end
theorem qnk:(Ay.info? 24).map (λi=>(i.zero,i.size,i.bytes))=some (some (.slice none 0 0),1,24):=by kernel_rfl
theorem qip{Q:Exit->Act->Aj->Prop}{f:Am}
   (s x:As) (hgd:o.guard=none) (ho:o.op=.call {callee:=.builtin .append,args:=#[s,x],argTypes:=#[27,27]})
   {base:Nat}   (hown:qM w base v ll) (hf:RI w f l) (hn:ll.length<=1000000000) (hbase:base<=w.heap.size)
   (hs:a.eval s=v) (hx:a.eval x=.slice (some ⟨w.heap.size,0,none⟩) 1 1)
   (h:∀v' w',qM w' base v' (ll++[l])->w.grownBy w' v.ownBlock->wpList Ay ops Q rest (a.put o.dst v') w') :
   wpList Ay ops Q (o::rest) a (w.alloc (.cells #[f] 24)):=by
 obtain⟨xs,ho1,ho2⟩:=hown;refine q30 s x 27 _ 1 24 Tryz.underlying27 qnk rfl (by decide) (by decide) hgd ho ho1 hn hbase rfl ?_ hs hx ?_
 . intro u hu;simp only[AZ,not_mem_nil,or_false]at hu;subst hu;exact hf.zG
 intro v' w' h1 h2 _;refine h v' w' ⟨_,by simpa using h1,?_⟩ h2;intro i l' hi;have hne:qg w 3 v.ownBlock:=qg.own ho1 (by decide);have hxl:xs.length=ll.length:=by have:=ho1.1;omega
 by_cases hl:i<ll.length
 . rw[AY hl]at hi;obtain⟨u,k1,k2⟩:=ho2 i l' hi;exact⟨u,by rw[AY (by omega)];exact k1,k2.grown h2 hne⟩
 . rw[AW (by omega)]at hi
   have h0:i-ll.length=0:=by
    rcases Nat.eq_zero_or_pos (i-ll.length)with h|h
    . exact h
    . rw[AR (by simp;omega)]at hi;cases hi
   rw[h0]at hi;obtain rfl:l=l':=by simpa using hi
   exact⟨f,by rw[AW (by omega),show i-xs.length=0 by omega];rfl,hf.grown h2 hne⟩
theorem qM.form{base:Nat}(h:qM w base v ll)(hn:ll.length=n)(h0:0<n) :
   ∃g cap cur,v=.slice (some ⟨g,0,none⟩) n cap/\n<=cap/\base<=g/\Blk w g 24 cur/\∀j,j<n->∃u,w.cell? ⟨g,j,none⟩=some u:=by
 subst hn;obtain⟨xs,h1,_⟩:=h;rcases h1.2 with ⟨rfl,hz⟩|⟨g,cap,cur,rfl,hb,hh,hn,_,hcs,ht⟩
 . omega
 . refine⟨g,cap,cur,rfl,hn,hb,hh,λj hj=>?_⟩;rw[At w g j cur _ _ hh];exact⟨_,Array.getElem?_eq_getElem (by rw[hcs];omega)⟩
theorem qM.qC{base:Nat}{f:Am}(h:qM w base (.slice (some ⟨g,0,none⟩) n cap) ll)(hn:ll.length=n)(hk:k<n)(hf:RI w f l) :
   qM (w.setCell ⟨g,k,none⟩ f) base (.slice (some ⟨g,0,none⟩) n cap) (ll.set k l):=by
 subst hn;obtain⟨xs,h1,h2⟩:=h;have s1:=AG h1 k f;have hne:qg w 3 (some g):=qg.own (v:=.slice (some ⟨g,0,none⟩) ll.length cap) h1 (by decide);have hxl:xs.length=ll.length:=by have:=h1.1;omega
 refine⟨_,by rw[AU];exact s1.1,λi x hi=>?_⟩;by_cases hik:i=k
 . subst hik;rw[Bj hk]at hi;obtain rfl:l=x:=by simpa using hi
   exact⟨f,by rw[Bj (by omega)],hf.grown s1.2 hne⟩
 . rw[Bs (λe=>hik e.symm)]at hi;obtain⟨u,k1,k2⟩:=h2 i x hi;exact⟨u,by rw[Bs (λe=>hik e.symm)];exact k1,k2.grown s1.2 hne⟩
theorem qM.made{base:Nat}(h:w.ownsRow base 24 1 v n (madeCells (slice none 0 0).cells n).toList):qM w base v (replicate n []):=by
 refine⟨_,by rw[length_replicate];exact h,λi l hi=>?_⟩
 obtain⟨hin,rfl⟩:i<n/\l=[]:=by
  rw[BM]at hi;split at hi
  . exact⟨by assumption,by injection hi with e;exact e.symm⟩
  . cases hi
 have hc:(slice none 0 0).cells=#[.slice none 0 0]:=rfl;rw[hc];exact⟨.slice none 0 0,by simp[madeCells,hin,Nat.mod_one],RI.nil _⟩
def QS(w:Aj)(base:Nat)(E:Ap)(v:Am)(xs:List Am):Prop:=
 ∃A c,v=.slice A xs.length c/\xs.length<=c/\c<=maxLen/\(∀u∈xs,u.oneCell'=true) /\
  ((A=none/\c=0)∨∃g o cur,A=some ⟨g,o,none⟩/\base<=g/\Blk w g E cur/\o+c<=cur.size/\∀j u,xs[j]?=some u->cur[o+j]?=some u)
section
variable {w w':Aj}{base:Nat}{E:Ap}{v:Am}{xs:List Am}
theorem QS.nil(w:Aj)(base:Nat)(E:Ap):QS w base E (.slice none 0 0) []:=⟨none,0,rfl,by simp,by simp,by simp,.inl ⟨rfl,rfl⟩⟩
theorem QS.ts(h:QS w base E v xs):TS w E 1 v xs.length xs:=by
 obtain⟨A,c,h1,h2,h3,_,h5⟩:=h;rcases h5 with ⟨h4,h5⟩|⟨g,o,cur,k1,k2,k3,k4,k5⟩
 . exact⟨by simp,A,c,h1,h2,h3,λ_=>h5,by left;omega⟩
 . subst k1;exact⟨by simp,_,c,h1,h2,h3,by simp,.inr ⟨g,o,cur,rfl,k3,k5⟩⟩
theorem QS.lt(h:QS w base E v xs):∀g,v.ownBlock=some g->base<=g/\g<w.heap.size:=by
 obtain⟨A,c,rfl,h2,h3,_,h5⟩:=h;intro g' hg';rcases h5 with ⟨rfl,h5⟩|⟨g,o,cur,rfl,k2,k3,k4,k5⟩
 . cases hg'
 . cases hg';exact⟨k2,k3.lt⟩
theorem QS.grown(h:QS w base E v xs)(hg:w.grownBy w' row)(hr:qg w E row):QS w' base E v xs:=by
 obtain⟨A,c,h1,h2,h3,h6,h5⟩:=h;refine⟨A,c,h1,h2,h3,h6,?_⟩;rcases h5 with h5|⟨g,o,cur,k1,k2,k3,k4,k5⟩
 . exact .inl h5
 . exact .inr ⟨g,o,cur,k1,k2,k3.grown hg (λe=>hr g e.symm cur k3),k4,k5⟩
theorem QS.new(h:QS w base E v xs)(hg:w.grownBy w' none):QS w' base E v xs:=h.grown hg (qg.none _ _)
theorem QS.apart(h:QS w base E v xs)(hg:w.grownBy w' row)(hr:v.ownBlock=none∨v.ownBlock≠row):QS w' base E v xs:=by
 obtain⟨A,c,h1,h2,h3,h6,h5⟩:=h;refine⟨A,c,h1,h2,h3,h6,?_⟩;rcases h5 with h5|⟨g,o,cur,k1,k2,k3,k4,k5⟩
 . exact .inl h5
 . subst h1 k1;refine .inr ⟨g,o,cur,rfl,k2,k3.grown hg (λe=>?_),k4,k5⟩;rcases hr with hr|hr
   . cases hr
   . exact hr e
theorem QS.tail{x:Am}(h:QS w base E (.slice A n c) (x::xs)) :
   ∃g o,A=some ⟨g,o,none⟩/\n=xs.length+1/\1<=c/\QS w base E (.slice (some ⟨g,o+1,none⟩) (n-1) (c-1)) xs/\(c=1->QS w base E (.slice (some ⟨g,o,none⟩) (n-1) (c-1)) xs):=by
 obtain⟨A',c',h1,h2,h3,h6,h5⟩:=h;injection h1 with e1 e2 e3;subst e1 e3;rw[BF]at h2 e2;rcases h5 with ⟨h4,h5⟩|⟨g,o,cur,k1,k2,k3,k4,k5⟩
 . omega
 . have e:n-1=xs.length:=by omega
   rw[e];refine⟨g,o,k1,e2,by omega,⟨_,_,rfl,by omega,by omega,λu hu=>h6 u (by simp[hu]),?_⟩,λhc=>⟨_,_,rfl,by omega,by omega,λu hu=>h6 u (by simp[hu]),?_⟩⟩
   . refine .inr ⟨g,o+1,cur,rfl,k2,k3,by omega,λj u hu=>?_⟩;have:=k5 (j+1) u (by simpa using hu);rw[show o+1+j=o+(j+1) by omega];exact this
   . refine .inr ⟨g,o,cur,rfl,k2,k3,by omega,λj u hu=>?_⟩;have:=(AN.1 hu).1;omega
theorem QS.init{x:Am}(h:QS w base E (.slice A n c) (xs++[x])):n=xs.length+1/\n<=c/\QS w base E (.slice A xs.length c) xs:=by
 obtain⟨A',c',h1,h2,h3,h6,h5⟩:=h;injection h1 with e1 e2 e3;subst e1 e3;rw[Be,length_singleton]at h2 e2;refine⟨e2,by omega,_,_,rfl,by omega,h3,λu hu=>h6 u (by simp[hu]),?_⟩;rcases h5 with h5|⟨g,o,cur,k1,k2,k3,k4,k5⟩
 . exact .inl h5
 . exact .inr ⟨g,o,cur,k1,k2,k3,k4,λj u hu=>k5 j u ((AY (AN.1 hu).1).trans hu)⟩
theorem QS.jA(h:w.ownsRow base E 1 v n xs)(h1:∀u∈xs,u.oneCell'=true):QS w base E v xs:=by
 have hn:n=xs.length:=by have:=h.1;omega
 subst hn;rcases h.2 with ⟨rfl,h0⟩|⟨g,cap,cur,rfl,hb,hg,hn,hm,hcs,ht⟩
 . have:xs=[]:=Bn h0;subst this;exact QS.nil _ _ _
 . refine⟨_,cap,rfl,hn,hm,h1,.inr ⟨g,0,cur,rfl,hb,hg,by omega,λj u hu=>?_⟩⟩;rw[<-ht,By]at hu;split at hu
   . simpa using hu
   . cases hu
end
theorem qf.low{a:Nat}(h:qf w a v l)(hab:b<=a):qf w b v l:=by
 refine⟨h.1,?_⟩;rcases h.2 with h0|⟨g,cap,cur,h1,h2,h3⟩
 . exact .inl h0
 . exact .inr ⟨g,cap,cur,h1,Ck hab h2,h3⟩
theorem qf.qs{base:Nat}(h:qf w base v l):QS w base 3 v (l.map (.int .i64)):=QS.jA h (λu hu=>by
 obtain⟨x,_,rfl⟩:=BO.1 hu;rfl)
theorem QS.ri{base:Nat}(h:QS w base 3 v (l.map (.int .i64))):RI w v l:=by
 have:=h.ts;rw[Bg]at this;exact this
end
section
theorem q3v(S:List Int)(x:Int)(j:Nat)(h1:∀y∈S.take j,¬x<y)(h2:∀y∈S.drop j,x<y):putRow S x=S.take j++x::S.drop j:=by
 induction S generalizing j with
 |nil=>simp[putRow]
 |cons y ys ih=>
  match j with
  |0=>
   have:=h2 y (by simp);unfold putRow;rw[if_pos this];rfl
  |j+1=>
   have:=h1 y (by simp);unfold putRow;rw[if_neg this,ih j (λz hz=>h1 z (by simp[hz])) (λz hz=>h2 z (by simpa using hz))];rfl
def qih(l:List Int)(i j:Nat)(x:Int):List Int:=(qh (l.take i)).take j++x::((qh (l.take i)).drop j++l.drop (i+1))
def qkv(l:List Int)(i:Nat):List Int:=qh (l.take i)++l.drop i
theorem qvc(l:List Int)(x:Int):qh (l++[x])=putRow (qh l) x:=by
 unfold qh;rw[Bp];rfl
theorem q3w(hi:i<l.length)(hj:j<=i):(qih l i j x).length=l.length:=by
 unfold qih;rw[Be,BF,Be,AT,C9,C9,qdx,AT];omega
theorem q1d(l:List Int):qkv l 1=l:=by
 cases l with
 |nil=>rfl
 |cons x xs=>simp[qkv,qh,putRow]
theorem q1e(l:List Int)(h:l.length<=i):qkv l i=qh l:=by
 unfold qkv;rw[AX h,BP h,BN]
theorem qx4(h:l[i]?=some x):qkv l i=qih l i i x:=by
 obtain⟨hi,rfl⟩:=AN.1 h;have hl:(qh (l.take i)).length=i:=by rw[qdx,AT];omega
 unfold qkv qih;rw[AX (l:=qh (l.take i)) (by omega),BP (l:=qh (l.take i)) (by omega),nil_append,Bt hi]
theorem q3x(hi:i<l.length)(hj:j<=i):(qih l i j x)[j]?=some x:=by
 have hl:(qh (l.take i)).length=i:=by rw[qdx,AT];omega
 unfold qih;rw[AW (by rw[AT];omega),AT,show j-min j (qh (l.take i)).length=0 by omega];rfl
theorem q1f(hi:i<l.length)(hj:j<=i)(h0:0<j):∃y,(qih l i j x)[j-1]?=some y/\(qh (l.take i))[j-1]?=some y:=by
 have hl:(qh (l.take i)).length=i:=by rw[qdx,AT];omega
 refine⟨(qh (l.take i))[j-1],?_,AO (by omega)⟩;unfold qih;rw[AY (by rw[AT];omega),By,if_pos (by omega)];exact AO (by omega)
theorem q6z(P Q:List Int)(y x:Int):((P++y::x::Q).set (P.length+1) y).set P.length x=P++x::y::Q:=by
 rw[BQ _ _ (by omega),show P.length+1-P.length=1 by omega,BQ _ _ (by omega),Cm];rfl
theorem q1g(hi:i<l.length)(hj:j<=i)(h0:0<j)(hy:(qh (l.take i))[j-1]?=some y):((qih l i j x).set j y).set (j-1) x=qih l i (j-1) x:=by
 have hl:(qh (l.take i)).length=i:=by rw[qdx,AT];omega
 obtain⟨k,rfl⟩:∃k,j=k+1:=⟨j-1,by omega⟩;simp only[Nat.add_sub_cancel]at hy |-;obtain⟨hk,hy'⟩:=AN.1 hy
 have e1:qih l i (k+1) x=(qh (l.take i)).take k++y::x::((qh (l.take i)).drop (k+1)++l.drop (i+1)):=by
  unfold qih;rw[AQ hk,hy',AV];rfl
 have e2:qih l i k x=(qh (l.take i)).take k++x::y::((qh (l.take i)).drop (k+1)++l.drop (i+1)):=by
  unfold qih;rw[Bt hk,hy'];rfl
 rw[e1,e2];have:=q6z ((qh (l.take i)).take k) ((qh (l.take i)).drop (k+1)++l.drop (i+1)) y x;rw[AT,show min k (qh (l.take i)).length=k by omega]at this;exact this
theorem qvd(h:l[i]?=some x)(hj:j<=i)(h1:j=0∨∃y,(qh (l.take i))[j-1]?=some y/\¬x<y)(h2:∀y∈(qh (l.take i)).drop j,x<y):qih l i j x=qkv l (i+1):=by
 obtain⟨hi,hx⟩:=AN.1 h;have hl:(qh (l.take i)).length=i:=by rw[qdx,AT];omega
 have hs:=qjv (l.take i)
 have h3:∀y∈(qh (l.take i)).take j,¬x<y:=by
  intro y hy;rcases h1 with rfl|⟨z,hz,hzx⟩
  . simp at hy
  . obtain⟨a,ha,rfl⟩:=Bf.1 hy;obtain⟨hk,rfl⟩:=AN.1 hz;by_cases e:a=j-1
    . subst e;exact hzx
    . have:=pairwise_iff_getElem.1 hs a (j-1) (by omega) hk (by omega);omega
 unfold qih qkv;rw[AQ hi,hx,qvc,q3v _ _ j h3 h2,AV];rfl
theorem q3y{S:List Int}(h0:0<j)(hy:S[j-1]?=some y)(hx:x<y)(h:∀z∈S.drop j,x<z):∀z∈S.drop (j-1),x<z:=by
 obtain⟨hk,rfl⟩:=AN.1 hy;intro z hz;rw[Bt hk,show j-1+1=j by omega]at hz;rcases AZ.1 hz with rfl|hz
 . exact hx
 . exact h z hz
def zm(l m:List Int)(k:Nat):Prop:=m.length=l.length/\∀i,i<l.length->m[i]?=if i<k∨l.length-k<=i then l[l.length-1-i]? else l[i]?
theorem zm.zero(l:List Int):zm l l 0:=⟨rfl,λi hi=>by rw[if_neg (by omega)]⟩
theorem zm.step{m:List Int}(h:zm l m k)(hk:k<l.length-1-k)(hx:m[k]?=some x)(hy:m[l.length-1-k]?=some y):zm l ((m.set k y).set (l.length-1-k) x) (k+1):=by
 obtain⟨h1,h2⟩:=h;have ex:=h2 k (by omega);have ey:=h2 (l.length-1-k) (by omega);rw[if_neg (by omega),hx]at ex;rw[if_neg (by omega),hy]at ey;refine⟨by simp[h1],λi hi=>?_⟩;rw[C6,AU,C6];by_cases e1:l.length-1-k=i
 . rw[if_pos e1,if_pos (by omega),if_pos (by omega),<-e1,show l.length-1-(l.length-1-k)=k by omega];exact ex
 . rw[if_neg e1];by_cases e2:k=i
   . subst e2;rw[if_pos rfl,if_pos (by omega),if_pos (by omega)];exact ey
   . rw[if_neg e2,h2 i hi];by_cases e3:i<k∨l.length-k<=i
     . rw[if_pos e3,if_pos (by omega)]
     . rw[if_neg e3,if_neg (by omega)]
theorem zm.done{m:List Int}(h:zm l m k)(hk:l.length-1-k<=k):m=l.reverse:=by
 obtain⟨h1,h2⟩:=h;apply Bb;intro i;by_cases hi:i<l.length
 . rw[h2 i hi,getElem?_reverse hi];split
   . rfl
   . rename_i hn;congr 1;omega
 . rw[AR (by omega),AR (by simp;omega)]
end
end Go.Proofs.YtacemdoejblgaaaGreatDoor

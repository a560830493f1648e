/- Part M01. Conditions: each statement's. -/
import Derived.Test.YtacemdoejblgaaaGreatDoorProg
import Derived.WalkKit
import Derived.WalkSpells
import Derived.WalkLawsBesides
import Derived.Lib.Hide
import Derived.Deep.QuietTactic
import Derived.BigQuiet
import Derived.Laws.CopyRow
import Derived.Laws.AppendOwn
namespace Go.Proofs.YtacemdoejblgaaaGreatDoor
open Bool renaming and_eq_true→Ab,not_eq_true'→Ah,and_self→Ai,eq_iff_iff→Aj
open Go renaming World→Am,Value→Ap,TypeId→As,Operand→At,cell_of_row→Ax,info_parts→Ay
open Tryz renaming prog→Az,underlying24→AA
open RowKit.Below renaming heap_alloc→AB,heap_setCell→AD
open World renaming grownBy_alloc→AE,cell?_alloc_new→AF,ownsRow_nil→AG
open World.ownsRow renaming stored→AH,lt→AI,cellAt→AJ,alloc→AK
open Int renaming eq_ofNat_of_zero_le→AL,toNat_natCast→AM,natCast_nonneg→AN
open List renaming getElem?_eq_some_iff→AO,getElem?_eq_getElem→AP,getD_eq_getElem?_getD→AQ,take_succ_eq_append_getElem→AR,getElem?_eq_none→AS,all_eq_true→AT,length_take→AU,length_set→AV,mem_range→AW,append_assoc→AX,getElem?_append_right→AY,take_of_length_le→AZ,getElem?_append_left→B9,ext_getElem?→Ba,mem_cons→Bb,getElem?_map→Bc,mem_append→Be,length_append→Bf,mem_take_iff_getElem→Bg,length_erase_of_mem→Bh,length_map→Bi,foldl_cons→Bj,take_length→Bm,getElem?_set_self→Bn,pairwise_cons→Bo,eq_nil_of_length_eq_zero→Bp,nodup_append→Bq,mem_map→Br,foldl_append→Bs,mem_of_getElem?→Bt,getElem?_zipIdx→Bu,getElem?_set_ne→Bv,drop_eq_getElem_cons→By,mem_singleton→Bz,getElem?_take→BA,filter_append→BB,countP_cons_of_pos→BC,countP_cons_of_neg→BE,perm_append_comm→BF,length_filter_le→BG,length_cons→BH,nodup_cons→BI,map_congr_left→BJ,take_append_of_le_length→BK,all_eq_false→BL,nodup_range→BM,range_succ→BN,map_append→BO,getElem?_replicate→BP,append_nil→BQ,drop_of_length_le→BR,set_append_right→BS,nodup_nil→BT,mem_append_right→BU,countP_le_length→BV,countP_eq_length→BW,perm_cons_erase→BX,mem_iff_getElem→BY,mem_erase_of_ne→BZ,mem_cons_of_mem→C0,mem_append_left→C6,getElem?_range→C7,countP_eq_zero→C8,length_zipIdx→C9,getElem?_set→Ca,perm_middle→Cb,length_drop→Cc,getElem_inj→Cd,filter_cons→Ce,countP_cons→Cf
open List.Perm renaming append_left→Cg,refl→Ci,append_right→Cj,cons→Ck,trans→Cl,cons_inv→Cm
open Nat renaming le_trans→Cn,le_refl→Co,sub_self→Cp,mul_le_mul_left→Cq,mod_lt→Cr,lt_of_lt_of_le→Cs,mod_eq_of_lt→Ct,add_mod→Cu
open List Value
set_option maxRecDepth 100000
set_option maxHeartbeats 6400000
variable {a:Act}{p:Addr}{ops:Array Oper}{x y:Int}{L ll rows:List (List Int)}{D cs d frm l r:List Int}{us:List Nat}{rest:List Oper}{xs:List Ap}{b c cap g i j k m n size t u:Nat}{f:Nat->Int}{o:Oper}{A:Option Addr}{row:Option Nat}{P:Program}{E E':As}{v:Ap}{w:Am}
section
structure Node where
 kind:Int
 frm:List Int
 row:List Int
def za(x:Int):Bool:=decide (0<=x)&&decide (x<=1008)
def qak(l:List Int):Bool:=l.all za&&decide (l.length<=6)
def qdr(k:Int):Bool:=decide (0<=k)&&decide (k<=5)
def qas(k:Int):Int:=if k<0∨5<k then -1 else if k=0 then 0 else if k=1∨k=2 then 2 else 1
theorem qv3(k:Int):-1<=qas k/\qas k<=2:=by
 unfold qas
 repeat' split
 all_goals omega
def wide(qa:List Node):Nat:=match qa.find? (λx=>x.kind==0)with
 |some x=>x.row.length
 |none=>0
def qcu(x:Node)(at_:Int)(wd:Nat):Bool:=
 decide (qas x.kind=x.frm.length)&&qak x.row&&x.frm.all (λy=>decide (0<=y)&&decide (y<=at_-1))&&(if x.kind=0 then decide (x.row.length=wd)else decide (x.row.length=0))
def qae(qa:List Node):Bool:=qa.zipIdx.all (λx=>qcu x.1 x.2 (wide qa))&&decide (qa.length<=10)
def qbe(x:Node)(at_:Int):Bool:=
 qdr x.kind&&decide ((x.frm.length:Int)=qas x.kind)&&x.frm.all (λy=>decide (0<=y)&&decide (y<at_))&&(if x.kind=0 then qak x.row else decide (x.row.length=0))
def upd{α:Type}(f:Nat->α)(a:Nat)(x:α):Nat->α:=λb=>if b=a then x else f b
theorem upd_same{α:Type}(f:Nat->α)(a:Nat)(x:α):upd f a x a=x:=by simp[upd]
theorem qaw{α:Type}(f:Nat->α){a:Nat}(x:α)(h:b≠a):upd f a x b=f b:=by simp[upd,h]
def qkm(n f:Nat)(L:Nat->List Nat):Nat->List Nat:=
 if f∈L (2*n+1)then L else upd (upd L (2*n+1) (L (2*n+1)++[f])) (2*f+2) (L (2*f+2)++[n])
def qdv(n:Nat)(frm:List Int)(L:Nat->List Nat):Nat->List Nat:=frm.foldl (λL f=>qkm n f.toNat L) L
def qhf(L:Nat->List Nat)(x:Node×Nat):Nat->List Nat:=upd (qdv x.2 x.1.frm L) 0 (qdv x.2 x.1.frm L 0++[x.2])
def qem(qa:List Node)(k:Nat):Nat->List Nat:=(qa.zipIdx.take k).foldl qhf (λ_=>[])
def qtb(qa:List Node):Nat->List Nat:=qem qa qa.length
theorem q18(n f:Nat)(L:Nat->List Nat):qkm n f L 0=L 0:=by
 unfold qkm;split
 . rfl
 . rw[qaw _ _ (by omega),qaw _ _ (by omega)]
theorem qv4(n:Nat)(frm:List Int)(L:Nat->List Nat):qdv n frm L 0=L 0:=by
 unfold qdv
 induction frm generalizing L with
 |nil=>rfl
 |cons x xs ih=>rw[Bj,ih,q18]
theorem qv5(L:Nat->List Nat)(h:frm[m]?=some x):qdv n (frm.take (m+1)) L=qkm n x.toNat (qdv n (frm.take m) L):=by
 obtain⟨hm,rfl⟩:=AO.1 h;unfold qdv;rw[AR hm,Bs];rfl
theorem qgw{qa:List Node}{nd:Node}(h:qa[k]?=some nd):qem qa (k+1)=qhf (qem qa k) (nd,k):=by
 have hz:qa.zipIdx[k]?=some (nd,k):=by simp[h]
 obtain⟨hk,hx⟩:=AO.1 hz;unfold qem;rw[AR hk,Bs,hx];rfl
theorem q4m(n f:Nat)(L:Nat->List Nat)(a:Nat):(qkm n f L a).length<=(L a).length+1:=by
 unfold qkm upd;split
 . omega
 . dsimp only;split
   . subst_vars;simp
   . split
     . subst_vars;simp
     . omega
theorem qlf(x:Node)(at_:Int)(wd:Nat):qcu x at_ wd=(qbe x at_&&(if x.kind=0 then decide (x.row.length=wd)else true)):=by
 rw[Aj];unfold qcu qbe;simp only[Ab,decide_eq_true_eq,AT];constructor
 . rintro⟨⟨⟨h1,h2⟩,h3⟩,h4⟩;refine⟨⟨⟨⟨?_,h1.symm⟩,λy hy=>⟨(h3 y hy).1,by have:=(h3 y hy).2;omega⟩⟩,?_⟩,?_⟩
   . have:0<=qas x.kind:=by omega
     unfold qas at this;unfold qdr;split at this
     . omega
     . simp;omega
   . split
     . exact h2
     . rename_i hk;rw[if_neg hk]at h4;exact h4
   . split
     . rename_i hk;rw[if_pos hk]at h4;exact h4
     . rfl
 . rintro⟨⟨⟨⟨h0,h1⟩,h3⟩,h4⟩,h5⟩;refine⟨⟨⟨h1.symm,?_⟩,λy hy=>⟨(h3 y hy).1,by have:=(h3 y hy).2;omega⟩⟩,?_⟩
   . split at h4
     . exact h4
     . have e:x.row=[]:=Bp (by simpa using h4);rw[e];rfl
   . split
     . rename_i hk;rw[if_pos hk]at h5;exact h5
     . rename_i hk;rw[if_neg hk]at h4;exact h4
theorem qnx{x:Node}{at_:Int}(h:qbe x at_=true):x.frm.length<=2:=by
 unfold qbe at h;simp only[Ab,decide_eq_true_eq]at h;have:=(qv3 x.kind).2;omega
theorem qc9{x:Node}{at_:Int}(h:qbe x at_=true)(hy:y∈x.frm):0<=y/\y<at_:=by
 unfold qbe at h;simp only[Ab,decide_eq_true_eq,AT]at h;exact h.1.2 y hy
theorem q19{qa:List Node}{nd:Node}(h:qa[k]?=some nd)(hk:nd.kind=0)(ha:(qa.take k).any (λx=>x.kind==0)=false):wide qa=nd.row.length:=by
 have:qa.find? (λx=>x.kind==0)=some nd:=by
  rw[find?_eq_some_iff_getElem];obtain⟨hk',hx'⟩:=AO.1 h;refine⟨by simp[hk],k,hk',hx',λj hj=>?_⟩;have:=any_eq_false.1 ha qa[j] (Bg.2 ⟨j,by omega,rfl⟩);simpa using this
 unfold wide;rw[this]
def qfo(qa:List Node)(k:Nat):Int:=if (qa.take k).any (λx=>x.kind==0)then (wide qa:Int)else -1
theorem qub{qa:List Node}{nd:Node}(h:qa[k]?=some nd)(hk:nd.kind=0):qfo qa (k+1)=wide qa:=by
 obtain⟨hl,rfl⟩:=AO.1 h;unfold qfo;rw[AR hl,any_append,if_pos (by simp[hk])]
theorem quc{qa:List Node}{nd:Node}(h:qa[k]?=some nd)(hk:nd.kind≠0):qfo qa (k+1)=qfo qa k:=by
 obtain⟨hl,rfl⟩:=AO.1 h;unfold qfo;rw[AR hl,any_append];have:([qa[k]].any λx=>x.kind==0)=false:=by simp[hk]
 rw[this,Bool.or_false]
theorem qlg{qa:List Node}{nd:Node}(h:qa[k]?=some nd)(hb:qcu nd k (wide qa)=false):qae qa=false:=by
 have:qa.zipIdx.all (λx=>qcu x.1 x.2 (wide qa))=false:=by
  rw[BL];exact⟨(nd,k),Bt (show qa.zipIdx[k]?=some (nd,k) by simp[h]),by simp[hb]⟩
 unfold qae;rw[this];rfl
def fl(qa:List Node)(i:Nat):Int:=match qa[i]? with
 |some nd=>nd.frm.length
 |none=>0
theorem qbf{qa:List Node}{nd:Node}(hv:qae qa=true)(h:qa[i]?=some nd):qbe nd i=true/\nd.frm.length<=2/\i<10/\(nd.kind=0->nd.row.length=wide qa):=by
 unfold qae at hv;simp only[Ab,decide_eq_true_eq]at hv;have h1:=AT.1 hv.1 (nd,i) (Bt (show qa.zipIdx[i]?=some (nd,i) by simp[h]));rw[qlf]at h1;simp only[Ab]at h1;refine⟨h1.1,qnx h1.1,?_,λhk=>?_⟩
 . have:=(AO.1 h).1;omega
 . have:=h1.2;rw[if_pos hk]at this;simpa using this
theorem qam{qa:List Node}(hv:qae qa=true):qa.length<=10:=by
 unfold qae at hv;simp only[Ab,decide_eq_true_eq]at hv;exact hv.2
def q4p(out:List Int)(frm:List Int):Int:=frm.foldl (λn f=>max n (out.getD f.toNat 0+1)) 0
def q7j(qa:List Node)(k:Nat):List Int:=(qa.take k).foldl (λout x=>out++[q4p out x.frm]) []
def levels(qa:List Node):List Int:=q7j qa qa.length
def lv(qa:List Node)(i:Nat):Int:=(levels qa).getD i 0
def dedup(frm:List Int):List Nat:=frm.foldl (λl f=>if f.toNat∈l then l else l++[f.toNat]) []
def qb0(qa:List Node)(i:Nat):List Nat:=match qa[i]? with
 |some nd=>dedup nd.frm
 |none=>[]
def qb1(qa:List Node)(i:Nat):List Nat:=(range qa.length).filter (λj=>decide (i∈qb0 qa j))
theorem qp4(frm:List Int)(l:List Nat):(∀i,i∈frm.foldl (λl f=>if f.toNat∈l then l else l++[f.toNat]) l↔i∈l∨∃f∈frm,f.toNat=i) /\
   (l.Nodup->(frm.foldl (λl f=>if f.toNat∈l then l else l++[f.toNat]) l).Nodup)/\(frm.foldl (λl f=>if f.toNat∈l then l else l++[f.toNat]) l).length<=l.length+frm.length:=by
 induction frm generalizing l with
 |nil=>simp
 |cons x xs ih=>
  rw[Bj];by_cases h:x.toNat∈l
  . rw[if_pos h];obtain⟨h1,h2,h3⟩:=ih l;refine⟨λi=>?_,h2,by rw[BH];omega⟩;rw[h1 i];constructor
    . rintro(hi|⟨f,hf,e⟩)
      . exact .inl hi
      . exact .inr ⟨f,by simp[hf],e⟩
    . rintro(hi|⟨f,hf,e⟩)
      . exact .inl hi
      . rcases Bb.1 hf with rfl|hf
        . exact .inl (e▸h)
        . exact .inr ⟨f,hf,e⟩
  . rw[if_neg h];obtain⟨h1,h2,h3⟩:=ih (l++[x.toNat]);refine⟨λi=>?_,λhn=>h2 ?_,by rw[Bf]at h3;simp at h3 |-;omega⟩
    . rw[h1 i];constructor
      . rintro(hi|⟨f,hf,e⟩)
        . rcases Be.1 hi with hi|hi
          . exact .inl hi
          . exact .inr ⟨x,by simp,by simp at hi;exact hi.symm⟩
        . exact .inr ⟨f,by simp[hf],e⟩
      . rintro(hi|⟨f,hf,e⟩)
        . exact .inl (by simp[hi])
        . rcases Bb.1 hf with rfl|hf
          . exact .inl (by simp[e])
          . exact .inr ⟨f,hf,e⟩
    . rw[Bq];refine⟨hn,by simp,?_⟩;intro a ha b hb e;simp at hb;subst hb e;exact h ha
theorem qll:i∈dedup frm↔∃f∈frm,f.toNat=i:=by
 have:=(qp4 frm []).1 i;unfold dedup;rw[this];simp
theorem qyz(frm:List Int):(dedup frm).Nodup:=(qp4 frm []).2.1 BT
theorem qp5(frm:List Int):(dedup frm).length<=frm.length:=by
 have:=(qp4 frm []).2.2;unfold dedup;simpa using this
theorem qp6(n f:Nat)(L:Nat->List Nat):qkm n f L (2*n+1)=if f∈L (2*n+1)then L (2*n+1)else L (2*n+1)++[f]:=by
 unfold qkm;split
 . rfl
 . rw[qaw _ _ (by omega),upd_same]
theorem qy0(n f i:Nat)(L:Nat->List Nat):qkm n f L (2*i+2)=if f∉L (2*n+1)/\i=f then L (2*i+2)++[n]else L (2*i+2):=by
 unfold qkm;by_cases h:f∈L (2*n+1)
 . rw[if_pos h,if_neg (λh2=>h2.1 h)]
 . rw[if_neg h];by_cases hi:i=f
   . subst hi;rw[upd_same,if_pos ⟨h,rfl⟩]
   . rw[qaw _ _ (by omega),qaw _ _ (by omega),if_neg (λh2=>hi h2.2)]
theorem q4q(n f a:Nat)(L:Nat->List Nat)(h1:a≠2*n+1)(h2:a≠2*f+2):qkm n f L a=L a:=by
 unfold qkm;split
 . rfl
 . rw[qaw _ _ h2,qaw _ _ h1]
theorem qug(n:Nat)(frm:List Int)(L:Nat->List Nat)(hf:∀y∈frm,0<=y/\y<(n:Int)) :
   qdv n frm L (2*n+1)=frm.foldl (λl f=>if f.toNat∈l then l else l++[f.toNat]) (L (2*n+1)):=by
 unfold qdv
 induction frm generalizing L with
 |nil=>rfl
 |cons x xs ih=>
  have hx:=hf x (by simp);rw[Bj,Bj,ih _ (λy hy=>hf y (by simp[hy])),qp6]
theorem quh(n i:Nat)(frm:List Int)(L:Nat->List Nat)(hf:∀y∈frm,0<=y/\y<(n:Int)) :
   qdv n frm L (2*i+2)=if i∉L (2*n+1)/\(∃f∈frm,f.toNat=i)then L (2*i+2)++[n]else L (2*i+2):=by
 unfold qdv
 induction frm generalizing L with
 |nil=>simp
 |cons x xs ih=>
  have hx:=hf x (by simp);rw[Bj,ih _ (λy hy=>hf y (by simp[hy])),qp6,qy0];by_cases hix:i=x.toNat
  . subst hix;by_cases hm:x.toNat∈L (2*n+1)
    . simp[hm]
    . rw[if_neg hm,if_neg (by simp),if_pos ⟨hm,rfl⟩,if_pos ⟨hm,x,by simp,rfl⟩]
  . have hne:¬(x.toNat∉L (2*n+1)/\i=x.toNat):=λh=>hix h.2;rw[if_neg hne]
    have e2:(i∉(if x.toNat∈L (2*n+1)then L (2*n+1)else L (2*n+1)++[x.toNat]))↔i∉L (2*n+1):=by
     split
     . exact Iff.rfl
     . simp[hix]
    have e3:(∃f∈x::xs,f.toNat=i)↔∃f∈xs,f.toNat=i:=by
     constructor
     . rintro⟨f,hf,he⟩;rcases Bb.1 hf with hfx|hf
       . rw[hfx]at he;exact absurd he.symm hix
       . exact⟨f,hf,he⟩
     . rintro⟨f,hf,e⟩;exact⟨f,by simp[hf],e⟩
    simp only[e2,e3]
theorem qy1(n a:Nat)(frm:List Int)(L:Nat->List Nat)(h1:a≠2*n+1)(h2:∀f∈frm,a≠2*f.toNat+2):qdv n frm L a=L a:=by
 unfold qdv
 induction frm generalizing L with
 |nil=>rfl
 |cons x xs ih=>rw[Bj,ih _ (λf hf=>h2 f (by simp[hf])),q4q _ _ _ _ h1 (h2 x (by simp))]
theorem qn0{qa:List Node}{nd:Node}(h:qa[i]?=some nd):qb0 qa i=dedup nd.frm:=by
 unfold qb0;rw[h]
theorem qlm(qa:List Node)(j:Nat):(qb0 qa j).Nodup:=by
 unfold qb0;split
 . exact qyz _
 . exact BT
theorem qwa{qa:List Node}(hv:qae qa=true)(hk:k<=qa.length) :
   (∀i,qem qa k (2*i+1)=if i<k then qb0 qa i else [])/\(∀i,qem qa k (2*i+2)=(range k).filter (λj=>decide (i∈qb0 qa j))):=by
 induction k with
 |zero=>exact⟨λi=>rfl,λi=>rfl⟩
 |succ k ih=>
  obtain⟨ih1,ih2⟩:=ih (by omega);obtain⟨nd,hx⟩:∃nd,qa[k]?=some nd:=⟨_,AP (by omega)⟩;have hf:∀y∈nd.frm,0<=y/\y<(k:Int):=λy hy=>qc9 (qbf hv hx).1 hy;have h0:qem qa k (2*k+1)=[]:=by rw[ih1 k,if_neg (by omega)]
  constructor
  . intro i;rw[qgw hx];unfold qhf;rw[qaw _ _ (by omega)];by_cases hik:i=k
    . subst hik;rw[if_pos (by omega),qug _ _ _ hf,h0,qn0 hx];rfl
    . rw[qy1 _ _ _ _ (by simp;omega) (λf _=>by omega),ih1 i];by_cases h:i<k
      . rw[if_pos h,if_pos (by omega)]
      . rw[if_neg h,if_neg (by omega)]
  . intro i;rw[qgw hx];unfold qhf;rw[qaw _ _ (by omega),quh _ _ _ _ hf,h0,ih2 i,BN,BB];have e:(∃f∈nd.frm,f.toNat=i)↔i∈qb0 qa k:=by rw[qn0 hx,qll]
    by_cases h:i∈qb0 qa k
    . rw[if_pos ⟨by simp,e.2 h⟩];simp[h]
    . rw[if_neg (λh2=>h (e.1 h2.2))];simp[h]
theorem qn1{qa:List Node}(hv:qae qa=true)(i:Nat):qtb qa (2*i+2)=qb1 qa i:=by
 unfold qtb;exact(qwa hv (Co _)).2 i
theorem qgk{qa:List Node}:j∈qb1 qa i↔j<qa.length/\i∈qb0 qa j:=by
 unfold qb1;simp
theorem qln(qa:List Node)(i:Nat):(qb1 qa i).Nodup:=Pairwise.filter _ BM
theorem qy2(qa:List Node)(i:Nat):(qb1 qa i).length<=qa.length:=by
 have:=BG (λj=>decide (i∈qb0 qa j)) (range qa.length);unfold qb1;simpa using this
theorem qwb{l:List Nat}(h:l.Nodup)(hl:∀x∈l,x<n):l.length<=n:=by
 induction n generalizing l with
 |zero=>
  cases l with
  |nil=>simp
  |cons x xs=>exact absurd (hl x (by simp)) (by omega)
 |succ n ih=>
  by_cases hn:n∈l
  . have h1:=ih (h.erase n) (fun x hx=>by
     have h2:=(h.mem_erase_iff).1 hx;have:=hl x h2.2;omega)
    rw[Bh hn]at h1;omega
  . have:=ih h (fun x hx=>by
     have:=hl x hx;have:x≠n:=λe=>hn (e▸hx);omega)
    omega
def qdg(done:List Int)(x:Node×Nat):Bool:=!decide ((x.2:Int)∈done)&&x.1.frm.all (λf=>decide (f∈done))
def qcd(qa:List Node)(done:List Int)(k:Nat):List Int:=((qa.zipIdx.take k).filter (qdg done)).map (λx:Node×Nat=>(x.2:Int))
def qan(qa:List Node)(done:List Int):List Int:=if qae qa then qcd qa done qa.length else []
theorem qes{qa:List Node}{nd:Node}(done:List Int)(h:qa[k]?=some nd):qcd qa done (k+1)=if qdg done (nd,k)then qcd qa done k++[(k:Int)]else qcd qa done k:=by
 have hz:qa.zipIdx[k]?=some (nd,k):=by simp[h]
 obtain⟨hk,hx⟩:=AO.1 hz;unfold qcd;rw[AR hk,BB,BO,hx];by_cases hr:qdg done (nd,k)=true
 . rw[if_pos hr,filter_cons_of_pos hr];rfl
 . rw[if_neg hr,filter_cons_of_neg hr,filter_nil,map_nil,BQ]
theorem qkj(qa:List Node)(done:List Int)(k:Nat):(qcd qa done k).length<=k:=by
 unfold qcd;rw[Bi];have:=BG (qdg done) (qa.zipIdx.take k);rw[AU]at this;omega
structure qh where
 qb:List (List Int)
 counts:List Int
 done:List Int
 rows:List (List Int)
def qfe(qa:List Node)(i:Nat):List Int:=match qa[i]? with
 |some nd=>nd.frm
 |none=>[]
def has(qa:List Node)(i:Nat)(x:Int):Bool:=decide (x∈qfe qa i)
theorem qdh{qa:List Node}{nd:Node}(h:qa[i]?=some nd):qfe qa i=nd.frm:=by unfold qfe;rw[h]
theorem qvy{qa:List Node}(h:qa.length<=i):qfe qa i=[]:=by unfold qfe;rw[AS h]
theorem qeg{qa:List Node}(hv:qae qa=true)(h:x∈qfe qa i):0<=x/\x<i/\i<qa.length:=by
 by_cases hi:i<qa.length
 . have hx:qa[i]?=some qa[i]:=AP hi;rw[qdh hx]at h;have:=qc9 (qbf hv hx).1 h;exact⟨this.1,this.2,hi⟩
 . rw[qvy (by omega)]at h;cases h
theorem qge(qa:List Node)(i:Nat):qb0 qa i=dedup (qfe qa i):=by
 unfold qb0 qfe;cases qa[i]? with
 |some nd=>rfl
 |none=>rfl
theorem qgf{qa:List Node}(hv:qae qa=true){f:Nat}:f∈qb0 qa i↔(f:Int)∈qfe qa i:=by
 rw[qge,qll];constructor
 . rintro⟨y,hy,e⟩;have:=qeg hv hy;have e2:y=(f:Int):=by omega
   rw[<-e2];exact hy
 . intro h;exact⟨f,h,by simp⟩
def left(qa:List Node)(D:List Int)(i:Nat):Nat:=(qb0 qa i).countP (λf:Nat=>!decide ((f:Int)∈D))
theorem q7h(qa:List Node)(i:Nat):left qa [] i=(qb0 qa i).length:=by
 unfold left;rw[BW];simp
theorem q4j(qa:List Node)(D:List Int)(i:Nat):left qa D i<=(qb0 qa i).length:=BV
theorem q13{l:List Nat}(hn:l.Nodup)(p:Nat->Bool){x:Nat}(hp:p x=true):l.countP (λf=>p f && !decide (f=x))+(if x∈l then 1 else 0)=l.countP p:=by
 induction l with
 |nil=>simp
 |cons a r ih=>
  obtain⟨h1,h2⟩:=BI.1 hn;have:=ih h2;by_cases hax:a=x
  . subst hax
    have hc:r.countP (λf=>p f && !decide (f=a))=r.countP p:=by
     rw[if_neg h1]at this;simpa using this
    rw[BE (by simp),BC hp,hc,if_pos (by simp)]
  . have hm:(x∈a::r)↔x∈r:=⟨λh=>by rcases Bb.1 h with e|h;exact absurd e.symm hax;exact h,C0 _⟩;by_cases hpa:p a=true
    . rw[BC (by simp[hpa,hax]),BC hpa];simp only[hm];omega
    . rw[BE (by simp[hpa]),BE hpa];simp only[hm];omega
theorem qpu{qa:List Node}(hv:qae qa=true)(hx:x∉D)(h0:0<=x)(i:Nat):left qa (D++[x]) i+(if has qa i x then 1 else 0)=left qa D i:=by
 obtain⟨m,rfl⟩:=AL h0;have e:=q13 (qlm qa i) (λf:Nat=>!decide ((f:Int)∈D)) (x:=m) (by simpa using hx);unfold left;rw[<-e]
 have e1:(λf:Nat=>!decide ((f:Int)∈D++[(m:Int)]))=(λf:Nat=>!decide ((f:Int)∈D) && !decide (f=m)):=by
  funext f;by_cases h1:(f:Int)∈D
  . simp[h1]
  . by_cases h2:f=m
    . simp[h2]
    . have:¬(f:Int)=(m:Int):=by omega
      simp[h1,h2,this]
 rw[e1]
 have e2:(has qa i (m:Int)=true)↔m∈qb0 qa i:=by
  unfold has;rw[decide_eq_true_eq];exact(qgf hv).symm
 by_cases hm:m∈qb0 qa i
 . rw[if_pos hm,if_pos (e2.2 hm)]
 . rw[if_neg hm,if_neg (λh=>hm (e2.1 h))]
theorem q4k{qa:List Node}(hv:qae qa=true):left qa D i=0↔∀f∈qfe qa i,f∈D:=by
 unfold left;rw[C8];constructor
 . intro h f hf;have:=qeg hv hf;obtain⟨m,rfl⟩:=AL this.1;have:=h m ((qgf hv).2 hf);simpa using this
 . intro h f hf;have:=h _ ((qgf hv).1 hf);simpa using this
def qe2(qa:List Node)(D:List Int)(x:Int):Bool:=decide (0<=x)&&decide (x<qa.length) && !decide (x∈D)&&(qfe qa x.toNat).all (λf=>decide (f∈D))
def qdd(qa:List Node)(order:List Int)(k:Nat):Bool:=(range k).all λi=>qe2 qa (order.take i) (order.getD i 0)
def qbu(qa:List Node)(order:List Int):Bool:=qdd qa order order.length
theorem qet(qa:List Node)(order:List Int)(k:Nat):qdd qa order (k+1)=(qdd qa order k&&qe2 qa (order.take k) (order.getD k 0)):=by
 unfold qdd;rw[BN,all_append];simp
theorem qs9{qa:List Node}{order:List Int}(h:k<=m)(ho:qdd qa order m=true):qdd qa order k=true:=by
 induction m with
 |zero=>
  obtain rfl:k=0:=by omega
  exact ho
 |succ m ih=>
  by_cases hk:k=m+1
  . subst hk;exact ho
  . rw[qet,Ab]at ho;exact ih (by omega) ho.1
theorem qvz(qa:List Node)(D:List Int)(x:Int):qbu qa (D++[x])=(qbu qa D&&qe2 qa D x):=by
 have h1:qdd qa (D++[x]) D.length=qdd qa D D.length:=by
  unfold qdd;rw[Aj,AT,AT]
  have e:∀i,i∈range D.length->((D++[x]).take i=D.take i/\(D++[x]).getD i 0=D.getD i 0):=by
   intro i hi;have hi:=AW.1 hi;exact⟨BK (by omega),by simp only[AQ];rw[B9 hi]⟩
  constructor
  . intro h i hi;have:=h i hi
    rwa [(e i hi).1,(e i hi).2]at this
  . intro h i hi;rw[(e i hi).1,(e i hi).2];exact h i hi
 unfold qbu;rw[Bf];show qdd qa (D++[x]) (D.length+1)=_;rw[qet,h1,take_left,AQ,AY (Co _),Cp];rfl
theorem qd5{qa:List Node}:qe2 qa D x=true↔0<=x/\x<qa.length/\x∉D/\∀f∈qfe qa x.toNat,f∈D:=by
 unfold qe2;simp only[Ab,decide_eq_true_eq,Ah,decide_eq_false_iff_not,AT,and_assoc]
theorem qhe{qa:List Node}(ho:qbu qa D=true)(hi:i<D.length):qe2 qa (D.take i) D[i]=true:=by
 have h1:qdd qa D (i+1)=true:=qs9 hi ho;rw[qet,Ab,AQ,AP hi]at h1;exact h1.2
theorem qgv{qa:List Node}(ho:qbu qa D=true)(hy:y∈D):0<=y/\y<qa.length/\∀f∈qfe qa y.toNat,f∈D:=by
 obtain⟨i,hi,rfl⟩:=BY.1 hy;obtain⟨h1,h2,_,h4⟩:=qd5.1 (qhe ho hi);exact⟨h1,h2,λf hf=>mem_of_mem_take (h4 f hf)⟩
theorem qkk{qa:List Node}(ho:qbu qa D=true):D.Nodup:=by
 have:∀k,k<=D.length->(D.take k).Nodup:=by
  intro k
  induction k with
  |zero=>intro _;simp
  |succ k ih=>
   intro hk;rw[AR (by omega),Bq];refine⟨ih (by omega),by simp,λa ha b hb e=>?_⟩;obtain rfl:b=D[k]:=by simpa using hb
   exact(qd5.1 (qhe ho (i:=k) (by omega))).2.2.1 (e▸ha)
 have:=this D.length (Co _)
 rwa [Bm]at this
def qa7(qa:List Node):List Int:=(range qa.length).map λi=>((qb0 qa i).length:Int)
def lefts(qa:List Node)(D:List Int):List Int:=(range qa.length).map λi=>(left qa D i:Int)
def qbh(qa:List Node)(cs:List Int)(x:Int):List Int:=cs.zipIdx.map λy:Int×Nat=>if has qa y.2 x then y.1-1 else y.1
def qa9(qa:List Node)(D:List Int):List Int:=D.foldl (qbh qa) (qa7 qa)
theorem qpv(qa:List Node):lefts qa []=qa7 qa:=by
 unfold lefts qa7;simp only[q7h]
theorem qeu(qa:List Node)(D:List Int):(lefts qa D).length=qa.length:=by unfold lefts;rw[Bi,length_range]
theorem qla{qa:List Node}(D:List Int)(h:i<qa.length):(lefts qa D)[i]?=some (left qa D i:Int):=by
 unfold lefts;rw[Bc,C7 h];rfl
theorem qha(qa:List Node)(cs:List Int)(x:Int):(qbh qa cs x).length=cs.length:=by unfold qbh;rw[Bi,C9]
theorem qj2{qa:List Node}{c:Int}(h:cs[i]?=some c):(qbh qa cs x)[i]?=some (if has qa i x then c-1 else c):=by
 unfold qbh;rw[Bc,Bu,h];simp
theorem qjr{qa:List Node}(hv:qae qa=true)(hx:x∉D)(h0:0<=x):qbh qa (lefts qa D) x=lefts qa (D++[x]):=by
 apply Ba;intro i;by_cases hi:i<qa.length
 . rw[qj2 (qla D hi),qla _ hi];have:=qpu hv hx h0 i;congr 1;split
   . rw[if_pos (by assumption)]at this;omega
   . rw[if_neg (by assumption)]at this;omega
 . rw[AS (by rw[qha,qeu];omega),AS (by rw[qeu];omega)]
theorem qnu{qa:List Node}(hv:qae qa=true)(ho:qbu qa D=true):∀k,k<=D.length->qa9 qa (D.take k)=lefts qa (D.take k):=by
 intro k
 induction k with
 |zero=>intro _;exact(qpv qa).symm
 |succ k ih=>
  intro hk;have h1:qdd qa D (k+1)=true:=qs9 hk ho;rw[qet,Ab]at h1;have h2:=qd5.1 h1.2;have hg:D.getD k 0=D[k]:=by rw[AQ,AP (by omega)];rfl
  rw[hg]at h2;rw[AR (by omega)];unfold qa9 at ih |-;rw[Bs,ih (by omega)];exact qjr hv h2.2.2.1 h2.1
theorem qhb{qa:List Node}(hv:qae qa=true)(ho:qbu qa D=true):qa9 qa D=lefts qa D:=by
 have:=qnu hv ho D.length (Co _)
 rwa [Bm]at this
def q7(f:Int->Int->Int)(a b:List Int):List Int:=zipWith (λx y=>f x y%1009) a b
def qdw(f:Int->Int->Int)(a b:List Int):Option (List Int):=if qak a&&qak b&&decide (a.length=b.length)then some (q7 f a b)else none
def vv(x y:Int):Int:=x+y
def vl(x y:Int):Int:=x*y
def qli(a b:List Int):Option (List Int):=qdw vv a b
def qf2(a b:List Int):Option (List Int):=qdw vl a b
def qbc(s:Int):List Int->List Int
 |[]=>[]
 |x::xs=>((s+x)%1009)::qbc ((s+x)%1009) xs
def qen(l:List Int):Option (List Int):=if qak l then some (qbc 0 l)else none
def putRow:List Int->Int->List Int
 |[],n=>[n]
 |x::xs,n=>if n<x then n::x::xs else x::putRow xs n
def qj(l:List Int):List Int:=l.foldl putRow []
def qeo(l:List Int):Option (List Int):=if qak l then some (qj l)else none
def qep(l:List Int):Option (List Int):=if qak l then some l.reverse else none
def qdx(k:Int):List (List Int)->Option (List Int)
 |[a,b]=>if k=1 then qli a b else if k=2 then qf2 a b else none
 |[a]=>if k=3 then qen a else if k=4 then qeo a else if k=5 then qep a else none
 |_=>none
theorem qcy(h:qak l=true)(hx:x∈l):0<=x/\x<=1008:=by
 unfold qak at h;simp only[Ab,decide_eq_true_eq,AT]at h;have:=h.1 x hx;unfold za at this;simpa using this
theorem qbv(h:qak l=true):l.length<=6:=by
 unfold qak at h;simp only[Ab,decide_eq_true_eq]at h;exact h.2
theorem qp1(h:∀x∈l,0<=x/\x<=1008)(hl:l.length<=6):qak l=true:=by
 unfold qak;simp only[Ab,decide_eq_true_eq,AT];refine⟨λx hx=>?_,hl⟩;have:=h x hx;unfold za;simp;omega
theorem qp2(l:List Int)(n:Int):(putRow l n).Perm (n::l):=by
 induction l with
 |nil=>exact Ci _
 |cons x xs ih=>
  unfold putRow;split
  . exact Ci _
  . exact(Ck x ih).trans (Perm.swap n x xs)
theorem que(n:Int)(h:l.Pairwise (·<=·)):(putRow l n).Pairwise (·<=·):=by
 induction l with
 |nil=>simp[putRow]
 |cons x xs ih=>
  have h1:=Bo.1 h;unfold putRow;split
  . rename_i hx;refine Bo.2 ⟨?_,h⟩;intro y hy;rcases Bb.1 hy with rfl|hy
    . omega
    . have:=h1.1 y hy;omega
  . refine Bo.2 ⟨?_,ih h1.2⟩;intro y hy;rcases Bb.1 ((qp2 xs n).mem_iff.1 hy)with rfl|hy
    . omega
    . exact h1.1 y hy
theorem qp3(l acc:List Int)(h:acc.Pairwise (·<=·)):(l.foldl putRow acc).Perm (l++acc)/\(l.foldl putRow acc).Pairwise (·<=·):=by
 induction l generalizing acc with
 |nil=>exact⟨Ci _,h⟩
 |cons x xs ih=>
  obtain⟨h1,h2⟩:=ih (putRow acc x) (que x h);refine⟨h1.trans ?_,h2⟩;refine(Cg xs (qp2 acc x)).trans ?_;exact Cb
theorem qgx(l:List Int):(qj l).Perm l:=by
 have:=(qp3 l [] Pairwise.nil).1;rw[BQ]at this;exact this
theorem qj3(l:List Int):(qj l).Pairwise (·<=·):=(qp3 l [] Pairwise.nil).2
theorem qlj:∀{a b:List Int},a.Perm b->a.Pairwise (·<=·)->b.Pairwise (·<=·)->a=b
 |[],b,h,_,_=>by simpa using h.symm
 |x::xs,[],h,_,_=>by simp at h
 |x::xs,y::ys,h,ha,hb=>by
  have ha':=Bo.1 ha;have hb':=Bo.1 hb;have hx:x∈y::ys:=h.mem_iff.1 (by simp);have hy:y∈x::xs:=h.mem_iff.2 (by simp)
  have e:x=y:=by
   rcases Bb.1 hx with h1|h1
   . exact h1
   . rcases Bb.1 hy with h2|h2
     . exact h2.symm
     . have:=ha'.1 y h2;have:=hb'.1 x h1;omega
  subst e;rw[qlj (Cm h) ha'.2 hb'.2]
theorem q2f{m:List Int}(h:m.Perm l)(hs:m.Pairwise (·<=·)):m=qj l:=
 qlj (h.trans (qgx l).symm) hs (qj3 l)
theorem qdy(l:List Int):(qj l).length=l.length:=(qgx l).length_eq
theorem qix(s:Int)(l:List Int):(qbc s l).length=l.length:=by
 induction l generalizing s with
 |nil=>rfl
 |cons x xs ih=>simp[qbc,ih]
theorem qyy(s:Int)(l:List Int):∀x∈qbc s l,0<=x/\x<=1008:=by
 induction l generalizing s with
 |nil=>intro x hx;simp[qbc]at hx
 |cons y ys ih=>
  intro x hx;rcases Bb.1 hx with rfl|hx
  . omega
  . exact ih _ x hx
theorem q2g{f:Int->Int->Int}{a b:List Int}(h:a.length=b.length):(q7 f a b).length=a.length:=by
 unfold q7;rw[length_zipWith];omega
theorem q4o(f:Int->Int->Int)(a b:List Int):∀x∈q7 f a b,0<=x/\x<=1008:=by
 intro x hx;unfold q7 at hx;obtain⟨i,hi⟩:=mem_iff_getElem?.1 hx;rw[getElem?_zipWith]at hi;split at hi
 . injection hi with hi;omega
 . cases hi
theorem qhu{f:Int->Int->Int}{a b:List Int}(h:qdw f a b=some r):qak r=true/\r.length=a.length/\r.length=b.length/\qak a=true/\qak b=true:=by
 unfold qdw at h;split at h
 . rename_i hc;injection h with h;subst h;simp only[Ab,decide_eq_true_eq]at hc;have hl:=q2g (f:=f) hc.2;exact⟨qp1 (q4o f a b) (by rw[hl];exact qbv hc.1.1),hl,by omega,hc.1.1,hc.1.2⟩
 . cases h
theorem quf{k:Int}(h:qdx k rows=some r):qak r=true/\(rows.length:Int)=qas k/\∀l∈rows,l.length=r.length/\qak l=true:=by
 have two:∀{f:Int->Int->Int} {a b:List Int},qdw f a b=some r->∀l∈[a,b],l.length=r.length/\qak l=true:=by
  intro f a b h l hl;obtain⟨_,h1,h2,h3,h4⟩:=qhu h;simp at hl;rcases hl with rfl|rfl
  . exact⟨h1.symm,h3⟩
  . exact⟨h2.symm,h4⟩
 unfold qdx at h;split at h
 . rename_i a b;split at h
   . rename_i hk;subst hk;exact⟨(qhu h).1,rfl,two h⟩
   . split at h
     . rename_i hk;subst hk;exact⟨(qhu h).1,rfl,two h⟩
     . cases h
 . rename_i a
   have one:∀{m:List Int},qak a=true->m.length=a.length->(∀x∈m,0<=x/\x<=1008)->qak m=true/\∀l∈[a],l.length=m.length/\qak l=true:=by
    intro m hv hl hm;refine⟨qp1 hm (by rw[hl];exact qbv hv),λl hl'=>?_⟩;simp at hl';subst hl';exact⟨hl.symm,hv⟩
   split at h
   . rename_i hk;subst hk;unfold qen at h;split at h
     . rename_i hv;injection h with h;subst h;obtain⟨h1,h2⟩:=one hv (qix 0 a) (qyy 0 a);exact⟨h1,rfl,h2⟩
     . cases h
   . split at h
     . rename_i hk;subst hk;unfold qeo at h;split at h
       . rename_i hv;injection h with h;subst h;obtain⟨h1,h2⟩:=one hv (qdy a) (λx hx=>qcy hv ((qgx a).mem_iff.1 hx));exact⟨h1,rfl,h2⟩
       . cases h
     . split at h
       . rename_i hk;subst hk;unfold qep at h;split at h
         . rename_i hv;injection h with h;subst h;obtain⟨h1,h2⟩:=one (m:=a.reverse) hv (by simp) (λx hx=>qcy hv (by simpa using hx));exact⟨h1,rfl,h2⟩
         . cases h
       . cases h
 . cases h
def q9(x:Node)(rows:List (List Int)):List Int:=if x.kind=0 then x.row else (qdx x.kind (x.frm.map λi=>rows.getD i.toNat [])).getD []
def qbo(qa:List Node):Nat->List (List Int)
 |0=>[]
 |k+1=>qbo qa k++[match qa[k]? with
  |some x=>q9 x (qbo qa k)
  |none=>[]]
def values(qa:List Node):List (List Int):=qbo qa qa.length
theorem qc8(qa:List Node)(k:Nat):(qbo qa k).length=k:=by
 induction k with
 |zero=>rfl
 |succ k ih=>simp[qbo,ih]
theorem qf9(qa:List Node):(values qa).length=qa.length:=qc8 qa _
theorem qhs{qa:List Node}{x:Node}(h:qa[k]?=some x):qbo qa (k+1)=qbo qa k++[q9 x (qbo qa k)]:=by
 rw[qbo,h]
theorem qt9(qa:List Node)(h:i<=k):(qbo qa k).take i=qbo qa i:=by
 induction k with
 |zero=>
  obtain rfl:i=0:=by omega
  rfl
 |succ k ih=>
  by_cases hk:i=k+1
  . subst hk;rw[AZ (by rw[qc8];omega)]
  . rw[qbo,BK (by rw[qc8];omega),ih (by omega)]
theorem qht(qa:List Node)(h:i<k)(hm:i<m):(qbo qa k).getD i []=(qbo qa m).getD i []:=by
 have e:∀k:Nat,i<k->(qbo qa k).getD i []=(qbo qa (i+1)).getD i []:=by
  intro k hk;rw[<-qt9 qa (show i+1<=k by omega)];simp only[AQ];rw[BA,if_pos (by omega)]
 rw[e k h,e m hm]
def qcs(qa:List Node)(i:Nat):List Int:=(values qa).getD i []
theorem qit{qa:List Node}(h:i<qa.length):(values qa)[i]?=some (qcs qa i):=by
 unfold qcs;rw[AQ,AP (by rw[qf9];exact h)];rfl
theorem qvx{k:Int}(h0:1<=k)(h5:k<=5)(hl:(rows.length:Int)=qas k)(hr:∀l∈rows,qak l=true/\l.length=n):∃r,qdx k rows=some r:=by
 have both:∀(f:Int->Int->Int) (a b:List Int),qak a=true->qak b=true->a.length=b.length->∃r,qdw f a b=some r:=by
  intro f a b ha hb hab;unfold qdw;rw[ha,hb,decide_eq_true hab];exact⟨_,rfl⟩
 have two:(qas k=2)->∃a b,rows=[a,b]/\qak a=true/\qak b=true/\a.length=b.length:=by
  intro e;rw[e]at hl
  match rows,hl with
  |[a,b],_=>
   have ha:=hr a (by simp);have hb:=hr b (by simp);exact⟨a,b,rfl,ha.1,hb.1,by omega⟩
  |[],hl=>simp at hl
  |[_],hl=>simp at hl
  |_::_::_::_,hl=>simp at hl;omega
 have one:(qas k=1)->∃a,rows=[a]/\qak a=true:=by
  intro e;rw[e]at hl
  match rows,hl with
  |[a],_=>exact⟨a,rfl,(hr a (by simp)).1⟩
  |[],hl=>simp at hl
  |_::_::_,hl=>simp at hl;omega
 rcases (show k=1∨k=2∨k=3∨k=4∨k=5 by omega)with rfl|rfl|rfl|rfl|rfl
 . obtain⟨a,b,rfl,ha,hb,hab⟩:=two (by decide);exact both _ a b ha hb hab
 . obtain⟨a,b,rfl,ha,hb,hab⟩:=two (by decide);exact both _ a b ha hb hab
 . obtain⟨a,rfl,ha⟩:=one (by decide);exact⟨_,by show qen a=_;unfold qen;rw[if_pos ha]⟩
 . obtain⟨a,rfl,ha⟩:=one (by decide);exact⟨_,by show qeo a=_;unfold qeo;rw[if_pos ha]⟩
 . obtain⟨a,rfl,ha⟩:=one (by decide);exact⟨_,by show qep a=_;unfold qep;rw[if_pos ha]⟩
theorem qiu{x:Node}{a:Int}(h:qbe x a=true):(0<=x.kind/\x.kind<=5)/\(x.frm.length:Int)=qas x.kind/\(∀y∈x.frm,0<=y/\y<a)/\(x.kind=0->qak x.row=true):=by
 unfold qbe at h;simp only[Ab,decide_eq_true_eq,AT]at h;obtain⟨⟨⟨h1,h2⟩,h3⟩,h4⟩:=h;refine⟨?_,h2,h3,λe=>?_⟩
 . unfold qdr at h1;simpa using h1
 . rw[if_pos e]at h4;exact h4
theorem qk9{qa:List Node}(hv:qae qa=true){x:Node}(hx:qa[k]?=some x)(hl:rows.length=k)(hr:∀l∈rows,qak l=true/\l.length=wide qa) :
   qak (q9 x rows)=true/\(q9 x rows).length=wide qa/\(x.kind≠0->qdx x.kind (x.frm.map λi=>rows.getD i.toNat [])=some (q9 x rows)):=by
 obtain⟨hf,-,-,hw⟩:=qbf hv hx;obtain⟨⟨h0,h5⟩,h2,h3,h4⟩:=qiu hf;unfold q9;by_cases hk:x.kind=0
 . rw[if_pos hk];exact⟨h4 hk,hw hk,λh=>absurd hk h⟩
 . rw[if_neg hk]
   have hmem:∀l∈x.frm.map (λi=>rows.getD i.toNat []),qak l=true/\l.length=wide qa:=by
    intro l hl';obtain⟨i,hi,rfl⟩:=Br.1 hl';have:=h3 i hi;have hlt:i.toNat<rows.length:=by omega
    rw[AQ,AP hlt];exact hr _ (getElem_mem hlt)
   obtain⟨r,e⟩:=qvx (by omega) h5 (by rw[Bi];exact h2) hmem;rw[e];obtain⟨v1,-,v3⟩:=quf e;refine⟨v1,?_,λ_=>rfl⟩
   have hne:x.frm≠[]:=by
    intro e0;rw[e0]at h2;rcases (show x.kind=1∨x.kind=2∨x.kind=3∨x.kind=4∨x.kind=5 by omega)with e|e|e|e|e
    all_goals
     rw[e]at h2;exact absurd h2 (by decide)
   obtain⟨i,r',e1⟩:∃i r',x.frm=i::r':=by
    cases hf':x.frm with
    |nil=>exact absurd hf' hne
    |cons i r'=>exact⟨i,r',rfl⟩
   have hm0:=v3 (rows.getD i.toNat []) (by rw[e1];simp);have hm1:=hmem (rows.getD i.toNat []) (by rw[e1];simp);show r.length=wide qa;omega
theorem qj1{qa:List Node}(hv:qae qa=true):∀k,k<=qa.length->∀l∈qbo qa k,qak l=true/\l.length=wide qa:=by
 intro k
 induction k with
 |zero=>intro _ l hl;simp[qbo]at hl
 |succ k ih=>
  intro hk l hl;have hx:qa[k]?=some qa[k]:=AP (by omega);rw[qhs hx]at hl;rcases Be.1 hl with hl|hl
  . exact ih (by omega) l hl
  . obtain rfl:l=q9 qa[k] (qbo qa k):=by simpa using hl
    have:=qk9 hv hx (qc8 qa k) (ih (by omega));exact⟨this.1,this.2.1⟩
theorem qm0{qa:List Node}{x:Node}(h:qa[i]?=some x):qcs qa i=q9 x (qbo qa i):=by
 have hi:=(AO.1 h).1;unfold qcs values;rw[qht qa (m:=i+1) hi (by omega),qhs h,AQ,AY (by rw[qc8];omega),qc8,Cp];rfl
theorem qyq{qa:List Node}(hv:qae qa=true)(hi:i<qa.length):qak (qcs qa i)=true/\(qcs qa i).length=wide qa:=
 qj1 hv _ (Co _) _ (Bt (qit hi))
theorem q4i{qa:List Node}(hv:qae qa=true){x:Node}(h:qa[i]?=some x)(hk:x.kind≠0):qdx x.kind (x.frm.map λj=>qcs qa j.toNat)=some (qcs qa i):=by
 have hi:=(AO.1 h).1;have hs:=(qk9 hv h (qc8 qa i) (qj1 hv i (by omega))).2.2 hk;rw[<-qm0 h]at hs;rw[<-hs];congr 1;refine BJ (λj hj=>?_);have:=qc9 (qbf hv h).1 hj;exact qht qa (by omega) (by omega)
theorem qyr{qa:List Node}{x:Node}(h:qa[i]?=some x)(hk:x.kind=0):qcs qa i=x.row:=by
 rw[qm0 h];unfold q9;rw[if_pos hk]
theorem qkl{qa:List Node}(hk:k<=qa.length):x∈qcd qa D k↔∃i:Nat,i<k/\x=i/\x∉D/\∀f∈qfe qa i,f∈D:=by
 induction k with
 |zero=>simp[qcd]
 |succ k ih=>
  have hx:qa[k]?=some qa[k]:=AP (by omega)
  have hr:qdg D (qa[k],k)=true↔(k:Int)∉D/\∀f∈qfe qa k,f∈D:=by
   rw[qdh hx];unfold qdg;simp only[Ab,Ah,decide_eq_false_iff_not,AT,decide_eq_true_eq]
  rw[qes D hx];have ih:=ih (by omega);constructor
  . intro h;by_cases hc:qdg D (qa[k],k)=true
    . rw[if_pos hc]at h;rcases Be.1 h with h|h
      . obtain⟨i,h1,h2⟩:=ih.1 h;exact⟨i,by omega,h2⟩
      . obtain rfl:x=(k:Int):=by simpa using h
        exact⟨k,by omega,rfl,(hr.1 hc).1,(hr.1 hc).2⟩
    . rw[if_neg hc]at h;obtain⟨i,h1,h2⟩:=ih.1 h;exact⟨i,by omega,h2⟩
  . rintro⟨i,h1,rfl,h3,h4⟩;by_cases hik:i=k
    . subst hik;rw[if_pos (hr.2 ⟨h3,h4⟩)];simp
    . have:=ih.2 ⟨i,by omega,rfl,h3,h4⟩;split
      . exact C6 _ this
      . exact this
theorem qua(qa:List Node)(D:List Int):∀k,k<=qa.length->(qcd qa D k).Nodup:=by
 intro k
 induction k with
 |zero=>intro _;simp[qcd]
 |succ k ih=>
  intro hk;have hx:qa[k]?=some qa[k]:=AP (by omega);rw[qes D hx];split
  . rw[Bq];refine⟨ih (by omega),by simp,λa ha b hb e=>?_⟩;obtain rfl:b=(k:Int):=by simpa using hb
    obtain⟨i,h1,h2,_⟩:=(qkl (by omega)).1 ha;omega
  . exact ih (by omega)
theorem qfz(qa:List Node)(D:List Int):(qan qa D).Nodup:=by
 unfold qan;split
 . exact qua qa D _ (Co _)
 . exact BT
theorem qc1{qa:List Node}(hv:qae qa=true):x∈qan qa D↔∃i:Nat,i<qa.length/\x=i/\x∉D/\∀f∈qfe qa i,f∈D:=by
 unfold qan;rw[if_pos hv];exact qkl (Co _)
def qee(qa:List Node)(D:List Int)(i:Nat):List Int:=if (i:Int)∈D then qcs qa i else []
def qnv(qa:List Node)(c:qh):Bool:=(range qa.length).all λi=>decide (c.rows.getD i []=qee qa c.done i)
def qf0(qa:List Node)(c:qh):Bool:=decide (c.qb.flatten.length=(qan qa c.done).length)&&(qan qa c.done).all λx=>decide (c.qb.flatten.count x=1)
def qat(qa:List Node)(c:qh):Bool:=
 qae qa&&(decide (1<=c.qb.length)&&decide (c.qb.length<=4))&&qbu qa c.done&&decide (c.counts=qa9 qa c.done)&&decide (c.rows.length=qa.length)&&qf0 qa c&&qnv qa c
theorem qsd{R:List Int}(hn:R.Nodup):∀{F:List Int},F.length=R.length->(∀x∈R,F.count x=1)->F.Perm R:=by
 induction R with
 |nil=>
  intro F hl _;obtain rfl:F=[]:=Bp (by simpa using hl);exact Ci _
 |cons x R ih=>
  intro F hl hc;obtain⟨h1,h2⟩:=BI.1 hn;have hx:x∈F:=count_pos_iff.1 (by rw[hc x (by simp)];omega);have hp:=BX hx;refine hp.trans (Ck x (ih h2 ?_ λy hy=>?_))
  . rw[Bh hx,hl];simp
  . have hne:y≠x:=λe=>h1 (e▸hy);rw[count_erase_of_ne hne];exact hc y (by simp[hy])
theorem qv0{qa:List Node}{c:qh}:qf0 qa c=true↔c.qb.flatten.Perm (qan qa c.done):=by
 have hn:=qfz qa c.done;unfold qf0;simp only[Ab,decide_eq_true_eq,AT];constructor
 . rintro⟨h1,h2⟩;exact qsd hn h1 h2
 . intro h;refine⟨h.length_eq,λx hx=>?_⟩;rw[perm_iff_count.1 h x,hn.count,if_pos hx]
structure qm(qa:List Node)(c:qh):Prop where
 pv:qae qa=true
 d1:1<=c.qb.length
 d4:c.qb.length<=4
 order:qbu qa c.done=true
 counts:c.counts=lefts qa c.done
 rl:c.rows.length=qa.length
 dq:c.qb.flatten.Perm (qan qa c.done)
 rows:∀i,i<qa.length->c.rows[i]?=some (qee qa c.done i)
theorem qbb{qa:List Node}{c:qh}:qat qa c=true↔qm qa c:=by
 unfold qat;simp only[Ab,decide_eq_true_eq,qv0];constructor
 . rintro⟨⟨⟨⟨⟨⟨h1,h2,h3⟩,h4⟩,h5⟩,h6⟩,h7⟩,h8⟩;refine⟨h1,h2,h3,h4,by rw[h5,qhb h1 h4],h6,h7,λi hi=>?_⟩;unfold qnv at h8;have:=AT.1 h8 i (AW.2 hi);rw[decide_eq_true_eq,AQ,AP (by omega)]at this;rw[AP (by omega)];exact congrArg some this
 . intro h;refine⟨⟨⟨⟨⟨⟨h.pv,h.d1,h.d4⟩,h.order⟩,by rw[qhb h.pv h.order];exact h.counts⟩,h.rl⟩,h.dq⟩,?_⟩;unfold qnv;rw[AT];intro i hi;rw[decide_eq_true_eq,AQ,h.rows i (AW.1 hi)];rfl
def qbj(qa:List Node)(cs:List Int)(x:Int):List Int:=((range qa.length).filter λi=>has qa i x&&decide (cs.getD i 0=1)).map (λi:Nat=>(i:Int))
theorem qnw{qa:List Node}:y∈qbj qa cs x↔∃i:Nat,i<qa.length/\y=i/\x∈qfe qa i/\cs.getD i 0=1:=by
 unfold qbj has;simp only[Br,mem_filter,AW,Ab,decide_eq_true_eq];constructor
 . rintro⟨i,⟨h1,h2,h3⟩,rfl⟩;exact⟨i,h1,rfl,h2,h3⟩
 . rintro⟨i,h1,rfl,h2,h3⟩;exact⟨i,⟨h1,h2,h3⟩,rfl⟩
theorem qse(qa:List Node)(cs:List Int)(x:Int):(qbj qa cs x).Nodup:=by
 unfold qbj;have h:=(BM (n:=qa.length)).filter (λi=>has qa i x&&decide (cs.getD i 0=1));exact Pairwise.map _ (λa b hab e=>hab (by omega)) h
theorem q14{qa:List Node}(hv:qae qa=true)(ho:qbu qa D=true)(hx:x∈qan qa D) :
   (qan qa (D++[x])).Perm ((qan qa D).erase x++qbj qa (lefts qa D) x):=by
 obtain⟨m,hm,rfl,hxD,hxf⟩:=(qc1 hv).1 hx;have hn:=qfz qa D
 have key:∀i:Nat,i<qa.length->((m:Int)∈qfe qa i/\(lefts qa D).getD i 0=1↔(m:Int)∈qfe qa i/\∀f∈qfe qa i,f∈D++[(m:Int)]):=by
  intro i hi;have e:(lefts qa D).getD i 0=(left qa D i:Int):=by rw[AQ,qla D hi];rfl
  have h1:=qpu hv hxD (AN m) i;rw[e,<-q4k hv];constructor
  . rintro⟨h2,h3⟩;rw[if_pos (by unfold has;exact decide_eq_true h2)]at h1;exact⟨h2,by omega⟩
  . rintro⟨h2,h3⟩;rw[if_pos (by unfold has;exact decide_eq_true h2)]at h1;exact⟨h2,by omega⟩
 refine(perm_ext_iff_of_nodup (qfz _ _) ?_).2 λy=>?_
 . rw[Bq];refine⟨hn.erase _,qse _ _ _,λa ha b hb e=>?_⟩;subst e;obtain⟨i,hi,rfl,h2,h3⟩:=qnw.1 hb;obtain⟨j,_,hj,h4,h5⟩:=(qc1 hv).1 (mem_of_mem_erase ha);obtain rfl:i=j:=by omega
   exact hxD (h5 _ h2)
 . rw[Be,hn.mem_erase_iff,qc1 hv,qc1 hv,qnw];constructor
   . rintro⟨i,hi,rfl,h1,h2⟩;have hne:(i:Int)≠m:=λe=>h1 (by simp[e]);have hD:(i:Int)∉D:=λe=>h1 (by simp[e]);by_cases hmf:(m:Int)∈qfe qa i
     . exact .inr ⟨i,hi,rfl,(key i hi).2 ⟨hmf,h2⟩⟩
     . refine .inl ⟨hne,i,hi,rfl,hD,λf hf=>?_⟩;rcases Be.1 (h2 f hf)with h|h
       . exact h
       . obtain rfl:f=(m:Int):=by simpa using h
         exact absurd hf hmf
   . rintro(⟨hne,i,hi,rfl,h1,h2⟩|⟨i,hi,rfl,h⟩)
     . exact⟨i,hi,rfl,by simp[h1,hne],λf hf=>by simp[h2 f hf]⟩
     . obtain⟨h1,h2⟩:=(key i hi).1 h;refine⟨i,hi,rfl,λe=>?_,h2⟩;rcases Be.1 e with e|e
       ·
        exact hxD ((qgv ho e).2.2 _ (by simpa using h1))
       . obtain rfl : i = m := by have e : (i : Int) = m := by simpa using e
                                  omega
         have:=qeg hv h1;omega
theorem qlb{w:Nat}(h:w<L.length)(d:List Int):(L.set w d).flatten.Perm (d++(L.eraseIdx w).flatten):=by
 induction L generalizing w with
 |nil=>simp at h
 |cons a L ih=>
  cases w with
  |zero=>simp
  |succ w=>
   simp only[set_cons_succ,flatten_cons,eraseIdx_cons_succ];have:=ih (w:=w) (by simpa using h);refine(Cg a this).trans ?_;rw[<-AX,<-AX];exact Cj _ BF
theorem qlc{w:Nat}(h:L[w]?=some d):L.flatten.Perm (d++(L.eraseIdx w).flatten):=by
 obtain⟨hw,rfl⟩:=AO.1 h;have:=qlb hw L[w]
 rwa [set_getElem_self]at this
def qfu(qa:List Node)(c:qh)(w:Nat)(x:Int):qh:=
 {qb:=c.qb.set w (c.qb.getD w []++qbj qa c.counts x),counts:=qbh qa c.counts x,done:=c.done++[x],rows:=c.rows.set x.toNat (qcs qa x.toNat)}
theorem qv1{qa:List Node}{c:qh}(hc:qm qa c){w:Nat}(hx:x∈qan qa c.done)(hl:L.length=c.qb.length)(hw:w<c.qb.length)(hp:(x::L.flatten).Perm c.qb.flatten) :
   qm qa (qfu qa {c with qb:=L} w x):=by
 obtain⟨m,hm,rfl,hxD,hxf⟩:=(qc1 hc.pv).1 hx;have hwL:w<L.length:=by omega
 have hstep:qe2 qa c.done (m:Int)=true:=qd5.2 ⟨AN m,by omega,hxD,by simpa using hxf⟩;refine⟨hc.pv,?_,?_,?_,?_,?_,?_,?_⟩
 . show 1<=(L.set w _).length;rw[AV,hl];exact hc.d1
 . show (L.set w _).length<=4;rw[AV,hl];exact hc.d4
 . show qbu qa (c.done++[(m:Int)])=true;rw[qvz,hc.order,hstep];rfl
 . show qbh qa c.counts (m:Int)=lefts qa (c.done++[(m:Int)]);rw[hc.counts];exact qjr hc.pv hxD (AN m)
 . show (c.rows.set _ _).length=qa.length;rw[AV];exact hc.rl
 . show (L.set w (L.getD w []++qbj qa c.counts (m:Int))).flatten.Perm (qan qa (c.done++[(m:Int)]));have h1:=q14 hc.pv hc.order hx;rw[<-hc.counts]at h1;refine Cl ?_ h1.symm
   have hR:(L.flatten).Perm ((qan qa c.done).erase (m:Int)):=by
    have h2:=(hp.trans hc.dq);have h3:=BX hx;exact Cm (h2.trans h3)
   have hg:L[w]?=some (L.getD w []):=by rw[AQ,AP hwL];rfl
   have h4:=qlb hwL (L.getD w []++qbj qa c.counts (m:Int));have h5:=qlc hg;refine h4.trans ?_;rw[AX];refine(Cg _ BF).trans ?_;rw[<-AX];exact Cj _ (h5.symm.trans hR)
 . intro i hi;show (c.rows.set (m:Int).toNat (qcs qa (m:Int).toNat))[i]?=some (qee qa (c.done++[(m:Int)]) i);rw[AM];by_cases him:i=m
   . subst him;rw[Bn (by rw[hc.rl];exact hi)];unfold qee;rw[if_pos (by simp)]
   . rw[Bv (λe=>him e.symm),hc.rows i hi];unfold qee;have:(i:Int)≠m:=by omega
     by_cases hD:(i:Int)∈c.done
     . rw[if_pos hD,if_pos (by simp[hD])]
     . rw[if_neg hD,if_neg (by simp[hD,this])]
def qba(c:qh)(w:Int):Bool:=decide (0<=w)&&decide (w<c.qb.length)
def qch(qa:List Node)(c:qh)(w:Int):Option qh:=
 if qat qa c&&qba c w then
  (match (c.qb.getD w.toNat []).getLast? with
  |none=>none
  |some x=>some (qfu qa {c with qb:=c.qb.set w.toNat (c.qb.getD w.toNat []).dropLast} w.toNat x))
 else none
def qax(qa:List Node)(c:qh)(w f:Int):Option qh:=
 if qat qa c&&qba c w&&qba c f && !decide (w=f)&&decide (c.qb.getD w.toNat []=[])then
  (match c.qb.getD f.toNat []with
  |[]=>none
  |x::r=>some (qfu qa {c with qb:=c.qb.set f.toNat r} w.toNat x))
 else none
def qbt(qa:List Node)(c:qh)(w:Int):Int:=
 if qat qa c&&qba c w then
  (match ((range c.qb.length).map (λs=>(w.toNat+s)%c.qb.length)).find? (λi=>!decide (c.qb.getD i []=[]))with
  |some i=>(i:Int)
  |none=>-1)
 else -1
def qa0(qa:List Node)(c:qh)(w:Int):Option qh:=
 if qbt qa c w=-1 then none else if qbt qa c w=w then qch qa c w else qax qa c w (qbt qa c w)
theorem qbg{c:qh}{w:Int}:qba c w=true↔0<=w/\w<c.qb.length:=by
 unfold qba;simp
theorem getD_some{w:Nat}(h:w<L.length):L[w]?=some (L.getD w []):=by rw[AQ,AP h];rfl
theorem qv2{qa:List Node}{c c':qh}{w:Int}(h:qch qa c w=some c') :
   qm qa c/\∃(k:Nat) (r:List Int) (x:Int),w=k/\k<c.qb.length/\c.qb[k]?=some (r++[x])/\x∈qan qa c.done/\c'=qfu qa {c with qb:=c.qb.set k r} k x/\qm qa c':=by
 unfold qch at h;split at h
 . rename_i hc;rw[Ab]at hc;obtain⟨hc,hw⟩:=hc;obtain⟨h0,h1⟩:=qbg.1 hw;obtain⟨k,rfl⟩:=AL h0;have hk:k<c.qb.length:=by omega
   have H:=qbb.1 hc;simp only[AM]at h;have hg:=getD_some hk;generalize c.qb.getD k []=d at h hg;split at h
   . cases h
   . rename_i x hx;obtain⟨r,rfl⟩:=getLast?_eq_some_iff.1 hx;injection h with h;rw[dropLast_concat]at h;have hf:=qlc hg;have hxr:x∈qan qa c.done:=(H.dq.mem_iff).1 (hf.mem_iff.2 (by simp))
     have hp:(x::(c.qb.set k r).flatten).Perm c.qb.flatten:=by
      refine Cl ?_ hf.symm;refine(Ck x (qlb hk r)).trans ?_;rw[AX];exact(Cb (a:=x)).symm
     have hok:=qv1 H (L:=c.qb.set k r) hxr (by rw[AV]) hk hp;exact⟨H,k,r,x,rfl,hk,hg,hxr,h.symm,h▸hok⟩
 . cases h
theorem qsf{qa:List Node}{c c':qh}{w f:Int}(h:qax qa c w f=some c') :
   qm qa c/\∃(k m:Nat) (r:List Int) (x:Int),w=k/\f=m/\k<c.qb.length/\m<c.qb.length/\k≠m/\c.qb[k]?=some []/\c.qb[m]?=some (x::r)/\x∈qan qa c.done/\c'=qfu qa {c with qb:=c.qb.set m r} k x/\qm qa c':=by
 unfold qax at h;split at h
 . rename_i hc;simp only[Ab,Ah,decide_eq_false_iff_not,decide_eq_true_eq]at hc;obtain⟨⟨⟨⟨hc,hw⟩,hf⟩,hne⟩,he⟩:=hc;obtain⟨h0,h1⟩:=qbg.1 hw;obtain⟨h2,h3⟩:=qbg.1 hf;obtain⟨k,rfl⟩:=AL h0;obtain⟨m,rfl⟩:=AL h2;have hk:k<c.qb.length:=by omega
   have hm:m<c.qb.length:=by omega
   have H:=qbb.1 hc;simp only[AM]at h he;have hg:=getD_some hm;have hgk:=getD_some hk;rw[he]at hgk;generalize c.qb.getD m []=d at h hg;split at h
   . cases h
   . rename_i x r;injection h with h;have hfl:=qlc hg;have hxr:x∈qan qa c.done:=(H.dq.mem_iff).1 (hfl.mem_iff.2 (by simp))
     have hp:(x::(c.qb.set m r).flatten).Perm c.qb.flatten:=by
      refine Cl ?_ hfl.symm;exact Ck x (qlb hm r)
     have hok:=qv1 H (L:=c.qb.set m r) hxr (by rw[AV]) hk hp;exact⟨H,k,m,r,x,rfl,rfl,hk,hm,by omega,hgk,hg,hxr,h.symm,h▸hok⟩
 . cases h
theorem q15{qa:List Node}(hv:qae qa=true)(hi:i<qa.length)(hD:(i:Int)∉D):∃x,x∈qan qa D:=by
 induction i using Nat.strongRecOn with
 |ind i ih=>
  by_cases h:∀f∈qfe qa i,f∈D
  . exact⟨(i:Int),(qc1 hv).2 ⟨i,hi,rfl,hD,h⟩⟩
  . obtain⟨f,hf⟩:=Classical.not_forall.1 h;obtain⟨hf1,hf2⟩:=Classical.not_imp.1 hf;obtain⟨h0,h1,_⟩:=qeg hv hf1;obtain⟨j,rfl⟩:=AL h0;exact ih j (by omega) (by omega) hf2
theorem qph:∀{l m:List Int},l.Nodup->(∀y∈l,y∈m)->l.length<=m.length:=by
 intro l
 induction l with
 |nil=>intro m _ _;simp
 |cons a l ih=>
  intro m hl hm;obtain⟨h1,h2⟩:=BI.1 hl;have ha:=hm a (by simp)
  have:=ih (m:=m.erase a) h2 (λy hy=>by
   have hne:y≠a:=λe=>h1 (e▸hy);exact(BZ hne).2 (hm y (by simp[hy])))
  rw[Bh ha]at this;have hp:0<m.length:=length_pos_of_mem ha;simp only[BH];omega
theorem qev{qa:List Node}{c:qh}(h:qm qa c):c.done.length<=qa.length:=by
 have hn:=qkk h.order
 have hs:∀y∈c.done,y∈(range qa.length).map (λi:Nat=>(i:Int)):=λy hy=>by
  obtain⟨h0,h1,_⟩:=qgv h.order hy;obtain⟨j,rfl⟩:=AL h0;exact Br.2 ⟨j,AW.2 (by omega),rfl⟩
 have:=qph hn hs;simpa using this
theorem qsg(qa:List Node)(D:List Int):∀k,k<=qa.length->(qcd qa D k).Pairwise (·<=·):=by
 intro k
 induction k with
 |zero=>intro _;simp[qcd]
 |succ k ih=>
  intro hk;have hx:qa[k]?=some qa[k]:=AP (by omega);rw[qes D hx];split
  . rw[pairwise_append];refine⟨ih (by omega),by simp,λa ha b hb=>?_⟩;obtain rfl:b=(k:Int):=by simpa using hb
    obtain⟨i,h1,h2,_⟩:=(qkl (by omega)).1 ha;omega
  . exact ih (by omega)
theorem qsh(qa:List Node)(D:List Int):(qan qa D).Pairwise (·<=·):=by
 unfold qan;split
 . exact qsg qa D _ (Co _)
 . exact Pairwise.nil
theorem qta{qa:List Node}{F:List Int}:qj F=qan qa D↔F.Perm (qan qa D):=by
 constructor
 . intro h;rw[<-h];exact(qgx F).symm
 . intro h;exact(q2f h.symm (qsh qa D)).symm
theorem qgg(qa:List Node)(D:List Int):(qan qa D).length<=qa.length:=by
 unfold qan;split
 . exact qkj qa D _
 . simp
def qeh(qa:List Node)(cs:List Int)(x:Int):Bool:=(range qa.length).all λi=>decide (0<=cs.getD i 0)&&decide (cs.getD i 0<=((qb0 qa i).length:Int)) && !(has qa i x&&decide (cs.getD i 0=0))
def qbz(qa:List Node)(cs:List Int)(x:Int):Option (List Int×List Int):=
 if qae qa&&(decide (0<=x)&&decide (x<qa.length))&&decide (cs.length=qa.length)&&qeh qa cs x then some (qbh qa cs x,qbj qa cs x)else none
theorem qld{qa:List Node}(hv:qae qa=true)(h0:0<=x)(h1:x<qa.length)(hx:x∉D):qbz qa (lefts qa D) x=some (lefts qa (D++[x]),qbj qa (lefts qa D) x):=by
 unfold qbz;rw[if_pos,qjr hv hx h0];simp only[Ab,decide_eq_true_eq];refine⟨⟨⟨hv,h0,h1⟩,qeu qa D⟩,?_⟩;unfold qeh;rw[AT];intro i hi;have hi:=AW.1 hi;have e:(lefts qa D).getD i 0=(left qa D i:Int):=by rw[AQ,qla D hi];rfl
 have h2:=q4j qa D i;have h3:=qpu hv hx h0 i;rw[e];simp only[Ab,decide_eq_true_eq,Ah,Bool.and_eq_false_iff,decide_eq_false_iff_not];refine⟨⟨by omega,by omega⟩,?_⟩;by_cases hh:has qa i x=true
 . rw[if_pos hh]at h3;exact .inr (by omega)
 . exact .inl (by simpa using hh)
theorem qm.done{qa:List Node}{c:qh}(h:qm qa c)(hx:x∈qan qa c.done):qbz qa c.counts x=some (qbh qa c.counts x,qbj qa c.counts x):=by
 obtain⟨m,hm,rfl,hxD,hxf⟩:=(qc1 h.pv).1 hx;rw[h.counts,qld h.pv (AN m) (by omega) hxD,qjr h.pv hxD (AN m)]
def qew(qa:List Node)(c:qh):Int:=if qat qa c then (qa.length:Int)-c.done.length else -1
theorem qys{qa:List Node}{c:qh}(h:qm qa c)(hk:k<c.qb.length):qbt qa c (k:Int)=-1/\(∀i,i<c.qb.length->c.qb.getD i []=[]) ∨
   ∃f:Nat,qbt qa c (k:Int)=f/\f<c.qb.length/\c.qb.getD f []≠[]/\(f≠k->c.qb.getD k []=[]):=by
 have hn:0<c.qb.length:=by omega
 unfold qbt;rw[qbb.2 h,qbg.2 ⟨AN k,by omega⟩];simp only[Ai,if_true,AM];generalize hl:(range c.qb.length).map (λs=>(k+s)%c.qb.length)=l
 have hmem:∀i,i∈l->i<c.qb.length:=by
  intro i hi;rw[<-hl]at hi;obtain⟨s,_,rfl⟩:=Br.1 hi;exact Cr _ hn
 have hall:∀i,i<c.qb.length->i∈l:=by
  intro i hi;rw[<-hl];refine Br.2 ⟨(i+(c.qb.length-k))%c.qb.length,AW.2 (Cr _ hn),?_⟩;rw[Cu,Nat.mod_mod,<-Cu];have:k+(i+(c.qb.length-k))=i+c.qb.length:=by omega
  rw[this,Nat.add_mod_right,Ct hi]
 have qaU:∃t,l=k::t:=by
  obtain⟨m,hm⟩:∃m,c.qb.length=m+1:=⟨c.qb.length-1,by omega⟩;rw[<-hl,hm,range_succ_eq_map];exact⟨_,by simp only[map_cons,Nat.add_zero];rw[Ct (by omega)]⟩
 cases hf:l.find? (λi=>!decide (c.qb.getD i []=[]))with
 |none=>
  refine .inl ⟨rfl,λi hi=>?_⟩;have:=find?_eq_none.1 hf i (hall i hi);simpa using this
 |some f=>
  refine .inr ⟨f,rfl,hmem f (mem_of_find?_eq_some hf),?_,λhne=>?_⟩
  . have:=find?_some hf;simpa using this
  . obtain⟨t,rfl⟩:=qaU;by_cases he:c.qb.getD k []=[]
    . exact he
    . rw[find?_cons_of_pos (by simpa using he)]at hf;injection hf with hf;exact absurd hf.symm hne
theorem q4l{qa:List Node}{c:qh}(_h:qm qa c)(hl:c.done.length<qa.length):∃i:Nat,i<qa.length/\(i:Int)∉c.done:=by
 by_cases hc:∃i:Nat,i<qa.length/\(i:Int)∉c.done
 . exact hc
 . exfalso
   have hs:∀y∈(range qa.length).map (λi:Nat=>(i:Int)),y∈c.done:=λy hy=>by
    obtain⟨i,hi,rfl⟩:=Br.1 hy;by_cases hd:(i:Int)∈c.done
    . exact hd
    . exact absurd ⟨i,AW.1 hi,hd⟩ hc
   have hn:((range qa.length).map (λi:Nat=>(i:Int))).Nodup:=Pairwise.map _ (λa b hab e=>hab (by omega)) (BM (n:=qa.length));have:=qph hn hs;simp at this;omega
theorem qle{qa:List Node}{c:qh}(h:qm qa c)(hl:c.done.length<qa.length)(hk:k<c.qb.length):∃c',qa0 qa c (k:Int)=some c':=by
 obtain⟨i,hi,hd⟩:=q4l h hl;obtain⟨x,hx⟩:=q15 h.pv hi hd;have hxf:x∈c.qb.flatten:=h.dq.mem_iff.2 hx;obtain⟨d,hd1,hd2⟩:=mem_flatten.1 hxf;obtain⟨j,hj,rfl⟩:=BY.1 hd1
 have hjd:c.qb.getD j []≠[]:=by
  rw[AQ,AP hj];intro e;simp only[Option.getD_some]at e;rw[e]at hd2;cases hd2
 have hv:=qbb.2 h;unfold qa0;rcases qys h hk with ⟨_,h2⟩|⟨f,h1,h2,h3,h4⟩
 . exact absurd (h2 j hj) hjd
 . rw[h1,if_neg (by omega)];by_cases hfk:f=k
   . subst hfk;rw[if_pos rfl];unfold qch;rw[hv,qbg.2 ⟨AN f,by omega⟩];simp only[Ai,if_true,AM];cases hg:(c.qb.getD f []).getLast? with
     |none=>exact absurd (getLast?_eq_none_iff.1 hg) h3
     |some y=>exact⟨_,rfl⟩
   . rw[if_neg (by omega)];unfold qax;rw[hv,qbg.2 ⟨AN k,by omega⟩,qbg.2 ⟨AN f,by omega⟩];have hne:¬(k:Int)=(f:Int):=by omega
     simp only[AM,Ai,h4 hfk,decide_true,hne,decide_false,Bool.not_false,if_true];cases hg:c.qb.getD f []with
     |nil=>exact absurd hg h3
     |cons y r=>exact⟨_,rfl⟩
theorem qd6{qa:List Node}{c c':qh}{w:Int}(h:qa0 qa c w=some c'):qm qa c/\qm qa c'/\c'.qb.length=c.qb.length/\∃x,x∈qan qa c.done/\c'.done=c.done++[x]/\c'.rows=c.rows.set x.toNat (qcs qa x.toNat):=by
 unfold qa0 at h;split at h
 . cases h
 split at h
 . obtain⟨h1,k,r,x,rfl,hk,hd,hx,rfl,h2⟩:=qv2 h;exact⟨h1,h2,by show (set _ _ _).length=_;rw[AV];show (set _ _ _).length=_;rw[AV],x,hx,rfl,rfl⟩
 . obtain⟨h1,k,m,r,x,rfl,-,hk,hm,hkm,hd,hd2,hx,rfl,h2⟩:=qsf h;exact⟨h1,h2,by show (set _ _ _).length=_;rw[AV];show (set _ _ _).length=_;rw[AV],x,hx,rfl,rfl⟩
theorem qgh{qa:List Node}{c:qh}(h:qm qa c):0<=qew qa c/\qew qa c=(qa.length:Int)-c.done.length:=by
 have:=qev h;unfold qew;rw[qbb.2 h,if_pos rfl];omega
theorem q7i{qa:List Node}{c:qh}(h:qm qa c)(hl:qew qa c=0):c.rows=values qa:=by
 have hn:=(qgh h).2;have hlen:c.done.length=qa.length:=by omega
 apply Ba;intro i;by_cases hi:i<qa.length
 . have hd:(i:Int)∈c.done:=by
    by_cases hd:(i:Int)∈c.done
    . exact hd
    . exfalso
      have hs:∀y∈c.done,y∈((range qa.length).map (λi:Nat=>(i:Int))).erase (i:Int):=λy hy=>by
       obtain⟨h0,h1,_⟩:=qgv h.order hy;obtain⟨j,rfl⟩:=AL h0;have hne:(j:Int)≠(i:Int):=λe=>hd (by rw[<-e];exact hy);exact(BZ hne).2 (Br.2 ⟨j,AW.2 (by omega),rfl⟩)
      have:=qph (qkk h.order) hs;rw[Bh (Br.2 ⟨i,AW.2 hi,rfl⟩)]at this;simp at this;omega
   rw[h.rows i hi,qit hi];unfold qee;rw[if_pos hd]
 . rw[AS (by rw[h.rl];omega),AS (by rw[qf9];omega)]
def dealt(qa:List Node)(n k:Nat):List (List Int):=((qan qa []).take k).zipIdx.foldl (λL x=>L.set (x.2%n) (L.getD (x.2%n) []++[x.1])) (replicate n [])
def qbk(qa:List Node)(workers:Int):Option qh:=
 if qae qa&&(decide (1<=workers)&&decide (workers<=4))then
  some {qb:=dealt qa workers.toNat (qan qa []).length,counts:=qa7 qa,done:=[],rows:=replicate qa.length []}
 else none
theorem qpw(n:Nat)(hn:0<n)(R:List Int):∀k,k<=R.length->((R.take k).zipIdx.foldl (λL x=>L.set (x.2%n) (L.getD (x.2%n) []++[x.1])) (replicate n [])).length=n /\
   ((R.take k).zipIdx.foldl (λL x=>L.set (x.2%n) (L.getD (x.2%n) []++[x.1])) (replicate n [])).flatten.Perm (R.take k):=by
 intro k
 induction k with
 |zero=>
  intro _;refine⟨by simp,?_⟩;have:(replicate n ([]:List Int)).flatten=[]:=by simp
  simp[this]
 |succ k ih=>
  intro hk;obtain⟨h1,h2⟩:=ih (by omega);rw[AR (by omega),zipIdx_append,Bs];have hl:(R.take k).length=k:=by rw[AU];omega
  generalize (R.take k).zipIdx.foldl (λL x=>L.set (x.2%n) (L.getD (x.2%n) []++[x.1])) (replicate n [])=L at h1 h2 |-;rw[hl];simp only[zipIdx_cons,zipIdx_nil,Bj,foldl_nil,Nat.zero_add];refine⟨by rw[AV];exact h1,?_⟩;have hm:k%n<L.length:=by rw[h1];exact Cr _ hn
  have p1:=qlb hm (L.getD (k%n) []++[R[k]]);have p2:=qlc (getD_some hm);refine p1.trans ?_;rw[AX];refine(Cg _ BF).trans ?_;rw[<-AX];exact Cj _ (p2.symm.trans h2)
theorem qiv{qa:List Node}{n:Int}{c:qh}(h:qbk qa n=some c):qm qa c/\(c.qb.length:Int)=n:=by
 unfold qbk at h;split at h
 . rename_i hc;simp only[Ab,decide_eq_true_eq]at hc;obtain⟨hv,h1,h4⟩:=hc;injection h with h;obtain⟨m,rfl⟩:=AL (show 0<=n by omega);obtain⟨g1,g2⟩:=qpw m (by omega) (qan qa []) _ (Co _);rw[Bm]at g2;have e:dealt qa m (qan qa []).length=((qan qa []).take (qan qa []).length).zipIdx.foldl (λL x=>L.set (x.2%m) (L.getD (x.2%m) []++[x.1])) (replicate m []):=rfl;rw[<-Bm (l:=qan qa [])]at g2;rw[Bm]at g2;subst h;refine⟨⟨hv,?_,?_,rfl,(qpv qa).symm,by simp,?_,λi hi=>?_⟩,?_⟩
   . show 1<=(dealt qa _ _).length;rw[AM,e,g1];omega
   . show (dealt qa _ _).length<=4;rw[AM,e,g1];omega
   . show (dealt qa _ _).flatten.Perm _;rw[AM,e,Bm];exact g2
   . show (replicate qa.length [])[i]?=_;rw[BP,if_pos hi];rfl
   . show ((dealt qa _ _).length:Int)=_;rw[AM,e,g1]
 . cases h
theorem q16{qa:List Node}{c:qh}(h:qm qa c){nd:Node}(hx:qa[m]?=some nd)(hr:(m:Int)∈qan qa c.done):q9 nd c.rows=qcs qa m:=by
 obtain⟨m',hm,e,hxD,hxf⟩:=(qc1 h.pv).1 hr;obtain rfl:m=m':=by omega
 rw[qm0 hx];unfold q9;by_cases hk:nd.kind=0
 . rw[if_pos hk,if_pos hk]
 . rw[if_neg hk,if_neg hk]
   have e:nd.frm.map (λi=>c.rows.getD i.toNat [])=nd.frm.map (λi=>(qbo qa m).getD i.toNat []):=by
    refine BJ λf hf=>?_;rw[<-qdh hx]at hf;have hfD:=hxf f hf;obtain⟨h0,h1,_⟩:=qeg h.pv hf;obtain⟨j,rfl⟩:=AL h0;rw[AM];have h2:=h.rows j (by omega);unfold qee at h2;rw[if_pos hfD]at h2;rw[AQ,h2];show qcs qa j=_;unfold qcs values;exact qht qa (by omega) (by omega)
   rw[e]
def qa5(d:List Int):Bool:=decide (d.length<=10)&&d.all (λx=>decide (0<=x)&&decide (x<=9))&&decide d.Nodup
theorem qby:qa5 d=true↔d.length<=10/\(∀x∈d,0<=x/\x<=9)/\d.Nodup:=by
 unfold qa5;simp only[Ab,decide_eq_true_eq,AT,and_assoc]
theorem qm.xK{qa:List Node}{c:qh}(h:qm qa c)(hd:c.qb[k]?=some d):qa5 d=true:=by
 have hf:=(qlc hd).symm.trans h.dq;have zF:=qam h.pv;have hlen:=hf.length_eq;rw[Bf]at hlen;have hrl:=qgg qa c.done;refine qby.2 ⟨by omega,λx hx=>?_,?_⟩
 . obtain⟨i,hi,rfl,_⟩:=(qc1 h.pv).1 (hf.mem_iff.1 (C6 _ hx));omega
 . have:=(hf.nodup_iff).2 (qfz qa c.done);exact(Bq.1 this).1
def qff(qa:List Node)(cs:List Int)(x:Int)(k:Nat):List Int:=cs.zipIdx.map λy:Int×Nat=>if has qa y.2 x&&decide (y.2<k)then y.1-1 else y.1
def qcn(qa:List Node)(cs:List Int)(x:Int)(k:Nat):List Int:=((range k).filter λi=>has qa i x&&decide (cs.getD i 0=1)).map (λi:Nat=>(i:Int))
theorem qyt(qa:List Node)(cs:List Int)(x:Int):qff qa cs x 0=cs:=by
 apply Ba;intro i;unfold qff;rw[Bc,Bu];cases cs[i]?<;>simp
theorem q17{qa:List Node}(x:Int)(h:cs.length<=k):qff qa cs x k=qbh qa cs x:=by
 apply Ba;intro i;unfold qff qbh;rw[Bc,Bc,Bu];by_cases hi:i<cs.length
 . rw[AP hi];have:i<k:=by omega
   simp[this]
 . rw[AS (by omega)];rfl
theorem qga(qa:List Node)(cs:List Int)(x:Int)(k:Nat):(qff qa cs x k).length=cs.length:=by unfold qff;rw[Bi,C9]
theorem qgb{qa:List Node}{c:Int}(h:cs[i]?=some c):(qff qa cs x k)[i]?=some (if has qa i x&&decide (i<k)then c-1 else c):=by
 unfold qff;rw[Bc,Bu,h];simp
theorem qyu{qa:List Node}{c:Int}(h:cs[k]?=some c)(hh:has qa k x=true):qff qa cs x (k+1)=(qff qa cs x k).set k (c-1):=by
 have hk:=(AO.1 h).1;apply Ba;intro i;by_cases hi:i<cs.length
 . have hc:cs[i]?=some cs[i]:=AP hi;by_cases hik:i=k
   . subst hik;obtain rfl:c=cs[i]:=by rw[hc]at h;exact(Option.some.inj h).symm
     rw[qgb hc,Bn (by rw[qga];exact hi),hh];simp
   . rw[qgb hc,Bv (λe=>hik e.symm),qgb hc];have:(i<k+1)↔(i<k):=by omega
     simp only[this]
 . rw[AS (by rw[qga];omega),AS (by rw[AV,qga];omega)]
theorem qyv{qa:List Node}(hh:has qa k x=false):qff qa cs x (k+1)=qff qa cs x k:=by
 apply Ba;intro i;by_cases hi:i<cs.length
 . have hc:cs[i]?=some cs[i]:=AP hi;rw[qgb hc,qgb hc];by_cases hik:i=k
   . subst hik;simp[hh]
   . have:(i<k+1)↔(i<k):=by omega
     simp only[this]
 . rw[AS (by rw[qga];omega),AS (by rw[qga];omega)]
theorem qiw(qa:List Node)(cs:List Int)(x:Int)(k:Nat):qcn qa cs x (k+1)=qcn qa cs x k++(if has qa k x&&decide (cs.getD k 0=1)then [(k:Int)]else []):=by
 unfold qcn;rw[BN,BB,BO];congr 1;by_cases h:(has qa k x&&decide (cs.getD k 0=1))=true
 . rw[if_pos h,Ce,if_pos h];rfl
 . rw[if_neg h,Ce,if_neg h];rfl
def qf1(qa:List Node)(k:Nat)(i:Nat):Int:=((qb0 qa i).countP (λf:Nat=>decide (f<k)):Nat)
def qgi(qa:List Node)(k t:Nat)(i:Nat):Int:=qf1 qa k i+if i∈(qb1 qa k).take t then 1 else 0
def xL(f:Nat->Int)(u:Nat)(x:Int):Nat->Int:=λi=>if i=u then x else f i
theorem q2a(qa:List Node):qf1 qa 0=λ_=>0:=by
 funext i;unfold qf1;rw[C8.2 (by simp)];rfl
theorem qpx(qa:List Node)(k:Nat):qgi qa k 0=qf1 qa k:=by
 funext i;unfold qgi;simp
theorem qpy{l:List Nat}(hn:l.Nodup)(k:Nat):l.countP (λf=>decide (f<k+1))=l.countP (λf=>decide (f<k))+if k∈l then 1 else 0:=by
 induction l with
 |nil=>simp
 |cons a r ih=>
  obtain⟨h1,h2⟩:=BI.1 hn;have ih:=ih h2;rw[Cf,Cf,ih];by_cases e:a=k
  . subst e;rw[if_neg h1];simp
  . have hm:(k∈a::r)↔k∈r:=⟨λh=>by rcases Bb.1 h with h|h;exact absurd h.symm e;exact h,C0 _⟩;have hd:decide (a<k+1)=decide (a<k):=by rw[decide_eq_decide];omega
    simp only[hm,hd];omega
theorem q2b{qa:List Node}(hv:qae qa=true)(ht:(qb1 qa k).length<=t):qgi qa k t=qf1 qa (k+1):=by
 funext i;unfold qgi qf1;rw[AZ ht,qpy (qlm qa i)];by_cases h:k∈qb0 qa i
 . have hi:i < qa.length:=by
    have:=qeg hv ((qgf hv).1 h);exact this.2.2
   rw[if_pos (qgk.2 ⟨hi,h⟩),if_pos h];omega
 . rw[if_neg (λe=>h (qgk.1 e).2),if_neg h];omega
theorem qyw{qa:List Node}(hu:(qb1 qa k)[t]?=some u):qgi qa k (t+1)=xL (qgi qa k t) u (qgi qa k t u+1):=by
 obtain⟨ht,rfl⟩:=AO.1 hu;funext i
 have hno:(qb1 qa k)[t]∉(qb1 qa k).take t:=by
  intro h;obtain⟨j,hj,e⟩:=Bg.1 h;have:=(Cd (qln qa k)).1 e;omega
 unfold xL qgi;rw[AR ht];by_cases e:i=(qb1 qa k)[t]
 . rw[if_pos e,if_pos (by rw[e];exact BU _ (Bz.2 rfl)),if_neg hno,e];omega
 . rw[if_neg e];have:(i∈(qb1 qa k).take t++[(qb1 qa k)[t]])↔i∈(qb1 qa k).take t:=by rw[Be,Bz,or_iff_left e]
   simp only[this]
theorem qv6{qa:List Node}(hv:qae qa=true)(k t i:Nat):0<=qgi qa k t i/\qgi qa k t i<=3:=by
 have h2:(qb0 qa i).length<=2:=by
  rw[qge];refine Cn (qp5 _) ?_;by_cases hi:i<qa.length
  . rw[qdh (AP hi)];exact(qbf hv (AP hi)).2.1
  . rw[qvy (by omega)];simp
 have h3:(qb0 qa i).countP (λf:Nat=>decide (f<k))<=(qb0 qa i).length:=BV;unfold qgi qf1;split<;>omega
theorem qpz{qa:List Node}(hv:qae qa=true)(i:Nat):qf1 qa qa.length i=((qb0 qa i).length:Int):=by
 unfold qf1;rw[BW.2];intro f hf;have:=qeg hv ((qgf hv).1 hf);simp only[decide_eq_true_eq];omega
theorem q2c{qa:List Node}(hv:qae qa=true):(range qa.length).map (qf1 qa qa.length)=qa7 qa:=by
 unfold qa7;apply BJ;intro i _;exact qpz hv i
def qj0(f:Nat->Int)(cs:List Int):Nat->Int:=λi=>cs.getD i (f i)
theorem qlh{c:Int}(h:cs[i]?=some c):qj0 f cs i=c:=by
 unfold qj0;rw[AQ,h];rfl
def qef(f:Nat->Int)(us:List Nat)(t:Nat):Nat->Int:=λi=>f i-if i∈us.take t then 1 else 0
def qX(f:Nat->Int)(us:List Nat)(t:Nat):List Int:=((us.take t).filter (λu=>decide (f u=1))).map (λu:Nat=>(u:Int))
theorem qv7(f:Nat->Int)(us:List Nat):qef f us 0=f:=by
 funext i;unfold qef;simp
theorem qny(hn:us.Nodup)(hu:us[t]?=some u):u∉us.take t:=by
 obtain⟨ht,rfl⟩:=AO.1 hu;intro h;obtain⟨j,hj,e⟩:=Bg.1 h;have:=(Cd hn).1 e;omega
theorem q2d(hn:us.Nodup)(hu:us[t]?=some u):qef f us t u=f u:=by
 unfold qef;rw[if_neg (qny hn hu)];omega
theorem qnz(hn:us.Nodup)(hu:us[t]?=some u):qef f us (t+1)=xL (qef f us t) u (f u-1):=by
 have hno:=qny hn hu;obtain⟨ht,rfl⟩:=AO.1 hu;funext i;unfold xL qef;rw[AR ht];by_cases e:i=us[t]
 . rw[if_pos e,if_pos (by rw[e];exact BU _ (Bz.2 rfl)),e]
 . rw[if_neg e];have:(i∈us.take t++[us[t]])↔i∈us.take t:=by rw[Be,Bz,or_iff_left e]
   simp only[this]
theorem qyx(hu:us[t]?=some u):qX f us (t+1)=qX f us t++(if f u=1 then [(u:Int)]else []):=by
 obtain⟨ht,rfl⟩:=AO.1 hu;unfold qX;rw[AR ht,BB,BO];by_cases h:f us[t]=1
 . simp[h]
 . simp[h]
theorem q2e(f:Nat->Int)(us:List Nat)(t:Nat):(qX f us t).length<=t:=by
 unfold qX;rw[Bi];refine Cn (BG _ _) ?_;rw[AU];exact Nat.min_le_left _ _
theorem qgj{qa:List Node}(hv:qae qa=true){x:Nat}:i∈qb1 qa x↔i<qa.length/\has qa i (x:Int)=true:=by
 rw[qgk];unfold has;rw[decide_eq_true_eq,qgf hv]
theorem qv8{qa:List Node}(hv:qae qa=true)(hl:cs.length=qa.length)(f:Nat->Int)(x t:Nat)(ht:(qb1 qa x).length<=t) :
   (range qa.length).map (qef (qj0 f cs) (qb1 qa x) t)=qbh qa cs (x:Int):=by
 apply Ba;intro i;by_cases hi:i<qa.length
 . have hg:cs[i]?=some cs[i]:=AP (by omega);rw[qj2 hg,Bc,C7 hi];show some _=_;congr 1;unfold qef;rw[AZ ht,qlh hg];by_cases h:has qa i (x:Int)=true
   . rw[if_pos ((qgj hv).2 ⟨hi,h⟩),if_pos h]
   . rw[if_neg (λe=>h ((qgj hv).1 e).2),if_neg h];omega
 . rw[AS (by simp;omega),AS (by rw[qha];omega)]
theorem qv9{qa:List Node}(hv:qae qa=true)(hl:cs.length=qa.length)(f:Nat->Int)(x t:Nat)(ht:(qb1 qa x).length<=t) :
   qX (qj0 f cs) (qb1 qa x) t=qbj qa cs (x:Int):=by
 unfold qX qbj qb1;rw[AZ (by unfold qb1 at ht;exact ht),filter_filter];congr 1;apply filter_congr;intro i hi;have hi:=AW.1 hi;have hg:cs[i]?=some cs[i]:=AP (by omega);have e1:qj0 f cs i=cs.getD i 0:=by rw[qlh hg,AQ,hg];rfl
 have e2:decide (x∈qb0 qa i)=has qa i (x:Int):=by
  unfold has;rw[decide_eq_decide];exact qgf hv
 rw[e1,e2,Bool.and_comm]
theorem qsi{qa:List Node}(hv:qae qa=true){x:Nat}(hu:(qb1 qa x)[t]?=some u)(hz:cs.getD u 0=0):qeh qa cs (x:Int)=false:=by
 have hm:=(qgj hv).1 (Bt hu);unfold qeh;rw[BL];refine⟨u,AW.2 hm.1,?_⟩;rw[hm.2,hz];simp
theorem qp0{qa:List Node}{c:Int}(hi:i<qa.length)(hc:cs[i]?=some c)(h:¬(0<=c/\c<=((qb0 qa i).length:Int))):qeh qa cs x=false:=by
 unfold qeh;rw[BL];refine⟨i,AW.2 hi,?_⟩;rw[AQ,hc];simp only[Option.getD_some,Ab,decide_eq_true_eq];exact λe=>h e.1
theorem qud{qa:List Node}(hv:qae qa=true)(hl:cs.length=qa.length){x:Nat}(h1:∀i c,cs[i]?=some c->0<=c/\c<=((qb0 qa i).length:Int))(h2:∀u∈qb1 qa x,cs.getD u 0≠0):qeh qa cs (x:Int)=true:=by
 unfold qeh;rw[AT];intro i hi;have hi:=AW.1 hi;have hg:cs[i]?=some cs[i]:=AP (by omega);have hd:cs.getD i 0=cs[i]:=by rw[AQ,hg];rfl
 have h3:=h1 i _ hg;rw[hd,decide_eq_true h3.1,decide_eq_true h3.2];by_cases h:has qa i (x:Int)=true
 . have:=h2 i ((qgj hv).2 ⟨hi,h⟩);rw[hd]at this;simp[this]
 . simp[h]
end
section
open Go.RowKit
section
variable {a b c w w':Am}{row:Option Nat}
theorem qag(w:Am)(row:Option Nat):w.grownBy w row:=⟨rfl,rfl,rfl,Co _,λ_ _ _=>rfl⟩
theorem qac(h:a.grownBy b row)(k:b.grownBy c row):a.grownBy c row:=
 ⟨k.os.trans h.os,k.tape.trans h.tape,k.output.trans h.output,Cn h.size k.size,λi hi hr=>(k.block i (Cs hi h.size) hr).trans (h.block i hi hr)⟩
theorem qa2{row':Option Nat}(h:a.grownBy b row)(k:b.grownBy c row')(hg:∀g,row'=some g->a.heap.size<=g∨row=some g):a.grownBy c row:=
 ⟨k.os.trans h.os,k.tape.trans h.tape,k.output.trans h.output,Cn h.size k.size,λi hi hr=>(k.block i (Cs hi h.size) (λe=>by
  rcases hg i e.symm with h1|h1
  . omega
  . exact hr h1.symm)).trans (h.block i hi hr)⟩
theorem qmy(h:a.grownBy b row)(k:b.grownBy c none):a.grownBy c row:=qa2 h k (λ_ e=>by cases e)
theorem qyo(h:a.grownBy b none)(row:Option Nat):a.grownBy b row:=⟨h.os,h.tape,h.output,h.size,λi hi _=>h.block i hi (by simp)⟩
theorem qay(h:a.grownBy w row):a.grownBy w.drew row:=⟨h.os,h.tape,h.output,h.size,h.block⟩
theorem qca(h:a.grownBy w row)(n:Nat):a.grownBy (w.drewN n) row:=⟨h.os,h.tape,h.output,h.size,h.block⟩
theorem qaq(h:a.grownBy w row)(o:Obj):a.grownBy (w.alloc o) row:=
 qa2 h (AE w o none) (λ_ e=>by cases e)
theorem qa3(h:a.grownBy w row)(hp:a.heap.size<=p.block∨row=some p.block)(u:Ap):a.grownBy (w.setCell p u) row:=
 qa2 (row':=some p.block) h ⟨rfl,rfl,rfl,by simp[World.setCell],λi _ hne=>AD w p u i (λe=>hne (by rw[e]))⟩ (λg e=>by cases e;exact hp)
theorem q7g(h:a.grownBy w none):Below a.heap.size a w:=⟨h.os,h.tape,h.output,h.size,λi hi=>h.block i hi (by simp)⟩
theorem qyp(h:Below a.heap.size a w)(row:Option Nat):a.grownBy w row:=⟨h.os,h.tape,h.output,h.size,λi hi _=>h.block i hi⟩
theorem q12{base:Nat}(h:a.grownBy w row)(hr:∀g,row=some g->base<=g)(hb:base<=a.heap.size:=by omega):Below base a w:=⟨h.os,h.tape,h.output,h.size,λi hi=>h.block i (by omega) (λe=>by have:=hr i e.symm;omega)⟩
theorem qis(h:a.grownBy w row)(hp:p.block<a.heap.size)(hne:row≠some p.block):w.cell? p=a.cell? p:=World.cell?_of_block (h.block p.block hp (λe=>hne e.symm))
end
theorem q9r(w:Am)(g:Nat)(u v x:Ap):w.grownBy (((w.setCell ⟨g,0,none⟩ u).setCell ⟨g,1,none⟩ v).setCell ⟨g,2,none⟩ x) (some g):=
 qa3 (qa3 (qa3 (qag w (some g)) (.inr rfl) u) (.inr rfl) v) (.inr rfl) x
def Blk(w:Am)(g:Nat)(t:As)(cs:Array Ap):Prop:=w.heap[g]?=some (.cells cs t (0,0))
section
variable {w w':Am}{g:Nat}{t:As}{cs:Array Ap}
theorem Blk.lt(h:Blk w g t cs):g<w.heap.size:=(Array.getElem?_eq_some_iff.1 h).1
theorem Blk.cell(h:Blk w g t cs)(i:Nat):w.cell? ⟨g,i,none⟩=cs[i]?:=Ax w g i cs t (0,0) h
theorem Blk.frozen(h:Blk w g t cs)(i:Nat):w.frozen? ⟨g,i,none⟩=false:=frozen_of_row w g i cs t h
theorem Blk.new(w:Am)(t:As)(cs:Array Ap):Blk (w.alloc (.cells cs t)) w.heap.size t cs:=heap_alloc_new w _
theorem Blk.drew(h:Blk w g t cs):Blk w.drew g t cs:=h
theorem Blk.alloc(h:Blk w g t cs)(o:Obj):Blk (w.alloc o) g t cs:=(AB w o g h.lt).trans h
theorem Blk.qC(h:Blk w g t cs)(i:Nat)(u:Ap):Blk (w.setCell ⟨g,i,none⟩ u) g t (cs.setIfInBounds i u):=heap_setCell_same w g i cs t u h
theorem Blk.far(h:Blk w g t cs)(hp:g≠p.block)(u:Ap):Blk (w.setCell p u) g t cs:=(AD w p u g hp).trans h
theorem Blk.grown(h:Blk w g t cs)(hb:w.grownBy w' row)(hg:some g≠row):Blk w' g t cs:=(hb.block g h.lt hg).trans h
theorem Blk.ne_{g':Nat}{t':As}{cs':Array Ap}(h:Blk w g t cs)(k:Blk w g' t' cs')(ht:t≠t'):g≠g':=by
 rintro rfl;unfold Blk at h k;rw[h]at k;injection k with k;injection k with _ k;exact ht k
end
def qg(w:Am)(E:As)(row:Option Nat):Prop:=∀g,row=some g->∀cur,¬Blk w g E cur
theorem qg.none(w:Am)(E:As):qg w E none:=λ_ e=>by cases e
theorem qg.blk{cs:Array Ap}(h:Blk w g E' cs)(hne:E≠E'):qg w E (some g):=λg' e cur hc=>by
 cases e;exact hc.ne_ h hne rfl
theorem qg.own{base:Nat}(h:w.ownsRow base E' size v n xs)(hne:E≠E'):qg w E v.ownBlock:=by
 rcases h.2 with ⟨rfl,_⟩|⟨g,cap,cur,rfl,_,hg,_⟩
 . exact qg.none w E
 . exact qg.blk (cs:=cur) hg hne
def TS(w:Am)(E:As)(size:Nat)(v:Ap)(n:Nat)(xs:List Ap):Prop:=
 xs.length=n*size/\∃A c,v=.slice A n c/\n<=c/\c<=maxLen/\(A=none->c=0) /\
  (n=0∨∃g o cur,A=some ⟨g,o,none⟩/\Blk w g E cur/\∀j u,xs[j]?=some u->cur[o+j]?=some u)
section
variable {w w':Am}{E:As}{size n:Nat}{v:Ap}{xs:List Ap}
theorem TS.form(h:TS w E size v n xs):∃A c,v=.slice A n c/\n<=c/\c<=maxLen/\(A=none->c=0):=
 let ⟨_,A,c,h1,h2,h3,h4,_⟩:=h;⟨A,c,h1,h2,h3,h4⟩
theorem TS.le(h:TS w E size v n xs):n<=9223372036854775807:=by
 obtain⟨A,c,_,h2,h3,_⟩:=h.form;unfold maxLen at h3;omega
theorem TS.nil(w:Am)(E:As)(size:Nat):TS w E size (.slice none 0 0) 0 []:=⟨by simp,none,0,rfl,by simp,by simp,by simp,.inl rfl⟩
theorem TS.at_(h:TS w E size (.slice A n c) n xs)(hn:0<n) :
   ∃g o cur,A=some ⟨g,o,none⟩/\Blk w g E cur/\∀j u,xs[j]?=some u->w.cell? ⟨g,o+j,none⟩=some u:=by
 obtain⟨_,A',c',h1,_,_,_,h5⟩:=h;injection h1 with h1 _ _;subst h1;rcases h5 with h5|⟨g,o,cur,rfl,hb,hc⟩
 . omega
 . exact⟨g,o,cur,rfl,hb,λj u hu=>(hb.cell _).trans (hc j u hu)⟩
theorem TS.grown(h:TS w E size v n xs)(hg:w.grownBy w' row)(hr:qg w E row):TS w' E size v n xs:=by
 obtain⟨h0,A,c,h1,h2,h3,h4,h5⟩:=h;refine⟨h0,A,c,h1,h2,h3,h4,?_⟩;rcases h5 with h5|⟨g,o,cur,hA,hb,hc⟩
 . exact .inl h5
 . exact .inr ⟨g,o,cur,hA,hb.grown hg (λe=>hr g e.symm cur hb),hc⟩
theorem TS.new(h:TS w E size v n xs)(hg:w.grownBy w' none):TS w' E size v n xs:=h.grown hg (qg.none _ _)
theorem TS.j8{base:Nat}(h:w.ownsRow base E size v n xs):TS w E size v n xs:=by
 refine⟨h.1,?_⟩;rcases h.2 with ⟨rfl,rfl⟩|⟨g,cap,cur,rfl,_,hg,hn,hcm,_,ht⟩
 . exact⟨none,0,rfl,by simp,by simp,by simp,.inl rfl⟩
 . refine⟨some ⟨g,0,none⟩,cap,rfl,hn,hcm,by simp,.inr ⟨g,0,cur,rfl,hg,λj u hu=>?_⟩⟩;rw[<-ht,BA]at hu;split at hu
   . simpa using hu
   . cases hu
end
def RI(w:Am)(v:Ap)(l:List Int):Prop:=TS w 3 1 v l.length (l.map (.int .i64))
section
variable {w w':Am}{v:Ap}{l:List Int}
theorem RI.at_(h:RI w (.slice A n c) l)(hk:k<n):∃g o x,A=some ⟨g,o,none⟩/\l[k]?=some x/\w.cell? ⟨g,o+k,none⟩=some (.int .i64 x):=by
 have hn:n=l.length:=by
  obtain⟨A',c',h1,_⟩:=h.form;injection h1
 subst hn;obtain⟨g,o,cur,rfl,_,hc⟩:=TS.at_ h (by omega);refine⟨g,o,l[k],rfl,AP hk,hc k _ ?_⟩;simp[hk]
theorem RI.len(h:RI w (.slice A n c) l):n=l.length:=by
 obtain⟨A',c',h1,_⟩:=h.form;injection h1
theorem RI.val(h:RI w v l):∃A n c,v=.slice A n c:=by
 obtain⟨A,c,h1,h2,_⟩:=h.form;exact⟨A,_,c,h1⟩
theorem RI.form'(h:RI w v l):∃A n c,v=.slice A n c/\n<=c/\n=l.length:=by
 obtain⟨A,c,h1,h2,_⟩:=h.form;exact⟨A,_,c,h1,h2,rfl⟩
end
theorem q4h{Q:Exit->Act->Am->Prop}{cs:Array Ap}
   (s x:At) (t:As) (z:Ap) (size bytes:Nat) (ht:P.underlying t=some (.slice E)) (yN:(P.info? E).map (λi=>(i.zero,i.size,i.bytes))=some (some z,size,bytes))
   (hzs:z.cells.size=size) (hsz:0<size) (hby:bytes<=128) (hgd:o.guard=none)
   (ho:o.op=.call {callee:=.builtin .append,args:=#[s,x],argTypes:=#[t,t]})
   {base:Nat}    (hown:w.ownsRow base E size v n xs) (hn:n<=1000000000) (hbase:base<=w.heap.size)
   (hcs:cs.size=size) (h1:∀u∈cs.toList,u.oneCell'=true) (hs:a.eval s=v) (hx:a.eval x=.slice (some ⟨w.heap.size,0,none⟩) 1 1)
   (h:∀v' w',w'.ownsRow base E size v' (n+1) (xs++cs.toList)->w.grownBy w' v.ownBlock->v'≠.slice none 0 0->wpList P ops Q rest (a.put o.dst v') w') :
   wpList P ops Q (o::rest) a (w.alloc (.cells cs E)):=by
 obtain⟨i,hi,hz0,hz1,hz2⟩:=Ay yN;refine wpList_append_own _ hgd s x t ho base E i z size bytes ht hi hz0 hz1 hz2 hzs hsz v n xs hs (hown.alloc _) ⟨w.heap.size,0,none⟩ 1 1 cs.toList hx (by simpa using hcs) ?_ h1 ?_ ?_ ?_ ?_
 . intro j u hj;have hadd:(⟨w.heap.size,0,none⟩:Addr).add j=⟨w.heap.size,j,none⟩:=by unfold Addr.add;split<;>simp_all
   rw[hadd,AF];simpa using hj
 . unfold maxLen;omega
 . calc (n+1) * bytes<=(n+1) * 128:=Cq _ hby
    _<=140737488355328:=by omega
 . simp;omega
 . intro v' w' ho' hg hnil;refine h v' w' ho' ?_ ?_
   . exact⟨hg.os,hg.tape,hg.output,Cn (by simp) hg.size,λk hk hne=>(hg.block k (by simp;omega) hne).trans (AB w _ k hk)⟩
   . intro e;have:=(hnil.1 e).2;omega
theorem qce{w':Am}{base:Nat}(h:w.ownsRow base E size v n xs)(hg:w.grownBy w' row)(hr:qg w E row):w'.ownsRow base E size v n xs:=by
 refine h.kept hg ?_;rcases h.2 with ⟨rfl,_⟩|⟨g,cap,cur,rfl,_,hh,_⟩
 . exact .inl rfl
 . right;intro e;exact hr g (e.symm.trans rfl) cur hh
theorem qvw{base:Nat}(hb:base<=w.heap.size):(w.alloc (.cells #[] E)).ownsRow base E size (.slice (some ⟨w.heap.size,0,none⟩) 0 0) 0 []:=
 World.ownsRow_made w #[] 0 hb (by unfold maxLen;omega) (by simp)
theorem qiq:(Az.info? 3).map (λi=>(i.zero,i.size,i.bytes))=some (some (.int .i64 0),1,8):=by kernel_rfl
def qf(w:Am)(base:Nat)(v:Ap)(l:List Int):Prop:=w.ownsRow base 3 1 v l.length (l.map (.int .i64))
section
variable {w w':Am}{base:Nat}{v:Ap}{l:List Int}
theorem qf.grown(h:qf w base v l)(hg:w.grownBy w' row)(hr:qg w 3 row):qf w' base v l:=qce h hg hr
theorem qf.new(h:qf w base v l)(hg:w.grownBy w' none):qf w' base v l:=qce h hg (qg.none _ _)
theorem qf.alloc(h:qf w base v l)(o:Obj):qf (w.alloc o) base v l:=h.new (AE w o none)
theorem qf.ri(h:qf w base v l):RI w v l:=TS.j8 h
theorem qf.jl(h:qf w base v l)(hE:E≠3):qg w E v.ownBlock:=qg.own h hE
theorem qf.lt(h:qf w base v l):∀g,v.ownBlock=some g->base<=g/\g<w.heap.size:=AI h
theorem qf.empty(w:Am){base:Nat}(hb:base<=w.heap.size):qf (w.alloc (.cells #[] 3)) base (.slice (some ⟨w.heap.size,0,none⟩) 0 0) []:=qvw hb
theorem qf.nil(w:Am)(base:Nat):qf w base (.slice none 0 0) []:=AG _ _ _ _
theorem qf.form(h:qf w base v l)(hl:0<l.length):∃g cap cur,v=.slice (some ⟨g,0,none⟩) l.length cap/\l.length<=cap/\base<=g/\Blk w g 3 cur/\∀j x,l[j]?=some x->w.cell? ⟨g,j,none⟩=some (.int .i64 x):=by
 rcases h.2 with ⟨rfl,h0⟩|⟨g,cap,cur,rfl,hb,hh,hn,_,_,ht⟩
 . omega
 . refine⟨g,cap,cur,rfl,hn,hb,hh,λj x hx=>?_⟩;have hc:=AJ (g:=g) (cap:=cap) h j (by have:=(AO.1 hx).1;omega);rw[hc];simp[hx]
theorem qf.qC(h:qf w base (.slice (some ⟨g,0,none⟩) n cap) l)(hn:n=l.length)(j:Nat)(x:Int):qf (w.setCell ⟨g,j,none⟩ (.int .i64 x)) base (.slice (some ⟨g,0,none⟩) n cap) (l.set j x):=by
 subst hn;have k:=(AH h j (.int .i64 x)).1;unfold qf;rw[AV,map_set];exact k
theorem qf.gb{a:Am}(h:qf w base v l)(hg:a.grownBy w row)(k:w.grownBy w' v.ownBlock)(hb:a.heap.size<=base):a.grownBy w' row:=
 qa2 hg k (λg e=>.inl (Cn hb (h.lt g e).1))
end
theorem qcq{Q:Exit->Act->Am->Prop}{u:Int}
   (s x:At) (hgd:o.guard=none) (ho:o.op=.call {callee:=.builtin .append,args:=#[s,x],argTypes:=#[24,24]})
   {base:Nat}   (hown:qf w base v l) (hn:l.length<=1000000000) (hbase:base<=w.heap.size)
   (hs:a.eval s=v) (hx:a.eval x=.slice (some ⟨w.heap.size,0,none⟩) 1 1)
   (h:∀v' w',qf w' base v' (l++[u])->w.grownBy w' v.ownBlock->wpList Az ops Q rest (a.put o.dst v') w') :
   wpList Az ops Q (o::rest) a (w.alloc (.cells #[.int .i64 u] 3)):=
 q4h s x 24 (.int .i64 0) 1 8 AA qiq rfl (by decide) (by decide) hgd ho hown hn hbase rfl (by simp[oneCell']) hs hx
  λv' w' h1 h2 _=>h v' w' (by unfold qf;simpa using h1) h2
theorem qt8{K:Act->Am->Prop}{Q:Exit->Act->Am->Prop}{E:Prop}{u:Int}
   (s x:At) (hgd:o.guard=none) (ho:o.op=.call {callee:=.builtin .append,args:=#[s,x],argTypes:=#[24,24]})
   {base:Nat}   (hown:qf w base v l) (hn:l.length<=1000000000) (hbase:base<=w.heap.size)
   (hs:a.eval s=v) (hx:a.eval x=.slice (some ⟨w.heap.size,0,none⟩) 1 1)
   (h:∀v' w',qf w' base v' (l++[u])->w.grownBy w' v.ownBlock->K (a.put o.dst v') w') :
   if Region.wanted o (yielded ops a.tmps)=true then Oper.wp Az o a (w.alloc (.cells #[.int .i64 u] 3)) K Q else E:=by
 have hw:Region.wanted o (yielded ops a.tmps)=true:=by simp[Region.wanted,hgd]
 rw[if_pos hw];obtain⟨i,hi,hz0,hz1,hz2⟩:=Ay qiq;refine wp_append_own _ s x 24 ho base 3 i _ 1 8 AA hi hz0 hz1 hz2 rfl (by decide) v l.length _ hs (AK hown _) ⟨w.heap.size,0,none⟩ 1 1 [.int .i64 u] hx rfl ?_ ?_ ?_ ?_ ?_ ?_
 . intro j u' hj
   match j,hj with
   |0,hj=>simp at hj;subst hj;simp[Addr.add]
 . intro u' hu;simp at hu;subst hu;rfl
 . unfold maxLen;omega
 . omega
 . simp;omega
 . intro v' w' ho' hg _;exact h v' w' (by unfold qf;simpa using ho') ⟨hg.os,hg.tape,hg.output,Cn (by simp) hg.size,λk hk hne=>(hg.block k (by simp;omega) hne).trans (AB w _ k hk)⟩
theorem RI.empty(h:RI w v [])(w':Am):RI w' v []:=by
 obtain⟨h0,A,c,h1,h2,h3,h4,_⟩:=h;exact⟨h0,A,c,h1,h2,h3,h4,.inl rfl⟩
theorem qcr{f:FuncId}{args:Array Ap}
   (h:Calls P f args (w.drewN n) λe w'=>e=.returned v/\w.drewN n=w'):Calls P f args (w.drewN n) λe w''=>e=.returned v/\∃m,w''=w.drewN m:=
 h.mono λ_ _ ⟨he,hm⟩=>⟨he,n,hm.symm⟩
theorem qfx{α:Type}(p:α->Bool){l:List α}{x:α}(h:l[k]?=some x):(l.take (k+1)).all p=((l.take k).all p&&p x):=by
 obtain⟨hk,rfl⟩:=AO.1 h;rw[AR hk,all_append];simp
theorem qid{base:Nat}{t ty:As}{z:Ap}{bytes:Nat}(ht:P.underlying t=some (.slice E))(yN:(P.info? E).map (λi=>(i.zero,i.size,i.bytes))=some (some z,size,bytes))
   (hzs:z.cells.size=size) (hsz:0<size)    (hown:w.ownsRow base E size v n xs) {ad:Addr}  {news:List Ap} (hl:news.length=1*size)
   (hnews:∀j u,news[j]?=some u->w.cell? (ad.add j)=some u) (h1:∀u∈news,u.oneCell'=true) (h63:n+1<=maxLen) (hbytes:(n+1)*bytes<=140737488355328) (hbase:base<=w.heap.size) :
   ∃v' w',(Builtin.append_ #[t,t] ty #[v,.slice (some ad) 1 c]).run P w=.ok v' w'/\w'.ownsRow base E size v' (n+1) (xs++news)/\w.grownBy w' v.ownBlock/\(v'.ownBlock=v.ownBlock∨v'.ownBlock=some w.heap.size):=by
 obtain⟨i,hi,hz0,hz1,hz2⟩:=Ay yN;obtain⟨v',w',hr,h2,h3,_⟩:=run_append_own (P:=P) w base t ty E i z size bytes ht hi hz0 hz1 hz2 hzs hsz v n xs hown ad 1 c news hl hnews h1 h63 hbytes hbase;refine⟨v',w',hr,h2,h3,?_⟩;have h63':n+1<=9223372036854775807:=by unfold maxLen at h63;omega
 rcases hown.2 with ⟨rfl,rfl⟩|⟨g,cap,cur,rfl,hb,hg,hn,hcm,hcs,htk⟩
 . right;have hr2:=run_append_nil (P:=P) w t ty E i z ht hi hz0 ad 1 c news (by rw[hz1];exact hl) hnews (by omega) (by omega) (by rw[hz2];omega);rw[hr]at hr2;injection hr2 with hv _;rw[hv];rfl
 . by_cases hroom:n+1<=cap
   . left;obtain⟨w2,hr2,_⟩:=run_append_fits (P:=P) w base t ty E i size ht hi hz1 g n cap xs hown ad 1 c news hl hnews h1 hroom;rw[hr]at hr2;injection hr2 with hv _;rw[hv];rfl
   . right
     have hr2:=run_append_grow (P:=P) w t ty E i z ht hi hz0 ⟨g,0,none⟩ n cap xs (by rw[hz1];exact hown.1) (hown.cells (g:=g) rfl) ad 1 c news (by rw[hz1];exact hl) hnews (by omega) (by omega)
      (growslice_fits (by omega) (by rw[hz2];exact hbytes))
     rw[hr]at hr2;injection hr2 with hv _;rw[hv];rfl
theorem qfy{Q:Exit->Act->Am->Prop}{cs:Array Ap}
   (s x:At) (t:As) (z:Ap) (size bytes:Nat) (ht:P.underlying t=some (.slice E)) (yN:(P.info? E).map (λi=>(i.zero,i.size,i.bytes))=some (some z,size,bytes))
   (hzs:z.cells.size=size) (hsz:0<size) (hby:bytes<=128) (hgd:o.guard=none)
   (ho:o.op=.call {callee:=.builtin .append,args:=#[s,x],argTypes:=#[t,t]})
   {base:Nat}    (hown:w.ownsRow base E size v n xs) (hn:n<=1000000000) (hbase:base<=w.heap.size)
   (hcs:cs.size=size) (h1:∀u∈cs.toList,u.oneCell'=true) (hs:a.eval s=v) (hx:a.eval x=.slice (some ⟨w.heap.size,0,none⟩) 1 1)
   (h:∀v' w',w'.ownsRow base E size v' (n+1) (xs++cs.toList)->w.grownBy w' v.ownBlock->(v'.ownBlock=v.ownBlock∨v'.ownBlock=some (w.heap.size+1))->wpList P ops Q rest (a.put o.dst v') w') :
   wpList P ops Q (o::rest) a (w.alloc (.cells cs E)):=by
 have hnews:∀j u,cs.toList[j]?=some u->(w.alloc (.cells cs E)).cell? ((⟨w.heap.size,0,none⟩:Addr).add j)=some u:=by
  intro j u hj;have hadd:(⟨w.heap.size,0,none⟩:Addr).add j=⟨w.heap.size,j,none⟩:=by unfold Addr.add;split<;>simp_all
  rw[hadd,AF];simpa using hj
 obtain⟨v',w',hr,h2,h3,h4⟩:=qid (P:=P) (t:=t) (ty:=o.type) (c:=1) ht yN hzs hsz (hown.alloc (.cells cs E)) (news:=cs.toList) (by simpa using hcs) hnews h1 (by unfold maxLen;omega)
  (by calc (n + 1) * bytes <= (n + 1) * 128 := Cq _ hby
        _<=140737488355328:=by omega) (by simp;omega)
 refine wpList_plain hgd λK hK=>?_;unfold Oper.wp execOp;simp only[ho,resolve,invoke,builtin,Sem.run_bind,Sem.run_pure,Result.andThen_ok,map_toArray,map_cons,map_nil,hs,hx,hr];refine hK _ _ (h v' w' h2 ?_ (by simpa using h4));exact⟨h3.os,h3.tape,h3.output,Cn (by simp) h3.size,λk hk hne=>(h3.block k (by simp;omega) hne).trans (AB w _ k hk)⟩
theorem qmz{α:Type}{l:List α}{x:α}(h:l[k]?=some x):l.zipIdx[k]?=some (x,k):=by simp[h]
def NV(w:Am)(v:Ap)(nd:Node):Prop:=∃f r,v=.agg #[.int .i64 nd.kind,f,r]/\RI w f nd.frm/\RI w r nd.row
def NC(w:Am)(xs:List Ap)(i:Nat)(nd:Node):Prop:=
 ∃f r,xs[i*3]?=some (.int .i64 nd.kind)/\xs[i*3+1]?=some f/\xs[i*3+2]?=some r/\RI w f nd.frm/\RI w r nd.row
def RN(w:Am)(v:Ap)(qa:List Node):Prop:=∃xs,TS w 81 3 v qa.length xs/\∀i nd,qa[i]?=some nd->NC w xs i nd
theorem RI.nil(w:Am):RI w (.slice none 0 0) []:=TS.nil _ _ _
def xo(w:Am)(base:Nat)(v:Ap)(qa:List Node):Prop:=∃xs,w.ownsRow base 81 3 v qa.length xs/\∀i nd,qa[i]?=some nd->NC w xs i nd
section
variable {w w':Am}{v:Ap}{nd:Node}{qa:List Node}{base:Nat}{xs:List Ap}{row:Option Nat}
theorem RI.grown(h:RI w v l)(hg:w.grownBy w' row)(hr:qg w 3 row):RI w' v l:=TS.grown h hg hr
theorem RI.zH(h:RI w v l):v.oneCell'=true:=by
 obtain⟨A,n,c,rfl,_⟩:=h.form';rfl
theorem RI.new(h:RI w v l)(hg:w.grownBy w' none):RI w' v l:=TS.new h hg
theorem RI.alloc(h:RI w v l)(o:Obj):RI (w.alloc o) v l:=h.new (AE w o none)
theorem NC.grown(h:NC w xs i nd)(hg:w.grownBy w' row)(hr:qg w 3 row):NC w' xs i nd:=
 let ⟨f,r,h1,h2,h3,h4,h5⟩:=h;⟨f,r,h1,h2,h3,h4.grown hg hr,h5.grown hg hr⟩
theorem RN.grown(h:RN w v qa)(hg:w.grownBy w' row)(hr:qg w 3 row)(hr':qg w 81 row):RN w' v qa:=
 let ⟨xs,h1,h2⟩:=h;⟨xs,h1.grown hg hr',λi nd hi=>(h2 i nd hi).grown hg hr⟩
theorem RN.new(h:RN w v qa)(hg:w.grownBy w' none):RN w' v qa:=h.grown hg (qg.none _ _) (qg.none _ _)
theorem RN.alloc(h:RN w v qa)(o:Obj):RN (w.alloc o) v qa:=h.new (AE w o none)
theorem xo.grown(h:xo w base v qa)(hg:w.grownBy w' row)(hr:qg w 3 row)(hr':qg w 81 row):xo w' base v qa:=
 let ⟨xs,h1,h2⟩:=h;⟨xs,qce h1 hg hr',λi nd hi=>(h2 i nd hi).grown hg hr⟩
theorem xo.rn(h:xo w base v qa):RN w v qa:=let ⟨xs,h1,h2⟩:=h;⟨xs,TS.j8 h1,h2⟩
theorem RN.len(h:RN w (.slice A n c) qa):n=qa.length:=by
 obtain⟨xs,h,_⟩:=h;obtain⟨A',c',h1,_⟩:=h.form;injection h1
theorem RN.form'(h:RN w v qa):∃A n c,v=.slice A n c/\n<=c/\n=qa.length/\n<=9223372036854775807:=by
 obtain⟨xs,h,_⟩:=h;have:=h.le;obtain⟨A,c,h1,h2,_⟩:=h.form;exact⟨A,_,c,h1,h2,rfl,this⟩
theorem RN.val(h:RN w v qa):∃A n c,v=.slice A n c:=by
 obtain⟨A,n,c,h1,_⟩:=h.form';exact⟨A,n,c,h1⟩
theorem RN.at_(h:RN w (.slice A n c) qa)(hk:k<n) :
   ∃g o nd f r,A=some ⟨g,o,none⟩/\qa[k]?=some nd/\w.cell? ⟨g,o+k*3,none⟩=some (.int .i64 nd.kind)/\w.cell? ⟨g,o+k*3+1,none⟩=some f/\w.cell? ⟨g,o+k*3+2,none⟩=some r/\RI w f nd.frm/\RI w r nd.row:=by
 have hn:=h.len;subst hn;obtain⟨xs,h1,h2⟩:=h;obtain⟨g,o,cur,rfl,_,hc⟩:=TS.at_ h1 (by omega);obtain⟨f,r,k1,k2,k3,k4,k5⟩:=h2 k _ (AP hk);exact⟨g,o,qa[k],f,r,rfl,AP hk,hc _ _ k1,hc _ _ k2,hc _ _ k3,k4,k5⟩
end
theorem q4n:(Az.info? 81).map (λi=>(i.zero,i.size,i.bytes))=some (some (.agg #[.int .i64 0,.slice none 0 0,.slice none 0 0]),3,56):=by kernel_rfl
theorem xo.form{base:Nat}{qa:List Node}(h:xo w base v qa)(hn:qa.length=n)(h0:0<n) :
   ∃g cap cur,v=.slice (some ⟨g,0,none⟩) n cap/\n<=cap/\base<=g/\Blk w g 81 cur/\∀j,j<n*3->∃u,w.cell? ⟨g,j,none⟩=some u:=by
 subst hn;obtain⟨xs,h1,_⟩:=h;rcases h1.2 with ⟨rfl,hz⟩|⟨g,cap,cur,rfl,hb,hh,hn,_,hcs,ht⟩
 . omega
 . refine⟨g,cap,cur,rfl,hn,hb,hh,λj hj=>?_⟩;rw[Ax w g j cur _ _ hh];exact⟨_,Array.getElem?_eq_getElem (by rw[hcs];omega)⟩
def RL(w:Am)(v:Ap)(ll:List (List Int)):Prop:=∃xs,TS w 24 1 v ll.length xs/\∀(i:Nat) (l:List Int),ll[i]?=some l->∃u,xs[i]?=some u/\RI w u l
def qL(w:Am)(base:Nat)(v:Ap)(ll:List (List Int)):Prop:=∃xs,w.ownsRow base 24 1 v ll.length xs/\∀(i:Nat) (l:List Int),ll[i]?=some l->∃u,xs[i]?=some u/\RI w u l
section
variable {w w':Am}{v:Ap}{ll:List (List Int)}{base:Nat}{row:Option Nat}
theorem RL.grown(h:RL w v ll)(hg:w.grownBy w' row)(hr:qg w 3 row)(hr':qg w 24 row):RL w' v ll:=by
 obtain⟨xs,h1,h2⟩:=h;refine⟨xs,h1.grown hg hr',λi l hi=>?_⟩;obtain⟨u,k1,k2⟩:=h2 i l hi;exact⟨u,k1,k2.grown hg hr⟩
theorem RL.new(h:RL w v ll)(hg:w.grownBy w' none):RL w' v ll:=h.grown hg (qg.none _ _) (qg.none _ _)
theorem qL.grown(h:qL w base v ll)(hg:w.grownBy w' row)(hr:qg w 3 row)(hr':qg w 24 row):qL w' base v ll:=by
 obtain⟨xs,h1,h2⟩:=h;refine⟨xs,qce h1 hg hr',λi l hi=>?_⟩;obtain⟨u,k1,k2⟩:=h2 i l hi;exact⟨u,k1,k2.grown hg hr⟩
theorem qL.new(h:qL w base v ll)(hg:w.grownBy w' none):qL w' base v ll:=h.grown hg (qg.none _ _) (qg.none _ _)
theorem qL.rl(h:qL w base v ll):RL w v ll:=let ⟨xs,h1,h2⟩:=h;⟨xs,TS.j8 h1,h2⟩
theorem qL.lt(h:qL w base v ll):∀g,v.ownBlock=some g->base<=g/\g<w.heap.size:=let ⟨_,h1,_⟩:=h;AI h1
theorem qL.jl(h:qL w base v ll)(hE:E≠24):qg w E v.ownBlock:=let ⟨_,h1,_⟩:=h;qg.own h1 hE
theorem qL.gb{a:Am}(h:qL w base v ll)(hg:a.grownBy w row)(k:w.grownBy w' v.ownBlock)(hb:a.heap.size<=base):a.grownBy w' row:=
 qa2 hg k (λg e=>.inl (Cn hb (h.lt g e).1))
theorem qL.empty(w:Am){base:Nat}(hb:base<=w.heap.size):qL (w.alloc (.cells #[] 24)) base (.slice (some ⟨w.heap.size,0,none⟩) 0 0) []:=⟨[],qvw hb,λi nd h=>by simp at h⟩
theorem qL.nil(w:Am)(base:Nat):qL w base (.slice none 0 0) []:=⟨[],AG _ _ _ _,λi nd h=>by simp at h⟩
theorem RL.nil(w:Am):RL w (.slice none 0 0) []:=⟨[],TS.nil _ _ _,λi nd h=>by simp at h⟩
theorem RL.len(h:RL w (.slice A n c) ll):n=ll.length:=by
 obtain⟨xs,h,_⟩:=h;obtain⟨A',c',h1,_⟩:=h.form;injection h1
theorem RL.form'(h:RL w v ll):∃A n c,v=.slice A n c/\n<=c/\n=ll.length/\n<=9223372036854775807:=by
 obtain⟨xs,h,_⟩:=h;have:=h.le;obtain⟨A,c,h1,h2,_⟩:=h.form;exact⟨A,_,c,h1,h2,rfl,this⟩
theorem RL.val(h:RL w v ll):∃A n c,v=.slice A n c:=by
 obtain⟨A,n,c,h1,_⟩:=h.form';exact⟨A,n,c,h1⟩
theorem RL.at_(h:RL w (.slice A n c) ll)(hk:k<n) :
   ∃g o l B m e,A=some ⟨g,o,none⟩/\ll[k]?=some l/\w.cell? ⟨g,o+k,none⟩=some (.slice B m e)/\RI w (.slice B m e) l/\m=l.length/\m<=e/\m<=9223372036854775807:=by
 have hn:=h.len;subst hn;obtain⟨xs,h1,h2⟩:=h;obtain⟨g,o,cur,rfl,_,hc⟩:=TS.at_ h1 (by omega);obtain⟨u,k1,k2⟩:=h2 k _ (AP hk);have hle:=k2.le;obtain⟨B,m,e,rfl,h3,h4⟩:=k2.form';exact⟨g,o,ll[k],B,m,e,rfl,AP hk,hc _ _ k1,k2,h4,h3,by omega⟩
end
theorem qlk:(Az.info? 24).map (λi=>(i.zero,i.size,i.bytes))=some (some (.slice none 0 0),1,24):=by kernel_rfl
theorem qiy{Q:Exit->Act->Am->Prop}{f:Ap}
   (s x:At) (hgd:o.guard=none) (ho:o.op=.call {callee:=.builtin .append,args:=#[s,x],argTypes:=#[27,27]})
   {base:Nat}   (hown:qL w base v ll) (hf:RI w f l) (hn:ll.length<=1000000000) (hbase:base<=w.heap.size)
   (hs:a.eval s=v) (hx:a.eval x=.slice (some ⟨w.heap.size,0,none⟩) 1 1)
   (h:∀v' w',qL w' base v' (ll++[l])->w.grownBy w' v.ownBlock->wpList Az ops Q rest (a.put o.dst v') w') :
   wpList Az ops Q (o::rest) a (w.alloc (.cells #[f] 24)):=by
 obtain⟨xs,ho1,ho2⟩:=hown;refine q4h s x 27 _ 1 24 Tryz.underlying27 qlk rfl (by decide) (by decide) hgd ho ho1 hn hbase rfl ?_ hs hx ?_
 . intro u hu;simp only[Bb,not_mem_nil,or_false]at hu;subst hu;exact hf.zH
 intro v' w' h1 h2 _;refine h v' w' ⟨_,by simpa using h1,?_⟩ h2;intro i l' hi;have hne:qg w 3 v.ownBlock:=qg.own ho1 (by decide);have hxl:xs.length=ll.length:=by have:=ho1.1;omega
 by_cases hl:i<ll.length
 . rw[B9 hl]at hi;obtain⟨u,k1,k2⟩:=ho2 i l' hi;exact⟨u,by rw[B9 (by omega)];exact k1,k2.grown h2 hne⟩
 . rw[AY (by omega)]at hi
   have h0:i-ll.length=0:=by
    rcases Nat.eq_zero_or_pos (i-ll.length)with h|h
    . exact h
    . rw[AS (by simp;omega)]at hi;cases hi
   rw[h0]at hi;obtain rfl:l=l':=by simpa using hi
   exact⟨f,by rw[AY (by omega),show i-xs.length=0 by omega];rfl,hf.grown h2 hne⟩
theorem qL.form{base:Nat}(h:qL w base v ll)(hn:ll.length=n)(h0:0<n) :
   ∃g cap cur,v=.slice (some ⟨g,0,none⟩) n cap/\n<=cap/\base<=g/\Blk w g 24 cur/\∀j,j<n->∃u,w.cell? ⟨g,j,none⟩=some u:=by
 subst hn;obtain⟨xs,h1,_⟩:=h;rcases h1.2 with ⟨rfl,hz⟩|⟨g,cap,cur,rfl,hb,hh,hn,_,hcs,ht⟩
 . omega
 . refine⟨g,cap,cur,rfl,hn,hb,hh,λj hj=>?_⟩;rw[Ax w g j cur _ _ hh];exact⟨_,Array.getElem?_eq_getElem (by rw[hcs];omega)⟩
theorem qL.qC{base:Nat}{f:Ap}(h:qL w base (.slice (some ⟨g,0,none⟩) n cap) ll)(hn:ll.length=n)(hk:k<n)(hf:RI w f l) :
   qL (w.setCell ⟨g,k,none⟩ f) base (.slice (some ⟨g,0,none⟩) n cap) (ll.set k l):=by
 subst hn;obtain⟨xs,h1,h2⟩:=h;have s1:=AH h1 k f;have hne:qg w 3 (some g):=qg.own (v:=.slice (some ⟨g,0,none⟩) ll.length cap) h1 (by decide);have hxl:xs.length=ll.length:=by have:=h1.1;omega
 refine⟨_,by rw[AV];exact s1.1,λi x hi=>?_⟩;by_cases hik:i=k
 . subst hik;rw[Bn hk]at hi;obtain rfl:l=x:=by simpa using hi
   exact⟨f,by rw[Bn (by omega)],hf.grown s1.2 hne⟩
 . rw[Bv (λe=>hik e.symm)]at hi;obtain⟨u,k1,k2⟩:=h2 i x hi;exact⟨u,by rw[Bv (λe=>hik e.symm)];exact k1,k2.grown s1.2 hne⟩
theorem qL.made{base:Nat}(h:w.ownsRow base 24 1 v n (madeCells (slice none 0 0).cells n).toList):qL w base v (replicate n []):=by
 refine⟨_,by rw[length_replicate];exact h,λi l hi=>?_⟩
 obtain⟨hin,rfl⟩:i<n/\l=[]:=by
  rw[BP]at hi;split at hi
  . exact⟨by assumption,by injection hi with e;exact e.symm⟩
  . cases hi
 have hc:(slice none 0 0).cells=#[.slice none 0 0]:=rfl;rw[hc];exact⟨.slice none 0 0,by simp[madeCells,hin,Nat.mod_one],RI.nil _⟩
def QS(w:Am)(base:Nat)(E:As)(v:Ap)(xs:List Ap):Prop:=
 ∃A c,v=.slice A xs.length c/\xs.length<=c/\c<=maxLen/\(∀u∈xs,u.oneCell'=true) /\
  ((A=none/\c=0)∨∃g o cur,A=some ⟨g,o,none⟩/\base<=g/\Blk w g E cur/\o+c<=cur.size/\∀j u,xs[j]?=some u->cur[o+j]?=some u)
section
variable {w w':Am}{base:Nat}{E:As}{v:Ap}{xs:List Ap}
theorem QS.nil(w:Am)(base:Nat)(E:As):QS w base E (.slice none 0 0) []:=⟨none,0,rfl,by simp,by simp,by simp,.inl ⟨rfl,rfl⟩⟩
theorem QS.ts(h:QS w base E v xs):TS w E 1 v xs.length xs:=by
 obtain⟨A,c,h1,h2,h3,_,h5⟩:=h;rcases h5 with ⟨h4,h5⟩|⟨g,o,cur,k1,k2,k3,k4,k5⟩
 . exact⟨by simp,A,c,h1,h2,h3,λ_=>h5,by left;omega⟩
 . subst k1;exact⟨by simp,_,c,h1,h2,h3,by simp,.inr ⟨g,o,cur,rfl,k3,k5⟩⟩
theorem QS.lt(h:QS w base E v xs):∀g,v.ownBlock=some g->base<=g/\g<w.heap.size:=by
 obtain⟨A,c,rfl,h2,h3,_,h5⟩:=h;intro g' hg';rcases h5 with ⟨rfl,h5⟩|⟨g,o,cur,rfl,k2,k3,k4,k5⟩
 . cases hg'
 . cases hg';exact⟨k2,k3.lt⟩
theorem QS.grown(h:QS w base E v xs)(hg:w.grownBy w' row)(hr:qg w E row):QS w' base E v xs:=by
 obtain⟨A,c,h1,h2,h3,h6,h5⟩:=h;refine⟨A,c,h1,h2,h3,h6,?_⟩;rcases h5 with h5|⟨g,o,cur,k1,k2,k3,k4,k5⟩
 . exact .inl h5
 . exact .inr ⟨g,o,cur,k1,k2,k3.grown hg (λe=>hr g e.symm cur k3),k4,k5⟩
theorem QS.new(h:QS w base E v xs)(hg:w.grownBy w' none):QS w' base E v xs:=h.grown hg (qg.none _ _)
theorem QS.apart(h:QS w base E v xs)(hg:w.grownBy w' row)(hr:v.ownBlock=none∨v.ownBlock≠row):QS w' base E v xs:=by
 obtain⟨A,c,h1,h2,h3,h6,h5⟩:=h;refine⟨A,c,h1,h2,h3,h6,?_⟩;rcases h5 with h5|⟨g,o,cur,k1,k2,k3,k4,k5⟩
 . exact .inl h5
 . subst h1 k1;refine .inr ⟨g,o,cur,rfl,k2,k3.grown hg (λe=>?_),k4,k5⟩;rcases hr with hr|hr
   . cases hr
   . exact hr e
theorem QS.tail{x:Ap}(h:QS w base E (.slice A n c) (x::xs)) :
   ∃g o,A=some ⟨g,o,none⟩/\n=xs.length+1/\1<=c/\QS w base E (.slice (some ⟨g,o+1,none⟩) (n-1) (c-1)) xs/\(c=1->QS w base E (.slice (some ⟨g,o,none⟩) (n-1) (c-1)) xs):=by
 obtain⟨A',c',h1,h2,h3,h6,h5⟩:=h;injection h1 with e1 e2 e3;subst e1 e3;rw[BH]at h2 e2;rcases h5 with ⟨h4,h5⟩|⟨g,o,cur,k1,k2,k3,k4,k5⟩
 . omega
 . have e:n-1=xs.length:=by omega
   rw[e];refine⟨g,o,k1,e2,by omega,⟨_,_,rfl,by omega,by omega,λu hu=>h6 u (by simp[hu]),?_⟩,λhc=>⟨_,_,rfl,by omega,by omega,λu hu=>h6 u (by simp[hu]),?_⟩⟩
   . refine .inr ⟨g,o+1,cur,rfl,k2,k3,by omega,λj u hu=>?_⟩;have:=k5 (j+1) u (by simpa using hu);rw[show o+1+j=o+(j+1) by omega];exact this
   . refine .inr ⟨g,o,cur,rfl,k2,k3,by omega,λj u hu=>?_⟩;have:=(AO.1 hu).1;omega
theorem QS.init{x:Ap}(h:QS w base E (.slice A n c) (xs++[x])):n=xs.length+1/\n<=c/\QS w base E (.slice A xs.length c) xs:=by
 obtain⟨A',c',h1,h2,h3,h6,h5⟩:=h;injection h1 with e1 e2 e3;subst e1 e3;rw[Bf,length_singleton]at h2 e2;refine⟨e2,by omega,_,_,rfl,by omega,h3,λu hu=>h6 u (by simp[hu]),?_⟩;rcases h5 with h5|⟨g,o,cur,k1,k2,k3,k4,k5⟩
 . exact .inl h5
 . exact .inr ⟨g,o,cur,k1,k2,k3,k4,λj u hu=>k5 j u ((B9 (AO.1 hu).1).trans hu)⟩
theorem QS.j8(h:w.ownsRow base E 1 v n xs)(h1:∀u∈xs,u.oneCell'=true):QS w base E v xs:=by
 have hn:n=xs.length:=by have:=h.1;omega
 subst hn;rcases h.2 with ⟨rfl,h0⟩|⟨g,cap,cur,rfl,hb,hg,hn,hm,hcs,ht⟩
 . have:xs=[]:=Bp h0;subst this;exact QS.nil _ _ _
 . refine⟨_,cap,rfl,hn,hm,h1,.inr ⟨g,0,cur,rfl,hb,hg,by omega,λj u hu=>?_⟩⟩;rw[<-ht,BA]at hu;split at hu
   . simpa using hu
   . cases hu
end
theorem qf.low{a:Nat}(h:qf w a v l)(hab:b<=a):qf w b v l:=by
 refine⟨h.1,?_⟩;rcases h.2 with h0|⟨g,cap,cur,h1,h2,h3⟩
 . exact .inl h0
 . exact .inr ⟨g,cap,cur,h1,Cn hab h2,h3⟩
theorem qf.qs{base:Nat}(h:qf w base v l):QS w base 3 v (l.map (.int .i64)):=QS.j8 h (λu hu=>by
 obtain⟨x,_,rfl⟩:=Br.1 hu;rfl)
theorem QS.ri{base:Nat}(h:QS w base 3 v (l.map (.int .i64))):RI w v l:=by
 have:=h.ts;rw[Bi]at this;exact this
end
section
theorem q4d(S:List Int)(x:Int)(j:Nat)(h1:∀y∈S.take j,¬x<y)(h2:∀y∈S.drop j,x<y):putRow S x=S.take j++x::S.drop j:=by
 induction S generalizing j with
 |nil=>simp[putRow]
 |cons y ys ih=>
  match j with
  |0=>
   have:=h2 y (by simp);unfold putRow;rw[if_pos this];rfl
  |j+1=>
   have:=h1 y (by simp);unfold putRow;rw[if_neg this,ih j (λz hz=>h1 z (by simp[hz])) (λz hz=>h2 z (by simpa using hz))];rfl
def qip(l:List Int)(i j:Nat)(x:Int):List Int:=(qj (l.take i)).take j++x::((qj (l.take i)).drop j++l.drop (i+1))
def qk8(l:List Int)(i:Nat):List Int:=qj (l.take i)++l.drop i
theorem qvu(l:List Int)(x:Int):qj (l++[x])=putRow (qj l) x:=by
 unfold qj;rw[Bs];rfl
theorem q4e(hi:i<l.length)(hj:j<=i):(qip l i j x).length=l.length:=by
 unfold qip;rw[Bf,BH,Bf,AU,Cc,Cc,qdy,AU];omega
theorem q1y(l:List Int):qk8 l 1=l:=by
 cases l with
 |nil=>rfl
 |cons x xs=>simp[qk8,qj,putRow]
theorem q1z(l:List Int)(h:l.length<=i):qk8 l i=qj l:=by
 unfold qk8;rw[AZ h,BR h,BQ]
theorem qyn(h:l[i]?=some x):qk8 l i=qip l i i x:=by
 obtain⟨hi,rfl⟩:=AO.1 h;have hl:(qj (l.take i)).length=i:=by rw[qdy,AU];omega
 unfold qk8 qip;rw[AZ (l:=qj (l.take i)) (by omega),BR (l:=qj (l.take i)) (by omega),nil_append,By hi]
theorem q4f(hi:i<l.length)(hj:j<=i):(qip l i j x)[j]?=some x:=by
 have hl:(qj (l.take i)).length=i:=by rw[qdy,AU];omega
 unfold qip;rw[AY (by rw[AU];omega),AU,show j-min j (qj (l.take i)).length=0 by omega];rfl
theorem q10(hi:i<l.length)(hj:j<=i)(h0:0<j):∃y,(qip l i j x)[j-1]?=some y/\(qj (l.take i))[j-1]?=some y:=by
 have hl:(qj (l.take i)).length=i:=by rw[qdy,AU];omega
 refine⟨(qj (l.take i))[j-1],?_,AP (by omega)⟩;unfold qip;rw[B9 (by rw[AU];omega),BA,if_pos (by omega)];exact AP (by omega)
theorem q7f(P Q:List Int)(y x:Int):((P++y::x::Q).set (P.length+1) y).set P.length x=P++x::y::Q:=by
 rw[BS _ _ (by omega),show P.length+1-P.length=1 by omega,BS _ _ (by omega),Cp];rfl
theorem q11(hi:i<l.length)(hj:j<=i)(h0:0<j)(hy:(qj (l.take i))[j-1]?=some y):((qip l i j x).set j y).set (j-1) x=qip l i (j-1) x:=by
 have hl:(qj (l.take i)).length=i:=by rw[qdy,AU];omega
 obtain⟨k,rfl⟩:∃k,j=k+1:=⟨j-1,by omega⟩;simp only[Nat.add_sub_cancel]at hy |-;obtain⟨hk,hy'⟩:=AO.1 hy
 have e1:qip l i (k+1) x=(qj (l.take i)).take k++y::x::((qj (l.take i)).drop (k+1)++l.drop (i+1)):=by
  unfold qip;rw[AR hk,hy',AX];rfl
 have e2:qip l i k x=(qj (l.take i)).take k++x::y::((qj (l.take i)).drop (k+1)++l.drop (i+1)):=by
  unfold qip;rw[By hk,hy'];rfl
 rw[e1,e2];have:=q7f ((qj (l.take i)).take k) ((qj (l.take i)).drop (k+1)++l.drop (i+1)) y x;rw[AU,show min k (qj (l.take i)).length=k by omega]at this;exact this
theorem qvv(h:l[i]?=some x)(hj:j<=i)(h1:j=0∨∃y,(qj (l.take i))[j-1]?=some y/\¬x<y)(h2:∀y∈(qj (l.take i)).drop j,x<y):qip l i j x=qk8 l (i+1):=by
 obtain⟨hi,hx⟩:=AO.1 h;have hl:(qj (l.take i)).length=i:=by rw[qdy,AU];omega
 have hs:=qj3 (l.take i)
 have h3:∀y∈(qj (l.take i)).take j,¬x<y:=by
  intro y hy;rcases h1 with rfl|⟨z,hz,hzx⟩
  . simp at hy
  . obtain⟨a,ha,rfl⟩:=Bg.1 hy;obtain⟨hk,rfl⟩:=AO.1 hz;by_cases e:a=j-1
    . subst e;exact hzx
    . have:=pairwise_iff_getElem.1 hs a (j-1) (by omega) hk (by omega);omega
 unfold qip qk8;rw[AR hi,hx,qvu,q4d _ _ j h3 h2,AX];rfl
theorem q4g{S:List Int}(h0:0<j)(hy:S[j-1]?=some y)(hx:x<y)(h:∀z∈S.drop j,x<z):∀z∈S.drop (j-1),x<z:=by
 obtain⟨hk,rfl⟩:=AO.1 hy;intro z hz;rw[By hk,show j-1+1=j by omega]at hz;rcases Bb.1 hz with rfl|hz
 . exact hx
 . exact h z hz
def zl(l m:List Int)(k:Nat):Prop:=m.length=l.length/\∀i,i<l.length->m[i]?=if i<k∨l.length-k<=i then l[l.length-1-i]? else l[i]?
theorem zl.zero(l:List Int):zl l l 0:=⟨rfl,λi hi=>by rw[if_neg (by omega)]⟩
theorem zl.step{m:List Int}(h:zl l m k)(hk:k<l.length-1-k)(hx:m[k]?=some x)(hy:m[l.length-1-k]?=some y):zl l ((m.set k y).set (l.length-1-k) x) (k+1):=by
 obtain⟨h1,h2⟩:=h;have ex:=h2 k (by omega);have ey:=h2 (l.length-1-k) (by omega);rw[if_neg (by omega),hx]at ex;rw[if_neg (by omega),hy]at ey;refine⟨by simp[h1],λi hi=>?_⟩;rw[Ca,AV,Ca];by_cases e1:l.length-1-k=i
 . rw[if_pos e1,if_pos (by omega),if_pos (by omega),<-e1,show l.length-1-(l.length-1-k)=k by omega];exact ex
 . rw[if_neg e1];by_cases e2:k=i
   . subst e2;rw[if_pos rfl,if_pos (by omega),if_pos (by omega)];exact ey
   . rw[if_neg e2,h2 i hi];by_cases e3:i<k∨l.length-k<=i
     . rw[if_pos e3,if_pos (by omega)]
     . rw[if_neg e3,if_neg (by omega)]
theorem zl.done{m:List Int}(h:zl l m k)(hk:l.length-1-k<=k):m=l.reverse:=by
 obtain⟨h1,h2⟩:=h;apply Ba;intro i;by_cases hi:i<l.length
 . rw[h2 i hi,getElem?_reverse hi];split
   . rfl
   . rename_i hn;congr 1;omega
 . rw[AS (by omega),AS (by simp;omega)]
end
end Go.Proofs.YtacemdoejblgaaaGreatDoor

/- Part M01. Conditions: each statement's. -/
namespace Go.Proofs.YtacemdoejblgaaaGreatDoor
open List
set_option maxRecDepth 100000
set_option maxHeartbeats 6400000
section
structure Node where
 kind:Int
 frm:List Int
 row:List Int
def vz(x:Int):Bool:=decide (0<=x)&&decide (x<=1008)
def qal(l:List Int):Bool:=l.all vz&&decide (l.length<=6)
def qeq(k:Int):Bool:=decide (0<=k)&&decide (k<=5)
def qav(k:Int):Int:=if k<0∨5<k then -1 else if k=0 then 0 else if k=1∨k=2 then 2 else 1
theorem qs1{k:Int}(h0:0<=k)(h5:k<=5):0<=qav k:=by
 unfold qav
 repeat' split
 all_goals omega
theorem qr4(k:Int):-1<=qav k/\qav k<=2:=by
 unfold qav
 repeat' split
 all_goals omega
def wide(qa:List Node):Nat:=match qa.find? (λx=>x.kind==0)with
 |some x=>x.row.length
 |none=>0
def qdm(x:Node)(at_:Int)(wd:Nat):Bool:=
 decide (qav x.kind=x.frm.length)&&qal x.row&&x.frm.all (λy=>decide (0<=y)&&decide (y<=at_-1))&&(if x.kind=0 then decide (x.row.length=wd)else decide (x.row.length=0))
def qaf(qa:List Node):Bool:=qa.zipIdx.all (λx=>qdm x.1 x.2 (wide qa))&&decide (qa.length<=10)
def qbz(x:Node)(at_:Int):Bool:=
 qeq x.kind&&decide ((x.frm.length:Int)=qav x.kind)&&x.frm.all (λy=>decide (0<=y)&&decide (y<at_))&&(if x.kind=0 then qal x.row else decide (x.row.length=0))
def upd{α:Type}(f:Nat->α)(a:Nat)(x:α):Nat->α:=λb=>if b=a then x else f b
theorem upd_same{α:Type}(f:Nat->α)(a:Nat)(x:α):upd f a x a=x:=by simp[upd]
theorem qaw{α:Type}(f:Nat->α){a b:Nat}(x:α)(h:b≠a):upd f a x b=f b:=by simp[upd,h]
def qf1(n f:Nat)(L:Nat->List Nat):Nat->List Nat:=
 if f∈L (2*n+1)then L else upd (upd L (2*n+1) (L (2*n+1)++[f])) (2*f+2) (L (2*f+2)++[n])
def qdj(n:Nat)(frm:List Int)(L:Nat->List Nat):Nat->List Nat:=frm.foldl (λL f=>qf1 n f.toNat L) L
def qgq(L:Nat->List Nat)(x:Node×Nat):Nat->List Nat:=upd (qdj x.2 x.1.frm L) 0 (qdj x.2 x.1.frm L 0++[x.2])
def qdo(qa:List Node)(k:Nat):Nat->List Nat:=(qa.zipIdx.take k).foldl qgq (λ_=>[])
def qxl(qa:List Node):Nat->List Nat:=qdo qa qa.length
theorem q5t(n f:Nat)(L:Nat->List Nat):qf1 n f L 0=L 0:=by
 unfold qf1;split
 . rfl
 . rw[qaw _ _ (by omega),qaw _ _ (by omega)]
theorem qz0(n:Nat)(frm:List Int)(L:Nat->List Nat):qdj n frm L 0=L 0:=by
 unfold qdj
 induction frm generalizing L with
 |nil=>rfl
 |cons x xs ih=>rw[foldl_cons,ih,q5t]
theorem qz1{n m:Nat}{frm:List Int}{x:Int}(L:Nat->List Nat)(h:frm[m]?=some x):qdj n (frm.take (m+1)) L=qf1 n x.toNat (qdj n (frm.take m) L):=by
 obtain⟨hm,rfl⟩:=List.getElem?_eq_some_iff.1 h;unfold qdj;rw[take_succ_eq_append_getElem hm,foldl_append];rfl
theorem qfy{qa:List Node}{k:Nat}{nd:Node}(h:qa[k]?=some nd):qdo qa (k+1)=qgq (qdo qa k) (nd,k):=by
 have hz:qa.zipIdx[k]?=some (nd,k):=by simp[h]
 obtain⟨hk,hx⟩:=List.getElem?_eq_some_iff.1 hz;unfold qdo;rw[take_succ_eq_append_getElem hk,foldl_append,hx];rfl
theorem q71(n f:Nat)(L:Nat->List Nat)(a:Nat):(qf1 n f L a).length<=(L a).length+1:=by
 unfold qf1 upd;split
 . omega
 . dsimp only;split
   . subst_vars;simp
   . split
     . subst_vars;simp
     . omega
theorem qos(x:Node)(at_:Int)(wd:Nat):qdm x at_ wd=(qbz x at_&&(if x.kind=0 then decide (x.row.length=wd)else true)):=by
 rw[Bool.eq_iff_iff];unfold qdm qbz;simp only[Bool.and_eq_true,decide_eq_true_eq,List.all_eq_true];constructor
 . rintro⟨⟨⟨h1,h2⟩,h3⟩,h4⟩;refine⟨⟨⟨⟨?_,h1.symm⟩,λy hy=>⟨(h3 y hy).1,by have:=(h3 y hy).2;omega⟩⟩,?_⟩,?_⟩
   . have:0<=qav x.kind:=by omega
     unfold qav at this;unfold qeq;split at this
     . omega
     . simp;omega
   . split
     . exact h2
     . rename_i hk;rw[if_neg hk]at h4;exact h4
   . split
     . rename_i hk;rw[if_pos hk]at h4;exact h4
     . rfl
 . rintro⟨⟨⟨⟨h0,h1⟩,h3⟩,h4⟩,h5⟩;refine⟨⟨⟨h1.symm,?_⟩,λy hy=>⟨(h3 y hy).1,by have:=(h3 y hy).2;omega⟩⟩,?_⟩
   . split at h4
     . exact h4
     . have e:x.row=[]:=eq_nil_of_length_eq_zero (by simpa using h4);rw[e];rfl
   . split
     . rename_i hk;rw[if_pos hk]at h5;exact h5
     . rename_i hk;rw[if_neg hk]at h4;exact h4
theorem qr5{x:Node}{at_:Int}(h:qbz x at_=true):x.frm.length<=2:=by
 unfold qbz at h;simp only[Bool.and_eq_true,decide_eq_true_eq]at h;have:=(qr4 x.kind).2;omega
theorem qc6{x:Node}{at_ y:Int}(h:qbz x at_=true)(hy:y∈x.frm):0<=y/\y<at_:=by
 unfold qbz at h;simp only[Bool.and_eq_true,decide_eq_true_eq,List.all_eq_true]at h;exact h.1.2 y hy
theorem q5u{qa:List Node}{k:Nat}{nd:Node}(h:qa[k]?=some nd)(hk:nd.kind=0)(ha:(qa.take k).any (λx=>x.kind==0)=false):wide qa=nd.row.length:=by
 have:qa.find? (λx=>x.kind==0)=some nd:=by
  rw[find?_eq_some_iff_getElem];obtain⟨hk',hx'⟩:=List.getElem?_eq_some_iff.1 h;refine⟨by simp[hk],k,hk',hx',λj hj=>?_⟩;have:=List.any_eq_false.1 ha qa[j] (mem_take_iff_getElem.2 ⟨j,by omega,rfl⟩);simpa using this
 unfold wide;rw[this]
def qgy(qa:List Node)(k:Nat):Int:=if (qa.take k).any (λx=>x.kind==0)then (wide qa:Int)else -1
theorem qyh{qa:List Node}{k:Nat}{nd:Node}(h:qa[k]?=some nd)(hk:nd.kind=0):qgy qa (k+1)=wide qa:=by
 obtain⟨hl,rfl⟩:=List.getElem?_eq_some_iff.1 h;unfold qgy;rw[take_succ_eq_append_getElem hl,any_append,if_pos (by simp[hk])]
theorem qyi{qa:List Node}{k:Nat}{nd:Node}(h:qa[k]?=some nd)(hk:nd.kind≠0):qgy qa (k+1)=qgy qa k:=by
 obtain⟨hl,rfl⟩:=List.getElem?_eq_some_iff.1 h;unfold qgy;rw[take_succ_eq_append_getElem hl,any_append];have:([qa[k]].any λx=>x.kind==0)=false:=by simp[hk]
 rw[this,Bool.or_false]
theorem qot{qa:List Node}{k:Nat}{nd:Node}(h:qa[k]?=some nd)(hb:qdm nd k (wide qa)=false):qaf qa=false:=by
 have:qa.zipIdx.all (λx=>qdm x.1 x.2 (wide qa))=false:=by
  rw[List.all_eq_false];exact⟨(nd,k),mem_of_getElem? (show qa.zipIdx[k]?=some (nd,k) by simp[h]),by simp[hb]⟩
 unfold qaf;rw[this];rfl
def fl(qa:List Node)(i:Nat):Int:=match qa[i]? with
 |some nd=>nd.frm.length
 |none=>0
theorem qbk{qa:List Node}{i:Nat}{nd:Node}(hv:qaf qa=true)(h:qa[i]?=some nd):qbz nd i=true/\nd.frm.length<=2/\i<10/\(nd.kind=0->nd.row.length=wide qa):=by
 unfold qaf at hv;simp only[Bool.and_eq_true,decide_eq_true_eq]at hv;have h1:=List.all_eq_true.1 hv.1 (nd,i) (mem_of_getElem? (show qa.zipIdx[i]?=some (nd,i) by simp[h]));rw[qos]at h1;simp only[Bool.and_eq_true]at h1;refine⟨h1.1,qr5 h1.1,?_,λhk=>?_⟩
 . have:=(List.getElem?_eq_some_iff.1 h).1;omega
 . have:=h1.2;rw[if_pos hk]at this;simpa using this
theorem qap{qa:List Node}(hv:qaf qa=true):qa.length<=10:=by
 unfold qaf at hv;simp only[Bool.and_eq_true,decide_eq_true_eq]at hv;exact hv.2
def q73(out:List Int)(frm:List Int):Int:=frm.foldl (λn f=>max n (out.getD f.toNat 0+1)) 0
def qjP(qa:List Node)(k:Nat):List Int:=(qa.take k).foldl (λout x=>out++[q73 out x.frm]) []
def levels(qa:List Node):List Int:=qjP qa qa.length
def lv(qa:List Node)(i:Nat):Int:=(levels qa).getD i 0
def dedup(frm:List Int):List Nat:=frm.foldl (λl f=>if f.toNat∈l then l else l++[f.toNat]) []
def qcp(qa:List Node)(i:Nat):List Nat:=match qa[i]? with
 |some nd=>dedup nd.frm
 |none=>[]
def qcq(qa:List Node)(i:Nat):List Nat:=(range qa.length).filter (λj=>decide (i∈qcp qa j))
theorem qug(frm:List Int)(l:List Nat):(∀i,i∈frm.foldl (λl f=>if f.toNat∈l then l else l++[f.toNat]) l↔i∈l∨∃f∈frm,f.toNat=i) /\
   (l.Nodup->(frm.foldl (λl f=>if f.toNat∈l then l else l++[f.toNat]) l).Nodup)/\(frm.foldl (λl f=>if f.toNat∈l then l else l++[f.toNat]) l).length<=l.length+frm.length:=by
 induction frm generalizing l with
 |nil=>simp
 |cons x xs ih=>
  rw[foldl_cons];by_cases h:x.toNat∈l
  . rw[if_pos h];obtain⟨h1,h2,h3⟩:=ih l;refine⟨λi=>?_,h2,by rw[length_cons];omega⟩;rw[h1 i];constructor
    . rintro(hi|⟨f,hf,e⟩)
      . exact .inl hi
      . exact .inr ⟨f,by simp[hf],e⟩
    . rintro(hi|⟨f,hf,e⟩)
      . exact .inl hi
      . rcases mem_cons.1 hf with rfl|hf
        . exact .inl (e▸h)
        . exact .inr ⟨f,hf,e⟩
  . rw[if_neg h];obtain⟨h1,h2,h3⟩:=ih (l++[x.toNat]);refine⟨λi=>?_,λhn=>h2 ?_,by rw[length_append]at h3;simp at h3 |-;omega⟩
    . rw[h1 i];constructor
      . rintro(hi|⟨f,hf,e⟩)
        . rcases mem_append.1 hi with hi|hi
          . exact .inl hi
          . exact .inr ⟨x,by simp,by simp at hi;exact hi.symm⟩
        . exact .inr ⟨f,by simp[hf],e⟩
      . rintro(hi|⟨f,hf,e⟩)
        . exact .inl (by simp[hi])
        . rcases mem_cons.1 hf with rfl|hf
          . exact .inl (by simp[e])
          . exact .inr ⟨f,hf,e⟩
    . rw[nodup_append];refine⟨hn,by simp,?_⟩;intro a ha b hb e;simp at hb;subst hb e;exact h ha
theorem qoy{frm:List Int}{i:Nat}:i∈dedup frm↔∃f∈frm,f.toNat=i:=by
 have:=(qug frm []).1 i;unfold dedup;rw[this];simp
theorem q2t(frm:List Int):(dedup frm).Nodup:=(qug frm []).2.1 nodup_nil
theorem quh(frm:List Int):(dedup frm).length<=frm.length:=by
 have:=(qug frm []).2.2;unfold dedup;simpa using this
theorem qui(n f:Nat)(L:Nat->List Nat):qf1 n f L (2*n+1)=if f∈L (2*n+1)then L (2*n+1)else L (2*n+1)++[f]:=by
 unfold qf1;split
 . rfl
 . rw[qaw _ _ (by omega),upd_same]
theorem q2u(n f i:Nat)(L:Nat->List Nat):qf1 n f L (2*i+2)=if f∉L (2*n+1)/\i=f then L (2*i+2)++[n]else L (2*i+2):=by
 unfold qf1;by_cases h:f∈L (2*n+1)
 . rw[if_pos h,if_neg (λh2=>h2.1 h)]
 . rw[if_neg h];by_cases hi:i=f
   . subst hi;rw[upd_same,if_pos ⟨h,rfl⟩]
   . rw[qaw _ _ (by omega),qaw _ _ (by omega),if_neg (λh2=>hi h2.2)]
theorem q74(n f a:Nat)(L:Nat->List Nat)(h1:a≠2*n+1)(h2:a≠2*f+2):qf1 n f L a=L a:=by
 unfold qf1;split
 . rfl
 . rw[qaw _ _ h2,qaw _ _ h1]
theorem qym(n:Nat)(frm:List Int)(L:Nat->List Nat)(hf:∀y∈frm,0<=y/\y<(n:Int)) :
   qdj n frm L (2*n+1)=frm.foldl (λl f=>if f.toNat∈l then l else l++[f.toNat]) (L (2*n+1)):=by
 unfold qdj
 induction frm generalizing L with
 |nil=>rfl
 |cons x xs ih=>
  have hx:=hf x (by simp);rw[foldl_cons,foldl_cons,ih _ (λy hy=>hf y (by simp[hy])),qui]
theorem qyn(n i:Nat)(frm:List Int)(L:Nat->List Nat)(hf:∀y∈frm,0<=y/\y<(n:Int)) :
   qdj n frm L (2*i+2)=if i∉L (2*n+1)/\(∃f∈frm,f.toNat=i)then L (2*i+2)++[n]else L (2*i+2):=by
 unfold qdj
 induction frm generalizing L with
 |nil=>simp
 |cons x xs ih=>
  have hx:=hf x (by simp);rw[foldl_cons,ih _ (λy hy=>hf y (by simp[hy])),qui,q2u];by_cases hix:i=x.toNat
  . subst hix;by_cases hm:x.toNat∈L (2*n+1)
    . simp[hm]
    . rw[if_neg hm,if_neg (by simp),if_pos ⟨hm,rfl⟩,if_pos ⟨hm,x,by simp,rfl⟩]
  . have hne:¬(x.toNat∉L (2*n+1)/\i=x.toNat):=λh=>hix h.2;rw[if_neg hne]
    have e2:(i∉(if x.toNat∈L (2*n+1)then L (2*n+1)else L (2*n+1)++[x.toNat]))↔i∉L (2*n+1):=by
     split
     . exact Iff.rfl
     . simp[hix]
    have e3:(∃f∈x::xs,f.toNat=i)↔∃f∈xs,f.toNat=i:=by
     constructor
     . rintro⟨f,hf,he⟩;rcases mem_cons.1 hf with hfx|hf
       . rw[hfx]at he;exact absurd he.symm hix
       . exact⟨f,hf,he⟩
     . rintro⟨f,hf,e⟩;exact⟨f,by simp[hf],e⟩
    simp only[e2,e3]
theorem q2v(n a:Nat)(frm:List Int)(L:Nat->List Nat)(h1:a≠2*n+1)(h2:∀f∈frm,a≠2*f.toNat+2):qdj n frm L a=L a:=by
 unfold qdj
 induction frm generalizing L with
 |nil=>rfl
 |cons x xs ih=>rw[foldl_cons,ih _ (λf hf=>h2 f (by simp[hf])),q74 _ _ _ _ h1 (h2 x (by simp))]
theorem qr8{qa:List Node}{i:Nat}{nd:Node}(h:qa[i]?=some nd):qcp qa i=dedup nd.frm:=by
 unfold qcp;rw[h]
theorem qoz(qa:List Node)(j:Nat):(qcp qa j).Nodup:=by
 unfold qcp;split
 . exact q2t _
 . exact nodup_nil
theorem qz7{qa:List Node}(hv:qaf qa=true){k:Nat}(hk:k<=qa.length) :
   (∀i,qdo qa k (2*i+1)=if i<k then qcp qa i else [])/\(∀i,qdo qa k (2*i+2)=(range k).filter (λj=>decide (i∈qcp qa j))):=by
 induction k with
 |zero=>exact⟨λi=>rfl,λi=>rfl⟩
 |succ k ih=>
  obtain⟨ih1,ih2⟩:=ih (by omega);obtain⟨nd,hx⟩:∃nd,qa[k]?=some nd:=⟨_,getElem?_eq_getElem (by omega)⟩;have hf:∀y∈nd.frm,0<=y/\y<(k:Int):=λy hy=>qc6 (qbk hv hx).1 hy;have h0:qdo qa k (2*k+1)=[]:=by rw[ih1 k,if_neg (by omega)]
  constructor
  . intro i;rw[qfy hx];unfold qgq;rw[qaw _ _ (by omega)];by_cases hik:i=k
    . subst hik;rw[if_pos (by omega),qym _ _ _ hf,h0,qr8 hx];rfl
    . rw[q2v _ _ _ _ (by simp;omega) (λf _=>by omega),ih1 i];by_cases h:i<k
      . rw[if_pos h,if_pos (by omega)]
      . rw[if_neg h,if_neg (by omega)]
  . intro i;rw[qfy hx];unfold qgq;rw[qaw _ _ (by omega),qyn _ _ _ _ hf,h0,ih2 i,range_succ,filter_append];have e:(∃f∈nd.frm,f.toNat=i)↔i∈qcp qa k:=by rw[qr8 hx,qoy]
    by_cases h:i∈qcp qa k
    . rw[if_pos ⟨by simp,e.2 h⟩];simp[h]
    . rw[if_neg (λh2=>h (e.1 h2.2))];simp[h]
theorem qr9{qa:List Node}(hv:qaf qa=true)(i:Nat):qxl qa (2*i+2)=qcq qa i:=by
 unfold qxl;exact(qz7 hv (Nat.le_refl _)).2 i
theorem qhx{qa:List Node}{i j:Nat}:j∈qcq qa i↔j<qa.length/\i∈qcp qa j:=by
 unfold qcq;simp
theorem qo0(qa:List Node)(i:Nat):(qcq qa i).Nodup:=Pairwise.filter _ nodup_range
theorem q2w(qa:List Node)(i:Nat):(qcq qa i).length<=qa.length:=by
 have:=length_filter_le (λj=>decide (i∈qcp qa j)) (range qa.length);unfold qcq;simpa using this
theorem qz8{l:List Nat}{n:Nat}(h:l.Nodup)(hl:∀x∈l,x<n):l.length<=n:=by
 induction n generalizing l with
 |zero=>
  cases l with
  |nil=>simp
  |cons x xs=>exact absurd (hl x (by simp)) (by omega)
 |succ n ih=>
  by_cases hn:n∈l
  . have h1:=ih (h.erase n) (fun x hx=>by
     have h2:=(h.mem_erase_iff).1 hx;have:=hl x h2.2;omega)
    rw[length_erase_of_mem hn]at h1;omega
  . have:=ih h (fun x hx=>by
     have:=hl x hx;have:x≠n:=λe=>hn (e▸hx);omega)
    omega
def qeb(done:List Int)(x:Node×Nat):Bool:=!decide ((x.2:Int)∈done)&&x.1.frm.all (λf=>decide (f∈done))
def qc0(qa:List Node)(done:List Int)(k:Nat):List Int:=((qa.zipIdx.take k).filter (qeb done)).map (λx:Node×Nat=>(x.2:Int))
def qat(qa:List Node)(done:List Int):List Int:=if qaf qa then qc0 qa done qa.length else []
theorem qfx{qa:List Node}{k:Nat}{nd:Node}(done:List Int)(h:qa[k]?=some nd):qc0 qa done (k+1)=if qeb done (nd,k)then qc0 qa done k++[(k:Int)]else qc0 qa done k:=by
 have hz:qa.zipIdx[k]?=some (nd,k):=by simp[h]
 obtain⟨hk,hx⟩:=List.getElem?_eq_some_iff.1 hz;unfold qc0;rw[take_succ_eq_append_getElem hk,filter_append,map_append,hx];by_cases hr:qeb done (nd,k)=true
 . rw[if_pos hr,filter_cons_of_pos hr];rfl
 . rw[if_neg hr,filter_cons_of_neg hr,filter_nil,map_nil,append_nil]
theorem qnu(qa:List Node)(done:List Int)(k:Nat):(qc0 qa done k).length<=k:=by
 unfold qc0;rw[length_map];have:=length_filter_le (qeb done) (qa.zipIdx.take k);rw[length_take]at this;omega
structure qj where
 qb:List (List Int)
 counts:List Int
 done:List Int
 rows:List (List Int)
def qgn(qa:List Node)(i:Nat):List Int:=match qa[i]? with
 |some nd=>nd.frm
 |none=>[]
def has(qa:List Node)(i:Nat)(x:Int):Bool:=decide (x∈qgn qa i)
theorem qec{qa:List Node}{i:Nat}{nd:Node}(h:qa[i]?=some nd):qgn qa i=nd.frm:=by unfold qgn;rw[h]
theorem qzw{qa:List Node}{i:Nat}(h:qa.length<=i):qgn qa i=[]:=by unfold qgn;rw[getElem?_eq_none h]
theorem qfk{qa:List Node}(hv:qaf qa=true){i:Nat}{x:Int}(h:x∈qgn qa i):0<=x/\x<i/\i<qa.length:=by
 by_cases hi:i<qa.length
 . have hx:qa[i]?=some qa[i]:=getElem?_eq_getElem hi;rw[qec hx]at h;have:=qc6 (qbk hv hx).1 h;exact⟨this.1,this.2,hi⟩
 . rw[qzw (by omega)]at h;cases h
theorem qhr(qa:List Node)(i:Nat):qcp qa i=dedup (qgn qa i):=by
 unfold qcp qgn;cases qa[i]? with
 |some nd=>rfl
 |none=>rfl
theorem qhs{qa:List Node}(hv:qaf qa=true){i f:Nat}:f∈qcp qa i↔(f:Int)∈qgn qa i:=by
 rw[qhr,qoy];constructor
 . rintro⟨y,hy,e⟩;have:=qfk hv hy;have e2:y=(f:Int):=by omega
   rw[<-e2];exact hy
 . intro h;exact⟨f,h,by simp⟩
def left(qa:List Node)(D:List Int)(i:Nat):Nat:=(qcp qa i).countP (λf:Nat=>!decide ((f:Int)∈D))
theorem qjQ(qa:List Node)(i:Nat):left qa [] i=(qcp qa i).length:=by
 unfold left;rw[countP_eq_length];simp
theorem q7y(qa:List Node)(D:List Int)(i:Nat):left qa D i<=(qcp qa i).length:=countP_le_length
theorem q5o{l:List Nat}(hn:l.Nodup)(p:Nat->Bool){x:Nat}(hp:p x=true):l.countP (λf=>p f && !decide (f=x))+(if x∈l then 1 else 0)=l.countP p:=by
 induction l with
 |nil=>simp
 |cons a r ih=>
  obtain⟨h1,h2⟩:=nodup_cons.1 hn;have:=ih h2;by_cases hax:a=x
  . subst hax
    have hc:r.countP (λf=>p f && !decide (f=a))=r.countP p:=by
     rw[if_neg h1]at this;simpa using this
    rw[countP_cons_of_neg (by simp),countP_cons_of_pos hp,hc,if_pos (by simp)]
  . have hm:(x∈a::r)↔x∈r:=⟨λh=>by rcases mem_cons.1 h with e|h;exact absurd e.symm hax;exact h,mem_cons_of_mem _⟩;by_cases hpa:p a=true
    . rw[countP_cons_of_pos (by simp[hpa,hax]),countP_cons_of_pos hpa];simp only[hm];omega
    . rw[countP_cons_of_neg (by simp[hpa]),countP_cons_of_neg hpa];simp only[hm];omega
theorem qt6{qa:List Node}(hv:qaf qa=true){D:List Int}{x:Int}(hx:x∉D)(h0:0<=x)(i:Nat):left qa (D++[x]) i+(if has qa i x then 1 else 0)=left qa D i:=by
 obtain⟨m,rfl⟩:=Int.eq_ofNat_of_zero_le h0;have e:=q5o (qoz qa i) (λf:Nat=>!decide ((f:Int)∈D)) (x:=m) (by simpa using hx);unfold left;rw[<-e]
 have e1:(λf:Nat=>!decide ((f:Int)∈D++[(m:Int)]))=(λf:Nat=>!decide ((f:Int)∈D) && !decide (f=m)):=by
  funext f;by_cases h1:(f:Int)∈D
  . simp[h1]
  . by_cases h2:f=m
    . simp[h2]
    . have:¬(f:Int)=(m:Int):=by omega
      simp[h1,h2,this]
 rw[e1]
 have e2:(has qa i (m:Int)=true)↔m∈qcp qa i:=by
  unfold has;rw[decide_eq_true_eq];exact(qhs hv).symm
 by_cases hm:m∈qcp qa i
 . rw[if_pos hm,if_pos (e2.2 hm)]
 . rw[if_neg hm,if_neg (λh=>hm (e2.1 h))]
theorem q7z{qa:List Node}(hv:qaf qa=true){D:List Int}{i:Nat}:left qa D i=0↔∀f∈qgn qa i,f∈D:=by
 unfold left;rw[countP_eq_zero];constructor
 . intro h f hf;have:=qfk hv hf;obtain⟨m,rfl⟩:=Int.eq_ofNat_of_zero_le this.1;have:=h m ((qhs hv).2 hf);simpa using this
 . intro h f hf;have:=h _ ((qhs hv).1 hf);simpa using this
def qga(qa:List Node)(D:List Int)(x:Int):Bool:=decide (0<=x)&&decide (x<qa.length) && !decide (x∈D)&&(qgn qa x.toNat).all (λf=>decide (f∈D))
def qd0(qa:List Node)(order:List Int)(k:Nat):Bool:=(range k).all λi=>qga qa (order.take i) (order.getD i 0)
def qb6(qa:List Node)(order:List Int):Bool:=qd0 qa order order.length
theorem qe0(qa:List Node)(order:List Int)(k:Nat):qd0 qa order (k+1)=(qd0 qa order k&&qga qa (order.take k) (order.getD k 0)):=by
 unfold qd0;rw[range_succ,all_append];simp
theorem qxj{qa:List Node}{order:List Int}{k m:Nat}(h:k<=m)(ho:qd0 qa order m=true):qd0 qa order k=true:=by
 induction m with
 |zero=>
  obtain rfl:k=0:=by omega
  exact ho
 |succ m ih=>
  by_cases hk:k=m+1
  . subst hk;exact ho
  . rw[qe0,Bool.and_eq_true]at ho;exact ih (by omega) ho.1
theorem qr0(qa:List Node)(D:List Int)(x:Int):qb6 qa (D++[x])=(qb6 qa D&&qga qa D x):=by
 have h1:qd0 qa (D++[x]) D.length=qd0 qa D D.length:=by
  unfold qd0;rw[Bool.eq_iff_iff,List.all_eq_true,List.all_eq_true]
  have e:∀i,i∈range D.length->((D++[x]).take i=D.take i/\(D++[x]).getD i 0=D.getD i 0):=by
   intro i hi;have hi:=mem_range.1 hi;exact⟨take_append_of_le_length (by omega),by simp only[getD_eq_getElem?_getD];rw[getElem?_append_left hi]⟩
  constructor
  . intro h i hi;have:=h i hi
    rwa [(e i hi).1,(e i hi).2]at this
  . intro h i hi;rw[(e i hi).1,(e i hi).2];exact h i hi
 unfold qb6;rw[length_append];show qd0 qa (D++[x]) (D.length+1)=_;rw[qe0,h1,take_left,getD_eq_getElem?_getD,getElem?_append_right (Nat.le_refl _),Nat.sub_self];rfl
theorem qsT{qa:List Node}{order:List Int}{k:Nat}(hk:k<=order.length):qb6 qa (order.take k)=qd0 qa order k:=by
 induction k with
 |zero=>rfl
 |succ k ih=>
  rw[take_succ_eq_append_getElem (by omega),qr0,ih (by omega),qe0,getD_eq_getElem?_getD,getElem?_eq_getElem (by omega)];rfl
theorem qfb{qa:List Node}{D:List Int}{x:Int}:qga qa D x=true↔0<=x/\x<qa.length/\x∉D/\∀f∈qgn qa x.toNat,f∈D:=by
 unfold qga;simp only[Bool.and_eq_true,decide_eq_true_eq,Bool.not_eq_true',decide_eq_false_iff_not,List.all_eq_true,and_assoc]
theorem qit{qa:List Node}{D:List Int}(ho:qb6 qa D=true){i:Nat}(hi:i<D.length):qga qa (D.take i) D[i]=true:=by
 have h1:qd0 qa D (i+1)=true:=qxj hi ho;rw[qe0,Bool.and_eq_true,getD_eq_getElem?_getD,getElem?_eq_getElem hi]at h1;exact h1.2
theorem qic{qa:List Node}{D:List Int}(ho:qb6 qa D=true){y:Int}(hy:y∈D):0<=y/\y<qa.length/\∀f∈qgn qa y.toNat,f∈D:=by
 obtain⟨i,hi,rfl⟩:=mem_iff_getElem.1 hy;obtain⟨h1,h2,_,h4⟩:=qfb.1 (qit ho hi);exact⟨h1,h2,λf hf=>mem_of_mem_take (h4 f hf)⟩
theorem qnw{qa:List Node}{D:List Int}(ho:qb6 qa D=true):D.Nodup:=by
 have:∀k,k<=D.length->(D.take k).Nodup:=by
  intro k
  induction k with
  |zero=>intro _;simp
  |succ k ih=>
   intro hk;rw[take_succ_eq_append_getElem (by omega),nodup_append];refine⟨ih (by omega),by simp,λa ha b hb e=>?_⟩;obtain rfl:b=D[k]:=by simpa using hb
   exact(qfb.1 (qit ho (i:=k) (by omega))).2.2.1 (e▸ha)
 have:=this D.length (Nat.le_refl _)
 rwa [take_length]at this
def qbm(qa:List Node):List Int:=(range qa.length).map λi=>((qcp qa i).length:Int)
def lefts(qa:List Node)(D:List Int):List Int:=(range qa.length).map λi=>(left qa D i:Int)
def qb2(qa:List Node)(cs:List Int)(x:Int):List Int:=cs.zipIdx.map λy:Int×Nat=>if has qa y.2 x then y.1-1 else y.1
def qbr(qa:List Node)(D:List Int):List Int:=D.foldl (qb2 qa) (qbm qa)
theorem qt7(qa:List Node):lefts qa []=qbm qa:=by
 unfold lefts qbm;simp only[qjQ]
theorem qgo(qa:List Node)(D:List Int):(lefts qa D).length=qa.length:=by unfold lefts;rw[length_map,length_range]
theorem qon{qa:List Node}(D:List Int){i:Nat}(h:i<qa.length):(lefts qa D)[i]?=some (left qa D i:Int):=by
 unfold lefts;rw[getElem?_map,getElem?_range h];rfl
theorem qin(qa:List Node)(cs:List Int)(x:Int):(qb2 qa cs x).length=cs.length:=by unfold qb2;rw[length_map,length_zipIdx]
theorem qnd{qa:List Node}{cs:List Int}{x:Int}{i:Nat}{c:Int}(h:cs[i]?=some c):(qb2 qa cs x)[i]?=some (if has qa i x then c-1 else c):=by
 unfold qb2;rw[getElem?_map,getElem?_zipIdx,h];simp
theorem qma{qa:List Node}(hv:qaf qa=true){D:List Int}{x:Int}(hx:x∉D)(h0:0<=x):qb2 qa (lefts qa D) x=lefts qa (D++[x]):=by
 apply ext_getElem?;intro i;by_cases hi:i<qa.length
 . rw[qnd (qon D hi),qon _ hi];have:=qt6 hv hx h0 i;congr 1;split
   . rw[if_pos (by assumption)]at this;omega
   . rw[if_neg (by assumption)]at this;omega
 . rw[getElem?_eq_none (by rw[qin,qgo];omega),getElem?_eq_none (by rw[qgo];omega)]
theorem qr1{qa:List Node}(hv:qaf qa=true){D:List Int}(ho:qb6 qa D=true):∀k,k<=D.length->qbr qa (D.take k)=lefts qa (D.take k):=by
 intro k
 induction k with
 |zero=>intro _;exact(qt7 qa).symm
 |succ k ih=>
  intro hk;have h1:qd0 qa D (k+1)=true:=qxj hk ho;rw[qe0,Bool.and_eq_true]at h1;have h2:=qfb.1 h1.2;have hg:D.getD k 0=D[k]:=by rw[getD_eq_getElem?_getD,getElem?_eq_getElem (by omega)];rfl
  rw[hg]at h2;rw[take_succ_eq_append_getElem (by omega)];unfold qbr at ih |-;rw[foldl_append,ih (by omega)];exact qma hv h2.2.2.1 h2.1
theorem qio{qa:List Node}(hv:qaf qa=true){D:List Int}(ho:qb6 qa D=true):qbr qa D=lefts qa D:=by
 have:=qr1 hv ho D.length (Nat.le_refl _)
 rwa [take_length]at this
def qB(f:Int->Int->Int)(a b:List Int):List Int:=zipWith (λx y=>f x y%1009) a b
def qez(f:Int->Int->Int)(a b:List Int):Option (List Int):=if qal a&&qal b&&decide (a.length=b.length)then some (qB f a b)else none
def xO(x y:Int):Int:=x+y
def xD(x y:Int):Int:=x*y
def qov(a b:List Int):Option (List Int):=qez xO a b
def qhc(a b:List Int):Option (List Int):=qez xD a b
def qbu(s:Int):List Int->List Int
 |[]=>[]
 |x::xs=>((s+x)%1009)::qbu ((s+x)%1009) xs
def qfq(l:List Int):Option (List Int):=if qal l then some (qbu 0 l)else none
def putRow:List Int->Int->List Int
 |[],n=>[n]
 |x::xs,n=>if n<x then n::x::xs else x::putRow xs n
def ql(l:List Int):List Int:=l.foldl putRow []
def qfr(l:List Int):Option (List Int):=if qal l then some (ql l)else none
def qfs(l:List Int):Option (List Int):=if qal l then some l.reverse else none
def qe1(k:Int):List (List Int)->Option (List Int)
 |[a,b]=>if k=1 then qov a b else if k=2 then qhc a b else none
 |[a]=>if k=3 then qfq a else if k=4 then qfr a else if k=5 then qfs a else none
 |_=>none
theorem qdr{l:List Int}(h:qal l=true){x:Int}(hx:x∈l):0<=x/\x<=1008:=by
 unfold qal at h;simp only[Bool.and_eq_true,decide_eq_true_eq,List.all_eq_true]at h;have:=h.1 x hx;unfold vz at this;simpa using this
theorem qch{l:List Int}(h:qal l=true):l.length<=6:=by
 unfold qal at h;simp only[Bool.and_eq_true,decide_eq_true_eq]at h;exact h.2
theorem qud{l:List Int}(h:∀x∈l,0<=x/\x<=1008)(hl:l.length<=6):qal l=true:=by
 unfold qal;simp only[Bool.and_eq_true,decide_eq_true_eq,List.all_eq_true];refine⟨λx hx=>?_,hl⟩;have:=h x hx;unfold vz;simp;omega
theorem que(l:List Int)(n:Int):(putRow l n).Perm (n::l):=by
 induction l with
 |nil=>exact List.Perm.refl _
 |cons x xs ih=>
  unfold putRow;split
  . exact List.Perm.refl _
  . exact(Perm.cons x ih).trans (Perm.swap n x xs)
theorem qyk{l:List Int}(n:Int)(h:l.Pairwise (·<=·)):(putRow l n).Pairwise (·<=·):=by
 induction l with
 |nil=>simp[putRow]
 |cons x xs ih=>
  have h1:=pairwise_cons.1 h;unfold putRow;split
  . rename_i hx;refine pairwise_cons.2 ⟨?_,h⟩;intro y hy;rcases mem_cons.1 hy with rfl|hy
    . omega
    . have:=h1.1 y hy;omega
  . refine pairwise_cons.2 ⟨?_,ih h1.2⟩;intro y hy;rcases mem_cons.1 ((que xs n).mem_iff.1 hy)with rfl|hy
    . omega
    . exact h1.1 y hy
theorem quf(l acc:List Int)(h:acc.Pairwise (·<=·)):(l.foldl putRow acc).Perm (l++acc)/\(l.foldl putRow acc).Pairwise (·<=·):=by
 induction l generalizing acc with
 |nil=>exact⟨List.Perm.refl _,h⟩
 |cons x xs ih=>
  obtain⟨h1,h2⟩:=ih (putRow acc x) (qyk x h);refine⟨h1.trans ?_,h2⟩;refine(Perm.append_left xs (que acc x)).trans ?_;exact perm_middle
theorem qie(l:List Int):(ql l).Perm l:=by
 have:=(quf l [] Pairwise.nil).1;rw[append_nil]at this;exact this
theorem qne(l:List Int):(ql l).Pairwise (·<=·):=(quf l [] Pairwise.nil).2
theorem qow:∀{a b:List Int},a.Perm b->a.Pairwise (·<=·)->b.Pairwise (·<=·)->a=b
 |[],b,h,_,_=>by simpa using h.symm
 |x::xs,[],h,_,_=>by simp at h
 |x::xs,y::ys,h,ha,hb=>by
  have ha':=pairwise_cons.1 ha;have hb':=pairwise_cons.1 hb;have hx:x∈y::ys:=h.mem_iff.1 (by simp);have hy:y∈x::xs:=h.mem_iff.2 (by simp)
  have e:x=y:=by
   rcases mem_cons.1 hx with h1|h1
   . exact h1
   . rcases mem_cons.1 hy with h2|h2
     . exact h2.symm
     . have:=ha'.1 y h2;have:=hb'.1 x h1;omega
  subst e;rw[qow (Perm.cons_inv h) ha'.2 hb'.2]
theorem q50{l m:List Int}(h:m.Perm l)(hs:m.Pairwise (·<=·)):m=ql l:=
 qow (h.trans (qie l).symm) hs (qne l)
theorem qe2(l:List Int):(ql l).length=l.length:=(qie l).length_eq
theorem qk7(s:Int)(l:List Int):(qbu s l).length=l.length:=by
 induction l generalizing s with
 |nil=>rfl
 |cons x xs ih=>simp[qbu,ih]
theorem q2s(s:Int)(l:List Int):∀x∈qbu s l,0<=x/\x<=1008:=by
 induction l generalizing s with
 |nil=>intro x hx;simp[qbu]at hx
 |cons y ys ih=>
  intro x hx;rcases mem_cons.1 hx with rfl|hx
  . omega
  . exact ih _ x hx
theorem q51{f:Int->Int->Int}{a b:List Int}(h:a.length=b.length):(qB f a b).length=a.length:=by
 unfold qB;rw[length_zipWith];omega
theorem q72(f:Int->Int->Int)(a b:List Int):∀x∈qB f a b,0<=x/\x<=1008:=by
 intro x hx;unfold qB at hx;obtain⟨i,hi⟩:=mem_iff_getElem?.1 hx;rw[getElem?_zipWith]at hi;split at hi
 . injection hi with hi;omega
 . cases hi
theorem qjg{f:Int->Int->Int}{a b r:List Int}(h:qez f a b=some r):qal r=true/\r.length=a.length/\r.length=b.length/\qal a=true/\qal b=true:=by
 unfold qez at h;split at h
 . rename_i hc;injection h with h;subst h;simp only[Bool.and_eq_true,decide_eq_true_eq]at hc;have hl:=q51 (f:=f) hc.2;exact⟨qud (q72 f a b) (by rw[hl];exact qch hc.1.1),hl,by omega,hc.1.1,hc.1.2⟩
 . cases h
theorem qyl{k:Int}{rows:List (List Int)}{r:List Int}(h:qe1 k rows=some r):qal r=true/\(rows.length:Int)=qav k/\∀l∈rows,l.length=r.length/\qal l=true:=by
 have two:∀{f:Int->Int->Int} {a b:List Int},qez f a b=some r->∀l∈[a,b],l.length=r.length/\qal l=true:=by
  intro f a b h l hl;obtain⟨_,h1,h2,h3,h4⟩:=qjg h;simp at hl;rcases hl with rfl|rfl
  . exact⟨h1.symm,h3⟩
  . exact⟨h2.symm,h4⟩
 unfold qe1 at h;split at h
 . rename_i a b;split at h
   . rename_i hk;subst hk;exact⟨(qjg h).1,rfl,two h⟩
   . split at h
     . rename_i hk;subst hk;exact⟨(qjg h).1,rfl,two h⟩
     . cases h
 . rename_i a
   have one:∀{m:List Int},qal a=true->m.length=a.length->(∀x∈m,0<=x/\x<=1008)->qal m=true/\∀l∈[a],l.length=m.length/\qal l=true:=by
    intro m hv hl hm;refine⟨qud hm (by rw[hl];exact qch hv),λl hl'=>?_⟩;simp at hl';subst hl';exact⟨hl.symm,hv⟩
   split at h
   . rename_i hk;subst hk;unfold qfq at h;split at h
     . rename_i hv;injection h with h;subst h;obtain⟨h1,h2⟩:=one hv (qk7 0 a) (q2s 0 a);exact⟨h1,rfl,h2⟩
     . cases h
   . split at h
     . rename_i hk;subst hk;unfold qfr at h;split at h
       . rename_i hv;injection h with h;subst h;obtain⟨h1,h2⟩:=one hv (qe2 a) (λx hx=>qdr hv ((qie a).mem_iff.1 hx));exact⟨h1,rfl,h2⟩
       . cases h
     . split at h
       . rename_i hk;subst hk;unfold qfs at h;split at h
         . rename_i hv;injection h with h;subst h;obtain⟨h1,h2⟩:=one (m:=a.reverse) hv (by simp) (λx hx=>qdr hv (by simpa using hx));exact⟨h1,rfl,h2⟩
         . cases h
       . cases h
 . cases h
def qD(x:Node)(rows:List (List Int)):List Int:=if x.kind=0 then x.row else (qe1 x.kind (x.frm.map λi=>rows.getD i.toNat [])).getD []
def qb9(qa:List Node):Nat->List (List Int)
 |0=>[]
 |k+1=>qb9 qa k++[match qa[k]? with
  |some x=>qD x (qb9 qa k)
  |none=>[]]
def values(qa:List Node):List (List Int):=qb9 qa qa.length
theorem qd4(qa:List Node)(k:Nat):(qb9 qa k).length=k:=by
 induction k with
 |zero=>rfl
 |succ k ih=>simp[qb9,ih]
theorem qhj(qa:List Node):(values qa).length=qa.length:=qd4 qa _
theorem qje{qa:List Node}{k:Nat}{x:Node}(h:qa[k]?=some x):qb9 qa (k+1)=qb9 qa k++[qD x (qb9 qa k)]:=by
 rw[qb9,h]
theorem qyf(qa:List Node){i k:Nat}(h:i<=k):(qb9 qa k).take i=qb9 qa i:=by
 induction k with
 |zero=>
  obtain rfl:i=0:=by omega
  rfl
 |succ k ih=>
  by_cases hk:i=k+1
  . subst hk;rw[take_of_length_le (by rw[qd4];omega)]
  . rw[qb9,take_append_of_le_length (by rw[qd4];omega),ih (by omega)]
theorem qjf(qa:List Node){i k m:Nat}(h:i<k)(hm:i<m):(qb9 qa k).getD i []=(qb9 qa m).getD i []:=by
 have e:∀k:Nat,i<k->(qb9 qa k).getD i []=(qb9 qa (i+1)).getD i []:=by
  intro k hk;rw[<-qyf qa (show i+1<=k by omega)];simp only[getD_eq_getElem?_getD];rw[getElem?_take,if_pos (by omega)]
 rw[e k h,e m hm]
def qdi(qa:List Node)(i:Nat):List Int:=(values qa).getD i []
theorem qk4{qa:List Node}{i:Nat}(h:i<qa.length):(values qa)[i]?=some (qdi qa i):=by
 unfold qdi;rw[getD_eq_getElem?_getD,getElem?_eq_getElem (by rw[qhj];exact h)];rfl
theorem qzv{k:Int}{rows:List (List Int)}{n:Nat}(h0:1<=k)(h5:k<=5)(hl:(rows.length:Int)=qav k)(hr:∀l∈rows,qal l=true/\l.length=n):∃r,qe1 k rows=some r:=by
 have both:∀(f:Int->Int->Int) (a b:List Int),qal a=true->qal b=true->a.length=b.length->∃r,qez f a b=some r:=by
  intro f a b ha hb hab;unfold qez;rw[ha,hb,decide_eq_true hab];exact⟨_,rfl⟩
 have two:(qav k=2)->∃a b,rows=[a,b]/\qal a=true/\qal b=true/\a.length=b.length:=by
  intro e;rw[e]at hl
  match rows,hl with
  |[a,b],_=>
   have ha:=hr a (by simp);have hb:=hr b (by simp);exact⟨a,b,rfl,ha.1,hb.1,by omega⟩
  |[],hl=>simp at hl
  |[_],hl=>simp at hl
  |_::_::_::_,hl=>simp at hl;omega
 have one:(qav k=1)->∃a,rows=[a]/\qal a=true:=by
  intro e;rw[e]at hl
  match rows,hl with
  |[a],_=>exact⟨a,rfl,(hr a (by simp)).1⟩
  |[],hl=>simp at hl
  |_::_::_,hl=>simp at hl;omega
 rcases (show k=1∨k=2∨k=3∨k=4∨k=5 by omega)with rfl|rfl|rfl|rfl|rfl
 . obtain⟨a,b,rfl,ha,hb,hab⟩:=two (by decide);exact both _ a b ha hb hab
 . obtain⟨a,b,rfl,ha,hb,hab⟩:=two (by decide);exact both _ a b ha hb hab
 . obtain⟨a,rfl,ha⟩:=one (by decide);exact⟨_,by show qfq a=_;unfold qfq;rw[if_pos ha]⟩
 . obtain⟨a,rfl,ha⟩:=one (by decide);exact⟨_,by show qfr a=_;unfold qfr;rw[if_pos ha]⟩
 . obtain⟨a,rfl,ha⟩:=one (by decide);exact⟨_,by show qfs a=_;unfold qfs;rw[if_pos ha]⟩
theorem qk5{x:Node}{a:Int}(h:qbz x a=true):(0<=x.kind/\x.kind<=5)/\(x.frm.length:Int)=qav x.kind/\(∀y∈x.frm,0<=y/\y<a)/\(x.kind=0->qal x.row=true):=by
 unfold qbz at h;simp only[Bool.and_eq_true,decide_eq_true_eq,List.all_eq_true]at h;obtain⟨⟨⟨h1,h2⟩,h3⟩,h4⟩:=h;refine⟨?_,h2,h3,λe=>?_⟩
 . unfold qeq at h1;simpa using h1
 . rw[if_pos e]at h4;exact h4
theorem qom{qa:List Node}(hv:qaf qa=true){k:Nat}{x:Node}(hx:qa[k]?=some x){rows:List (List Int)}(hl:rows.length=k)(hr:∀l∈rows,qal l=true/\l.length=wide qa) :
   qal (qD x rows)=true/\(qD x rows).length=wide qa/\(x.kind≠0->qe1 x.kind (x.frm.map λi=>rows.getD i.toNat [])=some (qD x rows)):=by
 obtain⟨hf,-,-,hw⟩:=qbk hv hx;obtain⟨⟨h0,h5⟩,h2,h3,h4⟩:=qk5 hf;unfold qD;by_cases hk:x.kind=0
 . rw[if_pos hk];exact⟨h4 hk,hw hk,λh=>absurd hk h⟩
 . rw[if_neg hk]
   have hmem:∀l∈x.frm.map (λi=>rows.getD i.toNat []),qal l=true/\l.length=wide qa:=by
    intro l hl';obtain⟨i,hi,rfl⟩:=mem_map.1 hl';have:=h3 i hi;have hlt:i.toNat<rows.length:=by omega
    rw[getD_eq_getElem?_getD,getElem?_eq_getElem hlt];exact hr _ (getElem_mem hlt)
   obtain⟨r,e⟩:=qzv (by omega) h5 (by rw[length_map];exact h2) hmem;rw[e];obtain⟨v1,-,v3⟩:=qyl e;refine⟨v1,?_,λ_=>rfl⟩
   have hne:x.frm≠[]:=by
    intro e0;rw[e0]at h2;rcases (show x.kind=1∨x.kind=2∨x.kind=3∨x.kind=4∨x.kind=5 by omega)with e|e|e|e|e
    all_goals
     rw[e]at h2;exact absurd h2 (by decide)
   obtain⟨i,r',e1⟩:∃i r',x.frm=i::r':=by
    cases hf':x.frm with
    |nil=>exact absurd hf' hne
    |cons i r'=>exact⟨i,r',rfl⟩
   have hm0:=v3 (rows.getD i.toNat []) (by rw[e1];simp);have hm1:=hmem (rows.getD i.toNat []) (by rw[e1];simp);show r.length=wide qa;omega
theorem qnc{qa:List Node}(hv:qaf qa=true):∀k,k<=qa.length->∀l∈qb9 qa k,qal l=true/\l.length=wide qa:=by
 intro k
 induction k with
 |zero=>intro _ l hl;simp[qb9]at hl
 |succ k ih=>
  intro hk l hl;have hx:qa[k]?=some qa[k]:=getElem?_eq_getElem (by omega);rw[qje hx]at hl;rcases mem_append.1 hl with hl|hl
  . exact ih (by omega) l hl
  . obtain rfl:l=qD qa[k] (qb9 qa k):=by simpa using hl
    have:=qom hv hx (qd4 qa k) (ih (by omega));exact⟨this.1,this.2.1⟩
theorem qq0{qa:List Node}{i:Nat}{x:Node}(h:qa[i]?=some x):qdi qa i=qD x (qb9 qa i):=by
 have hi:=(List.getElem?_eq_some_iff.1 h).1;unfold qdi values;rw[qjf qa (m:=i+1) hi (by omega),qje h,getD_eq_getElem?_getD,getElem?_append_right (by rw[qd4];omega),qd4,Nat.sub_self];rfl
theorem q2k{qa:List Node}(hv:qaf qa=true){i:Nat}(hi:i<qa.length):qal (qdi qa i)=true/\(qdi qa i).length=wide qa:=
 qnc hv _ (Nat.le_refl _) _ (mem_of_getElem? (qk4 hi))
theorem q7x{qa:List Node}(hv:qaf qa=true){i:Nat}{x:Node}(h:qa[i]?=some x)(hk:x.kind≠0):qe1 x.kind (x.frm.map λj=>qdi qa j.toNat)=some (qdi qa i):=by
 have hi:=(List.getElem?_eq_some_iff.1 h).1;have hs:=(qom hv h (qd4 qa i) (qnc hv i (by omega))).2.2 hk;rw[<-qq0 h]at hs;rw[<-hs];congr 1;refine map_congr_left (λj hj=>?_);have:=qc6 (qbk hv h).1 hj;exact qjf qa (by omega) (by omega)
theorem q2l{qa:List Node}{i:Nat}{x:Node}(h:qa[i]?=some x)(hk:x.kind=0):qdi qa i=x.row:=by
 rw[qq0 h];unfold qD;rw[if_pos hk]
theorem qnx{qa:List Node}{D:List Int}{k:Nat}(hk:k<=qa.length){x:Int}:x∈qc0 qa D k↔∃i:Nat,i<k/\x=i/\x∉D/\∀f∈qgn qa i,f∈D:=by
 induction k with
 |zero=>simp[qc0]
 |succ k ih=>
  have hx:qa[k]?=some qa[k]:=getElem?_eq_getElem (by omega)
  have hr:qeb D (qa[k],k)=true↔(k:Int)∉D/\∀f∈qgn qa k,f∈D:=by
   rw[qec hx];unfold qeb;simp only[Bool.and_eq_true,Bool.not_eq_true',decide_eq_false_iff_not,List.all_eq_true,decide_eq_true_eq]
  rw[qfx D hx];have ih:=ih (by omega);constructor
  . intro h;by_cases hc:qeb D (qa[k],k)=true
    . rw[if_pos hc]at h;rcases mem_append.1 h with h|h
      . obtain⟨i,h1,h2⟩:=ih.1 h;exact⟨i,by omega,h2⟩
      . obtain rfl:x=(k:Int):=by simpa using h
        exact⟨k,by omega,rfl,(hr.1 hc).1,(hr.1 hc).2⟩
    . rw[if_neg hc]at h;obtain⟨i,h1,h2⟩:=ih.1 h;exact⟨i,by omega,h2⟩
  . rintro⟨i,h1,rfl,h3,h4⟩;by_cases hik:i=k
    . subst hik;rw[if_pos (hr.2 ⟨h3,h4⟩)];simp
    . have:=ih.2 ⟨i,by omega,rfl,h3,h4⟩;split
      . exact mem_append_left _ this
      . exact this
theorem qyg(qa:List Node)(D:List Int):∀k,k<=qa.length->(qc0 qa D k).Nodup:=by
 intro k
 induction k with
 |zero=>intro _;simp[qc0]
 |succ k ih=>
  intro hk;have hx:qa[k]?=some qa[k]:=getElem?_eq_getElem (by omega);rw[qfx D hx];split
  . rw[nodup_append];refine⟨ih (by omega),by simp,λa ha b hb e=>?_⟩;obtain rfl:b=(k:Int):=by simpa using hb
    obtain⟨i,h1,h2,_⟩:=(qnx (by omega)).1 ha;omega
  . exact ih (by omega)
theorem qg9(qa:List Node)(D:List Int):(qat qa D).Nodup:=by
 unfold qat;split
 . exact qyg qa D _ (Nat.le_refl _)
 . exact nodup_nil
theorem qdw{qa:List Node}(hv:qaf qa=true){D:List Int}{x:Int}:x∈qat qa D↔∃i:Nat,i<qa.length/\x=i/\x∉D/\∀f∈qgn qa i,f∈D:=by
 unfold qat;rw[if_pos hv];exact qnx (Nat.le_refl _)
def qfi(qa:List Node)(D:List Int)(i:Nat):List Int:=if (i:Int)∈D then qdi qa i else []
def qr2(qa:List Node)(c:qj):Bool:=(range qa.length).all λi=>decide (c.rows.getD i []=qfi qa c.done i)
def qha(qa:List Node)(c:qj):Bool:=decide (c.qb.flatten.length=(qat qa c.done).length)&&(qat qa c.done).all λx=>decide (c.qb.flatten.count x=1)
def qa3(qa:List Node)(c:qj):Bool:=
 qaf qa&&(decide (1<=c.qb.length)&&decide (c.qb.length<=4))&&qb6 qa c.done&&decide (c.counts=qbr qa c.done)&&decide (c.rows.length=qa.length)&&qha qa c&&qr2 qa c
theorem qwq{R:List Int}(hn:R.Nodup):∀{F:List Int},F.length=R.length->(∀x∈R,F.count x=1)->F.Perm R:=by
 induction R with
 |nil=>
  intro F hl _;obtain rfl:F=[]:=eq_nil_of_length_eq_zero (by simpa using hl);exact List.Perm.refl _
 |cons x R ih=>
  intro F hl hc;obtain⟨h1,h2⟩:=nodup_cons.1 hn;have hx:x∈F:=count_pos_iff.1 (by rw[hc x (by simp)];omega);have hp:=perm_cons_erase hx;refine hp.trans (Perm.cons x (ih h2 ?_ λy hy=>?_))
  . rw[length_erase_of_mem hx,hl];simp
  . have hne:y≠x:=λe=>h1 (e▸hy);rw[count_erase_of_ne hne];exact hc y (by simp[hy])
theorem qzx{qa:List Node}{c:qj}:qha qa c=true↔c.qb.flatten.Perm (qat qa c.done):=by
 have hn:=qg9 qa c.done;unfold qha;simp only[Bool.and_eq_true,decide_eq_true_eq,List.all_eq_true];constructor
 . rintro⟨h1,h2⟩;exact qwq hn h1 h2
 . intro h;refine⟨h.length_eq,λx hx=>?_⟩;rw[perm_iff_count.1 h x,hn.count,if_pos hx]
structure qp(qa:List Node)(c:qj):Prop where
 pv:qaf qa=true
 d1:1<=c.qb.length
 d4:c.qb.length<=4
 order:qb6 qa c.done=true
 counts:c.counts=lefts qa c.done
 rl:c.rows.length=qa.length
 dq:c.qb.flatten.Perm (qat qa c.done)
 rows:∀i,i<qa.length->c.rows[i]?=some (qfi qa c.done i)
theorem qbp{qa:List Node}{c:qj}:qa3 qa c=true↔qp qa c:=by
 unfold qa3;simp only[Bool.and_eq_true,decide_eq_true_eq,qzx];constructor
 . rintro⟨⟨⟨⟨⟨⟨h1,h2,h3⟩,h4⟩,h5⟩,h6⟩,h7⟩,h8⟩;refine⟨h1,h2,h3,h4,by rw[h5,qio h1 h4],h6,h7,λi hi=>?_⟩;unfold qr2 at h8;have:=List.all_eq_true.1 h8 i (mem_range.2 hi);rw[decide_eq_true_eq,getD_eq_getElem?_getD,getElem?_eq_getElem (by omega)]at this;rw[getElem?_eq_getElem (by omega)];exact congrArg some this
 . intro h;refine⟨⟨⟨⟨⟨⟨h.pv,h.d1,h.d4⟩,h.order⟩,by rw[qio h.pv h.order];exact h.counts⟩,h.rl⟩,h.dq⟩,?_⟩;unfold qr2;rw[List.all_eq_true];intro i hi;rw[decide_eq_true_eq,getD_eq_getElem?_getD,h.rows i (mem_range.1 hi)];rfl
def qb4(qa:List Node)(cs:List Int)(x:Int):List Int:=((range qa.length).filter λi=>has qa i x&&decide (cs.getD i 0=1)).map (λi:Nat=>(i:Int))
theorem qr3{qa:List Node}{cs:List Int}{x y:Int}:y∈qb4 qa cs x↔∃i:Nat,i<qa.length/\y=i/\x∈qgn qa i/\cs.getD i 0=1:=by
 unfold qb4 has;simp only[mem_map,mem_filter,mem_range,Bool.and_eq_true,decide_eq_true_eq];constructor
 . rintro⟨i,⟨h1,h2,h3⟩,rfl⟩;exact⟨i,h1,rfl,h2,h3⟩
 . rintro⟨i,h1,rfl,h2,h3⟩;exact⟨i,⟨h1,h2,h3⟩,rfl⟩
theorem qwr(qa:List Node)(cs:List Int)(x:Int):(qb4 qa cs x).Nodup:=by
 unfold qb4;have h:=(nodup_range (n:=qa.length)).filter (λi=>has qa i x&&decide (cs.getD i 0=1));exact Pairwise.map _ (λa b hab e=>hab (by omega)) h
theorem q5p{qa:List Node}(hv:qaf qa=true){D:List Int}(ho:qb6 qa D=true){x:Int}(hx:x∈qat qa D) :
   (qat qa (D++[x])).Perm ((qat qa D).erase x++qb4 qa (lefts qa D) x):=by
 obtain⟨m,hm,rfl,hxD,hxf⟩:=(qdw hv).1 hx;have hn:=qg9 qa D
 have key:∀i:Nat,i<qa.length->((m:Int)∈qgn qa i/\(lefts qa D).getD i 0=1↔(m:Int)∈qgn qa i/\∀f∈qgn qa i,f∈D++[(m:Int)]):=by
  intro i hi;have e:(lefts qa D).getD i 0=(left qa D i:Int):=by rw[getD_eq_getElem?_getD,qon D hi];rfl
  have h1:=qt6 hv hxD (Int.natCast_nonneg m) i;rw[e,<-q7z hv];constructor
  . rintro⟨h2,h3⟩;rw[if_pos (by unfold has;exact decide_eq_true h2)]at h1;exact⟨h2,by omega⟩
  . rintro⟨h2,h3⟩;rw[if_pos (by unfold has;exact decide_eq_true h2)]at h1;exact⟨h2,by omega⟩
 refine(perm_ext_iff_of_nodup (qg9 _ _) ?_).2 λy=>?_
 . rw[nodup_append];refine⟨hn.erase _,qwr _ _ _,λa ha b hb e=>?_⟩;subst e;obtain⟨i,hi,rfl,h2,h3⟩:=qr3.1 hb;obtain⟨j,_,hj,h4,h5⟩:=(qdw hv).1 (mem_of_mem_erase ha);obtain rfl:i=j:=by omega
   exact hxD (h5 _ h2)
 . rw[mem_append,hn.mem_erase_iff,qdw hv,qdw hv,qr3];constructor
   . rintro⟨i,hi,rfl,h1,h2⟩;have hne:(i:Int)≠m:=λe=>h1 (by simp[e]);have hD:(i:Int)∉D:=λe=>h1 (by simp[e]);by_cases hmf:(m:Int)∈qgn qa i
     . exact .inr ⟨i,hi,rfl,(key i hi).2 ⟨hmf,h2⟩⟩
     . refine .inl ⟨hne,i,hi,rfl,hD,λf hf=>?_⟩;rcases mem_append.1 (h2 f hf)with h|h
       . exact h
       . obtain rfl:f=(m:Int):=by simpa using h
         exact absurd hf hmf
   . rintro(⟨hne,i,hi,rfl,h1,h2⟩|⟨i,hi,rfl,h⟩)
     . exact⟨i,hi,rfl,by simp[h1,hne],λf hf=>by simp[h2 f hf]⟩
     . obtain⟨h1,h2⟩:=(key i hi).1 h;refine⟨i,hi,rfl,λe=>?_,h2⟩;rcases mem_append.1 e with e|e
       ·
        exact hxD ((qic ho e).2.2 _ (by simpa using h1))
       . obtain rfl : i = m := by have e : (i : Int) = m := by simpa using e
                                  omega
         have:=qfk hv h1;omega
theorem qoo{L:List (List Int)}{w:Nat}(h:w<L.length)(d:List Int):(L.set w d).flatten.Perm (d++(L.eraseIdx w).flatten):=by
 induction L generalizing w with
 |nil=>simp at h
 |cons a L ih=>
  cases w with
  |zero=>simp
  |succ w=>
   simp only[set_cons_succ,flatten_cons,eraseIdx_cons_succ];have:=ih (w:=w) (by simpa using h);refine(Perm.append_left a this).trans ?_;rw[<-append_assoc,<-append_assoc];exact Perm.append_right _ perm_append_comm
theorem qop{L:List (List Int)}{w:Nat}{d:List Int}(h:L[w]?=some d):L.flatten.Perm (d++(L.eraseIdx w).flatten):=by
 obtain⟨hw,rfl⟩:=List.getElem?_eq_some_iff.1 h;have:=qoo hw L[w]
 rwa [set_getElem_self]at this
def qg4(qa:List Node)(c:qj)(w:Nat)(x:Int):qj:=
 {qb:=c.qb.set w (c.qb.getD w []++qb4 qa c.counts x),counts:=qb2 qa c.counts x,done:=c.done++[x],rows:=c.rows.set x.toNat (qdi qa x.toNat)}
theorem qzy{qa:List Node}{c:qj}(hc:qp qa c){L:List (List Int)}{w:Nat}{x:Int}(hx:x∈qat qa c.done)(hl:L.length=c.qb.length)(hw:w<c.qb.length)(hp:(x::L.flatten).Perm c.qb.flatten) :
   qp qa (qg4 qa {c with qb:=L} w x):=by
 obtain⟨m,hm,rfl,hxD,hxf⟩:=(qdw hc.pv).1 hx;have hwL:w<L.length:=by omega
 have hstep:qga qa c.done (m:Int)=true:=qfb.2 ⟨Int.natCast_nonneg m,by omega,hxD,by simpa using hxf⟩;refine⟨hc.pv,?_,?_,?_,?_,?_,?_,?_⟩
 . show 1<=(L.set w _).length;rw[length_set,hl];exact hc.d1
 . show (L.set w _).length<=4;rw[length_set,hl];exact hc.d4
 . show qb6 qa (c.done++[(m:Int)])=true;rw[qr0,hc.order,hstep];rfl
 . show qb2 qa c.counts (m:Int)=lefts qa (c.done++[(m:Int)]);rw[hc.counts];exact qma hc.pv hxD (Int.natCast_nonneg m)
 . show (c.rows.set _ _).length=qa.length;rw[length_set];exact hc.rl
 . show (L.set w (L.getD w []++qb4 qa c.counts (m:Int))).flatten.Perm (qat qa (c.done++[(m:Int)]));have h1:=q5p hc.pv hc.order hx;rw[<-hc.counts]at h1;refine Perm.trans ?_ h1.symm
   have hR:(L.flatten).Perm ((qat qa c.done).erase (m:Int)):=by
    have h2:=(hp.trans hc.dq);have h3:=perm_cons_erase hx;exact Perm.cons_inv (h2.trans h3)
   have hg:L[w]?=some (L.getD w []):=by rw[getD_eq_getElem?_getD,getElem?_eq_getElem hwL];rfl
   have h4:=qoo hwL (L.getD w []++qb4 qa c.counts (m:Int));have h5:=qop hg;refine h4.trans ?_;rw[append_assoc];refine(Perm.append_left _ perm_append_comm).trans ?_;rw[<-append_assoc];exact Perm.append_right _ (h5.symm.trans hR)
 . intro i hi;show (c.rows.set (m:Int).toNat (qdi qa (m:Int).toNat))[i]?=some (qfi qa (c.done++[(m:Int)]) i);rw[Int.toNat_natCast];by_cases him:i=m
   . subst him;rw[getElem?_set_self (by rw[hc.rl];exact hi)];unfold qfi;rw[if_pos (by simp)]
   . rw[getElem?_set_ne (λe=>him e.symm),hc.rows i hi];unfold qfi;have:(i:Int)≠m:=by omega
     by_cases hD:(i:Int)∈c.done
     . rw[if_pos hD,if_pos (by simp[hD])]
     . rw[if_neg hD,if_neg (by simp[hD,this])]
def qbs(c:qj)(w:Int):Bool:=decide (0<=w)&&decide (w<c.qb.length)
def qc5(qa:List Node)(c:qj)(w:Int):Option qj:=
 if qa3 qa c&&qbs c w then
  (match (c.qb.getD w.toNat []).getLast? with
  |none=>none
  |some x=>some (qg4 qa {c with qb:=c.qb.set w.toNat (c.qb.getD w.toNat []).dropLast} w.toNat x))
 else none
def qba(qa:List Node)(c:qj)(w f:Int):Option qj:=
 if qa3 qa c&&qbs c w&&qbs c f && !decide (w=f)&&decide (c.qb.getD w.toNat []=[])then
  (match c.qb.getD f.toNat []with
  |[]=>none
  |x::r=>some (qg4 qa {c with qb:=c.qb.set f.toNat r} w.toNat x))
 else none
def qcg(qa:List Node)(c:qj)(w:Int):Int:=
 if qa3 qa c&&qbs c w then
  (match ((range c.qb.length).map (λs=>(w.toNat+s)%c.qb.length)).find? (λi=>!decide (c.qb.getD i []=[]))with
  |some i=>(i:Int)
  |none=>-1)
 else -1
def qa0(qa:List Node)(c:qj)(w:Int):Option qj:=
 if qcg qa c w=-1 then none else if qcg qa c w=w then qc5 qa c w else qba qa c w (qcg qa c w)
theorem qb1{c:qj}{w:Int}:qbs c w=true↔0<=w/\w<c.qb.length:=by
 unfold qbs;simp
theorem getD_some{L:List (List Int)}{w:Nat}(h:w<L.length):L[w]?=some (L.getD w []):=by rw[getD_eq_getElem?_getD,getElem?_eq_getElem h];rfl
theorem qzz{qa:List Node}{c c':qj}{w:Int}(h:qc5 qa c w=some c') :
   qp qa c/\∃(k:Nat) (r:List Int) (x:Int),w=k/\k<c.qb.length/\c.qb[k]?=some (r++[x])/\x∈qat qa c.done/\c'=qg4 qa {c with qb:=c.qb.set k r} k x/\qp qa c':=by
 unfold qc5 at h;split at h
 . rename_i hc;rw[Bool.and_eq_true]at hc;obtain⟨hc,hw⟩:=hc;obtain⟨h0,h1⟩:=qb1.1 hw;obtain⟨k,rfl⟩:=Int.eq_ofNat_of_zero_le h0;have hk:k<c.qb.length:=by omega
   have H:=qbp.1 hc;simp only[Int.toNat_natCast]at h;have hg:=getD_some hk;generalize c.qb.getD k []=d at h hg;split at h
   . cases h
   . rename_i x hx;obtain⟨r,rfl⟩:=getLast?_eq_some_iff.1 hx;injection h with h;rw[dropLast_concat]at h;have hf:=qop hg;have hxr:x∈qat qa c.done:=(H.dq.mem_iff).1 (hf.mem_iff.2 (by simp))
     have hp:(x::(c.qb.set k r).flatten).Perm c.qb.flatten:=by
      refine Perm.trans ?_ hf.symm;refine(Perm.cons x (qoo hk r)).trans ?_;rw[append_assoc];exact(perm_middle (a:=x)).symm
     have hok:=qzy H (L:=c.qb.set k r) hxr (by rw[length_set]) hk hp;exact⟨H,k,r,x,rfl,hk,hg,hxr,h.symm,h▸hok⟩
 . cases h
theorem qws{qa:List Node}{c c':qj}{w f:Int}(h:qba qa c w f=some c') :
   qp qa c/\∃(k m:Nat) (r:List Int) (x:Int),w=k/\f=m/\k<c.qb.length/\m<c.qb.length/\k≠m/\c.qb[k]?=some []/\c.qb[m]?=some (x::r)/\x∈qat qa c.done/\c'=qg4 qa {c with qb:=c.qb.set m r} k x/\qp qa c':=by
 unfold qba at h;split at h
 . rename_i hc;simp only[Bool.and_eq_true,Bool.not_eq_true',decide_eq_false_iff_not,decide_eq_true_eq]at hc;obtain⟨⟨⟨⟨hc,hw⟩,hf⟩,hne⟩,he⟩:=hc;obtain⟨h0,h1⟩:=qb1.1 hw;obtain⟨h2,h3⟩:=qb1.1 hf;obtain⟨k,rfl⟩:=Int.eq_ofNat_of_zero_le h0;obtain⟨m,rfl⟩:=Int.eq_ofNat_of_zero_le h2;have hk:k<c.qb.length:=by omega
   have hm:m<c.qb.length:=by omega
   have H:=qbp.1 hc;simp only[Int.toNat_natCast]at h he;have hg:=getD_some hm;have hgk:=getD_some hk;rw[he]at hgk;generalize c.qb.getD m []=d at h hg;split at h
   . cases h
   . rename_i x r;injection h with h;have hfl:=qop hg;have hxr:x∈qat qa c.done:=(H.dq.mem_iff).1 (hfl.mem_iff.2 (by simp))
     have hp:(x::(c.qb.set m r).flatten).Perm c.qb.flatten:=by
      refine Perm.trans ?_ hfl.symm;exact Perm.cons x (qoo hm r)
     have hok:=qzy H (L:=c.qb.set m r) hxr (by rw[length_set]) hk hp;exact⟨H,k,m,r,x,rfl,rfl,hk,hm,by omega,hgk,hg,hxr,h.symm,h▸hok⟩
 . cases h
theorem q5q{qa:List Node}(hv:qaf qa=true){D:List Int}{i:Nat}(hi:i<qa.length)(hD:(i:Int)∉D):∃x,x∈qat qa D:=by
 induction i using Nat.strongRecOn with
 |ind i ih=>
  by_cases h:∀f∈qgn qa i,f∈D
  . exact⟨(i:Int),(qdw hv).2 ⟨i,hi,rfl,hD,h⟩⟩
  . obtain⟨f,hf⟩:=Classical.not_forall.1 h;obtain⟨hf1,hf2⟩:=Classical.not_imp.1 hf;obtain⟨h0,h1,_⟩:=qfk hv hf1;obtain⟨j,rfl⟩:=Int.eq_ofNat_of_zero_le h0;exact ih j (by omega) (by omega) hf2
theorem qtz:∀{l m:List Int},l.Nodup->(∀y∈l,y∈m)->l.length<=m.length:=by
 intro l
 induction l with
 |nil=>intro m _ _;simp
 |cons a l ih=>
  intro m hl hm;obtain⟨h1,h2⟩:=nodup_cons.1 hl;have ha:=hm a (by simp)
  have:=ih (m:=m.erase a) h2 (λy hy=>by
   have hne:y≠a:=λe=>h1 (e▸hy);exact(mem_erase_of_ne hne).2 (hm y (by simp[hy])))
  rw[length_erase_of_mem ha]at this;have hp:0<m.length:=length_pos_of_mem ha;simp only[length_cons];omega
theorem qfz{qa:List Node}{c:qj}(h:qp qa c):c.done.length<=qa.length:=by
 have hn:=qnw h.order
 have hs:∀y∈c.done,y∈(range qa.length).map (λi:Nat=>(i:Int)):=λy hy=>by
  obtain⟨h0,h1,_⟩:=qic h.order hy;obtain⟨j,rfl⟩:=Int.eq_ofNat_of_zero_le h0;exact mem_map.2 ⟨j,mem_range.2 (by omega),rfl⟩
 have:=qtz hn hs;simpa using this
theorem qwt(qa:List Node)(D:List Int):∀k,k<=qa.length->(qc0 qa D k).Pairwise (·<=·):=by
 intro k
 induction k with
 |zero=>intro _;simp[qc0]
 |succ k ih=>
  intro hk;have hx:qa[k]?=some qa[k]:=getElem?_eq_getElem (by omega);rw[qfx D hx];split
  . rw[pairwise_append];refine⟨ih (by omega),by simp,λa ha b hb=>?_⟩;obtain rfl:b=(k:Int):=by simpa using hb
    obtain⟨i,h1,h2,_⟩:=(qnx (by omega)).1 ha;omega
  . exact ih (by omega)
theorem qwu(qa:List Node)(D:List Int):(qat qa D).Pairwise (·<=·):=by
 unfold qat;split
 . exact qwt qa D _ (Nat.le_refl _)
 . exact Pairwise.nil
theorem qxk{qa:List Node}{D F:List Int}:ql F=qat qa D↔F.Perm (qat qa D):=by
 constructor
 . intro h;rw[<-h];exact(qie F).symm
 . intro h;exact(q50 h.symm (qwu qa D)).symm
theorem qht(qa:List Node)(D:List Int):(qat qa D).length<=qa.length:=by
 unfold qat;split
 . exact qnu qa D _
 . simp
def qfl(qa:List Node)(cs:List Int)(x:Int):Bool:=(range qa.length).all λi=>decide (0<=cs.getD i 0)&&decide (cs.getD i 0<=((qcp qa i).length:Int)) && !(has qa i x&&decide (cs.getD i 0=0))
def qco(qa:List Node)(cs:List Int)(x:Int):Option (List Int×List Int):=
 if qaf qa&&(decide (0<=x)&&decide (x<qa.length))&&decide (cs.length=qa.length)&&qfl qa cs x then some (qb2 qa cs x,qb4 qa cs x)else none
theorem qoq{qa:List Node}(hv:qaf qa=true){D:List Int}{x:Int}(h0:0<=x)(h1:x<qa.length)(hx:x∉D):qco qa (lefts qa D) x=some (lefts qa (D++[x]),qb4 qa (lefts qa D) x):=by
 unfold qco;rw[if_pos,qma hv hx h0];simp only[Bool.and_eq_true,decide_eq_true_eq];refine⟨⟨⟨hv,h0,h1⟩,qgo qa D⟩,?_⟩;unfold qfl;rw[List.all_eq_true];intro i hi;have hi:=mem_range.1 hi;have e:(lefts qa D).getD i 0=(left qa D i:Int):=by rw[getD_eq_getElem?_getD,qon D hi];rfl
 have h2:=q7y qa D i;have h3:=qt6 hv hx h0 i;rw[e];simp only[Bool.and_eq_true,decide_eq_true_eq,Bool.not_eq_true',Bool.and_eq_false_iff,decide_eq_false_iff_not];refine⟨⟨by omega,by omega⟩,?_⟩;by_cases hh:has qa i x=true
 . rw[if_pos hh]at h3;exact .inr (by omega)
 . exact .inl (by simpa using hh)
theorem qp.done{qa:List Node}{c:qj}(h:qp qa c){x:Int}(hx:x∈qat qa c.done):qco qa c.counts x=some (qb2 qa c.counts x,qb4 qa c.counts x):=by
 obtain⟨m,hm,rfl,hxD,hxf⟩:=(qdw h.pv).1 hx;rw[h.counts,qoq h.pv (Int.natCast_nonneg m) (by omega) hxD,qma h.pv hxD (Int.natCast_nonneg m)]
def qf0(qa:List Node)(c:qj):Int:=if qa3 qa c then (qa.length:Int)-c.done.length else -1
theorem q2m{qa:List Node}{c:qj}(h:qp qa c){k:Nat}(hk:k<c.qb.length):qcg qa c (k:Int)=-1/\(∀i,i<c.qb.length->c.qb.getD i []=[]) ∨
   ∃f:Nat,qcg qa c (k:Int)=f/\f<c.qb.length/\c.qb.getD f []≠[]/\(f≠k->c.qb.getD k []=[]):=by
 have hn:0<c.qb.length:=by omega
 unfold qcg;rw[qbp.2 h,qb1.2 ⟨Int.natCast_nonneg k,by omega⟩];simp only[Bool.and_self,if_true,Int.toNat_natCast];generalize hl:(range c.qb.length).map (λs=>(k+s)%c.qb.length)=l
 have hmem:∀i,i∈l->i<c.qb.length:=by
  intro i hi;rw[<-hl]at hi;obtain⟨s,_,rfl⟩:=mem_map.1 hi;exact Nat.mod_lt _ hn
 have hall:∀i,i<c.qb.length->i∈l:=by
  intro i hi;rw[<-hl];refine mem_map.2 ⟨(i+(c.qb.length-k))%c.qb.length,mem_range.2 (Nat.mod_lt _ hn),?_⟩;rw[Nat.add_mod,Nat.mod_mod,<-Nat.add_mod];have:k+(i+(c.qb.length-k))=i+c.qb.length:=by omega
  rw[this,Nat.add_mod_right,Nat.mod_eq_of_lt hi]
 have qeA:∃t,l=k::t:=by
  obtain⟨m,hm⟩:∃m,c.qb.length=m+1:=⟨c.qb.length-1,by omega⟩;rw[<-hl,hm,range_succ_eq_map];exact⟨_,by simp only[map_cons,Nat.add_zero];rw[Nat.mod_eq_of_lt (by omega)]⟩
 cases hf:l.find? (λi=>!decide (c.qb.getD i []=[]))with
 |none=>
  refine .inl ⟨rfl,λi hi=>?_⟩;have:=find?_eq_none.1 hf i (hall i hi);simpa using this
 |some f=>
  refine .inr ⟨f,rfl,hmem f (mem_of_find?_eq_some hf),?_,λhne=>?_⟩
  . have:=find?_some hf;simpa using this
  . obtain⟨t,rfl⟩:=qeA;by_cases he:c.qb.getD k []=[]
    . exact he
    . rw[find?_cons_of_pos (by simpa using he)]at hf;injection hf with hf;exact absurd hf.symm hne
theorem q70{qa:List Node}{c:qj}(_h:qp qa c)(hl:c.done.length<qa.length):∃i:Nat,i<qa.length/\(i:Int)∉c.done:=by
 by_cases hc:∃i:Nat,i<qa.length/\(i:Int)∉c.done
 . exact hc
 . exfalso
   have hs:∀y∈(range qa.length).map (λi:Nat=>(i:Int)),y∈c.done:=λy hy=>by
    obtain⟨i,hi,rfl⟩:=mem_map.1 hy;by_cases hd:(i:Int)∈c.done
    . exact hd
    . exact absurd ⟨i,mem_range.1 hi,hd⟩ hc
   have hn:((range qa.length).map (λi:Nat=>(i:Int))).Nodup:=Pairwise.map _ (λa b hab e=>hab (by omega)) (nodup_range (n:=qa.length));have:=qtz hn hs;simp at this;omega
theorem qor{qa:List Node}{c:qj}(h:qp qa c)(hl:c.done.length<qa.length){k:Nat}(hk:k<c.qb.length):∃c',qa0 qa c (k:Int)=some c':=by
 obtain⟨i,hi,hd⟩:=q70 h hl;obtain⟨x,hx⟩:=q5q h.pv hi hd;have hxf:x∈c.qb.flatten:=h.dq.mem_iff.2 hx;obtain⟨d,hd1,hd2⟩:=mem_flatten.1 hxf;obtain⟨j,hj,rfl⟩:=mem_iff_getElem.1 hd1
 have hjd:c.qb.getD j []≠[]:=by
  rw[getD_eq_getElem?_getD,getElem?_eq_getElem hj];intro e;simp only[Option.getD_some]at e;rw[e]at hd2;cases hd2
 have hv:=qbp.2 h;unfold qa0;rcases q2m h hk with ⟨_,h2⟩|⟨f,h1,h2,h3,h4⟩
 . exact absurd (h2 j hj) hjd
 . rw[h1,if_neg (by omega)];by_cases hfk:f=k
   . subst hfk;rw[if_pos rfl];unfold qc5;rw[hv,qb1.2 ⟨Int.natCast_nonneg f,by omega⟩];simp only[Bool.and_self,if_true,Int.toNat_natCast];cases hg:(c.qb.getD f []).getLast? with
     |none=>exact absurd (getLast?_eq_none_iff.1 hg) h3
     |some y=>exact⟨_,rfl⟩
   . rw[if_neg (by omega)];unfold qba;rw[hv,qb1.2 ⟨Int.natCast_nonneg k,by omega⟩,qb1.2 ⟨Int.natCast_nonneg f,by omega⟩];have hne:¬(k:Int)=(f:Int):=by omega
     simp only[Int.toNat_natCast,Bool.and_self,h4 hfk,decide_true,hne,decide_false,Bool.not_false,if_true];cases hg:c.qb.getD f []with
     |nil=>exact absurd hg h3
     |cons y r=>exact⟨_,rfl⟩
theorem qej{qa:List Node}{c c':qj}{w:Int}(h:qa0 qa c w=some c'):qp qa c/\qp qa c'/\c'.qb.length=c.qb.length/\∃x,x∈qat qa c.done/\c'.done=c.done++[x]/\c'.rows=c.rows.set x.toNat (qdi qa x.toNat):=by
 unfold qa0 at h;split at h
 . cases h
 split at h
 . obtain⟨h1,k,r,x,rfl,hk,hd,hx,rfl,h2⟩:=qzz h;exact⟨h1,h2,by show (set _ _ _).length=_;rw[length_set];show (set _ _ _).length=_;rw[length_set],x,hx,rfl,rfl⟩
 . obtain⟨h1,k,m,r,x,rfl,-,hk,hm,hkm,hd,hd2,hx,rfl,h2⟩:=qws h;exact⟨h1,h2,by show (set _ _ _).length=_;rw[length_set];show (set _ _ _).length=_;rw[length_set],x,hx,rfl,rfl⟩
theorem qhu{qa:List Node}{c:qj}(h:qp qa c):0<=qf0 qa c/\qf0 qa c=(qa.length:Int)-c.done.length:=by
 have:=qfz h;unfold qf0;rw[qbp.2 h,if_pos rfl];omega
theorem qjR{qa:List Node}{c:qj}(h:qp qa c)(hl:qf0 qa c=0):c.rows=values qa:=by
 have hn:=(qhu h).2;have hlen:c.done.length=qa.length:=by omega
 apply ext_getElem?;intro i;by_cases hi:i<qa.length
 . have hd:(i:Int)∈c.done:=by
    by_cases hd:(i:Int)∈c.done
    . exact hd
    . exfalso
      have hs:∀y∈c.done,y∈((range qa.length).map (λi:Nat=>(i:Int))).erase (i:Int):=λy hy=>by
       obtain⟨h0,h1,_⟩:=qic h.order hy;obtain⟨j,rfl⟩:=Int.eq_ofNat_of_zero_le h0;have hne:(j:Int)≠(i:Int):=λe=>hd (by rw[<-e];exact hy);exact(mem_erase_of_ne hne).2 (mem_map.2 ⟨j,mem_range.2 (by omega),rfl⟩)
      have:=qtz (qnw h.order) hs;rw[length_erase_of_mem (mem_map.2 ⟨i,mem_range.2 hi,rfl⟩)]at this;simp at this;omega
   rw[h.rows i hi,qk4 hi];unfold qfi;rw[if_pos hd]
 . rw[getElem?_eq_none (by rw[h.rl];omega),getElem?_eq_none (by rw[qhj];omega)]
def dealt(qa:List Node)(n k:Nat):List (List Int):=((qat qa []).take k).zipIdx.foldl (λL x=>L.set (x.2%n) (L.getD (x.2%n) []++[x.1])) (replicate n [])
def qbv(qa:List Node)(workers:Int):Option qj:=
 if qaf qa&&(decide (1<=workers)&&decide (workers<=4))then
  some {qb:=dealt qa workers.toNat (qat qa []).length,counts:=qbm qa,done:=[],rows:=replicate qa.length []}
 else none
theorem qt8(n:Nat)(hn:0<n)(R:List Int):∀k,k<=R.length->((R.take k).zipIdx.foldl (λL x=>L.set (x.2%n) (L.getD (x.2%n) []++[x.1])) (replicate n [])).length=n /\
   ((R.take k).zipIdx.foldl (λL x=>L.set (x.2%n) (L.getD (x.2%n) []++[x.1])) (replicate n [])).flatten.Perm (R.take k):=by
 intro k
 induction k with
 |zero=>
  intro _;refine⟨by simp,?_⟩;have:(replicate n ([]:List Int)).flatten=[]:=by simp
  simp[this]
 |succ k ih=>
  intro hk;obtain⟨h1,h2⟩:=ih (by omega);rw[take_succ_eq_append_getElem (by omega),zipIdx_append,foldl_append];have hl:(R.take k).length=k:=by rw[length_take];omega
  generalize (R.take k).zipIdx.foldl (λL x=>L.set (x.2%n) (L.getD (x.2%n) []++[x.1])) (replicate n [])=L at h1 h2 |-;rw[hl];simp only[zipIdx_cons,zipIdx_nil,foldl_cons,foldl_nil,Nat.zero_add];refine⟨by rw[length_set];exact h1,?_⟩;have hm:k%n<L.length:=by rw[h1];exact Nat.mod_lt _ hn
  have p1:=qoo hm (L.getD (k%n) []++[R[k]]);have p2:=qop (getD_some hm);refine p1.trans ?_;rw[append_assoc];refine(Perm.append_left _ perm_append_comm).trans ?_;rw[<-append_assoc];exact Perm.append_right _ (p2.symm.trans h2)
theorem qid{qa:List Node}{n:Int}{c:qj}(h:qbv qa n=some c):qp qa c/\(c.qb.length:Int)=n:=by
 unfold qbv at h;split at h
 . rename_i hc;simp only[Bool.and_eq_true,decide_eq_true_eq]at hc;obtain⟨hv,h1,h4⟩:=hc;injection h with h;obtain⟨m,rfl⟩:=Int.eq_ofNat_of_zero_le (show 0<=n by omega);obtain⟨g1,g2⟩:=qt8 m (by omega) (qat qa []) _ (Nat.le_refl _);rw[take_length]at g2;have e:dealt qa m (qat qa []).length=((qat qa []).take (qat qa []).length).zipIdx.foldl (λL x=>L.set (x.2%m) (L.getD (x.2%m) []++[x.1])) (replicate m []):=rfl;rw[<-take_length (l:=qat qa [])]at g2;rw[take_length]at g2;subst h;refine⟨⟨hv,?_,?_,rfl,(qt7 qa).symm,by simp,?_,λi hi=>?_⟩,?_⟩
   . show 1<=(dealt qa _ _).length;rw[Int.toNat_natCast,e,g1];omega
   . show (dealt qa _ _).length<=4;rw[Int.toNat_natCast,e,g1];omega
   . show (dealt qa _ _).flatten.Perm _;rw[Int.toNat_natCast,e,take_length];exact g2
   . show (replicate qa.length [])[i]?=_;rw[getElem?_replicate,if_pos hi];rfl
   . show ((dealt qa _ _).length:Int)=_;rw[Int.toNat_natCast,e,g1]
 . cases h
end
end Go.Proofs.YtacemdoejblgaaaGreatDoor

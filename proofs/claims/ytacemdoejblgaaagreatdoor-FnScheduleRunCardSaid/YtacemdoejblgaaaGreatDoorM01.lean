/- Part 1. Conditions: each statement's. -/
namespace Go.Proofs.YtacemdoejblgaaaGreatDoor
set_option maxHeartbeats 6400000
set_option maxRecDepth 100000
section
structure Node where
 kind:Int
 frm:List Int
 row:List Int
def jZ(x:Int):Bool:=decide (0<=x) && decide (x<=1008)
def qaj(l:List Int):Bool:=l.all jZ && decide (l.length<=6)
def qds(k:Int):Bool:=decide (0<=k) && decide (k<=5)
def qaq(k:Int):Int:=if k < 0∨5 < k then -1 else if k=0 then 0 else if k=1∨k=2 then 2 else 1
theorem qn7{k:Int}(h0:0<=k)(h5:k<=5):0<=qaq k:=by
 unfold qaq
 repeat' split
 all_goals omega
theorem qm9(k:Int):-1<=qaq k/\qaq k<=2:=by
 unfold qaq
 repeat' split
 all_goals omega
def wide(qa:List Node):Nat:=match qa.find? (fun x=>x.kind == 0) with
 | some x=>x.row.length
 | none=>0
def qcx(x:Node)(at_:Int)(wd:Nat):Bool:=
 decide (qaq x.kind=x.frm.length) && qaj x.row && x.frm.all (fun y=>decide (0<=y) && decide (y<=at_ - 1)) && (if x.kind=0 then decide (x.row.length=wd) else decide (x.row.length=0))
def qae(qa:List Node):Bool:=qa.zipIdx.all (fun x=>qcx x.1 x.2 (wide qa)) && decide (qa.length<=10)
def qbf(x:Node)(at_:Int):Bool:=
 qds x.kind && decide ((x.frm.length:Int)=qaq x.kind) && x.frm.all (fun y=>decide (0<=y) && decide (y < at_)) && (if x.kind=0 then qaj x.row else decide (x.row.length=0))
def upd{α:Type}(f:Nat->α)(a:Nat)(x:α):Nat->α:=fun b=>if b=a then x else f b
theorem upd_same{α:Type}(f:Nat->α)(a:Nat)(x:α):upd f a x a=x:=by simp [upd]
theorem qar{α:Type}(f:Nat->α){a b:Nat}(x:α)(h:b≠a):upd f a x b=f b:=by simp [upd,h]
def qex(n f:Nat)(L:Nat->List Nat):Nat->List Nat:=
 if f∈L (2 * n+1) then L else upd (upd L (2 * n+1) (L (2 * n+1)++[f])) (2 * f+2) (L (2 * f+2)++[n])
def qcv(n:Nat)(frm:List Int)(L:Nat->List Nat):Nat->List Nat:=frm.foldl (fun L f=>qex n f.toNat L) L
def qfg(L:Nat->List Nat)(x:Node × Nat):Nat->List Nat:=upd (qcv x.2 x.1.frm L) 0 (qcv x.2 x.1.frm L 0++[x.2])
def qcz(qa:List Node)(k:Nat):Nat->List Nat:=(qa.zipIdx.take k).foldl qfg (fun _=>[])
def qsm(qa:List Node):Nat->List Nat:=qcz qa qa.length
theorem q0y(n f:Nat)(L:Nat->List Nat):qex n f L 0=L 0:=by
 unfold qex;split
 . rfl
 . rw [qar _ _ (by omega),qar _ _ (by omega)]
theorem qu5(n:Nat)(frm:List Int)(L:Nat->List Nat):qcv n frm L 0=L 0:=by
 unfold qcv
 induction frm generalizing L with
 | nil=>rfl
 | cons x xs ih=>rw [List.foldl_cons,ih,q0y]
theorem qu6{n m:Nat}{frm:List Int}{x:Int}(L:Nat->List Nat)(h:frm[m]?=some x):qcv n (frm.take (m+1)) L=qex n x.toNat (qcv n (frm.take m) L):=by
 obtain⟨hm,rfl⟩:=List.getElem?_eq_some_iff.1 h;unfold qcv;rw [List.take_succ_eq_append_getElem hm,List.foldl_append];rfl
theorem qeu{qa:List Node}{k:Nat}{nd:Node}(h:qa[k]?=some nd):qcz qa (k+1)=qfg (qcz qa k) (nd,k):=by
 have hz:qa.zipIdx[k]?=some (nd,k):=by simp [h]
 obtain⟨hk,hx⟩:=List.getElem?_eq_some_iff.1 hz;unfold qcz;rw [List.take_succ_eq_append_getElem hk,List.foldl_append,hx];rfl
theorem q26(n f:Nat)(L:Nat->List Nat)(a:Nat):(qex n f L a).length<=(L a).length+1:=by
 unfold qex upd;split
 . omega
 . dsimp only;split
   . subst_vars;simp
   . split
     . subst_vars;simp
     . omega
theorem qku(x:Node)(at_:Int)(wd:Nat):qcx x at_ wd=(qbf x at_ && (if x.kind=0 then decide (x.row.length=wd) else true)):=by
 rw [Bool.eq_iff_iff];unfold qcx qbf;simp only [Bool.and_eq_true,decide_eq_true_eq,List.all_eq_true];constructor
 . rintro⟨⟨⟨h1,h2⟩,h3⟩,h4⟩;refine⟨⟨⟨⟨?_,h1.symm⟩,fun y hy=>⟨(h3 y hy).1,by have:=(h3 y hy).2;omega⟩⟩,?_⟩,?_⟩
   . have:0<=qaq x.kind:=by omega
     unfold qaq at this;unfold qds;split at this
     . omega
     . simp;omega
   . split
     . exact h2
     . rename_i hk;rw [if_neg hk] at h4;exact h4
   . split
     . rename_i hk;rw [if_pos hk] at h4;exact h4
     . rfl
 . rintro⟨⟨⟨⟨h0,h1⟩,h3⟩,h4⟩,h5⟩;refine⟨⟨⟨h1.symm,?_⟩,fun y hy=>⟨(h3 y hy).1,by have:=(h3 y hy).2;omega⟩⟩,?_⟩
   . split at h4
     . exact h4
     . have e:x.row=[]:=List.eq_nil_of_length_eq_zero (by simpa using h4);rw [e];rfl
   . split
     . rename_i hk;rw [if_pos hk] at h5;exact h5
     . rename_i hk;rw [if_neg hk] at h4;exact h4
theorem qna{x:Node}{at_:Int}(h:qbf x at_=true):x.frm.length<=2:=by
 unfold qbf at h;simp only [Bool.and_eq_true,decide_eq_true_eq] at h;have:=(qm9 x.kind).2;omega
theorem qcj{x:Node}{at_ y:Int}(h:qbf x at_=true)(hy:y∈x.frm):0<=y/\y < at_:=by
 unfold qbf at h;simp only [Bool.and_eq_true,decide_eq_true_eq,List.all_eq_true] at h;exact h.1.2 y hy
theorem q0z{qa:List Node}{k:Nat}{nd:Node}(h:qa[k]?=some nd)(hk:nd.kind=0)(ha:(qa.take k).any (fun x=>x.kind == 0)=false):wide qa=nd.row.length:=by
 have:qa.find? (fun x=>x.kind == 0)=some nd:=by
   rw [List.find?_eq_some_iff_getElem];obtain⟨hk',hx'⟩:=List.getElem?_eq_some_iff.1 h;refine⟨by simp [hk],k,hk',hx',fun j hj=>?_⟩;have:=List.any_eq_false.1 ha qa[j] (List.mem_take_iff_getElem.2 ⟨j,by omega,rfl⟩);simpa using this
 unfold wide;rw [this]
def qfo(qa:List Node)(k:Nat):Int:=if (qa.take k).any (fun x=>x.kind == 0) then (wide qa:Int) else -1
theorem qtl{qa:List Node}{k:Nat}{nd:Node}(h:qa[k]?=some nd)(hk:nd.kind=0):qfo qa (k+1)=wide qa:=by
 obtain⟨hl,rfl⟩:=List.getElem?_eq_some_iff.1 h;unfold qfo;rw [List.take_succ_eq_append_getElem hl,List.any_append,if_pos (by simp [hk])]
theorem qtm{qa:List Node}{k:Nat}{nd:Node}(h:qa[k]?=some nd)(hk:nd.kind≠0):qfo qa (k+1)=qfo qa k:=by
 obtain⟨hl,rfl⟩:=List.getElem?_eq_some_iff.1 h;unfold qfo;rw [List.take_succ_eq_append_getElem hl,List.any_append];have:([qa[k]].any fun x=>x.kind == 0)=false:=by simp [hk]
 rw [this,Bool.or_false]
theorem qkv{qa:List Node}{k:Nat}{nd:Node}(h:qa[k]?=some nd)(hb:qcx nd k (wide qa)=false):qae qa=false:=by
 have:qa.zipIdx.all (fun x=>qcx x.1 x.2 (wide qa))=false:=by
   rw [List.all_eq_false];exact⟨(nd,k),List.mem_of_getElem? (show qa.zipIdx[k]?=some (nd,k) by simp [h]),by simp [hb]⟩
 unfold qae;rw [this];rfl
def fl(qa:List Node)(i:Nat):Int:=match qa[i]? with
 | some nd=>nd.frm.length
 | none=>0
theorem qa4{qa:List Node}{i:Nat}{nd:Node}(hv:qae qa=true)(h:qa[i]?=some nd):qbf nd i=true/\nd.frm.length<=2/\i < 10/\(nd.kind=0->nd.row.length=wide qa):=by
 unfold qae at hv;simp only [Bool.and_eq_true,decide_eq_true_eq] at hv;have h1:=List.all_eq_true.1 hv.1 (nd,i) (List.mem_of_getElem? (show qa.zipIdx[i]?=some (nd,i) by simp [h]));rw [qku] at h1;simp only [Bool.and_eq_true] at h1;refine⟨h1.1,qna h1.1,?_,fun hk=>?_⟩
 . have:=(List.getElem?_eq_some_iff.1 h).1;omega
 . have:=h1.2;rw [if_pos hk] at this;simpa using this
theorem qal{qa:List Node}(hv:qae qa=true):qa.length<=10:=by
 unfold qae at hv;simp only [Bool.and_eq_true,decide_eq_true_eq] at hv;exact hv.2
def q28(out:List Int)(frm:List Int):Int:=frm.foldl (fun n f=>max n (out.getD f.toNat 0+1)) 0
def q5o(qa:List Node)(k:Nat):List Int:=(qa.take k).foldl (fun out x=>out++[q28 out x.frm]) []
def levels(qa:List Node):List Int:=q5o qa qa.length
def lv(qa:List Node)(i:Nat):Int:=(levels qa).getD i 0
def dedup(frm:List Int):List Nat:=frm.foldl (fun l f=>if f.toNat∈l then l else l++[f.toNat]) []
def qb2(qa:List Node)(i:Nat):List Nat:=match qa[i]? with
 | some nd=>dedup nd.frm
 | none=>[]
def qb3(qa:List Node)(i:Nat):List Nat:=(List.range qa.length).filter (fun j=>decide (i∈qb2 qa j))
theorem qpi(frm:List Int)(l:List Nat):(∀ i,i∈frm.foldl (fun l f=>if f.toNat∈l then l else l++[f.toNat]) l↔i∈l∨∃ f∈frm,f.toNat=i) /\
   (l.Nodup->(frm.foldl (fun l f=>if f.toNat∈l then l else l++[f.toNat]) l).Nodup)/\(frm.foldl (fun l f=>if f.toNat∈l then l else l++[f.toNat]) l).length<=l.length+frm.length:=by
 induction frm generalizing l with
 | nil=>simp
 | cons x xs ih=>
   rw [List.foldl_cons];by_cases h:x.toNat∈l
   . rw [if_pos h];obtain⟨h1,h2,h3⟩:=ih l;refine⟨fun i=>?_,h2,by rw [List.length_cons];omega⟩;rw [h1 i];constructor
     . rintro(hi | ⟨f,hf,e⟩)
       . exact .inl hi
       . exact .inr ⟨f,by simp [hf],e⟩
     . rintro(hi | ⟨f,hf,e⟩)
       . exact .inl hi
       . rcases List.mem_cons.1 hf with rfl | hf
         . exact .inl (e ▸ h)
         . exact .inr ⟨f,hf,e⟩
   . rw [if_neg h];obtain⟨h1,h2,h3⟩:=ih (l++[x.toNat]);refine⟨fun i=>?_,fun hn=>h2 ?_,by rw [List.length_append] at h3;simp at h3 |-;omega⟩
     . rw [h1 i];constructor
       . rintro(hi | ⟨f,hf,e⟩)
         . rcases List.mem_append.1 hi with hi | hi
           . exact .inl hi
           . exact .inr ⟨x,by simp,by simp at hi;exact hi.symm⟩
         . exact .inr ⟨f,by simp [hf],e⟩
       . rintro(hi | ⟨f,hf,e⟩)
         . exact .inl (by simp [hi])
         . rcases List.mem_cons.1 hf with rfl | hf
           . exact .inl (by simp [e])
           . exact .inr ⟨f,hf,e⟩
     . rw [List.nodup_append];refine⟨hn,by simp,?_⟩;intro a ha b hb e;simp at hb;subst hb e;exact h ha
theorem qkz{frm:List Int}{i:Nat}:i∈dedup frm↔∃ f∈frm,f.toNat=i:=by
 have:=(qpi frm []).1 i;unfold dedup;rw [this];simp
theorem qxw(frm:List Int):(dedup frm).Nodup:=(qpi frm []).2.1 List.nodup_nil
theorem qpj(frm:List Int):(dedup frm).length<=frm.length:=by
 have:=(qpi frm []).2.2;unfold dedup;simpa using this
theorem qpk(n f:Nat)(L:Nat->List Nat):qex n f L (2 * n+1)=if f∈L (2 * n+1) then L (2 * n+1) else L (2 * n+1)++[f]:=by
 unfold qex;split
 . rfl
 . rw [qar _ _ (by omega),upd_same]
theorem qxx(n f i:Nat)(L:Nat->List Nat):qex n f L (2 * i+2)=if f∉L (2 * n+1)/\i=f then L (2 * i+2)++[n] else L (2 * i+2):=by
 unfold qex;by_cases h:f∈L (2 * n+1)
 . rw [if_pos h,if_neg (fun h2=>h2.1 h)]
 . rw [if_neg h];by_cases hi:i=f
   . subst hi;rw [upd_same,if_pos ⟨h,rfl⟩]
   . rw [qar _ _ (by omega),qar _ _ (by omega),if_neg (fun h2=>hi h2.2)]
theorem q29(n f a:Nat)(L:Nat->List Nat)(h1:a≠2 * n+1)(h2:a≠2 * f+2):qex n f L a=L a:=by
 unfold qex;split
 . rfl
 . rw [qar _ _ h2,qar _ _ h1]
theorem qtq(n:Nat)(frm:List Int)(L:Nat->List Nat)(hf:∀ y∈frm,0<=y/\y < (n:Int)) :
   qcv n frm L (2 * n+1)=frm.foldl (fun l f=>if f.toNat∈l then l else l++[f.toNat]) (L (2 * n+1)):=by
 unfold qcv
 induction frm generalizing L with
 | nil=>rfl
 | cons x xs ih=>
   have hx:=hf x (by simp);rw [List.foldl_cons,List.foldl_cons,ih _ (fun y hy=>hf y (by simp [hy])),qpk]
theorem qtr(n i:Nat)(frm:List Int)(L:Nat->List Nat)(hf:∀ y∈frm,0<=y/\y < (n:Int)) :
   qcv n frm L (2 * i+2)=if i∉L (2 * n+1)/\(∃ f∈frm,f.toNat=i) then L (2 * i+2)++[n] else L (2 * i+2):=by
 unfold qcv
 induction frm generalizing L with
 | nil=>simp
 | cons x xs ih=>
   have hx:=hf x (by simp);rw [List.foldl_cons,ih _ (fun y hy=>hf y (by simp [hy])),qpk,qxx];by_cases hix:i=x.toNat
   . subst hix;by_cases hm:x.toNat∈L (2 * n+1)
     . simp [hm]
     . rw [if_neg hm,if_neg (by simp),if_pos ⟨hm,rfl⟩,if_pos ⟨hm,x,by simp,rfl⟩]
   . have hne:¬ (x.toNat∉L (2 * n+1)/\i=x.toNat):=fun h=>hix h.2;rw [if_neg hne]
     have e2:(i∉(if x.toNat∈L (2 * n+1) then L (2 * n+1) else L (2 * n+1)++[x.toNat]))↔i∉L (2 * n+1):=by
       split
       . exact Iff.rfl
       . simp [hix]
     have e3:(∃ f∈x::xs,f.toNat=i)↔∃ f∈xs,f.toNat=i:=by
       constructor
       . rintro⟨f,hf,he⟩;rcases List.mem_cons.1 hf with hfx | hf
         . rw [hfx] at he;exact absurd he.symm hix
         . exact⟨f,hf,he⟩
       . rintro⟨f,hf,e⟩;exact⟨f,by simp [hf],e⟩
     simp only [e2,e3]
theorem qxy(n a:Nat)(frm:List Int)(L:Nat->List Nat)(h1:a≠2 * n+1)(h2:∀ f∈frm,a≠2 * f.toNat+2):qcv n frm L a=L a:=by
 unfold qcv
 induction frm generalizing L with
 | nil=>rfl
 | cons x xs ih=>rw [List.foldl_cons,ih _ (fun f hf=>h2 f (by simp [hf])),q29 _ _ _ _ h1 (h2 x (by simp))]
theorem qne{qa:List Node}{i:Nat}{nd:Node}(h:qa[i]?=some nd):qb2 qa i=dedup nd.frm:=by
 unfold qb2;rw [h]
theorem qk0(qa:List Node)(j:Nat):(qb2 qa j).Nodup:=by
 unfold qb2;split
 . exact qxw _
 . exact List.nodup_nil
theorem qvc{qa:List Node}(hv:qae qa=true){k:Nat}(hk:k<=qa.length) :
   (∀ i,qcz qa k (2 * i+1)=if i < k then qb2 qa i else [])/\(∀ i,qcz qa k (2 * i+2)=(List.range k).filter (fun j=>decide (i∈qb2 qa j))):=by
 induction k with
 | zero=>exact⟨fun i=>rfl,fun i=>rfl⟩
 | succ k ih=>
   obtain⟨ih1,ih2⟩:=ih (by omega);obtain⟨nd,hx⟩:∃ nd,qa[k]?=some nd:=⟨_,List.getElem?_eq_getElem (by omega)⟩;have hf:∀ y∈nd.frm,0<=y/\y < (k:Int):=fun y hy=>qcj (qa4 hv hx).1 hy;have h0:qcz qa k (2 * k+1)=[]:=by rw [ih1 k,if_neg (by omega)]
   constructor
   . intro i;rw [qeu hx];unfold qfg;rw [qar _ _ (by omega)];by_cases hik:i=k
     . subst hik;rw [if_pos (by omega),qtq _ _ _ hf,h0,qne hx];rfl
     . rw [qxy _ _ _ _ (by simp;omega) (fun f _=>by omega),ih1 i];by_cases h:i < k
       . rw [if_pos h,if_pos (by omega)]
       . rw [if_neg h,if_neg (by omega)]
   . intro i;rw [qeu hx];unfold qfg;rw [qar _ _ (by omega),qtr _ _ _ _ hf,h0,ih2 i,List.range_succ,List.filter_append];have e:(∃ f∈nd.frm,f.toNat=i)↔i∈qb2 qa k:=by rw [qne hx,qkz]
     by_cases h:i∈qb2 qa k
     . rw [if_pos ⟨by simp,e.2 h⟩];simp [h]
     . rw [if_neg (fun h2=>h (e.1 h2.2))];simp [h]
theorem qnf{qa:List Node}(hv:qae qa=true)(i:Nat):qsm qa (2 * i+2)=qb3 qa i:=by
 unfold qsm;exact(qvc hv (Nat.le_refl _)).2 i
theorem qgi{qa:List Node}{i j:Nat}:j∈qb3 qa i↔j < qa.length/\i∈qb2 qa j:=by
 unfold qb3;simp
theorem qk1(qa:List Node)(i:Nat):(qb3 qa i).Nodup:=List.Pairwise.filter _ List.nodup_range
theorem qxz(qa:List Node)(i:Nat):(qb3 qa i).length<=qa.length:=by
 have:=List.length_filter_le (fun j=>decide (i∈qb2 qa j)) (List.range qa.length);unfold qb3;simpa using this
theorem qvd{l:List Nat}{n:Nat}(h:l.Nodup)(hl:∀ x∈l,x < n):l.length<=n:=by
 induction n generalizing l with
 | zero=>
   cases l with
   | nil=>simp
   | cons x xs=>exact absurd (hl x (by simp)) (by omega)
 | succ n ih=>
   by_cases hn:n∈l
   . have h1:=ih (h.erase n) (fun x hx=>by
       have h2:=(h.mem_erase_iff).1 hx;have:=hl x h2.2;omega)
     rw [List.length_erase_of_mem hn] at h1;omega
   . have:=ih h (fun x hx=>by
       have:=hl x hx;have:x≠n:=fun e=>hn (e ▸ hx);omega)
     omega
def qdj(done:List Int)(x:Node × Nat):Bool:=!decide ((x.2:Int)∈done) && x.1.frm.all (fun f=>decide (f∈done))
def qce(qa:List Node)(done:List Int)(k:Nat):List Int:=((qa.zipIdx.take k).filter (qdj done)).map (fun x:Node × Nat=>(x.2:Int))
def qao(qa:List Node)(done:List Int):List Int:=if qae qa then qce qa done qa.length else []
theorem qet{qa:List Node}{k:Nat}{nd:Node}(done:List Int)(h:qa[k]?=some nd):qce qa done (k+1)=if qdj done (nd,k) then qce qa done k++[(k:Int)] else qce qa done k:=by
 have hz:qa.zipIdx[k]?=some (nd,k):=by simp [h]
 obtain⟨hk,hx⟩:=List.getElem?_eq_some_iff.1 hz;unfold qce;rw [List.take_succ_eq_append_getElem hk,List.filter_append,List.map_append,hx];by_cases hr:qdj done (nd,k)=true
 . rw [if_pos hr,List.filter_cons_of_pos hr];rfl
 . rw [if_neg hr,List.filter_cons_of_neg hr,List.filter_nil,List.map_nil,List.append_nil]
theorem qj3(qa:List Node)(done:List Int)(k:Nat):(qce qa done k).length<=k:=by
 unfold qce;rw [List.length_map];have:=List.length_filter_le (qdj done) (qa.zipIdx.take k);rw [List.length_take] at this;omega
structure qj where
 qb:List (List Int)
 counts:List Int
 done:List Int
 rows:List (List Int)
def qfd(qa:List Node)(i:Nat):List Int:=match qa[i]? with
 | some nd=>nd.frm
 | none=>[]
def has(qa:List Node)(i:Nat)(x:Int):Bool:=decide (x∈qfd qa i)
theorem qdk{qa:List Node}{i:Nat}{nd:Node}(h:qa[i]?=some nd):qfd qa i=nd.frm:=by unfold qfd;rw [h]
theorem qu1{qa:List Node}{i:Nat}(h:qa.length<=i):qfd qa i=[]:=by unfold qfd;rw [List.getElem?_eq_none h]
theorem qeh{qa:List Node}(hv:qae qa=true){i:Nat}{x:Int}(h:x∈qfd qa i):0<=x/\x < i/\i < qa.length:=by
 by_cases hi:i < qa.length
 . have hx:qa[i]?=some qa[i]:=List.getElem?_eq_getElem hi;rw [qdk hx] at h;have:=qcj (qa4 hv hx).1 h;exact⟨this.1,this.2,hi⟩
 . rw [qu1 (by omega)] at h;cases h
theorem qgd(qa:List Node)(i:Nat):qb2 qa i=dedup (qfd qa i):=by
 unfold qb2 qfd;cases qa[i]? with
 | some nd=>rfl
 | none=>rfl
theorem qge{qa:List Node}(hv:qae qa=true){i f:Nat}:f∈qb2 qa i↔(f:Int)∈qfd qa i:=by
 rw [qgd,qkz];constructor
 . rintro⟨y,hy,e⟩;have:=qeh hv hy;have e2:y=(f:Int):=by omega
   rw [<-e2];exact hy
 . intro h;exact⟨f,h,by simp⟩
def left(qa:List Node)(D:List Int)(i:Nat):Nat:=(qb2 qa i).countP (fun f:Nat=>!decide ((f:Int)∈D))
theorem q5n(qa:List Node)(i:Nat):left qa [] i=(qb2 qa i).length:=by
 unfold left;rw [List.countP_eq_length];simp
theorem q23(qa:List Node)(D:List Int)(i:Nat):left qa D i<=(qb2 qa i).length:=List.countP_le_length
theorem q0t{l:List Nat}(hn:l.Nodup)(p:Nat->Bool){x:Nat}(hp:p x=true):l.countP (fun f=>p f && !decide (f=x))+(if x∈l then 1 else 0)=l.countP p:=by
 induction l with
 | nil=>simp
 | cons a r ih=>
   obtain⟨h1,h2⟩:=List.nodup_cons.1 hn;have:=ih h2;by_cases hax:a=x
   . subst hax
     have hc:r.countP (fun f=>p f && !decide (f=a))=r.countP p:=by
       rw [if_neg h1] at this;simpa using this
     rw [List.countP_cons_of_neg (by simp),List.countP_cons_of_pos hp,hc,if_pos (by simp)]
   . have hm:(x∈a::r)↔x∈r:=⟨fun h=>by rcases List.mem_cons.1 h with e | h;exact absurd e.symm hax;exact h,List.mem_cons_of_mem _⟩;by_cases hpa:p a=true
     . rw [List.countP_cons_of_pos (by simp [hpa,hax]),List.countP_cons_of_pos hpa];simp only [hm];omega
     . rw [List.countP_cons_of_neg (by simp [hpa]),List.countP_cons_of_neg hpa];simp only [hm];omega
theorem qo7{qa:List Node}(hv:qae qa=true){D:List Int}{x:Int}(hx:x∉D)(h0:0<=x)(i:Nat):left qa (D++[x]) i+(if has qa i x then 1 else 0)=left qa D i:=by
 obtain⟨m,rfl⟩:=Int.eq_ofNat_of_zero_le h0;have e:=q0t (qk0 qa i) (fun f:Nat=>!decide ((f:Int)∈D)) (x:=m) (by simpa using hx);unfold left;rw [<-e]
 have e1:(fun f:Nat=>!decide ((f:Int)∈D++[(m:Int)]))=(fun f:Nat=>!decide ((f:Int)∈D) && !decide (f=m)):=by
   funext f;by_cases h1:(f:Int)∈D
   . simp [h1]
   . by_cases h2:f=m
     . simp [h2]
     . have:¬ (f:Int)=(m:Int):=by omega
       simp [h1,h2,this]
 rw [e1]
 have e2:(has qa i (m:Int)=true)↔m∈qb2 qa i:=by
   unfold has;rw [decide_eq_true_eq];exact(qge hv).symm
 by_cases hm:m∈qb2 qa i
 . rw [if_pos hm,if_pos (e2.2 hm)]
 . rw [if_neg hm,if_neg (fun h=>hm (e2.1 h))]
theorem q24{qa:List Node}(hv:qae qa=true){D:List Int}{i:Nat}:left qa D i=0↔∀ f∈qfd qa i,f∈D:=by
 unfold left;rw [List.countP_eq_zero];constructor
 . intro h f hf;have:=qeh hv hf;obtain⟨m,rfl⟩:=Int.eq_ofNat_of_zero_le this.1;have:=h m ((qge hv).2 hf);simpa using this
 . intro h f hf;have:=h _ ((qge hv).1 hf);simpa using this
def qe3(qa:List Node)(D:List Int)(x:Int):Bool:=decide (0<=x) && decide (x < qa.length) && !decide (x∈D) && (qfd qa x.toNat).all (fun f=>decide (f∈D))
def qc8(qa:List Node)(order:List Int)(k:Nat):Bool:=(List.range k).all fun i=>qe3 qa (order.take i) (order.getD i 0)
def qbu(qa:List Node)(order:List Int):Bool:=qc8 qa order order.length
theorem qd0(qa:List Node)(order:List Int)(k:Nat):qc8 qa order (k+1)=(qc8 qa order k && qe3 qa (order.take k) (order.getD k 0)):=by
 unfold qc8;rw [List.range_succ,List.all_append];simp
theorem qsk{qa:List Node}{order:List Int}{k m:Nat}(h:k<=m)(ho:qc8 qa order m=true):qc8 qa order k=true:=by
 induction m with
 | zero=>
   obtain rfl:k=0:=by omega
   exact ho
 | succ m ih=>
   by_cases hk:k=m+1
   . subst hk;exact ho
   . rw [qd0,Bool.and_eq_true] at ho;exact ih (by omega) ho.1
theorem qm5(qa:List Node)(D:List Int)(x:Int):qbu qa (D++[x])=(qbu qa D && qe3 qa D x):=by
 have h1:qc8 qa (D++[x]) D.length=qc8 qa D D.length:=by
   unfold qc8;rw [Bool.eq_iff_iff,List.all_eq_true,List.all_eq_true]
   have e:∀ i,i∈List.range D.length->((D++[x]).take i=D.take i/\(D++[x]).getD i 0=D.getD i 0):=by
     intro i hi;have hi:=List.mem_range.1 hi;exact⟨List.take_append_of_le_length (by omega),by simp only [List.getD_eq_getElem?_getD];rw [List.getElem?_append_left hi]⟩
   constructor
   . intro h i hi;have:=h i hi
     rwa [(e i hi).1,(e i hi).2] at this
   . intro h i hi;rw [(e i hi).1,(e i hi).2];exact h i hi
 unfold qbu;rw [List.length_append];show qc8 qa (D++[x]) (D.length+1)=_;rw [qd0,h1,List.take_left,List.getD_eq_getElem?_getD,List.getElem?_append_right (Nat.le_refl _),Nat.sub_self];rfl
theorem q65{qa:List Node}{order:List Int}{k:Nat}(hk:k<=order.length):qbu qa (order.take k)=qc8 qa order k:=by
 induction k with
 | zero=>rfl
 | succ k ih=>
   rw [List.take_succ_eq_append_getElem (by omega),qm5,ih (by omega),qd0,List.getD_eq_getElem?_getD,List.getElem?_eq_getElem (by omega)];rfl
theorem qd8{qa:List Node}{D:List Int}{x:Int}:qe3 qa D x=true↔0<=x/\x < qa.length/\x∉D/\∀ f∈qfd qa x.toNat,f∈D:=by
 unfold qe3;simp only [Bool.and_eq_true,decide_eq_true_eq,Bool.not_eq_true',decide_eq_false_iff_not,List.all_eq_true,and_assoc]
theorem qg9{qa:List Node}{D:List Int}(ho:qbu qa D=true){i:Nat}(hi:i < D.length):qe3 qa (D.take i) D[i]=true:=by
 have h1:qc8 qa D (i+1)=true:=qsk hi ho;rw [qd0,Bool.and_eq_true,List.getD_eq_getElem?_getD,List.getElem?_eq_getElem hi] at h1;exact h1.2
theorem qic{qa:List Node}{D:List Int}(ho:qbu qa D=true){y:Int}(hy:y∈D):0<=y/\y < qa.length/\∀ f∈qfd qa y.toNat,f∈D:=by
 obtain⟨i,hi,rfl⟩:=List.mem_iff_getElem.1 hy;obtain⟨h1,h2,_,h4⟩:=qd8.1 (qg9 ho hi);exact⟨h1,h2,fun f hf=>List.mem_of_mem_take (h4 f hf)⟩
theorem qo8{qa:List Node}{D:List Int}(ho:qbu qa D=true):D.Nodup:=by
 have:∀ k,k<=D.length->(D.take k).Nodup:=by
   intro k
   induction k with
   | zero=>intro _;simp
   | succ k ih=>
     intro hk;rw [List.take_succ_eq_append_getElem (by omega),List.nodup_append];refine⟨ih (by omega),by simp,fun a ha b hb e=>?_⟩;obtain rfl:b=D[k]:=by simpa using hb
     exact(qd8.1 (qg9 ho (i:=k) (by omega))).2.2.1 (e ▸ ha)
 have:=this D.length (Nat.le_refl _)
 rwa [List.take_length] at this
def qa6(qa:List Node):List Int:=(List.range qa.length).map fun i=>((qb2 qa i).length:Int)
def lefts(qa:List Node)(D:List Int):List Int:=(List.range qa.length).map fun i=>(left qa D i:Int)
def qbi(qa:List Node)(cs:List Int)(x:Int):List Int:=cs.zipIdx.map fun y:Int × Nat=>if has qa y.2 x then y.1 - 1 else y.1
def qa8(qa:List Node)(D:List Int):List Int:=D.foldl (qbi qa) (qa6 qa)
theorem qo9(qa:List Node):lefts qa []=qa6 qa:=by
 unfold lefts qa6;simp only [q5n]
theorem qfe(qa:List Node)(D:List Int):(lefts qa D).length=qa.length:=by unfold lefts;rw [List.length_map,List.length_range]
theorem qkq{qa:List Node}(D:List Int){i:Nat}(h:i < qa.length):(lefts qa D)[i]?=some (left qa D i:Int):=by
 unfold lefts;rw [List.getElem?_map,List.getElem?_range h];rfl
theorem qg3(qa:List Node)(cs:List Int)(x:Int):(qbi qa cs x).length=cs.length:=by unfold qbi;rw [List.length_map,List.length_zipIdx]
theorem qjm{qa:List Node}{cs:List Int}{x:Int}{i:Nat}{c:Int}(h:cs[i]?=some c):(qbi qa cs x)[i]?=some (if has qa i x then c - 1 else c):=by
 unfold qbi;rw [List.getElem?_map,List.getElem?_zipIdx,h];simp
theorem qi6{qa:List Node}(hv:qae qa=true){D:List Int}{x:Int}(hx:x∉D)(h0:0<=x):qbi qa (lefts qa D) x=lefts qa (D++[x]):=by
 apply List.ext_getElem?;intro i;by_cases hi:i < qa.length
 . rw [qjm (qkq D hi),qkq _ hi];have:=qo7 hv hx h0 i;congr 1;split
   . rw [if_pos (by assumption)] at this;omega
   . rw [if_neg (by assumption)] at this;omega
 . rw [List.getElem?_eq_none (by rw [qg3,qfe];omega),List.getElem?_eq_none (by rw [qfe];omega)]
theorem qm6{qa:List Node}(hv:qae qa=true){D:List Int}(ho:qbu qa D=true):∀ k,k<=D.length->qa8 qa (D.take k)=lefts qa (D.take k):=by
 intro k
 induction k with
 | zero=>intro _;exact(qo9 qa).symm
 | succ k ih=>
   intro hk;have h1:qc8 qa D (k+1)=true:=qsk hk ho;rw [qd0,Bool.and_eq_true] at h1;have h2:=qd8.1 h1.2;have hg:D.getD k 0=D[k]:=by rw [List.getD_eq_getElem?_getD,List.getElem?_eq_getElem (by omega)];rfl
   rw [hg] at h2;rw [List.take_succ_eq_append_getElem (by omega)];unfold qa8 at ih |-;rw [List.foldl_append,ih (by omega)];exact qi6 hv h2.2.2.1 h2.1
theorem qg4{qa:List Node}(hv:qae qa=true){D:List Int}(ho:qbu qa D=true):qa8 qa D=lefts qa D:=by
 have:=qm6 hv ho D.length (Nat.le_refl _)
 rwa [List.take_length] at this
def qx(f:Int->Int->Int)(a b:List Int):List Int:=List.zipWith (fun x y=>f x y % 1009) a b
def qdy(f:Int->Int->Int)(a b:List Int):Option (List Int):=if qaj a && qaj b && decide (a.length=b.length) then some (qx f a b) else none
def vh(x y:Int):Int:=x+y
def zV(x y:Int):Int:=x * y
def qkx(a b:List Int):Option (List Int):=qdy vh a b
def qf1(a b:List Int):Option (List Int):=qdy zV a b
def qbb(s:Int):List Int->List Int
 | []=>[]
 | x::xs=>((s+x) % 1009)::qbb ((s+x) % 1009) xs
def qeo(l:List Int):Option (List Int):=if qaj l then some (qbb 0 l) else none
def putRow:List Int->Int->List Int
 | [],n=>[n]
 | x::xs,n=>if n < x then n::x::xs else x::putRow xs n
def qh(l:List Int):List Int:=l.foldl putRow []
def qep(l:List Int):Option (List Int):=if qaj l then some (qh l) else none
def qeq(l:List Int):Option (List Int):=if qaj l then some l.reverse else none
def qd1(k:Int):List (List Int)->Option (List Int)
 | [a,b]=>if k=1 then qkx a b else if k=2 then qf1 a b else none
 | [a]=>if k=3 then qeo a else if k=4 then qep a else if k=5 then qeq a else none
 | _=>none
theorem qc2{l:List Int}(h:qaj l=true){x:Int}(hx:x∈l):0<=x/\x<=1008:=by
 unfold qaj at h;simp only [Bool.and_eq_true,decide_eq_true_eq,List.all_eq_true] at h;have:=h.1 x hx;unfold jZ at this;simpa using this
theorem qbx{l:List Int}(h:qaj l=true):l.length<=6:=by
 unfold qaj at h;simp only [Bool.and_eq_true,decide_eq_true_eq] at h;exact h.2
theorem qpf{l:List Int}(h:∀ x∈l,0<=x/\x<=1008)(hl:l.length<=6):qaj l=true:=by
 unfold qaj;simp only [Bool.and_eq_true,decide_eq_true_eq,List.all_eq_true];refine⟨fun x hx=>?_,hl⟩;have:=h x hx;unfold jZ;simp;omega
theorem qpg(l:List Int)(n:Int):(putRow l n).Perm (n::l):=by
 induction l with
 | nil=>exact List.Perm.refl _
 | cons x xs ih=>
   unfold putRow;split
   . exact List.Perm.refl _
   . exact(List.Perm.cons x ih).trans (List.Perm.swap n x xs)
theorem qto{l:List Int}(n:Int)(h:l.Pairwise (·<=·)):(putRow l n).Pairwise (·<=·):=by
 induction l with
 | nil=>simp [putRow]
 | cons x xs ih=>
   have h1:=List.pairwise_cons.1 h;unfold putRow;split
   . rename_i hx;refine List.pairwise_cons.2 ⟨?_,h⟩;intro y hy;rcases List.mem_cons.1 hy with rfl | hy
     . omega
     . have:=h1.1 y hy;omega
   . refine List.pairwise_cons.2 ⟨?_,ih h1.2⟩;intro y hy;rcases List.mem_cons.1 ((qpg xs n).mem_iff.1 hy) with rfl | hy
     . omega
     . exact h1.1 y hy
theorem qph(l acc:List Int)(h:acc.Pairwise (·<=·)):(l.foldl putRow acc).Perm (l++acc)/\(l.foldl putRow acc).Pairwise (·<=·):=by
 induction l generalizing acc with
 | nil=>exact⟨List.Perm.refl _,h⟩
 | cons x xs ih=>
   obtain⟨h1,h2⟩:=ih (putRow acc x) (qto x h);refine⟨h1.trans ?_,h2⟩;refine(List.Perm.append_left xs (qpg acc x)).trans ?_;exact List.perm_middle
theorem qgs(l:List Int):(qh l).Perm l:=by
 have:=(qph l [] List.Pairwise.nil).1;rw [List.append_nil] at this;exact this
theorem qjn(l:List Int):(qh l).Pairwise (·<=·):=(qph l [] List.Pairwise.nil).2
theorem qky:∀ {a b:List Int},a.Perm b->a.Pairwise (·<=·)->b.Pairwise (·<=·)->a=b
 | [],b,h,_,_=>by simpa using h.symm
 | x::xs,[],h,_,_=>by simp at h
 | x::xs,y::ys,h,ha,hb=>by
   have ha':=List.pairwise_cons.1 ha;have hb':=List.pairwise_cons.1 hb;have hx:x∈y::ys:=h.mem_iff.1 (by simp);have hy:y∈x::xs:=h.mem_iff.2 (by simp)
   have e:x=y:=by
     rcases List.mem_cons.1 hx with h1 | h1
     . exact h1
     . rcases List.mem_cons.1 hy with h2 | h2
       . exact h2.symm
       . have:=ha'.1 y h2;have:=hb'.1 x h1;omega
   subst e;rw [qky (List.Perm.cons_inv h) ha'.2 hb'.2]
theorem q05{l m:List Int}(h:m.Perm l)(hs:m.Pairwise (·<=·)):m=qh l:=
 qky (h.trans (qgs l).symm) hs (qjn l)
theorem qd2(l:List Int):(qh l).length=l.length:=(qgs l).length_eq
theorem qie(s:Int)(l:List Int):(qbb s l).length=l.length:=by
 induction l generalizing s with
 | nil=>rfl
 | cons x xs ih=>simp [qbb,ih]
theorem qxv(s:Int)(l:List Int):∀ x∈qbb s l,0<=x/\x<=1008:=by
 induction l generalizing s with
 | nil=>intro x hx;simp [qbb] at hx
 | cons y ys ih=>
   intro x hx;rcases List.mem_cons.1 hx with rfl | hx
   . omega
   . exact ih _ x hx
theorem q06{f:Int->Int->Int}{a b:List Int}(h:a.length=b.length):(qx f a b).length=a.length:=by
 unfold qx;rw [List.length_zipWith];omega
theorem q27(f:Int->Int->Int)(a b:List Int):∀ x∈qx f a b,0<=x/\x<=1008:=by
 intro x hx;unfold qx at hx;obtain⟨i,hi⟩:=List.mem_iff_getElem?.1 hx;rw [List.getElem?_zipWith] at hi;split at hi
 . injection hi with hi;omega
 . cases hi
theorem qhk{f:Int->Int->Int}{a b r:List Int}(h:qdy f a b=some r):qaj r=true/\r.length=a.length/\r.length=b.length/\qaj a=true/\qaj b=true:=by
 unfold qdy at h;split at h
 . rename_i hc;injection h with h;subst h;simp only [Bool.and_eq_true,decide_eq_true_eq] at hc;have hl:=q06 (f:=f) hc.2;exact⟨qpf (q27 f a b) (by rw [hl];exact qbx hc.1.1),hl,by omega,hc.1.1,hc.1.2⟩
 . cases h
theorem qtp{k:Int}{rows:List (List Int)}{r:List Int}(h:qd1 k rows=some r):qaj r=true/\(rows.length:Int)=qaq k/\∀ l∈rows,l.length=r.length/\qaj l=true:=by
 have two:∀ {f:Int->Int->Int} {a b:List Int},qdy f a b=some r->∀ l∈[a,b],l.length=r.length/\qaj l=true:=by
   intro f a b h l hl;obtain⟨_,h1,h2,h3,h4⟩:=qhk h;simp at hl;rcases hl with rfl | rfl
   . exact⟨h1.symm,h3⟩
   . exact⟨h2.symm,h4⟩
 unfold qd1 at h;split at h
 . rename_i a b;split at h
   . rename_i hk;subst hk;exact⟨(qhk h).1,rfl,two h⟩
   . split at h
     . rename_i hk;subst hk;exact⟨(qhk h).1,rfl,two h⟩
     . cases h
 . rename_i a
   have one:∀ {m:List Int},qaj a=true->m.length=a.length->(∀ x∈m,0<=x/\x<=1008)->qaj m=true/\∀ l∈[a],l.length=m.length/\qaj l=true:=by
     intro m hv hl hm;refine⟨qpf hm (by rw [hl];exact qbx hv),fun l hl'=>?_⟩;simp at hl';subst hl';exact⟨hl.symm,hv⟩
   split at h
   . rename_i hk;subst hk;unfold qeo at h;split at h
     . rename_i hv;injection h with h;subst h;obtain⟨h1,h2⟩:=one hv (qie 0 a) (qxv 0 a);exact⟨h1,rfl,h2⟩
     . cases h
   . split at h
     . rename_i hk;subst hk;unfold qep at h;split at h
       . rename_i hv;injection h with h;subst h;obtain⟨h1,h2⟩:=one hv (qd2 a) (fun x hx=>qc2 hv ((qgs a).mem_iff.1 hx));exact⟨h1,rfl,h2⟩
       . cases h
     . split at h
       . rename_i hk;subst hk;unfold qeq at h;split at h
         . rename_i hv;injection h with h;subst h;obtain⟨h1,h2⟩:=one (m:=a.reverse) hv (by simp) (fun x hx=>qc2 hv (by simpa using hx));exact⟨h1,rfl,h2⟩
         . cases h
       . cases h
 . cases h
def qy(x:Node)(rows:List (List Int)):List Int:=if x.kind=0 then x.row else (qd1 x.kind (x.frm.map fun i=>rows.getD i.toNat [])).getD []
def qbp(qa:List Node):Nat->List (List Int)
 | 0=>[]
 | k+1=>qbp qa k++[match qa[k]? with
   | some x=>qy x (qbp qa k)
   | none=>[]]
def values(qa:List Node):List (List Int):=qbp qa qa.length
theorem qdc(qa:List Node)(k:Nat):(qbp qa k).length=k:=by
 induction k with
 | zero=>rfl
 | succ k ih=>simp [qbp,ih]
theorem qg8(qa:List Node):(values qa).length=qa.length:=qdc qa _
theorem qhi{qa:List Node}{k:Nat}{x:Node}(h:qa[k]?=some x):qbp qa (k+1)=qbp qa k++[qy x (qbp qa k)]:=by
 rw [qbp,h]
theorem qth(qa:List Node){i k:Nat}(h:i<=k):(qbp qa k).take i=qbp qa i:=by
 induction k with
 | zero=>
   obtain rfl:i=0:=by omega
   rfl
 | succ k ih=>
   by_cases hk:i=k+1
   . subst hk;rw [List.take_of_length_le (by rw [qdc];omega)]
   . rw [qbp,List.take_append_of_le_length (by rw [qdc];omega),ih (by omega)]
theorem qhj(qa:List Node){i k m:Nat}(h:i < k)(hm:i < m):(qbp qa k).getD i []=(qbp qa m).getD i []:=by
 have e:∀ k:Nat,i < k->(qbp qa k).getD i []=(qbp qa (i+1)).getD i []:=by
   intro k hk;rw [<-qth qa (show i+1<=k by omega)];simp only [List.getD_eq_getElem?_getD];rw [List.getElem?_take,if_pos (by omega)]
 rw [e k h,e m hm]
def qcu(qa:List Node)(i:Nat):List Int:=(values qa).getD i []
theorem qko{qa:List Node}{i:Nat}(h:i < qa.length):(values qa)[i]?=some (qcu qa i):=by
 unfold qcu;rw [List.getD_eq_getElem?_getD,List.getElem?_eq_getElem (by rw [qg8];exact h)];rfl
theorem qu0{k:Int}{rows:List (List Int)}{n:Nat}(h0:1<=k)(h5:k<=5)(hl:(rows.length:Int)=qaq k)(hr:∀ l∈rows,qaj l=true/\l.length=n):∃ r,qd1 k rows=some r:=by
 have both:∀ (f:Int->Int->Int) (a b:List Int),qaj a=true->qaj b=true->a.length=b.length->∃ r,qdy f a b=some r:=by
   intro f a b ha hb hab;unfold qdy;rw [ha,hb,decide_eq_true hab];exact⟨_,rfl⟩
 have two:(qaq k=2)->∃ a b,rows=[a,b]/\qaj a=true/\qaj b=true/\a.length=b.length:=by
   intro e;rw [e] at hl
   match rows,hl with
   | [a,b],_=>
     have ha:=hr a (by simp);have hb:=hr b (by simp);exact⟨a,b,rfl,ha.1,hb.1,by omega⟩
   | [],hl=>simp at hl
   | [_],hl=>simp at hl
   | _::_::_::_,hl=>simp at hl;omega
 have one:(qaq k=1)->∃ a,rows=[a]/\qaj a=true:=by
   intro e;rw [e] at hl
   match rows,hl with
   | [a],_=>exact⟨a,rfl,(hr a (by simp)).1⟩
   | [],hl=>simp at hl
   | _::_::_,hl=>simp at hl;omega
 rcases (show k=1∨k=2∨k=3∨k=4∨k=5 by omega) with rfl | rfl | rfl | rfl | rfl
 . obtain⟨a,b,rfl,ha,hb,hab⟩:=two (by decide);exact both _ a b ha hb hab
 . obtain⟨a,b,rfl,ha,hb,hab⟩:=two (by decide);exact both _ a b ha hb hab
 . obtain⟨a,rfl,ha⟩:=one (by decide);exact⟨_,by show qeo a=_;unfold qeo;rw [if_pos ha]⟩
 . obtain⟨a,rfl,ha⟩:=one (by decide);exact⟨_,by show qep a=_;unfold qep;rw [if_pos ha]⟩
 . obtain⟨a,rfl,ha⟩:=one (by decide);exact⟨_,by show qeq a=_;unfold qeq;rw [if_pos ha]⟩
theorem qib{x:Node}{a:Int}(h:qbf x a=true):(0<=x.kind/\x.kind<=5)/\(x.frm.length:Int)=qaq x.kind/\(∀ y∈x.frm,0<=y/\y < a)/\(x.kind=0->qaj x.row=true):=by
 unfold qbf at h;simp only [Bool.and_eq_true,decide_eq_true_eq,List.all_eq_true] at h;obtain⟨⟨⟨h1,h2⟩,h3⟩,h4⟩:=h;refine⟨?_,h2,h3,fun e=>?_⟩
 . unfold qds at h1;simpa using h1
 . rw [if_pos e] at h4;exact h4
theorem qkp{qa:List Node}(hv:qae qa=true){k:Nat}{x:Node}(hx:qa[k]?=some x){rows:List (List Int)}(hl:rows.length=k)(hr:∀ l∈rows,qaj l=true/\l.length=wide qa) :
   qaj (qy x rows)=true/\(qy x rows).length=wide qa/\(x.kind≠0->qd1 x.kind (x.frm.map fun i=>rows.getD i.toNat [])=some (qy x rows)):=by
 obtain⟨hf,-,-,hw⟩:=qa4 hv hx;obtain⟨⟨h0,h5⟩,h2,h3,h4⟩:=qib hf;unfold qy;by_cases hk:x.kind=0
 . rw [if_pos hk];exact⟨h4 hk,hw hk,fun h=>absurd hk h⟩
 . rw [if_neg hk]
   have hmem:∀ l∈x.frm.map (fun i=>rows.getD i.toNat []),qaj l=true/\l.length=wide qa:=by
     intro l hl';obtain⟨i,hi,rfl⟩:=List.mem_map.1 hl';have:=h3 i hi;have hlt:i.toNat < rows.length:=by omega
     rw [List.getD_eq_getElem?_getD,List.getElem?_eq_getElem hlt];exact hr _ (List.getElem_mem hlt)
   obtain⟨r,e⟩:=qu0 (by omega) h5 (by rw [List.length_map];exact h2) hmem;rw [e];obtain⟨v1,-,v3⟩:=qtp e;refine⟨v1,?_,fun _=>rfl⟩
   have hne:x.frm≠[]:=by
     intro e0;rw [e0] at h2;rcases (show x.kind=1∨x.kind=2∨x.kind=3∨x.kind=4∨x.kind=5 by omega) with e | e | e | e | e
     all_goals
       rw [e] at h2;exact absurd h2 (by decide)
   obtain⟨i,r',e1⟩:∃ i r',x.frm=i::r':=by
     cases hf':x.frm with
     | nil=>exact absurd hf' hne
     | cons i r'=>exact⟨i,r',rfl⟩
   have hm0:=v3 (rows.getD i.toNat []) (by rw [e1];simp);have hm1:=hmem (rows.getD i.toNat []) (by rw [e1];simp);show r.length=wide qa;omega
theorem qjl{qa:List Node}(hv:qae qa=true):∀ k,k<=qa.length->∀ l∈qbp qa k,qaj l=true/\l.length=wide qa:=by
 intro k
 induction k with
 | zero=>intro _ l hl;simp [qbp] at hl
 | succ k ih=>
   intro hk l hl;have hx:qa[k]?=some qa[k]:=List.getElem?_eq_getElem (by omega);rw [qhi hx] at hl;rcases List.mem_append.1 hl with hl | hl
   . exact ih (by omega) l hl
   . obtain rfl:l=qy qa[k] (qbp qa k):=by simpa using hl
     have:=qkp hv hx (qdc qa k) (ih (by omega));exact⟨this.1,this.2.1⟩
theorem qmd{qa:List Node}{i:Nat}{x:Node}(h:qa[i]?=some x):qcu qa i=qy x (qbp qa i):=by
 have hi:=(List.getElem?_eq_some_iff.1 h).1;unfold qcu values;rw [qhj qa (m:=i+1) hi (by omega),qhi h,List.getD_eq_getElem?_getD,List.getElem?_append_right (by rw [qdc];omega),qdc,Nat.sub_self];rfl
theorem qxn{qa:List Node}(hv:qae qa=true){i:Nat}(hi:i < qa.length):qaj (qcu qa i)=true/\(qcu qa i).length=wide qa:=
 qjl hv _ (Nat.le_refl _) _ (List.mem_of_getElem? (qko hi))
theorem q22{qa:List Node}(hv:qae qa=true){i:Nat}{x:Node}(h:qa[i]?=some x)(hk:x.kind≠0):qd1 x.kind (x.frm.map fun j=>qcu qa j.toNat)=some (qcu qa i):=by
 have hi:=(List.getElem?_eq_some_iff.1 h).1;have hs:=(qkp hv h (qdc qa i) (qjl hv i (by omega))).2.2 hk;rw [<-qmd h] at hs;rw [<-hs];congr 1;refine List.map_congr_left (fun j hj=>?_);have:=qcj (qa4 hv h).1 hj;exact qhj qa (by omega) (by omega)
theorem qxo{qa:List Node}{i:Nat}{x:Node}(h:qa[i]?=some x)(hk:x.kind=0):qcu qa i=x.row:=by
 rw [qmd h];unfold qy;rw [if_pos hk]
end
end Go.Proofs.YtacemdoejblgaaaGreatDoor

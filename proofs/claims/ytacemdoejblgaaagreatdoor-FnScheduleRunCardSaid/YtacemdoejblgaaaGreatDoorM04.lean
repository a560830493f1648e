/- Part 4. Conditions: each statement's. -/
import Derived.Test.YtacemdoejblgaaaGreatDoorM03
import Derived.Conc.Beside
import Derived.Conc.CrowdComm
namespace Go.Proofs.YtacemdoejblgaaaGreatDoor
set_option maxHeartbeats 6400000
set_option maxRecDepth 100000
section
theorem q2w(S:List Int)(x:Int)(j:Nat)(h1:∀ y∈S.take j,¬ x < y)(h2:∀ y∈S.drop j,x < y):putRow S x=S.take j++x::S.drop j:=by
 induction S generalizing j with
 | nil=>simp [putRow]
 | cons y ys ih=>
   match j with
   | 0=>
     have:=h2 y (by simp);unfold putRow;rw [if_pos this];rfl
   | j+1=>
     have:=h1 y (by simp);unfold putRow;rw [if_neg this,ih j (fun z hz=>h1 z (by simp [hz])) (fun z hz=>h2 z (by simpa using hz))];rfl
def qh9(l:List Int)(i j:Nat)(x:Int):List Int:=(qh (l.take i)).take j++x::((qh (l.take i)).drop j++l.drop (i+1))
def qkl(l:List Int)(i:Nat):List Int:=qh (l.take i)++l.drop i
theorem quy(l:List Int)(x:Int):qh (l++[x])=putRow (qh l) x:=by
 unfold qh;rw [List.foldl_append];rfl
theorem q2x{l:List Int}{i j:Nat}{x:Int}(hi:i < l.length)(hj:j<=i):(qh9 l i j x).length=l.length:=by
 unfold qh9;rw [List.length_append,List.length_cons,List.length_append,List.length_take,List.length_drop,List.length_drop,qd2,List.length_take];omega
theorem q0o(l:List Int):qkl l 1=l:=by
 cases l with
 | nil=>rfl
 | cons x xs=>simp [qkl,qh,putRow]
theorem q0p(l:List Int){i:Nat}(h:l.length<=i):qkl l i=qh l:=by
 unfold qkl;rw [List.take_of_length_le h,List.drop_of_length_le h,List.append_nil]
theorem qxk{l:List Int}{i:Nat}{x:Int}(h:l[i]?=some x):qkl l i=qh9 l i i x:=by
 obtain⟨hi,rfl⟩:=List.getElem?_eq_some_iff.1 h;have hl:(qh (l.take i)).length=i:=by rw [qd2,List.length_take];omega
 unfold qkl qh9;rw [List.take_of_length_le (l:=qh (l.take i)) (by omega),List.drop_of_length_le (l:=qh (l.take i)) (by omega),List.nil_append,List.drop_eq_getElem_cons hi]
theorem q2y{l:List Int}{i j:Nat}{x:Int}(hi:i < l.length)(hj:j<=i):(qh9 l i j x)[j]?=some x:=by
 have hl:(qh (l.take i)).length=i:=by rw [qd2,List.length_take];omega
 unfold qh9;rw [List.getElem?_append_right (by rw [List.length_take];omega),List.length_take,show j - min j (qh (l.take i)).length=0 by omega];rfl
theorem q0q{l:List Int}{i j:Nat}{x:Int}(hi:i < l.length)(hj:j<=i)(h0:0 < j):∃ y,(qh9 l i j x)[j - 1]?=some y/\(qh (l.take i))[j - 1]?=some y:=by
 have hl:(qh (l.take i)).length=i:=by rw [qd2,List.length_take];omega
 refine⟨(qh (l.take i))[j - 1],?_,List.getElem?_eq_getElem (by omega)⟩;unfold qh9;rw [List.getElem?_append_left (by rw [List.length_take];omega),List.getElem?_take,if_pos (by omega)];exact List.getElem?_eq_getElem (by omega)
theorem q5l(P Q:List Int)(y x:Int):((P++y::x::Q).set (P.length+1) y).set P.length x=P++x::y::Q:=by
 rw [List.set_append_right _ _ (by omega),show P.length+1 - P.length=1 by omega,List.set_append_right _ _ (by omega),Nat.sub_self];rfl
theorem q0r{l:List Int}{i j:Nat}{x y:Int}(hi:i < l.length)(hj:j<=i)(h0:0 < j)(hy:(qh (l.take i))[j - 1]?=some y):((qh9 l i j x).set j y).set (j - 1) x=qh9 l i (j - 1) x:=by
 have hl:(qh (l.take i)).length=i:=by rw [qd2,List.length_take];omega
 obtain⟨k,rfl⟩:∃ k,j=k+1:=⟨j - 1,by omega⟩;simp only [Nat.add_sub_cancel] at hy |-;obtain⟨hk,hy'⟩:=List.getElem?_eq_some_iff.1 hy
 have e1:qh9 l i (k+1) x=(qh (l.take i)).take k++y::x::((qh (l.take i)).drop (k+1)++l.drop (i+1)):=by
   unfold qh9;rw [List.take_succ_eq_append_getElem hk,hy',List.append_assoc];rfl
 have e2:qh9 l i k x=(qh (l.take i)).take k++x::y::((qh (l.take i)).drop (k+1)++l.drop (i+1)):=by
   unfold qh9;rw [List.drop_eq_getElem_cons hk,hy'];rfl
 rw [e1,e2];have:=q5l ((qh (l.take i)).take k) ((qh (l.take i)).drop (k+1)++l.drop (i+1)) y x;rw [List.length_take,show min k (qh (l.take i)).length=k by omega] at this;exact this
theorem quz{l:List Int}{i j:Nat}{x:Int}(h:l[i]?=some x)(hj:j<=i)(h1:j=0∨∃ y,(qh (l.take i))[j - 1]?=some y/\¬ x < y)(h2:∀ y∈(qh (l.take i)).drop j,x < y):qh9 l i j x=qkl l (i+1):=by
 obtain⟨hi,hx⟩:=List.getElem?_eq_some_iff.1 h;have hl:(qh (l.take i)).length=i:=by rw [qd2,List.length_take];omega
 have hs:=qjn (l.take i)
 have h3:∀ y∈(qh (l.take i)).take j,¬ x < y:=by
   intro y hy;rcases h1 with rfl | ⟨z,hz,hzx⟩
   . simp at hy
   . obtain⟨a,ha,rfl⟩:=List.mem_take_iff_getElem.1 hy;obtain⟨hk,rfl⟩:=List.getElem?_eq_some_iff.1 hz;by_cases e:a=j - 1
     . subst e;exact hzx
     . have:=List.pairwise_iff_getElem.1 hs a (j - 1) (by omega) hk (by omega);omega
 unfold qh9 qkl;rw [List.take_succ_eq_append_getElem hi,hx,quy,q2w _ _ j h3 h2,List.append_assoc];rfl
theorem q2z{S:List Int}{j:Nat}{x y:Int}(h0:0 < j)(hy:S[j - 1]?=some y)(hx:x < y)(h:∀ z∈S.drop j,x < z):∀ z∈S.drop (j - 1),x < z:=by
 obtain⟨hk,rfl⟩:=List.getElem?_eq_some_iff.1 hy;intro z hz;rw [List.drop_eq_getElem_cons hk,show j - 1+1=j by omega] at hz;rcases List.mem_cons.1 hz with rfl | hz
 . exact hx
 . exact h z hz
def zl(l m:List Int)(k:Nat):Prop:=m.length=l.length/\∀ i,i < l.length->m[i]?=if i < k∨l.length - k<=i then l[l.length - 1 - i]? else l[i]?
theorem zl.zero(l:List Int):zl l l 0:=⟨rfl,fun i hi=>by rw [if_neg (by omega)]⟩
theorem zl.step{l m:List Int}{k:Nat}{x y:Int}(h:zl l m k)(hk:k < l.length - 1 - k)(hx:m[k]?=some x)(hy:m[l.length - 1 - k]?=some y):zl l ((m.set k y).set (l.length - 1 - k) x) (k+1):=by
 obtain⟨h1,h2⟩:=h;have ex:=h2 k (by omega);have ey:=h2 (l.length - 1 - k) (by omega);rw [if_neg (by omega),hx] at ex;rw [if_neg (by omega),hy] at ey;refine⟨by simp [h1],fun i hi=>?_⟩;rw [List.getElem?_set,List.length_set,List.getElem?_set];by_cases e1:l.length - 1 - k=i
 . rw [if_pos e1,if_pos (by omega),if_pos (by omega),<-e1,show l.length - 1 - (l.length - 1 - k)=k by omega];exact ex
 . rw [if_neg e1];by_cases e2:k=i
   . subst e2;rw [if_pos rfl,if_pos (by omega),if_pos (by omega)];exact ey
   . rw [if_neg e2,h2 i hi];by_cases e3:i < k∨l.length - k<=i
     . rw [if_pos e3,if_pos (by omega)]
     . rw [if_neg e3,if_neg (by omega)]
theorem zl.done{l m:List Int}{k:Nat}(h:zl l m k)(hk:l.length - 1 - k<=k):m=l.reverse:=by
 obtain⟨h1,h2⟩:=h;apply List.ext_getElem?;intro i;by_cases hi:i < l.length
 . rw [h2 i hi,List.getElem?_reverse hi];split
   . rfl
   . rename_i hn;congr 1;omega
 . rw [List.getElem?_eq_none (by omega),List.getElem?_eq_none (by simp;omega)]
end
section
open Go.RowKit
end
section
end Go.Proofs.YtacemdoejblgaaaGreatDoor
namespace Go.Proofs.YtacemdoejblgaaaGreatDoor
open Go.RowKit
end
section
open Go.Conc
def qim(Sh:Nat->Prop):Loc->Prop
 | .cell a=>Sh a.block
 | _=>False
def qaE(Sh:Nat->Prop)(Fz:Loc->Prop)(a:Touch):Prop:=
 (qim Sh a.loc/\a.kind=.atomic)∨(Fz a.loc/\a.write=false/\a.kind=.plain)
def xZ(B:Nat)(x:MemAct):Prop:=∀ y,x.touch?=some y->y.loc.low B
structure jq(Sh:Nat->Prop)(Fz:Loc->Prop)(St:Nat->Loc->Prop)(Lf:Nat->Prop)(h B:Nat)(t:Trace):Prop where
 clean:∀ said,¬ Race said t
 known:∀ i a,touchAt t i=some a->a.loc.isMemory=true->Knows t h i∨qaE Sh Fz a
 wrote:∀ k,k≠h->∀ i a,touchAt t i=some a->St k a.loc->a.write=true->Knows t k i
 seen:∀ op∈t,xZ B op.act
 quiet:∀ i a,touchAt t i=some a->qim Sh a.loc->a.kind≠.plain
 sub:∀ k l,St k l->Fz l/\¬ qim Sh l/\l.isMemory=true
 over:∀ i k,t.g? i=some k->Lf k->t.counts i->Knows t h i
section
variable {Sh:Nat->Prop}{Fz:Loc->Prop}{St:Nat->Loc->Prop}{Lf:Nat->Prop}{h B:Nat}{t u:Trace}
theorem qbs{i:Nat}{a:Touch}(ha:touchAt (t++u) i=some a):(i < t.size/\touchAt t i=some a)∨(t.size<=i/\∃ op,op∈u/\(t++u)[i]?=some op/\op.act.touch?=some a):=by
 obtain⟨x,hx,hxa⟩:=touch_of ha;rcases getElem?_append_cases hx with ⟨hi,hx'⟩ | ⟨hi,hxu⟩
 . exact .inl ⟨hi,by rw [touchAt_of hx'];exact hxa⟩
 . exact .inr ⟨hi,x,hxu,hx,hxa⟩
theorem qo2{Lf:Nat->Prop}(H:∀ i k,t.g? i=some k->Lf k->t.counts i->Knows t h i)(hu:∀ op∈u,Lf op.g->op.act.touch?=none):∀ i k,(t++u).g? i=some k->Lf k->(t++u).counts i->Knows (t++u) h i:=by
 intro i k hg hL hc;obtain⟨x,hx,hm,hh⟩:=hc;rcases qbs hx with ⟨hi,hx'⟩ | ⟨_,op,hop,hy,hxa⟩
 . exact(H i k (by rw [g?_old hi] at hg;exact hg) hL ((counts_old hi).1 ⟨x,hx,hm,hh⟩)).app u
 . have:op.g=k:=by
     unfold Trace.g? at hg;rw [hy] at hg;exact Option.some.inj hg
   rw [hu op hop (this ▸ hL)] at hxa;cases hxa
theorem jq.mono{B':Nat}(H:jq Sh Fz St Lf h B t)(hB:B<=B'):jq Sh Fz St Lf h B' t:=⟨H.clean,H.known,H.wrote,fun op hop y hy=>Loc.low_mono hB (H.seen op hop y hy),H.quiet,H.sub,H.over⟩
theorem jq.own(H:jq Sh Fz St Lf h B t)(hLh:¬ Lf h)(hg:∀ op∈u,op.g=h)(ho:∀ op∈u,∀ x,op.act.touch?=some x->(qim Sh x.loc->x.kind≠.plain)/\(x.write=true->¬ Fz x.loc))(hl:∀ op∈u,xZ B op.act) :
   jq Sh Fz St Lf h B (t++u):=by
 refine⟨fun said=>noRace_append (H.clean said) hg (fun i a ha op hop b hb hc=>?_),fun i a ha hm=>?_,fun k hk i a ha hs hw=>?_,fun op hop=>(Array.mem_append.1 hop).elim (H.seen op) (hl op),fun i a ha hs=>?_,H.sub,qo2 H.over (fun op hop hL=>absurd (hg op hop ▸ hL) hLh)⟩
 . obtain⟨h1,h2⟩:=ho op hop b hb;rcases H.known i a ha hc.2.1 with hk | ⟨hs,hka⟩ | ⟨hf,hw,hk⟩
   . exact hk
   . exfalso;have:=h1 (hc.1 ▸ hs);obtain⟨_,_,_,hcase⟩:=hc;rw [hka] at hcase;rcases hcase with x | x | ⟨_,x,_⟩
     . cases x
     . exact this x
     . cases x
   . exfalso;obtain⟨e1,_,e2,_⟩:=hc;rcases e2 with x | x
     . rw [hw] at x;cases x
     . exact h2 x (e1 ▸ hf)
 . rcases qbs ha with ⟨hi,ha'⟩ | ⟨_,op,hop,hx,_⟩
   . exact(H.known i a ha' hm).imp (·.app u) id
   . have:=knows_own hx;rw [hg op hop] at this;exact .inl this
 . rcases qbs ha with ⟨hi,ha'⟩ | ⟨_,op,hop,_,hxa⟩
   . exact(H.wrote k hk i a ha' hs hw).app u
   . exact absurd (H.sub k _ hs).1 ((ho op hop a hxa).2 hw)
 . rcases qbs ha with ⟨hi,ha'⟩ | ⟨_,op,hop,_,hxa⟩
   . exact H.quiet i a ha' hs
   . exact(ho op hop a hxa).1 hs
theorem jq.by(H:jq Sh Fz St Lf h B t){k:Nat}(hk:k≠h)(hLk:¬ Lf k)(hg:∀ op∈u,op.g=k)(ho:∀ op∈u,∀ x,op.act.touch?=some x->St k x.loc/\x.write=false/\x.kind=.plain)(hl:∀ op∈u,xZ B op.act) :
   jq Sh Fz St Lf h B (t++u):=by
 refine⟨fun said=>noRace_append (H.clean said) hg (fun i a ha op hop b hb hc=>?_),fun i a ha hm=>?_,fun k' hk' i a ha hs hw=>?_,fun op hop=>(Array.mem_append.1 hop).elim (H.seen op) (hl op),fun i a ha hs=>?_,H.sub,qo2 H.over (fun op hop hL=>absurd (hg op hop ▸ hL) hLk)⟩
 . obtain⟨h1,h2,_⟩:=ho op hop b hb;obtain⟨e1,_,e2,_⟩:=hc;refine H.wrote k hk i a ha (e1 ▸ h1) (e2.elim id (fun x=>by rw [h2] at x;cases x))
 . rcases qbs ha with ⟨hi,ha'⟩ | ⟨_,op,hop,_,hxa⟩
   . exact(H.known i a ha' hm).imp (·.app u) id
   . obtain⟨h1,h2,h3⟩:=ho op hop a hxa;exact .inr (.inr ⟨(H.sub k _ h1).1,h2,h3⟩)
 . rcases qbs ha with ⟨hi,ha'⟩ | ⟨_,op,hop,_,hxa⟩
   . exact(H.wrote k' hk' i a ha' hs hw).app u
   . rw [(ho op hop a hxa).2.1] at hw;cases hw
 . rcases qbs ha with ⟨hi,ha'⟩ | ⟨_,op,hop,_,hxa⟩
   . exact H.quiet i a ha' hs
   . exact absurd hs (H.sub k _ (ho op hop a hxa).1).2.1
theorem jq.atomic(H:jq Sh Fz St Lf h B t){k:Nat}(hLk:¬ Lf k)(hg:∀ op∈u,op.g=k)(ho:∀ op∈u,∀ x,op.act.touch?=some x->qim Sh x.loc/\x.kind=.atomic)(hl:∀ op∈u,xZ B op.act) :
   jq Sh Fz St Lf h B (t++u):=by
 refine⟨fun said=>noRace_append (H.clean said) hg (fun i a ha op hop b hb hc=>?_),fun i a ha hm=>?_,fun k' hk' i a ha hs hw=>?_,fun op hop=>(Array.mem_append.1 hop).elim (H.seen op) (hl op),fun i a ha hs=>?_,H.sub,qo2 H.over (fun op hop hL=>absurd (hg op hop ▸ hL) hLk)⟩
 . exfalso;obtain⟨h1,h2⟩:=ho op hop b hb;have:=H.quiet i a ha (hc.1 ▸ h1);obtain⟨_,_,_,hcase⟩:=hc;rw [h2] at hcase;rcases hcase with x | x | ⟨_,_,x⟩
   . exact this x
   . cases x
   . cases x
 . rcases qbs ha with ⟨hi,ha'⟩ | ⟨_,op,hop,_,hxa⟩
   . exact(H.known i a ha' hm).imp (·.app u) id
   . obtain⟨h1,h2⟩:=ho op hop a hxa;exact .inr (.inl ⟨h1,h2⟩)
 . rcases qbs ha with ⟨hi,ha'⟩ | ⟨_,op,hop,_,hxa⟩
   . exact(H.wrote k' hk' i a ha' hs hw).app u
   . exact absurd (ho op hop a hxa).1 (H.sub k' _ hs).2.1
 . rcases qbs ha with ⟨hi,ha'⟩ | ⟨_,op,hop,_,hxa⟩
   . exact H.quiet i a ha' hs
   . rw [(ho op hop a hxa).2];simp
theorem jq.mute(H:jq Sh Fz St Lf h B t)(ho:∀ op∈u,op.act.touch?=none):jq Sh Fz St Lf h B (t++u):=by
 have nt:∀ {i a},touchAt (t++u) i=some a->i < t.size/\touchAt t i=some a:=fun {i a} ha=>by
   rcases qbs ha with h1 | ⟨_,op,hop,_,hxa⟩
   . exact h1
   . rw [ho op hop] at hxa;cases hxa
 refine⟨fun said=>?_,fun i a ha hm=>?_,fun k hk i a ha hs hw=>?_,fun op hop=>(Array.mem_append.1 hop).elim (H.seen op) (fun x y hy=>by rw [ho op x] at hy;cases hy),fun i a ha hs=>H.quiet i a (nt ha).2 hs,H.sub,qo2 H.over (fun op hop _=>ho op hop)⟩
 . rintro⟨i,j,hij,⟨a,b,ha,hb,hc⟩,n1,n2⟩;have h1:=nt ha;have h2:=nt hb;exact H.clean said ⟨i,j,hij,⟨a,b,h1.2,h2.2,hc⟩,fun e=>n1 (hb_app u e),fun e=>n2 (hb_app u e)⟩
 . exact(H.known i a (nt ha).2 hm).imp (·.app u) id
 . exact(H.wrote k hk i a (nt ha).2 hs hw).app u
theorem jq.more(H:jq Sh Fz St Lf h B t){Sh':Nat->Prop}{Fz':Loc->Prop}(h1:∀ r,Sh r->Sh' r)(h2:∀ r,Sh' r->Sh r∨B<=r)(h3:∀ l,Fz l->Fz' l)(h4:∀ k l,St k l->l.low B):jq Sh' Fz' St Lf h B t:=by
 have key:∀ l,l.low B->qim Sh' l->qim Sh l:=fun l hlow hs=>by
   cases l with
   | cell a=>exact(h2 _ hs).elim id (fun y=>absurd hlow (Nat.not_lt.2 y))
   | _=>exact hs.elim
 have low:∀ i a,touchAt t i=some a->a.loc.low B:=fun i a ha=>by
   obtain⟨x,hx,hxa⟩:=touch_of ha;exact H.seen x (Array.mem_of_getElem? hx) a hxa
 refine⟨H.clean,fun i a ha hm=>(H.known i a ha hm).imp id (Or.imp (fun x=>⟨?_,x.2⟩) (fun x=>⟨h3 _ x.1,x.2⟩)),H.wrote,H.seen,fun i a ha hs=>H.quiet i a ha (key _ (low i a ha) hs),fun k l hl=>⟨h3 _ (H.sub k l hl).1,fun hs=>(H.sub k l hl).2.1 (key l (h4 k l hl) hs),(H.sub k l hl).2.2⟩,H.over⟩
 . have hx:=x.1;cases hloc:a.loc with
   | cell b=>rw [hloc] at hx;exact h1 _ hx
   | _=>rw [hloc] at hx;exact hx.elim
end
section
variable {t u:Trace}
theorem qvo{g i:Nat}{y:MemOp}(hy:t[i]?=some y)(h1:y.act≠.mark .disable)(h2:y.act≠.mark .enable):t.deaf g (i+1)=t.deaf g i:=by
 rw [deaf_succ hy];unfold deafStep;split
 . rename_i h;exact absurd h h1
 . rename_i h;exact absurd h h2
 . rfl
theorem gAt{i:Nat}{y:MemOp}(h:t[i]?=some y){g:Nat}(hg:y.g=g):t.g? i=some g:=by simp [Trace.g?,h,hg]
theorem qk5{a b:Trace}{y:MemOp}(h:b[0]?=some y):(a++b)[a.size]?=some y:=by
 rw [Array.getElem?_append_right (Nat.le_refl _),Nat.sub_self];exact h
theorem qtt{a b:Trace}{i:Nat}{y:MemOp}(h:b[i]?=some y):(a++b)[a.size+i]?=some y:=by
 rw [Array.getElem?_append_right (Nat.le_add_right _ _),Nat.add_sub_cancel_left];exact h
theorem qnj{g p:Nat}:∀ n,(∀ i,i < n->∃ y,t[p+i]?=some y/\y.act≠.mark .disable/\y.act≠.mark .enable)->t.deaf g (p+n)=t.deaf g p
 | 0,_=>rfl
 | n+1,h=>by
   obtain⟨y,h1,h2,h3⟩:=h n (Nat.lt_succ_self n);rw [<-Nat.add_assoc,qvo h1 h2 h3];exact qnj n (fun i hi=>h i (by omega))
theorem qsu{h k c n:Nat}{a0 a1 a2 a3:MemOp}(e0:a0.g=h/\a0.act=.send c n)(e1:∃ r cap,a1.act=.recv c r cap)(e2:a2.act=.sendDone c n)(e3:a3.g=k/\a3.act=.recvDone c n)
   (dh:Deaf t h=0) (dk:Deaf t k=0) {i:Nat} (hk:Knows t h i):Knows (t++#[a0,a1,a2,a3]) k i:=by
 obtain⟨r,cap,e1⟩:=e1;have g0:(t++#[a0,a1,a2,a3])[t.size]?=some a0:=qk5 rfl;have g1:(t++#[a0,a1,a2,a3])[t.size+1]?=some a1:=qtt rfl;have g2:(t++#[a0,a1,a2,a3])[t.size+2]?=some a2:=qtt rfl;have g3:(t++#[a0,a1,a2,a3])[t.size+3]?=some a3:=qtt rfl;have d0:(t++#[a0,a1,a2,a3]).deaf h t.size=0:=by rw [deaf_old (Nat.le_refl _)];exact dh
 have d3:(t++#[a0,a1,a2,a3]).deaf k (t.size+3)=0:=by
   rw [qnj 3,deaf_old (Nat.le_refl _)]
   . exact dk
   . intro i hi
     match i,hi with
     | 0,_=>exact⟨a0,g0,by rw [e0.2];simp,by rw [e0.2];simp⟩
     | 1,_=>exact⟨a1,g1,by rw [e1];simp,by rw [e1];simp⟩
     | 2,_=>exact⟨a2,g2,by rw [e2];simp,by rw [e2];simp⟩
     | i+3,hi=>omega
 refine⟨t.size+3,a3,g3,e3.1,.inr ?_⟩;refine(hk.hb_new (Nat.le_refl _) g0 e0.1).trans (.single (.inr ⟨.handOver (c:=c) (k:=n) (by rw [act?_of g0,e0.2]) (by rw [act?_of g3,e3.2]),⟨h,gAt g0 e0.1,d0⟩,⟨k,gAt g3 e3.1,d3⟩⟩))
theorem q5y{h k:Nat}{a0 a1:MemOp}(e0:a0.g=h/\a0.act=.go k)(e1:a1.g=k/\a1.act=.start)(dh:Deaf t h=0)(dk:Deaf t k=0){i:Nat}(hk:Knows t h i):Knows (t++#[a0,a1]) k i:=by
 have g0:(t++#[a0,a1])[t.size]?=some a0:=qk5 rfl;have g1:(t++#[a0,a1])[t.size+1]?=some a1:=qtt rfl;have d0:(t++#[a0,a1]).deaf h t.size=0:=by rw [deaf_old (Nat.le_refl _)];exact dh
 have d1:(t++#[a0,a1]).deaf k (t.size+1)=0:=by
   rw [qvo g0 (by rw [e0.2];simp) (by rw [e0.2];simp),deaf_old (Nat.le_refl _)];exact dk
 refine⟨t.size+1,a1,g1,e1.1,.inr ?_⟩;refine(hk.hb_new (Nat.le_refl _) g0 e0.1).trans (.single (.inr ⟨.spawn (child:=k) (by rw [act?_of g0,e0.2]) (by rw [act?_of g1,e1.2]) (gAt g1 e1.1),⟨h,gAt g0 e0.1,d0⟩,⟨k,gAt g1 e1.1,d1⟩⟩))
structure zt(a:Addr)(t:Trace)(k p:Nat):Prop where
 act:t.act? p=some (.mark (.releaseMerge a))
 g:t.g? p=some k
 heard:t.heard p
theorem zt.lt{a:Addr}{k p:Nat}(h:zt a t k p):p < t.size:=lt_of_act? h.act
theorem zt.app{a:Addr}{k p:Nat}(h:zt a t k p)(u:Trace):zt a (t++u) k p:=⟨by rw [act?_old h.lt];exact h.act,by rw [g?_old h.lt];exact h.g,(heard_old h.lt).2 h.heard⟩
theorem q3h{a:Addr}{k:Nat}{y:MemOp}(hg:y.g=k)(hy:y.act=.mark (.releaseMerge a))(hd:Deaf t k=0):zt a (t++#[y]) k t.size:=by
 have g0:(t++#[y])[t.size]?=some y:=qk5 rfl;exact⟨by rw [act?_of g0,hy],gAt g0 hg,k,gAt g0 hg,by rw [deaf_old (Nat.le_refl _)];exact hd⟩
theorem qtu{a:Addr}{k p h:Nat}(hr:zt a t k p)(hn:∀ q,p < q->t.act? q≠some (.mark (.release a))){y:MemOp}(hg:y.g=h)(hy:y.act=.mark (.acquire a))(hd:Deaf t h=0){i:Nat}(hi:Before t i p):Knows (t++#[y]) h i:=by
 have g0:(t++#[y])[t.size]?=some y:=qk5 rfl;have hr':=hr.app #[y];refine⟨t.size,y,g0,hg,?_⟩;have e:HappensBefore (t++#[y]) p t.size:=.single (.inr ⟨.marked (a:=a) hr.lt (.inr hr'.act) (by rw [act?_of g0,hy]) (fun q h1 h2=>by rw [act?_old h2];exact hn q h1),hr'.heard,⟨h,gAt g0 hg,by rw [deaf_old (Nat.le_refl _)];exact hd⟩⟩);exact .inr ((hi.app #[y]).hb e)
end
end
section
open Go.Conc
open Go.ConcN (sumTo upd sumTo_upd upd_ne upd_same)
def vI(P:Program)(Post:Value->World->Prop)(gs:Array Goroutine)(w:World)(t:Trace):Prop:=
 ∀ sl,∃ N last o w' t',runNT P (N+1) (crowd gs w sl) t=(.ended o w',t')/\runN P N (crowd gs w sl)=.next last/\step P last=.ended o w'/\Good P Post last o w' t'
theorem qhn{P:Program}{Post:Value->World->Prop}{gs:Array Goroutine}{w:World}{t:Trace}(aw:∀ g∈gs,awake g)(some1:∃ (i:Nat) (g:Goroutine),gs[i]?=some g/\g.status=.running)
   (h:∀ i g d sl,gs[i]?=some g->g.status=.running->(∃ gs' w' sl' ops,runT P (crowd gs (w.at d) sl) i=(.next (crowd gs' w' sl'),ops)/\vI P Post gs' w' (t++ops)) ∨
     ∃ o w' ops,runT P (crowd gs (w.at d) sl) i=(.ended o w',ops)/\∀ sl₀,Good P Post (crowd gs w sl₀) o w' (t++ops)):vI P Post gs w t:=by
 intro sl;obtain⟨i,g,d,sl',hi,hr,hst⟩:=crowd_pick (P:=P) (w:=w) (sl:=sl) aw some1;rcases h i g d sl' hi hr with ⟨gs',w',sl2,ops,hs,hf⟩ | ⟨o,w',ops,hs,hg⟩
 . obtain⟨N,last,o,w2,t',h1,h2,h3,h4⟩:=hf sl2;have e:stepT P (crowd gs w sl)=(.next (crowd gs' w' sl2),ops):=hst.trans hs;exact⟨N+1,last,o,w2,t',by rw [runNT_succ_next e];exact h1,by rw [runN_succ_next e];exact h2,h3,h4⟩
 . have e:stepT P (crowd gs w sl)=(.ended o w',ops):=hst.trans hs;exact⟨0,crowd gs w sl,o,w',t++ops,by simp [runNT,e],rfl,by simp [step,e],hg sl⟩
def holds(L:List (Addr × Value))(w:World):Prop:=∀ x,x∈L->w.cell? x.1=some x.2
def StL(L:List (Addr × Value))(l:Loc):Prop:=∃ x,x∈L/\l=.cell x.1
def qpv(L:List (Addr × Value))(e:Event):Prop:=e.write=false/\e.sync=false/\StL L e.loc
structure jD where
 L:List (Addr × Value)
 fr:Frame
 cs:List Frame
 c:Nat
 z:Value
 ok:Bool
def qin(P:Program)(main:Bool)(s:jD):Prop:=∃ es,(∀ w,holds s.L w->stepG P main (G s.fr s.cs) w=.comm (G s.fr s.cs) #[rcase s.c s.z] true (.recv s.ok) w es)/\∀ e,e∈es->qpv s.L e
def Way(P:Program)(main:Bool)(s:jD):Nat->Goroutine->Prop
 | 0,_=>False
 | n+1,g=>(g=G s.fr s.cs/\qin P main s)∨(g.status=.running/\∃ g' es,(∀ w,holds s.L w->stepG P main g w=.go g' w es)/\(∀ e,e∈es->qpv s.L e)/\Way P main s n g')
inductive q8 where
 | left
 | seat (s:jD)
def qf3(s:jD):Goroutine:=parked (G s.fr s.cs) #[rcase s.c s.z] (.recv s.ok)
def kJ(P:Program)(main:Bool):q8->Nat->Nat->Goroutine->Prop
 | .left,q,d,g=>main=false/\QuitsD P q d g
 | .seat s,q,d,g=>d=0/\((q=0/\g=qf3 s)∨Way P main s q g)
def StT(T:Nat->q8)(n h:Nat)(k:Nat)(l:Loc):Prop:=k≠h/\k < n/\∃ s,T k=.seat s/\StL s.L l
def LfT(T:Nat->q8)(h:Nat)(k:Nat):Prop:=k≠h/\T k=.left
structure q9(P:Program)(Sh:Nat->Prop)(Fz:Loc->Prop)(T:Nat->q8)(n h dd:Nat)(g:Goroutine)(w:World)(gs:Array Goroutine)(t:Trace)(q:Nat->Nat):Prop where
 size:gs.size=n
 here:gs[h]?=some g
 ja:∀ i x,i≠h->gs[i]?=some x->kJ P (i == 0) (T i) (q i) (Deaf t i) x
 fact:∀ i s,i≠h->i < n->T i=.seat s->holds s.L w/\∃ k,w.heap[s.c]?=some (.chan 0 #[] false k k false)
 apart:∀ i j s s',i≠h->j≠h->i < n->j < n->T i=.seat s->T j=.seat s'->s.c=s'.c->i=j
 jr:jq Sh Fz (StT T n h) (LfT T h) h w.heap.size t
 deaf:Deaf t h=dd
 above:∀ j,n<=j->Deaf t j=0
section
variable {P:Program}{Sh:Nat->Prop}{Fz:Loc->Prop}{T:Nat->q8}{n h dd:Nat}{g:Goroutine}{w:World}{gs:Array Goroutine}{t:Trace}{q:Nat->Nat}
theorem Way.running{main:Bool}{s:jD}{m:Nat}{x:Goroutine}(hw:Way P main s m x):x.status=.running:=by
 cases m with
 | zero=>exact hw.elim
 | succ m=>rcases hw with ⟨rfl,_⟩ | ⟨h1,_⟩ <;> first | rfl | exact h1
theorem kJ.status{main:Bool}{r:q8}{m d:Nat}{x:Goroutine}(hs:kJ P main r m d x):x.status=.running∨x.status=.blocked∨x.status=.finished:=by
 cases r with
 | left=>exact hs.2.status.elim .inl (fun y=>.inr (.inr y))
 | seat s=>
   rcases hs.2 with ⟨_,rfl⟩ | hw
   . exact .inr (.inl rfl)
   . exact .inl hw.running
theorem q9.lt(H:q9 P Sh Fz T n h dd g w gs t q){i:Nat}{x:Goroutine}(hx:gs[i]?=some x):i < n:=by rw [<-H.size];exact(Array.getElem?_eq_some_iff.1 hx).1
theorem q9.awake(H:q9 P Sh Fz T n h dd g w gs t q)(hg:awake g):∀ x∈gs,awake x:=by
 intro x hx;obtain⟨i,hi⟩:=Array.mem_iff_getElem?.1 hx;by_cases h0:i=h
 . subst h0;rw [H.here] at hi;cases hi;exact hg
 . exact awake_of (H.ja i x h0 hi).status
theorem q9.at(H:q9 P Sh Fz T n h dd g w gs t q)(d:Nat):q9 P Sh Fz T n h dd g (w.at d) gs t q:=⟨H.size,H.here,H.ja,H.fact,H.apart,H.jr,H.deaf,H.above⟩
theorem q9.again(H:q9 P Sh Fz T n h dd g w gs t q)(d:Nat){i:Nat}{x:Goroutine}(hi:i≠h)(hx:gs[i]?=some x):x.again (w.at d)=x:=by
 have hs:=H.ja i x hi hx;have hlt:=H.lt hx;cases hT:T i with
 | left=>rw [hT] at hs;exact again_running _ hs.2.status
 | seat s=>
   rw [hT] at hs;rcases hs.2 with ⟨_,rfl⟩ | hw
   . obtain⟨_,k,hc⟩:=H.fact i s hi hlt hT;exact again_parked_open (k:=rcase s.c s.z) (c:=s.c) (s:=k) (r:=k) (tm:=false) rfl hc
   . exact again_running _ (.inl hw.running)
theorem q9.woken(H:q9 P Sh Fz T n h dd g w gs t q)(d:Nat)(hg:g.again (w.at d)=g)(x g':Goroutine){j:Nat}{y:Goroutine}(hy:gs[j]?=some y):Go.Conc.woken P x g' (w.at d) y=y:=by
 unfold Go.Conc.woken;split
 . by_cases hj:j=h
   . subst hj;rw [H.here] at hy;cases hy;exact hg
   . exact H.again d hj hy
 . rfl
theorem qbn(gs:Array Goroutine)(i j:Nat)(y:Goroutine)(hlt:i < gs.size):(gs.setIfInBounds i y)[j]?=if i=j then some y else gs[j]?:=by
 by_cases hij:i=j
 . subst hij;rw [if_pos rfl,Array.getElem?_setIfInBounds_self_of_lt hlt]
 . rw [if_neg hij,Array.getElem?_setIfInBounds_ne hij]
theorem q9.zu(H:q9 P Sh Fz T n h dd g w gs t q)(d:Nat)(hg:g.again (w.at d)=g)(x g':Goroutine){i:Nat}(hlt:i < gs.size):(gs.map (Go.Conc.woken P x g' (w.at d))).setIfInBounds i g'=gs.setIfInBounds i g':=by
 apply Array.ext_getElem?;intro j;rw [qbn _ _ _ _ (by simpa using hlt),qbn _ _ _ _ hlt];split
 . rfl
 . rw [Array.getElem?_map];cases hy:gs[j]? with
   | none=>rfl
   | some y=>simp [H.woken d hg x g' hy]
theorem qtv{L:List (Addr × Value)}{fn:FuncId}{pos:String}{i B:Nat}{es:Array Event}(he:∀ e,e∈es->qpv L e)(hB:∀ l,StL L l->l.low B) :
   (∀ op∈MemOp.ofEvents i fn pos es,op.g=i)/\(∀ op∈MemOp.ofEvents i fn pos es,∀ x,op.act.touch?=some x->StL L x.loc/\x.write=false/\x.kind=.plain)/\(∀ op∈MemOp.ofEvents i fn pos es,xZ B op.act)/\∀ d,deafBehind d es=d:=by
 refine⟨fun op hop=>?_,fun op hop x hx=>?_,fun op hop=>?_,fun d=>deafBehind_still (fun e hee=>?_) d⟩
 . obtain⟨e,_,rfl⟩:=Go.Conc.mem_ofEvents hop;rfl
 . obtain⟨e,hee,rfl⟩:=Go.Conc.mem_ofEvents hop;obtain⟨h1,h2,y,hy,h3⟩:=he e hee;obtain⟨loc,wr,sy⟩:=e;cases h1;cases h2;cases h3;cases hx;exact⟨⟨y,hy,rfl⟩,rfl,rfl⟩
 . obtain⟨e,hee,rfl⟩:=Go.Conc.mem_ofEvents hop;obtain⟨h1,h2,y,hy,h3⟩:=he e hee;obtain⟨loc,wr,sy⟩:=e;cases h1;cases h2;cases h3;intro z hz;cases hz;exact hB _ ⟨y,hy,rfl⟩
 . obtain⟨h1,h2,y,hy,h3⟩:=he e hee;rw [h3];exact⟨(fun e=>by cases e),(fun e=>by cases e)⟩
theorem qio{L:List (Addr × Value)}(hL:holds L w):∀ l,StL L l->l.low w.heap.size:=by
 rintro l ⟨x,hx,rfl⟩;have:=hL x hx;show x.1.block < w.heap.size;unfold World.cell? at this;split at this
 . rename_i hb;exact(Array.getElem?_eq_some_iff.1 hb).1
 . cases this
theorem q9.vm(H:q9 P Sh Fz T n h dd g w gs t q){i:Nat}{x:Goroutine}(hi:i≠h)(hx:gs[i]?=some x)(hr:x.status=.running)(d:Nat)(sl:Option (Nat × Nat))(hg:g.again (w.at d)=g)
   (ho:∀ s,T i=.seat s->x=G s.fr s.cs->qin P (i == 0) s->offersAt g s.c true=[]) :
   ∃ gs' ops q',runT P (crowd gs (w.at d) sl) i=(.next (crowd gs' (w.at d) sl),ops)/\q9 P Sh Fz T n h dd g (w.at d) gs' (t++ops) q'/\sumTo n q' < sumTo n q /\
     (∀ j,j≠i->gs'[j]?=gs[j]?)/\∀ s,T i=.seat s->x.status=.running->¬ (x=G s.fr s.cs/\qin P (i == 0) s)->∃ x',gs'[i]?=some x'/\x'.status=.running:=by
 have hlt:=H.lt hx;have hsz:i < gs.size:=by rw [H.size];exact hlt
 have hs:=H.ja i x hi hx
 have build:∀ (x':Goroutine) (m':Nat) (u:Trace),(∀ op∈u,op.g=i)->kJ P (i == 0) (T i) m' (Deaf (t++u) i) x'->jq Sh Fz (StT T n h) (LfT T h) h w.heap.size (t++u)->q9 P Sh Fz T n h dd g (w.at d) (gs.setIfInBounds i x') (t++u) (upd q i m'):=by
   intro x' m' u hu hs' hh;refine⟨by simp [H.size],?_,fun j y hj hy=>?_,H.fact,H.apart,hh,by rw [Deaf_other t hi u hu];exact H.deaf,fun j hj=>by rw [Deaf_other t (by omega) u hu];exact H.above j hj⟩
   . rw [qbn _ _ _ _ hsz,if_neg hi];exact H.here
   . rw [qbn _ _ _ _ hsz] at hy;split at hy
     . rename_i e;subst e;cases hy;rw [upd_same];exact hs'
     . rename_i e;rw [upd_ne q m' (fun e'=>e e'.symm),Deaf_other t e u hu];exact H.ja j y hj hy
 have less:∀ m',m' < q i->sumTo n (upd q i m') < sumTo n q:=fun m' hm=>by
   have:=sumTo_upd q m' id hlt;have a1:(sumTo n fun a=>id (upd q i m' a))=sumTo n (upd q i m'):=rfl;have a2:(sumTo n fun a=>id (q a))=sumTo n q:=rfl;rw [a1,a2] at this;simp only [id] at this;omega
 have rest:∀ x' j,j≠i->(gs.setIfInBounds i x')[j]?=gs[j]?:=fun x' j hj=>by rw [qbn _ _ _ _ hsz,if_neg (fun e=>hj e.symm)]
 have own:∀ x',(gs.setIfInBounds i x')[i]?=some x':=fun x'=>by rw [qbn _ _ _ _ hsz,if_pos rfl]
 cases hT:T i with
 | left=>
   rw [hT] at hs;obtain⟨h0,hq⟩:=hs;cases hqi:q i with
   | zero=>rw [hqi] at hq;rw [hq.1] at hr;cases hr
   | succ m=>
     rw [hqi] at hq;rcases hq with ⟨hf,_⟩ | ⟨_,g',es,hm,hst,hq'⟩
     . rw [hf] at hr;cases hr
     . have hrun:=runT_crowd_go (P:=P) (sl:=sl) (i:=i) hx (by rw [h0];exact hst (w.at d));rw [H.zu d hg x g' hsz] at hrun;refine⟨_,_,upd q i m,hrun,build g' m _ (fun op hop=>by obtain⟨e,_,rfl⟩:=Go.Conc.mem_ofEvents hop;rfl) ?_ (H.jr.mute (fun op hop=>by obtain⟨e,he,rfl⟩:=Go.Conc.mem_ofEvents hop;exact touch_mute (hm e he))),less m (by omega),rest g',fun s e=>by cases e⟩;rw [hT,Deaf_own];exact⟨h0,hq'⟩
 | seat s=>
   rw [hT] at hs;obtain⟨h0,hs⟩:=hs;obtain⟨hL,k,hc⟩:=H.fact i s hi hlt hT;have hst:∀ l,StL s.L l->StT T n h i l:=fun l hl=>⟨hi,hlt,s,hT,hl⟩;rcases hs with ⟨_,rfl⟩ | hw
   . cases hr
   . cases hqi:q i with
     | zero=>rw [hqi] at hw;exact hw.elim
     | succ m=>
       rw [hqi] at hw;rcases hw with ⟨rfl,hcomm⟩ | ⟨_,g',es,hgo,hes,hw'⟩
       . have hoff:=ho s hT rfl hcomm;obtain⟨es,hstep,hes⟩:=hcomm
         have hpn:partners (gs.setIfInBounds i ph) s.c true=[]:=partners_nil (fun j y hy=>by
           rcases getElem?_stand gs i j y hy with ⟨_,rfl⟩ | ⟨hji,hy'⟩
           . exact offersAt_ph _ _
           . by_cases hjh:j=h
             . subst hjh;rw [H.here] at hy';cases hy';exact hoff
             . have hsj:=H.ja j y hjh hy';cases hTj:T j with
               | left=>rw [hTj] at hsj;exact offersAt_of_not_blocked (by rcases hsj.2.status with e | e <;> rw [e] <;> simp) _ _
               | seat s'=>
                 rw [hTj] at hsj;rcases hsj.2 with ⟨_,rfl⟩ | hw'
                 . exact offersAt_parked_recv' _ _ _ _ _
                 . exact offersAt_of_not_blocked (by rw [hw'.running];simp) _ _)
         have hrun:=crowd_waits (P:=P) (sl:=sl) (w₁:=w.at d) hx (hstep (w.at d) hL) (fun cc hcc=>by
           have:cc=rcase s.c s.z:=by simpa using hcc
           subst this;exact ways_recv_none (s:=k) (r:=k) (tm:=false) hc hpn)
         have⟨r1,r2,r3,r4⟩:=qtv (i:=i) (fn:=(G s.fr s.cs).frame.fn) (pos:=(G s.fr s.cs).frame.place) hes (qio hL);refine⟨_,_,upd q i 0,hrun,build _ 0 _ r1 ?_ (H.jr.by hi (fun y=>by rw [y.2] at hT;cases hT) r1 (fun op hop y hy=>⟨hst _ (r2 op hop y hy).1,(r2 op hop y hy).2⟩) r3),less 0 (by omega),rest _,fun s' e _ hn=>by cases e;exact absurd ⟨rfl,⟨es,hstep,hes⟩⟩ hn⟩;rw [hT,Deaf_own,r4];exact⟨h0,.inl ⟨rfl,rfl⟩⟩
       . have hrun:=runT_crowd_go (P:=P) (sl:=sl) (i:=i) hx (hgo (w.at d) hL);rw [H.zu d hg x g' hsz] at hrun;have⟨r1,r2,r3,r4⟩:=qtv (i:=i) (fn:=x.frame.fn) (pos:=x.frame.place) hes (qio hL);refine⟨_,_,upd q i m,hrun,build _ m _ r1 ?_ (H.jr.by hi (fun y=>by rw [y.2] at hT;cases hT) r1 (fun op hop y hy=>⟨hst _ (r2 op hop y hy).1,(r2 op hop y hy).2⟩) r3),less m (by omega),rest g',fun _ _ _ _=>⟨g',own g',hw'.running⟩⟩;rw [hT,Deaf_own,r4];exact⟨h0,.inr hw'⟩
end
def jH(P:Program)(Post:Value->World->Prop)(Sh:Nat->Prop)(Fz:Loc->Prop)(T:Nat->q8)(n h dd:Nat)(g:Goroutine)(w:World):Prop:=
 ∀ gs t q,q9 P Sh Fz T n h dd g w gs t q->vI P Post gs w t
def qk6(Sh:Nat->Prop)(Fz:Loc->Prop)(B:Nat)(e:Event):Prop:=
 (∀ x,(MemAct.ofEvent e).touch?=some x->(qim Sh x.loc->x.kind≠.plain)/\(x.write=true->¬ Fz x.loc))/\xZ B (MemAct.ofEvent e)
structure zD(Sh:Nat->Prop)(Fz:Loc->Prop)(T:Nat->q8)(n h:Nat)(w w':World)(es:Array Event):Prop where
 fact:∀ i s,i≠h->i < n->T i=.seat s->holds s.L w'/\w'.heap[s.c]?=w.heap[s.c]?
 evs:∀ e,e∈es->qk6 Sh Fz w'.heap.size e
 size:w.heap.size<=w'.heap.size
section
variable {P:Program}{Post:Value->World->Prop}{Sh:Nat->Prop}{Fz:Loc->Prop}{T:Nat->q8}{n h dd:Nat}{g:Goroutine}{w:World}{gs:Array Goroutine}{t:Trace}{q:Nat->Nat}
theorem jq.events{St:Nat->Loc->Prop}{Lf:Nat->Prop}{B:Nat}(H:jq Sh Fz St Lf h B t)(hLh:¬ Lf h){es:Array Event}{fn:FuncId}{pos:String}(he:∀ e,e∈es->qk6 Sh Fz B e):jq Sh Fz St Lf h B (t++MemOp.ofEvents h fn pos es):=
 H.own hLh (fun op hop=>by obtain⟨e,_,rfl⟩:=Go.Conc.mem_ofEvents hop;rfl) (fun op hop x hx=>by obtain⟨e,hee,rfl⟩:=Go.Conc.mem_ofEvents hop;exact(he e hee).1 x hx) (fun op hop=>by obtain⟨e,hee,rfl⟩:=Go.Conc.mem_ofEvents hop;exact(he e hee).2)
theorem qcr{i:Nat}{fn:FuncId}{pos:String}{es:Array Event}:∀ op∈MemOp.ofEvents i fn pos es,op.g=i:=fun op hop=>by obtain⟨e,_,rfl⟩:=Go.Conc.mem_ofEvents hop;rfl
theorem q9.stepped(H:q9 P Sh Fz T n h dd g w gs t q){g':Goroutine}{w':World}{es:Array Event}{fn:FuncId}{pos:String}(ho:zD Sh Fz T n h w w' es) :
   q9 P Sh Fz T n h (deafBehind dd es) g' w' (gs.setIfInBounds h g') (t++MemOp.ofEvents h fn pos es) q:=by
 have hsz:h < gs.size:=(Array.getElem?_eq_some_iff.1 H.here).1;refine⟨by simp [H.size],by rw [qbn _ _ _ _ hsz,if_pos rfl],fun j y hj hy=>?_,fun i s hi hin hT=>?_,H.apart,(H.jr.mono ho.size).events (fun y=>y.1 rfl) ho.evs,by rw [Deaf_own,H.deaf],fun j hj=>?_⟩
 . rw [qbn _ _ _ _ hsz,if_neg (fun e=>hj e.symm)] at hy;rw [Deaf_other t (fun e=>hj e.symm) _ qcr];exact H.ja j y hj hy
 . obtain⟨h1,h2⟩:=ho.fact i s hi hin hT;obtain⟨_,k,hc⟩:=H.fact i s hi hin hT;exact⟨h1,k,h2.trans hc⟩
 . have:h < n:=by rw [<-H.size];exact hsz
   rw [Deaf_other t (by omega) _ qcr];exact H.above j hj
theorem q9.again'(H:q9 P Sh Fz T n h dd g w gs t q){w':World}(hc:∀ i s,i≠h->i < n->T i=.seat s->w'.heap[s.c]?=w.heap[s.c]?){i:Nat}{x:Goroutine}(hi:i≠h)(hx:gs[i]?=some x):x.again w'=x:=by
 have hs:=H.ja i x hi hx;have hlt:=H.lt hx;cases hT:T i with
 | left=>rw [hT] at hs;exact again_running _ hs.2.status
 | seat s=>
   rw [hT] at hs;rcases hs.2 with ⟨_,rfl⟩ | hw
   . obtain⟨_,k,hk⟩:=H.fact i s hi hlt hT;exact again_parked_open (k:=rcase s.c s.z) (c:=s.c) (s:=k) (r:=k) (tm:=false) rfl ((hc i s hi hlt hT).trans hk)
   . exact again_running _ (.inl hw.running)
theorem q9.vn(H:q9 P Sh Fz T n h dd g w gs t q){w':World}(hc:∀ i s,i≠h->i < n->T i=.seat s->w'.heap[s.c]?=w.heap[s.c]?)(g':Goroutine):(gs.map (Go.Conc.woken P g g' w')).setIfInBounds h g'=gs.setIfInBounds h g':=by
 have hsz:h < gs.size:=(Array.getElem?_eq_some_iff.1 H.here).1;apply Array.ext_getElem?;intro j;rw [qbn _ _ _ _ (by simpa using hsz),qbn _ _ _ _ hsz];split
 . rfl
 . rename_i hj;rw [Array.getElem?_map];cases hy:gs[j]? with
   | none=>rfl
   | some y=>
     have:Go.Conc.woken P g g' w' y=y:=by
       unfold Go.Conc.woken;split
       . exact H.again' hc (fun e=>hj e.symm) hy
       . rfl
     simp [this]
theorem zD.chan{w':World}{es:Array Event}(ho:zD Sh Fz T n h w w' es):∀ i s,i≠h->i < n->T i=.seat s->w'.heap[s.c]?=w.heap[s.c]?:=fun i s hi hn hT=>(ho.fact i s hi hn hT).2
theorem qpw(hs:g.status=.running)(step:∀ d gs t q,q9 P Sh Fz T n h dd g (w.at d) gs t q->∀ sl,
     (∃ gs' w' sl' ops,runT P (crowd gs (w.at d) sl) h=(.next (crowd gs' w' sl'),ops)/\vI P Post gs' w' (t++ops))∨∃ o w' ops,runT P (crowd gs (w.at d) sl) h=(.ended o w',ops)/\∀ w₀ sl₀,Good P Post (crowd gs w₀ sl₀) o w' (t++ops)) :
   jH P Post Sh Fz T n h dd g w:=by
 have key:∀ m d gs t q,sumTo n q=m->q9 P Sh Fz T n h dd g (w.at d) gs t q->vI P Post gs (w.at d) t:=by
   intro m
   induction m using Nat.strongRecOn with
   | _ m ih=>
     intro d gs t q hm H;refine qhn (H.awake (fun tm e=>by rw [hs] at e;cases e)) ⟨h,g,H.here,hs⟩ (fun i x d' sl hx hr=>?_);by_cases hi:i=h
     . subst hi;rw [H.here] at hx;cases hx;rcases step d' gs t q (H.at d') sl with h1 | ⟨o,w',ops,h1,h2⟩
       . exact .inl h1
       . exact .inr ⟨o,w',ops,h1,fun sl₀=>h2 _ sl₀⟩
     . left;obtain⟨gs',ops,q',h1,h2,h3,_⟩:=H.vm hi hx hr d' sl (again_running _ (.inl hs)) (fun s _ _ _=>offersAt_of_not_blocked (by rw [hs];simp) _ _);exact⟨gs',_,sl,ops,h1,ih _ (by omega) d' gs' _ q' rfl h2⟩
 intro gs t q H;have:=key _ w.drawn gs t q rfl (H.at w.drawn);exact this
theorem qtw(hs:g.status=.running)(step:∀ d,∃ g' w' es,stepG P (h == 0) g (w.at d)=.go g' w' es/\zD Sh Fz T n h (w.at d) w' es/\jH P Post Sh Fz T n h (deafBehind dd es) g' w'):jH P Post Sh Fz T n h dd g w:=by
 refine qpw hs (fun d gs t q H sl=>?_);obtain⟨g',w',es,h1,h2,h3⟩:=step d;have hrun:=runT_crowd_go (P:=P) (sl:=sl) H.here h1;rw [H.vn h2.chan g'] at hrun;exact .inl ⟨_,w',sl,_,hrun,h3 _ _ _ (H.stepped h2)⟩
theorem q5z(hs:g.status=.running)(hl:∀ i,i < n->i≠0->T i=.left)(hout:∀ i,n<=i->T i=.left)
   (step:∀ d,∃ v w' es,stepG P true g (w.at d)=.ended (.done v) w' es/\(∀ e,e∈es->qk6 Sh Fz w.heap.size e)/\Post v w'):jH P Post Sh Fz T n 0 0 g w:=by
 refine qpw hs (fun d gs t q H sl=>?_);obtain⟨v,w',es,h1,h2,h3⟩:=step d;refine .inr ⟨.done v,w',_,runT_many_ended H.here h1,fun w₀ sl₀=>?_⟩;have hh:=H.jr.events (fun y=>y.1 rfl) (fn:=g.frame.fn) (pos:=g.frame.place) h2;generalize hu:MemOp.ofEvents 0 g.frame.fn g.frame.place es=u at hh;have hg:∀ op∈u,op.g=0:=by rw [<-hu];exact qcr
 refine⟨v,rfl,h3,hh.clean,?_,⟨?_,rfl⟩,?_⟩
 . intro i k hgi hk hc;have hlt:k < n∨n<=k:=Nat.lt_or_ge k n;have hL:LfT T 0 k:=⟨hk,hlt.elim (fun h1=>hl k h1 hk) (fun h1=>hout k h1)⟩;obtain⟨p,z,hz,hzg,hb⟩:=hh.over i k hgi hL hc;refine⟨p,by simp [Trace.g?,hz,hzg],?_⟩;rcases hb with rfl | hb
   . exfalso;rw [show (t++u).g? i=some z.g from by simp [Trace.g?,hz]] at hgi;cases hgi;exact hk hzg
   . exact hb
 . intro x hx;obtain⟨i,hi⟩:=List.getElem?_of_mem hx;rw [List.getElem?_drop] at hi;have hxi:gs[1+i]?=some x:=by rw [<-Array.getElem?_toList];exact hi
   have hsx:=H.ja (1+i) x (by omega) hxi;rw [hl _ (H.lt hxi) (by omega)] at hsx;exact⟨_,hsx.2.leaves⟩
 . intro i x hxi hi0;have hsx:=H.ja i x hi0 hxi;rw [hl _ (H.lt hxi) hi0] at hsx;refine⟨q i,?_⟩;have e:(t++u).deaf i (t++u).size=Deaf t i:=Deaf_other t (fun e=>hi0 e.symm) u hg;rw [e];exact hsx.2.hears _
theorem jq.grow{St St':Nat->Loc->Prop}{Lf Lf':Nat->Prop}{B c:Nat}{u:Trace}(H:jq Sh Fz St Lf h B t)(ho:∀ op∈u,op.act.touch?=none)(hk:∀ i,Knows t h i->Knows (t++u) c i)(hs:∀ j,j≠h->j≠c->∀ l,St' j l->St j l)
   (hf:∀ j l,St' j l->Fz l/\¬ qim Sh l/\l.isMemory=true) (hlf:∀ j,Lf' j->Lf j):jq Sh Fz St' Lf' h B (t++u):=by
 have hm:=H.mute ho;refine⟨hm.clean,hm.known,fun j hj i a ha hs' hw=>?_,hm.seen,hm.quiet,hf,fun i j hg hL hc=>hm.over i j hg (hlf j hL) hc⟩;rcases qbs ha with ⟨_,ha'⟩ | ⟨_,op,hop,_,hxa⟩
 . by_cases hjc:j=c
   . subst hjc;rcases H.known i a ha' (hf j _ hs').2.2 with h1 | ⟨h1,_⟩ | ⟨_,h1,_⟩
     . exact hk i h1
     . exact absurd h1 (hf j _ hs').2.1
     . rw [h1] at hw;cases hw
   . exact(H.wrote j hj i a ha' (hs j hj hjc _ hs') hw).app u
 . rw [ho op hop] at hxa;cases hxa
theorem qsv{L:List (Addr × Value)}{l:Loc}(h:StL L l):l.isMemory=true:=by obtain⟨x,_,rfl⟩:=h;rfl
theorem q7p(hs:g.status=.running)(step:∀ d,∃ g' child w' es,stepG P (h == 0) g (w.at d)=.spawn g' child w' es/\zD Sh Fz T n h (w.at d) w' es/\deafBehind 0 es=0/\∃ s m κ,holds s.L w'/\w'.heap[s.c]?=some (.chan 0 #[] false κ κ false) /\
     (∀ i s',i≠h->i < n->T i=.seat s'->s'.c≠s.c)/\Way P false s m child/\(∀ l,StL s.L l->Fz l/\¬ qim Sh l)/\jH P Post Sh Fz (upd T n (.seat s)) (n+1) h 0 g' w'):jH P Post Sh Fz T n h 0 g w:=by
 refine qpw hs (fun d gs t q H sl=>?_);obtain⟨g',child,w',es,h1,h2,h3,s,m,κ,h4,h5,h6,h7,h8,h9⟩:=step d;have hsz:h < gs.size:=(Array.getElem?_eq_some_iff.1 H.here).1;have hhn:h < n:=by rw [<-H.size];exact hsz
 have hrun:=runT_crowd_spawn (P:=P) (sl:=sl) H.here h1;refine .inl ⟨_,w',sl,_,hrun,h9 _ _ (upd q n m) ?_⟩;have H1:=H.stepped (g':=g') (fn:=g.frame.fn) (pos:=g.frame.place) h2;rw [h3] at H1;generalize hu:MemOp.ofEvents h g.frame.fn g.frame.place es=u at H1;have hops:∀ (a b:MemOp),t++(u.push a |>.push b)=(t++u)++#[a,b]:=fun a b=>by apply Array.ext';simp
 rw [hops,H.size];generalize ha0:({ g:=h,fn:=g.frame.fn,pos:=g.frame.place,act:=.go n }:MemOp)=a0;generalize ha1:({ g:=n,fn:=child.frame.fn,pos:=g.frame.place,act:=.start }:MemOp)=a1;have e0:a0.g=h/\a0.act=.go n:=by subst ha0;exact⟨rfl,rfl⟩
 have e1:a1.g=n/\a1.act=.start:=by subst ha1;exact⟨rfl,rfl⟩
 have still:∀ j,Deaf ((t++u)++#[a0,a1]) j=Deaf (t++u) j:=fun j=>by
   have:((t++u)++#[a0,a1])=(t++u)++[a0,a1].toArray:=rfl;rw [this,Deaf_append];simp only [List.foldl_cons,List.foldl_nil,deafStep,e0.2,e1.2]
 have mt:∀ op∈(#[a0,a1]:Trace),op.act.touch?=none:=fun op hop=>by
   have:op=a0∨op=a1:=by simpa using hop
   rcases this with rfl | rfl
   . rw [e0.2];rfl
   . rw [e1.2];rfl
 refine⟨by simp [H.size],?_,fun j y hj hy=>?_,fun i s' hi hin hT=>?_,fun i j s1 s2 hi hj hin hjn hT1 hT2 hcc=>?_,H1.jr.grow (c:=n) mt (fun i hi=>q5y e0 e1 H1.deaf (H1.above n (Nat.le_refl _)) hi) (fun j hj hjn l hl=>?_) (fun j l hl=>?_) (fun j hj=>⟨hj.1,?_⟩),by rw [still];exact H1.deaf,fun j hj=>by rw [still];exact H1.above j (by omega)⟩
 . rw [Array.getElem?_push];rw [if_neg (by simp;omega)];rw [qbn _ _ _ _ hsz,if_pos rfl]
 . rw [Array.getElem?_push] at hy;rw [still];split at hy
   . rename_i hjs;cases hy;have hjn:j=n:=by rw [hjs];simp [H.size]
     subst hjn;rw [upd_same,upd_same];exact⟨H1.above j (Nat.le_refl _),.inr (by rw [show (j == 0)=false from by simp;omega];exact h7)⟩
   . have hlt:j < n:=by
       have:=(Array.getElem?_eq_some_iff.1 hy).1;rw [<-H.size];simpa using this
     rw [upd_ne T _ (by omega),upd_ne q _ (by omega)];exact H1.ja j y hj hy
 . by_cases za:i=n
   . subst za;rw [upd_same] at hT;cases hT;exact⟨h4,κ,h5⟩
   . rw [upd_ne T _ za] at hT;exact H1.fact i s' hi (by omega) hT
 . by_cases hi':i=n
   . subst hi';rw [upd_same] at hT1;cases hT1;by_cases hj':j=i
     . exact hj'.symm
     . rw [upd_ne T _ hj'] at hT2;exact absurd hcc.symm (h6 j s2 hj (by omega) hT2)
   . rw [upd_ne T _ hi'] at hT1;by_cases hj':j=n
     . subst hj';rw [upd_same] at hT2;cases hT2;exact absurd hcc (h6 i s1 hi (by omega) hT1)
     . rw [upd_ne T _ hj'] at hT2;exact H.apart i j s1 s2 hi hj (by omega) (by omega) hT1 hT2 hcc
 . obtain⟨k1,k2,s',k3,k4⟩:=hl;rw [upd_ne T _ hjn] at k3;exact⟨k1,by omega,s',k3,k4⟩
 . obtain⟨k1,k2,s',k3,k4⟩:=hl;by_cases hjn:j=n
   . subst hjn;rw [upd_same] at k3;cases k3;exact⟨(h8 l k4).1,(h8 l k4).2,qsv k4⟩
   . rw [upd_ne T _ hjn] at k3;exact H.jr.sub j l ⟨k1,by omega,s',k3,k4⟩
 . obtain⟨_,k2⟩:=hj;by_cases hjn:j=n
   . subst hjn;rw [upd_same] at k2;cases k2
   . rw [upd_ne T _ hjn] at k2;exact k2
end
end
end Go.Proofs.YtacemdoejblgaaaGreatDoor

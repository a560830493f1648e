/- Part 18. Conditions: each statement's. -/
import Derived.Test.YtacemdoejblgaaaGreatDoorM03
import Derived.Deep.RegionHeld3
import Derived.Test.YtacemdoejblgaaaGreatDoorM02
import Derived.Deep.LoopGhost
import Derived.Deep.DeepCutAuto
import Derived.LaidEqlPtr
namespace Go.Proofs.YtacemdoejblgaaaGreatDoor
set_option maxHeartbeats 6400000
set_option maxRecDepth 100000
section
open Go.RowKit
theorem qx4{a b:Addr}{n c n' c':Nat}(h:Value.slice (some a) n c=.slice (some b) n' c'):a.block=b.block:=by
 injection h with e;injection e with e;rw [e]
end
section
open Go.RowKit
end
section
open Go.RowKit
theorem qf.lower{w:World}{a b:Nat}{v:Value}{l:List Int}(h:qf w a v l)(hab:b<=a):qf w b v l:=by
 refine⟨h.1,?_⟩;rcases h.2 with h0 | ⟨g,cap,cur,h1,h2,h3⟩
 . exact .inl h0
 . exact .inr ⟨g,cap,cur,h1,Nat.le_trans hab h2,h3⟩
def Apart(ys:List Value):Prop:=ys.Pairwise fun u u'=>∀ g,u.ownBlock=some g->u'.ownBlock≠some g
theorem Apart.iff{ys:List Value}:Apart ys↔∀ (i j:Nat) (u u':Value) (g:Nat),i < j->ys[i]?=some u->ys[j]?=some u'->u.ownBlock=some g->u'.ownBlock≠some g:=by
 unfold Apart;rw [List.pairwise_iff_getElem];constructor
 . intro h i j u u' g hij hu hu' hg;obtain⟨a1,rfl⟩:=List.getElem?_eq_some_iff.1 hu;obtain⟨b1,rfl⟩:=List.getElem?_eq_some_iff.1 hu';exact h i j a1 b1 hij g hg
 . intro h i j hi hj hij g hg;exact h i j _ _ g hij (List.getElem?_eq_getElem hi) (List.getElem?_eq_getElem hj) hg
theorem Apart.set{xs:List Value}{k s:Nat}{f:Value}(h:Apart xs)(hlt:∀ u∈xs,∀ g,u.ownBlock=some g->g < s)(hf:∀ g,f.ownBlock=some g->s<=g):Apart (xs.set k f):=by
 rw [Apart.iff] at *;intro i j u u' g hij hu hu' hg hg';rw [List.getElem?_set] at hu hu';split at hu
 . split at hu
   . cases hu;rw [if_neg (by omega)] at hu';have:=hlt u' (List.mem_of_getElem? hu') g hg';have:=hf g hg;omega
   . cases hu
 . split at hu'
   . split at hu'
     . cases hu';have:=hlt u (List.mem_of_getElem? hu) g hg;have:=hf g hg';omega
     . cases hu'
   . exact h i j u u' g hij hu hu' hg hg'
theorem Apart.kO(n:Nat):Apart (List.replicate n (.slice none 0 0)):=by
 rw [Apart.iff];intro i j u u' g _ hu _ hg;rw [List.getElem?_replicate] at hu;split at hu
 . cases hu;cases hg
 . cases hu
theorem Apart.join{xs ys:List Value}{s:Nat}(h1:Apart xs)(h2:Apart ys)(hx:∀ u∈xs,∀ g,u.ownBlock=some g->g < s)(hy:∀ u∈ys,∀ g,u.ownBlock=some g->s<=g):Apart (xs++ys):=by
 unfold Apart at *;rw [List.pairwise_append];refine⟨h1,h2,fun a ha b hb g hg hg'=>?_⟩;have:=hx a ha g hg;have:=hy b hb g hg';omega
theorem Apart.one(u:Value):Apart [u]:=List.pairwise_singleton _ _
theorem Apart.left{xs ys:List Value}(h:Apart (xs++ys)):Apart xs:=(List.pairwise_append.1 h).1
def LX(w:World)(base:Nat)(v:Value)(ll:List (List Int))(xs:List Value):Prop:=
 w.ownsRow base 24 1 v ll.length xs/\∀ (i:Nat) (l:List Int),ll[i]?=some l->∃ u,xs[i]?=some u/\qf w base u l
def jf(w:World)(base:Nat)(v:Value)(ll:List (List Int)):Prop:=∃ xs,LX w base v ll xs/\Apart xs
section
variable {w w':World}{v:Value}{ll:List (List Int)}{base:Nat}{row:Option Nat}{xs:List Value}
theorem LX.grown(h:LX w base v ll xs)(hg:w.grownBy w' row)(hr:qg w 3 row)(hr':qg w 24 row):LX w' base v ll xs:=by
 refine⟨qch h.1 hg hr',fun i l hi=>?_⟩;obtain⟨u,k1,k2⟩:=h.2 i l hi;exact⟨u,k1,k2.grown hg hr⟩
theorem LX.new(h:LX w base v ll xs)(hg:w.grownBy w' none):LX w' base v ll xs:=h.grown hg (qg.none _ _) (qg.none _ _)
theorem LX.rl(h:LX w base v ll xs):RL w v ll:=⟨xs,TS.jC h.1,fun i l hi=>let ⟨u,k1,k2⟩:=h.2 i l hi;⟨u,k1,k2.ri⟩⟩
theorem LX.lt(h:LX w base v ll xs):∀ g,v.ownBlock=some g->base<=g/\g < w.heap.size:=World.ownsRow.lt h.1
theorem LX.len(h:LX w base v ll xs):xs.length=ll.length:=by have:=h.1.1;omega
theorem LX.lts(h:LX w base v ll xs):∀ u∈xs,∀ g,u.ownBlock=some g->base<=g/\g < w.heap.size:=by
 intro u hu g hg;obtain⟨i,hi,rfl⟩:=List.getElem_of_mem hu;have hl:=h.len;obtain⟨u',k1,k2⟩:=h.2 i _ (List.getElem?_eq_getElem (by omega));rw [List.getElem?_eq_getElem hi] at k1;cases k1;exact k2.lt g hg
theorem LX.nil(w:World)(base:Nat):LX w base (.slice none 0 0) [] []:=⟨World.ownsRow_nil _ _ _ _,fun i nd h=>by simp at h⟩
theorem LX.low{a b:Nat}(h:LX w a v ll xs)(hab:b<=a):LX w b v ll xs:=by
 refine⟨⟨h.1.1,?_⟩,fun i l hi=>let ⟨u,k1,k2⟩:=h.2 i l hi;⟨u,k1,k2.lower hab⟩⟩;rcases h.1.2 with h0 | ⟨g,cap,cur,h1,h2,h3⟩
 . exact .inl h0
 . exact .inr ⟨g,cap,cur,h1,Nat.le_trans hab h2,h3⟩
theorem jf.grown(h:jf w base v ll)(hg:w.grownBy w' row)(hr:qg w 3 row)(hr':qg w 24 row):jf w' base v ll:=let ⟨xs,h1,h2⟩:=h;⟨xs,h1.grown hg hr hr',h2⟩
theorem jf.new(h:jf w base v ll)(hg:w.grownBy w' none):jf w' base v ll:=h.grown hg (qg.none _ _) (qg.none _ _)
end
theorem LX.cell{w:World}{base g n cap k:Nat}{ll:List (List Int)}{xs:List Value}(h:LX w base (.slice (some ⟨g,0,none⟩) n cap) ll xs)(hk:k < ll.length):∃ u,w.cell? ⟨g,k,none⟩=some u/\w.frozen? ⟨g,k,none⟩=false:=by
 rcases h.1.2 with ⟨e0,hz⟩ | ⟨g',cap',cur,e0,hb,hh,hn,hm,hcs,ht⟩
 . cases e0
 . injection e0 with e1 e2 e3;injection e1 with e1;injection e1 with e1;subst e1 e3;have hB:Blk w g 24 cur:=hh;refine⟨cur[k]'(by rw [hcs];omega),?_,hB.frozen _⟩;rw [hB.cell];exact Array.getElem?_eq_getElem (by rw [hcs];omega)
theorem LX.qC{w:World}{base g n cap k:Nat}{ll:List (List Int)}{l:List Int}{f:Value}{xs:List Value}(h:LX w base (.slice (some ⟨g,0,none⟩) n cap) ll xs)(hk:k < ll.length)(hf:qf w base f l) :
   LX (w.setCell ⟨g,k,none⟩ f) base (.slice (some ⟨g,0,none⟩) n cap) (ll.set k l) (xs.set k f):=by
 have hxl:=h.len;obtain⟨h1,h2⟩:=h
 have hn:n=ll.length:=by
   rcases h1.2 with ⟨e0,hz⟩ | ⟨g',cap',cur,e0,_⟩
   . cases e0
   . injection e0
 subst hn;have s1:=World.ownsRow.stored h1 k f;have hne:qg w 3 (some g):=qg.own (v:=.slice (some ⟨g,0,none⟩) ll.length cap) h1 (by decide);refine⟨by rw [List.length_set];exact s1.1,fun i x hi=>?_⟩;by_cases hik:i=k
 . subst hik;rw [List.getElem?_set_self hk] at hi;obtain rfl:l=x:=by simpa using hi
   exact⟨f,by rw [List.getElem?_set_self (by omega)],hf.grown s1.2 hne⟩
 . rw [List.getElem?_set_ne (fun e=>hik e.symm)] at hi;obtain⟨u,k1,k2⟩:=h2 i x hi;exact⟨u,by rw [List.getElem?_set_ne (fun e=>hik e.symm)];exact k1,k2.grown s1.2 hne⟩
theorem jf.cell{w:World}{base g n cap k:Nat}{ll:List (List Int)}(h:jf w base (.slice (some ⟨g,0,none⟩) n cap) ll)(hk:k < ll.length):∃ u,w.cell? ⟨g,k,none⟩=some u/\w.frozen? ⟨g,k,none⟩=false:=let ⟨_,h1,_⟩:=h;h1.cell hk
theorem jf.qC{a w:World}{base g n cap k:Nat}{ll:List (List Int)}{l:List Int}{f:Value}(h:jf a base (.slice (some ⟨g,0,none⟩) n cap) ll)(hg:a.grownBy w none)(hb:base<=a.heap.size)(hk:k < ll.length)(hf:qf w a.heap.size f l) :
   jf (w.setCell ⟨g,k,none⟩ f) base (.slice (some ⟨g,0,none⟩) n cap) (ll.set k l):=by
 obtain⟨xs,h1,h2⟩:=h;exact⟨xs.set k f,(h1.new hg).qC hk (hf.lower hb),h2.set (fun u hu g hg=>(h1.lts u hu g hg).2) (fun g hg=>(hf.lt g hg).1)⟩
theorem jf.made{w:World}{base n:Nat}{v:Value}(h:w.ownsRow base 24 1 v n (madeCells (Value.slice none 0 0).cells n).toList):jf w base v (List.replicate n []):=by
 have hc:(madeCells (Value.slice none 0 0).cells n).toList=List.replicate n (.slice none 0 0):=by
   have hc0:(Value.slice none 0 0).cells=#[.slice none 0 0]:=rfl;rw [hc0];apply List.ext_getElem?;intro i;rw [List.getElem?_replicate];by_cases hi:i < n
   . simp [madeCells,hi,Nat.mod_one]
   . simp [madeCells,hi]
 rw [hc] at h;refine⟨_,⟨by rw [List.length_replicate];exact h,fun i l hi=>?_⟩,Apart.kO n⟩
 obtain⟨hin,rfl⟩:i < n/\l=[]:=by
   rw [List.getElem?_replicate] at hi;split at hi
   . exact⟨by assumption,by injection hi with e;exact e.symm⟩
   . cases hi
 exact⟨.slice none 0 0,by simp [hin],qf.nil _ _⟩
theorem RI.take{w:World}{A:Option Addr}{n c k:Nat}{l:List Int}(h:RI w (.slice A n c) l)(hk:k<=n):RI w (.slice A k c) (l.take k):=by
 obtain⟨h0,A',c',e,h2,h3,h4,h5⟩:=h;injection e with e1 e2 e3;subst e1 e3;have hl:l.length=n:=e2.symm;refine⟨?_,A,c,?_,by rw [List.length_take];omega,h3,h4,?_⟩
 . rw [List.length_map,List.length_take];omega
 . rw [List.length_take,Nat.min_eq_left (by omega)]
 . rcases h5 with h5 | ⟨g,o,cur,hA,hb,hc⟩
   . exact .inl (by rw [List.length_take];omega)
   . refine .inr ⟨g,o,cur,hA,hb,fun j u hu=>hc j u ?_⟩;rw [List.getElem?_map,List.getElem?_take] at hu;split at hu
     . rw [List.getElem?_map];exact hu
     . cases hu
theorem qgo{w:World}{a:Addr}{v:Value}(h:w.cell? a=some v):a.block < w.heap.size:=by
 unfold World.cell? at h;split at h
 . rename_i hb;exact(Array.getElem?_eq_some_iff.1 hb).1
 . cases h
theorem qdi{w w':World}{a:Addr}{v:Value}(h:w.cell? a=some v)(hg:w.grownBy w' none):w'.cell? a=some v:=(qmb hg (qgo h) (by simp)).trans h
theorem qM.far{w w':World}{base g:Nat}{v:Value}{ll:List (List Int)}(h:qM w base v ll)(hg:w.grownBy w' (some g))(hi:qg w 3 (some g))(hne:v.ownBlock≠some g):qM w' base v ll:=by
 obtain⟨xs,h1,h2⟩:=h;have hlt:=World.ownsRow.lt h1;refine⟨xs,⟨h1.1,?_⟩,fun i l hl=>let ⟨u,k1,k2⟩:=h2 i l hl;⟨u,k1,k2.grown hg hi⟩⟩;rcases h1.2 with h0 | ⟨g',cap,cur,rfl,k2,k3,k4⟩
 . exact .inl h0
 . exact .inr ⟨g',cap,cur,rfl,k2,(hg.block g' (hlt g' rfl).2 (fun e=>hne (by rw [<-e];rfl))).trans k3,k4⟩
def CV(w:World)(v:Value)(c:qj):Prop:=∃ d k o r,v=.agg #[d,k,o,r]/\RL w d c.qb/\RI w k c.counts/\RI w o c.done/\RL w r c.rows
theorem CV.grown{w w':World}{v:Value}{c:qj}{row:Option Nat}(h:CV w v c)(hg:w.grownBy w' row)(hr:qg w 3 row)(hr':qg w 24 row):CV w' v c:=by
 obtain⟨d,k,o,r,rfl,h1,h2,h3,h4⟩:=h;exact⟨d,k,o,r,rfl,h1.grown hg hr hr',h2.grown hg hr,h3.grown hg hr,h4.grown hg hr hr'⟩
theorem CV.new{w w':World}{v:Value}{c:qj}(h:CV w v c)(hg:w.grownBy w' none):CV w' v c:=h.grown hg (qg.none _ _) (qg.none _ _)
theorem CV.form{w:World}{v:Value}{c:qj}(h:CV w v c):∃ A1 n1 c1 A2 n2 c2 A3 n3 c3 A4 n4 c4,v=.agg #[.slice A1 n1 c1,.slice A2 n2 c2,.slice A3 n3 c3,.slice A4 n4 c4] /\
   RL w (.slice A1 n1 c1) c.qb/\RI w (.slice A2 n2 c2) c.counts/\RI w (.slice A3 n3 c3) c.done/\RL w (.slice A4 n4 c4) c.rows:=by
 obtain⟨d,k,o,r,rfl,h1,h2,h3,h4⟩:=h;obtain⟨A1,n1,c1,rfl⟩:=h1.val;obtain⟨A2,n2,c2,rfl⟩:=h2.val;obtain⟨A3,n3,c3,rfl⟩:=h3.val;obtain⟨A4,n4,c4,rfl⟩:=h4.val;exact⟨_,_,_,_,_,_,_,_,_,_,_,_,rfl,h1,h2,h3,h4⟩
structure jy(w:World)(g:Nat)(d k o r:Value)(c:qj):Prop where
 b:Blk w g 29 #[d,k,o,r]
 dq:RL w d c.qb
 ct:RI w k c.counts
 dn:RI w o c.done
 ro:RL w r c.rows
section
variable {w w':World}{g:Nat}{d k o r:Value}{c:qj}
theorem jy.new(h:jy w g d k o r c)(hg:w.grownBy w' none):jy w' g d k o r c:=⟨h.b.grown hg (by simp),h.dq.new hg,h.ct.new hg,h.dn.new hg,h.ro.new hg⟩
theorem jy.cv(h:jy w g d k o r c):CV w (.agg #[d,k,o,r]) c:=⟨d,k,o,r,rfl,h.dq,h.ct,h.dn,h.ro⟩
theorem jy.d0(h:jy w g d k o r c):w.cell? ⟨g,0,none⟩=some d:=h.b.cell 0
theorem jy.d1(h:jy w g d k o r c):w.cell? ⟨g,1,none⟩=some k:=h.b.cell 1
theorem jy.d2(h:jy w g d k o r c):w.cell? ⟨g,2,none⟩=some o:=h.b.cell 2
theorem jy.d3(h:jy w g d k o r c):w.cell? ⟨g,3,none⟩=some r:=h.b.cell 3
theorem CV.box{w:World}{d k o r:Value}{c:qj}(h:CV w (.agg #[d,k,o,r]) c):jy (w.alloc (.cells #[d,k,o,r] 29)) w.heap.size d k o r c:=by
 obtain⟨d',k',o',r',e,h1,h2,h3,h4⟩:=h;have hg:=World.grownBy_alloc w (.cells #[d,k,o,r] 29) none;injection e with e;injection e with e;injection e with e1 e;injection e with e2 e;injection e with e3 e;injection e with e4 e;subst e1 e2 e3 e4;exact⟨Blk.new _ _ _,h1.new hg,h2.new hg,h3.new hg,h4.new hg⟩
end
def qf7:qj:=⟨[],[],[],[]⟩
theorem CV.zero(w:World):CV w (.agg #[.slice none 0 0,.slice none 0 0,.slice none 0 0,.slice none 0 0]) qf7:=⟨_,_,_,_,rfl,RL.nil w,RI.nil w,RI.nil w,RL.nil w⟩
def yI(w:World)(base:Nat)(v:Value)(c:qj):Prop:=
 ∃ d k o r xs ys,v=.agg #[d,k,o,r]/\LX w base d c.qb xs/\RI w k c.counts/\qf w base o c.done/\LX w base r c.rows ys/\Apart (o::(xs++ys))/\(∀ g,d.ownBlock=some g->r.ownBlock≠some g)
theorem LX.far{w w':World}{base g:Nat}{v:Value}{ll:List (List Int)}{xs:List Value}(h:LX w base v ll xs)(hg:w.grownBy w' (some g))(hi:qg w 3 (some g))(hne:v.ownBlock≠some g):LX w' base v ll xs:=by
 obtain⟨h1,h2⟩:=h;have hlt:=World.ownsRow.lt h1;refine⟨⟨h1.1,?_⟩,fun i l hl=>let ⟨u,k1,k2⟩:=h2 i l hl;⟨u,k1,k2.grown hg hi⟩⟩;rcases h1.2 with h0 | ⟨g',cap,cur,rfl,k2,k3,k4⟩
 . exact .inl h0
 . exact .inr ⟨g',cap,cur,rfl,k2,(hg.block g' (hlt g' rfl).2 (fun e=>hne (by rw [<-e];rfl))).trans k3,k4⟩
theorem LX.qV{w:World}{base:Nat}{v:Value}{ll:List (List Int)}{xs:List Value}(h:LX w base v ll xs){E:TypeId}(hE:E≠24):qg w E v.ownBlock:=qg.own h.1 hE
theorem LX.gb{a w w':World}{row:Option Nat}{base:Nat}{v:Value}{ll:List (List Int)}{xs:List Value}(h:LX w base v ll xs)(hg:a.grownBy w row)(k:w.grownBy w' v.ownBlock)(hb:a.heap.size<=base):a.grownBy w' row:=
 qa1 hg k (fun g e=>.inl (Nat.le_trans hb (h.lt g e).1))
theorem qdq(v:Value)(l:List Int)(x:Int)(w:World)(h:RI w v l){b:Bool}(hb:decide (x∈l)=b) :
   Calls Tryz.prog 123 #[v,.int .i64 x] w fun e w'=>e=.returned (.bool b)/\w=w':=by
 obtain⟨A,n,c,rfl,_,hn⟩:=h.form';have hle:=h.le;rw [<-hn] at hle;have Hn:=Lib.hid hn;have Hb:=Lib.hid hb;clear hn hb;go_enter Tryz.func123,Tryz.ntmps123;go_wp2_with fail
 go_loopg [5] (n+1) (fun mm i wr=>∃ k:Nat,k<=n/\mm=n+1 - k/\i=.int .i64 k/\Hid (x∉l.take k)/\wr=w)
 case atStart=>exact⟨0,Nat.zero_le _,rfl,rfl,by show _∉_;simp,rfl⟩
 case round=>
   obtain⟨k,hk,rfl,rfl,Hk,rfl⟩:=hrel;by_cases hlt:k < n
   . obtain⟨g,o,y,rfl,hy,c0⟩:=h.at_ hlt;have Hy:=Lib.hid hy;clear hy;by_cases hyx:y=x
     . have hq:(y == x)=true:=by simpa using hyx
       have Hr:Hid (b=true):=by
         show _=_;rw [<-Hb.out,decide_eq_true_eq,<-hyx];exact List.mem_of_getElem? Hy.out
       clear hyx Hk;go_wp2_with fail;go_ret;exact⟨by rw [Hr.out];rfl,rfl⟩
     . have hq:(y == x)=false:=by simpa using hyx
       have Hs:Hid (x∉l.take (k+1)):=by
         show _∉_;obtain⟨h1,h2⟩:=List.getElem?_eq_some_iff.1 Hy.out;rw [List.take_succ_eq_append_getElem h1,h2,List.mem_append];rintro(h3 | h3)
         . exact Hk.out h3
         . exact hyx (List.mem_singleton.1 h3).symm
       clear hyx Hk;go_wp2_with fail;go_roundg (n+1 - (k+1))
       case measure=>omega
       case rel=>exact⟨k+1,by omega,rfl,by go_num,Hs,rfl⟩
   . obtain rfl:k=n:=by omega
     have Hr:Hid (b=false):=by
       show _=_;rw [<-Hb.out,decide_eq_false_iff_not];have:=Hk.out
       rwa [List.take_of_length_le (by rw [<-Hn.out];exact Nat.le_refl _)] at this
     clear Hk;go_wp2_with fail;go_ret;exact⟨by rw [Hr.out];rfl,rfl⟩
theorem quk(v v':Value)(l m:List Int)(w:World)(h:RI w v l)(h':RI w v' m){b:Bool}(hb:(m.all fun f=>decide (f∈l))=b) :
   Calls Tryz.prog 201 #[v,v'] w fun e w'=>e=.returned (.bool b)/\w=w':=by
 obtain⟨A,n,c,rfl,_,hn⟩:=h'.form';obtain⟨B,n',c',rfl⟩:=h.val;have hle:=h'.le;rw [<-hn] at hle;have Hn:=Lib.hid hn;have Hb:=Lib.hid hb;clear hn hb;go_enter Tryz.func201,Tryz.ntmps201;go_wp2_with fail
 go_loopg [5] (n+1) (fun mm i wr=>∃ k:Nat,k<=n/\mm=n+1 - k/\i=.int .i64 k/\Hid (∀ f∈m.take k,f∈l)/\wr=w)
 case atStart=>exact⟨0,Nat.zero_le _,rfl,rfl,by show ∀ f∈_,_;simp,rfl⟩
 case round=>
   obtain⟨k,hk,rfl,rfl,Hk,rfl⟩:=hrel;by_cases hlt:k < n
   . obtain⟨g,o,y,rfl,hy,c0⟩:=h'.at_ hlt;have Hy:=Lib.hid hy;clear hy;by_cases hyx:y∈l
     . have Hyx:Hid (decide (y∈l)=true):=decide_eq_true hyx
       have Hs:Hid (∀ f∈m.take (k+1),f∈l):=by
         show ∀ f∈_,_;obtain⟨h1,h2⟩:=List.getElem?_eq_some_iff.1 Hy.out;rw [List.take_succ_eq_append_getElem h1,h2];intro f hf;rcases List.mem_append.1 hf with hf | hf
         . exact Hk.out f hf
         . obtain rfl:f=y:=by simpa using hf
           exact hyx
       clear hyx Hk;go_wp2_with fail;refine(qdq _ l y _ h Hyx.out).mono ?_;rintro e w' ⟨rfl,rfl⟩;go_wp2_with fail;go_roundg (n+1 - (k+1))
       case measure=>omega
       case rel=>exact⟨k+1,by omega,rfl,by go_num,Hs,rfl⟩
     . have Hyx:Hid (decide (y∈l)=false):=decide_eq_false hyx
       have Hr:Hid (b=false):=by
         show _=_;rw [<-Hb.out,List.all_eq_false];exact⟨y,List.mem_of_getElem? Hy.out,by simpa using hyx⟩
       clear hyx Hk;go_wp2_with fail;refine(qdq _ l y _ h Hyx.out).mono ?_;rintro e w' ⟨rfl,rfl⟩;go_wp2_with fail;go_ret;exact⟨by rw [Hr.out];rfl,rfl⟩
   . obtain rfl:k=n:=by omega
     have Hr:Hid (b=true):=by
       show _=_;rw [<-Hb.out,List.all_eq_true];have:=Hk.out;rw [List.take_of_length_le (by rw [<-Hn.out];exact Nat.le_refl _)] at this;exact fun f hf=>decide_eq_true (this f hf)
     clear Hk;go_wp2_with fail;go_ret;exact⟨by rw [Hr.out];rfl,rfl⟩
theorem qk2(n a b:Int)(w:World) :
   Calls Tryz.prog 74 #[.int .i64 n,.int .i64 a,.int .i64 b] w fun e w'=>e=.returned (.bool (decide (a<=n) && decide (n<=b)))/\w=w':=by
 by_cases h:a<=n
 . rw [show (decide (a<=n) && decide (n<=b))=decide (n<=b) by simp [h]];go_enter Tryz.func74,Tryz.ntmps74
   go_wp2
   go_ret;exact⟨rfl,rfl⟩
 . rw [show (decide (a<=n) && decide (n<=b))=false by simp [h]];go_enter Tryz.func74,Tryz.ntmps74
   go_wp2
   go_ret;exact⟨rfl,rfl⟩
theorem qh2(v:Value)(l:List Int)(w:World)(h:RI w v l) :
   Calls Tryz.prog 157 #[v] w fun e w'=>e=.returned (.bool (qaj l))/\w=w':=by
 obtain⟨A,n,c,rfl,hc,hn⟩:=h.form';have hle:=h.le;rw [<-hn] at hle;have Hn:=Lib.hid hn;clear hn;go_enter Tryz.func157,Tryz.ntmps157
 go_wp2
 go_loop [3] (fun i=>∃ k:Nat,k<=n/\i=.int .i64 k/\(l.take k).all jZ=true) (fun i=>n - (intOf i).toNat)
 case atStart=>exact⟨0,Nat.zero_le _,rfl,rfl⟩
 case round=>
   obtain⟨k,hk,rfl,hall⟩:=hrel;have q9:=Lib.hid hall;clear hall;by_cases hlt:k < n
   . obtain⟨g,o,x,rfl,hx,hcell⟩:=h.at_ hlt;have Hx:=Lib.hid hx;clear hx;go_wp2_with fail;refine(qk2 _ _ _ _).mono ?_;rintro e w' ⟨rfl,rfl⟩;by_cases hin:jZ x=true
     . have Hin:=Lib.hid hin;have hb:(decide ((0:Int)<=x) && decide (x<=(1008:Int)))=true:=hin;rw [hb];clear hin hb;go_wp2_with fail;go_round
       case rel=>exact⟨k+1,by omega,by go_num,by rw [qfw _ Hx.out,q9.out,Hin.out];rfl⟩
       case measure=>simp [intOf];omega
     . have hb:(decide ((0:Int)<=x) && decide (x<=(1008:Int)))=false:=by simpa [jZ] using hin
       have Hr:Hid (qaj l=false):=by
         show qaj l=false;unfold qaj;rw [Bool.and_eq_false_iff];left;rw [List.all_eq_false];exact⟨x,List.mem_of_getElem? Hx.out,hin⟩
       rw [hb];clear hin hb;go_wp2_with fail;go_ret;exact⟨by rw [Hr.out];rfl,rfl⟩
   . have hkn:k=n:=by omega
     have Hr:Hid (qaj l=decide ((n:Int)<=6)):=by
       show qaj l=decide ((n:Int)<=6);have h1:=q9.out;rw [hkn,Hn.out,List.take_length] at h1;rw [qaj,h1,Hn.out,Bool.true_and];exact decide_eq_decide.2 (by omega)
     clear hkn;go_wp2_with fail;go_ret;exact⟨by rw [Hr.out];rfl,rfl⟩
theorem qbr(v:Value)(l:List Int)(w:World)(h:RI w v l){b:Bool}(hb:qaj l=b) :
   Calls Tryz.prog 157 #[v] w fun e w'=>e=.returned (.bool b)/\w=w':=hb ▸ qh2 v l w h
theorem qdl(n a b:Int)(w:World){c:Bool}(hc:(decide (a<=n) && decide (n<=b))=c) :
   Calls Tryz.prog 74 #[.int .i64 n,.int .i64 a,.int .i64 b] w fun e w'=>e=.returned (.bool c)/\w=w':=hc ▸ qk2 n a b w
theorem qha(k:Int)(w:World) :
   Calls Tryz.prog 196 #[.int .i64 k] w fun e w'=>e=.returned (.bool (qds k))/\w=w':=by
 go_enter Tryz.func196,Tryz.ntmps196;go_wp2_with fail;refine(qk2 _ _ _ _).mono ?_;rintro e w' ⟨rfl,rfl⟩;go_wp2_with fail;go_ret;exact⟨rfl,rfl⟩
theorem qbc(k:Int)(w:World) :
   Calls Tryz.prog 149 #[.int .i64 k] w fun e w'=>e=.returned (.int .i64 (qaq k))/\w=w':=by
 by_cases hk:k < 0∨5 < k
 . have hv:qds k=false:=by
     unfold qds;simp only [Bool.and_eq_false_iff,decide_eq_false_iff_not];omega
   have H:Hid (qaq k=-1):=by show qaq k=-1;unfold qaq;rw [if_pos hk]
   clear hk;go_enter Tryz.func149,Tryz.ntmps149;go_wp2_with fail;refine(qha _ _).mono ?_;rw [hv];clear hv;rintro e w' ⟨rfl,rfl⟩;go_wp2_with fail;go_ret;exact⟨by rw [H.out];rfl,rfl⟩
 . rcases (show k=0∨k=1∨k=2∨k=3∨k=4∨k=5 by omega) with rfl | rfl | rfl | rfl | rfl | rfl
   all_goals
     clear hk;go_enter Tryz.func149,Tryz.ntmps149;go_wp2_with fail;refine(qha _ _).mono ?_;rintro e w' ⟨rfl,rfl⟩;go_wp2_with fail;go_ret;exact⟨rfl,rfl⟩
def work(k:Int):Value:=
 if k=0 then .iface 181 (.agg #[])
 else if k=1 then .iface 132 (.agg #[.func (.func 144) #[] #[]])
 else if k=2 then .iface 132 (.agg #[.func (.func 145) #[] #[]])
 else if k=3 then .iface 136 (.agg #[.func (.func 146) #[] #[]])
 else if k=4 then .iface 136 (.agg #[.func (.func 147) #[] #[]])
 else if k=5 then .iface 136 (.agg #[.func (.func 148) #[] #[]])
 else .nilIface
theorem qc3(k:Int)(w:World) :
   Calls Tryz.prog 93 #[.int .i64 k] w fun e w'=>e=.returned (work k)/\w=w':=by
 by_cases hk:k < 0∨5 < k
 . have H:Hid (work k=.nilIface):=by
     show work k=.nilIface;unfold work
     repeat rw [if_neg (by omega)]
   rcases hk with hk | hk
   all_goals
     go_enter Tryz.func93,Tryz.ntmps93;go_wp2_with fail;go_ret;exact⟨by rw [H.out];rfl,rfl⟩
 . rcases (show k=0∨k=1∨k=2∨k=3∨k=4∨k=5 by omega) with rfl | rfl | rfl | rfl | rfl | rfl
   all_goals
     clear hk;go_enter Tryz.func93,Tryz.ntmps93;go_wp2_with fail;go_ret;exact⟨rfl,rfl⟩
theorem qmf(k:Int)(w:World) :
   Calls Tryz.prog 185 #[.int .i64 k] w fun e w'=>e=.returned (.bool (qds k))/\w=w':=by
 by_cases hk:k < 0∨5 < k
 . have H:Hid (work k=.nilIface):=by
     show work k=.nilIface;unfold work
     repeat rw [if_neg (by omega)]
   have hv:qds k=false:=by
     unfold qds;simp only [Bool.and_eq_false_iff,decide_eq_false_iff_not];omega
   rw [hv];clear hv hk;go_enter Tryz.func185,Tryz.ntmps185;go_wp2_with fail;refine(qc3 _ _).mono ?_;rw [H.out];rintro e w' ⟨rfl,rfl⟩;go_wp2_with fail;go_ret;exact⟨rfl,rfl⟩
 . rcases (show k=0∨k=1∨k=2∨k=3∨k=4∨k=5 by omega) with rfl | rfl | rfl | rfl | rfl | rfl
   all_goals
     clear hk;go_enter Tryz.func185,Tryz.ntmps185;go_wp2_with fail;refine(qc3 _ _).mono ?_;simp only [work,if_true];rintro e w' ⟨rfl,rfl⟩;go_wp2_with fail;go_ret;exact⟨rfl,rfl⟩
theorem qgj(k:Int)(w:World){b:Bool}(hb:qds k=b) :
   Calls Tryz.prog 185 #[.int .i64 k] w fun e w'=>e=.returned (.bool b)/\w=w':=hb ▸ qmf k w
theorem q7k(w:World):(method 379 181 (.agg #[]) "loop.example/workplans/impl.needs").run Tryz.prog w=.ok (244,.agg #[]) w:=by kernel_rfl
theorem q8m(f:FuncId)(w:World):(method 379 132 (.agg #[.func (.func f) #[] #[]]) "loop.example/workplans/impl.needs").run Tryz.prog w=.ok (94,.agg #[.func (.func f) #[] #[]]) w:=by kernel_rfl
theorem q8n(f:FuncId)(w:World):(method 379 136 (.agg #[.func (.func f) #[] #[]]) "loop.example/workplans/impl.needs").run Tryz.prog w=.ok (95,.agg #[.func (.func f) #[] #[]]) w:=by kernel_rfl
theorem qrw(w:World):Calls Tryz.prog 244 #[.agg #[]] w fun e w'=>e=.returned (.int .i64 0)/\w.grownBy w' none:=by
 go_enter Tryz.func244,Tryz.ntmps244;go_wp2_with fail;go_ret;exact⟨rfl,World.grownBy_alloc _ _ _⟩
theorem qf2(f:FuncId)(w:World):Calls Tryz.prog 94 #[.agg #[.func (.func f) #[] #[]]] w fun e w'=>e=.returned (.int .i64 2)/\w.grownBy w' none:=by
 go_enter Tryz.func94,Tryz.ntmps94;go_wp2_with fail;go_ret;exact⟨rfl,World.grownBy_alloc _ _ _⟩
theorem qey(f:FuncId)(w:World):Calls Tryz.prog 95 #[.agg #[.func (.func f) #[] #[]]] w fun e w'=>e=.returned (.int .i64 1)/\w.grownBy w' none:=by
 go_enter Tryz.func95,Tryz.ntmps95;go_wp2_with fail;go_ret;exact⟨rfl,World.grownBy_alloc _ _ _⟩
theorem qhb(k:Int)(w:World) :
   Calls Tryz.prog 186 #[.int .i64 k] w fun e w'=>e=.returned (.int .i64 (qaq k))/\w.grownBy w' none:=by
 by_cases hk:k < 0∨5 < k
 . have H:Hid (work k=.nilIface):=by
     show work k=.nilIface;unfold work
     repeat rw [if_neg (by omega)]
   rw [show qaq k=-1 by unfold qaq;rw [if_pos hk]];clear hk;go_enter Tryz.func186,Tryz.ntmps186;go_wp2_with fail;refine(qc3 _ _).mono ?_;rw [H.out];rintro e w' ⟨rfl,rfl⟩;go_wp2_with fail;go_ret;exact⟨rfl,qag _ _⟩
 . rcases (show k=0∨k=1∨k=2∨k=3∨k=4∨k=5 by omega) with rfl | rfl | rfl | rfl | rfl | rfl
   all_goals
     clear hk;go_enter Tryz.func186,Tryz.ntmps186;go_wp2_with fail;refine(qc3 _ _).mono ?_;simp only [work,if_true];rintro e w' ⟨rfl,rfl⟩;have hm1:=q7k;have hm2:=q8m;have hm3:=q8n
     go_wp2_with (first
       | (go_at_call 244;refine(qrw _).mono ?_;rintro e w' ⟨rfl,hg⟩)
       | (go_at_call 94;refine(qf2 _ _).mono ?_;rintro e w' ⟨rfl,hg⟩)
       | (go_at_call 95;refine(qey _ _).mono ?_;rintro e w' ⟨rfl,hg⟩))
     go_ret;exact⟨rfl,by assumption⟩
theorem qcd(v:Value)(l:List Int)(w:World)(h:RI w v l) :
   Calls Tryz.prog 192 #[v] w fun e w'=>e=.returned (.bool (qaj l))/\w=w':=by
 obtain⟨A,n,c,rfl,hc,hn⟩:=h.form';have hle:=h.le;rw [<-hn] at hle;have Hn:=Lib.hid hn;clear hn;go_enter Tryz.func192,Tryz.ntmps192;by_cases h6:(6:Int) < n
 . have Hr:Hid (qaj l=false):=by
     show qaj l=false;unfold qaj;rw [<-Hn.out];simp;omega
   go_wp2_with fail;go_ret;exact⟨by rw [Hr.out];rfl,rfl⟩
 . go_wp2_with fail
   go_loop [10] (fun i=>∃ k:Nat,k<=n/\i=.int .i64 k/\(l.take k).all jZ=true) (fun i=>n - (intOf i).toNat)
   case atStart=>exact⟨0,Nat.zero_le _,rfl,rfl⟩
   case round=>
     obtain⟨k,hk,rfl,hall⟩:=hrel;have q9:=Lib.hid hall;clear hall;by_cases hlt:k < n
     . obtain⟨g,o,x,rfl,hx,hcell⟩:=h.at_ hlt;have Hx:=Lib.hid hx;clear hx;by_cases hin:jZ x=true
       . have Hin:=Lib.hid hin
         have hb:0<=x/\x < 1009:=by
           simp only [jZ,Bool.and_eq_true,decide_eq_true_eq] at hin;omega
         clear hin;obtain⟨hb1,hb2⟩:=hb;go_wp2_with fail;go_round
         case rel=>exact⟨k+1,by omega,by go_num,by rw [qfw _ Hx.out,q9.out,Hin.out];rfl⟩
         case measure=>simp [intOf];omega
       . have Hr:Hid (qaj l=false):=by
           show qaj l=false;unfold qaj;rw [Bool.and_eq_false_iff];left;rw [List.all_eq_false];exact⟨x,List.mem_of_getElem? Hx.out,hin⟩
         have hb:x < 0∨1009<=x:=by
           simp only [jZ,Bool.and_eq_true,decide_eq_true_eq] at hin;omega
         clear hin;rcases hb with hb | hb
         all_goals
           go_wp2_with fail;go_ret;exact⟨by rw [Hr.out];rfl,rfl⟩
     . have Hr:Hid (qaj l=true):=by
         show qaj l=true;have h1:=q9.out;rw [show k=n by omega,Hn.out,List.take_length] at h1;rw [qaj,h1,Bool.true_and,<-Hn.out];simp;omega
       go_wp2_with fail;go_ret;exact⟨by rw [Hr.out];rfl,rfl⟩
theorem qn8(v:Value)(l:List Int)(w:World)(h:RI w v l) :
   Calls Tryz.prog 187 #[v] w fun e w'=>e=.returned (.bool (qaj l))/\w=w':=by
 obtain⟨A,n,c,rfl⟩:=h.val;go_enter Tryz.func187,Tryz.ntmps187;go_wp2_with fail;refine(qcd _ l _ h).mono ?_;rintro e w' ⟨rfl,rfl⟩;go_wp2_with fail;go_ret;exact⟨rfl,rfl⟩
theorem qve(v:Value)(nd:Node)(at_:Int)(w:World)(h:NV w v nd) :
   Calls Tryz.prog 142 #[v,.int .i64 at_] w fun e w'=>e=.returned (.bool (qbf nd at_))/\w.grownBy w' none:=by
 obtain⟨f,r,rfl,hf,hr⟩:=h;have hfl:=hf.le;obtain⟨Af,nf,cf,rfl,_,hnf⟩:=hf.form';obtain⟨Ar,nr,cr,rfl,_,hnr⟩:=hr.form';rw [<-hnf] at hfl;have Hnf:=Lib.hid hnf;have Hnr:=Lib.hid hnr;clear hnf hnr;by_cases hkv:qds nd.kind=true
 . have Hkv:=Lib.hid hkv;clear hkv;by_cases hk:(nf:Int)=qaq nd.kind
   . have Hk:=Lib.hid hk;have hb:((nf:Int) != qaq nd.kind)=false:=by simpa using hk
     clear hk;go_enter Tryz.func142,Tryz.ntmps142;go_wp2_with fail;have hB:=Blk.new w 81 #[.int .i64 nd.kind,.slice Af nf cf,.slice Ar nr cr];have hG:=World.grownBy_alloc w (.cells #[.int .i64 nd.kind,.slice Af nf cf,.slice Ar nr cr] 81) none;generalize w.alloc (.cells #[.int .i64 nd.kind,.slice Af nf cf,.slice Ar nr cr] 81)=wa at hB hG |-;have c0:wa.cell? ⟨w.heap.size,0,none⟩=some (.int .i64 nd.kind):=hB.cell 0;have c1:wa.cell? ⟨w.heap.size,1,none⟩=some (.slice Af nf cf):=hB.cell 1
     go_region_held3 (fun w'=>w'.cell? ⟨w.heap.size,0,none⟩=some (.int .i64 nd.kind)/\w'.cell? ⟨w.heap.size,1,none⟩=some (.slice Af nf cf)) (go_keep)
       (first
         | (go_at_call 185;refine(qgj _ _ Hkv.out).mono ?_;rintro e w' ⟨rfl,rfl⟩)
         | (go_at_call 186;refine(qhb _ _).mono ?_;rintro e w2 ⟨rfl,hg2⟩;have k0:=hg2.cell (by exact c0) (by simp);have k1:=hg2.cell (by exact c1) (by simp)))
     have hG2:w.grownBy w2 none:=qac (qax hG) hg2;have hB2:=hB.grown (qac (qax (qag wa none)) hg2) (by simp);have hf2:=hf.new hG2;have hr2:=hr.new hG2;clear c0 c1 k0 k1 hG hg2 hB hf hr;have c0:w2.cell? ⟨w.heap.size,0,none⟩=some (.int .i64 nd.kind):=hB2.cell 0;have c1:w2.cell? ⟨w.heap.size,1,none⟩=some (.slice Af nf cf):=hB2.cell 1;have c2:w2.cell? ⟨w.heap.size,2,none⟩=some (.slice Ar nr cr):=hB2.cell 2;go_wp2_with fail
     go_loop [23] (fun i=>∃ k:Nat,k<=nf/\i=.int .i64 k/\(nd.frm.take k).all (fun y=>decide (0<=y) && decide (y < at_))=true) (fun i=>nf - (intOf i).toNat)
     case atStart=>exact⟨0,Nat.zero_le _,rfl,rfl⟩
     case round=>
       obtain⟨k,hk,rfl,hall⟩:=hrel;have q9:=Lib.hid hall;clear hall;by_cases hlt:k < nf
       . obtain⟨g,o,x,rfl,hx,hcell⟩:=hf2.at_ hlt;have Hx:=Lib.hid hx;clear hx;by_cases hin:0<=x/\x < at_
         . have Hin:=Lib.hid hin;obtain⟨hb1,hb2⟩:=hin;go_wp2_with fail;go_round
           case rel=>exact⟨k+1,by omega,by go_num,by rw [qfw _ Hx.out,q9.out];simp [Hin.out]⟩
           case measure=>simp [intOf];omega
         . have Hr:Hid (qbf nd at_=false):=by
             show qbf nd at_=false
             have:nd.frm.all (fun y=>decide (0<=y) && decide (y < at_))=false:=by
               rw [List.all_eq_false];exact⟨x,List.mem_of_getElem? Hx.out,by simpa using hin⟩
             unfold qbf;rw [this];simp
           have hb:x < 0∨(0<=x/\at_<=x):=by omega
           clear hin;rcases hb with hb | ⟨hb,hb'⟩
           all_goals
             go_wp2_with fail;go_ret;exact⟨by rw [Hr.out];rfl,hG2⟩
       . have Hr:Hid (qbf nd at_=if nd.kind=0 then qaj nd.row else decide (nr=0)):=by
           show qbf nd at_=if nd.kind=0 then qaj nd.row else decide (nr=0);have h1:=q9.out;rw [show k=nf by omega,Hnf.out,List.take_length] at h1;unfold qbf;rw [h1,Hkv.out,<-Hnf.out,decide_eq_true Hk.out,Hnr.out];simp
         by_cases hk0:nd.kind=0
         . have Hr':Hid (qbf nd at_=qaj nd.row):=by
             show qbf nd at_=qaj nd.row;rw [Hr.out,if_pos hk0]
           have hb0:(nd.kind == 0)=true:=by simpa using hk0
           clear hk0 Hr;go_wp2_with fail;refine(qn8 _ nd.row _ hr2).mono ?_;rintro e w' ⟨rfl,rfl⟩;go_wp2_with fail;go_ret;exact⟨by rw [Hr'.out];rfl,hG2⟩
         . have Hr':Hid (qbf nd at_=((nr:Int) == 0)):=by
             show qbf nd at_=((nr:Int) == 0);rw [Hr.out,if_neg hk0,Bool.eq_iff_iff];simp
           have hb0:(nd.kind == 0)=false:=by simpa using hk0
           clear hk0 Hr;go_wp2_with fail;go_ret;exact⟨by rw [Hr'.out];rfl,hG2⟩
   . have hb:((nf:Int) != qaq nd.kind)=true:=by simpa using hk
     have Hr:Hid (qbf nd at_=false):=by
       show qbf nd at_=false;unfold qbf;rw [<-Hnf.out,decide_eq_false hk];simp
     clear hk;go_enter Tryz.func142,Tryz.ntmps142;go_wp2_with fail;have hB:=Blk.new w 81 #[.int .i64 nd.kind,.slice Af nf cf,.slice Ar nr cr];have hG:=World.grownBy_alloc w (.cells #[.int .i64 nd.kind,.slice Af nf cf,.slice Ar nr cr] 81) none;generalize w.alloc (.cells #[.int .i64 nd.kind,.slice Af nf cf,.slice Ar nr cr] 81)=wa at hB hG |-;have c0:wa.cell? ⟨w.heap.size,0,none⟩=some (.int .i64 nd.kind):=hB.cell 0;have c1:wa.cell? ⟨w.heap.size,1,none⟩=some (.slice Af nf cf):=hB.cell 1
     go_region_held3 (fun w'=>w'.cell? ⟨w.heap.size,0,none⟩=some (.int .i64 nd.kind)/\w'.cell? ⟨w.heap.size,1,none⟩=some (.slice Af nf cf)) (go_keep)
       (first
         | (go_at_call 185;refine(qgj _ _ Hkv.out).mono ?_;rintro e w' ⟨rfl,rfl⟩)
         | (go_at_call 186;refine(qhb _ _).mono ?_;rintro e w2 ⟨rfl,hg2⟩;have k0:=hg2.cell (by exact c0) (by simp);have k1:=hg2.cell (by exact c1) (by simp)))
     have hG2:w.grownBy w2 none:=qac (qax hG) hg2;go_wp2_with fail;go_ret;exact⟨by rw [Hr.out];rfl,hG2⟩
 . have qaV:qds nd.kind=false:=by simpa using hkv
   have Hr:Hid (qbf nd at_=false):=by
     show qbf nd at_=false;unfold qbf;rw [qaV];simp
   have Hkv:=Lib.hid qaV;clear hkv qaV;go_enter Tryz.func142,Tryz.ntmps142;go_wp2_with fail
   go_quiet ((go_at_call 185;exact qct (qgj _ _ Hkv.out)))
   go_wp2_with fail;go_ret;exact⟨by rw [Hr.out];rfl,qb8 (World.grownBy_alloc _ _ _) _⟩
theorem qsp(v:Value)(nd:Node)(at_:Int)(w:World)(h:NV w v nd){b:Bool}(hb:qbf nd at_=b) :
   Calls Tryz.prog 142 #[v,.int .i64 at_] w fun e w'=>e=.returned (.bool b)/\w.grownBy w' none:=hb ▸ qve v nd at_ w h
def ptrs(B:Nat->Nat)(l:List Nat):List Value:=l.map (fun j=>Value.pointer (some ⟨B j,0,none⟩))
structure Rws(w:World)(base m:Nat)(B:Nat->Nat)(R:Nat->Value × List Nat):Prop where
 rows:∀ a,a < m->w.ownsRow base 177 1 (R a).1 (R a).2.length (ptrs B (R a).2)
 apart:∀ a b,a < m->b < m->a≠b->(R a).1.ownBlock=none∨(R a).1.ownBlock≠(R b).1.ownBlock
theorem Rws.grown{w w':World}{base m:Nat}{B:Nat->Nat}{R:Nat->Value × List Nat}{row:Option Nat}(h:Rws w base m B R)(hg:w.grownBy w' row)(hr:qg w 177 row):Rws w' base m B R:=
 ⟨fun a ha=>qch (h.rows a ha) hg hr,h.apart⟩
theorem Rws.push{w w':World}{base m N a j:Nat}{B:Nat->Nat}{R:Nat->Value × List Nat}{v':Value}(h:Rws w base m B R)(ha:a < m)(hg:w.grownBy w' (R a).1.ownBlock)
   (ho:w'.ownsRow base 177 1 v' ((R a).2.length+1) (ptrs B (R a).2++[.pointer (some ⟨B j,0,none⟩)])) (hN:w.heap.size<=N) (hob:v'.ownBlock=(R a).1.ownBlock∨v'.ownBlock=some N) :
   Rws w' base m B (upd R a (v',(R a).2++[j])):=by
 constructor
 . intro b hb;by_cases hba:b=a
   . subst hba;rw [upd_same];simpa [ptrs] using ho
   . rw [qar _ _ hba];refine(h.rows b hb).kept hg ?_;rcases h.apart b a hb ha hba with h1 | h1
     . exact .inl h1
     . exact .inr h1
 . intro b c hb hc hbc
   have old:∀ d,d < m->d≠a->(R d).1.ownBlock=none∨((R d).1.ownBlock≠v'.ownBlock/\(v'.ownBlock=none∨v'.ownBlock≠(R d).1.ownBlock)):=by
     intro d hd hda;rcases h.apart d a hd ha hda with h1 | h1
     . exact .inl h1
     . right;rcases hob with h2 | h2
       . rw [h2];exact⟨h1,.inr (fun e=>h1 e.symm)⟩
       . have hlt:=(h.rows d hd).lt;have:(R d).1.ownBlock≠some N:=fun e=>by have:=(hlt N e).2;omega
         rw [h2];exact⟨this,.inr (fun e=>this e.symm)⟩
   by_cases hba:b=a
   . subst hba;rw [upd_same,qar _ _ (fun e=>hbc e.symm)];show v'.ownBlock=none∨v'.ownBlock≠(R c).1.ownBlock;rcases old c hc (fun e=>hbc e.symm) with h1 | h1
     . rw [h1];cases h2:v'.ownBlock
       . exact .inl rfl
       . exact .inr (by simp)
     . exact h1.2
   . rw [qar _ _ hba];by_cases hca:c=a
     . subst hca;rw [upd_same];rcases old b hb hba with h1 | h1
       . exact .inl h1
       . exact .inr h1.1
     . rw [qar _ _ hca];exact h.apart b c hb hc hbc
structure Gr(w:World)(base k:Nat)(B:Nat->Nat)(R:Nat->Value × List Nat):Prop where
 blk:∀ i,i < k->Blk w (B i) 179 #[.int .i64 (i:Nat),(R (2 * i+1)).1,(R (2 * i+2)).1]
 inj:∀ i j,i < k->j < k->B i=B j->i=j
 low:∀ i,i < k->base<=B i
 rw_:Rws w base (2 * k+1) B R
 mem:∀ a,a < 2 * k+1->∀ j∈(R a).2,j < k
 len:∀ a,(R a).2.length<=1000
 rest:∀ a,2 * k+1<=a->R a=(.slice none 0 0,[])
 jz:base<=w.heap.size
theorem Gr.grown{w w':World}{base k:Nat}{B:Nat->Nat}{R:Nat->Value × List Nat}{row:Option Nat}(h:Gr w base k B R)(hg:w.grownBy w' row)(h1:qg w 177 row)(h2:qg w 179 row):Gr w' base k B R:=
 ⟨fun i hi=>(h.blk i hi).grown hg (fun e=>h2 _ e.symm _ (h.blk i hi)),h.inj,h.low,h.rw_.grown hg h1,h.mem,h.len,h.rest,Nat.le_trans h.jz hg.size⟩
theorem Gr.new{w w':World}{base k:Nat}{B:Nat->Nat}{R:Nat->Value × List Nat}(h:Gr w base k B R)(hg:w.grownBy w' none):Gr w' base k B R:=h.grown hg (qg.none _ _) (qg.none _ _)
theorem Gr.form{w:World}{base k a:Nat}{B:Nat->Nat}{R:Nat->Value × List Nat}(h:Gr w base k B R)(ha:a < 2 * k+1):∃ A c,(R a).1=.slice A (R a).2.length c /\
   (0 < (R a).2.length->∃ g,A=some ⟨g,0,none⟩/\∀ j f,(R a).2[j]?=some f->w.cell? ⟨g,j,none⟩=some (.pointer (some ⟨B f,0,none⟩))):=by
 have hr:=h.rw_.rows a ha;rcases hr.2 with ⟨h1,h2⟩ | ⟨g,cap,cur,h1,_,hh,_,_,_,ht⟩
 . refine⟨none,0,by rw [h1,h2],fun h0=>?_⟩;omega
 . refine⟨some ⟨g,0,none⟩,cap,h1,fun _=>⟨g,rfl,fun j f hj=>?_⟩⟩;have hlt:=(List.getElem?_eq_some_iff.1 hj).1;rw [h1] at hr;rw [World.ownsRow.cellAt hr j (by omega)];simp [ptrs,hj]
theorem Gr.qaW{w w':World}{base k i c N j:Nat}{B:Nat->Nat}{R:Nat->Value × List Nat}{v':Value}(h:Gr w base k B R)(hi:i < k)(hc:c=1∨c=2)(hj:j < k)(hl:(R (2 * i+c)).2.length < 1000)(hg:w.grownBy w' (R (2 * i+c)).1.ownBlock)
   (ho:w'.ownsRow base 177 1 v' ((R (2 * i+c)).2.length+1) (ptrs B (R (2 * i+c)).2++[.pointer (some ⟨B j,0,none⟩)])) (hN:w.heap.size<=N) (hob:v'.ownBlock=(R (2 * i+c)).1.ownBlock∨v'.ownBlock=some N) :
   Blk w' (B i) 179 #[.int .i64 (i:Nat),(R (2 * i+1)).1,(R (2 * i+2)).1]/\Gr (w'.setCell ⟨B i,c,none⟩ v') base k B (upd R (2 * i+c) (v',(R (2 * i+c)).2++[j])):=by
 have ha:2 * i+c < 2 * k+1:=by omega
 have hbn:∀ i',i' < k->some (B i')≠(R (2 * i+c)).1.ownBlock:=fun i' hi' e=>qg.own (h.rw_.rows _ ha) (show 179≠177 by decide) _ e.symm _ (h.blk i' hi');have hb':∀ i',i' < k->Blk w' (B i') 179 #[.int .i64 (i':Nat),(R (2 * i'+1)).1,(R (2 * i'+2)).1]:=fun i' hi'=>(h.blk i' hi').grown hg (hbn i' hi');have hst:w'.grownBy (w'.setCell ⟨B i,c,none⟩ v') (some (B i)):=qa2 (p:=⟨B i,c,none⟩) (qag w' (some (B i))) (.inr rfl) v';refine⟨hb' i hi,?_,h.inj,h.low,(h.rw_.push ha hg ho hN hob).grown hst (qg.blk (hb' i hi) (by decide)),?_,?_,?_,?_⟩
 . intro i' hi';by_cases hii:i'=i
   . subst hii;have:=(hb' i' hi).qC c v';rcases hc with rfl | rfl
     . rw [upd_same,qar _ _ (by omega)];exact this
     . rw [upd_same,qar _ _ (by omega)];exact this
   . rw [qar _ _ (by omega),qar _ _ (by omega)];exact(hb' i' hi').far (fun e=>hii (h.inj _ _ hi' hi e)) _
 . intro a haa x hx;by_cases hae:a=2 * i+c
   . subst hae;rw [upd_same] at hx;rcases List.mem_append.1 hx with hx | hx
     . exact h.mem _ ha x hx
     . simp at hx;omega
   . rw [qar _ _ hae] at hx;exact h.mem a haa x hx
 . intro a;by_cases hae:a=2 * i+c
   . subst hae;rw [upd_same,List.length_append];simp;omega
   . rw [qar _ _ hae];exact h.len a
 . intro a haa;rw [qar _ _ (by omega)];exact h.rest a haa
 . rw [World.size_setCell];exact Nat.le_trans h.jz hg.size
theorem qx2:(Tryz.prog.info? 177).map (fun i=>(i.zero,i.size,i.bytes))=some (some (.pointer none),1,8):=by kernel_rfl
theorem q8o:(Tryz.prog.info? 179).map (fun i=>(i.zero,i.size,i.bytes))=some (some (.agg #[.int .i64 0,.slice none 0 0,.slice none 0 0]),3,56):=by kernel_rfl
theorem q88{w:World}{base k i j:Nat}{B:Nat->Nat}{R:Nat->Value × List Nat}(h:Gr w base k B R)(hi:i < k)(hj:j < k) :
   (binOp .eql 177 (.pointer (some ⟨B i,0,none⟩)) (.pointer (some ⟨B j,0,none⟩))).run Tryz.prog w=.ok (.bool (decide (i=j))) w:=by
 obtain⟨i0,hi0,_,hz1,_⟩:=info_parts q8o;by_cases hij:i=j
 . subst hij;rw [decide_eq_true rfl];exact run_eql_ptr_same w _ Tryz.underlying177 hi0
 . rw [decide_eq_false hij];exact run_eql_ptr_other w Tryz.underlying177 hi0 (by rw [hz1];decide) (fun e=>hij (h.inj i j hi hj (by injection e))) (h.blk i hi) (h.blk j hj)
theorem qh3{w:World}{base k n f:Nat}{B:Nat->Nat}{R:Nat->Value × List Nat}(h:Gr w base k B R)(hn:n < k)(hf:f < k){b:Bool}(hb:decide (f∈(R (2 * n+1)).2)=b) :
   Calls Tryz.prog 188 #[.pointer (some ⟨B n,0,none⟩),.pointer (some ⟨B f,0,none⟩)] w fun e w'=>e=.returned (.bool b)/\w=w':=by
 obtain⟨A,c,hA,hc⟩:=h.form (a:=2 * n+1) (by omega);have hlen:=h.len (2 * n+1);have c1:w.cell? ⟨B n,1,none⟩=some (R (2 * n+1)).1:=(h.blk n hn).cell 1;rw [hA] at c1;have hmem:=h.mem (2 * n+1) (by omega);generalize (R (2 * n+1)).2=l at *;have Hb:=Lib.hid hb;have yJ:=Lib.hid hmem;clear hb hA hmem;go_enter Tryz.func188,Tryz.ntmps188;go_wp2_with fail
 go_loop [12] (fun i=>∃ k':Nat,k'<=l.length/\i=.int .i64 k'/\(l.take k').all (fun x=>decide (x≠f))=true) (fun i=>l.length - (intOf i).toNat)
 case atStart=>exact⟨0,Nat.zero_le _,rfl,rfl⟩
 case round=>
   obtain⟨k',hk,rfl,hall⟩:=hrel;have q9:=Lib.hid hall;clear hall;by_cases hlt:k' < l.length
   . obtain⟨g,rfl,hcs⟩:=hc (by omega);have hx:=List.getElem?_eq_getElem hlt;have hcell:=hcs k' _ hx;have Hx:=Lib.hid hx;have hxk:=yJ.out _ (List.getElem_mem hlt);generalize l[k']=x at *;have he:=q88 h hxk hf;clear hcs hx;by_cases hxf:x=f
     . have Hr:Hid (b=true):=by
         show b=true;rw [<-Hb.out,decide_eq_true_eq,<-hxf];exact List.mem_of_getElem? Hx.out
       rw [decide_eq_true hxf] at he;clear hxf;go_wp2_with fail;go_ret;exact⟨by rw [Hr.out];rfl,rfl⟩
     . have Hxf:=Lib.hid hxf;rw [decide_eq_false hxf] at he;clear hxf;go_wp2_with fail;go_round
       case rel=>exact⟨k'+1,by omega,by go_num,by rw [qfw _ Hx.out,q9.out];simp [Hxf.out]⟩
       case measure=>simp [intOf];omega
   . have Hr:Hid (b=false):=by
       show b=false;rw [<-Hb.out,decide_eq_false_iff_not];have h1:=q9.out;rw [List.take_of_length_le (by omega)] at h1;intro hm;simpa using List.all_eq_true.1 h1 f hm
     go_wp2_with fail;go_ret;exact⟨by rw [Hr.out];rfl,rfl⟩
end
end Go.Proofs.YtacemdoejblgaaaGreatDoor

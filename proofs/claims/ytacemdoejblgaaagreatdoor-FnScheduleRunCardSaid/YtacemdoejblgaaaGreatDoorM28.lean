/- Part 28. Conditions: each statement's. -/
import Derived.Test.YtacemdoejblgaaaGreatDoorM27
namespace Go.Proofs.YtacemdoejblgaaaGreatDoor
set_option maxHeartbeats 6400000
set_option maxRecDepth 100000
section
open Go.RowKit
theorem LX.qO{w w':World}{base b:Nat}{cur:Array Value}{v:Value}{ll:List (List Int)}{xs:List Value}(h:LX w base v ll xs)(hg:w.grownBy w' (some b))(hB:Blk w b 3 cur)(hx:∀ u∈xs,u.ownBlock≠some b):LX w' base v ll xs:=by
 have hne:qg w 24 (some b):=qg.blk hB (by decide);refine⟨qch h.1 hg hne,fun i l hi=>?_⟩;obtain⟨u,k1,k2⟩:=h.2 i l hi;exact⟨u,k1,k2.qO hg (.inr (hx u (List.mem_of_getElem? k1)))⟩
theorem qf.block{w:World}{base g:Nat}{v:Value}{l:List Int}(h:qf w base v l)(hg:v.ownBlock=some g):∃ cur,Blk w g 3 cur:=by
 rcases h.2 with ⟨rfl,_⟩ | ⟨g',cap,cur,rfl,_,hh,_⟩
 . cases hg
 . injection hg with hg;subst hg;exact⟨cur,hh⟩
theorem Apart.zP{o:Value}{xs ys:List Value}(h:Apart (o::(xs++ys))){b:Nat}(hb:o.ownBlock=some b):(∀ u∈xs,u.ownBlock≠some b)/\(∀ u∈ys,u.ownBlock≠some b):=by
 have h1:=(List.pairwise_cons.1 h).1;exact⟨fun u hu=>h1 u (List.mem_append_left _ hu) b hb,fun u hu=>h1 u (List.mem_append_right _ hu) b hb⟩
structure jW(w:World)(base X:Nat)(d k o r:Value)(D:List (List Int))(N:List Int)(Rw:List (List Int))(xs ys:List Value):Prop where
 x:Blk w X 29 #[d,k,o,r]
 dq:LX w base d D xs
 dn:qf w base o N
 ro:LX w base r Rw ys
 al:Apart (o::(xs++ys))
 dr:∀ g,d.ownBlock=some g->r.ownBlock≠some g
section
variable {w w':World}{base X:Nat}{d k o r:Value}{D Rw:List (List Int)}{N:List Int}{xs ys:List Value}
theorem jW.new(h:jW w base X d k o r D N Rw xs ys)(hg:w.grownBy w' none):jW w' base X d k o r D N Rw xs ys:=⟨h.x.grown hg (by simp),h.dq.new hg,h.dn.new hg,h.ro.new hg,h.al,h.dr⟩
theorem jW.lts(h:jW w base X d k o r D N Rw xs ys):∀ u∈o::(xs++ys),∀ g,u.ownBlock=some g->base<=g/\g < w.heap.size:=by
 intro u hu g hg;rcases List.mem_cons.1 hu with rfl | hu
 . exact h.dn.lt g hg
 . rcases List.mem_append.1 hu with hu | hu
   . exact h.dq.lts u hu g hg
   . exact h.ro.lts u hu g hg
theorem jW.lay{c:qj}{w1:World}{xs ys:List Value}(h1:LX w1 base d c.qb xs)(h3:qf w1 base o c.done)(h4:LX w1 base r c.rows ys)(h5:Apart (o::(xs++ys)))(h6:∀ g,d.ownBlock=some g->r.ownBlock≠some g) :
   jW (w1.alloc (.cells #[d,k,o,r] 29)) base w1.heap.size d k o r c.qb c.done c.rows xs ys:=
 have hg:=World.grownBy_alloc w1 (.cells #[d,k,o,r] 29) none
 ⟨Blk.new _ _ _,h1.new hg,h3.new hg,h4.new hg,h5,h6⟩
theorem jW.setRow{gr n cap m s:Nat}{f:Value}{l:List Int}(h:jW w base X d k o (.slice (some ⟨gr,0,none⟩) n cap) D N Rw xs ys)(hm:m < Rw.length)(hf:qf w base f l)(hs:∀ u∈o::(xs++ys),∀ g,u.ownBlock=some g->g < s)(hfs:∀ g,f.ownBlock=some g->s<=g) :
   (∃ u,w.cell? ⟨gr,m,none⟩=some u/\w.frozen? ⟨gr,m,none⟩=false)/\w.grownBy (w.setCell ⟨gr,m,none⟩ f) (some gr) /\
   jW (w.setCell ⟨gr,m,none⟩ f) base X d k o (.slice (some ⟨gr,0,none⟩) n cap) D N (Rw.set m l) xs (ys.set m f):=by
 have hst:w.grownBy (w.setCell ⟨gr,m,none⟩ f) (some gr):=qa2 (p:=⟨gr,m,none⟩) (qag w (some gr)) (.inr rfl) _;have hI:qg w 3 (some gr):=h.ro.qV (by decide);have hE:qg w 29 (some gr):=h.ro.qV (by decide);refine⟨h.ro.cell hm,hst,h.x.grown hst (fun e=>by injection e with e;exact hE _ rfl _ (e ▸ h.x)),h.dq.far hst hI (fun e=>h.dr gr e rfl),h.dn.grown hst hI,h.ro.qC hm hf,?_,h.dr⟩;have hyl:ys.length=Rw.length:=h.ro.len
 have e:o::(xs++ys.set m f)=(o::(xs++ys)).set (xs.length+m+1) f:=by
   rw [List.set_cons_succ,List.set_append_right _ _ (by omega),show xs.length+m - xs.length=m by omega]
 rw [e];exact h.al.set hs hfs
theorem jW.put(h:jW w base X d k o r D N Rw xs ys){k':Value}:jW (w.setCell ⟨X,1,none⟩ k') base X d k' o r D N Rw xs ys:=by
 have hst:w.grownBy (w.setCell ⟨X,1,none⟩ k') (some X):=qa2 (p:=⟨X,1,none⟩) (qag w (some X)) (.inr rfl) _;have hn:qg w 3 (some X):=qg.blk h.x (by decide);have hn':qg w 24 (some X):=qg.blk h.x (by decide);exact⟨h.x.qC 1 _,h.dq.grown hst hn hn',h.dn.grown hst hn,h.ro.grown hst hn hn',h.al,h.dr⟩
theorem jW.more{o':Value}{N':List Int}(h:jW w base X d k o r D N Rw xs ys)(hg:w.grownBy w' o.ownBlock)(ho:qf w' base o' N')(hb:o'.ownBlock=o.ownBlock∨∃ b,o'.ownBlock=some b/\w.heap.size<=b) :
   w'.cell? ⟨X,2,none⟩=some o/\w'.frozen? ⟨X,2,none⟩=false/\jW (w'.setCell ⟨X,2,none⟩ o') base X d k o' r D N' Rw xs ys:=by
 have hEc:qg w 29 o.ownBlock:=h.dn.qV (by decide);have hx:=h.x.grown hg (fun e=>hEc _ e.symm _ h.x);have hst:w'.grownBy (w'.setCell ⟨X,2,none⟩ o') (some X):=qa2 (p:=⟨X,2,none⟩) (qag w' (some X)) (.inr rfl) _;have hn:qg w' 3 (some X):=qg.blk hx (by decide);have hn':qg w' 24 (some X):=qg.blk hx (by decide)
 have hdq:LX w' base d D xs:=by
   cases e:o.ownBlock with
   | none=>rw [e] at hg;exact h.dq.new hg
   | some b=>
     rw [e] at hg;obtain⟨cur,hB⟩:=h.dn.block e;exact h.dq.qO hg hB (h.al.zP e).1
 have hro:LX w' base r Rw ys:=by
   cases e:o.ownBlock with
   | none=>rw [e] at hg;exact h.ro.new hg
   | some b=>
     rw [e] at hg;obtain⟨cur,hB⟩:=h.dn.block e;exact h.ro.qO hg hB (h.al.zP e).2
 refine⟨hx.cell 2,hx.frozen 2,hx.qC 2 _,hdq.grown hst hn hn',ho.grown hst hn,hro.grown hst hn hn',?_,h.dr⟩;refine List.pairwise_cons.2 ⟨fun u hu g hg'=>?_,(List.pairwise_cons.1 h.al).2⟩;rcases hb with e | ⟨b,e,hbs⟩
 . rw [e] at hg';exact(List.pairwise_cons.1 h.al).1 u hu g hg'
 . rw [e] at hg';injection hg' with hg';intro hu';have:=(h.lts u (List.mem_cons_of_mem _ hu) g hu').2;omega
end
theorem LX.at_{w:World}{base g n cap k:Nat}{ll:List (List Int)}{xs:List Value}(h:LX w base (.slice (some ⟨g,0,none⟩) n cap) ll xs)(hk:k < ll.length):∃ l u,ll[k]?=some l/\xs[k]?=some u/\w.cell? ⟨g,k,none⟩=some u/\qf w base u l:=by
 obtain⟨h1,h2⟩:=h;rcases h1.2 with ⟨e,hz⟩ | ⟨g',cap',cur,e,hb,hh,hn,hm,hcs,ht⟩
 . cases e
 . injection e with e1 e2 e3;injection e1 with e1;injection e1 with e1;subst e1;obtain⟨u,k1,k2⟩:=h2 k _ (List.getElem?_eq_getElem hk);refine⟨_,u,List.getElem?_eq_getElem hk,k1,?_,k2⟩;have hB:Blk w g 24 cur:=hh;rw [hB.cell];rw [<-ht,List.getElem?_take] at k1;split at k1
   . simpa using k1
   . cases k1
theorem LX.form{w:World}{base n:Nat}{v:Value}{ll:List (List Int)}{xs:List Value}(h:LX w base v ll xs)(hn:ll.length=n)(h0:0 < n):∃ g cap,v=.slice (some ⟨g,0,none⟩) n cap/\n<=cap/\base<=g:=by
 subst hn;rcases h.1.2 with ⟨rfl,hz⟩ | ⟨g,cap,cur,rfl,hb,hh,hn,_,hcs,ht⟩
 . omega
 . exact⟨g,cap,rfl,hn,hb⟩
theorem LX.turn{w w':World}{base g n cap k:Nat}{ll:List (List Int)}{xs:List Value}{u u':Value}{l':List Int}(h:LX w base (.slice (some ⟨g,0,none⟩) n cap) ll xs)(hk:k < ll.length)(hu:xs[k]?=some u)(hg:w.grownBy w' u.ownBlock)(hap:Apart xs)(ho:qf w' base u' l')(hI:∃ l,qf w base u l) :
   (∃ u0,w'.cell? ⟨g,k,none⟩=some u0/\w'.frozen? ⟨g,k,none⟩=false)/\RL (w'.setCell ⟨g,k,none⟩ u') (.slice (some ⟨g,0,none⟩) n cap) (ll.set k l')/\w'.grownBy (w'.setCell ⟨g,k,none⟩ u') (some g)/\(∀ E,E≠24->qg w' E (some g)):=by
 obtain⟨l0,hI⟩:=hI;have hNu:qg w 24 u.ownBlock:=hI.qV (by decide);have hcs:=qch h.1 hg hNu
 have hn:n=ll.length:=by
   rcases h.1.2 with ⟨e,_⟩ | ⟨_,_,_,e,_⟩
   . cases e
   . injection e
 subst hn;have hst:w'.grownBy (w'.setCell ⟨g,k,none⟩ u') (some g):=qa2 (p:=⟨g,k,none⟩) (qag w' (some g)) (.inr rfl) _;have s1:=World.ownsRow.stored hcs k u';have qdJ:∀ E,E≠24->qg w' E (some g):=fun E hE=>qg.own (v:=.slice (some ⟨g,0,none⟩) ll.length cap) hcs hE;have hne:=qdJ 3 (by decide);have hxl:=h.len
 have hcell:∃ u0,w'.cell? ⟨g,k,none⟩=some u0/\w'.frozen? ⟨g,k,none⟩=false:=by
   rcases hcs.2 with ⟨e0,hz⟩ | ⟨g',cap',cur,e0,hb,hh,hn,hm,hcs2,ht⟩
   . cases e0
   . injection e0 with e1 e2 e3;injection e1 with e1;injection e1 with e1;subst e1;have hB:Blk w' g 24 cur:=hh;exact⟨_,by rw [hB.cell];exact Array.getElem?_eq_getElem (by rw [hcs2];omega),hB.frozen _⟩
 refine⟨hcell,⟨xs.set k u',?_,fun i x hi=>?_⟩,hst,qdJ⟩
 . rw [List.length_set];exact TS.jC s1.1
 . by_cases hik:i=k
   . subst hik;rw [List.getElem?_set_self hk] at hi;obtain rfl:l'=x:=by simpa using hi
     exact⟨u',by rw [List.getElem?_set_self (by omega)],ho.ri.grown hst hne⟩
   . rw [List.getElem?_set_ne (fun e=>hik e.symm)] at hi;obtain⟨y,k1,k2⟩:=h.2 i x hi;refine⟨y,by rw [List.getElem?_set_ne (fun e=>hik e.symm)];exact k1,?_⟩
     have hyu:y.ownBlock=none∨y.ownBlock≠u.ownBlock:=by
       cases hy:y.ownBlock with
       | none=>exact .inl rfl
       | some b=>
         right;intro e;rw [Apart.iff] at hap;rcases Nat.lt_or_gt_of_ne hik with hlt | hlt
         . exact hap i k y u b hlt k1 hu hy e.symm
         . exact hap k i u y b hlt hu k1 e.symm hy
     exact((k2.qO hg hyu).ri).grown hst hne
theorem qf.zk{w w':World}{base:Nat}{v u:Value}{l:List Int}(h:qf w base v l)(hg:w.grownBy w' u.ownBlock)(hne:∀ b,v.ownBlock=some b->u.ownBlock≠some b):qf w' base v l:=by
 cases hv:v.ownBlock with
 | none=>exact h.qO hg (.inl hv)
 | some b=>exact h.qO hg (.inr (by rw [hv];exact fun e=>hne b hv e.symm))
theorem LX.zk{w w':World}{base b0:Nat}{v u:Value}{l:List Int}{ll:List (List Int)}{xs:List Value}(h:LX w base v ll xs)(hg:w.grownBy w' u.ownBlock)(hu:qf w b0 u l)(hne:∀ b,u.ownBlock=some b->∀ x∈xs,x.ownBlock≠some b):LX w' base v ll xs:=by
 cases e:u.ownBlock with
 | none=>rw [e] at hg;exact h.new hg
 | some b=>
   rw [e] at hg;obtain⟨cur,hB⟩:=hu.block e;exact h.qO hg hB (hne b e)
theorem Apart.vO{o u:Value}{xs ys:List Value}(h:Apart (o::(xs++ys)))(hu:u∈xs){b:Nat}(hb:u.ownBlock=some b):(o.ownBlock≠some b)/\∀ y∈ys,y.ownBlock≠some b:=by
 obtain⟨h1,h2⟩:=List.pairwise_cons.1 h;refine⟨fun e=>h1 u (List.mem_append_left _ hu) b e hb,fun y hy=>(List.pairwise_append.1 h2).2.2 u hu y hy b hb⟩
theorem qhu{ops:Array Oper}{rest:List Oper}{o:Oper}{a:Act}{Q:Exit->Act->World->Prop}{w:World}{u:Int}
   (s x:Operand) (hgd:o.guard=none) (ho:o.op=.call { callee:=.builtin .append,args:=#[s,x],argTypes:=#[24,24] })
   {base:Nat} {v:Value} {l:List Int} (hown:qf w base v l) (hn:l.length<=1000000000) (hbase:base<=w.heap.size)
   (hs:a.eval s=v) {N:Nat} (hx:a.eval x=.slice (some ⟨N,0,none⟩) 1 1) (hN:N=w.heap.size)
   (h:∀ v' w',qf w' base v' (l++[u])->w.grownBy w' v.ownBlock->(v'.ownBlock=v.ownBlock∨∃ b,v'.ownBlock=some b/\w.heap.size<=b)->wpList Tryz.prog ops Q rest (a.put o.dst v') w') :
   wpList Tryz.prog ops Q (o::rest) a (w.alloc (.cells #[.int .i64 u] 3)):=by
 subst hN
 exact qfx s x 24 (.int .i64 0) 1 8 Tryz.underlying24 qkm rfl (by decide) (by decide) hgd ho hown hn hbase rfl (by simp [Value.oneCell']) hs hx
   fun v' w' h1 h2 h3=>h v' w' (by unfold qf;simpa using h1) h2 (h3.imp id fun e=>⟨_,e,by omega⟩)
theorem CV.xm{w w':World}{B:Nat}{d k o r:Value}{c:qj}(h:CV w (.agg #[d,k,o,r]) c)(hg:w.grownBy w' none)(hB:Blk w' B 29 #[d,k,o,r]):jy w' B d k o r c:=by
 have h':=h.new hg;obtain⟨d',k',o',r',e,q1,q2,q3,q4⟩:=h';injection e with e;injection e with e;injection e with e1 e;injection e with e2 e;injection e with e3 e;injection e with e4 e;subst e1 e2 e3 e4;exact⟨hB,q1,q2,q3,q4⟩
theorem q4w{nd:Node}{a:Int}(h:qbf nd a=true):nd.row.length<=1000:=by
 obtain⟨_,_,_,h4⟩:=qib h;by_cases hk:nd.kind=0
 . have:=qbx (h4 hk);omega
 . unfold qbf at h;simp only [Bool.and_eq_true] at h;have:=h.2;rw [if_neg hk] at this;simp only [decide_eq_true_eq] at this;omega
theorem Blk.past{w w':World}{g:Nat}{t:TypeId}{cs:Array Value}{row:Option Nat}(h:Blk w g t cs)(hg:w.grownBy w' row)(hr:qg w t row):Blk w' g t cs:=h.grown hg (fun e=>hr g e.symm _ h)
structure vE(w wx:World)(base X:Nat)(box:Array Value)(d k o r:Value)(D:List (List Int))(N:List Int)(Rw:List (List Int))(xs ys:List Value):Prop where
 o:jW wx base X d k o r D N Rw xs ys
 b:Blk wx w.heap.size 29 box
 res:Blk wx (w.heap.size+1) 29 #[.slice none 0 0,.slice none 0 0,.slice none 0 0,.slice none 0 0]
 g:w.grownBy wx none
theorem vE.new{w wx wy:World}{base X:Nat}{box:Array Value}{d k o r:Value}{D Rw:List (List Int)}{N:List Int}{xs ys:List Value}(M:vE w wx base X box d k o r D N Rw xs ys)(hg:wx.grownBy wy none):vE w wy base X box d k o r D N Rw xs ys:=
 ⟨M.o.new hg,M.b.grown hg (by simp),M.res.grown hg (by simp),qac M.g hg⟩
def q0h(w:World)(c:qj)(e:Ending)(w':World):Prop:=∃ v,e=.returned v/\CV w' v c/\w.grownBy w' none
structure vU(qa:List Node)(c:qj)(k m:Nat):Prop where
 pv:qae qa=true
 k:k < c.qb.length
 m:m < qa.length
 cl:c.counts.length=qa.length
 cs:∀ y∈c.counts,-1000<=y/\y<=1000
 rl:c.rows.length=qa.length
 d4:c.qb.length<=4
 dl:∀ l∈c.qb,l.length<=1000
 rw:∀ l∈c.rows,l.length<=1000
 dn:c.done.length<=1000
def qrh(qa:List Node)(c:qj)(k m:Nat)(nd:Node):qj:=
 { qb:=c.qb.set k (c.qb.getD k []++qbl qa c.counts m),counts:=qbi qa c.counts m,done:=c.done++[(m:Int)],rows:=c.rows.set m (qy nd c.rows) }
theorem qw5(pv v:Value)(qa:List Node)(c:qj)(k m:Nat)(nd:Node)(w:World)(hp:RN w pv qa)(h:CV w v c)(hd:vU qa c k m)(hx:qa[m]?=some nd) :
   Calls Tryz.prog 127 #[pv,v,.int .i64 k,.int .i64 m] w (q0h w (qrh qa c k m nd)):=by
 obtain⟨A,n,cp,rfl,-,hn,-⟩:=hp.form';obtain⟨A1,n1,c1,A2,n2,c2,A3,n3,c3,A4,n4,c4,rfl,h1,h2,h3,h4⟩:=h.form;have hX:=h.box;have hn1:=h1.len;have hn4:=h4.len;have hk1:k < n1:=by have:=hd.k;omega
 have hm1:m < n:=by have:=hd.m;omega
 have hm4:m < n4:=by have:=hd.rl;have:=hd.m;omega
 have Hd:=Lib.hid hd;have Hx:=Lib.hid hx;have Hn:=Lib.hid hn;have Hn1:=Lib.hid hn1;have Hn4:=Lib.hid hn4;have hR0:=Blk.new (w.alloc (.cells #[.slice A1 n1 c1,.slice A2 n2 c2,.slice A3 n3 c3,.slice A4 n4 c4] 29)) 29 #[.slice none 0 0,.slice none 0 0,.slice none 0 0,.slice none 0 0];rw [World.size_alloc] at hR0;have hX0:=hX.new (World.grownBy_alloc _ (.cells #[.slice none 0 0,.slice none 0 0,.slice none 0 0,.slice none 0 0] 29) none);have hgW:w.grownBy ((w.alloc (.cells #[.slice A1 n1 c1,.slice A2 n2 c2,.slice A3 n3 c3,.slice A4 n4 c4] 29)).alloc (.cells #[.slice none 0 0,.slice none 0 0,.slice none 0 0,.slice none 0 0] 29)) none:=qap (qap (qag w none) _) _;have Hcv:=Lib.hid h;clear hn hn1 hn4 hd hx h1 h2 h3 h4 h hX;go_enter Tryz.func127,Tryz.ntmps127;go_upto_region 1 with fail;generalize ((w.alloc (.cells #[.slice A1 n1 c1,.slice A2 n2 c2,.slice A3 n3 c3,.slice A4 n4 c4] 29)).alloc (.cells #[.slice none 0 0,.slice none 0 0,.slice none 0 0,.slice none 0 0] 29))=W at hR0 hX0 hgW |-;have xJ:=hR0.lt;have yj:=hX0.b.lt;have d0:=hX0.d0;have d1:=hX0.d1;have d2:=hX0.d2;have d3:=hX0.d3;have hpW:=hp.new hgW;go_wp2_with fail;refine(qki _ c W hX0.cv (by have:=Hd.out.d4;omega) (fun l hl=>by have:=Hd.out.dl l hl;omega) (by have:=Hd.out.rl;have:=qal Hd.out.pv;omega) (fun l hl=>by have:=Hd.out.rw l hl;omega) (by have:=Hd.out.cl;have:=qal Hd.out.pv;omega) (by have:=Hd.out.dn;omega)).mono ?_;rintro e w1 ⟨v1,rfl,⟨d,kv,o,r,xs,ys,rfl,q1,q2,q3,q4,q5,q6⟩,hg1⟩;have g1:=qac hgW hg1;have hX1:=hX0.b.grown hg1 (by simp);have hR1:=hR0.grown hg1 (by simp);have qdK:=hg1.size;have qgE:=hgW.size;obtain⟨gd,j5,rfl,hcd,hbd⟩:=q1.form Hn1.out.symm (by omega);obtain⟨gr,zI,rfl,hcr,hbr⟩:=q4.form Hn4.out.symm (by omega);obtain⟨Ak,nk,ck,rfl⟩:=q2.val;obtain⟨Ao,no,co,rfl⟩:=q3.ri.val;clear d0 d1 d2 d3 hX0 hR0 hgW hpW hg1 q2;go_upto_region 2 with fail;have hO:=jW.lay (k:=.slice Ak nk ck) q1 q3 q4 q5 q6;have hgX:=World.grownBy_alloc w1 (.cells #[.slice (some ⟨gd,0,none⟩) n1 j5,.slice Ak nk ck,.slice Ao no co,.slice (some ⟨gr,0,none⟩) n4 zI] 29) none;generalize w1.alloc (.cells #[.slice (some ⟨gd,0,none⟩) n1 j5,.slice Ak nk ck,.slice Ao no co,.slice (some ⟨gr,0,none⟩) n4 zI] 29)=w2 at hO hgX |-;have hX2:=hX1.grown hgX (by simp);have hR2:=hR1.grown hgX (by simp);have g2:=qac g1 hgX;clear hX1 hR1 q1 q3 q4 q5 q6 g1 hgX;have hRX:w.heap.size+1 < w1.heap.size:=by omega
 have hbW:w.heap.size<=W.heap.size:=qgE;generalize w1.heap.size=X at hO hRX qdK |-;generalize W.heap.size=base at hO hbd hbr hbW qdK xJ yj;obtain⟨gp,ox,nd',fv,rv,rfl,hnd,e0,e1,e2,hf,hr⟩:=(hp.new g2).at_ hm1
 obtain rfl:nd=nd':=by
   have:=Hx.out;rw [hnd] at this;injection this with this;exact this.symm
 have vV:=qa4 Hd.out.pv hnd;have hf2:=vV.2.1
 have Hin:Hid (nd.kind≠0->∀ y∈nd.frm,0<=y/\y < c.rows.length):=by
   intro _ y hy;have:=qcj vV.1 hy;have:=Hd.out.rl;have:=Hd.out.m;omega
 have hxr:nd.row.length<=1000:=q4w vV.1;have hrl:c.rows.length<=1000:=by have:=Hd.out.rl;have:=qal Hd.out.pv;omega
 obtain⟨Af,nf,cf,rfl⟩:=hf.val;obtain⟨Arv,nrv,crv,rfl⟩:=hr.val;have hDr:w2.grownBy w2.drew none:=qax (qag _ none);have hB2:=Hcv.out.xm g2 hX2;have cc3:=hB2.d3;have x3:=hO.x.cell 3;have hfD:=hf.new hDr;have hrD:=hr.new hDr;have qdL:=hB2.ro.new hDr;have hOD:=hO.new hDr;have hmR:m < c.rows.length:=by rw [<-Hn4.out];exact hm4
 have qgF:base<=w2.drew.heap.size:=by have:=(hO.dq.lt gd rfl);have:w2.drew.heap.size=w2.heap.size:=rfl;omega
 have qiY:(m:Int) < (n:Int):=by omega
 have qiZ:(m:Int) < (n4:Int):=by omega
 clear vV hnd hf hr
 go_cut [] (fun wx=>∃ ys',vE w wx base X #[.slice A1 n1 c1,.slice A2 n2 c2,.slice A3 n3 c3,.slice A4 n4 c4] (.slice (some ⟨gd,0,none⟩) n1 j5) (.slice Ak nk ck) (.slice Ao no co) (.slice (some ⟨gr,0,none⟩) n4 zI) c.qb c.done (c.rows.set m (qy nd c.rows)) xs ys')
 case first=>
   go_region_law (go_simp;go_at_call 165;refine(qs2 _ _ nd c.rows _ ⟨_,_,rfl,by exact hfD,by exact hrD⟩ (by exact qdL) hf2 Hin.out hrl hxr).mono ?_;rintro e w3 ⟨v3,rfl,ho3,hg3⟩;have hO3:=hOD.new hg3;have x33:=hO3.x.cell 3;obtain⟨⟨u0,cR,fR⟩,qbL,M3⟩:=hO3.setRow hmR (ho3.lower qgF) (fun u hu g hg=>(hOD.lts u hu g hg).2) (fun g hg=>(ho3.lt g hg).1);have hEc:qg w3 29 (some gr):=hO3.ro.qV (by decide);have g4:=qa1 (qac g2 (qac hDr hg3)) qbL (fun g e=>by cases e;exact .inl (Nat.le_trans hbW hbr));have b4:=(hX2.grown (qac hDr hg3) (by simp)).past qbL hEc;have r4:=(hR2.grown (qac hDr hg3) (by simp)).past qbL hEc;obtain⟨A5,n5,c5,rfl⟩:=ho3.ri.val)
   all_goals
     go_wp2_with fail;go_meet;exact⟨_,M3,b4,r4,g4⟩
 case rest=>
   obtain⟨ys',M⟩:=hcut;clear hO hOD hX2 hR2 g2 hB2 hfD hrD qdL x3 cc3 e0 e1 e2;have hdl:c.done.length<=1000:=Hd.out.dn;have x2:=M.o.x.cell 2;have qgG:base<=wc.heap.size:=by have:=(M.o.dq.lt gd rfl);omega
   have qdM:=M.o.dn;go_wp2_with (at_builtin;go_must (refine qhu (.tmp 26) (.tmp 28) rfl rfl qdM (by omega) qgG rfl rfl rfl ?_));intro v5 w5 qA hg5 hb5;have xn:qg wc 29 (Value.ownBlock (.slice Ao no co)):=M.o.dn.qV (by decide);obtain⟨x25,f25,O5⟩:=M.o.more hg5 qA hb5;have qdN:=M.o.dn.gb M.g hg5 hbW;have b5:=(M.b.past hg5 xn);have r5:=(M.res.past hg5 xn);have hx5:=M.o.x.past hg5 xn;have j3:w5.grownBy (w5.setCell ⟨X,2,none⟩ v5) (some X):=qa2 (p:=⟨X,2,none⟩) (qag w5 (some X)) (.inr rfl) _;have g6:w.grownBy (w5.setCell ⟨X,2,none⟩ v5) none:=qa1 qdN j3 (fun g e=>by cases e;exact .inl (by omega));have b6:=b5.grown j3 (by simp;omega);have r6:=r5.grown j3 (by simp;omega);obtain⟨A5,n5,c5,rfl⟩:=qA.ri.val;clear qA hb5 xn qdN b5 r5 hx5 qdM hg5 x2 M j3;go_upto_region 4 with fail;generalize w5.setCell ⟨X,2,none⟩ (.slice A5 n5 c5)=w6 at O5 g6 b6 r6 |-;have M6:vE w w6 base X _ _ _ _ _ _ _ _ _ _:=⟨O5,b6,r6,g6⟩;clear O5 x25 f25 b6 r6 g6;have d1:=M6.b.cell 1;have hcl:c.counts.length=qa.length:=Hd.out.cl;have hB6:=Hcv.out.xm M6.g M6.b;go_wp2_with fail;refine(qrb _ _ qa c.counts m w6 (hp.new M6.g) hB6.ct Hd.out.pv hcl Hd.out.cs).mono ?_;rintro e w7 ⟨cv,uv,rfl,kV,kW,hg7⟩;have hgu:∀ u∈xs,∀ g,u.ownBlock=some g->g < w6.heap.size:=fun u hu g hg=>(M6.o.dq.lts u hu g hg).2;have M7:=M6.new hg7;obtain⟨Ac,nc,cc,rfl⟩:=kV.ri.val;obtain⟨Au,nu,cu,rfl⟩:=kW.ri.val;have qdO:w6.heap.size<=w7.heap.size:=hg7.size;generalize w6.heap.size=s6 at kV kW hgu qdO;clear d1 hB6 M6 hg7;have x1:=M7.o.x.cell 1;have y1:=M7.o.x.frozen 1;have zQ:w7.grownBy (w7.setCell ⟨X,1,none⟩ (.slice Ac nc cc)) (some X):=qa2 (p:=⟨X,1,none⟩) (qag w7 (some X)) (.inr rfl) _;have O8:=M7.o.put (k':=.slice Ac nc cc);have hn8:qg w7 3 (some X):=qg.blk M7.o.x (by decide);have kX:qf _ _ _ _:=kV.grown zQ hn8;have qbM:qf _ _ _ _:=kW.grown zQ hn8;have b8:=M7.b.grown zQ (by simp;omega);have r8:=M7.res.grown zQ (by simp;omega);have g8:w.grownBy (w7.setCell ⟨X,1,none⟩ (.slice Ac nc cc)) none:=qa1 M7.g zQ (fun g e=>by cases e;exact .inl (by omega));go_upto_region 6 with fail;clear x1 y1 hn8 M7 kV kW;have qgH:s6<=(w7.setCell ⟨X,1,none⟩ (.slice Ac nc cc)).heap.size:=Nat.le_trans qdO zQ.size;clear zQ;generalize w7.setCell ⟨X,1,none⟩ (.slice Ac nc cc)=w8 at O8 kX qbM b8 r8 g8 qgH |-;have hkD:k < c.qb.length:=Hd.out.k;have hal:=O8.al;have qgI:Apart xs:=(List.pairwise_cons.1 hal).2 |> Apart.left;obtain⟨l0,u,hl0,hu,hcu,hou⟩:=O8.dq.at_ hkD;have qdP:l0.length<=1000:=Hd.out.dl l0 (List.mem_of_getElem? hl0)
   have hnr:(qbl qa c.counts m).length<=1000:=by
     have h1:=List.length_filter_le (fun i=>has qa i (m:Int) && decide (c.counts.getD i 0=1)) (List.range qa.length);have h2:=qal Hd.out.pv;unfold qbl;rw [List.length_map];rw [List.length_range] at h1;omega
   have qgJ:Hid (c.qb.getD k []=l0):=by show _=_;rw [List.getD_eq_getElem?_getD,hl0];rfl
   obtain⟨Ae,ne,ce,rfl⟩:=hou.ri.val;have x0:=O8.x.cell 0;have qjA:(k:Int) < (n1:Int):=by omega
   have hD8:w8.grownBy w8.drew none:=qax (qag _ none);have vl:=hou.new hD8;have qdQ:=qbM.ri.new hD8;have hlen:l0.length+(qbl qa c.counts m).length<=1000000000:=by omega
   have hb8:base<=w8.drew.heap.size:=by have:w8.drew.heap.size=w8.heap.size:=rfl;have:=(O8.dq.lt gd rfl);omega
   have HO8:=Lib.hid O8
   go_cut [] (fun wx=>Blk wx X 29 #[.slice (some ⟨gd,0,none⟩) n1 j5,.slice Ac nc cc,.slice A5 n5 c5,.slice (some ⟨gr,0,none⟩) n4 zI]/\Blk wx (w.heap.size+1) 29 #[.slice none 0 0,.slice none 0 0,.slice none 0 0,.slice none 0 0]/\w.grownBy wx none /\
     RL wx (.slice (some ⟨gd,0,none⟩) n1 j5) (c.qb.set k (l0++qbl qa c.counts m))/\RI wx (.slice Ac nc cc) (qbi qa c.counts m)/\RI wx (.slice A5 n5 c5) (c.done++[(m:Int)])/\RL wx (.slice (some ⟨gr,0,none⟩) n4 zI) (c.rows.set m (qy nd c.rows)))
   case first=>
     go_region_law (refine qdt (w:=w8.drew) (base:=base) (v:=.slice Ae ne ce) (xv:=.slice Au nu cu) (l0:=l0) (l:=qbl qa c.counts m) (.tmp 48) (.tmp 49) rfl rfl vl qdQ hlen hb8 rfl rfl ?_;intro v9 w9 ko hg9;have hEc:qg w8.drew 29 (Value.ownBlock (.slice Ae ne ce)):=vl.qV (by decide);have hx9:=(O8.x.grown hD8 (by simp)).past hg9 hEc;have x90:=hx9.cell 0;obtain⟨⟨u0,cR,fR⟩,hRL,vF,hN9⟩:=(O8.dq.new hD8).turn hkD hu hg9 qgI ko ⟨_,vl⟩;obtain⟨A9,n9,c9,rfl⟩:=ko.ri.val)
     all_goals
       go_wp2_with fail;go_meet;have hum:=List.mem_of_getElem? hu;have hE9:=hN9 29 (by decide);have hI9:=hN9 3 (by decide);have g9:=qa1 (qac g8 hD8) hg9 (fun g e=>.inl (Nat.le_trans hbW (vl.lt g e).1));have c9:=(kX.new hD8).zk hg9 (fun b hb e=>by have:=(kX.lt b hb).1;have:=hgu _ hum b e;omega);have n9':=(O8.dn.new hD8).zk hg9 (fun b hb e=>(hal.vO hum e).1 hb);have r9:=(O8.ro.new hD8).zk hg9 vl (fun b hb=>(hal.vO hum hb).2)
       exact⟨hx9.past vF hE9,((r8.grown hD8 (by simp)).past hg9 hEc).past vF hE9,qa1 g9 vF (fun g e=>by cases e;exact .inl (Nat.le_trans hbW hbd)),hRL,c9.ri.grown vF hI9,n9'.ri.grown vF hI9,
         (r9.far vF hI9 (fun e=>O8.dr gd rfl e)).rl⟩
   case rest=>
     obtain⟨hx,hr,hg,hdq,hct,hdn,hro⟩:=hcut;have x0:=hx.cell 0;have x1:=hx.cell 1;have x2:=hx.cell 2;have x3:=hx.cell 3;have y0:=hr.cell 0;have y1:=hr.cell 1;have y2:=hr.cell 2;have y3:=hr.cell 3;have f0:=hr.frozen 0;have f1:=hr.frozen 1;have f2:=hr.frozen 2;have f3:=hr.frozen 3;have hst:=qdz wc (w.heap.size+1) (.slice (some ⟨gd,0,none⟩) n1 j5) (.slice Ac nc cc) (.slice A5 n5 c5) (.slice (some ⟨gr,0,none⟩) n4 zI);have hne:qg wc 3 (some (w.heap.size+1)):=qg.blk hr (by decide);have vf:qg wc 24 (some (w.heap.size+1)):=qg.blk hr (by decide)
     have hfin:q0h w (qrh qa c k m nd) (.returned (.agg #[.slice (some ⟨gd,0,none⟩) n1 j5,.slice Ac nc cc,.slice A5 n5 c5,.slice (some ⟨gr,0,none⟩) n4 zI])) ((((wc.setCell ⟨w.heap.size+1,0,none⟩ (.slice (some ⟨gd,0,none⟩) n1 j5)).setCell ⟨w.heap.size+1,1,none⟩ (.slice Ac nc cc)).setCell ⟨w.heap.size+1,2,none⟩ (.slice A5 n5 c5)).setCell ⟨w.heap.size+1,3,none⟩ (.slice (some ⟨gr,0,none⟩) n4 zI)):=by
       refine⟨_,rfl,⟨_,_,_,_,rfl,?_,hct.grown hst hne,hdn.grown hst hne,hro.grown hst hne vf⟩,qa1 hg hst (fun g e=>by cases e;exact .inl (Nat.le_succ _))⟩;have:=hdq.grown hst hne vf;unfold qrh;rw [qgJ.out];exact this
     have yH:=Lib.hid hfin;clear hfin hx hr hdq hct hdn hro hst hne vf HO8 O8 kX qbM b8 r8 vl qdQ hou;go_wp2_with fail;refine bodyPost_ret (v:=.agg #[.slice (some ⟨gd,0,none⟩) n1 j5,.slice Ac nc cc,.slice A5 n5 c5,.slice (some ⟨gr,0,none⟩) n4 zI]) (by simp [results,Tryz.results127,go_sem,y0,y1,y2,y3]) rfl ?_;exact yH.out
theorem qqx{qa:List Node}{c:qj}(h:qo qa c):∀ l∈c.rows,l.length<=1000:=by
 intro l hl;obtain⟨i,hi,rfl⟩:=List.getElem_of_mem hl;have hp:i < qa.length:=by rw [<-h.rl];exact hi
 have:=h.rows i hp;rw [List.getElem?_eq_getElem hi] at this;injection this with this;rw [this];unfold qen;split
 . have:=qbx (qxn h.pv hp).1;omega
 . simp
theorem qdu{qa:List Node}{c:qj}(h:qo qa c):∀ l∈c.qb,l.length<=10:=by
 intro l hl;obtain⟨i,hi,rfl⟩:=List.getElem_of_mem hl;exact(qb0.1 (h.xu (List.getElem?_eq_getElem hi))).1
theorem q0b{qa:List Node}{c:qj}(h:qo qa c){k m j:Nat}{r:List Int}(hk:k < c.qb.length)(hm:m < qa.length)(hr:r.length<=10):vU qa { c with qb:=c.qb.set j r } k m:=by
 have hp:=qal h.pv;refine⟨h.pv,by show k < (c.qb.set j r).length;rw [List.length_set];exact hk,hm,by show c.counts.length=_;rw [h.counts,qfe],?_,h.rl,by show (c.qb.set j r).length<=4;rw [List.length_set];exact h.d4,?_,(show ∀ l∈c.rows,l.length<=1000 from qqx h),?_⟩
 . show ∀ y∈c.counts,_;rw [h.counts];exact q0g h.pv _
 . show ∀ l∈c.qb.set j r,_;intro l hl;rcases List.mem_or_eq_of_mem_set hl with hl | rfl
   . have:=qdu h l hl;omega
   . omega
 . have:=qg5 h;show c.done.length<=1000;omega
theorem qwt{qa:List Node}{c:qj}(h:qo qa c){L:List (List Int)}{k m:Nat}{nd:Node}(hx:qa[m]?=some nd)(hr:(m:Int)∈qao qa c.done):qrh qa { c with qb:=L } k m nd=qft qa { c with qb:=L } k (m:Int):=by
 unfold qrh qft;rw [show ({ c with qb:=L }:qj).rows=c.rows from rfl,q0w h hx hr];rfl
theorem jW.xo{w:World}{base X gd n cap k:Nat}{kv o r f:Value}{D Rw:List (List Int)}{N C l:List Int}{xs ys:List Value}(h:jW w base X (.slice (some ⟨gd,0,none⟩) n cap) kv o r D N Rw xs ys)(hk:k < D.length)(hf:qf w base f l)(hC:RI w kv C) :
   (∃ u,w.cell? ⟨gd,k,none⟩=some u/\w.frozen? ⟨gd,k,none⟩=false)/\w.grownBy (w.setCell ⟨gd,k,none⟩ f) (some gd)/\qg w 29 (some gd)/\base<=gd /\
   Blk (w.setCell ⟨gd,k,none⟩ f) X 29 #[.slice (some ⟨gd,0,none⟩) n cap,kv,o,r]/\CV (w.setCell ⟨gd,k,none⟩ f) (.agg #[.slice (some ⟨gd,0,none⟩) n cap,kv,o,r]) ⟨D.set k l,C,N,Rw⟩:=by
 have hst:w.grownBy (w.setCell ⟨gd,k,none⟩ f) (some gd):=qa2 (p:=⟨gd,k,none⟩) (qag w (some gd)) (.inr rfl) _;have hI:qg w 3 (some gd):=h.dq.qV (by decide);have hE:qg w 29 (some gd):=h.dq.qV (by decide);exact⟨h.dq.cell hk,hst,hE,(h.dq.lt gd rfl).1,h.x.past hst hE,_,_,_,_,rfl,(h.dq.qC hk hf).rl,hC.grown hst hI,(h.dn.grown hst hI).ri,(h.ro.far hst hI (h.dr gd rfl)).rl⟩
theorem q4q{d l:List Int}{x:Int}(h:qc1 d=some (l,x)):x∈d/\l.length<=d.length:=by
 unfold qc1 at h;split at h
 . cases hg:d.getLast? with
   | none=>rw [hg] at h;cases h
   | some y=>
     rw [hg] at h;simp only [Option.map_some,Option.some.injEq,Prod.mk.injEq] at h;obtain⟨rfl,rfl⟩:=h;exact⟨List.mem_of_getLast? hg,by simp⟩
 . cases h
theorem qwu{d l:List Int}{x:Int}(h:qbj d=some (l,x)):x∈d/\l.length<=d.length:=by
 unfold qbj at h;split at h
 . cases d with
   | nil=>simp at h
   | cons y r=>
     simp only [List.head?_cons,Option.map_some,List.drop_succ_cons,List.drop_zero,Option.some.injEq,Prod.mk.injEq] at h;obtain⟨rfl,rfl⟩:=h;exact⟨by simp,by simp⟩
 . cases h
theorem qjc{qa:List Node}{c:qj}(H:qo qa c){k:Nat}{d:List Int}{x:Int}(hd:c.qb[k]?=some d)(hx:x∈d):∃ (m:Nat) (nd:Node),x=m/\qa[m]?=some nd/\(m:Int)∈qao qa c.done/\m < qa.length:=by
 have hxr:x∈qao qa c.done:=(H.dq.mem_iff).1 (List.mem_flatten.2 ⟨d,List.mem_of_getElem? hd,hx⟩);obtain⟨m,hm,rfl,_⟩:=(qc5 H.pv).1 hxr;exact⟨m,qa[m],rfl,List.getElem?_eq_getElem hm,hxr,hm⟩
def qU(w:World)(r:Option qj)(e:Ending)(w':World):Prop:=match r with
 | some c=>∃ v,e=.returned (.tuple #[v,.bool true])/\CV w' v c/\w.grownBy w' none
 | none=>∃ v,e=.returned (.tuple #[v,.bool false])/\CV w' v qf7/\w.grownBy w' none
theorem qfc{w wx:World}(hg:w.grownBy wx none):qU w none (.returned (.tuple #[.agg #[.slice none 0 0,.slice none 0 0,.slice none 0 0,.slice none 0 0],.bool false])) ((((wx.setCell ⟨w.heap.size+1,0,none⟩ (.slice none 0 0)).setCell ⟨w.heap.size+1,1,none⟩ (.slice none 0 0)).setCell ⟨w.heap.size+1,2,none⟩ (.slice none 0 0)).setCell ⟨w.heap.size+1,3,none⟩ (.slice none 0 0)):=
 ⟨_,rfl,CV.zero _,qa1 hg (qdz wx (w.heap.size+1) (.slice none 0 0) (.slice none 0 0) (.slice none 0 0) (.slice none 0 0)) (fun g e=>by cases e;exact .inl (Nat.le_succ _))⟩
theorem q0c{w wx:World}{c:qj}{d k o r:Value}(hg:w.grownBy wx none)(hR:Blk wx (w.heap.size+1) 29 #[.slice none 0 0,.slice none 0 0,.slice none 0 0,.slice none 0 0])(hc:CV wx (.agg #[d,k,o,r]) c):qU w (some c) (.returned (.tuple #[.agg #[d,k,o,r],.bool true])) ((((wx.setCell ⟨w.heap.size+1,0,none⟩ d).setCell ⟨w.heap.size+1,1,none⟩ k).setCell ⟨w.heap.size+1,2,none⟩ o).setCell ⟨w.heap.size+1,3,none⟩ r):=
 have hst:=qdz wx (w.heap.size+1) d k o r
 ⟨_,rfl,hc.grown hst (qg.blk hR (by decide)) (qg.blk hR (by decide)),qa1 hg hst (fun g e=>by cases e;exact .inl (Nat.le_succ _))⟩
structure j7(w W:World)(d k o r:Value)(c:qj):Prop where
 b:jy W w.heap.size d k o r c
 res:Blk W (w.heap.size+1) 29 #[.slice none 0 0,.slice none 0 0,.slice none 0 0,.slice none 0 0]
 g:w.grownBy W none
theorem j7.start{w:World}{d k o r:Value}{c:qj}(h:CV w (.agg #[d,k,o,r]) c):j7 w ((w.alloc (.cells #[d,k,o,r] 29)).alloc (.cells #[.slice none 0 0,.slice none 0 0,.slice none 0 0,.slice none 0 0] 29)) d k o r c:=by
 have hR0:=Blk.new (w.alloc (.cells #[d,k,o,r] 29)) 29 #[.slice none 0 0,.slice none 0 0,.slice none 0 0,.slice none 0 0];rw [World.size_alloc] at hR0;exact⟨h.box.new (World.grownBy_alloc _ _ none),hR0,qap (qap (qag w none) _) _⟩
theorem j7.new{w W W':World}{d k o r:Value}{c:qj}(B:j7 w W d k o r c)(hg:W.grownBy W' none):j7 w W' d k o r c:=⟨B.b.new hg,B.res.grown hg (by simp),qac B.g hg⟩
theorem qqy{qa:List Node}{c:qj}{w:Int}(h:qaw qa c=false):qci qa c w=none:=by unfold qci;rw [h];rfl
theorem qqz{qa:List Node}{c:qj}{w:Int}(h:qa9 c w=false):qci qa c w=none:=by unfold qci;rw [h,Bool.and_false];rfl
theorem qs3{qa:List Node}{c:qj}{k:Nat}(hv:qaw qa c=true)(hk:k < c.qb.length){d:List Int}(hd:c.qb[k]?=some d):qci qa c (k:Int)=(qc1 d).map fun x=>qft qa { c with qb:=c.qb.set k x.1 } k x.2:=by
 have H:=qbk.1 hv;have hw:qa9 c (k:Int)=true:=qbh.2 ⟨Int.natCast_nonneg k,by omega⟩;unfold qci qc1;rw [hv,hw,H.xu hd,Bool.and_true,if_pos rfl,if_pos rfl,Int.toNat_natCast,List.getD_eq_getElem?_getD,hd];simp only [Option.getD_some];cases d.getLast? <;> rfl
theorem qq0(pv v:Value)(qa:List Node)(c:qj)(wk:Int)(w:World)(hp:RN w pv qa)(h:CV w v c)(hpl:qa.length<=1000000000)(hfit:c.qb.length<=1048576/\∀ d∈c.qb,d.length<=1048576) :
   Calls Tryz.prog 78 #[pv,v,.int .i64 wk] w (qU w (qci qa c wk)):=by
 obtain⟨A,n,cp,rfl,-,hn,-⟩:=hp.form';obtain⟨A1,n1,c1,A2,n2,c2,A3,n3,c3,A4,n4,c4,rfl,h1,-,-,-⟩:=h.form;have B0:=j7.start h;have hn1:=h1.len;have qdR:n1<=1048576:=by omega
 have Hn1:=Lib.hid hn1;have qD:=Lib.hid hfit.2;clear hn hn1 h1 h hfit;by_cases hv:qaw qa c=true
 . have Hv:=Lib.hid hv;by_cases hin:0<=wk/\wk<=(n1:Int) - 1
   . have Hin:Hid ((decide (0<=wk) && decide (wk<=(n1:Int) - 1))=true):=by show _=_;simp [hin.1,hin.2]
     obtain⟨k,rfl⟩:=Int.eq_ofNat_of_zero_le hin.1;have hk:k < n1:=by omega
     clear hv hin;go_enter Tryz.func78,Tryz.ntmps78;go_upto_region 1 with fail;generalize ((w.alloc (.cells #[.slice A1 n1 c1,.slice A2 n2 c2,.slice A3 n3 c3,.slice A4 n4 c4] 29)).alloc (.cells #[.slice none 0 0,.slice none 0 0,.slice none 0 0,.slice none 0 0] 29))=W at B0 |-;have d0:=B0.b.d0;have d1:=B0.b.d1;have d2:=B0.b.d2;have d3:=B0.b.d3;go_wp2_with fail;refine(qbz _ _ qa c W (hp.new B0.g) B0.b.cv hpl qD.out Hv.out).mono ?_;rintro e w1 ⟨rfl,hg1⟩;have B1:=B0.new hg1;clear B0 hg1 d0 d1 d2 d3;have d0:=B1.b.d0;have d1:=B1.b.d1;have d2:=B1.b.d2;have d3:=B1.b.d3;have hkD:k < c.qb.length:=by rw [<-Hn1.out];exact hk
     obtain⟨g,o,d,Bd,md,ed,rfl,hd,q0,hrd,-,-,-⟩:=B1.b.dq.at_ hk;have hki:(k:Int) < (n1:Int):=by omega
     have Heq:=Lib.hid (qs3 Hv.out hkD hd);have Hd:=Lib.hid hd;clear hd;go_wp2_with fail;refine(qdl _ _ _ _ Hin.out).mono ?_;rintro e w2 ⟨rfl,rfl⟩;go_wp2_with fail;refine(qow _ d w1 hrd).mono ?_;cases jT:qc1 d with
     | none=>
       rintro e w2 ⟨u,y,rfl,hu,hg2⟩;have B2:=B1.new hg2;have Hr:Hid (qci qa c (k:Int)=none):=by show _=_;rw [Heq.out,jT];rfl
       have y0:=B2.res.cell 0;have y1:=B2.res.cell 1;have y2:=B2.res.cell 2;have y3:=B2.res.cell 3;have f0:=B2.res.frozen 0;have f1:=B2.res.frozen 1;have f2:=B2.res.frozen 2;have f3:=B2.res.frozen 3;have hfin:=Lib.hid (qfc B2.g);clear jT B1 B2 d0 d1 d2 d3 hg2 q0 hrd;obtain⟨Au,nu,cu,rfl⟩:=hu.val;go_wp2_with fail;refine bodyPost_ret (v:=.tuple #[.agg #[.slice none 0 0,.slice none 0 0,.slice none 0 0,.slice none 0 0],.bool false]) (by simp [results,Tryz.results78,go_sem,y0,y1,y2,y3]) rfl ?_;rw [Hr.out];exact hfin.out
     | some lx=>
       obtain⟨l,x⟩:=lx;rintro e w2 ⟨u,rfl,hu,hg2⟩;have H:=qbk.1 Hv.out;obtain⟨hxd,hll⟩:=q4q jT;have jF:l.length<=10:=Nat.le_trans hll (qdu H d (List.mem_of_getElem? Hd.out));obtain⟨m,nd,rfl,hnd,vG,hmp⟩:=qjc H Hd.out hxd;have HH:=Lib.hid H;have Hr:Hid (qci qa c (k:Int)=some (qrh qa { c with qb:=c.qb.set k l } k m nd)):=by show _=_;rw [Heq.out,jT,qwt H hnd vG];rfl
       have Hnd:=Lib.hid hnd;have hDo:Hid (vU qa { c with qb:=c.qb.set k l } k m):=q0b H hkD hmp jF;have B2:=B1.new hg2;have hs1:w.heap.size<=w1.heap.size:=B1.g.size;have hu':=hu.lower hs1;obtain⟨Au,nu,cu,rfl⟩:=hu.ri.val;clear jT H hxd hll jF hnd vG hmp hu B1 hg2 d0 d1 d2 d3 q0 hrd;have d0:=B2.b.d0;have d1:=B2.b.d1;have d2:=B2.b.d2;have d3:=B2.b.d3;go_wp2_with fail;refine(qki _ c w2 B2.b.cv (by have:=HH.out.d4;omega) (fun l hl=>by have:=qdu HH.out l hl;omega) (by have:=HH.out.rl;have:=qal HH.out.pv;omega) (fun l hl=>by have:=qqx HH.out l hl;omega) (by have:=HH.out.counts;rw [this,qfe];have:=qal HH.out.pv;omega) (by have:=qg5 HH.out;have:=qal HH.out.pv;omega)).mono ?_;rintro e w3 ⟨v3,rfl,⟨dv,kv,ov,rv,xs,ys,rfl,q1,q2,q3,q4,q5,q6⟩,hg3⟩;have B3:=B2.new hg3;have hu3:=hu'.new hg3;have hs2:w.heap.size<=w2.heap.size:=B2.g.size;obtain⟨gd,j5,rfl,hcd,hbd⟩:=q1.form Hn1.out.symm (by omega);obtain⟨Ar,nr,cr,rfl⟩:=q4.rl.val;obtain⟨Ak,nk,ck,rfl⟩:=q2.val;obtain⟨Ao,no,co,rfl⟩:=q3.ri.val;clear d0 d1 d2 d3 B2 hu' hg3;go_upto_region 7 with fail;have hO:=jW.lay (k:=.slice Ak nk ck) (q1.low hs2) (q3.lower hs2) (q4.low hs2) q5 q6;have hgX:=World.grownBy_alloc w3 (.cells #[.slice (some ⟨gd,0,none⟩) n1 j5,.slice Ak nk ck,.slice Ao no co,.slice Ar nr cr] 29) none;have q2':=q2.new hgX;have hu4:=hu3.new hgX;have B4:=B3.new hgX;have hRX:w.heap.size+1 < w3.heap.size:=B3.res.lt;generalize w3.alloc (.cells #[.slice (some ⟨gd,0,none⟩) n1 j5,.slice Ak nk ck,.slice Ao no co,.slice Ar nr cr] 29)=w4 at hO hgX q2' hu4 B4 |-;generalize w3.heap.size=X at hO hRX |-;obtain⟨⟨u0,cR,fR⟩,j3,hE5,xK,hx5,zf⟩:=hO.xo hkD hu4 q2';have x0:=hO.x.cell 0;have xL:=B4.res.past j3 hE5;have g5:=qa1 B4.g j3 (fun g e=>by cases e;exact .inl xK);clear q1 q2 q3 q4 q5 q6 hgX B3 hu3;go_upto_region 8 with fail;clear cR fR x0 j3 hE5 q2' hu4 B4 hO;generalize w4.setCell ⟨gd,k,none⟩ (.slice Au nu cu)=w5 at hx5 zf xL g5 |-;have x0:=hx5.cell 0;have x1:=hx5.cell 1;have x2:=hx5.cell 2;have x3:=hx5.cell 3;go_wp2_with fail;refine(qw5 _ _ qa { c with qb:=c.qb.set k l } k m nd w5 (hp.new g5) zf hDo.out Hnd.out).mono ?_;rintro e w6 ⟨v6,rfl,xM,hg6⟩;have zg:=xL.grown hg6 (by simp);have g6:=qac g5 hg6;obtain⟨B1',m1',e1',B2',m2',e2',B3',m3',e3',B4',m4',e4',rfl,-,-,-,-⟩:=xM.form;have hfin:=Lib.hid (q0c g6 zg xM);have y0:=zg.cell 0;have y1:=zg.cell 1;have y2:=zg.cell 2;have y3:=zg.cell 3;have f0:=zg.frozen 0;have f1:=zg.frozen 1;have f2:=zg.frozen 2;have f3:=zg.frozen 3;clear x0 x1 x2 x3 hx5 zf xL g5 hg6 xM zg g6;go_wp2_with fail;refine bodyPost_ret (v:=.tuple #[.agg #[.slice B1' m1' e1',.slice B2' m2' e2',.slice B3' m3' e3',.slice B4' m4' e4'],.bool true]) (by simp [results,Tryz.results78,go_sem,y0,y1,y2,y3]) rfl ?_;rw [Hr.out];exact hfin.out
   . have Hin:Hid ((decide (0<=wk) && decide (wk<=(n1:Int) - 1))=false):=by
       show _=_;rw [Bool.and_eq_false_iff,decide_eq_false_iff_not,decide_eq_false_iff_not];omega
     have Hr:Hid (qci qa c wk=none):=by
       show _=_;refine qqz ?_;unfold qa9;rw [<-Hn1.out,Bool.and_eq_false_iff,decide_eq_false_iff_not,decide_eq_false_iff_not];omega
     clear hv hin;go_enter Tryz.func78,Tryz.ntmps78;go_upto_region 1 with fail;generalize ((w.alloc (.cells #[.slice A1 n1 c1,.slice A2 n2 c2,.slice A3 n3 c3,.slice A4 n4 c4] 29)).alloc (.cells #[.slice none 0 0,.slice none 0 0,.slice none 0 0,.slice none 0 0] 29))=W at B0 |-;have d0:=B0.b.d0;have d1:=B0.b.d1;have d2:=B0.b.d2;have d3:=B0.b.d3;go_wp2_with fail;refine(qbz _ _ qa c W (hp.new B0.g) B0.b.cv hpl qD.out Hv.out).mono ?_;rintro e w1 ⟨rfl,hg1⟩;have B1:=B0.new hg1;clear B0 hg1 d0 d1 d2 d3;have d0:=B1.b.d0;have y0:=B1.res.cell 0;have y1:=B1.res.cell 1;have y2:=B1.res.cell 2;have y3:=B1.res.cell 3;have f0:=B1.res.frozen 0;have f1:=B1.res.frozen 1;have f2:=B1.res.frozen 2;have f3:=B1.res.frozen 3;have hfin:=Lib.hid (qfc B1.g);clear B1;go_wp2_with fail;refine(qdl _ _ _ _ Hin.out).mono ?_;rintro e w2 ⟨rfl,rfl⟩;go_wp2_with fail;refine bodyPost_ret (v:=.tuple #[.agg #[.slice none 0 0,.slice none 0 0,.slice none 0 0,.slice none 0 0],.bool false]) (by simp [results,Tryz.results78,go_sem,y0,y1,y2,y3]) rfl ?_;rw [Hr.out];exact hfin.out
 . have hv':qaw qa c=false:=by simpa using hv
   have Hv:=Lib.hid hv';have Hr:Hid (qci qa c wk=none):=qqy hv';clear hv hv';go_enter Tryz.func78,Tryz.ntmps78;go_upto_region 1 with fail;generalize ((w.alloc (.cells #[.slice A1 n1 c1,.slice A2 n2 c2,.slice A3 n3 c3,.slice A4 n4 c4] 29)).alloc (.cells #[.slice none 0 0,.slice none 0 0,.slice none 0 0,.slice none 0 0] 29))=W at B0 |-;have d0:=B0.b.d0;have d1:=B0.b.d1;have d2:=B0.b.d2;have d3:=B0.b.d3;go_wp2_with fail;refine(qbz _ _ qa c W (hp.new B0.g) B0.b.cv hpl qD.out Hv.out).mono ?_;rintro e w1 ⟨rfl,hg1⟩;have B1:=B0.new hg1;clear B0 hg1 d0 d1 d2 d3;have y0:=B1.res.cell 0;have y1:=B1.res.cell 1;have y2:=B1.res.cell 2;have y3:=B1.res.cell 3;have f0:=B1.res.frozen 0;have f1:=B1.res.frozen 1;have f2:=B1.res.frozen 2;have f3:=B1.res.frozen 3;have hfin:=Lib.hid (qfc B1.g);clear B1;go_wp2_with fail;refine bodyPost_ret (v:=.tuple #[.agg #[.slice none 0 0,.slice none 0 0,.slice none 0 0,.slice none 0 0],.bool false]) (by simp [results,Tryz.results78,go_sem,y0,y1,y2,y3]) rfl ?_;rw [Hr.out];exact hfin.out
end
end Go.Proofs.YtacemdoejblgaaaGreatDoor

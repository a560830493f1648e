/- Part 33. Conditions: each statement's. -/
import Derived.Test.YtacemdoejblgaaaGreatDoorM32
import Derived.LaidEql
import Derived.Stop.Asserts
import Derived.RowKitTokens
import Derived.Maps.OwnOps
import Derived.Maps.OwnSet
namespace Go.Proofs.YtacemdoejblgaaaGreatDoor
set_option maxHeartbeats 6400000
set_option maxRecDepth 100000
section
open Go.RowKit
theorem Apart.xp{xs:List Value}{k:Nat}{f:Value}(h:Apart xs)(hne:∀ u∈xs,∀ g,u.ownBlock=some g->f.ownBlock≠some g):Apart (xs.set k f):=by
 rw [Apart.iff] at *;intro i j u u' g hij hi hj hg;rw [List.getElem?_set] at hi hj;split at hi
 . rename_i e;subst e;split at hi
   . injection hi with hi;subst hi;rw [if_neg (by omega)] at hj;exact fun e'=>hne u' (List.mem_of_getElem? hj) g e' hg
   . cases hi
 . split at hj
   . split at hj
     . injection hj with hj;subst hj;exact hne u (List.mem_of_getElem? hi) g hg
     . cases hj
   . exact h i j u u' g hij hi hj hg
theorem QI.qO{w w':World}{base:Nat}{v:Value}{l:List Int}{row:Option Nat}(h:QI w base v l)(hg:w.grownBy w' row)(hr:v.ownBlock=none∨v.ownBlock≠row):QI w' base v l:=QS.apart h hg hr
def LQ(w:World)(base:Nat)(v:Value)(ll:List (List Int))(xs:List Value):Prop:=
 w.ownsRow base 24 1 v ll.length xs/\∀ (i:Nat) (l:List Int),ll[i]?=some l->∃ u,xs[i]?=some u/\QI w base u l
section
variable {w w':World}{v:Value}{ll:List (List Int)}{base:Nat}{row:Option Nat}{xs:List Value}
theorem LX.lq(h:LX w base v ll xs):LQ w base v ll xs:=⟨h.1,fun i l hi=>let ⟨u,k1,k2⟩:=h.2 i l hi;⟨u,k1,k2.qi⟩⟩
theorem LQ.grown(h:LQ w base v ll xs)(hg:w.grownBy w' row)(hr:qg w 3 row)(hr':qg w 24 row):LQ w' base v ll xs:=by
 refine⟨qch h.1 hg hr',fun i l hi=>?_⟩;obtain⟨u,k1,k2⟩:=h.2 i l hi;exact⟨u,k1,k2.grown hg hr⟩
theorem LQ.new(h:LQ w base v ll xs)(hg:w.grownBy w' none):LQ w' base v ll xs:=h.grown hg (qg.none _ _) (qg.none _ _)
theorem LQ.rl(h:LQ w base v ll xs):RL w v ll:=⟨xs,TS.jC h.1,fun i l hi=>let ⟨u,k1,k2⟩:=h.2 i l hi;⟨u,k1,k2.ri⟩⟩
theorem LQ.lt(h:LQ w base v ll xs):∀ g,v.ownBlock=some g->base<=g/\g < w.heap.size:=World.ownsRow.lt h.1
theorem LQ.len(h:LQ w base v ll xs):xs.length=ll.length:=by have:=h.1.1;omega
theorem LQ.lts(h:LQ w base v ll xs):∀ u∈xs,∀ g,u.ownBlock=some g->base<=g/\g < w.heap.size:=by
 intro u hu g hg;obtain⟨i,hi,rfl⟩:=List.getElem_of_mem hu;have hl:=h.len;obtain⟨u',k1,k2⟩:=h.2 i _ (List.getElem?_eq_getElem (by omega));rw [List.getElem?_eq_getElem hi] at k1;cases k1;exact k2.lt g hg
theorem LQ.low{a b:Nat}(h:LQ w a v ll xs)(hab:b<=a):LQ w b v ll xs:=by
 refine⟨⟨h.1.1,?_⟩,fun i l hi=>let ⟨u,k1,k2⟩:=h.2 i l hi;⟨u,k1,k2.low hab⟩⟩;rcases h.1.2 with h0 | ⟨g,cap,cur,h1,h2,h3⟩
 . exact .inl h0
 . exact .inr ⟨g,cap,cur,h1,Nat.le_trans hab h2,h3⟩
theorem LQ.qV(h:LQ w base v ll xs){E:TypeId}(hE:E≠24):qg w E v.ownBlock:=qg.own h.1 hE
theorem LQ.far{g:Nat}(h:LQ w base v ll xs)(hg:w.grownBy w' (some g))(hi:qg w 3 (some g))(hne:v.ownBlock≠some g):LQ w' base v ll xs:=by
 obtain⟨h1,h2⟩:=h;have hlt:=World.ownsRow.lt h1;refine⟨⟨h1.1,?_⟩,fun i l hl=>let ⟨u,k1,k2⟩:=h2 i l hl;⟨u,k1,k2.grown hg hi⟩⟩;rcases h1.2 with h0 | ⟨g',cap,cur,rfl,k2,k3,k4⟩
 . exact .inl h0
 . exact .inr ⟨g',cap,cur,rfl,k2,(hg.block g' (hlt g' rfl).2 (fun e=>hne (by rw [<-e];rfl))).trans k3,k4⟩
theorem LQ.qO{b:Nat}{cur:Array Value}(h:LQ w base v ll xs)(hg:w.grownBy w' (some b))(hB:Blk w b 3 cur)(hx:∀ u∈xs,u.ownBlock≠some b):LQ w' base v ll xs:=by
 have hne:qg w 24 (some b):=qg.blk hB (by decide);refine⟨qch h.1 hg hne,fun i l hi=>?_⟩;obtain⟨u,k1,k2⟩:=h.2 i l hi;exact⟨u,k1,k2.qO hg (.inr (hx u (List.mem_of_getElem? k1)))⟩
theorem LQ.form{n:Nat}(h:LQ w base v ll xs)(hn:ll.length=n)(h0:0 < n):∃ g cap,v=.slice (some ⟨g,0,none⟩) n cap/\n<=cap/\base<=g:=by
 subst hn;rcases h.1.2 with ⟨rfl,hz⟩ | ⟨g,cap,cur,rfl,hb,hh,hn,_,hcs,ht⟩
 . omega
 . exact⟨g,cap,rfl,hn,hb⟩
end
theorem LQ.cell{w:World}{base g n cap k:Nat}{ll:List (List Int)}{xs:List Value}(h:LQ w base (.slice (some ⟨g,0,none⟩) n cap) ll xs)(hk:k < ll.length):∃ u,w.cell? ⟨g,k,none⟩=some u/\w.frozen? ⟨g,k,none⟩=false:=by
 rcases h.1.2 with ⟨e0,hz⟩ | ⟨g',cap',cur,e0,hb,hh,hn,hm,hcs,ht⟩
 . cases e0
 . injection e0 with e1 e2 e3;injection e1 with e1;injection e1 with e1;subst e1 e3;have hB:Blk w g 24 cur:=hh;refine⟨cur[k]'(by rw [hcs];omega),?_,hB.frozen _⟩;rw [hB.cell];exact Array.getElem?_eq_getElem (by rw [hcs];omega)
theorem LQ.qC{w:World}{base g n cap k:Nat}{ll:List (List Int)}{l:List Int}{f:Value}{xs:List Value}(h:LQ w base (.slice (some ⟨g,0,none⟩) n cap) ll xs)(hk:k < ll.length)(hf:QI w base f l) :
   LQ (w.setCell ⟨g,k,none⟩ f) base (.slice (some ⟨g,0,none⟩) n cap) (ll.set k l) (xs.set k f):=by
 have hxl:=h.len;obtain⟨h1,h2⟩:=h
 have hn:n=ll.length:=by
   rcases h1.2 with ⟨e0,hz⟩ | ⟨g',cap',cur,e0,_⟩
   . cases e0
   . injection e0
 subst hn;have s1:=World.ownsRow.stored h1 k f;have hne:qg w 3 (some g):=qg.own (v:=.slice (some ⟨g,0,none⟩) ll.length cap) h1 (by decide);refine⟨by rw [List.length_set];exact s1.1,fun i x hi=>?_⟩;by_cases hik:i=k
 . subst hik;rw [List.getElem?_set_self hk] at hi;obtain rfl:l=x:=by simpa using hi
   exact⟨f,by rw [List.getElem?_set_self (by omega)],hf.grown s1.2 hne⟩
 . rw [List.getElem?_set_ne (fun e=>hik e.symm)] at hi;obtain⟨u,k1,k2⟩:=h2 i x hi;exact⟨u,by rw [List.getElem?_set_ne (fun e=>hik e.symm)];exact k1,k2.grown s1.2 hne⟩
structure jX(w:World)(base X:Nat)(d k o r:Value)(D:List (List Int))(N:List Int)(Rw:List (List Int))(xs ys:List Value):Prop where
 x:Blk w X 29 #[d,k,o,r]
 dq:LQ w base d D xs
 dn:qf w base o N
 ro:LX w base r Rw ys
 al:Apart (o::(xs++ys))
 dr:∀ g,d.ownBlock=some g->r.ownBlock≠some g
section
variable {w w':World}{base X:Nat}{d k o r:Value}{D Rw:List (List Int)}{N:List Int}{xs ys:List Value}
theorem jX.new(h:jX w base X d k o r D N Rw xs ys)(hg:w.grownBy w' none):jX w' base X d k o r D N Rw xs ys:=⟨h.x.grown hg (by simp),h.dq.new hg,h.dn.new hg,h.ro.new hg,h.al,h.dr⟩
theorem jX.lts(h:jX w base X d k o r D N Rw xs ys):∀ u∈o::(xs++ys),∀ g,u.ownBlock=some g->base<=g/\g < w.heap.size:=by
 intro u hu g hg;rcases List.mem_cons.1 hu with rfl | hu
 . exact h.dn.lt g hg
 . rcases List.mem_append.1 hu with hu | hu
   . exact h.dq.lts u hu g hg
   . exact h.ro.lts u hu g hg
theorem jX.setRow{gr n cap m:Nat}{f:Value}{l:List Int}(h:jX w base X d k o (.slice (some ⟨gr,0,none⟩) n cap) D N Rw xs ys)(hm:m < Rw.length)(hf:qf w base f l)(hne:∀ u∈o::(xs++ys),∀ g,u.ownBlock=some g->f.ownBlock≠some g) :
   (∃ u,w.cell? ⟨gr,m,none⟩=some u/\w.frozen? ⟨gr,m,none⟩=false)/\w.grownBy (w.setCell ⟨gr,m,none⟩ f) (some gr)/\base<=gr/\qg w 29 (some gr)/\qg w 3 (some gr)/\qg w 96 (some gr) /\
   jX (w.setCell ⟨gr,m,none⟩ f) base X d k o (.slice (some ⟨gr,0,none⟩) n cap) D N (Rw.set m l) xs (ys.set m f):=by
 have hst:w.grownBy (w.setCell ⟨gr,m,none⟩ f) (some gr):=qa2 (p:=⟨gr,m,none⟩) (qag w (some gr)) (.inr rfl) _;have hI:qg w 3 (some gr):=h.ro.qV (by decide);have hE:qg w 29 (some gr):=h.ro.qV (by decide);refine⟨h.ro.cell hm,hst,(h.ro.lt gr rfl).1,hE,hI,h.ro.qV (by decide),h.x.grown hst (fun e=>by injection e with e;exact hE _ rfl _ (e ▸ h.x)),h.dq.far hst hI (fun e=>h.dr gr e rfl),h.dn.grown hst hI,h.ro.qC hm hf,?_,h.dr⟩;have hyl:ys.length=Rw.length:=h.ro.len
 have e:o::(xs++ys.set m f)=(o::(xs++ys)).set (xs.length+m+1) f:=by
   rw [List.set_cons_succ,List.set_append_right _ _ (by omega),show xs.length+m - xs.length=m by omega]
 rw [e];exact h.al.xp hne
theorem jX.xO{gd n cap j:Nat}{f:Value}{l:List Int}(h:jX w base X (.slice (some ⟨gd,0,none⟩) n cap) k o r D N Rw xs ys)(hj:j < D.length)(hf:QI w base f l)(hne:∀ u∈o::(xs++ys),∀ g,u.ownBlock=some g->f.ownBlock≠some g) :
   (∃ u,w.cell? ⟨gd,j,none⟩=some u/\w.frozen? ⟨gd,j,none⟩=false)/\w.grownBy (w.setCell ⟨gd,j,none⟩ f) (some gd)/\base<=gd/\qg w 29 (some gd)/\qg w 3 (some gd) /\
   jX (w.setCell ⟨gd,j,none⟩ f) base X (.slice (some ⟨gd,0,none⟩) n cap) k o r (D.set j l) N Rw (xs.set j f) ys:=by
 have hst:w.grownBy (w.setCell ⟨gd,j,none⟩ f) (some gd):=qa2 (p:=⟨gd,j,none⟩) (qag w (some gd)) (.inr rfl) _;have hI:qg w 3 (some gd):=h.dq.qV (by decide);have hE:qg w 29 (some gd):=h.dq.qV (by decide);refine⟨h.dq.cell hj,hst,(h.dq.lt gd rfl).1,hE,hI,h.x.grown hst (fun e=>by injection e with e;exact hE _ rfl _ (e ▸ h.x)),h.dq.qC hj hf,h.dn.grown hst hI,h.ro.far hst hI (fun e=>h.dr gd rfl e),?_,h.dr⟩;have hxl:xs.length=D.length:=h.dq.len
 have e:o::(xs.set j f++ys)=(o::(xs++ys)).set (j+1) f:=by
   rw [List.set_cons_succ,List.set_append_left _ _ (by omega)]
 rw [e];exact h.al.xp hne
theorem jX.put(h:jX w base X d k o r D N Rw xs ys){k':Value}:jX (w.setCell ⟨X,1,none⟩ k') base X d k' o r D N Rw xs ys:=by
 have hst:w.grownBy (w.setCell ⟨X,1,none⟩ k') (some X):=qa2 (p:=⟨X,1,none⟩) (qag w (some X)) (.inr rfl) _;have hn:qg w 3 (some X):=qg.blk h.x (by decide);have hn':qg w 24 (some X):=qg.blk h.x (by decide);exact⟨h.x.qC 1 _,h.dq.grown hst hn hn',h.dn.grown hst hn,h.ro.grown hst hn hn',h.al,h.dr⟩
theorem jX.more{o':Value}{N':List Int}(h:jX w base X d k o r D N Rw xs ys)(hg:w.grownBy w' o.ownBlock)(ho:qf w' base o' N')(hb:o'.ownBlock=o.ownBlock∨∃ b,o'.ownBlock=some b/\w.heap.size<=b) :
   w'.cell? ⟨X,2,none⟩=some o/\w'.frozen? ⟨X,2,none⟩=false/\jX (w'.setCell ⟨X,2,none⟩ o') base X d k o' r D N' Rw xs ys:=by
 have hEc:qg w 29 o.ownBlock:=h.dn.qV (by decide);have hx:=h.x.grown hg (fun e=>hEc _ e.symm _ h.x);have hst:w'.grownBy (w'.setCell ⟨X,2,none⟩ o') (some X):=qa2 (p:=⟨X,2,none⟩) (qag w' (some X)) (.inr rfl) _;have hn:qg w' 3 (some X):=qg.blk hx (by decide);have hn':qg w' 24 (some X):=qg.blk hx (by decide)
 have hdq:LQ w' base d D xs:=by
   cases e:o.ownBlock with
   | none=>rw [e] at hg;exact h.dq.new hg
   | some b=>
     rw [e] at hg;obtain⟨cur,hB⟩:=h.dn.block e;exact h.dq.qO hg hB (h.al.zP e).1
 have hro:LX w' base r Rw ys:=by
   cases e:o.ownBlock with
   | none=>rw [e] at hg;exact h.ro.new hg
   | some b=>
     rw [e] at hg;obtain⟨cur,hB⟩:=h.dn.block e;exact h.ro.qO hg hB (h.al.zP e).2
 refine⟨hx.cell 2,hx.frozen 2,hx.qC 2 _,hdq.grown hst hn hn',ho.grown hst hn,hro.grown hst hn hn',?_,h.dr⟩;refine List.pairwise_cons.2 ⟨fun u hu g hg'=>?_,(List.pairwise_cons.1 h.al).2⟩;rcases hb with e | ⟨b,e,hbs⟩
 . rw [e] at hg';exact(List.pairwise_cons.1 h.al).1 u hu g hg'
 . rw [e] at hg';injection hg' with hg';intro hu';have:=(h.lts u (List.mem_cons_of_mem _ hu) g hu').2;omega
end
def qY(w:World)(base:Nat)(v:Value)(c:qj):Prop:=
 ∃ d k o r xs ys,v=.agg #[d,k,o,r]/\LQ w base d c.qb xs/\qf w base k c.counts/\qf w base o c.done/\LX w base r c.rows ys/\Apart (k::o::(xs++ys))/\(∀ g,d.ownBlock=some g->r.ownBlock≠some g)
theorem qY.cv{w:World}{base:Nat}{v:Value}{c:qj}(h:qY w base v c):CV w v c:=by
 obtain⟨d,k,o,r,xs,ys,rfl,h1,h2,h3,h4,_⟩:=h;exact⟨d,k,o,r,rfl,h1.rl,h2.ri,h3.ri,h4.rl⟩
theorem qY.new{w w':World}{base:Nat}{v:Value}{c:qj}(h:qY w base v c)(hg:w.grownBy w' none):qY w' base v c:=by
 obtain⟨d,k,o,r,xs,ys,rfl,h1,h2,h3,h4,h5⟩:=h;exact⟨d,k,o,r,xs,ys,rfl,h1.new hg,h2.new hg,h3.new hg,h4.new hg,h5⟩
theorem qY.grown{w w':World}{base:Nat}{v:Value}{c:qj}{row:Option Nat}(h:qY w base v c)(hg:w.grownBy w' row)(hr:qg w 3 row)(hr':qg w 24 row):qY w' base v c:=by
 obtain⟨d,k,o,r,xs,ys,rfl,h1,h2,h3,h4,h5⟩:=h;exact⟨d,k,o,r,xs,ys,rfl,h1.grown hg hr hr',h2.grown hg hr,h3.grown hg hr,h4.grown hg hr hr',h5⟩
theorem qY.low{w:World}{a b:Nat}{v:Value}{c:qj}(h:qY w a v c)(hab:b<=a):qY w b v c:=by
 obtain⟨d,k,o,r,xs,ys,rfl,h1,h2,h3,h4,h5⟩:=h;exact⟨d,k,o,r,xs,ys,rfl,h1.low hab,h2.low hab,h3.low hab,h4.low hab,h5⟩
end
section
open Go.RowKit Go.Extern.Stop Go.Stop Go.Extern
theorem q3s(v:Value)(w:World):(ReflectliteType.typeOf #[.iface 244 v]).run Tryz.prog w=.ok (.iface 213 (.agg #[.pointer (some ⟨1,244,none⟩)])) w:=by kernel_rfl
theorem qj6(v:Value)(w:World):(Go.method 379 213 v "Comparable").run Tryz.prog w=.ok (248,v) w:=by kernel_rfl
theorem qtx(w:World):((ReflectliteType.method fun t=>do Rtype.noPackHeld "Comparable" t;(fun a=>Value.bool a.comparable) <$> typeInfo t) #[.agg #[.pointer (some ⟨1,244,none⟩)]]).run Tryz.prog w=.ok (.bool true) w:=by kernel_rfl
theorem q7s:(Tryz.prog.info? 244).map (·.comparable)=some true:=by kernel_rfl
theorem q7t:(Tryz.prog.info? 268).map (·.size)=some 1:=by kernel_rfl
theorem q7u(v:Value)(xT:TypeId)(w:World):(Instr.typeAssert (.iface 171 v) xT 215 true).run Tryz.prog w=.ok (.tuple #[.nilIface,.bool false]) w:=run_typeAssert_lacksB Tryz.underlying215 (by kernel_rfl) (by kernel_rfl) v xT w
theorem q1h(v:Value)(xT:TypeId)(w:World):(Instr.typeAssert (.iface 171 v) xT 218 true).run Tryz.prog w=.ok (.tuple #[.iface 171 v,.bool true]) w:=run_typeAssert_hasB Tryz.underlying218 (by kernel_rfl) v xT w
theorem qp0(v:Value)(w:World):(Go.method 379 171 v "Unwrap").run Tryz.prog w=.ok (243,v) w:=by kernel_rfl
def qp(w:World)(a:Addr):Prop:=w.cell? ⟨0,0,none⟩=some (.iface 244 (.pointer (some a)))
theorem qp.new{w w':World}{a:Addr}(h:qp w a)(hg:w.grownBy w' none):qp w' a:=qdi h hg
theorem qry(s:ByteArray)(a:Addr)(w:World)(h:qp w a):Calls Tryz.prog 243 #[.agg #[.string s]] w fun e w'=>e=.returned (.iface 244 (.pointer (some a)))/\w.grownBy w' none:=by
 have h1:=h.new (World.grownBy_alloc w (.cells #[.string s] 171) none);unfold qp at h1;go_enter Tryz.func243,Tryz.ntmps243;go_wp2_with fail;go_ret;exact⟨rfl,World.grownBy_alloc _ _ _⟩
theorem q53(a:Addr)(w:World):(binOp BinOp.eql 119 .nilIface (.iface 244 (.pointer (some a)))).run Tryz.prog w=.ok (.bool false) w:=by kernel_rfl
theorem qvu(a:Addr)(w:World):Calls Tryz.prog 90 #[.nilIface,.iface 244 (.pointer (some a))] w fun e w'=>e=.returned (.bool false)/\w'=w:=by
 have e0:=q53 a;go_enter Tryz.func90,Tryz.ntmps90;go_wp2_with fail;go_ret;exact⟨rfl,rfl⟩
theorem q1i(s:ByteArray)(a:Addr)(w:World)(h:qp w a):Calls Tryz.prog 140 #[.iface 171 (.agg #[.string s]),.iface 244 (.pointer (some a)),.bool true] w fun e w'=>e=.returned (.bool true)/\w.grownBy w' none:=by
 obtain⟨i,hi,qgV⟩:=Option.map_eq_some_iff.1 q7s;obtain⟨j,hj,hjs⟩:=Option.map_eq_some_iff.1 q7t;have n1:=q7u;have n2:=q1h;have n3:=qp0;have hty:=fun w=>run_eql_iface_types (P:=Tryz.prog) 171 244 (.agg #[.string s]) (.pointer (some a)) Tryz.underlying119 (by decide) w;have heq:=fun w=>run_eql_iface_ptr_same (P:=Tryz.prog) w a Tryz.underlying119 Tryz.underlying244 hi qgV hj;go_enter Tryz.func140,Tryz.ntmps140;go_wp2_with fail;refine wp_loop_rounds 2 ?_;rw [rounds_succ];go_wp2_with fail;refine(qry s a w h).mono ?_;rintro e w1 ⟨rfl,hg1⟩;go_wp2_with fail;rw [rounds_succ];go_wp2_with fail;go_ret;exact⟨rfl,hg1⟩
theorem qvv(s:ByteArray)(a:Addr)(w:World)(h:qp w a):Calls Tryz.prog 90 #[.iface 171 (.agg #[.string s]),.iface 244 (.pointer (some a))] w fun e w'=>e=.returned (.bool true)/\w.grownBy w' none:=by
 have h10:=run_callFunc_extern (P:=Tryz.prog) (f:=139) (e:=ReflectliteType.typeOf) Tryz.func139 (by kernel_rfl) (by kernel_rfl) (by kernel_rfl) (by kernel_rfl);have h11:=run_callFunc_extern (P:=Tryz.prog) (f:=248) (e:=ReflectliteType.method fun t=>do Rtype.noPackHeld "Comparable" t;pure (.bool (<-typeInfo t).comparable)) Tryz.func248 (by kernel_rfl) (by kernel_rfl) (by kernel_rfl) (by kernel_rfl);have t1:=q3s;have t2:=qj6;have t3:=qtx;go_enter Tryz.func90,Tryz.ntmps90;go_wp2_with fail;refine(q1i s a w h).mono ?_;rintro e w1 ⟨rfl,hg1⟩;go_wp2_with fail;go_ret;exact⟨rfl,hg1⟩
end
section
open Go.RowKit
structure KeysOf(D:DataW Unit)(L:List Int):Prop where
 t:Maps.Tidy D
 h:∀ x:Int,Maps.has D (.int .i64 x)=decide (x∈L)
 le:Maps.size D<=L.length
 nd:Maps.size D=L.length↔L.Nodup
theorem KeysOf.nil:KeysOf (.map []) []:=⟨Maps.tidy_empty,fun x=>by simp [Maps.has],by simp [Maps.size],by simp [Maps.size]⟩
theorem KeysOf.put{D:DataW Unit}{L:List Int}(h:KeysOf D L)(x:Int)(d:DataW Unit):KeysOf (D.put (.int .i64 x) d) (L++[x]):=by
 have hs:=Maps.size_put (k:=.int .i64 x) h.t d;rw [h.h x] at hs;have hle:=h.le;have hnd:=h.nd;refine⟨h.t.put (show WideAt.IsKeyLit (.int .i64 x) from trivial) d,fun y=>?_,?_,?_⟩
 . by_cases e:y=x
   . subst e;rw [Maps.has_put_same h.t.isMap (show WideAt.IsKeyLit (.int .i64 y) from trivial)];simp
   . rw [Maps.has_put_other (fun e'=>e (by injection e')),h.h y];simp [e]
 . rw [hs,List.length_append,List.length_singleton];split <;> omega
 . have hap:(L++[x]).Nodup↔L.Nodup/\x∉L:=by
     rw [List.nodup_append];constructor
     . rintro⟨h1,_,h3⟩;exact⟨h1,fun hx=>h3 x hx x (by simp) rfl⟩
     . rintro⟨h1,h2⟩;refine⟨h1,by simp,fun a ha b hb e=>h2 ?_⟩;obtain rfl:b=x:=by simpa using hb
       exact e ▸ ha
   rw [hap,hs,List.length_append,List.length_singleton];by_cases hx:x∈L
   . rw [decide_eq_true hx,if_pos rfl];constructor
     . intro e;omega
     . intro e;exact absurd hx e.2
   . rw [decide_eq_false hx,if_neg (by simp)];constructor
     . intro e;exact⟨hnd.1 (by omega),hx⟩
     . intro e;have:=hnd.2 e.1;omega
theorem KeysOf.step{D:DataW Unit}{l:List Int}{k:Nat}{x:Int}(h:KeysOf D (l.take k))(hx:l[k]?=some x)(d:DataW Unit):KeysOf (D.put (.int .i64 x) d) (l.take (k+1)):=by
 obtain⟨h1,rfl⟩:=List.getElem?_eq_some_iff.1 hx;rw [List.take_succ_eq_append_getElem h1];exact h.put _ d
theorem q67:Maps.Keyed Tryz.prog 3:=Maps.int_keyed Tryz.underlying3
theorem q7r(w:World):(zeroValue 3).run Tryz.prog w=.ok (.int .i64 0) w:=by kernel_rfl
def q68(w wr:World)(l:List Int)(k:Nat):Prop:=∃ D:DataW Unit,wr.ownsMap Tryz.prog 3 (plainElem Tryz.prog 3) w.heap.size k D/\KeysOf D (l.take k)/\w.grownBy wr none
theorem qya(tb:Nat)(u:Value)(l:List Int)(w:World)(hB:Blk w tb 96 #[u])(hr:RI w u l)(hl:l.length<=10)(hx:∀ x∈l,0<=x/\x<=9){b:Bool}(hb:decide l.Nodup=b) :
   Calls Tryz.prog 209 #[.pointer (some ⟨tb,0,none⟩)] w fun e w'=>e=.returned (.bool b)/\w.grownBy w' none:=by
 obtain⟨A,n,c,rfl,-,hn⟩:=hr.form';have hmm:=run_makeMap (P:=Tryz.prog);have Hn:=Lib.hid hn;have Hb:=Lib.hid hb;have Hx:=Lib.hid hx;have zC:n<=10:=by omega
 have c0:=(hB.alloc (.map #[] 0)).cell 0;clear hn hb hx hl;have hst:q68 w (w.alloc (.map #[] 0)) l 0:=⟨_,World.ownsMap_made _ _ _ _,by rw [List.take_zero];exact KeysOf.nil,qap (qag w none) _⟩;go_enter Tryz.func209,Tryz.ntmps209;go_wp2_with fail
 go_loopg [12] (n+1) (fun mm i wr=>∃ k:Nat,k<=n/\mm=n+1 - k/\i=.int .i64 k/\q68 w wr l k)
 case atStart=>exact⟨0,Nat.zero_le _,rfl,rfl,hst⟩
 case round=>
   obtain⟨k,hk,rfl,rfl,D,hown,hks,hg⟩:=hrel;clear hst;by_cases hlt:k < n
   . obtain⟨g,o,x,rfl,hx,c1⟩:=(hr.new hg).at_ hlt;have qjG:=Hx.out x (List.mem_of_getElem? hx);have Hk:=Lib.hid (fun d=>hks.step hx d);have hkey:keyOf Tryz.prog 3 (.int .i64 x)=some (.int .i64 x):=Maps.keyOf_int_mk Tryz.underlying3 (WalkArith.wf_i64 (by omega));clear hx hks
     go_wp2_with (first
       | (at_lookup;refine wpList_lookup_own_int _ rfl _ _ 243 rfl 3 3 .i64 q67 Tryz.underlying243 Tryz.underlying3 (q7r _) w.heap.size k _ rfl hown _ _ rfl hkey ?_;intro cv hat hwc)
       | (at_mapUpdate;refine wpList_mapUpdate_own _ rfl _ _ _ 243 rfl 3 3 q67 Tryz.underlying243 _ w.heap.size k _ rfl hown (by unfold maxLen;omega) _ _ _ rfl rfl hkey _ [] (plainElem_int Tryz.underlying3 (wrap64_wf _)) ?_;intro w1 hown1 ky)
       | go_in)
     go_roundg (n+1 - (k+1))
     case measure=>omega
     case rel=>exact⟨k+1,by omega,rfl,by go_num,_,hown1,Hk.out _,qa1 hg ky (fun g e=>by cases e;exact .inl (Nat.le_refl _))⟩
   . obtain rfl:n=k:=by omega
     have hB1:=hB.grown hg (by simp);have hD:=hown.kept (qax (qag wr none)) (by simp);have hlen:=fun ty=>hD.len Tryz.underlying243 ty;have qbX:=fun ty=>hown.len Tryz.underlying243 ty;have c1:=hB1.cell 0;have hle:=hks.le
     have Hr:Hid ((Maps.size D == n)=b):=by
       show _=_;rw [<-Hb.out,Bool.eq_iff_iff,beq_iff_eq,decide_eq_true_eq];have:=hks.nd;rw [List.take_of_length_le (Nat.le_of_eq Hn.out.symm),<-Hn.out] at this;exact this
     generalize Maps.size D=m at hlen qbX Hr hle;have hfin:=Lib.hid hg;clear hks hg;by_cases hmn:m=n
     . subst hmn;have Hr2:Hid (b=true):=by have:=Hr.out;rw [beq_self_eq_true] at this;exact this.symm
       clear Hr Hb;go_wp2_with fail
       go_region
       all_goals go_wp2_with fail
       all_goals go_ret
       all_goals exact⟨by rw [Hr2.out];rfl,qax hfin.out⟩
     . have Hr2:Hid (b=false):=by have:=Hr.out;rw [beq_eq_false_iff_ne.2 hmn] at this;exact this.symm
       clear Hr Hb;have hmi:¬ ((m:Int)=(n:Int)):=by omega
       go_wp2_with fail
       go_region
       all_goals go_wp2_with fail
       all_goals go_ret
       all_goals exact⟨by rw [Hr2.out];show Ending.returned (.bool ((m:Int) == (n:Int)))=_;rw [beq_eq_false_iff_ne.2 hmi],qax hfin.out⟩
theorem qda(v:Value)(l:List Int)(w:World)(h:RI w v l){b:Bool}(hb:qa3 l=b) :
   Calls Tryz.prog 179 #[v] w fun e w'=>e=.returned (.bool b)/\w.grownBy w' none:=by
 obtain⟨A,n,c,rfl,-,hn⟩:=h.form';have hle:=h.le;rw [<-hn] at hle;have Hn:=Lib.hid hn;have Hb:=Lib.hid hb;clear hn hb
 have hoff:¬ (l.length<=10/\∀ x∈l,0<=x/\x<=9)->b=false:=fun hno=>by
   rw [<-Hb.out];cases hd:qa3 l with
   | false=>rfl
   | true=>exact absurd ⟨(qb0.1 hd).1,(qb0.1 hd).2.1⟩ hno
 by_cases qdT:10 < n
 . have Hr:Hid (b=false):=hoff (fun e=>by have:=Hn.out;omega);have hgt:(10:Int) < (n:Int):=by omega
   clear hoff;go_enter Tryz.func179,Tryz.ntmps179;go_wp2_with fail;go_ret;exact⟨by rw [Hr.out];rfl,qag _ _⟩
 . have hgt:¬ ((10:Int) < (n:Int)):=by omega
   have qdV:=Lib.hid hoff;clear hoff;go_enter Tryz.func179,Tryz.ntmps179;go_wp2_with fail
   go_loopg [11] (n+1) (fun mm i wr=>∃ k:Nat,k<=n/\mm=n+1 - k/\i=.int .i64 k/\Hid (∀ x∈l.take k,0<=x/\x<=9)/\wr=w)
   case atStart=>exact⟨0,Nat.zero_le _,rfl,rfl,by show ∀ x∈_,_;simp,rfl⟩
   case round=>
     obtain⟨k,hk,rfl,rfl,Hk,rfl⟩:=hrel;by_cases hlt:k < n
     . obtain⟨g,o,y,rfl,hy,c0⟩:=h.at_ hlt;have Hy:=Lib.hid hy;clear hy;by_cases hlo:y < 0
       . have Hr:Hid (b=false):=qdV.out (fun e=>by have:=e.2 y (List.mem_of_getElem? Hy.out);omega);go_wp2_with fail;go_ret;exact⟨by rw [Hr.out];rfl,qag _ _⟩
       . by_cases hhi:10<=y
         . have Hr:Hid (b=false):=qdV.out (fun e=>by have:=e.2 y (List.mem_of_getElem? Hy.out);omega);go_wp2_with fail;go_ret;exact⟨by rw [Hr.out];rfl,qag _ _⟩
         . have Hs:Hid (∀ x∈l.take (k+1),0<=x/\x<=9):=by
             show ∀ x∈_,_;obtain⟨h1,h2⟩:=List.getElem?_eq_some_iff.1 Hy.out;rw [List.take_succ_eq_append_getElem h1,h2];intro x hx;rcases List.mem_append.1 hx with hx | hx
             . exact Hk.out x hx
             . obtain rfl:x=y:=by simpa using hx
               omega
           go_wp2_with fail;go_roundg (n+1 - (k+1))
           case measure=>omega
           case rel=>exact⟨k+1,by omega,rfl,by go_num,Hs,rfl⟩
     . obtain rfl:n=k:=by omega
       have Hx:Hid (∀ x∈l,0<=x/\x<=9):=by
         have:=Hk.out;rw [List.take_of_length_le (Nat.le_of_eq Hn.out.symm)] at this;exact this
       have Hd:Hid (decide l.Nodup=b):=by
         show _=_;rw [<-Hb.out,Bool.eq_iff_iff,decide_eq_true_eq,qb0];exact⟨fun e=>⟨by have:=Hn.out;omega,Hx.out,e⟩,fun e=>e.2.2⟩
       have jF:l.length<=10:=by have:=Hn.out;omega
       clear Hk hgt;go_wp2_with fail;refine(qhp _ l wr h (by omega)).mono ?_;rintro e w1 ⟨u,rfl,ho,hg1⟩;obtain⟨A',n',c',rfl⟩:=ho.ri.val;have hB:=Blk.new w1 96 #[.slice A' n' c'];have hg2:=World.grownBy_alloc w1 (.cells #[.slice A' n' c'] 96) none;have r2:=ho.ri.new hg2;have g2:=qac hg1 hg2;clear ho hg1 hg2;go_upto_region 10 with fail;generalize w1.alloc (.cells #[.slice A' n' c'] 96)=w2 at hB r2 g2 |-;generalize w1.heap.size=tb at hB |-;go_wp2_with fail;refine(qya tb _ l w2 hB r2 jF Hx.out Hd.out).mono ?_;rintro e w3 ⟨rfl,hg3⟩;go_wp2_with fail;go_ret;exact⟨rfl,qac g2 hg3⟩
def q3r(w:World)(r:Option (List Int × Int))(e:Ending)(w':World):Prop:=match r with
 | some (l,x)=>∃ u,e=.returned (.tuple #[u,.int .i64 x,.bool true])/\QI w' w.heap.size u l/\w.grownBy w' none
 | none=>e=.returned (.tuple #[.slice none 0 0,.int .i64 0,.bool false])/\w.grownBy w' none
theorem qn9(v:Value)(d:List Int)(w:World)(h:RI w v d):Calls Tryz.prog 136 #[v] w (q3r w (qc1 d)):=by
 obtain⟨A,n,c,rfl,-,hn⟩:=h.form';have Hn:=Lib.hid hn;clear hn;by_cases hv:qa3 d=true
 . have Hv:=Lib.hid hv;by_cases h0:n=0
   . have Hr:Hid (qc1 d=none):=by
       show _=_;rw [List.eq_nil_of_length_eq_zero (by have:=Hn.out;omega:d.length=0)];exact qn3
     subst h0;clear hv;go_enter Tryz.func136,Tryz.ntmps136;go_wp2_with fail;refine(qda _ d w h Hv.out).mono ?_;rintro e w1 ⟨rfl,hg1⟩;go_wp2_with fail;refine bodyPost_ret (v:=.tuple #[.slice none 0 0,.int .i64 0,.bool false]) (by simp [results,Tryz.results136,go_sem]) rfl ?_;rw [Hr.out];exact⟨rfl,hg1⟩
   . obtain⟨m,rfl⟩:∃ m,n=m+1:=⟨n - 1,by omega⟩;have qgW:d.length<=10:=(qb0.1 hv).1;have hne:¬ (((m+1:Nat):Int)=0):=by omega
     have yP:m<=10:=by have:=Hn.out;omega
     obtain⟨x,hx⟩:∃ x,d[m]?=some x:=⟨_,List.getElem?_eq_getElem (by have:=Hn.out;omega)⟩
     have Hr:Hid (qc1 d=some (d.take m,x)):=by
       show _=_;rw [ql5 hv (by have:=Hn.out;omega),<-Hn.out,List.getD_eq_getElem?_getD,show m+1 - 1=m by omega,hx];rfl
     have Hx:=Lib.hid hx;clear hv h0 hx;go_enter Tryz.func136,Tryz.ntmps136;go_wp2_with fail;refine(qda _ d w h Hv.out).mono ?_;rintro e w1 ⟨rfl,hg1⟩;go_wp2_with fail;refine(qhp _ d w1 (h.new hg1) (by omega)).mono ?_;rintro e w2 ⟨u,rfl,ho,hg2⟩;have g2:=qac hg1 hg2;have hs1:=hg1.size;have hob:=ho.lower hs1;obtain⟨g,cap,cur,rfl,-,-,-,-⟩:=hob.form (by have:=Hn.out;omega);have hl:d.length=m+1:=Hn.out.symm;rw [hl] at hob |-;have hB:=Blk.new w2 96 #[.slice (some ⟨g,0,none⟩) (m+1) cap];have hg3:=World.grownBy_alloc w2 (.cells #[.slice (some ⟨g,0,none⟩) (m+1) cap] 96) none;have ho3:=hob.new hg3;have g3:=qac g2 hg3;have hs3:=g2.size;clear hg1 hg2 ho hob hg3 g2 hl;go_upto_region 4 with fail;generalize w2.alloc (.cells #[.slice (some ⟨g,0,none⟩) (m+1) cap] 96)=w3 at hB ho3 g3 |-;generalize w2.heap.size=tb at hB hs3 |-;go_wp2_with fail;refine(q7q tb g 0 m cap x d w3 hB ho3.ri yP Hx.out).mono ?_;rintro e w4 ⟨rfl,rfl⟩;have hst:w3.grownBy (w3.setCell ⟨tb,0,none⟩ (.slice (some ⟨g,0,none⟩) m cap)) (some tb):=qa2 (qag _ _) (.inr rfl) _;have vf:qg w3 3 (some tb):=qg.blk hB (by decide)
     have hd2:d=d.take m++[x]:=by
       obtain⟨h1,h2⟩:=List.getElem?_eq_some_iff.1 Hx.out;have:=List.take_succ_eq_append_getElem h1;rw [h2,List.take_of_length_le (by have:=Hn.out;omega)] at this;exact this
     have q4:QI w3 w.heap.size (.slice (some ⟨g,0,none⟩) m cap) (d.take m):=by
       have q3:=ho3.qi;unfold QI at q3 |-;rw [hd2,List.map_append] at q3;obtain⟨-,-,q5⟩:=QS.init q3;rw [List.length_map,List.length_take,Nat.min_eq_left (by have:=Hn.out;omega)] at q5;exact q5
     have Q4:=q4.grown hst vf;have B4:=hB.qC 0 (.slice (some ⟨g,0,none⟩) m cap);have c4:=B4.cell 0;have g4:=qa1 g3 hst (fun g e=>by cases e;exact .inl hs3);clear hd2 q4 ho3 hst vf hB;generalize w3.setCell ⟨tb,0,none⟩ (.slice (some ⟨g,0,none⟩) m cap)=w4 at Q4 B4 c4 g4 |-;go_wp2_with fail;refine bodyPost_ret (v:=.tuple #[.slice (some ⟨g,0,none⟩) m cap,.int .i64 x,.bool true]) (by simp [results,Tryz.results136,go_sem]) rfl ?_;rw [Hr.out];exact⟨_,rfl,Q4,g4⟩
 . have hv':qa3 d=false:=by simpa using hv
   have Hv:=Lib.hid hv';have Hr:Hid (qc1 d=none):=qn2 hv';clear hv hv';go_enter Tryz.func136,Tryz.ntmps136;go_wp2_with fail;refine(qda _ d w h Hv.out).mono ?_;rintro e w1 ⟨rfl,hg1⟩;go_wp2_with fail;refine bodyPost_ret (v:=.tuple #[.slice none 0 0,.int .i64 0,.bool false]) (by simp [results,Tryz.results136,go_sem]) rfl ?_;rw [Hr.out];exact⟨rfl,hg1⟩
theorem qpz{d:List Int}{x:Int}(h:qa3 d=true)(hx:d[0]?=some x):qbj d=some (d.drop 1,x):=by
 unfold qbj;rw [h,if_pos rfl,List.head?_eq_getElem?,hx];rfl
theorem qla(v:Value)(d:List Int)(w:World)(h:RI w v d):Calls Tryz.prog 141 #[v] w (q3r w (qbj d)):=by
 obtain⟨A,n,c,rfl,-,hn⟩:=h.form';have Hn:=Lib.hid hn;clear hn;by_cases hv:qa3 d=true
 . have Hv:=Lib.hid hv;by_cases h0:n=0
   . have Hr:Hid (qbj d=none):=by
       show _=_;rw [List.eq_nil_of_length_eq_zero (by have:=Hn.out;omega:d.length=0)];unfold qbj;simp
     subst h0;clear hv;go_enter Tryz.func141,Tryz.ntmps141;go_wp2_with fail;refine(qda _ d w h Hv.out).mono ?_;rintro e w1 ⟨rfl,hg1⟩;go_wp2_with fail;refine bodyPost_ret (v:=.tuple #[.slice none 0 0,.int .i64 0,.bool false]) (by simp [results,Tryz.results141,go_sem]) rfl ?_;rw [Hr.out];exact⟨rfl,hg1⟩
   . obtain⟨m,rfl⟩:∃ m,n=m+1:=⟨n - 1,by omega⟩;have qgW:d.length<=10:=(qb0.1 hv).1;have hne:¬ (((m+1:Nat):Int)=0):=by omega
     have yP:m<=10:=by have:=Hn.out;omega
     obtain⟨x,hx⟩:∃ x,d[0]?=some x:=⟨_,List.getElem?_eq_getElem (by have:=Hn.out;omega)⟩;have Hr:Hid (qbj d=some (d.drop 1,x)):=qpz hv hx;have Hx:=Lib.hid hx;clear hv h0 hx;go_enter Tryz.func141,Tryz.ntmps141;go_wp2_with fail;refine(qda _ d w h Hv.out).mono ?_;rintro e w1 ⟨rfl,hg1⟩;go_wp2_with fail;refine(qhp _ d w1 (h.new hg1) (by omega)).mono ?_;rintro e w2 ⟨u,rfl,ho,hg2⟩;have g2:=qac hg1 hg2;have hs1:=hg1.size;have hob:=ho.lower hs1;obtain⟨g,cap,cur,rfl,-,-,-,-⟩:=hob.form (by have:=Hn.out;omega);have hl:d.length=m+1:=Hn.out.symm;rw [hl] at hob |-;have hB:=Blk.new w2 96 #[.slice (some ⟨g,0,none⟩) (m+1) cap];have hg3:=World.grownBy_alloc w2 (.cells #[.slice (some ⟨g,0,none⟩) (m+1) cap] 96) none;have ho3:=hob.new hg3;have g3:=qac g2 hg3;have hs3:=g2.size;clear hg1 hg2 ho hob hg3 g2 hl;go_upto_region 4 with fail;generalize w2.alloc (.cells #[.slice (some ⟨g,0,none⟩) (m+1) cap] 96)=w3 at hB ho3 g3 |-;generalize w2.heap.size=tb at hB hs3 |-;obtain⟨A2,hA2⟩:∃ A2:Option Addr,A2=(if cap=1 then some ⟨g,0,none⟩ else some ⟨g,0+1,none⟩):=⟨_,rfl⟩
     have hd2:d=x::d.drop 1:=by
       obtain⟨h1,h2⟩:=List.getElem?_eq_some_iff.1 Hx.out;rw [<-h2,List.getElem_cons_drop];rfl
     have q4:QI w3 w.heap.size (.slice A2 m (cap - 1)) (d.drop 1):=by
       have q3:=ho3.qi;unfold QI at q3 |-;rw [hd2,List.map_cons] at q3;obtain⟨g',o',e1,e2,e3,e4,e5⟩:=QS.tail q3;injection e1 with e1;injection e1 with e1 e6;subst e1 e6;rw [show m+1 - 1=m by omega] at e4 e5;rw [hA2];split
       . exact e5 (by assumption)
       . exact e4
     have HA2:=Lib.hid hA2;clear hA2 hd2;go_wp2_with fail;refine(q3q tb g 0 m cap x d w3 hB ho3.ri yP Hx.out).mono ?_;rw [<-HA2.out];rintro e w4 ⟨rfl,rfl⟩;have hst:w3.grownBy (w3.setCell ⟨tb,0,none⟩ (.slice A2 m (cap - 1))) (some tb):=qa2 (qag _ _) (.inr rfl) _;have vf:qg w3 3 (some tb):=qg.blk hB (by decide);have Q4:=q4.grown hst vf;have B4:=hB.qC 0 (.slice A2 m (cap - 1));have c4:=B4.cell 0;have g4:=qa1 g3 hst (fun g e=>by cases e;exact .inl hs3);clear q4 ho3 hst vf hB HA2;generalize w3.setCell ⟨tb,0,none⟩ (.slice A2 m (cap - 1))=w4 at Q4 B4 c4 g4 |-;go_wp2_with fail;refine bodyPost_ret (v:=.tuple #[.slice A2 m (cap - 1),.int .i64 x,.bool true]) (by simp [results,Tryz.results141,go_sem]) rfl ?_;rw [Hr.out];exact⟨_,rfl,Q4,g4⟩
 . have hv':qa3 d=false:=by simpa using hv
   have Hv:=Lib.hid hv'
   have Hr:Hid (qbj d=none):=by
     show _=_;unfold qbj;rw [hv'];rfl
   clear hv hv';go_enter Tryz.func141,Tryz.ntmps141;go_wp2_with fail;refine(qda _ d w h Hv.out).mono ?_;rintro e w1 ⟨rfl,hg1⟩;go_wp2_with fail;refine bodyPost_ret (v:=.tuple #[.slice none 0 0,.int .i64 0,.bool false]) (by simp [results,Tryz.results141,go_sem]) rfl ?_;rw [Hr.out];exact⟨rfl,hg1⟩
theorem qf.xP{w w':World}{b:Nat}{v o:Value}{l:List Int}(h:qf w b v l)(hg:w.grownBy w' o.ownBlock)(ho:∀ g,o.ownBlock=some g->∀ g',v.ownBlock=some g'->g≠g'):qf w' b v l:=by
 refine h.qO hg ?_;cases hv:v.ownBlock with
 | none=>exact .inl rfl
 | some g'=>exact .inr (fun e=>ho g' e.symm g' hv rfl)
structure yl(w0 wx:World)(base X:Nat)(d k o r:Value)(C:List Int)(D:List (List Int))(N:List Int)(Rw:List (List Int))(xs ys:List Value):Prop where
 o:jX wx base X d k o r D N Rw xs ys
 ct:RI wx k C
 res:Blk wx (X+1) 29 #[.slice none 0 0,.slice none 0 0,.slice none 0 0,.slice none 0 0]
 g:w0.grownBy wx none
theorem yl.new{w0 wx wy:World}{base X:Nat}{d k o r:Value}{C:List Int}{D:List (List Int)}{N:List Int}{Rw:List (List Int)}{xs ys:List Value}(M:yl w0 wx base X d k o r C D N Rw xs ys)(hg:wx.grownBy wy none):yl w0 wy base X d k o r C D N Rw xs ys:=
 ⟨M.o.new hg,M.ct.new hg,M.res.grown hg (by simp),qac M.g hg⟩
theorem yl.start{w0 w:World}{base:Nat}{d k o r:Value}{C:List Int}{D:List (List Int)}{N:List Int}{Rw:List (List Int)}{xs ys:List Value}(hd:LQ w base d D xs)(hk:RI w k C)(ho:qf w base o N)(hr:LX w base r Rw ys)(hal:Apart (o::(xs++ys)))(hdr:∀ g,d.ownBlock=some g->r.ownBlock≠some g)(hg:w0.grownBy w none) :
   yl w0 ((w.alloc (.cells #[d,k,o,r] 29)).alloc (.cells #[.slice none 0 0,.slice none 0 0,.slice none 0 0,.slice none 0 0] 29)) base w.heap.size d k o r C D N Rw xs ys:=by
 have hR0:=Blk.new (w.alloc (.cells #[d,k,o,r] 29)) 29 #[.slice none 0 0,.slice none 0 0,.slice none 0 0,.slice none 0 0];rw [World.size_alloc] at hR0;have g1:=World.grownBy_alloc w (.cells #[d,k,o,r] 29) none;have g2:=qac g1 (World.grownBy_alloc (w.alloc (.cells #[d,k,o,r] 29)) (.cells #[.slice none 0 0,.slice none 0 0,.slice none 0 0,.slice none 0 0] 29) none);exact⟨⟨(Blk.new w 29 #[d,k,o,r]).alloc _,hd.new g2,ho.new g2,hr.new g2,hal,hdr⟩,hk.new g2,hR0,qac hg g2⟩
def q69(w0:World)(base:Nat)(c:qj)(e:Ending)(w':World):Prop:=∃ v,e=.returned (.tuple #[v,.nilIface])/\qY w' base v c/\w0.grownBy w' none
theorem qjo(pv d k o r:Value)(qa:List Node)(c:qj)(L:List (List Int))(j m:Nat)(xs ys:List Value)(base:Nat)(w0 w:World)(hp:RN w pv qa)(hd:LQ w base d L xs)(hk:RI w k c.counts)(ho:qf w base o c.done)(hr:LX w base r c.rows ys)(hal:Apart (o::(xs++ys)))(hdr:∀ g,d.ownBlock=some g->r.ownBlock≠some g)
   (hg:w0.grownBy w none) (hb:w0.heap.size<=base) (hbw:base<=w.heap.size) (H:qo qa c) (hL:L.length=c.qb.length) (hj:j < L.length) (hx:(m:Int)∈qao qa c.done) (hdl:∀ l∈L,l.length<=10) :
   Calls Tryz.prog 138 #[pv,.agg #[d,k,o,r],.int .i64 j,.int .i64 m] w (q69 w0 base (qft qa { c with qb:=L } j (m:Int))):=by
 have hmp:m < qa.length:=by
   obtain⟨i,hi,e,_⟩:=(qc5 H.pv).1 hx;omega
 have hrl:c.rows.length=qa.length:=H.rl;obtain⟨A,n,cp,rfl,-,hn,-⟩:=hp.form';obtain⟨gd,j5,rfl,hcd,hbd⟩:=hd.form rfl (by omega);obtain⟨gr,zI,rfl,hcr,hbr⟩:=hr.form hrl (by omega);obtain⟨Ak,nk,ck,rfl⟩:=hk.val;obtain⟨Ao,no,co,rfl⟩:=ho.ri.val;have M0:=yl.start hd hk ho hr hal hdr hg
 have ym:Hid (∀ u∈.slice Ao no co::(xs++ys),∀ g,u.ownBlock=some g->g < w.heap.size):=by
   show ∀ u∈_,_;intro u hu g hg;rcases List.mem_cons.1 hu with rfl | hu
   . exact(ho.lt g hg).2
   . rcases List.mem_append.1 hu with hu | hu
     . exact(hd.lts u hu g hg).2
     . exact(hr.lts u hu g hg).2
 have hnr:(qbl qa c.counts (m:Int)).length<=10:=by
   have h1:=List.length_filter_le (fun i=>has qa i (m:Int) && decide (c.counts.getD i 0=1)) (List.range qa.length);have h2:=qal H.pv;unfold qbl;rw [List.length_map];rw [List.length_range] at h1;omega
 have hgW:w.grownBy ((w.alloc (.cells #[.slice (some ⟨gd,0,none⟩) L.length j5,.slice Ak nk ck,.slice Ao no co,.slice (some ⟨gr,0,none⟩) qa.length zI] 29)).alloc (.cells #[.slice none 0 0,.slice none 0 0,.slice none 0 0,.slice none 0 0] 29)) none:=qap (qap (qag w none) _) _;obtain⟨l0,hl0⟩:∃ l0,L[j]?=some l0:=⟨_,List.getElem?_eq_getElem hj⟩;have jF:l0.length<=10:=hdl l0 (List.mem_of_getElem? hl0);have HH:=Lib.hid H;have Hx:=Lib.hid hx;have Hl0:=Lib.hid hl0;have Hrl:=Lib.hid hrl;have hdn:c.done.length<=1000:=by have:=qg5 H;have:=qal H.pv;omega
 clear H hx hl0 hrl hd hk ho hr hal hdr hg hdl hL hn;obtain⟨nD,hnD⟩:∃ nD,nD=L.length:=⟨_,rfl⟩;obtain⟨nR,hnR⟩:∃ nR,nR=qa.length:=⟨_,rfl⟩;have hjD:j < nD:=by omega
 have hmR:m < nR:=by omega
 rw [<-hnD,<-hnR] at M0 hgW |-;have HnD:=Lib.hid hnD;have HnR:=Lib.hid hnR;clear hnD hnR;go_enter Tryz.func138,Tryz.ntmps138;go_upto_region 1 with fail;generalize ((w.alloc (.cells #[.slice (some ⟨gd,0,none⟩) nD j5,.slice Ak nk ck,.slice Ao no co,.slice (some ⟨gr,0,none⟩) nR zI] 29)).alloc (.cells #[.slice none 0 0,.slice none 0 0,.slice none 0 0,.slice none 0 0] 29))=W at M0 hgW |-;have d1:=M0.o.x.cell 1;have hsW:=hgW.size;go_wp2_with fail;refine(qgt _ _ qa c.counts m W (hp.new hgW) M0.ct).mono ?_;intro e w1 hO;rw [HH.out.done Hx.out] at hO;obtain⟨kv,rv,rfl,o1,o2,hg1⟩:=hO;have M1:=M0.new hg1;have hs1:=hg1.size;have Hk:=Lib.hid o1.lt;have p1:=(hp.new hgW).new hg1;obtain⟨Ac,nc,cc,rfl⟩:=o1.ri.val;obtain⟨Ar,nr,cr,rfl,-,qdW⟩:=o2.ri.form';have Hnr:=Lib.hid qdW;have yZ:nr<=10:=by omega
 clear d1 M0 hg1 qdW;go_wp2_with fail;refine(qy1 _ qa m w1 p1 HH.out.pv hmp).mono ?_;rintro e w2 ⟨qjH,rfl,o3,hg2⟩;have M2:=M1.new hg2;have hs2:=hg2.size;have yh:=Lib.hid o3.lt;have o1b:=o1.new hg2;have o2b:=o2.ri.new hg2;obtain⟨Aw,nw,cw,rfl⟩:=o3.ri.val;clear M1 hg2 o1 o2 p1;have d0:=M2.o.x.cell 0;obtain⟨g,oz,l,Bl,ml,el,e1,hl,q0,hrl,-,-,-⟩:=M2.o.dq.rl.at_ hjD;injection e1 with e1;injection e1 with e1 e2;subst e1 e2;obtain rfl:l0=l:=Option.some.inj (Hl0.out.symm.trans hl);rw [Nat.zero_add] at q0;have hji:(j:Int) < (nD:Int):=by omega
 clear hl;go_wp2_with fail;refine(qhp _ l0 w2 hrl (by omega)).mono ?_;rintro e w3 ⟨u,rfl,o4,hg3⟩;obtain⟨An,nn,cn,rfl⟩:=o4.ri.val;have hB4:=Blk.new w3 96 #[.slice An nn cn];have hgN:=qac hg3 (World.grownBy_alloc w3 (.cells #[.slice An nn cn] 96) none);have o4b:=o4.new (World.grownBy_alloc w3 (.cells #[.slice An nn cn] 96) none);have hs3:=hg3.size;clear q0 hrl o4 hg3;go_upto_region 8 with fail;generalize w3.alloc (.cells #[.slice An nn cn] 96)=w4 at hB4 hgN o4b |-;generalize w3.heap.size=nb at hB4 hs3 |-;clear d0;go_wp2_with fail
 go_loopg [50] (nr+1) (fun mm i wr=>∃ (q:Nat) (u:Value),q<=nr/\mm=nr+1 - q/\i=.int .i64 q/\Blk wr nb 96 #[u]/\qf wr w2.heap.size u (l0++(qbl qa c.counts m).take q)/\w2.grownBy wr none)
 case atStart=>exact⟨0,_,Nat.zero_le _,rfl,rfl,hB4,by simpa using o4b,hgN⟩
 case round=>
   clear hB4 o4b hgN;obtain⟨q,u,hq,rfl,rfl,hB,hown,hgr⟩:=hrel;by_cases hlt:q < nr
   . obtain⟨g',o',y,rfl,hy,c0⟩:=(o2b.new hgr).at_ hlt
     have Hy:Hid ((l0++(qbl qa c.counts m).take q)++[y]=l0++(qbl qa c.counts m).take (q+1)):=by
       show _=_;obtain⟨h1,h2⟩:=List.getElem?_eq_some_iff.1 hy;rw [List.take_succ_eq_append_getElem h1,h2,List.append_assoc]
     have hlen:(l0++(qbl qa c.counts m).take q).length<=1000000:=by
       rw [List.length_append,List.length_take];omega
     clear hy;go_wp2_with fail;refine(q52 nb w2.heap.size y u _ w2 wr hB hown hlen hgr (Nat.le_refl _) hgr.size hs3).mono ?_;rintro e w5 ⟨rfl,u',hB',hown',qgX⟩;rw [Hy.out] at hown';clear hB hown;go_wp2_with fail;go_roundg (nr+1 - (q+1))
     case measure=>omega
     case rel=>exact⟨q+1,u',by omega,rfl,by go_num,hB',hown',qgX⟩
   . obtain rfl:nr=q:=by omega
     have M4:=M2.new hgr;have k4:=o1b.new hgr;have r4:=o3.new hgr;have hsr:=hgr.size;rw [List.take_of_length_le (Nat.le_of_eq Hnr.out.symm)] at hown;obtain⟨Af,nf,cf,rfl⟩:=hown.ri.val;have xQ:=Lib.hid hown.lt;clear M2 o1b o3 o2b hgr;have x1:=M4.o.x.cell 1;have y1:=M4.o.x.frozen 1;have j3:wr.grownBy (wr.setCell ⟨w.heap.size,1,none⟩ (.slice Ac nc cc)) (some w.heap.size):=qa2 (p:=⟨w.heap.size,1,none⟩) (qag wr (some w.heap.size)) (.inr rfl) _;have hn5:qg wr 3 (some w.heap.size):=qg.blk M4.o.x (by decide);have O5:=M4.o.put (k':=.slice Ac nc cc);have k5:qf _ _ _ _:=k4.grown j3 hn5;have r5:qf _ _ _ _:=r4.grown j3 hn5;have n5:qf _ _ _ _:=hown.grown j3 hn5;have B5:=hB.past j3 (qg.blk M4.o.x (by decide));have R5:=M4.res.grown j3 (by simp);have hw0:w0.heap.size<=w.heap.size:=Nat.le_trans hb hbw;have g5:w0.grownBy _ none:=qa1 M4.g j3 (fun g e=>by cases e;exact .inl hw0);have hs5:=j3.size;clear k4 r4 hown hB hn5;go_upto_region 14 with fail;clear x1 y1 M4 j3;generalize wr.setCell ⟨w.heap.size,1,none⟩ (.slice Ac nc cc)=w5 at O5 k5 r5 n5 B5 R5 g5 hs5 |-;have x2:=O5.x.cell 2;have yn:=O5.dn;go_wp2_with (at_builtin;go_must (refine qhu (.tmp 60) (.tmp 62) rfl rfl yn (by omega) (by omega) rfl rfl rfl ?_));intro v6 w6 jS hg6 hb6;obtain⟨x6,f6,O6⟩:=O5.more hg6 jS hb6;have hoB:∀ g,(Value.slice Ao no co).ownBlock=some g->g < w.heap.size:=fun g e=>ym.out _ (by simp) g e;have k6:=k5.xP hg6 (fun g e g' e'=>by have:=hoB g e;have:=(Hk.out g' e').1;omega);have r6:=r5.xP hg6 (fun g e g' e'=>by have:=hoB g e;have:=(yh.out g' e').1;omega);have n6:=n5.xP hg6 (fun g e g' e'=>by have:=hoB g e;have:=(xQ.out g' e').1;omega);have B6:=B5.past hg6 (yn.qV (by decide));have R6:=R5.past hg6 (yn.qV (by decide));have X6:=O5.x.past hg6 (yn.qV (by decide));have g6:=yn.gb g5 hg6 hb;have xR:w6.grownBy (w6.setCell ⟨w.heap.size,2,none⟩ v6) (some w.heap.size):=qa2 (p:=⟨w.heap.size,2,none⟩) (qag w6 (some w.heap.size)) (.inr rfl) _;have hn7:qg w6 3 (some w.heap.size):=qg.blk X6 (by decide);have k7:qf _ _ _ _:=k6.grown xR hn7;have r7:qf _ _ _ _:=r6.grown xR hn7;have n7:qf _ _ _ _:=n6.grown xR hn7;have B7:=B6.past xR (qg.blk X6 (by decide));have R7:=R6.grown xR (by simp);have g7:w0.grownBy _ none:=qa1 g6 xR (fun g e=>by cases e;exact .inl hw0)
     have hov:∀ g,v6.ownBlock=some g->g < w.heap.size∨w5.heap.size<=g:=fun g e=>by
       rcases hb6 with h | ⟨b,h,hb'⟩
       . exact .inl (hoB g (h ▸ e))
       . rw [h] at e;cases e;exact .inr hb'
     have Hov:=Lib.hid hov;obtain⟨Av,nv,cv,rfl⟩:=jS.ri.val;clear k5 r5 n5 B5 R5 g5 yn k6 r6 n6 B6 R6 g6 x2 hov hn7 jS hb6 O5 hg6 xR;go_upto_region 15 with fail;clear x6 f6 X6;generalize w6.setCell ⟨w.heap.size,2,none⟩ (.slice Av nv cv)=w7 at O6 k7 r7 n7 B7 R7 g7 |-
     have kY:∀ u∈.slice Av nv cv::(xs++ys),∀ g,u.ownBlock=some g->(Value.slice Aw nw cw).ownBlock≠some g:=fun u hu g hu' e=>by
       have h1:=yh.out g e;rcases List.mem_cons.1 hu with rfl | hu
       . have:=Hov.out g hu';omega
       . have:=ym.out u (List.mem_cons_of_mem _ hu) g hu';omega
     have hmr:m < c.rows.length:=by have:=Hrl.out;have:=HnR.out;omega
     obtain⟨⟨u8,cR,fR⟩,zQ,hb8,hE8,hI8,hQ8,O8⟩:=O6.setRow hmr (r7.low (by omega)) kY;have x3:=O6.x.cell 3;have k8:qf _ _ _ _:=k7.grown zQ hI8;have n8:qf _ _ _ _:=n7.grown zQ hI8;have B8:=B7.past zQ hQ8;have R8:=R7.past zQ hE8;have g8:w0.grownBy _ none:=qa1 g7 zQ (fun g e=>by cases e;exact .inl (Nat.le_trans hb hb8));have hmi:(m:Int) < (nR:Int):=by omega
     clear k7 n7 r7 B7 R7 g7 kY O6;go_upto_region 16 with fail;clear x3 cR fR zQ hE8 hI8 hQ8;generalize w7.setCell ⟨gr,m,none⟩ (.slice Aw nw cw)=w8 at O8 k8 n8 B8 R8 g8 |-
     have qdX:∀ u∈.slice Av nv cv::(xs++ys.set m (.slice Aw nw cw)),∀ g,u.ownBlock=some g->(Value.slice Af nf cf).ownBlock≠some g:=fun u hu g hu' e=>by
       have h1:=xQ.out g e;rcases List.mem_cons.1 hu with rfl | hu
       . have:=Hov.out g hu';omega
       . rcases List.mem_append.1 hu with hu | hu
         . have:=ym.out u (List.mem_cons_of_mem _ (List.mem_append_left _ hu)) g hu';omega
         . rcases List.mem_or_eq_of_mem_set hu with hu | rfl
           . have:=ym.out u (List.mem_cons_of_mem _ (List.mem_append_right _ hu)) g hu';omega
           . have:=yh.out g hu';omega
     have hjL:j < L.length:=by have:=HnD.out;omega
     obtain⟨⟨u9,cQ,fQ⟩,vF,hb9,hE9,hI9,O9⟩:=O8.xO hjL ((n8.low (by omega)).qi) qdX;have x0:=O8.x.cell 0;have z0:=B8.cell 0;have k9:qf _ _ _ _:=k8.grown vF hI9;have R9:=R8.past vF hE9;have g9:w0.grownBy _ none:=qa1 g8 vF (fun g e=>by cases e;exact .inl (Nat.le_trans hb hb9));clear k8 n8 R8 g8 qdX O8;go_upto_region 17 with fail;clear x0 z0 cQ fQ vF hE9 hI9 B8;generalize w8.setCell ⟨gd,j,none⟩ (.slice Af nf cf)=w9 at O9 k9 R9 g9 |-
     have hal:Apart (.slice Ac nc cc::.slice Av nv cv::(xs.set j (.slice Af nf cf)++ys.set m (.slice Aw nw cw))):=by
       refine List.pairwise_cons.2 ⟨fun u hu g e e'=>?_,O9.al⟩;have h1:=Hk.out g e;rcases List.mem_cons.1 hu with rfl | hu
       . have:=Hov.out g e';omega
       . rcases List.mem_append.1 hu with hu | hu
         . rcases List.mem_or_eq_of_mem_set hu with hu | rfl
           . have:=ym.out u (List.mem_cons_of_mem _ (List.mem_append_left _ hu)) g e';omega
           . have:=xQ.out g e';omega
         . rcases List.mem_or_eq_of_mem_set hu with hu | rfl
           . have:=ym.out u (List.mem_cons_of_mem _ (List.mem_append_right _ hu)) g e';omega
           . have:=yh.out g e';omega
     have hF:qY w9 base (.agg #[.slice (some ⟨gd,0,none⟩) nD j5,.slice Ac nc cc,.slice Av nv cv,.slice (some ⟨gr,0,none⟩) nR zI]) (qft qa { c with qb:=L } j (m:Int)):=by
       have e1:qft qa { c with qb:=L } j (m:Int)=⟨L.set j (l0++qbl qa c.counts m),qbi qa c.counts m,c.done++[(m:Int)],c.rows.set m (qcu qa m)⟩:=by
         unfold qft;simp only [List.getD_eq_getElem?_getD,Hl0.out,Option.getD_some,Int.toNat_natCast]
       rw [e1];exact⟨_,_,_,_,_,_,rfl,O9.dq,k9.low (by omega),O9.dn,O9.ro,hal,O9.dr⟩
     have x0:=O9.x.cell 0;have x1:=O9.x.cell 1;have x2:=O9.x.cell 2;have x3:=O9.x.cell 3;have y0:=R9.cell 0;have y1:=R9.cell 1;have y2:=R9.cell 2;have y3:=R9.cell 3;have f0:=R9.frozen 0;have f1:=R9.frozen 1;have f2:=R9.frozen 2;have f3:=R9.frozen 3;have hst:=qdz w9 (w.heap.size+1) (.slice (some ⟨gd,0,none⟩) nD j5) (.slice Ac nc cc) (.slice Av nv cv) (.slice (some ⟨gr,0,none⟩) nR zI);have hfin:Hid (q69 w0 base (qft qa { c with qb:=L } j (m:Int)) _ _):=⟨_,rfl,hF.grown hst (qg.blk R9 (by decide)) (qg.blk R9 (by decide)),qa1 g9 hst (fun g e=>by cases e;exact .inl (by omega))⟩;clear hF hst hal k9 O9 R9 g9;go_wp2_with fail;refine bodyPost_ret (v:=.tuple #[.agg #[.slice (some ⟨gd,0,none⟩) nD j5,.slice Ac nc cc,.slice Av nv cv,.slice (some ⟨gr,0,none⟩) nR zI],.nilIface]) (by simp [results,Tryz.results138,go_sem,y0,y1,y2,y3]) rfl ?_;exact hfin.out
end
end Go.Proofs.YtacemdoejblgaaaGreatDoor

/- Part 3. Conditions: each statement's. -/
import Derived.Test.YtacemdoejblgaaaGreatDoorProg
import Derived.WalkKit
import Derived.WalkSpells
import Derived.WalkLawsBesides
import Derived.Lib.Hide
import Derived.Deep.QuietTactic
import Derived.BigQuiet
import Derived.Test.YtacemdoejblgaaaGreatDoorM01
import Derived.Laws.CopyRow
import Derived.Laws.AppendOwn
namespace Go.Proofs.YtacemdoejblgaaaGreatDoor
set_option maxHeartbeats 6400000
set_option maxRecDepth 100000
section
open Go.RowKit
theorem block_add(a:Addr)(n:Nat):(a.add n).block=a.block:=by unfold Addr.add;split <;> rfl
section
variable {a b c w w':World}{row:Option Nat}
theorem qag(w:World)(row:Option Nat):w.grownBy w row:=⟨rfl,rfl,rfl,Nat.le_refl _,fun _ _ _=>rfl⟩
theorem qac(h:a.grownBy b row)(k:b.grownBy c row):a.grownBy c row:=
 ⟨k.os.trans h.os,k.tape.trans h.tape,k.output.trans h.output,Nat.le_trans h.size k.size,fun i hi hr=>(k.block i (Nat.lt_of_lt_of_le hi h.size) hr).trans (h.block i hi hr)⟩
theorem qa1{row':Option Nat}(h:a.grownBy b row)(k:b.grownBy c row')(hg:∀ g,row'=some g->a.heap.size<=g∨row=some g):a.grownBy c row:=
 ⟨k.os.trans h.os,k.tape.trans h.tape,k.output.trans h.output,Nat.le_trans h.size k.size,fun i hi hr=>(k.block i (Nat.lt_of_lt_of_le hi h.size) (fun e=>by
   rcases hg i e.symm with h1 | h1
   . omega
   . exact hr h1.symm)).trans (h.block i hi hr)⟩
theorem q20(h:a.grownBy b row)(k:b.grownBy c none):a.grownBy c row:=qa1 h k (fun _ e=>by cases e)
theorem qtg(h:a.grownBy b none)(row:Option Nat):a.grownBy b row:=⟨h.os,h.tape,h.output,h.size,fun i hi _=>h.block i hi (by simp)⟩
theorem qax(h:a.grownBy w row):a.grownBy w.drew row:=⟨h.os,h.tape,h.output,h.size,h.block⟩
theorem qb8(h:a.grownBy w row)(n:Nat):a.grownBy (w.drewN n) row:=⟨h.os,h.tape,h.output,h.size,h.block⟩
theorem qap(h:a.grownBy w row)(o:Obj):a.grownBy (w.alloc o) row:=
 qa1 h (World.grownBy_alloc w o none) (fun _ e=>by cases e)
theorem qa2(h:a.grownBy w row){p:Addr}(hp:a.heap.size<=p.block∨row=some p.block)(u:Value):a.grownBy (w.setCell p u) row:=
 qa1 (row':=some p.block) h ⟨rfl,rfl,rfl,by simp [World.setCell],fun i _ hne=>Below.heap_setCell w p u i (fun e=>hne (by rw [e]))⟩ (fun g e=>by cases e;exact hp)
theorem q5m(h:a.grownBy w none):Below a.heap.size a w:=⟨h.os,h.tape,h.output,h.size,fun i hi=>h.block i hi (by simp)⟩
theorem qxl(h:Below a.heap.size a w)(row:Option Nat):a.grownBy w row:=⟨h.os,h.tape,h.output,h.size,fun i hi _=>h.block i hi⟩
theorem q0s{base:Nat}(h:a.grownBy w row)(hr:∀ g,row=some g->base<=g)(hb:base<=a.heap.size:=by omega):Below base a w:=⟨h.os,h.tape,h.output,h.size,fun i hi=>h.block i (by omega) (fun e=>by have:=hr i e.symm;omega)⟩
theorem qmb(h:a.grownBy w row){p:Addr}(hp:p.block < a.heap.size)(hne:row≠some p.block):w.cell? p=a.cell? p:=World.cell?_of_block (h.block p.block hp (fun e=>hne e.symm))
end
theorem q21(w:World)(g:Nat)(u v x:Value):w.grownBy (((w.setCell ⟨g,0,none⟩ u).setCell ⟨g,1,none⟩ v).setCell ⟨g,2,none⟩ x) (some g):=
 qa2 (qa2 (qa2 (qag w (some g)) (.inr rfl) u) (.inr rfl) v) (.inr rfl) x
def Blk(w:World)(g:Nat)(t:TypeId)(cs:Array Value):Prop:=w.heap[g]?=some (.cells cs t (0,0))
section
variable {w w':World}{g:Nat}{t:TypeId}{cs:Array Value}
theorem Blk.lt(h:Blk w g t cs):g < w.heap.size:=(Array.getElem?_eq_some_iff.1 h).1
theorem Blk.cell(h:Blk w g t cs)(i:Nat):w.cell? ⟨g,i,none⟩=cs[i]?:=cell_of_row w g i cs t (0,0) h
theorem Blk.frozen(h:Blk w g t cs)(i:Nat):w.frozen? ⟨g,i,none⟩=false:=frozen_of_row w g i cs t h
theorem Blk.new(w:World)(t:TypeId)(cs:Array Value):Blk (w.alloc (.cells cs t)) w.heap.size t cs:=heap_alloc_new w _
theorem Blk.drew(h:Blk w g t cs):Blk w.drew g t cs:=h
theorem Blk.alloc(h:Blk w g t cs)(o:Obj):Blk (w.alloc o) g t cs:=(Below.heap_alloc w o g h.lt).trans h
theorem Blk.qC(h:Blk w g t cs)(i:Nat)(u:Value):Blk (w.setCell ⟨g,i,none⟩ u) g t (cs.setIfInBounds i u):=heap_setCell_same w g i cs t u h
theorem Blk.far(h:Blk w g t cs){p:Addr}(hp:g≠p.block)(u:Value):Blk (w.setCell p u) g t cs:=(Below.heap_setCell w p u g hp).trans h
theorem Blk.grown{row:Option Nat}(h:Blk w g t cs)(hb:w.grownBy w' row)(hg:some g≠row):Blk w' g t cs:=(hb.block g h.lt hg).trans h
theorem Blk.ne_{g':Nat}{t':TypeId}{cs':Array Value}(h:Blk w g t cs)(k:Blk w g' t' cs')(ht:t≠t'):g≠g':=by
 rintro rfl;unfold Blk at h k;rw [h] at k;injection k with k;injection k with _ k;exact ht k
end
def qg(w:World)(E:TypeId)(row:Option Nat):Prop:=∀ g,row=some g->∀ cur,¬ Blk w g E cur
theorem qg.none(w:World)(E:TypeId):qg w E none:=fun _ e=>by cases e
theorem qg.blk{w:World}{E E':TypeId}{g:Nat}{cs:Array Value}(h:Blk w g E' cs)(hne:E≠E'):qg w E (some g):=fun g' e cur hc=>by
 cases e;exact hc.ne_ h hne rfl
theorem qg.own{w:World}{E E':TypeId}{base size n:Nat}{v:Value}{xs:List Value}(h:w.ownsRow base E' size v n xs)(hne:E≠E'):qg w E v.ownBlock:=by
 rcases h.2 with ⟨rfl,_⟩ | ⟨g,cap,cur,rfl,_,hg,_⟩
 . exact qg.none w E
 . exact qg.blk (cs:=cur) hg hne
def TS(w:World)(E:TypeId)(size:Nat)(v:Value)(n:Nat)(xs:List Value):Prop:=
 xs.length=n * size/\∃ A c,v=.slice A n c/\n<=c/\c<=maxLen/\(A=none->c=0) /\
   (n=0∨∃ g o cur,A=some ⟨g,o,none⟩/\Blk w g E cur/\∀ j u,xs[j]?=some u->cur[o+j]?=some u)
section
variable {w w':World}{E:TypeId}{size n:Nat}{v:Value}{xs:List Value}
theorem TS.form(h:TS w E size v n xs):∃ A c,v=.slice A n c/\n<=c/\c<=maxLen/\(A=none->c=0):=
 let ⟨_,A,c,h1,h2,h3,h4,_⟩:=h;⟨A,c,h1,h2,h3,h4⟩
theorem TS.le(h:TS w E size v n xs):n<=9223372036854775807:=by
 obtain⟨A,c,_,h2,h3,_⟩:=h.form;unfold maxLen at h3;omega
theorem TS.nil(w:World)(E:TypeId)(size:Nat):TS w E size (.slice none 0 0) 0 []:=⟨by simp,none,0,rfl,by simp,by simp,by simp,.inl rfl⟩
theorem TS.at_{A:Option Addr}{c:Nat}(h:TS w E size (.slice A n c) n xs)(hn:0 < n) :
   ∃ g o cur,A=some ⟨g,o,none⟩/\Blk w g E cur/\∀ j u,xs[j]?=some u->w.cell? ⟨g,o+j,none⟩=some u:=by
 obtain⟨_,A',c',h1,_,_,_,h5⟩:=h;injection h1 with h1 _ _;subst h1;rcases h5 with h5 | ⟨g,o,cur,rfl,hb,hc⟩
 . omega
 . exact⟨g,o,cur,rfl,hb,fun j u hu=>(hb.cell _).trans (hc j u hu)⟩
theorem TS.grown{row:Option Nat}(h:TS w E size v n xs)(hg:w.grownBy w' row)(hr:qg w E row):TS w' E size v n xs:=by
 obtain⟨h0,A,c,h1,h2,h3,h4,h5⟩:=h;refine⟨h0,A,c,h1,h2,h3,h4,?_⟩;rcases h5 with h5 | ⟨g,o,cur,hA,hb,hc⟩
 . exact .inl h5
 . exact .inr ⟨g,o,cur,hA,hb.grown hg (fun e=>hr g e.symm cur hb),hc⟩
theorem TS.new(h:TS w E size v n xs)(hg:w.grownBy w' none):TS w' E size v n xs:=h.grown hg (qg.none _ _)
theorem TS.jC{base:Nat}(h:w.ownsRow base E size v n xs):TS w E size v n xs:=by
 refine⟨h.1,?_⟩;rcases h.2 with ⟨rfl,rfl⟩ | ⟨g,cap,cur,rfl,_,hg,hn,hcm,_,ht⟩
 . exact⟨none,0,rfl,by simp,by simp,by simp,.inl rfl⟩
 . refine⟨some ⟨g,0,none⟩,cap,rfl,hn,hcm,by simp,.inr ⟨g,0,cur,rfl,hg,fun j u hu=>?_⟩⟩;rw [<-ht,List.getElem?_take] at hu;split at hu
   . simpa using hu
   . cases hu
end
def RI(w:World)(v:Value)(l:List Int):Prop:=TS w 3 1 v l.length (l.map (.int .i64))
section
variable {w w':World}{v:Value}{l:List Int}
theorem RI.at_{A:Option Addr}{n c k:Nat}(h:RI w (.slice A n c) l)(hk:k < n):∃ g o x,A=some ⟨g,o,none⟩/\l[k]?=some x/\w.cell? ⟨g,o+k,none⟩=some (.int .i64 x):=by
 have hn:n=l.length:=by
   obtain⟨A',c',h1,_⟩:=h.form;injection h1
 subst hn;obtain⟨g,o,cur,rfl,_,hc⟩:=TS.at_ h (by omega);refine⟨g,o,l[k],rfl,List.getElem?_eq_getElem hk,hc k _ ?_⟩;simp [hk]
theorem RI.len{A:Option Addr}{n c:Nat}(h:RI w (.slice A n c) l):n=l.length:=by
 obtain⟨A',c',h1,_⟩:=h.form;injection h1
theorem RI.val(h:RI w v l):∃ A n c,v=.slice A n c:=by
 obtain⟨A,c,h1,h2,_⟩:=h.form;exact⟨A,_,c,h1⟩
theorem RI.form'(h:RI w v l):∃ A n c,v=.slice A n c/\n<=c/\n=l.length:=by
 obtain⟨A,c,h1,h2,_⟩:=h.form;exact⟨A,_,c,h1,h2,rfl⟩
end
theorem qxm{P:Program}{ops:Array Oper}{rest:List Oper}{o:Oper}{a:Act}{Q:Exit->Act->World->Prop}{w:World}{cs:Array Value}{E:TypeId}
   (s x:Operand) (t:TypeId) (z:Value) (size bytes:Nat) (ht:P.underlying t=some (.slice E)) (yp:(P.info? E).map (fun i=>(i.zero,i.size,i.bytes))=some (some z,size,bytes))
   (hzs:z.cells.size=size) (hsz:0 < size) (hby:bytes<=128) (hgd:o.guard=none)
   (ho:o.op=.call { callee:=.builtin .append,args:=#[s,x],argTypes:=#[t,t] })
   {base:Nat} {v:Value} {n:Nat} {xs:List Value} (hown:w.ownsRow base E size v n xs) (hn:n<=1000000000) (hbase:base<=w.heap.size)
   (hcs:cs.size=size) (h1:∀ u∈cs.toList,u.oneCell'=true) (hs:a.eval s=v) (hx:a.eval x=.slice (some ⟨w.heap.size,0,none⟩) 1 1)
   (h:∀ v' w',w'.ownsRow base E size v' (n+1) (xs++cs.toList)->w.grownBy w' v.ownBlock->v'≠.slice none 0 0->wpList P ops Q rest (a.put o.dst v') w') :
   wpList P ops Q (o::rest) a (w.alloc (.cells cs E)):=by
 obtain⟨i,hi,hz0,hz1,hz2⟩:=info_parts yp;refine wpList_append_own _ hgd s x t ho base E i z size bytes ht hi hz0 hz1 hz2 hzs hsz v n xs hs (hown.alloc _) ⟨w.heap.size,0,none⟩ 1 1 cs.toList hx (by simpa using hcs) ?_ h1 ?_ ?_ ?_ ?_
 . intro j u hj;have hadd:(⟨w.heap.size,0,none⟩:Addr).add j=⟨w.heap.size,j,none⟩:=by unfold Addr.add;split <;> simp_all
   rw [hadd,World.cell?_alloc_new];simpa using hj
 . unfold maxLen;omega
 . calc (n+1) * bytes<=(n+1) * 128:=Nat.mul_le_mul_left _ hby
     _<=140737488355328:=by omega
 . simp;omega
 . intro v' w' ho' hg hnil;refine h v' w' ho' ?_ ?_
   . exact⟨hg.os,hg.tape,hg.output,Nat.le_trans (by simp) hg.size,fun k hk hne=>(hg.block k (by simp;omega) hne).trans (Below.heap_alloc w _ k hk)⟩
   . intro e;have:=(hnil.1 e).2;omega
theorem qch{w w':World}{base:Nat}{E:TypeId}{size n:Nat}{v:Value}{xs:List Value}{row:Option Nat}(h:w.ownsRow base E size v n xs)(hg:w.grownBy w' row)(hr:qg w E row):w'.ownsRow base E size v n xs:=by
 refine h.kept hg ?_;rcases h.2 with ⟨rfl,_⟩ | ⟨g,cap,cur,rfl,_,hh,_⟩
 . exact .inl rfl
 . right;intro e;exact hr g (e.symm.trans rfl) cur hh
theorem qo6{w:World}{base:Nat}{E:TypeId}{size:Nat}(hb:base<=w.heap.size):(w.alloc (.cells #[] E)).ownsRow base E size (.slice (some ⟨w.heap.size,0,none⟩) 0 0) 0 []:=
 World.ownsRow_made w #[] 0 hb (by unfold maxLen;omega) (by simp)
theorem qkm:(Tryz.prog.info? 3).map (fun i=>(i.zero,i.size,i.bytes))=some (some (.int .i64 0),1,8):=by kernel_rfl
def qf(w:World)(base:Nat)(v:Value)(l:List Int):Prop:=w.ownsRow base 3 1 v l.length (l.map (.int .i64))
section
variable {w w':World}{base:Nat}{v:Value}{l:List Int}
theorem qf.grown{row:Option Nat}(h:qf w base v l)(hg:w.grownBy w' row)(hr:qg w 3 row):qf w' base v l:=qch h hg hr
theorem qf.new(h:qf w base v l)(hg:w.grownBy w' none):qf w' base v l:=qch h hg (qg.none _ _)
theorem qf.alloc(h:qf w base v l)(o:Obj):qf (w.alloc o) base v l:=h.new (World.grownBy_alloc w o none)
theorem qf.ri(h:qf w base v l):RI w v l:=TS.jC h
theorem qf.qV{E:TypeId}(h:qf w base v l)(hE:E≠3):qg w E v.ownBlock:=qg.own h hE
theorem qf.lt(h:qf w base v l):∀ g,v.ownBlock=some g->base<=g/\g < w.heap.size:=World.ownsRow.lt h
theorem qf.empty(w:World){base:Nat}(hb:base<=w.heap.size):qf (w.alloc (.cells #[] 3)) base (.slice (some ⟨w.heap.size,0,none⟩) 0 0) []:=qo6 hb
theorem qf.nil(w:World)(base:Nat):qf w base (.slice none 0 0) []:=World.ownsRow_nil _ _ _ _
theorem qf.form(h:qf w base v l)(hl:0 < l.length):∃ g cap cur,v=.slice (some ⟨g,0,none⟩) l.length cap/\l.length<=cap/\base<=g/\Blk w g 3 cur/\∀ j x,l[j]?=some x->w.cell? ⟨g,j,none⟩=some (.int .i64 x):=by
 rcases h.2 with ⟨rfl,h0⟩ | ⟨g,cap,cur,rfl,hb,hh,hn,_,_,ht⟩
 . omega
 . refine⟨g,cap,cur,rfl,hn,hb,hh,fun j x hx=>?_⟩;have hc:=World.ownsRow.cellAt (g:=g) (cap:=cap) h j (by have:=(List.getElem?_eq_some_iff.1 hx).1;omega);rw [hc];simp [hx]
theorem qf.qC{g n cap:Nat}(h:qf w base (.slice (some ⟨g,0,none⟩) n cap) l)(hn:n=l.length)(j:Nat)(x:Int):qf (w.setCell ⟨g,j,none⟩ (.int .i64 x)) base (.slice (some ⟨g,0,none⟩) n cap) (l.set j x):=by
 subst hn;have k:=(World.ownsRow.stored h j (.int .i64 x)).1;unfold qf;rw [List.length_set,List.map_set];exact k
theorem qf.gb{a:World}{row:Option Nat}(h:qf w base v l)(hg:a.grownBy w row)(k:w.grownBy w' v.ownBlock)(hb:a.heap.size<=base):a.grownBy w' row:=
 qa1 hg k (fun g e=>.inl (Nat.le_trans hb (h.lt g e).1))
end
theorem qcg{ops:Array Oper}{rest:List Oper}{o:Oper}{a:Act}{Q:Exit->Act->World->Prop}{w:World}{u:Int}
   (s x:Operand) (hgd:o.guard=none) (ho:o.op=.call { callee:=.builtin .append,args:=#[s,x],argTypes:=#[24,24] })
   {base:Nat} {v:Value} {l:List Int} (hown:qf w base v l) (hn:l.length<=1000000000) (hbase:base<=w.heap.size)
   (hs:a.eval s=v) (hx:a.eval x=.slice (some ⟨w.heap.size,0,none⟩) 1 1)
   (h:∀ v' w',qf w' base v' (l++[u])->w.grownBy w' v.ownBlock->wpList Tryz.prog ops Q rest (a.put o.dst v') w') :
   wpList Tryz.prog ops Q (o::rest) a (w.alloc (.cells #[.int .i64 u] 3)):=
 qxm s x 24 (.int .i64 0) 1 8 Tryz.underlying24 qkm rfl (by decide) (by decide) hgd ho hown hn hbase rfl (by simp [Value.oneCell']) hs hx
   fun v' w' h1 h2 _=>h v' w' (by unfold qf;simpa using h1) h2
theorem qkn{ops:Array Oper}{o:Oper}{a:Act}{K:Act->World->Prop}{Q:Exit->Act->World->Prop}{E:Prop}{w:World}{u:Int}
   (s x:Operand) (hgd:o.guard=none) (ho:o.op=.call { callee:=.builtin .append,args:=#[s,x],argTypes:=#[24,24] })
   {base:Nat} {v:Value} {l:List Int} (hown:qf w base v l) (hn:l.length<=1000000000) (hbase:base<=w.heap.size)
   (hs:a.eval s=v) (hx:a.eval x=.slice (some ⟨w.heap.size,0,none⟩) 1 1)
   (h:∀ v' w',qf w' base v' (l++[u])->w.grownBy w' v.ownBlock->K (a.put o.dst v') w') :
   if Region.wanted o (yielded ops a.tmps)=true then Oper.wp Tryz.prog o a (w.alloc (.cells #[.int .i64 u] 3)) K Q else E:=by
 have hw:Region.wanted o (yielded ops a.tmps)=true:=by simp [Region.wanted,hgd]
 rw [if_pos hw];obtain⟨i,hi,hz0,hz1,hz2⟩:=info_parts qkm;refine wp_append_own _ s x 24 ho base 3 i _ 1 8 Tryz.underlying24 hi hz0 hz1 hz2 rfl (by decide) v l.length _ hs (World.ownsRow.alloc hown _) ⟨w.heap.size,0,none⟩ 1 1 [.int .i64 u] hx rfl ?_ ?_ ?_ ?_ ?_ ?_
 . intro j u' hj
   match j,hj with
   | 0,hj=>simp at hj;subst hj;simp [Addr.add]
 . intro u' hu;simp at hu;subst hu;rfl
 . unfold maxLen;omega
 . omega
 . simp;omega
 . intro v' w' ho' hg _;exact h v' w' (by unfold qf;simpa using ho') ⟨hg.os,hg.tape,hg.output,Nat.le_trans (by simp) hg.size,fun k hk hne=>(hg.block k (by simp;omega) hne).trans (Below.heap_alloc w _ k hk)⟩
theorem RI.empty{w:World}{v:Value}(h:RI w v [])(w':World):RI w' v []:=by
 obtain⟨h0,A,c,h1,h2,h3,h4,_⟩:=h;exact⟨h0,A,c,h1,h2,h3,h4,.inl rfl⟩
theorem qct{P:Program}{f:FuncId}{args:Array Value}{w:World}{n:Nat}{v:Value}
   (h:Calls P f args (w.drewN n) fun e w'=>e=.returned v/\w.drewN n=w'):Calls P f args (w.drewN n) fun e w''=>e=.returned v/\∃ m,w''=w.drewN m:=
 h.mono fun _ _ ⟨he,hm⟩=>⟨he,n,hm.symm⟩
theorem qfw{α:Type}(p:α->Bool){l:List α}{k:Nat}{x:α}(h:l[k]?=some x):(l.take (k+1)).all p=((l.take k).all p && p x):=by
 obtain⟨hk,rfl⟩:=List.getElem?_eq_some_iff.1 h;rw [List.take_succ_eq_append_getElem hk,List.all_append];simp
theorem qh1{P:Program}{w:World}{base:Nat}{t ty E:TypeId}{z:Value}{size bytes:Nat}(ht:P.underlying t=some (.slice E))(yp:(P.info? E).map (fun i=>(i.zero,i.size,i.bytes))=some (some z,size,bytes))
   (hzs:z.cells.size=size) (hsz:0 < size) {v:Value} {n:Nat} {xs:List Value} (hown:w.ownsRow base E size v n xs) {ad:Addr} {c:Nat} {news:List Value} (hl:news.length=1 * size)
   (hnews:∀ j u,news[j]?=some u->w.cell? (ad.add j)=some u) (h1:∀ u∈news,u.oneCell'=true) (h63:n+1<=maxLen) (hbytes:(n+1) * bytes<=140737488355328) (hbase:base<=w.heap.size) :
   ∃ v' w',(Builtin.append_ #[t,t] ty #[v,.slice (some ad) 1 c]).run P w=.ok v' w'/\w'.ownsRow base E size v' (n+1) (xs++news)/\w.grownBy w' v.ownBlock/\(v'.ownBlock=v.ownBlock∨v'.ownBlock=some w.heap.size):=by
 obtain⟨i,hi,hz0,hz1,hz2⟩:=info_parts yp;obtain⟨v',w',hr,h2,h3,_⟩:=run_append_own (P:=P) w base t ty E i z size bytes ht hi hz0 hz1 hz2 hzs hsz v n xs hown ad 1 c news hl hnews h1 h63 hbytes hbase;refine⟨v',w',hr,h2,h3,?_⟩;have h63':n+1<=9223372036854775807:=by unfold maxLen at h63;omega
 rcases hown.2 with ⟨rfl,rfl⟩ | ⟨g,cap,cur,rfl,hb,hg,hn,hcm,hcs,htk⟩
 . right;have hr2:=run_append_nil (P:=P) w t ty E i z ht hi hz0 ad 1 c news (by rw [hz1];exact hl) hnews (by omega) (by omega) (by rw [hz2];omega);rw [hr] at hr2;injection hr2 with hv _;rw [hv];rfl
 . by_cases hroom:n+1<=cap
   . left;obtain⟨w2,hr2,_⟩:=run_append_fits (P:=P) w base t ty E i size ht hi hz1 g n cap xs hown ad 1 c news hl hnews h1 hroom;rw [hr] at hr2;injection hr2 with hv _;rw [hv];rfl
   . right
     have hr2:=run_append_grow (P:=P) w t ty E i z ht hi hz0 ⟨g,0,none⟩ n cap xs (by rw [hz1];exact hown.1) (hown.cells (g:=g) rfl) ad 1 c news (by rw [hz1];exact hl) hnews (by omega) (by omega)
       (growslice_fits (by omega) (by rw [hz2];exact hbytes))
     rw [hr] at hr2;injection hr2 with hv _;rw [hv];rfl
theorem qfx{P:Program}{ops:Array Oper}{rest:List Oper}{o:Oper}{a:Act}{Q:Exit->Act->World->Prop}{w:World}{cs:Array Value}{E:TypeId}
   (s x:Operand) (t:TypeId) (z:Value) (size bytes:Nat) (ht:P.underlying t=some (.slice E)) (yp:(P.info? E).map (fun i=>(i.zero,i.size,i.bytes))=some (some z,size,bytes))
   (hzs:z.cells.size=size) (hsz:0 < size) (hby:bytes<=128) (hgd:o.guard=none)
   (ho:o.op=.call { callee:=.builtin .append,args:=#[s,x],argTypes:=#[t,t] })
   {base:Nat} {v:Value} {n:Nat} {xs:List Value} (hown:w.ownsRow base E size v n xs) (hn:n<=1000000000) (hbase:base<=w.heap.size)
   (hcs:cs.size=size) (h1:∀ u∈cs.toList,u.oneCell'=true) (hs:a.eval s=v) (hx:a.eval x=.slice (some ⟨w.heap.size,0,none⟩) 1 1)
   (h:∀ v' w',w'.ownsRow base E size v' (n+1) (xs++cs.toList)->w.grownBy w' v.ownBlock->(v'.ownBlock=v.ownBlock∨v'.ownBlock=some (w.heap.size+1))->wpList P ops Q rest (a.put o.dst v') w') :
   wpList P ops Q (o::rest) a (w.alloc (.cells cs E)):=by
 have hnews:∀ j u,cs.toList[j]?=some u->(w.alloc (.cells cs E)).cell? ((⟨w.heap.size,0,none⟩:Addr).add j)=some u:=by
   intro j u hj;have hadd:(⟨w.heap.size,0,none⟩:Addr).add j=⟨w.heap.size,j,none⟩:=by unfold Addr.add;split <;> simp_all
   rw [hadd,World.cell?_alloc_new];simpa using hj
 obtain⟨v',w',hr,h2,h3,h4⟩:=qh1 (P:=P) (t:=t) (ty:=o.type) (c:=1) ht yp hzs hsz (hown.alloc (.cells cs E)) (news:=cs.toList) (by simpa using hcs) hnews h1 (by unfold maxLen;omega)
   (by calc (n + 1) * bytes <= (n + 1) * 128 := Nat.mul_le_mul_left _ hby
         _<=140737488355328:=by omega) (by simp;omega)
 refine wpList_plain hgd fun K hK=>?_;unfold Oper.wp execOp;simp only [ho,resolve,invoke,builtin,Sem.run_bind,Sem.run_pure,Result.andThen_ok,List.map_toArray,List.map_cons,List.map_nil,hs,hx,hr];refine hK _ _ (h v' w' h2 ?_ (by simpa using h4));exact⟨h3.os,h3.tape,h3.output,Nat.le_trans (by simp) h3.size,fun k hk hne=>(h3.block k (by simp;omega) hne).trans (Below.heap_alloc w _ k hk)⟩
theorem qmc{α:Type}{l:List α}{k:Nat}{x:α}(h:l[k]?=some x):l.zipIdx[k]?=some (x,k):=by simp [h]
def NV(w:World)(v:Value)(nd:Node):Prop:=∃ f r,v=.agg #[.int .i64 nd.kind,f,r]/\RI w f nd.frm/\RI w r nd.row
def NC(w:World)(xs:List Value)(i:Nat)(nd:Node):Prop:=
 ∃ f r,xs[i * 3]?=some (.int .i64 nd.kind)/\xs[i * 3+1]?=some f/\xs[i * 3+2]?=some r/\RI w f nd.frm/\RI w r nd.row
def RN(w:World)(v:Value)(qa:List Node):Prop:=∃ xs,TS w 81 3 v qa.length xs/\∀ i nd,qa[i]?=some nd->NC w xs i nd
theorem RI.nil(w:World):RI w (.slice none 0 0) []:=TS.nil _ _ _
theorem RI.lit(w:World)(l:List Int)(hl:l.length<=maxLen:=by simp [maxLen]):RI (w.alloc (.cells (l.map (.int .i64)).toArray 3)) (.slice (some ⟨w.heap.size,0,none⟩) l.length l.length) l:=
 ⟨by simp,_,_,rfl,Nat.le_refl _,hl,by simp,.inr ⟨w.heap.size,0,_,rfl,Blk.new w _ _,fun j u hu=>by simpa using hu⟩⟩
def jM(w:World)(base:Nat)(v:Value)(qa:List Node):Prop:=∃ xs,w.ownsRow base 81 3 v qa.length xs/\∀ i nd,qa[i]?=some nd->NC w xs i nd
section
variable {w w':World}{v:Value}{nd:Node}{qa:List Node}{base:Nat}{xs:List Value}{row:Option Nat}
theorem RI.grown{l:List Int}(h:RI w v l)(hg:w.grownBy w' row)(hr:qg w 3 row):RI w' v l:=TS.grown h hg hr
theorem RI.jN{l:List Int}(h:RI w v l):v.oneCell'=true:=by
 obtain⟨A,n,c,rfl,_⟩:=h.form';rfl
theorem RI.new{l:List Int}(h:RI w v l)(hg:w.grownBy w' none):RI w' v l:=TS.new h hg
theorem RI.alloc{l:List Int}(h:RI w v l)(o:Obj):RI (w.alloc o) v l:=h.new (World.grownBy_alloc w o none)
theorem NC.grown{i:Nat}(h:NC w xs i nd)(hg:w.grownBy w' row)(hr:qg w 3 row):NC w' xs i nd:=
 let ⟨f,r,h1,h2,h3,h4,h5⟩:=h;⟨f,r,h1,h2,h3,h4.grown hg hr,h5.grown hg hr⟩
theorem RN.grown(h:RN w v qa)(hg:w.grownBy w' row)(hr:qg w 3 row)(hr':qg w 81 row):RN w' v qa:=
 let ⟨xs,h1,h2⟩:=h;⟨xs,h1.grown hg hr',fun i nd hi=>(h2 i nd hi).grown hg hr⟩
theorem RN.new(h:RN w v qa)(hg:w.grownBy w' none):RN w' v qa:=h.grown hg (qg.none _ _) (qg.none _ _)
theorem RN.alloc(h:RN w v qa)(o:Obj):RN (w.alloc o) v qa:=h.new (World.grownBy_alloc w o none)
theorem jM.grown(h:jM w base v qa)(hg:w.grownBy w' row)(hr:qg w 3 row)(hr':qg w 81 row):jM w' base v qa:=
 let ⟨xs,h1,h2⟩:=h;⟨xs,qch h1 hg hr',fun i nd hi=>(h2 i nd hi).grown hg hr⟩
theorem jM.rn(h:jM w base v qa):RN w v qa:=let ⟨xs,h1,h2⟩:=h;⟨xs,TS.jC h1,h2⟩
theorem jM.lt(h:jM w base v qa):∀ g,v.ownBlock=some g->base<=g/\g < w.heap.size:=let ⟨_,h1,_⟩:=h;World.ownsRow.lt h1
theorem jM.qV{E:TypeId}(h:jM w base v qa)(hE:E≠81):qg w E v.ownBlock:=let ⟨_,h1,_⟩:=h;qg.own h1 hE
theorem jM.gb{a:World}(h:jM w base v qa)(hg:a.grownBy w row)(k:w.grownBy w' v.ownBlock)(hb:a.heap.size<=base):a.grownBy w' row:=
 qa1 hg k (fun g e=>.inl (Nat.le_trans hb (h.lt g e).1))
theorem jM.empty(w:World){base:Nat}(hb:base<=w.heap.size):jM (w.alloc (.cells #[] 81)) base (.slice (some ⟨w.heap.size,0,none⟩) 0 0) []:=⟨[],qo6 hb,fun i nd h=>by simp at h⟩
theorem RN.len{A:Option Addr}{n c:Nat}(h:RN w (.slice A n c) qa):n=qa.length:=by
 obtain⟨xs,h,_⟩:=h;obtain⟨A',c',h1,_⟩:=h.form;injection h1
theorem RN.form'(h:RN w v qa):∃ A n c,v=.slice A n c/\n<=c/\n=qa.length/\n<=9223372036854775807:=by
 obtain⟨xs,h,_⟩:=h;have:=h.le;obtain⟨A,c,h1,h2,_⟩:=h.form;exact⟨A,_,c,h1,h2,rfl,this⟩
theorem RN.val(h:RN w v qa):∃ A n c,v=.slice A n c:=by
 obtain⟨A,n,c,h1,_⟩:=h.form';exact⟨A,n,c,h1⟩
theorem RN.at_{A:Option Addr}{n c k:Nat}(h:RN w (.slice A n c) qa)(hk:k < n) :
   ∃ g o nd f r,A=some ⟨g,o,none⟩/\qa[k]?=some nd/\w.cell? ⟨g,o+k * 3,none⟩=some (.int .i64 nd.kind)/\w.cell? ⟨g,o+k * 3+1,none⟩=some f/\w.cell? ⟨g,o+k * 3+2,none⟩=some r/\RI w f nd.frm/\RI w r nd.row:=by
 have hn:=h.len;subst hn;obtain⟨xs,h1,h2⟩:=h;obtain⟨g,o,cur,rfl,_,hc⟩:=TS.at_ h1 (by omega);obtain⟨f,r,k1,k2,k3,k4,k5⟩:=h2 k _ (List.getElem?_eq_getElem hk);exact⟨g,o,qa[k],f,r,rfl,List.getElem?_eq_getElem hk,hc _ _ k1,hc _ _ k2,hc _ _ k3,k4,k5⟩
end
theorem q8l:(Tryz.prog.info? 81).map (fun i=>(i.zero,i.size,i.bytes))=some (some (.agg #[.int .i64 0,.slice none 0 0,.slice none 0 0]),3,56):=by kernel_rfl
theorem NC.vM{w:World}{xs:List Value}{i:Nat}{nd:Node}{ys:List Value}(h:NC w xs i nd):NC w (xs++ys) i nd:=by
 obtain⟨f,r,h1,h2,h3,h4,h5⟩:=h;have a:=fun {j u} (hj:xs[j]?=some u)=>(List.getElem?_append_left (l₂:=ys) (List.getElem?_eq_some_iff.1 hj).1).trans hj;exact⟨f,r,a h1,a h2,a h3,h4,h5⟩
theorem NC.vN{w:World}{xs:List Value}{n:Nat}{nd:Node}{f r:Value}(hl:xs.length=n * 3)(h4:RI w f nd.frm)(h5:RI w r nd.row):NC w (xs++[.int .i64 nd.kind,f,r]) n nd:=by
 refine⟨f,r,?_,?_,?_,h4,h5⟩
 . rw [List.getElem?_append_right (by omega),show n * 3 - xs.length=0 by omega];rfl
 . rw [List.getElem?_append_right (by omega),show n * 3+1 - xs.length=1 by omega];rfl
 . rw [List.getElem?_append_right (by omega),show n * 3+2 - xs.length=2 by omega];rfl
theorem qvb{ops:Array Oper}{rest:List Oper}{o:Oper}{a:Act}{Q:Exit->Act->World->Prop}{w:World}{nd:Node}{f r:Value}
   (s x:Operand) (hgd:o.guard=none) (ho:o.op=.call { callee:=.builtin .append,args:=#[s,x],argTypes:=#[23,23] })
   {base:Nat} {v:Value} {qa:List Node} (hown:jM w base v qa) (hf:RI w f nd.frm) (hr:RI w r nd.row) (hn:qa.length<=1000000000) (hbase:base<=w.heap.size)
   (hs:a.eval s=v) (hx:a.eval x=.slice (some ⟨w.heap.size,0,none⟩) 1 1)
   (h:∀ v' w',jM w' base v' (qa++[nd])->w.grownBy w' v.ownBlock->wpList Tryz.prog ops Q rest (a.put o.dst v') w') :
   wpList Tryz.prog ops Q (o::rest) a (w.alloc (.cells #[.int .i64 nd.kind,f,r] 81)):=by
 obtain⟨xs,ho1,ho2⟩:=hown;refine qxm s x 23 _ 3 56 Tryz.underlying23 q8l rfl (by decide) (by decide) hgd ho ho1 hn hbase rfl ?_ hs hx ?_
 . intro u hu;simp only [List.mem_cons,List.not_mem_nil,or_false] at hu;rcases hu with rfl | rfl | rfl
   . rfl
   . exact hf.jN
   . exact hr.jN
 intro v' w' h1 h2 _;refine h v' w' ⟨_,by simpa using h1,?_⟩ h2;intro i nd' hi;have hne:qg w 3 v.ownBlock:=qg.own ho1 (by decide);by_cases hl:i < qa.length
 . rw [List.getElem?_append_left hl] at hi;exact((ho2 i nd' hi).vM).grown h2 hne
 . rw [List.getElem?_append_right (by omega)] at hi
   have h0:i - qa.length=0:=by
     rcases Nat.eq_zero_or_pos (i - qa.length) with h | h
     . exact h
     . rw [List.getElem?_eq_none (by simp;omega)] at hi;cases hi
   rw [h0] at hi;obtain rfl:nd=nd':=by simpa using hi
   obtain rfl:i=qa.length:=by omega
   exact NC.vN ho1.1 (hf.grown h2 hne) (hr.grown h2 hne)
theorem jM.form{w:World}{base:Nat}{v:Value}{qa:List Node}(h:jM w base v qa){n:Nat}(hn:qa.length=n)(h0:0 < n) :
   ∃ g cap cur,v=.slice (some ⟨g,0,none⟩) n cap/\n<=cap/\base<=g/\Blk w g 81 cur/\∀ j,j < n * 3->∃ u,w.cell? ⟨g,j,none⟩=some u:=by
 subst hn;obtain⟨xs,h1,_⟩:=h;rcases h1.2 with ⟨rfl,hz⟩ | ⟨g,cap,cur,rfl,hb,hh,hn,_,hcs,ht⟩
 . omega
 . refine⟨g,cap,cur,rfl,hn,hb,hh,fun j hj=>?_⟩;rw [cell_of_row w g j cur _ _ hh];exact⟨_,Array.getElem?_eq_getElem (by rw [hcs];omega)⟩
theorem jM.qC{w:World}{base g n cap k:Nat}{qa:List Node}{nd:Node}{f r:Value}(h:jM w base (.slice (some ⟨g,0,none⟩) n cap) qa)(hn:qa.length=n)(hk:k < n)(hf:RI w f nd.frm)(hr:RI w r nd.row) :
   jM (((w.setCell ⟨g,k * 3,none⟩ (.int .i64 nd.kind)).setCell ⟨g,k * 3+1,none⟩ f).setCell ⟨g,k * 3+2,none⟩ r) base (.slice (some ⟨g,0,none⟩) n cap) (qa.set k nd):=by
 subst hn;obtain⟨xs,h1,h2⟩:=h;have s1:=World.ownsRow.stored h1 (k * 3) (.int .i64 nd.kind);have s2:=World.ownsRow.stored s1.1 (k * 3+1) f;have s3:=World.ownsRow.stored s2.1 (k * 3+2) r;have hg:w.grownBy (((w.setCell ⟨g,k * 3,none⟩ (.int .i64 nd.kind)).setCell ⟨g,k * 3+1,none⟩ f).setCell ⟨g,k * 3+2,none⟩ r) (some g):=qac (qac s1.2 s2.2) s3.2;have hne:qg w 3 (some g):=qg.own (v:=.slice (some ⟨g,0,none⟩) qa.length cap) h1 (by decide);have hxl:=h1.1;refine⟨_,by rw [List.length_set];exact s3.1,fun i x hi=>?_⟩;by_cases hik:i=k
 . subst hik;rw [List.getElem?_set_self hk] at hi;obtain rfl:nd=x:=by simpa using hi
   refine⟨f,r,?_,?_,?_,hf.grown hg hne,hr.grown hg hne⟩
   . rw [List.getElem?_set_ne (by omega),List.getElem?_set_ne (by omega),List.getElem?_set_self (by omega)]
   . rw [List.getElem?_set_ne (by omega),List.getElem?_set_self (by rw [List.length_set];omega)]
   . rw [List.getElem?_set_self (by rw [List.length_set,List.length_set];omega)]
 . rw [List.getElem?_set_ne (fun e=>hik e.symm)] at hi;obtain⟨f',r',k1,k2,k3,k4,k5⟩:=h2 i x hi;refine⟨f',r',?_,?_,?_,k4.grown hg hne,k5.grown hg hne⟩
   all_goals rw [List.getElem?_set_ne (by omega),List.getElem?_set_ne (by omega),List.getElem?_set_ne (by omega)];assumption
def RL(w:World)(v:Value)(ll:List (List Int)):Prop:=∃ xs,TS w 24 1 v ll.length xs/\∀ (i:Nat) (l:List Int),ll[i]?=some l->∃ u,xs[i]?=some u/\RI w u l
def qM(w:World)(base:Nat)(v:Value)(ll:List (List Int)):Prop:=∃ xs,w.ownsRow base 24 1 v ll.length xs/\∀ (i:Nat) (l:List Int),ll[i]?=some l->∃ u,xs[i]?=some u/\RI w u l
section
variable {w w':World}{v:Value}{ll:List (List Int)}{base:Nat}{row:Option Nat}
theorem RL.grown(h:RL w v ll)(hg:w.grownBy w' row)(hr:qg w 3 row)(hr':qg w 24 row):RL w' v ll:=by
 obtain⟨xs,h1,h2⟩:=h;refine⟨xs,h1.grown hg hr',fun i l hi=>?_⟩;obtain⟨u,k1,k2⟩:=h2 i l hi;exact⟨u,k1,k2.grown hg hr⟩
theorem RL.new(h:RL w v ll)(hg:w.grownBy w' none):RL w' v ll:=h.grown hg (qg.none _ _) (qg.none _ _)
theorem qM.grown(h:qM w base v ll)(hg:w.grownBy w' row)(hr:qg w 3 row)(hr':qg w 24 row):qM w' base v ll:=by
 obtain⟨xs,h1,h2⟩:=h;refine⟨xs,qch h1 hg hr',fun i l hi=>?_⟩;obtain⟨u,k1,k2⟩:=h2 i l hi;exact⟨u,k1,k2.grown hg hr⟩
theorem qM.new(h:qM w base v ll)(hg:w.grownBy w' none):qM w' base v ll:=h.grown hg (qg.none _ _) (qg.none _ _)
theorem qM.rl(h:qM w base v ll):RL w v ll:=let ⟨xs,h1,h2⟩:=h;⟨xs,TS.jC h1,h2⟩
theorem qM.lt(h:qM w base v ll):∀ g,v.ownBlock=some g->base<=g/\g < w.heap.size:=let ⟨_,h1,_⟩:=h;World.ownsRow.lt h1
theorem qM.qV{E:TypeId}(h:qM w base v ll)(hE:E≠24):qg w E v.ownBlock:=let ⟨_,h1,_⟩:=h;qg.own h1 hE
theorem qM.gb{a:World}(h:qM w base v ll)(hg:a.grownBy w row)(k:w.grownBy w' v.ownBlock)(hb:a.heap.size<=base):a.grownBy w' row:=
 qa1 hg k (fun g e=>.inl (Nat.le_trans hb (h.lt g e).1))
theorem qM.empty(w:World){base:Nat}(hb:base<=w.heap.size):qM (w.alloc (.cells #[] 24)) base (.slice (some ⟨w.heap.size,0,none⟩) 0 0) []:=⟨[],qo6 hb,fun i nd h=>by simp at h⟩
theorem qM.nil(w:World)(base:Nat):qM w base (.slice none 0 0) []:=⟨[],World.ownsRow_nil _ _ _ _,fun i nd h=>by simp at h⟩
theorem RL.nil(w:World):RL w (.slice none 0 0) []:=⟨[],TS.nil _ _ _,fun i nd h=>by simp at h⟩
theorem RL.len{A:Option Addr}{n c:Nat}(h:RL w (.slice A n c) ll):n=ll.length:=by
 obtain⟨xs,h,_⟩:=h;obtain⟨A',c',h1,_⟩:=h.form;injection h1
theorem RL.form'(h:RL w v ll):∃ A n c,v=.slice A n c/\n<=c/\n=ll.length/\n<=9223372036854775807:=by
 obtain⟨xs,h,_⟩:=h;have:=h.le;obtain⟨A,c,h1,h2,_⟩:=h.form;exact⟨A,_,c,h1,h2,rfl,this⟩
theorem RL.val(h:RL w v ll):∃ A n c,v=.slice A n c:=by
 obtain⟨A,n,c,h1,_⟩:=h.form';exact⟨A,n,c,h1⟩
theorem RL.at_{A:Option Addr}{n c k:Nat}(h:RL w (.slice A n c) ll)(hk:k < n) :
   ∃ g o l B m e,A=some ⟨g,o,none⟩/\ll[k]?=some l/\w.cell? ⟨g,o+k,none⟩=some (.slice B m e)/\RI w (.slice B m e) l/\m=l.length/\m<=e/\m<=9223372036854775807:=by
 have hn:=h.len;subst hn;obtain⟨xs,h1,h2⟩:=h;obtain⟨g,o,cur,rfl,_,hc⟩:=TS.at_ h1 (by omega);obtain⟨u,k1,k2⟩:=h2 k _ (List.getElem?_eq_getElem hk);have hle:=k2.le;obtain⟨B,m,e,rfl,h3,h4⟩:=k2.form';exact⟨g,o,ll[k],B,m,e,rfl,List.getElem?_eq_getElem hk,hc _ _ k1,k2,h4,h3,by omega⟩
end
theorem qnd:(Tryz.prog.info? 24).map (fun i=>(i.zero,i.size,i.bytes))=some (some (.slice none 0 0),1,24):=by kernel_rfl
theorem qif{ops:Array Oper}{rest:List Oper}{o:Oper}{a:Act}{Q:Exit->Act->World->Prop}{w:World}{l:List Int}{f:Value}
   (s x:Operand) (hgd:o.guard=none) (ho:o.op=.call { callee:=.builtin .append,args:=#[s,x],argTypes:=#[27,27] })
   {base:Nat} {v:Value} {ll:List (List Int)} (hown:qM w base v ll) (hf:RI w f l) (hn:ll.length<=1000000000) (hbase:base<=w.heap.size)
   (hs:a.eval s=v) (hx:a.eval x=.slice (some ⟨w.heap.size,0,none⟩) 1 1)
   (h:∀ v' w',qM w' base v' (ll++[l])->w.grownBy w' v.ownBlock->wpList Tryz.prog ops Q rest (a.put o.dst v') w') :
   wpList Tryz.prog ops Q (o::rest) a (w.alloc (.cells #[f] 24)):=by
 obtain⟨xs,ho1,ho2⟩:=hown;refine qxm s x 27 _ 1 24 Tryz.underlying27 qnd rfl (by decide) (by decide) hgd ho ho1 hn hbase rfl ?_ hs hx ?_
 . intro u hu;simp only [List.mem_cons,List.not_mem_nil,or_false] at hu;subst hu;exact hf.jN
 intro v' w' h1 h2 _;refine h v' w' ⟨_,by simpa using h1,?_⟩ h2;intro i l' hi;have hne:qg w 3 v.ownBlock:=qg.own ho1 (by decide);have hxl:xs.length=ll.length:=by have:=ho1.1;omega
 by_cases hl:i < ll.length
 . rw [List.getElem?_append_left hl] at hi;obtain⟨u,k1,k2⟩:=ho2 i l' hi;exact⟨u,by rw [List.getElem?_append_left (by omega)];exact k1,k2.grown h2 hne⟩
 . rw [List.getElem?_append_right (by omega)] at hi
   have h0:i - ll.length=0:=by
     rcases Nat.eq_zero_or_pos (i - ll.length) with h | h
     . exact h
     . rw [List.getElem?_eq_none (by simp;omega)] at hi;cases hi
   rw [h0] at hi;obtain rfl:l=l':=by simpa using hi
   exact⟨f,by rw [List.getElem?_append_right (by omega),show i - xs.length=0 by omega];rfl,hf.grown h2 hne⟩
theorem qM.form{n:Nat}{w:World}{base:Nat}{v:Value}{ll:List (List Int)}(h:qM w base v ll)(hn:ll.length=n)(h0:0 < n) :
   ∃ g cap cur,v=.slice (some ⟨g,0,none⟩) n cap/\n<=cap/\base<=g/\Blk w g 24 cur/\∀ j,j < n->∃ u,w.cell? ⟨g,j,none⟩=some u:=by
 subst hn;obtain⟨xs,h1,_⟩:=h;rcases h1.2 with ⟨rfl,hz⟩ | ⟨g,cap,cur,rfl,hb,hh,hn,_,hcs,ht⟩
 . omega
 . refine⟨g,cap,cur,rfl,hn,hb,hh,fun j hj=>?_⟩;rw [cell_of_row w g j cur _ _ hh];exact⟨_,Array.getElem?_eq_getElem (by rw [hcs];omega)⟩
theorem qM.qC{w:World}{base g n cap k:Nat}{ll:List (List Int)}{l:List Int}{f:Value}(h:qM w base (.slice (some ⟨g,0,none⟩) n cap) ll)(hn:ll.length=n)(hk:k < n)(hf:RI w f l) :
   qM (w.setCell ⟨g,k,none⟩ f) base (.slice (some ⟨g,0,none⟩) n cap) (ll.set k l):=by
 subst hn;obtain⟨xs,h1,h2⟩:=h;have s1:=World.ownsRow.stored h1 k f;have hne:qg w 3 (some g):=qg.own (v:=.slice (some ⟨g,0,none⟩) ll.length cap) h1 (by decide);have hxl:xs.length=ll.length:=by have:=h1.1;omega
 refine⟨_,by rw [List.length_set];exact s1.1,fun i x hi=>?_⟩;by_cases hik:i=k
 . subst hik;rw [List.getElem?_set_self hk] at hi;obtain rfl:l=x:=by simpa using hi
   exact⟨f,by rw [List.getElem?_set_self (by omega)],hf.grown s1.2 hne⟩
 . rw [List.getElem?_set_ne (fun e=>hik e.symm)] at hi;obtain⟨u,k1,k2⟩:=h2 i x hi;exact⟨u,by rw [List.getElem?_set_ne (fun e=>hik e.symm)];exact k1,k2.grown s1.2 hne⟩
theorem qM.made{w:World}{base n:Nat}{v:Value}(h:w.ownsRow base 24 1 v n (madeCells (Value.slice none 0 0).cells n).toList):qM w base v (List.replicate n []):=by
 refine⟨_,by rw [List.length_replicate];exact h,fun i l hi=>?_⟩
 obtain⟨hin,rfl⟩:i < n/\l=[]:=by
   rw [List.getElem?_replicate] at hi;split at hi
   . exact⟨by assumption,by injection hi with e;exact e.symm⟩
   . cases hi
 have hc:(Value.slice none 0 0).cells=#[.slice none 0 0]:=rfl;rw [hc];exact⟨.slice none 0 0,by simp [madeCells,hin,Nat.mod_one],RI.nil _⟩
def QS(w:World)(base:Nat)(E:TypeId)(v:Value)(xs:List Value):Prop:=
 ∃ A c,v=.slice A xs.length c/\xs.length<=c/\c<=maxLen/\(∀ u∈xs,u.oneCell'=true) /\
   ((A=none/\c=0)∨∃ g o cur,A=some ⟨g,o,none⟩/\base<=g/\Blk w g E cur/\o+c<=cur.size/\∀ j u,xs[j]?=some u->cur[o+j]?=some u)
section
variable {w w':World}{base:Nat}{E:TypeId}{v:Value}{xs:List Value}
theorem QS.nil(w:World)(base:Nat)(E:TypeId):QS w base E (.slice none 0 0) []:=⟨none,0,rfl,by simp,by simp,by simp,.inl ⟨rfl,rfl⟩⟩
theorem QS.ts(h:QS w base E v xs):TS w E 1 v xs.length xs:=by
 obtain⟨A,c,h1,h2,h3,_,h5⟩:=h;rcases h5 with ⟨h4,h5⟩ | ⟨g,o,cur,k1,k2,k3,k4,k5⟩
 . exact⟨by simp,A,c,h1,h2,h3,fun _=>h5,by left;omega⟩
 . subst k1;exact⟨by simp,_,c,h1,h2,h3,by simp,.inr ⟨g,o,cur,rfl,k3,k5⟩⟩
theorem QS.lt(h:QS w base E v xs):∀ g,v.ownBlock=some g->base<=g/\g < w.heap.size:=by
 obtain⟨A,c,rfl,h2,h3,_,h5⟩:=h;intro g' hg';rcases h5 with ⟨rfl,h5⟩ | ⟨g,o,cur,rfl,k2,k3,k4,k5⟩
 . cases hg'
 . cases hg';exact⟨k2,k3.lt⟩
theorem QS.grown{row:Option Nat}(h:QS w base E v xs)(hg:w.grownBy w' row)(hr:qg w E row):QS w' base E v xs:=by
 obtain⟨A,c,h1,h2,h3,h6,h5⟩:=h;refine⟨A,c,h1,h2,h3,h6,?_⟩;rcases h5 with h5 | ⟨g,o,cur,k1,k2,k3,k4,k5⟩
 . exact .inl h5
 . exact .inr ⟨g,o,cur,k1,k2,k3.grown hg (fun e=>hr g e.symm cur k3),k4,k5⟩
theorem QS.new(h:QS w base E v xs)(hg:w.grownBy w' none):QS w' base E v xs:=h.grown hg (qg.none _ _)
theorem QS.apart{row:Option Nat}(h:QS w base E v xs)(hg:w.grownBy w' row)(hr:v.ownBlock=none∨v.ownBlock≠row):QS w' base E v xs:=by
 obtain⟨A,c,h1,h2,h3,h6,h5⟩:=h;refine⟨A,c,h1,h2,h3,h6,?_⟩;rcases h5 with h5 | ⟨g,o,cur,k1,k2,k3,k4,k5⟩
 . exact .inl h5
 . subst h1 k1;refine .inr ⟨g,o,cur,rfl,k2,k3.grown hg (fun e=>?_),k4,k5⟩;rcases hr with hr | hr
   . cases hr
   . exact hr e
theorem QS.tail{A:Option Addr}{n c:Nat}{x:Value}(h:QS w base E (.slice A n c) (x::xs)) :
   ∃ g o,A=some ⟨g,o,none⟩/\n=xs.length+1/\1<=c/\QS w base E (.slice (some ⟨g,o+1,none⟩) (n - 1) (c - 1)) xs/\(c=1->QS w base E (.slice (some ⟨g,o,none⟩) (n - 1) (c - 1)) xs):=by
 obtain⟨A',c',h1,h2,h3,h6,h5⟩:=h;injection h1 with e1 e2 e3;subst e1 e3;rw [List.length_cons] at h2 e2;rcases h5 with ⟨h4,h5⟩ | ⟨g,o,cur,k1,k2,k3,k4,k5⟩
 . omega
 . have e:n - 1=xs.length:=by omega
   rw [e];refine⟨g,o,k1,e2,by omega,⟨_,_,rfl,by omega,by omega,fun u hu=>h6 u (by simp [hu]),?_⟩,fun hc=>⟨_,_,rfl,by omega,by omega,fun u hu=>h6 u (by simp [hu]),?_⟩⟩
   . refine .inr ⟨g,o+1,cur,rfl,k2,k3,by omega,fun j u hu=>?_⟩;have:=k5 (j+1) u (by simpa using hu);rw [show o+1+j=o+(j+1) by omega];exact this
   . refine .inr ⟨g,o,cur,rfl,k2,k3,by omega,fun j u hu=>?_⟩;have:=(List.getElem?_eq_some_iff.1 hu).1;omega
theorem QS.init{A:Option Addr}{n c:Nat}{x:Value}(h:QS w base E (.slice A n c) (xs++[x])):n=xs.length+1/\n<=c/\QS w base E (.slice A xs.length c) xs:=by
 obtain⟨A',c',h1,h2,h3,h6,h5⟩:=h;injection h1 with e1 e2 e3;subst e1 e3;rw [List.length_append,List.length_singleton] at h2 e2;refine⟨e2,by omega,_,_,rfl,by omega,h3,fun u hu=>h6 u (by simp [hu]),?_⟩;rcases h5 with h5 | ⟨g,o,cur,k1,k2,k3,k4,k5⟩
 . exact .inl h5
 . exact .inr ⟨g,o,cur,k1,k2,k3,k4,fun j u hu=>k5 j u ((List.getElem?_append_left (List.getElem?_eq_some_iff.1 hu).1).trans hu)⟩
theorem QS.jC{n:Nat}(h:w.ownsRow base E 1 v n xs)(h1:∀ u∈xs,u.oneCell'=true):QS w base E v xs:=by
 have hn:n=xs.length:=by have:=h.1;omega
 subst hn;rcases h.2 with ⟨rfl,h0⟩ | ⟨g,cap,cur,rfl,hb,hg,hn,hm,hcs,ht⟩
 . have:xs=[]:=List.eq_nil_of_length_eq_zero h0;subst this;exact QS.nil _ _ _
 . refine⟨_,cap,rfl,hn,hm,h1,.inr ⟨g,0,cur,rfl,hb,hg,by omega,fun j u hu=>?_⟩⟩;rw [<-ht,List.getElem?_take] at hu;split at hu
   . simpa using hu
   . cases hu
end
theorem qf.low{w:World}{a b:Nat}{v:Value}{l:List Int}(h:qf w a v l)(hab:b<=a):qf w b v l:=by
 refine⟨h.1,?_⟩;rcases h.2 with h0 | ⟨g,cap,cur,h1,h2,h3⟩
 . exact .inl h0
 . exact .inr ⟨g,cap,cur,h1,Nat.le_trans hab h2,h3⟩
theorem qf.qs{w:World}{base:Nat}{v:Value}{l:List Int}(h:qf w base v l):QS w base 3 v (l.map (.int .i64)):=QS.jC h (fun u hu=>by
 obtain⟨x,_,rfl⟩:=List.mem_map.1 hu;rfl)
theorem QS.ri{w:World}{base:Nat}{v:Value}{l:List Int}(h:QS w base 3 v (l.map (.int .i64))):RI w v l:=by
 have:=h.ts;rw [List.length_map] at this;exact this
end
end Go.Proofs.YtacemdoejblgaaaGreatDoor

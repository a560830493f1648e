/- Part M02. Conditions: each statement's. -/
import Derived.Test.YtacemdoejblgaaaGreatDoorM01
import Derived.Test.YtacemdoejblgaaaGreatDoorProg
import Derived.WalkKit
import Derived.WalkSpells
import Derived.WalkLawsBesides
import Derived.Lib.Hide
import Derived.Deep.QuietTactic
import Derived.BigQuiet
import Derived.Laws.CopyRow
import Derived.Laws.AppendOwn
namespace Go.Proofs.YtacemdoejblgaaaGreatDoor
open List Tryz Value
set_option maxRecDepth 100000
set_option maxHeartbeats 6400000
section
theorem q5r{qa:List Node}{c:qj}(h:qp qa c){m:Nat}{nd:Node}(hx:qa[m]?=some nd)(hr:(m:Int)∈qat qa c.done):qD nd c.rows=qdi qa m:=by
 obtain⟨m',hm,e,hxD,hxf⟩:=(qdw h.pv).1 hr;obtain rfl:m=m':=by omega
 rw[qq0 hx];unfold qD;by_cases hk:nd.kind=0
 . rw[if_pos hk,if_pos hk]
 . rw[if_neg hk,if_neg hk]
   have e:nd.frm.map (λi=>c.rows.getD i.toNat [])=nd.frm.map (λi=>(qb9 qa m).getD i.toNat []):=by
    refine map_congr_left λf hf=>?_;rw[<-qec hx]at hf;have hfD:=hxf f hf;obtain⟨h0,h1,_⟩:=qfk h.pv hf;obtain⟨j,rfl⟩:=Int.eq_ofNat_of_zero_le h0;rw[Int.toNat_natCast];have h2:=h.rows j (by omega);unfold qfi at h2;rw[if_pos hfD]at h2;rw[getD_eq_getElem?_getD,h2];show qdi qa j=_;unfold qdi values;exact qjf qa (by omega) (by omega)
   rw[e]
def qbj(d:List Int):Bool:=decide (d.length<=10)&&d.all (λx=>decide (0<=x)&&decide (x<=9))&&decide d.Nodup
theorem qcm{d:List Int}:qbj d=true↔d.length<=10/\(∀x∈d,0<=x/\x<=9)/\d.Nodup:=by
 unfold qbj;simp only[Bool.and_eq_true,decide_eq_true_eq,List.all_eq_true,and_assoc]
theorem qp.kE{qa:List Node}{c:qj}(h:qp qa c){k:Nat}{d:List Int}(hd:c.qb[k]?=some d):qbj d=true:=by
 have hf:=(qop hd).symm.trans h.dq;have vV:=qap h.pv;have hlen:=hf.length_eq;rw[length_append]at hlen;have hrl:=qht qa c.done;refine qcm.2 ⟨by omega,λx hx=>?_,?_⟩
 . obtain⟨i,hi,rfl,_⟩:=(qdw h.pv).1 (hf.mem_iff.1 (mem_append_left _ hx));omega
 . have:=(hf.nodup_iff).2 (qg9 qa c.done);exact(nodup_append.1 this).1
def qgp(qa:List Node)(cs:List Int)(x:Int)(k:Nat):List Int:=cs.zipIdx.map λy:Int×Nat=>if has qa y.2 x&&decide (y.2<k)then y.1-1 else y.1
def qdd(qa:List Node)(cs:List Int)(x:Int)(k:Nat):List Int:=((range k).filter λi=>has qa i x&&decide (cs.getD i 0=1)).map (λi:Nat=>(i:Int))
theorem q2n(qa:List Node)(cs:List Int)(x:Int):qgp qa cs x 0=cs:=by
 apply ext_getElem?;intro i;unfold qgp;rw[getElem?_map,getElem?_zipIdx];cases cs[i]?<;>simp
theorem q5s{qa:List Node}{cs:List Int}(x:Int){k:Nat}(h:cs.length<=k):qgp qa cs x k=qb2 qa cs x:=by
 apply ext_getElem?;intro i;unfold qgp qb2;rw[getElem?_map,getElem?_map,getElem?_zipIdx];by_cases hi:i<cs.length
 . rw[getElem?_eq_getElem hi];have:i<k:=by omega
   simp[this]
 . rw[getElem?_eq_none (by omega)];rfl
theorem qhk(qa:List Node)(cs:List Int)(x:Int)(k:Nat):(qgp qa cs x k).length=cs.length:=by unfold qgp;rw[length_map,length_zipIdx]
theorem qhl{qa:List Node}{cs:List Int}{x:Int}{i k:Nat}{c:Int}(h:cs[i]?=some c):(qgp qa cs x k)[i]?=some (if has qa i x&&decide (i<k)then c-1 else c):=by
 unfold qgp;rw[getElem?_map,getElem?_zipIdx,h];simp
theorem q2o{qa:List Node}{cs:List Int}{x:Int}{k:Nat}{c:Int}(h:cs[k]?=some c)(hh:has qa k x=true):qgp qa cs x (k+1)=(qgp qa cs x k).set k (c-1):=by
 have hk:=(List.getElem?_eq_some_iff.1 h).1;apply ext_getElem?;intro i;by_cases hi:i<cs.length
 . have hc:cs[i]?=some cs[i]:=getElem?_eq_getElem hi;by_cases hik:i=k
   . subst hik;obtain rfl:c=cs[i]:=by rw[hc]at h;exact(Option.some.inj h).symm
     rw[qhl hc,getElem?_set_self (by rw[qhk];exact hi),hh];simp
   . rw[qhl hc,getElem?_set_ne (λe=>hik e.symm),qhl hc];have:(i<k+1)↔(i<k):=by omega
     simp only[this]
 . rw[getElem?_eq_none (by rw[qhk];omega),getElem?_eq_none (by rw[length_set,qhk];omega)]
theorem q2p{qa:List Node}{cs:List Int}{x:Int}{k:Nat}(hh:has qa k x=false):qgp qa cs x (k+1)=qgp qa cs x k:=by
 apply ext_getElem?;intro i;by_cases hi:i<cs.length
 . have hc:cs[i]?=some cs[i]:=getElem?_eq_getElem hi;rw[qhl hc,qhl hc];by_cases hik:i=k
   . subst hik;simp[hh]
   . have:(i<k+1)↔(i<k):=by omega
     simp only[this]
 . rw[getElem?_eq_none (by rw[qhk];omega),getElem?_eq_none (by rw[qhk];omega)]
theorem qk6(qa:List Node)(cs:List Int)(x:Int)(k:Nat):qdd qa cs x (k+1)=qdd qa cs x k++(if has qa k x&&decide (cs.getD k 0=1)then [(k:Int)]else []):=by
 unfold qdd;rw[range_succ,filter_append,map_append];congr 1;by_cases h:(has qa k x&&decide (cs.getD k 0=1))=true
 . rw[if_pos h,filter_cons,if_pos h];rfl
 . rw[if_neg h,filter_cons,if_neg h];rfl
def qhb(qa:List Node)(k:Nat)(i:Nat):Int:=((qcp qa i).countP (λf:Nat=>decide (f<k)):Nat)
def qhv(qa:List Node)(k t:Nat)(i:Nat):Int:=qhb qa k i+if i∈(qcq qa k).take t then 1 else 0
def kF(f:Nat->Int)(u:Nat)(x:Int):Nat->Int:=λi=>if i=u then x else f i
theorem q5v(qa:List Node):qhb qa 0=λ_=>0:=by
 funext i;unfold qhb;rw[countP_eq_zero.2 (by simp)];rfl
theorem qt9(qa:List Node)(k:Nat):qhv qa k 0=qhb qa k:=by
 funext i;unfold qhv;simp
theorem qua{l:List Nat}(hn:l.Nodup)(k:Nat):l.countP (λf=>decide (f<k+1))=l.countP (λf=>decide (f<k))+if k∈l then 1 else 0:=by
 induction l with
 |nil=>simp
 |cons a r ih=>
  obtain⟨h1,h2⟩:=nodup_cons.1 hn;have ih:=ih h2;rw[countP_cons,countP_cons,ih];by_cases e:a=k
  . subst e;rw[if_neg h1];simp
  . have hm:(k∈a::r)↔k∈r:=⟨λh=>by rcases mem_cons.1 h with h|h;exact absurd h.symm e;exact h,mem_cons_of_mem _⟩;have hd:decide (a<k+1)=decide (a<k):=by rw[decide_eq_decide];omega
    simp only[hm,hd];omega
theorem q5w{qa:List Node}{k t:Nat}(hv:qaf qa=true)(ht:(qcq qa k).length<=t):qhv qa k t=qhb qa (k+1):=by
 funext i;unfold qhv qhb;rw[take_of_length_le ht,qua (qoz qa i)];by_cases h:k∈qcp qa i
 . have hi:i < qa.length:=by
    have:=qfk hv ((qhs hv).1 h);exact this.2.2
   rw[if_pos (qhx.2 ⟨hi,h⟩),if_pos h];omega
 . rw[if_neg (λe=>h (qhx.1 e).2),if_neg h];omega
theorem q2q{qa:List Node}{k t u:Nat}(hu:(qcq qa k)[t]?=some u):qhv qa k (t+1)=kF (qhv qa k t) u (qhv qa k t u+1):=by
 obtain⟨ht,rfl⟩:=List.getElem?_eq_some_iff.1 hu;funext i
 have hno:(qcq qa k)[t]∉(qcq qa k).take t:=by
  intro h;obtain⟨j,hj,e⟩:=mem_take_iff_getElem.1 h;have:=(getElem_inj (qo0 qa k)).1 e;omega
 unfold kF qhv;rw[take_succ_eq_append_getElem ht];by_cases e:i=(qcq qa k)[t]
 . rw[if_pos e,if_pos (by rw[e];exact mem_append_right _ (mem_singleton.2 rfl)),if_neg hno,e];omega
 . rw[if_neg e];have:(i∈(qcq qa k).take t++[(qcq qa k)[t]])↔i∈(qcq qa k).take t:=by rw[mem_append,mem_singleton,or_iff_left e]
   simp only[this]
theorem qz2{qa:List Node}(hv:qaf qa=true)(k t i:Nat):0<=qhv qa k t i/\qhv qa k t i<=3:=by
 have h2:(qcp qa i).length<=2:=by
  rw[qhr];refine Nat.le_trans (quh _) ?_;by_cases hi:i<qa.length
  . rw[qec (getElem?_eq_getElem hi)];exact(qbk hv (getElem?_eq_getElem hi)).2.1
  . rw[qzw (by omega)];simp
 have h3:(qcp qa i).countP (λf:Nat=>decide (f<k))<=(qcp qa i).length:=countP_le_length;unfold qhv qhb;split<;>omega
theorem qub{qa:List Node}(hv:qaf qa=true)(i:Nat):qhb qa qa.length i=((qcp qa i).length:Int):=by
 unfold qhb;rw[countP_eq_length.2];intro f hf;have:=qfk hv ((qhs hv).1 hf);simp only[decide_eq_true_eq];omega
theorem q5x{qa:List Node}(hv:qaf qa=true):(range qa.length).map (qhb qa qa.length)=qbm qa:=by
 unfold qbm;apply map_congr_left;intro i _;exact qub hv i
def qmk(f:Nat->Int)(cs:List Int):Nat->Int:=λi=>cs.getD i (f i)
theorem qou{f:Nat->Int}{cs:List Int}{i:Nat}{c:Int}(h:cs[i]?=some c):qmk f cs i=c:=by
 unfold qmk;rw[getD_eq_getElem?_getD,h];rfl
def qfj(f:Nat->Int)(us:List Nat)(t:Nat):Nat->Int:=λi=>f i-if i∈us.take t then 1 else 0
def jT(f:Nat->Int)(us:List Nat)(t:Nat):List Int:=((us.take t).filter (λu=>decide (f u=1))).map (λu:Nat=>(u:Int))
theorem qz3(f:Nat->Int)(us:List Nat):qfj f us 0=f:=by
 funext i;unfold qfj;simp
theorem qr6{us:List Nat}(hn:us.Nodup){t u:Nat}(hu:us[t]?=some u):u∉us.take t:=by
 obtain⟨ht,rfl⟩:=List.getElem?_eq_some_iff.1 hu;intro h;obtain⟨j,hj,e⟩:=mem_take_iff_getElem.1 h;have:=(getElem_inj hn).1 e;omega
theorem q5y{f:Nat->Int}{us:List Nat}(hn:us.Nodup){t u:Nat}(hu:us[t]?=some u):qfj f us t u=f u:=by
 unfold qfj;rw[if_neg (qr6 hn hu)];omega
theorem qr7{f:Nat->Int}{us:List Nat}(hn:us.Nodup){t u:Nat}(hu:us[t]?=some u):qfj f us (t+1)=kF (qfj f us t) u (f u-1):=by
 have hno:=qr6 hn hu;obtain⟨ht,rfl⟩:=List.getElem?_eq_some_iff.1 hu;funext i;unfold kF qfj;rw[take_succ_eq_append_getElem ht];by_cases e:i=us[t]
 . rw[if_pos e,if_pos (by rw[e];exact mem_append_right _ (mem_singleton.2 rfl)),e]
 . rw[if_neg e];have:(i∈us.take t++[us[t]])↔i∈us.take t:=by rw[mem_append,mem_singleton,or_iff_left e]
   simp only[this]
theorem q2r{f:Nat->Int}{us:List Nat}{t u:Nat}(hu:us[t]?=some u):jT f us (t+1)=jT f us t++(if f u=1 then [(u:Int)]else []):=by
 obtain⟨ht,rfl⟩:=List.getElem?_eq_some_iff.1 hu;unfold jT;rw[take_succ_eq_append_getElem ht,filter_append,map_append];by_cases h:f us[t]=1
 . simp[h]
 . simp[h]
theorem q5z(f:Nat->Int)(us:List Nat)(t:Nat):(jT f us t).length<=t:=by
 unfold jT;rw[length_map];refine Nat.le_trans (length_filter_le _ _) ?_;rw[length_take];exact Nat.min_le_left _ _
theorem qhw{qa:List Node}(hv:qaf qa=true){i x:Nat}:i∈qcq qa x↔i<qa.length/\has qa i (x:Int)=true:=by
 rw[qhx];unfold has;rw[decide_eq_true_eq,qhs hv]
theorem qz4{qa:List Node}(hv:qaf qa=true){cs:List Int}(hl:cs.length=qa.length)(f:Nat->Int)(x t:Nat)(ht:(qcq qa x).length<=t) :
   (range qa.length).map (qfj (qmk f cs) (qcq qa x) t)=qb2 qa cs (x:Int):=by
 apply ext_getElem?;intro i;by_cases hi:i<qa.length
 . have hg:cs[i]?=some cs[i]:=getElem?_eq_getElem (by omega);rw[qnd hg,getElem?_map,getElem?_range hi];show some _=_;congr 1;unfold qfj;rw[take_of_length_le ht,qou hg];by_cases h:has qa i (x:Int)=true
   . rw[if_pos ((qhw hv).2 ⟨hi,h⟩),if_pos h]
   . rw[if_neg (λe=>h ((qhw hv).1 e).2),if_neg h];omega
 . rw[getElem?_eq_none (by simp;omega),getElem?_eq_none (by rw[qin];omega)]
theorem qz5{qa:List Node}(hv:qaf qa=true){cs:List Int}(hl:cs.length=qa.length)(f:Nat->Int)(x t:Nat)(ht:(qcq qa x).length<=t) :
   jT (qmk f cs) (qcq qa x) t=qb4 qa cs (x:Int):=by
 unfold jT qb4 qcq;rw[take_of_length_le (by unfold qcq at ht;exact ht),List.filter_filter];congr 1;apply filter_congr;intro i hi;have hi:=mem_range.1 hi;have hg:cs[i]?=some cs[i]:=getElem?_eq_getElem (by omega);have e1:qmk f cs i=cs.getD i 0:=by rw[qou hg,getD_eq_getElem?_getD,hg];rfl
 have e2:decide (x∈qcp qa i)=has qa i (x:Int):=by
  unfold has;rw[decide_eq_decide];exact qhs hv
 rw[e1,e2,Bool.and_comm]
theorem qwv{qa:List Node}(hv:qaf qa=true){cs:List Int}{x t u:Nat}(hu:(qcq qa x)[t]?=some u)(hz:cs.getD u 0=0):qfl qa cs (x:Int)=false:=by
 have hm:=(qhw hv).1 (mem_of_getElem? hu);unfold qfl;rw[List.all_eq_false];refine⟨u,mem_range.2 hm.1,?_⟩;rw[hm.2,hz];simp
theorem quc{qa:List Node}{cs:List Int}{x:Int}{i:Nat}{c:Int}(hi:i<qa.length)(hc:cs[i]?=some c)(h:¬(0<=c/\c<=((qcp qa i).length:Int))):qfl qa cs x=false:=by
 unfold qfl;rw[List.all_eq_false];refine⟨i,mem_range.2 hi,?_⟩;rw[getD_eq_getElem?_getD,hc];simp only[Option.getD_some,Bool.and_eq_true,decide_eq_true_eq];exact λe=>h e.1
theorem qyj{qa:List Node}(hv:qaf qa=true){cs:List Int}(hl:cs.length=qa.length){x:Nat}(h1:∀i c,cs[i]?=some c->0<=c/\c<=((qcp qa i).length:Int))(h2:∀u∈qcq qa x,cs.getD u 0≠0):qfl qa cs (x:Int)=true:=by
 unfold qfl;rw[List.all_eq_true];intro i hi;have hi:=mem_range.1 hi;have hg:cs[i]?=some cs[i]:=getElem?_eq_getElem (by omega);have hd:cs.getD i 0=cs[i]:=by rw[getD_eq_getElem?_getD,hg];rfl
 have h3:=h1 i _ hg;rw[hd,decide_eq_true h3.1,decide_eq_true h3.2];by_cases h:has qa i (x:Int)=true
 . have:=h2 i ((qhw hv).2 ⟨hi,h⟩);rw[hd]at this;simp[this]
 . simp[h]
end
section
open Go.RowKit
theorem block_add(a:Addr)(n:Nat):(a.add n).block=a.block:=by unfold Addr.add;split<;>rfl
section
variable {a b c w w':World}{row:Option Nat}
theorem qah(w:World)(row:Option Nat):w.grownBy w row:=⟨rfl,rfl,rfl,Nat.le_refl _,λ_ _ _=>rfl⟩
theorem qad(h:a.grownBy b row)(k:b.grownBy c row):a.grownBy c row:=
 ⟨k.os.trans h.os,k.tape.trans h.tape,k.output.trans h.output,Nat.le_trans h.size k.size,λi hi hr=>(k.block i (Nat.lt_of_lt_of_le hi h.size) hr).trans (h.block i hi hr)⟩
theorem qbd{row':Option Nat}(h:a.grownBy b row)(k:b.grownBy c row')(hg:∀g,row'=some g->a.heap.size<=g∨row=some g):a.grownBy c row:=
 ⟨k.os.trans h.os,k.tape.trans h.tape,k.output.trans h.output,Nat.le_trans h.size k.size,λi hi hr=>(k.block i (Nat.lt_of_lt_of_le hi h.size) (λe=>by
  rcases hg i e.symm with h1|h1
  . omega
  . exact hr h1.symm)).trans (h.block i hi hr)⟩
theorem qqy(h:a.grownBy b row)(k:b.grownBy c none):a.grownBy c row:=qbd h k (λ_ e=>by cases e)
theorem qye(h:a.grownBy b none)(row:Option Nat):a.grownBy b row:=⟨h.os,h.tape,h.output,h.size,λi hi _=>h.block i hi (by simp)⟩
theorem qay(h:a.grownBy w row):a.grownBy w.drew row:=⟨h.os,h.tape,h.output,h.size,h.block⟩
theorem qcn(h:a.grownBy w row)(n:Nat):a.grownBy (w.drewN n) row:=⟨h.os,h.tape,h.output,h.size,h.block⟩
theorem qar(h:a.grownBy w row)(o:Obj):a.grownBy (w.alloc o) row:=
 qbd h (World.grownBy_alloc w o none) (λ_ e=>by cases e)
theorem qbf(h:a.grownBy w row){p:Addr}(hp:a.heap.size<=p.block∨row=some p.block)(u:Value):a.grownBy (w.setCell p u) row:=
 qbd (row':=some p.block) h ⟨rfl,rfl,rfl,by simp[World.setCell],λi _ hne=>Below.heap_setCell w p u i (λe=>hne (by rw[e]))⟩ (λg e=>by cases e;exact hp)
theorem qjS(h:a.grownBy w none):Below a.heap.size a w:=⟨h.os,h.tape,h.output,h.size,λi hi=>h.block i hi (by simp)⟩
theorem q2i(h:Below a.heap.size a w)(row:Option Nat):a.grownBy w row:=⟨h.os,h.tape,h.output,h.size,λi hi _=>h.block i hi⟩
theorem q5n{base:Nat}(h:a.grownBy w row)(hr:∀g,row=some g->base<=g)(hb:base<=a.heap.size:=by omega):Below base a w:=⟨h.os,h.tape,h.output,h.size,λi hi=>h.block i (by omega) (λe=>by have:=hr i e.symm;omega)⟩
theorem qnv(h:a.grownBy w row){p:Addr}(hp:p.block<a.heap.size)(hne:row≠some p.block):w.cell? p=a.cell? p:=World.cell?_of_block (h.block p.block hp (λe=>hne e.symm))
end
theorem q7w(w:World)(g:Nat)(u v x:Value):w.grownBy (((w.setCell ⟨g,0,none⟩ u).setCell ⟨g,1,none⟩ v).setCell ⟨g,2,none⟩ x) (some g):=
 qbf (qbf (qbf (qah w (some g)) (.inr rfl) u) (.inr rfl) v) (.inr rfl) x
def Blk(w:World)(g:Nat)(t:TypeId)(cs:Array Value):Prop:=w.heap[g]?=some (.cells cs t (0,0))
section
variable {w w':World}{g:Nat}{t:TypeId}{cs:Array Value}
theorem Blk.lt(h:Blk w g t cs):g<w.heap.size:=(Array.getElem?_eq_some_iff.1 h).1
theorem Blk.cell(h:Blk w g t cs)(i:Nat):w.cell? ⟨g,i,none⟩=cs[i]?:=cell_of_row w g i cs t (0,0) h
theorem Blk.frozen(h:Blk w g t cs)(i:Nat):w.frozen? ⟨g,i,none⟩=false:=frozen_of_row w g i cs t h
theorem Blk.new(w:World)(t:TypeId)(cs:Array Value):Blk (w.alloc (.cells cs t)) w.heap.size t cs:=heap_alloc_new w _
theorem Blk.drew(h:Blk w g t cs):Blk w.drew g t cs:=h
theorem Blk.alloc(h:Blk w g t cs)(o:Obj):Blk (w.alloc o) g t cs:=(Below.heap_alloc w o g h.lt).trans h
theorem Blk.jr(h:Blk w g t cs)(i:Nat)(u:Value):Blk (w.setCell ⟨g,i,none⟩ u) g t (cs.setIfInBounds i u):=heap_setCell_same w g i cs t u h
theorem Blk.far(h:Blk w g t cs){p:Addr}(hp:g≠p.block)(u:Value):Blk (w.setCell p u) g t cs:=(Below.heap_setCell w p u g hp).trans h
theorem Blk.grown{row:Option Nat}(h:Blk w g t cs)(hb:w.grownBy w' row)(hg:some g≠row):Blk w' g t cs:=(hb.block g h.lt hg).trans h
theorem Blk.ne_{g':Nat}{t':TypeId}{cs':Array Value}(h:Blk w g t cs)(k:Blk w g' t' cs')(ht:t≠t'):g≠g':=by
 rintro rfl;unfold Blk at h k;rw[h]at k;injection k with k;injection k with _ k;exact ht k
end
def qh(w:World)(E:TypeId)(row:Option Nat):Prop:=∀g,row=some g->∀cur,¬Blk w g E cur
theorem qh.none(w:World)(E:TypeId):qh w E none:=λ_ e=>by cases e
theorem qh.blk{w:World}{E E':TypeId}{g:Nat}{cs:Array Value}(h:Blk w g E' cs)(hne:E≠E'):qh w E (some g):=λg' e cur hc=>by
 cases e;exact hc.ne_ h hne rfl
theorem qh.own{w:World}{E E':TypeId}{base size n:Nat}{v:Value}{xs:List Value}(h:w.ownsRow base E' size v n xs)(hne:E≠E'):qh w E v.ownBlock:=by
 rcases h.2 with ⟨rfl,_⟩|⟨g,cap,cur,rfl,_,hg,_⟩
 . exact qh.none w E
 . exact qh.blk (cs:=cur) hg hne
def TS(w:World)(E:TypeId)(size:Nat)(v:Value)(n:Nat)(xs:List Value):Prop:=
 xs.length=n*size/\∃A c,v=.slice A n c/\n<=c/\c<=maxLen/\(A=none->c=0) /\
  (n=0∨∃g o cur,A=some ⟨g,o,none⟩/\Blk w g E cur/\∀j u,xs[j]?=some u->cur[o+j]?=some u)
section
variable {w w':World}{E:TypeId}{size n:Nat}{v:Value}{xs:List Value}
theorem TS.form(h:TS w E size v n xs):∃A c,v=.slice A n c/\n<=c/\c<=maxLen/\(A=none->c=0):=
 let ⟨_,A,c,h1,h2,h3,h4,_⟩:=h;⟨A,c,h1,h2,h3,h4⟩
theorem TS.le(h:TS w E size v n xs):n<=9223372036854775807:=by
 obtain⟨A,c,_,h2,h3,_⟩:=h.form;unfold maxLen at h3;omega
theorem TS.nil(w:World)(E:TypeId)(size:Nat):TS w E size (.slice none 0 0) 0 []:=⟨by simp,none,0,rfl,by simp,by simp,by simp,.inl rfl⟩
theorem TS.at_{A:Option Addr}{c:Nat}(h:TS w E size (.slice A n c) n xs)(hn:0<n) :
   ∃g o cur,A=some ⟨g,o,none⟩/\Blk w g E cur/\∀j u,xs[j]?=some u->w.cell? ⟨g,o+j,none⟩=some u:=by
 obtain⟨_,A',c',h1,_,_,_,h5⟩:=h;injection h1 with h1 _ _;subst h1;rcases h5 with h5|⟨g,o,cur,rfl,hb,hc⟩
 . omega
 . exact⟨g,o,cur,rfl,hb,λj u hu=>(hb.cell _).trans (hc j u hu)⟩
theorem TS.grown{row:Option Nat}(h:TS w E size v n xs)(hg:w.grownBy w' row)(hr:qh w E row):TS w' E size v n xs:=by
 obtain⟨h0,A,c,h1,h2,h3,h4,h5⟩:=h;refine⟨h0,A,c,h1,h2,h3,h4,?_⟩;rcases h5 with h5|⟨g,o,cur,hA,hb,hc⟩
 . exact .inl h5
 . exact .inr ⟨g,o,cur,hA,hb.grown hg (λe=>hr g e.symm cur hb),hc⟩
theorem TS.new(h:TS w E size v n xs)(hg:w.grownBy w' none):TS w' E size v n xs:=h.grown hg (qh.none _ _)
theorem TS.zV{base:Nat}(h:w.ownsRow base E size v n xs):TS w E size v n xs:=by
 refine⟨h.1,?_⟩;rcases h.2 with ⟨rfl,rfl⟩|⟨g,cap,cur,rfl,_,hg,hn,hcm,_,ht⟩
 . exact⟨none,0,rfl,by simp,by simp,by simp,.inl rfl⟩
 . refine⟨some ⟨g,0,none⟩,cap,rfl,hn,hcm,by simp,.inr ⟨g,0,cur,rfl,hg,λj u hu=>?_⟩⟩;rw[<-ht,getElem?_take]at hu;split at hu
   . simpa using hu
   . cases hu
end
def RI(w:World)(v:Value)(l:List Int):Prop:=TS w 3 1 v l.length (l.map (.int .i64))
section
variable {w w':World}{v:Value}{l:List Int}
theorem RI.at_{A:Option Addr}{n c k:Nat}(h:RI w (.slice A n c) l)(hk:k<n):∃g o x,A=some ⟨g,o,none⟩/\l[k]?=some x/\w.cell? ⟨g,o+k,none⟩=some (.int .i64 x):=by
 have hn:n=l.length:=by
  obtain⟨A',c',h1,_⟩:=h.form;injection h1
 subst hn;obtain⟨g,o,cur,rfl,_,hc⟩:=TS.at_ h (by omega);refine⟨g,o,l[k],rfl,getElem?_eq_getElem hk,hc k _ ?_⟩;simp[hk]
theorem RI.len{A:Option Addr}{n c:Nat}(h:RI w (.slice A n c) l):n=l.length:=by
 obtain⟨A',c',h1,_⟩:=h.form;injection h1
theorem RI.val(h:RI w v l):∃A n c,v=.slice A n c:=by
 obtain⟨A,c,h1,h2,_⟩:=h.form;exact⟨A,_,c,h1⟩
theorem RI.form'(h:RI w v l):∃A n c,v=.slice A n c/\n<=c/\n=l.length:=by
 obtain⟨A,c,h1,h2,_⟩:=h.form;exact⟨A,_,c,h1,h2,rfl⟩
end
theorem q2j{P:Program}{ops:Array Oper}{rest:List Oper}{o:Oper}{a:Act}{Q:Exit->Act->World->Prop}{w:World}{cs:Array Value}{E:TypeId}
   (s x:Operand) (t:TypeId) (z:Value) (size bytes:Nat) (ht:P.underlying t=some (.slice E)) (qbA:(P.info? E).map (λi=>(i.zero,i.size,i.bytes))=some (some z,size,bytes))
   (hzs:z.cells.size=size) (hsz:0<size) (hby:bytes<=128) (hgd:o.guard=none)
   (ho:o.op=.call {callee:=.builtin .append,args:=#[s,x],argTypes:=#[t,t]})
   {base:Nat} {v:Value} {n:Nat} {xs:List Value} (hown:w.ownsRow base E size v n xs) (hn:n<=1000000000) (hbase:base<=w.heap.size)
   (hcs:cs.size=size) (h1:∀u∈cs.toList,u.oneCell'=true) (hs:a.eval s=v) (hx:a.eval x=.slice (some ⟨w.heap.size,0,none⟩) 1 1)
   (h:∀v' w',w'.ownsRow base E size v' (n+1) (xs++cs.toList)->w.grownBy w' v.ownBlock->v'≠.slice none 0 0->wpList P ops Q rest (a.put o.dst v') w') :
   wpList P ops Q (o::rest) a (w.alloc (.cells cs E)):=by
 obtain⟨i,hi,hz0,hz1,hz2⟩:=info_parts qbA;refine wpList_append_own _ hgd s x t ho base E i z size bytes ht hi hz0 hz1 hz2 hzs hsz v n xs hs (hown.alloc _) ⟨w.heap.size,0,none⟩ 1 1 cs.toList hx (by simpa using hcs) ?_ h1 ?_ ?_ ?_ ?_
 . intro j u hj;have hadd:(⟨w.heap.size,0,none⟩:Addr).add j=⟨w.heap.size,j,none⟩:=by unfold Addr.add;split<;>simp_all
   rw[hadd,World.cell?_alloc_new];simpa using hj
 . unfold maxLen;omega
 . calc (n+1) * bytes<=(n+1) * 128:=Nat.mul_le_mul_left _ hby
    _<=140737488355328:=by omega
 . simp;omega
 . intro v' w' ho' hg hnil;refine h v' w' ho' ?_ ?_
   . exact⟨hg.os,hg.tape,hg.output,Nat.le_trans (by simp) hg.size,λk hk hne=>(hg.block k (by simp;omega) hne).trans (Below.heap_alloc w _ k hk)⟩
   . intro e;have:=(hnil.1 e).2;omega
theorem qc4{w w':World}{base:Nat}{E:TypeId}{size n:Nat}{v:Value}{xs:List Value}{row:Option Nat}(h:w.ownsRow base E size v n xs)(hg:w.grownBy w' row)(hr:qh w E row):w'.ownsRow base E size v n xs:=by
 refine h.kept hg ?_;rcases h.2 with ⟨rfl,_⟩|⟨g,cap,cur,rfl,_,hh,_⟩
 . exact .inl rfl
 . right;intro e;exact hr g (e.symm.trans rfl) cur hh
theorem qt5{w:World}{base:Nat}{E:TypeId}{size:Nat}(hb:base<=w.heap.size):(w.alloc (.cells #[] E)).ownsRow base E size (.slice (some ⟨w.heap.size,0,none⟩) 0 0) 0 []:=
 World.ownsRow_made w #[] 0 hb (by unfold maxLen;omega) (by simp)
theorem qok:(Tryz.prog.info? 3).map (λi=>(i.zero,i.size,i.bytes))=some (some (.int .i64 0),1,8):=by kernel_rfl
def qg(w:World)(base:Nat)(v:Value)(l:List Int):Prop:=w.ownsRow base 3 1 v l.length (l.map (.int .i64))
section
variable {w w':World}{base:Nat}{v:Value}{l:List Int}
theorem qg.grown{row:Option Nat}(h:qg w base v l)(hg:w.grownBy w' row)(hr:qh w 3 row):qg w' base v l:=qc4 h hg hr
theorem qg.new(h:qg w base v l)(hg:w.grownBy w' none):qg w' base v l:=qc4 h hg (qh.none _ _)
theorem qg.alloc(h:qg w base v l)(o:Obj):qg (w.alloc o) base v l:=h.new (World.grownBy_alloc w o none)
theorem qg.ri(h:qg w base v l):RI w v l:=TS.zV h
theorem qg.jL{E:TypeId}(h:qg w base v l)(hE:E≠3):qh w E v.ownBlock:=qh.own h hE
theorem qg.lt(h:qg w base v l):∀g,v.ownBlock=some g->base<=g/\g<w.heap.size:=World.ownsRow.lt h
theorem qg.empty(w:World){base:Nat}(hb:base<=w.heap.size):qg (w.alloc (.cells #[] 3)) base (.slice (some ⟨w.heap.size,0,none⟩) 0 0) []:=qt5 hb
theorem qg.nil(w:World)(base:Nat):qg w base (.slice none 0 0) []:=World.ownsRow_nil _ _ _ _
theorem qg.form(h:qg w base v l)(hl:0<l.length):∃g cap cur,v=.slice (some ⟨g,0,none⟩) l.length cap/\l.length<=cap/\base<=g/\Blk w g 3 cur/\∀j x,l[j]?=some x->w.cell? ⟨g,j,none⟩=some (.int .i64 x):=by
 rcases h.2 with ⟨rfl,h0⟩|⟨g,cap,cur,rfl,hb,hh,hn,_,_,ht⟩
 . omega
 . refine⟨g,cap,cur,rfl,hn,hb,hh,λj x hx=>?_⟩;have hc:=World.ownsRow.cellAt (g:=g) (cap:=cap) h j (by have:=(List.getElem?_eq_some_iff.1 hx).1;omega);rw[hc];simp[hx]
theorem qg.jr{g n cap:Nat}(h:qg w base (.slice (some ⟨g,0,none⟩) n cap) l)(hn:n=l.length)(j:Nat)(x:Int):qg (w.setCell ⟨g,j,none⟩ (.int .i64 x)) base (.slice (some ⟨g,0,none⟩) n cap) (l.set j x):=by
 subst hn;have k:=(World.ownsRow.stored h j (.int .i64 x)).1;unfold qg;rw[length_set,map_set];exact k
theorem qg.gb{a:World}{row:Option Nat}(h:qg w base v l)(hg:a.grownBy w row)(k:w.grownBy w' v.ownBlock)(hb:a.heap.size<=base):a.grownBy w' row:=
 qbd hg k (λg e=>.inl (Nat.le_trans hb (h.lt g e).1))
end
theorem qc3{ops:Array Oper}{rest:List Oper}{o:Oper}{a:Act}{Q:Exit->Act->World->Prop}{w:World}{u:Int}
   (s x:Operand) (hgd:o.guard=none) (ho:o.op=.call {callee:=.builtin .append,args:=#[s,x],argTypes:=#[24,24]})
   {base:Nat} {v:Value} {l:List Int} (hown:qg w base v l) (hn:l.length<=1000000000) (hbase:base<=w.heap.size)
   (hs:a.eval s=v) (hx:a.eval x=.slice (some ⟨w.heap.size,0,none⟩) 1 1)
   (h:∀v' w',qg w' base v' (l++[u])->w.grownBy w' v.ownBlock->wpList prog ops Q rest (a.put o.dst v') w') :
   wpList prog ops Q (o::rest) a (w.alloc (.cells #[.int .i64 u] 3)):=
 q2j s x 24 (.int .i64 0) 1 8 underlying24 qok rfl (by decide) (by decide) hgd ho hown hn hbase rfl (by simp[oneCell']) hs hx
  λv' w' h1 h2 _=>h v' w' (by unfold qg;simpa using h1) h2
theorem qol{ops:Array Oper}{o:Oper}{a:Act}{K:Act->World->Prop}{Q:Exit->Act->World->Prop}{E:Prop}{w:World}{u:Int}
   (s x:Operand) (hgd:o.guard=none) (ho:o.op=.call {callee:=.builtin .append,args:=#[s,x],argTypes:=#[24,24]})
   {base:Nat} {v:Value} {l:List Int} (hown:qg w base v l) (hn:l.length<=1000000000) (hbase:base<=w.heap.size)
   (hs:a.eval s=v) (hx:a.eval x=.slice (some ⟨w.heap.size,0,none⟩) 1 1)
   (h:∀v' w',qg w' base v' (l++[u])->w.grownBy w' v.ownBlock->K (a.put o.dst v') w') :
   if Region.wanted o (yielded ops a.tmps)=true then Oper.wp prog o a (w.alloc (.cells #[.int .i64 u] 3)) K Q else E:=by
 have hw:Region.wanted o (yielded ops a.tmps)=true:=by simp[Region.wanted,hgd]
 rw[if_pos hw];obtain⟨i,hi,hz0,hz1,hz2⟩:=info_parts qok;refine wp_append_own _ s x 24 ho base 3 i _ 1 8 underlying24 hi hz0 hz1 hz2 rfl (by decide) v l.length _ hs (World.ownsRow.alloc hown _) ⟨w.heap.size,0,none⟩ 1 1 [.int .i64 u] hx rfl ?_ ?_ ?_ ?_ ?_ ?_
 . intro j u' hj
   match j,hj with
   |0,hj=>simp at hj;subst hj;simp[Addr.add]
 . intro u' hu;simp at hu;subst hu;rfl
 . unfold maxLen;omega
 . omega
 . simp;omega
 . intro v' w' ho' hg _;exact h v' w' (by unfold qg;simpa using ho') ⟨hg.os,hg.tape,hg.output,Nat.le_trans (by simp) hg.size,λk hk hne=>(hg.block k (by simp;omega) hne).trans (Below.heap_alloc w _ k hk)⟩
theorem RI.empty{w:World}{v:Value}(h:RI w v [])(w':World):RI w' v []:=by
 obtain⟨h0,A,c,h1,h2,h3,h4,_⟩:=h;exact⟨h0,A,c,h1,h2,h3,h4,.inl rfl⟩
theorem qdh{P:Program}{f:FuncId}{args:Array Value}{w:World}{n:Nat}{v:Value}
   (h:Calls P f args (w.drewN n) λe w'=>e=.returned v/\w.drewN n=w'):Calls P f args (w.drewN n) λe w''=>e=.returned v/\∃m,w''=w.drewN m:=
 h.mono λ_ _ ⟨he,hm⟩=>⟨he,n,hm.symm⟩
theorem qg7{α:Type}(p:α->Bool){l:List α}{k:Nat}{x:α}(h:l[k]?=some x):(l.take (k+1)).all p=((l.take k).all p&&p x):=by
 obtain⟨hk,rfl⟩:=List.getElem?_eq_some_iff.1 h;rw[take_succ_eq_append_getElem hk,all_append];simp
theorem qj3{P:Program}{w:World}{base:Nat}{t ty E:TypeId}{z:Value}{size bytes:Nat}(ht:P.underlying t=some (.slice E))(qbA:(P.info? E).map (λi=>(i.zero,i.size,i.bytes))=some (some z,size,bytes))
   (hzs:z.cells.size=size) (hsz:0<size) {v:Value} {n:Nat} {xs:List Value} (hown:w.ownsRow base E size v n xs) {ad:Addr} {c:Nat} {news:List Value} (hl:news.length=1*size)
   (hnews:∀j u,news[j]?=some u->w.cell? (ad.add j)=some u) (h1:∀u∈news,u.oneCell'=true) (h63:n+1<=maxLen) (hbytes:(n+1)*bytes<=140737488355328) (hbase:base<=w.heap.size) :
   ∃v' w',(Builtin.append_ #[t,t] ty #[v,.slice (some ad) 1 c]).run P w=.ok v' w'/\w'.ownsRow base E size v' (n+1) (xs++news)/\w.grownBy w' v.ownBlock/\(v'.ownBlock=v.ownBlock∨v'.ownBlock=some w.heap.size):=by
 obtain⟨i,hi,hz0,hz1,hz2⟩:=info_parts qbA;obtain⟨v',w',hr,h2,h3,_⟩:=run_append_own (P:=P) w base t ty E i z size bytes ht hi hz0 hz1 hz2 hzs hsz v n xs hown ad 1 c news hl hnews h1 h63 hbytes hbase;refine⟨v',w',hr,h2,h3,?_⟩;have h63':n+1<=9223372036854775807:=by unfold maxLen at h63;omega
 rcases hown.2 with ⟨rfl,rfl⟩|⟨g,cap,cur,rfl,hb,hg,hn,hcm,hcs,htk⟩
 . right;have hr2:=run_append_nil (P:=P) w t ty E i z ht hi hz0 ad 1 c news (by rw[hz1];exact hl) hnews (by omega) (by omega) (by rw[hz2];omega);rw[hr]at hr2;injection hr2 with hv _;rw[hv];rfl
 . by_cases hroom:n+1<=cap
   . left;obtain⟨w2,hr2,_⟩:=run_append_fits (P:=P) w base t ty E i size ht hi hz1 g n cap xs hown ad 1 c news hl hnews h1 hroom;rw[hr]at hr2;injection hr2 with hv _;rw[hv];rfl
   . right
     have hr2:=run_append_grow (P:=P) w t ty E i z ht hi hz0 ⟨g,0,none⟩ n cap xs (by rw[hz1];exact hown.1) (hown.cells (g:=g) rfl) ad 1 c news (by rw[hz1];exact hl) hnews (by omega) (by omega)
      (growslice_fits (by omega) (by rw[hz2];exact hbytes))
     rw[hr]at hr2;injection hr2 with hv _;rw[hv];rfl
theorem qg8{P:Program}{ops:Array Oper}{rest:List Oper}{o:Oper}{a:Act}{Q:Exit->Act->World->Prop}{w:World}{cs:Array Value}{E:TypeId}
   (s x:Operand) (t:TypeId) (z:Value) (size bytes:Nat) (ht:P.underlying t=some (.slice E)) (qbA:(P.info? E).map (λi=>(i.zero,i.size,i.bytes))=some (some z,size,bytes))
   (hzs:z.cells.size=size) (hsz:0<size) (hby:bytes<=128) (hgd:o.guard=none)
   (ho:o.op=.call {callee:=.builtin .append,args:=#[s,x],argTypes:=#[t,t]})
   {base:Nat} {v:Value} {n:Nat} {xs:List Value} (hown:w.ownsRow base E size v n xs) (hn:n<=1000000000) (hbase:base<=w.heap.size)
   (hcs:cs.size=size) (h1:∀u∈cs.toList,u.oneCell'=true) (hs:a.eval s=v) (hx:a.eval x=.slice (some ⟨w.heap.size,0,none⟩) 1 1)
   (h:∀v' w',w'.ownsRow base E size v' (n+1) (xs++cs.toList)->w.grownBy w' v.ownBlock->(v'.ownBlock=v.ownBlock∨v'.ownBlock=some (w.heap.size+1))->wpList P ops Q rest (a.put o.dst v') w') :
   wpList P ops Q (o::rest) a (w.alloc (.cells cs E)):=by
 have hnews:∀j u,cs.toList[j]?=some u->(w.alloc (.cells cs E)).cell? ((⟨w.heap.size,0,none⟩:Addr).add j)=some u:=by
  intro j u hj;have hadd:(⟨w.heap.size,0,none⟩:Addr).add j=⟨w.heap.size,j,none⟩:=by unfold Addr.add;split<;>simp_all
  rw[hadd,World.cell?_alloc_new];simpa using hj
 obtain⟨v',w',hr,h2,h3,h4⟩:=qj3 (P:=P) (t:=t) (ty:=o.type) (c:=1) ht qbA hzs hsz (hown.alloc (.cells cs E)) (news:=cs.toList) (by simpa using hcs) hnews h1 (by unfold maxLen;omega)
  (by calc (n + 1) * bytes <= (n + 1) * 128 := Nat.mul_le_mul_left _ hby
        _<=140737488355328:=by omega) (by simp;omega)
 refine wpList_plain hgd λK hK=>?_;unfold Oper.wp execOp;simp only[ho,resolve,invoke,builtin,Sem.run_bind,Sem.run_pure,Result.andThen_ok,map_toArray,map_cons,map_nil,hs,hx,hr];refine hK _ _ (h v' w' h2 ?_ (by simpa using h4));exact⟨h3.os,h3.tape,h3.output,Nat.le_trans (by simp) h3.size,λk hk hne=>(h3.block k (by simp;omega) hne).trans (Below.heap_alloc w _ k hk)⟩
theorem qqz{α:Type}{l:List α}{k:Nat}{x:α}(h:l[k]?=some x):l.zipIdx[k]?=some (x,k):=by simp[h]
def NV(w:World)(v:Value)(nd:Node):Prop:=∃f r,v=.agg #[.int .i64 nd.kind,f,r]/\RI w f nd.frm/\RI w r nd.row
def NC(w:World)(xs:List Value)(i:Nat)(nd:Node):Prop:=
 ∃f r,xs[i*3]?=some (.int .i64 nd.kind)/\xs[i*3+1]?=some f/\xs[i*3+2]?=some r/\RI w f nd.frm/\RI w r nd.row
def RN(w:World)(v:Value)(qa:List Node):Prop:=∃xs,TS w 81 3 v qa.length xs/\∀i nd,qa[i]?=some nd->NC w xs i nd
theorem RI.nil(w:World):RI w (.slice none 0 0) []:=TS.nil _ _ _
theorem RI.lit(w:World)(l:List Int)(hl:l.length<=maxLen:=by simp[maxLen]):RI (w.alloc (.cells (l.map (.int .i64)).toArray 3)) (.slice (some ⟨w.heap.size,0,none⟩) l.length l.length) l:=
 ⟨by simp,_,_,rfl,Nat.le_refl _,hl,by simp,.inr ⟨w.heap.size,0,_,rfl,Blk.new w _ _,λj u hu=>by simpa using hu⟩⟩
def vh(w:World)(base:Nat)(v:Value)(qa:List Node):Prop:=∃xs,w.ownsRow base 81 3 v qa.length xs/\∀i nd,qa[i]?=some nd->NC w xs i nd
section
variable {w w':World}{v:Value}{nd:Node}{qa:List Node}{base:Nat}{xs:List Value}{row:Option Nat}
theorem RI.grown{l:List Int}(h:RI w v l)(hg:w.grownBy w' row)(hr:qh w 3 row):RI w' v l:=TS.grown h hg hr
theorem RI.vk{l:List Int}(h:RI w v l):v.oneCell'=true:=by
 obtain⟨A,n,c,rfl,_⟩:=h.form';rfl
theorem RI.new{l:List Int}(h:RI w v l)(hg:w.grownBy w' none):RI w' v l:=TS.new h hg
theorem RI.alloc{l:List Int}(h:RI w v l)(o:Obj):RI (w.alloc o) v l:=h.new (World.grownBy_alloc w o none)
theorem NC.grown{i:Nat}(h:NC w xs i nd)(hg:w.grownBy w' row)(hr:qh w 3 row):NC w' xs i nd:=
 let ⟨f,r,h1,h2,h3,h4,h5⟩:=h;⟨f,r,h1,h2,h3,h4.grown hg hr,h5.grown hg hr⟩
theorem RN.grown(h:RN w v qa)(hg:w.grownBy w' row)(hr:qh w 3 row)(hr':qh w 81 row):RN w' v qa:=
 let ⟨xs,h1,h2⟩:=h;⟨xs,h1.grown hg hr',λi nd hi=>(h2 i nd hi).grown hg hr⟩
theorem RN.new(h:RN w v qa)(hg:w.grownBy w' none):RN w' v qa:=h.grown hg (qh.none _ _) (qh.none _ _)
theorem RN.alloc(h:RN w v qa)(o:Obj):RN (w.alloc o) v qa:=h.new (World.grownBy_alloc w o none)
theorem vh.grown(h:vh w base v qa)(hg:w.grownBy w' row)(hr:qh w 3 row)(hr':qh w 81 row):vh w' base v qa:=
 let ⟨xs,h1,h2⟩:=h;⟨xs,qc4 h1 hg hr',λi nd hi=>(h2 i nd hi).grown hg hr⟩
theorem vh.rn(h:vh w base v qa):RN w v qa:=let ⟨xs,h1,h2⟩:=h;⟨xs,TS.zV h1,h2⟩
theorem vh.lt(h:vh w base v qa):∀g,v.ownBlock=some g->base<=g/\g<w.heap.size:=let ⟨_,h1,_⟩:=h;World.ownsRow.lt h1
theorem vh.jL{E:TypeId}(h:vh w base v qa)(hE:E≠81):qh w E v.ownBlock:=let ⟨_,h1,_⟩:=h;qh.own h1 hE
theorem vh.gb{a:World}(h:vh w base v qa)(hg:a.grownBy w row)(k:w.grownBy w' v.ownBlock)(hb:a.heap.size<=base):a.grownBy w' row:=
 qbd hg k (λg e=>.inl (Nat.le_trans hb (h.lt g e).1))
theorem vh.empty(w:World){base:Nat}(hb:base<=w.heap.size):vh (w.alloc (.cells #[] 81)) base (.slice (some ⟨w.heap.size,0,none⟩) 0 0) []:=⟨[],qt5 hb,λi nd h=>by simp at h⟩
theorem RN.len{A:Option Addr}{n c:Nat}(h:RN w (.slice A n c) qa):n=qa.length:=by
 obtain⟨xs,h,_⟩:=h;obtain⟨A',c',h1,_⟩:=h.form;injection h1
theorem RN.form'(h:RN w v qa):∃A n c,v=.slice A n c/\n<=c/\n=qa.length/\n<=9223372036854775807:=by
 obtain⟨xs,h,_⟩:=h;have:=h.le;obtain⟨A,c,h1,h2,_⟩:=h.form;exact⟨A,_,c,h1,h2,rfl,this⟩
theorem RN.val(h:RN w v qa):∃A n c,v=.slice A n c:=by
 obtain⟨A,n,c,h1,_⟩:=h.form';exact⟨A,n,c,h1⟩
theorem RN.at_{A:Option Addr}{n c k:Nat}(h:RN w (.slice A n c) qa)(hk:k<n) :
   ∃g o nd f r,A=some ⟨g,o,none⟩/\qa[k]?=some nd/\w.cell? ⟨g,o+k*3,none⟩=some (.int .i64 nd.kind)/\w.cell? ⟨g,o+k*3+1,none⟩=some f/\w.cell? ⟨g,o+k*3+2,none⟩=some r/\RI w f nd.frm/\RI w r nd.row:=by
 have hn:=h.len;subst hn;obtain⟨xs,h1,h2⟩:=h;obtain⟨g,o,cur,rfl,_,hc⟩:=TS.at_ h1 (by omega);obtain⟨f,r,k1,k2,k3,k4,k5⟩:=h2 k _ (getElem?_eq_getElem hk);exact⟨g,o,qa[k],f,r,rfl,getElem?_eq_getElem hk,hc _ _ k1,hc _ _ k2,hc _ _ k3,k4,k5⟩
end
theorem qjT:(Tryz.prog.info? 81).map (λi=>(i.zero,i.size,i.bytes))=some (some (.agg #[.int .i64 0,.slice none 0 0,.slice none 0 0]),3,56):=by kernel_rfl
theorem NC.yA{w:World}{xs:List Value}{i:Nat}{nd:Node}{ys:List Value}(h:NC w xs i nd):NC w (xs++ys) i nd:=by
 obtain⟨f,r,h1,h2,h3,h4,h5⟩:=h;have a:=λ{j u} (hj:xs[j]?=some u)=>(getElem?_append_left (l₂:=ys) (List.getElem?_eq_some_iff.1 hj).1).trans hj;exact⟨f,r,a h1,a h2,a h3,h4,h5⟩
theorem NC.yB{w:World}{xs:List Value}{n:Nat}{nd:Node}{f r:Value}(hl:xs.length=n*3)(h4:RI w f nd.frm)(h5:RI w r nd.row):NC w (xs++[.int .i64 nd.kind,f,r]) n nd:=by
 refine⟨f,r,?_,?_,?_,h4,h5⟩
 . rw[getElem?_append_right (by omega),show n*3-xs.length=0 by omega];rfl
 . rw[getElem?_append_right (by omega),show n*3+1-xs.length=1 by omega];rfl
 . rw[getElem?_append_right (by omega),show n*3+2-xs.length=2 by omega];rfl
theorem qz6{ops:Array Oper}{rest:List Oper}{o:Oper}{a:Act}{Q:Exit->Act->World->Prop}{w:World}{nd:Node}{f r:Value}
   (s x:Operand) (hgd:o.guard=none) (ho:o.op=.call {callee:=.builtin .append,args:=#[s,x],argTypes:=#[23,23]})
   {base:Nat} {v:Value} {qa:List Node} (hown:vh w base v qa) (hf:RI w f nd.frm) (hr:RI w r nd.row) (hn:qa.length<=1000000000) (hbase:base<=w.heap.size)
   (hs:a.eval s=v) (hx:a.eval x=.slice (some ⟨w.heap.size,0,none⟩) 1 1)
   (h:∀v' w',vh w' base v' (qa++[nd])->w.grownBy w' v.ownBlock->wpList prog ops Q rest (a.put o.dst v') w') :
   wpList prog ops Q (o::rest) a (w.alloc (.cells #[.int .i64 nd.kind,f,r] 81)):=by
 obtain⟨xs,ho1,ho2⟩:=hown;refine q2j s x 23 _ 3 56 underlying23 qjT rfl (by decide) (by decide) hgd ho ho1 hn hbase rfl ?_ hs hx ?_
 . intro u hu;simp only[mem_cons,not_mem_nil,or_false]at hu;rcases hu with rfl|rfl|rfl
   . rfl
   . exact hf.vk
   . exact hr.vk
 intro v' w' h1 h2 _;refine h v' w' ⟨_,by simpa using h1,?_⟩ h2;intro i nd' hi;have hne:qh w 3 v.ownBlock:=qh.own ho1 (by decide);by_cases hl:i<qa.length
 . rw[getElem?_append_left hl]at hi;exact((ho2 i nd' hi).yA).grown h2 hne
 . rw[getElem?_append_right (by omega)]at hi
   have h0:i-qa.length=0:=by
    rcases Nat.eq_zero_or_pos (i-qa.length)with h|h
    . exact h
    . rw[getElem?_eq_none (by simp;omega)]at hi;cases hi
   rw[h0]at hi;obtain rfl:nd=nd':=by simpa using hi
   obtain rfl:i=qa.length:=by omega
   exact NC.yB ho1.1 (hf.grown h2 hne) (hr.grown h2 hne)
theorem vh.form{w:World}{base:Nat}{v:Value}{qa:List Node}(h:vh w base v qa){n:Nat}(hn:qa.length=n)(h0:0<n) :
   ∃g cap cur,v=.slice (some ⟨g,0,none⟩) n cap/\n<=cap/\base<=g/\Blk w g 81 cur/\∀j,j<n*3->∃u,w.cell? ⟨g,j,none⟩=some u:=by
 subst hn;obtain⟨xs,h1,_⟩:=h;rcases h1.2 with ⟨rfl,hz⟩|⟨g,cap,cur,rfl,hb,hh,hn,_,hcs,ht⟩
 . omega
 . refine⟨g,cap,cur,rfl,hn,hb,hh,λj hj=>?_⟩;rw[cell_of_row w g j cur _ _ hh];exact⟨_,Array.getElem?_eq_getElem (by rw[hcs];omega)⟩
theorem vh.jr{w:World}{base g n cap k:Nat}{qa:List Node}{nd:Node}{f r:Value}(h:vh w base (.slice (some ⟨g,0,none⟩) n cap) qa)(hn:qa.length=n)(hk:k<n)(hf:RI w f nd.frm)(hr:RI w r nd.row) :
   vh (((w.setCell ⟨g,k*3,none⟩ (.int .i64 nd.kind)).setCell ⟨g,k*3+1,none⟩ f).setCell ⟨g,k*3+2,none⟩ r) base (.slice (some ⟨g,0,none⟩) n cap) (qa.set k nd):=by
 subst hn;obtain⟨xs,h1,h2⟩:=h;have s1:=World.ownsRow.stored h1 (k*3) (.int .i64 nd.kind);have s2:=World.ownsRow.stored s1.1 (k*3+1) f;have s3:=World.ownsRow.stored s2.1 (k*3+2) r;have hg:w.grownBy (((w.setCell ⟨g,k*3,none⟩ (.int .i64 nd.kind)).setCell ⟨g,k*3+1,none⟩ f).setCell ⟨g,k*3+2,none⟩ r) (some g):=qad (qad s1.2 s2.2) s3.2;have hne:qh w 3 (some g):=qh.own (v:=.slice (some ⟨g,0,none⟩) qa.length cap) h1 (by decide);have hxl:=h1.1;refine⟨_,by rw[length_set];exact s3.1,λi x hi=>?_⟩;by_cases hik:i=k
 . subst hik;rw[getElem?_set_self hk]at hi;obtain rfl:nd=x:=by simpa using hi
   refine⟨f,r,?_,?_,?_,hf.grown hg hne,hr.grown hg hne⟩
   . rw[getElem?_set_ne (by omega),getElem?_set_ne (by omega),getElem?_set_self (by omega)]
   . rw[getElem?_set_ne (by omega),getElem?_set_self (by rw[length_set];omega)]
   . rw[getElem?_set_self (by rw[length_set,length_set];omega)]
 . rw[getElem?_set_ne (λe=>hik e.symm)]at hi;obtain⟨f',r',k1,k2,k3,k4,k5⟩:=h2 i x hi;refine⟨f',r',?_,?_,?_,k4.grown hg hne,k5.grown hg hne⟩
   all_goals rw[getElem?_set_ne (by omega),getElem?_set_ne (by omega),getElem?_set_ne (by omega)];assumption
def RL(w:World)(v:Value)(ll:List (List Int)):Prop:=∃xs,TS w 24 1 v ll.length xs/\∀(i:Nat) (l:List Int),ll[i]?=some l->∃u,xs[i]?=some u/\RI w u l
def j9(w:World)(base:Nat)(v:Value)(ll:List (List Int)):Prop:=∃xs,w.ownsRow base 24 1 v ll.length xs/\∀(i:Nat) (l:List Int),ll[i]?=some l->∃u,xs[i]?=some u/\RI w u l
section
variable {w w':World}{v:Value}{ll:List (List Int)}{base:Nat}{row:Option Nat}
theorem RL.grown(h:RL w v ll)(hg:w.grownBy w' row)(hr:qh w 3 row)(hr':qh w 24 row):RL w' v ll:=by
 obtain⟨xs,h1,h2⟩:=h;refine⟨xs,h1.grown hg hr',λi l hi=>?_⟩;obtain⟨u,k1,k2⟩:=h2 i l hi;exact⟨u,k1,k2.grown hg hr⟩
theorem RL.new(h:RL w v ll)(hg:w.grownBy w' none):RL w' v ll:=h.grown hg (qh.none _ _) (qh.none _ _)
theorem j9.grown(h:j9 w base v ll)(hg:w.grownBy w' row)(hr:qh w 3 row)(hr':qh w 24 row):j9 w' base v ll:=by
 obtain⟨xs,h1,h2⟩:=h;refine⟨xs,qc4 h1 hg hr',λi l hi=>?_⟩;obtain⟨u,k1,k2⟩:=h2 i l hi;exact⟨u,k1,k2.grown hg hr⟩
theorem j9.new(h:j9 w base v ll)(hg:w.grownBy w' none):j9 w' base v ll:=h.grown hg (qh.none _ _) (qh.none _ _)
theorem j9.rl(h:j9 w base v ll):RL w v ll:=let ⟨xs,h1,h2⟩:=h;⟨xs,TS.zV h1,h2⟩
theorem j9.lt(h:j9 w base v ll):∀g,v.ownBlock=some g->base<=g/\g<w.heap.size:=let ⟨_,h1,_⟩:=h;World.ownsRow.lt h1
theorem j9.jL{E:TypeId}(h:j9 w base v ll)(hE:E≠24):qh w E v.ownBlock:=let ⟨_,h1,_⟩:=h;qh.own h1 hE
theorem j9.gb{a:World}(h:j9 w base v ll)(hg:a.grownBy w row)(k:w.grownBy w' v.ownBlock)(hb:a.heap.size<=base):a.grownBy w' row:=
 qbd hg k (λg e=>.inl (Nat.le_trans hb (h.lt g e).1))
theorem j9.empty(w:World){base:Nat}(hb:base<=w.heap.size):j9 (w.alloc (.cells #[] 24)) base (.slice (some ⟨w.heap.size,0,none⟩) 0 0) []:=⟨[],qt5 hb,λi nd h=>by simp at h⟩
theorem j9.nil(w:World)(base:Nat):j9 w base (.slice none 0 0) []:=⟨[],World.ownsRow_nil _ _ _ _,λi nd h=>by simp at h⟩
theorem RL.nil(w:World):RL w (.slice none 0 0) []:=⟨[],TS.nil _ _ _,λi nd h=>by simp at h⟩
theorem RL.len{A:Option Addr}{n c:Nat}(h:RL w (.slice A n c) ll):n=ll.length:=by
 obtain⟨xs,h,_⟩:=h;obtain⟨A',c',h1,_⟩:=h.form;injection h1
theorem RL.form'(h:RL w v ll):∃A n c,v=.slice A n c/\n<=c/\n=ll.length/\n<=9223372036854775807:=by
 obtain⟨xs,h,_⟩:=h;have:=h.le;obtain⟨A,c,h1,h2,_⟩:=h.form;exact⟨A,_,c,h1,h2,rfl,this⟩
theorem RL.val(h:RL w v ll):∃A n c,v=.slice A n c:=by
 obtain⟨A,n,c,h1,_⟩:=h.form';exact⟨A,n,c,h1⟩
theorem RL.at_{A:Option Addr}{n c k:Nat}(h:RL w (.slice A n c) ll)(hk:k<n) :
   ∃g o l B m e,A=some ⟨g,o,none⟩/\ll[k]?=some l/\w.cell? ⟨g,o+k,none⟩=some (.slice B m e)/\RI w (.slice B m e) l/\m=l.length/\m<=e/\m<=9223372036854775807:=by
 have hn:=h.len;subst hn;obtain⟨xs,h1,h2⟩:=h;obtain⟨g,o,cur,rfl,_,hc⟩:=TS.at_ h1 (by omega);obtain⟨u,k1,k2⟩:=h2 k _ (getElem?_eq_getElem hk);have hle:=k2.le;obtain⟨B,m,e,rfl,h3,h4⟩:=k2.form';exact⟨g,o,ll[k],B,m,e,rfl,getElem?_eq_getElem hk,hc _ _ k1,k2,h4,h3,by omega⟩
end
theorem qox:(Tryz.prog.info? 24).map (λi=>(i.zero,i.size,i.bytes))=some (some (.slice none 0 0),1,24):=by kernel_rfl
theorem qk8{ops:Array Oper}{rest:List Oper}{o:Oper}{a:Act}{Q:Exit->Act->World->Prop}{w:World}{l:List Int}{f:Value}
   (s x:Operand) (hgd:o.guard=none) (ho:o.op=.call {callee:=.builtin .append,args:=#[s,x],argTypes:=#[27,27]})
   {base:Nat} {v:Value} {ll:List (List Int)} (hown:j9 w base v ll) (hf:RI w f l) (hn:ll.length<=1000000000) (hbase:base<=w.heap.size)
   (hs:a.eval s=v) (hx:a.eval x=.slice (some ⟨w.heap.size,0,none⟩) 1 1)
   (h:∀v' w',j9 w' base v' (ll++[l])->w.grownBy w' v.ownBlock->wpList prog ops Q rest (a.put o.dst v') w') :
   wpList prog ops Q (o::rest) a (w.alloc (.cells #[f] 24)):=by
 obtain⟨xs,ho1,ho2⟩:=hown;refine q2j s x 27 _ 1 24 underlying27 qox rfl (by decide) (by decide) hgd ho ho1 hn hbase rfl ?_ hs hx ?_
 . intro u hu;simp only[mem_cons,not_mem_nil,or_false]at hu;subst hu;exact hf.vk
 intro v' w' h1 h2 _;refine h v' w' ⟨_,by simpa using h1,?_⟩ h2;intro i l' hi;have hne:qh w 3 v.ownBlock:=qh.own ho1 (by decide);have hxl:xs.length=ll.length:=by have:=ho1.1;omega
 by_cases hl:i<ll.length
 . rw[getElem?_append_left hl]at hi;obtain⟨u,k1,k2⟩:=ho2 i l' hi;exact⟨u,by rw[getElem?_append_left (by omega)];exact k1,k2.grown h2 hne⟩
 . rw[getElem?_append_right (by omega)]at hi
   have h0:i-ll.length=0:=by
    rcases Nat.eq_zero_or_pos (i-ll.length)with h|h
    . exact h
    . rw[getElem?_eq_none (by simp;omega)]at hi;cases hi
   rw[h0]at hi;obtain rfl:l=l':=by simpa using hi
   exact⟨f,by rw[getElem?_append_right (by omega),show i-xs.length=0 by omega];rfl,hf.grown h2 hne⟩
theorem j9.form{n:Nat}{w:World}{base:Nat}{v:Value}{ll:List (List Int)}(h:j9 w base v ll)(hn:ll.length=n)(h0:0<n) :
   ∃g cap cur,v=.slice (some ⟨g,0,none⟩) n cap/\n<=cap/\base<=g/\Blk w g 24 cur/\∀j,j<n->∃u,w.cell? ⟨g,j,none⟩=some u:=by
 subst hn;obtain⟨xs,h1,_⟩:=h;rcases h1.2 with ⟨rfl,hz⟩|⟨g,cap,cur,rfl,hb,hh,hn,_,hcs,ht⟩
 . omega
 . refine⟨g,cap,cur,rfl,hn,hb,hh,λj hj=>?_⟩;rw[cell_of_row w g j cur _ _ hh];exact⟨_,Array.getElem?_eq_getElem (by rw[hcs];omega)⟩
theorem j9.jr{w:World}{base g n cap k:Nat}{ll:List (List Int)}{l:List Int}{f:Value}(h:j9 w base (.slice (some ⟨g,0,none⟩) n cap) ll)(hn:ll.length=n)(hk:k<n)(hf:RI w f l) :
   j9 (w.setCell ⟨g,k,none⟩ f) base (.slice (some ⟨g,0,none⟩) n cap) (ll.set k l):=by
 subst hn;obtain⟨xs,h1,h2⟩:=h;have s1:=World.ownsRow.stored h1 k f;have hne:qh w 3 (some g):=qh.own (v:=.slice (some ⟨g,0,none⟩) ll.length cap) h1 (by decide);have hxl:xs.length=ll.length:=by have:=h1.1;omega
 refine⟨_,by rw[length_set];exact s1.1,λi x hi=>?_⟩;by_cases hik:i=k
 . subst hik;rw[getElem?_set_self hk]at hi;obtain rfl:l=x:=by simpa using hi
   exact⟨f,by rw[getElem?_set_self (by omega)],hf.grown s1.2 hne⟩
 . rw[getElem?_set_ne (λe=>hik e.symm)]at hi;obtain⟨u,k1,k2⟩:=h2 i x hi;exact⟨u,by rw[getElem?_set_ne (λe=>hik e.symm)];exact k1,k2.grown s1.2 hne⟩
theorem j9.made{w:World}{base n:Nat}{v:Value}(h:w.ownsRow base 24 1 v n (madeCells (slice none 0 0).cells n).toList):j9 w base v (replicate n []):=by
 refine⟨_,by rw[length_replicate];exact h,λi l hi=>?_⟩
 obtain⟨hin,rfl⟩:i<n/\l=[]:=by
  rw[getElem?_replicate]at hi;split at hi
  . exact⟨by assumption,by injection hi with e;exact e.symm⟩
  . cases hi
 have hc:(slice none 0 0).cells=#[.slice none 0 0]:=rfl;rw[hc];exact⟨.slice none 0 0,by simp[madeCells,hin,Nat.mod_one],RI.nil _⟩
def QS(w:World)(base:Nat)(E:TypeId)(v:Value)(xs:List Value):Prop:=
 ∃A c,v=.slice A xs.length c/\xs.length<=c/\c<=maxLen/\(∀u∈xs,u.oneCell'=true) /\
  ((A=none/\c=0)∨∃g o cur,A=some ⟨g,o,none⟩/\base<=g/\Blk w g E cur/\o+c<=cur.size/\∀j u,xs[j]?=some u->cur[o+j]?=some u)
section
variable {w w':World}{base:Nat}{E:TypeId}{v:Value}{xs:List Value}
theorem QS.nil(w:World)(base:Nat)(E:TypeId):QS w base E (.slice none 0 0) []:=⟨none,0,rfl,by simp,by simp,by simp,.inl ⟨rfl,rfl⟩⟩
theorem QS.ts(h:QS w base E v xs):TS w E 1 v xs.length xs:=by
 obtain⟨A,c,h1,h2,h3,_,h5⟩:=h;rcases h5 with ⟨h4,h5⟩|⟨g,o,cur,k1,k2,k3,k4,k5⟩
 . exact⟨by simp,A,c,h1,h2,h3,λ_=>h5,by left;omega⟩
 . subst k1;exact⟨by simp,_,c,h1,h2,h3,by simp,.inr ⟨g,o,cur,rfl,k3,k5⟩⟩
theorem QS.lt(h:QS w base E v xs):∀g,v.ownBlock=some g->base<=g/\g<w.heap.size:=by
 obtain⟨A,c,rfl,h2,h3,_,h5⟩:=h;intro g' hg';rcases h5 with ⟨rfl,h5⟩|⟨g,o,cur,rfl,k2,k3,k4,k5⟩
 . cases hg'
 . cases hg';exact⟨k2,k3.lt⟩
theorem QS.grown{row:Option Nat}(h:QS w base E v xs)(hg:w.grownBy w' row)(hr:qh w E row):QS w' base E v xs:=by
 obtain⟨A,c,h1,h2,h3,h6,h5⟩:=h;refine⟨A,c,h1,h2,h3,h6,?_⟩;rcases h5 with h5|⟨g,o,cur,k1,k2,k3,k4,k5⟩
 . exact .inl h5
 . exact .inr ⟨g,o,cur,k1,k2,k3.grown hg (λe=>hr g e.symm cur k3),k4,k5⟩
theorem QS.new(h:QS w base E v xs)(hg:w.grownBy w' none):QS w' base E v xs:=h.grown hg (qh.none _ _)
theorem QS.apart{row:Option Nat}(h:QS w base E v xs)(hg:w.grownBy w' row)(hr:v.ownBlock=none∨v.ownBlock≠row):QS w' base E v xs:=by
 obtain⟨A,c,h1,h2,h3,h6,h5⟩:=h;refine⟨A,c,h1,h2,h3,h6,?_⟩;rcases h5 with h5|⟨g,o,cur,k1,k2,k3,k4,k5⟩
 . exact .inl h5
 . subst h1 k1;refine .inr ⟨g,o,cur,rfl,k2,k3.grown hg (λe=>?_),k4,k5⟩;rcases hr with hr|hr
   . cases hr
   . exact hr e
theorem QS.tail{A:Option Addr}{n c:Nat}{x:Value}(h:QS w base E (.slice A n c) (x::xs)) :
   ∃g o,A=some ⟨g,o,none⟩/\n=xs.length+1/\1<=c/\QS w base E (.slice (some ⟨g,o+1,none⟩) (n-1) (c-1)) xs/\(c=1->QS w base E (.slice (some ⟨g,o,none⟩) (n-1) (c-1)) xs):=by
 obtain⟨A',c',h1,h2,h3,h6,h5⟩:=h;injection h1 with e1 e2 e3;subst e1 e3;rw[length_cons]at h2 e2;rcases h5 with ⟨h4,h5⟩|⟨g,o,cur,k1,k2,k3,k4,k5⟩
 . omega
 . have e:n-1=xs.length:=by omega
   rw[e];refine⟨g,o,k1,e2,by omega,⟨_,_,rfl,by omega,by omega,λu hu=>h6 u (by simp[hu]),?_⟩,λhc=>⟨_,_,rfl,by omega,by omega,λu hu=>h6 u (by simp[hu]),?_⟩⟩
   . refine .inr ⟨g,o+1,cur,rfl,k2,k3,by omega,λj u hu=>?_⟩;have:=k5 (j+1) u (by simpa using hu);rw[show o+1+j=o+(j+1) by omega];exact this
   . refine .inr ⟨g,o,cur,rfl,k2,k3,by omega,λj u hu=>?_⟩;have:=(List.getElem?_eq_some_iff.1 hu).1;omega
theorem QS.init{A:Option Addr}{n c:Nat}{x:Value}(h:QS w base E (.slice A n c) (xs++[x])):n=xs.length+1/\n<=c/\QS w base E (.slice A xs.length c) xs:=by
 obtain⟨A',c',h1,h2,h3,h6,h5⟩:=h;injection h1 with e1 e2 e3;subst e1 e3;rw[length_append,length_singleton]at h2 e2;refine⟨e2,by omega,_,_,rfl,by omega,h3,λu hu=>h6 u (by simp[hu]),?_⟩;rcases h5 with h5|⟨g,o,cur,k1,k2,k3,k4,k5⟩
 . exact .inl h5
 . exact .inr ⟨g,o,cur,k1,k2,k3,k4,λj u hu=>k5 j u ((getElem?_append_left (List.getElem?_eq_some_iff.1 hu).1).trans hu)⟩
theorem QS.zV{n:Nat}(h:w.ownsRow base E 1 v n xs)(h1:∀u∈xs,u.oneCell'=true):QS w base E v xs:=by
 have hn:n=xs.length:=by have:=h.1;omega
 subst hn;rcases h.2 with ⟨rfl,h0⟩|⟨g,cap,cur,rfl,hb,hg,hn,hm,hcs,ht⟩
 . have:xs=[]:=eq_nil_of_length_eq_zero h0;subst this;exact QS.nil _ _ _
 . refine⟨_,cap,rfl,hn,hm,h1,.inr ⟨g,0,cur,rfl,hb,hg,by omega,λj u hu=>?_⟩⟩;rw[<-ht,getElem?_take]at hu;split at hu
   . simpa using hu
   . cases hu
end
theorem qg.low{w:World}{a b:Nat}{v:Value}{l:List Int}(h:qg w a v l)(hab:b<=a):qg w b v l:=by
 refine⟨h.1,?_⟩;rcases h.2 with h0|⟨g,cap,cur,h1,h2,h3⟩
 . exact .inl h0
 . exact .inr ⟨g,cap,cur,h1,Nat.le_trans hab h2,h3⟩
theorem qg.qs{w:World}{base:Nat}{v:Value}{l:List Int}(h:qg w base v l):QS w base 3 v (l.map (.int .i64)):=QS.zV h (λu hu=>by
 obtain⟨x,_,rfl⟩:=mem_map.1 hu;rfl)
theorem QS.ri{w:World}{base:Nat}{v:Value}{l:List Int}(h:QS w base 3 v (l.map (.int .i64))):RI w v l:=by
 have:=h.ts;rw[length_map]at this;exact this
end
section
theorem q7s(S:List Int)(x:Int)(j:Nat)(h1:∀y∈S.take j,¬x<y)(h2:∀y∈S.drop j,x<y):putRow S x=S.take j++x::S.drop j:=by
 induction S generalizing j with
 |nil=>simp[putRow]
 |cons y ys ih=>
  match j with
  |0=>
   have:=h2 y (by simp);unfold putRow;rw[if_pos this];rfl
  |j+1=>
   have:=h1 y (by simp);unfold putRow;rw[if_neg this,ih j (λz hz=>h1 z (by simp[hz])) (λz hz=>h2 z (by simpa using hz))];rfl
def qke(l:List Int)(i j:Nat)(x:Int):List Int:=(ql (l.take i)).take j++x::((ql (l.take i)).drop j++l.drop (i+1))
def qoj(l:List Int)(i:Nat):List Int:=ql (l.take i)++l.drop i
theorem qzt(l:List Int)(x:Int):ql (l++[x])=putRow (ql l) x:=by
 unfold ql;rw[foldl_append];rfl
theorem q7t{l:List Int}{i j:Nat}{x:Int}(hi:i<l.length)(hj:j<=i):(qke l i j x).length=l.length:=by
 unfold qke;rw[length_append,length_cons,length_append,length_take,length_drop,length_drop,qe2,length_take];omega
theorem q5j(l:List Int):qoj l 1=l:=by
 cases l with
 |nil=>rfl
 |cons x xs=>simp[qoj,ql,putRow]
theorem q5k(l:List Int){i:Nat}(h:l.length<=i):qoj l i=ql l:=by
 unfold qoj;rw[take_of_length_le h,drop_of_length_le h,append_nil]
theorem q2h{l:List Int}{i:Nat}{x:Int}(h:l[i]?=some x):qoj l i=qke l i i x:=by
 obtain⟨hi,rfl⟩:=List.getElem?_eq_some_iff.1 h;have hl:(ql (l.take i)).length=i:=by rw[qe2,length_take];omega
 unfold qoj qke;rw[take_of_length_le (l:=ql (l.take i)) (by omega),drop_of_length_le (l:=ql (l.take i)) (by omega),nil_append,drop_eq_getElem_cons hi]
theorem q7u{l:List Int}{i j:Nat}{x:Int}(hi:i<l.length)(hj:j<=i):(qke l i j x)[j]?=some x:=by
 have hl:(ql (l.take i)).length=i:=by rw[qe2,length_take];omega
 unfold qke;rw[getElem?_append_right (by rw[length_take];omega),length_take,show j-min j (ql (l.take i)).length=0 by omega];rfl
theorem q5l{l:List Int}{i j:Nat}{x:Int}(hi:i<l.length)(hj:j<=i)(h0:0<j):∃y,(qke l i j x)[j-1]?=some y/\(ql (l.take i))[j-1]?=some y:=by
 have hl:(ql (l.take i)).length=i:=by rw[qe2,length_take];omega
 refine⟨(ql (l.take i))[j-1],?_,getElem?_eq_getElem (by omega)⟩;unfold qke;rw[getElem?_append_left (by rw[length_take];omega),getElem?_take,if_pos (by omega)];exact getElem?_eq_getElem (by omega)
theorem qjU(P Q:List Int)(y x:Int):((P++y::x::Q).set (P.length+1) y).set P.length x=P++x::y::Q:=by
 rw[set_append_right _ _ (by omega),show P.length+1-P.length=1 by omega,set_append_right _ _ (by omega),Nat.sub_self];rfl
theorem q5m{l:List Int}{i j:Nat}{x y:Int}(hi:i<l.length)(hj:j<=i)(h0:0<j)(hy:(ql (l.take i))[j-1]?=some y):((qke l i j x).set j y).set (j-1) x=qke l i (j-1) x:=by
 have hl:(ql (l.take i)).length=i:=by rw[qe2,length_take];omega
 obtain⟨k,rfl⟩:∃k,j=k+1:=⟨j-1,by omega⟩;simp only[Nat.add_sub_cancel]at hy |-;obtain⟨hk,hy'⟩:=List.getElem?_eq_some_iff.1 hy
 have e1:qke l i (k+1) x=(ql (l.take i)).take k++y::x::((ql (l.take i)).drop (k+1)++l.drop (i+1)):=by
  unfold qke;rw[take_succ_eq_append_getElem hk,hy',append_assoc];rfl
 have e2:qke l i k x=(ql (l.take i)).take k++x::y::((ql (l.take i)).drop (k+1)++l.drop (i+1)):=by
  unfold qke;rw[drop_eq_getElem_cons hk,hy'];rfl
 rw[e1,e2];have:=qjU ((ql (l.take i)).take k) ((ql (l.take i)).drop (k+1)++l.drop (i+1)) y x;rw[length_take,show min k (ql (l.take i)).length=k by omega]at this;exact this
theorem qzu{l:List Int}{i j:Nat}{x:Int}(h:l[i]?=some x)(hj:j<=i)(h1:j=0∨∃y,(ql (l.take i))[j-1]?=some y/\¬x<y)(h2:∀y∈(ql (l.take i)).drop j,x<y):qke l i j x=qoj l (i+1):=by
 obtain⟨hi,hx⟩:=List.getElem?_eq_some_iff.1 h;have hl:(ql (l.take i)).length=i:=by rw[qe2,length_take];omega
 have hs:=qne (l.take i)
 have h3:∀y∈(ql (l.take i)).take j,¬x<y:=by
  intro y hy;rcases h1 with rfl|⟨z,hz,hzx⟩
  . simp at hy
  . obtain⟨a,ha,rfl⟩:=mem_take_iff_getElem.1 hy;obtain⟨hk,rfl⟩:=List.getElem?_eq_some_iff.1 hz;by_cases e:a=j-1
    . subst e;exact hzx
    . have:=pairwise_iff_getElem.1 hs a (j-1) (by omega) hk (by omega);omega
 unfold qke qoj;rw[take_succ_eq_append_getElem hi,hx,qzt,q7s _ _ j h3 h2,append_assoc];rfl
theorem q7v{S:List Int}{j:Nat}{x y:Int}(h0:0<j)(hy:S[j-1]?=some y)(hx:x<y)(h:∀z∈S.drop j,x<z):∀z∈S.drop (j-1),x<z:=by
 obtain⟨hk,rfl⟩:=List.getElem?_eq_some_iff.1 hy;intro z hz;rw[drop_eq_getElem_cons hk,show j-1+1=j by omega]at hz;rcases mem_cons.1 hz with rfl|hz
 . exact hx
 . exact h z hz
def vI(l m:List Int)(k:Nat):Prop:=m.length=l.length/\∀i,i<l.length->m[i]?=if i<k∨l.length-k<=i then l[l.length-1-i]? else l[i]?
theorem vI.zero(l:List Int):vI l l 0:=⟨rfl,λi hi=>by rw[if_neg (by omega)]⟩
theorem vI.step{l m:List Int}{k:Nat}{x y:Int}(h:vI l m k)(hk:k<l.length-1-k)(hx:m[k]?=some x)(hy:m[l.length-1-k]?=some y):vI l ((m.set k y).set (l.length-1-k) x) (k+1):=by
 obtain⟨h1,h2⟩:=h;have ex:=h2 k (by omega);have ey:=h2 (l.length-1-k) (by omega);rw[if_neg (by omega),hx]at ex;rw[if_neg (by omega),hy]at ey;refine⟨by simp[h1],λi hi=>?_⟩;rw[getElem?_set,length_set,getElem?_set];by_cases e1:l.length-1-k=i
 . rw[if_pos e1,if_pos (by omega),if_pos (by omega),<-e1,show l.length-1-(l.length-1-k)=k by omega];exact ex
 . rw[if_neg e1];by_cases e2:k=i
   . subst e2;rw[if_pos rfl,if_pos (by omega),if_pos (by omega)];exact ey
   . rw[if_neg e2,h2 i hi];by_cases e3:i<k∨l.length-k<=i
     . rw[if_pos e3,if_pos (by omega)]
     . rw[if_neg e3,if_neg (by omega)]
theorem vI.done{l m:List Int}{k:Nat}(h:vI l m k)(hk:l.length-1-k<=k):m=l.reverse:=by
 obtain⟨h1,h2⟩:=h;apply ext_getElem?;intro i;by_cases hi:i<l.length
 . rw[h2 i hi,getElem?_reverse hi];split
   . rfl
   . rename_i hn;congr 1;omega
 . rw[getElem?_eq_none (by omega),getElem?_eq_none (by simp;omega)]
end
end Go.Proofs.YtacemdoejblgaaaGreatDoor

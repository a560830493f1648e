/- Part M13. Conditions: each statement's. -/
import Derived.Test.YtacemdoejblgaaaGreatDoorM12
import Derived.BigRegion
import Derived.RegionTactic
import Derived.Orders
namespace Go.Proofs.YtacemdoejblgaaaGreatDoor
open List Option Tryz World Value
set_option maxRecDepth 100000
set_option maxHeartbeats 6400000
section
open Go.RowKit
theorem qv8{qa:List Node}{D:List Int}{k:Nat}{x:Int}(h:D[k]?=some x)(hs:qga qa (D.take k) x=false):qb6 qa D=false:=by
 obtain⟨hk,rfl⟩:=List.getElem?_eq_some_iff.1 h;rcases Bool.eq_false_or_eq_true (qb6 qa D)with e|e
 . rw[qit e hk]at hs;cases hs
 . exact e
theorem q67{qa:List Node}{D:List Int}{k:Nat}{x:Int}(h:D[k]?=some x)(ho:qd0 qa D k=true)(hs:qga qa (D.take k) x=true):qd0 qa D (k+1)=true:=by
 rw[qe0,ho,getD_eq_getElem?_getD,h];exact hs
theorem q68(l:List Int)(x:Int):dedup (l++[x])=if x.toNat∈dedup l then dedup l else dedup l++[x.toNat]:=by
 unfold dedup;rw[foldl_append];rfl
theorem qzg{l:List Int}(hl:∀y∈l,0<=y){x:Int}(hx:0<=x):x.toNat∈dedup l↔x∈l:=by
 rw[qoy];constructor
 . rintro⟨f,hf,e⟩;have:=hl f hf;obtain rfl:f=x:=by omega
   exact hf
 . exact λh=>⟨x,h,rfl⟩
theorem q1v(qa:List Node):qbm qa=(range qa.length).map λi=>((dedup (qgn qa i)).length:Int):=by
 unfold qbm;simp only[qhr]
theorem qmh(v v':Value)(qa:List Node)(order:List Int)(w:World)(h:RN w v qa)(h':RI w v' order)(hl:qa.length<=1000000000){b:Bool}(hb:qb6 qa order=b) :
   Calls prog 158 #[v,v'] w λe w'=>e=.returned (.bool b)/\w.grownBy w' none:=by
 obtain⟨A,n,c,rfl,hnc,hn,-⟩:=h.form';obtain⟨B,m,c',rfl,hmc,hm⟩:=h'.form';have hle:=h'.le;rw[<-hm]at hle;have hn9:n<=1000000000:=by omega
 have Hn:=Lib.hid hn;have Hm:=Lib.hid hm;have Hb:=Lib.hid hb;clear hn hm hb hl;go_enter func158,ntmps158;go_wp2_with fail
 go_loopg [5] (m+1) (λmm i wr=>∃k:Nat,k<=m/\mm=m+1-k/\i=.int .i64 k/\Hid (qd0 qa order k=true)/\w.grownBy wr none)
 case atStart=>exact⟨0,Nat.zero_le _,rfl,rfl,by show _=_;rfl,qah _ _⟩
 case round=>
  obtain⟨k,hk,rfl,rfl,Hk,hg⟩:=hrel;by_cases hlt:k<m
  . obtain⟨g,o,x,rfl,hx,c0⟩:=(h'.new hg).at_ hlt;have Hx:=Lib.hid hx;have ht:=(h'.new hg).take (k:=k) (by omega);have hkc:k<=c':=by omega
    clear hx;by_cases hin:0<=x/\x<=(n:Int)-1
    . have Hin:Hid ((decide (0<=x)&&decide (x<=(n:Int)-1))=true):=by show _=_;simp[hin.1,hin.2]
      obtain⟨j,rfl⟩:=Int.eq_ofNat_of_zero_le hin.1;have hj:j<n:=by omega
      clear hin;obtain⟨g2,o2,nd,f,r,rfl,hnd,d0,d1,d2,hf,-⟩:=(h.new hg).at_ hj;have hfr:Hid (qgn qa j=nd.frm):=qec hnd;clear hnd d0 d2;obtain⟨Af,nf,cf,rfl⟩:=hf.val;by_cases hD:(j:Int)∈order.take k
      . have HD:Hid (decide ((j:Int)∈order.take k)=true):=decide_eq_true hD
        have Hr:Hid (b=false):=by
         show _=_;rw[<-Hb.out];refine qv8 Hx.out ?_;unfold qga;rw[decide_eq_true hD];simp
        clear hD Hk;go_wp2_with fail
        go_quiet ((first
         |(go_at_call 74;exact qdh (qed _ _ _ _ Hin.out))
         |(go_at_call 123;exact qdh (qen _ _ _ _ (by exact ht) HD.out))))
        go_wp2;go_ret;exact⟨by rw[Hr.out];rfl,qcn hg _⟩
      . have HD:Hid (decide ((j:Int)∈order.take k)=false):=decide_eq_false hD;by_cases hall:(nd.frm.all λy=>decide (y∈order.take k))=true
        . have qV:=Lib.hid hall
          have Hs:Hid (qd0 qa order (k+1)=true):=by
           refine q67 Hx.out Hk.out (qfb.2 ⟨Int.natCast_nonneg j,by rw[<-Hn.out];omega,hD,?_⟩);rw[Int.toNat_natCast,hfr.out];intro y hy;exact of_decide_eq_true (List.all_eq_true.1 hall y hy)
          clear hD hall Hk;go_wp2_with fail
          go_quiet ((first
           |(go_at_call 74;exact qdh (qed _ _ _ _ Hin.out))
           |(go_at_call 123;exact qdh (qen _ _ _ _ (by exact ht) HD.out))
           |(go_at_call 201;exact qdh (qzf _ _ _ nd.frm _ (by exact ht) (by exact hf) qV.out))))
          go_wp2;go_roundg (m+1-(k+1))
          case measure=>omega
          case rel=>exact⟨k+1,by omega,rfl,by go_num,Hs,qcn hg _⟩
        . have kM:(nd.frm.all λy=>decide (y∈order.take k))=false:=by simpa using hall
          have qV:=Lib.hid kM
          have Hr:Hid (b=false):=by
           show _=_;rw[<-Hb.out];refine qv8 Hx.out ?_;unfold qga;rw[Int.toNat_natCast,hfr.out,kM];simp
          clear hD hall kM Hk;go_wp2_with fail
          go_quiet ((first
           |(go_at_call 74;exact qdh (qed _ _ _ _ Hin.out))
           |(go_at_call 123;exact qdh (qen _ _ _ _ (by exact ht) HD.out))
           |(go_at_call 201;exact qdh (qzf _ _ _ nd.frm _ (by exact ht) (by exact hf) qV.out))))
          go_wp2;go_ret;exact⟨by rw[Hr.out];rfl,qcn hg _⟩
    . have Hin:Hid ((decide (0<=x) && decide (x<=(n:Int) - 1))=false):=by
       show _=_;rw[Bool.and_eq_false_iff,decide_eq_false_iff_not,decide_eq_false_iff_not];omega
      have Hr:Hid (b=false):=by
       show _=_;rw[<-Hb.out];refine qv8 Hx.out ?_;rcases Bool.eq_false_or_eq_true (qga qa (order.take k) x)with e|e
       . obtain⟨h1,h2,_⟩:=qfb.1 e;rw[<-Hn.out]at h2;exact absurd ⟨h1,by omega⟩ hin
       . exact e
      clear hin Hk;go_wp2_with fail
      go_quiet ((first
       |(go_at_call 74;exact qdh (qed _ _ _ _ Hin.out))))
      go_wp2;go_ret;exact⟨by rw[Hr.out];rfl,qcn hg _⟩
  . obtain rfl:k=m:=by omega
    have Hr:Hid (b=true):=by
     show _=_;rw[<-Hb.out];have:=Hk.out;rw[Hm.out]at this;exact this
    clear Hk;go_wp2;go_ret;exact⟨by rw[Hr.out];rfl,hg⟩
def zJ(N:Nat)(L:Nat->List Nat):Nat:=((range N).map (λi=>(L (2*i+2)).length)).sum
theorem qk9(N:Nat)(L:Nat->List Nat):zJ (N+1) L=zJ N L+(L (2*N+2)).length:=by
 unfold zJ;rw[range_succ,map_append,sum_append];simp
theorem qq4{N:Nat}{L L':Nat->List Nat}(h:∀i,i<N->L' (2*i+2)=L (2*i+2)):zJ N L'=zJ N L:=by
 induction N with
 |zero=>rfl
 |succ N ih=>rw[qk9,qk9,ih (λi hi=>h i (by omega)),h N (by omega)]
theorem qmG{N f:Nat}{L:Nat->List Nat}{x:List Nat}(hf:f<N)(hx:x.length=(L (2*f+2)).length+1):zJ N (upd L (2*f+2) x)=zJ N L+1:=by
 induction N with
 |zero=>omega
 |succ N ih=>
  rw[qk9,qk9];by_cases h:f=N
  . subst h;rw[upd_same,hx,qq4 (λi hi=>qaw _ _ (by omega))];omega
  . rw[qaw _ _ (by omega),ih (by omega)];omega
theorem qq5{N n f:Nat}(L:Nat->List Nat)(hf:f<N):zJ N (qf1 n f L)=zJ N L+(if f∈L (2*n+1)then 0 else 1):=by
 unfold qf1;split
 . rfl
 . rw[qmG hf (by rw[length_append,qaw _ _ (by omega)];rfl),qq4 (λi hi=>qaw _ _ (by omega))]
theorem q77{n f a:Nat}(L:Nat->List Nat)(h1:a≠2*n+1)(h2:a≠2*f+2):qf1 n f L a=L a:=by
 unfold qf1;split
 . rfl
 . rw[qaw _ _ h2,qaw _ _ h1]
theorem q22{n a:Nat}{frm:List Int}(L:Nat->List Nat)(hf:∀y∈frm,0<=y/\y<(n:Int))(h1:2*n+1<a):qdj n frm L a=L a:=by
 unfold qdj
 induction frm generalizing L with
 |nil=>rfl
 |cons x xs ih=>
  have hx:=hf x (by simp);rw[foldl_cons,ih _ (λy hy=>hf y (by simp[hy])),q77 _ (by omega) (by omega)]
theorem q0b{qa:List Node}(hv:qaf qa=true)(k:Nat):∀a,2*k+1<=a->qdo qa k a=[]:=by
 induction k with
 |zero=>intro a _;rfl
 |succ k ih=>
  intro a ha;cases h:qa[k]? with
  |none=>
   have hl:qa.length<=k:=by simpa using h
   have e:qdo qa (k+1)=qdo qa k:=by
    unfold qdo;rw[take_of_length_le (by simp;omega),take_of_length_le (by simp;omega)]
   rw[e];exact ih a (by omega)
  |some nd=>
   rw[qfy h];unfold qgq;rw[qaw _ _ (by omega)];have hfit:=(qbk hv h).1;rw[q22 _ (λy hy=>qc6 hfit hy) (by omega)];exact ih a (by omega)
theorem q0c{N n:Nat}{frm:List Int}(L:Nat->List Nat)(hf:∀y∈frm,0<=y/\y<(n:Int))(hn:n<N)(hl:frm.length<=2)(h0:L (2*n+1)=[]) :
   zJ N L<=zJ N (qdj n frm L)/\zJ N (qdj n frm L)-zJ N L<=frm.length/\frm.length<=2*(zJ N (qdj n frm L)-zJ N L):=by
 match frm,hl with
 |[],_=>simp[qdj]
 |[x],_=>
  have hx:=hf x (by simp);show zJ N L<=zJ N (qf1 n x.toNat L)/\_;have e:=qq5 (n:=n) L (show x.toNat<N by omega);rw[h0]at e;simp only[not_mem_nil,if_false]at e;show _/\zJ N (qf1 n x.toNat L)-zJ N L<=_/\_<=2*(zJ N (qf1 n x.toNat L)-zJ N L);simp only[length_cons,length_nil];omega
 |[x,y],_=>
  have hx:=hf x (by simp);have hy:=hf y (by simp);have e:=qq5 (n:=n) L (show x.toNat<N by omega);have e2:=qq5 (n:=n) (qf1 n x.toNat L) (show y.toNat<N by omega);rw[h0]at e;simp only[not_mem_nil,if_false]at e;show zJ N L<=zJ N (qf1 n y.toNat (qf1 n x.toNat L))/\zJ N (qf1 n y.toNat (qf1 n x.toNat L))-zJ N L<=_/\_<=2*(zJ N (qf1 n y.toNat (qf1 n x.toNat L))-zJ N L);simp only[length_cons,length_nil];split at e2<;>omega
theorem qtE{qa:List Node}(hv:qaf qa=true){k:Nat}(hk:k<=qa.length):(zJ qa.length (qdo qa k):Int)<=yY qa k/\yY qa k<=2*zJ qa.length (qdo qa k):=by
 induction k with
 |zero=>
  have e:∀N,zJ N (λ_=>[])=0:=by
   intro N
   induction N with
   |zero=>rfl
   |succ N ih=>rw[qk9,ih];rfl
  show ((zJ qa.length (λ_=>[]):Nat):Int)<=yY qa 0/\yY qa 0<=2*(zJ qa.length (λ_=>[]):Nat);rw[e];simp[yY]
 |succ k ih=>
  obtain⟨h1,h2⟩:=ih (by omega);obtain⟨nd,h⟩:∃nd,qa[k]?=some nd:=⟨_,getElem?_eq_getElem (by omega)⟩;have hfit:=qbk hv h;have e:=q0c (N:=qa.length) (n:=k) (qdo qa k) (λy hy=>qc6 hfit.1 hy) (by omega) hfit.2.1 (q0b hv k _ (by omega));rw[qfy h,q76 h];have e2:zJ qa.length (qgq (qdo qa k) (nd,k))=zJ qa.length (qdj k nd.frm (qdo qa k)):=qq4 (λi hi=>qaw _ _ (by omega));rw[e2];omega
theorem q0d{qa:List Node}{k:Nat}(hk:k<=qa.length):qdo qa k 0=range k:=by
 induction k with
 |zero=>rfl
 |succ k ih=>
  obtain⟨nd,h⟩:∃nd,qa[k]?=some nd:=⟨_,getElem?_eq_getElem (by omega)⟩;rw[qfy h];unfold qgq;rw[upd_same,qz0,ih (by omega),range_succ]
theorem qgk(A:Option Addr)(n c:Nat)(at_:Int)(w:World){b:Bool}(hb:(decide (0<=at_)&&decide (at_<n))=b) :
   Calls prog 80 #[.slice A n c,.int .i64 at_] w λe w'=>e=.returned (.bool b)/\w=w':=by
 subst hb;go_enter func80,ntmps80;by_cases h0:0<=at_
 . by_cases h1:at_<n
   . go_wp2;go_ret;exact⟨by simp;omega,rfl⟩
   . go_wp2;go_ret;exact⟨by simp;omega,rfl⟩
 . go_wp2;go_ret;exact⟨by simp;omega,rfl⟩
def qmH(w:World)(l:List Int)(e:Ending)(w':World):Prop:=∃v',e=.returned v'/\qg w' w.heap.size v' l/\w.grownBy w' none
theorem qsa(v:Value)(qa:List Node)(at_:Nat)(w:World)(h:RN w v qa)(hv:qaf qa=true)(hat:at_<qa.length) :
   Calls prog 131 #[v,.int .i64 at_] w (qmH w ((qxl qa (2*at_+2)).map (λj:Nat=>(j:Int)))):=by
 obtain⟨A,n,c,rfl,-,hn,-⟩:=h.form';have vV:n<=10:=by have:=qap hv;omega
 have hat':at_<n:=by omega
 have Hn:=Lib.hid hn;have Hv:=Lib.hid hv;clear hn hv hat;go_enter func131,ntmps131;go_wp2_with fail;refine(qul _ qa _ h).mono ?_;rintro e w1 ⟨gv,rfl,hg1,hG⟩;obtain⟨B,R,G,hR0,hR⟩:=hG Hv.out;clear hG;rw[Hv.out];have hsz:=hg1.size;have hz:(R 0).2=range n:=by rw[hR 0,Hn.out];exact q0d (Nat.le_refl _)
 rw[<-Hn.out]at G;obtain⟨Ag,cg,hgv,-⟩:=G.form (a:=0) (by omega);rw[hz,length_range]at hgv;obtain⟨gg,rfl,c0⟩:=G.at0 hgv hz hat';rw[hR0]at hgv;subst hgv;obtain⟨Au,cu,hu,hcu⟩:=G.form (a:=2*at_+2) (by omega);have c1:=(G.blk at_ hat').cell 2;have hm:=G.len (2*at_+2);have Hl:Hid ((R (2*at_+2)).2=qxl qa (2*at_+2)):=hR _;have hu2:(R (2*at_+2)).1=.slice Au (R (2*at_+2)).2.length cu:=hu;have c1':w1.cell? ⟨B at_,2,none⟩=some (.slice Au (R (2*at_+2)).2.length cu):=by rw[c1,hu2];rfl
 have Hu:Hid ((R (2*at_+2)).1=.slice Au (R (2*at_+2)).2.length cu):=hu;have qbQ:Hid (∀j∈(R (2*at_+2)).2,j<n):=G.mem (2*at_+2) (by omega);clear hu hu2 hcu c1 hR0 hR hz;generalize hLL:(R (2*at_+2)).2=LL at *;have HLL:=Lib.hid hLL;clear hLL;go_wp2_with fail;refine(qgk A n c at_ _ (b:=true) (by simp;omega)).mono ?_;rintro e w2 ⟨rfl,rfl⟩;go_wp2_with fail
 go_loopw [7,31] (λs i wr=>∃k:Nat,k<=LL.length/\i=.int .i64 k/\qg wr w.heap.size s ((LL.take k).map (λj:Nat=>(j:Int)))/\Gr wr w.heap.size n B R/\w.grownBy wr none) (λ_ i _=>LL.length-(intOf i).toNat)
 case atStart=>exact⟨0,Nat.zero_le _,rfl,qg.nil _ _,G,hg1⟩
 case round=>
  clear G hg1;obtain⟨k,hk,rfl,ho,G,hg⟩:=hrel;by_cases hlt:k<LL.length
  . obtain⟨Au',cu',hu',qfA⟩:=G.form (a:=2*at_+2) (by omega);obtain rfl:Au=Au':=by rw[Hu.out]at hu';injection hu'
    rw[HLL.out]at qfA;obtain⟨g,rfl,hcs⟩:=qfA (by omega);obtain⟨x,hx⟩:∃x,LL[k]?=some x:=⟨_,getElem?_eq_getElem hlt⟩;have hxn:=qbQ.out x (mem_of_getElem? hx);have d0:=hcs k x hx;have d1:wr.cell? ⟨B x,0,none⟩=some (.int .i64 (x:Nat)):=(G.blk x hxn).cell 0;have Hx:=Lib.hid hx;have Hcs:=Lib.hid hcs;have hlen:((LL.take k).map (λj:Nat=>(j:Int))).length<=1000:=by simp;omega
    clear hx hcs hu' qfA;go_wp2_with (at_builtin;go_must (refine qc3 (.tmp 35) (.tmp 40) rfl rfl ho (by omega) hg.size rfl rfl ?_));intro v' w5 qX hg5;obtain⟨A5,n5,c5,rfl⟩:=qX.ri.val;have G5:=G.grown hg5 (ho.jL (by decide)) (ho.jL (by decide));have hg6:=ho.gb hg hg5 (Nat.le_refl _)
    have vp:qg w5 w.heap.size (.slice A5 n5 c5) ((LL.take (k+1)).map (λj:Nat=>(j:Int))):=by
     obtain⟨hk',hx'⟩:=List.getElem?_eq_some_iff.1 Hx.out;rw[take_succ_eq_append_getElem hk',map_append,hx'];simpa[map_take]using qX
    go_wp2;go_roundw
    case rel=>exact⟨k+1,by omega,by go_num,vp,G5,hg6⟩
    case measure=>simp[intOf];omega
  . obtain rfl:k=LL.length:=by omega
    rw[take_of_length_le (Nat.le_refl _)]at ho;obtain⟨A5,n5,c5,rfl⟩:=ho.ri.val;go_wp2;go_ret;exact⟨_,rfl,by rw[<-Hl.out];exact ho,hg⟩
def qpa(f:Nat->Int)(n:Nat):Array Value:=#[.int .i64 (f 0),.int .i64 (f 1),.int .i64 (f 2),.int .i64 (f 3),.int .i64 (f 4),.int .i64 (f 5),.int .i64 (f 6),.int .i64 (f 7),.int .i64 (f 8),.int .i64 (f 9),.int .i64 n]
def TT(w:World)(tb:Nat)(f:Nat->Int)(n:Nat):Prop:=Blk w tb 184 (qpa f n)
theorem qxw(f:Nat->Int)(n:Nat){u:Nat}(hu:u<10):(qpa f n)[u]?=some (.int .i64 (f u)):=by
 rcases (show u=0∨u=1∨u=2∨u=3∨u=4∨u=5∨u=6∨u=7∨u=8∨u=9 by omega)with rfl|rfl|rfl|rfl|rfl|rfl|rfl|rfl|rfl|rfl<;>rfl
theorem q6b(f:Nat->Int)(n:Nat){u:Nat}(hu:u<10)(x:Int):(qpa f n).setIfInBounds u (.int .i64 x)=qpa (kF f u x) n:=by
 rcases (show u=0∨u=1∨u=2∨u=3∨u=4∨u=5∨u=6∨u=7∨u=8∨u=9 by omega)with rfl|rfl|rfl|rfl|rfl|rfl|rfl|rfl|rfl|rfl<;>rfl
section
variable {w w':World}{tb n:Nat}{f:Nat->Int}
theorem TT.cell(h:TT w tb f n){u:Nat}(hu:u<10):w.cell? ⟨tb,u,none⟩=some (.int .i64 (f u)):=by
 rw[<-qxw f n hu];exact Blk.cell h u
theorem TT.size(h:TT w tb f n):w.cell? ⟨tb,10,none⟩=some (.int .i64 n):=Blk.cell h 10
theorem TT.frozen(h:TT w tb f n)(u:Nat):w.frozen? ⟨tb,u,none⟩=false:=Blk.frozen h u
theorem TT.new(h:TT w tb f n)(hg:w.grownBy w' none):TT w' tb f n:=Blk.grown h hg (by simp)
theorem TT.put(h:TT w tb f n){u:Nat}(hu:u<10)(x:Int):TT (w.setCell ⟨tb,u,none⟩ (.int .i64 x)) tb (kF f u x) n:=by
 have:=Blk.jr h u (.int .i64 x);rw[q6b f n hu]at this;exact this
theorem TT.ne(h:TT w tb f n){E:TypeId}(hE:E≠184):qh w E (some tb):=qh.blk h hE
end
theorem qj8(v:Value)(qa:List Node)(w:World)(h:RN w v qa)(hv:qaf qa=true) :
   Calls prog 99 #[v] w λe w'=>∃tb,e=.returned (.pointer (some ⟨tb,0,none⟩))/\TT w' tb (qhb qa qa.length) qa.length/\w.heap.size<=tb/\w.grownBy w' none:=by
 obtain⟨A,n,c,rfl,-,hn,-⟩:=h.form';have vV:n<=10:=by have:=qap hv;omega
 have Hn:=Lib.hid hn;have Hv:=Lib.hid hv;clear hn hv;go_enter func99,ntmps99;go_upto_region 2 with fail
 have T0:TT (w.alloc (.cells #[.int .i64 0,.int .i64 0,.int .i64 0,.int .i64 0,.int .i64 0,.int .i64 0,.int .i64 0,.int .i64 0,.int .i64 0,.int .i64 0,.int .i64 n] 184)) w.heap.size (qhb qa 0) n:=by
  rw[q5v];exact Blk.new _ _ _
 have hg0:=grownBy_alloc w (.cells #[.int .i64 0,.int .i64 0,.int .i64 0,.int .i64 0,.int .i64 0,.int .i64 0,.int .i64 0,.int .i64 0,.int .i64 0,.int .i64 0,.int .i64 n] 184) none;have h0:=h.new hg0;generalize w.alloc (.cells #[.int .i64 0,.int .i64 0,.int .i64 0,.int .i64 0,.int .i64 0,.int .i64 0,.int .i64 0,.int .i64 0,.int .i64 0,.int .i64 0,.int .i64 n] 184)=wA at T0 hg0 h0 |-;clear h;go_wp2_with fail
 go_loopg [13] (n+1) (λmm i wr=>∃k:Nat,k<=n/\mm=n+1-k/\i=.int .i64 k/\TT wr w.heap.size (qhb qa k) n/\RN wr (.slice A n c) qa/\w.grownBy wr none)
 case atStart=>exact⟨0,Nat.zero_le _,rfl,rfl,T0,h0,hg0⟩
 case round=>
  clear T0 h0 hg0;obtain⟨k,hk,rfl,rfl,T,h,hg⟩:=hrel;by_cases hlt:k<n
  . go_wp2_with fail;refine(qsa _ qa k wr h Hv.out (by rw[<-Hn.out];exact hlt)).mono ?_;rintro e w2 ⟨uv,rfl,hu,hg2⟩;rw[qr9 Hv.out]at hu;have T2:=T.new hg2;have h2:=h.new hg2;have g2:=qad hg hg2;obtain⟨Au,m,cu,rfl,-,hm⟩:=hu.ri.form';have hm':m=(qcq qa k).length:=by rw[hm,length_map]
    have qbW:m<=10:=by have:=q2w qa k;have:=Hn.out;omega
    have Hm:=Lib.hid hm';have hu2:=hu.ri;clear T h hg hg2 hu hm hm';go_wp2_with fail
    go_loopg [20] (m+1) (λmm i wx=>∃t:Nat,t<=m/\mm=m+1-t/\i=.int .i64 t/\TT wx w.heap.size (qhv qa k t) n/\RN wx (.slice A n c) qa/\RI wx (.slice Au m cu) ((qcq qa k).map (λj:Nat=>(j:Int)))/\w.grownBy wx none)
    case atStart=>exact⟨0,Nat.zero_le _,rfl,rfl,by rw[qt9];exact T2,h2,hu2,g2⟩
    case round=>
     clear T2 h2 g2 hu2;obtain⟨t,ht,rfl,rfl,T,h,hr,hg⟩:=hrel;by_cases qfB:t<m
     . obtain⟨gu,ou,x,rfl,hx,c0⟩:=hr.at_ qfB;rw[getElem?_map]at hx;obtain⟨u,hu,rfl⟩:=map_eq_some_iff.1 hx
       have hun:u<10:=by
        have:=(qhx.1 (mem_of_getElem? hu)).1;have:=Hn.out;omega
       have T3:=T.put hun (qhv qa k t u+1);rw[<-q2q hu]at T3;have hz:=T.cell hun;have hzf:=T.frozen u;have hb:=qz2 Hv.out k t u;have hst:wr.grownBy (wr.setCell ⟨w.heap.size,u,none⟩ (.int .i64 (qhv qa k t u+1))) (some w.heap.size):=qbf (qah _ _) (.inr rfl) _;have h3:=h.grown hst (T.ne (by decide)) (T.ne (by decide));have hr3:=hr.grown hst (T.ne (by decide));have g3:=qbd hg hst (λg e=>by cases e;exact .inl (Nat.le_refl _));generalize qhv qa k t u=y at hz hb T3 h3 hr3 g3 hst;clear T h hr hg hst hx hu;go_wp2_with fail
       go_region
       all_goals
        go_wp2;go_roundg (m+1-(t+1))
        case measure=>omega
        case rel=>exact⟨t+1,by omega,rfl,by go_num,T3,h3,hr3,by first|exact g3|exact qay g3⟩
     . obtain rfl:m=t:=by omega
       have T3:TT wr w.heap.size (qhb qa (k+1)) n:=by
        rw[<-q5w Hv.out (Nat.le_of_eq Hm.out.symm)];exact T
       clear T;go_wp2;go_roundg (n+1-(k+1))
       case measure=>omega
       case rel=>exact⟨k+1,by omega,rfl,by go_num,T3,h,hg⟩
  . obtain rfl:n=k:=by omega
    go_wp2;go_ret;exact⟨_,rfl,by rw[<-Hn.out];exact T,Nat.le_refl _,hg⟩
def qfw(w:World)(l:List Int)(e:Ending)(w':World):Prop:=∃v',e=.returned v'/\qg w' w.heap.size v' l/\w.grownBy w' none
theorem qg.made{w:World}{base n:Nat}{v:Value}(h:w.ownsRow base 3 1 v n (madeCells #[int .i64 0] n).toList):qg w base v (replicate n 0):=by
 unfold qg
 have e:(madeCells #[int .i64 0] n).toList=(replicate n (0:Int)).map (.int .i64):=by
  apply ext_getElem?;intro j;by_cases hj:j<n
  . simp[madeCells,hj,Nat.mod_one]
  . simp[madeCells,hj]
 rw[length_replicate,<-e];exact h
theorem qg.jN{w w':World}{base:Nat}{v:Value}{l:List Int}{row:Option Nat}(h:qg w base v l)(hg:w.grownBy w' row)(hr:v.ownBlock=none∨v.ownBlock≠row):qg w' base v l:=ownsRow.kept h hg hr
theorem qg.cell{w:World}{base g n c:Nat}{l:List Int}(h:qg w base (.slice (some ⟨g,0,none⟩) n c) l){k:Nat}{x:Int}(hx:l[k]?=some x):w.cell? ⟨g,k,none⟩=some (.int .i64 x)/\w.frozen? ⟨g,k,none⟩=false/\base<=g/\∃cs,Blk w g 3 cs:=by
 obtain⟨g',cap',cur,he,_,hbg,hbk,hcs⟩:=h.form (by have:=(List.getElem?_eq_some_iff.1 hx).1;omega);obtain rfl:g=g':=q21 he;exact⟨hcs k x hx,hbk.frozen k,hbg,cur,hbk⟩
theorem qer{ops:Array Oper}{o:Oper}{a:Act}{K:Act->World->Prop}{Q:Exit->Act->World->Prop}{E:Prop}{w:World}
   (s x:Operand) (hgd:o.guard=none) (ho:o.op=.call {callee:=.builtin .append,args:=#[s,x],argTypes:=#[24,24]})
   {base:Nat} {v xv:Value} {l0 l:List Int} (hown:qg w base v l0) (hxv:RI w xv l) (hn:l0.length+l.length<=1000000000) (hbase:base<=w.heap.size)
   (hs:a.eval s=v) (hx:a.eval x=xv)
   (h:∀v' w',qg w' base v' (l0++l)->w.grownBy w' v.ownBlock->K (a.put o.dst v') w') :
   if Region.wanted o (yielded ops a.tmps)=true then Oper.wp prog o a w K Q else E:=by
 have hw:Region.wanted o (yielded ops a.tmps)=true:=by simp[Region.wanted,hgd]
 rw[if_pos hw];obtain⟨i,hi,hz0,hz1,hz2⟩:=info_parts qok;obtain⟨A,c,e,hc,hcm,hcn⟩:=TS.form hxv;subst e
 match A,hcn with
 |none,hcn=>
  obtain rfl:=hcn rfl;have hl0:l=[]:=eq_nil_of_length_eq_zero (by omega);subst hl0;have hrun:=run_append_owned_none (P:=prog) (w:=w) base 24 o.type 3 i 1 underlying24 hi v _ _ hown;unfold Oper.wp;simp[execOp,ho,resolve,invoke,builtin,hs,hx,hrun,Result.andThen];rw[append_nil]at h;exact h _ _ hown (qah _ _)
 |some ad,hcn=>
  refine wp_append_own _ s x 24 ho base 3 i _ 1 8 underlying24 hi hz0 hz1 hz2 rfl (by decide) v _ _ hs hown ad l.length c (l.map (.int .i64)) hx (by rw[length_map,Nat.mul_one]) ?_ (qjh l) ?_ ?_ hbase ?_
  . intro j u hj;have hjl:=(List.getElem?_eq_some_iff.1 hj).1;rw[length_map]at hjl;obtain⟨g,o',cur,e,_,hcell⟩:=TS.at_ hxv (by omega);have e2:ad=⟨g,o',none⟩:=Option.some.inj e;rw[e2,Addr.add_lit];exact hcell j u hj
  . unfold maxLen;omega
  . omega
  . intro v' w' h1 h2 _;refine h v' w' ?_ h2;unfold qg;simpa using h1
theorem qtF{ops:Array Oper}{o:Oper}{a:Act}{K:Act->World->Prop}{Q:Exit->Act->World->Prop}{E:Prop}{w:World}{l:List Int}{f:Value}
   (s x:Operand) (hgd:o.guard=none) (ho:o.op=.call {callee:=.builtin .append,args:=#[s,x],argTypes:=#[27,27]})
   {base:Nat} {v:Value} {ll:List (List Int)} (hown:j9 w base v ll) (hf:RI w f l) (hn:ll.length<=1000000000) (hbase:base<=w.heap.size)
   (hs:a.eval s=v) (hx:a.eval x=.slice (some ⟨w.heap.size,0,none⟩) 1 1)
   (h:∀v' w',j9 w' base v' (ll++[l])->w.grownBy w' v.ownBlock->K (a.put o.dst v') w') :
   if Region.wanted o (yielded ops a.tmps)=true then Oper.wp prog o a (w.alloc (.cells #[f] 24)) K Q else E:=by
 have hw:Region.wanted o (yielded ops a.tmps)=true:=by simp[Region.wanted,hgd]
 rw[if_pos hw];obtain⟨i,hi,hz0,hz1,hz2⟩:=info_parts qox;obtain⟨xs,ho1,ho2⟩:=hown;have hxl:xs.length=ll.length:=by have:=ho1.1;omega
 refine wp_append_own _ s x 27 ho base 24 i _ 1 24 underlying27 hi hz0 hz1 hz2 rfl (by decide) v ll.length _ hs (ownsRow.alloc ho1 _) ⟨w.heap.size,0,none⟩ 1 1 [f] hx rfl ?_ ?_ ?_ ?_ ?_ ?_
 . intro j u' hj
   match j,hj with
   |0,hj=>simp at hj;subst hj;simp[Addr.add]
 . intro u' hu;simp only[mem_cons,not_mem_nil,or_false]at hu;subst hu;exact hf.vk
 . unfold maxLen;omega
 . omega
 . simp;omega
 . intro v' w' ho' hg _;have h2:w.grownBy w' v.ownBlock:=⟨hg.os,hg.tape,hg.output,Nat.le_trans (by simp) hg.size,λk hk hne=>(hg.block k (by simp;omega) hne).trans (Below.heap_alloc w _ k hk)⟩;refine h v' w' ⟨_,by simpa using ho',?_⟩ h2;intro i' l' hi';have hne:qh w 3 v.ownBlock:=qh.own ho1 (by decide);by_cases hl:i'<ll.length
   . rw[getElem?_append_left hl]at hi';obtain⟨u,k1,k2⟩:=ho2 i' l' hi';exact⟨u,by rw[getElem?_append_left (by omega)];exact k1,k2.grown h2 hne⟩
   . rw[getElem?_append_right (by omega)]at hi'
     have h0:i'-ll.length=0:=by
      rcases Nat.eq_zero_or_pos (i'-ll.length)with h|h
      . exact h
      . rw[getElem?_eq_none (by simp;omega)]at hi';cases hi'
     rw[h0]at hi';obtain rfl:l=l':=by simpa using hi'
     exact⟨f,by rw[getElem?_append_right (by omega),show i'-xs.length=0 by omega];rfl,hf.grown h2 hne⟩
theorem qld{ops:Array Oper}{o:Oper}{a:Act}{K:Act->World->Prop}{Q:Exit->Act->World->Prop}{E:Prop}{w:World}{l:List Int}{f:Value}
   (s x:Operand) (hgd:o.guard=none) (ho:o.op=.call {callee:=.builtin .append,args:=#[s,x],argTypes:=#[27,27]})
   {base:Nat} {v:Value} {ll:List (List Int)} {xs:List Value} (hown:LX w base v ll xs) (hf:qg w base f l) (hn:ll.length<=1000000000) (hbase:base<=w.heap.size)
   (hs:a.eval s=v) (hx:a.eval x=.slice (some ⟨w.heap.size,0,none⟩) 1 1)
   (h:∀v' w',LX w' base v' (ll++[l]) (xs++[f])->w.grownBy w' v.ownBlock->K (a.put o.dst v') w') :
   if Region.wanted o (yielded ops a.tmps)=true then Oper.wp prog o a (w.alloc (.cells #[f] 24)) K Q else E:=by
 have hw:Region.wanted o (yielded ops a.tmps)=true:=by simp[Region.wanted,hgd]
 rw[if_pos hw];obtain⟨i,hi,hz0,hz1,hz2⟩:=info_parts qox;obtain⟨ho1,ho2⟩:=hown;have hxl:xs.length=ll.length:=by have:=ho1.1;omega
 refine wp_append_own _ s x 27 ho base 24 i _ 1 24 underlying27 hi hz0 hz1 hz2 rfl (by decide) v ll.length _ hs (ownsRow.alloc ho1 _) ⟨w.heap.size,0,none⟩ 1 1 [f] hx rfl ?_ ?_ ?_ ?_ ?_ ?_
 . intro j u' hj
   match j,hj with
   |0,hj=>simp at hj;subst hj;simp[Addr.add]
 . intro u' hu;simp only[mem_cons,not_mem_nil,or_false]at hu;subst hu;exact hf.ri.vk
 . unfold maxLen;omega
 . omega
 . simp;omega
 . intro v' w' ho' hg _;have h2:w.grownBy w' v.ownBlock:=⟨hg.os,hg.tape,hg.output,Nat.le_trans (by simp) hg.size,λk hk hne=>(hg.block k (by simp;omega) hne).trans (Below.heap_alloc w _ k hk)⟩;refine h v' w' ⟨by simpa using ho',?_⟩ h2;intro i' l' hi';have hne:qh w 3 v.ownBlock:=qh.own ho1 (by decide);by_cases hl:i'<ll.length
   . rw[getElem?_append_left hl]at hi';obtain⟨u,k1,k2⟩:=ho2 i' l' hi';exact⟨u,by rw[getElem?_append_left (by omega)];exact k1,k2.grown h2 hne⟩
   . rw[getElem?_append_right (by omega)]at hi'
     have h0:i'-ll.length=0:=by
      rcases Nat.eq_zero_or_pos (i'-ll.length)with h|h
      . exact h
      . rw[getElem?_eq_none (by simp;omega)]at hi';cases hi'
     rw[h0]at hi';obtain rfl:l=l':=by simpa using hi'
     exact⟨f,by rw[getElem?_append_right (by omega),show i'-xs.length=0 by omega];rfl,hf.grown h2 hne⟩
theorem q0f{w:World}{g base:Nat}{xv:Value}{l:List Int}(ty:TypeId)(hB:Blk w g 3 #[])(hbg:base<=g)(hx:RI w xv l)(hn:l.length<=1000000000) :
   ∃v' w',(Builtin.append_ #[24,24] ty #[.slice (some ⟨g,0,none⟩) 0 0,xv]).run prog w=.ok v' w'/\qg w' base v' l/\w.grownBy w' none:=by
 obtain⟨i,hi,hz0,hz1,hz2⟩:=info_parts qok;have hE:qg w base (.slice (some ⟨g,0,none⟩) 0 0) []:=⟨rfl,.inr ⟨g,0,#[],rfl,hbg,hB,Nat.le_refl _,by unfold maxLen;omega,rfl,rfl⟩⟩;obtain⟨A,c,e,hc,hcm,hcn⟩:=TS.form hx;subst e
 match A,hcn with
 |none,hcn=>
  obtain rfl:=hcn rfl;have hl0:l=[]:=eq_nil_of_length_eq_zero (by omega);subst hl0;exact⟨_,w,run_append_owned_none (P:=prog) (w:=w) base 24 ty 3 i 1 underlying24 hi _ _ _ hE,hE,qah _ _⟩
 |some ad,hcn=>
  by_cases h0:l.length=0
  . have hl0:l=[]:=eq_nil_of_length_eq_zero h0;subst hl0;refine⟨.slice (some ⟨g,0,none⟩) 0 0,w,?_,hE,qah _ _⟩;simp[Builtin.append_,run_underlying underlying24,sizeOf,typeInfo,hi,Builtin.lenOf,Builtin.firstCells,loadCells,loadCellsFrom,storeCells]
  . have hnews:∀ j u,(l.map (int .i64))[j]?=some u->w.cell? (ad.add j)=some u:=by
     intro j u hj;obtain⟨g',o',cur,e,_,hcell⟩:=TS.at_ hx (by omega);have e2:ad=⟨g',o',none⟩:=Option.some.inj e;rw[e2,Addr.add_lit];exact hcell j u hj
    have hr:=run_append_grow (P:=prog) (w:=w) 24 ty 3 i _ underlying24 hi hz0 ⟨g,0,none⟩ 0 0 [] (by simp) (λj v h=>by simp at h) ad l.length c (l.map (int .i64)) (by rw[hz1,length_map,Nat.mul_one]) hnews (by omega) (by omega)
     (growslice_fits (by omega) (by rw[hz2];omega))
    obtain⟨v',w',hr2,h2,h3,_⟩:=run_append_own (P:=prog) w base 24 ty 3 i _ 1 8 underlying24 hi hz0 hz1 hz2 rfl (by decide) _ 0 [] hE ad l.length c (l.map (int .i64)) (by rw[length_map,Nat.mul_one]) hnews (qjh l) (by unfold maxLen;omega) (by omega) (by have:=hB.lt;omega);refine⟨v',w',hr2,?_,?_⟩
    . unfold qg;simpa using h2
    . rw[hr2]at hr;injection hr with _ hw;rw[hw];exact qar (qay (qah w none)) _
def vg(ops:Array Oper)(j:Nat):Nat:=((ops[j]?).bind (λo=>o.dst)).getD 0
def qum(ops:Array Oper)(j i:Nat):Bool:=((ops[j]?).map λo=>o.after.any λe=>Region.binds .any e&&e.on==i).getD false
def qg5(ops:Array Oper)(n m:Nat):Bool:=
 ((range n).all λj=>((ops[j]?).map λo=>o.guard.isNone&&o.dst.isSome).getD false&&decide (vg ops j<m)&&(range j).all λi=>!decide (vg ops i=vg ops j)) &&
 ((range ops.size).all λt=>(decide (t<n)||(range t).all λi=>qum ops t i)&&((ops[t]?).map λo=>o.after.all λe=>decide (e.on<t)).getD false)&&decide (n<=ops.size)
def qun(ops:Array Oper)(vs:List Value)(a:Act)(k:Nat):Act:=(range k).foldl (λa j=>a.put (some (vg ops j)) (vs.getD j undef)) a
def qhP(ops:Array Oper)(n:Nat)(a0 a:Act):Prop:=a.tmps.size=a0.tmps.size/\a.defers=a0.defers/\∀t,(∀j,j<n->vg ops j≠t)->a.tmps[t]?=a0.tmps[t]?
theorem qt0{a:Act}{t:Nat}{v:Value}(h:a.tmps[t]?=some v):a.eval (.tmp t)=v:=by
 unfold Act.eval;simp only;rw[Array.getD_eq_getD_getElem?,h];rfl
structure xI(ops:Array Oper)(n:Nat)(F:Nat->World->Value->Prop)(a0:Act)(w0:World)(listed:Array Bool)(a:Act)(w:World):Prop where
 sz:listed.size=ops.size
 g:w0.grownBy w none
 ts:a.tmps.size=a0.tmps.size
 df:a.defers=a0.defers
 oth:∀t,(∀j,j<n->listed.getD j false=true->vg ops j≠t)->a.tmps[t]?=a0.tmps[t]?
 val:∀j,j<n->listed.getD j false=true->∃v,a.tmps[vg ops j]?=some v/\F j w v
 rest:∀j,n<=j->j<ops.size->listed.getD j true=false
section
variable {P:Program}{ops:Array Oper}{Q:Exit->Act->World->Prop}{n:Nat}{F:Nat->World->Value->Prop}{a0:Act}{w0:World}
theorem quo{m:Nat}(h:qg5 ops n m=true){j:Nat}(hj:j<n):∃o,ops[j]?=some o/\o.guard=none/\o.dst=some (vg ops j)/\vg ops j<m:=by
 unfold qg5 at h;simp only[Bool.and_eq_true,List.all_eq_true,mem_range,decide_eq_true_eq]at h;obtain⟨⟨h1,h2⟩,h3⟩:=h;have:=(h1 j hj).1;cases ho:ops[j]? with
 |none=>rw[ho]at this;simp at this
 |some o=>
  rw[ho]at this;simp only[map_some,Option.getD_some,Bool.and_eq_true]at this;obtain⟨⟨k1,k2⟩,k3⟩:=this;refine⟨o,rfl,by simpa using k1,?_,k3⟩;unfold vg;rw[ho];cases hd:o.dst with
  |none=>rw[hd]at k2;cases k2
  |some d=>simp[hd]
theorem qsb{m:Nat}(h:qg5 ops n m=true){i j:Nat}(hj:j<n)(hi:i<n)(hne:i≠j):vg ops i≠vg ops j:=by
 unfold qg5 at h;simp only[Bool.and_eq_true,List.all_eq_true,mem_range,decide_eq_true_eq]at h;obtain⟨⟨h1,h2⟩,h3⟩:=h;rcases Nat.lt_or_gt_of_ne hne with hlt|hlt
 . have:=(h1 j hj).2 i hlt;simpa using this
 . have:=(h1 i hi).2 j hlt;intro e;simp[e]at this
theorem qup{m:Nat}(h:qg5 ops n m=true){t i:Nat}(ht:n<=t)(hts:t<ops.size)(hi:i<t):qum ops t i=true:=by
 unfold qg5 at h;simp only[Bool.and_eq_true,List.all_eq_true,mem_range,decide_eq_true_eq,Bool.or_eq_true]at h;rcases (h.1.2 t hts).1 with h|h
 . omega
 . exact h i hi
theorem q0e{m:Nat}(h:qg5 ops n m=true):n<=ops.size:=by
 unfold qg5 at h;simp only[Bool.and_eq_true,decide_eq_true_eq]at h;exact h.2
theorem q23{m:Nat}(h:qg5 ops n m=true){t:Nat}(hts:t<ops.size){o:Oper}(ho:ops[t]?=some o):∀e∈o.after,e.on<t:=by
 unfold qg5 at h;simp only[Bool.and_eq_true,List.all_eq_true,mem_range,decide_eq_true_eq,Bool.or_eq_true]at h;have:=(h.1.2 t hts).2;rw[ho]at this;simp only[map_some,Option.getD_some]at this;intro e he;have:=Array.all_eq_true_iff_forall_mem.1 this e he;simpa using this
theorem qxp{m:Nat}(hc:qg5 ops n m=true){listed:Array Bool}(hsz:listed.size=ops.size){t:Nat}(hts:t<ops.size)(hall:∀i,i<t->listed.getD i false=true)(hf:listed.getD t false=false):t∈Region.ready .any ops listed:=by
 unfold Region.ready;simp only[mem_filter,mem_range,Bool.and_eq_true,Bool.not_eq_true'];have ho:ops[t]?=some ops[t]:=Array.getElem?_eq_getElem hts;refine⟨hts,?_,?_⟩
 . rw[Array.getD_eq_getD_getElem?,Array.getElem?_eq_getElem (by omega)]at hf |-;exact hf
 . rw[ho];simp only[map_some,Option.getD_some];rw[Array.all_eq_true_iff_forall_mem];intro e he;rw[hall _ (q23 hc hts ho e he),Bool.or_true]
theorem qji{listed:Array Bool}{t i:Nat}(hr:t∈Region.ready .any ops listed)(hb:qum ops t i=true):listed.getD i false=true:=by
 obtain⟨h1,h2,h3⟩:t<ops.size/\listed.getD t true=false/\((ops[t]?).map (·.after.all λe=>!Region.binds .any e||listed.getD e.on false)).getD false=true:=by
  unfold Region.ready at hr;simp only[mem_filter,mem_range,Bool.and_eq_true,Bool.not_eq_true']at hr;exact⟨hr.1,hr.2.1,hr.2.2⟩
 unfold qum at hb;cases ho:ops[t]? with
 |none=>rw[ho]at hb;cases hb
 |some o=>
  rw[ho]at hb h3;simp only[map_some,Option.getD_some]at hb h3;obtain⟨e,he,hb⟩:=Array.any_eq_true'.1 hb;simp only[Bool.and_eq_true,beq_iff_eq]at hb;have:=Array.all_eq_true_iff_forall_mem.1 h3 e he;rw[hb.1,hb.2]at this;simpa using this
theorem qgl{listed:Array Bool}{t:Nat}(hr:t∈Region.ready .any ops listed):t<ops.size/\listed.getD t true=false:=by
 unfold Region.ready at hr;simp only[mem_filter,mem_range,Bool.and_eq_true,Bool.not_eq_true']at hr;exact⟨hr.1,hr.2.1⟩
theorem qq6{listed:Array Bool}{t:Nat}(h:t<listed.size):listed.getD t true=listed.getD t false:=by
 rw[Array.getD_eq_getD_getElem?,Array.getD_eq_getD_getElem?,Array.getElem?_eq_getElem h];rfl
theorem qla{listed:Array Bool}{i:Nat}(hi:i<listed.size)(j:Nat):(listed.setIfInBounds i true).getD j false=(decide (j=i)||listed.getD j false):=by
 rw[Array.getD_eq_getD_getElem?,Array.getD_eq_getD_getElem?,Array.getElem?_setIfInBounds];by_cases e:i=j
 . subst e;simp[hi]
 . have:¬j=i:=λh=>e h.symm;simp[e,this]
theorem qxq{m:Nat}(hc:qg5 ops n m=true):∀(fuel t:Nat) (listed:Array Bool) (a:Act) (w:World),n<=t->t<=ops.size->listed.size=ops.size->(∀j,j<ops.size->listed.getD j false=decide (j<t))->ops.size-t<=fuel ->
   wpOps P ops Q (range' t (ops.size-t)) a w->wpAny P .any ops Q fuel listed a w:=by
 intro fuel
 induction fuel with
 |zero=>
  intro t listed a w h1 h2 h3 h4 h5 h6;obtain rfl:t=ops.size:=by omega
  have hr:Region.ready .any ops listed=[]:=by
   rw[eq_nil_iff_forall_not_mem];intro j hj;obtain⟨k1,k2⟩:=qgl hj;rw[qq6 (by omega),h4 j k1]at k2;simp at k2;omega
  refine⟨hr,?_⟩;rw[Nat.sub_self]at h6;exact h6
 |succ fuel ih=>
  intro t listed a w h1 h2 h3 h4 h5 h6
  have hone:∀j∈Region.ready .any ops listed,j=t:=by
   intro j hj;obtain⟨k1,k2⟩:=qgl hj;rw[qq6 (by omega),h4 j k1]at k2;have hge:t<=j:=by simpa using k2
   rcases Nat.eq_or_lt_of_le hge with e|e
   . exact e.symm
   . have:=qji hj (qup hc (by omega) k1 e);rw[h4 t (by omega)]at this;simp at this
  by_cases ht:t=ops.size
  . subst ht;refine⟨λ_=>by rw[Nat.sub_self]at h6;exact h6,λi hi=>?_⟩;have:=hone i hi;have:=(qgl hi).1;omega
  . have hlt:t<ops.size:=by omega
    have qfC:ops.size-t=(ops.size-(t+1))+1:=by omega
    rw[qfC,range'_succ,wpOps_cons]at h6
    have hnext:∀a w,wpOps P ops Q (range' (t+1) (ops.size-(t+1))) a w->wpAny P .any ops Q fuel (listed.setIfInBounds t true) a w:=by
     intro a w h;refine ih (t+1) _ a w (by omega) (by omega) (by simpa using h3) (λj hj=>?_) (by omega) h;rw[qla (by omega),h4 j hj,Bool.eq_iff_iff];simp only[Bool.or_eq_true,decide_eq_true_eq];omega
    refine⟨λhr=>?_,λi hi=>?_⟩
    . exfalso;have hmem:t∈Region.ready .any ops listed:=qxp hc h3 hlt (λi hi=>by rw[h4 i (by omega)];simpa using hi) (by rw[h4 t hlt];simp);rw[hr]at hmem;cases hmem
    . obtain rfl:=hone i hi;exact wpOp_mono hnext h6
theorem qq7{a:Act}{d t:Nat}{v:Value}(hd:d<a.tmps.size):(a.put (some d) v).tmps[t]?=if d=t then some v else a.tmps[t]?:=by
 unfold Act.put;simp only;rw[Array.getElem?_setIfInBounds];by_cases e:d=t
 . subst e;simp[hd]
 . simp[e]
def gOp(P:Program)(ops:Array Oper)(Q:Exit->Act->World->Prop)(n:Nat)(F:Nat->World->Value->Prop)(a0:Act)(w0:World)(j:Nat):Prop:=
 ∀(o:Oper) (a:Act) (w:World) (K:Act->World->Prop),ops[j]?=some o->w0.grownBy w none->qhP ops n a0 a->(∀i,i<n->qum ops j i=true->∃v,a.tmps[vg ops i]?=some v/\F i w v) ->
  (∀v w',w.grownBy w' none->F j w' v->K (a.put o.dst v) w')->o.wp P a w K Q
theorem xI.step{m:Nat}(hc:qg5 ops n m=true)(hm:a0.tmps.size=m)(hF:∀j w w' v,F j w v->w.grownBy w' none->F j w' v){listed:Array Bool}{a:Act}{w w':World}{v:Value}{j:Nat}
   (h:xI ops n F a0 w0 listed a w) (hj:j<n) (hg:w.grownBy w' none) (hv:F j w' v):xI ops n F a0 w0 (listed.setIfInBounds j true) (a.put (some (vg ops j)) v) w':=by
 obtain⟨o,ho,_,_,hlt⟩:=quo hc hj;have hjs:j<ops.size:=(Array.getElem?_eq_some_iff.1 ho).1;have hd:vg ops j<a.tmps.size:=by rw[h.ts];omega
 refine⟨by simpa using h.sz,qad h.g hg,by unfold Act.put;simpa using h.ts,h.df,λt ht=>?_,λi hi hl=>?_,λi hi his=>?_⟩
 . rw[qq7 hd,if_neg (ht j hj (by rw[qla (by rw[h.sz];exact hjs)];simp))];exact h.oth t (λi hi hl=>ht i hi (by rw[qla (by rw[h.sz];exact hjs),hl,Bool.or_true]))
 . by_cases e:i=j
   . subst e;exact⟨v,by rw[qq7 hd,if_pos rfl],hv⟩
   . rw[qla (by rw[h.sz];exact hjs)]at hl;have hl':listed.getD i false=true:=by simpa[e]using hl
     obtain⟨u,k1,k2⟩:=h.val i hi hl';exact⟨u,by rw[qq7 hd,if_neg (qsb hc hi hj (λe'=>e e'.symm))];exact k1,hF i w w' u k2 hg⟩
 . have:=h.rest i hi his;rw[qq6 (by simp;rw[h.sz];exact his),qla (by rw[h.sz];exact hjs)];rw[qq6 (by rw[h.sz];exact his)]at this;rw[this];simp;omega
theorem q54{m:Nat}(hc:qg5 ops n m=true)(hm:a0.tmps.size=m)(hF:∀j w w' v,F j w v->w.grownBy w' none->F j w' v)(hop:∀j,j<n->gOp P ops Q n F a0 w0 j)
   (hrest:∀a w,xI ops n F a0 w0 (Array.ofFn (n:=ops.size) λj=>decide (j.val<n)) a w->wpOps P ops Q (range' n (ops.size-n)) a w) :
   ∀(fuel:Nat) (listed:Array Bool) (a:Act) (w:World),xI ops n F a0 w0 listed a w->ops.size-(listed.toList.countP id)<=fuel->wpAny P .any ops Q fuel listed a w:=by
 have hle:=q0e hc
 have hfull:∀(listed:Array Bool) (a:Act) (w:World),xI ops n F a0 w0 listed a w->(∀j,j<n->listed.getD j false=true)->listed=Array.ofFn (n:=ops.size) λj=>decide (j.val<n):=by
  intro listed a w h hall;apply Array.ext
  . rw[h.sz];simp
  . intro i hi hi2;rw[h.sz]at hi;rw[Array.getElem_ofFn];by_cases e:i<n
    . have:=hall i e;rw[Array.getD_eq_getD_getElem?,Array.getElem?_eq_getElem (by rw[h.sz];exact hi)]at this;simpa[e]using this
    . have:=h.rest i (by omega) hi;rw[Array.getD_eq_getD_getElem?,Array.getElem?_eq_getElem (by rw[h.sz];exact hi)]at this;simpa[e]using this
 have qbX:∀j,j<ops.size->(Array.ofFn (n:=ops.size) λj=>decide (j.val<n)).getD j false=decide (j<n):=by
  intro j hj;rw[Array.getD_eq_getD_getElem?,Array.getElem?_eq_getElem (by simpa using hj),Array.getElem_ofFn];rfl
 intro fuel
 induction fuel with
 |zero=>
  intro listed a w h hf
  have qbY:listed.toList.countP id=listed.toList.length:=by
   have:=countP_le_length (p:=id) (l:=listed.toList);have hs:=h.sz;rw[Array.length_toList]at this |-;omega
  have hall:∀j,j<n->listed.getD j false=true:=by
   intro j hj;rw[countP_eq_length]at qbY;have hjl:j<listed.size:=by rw[h.sz];omega
   have:=qbY listed[j] (by simp);rw[Array.getD_eq_getD_getElem?,Array.getElem?_eq_getElem hjl];exact this
  have e:=hfull listed a w h hall;rw[e]at h |-;by_cases hn:n=ops.size
  . refine qxq hc 0 n _ a w (Nat.le_refl _) hle (by simp) qbX (by omega) (hrest a w h)
  . exfalso;rw[e]at qbY;rw[countP_eq_length]at qbY;have hlt:n<(Array.ofFn (n:=ops.size) λj=>decide (j.val<n)).size:=by simp;omega
    have:=qbY (Array.ofFn (n:=ops.size) λj=>decide (j.val<n))[n] (by simp;exact⟨⟨n,by omega⟩,Nat.le_refl _⟩);rw[Array.getElem_ofFn]at this;simp at this
 |succ fuel ih=>
  intro listed a w h hf;by_cases hall:∀j,j<n->listed.getD j false=true
  . have e:=hfull listed a w h hall;rw[e]at h |-;refine qxq hc (fuel+1) n _ a w (Nat.le_refl _) hle (by simp) qbX ?_ (hrest a w h);rw[e]at hf
    have hcn:(Array.ofFn (n:=ops.size) λj=>decide (j.val<n)).toList.countP id<=n:=by
     have h1:(Array.ofFn (n:=ops.size) λj=>decide (j.val<n)).toList=(range ops.size).map λj=>decide (j<n):=by
      apply ext_getElem
      . simp
      . intro i h1 h2;simp
     rw[h1,countP_map]
     have h2:∀k,(range k).countP (id∘λj=>decide (j<n))<=n:=by
      intro k
      induction k with
      |zero=>simp
      |succ k ihk=>
       rw[range_succ,countP_append,countP_singleton];by_cases hk:k<n
       . have:(range k).countP (id ∘ fun j=>decide (j < n))<=k:=by
          refine Nat.le_trans countP_le_length ?_;simp
         split<;>omega
       . have:¬((id∘λj=>decide (j<n)) k=true):=by simp;omega
         rw[if_neg this];omega
     exact h2 _
    omega
  . have hne:∃ j,j < n/\listed.getD j false=false:=by
     apply Classical.byContradiction;intro hno;apply hall;intro j hj;rcases Bool.eq_false_or_eq_true (listed.getD j false)with k|k
     . exact k
     . exact absurd ⟨j,hj,k⟩ hno
    refine⟨λhr=>?_,λi hi=>?_⟩
    . exfalso
      have qdI:∀k,(∃j,j<k/\j<n/\listed.getD j false=false)->∃j,j<n/\listed.getD j false=false/\∀i,i<j->listed.getD i false=true:=by
       intro k
       induction k with
       |zero=>rintro⟨j,hj,_⟩;omega
       |succ k ihk=>
        rintro⟨j,hj,hjn,hjf⟩;by_cases hex:∃j,j<k/\j<n/\listed.getD j false=false
        . exact ihk hex
        . have hjk:j=k:=by
           apply Classical.byContradiction;intro hne';exact hex ⟨j,by omega,hjn,hjf⟩
          subst hjk;refine⟨j,hjn,hjf,λi hi=>?_⟩;rcases Bool.eq_false_or_eq_true (listed.getD i false)with q|q
          . exact q
          . exact absurd ⟨i,hi,by omega,q⟩ hex
      obtain⟨j,hj,hjf⟩:=hne;obtain⟨t,ht,htf,hta⟩:=qdI n ⟨j,hj,hj,hjf⟩;have:=qxp hc h.sz (by omega) hta htf;rw[hr]at this;cases this
    . obtain⟨his,hif⟩:=qgl hi
      have hin:i<n:=by
       apply Classical.byContradiction;intro hge;obtain⟨j,hj,hjf⟩:=hne;have:=qji hi (qup hc (by omega) his (i:=j) (by omega));rw[hjf]at this;cases this
      obtain⟨o,ho,hgd,qmI,hdl⟩:=quo hc hin;have hsame:qhP ops n a0 a:=⟨h.ts,h.df,λt ht=>h.oth t (λj hj _=>ht j hj)⟩
      have hw:=hop i hin o a w (wpAny P .any ops Q fuel (listed.setIfInBounds i true)) ho h.g hsame (λj hj hb=>h.val j hj (qji hi hb)) (λv w' hg hv=>by
       rw[qmI];refine ih _ _ _ (h.step hc hm hF hin hg hv) ?_;have hil:i<listed.size:=by rw[h.sz];exact his
       have hcount:(listed.setIfInBounds i true).toList.countP id=listed.toList.countP id+1:=by
        have hfi:listed.toList[i]=false:=by
         have:=hif;rw[qq6 hil,Array.getD_eq_getD_getElem?,Array.getElem?_eq_getElem hil]at this;simpa using this
        rw[Array.toList_setIfInBounds,countP_set (by simpa using hil),hfi];simp
       omega)
      unfold wpOp;rw[ho];simp only;rw[if_pos (by simp[Region.wanted,hgd])];exact .inl hw
theorem q55(vs:List Value)(a:Act)(k:Nat):qun ops vs a (k+1)=(qun ops vs a k).put (some (vg ops k)) (vs.getD k undef):=by
 unfold qun;rw[range_succ,foldl_append];rfl
theorem q56{m:Nat}(hc:qg5 ops n m=true)(hm:a0.tmps.size=m)(vs:List Value):∀k,k<=n->(qun ops vs a0 k).tmps.size=m/\(qun ops vs a0 k).defers=a0.defers/\(∀t,(∀j,j<k->vg ops j≠t)->(qun ops vs a0 k).tmps[t]?=a0.tmps[t]?) /\
   ∀j,j<k->(qun ops vs a0 k).tmps[vg ops j]?=some (vs.getD j undef):=by
 intro k
 induction k with
 |zero=>intro _;exact⟨hm,rfl,λ_ _=>rfl,λj hj=>absurd hj (Nat.not_lt_zero _)⟩
 |succ k ih=>
  intro hk;obtain⟨h1,h2,h3,h4⟩:=ih (by omega);obtain⟨o,ho,_,_,hlt⟩:=quo hc (show k<n by omega);have hd:vg ops k<(qun ops vs a0 k).tmps.size:=by rw[h1];exact hlt
  rw[q55];refine⟨by unfold Act.put;simpa using h1,h2,λt ht=>?_,λj hj=>?_⟩
  . rw[qq7 hd,if_neg (ht k (by omega))];exact h3 t (λj hj=>ht j (by omega))
  . by_cases e:j=k
    . subst e;rw[qq7 hd,if_pos rfl]
    . rw[qq7 hd,if_neg (qsb hc (by omega) (by omega) (λe'=>e e'.symm))];exact h4 j (by omega)
theorem qmJ{a b:Act}(h1:a.tmps=b.tmps)(h2:a.defers=b.defers):a=b:=by
 cases a;cases b;simp only at h1 h2;subst h1 h2;rfl
theorem qwx{id m:Nat}{w00:World}(hmx:P.follows .mixedOrders=true)(hc:qg5 ops n m=true)(hm:a0.tmps.size=m)(hF:∀j w w' v,F j w v->w.grownBy w' none->F j w' v)
   (hop:∀j,j<n->gOp P ops Q n F a0 w00.drew j)
   (hrest:∀vs:List Value,vs.length=n->∀w,w00.drew.grownBy w none->(∀j,j<n->F j w (vs.getD j undef))->wpList P ops Q (ops.toList.drop n) (qun ops vs a0 n) w) :
   (Code.region id ops true).wp P Q a0 w00:=by
 have hle:=q0e hc;refine wp_region_any hmx (q54 (F:=F) (w0:=w00.drew) hc hm hF hop ?_ ops.size _ a0 _ ?_ (by omega))
 . intro a w h
   have hget:∀j,j<n->(Array.ofFn (n:=ops.size) λj=>decide (j.val<n)).getD j false=true:=by
    intro j hj;rw[Array.getD_eq_getD_getElem?,Array.getElem?_eq_getElem (by simp;omega),Array.getElem_ofFn];simpa using hj
   have e1:wpOps P ops Q (range' n (ops.size-n))=wpList P ops Q (ops.toList.drop n):=by
    have:=wpOps_eq_wpList (P:=P) (ops:=ops) (Q:=Q) (ops.toList.drop n) n (λj=>by rw[getElem?_drop,Array.getElem?_toList]);rw[length_drop,Array.length_toList]at this;exact this
   rw[e1]
   have hea:a=qun ops ((range n).map λj=>(a.tmps[vg ops j]?).getD undef) a0 n:=by
    obtain⟨k1,k2,k3,k4⟩:=q56 hc hm ((range n).map λj=>(a.tmps[vg ops j]?).getD undef) n (Nat.le_refl _);refine qmJ ?_ (h.df.trans k2.symm);apply Array.ext_getElem?;intro t;by_cases ht:∃j,j<n/\vg ops j=t
    . obtain⟨j,hj,rfl⟩:=ht;obtain⟨v,q1,_⟩:=h.val j hj (hget j hj);rw[k4 j hj,q1,getD_eq_getElem?_getD,getElem?_map,getElem?_range hj];simp[q1]
    . have hno:∀j,j<n->vg ops j≠t:=λj hj e=>ht ⟨j,hj,e⟩;rw[k3 t hno];exact h.oth t (λj hj _=>hno j hj)
   rw[hea];refine hrest _ (by simp) w h.g (λj hj=>?_);obtain⟨v,q1,q2⟩:=h.val j hj (hget j hj);rw[getD_eq_getElem?_getD,getElem?_map,getElem?_range hj];simp only[map_some,Option.getD_some,q1];exact q2
 . have yZ:∀ j,(Array.replicate ops.size false).getD j false=false:=by
    intro j;rw[Array.getD_eq_getD_getElem?,Array.getElem?_replicate];split<;>rfl
   refine⟨by simp,qah _ _,rfl,rfl,λ_ _=>rfl,λj hj hl=>?_,λj _ hj=>?_⟩
   . rw[yZ]at hl;cases hl
   . rw[qq6 (by simpa using hj)];exact yZ j
variable {o:Oper}{a:Act}{w:World}{K:Act->World->Prop}
theorem qlb{v:Value}(hr:(execOp a.eval o).run P w=.ok (.value v) w)(h:K (a.put o.dst v) w):o.wp P a w K Q:=by
 unfold Oper.wp;rw[hr];exact h
theorem qlc{v:Value}{w':World}(hr:(execOp a.eval o).run P w=.ok (.value v) w')(h:K (a.put o.dst v) w'):o.wp P a w K Q:=by
 unfold Oper.wp;rw[hr];exact h
end
def marks(f:Nat->Bool):Array Value:=#[.bool (f 0),.bool (f 1),.bool (f 2),.bool (f 3),.bool (f 4),.bool (f 5),.bool (f 6),.bool (f 7),.bool (f 8),.bool (f 9)]
theorem q9r(f:Nat->Bool){k:Nat}(h:k<10):(marks f)[k]?=some (.bool (f k)):=by
 rcases (show k=0∨k=1∨k=2∨k=3∨k=4∨k=5∨k=6∨k=7∨k=8∨k=9 by omega)with rfl|rfl|rfl|rfl|rfl|rfl|rfl|rfl|rfl|rfl
 all_goals rfl
def q30(f:Nat->Bool)(k:Nat):Nat->Bool:=λi=>decide (i=k)||f i
theorem q12(f:Nat->Bool){k:Nat}(h:k<10):(marks f).setIfInBounds k (.bool true)=marks (q30 f k):=by
 rcases (show k=0∨k=1∨k=2∨k=3∨k=4∨k=5∨k=6∨k=7∨k=8∨k=9 by omega)with rfl|rfl|rfl|rfl|rfl|rfl|rfl|rfl|rfl|rfl
 all_goals rfl
def MK(w:World)(gb:Nat)(f:Nat->Bool):Prop:=Blk w gb 78 (marks f)
theorem MK.cell{w:World}{gb:Nat}{f:Nat->Bool}(h:MK w gb f){k:Nat}(hk:k<10):w.cell? ⟨gb,k,none⟩=some (.bool (f k)):=(Blk.cell h k).trans (q9r f hk)
theorem qqp(v:Value)(l:List Int)(gb:Nat)(f:Nat->Bool)(w:World)(h:RI w v l)(hm:MK w gb f)(hin:∀x∈l,0<=x/\x<10){b:Bool}(hb:l.all (λx=>f x.toNat)=b) :
   Calls prog 81 #[v,.pointer (some ⟨gb,0,none⟩)] w λe w'=>e=.returned (.bool b)/\w=w':=by
 obtain⟨A,n,c,rfl,-,hn⟩:=h.form';have hle:=h.le;rw[<-hn]at hle;have Hn:=Lib.hid hn;have Hb:=Lib.hid hb;have Hin:=Lib.hid hin;clear hn hb hin;go_enter func81,ntmps81;go_wp2_with fail
 go_loopg [9] (n+1) (λm i wx=>∃k:Nat,k<=n/\m=n+1-k/\i=.int .i64 k/\Hid ((l.take k).all (λx=>f x.toNat)=true)/\wx=w)
 case atStart=>exact⟨0,Nat.zero_le _,rfl,rfl,rfl,rfl⟩
 case round=>
  obtain⟨k,hk,rfl,rfl,qV,hw⟩:=hrel;subst hw;by_cases hlt:k<n
  . obtain⟨g,o,x,rfl,hx,c0⟩:=h.at_ hlt;have hxb:=Hin.out x (mem_of_getElem? hx);obtain⟨q,rfl⟩:=Int.eq_ofNat_of_zero_le hxb.1;have hq:q<10:=by omega
    have c1:=hm.cell hq;have Hx:=Lib.hid hx;clear hx hxb;by_cases hf:f q=true
    . have qfD:Hid ((l.take (k+1)).all (fun x=>f x.toNat)=true):=by
       show _=_;rw[qg7 _ Hx.out,qV.out,Int.toNat_natCast,hf];rfl
      rw[hf]at c1;clear hf;go_wp2;go_roundg (n+1-(k+1))
      case measure=>omega
      case rel=>exact⟨k+1,by omega,rfl,by go_num,qfD,rfl⟩
    . have hf':f q=false:=by simpa using hf
      have Hr:Hid (b=false):=by
       show b=false;rw[<-Hb.out,List.all_eq_false];exact⟨_,mem_of_getElem? Hx.out,by simpa using hf'⟩
      rw[hf']at c1;clear hf hf';go_wp2;go_ret;exact⟨by rw[Hr.out];rfl,rfl⟩
  . obtain rfl:k=n:=by omega
    have Hr:Hid (b=true):=by
     show b=true;rw[<-Hb.out];have:=qV.out;rw[take_of_length_le (by rw[<-Hn.out];exact Nat.le_refl _)]at this;exact this
    go_wp2;go_ret;exact⟨by rw[Hr.out];rfl,rfl⟩
def qdb(n:Nat)(l:List Int)(i:Nat):Bool:=decide (i<n)&&decide ((i:Int)∈l)
theorem qwg(n:Nat){l:List Int}{k:Nat}{x:Int}(h:l[k]?=some x):qdb n (l.take (k+1))=if 0<=x/\x<n then q30 (qdb n (l.take k)) x.toNat else qdb n (l.take k):=by
 obtain⟨hk,rfl⟩:=List.getElem?_eq_some_iff.1 h;funext i
 have e:((i:Int)∈l.take (k+1))↔(i:Int)∈l.take k∨(i:Int)=l[k]:=by
  rw[take_succ_eq_append_getElem hk,mem_append,mem_singleton]
 split
 . rename_i hx;unfold qdb q30;rw[Bool.eq_iff_iff];simp only[Bool.and_eq_true,Bool.or_eq_true,decide_eq_true_eq,e];constructor
   . rintro⟨h1,h2|h2⟩
     . exact .inr ⟨h1,h2⟩
     . left;omega
   . rintro(h1|⟨h1,h2⟩)
     . exact⟨by omega,.inr (by omega)⟩
     . exact⟨h1,.inl h2⟩
 . rename_i hx;unfold qdb;rw[Bool.eq_iff_iff];simp only[Bool.and_eq_true,decide_eq_true_eq,e];constructor
   . rintro⟨h1,h2|h2⟩
     . exact⟨h1,h2⟩
     . exfalso;omega
   . rintro⟨h1,h2⟩;exact⟨h1,.inl h2⟩
theorem q31(v dv:Value)(qa:List Node)(done:List Int)(w:World)(h:RN w v qa)(hd:RI w dv done)(hv:qaf qa=true) :
   Calls prog 84 #[v,dv] w (qfw w (qat qa done)):=by
 obtain⟨A,n,c,rfl,-,hn,-⟩:=h.form';have vV:n<=10:=by have:=qap hv;omega
 have Hn:=Lib.hid hn;have Hv:=Lib.hid hv;have hdl:=hd.le;obtain⟨Ad,m,cd,rfl,-,hm⟩:=hd.form';rw[<-hm]at hdl;have Hm:=Lib.hid hm;clear hn hv hm;go_enter func84,ntmps84;go_wp2_with fail;refine(qb8 _ qa _ h Hv.out).mono ?_;rintro e w1 ⟨rfl,hg1⟩;have hs1:=hg1.size
 have hM0:MK (w1.alloc (.cells #[.bool false,.bool false,.bool false,.bool false,.bool false,.bool false,.bool false,.bool false,.bool false,.bool false] 78)) w1.heap.size (qdb n (done.take 0)):=by
  have e:marks (qdb n (done.take 0))=#[.bool false,.bool false,.bool false,.bool false,.bool false,.bool false,.bool false,.bool false,.bool false,.bool false]:=by
   have:qdb n (done.take 0)=λ_=>false:=by
    funext i;simp[qdb]
   rw[this];rfl
  show Blk _ _ _ _;rw[e];exact Blk.new w1 _ _
 have hg2:w.grownBy (w1.alloc (.cells #[.bool false,.bool false,.bool false,.bool false,.bool false,.bool false,.bool false,.bool false,.bool false,.bool false] 78)) none:=qar hg1 _;go_wp2_with fail
 go_loopg [16] (m+1) (λmm i wr=>∃k:Nat,k<=m/\mm=m+1-k/\i=.int .i64 k/\Hid (MK wr w1.heap.size (qdb n (done.take k)))/\w.grownBy wr none)
 case atStart=>exact⟨0,Nat.zero_le _,rfl,rfl,hM0,hg2⟩
 case round=>
  clear hM0 hg2;obtain⟨k,hk,rfl,rfl,HM,hg⟩:=hrel;by_cases hlt:k<m
  . obtain⟨g,o,x,rfl,hx,c0⟩:=(hd.new hg).at_ hlt;have hsn:=qwg n hx;by_cases hxn:0<=x/\x<n
    . rw[if_pos hxn]at hsn;obtain⟨q,rfl⟩:=Int.eq_ofNat_of_zero_le hxn.1;have hq:q<n:=by omega
      have c1:=HM.out.cell (k:=q) (by omega);have f1:wr.frozen? ⟨w1.heap.size,q,none⟩=false:=Blk.frozen HM.out q
      have HM2:Hid (MK (wr.setCell ⟨w1.heap.size,q,none⟩ (.bool true)) w1.heap.size (qdb n (done.take (k+1)))):=by
       show Blk _ _ _ _;rw[hsn,Int.toNat_natCast,<-q12 _ (by omega)];exact Blk.jr HM.out q _
      have hg2:w.grownBy (wr.setCell ⟨w1.heap.size,q,none⟩ (.bool true)) none:=qbf (p:=⟨w1.heap.size,q,none⟩) hg (.inl hs1) _;clear hx hsn HM hxn;go_wp2_with fail;refine(qgk A n c q _ (b:=true) (by simp;omega)).mono ?_;rintro e w2 ⟨rfl,rfl⟩;go_wp2;go_roundg (m+1-(k+1))
      case measure=>omega
      case rel=>exact⟨k+1,by omega,rfl,by go_num,HM2,hg2⟩
    . rw[if_neg hxn]at hsn;rw[<-hsn]at HM
      have hbn:(decide (0<=x)&&decide (x<(n:Int)))=false:=by
       rw[Bool.and_eq_false_iff,decide_eq_false_iff_not,decide_eq_false_iff_not];omega
      have Hbn:=Lib.hid hbn;clear hx hsn hxn hbn;go_wp2_with fail;refine(qgk A n c x _ Hbn.out).mono ?_;rintro e w2 ⟨rfl,rfl⟩;go_wp2;go_roundg (m+1-(k+1))
      case measure=>omega
      case rel=>exact⟨k+1,by omega,rfl,by go_num,HM,hg⟩
  . obtain rfl:k=m:=by omega
    have HM2:Hid (MK wr w1.heap.size (qdb n done)):=by
     have:=HM.out;rw[take_of_length_le (by rw[<-Hm.out];exact Nat.le_refl _)]at this;exact this
    clear HM;obtain⟨wo,rfl⟩:∃wo:World,wo=wr:=⟨_,rfl⟩;go_wp2_with fail
    go_loopg [8,28] (n+1) (λmm r i wr=>∃t:Nat,t<=n/\mm=n+1-t/\i=.int .i64 t/\qg wr w.heap.size r (qc0 qa done t)/\Hid (MK wr w1.heap.size (qdb n done))/\w.grownBy wr none)
    case atStart=>exact⟨0,Nat.zero_le _,rfl,rfl,qg.nil _ _,HM2,hg⟩
    case round=>
     clear HM2 hg;obtain⟨t,ht,rfl,rfl,ho,HM,hg⟩:=hrel;obtain⟨Ar,nr,cr,rfl⟩:=ho.ri.val;have hrl:=qnu qa done t;by_cases htn:t<n
     . obtain⟨g,o,nd,f,r,rfl,hx,c0,c1,c2,hf,hr⟩:=(h.new hg).at_ htn;have hfit:=(qbk Hv.out hx).1;have c3:=HM.out.cell (k:=t) (by omega);obtain⟨Af,nf,cf,rfl⟩:=hf.val;obtain⟨Arr,nrr,crr,rfl⟩:=hr.val;have hin:qdb n done t=decide ((t:Int)∈done):=by simp[qdb,htn]
       rw[hin]at c3
       have hall:nd.frm.all (λx=>qdb n done x.toNat)=nd.frm.all (λx=>decide (x∈done)):=by
        rw[Bool.eq_iff_iff,List.all_eq_true,List.all_eq_true]
        have key:∀x∈nd.frm,qdb n done x.toNat=decide (x∈done):=by
         intro x hx';have:=qc6 hfit hx';unfold qdb;rw[Int.toNat_of_nonneg this.1,decide_eq_true (show x.toNat<n by omega),Bool.true_and]
        constructor
        . intro h1 x hx';rw[<-key x hx'];exact h1 x hx'
        . intro h1 x hx';rw[key x hx'];exact h1 x hx'
       have Hin:=Lib.hid (λx (hx':x∈nd.frm)=>(show 0<=x/\x<10 from by have:=qc6 hfit hx';omega));have hsn:=qfx done hx;have hrn:qeb done (nd,t)=(!decide ((t:Int)∈done)&&nd.frm.all (λx=>decide (x∈done))):=rfl;rw[hrn]at hsn;have Hsn:=Lib.hid hsn;have hgA:=grownBy_alloc wr (.cells #[.int .i64 nd.kind,.slice Af nf cf,.slice Arr nrr crr] 81) none;have HM2:Hid (MK (wr.alloc (.cells #[.int .i64 nd.kind,.slice Af nf cf,.slice Arr nrr crr] 81)) w1.heap.size (qdb n done)):=Blk.alloc HM.out _;have hoA:=ho.alloc (.cells #[.int .i64 nd.kind,.slice Af nf cf,.slice Arr nrr crr] 81);have hfA:=hf.alloc (.cells #[.int .i64 nd.kind,.slice Af nf cf,.slice Arr nrr crr] 81);have hgB:=qad hg hgA
       have c4:(wr.alloc (.cells #[.int .i64 nd.kind,.slice Af nf cf,.slice Arr nrr crr] 81)).cell? ⟨w1.heap.size,t,none⟩=some (.bool (decide ((t:Int)∈done))):=by
        have:=HM2.out.cell (k:=t) (by omega);rw[hin]at this;exact this
       clear hx hsn hrn hin hr hfit c3 HM ho hg hgA hf;by_cases hd0:(t:Int)∈done
       . rw[decide_eq_true hd0]at Hsn c4
         have qbZ:Hid (qc0 qa done (t+1)=qc0 qa done t):=by
          show _=_;rw[Hsn.out,Bool.not_true,Bool.false_and,if_neg (by simp)]
         clear hd0 Hsn;go_wp2;go_roundg (n+1-(t+1))
         case measure=>omega
         case rel=>exact⟨t+1,by omega,rfl,by go_num,by rw[qbZ.out];exact hoA,HM2,hgB⟩
       . rw[decide_eq_false hd0]at Hsn c4;clear hd0;by_cases ha:nd.frm.all (λx=>decide (x∈done))=true
         . have qbZ:Hid (qc0 qa done (t+1)=qc0 qa done t++[(t:Int)]):=by
            show _=_;rw[Hsn.out,Bool.not_false,Bool.true_and,if_pos ha]
           have Ha:=Lib.hid (hall.trans ha);clear ha Hsn hall;go_wp2_with fail;refine(qqp _ nd.frm w1.heap.size (qdb n done) _ hfA HM2.out Hin.out Ha.out).mono ?_;rintro e w2 ⟨rfl,rfl⟩;go_wp2_with (at_builtin;go_must (refine qek (.tmp 42) (.tmp 44) rfl rfl hoA (by omega) hgB.size rfl rfl (size_alloc ..).symm ?_));intro v' w4 qx hg4;have hg5:=hoA.gb hgB hg4 (Nat.le_refl _);have HM4:Hid (MK w4 w1.heap.size (qdb n done)):=Blk.grown HM2.out hg4 (λe=>hoA.jL (show 78≠3 by decide) _ e.symm _ HM2.out);rw[<-qbZ.out]at qx;go_wp2;go_roundg (n+1-(t+1))
           case measure=>omega
           case rel=>exact⟨t+1,by omega,rfl,by go_num,qx,HM4,hg5⟩
         . have ha':nd.frm.all (λx=>decide (x∈done))=false:=by simpa using ha
           have qbZ:Hid (qc0 qa done (t+1)=qc0 qa done t):=by
            show _=_;rw[Hsn.out,Bool.not_false,Bool.true_and,if_neg ha]
           have Ha:=Lib.hid (hall.trans ha');clear ha ha' Hsn hall;go_wp2_with fail;refine(qqp _ nd.frm w1.heap.size (qdb n done) _ hfA HM2.out Hin.out Ha.out).mono ?_;rintro e w2 ⟨rfl,rfl⟩;go_wp2;go_roundg (n+1-(t+1))
           case measure=>omega
           case rel=>exact⟨t+1,by omega,rfl,by go_num,by rw[qbZ.out];exact hoA,HM2,hgB⟩
     . obtain rfl:t=n:=by omega
       have ho2:qg wr w.heap.size (.slice Ar nr cr) (qat qa done):=by
        unfold qat;rw[if_pos Hv.out,<-Hn.out];exact ho
       clear ho;go_wp2;go_ret;exact⟨_,rfl,ho2,hg⟩
theorem qgu(k:Int)(w:World){b:Bool}(hb:(decide (1<=k)&&decide (k<=4))=b) :
   Calls prog 46 #[.int .i64 k] w λe w'=>e=.returned (.bool b)/\w=w':=by
 subst hb;by_cases h0:1<=k
 . by_cases h1:k<=4
   . rw[decide_eq_true h0,decide_eq_true h1];go_enter func46,ntmps46;go_wp2;go_ret;exact⟨rfl,rfl⟩
   . rw[decide_eq_true h0,decide_eq_false h1];go_enter func46,ntmps46;go_wp2;go_ret;exact⟨rfl,rfl⟩
 . rw[decide_eq_false h0];go_enter func46,ntmps46;go_wp2;go_ret;exact⟨by simp,rfl⟩
end
end Go.Proofs.YtacemdoejblgaaaGreatDoor

/- Part 21. Conditions: each statement's. -/
import Derived.Test.YtacemdoejblgaaaGreatDoorM20
import Derived.Test.YtacemdoejblgaaaGreatDoorM19
import Derived.BigRegion
import Derived.RegionTactic
import Derived.Orders
namespace Go.Proofs.YtacemdoejblgaaaGreatDoor
set_option maxHeartbeats 6400000
set_option maxRecDepth 100000
section
open Go.RowKit
theorem qra{qa:List Node}{D:List Int}{k:Nat}{x:Int}(h:D[k]?=some x)(hs:qe3 qa (D.take k) x=false):qbu qa D=false:=by
 obtain⟨hk,rfl⟩:=List.getElem?_eq_some_iff.1 h;rcases Bool.eq_false_or_eq_true (qbu qa D) with e | e
 . rw [qg9 e hk] at hs;cases hs
 . exact e
theorem q2c{qa:List Node}{D:List Int}{k:Nat}{x:Int}(h:D[k]?=some x)(ho:qc8 qa D k=true)(hs:qe3 qa (D.take k) x=true):qc8 qa D (k+1)=true:=by
 rw [qd0,ho,List.getD_eq_getElem?_getD,h];exact hs
theorem q2d(l:List Int)(x:Int):dedup (l++[x])=if x.toNat∈dedup l then dedup l else dedup l++[x.toNat]:=by
 unfold dedup;rw [List.foldl_append];rfl
theorem qul{l:List Int}(hl:∀ y∈l,0<=y){x:Int}(hx:0<=x):x.toNat∈dedup l↔x∈l:=by
 rw [qkz];constructor
 . rintro⟨f,hf,e⟩;have:=hl f hf;obtain rfl:f=x:=by omega
   exact hf
 . exact fun h=>⟨x,h,rfl⟩
theorem qwz(qa:List Node):qa6 qa=(List.range qa.length).map fun i=>((dedup (qfd qa i)).length:Int):=by
 unfold qa6;simp only [qgd]
theorem qjd(v v':Value)(qa:List Node)(order:List Int)(w:World)(h:RN w v qa)(h':RI w v' order)(hl:qa.length<=1000000000){b:Bool}(hb:qbu qa order=b) :
   Calls Tryz.prog 158 #[v,v'] w fun e w'=>e=.returned (.bool b)/\w.grownBy w' none:=by
 obtain⟨A,n,c,rfl,hnc,hn,-⟩:=h.form';obtain⟨B,m,c',rfl,hmc,hm⟩:=h'.form';have hle:=h'.le;rw [<-hm] at hle;have hn9:n<=1000000000:=by omega
 have Hn:=Lib.hid hn;have Hm:=Lib.hid hm;have Hb:=Lib.hid hb;clear hn hm hb hl;go_enter Tryz.func158,Tryz.ntmps158;go_wp2_with fail
 go_loopg [5] (m+1) (fun mm i wr=>∃ k:Nat,k<=m/\mm=m+1 - k/\i=.int .i64 k/\Hid (qc8 qa order k=true)/\w.grownBy wr none)
 case atStart=>exact⟨0,Nat.zero_le _,rfl,rfl,by show _=_;rfl,qag _ _⟩
 case round=>
   obtain⟨k,hk,rfl,rfl,Hk,hg⟩:=hrel;by_cases hlt:k < m
   . obtain⟨g,o,x,rfl,hx,c0⟩:=(h'.new hg).at_ hlt;have Hx:=Lib.hid hx;have ht:=(h'.new hg).take (k:=k) (by omega);have hkc:k<=c':=by omega
     clear hx;by_cases hin:0<=x/\x<=(n:Int) - 1
     . have Hin:Hid ((decide (0<=x) && decide (x<=(n:Int) - 1))=true):=by show _=_;simp [hin.1,hin.2]
       obtain⟨j,rfl⟩:=Int.eq_ofNat_of_zero_le hin.1;have hj:j < n:=by omega
       clear hin;obtain⟨g2,o2,nd,f,r,rfl,hnd,d0,d1,d2,hf,-⟩:=(h.new hg).at_ hj;have hfr:Hid (qfd qa j=nd.frm):=qdk hnd;clear hnd d0 d2;obtain⟨Af,nf,cf,rfl⟩:=hf.val;by_cases hD:(j:Int)∈order.take k
       . have HD:Hid (decide ((j:Int)∈order.take k)=true):=decide_eq_true hD
         have Hr:Hid (b=false):=by
           show _=_;rw [<-Hb.out];refine qra Hx.out ?_;unfold qe3;rw [decide_eq_true hD];simp
         clear hD Hk;go_wp2_with fail
         go_quiet ((first
           | (go_at_call 74;exact qct (qdl _ _ _ _ Hin.out))
           | (go_at_call 123;exact qct (qdq _ _ _ _ (by exact ht) HD.out))))
         go_wp2_with fail;go_ret;exact⟨by rw [Hr.out];rfl,qb8 hg _⟩
       . have HD:Hid (decide ((j:Int)∈order.take k)=false):=decide_eq_false hD;by_cases hall:(nd.frm.all fun y=>decide (y∈order.take k))=true
         . have q9:=Lib.hid hall
           have Hs:Hid (qc8 qa order (k+1)=true):=by
             refine q2c Hx.out Hk.out (qd8.2 ⟨Int.natCast_nonneg j,by rw [<-Hn.out];omega,hD,?_⟩);rw [Int.toNat_natCast,hfr.out];intro y hy;exact of_decide_eq_true (List.all_eq_true.1 hall y hy)
           clear hD hall Hk;go_wp2_with fail
           go_quiet ((first
             | (go_at_call 74;exact qct (qdl _ _ _ _ Hin.out))
             | (go_at_call 123;exact qct (qdq _ _ _ _ (by exact ht) HD.out))
             | (go_at_call 201;exact qct (quk _ _ _ nd.frm _ (by exact ht) (by exact hf) q9.out))))
           go_wp2_with fail;go_roundg (m+1 - (k+1))
           case measure=>omega
           case rel=>exact⟨k+1,by omega,rfl,by go_num,Hs,qb8 hg _⟩
         . have xD:(nd.frm.all fun y=>decide (y∈order.take k))=false:=by simpa using hall
           have q9:=Lib.hid xD
           have Hr:Hid (b=false):=by
             show _=_;rw [<-Hb.out];refine qra Hx.out ?_;unfold qe3;rw [Int.toNat_natCast,hfr.out,xD];simp
           clear hD hall xD Hk;go_wp2_with fail
           go_quiet ((first
             | (go_at_call 74;exact qct (qdl _ _ _ _ Hin.out))
             | (go_at_call 123;exact qct (qdq _ _ _ _ (by exact ht) HD.out))
             | (go_at_call 201;exact qct (quk _ _ _ nd.frm _ (by exact ht) (by exact hf) q9.out))))
           go_wp2_with fail;go_ret;exact⟨by rw [Hr.out];rfl,qb8 hg _⟩
     . have Hin:Hid ((decide (0<=x) && decide (x<=(n:Int) - 1))=false):=by
         show _=_;rw [Bool.and_eq_false_iff,decide_eq_false_iff_not,decide_eq_false_iff_not];omega
       have Hr:Hid (b=false):=by
         show _=_;rw [<-Hb.out];refine qra Hx.out ?_;rcases Bool.eq_false_or_eq_true (qe3 qa (order.take k) x) with e | e
         . obtain⟨h1,h2,_⟩:=qd8.1 e;rw [<-Hn.out] at h2;exact absurd ⟨h1,by omega⟩ hin
         . exact e
       clear hin Hk;go_wp2_with fail
       go_quiet ((first
         | (go_at_call 74;exact qct (qdl _ _ _ _ Hin.out))))
       go_wp2_with fail;go_ret;exact⟨by rw [Hr.out];rfl,qb8 hg _⟩
   . obtain rfl:k=m:=by omega
     have Hr:Hid (b=true):=by
       show _=_;rw [<-Hb.out];have:=Hk.out;rw [Hm.out] at this;exact this
     clear Hk;go_wp2_with fail;go_ret;exact⟨by rw [Hr.out];rfl,hg⟩
def j0(N:Nat)(L:Nat->List Nat):Nat:=((List.range N).map (fun i=>(L (2 * i+2)).length)).sum
theorem qih(N:Nat)(L:Nat->List Nat):j0 (N+1) L=j0 N L+(L (2 * N+2)).length:=by
 unfold j0;rw [List.range_succ,List.map_append,List.sum_append];simp
theorem qmh{N:Nat}{L L':Nat->List Nat}(h:∀ i,i < N->L' (2 * i+2)=L (2 * i+2)):j0 N L'=j0 N L:=by
 induction N with
 | zero=>rfl
 | succ N ih=>rw [qih,qih,ih (fun i hi=>h i (by omega)),h N (by omega)]
theorem q5v{N f:Nat}{L:Nat->List Nat}{x:List Nat}(hf:f < N)(hx:x.length=(L (2 * f+2)).length+1):j0 N (upd L (2 * f+2) x)=j0 N L+1:=by
 induction N with
 | zero=>omega
 | succ N ih=>
   rw [qih,qih];by_cases h:f=N
   . subst h;rw [upd_same,hx,qmh (fun i hi=>qar _ _ (by omega))];omega
   . rw [qar _ _ (by omega),ih (by omega)];omega
theorem qmi{N n f:Nat}(L:Nat->List Nat)(hf:f < N):j0 N (qex n f L)=j0 N L+(if f∈L (2 * n+1) then 0 else 1):=by
 unfold qex;split
 . rfl
 . rw [q5v hf (by rw [List.length_append,qar _ _ (by omega)];rfl),qmh (fun i hi=>qar _ _ (by omega))]
theorem q3c{n f a:Nat}(L:Nat->List Nat)(h1:a≠2 * n+1)(h2:a≠2 * f+2):qex n f L a=L a:=by
 unfold qex;split
 . rfl
 . rw [qar _ _ h2,qar _ _ h1]
theorem qx5{n a:Nat}{frm:List Int}(L:Nat->List Nat)(hf:∀ y∈frm,0<=y/\y < (n:Int))(h1:2 * n+1 < a):qcv n frm L a=L a:=by
 unfold qcv
 induction frm generalizing L with
 | nil=>rfl
 | cons x xs ih=>
   have hx:=hf x (by simp);rw [List.foldl_cons,ih _ (fun y hy=>hf y (by simp [hy])),q3c _ (by omega) (by omega)]
theorem qvg{qa:List Node}(hv:qae qa=true)(k:Nat):∀ a,2 * k+1<=a->qcz qa k a=[]:=by
 induction k with
 | zero=>intro a _;rfl
 | succ k ih=>
   intro a ha;cases h:qa[k]? with
   | none=>
     have hl:qa.length<=k:=by simpa using h
     have e:qcz qa (k+1)=qcz qa k:=by
       unfold qcz;rw [List.take_of_length_le (by simp;omega),List.take_of_length_le (by simp;omega)]
     rw [e];exact ih a (by omega)
   | some nd=>
     rw [qeu h];unfold qfg;rw [qar _ _ (by omega)];have hfit:=(qa4 hv h).1;rw [qx5 _ (fun y hy=>qcj hfit hy) (by omega)];exact ih a (by omega)
theorem qvh{N n:Nat}{frm:List Int}(L:Nat->List Nat)(hf:∀ y∈frm,0<=y/\y < (n:Int))(hn:n < N)(hl:frm.length<=2)(h0:L (2 * n+1)=[]) :
   j0 N L<=j0 N (qcv n frm L)/\j0 N (qcv n frm L) - j0 N L<=frm.length/\frm.length<=2 * (j0 N (qcv n frm L) - j0 N L):=by
 match frm,hl with
 | [],_=>simp [qcv]
 | [x],_=>
   have hx:=hf x (by simp);show j0 N L<=j0 N (qex n x.toNat L)/\_;have e:=qmi (n:=n) L (show x.toNat < N by omega);rw [h0] at e;simp only [List.not_mem_nil,if_false] at e;show _/\j0 N (qex n x.toNat L) - j0 N L<=_/\_<=2 * (j0 N (qex n x.toNat L) - j0 N L);simp only [List.length_cons,List.length_nil];omega
 | [x,y],_=>
   have hx:=hf x (by simp);have hy:=hf y (by simp);have e:=qmi (n:=n) L (show x.toNat < N by omega);have e2:=qmi (n:=n) (qex n x.toNat L) (show y.toNat < N by omega);rw [h0] at e;simp only [List.not_mem_nil,if_false] at e;show j0 N L<=j0 N (qex n y.toNat (qex n x.toNat L))/\j0 N (qex n y.toNat (qex n x.toNat L)) - j0 N L<=_/\_<=2 * (j0 N (qex n y.toNat (qex n x.toNat L)) - j0 N L);simp only [List.length_cons,List.length_nil];split at e2 <;> omega
theorem q66{qa:List Node}(hv:qae qa=true){k:Nat}(hk:k<=qa.length):(j0 qa.length (qcz qa k):Int)<=xe qa k/\xe qa k<=2 * j0 qa.length (qcz qa k):=by
 induction k with
 | zero=>
   have e:∀ N,j0 N (fun _=>[])=0:=by
     intro N
     induction N with
     | zero=>rfl
     | succ N ih=>rw [qih,ih];rfl
   show ((j0 qa.length (fun _=>[]):Nat):Int)<=xe qa 0/\xe qa 0<=2 * (j0 qa.length (fun _=>[]):Nat);rw [e];simp [xe]
 | succ k ih=>
   obtain⟨h1,h2⟩:=ih (by omega);obtain⟨nd,h⟩:∃ nd,qa[k]?=some nd:=⟨_,List.getElem?_eq_getElem (by omega)⟩;have hfit:=qa4 hv h;have e:=qvh (N:=qa.length) (n:=k) (qcz qa k) (fun y hy=>qcj hfit.1 hy) (by omega) hfit.2.1 (qvg hv k _ (by omega));rw [qeu h,q3b h];have e2:j0 qa.length (qfg (qcz qa k) (nd,k))=j0 qa.length (qcv k nd.frm (qcz qa k)):=qmh (fun i hi=>qar _ _ (by omega));rw [e2];omega
theorem qvi{qa:List Node}{k:Nat}(hk:k<=qa.length):qcz qa k 0=List.range k:=by
 induction k with
 | zero=>rfl
 | succ k ih=>
   obtain⟨nd,h⟩:∃ nd,qa[k]?=some nd:=⟨_,List.getElem?_eq_getElem (by omega)⟩;rw [qeu h];unfold qfg;rw [upd_same,qu5,ih (by omega),List.range_succ]
theorem qfa(A:Option Addr)(n c:Nat)(at_:Int)(w:World){b:Bool}(hb:(decide (0<=at_) && decide (at_ < n))=b) :
   Calls Tryz.prog 80 #[.slice A n c,.int .i64 at_] w fun e w'=>e=.returned (.bool b)/\w=w':=by
 subst hb;go_enter Tryz.func80,Tryz.ntmps80;by_cases h0:0<=at_
 . by_cases h1:at_ < n
   . go_wp2_with fail;go_ret;exact⟨by simp;omega,rfl⟩
   . go_wp2_with fail;go_ret;exact⟨by simp;omega,rfl⟩
 . go_wp2_with fail;go_ret;exact⟨by simp;omega,rfl⟩
def q5w(w:World)(l:List Int)(e:Ending)(w':World):Prop:=∃ v',e=.returned v'/\qf w' w.heap.size v' l/\w.grownBy w' none
theorem qng(v:Value)(qa:List Node)(at_:Nat)(w:World)(h:RN w v qa)(hv:qae qa=true)(hat:at_ < qa.length) :
   Calls Tryz.prog 131 #[v,.int .i64 at_] w (q5w w ((qsm qa (2 * at_+2)).map (fun j:Nat=>(j:Int)))):=by
 obtain⟨A,n,c,rfl,-,hn,-⟩:=h.form';have zC:n<=10:=by have:=qal hv;omega
 have hat':at_ < n:=by omega
 have Hn:=Lib.hid hn;have Hv:=Lib.hid hv;clear hn hv hat;go_enter Tryz.func131,Tryz.ntmps131;go_wp2_with fail;refine(qpn _ qa _ h).mono ?_;rintro e w1 ⟨gv,rfl,hg1,hG⟩;obtain⟨B,R,G,hR0,hR⟩:=hG Hv.out;clear hG;rw [Hv.out];have hsz:=hg1.size;have hz:(R 0).2=List.range n:=by rw [hR 0,Hn.out];exact qvi (Nat.le_refl _)
 rw [<-Hn.out] at G;obtain⟨Ag,cg,hgv,-⟩:=G.form (a:=0) (by omega);rw [hz,List.length_range] at hgv;obtain⟨gg,rfl,c0⟩:=G.at0 hgv hz hat';rw [hR0] at hgv;subst hgv;obtain⟨Au,cu,hu,hcu⟩:=G.form (a:=2 * at_+2) (by omega);have c1:=(G.blk at_ hat').cell 2;have hm:=G.len (2 * at_+2);have Hl:Hid ((R (2 * at_+2)).2=qsm qa (2 * at_+2)):=hR _;have hu2:(R (2 * at_+2)).1=.slice Au (R (2 * at_+2)).2.length cu:=hu;have c1':w1.cell? ⟨B at_,2,none⟩=some (.slice Au (R (2 * at_+2)).2.length cu):=by rw [c1,hu2];rfl
 have Hu:Hid ((R (2 * at_+2)).1=.slice Au (R (2 * at_+2)).2.length cu):=hu;have yJ:Hid (∀ j∈(R (2 * at_+2)).2,j < n):=G.mem (2 * at_+2) (by omega);clear hu hu2 hcu c1 hR0 hR hz;generalize hLL:(R (2 * at_+2)).2=LL at *;have HLL:=Lib.hid hLL;clear hLL;go_wp2_with fail;refine(qfa A n c at_ _ (b:=true) (by simp;omega)).mono ?_;rintro e w2 ⟨rfl,rfl⟩;go_wp2_with fail
 go_loopw [7,31] (fun s i wr=>∃ k:Nat,k<=LL.length/\i=.int .i64 k/\qf wr w.heap.size s ((LL.take k).map (fun j:Nat=>(j:Int)))/\Gr wr w.heap.size n B R/\w.grownBy wr none) (fun _ i _=>LL.length - (intOf i).toNat)
 case atStart=>exact⟨0,Nat.zero_le _,rfl,qf.nil _ _,G,hg1⟩
 case round=>
   clear G hg1;obtain⟨k,hk,rfl,ho,G,hg⟩:=hrel;by_cases hlt:k < LL.length
   . obtain⟨Au',cu',hu',qbB⟩:=G.form (a:=2 * at_+2) (by omega);obtain rfl:Au=Au':=by rw [Hu.out] at hu';injection hu'
     rw [HLL.out] at qbB;obtain⟨g,rfl,hcs⟩:=qbB (by omega);obtain⟨x,hx⟩:∃ x,LL[k]?=some x:=⟨_,List.getElem?_eq_getElem hlt⟩;have hxn:=yJ.out x (List.mem_of_getElem? hx);have d0:=hcs k x hx;have d1:wr.cell? ⟨B x,0,none⟩=some (.int .i64 (x:Nat)):=(G.blk x hxn).cell 0;have Hx:=Lib.hid hx;have Hcs:=Lib.hid hcs;have hlen:((LL.take k).map (fun j:Nat=>(j:Int))).length<=1000:=by simp;omega
     clear hx hcs hu' qbB;go_wp2_with (at_builtin;go_must (refine qcg (.tmp 35) (.tmp 40) rfl rfl ho (by omega) hg.size rfl rfl ?_));intro v' w5 qA hg5;obtain⟨A5,n5,c5,rfl⟩:=qA.ri.val;have G5:=G.grown hg5 (ho.qV (by decide)) (ho.qV (by decide));have hg6:=ho.gb hg hg5 (Nat.le_refl _)
     have jS:qf w5 w.heap.size (.slice A5 n5 c5) ((LL.take (k+1)).map (fun j:Nat=>(j:Int))):=by
       obtain⟨hk',hx'⟩:=List.getElem?_eq_some_iff.1 Hx.out;rw [List.take_succ_eq_append_getElem hk',List.map_append,hx'];simpa [List.map_take] using qA
     go_wp2_with fail;go_roundw
     case rel=>exact⟨k+1,by omega,by go_num,jS,G5,hg6⟩
     case measure=>simp [intOf];omega
   . obtain rfl:k=LL.length:=by omega
     rw [List.take_of_length_le (Nat.le_refl _)] at ho;obtain⟨A5,n5,c5,rfl⟩:=ho.ri.val;go_wp2_with fail;go_ret;exact⟨_,rfl,by rw [<-Hl.out];exact ho,hg⟩
def qlb(f:Nat->Int)(n:Nat):Array Value:=#[.int .i64 (f 0),.int .i64 (f 1),.int .i64 (f 2),.int .i64 (f 3),.int .i64 (f 4),.int .i64 (f 5),.int .i64 (f 6),.int .i64 (f 7),.int .i64 (f 8),.int .i64 (f 9),.int .i64 n]
def TT(w:World)(tb:Nat)(f:Nat->Int)(n:Nat):Prop:=Blk w tb 184 (qlb f n)
theorem qsx(f:Nat->Int)(n:Nat){u:Nat}(hu:u < 10):(qlb f n)[u]?=some (.int .i64 (f u)):=by
 rcases (show u=0∨u=1∨u=2∨u=3∨u=4∨u=5∨u=6∨u=7∨u=8∨u=9 by omega) with rfl | rfl | rfl | rfl | rfl | rfl | rfl | rfl | rfl | rfl <;> rfl
theorem q1g(f:Nat->Int)(n:Nat){u:Nat}(hu:u < 10)(x:Int):(qlb f n).setIfInBounds u (.int .i64 x)=qlb (xw f u x) n:=by
 rcases (show u=0∨u=1∨u=2∨u=3∨u=4∨u=5∨u=6∨u=7∨u=8∨u=9 by omega) with rfl | rfl | rfl | rfl | rfl | rfl | rfl | rfl | rfl | rfl <;> rfl
section
variable {w w':World}{tb n:Nat}{f:Nat->Int}
theorem TT.cell(h:TT w tb f n){u:Nat}(hu:u < 10):w.cell? ⟨tb,u,none⟩=some (.int .i64 (f u)):=by
 rw [<-qsx f n hu];exact Blk.cell h u
theorem TT.size(h:TT w tb f n):w.cell? ⟨tb,10,none⟩=some (.int .i64 n):=Blk.cell h 10
theorem TT.frozen(h:TT w tb f n)(u:Nat):w.frozen? ⟨tb,u,none⟩=false:=Blk.frozen h u
theorem TT.new(h:TT w tb f n)(hg:w.grownBy w' none):TT w' tb f n:=Blk.grown h hg (by simp)
theorem TT.put(h:TT w tb f n){u:Nat}(hu:u < 10)(x:Int):TT (w.setCell ⟨tb,u,none⟩ (.int .i64 x)) tb (xw f u x) n:=by
 have:=Blk.qC h u (.int .i64 x);rw [q1g f n hu] at this;exact this
theorem TT.ne(h:TT w tb f n){E:TypeId}(hE:E≠184):qg w E (some tb):=qg.blk h hE
end
theorem qh5(v:Value)(qa:List Node)(w:World)(h:RN w v qa)(hv:qae qa=true) :
   Calls Tryz.prog 99 #[v] w fun e w'=>∃ tb,e=.returned (.pointer (some ⟨tb,0,none⟩))/\TT w' tb (qf0 qa qa.length) qa.length/\w.heap.size<=tb/\w.grownBy w' none:=by
 obtain⟨A,n,c,rfl,-,hn,-⟩:=h.form';have zC:n<=10:=by have:=qal hv;omega
 have Hn:=Lib.hid hn;have Hv:=Lib.hid hv;clear hn hv;go_enter Tryz.func99,Tryz.ntmps99;go_upto_region 2 with fail
 have T0:TT (w.alloc (.cells #[.int .i64 0,.int .i64 0,.int .i64 0,.int .i64 0,.int .i64 0,.int .i64 0,.int .i64 0,.int .i64 0,.int .i64 0,.int .i64 0,.int .i64 n] 184)) w.heap.size (qf0 qa 0) n:=by
   rw [q00];exact Blk.new _ _ _
 have hg0:=World.grownBy_alloc w (.cells #[.int .i64 0,.int .i64 0,.int .i64 0,.int .i64 0,.int .i64 0,.int .i64 0,.int .i64 0,.int .i64 0,.int .i64 0,.int .i64 0,.int .i64 n] 184) none;have h0:=h.new hg0;generalize w.alloc (.cells #[.int .i64 0,.int .i64 0,.int .i64 0,.int .i64 0,.int .i64 0,.int .i64 0,.int .i64 0,.int .i64 0,.int .i64 0,.int .i64 0,.int .i64 n] 184)=wA at T0 hg0 h0 |-;clear h;go_wp2_with fail
 go_loopg [13] (n+1) (fun mm i wr=>∃ k:Nat,k<=n/\mm=n+1 - k/\i=.int .i64 k/\TT wr w.heap.size (qf0 qa k) n/\RN wr (.slice A n c) qa/\w.grownBy wr none)
 case atStart=>exact⟨0,Nat.zero_le _,rfl,rfl,T0,h0,hg0⟩
 case round=>
   clear T0 h0 hg0;obtain⟨k,hk,rfl,rfl,T,h,hg⟩:=hrel;by_cases hlt:k < n
   . go_wp2_with fail;refine(qng _ qa k wr h Hv.out (by rw [<-Hn.out];exact hlt)).mono ?_;rintro e w2 ⟨uv,rfl,hu,hg2⟩;rw [qnf Hv.out] at hu;have T2:=T.new hg2;have h2:=h.new hg2;have g2:=qac hg hg2;obtain⟨Au,m,cu,rfl,-,hm⟩:=hu.ri.form';have hm':m=(qb3 qa k).length:=by rw [hm,List.length_map]
     have yP:m<=10:=by have:=qxz qa k;have:=Hn.out;omega
     have Hm:=Lib.hid hm';have hu2:=hu.ri;clear T h hg hg2 hu hm hm';go_wp2_with fail
     go_loopg [20] (m+1) (fun mm i wx=>∃ t:Nat,t<=m/\mm=m+1 - t/\i=.int .i64 t/\TT wx w.heap.size (qgg qa k t) n/\RN wx (.slice A n c) qa/\RI wx (.slice Au m cu) ((qb3 qa k).map (fun j:Nat=>(j:Int)))/\w.grownBy wx none)
     case atStart=>exact⟨0,Nat.zero_le _,rfl,rfl,by rw [qpb];exact T2,h2,hu2,g2⟩
     case round=>
       clear T2 h2 g2 hu2;obtain⟨t,ht,rfl,rfl,T,h,hr,hg⟩:=hrel;by_cases qbC:t < m
       . obtain⟨gu,ou,x,rfl,hx,c0⟩:=hr.at_ qbC;rw [List.getElem?_map] at hx;obtain⟨u,hu,rfl⟩:=Option.map_eq_some_iff.1 hx
         have hun:u < 10:=by
           have:=(qgi.1 (List.mem_of_getElem? hu)).1;have:=Hn.out;omega
         have T3:=T.put hun (qgg qa k t u+1);rw [<-qxt hu] at T3;have hz:=T.cell hun;have hzf:=T.frozen u;have hb:=qu7 Hv.out k t u;have hst:wr.grownBy (wr.setCell ⟨w.heap.size,u,none⟩ (.int .i64 (qgg qa k t u+1))) (some w.heap.size):=qa2 (qag _ _) (.inr rfl) _;have h3:=h.grown hst (T.ne (by decide)) (T.ne (by decide));have hr3:=hr.grown hst (T.ne (by decide));have g3:=qa1 hg hst (fun g e=>by cases e;exact .inl (Nat.le_refl _));generalize qgg qa k t u=y at hz hb T3 h3 hr3 g3 hst;clear T h hr hg hst hx hu;go_wp2_with fail
         go_region
         all_goals
           go_wp2_with fail;go_roundg (m+1 - (t+1))
           case measure=>omega
           case rel=>exact⟨t+1,by omega,rfl,by go_num,T3,h3,hr3,by first | exact g3 | exact qax g3⟩
       . obtain rfl:m=t:=by omega
         have T3:TT wr w.heap.size (qf0 qa (k+1)) n:=by
           rw [<-q01 Hv.out (Nat.le_of_eq Hm.out.symm)];exact T
         clear T;go_wp2_with fail;go_roundg (n+1 - (k+1))
         case measure=>omega
         case rel=>exact⟨k+1,by omega,rfl,by go_num,T3,h,hg⟩
   . obtain rfl:n=k:=by omega
     go_wp2_with fail;go_ret;exact⟨_,rfl,by rw [<-Hn.out];exact T,Nat.le_refl _,hg⟩
def qes(w:World)(l:List Int)(e:Ending)(w':World):Prop:=∃ v',e=.returned v'/\qf w' w.heap.size v' l/\w.grownBy w' none
end
section
open Go.RowKit
end
section
open Go.RowKit
theorem qf.made{w:World}{base n:Nat}{v:Value}(h:w.ownsRow base 3 1 v n (madeCells #[Value.int .i64 0] n).toList):qf w base v (List.replicate n 0):=by
 unfold qf
 have e:(madeCells #[Value.int .i64 0] n).toList=(List.replicate n (0:Int)).map (.int .i64):=by
   apply List.ext_getElem?;intro j;by_cases hj:j < n
   . simp [madeCells,hj,Nat.mod_one]
   . simp [madeCells,hj]
 rw [List.length_replicate,<-e];exact h
theorem qf.qO{w w':World}{base:Nat}{v:Value}{l:List Int}{row:Option Nat}(h:qf w base v l)(hg:w.grownBy w' row)(hr:v.ownBlock=none∨v.ownBlock≠row):qf w' base v l:=World.ownsRow.kept h hg hr
theorem qf.cell{w:World}{base g n c:Nat}{l:List Int}(h:qf w base (.slice (some ⟨g,0,none⟩) n c) l){k:Nat}{x:Int}(hx:l[k]?=some x):w.cell? ⟨g,k,none⟩=some (.int .i64 x)/\w.frozen? ⟨g,k,none⟩=false/\base<=g/\∃ cs,Blk w g 3 cs:=by
 obtain⟨g',cap',cur,he,_,hbg,hbk,hcs⟩:=h.form (by have:=(List.getElem?_eq_some_iff.1 hx).1;omega);obtain rfl:g=g':=qx4 he;exact⟨hcs k x hx,hbk.frozen k,hbg,cur,hbk⟩
end
section
open Go.RowKit
end
section
open Go.RowKit
theorem qdt{ops:Array Oper}{o:Oper}{a:Act}{K:Act->World->Prop}{Q:Exit->Act->World->Prop}{E:Prop}{w:World}
   (s x:Operand) (hgd:o.guard=none) (ho:o.op=.call { callee:=.builtin .append,args:=#[s,x],argTypes:=#[24,24] })
   {base:Nat} {v xv:Value} {l0 l:List Int} (hown:qf w base v l0) (hxv:RI w xv l) (hn:l0.length+l.length<=1000000000) (hbase:base<=w.heap.size)
   (hs:a.eval s=v) (hx:a.eval x=xv)
   (h:∀ v' w',qf w' base v' (l0++l)->w.grownBy w' v.ownBlock->K (a.put o.dst v') w') :
   if Region.wanted o (yielded ops a.tmps)=true then Oper.wp Tryz.prog o a w K Q else E:=by
 have hw:Region.wanted o (yielded ops a.tmps)=true:=by simp [Region.wanted,hgd]
 rw [if_pos hw];obtain⟨i,hi,hz0,hz1,hz2⟩:=info_parts qkm;obtain⟨A,c,e,hc,hcm,hcn⟩:=TS.form hxv;subst e
 match A,hcn with
 | none,hcn=>
   obtain rfl:=hcn rfl;have hl0:l=[]:=List.eq_nil_of_length_eq_zero (by omega);subst hl0;have hrun:=run_append_owned_none (P:=Tryz.prog) (w:=w) base 24 o.type 3 i 1 Tryz.underlying24 hi v _ _ hown;unfold Oper.wp;simp [execOp,ho,resolve,invoke,builtin,hs,hx,hrun,Result.andThen];rw [List.append_nil] at h;exact h _ _ hown (qag _ _)
 | some ad,hcn=>
   refine wp_append_own _ s x 24 ho base 3 i _ 1 8 Tryz.underlying24 hi hz0 hz1 hz2 rfl (by decide) v _ _ hs hown ad l.length c (l.map (.int .i64)) hx (by rw [List.length_map,Nat.mul_one]) ?_ (qhl l) ?_ ?_ hbase ?_
   . intro j u hj;have hjl:=(List.getElem?_eq_some_iff.1 hj).1;rw [List.length_map] at hjl;obtain⟨g,o',cur,e,_,hcell⟩:=TS.at_ hxv (by omega);have e2:ad=⟨g,o',none⟩:=Option.some.inj e;rw [e2,Addr.add_lit];exact hcell j u hj
   . unfold maxLen;omega
   . omega
   . intro v' w' h1 h2 _;refine h v' w' ?_ h2;unfold qf;simpa using h1
theorem q5k{ops:Array Oper}{o:Oper}{a:Act}{K:Act->World->Prop}{Q:Exit->Act->World->Prop}{E:Prop}{w:World}{l:List Int}{f:Value}
   (s x:Operand) (hgd:o.guard=none) (ho:o.op=.call { callee:=.builtin .append,args:=#[s,x],argTypes:=#[27,27] })
   {base:Nat} {v:Value} {ll:List (List Int)} (hown:qM w base v ll) (hf:RI w f l) (hn:ll.length<=1000000000) (hbase:base<=w.heap.size)
   (hs:a.eval s=v) (hx:a.eval x=.slice (some ⟨w.heap.size,0,none⟩) 1 1)
   (h:∀ v' w',qM w' base v' (ll++[l])->w.grownBy w' v.ownBlock->K (a.put o.dst v') w') :
   if Region.wanted o (yielded ops a.tmps)=true then Oper.wp Tryz.prog o a (w.alloc (.cells #[f] 24)) K Q else E:=by
 have hw:Region.wanted o (yielded ops a.tmps)=true:=by simp [Region.wanted,hgd]
 rw [if_pos hw];obtain⟨i,hi,hz0,hz1,hz2⟩:=info_parts qnd;obtain⟨xs,ho1,ho2⟩:=hown;have hxl:xs.length=ll.length:=by have:=ho1.1;omega
 refine wp_append_own _ s x 27 ho base 24 i _ 1 24 Tryz.underlying27 hi hz0 hz1 hz2 rfl (by decide) v ll.length _ hs (World.ownsRow.alloc ho1 _) ⟨w.heap.size,0,none⟩ 1 1 [f] hx rfl ?_ ?_ ?_ ?_ ?_ ?_
 . intro j u' hj
   match j,hj with
   | 0,hj=>simp at hj;subst hj;simp [Addr.add]
 . intro u' hu;simp only [List.mem_cons,List.not_mem_nil,or_false] at hu;subst hu;exact hf.jN
 . unfold maxLen;omega
 . omega
 . simp;omega
 . intro v' w' ho' hg _;have h2:w.grownBy w' v.ownBlock:=⟨hg.os,hg.tape,hg.output,Nat.le_trans (by simp) hg.size,fun k hk hne=>(hg.block k (by simp;omega) hne).trans (Below.heap_alloc w _ k hk)⟩;refine h v' w' ⟨_,by simpa using ho',?_⟩ h2;intro i' l' hi';have hne:qg w 3 v.ownBlock:=qg.own ho1 (by decide);by_cases hl:i' < ll.length
   . rw [List.getElem?_append_left hl] at hi';obtain⟨u,k1,k2⟩:=ho2 i' l' hi';exact⟨u,by rw [List.getElem?_append_left (by omega)];exact k1,k2.grown h2 hne⟩
   . rw [List.getElem?_append_right (by omega)] at hi'
     have h0:i' - ll.length=0:=by
       rcases Nat.eq_zero_or_pos (i' - ll.length) with h | h
       . exact h
       . rw [List.getElem?_eq_none (by simp;omega)] at hi';cases hi'
     rw [h0] at hi';obtain rfl:l=l':=by simpa using hi'
     exact⟨f,by rw [List.getElem?_append_right (by omega),show i' - xs.length=0 by omega];rfl,hf.grown h2 hne⟩
theorem qil{ops:Array Oper}{o:Oper}{a:Act}{K:Act->World->Prop}{Q:Exit->Act->World->Prop}{E:Prop}{w:World}{l:List Int}{f:Value}
   (s x:Operand) (hgd:o.guard=none) (ho:o.op=.call { callee:=.builtin .append,args:=#[s,x],argTypes:=#[27,27] })
   {base:Nat} {v:Value} {ll:List (List Int)} {xs:List Value} (hown:LX w base v ll xs) (hf:qf w base f l) (hn:ll.length<=1000000000) (hbase:base<=w.heap.size)
   (hs:a.eval s=v) (hx:a.eval x=.slice (some ⟨w.heap.size,0,none⟩) 1 1)
   (h:∀ v' w',LX w' base v' (ll++[l]) (xs++[f])->w.grownBy w' v.ownBlock->K (a.put o.dst v') w') :
   if Region.wanted o (yielded ops a.tmps)=true then Oper.wp Tryz.prog o a (w.alloc (.cells #[f] 24)) K Q else E:=by
 have hw:Region.wanted o (yielded ops a.tmps)=true:=by simp [Region.wanted,hgd]
 rw [if_pos hw];obtain⟨i,hi,hz0,hz1,hz2⟩:=info_parts qnd;obtain⟨ho1,ho2⟩:=hown;have hxl:xs.length=ll.length:=by have:=ho1.1;omega
 refine wp_append_own _ s x 27 ho base 24 i _ 1 24 Tryz.underlying27 hi hz0 hz1 hz2 rfl (by decide) v ll.length _ hs (World.ownsRow.alloc ho1 _) ⟨w.heap.size,0,none⟩ 1 1 [f] hx rfl ?_ ?_ ?_ ?_ ?_ ?_
 . intro j u' hj
   match j,hj with
   | 0,hj=>simp at hj;subst hj;simp [Addr.add]
 . intro u' hu;simp only [List.mem_cons,List.not_mem_nil,or_false] at hu;subst hu;exact hf.ri.jN
 . unfold maxLen;omega
 . omega
 . simp;omega
 . intro v' w' ho' hg _;have h2:w.grownBy w' v.ownBlock:=⟨hg.os,hg.tape,hg.output,Nat.le_trans (by simp) hg.size,fun k hk hne=>(hg.block k (by simp;omega) hne).trans (Below.heap_alloc w _ k hk)⟩;refine h v' w' ⟨by simpa using ho',?_⟩ h2;intro i' l' hi';have hne:qg w 3 v.ownBlock:=qg.own ho1 (by decide);by_cases hl:i' < ll.length
   . rw [List.getElem?_append_left hl] at hi';obtain⟨u,k1,k2⟩:=ho2 i' l' hi';exact⟨u,by rw [List.getElem?_append_left (by omega)];exact k1,k2.grown h2 hne⟩
   . rw [List.getElem?_append_right (by omega)] at hi'
     have h0:i' - ll.length=0:=by
       rcases Nat.eq_zero_or_pos (i' - ll.length) with h | h
       . exact h
       . rw [List.getElem?_eq_none (by simp;omega)] at hi';cases hi'
     rw [h0] at hi';obtain rfl:l=l':=by simpa using hi'
     exact⟨f,by rw [List.getElem?_append_right (by omega),show i' - xs.length=0 by omega];rfl,hf.grown h2 hne⟩
theorem qvk{w:World}{g base:Nat}{xv:Value}{l:List Int}(ty:TypeId)(hB:Blk w g 3 #[])(hbg:base<=g)(hx:RI w xv l)(hn:l.length<=1000000000) :
   ∃ v' w',(Builtin.append_ #[24,24] ty #[.slice (some ⟨g,0,none⟩) 0 0,xv]).run Tryz.prog w=.ok v' w'/\qf w' base v' l/\w.grownBy w' none:=by
 obtain⟨i,hi,hz0,hz1,hz2⟩:=info_parts qkm;have hE:qf w base (.slice (some ⟨g,0,none⟩) 0 0) []:=⟨rfl,.inr ⟨g,0,#[],rfl,hbg,hB,Nat.le_refl _,by unfold maxLen;omega,rfl,rfl⟩⟩;obtain⟨A,c,e,hc,hcm,hcn⟩:=TS.form hx;subst e
 match A,hcn with
 | none,hcn=>
   obtain rfl:=hcn rfl;have hl0:l=[]:=List.eq_nil_of_length_eq_zero (by omega);subst hl0;exact⟨_,w,run_append_owned_none (P:=Tryz.prog) (w:=w) base 24 ty 3 i 1 Tryz.underlying24 hi _ _ _ hE,hE,qag _ _⟩
 | some ad,hcn=>
   by_cases h0:l.length=0
   . have hl0:l=[]:=List.eq_nil_of_length_eq_zero h0;subst hl0;refine⟨.slice (some ⟨g,0,none⟩) 0 0,w,?_,hE,qag _ _⟩;simp [Builtin.append_,run_underlying Tryz.underlying24,sizeOf,typeInfo,hi,Builtin.lenOf,Builtin.firstCells,loadCells,loadCellsFrom,storeCells]
   . have hnews:∀ j u,(l.map (Value.int .i64))[j]?=some u->w.cell? (ad.add j)=some u:=by
       intro j u hj;obtain⟨g',o',cur,e,_,hcell⟩:=TS.at_ hx (by omega);have e2:ad=⟨g',o',none⟩:=Option.some.inj e;rw [e2,Addr.add_lit];exact hcell j u hj
     have hr:=run_append_grow (P:=Tryz.prog) (w:=w) 24 ty 3 i _ Tryz.underlying24 hi hz0 ⟨g,0,none⟩ 0 0 [] (by simp) (fun j v h=>by simp at h) ad l.length c (l.map (Value.int .i64)) (by rw [hz1,List.length_map,Nat.mul_one]) hnews (by omega) (by omega)
       (growslice_fits (by omega) (by rw [hz2];omega))
     obtain⟨v',w',hr2,h2,h3,_⟩:=run_append_own (P:=Tryz.prog) w base 24 ty 3 i _ 1 8 Tryz.underlying24 hi hz0 hz1 hz2 rfl (by decide) _ 0 [] hE ad l.length c (l.map (Value.int .i64)) (by rw [List.length_map,Nat.mul_one]) hnews (qhl l) (by unfold maxLen;omega) (by omega) (by have:=hB.lt;omega);refine⟨v',w',hr2,?_,?_⟩
     . unfold qf;simpa using h2
     . rw [hr2] at hr;injection hr with _ hw;rw [hw];exact qap (qax (qag w none)) _
def jK(ops:Array Oper)(j:Nat):Nat:=((ops[j]?).bind (fun o=>o.dst)).getD 0
def qpo(ops:Array Oper)(j i:Nat):Bool:=((ops[j]?).map fun o=>o.after.any fun e=>Region.binds .any e && e.on == i).getD false
def qfu(ops:Array Oper)(n m:Nat):Bool:=
 ((List.range n).all fun j=>((ops[j]?).map fun o=>o.guard.isNone && o.dst.isSome).getD false && decide (jK ops j < m) && (List.range j).all fun i=>!decide (jK ops i=jK ops j)) &&
 ((List.range ops.size).all fun t=>(decide (t < n) || (List.range t).all fun i=>qpo ops t i) && ((ops[t]?).map fun o=>o.after.all fun e=>decide (e.on < t)).getD false) && decide (n<=ops.size)
def qpp(ops:Array Oper)(vs:List Value)(a:Act)(k:Nat):Act:=(List.range k).foldl (fun a j=>a.put (some (jK ops j)) (vs.getD j undef)) a
def q8p(ops:Array Oper)(n:Nat)(a0 a:Act):Prop:=a.tmps.size=a0.tmps.size/\a.defers=a0.defers/\∀ t,(∀ j,j < n->jK ops j≠t)->a.tmps[t]?=a0.tmps[t]?
theorem qo1{a:Act}{t:Nat}{v:Value}(h:a.tmps[t]?=some v):a.eval (.tmp t)=v:=by
 unfold Act.eval;simp only;rw [Array.getD_eq_getD_getElem?,h];rfl
structure vc(ops:Array Oper)(n:Nat)(F:Nat->World->Value->Prop)(a0:Act)(w0:World)(listed:Array Bool)(a:Act)(w:World):Prop where
 sz:listed.size=ops.size
 g:w0.grownBy w none
 ts:a.tmps.size=a0.tmps.size
 df:a.defers=a0.defers
 oth:∀ t,(∀ j,j < n->listed.getD j false=true->jK ops j≠t)->a.tmps[t]?=a0.tmps[t]?
 val:∀ j,j < n->listed.getD j false=true->∃ v,a.tmps[jK ops j]?=some v/\F j w v
 rest:∀ j,n<=j->j < ops.size->listed.getD j true=false
section
variable {P:Program}{ops:Array Oper}{Q:Exit->Act->World->Prop}{n:Nat}{F:Nat->World->Value->Prop}{a0:Act}{w0:World}
theorem qpq{m:Nat}(h:qfu ops n m=true){j:Nat}(hj:j < n):∃ o,ops[j]?=some o/\o.guard=none/\o.dst=some (jK ops j)/\jK ops j < m:=by
 unfold qfu at h;simp only [Bool.and_eq_true,List.all_eq_true,List.mem_range,decide_eq_true_eq] at h;obtain⟨⟨h1,h2⟩,h3⟩:=h;have:=(h1 j hj).1;cases ho:ops[j]? with
 | none=>rw [ho] at this;simp at this
 | some o=>
   rw [ho] at this;simp only [Option.map_some,Option.getD_some,Bool.and_eq_true] at this;obtain⟨⟨k1,k2⟩,k3⟩:=this;refine⟨o,rfl,by simpa using k1,?_,k3⟩;unfold jK;rw [ho];cases hd:o.dst with
   | none=>rw [hd] at k2;cases k2
   | some d=>simp [hd]
theorem qnh{m:Nat}(h:qfu ops n m=true){i j:Nat}(hj:j < n)(hi:i < n)(hne:i≠j):jK ops i≠jK ops j:=by
 unfold qfu at h;simp only [Bool.and_eq_true,List.all_eq_true,List.mem_range,decide_eq_true_eq] at h;obtain⟨⟨h1,h2⟩,h3⟩:=h;rcases Nat.lt_or_gt_of_ne hne with hlt | hlt
 . have:=(h1 j hj).2 i hlt;simpa using this
 . have:=(h1 i hi).2 j hlt;intro e;simp [e] at this
theorem qpr{m:Nat}(h:qfu ops n m=true){t i:Nat}(ht:n<=t)(hts:t < ops.size)(hi:i < t):qpo ops t i=true:=by
 unfold qfu at h;simp only [Bool.and_eq_true,List.all_eq_true,List.mem_range,decide_eq_true_eq,Bool.or_eq_true] at h;rcases (h.1.2 t hts).1 with h | h
 . omega
 . exact h i hi
theorem qvj{m:Nat}(h:qfu ops n m=true):n<=ops.size:=by
 unfold qfu at h;simp only [Bool.and_eq_true,decide_eq_true_eq] at h;exact h.2
theorem qx6{m:Nat}(h:qfu ops n m=true){t:Nat}(hts:t < ops.size){o:Oper}(ho:ops[t]?=some o):∀ e∈o.after,e.on < t:=by
 unfold qfu at h;simp only [Bool.and_eq_true,List.all_eq_true,List.mem_range,decide_eq_true_eq,Bool.or_eq_true] at h;have:=(h.1.2 t hts).2;rw [ho] at this;simp only [Option.map_some,Option.getD_some] at this;intro e he;have:=Array.all_eq_true_iff_forall_mem.1 this e he;simpa using this
theorem qsq{m:Nat}(hc:qfu ops n m=true){listed:Array Bool}(hsz:listed.size=ops.size){t:Nat}(hts:t < ops.size)(hall:∀ i,i < t->listed.getD i false=true)(hf:listed.getD t false=false):t∈Region.ready .any ops listed:=by
 unfold Region.ready;simp only [List.mem_filter,List.mem_range,Bool.and_eq_true,Bool.not_eq_true'];have ho:ops[t]?=some ops[t]:=Array.getElem?_eq_getElem hts;refine⟨hts,?_,?_⟩
 . rw [Array.getD_eq_getD_getElem?,Array.getElem?_eq_getElem (by omega)] at hf |-;exact hf
 . rw [ho];simp only [Option.map_some,Option.getD_some];rw [Array.all_eq_true_iff_forall_mem];intro e he;rw [hall _ (qx6 hc hts ho e he),Bool.or_true]
theorem qhm{listed:Array Bool}{t i:Nat}(hr:t∈Region.ready .any ops listed)(hb:qpo ops t i=true):listed.getD i false=true:=by
 obtain⟨h1,h2,h3⟩:t < ops.size/\listed.getD t true=false/\((ops[t]?).map (·.after.all fun e=>!Region.binds .any e || listed.getD e.on false)).getD false=true:=by
   unfold Region.ready at hr;simp only [List.mem_filter,List.mem_range,Bool.and_eq_true,Bool.not_eq_true'] at hr;exact⟨hr.1,hr.2.1,hr.2.2⟩
 unfold qpo at hb;cases ho:ops[t]? with
 | none=>rw [ho] at hb;cases hb
 | some o=>
   rw [ho] at hb h3;simp only [Option.map_some,Option.getD_some] at hb h3;obtain⟨e,he,hb⟩:=Array.any_eq_true'.1 hb;simp only [Bool.and_eq_true,beq_iff_eq] at hb;have:=Array.all_eq_true_iff_forall_mem.1 h3 e he;rw [hb.1,hb.2] at this;simpa using this
theorem qfb{listed:Array Bool}{t:Nat}(hr:t∈Region.ready .any ops listed):t < ops.size/\listed.getD t true=false:=by
 unfold Region.ready at hr;simp only [List.mem_filter,List.mem_range,Bool.and_eq_true,Bool.not_eq_true'] at hr;exact⟨hr.1,hr.2.1⟩
theorem qmj{listed:Array Bool}{t:Nat}(h:t < listed.size):listed.getD t true=listed.getD t false:=by
 rw [Array.getD_eq_getD_getElem?,Array.getD_eq_getD_getElem?,Array.getElem?_eq_getElem h];rfl
theorem qii{listed:Array Bool}{i:Nat}(hi:i < listed.size)(j:Nat):(listed.setIfInBounds i true).getD j false=(decide (j=i) || listed.getD j false):=by
 rw [Array.getD_eq_getD_getElem?,Array.getD_eq_getD_getElem?,Array.getElem?_setIfInBounds];by_cases e:i=j
 . subst e;simp [hi]
 . have:¬ j=i:=fun h=>e h.symm;simp [e,this]
theorem qsr{m:Nat}(hc:qfu ops n m=true):∀ (fuel t:Nat) (listed:Array Bool) (a:Act) (w:World),n<=t->t<=ops.size->listed.size=ops.size->(∀ j,j < ops.size->listed.getD j false=decide (j < t))->ops.size - t<=fuel ->
   wpOps P ops Q (List.range' t (ops.size - t)) a w->wpAny P .any ops Q fuel listed a w:=by
 intro fuel
 induction fuel with
 | zero=>
   intro t listed a w h1 h2 h3 h4 h5 h6;obtain rfl:t=ops.size:=by omega
   have hr:Region.ready .any ops listed=[]:=by
     rw [List.eq_nil_iff_forall_not_mem];intro j hj;obtain⟨k1,k2⟩:=qfb hj;rw [qmj (by omega),h4 j k1] at k2;simp at k2;omega
   refine⟨hr,?_⟩;rw [Nat.sub_self] at h6;exact h6
 | succ fuel ih=>
   intro t listed a w h1 h2 h3 h4 h5 h6
   have hone:∀ j∈Region.ready .any ops listed,j=t:=by
     intro j hj;obtain⟨k1,k2⟩:=qfb hj;rw [qmj (by omega),h4 j k1] at k2;have hge:t<=j:=by simpa using k2
     rcases Nat.eq_or_lt_of_le hge with e | e
     . exact e.symm
     . have:=qhm hj (qpr hc (by omega) k1 e);rw [h4 t (by omega)] at this;simp at this
   by_cases ht:t=ops.size
   . subst ht;refine⟨fun _=>by rw [Nat.sub_self] at h6;exact h6,fun i hi=>?_⟩;have:=hone i hi;have:=(qfb hi).1;omega
   . have hlt:t < ops.size:=by omega
     have qbD:ops.size - t=(ops.size - (t+1))+1:=by omega
     rw [qbD,List.range'_succ,wpOps_cons] at h6
     have hnext:∀ a w,wpOps P ops Q (List.range' (t+1) (ops.size - (t+1))) a w->wpAny P .any ops Q fuel (listed.setIfInBounds t true) a w:=by
       intro a w h;refine ih (t+1) _ a w (by omega) (by omega) (by simpa using h3) (fun j hj=>?_) (by omega) h;rw [qii (by omega),h4 j hj,Bool.eq_iff_iff];simp only [Bool.or_eq_true,decide_eq_true_eq];omega
     refine⟨fun hr=>?_,fun i hi=>?_⟩
     . exfalso;have hmem:t∈Region.ready .any ops listed:=qsq hc h3 hlt (fun i hi=>by rw [h4 i (by omega)];simpa using hi) (by rw [h4 t hlt];simp);rw [hr] at hmem;cases hmem
     . obtain rfl:=hone i hi;exact wpOp_mono hnext h6
theorem qmk{a:Act}{d t:Nat}{v:Value}(hd:d < a.tmps.size):(a.put (some d) v).tmps[t]?=if d=t then some v else a.tmps[t]?:=by
 unfold Act.put;simp only;rw [Array.getElem?_setIfInBounds];by_cases e:d=t
 . subst e;simp [hd]
 . simp [e]
def gOp(P:Program)(ops:Array Oper)(Q:Exit->Act->World->Prop)(n:Nat)(F:Nat->World->Value->Prop)(a0:Act)(w0:World)(j:Nat):Prop:=
 ∀ (o:Oper) (a:Act) (w:World) (K:Act->World->Prop),ops[j]?=some o->w0.grownBy w none->q8p ops n a0 a->(∀ i,i < n->qpo ops j i=true->∃ v,a.tmps[jK ops i]?=some v/\F i w v) ->
   (∀ v w',w.grownBy w' none->F j w' v->K (a.put o.dst v) w')->o.wp P a w K Q
theorem vc.step{m:Nat}(hc:qfu ops n m=true)(hm:a0.tmps.size=m)(hF:∀ j w w' v,F j w v->w.grownBy w' none->F j w' v){listed:Array Bool}{a:Act}{w w':World}{v:Value}{j:Nat}
   (h:vc ops n F a0 w0 listed a w) (hj:j < n) (hg:w.grownBy w' none) (hv:F j w' v):vc ops n F a0 w0 (listed.setIfInBounds j true) (a.put (some (jK ops j)) v) w':=by
 obtain⟨o,ho,_,_,hlt⟩:=qpq hc hj;have hjs:j < ops.size:=(Array.getElem?_eq_some_iff.1 ho).1;have hd:jK ops j < a.tmps.size:=by rw [h.ts];omega
 refine⟨by simpa using h.sz,qac h.g hg,by unfold Act.put;simpa using h.ts,h.df,fun t ht=>?_,fun i hi hl=>?_,fun i hi his=>?_⟩
 . rw [qmk hd,if_neg (ht j hj (by rw [qii (by rw [h.sz];exact hjs)];simp))];exact h.oth t (fun i hi hl=>ht i hi (by rw [qii (by rw [h.sz];exact hjs),hl,Bool.or_true]))
 . by_cases e:i=j
   . subst e;exact⟨v,by rw [qmk hd,if_pos rfl],hv⟩
   . rw [qii (by rw [h.sz];exact hjs)] at hl;have hl':listed.getD i false=true:=by simpa [e] using hl
     obtain⟨u,k1,k2⟩:=h.val i hi hl';exact⟨u,by rw [qmk hd,if_neg (qnh hc hi hj (fun e'=>e e'.symm))];exact k1,hF i w w' u k2 hg⟩
 . have:=h.rest i hi his;rw [qmj (by simp;rw [h.sz];exact his),qii (by rw [h.sz];exact hjs)];rw [qmj (by rw [h.sz];exact his)] at this;rw [this];simp;omega
theorem q09{m:Nat}(hc:qfu ops n m=true)(hm:a0.tmps.size=m)(hF:∀ j w w' v,F j w v->w.grownBy w' none->F j w' v)(hop:∀ j,j < n->gOp P ops Q n F a0 w0 j)
   (hrest:∀ a w,vc ops n F a0 w0 (Array.ofFn (n:=ops.size) fun j=>decide (j.val < n)) a w->wpOps P ops Q (List.range' n (ops.size - n)) a w) :
   ∀ (fuel:Nat) (listed:Array Bool) (a:Act) (w:World),vc ops n F a0 w0 listed a w->ops.size - (listed.toList.countP id)<=fuel->wpAny P .any ops Q fuel listed a w:=by
 have hle:=qvj hc
 have hfull:∀ (listed:Array Bool) (a:Act) (w:World),vc ops n F a0 w0 listed a w->(∀ j,j < n->listed.getD j false=true)->listed=Array.ofFn (n:=ops.size) fun j=>decide (j.val < n):=by
   intro listed a w h hall;apply Array.ext
   . rw [h.sz];simp
   . intro i hi hi2;rw [h.sz] at hi;rw [Array.getElem_ofFn];by_cases e:i < n
     . have:=hall i e;rw [Array.getD_eq_getD_getElem?,Array.getElem?_eq_getElem (by rw [h.sz];exact hi)] at this;simpa [e] using this
     . have:=h.rest i (by omega) hi;rw [Array.getD_eq_getD_getElem?,Array.getElem?_eq_getElem (by rw [h.sz];exact hi)] at this;simpa [e] using this
 have yQ:∀ j,j < ops.size->(Array.ofFn (n:=ops.size) fun j=>decide (j.val < n)).getD j false=decide (j < n):=by
   intro j hj;rw [Array.getD_eq_getD_getElem?,Array.getElem?_eq_getElem (by simpa using hj),Array.getElem_ofFn];rfl
 intro fuel
 induction fuel with
 | zero=>
   intro listed a w h hf
   have yR:listed.toList.countP id=listed.toList.length:=by
     have:=List.countP_le_length (p:=id) (l:=listed.toList);have hs:=h.sz;rw [Array.length_toList] at this |-;omega
   have hall:∀ j,j < n->listed.getD j false=true:=by
     intro j hj;rw [List.countP_eq_length] at yR;have hjl:j < listed.size:=by rw [h.sz];omega
     have:=yR listed[j] (by simp);rw [Array.getD_eq_getD_getElem?,Array.getElem?_eq_getElem hjl];exact this
   have e:=hfull listed a w h hall;rw [e] at h |-;by_cases hn:n=ops.size
   . refine qsr hc 0 n _ a w (Nat.le_refl _) hle (by simp) yQ (by omega) (hrest a w h)
   . exfalso;rw [e] at yR;rw [List.countP_eq_length] at yR;have hlt:n < (Array.ofFn (n:=ops.size) fun j=>decide (j.val < n)).size:=by simp;omega
     have:=yR (Array.ofFn (n:=ops.size) fun j=>decide (j.val < n))[n] (by simp;exact⟨⟨n,by omega⟩,Nat.le_refl _⟩);rw [Array.getElem_ofFn] at this;simp at this
 | succ fuel ih=>
   intro listed a w h hf;by_cases hall:∀ j,j < n->listed.getD j false=true
   . have e:=hfull listed a w h hall;rw [e] at h |-;refine qsr hc (fuel+1) n _ a w (Nat.le_refl _) hle (by simp) yQ ?_ (hrest a w h);rw [e] at hf
     have hcn:(Array.ofFn (n:=ops.size) fun j=>decide (j.val < n)).toList.countP id<=n:=by
       have h1:(Array.ofFn (n:=ops.size) fun j=>decide (j.val < n)).toList=(List.range ops.size).map fun j=>decide (j < n):=by
         apply List.ext_getElem
         . simp
         . intro i h1 h2;simp
       rw [h1,List.countP_map]
       have h2:∀ k,(List.range k).countP (id ∘ fun j=>decide (j < n))<=n:=by
         intro k
         induction k with
         | zero=>simp
         | succ k ihk=>
           rw [List.range_succ,List.countP_append,List.countP_singleton];by_cases hk:k < n
           . have:(List.range k).countP (id ∘ fun j=>decide (j < n))<=k:=by
               refine Nat.le_trans List.countP_le_length ?_;simp
             split <;> omega
           . have:¬ ((id ∘ fun j=>decide (j < n)) k=true):=by simp;omega
             rw [if_neg this];omega
       exact h2 _
     omega
   . have hne:∃ j,j < n/\listed.getD j false=false:=by
       apply Classical.byContradiction;intro hno;apply hall;intro j hj;rcases Bool.eq_false_or_eq_true (listed.getD j false) with k | k
       . exact k
       . exact absurd ⟨j,hj,k⟩ hno
     refine⟨fun hr=>?_,fun i hi=>?_⟩
     . exfalso
       have kS:∀ k,(∃ j,j < k/\j < n/\listed.getD j false=false)->∃ j,j < n/\listed.getD j false=false/\∀ i,i < j->listed.getD i false=true:=by
         intro k
         induction k with
         | zero=>rintro⟨j,hj,_⟩;omega
         | succ k ihk=>
           rintro⟨j,hj,hjn,hjf⟩;by_cases hex:∃ j,j < k/\j < n/\listed.getD j false=false
           . exact ihk hex
           . have hjk:j=k:=by
               apply Classical.byContradiction;intro hne';exact hex ⟨j,by omega,hjn,hjf⟩
             subst hjk;refine⟨j,hjn,hjf,fun i hi=>?_⟩;rcases Bool.eq_false_or_eq_true (listed.getD i false) with q | q
             . exact q
             . exact absurd ⟨i,hi,by omega,q⟩ hex
       obtain⟨j,hj,hjf⟩:=hne;obtain⟨t,ht,htf,hta⟩:=kS n ⟨j,hj,hj,hjf⟩;have:=qsq hc h.sz (by omega) hta htf;rw [hr] at this;cases this
     . obtain⟨his,hif⟩:=qfb hi
       have hin:i < n:=by
         apply Classical.byContradiction;intro hge;obtain⟨j,hj,hjf⟩:=hne;have:=qhm hi (qpr hc (by omega) his (i:=j) (by omega));rw [hjf] at this;cases this
       obtain⟨o,ho,hgd,qfF,hdl⟩:=qpq hc hin;have hsame:q8p ops n a0 a:=⟨h.ts,h.df,fun t ht=>h.oth t (fun j hj _=>ht j hj)⟩
       have hw:=hop i hin o a w (wpAny P .any ops Q fuel (listed.setIfInBounds i true)) ho h.g hsame (fun j hj hb=>h.val j hj (qhm hi hb)) (fun v w' hg hv=>by
         rw [qfF];refine ih _ _ _ (h.step hc hm hF hin hg hv) ?_;have hil:i < listed.size:=by rw [h.sz];exact his
         have hcount:(listed.setIfInBounds i true).toList.countP id=listed.toList.countP id+1:=by
           have hfi:listed.toList[i]=false:=by
             have:=hif;rw [qmj hil,Array.getD_eq_getD_getElem?,Array.getElem?_eq_getElem hil] at this;simpa using this
           rw [Array.toList_setIfInBounds,List.countP_set (by simpa using hil),hfi];simp
         omega)
       unfold wpOp;rw [ho];simp only;rw [if_pos (by simp [Region.wanted,hgd])];exact .inl hw
theorem q1a(vs:List Value)(a:Act)(k:Nat):qpp ops vs a (k+1)=(qpp ops vs a k).put (some (jK ops k)) (vs.getD k undef):=by
 unfold qpp;rw [List.range_succ,List.foldl_append];rfl
theorem q1b{m:Nat}(hc:qfu ops n m=true)(hm:a0.tmps.size=m)(vs:List Value):∀ k,k<=n->(qpp ops vs a0 k).tmps.size=m/\(qpp ops vs a0 k).defers=a0.defers/\(∀ t,(∀ j,j < k->jK ops j≠t)->(qpp ops vs a0 k).tmps[t]?=a0.tmps[t]?) /\
   ∀ j,j < k->(qpp ops vs a0 k).tmps[jK ops j]?=some (vs.getD j undef):=by
 intro k
 induction k with
 | zero=>intro _;exact⟨hm,rfl,fun _ _=>rfl,fun j hj=>absurd hj (Nat.not_lt_zero _)⟩
 | succ k ih=>
   intro hk;obtain⟨h1,h2,h3,h4⟩:=ih (by omega);obtain⟨o,ho,_,_,hlt⟩:=qpq hc (show k < n by omega);have hd:jK ops k < (qpp ops vs a0 k).tmps.size:=by rw [h1];exact hlt
   rw [q1a];refine⟨by unfold Act.put;simpa using h1,h2,fun t ht=>?_,fun j hj=>?_⟩
   . rw [qmk hd,if_neg (ht k (by omega))];exact h3 t (fun j hj=>ht j (by omega))
   . by_cases e:j=k
     . subst e;rw [qmk hd,if_pos rfl]
     . rw [qmk hd,if_neg (qnh hc (by omega) (by omega) (fun e'=>e e'.symm))];exact h4 j (by omega)
theorem q7l{a b:Act}(h1:a.tmps=b.tmps)(h2:a.defers=b.defers):a=b:=by
 cases a;cases b;simp only at h1 h2;subst h1 h2;rfl
theorem qrx{id m:Nat}{w00:World}(hmx:P.follows .mixedOrders=true)(hc:qfu ops n m=true)(hm:a0.tmps.size=m)(hF:∀ j w w' v,F j w v->w.grownBy w' none->F j w' v)
   (hop:∀ j,j < n->gOp P ops Q n F a0 w00.drew j)
   (hrest:∀ vs:List Value,vs.length=n->∀ w,w00.drew.grownBy w none->(∀ j,j < n->F j w (vs.getD j undef))->wpList P ops Q (ops.toList.drop n) (qpp ops vs a0 n) w) :
   (Code.region id ops true).wp P Q a0 w00:=by
 have hle:=qvj hc;refine wp_region_any hmx (q09 (F:=F) (w0:=w00.drew) hc hm hF hop ?_ ops.size _ a0 _ ?_ (by omega))
 . intro a w h
   have hget:∀ j,j < n->(Array.ofFn (n:=ops.size) fun j=>decide (j.val < n)).getD j false=true:=by
     intro j hj;rw [Array.getD_eq_getD_getElem?,Array.getElem?_eq_getElem (by simp;omega),Array.getElem_ofFn];simpa using hj
   have e1:wpOps P ops Q (List.range' n (ops.size - n))=wpList P ops Q (ops.toList.drop n):=by
     have:=wpOps_eq_wpList (P:=P) (ops:=ops) (Q:=Q) (ops.toList.drop n) n (fun j=>by rw [List.getElem?_drop,Array.getElem?_toList]);rw [List.length_drop,Array.length_toList] at this;exact this
   rw [e1]
   have hea:a=qpp ops ((List.range n).map fun j=>(a.tmps[jK ops j]?).getD undef) a0 n:=by
     obtain⟨k1,k2,k3,k4⟩:=q1b hc hm ((List.range n).map fun j=>(a.tmps[jK ops j]?).getD undef) n (Nat.le_refl _);refine q7l ?_ (h.df.trans k2.symm);apply Array.ext_getElem?;intro t;by_cases ht:∃ j,j < n/\jK ops j=t
     . obtain⟨j,hj,rfl⟩:=ht;obtain⟨v,q1,_⟩:=h.val j hj (hget j hj);rw [k4 j hj,q1,List.getD_eq_getElem?_getD,List.getElem?_map,List.getElem?_range hj];simp [q1]
     . have hno:∀ j,j < n->jK ops j≠t:=fun j hj e=>ht ⟨j,hj,e⟩;rw [k3 t hno];exact h.oth t (fun j hj _=>hno j hj)
   rw [hea];refine hrest _ (by simp) w h.g (fun j hj=>?_);obtain⟨v,q1,q2⟩:=h.val j hj (hget j hj);rw [List.getD_eq_getElem?_getD,List.getElem?_map,List.getElem?_range hj];simp only [Option.map_some,Option.getD_some,q1];exact q2
 . have xg:∀ j,(Array.replicate ops.size false).getD j false=false:=by
     intro j;rw [Array.getD_eq_getD_getElem?,Array.getElem?_replicate];split <;> rfl
   refine⟨by simp,qag _ _,rfl,rfl,fun _ _=>rfl,fun j hj hl=>?_,fun j _ hj=>?_⟩
   . rw [xg] at hl;cases hl
   . rw [qmj (by simpa using hj)];exact xg j
variable {o:Oper}{a:Act}{w:World}{K:Act->World->Prop}
theorem qij{v:Value}(hr:(execOp a.eval o).run P w=.ok (.value v) w)(h:K (a.put o.dst v) w):o.wp P a w K Q:=by
 unfold Oper.wp;rw [hr];exact h
theorem qik{v:Value}{w':World}(hr:(execOp a.eval o).run P w=.ok (.value v) w')(h:K (a.put o.dst v) w'):o.wp P a w K Q:=by
 unfold Oper.wp;rw [hr];exact h
end
end
end Go.Proofs.YtacemdoejblgaaaGreatDoor

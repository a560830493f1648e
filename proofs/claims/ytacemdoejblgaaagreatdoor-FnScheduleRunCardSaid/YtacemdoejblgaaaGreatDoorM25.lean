/- Part 25. Conditions: each statement's. -/
import Derived.Test.YtacemdoejblgaaaGreatDoorM24
namespace Go.Proofs.YtacemdoejblgaaaGreatDoor
set_option maxHeartbeats 6400000
set_option maxRecDepth 100000
section
open Go.RowKit
def q77(w:World)(cs rd:List Int)(e:Ending)(w':World):Prop:=∃ v u,e=.returned (.tuple #[v,u])/\qf w' w.heap.size v cs/\qf w' w.heap.size u rd/\w.grownBy w' none
structure xj(w0 wr:World)(g n c b2:Nat)(cs:List Int)(u:Value)(rd:List Int):Prop where
 o:qf wr w0.heap.size (.slice (some ⟨g,0,none⟩) n c) cs
 r:qf wr b2 u rd
 gl:g < b2
 lo:w0.heap.size<=b2
 hi:b2<=wr.heap.size
 g:w0.grownBy wr none
theorem xj.qC{w0 wr:World}{g n c b2 k:Nat}{cs:List Int}{u:Value}{rd:List Int}{x:Int}(h:xj w0 wr g n c b2 cs u rd)(hn:n=cs.length)(_hk:k < n):xj w0 (wr.setCell ⟨g,k,none⟩ (.int .i64 x)) g n c b2 (cs.set k x) u rd:=by
 have hst:wr.grownBy (wr.setCell ⟨g,k,none⟩ (.int .i64 x)) (some g):=qa2 (p:=⟨g,k,none⟩) (qag wr _) (.inr rfl) _;have hb:w0.heap.size<=g:=(h.o.lt g rfl).1;refine⟨h.o.qC hn k x,h.r.qO hst ?_,h.gl,h.lo,Nat.le_trans h.hi hst.size,qa1 h.g hst (fun g' e=>by cases e;exact .inl hb)⟩;by_cases e:u.ownBlock=some g
 . have:=(h.r.lt g e).1;have:=h.gl;omega
 . exact .inr e
theorem xj.push{w0 wr w2:World}{g n c b2:Nat}{cs:List Int}{u u':Value}{rd rd':List Int}(h:xj w0 wr g n c b2 cs u rd)(hr:qf w2 b2 u' rd')(hg:wr.grownBy w2 u.ownBlock):xj w0 w2 g n c b2 cs u' rd':=by
 refine⟨h.o.qO hg (.inr ?_),hr,h.gl,h.lo,Nat.le_trans h.hi hg.size,h.r.gb h.g hg h.lo⟩;intro e;have:=(h.r.lt g e.symm).1;have:=h.gl;omega
theorem qrb(v v':Value)(qa:List Node)(cs:List Int)(x:Int)(w:World)(h:RN w v qa)(h':RI w v' cs)(hv:qae qa=true)(hcl:cs.length=qa.length)(hcs:∀ y∈cs,-1000<=y/\y<=1000) :
   Calls Tryz.prog 166 #[v,v',.int .i64 x] w (q77 w (qbi qa cs x) (qbl qa cs x)):=by
 obtain⟨A,n,c,rfl,hnc,hn,-⟩:=h.form';obtain⟨B,m,c',rfl,hmc,hm⟩:=h'.form';have jF:=qal hv;have zC:n<=10:=by omega
 obtain rfl:m=n:=by omega
 have Hn:=Lib.hid hn;have Hm:=Lib.hid hm;have Hv:=Lib.hid hv;have Hcs:=Lib.hid hcs;have hE:qf (w.alloc (.cells #[] 3)) w.heap.size (.slice (some ⟨w.heap.size,0,none⟩) 0 0) []:=qf.empty w (Nat.le_refl _);have hgE:=World.grownBy_alloc w (.cells #[] 3) none;have hoE:=h'.new hgE;have hlen:([]:List Int).length+cs.length<=1000000000:=by simp only [List.length_nil];omega
 clear hn hm hv hcs jF hcl;go_enter Tryz.func166,Tryz.ntmps166;go_wp2_with (at_builtin;go_must (refine qjx _ _ 24 Tryz.underlying24 rfl rfl hE hoE hlen hgE.size rfl rfl ?_));intro v4 w4 qn hg4;have hg5:=hE.gb hgE hg4 (Nat.le_refl _);by_cases h0:m=0
 . subst h0;have hnil:cs=[]:=List.eq_nil_of_length_eq_zero Hm.out.symm;have hpn:qa.length=0:=Hn.out.symm;have ht:Hid (qbi qa cs x=cs):=by show _=_;rw [hnil];rfl
   have hr:Hid (qbl qa cs x=[]):=by show _=_;unfold qbl;rw [hpn];rfl
   obtain⟨A4,n4,c4,rfl⟩:=qn.ri.val;have hR0:qf (w4.alloc (.cells #[] 3)) w4.heap.size (.slice (some ⟨w4.heap.size,0,none⟩) 0 0) []:=qf.empty w4 (Nat.le_refl _);have ho4:=qn.alloc (.cells #[] 3);have hg6:=qap hg5 (.cells #[] 3);have hb4:=hg5.size;clear hnil hpn;go_wp2_with fail
   go_loopg [9,10] 1 (fun mm rd i wr=>mm=1/\i=.int .i64 (0:Nat)/\rd=.slice (some ⟨w4.heap.size,0,none⟩) 0 0/\wr=w4.alloc (.cells #[] 3))
   case atStart=>exact⟨rfl,rfl,rfl,rfl⟩
   case round=>
     obtain⟨rfl,rfl,rfl,rfl⟩:=hrel;go_wp2_with fail
     go_ret2
     exact⟨_,_,rfl,by rw [ht.out];exact ho4,by rw [hr.out];exact hR0.low hb4,hg6⟩
 . obtain⟨g,cap,cur,rfl,-,-,hB,-⟩:=qn.form (by rw [<-Hm.out];omega);have e:cs.length=m:=Hm.out.symm;rw [e] at qn;have hR0:qf (w4.alloc (.cells #[] 3)) w4.heap.size (.slice (some ⟨w4.heap.size,0,none⟩) 0 0) []:=qf.empty w4 (Nat.le_refl _)
   have M0:xj w (w4.alloc (.cells #[] 3)) g m cap w4.heap.size (qff qa cs x 0) (.slice (some ⟨w4.heap.size,0,none⟩) 0 0) (qcp qa cs x 0):=by
     rw [qxq];exact⟨qn.alloc _,hR0,hB.lt,hg5.size,(World.grownBy_alloc w4 _ none).size,qap hg5 _⟩
   have hb4:=hg5.size;rw [e];go_wp2_with fail
   go_loopg [9,10] (m+1) (fun mm rd i wr=>∃ k:Nat,k<=m/\mm=m+1 - k/\i=.int .i64 k/\xj w wr g m cap w4.heap.size (qff qa cs x k) rd (qcp qa cs x k))
   case atStart=>exact⟨0,Nat.zero_le _,rfl,rfl,M0⟩
   case round=>
     clear M0;obtain⟨k,hk,rfl,rfl,M⟩:=hrel;by_cases hlt:k < m
     . obtain⟨g2,o2,nd,f,r,rfl,hx,c0,c1,c2,hf,-⟩:=(h.new M.g).at_ hlt;obtain⟨Af,nf,cf,rfl⟩:=hf.val;have hfr:=qdk hx;have hkc:k < cs.length:=by rw [<-Hm.out];exact hlt
       have hy:cs[k]?=some cs[k]:=List.getElem?_eq_getElem hkc;have hyb:=Hcs.out cs[k] (List.getElem_mem hkc);have hyd:cs.getD k 0=cs[k]:=by rw [List.getD_eq_getElem?_getD,hy];rfl
       have hty:(qff qa cs x k)[k]?=some cs[k]:=by rw [qga hy];simp
       generalize cs[k]=y at hy hyb hyd hty;obtain⟨d0,f0,-,-⟩:=M.o.cell hty;have htl:m=(qff qa cs x k).length:=by rw [qf9];exact Hm.out
       clear hx c0 c2 hkc;by_cases hh:x∈nd.frm
       . have Hh:Hid (decide (x∈nd.frm)=true):=decide_eq_true hh;have hhas:has qa k x=true:=by unfold has;rw [hfr];exact decide_eq_true hh
         have M2:=M.qC (x:=y - 1) htl hlt;rw [<-qxr hy hhas] at M2;have hnr:=qid qa cs x k;rw [hhas,hyd] at hnr;by_cases h1:y=1
         . have hq:(y - 1 == 0)=true:=by rw [h1];rfl
           have Hnr:Hid (qcp qa cs x (k+1)=qcp qa cs x k++[(k:Int)]):=by show _=_;rw [hnr,h1];rfl
           have hrl:(qcp qa cs x k).length<=1000000000:=by
             have:=List.length_filter_le (fun i=>has qa i x && decide (cs.getD i 0=1)) (List.range k);unfold qcp;rw [List.length_map];rw [List.length_range] at this;omega
           have hb2:=M2.hi;clear hh hhas hnr h1 hfr hty htl hyd hy;go_wp2_with fail;refine(qdq _ _ _ _ hf Hh.out).mono ?_;rintro e' w' ⟨rfl,rfl⟩;go_wp2_with (at_builtin;go_must (refine qd9 (.tmp 41) (.tmp 43) rfl rfl M2.r hrl hb2 rfl rfl (by simp [World.setCell]) ?_));intro v6 w6 jS hg6;rw [<-Hnr.out] at jS;have M3:=M2.push jS hg6;obtain⟨A6,n6,c6,rfl⟩:=jS.ri.val;go_wp2_with fail;go_roundg (m+1 - (k+1))
           case measure=>omega
           case rel=>exact⟨k+1,by omega,rfl,by go_num,M3⟩
         . have hq:(y - 1 == 0)=false:=by simp;omega
           have Hnr:Hid (qcp qa cs x (k+1)=qcp qa cs x k):=by show _=_;rw [hnr];simp [h1]
           rw [<-Hnr.out] at M2;clear hh hhas hnr h1 hfr hty htl hyd hy;go_wp2_with fail;refine(qdq _ _ _ _ hf Hh.out).mono ?_;rintro e' w' ⟨rfl,rfl⟩;go_wp2_with fail;go_roundg (m+1 - (k+1))
           case measure=>omega
           case rel=>exact⟨k+1,by omega,rfl,by go_num,M2⟩
       . have Hh:Hid (decide (x∈nd.frm)=false):=decide_eq_false hh;have hhas:has qa k x=false:=by unfold has;rw [hfr];exact decide_eq_false hh
         have Hnr:Hid (qcp qa cs x (k+1)=qcp qa cs x k):=by show _=_;rw [qid,hhas];simp
         rw [<-qxs hhas,<-Hnr.out] at M;clear hh hhas hfr hty htl hyd hy d0 f0;go_wp2_with fail;refine(qdq _ _ _ _ hf Hh.out).mono ?_;rintro e' w' ⟨rfl,rfl⟩;go_wp2_with fail;go_roundg (m+1 - (k+1))
         case measure=>omega
         case rel=>exact⟨k+1,by omega,rfl,by go_num,M⟩
     . obtain rfl:k=m:=by omega
       have e1:qff qa cs x k=qbi qa cs x:=q0x x (by rw [<-Hm.out];exact Nat.le_refl _);have e2:qcp qa cs x k=qbl qa cs x:=by rw [Hn.out];rfl
       rw [e1,e2] at M;obtain⟨A6,n6,c6,rfl⟩:=M.r.ri.val;clear e1 e2;go_wp2_with fail
       go_ret2
       exact⟨_,_,rfl,M.o,M.r.low M.lo,M.g⟩
theorem qsc{d:List Int}{k:Nat}{x:Int}(hx:d[k]?=some x)(h:¬ (0<=x/\x<=9)):qa3 d=false:=by
 rcases Bool.eq_false_or_eq_true (qa3 d) with e | e
 . exact absurd ((qb0.1 e).2.1 x (List.mem_of_getElem? hx)) h
 . exact e
theorem qov{d:List Int}{k:Nat}{x:Int}(hx:d[k]?=some x)(h:x∈d.take k):qa3 d=false:=by
 rcases Bool.eq_false_or_eq_true (qa3 d) with e | e
 . exfalso;have hn:=(qb0.1 e).2.2;obtain⟨hk,rfl⟩:=List.getElem?_eq_some_iff.1 hx;have h2:=hn.sublist (List.take_sublist (k+1) d);rw [List.take_succ_eq_append_getElem hk,List.nodup_append] at h2;exact h2.2.2 _ h _ (by simp) rfl
 . exact e
def vS(d:List Int)(k:Nat):Prop:=(∀ x∈d.take k,0<=x/\x<=9)/\(d.take k).Nodup
theorem q4u(d:List Int):vS d 0:=by unfold vS;simp
theorem q4v{d:List Int}{k:Nat}{x:Int}(h:vS d k)(hx:d[k]?=some x)(hr:0<=x/\x<=9)(hn:x∉d.take k):vS d (k+1):=by
 obtain⟨hk,rfl⟩:=List.getElem?_eq_some_iff.1 hx;unfold vS at h |-;rw [List.take_succ_eq_append_getElem hk];refine⟨fun y hy=>?_,?_⟩
 . rcases List.mem_append.1 hy with hy | hy
   . exact h.1 y hy
   . obtain rfl:y=d[k]:=by simpa using hy
     exact hr
 . rw [List.nodup_append];refine⟨h.2,by simp,fun a ha b hb e=>?_⟩;obtain rfl:b=d[k]:=by simpa using hb
   exact hn (e ▸ ha)
theorem q6p{d:List Int}{k:Nat}(h:vS d k)(hk:d.length<=k):qa3 d=decide (d.length<=10):=by
 unfold vS at h;rw [List.take_of_length_le hk] at h;rw [Bool.eq_iff_iff,qb0,decide_eq_true_eq];exact⟨fun e=>e.1,fun e=>⟨e,h.1,h.2⟩⟩
theorem qdb(v:Value)(d:List Int)(w:World)(h:RI w v d){b:Bool}(hb:qa3 d=b) :
   Calls Tryz.prog 164 #[v] w fun e w'=>e=.returned (.bool b)/\w.grownBy w' none:=by
 obtain⟨A,n,c,rfl,hnc,hn⟩:=h.form';have hle:=h.le;rw [<-hn] at hle;have Hn:=Lib.hid hn;have Hb:=Lib.hid hb;clear hn hb;go_enter Tryz.func164,Tryz.ntmps164;go_wp2_with fail
 go_loopg [3] (n+1) (fun mm i wr=>∃ k:Nat,k<=n/\mm=n+1 - k/\i=.int .i64 k/\Hid (vS d k)/\w.grownBy wr none)
 case atStart=>exact⟨0,Nat.zero_le _,rfl,rfl,q4u d,qag _ _⟩
 case round=>
   obtain⟨k,hk,rfl,rfl,Hk,hg⟩:=hrel;by_cases hlt:k < n
   . obtain⟨g,o,x,rfl,hx,c0⟩:=(h.new hg).at_ hlt;have Hx:=Lib.hid hx;have ht:=(h.new hg).take (k:=k) (by omega);have hkc:k<=c:=by omega
     clear hx;by_cases hin:0<=x/\x<=9
     . have Hin:Hid ((decide (0<=x) && decide (x<=9))=true):=by show _=_;simp [hin.1,hin.2]
       by_cases hD:x∈d.take k
       . have HD:Hid (decide (x∈d.take k)=true):=decide_eq_true hD
         have Hr:Hid (b=false):=by
           show _=_;rw [<-Hb.out];exact qov Hx.out hD
         clear hD Hk hin;go_wp2_with fail
         go_quiet ((first
           | (go_at_call 74;exact qct (qdl _ _ _ _ Hin.out))
           | (go_at_call 123;exact qct (qdq _ _ _ _ (by exact ht) HD.out))))
         go_wp2_with fail;go_ret;exact⟨by rw [Hr.out];rfl,qb8 hg _⟩
       . have HD:Hid (decide (x∈d.take k)=false):=decide_eq_false hD;have Hs:Hid (vS d (k+1)):=q4v Hk.out Hx.out hin hD;clear hD Hk hin;go_wp2_with fail
         go_quiet ((first
           | (go_at_call 74;exact qct (qdl _ _ _ _ Hin.out))
           | (go_at_call 123;exact qct (qdq _ _ _ _ (by exact ht) HD.out))))
         go_wp2_with fail;go_roundg (n+1 - (k+1))
         case measure=>omega
         case rel=>exact⟨k+1,by omega,rfl,by go_num,Hs,qb8 hg _⟩
     . have Hin:Hid ((decide (0<=x) && decide (x<=9))=false):=by
         show _=_;rw [Bool.and_eq_false_iff,decide_eq_false_iff_not,decide_eq_false_iff_not];omega
       have Hr:Hid (b=false):=by
         show _=_;rw [<-Hb.out];exact qsc Hx.out hin
       clear hin Hk;go_wp2_with fail
       go_quiet ((first
         | (go_at_call 74;exact qct (qdl _ _ _ _ Hin.out))))
       go_wp2_with fail;go_ret;exact⟨by rw [Hr.out];rfl,qb8 hg _⟩
   . obtain rfl:k=n:=by omega
     have Hr:Hid (b=decide ((k:Int)<=10)):=by
       show _=_;rw [<-Hb.out,q6p Hk.out (by rw [<-Hn.out];exact Nat.le_refl _),<-Hn.out,decide_eq_decide];omega
     clear Hk;go_wp2_with fail;go_ret;exact⟨by rw [Hr.out];rfl,hg⟩
def q0e(w:World)(r:Option (List Int × Int))(e:Ending)(w':World):Prop:=match r with
 | some (l,x)=>∃ v,e=.returned (.tuple #[v,.int .i64 x,.bool true])/\qf w' w.heap.size v l/\w.grownBy w' none
 | none=>∃ v y,e=.returned (.tuple #[v,.int .i64 y,.bool false])/\RI w' v []/\w.grownBy w' none
def qc1(d:List Int):Option (List Int × Int):=if qa3 d then d.getLast?.map fun x=>(d.dropLast,x) else none
def qbj(d:List Int):Option (List Int × Int):=if qa3 d then d.head?.map fun x=>(d.drop 1,x) else none
theorem qn2{d:List Int}(h:qa3 d=false):qc1 d=none:=by unfold qc1;rw [h];rfl
theorem qn3:qc1 []=none:=by unfold qc1;simp
theorem ql5{d:List Int}(h:qa3 d=true)(hl:0 < d.length):qc1 d=some (d.take (d.length - 1),d.getD (d.length - 1) 0):=by
 unfold qc1;rw [h,if_pos rfl,List.getLast?_eq_getElem?,List.getElem?_eq_getElem (by omega),List.getD_eq_getElem?_getD,List.getElem?_eq_getElem (by omega),List.dropLast_eq_take];rfl
theorem qsd{d:List Int}(h:qa3 d=false):qbj d=none:=by unfold qbj;rw [h];rfl
theorem qrc{d:List Int}(h:qa3 d=true)(hl:0 < d.length):qbj d=some (d.drop 1,d.getD 0 0):=by
 unfold qbj;rw [h,if_pos rfl];cases d with
 | nil=>simp at hl
 | cons x r=>rfl
theorem qow(v:Value)(d:List Int)(w:World)(h:RI w v d):Calls Tryz.prog 125 #[v] w (q0e w (qc1 d)):=by
 obtain⟨A,n,c,rfl,hnc,hn⟩:=h.form';have hle:=h.le;rw [<-hn] at hle;have Hn:=Lib.hid hn;by_cases hv:qa3 d=true
 . have Hv:=Lib.hid hv;have zC:n<=10:=by rw [hn];exact(qb0.1 hv).1
   by_cases h0:n=0
   . have hd:d=[]:=List.eq_nil_of_length_eq_zero (by omega);have hlt:(n:Int) - 1 < 0:=by omega
     have Hr:Hid (qc1 d=none):=by show _=_;rw [hd];exact qn3
     clear hv hn hd h0;go_enter Tryz.func125,Tryz.ntmps125;go_wp2_with fail;refine(qdb _ d _ h Hv.out).mono ?_;rintro e w1 ⟨rfl,hg1⟩;go_wp2_with fail;refine bodyPost_ret (v:=.tuple #[.slice (some ⟨w1.heap.size,0,none⟩) 0 0,.int .i64 0,.bool false]) (by simp [results,Tryz.results125,go_sem]) rfl ?_;rw [Hr.out];exact⟨_,0,rfl,(qf.empty w1 (Nat.le_refl _)).ri,qap hg1 _⟩
   . have Hr:Hid (qc1 d=some (d.take (n - 1),d.getD (n - 1) 0)):=by show _=_;rw [hn];exact ql5 hv (by omega)
     have hge:¬ ((n:Int) - 1 < 0):=by omega
     obtain⟨m,rfl⟩:∃ m,n=m+1:=⟨n - 1,by omega⟩;rw [Nat.add_sub_cancel] at Hr;clear hv hn h0;go_enter Tryz.func125,Tryz.ntmps125;go_wp2_with fail;refine(qdb _ d _ h Hv.out).mono ?_;rintro e w1 ⟨rfl,hg1⟩;have h1:=h.new hg1;obtain⟨g,o,x,rfl,hx,c0⟩:=h1.at_ (k:=m) (by omega);have Hx:Hid (d.getD m 0=x):=by show _=_;rw [List.getD_eq_getElem?_getD,hx];rfl
     have hE:qf (w1.alloc (.cells #[] 3)).drew w1.heap.size (.slice (some ⟨w1.heap.size,0,none⟩) 0 0) []:=qf.empty w1 (Nat.le_refl _);have hgE:w1.grownBy (w1.alloc (.cells #[] 3)).drew none:=qax (World.grownBy_alloc w1 _ none);have hrE:RI (w1.alloc (.cells #[] 3)).drew (.slice (some ⟨g,o,none⟩) m c) (d.take m):=(h1.take (k:=m) (by omega)).new hgE;have hlen:([]:List Int).length+(d.take m).length<=1000000000:=by simp only [List.length_nil,List.length_take];omega
     have c0A:=qdi c0 (World.grownBy_alloc w1 (.cells #[] 3) none);have hmc:m<=c:=by omega
     have qfL:(m:Int) < (m:Int)+1:=by omega
     have hn1:(((m+1:Nat):Int) - 1)=(m:Int):=by omega
     clear hx;go_wp2_with fail
     go_region_law (refine qdt (w:=(w1.alloc (.cells #[] 3)).drew) (base:=w1.heap.size) (v:=.slice (some ⟨w1.heap.size,0,none⟩) 0 0) (xv:=.slice (some ⟨g,o,none⟩) m c) (l0:=[]) (l:=d.take m) (.tmp 17) (.tmp 20) rfl rfl hE hrE hlen hgE.size rfl rfl ?_;intro v' w4 qn hg4;have hg5:=hE.gb hgE hg4 (Nat.le_refl _);have c4:=qdi c0 hg5;obtain⟨A4,n4,c4',rfl⟩:=qn.ri.val)
     all_goals
       go_wp2_with fail;refine bodyPost_ret (v:=.tuple #[.slice A4 n4 c4',.int .i64 x,.bool true]) (by simp [results,Tryz.results125,go_sem]) rfl ?_;rw [Hr.out,Hx.out];exact⟨_,rfl,(by simpa using qn.low hg1.size),qac hg1 hg5⟩
 . have hv':qa3 d=false:=by simpa using hv
   have Hv:=Lib.hid hv';have Hr:=Lib.hid (qn2 hv');clear hv hv' hn;go_enter Tryz.func125,Tryz.ntmps125;go_wp2_with fail;refine(qdb _ d _ h Hv.out).mono ?_;rintro e w1 ⟨rfl,hg1⟩;go_wp2_with fail;refine bodyPost_ret (v:=.tuple #[.slice (some ⟨w1.heap.size,0,none⟩) 0 0,.int .i64 0,.bool false]) (by simp [results,Tryz.results125,go_sem]) rfl ?_;rw [Hr.out];exact⟨_,0,rfl,(qf.empty w1 (Nat.le_refl _)).ri,qap hg1 _⟩
theorem RI.tail{w:World}{g o n c:Nat}{l:List Int}(h:RI w (.slice (some ⟨g,o,none⟩) n c) l)(h1:1<=n):∃ ox,(if c=1 then some (⟨g,o,none⟩:Addr) else some ⟨g,o+1,none⟩)=some ⟨g,ox,none⟩/\RI w (.slice (some ⟨g,ox,none⟩) (n - 1) (c - 1)) (l.drop 1):=by
 obtain⟨h0,A',c'',e,h2,h3,h4,h5⟩:=h;injection e with e1 e2 e3;subst e1 e3;have hl:l.length=n:=e2.symm;by_cases hc1:c=1
 . refine⟨o,by rw [if_pos hc1],by simp,_,c - 1,by rw [List.length_drop,hl],by rw [List.length_drop,hl];omega,by omega,by simp,.inl (by rw [List.length_drop];omega)⟩
 . refine⟨o+1,by rw [if_neg hc1],by simp,_,c - 1,by rw [List.length_drop,hl],by rw [List.length_drop,hl];omega,by omega,by simp,?_⟩;rcases h5 with h5 | ⟨g',o',cur,hA',hb,hc⟩
   . omega
   . injection hA' with hA';injection hA' with q1 q2;subst q1 q2;refine .inr ⟨g,o+1,cur,rfl,hb,fun j u hu=>?_⟩;rw [List.map_drop,List.getElem?_drop] at hu;have:=hc (1+j) u hu;rw [show o+1+j=o+(1+j) by omega];exact this
theorem ql6(v:Value)(d:List Int)(w:World)(h:RI w v d):Calls Tryz.prog 128 #[v] w (q0e w (qbj d)):=by
 obtain⟨A,n,c,rfl,hnc,hn⟩:=h.form';have hle:=h.le;rw [<-hn] at hle;have Hn:=Lib.hid hn;by_cases hv:qa3 d=true
 . have Hv:=Lib.hid hv;have zC:n<=10:=by rw [hn];exact(qb0.1 hv).1
   by_cases h0:n=0
   . have hd:d=[]:=List.eq_nil_of_length_eq_zero (by omega);have hlt:((n:Int) == 0)=true:=by simp [h0]
     have Hr:Hid (qbj d=none):=by show _=_;rw [hd];unfold qbj;simp
     clear hv hn hd h0;go_enter Tryz.func128,Tryz.ntmps128;go_wp2_with fail;refine(qdb _ d _ h Hv.out).mono ?_;rintro e w1 ⟨rfl,hg1⟩;go_wp2_with fail;refine bodyPost_ret (v:=.tuple #[.slice (some ⟨w1.heap.size,0,none⟩) 0 0,.int .i64 0,.bool false]) (by simp [results,Tryz.results128,go_sem]) rfl ?_;rw [Hr.out];exact⟨_,0,rfl,(qf.empty w1 (Nat.le_refl _)).ri,qap hg1 _⟩
   . have Hr:Hid (qbj d=some (d.drop 1,d.getD 0 0)):=by show _=_;exact qrc hv (by omega)
     have hge:((n:Int) == 0)=false:=by simp [h0]
     have hn1:1<=n:=by omega
     clear hv hn h0;go_enter Tryz.func128,Tryz.ntmps128;go_wp2_with fail;refine(qdb _ d _ h Hv.out).mono ?_;rintro e w1 ⟨rfl,hg1⟩;have h1:=h.new hg1;obtain⟨g,o,x,rfl,hx,c0⟩:=h1.at_ (k:=0) (by omega);have Hx:Hid (d.getD 0 0=x):=by show _=_;rw [List.getD_eq_getElem?_getD,hx];rfl
     have hE:qf (w1.alloc (.cells #[] 3)).drew w1.heap.size (.slice (some ⟨w1.heap.size,0,none⟩) 0 0) []:=qf.empty w1 (Nat.le_refl _);have hgE:w1.grownBy (w1.alloc (.cells #[] 3)).drew none:=qax (World.grownBy_alloc w1 _ none);have hlen:([]:List Int).length+(d.drop 1).length<=1000000000:=by simp only [List.length_nil,List.length_drop];have:=Hn.out;omega
     have hmc:(1:Int)<=(n:Int):=by omega
     have qfL:(0:Int) < (n:Int):=by omega
     have qfM:0 < n:=by omega
     rw [Nat.add_zero] at c0;have qiR:(n:Int)<=(c:Int):=by omega
     obtain⟨ox,hox,hD⟩:=h1.tail hn1;have c0A:=qdi c0 (World.grownBy_alloc w1 (.cells #[] 3) none);have hDE:=hD.new hgE;clear hx;go_wp2_with fail
     go_region_law (refine qdt (w:=(w1.alloc (.cells #[] 3)).drew) (base:=w1.heap.size) (v:=.slice (some ⟨w1.heap.size,0,none⟩) 0 0) (xv:=.slice (some ⟨g,ox,none⟩) (n - 1) (c - 1)) (l0:=[]) (l:=d.drop 1) (.tmp 14) (.tmp 16) rfl rfl hE hDE hlen hgE.size rfl rfl ?_;intro v' w4 qn hg4;have hg5:=hE.gb hgE hg4 (Nat.le_refl _);have c4:=qdi c0 hg5;obtain⟨A4,n4,c4',rfl⟩:=qn.ri.val)
     all_goals
       go_wp2_with fail;refine bodyPost_ret (v:=.tuple #[.slice A4 n4 c4',.int .i64 x,.bool true]) (by simp [results,Tryz.results128,go_sem]) rfl ?_;rw [Hr.out,Hx.out];exact⟨_,rfl,(by simpa using qn.low hg1.size),qac hg1 hg5⟩
 . have hv':qa3 d=false:=by simpa using hv
   have Hv:=Lib.hid hv';have Hr:=Lib.hid (qsd hv');clear hv hv' hn;go_enter Tryz.func128,Tryz.ntmps128;go_wp2_with fail;refine(qdb _ d _ h Hv.out).mono ?_;rintro e w1 ⟨rfl,hg1⟩;go_wp2_with fail;refine bodyPost_ret (v:=.tuple #[.slice (some ⟨w1.heap.size,0,none⟩) 0 0,.int .i64 0,.bool false]) (by simp [results,Tryz.results128,go_sem]) rfl ?_;rw [Hr.out];exact⟨_,0,rfl,(qf.empty w1 (Nat.le_refl _)).ri,qap hg1 _⟩
theorem qw2{L:List (List Int)}{k:Nat}{d:List Int}(h:L[k]?=some d):(L.take (k+1)).flatten=(L.take k).flatten++d:=by
 obtain⟨hk,rfl⟩:=List.getElem?_eq_some_iff.1 h;rw [List.take_succ_eq_append_getElem hk,List.flatten_append];simp
theorem q2g{d:List Int}{j:Nat}{y:Int}(x:Int)(h:d[j]?=some y):(d.take (j+1)).count x=(d.take j).count x+if y=x then 1 else 0:=by
 obtain⟨hk,rfl⟩:=List.getElem?_eq_some_iff.1 h;rw [List.take_succ_eq_append_getElem hk,List.count_append,List.count_singleton];by_cases e:d[j]=x
 . simp [e]
 . simp [e]
theorem q0f{L:List (List Int)}{b:Nat}(h:∀ d∈L,d.length<=b):L.flatten.length<=L.length * b:=by
 induction L with
 | nil=>simp
 | cons d L ih=>
   have h1:=h d (by simp);have h2:=ih (fun x hx=>h x (by simp [hx]));rw [List.flatten_cons,List.length_append,List.length_cons,Nat.add_mul];omega
def q83(w:World)(n:Nat)(e:Ending)(w':World):Prop:=∃ z:Int,e=.returned (.tuple #[.int .i64 (n:Nat),.int .i64 z])/\w.grownBy w' none
theorem qw3(v:Value)(c:qj)(x:Int)(w:World)(h:CV w v c)(hb:c.qb.length<=100)(hb2:∀ d∈c.qb,d.length<=1048576) :
   Calls Tryz.prog 161 #[v,.int .i64 x] w (q83 w (c.qb.flatten.count x)):=by
 obtain⟨A1,n1,c1,A2,n2,c2,A3,n3,c3,A4,n4,c4,rfl,h1,-,-,-⟩:=h.form;have hX:=h.box;have hgW:=World.grownBy_alloc w (.cells #[.slice A1 n1 c1,.slice A2 n2 c2,.slice A3 n3 c3,.slice A4 n4 c4] 29) none;have hn:=h1.len;have qfN:n1<=100:=by omega
 have Hn:=Lib.hid hn;have Hb2:=Lib.hid hb2;clear hn hb hb2 h1 h;go_enter Tryz.func161,Tryz.ntmps161;go_wp2_with fail
 go_loopg [6,7,8] (n1+1) (fun mm m wk i wr=>∃ (k:Nat) (z:Int),k<=n1/\mm=n1+1 - k/\i=.int .i64 k/\m=.int .i64 ((c.qb.take k).flatten.count x:Nat)/\wk=.int .i64 z/\jy wr w.heap.size (.slice A1 n1 c1) (.slice A2 n2 c2) (.slice A3 n3 c3) (.slice A4 n4 c4) c/\w.grownBy wr none)
 case atStart=>exact⟨0,-1,Nat.zero_le _,rfl,rfl,rfl,rfl,hX,hgW⟩
 case round=>
   clear hX hgW;obtain⟨k,z,hk,rfl,rfl,rfl,rfl,hX,hg⟩:=hrel;have d0:=hX.d0;by_cases hlt:k < n1
   . obtain⟨g,o,d,B,m,e,rfl,hx,c0,hd,hm,-,-⟩:=hX.dq.at_ hlt;have hdl:=Hb2.out d (List.mem_of_getElem? hx)
     have hfl:((c.qb.take k).flatten.count x)<=104857600:=by
       refine Nat.le_trans List.count_le_length (Nat.le_trans (q0f (b:=1048576) (fun y hy=>Hb2.out y (List.mem_of_mem_take hy))) ?_);have:(c.qb.take k).length<=100:=by rw [List.length_take];omega
       calc (c.qb.take k).length * 1048576<=100 * 1048576:=Nat.mul_le_mul_right _ this
         _<=104857600:=by omega
     have Hf:Hid ((c.qb.take (k+1)).flatten.count x=(c.qb.take k).flatten.count x+d.count x):=by
       show _=_;rw [qw2 hx,List.count_append]
     have Hm:=Lib.hid hm;have hml:m<=1048576:=by omega
     generalize (c.qb.take k).flatten.count x=q at hfl Hf |-;clear hx hm hdl;go_wp2_with fail
     go_loopg [6,7,9] (m+1) (fun mm mq wk i wq=>∃ (j:Nat) (z:Int),j<=m/\mm=m+1 - j/\i=.int .i64 j/\mq=.int .i64 ((q+(d.take j).count x:Nat):Int)/\wk=.int .i64 z/\wq=wr)
     case atStart=>exact⟨0,z,Nat.zero_le _,rfl,rfl,by simp,rfl,rfl⟩
     case round=>
       obtain⟨j,z2,hj,rfl,rfl,rfl,rfl,rfl⟩:=hrel;by_cases hlj:j < m
       . obtain⟨g2,o2,y,rfl,hy,e0⟩:=hd.at_ hlj;have hct:=q2g x hy;have hcl:(d.take j).count x<=1048576:=Nat.le_trans List.count_le_length (by rw [List.length_take];omega);clear hy;by_cases hyx:y=x
         . have hq:(y == x)=true:=by simpa using hyx
           rw [if_pos hyx] at hct;have Hct:=Lib.hid hct;clear hyx hct;go_wp2_with fail;go_roundg (m+1 - (j+1))
           case measure=>omega
           case rel=>exact⟨j+1,k,by omega,rfl,by go_num,by rw [Hct.out];go_num,rfl,rfl⟩
         . have hq:(y == x)=false:=by simpa using hyx
           rw [if_neg hyx] at hct;have Hct:=Lib.hid hct;clear hyx hct;go_wp2_with fail;go_roundg (m+1 - (j+1))
           case measure=>omega
           case rel=>exact⟨j+1,z2,by omega,rfl,by go_num,by rw [Hct.out];go_num,rfl,rfl⟩
       . obtain rfl:j=m:=by omega
         have Hd:Hid ((d.take j).count x=d.count x):=by
           show _=_;rw [List.take_of_length_le (by rw [<-Hm.out];exact Nat.le_refl _)]
         go_wp2_with fail;go_roundg (n1+1 - (k+1))
         case measure=>omega
         case rel=>exact⟨k+1,z2,by omega,rfl,by go_num,by rw [Hf.out,Hd.out],rfl,hX,hg⟩
   . obtain rfl:k=n1:=by omega
     have Hr:Hid ((c.qb.take k).flatten.count x=c.qb.flatten.count x):=by
       show _=_;rw [List.take_of_length_le (by rw [<-Hn.out];exact Nat.le_refl _)]
     go_wp2_with fail
     go_ret2
     exact⟨z,by rw [Hr.out];rfl,hg⟩
theorem qox{qa:List Node}{D:List Int}{k:Nat}{x:Int}(h:D[k]?=some x):qa8 qa (D.take (k+1))=qbi qa (qa8 qa (D.take k)) x:=by
 obtain⟨hk,rfl⟩:=List.getElem?_eq_some_iff.1 h;unfold qa8;rw [List.take_succ_eq_append_getElem hk,List.foldl_append];rfl
theorem qrd(qa:List Node)(D:List Int):(qa8 qa D).length=qa.length:=by
 unfold qa8
 have:∀ (D:List Int) (cs:List Int),cs.length=qa.length->(D.foldl (qbi qa) cs).length=qa.length:=by
   intro D
   induction D with
   | nil=>intro cs h;exact h
   | cons x D ih=>intro cs h;exact ih _ (by rw [qg3];exact h)
 exact this D _ (by unfold qa6;rw [List.length_map,List.length_range])
theorem q0g{qa:List Node}(hv:qae qa=true)(D:List Int):∀ y∈lefts qa D,-1000<=y/\y<=1000:=by
 intro y hy;unfold lefts at hy;obtain⟨i,hi,rfl⟩:=List.mem_map.1 hy;have hi:=List.mem_range.1 hi;have h1:=q23 qa D i
 have h2:(qb2 qa i).length<=2:=by
   rw [qgd];refine Nat.le_trans (qpj _) ?_;rw [qdk (List.getElem?_eq_getElem hi)];exact(qa4 hv (List.getElem?_eq_getElem hi)).2.1
 omega
theorem qkh(pv v:Value)(qa:List Node)(c:qj)(w:World)(hp:RN w pv qa)(h:CV w v c)(hv:qae qa=true)(ho:qbu qa c.done=true){b:Bool}(hb:decide (c.counts=qa8 qa c.done)=b) :
   Calls Tryz.prog 159 #[pv,v] w fun e w'=>e=.returned (.bool b)/\w.grownBy w' none:=by
 obtain⟨A,n,cp,rfl,-,-,-⟩:=hp.form';obtain⟨A1,n1,c1,A2,n2,c2,A3,n3,c3,A4,n4,c4,rfl,-,h2,h3,-⟩:=h.form;have hX:=h.box;have hgW:=World.grownBy_alloc w (.cells #[.slice A1 n1 c1,.slice A2 n2 c2,.slice A3 n3 c3,.slice A4 n4 c4] 29) none;have hpW:=hp.new hgW;have hn:=h3.len;have hnb:n3<=9223372036854775807:=by have:=h3.le;omega
 have Hn:=Lib.hid hn;have Hv:=Lib.hid hv;have Ho:=Lib.hid ho;have Hb:=Lib.hid hb;clear hn hb hv ho h2 h3 h hp;go_enter Tryz.func159,Tryz.ntmps159;go_wp2_with fail;refine(ql4 _ qa _ hpW Hv.out).mono ?_;rintro e w1 ⟨v1,rfl,hown1,hg1⟩;have hX1:=hX.new hg1;have hp1:=hpW.new hg1;have hg:=qac hgW hg1;have hc0:RI w1 v1 (qa8 qa (c.done.take 0)):=hown1.ri;obtain⟨A5,n5,c5,rfl⟩:=hc0.val;clear hown1 hg1;go_wp2_with fail
 go_loopg [5,6] (n3+1) (fun mm cv i wr=>∃ k:Nat,k<=n3/\mm=n3+1 - k/\i=.int .i64 k/\RI wr cv (qa8 qa (c.done.take k))/\w1.grownBy wr none)
 case atStart=>exact⟨0,Nat.zero_le _,rfl,rfl,hc0,qag _ _⟩
 case round=>
   clear hc0;obtain⟨k,hk,rfl,rfl,hcv,hgk⟩:=hrel;have hXk:=hX1.new hgk;have d2:=hXk.d2;have d1:=hXk.d1;by_cases hlt:k < n3
   . obtain⟨g,o,y,rfl,hy,c0⟩:=hXk.dn.at_ hlt;have qdC:qa8 qa (c.done.take k)=lefts qa (c.done.take k):=qm6 Hv.out Ho.out k (by rw [<-Hn.out];omega);have Hs:Hid (qa8 qa (c.done.take (k+1))=qbi qa (qa8 qa (c.done.take k)) y):=qox hy;have Hin:Hid (∀ y∈qa8 qa (c.done.take k),-1000<=y/\y<=1000):=by rw [qdC];exact q0g Hv.out _
     clear hy qdC;go_wp2_with fail;refine(qrb _ _ qa _ y _ (hp1.new hgk) hcv Hv.out (qrd _ _) Hin.out).mono ?_;rintro e w2 ⟨v2,u2,rfl,hc2,hr2,hg2⟩;rw [<-Hs.out] at hc2;have hg3:=qac hgk hg2;have hc3:=hc2.ri;obtain⟨A6,n6,c6,rfl⟩:=hc3.val;obtain⟨A7,n7,c7,rfl⟩:=hr2.ri.val;clear hc2 hr2;go_wp2_with fail;go_roundg (n3+1 - (k+1))
     case measure=>omega
     case rel=>exact⟨k+1,by omega,rfl,by go_num,hc3,hg3⟩
   . obtain rfl:k=n3:=by omega
     have Hr:Hid (decide (qa8 qa (c.done.take k)=c.counts)=b):=by
       show _=_;rw [<-Hb.out,List.take_of_length_le (by rw [<-Hn.out];exact Nat.le_refl _),decide_eq_decide];exact eq_comm
     obtain⟨A6,n6,c6,rfl⟩:=hcv.val;have h2k:=hXk.ct;go_wp2_with fail;refine(qi1 _ _ _ _ _ hcv h2k Hr.out).mono ?_;rintro e w2 ⟨rfl,hg2⟩;go_wp2_with fail;go_ret;exact⟨rfl,qac (qac hg hgk) hg2⟩
def q4m(w:World)(ll:List (List Int))(e:Ending)(w':World):Prop:=∃ v',e=.returned v'/\jf w' w.heap.size v' ll/\w.grownBy w' none
theorem qlv(v:Value)(ll:List (List Int))(w:World)(h:RL w v ll)(hl:ll.length<=1000)(hll:∀ l∈ll,l.length<=1000):Calls Tryz.prog 182 #[v] w (q4m w ll):=by
 obtain⟨A,n,c,rfl,hc,hn,hnx⟩:=h.form';have qiS:n<=1000:=by omega
 have Hn:=Lib.hid hn;have Hll:=Lib.hid hll;clear hn hll;obtain⟨i0,hi,hz0,hz1,hz2⟩:=info_parts qnd;go_enter Tryz.func182,Tryz.ntmps182;go_wp2_with (at_make;go_must (refine wpList_make_full _ rfl _ _ 27 rfl w.heap.size 24 i0 _ 1 Tryz.underlying27 hi hz0 hz1 _ _ _ _ n rfl rfl rfl rfl (by rw [hz2];omega) (by unfold maxLen;omega) (Nat.le_refl _) ?_));intro w0 hown0 hg0
 have hO0:jf w0 w.heap.size (.slice (some ⟨w.heap.size,0,none⟩) n n) (List.replicate n []):=by
   refine jf.made ?_;have e:n * 1=n:=Nat.mul_one n
   first | exact hown0 | (rw [e] at hown0;exact hown0) | (simp at hown0;exact hown0)
 clear hown0;go_wp2_with fail
 go_loopg [11] (n+1) (fun mm i wr=>∃ k:Nat,k<=n/\mm=n+1 - k/\i=.int .i64 k/\Hid (jf wr w.heap.size (.slice (some ⟨w.heap.size,0,none⟩) n n) (ll.take k++List.replicate (n - k) []))/\w.grownBy wr none)
 case atStart=>exact⟨0,Nat.zero_le _,rfl,rfl,hO0,hg0⟩
 case round=>
   clear hO0 hg0;obtain⟨k,hk,rfl,rfl,HO,hg⟩:=hrel;by_cases hlt:k < n
   . obtain⟨g,o,l,B,m,e,rfl,hx,c0,hrl,-,-,-⟩:=(h.new hg).at_ hlt;have hl2:l.length<=1000000000:=by have:=Hll.out l (List.mem_of_getElem? hx);omega
     have hset:Hid ((ll.take k++List.replicate (n - k) ([]:List Int)).set k l=ll.take (k+1)++List.replicate (n - (k+1)) []):=by
       show _=_;obtain⟨hk',hx'⟩:=List.getElem?_eq_some_iff.1 hx;have hsl:(ll.take k).length=k:=by rw [List.length_take];omega
       rw [List.set_append_right _ _ (by omega),hsl,Nat.sub_self,show n - k=n - (k+1)+1 by omega,List.replicate_succ,List.set_cons_zero,List.take_succ_eq_append_getElem hk',hx',List.append_assoc];rfl
     have xB:Hid (k < (ll.take k++List.replicate (n - k) ([]:List Int)).length):=by
       show _ < _;rw [List.length_append,List.length_replicate,List.length_take,<-Hn.out];omega
     clear hx;go_wp2_with fail;refine(qgy _ l _ hrl hl2).mono ?_;rintro e' w4 ⟨u,rfl,ho,hg4⟩;have hO4:=HO.out.new hg4;obtain⟨u0,c4,f4⟩:=hO4.cell xB.out;have hO5:=HO.out.qC hg4 hg.size xB.out ho;rw [hset.out] at hO5;have HO5:=Lib.hid hO5;have hg5:w.grownBy (w4.setCell ⟨w.heap.size,k,none⟩ u) none:=qa2 (p:=⟨w.heap.size,k,none⟩) (qac hg hg4) (.inl (Nat.le_refl _)) _;obtain⟨A',n',c',rfl⟩:=ho.ri.val;clear hO4 hO5 HO ho;go_wp2_with fail;go_roundg (n+1 - (k+1))
     case measure=>omega
     case rel=>exact⟨k+1,by omega,rfl,by go_num,HO5,hg5⟩
   . obtain rfl:k=n:=by omega
     have hO2:jf wr w.heap.size (.slice (some ⟨w.heap.size,0,none⟩) k k) ll:=by
       have:=HO.out;rw [Nat.sub_self,List.replicate_zero,List.append_nil,List.take_of_length_le (by rw [<-Hn.out];exact Nat.le_refl _)] at this;exact this
     clear HO;go_wp2_with fail;go_ret;exact⟨_,rfl,hO2,hg⟩
end
end Go.Proofs.YtacemdoejblgaaaGreatDoor

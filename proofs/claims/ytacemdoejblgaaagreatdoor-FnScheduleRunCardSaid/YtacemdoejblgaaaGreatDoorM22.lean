/- Part 22. Conditions: each statement's. -/
import Derived.Test.YtacemdoejblgaaaGreatDoorM21
namespace Go.Proofs.YtacemdoejblgaaaGreatDoor
set_option maxHeartbeats 6400000
set_option maxRecDepth 100000
section
open Go.RowKit
end
section
open Go.RowKit
end
section
open Go.RowKit
def marks(f:Nat->Bool):Array Value:=#[.bool (f 0),.bool (f 1),.bool (f 2),.bool (f 3),.bool (f 4),.bool (f 5),.bool (f 6),.bool (f 7),.bool (f 8),.bool (f 9)]
theorem q4x(f:Nat->Bool){k:Nat}(h:k < 10):(marks f)[k]?=some (.bool (f k)):=by
 rcases (show k=0∨k=1∨k=2∨k=3∨k=4∨k=5∨k=6∨k=7∨k=8∨k=9 by omega) with rfl | rfl | rfl | rfl | rfl | rfl | rfl | rfl | rfl | rfl
 all_goals rfl
def qy6(f:Nat->Bool)(k:Nat):Nat->Bool:=fun i=>decide (i=k) || f i
theorem qw6(f:Nat->Bool){k:Nat}(h:k < 10):(marks f).setIfInBounds k (.bool true)=marks (qy6 f k):=by
 rcases (show k=0∨k=1∨k=2∨k=3∨k=4∨k=5∨k=6∨k=7∨k=8∨k=9 by omega) with rfl | rfl | rfl | rfl | rfl | rfl | rfl | rfl | rfl | rfl
 all_goals rfl
def MK(w:World)(gb:Nat)(f:Nat->Bool):Prop:=Blk w gb 78 (marks f)
theorem MK.cell{w:World}{gb:Nat}{f:Nat->Bool}(h:MK w gb f){k:Nat}(hk:k < 10):w.cell? ⟨gb,k,none⟩=some (.bool (f k)):=(Blk.cell h k).trans (q4x f hk)
theorem ql7(v:Value)(l:List Int)(gb:Nat)(f:Nat->Bool)(w:World)(h:RI w v l)(hm:MK w gb f)(hin:∀ x∈l,0<=x/\x < 10){b:Bool}(hb:l.all (fun x=>f x.toNat)=b) :
   Calls Tryz.prog 81 #[v,.pointer (some ⟨gb,0,none⟩)] w fun e w'=>e=.returned (.bool b)/\w=w':=by
 obtain⟨A,n,c,rfl,-,hn⟩:=h.form';have hle:=h.le;rw [<-hn] at hle;have Hn:=Lib.hid hn;have Hb:=Lib.hid hb;have Hin:=Lib.hid hin;clear hn hb hin;go_enter Tryz.func81,Tryz.ntmps81;go_wp2_with fail
 go_loopg [9] (n+1) (fun m i wx=>∃ k:Nat,k<=n/\m=n+1 - k/\i=.int .i64 k/\Hid ((l.take k).all (fun x=>f x.toNat)=true)/\wx=w)
 case atStart=>exact⟨0,Nat.zero_le _,rfl,rfl,rfl,rfl⟩
 case round=>
   obtain⟨k,hk,rfl,rfl,q9,hw⟩:=hrel;subst hw;by_cases hlt:k < n
   . obtain⟨g,o,x,rfl,hx,c0⟩:=h.at_ hlt;have hxb:=Hin.out x (List.mem_of_getElem? hx);obtain⟨q,rfl⟩:=Int.eq_ofNat_of_zero_le hxb.1;have hq:q < 10:=by omega
     have c1:=hm.cell hq;have Hx:=Lib.hid hx;clear hx hxb;by_cases hf:f q=true
     . have qbE:Hid ((l.take (k+1)).all (fun x=>f x.toNat)=true):=by
         show _=_;rw [qfw _ Hx.out,q9.out,Int.toNat_natCast,hf];rfl
       rw [hf] at c1;clear hf;go_wp2_with fail;go_roundg (n+1 - (k+1))
       case measure=>omega
       case rel=>exact⟨k+1,by omega,rfl,by go_num,qbE,rfl⟩
     . have hf':f q=false:=by simpa using hf
       have Hr:Hid (b=false):=by
         show b=false;rw [<-Hb.out,List.all_eq_false];exact⟨_,List.mem_of_getElem? Hx.out,by simpa using hf'⟩
       rw [hf'] at c1;clear hf hf';go_wp2_with fail;go_ret;exact⟨by rw [Hr.out];rfl,rfl⟩
   . obtain rfl:k=n:=by omega
     have Hr:Hid (b=true):=by
       show b=true;rw [<-Hb.out];have:=q9.out;rw [List.take_of_length_le (by rw [<-Hn.out];exact Nat.le_refl _)] at this;exact this
     go_wp2_with fail;go_ret;exact⟨by rw [Hr.out];rfl,rfl⟩
def qcn(n:Nat)(l:List Int)(i:Nat):Bool:=decide (i < n) && decide ((i:Int)∈l)
theorem qri(n:Nat){l:List Int}{k:Nat}{x:Int}(h:l[k]?=some x):qcn n (l.take (k+1))=if 0<=x/\x < n then qy6 (qcn n (l.take k)) x.toNat else qcn n (l.take k):=by
 obtain⟨hk,rfl⟩:=List.getElem?_eq_some_iff.1 h;funext i
 have e:((i:Int)∈l.take (k+1))↔(i:Int)∈l.take k∨(i:Int)=l[k]:=by
   rw [List.take_succ_eq_append_getElem hk,List.mem_append,List.mem_singleton]
 split
 . rename_i hx;unfold qcn qy6;rw [Bool.eq_iff_iff];simp only [Bool.and_eq_true,Bool.or_eq_true,decide_eq_true_eq,e];constructor
   . rintro⟨h1,h2 | h2⟩
     . exact .inr ⟨h1,h2⟩
     . left;omega
   . rintro(h1 | ⟨h1,h2⟩)
     . exact⟨by omega,.inr (by omega)⟩
     . exact⟨h1,.inl h2⟩
 . rename_i hx;unfold qcn;rw [Bool.eq_iff_iff];simp only [Bool.and_eq_true,decide_eq_true_eq,e];constructor
   . rintro⟨h1,h2 | h2⟩
     . exact⟨h1,h2⟩
     . exfalso;omega
   . rintro⟨h1,h2⟩;exact⟨h1,.inl h2⟩
theorem qy7(v dv:Value)(qa:List Node)(done:List Int)(w:World)(h:RN w v qa)(hd:RI w dv done)(hv:qae qa=true) :
   Calls Tryz.prog 84 #[v,dv] w (qes w (qao qa done)):=by
 obtain⟨A,n,c,rfl,-,hn,-⟩:=h.form';have zC:n<=10:=by have:=qal hv;omega
 have Hn:=Lib.hid hn;have Hv:=Lib.hid hv;have hdl:=hd.le;obtain⟨Ad,m,cd,rfl,-,hm⟩:=hd.form';rw [<-hm] at hdl;have Hm:=Lib.hid hm;clear hn hv hm;go_enter Tryz.func84,Tryz.ntmps84;go_wp2_with fail;refine(qb6 _ qa _ h Hv.out).mono ?_;rintro e w1 ⟨rfl,hg1⟩;have hs1:=hg1.size
 have hM0:MK (w1.alloc (.cells #[.bool false,.bool false,.bool false,.bool false,.bool false,.bool false,.bool false,.bool false,.bool false,.bool false] 78)) w1.heap.size (qcn n (done.take 0)):=by
   have e:marks (qcn n (done.take 0))=#[.bool false,.bool false,.bool false,.bool false,.bool false,.bool false,.bool false,.bool false,.bool false,.bool false]:=by
     have:qcn n (done.take 0)=fun _=>false:=by
       funext i;simp [qcn]
     rw [this];rfl
   show Blk _ _ _ _;rw [e];exact Blk.new w1 _ _
 have hg2:w.grownBy (w1.alloc (.cells #[.bool false,.bool false,.bool false,.bool false,.bool false,.bool false,.bool false,.bool false,.bool false,.bool false] 78)) none:=qap hg1 _;go_wp2_with fail
 go_loopg [16] (m+1) (fun mm i wr=>∃ k:Nat,k<=m/\mm=m+1 - k/\i=.int .i64 k/\Hid (MK wr w1.heap.size (qcn n (done.take k)))/\w.grownBy wr none)
 case atStart=>exact⟨0,Nat.zero_le _,rfl,rfl,hM0,hg2⟩
 case round=>
   clear hM0 hg2;obtain⟨k,hk,rfl,rfl,HM,hg⟩:=hrel;by_cases hlt:k < m
   . obtain⟨g,o,x,rfl,hx,c0⟩:=(hd.new hg).at_ hlt;have hsn:=qri n hx;by_cases hxn:0<=x/\x < n
     . rw [if_pos hxn] at hsn;obtain⟨q,rfl⟩:=Int.eq_ofNat_of_zero_le hxn.1;have hq:q < n:=by omega
       have c1:=HM.out.cell (k:=q) (by omega);have f1:wr.frozen? ⟨w1.heap.size,q,none⟩=false:=Blk.frozen HM.out q
       have HM2:Hid (MK (wr.setCell ⟨w1.heap.size,q,none⟩ (.bool true)) w1.heap.size (qcn n (done.take (k+1)))):=by
         show Blk _ _ _ _;rw [hsn,Int.toNat_natCast,<-qw6 _ (by omega)];exact Blk.qC HM.out q _
       have hg2:w.grownBy (wr.setCell ⟨w1.heap.size,q,none⟩ (.bool true)) none:=qa2 (p:=⟨w1.heap.size,q,none⟩) hg (.inl hs1) _;clear hx hsn HM hxn;go_wp2_with fail;refine(qfa A n c q _ (b:=true) (by simp;omega)).mono ?_;rintro e w2 ⟨rfl,rfl⟩;go_wp2_with fail;go_roundg (m+1 - (k+1))
       case measure=>omega
       case rel=>exact⟨k+1,by omega,rfl,by go_num,HM2,hg2⟩
     . rw [if_neg hxn] at hsn;rw [<-hsn] at HM
       have hbn:(decide (0<=x) && decide (x < (n:Int)))=false:=by
         rw [Bool.and_eq_false_iff,decide_eq_false_iff_not,decide_eq_false_iff_not];omega
       have Hbn:=Lib.hid hbn;clear hx hsn hxn hbn;go_wp2_with fail;refine(qfa A n c x _ Hbn.out).mono ?_;rintro e w2 ⟨rfl,rfl⟩;go_wp2_with fail;go_roundg (m+1 - (k+1))
       case measure=>omega
       case rel=>exact⟨k+1,by omega,rfl,by go_num,HM,hg⟩
   . obtain rfl:k=m:=by omega
     have HM2:Hid (MK wr w1.heap.size (qcn n done)):=by
       have:=HM.out;rw [List.take_of_length_le (by rw [<-Hm.out];exact Nat.le_refl _)] at this;exact this
     clear HM;obtain⟨wo,rfl⟩:∃ wo:World,wo=wr:=⟨_,rfl⟩;go_wp2_with fail
     go_loopg [8,28] (n+1) (fun mm r i wr=>∃ t:Nat,t<=n/\mm=n+1 - t/\i=.int .i64 t/\qf wr w.heap.size r (qce qa done t)/\Hid (MK wr w1.heap.size (qcn n done))/\w.grownBy wr none)
     case atStart=>exact⟨0,Nat.zero_le _,rfl,rfl,qf.nil _ _,HM2,hg⟩
     case round=>
       clear HM2 hg;obtain⟨t,ht,rfl,rfl,ho,HM,hg⟩:=hrel;obtain⟨Ar,nr,cr,rfl⟩:=ho.ri.val;have hrl:=qj3 qa done t;by_cases htn:t < n
       . obtain⟨g,o,nd,f,r,rfl,hx,c0,c1,c2,hf,hr⟩:=(h.new hg).at_ htn;have hfit:=(qa4 Hv.out hx).1;have c3:=HM.out.cell (k:=t) (by omega);obtain⟨Af,nf,cf,rfl⟩:=hf.val;obtain⟨Arr,nrr,crr,rfl⟩:=hr.val;have hin:qcn n done t=decide ((t:Int)∈done):=by simp [qcn,htn]
         rw [hin] at c3
         have hall:nd.frm.all (fun x=>qcn n done x.toNat)=nd.frm.all (fun x=>decide (x∈done)):=by
           rw [Bool.eq_iff_iff,List.all_eq_true,List.all_eq_true]
           have key:∀ x∈nd.frm,qcn n done x.toNat=decide (x∈done):=by
             intro x hx';have:=qcj hfit hx';unfold qcn;rw [Int.toNat_of_nonneg this.1,decide_eq_true (show x.toNat < n by omega),Bool.true_and]
           constructor
           . intro h1 x hx';rw [<-key x hx'];exact h1 x hx'
           . intro h1 x hx';rw [key x hx'];exact h1 x hx'
         have Hin:=Lib.hid (fun x (hx':x∈nd.frm)=>(show 0<=x/\x < 10 from by have:=qcj hfit hx';omega));have hsn:=qet done hx;have hrn:qdj done (nd,t)=(!decide ((t:Int)∈done) && nd.frm.all (fun x=>decide (x∈done))):=rfl;rw [hrn] at hsn;have Hsn:=Lib.hid hsn;have hgA:=World.grownBy_alloc wr (.cells #[.int .i64 nd.kind,.slice Af nf cf,.slice Arr nrr crr] 81) none;have HM2:Hid (MK (wr.alloc (.cells #[.int .i64 nd.kind,.slice Af nf cf,.slice Arr nrr crr] 81)) w1.heap.size (qcn n done)):=Blk.alloc HM.out _;have hoA:=ho.alloc (.cells #[.int .i64 nd.kind,.slice Af nf cf,.slice Arr nrr crr] 81);have hfA:=hf.alloc (.cells #[.int .i64 nd.kind,.slice Af nf cf,.slice Arr nrr crr] 81);have hgB:=qac hg hgA
         have c4:(wr.alloc (.cells #[.int .i64 nd.kind,.slice Af nf cf,.slice Arr nrr crr] 81)).cell? ⟨w1.heap.size,t,none⟩=some (.bool (decide ((t:Int)∈done))):=by
           have:=HM2.out.cell (k:=t) (by omega);rw [hin] at this;exact this
         clear hx hsn hrn hin hr hfit c3 HM ho hg hgA hf;by_cases hd0:(t:Int)∈done
         . rw [decide_eq_true hd0] at Hsn c4
           have yS:Hid (qce qa done (t+1)=qce qa done t):=by
             show _=_;rw [Hsn.out,Bool.not_true,Bool.false_and,if_neg (by simp)]
           clear hd0 Hsn;go_wp2_with fail;go_roundg (n+1 - (t+1))
           case measure=>omega
           case rel=>exact⟨t+1,by omega,rfl,by go_num,by rw [yS.out];exact hoA,HM2,hgB⟩
         . rw [decide_eq_false hd0] at Hsn c4;clear hd0;by_cases ha:nd.frm.all (fun x=>decide (x∈done))=true
           . have yS:Hid (qce qa done (t+1)=qce qa done t++[(t:Int)]):=by
               show _=_;rw [Hsn.out,Bool.not_false,Bool.true_and,if_pos ha]
             have Ha:=Lib.hid (hall.trans ha);clear ha Hsn hall;go_wp2_with fail;refine(ql7 _ nd.frm w1.heap.size (qcn n done) _ hfA HM2.out Hin.out Ha.out).mono ?_;rintro e w2 ⟨rfl,rfl⟩;go_wp2_with (at_builtin;go_must (refine qd9 (.tmp 42) (.tmp 44) rfl rfl hoA (by omega) hgB.size rfl rfl (World.size_alloc ..).symm ?_));intro v' w4 qn hg4;have hg5:=hoA.gb hgB hg4 (Nat.le_refl _);have HM4:Hid (MK w4 w1.heap.size (qcn n done)):=Blk.grown HM2.out hg4 (fun e=>hoA.qV (show 78≠3 by decide) _ e.symm _ HM2.out);rw [<-yS.out] at qn;go_wp2_with fail;go_roundg (n+1 - (t+1))
             case measure=>omega
             case rel=>exact⟨t+1,by omega,rfl,by go_num,qn,HM4,hg5⟩
           . have ha':nd.frm.all (fun x=>decide (x∈done))=false:=by simpa using ha
             have yS:Hid (qce qa done (t+1)=qce qa done t):=by
               show _=_;rw [Hsn.out,Bool.not_false,Bool.true_and,if_neg ha]
             have Ha:=Lib.hid (hall.trans ha');clear ha ha' Hsn hall;go_wp2_with fail;refine(ql7 _ nd.frm w1.heap.size (qcn n done) _ hfA HM2.out Hin.out Ha.out).mono ?_;rintro e w2 ⟨rfl,rfl⟩;go_wp2_with fail;go_roundg (n+1 - (t+1))
             case measure=>omega
             case rel=>exact⟨t+1,by omega,rfl,by go_num,by rw [yS.out];exact hoA,HM2,hgB⟩
       . obtain rfl:t=n:=by omega
         have ho2:qf wr w.heap.size (.slice Ar nr cr) (qao qa done):=by
           unfold qao;rw [if_pos Hv.out,<-Hn.out];exact ho
         clear ho;go_wp2_with fail;go_ret;exact⟨_,rfl,ho2,hg⟩
theorem qfk(k:Int)(w:World){b:Bool}(hb:(decide (1<=k) && decide (k<=4))=b) :
   Calls Tryz.prog 46 #[.int .i64 k] w fun e w'=>e=.returned (.bool b)/\w=w':=by
 subst hb;by_cases h0:1<=k
 . by_cases h1:k<=4
   . rw [decide_eq_true h0,decide_eq_true h1];go_enter Tryz.func46,Tryz.ntmps46;go_wp2_with fail;go_ret;exact⟨rfl,rfl⟩
   . rw [decide_eq_true h0,decide_eq_false h1];go_enter Tryz.func46,Tryz.ntmps46;go_wp2_with fail;go_ret;exact⟨rfl,rfl⟩
 . rw [decide_eq_false h0];go_enter Tryz.func46,Tryz.ntmps46;go_wp2_with fail;go_ret;exact⟨by simp,rfl⟩
end
end Go.Proofs.YtacemdoejblgaaaGreatDoor

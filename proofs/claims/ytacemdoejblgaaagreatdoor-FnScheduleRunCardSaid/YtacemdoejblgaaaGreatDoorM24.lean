/- Part 24. Conditions: each statement's. -/
import Derived.Test.YtacemdoejblgaaaGreatDoorM23
import Derived.Laws.EntriesVeiled
namespace Go.Proofs.YtacemdoejblgaaaGreatDoor
set_option maxHeartbeats 6400000
set_option maxRecDepth 100000
section
open Go.RowKit
theorem qi0{ops:Array Oper}{o:Oper}{a:Act}{K:Act->World->Prop}{Q:Exit->Act->World->Prop}{E:Prop}{w:World}{u:Int}
   (s x:Operand) (hgd:o.guard=none) (ho:o.op=.call { callee:=.builtin .append,args:=#[s,x],argTypes:=#[24,24] })
   {base:Nat} {v:Value} {l:List Int} (hown:qf w base v l) (hn:l.length<=1000000000) (hbase:base<=w.heap.size)
   (hs:a.eval s=v) (hx:a.eval x=.slice (some ⟨w.heap.size,0,none⟩) 1 1)
   (h:∀ v' w',qf w' base v' (l++[u])->w.grownBy w' v.ownBlock->K (a.put o.dst v') w') :
   if Region.wanted o (yielded ops a.tmps)=true then Oper.wp Tryz.prog o a (w.alloc (.cells #[.int .i64 u] 3)).drew K Q else E:=
 qkn (w:=w.drew) s x hgd ho hown hn hbase hs hx fun v' w' h1 h2=>h v' w' h1 ⟨h2.os,h2.tape,h2.output,h2.size,h2.block⟩
theorem qo3(va vb:Value)(a b:List Int)(w:World)(ha:RI w va a)(hb:RI w vb b){c:Bool}(hc:(qaj a && qaj b && decide (a.length=b.length))=c) :
   Calls Tryz.prog 225 #[va,vb] w fun e w'=>e=.returned (.bool c)/\w=w':=by
 obtain⟨A,n,d,rfl,_,hn⟩:=ha.form';obtain⟨B,m,d',rfl,_,hm⟩:=hb.form';rw [<-hn,<-hm] at hc;have Hc:=Lib.hid hc;clear hn hm hc;by_cases hva:qaj a=true
 . have Hva:=Lib.hid hva;by_cases hvb:qaj b=true
   . have Hvb:=Lib.hid hvb
     have Hr:Hid (c=((n:Int) == (m:Int))):=by
       show _=_;rw [<-Hc.out,hva,hvb,Bool.true_and,Bool.true_and,Bool.eq_iff_iff];simp;omega
     clear hva hvb;go_enter Tryz.func225,Tryz.ntmps225;go_wp2_with fail;refine(qbr _ a _ ha Hva.out).mono ?_;rintro e w' ⟨rfl,rfl⟩;go_wp2_with fail;refine(qbr _ b _ hb Hvb.out).mono ?_;rintro e w' ⟨rfl,rfl⟩;go_wp2_with fail;go_ret;exact⟨by rw [Hr.out];rfl,rfl⟩
   . have xF:qaj b=false:=by simpa using hvb
     have Hvb:=Lib.hid xF
     have Hr:Hid (c=false):=by
       show _=_;rw [<-Hc.out,xF];simp
     clear hva hvb xF;go_enter Tryz.func225,Tryz.ntmps225;go_wp2_with fail;refine(qbr _ a _ ha Hva.out).mono ?_;rintro e w' ⟨rfl,rfl⟩;go_wp2_with fail;refine(qbr _ b _ hb Hvb.out).mono ?_;rintro e w' ⟨rfl,rfl⟩;go_wp2_with fail;go_ret;exact⟨by rw [Hr.out];rfl,rfl⟩
 . have xG:qaj a=false:=by simpa using hva
   have Hva:=Lib.hid xG
   have Hr:Hid (c=false):=by
     show _=_;rw [<-Hc.out,xG];simp
   clear hva xG;go_enter Tryz.func225,Tryz.ntmps225;go_wp2_with fail;refine(qbr _ a _ ha Hva.out).mono ?_;rintro e w' ⟨rfl,rfl⟩;go_wp2_with fail;go_ret;exact⟨by rw [Hr.out];rfl,rfl⟩
theorem qsa(va vb:Value)(a b:List Int)(w:World)(ha:RI w va a)(hb:RI w vb b):Calls Tryz.prog 219 #[va,vb] w (qfv w (qkx a b)):=by
 obtain⟨A,n,c,rfl,hc,hn⟩:=ha.form';obtain⟨B,m,d,rfl,hd,hm⟩:=hb.form';have Hn:=Lib.hid hn;have Hm:=Lib.hid hm;clear hn hm;by_cases hok:(qaj a && qaj b && decide (a.length=b.length))=true
 . have Hr:Hid (qkx a b=some (qx vh a b)):=by show _=_;unfold qkx qdy;rw [if_pos hok]
   have Hok:=Lib.hid hok;simp only [Bool.and_eq_true,decide_eq_true_eq] at hok;have Hva:=Lib.hid hok.1.1;have Hvb:=Lib.hid hok.1.2;have hn6:n<=6:=by rw [Hn.out];exact qbx hok.1.1
   have hmn:m=n:=by rw [Hn.out,Hm.out];exact hok.2.symm
   subst hmn;clear hok;go_enter Tryz.func219,Tryz.ntmps219;go_wp2_with fail;refine(qo3 _ _ a b _ (ha.alloc _) (hb.alloc _) Hok.out).mono ?_;rintro e w' ⟨rfl,rfl⟩;have ho0:=qf.empty w (Nat.le_refl w.heap.size);have hg0:=World.grownBy_alloc w (.cells #[] 3) none;go_wp2_with fail
   go_loopg [6,7] (m+1) (fun mm o i wr=>∃ k:Nat,k<=m/\mm=m+1 - k/\i=.int .i64 k/\qf wr w.heap.size o (qx vh (a.take k) (b.take k))/\w.grownBy wr none)
   case atStart=>exact⟨0,Nat.zero_le _,rfl,rfl,ho0,hg0⟩
   case round=>
     clear ho0 hg0;obtain⟨k,hk,rfl,rfl,ho,hg⟩:=hrel;obtain⟨Ao,no,co,rfl⟩:=ho.ri.val;by_cases hlt:k < m
     . obtain⟨ga,oa,x,rfl,hx,c0⟩:=(ha.new hg).at_ hlt;obtain⟨gb,ob,y,rfl,hy,c1⟩:=(hb.new hg).at_ hlt;obtain⟨hx0,hx1⟩:=qc2 Hva.out (List.mem_of_getElem? hx);obtain⟨hy0,hy1⟩:=qc2 Hvb.out (List.mem_of_getElem? hy);have Hz:=Lib.hid (qkc vh hx hy);have hzl:=qgn vh (a:=a) (b:=b) (k:=k) (by rw [<-Hn.out];omega) (by rw [<-Hm.out];omega);have hl:(qx vh (a.take k) (b.take k)).length<=10:=by omega
       obtain⟨p,hp⟩:∃ p,p=x+y:=⟨_,rfl⟩
       have hpb:0<=p/\p<=1016064:=by
         rw [hp];omega
       obtain⟨hp0,hp1⟩:=hpb;have e1:IntKind.i64.wrap (x+y)=p:=by rw [<-hp];exact IntWalk.i64_in _ (by omega)
       have e2:p.tmod 1009=p % 1009:=Int.tmod_eq_emod_of_nonneg hp0;have e3:IntKind.i64.wrap (p % 1009)=p % 1009:=IntWalk.i64_in _ (by omega);have Hp:=Lib.hid hp;clear hx hy hzl hp;go_wp2_with fail
       go_region_law (refine qi0 (u:=p % 1009) (.tmp 20) (.tmp 31) rfl rfl (by exact ho) (by omega) (by exact hg.size) rfl rfl ?_;intro v' w4 qn hg4)
       all_goals
         have hz2:qx vh (a.take (k+1)) (b.take (k+1))=qx vh (a.take k) (b.take k)++[p % 1009]:=by
           rw [Hz.out,Hp.out];rfl
         rw [<-hz2] at qn;have hg5:=ho.gb hg (by assumption) (Nat.le_refl _);clear e1 e2 e3 hz2;go_wp2_with fail;go_roundg (m+1 - (k+1))
         case measure=>omega
         case rel=>exact⟨k+1,by omega,rfl,by go_num,qn,hg5⟩
     . obtain rfl:k=m:=by omega
       have hO2:qf wr w.heap.size (.slice Ao no co) (qx vh a b):=by
         have:=ho;rw [List.take_of_length_le (by rw [<-Hn.out];exact Nat.le_refl _),List.take_of_length_le (by rw [<-Hm.out];exact Nat.le_refl _)] at this;exact this
       clear ho;go_wp2_with fail
       go_ret2
       exact⟨_,by rw [Hr.out];rfl,by rw [Hr.out];exact hO2,hg⟩
 . have zO:(qaj a && qaj b && decide (a.length=b.length))=false:=by simpa using hok
   have Hr:Hid (qkx a b=none):=by show _=_;unfold qkx qdy;rw [if_neg hok]
   have Hok:=Lib.hid zO;clear hok zO;go_enter Tryz.func219,Tryz.ntmps219;go_wp2_with fail;refine(qo3 _ _ a b _ (ha.alloc _) (hb.alloc _) Hok.out).mono ?_;rintro e w' ⟨rfl,rfl⟩;go_wp2_with fail
   go_ret2
   exact⟨_,by rw [Hr.out];rfl,by rw [Hr.out];exact qf.empty w (Nat.le_refl _),World.grownBy_alloc w _ none⟩
theorem qop(va vb:Value)(a b:List Int)(w:World)(ha:RI w va a)(hb:RI w vb b):Calls Tryz.prog 220 #[va,vb] w (qfv w (qf1 a b)):=by
 obtain⟨A,n,c,rfl,hc,hn⟩:=ha.form';obtain⟨B,m,d,rfl,hd,hm⟩:=hb.form';have Hn:=Lib.hid hn;have Hm:=Lib.hid hm;clear hn hm;by_cases hok:(qaj a && qaj b && decide (a.length=b.length))=true
 . have Hr:Hid (qf1 a b=some (qx zV a b)):=by show _=_;unfold qf1 qdy;rw [if_pos hok]
   have Hok:=Lib.hid hok;simp only [Bool.and_eq_true,decide_eq_true_eq] at hok;have Hva:=Lib.hid hok.1.1;have Hvb:=Lib.hid hok.1.2;have hn6:n<=6:=by rw [Hn.out];exact qbx hok.1.1
   have hmn:m=n:=by rw [Hn.out,Hm.out];exact hok.2.symm
   subst hmn;clear hok;go_enter Tryz.func220,Tryz.ntmps220;go_wp2_with fail;refine(qo3 _ _ a b _ (ha.alloc _) (hb.alloc _) Hok.out).mono ?_;rintro e w' ⟨rfl,rfl⟩;have ho0:=qf.empty w (Nat.le_refl w.heap.size);have hg0:=World.grownBy_alloc w (.cells #[] 3) none;go_wp2_with fail
   go_loopg [6,7] (m+1) (fun mm o i wr=>∃ k:Nat,k<=m/\mm=m+1 - k/\i=.int .i64 k/\qf wr w.heap.size o (qx zV (a.take k) (b.take k))/\w.grownBy wr none)
   case atStart=>exact⟨0,Nat.zero_le _,rfl,rfl,ho0,hg0⟩
   case round=>
     clear ho0 hg0;obtain⟨k,hk,rfl,rfl,ho,hg⟩:=hrel;obtain⟨Ao,no,co,rfl⟩:=ho.ri.val;by_cases hlt:k < m
     . obtain⟨ga,oa,x,rfl,hx,c0⟩:=(ha.new hg).at_ hlt;obtain⟨gb,ob,y,rfl,hy,c1⟩:=(hb.new hg).at_ hlt;obtain⟨hx0,hx1⟩:=qc2 Hva.out (List.mem_of_getElem? hx);obtain⟨hy0,hy1⟩:=qc2 Hvb.out (List.mem_of_getElem? hy);have Hz:=Lib.hid (qkc zV hx hy);have hzl:=qgn zV (a:=a) (b:=b) (k:=k) (by rw [<-Hn.out];omega) (by rw [<-Hm.out];omega);have hl:(qx zV (a.take k) (b.take k)).length<=10:=by omega
       obtain⟨p,hp⟩:∃ p,p=x * y:=⟨_,rfl⟩
       have hpb:0<=p/\p<=1016064:=by
         rw [hp];refine⟨Int.mul_nonneg hx0 hy0,?_⟩;have:=Int.mul_le_mul hx1 hy1 hy0 (by omega);omega
       obtain⟨hp0,hp1⟩:=hpb;have e1:IntKind.i64.wrap (x * y)=p:=by rw [<-hp];exact IntWalk.i64_in _ (by omega)
       have e2:p.tmod 1009=p % 1009:=Int.tmod_eq_emod_of_nonneg hp0;have e3:IntKind.i64.wrap (p % 1009)=p % 1009:=IntWalk.i64_in _ (by omega);have Hp:=Lib.hid hp;clear hx hy hzl hp;go_wp2_with fail
       go_region_law (refine qi0 (u:=p % 1009) (.tmp 20) (.tmp 31) rfl rfl (by exact ho) (by omega) (by exact hg.size) rfl rfl ?_;intro v' w4 qn hg4)
       all_goals
         have hz2:qx zV (a.take (k+1)) (b.take (k+1))=qx zV (a.take k) (b.take k)++[p % 1009]:=by
           rw [Hz.out,Hp.out];rfl
         rw [<-hz2] at qn;have hg5:=ho.gb hg (by assumption) (Nat.le_refl _);clear e1 e2 e3 hz2;go_wp2_with fail;go_roundg (m+1 - (k+1))
         case measure=>omega
         case rel=>exact⟨k+1,by omega,rfl,by go_num,qn,hg5⟩
     . obtain rfl:k=m:=by omega
       have hO2:qf wr w.heap.size (.slice Ao no co) (qx zV a b):=by
         have:=ho;rw [List.take_of_length_le (by rw [<-Hn.out];exact Nat.le_refl _),List.take_of_length_le (by rw [<-Hm.out];exact Nat.le_refl _)] at this;exact this
       clear ho;go_wp2_with fail
       go_ret2
       exact⟨_,by rw [Hr.out];rfl,by rw [Hr.out];exact hO2,hg⟩
 . have zO:(qaj a && qaj b && decide (a.length=b.length))=false:=by simpa using hok
   have Hr:Hid (qf1 a b=none):=by show _=_;unfold qf1 qdy;rw [if_neg hok]
   have Hok:=Lib.hid zO;clear hok zO;go_enter Tryz.func220,Tryz.ntmps220;go_wp2_with fail;refine(qo3 _ _ a b _ (ha.alloc _) (hb.alloc _) Hok.out).mono ?_;rintro e w' ⟨rfl,rfl⟩;go_wp2_with fail
   go_ret2
   exact⟨_,by rw [Hr.out];rfl,by rw [Hr.out];exact qf.empty w (Nat.le_refl _),World.grownBy_alloc w _ none⟩
end Go.Proofs.YtacemdoejblgaaaGreatDoor
namespace Go.Proofs.YtacemdoejblgaaaGreatDoor
open Go.RowKit
theorem qqr(v:Value)(l:List Int)(w:World)(h:RI w v l):Calls Tryz.prog 221 #[v] w (qfv w (qeo l)):=by
 obtain⟨A,n,c,rfl,hc,hn⟩:=h.form';have Hn:=Lib.hid hn;clear hn;by_cases hok:qaj l=true
 . have Hr:Hid (qeo l=some (qbb 0 l)):=by show _=_;unfold qeo;rw [if_pos hok]
   have Hok:=Lib.hid hok;have hn6:n<=6:=by rw [Hn.out];exact qbx hok
   clear hok;go_enter Tryz.func221,Tryz.ntmps221;go_wp2_with fail;refine(qbr _ l _ (h.alloc _) Hok.out).mono ?_;rintro e w' ⟨rfl,rfl⟩;have ho0:=qf.empty w (Nat.le_refl w.heap.size);have hg0:=World.grownBy_alloc w (.cells #[] 3) none;go_wp2_with fail
   go_loopg [4,5,6] (n+1) (fun mm o s i wr=>∃ (k:Nat) (z:Int),k<=n/\mm=n+1 - k/\i=.int .i64 k/\s=.int .i64 z/\0<=z/\z<=1008/\Hid (z=(qbb 0 (l.take k)).getLast?.getD 0)/\qf wr w.heap.size o (qbb 0 (l.take k))/\w.grownBy wr none)
   case atStart=>exact⟨0,0,Nat.zero_le _,rfl,rfl,rfl,by omega,by omega,rfl,ho0,hg0⟩
   case round=>
     clear ho0 hg0;obtain⟨k,z,hk,rfl,rfl,rfl,hz0,hz1,Hz,ho,hg⟩:=hrel;obtain⟨Ao,no,co,rfl⟩:=ho.ri.val;by_cases hlt:k < n
     . obtain⟨ga,oa,x,rfl,hx,c0⟩:=(h.new hg).at_ hlt;obtain⟨hx0,hx1⟩:=qc2 Hok.out (List.mem_of_getElem? hx);obtain⟨hk',hx'⟩:=List.getElem?_eq_some_iff.1 hx
       have hsn:Hid (qbb 0 (l.take (k+1))=qbb 0 (l.take k)++[(z+x) % 1009]):=by
         show _=_;rw [List.take_succ_eq_append_getElem hk',hx',qiz,<-Hz.out]
       have hl:(qbb 0 (l.take k)).length<=10:=by rw [qie,List.length_take];omega
       have Hz2:Hid ((z+x) % 1009=(qbb 0 (l.take (k+1))).getLast?.getD 0):=by
         show _=_;rw [hsn.out,List.getLast?_append];simp
       clear hx hk' hx' Hz;go_wp2_with (at_builtin;go_must (refine qcg (.tmp 25) (.tmp 27) rfl rfl ho (by omega) hg.size rfl rfl ?_));intro v' w4 qn hg4;have hg5:=ho.gb hg hg4 (Nat.le_refl _);rw [<-hsn.out] at qn;go_wp2_with fail;go_roundg (n+1 - (k+1))
       case measure=>omega
       case rel=>exact⟨k+1,_,by omega,rfl,by go_num,rfl,by omega,by omega,Hz2,qn,hg5⟩
     . obtain rfl:k=n:=by omega
       have hO2:qf wr w.heap.size (.slice Ao no co) (qbb 0 l):=by
         have:=ho;rw [List.take_of_length_le (by rw [<-Hn.out];exact Nat.le_refl _)] at this;exact this
       clear ho Hz;go_wp2_with fail
       go_ret2
       exact⟨_,by rw [Hr.out];rfl,by rw [Hr.out];exact hO2,hg⟩
 . have zO:qaj l=false:=by simpa using hok
   have Hr:Hid (qeo l=none):=by show _=_;unfold qeo;rw [if_neg hok]
   have Hok:=Lib.hid zO;clear hok zO;go_enter Tryz.func221,Tryz.ntmps221;go_wp2_with fail;refine(qbr _ l _ (h.alloc _) Hok.out).mono ?_;rintro e w' ⟨rfl,rfl⟩;go_wp2_with fail
   go_ret2
   exact⟨_,by rw [Hr.out];rfl,by rw [Hr.out];exact qf.empty w (Nat.le_refl _),World.grownBy_alloc w _ none⟩
theorem q16(l:List Int)(n:Int):(putRow l n).length=l.length+1:=by
 induction l with
 | nil=>rfl
 | cons x xs ih=>unfold putRow;split <;> simp [ih]
theorem quh(l acc:List Int):(l.foldl putRow acc).length=l.length+acc.length:=by
 induction l generalizing acc with
 | nil=>simp
 | cons x xs ih=>rw [List.foldl_cons,ih,q16,List.length_cons];omega
theorem drop_cons{l:List Int}{k:Nat}{x:Int}(h:l[k]?=some x):l.drop k=x::l.drop (k+1):=by
 obtain⟨hk,rfl⟩:=List.getElem?_eq_some_iff.1 h;exact List.drop_eq_getElem_cons hk
theorem q4n(v:Value)(l:List Int)(x:Int)(w:World)(h:RI w v l)(hl:l.length<=12):Calls Tryz.prog 226 #[v,.int .i64 x] w (qes w (putRow l x)):=by
 obtain⟨A,n,c,rfl,hc,hn⟩:=h.form';have qiQ:n<=12:=by omega
 have Hn:=Lib.hid hn;clear hn hl;have ho0:=qf.empty w (Nat.le_refl w.heap.size);have hg0:=World.grownBy_alloc w (.cells #[] 3) none;go_enter Tryz.func226,Tryz.ntmps226;go_wp2_with fail
 go_loopg [5,6,7] (n+1) (fun mm o d i wr=>∃ (k:Nat) (b:Bool) (q:List Int),k<=n/\mm=n+1 - k/\i=.int .i64 k/\d=.bool b/\q.length<=2 * k/\Hid (q++(if b then l.drop k else putRow (l.drop k) x)=putRow l x)/\qf wr w.heap.size o q/\w.grownBy wr none)
 case atStart=>exact⟨0,false,[],Nat.zero_le _,rfl,rfl,rfl,by simp,rfl,ho0,hg0⟩
 case round=>
   clear ho0 hg0;obtain⟨k,b,q,hk,rfl,rfl,rfl,hq,Hq,ho,hg⟩:=hrel;obtain⟨Ao,no,co,rfl⟩:=ho.ri.val;by_cases hlt:k < n
   . obtain⟨ga,oa,y,rfl,hy,c0⟩:=(h.new hg).at_ hlt;have hd:=drop_cons hy;cases b
     . by_cases hxy:x < y
       . have Hq2:Hid ((q++[x,y])++(if true then l.drop (k+1) else putRow (l.drop (k+1)) x)=putRow l x):=by
           show _=_;rw [<-Hq.out,hd];simp [putRow,hxy]
         clear Hq hd;go_wp2_with (at_builtin;go_must (refine qcg (.tmp 25) (.tmp 27) rfl rfl ho (by omega) hg.size rfl rfl ?_));intro v' w4 qn hg4;have hg5:=ho.gb hg hg4 (Nat.le_refl _);obtain⟨A',n',c',rfl⟩:=qn.ri.val
         have hc1:w4.cell? ⟨ga,oa+k,none⟩=some (.int .i64 y):=by
           obtain⟨ga',oa',y',e',hy',c0'⟩:=(h.new hg5).at_ hlt;injection e' with e';injection e' with e1 e2 e3;subst e1 e2;rw [hy] at hy';injection hy' with hy';rw [hy'];exact c0'
         clear hy;have hql:(q++[x]).length<=1000000000:=by rw [List.length_append];simp;omega
         go_wp2_with (at_builtin;go_must (refine qcg (.tmp 29) (.tmp 34) rfl rfl qn hql hg5.size rfl rfl ?_));intro v5 w5 qA hg6;have jS:qf w5 w.heap.size v5 (q++[x,y]):=qA;clear qA;have hg7:=qn.gb hg5 hg6 (Nat.le_refl _);go_wp2_with fail;go_roundg (n+1 - (k+1))
         case measure=>omega
         case rel=>exact⟨k+1,true,_,by omega,rfl,by go_num,rfl,by rw [List.length_append];simp;omega,Hq2,jS,hg7⟩
       . have Hq2:Hid ((q++[y])++(if false then l.drop (k+1) else putRow (l.drop (k+1)) x)=putRow l x):=by
           show _=_;rw [<-Hq.out,hd];simp [putRow,hxy]
         clear Hq hy hd;go_wp2_with (at_builtin;go_must (refine qcg (.tmp 29) (.tmp 34) rfl rfl ho (by omega) hg.size rfl rfl ?_));intro v' w4 qn hg4;have hg5:=ho.gb hg hg4 (Nat.le_refl _);go_wp2_with fail;go_roundg (n+1 - (k+1))
         case measure=>omega
         case rel=>exact⟨k+1,false,_,by omega,rfl,by go_num,rfl,by rw [List.length_append];simp;omega,Hq2,qn,hg5⟩
     . have Hq2:Hid ((q++[y])++(if true then l.drop (k+1) else putRow (l.drop (k+1)) x)=putRow l x):=by
         show _=_;rw [<-Hq.out,hd];simp
       clear Hq hy hd;go_wp2_with (at_builtin;go_must (refine qcg (.tmp 29) (.tmp 34) rfl rfl ho (by omega) hg.size rfl rfl ?_));intro v' w4 qn hg4;have hg5:=ho.gb hg hg4 (Nat.le_refl _);go_wp2_with fail;go_roundg (n+1 - (k+1))
       case measure=>omega
       case rel=>exact⟨k+1,true,_,by omega,rfl,by go_num,rfl,by rw [List.length_append];simp;omega,Hq2,qn,hg5⟩
   . obtain rfl:k=n:=by omega
     have hdn:l.drop k=[]:=List.drop_eq_nil_of_le (by rw [<-Hn.out];exact Nat.le_refl _);cases b
     . have Hq2:Hid (q++[x]=putRow l x):=by
         show _=_;rw [<-Hq.out,hdn];rfl
       clear Hq hdn;go_wp2_with (at_builtin;go_must (refine qcg (.tmp 38) (.tmp 40) rfl rfl ho (by omega) hg.size rfl rfl ?_));intro v' w4 qn hg4;have hg5:=ho.gb hg hg4 (Nat.le_refl _);rw [Hq2.out] at qn;obtain⟨A',n',c',rfl⟩:=qn.ri.val;go_wp2_with fail;go_ret;exact⟨_,rfl,qn,hg5⟩
     . have Hq2:Hid (q=putRow l x):=by
         show _=_;rw [<-Hq.out,hdn];simp
       clear Hq hdn;rw [Hq2.out] at ho;go_wp2_with fail;go_ret;exact⟨_,rfl,ho,hg⟩
theorem qqs(v:Value)(l:List Int)(w:World)(h:RI w v l):Calls Tryz.prog 222 #[v] w (qfv w (qep l)):=by
 obtain⟨A,n,c,rfl,hc,hn⟩:=h.form';have Hn:=Lib.hid hn;clear hn;by_cases hok:qaj l=true
 . have Hr:Hid (qep l=some (qh l)):=by show _=_;unfold qep;rw [if_pos hok]
   have Hok:=Lib.hid hok;have hn6:n<=6:=by rw [Hn.out];exact qbx hok
   clear hok;go_enter Tryz.func222,Tryz.ntmps222;go_wp2_with fail;refine(qbr _ l _ (h.alloc _) Hok.out).mono ?_;rintro e w' ⟨rfl,rfl⟩;have ho0:=qf.empty w (Nat.le_refl w.heap.size);have hg0:=World.grownBy_alloc w (.cells #[] 3) none;go_wp2_with fail
   go_loopg [4,5] (n+1) (fun mm o i wr=>∃ (k:Nat),k<=n/\mm=n+1 - k/\i=.int .i64 k/\qf wr w.heap.size o ((l.take k).foldl putRow [])/\w.grownBy wr none)
   case atStart=>exact⟨0,Nat.zero_le _,rfl,rfl,ho0,hg0⟩
   case round=>
     clear ho0 hg0;obtain⟨k,hk,rfl,rfl,ho,hg⟩:=hrel;obtain⟨Ao,no,co,rfl⟩:=ho.ri.val;by_cases hlt:k < n
     . obtain⟨ga,oa,x,rfl,hx,c0⟩:=(h.new hg).at_ hlt;obtain⟨hk',hx'⟩:=List.getElem?_eq_some_iff.1 hx
       have hsn:Hid ((l.take (k+1)).foldl putRow []=putRow ((l.take k).foldl putRow []) x):=by
         show _=_;rw [List.take_succ_eq_append_getElem hk',hx',List.foldl_append];rfl
       have hl:((l.take k).foldl putRow []).length<=12:=by rw [quh,List.length_take];simp;omega
       clear hx hk' hx';go_wp2_with fail;refine(q4n _ _ x _ ho.ri hl).mono ?_;rintro e w4 ⟨v',rfl,qn,hg4⟩;have qA:=qn.low hg.size;have hg5:=hg.trans hg4;rw [<-hsn.out] at qA;obtain⟨A',n',c',rfl⟩:=qA.ri.val;go_wp2_with fail;go_roundg (n+1 - (k+1))
       case measure=>omega
       case rel=>exact⟨k+1,by omega,rfl,by go_num,qA,hg5⟩
     . obtain rfl:k=n:=by omega
       have hO2:qf wr w.heap.size (.slice Ao no co) (qh l):=by
         have:=ho;rw [List.take_of_length_le (by rw [<-Hn.out];exact Nat.le_refl _)] at this;exact this
       clear ho;go_wp2_with fail
       go_ret2
       exact⟨_,by rw [Hr.out];rfl,by rw [Hr.out];exact hO2,hg⟩
 . have zO:qaj l=false:=by simpa using hok
   have Hr:Hid (qep l=none):=by show _=_;unfold qep;rw [if_neg hok]
   have Hok:=Lib.hid zO;clear hok zO;go_enter Tryz.func222,Tryz.ntmps222;go_wp2_with fail;refine(qbr _ l _ (h.alloc _) Hok.out).mono ?_;rintro e w' ⟨rfl,rfl⟩;go_wp2_with fail
   go_ret2
   exact⟨_,by rw [Hr.out];rfl,by rw [Hr.out];exact qf.empty w (Nat.le_refl _),World.grownBy_alloc w _ none⟩
theorem qqt(v:Value)(l:List Int)(w:World)(h:RI w v l):Calls Tryz.prog 223 #[v] w (qfv w (qeq l)):=by
 obtain⟨A,n,c,rfl,hc,hn⟩:=h.form';have Hn:=Lib.hid hn;clear hn;by_cases hok:qaj l=true
 . have Hr:Hid (qeq l=some l.reverse):=by show _=_;unfold qeq;rw [if_pos hok]
   have Hok:=Lib.hid hok;have hn6:n<=6:=by rw [Hn.out];exact qbx hok
   have hw:IntKind.i64.wrap ((n:Int) - 1)=(n:Int) - 1:=IntWalk.i64_in _ (by omega);clear hok;go_enter Tryz.func223,Tryz.ntmps223;go_wp2_with fail;refine(qbr _ l _ (h.alloc _) Hok.out).mono ?_;rintro e w' ⟨rfl,rfl⟩;have ho0:=qf.empty w (Nat.le_refl w.heap.size);have hg0:=World.grownBy_alloc w (.cells #[] 3) none;have hl0:(l.drop n).reverse=[]:=by rw [List.drop_eq_nil_of_le (by rw [<-Hn.out];exact Nat.le_refl _)];rfl
   go_wp2_with fail
   go_loopg [4,5] (n+1) (fun mm o i wr=>∃ (j:Nat) (z:Int),j<=n/\mm=j+1/\z=(j:Int) - 1/\i=.int .i64 z/\qf wr w.heap.size o (l.drop j).reverse/\w.grownBy wr none)
   case atStart=>exact⟨n,_,Nat.le_refl _,rfl,rfl,by first | rfl | rw [hw],by rw [hl0];exact ho0,hg0⟩
   case round=>
     clear ho0 hg0 hl0 hw;obtain⟨j,z,hk,rfl,hz,rfl,ho,hg⟩:=hrel;obtain⟨Ao,no,co,rfl⟩:=ho.ri.val;cases j with
     | succ k=>
       obtain rfl:z=(k:Int):=by omega
       clear hz;have hlt:k < n:=by omega
       obtain⟨ga,oa,x,rfl,hx,c0⟩:=(h.new hg).at_ hlt
       have hsn:Hid ((l.drop k).reverse=(l.drop (k+1)).reverse++[x]):=by
         show _=_;rw [drop_cons hx,List.reverse_cons]
       have hl:(l.drop (k+1)).reverse.length<=12:=by rw [List.length_reverse,List.length_drop,<-Hn.out];omega
       clear hx;go_wp2_with (at_builtin;go_must (refine qcg (.tmp 18) (.tmp 23) rfl rfl ho (by omega) hg.size rfl rfl ?_));intro v' w4 qn hg4;have hg5:=ho.gb hg hg4 (Nat.le_refl _);rw [<-hsn.out] at qn;go_wp2_with fail;go_roundg (k+1)
       case measure=>omega
       case rel=>exact⟨k,_,by omega,rfl,rfl,by go_num,qn,hg5⟩
     | zero=>
       obtain rfl:z=-1:=by omega
       have hO2:qf wr w.heap.size (.slice Ao no co) l.reverse:=ho;clear ho hz;go_wp2_with fail
       go_ret2
       exact⟨_,by rw [Hr.out];rfl,by rw [Hr.out];exact hO2,hg⟩
 . have zO:qaj l=false:=by simpa using hok
   have Hr:Hid (qeq l=none):=by show _=_;unfold qeq;rw [if_neg hok]
   have Hok:=Lib.hid zO;clear hok zO;go_enter Tryz.func223,Tryz.ntmps223;go_wp2_with fail;refine(qbr _ l _ (h.alloc _) Hok.out).mono ?_;rintro e w' ⟨rfl,rfl⟩;go_wp2_with fail
   go_ret2
   exact⟨_,by rw [Hr.out];rfl,by rw [Hr.out];exact qf.empty w (Nat.le_refl _),World.grownBy_alloc w _ none⟩
end
section
open Go.RowKit
theorem qht{k:Int}{ll:List (List Int)}(h:k=0∨qaq k≠(ll.length:Int)):qd1 k ll=none:=by
 match ll,h with
 | [],h=>rfl
 | [a],h=>
   show (if k=3 then qeo a else if k=4 then qep a else if k=5 then qeq a else none)=none;unfold qaq at h;simp only [List.length_cons,List.length_nil] at h
   repeat rw [if_neg (by intro e;subst e;simp at h)]
 | [a,b],h=>
   show (if k=1 then qkx a b else if k=2 then qf1 a b else none)=none;unfold qaq at h;simp only [List.length_cons,List.length_nil] at h
   repeat rw [if_neg (by intro e;subst e;simp at h)]
 | a::b::c::d,h=>rfl
theorem qui{k:Int}{ll:List (List Int)}(h:¬(k=0∨qaq k≠(ll.length:Int))) :
   (∃ a b,ll=[a,b]/\(k=1∨k=2))∨(∃ a,ll=[a]/\(k=3∨k=4∨k=5)):=by
 unfold qaq at h
 match ll with
 | []=>
   exfalso;simp only [List.length_nil] at h;split at h
   . simp at h
   . split at h
     . omega
     . split at h <;> simp at h
 | [a]=>
   refine .inr ⟨a,rfl,?_⟩;simp only [List.length_cons,List.length_nil] at h;split at h
   . simp at h
   . split at h
     . omega
     . split at h
       . simp at h
       . omega
 | [a,b]=>
   refine .inl ⟨a,b,rfl,?_⟩;simp only [List.length_cons,List.length_nil] at h;split at h
   . simp at h
   . split at h
     . omega
     . split at h
       . omega
       . simp at h
 | a::b::c::d=>
   exfalso;simp only [List.length_cons] at h;split at h
   . omega
   . split at h
     . omega
     . split at h <;> omega
theorem qqu(k:Int)(v:Value)(ll:List (List Int))(w:World)(h:RL w v ll):Calls Tryz.prog 202 #[.int .i64 k,v] w (qfv w (qd1 k ll)):=by
 obtain⟨A,n,c,rfl,hc,hn,hn2⟩:=h.form';by_cases xh:k=0∨qaq k≠(ll.length:Int)
 . have Hr:=Lib.hid (qht xh);rw [<-hn] at xh;by_cases h0:k=0
   . subst h0;clear hn xh;go_enter Tryz.func202,Tryz.ntmps202;go_wp2_with fail
     go_ret2
     exact⟨_,by rw [Hr.out];rfl,by rw [Hr.out];exact qf.empty w (Nat.le_refl _),World.grownBy_alloc w _ none⟩
   . have hne:qaq k≠(n:Int):=xh.resolve_left h0;have hb1:(qaq k != (n:Int))=true:=by simpa using hne
     have hb2:(k == 0)=false:=by simpa using h0
     clear hn xh;go_enter Tryz.func202,Tryz.ntmps202;go_wp2_with fail;refine(qbc _ _).mono ?_;rintro e w2 ⟨rfl,rfl⟩;go_wp2_with fail
     go_ret2
     exact⟨_,by rw [Hr.out];rfl,by rw [Hr.out];exact qf.empty w (Nat.le_refl _),World.grownBy_alloc w _ none⟩
 . rcases qui xh with ⟨a,b,rfl,hk⟩ | ⟨a,rfl,hk⟩
   . simp only [List.length_cons,List.length_nil,Nat.zero_add] at hn;subst hn;clear xh;obtain⟨g,o,l,B,m,e,hA,hl,c0,ha,hm,hme,hmx⟩:=h.at_ (k:=0) (by omega);obtain⟨g',o',l',B',m',e',hA',hl',c1,hb,hm',qfJ,qfK⟩:=h.at_ (k:=1) (by omega);rw [hA] at hA';injection hA' with hA';injection hA' with e1 e2 e3;subst hA e1 e2;clear e3;simp only [List.getElem?_cons_zero,List.getElem?_cons_succ,Option.some.injEq] at hl hl';subst hl hl';clear hm hm';have c0:w.cell? ⟨g,o,none⟩=some (.slice B m e):=c0;rcases hk with rfl | rfl
     . have Hn:Hid (qaq 1=2):=by show _=_;decide
       go_enter Tryz.func202,Tryz.ntmps202;go_wp2_with fail;refine(qbc _ _).mono ?_;rw [Hn.out];rintro e w2 ⟨rfl,rfl⟩;go_wp2_with fail
       go_region_law (go_simp;go_at_call 219;refine(qsa _ _ a b _ (by exact ha) (by exact hb)).mono ?_;rintro e w3 ⟨v3,rfl,ho,hg⟩;obtain⟨A',n',c',rfl⟩:=ho.ri.val;have k0:=hg.cell (by exact c0) (by simp);have k1:=hg.cell (by exact c1) (by simp))
       all_goals
         go_wp2_with fail
         go_ret2
         exact⟨_,rfl,ho,qac (qax (qag _ _)) hg⟩
     . have Hn:Hid (qaq 2=2):=by show _=_;decide
       go_enter Tryz.func202,Tryz.ntmps202;go_wp2_with fail;refine(qbc _ _).mono ?_;rw [Hn.out];rintro e w2 ⟨rfl,rfl⟩;go_wp2_with fail
       go_region_law (go_simp;go_at_call 220;refine(qop _ _ a b _ (by exact ha) (by exact hb)).mono ?_;rintro e w3 ⟨v3,rfl,ho,hg⟩;obtain⟨A',n',c',rfl⟩:=ho.ri.val;have k0:=hg.cell (by exact c0) (by simp);have k1:=hg.cell (by exact c1) (by simp))
       all_goals
         go_wp2_with fail
         go_ret2
         exact⟨_,rfl,ho,qac (qax (qag _ _)) hg⟩
   . simp only [List.length_cons,List.length_nil,Nat.zero_add] at hn;subst hn;clear xh;obtain⟨g,o,l,B,m,e,rfl,hl,c0,ha,hm,hme,hmx⟩:=h.at_ (k:=0) (by omega);simp only [List.getElem?_cons_zero,Option.some.injEq] at hl;subst hl;clear hm;have c0:w.cell? ⟨g,o,none⟩=some (.slice B m e):=c0;rcases hk with rfl | rfl | rfl
     . have Hn:Hid (qaq 3=1):=by show _=_;decide
       go_enter Tryz.func202,Tryz.ntmps202;go_wp2_with fail;refine(qbc _ _).mono ?_;rw [Hn.out];rintro e w2 ⟨rfl,rfl⟩;go_wp2_with fail;refine(qqr _ a _ ha).mono ?_;rintro e w3 ⟨v3,rfl,ho,hg⟩;obtain⟨A',n',c',rfl⟩:=ho.ri.val;go_wp2_with fail
       go_ret2
       exact⟨_,rfl,ho,hg⟩
     . have Hn:Hid (qaq 4=1):=by show _=_;decide
       go_enter Tryz.func202,Tryz.ntmps202;go_wp2_with fail;refine(qbc _ _).mono ?_;rw [Hn.out];rintro e w2 ⟨rfl,rfl⟩;go_wp2_with fail;refine(qqs _ a _ ha).mono ?_;rintro e w3 ⟨v3,rfl,ho,hg⟩;obtain⟨A',n',c',rfl⟩:=ho.ri.val;go_wp2_with fail
       go_ret2
       exact⟨_,rfl,ho,hg⟩
     . have Hn:Hid (qaq 5=1):=by show _=_;decide
       go_enter Tryz.func202,Tryz.ntmps202;go_wp2_with fail;refine(qbc _ _).mono ?_;rw [Hn.out];rintro e w2 ⟨rfl,rfl⟩;go_wp2_with fail;refine(qqt _ a _ ha).mono ?_;rintro e w3 ⟨v3,rfl,ho,hg⟩;obtain⟨A',n',c',rfl⟩:=ho.ri.val;go_wp2_with fail
       go_ret2
       exact⟨_,rfl,ho,hg⟩
theorem q9c(v:Value)(w:World):(Instr.typeAssert (.iface 132 v) 128 132 true).run Tryz.prog w=.ok (.tuple #[v,.bool true]) w:=by kernel_rfl
theorem q9d(v:Value)(w:World):(Instr.typeAssert (.iface 136 v) 128 136 true).run Tryz.prog w=.ok (.tuple #[v,.bool true]) w:=by kernel_rfl
theorem q9e(v:Value)(w:World):(Instr.typeAssert (.iface 136 v) 128 132 true).run Tryz.prog w=.ok (.tuple #[.agg #[.nilFunc],.bool false]) w:=by kernel_rfl
theorem q9f(v:Value)(w:World):(Instr.typeAssert (.iface 132 v) 128 136 true).run Tryz.prog w=.ok (.tuple #[.agg #[.nilFunc],.bool false]) w:=by kernel_rfl
theorem q9g(v:Value)(w:World):(Instr.typeAssert (.iface 181 v) 128 132 true).run Tryz.prog w=.ok (.tuple #[.agg #[.nilFunc],.bool false]) w:=by kernel_rfl
theorem q9h(v:Value)(w:World):(Instr.typeAssert (.iface 181 v) 128 136 true).run Tryz.prog w=.ok (.tuple #[.agg #[.nilFunc],.bool false]) w:=by kernel_rfl
theorem q9i(w:World):(Instr.typeAssert .nilIface 128 132 true).run Tryz.prog w=.ok (.tuple #[.agg #[.nilFunc],.bool false]) w:=by kernel_rfl
theorem q9j(w:World):(Instr.typeAssert .nilIface 128 136 true).run Tryz.prog w=.ok (.tuple #[.agg #[.nilFunc],.bool false]) w:=by kernel_rfl
attribute [go_sem] q9c q9d q9e q9f q9g q9h q9i q9j
theorem qqv(k:Int)(v:Value)(ll:List (List Int))(w:World)(h:RL w v ll)(hk:k < 0∨5 < k∨k=0):Calls Tryz.prog 58 #[.int .i64 k,v] w (qfv w (qd1 k ll)):=by
 obtain⟨A,n,c,rfl,hc,hn,hn2⟩:=h.form'
 have Hr:Hid (qd1 k ll=none):=by
   refine qht ?_;rcases hk with hk | hk | hk
   . refine .inr ?_;unfold qaq;rw [if_pos (.inl hk)];omega
   . refine .inr ?_;unfold qaq;rw [if_pos (.inr hk)];omega
   . exact .inl hk
 clear hn;rcases (show (k < 0∨5 < k)∨k=0 by omega) with hk | rfl
 . have H:Hid (work k=.nilIface):=by
     show work k=.nilIface;unfold work
     repeat rw [if_neg (by omega)]
   go_enter Tryz.func58,Tryz.ntmps58;go_wp2_with fail;refine(qc3 _ _).mono ?_;rw [H.out];rintro e w' ⟨rfl,rfl⟩;go_wp2_with fail
   go_ret2
   exact⟨_,by rw [Hr.out];rfl,by rw [Hr.out];exact qf.nil _ _,qag _ _⟩
 . go_enter Tryz.func58,Tryz.ntmps58;go_wp2_with fail;refine(qc3 _ _).mono ?_;simp only [work,if_true];rintro e w' ⟨rfl,rfl⟩;go_wp2_with fail
   go_ret2
   exact⟨_,by rw [Hr.out];rfl,by rw [Hr.out];exact qf.nil _ _,qag _ _⟩
theorem qoq(k:Int)(v:Value)(ll:List (List Int))(w:World)(h:RL w v ll)(hk:k=3∨k=4∨k=5):Calls Tryz.prog 58 #[.int .i64 k,v] w (qfv w (qd1 k ll)):=by
 obtain⟨A,n,c,rfl,hc,hn,hn2⟩:=h.form';by_cases h1:n=1
 . subst h1
   obtain⟨a,rfl⟩:∃ a,ll=[a]:=by
     match ll,hn with
     | [a],_=>exact⟨a,rfl⟩
   clear hn;obtain⟨g,o,l,B,m,e,rfl,hl,c0,ha,hm,hme,hmx⟩:=h.at_ (k:=0) (by omega);simp only [List.getElem?_cons_zero,Option.some.injEq] at hl;subst hl;clear hm;have c0:w.cell? ⟨g,o,none⟩=some (.slice B m e):=c0;rcases hk with rfl | rfl | rfl
   . go_enter Tryz.func58,Tryz.ntmps58;go_wp2_with fail;refine(qc3 _ _).mono ?_;simp only [work,if_true];rintro e w' ⟨rfl,rfl⟩;go_wp2_with fail;refine(qey _ _).mono ?_;rintro e w2 ⟨rfl,hg⟩;have hg0:=qac (World.grownBy_alloc w _ none) hg;have kA:=hg.cell (a:=⟨w.heap.size,0,none⟩) (v:=.func (.func 146) #[] #[]) (by simp) (by simp);have kB:=hg0.cell c0 (by simp);have ha2:=ha.new hg0;clear c0;clear hg;go_wp2_with fail
     go_region_law (go_simp;go_at_call 146;refine(qqo _ a _ (by exact ha2)).mono ?_;rintro e w3 ⟨v3,rfl,ho,hg⟩;obtain⟨A',n',c',rfl⟩:=ho.ri.val;have k0:=hg.cell (by exact kB) (by simp);have k2:=hg.cell (by exact kA) (by simp))
     all_goals
       go_wp2_with fail
       go_ret2
       exact⟨_,rfl,ho.low hg0.size,qac (qax hg0) hg⟩
   . go_enter Tryz.func58,Tryz.ntmps58;go_wp2_with fail;refine(qc3 _ _).mono ?_;simp only [work,if_true];rintro e w' ⟨rfl,rfl⟩;go_wp2_with fail;refine(qey _ _).mono ?_;rintro e w2 ⟨rfl,hg⟩;have hg0:=qac (World.grownBy_alloc w _ none) hg;have kA:=hg.cell (a:=⟨w.heap.size,0,none⟩) (v:=.func (.func 147) #[] #[]) (by simp) (by simp);have kB:=hg0.cell c0 (by simp);have ha2:=ha.new hg0;clear c0;clear hg;go_wp2_with fail
     go_region_law (go_simp;go_at_call 147;refine(qqp _ a _ (by exact ha2)).mono ?_;rintro e w3 ⟨v3,rfl,ho,hg⟩;obtain⟨A',n',c',rfl⟩:=ho.ri.val;have k0:=hg.cell (by exact kB) (by simp);have k2:=hg.cell (by exact kA) (by simp))
     all_goals
       go_wp2_with fail
       go_ret2
       exact⟨_,rfl,ho.low hg0.size,qac (qax hg0) hg⟩
   . go_enter Tryz.func58,Tryz.ntmps58;go_wp2_with fail;refine(qc3 _ _).mono ?_;simp only [work,if_true];rintro e w' ⟨rfl,rfl⟩;go_wp2_with fail;refine(qey _ _).mono ?_;rintro e w2 ⟨rfl,hg⟩;have hg0:=qac (World.grownBy_alloc w _ none) hg;have kA:=hg.cell (a:=⟨w.heap.size,0,none⟩) (v:=.func (.func 148) #[] #[]) (by simp) (by simp);have kB:=hg0.cell c0 (by simp);have ha2:=ha.new hg0;clear c0;clear hg;go_wp2_with fail
     go_region_law (go_simp;go_at_call 148;refine(qqq _ a _ (by exact ha2)).mono ?_;rintro e w3 ⟨v3,rfl,ho,hg⟩;obtain⟨A',n',c',rfl⟩:=ho.ri.val;have k0:=hg.cell (by exact kB) (by simp);have k2:=hg.cell (by exact kA) (by simp))
     all_goals
       go_wp2_with fail
       go_ret2
       exact⟨_,rfl,ho.low hg0.size,qac (qax hg0) hg⟩
 . have Hr:Hid (qd1 k ll=none):=by
     refine qht (.inr ?_);rw [<-hn];rcases hk with rfl | rfl | rfl
     . show (1:Int)≠_;omega
     . show (1:Int)≠_;omega
     . show (1:Int)≠_;omega
   have hne:((n:Int) == 1)=false:=by simp;omega
   clear hn;rcases hk with rfl | rfl | rfl
   all_goals
     go_enter Tryz.func58,Tryz.ntmps58;go_wp2_with fail;refine(qc3 _ _).mono ?_;simp only [work,if_true];rintro e w' ⟨rfl,rfl⟩;go_wp2_with fail;refine(qey _ _).mono ?_;rintro e w2 ⟨rfl,hg⟩;go_wp2_with fail
     go_ret2
     exact⟨_,by rw [Hr.out];rfl,by rw [Hr.out];exact qf.nil _ _,qac (World.grownBy_alloc w _ none) hg⟩
theorem qor(k:Int)(v:Value)(ll:List (List Int))(w:World)(h:RL w v ll)(hk:k=1∨k=2):Calls Tryz.prog 58 #[.int .i64 k,v] w (qfv w (qd1 k ll)):=by
 obtain⟨A,n,c,rfl,hc,hn,hn2⟩:=h.form';by_cases h1:n=2
 . subst h1
   obtain⟨a,b,rfl⟩:∃ a b,ll=[a,b]:=by
     match ll,hn with
     | [a,b],_=>exact⟨a,b,rfl⟩
   clear hn;obtain⟨g,o,l,B,m,e,hA,hl,c0,ha,hm,hme,hmx⟩:=h.at_ (k:=0) (by omega);obtain⟨g',o',l',B',m',e',hA',hl',c1,hb,hm',qfJ,qfK⟩:=h.at_ (k:=1) (by omega);rw [hA] at hA';injection hA' with hA';injection hA' with e1 e2 e3;subst hA e1 e2;clear e3;simp only [List.getElem?_cons_zero,List.getElem?_cons_succ,Option.some.injEq] at hl hl';subst hl hl';clear hm hm';have c0:w.cell? ⟨g,o,none⟩=some (.slice B m e):=c0;rcases hk with rfl | rfl
   . go_enter Tryz.func58,Tryz.ntmps58;go_wp2_with fail;refine(qc3 _ _).mono ?_;simp only [work,if_true];rintro e w' ⟨rfl,rfl⟩;go_wp2_with fail;refine(qf2 _ _).mono ?_;rintro e w2 ⟨rfl,hg⟩;have hg0:=qac (World.grownBy_alloc w _ none) hg;have kA:=hg.cell (a:=⟨w.heap.size,0,none⟩) (v:=.func (.func 144) #[] #[]) (by simp) (by simp);have kB:=hg0.cell c0 (by simp);have kC:=hg0.cell c1 (by simp);have ha2:=ha.new hg0;have hb2:=hb.new hg0;clear c1;clear c0;clear hg;go_wp2_with fail
     go_region_law (go_simp;go_at_call 144;refine(qr8 _ _ a b _ (by exact ha2) (by exact hb2)).mono ?_;rintro e w3 ⟨v3,rfl,ho,hg⟩;obtain⟨A',n',c',rfl⟩:=ho.ri.val;have k0:=hg.cell (by exact kB) (by simp);have k1:=hg.cell (by exact kC) (by simp);have k2:=hg.cell (by exact kA) (by simp))
     all_goals
       go_wp2_with fail
       go_ret2
       exact⟨_,rfl,ho.low hg0.size,qac (qax hg0) hg⟩
   . go_enter Tryz.func58,Tryz.ntmps58;go_wp2_with fail;refine(qc3 _ _).mono ?_;simp only [work,if_true];rintro e w' ⟨rfl,rfl⟩;go_wp2_with fail;refine(qf2 _ _).mono ?_;rintro e w2 ⟨rfl,hg⟩;have hg0:=qac (World.grownBy_alloc w _ none) hg;have kA:=hg.cell (a:=⟨w.heap.size,0,none⟩) (v:=.func (.func 145) #[] #[]) (by simp) (by simp);have kB:=hg0.cell c0 (by simp);have kC:=hg0.cell c1 (by simp);have ha2:=ha.new hg0;have hb2:=hb.new hg0;clear c1;clear c0;clear hg;go_wp2_with fail
     go_region_law (go_simp;go_at_call 145;refine(qoo _ _ a b _ (by exact ha2) (by exact hb2)).mono ?_;rintro e w3 ⟨v3,rfl,ho,hg⟩;obtain⟨A',n',c',rfl⟩:=ho.ri.val;have k0:=hg.cell (by exact kB) (by simp);have k1:=hg.cell (by exact kC) (by simp);have k2:=hg.cell (by exact kA) (by simp))
     all_goals
       go_wp2_with fail
       go_ret2
       exact⟨_,rfl,ho.low hg0.size,qac (qax hg0) hg⟩
 . have Hr:Hid (qd1 k ll=none):=by
     refine qht (.inr ?_);rw [<-hn];rcases hk with rfl | rfl
     . show (2:Int)≠_;omega
     . show (2:Int)≠_;omega
   have hne:((n:Int) == 2)=false:=by simp;omega
   clear hn;rcases hk with rfl | rfl
   all_goals
     go_enter Tryz.func58,Tryz.ntmps58;go_wp2_with fail;refine(qc3 _ _).mono ?_;simp only [work,if_true];rintro e w' ⟨rfl,rfl⟩;go_wp2_with fail;refine(qf2 _ _).mono ?_;rintro e w2 ⟨rfl,hg⟩;go_wp2_with fail
     go_ret2
     exact⟨_,by rw [Hr.out];rfl,by rw [Hr.out];exact qf.nil _ _,qac (World.grownBy_alloc w _ none) hg⟩
theorem qqw(k:Int)(v:Value)(ll:List (List Int))(w:World)(h:RL w v ll):Calls Tryz.prog 58 #[.int .i64 k,v] w (qfv w (qd1 k ll)):=by
 rcases (show (k < 0∨5 < k∨k=0)∨(k=1∨k=2)∨(k=3∨k=4∨k=5) by omega) with hk | hk | hk
 . exact qqv k v ll w h hk
 . exact qor k v ll w h hk
 . exact qoq k v ll w h hk
end
section
open Go.RowKit
end Go.Proofs.YtacemdoejblgaaaGreatDoor
namespace Go.Proofs.YtacemdoejblgaaaGreatDoor
open Go.RowKit
theorem qjx{ops:Array Oper}{rest:List Oper}{o:Oper}{a:Act}{Q:Exit->Act->World->Prop}{w:World}
   (s x:Operand) (t:TypeId) (ht:Tryz.prog.underlying t=some (.slice 3)) (hgd:o.guard=none) (ho:o.op=.call { callee:=.builtin .append,args:=#[s,x],argTypes:=#[t,t] })
   {base:Nat} {v xv:Value} {l0 l:List Int} (hown:qf w base v l0) (hxv:RI w xv l) (hn:l0.length+l.length<=1000000000) (hbase:base<=w.heap.size)
   (hs:a.eval s=v) (hx:a.eval x=xv)
   (h:∀ v' w',qf w' base v' (l0++l)->w.grownBy w' v.ownBlock->wpList Tryz.prog ops Q rest (a.put o.dst v') w') :
   wpList Tryz.prog ops Q (o::rest) a w:=by
 obtain⟨i,hi,hz0,hz1,hz2⟩:=info_parts qkm;obtain⟨A,c,e,hc,hcm,hcn⟩:=TS.form hxv;subst e
 match A,hcn with
 | none,hcn=>
   obtain rfl:=hcn rfl;have hl0:l=[]:=List.eq_nil_of_length_eq_zero (by omega);subst hl0;refine wpList_append_own_none hgd s x t ho base 3 i 1 ht hi v _ _ hs hown hx ?_;rw [List.append_nil] at h;exact h _ _ hown (qag _ _)
 | some ad,hcn=>
   refine wpList_append_own _ hgd s x t ho base 3 i _ 1 8 ht hi hz0 hz1 hz2 rfl (by decide) v _ _ hs hown ad l.length c (l.map (.int .i64)) hx (by rw [List.length_map,Nat.mul_one]) ?_ (qhl l) ?_ ?_ hbase ?_
   . intro j u hj;have hjl:=(List.getElem?_eq_some_iff.1 hj).1;rw [List.length_map] at hjl;obtain⟨g,o',cur,e,_,hcell⟩:=TS.at_ hxv (by omega);have e2:ad=⟨g,o',none⟩:=Option.some.inj e;rw [e2,Addr.add_lit];exact hcell j u hj
   . unfold maxLen;omega
   . omega
   . intro v' w' h1 h2 _;refine h v' w' ?_ h2;unfold qf;simpa using h1
end
end Go.Proofs.YtacemdoejblgaaaGreatDoor

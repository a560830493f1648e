/- Part 23. Conditions: each statement's. -/
import Derived.Test.YtacemdoejblgaaaGreatDoorM21
import Derived.IntWalk
import Derived.Laws.AppendOwnNone
namespace Go.Proofs.YtacemdoejblgaaaGreatDoor
set_option maxHeartbeats 6400000
set_option maxRecDepth 100000
section
open Go.RowKit
theorem q4g(x:Int)(w:World):Calls Tryz.prog 208 #[.int .i64 x] w fun e w'=>e=.returned (.bool false)/\w=w':=by
 go_enter Tryz.func208,Tryz.ntmps208;go_wp2_with fail;go_ret;exact⟨rfl,rfl⟩
theorem q6i(x y:Int)(w:World):Calls Tryz.prog 173 #[.int .i64 x,.int .i64 y] w fun e w'=>e=.returned (.bool (decide (x < y)))/\w=w':=by
 go_enter Tryz.func173,Tryz.ntmps173;go_wp2_with fail;refine(q4g _ _).mono ?_;rintro e w' ⟨rfl,rfl⟩;go_wp2_with fail;go_ret;exact⟨rfl,rfl⟩
theorem q7d(x y:Int)(w:World){b:Bool}(hb:decide (x < y)=b):Calls Tryz.prog 173 #[.int .i64 x,.int .i64 y] w fun e w'=>e=.returned (.bool b)/\w=w':=hb ▸ q6i x y w
def qqn(w:World)(base:Nat)(v:Value)(l:List Int)(e:Ending)(w':World):Prop:=e=.returned (.tuple #[])/\qf w' base v l/\w.grownBy w' v.ownBlock
theorem quf(g n cap base:Nat)(l:List Int)(w:World)(h:qf w base (.slice (some ⟨g,0,none⟩) n cap) l)(hn:n=l.length)(hl:n<=12)(nz:Int)(hnz:nz=(n:Nat):=by omega) :
   Calls Tryz.prog 167 #[.slice (some ⟨g,0,none⟩) n cap,.int .i64 0,.int .i64 nz] w (qqn w base (.slice (some ⟨g,0,none⟩) n cap) (qh l)):=by
 subst hnz;have Hn:=Lib.hid hn;clear hn;go_enter Tryz.func167,Tryz.ntmps167;go_wp2_with fail
 go_loopg [6] (n+1) (fun m i wr=>∃ k:Nat,1<=k/\k<=n+1/\m=n+2 - k/\i=.int .i64 k/\Hid (qf wr base (.slice (some ⟨g,0,none⟩) n cap) (qkl l k))/\w.grownBy wr (some g))
 case atStart=>exact⟨1,Nat.le_refl _,by omega,by omega,rfl,by show qf _ _ _ _;rw [q0o];exact h,qag _ _⟩
 case round=>
   clear h;obtain⟨k,hk1,hk,rfl,rfl,HO,hg⟩:=hrel;by_cases hlt:k < n
   . obtain⟨x,hx⟩:∃ x,l[k]?=some x:=⟨_,List.getElem?_eq_getElem (by rw [<-Hn.out];exact hlt)⟩;have HO2:=HO.out;rw [qxk hx] at HO2;have HO2:=Lib.hid HO2;have Hx:=Lib.hid hx;clear HO hx;obtain⟨wo,rfl⟩:∃ wo:World,wo=wr:=⟨_,rfl⟩;go_wp2_with fail
     go_loopg [7] (k+1) (fun m i wr=>∃ j:Nat,j<=k/\m=j+1/\i=.int .i64 j/\Hid (qf wr base (.slice (some ⟨g,0,none⟩) n cap) (qh9 l k j x))/\Hid (∀ y∈(qh (l.take k)).drop j,x < y)/\w.grownBy wr (some g))
     case atStart=>exact⟨k,Nat.le_refl _,rfl,rfl,HO2,by
       intro y hy;rw [List.drop_of_length_le (by rw [qd2,List.length_take];omega)] at hy;simp at hy,hg⟩
     case round=>
       clear HO2 hg;obtain⟨j,hj,rfl,rfl,HO,Hgt,hg⟩:=hrel;have hkl:k < l.length:=by rw [<-Hn.out];exact hlt
       have vR:=q2y (l:=l) (i:=k) (j:=j) (x:=x) hkl hj;have hnl:n=(qh9 l k j x).length:=by rw [q2x hkl hj];exact Hn.out
       by_cases hj0:0 < j
       . obtain⟨y,hy1,hy2⟩:=q0q (l:=l) (i:=k) (j:=j) (x:=x) hkl hj hj0;obtain⟨j',rfl⟩:∃ j',j=j'+1:=⟨j - 1,by omega⟩;simp only [Nat.add_sub_cancel] at hy1 hy2;obtain⟨c0,f0,-,-⟩:=HO.out.cell vR;obtain⟨c1,f1,-,-⟩:=HO.out.cell hy1;have e0:IntKind.i64.wrap (((j'+1:Nat):Int) - 1)=(j':Nat):=by rw [show ((j'+1:Nat):Int) - 1=(j':Nat) by omega];exact IntWalk.i64_in _ (by omega)
         have hjn:j'+1 < n:=by omega
         by_cases hxy:x < y
         . have Hb:=Lib.hid (decide_eq_true hxy);have qfG:Hid (∀ z∈(qh (l.take k)).drop j',x < z):=q2z (j:=j'+1) hj0 hy2 hxy Hgt.out;have hO3:=((HO.out.qC hnl (j'+1) y).qC (by rw [List.length_set];exact hnl) j' x);have hsw:=q0r (l:=l) (i:=k) (j:=j'+1) (x:=x) hkl hj hj0 hy2;simp only [Nat.add_sub_cancel] at hsw;rw [hsw] at hO3;have HO3:=Lib.hid hO3;have hg3:w.grownBy ((wr.setCell ⟨g,j'+1,none⟩ (.int .i64 y)).setCell ⟨g,j',none⟩ (.int .i64 x)) (some g):=qa2 (p:=⟨g,j',none⟩) (qa2 (p:=⟨g,j'+1,none⟩) hg (.inr rfl) _) (.inr rfl) _;clear hO3 hsw vR hnl hy1 hy2 HO Hgt hg hkl;go_wp2_with fail
           go_quiet ((go_at_call 173;exact qct (q7d _ _ _ Hb.out)))
           go_wp2_with fail
           go_region
           all_goals
             go_wp2_with fail;go_roundg (j'+1)
             case measure=>omega
             case rel=>exact⟨j',by omega,rfl,by go_num,HO3,qfG,qax (qb8 hg3 _)⟩
         . have Hb:=Lib.hid (decide_eq_false hxy);have he:=quz Hx.out hj (.inr ⟨y,hy2,hxy⟩) Hgt.out;have HO3:=HO.out;rw [he] at HO3;have HO3:=Lib.hid HO3;clear he vR hnl hy1 hy2 HO Hgt hkl hxy;go_wp2_with fail
           go_quiet ((go_at_call 173;exact qct (q7d _ _ _ Hb.out)))
           go_wp2_with fail;go_roundg (n+2 - (k+1))
           case measure=>omega
           case rel=>exact⟨k+1,by omega,by omega,rfl,by go_num,HO3,qb8 hg _⟩
       . obtain rfl:j=0:=by omega
         have he:=quz Hx.out hj (.inl rfl) Hgt.out;have HO3:=HO.out;rw [he] at HO3;have HO3:=Lib.hid HO3;clear he vR hnl HO Hgt hkl hj0;go_wp2_with fail
         go_quiet (fail)
         go_wp2_with fail;go_roundg (n+2 - (k+1))
         case measure=>omega
         case rel=>exact⟨k+1,by omega,by omega,rfl,by go_num,HO3,qb8 hg _⟩
   . have HO2:=HO.out;rw [q0p l (by rw [<-Hn.out];omega)] at HO2;have HO2:=Lib.hid HO2;clear HO;go_wp2_with fail;exact bodyPost_ret (results_none rfl _ _ _) rfl ⟨rfl,HO2.out,hg⟩
end Go.Proofs.YtacemdoejblgaaaGreatDoor
namespace Go.Proofs.YtacemdoejblgaaaGreatDoor
open Go.RowKit
def qfv(w:World)(r:Option (List Int))(e:Ending)(w':World):Prop:=∃ v,e=.returned (.tuple #[v,.bool r.isSome])/\qf w' w.heap.size v (r.getD [])/\w.grownBy w' none
theorem qgx{ops:Array Oper}{rest:List Oper}{o:Oper}{a:Act}{Q:Exit->Act->World->Prop}{w:World}
   (s x:Operand) (t:TypeId) (ht:Tryz.prog.underlying t=some (.slice 3)) (hgd:o.guard=none) (ho:o.op=.call { callee:=.builtin .append,args:=#[s,x],argTypes:=#[t,t] })
   {base:Nat} {xv:Value} {l:List Int} (hxv:RI w xv l) (hn:l.length<=1000000000) (hbase:base<=w.heap.size)
   (hs:a.eval s=.slice none 0 0) (hx:a.eval x=xv)
   (h:∀ v' w',qf w' base v' l->w.grownBy w' none->wpList Tryz.prog ops Q rest (a.put o.dst v') w') :
   wpList Tryz.prog ops Q (o::rest) a w:=by
 obtain⟨i,hi,hz0,hz1,hz2⟩:=info_parts qkm;obtain⟨A,c,e,hc,hcm,hcn⟩:=TS.form hxv;subst e
 match A,hcn with
 | none,hcn=>
   obtain rfl:=hcn rfl;have hl0:l=[]:=List.eq_nil_of_length_eq_zero (by omega);subst hl0;refine wpList_append_own_none hgd s x t ho base 3 i 1 ht hi (.slice none 0 0) 0 [] hs (World.ownsRow_nil _ _ _ _) hx ?_;exact h _ _ (qf.nil _ _) (qag _ _)
 | some ad,hcn=>
   refine wpList_append_own _ hgd s x t ho base 3 i _ 1 8 ht hi hz0 hz1 hz2 rfl (by decide) (.slice none 0 0) 0 [] hs (World.ownsRow_nil _ _ _ _) ad l.length c (l.map (.int .i64)) hx (by rw [List.length_map,Nat.mul_one]) ?_ (qhl l) ?_ ?_ hbase ?_
   . intro j u hj;have hjl:=(List.getElem?_eq_some_iff.1 hj).1;rw [List.length_map] at hjl;obtain⟨g,o',cur,e,_,hcell⟩:=TS.at_ hxv (by omega);have e2:ad=⟨g,o',none⟩:=Option.some.inj e;rw [e2,Addr.add_lit];exact hcell j u hj
   . unfold maxLen;omega
   . omega
   . intro v' w' h1 h2 _;refine h v' w' ?_ h2;unfold qf;simpa using h1
theorem qgy(v:Value)(l:List Int)(w:World)(h:RI w v l)(hl:l.length<=1000000000):Calls Tryz.prog 57 #[v] w (qes w l):=by
 obtain⟨A,n,c,rfl⟩:=h.val;go_enter Tryz.func57,Tryz.ntmps57;go_wp2_with (at_builtin;go_must (refine qgx _ (.tmp 3) 24 Tryz.underlying24 rfl rfl h hl (Nat.le_refl _) rfl rfl ?_));intro v' w1 ho hg;obtain⟨A',n',c',rfl⟩:=ho.ri.val;go_wp2_with fail;go_ret;exact⟨_,rfl,ho,hg⟩
theorem q6j(x y:Int)(w:World)(h0:0<=x)(h1:x<=1008)(h2:0<=y)(h3:y<=1008):Calls Tryz.prog 190 #[.int .i64 x,.int .i64 y] w fun e w'=>e=.returned (.int .i64 (vh x y))/\w=w':=by
 go_enter Tryz.func190,Tryz.ntmps190;go_wp2_with fail;go_ret;exact⟨rfl,rfl⟩
theorem q6k(x y:Int)(w:World)(h0:0<=x)(h1:x<=1008)(h2:0<=y)(h3:y<=1008):Calls Tryz.prog 191 #[.int .i64 x,.int .i64 y] w fun e w'=>e=.returned (.int .i64 (zV x y))/\w=w':=by
 have e1:IntKind.i64.wrap (x * y)=x * y:=IntWalk.i64_in _ (by
   have:=Int.mul_nonneg h0 h2;have:=Int.mul_le_mul h1 h3 h2 (by omega);omega)
 go_enter Tryz.func191,Tryz.ntmps191;go_wp2_with fail;go_ret;exact⟨by first | rfl | simp [zV,e1],rfl⟩
theorem qkc(f:Int->Int->Int){a b:List Int}{k:Nat}{x y:Int}(hx:a[k]?=some x)(hy:b[k]?=some y):qx f (a.take (k+1)) (b.take (k+1))=qx f (a.take k) (b.take k)++[f x y % 1009]:=by
 obtain⟨h1,rfl⟩:=List.getElem?_eq_some_iff.1 hx;obtain⟨h2,rfl⟩:=List.getElem?_eq_some_iff.1 hy;unfold qx;rw [List.take_succ_eq_append_getElem h1,List.take_succ_eq_append_getElem h2,List.zipWith_append (by rw [List.length_take,List.length_take];omega)];rfl
theorem qgn(f:Int->Int->Int){a b:List Int}{k:Nat}(h1:k<=a.length)(h2:k<=b.length):(qx f (a.take k) (b.take k)).length=k:=by
 unfold qx;rw [List.length_zipWith,List.length_take,List.length_take];omega
def fOf(fid:Nat):Int->Int->Int:=if fid=190 then vh else zV
theorem q4h(fid:Nat){x y:Int}(h0:0<=x)(h1:x<=1008)(h2:0<=y)(h3:y<=1008):0<=fOf fid x y/\fOf fid x y<=1016064:=by
 unfold fOf;split
 . unfold vh;omega
 . unfold zV;refine⟨Int.mul_nonneg h0 h2,?_⟩;have:=Int.mul_le_mul h1 h3 h2 (by omega);omega
theorem q4i(fid:Nat)(xE:fid=190∨fid=191)(x y:Int)(w:World)(h0:0<=x)(h1:x<=1008)(h2:0<=y)(h3:y<=1008) :
   Calls Tryz.prog fid #[.int .i64 x,.int .i64 y] w fun e w'=>e=.returned (.int .i64 (fOf fid x y))/\w=w':=by
 rcases xE with rfl | rfl
 . exact q6j x y w h0 h1 h2 h3
 . exact q6k x y w h0 h1 h2 h3
theorem qz8(va vb:Value)(a b:List Int)(fid:Nat)(xE:fid=190∨fid=191)(w:World)(ha:RI w va a)(hb:RI w vb b) :
   Calls Tryz.prog 189 #[va,vb,.func (.func fid) #[] #[]] w (qfv w (qdy (fOf fid) a b)):=by
 obtain⟨A,n,c,rfl,hc,hn⟩:=ha.form';obtain⟨B,m,d,rfl,hd,hm⟩:=hb.form';have Hn:=Lib.hid hn;have Hm:=Lib.hid hm;have hle:=ha.le;have qfH:=hb.le;rw [<-hn] at hle;rw [<-hm] at qfH;clear hn hm
 have bad:(qaj a && qaj b && decide (a.length=b.length))=false->qdy (fOf fid) a b=none:=by
   intro h;unfold qdy;rw [if_neg (by rw [h];simp)]
 by_cases hva:qaj a=true
 . by_cases hvb:qaj b=true
   . by_cases hab:n=m
     . have Hva:=Lib.hid hva;have Hvb:=Lib.hid hvb;have hn6:n<=6:=by rw [Hn.out];exact qbx hva
       have Hr:Hid (qdy (fOf fid) a b=some (qx (fOf fid) a b)):=by
         show _=_;unfold qdy;rw [hva,hvb,<-Hn.out,<-Hm.out,if_pos (by simp [hab])]
       subst hab;obtain⟨F,hF⟩:∃ F,F=fOf fid:=⟨_,rfl⟩;have yT:=Lib.hid (fun x y w=>q4i fid xE x y w);have Hbd:=Lib.hid (fun (x y:Int)=>@q4h fid x y);rw [<-hF] at Hr yT Hbd |-;clear bad hva hvb hF;obtain⟨i0,hi,hz0,hz1,hz2⟩:=info_parts qkm;rcases xE with rfl | rfl
       all_goals
         go_enter Tryz.func189,Tryz.ntmps189;go_wp2_with fail;refine(qcd _ a _ ha).mono ?_;rw [Hva.out];rintro e w' ⟨rfl,rfl⟩;go_wp2_with fail;refine(qcd _ b _ hb).mono ?_;rw [Hvb.out];rintro e w' ⟨rfl,rfl⟩;go_wp2_with (at_make;go_must (refine wpList_make_full _ rfl _ _ 224 rfl w.heap.size 3 i0 _ 1 Tryz.underlying224 hi hz0 hz1 _ _ _ _ n rfl rfl rfl rfl (by rw [hz2];omega) (by unfold maxLen;omega) (Nat.le_refl _) ?_));intro w0 hown0 hg0
         have hO0:qf w0 w.heap.size (.slice (some ⟨w.heap.size,0,none⟩) n n) (List.replicate n 0):=by
           refine qf.made ?_;have e:n * 1=n:=Nat.mul_one n
           first | exact hown0 | (rw [e] at hown0;exact hown0) | (simp at hown0;exact hown0)
         clear hown0;go_wp2_with fail
         go_loopg [31] (n+1) (fun mm i wr=>∃ k:Nat,k<=n/\mm=n+1 - k/\i=.int .i64 k/\Hid (qf wr w.heap.size (.slice (some ⟨w.heap.size,0,none⟩) n n) (qx F (a.take k) (b.take k)++List.replicate (n - k) 0))/\w.grownBy wr none)
         case atStart=>exact⟨0,Nat.zero_le _,rfl,rfl,hO0,hg0⟩
         case round=>
           clear hO0 hg0;obtain⟨k,hk,rfl,rfl,HO,hg⟩:=hrel;by_cases hlt:k < n
           . obtain⟨ga,oa,x,rfl,hx,c0⟩:=(ha.new hg).at_ hlt;obtain⟨gb,ob,y,rfl,hy,c1⟩:=(hb.new hg).at_ hlt;obtain⟨hx0,hx1⟩:=qc2 Hva.out (List.mem_of_getElem? hx);obtain⟨hy0,hy1⟩:=qc2 Hvb.out (List.mem_of_getElem? hy);have hzl:=qgn F (a:=a) (b:=b) (k:=k) (by rw [<-Hn.out];omega) (by rw [<-Hm.out];omega);have hll:(qx F (a.take k) (b.take k)++List.replicate (n - k) (0:Int)).length=n:=by rw [List.length_append,hzl,List.length_replicate];omega
             have hz:(qx F (a.take k) (b.take k)++List.replicate (n - k) (0:Int))[k]?=some 0:=by
               rw [List.getElem?_append_right (by omega),hzl,List.getElem?_replicate,if_pos (by omega)]
             have hset:(qx F (a.take k) (b.take k)++List.replicate (n - k) (0:Int)).set k (F x y % 1009)=qx F (a.take (k+1)) (b.take (k+1))++List.replicate (n - (k+1)) 0:=by
               rw [qkc F hx hy,List.set_append_right _ _ (by omega),hzl,Nat.sub_self,show n - k=n - (k+1)+1 by omega,List.replicate_succ,List.set_cons_zero,List.append_assoc];rfl
             obtain⟨c2,f2,-,-⟩:=HO.out.cell hz;have hO2:=HO.out.qC hll.symm k (F x y % 1009);rw [hset] at hO2;have HO2:=Lib.hid hO2;obtain⟨hb0,hb1⟩:=Hbd.out x y hx0 hx1 hy0 hy1;have hg2:w.grownBy (wr.setCell ⟨w.heap.size,k,none⟩ (.int .i64 (F x y % 1009))) none:=qa2 (p:=⟨w.heap.size,k,none⟩) hg (.inl (Nat.le_refl _)) _;clear hx hy hzl hll hz hset hO2 HO;go_wp2_with fail;refine(yT.out x y _ hx0 hx1 hy0 hy1).mono ?_;rintro e w' ⟨rfl,rfl⟩;go_wp2_with fail;go_roundg (n+1 - (k+1))
             case measure=>omega
             case rel=>exact⟨k+1,by omega,rfl,by go_num,HO2,hg2⟩
           . obtain rfl:k=n:=by omega
             have hO2:qf wr w.heap.size (.slice (some ⟨w.heap.size,0,none⟩) k k) (qx F a b):=by
               have:=HO.out;rw [Nat.sub_self,List.replicate_zero,List.append_nil,List.take_of_length_le (by rw [<-Hn.out];exact Nat.le_refl _),List.take_of_length_le (by rw [<-Hm.out];exact Nat.le_refl _)] at this;exact this
             clear HO;go_wp2_with fail
             go_ret2
             exact⟨_,by rw [Hr.out];rfl,by rw [Hr.out];exact hO2,hg⟩
     . have Hr:=Lib.hid (bad (by rw [<-Hn.out,<-Hm.out,decide_eq_false hab];simp));have Hva:=Lib.hid hva;have Hvb:=Lib.hid hvb;have hb:((n:Int) != (m:Int))=true:=by rw [bne_iff_ne];omega
       clear bad hva hvb hab;rcases xE with rfl | rfl
       all_goals
         go_enter Tryz.func189,Tryz.ntmps189;go_wp2_with fail;refine(qcd _ a _ ha).mono ?_;rw [Hva.out];rintro e w' ⟨rfl,rfl⟩;go_wp2_with fail;refine(qcd _ b _ (by assumption)).mono ?_;rw [Hvb.out];rintro e w' ⟨rfl,rfl⟩;go_wp2_with fail
         go_ret2
         exact⟨_,by rw [Hr.out];rfl,by rw [Hr.out];exact qf.nil _ _,qag _ _⟩
   . have xF:qaj b=false:=by simpa using hvb
     have Hr:=Lib.hid (bad (by rw [xF];simp));have Hva:=Lib.hid hva;have Hvb:=Lib.hid xF;clear bad hva hvb xF;rcases xE with rfl | rfl
     all_goals
       go_enter Tryz.func189,Tryz.ntmps189;go_wp2_with fail;refine(qcd _ a _ ha).mono ?_;rw [Hva.out];rintro e w' ⟨rfl,rfl⟩;go_wp2_with fail;refine(qcd _ b _ hb).mono ?_;rw [Hvb.out];rintro e w' ⟨rfl,rfl⟩;go_wp2_with fail
       go_ret2
       exact⟨_,by rw [Hr.out];rfl,by rw [Hr.out];exact qf.nil _ _,qag _ _⟩
 . have xG:qaj a=false:=by simpa using hva
   have Hr:=Lib.hid (bad (by rw [xG];simp));have Hva:=Lib.hid xG;clear bad hva xG;rcases xE with rfl | rfl
   all_goals
     go_enter Tryz.func189,Tryz.ntmps189;go_wp2_with fail;refine(qcd _ a _ ha).mono ?_;rw [Hva.out];rintro e w' ⟨rfl,rfl⟩;go_wp2_with fail
     go_ret2
     exact⟨_,by rw [Hr.out];rfl,by rw [Hr.out];exact qf.nil _ _,qag _ _⟩
theorem qr8(va vb:Value)(a b:List Int)(w:World)(ha:RI w va a)(hb:RI w vb b):Calls Tryz.prog 144 #[va,vb] w (qfv w (qkx a b)):=by
 obtain⟨A,n,c,rfl⟩:=ha.val;obtain⟨B,m,d,rfl⟩:=hb.val;go_enter Tryz.func144,Tryz.ntmps144;go_wp2_with fail;refine(qz8 _ _ a b _ (.inl rfl) _ ha hb).mono ?_;rintro e w1 ⟨v,rfl,ho,hg⟩;have hf:qdy (fOf 190) a b=qkx a b:=rfl;rw [hf] at ho |-;obtain⟨A',n',c',rfl⟩:=ho.ri.val;clear hf;go_wp2_with fail
 go_ret2
 exact⟨_,rfl,ho,hg⟩
theorem qoo(va vb:Value)(a b:List Int)(w:World)(ha:RI w va a)(hb:RI w vb b):Calls Tryz.prog 145 #[va,vb] w (qfv w (qf1 a b)):=by
 obtain⟨A,n,c,rfl⟩:=ha.val;obtain⟨B,m,d,rfl⟩:=hb.val;go_enter Tryz.func145,Tryz.ntmps145;go_wp2_with fail;refine(qz8 _ _ a b _ (.inr rfl) _ ha hb).mono ?_;rintro e w1 ⟨v,rfl,ho,hg⟩;have hf:qdy (fOf 191) a b=qf1 a b:=rfl;rw [hf] at ho |-;obtain⟨A',n',c',rfl⟩:=ho.ri.val;clear hf;go_wp2_with fail
 go_ret2
 exact⟨_,rfl,ho,hg⟩
end Go.Proofs.YtacemdoejblgaaaGreatDoor
namespace Go.Proofs.YtacemdoejblgaaaGreatDoor
open Go.RowKit
theorem q4j(g n cap base:Nat)(l:List Int)(w:World)(h:qf w base (.slice (some ⟨g,0,none⟩) n cap) l)(hn:n=l.length)(hl:n<=12)(lim:Int) :
   Calls Tryz.prog 133 #[.slice (some ⟨g,0,none⟩) n cap,.int .i64 0,.int .i64 n,.int .i64 lim] w (qqn w base (.slice (some ⟨g,0,none⟩) n cap) (qh l)):=by
 have Hn:=Lib.hid hn;clear hn;go_enter Tryz.func133,Tryz.ntmps133;go_wp2_with fail;refine wp_loop_rounds 1 ?_;rw [rounds_succ];go_wp2_with fail;refine(quf g n cap base l _ h Hn.out hl _).mono ?_;rintro e w1 ⟨rfl,ho,hg⟩;go_wp2_with fail;exact bodyPost_ret (results_none rfl _ _ _) rfl ⟨rfl,ho,hg⟩
def q4k(w:World)(e:Ending)(w':World):Prop:=(∃ z:Int,e=.returned (.int .i64 z))/\w=w'
theorem q4l(n:Nat)(hn:n<=12)(w:World):Calls Tryz.prog 177 #[.int .u64 n] w (q4k w):=by
 rcases (show n=0∨n=1∨n=2∨n=3∨n=4∨n=5∨n=6∨n=7∨n=8∨n=9∨n=10∨n=11∨n=12 by omega) with rfl | rfl | rfl | rfl | rfl | rfl | rfl | rfl | rfl | rfl | rfl | rfl | rfl
 all_goals
   go_enter Tryz.func177,Tryz.ntmps177;go_wp2_with fail;go_ret;exact⟨⟨_,rfl⟩,rfl⟩
theorem qhs(n:Nat)(hn:n<=12)(w:World):Calls Tryz.prog 134 #[.int .u64 n] w (q4k w):=by
 go_enter Tryz.func134,Tryz.ntmps134;go_wp2_with fail;refine(q4l n hn _).mono ?_;rintro e w' ⟨⟨z,rfl⟩,rfl⟩;go_wp2_with fail;go_ret;exact⟨⟨z,rfl⟩,rfl⟩
theorem qwq(g n cap base:Nat)(l:List Int)(w:World)(h:qf w base (.slice (some ⟨g,0,none⟩) n cap) l)(hn:n=l.length)(hl:n<=12) :
   Calls Tryz.prog 210 #[.slice (some ⟨g,0,none⟩) n cap] w (qqn w base (.slice (some ⟨g,0,none⟩) n cap) (qh l)):=by
 have Hn:=Lib.hid hn;clear hn;go_enter Tryz.func210,Tryz.ntmps210;go_wp2_with fail;refine(qhs n hl _).mono ?_;rintro e w' ⟨⟨z,rfl⟩,rfl⟩;go_wp2_with fail;refine(q4j g n cap base l _ h Hn.out hl z).mono ?_;rintro e w1 ⟨rfl,ho,hg⟩;go_wp2_with fail;exact bodyPost_ret (results_none rfl _ _ _) rfl ⟨rfl,ho,hg⟩
theorem qyz(g n cap base:Nat)(l:List Int)(w:World)(h:qf w base (.slice (some ⟨g,0,none⟩) n cap) l)(hn:n=l.length)(hl:n<=1000) :
   Calls Tryz.prog 211 #[.slice (some ⟨g,0,none⟩) n cap] w (qqn w base (.slice (some ⟨g,0,none⟩) n cap) l.reverse):=by
 have Hn:=Lib.hid hn;clear hn;go_enter Tryz.func211,Tryz.ntmps211;go_wp2_with fail
 go_loopg [2,3] (n+1) (fun mm i j wr=>∃ (k:Nat) (m:List Int),k<=n/\mm=n+1 - k/\i=.int .i64 k/\j=.int .i64 ((n:Int) - 1 - k)/\Hid (zl l m k)/\Hid (qf wr base (.slice (some ⟨g,0,none⟩) n cap) m)/\w.grownBy wr (some g))
 case atStart=>exact⟨0,l,Nat.zero_le _,rfl,rfl,by go_num,zl.zero l,h,qag _ _⟩
 case round=>
   clear h;obtain⟨k,m,hk,rfl,rfl,rfl,HR,HO,hg⟩:=hrel;have hml:n=m.length:=by rw [HR.out.1];exact Hn.out
   by_cases hlt:(k:Int) < (n:Int) - 1 - k
   . obtain⟨q,hq⟩:∃ q:Nat,q=n - 1 - k:=⟨_,rfl⟩;have hqi:((n:Int) - 1 - k)=(q:Int):=by omega
     rw [hqi] at hlt |-;obtain⟨x,hx⟩:∃ x,m[k]?=some x:=⟨_,List.getElem?_eq_getElem (by omega)⟩;obtain⟨y,hy⟩:∃ y,m[q]?=some y:=⟨_,List.getElem?_eq_getElem (by omega)⟩;obtain⟨c0,f0,-,-⟩:=HO.out.cell hx;obtain⟨c1,f1,-,-⟩:=HO.out.cell hy;have hR2:=HR.out.step (by rw [<-Hn.out];omega) hx (by rw [<-Hn.out,<-hq];exact hy);rw [<-Hn.out,<-hq] at hR2;have HR2:=Lib.hid hR2;have HO3:=Lib.hid ((HO.out.qC hml k y).qC (by rw [List.length_set];exact hml) q x);have hg3:w.grownBy ((wr.setCell ⟨g,k,none⟩ (.int .i64 y)).setCell ⟨g,q,none⟩ (.int .i64 x)) (some g):=qa2 (p:=⟨g,q,none⟩) (qa2 (p:=⟨g,k,none⟩) hg (.inr rfl) _) (.inr rfl) _;have hkq:k < q:=by omega
     have hqn:q < n:=by omega
     have Hq:=Lib.hid hqi;clear hR2 hq hqi hx hy hml HR HO hg;go_wp2_with fail
     go_region
     all_goals
       go_wp2_with fail;go_roundg (n+1 - (k+1))
       case measure=>omega
       case rel=>exact⟨k+1,_,by omega,rfl,by go_num,by rw [<-Hq.out];go_num,HR2,HO3,qax hg3⟩
   . have he:=HR.out.done (by rw [<-Hn.out];omega);have HO2:=HO.out;rw [he] at HO2;have HO2:=Lib.hid HO2;clear he hml HO HR;go_wp2_with fail;exact bodyPost_ret (results_none rfl _ _ _) rfl ⟨rfl,HO2.out,hg⟩
end Go.Proofs.YtacemdoejblgaaaGreatDoor
namespace Go.Proofs.YtacemdoejblgaaaGreatDoor
open Go.RowKit
theorem qiz(s:Int)(l:List Int)(x:Int):qbb s (l++[x])=qbb s l++[((qbb s l).getLast?.getD s+x) % 1009]:=by
 induction l generalizing s with
 | nil=>rfl
 | cons y ys ih=>
   rw [List.cons_append,qbb,ih,qbb];cases h:qbb ((s+y) % 1009) ys with
   | nil=>simp
   | cons z zs=>
     have hq:∃ q,(z::zs).getLast?=some q:=⟨_,List.getLast?_eq_some_getLast (by simp)⟩;obtain⟨q,hq⟩:=hq;rw [hq,List.getLast?_cons_cons,hq];rfl
theorem q6l(v:Value)(l:List Int)(w:World)(h:RI w v l)(hv:qaj l=true):Calls Tryz.prog 193 #[v] w (qes w (qbb 0 l)):=by
 obtain⟨A,n,c,rfl,hc,hn⟩:=h.form';have hn6:n<=6:=by rw [hn];exact qbx hv
 have Hn:=Lib.hid hn;have Hv:=Lib.hid hv;clear hn hv;obtain⟨i0,hi,hz0,hz1,hz2⟩:=info_parts qkm;go_enter Tryz.func193,Tryz.ntmps193;go_wp2_with (at_make;go_must (refine wpList_make_full _ rfl _ _ 224 rfl w.heap.size 3 i0 _ 1 Tryz.underlying224 hi hz0 hz1 _ _ _ _ n rfl rfl rfl rfl (by rw [hz2];omega) (by unfold maxLen;omega) (Nat.le_refl _) ?_));intro w0 hown0 hg0
 have hO0:qf w0 w.heap.size (.slice (some ⟨w.heap.size,0,none⟩) n n) (List.replicate n 0):=by
   refine qf.made ?_;have e:n * 1=n:=Nat.mul_one n
   first | exact hown0 | (rw [e] at hown0;exact hown0) | (simp at hown0;exact hown0)
 clear hown0;go_wp2_with fail
 go_loopg [4,12] (n+1) (fun mm s i wr=>∃ (k:Nat) (z:Int),k<=n/\mm=n+1 - k/\i=.int .i64 k/\s=.int .i64 z/\0<=z/\z<=1008/\Hid (z=(qbb 0 (l.take k)).getLast?.getD 0)/\Hid (qf wr w.heap.size (.slice (some ⟨w.heap.size,0,none⟩) n n) (qbb 0 (l.take k)++List.replicate (n - k) 0))/\w.grownBy wr none)
 case atStart=>exact⟨0,0,Nat.zero_le _,rfl,rfl,rfl,by omega,by omega,rfl,hO0,hg0⟩
 case round=>
   clear hO0 hg0;obtain⟨k,z,hk,rfl,rfl,rfl,hz0',qiP,Hz,HO,hg⟩:=hrel;by_cases hlt:k < n
   . obtain⟨ga,oa,x,rfl,hx,c0⟩:=(h.new hg).at_ hlt;obtain⟨hx0,hx1⟩:=qc2 Hv.out (List.mem_of_getElem? hx);obtain⟨hk',hx'⟩:=List.getElem?_eq_some_iff.1 hx;have hsl:(qbb 0 (l.take k)).length=k:=by rw [qie,List.length_take];omega
     have hsn:qbb 0 (l.take (k+1))=qbb 0 (l.take k)++[(z+x) % 1009]:=by
       rw [List.take_succ_eq_append_getElem hk',hx',qiz,<-Hz.out]
     have hll:(qbb 0 (l.take k)++List.replicate (n - k) (0:Int)).length=n:=by rw [List.length_append,hsl,List.length_replicate];omega
     have hz:(qbb 0 (l.take k)++List.replicate (n - k) (0:Int))[k]?=some 0:=by
       rw [List.getElem?_append_right (by omega),hsl,List.getElem?_replicate,if_pos (by omega)]
     have hset:(qbb 0 (l.take k)++List.replicate (n - k) (0:Int)).set k ((z+x) % 1009)=qbb 0 (l.take (k+1))++List.replicate (n - (k+1)) 0:=by
       rw [hsn,List.set_append_right _ _ (by omega),hsl,Nat.sub_self,show n - k=n - (k+1)+1 by omega,List.replicate_succ,List.set_cons_zero,List.append_assoc];rfl
     have Hz2:Hid ((z+x) % 1009=(qbb 0 (l.take (k+1))).getLast?.getD 0):=by
       show _=_;rw [hsn,List.getLast?_append];simp
     obtain⟨c2,f2,-,-⟩:=HO.out.cell hz;have hO2:=HO.out.qC hll.symm k ((z+x) % 1009);rw [hset] at hO2;have HO2:=Lib.hid hO2;have hg2:w.grownBy (wr.setCell ⟨w.heap.size,k,none⟩ (.int .i64 ((z+x) % 1009))) none:=qa2 (p:=⟨w.heap.size,k,none⟩) hg (.inl (Nat.le_refl _)) _;clear hx hk' hx' hsl hsn hll hz hset hO2 HO Hz;go_wp2_with fail;go_roundg (n+1 - (k+1))
     case measure=>omega
     case rel=>exact⟨k+1,_,by omega,rfl,by go_num,rfl,by omega,by omega,Hz2,HO2,hg2⟩
   . obtain rfl:k=n:=by omega
     have hO2:qf wr w.heap.size (.slice (some ⟨w.heap.size,0,none⟩) k k) (qbb 0 l):=by
       have:=HO.out;rw [Nat.sub_self,List.replicate_zero,List.append_nil,List.take_of_length_le (by rw [<-Hn.out];exact Nat.le_refl _)] at this;exact this
     clear HO Hz;go_wp2_with fail;go_ret;exact⟨_,rfl,hO2,hg⟩
def qz9(w:World)(e:Ending)(w':World):Prop:=e=.returned (.tuple #[])/\w=w'
theorem qr9(w:World):Calls Tryz.prog 167 #[.slice none 0 0,.int .i64 0,.int .i64 0] w (qz9 w):=by
 go_enter Tryz.func167,Tryz.ntmps167;go_wp2_with fail;refine wp_loop_rounds 1 ?_;rw [rounds_succ];go_wp2_with fail;exact bodyPost_ret (results_none rfl _ _ _) rfl ⟨rfl,rfl⟩
theorem q0a(lim:Int)(w:World):Calls Tryz.prog 133 #[.slice none 0 0,.int .i64 0,.int .i64 0,.int .i64 lim] w (qz9 w):=by
 go_enter Tryz.func133,Tryz.ntmps133;go_wp2_with fail;refine wp_loop_rounds 1 ?_;rw [rounds_succ];go_wp2_with fail;refine(qr9 _).mono ?_;rintro e w1 ⟨rfl,rfl⟩;go_wp2_with fail;exact bodyPost_ret (results_none rfl _ _ _) rfl ⟨rfl,rfl⟩
theorem qug(w:World):Calls Tryz.prog 210 #[.slice none 0 0] w (qz9 w):=by
 go_enter Tryz.func210,Tryz.ntmps210;go_wp2_with fail;refine(qhs 0 (by omega) _).mono ?_;rintro e w' ⟨⟨z,rfl⟩,rfl⟩;go_wp2_with fail;refine(q0a z _).mono ?_;rintro e w1 ⟨rfl,rfl⟩;go_wp2_with fail;exact bodyPost_ret (results_none rfl _ _ _) rfl ⟨rfl,rfl⟩
theorem q14(v:Value)(l:List Int)(w:World)(h:RI w v l)(hl:l.length<=12):Calls Tryz.prog 194 #[v] w (qes w (qh l)):=by
 obtain⟨A,n,c,rfl⟩:=h.val;go_enter Tryz.func194,Tryz.ntmps194;go_wp2_with (at_builtin;go_must (refine qgx _ (.tmp 4) 224 Tryz.underlying224 rfl rfl h (by omega) (Nat.le_refl _) rfl rfl ?_));intro v' w1 ho hg;rcases ho.2 with ⟨rfl,h0⟩ | ⟨g,cap,cur,rfl,-⟩
 . obtain rfl:l=[]:=List.eq_nil_of_length_eq_zero h0;clear h0 hl;go_wp2_with fail;refine(qug _).mono ?_;rintro e w2 ⟨rfl,rfl⟩;go_wp2_with fail;go_ret;exact⟨_,rfl,ho,hg⟩
 . obtain⟨m,hm⟩:∃ m,m=l.length:=⟨_,rfl⟩;rw [<-hm] at ho hl |-;have Hm:=Lib.hid hm;clear hm;go_wp2_with fail;refine(qwq g m cap _ l _ ho Hm.out hl).mono ?_;rintro e w2 ⟨rfl,ho2,hg2⟩;have hg3:=ho.gb hg hg2 (Nat.le_refl _);go_wp2_with fail;go_ret;exact⟨_,rfl,ho2,hg3⟩
theorem qwr(w:World):Calls Tryz.prog 211 #[.slice none 0 0] w (qz9 w):=by
 go_enter Tryz.func211,Tryz.ntmps211;go_wp2_with fail;refine wp_loop_rounds 1 ?_;rw [rounds_succ];go_wp2_with fail;exact bodyPost_ret (results_none rfl _ _ _) rfl ⟨rfl,rfl⟩
theorem q15(v:Value)(l:List Int)(w:World)(h:RI w v l)(hl:l.length<=12):Calls Tryz.prog 195 #[v] w (qes w l.reverse):=by
 obtain⟨A,n,c,rfl⟩:=h.val;go_enter Tryz.func195,Tryz.ntmps195;go_wp2_with (at_builtin;go_must (refine qgx _ (.tmp 4) 224 Tryz.underlying224 rfl rfl h (by omega) (Nat.le_refl _) rfl rfl ?_));intro v' w1 ho hg;rcases ho.2 with ⟨rfl,h0⟩ | ⟨g,cap,cur,rfl,-⟩
 . obtain rfl:l=[]:=List.eq_nil_of_length_eq_zero h0;clear h0 hl;go_wp2_with fail;refine(qwr _).mono ?_;rintro e w2 ⟨rfl,rfl⟩;go_wp2_with fail;go_ret;exact⟨_,rfl,ho,hg⟩
 . obtain⟨m,hm⟩:∃ m,m=l.length:=⟨_,rfl⟩;rw [<-hm] at ho hl |-;have Hm:=Lib.hid hm;clear hm;go_wp2_with fail;refine(qyz g m cap _ l _ ho Hm.out (by omega)).mono ?_;rintro e w2 ⟨rfl,ho2,hg2⟩;have hg3:=ho.gb hg hg2 (Nat.le_refl _);go_wp2_with fail;go_ret;exact⟨_,rfl,ho2,hg3⟩
theorem qqo(v:Value)(l:List Int)(w:World)(h:RI w v l):Calls Tryz.prog 146 #[v] w (qfv w (qeo l)):=by
 obtain⟨A,n,c,rfl⟩:=h.val;by_cases hv:qaj l=true
 . have Hr:Hid (qeo l=some (qbb 0 l)):=by show _=_;unfold qeo;rw [if_pos hv]
   have Hv:=Lib.hid hv;clear hv;go_enter Tryz.func146,Tryz.ntmps146;go_wp2_with fail;refine(qcd _ l _ h).mono ?_;rw [Hv.out];rintro e w1 ⟨rfl,rfl⟩;go_wp2_with fail;refine(q6l _ l _ h Hv.out).mono ?_;rintro e w2 ⟨v2,rfl,ho,hg⟩;obtain⟨A',n',c',rfl⟩:=ho.ri.val;go_wp2_with fail
   go_ret2
   exact⟨_,by rw [Hr.out];rfl,by rw [Hr.out];exact ho,hg⟩
 . have hv':qaj l=false:=by simpa using hv
   have Hr:Hid (qeo l=none):=by show _=_;unfold qeo;rw [if_neg hv]
   have Hv:=Lib.hid hv';clear hv hv';go_enter Tryz.func146,Tryz.ntmps146;go_wp2_with fail;refine(qcd _ l _ h).mono ?_;rw [Hv.out];rintro e w1 ⟨rfl,rfl⟩;go_wp2_with fail
   go_ret2
   exact⟨_,by rw [Hr.out];rfl,by rw [Hr.out];exact qf.nil _ _,qag _ _⟩
theorem qqp(v:Value)(l:List Int)(w:World)(h:RI w v l):Calls Tryz.prog 147 #[v] w (qfv w (qep l)):=by
 obtain⟨A,n,c,rfl⟩:=h.val;by_cases hv:qaj l=true
 . have Hr:Hid (qep l=some (qh l)):=by show _=_;unfold qep;rw [if_pos hv]
   have Hv:=Lib.hid hv;clear hv;go_enter Tryz.func147,Tryz.ntmps147;go_wp2_with fail;refine(qcd _ l _ h).mono ?_;rw [Hv.out];rintro e w1 ⟨rfl,rfl⟩;go_wp2_with fail;refine(q14 _ l _ h (by have:=qbx Hv.out;omega)).mono ?_;rintro e w2 ⟨v2,rfl,ho,hg⟩;obtain⟨A',n',c',rfl⟩:=ho.ri.val;go_wp2_with fail
   go_ret2
   exact⟨_,by rw [Hr.out];rfl,by rw [Hr.out];exact ho,hg⟩
 . have hv':qaj l=false:=by simpa using hv
   have Hr:Hid (qep l=none):=by show _=_;unfold qep;rw [if_neg hv]
   have Hv:=Lib.hid hv';clear hv hv';go_enter Tryz.func147,Tryz.ntmps147;go_wp2_with fail;refine(qcd _ l _ h).mono ?_;rw [Hv.out];rintro e w1 ⟨rfl,rfl⟩;go_wp2_with fail
   go_ret2
   exact⟨_,by rw [Hr.out];rfl,by rw [Hr.out];exact qf.nil _ _,qag _ _⟩
theorem qqq(v:Value)(l:List Int)(w:World)(h:RI w v l):Calls Tryz.prog 148 #[v] w (qfv w (qeq l)):=by
 obtain⟨A,n,c,rfl⟩:=h.val;by_cases hv:qaj l=true
 . have Hr:Hid (qeq l=some (l.reverse)):=by show _=_;unfold qeq;rw [if_pos hv]
   have Hv:=Lib.hid hv;clear hv;go_enter Tryz.func148,Tryz.ntmps148;go_wp2_with fail;refine(qcd _ l _ h).mono ?_;rw [Hv.out];rintro e w1 ⟨rfl,rfl⟩;go_wp2_with fail;refine(q15 _ l _ h (by have:=qbx Hv.out;omega)).mono ?_;rintro e w2 ⟨v2,rfl,ho,hg⟩;obtain⟨A',n',c',rfl⟩:=ho.ri.val;go_wp2_with fail
   go_ret2
   exact⟨_,by rw [Hr.out];rfl,by rw [Hr.out];exact ho,hg⟩
 . have hv':qaj l=false:=by simpa using hv
   have Hr:Hid (qeq l=none):=by show _=_;unfold qeq;rw [if_neg hv]
   have Hv:=Lib.hid hv';clear hv hv';go_enter Tryz.func148,Tryz.ntmps148;go_wp2_with fail;refine(qcd _ l _ h).mono ?_;rw [Hv.out];rintro e w1 ⟨rfl,rfl⟩;go_wp2_with fail
   go_ret2
   exact⟨_,by rw [Hr.out];rfl,by rw [Hr.out];exact qf.nil _ _,qag _ _⟩
end
section
open Go.RowKit
def qum(qa:List Node)(i:Nat):Int:=((dedup (qfd qa i)).length:Int)
theorem qw0(qa:List Node):qa6 qa=(List.range qa.length).map (qum qa):=qwz qa
theorem q6o(qa:List Node)(k:Nat):(List.range (k+1)).map (qum qa)=(List.range k).map (qum qa)++[qum qa k]:=by
 rw [List.range_succ,List.map_append];rfl
theorem q2e{l:List Int}(hl:∀ y∈l,0<=y){q:Nat}{y:Int}(h:l[q]?=some y):(dedup (l.take (q+1))).length=if y∈l.take q then (dedup (l.take q)).length else (dedup (l.take q)).length+1:=by
 obtain⟨hq,rfl⟩:=List.getElem?_eq_some_iff.1 h;rw [List.take_succ_eq_append_getElem hq,q2d];have h1:=qul (l:=l.take q) (fun y hy=>hl y (List.mem_of_mem_take hy)) (hl l[q] (List.getElem_mem hq));by_cases hm:l[q]∈l.take q
 . rw [if_pos hm,if_pos (h1.2 hm)]
 . rw [if_neg hm,if_neg (fun e=>hm (h1.1 e)),List.length_append];rfl
theorem ql4(v:Value)(qa:List Node)(w:World)(h:RN w v qa)(hv:qae qa=true):Calls Tryz.prog 75 #[v] w (qes w (qa6 qa)):=by
 obtain⟨A,n,c,rfl,hnc,hn,-⟩:=h.form';have jF:=qal hv;have zC:n<=10:=by omega
 have Hn:=Lib.hid hn;have Hv:=Lib.hid hv;have h0:qf (w.alloc (.cells #[] 3)) w.heap.size (.slice (some ⟨w.heap.size,0,none⟩) 0 0) []:=qf.empty w (Nat.le_refl _);clear hn hv jF;go_enter Tryz.func75,Tryz.ntmps75;go_wp2_with fail
 go_loopg [3,4] (n+1) (fun mm out i wr=>∃ k:Nat,k<=n/\mm=n+1 - k/\i=.int .i64 k/\qf wr w.heap.size out ((List.range k).map (qum qa))/\w.grownBy wr none)
 case atStart=>exact⟨0,Nat.zero_le _,rfl,rfl,h0,qap (qag w none) _⟩
 case round=>
   clear h0;obtain⟨k,hk,rfl,rfl,hown,hg⟩:=hrel;by_cases hlt:k < n
   . obtain⟨g,o,nd,f,r,rfl,hx,c0,c1,c2,hf,hr⟩:=(h.new hg).at_ hlt;obtain⟨Af,nf,cf,rfl,hfc,hnf⟩:=hf.form';have hf2:nf<=2:=by rw [hnf];exact(qa4 Hv.out hx).2.1
     have qfI:Hid (∀ y∈nd.frm,0<=y):=fun y hy=>(qcj (qa4 Hv.out hx).1 hy).1;have Hfr:Hid (qfd qa k=nd.frm):=qdk hx;have Hnf:=Lib.hid hnf;have hol:((List.range k).map (qum qa)).length<=1000000000:=by rw [List.length_map,List.length_range];omega
     clear hx c0 c2 hr hnf;go_wp2_with fail
     go_loopg [5,6] (nf+1) (fun mm m i wq=>∃ q:Nat,q<=nf/\mm=nf+1 - q/\i=.int .i64 q/\m=.int .i64 ((dedup (nd.frm.take q)).length:Int)/\wr.grownBy wq none)
     case atStart=>exact⟨0,Nat.zero_le _,rfl,rfl,rfl,qag _ _⟩
     case round=>
       obtain⟨q,hq,rfl,rfl,rfl,hgq⟩:=hrel;have c1q:=qdi c1 hgq;by_cases hlq:q < nf
       . obtain⟨g2,o2,y,rfl,hy,d0⟩:=(hf.new hgq).at_ hlq;have ht:=(hf.new hgq).take (k:=q) (by omega);have hqc:q<=cf:=by omega
         have hs:=q2e qfI.out hy
         have hdl:(dedup (nd.frm.take q)).length<=2:=by
           have:=qpj (nd.frm.take q);rw [List.length_take] at this;omega
         clear hy;by_cases hm:y∈nd.frm.take q
         . have Hm:Hid (decide (y∈nd.frm.take q)=true):=decide_eq_true hm;rw [if_pos hm] at hs;have Hs:=Lib.hid hs;clear hs hm;go_wp2_with fail
           go_quiet ((go_at_call 123;exact qct (qdq _ _ _ _ (by exact ht) Hm.out)))
           go_wp2_with fail;go_roundg (nf+1 - (q+1))
           case measure=>omega
           case rel=>exact⟨q+1,by omega,rfl,by go_num,by rw [Hs.out],qb8 hgq _⟩
         . have Hm:Hid (decide (y∈nd.frm.take q)=false):=decide_eq_false hm;rw [if_neg hm] at hs;have Hs:=Lib.hid hs;clear hs hm;go_wp2_with fail
           go_quiet ((go_at_call 123;exact qct (qdq _ _ _ _ (by exact ht) Hm.out)))
           go_wp2_with fail;go_roundg (nf+1 - (q+1))
           case measure=>omega
           case rel=>exact⟨q+1,by omega,rfl,by go_num,by rw [Hs.out];go_num,qb8 hgq _⟩
       . obtain rfl:q=nf:=by omega
         have Hc:Hid (((dedup (nd.frm.take q)).length:Int)=qum qa k):=by
           show _=_;unfold qum;rw [Hfr.out,List.take_of_length_le (by rw [<-Hnf.out];exact Nat.le_refl _)]
         rw [Hc.out];have yU:=hown.new hgq;have hg':=qac hg hgq;go_wp2_with (at_builtin;go_must (refine qcg _ _ rfl rfl yU hol hg'.size rfl rfl ?_));intro v2 w2 j4 hg2;rw [<-q6o] at j4;have hg3:=yU.gb hg' hg2 (Nat.le_refl _);obtain⟨A2,n2,c2,rfl⟩:=j4.ri.val;go_wp2_with fail;go_roundg (n+1 - (k+1))
         case measure=>omega
         case rel=>exact⟨k+1,by omega,rfl,by go_num,j4,hg3⟩
   . obtain rfl:k=n:=by omega
     have e:(List.range k).map (qum qa)=qa6 qa:=by rw [qw0,Hn.out]
     rw [e] at hown;obtain⟨A2,n2,c2,rfl⟩:=hown.ri.val;go_wp2_with fail;go_ret;exact⟨_,rfl,hown,hg⟩
theorem qlw{α:Type}{a b:List α}{k:Nat}{x:α}(h:a.take k=b.take k)(hx:a[k]?=some x)(hy:b[k]?=some x):a.take (k+1)=b.take (k+1):=by
 obtain⟨h1,rfl⟩:=List.getElem?_eq_some_iff.1 hx;obtain⟨h2,h3⟩:=List.getElem?_eq_some_iff.1 hy;rw [List.take_succ_eq_append_getElem h1,List.take_succ_eq_append_getElem h2,h,h3]
theorem qi1(va vb:Value)(a b:List Int)(w:World)(ha:RI w va a)(hb:RI w vb b){c:Bool}(hc:decide (a=b)=c) :
   Calls Tryz.prog 163 #[va,vb] w fun e w'=>e=.returned (.bool c)/\w.grownBy w' none:=by
 obtain⟨A,n,d,rfl,_,hn⟩:=ha.form';obtain⟨B,m,d',rfl,_,hm⟩:=hb.form';have hle:=ha.le;have Hn:=Lib.hid hn;have Hm:=Lib.hid hm;have hnx:n<=9223372036854775807:=by omega
 by_cases hnm:n=m
 . subst hnm;have Hc:=Lib.hid hc;clear hn hm hc hle;go_enter Tryz.func163,Tryz.ntmps163;go_wp2_with fail
   go_loopg [5] (n+1) (fun mm i wr=>∃ k:Nat,k<=n/\mm=n+1 - k/\i=.int .i64 k/\Hid (a.take k=b.take k)/\w.grownBy wr none)
   case atStart=>exact⟨0,Nat.zero_le _,rfl,rfl,by show _=_;simp,qag _ _⟩
   case round=>
     obtain⟨k,hk,rfl,rfl,Hk,hg⟩:=hrel;by_cases hlt:k < n
     . obtain⟨g,o,x,rfl,hx,c0⟩:=(ha.new hg).at_ hlt;obtain⟨g',o',y,rfl,hy,c1⟩:=(hb.new hg).at_ hlt;have Hx:=Lib.hid hx;have Hy:=Lib.hid hy;clear hx hy;by_cases hxy:x=y
       . subst hxy;have Hs:=Lib.hid (qlw Hk.out Hx.out Hy.out);clear Hk;go_wp2_with fail
         go_quiet (fail)
         go_wp2_with fail;go_roundg (n+1 - (k+1))
         case measure=>omega
         case rel=>exact⟨k+1,by omega,rfl,by go_num,Hs,qb8 hg _⟩
       . have Hr:Hid (c=false):=by
           show _=_;rw [<-Hc.out,decide_eq_false_iff_not];rintro rfl;exact hxy (Option.some.inj (Hx.out.symm.trans Hy.out))
         have hb1:(x != y)=true:=by simpa using hxy
         go_wp2_with fail
         go_quiet (fail)
         go_wp2_with fail;go_ret;exact⟨by rw [Hr.out];rfl,qb8 hg _⟩
     . obtain rfl:k=n:=by omega
       have Hr:Hid (c=true):=by
         show _=_;rw [<-Hc.out,decide_eq_true_eq];have:=Hk.out
         rwa [List.take_of_length_le (by rw [<-Hn.out];exact Nat.le_refl _),List.take_of_length_le (by rw [<-Hm.out];exact Nat.le_refl _)] at this
       clear Hk;go_wp2_with fail;go_ret;exact⟨by rw [Hr.out];rfl,hg⟩
 . have Hr:Hid (c=false):=by
     show _=_;rw [<-hc,decide_eq_false_iff_not];rintro rfl;exact hnm (hn.trans hm.symm)
   have hb1:((n:Int) != (m:Int))=true:=by simp;omega
   clear hn hm hc hle;go_enter Tryz.func163,Tryz.ntmps163;go_wp2_with fail;go_ret;exact⟨by rw [Hr.out];rfl,qag _ _⟩
theorem qlx(va vb:Value)(a b:List Int)(w:World)(ha:RI w va a)(hb:RI w vb b){c:Bool}(hc:decide (a=b)=c) :
   Calls Tryz.prog 83 #[va,vb] w fun e w'=>e=.returned (.bool c)/\w.grownBy w' none:=by
 obtain⟨A,n,d,rfl,_,hn⟩:=ha.form';obtain⟨B,m,d',rfl,_,hm⟩:=hb.form';have hle:=ha.le;have Hn:=Lib.hid hn;have Hm:=Lib.hid hm;have hnx:n<=9223372036854775807:=by omega
 by_cases hnm:n=m
 . subst hnm;have Hc:=Lib.hid hc;clear hn hm hc hle;go_enter Tryz.func83,Tryz.ntmps83;go_wp2_with fail
   go_loopg [13] (n+1) (fun mm i wr=>∃ k:Nat,k<=n/\mm=n+1 - k/\i=.int .i64 k/\Hid (a.take k=b.take k)/\w.grownBy wr none)
   case atStart=>exact⟨0,Nat.zero_le _,rfl,rfl,by show _=_;simp,qag _ _⟩
   case round=>
     obtain⟨k,hk,rfl,rfl,Hk,hg⟩:=hrel;by_cases hlt:k < n
     . obtain⟨g,o,x,rfl,hx,c0⟩:=(ha.new hg).at_ hlt;obtain⟨g',o',y,rfl,hy,c1⟩:=(hb.new hg).at_ hlt;have Hx:=Lib.hid hx;have Hy:=Lib.hid hy;clear hx hy;by_cases hxy:x=y
       . subst hxy;have Hs:=Lib.hid (qlw Hk.out Hx.out Hy.out);clear Hk;go_wp2_with fail
         go_quiet (fail)
         go_wp2_with fail;go_roundg (n+1 - (k+1))
         case measure=>omega
         case rel=>exact⟨k+1,by omega,rfl,by go_num,Hs,qb8 hg _⟩
       . have Hr:Hid (c=false):=by
           show _=_;rw [<-Hc.out,decide_eq_false_iff_not];rintro rfl;exact hxy (Option.some.inj (Hx.out.symm.trans Hy.out))
         have hb1:(x != y)=true:=by simpa using hxy
         go_wp2_with fail
         go_quiet (fail)
         go_wp2_with fail;go_ret;exact⟨by rw [Hr.out];rfl,qb8 hg _⟩
     . obtain rfl:k=n:=by omega
       have Hr:Hid (c=true):=by
         show _=_;rw [<-Hc.out,decide_eq_true_eq];have:=Hk.out
         rwa [List.take_of_length_le (by rw [<-Hn.out];exact Nat.le_refl _),List.take_of_length_le (by rw [<-Hm.out];exact Nat.le_refl _)] at this
       clear Hk;go_wp2_with fail;go_ret;exact⟨by rw [Hr.out];rfl,hg⟩
 . have Hr:Hid (c=false):=by
     show _=_;rw [<-hc,decide_eq_false_iff_not];rintro rfl;exact hnm (hn.trans hm.symm)
   have hb1:((n:Int) != (m:Int))=true:=by simp;omega
   clear hn hm hc hle;go_enter Tryz.func83,Tryz.ntmps83;go_wp2_with fail;go_ret;exact⟨by rw [Hr.out];rfl,qag _ _⟩
theorem qly(va vb:Value)(a b:List Int)(w:World)(ha:RI w va a)(hb:RI w vb b){c:Bool}(hc:decide (a=b)=c) :
   Calls Tryz.prog 21 #[va,vb] w fun e w'=>e=.returned (.bool c)/\w.grownBy w' none:=by
 obtain⟨A,n,d,rfl,_,hn⟩:=ha.form';obtain⟨B,m,d',rfl,_,hm⟩:=hb.form';have hle:=ha.le;have Hn:=Lib.hid hn;have Hm:=Lib.hid hm;have hnx:n<=9223372036854775807:=by omega
 by_cases hnm:n=m
 . subst hnm;have Hc:=Lib.hid hc;clear hn hm hc hle;go_enter Tryz.func21,Tryz.ntmps21;go_wp2_with fail
   go_loopg [5] (n+1) (fun mm i wr=>∃ k:Nat,k<=n/\mm=n+1 - k/\i=.int .i64 k/\Hid (a.take k=b.take k)/\w.grownBy wr none)
   case atStart=>exact⟨0,Nat.zero_le _,rfl,rfl,by show _=_;simp,qag _ _⟩
   case round=>
     obtain⟨k,hk,rfl,rfl,Hk,hg⟩:=hrel;by_cases hlt:k < n
     . obtain⟨g,o,x,rfl,hx,c0⟩:=(ha.new hg).at_ hlt;obtain⟨g',o',y,rfl,hy,c1⟩:=(hb.new hg).at_ hlt;have Hx:=Lib.hid hx;have Hy:=Lib.hid hy;clear hx hy;by_cases hxy:x=y
       . subst hxy;have Hs:=Lib.hid (qlw Hk.out Hx.out Hy.out);clear Hk;go_wp2_with fail
         go_quiet (fail)
         go_wp2_with fail;go_roundg (n+1 - (k+1))
         case measure=>omega
         case rel=>exact⟨k+1,by omega,rfl,by go_num,Hs,qb8 hg _⟩
       . have Hr:Hid (c=false):=by
           show _=_;rw [<-Hc.out,decide_eq_false_iff_not];rintro rfl;exact hxy (Option.some.inj (Hx.out.symm.trans Hy.out))
         have hb1:(x != y)=true:=by simpa using hxy
         go_wp2_with fail
         go_quiet (fail)
         go_wp2_with fail;go_ret;exact⟨by rw [Hr.out];rfl,qb8 hg _⟩
     . obtain rfl:k=n:=by omega
       have Hr:Hid (c=true):=by
         show _=_;rw [<-Hc.out,decide_eq_true_eq];have:=Hk.out
         rwa [List.take_of_length_le (by rw [<-Hn.out];exact Nat.le_refl _),List.take_of_length_le (by rw [<-Hm.out];exact Nat.le_refl _)] at this
       clear Hk;go_wp2_with fail;go_ret;exact⟨by rw [Hr.out];rfl,hg⟩
 . have Hr:Hid (c=false):=by
     show _=_;rw [<-hc,decide_eq_false_iff_not];rintro rfl;exact hnm (hn.trans hm.symm)
   have hb1:((n:Int) != (m:Int))=true:=by simp;omega
   clear hn hm hc hle;go_enter Tryz.func21,Tryz.ntmps21;go_wp2_with fail;go_ret;exact⟨by rw [Hr.out];rfl,qag _ _⟩
theorem qs1(va vb:Value)(a b:List (List Int))(w:World)(ha:RL w va a)(hb:RL w vb b){c:Bool}(hc:decide (a=b)=c) :
   Calls Tryz.prog 22 #[va,vb] w fun e w'=>e=.returned (.bool c)/\w.grownBy w' none:=by
 obtain⟨A,n,d,rfl,_,hn,hnx⟩:=ha.form';obtain⟨B,m,d',rfl,_,hm,hmx⟩:=hb.form';have Hn:=Lib.hid hn;have Hm:=Lib.hid hm;by_cases hnm:n=m
 . subst hnm;have Hc:=Lib.hid hc;clear hn hm hc;go_enter Tryz.func22,Tryz.ntmps22;go_wp2_with fail
   go_loopg [5] (n+1) (fun mm i wr=>∃ k:Nat,k<=n/\mm=n+1 - k/\i=.int .i64 k/\Hid (a.take k=b.take k)/\w.grownBy wr none)
   case atStart=>exact⟨0,Nat.zero_le _,rfl,rfl,by show _=_;simp,qag _ _⟩
   case round=>
     obtain⟨k,hk,rfl,rfl,Hk,hg⟩:=hrel;by_cases hlt:k < n
     . obtain⟨g,o,x,B1,m1,e1,rfl,hx,c0,hx1,-,-,-⟩:=(ha.new hg).at_ hlt;obtain⟨g',o',y,B2,m2,e2,rfl,hy,c1,hy1,-,-,-⟩:=(hb.new hg).at_ hlt;have Hx:=Lib.hid hx;have Hy:=Lib.hid hy;clear hx hy;by_cases hxy:x=y
       . have Hq:Hid (decide (x=y)=true):=by show _=_;simpa using hxy
         have Hs:=Lib.hid (qlw Hk.out Hx.out (hxy ▸ Hy.out));clear Hk hxy;go_wp2_with fail
         go_region_held3 (fun w'=>w'.cell? ⟨g,o+k,none⟩=some (.slice B1 m1 e1)/\w'.cell? ⟨g',o'+k,none⟩=some (.slice B2 m2 e2)) (go_keep)
           (first | (go_at_call 21;refine(qly _ _ x y _ (by exact hx1) (by exact hy1) Hq.out).mono ?_;rintro e w' ⟨rfl,hg'⟩;have k0:=hg'.cell (by exact c0) (by simp);have k1:=hg'.cell (by exact c1) (by simp)))
         go_wp2_with fail;go_roundg (n+1 - (k+1))
         case measure=>omega
         case rel=>exact⟨k+1,by omega,rfl,by go_num,Hs,qac (qax hg) (by assumption)⟩
       . have Hq:Hid (decide (x=y)=false):=by show _=_;simpa using hxy
         have Hr:Hid (c=false):=by
           show _=_;rw [<-Hc.out,decide_eq_false_iff_not];rintro rfl;exact hxy (Option.some.inj (Hx.out.symm.trans Hy.out))
         clear hxy;go_wp2_with fail
         go_region_held3 (fun w'=>w'.cell? ⟨g,o+k,none⟩=some (.slice B1 m1 e1)/\w'.cell? ⟨g',o'+k,none⟩=some (.slice B2 m2 e2)) (go_keep)
           (first | (go_at_call 21;refine(qly _ _ x y _ (by exact hx1) (by exact hy1) Hq.out).mono ?_;rintro e w' ⟨rfl,hg'⟩;have k0:=hg'.cell (by exact c0) (by simp);have k1:=hg'.cell (by exact c1) (by simp)))
         go_wp2_with fail;go_ret;exact⟨by rw [Hr.out];rfl,qac (qax hg) (by assumption)⟩
     . obtain rfl:k=n:=by omega
       have Hr:Hid (c=true):=by
         show _=_;rw [<-Hc.out,decide_eq_true_eq];have:=Hk.out
         rwa [List.take_of_length_le (by rw [<-Hn.out];exact Nat.le_refl _),List.take_of_length_le (by rw [<-Hm.out];exact Nat.le_refl _)] at this
       clear Hk;go_wp2_with fail;go_ret;exact⟨by rw [Hr.out];rfl,hg⟩
 . have Hr:Hid (c=false):=by
     show _=_;rw [<-hc,decide_eq_false_iff_not];rintro rfl;exact hnm (hn.trans hm.symm)
   have hb1:((n:Int) != (m:Int))=true:=by simp;omega
   clear hn hm hc;go_enter Tryz.func22,Tryz.ntmps22;go_wp2_with fail;go_ret;exact⟨by rw [Hr.out];rfl,qag _ _⟩
end
end Go.Proofs.YtacemdoejblgaaaGreatDoor

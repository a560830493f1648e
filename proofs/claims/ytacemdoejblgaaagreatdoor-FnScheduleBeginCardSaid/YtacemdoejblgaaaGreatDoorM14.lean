/- Part M14. Conditions: each statement's. -/
import Derived.Test.YtacemdoejblgaaaGreatDoorM13
import Derived.IntWalk
import Derived.Laws.AppendOwnNone
namespace Go.Proofs.YtacemdoejblgaaaGreatDoor
open Tryz World
set_option maxRecDepth 100000
set_option maxHeartbeats 6400000
section
open Go.RowKit
theorem q89(x:Int)(w:World):Calls prog 208 #[.int .i64 x] w λe w'=>e=.returned (.bool false)/\w=w':=by
 go_enter func208,ntmps208;go_wp2;go_ret;exact⟨rfl,rfl⟩
theorem qmK(x y:Int)(w:World):Calls prog 173 #[.int .i64 x,.int .i64 y] w λe w'=>e=.returned (.bool (decide (x<y)))/\w=w':=by
 go_enter func173,ntmps173;go_wp2_with fail;refine(q89 _ _).mono ?_;rintro e w' ⟨rfl,rfl⟩;go_wp2;go_ret;exact⟨rfl,rfl⟩
theorem qhQ(x y:Int)(w:World){b:Bool}(hb:decide (x<y)=b):Calls prog 173 #[.int .i64 x,.int .i64 y] w λe w'=>e=.returned (.bool b)/\w=w':=hb▸qmK x y w
def qvm(w:World)(base:Nat)(v:Value)(l:List Int)(e:Ending)(w':World):Prop:=e=.returned (.tuple #[])/\qg w' base v l/\w.grownBy w' v.ownBlock
theorem qza(g n cap base:Nat)(l:List Int)(w:World)(h:qg w base (.slice (some ⟨g,0,none⟩) n cap) l)(hn:n=l.length)(hl:n<=12)(nz:Int)(hnz:nz=(n:Nat):=by omega) :
   Calls prog 167 #[.slice (some ⟨g,0,none⟩) n cap,.int .i64 0,.int .i64 nz] w (qvm w base (.slice (some ⟨g,0,none⟩) n cap) (ql l)):=by
 subst hnz;have Hn:=Lib.hid hn;clear hn;go_enter func167,ntmps167;go_wp2_with fail
 go_loopg [6] (n+1) (λm i wr=>∃k:Nat,1<=k/\k<=n+1/\m=n+2-k/\i=.int .i64 k/\Hid (qg wr base (.slice (some ⟨g,0,none⟩) n cap) (qoj l k))/\w.grownBy wr (some g))
 case atStart=>exact⟨1,Nat.le_refl _,by omega,by omega,rfl,by show qg _ _ _ _;rw[q5j];exact h,qah _ _⟩
 case round=>
  clear h;obtain⟨k,hk1,hk,rfl,rfl,HO,hg⟩:=hrel;by_cases hlt:k<n
  . obtain⟨x,hx⟩:∃x,l[k]?=some x:=⟨_,List.getElem?_eq_getElem (by rw[<-Hn.out];exact hlt)⟩;have HO2:=HO.out;rw[q2h hx]at HO2;have HO2:=Lib.hid HO2;have Hx:=Lib.hid hx;clear HO hx;obtain⟨wo,rfl⟩:∃wo:World,wo=wr:=⟨_,rfl⟩;go_wp2_with fail
    go_loopg [7] (k+1) (λm i wr=>∃j:Nat,j<=k/\m=j+1/\i=.int .i64 j/\Hid (qg wr base (.slice (some ⟨g,0,none⟩) n cap) (qke l k j x))/\Hid (∀y∈(ql (l.take k)).drop j,x<y)/\w.grownBy wr (some g))
    case atStart=>exact⟨k,Nat.le_refl _,rfl,rfl,HO2,by
     intro y hy;rw[List.drop_of_length_le (by rw[qe2,List.length_take];omega)]at hy;simp at hy,hg⟩
    case round=>
     clear HO2 hg;obtain⟨j,hj,rfl,rfl,HO,Hgt,hg⟩:=hrel;have hkl:k<l.length:=by rw[<-Hn.out];exact hlt
     have yG:=q7u (l:=l) (i:=k) (j:=j) (x:=x) hkl hj;have hnl:n=(qke l k j x).length:=by rw[q7t hkl hj];exact Hn.out
     by_cases hj0:0<j
     . obtain⟨y,hy1,hy2⟩:=q5l (l:=l) (i:=k) (j:=j) (x:=x) hkl hj hj0;obtain⟨j',rfl⟩:∃j',j=j'+1:=⟨j-1,by omega⟩;simp only[Nat.add_sub_cancel]at hy1 hy2;obtain⟨c0,f0,-,-⟩:=HO.out.cell yG;obtain⟨c1,f1,-,-⟩:=HO.out.cell hy1;have e0:IntKind.i64.wrap (((j'+1:Nat):Int)-1)=(j':Nat):=by rw[show ((j'+1:Nat):Int)-1=(j':Nat) by omega];exact IntWalk.i64_in _ (by omega)
       have hjn:j'+1<n:=by omega
       by_cases hxy:x<y
       . have Hb:=Lib.hid (decide_eq_true hxy);have qmL:Hid (∀z∈(ql (l.take k)).drop j',x<z):=q7v (j:=j'+1) hj0 hy2 hxy Hgt.out;have hO3:=((HO.out.jr hnl (j'+1) y).jr (by rw[List.length_set];exact hnl) j' x);have hsw:=q5m (l:=l) (i:=k) (j:=j'+1) (x:=x) hkl hj hj0 hy2;simp only[Nat.add_sub_cancel]at hsw;rw[hsw]at hO3;have HO3:=Lib.hid hO3;have hg3:w.grownBy ((wr.setCell ⟨g,j'+1,none⟩ (.int .i64 y)).setCell ⟨g,j',none⟩ (.int .i64 x)) (some g):=qbf (p:=⟨g,j',none⟩) (qbf (p:=⟨g,j'+1,none⟩) hg (.inr rfl) _) (.inr rfl) _;clear hO3 hsw yG hnl hy1 hy2 HO Hgt hg hkl;go_wp2_with fail
         go_quiet ((go_at_call 173;exact qdh (qhQ _ _ _ Hb.out)))
         go_wp2_with fail
         go_region
         all_goals
          go_wp2;go_roundg (j'+1)
          case measure=>omega
          case rel=>exact⟨j',by omega,rfl,by go_num,HO3,qmL,qay (qcn hg3 _)⟩
       . have Hb:=Lib.hid (decide_eq_false hxy);have he:=qzu Hx.out hj (.inr ⟨y,hy2,hxy⟩) Hgt.out;have HO3:=HO.out;rw[he]at HO3;have HO3:=Lib.hid HO3;clear he yG hnl hy1 hy2 HO Hgt hkl hxy;go_wp2_with fail
         go_quiet ((go_at_call 173;exact qdh (qhQ _ _ _ Hb.out)))
         go_wp2;go_roundg (n+2-(k+1))
         case measure=>omega
         case rel=>exact⟨k+1,by omega,by omega,rfl,by go_num,HO3,qcn hg _⟩
     . obtain rfl:j=0:=by omega
       have he:=qzu Hx.out hj (.inl rfl) Hgt.out;have HO3:=HO.out;rw[he]at HO3;have HO3:=Lib.hid HO3;clear he yG hnl HO Hgt hkl hj0;go_wp2_with fail
       go_quiet (fail)
       go_wp2;go_roundg (n+2-(k+1))
       case measure=>omega
       case rel=>exact⟨k+1,by omega,by omega,rfl,by go_num,HO3,qcn hg _⟩
  . have HO2:=HO.out;rw[q5k l (by rw[<-Hn.out];omega)]at HO2;have HO2:=Lib.hid HO2;clear HO;go_wp2_with fail;exact bodyPost_ret (results_none rfl _ _ _) rfl ⟨rfl,HO2.out,hg⟩
end
section
open Go.RowKit
def qg6(w:World)(r:Option (List Int))(e:Ending)(w':World):Prop:=∃v,e=.returned (.tuple #[v,.bool r.isSome])/\qg w' w.heap.size v (r.getD [])/\w.grownBy w' none
theorem qij{ops:Array Oper}{rest:List Oper}{o:Oper}{a:Act}{Q:Exit->Act->World->Prop}{w:World}
   (s x:Operand) (t:TypeId) (ht:Tryz.prog.underlying t=some (.slice 3)) (hgd:o.guard=none) (ho:o.op=.call {callee:=.builtin .append,args:=#[s,x],argTypes:=#[t,t]})
   {base:Nat} {xv:Value} {l:List Int} (hxv:RI w xv l) (hn:l.length<=1000000000) (hbase:base<=w.heap.size)
   (hs:a.eval s=.slice none 0 0) (hx:a.eval x=xv)
   (h:∀v' w',qg w' base v' l->w.grownBy w' none->wpList prog ops Q rest (a.put o.dst v') w') :
   wpList prog ops Q (o::rest) a w:=by
 obtain⟨i,hi,hz0,hz1,hz2⟩:=info_parts qok;obtain⟨A,c,e,hc,hcm,hcn⟩:=TS.form hxv;subst e
 match A,hcn with
 |none,hcn=>
  obtain rfl:=hcn rfl;have hl0:l=[]:=List.eq_nil_of_length_eq_zero (by omega);subst hl0;refine wpList_append_own_none hgd s x t ho base 3 i 1 ht hi (.slice none 0 0) 0 [] hs (ownsRow_nil _ _ _ _) hx ?_;exact h _ _ (qg.nil _ _) (qah _ _)
 |some ad,hcn=>
  refine wpList_append_own _ hgd s x t ho base 3 i _ 1 8 ht hi hz0 hz1 hz2 rfl (by decide) (.slice none 0 0) 0 [] hs (ownsRow_nil _ _ _ _) ad l.length c (l.map (.int .i64)) hx (by rw[List.length_map,Nat.mul_one]) ?_ (qjh l) ?_ ?_ hbase ?_
  . intro j u hj;have hjl:=(List.getElem?_eq_some_iff.1 hj).1;rw[List.length_map]at hjl;obtain⟨g,o',cur,e,_,hcell⟩:=TS.at_ hxv (by omega);have e2:ad=⟨g,o',none⟩:=Option.some.inj e;rw[e2,Addr.add_lit];exact hcell j u hj
  . unfold maxLen;omega
  . omega
  . intro v' w' h1 h2 _;refine h v' w' ?_ h2;unfold qg;simpa using h1
theorem qik(v:Value)(l:List Int)(w:World)(h:RI w v l)(hl:l.length<=1000000000):Calls prog 57 #[v] w (qfw w l):=by
 obtain⟨A,n,c,rfl⟩:=h.val;go_enter func57,ntmps57;go_wp2_with (at_builtin;go_must (refine qij _ (.tmp 3) 24 underlying24 rfl rfl h hl (Nat.le_refl _) rfl rfl ?_));intro v' w1 ho hg;obtain⟨A',n',c',rfl⟩:=ho.ri.val;go_wp2;go_ret;exact⟨_,rfl,ho,hg⟩
theorem qmM(x y:Int)(w:World)(h0:0<=x)(h1:x<=1008)(h2:0<=y)(h3:y<=1008):Calls prog 190 #[.int .i64 x,.int .i64 y] w λe w'=>e=.returned (.int .i64 (xO x y))/\w=w':=by
 go_enter func190,ntmps190;go_wp2;go_ret;exact⟨rfl,rfl⟩
theorem qmN(x y:Int)(w:World)(h0:0<=x)(h1:x<=1008)(h2:0<=y)(h3:y<=1008):Calls prog 191 #[.int .i64 x,.int .i64 y] w λe w'=>e=.returned (.int .i64 (xD x y))/\w=w':=by
 have e1:IntKind.i64.wrap (x*y)=x*y:=IntWalk.i64_in _ (by
  have:=Int.mul_nonneg h0 h2;have:=Int.mul_le_mul h1 h3 h2 (by omega);omega)
 go_enter func191,ntmps191;go_wp2;go_ret;exact⟨by first|rfl|simp[xD,e1],rfl⟩
theorem qob(f:Int->Int->Int){a b:List Int}{k:Nat}{x y:Int}(hx:a[k]?=some x)(hy:b[k]?=some y):qB f (a.take (k+1)) (b.take (k+1))=qB f (a.take k) (b.take k)++[f x y%1009]:=by
 obtain⟨h1,rfl⟩:=List.getElem?_eq_some_iff.1 hx;obtain⟨h2,rfl⟩:=List.getElem?_eq_some_iff.1 hy;unfold qB;rw[List.take_succ_eq_append_getElem h1,List.take_succ_eq_append_getElem h2,List.zipWith_append (by rw[List.length_take,List.length_take];omega)];rfl
theorem qh6(f:Int->Int->Int){a b:List Int}{k:Nat}(h1:k<=a.length)(h2:k<=b.length):(qB f (a.take k) (b.take k)).length=k:=by
 unfold qB;rw[List.length_zipWith,List.length_take,List.length_take];omega
def fOf(fid:Nat):Int->Int->Int:=if fid=190 then xO else xD
theorem q9a(fid:Nat){x y:Int}(h0:0<=x)(h1:x<=1008)(h2:0<=y)(h3:y<=1008):0<=fOf fid x y/\fOf fid x y<=1016064:=by
 unfold fOf;split
 . unfold xO;omega
 . unfold xD;refine⟨Int.mul_nonneg h0 h2,?_⟩;have:=Int.mul_le_mul h1 h3 h2 (by omega);omega
theorem q9b(fid:Nat)(kN:fid=190∨fid=191)(x y:Int)(w:World)(h0:0<=x)(h1:x<=1008)(h2:0<=y)(h3:y<=1008) :
   Calls prog fid #[.int .i64 x,.int .i64 y] w λe w'=>e=.returned (.int .i64 (fOf fid x y))/\w=w':=by
 rcases kN with rfl|rfl
 . exact qmM x y w h0 h1 h2 h3
 . exact qmN x y w h0 h1 h2 h3
theorem q44(va vb:Value)(a b:List Int)(fid:Nat)(kN:fid=190∨fid=191)(w:World)(ha:RI w va a)(hb:RI w vb b) :
   Calls prog 189 #[va,vb,.func (.func fid) #[] #[]] w (qg6 w (qez (fOf fid) a b)):=by
 obtain⟨A,n,c,rfl,hc,hn⟩:=ha.form';obtain⟨B,m,d,rfl,hd,hm⟩:=hb.form';have Hn:=Lib.hid hn;have Hm:=Lib.hid hm;have hle:=ha.le;have qmO:=hb.le;rw[<-hn]at hle;rw[<-hm]at qmO;clear hn hm
 have bad:(qal a&&qal b&&decide (a.length=b.length))=false->qez (fOf fid) a b=none:=by
  intro h;unfold qez;rw[if_neg (by rw[h];simp)]
 by_cases hva:qal a=true
 . by_cases hvb:qal b=true
   . by_cases hab:n=m
     . have Hva:=Lib.hid hva;have Hvb:=Lib.hid hvb;have hn6:n<=6:=by rw[Hn.out];exact qch hva
       have Hr:Hid (qez (fOf fid) a b=some (qB (fOf fid) a b)):=by
        show _=_;unfold qez;rw[hva,hvb,<-Hn.out,<-Hm.out,if_pos (by simp[hab])]
       subst hab;obtain⟨F,hF⟩:∃F,F=fOf fid:=⟨_,rfl⟩;have qcA:=Lib.hid (λx y w=>q9b fid kN x y w);have Hbd:=Lib.hid (λ(x y:Int)=>@q9a fid x y);rw[<-hF]at Hr qcA Hbd |-;clear bad hva hvb hF;obtain⟨i0,hi,hz0,hz1,hz2⟩:=info_parts qok;rcases kN with rfl|rfl
       all_goals
        go_enter func189,ntmps189;go_wp2_with fail;refine(qcy _ a _ ha).mono ?_;rw[Hva.out];rintro e w' ⟨rfl,rfl⟩;go_wp2_with fail;refine(qcy _ b _ hb).mono ?_;rw[Hvb.out];rintro e w' ⟨rfl,rfl⟩;go_wp2_with (at_make;go_must (refine wpList_make_full _ rfl _ _ 224 rfl w.heap.size 3 i0 _ 1 underlying224 hi hz0 hz1 _ _ _ _ n rfl rfl rfl rfl (by rw[hz2];omega) (by unfold maxLen;omega) (Nat.le_refl _) ?_));intro w0 hown0 hg0
        have hO0:qg w0 w.heap.size (.slice (some ⟨w.heap.size,0,none⟩) n n) (List.replicate n 0):=by
         refine qg.made ?_;have e:n*1=n:=Nat.mul_one n
         first|exact hown0|(rw[e]at hown0;exact hown0)|(simp at hown0;exact hown0)
        clear hown0;go_wp2_with fail
        go_loopg [31] (n+1) (λmm i wr=>∃k:Nat,k<=n/\mm=n+1-k/\i=.int .i64 k/\Hid (qg wr w.heap.size (.slice (some ⟨w.heap.size,0,none⟩) n n) (qB F (a.take k) (b.take k)++List.replicate (n-k) 0))/\w.grownBy wr none)
        case atStart=>exact⟨0,Nat.zero_le _,rfl,rfl,hO0,hg0⟩
        case round=>
         clear hO0 hg0;obtain⟨k,hk,rfl,rfl,HO,hg⟩:=hrel;by_cases hlt:k<n
         . obtain⟨ga,oa,x,rfl,hx,c0⟩:=(ha.new hg).at_ hlt;obtain⟨gb,ob,y,rfl,hy,c1⟩:=(hb.new hg).at_ hlt;obtain⟨hx0,hx1⟩:=qdr Hva.out (List.mem_of_getElem? hx);obtain⟨hy0,hy1⟩:=qdr Hvb.out (List.mem_of_getElem? hy);have hzl:=qh6 F (a:=a) (b:=b) (k:=k) (by rw[<-Hn.out];omega) (by rw[<-Hm.out];omega);have hll:(qB F (a.take k) (b.take k)++List.replicate (n-k) (0:Int)).length=n:=by rw[List.length_append,hzl,List.length_replicate];omega
           have hz:(qB F (a.take k) (b.take k)++List.replicate (n-k) (0:Int))[k]?=some 0:=by
            rw[List.getElem?_append_right (by omega),hzl,List.getElem?_replicate,if_pos (by omega)]
           have hset:(qB F (a.take k) (b.take k)++List.replicate (n-k) (0:Int)).set k (F x y%1009)=qB F (a.take (k+1)) (b.take (k+1))++List.replicate (n-(k+1)) 0:=by
            rw[qob F hx hy,List.set_append_right _ _ (by omega),hzl,Nat.sub_self,show n-k=n-(k+1)+1 by omega,List.replicate_succ,List.set_cons_zero,List.append_assoc];rfl
           obtain⟨c2,f2,-,-⟩:=HO.out.cell hz;have hO2:=HO.out.jr hll.symm k (F x y%1009);rw[hset]at hO2;have HO2:=Lib.hid hO2;obtain⟨hb0,hb1⟩:=Hbd.out x y hx0 hx1 hy0 hy1;have hg2:w.grownBy (wr.setCell ⟨w.heap.size,k,none⟩ (.int .i64 (F x y%1009))) none:=qbf (p:=⟨w.heap.size,k,none⟩) hg (.inl (Nat.le_refl _)) _;clear hx hy hzl hll hz hset hO2 HO;go_wp2_with fail;refine(qcA.out x y _ hx0 hx1 hy0 hy1).mono ?_;rintro e w' ⟨rfl,rfl⟩;go_wp2;go_roundg (n+1-(k+1))
           case measure=>omega
           case rel=>exact⟨k+1,by omega,rfl,by go_num,HO2,hg2⟩
         . obtain rfl:k=n:=by omega
           have hO2:qg wr w.heap.size (.slice (some ⟨w.heap.size,0,none⟩) k k) (qB F a b):=by
            have:=HO.out;rw[Nat.sub_self,List.replicate_zero,List.append_nil,List.take_of_length_le (by rw[<-Hn.out];exact Nat.le_refl _),List.take_of_length_le (by rw[<-Hm.out];exact Nat.le_refl _)]at this;exact this
           clear HO;go_wp2_with fail
           go_ret2
           exact⟨_,by rw[Hr.out];rfl,by rw[Hr.out];exact hO2,hg⟩
     . have Hr:=Lib.hid (bad (by rw[<-Hn.out,<-Hm.out,decide_eq_false hab];simp));have Hva:=Lib.hid hva;have Hvb:=Lib.hid hvb;have hb:((n:Int) != (m:Int))=true:=by rw[bne_iff_ne];omega
       clear bad hva hvb hab;rcases kN with rfl|rfl
       all_goals
        go_enter func189,ntmps189;go_wp2_with fail;refine(qcy _ a _ ha).mono ?_;rw[Hva.out];rintro e w' ⟨rfl,rfl⟩;go_wp2_with fail;refine(qcy _ b _ (by assumption)).mono ?_;rw[Hvb.out];rintro e w' ⟨rfl,rfl⟩;go_wp2_with fail
        go_ret2
        exact⟨_,by rw[Hr.out];rfl,by rw[Hr.out];exact qg.nil _ _,qah _ _⟩
   . have kO:qal b=false:=by simpa using hvb
     have Hr:=Lib.hid (bad (by rw[kO];simp));have Hva:=Lib.hid hva;have Hvb:=Lib.hid kO;clear bad hva hvb kO;rcases kN with rfl|rfl
     all_goals
      go_enter func189,ntmps189;go_wp2_with fail;refine(qcy _ a _ ha).mono ?_;rw[Hva.out];rintro e w' ⟨rfl,rfl⟩;go_wp2_with fail;refine(qcy _ b _ hb).mono ?_;rw[Hvb.out];rintro e w' ⟨rfl,rfl⟩;go_wp2_with fail
      go_ret2
      exact⟨_,by rw[Hr.out];rfl,by rw[Hr.out];exact qg.nil _ _,qah _ _⟩
 . have kP:qal a=false:=by simpa using hva
   have Hr:=Lib.hid (bad (by rw[kP];simp));have Hva:=Lib.hid kP;clear bad hva kP;rcases kN with rfl|rfl
   all_goals
    go_enter func189,ntmps189;go_wp2_with fail;refine(qcy _ a _ ha).mono ?_;rw[Hva.out];rintro e w' ⟨rfl,rfl⟩;go_wp2_with fail
    go_ret2
    exact⟨_,by rw[Hr.out];rfl,by rw[Hr.out];exact qg.nil _ _,qah _ _⟩
theorem qw8(va vb:Value)(a b:List Int)(w:World)(ha:RI w va a)(hb:RI w vb b):Calls prog 144 #[va,vb] w (qg6 w (qov a b)):=by
 obtain⟨A,n,c,rfl⟩:=ha.val;obtain⟨B,m,d,rfl⟩:=hb.val;go_enter func144,ntmps144;go_wp2_with fail;refine(q44 _ _ a b _ (.inl rfl) _ ha hb).mono ?_;rintro e w1 ⟨v,rfl,ho,hg⟩;have hf:qez (fOf 190) a b=qov a b:=rfl;rw[hf]at ho |-;obtain⟨A',n',c',rfl⟩:=ho.ri.val;clear hf;go_wp2_with fail
 go_ret2
 exact⟨_,rfl,ho,hg⟩
theorem qtn(va vb:Value)(a b:List Int)(w:World)(ha:RI w va a)(hb:RI w vb b):Calls prog 145 #[va,vb] w (qg6 w (qhc a b)):=by
 obtain⟨A,n,c,rfl⟩:=ha.val;obtain⟨B,m,d,rfl⟩:=hb.val;go_enter func145,ntmps145;go_wp2_with fail;refine(q44 _ _ a b _ (.inr rfl) _ ha hb).mono ?_;rintro e w1 ⟨v,rfl,ho,hg⟩;have hf:qez (fOf 191) a b=qhc a b:=rfl;rw[hf]at ho |-;obtain⟨A',n',c',rfl⟩:=ho.ri.val;clear hf;go_wp2_with fail
 go_ret2
 exact⟨_,rfl,ho,hg⟩
end
section
open Go.RowKit
theorem q9c(g n cap base:Nat)(l:List Int)(w:World)(h:qg w base (.slice (some ⟨g,0,none⟩) n cap) l)(hn:n=l.length)(hl:n<=12)(lim:Int) :
   Calls prog 133 #[.slice (some ⟨g,0,none⟩) n cap,.int .i64 0,.int .i64 n,.int .i64 lim] w (qvm w base (.slice (some ⟨g,0,none⟩) n cap) (ql l)):=by
 have Hn:=Lib.hid hn;clear hn;go_enter func133,ntmps133;go_wp2_with fail;refine wp_loop_rounds 1 ?_;rw[rounds_succ];go_wp2_with fail;refine(qza g n cap base l _ h Hn.out hl _).mono ?_;rintro e w1 ⟨rfl,ho,hg⟩;go_wp2_with fail;exact bodyPost_ret (results_none rfl _ _ _) rfl ⟨rfl,ho,hg⟩
def q9d(w:World)(e:Ending)(w':World):Prop:=(∃z:Int,e=.returned (.int .i64 z))/\w=w'
theorem q9e(n:Nat)(hn:n<=12)(w:World):Calls prog 177 #[.int .u64 n] w (q9d w):=by
 rcases (show n=0∨n=1∨n=2∨n=3∨n=4∨n=5∨n=6∨n=7∨n=8∨n=9∨n=10∨n=11∨n=12 by omega)with rfl|rfl|rfl|rfl|rfl|rfl|rfl|rfl|rfl|rfl|rfl|rfl|rfl
 all_goals
  go_enter func177,ntmps177;go_wp2;go_ret;exact⟨⟨_,rfl⟩,rfl⟩
theorem qjs(n:Nat)(hn:n<=12)(w:World):Calls prog 134 #[.int .u64 n] w (q9d w):=by
 go_enter func134,ntmps134;go_wp2_with fail;refine(q9e n hn _).mono ?_;rintro e w' ⟨⟨z,rfl⟩,rfl⟩;go_wp2;go_ret;exact⟨⟨z,rfl⟩,rfl⟩
theorem q1l(g n cap base:Nat)(l:List Int)(w:World)(h:qg w base (.slice (some ⟨g,0,none⟩) n cap) l)(hn:n=l.length)(hl:n<=12) :
   Calls prog 210 #[.slice (some ⟨g,0,none⟩) n cap] w (qvm w base (.slice (some ⟨g,0,none⟩) n cap) (ql l)):=by
 have Hn:=Lib.hid hn;clear hn;go_enter func210,ntmps210;go_wp2_with fail;refine(qjs n hl _).mono ?_;rintro e w' ⟨⟨z,rfl⟩,rfl⟩;go_wp2_with fail;refine(q9c g n cap base l _ h Hn.out hl z).mono ?_;rintro e w1 ⟨rfl,ho,hg⟩;go_wp2_with fail;exact bodyPost_ret (results_none rfl _ _ _) rfl ⟨rfl,ho,hg⟩
theorem q3v(g n cap base:Nat)(l:List Int)(w:World)(h:qg w base (.slice (some ⟨g,0,none⟩) n cap) l)(hn:n=l.length)(hl:n<=1000) :
   Calls prog 211 #[.slice (some ⟨g,0,none⟩) n cap] w (qvm w base (.slice (some ⟨g,0,none⟩) n cap) l.reverse):=by
 have Hn:=Lib.hid hn;clear hn;go_enter func211,ntmps211;go_wp2_with fail
 go_loopg [2,3] (n+1) (λmm i j wr=>∃(k:Nat) (m:List Int),k<=n/\mm=n+1-k/\i=.int .i64 k/\j=.int .i64 ((n:Int)-1-k)/\Hid (vI l m k)/\Hid (qg wr base (.slice (some ⟨g,0,none⟩) n cap) m)/\w.grownBy wr (some g))
 case atStart=>exact⟨0,l,Nat.zero_le _,rfl,rfl,by go_num,vI.zero l,h,qah _ _⟩
 case round=>
  clear h;obtain⟨k,m,hk,rfl,rfl,rfl,HR,HO,hg⟩:=hrel;have hml:n=m.length:=by rw[HR.out.1];exact Hn.out
  by_cases hlt:(k:Int)<(n:Int)-1-k
  . obtain⟨q,hq⟩:∃q:Nat,q=n-1-k:=⟨_,rfl⟩;have hqi:((n:Int)-1-k)=(q:Int):=by omega
    rw[hqi]at hlt |-;obtain⟨x,hx⟩:∃x,m[k]?=some x:=⟨_,List.getElem?_eq_getElem (by omega)⟩;obtain⟨y,hy⟩:∃y,m[q]?=some y:=⟨_,List.getElem?_eq_getElem (by omega)⟩;obtain⟨c0,f0,-,-⟩:=HO.out.cell hx;obtain⟨c1,f1,-,-⟩:=HO.out.cell hy;have hR2:=HR.out.step (by rw[<-Hn.out];omega) hx (by rw[<-Hn.out,<-hq];exact hy);rw[<-Hn.out,<-hq]at hR2;have HR2:=Lib.hid hR2;have HO3:=Lib.hid ((HO.out.jr hml k y).jr (by rw[List.length_set];exact hml) q x);have hg3:w.grownBy ((wr.setCell ⟨g,k,none⟩ (.int .i64 y)).setCell ⟨g,q,none⟩ (.int .i64 x)) (some g):=qbf (p:=⟨g,q,none⟩) (qbf (p:=⟨g,k,none⟩) hg (.inr rfl) _) (.inr rfl) _;have hkq:k<q:=by omega
    have hqn:q<n:=by omega
    have Hq:=Lib.hid hqi;clear hR2 hq hqi hx hy hml HR HO hg;go_wp2_with fail
    go_region
    all_goals
     go_wp2;go_roundg (n+1-(k+1))
     case measure=>omega
     case rel=>exact⟨k+1,_,by omega,rfl,by go_num,by rw[<-Hq.out];go_num,HR2,HO3,qay hg3⟩
  . have he:=HR.out.done (by rw[<-Hn.out];omega);have HO2:=HO.out;rw[he]at HO2;have HO2:=Lib.hid HO2;clear he hml HO HR;go_wp2_with fail;exact bodyPost_ret (results_none rfl _ _ _) rfl ⟨rfl,HO2.out,hg⟩
end
section
open Go.RowKit
theorem ql3(s:Int)(l:List Int)(x:Int):qbu s (l++[x])=qbu s l++[((qbu s l).getLast?.getD s+x)%1009]:=by
 induction l generalizing s with
 |nil=>rfl
 |cons y ys ih=>
  rw[List.cons_append,qbu,ih,qbu];cases h:qbu ((s+y)%1009) ys with
  |nil=>simp
  |cons z zs=>
   have hq:∃q,(z::zs).getLast?=some q:=⟨_,List.getLast?_eq_some_getLast (by simp)⟩;obtain⟨q,hq⟩:=hq;rw[hq,List.getLast?_cons_cons,hq];rfl
theorem qmP(v:Value)(l:List Int)(w:World)(h:RI w v l)(hv:qal l=true):Calls prog 193 #[v] w (qfw w (qbu 0 l)):=by
 obtain⟨A,n,c,rfl,hc,hn⟩:=h.form';have hn6:n<=6:=by rw[hn];exact qch hv
 have Hn:=Lib.hid hn;have Hv:=Lib.hid hv;clear hn hv;obtain⟨i0,hi,hz0,hz1,hz2⟩:=info_parts qok;go_enter func193,ntmps193;go_wp2_with (at_make;go_must (refine wpList_make_full _ rfl _ _ 224 rfl w.heap.size 3 i0 _ 1 underlying224 hi hz0 hz1 _ _ _ _ n rfl rfl rfl rfl (by rw[hz2];omega) (by unfold maxLen;omega) (Nat.le_refl _) ?_));intro w0 hown0 hg0
 have hO0:qg w0 w.heap.size (.slice (some ⟨w.heap.size,0,none⟩) n n) (List.replicate n 0):=by
  refine qg.made ?_;have e:n*1=n:=Nat.mul_one n
  first|exact hown0|(rw[e]at hown0;exact hown0)|(simp at hown0;exact hown0)
 clear hown0;go_wp2_with fail
 go_loopg [4,12] (n+1) (λmm s i wr=>∃(k:Nat) (z:Int),k<=n/\mm=n+1-k/\i=.int .i64 k/\s=.int .i64 z/\0<=z/\z<=1008/\Hid (z=(qbu 0 (l.take k)).getLast?.getD 0)/\Hid (qg wr w.heap.size (.slice (some ⟨w.heap.size,0,none⟩) n n) (qbu 0 (l.take k)++List.replicate (n-k) 0))/\w.grownBy wr none)
 case atStart=>exact⟨0,0,Nat.zero_le _,rfl,rfl,rfl,by omega,by omega,rfl,hO0,hg0⟩
 case round=>
  clear hO0 hg0;obtain⟨k,z,hk,rfl,rfl,rfl,hz0',qtG,Hz,HO,hg⟩:=hrel;by_cases hlt:k<n
  . obtain⟨ga,oa,x,rfl,hx,c0⟩:=(h.new hg).at_ hlt;obtain⟨hx0,hx1⟩:=qdr Hv.out (List.mem_of_getElem? hx);obtain⟨hk',hx'⟩:=List.getElem?_eq_some_iff.1 hx;have hsl:(qbu 0 (l.take k)).length=k:=by rw[qk7,List.length_take];omega
    have hsn:qbu 0 (l.take (k+1))=qbu 0 (l.take k)++[(z+x)%1009]:=by
     rw[List.take_succ_eq_append_getElem hk',hx',ql3,<-Hz.out]
    have hll:(qbu 0 (l.take k)++List.replicate (n-k) (0:Int)).length=n:=by rw[List.length_append,hsl,List.length_replicate];omega
    have hz:(qbu 0 (l.take k)++List.replicate (n-k) (0:Int))[k]?=some 0:=by
     rw[List.getElem?_append_right (by omega),hsl,List.getElem?_replicate,if_pos (by omega)]
    have hset:(qbu 0 (l.take k)++List.replicate (n-k) (0:Int)).set k ((z+x)%1009)=qbu 0 (l.take (k+1))++List.replicate (n-(k+1)) 0:=by
     rw[hsn,List.set_append_right _ _ (by omega),hsl,Nat.sub_self,show n-k=n-(k+1)+1 by omega,List.replicate_succ,List.set_cons_zero,List.append_assoc];rfl
    have Hz2:Hid ((z+x)%1009=(qbu 0 (l.take (k+1))).getLast?.getD 0):=by
     show _=_;rw[hsn,List.getLast?_append];simp
    obtain⟨c2,f2,-,-⟩:=HO.out.cell hz;have hO2:=HO.out.jr hll.symm k ((z+x)%1009);rw[hset]at hO2;have HO2:=Lib.hid hO2;have hg2:w.grownBy (wr.setCell ⟨w.heap.size,k,none⟩ (.int .i64 ((z+x)%1009))) none:=qbf (p:=⟨w.heap.size,k,none⟩) hg (.inl (Nat.le_refl _)) _;clear hx hk' hx' hsl hsn hll hz hset hO2 HO Hz;go_wp2;go_roundg (n+1-(k+1))
    case measure=>omega
    case rel=>exact⟨k+1,_,by omega,rfl,by go_num,rfl,by omega,by omega,Hz2,HO2,hg2⟩
  . obtain rfl:k=n:=by omega
    have hO2:qg wr w.heap.size (.slice (some ⟨w.heap.size,0,none⟩) k k) (qbu 0 l):=by
     have:=HO.out;rw[Nat.sub_self,List.replicate_zero,List.append_nil,List.take_of_length_le (by rw[<-Hn.out];exact Nat.le_refl _)]at this;exact this
    clear HO Hz;go_wp2;go_ret;exact⟨_,rfl,hO2,hg⟩
def q45(w:World)(e:Ending)(w':World):Prop:=e=.returned (.tuple #[])/\w=w'
theorem qw9(w:World):Calls prog 167 #[.slice none 0 0,.int .i64 0,.int .i64 0] w (q45 w):=by
 go_enter func167,ntmps167;go_wp2_with fail;refine wp_loop_rounds 1 ?_;rw[rounds_succ];go_wp2_with fail;exact bodyPost_ret (results_none rfl _ _ _) rfl ⟨rfl,rfl⟩
theorem q46(lim:Int)(w:World):Calls prog 133 #[.slice none 0 0,.int .i64 0,.int .i64 0,.int .i64 lim] w (q45 w):=by
 go_enter func133,ntmps133;go_wp2_with fail;refine wp_loop_rounds 1 ?_;rw[rounds_succ];go_wp2_with fail;refine(qw9 _).mono ?_;rintro e w1 ⟨rfl,rfl⟩;go_wp2_with fail;exact bodyPost_ret (results_none rfl _ _ _) rfl ⟨rfl,rfl⟩
theorem qzb(w:World):Calls prog 210 #[.slice none 0 0] w (q45 w):=by
 go_enter func210,ntmps210;go_wp2_with fail;refine(qjs 0 (by omega) _).mono ?_;rintro e w' ⟨⟨z,rfl⟩,rfl⟩;go_wp2_with fail;refine(q46 z _).mono ?_;rintro e w1 ⟨rfl,rfl⟩;go_wp2_with fail;exact bodyPost_ret (results_none rfl _ _ _) rfl ⟨rfl,rfl⟩
theorem q60(v:Value)(l:List Int)(w:World)(h:RI w v l)(hl:l.length<=12):Calls prog 194 #[v] w (qfw w (ql l)):=by
 obtain⟨A,n,c,rfl⟩:=h.val;go_enter func194,ntmps194;go_wp2_with (at_builtin;go_must (refine qij _ (.tmp 4) 224 underlying224 rfl rfl h (by omega) (Nat.le_refl _) rfl rfl ?_));intro v' w1 ho hg;rcases ho.2 with ⟨rfl,h0⟩|⟨g,cap,cur,rfl,-⟩
 . obtain rfl:l=[]:=List.eq_nil_of_length_eq_zero h0;clear h0 hl;go_wp2_with fail;refine(qzb _).mono ?_;rintro e w2 ⟨rfl,rfl⟩;go_wp2;go_ret;exact⟨_,rfl,ho,hg⟩
 . obtain⟨m,hm⟩:∃m,m=l.length:=⟨_,rfl⟩;rw[<-hm]at ho hl |-;have Hm:=Lib.hid hm;clear hm;go_wp2_with fail;refine(q1l g m cap _ l _ ho Hm.out hl).mono ?_;rintro e w2 ⟨rfl,ho2,hg2⟩;have hg3:=ho.gb hg hg2 (Nat.le_refl _);go_wp2;go_ret;exact⟨_,rfl,ho2,hg3⟩
theorem q1m(w:World):Calls prog 211 #[.slice none 0 0] w (q45 w):=by
 go_enter func211,ntmps211;go_wp2_with fail;refine wp_loop_rounds 1 ?_;rw[rounds_succ];go_wp2_with fail;exact bodyPost_ret (results_none rfl _ _ _) rfl ⟨rfl,rfl⟩
theorem q61(v:Value)(l:List Int)(w:World)(h:RI w v l)(hl:l.length<=12):Calls prog 195 #[v] w (qfw w l.reverse):=by
 obtain⟨A,n,c,rfl⟩:=h.val;go_enter func195,ntmps195;go_wp2_with (at_builtin;go_must (refine qij _ (.tmp 4) 224 underlying224 rfl rfl h (by omega) (Nat.le_refl _) rfl rfl ?_));intro v' w1 ho hg;rcases ho.2 with ⟨rfl,h0⟩|⟨g,cap,cur,rfl,-⟩
 . obtain rfl:l=[]:=List.eq_nil_of_length_eq_zero h0;clear h0 hl;go_wp2_with fail;refine(q1m _).mono ?_;rintro e w2 ⟨rfl,rfl⟩;go_wp2;go_ret;exact⟨_,rfl,ho,hg⟩
 . obtain⟨m,hm⟩:∃m,m=l.length:=⟨_,rfl⟩;rw[<-hm]at ho hl |-;have Hm:=Lib.hid hm;clear hm;go_wp2_with fail;refine(q3v g m cap _ l _ ho Hm.out (by omega)).mono ?_;rintro e w2 ⟨rfl,ho2,hg2⟩;have hg3:=ho.gb hg hg2 (Nat.le_refl _);go_wp2;go_ret;exact⟨_,rfl,ho2,hg3⟩
theorem qvn(v:Value)(l:List Int)(w:World)(h:RI w v l):Calls prog 146 #[v] w (qg6 w (qfq l)):=by
 obtain⟨A,n,c,rfl⟩:=h.val;by_cases hv:qal l=true
 . have Hr:Hid (qfq l=some (qbu 0 l)):=by show _=_;unfold qfq;rw[if_pos hv]
   have Hv:=Lib.hid hv;clear hv;go_enter func146,ntmps146;go_wp2_with fail;refine(qcy _ l _ h).mono ?_;rw[Hv.out];rintro e w1 ⟨rfl,rfl⟩;go_wp2_with fail;refine(qmP _ l _ h Hv.out).mono ?_;rintro e w2 ⟨v2,rfl,ho,hg⟩;obtain⟨A',n',c',rfl⟩:=ho.ri.val;go_wp2_with fail
   go_ret2
   exact⟨_,by rw[Hr.out];rfl,by rw[Hr.out];exact ho,hg⟩
 . have hv':qal l=false:=by simpa using hv
   have Hr:Hid (qfq l=none):=by show _=_;unfold qfq;rw[if_neg hv]
   have Hv:=Lib.hid hv';clear hv hv';go_enter func146,ntmps146;go_wp2_with fail;refine(qcy _ l _ h).mono ?_;rw[Hv.out];rintro e w1 ⟨rfl,rfl⟩;go_wp2_with fail
   go_ret2
   exact⟨_,by rw[Hr.out];rfl,by rw[Hr.out];exact qg.nil _ _,qah _ _⟩
theorem qvo(v:Value)(l:List Int)(w:World)(h:RI w v l):Calls prog 147 #[v] w (qg6 w (qfr l)):=by
 obtain⟨A,n,c,rfl⟩:=h.val;by_cases hv:qal l=true
 . have Hr:Hid (qfr l=some (ql l)):=by show _=_;unfold qfr;rw[if_pos hv]
   have Hv:=Lib.hid hv;clear hv;go_enter func147,ntmps147;go_wp2_with fail;refine(qcy _ l _ h).mono ?_;rw[Hv.out];rintro e w1 ⟨rfl,rfl⟩;go_wp2_with fail;refine(q60 _ l _ h (by have:=qch Hv.out;omega)).mono ?_;rintro e w2 ⟨v2,rfl,ho,hg⟩;obtain⟨A',n',c',rfl⟩:=ho.ri.val;go_wp2_with fail
   go_ret2
   exact⟨_,by rw[Hr.out];rfl,by rw[Hr.out];exact ho,hg⟩
 . have hv':qal l=false:=by simpa using hv
   have Hr:Hid (qfr l=none):=by show _=_;unfold qfr;rw[if_neg hv]
   have Hv:=Lib.hid hv';clear hv hv';go_enter func147,ntmps147;go_wp2_with fail;refine(qcy _ l _ h).mono ?_;rw[Hv.out];rintro e w1 ⟨rfl,rfl⟩;go_wp2_with fail
   go_ret2
   exact⟨_,by rw[Hr.out];rfl,by rw[Hr.out];exact qg.nil _ _,qah _ _⟩
theorem qvp(v:Value)(l:List Int)(w:World)(h:RI w v l):Calls prog 148 #[v] w (qg6 w (qfs l)):=by
 obtain⟨A,n,c,rfl⟩:=h.val;by_cases hv:qal l=true
 . have Hr:Hid (qfs l=some (l.reverse)):=by show _=_;unfold qfs;rw[if_pos hv]
   have Hv:=Lib.hid hv;clear hv;go_enter func148,ntmps148;go_wp2_with fail;refine(qcy _ l _ h).mono ?_;rw[Hv.out];rintro e w1 ⟨rfl,rfl⟩;go_wp2_with fail;refine(q61 _ l _ h (by have:=qch Hv.out;omega)).mono ?_;rintro e w2 ⟨v2,rfl,ho,hg⟩;obtain⟨A',n',c',rfl⟩:=ho.ri.val;go_wp2_with fail
   go_ret2
   exact⟨_,by rw[Hr.out];rfl,by rw[Hr.out];exact ho,hg⟩
 . have hv':qal l=false:=by simpa using hv
   have Hr:Hid (qfs l=none):=by show _=_;unfold qfs;rw[if_neg hv]
   have Hv:=Lib.hid hv';clear hv hv';go_enter func148,ntmps148;go_wp2_with fail;refine(qcy _ l _ h).mono ?_;rw[Hv.out];rintro e w1 ⟨rfl,rfl⟩;go_wp2_with fail
   go_ret2
   exact⟨_,by rw[Hr.out];rfl,by rw[Hr.out];exact qg.nil _ _,qah _ _⟩
end
section
open Go.RowKit
def qzh(qa:List Node)(i:Nat):Int:=((dedup (qgn qa i)).length:Int)
theorem q1w(qa:List Node):qbm qa=(List.range qa.length).map (qzh qa):=q1v qa
theorem qmQ(qa:List Node)(k:Nat):(List.range (k+1)).map (qzh qa)=(List.range k).map (qzh qa)++[qzh qa k]:=by
 rw[List.range_succ,List.map_append];rfl
theorem q69{l:List Int}(hl:∀y∈l,0<=y){q:Nat}{y:Int}(h:l[q]?=some y):(dedup (l.take (q+1))).length=if y∈l.take q then (dedup (l.take q)).length else (dedup (l.take q)).length+1:=by
 obtain⟨hq,rfl⟩:=List.getElem?_eq_some_iff.1 h;rw[List.take_succ_eq_append_getElem hq,q68];have h1:=qzg (l:=l.take q) (λy hy=>hl y (List.mem_of_mem_take hy)) (hl l[q] (List.getElem_mem hq));by_cases hm:l[q]∈l.take q
 . rw[if_pos hm,if_pos (h1.2 hm)]
 . rw[if_neg hm,if_neg (λe=>hm (h1.1 e)),List.length_append];rfl
theorem qqm(v:Value)(qa:List Node)(w:World)(h:RN w v qa)(hv:qaf qa=true):Calls prog 75 #[v] w (qfw w (qbm qa)):=by
 obtain⟨A,n,c,rfl,hnc,hn,-⟩:=h.form';have zY:=qap hv;have vV:n<=10:=by omega
 have Hn:=Lib.hid hn;have Hv:=Lib.hid hv;have h0:qg (w.alloc (.cells #[] 3)) w.heap.size (.slice (some ⟨w.heap.size,0,none⟩) 0 0) []:=qg.empty w (Nat.le_refl _);clear hn hv zY;go_enter func75,ntmps75;go_wp2_with fail
 go_loopg [3,4] (n+1) (λmm out i wr=>∃k:Nat,k<=n/\mm=n+1-k/\i=.int .i64 k/\qg wr w.heap.size out ((List.range k).map (qzh qa))/\w.grownBy wr none)
 case atStart=>exact⟨0,Nat.zero_le _,rfl,rfl,h0,qar (qah w none) _⟩
 case round=>
  clear h0;obtain⟨k,hk,rfl,rfl,hown,hg⟩:=hrel;by_cases hlt:k<n
  . obtain⟨g,o,nd,f,r,rfl,hx,c0,c1,c2,hf,hr⟩:=(h.new hg).at_ hlt;obtain⟨Af,nf,cf,rfl,hfc,hnf⟩:=hf.form';have hf2:nf<=2:=by rw[hnf];exact(qbk Hv.out hx).2.1
    have qmR:Hid (∀y∈nd.frm,0<=y):=λy hy=>(qc6 (qbk Hv.out hx).1 hy).1;have Hfr:Hid (qgn qa k=nd.frm):=qec hx;have Hnf:=Lib.hid hnf;have hol:((List.range k).map (qzh qa)).length<=1000000000:=by rw[List.length_map,List.length_range];omega
    clear hx c0 c2 hr hnf;go_wp2_with fail
    go_loopg [5,6] (nf+1) (λmm m i wq=>∃q:Nat,q<=nf/\mm=nf+1-q/\i=.int .i64 q/\m=.int .i64 ((dedup (nd.frm.take q)).length:Int)/\wr.grownBy wq none)
    case atStart=>exact⟨0,Nat.zero_le _,rfl,rfl,rfl,qah _ _⟩
    case round=>
     obtain⟨q,hq,rfl,rfl,rfl,hgq⟩:=hrel;have c1q:=qc1 c1 hgq;by_cases hlq:q<nf
     . obtain⟨g2,o2,y,rfl,hy,d0⟩:=(hf.new hgq).at_ hlq;have ht:=(hf.new hgq).take (k:=q) (by omega);have hqc:q<=cf:=by omega
       have hs:=q69 qmR.out hy
       have hdl:(dedup (nd.frm.take q)).length<=2:=by
        have:=quh (nd.frm.take q);rw[List.length_take]at this;omega
       clear hy;by_cases hm:y∈nd.frm.take q
       . have Hm:Hid (decide (y∈nd.frm.take q)=true):=decide_eq_true hm;rw[if_pos hm]at hs;have Hs:=Lib.hid hs;clear hs hm;go_wp2_with fail
         go_quiet ((go_at_call 123;exact qdh (qen _ _ _ _ (by exact ht) Hm.out)))
         go_wp2;go_roundg (nf+1-(q+1))
         case measure=>omega
         case rel=>exact⟨q+1,by omega,rfl,by go_num,by rw[Hs.out],qcn hgq _⟩
       . have Hm:Hid (decide (y∈nd.frm.take q)=false):=decide_eq_false hm;rw[if_neg hm]at hs;have Hs:=Lib.hid hs;clear hs hm;go_wp2_with fail
         go_quiet ((go_at_call 123;exact qdh (qen _ _ _ _ (by exact ht) Hm.out)))
         go_wp2;go_roundg (nf+1-(q+1))
         case measure=>omega
         case rel=>exact⟨q+1,by omega,rfl,by go_num,by rw[Hs.out];go_num,qcn hgq _⟩
     . obtain rfl:q=nf:=by omega
       have Hc:Hid (((dedup (nd.frm.take q)).length:Int)=qzh qa k):=by
        show _=_;unfold qzh;rw[Hfr.out,List.take_of_length_le (by rw[<-Hnf.out];exact Nat.le_refl _)]
       rw[Hc.out];have qcB:=hown.new hgq;have hg':=qad hg hgq;go_wp2_with (at_builtin;go_must (refine qc3 _ _ rfl rfl qcB hol hg'.size rfl rfl ?_));intro v2 w2 zM hg2;rw[<-qmQ]at zM;have hg3:=qcB.gb hg' hg2 (Nat.le_refl _);obtain⟨A2,n2,c2,rfl⟩:=zM.ri.val;go_wp2;go_roundg (n+1-(k+1))
       case measure=>omega
       case rel=>exact⟨k+1,by omega,rfl,by go_num,zM,hg3⟩
  . obtain rfl:k=n:=by omega
    have e:(List.range k).map (qzh qa)=qbm qa:=by rw[q1w,Hn.out]
    rw[e]at hown;obtain⟨A2,n2,c2,rfl⟩:=hown.ri.val;go_wp2;go_ret;exact⟨_,rfl,hown,hg⟩
theorem qqg{α:Type}{a b:List α}{k:Nat}{x:α}(h:a.take k=b.take k)(hx:a[k]?=some x)(hy:b[k]?=some x):a.take (k+1)=b.take (k+1):=by
 obtain⟨h1,rfl⟩:=List.getElem?_eq_some_iff.1 hx;obtain⟨h2,h3⟩:=List.getElem?_eq_some_iff.1 hy;rw[List.take_succ_eq_append_getElem h1,List.take_succ_eq_append_getElem h2,h,h3]
theorem ql5(va vb:Value)(a b:List Int)(w:World)(ha:RI w va a)(hb:RI w vb b){c:Bool}(hc:decide (a=b)=c) :
   Calls prog 163 #[va,vb] w λe w'=>e=.returned (.bool c)/\w.grownBy w' none:=by
 obtain⟨A,n,d,rfl,_,hn⟩:=ha.form';obtain⟨B,m,d',rfl,_,hm⟩:=hb.form';have hle:=ha.le;have Hn:=Lib.hid hn;have Hm:=Lib.hid hm;have hnx:n<=9223372036854775807:=by omega
 by_cases hnm:n=m
 . subst hnm;have Hc:=Lib.hid hc;clear hn hm hc hle;go_enter func163,ntmps163;go_wp2_with fail
   go_loopg [5] (n+1) (λmm i wr=>∃k:Nat,k<=n/\mm=n+1-k/\i=.int .i64 k/\Hid (a.take k=b.take k)/\w.grownBy wr none)
   case atStart=>exact⟨0,Nat.zero_le _,rfl,rfl,by show _=_;simp,qah _ _⟩
   case round=>
    obtain⟨k,hk,rfl,rfl,Hk,hg⟩:=hrel;by_cases hlt:k<n
    . obtain⟨g,o,x,rfl,hx,c0⟩:=(ha.new hg).at_ hlt;obtain⟨g',o',y,rfl,hy,c1⟩:=(hb.new hg).at_ hlt;have Hx:=Lib.hid hx;have Hy:=Lib.hid hy;clear hx hy;by_cases hxy:x=y
      . subst hxy;have Hs:=Lib.hid (qqg Hk.out Hx.out Hy.out);clear Hk;go_wp2_with fail
        go_quiet (fail)
        go_wp2;go_roundg (n+1-(k+1))
        case measure=>omega
        case rel=>exact⟨k+1,by omega,rfl,by go_num,Hs,qcn hg _⟩
      . have Hr:Hid (c=false):=by
         show _=_;rw[<-Hc.out,decide_eq_false_iff_not];rintro rfl;exact hxy (Option.some.inj (Hx.out.symm.trans Hy.out))
        have hb1:(x != y)=true:=by simpa using hxy
        go_wp2_with fail
        go_quiet (fail)
        go_wp2;go_ret;exact⟨by rw[Hr.out];rfl,qcn hg _⟩
    . obtain rfl:k=n:=by omega
      have Hr:Hid (c=true):=by
       show _=_;rw[<-Hc.out,decide_eq_true_eq];have:=Hk.out
       rwa [List.take_of_length_le (by rw[<-Hn.out];exact Nat.le_refl _),List.take_of_length_le (by rw[<-Hm.out];exact Nat.le_refl _)]at this
      clear Hk;go_wp2;go_ret;exact⟨by rw[Hr.out];rfl,hg⟩
 . have Hr:Hid (c=false):=by
    show _=_;rw[<-hc,decide_eq_false_iff_not];rintro rfl;exact hnm (hn.trans hm.symm)
   have hb1:((n:Int) != (m:Int))=true:=by simp;omega
   clear hn hm hc hle;go_enter func163,ntmps163;go_wp2;go_ret;exact⟨by rw[Hr.out];rfl,qah _ _⟩
theorem qqh(va vb:Value)(a b:List Int)(w:World)(ha:RI w va a)(hb:RI w vb b){c:Bool}(hc:decide (a=b)=c) :
   Calls prog 83 #[va,vb] w λe w'=>e=.returned (.bool c)/\w.grownBy w' none:=by
 obtain⟨A,n,d,rfl,_,hn⟩:=ha.form';obtain⟨B,m,d',rfl,_,hm⟩:=hb.form';have hle:=ha.le;have Hn:=Lib.hid hn;have Hm:=Lib.hid hm;have hnx:n<=9223372036854775807:=by omega
 by_cases hnm:n=m
 . subst hnm;have Hc:=Lib.hid hc;clear hn hm hc hle;go_enter func83,ntmps83;go_wp2_with fail
   go_loopg [13] (n+1) (λmm i wr=>∃k:Nat,k<=n/\mm=n+1-k/\i=.int .i64 k/\Hid (a.take k=b.take k)/\w.grownBy wr none)
   case atStart=>exact⟨0,Nat.zero_le _,rfl,rfl,by show _=_;simp,qah _ _⟩
   case round=>
    obtain⟨k,hk,rfl,rfl,Hk,hg⟩:=hrel;by_cases hlt:k<n
    . obtain⟨g,o,x,rfl,hx,c0⟩:=(ha.new hg).at_ hlt;obtain⟨g',o',y,rfl,hy,c1⟩:=(hb.new hg).at_ hlt;have Hx:=Lib.hid hx;have Hy:=Lib.hid hy;clear hx hy;by_cases hxy:x=y
      . subst hxy;have Hs:=Lib.hid (qqg Hk.out Hx.out Hy.out);clear Hk;go_wp2_with fail
        go_quiet (fail)
        go_wp2;go_roundg (n+1-(k+1))
        case measure=>omega
        case rel=>exact⟨k+1,by omega,rfl,by go_num,Hs,qcn hg _⟩
      . have Hr:Hid (c=false):=by
         show _=_;rw[<-Hc.out,decide_eq_false_iff_not];rintro rfl;exact hxy (Option.some.inj (Hx.out.symm.trans Hy.out))
        have hb1:(x != y)=true:=by simpa using hxy
        go_wp2_with fail
        go_quiet (fail)
        go_wp2;go_ret;exact⟨by rw[Hr.out];rfl,qcn hg _⟩
    . obtain rfl:k=n:=by omega
      have Hr:Hid (c=true):=by
       show _=_;rw[<-Hc.out,decide_eq_true_eq];have:=Hk.out
       rwa [List.take_of_length_le (by rw[<-Hn.out];exact Nat.le_refl _),List.take_of_length_le (by rw[<-Hm.out];exact Nat.le_refl _)]at this
      clear Hk;go_wp2;go_ret;exact⟨by rw[Hr.out];rfl,hg⟩
 . have Hr:Hid (c=false):=by
    show _=_;rw[<-hc,decide_eq_false_iff_not];rintro rfl;exact hnm (hn.trans hm.symm)
   have hb1:((n:Int) != (m:Int))=true:=by simp;omega
   clear hn hm hc hle;go_enter func83,ntmps83;go_wp2;go_ret;exact⟨by rw[Hr.out];rfl,qah _ _⟩
theorem qcv(va vb:Value)(a b:List Int)(w:World)(ha:RI w va a)(hb:RI w vb b){c:Bool}(hc:decide (a=b)=c) :
   Calls prog 21 #[va,vb] w λe w'=>e=.returned (.bool c)/\w.grownBy w' none:=by
 obtain⟨A,n,d,rfl,_,hn⟩:=ha.form';obtain⟨B,m,d',rfl,_,hm⟩:=hb.form';have hle:=ha.le;have Hn:=Lib.hid hn;have Hm:=Lib.hid hm;have hnx:n<=9223372036854775807:=by omega
 by_cases hnm:n=m
 . subst hnm;have Hc:=Lib.hid hc;clear hn hm hc hle;go_enter func21,ntmps21;go_wp2_with fail
   go_loopg [5] (n+1) (λmm i wr=>∃k:Nat,k<=n/\mm=n+1-k/\i=.int .i64 k/\Hid (a.take k=b.take k)/\w.grownBy wr none)
   case atStart=>exact⟨0,Nat.zero_le _,rfl,rfl,by show _=_;simp,qah _ _⟩
   case round=>
    obtain⟨k,hk,rfl,rfl,Hk,hg⟩:=hrel;by_cases hlt:k<n
    . obtain⟨g,o,x,rfl,hx,c0⟩:=(ha.new hg).at_ hlt;obtain⟨g',o',y,rfl,hy,c1⟩:=(hb.new hg).at_ hlt;have Hx:=Lib.hid hx;have Hy:=Lib.hid hy;clear hx hy;by_cases hxy:x=y
      . subst hxy;have Hs:=Lib.hid (qqg Hk.out Hx.out Hy.out);clear Hk;go_wp2_with fail
        go_quiet (fail)
        go_wp2;go_roundg (n+1-(k+1))
        case measure=>omega
        case rel=>exact⟨k+1,by omega,rfl,by go_num,Hs,qcn hg _⟩
      . have Hr:Hid (c=false):=by
         show _=_;rw[<-Hc.out,decide_eq_false_iff_not];rintro rfl;exact hxy (Option.some.inj (Hx.out.symm.trans Hy.out))
        have hb1:(x != y)=true:=by simpa using hxy
        go_wp2_with fail
        go_quiet (fail)
        go_wp2;go_ret;exact⟨by rw[Hr.out];rfl,qcn hg _⟩
    . obtain rfl:k=n:=by omega
      have Hr:Hid (c=true):=by
       show _=_;rw[<-Hc.out,decide_eq_true_eq];have:=Hk.out
       rwa [List.take_of_length_le (by rw[<-Hn.out];exact Nat.le_refl _),List.take_of_length_le (by rw[<-Hm.out];exact Nat.le_refl _)]at this
      clear Hk;go_wp2;go_ret;exact⟨by rw[Hr.out];rfl,hg⟩
 . have Hr:Hid (c=false):=by
    show _=_;rw[<-hc,decide_eq_false_iff_not];rintro rfl;exact hnm (hn.trans hm.symm)
   have hb1:((n:Int) != (m:Int))=true:=by simp;omega
   clear hn hm hc hle;go_enter func21,ntmps21;go_wp2;go_ret;exact⟨by rw[Hr.out];rfl,qah _ _⟩
theorem qce(va vb:Value)(a b:List (List Int))(w:World)(ha:RL w va a)(hb:RL w vb b){c:Bool}(hc:decide (a=b)=c) :
   Calls prog 22 #[va,vb] w λe w'=>e=.returned (.bool c)/\w.grownBy w' none:=by
 obtain⟨A,n,d,rfl,_,hn,hnx⟩:=ha.form';obtain⟨B,m,d',rfl,_,hm,hmx⟩:=hb.form';have Hn:=Lib.hid hn;have Hm:=Lib.hid hm;by_cases hnm:n=m
 . subst hnm;have Hc:=Lib.hid hc;clear hn hm hc;go_enter func22,ntmps22;go_wp2_with fail
   go_loopg [5] (n+1) (λmm i wr=>∃k:Nat,k<=n/\mm=n+1-k/\i=.int .i64 k/\Hid (a.take k=b.take k)/\w.grownBy wr none)
   case atStart=>exact⟨0,Nat.zero_le _,rfl,rfl,by show _=_;simp,qah _ _⟩
   case round=>
    obtain⟨k,hk,rfl,rfl,Hk,hg⟩:=hrel;by_cases hlt:k<n
    . obtain⟨g,o,x,B1,m1,e1,rfl,hx,c0,hx1,-,-,-⟩:=(ha.new hg).at_ hlt;obtain⟨g',o',y,B2,m2,e2,rfl,hy,c1,hy1,-,-,-⟩:=(hb.new hg).at_ hlt;have Hx:=Lib.hid hx;have Hy:=Lib.hid hy;clear hx hy;by_cases hxy:x=y
      . have Hq:Hid (decide (x=y)=true):=by show _=_;simpa using hxy
        have Hs:=Lib.hid (qqg Hk.out Hx.out (hxy▸Hy.out));clear Hk hxy;go_wp2_with fail
        go_region_held3 (λw'=>w'.cell? ⟨g,o+k,none⟩=some (.slice B1 m1 e1)/\w'.cell? ⟨g',o'+k,none⟩=some (.slice B2 m2 e2)) (go_keep)
         (first|(go_at_call 21;refine(qcv _ _ x y _ (by exact hx1) (by exact hy1) Hq.out).mono ?_;rintro e w' ⟨rfl,hg'⟩;have k0:=hg'.cell (by exact c0) (by simp);have k1:=hg'.cell (by exact c1) (by simp)))
        go_wp2;go_roundg (n+1-(k+1))
        case measure=>omega
        case rel=>exact⟨k+1,by omega,rfl,by go_num,Hs,qad (qay hg) (by assumption)⟩
      . have Hq:Hid (decide (x=y)=false):=by show _=_;simpa using hxy
        have Hr:Hid (c=false):=by
         show _=_;rw[<-Hc.out,decide_eq_false_iff_not];rintro rfl;exact hxy (Option.some.inj (Hx.out.symm.trans Hy.out))
        clear hxy;go_wp2_with fail
        go_region_held3 (λw'=>w'.cell? ⟨g,o+k,none⟩=some (.slice B1 m1 e1)/\w'.cell? ⟨g',o'+k,none⟩=some (.slice B2 m2 e2)) (go_keep)
         (first|(go_at_call 21;refine(qcv _ _ x y _ (by exact hx1) (by exact hy1) Hq.out).mono ?_;rintro e w' ⟨rfl,hg'⟩;have k0:=hg'.cell (by exact c0) (by simp);have k1:=hg'.cell (by exact c1) (by simp)))
        go_wp2;go_ret;exact⟨by rw[Hr.out];rfl,qad (qay hg) (by assumption)⟩
    . obtain rfl:k=n:=by omega
      have Hr:Hid (c=true):=by
       show _=_;rw[<-Hc.out,decide_eq_true_eq];have:=Hk.out
       rwa [List.take_of_length_le (by rw[<-Hn.out];exact Nat.le_refl _),List.take_of_length_le (by rw[<-Hm.out];exact Nat.le_refl _)]at this
      clear Hk;go_wp2;go_ret;exact⟨by rw[Hr.out];rfl,hg⟩
 . have Hr:Hid (c=false):=by
    show _=_;rw[<-hc,decide_eq_false_iff_not];rintro rfl;exact hnm (hn.trans hm.symm)
   have hb1:((n:Int) != (m:Int))=true:=by simp;omega
   clear hn hm hc;go_enter func22,ntmps22;go_wp2;go_ret;exact⟨by rw[Hr.out];rfl,qah _ _⟩
end
section
open Go.RowKit
theorem ql4{ops:Array Oper}{o:Oper}{a:Act}{K:Act->World->Prop}{Q:Exit->Act->World->Prop}{E:Prop}{w:World}{u:Int}
   (s x:Operand) (hgd:o.guard=none) (ho:o.op=.call {callee:=.builtin .append,args:=#[s,x],argTypes:=#[24,24]})
   {base:Nat} {v:Value} {l:List Int} (hown:qg w base v l) (hn:l.length<=1000000000) (hbase:base<=w.heap.size)
   (hs:a.eval s=v) (hx:a.eval x=.slice (some ⟨w.heap.size,0,none⟩) 1 1)
   (h:∀v' w',qg w' base v' (l++[u])->w.grownBy w' v.ownBlock->K (a.put o.dst v') w') :
   if Region.wanted o (yielded ops a.tmps)=true then Oper.wp prog o a (w.alloc (.cells #[.int .i64 u] 3)).drew K Q else E:=
 qol (w:=w.drew) s x hgd ho hown hn hbase hs hx λv' w' h1 h2=>h v' w' h1 ⟨h2.os,h2.tape,h2.output,h2.size,h2.block⟩
theorem qt2(va vb:Value)(a b:List Int)(w:World)(ha:RI w va a)(hb:RI w vb b){c:Bool}(hc:(qal a&&qal b&&decide (a.length=b.length))=c) :
   Calls prog 225 #[va,vb] w λe w'=>e=.returned (.bool c)/\w=w':=by
 obtain⟨A,n,d,rfl,_,hn⟩:=ha.form';obtain⟨B,m,d',rfl,_,hm⟩:=hb.form';rw[<-hn,<-hm]at hc;have Hc:=Lib.hid hc;clear hn hm hc;by_cases hva:qal a=true
 . have Hva:=Lib.hid hva;by_cases hvb:qal b=true
   . have Hvb:=Lib.hid hvb
     have Hr:Hid (c=((n:Int)==(m:Int))):=by
      show _=_;rw[<-Hc.out,hva,hvb,Bool.true_and,Bool.true_and,Bool.eq_iff_iff];simp;omega
     clear hva hvb;go_enter func225,ntmps225;go_wp2_with fail;refine(qcb _ a _ ha Hva.out).mono ?_;rintro e w' ⟨rfl,rfl⟩;go_wp2_with fail;refine(qcb _ b _ hb Hvb.out).mono ?_;rintro e w' ⟨rfl,rfl⟩;go_wp2;go_ret;exact⟨by rw[Hr.out];rfl,rfl⟩
   . have kO:qal b=false:=by simpa using hvb
     have Hvb:=Lib.hid kO
     have Hr:Hid (c=false):=by
      show _=_;rw[<-Hc.out,kO];simp
     clear hva hvb kO;go_enter func225,ntmps225;go_wp2_with fail;refine(qcb _ a _ ha Hva.out).mono ?_;rintro e w' ⟨rfl,rfl⟩;go_wp2_with fail;refine(qcb _ b _ hb Hvb.out).mono ?_;rintro e w' ⟨rfl,rfl⟩;go_wp2;go_ret;exact⟨by rw[Hr.out];rfl,rfl⟩
 . have kP:qal a=false:=by simpa using hva
   have Hva:=Lib.hid kP
   have Hr:Hid (c=false):=by
    show _=_;rw[<-Hc.out,kP];simp
   clear hva kP;go_enter func225,ntmps225;go_wp2_with fail;refine(qcb _ a _ ha Hva.out).mono ?_;rintro e w' ⟨rfl,rfl⟩;go_wp2;go_ret;exact⟨by rw[Hr.out];rfl,rfl⟩
theorem qxa(va vb:Value)(a b:List Int)(w:World)(ha:RI w va a)(hb:RI w vb b):Calls prog 219 #[va,vb] w (qg6 w (qov a b)):=by
 obtain⟨A,n,c,rfl,hc,hn⟩:=ha.form';obtain⟨B,m,d,rfl,hd,hm⟩:=hb.form';have Hn:=Lib.hid hn;have Hm:=Lib.hid hm;clear hn hm;by_cases hok:(qal a&&qal b&&decide (a.length=b.length))=true
 . have Hr:Hid (qov a b=some (qB xO a b)):=by show _=_;unfold qov qez;rw[if_pos hok]
   have Hok:=Lib.hid hok;simp only[Bool.and_eq_true,decide_eq_true_eq]at hok;have Hva:=Lib.hid hok.1.1;have Hvb:=Lib.hid hok.1.2;have hn6:n<=6:=by rw[Hn.out];exact qch hok.1.1
   have hmn:m=n:=by rw[Hn.out,Hm.out];exact hok.2.symm
   subst hmn;clear hok;go_enter func219,ntmps219;go_wp2_with fail;refine(qt2 _ _ a b _ (ha.alloc _) (hb.alloc _) Hok.out).mono ?_;rintro e w' ⟨rfl,rfl⟩;have ho0:=qg.empty w (Nat.le_refl w.heap.size);have hg0:=grownBy_alloc w (.cells #[] 3) none;go_wp2_with fail
   go_loopg [6,7] (m+1) (λmm o i wr=>∃k:Nat,k<=m/\mm=m+1-k/\i=.int .i64 k/\qg wr w.heap.size o (qB xO (a.take k) (b.take k))/\w.grownBy wr none)
   case atStart=>exact⟨0,Nat.zero_le _,rfl,rfl,ho0,hg0⟩
   case round=>
    clear ho0 hg0;obtain⟨k,hk,rfl,rfl,ho,hg⟩:=hrel;obtain⟨Ao,no,co,rfl⟩:=ho.ri.val;by_cases hlt:k<m
    . obtain⟨ga,oa,x,rfl,hx,c0⟩:=(ha.new hg).at_ hlt;obtain⟨gb,ob,y,rfl,hy,c1⟩:=(hb.new hg).at_ hlt;obtain⟨hx0,hx1⟩:=qdr Hva.out (List.mem_of_getElem? hx);obtain⟨hy0,hy1⟩:=qdr Hvb.out (List.mem_of_getElem? hy);have Hz:=Lib.hid (qob xO hx hy);have hzl:=qh6 xO (a:=a) (b:=b) (k:=k) (by rw[<-Hn.out];omega) (by rw[<-Hm.out];omega);have hl:(qB xO (a.take k) (b.take k)).length<=10:=by omega
      obtain⟨p,hp⟩:∃p,p=x+y:=⟨_,rfl⟩
      have hpb:0<=p/\p<=1016064:=by
       rw[hp];omega
      obtain⟨hp0,hp1⟩:=hpb;have e1:IntKind.i64.wrap (x+y)=p:=by rw[<-hp];exact IntWalk.i64_in _ (by omega)
      have e2:p.tmod 1009=p%1009:=Int.tmod_eq_emod_of_nonneg hp0;have e3:IntKind.i64.wrap (p%1009)=p%1009:=IntWalk.i64_in _ (by omega);have Hp:=Lib.hid hp;clear hx hy hzl hp;go_wp2_with fail
      go_region_law (refine ql4 (u:=p%1009) (.tmp 20) (.tmp 31) rfl rfl (by exact ho) (by omega) (by exact hg.size) rfl rfl ?_;intro v' w4 qx hg4)
      all_goals
       have hz2:qB xO (a.take (k+1)) (b.take (k+1))=qB xO (a.take k) (b.take k)++[p%1009]:=by
        rw[Hz.out,Hp.out];rfl
       rw[<-hz2]at qx;have hg5:=ho.gb hg (by assumption) (Nat.le_refl _);clear e1 e2 e3 hz2;go_wp2;go_roundg (m+1-(k+1))
       case measure=>omega
       case rel=>exact⟨k+1,by omega,rfl,by go_num,qx,hg5⟩
    . obtain rfl:k=m:=by omega
      have hO2:qg wr w.heap.size (.slice Ao no co) (qB xO a b):=by
       have:=ho;rw[List.take_of_length_le (by rw[<-Hn.out];exact Nat.le_refl _),List.take_of_length_le (by rw[<-Hm.out];exact Nat.le_refl _)]at this;exact this
      clear ho;go_wp2_with fail
      go_ret2
      exact⟨_,by rw[Hr.out];rfl,by rw[Hr.out];exact hO2,hg⟩
 . have xq:(qal a&&qal b&&decide (a.length=b.length))=false:=by simpa using hok
   have Hr:Hid (qov a b=none):=by show _=_;unfold qov qez;rw[if_neg hok]
   have Hok:=Lib.hid xq;clear hok xq;go_enter func219,ntmps219;go_wp2_with fail;refine(qt2 _ _ a b _ (ha.alloc _) (hb.alloc _) Hok.out).mono ?_;rintro e w' ⟨rfl,rfl⟩;go_wp2_with fail
   go_ret2
   exact⟨_,by rw[Hr.out];rfl,by rw[Hr.out];exact qg.empty w (Nat.le_refl _),grownBy_alloc w _ none⟩
theorem qto(va vb:Value)(a b:List Int)(w:World)(ha:RI w va a)(hb:RI w vb b):Calls prog 220 #[va,vb] w (qg6 w (qhc a b)):=by
 obtain⟨A,n,c,rfl,hc,hn⟩:=ha.form';obtain⟨B,m,d,rfl,hd,hm⟩:=hb.form';have Hn:=Lib.hid hn;have Hm:=Lib.hid hm;clear hn hm;by_cases hok:(qal a&&qal b&&decide (a.length=b.length))=true
 . have Hr:Hid (qhc a b=some (qB xD a b)):=by show _=_;unfold qhc qez;rw[if_pos hok]
   have Hok:=Lib.hid hok;simp only[Bool.and_eq_true,decide_eq_true_eq]at hok;have Hva:=Lib.hid hok.1.1;have Hvb:=Lib.hid hok.1.2;have hn6:n<=6:=by rw[Hn.out];exact qch hok.1.1
   have hmn:m=n:=by rw[Hn.out,Hm.out];exact hok.2.symm
   subst hmn;clear hok;go_enter func220,ntmps220;go_wp2_with fail;refine(qt2 _ _ a b _ (ha.alloc _) (hb.alloc _) Hok.out).mono ?_;rintro e w' ⟨rfl,rfl⟩;have ho0:=qg.empty w (Nat.le_refl w.heap.size);have hg0:=grownBy_alloc w (.cells #[] 3) none;go_wp2_with fail
   go_loopg [6,7] (m+1) (λmm o i wr=>∃k:Nat,k<=m/\mm=m+1-k/\i=.int .i64 k/\qg wr w.heap.size o (qB xD (a.take k) (b.take k))/\w.grownBy wr none)
   case atStart=>exact⟨0,Nat.zero_le _,rfl,rfl,ho0,hg0⟩
   case round=>
    clear ho0 hg0;obtain⟨k,hk,rfl,rfl,ho,hg⟩:=hrel;obtain⟨Ao,no,co,rfl⟩:=ho.ri.val;by_cases hlt:k<m
    . obtain⟨ga,oa,x,rfl,hx,c0⟩:=(ha.new hg).at_ hlt;obtain⟨gb,ob,y,rfl,hy,c1⟩:=(hb.new hg).at_ hlt;obtain⟨hx0,hx1⟩:=qdr Hva.out (List.mem_of_getElem? hx);obtain⟨hy0,hy1⟩:=qdr Hvb.out (List.mem_of_getElem? hy);have Hz:=Lib.hid (qob xD hx hy);have hzl:=qh6 xD (a:=a) (b:=b) (k:=k) (by rw[<-Hn.out];omega) (by rw[<-Hm.out];omega);have hl:(qB xD (a.take k) (b.take k)).length<=10:=by omega
      obtain⟨p,hp⟩:∃p,p=x*y:=⟨_,rfl⟩
      have hpb:0<=p/\p<=1016064:=by
       rw[hp];refine⟨Int.mul_nonneg hx0 hy0,?_⟩;have:=Int.mul_le_mul hx1 hy1 hy0 (by omega);omega
      obtain⟨hp0,hp1⟩:=hpb;have e1:IntKind.i64.wrap (x*y)=p:=by rw[<-hp];exact IntWalk.i64_in _ (by omega)
      have e2:p.tmod 1009=p%1009:=Int.tmod_eq_emod_of_nonneg hp0;have e3:IntKind.i64.wrap (p%1009)=p%1009:=IntWalk.i64_in _ (by omega);have Hp:=Lib.hid hp;clear hx hy hzl hp;go_wp2_with fail
      go_region_law (refine ql4 (u:=p%1009) (.tmp 20) (.tmp 31) rfl rfl (by exact ho) (by omega) (by exact hg.size) rfl rfl ?_;intro v' w4 qx hg4)
      all_goals
       have hz2:qB xD (a.take (k+1)) (b.take (k+1))=qB xD (a.take k) (b.take k)++[p%1009]:=by
        rw[Hz.out,Hp.out];rfl
       rw[<-hz2]at qx;have hg5:=ho.gb hg (by assumption) (Nat.le_refl _);clear e1 e2 e3 hz2;go_wp2;go_roundg (m+1-(k+1))
       case measure=>omega
       case rel=>exact⟨k+1,by omega,rfl,by go_num,qx,hg5⟩
    . obtain rfl:k=m:=by omega
      have hO2:qg wr w.heap.size (.slice Ao no co) (qB xD a b):=by
       have:=ho;rw[List.take_of_length_le (by rw[<-Hn.out];exact Nat.le_refl _),List.take_of_length_le (by rw[<-Hm.out];exact Nat.le_refl _)]at this;exact this
      clear ho;go_wp2_with fail
      go_ret2
      exact⟨_,by rw[Hr.out];rfl,by rw[Hr.out];exact hO2,hg⟩
 . have xq:(qal a&&qal b&&decide (a.length=b.length))=false:=by simpa using hok
   have Hr:Hid (qhc a b=none):=by show _=_;unfold qhc qez;rw[if_neg hok]
   have Hok:=Lib.hid xq;clear hok xq;go_enter func220,ntmps220;go_wp2_with fail;refine(qt2 _ _ a b _ (ha.alloc _) (hb.alloc _) Hok.out).mono ?_;rintro e w' ⟨rfl,rfl⟩;go_wp2_with fail
   go_ret2
   exact⟨_,by rw[Hr.out];rfl,by rw[Hr.out];exact qg.empty w (Nat.le_refl _),grownBy_alloc w _ none⟩
end
section
open Go.RowKit
theorem qvq(v:Value)(l:List Int)(w:World)(h:RI w v l):Calls prog 221 #[v] w (qg6 w (qfq l)):=by
 obtain⟨A,n,c,rfl,hc,hn⟩:=h.form';have Hn:=Lib.hid hn;clear hn;by_cases hok:qal l=true
 . have Hr:Hid (qfq l=some (qbu 0 l)):=by show _=_;unfold qfq;rw[if_pos hok]
   have Hok:=Lib.hid hok;have hn6:n<=6:=by rw[Hn.out];exact qch hok
   clear hok;go_enter func221,ntmps221;go_wp2_with fail;refine(qcb _ l _ (h.alloc _) Hok.out).mono ?_;rintro e w' ⟨rfl,rfl⟩;have ho0:=qg.empty w (Nat.le_refl w.heap.size);have hg0:=grownBy_alloc w (.cells #[] 3) none;go_wp2_with fail
   go_loopg [4,5,6] (n+1) (λmm o s i wr=>∃(k:Nat) (z:Int),k<=n/\mm=n+1-k/\i=.int .i64 k/\s=.int .i64 z/\0<=z/\z<=1008/\Hid (z=(qbu 0 (l.take k)).getLast?.getD 0)/\qg wr w.heap.size o (qbu 0 (l.take k))/\w.grownBy wr none)
   case atStart=>exact⟨0,0,Nat.zero_le _,rfl,rfl,rfl,by omega,by omega,rfl,ho0,hg0⟩
   case round=>
    clear ho0 hg0;obtain⟨k,z,hk,rfl,rfl,rfl,hz0,hz1,Hz,ho,hg⟩:=hrel;obtain⟨Ao,no,co,rfl⟩:=ho.ri.val;by_cases hlt:k<n
    . obtain⟨ga,oa,x,rfl,hx,c0⟩:=(h.new hg).at_ hlt;obtain⟨hx0,hx1⟩:=qdr Hok.out (List.mem_of_getElem? hx);obtain⟨hk',hx'⟩:=List.getElem?_eq_some_iff.1 hx
      have hsn:Hid (qbu 0 (l.take (k+1))=qbu 0 (l.take k)++[(z+x)%1009]):=by
       show _=_;rw[List.take_succ_eq_append_getElem hk',hx',ql3,<-Hz.out]
      have hl:(qbu 0 (l.take k)).length<=10:=by rw[qk7,List.length_take];omega
      have Hz2:Hid ((z+x)%1009=(qbu 0 (l.take (k+1))).getLast?.getD 0):=by
       show _=_;rw[hsn.out,List.getLast?_append];simp
      clear hx hk' hx' Hz;go_wp2_with (at_builtin;go_must (refine qc3 (.tmp 25) (.tmp 27) rfl rfl ho (by omega) hg.size rfl rfl ?_));intro v' w4 qx hg4;have hg5:=ho.gb hg hg4 (Nat.le_refl _);rw[<-hsn.out]at qx;go_wp2;go_roundg (n+1-(k+1))
      case measure=>omega
      case rel=>exact⟨k+1,_,by omega,rfl,by go_num,rfl,by omega,by omega,Hz2,qx,hg5⟩
    . obtain rfl:k=n:=by omega
      have hO2:qg wr w.heap.size (.slice Ao no co) (qbu 0 l):=by
       have:=ho;rw[List.take_of_length_le (by rw[<-Hn.out];exact Nat.le_refl _)]at this;exact this
      clear ho Hz;go_wp2_with fail
      go_ret2
      exact⟨_,by rw[Hr.out];rfl,by rw[Hr.out];exact hO2,hg⟩
 . have xq:qal l=false:=by simpa using hok
   have Hr:Hid (qfq l=none):=by show _=_;unfold qfq;rw[if_neg hok]
   have Hok:=Lib.hid xq;clear hok xq;go_enter func221,ntmps221;go_wp2_with fail;refine(qcb _ l _ (h.alloc _) Hok.out).mono ?_;rintro e w' ⟨rfl,rfl⟩;go_wp2_with fail
   go_ret2
   exact⟨_,by rw[Hr.out];rfl,by rw[Hr.out];exact qg.empty w (Nat.le_refl _),grownBy_alloc w _ none⟩
theorem q62(l:List Int)(n:Int):(putRow l n).length=l.length+1:=by
 induction l with
 |nil=>rfl
 |cons x xs ih=>unfold putRow;split<;>simp[ih]
theorem qzc(l acc:List Int):(l.foldl putRow acc).length=l.length+acc.length:=by
 induction l generalizing acc with
 |nil=>simp
 |cons x xs ih=>rw[List.foldl_cons,ih,q62,List.length_cons];omega
theorem drop_cons{l:List Int}{k:Nat}{x:Int}(h:l[k]?=some x):l.drop k=x::l.drop (k+1):=by
 obtain⟨hk,rfl⟩:=List.getElem?_eq_some_iff.1 h;exact List.drop_eq_getElem_cons hk
theorem q9g(v:Value)(l:List Int)(x:Int)(w:World)(h:RI w v l)(hl:l.length<=12):Calls prog 226 #[v,.int .i64 x] w (qfw w (putRow l x)):=by
 obtain⟨A,n,c,rfl,hc,hn⟩:=h.form';have qtH:n<=12:=by omega
 have Hn:=Lib.hid hn;clear hn hl;have ho0:=qg.empty w (Nat.le_refl w.heap.size);have hg0:=grownBy_alloc w (.cells #[] 3) none;go_enter func226,ntmps226;go_wp2_with fail
 go_loopg [5,6,7] (n+1) (λmm o d i wr=>∃(k:Nat) (b:Bool) (q:List Int),k<=n/\mm=n+1-k/\i=.int .i64 k/\d=.bool b/\q.length<=2*k/\Hid (q++(if b then l.drop k else putRow (l.drop k) x)=putRow l x)/\qg wr w.heap.size o q/\w.grownBy wr none)
 case atStart=>exact⟨0,false,[],Nat.zero_le _,rfl,rfl,rfl,by simp,rfl,ho0,hg0⟩
 case round=>
  clear ho0 hg0;obtain⟨k,b,q,hk,rfl,rfl,rfl,hq,Hq,ho,hg⟩:=hrel;obtain⟨Ao,no,co,rfl⟩:=ho.ri.val;by_cases hlt:k<n
  . obtain⟨ga,oa,y,rfl,hy,c0⟩:=(h.new hg).at_ hlt;have hd:=drop_cons hy;cases b
    . by_cases hxy:x<y
      . have Hq2:Hid ((q++[x,y])++(if true then l.drop (k+1) else putRow (l.drop (k+1)) x)=putRow l x):=by
         show _=_;rw[<-Hq.out,hd];simp[putRow,hxy]
        clear Hq hd;go_wp2_with (at_builtin;go_must (refine qc3 (.tmp 25) (.tmp 27) rfl rfl ho (by omega) hg.size rfl rfl ?_));intro v' w4 qx hg4;have hg5:=ho.gb hg hg4 (Nat.le_refl _);obtain⟨A',n',c',rfl⟩:=qx.ri.val
        have hc1:w4.cell? ⟨ga,oa+k,none⟩=some (.int .i64 y):=by
         obtain⟨ga',oa',y',e',hy',c0'⟩:=(h.new hg5).at_ hlt;injection e' with e';injection e' with e1 e2 e3;subst e1 e2;rw[hy]at hy';injection hy' with hy';rw[hy'];exact c0'
        clear hy;have hql:(q++[x]).length<=1000000000:=by rw[List.length_append];simp;omega
        go_wp2_with (at_builtin;go_must (refine qc3 (.tmp 29) (.tmp 34) rfl rfl qx hql hg5.size rfl rfl ?_));intro v5 w5 qX hg6;have vp:qg w5 w.heap.size v5 (q++[x,y]):=qX;clear qX;have hg7:=qx.gb hg5 hg6 (Nat.le_refl _);go_wp2;go_roundg (n+1-(k+1))
        case measure=>omega
        case rel=>exact⟨k+1,true,_,by omega,rfl,by go_num,rfl,by rw[List.length_append];simp;omega,Hq2,vp,hg7⟩
      . have Hq2:Hid ((q++[y])++(if false then l.drop (k+1) else putRow (l.drop (k+1)) x)=putRow l x):=by
         show _=_;rw[<-Hq.out,hd];simp[putRow,hxy]
        clear Hq hy hd;go_wp2_with (at_builtin;go_must (refine qc3 (.tmp 29) (.tmp 34) rfl rfl ho (by omega) hg.size rfl rfl ?_));intro v' w4 qx hg4;have hg5:=ho.gb hg hg4 (Nat.le_refl _);go_wp2;go_roundg (n+1-(k+1))
        case measure=>omega
        case rel=>exact⟨k+1,false,_,by omega,rfl,by go_num,rfl,by rw[List.length_append];simp;omega,Hq2,qx,hg5⟩
    . have Hq2:Hid ((q++[y])++(if true then l.drop (k+1) else putRow (l.drop (k+1)) x)=putRow l x):=by
       show _=_;rw[<-Hq.out,hd];simp
      clear Hq hy hd;go_wp2_with (at_builtin;go_must (refine qc3 (.tmp 29) (.tmp 34) rfl rfl ho (by omega) hg.size rfl rfl ?_));intro v' w4 qx hg4;have hg5:=ho.gb hg hg4 (Nat.le_refl _);go_wp2;go_roundg (n+1-(k+1))
      case measure=>omega
      case rel=>exact⟨k+1,true,_,by omega,rfl,by go_num,rfl,by rw[List.length_append];simp;omega,Hq2,qx,hg5⟩
  . obtain rfl:k=n:=by omega
    have hdn:l.drop k=[]:=List.drop_eq_nil_of_le (by rw[<-Hn.out];exact Nat.le_refl _);cases b
    . have Hq2:Hid (q++[x]=putRow l x):=by
       show _=_;rw[<-Hq.out,hdn];rfl
      clear Hq hdn;go_wp2_with (at_builtin;go_must (refine qc3 (.tmp 38) (.tmp 40) rfl rfl ho (by omega) hg.size rfl rfl ?_));intro v' w4 qx hg4;have hg5:=ho.gb hg hg4 (Nat.le_refl _);rw[Hq2.out]at qx;obtain⟨A',n',c',rfl⟩:=qx.ri.val;go_wp2;go_ret;exact⟨_,rfl,qx,hg5⟩
    . have Hq2:Hid (q=putRow l x):=by
       show _=_;rw[<-Hq.out,hdn];simp
      clear Hq hdn;rw[Hq2.out]at ho;go_wp2;go_ret;exact⟨_,rfl,ho,hg⟩
theorem qvr(v:Value)(l:List Int)(w:World)(h:RI w v l):Calls prog 222 #[v] w (qg6 w (qfr l)):=by
 obtain⟨A,n,c,rfl,hc,hn⟩:=h.form';have Hn:=Lib.hid hn;clear hn;by_cases hok:qal l=true
 . have Hr:Hid (qfr l=some (ql l)):=by show _=_;unfold qfr;rw[if_pos hok]
   have Hok:=Lib.hid hok;have hn6:n<=6:=by rw[Hn.out];exact qch hok
   clear hok;go_enter func222,ntmps222;go_wp2_with fail;refine(qcb _ l _ (h.alloc _) Hok.out).mono ?_;rintro e w' ⟨rfl,rfl⟩;have ho0:=qg.empty w (Nat.le_refl w.heap.size);have hg0:=grownBy_alloc w (.cells #[] 3) none;go_wp2_with fail
   go_loopg [4,5] (n+1) (λmm o i wr=>∃(k:Nat),k<=n/\mm=n+1-k/\i=.int .i64 k/\qg wr w.heap.size o ((l.take k).foldl putRow [])/\w.grownBy wr none)
   case atStart=>exact⟨0,Nat.zero_le _,rfl,rfl,ho0,hg0⟩
   case round=>
    clear ho0 hg0;obtain⟨k,hk,rfl,rfl,ho,hg⟩:=hrel;obtain⟨Ao,no,co,rfl⟩:=ho.ri.val;by_cases hlt:k<n
    . obtain⟨ga,oa,x,rfl,hx,c0⟩:=(h.new hg).at_ hlt;obtain⟨hk',hx'⟩:=List.getElem?_eq_some_iff.1 hx
      have hsn:Hid ((l.take (k+1)).foldl putRow []=putRow ((l.take k).foldl putRow []) x):=by
       show _=_;rw[List.take_succ_eq_append_getElem hk',hx',List.foldl_append];rfl
      have hl:((l.take k).foldl putRow []).length<=12:=by rw[qzc,List.length_take];simp;omega
      clear hx hk' hx';go_wp2_with fail;refine(q9g _ _ x _ ho.ri hl).mono ?_;rintro e w4 ⟨v',rfl,qx,hg4⟩;have qX:=qx.low hg.size;have hg5:=hg.trans hg4;rw[<-hsn.out]at qX;obtain⟨A',n',c',rfl⟩:=qX.ri.val;go_wp2;go_roundg (n+1-(k+1))
      case measure=>omega
      case rel=>exact⟨k+1,by omega,rfl,by go_num,qX,hg5⟩
    . obtain rfl:k=n:=by omega
      have hO2:qg wr w.heap.size (.slice Ao no co) (ql l):=by
       have:=ho;rw[List.take_of_length_le (by rw[<-Hn.out];exact Nat.le_refl _)]at this;exact this
      clear ho;go_wp2_with fail
      go_ret2
      exact⟨_,by rw[Hr.out];rfl,by rw[Hr.out];exact hO2,hg⟩
 . have xq:qal l=false:=by simpa using hok
   have Hr:Hid (qfr l=none):=by show _=_;unfold qfr;rw[if_neg hok]
   have Hok:=Lib.hid xq;clear hok xq;go_enter func222,ntmps222;go_wp2_with fail;refine(qcb _ l _ (h.alloc _) Hok.out).mono ?_;rintro e w' ⟨rfl,rfl⟩;go_wp2_with fail
   go_ret2
   exact⟨_,by rw[Hr.out];rfl,by rw[Hr.out];exact qg.empty w (Nat.le_refl _),grownBy_alloc w _ none⟩
theorem qvs(v:Value)(l:List Int)(w:World)(h:RI w v l):Calls prog 223 #[v] w (qg6 w (qfs l)):=by
 obtain⟨A,n,c,rfl,hc,hn⟩:=h.form';have Hn:=Lib.hid hn;clear hn;by_cases hok:qal l=true
 . have Hr:Hid (qfs l=some l.reverse):=by show _=_;unfold qfs;rw[if_pos hok]
   have Hok:=Lib.hid hok;have hn6:n<=6:=by rw[Hn.out];exact qch hok
   have hw:IntKind.i64.wrap ((n:Int)-1)=(n:Int)-1:=IntWalk.i64_in _ (by omega);clear hok;go_enter func223,ntmps223;go_wp2_with fail;refine(qcb _ l _ (h.alloc _) Hok.out).mono ?_;rintro e w' ⟨rfl,rfl⟩;have ho0:=qg.empty w (Nat.le_refl w.heap.size);have hg0:=grownBy_alloc w (.cells #[] 3) none;have hl0:(l.drop n).reverse=[]:=by rw[List.drop_eq_nil_of_le (by rw[<-Hn.out];exact Nat.le_refl _)];rfl
   go_wp2_with fail
   go_loopg [4,5] (n+1) (λmm o i wr=>∃(j:Nat) (z:Int),j<=n/\mm=j+1/\z=(j:Int)-1/\i=.int .i64 z/\qg wr w.heap.size o (l.drop j).reverse/\w.grownBy wr none)
   case atStart=>exact⟨n,_,Nat.le_refl _,rfl,rfl,by first|rfl|rw[hw],by rw[hl0];exact ho0,hg0⟩
   case round=>
    clear ho0 hg0 hl0 hw;obtain⟨j,z,hk,rfl,hz,rfl,ho,hg⟩:=hrel;obtain⟨Ao,no,co,rfl⟩:=ho.ri.val;cases j with
    |succ k=>
     obtain rfl:z=(k:Int):=by omega
     clear hz;have hlt:k<n:=by omega
     obtain⟨ga,oa,x,rfl,hx,c0⟩:=(h.new hg).at_ hlt
     have hsn:Hid ((l.drop k).reverse=(l.drop (k+1)).reverse++[x]):=by
      show _=_;rw[drop_cons hx,List.reverse_cons]
     have hl:(l.drop (k+1)).reverse.length<=12:=by rw[List.length_reverse,List.length_drop,<-Hn.out];omega
     clear hx;go_wp2_with (at_builtin;go_must (refine qc3 (.tmp 18) (.tmp 23) rfl rfl ho (by omega) hg.size rfl rfl ?_));intro v' w4 qx hg4;have hg5:=ho.gb hg hg4 (Nat.le_refl _);rw[<-hsn.out]at qx;go_wp2;go_roundg (k+1)
     case measure=>omega
     case rel=>exact⟨k,_,by omega,rfl,rfl,by go_num,qx,hg5⟩
    |zero=>
     obtain rfl:z=-1:=by omega
     have hO2:qg wr w.heap.size (.slice Ao no co) l.reverse:=ho;clear ho hz;go_wp2_with fail
     go_ret2
     exact⟨_,by rw[Hr.out];rfl,by rw[Hr.out];exact hO2,hg⟩
 . have xq:qal l=false:=by simpa using hok
   have Hr:Hid (qfs l=none):=by show _=_;unfold qfs;rw[if_neg hok]
   have Hok:=Lib.hid xq;clear hok xq;go_enter func223,ntmps223;go_wp2_with fail;refine(qcb _ l _ (h.alloc _) Hok.out).mono ?_;rintro e w' ⟨rfl,rfl⟩;go_wp2_with fail
   go_ret2
   exact⟨_,by rw[Hr.out];rfl,by rw[Hr.out];exact qg.empty w (Nat.le_refl _),grownBy_alloc w _ none⟩
end
end Go.Proofs.YtacemdoejblgaaaGreatDoor

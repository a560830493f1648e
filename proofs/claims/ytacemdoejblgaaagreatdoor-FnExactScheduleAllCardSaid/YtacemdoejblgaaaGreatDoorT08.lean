/- Part M08. Conditions: each statement's. -/
import Derived.Test.YtacemdoejblgaaaGreatDoorT07
import Derived.IntWalk
import Derived.Laws.AppendOwnNone
import Derived.Laws.EntriesVeiled
namespace Go.Proofs.YtacemdoejblgaaaGreatDoor
open Bool renaming eq_false_or_eq_true→Ab,and_eq_true→Ah,eq_iff_iff→Ai,true_and→Aj
open Go renaming World→Am,Calls→Ap,bodyPost_ret→As,Value→At,results_none→Ax,wp_loop_rounds→Ay,info_parts→Az,wpList_make_full→AA,Ending→AB,rounds_succ→AD,wpList_append_own→AE,Operand→AF
open Instr renaming typeAssert→AG
open IntKind renaming i64→AH
open IntWalk renaming i64_in→AI
open World renaming grownBy_alloc→AJ,ownsRow_nil→AK
open Int renaming tmod_eq_emod_of_nonneg→AL,mul_nonneg→AM,mul_le_mul→AN
open List renaming take_succ_eq_append_getElem→AO,getElem?_eq_some_iff→AP,take_of_length_le→AQ,replicate→AR,length_take→AS,mem_of_getElem?→AT,eq_nil_of_length_eq_zero→AU,getElem?_eq_getElem→AV,length_append→AW,length_nil→AX,length_cons→AY,length_drop→AZ,length_map→B9,getD_eq_getElem?_getD→Ba,getElem?_cons_zero→Bb,range→Bc,append_nil→Be,set_append_right→Bf,length_replicate→Bg,replicate_zero→Bh,replicate_succ→Bi,set_cons_zero→Bj,length_range→Bm,append_assoc→Bn,getElem?_append_right→Bo,getElem?_replicate→Bp,getElem?_cons_succ→Bq,drop_eq_nil_of_le→Br,mem_of_mem_take→Bs,getLast?_append→Bt,count_le_length→Bu,nodup_append→Bv,foldl_append→By,count_append→Bz,getElem_mem→BA,length_set→BB
open Nat renaming le_refl→BC,zero_le→BE,sub_self→BF,le_trans→BG,mul_one→BH,add_sub_cancel→BI,zero_add→BJ
open Option.some renaming injEq→BK,inj→BL
open Tryz
set_option maxRecDepth 100000
set_option maxHeartbeats 6400000
variable {a:Act}{ops:Array Oper}{b c:Bool}{x y:Int}{L ll:List (List Int)}{cs d l:List Int}{qa:List Node}{rest:List Oper}{b2 g k n:Nat}{o:Oper}{u v xv:At}{w w0:Am}
section
open Go.RowKit
theorem q50(x:Int)(w:Am):Ap prog 208 #[.int .i64 x] w λe w'=>e=.returned (.bool false)/\w=w':=by
 go_enter func208,ntmps208;go_wp2;go_ret;exact⟨rfl,rfl⟩
theorem q8c(x y:Int)(w:Am):Ap prog 173 #[.int .i64 x,.int .i64 y] w λe w'=>e=.returned (.bool (decide (x<y)))/\w=w':=by
 go_enter func173,ntmps173;go_wp2_with fail;refine(q50 _ _).mono ?_;rintro e w' ⟨rfl,rfl⟩;go_wp2;go_ret;exact⟨rfl,rfl⟩
theorem q9g(x y:Int)(w:Am)(hb:decide (x<y)=b):Ap prog 173 #[.int .i64 x,.int .i64 y] w λe w'=>e=.returned (.bool b)/\w=w':=hb▸q8c x y w
def qq9(w:Am)(base:Nat)(v:At)(l:List Int)(e:AB)(w':Am):Prop:=e=.returned (.tuple #[])/\qf w' base v l/\w.grownBy w' v.ownBlock
theorem qu6(g n cap base:Nat)(l:List Int)(w:Am)(h:qf w base (.slice (some ⟨g,0,none⟩) n cap) l)(hn:n=l.length)(hl:n<=12)(nz:Int)(hnz:nz=(n:Nat):=by omega) :
   Ap prog 167 #[.slice (some ⟨g,0,none⟩) n cap,.int .i64 0,.int .i64 nz] w (qq9 w base (.slice (some ⟨g,0,none⟩) n cap) (qj l)):=by
 subst hnz;have Hn:=Lib.hid hn;clear hn;go_enter func167,ntmps167;go_wp2_with fail
 go_loopg [6] (n+1) (λm i wr=>∃k:Nat,1<=k/\k<=n+1/\m=n+2-k/\i=.int .i64 k/\Hid (qf wr base (.slice (some ⟨g,0,none⟩) n cap) (qk8 l k))/\w.grownBy wr (some g))
 case atStart=>exact⟨1,BC _,by omega,by omega,rfl,by show qf _ _ _ _;rw[q1y];exact h,qag _ _⟩
 case round=>
  clear h;obtain⟨k,hk1,hk,rfl,rfl,HO,hg⟩:=hrel;by_cases hlt:k<n
  . obtain⟨x,hx⟩:∃x,l[k]?=some x:=⟨_,AV (by rw[<-Hn.out];exact hlt)⟩;have HO2:=HO.out;rw[qyn hx]at HO2;have HO2:=Lib.hid HO2;have Hx:=Lib.hid hx;clear HO hx;obtain⟨wo,rfl⟩:∃wo:Am,wo=wr:=⟨_,rfl⟩;go_wp2_with fail
    go_loopg [7] (k+1) (λm i wr=>∃j:Nat,j<=k/\m=j+1/\i=.int .i64 j/\Hid (qf wr base (.slice (some ⟨g,0,none⟩) n cap) (qip l k j x))/\Hid (∀y∈(qj (l.take k)).drop j,x<y)/\w.grownBy wr (some g))
    case atStart=>exact⟨k,BC _,rfl,rfl,HO2,by
     intro y hy;rw[List.drop_of_length_le (by rw[qdy,AS];omega)]at hy;simp at hy,hg⟩
    case round=>
     clear HO2 hg;obtain⟨j,hj,rfl,rfl,HO,Hgt,hg⟩:=hrel;have hkl:k<l.length:=by rw[<-Hn.out];exact hlt
     have xc:=q4f (l:=l) (i:=k) (j:=j) (x:=x) hkl hj;have hnl:n=(qip l k j x).length:=by rw[q4e hkl hj];exact Hn.out
     by_cases hj0:0<j
     . obtain⟨y,hy1,hy2⟩:=q10 (l:=l) (i:=k) (j:=j) (x:=x) hkl hj hj0;obtain⟨j',rfl⟩:∃j',j=j'+1:=⟨j-1,by omega⟩;simp only[BI]at hy1 hy2;obtain⟨c0,f0,-,-⟩:=HO.out.cell xc;obtain⟨c1,f1,-,-⟩:=HO.out.cell hy1;have e0:AH.wrap (((j'+1:Nat):Int)-1)=(j':Nat):=by rw[show ((j'+1:Nat):Int)-1=(j':Nat) by omega];exact AI _ (by omega)
       have hjn:j'+1<n:=by omega
       by_cases hxy:x<y
       . have Hb:=Lib.hid (decide_eq_true hxy);have qgU:Hid (∀z∈(qj (l.take k)).drop j',x<z):=q4g (j:=j'+1) hj0 hy2 hxy Hgt.out;have hO3:=((HO.out.qC hnl (j'+1) y).qC (by rw[BB];exact hnl) j' x);have hsw:=q11 (l:=l) (i:=k) (j:=j'+1) (x:=x) hkl hj hj0 hy2;simp only[BI]at hsw;rw[hsw]at hO3;have HO3:=Lib.hid hO3;have hg3:w.grownBy ((wr.setCell ⟨g,j'+1,none⟩ (.int .i64 y)).setCell ⟨g,j',none⟩ (.int .i64 x)) (some g):=qa3 (p:=⟨g,j',none⟩) (qa3 (p:=⟨g,j'+1,none⟩) hg (.inr rfl) _) (.inr rfl) _;clear hO3 hsw xc hnl hy1 hy2 HO Hgt hg hkl;go_wp2_with fail
         go_quiet ((go_at_call 173;exact qcr (q9g _ _ _ Hb.out)))
         go_wp2_with fail
         go_region
         all_goals
          go_wp2;go_roundg (j'+1)
          case measure=>omega
          case rel=>exact⟨j',by omega,rfl,by go_num,HO3,qgU,qay (qca hg3 _)⟩
       . have Hb:=Lib.hid (decide_eq_false hxy);have he:=qvv Hx.out hj (.inr ⟨y,hy2,hxy⟩) Hgt.out;have HO3:=HO.out;rw[he]at HO3;have HO3:=Lib.hid HO3;clear he xc hnl hy1 hy2 HO Hgt hkl hxy;go_wp2_with fail
         go_quiet ((go_at_call 173;exact qcr (q9g _ _ _ Hb.out)))
         go_wp2;go_roundg (n+2-(k+1))
         case measure=>omega
         case rel=>exact⟨k+1,by omega,by omega,rfl,by go_num,HO3,qca hg _⟩
     . obtain rfl:j=0:=by omega
       have he:=qvv Hx.out hj (.inl rfl) Hgt.out;have HO3:=HO.out;rw[he]at HO3;have HO3:=Lib.hid HO3;clear he xc hnl HO Hgt hkl hj0;go_wp2_with fail
       go_quiet (fail)
       go_wp2;go_roundg (n+2-(k+1))
       case measure=>omega
       case rel=>exact⟨k+1,by omega,by omega,rfl,by go_num,HO3,qca hg _⟩
  . have HO2:=HO.out;rw[q1z l (by rw[<-Hn.out];omega)]at HO2;have HO2:=Lib.hid HO2;clear HO;go_wp2_with fail;exact As (Ax rfl _ _ _) rfl ⟨rfl,HO2.out,hg⟩
end
section
open Go.RowKit
def qfw(w:Am)(r:Option (List Int))(e:AB)(w':Am):Prop:=∃v,e=.returned (.tuple #[v,.bool r.isSome])/\qf w' w.heap.size v (r.getD [])/\w.grownBy w' none
theorem qg5{Q:Exit->Act->Am->Prop}
   (s x:AF) (t:TypeId) (ht:Tryz.prog.underlying t=some (.slice 3)) (hgd:o.guard=none) (ho:o.op=.call {callee:=.builtin .append,args:=#[s,x],argTypes:=#[t,t]})
   {base:Nat}   (hxv:RI w xv l) (hn:l.length<=1000000000) (hbase:base<=w.heap.size)
   (hs:a.eval s=.slice none 0 0) (hx:a.eval x=xv)
   (h:∀v' w',qf w' base v' l->w.grownBy w' none->wpList prog ops Q rest (a.put o.dst v') w') :
   wpList prog ops Q (o::rest) a w:=by
 obtain⟨i,hi,hz0,hz1,hz2⟩:=Az qiq;obtain⟨A,c,e,hc,hcm,hcn⟩:=TS.form hxv;subst e
 match A,hcn with
 |none,hcn=>
  obtain rfl:=hcn rfl;have hl0:l=[]:=AU (by omega);subst hl0;refine wpList_append_own_none hgd s x t ho base 3 i 1 ht hi (.slice none 0 0) 0 [] hs (AK _ _ _ _) hx ?_;exact h _ _ (qf.nil _ _) (qag _ _)
 |some ad,hcn=>
  refine AE _ hgd s x t ho base 3 i _ 1 8 ht hi hz0 hz1 hz2 rfl (by decide) (.slice none 0 0) 0 [] hs (AK _ _ _ _) ad l.length c (l.map (.int .i64)) hx (by rw[B9,BH]) ?_ (qgy l) ?_ ?_ hbase ?_
  . intro j u hj;have hjl:=(AP.1 hj).1;rw[B9]at hjl;obtain⟨g,o',cur,e,_,hcell⟩:=TS.at_ hxv (by omega);have e2:ad=⟨g,o',none⟩:=BL e;rw[e2,Addr.add_lit];exact hcell j u hj
  . unfold maxLen;omega
  . omega
  . intro v' w' h1 h2 _;refine h v' w' ?_ h2;unfold qf;simpa using h1
theorem qg6(v:At)(l:List Int)(w:Am)(h:RI w v l)(hl:l.length<=1000000000):Ap prog 57 #[v] w (qer w l):=by
 obtain⟨A,n,c,rfl⟩:=h.val;go_enter func57,ntmps57;go_wp2_with (at_builtin;go_must (refine qg5 _ (.tmp 3) 24 underlying24 rfl rfl h hl (BC _) rfl rfl ?_));intro v' w1 ho hg;obtain⟨A',n',c',rfl⟩:=ho.ri.val;go_wp2;go_ret;exact⟨_,rfl,ho,hg⟩
theorem q8d(x y:Int)(w:Am)(h0:0<=x)(h1:x<=1008)(h2:0<=y)(h3:y<=1008):Ap prog 190 #[.int .i64 x,.int .i64 y] w λe w'=>e=.returned (.int .i64 (vv x y))/\w=w':=by
 go_enter func190,ntmps190;go_wp2;go_ret;exact⟨rfl,rfl⟩
theorem q8e(x y:Int)(w:Am)(h0:0<=x)(h1:x<=1008)(h2:0<=y)(h3:y<=1008):Ap prog 191 #[.int .i64 x,.int .i64 y] w λe w'=>e=.returned (.int .i64 (vl x y))/\w=w':=by
 have e1:AH.wrap (x*y)=x*y:=AI _ (by
  have:=AM h0 h2;have:=AN h1 h3 h2 (by omega);omega)
 go_enter func191,ntmps191;go_wp2;go_ret;exact⟨by first|rfl|simp[vl,e1],rfl⟩
theorem qku(f:Int->Int->Int){a b:List Int}(hx:a[k]?=some x)(hy:b[k]?=some y):q7 f (a.take (k+1)) (b.take (k+1))=q7 f (a.take k) (b.take k)++[f x y%1009]:=by
 obtain⟨h1,rfl⟩:=AP.1 hx;obtain⟨h2,rfl⟩:=AP.1 hy;unfold q7;rw[AO h1,AO h2,List.zipWith_append (by rw[AS,AS];omega)];rfl
theorem qgp(f:Int->Int->Int){a b:List Int}(h1:k<=a.length)(h2:k<=b.length):(q7 f (a.take k) (b.take k)).length=k:=by
 unfold q7;rw[List.length_zipWith,AS,AS];omega
def fOf(fid:Nat):Int->Int->Int:=if fid=190 then vv else vl
theorem q51(fid:Nat){x y:Int}(h0:0<=x)(h1:x<=1008)(h2:0<=y)(h3:y<=1008):0<=fOf fid x y/\fOf fid x y<=1016064:=by
 unfold fOf;split
 . unfold vv;omega
 . unfold vl;refine⟨AM h0 h2,?_⟩;have:=AN h1 h3 h2 (by omega);omega
theorem q52(fid:Nat)(xW:fid=190∨fid=191)(x y:Int)(w:Am)(h0:0<=x)(h1:x<=1008)(h2:0<=y)(h3:y<=1008) :
   Ap prog fid #[.int .i64 x,.int .i64 y] w λe w'=>e=.returned (.int .i64 (fOf fid x y))/\w=w':=by
 rcases xW with rfl|rfl
 . exact q8d x y w h0 h1 h2 h3
 . exact q8e x y w h0 h1 h2 h3
theorem q1i(va vb:At)(a b:List Int)(fid:Nat)(xW:fid=190∨fid=191)(w:Am)(ha:RI w va a)(hb:RI w vb b) :
   Ap prog 189 #[va,vb,.func (.func fid) #[] #[]] w (qfw w (qdw (fOf fid) a b)):=by
 obtain⟨A,n,c,rfl,hc,hn⟩:=ha.form';obtain⟨B,m,d,rfl,hd,hm⟩:=hb.form';have Hn:=Lib.hid hn;have Hm:=Lib.hid hm;have hle:=ha.le;have qgV:=hb.le;rw[<-hn]at hle;rw[<-hm]at qgV;clear hn hm
 have bad:(qak a&&qak b&&decide (a.length=b.length))=false->qdw (fOf fid) a b=none:=by
  intro h;unfold qdw;rw[if_neg (by rw[h];simp)]
 by_cases hva:qak a=true
 . by_cases hvb:qak b=true
   . by_cases hab:n=m
     . have Hva:=Lib.hid hva;have Hvb:=Lib.hid hvb;have hn6:n<=6:=by rw[Hn.out];exact qbv hva
       have Hr:Hid (qdw (fOf fid) a b=some (q7 (fOf fid) a b)):=by
        show _=_;unfold qdw;rw[hva,hvb,<-Hn.out,<-Hm.out,if_pos (by simp[hab])]
       subst hab;obtain⟨F,hF⟩:∃F,F=fOf fid:=⟨_,rfl⟩;have ky:=Lib.hid (λx y w=>q52 fid xW x y w);have Hbd:=Lib.hid (λ(x y:Int)=>@q51 fid x y);rw[<-hF]at Hr ky Hbd |-;clear bad hva hvb hF;obtain⟨i0,hi,hz0,hz1,hz2⟩:=Az qiq;rcases xW with rfl|rfl
       all_goals
        go_enter func189,ntmps189;go_wp2_with fail;refine(qcb _ a _ ha).mono ?_;rw[Hva.out];rintro e w' ⟨rfl,rfl⟩;go_wp2_with fail;refine(qcb _ b _ hb).mono ?_;rw[Hvb.out];rintro e w' ⟨rfl,rfl⟩;go_wp2_with (at_make;go_must (refine AA _ rfl _ _ 224 rfl w.heap.size 3 i0 _ 1 underlying224 hi hz0 hz1 _ _ _ _ n rfl rfl rfl rfl (by rw[hz2];omega) (by unfold maxLen;omega) (BC _) ?_));intro w0 hown0 hg0
        have hO0:qf w0 w.heap.size (.slice (some ⟨w.heap.size,0,none⟩) n n) (AR n 0):=by
         refine qf.made ?_;have e:n*1=n:=BH n
         first|exact hown0|(rw[e]at hown0;exact hown0)|(simp at hown0;exact hown0)
        clear hown0;go_wp2_with fail
        go_loopg [31] (n+1) (λmm i wr=>∃k:Nat,k<=n/\mm=n+1-k/\i=.int .i64 k/\Hid (qf wr w.heap.size (.slice (some ⟨w.heap.size,0,none⟩) n n) (q7 F (a.take k) (b.take k)++AR (n-k) 0))/\w.grownBy wr none)
        case atStart=>exact⟨0,BE _,rfl,rfl,hO0,hg0⟩
        case round=>
         clear hO0 hg0;obtain⟨k,hk,rfl,rfl,HO,hg⟩:=hrel;by_cases hlt:k<n
         . obtain⟨ga,oa,x,rfl,hx,c0⟩:=(ha.new hg).at_ hlt;obtain⟨gb,ob,y,rfl,hy,c1⟩:=(hb.new hg).at_ hlt;obtain⟨hx0,hx1⟩:=qcy Hva.out (AT hx);obtain⟨hy0,hy1⟩:=qcy Hvb.out (AT hy);have hzl:=qgp F (a:=a) (b:=b) (k:=k) (by rw[<-Hn.out];omega) (by rw[<-Hm.out];omega);have hll:(q7 F (a.take k) (b.take k)++AR (n-k) (0:Int)).length=n:=by rw[AW,hzl,Bg];omega
           have hz:(q7 F (a.take k) (b.take k)++AR (n-k) (0:Int))[k]?=some 0:=by
            rw[Bo (by omega),hzl,Bp,if_pos (by omega)]
           have hset:(q7 F (a.take k) (b.take k)++AR (n-k) (0:Int)).set k (F x y%1009)=q7 F (a.take (k+1)) (b.take (k+1))++AR (n-(k+1)) 0:=by
            rw[qku F hx hy,Bf _ _ (by omega),hzl,BF,show n-k=n-(k+1)+1 by omega,Bi,Bj,Bn];rfl
           obtain⟨c2,f2,-,-⟩:=HO.out.cell hz;have hO2:=HO.out.qC hll.symm k (F x y%1009);rw[hset]at hO2;have HO2:=Lib.hid hO2;obtain⟨hb0,hb1⟩:=Hbd.out x y hx0 hx1 hy0 hy1;have hg2:w.grownBy (wr.setCell ⟨w.heap.size,k,none⟩ (.int .i64 (F x y%1009))) none:=qa3 (p:=⟨w.heap.size,k,none⟩) hg (.inl (BC _)) _;clear hx hy hzl hll hz hset hO2 HO;go_wp2_with fail;refine(ky.out x y _ hx0 hx1 hy0 hy1).mono ?_;rintro e w' ⟨rfl,rfl⟩;go_wp2;go_roundg (n+1-(k+1))
           case measure=>omega
           case rel=>exact⟨k+1,by omega,rfl,by go_num,HO2,hg2⟩
         . obtain rfl:k=n:=by omega
           have hO2:qf wr w.heap.size (.slice (some ⟨w.heap.size,0,none⟩) k k) (q7 F a b):=by
            have:=HO.out;rw[BF,Bh,Be,AQ (by rw[<-Hn.out];exact BC _),AQ (by rw[<-Hm.out];exact BC _)]at this;exact this
           clear HO;go_wp2_with fail
           go_ret2
           exact⟨_,by rw[Hr.out];rfl,by rw[Hr.out];exact hO2,hg⟩
     . have Hr:=Lib.hid (bad (by rw[<-Hn.out,<-Hm.out,decide_eq_false hab];simp));have Hva:=Lib.hid hva;have Hvb:=Lib.hid hvb;have hb:((n:Int) != (m:Int))=true:=by rw[bne_iff_ne];omega
       clear bad hva hvb hab;rcases xW with rfl|rfl
       all_goals
        go_enter func189,ntmps189;go_wp2_with fail;refine(qcb _ a _ ha).mono ?_;rw[Hva.out];rintro e w' ⟨rfl,rfl⟩;go_wp2_with fail;refine(qcb _ b _ (by assumption)).mono ?_;rw[Hvb.out];rintro e w' ⟨rfl,rfl⟩;go_wp2_with fail
        go_ret2
        exact⟨_,by rw[Hr.out];rfl,by rw[Hr.out];exact qf.nil _ _,qag _ _⟩
   . have xY:qak b=false:=by simpa using hvb
     have Hr:=Lib.hid (bad (by rw[xY];simp));have Hva:=Lib.hid hva;have Hvb:=Lib.hid xY;clear bad hva hvb xY;rcases xW with rfl|rfl
     all_goals
      go_enter func189,ntmps189;go_wp2_with fail;refine(qcb _ a _ ha).mono ?_;rw[Hva.out];rintro e w' ⟨rfl,rfl⟩;go_wp2_with fail;refine(qcb _ b _ hb).mono ?_;rw[Hvb.out];rintro e w' ⟨rfl,rfl⟩;go_wp2_with fail
      go_ret2
      exact⟨_,by rw[Hr.out];rfl,by rw[Hr.out];exact qf.nil _ _,qag _ _⟩
 . have xZ:qak a=false:=by simpa using hva
   have Hr:=Lib.hid (bad (by rw[xZ];simp));have Hva:=Lib.hid xZ;clear bad hva xZ;rcases xW with rfl|rfl
   all_goals
    go_enter func189,ntmps189;go_wp2_with fail;refine(qcb _ a _ ha).mono ?_;rw[Hva.out];rintro e w' ⟨rfl,rfl⟩;go_wp2_with fail
    go_ret2
    exact⟨_,by rw[Hr.out];rfl,by rw[Hr.out];exact qf.nil _ _,qag _ _⟩
theorem qsx(va vb:At)(a b:List Int)(w:Am)(ha:RI w va a)(hb:RI w vb b):Ap prog 144 #[va,vb] w (qfw w (qli a b)):=by
 obtain⟨A,n,c,rfl⟩:=ha.val;obtain⟨B,m,d,rfl⟩:=hb.val;go_enter func144,ntmps144;go_wp2_with fail;refine(q1i _ _ a b _ (.inl rfl) _ ha hb).mono ?_;rintro e w1 ⟨v,rfl,ho,hg⟩;have hf:qdw (fOf 190) a b=qli a b:=rfl;rw[hf]at ho |-;obtain⟨A',n',c',rfl⟩:=ho.ri.val;clear hf;go_wp2_with fail
 go_ret2
 exact⟨_,rfl,ho,hg⟩
theorem qo6(va vb:At)(a b:List Int)(w:Am)(ha:RI w va a)(hb:RI w vb b):Ap prog 145 #[va,vb] w (qfw w (qf2 a b)):=by
 obtain⟨A,n,c,rfl⟩:=ha.val;obtain⟨B,m,d,rfl⟩:=hb.val;go_enter func145,ntmps145;go_wp2_with fail;refine(q1i _ _ a b _ (.inr rfl) _ ha hb).mono ?_;rintro e w1 ⟨v,rfl,ho,hg⟩;have hf:qdw (fOf 191) a b=qf2 a b:=rfl;rw[hf]at ho |-;obtain⟨A',n',c',rfl⟩:=ho.ri.val;clear hf;go_wp2_with fail
 go_ret2
 exact⟨_,rfl,ho,hg⟩
end
section
open Go.RowKit
theorem q53(g n cap base:Nat)(l:List Int)(w:Am)(h:qf w base (.slice (some ⟨g,0,none⟩) n cap) l)(hn:n=l.length)(hl:n<=12)(lim:Int) :
   Ap prog 133 #[.slice (some ⟨g,0,none⟩) n cap,.int .i64 0,.int .i64 n,.int .i64 lim] w (qq9 w base (.slice (some ⟨g,0,none⟩) n cap) (qj l)):=by
 have Hn:=Lib.hid hn;clear hn;go_enter func133,ntmps133;go_wp2_with fail;refine Ay 1 ?_;rw[AD];go_wp2_with fail;refine(qu6 g n cap base l _ h Hn.out hl _).mono ?_;rintro e w1 ⟨rfl,ho,hg⟩;go_wp2_with fail;exact As (Ax rfl _ _ _) rfl ⟨rfl,ho,hg⟩
def q54(w:Am)(e:AB)(w':Am):Prop:=(∃z:Int,e=.returned (.int .i64 z))/\w=w'
theorem q55(n:Nat)(hn:n<=12)(w:Am):Ap prog 177 #[.int .u64 n] w (q54 w):=by
 rcases (show n=0∨n=1∨n=2∨n=3∨n=4∨n=5∨n=6∨n=7∨n=8∨n=9∨n=10∨n=11∨n=12 by omega)with rfl|rfl|rfl|rfl|rfl|rfl|rfl|rfl|rfl|rfl|rfl|rfl|rfl
 all_goals
  go_enter func177,ntmps177;go_wp2;go_ret;exact⟨⟨_,rfl⟩,rfl⟩
theorem qh4(n:Nat)(hn:n<=12)(w:Am):Ap prog 134 #[.int .u64 n] w (q54 w):=by
 go_enter func134,ntmps134;go_wp2_with fail;refine(q55 n hn _).mono ?_;rintro e w' ⟨⟨z,rfl⟩,rfl⟩;go_wp2;go_ret;exact⟨⟨z,rfl⟩,rfl⟩
theorem qxo(g n cap base:Nat)(l:List Int)(w:Am)(h:qf w base (.slice (some ⟨g,0,none⟩) n cap) l)(hn:n=l.length)(hl:n<=12) :
   Ap prog 210 #[.slice (some ⟨g,0,none⟩) n cap] w (qq9 w base (.slice (some ⟨g,0,none⟩) n cap) (qj l)):=by
 have Hn:=Lib.hid hn;clear hn;go_enter func210,ntmps210;go_wp2_with fail;refine(qh4 n hl _).mono ?_;rintro e w' ⟨⟨z,rfl⟩,rfl⟩;go_wp2_with fail;refine(q53 g n cap base l _ h Hn.out hl z).mono ?_;rintro e w1 ⟨rfl,ho,hg⟩;go_wp2_with fail;exact As (Ax rfl _ _ _) rfl ⟨rfl,ho,hg⟩
theorem qz5(g n cap base:Nat)(l:List Int)(w:Am)(h:qf w base (.slice (some ⟨g,0,none⟩) n cap) l)(hn:n=l.length)(hl:n<=1000) :
   Ap prog 211 #[.slice (some ⟨g,0,none⟩) n cap] w (qq9 w base (.slice (some ⟨g,0,none⟩) n cap) l.reverse):=by
 have Hn:=Lib.hid hn;clear hn;go_enter func211,ntmps211;go_wp2_with fail
 go_loopg [2,3] (n+1) (λmm i j wr=>∃(k:Nat) (m:List Int),k<=n/\mm=n+1-k/\i=.int .i64 k/\j=.int .i64 ((n:Int)-1-k)/\Hid (zl l m k)/\Hid (qf wr base (.slice (some ⟨g,0,none⟩) n cap) m)/\w.grownBy wr (some g))
 case atStart=>exact⟨0,l,BE _,rfl,rfl,by go_num,zl.zero l,h,qag _ _⟩
 case round=>
  clear h;obtain⟨k,m,hk,rfl,rfl,rfl,HR,HO,hg⟩:=hrel;have hml:n=m.length:=by rw[HR.out.1];exact Hn.out
  by_cases hlt:(k:Int)<(n:Int)-1-k
  . obtain⟨q,hq⟩:∃q:Nat,q=n-1-k:=⟨_,rfl⟩;have hqi:((n:Int)-1-k)=(q:Int):=by omega
    rw[hqi]at hlt |-;obtain⟨x,hx⟩:∃x,m[k]?=some x:=⟨_,AV (by omega)⟩;obtain⟨y,hy⟩:∃y,m[q]?=some y:=⟨_,AV (by omega)⟩;obtain⟨c0,f0,-,-⟩:=HO.out.cell hx;obtain⟨c1,f1,-,-⟩:=HO.out.cell hy;have hR2:=HR.out.step (by rw[<-Hn.out];omega) hx (by rw[<-Hn.out,<-hq];exact hy);rw[<-Hn.out,<-hq]at hR2;have HR2:=Lib.hid hR2;have HO3:=Lib.hid ((HO.out.qC hml k y).qC (by rw[BB];exact hml) q x);have hg3:w.grownBy ((wr.setCell ⟨g,k,none⟩ (.int .i64 y)).setCell ⟨g,q,none⟩ (.int .i64 x)) (some g):=qa3 (p:=⟨g,q,none⟩) (qa3 (p:=⟨g,k,none⟩) hg (.inr rfl) _) (.inr rfl) _;have hkq:k<q:=by omega
    have hqn:q<n:=by omega
    have Hq:=Lib.hid hqi;clear hR2 hq hqi hx hy hml HR HO hg;go_wp2_with fail
    go_region
    all_goals
     go_wp2;go_roundg (n+1-(k+1))
     case measure=>omega
     case rel=>exact⟨k+1,_,by omega,rfl,by go_num,by rw[<-Hq.out];go_num,HR2,HO3,qay hg3⟩
  . have he:=HR.out.done (by rw[<-Hn.out];omega);have HO2:=HO.out;rw[he]at HO2;have HO2:=Lib.hid HO2;clear he hml HO HR;go_wp2_with fail;exact As (Ax rfl _ _ _) rfl ⟨rfl,HO2.out,hg⟩
end
section
open Go.RowKit
theorem qjk(s:Int)(l:List Int)(x:Int):qbc s (l++[x])=qbc s l++[((qbc s l).getLast?.getD s+x)%1009]:=by
 induction l generalizing s with
 |nil=>rfl
 |cons y ys ih=>
  rw[List.cons_append,qbc,ih,qbc];cases h:qbc ((s+y)%1009) ys with
  |nil=>simp
  |cons z zs=>
   have hq:∃q,(z::zs).getLast?=some q:=⟨_,List.getLast?_eq_some_getLast (by simp)⟩;obtain⟨q,hq⟩:=hq;rw[hq,List.getLast?_cons_cons,hq];rfl
theorem q8f(v:At)(l:List Int)(w:Am)(h:RI w v l)(hv:qak l=true):Ap prog 193 #[v] w (qer w (qbc 0 l)):=by
 obtain⟨A,n,c,rfl,hc,hn⟩:=h.form';have hn6:n<=6:=by rw[hn];exact qbv hv
 have Hn:=Lib.hid hn;have Hv:=Lib.hid hv;clear hn hv;obtain⟨i0,hi,hz0,hz1,hz2⟩:=Az qiq;go_enter func193,ntmps193;go_wp2_with (at_make;go_must (refine AA _ rfl _ _ 224 rfl w.heap.size 3 i0 _ 1 underlying224 hi hz0 hz1 _ _ _ _ n rfl rfl rfl rfl (by rw[hz2];omega) (by unfold maxLen;omega) (BC _) ?_));intro w0 hown0 hg0
 have hO0:qf w0 w.heap.size (.slice (some ⟨w.heap.size,0,none⟩) n n) (AR n 0):=by
  refine qf.made ?_;have e:n*1=n:=BH n
  first|exact hown0|(rw[e]at hown0;exact hown0)|(simp at hown0;exact hown0)
 clear hown0;go_wp2_with fail
 go_loopg [4,12] (n+1) (λmm s i wr=>∃(k:Nat) (z:Int),k<=n/\mm=n+1-k/\i=.int .i64 k/\s=.int .i64 z/\0<=z/\z<=1008/\Hid (z=(qbc 0 (l.take k)).getLast?.getD 0)/\Hid (qf wr w.heap.size (.slice (some ⟨w.heap.size,0,none⟩) n n) (qbc 0 (l.take k)++AR (n-k) 0))/\w.grownBy wr none)
 case atStart=>exact⟨0,0,BE _,rfl,rfl,rfl,by omega,by omega,rfl,hO0,hg0⟩
 case round=>
  clear hO0 hg0;obtain⟨k,z,hk,rfl,rfl,rfl,hz0',qlK,Hz,HO,hg⟩:=hrel;by_cases hlt:k<n
  . obtain⟨ga,oa,x,rfl,hx,c0⟩:=(h.new hg).at_ hlt;obtain⟨hx0,hx1⟩:=qcy Hv.out (AT hx);obtain⟨hk',hx'⟩:=AP.1 hx;have hsl:(qbc 0 (l.take k)).length=k:=by rw[qix,AS];omega
    have hsn:qbc 0 (l.take (k+1))=qbc 0 (l.take k)++[(z+x)%1009]:=by
     rw[AO hk',hx',qjk,<-Hz.out]
    have hll:(qbc 0 (l.take k)++AR (n-k) (0:Int)).length=n:=by rw[AW,hsl,Bg];omega
    have hz:(qbc 0 (l.take k)++AR (n-k) (0:Int))[k]?=some 0:=by
     rw[Bo (by omega),hsl,Bp,if_pos (by omega)]
    have hset:(qbc 0 (l.take k)++AR (n-k) (0:Int)).set k ((z+x)%1009)=qbc 0 (l.take (k+1))++AR (n-(k+1)) 0:=by
     rw[hsn,Bf _ _ (by omega),hsl,BF,show n-k=n-(k+1)+1 by omega,Bi,Bj,Bn];rfl
    have Hz2:Hid ((z+x)%1009=(qbc 0 (l.take (k+1))).getLast?.getD 0):=by
     show _=_;rw[hsn,Bt];simp
    obtain⟨c2,f2,-,-⟩:=HO.out.cell hz;have hO2:=HO.out.qC hll.symm k ((z+x)%1009);rw[hset]at hO2;have HO2:=Lib.hid hO2;have hg2:w.grownBy (wr.setCell ⟨w.heap.size,k,none⟩ (.int .i64 ((z+x)%1009))) none:=qa3 (p:=⟨w.heap.size,k,none⟩) hg (.inl (BC _)) _;clear hx hk' hx' hsl hsn hll hz hset hO2 HO Hz;go_wp2;go_roundg (n+1-(k+1))
    case measure=>omega
    case rel=>exact⟨k+1,_,by omega,rfl,by go_num,rfl,by omega,by omega,Hz2,HO2,hg2⟩
  . obtain rfl:k=n:=by omega
    have hO2:qf wr w.heap.size (.slice (some ⟨w.heap.size,0,none⟩) k k) (qbc 0 l):=by
     have:=HO.out;rw[BF,Bh,Be,AQ (by rw[<-Hn.out];exact BC _)]at this;exact this
    clear HO Hz;go_wp2;go_ret;exact⟨_,rfl,hO2,hg⟩
def q1j(w:Am)(e:AB)(w':Am):Prop:=e=.returned (.tuple #[])/\w=w'
theorem qsy(w:Am):Ap prog 167 #[.slice none 0 0,.int .i64 0,.int .i64 0] w (q1j w):=by
 go_enter func167,ntmps167;go_wp2_with fail;refine Ay 1 ?_;rw[AD];go_wp2_with fail;exact As (Ax rfl _ _ _) rfl ⟨rfl,rfl⟩
theorem q1k(lim:Int)(w:Am):Ap prog 133 #[.slice none 0 0,.int .i64 0,.int .i64 0,.int .i64 lim] w (q1j w):=by
 go_enter func133,ntmps133;go_wp2_with fail;refine Ay 1 ?_;rw[AD];go_wp2_with fail;refine(qsy _).mono ?_;rintro e w1 ⟨rfl,rfl⟩;go_wp2_with fail;exact As (Ax rfl _ _ _) rfl ⟨rfl,rfl⟩
theorem qu7(w:Am):Ap prog 210 #[.slice none 0 0] w (q1j w):=by
 go_enter func210,ntmps210;go_wp2_with fail;refine(qh4 0 (by omega) _).mono ?_;rintro e w' ⟨⟨z,rfl⟩,rfl⟩;go_wp2_with fail;refine(q1k z _).mono ?_;rintro e w1 ⟨rfl,rfl⟩;go_wp2_with fail;exact As (Ax rfl _ _ _) rfl ⟨rfl,rfl⟩
theorem q3g(v:At)(l:List Int)(w:Am)(h:RI w v l)(hl:l.length<=12):Ap prog 194 #[v] w (qer w (qj l)):=by
 obtain⟨A,n,c,rfl⟩:=h.val;go_enter func194,ntmps194;go_wp2_with (at_builtin;go_must (refine qg5 _ (.tmp 4) 224 underlying224 rfl rfl h (by omega) (BC _) rfl rfl ?_));intro v' w1 ho hg;rcases ho.2 with ⟨rfl,h0⟩|⟨g,cap,cur,rfl,-⟩
 . obtain rfl:l=[]:=AU h0;clear h0 hl;go_wp2_with fail;refine(qu7 _).mono ?_;rintro e w2 ⟨rfl,rfl⟩;go_wp2;go_ret;exact⟨_,rfl,ho,hg⟩
 . obtain⟨m,hm⟩:∃m,m=l.length:=⟨_,rfl⟩;rw[<-hm]at ho hl |-;have Hm:=Lib.hid hm;clear hm;go_wp2_with fail;refine(qxo g m cap _ l _ ho Hm.out hl).mono ?_;rintro e w2 ⟨rfl,ho2,hg2⟩;have hg3:=ho.gb hg hg2 (BC _);go_wp2;go_ret;exact⟨_,rfl,ho2,hg3⟩
theorem qxp(w:Am):Ap prog 211 #[.slice none 0 0] w (q1j w):=by
 go_enter func211,ntmps211;go_wp2_with fail;refine Ay 1 ?_;rw[AD];go_wp2_with fail;exact As (Ax rfl _ _ _) rfl ⟨rfl,rfl⟩
theorem q3h(v:At)(l:List Int)(w:Am)(h:RI w v l)(hl:l.length<=12):Ap prog 195 #[v] w (qer w l.reverse):=by
 obtain⟨A,n,c,rfl⟩:=h.val;go_enter func195,ntmps195;go_wp2_with (at_builtin;go_must (refine qg5 _ (.tmp 4) 224 underlying224 rfl rfl h (by omega) (BC _) rfl rfl ?_));intro v' w1 ho hg;rcases ho.2 with ⟨rfl,h0⟩|⟨g,cap,cur,rfl,-⟩
 . obtain rfl:l=[]:=AU h0;clear h0 hl;go_wp2_with fail;refine(qxp _).mono ?_;rintro e w2 ⟨rfl,rfl⟩;go_wp2;go_ret;exact⟨_,rfl,ho,hg⟩
 . obtain⟨m,hm⟩:∃m,m=l.length:=⟨_,rfl⟩;rw[<-hm]at ho hl |-;have Hm:=Lib.hid hm;clear hm;go_wp2_with fail;refine(qz5 g m cap _ l _ ho Hm.out (by omega)).mono ?_;rintro e w2 ⟨rfl,ho2,hg2⟩;have hg3:=ho.gb hg hg2 (BC _);go_wp2;go_ret;exact⟨_,rfl,ho2,hg3⟩
theorem qra(v:At)(l:List Int)(w:Am)(h:RI w v l):Ap prog 146 #[v] w (qfw w (qen l)):=by
 obtain⟨A,n,c,rfl⟩:=h.val;by_cases hv:qak l=true
 . have Hr:Hid (qen l=some (qbc 0 l)):=by show _=_;unfold qen;rw[if_pos hv]
   have Hv:=Lib.hid hv;clear hv;go_enter func146,ntmps146;go_wp2_with fail;refine(qcb _ l _ h).mono ?_;rw[Hv.out];rintro e w1 ⟨rfl,rfl⟩;go_wp2_with fail;refine(q8f _ l _ h Hv.out).mono ?_;rintro e w2 ⟨v2,rfl,ho,hg⟩;obtain⟨A',n',c',rfl⟩:=ho.ri.val;go_wp2_with fail
   go_ret2
   exact⟨_,by rw[Hr.out];rfl,by rw[Hr.out];exact ho,hg⟩
 . have hv':qak l=false:=by simpa using hv
   have Hr:Hid (qen l=none):=by show _=_;unfold qen;rw[if_neg hv]
   have Hv:=Lib.hid hv';clear hv hv';go_enter func146,ntmps146;go_wp2_with fail;refine(qcb _ l _ h).mono ?_;rw[Hv.out];rintro e w1 ⟨rfl,rfl⟩;go_wp2_with fail
   go_ret2
   exact⟨_,by rw[Hr.out];rfl,by rw[Hr.out];exact qf.nil _ _,qag _ _⟩
theorem qrb(v:At)(l:List Int)(w:Am)(h:RI w v l):Ap prog 147 #[v] w (qfw w (qeo l)):=by
 obtain⟨A,n,c,rfl⟩:=h.val;by_cases hv:qak l=true
 . have Hr:Hid (qeo l=some (qj l)):=by show _=_;unfold qeo;rw[if_pos hv]
   have Hv:=Lib.hid hv;clear hv;go_enter func147,ntmps147;go_wp2_with fail;refine(qcb _ l _ h).mono ?_;rw[Hv.out];rintro e w1 ⟨rfl,rfl⟩;go_wp2_with fail;refine(q3g _ l _ h (by have:=qbv Hv.out;omega)).mono ?_;rintro e w2 ⟨v2,rfl,ho,hg⟩;obtain⟨A',n',c',rfl⟩:=ho.ri.val;go_wp2_with fail
   go_ret2
   exact⟨_,by rw[Hr.out];rfl,by rw[Hr.out];exact ho,hg⟩
 . have hv':qak l=false:=by simpa using hv
   have Hr:Hid (qeo l=none):=by show _=_;unfold qeo;rw[if_neg hv]
   have Hv:=Lib.hid hv';clear hv hv';go_enter func147,ntmps147;go_wp2_with fail;refine(qcb _ l _ h).mono ?_;rw[Hv.out];rintro e w1 ⟨rfl,rfl⟩;go_wp2_with fail
   go_ret2
   exact⟨_,by rw[Hr.out];rfl,by rw[Hr.out];exact qf.nil _ _,qag _ _⟩
theorem qrc(v:At)(l:List Int)(w:Am)(h:RI w v l):Ap prog 148 #[v] w (qfw w (qep l)):=by
 obtain⟨A,n,c,rfl⟩:=h.val;by_cases hv:qak l=true
 . have Hr:Hid (qep l=some (l.reverse)):=by show _=_;unfold qep;rw[if_pos hv]
   have Hv:=Lib.hid hv;clear hv;go_enter func148,ntmps148;go_wp2_with fail;refine(qcb _ l _ h).mono ?_;rw[Hv.out];rintro e w1 ⟨rfl,rfl⟩;go_wp2_with fail;refine(q3h _ l _ h (by have:=qbv Hv.out;omega)).mono ?_;rintro e w2 ⟨v2,rfl,ho,hg⟩;obtain⟨A',n',c',rfl⟩:=ho.ri.val;go_wp2_with fail
   go_ret2
   exact⟨_,by rw[Hr.out];rfl,by rw[Hr.out];exact ho,hg⟩
 . have hv':qak l=false:=by simpa using hv
   have Hr:Hid (qep l=none):=by show _=_;unfold qep;rw[if_neg hv]
   have Hv:=Lib.hid hv';clear hv hv';go_enter func148,ntmps148;go_wp2_with fail;refine(qcb _ l _ h).mono ?_;rw[Hv.out];rintro e w1 ⟨rfl,rfl⟩;go_wp2_with fail
   go_ret2
   exact⟨_,by rw[Hr.out];rfl,by rw[Hr.out];exact qf.nil _ _,qag _ _⟩
end
section
open Go.RowKit
def qvd(qa:List Node)(i:Nat):Int:=((dedup (qfe qa i)).length:Int)
theorem qxz(qa:List Node):qa7 qa=(Bc qa.length).map (qvd qa):=qxy qa
theorem q8i(qa:List Node)(k:Nat):(Bc (k+1)).map (qvd qa)=(Bc k).map (qvd qa)++[qvd qa k]:=by
 rw[List.range_succ,List.map_append];rfl
theorem q3p(hl:∀y∈l,0<=y){q:Nat}(h:l[q]?=some y):(dedup (l.take (q+1))).length=if y∈l.take q then (dedup (l.take q)).length else (dedup (l.take q)).length+1:=by
 obtain⟨hq,rfl⟩:=AP.1 h;rw[AO hq,q3o];have h1:=qvc (l:=l.take q) (λy hy=>hl y (Bs hy)) (hl l[q] (BA hq));by_cases hm:l[q]∈l.take q
 . rw[if_pos hm,if_pos (h1.2 hm)]
 . rw[if_neg hm,if_neg (λe=>hm (h1.1 e)),AW];rfl
theorem qmn(v:At)(qa:List Node)(w:Am)(h:RN w v qa)(hv:qae qa=true):Ap prog 75 #[v] w (qer w (qa7 qa)):=by
 obtain⟨A,n,c,rfl,hnc,hn,-⟩:=h.form';have jF:=qam hv;have zF:n<=10:=by omega
 have Hn:=Lib.hid hn;have Hv:=Lib.hid hv;have h0:qf (w.alloc (.cells #[] 3)) w.heap.size (.slice (some ⟨w.heap.size,0,none⟩) 0 0) []:=qf.empty w (BC _);clear hn hv jF;go_enter func75,ntmps75;go_wp2_with fail
 go_loopg [3,4] (n+1) (λmm out i wr=>∃k:Nat,k<=n/\mm=n+1-k/\i=.int .i64 k/\qf wr w.heap.size out ((Bc k).map (qvd qa))/\w.grownBy wr none)
 case atStart=>exact⟨0,BE _,rfl,rfl,h0,qaq (qag w none) _⟩
 case round=>
  clear h0;obtain⟨k,hk,rfl,rfl,hown,hg⟩:=hrel;by_cases hlt:k<n
  . obtain⟨g,o,nd,f,r,rfl,hx,c0,c1,c2,hf,hr⟩:=(h.new hg).at_ hlt;obtain⟨Af,nf,cf,rfl,hfc,hnf⟩:=hf.form';have hf2:nf<=2:=by rw[hnf];exact(qbf Hv.out hx).2.1
    have qgW:Hid (∀y∈nd.frm,0<=y):=λy hy=>(qc9 (qbf Hv.out hx).1 hy).1;have Hfr:Hid (qfe qa k=nd.frm):=qdh hx;have Hnf:=Lib.hid hnf;have hol:((Bc k).map (qvd qa)).length<=1000000000:=by rw[B9,Bm];omega
    clear hx c0 c2 hr hnf;go_wp2_with fail
    go_loopg [5,6] (nf+1) (λmm m i wq=>∃q:Nat,q<=nf/\mm=nf+1-q/\i=.int .i64 q/\m=.int .i64 ((dedup (nd.frm.take q)).length:Int)/\wr.grownBy wq none)
    case atStart=>exact⟨0,BE _,rfl,rfl,rfl,qag _ _⟩
    case round=>
     obtain⟨q,hq,rfl,rfl,rfl,hgq⟩:=hrel;have c1q:=qg7 c1 hgq;by_cases hlq:q<nf
     . obtain⟨g2,o2,y,rfl,hy,d0⟩:=(hf.new hgq).at_ hlq;have ht:=(hf.new hgq).take (k:=q) (by omega);have hqc:q<=cf:=by omega
       have hs:=q3p qgW.out hy
       have hdl:(dedup (nd.frm.take q)).length<=2:=by
        have:=qp5 (nd.frm.take q);rw[AS]at this;omega
       clear hy;by_cases hm:y∈nd.frm.take q
       . have Hm:Hid (decide (y∈nd.frm.take q)=true):=decide_eq_true hm;rw[if_pos hm]at hs;have Hs:=Lib.hid hs;clear hs hm;go_wp2_with fail
         go_quiet ((go_at_call 123;exact qcr (qdq _ _ _ _ (by exact ht) Hm.out)))
         go_wp2;go_roundg (nf+1-(q+1))
         case measure=>omega
         case rel=>exact⟨q+1,by omega,rfl,by go_num,by rw[Hs.out],qca hgq _⟩
       . have Hm:Hid (decide (y∈nd.frm.take q)=false):=decide_eq_false hm;rw[if_neg hm]at hs;have Hs:=Lib.hid hs;clear hs hm;go_wp2_with fail
         go_quiet ((go_at_call 123;exact qcr (qdq _ _ _ _ (by exact ht) Hm.out)))
         go_wp2;go_roundg (nf+1-(q+1))
         case measure=>omega
         case rel=>exact⟨q+1,by omega,rfl,by go_num,by rw[Hs.out];go_num,qca hgq _⟩
     . obtain rfl:q=nf:=by omega
       have Hc:Hid (((dedup (nd.frm.take q)).length:Int)=qvd qa k):=by
        show _=_;unfold qvd;rw[Hfr.out,AQ (by rw[<-Hnf.out];exact BC _)]
       rw[Hc.out];have kD:=hown.new hgq;have hg':=qac hg hgq;go_wp2_with (at_builtin;go_must (refine qcq _ _ rfl rfl kD hol hg'.size rfl rfl ?_));intro v2 w2 j4 hg2;rw[<-q8i]at j4;have hg3:=kD.gb hg' hg2 (BC _);obtain⟨A2,n2,c2,rfl⟩:=j4.ri.val;go_wp2;go_roundg (n+1-(k+1))
       case measure=>omega
       case rel=>exact⟨k+1,by omega,rfl,by go_num,j4,hg3⟩
  . obtain rfl:k=n:=by omega
    have e:(Bc k).map (qvd qa)=qa7 qa:=by rw[qxz,Hn.out]
    rw[e]at hown;obtain⟨A2,n2,c2,rfl⟩:=hown.ri.val;go_wp2;go_ret;exact⟨_,rfl,hown,hg⟩
theorem qxq{α:Type}{a b:List α}{x:α}(h:a.take k=b.take k)(hx:a[k]?=some x)(hy:b[k]?=some x):a.take (k+1)=b.take (k+1):=by
 obtain⟨h1,rfl⟩:=AP.1 hx;obtain⟨h2,h3⟩:=AP.1 hy;rw[AO h1,AO h2,h,h3]
theorem qjm(va vb:At)(a b:List Int)(w:Am)(ha:RI w va a)(hb:RI w vb b)(hc:decide (a=b)=c) :
   Ap prog 163 #[va,vb] w λe w'=>e=.returned (.bool c)/\w.grownBy w' none:=by
 obtain⟨A,n,d,rfl,_,hn⟩:=ha.form';obtain⟨B,m,d',rfl,_,hm⟩:=hb.form';have hle:=ha.le;have Hn:=Lib.hid hn;have Hm:=Lib.hid hm;have hnx:n<=9223372036854775807:=by omega
 by_cases hnm:n=m
 . subst hnm;have Hc:=Lib.hid hc;clear hn hm hc hle;go_enter func163,ntmps163;go_wp2_with fail
   go_loopg [5] (n+1) (λmm i wr=>∃k:Nat,k<=n/\mm=n+1-k/\i=.int .i64 k/\Hid (a.take k=b.take k)/\w.grownBy wr none)
   case atStart=>exact⟨0,BE _,rfl,rfl,by show _=_;simp,qag _ _⟩
   case round=>
    obtain⟨k,hk,rfl,rfl,Hk,hg⟩:=hrel;by_cases hlt:k<n
    . obtain⟨g,o,x,rfl,hx,c0⟩:=(ha.new hg).at_ hlt;obtain⟨g',o',y,rfl,hy,c1⟩:=(hb.new hg).at_ hlt;have Hx:=Lib.hid hx;have Hy:=Lib.hid hy;clear hx hy;by_cases hxy:x=y
      . subst hxy;have Hs:=Lib.hid (qxq Hk.out Hx.out Hy.out);clear Hk;go_wp2_with fail
        go_quiet (fail)
        go_wp2;go_roundg (n+1-(k+1))
        case measure=>omega
        case rel=>exact⟨k+1,by omega,rfl,by go_num,Hs,qca hg _⟩
      . have Hr:Hid (c=false):=by
         show _=_;rw[<-Hc.out,decide_eq_false_iff_not];rintro rfl;exact hxy (BL (Hx.out.symm.trans Hy.out))
        have hb1:(x != y)=true:=by simpa using hxy
        go_wp2_with fail
        go_quiet (fail)
        go_wp2;go_ret;exact⟨by rw[Hr.out];rfl,qca hg _⟩
    . obtain rfl:k=n:=by omega
      have Hr:Hid (c=true):=by
       show _=_;rw[<-Hc.out,decide_eq_true_eq];have:=Hk.out
       rwa [AQ (by rw[<-Hn.out];exact BC _),AQ (by rw[<-Hm.out];exact BC _)]at this
      clear Hk;go_wp2;go_ret;exact⟨by rw[Hr.out];rfl,hg⟩
 . have Hr:Hid (c=false):=by
    show _=_;rw[<-hc,decide_eq_false_iff_not];rintro rfl;exact hnm (hn.trans hm.symm)
   have hb1:((n:Int) != (m:Int))=true:=by simp;omega
   clear hn hm hc hle;go_enter func163,ntmps163;go_wp2;go_ret;exact⟨by rw[Hr.out];rfl,qag _ _⟩
theorem qmh(va vb:At)(a b:List Int)(w:Am)(ha:RI w va a)(hb:RI w vb b)(hc:decide (a=b)=c) :
   Ap prog 83 #[va,vb] w λe w'=>e=.returned (.bool c)/\w.grownBy w' none:=by
 obtain⟨A,n,d,rfl,_,hn⟩:=ha.form';obtain⟨B,m,d',rfl,_,hm⟩:=hb.form';have hle:=ha.le;have Hn:=Lib.hid hn;have Hm:=Lib.hid hm;have hnx:n<=9223372036854775807:=by omega
 by_cases hnm:n=m
 . subst hnm;have Hc:=Lib.hid hc;clear hn hm hc hle;go_enter func83,ntmps83;go_wp2_with fail
   go_loopg [13] (n+1) (λmm i wr=>∃k:Nat,k<=n/\mm=n+1-k/\i=.int .i64 k/\Hid (a.take k=b.take k)/\w.grownBy wr none)
   case atStart=>exact⟨0,BE _,rfl,rfl,by show _=_;simp,qag _ _⟩
   case round=>
    obtain⟨k,hk,rfl,rfl,Hk,hg⟩:=hrel;by_cases hlt:k<n
    . obtain⟨g,o,x,rfl,hx,c0⟩:=(ha.new hg).at_ hlt;obtain⟨g',o',y,rfl,hy,c1⟩:=(hb.new hg).at_ hlt;have Hx:=Lib.hid hx;have Hy:=Lib.hid hy;clear hx hy;by_cases hxy:x=y
      . subst hxy;have Hs:=Lib.hid (qxq Hk.out Hx.out Hy.out);clear Hk;go_wp2_with fail
        go_quiet (fail)
        go_wp2;go_roundg (n+1-(k+1))
        case measure=>omega
        case rel=>exact⟨k+1,by omega,rfl,by go_num,Hs,qca hg _⟩
      . have Hr:Hid (c=false):=by
         show _=_;rw[<-Hc.out,decide_eq_false_iff_not];rintro rfl;exact hxy (BL (Hx.out.symm.trans Hy.out))
        have hb1:(x != y)=true:=by simpa using hxy
        go_wp2_with fail
        go_quiet (fail)
        go_wp2;go_ret;exact⟨by rw[Hr.out];rfl,qca hg _⟩
    . obtain rfl:k=n:=by omega
      have Hr:Hid (c=true):=by
       show _=_;rw[<-Hc.out,decide_eq_true_eq];have:=Hk.out
       rwa [AQ (by rw[<-Hn.out];exact BC _),AQ (by rw[<-Hm.out];exact BC _)]at this
      clear Hk;go_wp2;go_ret;exact⟨by rw[Hr.out];rfl,hg⟩
 . have Hr:Hid (c=false):=by
    show _=_;rw[<-hc,decide_eq_false_iff_not];rintro rfl;exact hnm (hn.trans hm.symm)
   have hb1:((n:Int) != (m:Int))=true:=by simp;omega
   clear hn hm hc hle;go_enter func83,ntmps83;go_wp2;go_ret;exact⟨by rw[Hr.out];rfl,qag _ _⟩
end
section
open Go.RowKit
theorem qjl{K:Act->Am->Prop}{Q:Exit->Act->Am->Prop}{E:Prop}{u:Int}
   (s x:AF) (hgd:o.guard=none) (ho:o.op=.call {callee:=.builtin .append,args:=#[s,x],argTypes:=#[24,24]})
   {base:Nat}   (hown:qf w base v l) (hn:l.length<=1000000000) (hbase:base<=w.heap.size)
   (hs:a.eval s=v) (hx:a.eval x=.slice (some ⟨w.heap.size,0,none⟩) 1 1)
   (h:∀v' w',qf w' base v' (l++[u])->w.grownBy w' v.ownBlock->K (a.put o.dst v') w') :
   if Region.wanted o (yielded ops a.tmps)=true then Oper.wp prog o a (w.alloc (.cells #[.int .i64 u] 3)).drew K Q else E:=
 qt8 (w:=w.drew) s x hgd ho hown hn hbase hs hx λv' w' h1 h2=>h v' w' h1 ⟨h2.os,h2.tape,h2.output,h2.size,h2.block⟩
theorem qpl(va vb:At)(a b:List Int)(w:Am)(ha:RI w va a)(hb:RI w vb b)(hc:(qak a&&qak b&&decide (a.length=b.length))=c) :
   Ap prog 225 #[va,vb] w λe w'=>e=.returned (.bool c)/\w=w':=by
 obtain⟨A,n,d,rfl,_,hn⟩:=ha.form';obtain⟨B,m,d',rfl,_,hm⟩:=hb.form';rw[<-hn,<-hm]at hc;have Hc:=Lib.hid hc;clear hn hm hc;by_cases hva:qak a=true
 . have Hva:=Lib.hid hva;by_cases hvb:qak b=true
   . have Hvb:=Lib.hid hvb
     have Hr:Hid (c=((n:Int)==(m:Int))):=by
      show _=_;rw[<-Hc.out,hva,hvb,Aj,Aj,Ai];simp;omega
     clear hva hvb;go_enter func225,ntmps225;go_wp2_with fail;refine(qbp _ a _ ha Hva.out).mono ?_;rintro e w' ⟨rfl,rfl⟩;go_wp2_with fail;refine(qbp _ b _ hb Hvb.out).mono ?_;rintro e w' ⟨rfl,rfl⟩;go_wp2;go_ret;exact⟨by rw[Hr.out];rfl,rfl⟩
   . have xY:qak b=false:=by simpa using hvb
     have Hvb:=Lib.hid xY
     have Hr:Hid (c=false):=by
      show _=_;rw[<-Hc.out,xY];simp
     clear hva hvb xY;go_enter func225,ntmps225;go_wp2_with fail;refine(qbp _ a _ ha Hva.out).mono ?_;rintro e w' ⟨rfl,rfl⟩;go_wp2_with fail;refine(qbp _ b _ hb Hvb.out).mono ?_;rintro e w' ⟨rfl,rfl⟩;go_wp2;go_ret;exact⟨by rw[Hr.out];rfl,rfl⟩
 . have xZ:qak a=false:=by simpa using hva
   have Hva:=Lib.hid xZ
   have Hr:Hid (c=false):=by
    show _=_;rw[<-Hc.out,xZ];simp
   clear hva xZ;go_enter func225,ntmps225;go_wp2_with fail;refine(qbp _ a _ ha Hva.out).mono ?_;rintro e w' ⟨rfl,rfl⟩;go_wp2;go_ret;exact⟨by rw[Hr.out];rfl,rfl⟩
theorem qsz(va vb:At)(a b:List Int)(w:Am)(ha:RI w va a)(hb:RI w vb b):Ap prog 219 #[va,vb] w (qfw w (qli a b)):=by
 obtain⟨A,n,c,rfl,hc,hn⟩:=ha.form';obtain⟨B,m,d,rfl,hd,hm⟩:=hb.form';have Hn:=Lib.hid hn;have Hm:=Lib.hid hm;clear hn hm;by_cases hok:(qak a&&qak b&&decide (a.length=b.length))=true
 . have Hr:Hid (qli a b=some (q7 vv a b)):=by show _=_;unfold qli qdw;rw[if_pos hok]
   have Hok:=Lib.hid hok;simp only[Ah,decide_eq_true_eq]at hok;have Hva:=Lib.hid hok.1.1;have Hvb:=Lib.hid hok.1.2;have hn6:n<=6:=by rw[Hn.out];exact qbv hok.1.1
   have hmn:m=n:=by rw[Hn.out,Hm.out];exact hok.2.symm
   subst hmn;clear hok;go_enter func219,ntmps219;go_wp2_with fail;refine(qpl _ _ a b _ (ha.alloc _) (hb.alloc _) Hok.out).mono ?_;rintro e w' ⟨rfl,rfl⟩;have ho0:=qf.empty w (BC w.heap.size);have hg0:=AJ w (.cells #[] 3) none;go_wp2_with fail
   go_loopg [6,7] (m+1) (λmm o i wr=>∃k:Nat,k<=m/\mm=m+1-k/\i=.int .i64 k/\qf wr w.heap.size o (q7 vv (a.take k) (b.take k))/\w.grownBy wr none)
   case atStart=>exact⟨0,BE _,rfl,rfl,ho0,hg0⟩
   case round=>
    clear ho0 hg0;obtain⟨k,hk,rfl,rfl,ho,hg⟩:=hrel;obtain⟨Ao,no,co,rfl⟩:=ho.ri.val;by_cases hlt:k<m
    . obtain⟨ga,oa,x,rfl,hx,c0⟩:=(ha.new hg).at_ hlt;obtain⟨gb,ob,y,rfl,hy,c1⟩:=(hb.new hg).at_ hlt;obtain⟨hx0,hx1⟩:=qcy Hva.out (AT hx);obtain⟨hy0,hy1⟩:=qcy Hvb.out (AT hy);have Hz:=Lib.hid (qku vv hx hy);have hzl:=qgp vv (a:=a) (b:=b) (k:=k) (by rw[<-Hn.out];omega) (by rw[<-Hm.out];omega);have hl:(q7 vv (a.take k) (b.take k)).length<=10:=by omega
      obtain⟨p,hp⟩:∃p,p=x+y:=⟨_,rfl⟩
      have hpb:0<=p/\p<=1016064:=by
       rw[hp];omega
      obtain⟨hp0,hp1⟩:=hpb;have e1:AH.wrap (x+y)=p:=by rw[<-hp];exact AI _ (by omega)
      have e2:p.tmod 1009=p%1009:=AL hp0;have e3:AH.wrap (p%1009)=p%1009:=AI _ (by omega);have Hp:=Lib.hid hp;clear hx hy hzl hp;go_wp2_with fail
      go_region_law (refine qjl (u:=p%1009) (.tmp 20) (.tmp 31) rfl rfl (by exact ho) (by omega) (by exact hg.size) rfl rfl ?_;intro v' w4 qv hg4)
      all_goals
       have hz2:q7 vv (a.take (k+1)) (b.take (k+1))=q7 vv (a.take k) (b.take k)++[p%1009]:=by
        rw[Hz.out,Hp.out];rfl
       rw[<-hz2]at qv;have hg5:=ho.gb hg (by assumption) (BC _);clear e1 e2 e3 hz2;go_wp2;go_roundg (m+1-(k+1))
       case measure=>omega
       case rel=>exact⟨k+1,by omega,rfl,by go_num,qv,hg5⟩
    . obtain rfl:k=m:=by omega
      have hO2:qf wr w.heap.size (.slice Ao no co) (q7 vv a b):=by
       have:=ho;rw[AQ (by rw[<-Hn.out];exact BC _),AQ (by rw[<-Hm.out];exact BC _)]at this;exact this
      clear ho;go_wp2_with fail
      go_ret2
      exact⟨_,by rw[Hr.out];rfl,by rw[Hr.out];exact hO2,hg⟩
 . have zX:(qak a&&qak b&&decide (a.length=b.length))=false:=by simpa using hok
   have Hr:Hid (qli a b=none):=by show _=_;unfold qli qdw;rw[if_neg hok]
   have Hok:=Lib.hid zX;clear hok zX;go_enter func219,ntmps219;go_wp2_with fail;refine(qpl _ _ a b _ (ha.alloc _) (hb.alloc _) Hok.out).mono ?_;rintro e w' ⟨rfl,rfl⟩;go_wp2_with fail
   go_ret2
   exact⟨_,by rw[Hr.out];rfl,by rw[Hr.out];exact qf.empty w (BC _),AJ w _ none⟩
theorem qo7(va vb:At)(a b:List Int)(w:Am)(ha:RI w va a)(hb:RI w vb b):Ap prog 220 #[va,vb] w (qfw w (qf2 a b)):=by
 obtain⟨A,n,c,rfl,hc,hn⟩:=ha.form';obtain⟨B,m,d,rfl,hd,hm⟩:=hb.form';have Hn:=Lib.hid hn;have Hm:=Lib.hid hm;clear hn hm;by_cases hok:(qak a&&qak b&&decide (a.length=b.length))=true
 . have Hr:Hid (qf2 a b=some (q7 vl a b)):=by show _=_;unfold qf2 qdw;rw[if_pos hok]
   have Hok:=Lib.hid hok;simp only[Ah,decide_eq_true_eq]at hok;have Hva:=Lib.hid hok.1.1;have Hvb:=Lib.hid hok.1.2;have hn6:n<=6:=by rw[Hn.out];exact qbv hok.1.1
   have hmn:m=n:=by rw[Hn.out,Hm.out];exact hok.2.symm
   subst hmn;clear hok;go_enter func220,ntmps220;go_wp2_with fail;refine(qpl _ _ a b _ (ha.alloc _) (hb.alloc _) Hok.out).mono ?_;rintro e w' ⟨rfl,rfl⟩;have ho0:=qf.empty w (BC w.heap.size);have hg0:=AJ w (.cells #[] 3) none;go_wp2_with fail
   go_loopg [6,7] (m+1) (λmm o i wr=>∃k:Nat,k<=m/\mm=m+1-k/\i=.int .i64 k/\qf wr w.heap.size o (q7 vl (a.take k) (b.take k))/\w.grownBy wr none)
   case atStart=>exact⟨0,BE _,rfl,rfl,ho0,hg0⟩
   case round=>
    clear ho0 hg0;obtain⟨k,hk,rfl,rfl,ho,hg⟩:=hrel;obtain⟨Ao,no,co,rfl⟩:=ho.ri.val;by_cases hlt:k<m
    . obtain⟨ga,oa,x,rfl,hx,c0⟩:=(ha.new hg).at_ hlt;obtain⟨gb,ob,y,rfl,hy,c1⟩:=(hb.new hg).at_ hlt;obtain⟨hx0,hx1⟩:=qcy Hva.out (AT hx);obtain⟨hy0,hy1⟩:=qcy Hvb.out (AT hy);have Hz:=Lib.hid (qku vl hx hy);have hzl:=qgp vl (a:=a) (b:=b) (k:=k) (by rw[<-Hn.out];omega) (by rw[<-Hm.out];omega);have hl:(q7 vl (a.take k) (b.take k)).length<=10:=by omega
      obtain⟨p,hp⟩:∃p,p=x*y:=⟨_,rfl⟩
      have hpb:0<=p/\p<=1016064:=by
       rw[hp];refine⟨AM hx0 hy0,?_⟩;have:=AN hx1 hy1 hy0 (by omega);omega
      obtain⟨hp0,hp1⟩:=hpb;have e1:AH.wrap (x*y)=p:=by rw[<-hp];exact AI _ (by omega)
      have e2:p.tmod 1009=p%1009:=AL hp0;have e3:AH.wrap (p%1009)=p%1009:=AI _ (by omega);have Hp:=Lib.hid hp;clear hx hy hzl hp;go_wp2_with fail
      go_region_law (refine qjl (u:=p%1009) (.tmp 20) (.tmp 31) rfl rfl (by exact ho) (by omega) (by exact hg.size) rfl rfl ?_;intro v' w4 qv hg4)
      all_goals
       have hz2:q7 vl (a.take (k+1)) (b.take (k+1))=q7 vl (a.take k) (b.take k)++[p%1009]:=by
        rw[Hz.out,Hp.out];rfl
       rw[<-hz2]at qv;have hg5:=ho.gb hg (by assumption) (BC _);clear e1 e2 e3 hz2;go_wp2;go_roundg (m+1-(k+1))
       case measure=>omega
       case rel=>exact⟨k+1,by omega,rfl,by go_num,qv,hg5⟩
    . obtain rfl:k=m:=by omega
      have hO2:qf wr w.heap.size (.slice Ao no co) (q7 vl a b):=by
       have:=ho;rw[AQ (by rw[<-Hn.out];exact BC _),AQ (by rw[<-Hm.out];exact BC _)]at this;exact this
      clear ho;go_wp2_with fail
      go_ret2
      exact⟨_,by rw[Hr.out];rfl,by rw[Hr.out];exact hO2,hg⟩
 . have zX:(qak a&&qak b&&decide (a.length=b.length))=false:=by simpa using hok
   have Hr:Hid (qf2 a b=none):=by show _=_;unfold qf2 qdw;rw[if_neg hok]
   have Hok:=Lib.hid zX;clear hok zX;go_enter func220,ntmps220;go_wp2_with fail;refine(qpl _ _ a b _ (ha.alloc _) (hb.alloc _) Hok.out).mono ?_;rintro e w' ⟨rfl,rfl⟩;go_wp2_with fail
   go_ret2
   exact⟨_,by rw[Hr.out];rfl,by rw[Hr.out];exact qf.empty w (BC _),AJ w _ none⟩
end
section
open Go.RowKit
theorem qrd(v:At)(l:List Int)(w:Am)(h:RI w v l):Ap prog 221 #[v] w (qfw w (qen l)):=by
 obtain⟨A,n,c,rfl,hc,hn⟩:=h.form';have Hn:=Lib.hid hn;clear hn;by_cases hok:qak l=true
 . have Hr:Hid (qen l=some (qbc 0 l)):=by show _=_;unfold qen;rw[if_pos hok]
   have Hok:=Lib.hid hok;have hn6:n<=6:=by rw[Hn.out];exact qbv hok
   clear hok;go_enter func221,ntmps221;go_wp2_with fail;refine(qbp _ l _ (h.alloc _) Hok.out).mono ?_;rintro e w' ⟨rfl,rfl⟩;have ho0:=qf.empty w (BC w.heap.size);have hg0:=AJ w (.cells #[] 3) none;go_wp2_with fail
   go_loopg [4,5,6] (n+1) (λmm o s i wr=>∃(k:Nat) (z:Int),k<=n/\mm=n+1-k/\i=.int .i64 k/\s=.int .i64 z/\0<=z/\z<=1008/\Hid (z=(qbc 0 (l.take k)).getLast?.getD 0)/\qf wr w.heap.size o (qbc 0 (l.take k))/\w.grownBy wr none)
   case atStart=>exact⟨0,0,BE _,rfl,rfl,rfl,by omega,by omega,rfl,ho0,hg0⟩
   case round=>
    clear ho0 hg0;obtain⟨k,z,hk,rfl,rfl,rfl,hz0,hz1,Hz,ho,hg⟩:=hrel;obtain⟨Ao,no,co,rfl⟩:=ho.ri.val;by_cases hlt:k<n
    . obtain⟨ga,oa,x,rfl,hx,c0⟩:=(h.new hg).at_ hlt;obtain⟨hx0,hx1⟩:=qcy Hok.out (AT hx);obtain⟨hk',hx'⟩:=AP.1 hx
      have hsn:Hid (qbc 0 (l.take (k+1))=qbc 0 (l.take k)++[(z+x)%1009]):=by
       show _=_;rw[AO hk',hx',qjk,<-Hz.out]
      have hl:(qbc 0 (l.take k)).length<=10:=by rw[qix,AS];omega
      have Hz2:Hid ((z+x)%1009=(qbc 0 (l.take (k+1))).getLast?.getD 0):=by
       show _=_;rw[hsn.out,Bt];simp
      clear hx hk' hx' Hz;go_wp2_with (at_builtin;go_must (refine qcq (.tmp 25) (.tmp 27) rfl rfl ho (by omega) hg.size rfl rfl ?_));intro v' w4 qv hg4;have hg5:=ho.gb hg hg4 (BC _);rw[<-hsn.out]at qv;go_wp2;go_roundg (n+1-(k+1))
      case measure=>omega
      case rel=>exact⟨k+1,_,by omega,rfl,by go_num,rfl,by omega,by omega,Hz2,qv,hg5⟩
    . obtain rfl:k=n:=by omega
      have hO2:qf wr w.heap.size (.slice Ao no co) (qbc 0 l):=by
       have:=ho;rw[AQ (by rw[<-Hn.out];exact BC _)]at this;exact this
      clear ho Hz;go_wp2_with fail
      go_ret2
      exact⟨_,by rw[Hr.out];rfl,by rw[Hr.out];exact hO2,hg⟩
 . have zX:qak l=false:=by simpa using hok
   have Hr:Hid (qen l=none):=by show _=_;unfold qen;rw[if_neg hok]
   have Hok:=Lib.hid zX;clear hok zX;go_enter func221,ntmps221;go_wp2_with fail;refine(qbp _ l _ (h.alloc _) Hok.out).mono ?_;rintro e w' ⟨rfl,rfl⟩;go_wp2_with fail
   go_ret2
   exact⟨_,by rw[Hr.out];rfl,by rw[Hr.out];exact qf.empty w (BC _),AJ w _ none⟩
theorem q3i(l:List Int)(n:Int):(putRow l n).length=l.length+1:=by
 induction l with
 |nil=>rfl
 |cons x xs ih=>unfold putRow;split<;>simp[ih]
theorem qu8(l acc:List Int):(l.foldl putRow acc).length=l.length+acc.length:=by
 induction l generalizing acc with
 |nil=>simp
 |cons x xs ih=>rw[List.foldl_cons,ih,q3i,AY];omega
theorem drop_cons(h:l[k]?=some x):l.drop k=x::l.drop (k+1):=by
 obtain⟨hk,rfl⟩:=AP.1 h;exact List.drop_eq_getElem_cons hk
theorem q57(v:At)(l:List Int)(x:Int)(w:Am)(h:RI w v l)(hl:l.length<=12):Ap prog 226 #[v,.int .i64 x] w (qer w (putRow l x)):=by
 obtain⟨A,n,c,rfl,hc,hn⟩:=h.form';have qlL:n<=12:=by omega
 have Hn:=Lib.hid hn;clear hn hl;have ho0:=qf.empty w (BC w.heap.size);have hg0:=AJ w (.cells #[] 3) none;go_enter func226,ntmps226;go_wp2_with fail
 go_loopg [5,6,7] (n+1) (λmm o d i wr=>∃(k:Nat) (b:Bool) (q:List Int),k<=n/\mm=n+1-k/\i=.int .i64 k/\d=.bool b/\q.length<=2*k/\Hid (q++(if b then l.drop k else putRow (l.drop k) x)=putRow l x)/\qf wr w.heap.size o q/\w.grownBy wr none)
 case atStart=>exact⟨0,false,[],BE _,rfl,rfl,rfl,by simp,rfl,ho0,hg0⟩
 case round=>
  clear ho0 hg0;obtain⟨k,b,q,hk,rfl,rfl,rfl,hq,Hq,ho,hg⟩:=hrel;obtain⟨Ao,no,co,rfl⟩:=ho.ri.val;by_cases hlt:k<n
  . obtain⟨ga,oa,y,rfl,hy,c0⟩:=(h.new hg).at_ hlt;have hd:=drop_cons hy;cases b
    . by_cases hxy:x<y
      . have Hq2:Hid ((q++[x,y])++(if true then l.drop (k+1) else putRow (l.drop (k+1)) x)=putRow l x):=by
         show _=_;rw[<-Hq.out,hd];simp[putRow,hxy]
        clear Hq hd;go_wp2_with (at_builtin;go_must (refine qcq (.tmp 25) (.tmp 27) rfl rfl ho (by omega) hg.size rfl rfl ?_));intro v' w4 qv hg4;have hg5:=ho.gb hg hg4 (BC _);obtain⟨A',n',c',rfl⟩:=qv.ri.val
        have hc1:w4.cell? ⟨ga,oa+k,none⟩=some (.int .i64 y):=by
         obtain⟨ga',oa',y',e',hy',c0'⟩:=(h.new hg5).at_ hlt;injection e' with e';injection e' with e1 e2 e3;subst e1 e2;rw[hy]at hy';injection hy' with hy';rw[hy'];exact c0'
        clear hy;have hql:(q++[x]).length<=1000000000:=by rw[AW];simp;omega
        go_wp2_with (at_builtin;go_must (refine qcq (.tmp 29) (.tmp 34) rfl rfl qv hql hg5.size rfl rfl ?_));intro v5 w5 qF hg6;have jS:qf w5 w.heap.size v5 (q++[x,y]):=qF;clear qF;have hg7:=qv.gb hg5 hg6 (BC _);go_wp2;go_roundg (n+1-(k+1))
        case measure=>omega
        case rel=>exact⟨k+1,true,_,by omega,rfl,by go_num,rfl,by rw[AW];simp;omega,Hq2,jS,hg7⟩
      . have Hq2:Hid ((q++[y])++(if false then l.drop (k+1) else putRow (l.drop (k+1)) x)=putRow l x):=by
         show _=_;rw[<-Hq.out,hd];simp[putRow,hxy]
        clear Hq hy hd;go_wp2_with (at_builtin;go_must (refine qcq (.tmp 29) (.tmp 34) rfl rfl ho (by omega) hg.size rfl rfl ?_));intro v' w4 qv hg4;have hg5:=ho.gb hg hg4 (BC _);go_wp2;go_roundg (n+1-(k+1))
        case measure=>omega
        case rel=>exact⟨k+1,false,_,by omega,rfl,by go_num,rfl,by rw[AW];simp;omega,Hq2,qv,hg5⟩
    . have Hq2:Hid ((q++[y])++(if true then l.drop (k+1) else putRow (l.drop (k+1)) x)=putRow l x):=by
       show _=_;rw[<-Hq.out,hd];simp
      clear Hq hy hd;go_wp2_with (at_builtin;go_must (refine qcq (.tmp 29) (.tmp 34) rfl rfl ho (by omega) hg.size rfl rfl ?_));intro v' w4 qv hg4;have hg5:=ho.gb hg hg4 (BC _);go_wp2;go_roundg (n+1-(k+1))
      case measure=>omega
      case rel=>exact⟨k+1,true,_,by omega,rfl,by go_num,rfl,by rw[AW];simp;omega,Hq2,qv,hg5⟩
  . obtain rfl:k=n:=by omega
    have hdn:l.drop k=[]:=Br (by rw[<-Hn.out];exact BC _);cases b
    . have Hq2:Hid (q++[x]=putRow l x):=by
       show _=_;rw[<-Hq.out,hdn];rfl
      clear Hq hdn;go_wp2_with (at_builtin;go_must (refine qcq (.tmp 38) (.tmp 40) rfl rfl ho (by omega) hg.size rfl rfl ?_));intro v' w4 qv hg4;have hg5:=ho.gb hg hg4 (BC _);rw[Hq2.out]at qv;obtain⟨A',n',c',rfl⟩:=qv.ri.val;go_wp2;go_ret;exact⟨_,rfl,qv,hg5⟩
    . have Hq2:Hid (q=putRow l x):=by
       show _=_;rw[<-Hq.out,hdn];simp
      clear Hq hdn;rw[Hq2.out]at ho;go_wp2;go_ret;exact⟨_,rfl,ho,hg⟩
theorem qre(v:At)(l:List Int)(w:Am)(h:RI w v l):Ap prog 222 #[v] w (qfw w (qeo l)):=by
 obtain⟨A,n,c,rfl,hc,hn⟩:=h.form';have Hn:=Lib.hid hn;clear hn;by_cases hok:qak l=true
 . have Hr:Hid (qeo l=some (qj l)):=by show _=_;unfold qeo;rw[if_pos hok]
   have Hok:=Lib.hid hok;have hn6:n<=6:=by rw[Hn.out];exact qbv hok
   clear hok;go_enter func222,ntmps222;go_wp2_with fail;refine(qbp _ l _ (h.alloc _) Hok.out).mono ?_;rintro e w' ⟨rfl,rfl⟩;have ho0:=qf.empty w (BC w.heap.size);have hg0:=AJ w (.cells #[] 3) none;go_wp2_with fail
   go_loopg [4,5] (n+1) (λmm o i wr=>∃(k:Nat),k<=n/\mm=n+1-k/\i=.int .i64 k/\qf wr w.heap.size o ((l.take k).foldl putRow [])/\w.grownBy wr none)
   case atStart=>exact⟨0,BE _,rfl,rfl,ho0,hg0⟩
   case round=>
    clear ho0 hg0;obtain⟨k,hk,rfl,rfl,ho,hg⟩:=hrel;obtain⟨Ao,no,co,rfl⟩:=ho.ri.val;by_cases hlt:k<n
    . obtain⟨ga,oa,x,rfl,hx,c0⟩:=(h.new hg).at_ hlt;obtain⟨hk',hx'⟩:=AP.1 hx
      have hsn:Hid ((l.take (k+1)).foldl putRow []=putRow ((l.take k).foldl putRow []) x):=by
       show _=_;rw[AO hk',hx',By];rfl
      have hl:((l.take k).foldl putRow []).length<=12:=by rw[qu8,AS];simp;omega
      clear hx hk' hx';go_wp2_with fail;refine(q57 _ _ x _ ho.ri hl).mono ?_;rintro e w4 ⟨v',rfl,qv,hg4⟩;have qF:=qv.low hg.size;have hg5:=hg.trans hg4;rw[<-hsn.out]at qF;obtain⟨A',n',c',rfl⟩:=qF.ri.val;go_wp2;go_roundg (n+1-(k+1))
      case measure=>omega
      case rel=>exact⟨k+1,by omega,rfl,by go_num,qF,hg5⟩
    . obtain rfl:k=n:=by omega
      have hO2:qf wr w.heap.size (.slice Ao no co) (qj l):=by
       have:=ho;rw[AQ (by rw[<-Hn.out];exact BC _)]at this;exact this
      clear ho;go_wp2_with fail
      go_ret2
      exact⟨_,by rw[Hr.out];rfl,by rw[Hr.out];exact hO2,hg⟩
 . have zX:qak l=false:=by simpa using hok
   have Hr:Hid (qeo l=none):=by show _=_;unfold qeo;rw[if_neg hok]
   have Hok:=Lib.hid zX;clear hok zX;go_enter func222,ntmps222;go_wp2_with fail;refine(qbp _ l _ (h.alloc _) Hok.out).mono ?_;rintro e w' ⟨rfl,rfl⟩;go_wp2_with fail
   go_ret2
   exact⟨_,by rw[Hr.out];rfl,by rw[Hr.out];exact qf.empty w (BC _),AJ w _ none⟩
theorem qrf(v:At)(l:List Int)(w:Am)(h:RI w v l):Ap prog 223 #[v] w (qfw w (qep l)):=by
 obtain⟨A,n,c,rfl,hc,hn⟩:=h.form';have Hn:=Lib.hid hn;clear hn;by_cases hok:qak l=true
 . have Hr:Hid (qep l=some l.reverse):=by show _=_;unfold qep;rw[if_pos hok]
   have Hok:=Lib.hid hok;have hn6:n<=6:=by rw[Hn.out];exact qbv hok
   have hw:AH.wrap ((n:Int)-1)=(n:Int)-1:=AI _ (by omega);clear hok;go_enter func223,ntmps223;go_wp2_with fail;refine(qbp _ l _ (h.alloc _) Hok.out).mono ?_;rintro e w' ⟨rfl,rfl⟩;have ho0:=qf.empty w (BC w.heap.size);have hg0:=AJ w (.cells #[] 3) none;have hl0:(l.drop n).reverse=[]:=by rw[Br (by rw[<-Hn.out];exact BC _)];rfl
   go_wp2_with fail
   go_loopg [4,5] (n+1) (λmm o i wr=>∃(j:Nat) (z:Int),j<=n/\mm=j+1/\z=(j:Int)-1/\i=.int .i64 z/\qf wr w.heap.size o (l.drop j).reverse/\w.grownBy wr none)
   case atStart=>exact⟨n,_,BC _,rfl,rfl,by first|rfl|rw[hw],by rw[hl0];exact ho0,hg0⟩
   case round=>
    clear ho0 hg0 hl0 hw;obtain⟨j,z,hk,rfl,hz,rfl,ho,hg⟩:=hrel;obtain⟨Ao,no,co,rfl⟩:=ho.ri.val;cases j with
    |succ k=>
     obtain rfl:z=(k:Int):=by omega
     clear hz;have hlt:k<n:=by omega
     obtain⟨ga,oa,x,rfl,hx,c0⟩:=(h.new hg).at_ hlt
     have hsn:Hid ((l.drop k).reverse=(l.drop (k+1)).reverse++[x]):=by
      show _=_;rw[drop_cons hx,List.reverse_cons]
     have hl:(l.drop (k+1)).reverse.length<=12:=by rw[List.length_reverse,AZ,<-Hn.out];omega
     clear hx;go_wp2_with (at_builtin;go_must (refine qcq (.tmp 18) (.tmp 23) rfl rfl ho (by omega) hg.size rfl rfl ?_));intro v' w4 qv hg4;have hg5:=ho.gb hg hg4 (BC _);rw[<-hsn.out]at qv;go_wp2;go_roundg (k+1)
     case measure=>omega
     case rel=>exact⟨k,_,by omega,rfl,rfl,by go_num,qv,hg5⟩
    |zero=>
     obtain rfl:z=-1:=by omega
     have hO2:qf wr w.heap.size (.slice Ao no co) l.reverse:=ho;clear ho hz;go_wp2_with fail
     go_ret2
     exact⟨_,by rw[Hr.out];rfl,by rw[Hr.out];exact hO2,hg⟩
 . have zX:qak l=false:=by simpa using hok
   have Hr:Hid (qep l=none):=by show _=_;unfold qep;rw[if_neg hok]
   have Hok:=Lib.hid zX;clear hok zX;go_enter func223,ntmps223;go_wp2_with fail;refine(qbp _ l _ (h.alloc _) Hok.out).mono ?_;rintro e w' ⟨rfl,rfl⟩;go_wp2_with fail
   go_ret2
   exact⟨_,by rw[Hr.out];rfl,by rw[Hr.out];exact qf.empty w (BC _),AJ w _ none⟩
end
section
open Go.RowKit
theorem qh5{k:Int}(h:k=0∨qas k≠(ll.length:Int)):qdx k ll=none:=by
 match ll,h with
 |[],h=>rfl
 |[a],h=>
  show (if k=3 then qen a else if k=4 then qeo a else if k=5 then qep a else none)=none;unfold qas at h;simp only[AY,AX]at h
  repeat rw[if_neg (by intro e;subst e;simp at h)]
 |[a,b],h=>
  show (if k=1 then qli a b else if k=2 then qf2 a b else none)=none;unfold qas at h;simp only[AY,AX]at h
  repeat rw[if_neg (by intro e;subst e;simp at h)]
 |a::b::c::d,h=>rfl
theorem qu9{k:Int}(h:¬(k=0∨qas k≠(ll.length:Int))) :
   (∃a b,ll=[a,b]/\(k=1∨k=2))∨(∃a,ll=[a]/\(k=3∨k=4∨k=5)):=by
 unfold qas at h
 match ll with
 |[]=>
  exfalso;simp only[AX]at h;split at h
  . simp at h
  . split at h
    . omega
    . split at h<;>simp at h
 |[a]=>
  refine .inr ⟨a,rfl,?_⟩;simp only[AY,AX]at h;split at h
  . simp at h
  . split at h
    . omega
    . split at h
      . simp at h
      . omega
 |[a,b]=>
  refine .inl ⟨a,b,rfl,?_⟩;simp only[AY,AX]at h;split at h
  . simp at h
  . split at h
    . omega
    . split at h
      . omega
      . simp at h
 |a::b::c::d=>
  exfalso;simp only[AY]at h;split at h
  . omega
  . split at h
    . omega
    . split at h<;>omega
theorem qrg(k:Int)(v:At)(ll:List (List Int))(w:Am)(h:RL w v ll):Ap prog 202 #[.int .i64 k,v] w (qfw w (qdx k ll)):=by
 obtain⟨A,n,c,rfl,hc,hn,hn2⟩:=h.form';by_cases xB:k=0∨qas k≠(ll.length:Int)
 . have Hr:=Lib.hid (qh5 xB);rw[<-hn]at xB;by_cases h0:k=0
   . subst h0;clear hn xB;go_enter func202,ntmps202;go_wp2_with fail
     go_ret2
     exact⟨_,by rw[Hr.out];rfl,by rw[Hr.out];exact qf.empty w (BC _),AJ w _ none⟩
   . have hne:qas k≠(n:Int):=xB.resolve_left h0;have hb1:(qas k != (n:Int))=true:=by simpa using hne
     have hb2:(k==0)=false:=by simpa using h0
     clear hn xB;go_enter func202,ntmps202;go_wp2_with fail;refine(qb2 _ _).mono ?_;rintro e w2 ⟨rfl,rfl⟩;go_wp2_with fail
     go_ret2
     exact⟨_,by rw[Hr.out];rfl,by rw[Hr.out];exact qf.empty w (BC _),AJ w _ none⟩
 . rcases qu9 xB with ⟨a,b,rfl,hk⟩|⟨a,rfl,hk⟩
   . simp only[AY,AX,BJ]at hn;subst hn;clear xB;obtain⟨g,o,l,B,m,e,hA,hl,c0,ha,hm,hme,hmx⟩:=h.at_ (k:=0) (by omega);obtain⟨g',o',l',B',m',e',hA',hl',c1,hb,hm',qgX,qgY⟩:=h.at_ (k:=1) (by omega);rw[hA]at hA';injection hA' with hA';injection hA' with e1 e2 e3;subst hA e1 e2;clear e3;simp only[Bb,Bq,BK]at hl hl';subst hl hl';clear hm hm';have c0:w.cell? ⟨g,o,none⟩=some (.slice B m e):=c0;rcases hk with rfl|rfl
     . have Hn:Hid (qas 1=2):=by show _=_;decide
       go_enter func202,ntmps202;go_wp2_with fail;refine(qb2 _ _).mono ?_;rw[Hn.out];rintro e w2 ⟨rfl,rfl⟩;go_wp2_with fail
       go_region_law (go_simp;go_at_call 219;refine(qsz _ _ a b _ (by exact ha) (by exact hb)).mono ?_;rintro e w3 ⟨v3,rfl,ho,hg⟩;obtain⟨A',n',c',rfl⟩:=ho.ri.val;have k0:=hg.cell (by exact c0) (by simp);have k1:=hg.cell (by exact c1) (by simp))
       all_goals
        go_wp2_with fail
        go_ret2
        exact⟨_,rfl,ho,qac (qay (qag _ _)) hg⟩
     . have Hn:Hid (qas 2=2):=by show _=_;decide
       go_enter func202,ntmps202;go_wp2_with fail;refine(qb2 _ _).mono ?_;rw[Hn.out];rintro e w2 ⟨rfl,rfl⟩;go_wp2_with fail
       go_region_law (go_simp;go_at_call 220;refine(qo7 _ _ a b _ (by exact ha) (by exact hb)).mono ?_;rintro e w3 ⟨v3,rfl,ho,hg⟩;obtain⟨A',n',c',rfl⟩:=ho.ri.val;have k0:=hg.cell (by exact c0) (by simp);have k1:=hg.cell (by exact c1) (by simp))
       all_goals
        go_wp2_with fail
        go_ret2
        exact⟨_,rfl,ho,qac (qay (qag _ _)) hg⟩
   . simp only[AY,AX,BJ]at hn;subst hn;clear xB;obtain⟨g,o,l,B,m,e,rfl,hl,c0,ha,hm,hme,hmx⟩:=h.at_ (k:=0) (by omega);simp only[Bb,BK]at hl;subst hl;clear hm;have c0:w.cell? ⟨g,o,none⟩=some (.slice B m e):=c0;rcases hk with rfl|rfl|rfl
     . have Hn:Hid (qas 3=1):=by show _=_;decide
       go_enter func202,ntmps202;go_wp2_with fail;refine(qb2 _ _).mono ?_;rw[Hn.out];rintro e w2 ⟨rfl,rfl⟩;go_wp2_with fail;refine(qrd _ a _ ha).mono ?_;rintro e w3 ⟨v3,rfl,ho,hg⟩;obtain⟨A',n',c',rfl⟩:=ho.ri.val;go_wp2_with fail
       go_ret2
       exact⟨_,rfl,ho,hg⟩
     . have Hn:Hid (qas 4=1):=by show _=_;decide
       go_enter func202,ntmps202;go_wp2_with fail;refine(qb2 _ _).mono ?_;rw[Hn.out];rintro e w2 ⟨rfl,rfl⟩;go_wp2_with fail;refine(qre _ a _ ha).mono ?_;rintro e w3 ⟨v3,rfl,ho,hg⟩;obtain⟨A',n',c',rfl⟩:=ho.ri.val;go_wp2_with fail
       go_ret2
       exact⟨_,rfl,ho,hg⟩
     . have Hn:Hid (qas 5=1):=by show _=_;decide
       go_enter func202,ntmps202;go_wp2_with fail;refine(qb2 _ _).mono ?_;rw[Hn.out];rintro e w2 ⟨rfl,rfl⟩;go_wp2_with fail;refine(qrf _ a _ ha).mono ?_;rintro e w3 ⟨v3,rfl,ho,hg⟩;obtain⟨A',n',c',rfl⟩:=ho.ri.val;go_wp2_with fail
       go_ret2
       exact⟨_,rfl,ho,hg⟩
theorem qgZ(v:At)(w:Am):(AG (.iface 132 v) 128 132 true).run prog w=.ok (.tuple #[v,.bool true]) w:=by kernel_rfl
theorem qhA(v:At)(w:Am):(AG (.iface 136 v) 128 136 true).run prog w=.ok (.tuple #[v,.bool true]) w:=by kernel_rfl
theorem qhB(v:At)(w:Am):(AG (.iface 136 v) 128 132 true).run prog w=.ok (.tuple #[.agg #[.nilFunc],.bool false]) w:=by kernel_rfl
theorem qhC(v:At)(w:Am):(AG (.iface 132 v) 128 136 true).run prog w=.ok (.tuple #[.agg #[.nilFunc],.bool false]) w:=by kernel_rfl
theorem qhD(v:At)(w:Am):(AG (.iface 181 v) 128 132 true).run prog w=.ok (.tuple #[.agg #[.nilFunc],.bool false]) w:=by kernel_rfl
theorem qhE(v:At)(w:Am):(AG (.iface 181 v) 128 136 true).run prog w=.ok (.tuple #[.agg #[.nilFunc],.bool false]) w:=by kernel_rfl
theorem qhF(w:Am):(AG .nilIface 128 132 true).run prog w=.ok (.tuple #[.agg #[.nilFunc],.bool false]) w:=by kernel_rfl
theorem qhG(w:Am):(AG .nilIface 128 136 true).run prog w=.ok (.tuple #[.agg #[.nilFunc],.bool false]) w:=by kernel_rfl
attribute [go_sem] qgZ qhA qhB qhC qhD qhE qhF qhG
theorem qrh(k:Int)(v:At)(ll:List (List Int))(w:Am)(h:RL w v ll)(hk:k<0∨5<k∨k=0):Ap prog 58 #[.int .i64 k,v] w (qfw w (qdx k ll)):=by
 obtain⟨A,n,c,rfl,hc,hn,hn2⟩:=h.form'
 have Hr:Hid (qdx k ll=none):=by
  refine qh5 ?_;rcases hk with hk|hk|hk
  . refine .inr ?_;unfold qas;rw[if_pos (.inl hk)];omega
  . refine .inr ?_;unfold qas;rw[if_pos (.inr hk)];omega
  . exact .inl hk
 clear hn;rcases (show (k<0∨5<k)∨k=0 by omega)with hk|rfl
 . have H:Hid (work k=.nilIface):=by
    show work k=.nilIface;unfold work
    repeat rw[if_neg (by omega)]
   go_enter func58,ntmps58;go_wp2_with fail;refine(qcz _ _).mono ?_;rw[H.out];rintro e w' ⟨rfl,rfl⟩;go_wp2_with fail
   go_ret2
   exact⟨_,by rw[Hr.out];rfl,by rw[Hr.out];exact qf.nil _ _,qag _ _⟩
 . go_enter func58,ntmps58;go_wp2_with fail;refine(qcz _ _).mono ?_;simp only[work,if_true];rintro e w' ⟨rfl,rfl⟩;go_wp2_with fail
   go_ret2
   exact⟨_,by rw[Hr.out];rfl,by rw[Hr.out];exact qf.nil _ _,qag _ _⟩
theorem qo8(k:Int)(v:At)(ll:List (List Int))(w:Am)(h:RL w v ll)(hk:k=3∨k=4∨k=5):Ap prog 58 #[.int .i64 k,v] w (qfw w (qdx k ll)):=by
 obtain⟨A,n,c,rfl,hc,hn,hn2⟩:=h.form';by_cases h1:n=1
 . subst h1
   obtain⟨a,rfl⟩:∃a,ll=[a]:=by
    match ll,hn with
    |[a],_=>exact⟨a,rfl⟩
   clear hn;obtain⟨g,o,l,B,m,e,rfl,hl,c0,ha,hm,hme,hmx⟩:=h.at_ (k:=0) (by omega);simp only[Bb,BK]at hl;subst hl;clear hm;have c0:w.cell? ⟨g,o,none⟩=some (.slice B m e):=c0;rcases hk with rfl|rfl|rfl
   . go_enter func58,ntmps58;go_wp2_with fail;refine(qcz _ _).mono ?_;simp only[work,if_true];rintro e w' ⟨rfl,rfl⟩;go_wp2_with fail;refine(qey _ _).mono ?_;rintro e w2 ⟨rfl,hg⟩;have hg0:=qac (AJ w _ none) hg;have kA:=hg.cell (a:=⟨w.heap.size,0,none⟩) (v:=.func (.func 146) #[] #[]) (by simp) (by simp);have kB:=hg0.cell c0 (by simp);have ha2:=ha.new hg0;clear c0;clear hg;go_wp2_with fail
     go_region_law (go_simp;go_at_call 146;refine(qra _ a _ (by exact ha2)).mono ?_;rintro e w3 ⟨v3,rfl,ho,hg⟩;obtain⟨A',n',c',rfl⟩:=ho.ri.val;have k0:=hg.cell (by exact kB) (by simp);have k2:=hg.cell (by exact kA) (by simp))
     all_goals
      go_wp2_with fail
      go_ret2
      exact⟨_,rfl,ho.low hg0.size,qac (qay hg0) hg⟩
   . go_enter func58,ntmps58;go_wp2_with fail;refine(qcz _ _).mono ?_;simp only[work,if_true];rintro e w' ⟨rfl,rfl⟩;go_wp2_with fail;refine(qey _ _).mono ?_;rintro e w2 ⟨rfl,hg⟩;have hg0:=qac (AJ w _ none) hg;have kA:=hg.cell (a:=⟨w.heap.size,0,none⟩) (v:=.func (.func 147) #[] #[]) (by simp) (by simp);have kB:=hg0.cell c0 (by simp);have ha2:=ha.new hg0;clear c0;clear hg;go_wp2_with fail
     go_region_law (go_simp;go_at_call 147;refine(qrb _ a _ (by exact ha2)).mono ?_;rintro e w3 ⟨v3,rfl,ho,hg⟩;obtain⟨A',n',c',rfl⟩:=ho.ri.val;have k0:=hg.cell (by exact kB) (by simp);have k2:=hg.cell (by exact kA) (by simp))
     all_goals
      go_wp2_with fail
      go_ret2
      exact⟨_,rfl,ho.low hg0.size,qac (qay hg0) hg⟩
   . go_enter func58,ntmps58;go_wp2_with fail;refine(qcz _ _).mono ?_;simp only[work,if_true];rintro e w' ⟨rfl,rfl⟩;go_wp2_with fail;refine(qey _ _).mono ?_;rintro e w2 ⟨rfl,hg⟩;have hg0:=qac (AJ w _ none) hg;have kA:=hg.cell (a:=⟨w.heap.size,0,none⟩) (v:=.func (.func 148) #[] #[]) (by simp) (by simp);have kB:=hg0.cell c0 (by simp);have ha2:=ha.new hg0;clear c0;clear hg;go_wp2_with fail
     go_region_law (go_simp;go_at_call 148;refine(qrc _ a _ (by exact ha2)).mono ?_;rintro e w3 ⟨v3,rfl,ho,hg⟩;obtain⟨A',n',c',rfl⟩:=ho.ri.val;have k0:=hg.cell (by exact kB) (by simp);have k2:=hg.cell (by exact kA) (by simp))
     all_goals
      go_wp2_with fail
      go_ret2
      exact⟨_,rfl,ho.low hg0.size,qac (qay hg0) hg⟩
 . have Hr:Hid (qdx k ll=none):=by
    refine qh5 (.inr ?_);rw[<-hn];rcases hk with rfl|rfl|rfl
    . show (1:Int)≠_;omega
    . show (1:Int)≠_;omega
    . show (1:Int)≠_;omega
   have hne:((n:Int)==1)=false:=by simp;omega
   clear hn;rcases hk with rfl|rfl|rfl
   all_goals
    go_enter func58,ntmps58;go_wp2_with fail;refine(qcz _ _).mono ?_;simp only[work,if_true];rintro e w' ⟨rfl,rfl⟩;go_wp2_with fail;refine(qey _ _).mono ?_;rintro e w2 ⟨rfl,hg⟩;go_wp2_with fail
    go_ret2
    exact⟨_,by rw[Hr.out];rfl,by rw[Hr.out];exact qf.nil _ _,qac (AJ w _ none) hg⟩
theorem qo9(k:Int)(v:At)(ll:List (List Int))(w:Am)(h:RL w v ll)(hk:k=1∨k=2):Ap prog 58 #[.int .i64 k,v] w (qfw w (qdx k ll)):=by
 obtain⟨A,n,c,rfl,hc,hn,hn2⟩:=h.form';by_cases h1:n=2
 . subst h1
   obtain⟨a,b,rfl⟩:∃a b,ll=[a,b]:=by
    match ll,hn with
    |[a,b],_=>exact⟨a,b,rfl⟩
   clear hn;obtain⟨g,o,l,B,m,e,hA,hl,c0,ha,hm,hme,hmx⟩:=h.at_ (k:=0) (by omega);obtain⟨g',o',l',B',m',e',hA',hl',c1,hb,hm',qgX,qgY⟩:=h.at_ (k:=1) (by omega);rw[hA]at hA';injection hA' with hA';injection hA' with e1 e2 e3;subst hA e1 e2;clear e3;simp only[Bb,Bq,BK]at hl hl';subst hl hl';clear hm hm';have c0:w.cell? ⟨g,o,none⟩=some (.slice B m e):=c0;rcases hk with rfl|rfl
   . go_enter func58,ntmps58;go_wp2_with fail;refine(qcz _ _).mono ?_;simp only[work,if_true];rintro e w' ⟨rfl,rfl⟩;go_wp2_with fail;refine(qf3 _ _).mono ?_;rintro e w2 ⟨rfl,hg⟩;have hg0:=qac (AJ w _ none) hg;have kA:=hg.cell (a:=⟨w.heap.size,0,none⟩) (v:=.func (.func 144) #[] #[]) (by simp) (by simp);have kB:=hg0.cell c0 (by simp);have kC:=hg0.cell c1 (by simp);have ha2:=ha.new hg0;have hb2:=hb.new hg0;clear c1;clear c0;clear hg;go_wp2_with fail
     go_region_law (go_simp;go_at_call 144;refine(qsx _ _ a b _ (by exact ha2) (by exact hb2)).mono ?_;rintro e w3 ⟨v3,rfl,ho,hg⟩;obtain⟨A',n',c',rfl⟩:=ho.ri.val;have k0:=hg.cell (by exact kB) (by simp);have k1:=hg.cell (by exact kC) (by simp);have k2:=hg.cell (by exact kA) (by simp))
     all_goals
      go_wp2_with fail
      go_ret2
      exact⟨_,rfl,ho.low hg0.size,qac (qay hg0) hg⟩
   . go_enter func58,ntmps58;go_wp2_with fail;refine(qcz _ _).mono ?_;simp only[work,if_true];rintro e w' ⟨rfl,rfl⟩;go_wp2_with fail;refine(qf3 _ _).mono ?_;rintro e w2 ⟨rfl,hg⟩;have hg0:=qac (AJ w _ none) hg;have kA:=hg.cell (a:=⟨w.heap.size,0,none⟩) (v:=.func (.func 145) #[] #[]) (by simp) (by simp);have kB:=hg0.cell c0 (by simp);have kC:=hg0.cell c1 (by simp);have ha2:=ha.new hg0;have hb2:=hb.new hg0;clear c1;clear c0;clear hg;go_wp2_with fail
     go_region_law (go_simp;go_at_call 145;refine(qo6 _ _ a b _ (by exact ha2) (by exact hb2)).mono ?_;rintro e w3 ⟨v3,rfl,ho,hg⟩;obtain⟨A',n',c',rfl⟩:=ho.ri.val;have k0:=hg.cell (by exact kB) (by simp);have k1:=hg.cell (by exact kC) (by simp);have k2:=hg.cell (by exact kA) (by simp))
     all_goals
      go_wp2_with fail
      go_ret2
      exact⟨_,rfl,ho.low hg0.size,qac (qay hg0) hg⟩
 . have Hr:Hid (qdx k ll=none):=by
    refine qh5 (.inr ?_);rw[<-hn];rcases hk with rfl|rfl
    . show (2:Int)≠_;omega
    . show (2:Int)≠_;omega
   have hne:((n:Int)==2)=false:=by simp;omega
   clear hn;rcases hk with rfl|rfl
   all_goals
    go_enter func58,ntmps58;go_wp2_with fail;refine(qcz _ _).mono ?_;simp only[work,if_true];rintro e w' ⟨rfl,rfl⟩;go_wp2_with fail;refine(qf3 _ _).mono ?_;rintro e w2 ⟨rfl,hg⟩;go_wp2_with fail
    go_ret2
    exact⟨_,by rw[Hr.out];rfl,by rw[Hr.out];exact qf.nil _ _,qac (AJ w _ none) hg⟩
theorem qri(k:Int)(v:At)(ll:List (List Int))(w:Am)(h:RL w v ll):Ap prog 58 #[.int .i64 k,v] w (qfw w (qdx k ll)):=by
 rcases (show (k<0∨5<k∨k=0)∨(k=1∨k=2)∨(k=3∨k=4∨k=5) by omega)with hk|hk|hk
 . exact qrh k v ll w h hk
 . exact qo9 k v ll w h hk
 . exact qo8 k v ll w h hk
end
section
open Go.RowKit
end
section
open Go.RowKit
theorem qkd{Q:Exit->Act->Am->Prop}
   (s x:AF) (t:TypeId) (ht:Tryz.prog.underlying t=some (.slice 3)) (hgd:o.guard=none) (ho:o.op=.call {callee:=.builtin .append,args:=#[s,x],argTypes:=#[t,t]})
   {base:Nat}  {l0:List Int} (hown:qf w base v l0) (hxv:RI w xv l) (hn:l0.length+l.length<=1000000000) (hbase:base<=w.heap.size)
   (hs:a.eval s=v) (hx:a.eval x=xv)
   (h:∀v' w',qf w' base v' (l0++l)->w.grownBy w' v.ownBlock->wpList prog ops Q rest (a.put o.dst v') w') :
   wpList prog ops Q (o::rest) a w:=by
 obtain⟨i,hi,hz0,hz1,hz2⟩:=Az qiq;obtain⟨A,c,e,hc,hcm,hcn⟩:=TS.form hxv;subst e
 match A,hcn with
 |none,hcn=>
  obtain rfl:=hcn rfl;have hl0:l=[]:=AU (by omega);subst hl0;refine wpList_append_own_none hgd s x t ho base 3 i 1 ht hi v _ _ hs hown hx ?_;rw[Be]at h;exact h _ _ hown (qag _ _)
 |some ad,hcn=>
  refine AE _ hgd s x t ho base 3 i _ 1 8 ht hi hz0 hz1 hz2 rfl (by decide) v _ _ hs hown ad l.length c (l.map (.int .i64)) hx (by rw[B9,BH]) ?_ (qgy l) ?_ ?_ hbase ?_
  . intro j u hj;have hjl:=(AP.1 hj).1;rw[B9]at hjl;obtain⟨g,o',cur,e,_,hcell⟩:=TS.at_ hxv (by omega);have e2:ad=⟨g,o',none⟩:=BL e;rw[e2,Addr.add_lit];exact hcell j u hj
  . unfold maxLen;omega
  . omega
  . intro v' w' h1 h2 _;refine h v' w' ?_ h2;unfold qf;simpa using h1
end
section
open Go.RowKit
def qhH(w:Am)(cs rd:List Int)(e:AB)(w':Am):Prop:=∃v u,e=.returned (.tuple #[v,u])/\qf w' w.heap.size v cs/\qf w' w.heap.size u rd/\w.grownBy w' none
structure xC(w0 wr:Am)(g n c b2:Nat)(cs:List Int)(u:At)(rd:List Int):Prop where
 o:qf wr w0.heap.size (.slice (some ⟨g,0,none⟩) n c) cs
 r:qf wr b2 u rd
 gl:g<b2
 lo:w0.heap.size<=b2
 hi:b2<=wr.heap.size
 g:w0.grownBy wr none
theorem xC.qC{wr:Am}{c:Nat}{rd:List Int}(h:xC w0 wr g n c b2 cs u rd)(hn:n=cs.length)(_hk:k<n):xC w0 (wr.setCell ⟨g,k,none⟩ (.int .i64 x)) g n c b2 (cs.set k x) u rd:=by
 have hst:wr.grownBy (wr.setCell ⟨g,k,none⟩ (.int .i64 x)) (some g):=qa3 (p:=⟨g,k,none⟩) (qag wr _) (.inr rfl) _;have hb:w0.heap.size<=g:=(h.o.lt g rfl).1;refine⟨h.o.qC hn k x,h.r.qQ hst ?_,h.gl,h.lo,BG h.hi hst.size,qa2 h.g hst (λg' e=>by cases e;exact .inl hb)⟩;by_cases e:u.ownBlock=some g
 . have:=(h.r.lt g e).1;have:=h.gl;omega
 . exact .inr e
theorem xC.push{wr w2:Am}{c:Nat}{u':At}{rd rd':List Int}(h:xC w0 wr g n c b2 cs u rd)(hr:qf w2 b2 u' rd')(hg:wr.grownBy w2 u.ownBlock):xC w0 w2 g n c b2 cs u' rd':=by
 refine⟨h.o.qQ hg (.inr ?_),hr,h.gl,h.lo,BG h.hi hg.size,h.r.gb h.g hg h.lo⟩;intro e;have:=(h.r.lt g e.symm).1;have:=h.gl;omega
theorem qru(v v':At)(qa:List Node)(cs:List Int)(x:Int)(w:Am)(h:RN w v qa)(h':RI w v' cs)(hv:qae qa=true)(hcl:cs.length=qa.length)(hcs:∀y∈cs,-1000<=y/\y<=1000) :
   Ap prog 166 #[v,v',.int .i64 x] w (qhH w (qbh qa cs x) (qbj qa cs x)):=by
 obtain⟨A,n,c,rfl,hnc,hn,-⟩:=h.form';obtain⟨B,m,c',rfl,hmc,hm⟩:=h'.form';have jF:=qam hv;have zF:n<=10:=by omega
 obtain rfl:m=n:=by omega
 have Hn:=Lib.hid hn;have Hm:=Lib.hid hm;have Hv:=Lib.hid hv;have Hcs:=Lib.hid hcs;have hE:qf (w.alloc (.cells #[] 3)) w.heap.size (.slice (some ⟨w.heap.size,0,none⟩) 0 0) []:=qf.empty w (BC _);have hgE:=AJ w (.cells #[] 3) none;have hoE:=h'.new hgE;have hlen:([]:List Int).length+cs.length<=1000000000:=by simp only[AX];omega
 clear hn hm hv hcs jF hcl;go_enter func166,ntmps166;go_wp2_with (at_builtin;go_must (refine qkd _ _ 24 underlying24 rfl rfl hE hoE hlen hgE.size rfl rfl ?_));intro v4 w4 qv hg4;have hg5:=hE.gb hgE hg4 (BC _);by_cases h0:m=0
 . subst h0;have hnil:cs=[]:=AU Hm.out.symm;have hpn:qa.length=0:=Hn.out.symm;have ht:Hid (qbh qa cs x=cs):=by show _=_;rw[hnil];rfl
   have hr:Hid (qbj qa cs x=[]):=by show _=_;unfold qbj;rw[hpn];rfl
   obtain⟨A4,n4,c4,rfl⟩:=qv.ri.val;have hR0:qf (w4.alloc (.cells #[] 3)) w4.heap.size (.slice (some ⟨w4.heap.size,0,none⟩) 0 0) []:=qf.empty w4 (BC _);have ho4:=qv.alloc (.cells #[] 3);have hg6:=qaq hg5 (.cells #[] 3);have hb4:=hg5.size;clear hnil hpn;go_wp2_with fail
   go_loopg [9,10] 1 (λmm rd i wr=>mm=1/\i=.int .i64 (0:Nat)/\rd=.slice (some ⟨w4.heap.size,0,none⟩) 0 0/\wr=w4.alloc (.cells #[] 3))
   case atStart=>exact⟨rfl,rfl,rfl,rfl⟩
   case round=>
    obtain⟨rfl,rfl,rfl,rfl⟩:=hrel;go_wp2_with fail
    go_ret2
    exact⟨_,_,rfl,by rw[ht.out];exact ho4,by rw[hr.out];exact hR0.low hb4,hg6⟩
 . obtain⟨g,cap,cur,rfl,-,-,hB,-⟩:=qv.form (by rw[<-Hm.out];omega);have e:cs.length=m:=Hm.out.symm;rw[e]at qv;have hR0:qf (w4.alloc (.cells #[] 3)) w4.heap.size (.slice (some ⟨w4.heap.size,0,none⟩) 0 0) []:=qf.empty w4 (BC _)
   have M0:xC w (w4.alloc (.cells #[] 3)) g m cap w4.heap.size (qff qa cs x 0) (.slice (some ⟨w4.heap.size,0,none⟩) 0 0) (qcn qa cs x 0):=by
    rw[qyt];exact⟨qv.alloc _,hR0,hB.lt,hg5.size,(AJ w4 _ none).size,qaq hg5 _⟩
   have hb4:=hg5.size;rw[e];go_wp2_with fail
   go_loopg [9,10] (m+1) (λmm rd i wr=>∃k:Nat,k<=m/\mm=m+1-k/\i=.int .i64 k/\xC w wr g m cap w4.heap.size (qff qa cs x k) rd (qcn qa cs x k))
   case atStart=>exact⟨0,BE _,rfl,rfl,M0⟩
   case round=>
    clear M0;obtain⟨k,hk,rfl,rfl,M⟩:=hrel;by_cases hlt:k<m
    . obtain⟨g2,o2,nd,f,r,rfl,hx,c0,c1,c2,hf,-⟩:=(h.new M.g).at_ hlt;obtain⟨Af,nf,cf,rfl⟩:=hf.val;have hfr:=qdh hx;have hkc:k<cs.length:=by rw[<-Hm.out];exact hlt
      have hy:cs[k]?=some cs[k]:=AV hkc;have hyb:=Hcs.out cs[k] (BA hkc);have hyd:cs.getD k 0=cs[k]:=by rw[Ba,hy];rfl
      have hty:(qff qa cs x k)[k]?=some cs[k]:=by rw[qgb hy];simp
      generalize cs[k]=y at hy hyb hyd hty;obtain⟨d0,f0,-,-⟩:=M.o.cell hty;have htl:m=(qff qa cs x k).length:=by rw[qga];exact Hm.out
      clear hx c0 c2 hkc;by_cases hh:x∈nd.frm
      . have Hh:Hid (decide (x∈nd.frm)=true):=decide_eq_true hh;have hhas:has qa k x=true:=by unfold has;rw[hfr];exact decide_eq_true hh
        have M2:=M.qC (x:=y-1) htl hlt;rw[<-qyu hy hhas]at M2;have hnr:=qiw qa cs x k;rw[hhas,hyd]at hnr;by_cases h1:y=1
        . have hq:(y-1==0)=true:=by rw[h1];rfl
          have Hnr:Hid (qcn qa cs x (k+1)=qcn qa cs x k++[(k:Int)]):=by show _=_;rw[hnr,h1];rfl
          have hrl:(qcn qa cs x k).length<=1000000000:=by
           have:=List.length_filter_le (λi=>has qa i x&&decide (cs.getD i 0=1)) (Bc k);unfold qcn;rw[B9];rw[Bm]at this;omega
          have hb2:=M2.hi;clear hh hhas hnr h1 hfr hty htl hyd hy;go_wp2_with fail;refine(qdq _ _ _ _ hf Hh.out).mono ?_;rintro e' w' ⟨rfl,rfl⟩;go_wp2_with (at_builtin;go_must (refine qex (.tmp 41) (.tmp 43) rfl rfl M2.r hrl hb2 rfl rfl (by simp[World.setCell]) ?_));intro v6 w6 jS hg6;rw[<-Hnr.out]at jS;have M3:=M2.push jS hg6;obtain⟨A6,n6,c6,rfl⟩:=jS.ri.val;go_wp2;go_roundg (m+1-(k+1))
          case measure=>omega
          case rel=>exact⟨k+1,by omega,rfl,by go_num,M3⟩
        . have hq:(y-1==0)=false:=by simp;omega
          have Hnr:Hid (qcn qa cs x (k+1)=qcn qa cs x k):=by show _=_;rw[hnr];simp[h1]
          rw[<-Hnr.out]at M2;clear hh hhas hnr h1 hfr hty htl hyd hy;go_wp2_with fail;refine(qdq _ _ _ _ hf Hh.out).mono ?_;rintro e' w' ⟨rfl,rfl⟩;go_wp2;go_roundg (m+1-(k+1))
          case measure=>omega
          case rel=>exact⟨k+1,by omega,rfl,by go_num,M2⟩
      . have Hh:Hid (decide (x∈nd.frm)=false):=decide_eq_false hh;have hhas:has qa k x=false:=by unfold has;rw[hfr];exact decide_eq_false hh
        have Hnr:Hid (qcn qa cs x (k+1)=qcn qa cs x k):=by show _=_;rw[qiw,hhas];simp
        rw[<-qyv hhas,<-Hnr.out]at M;clear hh hhas hfr hty htl hyd hy d0 f0;go_wp2_with fail;refine(qdq _ _ _ _ hf Hh.out).mono ?_;rintro e' w' ⟨rfl,rfl⟩;go_wp2;go_roundg (m+1-(k+1))
        case measure=>omega
        case rel=>exact⟨k+1,by omega,rfl,by go_num,M⟩
    . obtain rfl:k=m:=by omega
      have e1:qff qa cs x k=qbh qa cs x:=q17 x (by rw[<-Hm.out];exact BC _);have e2:qcn qa cs x k=qbj qa cs x:=by rw[Hn.out];rfl
      rw[e1,e2]at M;obtain⟨A6,n6,c6,rfl⟩:=M.r.ri.val;clear e1 e2;go_wp2_with fail
      go_ret2
      exact⟨_,_,rfl,M.o,M.r.low M.lo,M.g⟩
theorem qs1(hx:d[k]?=some x)(h:¬(0<=x/\x<=9)):qa5 d=false:=by
 rcases Ab (qa5 d)with e|e
 . exact absurd ((qby.1 e).2.1 x (AT hx)) h
 . exact e
theorem qpc(hx:d[k]?=some x)(h:x∈d.take k):qa5 d=false:=by
 rcases Ab (qa5 d)with e|e
 . exfalso;have hn:=(qby.1 e).2.2;obtain⟨hk,rfl⟩:=AP.1 hx;have h2:=hn.sublist (List.take_sublist (k+1) d);rw[AO hk,Bv]at h2;exact h2.2.2 _ h _ (by simp) rfl
 . exact e
def xd(d:List Int)(k:Nat):Prop:=(∀x∈d.take k,0<=x/\x<=9)/\(d.take k).Nodup
theorem q6e(d:List Int):xd d 0:=by unfold xd;simp
theorem q6f(h:xd d k)(hx:d[k]?=some x)(hr:0<=x/\x<=9)(hn:x∉d.take k):xd d (k+1):=by
 obtain⟨hk,rfl⟩:=AP.1 hx;unfold xd at h |-;rw[AO hk];refine⟨λy hy=>?_,?_⟩
 . rcases List.mem_append.1 hy with hy|hy
   . exact h.1 y hy
   . obtain rfl:y=d[k]:=by simpa using hy
     exact hr
 . rw[Bv];refine⟨h.2,by simp,λa ha b hb e=>?_⟩;obtain rfl:b=d[k]:=by simpa using hb
   exact hn (e▸ha)
theorem q8j(h:xd d k)(hk:d.length<=k):qa5 d=decide (d.length<=10):=by
 unfold xd at h;rw[AQ hk]at h;rw[Ai,qby,decide_eq_true_eq];exact⟨λe=>e.1,λe=>⟨e,h.1,h.2⟩⟩
theorem qc7(v:At)(d:List Int)(w:Am)(h:RI w v d)(hb:qa5 d=b) :
   Ap prog 164 #[v] w λe w'=>e=.returned (.bool b)/\w.grownBy w' none:=by
 obtain⟨A,n,c,rfl,hnc,hn⟩:=h.form';have hle:=h.le;rw[<-hn]at hle;have Hn:=Lib.hid hn;have Hb:=Lib.hid hb;clear hn hb;go_enter func164,ntmps164;go_wp2_with fail
 go_loopg [3] (n+1) (λmm i wr=>∃k:Nat,k<=n/\mm=n+1-k/\i=.int .i64 k/\Hid (xd d k)/\w.grownBy wr none)
 case atStart=>exact⟨0,BE _,rfl,rfl,q6e d,qag _ _⟩
 case round=>
  obtain⟨k,hk,rfl,rfl,Hk,hg⟩:=hrel;by_cases hlt:k<n
  . obtain⟨g,o,x,rfl,hx,c0⟩:=(h.new hg).at_ hlt;have Hx:=Lib.hid hx;have ht:=(h.new hg).take (k:=k) (by omega);have hkc:k<=c:=by omega
    clear hx;by_cases hin:0<=x/\x<=9
    . have Hin:Hid ((decide (0<=x)&&decide (x<=9))=true):=by show _=_;simp[hin.1,hin.2]
      by_cases hD:x∈d.take k
      . have HD:Hid (decide (x∈d.take k)=true):=decide_eq_true hD
        have Hr:Hid (b=false):=by
         show _=_;rw[<-Hb.out];exact qpc Hx.out hD
        clear hD Hk hin;go_wp2_with fail
        go_quiet ((first
         |(go_at_call 74;exact qcr (qdi _ _ _ _ Hin.out))
         |(go_at_call 123;exact qcr (qdq _ _ _ _ (by exact ht) HD.out))))
        go_wp2;go_ret;exact⟨by rw[Hr.out];rfl,qca hg _⟩
      . have HD:Hid (decide (x∈d.take k)=false):=decide_eq_false hD;have Hs:Hid (xd d (k+1)):=q6f Hk.out Hx.out hin hD;clear hD Hk hin;go_wp2_with fail
        go_quiet ((first
         |(go_at_call 74;exact qcr (qdi _ _ _ _ Hin.out))
         |(go_at_call 123;exact qcr (qdq _ _ _ _ (by exact ht) HD.out))))
        go_wp2;go_roundg (n+1-(k+1))
        case measure=>omega
        case rel=>exact⟨k+1,by omega,rfl,by go_num,Hs,qca hg _⟩
    . have Hin:Hid ((decide (0<=x) && decide (x<=9))=false):=by
       show _=_;rw[Bool.and_eq_false_iff,decide_eq_false_iff_not,decide_eq_false_iff_not];omega
      have Hr:Hid (b=false):=by
       show _=_;rw[<-Hb.out];exact qs1 Hx.out hin
      clear hin Hk;go_wp2_with fail
      go_quiet ((first
       |(go_at_call 74;exact qcr (qdi _ _ _ _ Hin.out))))
      go_wp2;go_ret;exact⟨by rw[Hr.out];rfl,qca hg _⟩
  . obtain rfl:k=n:=by omega
    have Hr:Hid (b=decide ((k:Int)<=10)):=by
     show _=_;rw[<-Hb.out,q8j Hk.out (by rw[<-Hn.out];exact BC _),<-Hn.out,decide_eq_decide];omega
    clear Hk;go_wp2;go_ret;exact⟨by rw[Hr.out];rfl,hg⟩
def q1o(w:Am)(r:Option (List Int×Int))(e:AB)(w':Am):Prop:=match r with
 |some (l,x)=>∃v,e=.returned (.tuple #[v,.int .i64 x,.bool true])/\qf w' w.heap.size v l/\w.grownBy w' none
 |none=>∃v y,e=.returned (.tuple #[v,.int .i64 y,.bool false])/\RI w' v []/\w.grownBy w' none
def qcx(d:List Int):Option (List Int×Int):=if qa5 d then d.getLast?.map λx=>(d.dropLast,x)else none
def qbi(d:List Int):Option (List Int×Int):=if qa5 d then d.head?.map λx=>(d.drop 1,x)else none
theorem qop(h:qa5 d=false):qcx d=none:=by unfold qcx;rw[h];rfl
theorem qoq:qcx []=none:=by unfold qcx;simp
theorem qmo(h:qa5 d=true)(hl:0<d.length):qcx d=some (d.take (d.length-1),d.getD (d.length-1) 0):=by
 unfold qcx;rw[h,if_pos rfl,List.getLast?_eq_getElem?,AV (by omega),Ba,AV (by omega),List.dropLast_eq_take];rfl
theorem qs2(h:qa5 d=false):qbi d=none:=by unfold qbi;rw[h];rfl
theorem qrv(h:qa5 d=true)(hl:0<d.length):qbi d=some (d.drop 1,d.getD 0 0):=by
 unfold qbi;rw[h,if_pos rfl];cases d with
 |nil=>simp at hl
 |cons x r=>rfl
theorem qpd(v:At)(d:List Int)(w:Am)(h:RI w v d):Ap prog 125 #[v] w (q1o w (qcx d)):=by
 obtain⟨A,n,c,rfl,hnc,hn⟩:=h.form';have hle:=h.le;rw[<-hn]at hle;have Hn:=Lib.hid hn;by_cases hv:qa5 d=true
 . have Hv:=Lib.hid hv;have zF:n<=10:=by rw[hn];exact(qby.1 hv).1
   by_cases h0:n=0
   . have hd:d=[]:=AU (by omega);have hlt:(n:Int)-1<0:=by omega
     have Hr:Hid (qcx d=none):=by show _=_;rw[hd];exact qoq
     clear hv hn hd h0;go_enter func125,ntmps125;go_wp2_with fail;refine(qc7 _ d _ h Hv.out).mono ?_;rintro e w1 ⟨rfl,hg1⟩;go_wp2_with fail;refine As (v:=.tuple #[.slice (some ⟨w1.heap.size,0,none⟩) 0 0,.int .i64 0,.bool false]) (by simp[results,results125,go_sem]) rfl ?_;rw[Hr.out];exact⟨_,0,rfl,(qf.empty w1 (BC _)).ri,qaq hg1 _⟩
   . have Hr:Hid (qcx d=some (d.take (n-1),d.getD (n-1) 0)):=by show _=_;rw[hn];exact qmo hv (by omega)
     have hge:¬((n:Int)-1<0):=by omega
     obtain⟨m,rfl⟩:∃m,n=m+1:=⟨n-1,by omega⟩;rw[BI]at Hr;clear hv hn h0;go_enter func125,ntmps125;go_wp2_with fail;refine(qc7 _ d _ h Hv.out).mono ?_;rintro e w1 ⟨rfl,hg1⟩;have h1:=h.new hg1;obtain⟨g,o,x,rfl,hx,c0⟩:=h1.at_ (k:=m) (by omega);have Hx:Hid (d.getD m 0=x):=by show _=_;rw[Ba,hx];rfl
     have hE:qf (w1.alloc (.cells #[] 3)).drew w1.heap.size (.slice (some ⟨w1.heap.size,0,none⟩) 0 0) []:=qf.empty w1 (BC _);have hgE:w1.grownBy (w1.alloc (.cells #[] 3)).drew none:=qay (AJ w1 _ none);have hrE:RI (w1.alloc (.cells #[] 3)).drew (.slice (some ⟨g,o,none⟩) m c) (d.take m):=(h1.take (k:=m) (by omega)).new hgE;have hlen:([]:List Int).length+(d.take m).length<=1000000000:=by simp only[AX,AS];omega
     have c0A:=qg7 c0 (AJ w1 (.cells #[] 3) none);have hmc:m<=c:=by omega
     have qhI:(m:Int)<(m:Int)+1:=by omega
     have hn1:(((m+1:Nat):Int)-1)=(m:Int):=by omega
     clear hx;go_wp2_with fail
     go_region_law (refine qds (w:=(w1.alloc (.cells #[] 3)).drew) (base:=w1.heap.size) (v:=.slice (some ⟨w1.heap.size,0,none⟩) 0 0) (xv:=.slice (some ⟨g,o,none⟩) m c) (l0:=[]) (l:=d.take m) (.tmp 17) (.tmp 20) rfl rfl hE hrE hlen hgE.size rfl rfl ?_;intro v' w4 qv hg4;have hg5:=hE.gb hgE hg4 (BC _);have c4:=qg7 c0 hg5;obtain⟨A4,n4,c4',rfl⟩:=qv.ri.val)
     all_goals
      go_wp2_with fail;refine As (v:=.tuple #[.slice A4 n4 c4',.int .i64 x,.bool true]) (by simp[results,results125,go_sem]) rfl ?_;rw[Hr.out,Hx.out];exact⟨_,rfl,(by simpa using qv.low hg1.size),qac hg1 hg5⟩
 . have hv':qa5 d=false:=by simpa using hv
   have Hv:=Lib.hid hv';have Hr:=Lib.hid (qop hv');clear hv hv' hn;go_enter func125,ntmps125;go_wp2_with fail;refine(qc7 _ d _ h Hv.out).mono ?_;rintro e w1 ⟨rfl,hg1⟩;go_wp2_with fail;refine As (v:=.tuple #[.slice (some ⟨w1.heap.size,0,none⟩) 0 0,.int .i64 0,.bool false]) (by simp[results,results125,go_sem]) rfl ?_;rw[Hr.out];exact⟨_,0,rfl,(qf.empty w1 (BC _)).ri,qaq hg1 _⟩
theorem RI.tail{o c:Nat}(h:RI w (.slice (some ⟨g,o,none⟩) n c) l)(h1:1<=n):∃ox,(if c=1 then some (⟨g,o,none⟩:Addr)else some ⟨g,o+1,none⟩)=some ⟨g,ox,none⟩/\RI w (.slice (some ⟨g,ox,none⟩) (n-1) (c-1)) (l.drop 1):=by
 obtain⟨h0,A',c'',e,h2,h3,h4,h5⟩:=h;injection e with e1 e2 e3;subst e1 e3;have hl:l.length=n:=e2.symm;by_cases hc1:c=1
 . refine⟨o,by rw[if_pos hc1],by simp,_,c-1,by rw[AZ,hl],by rw[AZ,hl];omega,by omega,by simp,.inl (by rw[AZ];omega)⟩
 . refine⟨o+1,by rw[if_neg hc1],by simp,_,c-1,by rw[AZ,hl],by rw[AZ,hl];omega,by omega,by simp,?_⟩;rcases h5 with h5|⟨g',o',cur,hA',hb,hc⟩
   . omega
   . injection hA' with hA';injection hA' with q1 q2;subst q1 q2;refine .inr ⟨g,o+1,cur,rfl,hb,λj u hu=>?_⟩;rw[List.map_drop,List.getElem?_drop]at hu;have:=hc (1+j) u hu;rw[show o+1+j=o+(1+j) by omega];exact this
theorem qmp(v:At)(d:List Int)(w:Am)(h:RI w v d):Ap prog 128 #[v] w (q1o w (qbi d)):=by
 obtain⟨A,n,c,rfl,hnc,hn⟩:=h.form';have hle:=h.le;rw[<-hn]at hle;have Hn:=Lib.hid hn;by_cases hv:qa5 d=true
 . have Hv:=Lib.hid hv;have zF:n<=10:=by rw[hn];exact(qby.1 hv).1
   by_cases h0:n=0
   . have hd:d=[]:=AU (by omega);have hlt:((n:Int)==0)=true:=by simp[h0]
     have Hr:Hid (qbi d=none):=by show _=_;rw[hd];unfold qbi;simp
     clear hv hn hd h0;go_enter func128,ntmps128;go_wp2_with fail;refine(qc7 _ d _ h Hv.out).mono ?_;rintro e w1 ⟨rfl,hg1⟩;go_wp2_with fail;refine As (v:=.tuple #[.slice (some ⟨w1.heap.size,0,none⟩) 0 0,.int .i64 0,.bool false]) (by simp[results,results128,go_sem]) rfl ?_;rw[Hr.out];exact⟨_,0,rfl,(qf.empty w1 (BC _)).ri,qaq hg1 _⟩
   . have Hr:Hid (qbi d=some (d.drop 1,d.getD 0 0)):=by show _=_;exact qrv hv (by omega)
     have hge:((n:Int)==0)=false:=by simp[h0]
     have hn1:1<=n:=by omega
     clear hv hn h0;go_enter func128,ntmps128;go_wp2_with fail;refine(qc7 _ d _ h Hv.out).mono ?_;rintro e w1 ⟨rfl,hg1⟩;have h1:=h.new hg1;obtain⟨g,o,x,rfl,hx,c0⟩:=h1.at_ (k:=0) (by omega);have Hx:Hid (d.getD 0 0=x):=by show _=_;rw[Ba,hx];rfl
     have hE:qf (w1.alloc (.cells #[] 3)).drew w1.heap.size (.slice (some ⟨w1.heap.size,0,none⟩) 0 0) []:=qf.empty w1 (BC _);have hgE:w1.grownBy (w1.alloc (.cells #[] 3)).drew none:=qay (AJ w1 _ none);have hlen:([]:List Int).length+(d.drop 1).length<=1000000000:=by simp only[AX,AZ];have:=Hn.out;omega
     have hmc:(1:Int)<=(n:Int):=by omega
     have qhI:(0:Int)<(n:Int):=by omega
     have qhJ:0<n:=by omega
     rw[Nat.add_zero]at c0;have qlM:(n:Int)<=(c:Int):=by omega
     obtain⟨ox,hox,hD⟩:=h1.tail hn1;have c0A:=qg7 c0 (AJ w1 (.cells #[] 3) none);have hDE:=hD.new hgE;clear hx;go_wp2_with fail
     go_region_law (refine qds (w:=(w1.alloc (.cells #[] 3)).drew) (base:=w1.heap.size) (v:=.slice (some ⟨w1.heap.size,0,none⟩) 0 0) (xv:=.slice (some ⟨g,ox,none⟩) (n-1) (c-1)) (l0:=[]) (l:=d.drop 1) (.tmp 14) (.tmp 16) rfl rfl hE hDE hlen hgE.size rfl rfl ?_;intro v' w4 qv hg4;have hg5:=hE.gb hgE hg4 (BC _);have c4:=qg7 c0 hg5;obtain⟨A4,n4,c4',rfl⟩:=qv.ri.val)
     all_goals
      go_wp2_with fail;refine As (v:=.tuple #[.slice A4 n4 c4',.int .i64 x,.bool true]) (by simp[results,results128,go_sem]) rfl ?_;rw[Hr.out,Hx.out];exact⟨_,rfl,(by simpa using qv.low hg1.size),qac hg1 hg5⟩
 . have hv':qa5 d=false:=by simpa using hv
   have Hv:=Lib.hid hv';have Hr:=Lib.hid (qs2 hv');clear hv hv' hn;go_enter func128,ntmps128;go_wp2_with fail;refine(qc7 _ d _ h Hv.out).mono ?_;rintro e w1 ⟨rfl,hg1⟩;go_wp2_with fail;refine As (v:=.tuple #[.slice (some ⟨w1.heap.size,0,none⟩) 0 0,.int .i64 0,.bool false]) (by simp[results,results128,go_sem]) rfl ?_;rw[Hr.out];exact⟨_,0,rfl,(qf.empty w1 (BC _)).ri,qaq hg1 _⟩
theorem qx1(h:L[k]?=some d):(L.take (k+1)).flatten=(L.take k).flatten++d:=by
 obtain⟨hk,rfl⟩:=AP.1 h;rw[AO hk,List.flatten_append];simp
theorem q3r{j:Nat}(x:Int)(h:d[j]?=some y):(d.take (j+1)).count x=(d.take j).count x+if y=x then 1 else 0:=by
 obtain⟨hk,rfl⟩:=AP.1 h;rw[AO hk,Bz,List.count_singleton];by_cases e:d[j]=x
 . simp[e]
 . simp[e]
theorem q1p{b:Nat}(h:∀d∈L,d.length<=b):L.flatten.length<=L.length*b:=by
 induction L with
 |nil=>simp
 |cons d L ih=>
  have h1:=h d (by simp);have h2:=ih (λx hx=>h x (by simp[hx]));rw[List.flatten_cons,AW,AY,Nat.add_mul];omega
def qdZ(w:Am)(n:Nat)(e:AB)(w':Am):Prop:=∃z:Int,e=.returned (.tuple #[.int .i64 (n:Nat),.int .i64 z])/\w.grownBy w' none
theorem qx2(v:At)(c:qh)(x:Int)(w:Am)(h:CV w v c)(hb:c.qb.length<=100)(hb2:∀d∈c.qb,d.length<=1048576) :
   Ap prog 161 #[v,.int .i64 x] w (qdZ w (c.qb.flatten.count x)):=by
 obtain⟨A1,n1,c1,A2,n2,c2,A3,n3,c3,A4,n4,c4,rfl,h1,-,-,-⟩:=h.form;have hX:=h.box;have hgW:=AJ w (.cells #[.slice A1 n1 c1,.slice A2 n2 c2,.slice A3 n3 c3,.slice A4 n4 c4] 29) none;have hn:=h1.len;have qhK:n1<=100:=by omega
 have Hn:=Lib.hid hn;have Hb2:=Lib.hid hb2;clear hn hb hb2 h1 h;go_enter func161,ntmps161;go_wp2_with fail
 go_loopg [6,7,8] (n1+1) (λmm m wk i wr=>∃(k:Nat) (z:Int),k<=n1/\mm=n1+1-k/\i=.int .i64 k/\m=.int .i64 ((c.qb.take k).flatten.count x:Nat)/\wk=.int .i64 z/\jw wr w.heap.size (.slice A1 n1 c1) (.slice A2 n2 c2) (.slice A3 n3 c3) (.slice A4 n4 c4) c/\w.grownBy wr none)
 case atStart=>exact⟨0,-1,BE _,rfl,rfl,rfl,rfl,hX,hgW⟩
 case round=>
  clear hX hgW;obtain⟨k,z,hk,rfl,rfl,rfl,rfl,hX,hg⟩:=hrel;have d0:=hX.d0;by_cases hlt:k<n1
  . obtain⟨g,o,d,B,m,e,rfl,hx,c0,hd,hm,-,-⟩:=hX.dq.at_ hlt;have hdl:=Hb2.out d (AT hx)
    have hfl:((c.qb.take k).flatten.count x)<=104857600:=by
     refine BG Bu (BG (q1p (b:=1048576) (λy hy=>Hb2.out y (Bs hy))) ?_);have:(c.qb.take k).length<=100:=by rw[AS];omega
     calc (c.qb.take k).length*1048576<=100*1048576:=Nat.mul_le_mul_right _ this
      _<=104857600:=by omega
    have Hf:Hid ((c.qb.take (k+1)).flatten.count x=(c.qb.take k).flatten.count x+d.count x):=by
     show _=_;rw[qx1 hx,Bz]
    have Hm:=Lib.hid hm;have hml:m<=1048576:=by omega
    generalize (c.qb.take k).flatten.count x=q at hfl Hf |-;clear hx hm hdl;go_wp2_with fail
    go_loopg [6,7,9] (m+1) (λmm mq wk i wq=>∃(j:Nat) (z:Int),j<=m/\mm=m+1-j/\i=.int .i64 j/\mq=.int .i64 ((q+(d.take j).count x:Nat):Int)/\wk=.int .i64 z/\wq=wr)
    case atStart=>exact⟨0,z,BE _,rfl,rfl,by simp,rfl,rfl⟩
    case round=>
     obtain⟨j,z2,hj,rfl,rfl,rfl,rfl,rfl⟩:=hrel;by_cases hlj:j<m
     . obtain⟨g2,o2,y,rfl,hy,e0⟩:=hd.at_ hlj;have hct:=q3r x hy;have hcl:(d.take j).count x<=1048576:=BG Bu (by rw[AS];omega);clear hy;by_cases hyx:y=x
       . have hq:(y==x)=true:=by simpa using hyx
         rw[if_pos hyx]at hct;have Hct:=Lib.hid hct;clear hyx hct;go_wp2;go_roundg (m+1-(j+1))
         case measure=>omega
         case rel=>exact⟨j+1,k,by omega,rfl,by go_num,by rw[Hct.out];go_num,rfl,rfl⟩
       . have hq:(y==x)=false:=by simpa using hyx
         rw[if_neg hyx]at hct;have Hct:=Lib.hid hct;clear hyx hct;go_wp2;go_roundg (m+1-(j+1))
         case measure=>omega
         case rel=>exact⟨j+1,z2,by omega,rfl,by go_num,by rw[Hct.out];go_num,rfl,rfl⟩
     . obtain rfl:j=m:=by omega
       have Hd:Hid ((d.take j).count x=d.count x):=by
        show _=_;rw[AQ (by rw[<-Hm.out];exact BC _)]
       go_wp2;go_roundg (n1+1-(k+1))
       case measure=>omega
       case rel=>exact⟨k+1,z2,by omega,rfl,by go_num,by rw[Hf.out,Hd.out],rfl,hX,hg⟩
  . obtain rfl:k=n1:=by omega
    have Hr:Hid ((c.qb.take k).flatten.count x=c.qb.flatten.count x):=by
     show _=_;rw[AQ (by rw[<-Hn.out];exact BC _)]
    go_wp2_with fail
    go_ret2
    exact⟨z,by rw[Hr.out];rfl,hg⟩
theorem qpe{D:List Int}(h:D[k]?=some x):qa9 qa (D.take (k+1))=qbh qa (qa9 qa (D.take k)) x:=by
 obtain⟨hk,rfl⟩:=AP.1 h;unfold qa9;rw[AO hk,By];rfl
theorem qrw(qa:List Node)(D:List Int):(qa9 qa D).length=qa.length:=by
 unfold qa9
 have:∀(D:List Int) (cs:List Int),cs.length=qa.length->(D.foldl (qbh qa) cs).length=qa.length:=by
  intro D
  induction D with
  |nil=>intro cs h;exact h
  |cons x D ih=>intro cs h;exact ih _ (by rw[qha];exact h)
 exact this D _ (by unfold qa7;rw[B9,Bm])
theorem q1q(hv:qae qa=true)(D:List Int):∀y∈lefts qa D,-1000<=y/\y<=1000:=by
 intro y hy;unfold lefts at hy;obtain⟨i,hi,rfl⟩:=List.mem_map.1 hy;have hi:=List.mem_range.1 hi;have h1:=q4j qa D i
 have h2:(qb0 qa i).length<=2:=by
  rw[qge];refine BG (qp5 _) ?_;rw[qdh (AV hi)];exact(qbf hv (AV hi)).2.1
 omega
theorem qk1(pv v:At)(qa:List Node)(c:qh)(w:Am)(hp:RN w pv qa)(h:CV w v c)(hv:qae qa=true)(ho:qbu qa c.done=true)(hb:decide (c.counts=qa9 qa c.done)=b) :
   Ap prog 159 #[pv,v] w λe w'=>e=.returned (.bool b)/\w.grownBy w' none:=by
 obtain⟨A,n,cp,rfl,-,-,-⟩:=hp.form';obtain⟨A1,n1,c1,A2,n2,c2,A3,n3,c3,A4,n4,c4,rfl,-,h2,h3,-⟩:=h.form;have hX:=h.box;have hgW:=AJ w (.cells #[.slice A1 n1 c1,.slice A2 n2 c2,.slice A3 n3 c3,.slice A4 n4 c4] 29) none;have hpW:=hp.new hgW;have hn:=h3.len;have hnb:n3<=9223372036854775807:=by have:=h3.le;omega
 have Hn:=Lib.hid hn;have Hv:=Lib.hid hv;have Ho:=Lib.hid ho;have Hb:=Lib.hid hb;clear hn hb hv ho h2 h3 h hp;go_enter func159,ntmps159;go_wp2_with fail;refine(qmn _ qa _ hpW Hv.out).mono ?_;rintro e w1 ⟨v1,rfl,hown1,hg1⟩;have hX1:=hX.new hg1;have hp1:=hpW.new hg1;have hg:=qac hgW hg1;have hc0:RI w1 v1 (qa9 qa (c.done.take 0)):=hown1.ri;obtain⟨A5,n5,c5,rfl⟩:=hc0.val;clear hown1 hg1;go_wp2_with fail
 go_loopg [5,6] (n3+1) (λmm cv i wr=>∃k:Nat,k<=n3/\mm=n3+1-k/\i=.int .i64 k/\RI wr cv (qa9 qa (c.done.take k))/\w1.grownBy wr none)
 case atStart=>exact⟨0,BE _,rfl,rfl,hc0,qag _ _⟩
 case round=>
  clear hc0;obtain⟨k,hk,rfl,rfl,hcv,hgk⟩:=hrel;have hXk:=hX1.new hgk;have d2:=hXk.d2;have d1:=hXk.d1;by_cases hlt:k<n3
  . obtain⟨g,o,y,rfl,hy,c0⟩:=hXk.dn.at_ hlt;have qeA:qa9 qa (c.done.take k)=lefts qa (c.done.take k):=qnu Hv.out Ho.out k (by rw[<-Hn.out];omega);have Hs:Hid (qa9 qa (c.done.take (k+1))=qbh qa (qa9 qa (c.done.take k)) y):=qpe hy;have Hin:Hid (∀y∈qa9 qa (c.done.take k),-1000<=y/\y<=1000):=by rw[qeA];exact q1q Hv.out _
    clear hy qeA;go_wp2_with fail;refine(qru _ _ qa _ y _ (hp1.new hgk) hcv Hv.out (qrw _ _) Hin.out).mono ?_;rintro e w2 ⟨v2,u2,rfl,hc2,hr2,hg2⟩;rw[<-Hs.out]at hc2;have hg3:=qac hgk hg2;have hc3:=hc2.ri;obtain⟨A6,n6,c6,rfl⟩:=hc3.val;obtain⟨A7,n7,c7,rfl⟩:=hr2.ri.val;clear hc2 hr2;go_wp2;go_roundg (n3+1-(k+1))
    case measure=>omega
    case rel=>exact⟨k+1,by omega,rfl,by go_num,hc3,hg3⟩
  . obtain rfl:k=n3:=by omega
    have Hr:Hid (decide (qa9 qa (c.done.take k)=c.counts)=b):=by
     show _=_;rw[<-Hb.out,AQ (by rw[<-Hn.out];exact BC _),decide_eq_decide];exact eq_comm
    obtain⟨A6,n6,c6,rfl⟩:=hcv.val;have h2k:=hXk.ct;go_wp2_with fail;refine(qjm _ _ _ _ _ hcv h2k Hr.out).mono ?_;rintro e w2 ⟨rfl,hg2⟩;go_wp2;go_ret;exact⟨rfl,qac (qac hg hgk) hg2⟩
def q56(w:Am)(ll:List (List Int))(e:AB)(w':Am):Prop:=∃v',e=.returned v'/\jf w' w.heap.size v' ll/\w.grownBy w' none
theorem qmg(v:At)(ll:List (List Int))(w:Am)(h:RL w v ll)(hl:ll.length<=1000)(hll:∀l∈ll,l.length<=1000):Ap prog 182 #[v] w (q56 w ll):=by
 obtain⟨A,n,c,rfl,hc,hn,hnx⟩:=h.form';have qlN:n<=1000:=by omega
 have Hn:=Lib.hid hn;have Hll:=Lib.hid hll;clear hn hll;obtain⟨i0,hi,hz0,hz1,hz2⟩:=Az qlk;go_enter func182,ntmps182;go_wp2_with (at_make;go_must (refine AA _ rfl _ _ 27 rfl w.heap.size 24 i0 _ 1 underlying27 hi hz0 hz1 _ _ _ _ n rfl rfl rfl rfl (by rw[hz2];omega) (by unfold maxLen;omega) (BC _) ?_));intro w0 hown0 hg0
 have hO0:jf w0 w.heap.size (.slice (some ⟨w.heap.size,0,none⟩) n n) (AR n []):=by
  refine jf.made ?_;have e:n*1=n:=BH n
  first|exact hown0|(rw[e]at hown0;exact hown0)|(simp at hown0;exact hown0)
 clear hown0;go_wp2_with fail
 go_loopg [11] (n+1) (λmm i wr=>∃k:Nat,k<=n/\mm=n+1-k/\i=.int .i64 k/\Hid (jf wr w.heap.size (.slice (some ⟨w.heap.size,0,none⟩) n n) (ll.take k++AR (n-k) []))/\w.grownBy wr none)
 case atStart=>exact⟨0,BE _,rfl,rfl,hO0,hg0⟩
 case round=>
  clear hO0 hg0;obtain⟨k,hk,rfl,rfl,HO,hg⟩:=hrel;by_cases hlt:k<n
  . obtain⟨g,o,l,B,m,e,rfl,hx,c0,hrl,-,-,-⟩:=(h.new hg).at_ hlt;have hl2:l.length<=1000000000:=by have:=Hll.out l (AT hx);omega
    have hset:Hid ((ll.take k++AR (n-k) ([]:List Int)).set k l=ll.take (k+1)++AR (n-(k+1)) []):=by
     show _=_;obtain⟨hk',hx'⟩:=AP.1 hx;have hsl:(ll.take k).length=k:=by rw[AS];omega
     rw[Bf _ _ (by omega),hsl,BF,show n-k=n-(k+1)+1 by omega,Bi,Bj,AO hk',hx',Bn];rfl
    have xS:Hid (k<(ll.take k++AR (n-k) ([]:List Int)).length):=by
     show _<_;rw[AW,Bg,AS,<-Hn.out];omega
    clear hx;go_wp2_with fail;refine(qg6 _ l _ hrl hl2).mono ?_;rintro e' w4 ⟨u,rfl,ho,hg4⟩;have hO4:=HO.out.new hg4;obtain⟨u0,c4,f4⟩:=hO4.cell xS.out;have hO5:=HO.out.qC hg4 hg.size xS.out ho;rw[hset.out]at hO5;have HO5:=Lib.hid hO5;have hg5:w.grownBy (w4.setCell ⟨w.heap.size,k,none⟩ u) none:=qa3 (p:=⟨w.heap.size,k,none⟩) (qac hg hg4) (.inl (BC _)) _;obtain⟨A',n',c',rfl⟩:=ho.ri.val;clear hO4 hO5 HO ho;go_wp2;go_roundg (n+1-(k+1))
    case measure=>omega
    case rel=>exact⟨k+1,by omega,rfl,by go_num,HO5,hg5⟩
  . obtain rfl:k=n:=by omega
    have hO2:jf wr w.heap.size (.slice (some ⟨w.heap.size,0,none⟩) k k) ll:=by
     have:=HO.out;rw[BF,Bh,Be,AQ (by rw[<-Hn.out];exact BC _)]at this;exact this
    clear HO;go_wp2;go_ret;exact⟨_,rfl,hO2,hg⟩
end
end Go.Proofs.YtacemdoejblgaaaGreatDoor

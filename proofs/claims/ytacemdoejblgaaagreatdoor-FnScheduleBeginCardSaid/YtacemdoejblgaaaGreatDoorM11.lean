/- Part M11. Conditions: each statement's. -/
import Derived.Test.YtacemdoejblgaaaGreatDoorM02
import Derived.Deep.RegionHeld3
import Derived.Deep.LoopGhost
import Derived.Deep.DeepCutAuto
import Derived.LaidEqlPtr
namespace Go.Proofs.YtacemdoejblgaaaGreatDoor
open List World Value
set_option maxRecDepth 100000
set_option maxHeartbeats 6400000
section
open Go.RowKit
def Bytes(w:World)(B0:Nat)(v:Value)(n:Nat):Prop:=
 ∃A c,v=.slice A n c/\n<=c/\(0<n->∃ad,A=some ad/\ad.block<B0/\∀j,j<n->∃b:Int,0<=b/\b<=255/\w.cell? (ad.add j)=some (.int .u8 b))
def Rdr(B0:Nat)(w:World)(rb:Nat)(p:Int):Prop:=
 ∃bv n,n<=2000/\Blk w rb 92 #[bv,.int .i64 p]/\B0<=rb/\B0<=w.heap.size/\Bytes w B0 bv n
theorem Bytes.kept{w w':World}{B0 n:Nat}{v:Value}{row:Option Nat}(h:Bytes w B0 v n)(hg:w.grownBy w' row)(hB:B0<=w.heap.size)(hr:∀g,row=some g->B0<=g):Bytes w' B0 v n:=by
 obtain⟨A,c,h1,h2,h3⟩:=h;refine⟨A,c,h1,h2,λhn=>?_⟩;obtain⟨ad,hA,hb,hc⟩:=h3 hn;refine⟨ad,hA,hb,λj hj=>?_⟩;obtain⟨b,h4,h5,h6⟩:=hc j hj;have hbl:=block_add ad j;exact⟨b,h4,h5,(qnv hg (by omega) (λe=>by have:=hr _ e;omega)).trans h6⟩
theorem Rdr.kept{B0 rb:Nat}{w w':World}{p:Int}{row:Option Nat}(h:Rdr B0 w rb p)(hg:w.grownBy w' row)(hr:∀g,row=some g->B0<=g/\g≠rb):Rdr B0 w' rb p:=by
 obtain⟨bv,n,h1,h2,h3,h4,h5⟩:=h;exact⟨bv,n,h1,h2.grown hg (λe=>(hr _ e.symm).2 rfl),h3,Nat.le_trans h4 hg.size,h5.kept hg h4 (λg e=>(hr g e).1)⟩
theorem Rdr.new{B0 rb:Nat}{w w':World}{p:Int}(h:Rdr B0 w rb p)(hg:w.grownBy w' none):Rdr B0 w' rb p:=h.kept hg (λ_ e=>by cases e)
theorem Rdr.blk{B0 rb:Nat}{w:World}{p:Int}(h:Rdr B0 w rb p):∃bv,Blk w rb 92 #[bv,.int .i64 p]:=let ⟨bv,_,_,h2,_⟩:=h;⟨bv,h2⟩
theorem Rdr.jL{B0 rb:Nat}{w:World}{p:Int}{E:TypeId}(h:Rdr B0 w rb p)(hE:E≠92):qh w E (some rb):=by
 obtain⟨bv,hb⟩:=h.blk;exact qh.blk hb hE
theorem Rdr.lt{B0 rb:Nat}{w:World}{p:Int}(h:Rdr B0 w rb p):rb<w.heap.size:=by
 obtain⟨bv,hb⟩:=h.blk;exact hb.lt
theorem Rdr.own{B0 rb base size n:Nat}{w w':World}{p:Int}{E:TypeId}{v:Value}{xs:List Value}(h:Rdr B0 w rb p)(ho:w.ownsRow base E size v n xs)(hE:E≠92)(hb:B0<=base)(hg:w.grownBy w' v.ownBlock):Rdr B0 w' rb p:=by
 refine h.kept hg (λg e=>⟨Nat.le_trans hb (ho.lt g e).1,λhgr=>?_⟩);obtain⟨bv,hbk⟩:=h.blk;exact qh.own ho (Ne.symm hE) g e _ (hgr▸hbk)
theorem Rdr.drewN{B0 rb:Nat}{w:World}{p:Int}(h:Rdr B0 w rb p)(k:Nat):Rdr B0 (w.drewN k) rb p:=h
theorem q52(x y:Int)(hx:0<=x)(hx':x<9223372036854775808)(hy:0<=y)(hy':y<9223372036854775808):0<=bits .xor .i64 x y:=by
 obtain⟨a,rfl⟩:=Int.eq_ofNat_of_zero_le hx;obtain⟨b,rfl⟩:=Int.eq_ofNat_of_zero_le hy
 have vT:∀a:Nat,a<9223372036854775808->(BitVec.ofInt 64 (a:Int)).toNat=a:=λa ha=>by
  rw[BitVec.ofInt_natCast,BitVec.toNat_ofNat];exact Nat.mod_eq_of_lt (by omega)
 have hx:a ^^^ b<2^63:=Nat.xor_lt_two_pow (by omega) (by omega);show 0<=IntKind.i64.wrap ((BitVec.ofInt 64 (a:Int) ^^^ BitVec.ofInt 64 (b:Int)).toNat:Int);rw[BitVec.toNat_xor,vT a (by omega),vT b (by omega),IntKind.wrap_i64];omega
def qlT(B0 rb:Nat)(w:World)(p n:Int)(e:Ending)(w':World):Prop:=
 ∃r:Int,e=.returned (.int .i64 r)/\(1<=n->0<=r/\r<n)/\(n<1->r=0)/\Rdr B0 w' rb (p+1)/\w.grownBy w' (some rb)
theorem qde(B0 rb:Nat)(p n:Int)(w:World)(h:Rdr B0 w rb p)(hp0:0<=p)(hp:p<=1000000) :
   Calls Tryz.prog 64 #[.pointer (some ⟨rb,0,none⟩),.int .i64 n] w (qlT B0 rb w p n):=by
 obtain⟨bv,m,hm,hb,hB,hBs,hby⟩:=h;have qhH:Bytes (w.setCell ⟨rb,1,none⟩ (.int .i64 (p+1))) B0 bv m:=hby.kept (qbf (qah w (some rb)) (.inr rfl) _) hBs (λg e=>by cases e;exact hB);have hb':Blk (w.setCell ⟨rb,1,none⟩ (.int .i64 (p+1))) rb 92 #[bv,.int .i64 (p+1)]:=hb.jr 1 _;have hR:Hid (Rdr B0 (w.setCell ⟨rb,1,none⟩ (.int .i64 (p+1))) rb (p+1)):=⟨bv,m,hm,hb',hB,by simpa using hBs,qhH⟩;have hG:Hid (w.grownBy (w.setCell ⟨rb,1,none⟩ (.int .i64 (p+1))) (some rb)):=qbf (qah w (some rb)) (.inr rfl) _;have c0:w.cell? ⟨rb,0,none⟩=some bv:=hb.cell 0;have c1:w.cell? ⟨rb,1,none⟩=some (.int .i64 p):=hb.cell 1;have f1:w.frozen? ⟨rb,1,none⟩=false:=hb.frozen 1;obtain⟨A,c,rfl,hmc,hcells⟩:=qhH;clear hby hb hb';by_cases hn:n<1
 . go_enter Tryz.func64,Tryz.ntmps64;go_wp2;go_ret;exact⟨0,rfl,by omega,λ_=>rfl,hR.out,hG.out⟩
 . by_cases hm0:m=0
   . subst hm0;go_enter Tryz.func64,Tryz.ntmps64;go_wp2;go_ret;exact⟨0,rfl,λ_=>by omega,λ_=>rfl,hR.out,hG.out⟩
   . obtain⟨ad,rfl,qsY,hc⟩:=hcells (by omega);by_cases hk:p<m
     . obtain⟨q,rfl⟩:=Int.eq_ofNat_of_zero_le hp0;obtain⟨b,hb0,hb1,hcell⟩:=hc q (by omega);go_enter Tryz.func64,Tryz.ntmps64;go_wp2;go_ret;refine⟨_,rfl,λ_=>?_,λ_=>by omega,hR.out,hG.out⟩;exact⟨Int.emod_nonneg _ (by omega),Int.emod_lt_of_pos _ (by omega)⟩
     . obtain⟨q,rfl⟩:=Int.eq_ofNat_of_zero_le hp0;obtain⟨b,hb0,hb1,hcell⟩:=hc (q%m) (Nat.mod_lt _ (by omega));obtain⟨b',qsZ,qtA,qhI⟩:=hc ((q*7+3)%m) (Nat.mod_lt _ (by omega));have a1:(0:Int)<=(q:Int)%(m:Int):=Int.emod_nonneg _ (by omega);have a2:(q:Int)%(m:Int)<(m:Int):=Int.emod_lt_of_pos _ (by omega);have a3:(0:Int)<=((q:Int)*7+3)%(m:Int):=Int.emod_nonneg _ (by omega);have a4:((q:Int)*7+3)%(m:Int)<(m:Int):=Int.emod_lt_of_pos _ (by omega);have a5:(0:Int)<=(q:Int)/(m:Int):=Int.ediv_nonneg (by omega) (by omega);have a6:(q:Int)/(m:Int)<=(q:Int):=Int.ediv_le_self _ (by omega);go_enter Tryz.func64,Tryz.ntmps64;go_wp2_with fail
       go_quiet (fail)
       go_wp2;go_ret;refine⟨_,rfl,λ_=>?_,λ_=>by omega,hR.out.drewN _,qcn hG.out _⟩;have hx:=q52 (b*131+b'*1117+(q:Int)*29+(q:Int)/(m:Int)*53) ((b*131+b'*1117+(q:Int)*29+(q:Int)/(m:Int)*53)/64) (by omega) (by omega) (by omega) (by omega);exact⟨Int.tmod_nonneg _ hx,Int.tmod_lt_of_pos _ (by omega)⟩
end
section
open Go.RowKit
end
section
open Go.RowKit
def q75(B0 rb:Nat)(w:World)(p:Int)(n:Nat)(e:Ending)(w':World):Prop:=
 ∃v l,e=.returned v/\RI w' v l/\l.length=n/\(∀x∈l,-1<=x/\x<=1009)/\∃p',p<=p'/\p'<=p+3*n+3/\Rdr B0 w' rb p'/\w.grownBy w' (some rb)
theorem qxm(B0 rb:Nat)(p:Int)(n:Nat)(w:World)(h:Rdr B0 w rb p)(hp0:0<=p)(hp:p<=900000)(hn:n<=20) :
   Calls Tryz.prog 98 #[.pointer (some ⟨rb,0,none⟩),.int .i64 n] w (q75 B0 rb w p n):=by
 have hB:B0<=w.heap.size:=by obtain⟨_,_,_,_,_,h4,_⟩:=h;exact h4
 go_enter Tryz.func98,Tryz.ntmps98;go_wp2_with fail
 go_loopw [5,6] (λv i wr=>∃(k:Nat) (l:List Int) (q:Int),k<=n/\i=.int .i64 k/\qg wr w.heap.size v l/\l.length=k/\(∀x∈l,-1<=x/\x<=1009) /\
    p<=q/\q<=p+3*k/\Rdr B0 wr rb q/\w.grownBy wr (some rb)) (λ_ i _=>n-(intOf i).toNat)
 case atStart=>exact⟨0,[],p,by omega,rfl,qg.empty w (Nat.le_refl _),rfl,by simp,by omega,by omega,h.new (grownBy_alloc _ _ _),qar (qah w _) _⟩
 case round=>
  obtain⟨k,l,q,hk,rfl,hown,hl,hin,hq1,hq2,hrd,hg⟩:=hrel;have qeS:l.length<=20:=by omega
  have Hl:=Lib.hid hl;have Hin:=Lib.hid hin;clear hl hin;by_cases hlt:k<n
  . go_wp2_with fail;refine(qde B0 rb q _ _ hrd (by omega) (by omega)).mono ?_;rintro e w1 ⟨r1,rfl,hr1,_,vY,hg1⟩;go_wp2_with fail;refine(qde B0 rb (q+1) _ _ vY (by omega) (by omega)).mono ?_;rintro e w2 ⟨r2,rfl,hr2,_,xH,hg2⟩;go_wp2_with fail;refine(qde B0 rb _ _ _ (xH.new (grownBy_alloc _ _ _)) (by omega) (by omega)).mono ?_;rintro e w3 ⟨r3,rfl,hr3,_,yz,hg3⟩
    have hb3:Blk w3 w2.heap.size 3 #[.int .i64 r1,.int .i64 r2]:=(Blk.new w2 _ _).grown hg3 (by
     have:=xH.lt;intro e;cases e;omega)
    have h3:=hr3 (by omega);have h1:=hr1 (by omega);have h2:=hr2 (by omega)
    obtain⟨x,hx1,hx2,hcell⟩:∃x:Int,-1<=x/\x<=1009/\w3.cell? ⟨w2.heap.size,r3.toNat,none⟩=some (.int .i64 x):=by
     rcases (show r3=0∨r3=1 by omega)with rfl|rfl
     . exact⟨r1,by omega,by omega,hb3.cell 0⟩
     . exact⟨r2,by omega,by omega,hb3.cell 1⟩
    have qeT:wr.grownBy w3 (some rb):=qad (qad hg1 (qad hg2 (qar (qah w2 _) _))) hg3;have vo:=hown.grown qeT (hrd.jL (by decide));have hsz:=(qad hg qeT).size;clear hb3 hg1 hg2 hg3 vY xH hown hr1 hr2 hr3;go_wp2_with (at_builtin;go_must (refine qc3 (.tmp 13) (.tmp 23) rfl rfl vo (by omega) hsz rfl rfl ?_));intro v' w4 qx hg4;go_wp2;go_roundw
    case rel=>
     refine⟨k+1,l++[x],q+1+1+1,by omega,by go_num,qx,by simp[Hl.out],?_,by omega,by omega,?_,?_⟩
     . intro y hy;rcases mem_append.1 hy with hy|hy
       . exact Hin.out y hy
       . simp at hy;omega
     . exact yz.own vo (by decide) hB hg4
     . exact vo.gb (qad hg qeT) hg4 (Nat.le_refl _)
    case measure=>simp[intOf];omega
  . have hkn:k=n:=by omega
    subst hkn;by_cases hn0:(0:Int)<k
    . go_wp2_with fail;refine(qde B0 rb q _ _ hrd (by omega) (by omega)).mono ?_;rintro e w1 ⟨r1,rfl,hr1,_,vY,hg1⟩;have hown1:=hown.grown hg1 (hrd.jL (by decide));by_cases hr0:r1=0
      . subst hr0;go_wp2_with fail;refine(qde B0 rb _ _ _ vY (by omega) (by omega)).mono ?_;rintro e w2 ⟨r2,rfl,hr2,_,xH,hg2⟩;go_wp2_with fail;refine(qde B0 rb _ _ _ (xH.new (grownBy_alloc _ _ _)) (by omega) (by omega)).mono ?_;rintro e w3 ⟨r3,rfl,hr3,_,yz,hg3⟩
        have hb3:Blk w3 w2.heap.size 3 #[.int .i64 (-1),.int .i64 1008,.int .i64 1009]:=(Blk.new w2 _ _).grown hg3 (by
         have:=xH.lt;intro e;cases e;omega)
        have h3:=hr3 (by omega);have h2:=hr2 (by omega)
        obtain⟨x,hx1,hx2,hcell⟩:∃x:Int,-1<=x/\x<=1009/\w3.cell? ⟨w2.heap.size,r3.toNat,none⟩=some (.int .i64 x):=by
         rcases (show r3=0∨r3=1∨r3=2 by omega)with rfl|rfl|rfl
         . exact⟨_,by omega,by omega,hb3.cell 0⟩
         . exact⟨_,by omega,by omega,hb3.cell 1⟩
         . exact⟨_,by omega,by omega,hb3.cell 2⟩
        have qhJ:w1.grownBy w3 (some rb):=qad (qad hg2 (qar (qah w2 _) _)) hg3;have vo:=hown1.grown qhJ (vY.jL (by decide));have hl':=Hl.out;obtain⟨g,cap,cur,rfl,hcap,hgb,hblk,hcs⟩:=vo.form (by omega);have hlr:r2.toNat<l.length:=by omega
        have hc2:=hcs r2.toNat l[r2.toNat] (getElem?_eq_getElem hlr);have hf2:=hblk.frozen r2.toNat;have hgw:w.grownBy (w3.setCell ⟨g,r2.toNat,none⟩ (.int .i64 x)) (some rb):=qbf (qad (qad hg hg1) qhJ) (.inl hgb) _
        have qhK:Rdr B0 (w3.setCell ⟨g,r2.toNat,none⟩ (.int .i64 x)) rb (q+1+1+1):=yz.kept (qbf (qah w3 (some g)) (.inr rfl) _) (λg' e=>by
         cases e;obtain⟨bv,hbb⟩:=yz.blk;exact⟨by omega,hblk.ne_ hbb (by decide)⟩)
        have qbO:Hid (q75 B0 rb w p k (.returned (.slice (some ⟨g,0,none⟩) l.length cap)) (w3.setCell ⟨g,r2.toNat,none⟩ (.int .i64 x))):=by
         refine⟨_,l.set r2.toNat x,rfl,(vo.jr rfl r2.toNat x).ri,by simpa using hl',?_,_,by omega,by omega,qhK,hgw⟩;intro y hy;rcases mem_or_eq_of_mem_set hy with hy|rfl
         . exact Hin.out y hy
         . exact⟨hx1,hx2⟩
        clear hb3 vo hblk hcs hgw qhK hl' hown1 hown;go_wp2;go_ret;exact qbO.out
      . go_wp2;go_ret;exact⟨_,l,rfl,hown1.ri,Hl.out,Hin.out,_,by omega,by omega,vY,qad hg hg1⟩
    . go_wp2;go_ret;exact⟨_,l,rfl,hown.ri,Hl.out,Hin.out,_,by omega,by omega,hrd,hg⟩
theorem q21{a b:Addr}{n c n' c':Nat}(h:slice (some a) n c=.slice (some b) n' c'):a.block=b.block:=by
 injection h with e;injection e with e;rw[e]
theorem qg.lower{w:World}{a b:Nat}{v:Value}{l:List Int}(h:qg w a v l)(hab:b<=a):qg w b v l:=by
 refine⟨h.1,?_⟩;rcases h.2 with h0|⟨g,cap,cur,h1,h2,h3⟩
 . exact .inl h0
 . exact .inr ⟨g,cap,cur,h1,Nat.le_trans hab h2,h3⟩
def Apart(ys:List Value):Prop:=ys.Pairwise λu u'=>∀g,u.ownBlock=some g->u'.ownBlock≠some g
theorem Apart.iff{ys:List Value}:Apart ys↔∀(i j:Nat) (u u':Value) (g:Nat),i<j->ys[i]?=some u->ys[j]?=some u'->u.ownBlock=some g->u'.ownBlock≠some g:=by
 unfold Apart;rw[pairwise_iff_getElem];constructor
 . intro h i j u u' g hij hu hu' hg;obtain⟨a1,rfl⟩:=List.getElem?_eq_some_iff.1 hu;obtain⟨b1,rfl⟩:=List.getElem?_eq_some_iff.1 hu';exact h i j a1 b1 hij g hg
 . intro h i j hi hj hij g hg;exact h i j _ _ g hij (getElem?_eq_getElem hi) (getElem?_eq_getElem hj) hg
theorem Apart.set{xs:List Value}{k s:Nat}{f:Value}(h:Apart xs)(hlt:∀u∈xs,∀g,u.ownBlock=some g->g<s)(hf:∀g,f.ownBlock=some g->s<=g):Apart (xs.set k f):=by
 rw[Apart.iff]at *;intro i j u u' g hij hu hu' hg hg';rw[getElem?_set]at hu hu';split at hu
 . split at hu
   . cases hu;rw[if_neg (by omega)]at hu';have:=hlt u' (mem_of_getElem? hu') g hg';have:=hf g hg;omega
   . cases hu
 . split at hu'
   . split at hu'
     . cases hu';have:=hlt u (mem_of_getElem? hu) g hg;have:=hf g hg';omega
     . cases hu'
   . exact h i j u u' g hij hu hu' hg hg'
theorem Apart.qdE(n:Nat):Apart (replicate n (.slice none 0 0)):=by
 rw[Apart.iff];intro i j u u' g _ hu _ hg;rw[getElem?_replicate]at hu;split at hu
 . cases hu;cases hg
 . cases hu
theorem Apart.join{xs ys:List Value}{s:Nat}(h1:Apart xs)(h2:Apart ys)(hx:∀u∈xs,∀g,u.ownBlock=some g->g<s)(hy:∀u∈ys,∀g,u.ownBlock=some g->s<=g):Apart (xs++ys):=by
 unfold Apart at *;rw[pairwise_append];refine⟨h1,h2,λa ha b hb g hg hg'=>?_⟩;have:=hx a ha g hg;have:=hy b hb g hg';omega
theorem Apart.one(u:Value):Apart [u]:=pairwise_singleton _ _
theorem Apart.left{xs ys:List Value}(h:Apart (xs++ys)):Apart xs:=(pairwise_append.1 h).1
def LX(w:World)(base:Nat)(v:Value)(ll:List (List Int))(xs:List Value):Prop:=
 w.ownsRow base 24 1 v ll.length xs/\∀(i:Nat) (l:List Int),ll[i]?=some l->∃u,xs[i]?=some u/\qg w base u l
def zi(w:World)(base:Nat)(v:Value)(ll:List (List Int)):Prop:=∃xs,LX w base v ll xs/\Apart xs
section
variable {w w':World}{v:Value}{ll:List (List Int)}{base:Nat}{row:Option Nat}{xs:List Value}
theorem LX.grown(h:LX w base v ll xs)(hg:w.grownBy w' row)(hr:qh w 3 row)(hr':qh w 24 row):LX w' base v ll xs:=by
 refine⟨qc4 h.1 hg hr',λi l hi=>?_⟩;obtain⟨u,k1,k2⟩:=h.2 i l hi;exact⟨u,k1,k2.grown hg hr⟩
theorem LX.new(h:LX w base v ll xs)(hg:w.grownBy w' none):LX w' base v ll xs:=h.grown hg (qh.none _ _) (qh.none _ _)
theorem LX.rl(h:LX w base v ll xs):RL w v ll:=⟨xs,TS.zV h.1,λi l hi=>let ⟨u,k1,k2⟩:=h.2 i l hi;⟨u,k1,k2.ri⟩⟩
theorem LX.lt(h:LX w base v ll xs):∀g,v.ownBlock=some g->base<=g/\g<w.heap.size:=ownsRow.lt h.1
theorem LX.len(h:LX w base v ll xs):xs.length=ll.length:=by have:=h.1.1;omega
theorem LX.lts(h:LX w base v ll xs):∀u∈xs,∀g,u.ownBlock=some g->base<=g/\g<w.heap.size:=by
 intro u hu g hg;obtain⟨i,hi,rfl⟩:=getElem_of_mem hu;have hl:=h.len;obtain⟨u',k1,k2⟩:=h.2 i _ (getElem?_eq_getElem (by omega));rw[getElem?_eq_getElem hi]at k1;cases k1;exact k2.lt g hg
theorem LX.nil(w:World)(base:Nat):LX w base (.slice none 0 0) [] []:=⟨ownsRow_nil _ _ _ _,λi nd h=>by simp at h⟩
theorem LX.low{a b:Nat}(h:LX w a v ll xs)(hab:b<=a):LX w b v ll xs:=by
 refine⟨⟨h.1.1,?_⟩,λi l hi=>let ⟨u,k1,k2⟩:=h.2 i l hi;⟨u,k1,k2.lower hab⟩⟩;rcases h.1.2 with h0|⟨g,cap,cur,h1,h2,h3⟩
 . exact .inl h0
 . exact .inr ⟨g,cap,cur,h1,Nat.le_trans hab h2,h3⟩
theorem zi.grown(h:zi w base v ll)(hg:w.grownBy w' row)(hr:qh w 3 row)(hr':qh w 24 row):zi w' base v ll:=let ⟨xs,h1,h2⟩:=h;⟨xs,h1.grown hg hr hr',h2⟩
theorem zi.new(h:zi w base v ll)(hg:w.grownBy w' none):zi w' base v ll:=h.grown hg (qh.none _ _) (qh.none _ _)
end
theorem LX.cell{w:World}{base g n cap k:Nat}{ll:List (List Int)}{xs:List Value}(h:LX w base (.slice (some ⟨g,0,none⟩) n cap) ll xs)(hk:k<ll.length):∃u,w.cell? ⟨g,k,none⟩=some u/\w.frozen? ⟨g,k,none⟩=false:=by
 rcases h.1.2 with ⟨e0,hz⟩|⟨g',cap',cur,e0,hb,hh,hn,hm,hcs,ht⟩
 . cases e0
 . injection e0 with e1 e2 e3;injection e1 with e1;injection e1 with e1;subst e1 e3;have hB:Blk w g 24 cur:=hh;refine⟨cur[k]'(by rw[hcs];omega),?_,hB.frozen _⟩;rw[hB.cell];exact Array.getElem?_eq_getElem (by rw[hcs];omega)
theorem LX.jr{w:World}{base g n cap k:Nat}{ll:List (List Int)}{l:List Int}{f:Value}{xs:List Value}(h:LX w base (.slice (some ⟨g,0,none⟩) n cap) ll xs)(hk:k<ll.length)(hf:qg w base f l) :
   LX (w.setCell ⟨g,k,none⟩ f) base (.slice (some ⟨g,0,none⟩) n cap) (ll.set k l) (xs.set k f):=by
 have hxl:=h.len;obtain⟨h1,h2⟩:=h
 have hn:n=ll.length:=by
  rcases h1.2 with ⟨e0,hz⟩|⟨g',cap',cur,e0,_⟩
  . cases e0
  . injection e0
 subst hn;have s1:=ownsRow.stored h1 k f;have hne:qh w 3 (some g):=qh.own (v:=.slice (some ⟨g,0,none⟩) ll.length cap) h1 (by decide);refine⟨by rw[length_set];exact s1.1,λi x hi=>?_⟩;by_cases hik:i=k
 . subst hik;rw[getElem?_set_self hk]at hi;obtain rfl:l=x:=by simpa using hi
   exact⟨f,by rw[getElem?_set_self (by omega)],hf.grown s1.2 hne⟩
 . rw[getElem?_set_ne (λe=>hik e.symm)]at hi;obtain⟨u,k1,k2⟩:=h2 i x hi;exact⟨u,by rw[getElem?_set_ne (λe=>hik e.symm)];exact k1,k2.grown s1.2 hne⟩
theorem zi.cell{w:World}{base g n cap k:Nat}{ll:List (List Int)}(h:zi w base (.slice (some ⟨g,0,none⟩) n cap) ll)(hk:k<ll.length):∃u,w.cell? ⟨g,k,none⟩=some u/\w.frozen? ⟨g,k,none⟩=false:=let ⟨_,h1,_⟩:=h;h1.cell hk
theorem zi.jr{a w:World}{base g n cap k:Nat}{ll:List (List Int)}{l:List Int}{f:Value}(h:zi a base (.slice (some ⟨g,0,none⟩) n cap) ll)(hg:a.grownBy w none)(hb:base<=a.heap.size)(hk:k<ll.length)(hf:qg w a.heap.size f l) :
   zi (w.setCell ⟨g,k,none⟩ f) base (.slice (some ⟨g,0,none⟩) n cap) (ll.set k l):=by
 obtain⟨xs,h1,h2⟩:=h;exact⟨xs.set k f,(h1.new hg).jr hk (hf.lower hb),h2.set (λu hu g hg=>(h1.lts u hu g hg).2) (λg hg=>(hf.lt g hg).1)⟩
theorem zi.made{w:World}{base n:Nat}{v:Value}(h:w.ownsRow base 24 1 v n (madeCells (slice none 0 0).cells n).toList):zi w base v (replicate n []):=by
 have hc:(madeCells (slice none 0 0).cells n).toList=replicate n (.slice none 0 0):=by
  have hc0:(slice none 0 0).cells=#[.slice none 0 0]:=rfl;rw[hc0];apply ext_getElem?;intro i;rw[getElem?_replicate];by_cases hi:i<n
  . simp[madeCells,hi,Nat.mod_one]
  . simp[madeCells,hi]
 rw[hc]at h;refine⟨_,⟨by rw[length_replicate];exact h,λi l hi=>?_⟩,Apart.qdE n⟩
 obtain⟨hin,rfl⟩:i<n/\l=[]:=by
  rw[getElem?_replicate]at hi;split at hi
  . exact⟨by assumption,by injection hi with e;exact e.symm⟩
  . cases hi
 exact⟨.slice none 0 0,by simp[hin],qg.nil _ _⟩
theorem RI.take{w:World}{A:Option Addr}{n c k:Nat}{l:List Int}(h:RI w (.slice A n c) l)(hk:k<=n):RI w (.slice A k c) (l.take k):=by
 obtain⟨h0,A',c',e,h2,h3,h4,h5⟩:=h;injection e with e1 e2 e3;subst e1 e3;have hl:l.length=n:=e2.symm;refine⟨?_,A,c,?_,by rw[length_take];omega,h3,h4,?_⟩
 . rw[length_map,length_take];omega
 . rw[length_take,Nat.min_eq_left (by omega)]
 . rcases h5 with h5|⟨g,o,cur,hA,hb,hc⟩
   . exact .inl (by rw[length_take];omega)
   . refine .inr ⟨g,o,cur,hA,hb,λj u hu=>hc j u ?_⟩;rw[getElem?_map,getElem?_take]at hu;split at hu
     . rw[getElem?_map];exact hu
     . cases hu
theorem qf5{w:World}{a:Addr}{v:Value}(h:w.cell? a=some v):a.block<w.heap.size:=by
 unfold cell? at h;split at h
 . rename_i hb;exact(Array.getElem?_eq_some_iff.1 hb).1
 . cases h
theorem qc1{w w':World}{a:Addr}{v:Value}(h:w.cell? a=some v)(hg:w.grownBy w' none):w'.cell? a=some v:=(qnv hg (qf5 h) (by simp)).trans h
theorem j9.far{w w':World}{base g:Nat}{v:Value}{ll:List (List Int)}(h:j9 w base v ll)(hg:w.grownBy w' (some g))(hi:qh w 3 (some g))(hne:v.ownBlock≠some g):j9 w' base v ll:=by
 obtain⟨xs,h1,h2⟩:=h;have hlt:=ownsRow.lt h1;refine⟨xs,⟨h1.1,?_⟩,λi l hl=>let ⟨u,k1,k2⟩:=h2 i l hl;⟨u,k1,k2.grown hg hi⟩⟩;rcases h1.2 with h0|⟨g',cap,cur,rfl,k2,k3,k4⟩
 . exact .inl h0
 . exact .inr ⟨g',cap,cur,rfl,k2,(hg.block g' (hlt g' rfl).2 (λe=>hne (by rw[<-e];rfl))).trans k3,k4⟩
def CV(w:World)(v:Value)(c:qj):Prop:=∃d k o r,v=.agg #[d,k,o,r]/\RL w d c.qb/\RI w k c.counts/\RI w o c.done/\RL w r c.rows
theorem CV.grown{w w':World}{v:Value}{c:qj}{row:Option Nat}(h:CV w v c)(hg:w.grownBy w' row)(hr:qh w 3 row)(hr':qh w 24 row):CV w' v c:=by
 obtain⟨d,k,o,r,rfl,h1,h2,h3,h4⟩:=h;exact⟨d,k,o,r,rfl,h1.grown hg hr hr',h2.grown hg hr,h3.grown hg hr,h4.grown hg hr hr'⟩
theorem CV.new{w w':World}{v:Value}{c:qj}(h:CV w v c)(hg:w.grownBy w' none):CV w' v c:=h.grown hg (qh.none _ _) (qh.none _ _)
theorem CV.form{w:World}{v:Value}{c:qj}(h:CV w v c):∃A1 n1 c1 A2 n2 c2 A3 n3 c3 A4 n4 c4,v=.agg #[.slice A1 n1 c1,.slice A2 n2 c2,.slice A3 n3 c3,.slice A4 n4 c4] /\
   RL w (.slice A1 n1 c1) c.qb/\RI w (.slice A2 n2 c2) c.counts/\RI w (.slice A3 n3 c3) c.done/\RL w (.slice A4 n4 c4) c.rows:=by
 obtain⟨d,k,o,r,rfl,h1,h2,h3,h4⟩:=h;obtain⟨A1,n1,c1,rfl⟩:=h1.val;obtain⟨A2,n2,c2,rfl⟩:=h2.val;obtain⟨A3,n3,c3,rfl⟩:=h3.val;obtain⟨A4,n4,c4,rfl⟩:=h4.val;exact⟨_,_,_,_,_,_,_,_,_,_,_,_,rfl,h1,h2,h3,h4⟩
structure jU(w:World)(g:Nat)(d k o r:Value)(c:qj):Prop where
 b:Blk w g 29 #[d,k,o,r]
 dq:RL w d c.qb
 ct:RI w k c.counts
 dn:RI w o c.done
 ro:RL w r c.rows
section
variable {w w':World}{g:Nat}{d k o r:Value}{c:qj}
theorem jU.new(h:jU w g d k o r c)(hg:w.grownBy w' none):jU w' g d k o r c:=⟨h.b.grown hg (by simp),h.dq.new hg,h.ct.new hg,h.dn.new hg,h.ro.new hg⟩
theorem jU.cv(h:jU w g d k o r c):CV w (.agg #[d,k,o,r]) c:=⟨d,k,o,r,rfl,h.dq,h.ct,h.dn,h.ro⟩
theorem jU.d0(h:jU w g d k o r c):w.cell? ⟨g,0,none⟩=some d:=h.b.cell 0
theorem jU.d1(h:jU w g d k o r c):w.cell? ⟨g,1,none⟩=some k:=h.b.cell 1
theorem jU.d2(h:jU w g d k o r c):w.cell? ⟨g,2,none⟩=some o:=h.b.cell 2
theorem jU.d3(h:jU w g d k o r c):w.cell? ⟨g,3,none⟩=some r:=h.b.cell 3
theorem CV.box{w:World}{d k o r:Value}{c:qj}(h:CV w (.agg #[d,k,o,r]) c):jU (w.alloc (.cells #[d,k,o,r] 29)) w.heap.size d k o r c:=by
 obtain⟨d',k',o',r',e,h1,h2,h3,h4⟩:=h;have hg:=grownBy_alloc w (.cells #[d,k,o,r] 29) none;injection e with e;injection e with e;injection e with e1 e;injection e with e2 e;injection e with e3 e;injection e with e4 e;subst e1 e2 e3 e4;exact⟨Blk.new _ _ _,h1.new hg,h2.new hg,h3.new hg,h4.new hg⟩
end
def qdk:qj:=⟨[],[],[],[]⟩
theorem CV.zero(w:World):CV w (.agg #[.slice none 0 0,.slice none 0 0,.slice none 0 0,.slice none 0 0]) qdk:=⟨_,_,_,_,rfl,RL.nil w,RI.nil w,RI.nil w,RL.nil w⟩
def qbP(w:World)(base:Nat)(v:Value)(c:qj):Prop:=
 ∃d k o r xs ys,v=.agg #[d,k,o,r]/\LX w base d c.qb xs/\RI w k c.counts/\qg w base o c.done/\LX w base r c.rows ys/\Apart (o::(xs++ys))/\(∀g,d.ownBlock=some g->r.ownBlock≠some g)
theorem LX.far{w w':World}{base g:Nat}{v:Value}{ll:List (List Int)}{xs:List Value}(h:LX w base v ll xs)(hg:w.grownBy w' (some g))(hi:qh w 3 (some g))(hne:v.ownBlock≠some g):LX w' base v ll xs:=by
 obtain⟨h1,h2⟩:=h;have hlt:=ownsRow.lt h1;refine⟨⟨h1.1,?_⟩,λi l hl=>let ⟨u,k1,k2⟩:=h2 i l hl;⟨u,k1,k2.grown hg hi⟩⟩;rcases h1.2 with h0|⟨g',cap,cur,rfl,k2,k3,k4⟩
 . exact .inl h0
 . exact .inr ⟨g',cap,cur,rfl,k2,(hg.block g' (hlt g' rfl).2 (λe=>hne (by rw[<-e];rfl))).trans k3,k4⟩
theorem LX.jL{w:World}{base:Nat}{v:Value}{ll:List (List Int)}{xs:List Value}(h:LX w base v ll xs){E:TypeId}(hE:E≠24):qh w E v.ownBlock:=qh.own h.1 hE
theorem LX.gb{a w w':World}{row:Option Nat}{base:Nat}{v:Value}{ll:List (List Int)}{xs:List Value}(h:LX w base v ll xs)(hg:a.grownBy w row)(k:w.grownBy w' v.ownBlock)(hb:a.heap.size<=base):a.grownBy w' row:=
 qbd hg k (λg e=>.inl (Nat.le_trans hb (h.lt g e).1))
theorem qen(v:Value)(l:List Int)(x:Int)(w:World)(h:RI w v l){b:Bool}(hb:decide (x∈l)=b) :
   Calls Tryz.prog 123 #[v,.int .i64 x] w λe w'=>e=.returned (.bool b)/\w=w':=by
 obtain⟨A,n,c,rfl,_,hn⟩:=h.form';have hle:=h.le;rw[<-hn]at hle;have Hn:=Lib.hid hn;have Hb:=Lib.hid hb;clear hn hb;go_enter Tryz.func123,Tryz.ntmps123;go_wp2_with fail
 go_loopg [5] (n+1) (λmm i wr=>∃k:Nat,k<=n/\mm=n+1-k/\i=.int .i64 k/\Hid (x∉l.take k)/\wr=w)
 case atStart=>exact⟨0,Nat.zero_le _,rfl,rfl,by show _∉_;simp,rfl⟩
 case round=>
  obtain⟨k,hk,rfl,rfl,Hk,rfl⟩:=hrel;by_cases hlt:k<n
  . obtain⟨g,o,y,rfl,hy,c0⟩:=h.at_ hlt;have Hy:=Lib.hid hy;clear hy;by_cases hyx:y=x
    . have hq:(y==x)=true:=by simpa using hyx
      have Hr:Hid (b=true):=by
       show _=_;rw[<-Hb.out,decide_eq_true_eq,<-hyx];exact mem_of_getElem? Hy.out
      clear hyx Hk;go_wp2;go_ret;exact⟨by rw[Hr.out];rfl,rfl⟩
    . have hq:(y==x)=false:=by simpa using hyx
      have Hs:Hid (x∉l.take (k+1)):=by
       show _∉_;obtain⟨h1,h2⟩:=List.getElem?_eq_some_iff.1 Hy.out;rw[take_succ_eq_append_getElem h1,h2,mem_append];rintro(h3|h3)
       . exact Hk.out h3
       . exact hyx (mem_singleton.1 h3).symm
      clear hyx Hk;go_wp2;go_roundg (n+1-(k+1))
      case measure=>omega
      case rel=>exact⟨k+1,by omega,rfl,by go_num,Hs,rfl⟩
  . obtain rfl:k=n:=by omega
    have Hr:Hid (b=false):=by
     show _=_;rw[<-Hb.out,decide_eq_false_iff_not];have:=Hk.out
     rwa [take_of_length_le (by rw[<-Hn.out];exact Nat.le_refl _)]at this
    clear Hk;go_wp2;go_ret;exact⟨by rw[Hr.out];rfl,rfl⟩
theorem qzf(v v':Value)(l m:List Int)(w:World)(h:RI w v l)(h':RI w v' m){b:Bool}(hb:(m.all λf=>decide (f∈l))=b) :
   Calls Tryz.prog 201 #[v,v'] w λe w'=>e=.returned (.bool b)/\w=w':=by
 obtain⟨A,n,c,rfl,_,hn⟩:=h'.form';obtain⟨B,n',c',rfl⟩:=h.val;have hle:=h'.le;rw[<-hn]at hle;have Hn:=Lib.hid hn;have Hb:=Lib.hid hb;clear hn hb;go_enter Tryz.func201,Tryz.ntmps201;go_wp2_with fail
 go_loopg [5] (n+1) (λmm i wr=>∃k:Nat,k<=n/\mm=n+1-k/\i=.int .i64 k/\Hid (∀f∈m.take k,f∈l)/\wr=w)
 case atStart=>exact⟨0,Nat.zero_le _,rfl,rfl,by show ∀f∈_,_;simp,rfl⟩
 case round=>
  obtain⟨k,hk,rfl,rfl,Hk,rfl⟩:=hrel;by_cases hlt:k<n
  . obtain⟨g,o,y,rfl,hy,c0⟩:=h'.at_ hlt;have Hy:=Lib.hid hy;clear hy;by_cases hyx:y∈l
    . have Hyx:Hid (decide (y∈l)=true):=decide_eq_true hyx
      have Hs:Hid (∀f∈m.take (k+1),f∈l):=by
       show ∀f∈_,_;obtain⟨h1,h2⟩:=List.getElem?_eq_some_iff.1 Hy.out;rw[take_succ_eq_append_getElem h1,h2];intro f hf;rcases mem_append.1 hf with hf|hf
       . exact Hk.out f hf
       . obtain rfl:f=y:=by simpa using hf
         exact hyx
      clear hyx Hk;go_wp2_with fail;refine(qen _ l y _ h Hyx.out).mono ?_;rintro e w' ⟨rfl,rfl⟩;go_wp2;go_roundg (n+1-(k+1))
      case measure=>omega
      case rel=>exact⟨k+1,by omega,rfl,by go_num,Hs,rfl⟩
    . have Hyx:Hid (decide (y∈l)=false):=decide_eq_false hyx
      have Hr:Hid (b=false):=by
       show _=_;rw[<-Hb.out,List.all_eq_false];exact⟨y,mem_of_getElem? Hy.out,by simpa using hyx⟩
      clear hyx Hk;go_wp2_with fail;refine(qen _ l y _ h Hyx.out).mono ?_;rintro e w' ⟨rfl,rfl⟩;go_wp2;go_ret;exact⟨by rw[Hr.out];rfl,rfl⟩
  . obtain rfl:k=n:=by omega
    have Hr:Hid (b=true):=by
     show _=_;rw[<-Hb.out,List.all_eq_true];have:=Hk.out;rw[take_of_length_le (by rw[<-Hn.out];exact Nat.le_refl _)]at this;exact λf hf=>decide_eq_true (this f hf)
    clear Hk;go_wp2;go_ret;exact⟨by rw[Hr.out];rfl,rfl⟩
theorem qo1(n a b:Int)(w:World) :
   Calls Tryz.prog 74 #[.int .i64 n,.int .i64 a,.int .i64 b] w λe w'=>e=.returned (.bool (decide (a<=n)&&decide (n<=b)))/\w=w':=by
 by_cases h:a<=n
 . rw[show (decide (a<=n)&&decide (n<=b))=decide (n<=b) by simp[h]];go_enter Tryz.func74,Tryz.ntmps74
   go_wp2
   go_ret;exact⟨rfl,rfl⟩
 . rw[show (decide (a<=n)&&decide (n<=b))=false by simp[h]];go_enter Tryz.func74,Tryz.ntmps74
   go_wp2
   go_ret;exact⟨rfl,rfl⟩
theorem qj4(v:Value)(l:List Int)(w:World)(h:RI w v l) :
   Calls Tryz.prog 157 #[v] w λe w'=>e=.returned (.bool (qal l))/\w=w':=by
 obtain⟨A,n,c,rfl,hc,hn⟩:=h.form';have hle:=h.le;rw[<-hn]at hle;have Hn:=Lib.hid hn;clear hn;go_enter Tryz.func157,Tryz.ntmps157
 go_wp2
 go_loop [3] (λi=>∃k:Nat,k<=n/\i=.int .i64 k/\(l.take k).all vz=true) (λi=>n-(intOf i).toNat)
 case atStart=>exact⟨0,Nat.zero_le _,rfl,rfl⟩
 case round=>
  obtain⟨k,hk,rfl,hall⟩:=hrel;have qV:=Lib.hid hall;clear hall;by_cases hlt:k<n
  . obtain⟨g,o,x,rfl,hx,hcell⟩:=h.at_ hlt;have Hx:=Lib.hid hx;clear hx;go_wp2_with fail;refine(qo1 _ _ _ _).mono ?_;rintro e w' ⟨rfl,rfl⟩;by_cases hin:vz x=true
    . have Hin:=Lib.hid hin;have hb:(decide ((0:Int)<=x)&&decide (x<=(1008:Int)))=true:=hin;rw[hb];clear hin hb;go_wp2;go_round
      case rel=>exact⟨k+1,by omega,by go_num,by rw[qg7 _ Hx.out,qV.out,Hin.out];rfl⟩
      case measure=>simp[intOf];omega
    . have hb:(decide ((0:Int)<=x)&&decide (x<=(1008:Int)))=false:=by simpa[vz]using hin
      have Hr:Hid (qal l=false):=by
       show qal l=false;unfold qal;rw[Bool.and_eq_false_iff];left;rw[List.all_eq_false];exact⟨x,mem_of_getElem? Hx.out,hin⟩
      rw[hb];clear hin hb;go_wp2;go_ret;exact⟨by rw[Hr.out];rfl,rfl⟩
  . have hkn:k=n:=by omega
    have Hr:Hid (qal l=decide ((n:Int)<=6)):=by
     show qal l=decide ((n:Int)<=6);have h1:=qV.out;rw[hkn,Hn.out,take_length]at h1;rw[qal,h1,Hn.out,Bool.true_and];exact decide_eq_decide.2 (by omega)
    clear hkn;go_wp2;go_ret;exact⟨by rw[Hr.out];rfl,rfl⟩
theorem qcb(v:Value)(l:List Int)(w:World)(h:RI w v l){b:Bool}(hb:qal l=b) :
   Calls Tryz.prog 157 #[v] w λe w'=>e=.returned (.bool b)/\w=w':=hb▸qj4 v l w h
theorem qed(n a b:Int)(w:World){c:Bool}(hc:(decide (a<=n)&&decide (n<=b))=c) :
   Calls Tryz.prog 74 #[.int .i64 n,.int .i64 a,.int .i64 b] w λe w'=>e=.returned (.bool c)/\w=w':=hc▸qo1 n a b w
theorem qiu(k:Int)(w:World) :
   Calls Tryz.prog 196 #[.int .i64 k] w λe w'=>e=.returned (.bool (qeq k))/\w=w':=by
 go_enter Tryz.func196,Tryz.ntmps196;go_wp2_with fail;refine(qo1 _ _ _ _).mono ?_;rintro e w' ⟨rfl,rfl⟩;go_wp2;go_ret;exact⟨rfl,rfl⟩
theorem qbw(k:Int)(w:World) :
   Calls Tryz.prog 149 #[.int .i64 k] w λe w'=>e=.returned (.int .i64 (qav k))/\w=w':=by
 by_cases hk:k<0∨5<k
 . have hv:qeq k=false:=by
    unfold qeq;simp only[Bool.and_eq_false_iff,decide_eq_false_iff_not];omega
   have H:Hid (qav k=-1):=by show qav k=-1;unfold qav;rw[if_pos hk]
   clear hk;go_enter Tryz.func149,Tryz.ntmps149;go_wp2_with fail;refine(qiu _ _).mono ?_;rw[hv];clear hv;rintro e w' ⟨rfl,rfl⟩;go_wp2;go_ret;exact⟨by rw[H.out];rfl,rfl⟩
 . rcases (show k=0∨k=1∨k=2∨k=3∨k=4∨k=5 by omega)with rfl|rfl|rfl|rfl|rfl|rfl
   all_goals
    clear hk;go_enter Tryz.func149,Tryz.ntmps149;go_wp2_with fail;refine(qiu _ _).mono ?_;rintro e w' ⟨rfl,rfl⟩;go_wp2;go_ret;exact⟨rfl,rfl⟩
def work(k:Int):Value:=
 if k=0 then .iface 181 (.agg #[])
 else if k=1 then .iface 132 (.agg #[.func (.func 144) #[] #[]])
 else if k=2 then .iface 132 (.agg #[.func (.func 145) #[] #[]])
 else if k=3 then .iface 136 (.agg #[.func (.func 146) #[] #[]])
 else if k=4 then .iface 136 (.agg #[.func (.func 147) #[] #[]])
 else if k=5 then .iface 136 (.agg #[.func (.func 148) #[] #[]])
 else .nilIface
theorem qds(k:Int)(w:World) :
   Calls Tryz.prog 93 #[.int .i64 k] w λe w'=>e=.returned (work k)/\w=w':=by
 by_cases hk:k<0∨5<k
 . have H:Hid (work k=.nilIface):=by
    show work k=.nilIface;unfold work
    repeat rw[if_neg (by omega)]
   rcases hk with hk|hk
   all_goals
    go_enter Tryz.func93,Tryz.ntmps93;go_wp2;go_ret;exact⟨by rw[H.out];rfl,rfl⟩
 . rcases (show k=0∨k=1∨k=2∨k=3∨k=4∨k=5 by omega)with rfl|rfl|rfl|rfl|rfl|rfl
   all_goals
    clear hk;go_enter Tryz.func93,Tryz.ntmps93;go_wp2;go_ret;exact⟨rfl,rfl⟩
theorem qq2(k:Int)(w:World) :
   Calls Tryz.prog 185 #[.int .i64 k] w λe w'=>e=.returned (.bool (qeq k))/\w=w':=by
 by_cases hk:k<0∨5<k
 . have H:Hid (work k=.nilIface):=by
    show work k=.nilIface;unfold work
    repeat rw[if_neg (by omega)]
   have hv:qeq k=false:=by
    unfold qeq;simp only[Bool.and_eq_false_iff,decide_eq_false_iff_not];omega
   rw[hv];clear hv hk;go_enter Tryz.func185,Tryz.ntmps185;go_wp2_with fail;refine(qds _ _).mono ?_;rw[H.out];rintro e w' ⟨rfl,rfl⟩;go_wp2;go_ret;exact⟨rfl,rfl⟩
 . rcases (show k=0∨k=1∨k=2∨k=3∨k=4∨k=5 by omega)with rfl|rfl|rfl|rfl|rfl|rfl
   all_goals
    clear hk;go_enter Tryz.func185,Tryz.ntmps185;go_wp2_with fail;refine(qds _ _).mono ?_;simp only[work,if_true];rintro e w' ⟨rfl,rfl⟩;go_wp2;go_ret;exact⟨rfl,rfl⟩
theorem qhy(k:Int)(w:World){b:Bool}(hb:qeq k=b) :
   Calls Tryz.prog 185 #[.int .i64 k] w λe w'=>e=.returned (.bool b)/\w=w':=hb▸qq2 k w
theorem qlU(w:World):(method 379 181 (.agg #[]) "loop.example/workplans/impl.needs").run Tryz.prog w=.ok (244,.agg #[]) w:=by kernel_rfl
theorem qlV(f:FuncId)(w:World):(method 379 132 (.agg #[.func (.func f) #[] #[]]) "loop.example/workplans/impl.needs").run Tryz.prog w=.ok (94,.agg #[.func (.func f) #[] #[]]) w:=by kernel_rfl
theorem qlW(f:FuncId)(w:World):(method 379 136 (.agg #[.func (.func f) #[] #[]]) "loop.example/workplans/impl.needs").run Tryz.prog w=.ok (95,.agg #[.func (.func f) #[] #[]]) w:=by kernel_rfl
theorem qww(w:World):Calls Tryz.prog 244 #[.agg #[]] w λe w'=>e=.returned (.int .i64 0)/\w.grownBy w' none:=by
 go_enter Tryz.func244,Tryz.ntmps244;go_wp2;go_ret;exact⟨rfl,grownBy_alloc _ _ _⟩
theorem qhd(f:FuncId)(w:World):Calls Tryz.prog 94 #[.agg #[.func (.func f) #[] #[]]] w λe w'=>e=.returned (.int .i64 2)/\w.grownBy w' none:=by
 go_enter Tryz.func94,Tryz.ntmps94;go_wp2;go_ret;exact⟨rfl,grownBy_alloc _ _ _⟩
theorem qf2(f:FuncId)(w:World):Calls Tryz.prog 95 #[.agg #[.func (.func f) #[] #[]]] w λe w'=>e=.returned (.int .i64 1)/\w.grownBy w' none:=by
 go_enter Tryz.func95,Tryz.ntmps95;go_wp2;go_ret;exact⟨rfl,grownBy_alloc _ _ _⟩
theorem qiv(k:Int)(w:World) :
   Calls Tryz.prog 186 #[.int .i64 k] w λe w'=>e=.returned (.int .i64 (qav k))/\w.grownBy w' none:=by
 by_cases hk:k<0∨5<k
 . have H:Hid (work k=.nilIface):=by
    show work k=.nilIface;unfold work
    repeat rw[if_neg (by omega)]
   rw[show qav k=-1 by unfold qav;rw[if_pos hk]];clear hk;go_enter Tryz.func186,Tryz.ntmps186;go_wp2_with fail;refine(qds _ _).mono ?_;rw[H.out];rintro e w' ⟨rfl,rfl⟩;go_wp2;go_ret;exact⟨rfl,qah _ _⟩
 . rcases (show k=0∨k=1∨k=2∨k=3∨k=4∨k=5 by omega)with rfl|rfl|rfl|rfl|rfl|rfl
   all_goals
    clear hk;go_enter Tryz.func186,Tryz.ntmps186;go_wp2_with fail;refine(qds _ _).mono ?_;simp only[work,if_true];rintro e w' ⟨rfl,rfl⟩;have hm1:=qlU;have hm2:=qlV;have hm3:=qlW
    go_wp2_with (first
     |(go_at_call 244;refine(qww _).mono ?_;rintro e w' ⟨rfl,hg⟩)
     |(go_at_call 94;refine(qhd _ _).mono ?_;rintro e w' ⟨rfl,hg⟩)
     |(go_at_call 95;refine(qf2 _ _).mono ?_;rintro e w' ⟨rfl,hg⟩))
    go_ret;exact⟨rfl,by assumption⟩
theorem qcy(v:Value)(l:List Int)(w:World)(h:RI w v l) :
   Calls Tryz.prog 192 #[v] w λe w'=>e=.returned (.bool (qal l))/\w=w':=by
 obtain⟨A,n,c,rfl,hc,hn⟩:=h.form';have hle:=h.le;rw[<-hn]at hle;have Hn:=Lib.hid hn;clear hn;go_enter Tryz.func192,Tryz.ntmps192;by_cases h6:(6:Int)<n
 . have Hr:Hid (qal l=false):=by
    show qal l=false;unfold qal;rw[<-Hn.out];simp;omega
   go_wp2;go_ret;exact⟨by rw[Hr.out];rfl,rfl⟩
 . go_wp2_with fail
   go_loop [10] (λi=>∃k:Nat,k<=n/\i=.int .i64 k/\(l.take k).all vz=true) (λi=>n-(intOf i).toNat)
   case atStart=>exact⟨0,Nat.zero_le _,rfl,rfl⟩
   case round=>
    obtain⟨k,hk,rfl,hall⟩:=hrel;have qV:=Lib.hid hall;clear hall;by_cases hlt:k<n
    . obtain⟨g,o,x,rfl,hx,hcell⟩:=h.at_ hlt;have Hx:=Lib.hid hx;clear hx;by_cases hin:vz x=true
      . have Hin:=Lib.hid hin
        have hb:0<=x/\x<1009:=by
         simp only[vz,Bool.and_eq_true,decide_eq_true_eq]at hin;omega
        clear hin;obtain⟨hb1,hb2⟩:=hb;go_wp2;go_round
        case rel=>exact⟨k+1,by omega,by go_num,by rw[qg7 _ Hx.out,qV.out,Hin.out];rfl⟩
        case measure=>simp[intOf];omega
      . have Hr:Hid (qal l=false):=by
         show qal l=false;unfold qal;rw[Bool.and_eq_false_iff];left;rw[List.all_eq_false];exact⟨x,mem_of_getElem? Hx.out,hin⟩
        have hb:x<0∨1009<=x:=by
         simp only[vz,Bool.and_eq_true,decide_eq_true_eq]at hin;omega
        clear hin;rcases hb with hb|hb
        all_goals
         go_wp2;go_ret;exact⟨by rw[Hr.out];rfl,rfl⟩
    . have Hr:Hid (qal l=true):=by
       show qal l=true;have h1:=qV.out;rw[show k=n by omega,Hn.out,take_length]at h1;rw[qal,h1,Bool.true_and,<-Hn.out];simp;omega
      go_wp2;go_ret;exact⟨by rw[Hr.out];rfl,rfl⟩
theorem qs2(v:Value)(l:List Int)(w:World)(h:RI w v l) :
   Calls Tryz.prog 187 #[v] w λe w'=>e=.returned (.bool (qal l))/\w=w':=by
 obtain⟨A,n,c,rfl⟩:=h.val;go_enter Tryz.func187,Tryz.ntmps187;go_wp2_with fail;refine(qcy _ l _ h).mono ?_;rintro e w' ⟨rfl,rfl⟩;go_wp2;go_ret;exact⟨rfl,rfl⟩
theorem qz9(v:Value)(nd:Node)(at_:Int)(w:World)(h:NV w v nd) :
   Calls Tryz.prog 142 #[v,.int .i64 at_] w λe w'=>e=.returned (.bool (qbz nd at_))/\w.grownBy w' none:=by
 obtain⟨f,r,rfl,hf,hr⟩:=h;have hfl:=hf.le;obtain⟨Af,nf,cf,rfl,_,hnf⟩:=hf.form';obtain⟨Ar,nr,cr,rfl,_,hnr⟩:=hr.form';rw[<-hnf]at hfl;have Hnf:=Lib.hid hnf;have Hnr:=Lib.hid hnr;clear hnf hnr;by_cases hkv:qeq nd.kind=true
 . have Hkv:=Lib.hid hkv;clear hkv;by_cases hk:(nf:Int)=qav nd.kind
   . have Hk:=Lib.hid hk;have hb:((nf:Int) != qav nd.kind)=false:=by simpa using hk
     clear hk;go_enter Tryz.func142,Tryz.ntmps142;go_wp2_with fail;have hB:=Blk.new w 81 #[.int .i64 nd.kind,.slice Af nf cf,.slice Ar nr cr];have hG:=grownBy_alloc w (.cells #[.int .i64 nd.kind,.slice Af nf cf,.slice Ar nr cr] 81) none;generalize w.alloc (.cells #[.int .i64 nd.kind,.slice Af nf cf,.slice Ar nr cr] 81)=wa at hB hG |-;have c0:wa.cell? ⟨w.heap.size,0,none⟩=some (.int .i64 nd.kind):=hB.cell 0;have c1:wa.cell? ⟨w.heap.size,1,none⟩=some (.slice Af nf cf):=hB.cell 1
     go_region_held3 (λw'=>w'.cell? ⟨w.heap.size,0,none⟩=some (.int .i64 nd.kind)/\w'.cell? ⟨w.heap.size,1,none⟩=some (.slice Af nf cf)) (go_keep)
      (first
       |(go_at_call 185;refine(qhy _ _ Hkv.out).mono ?_;rintro e w' ⟨rfl,rfl⟩)
       |(go_at_call 186;refine(qiv _ _).mono ?_;rintro e w2 ⟨rfl,hg2⟩;have k0:=hg2.cell (by exact c0) (by simp);have k1:=hg2.cell (by exact c1) (by simp)))
     have hG2:w.grownBy w2 none:=qad (qay hG) hg2;have hB2:=hB.grown (qad (qay (qah wa none)) hg2) (by simp);have hf2:=hf.new hG2;have hr2:=hr.new hG2;clear c0 c1 k0 k1 hG hg2 hB hf hr;have c0:w2.cell? ⟨w.heap.size,0,none⟩=some (.int .i64 nd.kind):=hB2.cell 0;have c1:w2.cell? ⟨w.heap.size,1,none⟩=some (.slice Af nf cf):=hB2.cell 1;have c2:w2.cell? ⟨w.heap.size,2,none⟩=some (.slice Ar nr cr):=hB2.cell 2;go_wp2_with fail
     go_loop [23] (λi=>∃k:Nat,k<=nf/\i=.int .i64 k/\(nd.frm.take k).all (λy=>decide (0<=y)&&decide (y<at_))=true) (λi=>nf-(intOf i).toNat)
     case atStart=>exact⟨0,Nat.zero_le _,rfl,rfl⟩
     case round=>
      obtain⟨k,hk,rfl,hall⟩:=hrel;have qV:=Lib.hid hall;clear hall;by_cases hlt:k<nf
      . obtain⟨g,o,x,rfl,hx,hcell⟩:=hf2.at_ hlt;have Hx:=Lib.hid hx;clear hx;by_cases hin:0<=x/\x<at_
        . have Hin:=Lib.hid hin;obtain⟨hb1,hb2⟩:=hin;go_wp2;go_round
          case rel=>exact⟨k+1,by omega,by go_num,by rw[qg7 _ Hx.out,qV.out];simp[Hin.out]⟩
          case measure=>simp[intOf];omega
        . have Hr:Hid (qbz nd at_=false):=by
           show qbz nd at_=false
           have:nd.frm.all (λy=>decide (0<=y)&&decide (y<at_))=false:=by
            rw[List.all_eq_false];exact⟨x,mem_of_getElem? Hx.out,by simpa using hin⟩
           unfold qbz;rw[this];simp
          have hb:x<0∨(0<=x/\at_<=x):=by omega
          clear hin;rcases hb with hb|⟨hb,hb'⟩
          all_goals
           go_wp2;go_ret;exact⟨by rw[Hr.out];rfl,hG2⟩
      . have Hr:Hid (qbz nd at_=if nd.kind=0 then qal nd.row else decide (nr=0)):=by
         show qbz nd at_=if nd.kind=0 then qal nd.row else decide (nr=0);have h1:=qV.out;rw[show k=nf by omega,Hnf.out,take_length]at h1;unfold qbz;rw[h1,Hkv.out,<-Hnf.out,decide_eq_true Hk.out,Hnr.out];simp
        by_cases hk0:nd.kind=0
        . have Hr':Hid (qbz nd at_=qal nd.row):=by
           show qbz nd at_=qal nd.row;rw[Hr.out,if_pos hk0]
          have hb0:(nd.kind==0)=true:=by simpa using hk0
          clear hk0 Hr;go_wp2_with fail;refine(qs2 _ nd.row _ hr2).mono ?_;rintro e w' ⟨rfl,rfl⟩;go_wp2;go_ret;exact⟨by rw[Hr'.out];rfl,hG2⟩
        . have Hr':Hid (qbz nd at_=((nr:Int) == 0)):=by
           show qbz nd at_=((nr:Int)==0);rw[Hr.out,if_neg hk0,Bool.eq_iff_iff];simp
          have hb0:(nd.kind==0)=false:=by simpa using hk0
          clear hk0 Hr;go_wp2;go_ret;exact⟨by rw[Hr'.out];rfl,hG2⟩
   . have hb:((nf:Int) != qav nd.kind)=true:=by simpa using hk
     have Hr:Hid (qbz nd at_=false):=by
      show qbz nd at_=false;unfold qbz;rw[<-Hnf.out,decide_eq_false hk];simp
     clear hk;go_enter Tryz.func142,Tryz.ntmps142;go_wp2_with fail;have hB:=Blk.new w 81 #[.int .i64 nd.kind,.slice Af nf cf,.slice Ar nr cr];have hG:=grownBy_alloc w (.cells #[.int .i64 nd.kind,.slice Af nf cf,.slice Ar nr cr] 81) none;generalize w.alloc (.cells #[.int .i64 nd.kind,.slice Af nf cf,.slice Ar nr cr] 81)=wa at hB hG |-;have c0:wa.cell? ⟨w.heap.size,0,none⟩=some (.int .i64 nd.kind):=hB.cell 0;have c1:wa.cell? ⟨w.heap.size,1,none⟩=some (.slice Af nf cf):=hB.cell 1
     go_region_held3 (λw'=>w'.cell? ⟨w.heap.size,0,none⟩=some (.int .i64 nd.kind)/\w'.cell? ⟨w.heap.size,1,none⟩=some (.slice Af nf cf)) (go_keep)
      (first
       |(go_at_call 185;refine(qhy _ _ Hkv.out).mono ?_;rintro e w' ⟨rfl,rfl⟩)
       |(go_at_call 186;refine(qiv _ _).mono ?_;rintro e w2 ⟨rfl,hg2⟩;have k0:=hg2.cell (by exact c0) (by simp);have k1:=hg2.cell (by exact c1) (by simp)))
     have hG2:w.grownBy w2 none:=qad (qay hG) hg2;go_wp2;go_ret;exact⟨by rw[Hr.out];rfl,hG2⟩
 . have qeU:qeq nd.kind=false:=by simpa using hkv
   have Hr:Hid (qbz nd at_=false):=by
    show qbz nd at_=false;unfold qbz;rw[qeU];simp
   have Hkv:=Lib.hid qeU;clear hkv qeU;go_enter Tryz.func142,Tryz.ntmps142;go_wp2_with fail
   go_quiet ((go_at_call 185;exact qdh (qhy _ _ Hkv.out)))
   go_wp2;go_ret;exact⟨by rw[Hr.out];rfl,qcn (grownBy_alloc _ _ _) _⟩
theorem qxo(v:Value)(nd:Node)(at_:Int)(w:World)(h:NV w v nd){b:Bool}(hb:qbz nd at_=b) :
   Calls Tryz.prog 142 #[v,.int .i64 at_] w λe w'=>e=.returned (.bool b)/\w.grownBy w' none:=hb▸qz9 v nd at_ w h
def ptrs(B:Nat->Nat)(l:List Nat):List Value:=l.map (λj=>pointer (some ⟨B j,0,none⟩))
structure Rws(w:World)(base m:Nat)(B:Nat->Nat)(R:Nat->Value×List Nat):Prop where
 rows:∀a,a<m->w.ownsRow base 177 1 (R a).1 (R a).2.length (ptrs B (R a).2)
 apart:∀a b,a<m->b<m->a≠b->(R a).1.ownBlock=none∨(R a).1.ownBlock≠(R b).1.ownBlock
theorem Rws.grown{w w':World}{base m:Nat}{B:Nat->Nat}{R:Nat->Value×List Nat}{row:Option Nat}(h:Rws w base m B R)(hg:w.grownBy w' row)(hr:qh w 177 row):Rws w' base m B R:=
 ⟨λa ha=>qc4 (h.rows a ha) hg hr,h.apart⟩
theorem Rws.push{w w':World}{base m N a j:Nat}{B:Nat->Nat}{R:Nat->Value×List Nat}{v':Value}(h:Rws w base m B R)(ha:a<m)(hg:w.grownBy w' (R a).1.ownBlock)
   (ho:w'.ownsRow base 177 1 v' ((R a).2.length+1) (ptrs B (R a).2++[.pointer (some ⟨B j,0,none⟩)])) (hN:w.heap.size<=N) (hob:v'.ownBlock=(R a).1.ownBlock∨v'.ownBlock=some N) :
   Rws w' base m B (upd R a (v',(R a).2++[j])):=by
 constructor
 . intro b hb;by_cases hba:b=a
   . subst hba;rw[upd_same];simpa[ptrs]using ho
   . rw[qaw _ _ hba];refine(h.rows b hb).kept hg ?_;rcases h.apart b a hb ha hba with h1|h1
     . exact .inl h1
     . exact .inr h1
 . intro b c hb hc hbc
   have old:∀d,d<m->d≠a->(R d).1.ownBlock=none∨((R d).1.ownBlock≠v'.ownBlock/\(v'.ownBlock=none∨v'.ownBlock≠(R d).1.ownBlock)):=by
    intro d hd hda;rcases h.apart d a hd ha hda with h1|h1
    . exact .inl h1
    . right;rcases hob with h2|h2
      . rw[h2];exact⟨h1,.inr (λe=>h1 e.symm)⟩
      . have hlt:=(h.rows d hd).lt;have:(R d).1.ownBlock≠some N:=λe=>by have:=(hlt N e).2;omega
        rw[h2];exact⟨this,.inr (λe=>this e.symm)⟩
   by_cases hba:b=a
   . subst hba;rw[upd_same,qaw _ _ (λe=>hbc e.symm)];show v'.ownBlock=none∨v'.ownBlock≠(R c).1.ownBlock;rcases old c hc (λe=>hbc e.symm)with h1|h1
     . rw[h1];cases h2:v'.ownBlock
       . exact .inl rfl
       . exact .inr (by simp)
     . exact h1.2
   . rw[qaw _ _ hba];by_cases hca:c=a
     . subst hca;rw[upd_same];rcases old b hb hba with h1|h1
       . exact .inl h1
       . exact .inr h1.1
     . rw[qaw _ _ hca];exact h.apart b c hb hc hbc
structure Gr(w:World)(base k:Nat)(B:Nat->Nat)(R:Nat->Value×List Nat):Prop where
 blk:∀i,i<k->Blk w (B i) 179 #[.int .i64 (i:Nat),(R (2*i+1)).1,(R (2*i+2)).1]
 inj:∀i j,i<k->j<k->B i=B j->i=j
 low:∀i,i<k->base<=B i
 rw_:Rws w base (2*k+1) B R
 mem:∀a,a<2*k+1->∀j∈(R a).2,j<k
 len:∀a,(R a).2.length<=1000
 rest:∀a,2*k+1<=a->R a=(.slice none 0 0,[])
 zG:base<=w.heap.size
theorem Gr.grown{w w':World}{base k:Nat}{B:Nat->Nat}{R:Nat->Value×List Nat}{row:Option Nat}(h:Gr w base k B R)(hg:w.grownBy w' row)(h1:qh w 177 row)(h2:qh w 179 row):Gr w' base k B R:=
 ⟨λi hi=>(h.blk i hi).grown hg (λe=>h2 _ e.symm _ (h.blk i hi)),h.inj,h.low,h.rw_.grown hg h1,h.mem,h.len,h.rest,Nat.le_trans h.zG hg.size⟩
theorem Gr.new{w w':World}{base k:Nat}{B:Nat->Nat}{R:Nat->Value×List Nat}(h:Gr w base k B R)(hg:w.grownBy w' none):Gr w' base k B R:=h.grown hg (qh.none _ _) (qh.none _ _)
theorem Gr.form{w:World}{base k a:Nat}{B:Nat->Nat}{R:Nat->Value×List Nat}(h:Gr w base k B R)(ha:a<2*k+1):∃A c,(R a).1=.slice A (R a).2.length c /\
   (0<(R a).2.length->∃g,A=some ⟨g,0,none⟩/\∀j f,(R a).2[j]?=some f->w.cell? ⟨g,j,none⟩=some (.pointer (some ⟨B f,0,none⟩))):=by
 have hr:=h.rw_.rows a ha;rcases hr.2 with ⟨h1,h2⟩|⟨g,cap,cur,h1,_,hh,_,_,_,ht⟩
 . refine⟨none,0,by rw[h1,h2],λh0=>?_⟩;omega
 . refine⟨some ⟨g,0,none⟩,cap,h1,λ_=>⟨g,rfl,λj f hj=>?_⟩⟩;have hlt:=(List.getElem?_eq_some_iff.1 hj).1;rw[h1]at hr;rw[ownsRow.cellAt hr j (by omega)];simp[ptrs,hj]
theorem Gr.qeV{w w':World}{base k i c N j:Nat}{B:Nat->Nat}{R:Nat->Value×List Nat}{v':Value}(h:Gr w base k B R)(hi:i<k)(hc:c=1∨c=2)(hj:j<k)(hl:(R (2*i+c)).2.length<1000)(hg:w.grownBy w' (R (2*i+c)).1.ownBlock)
   (ho:w'.ownsRow base 177 1 v' ((R (2*i+c)).2.length+1) (ptrs B (R (2*i+c)).2++[.pointer (some ⟨B j,0,none⟩)])) (hN:w.heap.size<=N) (hob:v'.ownBlock=(R (2*i+c)).1.ownBlock∨v'.ownBlock=some N) :
   Blk w' (B i) 179 #[.int .i64 (i:Nat),(R (2*i+1)).1,(R (2*i+2)).1]/\Gr (w'.setCell ⟨B i,c,none⟩ v') base k B (upd R (2*i+c) (v',(R (2*i+c)).2++[j])):=by
 have ha:2*i+c<2*k+1:=by omega
 have hbn:∀i',i'<k->some (B i')≠(R (2*i+c)).1.ownBlock:=λi' hi' e=>qh.own (h.rw_.rows _ ha) (show 179≠177 by decide) _ e.symm _ (h.blk i' hi');have hb':∀i',i'<k->Blk w' (B i') 179 #[.int .i64 (i':Nat),(R (2*i'+1)).1,(R (2*i'+2)).1]:=λi' hi'=>(h.blk i' hi').grown hg (hbn i' hi');have hst:w'.grownBy (w'.setCell ⟨B i,c,none⟩ v') (some (B i)):=qbf (p:=⟨B i,c,none⟩) (qah w' (some (B i))) (.inr rfl) v';refine⟨hb' i hi,?_,h.inj,h.low,(h.rw_.push ha hg ho hN hob).grown hst (qh.blk (hb' i hi) (by decide)),?_,?_,?_,?_⟩
 . intro i' hi';by_cases hii:i'=i
   . subst hii;have:=(hb' i' hi).jr c v';rcases hc with rfl|rfl
     . rw[upd_same,qaw _ _ (by omega)];exact this
     . rw[upd_same,qaw _ _ (by omega)];exact this
   . rw[qaw _ _ (by omega),qaw _ _ (by omega)];exact(hb' i' hi').far (λe=>hii (h.inj _ _ hi' hi e)) _
 . intro a haa x hx;by_cases hae:a=2*i+c
   . subst hae;rw[upd_same]at hx;rcases mem_append.1 hx with hx|hx
     . exact h.mem _ ha x hx
     . simp at hx;omega
   . rw[qaw _ _ hae]at hx;exact h.mem a haa x hx
 . intro a;by_cases hae:a=2*i+c
   . subst hae;rw[upd_same,length_append];simp;omega
   . rw[qaw _ _ hae];exact h.len a
 . intro a haa;rw[qaw _ _ (by omega)];exact h.rest a haa
 . rw[size_setCell];exact Nat.le_trans h.zG hg.size
theorem q2z:(Tryz.prog.info? 177).map (λi=>(i.zero,i.size,i.bytes))=some (some (.pointer none),1,8):=by kernel_rfl
theorem qlX:(Tryz.prog.info? 179).map (λi=>(i.zero,i.size,i.bytes))=some (some (.agg #[.int .i64 0,.slice none 0 0,.slice none 0 0]),3,56):=by kernel_rfl
theorem qlY{w:World}{base k i j:Nat}{B:Nat->Nat}{R:Nat->Value×List Nat}(h:Gr w base k B R)(hi:i<k)(hj:j<k) :
   (binOp .eql 177 (.pointer (some ⟨B i,0,none⟩)) (.pointer (some ⟨B j,0,none⟩))).run Tryz.prog w=.ok (.bool (decide (i=j))) w:=by
 obtain⟨i0,hi0,_,hz1,_⟩:=info_parts qlX;by_cases hij:i=j
 . subst hij;rw[decide_eq_true rfl];exact run_eql_ptr_same w _ Tryz.underlying177 hi0
 . rw[decide_eq_false hij];exact run_eql_ptr_other w Tryz.underlying177 hi0 (by rw[hz1];decide) (λe=>hij (h.inj i j hi hj (by injection e))) (h.blk i hi) (h.blk j hj)
theorem qj5{w:World}{base k n f:Nat}{B:Nat->Nat}{R:Nat->Value×List Nat}(h:Gr w base k B R)(hn:n<k)(hf:f<k){b:Bool}(hb:decide (f∈(R (2*n+1)).2)=b) :
   Calls Tryz.prog 188 #[.pointer (some ⟨B n,0,none⟩),.pointer (some ⟨B f,0,none⟩)] w λe w'=>e=.returned (.bool b)/\w=w':=by
 obtain⟨A,c,hA,hc⟩:=h.form (a:=2*n+1) (by omega);have hlen:=h.len (2*n+1);have c1:w.cell? ⟨B n,1,none⟩=some (R (2*n+1)).1:=(h.blk n hn).cell 1;rw[hA]at c1;have hmem:=h.mem (2*n+1) (by omega);generalize (R (2*n+1)).2=l at *;have Hb:=Lib.hid hb;have qbQ:=Lib.hid hmem;clear hb hA hmem;go_enter Tryz.func188,Tryz.ntmps188;go_wp2_with fail
 go_loop [12] (λi=>∃k':Nat,k'<=l.length/\i=.int .i64 k'/\(l.take k').all (λx=>decide (x≠f))=true) (λi=>l.length-(intOf i).toNat)
 case atStart=>exact⟨0,Nat.zero_le _,rfl,rfl⟩
 case round=>
  obtain⟨k',hk,rfl,hall⟩:=hrel;have qV:=Lib.hid hall;clear hall;by_cases hlt:k'<l.length
  . obtain⟨g,rfl,hcs⟩:=hc (by omega);have hx:=getElem?_eq_getElem hlt;have hcell:=hcs k' _ hx;have Hx:=Lib.hid hx;have hxk:=qbQ.out _ (getElem_mem hlt);generalize l[k']=x at *;have he:=qlY h hxk hf;clear hcs hx;by_cases hxf:x=f
    . have Hr:Hid (b=true):=by
       show b=true;rw[<-Hb.out,decide_eq_true_eq,<-hxf];exact mem_of_getElem? Hx.out
      rw[decide_eq_true hxf]at he;clear hxf;go_wp2;go_ret;exact⟨by rw[Hr.out];rfl,rfl⟩
    . have Hxf:=Lib.hid hxf;rw[decide_eq_false hxf]at he;clear hxf;go_wp2;go_round
      case rel=>exact⟨k'+1,by omega,by go_num,by rw[qg7 _ Hx.out,qV.out];simp[Hxf.out]⟩
      case measure=>simp[intOf];omega
  . have Hr:Hid (b=false):=by
     show b=false;rw[<-Hb.out,decide_eq_false_iff_not];have h1:=qV.out;rw[take_of_length_le (by omega)]at h1;intro hm;simpa using List.all_eq_true.1 h1 f hm
    go_wp2;go_ret;exact⟨by rw[Hr.out];rfl,rfl⟩
theorem Gr.row{w:World}{base k a:Nat}{B:Nat->Nat}{R:Nat->Value×List Nat}(h:Gr w base k B R)(ha:a<2*k+1):w.ownsRow base 177 1 (R a).1 (R a).2.length (ptrs B (R a).2):=h.rw_.rows a ha
theorem quj{ops:Array Oper}{rest:List Oper}{o:Oper}{a:Act}{Q:Exit->Act->World->Prop}{w:World}{base k i c j:Nat}{B:Nat->Nat}{R:Nat->Value×List Nat}(G:Gr w base k B R)(hi:i<k)(hc:c=1∨c=2)(hj:j<k)
   (hl:(R (2*i+c)).2.length<1000) (s x:Operand) (hgd:o.guard=none) (ho:o.op=.call {callee:=.builtin .append,args:=#[s,x],argTypes:=#[124,124]})
   {v:Value} (hv:(R (2*i+c)).1=v) (hs:a.eval s=v) {N:Nat} (hx:a.eval x=.slice (some ⟨N,0,none⟩) 1 1) (hN:N=w.heap.size)
   (h:∀A n cc w',w'.cell? ⟨B i,c,none⟩=some v->w'.frozen? ⟨B i,c,none⟩=false->Gr (w'.setCell ⟨B i,c,none⟩ (.slice A n cc)) base k B (upd R (2*i+c) (.slice A n cc,(R (2*i+c)).2++[j])) ->
    Below base w (w'.setCell ⟨B i,c,none⟩ (.slice A n cc))->wpList Tryz.prog ops Q rest (a.put o.dst (.slice A n cc)) w') :
   wpList Tryz.prog ops Q (o::rest) a (w.alloc (.cells #[.pointer (some ⟨B j,0,none⟩)] 177)):=by
 subst hv;subst hN;have hrow:=G.row (a:=2*i+c) (by omega);refine qg8 s x 124 _ 1 8 Tryz.underlying124 q2z rfl (by decide) (by decide) hgd ho hrow (by omega) G.zG rfl (by simp[oneCell']) hs hx ?_;intro v' w' h1 h2 h3
 obtain⟨A,cc,hv'⟩:∃A cc,v'=.slice A ((R (2*i+c)).2.length+1) cc:=by
  rcases h1.2 with ⟨hv,h0⟩|⟨g,cap,cur,hv,_⟩
  . omega
  . exact⟨_,_,hv⟩
 subst hv';obtain⟨hb,hG⟩:=G.qeV hi hc hj hl h2 h1 (Nat.le_succ _) h3;refine h A _ cc w' ?_ (hb.frozen c) hG ?_
 . rcases hc with rfl|rfl
   . exact hb.cell 1
   . exact hb.cell 2
 . refine((q5n h2 ?_ G.zG).setCell (p:=⟨B i,c,none⟩) (G.low i hi) _);intro g e;exact(hrow.lt g e).1
def qlZ(w:World)(base k n f:Nat)(B:Nat->Nat)(R:Nat->Value×List Nat)(e:Ending)(w':World):Prop:=
 e=.returned (.tuple #[])/\∃R',Gr w' base k B R'/\Below base w w'/\(∀a,(R' a).2=qf1 n f (λa=>(R a).2) a)/\R' 0=R 0
theorem qmA{w:World}{base k n f:Nat}{B:Nat->Nat}{R:Nat->Value×List Nat}(h:Gr w base k B R)(hn:n<k)(hf:f<k)(hl1:(R (2*n+1)).2.length<1000)(hl2:(R (2*f+2)).2.length<1000) :
   Calls Tryz.prog 143 #[.pointer (some ⟨B n,0,none⟩),.pointer (some ⟨B f,0,none⟩)] w (qlZ w base k n f B R):=by
 by_cases hm:f∈(R (2*n+1)).2
 . have Hm:=Lib.hid hm;clear hm;go_enter Tryz.func143,Tryz.ntmps143;go_wp2_with fail;refine(qj5 h hn hf (b:=true) (by simpa using Hm.out)).mono ?_;rintro e w' ⟨rfl,rfl⟩;go_wp2_with fail;refine bodyPost_ret (results_none rfl _ _ _) rfl ⟨rfl,R,h,Below.refl _ _,λa=>?_,rfl⟩;unfold qf1;rw[if_pos Hm.out]
 . have Hm:=Lib.hid hm;clear hm;go_enter Tryz.func143,Tryz.ntmps143;go_wp2_with fail;refine(qj5 h hn hf (b:=false) (by simpa using Hm.out)).mono ?_;rintro e w' ⟨rfl,rfl⟩;have c1:w.cell? ⟨B n,1,none⟩=some (R (2*n+1)).1:=(h.blk n hn).cell 1;obtain⟨v1,hv1⟩:∃v1,(R (2*n+1)).1=v1:=⟨_,rfl⟩;rw[hv1]at c1;have Hv1:=Lib.hid hv1;clear hv1;go_wp2_with (at_builtin;go_must (refine quj h hn (.inl rfl) hf hl1 (.tmp 11) (.tmp 13) rfl rfl Hv1.out rfl rfl rfl ?_));intro A1 n1 cc1 w1 d1 d2 G1 qeW
   have d3:(w1.setCell ⟨B n,1,none⟩ (.slice A1 n1 cc1)).cell? ⟨B f,2,none⟩=some (R (2*f+2)).1:=by
    rw[(G1.blk f hf).cell 2];show some (upd R (2*n+1) (.slice A1 n1 cc1,(R (2*n+1)).2++[f]) (2*f+2)).1=_;rw[qaw _ _ (show 2*f+2≠2*n+1 by omega)]
   obtain⟨v2,hv2⟩:∃v2,(R (2*f+2)).1=v2:=⟨_,rfl⟩;rw[hv2]at d3
   have Hv2:Hid ((upd R (2*n+1) (.slice A1 n1 cc1,(R (2*n+1)).2++[f]) (2*f+2)).1=v2):=by
    show (upd R (2*n+1) (.slice A1 n1 cc1,(R (2*n+1)).2++[f]) (2*f+2)).1=v2;rw[qaw _ _ (show 2*f+2≠2*n+1 by omega)];exact hv2
   clear hv2;go_wp2_with (at_builtin;go_must (refine quj (i:=f) (c:=2) (j:=n) G1 hf (.inr rfl) hn ?_ (.tmp 21) (.tmp 23) rfl rfl Hv2.out rfl rfl (size_setCell _ _ _).symm ?_))
   . rw[qaw _ _ (show 2*f+2≠2*n+1 by omega)];exact hl2
   . intro A2 n2 cc2 w2 d4 d5 G2 qeX;go_wp2_with fail;refine bodyPost_ret (results_none rfl _ _ _) rfl ⟨rfl,_,G2,qeW.trans qeX,λa=>?_,by rw[qaw _ _ (by omega),qaw _ _ (by omega)]⟩;unfold qf1;rw[if_neg Hm.out];unfold upd;by_cases h1:a=2*f+2
     . rw[if_pos h1,if_pos h1,if_neg (show 2*f+2≠2*n+1 by omega)]
     . rw[if_neg h1,if_neg h1];by_cases h2:a=2*n+1
       . rw[if_pos h2,if_pos h2]
       . rw[if_neg h2,if_neg h2]
theorem Gr.node{w:World}{base k:Nat}{B:Nat->Nat}{R:Nat->Value×List Nat}(h:Gr w base k B R) :
   Gr (w.alloc (.cells #[.int .i64 (k:Nat),.slice none 0 0,.slice none 0 0] 179)) base (k+1) (upd B k w.heap.size) R:=by
 have hB:∀a,a<2*k+1->ptrs (upd B k w.heap.size) (R a).2=ptrs B (R a).2:=by
  intro a ha;unfold ptrs;apply map_congr_left;intro j hj;rw[qaw _ _ (by have:=h.mem a ha j hj;omega)]
 have r1:=h.rest (2*k+1) (by omega);have r2:=h.rest (2*k+2) (by omega);refine⟨?_,?_,?_,⟨?_,?_⟩,?_,h.len,λa ha=>h.rest a (by omega),by simp;have:=h.zG;omega⟩
 . intro i hi;by_cases hik:i=k
   . subst hik;rw[upd_same,r1,r2];exact Blk.new w _ _
   . rw[qaw _ _ hik];exact(h.blk i (by omega)).alloc _
 . intro i j hi hj;by_cases hik:i=k
   . subst hik;by_cases hjk:j=i
     . exact λ_=>hjk.symm
     . rw[upd_same,qaw _ _ hjk];intro e;have:=(h.blk j (by omega)).lt;omega
   . by_cases hjk:j=k
     . subst hjk;rw[upd_same,qaw _ _ hik];intro e;have:=(h.blk i (by omega)).lt;omega
     . rw[qaw _ _ hik,qaw _ _ hjk];exact h.inj i j (by omega) (by omega)
 . intro i hi;by_cases hik:i=k
   . subst hik;rw[upd_same];exact h.zG
   . rw[qaw _ _ hik];exact h.low i (by omega)
 . intro a ha;by_cases hak:a<2*k+1
   . rw[hB a hak];exact(h.rw_.rows a hak).alloc _
   . rw[h.rest a (by omega)];exact ownsRow_nil _ _ _ _
 . intro a b ha hb hab;by_cases hak:a<2*k+1
   . by_cases hbk:b<2*k+1
     . exact h.rw_.apart a b hak hbk hab
     . rw[h.rest b (by omega)];cases hx:(R a).1.ownBlock
       . exact .inl rfl
       . exact .inr (by simp[ownBlock])
   . rw[h.rest a (by omega)];exact .inl rfl
 . intro a ha j hj;by_cases hak:a<2*k+1
   . have:=h.mem a hak j hj;omega
   . rw[h.rest a (by omega)]at hj;simp at hj
theorem Gr.qeY{w w':World}{base k N j:Nat}{B:Nat->Nat}{R:Nat->Value×List Nat}{v':Value}(h:Gr w base k B R)(hj:j<k)(hl:(R 0).2.length<1000)(hg:w.grownBy w' (R 0).1.ownBlock)
   (ho:w'.ownsRow base 177 1 v' ((R 0).2.length+1) (ptrs B (R 0).2++[.pointer (some ⟨B j,0,none⟩)])) (hN:w.heap.size<=N) (hob:v'.ownBlock=(R 0).1.ownBlock∨v'.ownBlock=some N) :
   Gr w' base k B (upd R 0 (v',(R 0).2++[j])):=by
 have hbn:∀i',i'<k->some (B i')≠(R 0).1.ownBlock:=λi' hi' e=>qh.own (h.rw_.rows 0 (by omega)) (show 179≠177 by decide) _ e.symm _ (h.blk i' hi');refine⟨?_,h.inj,h.low,h.rw_.push (by omega) hg ho hN hob,?_,?_,?_,Nat.le_trans h.zG hg.size⟩
 . intro i' hi';rw[qaw _ _ (by omega),qaw _ _ (by omega)];exact(h.blk i' hi').grown hg (hbn i' hi')
 . intro a haa x hx;by_cases hae:a=0
   . subst hae;rw[upd_same]at hx;rcases mem_append.1 hx with hx|hx
     . exact h.mem _ haa x hx
     . simp at hx;omega
   . rw[qaw _ _ hae]at hx;exact h.mem a haa x hx
 . intro a;by_cases hae:a=0
   . subst hae;rw[upd_same,length_append];simp;omega
   . rw[qaw _ _ hae];exact h.len a
 . intro a haa;rw[qaw _ _ (by omega)];exact h.rest a haa
def quk(w:World)(qa:List Node)(e:Ending)(w':World):Prop:=
 ∃gv,e=.returned (.tuple #[gv,.bool (qaf qa)])/\w.grownBy w' none/\(qaf qa=true->∃B R,Gr w' w.heap.size qa.length B R/\(R 0).1=gv/\∀a,(R a).2=qxl qa a)
theorem Gr.at0{w:World}{base k n c f:Nat}{A:Option Addr}{B:Nat->Nat}{R:Nat->Value×List Nat}(h:Gr w base k B R)(hv:(R 0).1=.slice A n c)(hr:(R 0).2=range n)(hf:f<n) :
   ∃g,A=some ⟨g,0,none⟩/\w.cell? ⟨g,f,none⟩=some (.pointer (some ⟨B f,0,none⟩)):=by
 obtain⟨A',c',h1,h2⟩:=h.form (a:=0) (by omega);rw[hv]at h1;injection h1 with h1 _ _;subst h1;rw[hr,length_range]at h2;obtain⟨g,hg,hc⟩:=h2 (by omega);exact⟨g,hg,hc f f (by simp[hf])⟩
theorem q0a(v:Value)(qa:List Node)(w:World)(h:RN w v qa)(hl:10<qa.length):Calls Tryz.prog 92 #[v] w (quk w qa):=by
 have Hv:Hid (qaf qa=false):=by
  show qaf qa=false;unfold qaf;simp;omega
 obtain⟨A,n,c,rfl,_,hn,hle⟩:=h.form';have hl':(10:Int)<n:=by omega
 clear hl;have Hn:=Lib.hid hn;clear hn;go_enter Tryz.func92,Tryz.ntmps92;go_wp2_with fail
 go_ret2
 exact⟨_,by rw[Hv.out];rfl,qah _ _,λh=>by rw[Hv.out]at h;cases h⟩
theorem q20(v:Value)(qa:List Node)(w:World)(h:RN w v qa)(hl:qa.length<=10):Calls Tryz.prog 92 #[v] w (quk w qa):=by
 obtain⟨A,n,c,rfl,_,hn,hle⟩:=h.form';have hl':n<=10:=by omega
 clear hl;have Hn:=Lib.hid hn;clear hn;obtain⟨i0,hi,hz0,hz1,hz2⟩:=info_parts q2z;go_enter Tryz.func92,Tryz.ntmps92;go_wp2_with (at_make;go_must (refine wpList_make_own _ rfl _ _ 124 rfl w.heap.size 177 i0 _ 1 Tryz.underlying124 hi hz0 hz1 _ _ _ n rfl rfl rfl (by rw[hz2];omega) (by unfold maxLen;omega) (Nat.le_refl _) ?_));intro w0 hown0 hg0;go_wp2_with fail
 go_loopw [4,5,19] (fun gv wd i wr=>∃ (k:Nat) (B:Nat->Nat) (R:Nat->Value × List Nat),k<=n/\i=.int .i64 k/\wd=.int .i64 (qgy qa k)/\(R 0).1=gv/\Gr wr w.heap.size k B R/\(∀ a,(R a).2=qdo qa k a) /\
     (qa.zipIdx.take k).all (λx=>qdm x.1 x.2 (wide qa))=true/\(∀a,(R a).2.length<=3*k)/\(R 0).2=range k/\w.grownBy wr none) (λ_ _ i _=>n-(intOf i).toNat)
 case atStart=>
  refine⟨0,λ_=>0,upd (λ_=>(.slice none 0 0,[])) 0 (.slice (some ⟨w.heap.size,0,none⟩) 0 n,[]),Nat.zero_le _,rfl,rfl,by rw[upd_same],?_,?_,rfl,?_,by rw[upd_same];rfl,hg0⟩
  . refine⟨λi hi=>by omega,λi j hi=>by omega,λi hi=>by omega,⟨?_,λa b ha hb hab=>by omega⟩,?_,?_,?_,hg0.size⟩
    . intro a ha;obtain rfl:a=0:=by omega
      rw[upd_same];exact hown0
    . intro a ha j hj;obtain rfl:a=0:=by omega
      rw[upd_same]at hj;simp at hj
    . intro a;unfold upd;split<;>simp
    . intro a ha;rw[qaw _ _ (by omega)]
  . intro a;unfold upd;split<;>rfl
  . intro a;unfold upd;split<;>simp
 case round=>
  obtain⟨k,B,R,hk,rfl,rfl,hR0,G,hL,hall,hlen,hrg,hg⟩:=hrel;have HR0:=Lib.hid hR0;have HL:=Lib.hid hL;have qV:=Lib.hid hall;have kK:=Lib.hid hlen;have Hrg:=Lib.hid hrg;clear hR0 hL hall hlen hrg hown0 hg0;by_cases hlt:k<n
  . have hwr:=h.new hg;obtain⟨g,o,nd,f,r,rfl,hx,e0,e1,e2,hf,hr⟩:=h.at_ hlt;have c0:=hg.cell e0 (by simp);have c1:=hg.cell e1 (by simp);have c2:=hg.cell e2 (by simp);have Hx:=Lib.hid hx;clear hx hwr e0 e1 e2;obtain⟨Af,nf,cf,rfl,_,hnf⟩:=hf.form';obtain⟨Ar,nr,cr,rfl,_,hnr⟩:=hr.form';have Hnf:=Lib.hid hnf;have Hnr:=Lib.hid hnr;clear hnf hnr;obtain⟨Ag,cg,hAg,_⟩:=G.form (a:=0) (by omega);obtain rfl:u4=.slice Ag k cg:=by rw[<-HR0.out,hAg,Hrg.out,length_range]
    clear hAg;have hnv:NV (wr.alloc (.cells #[.int .i64 nd.kind,.slice Af nf cf,.slice Ar nr cr] 81)) (.agg #[.int .i64 nd.kind,.slice Af nf cf,.slice Ar nr cr]) nd:=⟨_,_,rfl,(hf.new hg).alloc _,(hr.new hg).alloc _⟩;by_cases hfit:qbz nd k=true
    . have qW:=Lib.hid hfit;clear hfit;have qtB:nf<=2:=by have:=qr5 qW.out;rw[<-Hnf.out]at this;exact this
      go_wp2_with fail;refine(qxo _ nd k _ hnv qW.out).mono ?_;rintro e w2 ⟨rfl,hg2⟩;have hB2:=(Blk.new wr 81 #[.int .i64 nd.kind,.slice Af nf cf,.slice Ar nr cr]).grown hg2 (by simp);have d0:w2.cell? ⟨wr.heap.size,0,none⟩=some (.int .i64 nd.kind):=hB2.cell 0;have d1:w2.cell? ⟨wr.heap.size,1,none⟩=some (.slice Af nf cf):=hB2.cell 1;have d2:w2.cell? ⟨wr.heap.size,2,none⟩=some (.slice Ar nr cr):=hB2.cell 2;have qdF:wr.grownBy w2 none:=qad (grownBy_alloc _ _ _) hg2;clear c0 c1 c2 hnv hg2
      go_upto_if 30 with fail
      go_cut [5] (λwd wx=>wx=w2/\wd=.int .i64 (qgy qa (k+1))/\Hid (qdm nd k (wide qa)=true))
      case first=>
       by_cases hk0:nd.kind=0
       . have hb0:(nd.kind==0)=true:=by simpa using hk0
         have Hk0:=Lib.hid hk0;clear hk0
         have Hok:∀{b:Bool},decide (nr=wide qa)=b->Hid (qdm nd k (wide qa)=b):=by
          intro b hb;show qdm nd k (wide qa)=b;rw[qos,qW.out,if_pos Hk0.out,<-Hnr.out,hb,Bool.true_and]
         have Hw1:Hid (qgy qa (k+1)=(wide qa:Int)):=qyh Hx.out Hk0.out;by_cases hany:(qa.take k).any (λx=>x.kind==0)=true
         . rw[show qgy qa k=(wide qa:Int)from if_pos hany];clear hany;by_cases hwd:nr=wide qa
           . have qaS:=Hok (decide_eq_true hwd);have Hwd:=Lib.hid hwd;have hb1:((nr:Int) != (wide qa:Int))=false:=by rw[bne_eq_false_iff_eq];omega
             clear hwd Hok;go_wp2_with fail;go_meet;exact⟨rfl,by rw[Hw1.out,Hwd.out],qaS⟩
           . have qaS:=Hok (decide_eq_false hwd);have Hv:Hid (qaf qa=false):=qot Hx.out qaS.out;have hb1:((nr:Int) != (wide qa:Int))=true:=by rw[bne_iff_ne];omega
             clear hwd Hok qaS;go_wp2_with fail
             go_ret2
             exact⟨_,by rw[Hv.out];rfl,qad hg qdF,λh=>by rw[Hv.out]at h;cases h⟩
         . have qbR:(qa.take k).any (λx=>x.kind==0)=false:=by simpa using hany
           have hwf:=q5u Hx.out Hk0.out qbR;rw[<-Hnr.out]at hwf;have qaS:=Hok (decide_eq_true hwf.symm);have Hwd:=Lib.hid hwf;rw[show qgy qa k=-1 from if_neg hany];clear hany qbR hwf Hok;go_wp2_with fail;go_meet;exact⟨rfl,by rw[Hw1.out,Hwd.out],qaS⟩
       . have Hok:Hid (qdm nd k (wide qa)=true):=by
          show qdm nd k (wide qa)=true;rw[qos,qW.out,if_neg hk0];rfl
         have Hw:Hid (qgy qa (k+1)=qgy qa k):=qyi Hx.out hk0;have hb0:(nd.kind==0)=false:=by simpa using hk0
         clear hk0;go_wp2_with fail;go_meet;exact⟨rfl,by rw[Hw.out],Hok⟩
      case rest=>
       obtain⟨wo,rfl⟩:∃wo:World,wo=wr:=⟨_,rfl⟩;obtain⟨hwc,rfl,Hok⟩:=hcut;have hwc':=hwc.symm;clear hwc;subst hwc';clear d0 d2;have G3:=(G.new qdF).node;have hB3:=hB2.alloc (.cells #[.int .i64 (k:Nat),.slice none 0 0,.slice none 0 0] 179);have hg3:w.grownBy (w2.alloc (.cells #[.int .i64 (k:Nat),.slice none 0 0,.slice none 0 0] 179)) none:=qar (qad hg qdF) _;go_upto_region 15 with fail;obtain⟨B',hB'⟩:∃B',B'=upd B k w2.heap.size:=⟨_,rfl⟩;rw[<-hB']at G3;rw[show w2.heap.size=B' k by rw[hB',upd_same]];clear hB' hB2 d1 qdF;generalize w2.alloc (.cells #[.int .i64 (k:Nat),.slice none 0 0,.slice none 0 0] 179)=w3 at *;have d1:w3.cell? ⟨wo.heap.size,1,none⟩=some (.slice Af nf cf):=hB3.cell 1;go_wp2_with fail
       go_loopw [49] (λi wy=>∃(m:Nat) (R':Nat->Value×List Nat),m<=nf/\i=.int .i64 m/\Gr wy w.heap.size (k+1) B' R'/\(∀a,(R' a).2=qdj k (nd.frm.take m) (qdo qa k) a)/\(∀a,(R' a).2.length<=3*k+m)/\R' 0=R 0/\Below w.heap.size w3 wy) (λi _=>nf-(intOf i).toNat)
       case atStart=>exact⟨0,R,Nat.zero_le _,rfl,G3,λa=>HL.out a,λa=>by have:=kK.out a;omega,rfl,Below.refl _ _⟩
       case round=>
        obtain⟨m,R',hm,rfl,G',hL',hlen',hR',qhL⟩:=hrel;have HL':=Lib.hid hL';have yn:=Lib.hid hlen';have HR':=Lib.hid hR';clear hL' hlen' hR';have hgy:w.grownBy wr none:=q2i ((qjS hg3).trans qhL) none;have hR1:Hid ((R' 0).1=.slice Ag k cg):=by show (R' 0).1=_;rw[HR'.out,HR0.out]
        have hR2:Hid ((R' 0).2=range k):=by show (R' 0).2=_;rw[HR'.out,Hrg.out]
        by_cases hmf:m<nf
        . obtain⟨g1,o1,x,rfl,hx,hcell⟩:=(hf.new hgy).at_ hmf;have Hxm:=Lib.hid hx;clear hx;have hxb:=qc6 qW.out (mem_of_getElem? Hxm.out);obtain⟨x',rfl⟩:=Int.eq_ofNat_of_zero_le hxb.1;have hxk:x'<k:=by omega
          obtain⟨gg,rfl,hgc⟩:=G'.at0 hR1.out hR2.out hxk;clear hxb;go_wp2_with fail;refine(qmA G' (n:=k) (f:=x') (by omega) (by omega) (by have:=yn.out (2*k+1);omega) (by have:=yn.out (2*x'+2);omega)).mono ?_;rintro e w5 ⟨rfl,R5,G5,hb5,hl5,hr5⟩;have Hl5:=Lib.hid hl5;have Hr5:=Lib.hid hr5;clear hl5 hr5;go_wp2;go_roundw
          case rel=>
           refine⟨m+1,R5,by omega,by go_num,G5,λa=>?_,λa=>?_,by rw[Hr5.out,HR'.out],qhL.trans hb5⟩
           . rw[qz1 _ Hxm.out,Hl5.out a,show (λa=>(R' a).2)=qdj k (nd.frm.take m) (qdo qa k)from funext HL'.out];rfl
           . rw[Hl5.out a];have:=q71 k x' (λa=>(R' a).2) a;have:=yn.out a;omega
          case measure=>simp[intOf];omega
        . have hmn:m=nf:=by omega
          subst hmn;have hrow:=G'.row (a:=0) (by omega);have qbS:=hrow;rw[hR1.out,hR2.out]at qbS;go_wp2_with (at_builtin;go_must (refine qg8 (.tmp 60) (.tmp 62) 124 _ 1 8 Tryz.underlying124 q2z rfl (by decide) (by decide) rfl rfl qbS (by simp;omega) G'.zG rfl (by simp[oneCell']) (by simp[Act.eval]) rfl ?_));intro v' w5 qX hg5 qhM
          have G5:Gr w5 w.heap.size (k+1) B' (upd R' 0 (v',(R' 0).2++[k])):=by
           refine G'.qeY (j:=k) (by omega) (by have:=yn.out 0;omega) (by rw[hR1.out];exact hg5) (by rw[hR2.out];simpa using qX) (Nat.le_succ _) (by rw[hR1.out];exact qhM)
          have hgf:w.grownBy w5 none:=qbd hgy hg5 (λg e=>.inl (by
           have:=hrow.lt g (by rw[hR1.out];exact e);exact this.1))
          have hfin:∀a,(upd R' 0 (v',(R' 0).2++[k]) a).2=qdo qa (k+1) a:=by
           intro a;rw[qfy Hx.out];unfold qgq
           have hl0:qdj k nd.frm (qdo qa k)=λa=>(R' a).2:=by
            funext b;rw[HL'.out b,take_of_length_le (by rw[<-Hnf.out];omega)]
           show _=upd (qdj k nd.frm (qdo qa k)) 0 (qdj k nd.frm (qdo qa k) 0++[k]) a;rw[hl0];unfold upd;split<;>rfl
          have hlf:∀a,(upd R' 0 (v',(R' 0).2++[k]) a).2.length<=3*(k+1):=by
           intro a;by_cases ha:a=0
           . subst ha;rw[upd_same,hR2.out];simp;omega
           . rw[qaw _ _ ha];have:=yn.out a;omega
          have qbO:=Lib.hid hfin;have Hlf:=Lib.hid hlf;clear hfin hlf qX hg5 qhM;go_wp2;go_roundw
          case rel=>exact⟨k+1,B',_,by omega,by go_num,rfl,by rw[upd_same],G5,qbO.out,by rw[qg7 _ (qqz Hx.out),qV.out];exact Hok.out,Hlf.out,by rw[upd_same,hR2.out,range_succ],hgf⟩
          case measure=>simp[intOf];omega
    . have kL:qbz nd k=false:=by simpa using hfit
      have Hv:Hid (qaf qa=false):=qot Hx.out (by rw[qos,kL];rfl);have qW:=Lib.hid kL;clear hfit kL;go_wp2_with fail;refine(qxo _ nd k _ hnv qW.out).mono ?_;rintro e w2 ⟨rfl,hg2⟩;have hgf:w.grownBy w2 none:=qad (qar hg _) hg2;go_wp2_with fail
      go_ret2
      exact⟨_,by rw[Hv.out];rfl,hgf,λh=>by rw[Hv.out]at h;cases h⟩
  . have hkn:k=n:=by omega
    subst hkn
    have Hv:Hid (qaf qa=true):=by
     show qaf qa=true;have h1:=qV.out;rw[take_of_length_le (by rw[length_zipIdx,<-Hn.out];omega)]at h1;unfold qaf;rw[h1,<-Hn.out,Bool.true_and];exact decide_eq_true (by omega)
    go_wp2_with fail
    go_ret2
    refine⟨_,by rw[Hv.out];rfl,hg,λ_=>⟨B,R,?_,HR0.out,?_⟩⟩
    . rw[<-Hn.out];exact G
    . intro a;rw[HL.out a];unfold qxl;rw[<-Hn.out]
theorem qul(v:Value)(qa:List Node)(w:World)(h:RN w v qa):Calls Tryz.prog 92 #[v] w (quk w qa):=by
 by_cases hl:qa.length<=10
 . exact q20 v qa w h hl
 . exact q0a v qa w h (by omega)
theorem qq3(v:Value)(qa:List Node)(w:World)(h:RN w v qa) :
   Calls Tryz.prog 55 #[v] w λe w'=>e=.returned (.bool (qaf qa))/\w.grownBy w' none:=by
 obtain⟨A,n,c,rfl⟩:=h.val;go_enter Tryz.func55,Tryz.ntmps55;go_wp2_with fail;refine(qul _ qa _ h).mono ?_;rintro e w' ⟨gv,rfl,hg,_⟩;go_wp2;go_ret;exact⟨rfl,hg⟩
theorem qb8(v:Value)(qa:List Node)(w:World)(h:RN w v qa){b:Bool}(hb:qaf qa=b) :
   Calls Tryz.prog 55 #[v] w λe w'=>e=.returned (.bool b)/\w.grownBy w' none:=hb▸qq3 v qa w h
end
end Go.Proofs.YtacemdoejblgaaaGreatDoor

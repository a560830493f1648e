/- Part 17. Conditions: each statement's. -/
import Derived.Test.YtacemdoejblgaaaGreatDoorM03
namespace Go.Proofs.YtacemdoejblgaaaGreatDoor
set_option maxHeartbeats 6400000
set_option maxRecDepth 100000
section
open Go.RowKit
def Bytes(w:World)(B0:Nat)(v:Value)(n:Nat):Prop:=
 ∃ A c,v=.slice A n c/\n<=c/\(0 < n->∃ ad,A=some ad/\ad.block < B0/\∀ j,j < n->∃ b:Int,0<=b/\b<=255/\w.cell? (ad.add j)=some (.int .u8 b))
def Rdr(B0:Nat)(w:World)(rb:Nat)(p:Int):Prop:=
 ∃ bv n,n<=2000/\Blk w rb 92 #[bv,.int .i64 p]/\B0<=rb/\B0<=w.heap.size/\Bytes w B0 bv n
theorem Bytes.kept{w w':World}{B0 n:Nat}{v:Value}{row:Option Nat}(h:Bytes w B0 v n)(hg:w.grownBy w' row)(hB:B0<=w.heap.size)(hr:∀ g,row=some g->B0<=g):Bytes w' B0 v n:=by
 obtain⟨A,c,h1,h2,h3⟩:=h;refine⟨A,c,h1,h2,fun hn=>?_⟩;obtain⟨ad,hA,hb,hc⟩:=h3 hn;refine⟨ad,hA,hb,fun j hj=>?_⟩;obtain⟨b,h4,h5,h6⟩:=hc j hj;have hbl:=block_add ad j;exact⟨b,h4,h5,(qmb hg (by omega) (fun e=>by have:=hr _ e;omega)).trans h6⟩
theorem Rdr.kept{B0 rb:Nat}{w w':World}{p:Int}{row:Option Nat}(h:Rdr B0 w rb p)(hg:w.grownBy w' row)(hr:∀ g,row=some g->B0<=g/\g≠rb):Rdr B0 w' rb p:=by
 obtain⟨bv,n,h1,h2,h3,h4,h5⟩:=h;exact⟨bv,n,h1,h2.grown hg (fun e=>(hr _ e.symm).2 rfl),h3,Nat.le_trans h4 hg.size,h5.kept hg h4 (fun g e=>(hr g e).1)⟩
theorem Rdr.new{B0 rb:Nat}{w w':World}{p:Int}(h:Rdr B0 w rb p)(hg:w.grownBy w' none):Rdr B0 w' rb p:=h.kept hg (fun _ e=>by cases e)
theorem Rdr.blk{B0 rb:Nat}{w:World}{p:Int}(h:Rdr B0 w rb p):∃ bv,Blk w rb 92 #[bv,.int .i64 p]:=let ⟨bv,_,_,h2,_⟩:=h;⟨bv,h2⟩
theorem Rdr.qV{B0 rb:Nat}{w:World}{p:Int}{E:TypeId}(h:Rdr B0 w rb p)(hE:E≠92):qg w E (some rb):=by
 obtain⟨bv,hb⟩:=h.blk;exact qg.blk hb hE
theorem Rdr.lt{B0 rb:Nat}{w:World}{p:Int}(h:Rdr B0 w rb p):rb < w.heap.size:=by
 obtain⟨bv,hb⟩:=h.blk;exact hb.lt
theorem Rdr.own{B0 rb base size n:Nat}{w w':World}{p:Int}{E:TypeId}{v:Value}{xs:List Value}(h:Rdr B0 w rb p)(ho:w.ownsRow base E size v n xs)(hE:E≠92)(hb:B0<=base)(hg:w.grownBy w' v.ownBlock):Rdr B0 w' rb p:=by
 refine h.kept hg (fun g e=>⟨Nat.le_trans hb (ho.lt g e).1,fun hgr=>?_⟩);obtain⟨bv,hbk⟩:=h.blk;exact qg.own ho (Ne.symm hE) g e _ (hgr ▸ hbk)
theorem Rdr.drewN{B0 rb:Nat}{w:World}{p:Int}(h:Rdr B0 w rb p)(k:Nat):Rdr B0 (w.drewN k) rb p:=h
theorem q07(x y:Int)(hx:0<=x)(hx':x < 9223372036854775808)(hy:0<=y)(hy':y < 9223372036854775808):0<=bits .xor .i64 x y:=by
 obtain⟨a,rfl⟩:=Int.eq_ofNat_of_zero_le hx;obtain⟨b,rfl⟩:=Int.eq_ofNat_of_zero_le hy
 have zz:∀ a:Nat,a < 9223372036854775808->(BitVec.ofInt 64 (a:Int)).toNat=a:=fun a ha=>by
   rw [BitVec.ofInt_natCast,BitVec.toNat_ofNat];exact Nat.mod_eq_of_lt (by omega)
 have hx:a ^^^ b < 2 ^ 63:=Nat.xor_lt_two_pow (by omega) (by omega);show 0<=IntKind.i64.wrap ((BitVec.ofInt 64 (a:Int) ^^^ BitVec.ofInt 64 (b:Int)).toNat:Int);rw [BitVec.toNat_xor,zz a (by omega),zz b (by omega),IntKind.wrap_i64];omega
def q5p(B0 rb:Nat)(w:World)(p n:Int)(e:Ending)(w':World):Prop:=
 ∃ r:Int,e=.returned (.int .i64 r)/\(1<=n->0<=r/\r < n)/\(n < 1->r=0)/\Rdr B0 w' rb (p+1)/\w.grownBy w' (some rb)
theorem qcq(B0 rb:Nat)(p n:Int)(w:World)(h:Rdr B0 w rb p)(hp0:0<=p)(hp:p<=1000000) :
   Calls Tryz.prog 64 #[.pointer (some ⟨rb,0,none⟩),.int .i64 n] w (q5p B0 rb w p n):=by
 obtain⟨bv,m,hm,hb,hB,hBs,hby⟩:=h;have qcU:Bytes (w.setCell ⟨rb,1,none⟩ (.int .i64 (p+1))) B0 bv m:=hby.kept (qa2 (qag w (some rb)) (.inr rfl) _) hBs (fun g e=>by cases e;exact hB);have hb':Blk (w.setCell ⟨rb,1,none⟩ (.int .i64 (p+1))) rb 92 #[bv,.int .i64 (p+1)]:=hb.qC 1 _;have hR:Hid (Rdr B0 (w.setCell ⟨rb,1,none⟩ (.int .i64 (p+1))) rb (p+1)):=⟨bv,m,hm,hb',hB,by simpa using hBs,qcU⟩;have hG:Hid (w.grownBy (w.setCell ⟨rb,1,none⟩ (.int .i64 (p+1))) (some rb)):=qa2 (qag w (some rb)) (.inr rfl) _;have c0:w.cell? ⟨rb,0,none⟩=some bv:=hb.cell 0;have c1:w.cell? ⟨rb,1,none⟩=some (.int .i64 p):=hb.cell 1;have f1:w.frozen? ⟨rb,1,none⟩=false:=hb.frozen 1;obtain⟨A,c,rfl,hmc,hcells⟩:=qcU;clear hby hb hb';by_cases hn:n < 1
 . go_enter Tryz.func64,Tryz.ntmps64;go_wp2_with fail;go_ret;exact⟨0,rfl,by omega,fun _=>rfl,hR.out,hG.out⟩
 . by_cases hm0:m=0
   . subst hm0;go_enter Tryz.func64,Tryz.ntmps64;go_wp2_with fail;go_ret;exact⟨0,rfl,fun _=>by omega,fun _=>rfl,hR.out,hG.out⟩
   . obtain⟨ad,rfl,qiJ,hc⟩:=hcells (by omega);by_cases hk:p < m
     . obtain⟨q,rfl⟩:=Int.eq_ofNat_of_zero_le hp0;obtain⟨b,hb0,hb1,hcell⟩:=hc q (by omega);go_enter Tryz.func64,Tryz.ntmps64;go_wp2_with fail;go_ret;refine⟨_,rfl,fun _=>?_,fun _=>by omega,hR.out,hG.out⟩;exact⟨Int.emod_nonneg _ (by omega),Int.emod_lt_of_pos _ (by omega)⟩
     . obtain⟨q,rfl⟩:=Int.eq_ofNat_of_zero_le hp0;obtain⟨b,hb0,hb1,hcell⟩:=hc (q % m) (Nat.mod_lt _ (by omega));obtain⟨b',qiK,qiL,qcV⟩:=hc ((q * 7+3) % m) (Nat.mod_lt _ (by omega));have a1:(0:Int)<=(q:Int) % (m:Int):=Int.emod_nonneg _ (by omega);have a2:(q:Int) % (m:Int) < (m:Int):=Int.emod_lt_of_pos _ (by omega);have a3:(0:Int)<=((q:Int) * 7+3) % (m:Int):=Int.emod_nonneg _ (by omega);have a4:((q:Int) * 7+3) % (m:Int) < (m:Int):=Int.emod_lt_of_pos _ (by omega);have a5:(0:Int)<=(q:Int) / (m:Int):=Int.ediv_nonneg (by omega) (by omega);have a6:(q:Int) / (m:Int)<=(q:Int):=Int.ediv_le_self _ (by omega);go_enter Tryz.func64,Tryz.ntmps64;go_wp2_with fail
       go_quiet (fail)
       go_wp2_with fail;go_ret;refine⟨_,rfl,fun _=>?_,fun _=>by omega,hR.out.drewN _,qb8 hG.out _⟩;have hx:=q07 (b * 131+b' * 1117+(q:Int) * 29+(q:Int) / (m:Int) * 53) ((b * 131+b' * 1117+(q:Int) * 29+(q:Int) / (m:Int) * 53) / 64) (by omega) (by omega) (by omega) (by omega);exact⟨Int.tmod_nonneg _ hx,Int.tmod_lt_of_pos _ (by omega)⟩
end Go.Proofs.YtacemdoejblgaaaGreatDoor
namespace Go.Proofs.YtacemdoejblgaaaGreatDoor
open Go.RowKit
end
section
open Go.RowKit
def q3a(B0 rb:Nat)(w:World)(p:Int)(n:Nat)(e:Ending)(w':World):Prop:=
 ∃ v l,e=.returned v/\RI w' v l/\l.length=n/\(∀ x∈l,-1<=x/\x<=1009)/\∃ p',p<=p'/\p'<=p+3 * n+3/\Rdr B0 w' rb p'/\w.grownBy w' (some rb)
theorem qsn(B0 rb:Nat)(p:Int)(n:Nat)(w:World)(h:Rdr B0 w rb p)(hp0:0<=p)(hp:p<=900000)(hn:n<=20) :
   Calls Tryz.prog 98 #[.pointer (some ⟨rb,0,none⟩),.int .i64 n] w (q3a B0 rb w p n):=by
 have hB:B0<=w.heap.size:=by obtain⟨_,_,_,_,_,h4,_⟩:=h;exact h4
 go_enter Tryz.func98,Tryz.ntmps98;go_wp2_with fail
 go_loopw [5,6] (fun v i wr=>∃ (k:Nat) (l:List Int) (q:Int),k<=n/\i=.int .i64 k/\qf wr w.heap.size v l/\l.length=k/\(∀ x∈l,-1<=x/\x<=1009) /\
    p<=q/\q<=p+3 * k/\Rdr B0 wr rb q/\w.grownBy wr (some rb)) (fun _ i _=>n - (intOf i).toNat)
 case atStart=>exact⟨0,[],p,by omega,rfl,qf.empty w (Nat.le_refl _),rfl,by simp,by omega,by omega,h.new (World.grownBy_alloc _ _ _),qap (qag w _) _⟩
 case round=>
   obtain⟨k,l,q,hk,rfl,hown,hl,hin,hq1,hq2,hrd,hg⟩:=hrel;have qaT:l.length<=20:=by omega
   have Hl:=Lib.hid hl;have Hin:=Lib.hid hin;clear hl hin;by_cases hlt:k < n
   . go_wp2_with fail;refine(qcq B0 rb q _ _ hrd (by omega) (by omega)).mono ?_;rintro e w1 ⟨r1,rfl,hr1,_,zB,hg1⟩;go_wp2_with fail;refine(qcq B0 rb (q+1) _ _ zB (by omega) (by omega)).mono ?_;rintro e w2 ⟨r2,rfl,hr2,_,zZ,hg2⟩;go_wp2_with fail;refine(qcq B0 rb _ _ _ (zZ.new (World.grownBy_alloc _ _ _)) (by omega) (by omega)).mono ?_;rintro e w3 ⟨r3,rfl,hr3,_,vK,hg3⟩
     have hb3:Blk w3 w2.heap.size 3 #[.int .i64 r1,.int .i64 r2]:=(Blk.new w2 _ _).grown hg3 (by
       have:=zZ.lt;intro e;cases e;omega)
     have h3:=hr3 (by omega);have h1:=hr1 (by omega);have h2:=hr2 (by omega)
     obtain⟨x,hx1,hx2,hcell⟩:∃ x:Int,-1<=x/\x<=1009/\w3.cell? ⟨w2.heap.size,r3.toNat,none⟩=some (.int .i64 x):=by
       rcases (show r3=0∨r3=1 by omega) with rfl | rfl
       . exact⟨r1,by omega,by omega,hb3.cell 0⟩
       . exact⟨r2,by omega,by omega,hb3.cell 1⟩
     have qaU:wr.grownBy w3 (some rb):=qac (qac hg1 (qac hg2 (qap (qag w2 _) _))) hg3;have jR:=hown.grown qaU (hrd.qV (by decide));have hsz:=(qac hg qaU).size;clear hb3 hg1 hg2 hg3 zB zZ hown hr1 hr2 hr3;go_wp2_with (at_builtin;go_must (refine qcg (.tmp 13) (.tmp 23) rfl rfl jR (by omega) hsz rfl rfl ?_));intro v' w4 qn hg4;go_wp2_with fail;go_roundw
     case rel=>
       refine⟨k+1,l++[x],q+1+1+1,by omega,by go_num,qn,by simp [Hl.out],?_,by omega,by omega,?_,?_⟩
       . intro y hy;rcases List.mem_append.1 hy with hy | hy
         . exact Hin.out y hy
         . simp at hy;omega
       . exact vK.own jR (by decide) hB hg4
       . exact jR.gb (qac hg qaU) hg4 (Nat.le_refl _)
     case measure=>simp [intOf];omega
   . have hkn:k=n:=by omega
     subst hkn;by_cases hn0:(0:Int) < k
     . go_wp2_with fail;refine(qcq B0 rb q _ _ hrd (by omega) (by omega)).mono ?_;rintro e w1 ⟨r1,rfl,hr1,_,zB,hg1⟩;have hown1:=hown.grown hg1 (hrd.qV (by decide));by_cases hr0:r1=0
       . subst hr0;go_wp2_with fail;refine(qcq B0 rb _ _ _ zB (by omega) (by omega)).mono ?_;rintro e w2 ⟨r2,rfl,hr2,_,zZ,hg2⟩;go_wp2_with fail;refine(qcq B0 rb _ _ _ (zZ.new (World.grownBy_alloc _ _ _)) (by omega) (by omega)).mono ?_;rintro e w3 ⟨r3,rfl,hr3,_,vK,hg3⟩
         have hb3:Blk w3 w2.heap.size 3 #[.int .i64 (-1),.int .i64 1008,.int .i64 1009]:=(Blk.new w2 _ _).grown hg3 (by
           have:=zZ.lt;intro e;cases e;omega)
         have h3:=hr3 (by omega);have h2:=hr2 (by omega)
         obtain⟨x,hx1,hx2,hcell⟩:∃ x:Int,-1<=x/\x<=1009/\w3.cell? ⟨w2.heap.size,r3.toNat,none⟩=some (.int .i64 x):=by
           rcases (show r3=0∨r3=1∨r3=2 by omega) with rfl | rfl | rfl
           . exact⟨_,by omega,by omega,hb3.cell 0⟩
           . exact⟨_,by omega,by omega,hb3.cell 1⟩
           . exact⟨_,by omega,by omega,hb3.cell 2⟩
         have qcW:w1.grownBy w3 (some rb):=qac (qac hg2 (qap (qag w2 _) _)) hg3;have jR:=hown1.grown qcW (zB.qV (by decide));have hl':=Hl.out;obtain⟨g,cap,cur,rfl,hcap,hgb,hblk,hcs⟩:=jR.form (by omega);have hlr:r2.toNat < l.length:=by omega
         have hc2:=hcs r2.toNat l[r2.toNat] (List.getElem?_eq_getElem hlr);have hf2:=hblk.frozen r2.toNat;have hgw:w.grownBy (w3.setCell ⟨g,r2.toNat,none⟩ (.int .i64 x)) (some rb):=qa2 (qac (qac hg hg1) qcW) (.inl hgb) _
         have qcX:Rdr B0 (w3.setCell ⟨g,r2.toNat,none⟩ (.int .i64 x)) rb (q+1+1+1):=vK.kept (qa2 (qag w3 (some g)) (.inr rfl) _) (fun g' e=>by
           cases e;obtain⟨bv,hbb⟩:=vK.blk;exact⟨by omega,hblk.ne_ hbb (by decide)⟩)
         have yH:Hid (q3a B0 rb w p k (.returned (.slice (some ⟨g,0,none⟩) l.length cap)) (w3.setCell ⟨g,r2.toNat,none⟩ (.int .i64 x))):=by
           refine⟨_,l.set r2.toNat x,rfl,(jR.qC rfl r2.toNat x).ri,by simpa using hl',?_,_,by omega,by omega,qcX,hgw⟩;intro y hy;rcases List.mem_or_eq_of_mem_set hy with hy | rfl
           . exact Hin.out y hy
           . exact⟨hx1,hx2⟩
         clear hb3 jR hblk hcs hgw qcX hl' hown1 hown;go_wp2_with fail;go_ret;exact yH.out
       . go_wp2_with fail;go_ret;exact⟨_,l,rfl,hown1.ri,Hl.out,Hin.out,_,by omega,by omega,zB,qac hg hg1⟩
     . go_wp2_with fail;go_ret;exact⟨_,l,rfl,hown.ri,Hl.out,Hin.out,_,by omega,by omega,hrd,hg⟩
end
end Go.Proofs.YtacemdoejblgaaaGreatDoor

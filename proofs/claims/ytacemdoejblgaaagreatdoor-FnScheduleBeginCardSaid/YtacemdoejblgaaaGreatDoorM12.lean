/- Part M12. Conditions: each statement's. -/
import Derived.Test.YtacemdoejblgaaaGreatDoorM11
import Derived.Deep.Upon
import Derived.Deep.AppendLies
import Derived.Deep.RegionLaw
namespace Go.Proofs.YtacemdoejblgaaaGreatDoor
open List World
set_option maxRecDepth 100000
set_option maxHeartbeats 6400000
section
open Go.RowKit
structure Zn(lo hi:Nat)(w w':World):Prop where
 os:w'.os=w.os
 tape:w'.tape=w.tape
 output:w'.output=w.output
 size:w.heap.size<=w'.heap.size
 block:∀i,i<w.heap.size->(i<lo∨hi<=i)->w'.heap[i]?=w.heap[i]?
theorem Zn.refl(lo hi:Nat)(w:World):Zn lo hi w w:=⟨rfl,rfl,rfl,Nat.le_refl _,λ_ _ _=>rfl⟩
theorem Zn.trans{lo hi:Nat}{a b c:World}(h:Zn lo hi a b)(k:Zn lo hi b c):Zn lo hi a c:=
 ⟨k.os.trans h.os,k.tape.trans h.tape,k.output.trans h.output,Nat.le_trans h.size k.size,λi hi hr=>(k.block i (Nat.lt_of_lt_of_le hi h.size) hr).trans (h.block i hi hr)⟩
theorem Zn.qbT{lo hi:Nat}{a b:World}{row:Option Nat}(h:a.grownBy b row)(hr:∀g,row=some g->lo<=g/\g<hi):Zn lo hi a b:=
 ⟨h.os,h.tape,h.output,h.size,λi hi h'=>h.block i hi (λe=>by have:=hr i e.symm;omega)⟩
theorem Zn.gb{lo hi:Nat}{a b c:World}(h:a.grownBy b none)(k:Zn lo hi b c)(hl:a.heap.size<=lo):a.grownBy c none:=
 ⟨k.os.trans h.os,k.tape.trans h.tape,k.output.trans h.output,Nat.le_trans h.size k.size,λi hi _=>(k.block i (Nat.lt_of_lt_of_le hi h.size) (.inl (by omega))).trans (h.block i hi (by simp))⟩
theorem Blk.qmB{lo hi:Nat}{w w':World}{g:Nat}{t:TypeId}{cs:Array Value}(h:Blk w g t cs)(k:Zn lo hi w w')(hg:g<lo∨hi<=g):Blk w' g t cs:=(k.block g h.lt hg).trans h
theorem qmC{lo hi base size n:Nat}{w w':World}{E:TypeId}{v:Value}{xs:List Value}(h:w.ownsRow base E size v n xs)(k:Zn lo hi w w')(hb:hi<=base):w'.ownsRow base E size v n xs:=by
 refine⟨h.1,?_⟩;rcases h.2 with h0|⟨g,cap,cur,h1,h2,h3,h4⟩
 . exact .inl h0
 . exact .inr ⟨g,cap,cur,h1,h2,Blk.qmB (t:=E) (cs:=cur) h3 k (.inr (by omega)),h4⟩
def QI(w:World)(base:Nat)(v:Value)(l:List Int):Prop:=QS w base 3 v (l.map (.int .i64))
section
variable {w w':World}{base:Nat}{v:Value}{l:List Int}{row:Option Nat}
theorem QI.ri(h:QI w base v l):RI w v l:=QS.ri h
theorem qg.qi(h:qg w base v l):QI w base v l:=h.qs
theorem QI.grown(h:QI w base v l)(hg:w.grownBy w' row)(hr:qh w 3 row):QI w' base v l:=QS.grown h hg hr
theorem QI.new(h:QI w base v l)(hg:w.grownBy w' none):QI w' base v l:=QS.new h hg
theorem QI.lt(h:QI w base v l):∀g,v.ownBlock=some g->base<=g/\g<w.heap.size:=QS.lt h
theorem QI.low{b:Nat}(h:QI w base v l)(hab:b<=base):QI w b v l:=by
 obtain⟨A,c,h1,h2,h3,h6,h5⟩:=h;refine⟨A,c,h1,h2,h3,h6,?_⟩;rcases h5 with h5|⟨g,o,cur,k1,k2,k3⟩
 . exact .inl h5
 . exact .inr ⟨g,o,cur,k1,Nat.le_trans hab k2,k3⟩
end
theorem qjh(l:List Int):∀u∈l.map (Value.int .i64),u.oneCell'=true:=λu hu=>by
 obtain⟨x,_,rfl⟩:=mem_map.1 hu;rfl
theorem qek{ops:Array Oper}{rest:List Oper}{o:Oper}{a:Act}{Q:Exit->Act->World->Prop}{w:World}{u:Int}
   (s x:Operand) (hgd:o.guard=none) (ho:o.op=.call {callee:=.builtin .append,args:=#[s,x],argTypes:=#[24,24]})
   {base:Nat} {v:Value} {l:List Int} (hown:qg w base v l) (hn:l.length<=1000000000) (hbase:base<=w.heap.size)
   (hs:a.eval s=v) {N:Nat} (hx:a.eval x=.slice (some ⟨N,0,none⟩) 1 1) (hN:N=w.heap.size)
   (h:∀v' w',qg w' base v' (l++[u])->w.grownBy w' v.ownBlock->wpList Tryz.prog ops Q rest (a.put o.dst v') w') :
   wpList Tryz.prog ops Q (o::rest) a (w.alloc (.cells #[.int .i64 u] 3)):=by
 subst hN;exact qc3 s x hgd ho hown hn hbase hs hx h
def qmD(B0 rb:Nat)(w:World)(p:Int)(e:Ending)(w':World):Prop:=
 ∃v nd,e=.returned v/\NV w' v nd/\nd.frm.length<=2/\nd.row.length<=20/\∃p',p<=p'/\p'<=p+100/\Rdr B0 w' rb p'/\w.grownBy w' (some rb)
structure qE(B0 rb xb R:Nat)(w wx:World)(kind:Int)(fv rv:Value)(frm row:List Int)(q:Int):Prop where
 x:Blk wx xb 81 #[.int .i64 kind,fv,rv]
 f:qg wx w.heap.size fv frm
 r:RI wx rv row
 res:Blk wx R 81 #[.int .i64 0,.slice none 0 0,.slice none 0 0]
 ne:R≠xb
 rd:Rdr B0 wx rb q
 g:w.grownBy wx (some rb)
 xb:w.heap.size<=xb
 rbl:w.heap.size<=R
 hB:B0<=w.heap.size
theorem qE.store{B0 rb xb R:Nat}{w wx:World}{kind qbU:Int}{fv rv fv' rv':Value}{frm row qbV row':List Int}{q:Int}(M:qE B0 rb xb R w wx kind fv rv frm row q)(j:Nat)(u:Value)
   (hc:(#[.int .i64 kind,fv,rv]:Array Value).setIfInBounds j u=#[.int .i64 qbU,fv',rv']) (hf:qg wx w.heap.size fv' qbV) (hr:RI wx rv' row') :
   qE B0 rb xb R w (wx.setCell ⟨xb,j,none⟩ u) qbU fv' rv' qbV row' q:=by
 have hg:wx.grownBy (wx.setCell ⟨xb,j,none⟩ u) (some xb):=qbf (qah wx (some xb)) (.inr rfl) u;have hn:qh wx 3 (some xb):=qh.blk M.x (by decide);refine⟨by rw[<-hc];exact M.x.jr j u,hf.grown hg hn,hr.grown hg hn,M.res.far M.ne u,M.ne,M.rd.kept hg ?_,qbf M.g (.inl M.xb) u,M.xb,M.rbl,M.hB⟩;intro g e;cases e;obtain⟨bv,hb⟩:=M.rd.blk;exact⟨Nat.le_trans M.hB M.xb,M.x.ne_ hb (by decide)⟩
theorem qE.call{B0 rb xb R:Nat}{w wx wy:World}{kind:Int}{fv rv:Value}{frm row:List Int}{q q':Int}(M:qE B0 rb xb R w wx kind fv rv frm row q)(hg:wx.grownBy wy (some rb))(hrd:Rdr B0 wy rb q') :
   qE B0 rb xb R w wy kind fv rv frm row q':=by
 have ne:∀{g:Nat} {cs:Array Value},Blk wx g 81 cs->some g≠some rb:=λhb e=>by
  obtain⟨bv,hbb⟩:=M.rd.blk;cases e;exact hb.ne_ hbb (by decide) rfl
 exact⟨M.x.grown hg (ne M.x),M.f.grown hg (M.rd.jL (by decide)),M.r.grown hg (M.rd.jL (by decide)),M.res.grown hg (ne M.res),M.ne,hrd,qad M.g hg,M.xb,M.rbl,M.hB⟩
theorem qE.drew{B0 rb xb R:Nat}{w wx:World}{kind:Int}{fv rv:Value}{frm row:List Int}{q:Int}(M:qE B0 rb xb R w wx kind fv rv frm row q):qE B0 rb xb R w wx.drew kind fv rv frm row q:=
 ⟨M.x,M.f,M.r,M.res,M.ne,M.rd,qay M.g,M.xb,M.rbl,M.hB⟩
theorem qE.alloc{B0 rb xb R:Nat}{w wx:World}{kind:Int}{fv rv:Value}{frm row:List Int}{q:Int}(M:qE B0 rb xb R w wx kind fv rv frm row q)(o:Obj):qE B0 rb xb R w (wx.alloc o) kind fv rv frm row q:=
 M.call (qar (qah wx _) o) (M.rd.new (grownBy_alloc _ _ _))
theorem qE.push{B0 rb xb R:Nat}{w wx wy:World}{kind:Int}{fv rv:Value}{frm qbV:List Int}{q:Int}(M:qE B0 rb xb R w wx kind fv rv frm [] q)(hg:wx.grownBy wy fv.ownBlock){v':Value}(ho:qg wy w.heap.size v' qbV) :
   wy.cell? ⟨xb,1,none⟩=some fv/\wy.frozen? ⟨xb,1,none⟩=false/\qE B0 rb xb R w (wy.setCell ⟨xb,1,none⟩ v') kind v' rv qbV [] q:=by
 have hne:∀{g:Nat} {cs:Array Value},Blk wx g 81 cs->some g≠fv.ownBlock:=λhb e=>M.f.jL (by decide) _ e.symm _ hb;have hrd:Rdr B0 wy rb q:=M.rd.own M.f (by decide) M.hB hg;have hx:=M.x.grown hg (hne M.x);have hst:wy.grownBy (wy.setCell ⟨xb,1,none⟩ v') (some xb):=qbf (qah wy (some xb)) (.inr rfl) _;refine⟨hx.cell 1,hx.frozen 1,hx.jr 1 v',ho.grown hst (qh.blk hx (by decide)),M.r.empty _,(M.res.grown hg (hne M.res)).far M.ne _,M.ne,?_,qbf (M.f.gb M.g hg (Nat.le_refl _)) (.inl M.xb) _,M.xb,M.rbl,M.hB⟩;refine hrd.kept hst ?_;intro g e;cases e;obtain⟨bv,hb⟩:=hrd.blk;exact⟨Nat.le_trans M.hB M.xb,hx.ne_ hb (by decide)⟩
theorem q2x(B0 rb:Nat)(p:Int)(at_:Int)(n:Nat)(w:World)(h:Rdr B0 w rb p)(hp0:0<=p)(hp:p<=800000)(hn:n<=20) :
   Calls Tryz.prog 97 #[.pointer (some ⟨rb,0,none⟩),.int .i64 at_,.int .i64 n] w (qmD B0 rb w p):=by
 have hB:B0<=w.heap.size:=by obtain⟨_,_,_,_,_,h4,_⟩:=h;exact h4
 go_enter Tryz.func97,Tryz.ntmps97;go_wp2_with fail;refine(qde B0 rb p _ _ (h.new (grownBy_alloc _ _ _)) (by omega) (by omega)).mono ?_;rintro e w1 ⟨r1,rfl,hr1,_,vY,hg1⟩;have h1:=hr1 (by omega);have hres:=(Blk.new w 81 #[.int .i64 0,.slice none 0 0,.slice none 0 0]).grown hg1 (by have:=h.lt;intro e;cases e;omega);have hsz:=hg1.size;simp only[size_alloc]at hsz;have qmE:w.grownBy w1 (some rb):=qad (qar (qah w _) _) hg1
 have M:qE B0 rb (w1.heap.size+1+1) w.heap.size w (((w1.alloc (.cells #[] 3)).alloc (.cells #[] 3)).alloc (.cells #[.int .i64 r1,.slice (some ⟨w1.heap.size,0,none⟩) 0 0,.slice (some ⟨w1.heap.size+1,0,none⟩) 0 0] 81)) r1
     (.slice (some ⟨w1.heap.size,0,none⟩) 0 0) (.slice (some ⟨w1.heap.size+1,0,none⟩) 0 0) [] [] (p+1):=by
  refine⟨?_,?_,?_,?_,by omega,?_,?_,by omega,by omega,hB⟩
  . have:=Blk.new ((w1.alloc (.cells #[] 3)).alloc (.cells #[] 3)) 81 #[.int .i64 r1,.slice (some ⟨w1.heap.size,0,none⟩) 0 0,.slice (some ⟨w1.heap.size+1,0,none⟩) 0 0];simpa using this
  . exact((qg.empty w1 (by omega)).alloc _).alloc _
  . have:=((qg.empty (base:=0) (w1.alloc (.cells #[] 3)) (by omega)).alloc (.cells #[.int .i64 r1,.slice (some ⟨w1.heap.size,0,none⟩) 0 0,.slice (some ⟨w1.heap.size+1,0,none⟩) 0 0] 81)).ri;simpa using this
  . exact((hres.alloc _).alloc _).alloc _
  . exact((vY.new (grownBy_alloc _ _ _)).new (grownBy_alloc _ _ _)).new (grownBy_alloc _ _ _)
  . exact qar (qar (qar qmE _) _) _
 clear hres hr1
 go_upto_if 15 with fail
 generalize (((w1.alloc (.cells #[] 3)).alloc (.cells #[] 3)).alloc (.cells #[.int .i64 r1,.slice (some ⟨w1.heap.size,0,none⟩) 0 0,.slice (some ⟨w1.heap.size+1,0,none⟩) 0 0] 81))=wa at M |-
 go_cut [] (λwx=>∃(kind:Int) (fv rv:Value),0<=kind/\kind<=5/\qE B0 rb (w1.heap.size+1+1) w.heap.size w wx kind fv rv [] [] (p+1))
 case first=>
  by_cases hat:at_=0
  . have c0:=M.x.cell 0;have f0:=M.x.frozen 0;have M0:=M.store 0 (.int .i64 0) rfl M.f M.r;go_wp2_with fail;go_meet;exact⟨0,_,_,by omega,by omega,M0⟩
  . go_wp2_with fail;go_meet;exact⟨r1,_,_,by omega,by omega,M⟩
 case rest=>
  obtain⟨kind,fv,rv,hk0,hk5,M⟩:=hcut;generalize w1.heap.size+1+1=xb at M |-;have c0:wc.cell? ⟨xb,0,none⟩=some (.int .i64 kind):=M.x.cell 0
  go_upto_if 19 with fail
  clear c0
  go_cut [] (λwx=>∃(rv:Value) (row:List Int) (q:Int),row.length<=20/\(kind≠0->row=[])/\p+1<=q/\q<=p+70/\qE B0 rb xb w.heap.size w wx kind fv rv [] row q)
  case first=>
   by_cases hk:kind=0
   . go_wp2_with fail;refine(qxm B0 rb _ n _ M.rd (by omega) (by omega) hn).mono ?_;rintro e w2 ⟨v,row,rfl,hri,hl,_,q,hq1,hq2,xH,hg2⟩;have qeS:row.length<=20:=by omega
     clear hl;obtain⟨A,m,c,rfl⟩:=hri.val;have M2:=M.call hg2 xH;have c2:=M2.x.cell 2;have f2:=M2.x.frozen 2;have M3:=M2.store 2 _ rfl M2.f hri;clear M M2;go_wp2_with fail;go_meet;exact⟨_,row,q,qeS,by omega,by omega,by omega,M3⟩
   . go_wp2_with fail;go_meet;exact⟨_,_,_,by simp,λ_=>rfl,by omega,by omega,M⟩
  case rest=>
   clear M;obtain⟨rv,row,q,hrow,hkr,hq1,hq2,M⟩:=hcut;have Hkr:=Lib.hid hkr;clear hkr;have hkn:=qr4 kind;have qtC:0<=qav kind:=qs1 hk0 hk5;go_wp2_with fail
   go_loopw [8] (λi wr=>∃(k:Nat) (fv:Value) (frm:List Int) (q':Int),(k:Int)<=qav kind/\i=.int .i64 k/\frm.length=k/\q<=q'/\q'<=q+k/\qE B0 rb xb w.heap.size w wr kind fv rv frm row q') (λi _=>(qav kind-intOf i).toNat)
   case atStart=>exact⟨0,fv,[],q,by omega,rfl,rfl,by omega,by omega,M⟩
   case round=>
    clear M;obtain⟨k,fv,frm,q',hk,rfl,hl,hq3,hq4,M⟩:=hrel;have hl2:frm.length<=2:=by omega
    have Hl:=Lib.hid hl;clear hl;have c0:wr.cell? ⟨xb,0,none⟩=some (.int .i64 kind):=M.x.cell 0;by_cases hlt:(k:Int)<qav kind
    . have qeZ:row=[]:=Hkr.out (by rintro rfl;simp[qav]at hlt;omega);subst qeZ;go_wp2_with fail;refine(qbw _ _).mono ?_;rintro e w2 ⟨rfl,rfl⟩;go_wp2_with fail;have c1:wr.cell? ⟨xb,1,none⟩=some fv:=M.x.cell 1;have MD:qE B0 rb xb w.heap.size w wr.drew kind fv rv frm [] q':=M.drew;have k1:wr.drew.cell? ⟨xb,1,none⟩=some fv:=M.x.cell 1
      go_region_law (first
       |(refine qol (.tmp 32) (.tmp 36) rfl rfl M2.f (by omega) M2.g.size rfl rfl ?_;intro v' w4 qx hg4;obtain⟨A4,n4,c4,rfl⟩:=qx.ri.val;obtain⟨k2,k3,M4⟩:=M2.push hg4 qx)
       |(go_simp;go_at_call 64;refine(qde B0 rb _ _ _ MD.rd (by omega) (by omega)).mono ?_;rintro e w2 ⟨r2,rfl,hr2,_,xH,hg2⟩;have M2:=MD.call hg2 xH;have k1:w2.cell? ⟨xb,1,none⟩=some fv:=M2.x.cell 1;have k1b:(w2.alloc (.cells #[.int .i64 r2] 3)).cell? ⟨xb,1,none⟩=some fv:=(M2.alloc _).x.cell 1))
      all_goals
       go_wp2;go_roundw
       case rel=>exact⟨k+1,_,frm++[r2],q'+1,by omega,by go_num,by simp[Hl.out],by omega,by omega,M4⟩
       case measure=>simp[intOf];omega
    . have qhN:=M.f.ri;have qhO:=M.r;obtain⟨Af,nf,cf,rfl⟩:=qhN.val;obtain⟨Ar,nr,cr,rfl⟩:=qhO.val;go_wp2_with fail;refine(qbw _ _).mono ?_;rintro e w2 ⟨rfl,rfl⟩;have c1:wr.cell? ⟨xb,1,none⟩=some (.slice Af nf cf):=M.x.cell 1;have c2:wr.cell? ⟨xb,2,none⟩=some (.slice Ar nr cr):=M.x.cell 2;have d0:=M.res.cell 0;have d1:=M.res.cell 1;have d2:=M.res.cell 2;have f0:=M.res.frozen 0;have f1:=M.res.frozen 1;have f2:=M.res.frozen 2;go_wp2_with fail;refine bodyPost_ret (v:=.agg #[.int .i64 kind,.slice Af nf cf,.slice Ar nr cr]) (by simp[results,Tryz.results97,go_sem,d0,d1,d2]) rfl ?_;have hst:=q7w wr w.heap.size (.int .i64 kind) (.slice Af nf cf) (.slice Ar nr cr);have hne:qh wr 3 (some w.heap.size):=qh.blk M.res (by decide);refine⟨_,⟨kind,frm,row⟩,rfl,⟨_,_,rfl,qhN.grown hst hne,qhO.grown hst hne⟩,hl2,hrow,q',by omega,by omega,M.rd.kept hst ?_,qbd M.g hst (λg e=>by cases e;exact .inl (Nat.le_refl _))⟩;intro g e;cases e;obtain⟨bv,hb⟩:=M.rd.blk;exact⟨hB,M.res.ne_ hb (by decide)⟩
def qe3(qa:List Node):Prop:=qa.length<=11/\∀nd∈qa,nd.frm.length<=2/\nd.row.length<=20
def qmF(B0 rb:Nat)(w:World)(p:Int)(e:Ending)(w':World):Prop:=
 ∃v qa,e=.returned v/\RN w' v qa/\qe3 qa/\∃p',p<=p'/\p'<=p+2000/\Rdr B0 w' rb p'/\w.grownBy w' (some rb)
structure j8(B0 rb:Nat)(w wx:World)(v:Value)(qa:List Node)(q:Int):Prop where
 o:vh wx w.heap.size v qa
 s:∀nd∈qa,nd.frm.length<=2/\nd.row.length<=20
 rd:Rdr B0 wx rb q
 g:w.grownBy wx (some rb)
 hB:B0<=w.heap.size
theorem j8.call{B0 rb:Nat}{w wx wy:World}{v:Value}{qa:List Node}{q q':Int}(M:j8 B0 rb w wx v qa q)(hg:wx.grownBy wy (some rb))(hrd:Rdr B0 wy rb q'):j8 B0 rb w wy v qa q':=
 ⟨M.o.grown hg (M.rd.jL (by decide)) (M.rd.jL (by decide)),M.s,hrd,qad M.g hg,M.hB⟩
theorem j8.alloc{B0 rb:Nat}{w wx:World}{v:Value}{qa:List Node}{q:Int}(M:j8 B0 rb w wx v qa q)(o:Obj):j8 B0 rb w (wx.alloc o) v qa q:=
 M.call (qar (qah wx _) o) (M.rd.new (grownBy_alloc _ _ _))
theorem j8.push{B0 rb:Nat}{w wx wy:World}{v v':Value}{qa:List Node}{nd:Node}{q:Int}(M:j8 B0 rb w wx v qa q)(hs:nd.frm.length<=2/\nd.row.length<=20)(ho:vh wy w.heap.size v' (qa++[nd]))(hg:wx.grownBy wy v.ownBlock) :
   j8 B0 rb w wy v' (qa++[nd]) q:=by
 refine⟨ho,?_,M.rd.kept hg (λg e=>⟨Nat.le_trans M.hB (M.o.lt g e).1,λhgr=>?_⟩),M.o.gb M.g hg (Nat.le_refl _),M.hB⟩
 . intro x hx;rcases mem_append.1 hx with hx|hx
   . exact M.s x hx
   . simp at hx;subst hx;exact hs
 . obtain⟨bv,hb⟩:=M.rd.blk;exact M.o.jL (by decide) g e _ (hgr▸hb)
theorem j8.jr{B0 rb:Nat}{w wx:World}{qa:List Node}{nd:Node}{q:Int}{g n cap k:Nat}{cur:Array Value}{f r:Value}(M:j8 B0 rb w wx (.slice (some ⟨g,0,none⟩) n cap) qa q)(hn:qa.length=n)(hk:k<n)
   (hf:RI wx f nd.frm) (hr:RI wx r nd.row) (hs:nd.frm.length<=2/\nd.row.length<=20) (hgb:w.heap.size<=g) (hb:Blk wx g 81 cur) :
   j8 B0 rb w (((wx.setCell ⟨g,k*3,none⟩ (.int .i64 nd.kind)).setCell ⟨g,k*3+1,none⟩ f).setCell ⟨g,k*3+2,none⟩ r) (.slice (some ⟨g,0,none⟩) n cap) (qa.set k nd) q:=by
 have hg:wx.grownBy (((wx.setCell ⟨g,k*3,none⟩ (.int .i64 nd.kind)).setCell ⟨g,k*3+1,none⟩ f).setCell ⟨g,k*3+2,none⟩ r) (some g):=
  qbf (p:=⟨g,k*3+2,none⟩) (qbf (p:=⟨g,k*3+1,none⟩) (qbf (p:=⟨g,k*3,none⟩) (qah wx (some g)) (.inr rfl) _) (.inr rfl) _) (.inr rfl) _
 refine⟨M.o.jr hn hk hf hr,?_,M.rd.kept hg ?_,qbd M.g hg (λg' e=>by cases e;exact .inl hgb),M.hB⟩
 . intro x hx;rcases mem_or_eq_of_mem_set hx with hx|rfl
   . exact M.s x hx
   . exact hs
 . intro g' e;cases e;obtain⟨bv,hbb⟩:=M.rd.blk;exact⟨Nat.le_trans M.hB hgb,hb.ne_ hbb (by decide)⟩
theorem q2y(B0 rb:Nat)(p:Int)(w:World)(h:Rdr B0 w rb p)(hp0:0<=p)(hp:p<=700000) :
   Calls Tryz.prog 63 #[.pointer (some ⟨rb,0,none⟩)] w (qmF B0 rb w p):=by
 have hB:B0<=w.heap.size:=by obtain⟨_,_,_,_,_,h4,_⟩:=h;exact h4
 go_enter Tryz.func63,Tryz.ntmps63;go_wp2_with fail;refine(qde B0 rb p _ _ (h.new (grownBy_alloc _ _ _)) (by omega) (by omega)).mono ?_;rintro e w1 ⟨r1,rfl,hr1,_,vY,hg1⟩
 have M1:j8 B0 rb w w1 (.slice (some ⟨w.heap.size,0,none⟩) 0 0) [] (p+1):=
  ⟨(vh.empty w (Nat.le_refl _)).grown hg1 ((h.new (grownBy_alloc _ _ _)).jL (by decide)) ((h.new (grownBy_alloc _ _ _)).jL (by decide)),by simp,vY,qad (qar (qah w _) _) hg1,hB⟩
 go_wp2_with fail;refine(qde B0 rb _ _ _ M1.rd (by omega) (by omega)).mono ?_;rintro e w2 ⟨r2,rfl,hr2,_,xH,hg2⟩;have M2:=M1.call hg2 xH;have h1:=hr1 (by omega);have h2:=hr2 (by omega);go_wp2_with fail;refine(qde B0 rb _ _ _ M2.rd (by omega) (by omega)).mono ?_;rintro e w3 ⟨r3,rfl,hr3,_,yz,hg3⟩;have M3:=M2.call hg3 yz;have h3:=hr3 (by omega);clear M1 M2 hr1 hr2 hr3 hg1 hg2 hg3 vY xH yz
 go_upto_if 15 with fail
 go_cut [5] (λnv wx=>∃(n:Nat) (q:Int),nv=.int .i64 n/\n<=11/\p<=q/\q<=p+10/\j8 B0 rb w wx (.slice (some ⟨w.heap.size,0,none⟩) 0 0) [] q)
 case first=>
  by_cases hz:r3=0
  . subst hz;go_wp2_with fail;refine(qde B0 rb _ _ _ (M3.alloc _).rd (by omega) (by omega)).mono ?_;rintro e w4 ⟨r4,rfl,hr4,_,yX,hg4⟩;have M4:=(M3.alloc _).call hg4 yX;have h4:=hr4 (by omega)
    have hb:Blk w4 w3.heap.size 3 #[.int .i64 0,.int .i64 10,.int .i64 11]:=(Blk.new w3 _ _).grown hg4 (by
     have:=M3.rd.lt;intro e;cases e;omega)
    obtain⟨n,hn,hcell⟩:∃n:Nat,n<=11/\w4.cell? ⟨w3.heap.size,r4.toNat,none⟩=some (.int .i64 n):=by
     rcases (show r4=0∨r4=1∨r4=2 by omega)with rfl|rfl|rfl
     . exact⟨0,by omega,hb.cell 0⟩
     . exact⟨10,by omega,hb.cell 1⟩
     . exact⟨11,by omega,hb.cell 2⟩
    clear hb;go_wp2_with fail;go_meet;exact⟨n,_,rfl,hn,by omega,by omega,M4⟩
  . obtain⟨m,rfl⟩:=Int.eq_ofNat_of_zero_le h2.1;go_wp2_with fail;go_meet;exact⟨m+1,_,by go_num,by omega,by omega,by omega,M3⟩
 case rest=>
  obtain⟨n,q,rfl,hn,hq1,hq2,M⟩:=hcut;clear M3 h2 h3;obtain⟨wide,rfl⟩:=Int.eq_ofNat_of_zero_le h1.1;go_wp2_with fail
  go_loopw [3,6] (λv i wr=>∃(k:Nat) (qa:List Node) (q':Int),k<=n/\i=.int .i64 k/\qa.length=k/\q<=q'/\q'<=q+100*k/\j8 B0 rb w wr v qa q') (λ_ i _=>n-(intOf i).toNat)
  case atStart=>exact⟨0,[],q,by omega,rfl,rfl,by omega,by omega,M⟩
  case round=>
   clear M;obtain⟨k,qa,q',hk,rfl,hl,hq3,hq4,M⟩:=hrel;have qdG:qa.length<=11:=by omega
   have Hl:=Lib.hid hl;clear hl;by_cases hlt:k<n
   . go_wp2_with fail;refine(q2x B0 rb _ _ _ _ M.rd (by omega) (by omega) (by omega)).mono ?_;rintro e w4 ⟨v4,nd,rfl,⟨f,r,rfl,hf,hr⟩,hs1,hs2,q4,hq5,hq6,yX,hg4⟩;have M4:=M.call hg4 yX;go_wp2_with (at_builtin;go_must (refine qz6 (.tmp 26) (.tmp 31) rfl rfl M4.o hf hr (by omega) M4.g.size rfl rfl ?_));intro v' w5 qX hg5;go_wp2;go_roundw
     case rel=>exact⟨k+1,qa++[nd],q4,by omega,by go_num,by simp[Hl.out],by omega,by omega,M4.push ⟨hs1,hs2⟩ qX hg5⟩
     case measure=>simp[intOf];omega
   . obtain rfl:k=n:=by omega
     by_cases h1:(1:Int)<k
     . go_wp2_with fail;refine(qde B0 rb _ _ _ M.rd (by omega) (by omega)).mono ?_;rintro e w4 ⟨r4,rfl,hr4,_,yX,hg4⟩;have M4:=M.call hg4 yX;have h4:=hr4 (by omega);clear M;by_cases hz:r4=0
       . subst hz;have hri:RI (w4.alloc (.cells #[.int .i64 ((k:Int)-1)] 3)) (.slice (some ⟨w4.heap.size,0,none⟩) 1 1) [(k:Int)-1]:=RI.lit w4 [(k:Int)-1];have M5:=M4.alloc (.cells #[.int .i64 ((k:Int)-1)] 3);obtain⟨g,cap,cur,rfl,hcap,hgb,hblk,hcs⟩:=M5.o.form Hl.out (by omega);obtain⟨u0,c0⟩:=hcs ((k-1)*3) (by omega);obtain⟨u1,c1⟩:=hcs ((k-1)*3+1) (by omega);obtain⟨u2,c2⟩:=hcs ((k-1)*3+2) (by omega);have f0:=hblk.frozen ((k-1)*3);have f1:=hblk.frozen ((k-1)*3+1);have f2:=hblk.frozen ((k-1)*3+2);have Mf:=M5.jr (k:=k-1) (nd:=⟨4,[(k:Int)-1],[]⟩) Hl.out (by omega) hri (RI.nil _) (by simp) hgb hblk;have hll:(qa.set (k-1) ⟨4,[(k:Int)-1],[]⟩).length<=11:=by rw[length_set];exact qdG
         clear M4 M5 hblk hcs hri;go_wp2;go_ret;exact⟨_,_,rfl,Mf.o.rn,⟨hll,Mf.s⟩,_,by omega,by omega,Mf.rd,Mf.g⟩
       . by_cases hz1:r4=1
         . subst hz1;go_wp2_with fail;refine(qxm B0 rb _ (wide+1) _ M4.rd (by omega) (by omega) (by omega)).mono ?_;rintro e w5 ⟨v5,row,rfl,hri,hl5,_,q5,hq5,hq6,qdH,hg5⟩;have M5:=M4.call hg5 qdH;have qtD:row.length<=20:=by omega
           clear hl5;obtain⟨A5,n5,c5,rfl⟩:=hri.val;obtain⟨g,cap,cur,rfl,hcap,hgb,hblk,hcs⟩:=M5.o.form Hl.out (by omega);obtain⟨u0,c0⟩:=hcs ((k-1)*3) (by omega);obtain⟨u1,c1⟩:=hcs ((k-1)*3+1) (by omega);obtain⟨u2,c2⟩:=hcs ((k-1)*3+2) (by omega);have f0:=hblk.frozen ((k-1)*3);have f1:=hblk.frozen ((k-1)*3+1);have f2:=hblk.frozen ((k-1)*3+2);have Mf:=M5.jr (k:=k-1) (nd:=⟨0,[],row⟩) Hl.out (by omega) (RI.nil _) hri (by simp;omega) hgb hblk;have hll:(qa.set (k-1) ⟨0,[],row⟩).length<=11:=by rw[length_set];exact qdG
           clear M4 M5 hblk hcs hri;go_wp2;go_ret;exact⟨_,_,rfl,Mf.o.rn,⟨hll,Mf.s⟩,_,by omega,by omega,Mf.rd,Mf.g⟩
         . go_wp2;go_ret;exact⟨_,qa,rfl,M4.o.rn,⟨qdG,M4.s⟩,_,by omega,by omega,M4.rd,M4.g⟩
     . go_wp2;go_ret;exact⟨_,qa,rfl,M.o.rn,⟨qdG,M.s⟩,q',by omega,by omega,M.rd,M.g⟩
theorem qxn(v:Value)(qa:List Node)(w:World)(h:RN w v qa) :
   Calls Tryz.prog 122 #[v] w λe w'=>e=.returned (.int .i64 (wide qa:Nat))/\w=w':=by
 obtain⟨A,n,c,rfl,_,hn,hle⟩:=h.form';have Hn:=Lib.hid hn;clear hn;go_enter Tryz.func122,Tryz.ntmps122
 go_wp2
 go_loop [3] (λi=>∃k:Nat,k<=n/\i=.int .i64 k/\(qa.take k).all (λx=>x.kind != 0)=true) (λi=>n-(intOf i).toNat)
 case atStart=>exact⟨0,Nat.zero_le _,rfl,rfl⟩
 case round=>
  obtain⟨k,hk,rfl,hall⟩:=hrel;have qV:=Lib.hid hall;clear hall;by_cases hlt:k<n
  . obtain⟨g,o,nd,f,r,rfl,hx,c0,c1,c2,hf,hr⟩:=h.at_ hlt;have Hx:=Lib.hid hx;clear hx;by_cases hk0:nd.kind=0
    . have Hr:Hid (wide qa=nd.row.length):=by
       show wide qa=nd.row.length
       have:qa.find? (λx=>x.kind==0)=some nd:=by
        rw[find?_eq_some_iff_getElem];obtain⟨hk',hx'⟩:=List.getElem?_eq_some_iff.1 Hx.out;refine⟨by simp[hk0],k,hk',hx',λj hj=>?_⟩;have:=List.all_eq_true.1 qV.out qa[j] (mem_take_iff_getElem.2 ⟨j,by omega,rfl⟩);simpa using this
       unfold wide;rw[this]
      obtain⟨Ar,nr,cr,rfl,_,hnr⟩:=hr.form';rw[<-hnr]at Hr;clear hnr;rw[hk0]at c0;clear hk0;go_wp2;go_ret;exact⟨by rw[Hr.out];rfl,rfl⟩
    . have hb:(nd.kind==0)=false:=by simpa using hk0
      have Hb:Hid (nd.kind != 0):=by show (nd.kind != 0)=true;simpa using hk0
      clear hk0;go_wp2;go_round
      case rel=>exact⟨k+1,by omega,by go_num,by rw[qg7 _ Hx.out,qV.out];exact Hb.out⟩
      case measure=>simp[intOf];omega
  . have Hr:Hid (wide qa=0):=by
     show wide qa=0
     have:qa.find? (λx=>x.kind==0)=none:=by
      rw[find?_eq_none];intro x hx;have h1:=qV.out;rw[show k=n by omega,Hn.out,take_length]at h1;simpa using List.all_eq_true.1 h1 x hx
     unfold wide;rw[this]
    go_wp2;go_ret;exact⟨by rw[Hr.out];rfl,rfl⟩
theorem q53(v:Value)(nd:Node)(at_:Int)(wd:Nat)(w:World)(h:NV w v nd)(ha0:0<=at_)(ha1:at_<=1000000000) :
   Calls Tryz.prog 121 #[v,.int .i64 at_,.int .i64 wd] w λe w'=>e=.returned (.bool (qdm nd at_ wd))/\w.grownBy w' none:=by
 obtain⟨f,r,rfl,hf,hr⟩:=h;have hfl:=hf.le;have hrl:=hr.le;obtain⟨Af,nf,cf,rfl,_,hnf⟩:=hf.form';obtain⟨Ar,nr,cr,rfl,_,hnr⟩:=hr.form';rw[<-hnf]at hfl;rw[<-hnr]at hrl;have Hnf:=Lib.hid hnf;have Hnr:=Lib.hid hnr;clear hnf hnr;have hrW:=hr.alloc (.cells #[.int .i64 nd.kind,.slice Af nf cf,.slice Ar nr cr] 81);have hfW:=hf.alloc (.cells #[.int .i64 nd.kind,.slice Af nf cf,.slice Ar nr cr] 81);have hG:Hid (w.grownBy (w.alloc (.cells #[.int .i64 nd.kind,.slice Af nf cf,.slice Ar nr cr] 81)) none):=grownBy_alloc _ _ _;clear hf hr;by_cases hk:qav nd.kind=nf
 . have hb:(qav nd.kind != (nf:Int))=false:=by simpa using hk
   clear hk;by_cases hv:qal nd.row=true
   . have Hv:=Lib.hid hv;clear hv;go_enter Tryz.func121,Tryz.ntmps121;go_wp2_with fail
     go_quiet ((first
      |(go_at_call 149;exact qdh (qbw _ _))
      |(go_at_call 157;exact qdh (qcb _ _ _ (by exact hrW) Hv.out))))
     go_wp2_with fail
     go_loop [7] (λi=>∃k:Nat,k<=nf/\i=.int .i64 k/\(nd.frm.take k).all (λy=>decide (0<=y)&&decide (y<=at_-1))=true) (λi=>nf-(intOf i).toNat)
     case atStart=>exact⟨0,Nat.zero_le _,rfl,rfl⟩
     case round=>
      obtain⟨k,hk,rfl,hall⟩:=hrel;have qV:=Lib.hid hall;clear hall;by_cases hlt:k<nf
      . obtain⟨g,o,x,rfl,hx,hcell⟩:=hfW.at_ hlt;have Hx:=Lib.hid hx;clear hx;by_cases hin:(decide (0<=x)&&decide (x<=at_-1))=true
        . have Hin:=Lib.hid hin;go_wp2_with fail;refine(qo1 _ _ _ _).mono ?_;rw[hin];clear hin;rintro e w' ⟨rfl,rfl⟩;go_wp2;go_round
          case rel=>exact⟨k+1,by omega,by go_num,by rw[qg7 _ Hx.out,qV.out,Hin.out];rfl⟩
          case measure=>simp[intOf];omega
        . have vA:(decide (0<=x)&&decide (x<=at_-1))=false:=by simpa using hin
          have Hr:Hid (qdm nd at_ wd=false):=by
           show qdm nd at_ wd=false
           have:nd.frm.all (λy=>decide (0<=y)&&decide (y<=at_-1))=false:=by
            rw[List.all_eq_false];exact⟨x,mem_of_getElem? Hx.out,by simpa using hin⟩
           unfold qdm;rw[this];simp
          clear hin;go_wp2_with fail;refine(qo1 _ _ _ _).mono ?_;rw[vA];clear vA;rintro e w' ⟨rfl,rfl⟩;go_wp2;go_ret;exact⟨by rw[Hr.out];rfl,qcn hG.out _⟩
      . have Hr:Hid (qdm nd at_ wd=if nd.kind=0 then decide (nr=wd) else decide (nr=0)):=by
         show qdm nd at_ wd=if nd.kind=0 then decide (nr=wd)else decide (nr=0);have h1:=qV.out;rw[show k=nf by omega,Hnf.out,take_length]at h1;have h2:qav nd.kind=(nd.frm.length:Int):=by rw[<-Hnf.out];simpa using hb
         unfold qdm;rw[h1,h2,Hv.out,Hnr.out];simp
        by_cases hk0:nd.kind=0
        . have Hr':Hid (qdm nd at_ wd=((nr:Int) == (wd:Int))):=by
           show qdm nd at_ wd=((nr:Int)==(wd:Int));rw[Hr.out,if_pos hk0,Bool.eq_iff_iff];simp;omega
          have hb0:(nd.kind==0)=true:=by simpa using hk0
          clear hk0 Hr;go_wp2;go_ret;exact⟨by rw[Hr'.out];rfl,qcn hG.out _⟩
        . have Hr':Hid (qdm nd at_ wd=((nr:Int) == 0)):=by
           show qdm nd at_ wd=((nr:Int)==0);rw[Hr.out,if_neg hk0,Bool.eq_iff_iff];simp
          have hb0:(nd.kind==0)=false:=by simpa using hk0
          clear hk0 Hr;go_wp2;go_ret;exact⟨by rw[Hr'.out];rfl,qcn hG.out _⟩
   . have hv':qal nd.row=false:=by simpa using hv
     have Hr:Hid (qdm nd at_ wd=false):=by
      show qdm nd at_ wd=false;unfold qdm;rw[hv'];simp
     have Hv:=Lib.hid hv';clear hv hv';go_enter Tryz.func121,Tryz.ntmps121;go_wp2_with fail
     go_quiet ((first
      |(go_at_call 149;exact qdh (qbw _ _))
      |(go_at_call 157;exact qdh (qcb _ _ _ (by exact hrW) Hv.out))))
     go_wp2;go_ret;exact⟨by rw[Hr.out];rfl,qcn hG.out _⟩
 . have hb:(qav nd.kind != (nf:Int))=true:=by simpa using hk
   have Hr:Hid (qdm nd at_ wd=false):=by
    show qdm nd at_ wd=false;unfold qdm;rw[show decide (qav nd.kind=(nd.frm.length:Int))=false by rw[<-Hnf.out];simpa using hk];simp
   clear hk;go_enter Tryz.func121,Tryz.ntmps121;go_wp2_with fail
   go_quiet ((first
    |(go_at_call 149;exact qdh (qbw _ _))
    |(go_at_call 157;exact qdh (qj4 _ _ _ (by exact hrW)))))
   go_wp2;go_ret;exact⟨by rw[Hr.out];rfl,qcn hG.out _⟩
theorem q4t(v:Value)(nd:Node)(at_:Int)(wd:Nat)(w:World)(h:NV w v nd)(ha0:0<=at_)(ha1:at_<=1000000000){b:Bool}(hb:qdm nd at_ wd=b) :
   Calls Tryz.prog 121 #[v,.int .i64 at_,.int .i64 wd] w λe w'=>e=.returned (.bool b)/\w.grownBy w' none:=hb▸q53 v nd at_ wd w h ha0 ha1
theorem qq1(v:Value)(qa:List Node)(w:World)(h:RN w v qa)(hl:qa.length<=1000000000) :
   Calls Tryz.prog 73 #[v] w λe w'=>e=.returned (.bool (qaf qa))/\w.grownBy w' none:=by
 obtain⟨A,n,c,rfl,_,hn,_⟩:=h.form';rw[<-hn]at hl;have Hn:=Lib.hid hn;clear hn;go_enter Tryz.func73,Tryz.ntmps73;go_wp2_with fail
 go_loopw [3] (λi wr=>∃k:Nat,k<=n/\i=.int .i64 k/\(qa.zipIdx.take k).all (λx=>qdm x.1 x.2 (wide qa))=true/\w.grownBy wr none) (λi _=>n-(intOf i).toNat)
 case atStart=>exact⟨0,Nat.zero_le _,rfl,rfl,qah _ _⟩
 case round=>
  obtain⟨k,hk,rfl,hall,hg⟩:=hrel;have qV:=Lib.hid hall;clear hall;have hwr:=h.new hg;by_cases hlt:k<n
  . obtain⟨g,o,nd,f,r,rfl,hx,c0,c1,c2,hf,hr⟩:=hwr.at_ hlt;have Hx:=Lib.hid hx;clear hx;have hnv:NV wr (.agg #[.int .i64 nd.kind,f,r]) nd:=⟨f,r,rfl,hf,hr⟩;by_cases hno:qdm nd k (wide qa)=true
    . have Hno:=Lib.hid hno;clear hno;go_wp2_with fail
      go_region_held3 (λw'=>w'.cell? ⟨g,o+k*3,none⟩=some (.int .i64 nd.kind)/\w'.cell? ⟨g,o+k*3+1,none⟩=some f/\w'.cell? ⟨g,o+k*3+2,none⟩=some r) (go_keep)
       (first
        |(go_at_call 122;refine(qxn _ qa _ (by exact hwr)).mono ?_;rintro e w' ⟨rfl,rfl⟩)
        |(go_at_call 121;refine(q4t _ nd k (wide qa) _ (by exact hnv) (by omega) (by omega) Hno.out).mono ?_;rintro e w' ⟨rfl,hg'⟩;have k0:=hg'.cell (by exact c0) (by simp);have k1:=hg'.cell (by exact c1) (by simp);have k2:=hg'.cell (by exact c2) (by simp)))
      go_wp2;go_roundw
      case rel=>exact⟨k+1,by omega,by go_num,by rw[qg7 _ (qqz Hx.out),qV.out];exact Hno.out,qad (qay hg) (by assumption)⟩
      case measure=>simp[intOf];omega
    . have hno':qdm nd k (wide qa)=false:=by simpa using hno
      have Hno:=Lib.hid hno'
      have Hr:Hid (qaf qa=false):=by
       show qaf qa=false
       have:qa.zipIdx.all (λx=>qdm x.1 x.2 (wide qa))=false:=by
        rw[List.all_eq_false];exact⟨(nd,k),mem_of_getElem? (qqz Hx.out),hno⟩
       unfold qaf;rw[this];simp
      clear hno hno';go_wp2_with fail
      go_region_held3 (λw'=>w'.cell? ⟨g,o+k*3,none⟩=some (.int .i64 nd.kind)/\w'.cell? ⟨g,o+k*3+1,none⟩=some f/\w'.cell? ⟨g,o+k*3+2,none⟩=some r) (go_keep)
       (first
        |(go_at_call 122;refine(qxn _ qa _ (by exact hwr)).mono ?_;rintro e w' ⟨rfl,rfl⟩)
        |(go_at_call 121;refine(q4t _ nd k (wide qa) _ (by exact hnv) (by omega) (by omega) Hno.out).mono ?_;rintro e w' ⟨rfl,hg'⟩;have k0:=hg'.cell (by exact c0) (by simp);have k1:=hg'.cell (by exact c1) (by simp);have k2:=hg'.cell (by exact c2) (by simp)))
      go_wp2;go_ret;exact⟨by rw[Hr.out];rfl,qad (qay hg) (by assumption)⟩
  . have Hr:Hid (qaf qa=decide ((n:Int)<=10)):=by
     show qaf qa=decide ((n:Int)<=10);have h1:=qV.out;rw[take_of_length_le (by rw[length_zipIdx,<-Hn.out];omega)]at h1;unfold qaf;rw[h1,Bool.true_and,<-Hn.out];exact decide_eq_decide.2 (by omega)
    go_wp2;go_ret;exact⟨by rw[Hr.out];rfl,hg⟩
theorem qb7(v:Value)(qa:List Node)(w:World)(h:RN w v qa)(hl:qa.length<=1000000000){b:Bool}(hb:qaf qa=b) :
   Calls Tryz.prog 73 #[v] w λe w'=>e=.returned (.bool b)/\w.grownBy w' none:=hb▸qq1 v qa w h hl
def yY(qa:List Node)(k:Nat):Int:=((qa.take k).map (λx=>(x.frm.length:Int))).sum
theorem q76{qa:List Node}{k:Nat}{nd:Node}(h:qa[k]?=some nd):yY qa (k+1)=yY qa k+nd.frm.length:=by
 obtain⟨hk,rfl⟩:=List.getElem?_eq_some_iff.1 h;unfold yY;rw[take_succ_eq_append_getElem hk,map_append,sum_append];simp
end
end Go.Proofs.YtacemdoejblgaaaGreatDoor

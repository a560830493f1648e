/- Part 20. Conditions: each statement's. -/
import Derived.Test.YtacemdoejblgaaaGreatDoorM18
import Derived.Deep.Upon
import Derived.Test.YtacemdoejblgaaaGreatDoorM17
import Derived.Deep.AppendLies
import Derived.Deep.RegionLaw
namespace Go.Proofs.YtacemdoejblgaaaGreatDoor
set_option maxHeartbeats 6400000
set_option maxRecDepth 100000
section
open Go.RowKit
def QI(w:World)(base:Nat)(v:Value)(l:List Int):Prop:=QS w base 3 v (l.map (.int .i64))
section
variable {w w':World}{base:Nat}{v:Value}{l:List Int}{row:Option Nat}
theorem QI.ri(h:QI w base v l):RI w v l:=QS.ri h
theorem qf.qi(h:qf w base v l):QI w base v l:=h.qs
theorem QI.grown(h:QI w base v l)(hg:w.grownBy w' row)(hr:qg w 3 row):QI w' base v l:=QS.grown h hg hr
theorem QI.new(h:QI w base v l)(hg:w.grownBy w' none):QI w' base v l:=QS.new h hg
theorem QI.lt(h:QI w base v l):∀ g,v.ownBlock=some g->base<=g/\g < w.heap.size:=QS.lt h
theorem QI.low{b:Nat}(h:QI w base v l)(hab:b<=base):QI w b v l:=by
 obtain⟨A,c,h1,h2,h3,h6,h5⟩:=h;refine⟨A,c,h1,h2,h3,h6,?_⟩;rcases h5 with h5 | ⟨g,o,cur,k1,k2,k3⟩
 . exact .inl h5
 . exact .inr ⟨g,o,cur,k1,Nat.le_trans hab k2,k3⟩
end
theorem qhl(l:List Int):∀ u∈l.map (Value.int .i64),u.oneCell'=true:=fun u hu=>by
 obtain⟨x,_,rfl⟩:=List.mem_map.1 hu;rfl
theorem qd9{ops:Array Oper}{rest:List Oper}{o:Oper}{a:Act}{Q:Exit->Act->World->Prop}{w:World}{u:Int}
   (s x:Operand) (hgd:o.guard=none) (ho:o.op=.call { callee:=.builtin .append,args:=#[s,x],argTypes:=#[24,24] })
   {base:Nat} {v:Value} {l:List Int} (hown:qf w base v l) (hn:l.length<=1000000000) (hbase:base<=w.heap.size)
   (hs:a.eval s=v) {N:Nat} (hx:a.eval x=.slice (some ⟨N,0,none⟩) 1 1) (hN:N=w.heap.size)
   (h:∀ v' w',qf w' base v' (l++[u])->w.grownBy w' v.ownBlock->wpList Tryz.prog ops Q rest (a.put o.dst v') w') :
   wpList Tryz.prog ops Q (o::rest) a (w.alloc (.cells #[.int .i64 u] 3)):=by
 subst hN;exact qcg s x hgd ho hown hn hbase hs hx h
def q5q(B0 rb:Nat)(w:World)(p:Int)(e:Ending)(w':World):Prop:=
 ∃ v nd,e=.returned v/\NV w' v nd/\nd.frm.length<=2/\nd.row.length<=20/\∃ p',p<=p'/\p'<=p+100/\Rdr B0 w' rb p'/\w.grownBy w' (some rb)
structure qz(B0 rb xb R:Nat)(w wx:World)(kind:Int)(fv rv:Value)(frm row:List Int)(q:Int):Prop where
 x:Blk wx xb 81 #[.int .i64 kind,fv,rv]
 f:qf wx w.heap.size fv frm
 r:RI wx rv row
 res:Blk wx R 81 #[.int .i64 0,.slice none 0 0,.slice none 0 0]
 ne:R≠xb
 rd:Rdr B0 wx rb q
 g:w.grownBy wx (some rb)
 xb:w.heap.size<=xb
 rbl:w.heap.size<=R
 hB:B0<=w.heap.size
theorem qz.store{B0 rb xb R:Nat}{w wx:World}{kind yN:Int}{fv rv fv' rv':Value}{frm row yO row':List Int}{q:Int}(M:qz B0 rb xb R w wx kind fv rv frm row q)(j:Nat)(u:Value)
   (hc:(#[.int .i64 kind,fv,rv]:Array Value).setIfInBounds j u=#[.int .i64 yN,fv',rv']) (hf:qf wx w.heap.size fv' yO) (hr:RI wx rv' row') :
   qz B0 rb xb R w (wx.setCell ⟨xb,j,none⟩ u) yN fv' rv' yO row' q:=by
 have hg:wx.grownBy (wx.setCell ⟨xb,j,none⟩ u) (some xb):=qa2 (qag wx (some xb)) (.inr rfl) u;have hn:qg wx 3 (some xb):=qg.blk M.x (by decide);refine⟨by rw [<-hc];exact M.x.qC j u,hf.grown hg hn,hr.grown hg hn,M.res.far M.ne u,M.ne,M.rd.kept hg ?_,qa2 M.g (.inl M.xb) u,M.xb,M.rbl,M.hB⟩;intro g e;cases e;obtain⟨bv,hb⟩:=M.rd.blk;exact⟨Nat.le_trans M.hB M.xb,M.x.ne_ hb (by decide)⟩
theorem qz.call{B0 rb xb R:Nat}{w wx wy:World}{kind:Int}{fv rv:Value}{frm row:List Int}{q q':Int}(M:qz B0 rb xb R w wx kind fv rv frm row q)(hg:wx.grownBy wy (some rb))(hrd:Rdr B0 wy rb q') :
   qz B0 rb xb R w wy kind fv rv frm row q':=by
 have ne:∀ {g:Nat} {cs:Array Value},Blk wx g 81 cs->some g≠some rb:=fun hb e=>by
   obtain⟨bv,hbb⟩:=M.rd.blk;cases e;exact hb.ne_ hbb (by decide) rfl
 exact⟨M.x.grown hg (ne M.x),M.f.grown hg (M.rd.qV (by decide)),M.r.grown hg (M.rd.qV (by decide)),M.res.grown hg (ne M.res),M.ne,hrd,qac M.g hg,M.xb,M.rbl,M.hB⟩
theorem qz.drew{B0 rb xb R:Nat}{w wx:World}{kind:Int}{fv rv:Value}{frm row:List Int}{q:Int}(M:qz B0 rb xb R w wx kind fv rv frm row q):qz B0 rb xb R w wx.drew kind fv rv frm row q:=
 ⟨M.x,M.f,M.r,M.res,M.ne,M.rd,qax M.g,M.xb,M.rbl,M.hB⟩
theorem qz.alloc{B0 rb xb R:Nat}{w wx:World}{kind:Int}{fv rv:Value}{frm row:List Int}{q:Int}(M:qz B0 rb xb R w wx kind fv rv frm row q)(o:Obj):qz B0 rb xb R w (wx.alloc o) kind fv rv frm row q:=
 M.call (qap (qag wx _) o) (M.rd.new (World.grownBy_alloc _ _ _))
theorem qz.push{B0 rb xb R:Nat}{w wx wy:World}{kind:Int}{fv rv:Value}{frm yO:List Int}{q:Int}(M:qz B0 rb xb R w wx kind fv rv frm [] q)(hg:wx.grownBy wy fv.ownBlock){v':Value}(ho:qf wy w.heap.size v' yO) :
   wy.cell? ⟨xb,1,none⟩=some fv/\wy.frozen? ⟨xb,1,none⟩=false/\qz B0 rb xb R w (wy.setCell ⟨xb,1,none⟩ v') kind v' rv yO [] q:=by
 have hne:∀ {g:Nat} {cs:Array Value},Blk wx g 81 cs->some g≠fv.ownBlock:=fun hb e=>M.f.qV (by decide) _ e.symm _ hb;have hrd:Rdr B0 wy rb q:=M.rd.own M.f (by decide) M.hB hg;have hx:=M.x.grown hg (hne M.x);have hst:wy.grownBy (wy.setCell ⟨xb,1,none⟩ v') (some xb):=qa2 (qag wy (some xb)) (.inr rfl) _;refine⟨hx.cell 1,hx.frozen 1,hx.qC 1 v',ho.grown hst (qg.blk hx (by decide)),M.r.empty _,(M.res.grown hg (hne M.res)).far M.ne _,M.ne,?_,qa2 (M.f.gb M.g hg (Nat.le_refl _)) (.inl M.xb) _,M.xb,M.rbl,M.hB⟩;refine hrd.kept hst ?_;intro g e;cases e;obtain⟨bv,hb⟩:=hrd.blk;exact⟨Nat.le_trans M.hB M.xb,hx.ne_ hb (by decide)⟩
theorem qx0(B0 rb:Nat)(p:Int)(at_:Int)(n:Nat)(w:World)(h:Rdr B0 w rb p)(hp0:0<=p)(hp:p<=800000)(hn:n<=20) :
   Calls Tryz.prog 97 #[.pointer (some ⟨rb,0,none⟩),.int .i64 at_,.int .i64 n] w (q5q B0 rb w p):=by
 have hB:B0<=w.heap.size:=by obtain⟨_,_,_,_,_,h4,_⟩:=h;exact h4
 go_enter Tryz.func97,Tryz.ntmps97;go_wp2_with fail;refine(qcq B0 rb p _ _ (h.new (World.grownBy_alloc _ _ _)) (by omega) (by omega)).mono ?_;rintro e w1 ⟨r1,rfl,hr1,_,zB,hg1⟩;have h1:=hr1 (by omega);have hres:=(Blk.new w 81 #[.int .i64 0,.slice none 0 0,.slice none 0 0]).grown hg1 (by have:=h.lt;intro e;cases e;omega);have hsz:=hg1.size;simp only [World.size_alloc] at hsz;have qfE:w.grownBy w1 (some rb):=qac (qap (qag w _) _) hg1
 have M:qz B0 rb (w1.heap.size+1+1) w.heap.size w (((w1.alloc (.cells #[] 3)).alloc (.cells #[] 3)).alloc (.cells #[.int .i64 r1,.slice (some ⟨w1.heap.size,0,none⟩) 0 0,.slice (some ⟨w1.heap.size+1,0,none⟩) 0 0] 81)) r1
     (.slice (some ⟨w1.heap.size,0,none⟩) 0 0) (.slice (some ⟨w1.heap.size+1,0,none⟩) 0 0) [] [] (p+1):=by
   refine⟨?_,?_,?_,?_,by omega,?_,?_,by omega,by omega,hB⟩
   . have:=Blk.new ((w1.alloc (.cells #[] 3)).alloc (.cells #[] 3)) 81 #[.int .i64 r1,.slice (some ⟨w1.heap.size,0,none⟩) 0 0,.slice (some ⟨w1.heap.size+1,0,none⟩) 0 0];simpa using this
   . exact((qf.empty w1 (by omega)).alloc _).alloc _
   . have:=((qf.empty (base:=0) (w1.alloc (.cells #[] 3)) (by omega)).alloc (.cells #[.int .i64 r1,.slice (some ⟨w1.heap.size,0,none⟩) 0 0,.slice (some ⟨w1.heap.size+1,0,none⟩) 0 0] 81)).ri;simpa using this
   . exact((hres.alloc _).alloc _).alloc _
   . exact((zB.new (World.grownBy_alloc _ _ _)).new (World.grownBy_alloc _ _ _)).new (World.grownBy_alloc _ _ _)
   . exact qap (qap (qap qfE _) _) _
 clear hres hr1
 go_upto_if 15 with fail
 generalize (((w1.alloc (.cells #[] 3)).alloc (.cells #[] 3)).alloc (.cells #[.int .i64 r1,.slice (some ⟨w1.heap.size,0,none⟩) 0 0,.slice (some ⟨w1.heap.size+1,0,none⟩) 0 0] 81))=wa at M |-
 go_cut [] (fun wx=>∃ (kind:Int) (fv rv:Value),0<=kind/\kind<=5/\qz B0 rb (w1.heap.size+1+1) w.heap.size w wx kind fv rv [] [] (p+1))
 case first=>
   by_cases hat:at_=0
   . have c0:=M.x.cell 0;have f0:=M.x.frozen 0;have M0:=M.store 0 (.int .i64 0) rfl M.f M.r;go_wp2_with fail;go_meet;exact⟨0,_,_,by omega,by omega,M0⟩
   . go_wp2_with fail;go_meet;exact⟨r1,_,_,by omega,by omega,M⟩
 case rest=>
   obtain⟨kind,fv,rv,hk0,hk5,M⟩:=hcut;generalize w1.heap.size+1+1=xb at M |-;have c0:wc.cell? ⟨xb,0,none⟩=some (.int .i64 kind):=M.x.cell 0
   go_upto_if 19 with fail
   clear c0
   go_cut [] (fun wx=>∃ (rv:Value) (row:List Int) (q:Int),row.length<=20/\(kind≠0->row=[])/\p+1<=q/\q<=p+70/\qz B0 rb xb w.heap.size w wx kind fv rv [] row q)
   case first=>
     by_cases hk:kind=0
     . go_wp2_with fail;refine(qsn B0 rb _ n _ M.rd (by omega) (by omega) hn).mono ?_;rintro e w2 ⟨v,row,rfl,hri,hl,_,q,hq1,hq2,zZ,hg2⟩;have qaT:row.length<=20:=by omega
       clear hl;obtain⟨A,m,c,rfl⟩:=hri.val;have M2:=M.call hg2 zZ;have c2:=M2.x.cell 2;have f2:=M2.x.frozen 2;have M3:=M2.store 2 _ rfl M2.f hri;clear M M2;go_wp2_with fail;go_meet;exact⟨_,row,q,qaT,by omega,by omega,by omega,M3⟩
     . go_wp2_with fail;go_meet;exact⟨_,_,_,by simp,fun _=>rfl,by omega,by omega,M⟩
   case rest=>
     clear M;obtain⟨rv,row,q,hrow,hkr,hq1,hq2,M⟩:=hcut;have Hkr:=Lib.hid hkr;clear hkr;have hkn:=qm9 kind;have qiN:0<=qaq kind:=qn7 hk0 hk5;go_wp2_with fail
     go_loopw [8] (fun i wr=>∃ (k:Nat) (fv:Value) (frm:List Int) (q':Int),(k:Int)<=qaq kind/\i=.int .i64 k/\frm.length=k/\q<=q'/\q'<=q+k/\qz B0 rb xb w.heap.size w wr kind fv rv frm row q') (fun i _=>(qaq kind - intOf i).toNat)
     case atStart=>exact⟨0,fv,[],q,by omega,rfl,rfl,by omega,by omega,M⟩
     case round=>
       clear M;obtain⟨k,fv,frm,q',hk,rfl,hl,hq3,hq4,M⟩:=hrel;have hl2:frm.length<=2:=by omega
       have Hl:=Lib.hid hl;clear hl;have c0:wr.cell? ⟨xb,0,none⟩=some (.int .i64 kind):=M.x.cell 0;by_cases hlt:(k:Int) < qaq kind
       . have qbA:row=[]:=Hkr.out (by rintro rfl;simp [qaq] at hlt;omega);subst qbA;go_wp2_with fail;refine(qbc _ _).mono ?_;rintro e w2 ⟨rfl,rfl⟩;go_wp2_with fail;have c1:wr.cell? ⟨xb,1,none⟩=some fv:=M.x.cell 1;have MD:qz B0 rb xb w.heap.size w wr.drew kind fv rv frm [] q':=M.drew;have k1:wr.drew.cell? ⟨xb,1,none⟩=some fv:=M.x.cell 1
         go_region_law (first
           | (refine qkn (.tmp 32) (.tmp 36) rfl rfl M2.f (by omega) M2.g.size rfl rfl ?_;intro v' w4 qn hg4;obtain⟨A4,n4,c4,rfl⟩:=qn.ri.val;obtain⟨k2,k3,M4⟩:=M2.push hg4 qn)
           | (go_simp;go_at_call 64;refine(qcq B0 rb _ _ _ MD.rd (by omega) (by omega)).mono ?_;rintro e w2 ⟨r2,rfl,hr2,_,zZ,hg2⟩;have M2:=MD.call hg2 zZ;have k1:w2.cell? ⟨xb,1,none⟩=some fv:=M2.x.cell 1;have k1b:(w2.alloc (.cells #[.int .i64 r2] 3)).cell? ⟨xb,1,none⟩=some fv:=(M2.alloc _).x.cell 1))
         all_goals
           go_wp2_with fail;go_roundw
           case rel=>exact⟨k+1,_,frm++[r2],q'+1,by omega,by go_num,by simp [Hl.out],by omega,by omega,M4⟩
           case measure=>simp [intOf];omega
       . have qdA:=M.f.ri;have qdB:=M.r;obtain⟨Af,nf,cf,rfl⟩:=qdA.val;obtain⟨Ar,nr,cr,rfl⟩:=qdB.val;go_wp2_with fail;refine(qbc _ _).mono ?_;rintro e w2 ⟨rfl,rfl⟩;have c1:wr.cell? ⟨xb,1,none⟩=some (.slice Af nf cf):=M.x.cell 1;have c2:wr.cell? ⟨xb,2,none⟩=some (.slice Ar nr cr):=M.x.cell 2;have d0:=M.res.cell 0;have d1:=M.res.cell 1;have d2:=M.res.cell 2;have f0:=M.res.frozen 0;have f1:=M.res.frozen 1;have f2:=M.res.frozen 2;go_wp2_with fail;refine bodyPost_ret (v:=.agg #[.int .i64 kind,.slice Af nf cf,.slice Ar nr cr]) (by simp [results,Tryz.results97,go_sem,d0,d1,d2]) rfl ?_;have hst:=q21 wr w.heap.size (.int .i64 kind) (.slice Af nf cf) (.slice Ar nr cr);have hne:qg wr 3 (some w.heap.size):=qg.blk M.res (by decide);refine⟨_,⟨kind,frm,row⟩,rfl,⟨_,_,rfl,qdA.grown hst hne,qdB.grown hst hne⟩,hl2,hrow,q',by omega,by omega,M.rd.kept hst ?_,qa1 M.g hst (fun g e=>by cases e;exact .inl (Nat.le_refl _))⟩;intro g e;cases e;obtain⟨bv,hb⟩:=M.rd.blk;exact⟨hB,M.res.ne_ hb (by decide)⟩
def qig(qa:List Node):Prop:=qa.length<=11/\∀ nd∈qa,nd.frm.length<=2/\nd.row.length<=20
def q5r(B0 rb:Nat)(w:World)(p:Int)(e:Ending)(w':World):Prop:=
 ∃ v qa,e=.returned v/\RN w' v qa/\qig qa/\∃ p',p<=p'/\p'<=p+2000/\Rdr B0 w' rb p'/\w.grownBy w' (some rb)
structure qG(B0 rb:Nat)(w wx:World)(v:Value)(qa:List Node)(q:Int):Prop where
 o:jM wx w.heap.size v qa
 s:∀ nd∈qa,nd.frm.length<=2/\nd.row.length<=20
 rd:Rdr B0 wx rb q
 g:w.grownBy wx (some rb)
 hB:B0<=w.heap.size
theorem qG.call{B0 rb:Nat}{w wx wy:World}{v:Value}{qa:List Node}{q q':Int}(M:qG B0 rb w wx v qa q)(hg:wx.grownBy wy (some rb))(hrd:Rdr B0 wy rb q'):qG B0 rb w wy v qa q':=
 ⟨M.o.grown hg (M.rd.qV (by decide)) (M.rd.qV (by decide)),M.s,hrd,qac M.g hg,M.hB⟩
theorem qG.alloc{B0 rb:Nat}{w wx:World}{v:Value}{qa:List Node}{q:Int}(M:qG B0 rb w wx v qa q)(o:Obj):qG B0 rb w (wx.alloc o) v qa q:=
 M.call (qap (qag wx _) o) (M.rd.new (World.grownBy_alloc _ _ _))
theorem qG.push{B0 rb:Nat}{w wx wy:World}{v v':Value}{qa:List Node}{nd:Node}{q:Int}(M:qG B0 rb w wx v qa q)(hs:nd.frm.length<=2/\nd.row.length<=20)(ho:jM wy w.heap.size v' (qa++[nd]))(hg:wx.grownBy wy v.ownBlock) :
   qG B0 rb w wy v' (qa++[nd]) q:=by
 refine⟨ho,?_,M.rd.kept hg (fun g e=>⟨Nat.le_trans M.hB (M.o.lt g e).1,fun hgr=>?_⟩),M.o.gb M.g hg (Nat.le_refl _),M.hB⟩
 . intro x hx;rcases List.mem_append.1 hx with hx | hx
   . exact M.s x hx
   . simp at hx;subst hx;exact hs
 . obtain⟨bv,hb⟩:=M.rd.blk;exact M.o.qV (by decide) g e _ (hgr ▸ hb)
theorem qG.qC{B0 rb:Nat}{w wx:World}{qa:List Node}{nd:Node}{q:Int}{g n cap k:Nat}{cur:Array Value}{f r:Value}(M:qG B0 rb w wx (.slice (some ⟨g,0,none⟩) n cap) qa q)(hn:qa.length=n)(hk:k < n)
   (hf:RI wx f nd.frm) (hr:RI wx r nd.row) (hs:nd.frm.length<=2/\nd.row.length<=20) (hgb:w.heap.size<=g) (hb:Blk wx g 81 cur) :
   qG B0 rb w (((wx.setCell ⟨g,k * 3,none⟩ (.int .i64 nd.kind)).setCell ⟨g,k * 3+1,none⟩ f).setCell ⟨g,k * 3+2,none⟩ r) (.slice (some ⟨g,0,none⟩) n cap) (qa.set k nd) q:=by
 have hg:wx.grownBy (((wx.setCell ⟨g,k * 3,none⟩ (.int .i64 nd.kind)).setCell ⟨g,k * 3+1,none⟩ f).setCell ⟨g,k * 3+2,none⟩ r) (some g):=
   qa2 (p:=⟨g,k * 3+2,none⟩) (qa2 (p:=⟨g,k * 3+1,none⟩) (qa2 (p:=⟨g,k * 3,none⟩) (qag wx (some g)) (.inr rfl) _) (.inr rfl) _) (.inr rfl) _
 refine⟨M.o.qC hn hk hf hr,?_,M.rd.kept hg ?_,qa1 M.g hg (fun g' e=>by cases e;exact .inl hgb),M.hB⟩
 . intro x hx;rcases List.mem_or_eq_of_mem_set hx with hx | rfl
   . exact M.s x hx
   . exact hs
 . intro g' e;cases e;obtain⟨bv,hbb⟩:=M.rd.blk;exact⟨Nat.le_trans M.hB hgb,hb.ne_ hbb (by decide)⟩
theorem qx1(B0 rb:Nat)(p:Int)(w:World)(h:Rdr B0 w rb p)(hp0:0<=p)(hp:p<=700000) :
   Calls Tryz.prog 63 #[.pointer (some ⟨rb,0,none⟩)] w (q5r B0 rb w p):=by
 have hB:B0<=w.heap.size:=by obtain⟨_,_,_,_,_,h4,_⟩:=h;exact h4
 go_enter Tryz.func63,Tryz.ntmps63;go_wp2_with fail;refine(qcq B0 rb p _ _ (h.new (World.grownBy_alloc _ _ _)) (by omega) (by omega)).mono ?_;rintro e w1 ⟨r1,rfl,hr1,_,zB,hg1⟩
 have M1:qG B0 rb w w1 (.slice (some ⟨w.heap.size,0,none⟩) 0 0) [] (p+1):=
   ⟨(jM.empty w (Nat.le_refl _)).grown hg1 ((h.new (World.grownBy_alloc _ _ _)).qV (by decide)) ((h.new (World.grownBy_alloc _ _ _)).qV (by decide)),by simp,zB,qac (qap (qag w _) _) hg1,hB⟩
 go_wp2_with fail;refine(qcq B0 rb _ _ _ M1.rd (by omega) (by omega)).mono ?_;rintro e w2 ⟨r2,rfl,hr2,_,zZ,hg2⟩;have M2:=M1.call hg2 zZ;have h1:=hr1 (by omega);have h2:=hr2 (by omega);go_wp2_with fail;refine(qcq B0 rb _ _ _ M2.rd (by omega) (by omega)).mono ?_;rintro e w3 ⟨r3,rfl,hr3,_,vK,hg3⟩;have M3:=M2.call hg3 vK;have h3:=hr3 (by omega);clear M1 M2 hr1 hr2 hr3 hg1 hg2 hg3 zB zZ vK
 go_upto_if 15 with fail
 go_cut [5] (fun nv wx=>∃ (n:Nat) (q:Int),nv=.int .i64 n/\n<=11/\p<=q/\q<=p+10/\qG B0 rb w wx (.slice (some ⟨w.heap.size,0,none⟩) 0 0) [] q)
 case first=>
   by_cases hz:r3=0
   . subst hz;go_wp2_with fail;refine(qcq B0 rb _ _ _ (M3.alloc _).rd (by omega) (by omega)).mono ?_;rintro e w4 ⟨r4,rfl,hr4,_,xd,hg4⟩;have M4:=(M3.alloc _).call hg4 xd;have h4:=hr4 (by omega)
     have hb:Blk w4 w3.heap.size 3 #[.int .i64 0,.int .i64 10,.int .i64 11]:=(Blk.new w3 _ _).grown hg4 (by
       have:=M3.rd.lt;intro e;cases e;omega)
     obtain⟨n,hn,hcell⟩:∃ n:Nat,n<=11/\w4.cell? ⟨w3.heap.size,r4.toNat,none⟩=some (.int .i64 n):=by
       rcases (show r4=0∨r4=1∨r4=2 by omega) with rfl | rfl | rfl
       . exact⟨0,by omega,hb.cell 0⟩
       . exact⟨10,by omega,hb.cell 1⟩
       . exact⟨11,by omega,hb.cell 2⟩
     clear hb;go_wp2_with fail;go_meet;exact⟨n,_,rfl,hn,by omega,by omega,M4⟩
   . obtain⟨m,rfl⟩:=Int.eq_ofNat_of_zero_le h2.1;go_wp2_with fail;go_meet;exact⟨m+1,_,by go_num,by omega,by omega,by omega,M3⟩
 case rest=>
   obtain⟨n,q,rfl,hn,hq1,hq2,M⟩:=hcut;clear M3 h2 h3;obtain⟨wide,rfl⟩:=Int.eq_ofNat_of_zero_le h1.1;go_wp2_with fail
   go_loopw [3,6] (fun v i wr=>∃ (k:Nat) (qa:List Node) (q':Int),k<=n/\i=.int .i64 k/\qa.length=k/\q<=q'/\q'<=q+100 * k/\qG B0 rb w wr v qa q') (fun _ i _=>n - (intOf i).toNat)
   case atStart=>exact⟨0,[],q,by omega,rfl,rfl,by omega,by omega,M⟩
   case round=>
     clear M;obtain⟨k,qa,q',hk,rfl,hl,hq3,hq4,M⟩:=hrel;have kQ:qa.length<=11:=by omega
     have Hl:=Lib.hid hl;clear hl;by_cases hlt:k < n
     . go_wp2_with fail;refine(qx0 B0 rb _ _ _ _ M.rd (by omega) (by omega) (by omega)).mono ?_;rintro e w4 ⟨v4,nd,rfl,⟨f,r,rfl,hf,hr⟩,hs1,hs2,q4,hq5,hq6,xd,hg4⟩;have M4:=M.call hg4 xd;go_wp2_with (at_builtin;go_must (refine qvb (.tmp 26) (.tmp 31) rfl rfl M4.o hf hr (by omega) M4.g.size rfl rfl ?_));intro v' w5 qA hg5;go_wp2_with fail;go_roundw
       case rel=>exact⟨k+1,qa++[nd],q4,by omega,by go_num,by simp [Hl.out],by omega,by omega,M4.push ⟨hs1,hs2⟩ qA hg5⟩
       case measure=>simp [intOf];omega
     . obtain rfl:k=n:=by omega
       by_cases h1:(1:Int) < k
       . go_wp2_with fail;refine(qcq B0 rb _ _ _ M.rd (by omega) (by omega)).mono ?_;rintro e w4 ⟨r4,rfl,hr4,_,xd,hg4⟩;have M4:=M.call hg4 xd;have h4:=hr4 (by omega);clear M;by_cases hz:r4=0
         . subst hz;have hri:RI (w4.alloc (.cells #[.int .i64 ((k:Int) - 1)] 3)) (.slice (some ⟨w4.heap.size,0,none⟩) 1 1) [(k:Int) - 1]:=RI.lit w4 [(k:Int) - 1];have M5:=M4.alloc (.cells #[.int .i64 ((k:Int) - 1)] 3);obtain⟨g,cap,cur,rfl,hcap,hgb,hblk,hcs⟩:=M5.o.form Hl.out (by omega);obtain⟨u0,c0⟩:=hcs ((k - 1) * 3) (by omega);obtain⟨u1,c1⟩:=hcs ((k - 1) * 3+1) (by omega);obtain⟨u2,c2⟩:=hcs ((k - 1) * 3+2) (by omega);have f0:=hblk.frozen ((k - 1) * 3);have f1:=hblk.frozen ((k - 1) * 3+1);have f2:=hblk.frozen ((k - 1) * 3+2);have Mf:=M5.qC (k:=k - 1) (nd:=⟨4,[(k:Int) - 1],[]⟩) Hl.out (by omega) hri (RI.nil _) (by simp) hgb hblk;have hll:(qa.set (k - 1) ⟨4,[(k:Int) - 1],[]⟩).length<=11:=by rw [List.length_set];exact kQ
           clear M4 M5 hblk hcs hri;go_wp2_with fail;go_ret;exact⟨_,_,rfl,Mf.o.rn,⟨hll,Mf.s⟩,_,by omega,by omega,Mf.rd,Mf.g⟩
         . by_cases hz1:r4=1
           . subst hz1;go_wp2_with fail;refine(qsn B0 rb _ (wide+1) _ M4.rd (by omega) (by omega) (by omega)).mono ?_;rintro e w5 ⟨v5,row,rfl,hri,hl5,_,q5,hq5,hq6,kR,hg5⟩;have M5:=M4.call hg5 kR;have qiO:row.length<=20:=by omega
             clear hl5;obtain⟨A5,n5,c5,rfl⟩:=hri.val;obtain⟨g,cap,cur,rfl,hcap,hgb,hblk,hcs⟩:=M5.o.form Hl.out (by omega);obtain⟨u0,c0⟩:=hcs ((k - 1) * 3) (by omega);obtain⟨u1,c1⟩:=hcs ((k - 1) * 3+1) (by omega);obtain⟨u2,c2⟩:=hcs ((k - 1) * 3+2) (by omega);have f0:=hblk.frozen ((k - 1) * 3);have f1:=hblk.frozen ((k - 1) * 3+1);have f2:=hblk.frozen ((k - 1) * 3+2);have Mf:=M5.qC (k:=k - 1) (nd:=⟨0,[],row⟩) Hl.out (by omega) (RI.nil _) hri (by simp;omega) hgb hblk;have hll:(qa.set (k - 1) ⟨0,[],row⟩).length<=11:=by rw [List.length_set];exact kQ
             clear M4 M5 hblk hcs hri;go_wp2_with fail;go_ret;exact⟨_,_,rfl,Mf.o.rn,⟨hll,Mf.s⟩,_,by omega,by omega,Mf.rd,Mf.g⟩
           . go_wp2_with fail;go_ret;exact⟨_,qa,rfl,M4.o.rn,⟨kQ,M4.s⟩,_,by omega,by omega,M4.rd,M4.g⟩
       . go_wp2_with fail;go_ret;exact⟨_,qa,rfl,M.o.rn,⟨kQ,M.s⟩,q',by omega,by omega,M.rd,M.g⟩
theorem qso(v:Value)(qa:List Node)(w:World)(h:RN w v qa) :
   Calls Tryz.prog 122 #[v] w fun e w'=>e=.returned (.int .i64 (wide qa:Nat))/\w=w':=by
 obtain⟨A,n,c,rfl,_,hn,hle⟩:=h.form';have Hn:=Lib.hid hn;clear hn;go_enter Tryz.func122,Tryz.ntmps122
 go_wp2
 go_loop [3] (fun i=>∃ k:Nat,k<=n/\i=.int .i64 k/\(qa.take k).all (fun x=>x.kind != 0)=true) (fun i=>n - (intOf i).toNat)
 case atStart=>exact⟨0,Nat.zero_le _,rfl,rfl⟩
 case round=>
   obtain⟨k,hk,rfl,hall⟩:=hrel;have q9:=Lib.hid hall;clear hall;by_cases hlt:k < n
   . obtain⟨g,o,nd,f,r,rfl,hx,c0,c1,c2,hf,hr⟩:=h.at_ hlt;have Hx:=Lib.hid hx;clear hx;by_cases hk0:nd.kind=0
     . have Hr:Hid (wide qa=nd.row.length):=by
         show wide qa=nd.row.length
         have:qa.find? (fun x=>x.kind == 0)=some nd:=by
           rw [List.find?_eq_some_iff_getElem];obtain⟨hk',hx'⟩:=List.getElem?_eq_some_iff.1 Hx.out;refine⟨by simp [hk0],k,hk',hx',fun j hj=>?_⟩;have:=List.all_eq_true.1 q9.out qa[j] (List.mem_take_iff_getElem.2 ⟨j,by omega,rfl⟩);simpa using this
         unfold wide;rw [this]
       obtain⟨Ar,nr,cr,rfl,_,hnr⟩:=hr.form';rw [<-hnr] at Hr;clear hnr;rw [hk0] at c0;clear hk0;go_wp2_with fail;go_ret;exact⟨by rw [Hr.out];rfl,rfl⟩
     . have hb:(nd.kind == 0)=false:=by simpa using hk0
       have Hb:Hid (nd.kind != 0):=by show (nd.kind != 0)=true;simpa using hk0
       clear hk0;go_wp2_with fail;go_round
       case rel=>exact⟨k+1,by omega,by go_num,by rw [qfw _ Hx.out,q9.out];exact Hb.out⟩
       case measure=>simp [intOf];omega
   . have Hr:Hid (wide qa=0):=by
       show wide qa=0
       have:qa.find? (fun x=>x.kind == 0)=none:=by
         rw [List.find?_eq_none];intro x hx;have h1:=q9.out;rw [show k=n by omega,Hn.out,List.take_length] at h1;simpa using List.all_eq_true.1 h1 x hx
       unfold wide;rw [this]
     go_wp2_with fail;go_ret;exact⟨by rw [Hr.out];rfl,rfl⟩
theorem q08(v:Value)(nd:Node)(at_:Int)(wd:Nat)(w:World)(h:NV w v nd)(ha0:0<=at_)(ha1:at_<=1000000000) :
   Calls Tryz.prog 121 #[v,.int .i64 at_,.int .i64 wd] w fun e w'=>e=.returned (.bool (qcx nd at_ wd))/\w.grownBy w' none:=by
 obtain⟨f,r,rfl,hf,hr⟩:=h;have hfl:=hf.le;have hrl:=hr.le;obtain⟨Af,nf,cf,rfl,_,hnf⟩:=hf.form';obtain⟨Ar,nr,cr,rfl,_,hnr⟩:=hr.form';rw [<-hnf] at hfl;rw [<-hnr] at hrl;have Hnf:=Lib.hid hnf;have Hnr:=Lib.hid hnr;clear hnf hnr;have hrW:=hr.alloc (.cells #[.int .i64 nd.kind,.slice Af nf cf,.slice Ar nr cr] 81);have hfW:=hf.alloc (.cells #[.int .i64 nd.kind,.slice Af nf cf,.slice Ar nr cr] 81);have hG:Hid (w.grownBy (w.alloc (.cells #[.int .i64 nd.kind,.slice Af nf cf,.slice Ar nr cr] 81)) none):=World.grownBy_alloc _ _ _;clear hf hr;by_cases hk:qaq nd.kind=nf
 . have hb:(qaq nd.kind != (nf:Int))=false:=by simpa using hk
   clear hk;by_cases hv:qaj nd.row=true
   . have Hv:=Lib.hid hv;clear hv;go_enter Tryz.func121,Tryz.ntmps121;go_wp2_with fail
     go_quiet ((first
       | (go_at_call 149;exact qct (qbc _ _))
       | (go_at_call 157;exact qct (qbr _ _ _ (by exact hrW) Hv.out))))
     go_wp2_with fail
     go_loop [7] (fun i=>∃ k:Nat,k<=nf/\i=.int .i64 k/\(nd.frm.take k).all (fun y=>decide (0<=y) && decide (y<=at_ - 1))=true) (fun i=>nf - (intOf i).toNat)
     case atStart=>exact⟨0,Nat.zero_le _,rfl,rfl⟩
     case round=>
       obtain⟨k,hk,rfl,hall⟩:=hrel;have q9:=Lib.hid hall;clear hall;by_cases hlt:k < nf
       . obtain⟨g,o,x,rfl,hx,hcell⟩:=hfW.at_ hlt;have Hx:=Lib.hid hx;clear hx;by_cases hin:(decide (0<=x) && decide (x<=at_ - 1))=true
         . have Hin:=Lib.hid hin;go_wp2_with fail;refine(qk2 _ _ _ _).mono ?_;rw [hin];clear hin;rintro e w' ⟨rfl,rfl⟩;go_wp2_with fail;go_round
           case rel=>exact⟨k+1,by omega,by go_num,by rw [qfw _ Hx.out,q9.out,Hin.out];rfl⟩
           case measure=>simp [intOf];omega
         . have za:(decide (0<=x) && decide (x<=at_ - 1))=false:=by simpa using hin
           have Hr:Hid (qcx nd at_ wd=false):=by
             show qcx nd at_ wd=false
             have:nd.frm.all (fun y=>decide (0<=y) && decide (y<=at_ - 1))=false:=by
               rw [List.all_eq_false];exact⟨x,List.mem_of_getElem? Hx.out,by simpa using hin⟩
             unfold qcx;rw [this];simp
           clear hin;go_wp2_with fail;refine(qk2 _ _ _ _).mono ?_;rw [za];clear za;rintro e w' ⟨rfl,rfl⟩;go_wp2_with fail;go_ret;exact⟨by rw [Hr.out];rfl,qb8 hG.out _⟩
       . have Hr:Hid (qcx nd at_ wd=if nd.kind=0 then decide (nr=wd) else decide (nr=0)):=by
           show qcx nd at_ wd=if nd.kind=0 then decide (nr=wd) else decide (nr=0);have h1:=q9.out;rw [show k=nf by omega,Hnf.out,List.take_length] at h1;have h2:qaq nd.kind=(nd.frm.length:Int):=by rw [<-Hnf.out];simpa using hb
           unfold qcx;rw [h1,h2,Hv.out,Hnr.out];simp
         by_cases hk0:nd.kind=0
         . have Hr':Hid (qcx nd at_ wd=((nr:Int) == (wd:Int))):=by
             show qcx nd at_ wd=((nr:Int) == (wd:Int));rw [Hr.out,if_pos hk0,Bool.eq_iff_iff];simp;omega
           have hb0:(nd.kind == 0)=true:=by simpa using hk0
           clear hk0 Hr;go_wp2_with fail;go_ret;exact⟨by rw [Hr'.out];rfl,qb8 hG.out _⟩
         . have Hr':Hid (qcx nd at_ wd=((nr:Int) == 0)):=by
             show qcx nd at_ wd=((nr:Int) == 0);rw [Hr.out,if_neg hk0,Bool.eq_iff_iff];simp
           have hb0:(nd.kind == 0)=false:=by simpa using hk0
           clear hk0 Hr;go_wp2_with fail;go_ret;exact⟨by rw [Hr'.out];rfl,qb8 hG.out _⟩
   . have hv':qaj nd.row=false:=by simpa using hv
     have Hr:Hid (qcx nd at_ wd=false):=by
       show qcx nd at_ wd=false;unfold qcx;rw [hv'];simp
     have Hv:=Lib.hid hv';clear hv hv';go_enter Tryz.func121,Tryz.ntmps121;go_wp2_with fail
     go_quiet ((first
       | (go_at_call 149;exact qct (qbc _ _))
       | (go_at_call 157;exact qct (qbr _ _ _ (by exact hrW) Hv.out))))
     go_wp2_with fail;go_ret;exact⟨by rw [Hr.out];rfl,qb8 hG.out _⟩
 . have hb:(qaq nd.kind != (nf:Int))=true:=by simpa using hk
   have Hr:Hid (qcx nd at_ wd=false):=by
     show qcx nd at_ wd=false;unfold qcx;rw [show decide (qaq nd.kind=(nd.frm.length:Int))=false by rw [<-Hnf.out];simpa using hk];simp
   clear hk;go_enter Tryz.func121,Tryz.ntmps121;go_wp2_with fail
   go_quiet ((first
     | (go_at_call 149;exact qct (qbc _ _))
     | (go_at_call 157;exact qct (qh2 _ _ _ (by exact hrW)))))
   go_wp2_with fail;go_ret;exact⟨by rw [Hr.out];rfl,qb8 hG.out _⟩
theorem qzw(v:Value)(nd:Node)(at_:Int)(wd:Nat)(w:World)(h:NV w v nd)(ha0:0<=at_)(ha1:at_<=1000000000){b:Bool}(hb:qcx nd at_ wd=b) :
   Calls Tryz.prog 121 #[v,.int .i64 at_,.int .i64 wd] w fun e w'=>e=.returned (.bool b)/\w.grownBy w' none:=hb ▸ q08 v nd at_ wd w h ha0 ha1
theorem qme(v:Value)(qa:List Node)(w:World)(h:RN w v qa)(hl:qa.length<=1000000000) :
   Calls Tryz.prog 73 #[v] w fun e w'=>e=.returned (.bool (qae qa))/\w.grownBy w' none:=by
 obtain⟨A,n,c,rfl,_,hn,_⟩:=h.form';rw [<-hn] at hl;have Hn:=Lib.hid hn;clear hn;go_enter Tryz.func73,Tryz.ntmps73;go_wp2_with fail
 go_loopw [3] (fun i wr=>∃ k:Nat,k<=n/\i=.int .i64 k/\(qa.zipIdx.take k).all (fun x=>qcx x.1 x.2 (wide qa))=true/\w.grownBy wr none) (fun i _=>n - (intOf i).toNat)
 case atStart=>exact⟨0,Nat.zero_le _,rfl,rfl,qag _ _⟩
 case round=>
   obtain⟨k,hk,rfl,hall,hg⟩:=hrel;have q9:=Lib.hid hall;clear hall;have hwr:=h.new hg;by_cases hlt:k < n
   . obtain⟨g,o,nd,f,r,rfl,hx,c0,c1,c2,hf,hr⟩:=hwr.at_ hlt;have Hx:=Lib.hid hx;clear hx;have hnv:NV wr (.agg #[.int .i64 nd.kind,f,r]) nd:=⟨f,r,rfl,hf,hr⟩;by_cases hno:qcx nd k (wide qa)=true
     . have Hno:=Lib.hid hno;clear hno;go_wp2_with fail
       go_region_held3 (fun w'=>w'.cell? ⟨g,o+k * 3,none⟩=some (.int .i64 nd.kind)/\w'.cell? ⟨g,o+k * 3+1,none⟩=some f/\w'.cell? ⟨g,o+k * 3+2,none⟩=some r) (go_keep)
         (first
           | (go_at_call 122;refine(qso _ qa _ (by exact hwr)).mono ?_;rintro e w' ⟨rfl,rfl⟩)
           | (go_at_call 121;refine(qzw _ nd k (wide qa) _ (by exact hnv) (by omega) (by omega) Hno.out).mono ?_;rintro e w' ⟨rfl,hg'⟩;have k0:=hg'.cell (by exact c0) (by simp);have k1:=hg'.cell (by exact c1) (by simp);have k2:=hg'.cell (by exact c2) (by simp)))
       go_wp2_with fail;go_roundw
       case rel=>exact⟨k+1,by omega,by go_num,by rw [qfw _ (qmc Hx.out),q9.out];exact Hno.out,qac (qax hg) (by assumption)⟩
       case measure=>simp [intOf];omega
     . have hno':qcx nd k (wide qa)=false:=by simpa using hno
       have Hno:=Lib.hid hno'
       have Hr:Hid (qae qa=false):=by
         show qae qa=false
         have:qa.zipIdx.all (fun x=>qcx x.1 x.2 (wide qa))=false:=by
           rw [List.all_eq_false];exact⟨(nd,k),List.mem_of_getElem? (qmc Hx.out),hno⟩
         unfold qae;rw [this];simp
       clear hno hno';go_wp2_with fail
       go_region_held3 (fun w'=>w'.cell? ⟨g,o+k * 3,none⟩=some (.int .i64 nd.kind)/\w'.cell? ⟨g,o+k * 3+1,none⟩=some f/\w'.cell? ⟨g,o+k * 3+2,none⟩=some r) (go_keep)
         (first
           | (go_at_call 122;refine(qso _ qa _ (by exact hwr)).mono ?_;rintro e w' ⟨rfl,rfl⟩)
           | (go_at_call 121;refine(qzw _ nd k (wide qa) _ (by exact hnv) (by omega) (by omega) Hno.out).mono ?_;rintro e w' ⟨rfl,hg'⟩;have k0:=hg'.cell (by exact c0) (by simp);have k1:=hg'.cell (by exact c1) (by simp);have k2:=hg'.cell (by exact c2) (by simp)))
       go_wp2_with fail;go_ret;exact⟨by rw [Hr.out];rfl,qac (qax hg) (by assumption)⟩
   . have Hr:Hid (qae qa=decide ((n:Int)<=10)):=by
       show qae qa=decide ((n:Int)<=10);have h1:=q9.out;rw [List.take_of_length_le (by rw [List.length_zipIdx,<-Hn.out];omega)] at h1;unfold qae;rw [h1,Bool.true_and,<-Hn.out];exact decide_eq_decide.2 (by omega)
     go_wp2_with fail;go_ret;exact⟨by rw [Hr.out];rfl,hg⟩
theorem qbo(v:Value)(qa:List Node)(w:World)(h:RN w v qa)(hl:qa.length<=1000000000){b:Bool}(hb:qae qa=b) :
   Calls Tryz.prog 73 #[v] w fun e w'=>e=.returned (.bool b)/\w.grownBy w' none:=hb ▸ qme v qa w h hl
def xe(qa:List Node)(k:Nat):Int:=((qa.take k).map (fun x=>(x.frm.length:Int))).sum
theorem q3b{qa:List Node}{k:Nat}{nd:Node}(h:qa[k]?=some nd):xe qa (k+1)=xe qa k+nd.frm.length:=by
 obtain⟨hk,rfl⟩:=List.getElem?_eq_some_iff.1 h;unfold xe;rw [List.take_succ_eq_append_getElem hk,List.map_append,List.sum_append];simp
end
end Go.Proofs.YtacemdoejblgaaaGreatDoor

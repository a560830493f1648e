/- Part 38. Conditions: each statement's. -/
import Derived.Test.YtacemdoejblgaaaGreatDoorM37
namespace Go.Proofs.YtacemdoejblgaaaGreatDoor
set_option maxHeartbeats 6400000
set_option maxRecDepth 100000
section
open Go.Conc Go.RowKit
theorem Blk.heap{x y:World}{g:Nat}{t:TypeId}{cs:Array Value}(e:x.heap=y.heap)(h:Blk x g t cs):Blk y g t cs:=by
 unfold Blk at *;rw [<-e];exact h
theorem qY.heap{x y:World}{b:Nat}{v:Value}{c:qj}(e:x.heap=y.heap)(h:qY x b v c):qY y b v c:=by
 have k:qY x b v c=qY { y with heap:=x.heap } b v c:=rfl;rw [k,e] at h;exact h
theorem RN.heap{x y:World}{v:Value}{l:List Node}(e:x.heap=y.heap)(h:RN x v l):RN y v l:=by
 have k:RN x v l=RN { y with heap:=x.heap } v l:=rfl;rw [k,e] at h;exact h
theorem RI.heap{x y:World}{v:Value}{l:List Int}(e:x.heap=y.heap)(h:RI x v l):RI y v l:=by
 have k:RI x v l=RI { y with heap:=x.heap } v l:=rfl;rw [k,e] at h;exact h
theorem HGB.heap{R:Nat}{z x y:World}(h:HGB R z x)(e:x.heap=y.heap):HGB R z y:=⟨e ▸ h.size,fun i hi hne=>e ▸ h.block i hi hne⟩
theorem HG.from{z x y:World}(h:HG z x)(e:z.heap=y.heap):HG y x:=⟨e ▸ h.size,fun i hi=>e ▸ h.block i (e ▸ hi)⟩
theorem HGB.from{R:Nat}{z x y:World}(h:HGB R z x)(e:z.heap=y.heap):HGB R y x:=⟨e ▸ h.size,fun i hi hne=>e ▸ h.block i (e ▸ hi) hne⟩
section
variable {gr:Grd}{M:Mks gr.base}{Post:Value->World->Prop}{Sh:Nat->Prop}{Fz:Loc->Prop}{T:Nat->q8}{n h:Nat}{w z:World}
theorem q6w(OO:jY (gr.base.pen M)){f:FuncId}{fn:Func}(hfn:Tryz.prog.funcs[f]?=some fn){ts:Array Value}(hts:∀ v,v∈ts->Ok gr.A gr.F v){c:Code}(hc:qev Tryz.prog Fs Gs SN c=true):FrE (gr.base.pen M) SN ((base f).at ⟨ts,[]⟩ [.code c]):=
 q7j hts (OO.code hc f) hfn (fun r _=>by cases r <;> exact OO.X f _)
theorem q8d(OO:jY (gr.base.pen M)){f:FuncId}{a:Act}{todo:List Item}{e:Exit}(h:FrE (gr.base.pen M) SN (qmq (base f) a todo e)):∀ v,v∈a.tmps->Ok gr.A gr.F v:=fun v hv=>by
 obtain⟨i,hi,rfl⟩:=Array.mem_iff_getElem.1 hv;have k:=h.tm i (a.tmps[i]) (OO.X _ i);have e2:(qmq (base f) a todo e).tmps=a.tmps:=by cases e <;> rfl
 rw [e2] at k;exact k (Array.getElem?_eq_getElem hi)
theorem qe2(OO:jY (gr.base.pen M)){f:FuncId}{fn:Func}(hfn:Tryz.prog.funcs[f]?=some fn){ts:Array Value}(hts:∀ v,v∈ts->Ok gr.A gr.F v){c:Code}(jw:qev Tryz.prog Fs Gs SN c=true)
   (hb:Both (gr.base.pen M) w z) (O:Outside (gr.base.pen M) Sh Fz T n h) (hL:qH T n h w) {Q:Exit->Act->World->Prop} (hR:∀ e v x y,x.heap=y.heap->Q e v x->Q e v y) (hc:∀ W,z.heap=W.heap->c.wp Tryz.prog Q ⟨ts,[]⟩ W) (hQ:∀ e a w,Q e a w->Ends e)
   {k:List Item} {cs:List Frame}
   (next:∀ e a' todo w' z',Both (gr.base.pen M) w' z'->Held (gr.base.pen M) w w'->FrE (gr.base.pen M) SN (qmq (base f) a' todo e)->(∀ v,v∈a'.tmps->Ok gr.A gr.F v)->(e=.normal->todo=[])->qH T n h w'->Q e a' z'->qd Tryz.prog Post Sh Fz T n h 0 (G (qmq (base f) ⟨a'.tmps,[]⟩ (todo++k) e) cs) w') :
   qd Tryz.prog Post Sh Fz T n h 0 (G ((base f).at ⟨ts,[]⟩ (.code c::k)) cs) w:=
 qst (a:=⟨ts,[]⟩) OO.vH (q6w OO hfn hts jw) hb O hL hR (fun _ _=>hc _ rfl) hQ (fun e a' todo w' z' h1 h2 h3 h4 h5 h6=>next e a' todo w' z' h1 h2 h3 (q8d OO h3) h4 h5 h6)
end
end
section
open Go.Conc Go.RowKit Go.ConcR.Gen
noncomputable def q7g:Code:=match qc7 with | .seq _ (.seq _ (.seq _ (.seq _ (.seq x _))))=>x | _=>.skip
theorem qxe:qc7=.seq zR (.seq zS (.seq zT (.seq zU (.seq q7g (.seq z8 .ret))))):=rfl
theorem qzf:qev Tryz.prog Fs Gs SN zR=true:=by kernel_rfl
theorem qzg:qev Tryz.prog Fs Gs SN zS=true:=by kernel_rfl
theorem qzh:qev Tryz.prog Fs Gs SN zT=true:=by kernel_rfl
theorem qzi:qev Tryz.prog Fs Gs SN zU=true:=by kernel_rfl
theorem qzj:qev Tryz.prog Fs Gs SN z8=true:=by kernel_rfl
theorem qsf:qev Tryz.prog Fs Gs SN qv=true:=by kernel_rfl
theorem ql8{y:World}{R:Nat}{d k o r b pv nv cv X fl x3 x4 x5 x9 x11 x12 x13 x14 x15 x16 x17 x18 x19 x20 x21 x22 x23 x24 x25 x26 x27 x28 x29 x30 x31 x32:Value}(hR:Blk y R 29 #[d,k,o,r]) :
   (results Tryz.f13 (qas pv nv cv (.pointer (some ⟨R,0,none⟩)) X fl x3 x4 x5 b x9 x11 x12 x13 x14 x15 x16 x17 x18 x19 x20 x21 x22 x23 x24 x25 x26 x27 x28 x29 x30 x31 x32)).run Tryz.prog y=.ok (.tuple #[.agg #[d,k,o,r],b]) y:=by
 have z0:=hR.cell 0;have z1:=hR.cell 1;have z2:=hR.cell 2;have z3:=hR.cell 3;simp [results,Tryz.results13,qas,go_sem,z0,z1,z2,z3]
theorem q0j{qa:List Node}{N:Nat}:∀ (l:List Int),(∀ x∈l,0<=x)->∀ c:qj,turns (fun c j=>(qba qa c ((j:Nat):Int)).getD c) N c (l.map Int.toNat)=qdr qa N c l
 | [],_,_=>rfl
 | x::l,h,c=>by
   have h0:0<=x:=h x (by simp)
   have e:((x.toNat % N:Nat):Int)=x.tmod N:=by
     obtain⟨m,rfl⟩:=Int.eq_ofNat_of_zero_le h0;rfl
   have ih:=q0j (qa:=qa) (N:=N) l (fun y hy=>h y (by simp [hy])) ((qba qa c (x.tmod N)).getD c);unfold turns qdr at ih |-;simp only [List.map_cons,List.foldl_cons,e];exact ih
theorem qzk{l:List Int}(h:∀ x∈l,0<=x):(l.map Int.toNat).map (Int.ofNat ·)=l:=by
 rw [List.map_map]
 conv=>rhs;rw [<-List.map_id l]
 exact List.map_congr_left (fun x hx=>Int.toNat_of_nonneg (h x hx))
theorem qus{l:List Int}(h:qb9 l=true):l.length<=20/\∀ x∈l,0<=x:=by
 unfold qb9 at h;simp only [Bool.and_eq_true,decide_eq_true_eq,List.all_eq_true] at h;exact h
theorem HGB.kG{R b:Nat}{z x:World}(h:HGB R z x){v:Value}{c:qj}{cs:Array Value}(hB:Blk z R 29 cs)(k:qY z b v c):qY x b v c:=by
 have e:qY { z with heap:=x.heap } b v c=qY x b v c:=rfl;rw [<-e];exact k.grown (w':={ z with heap:=x.heap }) (row:=some R) ⟨rfl,rfl,rfl,h.size,fun i hi hne=>h.block i hi (fun e=>hne (by rw [e]))⟩ (qg.blk hB (by decide)) (qg.blk hB (by decide))
theorem DZ.hg{z₀ z:World}{fl b0:Nat}{lk:Int}{pv:Value}{qa:List Node}{c:qj}(h:DZ z₀ fl b0 lk pv qa c z):HGB fl z₀ z:=⟨h.size,h.block⟩
section
variable {gr:Grd}{M:Mks gr.base}{Post:Value->World->Prop}{Sh:Nat->Prop}{Fz:Loc->Prop}{T:Nat->q8}{n0:Nat}{w z:World}
theorem q46(OO:jY (gr.base.pen M)){f:FuncId}{fn:Func}(hfn:Tryz.prog.funcs[f]?=some fn){ts:Array Value}(hts:∀ v,v∈ts->Ok gr.A gr.F v):FrE (gr.base.pen M) SN { (base f).at ⟨ts,[]⟩ [] with mode:=.returning }:=
 ⟨fun t v _ hv=>hts v (Array.mem_of_getElem? hv),fun it hi=>(by cases hi),rfl,rfl,rfl,fun ch e=>(by cases e),fn,hfn,fun r _=>by cases r <;> exact OO.X f _⟩
theorem qzl(OO:∀ M:Mks gr.base,jY (gr.base.pen M))(hb:Both (gr.base.pen M) w z){pv cv:Value}{nw:Int}{qa:List Node}{l:List Int}{a:Addr}
   (hp:RN z pv qa) (hl:RI z cv l) (hE:qp z a) (okp:Ok gr.A gr.F pv) (okc:Ok gr.A gr.F cv) (hx:∀ x∈l,x < 9223372036854775808)
   (O:jB (gr.base.pen M) Sh Fz) (hT:∀ i,i≠0->T i=.left) (hn0:0 < n0) (vJ:n0 < 2000000000) {caller:Frame} {cs:List Frame}
   (next:∀ w' z' (M':Mks gr.base) Sh' Fz' T' n' v,M.Le M'->Both (gr.base.pen M') w' z'->HG z z'->jB (gr.base.pen M') Sh' Fz'->ql (gr.base.pen M) (fun r=>w.heap.size<=r) w w'->(∀ i,i≠0->T' i=.left)->n0<=n'->n'<=n0+4 ->
     Ok gr.A gr.F v->qY z' z.heap.size v ((qbg qa nw l).getD qf7)->qd Tryz.prog Post Sh' Fz' T' n' 0 0 (G (caller.finish (.tuple #[v,.bool (qbg qa nw l).isSome])) cs) w') :
   qd Tryz.prog Post Sh Fz T n0 0 0 (G ((base 13).at ⟨qas pv (.int .i64 nw) cv undef undef undef undef undef undef undef undef undef undef undef undef undef undef undef undef undef undef undef undef undef undef undef undef undef undef undef undef undef undef,[]⟩ [.code qc7]) (caller::cs)) w:=by
 have OM:=OO M
 have ok0:∀ v,v∈qas pv (.int .i64 nw) cv undef undef undef undef undef undef undef undef undef undef undef undef undef undef undef undef undef undef undef undef undef undef undef undef undef undef undef undef undef undef->Ok gr.A gr.F v:=fun v hv=>by
   simp only [qas,List.mem_toArray,List.mem_cons,List.not_mem_nil,or_false] at hv
   rcases hv with rfl | rfl | rfl | rfl | rfl | rfl | rfl | rfl | rfl | rfl | rfl | rfl | rfl | rfl | rfl | rfl | rfl | rfl | rfl | rfl | rfl | rfl | rfl | rfl | rfl | rfl | rfl | rfl | rfl | rfl | rfl | rfl | rfl <;>
     first | exact okp | exact okc | exact .int _ _ | exact .undef
 rw [qxe];refine qau ?_
 refine qe2 OM Tryz.func13 ok0 qzf hb (O.alone hT) (qdg hT)
   (Q:=fun e a x=>e=.normal/\HG z x/\Blk x z.heap.size 29 qfl/\a.tmps=qas pv (.int .i64 nw) cv (.pointer (some ⟨z.heap.size,0,none⟩)) undef undef undef undef undef (.bool false) undef undef undef undef undef undef undef undef undef undef undef undef undef undef undef undef undef undef undef undef undef undef undef)
   (fun e v x y exy h=>⟨h.1,h.2.1.heap exy,h.2.2.1.heap exy,h.2.2.2⟩)
   (fun W eW=>wp_mono (q41 pv cv nw W) (fun e a x h=>by
     have hs:W.heap.size=z.heap.size:=by rw [eW]
     rw [hs] at h;exact⟨h.1,h.2.1.from eW.symm,h.2.2.1,h.2.2.2⟩)) (fun e a w h=>by rw [h.1];trivial) ?_
 rintro e a1 td w1 z1 hb1 hh1 - ok1 ht1 hL1 ⟨rfl,hg1,hR1,qeD⟩;rw [ht1 rfl];clear ht1 ok0;show qd Tryz.prog Post Sh Fz T n0 0 0 (G ((base 13).at ⟨a1.tmps,[]⟩ [.code _]) (caller::cs)) w1;rw [qeD] at ok1 |-;refine qau ?_
 refine qe2 OM Tryz.func13 ok1 qzg hb1 (O.alone hT) hL1
   (Q:=fun e a x=>e=.normal/\HG z1 x/\∃ A1 n1 c1 A2 n2 c2 A3 n3 c3 A4 n4 c4 X x11 x12 x13 x14 x15 x16,z1.heap.size<=X/\Blk x X 29 #[.slice A1 n1 c1,.slice A2 n2 c2,.slice A3 n3 c3,.slice A4 n4 c4] /\
     qY x z1.heap.size (.agg #[.slice A1 n1 c1,.slice A2 n2 c2,.slice A3 n3 c3,.slice A4 n4 c4]) ((qbm qa nw).getD qf7)/\a.tmps=qas pv (.int .i64 nw) cv (.pointer (some ⟨z.heap.size,0,none⟩)) (.pointer (some ⟨X,0,none⟩)) undef undef undef undef (.bool false) (.bool (qbm qa nw).isSome) x11 x12 x13 x14 x15 x16 undef undef undef undef undef undef undef undef undef undef undef undef undef undef undef undef)
   (fun e v x y exy h=>by
     obtain⟨h1,h2,A1,n1,c1,A2,n2,c2,A3,n3,c3,A4,n4,c4,X,x11,x12,x13,x14,x15,x16,h3,h4,h5,h6⟩:=h;exact⟨h1,h2.heap exy,A1,n1,c1,A2,n2,c2,A3,n3,c3,A4,n4,c4,X,x11,x12,x13,x14,x15,x16,h3,h4.heap exy,h5.heap exy,h6⟩)
   (fun W eW=>wp_mono (q42 pv cv nw qa W ((hg1.rn hp).heap eW) z.heap.size) (fun e a x h=>by
     have hs:W.heap.size=z1.heap.size:=by rw [eW]
     rw [hs] at h;obtain⟨h1,h2,h3⟩:=h;exact⟨h1,h2.from eW.symm,h3⟩)) (fun e a w h=>by rw [h.1];trivial) ?_
 rintro e a2 td w2 z2 hb2 hh2 - ok2 ht2 hL2 ⟨rfl,hg2,A1,n1,c1,A2,n2,c2,A3,n3,c3,A4,n4,c4,X,x11,x12,x13,x14,x15,x16,hX,hBX,hF,qeE⟩;rw [ht2 rfl];clear ht2 ok1 qeD;show qd Tryz.prog Post Sh Fz T n0 0 0 (G ((base 13).at ⟨a2.tmps,[]⟩ [.code _]) (caller::cs)) w2;rw [qeE] at ok2 |-;clear qeE;have hR2:=hg2.blk hR1;have qcF:=hg1.trans hg2;refine qau ?_
 refine qe2 OM Tryz.func13 ok2 qzh hb2 (O.alone hT) hL2
   (Q:=fun e a x=>(((qbm qa nw).isSome && qb9 l)=true/\e=.normal/\x.heap=z2.heap/\∃ x17 x18 x19 x20 x21 x22 x23 x24,a.tmps=qas pv (.int .i64 nw) cv (.pointer (some ⟨z.heap.size,0,none⟩)) (.pointer (some ⟨X,0,none⟩)) undef undef undef undef (.bool false) (.bool (qbm qa nw).isSome) x11 x12 x13 x14 x15 x16 x17 x18 x19 x20 x21 x22 x23 x24 undef undef undef undef undef undef undef undef) ∨
     (((qbm qa nw).isSome && qb9 l)=false/\e=.ret/\HGB z.heap.size z2 x/\Blk x z.heap.size 29 qfl/\∃ x17 x18 x19 x20 x21 x22 x23 x24,a.tmps=qas pv (.int .i64 nw) cv (.pointer (some ⟨z.heap.size,0,none⟩)) (.pointer (some ⟨X,0,none⟩)) undef undef undef undef (.bool false) (.bool (qbm qa nw).isSome) x11 x12 x13 x14 x15 x16 x17 x18 x19 x20 x21 x22 x23 x24 undef undef undef undef undef undef undef undef))
   (fun e v x y exy h=>h.imp (fun k=>⟨k.1,k.2.1,exy.symm.trans k.2.2.1,k.2.2.2⟩) (fun k=>⟨k.1,k.2.1,k.2.2.1.heap exy,k.2.2.2.1.heap exy,k.2.2.2.2⟩))
   (fun W eW=>wp_mono (q43 pv cv nw l W ((qcF.ri hl).heap eW) (qbm qa nw).isSome z.heap.size X (hR2.heap eW) x11 x12 x13 x14 x15 x16) (fun e a x h=>h.imp (fun k=>⟨k.1,k.2.1,by rw [k.2.2.1,eW],k.2.2.2⟩) (fun k=>⟨k.1,k.2.1,k.2.2.1.from eW.symm,k.2.2.2.1,k.2.2.2.2⟩)))
   (fun e a w h=>by rcases h with h | h <;> (rw [h.2.1];trivial)) ?_
 rintro e a3 td w3 z3 hb3 hh3 - ok3 ht3 hL3 (⟨hok,rfl,ez3,x17,x18,x19,x20,x21,x22,x23,x24,qaB⟩ | ⟨hno,rfl,hg3,hR3,x17,x18,x19,x20,x21,x22,x23,x24,qaB⟩)
 . rw [ht3 rfl];clear ht3;show qd Tryz.prog Post Sh Fz T n0 0 0 (G ((base 13).at ⟨a3.tmps,[]⟩ [.code _]) (caller::cs)) w3;rw [qaB] at ok3 |-;clear qaB;simp only [Bool.and_eq_true] at hok;obtain⟨hs,hch⟩:=hok;obtain⟨c0,hc0⟩:=Option.isSome_iff_exists.1 hs;obtain⟨qaC,qhJ⟩:=qgr hc0;obtain⟨N,rfl⟩:=Int.eq_ofNat_of_zero_le (show 0<=nw by have:=qaC.d1;omega);have hss:qbg qa (N:Nat) l=some (qdr qa (N:Nat) c0 l):=ql3 hc0 hch;rw [hss] at next;have hN1:1<=N:=by have:=qaC.d1;omega
   have hN4:N<=4:=by have:=qaC.d4;omega
   obtain⟨qaT,hnn⟩:=qus hch;obtain⟨P,pn,pc,rfl,-,-,-⟩:=hp.form';have qcG:HG z z3:=qcF.heap ez3.symm;have qhK:=hBX.heap ez3.symm;have hR3:=hR2.heap ez3.symm;have hF3:=hF.heap ez3.symm;rw [hc0] at hF3;refine qau ?_
   refine qe2 OM Tryz.func13 ok3 qzi hb3 (O.alone hT) hL3
     (Q:=fun e a x=>e=.normal/\HG z3 x/\Blk x z3.heap.size 66 #[.int .i32 0,.int .u32 0,.slice P pn pc,.slice A1 n1 c1,.slice A2 n2 c2,.slice A3 n3 c3,.slice A4 n4 c4]/\∃ x25 x26 x27,a.tmps=qas (.slice P pn pc) (.int .i64 (N:Nat)) cv (.pointer (some ⟨z.heap.size,0,none⟩)) (.pointer (some ⟨X,0,none⟩)) (.pointer (some ⟨z3.heap.size,0,none⟩)) undef undef undef (.bool false) (.bool (qbm qa (N:Nat)).isSome) x11 x12 x13 x14 x15 x16 x17 x18 x19 x20 x21 x22 x23 x24 x25 x26 x27 undef undef undef undef undef)
     (fun e v x y exy h=>⟨h.1,h.2.1.heap exy,h.2.2.1.heap exy,h.2.2.2⟩)
     (fun W eW=>wp_mono (q44 cv (N:Nat) W P pn pc z.heap.size X n1 c1 n2 c2 n3 c3 n4 c4 A1 A2 A3 A4 _ x11 x12 x13 x14 x15 x16 x17 x18 x19 x20 x21 x22 x23 x24 (qhK.heap eW)) (fun e a x h=>by
       have hs:W.heap.size=z3.heap.size:=by rw [eW]
       rw [hs] at h;exact⟨h.1,h.2.1.from eW.symm,h.2.2.1,h.2.2.2⟩)) (fun e a w h=>by rw [h.1];trivial) ?_
   rintro e a4 td w4 z4 hb4 hh4 - ok4 ht4 hL4 ⟨rfl,hg4,hFl,x25,x26,x27,qeF⟩;rw [ht4 rfl];clear ht4;show qd Tryz.prog Post Sh Fz T n0 0 0 (G ((base 13).at ⟨a4.tmps,[]⟩ [.code _]) (caller::cs)) w4;rw [qeF] at ok4 |-;clear qeF;have xq:=qcG.trans hg4;have hA:gr.A ⟨z3.heap.size,0,none⟩:=(ok4 (.pointer (some ⟨z3.heap.size,0,none⟩)) (by simp [qas])).jb
   have hW:=q8c (gr:=gr) (N:=N) (fl:=z3.heap.size) (b0:=z.heap.size) (csv:=cv) (chs:=l.map Int.toNat) (qa:=qa) (z₀:=z4) hA hFl qcG.size (qgo hE) (xq.rn hp) (xq.err hE) (by rw [qzk hnn];exact xq.ri hl)
     (fun a0 n k e=>by subst e;exact okc.of_slice) (fun i hi=>by
       rw [List.length_map] at hi;rw [List.getElem_map];have h1:=hx _ (List.getElem_mem hi);have h2:=hnn _ (List.getElem_mem hi);omega)
   rw [<-hb4.rel.size] at hW;have hD:DZ z4 z3.heap.size z.heap.size 0 (.slice P pn pc) qa c0 z4:=⟨Nat.le_refl _,fun _ _ _=>rfl,⟨_,_,_,_,hFl,(hg4.kG hF3).low hg1.size⟩,qud qaC⟩
   have ok5:∀ v,v∈qas (.slice P pn pc) (.int .i64 (N:Nat)) cv (.pointer (some ⟨z.heap.size,0,none⟩)) (.pointer (some ⟨X,0,none⟩)) (.pointer (some ⟨z3.heap.size,0,none⟩)) undef undef undef (.bool false) (.bool (qbm qa (N:Nat)).isSome) x11 x12 x13 x14 x15 x16 x17 x18 x19 x20 x21 x22 x23 x24 x25 x26 x27 (.int .i64 (N:Nat)) cv (.tuple #[]) undef undef->Ok gr.A gr.F v:=fun v hv=>by
     simp only [qas,List.mem_toArray,List.mem_cons,List.not_mem_nil,or_false] at hv ok4
     rcases hv with rfl | rfl | rfl | rfl | rfl | rfl | rfl | rfl | rfl | rfl | rfl | rfl | rfl | rfl | rfl | rfl | rfl | rfl | rfl | rfl | rfl | rfl | rfl | rfl | rfl | rfl | rfl | rfl | rfl | rfl | rfl | rfl | rfl <;>
       first | exact .undef | exact .int _ _ | exact okc | exact ok4 _ (by simp)
   refine qau ?_;generalize hs6:z8=c6;simp only [q7g,qc7,Tryz.f13,Option.getD_some,qas];refine qaz ?_;simp only [List.size_toArray,List.length_cons,List.length_nil,Nat.reduceAdd,Nat.zero_add,List.range,List.range.loop];refine qat (.int .i64 (N:Nat)) rfl rfl (by decide) (fun w=>by go_simp) (fun w=>by simp [go_sem]) ?_;walk_nrm;refine qat cv rfl rfl (by decide) (fun w=>by go_simp) (fun w=>by simp [go_sem]) ?_;walk_nrm;refine qhh (c:=qg7) rfl rfl (by decide) rfl Tryz.func43 (by kernel_rfl) rfl ?_;walk_nrmf Tryz.f43;have qjP:w.heap.size<=w4.heap.size:=Nat.le_trans (Nat.le_trans (Nat.le_trans hh1.size hh2.size) hh3.size) hh4.size;refine qse (gr:=gr) (M:=M) (T:=T) hW (fun M=>(OO M).vH) (fun M=>(OO M).code qsf _) hb4 hD O hT hn0 vJ hN1 hN4 (by rw [List.length_map];omega) (fun w5 z5 M5 Sh5 Fz5 hle hb5 hD5 O5 hh5=>?_);walk_nrm;refine qan ?_;rw [q0j l hnn c0] at hD5;have hT5:∀ i,i≠0->(fun _=>q8.left:Nat->q8) i=.left:=fun _ _=>rfl;have OM5:=OO M5;obtain⟨d,k,o,r,qhL,hF5⟩:=hD5.floor;obtain⟨B1,m1,e1,B2,m2,e2,B3,m3,e3,B4,m4,e4,ee⟩:=hF5.form;injection ee with ee;injection ee with ee;injection ee with ea ee;injection ee with eb ee;injection ee with ec ee;injection ee with ed ee;subst ea eb ec ed;clear ee;have qhM:z.heap.size<=z3.heap.size:=qcG.size;have xJ:z.heap.size < z3.heap.size:=hR3.lt;have hR4:=hg4.blk hR3;have hR5:Blk z5 z.heap.size 29 qfl:=(hD5.block z.heap.size hR4.lt (by omega)).trans hR4;have qhN:HG z z5:=HGB.hg xq hD5.hg qhM;subst hs6;refine qau ?_
   refine qe2 (ts:=qas (.slice P pn pc) (.int .i64 (N:Nat)) cv (.pointer (some ⟨z.heap.size,0,none⟩)) (.pointer (some ⟨X,0,none⟩)) (.pointer (some ⟨z3.heap.size,0,none⟩)) undef undef undef (.bool false) (.bool (qbm qa (N:Nat)).isSome) x11 x12 x13 x14 x15 x16 x17 x18 x19 x20 x21 x22 x23 x24 x25 x26 x27 (.int .i64 (N:Nat)) cv (.tuple #[]) undef undef) OM5 Tryz.func13 ok5 qzj hb5 (O5.alone hT5) (qdg hT5)
     (Q:=fun e a x=>e=.normal/\HGB z.heap.size z5 x/\Blk x z.heap.size 29 #[.slice B1 m1 e1,.slice B2 m2 e2,.slice B3 m3 e3,.slice B4 m4 e4]/\∃ x31 x32,a.tmps=qas (.slice P pn pc) (.int .i64 (N:Nat)) cv (.pointer (some ⟨z.heap.size,0,none⟩)) (.pointer (some ⟨X,0,none⟩)) (.pointer (some ⟨z3.heap.size,0,none⟩)) undef undef undef (.bool true) (.bool (qbm qa (N:Nat)).isSome) x11 x12 x13 x14 x15 x16 x17 x18 x19 x20 x21 x22 x23 x24 x25 x26 x27 (.int .i64 (N:Nat)) cv (.tuple #[]) x31 x32)
     (fun e v x y exy h=>⟨h.1,h.2.1.heap exy,h.2.2.1.heap exy,h.2.2.2⟩)
     (fun W eW=>wp_mono (q45 cv (N:Nat) W z.heap.size z3.heap.size m1 e1 m2 e2 m3 e3 m4 e4 B1 B2 B3 B4 (.slice P pn pc) _ _ _ _ x11 x12 x13 x14 x15 x16 x17 x18 x19 x20 x21 x22 x23 x24 x25 x26 x27 _ _ _ (by omega) (hR5.heap eW) (qhL.heap eW)) (fun e a x h=>⟨h.1,h.2.1.from eW.symm,h.2.2.1,h.2.2.2⟩)) (fun e a w h=>by rw [h.1];trivial) ?_
   rintro e a6 td w6 z6 hb6 hh6 - ok6 ht6 hL6 ⟨rfl,hg6,hR6,x31,x32,qhO⟩;rw [ht6 rfl];clear ht6;show qd Tryz.prog Post Sh5 Fz5 _ (n0+N) 0 0 (G ((base 13).at ⟨a6.tmps,[]⟩ [.code .ret]) (caller::cs)) w6;rw [qhO] at ok6 |-;refine qcy rfl (fun _=>stepG_ret') ?_;refine qtc (C:=gr.base.pen M5) (x:=.tuple #[.agg #[.slice B1 m1 e1,.slice B2 m2 e2,.slice B3 m3 e3,.slice B4 m4 e4],.bool true]) OM5.vH (q46 OM5 Tryz.func13 ok6) rfl hb6 (O5.alone hT5) hL6 Tryz.func13 (fun d=>?_) ?_
   . show (results Tryz.f13 (qas (.slice P pn pc) (.int .i64 (N:Nat)) cv (.pointer (some ⟨z.heap.size,0,none⟩)) (.pointer (some ⟨X,0,none⟩)) (.pointer (some ⟨z3.heap.size,0,none⟩)) undef undef undef (.bool true) (.bool (qbm qa (N:Nat)).isSome) x11 x12 x13 x14 x15 x16 x17 x18 x19 x20 x21 x22 x23 x24 x25 x26 x27 (.int .i64 (N:Nat)) cv (.tuple #[]) x31 x32)).run Tryz.prog (z6.at d)=_;exact ql8 (y:=z6.at d) hR6
   . intro w7 z7 hb7 ez7 hh7 qhP hL7;have hgz:HG z z7:=(HGB.hg qhN hg6 (Nat.le_refl _)).heap ez7.symm;have hF7:=(hg6.kG hR5 hF5).heap ez7.symm
     exact next w7 z7 M5 Sh5 Fz5 _ (n0+N) _ hle hb7 hgz O5
       ((((((hh1.trans hh2).trans hh3).trans hh4).but).trans (hh5.mono (fun r hr=>by omega))).trans (((hh6.trans hh7).but).down hle)) hT5 (by omega) (by omega) (qhP.zm _ (by simp)) hF7
 . have hsn:qbg qa nw l=none:=by
     rw [Bool.and_eq_false_iff] at hno;exact qf8 (hno.imp (fun k=>by simpa using k) id)
   rw [hsn] at next;show qd Tryz.prog Post Sh Fz T n0 0 0 (G { (base 13).at ⟨a3.tmps,[]⟩ (td++_) with mode:=.returning } (caller::cs)) w3;rw [qaB] at ok3 |-;refine qtc (C:=gr.base.pen M) (x:=.tuple #[.agg #[.slice none 0 0,.slice none 0 0,.slice none 0 0,.slice none 0 0],.bool false]) OM.vH (q46 OM Tryz.func13 ok3) rfl hb3 (O.alone hT) hL3 Tryz.func13 (fun d=>?_) ?_
   . show (results Tryz.f13 (qas pv (.int .i64 nw) cv (.pointer (some ⟨z.heap.size,0,none⟩)) (.pointer (some ⟨X,0,none⟩)) undef undef undef undef (.bool false) (.bool (qbm qa nw).isSome) x11 x12 x13 x14 x15 x16 x17 x18 x19 x20 x21 x22 x23 x24 undef undef undef undef undef undef undef undef)).run Tryz.prog (z3.at d)=_;exact ql8 (y:=z3.at d) hR3
   . intro w4 z4 hb4 ez4 hh4 qhQ hL4;have hgz:HG z z4:=(HGB.hg qcF hg3 (Nat.le_refl _)).heap ez4.symm;exact next w4 z4 M Sh Fz T n0 _ (Mks.Le.refl M) hb4 hgz O ((((hh1.trans hh2).trans hh3).trans hh4).but) hT (Nat.le_refl _) (by omega) (qhQ.zm _ (by simp)) (qY.zero _ _)
end
end
section
open Go.Conc Go.RowKit
section
variable {P:Program}{Post:Value->World->Prop}{g:Goroutine}{w:World}
theorem q2t(h:qd P Post (fun _=>False) (fun _=>False) (fun _=>.left) 1 0 0 g w):vI P Post #[g] w #[]:=by
 refine h.lead #[g] #[] (fun _=>0) ⟨rfl,rfl,fun i x hi hx=>?_,fun i s h1 h2 h3=>(by cases h3),fun i j s s' _ _ _ _ h3=>(by cases h3),⟨?_,fun i a ha=>?_,fun k _ i a ha=>?_,fun op ho=>(by simp at ho),fun i a ha=>?_,fun k l hk=>?_,fun i k hg=>?_⟩,rfl,fun j _=>rfl⟩
 . exfalso;have:=(Array.getElem?_eq_some_iff.1 hx).1;simp at this;omega
 . rintro said ⟨i,j,-,⟨a,b,h1,-⟩,-⟩;obtain⟨x,hx,_⟩:=touch_of h1;simp at hx
 . obtain⟨x,hx,_⟩:=touch_of ha;simp at hx
 . obtain⟨x,hx,_⟩:=touch_of ha;simp at hx
 . obtain⟨x,hx,_⟩:=touch_of ha;simp at hx
 . obtain⟨_,_,s,h3,_⟩:=hk;cases h3
 . simp [Trace.g?] at hg
theorem qxj{Sh:Nat->Prop}{Fz:Loc->Prop}{T:Nat->q8}{n:Nat}{fr:Frame}(hm:fr.mode=.returning)(hdf:fr.defers=[])(hkind:fr.kind=.normal){fn':Func}(hf:P.funcs[fr.fn]?=some fn'){x:Value}
   (kI:P.inits.idxOf? fr.fn=none) (hres:∀ w,(results fn' fr.tmps).run P w=.ok x w) (hev:∀ w,(results fn' fr.tmps).events P w #[]=#[]) (hT:∀ i,i≠0->T i=.left) (hn:0 < n) (hpost:∀ d,Post x (w.at d)):qd P Post Sh Fz T n 0 0 (G fr []) w:=fun e=>by
 have hw:qd P Post Sh Fz (fun i=>if i=0 then .left else T i) n 0 0 (G fr []) w:=fun e=>by
   refine q5z rfl (fun i _ h0=>?_) (fun i hi=>?_) (fun d=>⟨x,w.at d,seen P fr.fn #[],?_,?_,hpost d⟩)
   . show (if i=0 then q8.left else T i)=_;rw [if_neg h0];exact hT i h0
   . show (if i=0 then q8.left else T i)=_;rw [if_neg (by omega)];exact hT i (by omega)
   . show stepG P true (G fr []) (w.at d)=_;simp [G,stepG,unwind,hm,hdf,hf,doReturn,hkind,GStep.after,hres,hev,kI]
   . intro e he;have:=mem_seen he;simp at this
 have key:∀ gs t q,q9 P Sh Fz T n 0 0 (G fr []) (w.at e) gs t q->q9 P Sh Fz (fun i=>if i=0 then .left else T i) n 0 0 (G fr []) (w.at e) gs t q:=fun gs t q H=>by
   have eT:∀ i,i≠0->(if i=0 then q8.left else T i)=T i:=fun i h=>if_neg h;refine⟨H.size,H.here,fun i x hi hx=>by rw [eT i hi];exact H.ja i x hi hx,fun i s hi hn h3=>H.fact i s hi hn (by rw [<-eT i hi];exact h3),fun i j s s' hi hj hni hnj h3 h4=>H.apart i j s s' hi hj hni hnj (by rw [<-eT i hi];exact h3) (by rw [<-eT j hj];exact h4),?_,H.deaf,H.above⟩
   have e1:StT (fun i=>if i=0 then q8.left else T i) n 0=StT T n 0:=by
     funext k l;unfold StT;apply propext;constructor
     . rintro⟨h1,h2,s,h3,h4⟩;exact⟨h1,h2,s,by rw [<-eT k h1];exact h3,h4⟩
     . rintro⟨h1,h2,s,h3,h4⟩;exact⟨h1,h2,s,(eT k h1).trans h3,h4⟩
   have e2:LfT (fun i=>if i=0 then q8.left else T i) 0=LfT T 0:=by
     funext k;unfold LfT;apply propext;constructor
     . rintro⟨h1,h2⟩;exact⟨h1,by rw [<-eT k h1];exact h2⟩
     . rintro⟨h1,h2⟩;exact⟨h1,(eT k h1).trans h2⟩
   rw [e1,e2];exact H.jr
 exact fun gs t q H=>hw e gs t q (key gs t q H)
theorem q5g{Sh:Nat->Prop}{Fz:Loc->Prop}{T:Nat->q8}{n:Nat}{f:FuncId}{fn:Func}(hfn:P.funcs[f]?=some fn)(kI:P.inits.idxOf? f=none){t:Nat}(hr:fn.results=#[.tmp t]){ts:Array Value}{v:Value}(hv:ts[t]?=some v)(hT:∀ i,i≠0->T i=.left)(hn:0 < n){todo:List Item}
   (hpost:∀ d,Post v (w.at d)):qd P Post Sh Fz T n 0 0 (G { (base f).at ⟨ts,[]⟩ todo with mode:=.returning } []) w:=by
 have e1:ts[t]?.getD undef=v:=by
   rw [hv];rfl
 refine qxj rfl rfl rfl hfn kI (x:=v) (fun w=>?_) (fun w=>?_) hT hn hpost
 . show (results fn ts).run P w=_;simp [results,hr,go_sem,e1]
 . show (results fn ts).events P w #[]=_;simp [results,hr,go_sem]
end
section
variable {C:Pen}{S:List String}{Post:Value->World->Prop}{Sh:Nat->Prop}{Fz:Loc->Prop}{T:Nat->q8}{n h dd:Nat}{w z z2:World}
 {b:Frame} {a:Act} {k:List Item} {cs:List Frame} {ops:Array Oper} {i:Nat} {rest:List Nat} {o:Oper} {X:Nat->Prop}
theorem q62(H:jo C S)(hoo:q38 C S (fun _=>False) o)(ht:∀ v,v∈a.tmps->Ok C.A C.F v)(hb:Both C w z)(O:Outside C Sh Fz T n h)(hL:qH T n h w){nx:Next}(v:Value)(hnx:nx=.value v∨(nx=.skip/\v=undef))(ho:ops[i]?=some o)(hw:Region.wanted o (yielded ops a.tmps)=true)(hk:b.kind≠.early)
   (hr:∀ d,(execOp a.eval o).run C.P (z.at d)=.ok nx (z2.at d))
   (next:∀ w' d,Both C w' (z2.at d)->Held C w w'->Ok C.A C.F v->qH T n h w'->qd C.P Post Sh Fz T n h dd (G (b.at (a.put o.dst v) (.inRegion ops rest::k)) cs) w') :
   qd C.P Post Sh Fz T n h dd (G (b.at a (.inRegion ops (i::rest)::k)) cs) w:=by
 refine fun e=>qtw rfl (fun d=>?_)
 have hev:∀ x,x∈o.op.operands->Ok C.A C.F (a.eval x):=fun x hx=>by
   have hx':=hoo.2 x hx;cases x with
   | tmp t=>
     show Ok C.A C.F (a.tmps.getD t undef);rw [Array.getD_eq_getD_getElem?];cases ht':a.tmps[t]? with
     | none=>exact .undef
     | some v=>exact ht v (Array.mem_of_getElem? ht')
   | const v=>exact hx'
   | global g=>exact .ptr hx'
   | func f=>exact .func hx' (fun v hv=>by simp at hv) (fun v hv=>by simp at hv)
 have hk':qc C (execOp a.eval o) (qnv C):=qnw H.yu hev hoo.1;have ho':=hk' (w.at d) (z.at d) #[] (hb.at d).rel (fun k q _ _=>by rw [show (w.at d).tape=(z.at d).tape from hb.tape.symm]);rw [hr d] at ho';obtain⟨w2,new,h1,h2,h3,h4⟩:=ho';rw [Sem.runT_eq] at h1;have h5:(execOp a.eval o).run C.P (w.at d)=.ok nx w2:=(Prod.mk.inj h1).1;have h6:(execOp a.eval o).events C.P (w.at d) #[]=new:=by have:=(Prod.mk.inj h1).2;simpa using this
 obtain⟨h7,h8⟩:=qj5 (w:=w.at d) O (hL.at d) (qli (C:=C) h3 b.fn);refine⟨G (b.at (a.put o.dst v) (.inRegion ops rest::k)) cs,w2,seen C.P b.fn new,?_,h7,?_⟩
 . show stepG C.P (h == 0) _ (w.at d)=_;rcases hnx with rfl | ⟨rfl,rfl⟩
   . rw [stepG_value ho hw hk h5];unfold listed;rw [h6]
   . rw [stepG_none ho hw hk h5];unfold listed;rw [h6]
 . rw [h8 dd]
   have ht2:z2.tape=z.tape:=by
     have:=qja C.P (execOp a.eval o) (z.at d);rw [hr d] at this;exact this.1
   have hb2:Both C w2 (z2.at d):=⟨h2,by rw [h3.tape];exact ht2.trans hb.tape⟩
   have hv:Ok C.A C.F v:=by
     rcases hnx with rfl | ⟨rfl,rfl⟩
     . exact h4
     . exact .undef
   exact(next w2 d hb2 (Held.trans (show Held C w (w.at d) from⟨fun _ _=>rfl,Nat.le_refl _,rfl,rfl,rfl,.of rfl⟩) h3.held) hv (fun i s hi hn hT=>(h7.fact i s hi hn hT).1)).lead
end
theorem qi4{gr:Grd}{M:Mks gr.base}(OO:jY (gr.base.pen M)){Post:Value->World->Prop}{Sh:Nat->Prop}{Fz:Loc->Prop}{T:Nat->q8}{n h:Nat}{w z z2:World}{b:Frame}{a:Act}{k:List Item}{cs:List Frame}{ops:Array Oper}{i:Nat}{rest:List Nat}{o:Oper}
   (jw:qev Tryz.prog Fs Gs SN (.region 0 #[o] false)=true) (ht:∀ v,v∈a.tmps->Ok gr.A gr.F v) (hb:Both (gr.base.pen M) w z) (O:Outside (gr.base.pen M) Sh Fz T n h) (hL:qH T n h w) {nx:Next} (v:Value) (hnx:nx=.value v∨(nx=.skip/\v=undef))
   (ho:ops[i]?=some o) (hw:Region.wanted o (yielded ops a.tmps)=true) (hk:b.kind≠.early) (hr:∀ d,(execOp a.eval o).run Tryz.prog (z.at d)=.ok nx (z2.at d))
   (next:∀ w' d,Both (gr.base.pen M) w' (z2.at d)->Held (gr.base.pen M) w w'->(∀ u,u∈(a.put o.dst v).tmps->Ok gr.A gr.F u)->qH T n h w'->qd Tryz.prog Post Sh Fz T n h 0 (G (b.at (a.put o.dst v) (.inRegion ops rest::k)) cs) w') :
   qd Tryz.prog Post Sh Fz T n h 0 (G (b.at a (.inRegion ops (i::rest)::k)) cs) w:=by
 have hco:=OO.code jw 0;rw [OO.x] at hco;refine q62 (C:=gr.base.pen M) OO.vH (hco o (by simp)) ht hb O hL v hnx ho hw hk hr (fun w' d h1 h2 h3 h4=>next w' d h1 h2 (fun u hu=>?_) h4);cases hd:o.dst with
 | none=>rw [hd] at hu;exact ht u hu
 | some t=>
   rw [hd] at hu;have hu':u∈a.tmps.setIfInBounds t v:=hu;rcases Array.mem_or_eq_of_mem_setIfInBounds hu' with h5 | h5
   . exact ht u h5
   . rw [h5];exact h3
def qeG(b:Bool)(k:Nat)(o:Obj):Obj:=match b,o with
 | true,.cells c e _=>.cells (c.extract 0 k) e (0,0)
 | _,o=>o
def zh(Pt:Nat->Bool)(κ:Nat->Nat)(w:World):World:={ w with heap:=w.heap.mapIdx (fun i o=>qeG (Pt i) (κ i) o) }
section
variable {Pt:Nat->Bool}{κ:Nat->Nat}{w:World}
theorem j9:(zh Pt κ w).heap.size=w.heap.size:=by simp [zh]
theorem q0l(r:Nat):(zh Pt κ w).heap[r]?=(w.heap[r]?).map (qeG (Pt r) (κ r)):=by simp [zh]
theorem qh0{r:Nat}(h:Pt r=false):(zh Pt κ w).heap[r]?=w.heap[r]?:=by
 rw [q0l,h];cases w.heap[r]? <;> rfl
theorem q0m{r:Nat}(h:Pt r=true){c:Array Value}{e:TypeId}{fr:Nat × Nat}(hw:w.heap[r]?=some (.cells c e fr)):(zh Pt κ w).heap[r]?=some (.cells (c.extract 0 (κ r)) e):=by
 rw [q0l,h,hw];rfl
theorem qro{c:Array Value}{k i:Nat}{v:Value}(h:(c.extract 0 k)[i]?=some v):i < k/\c[i]?=some v:=by
 have hlt:=(Array.getElem?_eq_some_iff.1 h).1;simp only [Array.size_extract] at hlt;rw [Array.getElem?_extract] at h;rw [if_pos hlt,Nat.zero_add] at h;exact⟨by omega,h⟩
theorem qrp{c:Array Value}{k i:Nat}{v:Value}(hi:i < k)(h:c[i]?=some v):(c.extract 0 k)[i]?=some v:=by
 have hlt:=(Array.getElem?_eq_some_iff.1 h).1;rw [Array.getElem?_extract];simp only [Nat.zero_add];rw [if_pos (by omega)];exact h
theorem q5h{C:Pen}(hN:C.N<=w.heap.size)(hPt:∀ r,C.Pt r↔Pt r=true)
   (qcH:∀ r,Pt r=true->∃ c e fr,w.heap[r]?=some (.cells c e fr)/\(C.Z r->κ r=0)/\(∀ i v,i < κ r->c[i]?=some v->C.A ⟨r,i,none⟩->Ok C.A C.F v/\¬ (fr.1<=i/\i < fr.2))/\(fr=(0,0)∨(r=C.G/\0 < c.size))/\(r=C.G->κ r<=C.K))
   (qhR:∀ r o,C.B r->Pt r=false->w.heap[r]?=some o->qcK C r o) (hch:∀ r,¬ C.Ch r):Both C w (zh Pt κ w):=by
 refine⟨⟨j9.symm,rfl,hN,fun r hp=>?_,fun r _ hp=>(qh0 ?_).symm,fun r o hB hp ho=>?_,fun r hc=>absurd hc (hch r),rfl⟩,rfl⟩
 . have hp':=(hPt r).1 hp;obtain⟨c,e,fr,h1,h2,h3,h4,h5⟩:=qcH r hp';refine⟨c.extract 0 (κ r),c,e,fr,q0m hp' h1,h1,by simp only [Array.size_extract];omega,fun hz=>by rw [h2 hz];simp,fun i v hv=>?_,h4,fun hG=>?_⟩
   . obtain⟨k1,k2⟩:=qro hv;exact⟨k2,h3 i v k1 k2⟩
   . have:=h5 hG;simp only [Array.size_extract];omega
 . cases hr:Pt r with
   | false=>rfl
   | true=>exact absurd ((hPt r).2 hr) hp
 . have hf:Pt r=false:=by
     cases hr:Pt r with
     | false=>rfl
     | true=>exact absurd ((hPt r).2 hr) hp
   rw [qh0 hf] at ho;exact qhR r o hB hf ho
end
def Moves(A:Addr->Prop)(x y:World):Prop:=∀ g o q,A ⟨g,o,none⟩->x.cell? ⟨g,o,none⟩=some (.int .i64 q)->y.heap[g]?=x.heap[g]?
section
variable {A:Addr->Prop}{F:FuncId->Prop}{x y:World}{v:Value}
theorem qzr{l:List Int}(hm:Moves A x y)(hv:Ok A F v)(h:RI x v l):RI y v l:=by
 obtain⟨h0,B,c,rfl,h2,h3,h4,h5⟩:=h;refine⟨h0,B,c,rfl,h2,h3,h4,?_⟩;rcases h5 with h5 | ⟨g,o,cur,rfl,hb,hc⟩
 . exact .inl h5
 . cases l with
   | nil=>exact .inl rfl
   | cons q l=>
     refine .inr ⟨g,o,cur,rfl,?_,hc⟩;have hq:x.cell? ⟨g,o,none⟩=some (.int .i64 q):=(hb.cell o).trans (hc 0 _ (by simp));exact(hm g o q hv.of_slice hq).trans hb
theorem q8i{qa:List Node}(hm:Moves A x y)(up:∀ g o j,A ⟨g,o,none⟩->A ⟨g,o+j,none⟩)(hok:∀ a u,A a->x.cell? a=some u->Ok A F u)(hv:Ok A F v)(h:RN x v qa):RN y v qa:=by
 obtain⟨xs,⟨h0,B,c,rfl,h2,h3,h4,h5⟩,hn⟩:=h;rcases h5 with h5 | ⟨g,o,cur,rfl,hb,hc⟩
 . refine⟨xs,⟨h0,B,c,rfl,h2,h3,h4,.inl h5⟩,fun i nd hi=>?_⟩;have:=(List.getElem?_eq_some_iff.1 hi).1;omega
 . cases qa with
   | nil=>exact⟨xs,⟨h0,_,c,rfl,h2,h3,h4,.inl rfl⟩,fun i nd hi=>by simp at hi⟩
   | cons nd0 qa=>
     have hA:=hv.of_slice;obtain⟨f0,r0,k0,-⟩:=hn 0 nd0 rfl;have hq:x.cell? ⟨g,o,none⟩=some (.int .i64 nd0.kind):=(hb.cell o).trans (hc 0 _ (by simpa using k0));refine⟨xs,⟨h0,_,c,rfl,h2,h3,h4,.inr ⟨g,o,cur,rfl,(hm g o _ hA hq).trans hb,hc⟩⟩,fun i nd hi=>?_⟩;obtain⟨f,r,k1,k2,k3,k4,k5⟩:=hn i nd hi;have o2:Ok A F f:=hok ⟨g,o+(i * 3+1),none⟩ f (up g o _ hA) ((hb.cell _).trans (hc _ _ k2));have o3:Ok A F r:=hok ⟨g,o+(i * 3+2),none⟩ r (up g o _ hA) ((hb.cell _).trans (hc _ _ k3));exact⟨f,r,k1,k2,k3,qzr hm o2 k4,qzr hm o3 k5⟩
end
noncomputable def gE:Nat:=0
noncomputable def gH:Nat:=Tryz.prog.globals.size
structure Start(W:World)(ea:Addr):Prop where
 g:Blk W gE 119 #[.iface 244 (.pointer (some ea))]
 h:∃ c e,W.heap[gH]?=some (.cells c e (0,0))/\∀ (i:Nat) (b:Int),c[i]?≠some (.int .u8 b)
 e:∃ c t,W.heap[ea.block]?=some (.cells c t (0,0))
 ne:ea.block≠gE
 gh:gE≠gH
structure qX(W:World)(v:Value)(n g o c:Nat)(cs:Array Value)(e:TypeId)(fr:Nat × Nat):Prop where
 v:∃ A,v=.slice A n c/\(∀ a,A=some a->a=⟨g,o,none⟩)/\(A=none->c=0)
 le:n<=c
 b:W.heap[g]?=some (.cells cs e fr)
 at_:∀ j,j < c->∃ b:Int,0<=b/\b<=255/\cs[o+j]?=some (.int .u8 b)/\¬ (fr.1<=o+j/\o+j < fr.2)
def A1(N0 g o:Nat)(a:Addr):Prop:=N0<=a.block∨a.block=gE∨a.block=gH∨(a.block=g/\o<=a.off)
noncomputable def gr1(N0 g o c:Nat):Grd where
 A:=A1 N0 g o
 F:=fun f=>Fs f=true
 N0:=N0
 fresh:=fun _ h=>.inl h
 up:=fun a b h e l=>by
   rcases h with h | h | h | ⟨h,k⟩
   . exact .inl (by rw [e];exact h)
   . exact .inr (.inl (e.trans h))
   . exact .inr (.inr (.inl (e.trans h)))
   . exact .inr (.inr (.inr ⟨e.trans h,Nat.le_trans k l⟩))
 G:=g
 K:=o+c
 X:=fun _ _=>False
def A2(N0 g:Nat)(ea a:Addr):Prop:=N0<=a.block∨a.block=gE∨a.block=gH∨a.block=g∨a.block=ea.block
noncomputable def gr2(N0 g:Nat)(ea:Addr):Grd where
 A:=A2 N0 g ea
 F:=fun f=>Fs f=true
 N0:=N0
 fresh:=fun _ h=>.inl h
 up:=fun a b h e _=>by unfold A2 at *;rw [e];exact h
 G:=g
 K:=0
 X:=fun _ _=>False
section
variable {N0 g o c:Nat}{ea:Addr}
theorem q8j(M:Mks (gr1 N0 g o c).base):jY ((gr1 N0 g o c).base.pen M):=⟨rfl,fun _=>Iff.rfl,fun _ _ h=>h,.inr (.inr (.inl rfl)),.inr (.inl rfl)⟩
theorem q9m(M:Mks (gr2 N0 g ea).base):jY ((gr2 N0 g ea).base.pen M):=⟨rfl,fun _=>Iff.rfl,fun _ _ h=>h,.inr (.inr (.inl rfl)),.inr (.inl rfl)⟩
theorem A1.to2{a:Addr}(h:A1 N0 g o a):A2 N0 g ea a:=by
 rcases h with h | h | h | ⟨h,_⟩
 . exact .inl h
 . exact .inr (.inl h)
 . exact .inr (.inr (.inl h))
 . exact .inr (.inr (.inr (.inl h)))
theorem Ok.to2{F:FuncId->Prop}{v:Value}(h:Ok (A1 N0 g o) F v):Ok (A2 N0 g ea) F v:=h.mono (fun _=>A1.to2) (fun _ h=>h)
end
noncomputable def pt1(N0 g:Nat)(cs:Array Value)(r:Nat):Bool:=decide (r < N0/\(r=gE∨r=gH∨(r=g/\cs.size≠0)))
noncomputable def κ1(o c r:Nat):Nat:=if r=gE∨r=gH then 0 else o+c
noncomputable def mk1(N0 g o c:Nat)(cs:Array Value):Mks (gr1 N0 g o c).base where
 N:=N0
 ge:=Nat.le_refl _
 Pt:=fun r=>pt1 N0 g cs r=true
 Z:=fun r=>r < N0/\(r=gE∨r=gH)
 Ch:=fun _=>False
 old:=fun r h=>by
   rcases h with h | h
   . exact(of_decide_eq_true h).1
   . exact h.elim
 zp:=fun r h=>decide_eq_true ⟨h.1,h.2.elim .inl (fun k=>.inr (.inl k))⟩
noncomputable def pt2(N0 g:Nat)(cs:Array Value)(ea:Addr)(r:Nat):Bool:=decide (r < N0/\r≠gE/\(r=gH∨(r=g/\cs.size≠0)∨r=ea.block))
noncomputable def mk2(N0 g:Nat)(cs:Array Value)(ea:Addr):Mks (gr2 N0 g ea).base where
 N:=N0
 ge:=Nat.le_refl _
 Pt:=fun r=>pt2 N0 g cs ea r=true
 Z:=fun r=>pt2 N0 g cs ea r=true
 Ch:=fun _=>False
 old:=fun r h=>by
   rcases h with h | h
   . exact(of_decide_eq_true h).1
   . exact h.elim
 zp:=fun r h=>h
section
variable {W:World}{ea:Addr}{v:Value}{n g o c:Nat}{cs:Array Value}{e:TypeId}{fr:Nat × Nat}
theorem qma{W:World}{r:Nat}{ob:Obj}(h:W.heap[r]?=some ob):r < W.heap.size:=(Array.getElem?_eq_some_iff.1 h).1
theorem qX.ok(H:qX W v n g o c cs e fr):Ok (A1 W.heap.size g o) (fun f=>Fs f=true) v:=by
 obtain⟨A,rfl,h1,h2⟩:=H.v;exact .slice _ _ (fun a ha=>by rw [h1 a ha];exact .inr (.inr (.inr ⟨rfl,Nat.le_refl _⟩)))
theorem qX.apart(H:qX W v n g o c cs e fr)(S:Start W ea)(hc:0 < c):g≠gE/\g≠gH:=by
 obtain⟨b,_,_,h1,_⟩:=H.at_ 0 hc;refine⟨fun hg=>?_,fun hg=>?_⟩
 . have h2:=S.g;unfold Blk at h2;have h3:=H.b;rw [hg,h2] at h3;cases h3;rcases Nat.eq_zero_or_pos o with rfl | ho
   . simp at h1
   . rw [Array.getElem?_eq_none (by simp;omega)] at h1;cases h1
 . obtain⟨c',e',h2,h4⟩:=S.h;have h3:=H.b;rw [hg,h2] at h3;cases h3;exact h4 _ _ h1
theorem q9n(S:Start W ea)(H:qX W v n g o c cs e fr):Both ((gr1 W.heap.size g o c).base.pen (mk1 W.heap.size g o c cs)) W (zh (pt1 W.heap.size g cs) (κ1 o c) W):=by
 refine q5h (Nat.le_refl _) (fun _=>Iff.rfl) (fun r hr=>?_) (fun r ob hB hr ho=>?_) (fun _ h=>h)
 . obtain⟨hlt,hr⟩:=of_decide_eq_true hr;by_cases h0:r=gE∨r=gH
   . have hk:κ1 o c r=0:=by unfold κ1;rw [if_pos h0]
     have hc:∃ c' e',W.heap[r]?=some (.cells c' e' (0,0)):=by
       rcases h0 with rfl | rfl
       . exact⟨_,_,S.g⟩
       . obtain⟨c',e',h2,_⟩:=S.h;exact⟨c',e',h2⟩
     obtain⟨c',e',h2⟩:=hc;exact⟨c',e',(0,0),h2,fun _=>hk,fun i v hi=>by omega,.inl rfl,fun _=>by rw [hk];exact Nat.zero_le _⟩
   . obtain⟨rfl,hs⟩:r=g/\cs.size≠0:=by
       rcases hr with h | h | h
       . exact absurd (.inl h) h0
       . exact absurd (.inr h) h0
       . exact h
     have hk:κ1 o c r=o+c:=by unfold κ1;rw [if_neg h0]
     refine⟨cs,e,fr,H.b,fun hz=>absurd hz.2 h0,fun i v hi hv hA=>?_,.inr ⟨rfl,by omega⟩,fun _=>by rw [hk];exact Nat.le_refl _⟩;rcases hA with hA | hA | hA | ⟨_,hA⟩
     . have:W.heap.size<=r:=hA;omega
     . exact absurd (.inl hA) h0
     . exact absurd (.inr hA) h0
     . have hA':o<=i:=hA;obtain⟨b,_,_,h1,h2⟩:=H.at_ (i - o) (by omega);rw [show o+(i - o)=i by omega] at h1 h2;rw [h1] at hv;cases hv;exact⟨.int _ _,h2⟩
 . have hlt:=qma ho;have hn:¬ (r < W.heap.size/\(r=gE∨r=gH∨(r=g/\cs.size≠0))):=of_decide_eq_false hr;obtain⟨a,hA,rfl⟩:=hB;rcases hA with hA | hA | hA | ⟨hA,_⟩
   . omega
   . exact absurd ⟨hlt,.inl hA⟩ hn
   . exact absurd ⟨hlt,.inr (.inl hA)⟩ hn
   . have hs:cs.size=0:=by
       rcases Nat.eq_zero_or_pos cs.size with h | h
       . exact h
       . exact absurd ⟨hlt,.inr (.inr ⟨hA,by omega⟩)⟩ hn
     rw [hA,H.b] at ho;cases ho;obtain rfl:=Array.eq_empty_of_size_eq_zero hs;exact .inr ⟨hA,e,fr,rfl⟩
theorem q87(S:Start W ea)(H:qX W v n g o c cs e fr):Bytes (zh (pt1 W.heap.size g cs) (κ1 o c) W) W.heap.size v n:=by
 obtain⟨A,rfl,h1,h2⟩:=H.v;refine⟨A,c,rfl,H.le,fun hn=>?_⟩;have hc:0 < c:=Nat.lt_of_lt_of_le hn H.le;obtain⟨g1,g2⟩:=H.apart S hc;cases A with
 | none=>have:=h2 rfl;omega
 | some a=>
   obtain rfl:=h1 a rfl;refine⟨_,rfl,qma H.b,fun j hj=>?_⟩;obtain⟨b,k1,k2,k3,_⟩:=H.at_ j (Nat.lt_of_lt_of_le hj H.le);refine⟨b,k1,k2,?_⟩;have hs:cs.size≠0:=by have:=(Array.getElem?_eq_some_iff.1 k3).1;omega
   have hp:pt1 W.heap.size g cs g=true:=decide_eq_true ⟨qma H.b,.inr (.inr ⟨rfl,hs⟩)⟩;have hk:κ1 o c g=o+c:=by unfold κ1;rw [if_neg (by rintro(h | h);exact g1 h;exact g2 h)]
   have hb:=q0m (κ:=κ1 o c) hp H.b;rw [hk] at hb;show World.cell? _ (Addr.add ⟨g,o,none⟩ j)=_;have e1:(⟨g,o,none⟩:Addr).add j=⟨g,o+j,none⟩:=by unfold Addr.add;split <;> simp_all
   rw [e1,cell_of_row _ g (o+j) _ _ _ hb];have hle:=H.le;exact qrp (by omega) k3
theorem qeH(H:qX W v n g o c cs e fr){w1 z1:World}(hb:Both ((gr1 W.heap.size g o c).base.pen (mk1 W.heap.size g o c cs)) w1 z1)(hh:Held ((gr1 W.heap.size g o c).base.pen (mk1 W.heap.size g o c cs)) W w1)
   (hz:∀ r,r < W.heap.size->z1.heap[r]?=(zh (pt1 W.heap.size g cs) (κ1 o c) W).heap[r]?):∀ r,r < W.heap.size->w1.heap[r]?=W.heap[r]?:=by
 intro r hr;by_cases h0:r=gE∨r=gH
 . exact hh.block r (.inr (.inl ⟨hr,h0⟩))
 by_cases hg:r=g
 . subst hg;by_cases hs:cs.size=0
   . have hf:pt1 W.heap.size r cs r=false:=decide_eq_false (by rintro⟨_,h | h | h⟩;exact h0 (.inl h);exact h0 (.inr h);exact h.2 hs);have hB:((gr1 W.heap.size r o c).base.pen (mk1 W.heap.size r o c cs)).B r:=⟨⟨r,o,none⟩,.inr (.inr (.inr ⟨rfl,Nat.le_refl _⟩)),rfl⟩;rw [hb.rel.same r hB (by show ¬ (pt1 W.heap.size r cs r=true);rw [hf];simp),hz r hr,qh0 hf]
   . have hp:pt1 W.heap.size r cs r=true:=decide_eq_true ⟨hr,.inr (.inr ⟨rfl,hs⟩)⟩;have hk:κ1 o c r=o+c:=by unfold κ1;rw [if_neg h0]
     obtain⟨c',h1,h2,h3⟩:=hh.tail hp cs e fr H.b;obtain⟨d',d,e2,fr2,k1,k2,_,_,k5,_⟩:=hb.rel.part r hp;rw [hz r hr,q0m hp H.b,hk] at k1;cases k1;rw [show ((gr1 W.heap.size r o c).base.pen (mk1 W.heap.size r o c cs)).G=r from rfl] at h1;rw [h1] at k2;cases k2;rw [h1,H.b];congr 2;apply Array.ext_getElem?;intro i;by_cases hi:o+c<=i
     . exact h3 i hi
     . by_cases hi2:i < cs.size
       . have hx:(cs.extract 0 (o+c))[i]?=some cs[i]:=qrp (by omega) (Array.getElem?_eq_getElem hi2);rw [(k5 i _ hx).1,Array.getElem?_eq_getElem hi2]
       . rw [Array.getElem?_eq_none (by omega),Array.getElem?_eq_none (by omega)]
 . refine hh.block r (.inl ?_);rintro⟨a,hA,rfl⟩;rcases hA with hA | hA | hA | ⟨hA,_⟩
   . omega
   . exact h0 (.inl hA)
   . exact h0 (.inr hA)
   . exact hg hA
theorem q9o(S:Start W ea)(H:qX W v n g o c cs e fr){w1 z1:World}(hb:Both ((gr1 W.heap.size g o c).base.pen (mk1 W.heap.size g o c cs)) w1 z1)(hs:W.heap.size<=w1.heap.size)(hold:∀ r,r < W.heap.size->w1.heap[r]?=W.heap[r]?) :
   Both ((gr2 W.heap.size g ea).base.pen (mk2 W.heap.size g cs ea)) w1 (zh (pt2 W.heap.size g cs ea) (fun _=>0) w1):=by
 refine q5h hs (fun _=>Iff.rfl) (fun r hr=>?_) (fun r ob hB hr ho=>?_) (fun _ h=>h)
 . obtain⟨hlt,h0,hr⟩:=of_decide_eq_true hr
   have key:∃ c' e' fr',w1.heap[r]?=some (.cells c' e' fr')/\(fr'=(0,0)∨(r=g/\0 < c'.size)):=by
     rw [hold r hlt];rcases hr with rfl | ⟨rfl,hc⟩ | rfl
     . obtain⟨c',e',h2,_⟩:=S.h;exact⟨c',e',_,h2,.inl rfl⟩
     . exact⟨_,_,_,H.b,.inr ⟨rfl,by omega⟩⟩
     . obtain⟨c',e',h2⟩:=S.e;exact⟨c',e',_,h2,.inl rfl⟩
   obtain⟨c',e',fr',h1,h2⟩:=key;exact⟨c',e',fr',h1,fun _=>rfl,fun i v hi=>absurd hi (Nat.not_lt_zero _),h2,fun _=>Nat.zero_le _⟩
 . have hn:¬ (r < W.heap.size/\r≠gE/\(r=gH∨(r=g/\cs.size≠0)∨r=ea.block)):=of_decide_eq_false hr;rcases Nat.lt_or_ge r W.heap.size with hlt | hge
   . by_cases h0:r=gE
     . subst h0;rw [hold _ hlt,show W.heap[gE]?=_ from S.g] at ho;cases ho;refine .inl ⟨rfl,fun u hu=>?_⟩;have hu':u=.iface 244 (.pointer (some ea)):=by simpa using hu
       subst hu';exact .iface _ (.ptr (.inr (.inr (.inr (.inr rfl)))))
     . obtain⟨a,hA,rfl⟩:=hB;rcases hA with hA | hA | hA | hA | hA
       . exact absurd hA (by show ¬ (W.heap.size<=a.block);omega)
       . exact absurd hA h0
       . exact absurd ⟨hlt,h0,.inl hA⟩ hn
       . have hs0:cs.size=0:=by
           rcases Nat.eq_zero_or_pos cs.size with h | h
           . exact h
           . exact absurd ⟨hlt,h0,.inr (.inl ⟨hA,by omega⟩)⟩ hn
         rw [hold _ hlt,hA,H.b] at ho;cases ho;obtain rfl:=Array.eq_empty_of_size_eq_zero hs0;exact .inr ⟨hA,e,fr,rfl⟩
       . exact absurd ⟨hlt,h0,.inr (.inr hA)⟩ hn
   . have hB1:((gr1 W.heap.size g o c).base.pen (mk1 W.heap.size g o c cs)).B r:=⟨⟨r,0,none⟩,.inl hge,rfl⟩;have hp1:¬ (pt1 W.heap.size g cs r=true):=fun k=>by have:=(of_decide_eq_true k).1;omega
     have h2:=hb.rel.cln r ob hB1 hp1 (by rw [<-hb.rel.same r hB1 hp1];exact ho);rcases h2 with h2 | ⟨hG,h2⟩
     . left;cases ob with
       | cells c e fr=>exact⟨h2.1,fun v hv=>(h2.2 v hv).to2⟩
       | map es k=>exact fun e he=>⟨(h2 e he).1.to2,(h2 e he).2.to2⟩
       | mapIter m _ _ _=>exact fun x hx=>(h2 x hx).to2
       | number a _=>obtain⟨b,k1,k2⟩:=h2;exact⟨b,k1.to2,k2⟩
       | stringIter _ _=>trivial
       | chan _ _ _ _ _ _=>trivial
       | _=>exact h2.elim
     . exact .inr ⟨hG,h2⟩
theorem q63(S:Start W ea){w1:World}(hold:∀ r,r < W.heap.size->w1.heap[r]?=W.heap[r]?):qp (zh (pt2 W.heap.size g cs ea) (fun _=>0) w1) ea:=by
 have h1:(zh (pt2 W.heap.size g cs ea) (fun _=>0) w1).heap[gE]?=some (.cells #[.iface 244 (.pointer (some ea))] 119 (0,0)):=by
   rw [qh0 (decide_eq_false (fun h=>h.2.1 rfl)),hold _ (qma S.g)];exact S.g
 show World.cell? _ ⟨gE,0,none⟩=_;rw [cell_of_row _ gE 0 _ _ _ h1];rfl
theorem q8k(H:qX W v n g o c cs e fr){w1 z1:World}(hb:Both ((gr1 W.heap.size g o c).base.pen (mk1 W.heap.size g o c cs)) w1 z1)
   (hz:∀ r,r < W.heap.size->z1.heap[r]?=(zh (pt1 W.heap.size g cs) (κ1 o c) W).heap[r]?):Moves (A1 W.heap.size g o) z1 (zh (pt2 W.heap.size g cs ea) (fun _=>0) w1):=by
 intro r j q hA hq;have qhS:=ordinary hb hq;rcases Nat.lt_or_ge r W.heap.size with hlt | hge
 . exfalso;have h0:¬ (r=gE∨r=gH):=fun h=>qhS.1 ⟨hlt,h⟩;rcases hA with hA | hA | hA | ⟨hA,hj⟩
   . have:W.heap.size<=r:=hA;omega
   . exact h0 (.inl hA)
   . exact h0 (.inr hA)
   . have hA':r=g:=hA;have hj':o<=j:=hj;subst hA';by_cases hs:cs.size=0
     . have hf:pt1 W.heap.size r cs r=false:=decide_eq_false (by rintro⟨_,h | h | h⟩;exact h0 (.inl h);exact h0 (.inr h);exact h.2 hs);have h1:z1.heap[r]?=some (.cells cs e fr):=by rw [hz r hlt,qh0 hf];exact H.b
       rw [cell_of_row _ r j _ _ _ h1] at hq;have:=(Array.getElem?_eq_some_iff.1 hq).1;omega
     . have hp:pt1 W.heap.size r cs r=true:=decide_eq_true ⟨hlt,.inr (.inr ⟨rfl,hs⟩)⟩;have hk:κ1 o c r=o+c:=by unfold κ1;rw [if_neg h0]
       have h1:z1.heap[r]?=some (.cells (cs.extract 0 (o+c)) e (0,0)):=by rw [hz r hlt,q0m hp H.b,hk]
       rw [cell_of_row _ r j _ _ _ h1] at hq;obtain⟨k1,k2⟩:=qro hq;obtain⟨b,_,_,k3,_⟩:=H.at_ (j - o) (by omega);rw [show o+(j - o)=j by omega,k2] at k3;cases k3
 . have hB1:((gr1 W.heap.size g o c).base.pen (mk1 W.heap.size g o c cs)).B r:=⟨⟨r,0,none⟩,.inl hge,rfl⟩;have hp1:¬ (pt1 W.heap.size g cs r=true):=fun k=>by have:=(of_decide_eq_true k).1;omega
   rw [qh0 (decide_eq_false (fun h=>by omega)),hb.rel.same r hB1 hp1]
end
end
end Go.Proofs.YtacemdoejblgaaaGreatDoor

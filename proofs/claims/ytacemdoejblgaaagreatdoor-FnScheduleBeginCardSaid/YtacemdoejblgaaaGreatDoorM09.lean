/- Part M09. Conditions: each statement's. -/
import Derived.Test.YtacemdoejblgaaaGreatDoorM08
import Derived.Conc.CompanyDraw
namespace Go.Proofs.YtacemdoejblgaaaGreatDoor
open Tryz World
set_option maxRecDepth 100000
set_option maxHeartbeats 6400000
section
open Go.Conc Go.RowKit Go.Conc.Lib Go.ConcR.Gen
open Go.ConcR (KK WgAt stA smA Payload)
noncomputable def qiq:Code:=Tryz.f43.body.getD .skip
noncomputable def qjw:Code:=match qiq with | .seq _ (.seq _ (.seq _ (.seq _ c)))=>c|_=>.skip
theorem qk3{w:World}{r:Nat}{v:Value}{e:TypeId}(h:w.heap[r]?=some (.cells #[v] e)):w.cell? ⟨r,0,none⟩=some v/\w.frozen? ⟨r,0,none⟩=false:=by
 simp[cell?,frozen?,h]
theorem qeO{w:World}{r:Nat}{u v:Value}{e:TypeId}(h:w.heap[r]?=some (.cells #[u] e)):(w.setCell ⟨r,0,none⟩ v).heap[r]?=some (.cells #[v] e):=by
 rw[qeu w ⟨r,0,none⟩ v h];simp
theorem qlA{P:Program}{t e:TypeId}{i:TypeInfo}(w:World)(ht:P.underlying t=some (.slice e))(hi:P.info? e=some i)(hb:i.bytes<=64)(N:Nat)(hN:N<=4):(Instr.makeSlice t (.int .i64 N) (.int .i64 N)).events P w #[]=#[]:=by
 have wc:IntKind.i64.wrap (N:Int)=N:=by rw[IntKind.wrap_i64];omega
 have h1:N*i.bytes<=4*64:=Nat.mul_le_mul hN hb;have n1:¬((N:Int)<0):=by omega
 have n2:¬(281474976710656<(i.bytes:Int)*(N:Int)):=by
  have:((i.bytes*N:Nat):Int)<=256:=by rw[Nat.mul_comm];omega
  rw[Int.natCast_mul]at this;omega
 have n3:¬(roomBytes<N*i.bytes):=by unfold roomBytes;omega
 by_cases hz:N*i.size=0
 . simp[Instr.makeSlice,run_underlying ht,asInt,asIntOf,typeInfo,hi,sizeOf,wc,n1,n2,n3,hz,newRow,askRoom]
 . cases hzero:i.zero<;>simp[Instr.makeSlice,run_underlying ht,asInt,asIntOf,typeInfo,hi,sizeOf,zeroValue,hzero,wc,n1,n2,n3,newRow,askRoom]
theorem qt3(w:World):(Instr.makeChan 107 (.int .i64 0)).run prog w=.ok (.chan (some w.heap.size)) (w.alloc (.chan 0 #[] false 0 0 false))/\(Instr.makeChan 107 (.int .i64 0)).events prog w #[]=#[]:=by
 have h:(Tryz.prog.info? 3).isSome=true:=by kernel_rfl
 obtain⟨i,hi⟩:=Option.isSome_iff_exists.1 h;have hb:(i.bytes:Int)*(0:Nat)<=281474976710544:=by omega
 exact⟨run_makeChan (P:=prog) (w:=w) underlying107 hi .i64 0 (by omega) hb,events_makeChan (P:=prog) (w:=w) underlying107 hi .i64 0 (by omega) hb #[]⟩
structure zE(gr:Grd)(M:Mks gr.base)(m0:Nat)(D:World->Prop)(w₀:World)(w z:World)(M1:Mks gr.base)(s:Nat):Prop where
 both:Both (gr.base.pen M1) w z
 data:D z
 le:M.Le M1
 size:w.heap.size=s
 ge:m0<=s
 held:qn (gr.base.pen M) (λr=>m0<=r) w₀ w
section
variable {gr:Grd}{M M1:Mks gr.base}{m0 s:Nat}{D:World->Prop}{w₀ w z:World}
theorem zE.void(S:zE gr M m0 D w₀ w z M1 s)(hD:∀x o,D x->D (x.alloc o))(c:Array Value)(e:TypeId) :
   ∃z2 M2,zE gr M m0 D w₀ (w.alloc (.cells c e)) z2 M2 (s+1)/\M1.Le M2/\M2.Z s/\(∀r,M2.Pt r->M1.Pt r∨r=s)/\(w.alloc (.cells c e)).heap[s]?=some (.cells c e)/\∀r,r≠s->(w.alloc (.cells c e)).heap[r]?=w.heap[r]?:=by
 obtain⟨hb,hz,le,rfl,ge,hh⟩:=S;exact⟨_,_,⟨hb.void c e,hD _ _ hz,le.trans (M1.yh _ hb.rel.room),by simp,by omega,hh.trans (.new ge _)⟩,M1.yh _ hb.rel.room,.inr rfl,λr h=>h,heap_alloc_new w _,λr hr=>qcr w _ hr⟩
theorem zE.chan(S:zE gr M m0 D w₀ w z M1 s)(hD:∀x o,D x->D (x.alloc o))(o:Obj)(ho:o=.chan 0 #[] false 0 0 false) :
   ∃z2 M2,zE gr M m0 D w₀ (w.alloc o) z2 M2 (s+1)/\M1.Le M2/\M2.Ch s/\¬M2.Pt s/\(∀r,M2.Pt r->M1.Pt r)/\(w.alloc o).heap[s]?=some o/\∀r,r≠s->(w.alloc o).heap[r]?=w.heap[r]?:=by
 subst ho;obtain⟨hb,hz,le,rfl,ge,hh⟩:=S;exact⟨_,_,⟨hb.chan 0 #[] false 0 0 false,hD _ _ hz,le.trans (M1.yj _ hb.rel.room),by simp,by omega,hh.trans (.new ge _)⟩,M1.yj _ hb.rel.room,.inr rfl,(λh=>Nat.lt_irrefl _ (Nat.lt_of_lt_of_le (M1.old _ (.inl h)) hb.rel.room)),λr h=>h,heap_alloc_new w _,λr hr=>qcr w _ hr⟩
theorem zE.set(S:zE gr M m0 D w₀ w z M1 s){a:Addr}(hZ:M1.Z a.block)(ha:m0<=a.block)(v:Value):zE gr M m0 D w₀ (w.setCell a v) z M1 s:=
 ⟨S.both.qkT hZ v,S.data,S.le,by rw[<-S.size];simp,S.ge,S.held.trans (.set (X:=λr=>m0<=r) ha v)⟩
end
section
variable {gr:Grd}{M:Mks gr.base}{Post:Value->World->Prop}{Sh:Nat->Prop}{Fz:Loc->Prop}{T:Nat->qA}{n0:Nat}{w z:World}{cs:List Frame}
theorem q32(hb:Both (gr.base.pen M) w z)(O:zx (gr.base.pen M) Sh Fz)(hT:∀i,i≠0->T i=.left){D:World->Prop}(hD:∀x o,D x->D (x.alloc o))(hz:D z){fl N:Nat}{csv:Value}(hN1:1<=N)(hN:N<=4)
   (next:∀tm w' z' (M':Mks gr.base),jM w.heap.size N fl csv tm->M.Le M'->Both (gr.base.pen M') w' z'->D z'->jP w.heap.size 0 M'->zD w.heap.size N 0 fl w'->w'.heap.size=w.heap.size+6->qn (gr.base.pen M) (λr=>w.heap.size<=r) w w' ->
    qc prog Post (qcx w.heap.size Sh) (qdc w.heap.size 0 Fz) T n0 0 0 (G ((base 43).at ⟨tm,[]⟩ [.code qjw]) cs) w') :
   qc prog Post Sh Fz T n0 0 0 (G ((base 43).at ⟨#[.pointer (some ⟨fl,0,none⟩),.int .i64 N,csv,undef,undef,undef,undef,undef,undef,undef,undef,undef,undef,undef,undef,undef,undef,undef,undef,undef,undef,undef,undef,undef,undef,undef,undef,undef,undef,undef,undef,undef,undef,undef,undef,undef,undef,undef,undef,undef,undef,undef,undef,undef,undef,undef,undef,undef,undef,undef,undef,undef,undef,undef,undef],[]⟩ [.code qiq]) cs) w:=by
 have hst:∀w:World,qdC T n0 0 w:=λw r hr=>by
  obtain⟨i,s,h1,_,h3,_⟩:=hr;rw[hT i h1]at h3;cases h3
 have hsw:∀r,¬StW T n0 0 r:=λr hr=>by
  obtain⟨i,s,h1,_,h3,_⟩:=hr;rw[hT i h1]at h3;cases h3
 obtain⟨lt1,lt2⟩:=O.lt;have hroom:=hb.rel.room;have e0:qiq=.seq (match qiq with | .seq x _=>x|_=>.skip) (.seq (match qiq with | .seq _ (.seq x _)=>x|_=>.skip) (.seq (match qiq with | .seq _ (.seq _ (.seq x _))=>x|_=>.skip) (.seq (match qiq with | .seq _ (.seq _ (.seq _ (.seq x _)))=>x|_=>.skip) qjw))):=rfl;generalize qjw=rm at *;rw[e0];clear e0;obtain⟨m0,hm0⟩:∃m0,m0=w.heap.size:=⟨_,rfl⟩;rw[<-hm0]at next;simp only[qiq,f43,Option.getD_some];refine qao ?_;refine qau ?_;simp only[List.size_toArray,List.length_cons,List.length_nil,Nat.zero_add,List.range,List.range.loop];refine qgw (ob:=.cells #[.pointer (some ⟨fl,0,none⟩)] 98) (v:=λs=>.pointer (some ⟨s,0,none⟩)) (hst w) rfl rfl (by decide) (λw=>by go_simp) (λw=>by simp[go_sem]) ?_;walk_nrm;refine qan ?_;refine qao ?_;refine qau ?_;simp only[List.size_toArray,List.length_cons,List.length_nil,Nat.zero_add,List.range,List.range.loop];have S0:zE gr M m0 D w w z M m0:=⟨hb,hz,.refl M,hm0.symm,Nat.le_refl _,.refl _ _ _⟩;obtain⟨z1,M1,S1,le1,zz0,p1,k0,-⟩:=S0.void hD #[.pointer (some ⟨fl,0,none⟩)] 98;rw[<-hm0];replace hroom:M.N<=m0:=by rw[hm0];exact hroom
 clear hm0;generalize w.alloc (.cells #[.pointer (some ⟨fl,0,none⟩)] 98)=w1 at S1 k0 |-;have hs1:=S1.size;refine qrc (Sh':=qcx m0 Sh) (Fz':=Fz) (λr h=>.inl h) (λr h=>h.imp id (λe=>by omega)) (λ_ h=>h) ?_;refine qgw (ob:=Go.ConcR.wgBlock wgL.tWg 0 0) (v:=λs=>.pointer (some ⟨s,0,none⟩)) (hst w1) rfl rfl (by decide) (λw=>by go_simp;rfl) (λw=>by simp[go_sem]) ?_;walk_nrm;refine qan ?_;refine qao ?_;refine qau ?_;simp only[List.size_toArray,List.length_cons,List.length_nil,Nat.reduceAdd,Nat.zero_add,List.range,List.range.loop];rw[hs1];obtain⟨z2,M2,S2,le2,zz1,p2,k1,ks⟩:=S1.void hD #[.int .u64 0,.int .u32 0] wgL.tWg;replace k0:(w1.alloc (Go.ConcR.wgBlock wgL.tWg 0 0)).heap[m0]?=some (.cells #[.pointer (some ⟨fl,0,none⟩)] 98):=(ks m0 (by omega)).trans k0;clear ks;replace k1:WgAt wgL.tWg (m0+1) (w1.alloc (Go.ConcR.wgBlock wgL.tWg 0 0)) 0 0:=k1;change zE gr M m0 D w (w1.alloc (Go.ConcR.wgBlock wgL.tWg 0 0)) z2 M2 (m0+1+1)at S2;generalize w1.alloc (Go.ConcR.wgBlock wgL.tWg 0 0)=w2 at S2 k0 k1 |-;have hs2:=S2.size;refine qa2 (.int .i64 N) rfl rfl (by decide) (λw=>by go_simp) (λw=>by simp[go_sem]) ?_;walk_nrm
 obtain⟨i,hi,hi1,hi2,hi3⟩:∃i,Tryz.prog.info? 107=some i/\i.zero=some (.chan none)/\i.size=1/\i.bytes<=64:=by
  have h:(Tryz.prog.info? 107).map (λi=>(i.zero,i.size,decide (i.bytes<=64)))=some (some (.chan none),1,true):=by kernel_rfl
  obtain⟨i,h1,h2⟩:=Option.map_eq_some_iff.1 h;simp only[Prod.mk.injEq,decide_eq_true_eq]at h2;exact⟨i,h1,h2.1,h2.2.1,h2.2.2⟩
 have hi4:(i.bytes:Int)*(N:Int)<=281474976710656:=by
  have h1:i.bytes*N<=64*4:=Nat.mul_le_mul hi3 hN;have:((i.bytes*N:Nat):Int)<=256:=by omega
  rw[Int.natCast_mul]at this;omega
 refine qgw (ob:=.cells (Go.madeCells #[.chan none] N) 107) (v:=λs=>.slice (some ⟨s,0,none⟩) N N) (hst w2) rfl rfl (by decide) (λw=>?_) (λw=>?_) ?_
 . have:=run_make (P:=prog) w 106 107 i (.chan none) underlying106 hi hi1 .i64 .i64 N N (by omega) (Int.le_refl _) hi4 (by omega);simp only[Int.toNat_natCast,hi2,Nat.mul_one]at this
   go_simp
 . have:=qlA (P:=prog) w underlying106 hi hi3 N hN;simp[go_sem,this]
 walk_nrm;rw[hs2];obtain⟨z3,M3,S3,le3,zz2,p3,k2,ks⟩:=S2.void hD (Go.madeCells #[.chan none] N) 107;replace k0:=(ks m0 (by omega)).trans k0;replace k1:WgAt wgL.tWg (m0+1) _ 0 0:=(ks (m0+1) (by omega)).trans k1;clear ks;generalize w2.alloc (.cells (Go.madeCells #[.chan none] N) 107)=w3 at S3 k0 k1 k2 |-;have hs3:=S3.size;refine qgw (ob:=.cells #[.slice none 0 0] 106) (v:=λs=>.pointer (some ⟨s,0,none⟩)) (hst w3) rfl rfl (by decide) (λw=>by go_simp) (λw=>by simp[go_sem]) ?_;walk_nrm;rw[hs3];obtain⟨z4,M4,S4,le4,zz3,p4,k3,ks⟩:=S3.void hD #[.slice none 0 0] 106;replace k0:=(ks m0 (by omega)).trans k0;replace k1:WgAt wgL.tWg (m0+1) _ 0 0:=(ks (m0+1) (by omega)).trans k1;replace k2:=(ks (m0+1+1) (by omega)).trans k2;clear ks;generalize w3.alloc (.cells #[.slice none 0 0] 106)=w4 at S4 k0 k1 k2 k3 |-
 have nsh:∀r,m0+1<r->¬qcx m0 Sh r:=λr hr h=>by
  rcases h with h|h
  . have:=lt1 r h;omega
  . omega
 have nfz:∀r,m0<=r->¬Fz (.cell ⟨r,0,none⟩):=λr hr h=>by
  have h1:r<M.N:=lt2 _ h;omega
 refine qwk (u:=.slice none 0 0) (v:=.slice (some ⟨m0+1+1,0,none⟩) N N) (qk3 k3).1 (qk3 k3).2 (hsw _) (nsh _ (by show m0+1<m0+1+1+1;omega)) (nfz _ (by omega)) rfl rfl (by decide) (λw h1 h2=>by go_simp) (λw h1 h2=>by simp[go_sem,events_store _ _ _ _ (.slice (some ⟨m0+1+1,0,none⟩) N N) _ rfl,h1,h2]) ?_;walk_nrm;refine qan ?_;refine qao ?_;refine qau ?_;simp only[List.size_toArray,List.length_cons,List.length_nil,Nat.reduceAdd,Nat.zero_add,List.range,List.range.loop];have S5:=S4.set (a:=⟨m0+1+1+1,0,none⟩) zz3 (by show m0<=m0+1+1+1;omega) (.slice (some ⟨m0+1+1,0,none⟩) N N);have ks:=qdl w4 ⟨m0+1+1+1,0,none⟩ (.slice (some ⟨m0+1+1,0,none⟩) N N);replace k0:=(ks m0 (by show m0≠m0+1+1+1;omega)).trans k0;replace k1:WgAt wgL.tWg (m0+1) _ 0 0:=(ks (m0+1) (by show m0+1≠m0+1+1+1;omega)).trans k1;replace k2:=(ks (m0+1+1) (by show m0+1+1≠m0+1+1+1;omega)).trans k2;replace k3:=qeO (v:=.slice (some ⟨m0+1+1,0,none⟩) N N) k3;clear ks;generalize w4.setCell ⟨m0+1+1+1,0,none⟩ (.slice (some ⟨m0+1+1,0,none⟩) N N)=w5 at S5 k0 k1 k2 k3 |-;have hs5:=S5.size;refine qgw (ob:=.chan 0 #[] false 0 0 false) (v:=λs=>.chan (some s)) (hst w5) rfl rfl (by decide) (λw=>?_) (λw=>?_) ?_
 . have:=(qt3 w).1
   go_simp
 . have:=(qt3 w).2;simp[go_sem,this]
 walk_nrm;rw[hs5];obtain⟨z6,M6,S6,le6,cc4,n4,p6,k4,ks⟩:=S5.chan hD _ rfl;replace k0:=(ks m0 (by omega)).trans k0;replace k1:WgAt wgL.tWg (m0+1) _ 0 0:=(ks (m0+1) (by omega)).trans k1;replace k2:=(ks (m0+1+1) (by omega)).trans k2;replace k3:=(ks (m0+1+1+1) (by omega)).trans k3;clear ks;generalize w5.alloc (.chan 0 #[] false 0 0 false)=w6 at S6 k0 k1 k2 k3 k4 |-;have hs6:=S6.size;refine qgw (ob:=.cells #[.chan none] 107) (v:=λs=>.pointer (some ⟨s,0,none⟩)) (hst w6) rfl rfl (by decide) (λw=>by go_simp) (λw=>by simp[go_sem]) ?_;walk_nrm;rw[hs6];obtain⟨z7,M7,S7,le7,zz5,p7,k5,ks⟩:=S6.void hD #[.chan none] 107;replace k0:=(ks m0 (by omega)).trans k0;replace k1:WgAt wgL.tWg (m0+1) _ 0 0:=(ks (m0+1) (by omega)).trans k1;replace k2:=(ks (m0+1+1) (by omega)).trans k2;replace k3:=(ks (m0+1+1+1) (by omega)).trans k3;replace k4:=(ks (m0+1+1+1+1) (by omega)).trans k4;clear ks;generalize w6.alloc (.cells #[.chan none] 107)=w7 at S7 k0 k1 k2 k3 k4 k5 |-;refine qwk (u:=.chan none) (v:=.chan (some (m0+1+1+1+1))) (qk3 k5).1 (qk3 k5).2 (hsw _) (nsh _ (by show m0+1<m0+1+1+1+1+1;omega)) (nfz _ (by omega)) rfl rfl (by decide) (λw h1 h2=>by go_simp) (λw h1 h2=>by simp[go_sem,events_store _ _ _ _ (.chan (some (m0+1+1+1+1))) _ rfl,h1,h2]) ?_;walk_nrm;refine qan ?_;have S8:=S7.set (a:=⟨m0+1+1+1+1+1,0,none⟩) zz5 (by show m0<=m0+1+1+1+1+1;omega) (.chan (some (m0+1+1+1+1)));have ks:=qdl w7 ⟨m0+1+1+1+1+1,0,none⟩ (.chan (some (m0+1+1+1+1)));replace k0:=(ks m0 (by show m0≠m0+1+1+1+1+1;omega)).trans k0;replace k1:WgAt wgL.tWg (m0+1) _ 0 0:=(ks (m0+1) (by show m0+1≠m0+1+1+1+1+1;omega)).trans k1;replace k2:=(ks (m0+1+1) (by show m0+1+1≠m0+1+1+1+1+1;omega)).trans k2;replace k3:=(ks (m0+1+1+1) (by show m0+1+1+1≠m0+1+1+1+1+1;omega)).trans k3;replace k4:=(ks (m0+1+1+1+1) (by show m0+1+1+1+1≠m0+1+1+1+1+1;omega)).trans k4;replace k5:=qeO (v:=.chan (some (m0+1+1+1+1))) k5;clear ks;generalize w7.setCell ⟨m0+1+1+1+1+1,0,none⟩ (.chan (some (m0+1+1+1+1)))=w8 at S8 k0 k1 k2 k3 k4 k5 |-;have hC:zD m0 N 0 fl w8:=⟨⟨_,k0⟩,(by simpa using k1),⟨_,k2,by simp[Go.madeCells],λj hj=>absurd hj (Nat.not_lt_zero j)⟩,⟨_,k3⟩,⟨0,k4⟩,⟨_,k5⟩,λj hj=>absurd hj (Nat.not_lt_zero j),λj hj=>absurd hj (Nat.not_lt_zero j)⟩
 have hM:jP m0 0 M7:=⟨le7.z _ (le6.z _ (le4.z _ (le3.z _ (le2.z _ zz0)))),le7.z _ (le6.z _ (le4.z _ (le3.z _ zz1))),le7.z _ (le6.z _ (le4.z _ zz2)),le7.z _ (le6.z _ zz3),le7.ch _ cc4,zz5,λj hj=>absurd hj (Nat.not_lt_zero j),λj hj=>absurd hj (Nat.not_lt_zero j),
  λh=>(p7 _ h).elim n4 (λe=>by omega),λj hj=>absurd hj (Nat.not_lt_zero j)⟩
 have hFz:∀l,Fz l->qdc m0 0 Fz l:=λl h=>.inl h;refine qrc (Sh':=qcx m0 Sh) (Fz':=qdc m0 0 Fz) (λr h=>h) (λr h=>.inl h) hFz ?_;exact next _ _ _ _ ⟨rfl,rfl,rfl,rfl,rfl,rfl,rfl,rfl⟩ S8.le S8.both S8.data hM hC S8.size S8.held
end
end
section
open Go.Conc
theorem count_set{S:Array Bool}{i:Nat}(h:S.getD i true=false):(S.setIfInBounds i true).toList.countP (!·)+1=S.toList.countP (!·):=by
 obtain⟨l⟩:=S
 have hi:i<l.length:=by
  refine Nat.lt_of_not_le (λhge=>?_);rw[Array.getD_eq_getD_getElem?,Array.getElem?_eq_none (by simpa using hge)]at h;simp at h
 have hv:l[i]=false:=by
  rw[Array.getD_eq_getD_getElem?,Array.getElem?_eq_getElem (by simpa using hi)]at h;simpa using h
 have hpos:0<l.countP (!·):=List.countP_pos_iff.2 ⟨false,by rw[<-hv];exact List.getElem_mem hi,rfl⟩;simp only[List.setIfInBounds_toArray];rw[List.countP_set (h:=hi),hv];simp;omega
section
variable {P:Program}{Post:Value->World->Prop}{Sh:Nat->Prop}{Fz:Loc->Prop}{T:Nat->qA}{n h dd:Nat}
 {b:Frame} {k:List Item} {cs:List Frame} {ops:Array Oper}
theorem q13{I:Array Bool->Act->World->Prop}
   (step:∀S a w i rest,I S a w->i∈Region.ready .any ops S->(Region.ready .any ops (S.setIfInBounds i true)=[]->rest=[])->(∀a' w',I (S.setIfInBounds i true) a' w'->qc P Post Sh Fz T n h dd (G (b.at a' (.inRegion ops rest::k)) cs) w')->qc P Post Sh Fz T n h dd (G (b.at a (.inRegion ops (i::rest)::k)) cs) w)
   (stop:∀S a w,I S a w->Region.ready .any ops S=[]->qc P Post Sh Fz T n h dd (G (b.at a (.inRegion ops []::k)) cs) w) :
   ∀fuel t S a w,S.toList.countP (!·)<=fuel->I S a w->qc P Post Sh Fz T n h dd (G (b.at a (.inRegion ops (Region.linearise.go .any ops fuel t S [])::k)) cs) w:=by
 intro fuel
 induction fuel with
 |zero=>
  intro t S a w hf hI;refine stop S a w hI ?_;refine List.eq_nil_iff_forall_not_mem.2 (λi hi=>?_);have:=count_set (mem_ready.1 hi).1;omega
 |succ fuel ih=>
  intro t S a w hf hI;simp only[Region.linearise.go]
  change qc P Post Sh Fz T n h dd (G (b.at a (.inRegion ops (match (Region.ready .any ops S)[t%(Region.ready .any ops S).length]? with
   |some i=>Region.linearise.go .any ops fuel (t/(Region.ready .any ops S).length) (S.setIfInBounds i true) [i]
   |none=>[].reverse)::k)) cs) w
  cases hi:(Region.ready .any ops S)[t%(Region.ready .any ops S).length]? with
  |none=>
   refine stop S a w hI ?_;cases hr:Region.ready .any ops S with
   |nil=>rfl
   |cons x xs=>
    rw[hr]at hi;have hlt:t%(x::xs).length<(x::xs).length:=Nat.mod_lt _ (by simp);rw[List.getElem?_eq_getElem hlt]at hi;cases hi
  |some i=>
   have him:i∈Region.ready .any ops S:=List.mem_of_getElem? hi;have hc:=count_set (mem_ready.1 him).1;simp only[];rw[linearise_go_acc,List.reverse_singleton,List.singleton_append];refine step S a w i _ hI him (λhr=>?_) (λa' w' hI'=>ih _ _ a' w' (by omega) hI');cases fuel with
   |zero=>rfl
   |succ f=>
    simp only[Region.linearise.go];have hr':(List.range ops.size).filter (λj=>!(S.setIfInBounds i true).getD j true&&((ops[j]?).map (·.after.all λe=>!Region.binds .any e||(S.setIfInBounds i true).getD e.on false)).getD false)=[]:=hr;rw[hr'];rfl
theorem qx9{I:Array Bool->Act->World->Prop}{id:Nat}{a:Act}{w:World}(hm:P.follows .mixedOrders=true)(h0:I (Array.replicate ops.size false) a w)
   (step:∀S a w i rest,I S a w->i∈Region.ready .any ops S->(Region.ready .any ops (S.setIfInBounds i true)=[]->rest=[])->(∀a' w',I (S.setIfInBounds i true) a' w'->qc P Post Sh Fz T n h dd (G (b.at a' (.inRegion ops rest::k)) cs) w')->qc P Post Sh Fz T n h dd (G (b.at a (.inRegion ops (i::rest)::k)) cs) w)
   (stop:∀S a w,I S a w->Region.ready .any ops S=[]->qc P Post Sh Fz T n h dd (G (b.at a (.inRegion ops []::k)) cs) w) :
   qc P Post Sh Fz T n h dd (G (b.at a (.code (.region id ops true)::k)) cs) w:=by
 refine qct rfl (λd=>⟨_,_,_,stepG_region_draw,(qkS (w.at d)).1,?_⟩);have:=q13 step stop ops.size ((w.at d).tape (w.at d).drawn (.order b.fn id)) (Array.replicate ops.size false) a w (Nat.le_trans List.countP_le_length (by simp)) h0
 have e:Region.schedule (P.follows .mixedOrders) ops ((w.at d).tape (w.at d).drawn (.order b.fn id))=Region.linearise.go .any ops ops.size ((w.at d).tape (w.at d).drawn (.order b.fn id)) (Array.replicate ops.size false) []:=by
  simp only[Region.schedule,hm,Bool.true_or,if_true];rfl
 rw[e];exact this (d+1)
end
end
section
open Go.Conc Go.RowKit Go.Conc.Lib Go.ConcR.Gen
open Go.ConcR (KK WgAt stA smA Payload)
open Go.ConcN (upd upd_ne upd_same)
theorem qlB{P:Program}{Post:Value->World->Prop}{Sh:Nat->Prop}{Fz:Loc->Prop}{T:Nat->qA}{n h:Nat}{g g' child:Goroutine}{w:World}(hs:g.status=.running)(step:∀w,stepG P (h==0) g w=.spawn g' child w #[])(hL:jv T n h w)
   {s:zW} {m κ:Nat} (h4:holds s.L w) (h5:w.heap[s.c]?=some (.chan 0 #[] false κ κ false)) (h6:∀i s',i≠h->i<n->T i=.seat s'->s'.c≠s.c) (h7:Way P false s m child) (h8:∀l,StL s.L l->Fz l/\¬qle Sh l)
   (next:qc P Post Sh Fz (upd T n (.seat s)) (n+1) h 0 g' w):qc P Post Sh Fz T n h 0 g w:=
 λe=>qjX hs (λd=>⟨g',child,w.at d,#[],step _,⟨λi s h1 h2 h3=>⟨hL i s h1 h2 h3,rfl⟩,λe he=>by simp at he,Nat.le_refl _⟩,rfl,s,m,κ,h4,h5,h6,h7,h8,next d⟩)
theorem q7d{P:Program}{Post:Value->World->Prop}{Sh:Nat->Prop}{Fz:Loc->Prop}{T:Nat->qA}{n h:Nat}{w:World}{b:Frame}{a:Act}{k:List Item}{cs:List Frame}{ops:Array Oper}{i:Nat}{rest:List Nat}{o:Oper}{d:Deferred}{f:Fn}{c:Array Value}
   (ho:ops[i]?=some o) (hw:Region.wanted o (yielded ops a.tmps)=true) (hk:b.kind≠.early) (hr:∀w,(execOp a.eval o).run P w=.ok (.spawn d) w) (he:∀w,(execOp a.eval o).events P w #[]=#[]) (hd:d.target=.fn f c) (hL:jv T n h w)
   {s:zW} {m κ:Nat} (h4:holds s.L w) (h5:w.heap[s.c]?=some (.chan 0 #[] false κ κ false)) (h6:∀i s',i≠h->i<n->T i=.seat s'->s'.c≠s.c) (h7:Way P false s m (born P d)) (h8:∀l,StL s.L l->Fz l/\¬qle Sh l)
   (next:qc P Post Sh Fz (upd T n (.seat s)) (n+1) h 0 (G (b.at (a.put o.dst undef) (.inRegion ops rest::k)) cs) w):qc P Post Sh Fz T n h 0 (G (b.at a (.inRegion ops (i::rest)::k)) cs) w:=
 qlB rfl (λw=>by rw[stepG_spawn ho hw hk (hr w) hd];unfold listed;rw[he w,seen_none]) hL h4 h5 h6 h7 h8 next
theorem jQ.next{m0 N n0 K:Nat}{T:Nat->qA}(R:jQ m0 N n0 K T){s:zW}(hs:xG m0 K N s):jQ m0 N n0 (K+1) (upd T (n0+K) (.seat s)):=
 ⟨λi h1 h2=>by rw[upd_ne T _ (by omega)];exact R.old i h1 h2,λj hj=>by
  by_cases e:j=K
  . subst e;exact⟨s,hs,upd_same ..⟩
  . rw[upd_ne T _ (by omega)];exact R.work j (by omega),λi hi=>by rw[upd_ne T _ (by omega)];exact R.out i (by omega)⟩
theorem qlC{w:World}{r i:Nat}{c:Array Value}{v:Value}{e:TypeId}(h:w.heap[r]?=some (.cells c e)):(w.setCell ⟨r,i,none⟩ v).heap[r]?=some (.cells (c.setIfInBounds i v) e):=by
 rw[qeu w ⟨r,i,none⟩ v h];simp
noncomputable def qfo:Code:=match qjw with | .seq (.seq _ (.block _ (.loop c))) _=>c|_=>.skip
noncomputable def qib:Code:=match qjw with | .seq _ c=>c|_=>.skip
def qjx(m0 N fl K:Nat)(csv x22 x23 x24 x25 v4 v5 v10 v11 v12 v13 v14 v15 v16 v17 v26 v27 v28 v29 v30 v31 v32 v33 v34 v35 v36 v37 v38 v39 v40 v41 v42 v43 v44 v45 v46 v47 v48 v49 v50 v51 v52 v53 v54:Value):Array Value:=
 #[.pointer (some ⟨fl,0,none⟩),.int .i64 N,csv,.pointer (some ⟨m0,0,none⟩),v4,v5,.pointer (some ⟨m0+1,0,none⟩),.pointer (some ⟨m0+3,0,none⟩),.pointer (some ⟨m0+5,0,none⟩),.pointer (some ⟨m0+6+2*K,0,none⟩),v10,v11,v12,v13,v14,v15,v16,v17,.int .i64 N,.int .i64 K,.bool true,.int .i64 K,x22,x23,x24,x25,v26,v27,v28,v29,v30,v31,v32,v33,v34,v35,v36,v37,v38,v39,v40,v41,v42,v43,v44,v45,v46,v47,v48,v49,v50,v51,v52,v53,v54]
section
variable {gr:Grd}{M M1:Mks gr.base}{Post:Value->World->Prop}{Sh:Nat->Prop}{Fz:Loc->Prop}{T:Nat->qA}{n0 m0 N fl:Nat}{csv:Value}{D:World->Prop}{w₀ w z:World}{cs:List Frame}{kk:List Item}
theorem q7e(hD:∀x o,D x->D (x.alloc o))(O:zx (gr.base.pen M) Sh Fz)(hm0:M.N<=m0)(hN:N<=4){K:Nat}(hK:K<N){tm:Array Value}{lp:Code}(S:zE gr M m0 D w₀ w z M1 (m0+6+2*K))(C:zD m0 N K fl w)(hM:jP m0 K M1)(R:jQ m0 N n0 K T)
   (hs:jM m0 N fl csv tm) (h18:tm[18]?=some (.int .i64 N)) (h19:tm[19]?=some (.int .i64 K))
   (next:∀tm' T' w' z' M2,zE gr M m0 D w₀ w' z' M2 (m0+6+2*(K+1))->zD m0 N (K+1) fl w'->jP m0 (K+1) M2->jQ m0 N n0 (K+1) T'->jM m0 N fl csv tm'->tm'[18]?=some (.int .i64 N)->tm'[19]?=some (.int .i64 ((K+1:Nat):Int)) ->
    qc prog Post (qcx m0 Sh) (qdc m0 (K+1) Fz) T' (n0+(K+1)) 0 0 (G ((base 43).at ⟨tm',[]⟩ (.inLoop lp::.inBlock 0::kk)) cs) w') :
   qc prog Post (qcx m0 Sh) (qdc m0 K Fz) T (n0+K) 0 0 (G ((base 43).at ⟨tm,[]⟩ (.code qfo::.inLoop lp::.inBlock 0::kk)) cs) w:=by
 obtain⟨v0,v1,v2,v3,v4,v5,v6,v7,v8,v9,v10,v11,v12,v13,v14,v15,v16,v17,v18,v19,v20,v21,v22,v23,v24,v25,v26,v27,v28,v29,v30,v31,v32,v33,v34,v35,v36,v37,v38,v39,v40,v41,v42,v43,v44,v45,v46,v47,v48,v49,v50,v51,v52,v53,v54,rfl⟩:=qj0 tm hs.size;have s0:=hs.s0;have s1:=hs.s1;have s2:=hs.s2;have s3:=hs.s3;have s6:=hs.s6;have s7:=hs.s7;have s8:=hs.s8;simp only[List.getElem?_toArray,List.getElem?_cons_zero,List.getElem?_cons_succ,Option.some.injEq]at s0 s1 s2 s3 s6 s7 s8 h18 h19;replace s2:=s2.symm;subst s0 s1 s2 s3 s6 s7 s8 h18 h19;clear hs;obtain⟨lt1,lt2⟩:=O.lt
 have nsh:∀r,m0<=r->r≠m0+1->¬qcx m0 Sh r:=λr hr hne h=>by
  rcases h with h|h
  . have:=lt1 r h;omega
  . exact hne h
 have nfz:∀a:Addr,m0<=a.block->¬Fz (.cell a):=λa hr h=>by
  have h1:a.block<M.N:=lt2 _ h;omega
 have qaR:decide ((K:Int)<(N:Int))=true:=by simp;omega
 have hK0:(0:Int)<=(K:Int):=by omega
 have hK1:(K:Int)<(N:Int):=by omega
 have hadd:IntKind.i64.wrap ((K:Int)+1)=((K+1:Nat):Int):=by rw[IntKind.wrap_i64];omega
 simp only[qfo,qjw,qiq,f43,Option.getD_some];refine qao ?_;refine qau ?_;simp only[List.size_toArray,List.length_cons,List.length_nil,Nat.zero_add,List.range,List.range.loop];refine qa2 (.bool true) rfl rfl (by decide) (λw=>by go_simp) (λw=>by simp[go_sem]) ?_;walk_nrm;refine qan ?_;refine qao ?_;refine qiw (t:=true) rfl ?_;simp only[if_true];refine qra ?_;refine qao ?_;refine qgb ?_;refine qao ?_;refine qau ?_;simp only[List.size_toArray,List.length_cons,List.length_nil,Nat.reduceAdd,Nat.zero_add,List.range,List.range.loop];refine qa2 (.int .i64 K) rfl rfl (by decide) (λw=>by go_simp) (λw=>by simp[go_sem]) ?_;walk_nrm;refine qgw (ob:=.cells #[.int .i64 0] 3) (v:=λs=>.pointer (some ⟨s,0,none⟩)) (C.qhE R) rfl rfl (by decide) (λw=>by go_simp) (λw=>by simp[go_sem]) ?_;walk_nrm;rw[S.size];have Ssz:=S.size;obtain⟨z1,M2,S1,le1,zb1,p1,kb,ks⟩:=S.void hD #[.int .i64 0] 3;have C1:zD m0 N K fl _:=C.same (λr h1 h2=>ks r (by omega));have hM1:jP m0 K M2:=hM.le le1 (λh=>(p1 _ h).elim hM.n4 (λe=>by omega)) (λj hj h=>(p1 _ h).elim (hM.nc j hj) (λe=>by omega));clear ks;generalize w.alloc (.cells #[.int .i64 0] 3)=w1 at S1 C1 kb |-;clear Ssz S C hM
 have nst:∀r,m0+6+2*K<=r->¬StW T (n0+K) 0 r:=λr hr h=>by
  rcases R.stw h with e|e|⟨j,hj,e|e⟩<;>omega
 refine qwk (u:=.int .i64 0) (v:=.int .i64 K) (qk3 kb).1 (qk3 kb).2 (nst _ (Nat.le_refl _)) (nsh _ (by show m0<=m0+6+2*K;omega) (by show m0+6+2*K≠m0+1;omega)) (λh=>?_) rfl rfl (by decide) (λw h1 h2=>by go_simp) (λw h1 h2=>by simp[go_sem,h1,h2]) ?_
 . rcases h with h|h|h|⟨j,hj,h|h⟩
   . exact nfz _ (by show m0<=m0+6+2*K;omega) h
   . simp only[Loc.cell.injEq,Addr.mk.injEq]at h;omega
   . simp only[Loc.cell.injEq,Addr.mk.injEq]at h;omega
   . simp only[Loc.cell.injEq,Addr.mk.injEq]at h;omega
   . simp only[Loc.cell.injEq,Addr.mk.injEq]at h;omega
 walk_nrm;refine qan ?_;refine qao ?_;have S2:=S1.set (a:=⟨m0+6+2*K,0,none⟩) zb1 (by show m0<=m0+6+2*K;omega) (.int .i64 K);have C2:zD m0 N K fl _:=C1.same (λr h1 h2=>qdl w1 ⟨m0+6+2*K,0,none⟩ (.int .i64 K) r (by show r≠m0+6+2*K;omega));replace kb:=qeO (v:=.int .i64 K) kb;generalize w1.setCell ⟨m0+6+2*K,0,none⟩ (.int .i64 K)=w2 at S2 C2 kb |-;clear S1 C1;obtain⟨z3,M3,S3,le3,cc3,n3,p3,kc,ks⟩:=S2.chan hD (.chan 0 #[] false 0 0 false) rfl;obtain⟨arr,ra1,ra2,ra3⟩:=C2.row;obtain⟨ecb,kcb⟩:=C2.cb;have hrow:∃u,w2.cell? ⟨m0+2,K,none⟩=some u/\w2.frozen? ⟨m0+2,K,none⟩=false:=⟨arr[K]'(by omega),by simp[cell?,ra1,show K<arr.size by omega],by simp[frozen?,ra1]⟩;obtain⟨u,hu1,hu2⟩:=hrow;have ks':∀r,r<m0+6+2*K+1->(w2.alloc (.chan 0 #[] false 0 0 false)).heap[r]?=w2.heap[r]?:=λr hr=>ks r (by omega)
 have ym:∀a:Addr,a.block<m0+6+2*K+1->(w2.alloc (.chan 0 #[] false 0 0 false)).cell? a=w2.cell? a/\(w2.alloc (.chan 0 #[] false 0 0 false)).frozen? a=w2.frozen? a:=λa ha=>by
  unfold cell? frozen?;rw[ks' _ ha];exact⟨rfl,rfl⟩
 refine qx9 (I:=fun Sb a w'=>∃ s0 s1 s2 s3 s4 x22 x23 x24 x25,Sb=#[s0,s1,s2,s3,s4]/\a=⟨qjx m0 N fl K csv x22 x23 x24 x25 v4 v5 v10 v11 v12 v13 v14 v15 v16 v17 v26 v27 v28 v29 v30 v31 v32 v33 v34 v35 v36 v37 v38 v39 v40 v41 v42 v43 v44 v45 v46 v47 v48 v49 v50 v51 v52 v53 v54,[]⟩/\(s0=true->x22=.slice (some ⟨m0+2,0,none⟩) N N)/\(s1=true->x23=.int .i64 K)/\(s2=true->x24=.chan (some (m0+6+2 * K+1))) /\
     (s3=true->s0=true/\s1=true/\s2=true/\x25=.pointer (some ⟨m0+2,K,none⟩))/\(s4=true->s3=true)/\w'=if s4=true then (w2.alloc (.chan 0 #[] false 0 0 false)).setCell ⟨m0+2,K,none⟩ (.chan (some (m0+6+2*K+1)))else if s2=true then w2.alloc (.chan 0 #[] false 0 0 false)else w2)
  (by kernel_rfl) ⟨false,false,false,false,false,_,_,_,_,rfl,rfl,(λh=>by cases h),(λh=>by cases h),(λh=>by cases h),(λh=>by cases h),(λh=>by cases h),rfl⟩ ?_ ?_
 . rintro Sb a w' i rest ⟨s0,s1,s2,s3,s4,x22,x23,x24,x25,rfl,rfl,i0,i1,i2,i3,i4,rfl⟩ hi-hgo;obtain⟨hi0,o,ho,jY⟩:=mem_ready.1 hi
   have hi5:i<5:=by
    have:=(Array.getElem?_eq_some_iff.1 ho).1;simpa using this
   rcases i with _|_|_|_|_|i
   ·
    simp at hi0;subst hi0;obtain rfl:s3=false:=by cases s3 with|false=>rfl|true=>exact absurd (i3 rfl).1 (by simp)
    obtain rfl:s4=false:=by cases s4 with|false=>rfl|true=>exact absurd (i4 rfl) (by simp)
    have hc:(if s2=true then w2.alloc (.chan 0 #[] false 0 0 false)else w2).cell? ⟨m0+3,0,none⟩=some (.slice (some ⟨m0+2,0,none⟩) N N):=by
     split
     . rw[(ym ⟨m0+3,0,none⟩ (by show m0+3<m0+6+2*K+1;omega)).1];exact(qk3 kcb).1
     . exact(qk3 kcb).1
    simp only[Bool.false_eq_true,if_false,qjx]at hgo |-;refine qew hc (nsh _ (by show m0<=m0+3;omega) (by show m0+3≠m0+1;omega)) rfl rfl (by decide) (λw h=>by go_simp) (λw h=>by simp[go_sem,h]) ?_;walk_nrm;exact hgo _ _ ⟨true,s1,s2,false,false,_,_,_,_,rfl,rfl,λ_=>rfl,i1,i2,(λh=>by cases h),(λh=>by cases h),rfl⟩
   . simp at hi0;subst hi0;obtain rfl:s3=false:=by cases s3 with|false=>rfl|true=>exact absurd (i3 rfl).2.1 (by simp)
     obtain rfl:s4=false:=by cases s4 with|false=>rfl|true=>exact absurd (i4 rfl) (by simp)
     have hc:(if s2=true then w2.alloc (.chan 0 #[] false 0 0 false)else w2).cell? ⟨m0+6+2*K,0,none⟩=some (.int .i64 K):=by
      split
      . rw[(ym ⟨m0+6+2*K,0,none⟩ (by show m0+6+2*K<m0+6+2*K+1;omega)).1];exact(qk3 kb).1
      . exact(qk3 kb).1
     simp only[Bool.false_eq_true,if_false,qjx]at hgo |-;refine qew hc (nsh _ (by show m0<=m0+6+2*K;omega) (by show m0+6+2*K≠m0+1;omega)) rfl rfl (by decide) (λw h=>by go_simp) (λw h=>by simp[go_sem,h]) ?_;walk_nrm;exact hgo _ _ ⟨s0,true,s2,false,false,_,_,_,_,rfl,rfl,i0,λ_=>rfl,i2,(λh=>by cases h),(λh=>by cases h),rfl⟩
   . simp at hi0;subst hi0;obtain rfl:s3=false:=by cases s3 with|false=>rfl|true=>exact absurd (i3 rfl).2.2.1 (by simp)
     obtain rfl:s4=false:=by cases s4 with|false=>rfl|true=>exact absurd (i4 rfl) (by simp)
     simp only[Bool.false_eq_true,if_false,qjx]at hgo |-;refine qgw (ob:=.chan 0 #[] false 0 0 false) (v:=λs=>.chan (some s)) (C2.qhE R) rfl rfl (by decide) (λw=>?_) (λw=>?_) ?_
     . have:=(qt3 w).1
       go_simp
     . have:=(qt3 w).2;simp[go_sem,this]
     walk_nrm;rw[S2.size];exact hgo _ _ ⟨s0,s1,true,false,false,_,_,_,_,rfl,rfl,i0,i1,λ_=>rfl,(λh=>by cases h),(λh=>by cases h),rfl⟩
   . simp at hi0;subst hi0;obtain rfl:s4=false:=by cases s4 with|false=>rfl|true=>exact absurd (i4 rfl) (by simp)
     have hd:s0=true/\s1=true/\s2=true:=by
      simp at ho;subst ho;simp[Region.binds]at jY;exact⟨jY.1,jY.2.1,jY.2.2.2.2⟩
     obtain⟨rfl,rfl,rfl⟩:=hd;obtain rfl:=i0 rfl;obtain rfl:=i1 rfl;simp only[Bool.false_eq_true,if_false,if_true,qjx]at hgo |-;refine qa2 (.pointer (some ⟨m0+2,K,none⟩)) rfl rfl (by decide) (λw=>by go_simp) (λw=>by simp[go_sem, *]) ?_;walk_nrm;exact hgo _ _ ⟨true,true,true,true,false,_,_,_,_,rfl,rfl,λ_=>rfl,λ_=>rfl,i2,λ_=>⟨rfl,rfl,rfl,rfl⟩,(λh=>by cases h),rfl⟩
   . simp at hi0;subst hi0
     have hd:s3=true:=by
      simp at ho;subst ho;simp[Region.binds]at jY;exact jY.1
     subst hd;obtain⟨rfl,rfl,rfl,rfl⟩:=i3 rfl;obtain rfl:=i2 rfl;simp only[Bool.false_eq_true,if_false,if_true,qjx]at hgo |-;have h1:=(ym ⟨m0+2,K,none⟩ (by show m0+2<m0+6+2*K+1;omega)).1.trans hu1;have h2:=(ym ⟨m0+2,K,none⟩ (by show m0+2<m0+6+2*K+1;omega)).2.trans hu2;refine qyb (w':=(w2.alloc (.chan 0 #[] false 0 0 false)).setCell ⟨m0+2,K,none⟩ (.chan (some (m0+6+2*K+1)))) rfl rfl (by decide) (λd=>?_) (λd=>?_) (jV.spot h1 (λi s e1 e2 e3=>?_) (nsh _ (by show m0<=m0+2;omega) (by show m0+2≠m0+1;omega)) (λh=>?_)) qry ?_
     . replace h1:((w2.alloc (.chan 0 #[] false 0 0 false)).at d).cell? ⟨m0+2,K,none⟩=some u:=h1;replace h2:((w2.alloc (.chan 0 #[] false 0 0 false)).at d).frozen? ⟨m0+2,K,none⟩=false:=h2;generalize w2.alloc (.chan 0 #[] false 0 0 false)=wx at h1 h2 |-
       go_simp
       rfl
     . replace h1:((w2.alloc (.chan 0 #[] false 0 0 false)).at d).cell? ⟨m0+2,K,none⟩=some u:=h1;replace h2:((w2.alloc (.chan 0 #[] false 0 0 false)).at d).frozen? ⟨m0+2,K,none⟩=false:=h2;generalize w2.alloc (.chan 0 #[] false 0 0 false)=wx at h1 h2 |-;simp[go_sem,events_store _ _ _ _ (.chan (some (m0+6+2*K+1))) _ rfl,h1,h2]
     . obtain⟨j,hj,rfl,hsj⟩:=R.seat e1 e3;obtain⟨q1,q2,_⟩:=qfa hsj;refine⟨by rw[q1];show m0+7+2*j≠m0+2;omega,λx hx e=>?_⟩;rw[q2]at hx;simp only[qqr,qil,List.mem_cons,List.not_mem_nil,or_false]at hx;rcases hx with rfl|rfl|rfl
       . simp only[Addr.mk.injEq]at e;omega
       . simp only[Addr.mk.injEq]at e;omega
       . simp only[Addr.mk.injEq]at e;omega
     . rcases h with h|h|h|⟨j,hj,h|h⟩
       . exact nfz _ (by show m0<=m0+2;omega) h
       . simp only[Loc.cell.injEq,Addr.mk.injEq]at h;omega
       . simp only[Loc.cell.injEq,Addr.mk.injEq]at h;omega
       . simp only[Loc.cell.injEq,Addr.mk.injEq]at h;omega
       . simp only[Loc.cell.injEq,Addr.mk.injEq]at h;omega
     walk_nrm;exact hgo _ _ ⟨true,true,true,true,true,_,_,_,_,rfl,rfl,i0,i1,λ_=>rfl,λ_=>⟨rfl,rfl,rfl,rfl⟩,λ_=>rfl,rfl⟩
   . omega
 . rintro Sb a w' ⟨s0,s1,s2,s3,s4,x22,x23,x24,x25,rfl,rfl,i0,i1,i2,i3,i4,rfl⟩ zh
   have e0:s0=true:=by
    cases s0 with
    |true=>rfl
    |false=>exact absurd zh (List.ne_nil_of_mem (mem_ready.2 ⟨rfl,_,rfl,λe he=>by simp at he⟩:0∈_))
   have e1:s1=true:=by
    cases s1 with
    |true=>rfl
    |false=>exact absurd zh (List.ne_nil_of_mem (mem_ready.2 ⟨rfl,_,rfl,λe he=>by simp at he⟩:1∈_))
   have e2:s2=true:=by
    cases s2 with
    |true=>rfl
    |false=>exact absurd zh (List.ne_nil_of_mem (mem_ready.2 ⟨rfl,_,rfl,λe he=>by simp at he⟩:2∈_))
   subst e0 e1 e2
   have e3:s3=true:=by
    cases s3 with
    |true=>rfl
    | false=>exact absurd zh (List.ne_nil_of_mem (mem_ready.2 ⟨rfl,_,rfl,fun e he _=>by
        simp at he;rcases he with rfl|rfl|rfl|rfl|rfl<;>rfl⟩:3∈_))
   subst e3
   have e4:s4=true:=by
    cases s4 with
    |true=>rfl
    | false=>exact absurd zh (List.ne_nil_of_mem (mem_ready.2 ⟨rfl,_,rfl,fun e he _=>by
        simp at he;rcases he with rfl|rfl|rfl|rfl|rfl<;>rfl⟩:4∈_))
   subst e4;obtain rfl:=i0 rfl;obtain rfl:=i1 rfl;obtain rfl:=i2 rfl;obtain⟨-,-,-,rfl⟩:=i3 rfl;clear i0 i1 i2 i3 i4 zh ym hu1 hu2 u ks' nst;simp only[if_true,qjx];have C3:zD m0 N K fl (w2.alloc (.chan 0 #[] false 0 0 false)):=C2.same (λr h1 h2=>ks r (by omega));have kb3:=(ks (m0+6+2*K) (by omega)).trans kb;have qeP:=(ks (m0+2) (by omega)).trans ra1;have hM3:jP m0 K M3:=hM1.le le3 (λh=>hM1.n4 (p3 _ h)) (λj hj h=>hM1.nc j hj (p3 _ h));have zb3:=le3.z _ zb1;clear ks hM1;generalize w2.alloc (.chan 0 #[] false 0 0 false)=w3 at S3 C3 kb3 qeP kc |-;have S4:=S3.set (a:=⟨m0+2,K,none⟩) hM3.z2 (by show m0<=m0+2;omega) (.chan (some (m0+6+2*K+1)));have kso:=qdl w3 ⟨m0+2,K,none⟩ (.chan (some (m0+6+2*K+1)));have ra4:=qlC (v:=.chan (some (m0+6+2*K+1))) (i:=K) qeP;have kb4:=(kso (m0+6+2*K) (by show m0+6+2*K≠m0+2;omega)).trans kb3;have kc4:=(kso (m0+6+2*K+1) (by show m0+6+2*K+1≠m0+2;omega)).trans kc
   have C4:zD m0 N K fl (w3.setCell ⟨m0+2,K,none⟩ (.chan (some (m0+6+2*K+1)))):=by
    obtain⟨h1,h2,h3,h4,h5,h6,h7,h8⟩:=C3;refine⟨?_,(kso (m0+1) (by show m0+1≠m0+2;omega)).trans h2,⟨_,ra4,by simpa using ra2,λj hj=>?_⟩,?_,?_,?_,λj hj=>(kso _ (by show m0+6+2*j≠m0+2;omega)).trans (h7 j hj),λj hj=>?_⟩
    . rw[kso m0 (by show m0≠m0+2;omega)];exact h1
    . rw[Array.getElem?_setIfInBounds_ne (by omega)];exact ra3 j hj
    . rw[kso (m0+3) (by show m0+3≠m0+2;omega)];exact h4
    . rw[kso (m0+4) (by show m0+4≠m0+2;omega)];exact h5
    . rw[kso (m0+5) (by show m0+5≠m0+2;omega)];exact h6
    . rw[kso (m0+7+2*j) (by show m0+7+2*j≠m0+2;omega)];exact h8 j hj
   have raK:(arr.setIfInBounds K (.chan (some (m0+6+2*K+1))))[K]?=some (.chan (some (m0+6+2*K+1))):=by rw[Array.getElem?_setIfInBounds_self_of_lt (by omega)]
   clear kso kb3 kc C3 qeP S3;generalize w3.setCell ⟨m0+2,K,none⟩ (.chan (some (m0+6+2*K+1)))=w4 at S4 C4 ra4 kb4 kc4 |-;refine qan ?_;refine qao ?_;refine qau ?_;simp only[List.size_toArray,List.length_cons,List.length_nil,Nat.zero_add,List.range,List.range.loop];refine qho (fn:=addFn wgL) (c:=body_add wgL) rfl rfl (by decide) rfl xF.f_add (nm_add wgL) rfl ?_;walk_nrmf addFn;refine q9n xF (λh=>?_) (λb hb h=>?_) (v:=K) (by omega) C4.wg ?_
   . rcases R.stw h with e|e|⟨j,hj,e|e⟩<;>omega
   . rcases h with h|h|h|⟨j,hj,h|h⟩
     . exact nfz _ (by rw[hb];omega) h
     . simp only[Loc.cell.injEq]at h;subst h;simp at hb
     . simp only[Loc.cell.injEq]at h;subst h;simp at hb
     . simp only[Loc.cell.injEq]at h;subst h;simp only at hb;omega
     . simp only[Loc.cell.injEq]at h;subst h;simp at hb
   walk_nrm;refine qan ?_;refine qau ?_;simp only[List.size_toArray,List.length_cons,List.length_nil,Nat.reduceAdd,Nat.zero_add,List.range,List.range.loop];have S5:=S4.set (a:=stA (m0+1)) hM3.z1 (by show m0<=m0+1;omega) (.int .u64 (((K:Int)+1)*KK));have wg5:=C4.wg.setSt (((K:Int)+1)*KK);have kso:=qdl w4 (stA (m0+1)) (.int .u64 (((K:Int)+1)*KK));have e7:m0+6+2*K+1=m0+7+2*K:=by omega
   have eK:((K+1:Nat):Int)=(K:Int)+1:=by omega
   have C5:zD m0 N (K+1) fl (w4.setCell (stA (m0+1)) (.int .u64 (((K:Int)+1)*KK))):=by
    obtain⟨h1,h2,h3,h4,h5,h6,h7,h8⟩:=C4;refine⟨?_,by rw[eK];exact wg5,⟨_,(kso (m0+2) (by show m0+2≠m0+1;omega)).trans ra4,by simpa using ra2,λj hj=>?_⟩,?_,?_,?_,λj hj=>?_,λj hj=>?_⟩
    . rw[kso m0 (by show m0≠m0+1;omega)];exact h1
    . by_cases e:j=K
      . subst e;rw[<-e7];exact raK
      . rw[Array.getElem?_setIfInBounds_ne (λx=>e x.symm)];exact ra3 j (by omega)
    . rw[kso (m0+3) (by show m0+3≠m0+1;omega)];exact h4
    . rw[kso (m0+4) (by show m0+4≠m0+1;omega)];exact h5
    . rw[kso (m0+5) (by show m0+5≠m0+1;omega)];exact h6
    . rw[kso (m0+6+2*j) (by show m0+6+2*j≠m0+1;omega)];by_cases e:j=K
      . subst e;exact kb4
      . exact h7 j (by omega)
    . rw[kso (m0+7+2*j) (by show m0+7+2*j≠m0+1;omega)];by_cases e:j=K
      . subst e;rw[<-e7];exact⟨0,kc4⟩
      . exact h8 j (by omega)
   have hM5:jP m0 (K+1) M3:=⟨hM3.z0,hM3.z1,hM3.z2,hM3.z3,hM3.c4,hM3.z5,λj hj=>by
    by_cases e:j=K
    . subst e;exact zb3
    . exact hM3.zb j (by omega),λj hj=>by
    by_cases e:j=K
    . subst e;rw[<-e7];exact cc3
    . exact hM3.cc j (by omega),hM3.n4,λj hj=>by
    by_cases e:j=K
    . subst e;rw[<-e7];exact n3
    . exact hM3.nc j (by omega)⟩
   clear kso wg5 C4 S4 hM3 ra4 kb4 kc4 raK zb3 cc3 n3;generalize w4.setCell (stA (m0+1)) (.int .u64 (((K:Int)+1)*KK))=w5 at S5 C5 |-;refine qa2 (.func (.func 69) #[] (qeM (m0+1) (m0+3) (m0+6+2*K) m0 (m0+5))) rfl rfl (by decide) (λw=>by go_simp;rfl) (λw=>by simp[go_sem]) ?_;walk_nrm
   have hL5:jv T (n0+K) 0 w5:=λi s h1 _ h3=>by
    obtain⟨j,hj,rfl,hsj⟩:=R.seat h1 h3;rw[(qfa hsj).2.1];exact C5.yE (by omega)
   have hch:=C5.ch K (by omega);obtain⟨κ,hκ⟩:=hch;refine qrc (Sh':=qcx m0 Sh) (Fz':=qdc m0 (K+1) Fz) (λr h=>h) (λr h=>.inl h) (λl h=>?_) ?_
   . rcases h with h|h|h|⟨j,hj,h⟩
     . exact .inl h
     . exact .inr (.inl h)
     . exact .inr (.inr (.inl h))
     . exact .inr (.inr (.inr ⟨j,by omega,h⟩))
   refine q7d (d:=q94 (m0+1) (m0+3) (m0+6+2*K) m0 (m0+5)) rfl rfl (by decide) (λw=>?_) (λw=>?_) rfl hL5 (C5.yE (j:=K) (by omega)) hκ (λi s' h1 _ h3=>?_) (qkX (ch:=m0+7+2*K) hK) (λl hl=>?_) ?_
   . simp[go_sem,execOp,q94,resolve,Deferred.ofValue]
   . simp[go_sem,execOp,resolve,Deferred.ofValue]
   . obtain⟨j,hj,rfl,hsj⟩:=R.seat h1 h3;rw[(qfa hsj).1];show m0+7+2*j≠m0+7+2*K;omega
   . obtain⟨x,hx,rfl⟩:=hl;change x∈qqr m0 K N at hx;simp only[qqr,qil,List.mem_cons,List.not_mem_nil,or_false]at hx;rcases hx with rfl|rfl|rfl
     . exact⟨.inr (.inl rfl),nsh _ (by show m0<=m0+3;omega) (by show m0+3≠m0+1;omega)⟩
     . exact⟨.inr (.inr (.inr ⟨K,by omega,.inl rfl⟩)),nsh _ (by show m0<=m0+6+2*K;omega) (by show m0+6+2*K≠m0+1;omega)⟩
     . exact⟨.inr (.inr (.inr ⟨K,by omega,.inr rfl⟩)),nsh _ (by show m0<=m0+2;omega) (by show m0+2≠m0+1;omega)⟩
   walk_nrm;have R':=R.next (s:=qjz (qqr m0 K N) (m0+1) (m0+3) (m0+6+2*K) m0 (m0+5) (m0+7+2*K) undef (.slice (some ⟨m0+2,0,none⟩) N N) (.int .i64 K) (.pointer (some ⟨m0+2,K,none⟩)) undef undef undef undef undef undef undef undef) ⟨_,_,_,_,_,_,_,_,_,_,_,_,rfl⟩;refine qan ?_;refine qo3 ?_;refine qau ?_;simp only[List.size_toArray,List.length_cons,List.length_nil,Nat.reduceAdd,Nat.zero_add,List.range,List.range.loop];refine qa2 (.int .i64 ((K+1:Nat):Int)) rfl rfl (by decide) (λw=>by go_simp) (λw=>by simp[go_sem]) ?_;walk_nrm;refine qa2 (.int .i64 ((K+1:Nat):Int)) rfl rfl (by decide) (λw=>by go_simp) (λw=>by simp[go_sem]) ?_;walk_nrm;refine qan ?_
   have S6:zE gr M m0 D w₀ w5 z3 M3 (m0+6+2*(K+1)):=by
    rw[show m0+6+2*(K+1)=m0+6+2*K+1+1 from by omega];exact S5
   exact next _ _ _ _ _ S6 C5 hM5 R' ⟨rfl,rfl,rfl,rfl,rfl,rfl,rfl,rfl⟩ rfl rfl
end
end
section
open Go.Conc Go.RowKit Go.Conc.Lib Go.ConcR.Gen
open Go.ConcR (KK WgAt stA smA Payload)
section
variable {gr:Grd}{M:Mks gr.base}{Post:Value->World->Prop}{Sh:Nat->Prop}{Fz:Loc->Prop}{n0 m0 N fl:Nat}{csv:Value}{D:World->Prop}{w₀:World}{cs:List Frame}{kk:List Item}
theorem qwh(hD:∀x o,D x->D (x.alloc o))(O:zx (gr.base.pen M) Sh Fz)(hm0:M.N<=m0)(hN:N<=4)
   (next:∀tm T w z M1,zE gr M m0 D w₀ w z M1 (m0+6+2*N)->zD m0 N N fl w->jP m0 N M1->jQ m0 N n0 N T->jM m0 N fl csv tm->qc prog Post (qcx m0 Sh) (qdc m0 N Fz) T (n0+N) 0 0 (G ((base 43).at ⟨tm,[]⟩ kk) cs) w) :
   ∀r K tm T w z M1,K+r=N->zE gr M m0 D w₀ w z M1 (m0+6+2*K)->zD m0 N K fl w->jP m0 K M1->jQ m0 N n0 K T->jM m0 N fl csv tm->tm[18]?=some (.int .i64 N)->tm[19]?=some (.int .i64 K) ->
    qc prog Post (qcx m0 Sh) (qdc m0 K Fz) T (n0+K) 0 0 (G ((base 43).at ⟨tm,[]⟩ (.code qfo::.inLoop qfo::.inBlock 0::kk)) cs) w:=by
 intro r
 induction r with
 |zero=>
  intro K tm T w z M1 hK S C hM R hs h18 h19;obtain rfl:K=N:=by omega
  obtain⟨v0,v1,v2,v3,v4,v5,v6,v7,v8,v9,v10,v11,v12,v13,v14,v15,v16,v17,v18,v19,v20,v21,v22,v23,v24,v25,v26,v27,v28,v29,v30,v31,v32,v33,v34,v35,v36,v37,v38,v39,v40,v41,v42,v43,v44,v45,v46,v47,v48,v49,v50,v51,v52,v53,v54,rfl⟩:=qj0 tm hs.size;have s0:=hs.s0;have s1:=hs.s1;have s2:=hs.s2;have s3:=hs.s3;have s6:=hs.s6;have s7:=hs.s7;have s8:=hs.s8;simp only[List.getElem?_toArray,List.getElem?_cons_zero,List.getElem?_cons_succ,Option.some.injEq]at s0 s1 s2 s3 s6 s7 s8 h18 h19;replace s2:=s2.symm;subst s0 s1 s2 s3 s6 s7 s8 h18 h19;clear hs;have qaR:decide ((K:Int)<(K:Int))=false:=by simp
  generalize hl:qfo=lp;simp only[<-hl,qfo,qjw,qiq,f43,Option.getD_some];refine qao ?_;refine qau ?_;simp only[List.size_toArray,List.length_cons,List.length_nil,Nat.zero_add,List.range,List.range.loop];refine qa2 (.bool false) rfl rfl (by decide) (λw=>by go_simp) (λw=>by simp[go_sem]) ?_;walk_nrm;refine qan ?_;refine qao ?_;refine qiw (t:=false) rfl ?_;simp only[Bool.false_eq_true,if_false];refine qxr rfl ?_;exact next _ _ _ _ _ S C hM R ⟨rfl,rfl,rfl,rfl,rfl,rfl,rfl,rfl⟩
 |succ r ih=>
  intro K tm T w z M1 hK S C hM R hs h18 h19;refine q7e hD O hm0 hN (by omega) S C hM R hs h18 h19 (λtm' T' w' z' M2 S' C' hM' R' hs' qlD qlE=>?_);refine qsc ?_;exact ih (K+1) tm' T' w' z' M2 (by omega) S' C' hM' R' hs' qlD qlE
theorem q33(hD:∀x o,D x->D (x.alloc o))(O:zx (gr.base.pen M) Sh Fz)(hm0:M.N<=m0)(hN:N<=4){tm:Array Value}{T:Nat->qA}{w z:World}{M1:Mks gr.base}(S:zE gr M m0 D w₀ w z M1 (m0+6))(C:zD m0 N 0 fl w)(hM:jP m0 0 M1)(hT:∀i,i≠0->T i=.left)(hn0:0<n0)
   (hs:jM m0 N fl csv tm)
   (next:∀tm T w z M1,zE gr M m0 D w₀ w z M1 (m0+6+2*N)->zD m0 N N fl w->jP m0 N M1->jQ m0 N n0 N T->jM m0 N fl csv tm->qc prog Post (qcx m0 Sh) (qdc m0 N Fz) T (n0+N) 0 0 (G ((base 43).at ⟨tm,[]⟩ [.code qib]) cs) w) :
   qc prog Post (qcx m0 Sh) (qdc m0 0 Fz) T n0 0 0 (G ((base 43).at ⟨tm,[]⟩ [.code qjw]) cs) w:=by
 obtain⟨v0,v1,v2,v3,v4,v5,v6,v7,v8,v9,v10,v11,v12,v13,v14,v15,v16,v17,v18,v19,v20,v21,v22,v23,v24,v25,v26,v27,v28,v29,v30,v31,v32,v33,v34,v35,v36,v37,v38,v39,v40,v41,v42,v43,v44,v45,v46,v47,v48,v49,v50,v51,v52,v53,v54,rfl⟩:=qj0 tm hs.size;have s0:=hs.s0;have s1:=hs.s1;have s2:=hs.s2;have s3:=hs.s3;have s6:=hs.s6;have s7:=hs.s7;have s8:=hs.s8;simp only[List.getElem?_toArray,List.getElem?_cons_zero,List.getElem?_cons_succ,Option.some.injEq]at s0 s1 s2 s3 s6 s7 s8;replace s2:=s2.symm;subst s0 s1 s2 s3 s6 s7 s8;clear hs;obtain⟨lt1,lt2⟩:=O.lt
 have nsh:¬qcx m0 Sh (m0+3):=λh=>by
  rcases h with h|h
  . have:=lt1 _ h;omega
  . omega
 obtain⟨ecb,kcb⟩:=C.cb;have hcb:=(qk3 kcb).1;have e0:qjw=.seq (.seq (match qjw with | .seq (.seq x _) _=>x|_=>.skip) (.block 0 (.loop qfo))) qib:=rfl;rw[e0];clear e0
 have hk:∀(tm':Array Value),jM m0 N fl csv tm'->tm'[18]?=some (.int .i64 N)->tm'[19]?=some (.int .i64 (0:Nat))->qc prog Post (qcx m0 Sh) (qdc m0 0 Fz) T n0 0 0 (G ((base 43).at ⟨tm',[]⟩ [.code qfo,.inLoop qfo,.inBlock 0,.code qib]) cs) w:=λtm' h1 h2 h3=>
  qwh hD O hm0 hN next N 0 tm' T w z M1 (by omega) S C hM ⟨λi h _=>hT i h,λj hj=>absurd hj (Nat.not_lt_zero j),λi hi=>hT i (by omega)⟩ h1 h2 h3
 generalize qfo=lp at hk |-;generalize qib=r2 at hk |-;simp only[qjw,qiq,f43,Option.getD_some];refine qao ?_;refine qao ?_;refine qau ?_;simp only[List.size_toArray,List.length_cons,List.length_nil,Nat.reduceAdd,Nat.zero_add,List.range,List.range.loop];refine qew hcb nsh rfl rfl (by decide) (λw h=>by go_simp) (λw h=>by simp[go_sem,h]) ?_;walk_nrm;refine qa2 (.int .i64 N) rfl rfl (by decide) (λw=>by go_simp) (λw=>by simp[go_sem]) ?_;walk_nrm;refine qa2 (.int .i64 (0:Nat)) rfl rfl (by decide) (λw=>by go_simp) (λw=>by simp[go_sem]) ?_;walk_nrm;refine qan ?_;refine qgb ?_;refine qrb ?_;exact hk _ ⟨rfl,rfl,rfl,rfl,rfl,rfl,rfl,rfl⟩ rfl rfl
end
end
section
open Go.Conc Go.RowKit Go.Conc.Lib Go.ConcR.Gen
open Go.ConcR (KK WgAt stA smA Payload)
open Go.ConcN (upd upd_ne upd_same)
structure Task(gr:Grd)(m0 N fl:Nat)(csv:Value)(chs:List Nat){α:Type}(step:α->Nat->α)(D L:α->World->Prop):Prop where
 alloc:∀c x o,D c x->D c (x.alloc o)
 qeQ:∀c x y,x.heap=y.heap->D c x->D c y
 chan:∀c x r κ κ' b,m0<=r->D c x->x.heap[r]?=some (.chan 0 #[] false κ κ false)->D c (x.setChan r 0 #[] b κ' κ' false)
 lock:∀c x,D c x->x.cell? ⟨fl,0,none⟩=some (.int .i32 0)
 heap:∀c x y,x.heap=y.heap->L c x->L c y
 held:∀c x,L c x->x.cell? ⟨fl,0,none⟩=some (.int .i32 1)
 free:∀c x,L c x->D c (x.setCell ⟨fl,0,none⟩ (.int .i32 0))
 turn:∀c x j,j<N->D c x->∀d t,qz.wp prog (λe _ y=>e=.normal/\L (step c j) y) ⟨qgx fl j,[]⟩ (re ((x.setCell ⟨fl,0,none⟩ (.int .i32 1)).at d) t 0)
 floor:gr.A ⟨fl,0,none⟩
 form:∃A cap,csv=.slice A chs.length cap
 choice:∀i (h:i<chs.length),∃ca:Addr,gr.A ca/\(∀c x,D c x->x.cell? ca=some (.int .i64 chs[i]))/\∃a0,(∃cap,csv=.slice (some a0) chs.length cap)/\a0.add i=ca
 small:∀i (h:i<chs.length),chs[i]<9223372036854775808
noncomputable def qc2:Code:=match qib with | .seq (.seq _ (.block _ (.loop c))) _=>c|_=>.skip
noncomputable def qtw:Code:=match qib with | .seq _ c=>c|_=>.skip
noncomputable def qzl:Array Oper:=match qc2 with | .seq _ (.seq _ (.seq (.block _ (.seq _ (.seq _ (.region _ ops _)))) _))=>ops|_=>#[]
noncomputable def q9s:Code:=match qc2 with | .seq _ (.seq _ (.seq _ c))=>c|_=>.skip
def qfg(m0 N fl len i x:Nat)(csv:Value)(ca:Addr)(x36 x37 x38 x39 x40 x41 x42 x43 v4 v5 v9 v12 v13 v14 v15 v16 v17 v18 v19 v20 v21 v22 v23 v24 v25 v26 v27 v28 v44 v45 v46 v47 v48 v49 v50 v51 v52 v53 v54:Value):Array Value:=
 #[.pointer (some ⟨fl,0,none⟩),.int .i64 N,csv,.pointer (some ⟨m0,0,none⟩),v4,v5,.pointer (some ⟨m0+1,0,none⟩),.pointer (some ⟨m0+3,0,none⟩),.pointer (some ⟨m0+5,0,none⟩),v9,.int .i64 i,.int .i64 x,v12,v13,v14,v15,v16,v17,v18,v19,v20,v21,v22,v23,v24,v25,v26,v27,v28,csv,.int .i64 len,.int .i64 i,.bool true,.int .i64 i,.pointer (some ca),.int .i64 x,x36,x37,x38,x39,x40,x41,x42,x43,v44,v45,v46,v47,v48,v49,v50,v51,v52,v53,v54]
noncomputable def qog(m0:Nat)(ts:Array Value)(lp:Code)(kk:List Item)(cs:List Frame):zW where
 L:=[(⟨m0+5,0,none⟩,.chan (some (m0+4)))]
 fr:=(base 43).at ⟨ts,[]⟩ (.inRegion qzl [1]::.inBlock 3::.code q9s::.inLoop lp::.inBlock 2::kk)
 cs:=cs
 c:=m0+4
 z:=.int .i64 0
 ok:=false
theorem q7f{m0 N fl len i x:Nat}{csv:Value}{ca:Addr}{x36 x37 x38 x39 x40 x41 x42 v4 v5 v9 v12 v13 v14 v15 v16 v17 v18 v19 v20 v21 v22 v23 v24 v25 v26 v27 v28 v44 v45 v46 v47 v48 v49 v50 v51 v52 v53 v54:Value}{lp:Code}{kk:List Item}{cs:List Frame}{main:Bool} :
   qlf prog main (qog m0 (qfg m0 N fl len i x csv ca x36 x37 x38 x39 x40 x41 x42 (.chan (some (m0+4))) v4 v5 v9 v12 v13 v14 v15 v16 v17 v18 v19 v20 v21 v22 v23 v24 v25 v26 v27 v28 v44 v45 v46 v47 v48 v49 v50 v51 v52 v53 v54) lp kk cs):=by
 unfold qog;simp only[qfg,qzl,qc2,qib,qjw,qiq,f43,Option.getD_some];refine qwj (b:=base 43) (i:=1) rfl rfl rfl (by decide) (λw=>?_) (λw=>?_)
 . simp[go_sem,rcase]
 . simp[go_sem]
section
variable {gr:Grd}{M1:Mks gr.base}{S:List String}{Post:Value->World->Prop}{Sh:Nat->Prop}{Fz:Loc->Prop}{T:Nat->qA}{n0 m0 N fl:Nat}{csv:Value}{chs:List Nat}{α:Type}{step:α->Nat->α}{D L:α->World->Prop}{w z:World}{cs:List Frame}{kk:List Item}{lp:Code}
theorem q14(W:Task gr m0 N fl csv chs step D L)(H:zw (gr.base.pen M1) S)(zF:qf4 (gr.base.pen M1) S (gr.X 71) qz)(hb:Both (gr.base.pen M1) w z){c:α}(hz:D c z)(C:zD m0 N N fl w)(hM:jP m0 N M1)(O:zx (gr.base.pen M1) Sh Fz)
   (lt1:∀r,Sh r->r<m0) (hN0:gr.N0<=m0) (hn0:0<n0) (R:jQ m0 N n0 N T) {j:Nat} (hj:j<N) {s:zW} (hs:xG m0 j N s) (hT:T (n0+j)=.seat s) {ts:Array Value} {call:Int}
   (next:∀T' w' z',Both (gr.base.pen M1) w' z'->D (step c j) z'->zD m0 N N fl w'->jQ m0 N n0 N T'->qn (gr.base.pen M1) (λr=>m0<=r) w w' ->
    qc prog Post (qcx m0 Sh) (qdc m0 N Fz) T' (n0+N) 0 0 (Go.Conc.served (G (qog m0 ts lp kk cs).fr (qog m0 ts lp kk cs).cs) (recvd false (.int .i64 call) true)) w') :
   qc prog Post (qcx m0 Sh) (qdc m0 N Fz) (upd T 0 (.seat (qog m0 ts lp kk cs))) (n0+N) (n0+j) 0 (Go.Conc.served (G s.fr s.cs) (recvd s.ok (.int .i64 call) true)) w:=by
 have nsh:∀r,m0<=r->r≠m0+1->¬qcx m0 Sh r:=λr hr hne h=>by
  rcases h with h|h
  . have:=lt1 r h;omega
  . exact hne h
 have O1:=hM.out R O;obtain⟨e1,e2,e3,e4,e5⟩:=qfa hs;obtain⟨ef,kf⟩:=C.fb;obtain⟨ea,ka⟩:=C.ab;have kbx:=C.bx j hj;obtain⟨κ,hκ⟩:=C.ac
 have hL0:jv (upd T 0 (.seat (qog m0 ts lp kk cs))) (n0+N) (n0+j) w:=λi s' h1 h2 h3=>by
  by_cases hi:i=0
  . subst hi;rw[upd_same]at h3;cases h3;intro x hx;simp only[qog,List.mem_cons,List.not_mem_nil,or_false]at hx;subst hx;exact(qk3 ka).1
  . rw[upd_ne T _ hi]at h3;exact C.hold R i s' hi h2 h3
 have O2:Outside (gr.base.pen M1) (qcx m0 Sh) (qdc m0 N Fz) (upd T 0 (.seat (qog m0 ts lp kk cs))) (n0+N) (n0+j):=by
  refine⟨λi s' h1 h2 h3=>?_,O1.xE,O1.still⟩;by_cases hi:i=0
  . subst hi;rw[upd_same]at h3;cases h3;refine⟨.inr hM.c4,λx hx=>.inr ?_⟩;simp only[qog,List.mem_cons,List.not_mem_nil,or_false]at hx;subst hx;exact hM.z5
  . rw[upd_ne T _ hi]at h3;exact O1.seat i s' hi h2 h3
 refine q7m H zF hb O2 hL0 W.floor (W.lock c z hz) (W.heap (step c j)) (W.held (step c j)) (W.turn c z j hj hz) hs (by omega) (by omega) (upd_same ..) rfl (qk3 kf).1 (qk3 kbx).1 (qk3 ka).1 hM.z5 (nsh m0 (by omega) (by omega)) (nsh _ (by omega) (by omega)) (nsh _ (by omega) (by omega)) hκ hM.c4 hM.n4 (gr.fresh _ (by show gr.N0<=m0+4;omega))
  (C.yE hj) (C.ch j hj) (hM.cc j hj) (by show m0+7+2*j≠m0+4;omega) (λi s' h1 h2 h3 h4=>?_) (λl hl=>?_) (λx hx=>?_) ?_
 . rw[upd_ne T _ h2]at h4;obtain⟨j',hj',rfl,hs'⟩:=R.seat h2 h4;rw[(qfa hs').1];omega
 . obtain⟨x,hx,rfl⟩:=hl;simp only[qqr,qil,List.mem_cons,List.not_mem_nil,or_false]at hx;rcases hx with rfl|rfl|rfl
   . exact⟨.inr (.inl rfl),nsh _ (by show m0<=m0+3;omega) (by show m0+3≠m0+1;omega)⟩
   . exact⟨.inr (.inr (.inr ⟨j,hj,.inl rfl⟩)),nsh _ (by show m0<=m0+6+2*j;omega) (by show m0+6+2*j≠m0+1;omega)⟩
   . exact⟨.inr (.inr (.inr ⟨j,hj,.inr rfl⟩)),nsh _ (by show m0<=m0+2;omega) (by show m0+2≠m0+1;omega)⟩
 . simp only[qqr,qil,List.mem_cons,List.not_mem_nil,or_false]at hx;rcases hx with rfl|rfl|rfl
   . exact hM.z3
   . exact hM.zb j hj
   . exact hM.z2
 . intro s' w' z' hs' hL' hb' hh' qlF hz4;refine next _ w' _ hb' (W.chan _ _ _ _ _ _ (by show m0<=m0+4;omega) (W.free _ _ hL') hz4) (C.held hM hh' (λr hr=>.inl hr) ⟨_,qlF⟩ (λi hi=>?_)) ⟨λi h1 h2=>?_,λi hi=>?_,λi hi=>?_⟩ (hh'.mono (λr hr=>by show m0<=r;rw[hr];show m0<=m0+4;omega))
   . obtain⟨κ',hκ'⟩:=C.ch i hi;exact⟨κ',(hh'.block _ (λe:m0+7+2*i=m0+4=>by omega) (.inr (.inr (hM.cc i hi)))).trans hκ'⟩
   . rw[upd_ne _ _ (by omega),upd_ne T _ h1];exact R.old i h1 h2
   . by_cases e:i=j
     . subst e;exact⟨s',hs',upd_same ..⟩
     . rw[upd_ne _ _ (by omega),upd_ne T _ (by omega)];exact R.work i hi
   . rw[upd_ne _ _ (by omega),upd_ne T _ (by omega)];exact R.out i hi
end
theorem q9t{b:Frame}{a:Act}{k:List Item}{cs:List Frame}{ops:Array Oper}{i:Nat}{rest:List Nat}{v:Value} :
   Go.Conc.served (G (b.at a (.inRegion ops (i::rest)::k)) cs) v=G (b.at (a.put ((ops[i]?).bind (·.dst)) v) (.inRegion ops rest::k)) cs:=by
 have:=Frame.finish_at (b:=b) (a:=a) (ops:=ops) (i:=i) (rest:=rest) (k:=k) (v:=v);unfold Go.Conc.served G;dsimp only;rw[this]
section
variable {gr:Grd}{M1:Mks gr.base}{S:List String}{Post:Value->World->Prop}{Sh:Nat->Prop}{Fz:Loc->Prop}{T:Nat->qA}{n0 m0 N fl:Nat}{csv:Value}{chs:List Nat}{α:Type}{step:α->Nat->α}{D L:α->World->Prop}{w z:World}{cs:List Frame}{kk:List Item}{lp:Code}
theorem q34(W:Task gr m0 N fl csv chs step D L)(H:zw (gr.base.pen M1) S)(zF:qf4 (gr.base.pen M1) S (gr.X 71) qz)(hb:Both (gr.base.pen M1) w z){c:α}(hz:D c z)(C:zD m0 N N fl w)(hM:jP m0 N M1)(O:zx (gr.base.pen M1) Sh Fz)
   (lt1:∀r,Sh r->r<m0) (hN0:gr.N0<=m0) (hn0:0<n0) (hN1:1<=N) (R:jQ m0 N n0 N T) {tm:Array Value} (hs:jM m0 N fl csv tm) (h29:tm[29]?=some csv) (h30:tm[30]?=some (.int .i64 (chs.length:Nat))) {i:Nat} (h31:tm[31]?=some (.int .i64 i)) (hi:i<chs.length)
   (hlen:chs.length<1000000)
   (next:∀tm' T' w' z',Both (gr.base.pen M1) w' z'->D (step c (chs[i]%N)) z'->zD m0 N N fl w'->jQ m0 N n0 N T'->qn (gr.base.pen M1) (λr=>m0<=r) w w'->jM m0 N fl csv tm'->tm'[29]?=some csv->tm'[30]?=some (.int .i64 (chs.length:Nat))->tm'[31]?=some (.int .i64 ((i+1:Nat):Int)) ->
    qc prog Post (qcx m0 Sh) (qdc m0 N Fz) T' (n0+N) 0 0 (G ((base 43).at ⟨tm',[]⟩ (.inLoop lp::.inBlock 2::kk)) cs) w') :
   qc prog Post (qcx m0 Sh) (qdc m0 N Fz) T (n0+N) 0 0 (G ((base 43).at ⟨tm,[]⟩ (.code qc2::.inLoop lp::.inBlock 2::kk)) cs) w:=by
 obtain⟨v0,v1,v2,v3,v4,v5,v6,v7,v8,v9,v10,v11,v12,v13,v14,v15,v16,v17,v18,v19,v20,v21,v22,v23,v24,v25,v26,v27,v28,v29,v30,v31,v32,v33,v34,v35,v36,v37,v38,v39,v40,v41,v42,v43,v44,v45,v46,v47,v48,v49,v50,v51,v52,v53,v54,rfl⟩:=qj0 tm hs.size;have s0:=hs.s0;have s1:=hs.s1;have s2:=hs.s2;have s3:=hs.s3;have s6:=hs.s6;have s7:=hs.s7;have s8:=hs.s8;simp only[List.getElem?_toArray,List.getElem?_cons_zero,List.getElem?_cons_succ,Option.some.injEq]at s0 s1 s2 s3 s6 s7 s8 h29 h30 h31;replace s2:=s2.symm;subst s0 s1 s2 s3 s6 s7 s8 h30 h31;replace h29:=h29.symm;subst h29;clear hs;obtain⟨ca,qhF,qdD,a0,⟨cap,qbM⟩,hadd⟩:=W.choice i hi;have hca:=(hb.cell qhF (qdD c z hz)).1;have hxs:=W.small i hi
 have nsh:∀r,m0<=r->r≠m0+1->¬qcx m0 Sh r:=λr hr hne h=>by
  rcases h with h|h
  . have:=lt1 r h;omega
  . exact hne h
 have qbN:¬qcx m0 Sh ca.block:=λh=>by
  rcases h with h|h
  . rcases O.xE _ h with k|k
    . exact k ⟨ca,qhF,rfl⟩
    . exact(ordinary hb (qdD c z hz)).1 k
  . exact(ordinary hb (qdD c z hz)).1 (by rw[h];exact hM.z1)
 have qaR:decide ((i:Int)<((chs.length:Nat):Int))=true:=by simp;omega
 have hi0:(0:Int)<=(i:Int):=by omega
 have hi1:(i:Int)<((chs.length:Nat):Int):=by omega
 have qeR:IntKind.i64.wrap ((i:Int)+1)=((i+1:Nat):Int):=by rw[IntKind.wrap_i64];omega
 obtain⟨x,hx⟩:∃x,x=chs[i]:=⟨_,rfl⟩;rw[<-hx]at hca hxs next;have hcell:=hca;generalize hl:q9s=nx;have hcs:csv=.slice (some a0) chs.length cap:=qbM;have e0:qc2=.seq (match qc2 with | .seq x _=>x|_=>.skip) (.seq (match qc2 with | .seq _ (.seq x _)=>x|_=>.skip) (.seq (match qc2 with | .seq _ (.seq _ (.seq x _))=>x|_=>.skip) q9s)):=rfl;rw[e0,hl];clear e0;simp only[qc2,qib,qjw,qiq,f43,Option.getD_some];refine qao ?_;refine qau ?_;simp only[List.size_toArray,List.length_cons,List.length_nil,Nat.zero_add,List.range,List.range.loop];refine qa2 (.bool true) rfl rfl (by decide) (λw=>by go_simp) (λw=>by simp[go_sem]) ?_;walk_nrm;refine qan ?_;refine qao ?_;refine qiw (t:=true) rfl ?_;simp only[if_true];refine qra ?_;refine qao ?_;refine qgb ?_;refine qao ?_;refine qau ?_;simp only[List.size_toArray,List.length_cons,List.length_nil,Nat.reduceAdd,Nat.zero_add,List.range,List.range.loop];refine qa2 (.int .i64 i) rfl rfl (by decide) (λw=>by go_simp) (λw=>by simp[go_sem]) ?_;walk_nrm;refine qa2 (.pointer (some ca)) rfl rfl (by decide) (λw=>?_) (λw=>?_) ?_
 . rw[hcs,<-hadd]
   go_simp
 . rw[hcs];simp[go_sem, *]
 walk_nrm;refine qew hcell qbN rfl rfl (by decide) (λw h=>by go_simp) (λw h=>by simp[go_sem,h]) ?_;walk_nrm;refine qa2 (.int .i64 i) rfl rfl (by decide) (λw=>by go_simp) (λw=>by simp[go_sem]) ?_;walk_nrm;refine qa2 (.int .i64 x) rfl rfl (by decide) (λw=>by go_simp) (λw=>by simp[go_sem]) ?_;walk_nrm;refine qan ?_;refine qao ?_;clear hcell hca qbN hadd qbM hcs hi0 hi1 qaR;obtain⟨j,hj⟩:∃j,j=x%N:=⟨_,rfl⟩;have hjN:j<N:=by rw[hj];exact Nat.mod_lt _ (by omega)
 have qsU:(x:Int).tmod (N:Int)=(j:Int):=by rw[hj,Int.tmod_eq_emod_of_nonneg (by omega)];exact(Int.natCast_emod x N).symm
 have hjx:j<=x:=by rw[hj];exact Nat.mod_le ..
 have hwrap:IntKind.i64.wrap (j:Int)=(j:Int):=by rw[IntKind.wrap_i64];omega
 have hNn:¬((N:Int)=0):=by omega
 have qsV:¬(N=0):=by omega
 have qsW:((N:Int)==0)=false:=by simp;omega
 have hj0:(0:Int)<=(j:Int):=by omega
 have hj1:(j:Int)<(N:Int):=by omega
 rw[<-hj]at next;clear hj hx qdD;obtain⟨ecb,kcb⟩:=C.cb;have hcb:=(qk3 kcb).1;obtain⟨arr,ra1,ra2,ra3⟩:=C.row;have hrow:w.cell? ⟨m0+2,j,none⟩=some (.chan (some (m0+7+2*j))):=by simp[cell?,ra1,ra3 j hjN]
 refine qx9 (I:=fun Sb a w'=>∃ s0 s1 s2 s3 s4 s5 s6 x36 x37 x38 x39 x40 x41 x42,Sb=#[s0,s1,s2,s3,s4,s5,s6,false]/\a=⟨qfg m0 N fl chs.length i x csv ca x36 x37 x38 x39 x40 x41 x42 v43 v4 v5 v9 v12 v13 v14 v15 v16 v17 v18 v19 v20 v21 v22 v23 v24 v25 v26 v27 v28 v44 v45 v46 v47 v48 v49 v50 v51 v52 v53 v54,[]⟩/\(s0=true->x36=.slice (some ⟨m0+2,0,none⟩) N N)/\(s1=true->x37=.int .i64 x)/\(s2=true->x38=.int .i64 N) /\
     (s3=true->s1=true/\s2=true/\x39=.int .i64 j)/\(s4=true->s0=true/\s3=true/\x40=.pointer (some ⟨m0+2,j,none⟩))/\(s5=true->s4=true/\x41=.chan (some (m0+7+2*j)))/\(s6=true->x42=.int .i64 i)/\w'=w)
  (by kernel_rfl) ⟨false,false,false,false,false,false,false,_,_,_,_,_,_,_,rfl,rfl,(λh=>by cases h),(λh=>by cases h),(λh=>by cases h),(λh=>by cases h),(λh=>by cases h),(λh=>by cases h),(λh=>by cases h),rfl⟩ ?_ ?_
 . rintro Sb a w' q rest ⟨s0,s1,s2,s3,s4,s5,s6,x36,x37,x38,x39,x40,x41,x42,rfl,rfl,i0,i1,i2,i3,i4,i5,i6,rfl⟩ hq hr hgo;obtain⟨hq0,o,ho,jY⟩:=mem_ready.1 hq
   have hq8:q<8:=by
    have:=(Array.getElem?_eq_some_iff.1 ho).1;simpa using this
   simp only[qfg]at hgo |-;rcases q with _|_|_|_|_|_|_|_|q
   . simp at hq0;subst hq0;obtain rfl:s4=false:=by cases s4 with|false=>rfl|true=>exact absurd (i4 rfl).1 (by simp)
     obtain rfl:s5=false:=by cases s5 with|false=>rfl|true=>exact absurd (i5 rfl).1 (by simp)
     refine qew hcb (nsh _ (by show m0<=m0+3;omega) (by show m0+3≠m0+1;omega)) rfl rfl (by decide) (λw h=>by go_simp) (λw h=>by simp[go_sem,h]) ?_;walk_nrm;exact hgo _ _ ⟨true,s1,s2,s3,false,false,s6,_,_,_,_,_,_,_,rfl,rfl,λ_=>rfl,i1,i2,i3,(λh=>by cases h),(λh=>by cases h),i6,rfl⟩
   . simp at hq0;subst hq0;obtain rfl:s3=false:=by cases s3 with|false=>rfl|true=>exact absurd (i3 rfl).1 (by simp)
     obtain rfl:s4=false:=by cases s4 with|false=>rfl|true=>exact absurd (i4 rfl).2.1 (by simp)
     obtain rfl:s5=false:=by cases s5 with|false=>rfl|true=>exact absurd (i5 rfl).1 (by simp)
     refine qa2 (.int .i64 x) rfl rfl (by decide) (λw=>by go_simp) (λw=>by simp[go_sem]) ?_;walk_nrm;exact hgo _ _ ⟨s0,true,s2,false,false,false,s6,_,_,_,_,_,_,_,rfl,rfl,i0,λ_=>rfl,i2,(λh=>by cases h),(λh=>by cases h),(λh=>by cases h),i6,rfl⟩
   . simp at hq0;subst hq0;obtain rfl:s3=false:=by cases s3 with|false=>rfl|true=>exact absurd (i3 rfl).2.1 (by simp)
     obtain rfl:s4=false:=by cases s4 with|false=>rfl|true=>exact absurd (i4 rfl).2.1 (by simp)
     obtain rfl:s5=false:=by cases s5 with|false=>rfl|true=>exact absurd (i5 rfl).1 (by simp)
     refine qa2 (.int .i64 N) rfl rfl (by decide) (λw=>by go_simp) (λw=>by simp[go_sem]) ?_;walk_nrm;exact hgo _ _ ⟨s0,s1,true,false,false,false,s6,_,_,_,_,_,_,_,rfl,rfl,i0,i1,λ_=>rfl,(λh=>by cases h),(λh=>by cases h),(λh=>by cases h),i6,rfl⟩
   . simp at hq0;subst hq0;obtain rfl:s4=false:=by cases s4 with|false=>rfl|true=>exact absurd (i4 rfl).2.1 (by simp)
     obtain rfl:s5=false:=by cases s5 with|false=>rfl|true=>exact absurd (i5 rfl).1 (by simp)
     obtain⟨rfl,rfl⟩:s1=true/\s2=true:=by
      simp at ho;subst ho;simp[Region.binds]at jY;exact jY
     obtain rfl:=i1 rfl;obtain rfl:=i2 rfl;refine qa2 (.int .i64 j) rfl rfl (by decide) (λw=>by go_simp) (λw=>by simp[go_sem, *]) ?_;walk_nrm;exact hgo _ _ ⟨s0,true,true,true,false,false,s6,_,_,_,_,_,_,_,rfl,rfl,i0,λ_=>rfl,λ_=>rfl,λ_=>⟨rfl,rfl,rfl⟩,(λh=>by cases h),(λh=>by cases h),i6,rfl⟩
   . simp at hq0;subst hq0;obtain rfl:s5=false:=by cases s5 with|false=>rfl|true=>exact absurd (i5 rfl).1 (by simp)
     obtain⟨rfl,rfl⟩:s0=true/\s3=true:=by
      simp at ho;subst ho;simp[Region.binds]at jY;exact jY
     obtain rfl:=i0 rfl;obtain⟨rfl,rfl,rfl⟩:=i3 rfl;refine qa2 (.pointer (some ⟨m0+2,j,none⟩)) rfl rfl (by decide) (λw=>by go_simp) (λw=>by simp[go_sem, *]) ?_;walk_nrm;exact hgo _ _ ⟨true,true,true,true,true,false,s6,_,_,_,_,_,_,_,rfl,rfl,λ_=>rfl,i1,i2,λ_=>⟨rfl,rfl,rfl⟩,λ_=>⟨rfl,rfl,rfl⟩,(λh=>by cases h),i6,rfl⟩
   . simp at hq0;subst hq0
     obtain rfl:s4=true:=by
      simp at ho;subst ho;simp[Region.binds]at jY;exact jY
     obtain⟨rfl,rfl,rfl⟩:=i4 rfl;obtain⟨rfl,rfl,rfl⟩:=i3 rfl;refine qew hrow (nsh _ (by show m0<=m0+2;omega) (by show m0+2≠m0+1;omega)) rfl rfl (by decide) (λw h=>by go_simp) (λw h=>by simp[go_sem,h]) ?_;walk_nrm;exact hgo _ _ ⟨true,true,true,true,true,true,s6,_,_,_,_,_,_,_,rfl,rfl,i0,i1,i2,λ_=>⟨rfl,rfl,rfl⟩,λ_=>⟨rfl,rfl,rfl⟩,λ_=>⟨rfl,rfl⟩,i6,rfl⟩
   . simp at hq0;subst hq0;refine qa2 (.int .i64 i) rfl rfl (by decide) (λw=>by go_simp) (λw=>by simp[go_sem]) ?_;walk_nrm;exact hgo _ _ ⟨s0,s1,s2,s3,s4,s5,true,_,_,_,_,_,_,_,rfl,rfl,i0,i1,i2,i3,i4,i5,λ_=>rfl,rfl⟩
   . clear hgo
     obtain⟨rfl,rfl⟩:s5=true/\s6=true:=by
      simp at ho;subst ho;simp[Region.binds]at jY;exact jY
     obtain⟨rfl,rfl⟩:=i5 rfl;obtain⟨rfl,rfl,rfl⟩:=i4 rfl;obtain⟨rfl,rfl,rfl⟩:=i3 rfl;obtain rfl:=i0 rfl;obtain rfl:=i1 rfl;obtain rfl:=i2 rfl;obtain rfl:=i6 rfl;obtain rfl:rest=[]:=hr (by rfl);clear i0 i1 i2 i3 i4 i5 i6 hr hq jY ho o hq0 hq8;obtain⟨s,hsj,hTj⟩:=R.work j hjN;obtain⟨κ,hκ⟩:=C.ch j hjN;obtain⟨κa,hκa⟩:=C.ac;obtain⟨eab,kab⟩:=C.ab;have hab:=(qk3 kab).1;have hCj:=hsj;obtain⟨y5,y6,y7,y8,y10,y11,y12,y13,y14,y15,y16,y17,rfl⟩:=hsj;subst hl;have qlG:z.heap[m0+7+2*j]?=some (.chan 0 #[] false κ κ false):=(hb.yl ⟨_,gr.fresh ⟨m0+7+2*j,0,none⟩ (by show gr.N0<=m0+7+2*j;omega),rfl⟩ (hM.nc j hjN)).trans hκ;refine qyc (k:=n0+j) (sh:=qog m0 (qfg m0 N fl chs.length i x csv ca (.slice (some ⟨m0+2,0,none⟩) N N) (.int .i64 x) (.int .i64 N) (.int .i64 j) (.pointer (some ⟨m0+2,j,none⟩)) (.chan (some (m0+7+2*j))) (.int .i64 i) (.chan (some (m0+4))) v4 v5 v9 v12 v13 v14 v15 v16 v17 v18 v19 v20 v21 v22 v23 v24 v25 v26 v27 v28 v44 v45 v46 v47 v48 v49 v50 v51 v52 v53 v54) lp kk cs) (mh:=4) (v:=.int .i64 i) (z:=undef) rfl (by omega) (by omega) hTj (κ:=κ) hκ (qyd rfl rfl (by decide) (λw=>by simp[go_sem,scase,qjz,undef]) (λw=>by simp[go_sem])) ?_ (λx hx=>?_) ⟨κa,hκa⟩ (by show m0+4≠m0+7+2*j;omega) (λi s' h1 h2 h3 h4=>?_) (λl hl=>?_) ?_
     . rw[q9t];walk_nrm;refine Way.ctl rfl (λ_=>stepG_region_end) ?_;refine Way.ctl rfl (λ_=>stepG_region) ?_;simp only[List.size_toArray,List.length_cons,List.length_nil,Nat.reduceAdd,Nat.zero_add,List.range,List.range.loop];refine Way.load (ad:=⟨m0+5,0,none⟩) (v:=.chan (some (m0+4))) (by simp[qog]) rfl rfl (by decide) (λw h=>by go_simp) (λw h=>by simp[go_sem,h]) ?_;walk_nrm;exact Way.here q7f rfl rfl
     . simp only[qog,List.mem_cons,List.not_mem_nil,or_false]at hx;subst hx;exact hab
     . obtain⟨j',hj',rfl,hs'⟩:=R.seat h1 h4;rw[(qfa hs').1];show m0+7+2*j'≠m0+4;omega
     . obtain⟨x,hx,rfl⟩:=hl;simp only[qog,List.mem_cons,List.not_mem_nil,or_false]at hx;subst hx;exact⟨.inr (.inr (.inl rfl)),nsh _ (by show m0<=m0+5;omega) (by show m0+5≠m0+1;omega)⟩
     . have hh1:=qn.chan (C:=gr.base.pen M1) (X:=λr=>r=m0+7+2*j) (w:=w') (c:=m0+7+2*j) rfl 0 #[] false (κ+1) (κ+1) false
       have C1:zD m0 N N fl (w'.setChan (m0+7+2*j) 0 #[] false (κ+1) (κ+1) false):=by
        refine C.held hM hh1 (λr hr=>.inr ⟨j,hjN,hr⟩) ⟨κa,?_⟩ (λq hq=>?_)
        . rw[qci,if_neg (by omega)];exact hκa
        . by_cases e:q=j
          . subst e;exact⟨κ+1,by rw[qci,if_pos rfl,if_pos (q98 hκ)]⟩
          . obtain⟨κq,hκq⟩:=C.ch q hq;exact⟨κq,by rw[qci,if_neg (by omega)];exact hκq⟩
       refine q14 W H zF (hb.setChan (hM.nc j hjN) 0 #[] false (κ+1) (κ+1) false) (W.chan c z _ _ _ _ (by omega) hz qlG) C1 hM O lt1 hN0 hn0 R hjN hCj hTj (λT' w2 z2 hb2 hz2 C2 R2 hh2=>?_);have hhh:=(hh1.mono (λr hr=>by show m0<=r;rw[hr];omega)).trans hh2;have e:Go.Conc.served (G (qog m0 (qfg m0 N fl chs.length i x csv ca (.slice (some ⟨m0+2,0,none⟩) N N) (.int .i64 x) (.int .i64 N) (.int .i64 j) (.pointer (some ⟨m0+2,j,none⟩)) (.chan (some (m0+7+2*j))) (.int .i64 i) (.chan (some (m0+4))) v4 v5 v9 v12 v13 v14 v15 v16 v17 v18 v19 v20 v21 v22 v23 v24 v25 v26 v27 v28 v44 v45 v46 v47 v48 v49 v50 v51 v52 v53 v54) lp kk cs).fr (qog m0 (qfg m0 N fl chs.length i x csv ca (.slice (some ⟨m0+2,0,none⟩) N N) (.int .i64 x) (.int .i64 N) (.int .i64 j) (.pointer (some ⟨m0+2,j,none⟩)) (.chan (some (m0+7+2*j))) (.int .i64 i) (.chan (some (m0+4))) v4 v5 v9 v12 v13 v14 v15 v16 v17 v18 v19 v20 v21 v22 v23 v24 v25 v26 v27 v28 v44 v45 v46 v47 v48 v49 v50 v51 v52 v53 v54) lp kk cs).cs) (recvd false (.int .i64 i) true)=G ((base 43).at ⟨(qfg m0 N fl chs.length i x csv ca (.slice (some ⟨m0+2,0,none⟩) N N) (.int .i64 x) (.int .i64 N) (.int .i64 j) (.pointer (some ⟨m0+2,j,none⟩)) (.chan (some (m0+7+2*j))) (.int .i64 i) (.chan (some (m0+4))) v4 v5 v9 v12 v13 v14 v15 v16 v17 v18 v19 v20 v21 v22 v23 v24 v25 v26 v27 v28 v44 v45 v46 v47 v48 v49 v50 v51 v52 v53 v54).setIfInBounds 44 (.int .i64 i),[]⟩ (.inRegion qzl []::.inBlock 3::.code q9s::.inLoop lp::.inBlock 2::kk)) cs:=rfl;rw[e];clear e;refine qan ?_;refine qo3 ?_;simp only[q9s,qc2,qib,qjw,qiq,f43,Option.getD_some,qfg,List.setIfInBounds_toArray,List.set_cons_succ,List.set_cons_zero];refine qau ?_;simp only[List.size_toArray,List.length_cons,List.length_nil,Nat.reduceAdd,Nat.zero_add,List.range,List.range.loop];refine qa2 (.int .i64 ((i+1:Nat):Int)) rfl rfl (by decide) (λw=>by go_simp) (λw=>by simp[go_sem]) ?_;walk_nrm;refine qa2 (.int .i64 ((i+1:Nat):Int)) rfl rfl (by decide) (λw=>by go_simp) (λw=>by simp[go_sem]) ?_;walk_nrm;refine qan ?_;exact next _ _ _ _ hb2 hz2 C2 R2 hhh ⟨rfl,rfl,rfl,rfl,rfl,rfl,rfl,rfl⟩ rfl rfl rfl
   . omega
 . rintro Sb a w' ⟨s0,s1,s2,s3,s4,s5,s6,x36,x37,x38,x39,x40,x41,x42,rfl,rfl,i0,i1,i2,i3,i4,i5,i6,rfl⟩ zh
   have e0:s0=true:=by
    cases s0 with
    |true=>rfl
    |false=>exact absurd zh (List.ne_nil_of_mem (mem_ready.2 ⟨rfl,_,rfl,λe he=>by simp at he⟩:0∈_))
   subst e0
   have e1:s1=true:=by
    cases s1 with
    |true=>rfl
    |false=>exact absurd zh (List.ne_nil_of_mem (mem_ready.2 ⟨rfl,_,rfl,λe he=>by simp at he⟩:1∈_))
   subst e1
   have e2:s2=true:=by
    cases s2 with
    |true=>rfl
    |false=>exact absurd zh (List.ne_nil_of_mem (mem_ready.2 ⟨rfl,_,rfl,λe he=>by simp at he⟩:2∈_))
   subst e2
   have e6:s6=true:=by
    cases s6 with
    |true=>rfl
    |false=>exact absurd zh (List.ne_nil_of_mem (mem_ready.2 ⟨rfl,_,rfl,λe he=>by simp at he⟩:6∈_))
   subst e6
   have e3:s3=true:=by
    cases s3 with
    |true=>rfl
    | false=>exact absurd zh (List.ne_nil_of_mem (mem_ready.2 ⟨rfl,_,rfl,fun e he _=>by
        simp at he;rcases he with rfl|rfl<;>rfl⟩:3∈_))
   subst e3
   have e4:s4=true:=by
    cases s4 with
    |true=>rfl
    | false=>exact absurd zh (List.ne_nil_of_mem (mem_ready.2 ⟨rfl,_,rfl,fun e he _=>by
        simp at he;rcases he with rfl|rfl<;>rfl⟩:4∈_))
   subst e4
   have e5:s5=true:=by
    cases s5 with
    |true=>rfl
    | false=>exact absurd zh (List.ne_nil_of_mem (mem_ready.2 ⟨rfl,_,rfl,fun e he _=>by
        simp at he;rcases he with rfl<;>rfl⟩:5∈_))
   subst e5
   exact absurd zh (List.ne_nil_of_mem (mem_ready.2 ⟨rfl,_,rfl,λe he _=>by
    simp at he;rcases he with rfl|rfl<;>rfl⟩:7∈_))
end
end
end Go.Proofs.YtacemdoejblgaaaGreatDoor

/- Part 6. Conditions: each statement's. -/
import Derived.Test.YtacemdoejblgaaaGreatDoorM05
namespace Go.Proofs.YtacemdoejblgaaaGreatDoor
set_option maxHeartbeats 6400000
set_option maxRecDepth 100000
section
section
variable {C:Pen}{α β:Type}
theorem qa5(t:TypeId):qc C (typeInfo t) (fun i=>C.P.info? t=some i):=by
 unfold typeInfo;refine qaa qa0 (fun p hp=>?_);subst hp;split
 . rename_i h;exact qab h
 . exact qad
theorem qai(t:TypeId):qc C (underlying t) (fun d=>C.P.underlying t=some d):=by
 unfold underlying;refine qaa qa0 (fun p hp=>?_);subst hp;split
 . rename_i h;exact qab h
 . exact qad
def qlk(C:Pen)(t:TypeId):Prop:=∀ i v,C.P.info? t=some i->i.zero=some v->Ok C.A C.F v
theorem qcl{t:TypeId}(h:qlk C t):qc C (zeroValue t) (Ok C.A C.F):=by
 unfold zeroValue;refine qaa (qa5 t) (fun i hi=>?_);split
 . rename_i v hv;exact qab (h i v hi hv)
 . exact qaf (by simp)
theorem qa7(t:TypeId):qc C (sizeOf t) (fun _=>True):=by
 unfold sizeOf;exact qaa (qa5 t) (fun i hi=>qab trivial)
theorem qqd(t:TypeId):qc C (isAgg t) (fun _=>True):=by
 unfold isAgg;refine qaa (qai t) (fun d hd=>?_);split <;> exact qab trivial
def qm(C:Pen)(vs:Array Value):Prop:=∀ v,v∈vs->Ok C.A C.F v
theorem qm.push{vs:Array Value}{v:Value}(h:qm C vs)(hv:Ok C.A C.F v):qm C (vs.push v):=fun u hu=>by
 rcases Array.mem_push.1 hu with h1 | h1
 . exact h u h1
 . rw [h1];exact hv
theorem qm.app{vs us:Array Value}(h:qm C vs)(k:qm C us):qm C (vs++us):=fun u hu=>by
 rcases Array.mem_append.1 hu with h1 | h1
 . exact h u h1
 . exact k u h1
theorem qm.nil:qm C #[]:=fun u hu=>by simp at hu
theorem qm.one{v:Value}(h:Ok C.A C.F v):qm C #[v]:=fun u hu=>by rw [Array.mem_singleton] at hu;rw [hu];exact h
theorem qm.set{vs:Array Value}{v:Value}(h:qm C vs)(hv:Ok C.A C.F v)(i:Nat):qm C (vs.setIfInBounds i v):=fun u hu=>by
 rcases Array.mem_iff_getElem?.1 hu with ⟨j,hj⟩;rw [Array.getElem?_setIfInBounds] at hj;split at hj
 . split at hj
   . cases hj;exact hv
   . cases hj
 . exact h u (Array.mem_of_getElem? hj)
theorem qm.get{vs:Array Value}(h:qm C vs){i:Nat}{v:Value}(hv:vs[i]?=some v):Ok C.A C.F v:=h v (Array.mem_of_getElem? hv)
theorem qm.extract{vs:Array Value}(h:qm C vs)(i j:Nat):qm C (vs.extract i j):=fun u hu=>by
 obtain⟨k,hk⟩:=Array.mem_iff_getElem?.1 hu;rw [Array.getElem?_extract] at hk;split at hk
 . exact h.get hk
 . cases hk
theorem q1v(a:Addr)(n:Nat):(a.add n).block=a.block:=by unfold Addr.add;split <;> rfl
theorem qno{a:Addr}(h:C.A a)(n:Nat):C.A (a.add n):=C.up a _ h (q1v a n) (by unfold Addr.add;split <;> simp)
theorem qj8{a:Addr}(ha:C.A a):∀ (n i:Nat) (acc:Array Value),qm C acc->qc C (loadCellsFrom a i n acc) (qm C):=by
 intro n
 induction n with
 | zero=>intro i acc h;exact qab h
 | succ n ih=>
   intro i acc h;unfold loadCellsFrom;exact qaa (qsz (qno ha _)) (fun v hv=>ih _ _ (h.push hv))
theorem qis{a:Addr}(ha:C.A a)(n:Nat):qc C (loadCells a n) (qm C):=qj8 ha n 0 #[] .nil
theorem qfp{a:Addr}(ha:C.A a):∀ (vs:List Value) (i:Nat),(∀ v,v∈vs->Ok C.A C.F v)->qc C (storeCells a vs i) (fun _=>True):=by
 intro vs
 induction vs with
 | nil=>intro i h;unfold storeCells;exact qab trivial
 | cons v vs ih=>
   intro i h;unfold storeCells;exact qaa (qyh (qno ha _) (h v (by simp))) (fun _ _=>ih _ (fun u hu=>h u (by simp [hu])))
theorem qez{t:TypeId}{a:Addr}(ha:C.A a):qc C (loadVar t a) (Ok C.A C.F):=by
 unfold loadVar;refine qaa (qqd t) (fun b _=>?_);refine qah (fun _=>?_) (fun _=>qsz ha);exact qaa (qa7 t) (fun n _=>qaa (qis ha n) (fun cs hcs=>qab (.agg hcs)))
theorem qr1{t:TypeId}{a:Addr}{v:Value}(ha:C.A a)(hv:Ok C.A C.F v):qc C (storeVar t a v) (fun _=>True):=by
 unfold storeVar;refine qaa (qa7 t) (fun n _=>?_);have hs:qc C (storeCells a v.cells.toList) (fun _=>True):=qfp ha _ _ (fun u hu=>hv.cells u (by simpa using hu));dsimp only;exact qah (fun _=>qaa (Q:=fun _=>True) qad (fun _ _=>hs)) (fun _=>hs)
theorem jk{t:TypeId}{cs:Array Value}(h:qm C cs):qc C (newRow t cs) (fun a=>C.A a):=by
 unfold newRow;exact qaa (qir (o:=.cells cs t) ⟨rfl,h⟩) (fun r hr=>qab hr)
theorem qgv{t:TypeId}{v:Value}(h:Ok C.A C.F v):qc C (newVar t v) (fun a=>C.A a):=jk h.cells
theorem qnp(t:TypeId):qc C (elemOf t) (fun _=>True):=by
 unfold elemOf;refine qaa (qai t) (fun d hd=>?_);split
 . exact qab trivial
 . exact qad
theorem qc4{t:TypeId}{cs:Array Value}(h:qm C cs)(off:Nat):qc C (part t cs off) (Ok C.A C.F):=by
 unfold part;refine qaa (qqd t) (fun b _=>?_);refine qah (fun _=>?_) (fun _=>?_)
 . exact qaa (qa7 t) (fun n _=>qab (.agg (h.extract _ _)))
 . split
   . rename_i v hv;exact qab (h.get hv)
   . exact qad
theorem qf4(v:Value):qc C (asIntOf v) (fun _=>True):=by
 unfold asIntOf;split
 . exact qab trivial
 . exact qaf (by simp)
 . exact qad
theorem qe5(v:Value):qc C (asInt v) (fun _=>True):=by
 unfold asInt;exact qaa (qf4 v) (fun _ _=>qab trivial)
theorem qnq(v:Value):qc C (asBool v) (fun _=>True):=by
 unfold asBool;split
 . exact qab trivial
 . exact qad
theorem qyi{v:Value}(h:Ok C.A C.F v):qc C (asAgg v) (qm C):=by
 unfold asAgg;split
 . exact qab h.ji
 . exact qad
def qbq(C:Pen):Prop:=C.A ⟨C.P.globals.size,0,none⟩
theorem qf5(h:qbq C)(t:TypeId):Ok C.A C.F (typeHandle C.P t):=.ptr (C.up _ _ h rfl (Nat.zero_le _))
theorem qak(hH:qbq C)(e:RuntimeError){Q:α->Prop}:qc C (runtimePanic e) Q:=by
 unfold runtimePanic;refine qaa qa0 (fun p hp=>?_);subst hp
 have hh:∀ t:Option TypeId,Ok C.A C.F (match t with | some t=>typeHandle C.P t | none=>.pointer none):=fun t=>by
   cases t with
   | none=>exact .nilPtr
   | some t=>exact qf5 hH t
 split
 . exact qc0 (.iface _ (.agg (fun v hv=>by
     simp only [List.mem_toArray,List.mem_cons,List.not_mem_nil,or_false] at hv;rcases hv with rfl | rfl | rfl | rfl <;> constructor)))
 . exact qc0 (.iface _ (.string _))
 . exact qc0 (.iface _ (.string _))
 . exact qc0 (.iface _ (.string _))
 . refine qaa (qnp _) (fun e _=>qaa (qgv (.agg (fun v hv=>?_))) (fun r hr=>qc0 (.iface _ (.ptr hr))));simp only [List.mem_toArray,List.mem_cons,List.not_mem_nil,or_false] at hv;rcases hv with rfl | rfl | rfl | rfl
   . exact hh _
   . exact hh _
   . exact qf5 hH _
   . exact .string _
 . exact qaa (qnp _) (fun e _=>qaa (qgv (.agg (fun v hv=>by simp at hv))) (fun r hr=>qc0 (.iface _ (.ptr hr))))
 . exact qc0 (.iface _ (.agg (fun v hv=>by
     simp only [List.mem_toArray,List.mem_cons,List.not_mem_nil,or_false] at hv;rw [hv];exact qf5 hH _)))
theorem qdm(hH:qbq C)(k:IntKind)(x y:Int)(c:BoundsCode){Q:α->Prop}:qc C (boundsPanic k x y c) Q:=by
 unfold boundsPanic;dsimp only;refine qah (fun _=>?_) (fun _=>?_)
 . exact qaa (Q:=fun _=>True) (qqb (qdd _) (fun _ _=>trivial)) (fun _ _=>qak hH _)
 . exact qaa (Q:=fun _=>True) (qab trivial) (fun _ _=>qak hH _)
theorem qll(n:Nat):qc C (askRoom n) (fun _=>True):=by
 unfold askRoom;exact qah (fun _=>qv6) (fun _=>qab trivial)
theorem qfi(hH:qbq C){v:Value}(h:Ok C.A C.F v):qc C (asAddr v) (fun a=>C.A a):=by
 unfold asAddr;split
 . exact qab h.jb
 . exact qak hH _
 . exact qad
theorem qjq{s:Sem α}{Q:α->Prop}(h:∀ w u,Rel C w u->∀ es,∃ a new,s.run C.P u=.ok a u/\s.runT C.P w es=(.ok a w,es++new)/\(∀ e,e∈new->vX C w.heap.size e)/\Q a):qc C s Q:=fun w u es hr al=>by
 obtain⟨a,new,h1,h2,h3,h4⟩:=h w u hr es;rw [h1];exact⟨w,new,h2,hr,⟨fun _ _=>rfl,Nat.le_refl _,rfl,rfl,rfl,Nat.le_refl _,h3,.of rfl⟩,h4⟩
theorem Rel.zw{w u:World}(h:Rel C w u){r:Nat}(hA:C.B r):(w.shape? r).isSome=(u.shape? r).isSome:=by
 rcases h.shapes hA with ⟨h1,h2⟩ | ⟨t,n,m,h1,h2,_⟩
 . rw [h1,h2]
 . rw [h1,h2];rfl
theorem qlm{r:Nat}(hA:C.B r){f:Bool->Sem α}{Q:α->Prop}(h:∀ b,qc C (f b) Q):qc C (shape r >>= fun x=>f x.isSome) Q:=by
 intro w u es hr al;have e1:(shape r >>= fun x=>f x.isSome).run C.P u=(f (u.shape? r).isSome).run C.P u:=by rw [Sem.run_bind,run_shape];rfl
 have e2:(shape r >>= fun x=>f x.isSome).runT C.P w es=(f (w.shape? r).isSome).runT C.P w es:=by
   have:=Sem.runT_bind' C.P (shape r) (fun x=>f x.isSome) w es;exact this
 have:=h (u.shape? r).isSome w u es hr al;rw [e1];unfold Out at *;rw [e2,hr.zw hA];exact this
theorem qnr{r:Nat}(hA:C.B r):qc C (viewAt r) (fun x=>x=none):=by
 unfold viewAt;refine qlm hA (f:=fun b=>if b=true then pure none else do match <-getObj r with | .view a t=>pure (some (a,t)) | _=>pure none) (fun b=>?_);refine qah (fun _=>qab rfl) (fun _=>qaa (qd4 hA) (fun o ho=>?_));split
 . exact ho.1.elim
 . exact qab rfl
theorem qit{a:Addr}(hA:C.B a.block):qc C (noView a) (fun _=>True):=by
 unfold noView;refine qaa (qnr hA) (fun x hx=>?_);subst hx;exact qab trivial
end
section
variable {C:Pen}{α β γ:Type}
theorem qh8{I:β->Prop}(f:γ->β->Sem (ForInStep β)):∀ (xs:List γ) (b:β),I b ->
   (∀ x,x∈xs->∀ b,I b->qc C (f x b) (fun r=>match r with | .done b=>I b | .yield b=>I b))->qc C (forIn xs b f) I:=by
 intro xs
 induction xs with
 | nil=>intro b hb _;rw [List.forIn_nil];exact qab hb
 | cons x xs ih=>
   intro b hb hf;rw [List.forIn_cons];refine qaa (hf x (by simp) b hb) (fun r hr=>?_);cases r with
   | done b=>exact qab hr
   | yield b=>exact ih b hr (fun y hy=>hf y (by simp [hy]))
theorem qj9{I:β->Prop}(f:γ->β->Sem (ForInStep β))(xs:Array γ)(b:β)(hb:I b)
   (hf:∀ x,x∈xs->∀ b,I b->qc C (f x b) (fun r=>match r with | .done b=>I b | .yield b=>I b)):qc C (forIn xs b f) I:=by
 rw [<-Array.forIn_toList];exact qh8 f _ b hb (fun x hx=>hf x (by simpa using hx))
theorem qg6{I:β->Prop}(f:Nat->β->Sem (ForInStep β))(r:Std.Legacy.Range)(b:β)(hb:I b)
   (hf:∀ x b,I b->qc C (f x b) (fun r=>match r with | .done b=>I b | .yield b=>I b)):qc C (forIn r b f) I:=by
 rw [Std.Legacy.Range.forIn_eq_forIn_range'];exact qh8 f _ b hb (fun x _=>hf x)
theorem Rel.vo{w u:World}(h:Rel C w u){r:Nat}(hA:C.B r):(w.shape? r).map (·.1)=(u.shape? r).map (·.1):=by
 rcases h.shapes hA with ⟨h1,h2⟩ | ⟨t,n,m,h1,h2,_⟩
 . rw [h1,h2]
 . rw [h1,h2];rfl
theorem qns{r:Nat}(hA:C.B r){g:Option (TypeId × Nat)->Sem α}{Q:α->Prop}(hg:∀ t n m,g (some (t,n))=g (some (t,m)))(h:∀ x,qc C (g x) Q):qc C (shape r >>= g) Q:=by
 intro w u es hr al;have e1:(shape r >>= g).run C.P u=(g (u.shape? r)).run C.P u:=by rw [Sem.run_bind,run_shape];rfl
 have e2:(shape r >>= g).runT C.P w es=(g (w.shape? r)).runT C.P w es:=Sem.runT_bind' C.P (shape r) g w es
 have e3:g (w.shape? r)=g (u.shape? r):=by
   have:=hr.vo hA;cases h1:w.shape? r with
   | none=>cases h2:u.shape? r with
     | none=>rfl
     | some y=>rw [h1,h2] at this;cases this
   | some x=>cases h2:u.shape? r with
     | none=>rw [h1,h2] at this;cases this
     | some y=>
       rw [h1,h2] at this;obtain⟨t,n⟩:=x;obtain⟨t',m⟩:=y;simp only [Option.map_some,Option.some.injEq] at this;subst this;exact hg _ _ _
 have:=h (u.shape? r) w u es hr al;rw [e1];unfold Out at *;rw [e2,e3];exact this
theorem qr2{r:Nat}(hA:C.B r):qc C (numberAt r) (fun x=>∀ y,x=some y->C.B y.1.block):=by
 unfold numberAt;refine qlm hA (f:=fun b=>if b=true then pure none else do match <-getObj r with | .number a lost=>pure (some (a,lost)) | _=>pure none) (fun b=>?_);refine qah (fun _=>qab (by simp)) (fun _=>qaa (qd4 hA) (fun o ho=>?_));split
 . exact qab (fun y e=>by cases e;exact ho.1)
 . exact qab (by simp)
theorem qbt{n:Addr}(hA:C.A n):qc C (behindNumber n) (fun x=>C.B x.1.block):=by
 unfold behindNumber;refine qaa (qr2 (.of hA)) (fun x hx=>qab ?_);cases x with
 | none=>exact .of hA
 | some y=>exact hx y rfl
theorem qr3{a:Addr}(hA:C.B a.block)(lost:Bool):qc C (asNumber a lost) (Ok C.A C.F):=by
 unfold asNumber;exact qaa (qir (o:=.number a lost) hA) (fun r hr=>qab (.ptr hr))
theorem qd5{a:Addr}(hA:C.B a.block):qc C (byteOf a) (fun _=>True):=by
 unfold byteOf;dsimp only;split
 . exact qab trivial
 . refine qaa qa0 (fun p hp=>?_);subst hp;refine qaa (qit hA) (fun _ _=>?_);refine qns hA (fun t n m=>rfl) (fun x=>?_);split
   . refine qah (fun _=>qab trivial) (fun _=>?_);split
     . exact qab trivial
     . exact qad
   . exact qad
def strs(w:World)(a:Addr):Bool:=w.frozen? a || (match w.shape? a.block with
 | some (_,n)=>w.frozen? ⟨a.block,n,none⟩
 | none=>false)
def qr4(w:World)(a:Addr):Bool:=(w.shape? a.block) matches some (_,0)
theorem qnt{w:World}(a:Addr)(es:Array Event):(stringish a).runT C.P w es=(.ok (strs w a) w,es):=by
 unfold strs;cases h1:w.frozen? a with
 | true=>simp [stringish,h1]
 | false=>
   cases hs:w.shape? a.block with
   | none=>simp [stringish,h1,hs]
   | some x=>obtain⟨t,n⟩:=x;simp [stringish,h1,hs]
theorem qqe{w:World}(a b:Addr)(es:Array Event):(mayBeOne a b).runT C.P w es=(.ok ((strs w a && strs w b) || (strs w a && qr4 w a) || (strs w b && qr4 w b)) w,es):=by
 have ha:=qnt (C:=C) (w:=w) a es;have hb:=qnt (C:=C) (w:=w) b es;simp only [Sem.runT_eq,Prod.mk.injEq] at ha hb;unfold mayBeOne qr4;simp [ha.1,ha.2,hb.1,hb.2];generalize w.shape? a.block=x;generalize w.shape? b.block=y;rcases x with _ | ⟨t,_ | n⟩ <;> rcases y with _ | ⟨t',_ | n'⟩ <;> rfl
theorem qgw{w:World}{a:Addr}(h:∀ off s,w.frozen? ⟨a.block,off,s⟩=false):strs w a=false:=by
 unfold strs;have h1:w.frozen? a=false:=h a.off a.spot;rw [h1];split
 . simp [h]
 . rfl
theorem q32{w:World}{a:Addr}(h:∃ t n,w.shape? a.block=some (t,n)/\0 < n):qr4 w a=false:=by
 obtain⟨t,n,h1,h2⟩:=h;unfold qr4;rw [h1];cases n with
 | zero=>omega
 | succ n=>rfl
theorem qv7{w u:World}{a:Addr}(h:w.heap[a.block]?=u.heap[a.block]?):strs w a=strs u a/\qr4 w a=qr4 u a:=by
 have h1:∀ off s,w.frozen? ⟨a.block,off,s⟩=u.frozen? ⟨a.block,off,s⟩:=fun off s=>by
   unfold World.frozen?;rw [h]
 have h2:w.shape? a.block=u.shape? a.block:=by
   unfold World.shape?;rw [h]
 have h3:w.frozen? a=u.frozen? a:=h1 a.off a.spot;refine⟨?_,by unfold qr4;rw [h2]⟩;unfold strs;rw [h3,h2];cases u.shape? a.block with
 | none=>rfl
 | some x=>obtain⟨t,n⟩:=x;simp only [h1]
theorem Rel.yq{w u:World}(h:Rel C w u){a:Addr}(ha:C.A a):(strs w a && qr4 w a)=(strs u a && qr4 u a):=by
 by_cases hG:a.block=C.G
 . have hB:C.B C.G:=hG ▸ Pen.B.of ha;rcases h.xx hB with ⟨h1,h2⟩ | h1
   . rw [<-hG] at h1 h2;rw [qgw h1];rcases h2 with h2 | h2
     . rw [qgw h2];rfl
     . rw [q32 h2];simp
   . rw [<-hG] at h1;rw [(qv7 h1).1,(qv7 h1).2]
 . rw [qgw (h.jm (.of ha) hG),qgw (h.jO (.of ha) hG)];rfl
theorem Rel.qaG{w u:World}(h:Rel C w u){a b:Addr}(ha:C.A a)(hb:C.A b)(hne:a.block≠b.block):(strs w a && strs w b)=false/\(strs u a && strs u b)=false:=by
 by_cases hG:a.block=C.G
 . have hG':b.block≠C.G:=fun e=>hne (hG.trans e.symm);rw [qgw (h.jm (.of hb) hG'),qgw (h.jO (.of hb) hG')];simp
 . rw [qgw (h.jm (.of ha) hG),qgw (h.jO (.of ha) hG)];simp
theorem qr5{a b:Addr}(ha:C.A a)(hb:C.A b)(hne:a.block≠b.block):qc C (mayBeOne a b) (fun _=>True):=
 qjq (fun w u hr es=>by
   have h1:=qqe (C:=C) (w:=w) a b es;have h2:=qqe (C:=C) (w:=u) a b es;have k:=hr.qaG ha hb hne;rw [k.1,hr.yq ha,hr.yq hb] at h1;rw [k.2] at h2;rw [Sem.runT_eq,Prod.mk.injEq] at h2;exact⟨_,#[],h2.1,by rw [h1];simp,fun e he=>by simp at he,trivial⟩)
theorem qod{a b:Addr}(ha:C.A a)(hb:C.A b)(hne:a.block≠b.block):qc C (do let x <-frozen a;let y <-frozen b;pure (x && y):Sem Bool) (fun x=>x=false):=
 qjq (fun w u hr es=>by
   have h2:(u.frozen? a && u.frozen? b)=false/\(w.frozen? a && w.frozen? b)=false:=by
     by_cases hG:a.block=C.G
     . have hG':b.block≠C.G:=fun e=>hne (hG.trans e.symm);have k1:w.frozen? b=false:=hr.jm (.of hb) hG' b.off b.spot;have k2:u.frozen? b=false:=hr.jO (.of hb) hG' b.off b.spot;rw [k1,k2];simp
     . have k1:w.frozen? a=false:=hr.jm (.of ha) hG a.off a.spot;have k2:u.frozen? a=false:=hr.jO (.of ha) hG a.off a.spot;rw [k1,k2];simp
   exact⟨false,#[],by simpa using h2.1,by simpa using h2.2,fun e he=>by simp at he,rfl⟩)
theorem qjr{a b:Addr}(ha:C.A a)(hb:C.A b):qc C (sameAddr a b) (fun _=>True):=by
 unfold sameAddr;dsimp only;refine qah (fun _=>qab trivial) (fun hne=>?_);have hne:a.block≠b.block:=by simpa using hne
 have e:∀ f:Bool->Sem Bool,(frozen a >>= fun x=>frozen b >>= fun y=>f (x && y))=((do let x <-frozen a;let y <-frozen b;pure (x && y):Sem Bool) >>= f):=fun f=>by simp
 have key:qc C ((do let x <-frozen a;let y <-frozen b;pure (x && y):Sem Bool) >>= fun x=>if x=true then (do let _ <-(unsupported .addressObserved:Sem Unit);noView a;noView b;if (<-mayBeOne a b)=true then (do let y <-choose (.extern "sameAddr.stringBytes" 2);pure (y == 1)) else pure false) else (do noView a;noView b;if (<-mayBeOne a b)=true then (do let y <-choose (.extern "sameAddr.stringBytes" 2);pure (y == 1)) else pure false)) (fun _=>True):=by
   refine qaa (qod ha hb hne) (fun x hx=>?_);subst hx;simp only [Bool.false_eq_true,if_false];refine qaa (qit (.of ha)) (fun _ _=>qaa (qit (.of hb)) (fun _ _=>qaa (qr5 ha hb hne) (fun x _=>qah (fun _=>qaa (qdd _) (fun _ _=>qab trivial)) (fun _=>qab trivial))))
 rw [<-e] at key;exact key
theorem qmw{a b:Option Addr}(ha:∀ x,a=some x->C.A x)(hb:∀ x,b=some x->C.A x):qc C (samePointer a b) (fun _=>True):=by
 unfold samePointer;split
 . exact qjr (ha _ rfl) (hb _ rfl)
 . exact qab trivial
theorem qf6(t:TypeId):qc C (typeStr t) (fun _=>True):=by
 unfold typeStr;refine qaa (qa5 t) (fun i _=>?_);dsimp only;exact qah (fun _=>qaf (by simp)) (fun _=>qab trivial)
theorem qhr(hH:qbq C):∀ (d:Nat) (t:TypeId) (x y:Value),Ok C.A C.F x->Ok C.A C.F y->qc C (Op.equalIn d t x y) (fun _=>True):=by
 intro d
 induction d with
 | zero=>intro t x y _ _;unfold Op.equalIn;exact qaf (by simp)
 | succ d ih=>
   intro t x y hx hy;unfold Op.equalIn;refine qaa (qai t) (fun ud _=>?_);split
   . exact qab trivial
   . exact qah (fun _=>qab trivial) (fun _=>qad)
   . exact qab trivial
   . exact qab trivial
   . refine qaa (qbt hx.jb) (fun a ha=>qaa (qbt hy.jb) (fun b hb=>qaa qa0 (fun p hp=>?_)));refine qah (fun _=>?_) (fun _=>?_)
     . exact qaa (qd5 ha) (fun _ _=>qaa (qd5 hb) (fun _ _=>qab trivial))
     . refine qaa (qa5 t) (fun i _=>?_);split
       . exact qah (fun _=>qab trivial) (fun _=>qaf (by simp))
       . exact qaf (by simp)
   . exact qaf (by simp)
   . exact qaf (by simp)
   . exact qah (fun _=>qab trivial) (fun _=>qad)
   . exact qah (fun _=>qab trivial) (fun _=>qad)
   . exact qab trivial
   . exact qab trivial
   . exact qab trivial
   . refine qaa (qa7 _) (fun n _=>?_);refine qah (fun _=>qjr hx.jb hy.jb) (fun _=>qah (fun _=>qab trivial) (fun _=>qaa (qdd _) (fun _ _=>qab trivial)))
   . exact qmw (fun a e=>by subst e;exact hx.jb) (fun a e=>by subst e;exact hy.jb)
   . exact qab trivial
   . exact qab trivial
   . exact qab trivial
   . exact qab trivial
   . refine qah (fun _=>qab trivial) (fun _=>qaa (qa5 _) (fun i _=>?_));dsimp only;refine qah (fun _=>?_) (fun _=>ih _ _ _ hx.jj hy.jj);refine qaa qa0 (fun p _=>qaa qa0 (fun p _=>?_));refine qah (fun _=>qaa (Q:=fun _=>True) (qaf (by simp)) (fun _ _=>?_)) (fun _=>?_)
     . exact qaa (qf6 _) (fun s _=>qak hH _)
     . exact qaa (qf6 _) (fun s _=>qak hH _)
   . refine qaa qa0 (fun p _=>?_);dsimp only;refine qah (fun _=>qaa (Q:=fun _=>True) (qaf (by simp)) (fun _ _=>?_)) (fun _=>?_)
     all_goals
       refine qaa (Q:=fun _=>True) (qj9 (I:=fun _=>True) _ _ _ trivial (fun f _ b _=>?_)) (fun r _=>?_)
       . refine qah (fun _=>?_) (fun _=>qab trivial);refine qaa (qc4 hx.ji _) (fun v hv=>qaa (qc4 hy.ji _) (fun v' hv'=>qaa (ih _ _ _ hv hv') (fun b _=>?_)));exact qah (fun _=>qab trivial) (fun _=>qab trivial)
       . split <;> exact qab trivial
   . refine qaa (qa7 _) (fun n _=>?_);refine qaa (Q:=fun _=>True) (qg6 (I:=fun _=>True) _ _ _ trivial (fun f b _=>?_)) (fun r _=>?_)
     . refine qaa (qc4 hx.ji _) (fun v hv=>qaa (qc4 hy.ji _) (fun v' hv'=>qaa (ih _ _ _ hv hv') (fun b _=>?_)));exact qah (fun _=>qab trivial) (fun _=>qab trivial)
     . dsimp only;split <;> exact qab trivial
   all_goals first | exact qab trivial | exact qad
end
section
variable {C:Pen}{α β γ:Type}
theorem qiu:∀ (d:Nat) (t:TypeId) (x y:Value),Ok C.A C.F x->Ok C.A C.F y->qc C (Op.eqGuardIn d t x y) (fun _=>True):=by
 intro d
 induction d with
 | zero=>intro t x y _ _;unfold Op.eqGuardIn;exact qaf (by simp)
 | succ d ih=>
   intro t x y hx hy;unfold Op.eqGuardIn;refine qaa (qai t) (fun ud _=>?_);split
   . exact qab trivial
   . refine qaa (Q:=fun _=>True) (qj9 (I:=fun _=>True) _ _ _ trivial (fun f _ b _=>?_)) (fun r _=>?_)
     . refine qah (fun _=>?_) (fun _=>qab trivial);refine qaa (qc4 hx.ji _) (fun v hv=>qaa (qc4 hy.ji _) (fun v' hv'=>qaa (ih _ _ _ hv hv') (fun b _=>?_)));exact qah (fun _=>qab trivial) (fun _=>qab trivial)
     . dsimp only;split <;> exact qab trivial
   . refine qaa (qa7 _) (fun n _=>?_);refine qaa (Q:=fun _=>True) (qg6 (I:=fun _=>True) _ _ _ trivial (fun f b _=>?_)) (fun r _=>?_)
     . refine qaa (qc4 hx.ji _) (fun v hv=>qaa (qc4 hy.ji _) (fun v' hv'=>qaa (ih _ _ _ hv hv') (fun b _=>?_)));exact qah (fun _=>qab trivial) (fun _=>qab trivial)
     . dsimp only;split <;> exact qab trivial
   . exact qab trivial
theorem qt1{op:BinOp}{t:TypeId}{x y:Operand}{a b:Value}(ha:Ok C.A C.F a)(hb:Ok C.A C.F b):qc C (eqGuard op t x y a b) (fun _=>True):=by
 unfold eqGuard;refine qah (fun _=>qab trivial) (fun _=>?_);split
 . refine qah (fun _=>qab trivial) (fun _=>qaa (qiu _ _ _ _ ha hb) (fun r _=>?_));exact qah (fun _=>qaf (by simp)) (fun _=>qab trivial)
 . refine qaa qa0 (fun p _=>qaa qa0 (fun p _=>?_));refine qah (fun _=>qab trivial) (fun _=>qaa (qiu _ _ _ _ ha hb) (fun r _=>?_));exact qah (fun _=>qaf (by simp)) (fun _=>qab trivial)
 . exact qab trivial
theorem qjs(op:BinOp)(k:IntKind)(x y:Int):qc C (Op.intArith op k x y) (Ok C.A C.F):=by
 unfold Op.intArith;split <;> first | exact qab (.int _ _) | exact qad
theorem qv8(hH:qbq C)(op:BinOp)(k:IntKind)(x y:Int):qc C (Op.intDiv op k x y) (Ok C.A C.F):=by
 unfold Op.intDiv;refine qah (fun _=>qak hH _) (fun _=>?_);split <;> first | exact qab (.int _ _) | exact qad
theorem qln(op:BinOp)(k:IntKind)(x y:Int):qc C (Op.intBits op k x y) (Ok C.A C.F):=by
 unfold Op.intBits;dsimp only;split <;> first | exact qab (.int _ _) | exact qad
theorem qqf(hH:qbq C)(op:BinOp)(k j:IntKind)(x y:Int):qc C (Op.shift op k x j y) (Ok C.A C.F):=by
 unfold Op.shift;refine qah (fun _=>qak hH _) (fun _=>?_);dsimp only;split <;> first | exact qab (.int _ _) | exact qad
theorem qv9(op:BinOp)(x y:Int):qc C (Op.intCmp op x y) (Ok C.A C.F):=by
 unfold Op.intCmp;split <;> first | exact qab (.bool _) | exact qad
theorem qjt(op:BinOp)(x y:ByteArray):qc C (Op.stringOp op x y) (Ok C.A C.F):=by
 unfold Op.stringOp;dsimp only;split
 . exact qah (fun _=>qaf (by simp)) (fun _=>qab (.string _))
 all_goals first | exact qab (.bool _) | exact qad
theorem qt2{r:Nat}(hA:C.B r){g:Option (TypeId × Nat)->Sem α}{Q:α->Prop}
   (hg:∀ t n m es w u,n<=m->Rel C w u->Out C Q w es (g (some (t,m))) ((g (some (t,n))).run C.P u)) (h:qc C (g none) Q):qc C (shape r >>= g) Q:=by
 intro w u es hr al;have e1:(shape r >>= g).run C.P u=(g (u.shape? r)).run C.P u:=by rw [Sem.run_bind,run_shape];rfl
 have e2:(shape r >>= g).runT C.P w es=(g (w.shape? r)).runT C.P w es:=Sem.runT_bind' C.P (shape r) g w es;have key:=hr.shapes hA;rw [e1];rcases key with ⟨h1,h2⟩ | ⟨t,n,m,h1,h2,h3⟩
 . have:=h w u es hr (fun k q k1 k2=>al k q k1 (by rw [e1,h2];exact k2));rw [h2];unfold Out at *;rw [e2,h1];exact this
 . have:=hg t n m es w u h3 hr;rw [h1];unfold Out at *;rw [e2,h2];exact this
theorem qoe{p:Program}{d e n m off:Nat}{b:Int}{x:Nat}(hnm:n<=m)(h:cellAtBytes p d e n off b=some x):cellAtBytes p d e m off b=some x:=by
 unfold cellAtBytes at *;dsimp only at *;split at h
 . cases h
 . rename_i h0;rw [if_neg h0];cases hb:byteOfCell p d e (off % p.cellsOf e) with
   | none=>rw [hb] at h;cases h
   | some here=>
     rw [hb] at h;simp only [Option.bind_eq_bind,Option.bind_some] at h |-;split at h
     . cases h
     . rename_i h1;rw [if_neg]
       . exact h
       . intro h2;apply h1;simp only [Bool.or_eq_true,decide_eq_true_eq] at h2 |-;rcases h2 with h2 | h2
         . exact .inl h2
         . right;refine Int.le_trans ?_ h2;exact Int.ofNat_le.2 (Nat.mul_le_mul_right _ hnm)
theorem qqg{ats:Array TypeId}{t:TypeId}{x y:Value}(hx:∀ a,x=.pointer (some a)->C.B a.block):qc C (Builtin.unsafeAdd_ ats t #[x,y]) (fun v=>∃ b:Addr,v=.pointer (some b)/\C.B b.block):=by
 unfold Builtin.unsafeAdd_;cases x with
 | pointer ptr=>
   dsimp only;refine qaa (qe5 _) (fun n _=>?_);cases ptr with
   | some a=>
     have key : qc C (do
           let __x <-shape a.block
           match __x with
             | some (e,cells)=>do
               let p <-program
               match cellAtBytes p p.depth e (cells / p.cellsOf e) a.off n with
                 | some off=>pure (Value.pointer (some { block:=a.block,off:=off,spot:=a.spot }))
                 | none=>unsupported (Unsupported.unsafePointer "Add")
             | x=>unsupported (Unsupported.unsafePointer "Add"):Sem Value) (fun v=>∃ b:Addr,v=.pointer (some b)/\C.B b.block):=by
       refine qt2 (hx a rfl) (fun e n' m es w u hle hr=>?_) (qaf (by simp));cases hc:cellAtBytes C.P C.P.depth e (n' / C.P.cellsOf e) a.off n with
       | none=>simp [program,Sem.run,bind,Sem.bind,hc,unsupported];trivial
       | some off=>
         have h2:=qoe (Nat.div_le_div_right (c:=C.P.cellsOf e) hle) hc
         have e1 : (do let p <- program
                       match cellAtBytes p p.depth e (n' / p.cellsOf e) a.off n with
                       | some off=>pure (Value.pointer (some { block:=a.block,off:=off,spot:=a.spot }))
                       | none=>unsupported (Unsupported.unsafePointer "Add"):Sem Value).run C.P u=.ok (.pointer (some { block:=a.block,off:=off,spot:=a.spot })) u:=by simp [hc]
         show Out C _ w es _ ((do let p <- program
                                  match cellAtBytes p p.depth e (n' / p.cellsOf e) a.off n with
                                  | some off=>pure (Value.pointer (some { block:=a.block,off:=off,spot:=a.spot }))
                                  | none=>unsupported (Unsupported.unsafePointer "Add"):Sem Value).run C.P u)
         rw [e1];exact⟨w,#[],by simp [program,Sem.runT,bind,Sem.bind,h2,-Sem.runT_eq];rfl,hr,Kept.refl C w,_,rfl,hx a rfl⟩
     refine qah (fun _=>?_) (fun _=>?_)
     . dsimp only;refine qaa (qnr (hx a rfl)) (fun v hv=>?_);subst hv;exact qab ⟨a,rfl,hx a rfl⟩
     . exact qah (fun _=>qaa (Q:=fun _=>True) (qaf (by simp)) (fun _ _=>key)) (fun _=>key)
   | none=>
     have key:qc C (unsupported (Unsupported.unsafePointer "Add"):Sem Value) (fun v=>∃ b:Addr,v=.pointer (some b)/\C.B b.block):=qaf (by simp);refine qah (fun _=>?_) (fun _=>?_)
     . exact qaa (Q:=fun _=>True) (qaf (by simp)) (fun _ _=>qah (fun _=>qaa (Q:=fun _=>True) (qaf (by simp)) (fun _ _=>key)) (fun _=>key))
     . exact qah (fun _=>qaa (Q:=fun _=>True) (qaf (by simp)) (fun _ _=>key)) (fun _=>key)
 | _=>exact qad
theorem qe6{t:TypeId}{x y:Value}(hx:Ok C.A C.F x):qc C (movedNumber t x y) (Ok C.A C.F):=by
 unfold movedNumber;refine qaa (qai t) (fun d _=>?_)
 have key:qc C (do
     let .pointer (some n):=x | Builtin.unsafeAdd_ #[] t #[x,y]
     let (a,lost) <-behindNumber n
     match <-Builtin.unsafeAdd_ #[] t #[.pointer (some a),y] with
     | .pointer (some b)=>asNumber b lost
     | v=>pure v:Sem Value) (Ok C.A C.F):=by
   split
   . refine qaa (qbt hx.jb) (fun p hp=>qaa (qqg (fun a e=>by cases e;exact hp)) (fun v hv=>?_));obtain⟨b,rfl,hb⟩:=hv;exact qr3 hb _
   . rename_i hno;unfold Builtin.unsafeAdd_;cases x with
     | pointer ptr=>
       cases ptr with
       | some a=>exact absurd rfl (hno a)
       | none=>
         have key:qc C (unsupported (Unsupported.unsafePointer "Add"):Sem Value) (Ok C.A C.F):=qaf (by simp);dsimp only;refine qaa (qe5 _) (fun n _=>?_);refine qah (fun _=>?_) (fun _=>?_)
         . exact qaa (Q:=fun _=>True) (qaf (by simp)) (fun _ _=>qah (fun _=>qaa (Q:=fun _=>True) (qaf (by simp)) (fun _ _=>key)) (fun _=>key))
         . exact qah (fun _=>qaa (Q:=fun _=>True) (qaf (by simp)) (fun _ _=>key)) (fun _=>key)
     | _=>exact qad
 dsimp only;split
 . exact qaa (Q:=fun _=>True) (qaf (by simp)) (fun _ _=>key)
 . exact key
theorem qiv{a b:Addr}(ha:C.B a.block)(hb:C.B b.block):qc C (Op.twoPlaces a b) (fun _=>True):=by
 unfold Op.twoPlaces;refine qaa qa0 (fun p _=>?_);have key:qc C (do pure (<-byteOf a,<-byteOf b):Sem (Nat × Nat)) (fun _=>True):=qaa (qd5 ha) (fun _ _=>qaa (qd5 hb) (fun _ _=>qab trivial));dsimp only;exact qah (fun _=>qaa (Q:=fun _=>True) (qaf (by simp)) (fun _ _=>key)) (fun _=>key)
theorem qlo{k:IntKind}{a:Addr}{n:Int}(ha:C.B a.block):qc C (Op.addrMod k a n) (Ok C.A C.F):=by
 unfold Op.addrMod;refine qns ha (fun t n m=>rfl) (fun x=>?_);split
 . refine qaa (qa5 _) (fun i _=>?_);have key:qc C (do pure (.int k ((<-byteOf a) % n.toNat:Nat)):Sem Value) (Ok C.A C.F):=qaa (qd5 ha) (fun _ _=>qab (.int _ _));dsimp only;exact qah (fun _=>qaa (Q:=fun _=>True) (qaf (by simp)) (fun _ _=>key)) (fun _=>key)
 . exact qaf (by simp)
theorem qyj(hH:qbq C){op:BinOp}{t:TypeId}(ht:C.P.underlying t≠some .unsafePointer){x y:Value}(hx:Ok C.A C.F x)(hy:Ok C.A C.F y):qc C (binOp op t x y) (Ok C.A C.F):=by
 unfold binOp;split
 . exact qqf hH _ _ _ _ _
 . exact qqf hH _ _ _ _ _
 . refine qah (fun _=>qad) (fun _=>?_);split
   all_goals first | exact qjs _ _ _ _ | exact qv8 hH _ _ _ _ | exact qln _ _ _ _ | exact qv9 _ _ _
 . cases hx
 . cases hx
 . exact qjt _ _ _
 . exact qaa (qhr hH _ _ _ _ hx hy) (fun _ _=>qab (.bool _))
 . exact qaa (qhr hH _ _ _ _ hx hy) (fun _ _=>qab (.bool _))
 . refine qaa (qai t) (fun d hd=>?_);split
   . exact absurd hd ht
   . exact qe6 hx
 . exact qe6 hy
 . exact qe6 hx
 . exact qaa (qbt hx.jb) (fun a ha=>qaa (qbt hy.jb) (fun b hb=>qaa (qiv ha hb) (fun _ _=>qab (.int _ _))))
 all_goals first
   | exact qaa (qbt hx.jb) (fun a ha=>qaa (qbt hy.jb) (fun b hb=>by
       unfold Op.addrCmp;refine qaa (qiv ha hb) (fun _ _=>?_);split
       all_goals first | exact qab (.bool _) | exact qaf (by simp)))
   | exact qaa (qbt hx.jb) (fun a ha=>qlo ha)
   | exact qaa (qbt hy.jb) (fun a ha=>qlo ha)
   | exact qaf (by simp)
   | exact qad
theorem qyk{op:UnOp}{x:Value}(hx:Ok C.A C.F x):qc C (Op.unary op x) (Ok C.A C.F):=by
 unfold Op.unary;split
 . exact qjs _ _ _ _
 . exact qln _ _ _ _
 . cases hx
 . cases hx
 . exact qab (.bool _)
 all_goals first | exact qaf (by simp) | exact qad
end
section
variable {C:Pen}{α β γ:Type}
theorem qej{v:Value}(h:Ok C.A C.F v):qc C (Instr.sureAddr v) (fun a=>C.A a):=by
 unfold Instr.sureAddr;split
 . exact qab h.jb
 . exact qad
theorem qwa{t:TypeId}{v:Value}(h:Ok C.A C.F v):qc C (Instr.loadAt t v) (Ok C.A C.F):=by
 unfold Instr.loadAt;exact qaa (qej h) (fun a ha=>qez ha)
theorem qt3{t:TypeId}{v x:Value}(h:Ok C.A C.F v)(hx:Ok C.A C.F x):qc C (Instr.storeAt t v x) (fun _=>True):=by
 unfold Instr.storeAt;exact qaa (qej h) (fun a ha=>qr1 ha hx)
theorem qwb{a:Addr}(ha:C.A a)(i j:Nat):qc C (partAt a i j) (fun b=>C.A b):=by
 unfold partAt;refine qaa (qd5 (.of ha)) (fun b _=>qaa (qd5 (a:={ block:=a.block,off:=a.off+i }) ⟨a,ha,rfl⟩) (fun b' _=>qab ?_));split <;> exact C.up _ _ ha rfl (Nat.le_add_right _ _)
theorem qfq{a:Addr}(ha:C.A a)(f:Field):qc C (fieldPlace a f) (fun b=>C.A b):=by
 unfold fieldPlace;refine qaa (qa7 _) (fun n _=>qah (fun _=>qwb ha _ _) (fun _=>qab ?_));exact qno ha _
theorem qt4{s:TypeId}{v:Value}(h:Ok C.A C.F v)(f:Nat):qc C (Instr.fieldAt s v f) (Ok C.A C.F):=by
 unfold Instr.fieldAt;refine qaa (qai s) (fun d _=>?_);split
 . split
   . exact qaa (qej h) (fun a ha=>qaa (qfq ha _) (fun b hb=>qab (.ptr hb)))
   . exact qad
 . exact qad
theorem qt5(hH:qbq C){t:TypeId}{x ix:Value}(hx:Ok C.A C.F x):qc C (Instr.indexAt t x ix) (Ok C.A C.F):=by
 unfold Instr.indexAt;refine qaa (qf4 _) (fun p _=>?_);refine qaa (qai t) (fun d _=>?_)
 have tail:∀ r:Option Addr × Nat × TypeId,(∀ a,r.1=some a->C.A a)->qc C (do
     let tiny:=r.2.1<=1 && (match <-underlying t with | .array ..=>true | _=>false)
     match r.1 with
     | some a=>
       if 0<=p.2/\p.2 < r.2.1 then pure (.pointer (some (a.add (p.2.toNat * (<-sizeOf r.2.2)))))
       else if tiny then unsupported (.noEntry "op/indexAddr.an index out of range at an array of length 0 or 1 (ledger 616)")
       else boundsPanic p.1 p.2 r.2.1 .index
     | none=>boundsPanic p.1 p.2 0 .index:Sem Value) (Ok C.A C.F):=by
   intro r hr;refine qaa (qai t) (fun d _=>?_);dsimp only;split
   . rename_i a ha;refine qah (fun _=>qaa (qa7 _) (fun n _=>qab (.ptr ?_))) (fun _=>qah (fun _=>qaf (by simp)) (fun _=>qdm hH _ _ _ _));exact qno (hr a ha) _
   . exact qdm hH _ _ _ _
 split
 . exact qaa (qej hx) (fun a ha=>qaa (Q:=fun r:Option Addr × Nat × TypeId=>∀ a,r.1=some a->C.A a) (qab (fun b e=>by cases e;exact ha)) tail)
 . exact qaa (Q:=fun r:Option Addr × Nat × TypeId=>∀ a,r.1=some a->C.A a) (qab (fun b e=>by dsimp only at e;subst e;exact hx.of_slice)) tail
 . exact qaa (Q:=fun _=>False) qad (fun _ h=>h.elim)
theorem qem(hH:qbq C)(x:Value)(y:Nat)(c:BoundsCode):qc C (Instr.sliceBound x y c) (fun _=>True):=by
 unfold Instr.sliceBound;exact qaa (qf4 x) (fun p _=>qah (fun _=>qab trivial) (fun _=>qdm hH _ _ _ _))
theorem qdn(hH:qbq C)(b:Bool)(l c:Nat)(lo hi mx:Option Value):qc C (Instr.sliceBounds b l c lo hi mx) (fun _=>True):=by
 unfold Instr.sliceBounds
 have t3:∀ m h:Nat,qc C (do
     let l <-match lo with
       | some v=>Instr.sliceBound v h (if mx.isSome then .slice3C else .sliceB)
       | none=>pure 0
     pure (l,h,m):Sem (Nat × Nat × Nat)) (fun _=>True):=by
   intro m h;cases lo with
   | some v=>exact qaa (qem hH _ _ _) (fun _ _=>qab trivial)
   | none=>exact qab trivial
 have t2:∀ m:Nat,qc C (do
     let h <-match hi,mx with
       | some v,some _=>Instr.sliceBound v m .slice3B
       | some v,none=>Instr.sliceBound v m (if b then .sliceAcap else .sliceAlen)
       | none,none=>pure l
       | none,some _=>stuck "Slice: max without high"
     let l <-match lo with
       | some v=>Instr.sliceBound v h (if mx.isSome then .slice3C else .sliceB)
       | none=>pure 0
     pure (l,h,m):Sem (Nat × Nat × Nat)) (fun _=>True):=by
   intro m;have:=t3 m;cases hi <;> cases mx <;> dsimp only at this |-
   . exact this l
   . exact qaa (Q:=fun _=>True) qad (fun h _=>this h)
   . exact qaa (qem hH _ _ _) (fun h _=>this h)
   . exact qaa (qem hH _ _ _) (fun h _=>this h)
 cases mx with
 | none=>exact t2 c
 | some v=>exact qaa (qem hH _ _ _) (fun m _=>t2 m)
theorem qwc{a:Option Addr}{n:Nat}(h:∀ x,a=some x->C.A x):∀ x,a.map (·.add n)=some x->C.A x:=by
 intro x e;cases a with
 | none=>cases e
 | some a=>cases e;exact qno (h a rfl) _
theorem qyl(hH:qbq C){t:TypeId}{x:Value}{lo hi mx:Option Value}(hx:Ok C.A C.F x):qc C (Instr.slice t x lo hi mx) (Ok C.A C.F):=by
 unfold Instr.slice;refine qaa (qai t) (fun d _=>?_);split
 . dsimp only;refine qah (fun _=>qaa (Q:=fun _=>True) qad (fun _ _=>qaa (qdn hH _ _ _ _ _ _) (fun _ _=>qab (.string _)))) (fun _=>qaa (qdn hH _ _ _ _ _ _) (fun _ _=>qab (.string _)))
 . rename_i a len cap _;refine qaa (qdn hH _ _ _ _ _ _) (fun r _=>qaa (qa7 _) (fun n _=>qab (.slice _ _ ?_)));have h0:∀ x,a=some x->C.A x:=fun y e=>by subst e;exact hx.of_slice
   split
   . exact h0
   . exact qwc h0
 . refine qaa (qfi hH hx) (fun a ha=>qaa (qai _) (fun d _=>?_));split
   . refine qaa (qdn hH _ _ _ _ _ _) (fun r _=>qaa (qa7 _) (fun n _=>qab (.slice _ _ (fun y e=>?_))));cases e;split
     . exact ha
     . exact qno ha _
   . exact qad
 . exact qad
theorem qt6(hH:qbq C){t:TypeId}{x:Value}{lo hi mx:Option Value}(hx:Ok C.A C.F x):qc C (Instr.sliceAt t x lo hi mx) (Ok C.A C.F):=by
 unfold Instr.sliceAt;refine qaa (qai t) (fun d _=>?_);split
 . refine qaa (qej hx) (fun a ha=>qaa (qdn hH _ _ _ _ _ _) (fun r _=>qaa (qa7 _) (fun n _=>qab (.slice _ _ (fun y e=>?_)))));cases e;split
   . exact ha
   . exact qno ha _
 . exact qyl hH hx
theorem q33{t:TypeId}{v:Value}(h:Ok C.A C.F v):qc C (Instr.box t v) (Ok C.A C.F):=by
 unfold Instr.box;exact qaa (qgv h) (fun a ha=>qab (.ptr ha))
theorem qym{t:TypeId}(hz:qlk C t):qc C (Instr.alloc t true (.tuple #[])) (Ok C.A C.F):=by
 unfold Instr.alloc;refine qaa (qcl hz) (fun z hz=>?_);exact qaa (qgv hz) (fun a ha=>qab (.ptr ha))
theorem qyn{l:List (Value × Nat)}{off:Nat}:∀ {cs:Array Value},qm C cs->(∀ p,p∈l->Ok C.A C.F p.1)->qm C (l.foldl (fun cs (p:Value × Nat)=>cs.setIfInBounds (off+p.2) p.1) cs):=by
 induction l with
 | nil=>intro cs h _;exact h
 | cons p l ih=>
   intro cs h hl;exact ih (h.set (hl p (by simp)) _) (fun q hq=>hl q (by simp [hq]))
theorem qyo{place:Nat->Option (Nat × Nat)}:∀ (l:List (Nat × Value)) (cells out:Array Value),qm C cells->(∀ p,p∈l->Ok C.A C.F p.2)->Instr.fill place cells l=some out->qm C out:=by
 intro l
 induction l with
 | nil=>intro cells out h _ e;cases e;exact h
 | cons p l ih=>
   intro cells out h hl e;obtain⟨i,v⟩:=p;unfold Instr.fill at e;split at e
   . cases e
   . split at e
     . cases e
     . refine ih _ out ?_ (fun q hq=>hl q (by simp [hq])) e;rw [<-Array.foldl_toList];refine qyn h (fun q hq=>?_);have hv:=(hl (i,v) (by simp)).cells;have hq':q∈v.cells.zipIdx:=Array.mem_toList_iff.1 hq;obtain⟨j,hj⟩:=Array.mem_iff_getElem?.1 hq';rw [Array.getElem?_zipIdx] at hj;cases hg:v.cells[j]? with
       | none=>rw [hg] at hj;cases hj
       | some y=>rw [hg] at hj;cases hj;exact hv y (Array.mem_of_getElem? hg)
theorem qqh{f:α->Sem β}(h:∀ x,qc C (f x) (fun _=>True))(xs:Array α):qc C (xs.mapM f) (fun _=>True):=by
 rw [Array.mapM_eq_mapM_toList];refine qqb (Q:=fun _=>True) ?_ (fun _ _=>trivial);generalize xs.toList=l
 induction l with
 | nil=>rw [List.mapM_nil];exact qab trivial
 | cons x l ih=>rw [List.mapM_cons];exact qaa (h x) (fun _ _=>qaa ih (fun _ _=>qab trivial))
theorem qyp{t:TypeId}{parts:Array (Nat × Value)}(hz:qlk C t)(hp:∀ p,p∈parts->Ok C.A C.F p.2):qc C (Instr.build t parts) (Ok C.A C.F):=by
 unfold Instr.build;refine qaa (qcl hz) (fun z hz=>qaa (qai t) (fun d _=>?_));split
 . refine qaa (qqh (fun f=>qaa (qa7 _) (fun _ _=>qab trivial)) _) (fun places _=>?_);split
   . rename_i cells hc;exact qab (.agg (qyo _ _ _ hz.cells (fun p hp'=>hp p (by simpa using hp')) hc))
   . exact qad
 . refine qaa (qa7 _) (fun n _=>?_);split
   . rename_i cells hc;exact qab (.agg (qyo _ _ _ hz.cells (fun p hp'=>hp p (by simpa using hp')) hc))
   . exact qad
 . exact qad
def qgc(C:Pen)(t:TypeId):Prop:=∀ e,C.P.underlying t=some (.slice e)->qlk C e
theorem qqi{zero:Array Value}(h:qm C zero)(hd:Ok C.A C.F default)(n:Nat):qm C ((Array.range n).map (fun i=>zero[i % zero.size]!)):=by
 intro v hv;obtain⟨i,_,rfl⟩:=Array.mem_map.1 hv;by_cases hi:i % zero.size < zero.size
 . rw [getElem!_pos zero _ hi];exact h _ (Array.getElem_mem hi)
 . rw [getElem!_neg zero _ hi];exact hd
theorem qmx{A:Addr->Prop}{F:FuncId->Prop}:Ok A F (default:Value):=.bool _
theorem qof{t:TypeId}{len:Nat}{parts:Array (Nat × Value)}(hz:qgc C t)(hp:∀ p,p∈parts->Ok C.A C.F p.2):qc C (Instr.buildSlice t len parts) (Ok C.A C.F):=by
 unfold Instr.buildSlice;refine qaa (qai t) (fun d hd=>?_);split
 . rename_i elem;refine qaa (qa7 _) (fun size _=>?_)
   have tail:∀ zero:Array Value,qm C zero->qc C (do
       let some cells:=Instr.fill (fun i=>some (i * size,size)) ((Array.range (len * size)).map (zero[· % zero.size]!)) parts.toList
         | stuck "buildSlice: a part of the wrong size"
       pure (.slice (some (<-newRow elem cells)) len len):Sem Value) (Ok C.A C.F):=by
     intro zero h;split
     . rename_i cells hc;refine qaa (jk (qyo _ _ _ (qqi h qmx _) (fun p hp'=>hp p (by simpa using hp')) hc)) (fun a ha=>qab (.slice _ _ (fun x e=>by cases e;exact ha)))
     . exact qad
   dsimp only;refine qah (fun _=>qaa (Q:=fun _=>True) (qaf (by simp)) (fun _ _=>?_)) (fun _=>?_)
   all_goals exact qah (fun _=>qaa (Q:=qm C) (qab .nil) (fun z hz=>tail z hz)) (fun _=>qaa (qcl (hz _ hd)) (fun z hz=>qaa (Q:=qm C) (qab hz.cells) (fun z hz=>tail z hz)))
 . exact qad
end
end
end Go.Proofs.YtacemdoejblgaaaGreatDoor
